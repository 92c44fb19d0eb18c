import Derived.Test.YtpiaiiopakafhaaGreatDoorQ4
namespace Go.Proofs.YtpiaiiopakafhaaGreatDoor
open Go.Ab Go.Tb
set_option maxRecDepth 10000
set_option maxHeartbeats 1000000
attribute [local irreducible] W WO Pu QS QB QL QF QV cz CH QE
variable {l:List UInt8}{i k j a:Nat}{b:UInt8}{p:Int}{w:World}{α:Type}
variable {f:List (Nat×A)}
theorem y7{c}(h:i<=l.length):Bd l i (jF l c i):=by
 have J:=cE l i;have hle:=cA h;unfold jF;split;·
  rename_i q;exact⟨by omega,b8 (by rw[q];decide)⟩
 have I:=jP (c:=c) hle
 cases M:cn l c (bg l i)with
 |no a w=>rw[M]at I;exact⟨B' J I.1,I.2⟩
 |ok u j=>rw[M]at I;exact⟨Nat.lt_of_le_of_lt J I.1,I.2⟩
theorem sT{c w}(h:jF l c i=.no a w):¬bb l (bg l i)=44∧cn l c (bg l i)=.no a w:=by
 unfold jF at h;split at h;·cases h
 rename_i q;refine⟨q,?_⟩
 cases I:cn l c (bg l i)with
 |no a' w'=>rw[I]at h;injection h with h1 h2;rw[h1,h2]
 |ok u j=>rw[I]at h;cases h
theorem pC{c}(h:jF l c i=.ok true j):bb l (bg l i)=44∧j=bg l i+1:=by
 unfold jF at h;split at h;·rename_i q;injection h with _ h2;exact⟨q,h2.symm⟩
 cases I:cn l c (bg l i)with
 |no a' w'=>rw[I]at h;cases h
 |ok u j=>rw[I]at h;cases h
theorem oh{c}(h:jF l c i=.ok false j):¬bb l (bg l i)=44∧cn l c (bg l i)=.ok () j:=by
 unfold jF at h;split at h;·cases h
 rename_i q;refine⟨q,?_⟩
 cases I:cn l c (bg l i)with
 |no a' w'=>rw[I]at h;cases h
 |ok u J=>rw[I]at h;injection h with _ h2;rw[h2]
theorem IA(acc:List JV):(JV.mk 5 0 (B #[]) [] acc).c=[ci 5,ci 0,cs (B #[]),.sl [],.sl (acc.map JV.c)]:=by simp[JV.c,JV.px,JV.op,JV.n,JV.s,JV.keys,JV.kids]
def C7(s:ByteArray)(K:Nat):Prop:=∀k,k<K->∀(level:Int)(i:Nat),1<=level->level<=17->i<=s.size->3*(s.size-i)+1<=k->
 eo Tryz.prog 71 [.ptr 0 0,.d (.v (.int .i64 level))] [gw s i] 0 (jI 128 s (fun v:JV=>.ag v.c) (dA (aX s) k level i))
theorem C3(s:ByteArray)(K)(hs:s.size<=1000000000)(hV:C7 s K)(level i0)(hi:i0<=s.size)(a8:1<=level)(b0:level<=16)(hK:3*(s.size-i0)+3<=K):
 eo Tryz.prog 116 [.ptr 0 0,.d (.v (.int .i64 level))] [gw s i0] 0 (jI 128 s (fun v:JV=>.ag v.c) (ie (aX s) K level i0)):=by
 have hle:bg (aX s) i0<=s.size:=by have:=cA (l:=aX s) (i:=i0) (by rw[bh];exact hi);rwa[bh]at this
 have b2:=cE (aX s) i0;obtain⟨O,rfl⟩:∃O,K=O+1:=⟨K-1,by omega⟩;have U:=tW (aX s) O level i0;generalize hA:ie (aX s) (O+1) level i0=A at U⊢;clear hA;refine eo.dk aW (n:=32) (rs:=[.cell 4 46]) Tryz.func116 (by kernel_rfl) Z Tryz.ntmps116 Tryz.results116 Z (iL ..) fun C hC hG=>ae<|aa<|bT aW Z Z Z<|ab<|qs<|ae<|aa<|pu (build aW Z Z Z Z) Z<|bT aW Z Z Z<|be aW Z Z Z Z Z Z Z Z<|ab<|qs<|ae<|ae<|aa<|pE Z<|bu [0] [] Z Z Z Z Z ((mG s i0 hi hs)) Z Z (by rfl) (by rfl) Z Z Z Z ?_
 refine pE Z (ab (qs (ba Z (fun N=>?_) (fun N=>?_))));·
  rw[if_pos (jK (d:=93) N)]at U;have b3:bg (aX s) i0<s.size:=by have:=b8 (l:=aX s) (i:=bg (aX s) i0) (by rw[jK (d:=93) N];decide);rwa[bh]at this
  refine ae<|aa<|aY 4 Z<|pu (b5 (ev aW Z) (y:=((bg (aX s) i0+1:Nat):Int)) (wrap64 (by omega))) Z<|aY 2 Z<|be aW Z Z Z Z Z Z Z Z<|ab<|qs<|ae<|aa<|aY 1 Z<|be aW Z Z Z Z Z Z Z Z<|ab<|qs ?_;try refine bJ 1 3 Z Z Z ?_
  try refine bJ 1 4 Z Z Z ?_
  refine W.ret<|bl<|eE (cp (U))<|ak aW [] trivial Z Z Z Z ?_ ?_;·exact⟨rfl,trivial⟩
  rfl
 rw[if_neg (kP (d:=93) N)]at U;refine ah<|qs<|ae<|aZ 1 Z<|W.block<|ey 2 4 Z Z Z<|W.bY (ι:={x:Nat×Nat×List JV×Bool//match x with|(k,j,acc,on)=>k<=O∧(on=true->j<=s.size∧acc.length<=j∧3*(s.size-j)+2<=k∧fI (aX s) k level j acc=A)∧(on=false->A=.ok (.mk 5 0 (B #[]) [] acc) j)})
  (fun x=>match x.1 with|(k,j,acc,on)=>[(0,.ptr 0 0),(1,.d (.v (.int .i64 level))),(4,.ptr 1 0),(5,.ptr 2 0),(6,.d (.v (.bool on)))]) []
  (fun x=>match x.1 with|(k,j,acc,on)=>[(0,gw s j),(2,[.d (ci 5),.d (ci 0),.d (cs (B #[])),.d (.v (.slice none 0 0)),.own 3 (acc.map JV.c)])]) [(1,_)] [3] 4 (fun x=>match x.1 with|(k,j,acc,on)=>k)
  [0,1,2,4] ⟨(O,bg (aX s) i0,[],true),?_⟩ Z ?_ trivial ?_ ⟨rfl,rfl,trivial⟩ Z ?_
 ·exact⟨ω _,fun _=>⟨hle,ς _,by omega,U.symm⟩,fun h=>by cases h⟩
 ·repeat' constructor
 ·repeat' constructor
 rintro⟨⟨k,j,acc,on⟩,ch,hT,hF⟩;show W _ _ _ _ _ ⟨[(0,.ptr 0 0),(1,.d (.v (.int .i64 level))),(4,.ptr 1 0),(5,.ptr 2 0),(6,.d (.v (.bool on)))],[(0,gw s j),(2,[.d (ci 5),.d (ci 0),.d (cs (B #[])),.d (.v (.slice none 0 0)),.own 3 (acc.map JV.c)]),(1,_)],[3],4⟩;refine ae<|aZ 1 Z<|ba Z (fun X=>?_)<|fun X=>?_;·
  obtain⟨hj,I,hk,J⟩:=hT X;obtain⟨M,rfl⟩:∃M,k=M+1:=⟨k-1,by omega⟩;rw[rm]at J;have hb:=(mQ (aX s) M).v (level+1) j (by rw[bh];exact hj);refine ah (qs (ae (W.block ?_)))
  cases hc27:dA (aX s) M (level+1) j with
  |no ar a1=>
   refine' W.Hu aW (j0 128 ar a1) [5,6] 7 (by kernel_rfl) (by kernel_rfl) Z Z (fun st=>?hQ_1) ?hL_1;case hQ_1=>
    repeat' first|refine dr ?_|refine iP ?_|refine ma ?_
    refine dQ (b9 (by rw[<-J,hc27]))
   case' hL_1=>skip
   refine' bQ (ev aW Z) ?p_2 Z Z Z (by kernel_rfl) Z ?h_2;case' h_2=>skip
   refine' bQ (ev aW Z) ?p_3 Z Z Z (by kernel_rfl) Z ?h_3;case' h_3=>skip
   refine' bQ (ev aW Z) ?p_4 Z Z Z (by kernel_rfl) Z ?h_4;case' h_4=>skip
   refine' bQ (ev aW Z) ?p_5 Z Z Z (by kernel_rfl) Z ?h_5;case' h_5=>skip
   refine' bQ (b5 (ev aW Z) (y:=level+1) (wrap64 (by omega))) ?p_6 Z Z Z (by kernel_rfl) Z ?h_6;case' h_6=>skip
   refine' LC ?x_7 Z Z Z (by kernel_rfl) Z ?h_7;case x_7=>
    intro b hb g;cases b;·exact bc hb
    exact dI [0] [] Z Z Z Z Z ((hV M (by omega) (level+1) j (by omega) (by omega) hj (by omega)).iM (b9 hc27)) Z Z (by rfl) (fun st'=>⟨_,rfl,rfl⟩)
   case' h_7=>skip
   refine KE 27 Z Z Z Z (by kernel_rfl) Z ?_;case p_2=>refine⟨fun I=>bc I,?_,fun I=>bc I,?_,fun I=>bc I,?_⟩<;>intro I<;>first|exact⟨ev aW Z,fun h=>nomatch h⟩|exact bc I
   case p_3=>refine⟨fun I=>bc I,?_,fun I=>bc I,?_,fun I=>bc I,?_⟩<;>intro I<;>first|exact⟨ev aW Z,fun h=>nomatch h⟩|exact⟨eH aW Z Z Z Z,fun h=>nomatch h⟩|exact⟨eI aW Z Z Z Z Z,fun h=>nomatch h⟩|exact bc I
   case p_4=>refine⟨fun I=>bc I,?_,fun I=>bc I,?_,fun I=>bc I,?_⟩<;>intro I<;>first|exact⟨ev aW Z,fun h=>nomatch h⟩|exact bc I
   case p_5=>refine⟨fun I=>bc I,?_,fun I=>bc I,?_,fun I=>bc I,?_⟩<;>intro I<;>first|exact⟨ev aW Z,fun h=>nomatch h⟩|exact bc I
   case p_6=>refine⟨fun I=>bc I,?_,fun I=>bc I,?_,fun I=>bc I,?_⟩<;>intro I<;>first|exact⟨b5 (ev aW Z) (y:=level+1) (wrap64 (by omega)),fun h=>nomatch h⟩|exact bc I
   refine ax ?_ Z;exact Ga 27 Z
  |ok aj i27=>
   rw[hc27]at J hb;dsimp only at J;have cj:j<i27:=hb.1;have ad:i27<=s.size:=by have:=hb.2;rwa[bh]at this
   have ai:=y7 (l:=aX s) (c:=93) (i:=i27) (by rw[bh];exact ad);apply W.fb aW 7 5;(case hB=>kernel_rfl);(case h1=>rfl);(case h2=>rfl);refine' cd ?p1_9 (ev aW Z) Z Z Z Z Z ?h_9;case' h_9=>skip
   refine' cd ?p1_10 (ev aW Z) Z Z Z Z Z ?h_10;case' h_10=>skip
   refine' eJ (ev aW Z) Z Z Z Z Z ?h_11;case' h_11=>skip
   refine' cd ?p1_12 (ev aW Z) Z Z Z Z Z ?h_12;case' h_12=>skip
   refine' eJ (b5 (ev aW Z) (y:=level+1) (wrap64 (by omega))) Z Z Z Z Z ?h_13;case' h_13=>skip
   refine' qu (fun g=>?e_14) Z Z Z ?h_14;case e_14=>refine bu [0] [] Z Z Z Z Z (((hV M (by omega) (level+1) j (by omega) (by omega) hj (by omega)).ret (cp hc27))) Z Z (by rfl) (by rfl) Z Z Z Z ?_;refine ab ?_;exact⟨rfl,rfl⟩
   case' h_14=>skip
   case p1_9=>exact(ev aW Z)
   case p1_10=>exact(ev aW Z)
   case p1_12=>exact(ev aW Z)
   refine nV (bR aW Z Z Z Z Z Z Z Z Z) Z Z Z Z Z<|au<|dF (fn:=JV.c) (a:=aj) aW Z Z Z Z Z Z Z Z Z Z (fun _=>rfl) (by show(acc.length+1)*80<=_;omega)<|pE Z<|be aW Z Z Z Z Z Z Z Z<|ab<|bW<|qs<|aa<|pE Z ?_
   cases hc21:jF (aX s) 93 i27 with
   |no a21 cl=>
    refine dI [0] [] Z Z Z Z Z ((tH s 93 i27 ad hs).iM (b9 hc21)) Z Z (by rfl) (fun st'=>?_);repeat' first|refine dr ?_|refine iP ?_|refine ma ?_
    refine dQ (b9 (by rw[<-J,if_neg (sT hc21).1,(sT hc21).2]))
   |ok a6 i21=>
    refine bu [0] [] Z Z Z Z Z ((tH s 93 i27 ad hs).ret (cp hc21)) Z Z (by rfl) (by rfl) Z Z Z Z ?_;rw[hc21]at ai;have cq:i27<i21:=ai.1;have a7:i21<=s.size:=by have:=ai.2;rwa[bh]at this
    refine pE Z (ab (W.bZ [0,1,2,5] ⟨(M,i21,acc++[aj],a6),?_⟩ ?_ Z ?_ trivial ?_ ⟨rfl,rfl,trivial⟩ Z));·
     refine⟨by omega,fun h=>?_,fun h=>?_⟩;·
      subst h;rw[if_pos (pC hc21).1,←(pC hc21).2]at J;exact⟨a7,by rw[ν,Φ];omega,by omega,J⟩
     subst h;rw[if_neg (oh hc21).1,(oh hc21).2]at J;exact J.symm
    ·dsimp only;omega
    ·repeat' constructor
    repeat' constructor
 have hx:=hF X;refine an<|bL<|bM<|bK<|qs<|ae<|aa<|aY 1 Z<|be aW Z Z Z Z Z Z Z Z<|ab<|qs ?_;try refine bJ 1 3 Z Z Z ?_
 try refine bJ 1 4 Z Z Z ?_
 refine W.ret<|eE (cp (hx))<|ak aW [] trivial Z Z Z Z ?_ ?_;·exact⟨rfl,trivial⟩
 rw[IA];rfl
theorem I9(keys:List ByteArray)(acc:List JV):(JV.mk 6 0 (B #[]) keys acc).c=[ci 6,ci 0,cs (B #[]),.sl (keys.map sc),.sl (acc.map JV.c)]:=by simp[JV.c,JV.px,JV.op,JV.n,JV.s,JV.keys,JV.kids]
theorem Bn(s:ByteArray)(K)(hs:s.size<=1000000000)(hV:C7 s K)(level i0)(hi:i0<=s.size)(cx:1<=level)(cy:level<=16)(hK:3*(s.size-i0)+3<=K):
 eo Tryz.prog 117 [.ptr 0 0,.d (.v (.int .i64 level))] [gw s i0] 0 (jI 128 s (fun v:JV=>.ag v.c) (ib (aX s) K level i0)):=by
 have hle:bg (aX s) i0<=s.size:=by have:=cA (l:=aX s) (i:=i0) (by rw[bh];exact hi);rwa[bh]at this
 have c1:=cE (aX s) i0;obtain⟨K',rfl⟩:∃K',K=K'+1:=⟨K-1,by omega⟩;have hv:=tR (aX s) K' level i0;generalize hA:ib (aX s) (K'+1) level i0=A at hv⊢;clear hA;refine eo.dk aW (n:=61) (rs:=[.cell 4 46]) Tryz.func117 (by kernel_rfl) Z Tryz.ntmps117 Tryz.results117 Z (iL ..) fun C hC hG=>ae<|aa<|bT aW Z Z Z<|ab<|qs<|ae<|aa<|pu (build aW Z Z Z Z) Z<|bT aW Z Z Z<|be aW Z Z Z Z Z Z Z Z<|ab<|qs<|ae<|ae<|aa<|pE Z<|bu [0] [] Z Z Z Z Z ((mG s i0 hi hs)) Z Z (by rfl) (by rfl) Z Z Z Z ?_
 refine pE Z (ab (qs (ba Z (fun X=>?_) (fun X=>?_))));·
  rw[if_pos (jK (d:=125) X)]at hv;have c6:bg (aX s) i0<s.size:=by have:=b8 (l:=aX s) (i:=bg (aX s) i0) (by rw[jK (d:=125) X];decide);rwa[bh]at this
  refine ae<|aa<|aY 4 Z<|pu (b5 (ev aW Z) (y:=((bg (aX s) i0+1:Nat):Int)) (wrap64 (by omega))) Z<|aY 2 Z<|be aW Z Z Z Z Z Z Z Z<|ab<|qs<|ae<|aa<|aY 1 Z<|be aW Z Z Z Z Z Z Z Z<|ab<|qs ?_;try refine bJ 1 3 Z Z Z ?_
  try refine bJ 1 4 Z Z Z ?_
  refine W.ret<|bl<|eE (cp (hv))<|ak aW [] trivial Z Z Z Z ?_ ?_;·exact⟨rfl,trivial⟩
  rfl
 rw[if_neg (kP (d:=125) X)]at hv;refine ah<|qs<|ae<|aa<|mkMap Z<|pE Z<|ab<|qs<|ae<|aZ 1 Z<|W.block<|ey 2 3 Z Z Z<|ey 2 4 Z Z Z<|W.bY (ι:={x:Nat×Nat×List ByteArray×List JV×Bool//match x with|(k,j,keys,acc,on)=>k<=K'∧keys.Nodup∧(on=true->j<=s.size∧keys.length<=j∧acc.length<=j∧3*(s.size-j)+2<=k∧fJ (aX s) k level j keys acc=A)∧(on=false->A=.ok (.mk 6 0 (B #[]) keys acc) j)})
  (fun x=>match x.1 with|(k,j,keys,acc,on)=>[(0,.ptr 0 0),(1,.d (.v (.int .i64 level))),(4,.ptr 1 0),(5,.ptr 2 0),(6,.mp 3 (gy sk bv (ja keys))),(7,.d (.v (.bool on)))]) []
  (fun x=>match x.1 with|(k,j,keys,acc,on)=>[(0,gw s j),(2,[.d (ci 6),.d (ci 0),.d (cs (B #[])),.own 4 (keys.map sc),.own 5 (acc.map JV.c)])]) [(1,_)] [5,4,3] 6 (fun x=>match x.1 with|(k,j,keys,acc,on)=>k)
  [0,1,2,4,5,6] ⟨(K',bg (aX s) i0,[],[],true),?_⟩ Z ?_ trivial ?_ ⟨rfl,rfl,trivial⟩ Z ?_
 ·exact⟨ω _,List.nodup_nil,fun _=>⟨hle,ς _,ς _,by omega,hv.symm⟩,fun h=>by cases h⟩
 ·repeat' constructor
 ·repeat' constructor
 rintro⟨⟨k,j,keys,acc,on⟩,c7,hn,hT,hF⟩;show W _ _ _ _ _ ⟨[(0,.ptr 0 0),(1,.d (.v (.int .i64 level))),(4,.ptr 1 0),(5,.ptr 2 0),(6,.mp 3 (gy sk bv (ja keys))),(7,.d (.v (.bool on)))],[(0,gw s j),(2,[.d (ci 6),.d (ci 0),.d (cs (B #[])),.own 4 (keys.map sc),.own 5 (acc.map JV.c)]),(1,_)],[5,4,3],6⟩;refine ae<|aZ 1 Z<|ba Z (fun ad=>?_)<|fun ad=>?_;·
  obtain⟨hj,df,I,hk,J⟩:=hT ad;obtain⟨O,rfl⟩:∃O,k=O+1:=⟨k-1,by omega⟩;rw[rl]at J;have U:bg (aX s) j<=s.size:=by have:=cA (l:=aX s) (i:=j) (by rw[bh];exact hj);rwa[bh]at this
  have cj:=cE (aX s) j;have ai:=iC (l:=aX s) (i:=bg (aX s) j) (by rw[bh];exact U);refine ah<|qs<|ae<|W.block<|ae<|aa<|pE Z<|bu [0] [] Z Z Z Z Z ((mG s j hj hs)) Z Z (by rfl) (by rfl) Z Z Z Z<|ab<|qs<|aZ 5 Z<|ae<|aa<|pE Z ?_
  cases hc33:cL (aX s) (bg (aX s) j)with
  |no di dj=>
   refine dI [0] [] Z Z Z Z Z ((rJ s (bg (aX s) j) U hs).iM (b9 hc33)) Z Z (by rfl) (fun st'=>?_);repeat' first|refine dr ?_|refine iP ?_|refine ma ?_
   refine dQ (b9 (by rw[<-J,hc33]))
  |ok M i33=>
   refine bu [0] [] Z Z Z Z Z ((rJ s (bg (aX s) j) U hs).ret (cp hc33)) Z Z (by rfl) (by rfl) Z Z Z Z ?_;rw[hc33]at J ai;dsimp only at J;have dt:bg (aX s) j<i33:=ai.1;have a6:i33<=s.size:=by have:=ai.2;rwa[bh]at this
   have cl:bg (aX s) i33<=s.size:=by have:=cA (l:=aX s) (i:=i33) (by rw[bh];exact a6);rwa[bh]at this
   have cq:=cE (aX s) i33;refine pE Z<|ab<|qs<|ae<|ae<|aa<|aY 2 Z ?_
   refine pu (oV (kf:=sk) (vf:=bv) (l:=ja keys) (a:=bytesOf M) (z:=false) (zx:=.bool false) aW Z Z Z Z Z (vL (aW.kO Z Z)) Z Z Z (fun w pv=>.v _ Z) (by rw[l5];exact hn) (congrArg bv (xu hn (bytesOf M)))) Z<|ab<|qs<|ba Z (fun N=>?_)<|fun N=>?_;·
    rw[if_pos N]at J;refine aa (pE Z (dI [] [] Z Z Z Z Z (et (bg (aX s) j) 4) Z Z (by rfl) (fun st'=>?_)));repeat' first|refine dr ?_|refine iP ?_|refine ma ?_
    exact dQ (b9 J.symm)
   rw[if_neg (by rw[N];decide)]at J;have a8:=vv hn N;refine ah<|qs<|ae<|aa<|aY 2 Z<|wb (kf:=sk) (vf:=bv) (l:=ja keys) (a:=bytesOf M) (y:=true) aW 6 Z Z Z Z Z Z Z (vL (aW.kO Z Z)) Z Z (by rw[l5];exact hn) (congrArg (gy sk bv) (yc N)) Z<|ab<|qs<|ae<|aa<|pE Z<|bu [0] [] Z Z Z Z Z ((mG s i33 a6 hs)) Z Z (by rfl) (by rfl) Z Z Z Z<|ab<|qs<|ae<|aa<|pE Z ?_
   cases hc44:cn (aX s) 58 (bg (aX s) i33)with
   |no dx ed=>
    refine dI [0] [] Z Z Z Z Z ((lT s 58 (bg (aX s) i33) hs).iM (b9 hc44)) Z Z (by rfl) (fun st'=>?_);repeat' first|refine dr ?_|refine iP ?_|refine ma ?_
    refine dQ (b9 (by rw[<-J,hc44]))
   |ok ei i44=>
    refine bu [0] [] Z Z Z Z Z ((lT s 58 (bg (aX s) i33) hs).ret (cp hc44)) Z Z (by rfl) (by rfl) Z Z Z Z ?_;rw[hc44]at J;dsimp only at J;obtain⟨ej,a1⟩:=mB hc44;rw[bh]at a1;have hb:=(mQ (aX s) O).v (level+1) i44 (by rw[bh];omega);refine ab (qs ?_)
    cases hc55:dA (aX s) O (level+1) i44 with
    |no b0 b2=>
     refine' W.Ha aW (j0 128 b0 b2) [11,8,5] 12 _ [4,10,11,12] 14 (by kernel_rfl) (by kernel_rfl) Z Z (fun st=>?hQ_1) ?hL_1;case hQ_1=>
      repeat' first|refine dr ?_|refine iP ?_|refine ma ?_
      refine dQ (b9 (by rw[<-J,hc55]))
     case' hL_1=>skip
     refine' bQ (ev aW Z) ?p_2 Z Z Z (by kernel_rfl) Z ?h_2;case' h_2=>skip
     refine' bQ (ev aW Z) ?p_3 Z Z Z (by kernel_rfl) Z ?h_3;case' h_3=>skip
     refine' bQ (ev aW Z) ?p_4 Z Z Z (by kernel_rfl) Z ?h_4;case' h_4=>skip
     refine' bQ (bR aW Z Z Z Z Z Z Z Z Z) ?p_5 Z Z Z (by kernel_rfl) Z ?h_5;case' h_5=>skip
     refine' AM ?x_6 Z Z Z (by kernel_rfl) (fun h=>bc h) Z ?h_6;case x_6=>
      intro b hb g;cases b;·exact bc hb
      refine dF (fn:=sc) (a:=bytesOf M) aW Z Z Z Z Z Z Z Z Z Z (fun _=>rfl) (by show(keys.length+1)*16<=_;omega)<|ab ?_;refine' w4 Z ?_ ?_ ?_ ?_;all_goals try exact Z
     case' h_6=>skip
     refine' bQ (ev aW Z) ?p_7 Z Z Z (by kernel_rfl) Z ?h_7;case' h_7=>skip
     refine' bQ (ev aW Z) ?p_8 Z Z Z (by kernel_rfl) Z ?h_8;case' h_8=>skip
     refine' bQ (ev aW Z) ?p_9 Z Z Z (by kernel_rfl) Z ?h_9;case' h_9=>skip
     refine' bQ (ev aW Z) ?p_10 Z Z Z (by kernel_rfl) Z ?h_10;case' h_10=>skip
     refine' bQ (b5 (ev aW Z) (y:=level+1) (wrap64 (by omega))) ?p_11 Z Z Z (by kernel_rfl) Z ?h_11;case' h_11=>skip
     refine' LC ?x_12 Z Z Z (by kernel_rfl) Z ?h_12;case x_12=>
      intro b hb g;cases b;·exact bc hb
      exact dI [0] [] Z Z Z Z Z ((hV O (by omega) (level+1) i44 (by omega) (by omega) (by omega) (by omega)).iM (b9 hc55)) Z Z (by rfl) (fun st'=>⟨_,rfl,rfl⟩)
     case' h_12=>skip
     refine KE 55 Z Z Z Z (by kernel_rfl) Z<|KE 56 Z Z Z Z (by kernel_rfl) Z ?_;refine' bQ (ev aW Z) ?p_15 Z Z Z (by kernel_rfl) Z ?h_15;case' h_15=>skip
     case p_2=>refine⟨fun I=>bc I,?_,fun I=>bc I,?_,fun I=>bc I,?_,fun I=>bc I,?_,fun I=>bc I,?_⟩<;>intro I<;>first|exact⟨ev aW Z,fun h=>nomatch h⟩|exact bc I
     case p_3=>refine⟨fun I=>bc I,?_,fun I=>bc I,?_,fun I=>bc I,?_,fun I=>bc I,?_,fun I=>bc I,?_⟩<;>intro I<;>first|exact⟨ev aW Z,fun h=>nomatch h⟩|exact⟨eH aW Z Z Z Z,fun h=>nomatch h⟩|exact⟨eI aW Z Z Z Z Z,fun h=>nomatch h⟩|exact bc I
     case p_4=>refine⟨fun I=>bc I,?_,fun I=>bc I,?_,fun I=>bc I,?_,fun I=>bc I,?_,fun I=>bc I,?_⟩<;>intro I<;>first|exact⟨ev aW Z,fun h=>nomatch h⟩|exact bc I
     case p_5=>refine⟨fun I=>bc I,?_,fun I=>bc I,?_,fun I=>bc I,?_,fun I=>bc I,?_,fun I=>bc I,?_⟩<;>intro I<;>first|exact⟨bR aW Z Z Z Z Z Z Z Z Z,fun h=>nomatch h⟩|exact bc I
     case p_7=>refine⟨fun I=>bc I,?_,fun I=>bc I,?_,fun I=>bc I,?_,fun I=>bc I,?_,fun I=>bc I,?_⟩<;>intro I<;>first|exact⟨ev aW Z,fun h=>nomatch h⟩|exact bc I
     case p_8=>refine⟨fun I=>bc I,?_,fun I=>bc I,?_,fun I=>bc I,?_,fun I=>bc I,?_,fun I=>bc I,?_⟩<;>intro I<;>first|exact⟨ev aW Z,fun h=>nomatch h⟩|exact⟨eH aW Z Z Z Z,fun h=>nomatch h⟩|exact⟨eI aW Z Z Z Z Z,fun h=>nomatch h⟩|exact bc I
     case p_9=>refine⟨fun I=>bc I,?_,fun I=>bc I,?_,fun I=>bc I,?_,fun I=>bc I,?_,fun I=>bc I,?_⟩<;>intro I<;>first|exact⟨ev aW Z,fun h=>nomatch h⟩|exact bc I
     case p_10=>refine⟨fun I=>bc I,?_,fun I=>bc I,?_,fun I=>bc I,?_,fun I=>bc I,?_,fun I=>bc I,?_⟩<;>intro I<;>first|exact⟨ev aW Z,fun h=>nomatch h⟩|exact bc I
     case p_11=>refine⟨fun I=>bc I,?_,fun I=>bc I,?_,fun I=>bc I,?_,fun I=>bc I,?_,fun I=>bc I,?_⟩<;>intro I<;>first|exact⟨b5 (ev aW Z) (y:=level+1) (wrap64 (by omega)),fun h=>nomatch h⟩|exact bc I
     case p_15=>refine⟨fun I=>bc I,?_,fun I=>bc I,?_,fun I=>bc I,?_,fun I=>bc I,?_,fun I=>bc I,?_⟩<;>intro I<;>first|exact⟨ev aW Z,fun h=>nomatch h⟩|exact bc I
     refine ax ?_ Z;exact Ga 55 Z
    |ok a7 i55=>
     rw[hc55]at J hb;dsimp only at J;have en:i44<i55:=hb.1;have aj:i55<=s.size:=by have:=hb.2;rwa[bh]at this
     have ar:=y7 (l:=aX s) (c:=125) (i:=i55) (by rw[bh];exact aj);refine' W.uQ aW (fun bx=>[bx,(0,gw s i55)::bx,(0,gw s i55)::bx]) [[11,8,5],[11,8,5],[13,11,8]] [12,13,14] [4,10,12] 14 (by kernel_rfl) (by kernel_rfl) Z Z ?hL_16;case' hL_16=>skip
     refine' bQ (ev aW Z) ?p_17 Z Z Z (by kernel_rfl) Z ?h_17;case' h_17=>skip
     refine' bQ (ev aW Z) ?p_18 Z Z Z (by kernel_rfl) Z ?h_18;case' h_18=>skip
     refine' bQ (ev aW Z) ?p_19 Z Z Z (by kernel_rfl) Z ?h_19;case' h_19=>skip
     refine' bQ (bR aW Z Z Z Z Z Z Z Z Z) ?p_20 Z Z Z (by kernel_rfl) Z ?h_20;case' h_20=>skip
     refine' AM ?x_21 Z Z Z (by kernel_rfl) (fun h=>bc h) Z ?h_21;case x_21=>
      intro b hb g;cases b;·exact bc hb
      refine dF (fn:=sc) (a:=bytesOf M) aW Z Z Z Z Z Z Z Z Z Z (fun _=>rfl) (by show(keys.length+1)*16<=_;omega)<|ab ?_;refine' w4 Z ?_ ?_ ?_ ?_;all_goals try exact Z
     case' h_21=>skip
     refine' bQ (ev aW Z) ?p_22 Z Z Z (by kernel_rfl) Z ?h_22;case' h_22=>skip
     refine' bQ (ev aW Z) ?p_23 Z Z Z (by kernel_rfl) Z ?h_23;case' h_23=>skip
     refine' bQ (ev aW Z) ?p_24 Z Z Z (by kernel_rfl) Z ?h_24;case' h_24=>skip
     refine' bQ (ev aW Z) ?p_25 Z Z Z (by kernel_rfl) Z ?h_25;case' h_25=>skip
     refine' bQ (b5 (ev aW Z) (y:=level+1) (wrap64 (by omega))) ?p_26 Z Z Z (by kernel_rfl) Z ?h_26;case' h_26=>skip
     refine' AM ?x_27 Z Z Z (by kernel_rfl) (fun h=>bc h) Z ?h_27;case x_27=>
      intro b hb g;cases b;·exact bc hb
      refine bu [0] [] Z Z Z Z Z (((hV O (by omega) (level+1) i44 (by omega) (by omega) (by omega) (by omega)).ret (cp hc55))) Z Z (by rfl) (by rfl) Z Z Z Z<|ab ?_;refine' w4 Z ?_ ?_ ?_ ?_;all_goals try exact Z
     case' h_27=>skip
     refine' bQ (bR aW Z Z Z Z Z Z Z Z Z) ?p_28 Z Z Z (by kernel_rfl) Z ?h_28;case' h_28=>skip
     refine' AM ?x_29 Z Z Z (by kernel_rfl) (fun h=>bc h) Z ?h_29;case x_29=>
      intro b hb g;cases b;·exact bc hb
      refine dF (fn:=JV.c) (a:=a7) aW Z Z Z Z Z Z Z Z Z Z (fun _=>rfl) (by show(acc.length+1)*80<=_;omega)<|ab ?_;refine' w4 Z ?_ ?_ ?_ ?_;all_goals try exact Z
     case' h_29=>skip
     case p_17=>refine⟨fun I=>bc I,?_,fun I=>bc I,?_,fun I=>bc I,?_,fun I=>bc I,?_⟩<;>intro I<;>first|exact⟨ev aW Z,fun h=>nomatch h⟩|exact bc I
     case p_18=>refine⟨fun I=>bc I,?_,fun I=>bc I,?_,fun I=>bc I,?_,fun I=>bc I,?_⟩<;>intro I<;>first|exact⟨ev aW Z,fun h=>nomatch h⟩|exact⟨eH aW Z Z Z Z,fun h=>nomatch h⟩|exact⟨eI aW Z Z Z Z Z,fun h=>nomatch h⟩|exact bc I
     case p_19=>refine⟨fun I=>bc I,?_,fun I=>bc I,?_,fun I=>bc I,?_,fun I=>bc I,?_⟩<;>intro I<;>first|exact⟨ev aW Z,fun h=>nomatch h⟩|exact bc I
     case p_20=>refine⟨fun I=>bc I,?_,fun I=>bc I,?_,fun I=>bc I,?_,fun I=>bc I,?_⟩<;>intro I<;>first|exact⟨bR aW Z Z Z Z Z Z Z Z Z,fun h=>nomatch h⟩|exact bc I
     case p_22=>refine⟨fun I=>bc I,?_,fun I=>bc I,?_,fun I=>bc I,?_,fun I=>bc I,?_⟩<;>intro I<;>first|exact⟨ev aW Z,fun h=>nomatch h⟩|exact bc I
     case p_23=>refine⟨fun I=>bc I,?_,fun I=>bc I,?_,fun I=>bc I,?_,fun I=>bc I,?_⟩<;>intro I<;>first|exact⟨ev aW Z,fun h=>nomatch h⟩|exact⟨eH aW Z Z Z Z,fun h=>nomatch h⟩|exact⟨eI aW Z Z Z Z Z,fun h=>nomatch h⟩|exact bc I
     case p_24=>refine⟨fun I=>bc I,?_,fun I=>bc I,?_,fun I=>bc I,?_,fun I=>bc I,?_⟩<;>intro I<;>first|exact⟨ev aW Z,fun h=>nomatch h⟩|exact bc I
     case p_25=>refine⟨fun I=>bc I,?_,fun I=>bc I,?_,fun I=>bc I,?_,fun I=>bc I,?_⟩<;>intro I<;>first|exact⟨ev aW Z,fun h=>nomatch h⟩|exact bc I
     case p_26=>refine⟨fun I=>bc I,?_,fun I=>bc I,?_,fun I=>bc I,?_,fun I=>bc I,?_⟩<;>intro I<;>first|exact⟨b5 (ev aW Z) (y:=level+1) (wrap64 (by omega)),fun h=>nomatch h⟩|exact bc I
     case p_28=>refine⟨fun I=>bc I,?_,fun I=>bc I,?_,fun I=>bc I,?_,fun I=>bc I,?_⟩<;>intro I<;>first|exact⟨bR aW Z Z Z Z Z Z Z Z Z,fun h=>nomatch h⟩|exact bc I
     refine' bQ (ev aW Z) ?p_30 Z Z Z (by kernel_rfl) Z ?h_30;case' h_30=>skip
     case p_30=>refine⟨fun I=>bc I,?_,fun I=>bc I,?_,fun I=>bc I,?_,fun I=>bc I,?_⟩<;>intro I<;>first|exact⟨ev aW Z,fun h=>nomatch h⟩|exact bc I
     refine ax ?_ Z;refine be aW Z Z Z Z Z Z Z Z (pE Z (be aW Z Z Z Z Z Z Z Z (ab (bW (qs (aa (pE Z ?_)))))))
     cases hc25:jF (aX s) 125 i55 with
     |no er e0=>
      refine dI [0] [] Z Z Z Z Z ((tH s 125 i55 aj hs).iM (b9 hc25)) Z Z (by rfl) (fun st'=>?_);repeat' first|refine dr ?_|refine iP ?_|refine ma ?_
      refine dQ (b9 (by rw[<-J,if_neg (sT hc25).1,(sT hc25).2]))
     |ok b3 i25=>
      refine bu [0] [] Z Z Z Z Z ((tH s 125 i55 aj hs).ret (cp hc25)) Z Z (by rfl) (by rfl) Z Z Z Z ?_;rw[hc25]at ar;have e1:i55<i25:=ar.1;have ch:i25<=s.size:=by have:=ar.2;rwa[bh]at this
      refine pE Z (ab (W.bZ [0,1,2,8,11,13] ⟨(O,i25,keys++[bytesOf M],acc++[a7],b3),?_⟩ ?_ Z ?_ trivial ?_ ⟨rfl,rfl,trivial⟩ Z));·
       refine⟨by omega,a8,fun h=>?_,fun h=>?_⟩;·
        subst h;rw[if_pos (pC hc25).1,←(pC hc25).2]at J;exact⟨ch,by rw[ν,Φ];omega,by rw[ν,Φ];omega,by omega,J⟩
       subst h;rw[if_neg (oh hc25).1,(oh hc25).2]at J;exact J.symm
      ·dsimp only;omega
      ·repeat' constructor
      repeat' constructor
 have hx:=hF ad;refine an<|bL<|bM<|bK<|qs<|ae<|aa<|aY 1 Z<|be aW Z Z Z Z Z Z Z Z<|ab<|qs ?_;try refine bJ 1 3 Z Z Z ?_
 try refine bJ 1 4 Z Z Z ?_
 refine W.ret<|eE (cp (hx))<|ak aW [] trivial Z Z Z Z ?_ ?_;·exact⟨rfl,trivial⟩
 rw[I9];rfl
theorem xI(s:ByteArray)(hs:s.size<=1000000000):∀K,C7 s K
 |0=>fun k N=>by omega
 |K+1=>fun k N level i J O hi X=>by obtain⟨I,rfl⟩:∃I,k=I+1:=⟨k-1,by omega⟩;have M:C7 s I:=fun k U=>xI s hs K k (by omega);exact C4 s I hs level i hi (fun j h1 h2 h3=>C3 s I hs M level j h2 J h3 (by omega)) (fun j h1 h2 h3=>Bn s I hs M level j h2 J h3 (by omega))
theorem zg(s:ByteArray)(hs:s.size<=1000000000):eo Tryz.prog 71 [.ptr 0 0,.d (.v (.int .i64 1))] [gw s 0] 0 (jI 128 s (fun v:JV=>.ag v.c) (dA (aX s) (3*(aX s).length+1) 1 0)):=
 xI s hs (3*(aX s).length+2) _ (Nat.lt_succ_self _) 1 0 (by decide) (by decide) (ς _) (by rw[bh];omega)
abbrev zc:List A:=[.d (ci 0),.d (ci 0),.d (cs (B #[])),.d (.sl []),.d (.sl [])]
theorem Ce{C:Ctx}{n bx gen G tmps I b1 J N}(O:C.bx=[I,b1,J])(hs:bq C n ⟨f,bx,[],gen⟩ G tmps w){X}(U:dn X=true)(hk:k=22):
 bq {C with bx:=[I,b1,J],ds:=N} 22 ⟨[(3,.d (.v X)),(0,.ptr 0 0),(1,.ptr 1 0),(2,.ptr 2 0)],bx,[],gen⟩ G (((#[pp I,pp b1,pp J]++Array.replicate (k-#[pp I,pp b1,pp J].size) undef).setIfInBounds 6 X).setIfInBounds 3 X) w:=by
 subst hk;have h5:=hs.AA (bs:=[I,b1,J]) (ds:=N) (fun i b hb=>hs.lent i b (by rw[O];exact hb));have hl:∀(i b:Nat),[I,b1,J][i]?=some b->i<gen∧G.box i=some b:=fun i b hb=>by have:=hs.lent i b (by rw[O];exact hb);exact⟨(hs.gbox i b this).1,this⟩
 have t3:(((#[pp I,pp b1,pp J]++Array.replicate (22-#[pp I,pp b1,pp J].size) undef).setIfInBounds 6 X).setIfInBounds 3 X)[3]?=some X:=by simp[Array.getElem?_setIfInBounds]
 have t0:(((#[pp I,pp b1,pp J]++Array.replicate (22-#[pp I,pp b1,pp J].size) undef).setIfInBounds 6 X).setIfInBounds 3 X)[0]?=some (pp I):=by simp[Array.getElem?_setIfInBounds]
 have t1:(((#[pp I,pp b1,pp J]++Array.replicate (22-#[pp I,pp b1,pp J].size) undef).setIfInBounds 6 X).setIfInBounds 3 X)[1]?=some (pp b1):=by simp[Array.getElem?_setIfInBounds]
 have t2:(((#[pp I,pp b1,pp J]++Array.replicate (22-#[pp I,pp b1,pp J].size) undef).setIfInBounds 6 X).setIfInBounds 3 X)[2]?=some (pp J):=by simp[Array.getElem?_setIfInBounds]
 have ts:(((#[pp I,pp b1,pp J]++Array.replicate (22-#[pp I,pp b1,pp J].size) undef).setIfInBounds 6 X).setIfInBounds 3 X).size=22:=by simp
 generalize(((#[pp I,pp b1,pp J]++Array.replicate (22-#[pp I,pp b1,pp J].size) undef).setIfInBounds 6 X).setIfInBounds 3 X)=tm at t3 t0 t1 t2 ts⊢;exact{h5 with
  size:=ts
  frame:=fun t a M=>by
   have M:Go.Ab.look [(3,A.d (.v X)),(0,.ptr 0 0),(1,.ptr 1 0),(2,.ptr 2 0)] t=some a:=M;rw[cv,cv,cv,cv]at M;split at M;·
    rename_i e;cases M;subst e;exact⟨X,t3,.d (.v X U)⟩
   split at M;·
    rename_i e;cases M;subst e;exact⟨pp I,t0,.ptr _ _ _ I (hl 0 I Z).1 (hl 0 I Z).2 Z⟩
   split at M;·
    rename_i e;cases M;subst e;exact⟨pp b1,t1,.ptr _ _ _ b1 (hl 1 b1 Z).1 (hl 1 b1 Z).2 Z⟩
   split at M;·
    rename_i e;cases M;subst e;exact⟨pp J,t2,.ptr _ _ _ J (hl 2 J Z).1 (hl 2 J Z).2 Z⟩
   cases M}
theorem Iy{C:Ctx}(hG:GC Tryz.prog C){n bx gen G tmps I b1 J}(ad:C.bx=[I,b1,J])(hs:bq C n ⟨f,bx,[],gen⟩ G tmps w):
 CallsD Tryz.prog 70 #[pp I,pp b1,pp J] .returning w fun e u' w'=>∃v M,e=.returned v∧u'=.returning∧bq {C with bx:=[I,b1,J],ds:=[]} 0 ⟨[],bx,[],gen⟩ M #[] w':=by
 refine callsD_of_wpS Tryz.func70 Z<|fun c0 ai hu=>wpS_seq<|wpS_region<|sM (d:=6) Z Z Z Z ?_;have N:recoverD (c0::ai)=none:=by cases c0 with|mk a b c d e f g=>subst hu;rfl
 rw[N];refine xM (d:=3) (d0:=6) (v:=.nilIface) Z Z Z Z (by rw[Array.getElem?_setIfInBounds_self,if_pos (by rw[Array.size_append,Array.size_replicate,Tryz.ntmps70];show 6<3+(22-3);omega)]) (Au ?_);refine wpS_of_wp ?_;haveI:NB {C with bx:=[I,b1,J],ds:=[]} 3:=⟨rfl⟩;haveI:GC Tryz.prog {C with bx:=[I,b1,J],ds:=[]}:=hG.AA;refine wL (C:={C with bx:=[I,b1,J],ds:=[]}) (n:=22) (st:=⟨[(3,.d (.v .nilIface)),(0,.ptr 0 0),(1,.ptr 1 0),(2,.ptr 2 0)],bx,[],gen⟩) (Q:=fun e st=>e=.normal∧st.bx=bx∧st.gen=gen∧st.lv=[]) ⟨G,Ce ad hs Z Tryz.ntmps70⟩ ?hW ?hB;case hW=>refine ae (aa (pE Z (pu (JF Z (by kernel_rfl)) Z ?_)));refine ab (qs (W.oa Z (ah ?_)));exact⟨rfl,rfl,rfl,rfl⟩
 case hB=>rintro e ⟨t,df⟩ w' ⟨hd,⟨f',bx',lv',gen'⟩,⟨M,aj⟩,he,O,U,X⟩;have O:bx'=bx:=O;have U:gen'=gen:=U;have X:lv'=[]:=X;subst he;subst O;subst U;subst X;refine⟨hd,.returning,by rw[<-hu],_,js (rs:=[]) Tryz.results70 (vs:=[]) Z,_,M,rfl,rfl,?_⟩;exact{aj with size:=rfl,frame:=fun t a ha=>by cases ha}
theorem Iw{C:Ctx}(hG:GC Tryz.prog C){n bx gen G tmps O b1 U e}(hl:dn (.int .i64 (a:Int))=true∧dn (.int .i64 e)=true)(ai:C.bx=[O,b1,U])(hs:bq C n ⟨f,bx,[],gen⟩ G tmps w){x0 x1 x2 x3 x4 y0 z0}(h0:bk bx 0=some [x0,x1,x2,x3,x4])(h1:bk bx 1=some [y0])(h2:bk bx 2=some [z0]):
 CallsD Tryz.prog 70 #[pp O,pp b1,pp U] (.panicking [{v:=j0 128 a e,recovered:=false}]) w fun r u' w'=>∃v G' bx' gen',r=.returned v∧u'=.panicking [{v:=j0 128 a e,recovered:=true}]∧bk bx' 0=some zc∧bk bx' 1=some [.d (ci a)]∧bk bx' 2=some [.d (ci e)]∧bq {C with bx:=[O,b1,U],ds:=[]} 0 ⟨[],bx',[],gen'⟩ G' #[] w':=by
 refine callsD_of_wpS Tryz.func70 Z<|fun c0 aj hu=>wpS_seq<|wpS_region<|sM (d:=6) Z Z Z Z ?_;have ar:recoverD (c0::aj)=some (j0 128 a e,{c0 with mode:=.panicking [{v:=j0 128 a e,recovered:=true}]}::aj):=by cases c0 with|mk a b c d e f g=>subst hu;rfl
 rw[ar];refine xM (d:=3) (d0:=6) (v:=j0 128 a e) Z Z Z Z (by rw[Array.getElem?_setIfInBounds_self,if_pos (by rw[Array.size_append,Array.size_replicate,Tryz.ntmps70];show 6<3+(22-3);omega)]) (Au ?_);refine wpS_of_wp ?_;haveI:NB {C with bx:=[O,b1,U],ds:=[]} 3:=⟨rfl⟩;haveI:GC Tryz.prog {C with bx:=[O,b1,U],ds:=[]}:=hG.AA;have X:bq C n ⟨[],[(0,[.any,.any,.any,.any,.any]),(1,[.any]),(2,[.any])],[],3⟩ ⟨fun g=>if g<3 then G.box g else none,fun _=>none⟩ tmps w:=by
  have J:∀g b,(if g<3 then G.box g else none)=some b->g<3∧G.box g=some b:=fun g b h=>by
   split at h;·rename_i q;exact⟨q,h⟩
   cases h
  have hb:∀(g:Nat)(cells cells':List A),g<3->bk bx g=some cells->cells'.length=cells.length->(∀(i:Nat)(a:A),cells'[i]?=some a->a=.any)->∃b cs T,(if g<3 then G.box g else none)=some b∧w.heap[b]?=some (.cells cs T (0,0))∧cs.size=cells'.length∧
   (∀(i:Nat)(u:Value),cs[i]?=some u->u.oneCell'=true)∧∀(i:Nat)(u:Value)(a:A),cs[i]?=some u->cells'[i]?=some a->bG (br C ⟨fun g=>if g<3 then G.box g else none,fun _=>none⟩ 3 w) u a:=fun g cells cells' hg M hlen a1=>by
   obtain⟨b,cs,T,q1,q2,q3,q4,_⟩:=hs.box g cells M;exact⟨b,cs,T,by rw[if_pos hg];exact q1,q2,by rw[q3,hlen],q4,fun i u a _ I=>by rw[a1 i a I];exact .any _⟩
  have a6:∀(g:Nat)(cells:List A),Go.Ab.bk [(0,[A.any,A.any,A.any,A.any,A.any]),(1,[A.any]),(2,[A.any])] g=some cells->∃b cs T,(if g<3 then G.box g else none)=some b∧w.heap[b]?=some (.cells cs T (0,0))∧cs.size=cells.length∧(∀(i:Nat)(u:Value),cs[i]?=some u->u.oneCell'=true)∧∀(i:Nat)(u:Value)(a:A),cs[i]?=some u->cells[i]?=some a->bG (br C ⟨fun g=>if g<3 then G.box g else none,fun _=>none⟩ 3 w) u a:=by
   intro g cells M
   match g,M with
   |0,M=>cases M;exact hb 0 _ _ (by decide) h0 Z (fun i a h=>by have:=ζ h;simpa using this)
   |1,M=>cases M;exact hb 1 _ _ (by decide) h1 Z (fun i a h=>by have:=ζ h;simpa using this)
   |2,M=>cases M;exact hb 2 _ _ (by decide) h2 Z (fun i a h=>by have:=ζ h;simpa using this)
   |g+3,M=>cases M
  have ad:∀(i b:Nat),C.bx[i]?=some b->(if i<3 then G.box i else none)=some b:=by
   intro i b h;have hi:i<3:=by rw[ai]at h;have:=(δ.1 h).1;simpa using this
   rw[if_pos hi];exact hs.lent i b h
  exact{size:=hs.size,frame:=fun t a I=>(by cases I),box:=a6,gbox:=fun g b h=>⟨(J g b h).1,(hs.gbox g b (J g b h).2).2⟩,inj:=fun g g' b h h'=>hs.inj g g' b (J g b h).2 (J g' b h').2,live:=fun g hg=>(by cases hg),gown:=fun g r N=>(by cases N),row:=fun g b len cap sz a7 N=>(by cases N),mrow:=fun g b bs N=>(by cases N),gcell:=fun g b h=>hs.gcell g b (J g b h).2,sub:=fun g b bs c lim N=>(by cases N),xold:=hs.xold,kold:=hs.kold,lent:=ad,fr:=hs.fr}
 refine wL (C:={C with bx:=[O,b1,U],ds:=[]}) (n:=22) (st:=⟨[(3,.d (.v (j0 128 a e))),(0,.ptr 0 0),(1,.ptr 1 0),(2,.ptr 2 0)],[(0,[.any,.any,.any,.any,.any]),(1,[.any]),(2,[.any])],[],3⟩) (Q:=fun r st=>r=.normal∧st.lv=[]∧bk st.bx 0=some zc∧bk st.bx 1=some [.d (ci a)]∧bk st.bx 2=some [.d (ci e)]) ⟨_,Ce ai X Z Tryz.ntmps70⟩ ?hW ?hB;case hW=>
  refine ae<|aa<|pE Z<|pu (Lc Z (by kernel_rfl)) Z<|ab<|qs<|W.gJ Z<|ae<|aa<|pE Z<|pu (Fo (l:=[.int .i64 (a:Int),.int .i64 e]) aW Z Z (fun v hv=>by rcases List.mem_cons.1 hv with rfl|hv;exact hl.1;rcases List.mem_cons.1 hv with rfl|hv;exact hl.2;cases hv) Z) Z<|aY 3 Z<|bT aW Z Z Z<|be aW Z Z Z Z Z Z Z Z<|pE Z<|ab<|qs<|ae<|aZ 2 Z<|W.oa Z<|ah<|qs ?_;refine' W.uQ aW (fun bx=>[(0,zc)::bx,(1,[.d (ci a)])::(0,zc)::bx]) [[],[]] [4,4] [5,6] 7 (by kernel_rfl) (by kernel_rfl) Z Z ?hL_9;case' hL_9=>skip
  refine' bQ (Pu.oD (build aW Z Z Z Z) Z) ?p_10 Z Z Z (by kernel_rfl) Z ?h_10;case' h_10=>skip
  refine' bQ (ev aW Z) ?p_11 Z Z Z (by kernel_rfl) Z ?h_11;case' h_11=>skip
  refine' bQ (ev aW Z) ?p_12 Z Z Z (by kernel_rfl) Z ?h_12;case' h_12=>skip
  refine' bQ (ev aW Z) ?p_13 Z Z Z (by kernel_rfl) Z ?h_13;case' h_13=>skip
  refine' bQ (ev aW Z) ?p_14 Z Z Z (by kernel_rfl) Z ?h_14;case' h_14=>skip
  refine' Kt ?x_15 Z Z Z (by kernel_rfl) ?h_15;case x_15=>
   intro b hb g;cases b;·exact bc hb
   refine be aW Z Z Z Z Z Z Z Z (ab ?_);refine' JW Z ?_ ?_ ?_;all_goals try exact Z
  case' h_15=>skip
  refine' Kt ?x_16 Z Z Z (by kernel_rfl) ?h_16;case x_16=>
   intro b hb g;cases b;·exact bc hb
   refine be aW Z Z Z Z Z Z Z Z (ab ?_);refine' JW Z ?_ ?_ ?_;all_goals try exact Z
  case' h_16=>skip
  case p_10=>refine⟨fun I=>bc I,?_,fun I=>bc I,?_,fun I=>bc I,?_⟩<;>intro I<;>first|exact⟨Pu.oD (build aW Z Z Z Z) Z,fun h=>nomatch h⟩|exact bc I
  case p_11=>refine⟨fun I=>bc I,?_,fun I=>bc I,?_,fun I=>bc I,?_⟩<;>intro I<;>first|exact⟨ev aW Z,fun h=>nomatch h⟩|exact bc I
  case p_12=>refine⟨fun I=>bc I,?_,fun I=>bc I,?_,fun I=>bc I,?_⟩<;>intro I<;>first|exact⟨ev aW Z,fun h=>nomatch h⟩|exact⟨eH aW Z Z Z Z,fun h=>nomatch h⟩|exact⟨eI aW Z Z Z Z Z,fun h=>nomatch h⟩|exact bc I
  case p_13=>refine⟨fun I=>bc I,?_,fun I=>bc I,?_,fun I=>bc I,?_⟩<;>intro I<;>first|exact⟨ev aW Z,fun h=>nomatch h⟩|exact bc I
  case p_14=>refine⟨fun I=>bc I,?_,fun I=>bc I,?_,fun I=>bc I,?_⟩<;>intro I<;>first|exact⟨ev aW Z,fun h=>nomatch h⟩|exact⟨eH aW Z Z Z Z,fun h=>nomatch h⟩|exact⟨eI aW Z Z Z Z Z,fun h=>nomatch h⟩|exact bc I
  refine ax ?_ Z;refine be aW Z Z Z Z Z Z Z Z (ab ?_);exact⟨rfl,rfl,rfl,rfl,rfl⟩
 case hB=>rintro r ⟨t,df⟩ w' ⟨hd,⟨f',bx',lv',gen'⟩,⟨G',X⟩,he,e3,q0,q1,q2⟩;have e3:lv'=[]:=e3;subst he;subst e3;refine⟨hd,_,rfl,_,js (rs:=[]) Tryz.results70 (vs:=[]) Z,_,G',bx',gen',rfl,rfl,q0,q1,q2,?_⟩;exact{X with size:=rfl,frame:=fun t a I=>by cases I}
def qz(s:ByteArray):A:=if 65536<s.size then .tup [.ag cR.c,.d (ci 0),.d (ci 7)]else match eb (aX s)with
 |.ok v _=>.tup [.ag v.c,.d (ci 0),.d (ci 0)]
 |.no a w=>.tup [.ag cR.c,.d (ci a),.d (ci w)]
def PQ(x:PE JV):Exit->St->Prop:=fun e st=>(match x with
 |.ok v _=>e=.ret∧bk st.bx 0=some (v.c.map .d)∧bk st.bx 1=some [.d (ci 0)]∧bk st.bx 2=some [.d (ci 0)]
 |.no a w=>e=hU (j0 128 a w)∧∃x0 I J x3 M N z0,bk st.bx 0=some [x0,I,J,x3,M]∧bk st.bx 1=some [N]∧bk st.bx 2=some [z0])∧
 Go.Ab.look st.f 2=some (A.ptr 0 0)∧Go.Ab.look st.f 3=some (A.ptr 1 0)∧Go.Ab.look st.f 4=some (A.ptr 2 0)
theorem JR{C n bx lv gen G tmps c0 J c2}(hs:bq C n ⟨f,bx,lv,gen⟩ G tmps w)(h0:bk bx 0=some c0)(h1:bk bx 1=some J)(h2:bk bx 2=some c2):bq C n ⟨f,[(0,c0),(1,J),(2,c2)],lv,gen⟩ G tmps w:=by
 refine{hs with box:=fun g cells I=>?_};have I:Go.Ab.bk [(0,c0),(1,J),(2,c2)] g=some cells:=I
 match g,I with
 |0,I=>cases I;exact hs.box 0 _ h0
 |1,I=>cases I;exact hs.box 1 _ h1
 |2,I=>cases I;exact hs.box 2 _ h2
 |g+3,I=>cases I
theorem LL:lx Tryz.prog 70:=⟨_,Tryz.func70,by kernel_rfl,rfl⟩
theorem H3(M b1 N w):(invoke (.fn (.func 70) #[pp M,pp b1,pp N]) #[]).run Tryz.prog w=.ok (.enter 70 #[pp M,pp b1,pp N]) w:=by obtain⟨fn,O,I,J⟩:=LL;simp only[invoke,callFunc,Sem.run_bind,Sem.run_pure,Result.andThen_ok,run_program,O,I,J,N',if_false,Array.empty_append]
theorem Hm(s):bp Tryz.prog 23 [.d (.v (.string s))] (qz s) 0:=by
 refine bp.Lj (n:=34) Tryz.func23 (by kernel_rfl) Z Tryz.ntmps23 Z fun C hC hG O U=>aO<|aa<|bT aW Z Z Z<|bT aW Z Z Z<|bT aW Z Z Z<|ab<|aO ?_
 refine aZ 3 Z<|ba Z (fun h8=>?_)<|fun h8=>?_;·
  refine ae<|aa<|pu (build aW Z Z Z Z) Z<|gx 9 Z Z Z<|be aW Z Z Z Z Z Z Z Z<|be aW Z Z Z Z Z Z Z Z<|be aW Z Z Z Z Z Z Z Z<|ab<|qs<|W.ret ?_
  intro tmps w ⟨G,hs⟩;have hg:qz s=.tup [.ag cR.c,.d (ci 0),.d (ci 7)]:=by unfold qz;rw[if_pos (by simp at h8;omega)]
  show Leaves _ _ tmps _ C.ds .returning w;rw[U,hg];exact He aW (rs:=[.cell 2 46,.cell 3 3,.cell 4 31]) hs O Tryz.results23 Z Z
 have a8:¬65536<s.size:=by simp at h8;omega
 have X:s.size<=1000000000:=by omega
 have b3:qz s=match eb (aX s)with|.ok v _=>.tup [.ag v.c,.d (ci 0),.d (ci 0)]|.no a w=>.tup [.ag cR.c,.d (ci a),.d (ci w)]:=by unfold qz;rw[if_neg a8]
 refine ah<|W'.Fx<|sI.pu Z Z (ev aW Z)<|sI.F5 Z<|fun I b1 J tmps w G hs e0 e1 e2=>?_;have c1:NB {C with bx:=[I,b1,J],ds:=uy 70 I b1 J::C.ds} 3:=⟨rfl⟩;have a6:GC Tryz.prog {C with bx:=[I,b1,J],ds:=uy 70 I b1 J::C.ds}:=hG.AA;refine wL (C:={C with bx:=[I,b1,J],ds:=uy 70 I b1 J::C.ds}) (n:=34) (Q:=PQ (eb (aX s))) ⟨G,hs.AA (fun i b hb=>?hl)⟩ ?hW ?hB;case hl=>
  match i,hb with
  |0,hb=>cases hb;exact e0
  |1,hb=>cases hb;exact e1
  |2,hb=>cases hb;exact e2
  |i+3,hb=>cases hb
 case hW=>
  refine ae<|aa<|pE Z<|pu (build aW Z Z Z Z) Z<|cG Z Z Z<|pE Z<|ab<|qs<|ae<|aa<|pE Z ?_
  cases hc15:dA (aX s) (3*(aX s).length+1) 1 0 with
  |no ch cj=>
   have hp:eb (aX s)=.no ch cj:=by unfold eb;rw[hc15]
   refine sH [3] [] Z Z Z Z Z ((zg s X).iM (b9 hc15)) Z Z (by rfl) ?_;repeat' refine dr ?_
   rw[hp];exact⟨⟨rfl,_,_,_,_,_,_,_,rfl,rfl,rfl⟩,rfl,rfl,rfl⟩
  |ok cl i15=>
   have hb:=(mQ (aX s) (3*(aX s).length+1)).v 1 0 (ς _);rw[hc15]at hb;have hi:i15<=s.size:=by have:=hb.2;rwa[bh]at this
   refine bu [3] [] Z Z Z Z Z ((zg s X).ret (cp hc15)) Z Z (by rfl) (by rfl) Z Z Z Z<|be aW Z Z Z Z Z Z Z Z<|ab<|qs<|ae<|ae<|aa<|pE Z<|bu [3] [] Z Z Z Z Z ((mG s i15 hi X)) Z Z (by rfl) (by rfl) Z Z Z Z ?_
   refine aY 2 Z<|gz Z Z (fun g19=>?_)<|fun g19=>?_;·
    iterate 7 refine bA Z Z Z Z ?_
    refine pE Z (ab (qs (W.gJ Z (aa (aY 4 Z ?_)))));have N:bg (aX s) i15<(aX s).length:=b8 fun e=>by rw[e]at g19;simp at g19
    have hp:eb (aX s)=.no (bg (aX s) i15) 10:=by unfold eb;rw[hc15];dsimp only;rw[if_pos N]
    refine sH [] [] Z Z Z Z Z (et (bg (aX s) i15) 10) Z Z (by rfl) ?_;repeat' refine dr ?_
    rw[hp];exact⟨⟨rfl,_,_,_,_,_,_,_,rfl,rfl,rfl⟩,rfl,rfl,rfl⟩
   refine bz Z Z<|pE Z<|bz Z Z<|pE Z<|bz Z Z<|pE Z<|bz Z Z<|aY 1 Z<|bz Z Z<|pE Z<|bz Z Z<|pE Z<|bz Z Z<|aY 2 Z<|ab<|qs<|ba Z (fun ad=>?_)<|fun ad=>?_;·
    refine aa (aY 4 Z ?_);have N:bg (aX s) i15<(aX s).length:=by rw[bh];simp at ad;omega
    have hp:eb (aX s)=.no (bg (aX s) i15) 10:=by unfold eb;rw[hc15];dsimp only;rw[if_pos N]
    refine sH [] [] Z Z Z Z Z (et (bg (aX s) i15) 10) Z Z (by rfl) ?_;repeat' refine dr ?_
    rw[hp];exact⟨⟨rfl,_,_,_,_,_,_,_,rfl,rfl,rfl⟩,rfl,rfl,rfl⟩
   have N:¬bg (aX s) i15<(aX s).length:=by rw[bh];simp at ad;omega
   have hp:eb (aX s)=.ok cl 0:=by unfold eb;rw[hc15];dsimp only;rw[if_neg N]
   refine ah<|qs<|ae<|aa<|aY 1 Z<|be aW Z Z Z Z Z Z Z Z<|be aW Z Z Z Z Z Z Z Z<|be aW Z Z Z Z Z Z Z Z<|ab<|qs<|W.ret ?_
   rw[hp];exact⟨⟨rfl,rfl,rfl,rfl⟩,rfl,rfl,rfl⟩
 case hB=>
  rintro e ⟨M,df⟩ w2 ⟨ai,⟨f2,cq,c6,a7⟩,⟨G2,aj⟩,hq,k0,k1,k2⟩;have ai:df=uy 70 I b1 J::C.ds:=ai;subst ai;have ar:bq {C with bx:=[I,b1,J],ds:=uy 70 I b1 J::C.ds} 34 ⟨f2,cq,[],a7⟩ G2 M w2:={aj with live:=fun g h=>by cases h};rw[b3];have hE:=qI (l:=aX s);have cx:=fun a w=>F0 (l:=aX s) (a:=a) (w:=w)
  cases hA:eb (aX s)with
  |ok v i=>rw[hA]at hq;obtain⟨rfl,q0,q1,q2⟩:=hq;show Leaves _ _ M _ (uy 70 I b1 J::C.ds) .returning w2;rw[U];refine leaves_cons (by simp) (H3 I b1 J w2) (CallsD.mono (Iy a6 Z ar) ?_);rintro r u' w3 ⟨v3,G3,rfl,rfl,a1⟩;exact vZ aW (rs:=[.cell 2 46,.cell 3 3,.cell 4 31]) O aj k0 k1 k2 (JR a1 q0 q1 q2) Tryz.results23 Z Z
  |no a w=>
   rw[hA]at hq hE;obtain⟨rfl,x0,x1,x2,x3,x4,y0,z0,q0,q1,q2⟩:=hq;have ha:a<=s.size:=by have:=cx a w hA;rwa[bh]at this
   have hw:dn (.int .i64 (a:Int))=true∧dn (.int .i64 w)=true:=by refine⟨by simp[dn,IntKind.min,IntKind.max,IntKind.signed,IntKind.bits];omega,?_⟩;rcases hE with rfl|rfl|rfl|rfl<;>rfl
   show Leaves _ _ M _ (uy 70 I b1 J::C.ds) (.panicking [{v:=j0 128 a w,recovered:=false}]) w2;rw[U];refine leaves_cons (by simp) (H3 I b1 J w2) (CallsD.mono (Iw a6 hw Z ar q0 q1 q2) ?_);rintro r u' w3 ⟨v3,G3,c7,cy,rfl,rfl,r0,r1,r2,a1⟩;exact vZ aW (rs:=[.cell 2 46,.cell 3 3,.cell 4 31]) O aj k0 k1 k2 (JR a1 r0 r1 r2) Tryz.results23 Z Z
def j7(s:ByteArray):JV×Int×Int:=if 65536<s.size then(cR,0,7)else match eb (aX s)with
 |.ok v _=>(v,0,0)
 |.no a w=>(cR,(a:Int),w)
instance:DecidableEq (JV×Int×Int):=inferInstance
inductive KW:JV->Prop
 |mk (j:JV) (hs:j.s.size<=maxLen) (hk:j.keys.length<=maxLen) (hks:∀s∈j.keys,s.size<=maxLen) (hz:∀z∈j.kids,KW z):KW j
theorem IF(a b):aX (a++b)=aX a++aX b:=by show(a++b).data.toList=_;rw[ByteArray.data_append,Array.toList_append];rfl
@[reducible] def fE(s:ByteArray)(i:Nat)(pos err:Int):List A:=[.d (cs s),.d (.v (.int .i64 (i:Int))),.d (.v (.int .i64 pos)),.d (.v (.int .i64 err))]
theorem rQ(b:UInt8):bp Tryz.prog 167 [.d (.v (.int .u8 b.toNat))] (.d (.v (.bool (cF b)))) 0:=by
 refine bp.b6 (n:=9) (ts:=[2]) Tryz.func167 (by kernel_rfl) Z Tryz.ntmps167 Tryz.results167 Z Z fun C hC I=>aZ 1 Z<|ae ?_;apply bC;(case hb=>rfl);·repeat' first|refine b4 Z Z Z|refine bz Z Z ?_|refine bA Z Z Z Z ?_|refine pE Z ?_|refine ab ?_|(apply bN;(case hj=>rfl);(case hl=>rfl))
 refine qs (W.ret (QF.bo trivial Z ?_));show A.d (D.v (Value.bool _))=A.d (D.v (Value.bool _));congr 3;rw[Bool.eq_iff_iff,oC];generalize b.toNat=n;simp;omega
def ko(b:UInt8):Int:=if cF b=true then(b.toNat:Int)-48 else if 97<=b.toNat∧b.toNat<=102 then(b.toNat:Int)-87 else if 65<=b.toNat∧b.toNat<=70 then(b.toNat:Int)-55 else-1
theorem BX(b:UInt8):bp Tryz.prog 196 [.d (.v (.int .u8 b.toNat))] (.d (.v (.int .i64 (ko b)))) 0:=by
 have U:b.toNat<256:=b.toNat_lt;refine bp.b6 (n:=31) (ts:=[2]) Tryz.func196 (by kernel_rfl) Z Tryz.ntmps196 Tryz.results196 Z Z fun C hC X=>aZ 1 Z<|ae<|W.block<|ae<|aa<|pE Z<|pu (bm Z Z Z (rQ ..) Z) Z<|pE Z<|ab<|qs<|ba Z (fun h3=>?_)<|fun h3=>?_;·
  have I:ko b=(b.toNat:Int)-48:=by unfold ko;rw[if_pos h3]
  have q:=(oC b).1 h3;refine ae<|aa<|pE Z<|pu (b5 (ev aW Z) (y:=(b.toNat:Int)-48) (wrap_u8 (by omega))) Z<|pu (b5 (ev aW Z) (y:=(b.toNat:Int)-48) (wrap64 (by omega))) Z<|pE Z<|ab<|qs<|W.ret<|bw<|bl<|QF.bo trivial Z ?_;rw[I];rfl
 have n3:¬cF b=true:=by rw[h3];simp
 refine ae ?_;apply bC;(case hb=>rfl);·repeat' first|refine b4 Z Z Z|refine bz Z Z ?_|refine bA Z Z Z Z ?_|refine pE Z ?_|refine ab ?_|(apply bN;(case hj=>rfl);(case hl=>rfl))
 refine qs (ba Z (fun M=>?_) (fun M=>?_));·
  have q:97<=b.toNat∧b.toNat<=102:=by revert M;simp;omega
  have I:ko b=(b.toNat:Int)-87:=by unfold ko;rw[if_neg n3,if_pos q]
  refine ae<|aa<|pE Z<|pu (b5 (ev aW Z) (y:=(b.toNat:Int)-97) (wrap_u8 (by omega))) Z<|pu (b5 (ev aW Z) (y:=(b.toNat:Int)-97) (wrap64 (by omega))) Z<|pu (b5 (ev aW Z) (y:=(b.toNat:Int)-87) (Eq.trans (wrap64 (by omega)) (by omega))) Z<|pE Z<|ab<|qs<|W.ret<|bw<|bl<|QF.bo trivial Z ?_;rw[I];rfl
 have N:¬(97<=b.toNat∧b.toNat<=102):=by revert M;simp;omega
 refine ae ?_;apply bC;(case hb=>rfl);·repeat' first|refine b4 Z Z Z|refine bz Z Z ?_|refine bA Z Z Z Z ?_|refine pE Z ?_|refine ab ?_|(apply bN;(case hj=>rfl);(case hl=>rfl))
 refine qs (ba Z (fun J=>?_) (fun J=>?_));·
  have q:65<=b.toNat∧b.toNat<=70:=by revert J;simp;omega
  have I:ko b=(b.toNat:Int)-55:=by unfold ko;rw[if_neg n3,if_neg N,if_pos q]
  refine ae<|aa<|pE Z<|pu (b5 (ev aW Z) (y:=(b.toNat:Int)-65) (wrap_u8 (by omega))) Z<|pu (b5 (ev aW Z) (y:=(b.toNat:Int)-65) (wrap64 (by omega))) Z<|pu (b5 (ev aW Z) (y:=(b.toNat:Int)-55) (Eq.trans (wrap64 (by omega)) (by omega))) Z<|pE Z<|ab<|qs<|W.ret<|bw<|bl<|QF.bo trivial Z ?_;rw[I];rfl
 have O:¬(65<=b.toNat∧b.toNat<=70):=by revert J;simp;omega
 have I:ko b=-1:=by unfold ko;rw[if_neg n3,if_neg N,if_neg O]
 refine ah<|bW<|qs<|aZ 1 Z<|W.ret<|QF.bo trivial Z ?_;rw[I];rfl
theorem fy(s i p e):bU Tryz.prog 125 [.ptr 0 0] [fE s i p e] 0 (.d (.v (.int .u8 (bb (aX s) i).toNat))) [fE s i p e] 0:=by
 refine bU.dk aW (n:=22) (rs:=[.tmp 2]) Tryz.func125 (by kernel_rfl) Z Tryz.ntmps125 Tryz.results125 Z Z fun C hC M=>aZ 1 Z<|ae<|ae<|W.dK aW (by kernel_rfl) ?_
 refine bt (ev aW Z) Z<|bt (ev aW Z) Z<|bt (ev aW Z) Z<|bt (ev aW Z) Z ?_
 refine bt (ev aW Z) Z<|bt (ev aW Z) Z<|bt (ev aW Z) Z<|bt (ev aW Z) Z ?_
 refine bt (ev aW Z) Z<|bt (ev aW Z) Z<|ao ?_
 refine qs (ba Z (fun I=>?_) (fun I=>?_));·
  have J:bb (aX s) i=0:=lE (by rw[bh];simpa using I);refine aZ 1 Z<|W.ret<|bl<|ak aW [] trivial Z Z Z Z ?_ ?_;·exact⟨rfl,trivial⟩
  rw[J];rfl
 have hb:=oA (s:=s) (i:=i) (by simpa using I);refine ah<|qs<|ae<|W.dK aW (by kernel_rfl)<|bt (ev aW Z) Z<|bt (ev aW Z) Z<|bt (ev aW Z) Z<|bt (ev aW Z) Z ?_
 refine bt (ev aW Z) Z<|bt (ev aW Z) Z<|bt (ev aW Z) Z<|bt (ev aW Z) Z ?_
 refine bt (ew aW Z Z Z Z (ε _) (fN hb)) Z<|bt (ev aW Z) Z<|ao<|qs<|W.ret<|ak aW [] trivial Z Z Z Z ?_ ?_;·exact⟨rfl,trivial⟩
 rfl
theorem kg(s i p e w a)(q:e=0):bU Tryz.prog 79 [.ptr 0 0,.d (.v (.int .i64 w)),.d (.v (.int .i64 a))] [fE s i p e] 0 (.tup []) [fE s i a w] 0:=by
 refine bU.dk aW (n:=19) (rs:=[]) Tryz.func79 (by kernel_rfl) Z Tryz.ntmps79 Tryz.results79 Z Z fun C hC J=>aZ 5 Z<|ba Z (fun I=>?_)<|fun I=>?_;·
  refine ae<|aa<|aY 4 Z<|be aW Z Z Z Z Z Z Z Z<|ab<|qs<|aa<|aY 4 Z<|be aW Z Z Z Z Z Z Z Z<|ab<|ak aW [] trivial Z Z Z Z ?_ ?_;·exact⟨rfl,trivial⟩
  rfl
 exfalso;simp[q]at I
theorem I4(s i p e w a)(q:¬e=0):bU Tryz.prog 79 [.ptr 0 0,.d (.v (.int .i64 w)),.d (.v (.int .i64 a))] [fE s i p e] 0 (.tup []) [fE s i p e] 0:=by
 refine bU.dk aW (n:=19) (rs:=[]) Tryz.func79 (by kernel_rfl) Z Tryz.ntmps79 Tryz.results79 Z Z fun C hC J=>aZ 5 Z<|ba Z (fun I=>?_)<|fun I=>?_;·exfalso;simp[q]at I
 refine ah (ak aW [] trivial Z Z Z Z ?_ ?_);·exact⟨rfl,trivial⟩
 rfl
theorem Al(s i p e w a):bU Tryz.prog 79 [.ptr 0 0,.d (.v (.int .i64 w)),.d (.v (.int .i64 a))] [fE s i p e] 0 (.tup []) [fE s i (if e=0 then a else p) (if e=0 then w else e)] 0:=by
 by_cases q:e=0;·
  rw[if_pos q,if_pos q];exact kg s i p e w a q
 rw[if_neg q,if_neg q];exact I4 s i p e w a q
theorem we(h:(b.toNat:Int)=32∨(b.toNat:Int)=9∨(b.toNat:Int)=10∨(b.toNat:Int)=13):jS b=true:=by unfold jS;simp only[Bool.or_eq_true,Δ];omega
theorem Lw(h1:¬(b.toNat:Int)=32)(h2:¬(b.toNat:Int)=9)(h3:¬(b.toNat:Int)=10)(h4:¬(b.toNat:Int)=13):jS b=false:=by
 cases q:jS b with
 |false=>rfl
 |true=>unfold jS at q;simp only[Bool.or_eq_true,Δ]at q;omega
theorem pz(s:ByteArray)(i p e)(hi:i<=s.size)(hs:s.size<=1000000000):bU Tryz.prog 124 [.ptr 0 0] [fE s i p e] 0 (.tup []) [fE s (bg (aX s) i) p e] 0:=by
 refine bU.dk aW (n:=27) (rs:=[]) Tryz.func124 (by kernel_rfl) Z Tryz.ntmps124 Tryz.results124 Z Z fun C hC O=>W.block<|W.bY (ι:={x:Nat//match x with|j=>j<=s.size∧bg (aX s) j=bg (aX s) i})
  (fun x=>match x.1 with|j=>[(0,.ptr 0 0)]) []
  (fun x=>match x.1 with|j=>[(0,[.d (cs s),.d (.v (.int .i64 (j:Int))),.d (.v (.int .i64 p)),.d (.v (.int .i64 e))])]) [] [] 1 (fun x=>match x.1 with|j=>s.size-j)
  [0] ⟨i,?_⟩ Z ?_ trivial ?_ trivial Z ?_
 ·exact⟨hi,rfl⟩
 ·repeat' constructor
 ·repeat' constructor
 rintro⟨j,U,M⟩;show W _ _ _ _ _ ⟨[(0,.ptr 0 0)],[(0,[.d (cs s),.d (.v (.int .i64 (j:Int))),.d (.v (.int .i64 p)),.d (.v (.int .i64 e))])],[],1⟩;refine ae<|ae<|aa<|pE Z<|bu [0] [] Z Z Z Z Z ((fy s j p e)) Z Z (by rfl) (by rfl) Z Z Z Z ?_
 refine aY 2 Z<|gz Z Z (fun g5=>?_)<|fun g5=>?_;·
  refine bA Z Z Z Z<|bA Z Z Z Z<|bA Z Z Z Z<|aY 2 Z ?_
  refine bA Z Z Z Z<|bA Z Z Z Z<|bA Z Z Z Z<|aY 2 Z ?_
  refine bA Z Z Z Z<|bA Z Z Z Z<|bA Z Z Z Z<|pE Z<|ab<|qs<|W.gJ Z<|ah<|qs<|W.block ?_
  have q:jS (bb (aX s) j)=true:=we (by simp_all);have I:j<s.size:=by have:=b8 (l:=aX s) (i:=j) (by intro q2;rw[q2]at q;exact absurd q (by decide));rwa[bh]at this
  have J:=mj (l:=aX s) (i:=j) (by rw[bh];exact I) q;refine aa<|aY 4 Z<|pu (b5 (ev aW Z) (y:=((j+1:Nat):Int)) (wrap64 (by omega))) Z<|aY 2 Z<|be aW Z Z Z Z Z Z Z Z<|ab<|bW<|W.bZ [0] ⟨j+1,?_⟩ ?_ Z ?_ trivial ?_ trivial Z;·exact⟨I,by rw[<-J,M]⟩
  ·dsimp only;omega
  ·repeat' constructor
  repeat' constructor
 refine bz Z Z<|pE Z<|bz Z Z<|bu [0] [] Z Z Z Z Z ((fy s j p e)) Z Z (by rfl) (by rfl) Z Z Z Z<|bz Z Z<|aY 3 Z<|gz Z Z (fun g10=>?_)<|fun g10=>?_;·
  refine bA Z Z Z Z<|bA Z Z Z Z<|bA Z Z Z Z<|aY 2 Z ?_
  refine bA Z Z Z Z<|bA Z Z Z Z<|bA Z Z Z Z<|pE Z<|ab<|qs<|W.gJ Z<|ah<|qs<|W.block ?_
  have q:jS (bb (aX s) j)=true:=we (by simp_all);have I:j<s.size:=by have:=b8 (l:=aX s) (i:=j) (by intro q2;rw[q2]at q;exact absurd q (by decide));rwa[bh]at this
  have J:=mj (l:=aX s) (i:=j) (by rw[bh];exact I) q;refine aa<|aY 4 Z<|pu (b5 (ev aW Z) (y:=((j+1:Nat):Int)) (wrap64 (by omega))) Z<|aY 2 Z<|be aW Z Z Z Z Z Z Z Z<|ab<|bW<|W.bZ [0] ⟨j+1,?_⟩ ?_ Z ?_ trivial ?_ trivial Z;·exact⟨I,by rw[<-J,M]⟩
  ·dsimp only;omega
  ·repeat' constructor
  repeat' constructor
 refine bz Z Z<|pE Z<|bz Z Z<|bu [0] [] Z Z Z Z Z ((fy s j p e)) Z Z (by rfl) (by rfl) Z Z Z Z<|bz Z Z<|aY 3 Z<|gz Z Z (fun g15=>?_)<|fun g15=>?_;·
  refine bA Z Z Z Z<|bA Z Z Z Z<|bA Z Z Z Z<|pE Z<|ab<|qs<|W.gJ Z<|ah<|qs<|W.block ?_
  have q:jS (bb (aX s) j)=true:=we (by simp_all);have I:j<s.size:=by have:=b8 (l:=aX s) (i:=j) (by intro q2;rw[q2]at q;exact absurd q (by decide));rwa[bh]at this
  have J:=mj (l:=aX s) (i:=j) (by rw[bh];exact I) q;refine aa<|aY 4 Z<|pu (b5 (ev aW Z) (y:=((j+1:Nat):Int)) (wrap64 (by omega))) Z<|aY 2 Z<|be aW Z Z Z Z Z Z Z Z<|ab<|bW<|W.bZ [0] ⟨j+1,?_⟩ ?_ Z ?_ trivial ?_ trivial Z;·exact⟨I,by rw[<-J,M]⟩
  ·dsimp only;omega
  ·repeat' constructor
  repeat' constructor
 refine bz Z Z<|pE Z<|bz Z Z<|bu [0] [] Z Z Z Z Z ((fy s j p e)) Z Z (by rfl) (by rfl) Z Z Z Z<|bz Z Z<|aY 2 Z<|ab<|qs<|ba Z (fun N=>?_)<|fun N=>?_;·
  refine ah (qs (W.block ?_));have q:jS (bb (aX s) j)=true:=we (by simp_all);have I:j<s.size:=by have:=b8 (l:=aX s) (i:=j) (by intro q2;rw[q2]at q;exact absurd q (by decide));rwa[bh]at this
  have J:=mj (l:=aX s) (i:=j) (by rw[bh];exact I) q;refine aa<|aY 4 Z<|pu (b5 (ev aW Z) (y:=((j+1:Nat):Int)) (wrap64 (by omega))) Z<|aY 2 Z<|be aW Z Z Z Z Z Z Z Z<|ab<|bW<|W.bZ [0] ⟨j+1,?_⟩ ?_ Z ?_ trivial ?_ trivial Z;·exact⟨I,by rw[<-J,M]⟩
  ·dsimp only;omega
  ·repeat' constructor
  repeat' constructor
 refine an (bL (bM (bK (ak aW [] trivial Z Z Z Z ?_ ?_))));·rw[show bg (aX s) i=j from by rw[<-M];exact eK (Lw (by simp_all) (by simp_all) (by simp_all) (by simp_all))];exact⟨rfl,trivial⟩
 rfl
theorem KF{c}(I:c≠0):cn l c i=if bb l i=c then .ok () (i+1)else .no i 10:=by
 unfold cn;by_cases q:bb l i=c;·rw[if_pos q,if_pos ⟨b8 (by rw[q];exact I),q⟩]
 rw[if_neg q,if_neg (fun h=>q h.2)]
def kK:PE Unit->Int->Nat×Int×Int
 |.ok _ j,p=>(j,p,0)
 |.no a w,_=>(a,(a:Int),w)
theorem qO(s w:ByteArray)(i p)(hi:i<=s.size)(hs:s.size<=1000000000)(hw:∀b∈aX w,b≠0):
 bU Tryz.prog 164 [.ptr 0 0,.d (.v (.string w))] [fE s i p 0] 0 (.tup []) [fE s (kK (bX (aX s) (aX w) i) p).1 (kK (bX (aX s) (aX w) i) p).2.1 (kK (bX (aX s) (aX w) i) p).2.2] 0:=by
 refine bU.dk aW (n:=37) (rs:=[]) Tryz.func164 (by kernel_rfl) Z Tryz.ntmps164 Tryz.results164 Z Z fun C hC hG=>aZ 1 Z<|W.block<|W.lI (t:=1) Z<|fun hok=>?_;have hlen:=kC hok
 refine W.bY (ι:={x:Nat×Nat//match x with|(k,j)=>k<=(aX w).length∧j<=s.size∧bX (aX s) ((aX w).drop k) j=bX (aX s) (aX w) i})
  (fun x=>match x.1 with|(k,j)=>[(0,.ptr 0 0),(4,.d (.v (.int .i64 ((k:Nat):Int))))]) [(1,_)]
  (fun x=>match x.1 with|(k,j)=>[(0,[.d (cs s),.d (.v (.int .i64 (j:Int))),.d (.v (.int .i64 p)),.d (.v (.int .i64 0))])]) [] [] 1 (fun x=>match x.1 with|(k,j)=>(aX w).length-k)
  [0] ⟨(0,i),?_⟩ Z ?_ ⟨rfl,rfl,trivial⟩ ?_ trivial Z ?_
 ·exact⟨ς _,hi,rfl⟩
 ·repeat' constructor
 ·repeat' constructor
 rintro⟨⟨k,j⟩,hk,hj,I⟩;show W _ _ _ _ _ ⟨[(0,.ptr 0 0),(4,.d (.v (.int .i64 ((k:Nat):Int)))),(1,_)],[(0,[.d (cs s),.d (.v (.int .i64 (j:Int))),.d (.v (.int .i64 p)),.d (.v (.int .i64 0))])],[],1⟩;iterate 2 refine ae ?_
 apply bC;(case hb=>rfl);·repeat' first|refine b4 Z Z Z|refine bz Z Z ?_|refine bA Z Z Z Z ?_|refine pE Z ?_|refine ab ?_|(apply bN;(case hj=>rfl);(case hl=>rfl))
 refine qs (ba Z (fun M=>?_) (fun M=>?_));·
  have J:k<(aX w).length:=by rw[bh];revert M;simp
  obtain⟨b,N⟩:∃b,(aX w)[k]?=some b:=⟨(aX w)[k],by simp[J]⟩;have hd:=List.drop_eq_getElem_cons J;rw[(δ.1 N).2]at hd;rw[hd]at I;simp only[bX]at I;rw[KF (hw b (ζ N))]at I;refine ah<|qs<|ae<|W.block<|ae<|ae<|?_
  apply W.fb aW 5 1;(case hB=>kernel_rfl);(case h1=>rfl);(case h2=>rfl);refine' eJ (ev aW Z) Z Z Z Z Z ?h_1;case' h_1=>skip
  refine' qu (fun g=>?e_2) Z Z Z ?h_2;case e_2=>refine bu [0] [] Z Z Z Z Z ((fy s j p 0)) Z Z (by rfl) (by rfl) Z Z Z Z ?_;refine ab ?_;exact⟨rfl,rfl⟩
  case' h_2=>skip
  refine cd (ev aW Z) (ev aW Z) Z Z Z Z Z<|cd (ev aW Z) (ev aW Z) Z Z Z Z Z<|cd (ew aW Z Z Z Z (ε _) (fN N)) (ew aW Z Z Z Z (ε _) (fN N)) Z Z Z Z Z<|au<|pE Z<|ab<|qs<|ba Z (fun O=>?_)<|fun O=>?_;·
   have q:¬bb (aX s) j=b:=by rintro rfl;simp at O
   rw[if_neg q]at I;simp only at I;refine ae<|aa<|aY 5 Z<|bu [0] [] Z Z Z Z Z ((Al s j p 0 10 (j:Int))) Z Z (by rfl) (by rfl) Z Z Z Z<|ab<|qs<|W.ret<|bl<|bw<|bl<|cN<|bw<|ak aW [] trivial Z Z Z Z ?_ ?_;·rw[<-I];exact⟨rfl,trivial⟩
   rfl
  have q:bb (aX s) j=b:=UInt8.toNat_inj.1 (by simp at O;omega);rw[if_pos q]at I;simp only at I;have U:j<s.size:=by have:=b8 (l:=aX s) (i:=j) (by rw[q];exact hw b (ζ N));rwa[bh]at this
  refine ah<|qs<|aa<|aY 4 Z<|pu (b5 (ev aW Z) (y:=((j+1:Nat):Int)) (wrap64 (by omega))) Z<|aY 2 Z<|be aW Z Z Z Z Z Z Z Z<|ab<|bW<|qs<|aa<|pE Z<|pu (b5 (ev aW Z) (y:=((k+1:Nat):Int)) (Am J hlen)) Z<|pE Z<|ab<|W.bZ [0] ⟨(k+1,j+1),?_⟩ ?_ Z ?_ ⟨rfl,rfl,trivial⟩ ?_ trivial Z;·exact⟨J,U,I⟩
  ·dsimp only;omega
  ·repeat' constructor
  repeat' constructor
 have X:(aX w).length<=k:=by rw[bh];revert M;simp
 rw[List.drop_eq_nil_of_le X]at I;simp only[bX]at I;refine an (bL (bM (bK (ak aW [] trivial Z Z Z Z ?_ ?_))));·rw[<-I];exact⟨rfl,trivial⟩
 rfl
abbrev RS:=Nat×Int×Int
@[reducible] def ig(s:ByteArray)(st:RS):List A:=fE s st.1 st.2.1 st.2.2
def dM{α:Type}:PE α->Int->RS
 |.ok _ j,p=>(j,p,0)
 |.no a w,_=>(a,(a:Int),w)
def yN:PE UInt8->ByteArray
 |.ok c _=>B #[c]
 |.no _ _=>B #[]
theorem my{x:PE α}{v:α}(h:x=.ok v j)(p):dM x p=(j,p,0):=by rw[h];rfl
theorem mK{x:PE α}{w}(h:x=.no a w)(p):dM x p=(a,(a:Int),w):=by rw[h];rfl
theorem qn{x:PE UInt8}{v}(h:x=.ok v j):yN x=B #[v]:=by rw[h];rfl
theorem wz{x:PE UInt8}{w}(h:x=.no a w):yN x=B #[]:=by rw[h];rfl
theorem Jy:∀n:Fin 256,ko (UInt8.ofNat n.val)=((gC (UInt8.ofNat n.val)).map (fun m=>(m:Int))).getD (-1)∧(gC (UInt8.ofNat n.val)).getD 0<=15:=by decide+kernel
theorem tE(b):ko b=((gC b).map (fun m=>(m:Int))).getD (-1)∧(gC b).getD 0<=15:=by have h:=Jy ⟨b.toNat,b.toNat_lt⟩;simpa using h
theorem nr{m}(h:gC b=some m):ko b=(m:Int)∧m<=15:=by have q:=tE b;rw[h]at q;exact q
theorem rW(h:gC b=none):ko b=-1:=by have q:=tE b;rw[h]at q;exact q.1
def rb(l:List UInt8)(i:Nat):PE UInt8:=match bX l [48,48] i with
 |.no a w=>.no a w
 |.ok _ j=>pW l j
theorem oY(c:UInt8):ByteArray.empty.push (UInt8.ofNat ((c.toNat:Int)).toNat)=B #[c]:=by
 have:UInt8.ofNat ((c.toNat:Int)).toNat=c:=by simp
 rw[this];rfl
theorem GY(s:ByteArray)(i p)(hi:i<=s.size)(hs:s.size<=1000000000):bU Tryz.prog 184 [.ptr 0 0] [fE s i p 0] 0 (.d (.v (.string (yN (rb (aX s) i))))) [ig s (dM (rb (aX s) i) p)] 0:=by
 have ad:=kv (l:=aX s) (x:=[48,48]) (i:=i) (by rw[bh];exact hi);have ai:=ov (l:=aX s) (x:=[48,48]) (i:=i);have hN:=qO s (B #[48,48]) i p hi hs (by decide);have hN:bU Tryz.prog 164 [.ptr 0 0,.d (.v (.string (B #[48,48])))] [fE s i p 0] 0 (.tup []) [fE s (kK (bX (aX s) [48,48] i) p).1 (kK (bX (aX s) [48,48] i) p).2.1 (kK (bX (aX s) [48,48] i) p).2.2] 0:=hN;have I:rb (aX s) i=match bX (aX s) [48,48] i with|.no a w=>.no a w|.ok _ j=>pW (aX s) j:=rfl
 generalize bX (aX s) [48,48] i=X0 at ad ai hN I;refine bU.dk aW (n:=72) (rs:=[.tmp 2]) Tryz.func184 (by kernel_rfl) Z Tryz.ntmps184 Tryz.results184 Z Z fun C hC hG=>aZ 1 Z<|ae<|aa<|pE Z<|bu [0] [] Z Z Z Z Z (hN ..) Z Z (by rfl) (by rfl) Z Z Z Z<|ab<|qs<|ae<|aZ 5 Z<|ba Z (fun O=>?_)<|fun O=>?_;·
  obtain⟨a,w,hX⟩:∃a w,X0=.no a w:=by
   cases X0 with
   |no a w=>exact⟨a,w,rfl⟩
   |ok u j=>simp[kK]at O
  rw[hX]at I;rw[mK I,wz I,hX];refine aZ 1 Z<|W.ret<|bl<|ak aW [] trivial Z Z Z Z ?_ ?_;·exact⟨rfl,trivial⟩
  rfl
 obtain⟨u,j,hX⟩:∃u j,X0=.ok u j:=by
  cases X0 with
  |ok u j=>exact⟨u,j,rfl⟩
  |no a w=>
   have ai:w=2∨w=4∨w=10∨w=20:=ai;have O:(!decide (w=0))=false:=O;have O:w=0:=by simpa using O
   omega
 rw[hX]at I ad;have b0:j<=s.size:=by have:=ad.2;rwa[bh]at this
 rw[hX];have I:rb (aX s) i=pW (aX s) j:=I;have b2:=tE (bb (aX s) j);have b3:=tE (bb (aX s) (j+1));refine ah<|qs<|ae<|aa<|pE Z<|bu [0] [] Z Z Z Z Z ((fy s j p 0)) Z Z (by rfl) (by rfl) Z Z Z Z<|pu (bm Z Z Z (BX (bb (aX s) j)) Z) Z<|pE Z<|ab<|qs<|ae<|ae<|?_
 apply bC;(case hb=>rfl);·
  refine aY 3 Z ?_;apply eU;(case hj=>rfl);(case hl=>rfl);·
   intro g17;refine bz Z Z (pE Z (bz Z Z (pE Z (bz Z Z (pE Z ?_)))));apply eU;(case hj=>rfl);(case hl=>rfl);·
    intro g20;refine bA Z Z Z Z<|bA Z Z Z Z<|bz Z Z<|aY 2 Z ?_
    refine ab (b4 Z Z Z)
   intro g20;refine bz Z Z<|pE Z<|bz Z Z<|pE Z<|bz Z Z<|aY 2 Z<|ab<|b4 Z Z Z
  intro g17;refine bA Z Z Z Z<|bA Z Z Z Z<|bA Z Z Z Z<|jQ Z Z Z<|jQ Z Z Z<|bA Z Z Z Z<|pE Z<|ab<|b4 Z Z Z
 refine qs (ba Z (fun M=>?_) (fun M=>?_));·
  have hq:pW (aX s) j=.no j 10:=by
   unfold pW
   cases X:gC (bb (aX s) j)with
   |none=>rfl
   |some m=>
    rw[(nr X).1]at M;have:m=1∨7<m:=by
     revert M;by_cases U:(m:Int)=0;·simp[U]
     by_cases e1:(m:Int)<2;·intro _;omega
     simp[U,e1];intro _;omega
    simp only[if_pos this]
  rw[hq]at I;rw[mK I,wz I];refine ae<|aa<|aY 5 Z<|bu [0] [] Z Z Z Z Z ((kg s j p 0 10 (j:Int) Z)) Z Z (by rfl) (by rfl) Z Z Z Z<|ab<|qs<|aZ 1 Z<|W.ret<|bl<|ak aW [] trivial Z Z Z Z ?_ ?_;·exact⟨rfl,trivial⟩
  rfl
 obtain⟨m,X⟩:∃m,gC (bb (aX s) j)=some m:=by
  cases X:gC (bb (aX s) j)with
  |some m=>exact⟨m,rfl⟩
  |none=>rw[rW X]at M;simp at M
 obtain⟨aj,ch⟩:=nr X;have a6:¬(m=1∨7<m):=by
  rw[aj]at M;revert M;by_cases U:(m:Int)=0;·intro _;omega
  by_cases e1:(m:Int)<2;·simp[U,e1];omega
  simp[U,e1];intro _;omega
 have hq:pW (aX s) j=sa (aX s) m (j+1):=by unfold pW;rw[X];simp only[if_neg a6]
 have cj:j<s.size:=by have:=tF X;rwa[bh]at this
 rw[hq]at I;have cl:ko (bb (aX s) (j+1))<=15∧-1<=ko (bb (aX s) (j+1)):=by
  cases J:gC (bb (aX s) (j+1))with
  |none=>rw[rW J];decide
  |some m2=>have:=nr J;omega
 refine ah<|qs<|ae<|aa<|aY 4 Z<|pu (b5 (ev aW Z) (y:=((j+1:Nat):Int)) (wrap64 (by omega))) Z<|aY 2 Z<|be aW Z Z Z Z Z Z Z Z<|ab<|qs<|ae<|aa<|pE Z<|bu [0] [] Z Z Z Z Z ((fy s (j+1) p 0)) Z Z (by rfl) (by rfl) Z Z Z Z<|pu (bm Z Z Z (BX (bb (aX s) (j+1))) Z) Z<|pE Z<|ab<|qs<|ae<|ae<|?_
 apply bC;(case hb=>rfl);·
  refine aY 3 Z ?_;apply eU;(case hj=>rfl);(case hl=>rfl);·
   intro a1;iterate 7 refine bA Z Z Z Z ?_
   refine pE Z (ab (b4 Z Z Z))
  intro a1;refine bz Z Z<|pE Z<|bz Z Z<|pu (b5 (ev aW Z) (y:=16*(m:Int)) (by rw[aj];exact wrap64 (by omega))) Z<|bz Z Z<|pE Z<|bz Z Z<|pu (b5 (ev aW Z) (y:=((16*m+(ko (bb (aX s) (j+1))).toNat:Nat):Int)) (by have:=υ a1;exact Eq.trans (wrap64 (by omega)) (by omega))) Z<|bz Z Z<|pu (b5 (ev aW Z) (y:=((UInt8.ofNat (16*m+(ko (bb (aX s) (j+1))).toNat)).toNat:Int)) (Eq.trans (wrap_u8 (by omega)) (AT (by omega)).symm)) Z<|bz Z Z<|pu (bm Z Z Z (rV (UInt8.ofNat (16*m+(ko (bb (aX s) (j+1))).toNat))) Z) Z<|bz Z Z<|aY 2 Z<|ab<|b4 Z Z Z
 refine qs (ba Z (fun N=>?_) (fun N=>?_));·
  have ar:sa (aX s) m (j+1)=.no (j+1) 10:=by
   unfold sa
   cases J:gC (bb (aX s) (j+1))with
   |none=>rfl
   |some m2=>
    have hr:=nr J;have U:¬((m2:Int)<0):=by omega
    rw[hr.1]at N;have:known (UInt8.ofNat (16*m+m2))=false:=by simpa[U]using N
    simp only[if_pos this]
  rw[ar]at I;rw[mK I,wz I];refine ae<|aa<|aY 5 Z<|bu [0] [] Z Z Z Z Z ((kg s (j+1) p 0 10 ((j+1:Nat):Int) Z)) Z Z (by rfl) (by rfl) Z Z Z Z<|ab<|qs<|aZ 1 Z<|W.ret<|bl<|ak aW [] trivial Z Z Z Z ?_ ?_;·exact⟨rfl,trivial⟩
  rfl
 obtain⟨m2,J⟩:∃m2,gC (bb (aX s) (j+1))=some m2:=by
  cases J:gC (bb (aX s) (j+1))with
  |some m2=>exact⟨m2,rfl⟩
  |none=>rw[rW J]at N;simp at N
 have hr:=nr J;have U:¬((m2:Int)<0):=by omega
 have a7:¬known (UInt8.ofNat (16*m+m2))=false:=by rw[hr.1]at N;simpa[U]using N
 have ar:sa (aX s) m (j+1)=.ok (UInt8.ofNat (16*m+m2)) (j+2):=by unfold sa;rw[J];simp only[if_neg a7]
 have a8:j+1<s.size:=by have:=tF J;rwa[bh]at this
 rw[ar]at I;rw[my I,qn I];refine ah<|qs<|ae<|aa<|aY 4 Z<|pu (b5 (ev aW Z) (y:=((j+2:Nat):Int)) (Eq.trans (wrap64 (by omega)) (by omega))) Z<|aY 2 Z<|be aW Z Z Z Z Z Z Z Z<|ab<|qs<|ae<|aa<|pE Z<|pu (b5 (ev aW Z) (y:=16*(m:Int)) (by rw[aj];exact wrap64 (by omega))) Z<|pE Z<|pu (b5 (ev aW Z) (y:=((16*m+m2:Nat):Int)) (by rw[hr.1];exact Eq.trans (wrap64 (by omega)) (by omega))) Z<|pu (b5 (ev aW Z) (y:=((UInt8.ofNat (16*m+m2)).toNat:Int)) (Eq.trans (wrap_u8 (by omega)) (AT (by omega)).symm)) Z<|pu (bR aW Z Z Z Z Z Z Z Z Z) Z<|pu (wB Z (by kernel_rfl) (oY _)) Z<|pE Z<|ab<|qs<|W.ret<|ak aW [] trivial Z Z Z Z ?_ ?_;·exact⟨rfl,trivial⟩
 rfl
variable {st:RS}
theorem Lg(h:((bb l i).toNat:Int)=117):dL l i=rb l (i+1):=by
 have e:=fS (n:=117) (by decide) h;have I:i<l.length:=b8 (by rw[e];decide);have J:cn l 117 i=.ok () (i+1):=by unfold cn;rw[if_pos ⟨I,e⟩]
 rw[sS,e,if_neg (by decide),if_neg (by decide),if_neg (by decide)];unfold Ak rb;rw[show bX l [117,48,48] i=bX l [48,48] (i+1) by simp only[bX];rw[J]];cases bX l [48,48] (i+1)<;>rfl
theorem JC(h1:¬((bb l i).toNat:Int)=34)(h2:¬((bb l i).toNat:Int)=92)(h3:¬((bb l i).toNat:Int)=47)(h4:¬((bb l i).toNat:Int)=110)(h5:¬((bb l i).toNat:Int)=116)(I:¬((bb l i).toNat:Int)=117):dL l i=.no i 10:=by
 rw[sS,if_neg (by rintro(e|e|e)<;>rw[e]at h1 h2 h3<;>simp at h1 h2 h3),if_neg (by intro e;rw[e]at h4;simp at h4),if_neg (by intro e;rw[e]at h5;simp at h5)];unfold Ak;have J:cn l 117 i=.no i 10:=by unfold cn;rw[if_neg];rintro⟨_,e⟩;rw[e]at I;simp at I
 simp only[bX];rw[J]
theorem Ck(s:ByteArray)(i p)(hi:i<=s.size)(hs:s.size<=1000000000):bU Tryz.prog 165 [.ptr 0 0] [fE s i p 0] 0 (.d (.v (.string (yN (dL (aX s) i))))) [ig s (dM (dL (aX s) i) p)] 0:=by
 have M:bb (aX s) i≠0->i<s.size:=fun h=>by have:=b8 h;rwa[bh]at this
 refine bU.dk aW (n:=56) (rs:=[.tmp 2]) Tryz.func165 (by kernel_rfl) Z Tryz.ntmps165 Tryz.results165 Z Z fun C hC X=>aZ 1 Z<|ae<|aa<|pE Z<|bu [0] [] Z Z Z Z Z ((fy s i p 0)) Z Z (by rfl) (by rfl) Z Z Z Z<|pE Z<|ab<|qs<|ae<|aZ 1 Z<|W.block<|ae<|aZ 2 Z<|ba Z (fun J=>?_)<|fun J=>?_;·
  have I:dL (aX s) i=.ok (bb (aX s) i) (i+1):=mu (by have:=μ J;omega);have hl:=M (by intro e;have:=μ J;rw[e]at this;simp at this);rw[my I,qn I];refine ah<|qs<|W.gJ Z<|ae<|aa<|aY 4 Z<|pu (b5 (ev aW Z) (y:=((i+1:Nat):Int)) (wrap64 (by omega))) Z<|aY 2 Z<|be aW Z Z Z Z Z Z Z Z<|ab<|qs<|ae<|aa<|pE Z<|pu (bR aW Z Z Z Z Z Z Z Z Z) Z<|pu (wB Z (by kernel_rfl) (oY _)) Z<|pE Z<|ab<|qs<|W.ret<|bw<|bl<|ak aW [] trivial Z Z Z Z ?_ ?_;·exact⟨rfl,trivial⟩
  rfl
 refine aZ 2 Z<|ba Z (fun J=>?_)<|fun J=>?_;·
  have I:dL (aX s) i=.ok (bb (aX s) i) (i+1):=mu (by have:=μ J;omega);have hl:=M (by intro e;have:=μ J;rw[e]at this;simp at this);rw[my I,qn I];refine ah<|qs<|W.gJ Z<|ae<|aa<|aY 4 Z<|pu (b5 (ev aW Z) (y:=((i+1:Nat):Int)) (wrap64 (by omega))) Z<|aY 2 Z<|be aW Z Z Z Z Z Z Z Z<|ab<|qs<|ae<|aa<|pE Z<|pu (bR aW Z Z Z Z Z Z Z Z Z) Z<|pu (wB Z (by kernel_rfl) (oY _)) Z<|pE Z<|ab<|qs<|W.ret<|bw<|bl<|ak aW [] trivial Z Z Z Z ?_ ?_;·exact⟨rfl,trivial⟩
  rfl
 refine cJ 2 Z<|qs<|ba Z (fun J=>?_)<|fun J=>?_;·
  have I:dL (aX s) i=.ok (bb (aX s) i) (i+1):=mu (by have:=μ J;omega);have hl:=M (by intro e;have:=μ J;rw[e]at this;simp at this);rw[my I,qn I];refine ae<|aa<|aY 4 Z<|pu (b5 (ev aW Z) (y:=((i+1:Nat):Int)) (wrap64 (by omega))) Z<|aY 2 Z<|be aW Z Z Z Z Z Z Z Z<|ab<|qs<|ae<|aa<|pE Z<|pu (bR aW Z Z Z Z Z Z Z Z Z) Z<|pu (wB Z (by kernel_rfl) (oY _)) Z<|pE Z<|ab<|qs<|W.ret<|bw<|bl<|ak aW [] trivial Z Z Z Z ?_ ?_;·exact⟨rfl,trivial⟩
  rfl
 refine aZ 2 Z<|ba Z (fun N=>?_)<|fun N=>?_;·
  have I:dL (aX s) i=.ok 10 (i+1):=H0 (μ N);have hl:=M (by intro e;have:=μ N;rw[e]at this;simp at this);rw[my I,qn I];refine ae<|aa<|aY 4 Z<|pu (b5 (ev aW Z) (y:=((i+1:Nat):Int)) (wrap64 (by omega))) Z<|aY 2 Z<|be aW Z Z Z Z Z Z Z Z<|ab<|qs<|aZ 1 Z<|W.ret<|bw<|bl<|ak aW [] trivial Z Z Z Z ?_ ?_;·exact⟨rfl,trivial⟩
  rfl
 refine aZ 2 Z<|ba Z (fun O=>?_)<|fun O=>?_;·
  have I:dL (aX s) i=.ok 9 (i+1):=HW (μ O);have hl:=M (by intro e;have:=μ O;rw[e]at this;simp at this);rw[my I,qn I];refine ae<|aa<|aY 4 Z<|pu (b5 (ev aW Z) (y:=((i+1:Nat):Int)) (wrap64 (by omega))) Z<|aY 2 Z<|be aW Z Z Z Z Z Z Z Z<|ab<|qs<|aZ 1 Z<|W.ret<|bw<|bl<|ak aW [] trivial Z Z Z Z ?_ ?_;·exact⟨rfl,trivial⟩
  rfl
 refine aZ 2 Z<|ba Z (fun U=>?_)<|fun U=>?_;·
  have I:dL (aX s) i=rb (aX s) (i+1):=Lg (μ U);have hl:=M (by intro e;have:=μ U;rw[e]at this;simp at this);rw[I];refine ae<|aa<|aY 4 Z<|pu (b5 (ev aW Z) (y:=((i+1:Nat):Int)) (wrap64 (by omega))) Z<|aY 2 Z<|be aW Z Z Z Z Z Z Z Z<|ab<|qs<|ae<|aa<|pE Z<|bu [0] [] Z Z Z Z Z ((GY s (i+1) p (by omega) hs)) Z Z (by rfl) (by rfl) Z Z Z Z<|pE Z<|ab<|qs<|W.ret<|bw<|bl<|ak aW [] trivial Z Z Z Z ?_ ?_;·exact⟨rfl,trivial⟩
  rfl
 have I:dL (aX s) i=.no i 10:=JC (by simp_all) (by simp_all) (by simp_all) (by simp_all) (by simp_all) (by simp_all);rw[mK I,wz I];refine ah<|bW<|qs<|ae<|aa<|aY 5 Z<|bu [0] [] Z Z Z Z Z ((kg s i p 0 10 (i:Int) Z)) Z Z (by rfl) (by rfl) Z Z Z Z<|ab<|qs<|aZ 1 Z<|W.ret<|ak aW [] trivial Z Z Z Z ?_ ?_;·exact⟨rfl,trivial⟩
 rfl
def jU:PE (List UInt8)->ByteArray
 |.ok t _=>bytesOf t
 |.no _ _=>B #[]
theorem Jl{x:PE (List UInt8)}{v}(h:x=.ok v j):jU x=bytesOf v:=by rw[h];rfl
theorem xm{x:PE (List UInt8)}{w}(h:x=.no a w):jU x=B #[]:=by rw[h];rfl
theorem Br(acc c):bytesOf acc++B #[c]=bytesOf (acc++[c]):=iW (by show aX _=aX _;rw[IF,iw,iw];rfl)
def KM(s:ByteArray)(p:Int)(X:PE (List UInt8))(r:Nat×RS×ByteArray):Prop:=(r.2.1.2.2=0->r.2.1.1<=s.size∧r.1=s.size+1-r.2.1.1∧r.2.1.2.1=p∧∃acc I,r.2.2=bytesOf acc∧acc.length<=r.2.1.1∧(aX s).length+1<=I+r.2.1.1∧dE (aX s) I r.2.1.1 acc=X)∧(r.2.1.2.2≠0->jU X=B #[]∧dM X p=r.2.1)
theorem rq(s:ByteArray)(i p)(hi:i<=s.size)(hs:s.size<=1000000000):bU Tryz.prog 127 [.ptr 0 0] [fE s i p 0] 0 (.d (.v (.string (jU (cL (aX s) i))))) [ig s (dM (cL (aX s) i) p)] 0:=by
 have hN:=qO s (B #[34]) i p hi hs (by decide);have hN:bU Tryz.prog 164 [.ptr 0 0,.d (.v (.string (B #[34])))] [fE s i p 0] 0 (.tup []) [fE s (kK (bX (aX s) [34] i) p).1 (kK (bX (aX s) [34] i) p).2.1 (kK (bX (aX s) [34] i) p).2.2] 0:=hN;have hw:bX (aX s) [34] i=cn (aX s) 34 i:=by simp only[bX];cases cn (aX s) 34 i<;>rfl
 rw[hw]at hN;have b0:=jP (l:=aX s) (c:=34) (i:=i) (by rw[bh];exact hi);have aj:=oq (l:=aX s) (c:=34) (i:=i);have M:cL (aX s) i=match cn (aX s) 34 i with|.no a w=>.no a w|.ok _ j=>dE (aX s) ((aX s).length+1-j) j []:=rfl
 generalize cn (aX s) 34 i=X0 at b0 aj hN M;have a8:∀(X:PE (List UInt8)),cL (aX s) i=X->bU Tryz.prog 127 [.ptr 0 0] [fE s i p 0] 0 (.d (.v (.string (jU X)))) [ig s (dM X p)] 0:=by
  intro X hX;rw[hX]at M;refine bU.dk aW (n:=64) (rs:=[.tmp 2]) Tryz.func127 (by kernel_rfl) Z Tryz.ntmps127 Tryz.results127 Z Z fun C hC hG=>aZ 1 Z<|aZ 1 Z<|ae<|aa<|pE Z<|bu [0] [] Z Z Z Z Z (hN ..) Z Z (by rfl) (by rfl) Z Z Z Z<|ab<|qs<|ae<|W.block<|W.bY (ι:={x:Nat×RS×ByteArray//match x with|(m,st,t)=>KM s p X (m,st,t)∧True})
   (fun x=>match x.1 with|(m,st,t)=>[(0,.ptr 0 0),(3,.d (.v (.string t)))]) []
   (fun x=>match x.1 with|(m,st,t)=>[(0,[.d (cs s),.d (.v (.int .i64 (st.1:Int))),.d (.v (.int .i64 st.2.1)),.d (.v (.int .i64 st.2.2))])]) [] [] 1 (fun x=>match x.1 with|(m,st,t)=>m)
   [0] ⟨(s.size+1-(kK X0 p).1,kK X0 p,B #[]),?_⟩ Z ?_ trivial ?_ trivial Z ?_
  ·
   cases X0 with
   |no a w=>have M:X=.no a w:=M;have aj:w=2∨w=4∨w=10∨w=20:=aj;refine⟨⟨fun h=>?_,fun _=>⟨xm M,mK M p⟩⟩,trivial⟩;have h:w=0:=h;omega
   |ok u j=>
    have M:X=dE (aX s) ((aX s).length+1-j) j []:=M;have hj:j<=s.size:=by have:=b0.2;rwa[bh]at this
    refine⟨⟨fun _=>⟨hj,rfl,rfl,[],(aX s).length+1-j,rfl,ς _,by show _<=_-j+j;omega,M.symm⟩,fun h=>absurd Z h⟩,trivial⟩
  ·repeat' constructor
  ·repeat' constructor
  rintro⟨⟨m,st,t⟩,hI,c1⟩;show W _ _ _ _ _ ⟨[(0,.ptr 0 0),(3,.d (.v (.string t)))],[(0,[.d (cs s),.d (.v (.int .i64 (st.1:Int))),.d (.v (.int .i64 st.2.1)),.d (.v (.int .i64 st.2.2))])],[],1⟩;refine ae<|aZ 5 Z<|ba Z (fun ar=>?_)<|fun ar=>?_;·
   have he:st.2.2=0:=μ ar;obtain⟨j,q,e⟩:=st;have he:e=0:=he;subst he;obtain⟨hj,hm,hq,acc,kk,ht,b2,a1,I⟩:=hI.1 Z;have hj:j<=s.size:=hj;have hm:m=s.size+1-j:=hm;have hq:q=p:=hq;subst hq;subst hm;subst ht;have b2:acc.length<=j:=b2;have a1:(aX s).length+1<=kk+j:=a1;have I:dE (aX s) kk j acc=X:=I;obtain⟨U,rfl⟩:∃U,kk=U+1:=⟨kk-1,by rw[bh]at a1;omega⟩;have a6:bb (aX s) j≠0->j<s.size:=fun h=>by have:=b8 h;rwa[bh]at this
   have h2:(bytesOf acc).size=acc.length:=by show(acc.toArray).size=_;simp
   refine ah<|qs<|W.block<|ae<|aa<|pE Z<|bu [0] [] Z Z Z Z Z ((fy s j q 0)) Z Z (by rfl) (by rfl) Z Z Z Z<|pE Z<|ab<|qs<|W.block<|aZ 3 Z<|ba Z (fun N=>?_)<|fun N=>?_;·
    have hx:X=.ok acc (j+1):=by rw[<-I,AU (fS (n:=34) (by decide) (μ N))]
    have hl:=a6 (by intro e;have:=μ N;rw[e]at this;simp at this);refine ae<|aa<|aY 4 Z<|pu (b5 (ev aW Z) (y:=((j+1:Nat):Int)) (wrap64 (by omega))) Z<|aY 2 Z<|be aW Z Z Z Z Z Z Z Z<|ab<|qs<|aZ 2 Z<|W.ret<|bw<|bw<|cN<|bw<|bl<|ak aW [] trivial Z Z Z Z ?_ ?_;·
     rw[my hx];exact⟨rfl,trivial⟩
    rw[Jl hx];rfl
   have q2:bb (aX s) j≠34:=by intro e;rw[e]at N;simp at N
   refine aZ 3 Z<|ba Z (fun ad=>?_)<|fun ad=>?_;·
    have b3:bb (aX s) j=92:=fS (n:=92) (by decide) (μ ad);rw[Ae b3]at I;have hl:=a6 (by rw[b3];decide);have O:=tI (l:=aX s) (i:=j+1) (by rw[bh];omega);have ai:=EY (l:=aX s) (i:=j+1);have cl:(yN (dL (aX s) (j+1))).size<=1:=by
     cases dL (aX s) (j+1)with
     |ok c i=>exact ω 1
     |no a w=>exact ς 1
    have cq:j+1<=(dM (dL (aX s) (j+1)) q).1:=by
     revert O
     cases dL (aX s) (j+1)with
     |ok c i=>exact fun h=>Nat.le_of_lt h.1
     |no a w=>exact fun h=>h.1
    have J:KM s q X (s.size+1-(dM (dL (aX s) (j+1)) q).1,dM (dL (aX s) (j+1)) q,bytesOf acc++yN (dL (aX s) (j+1))):=by
     revert O ai I
     cases dL (aX s) (j+1)with
     |ok c i=>
      intro I O _;have I:dE (aX s) U i (acc++[c])=X:=I;have h1:j+1<i:=O.1;have h3:i<=s.size:=by have:=O.2;rwa[bh]at this
      refine⟨fun _=>⟨h3,rfl,rfl,acc++[c],U,Br acc c,?_,?_,I⟩,fun h=>absurd Z h⟩;·show _<=i;rw[ν,Φ];omega
      show _<=U+i;omega
     |no a w=>intro I _ ai;have I:X=.no a w:=I.symm;have ai:w=2∨w=4∨w=10∨w=20:=ai;refine⟨fun h=>?_,fun _=>⟨xm I,mK I q⟩⟩;have h:w=0:=h;omega
    have hE:=Ck s (j+1) q (by omega) hs;generalize dM (dL (aX s) (j+1)) q=o at hE cq J;generalize yN (dL (aX s) (j+1))=ch at hE cl J;refine ae<|aa<|aY 4 Z<|pu (b5 (ev aW Z) (y:=((j+1:Nat):Int)) (wrap64 (by omega))) Z<|aY 2 Z<|be aW Z Z Z Z Z Z Z Z<|ab<|qs<|aa<|aY 2 Z<|bu [0] [] Z Z Z Z Z (hE ..) Z Z (by rfl) (by rfl) Z Z Z Z<|pu (oQ Z Z (by omega)) Z<|pE Z<|ab<|bW<|bW<|W.bZ [0] ⟨(s.size+1-o.1,o,bytesOf acc++ch),?_⟩ ?_ Z ?_ trivial ?_ trivial Z;·exact⟨J,trivial⟩
    ·dsimp only;omega
    ·repeat' constructor
    repeat' constructor
   have q3:bb (aX s) j≠92:=by intro e;rw[e]at ad;simp at ad
   refine ae ?_;apply bC;(case hb=>rfl);·repeat' first|refine b4 Z Z Z|refine bz Z Z ?_|refine bA Z Z Z Z ?_|refine pE Z ?_|refine ab ?_|(apply bN;(case hj=>rfl);(case hl=>rfl))
   refine qs (ba Z (fun a7=>?_) (fun a7=>?_));·
    have hr:32<=(bb (aX s) j).toNat∧(bb (aX s) j).toNat<=126:=by revert a7;simp;omega
    rw[xy (by omega) q2 q3]at I;have hl:=a6 (by intro e;rw[e]at hr;revert hr;decide);obtain⟨j1,cj⟩:∃j1,j1=j+1:=⟨_,rfl⟩;have J:KM s q X (s.size+1-j1,(j1,q,0),bytesOf acc++B #[bb (aX s) j]):=by
     subst cj;refine⟨fun _=>⟨hl,rfl,rfl,acc++[bb (aX s) j],U,Br acc _,?_,?_,I⟩,fun h=>absurd Z h⟩;·show _<=j+1;rw[ν,Φ];omega
     show _<=U+(j+1);omega
    refine ae<|aa<|aY 4 Z<|pu (b5 (ev aW Z) (y:=((j1:Nat):Int)) (by rw[cj];exact wrap64 (by omega))) Z<|aY 2 Z<|be aW Z Z Z Z Z Z Z Z<|ab<|qs<|aa<|aY 2 Z<|pu (bR aW Z Z Z Z Z Z Z Z Z) Z<|pu (wB Z (by kernel_rfl) (oY _)) Z<|pu (oQ Z Z (by show(bytesOf acc).size+1<=_;omega)) Z<|pE Z<|ab<|bW<|bW<|W.bZ [0] ⟨(s.size+1-j1,(j1,q,0),bytesOf acc++B #[bb (aX s) j]),?_⟩ ?_ Z ?_ trivial ?_ trivial Z;·exact⟨J,trivial⟩
    ·dsimp only;omega
    ·repeat' constructor
    repeat' constructor
   have hr:(bb (aX s) j).toNat<32∨126<(bb (aX s) j).toNat:=by revert a7;simp;omega
   rw[BF hr]at I;refine aa<|aY 5 Z<|bu [0] [] Z Z Z Z Z ((kg s j q 0 10 (j:Int) Z)) Z Z (by rfl) (by rfl) Z Z Z Z<|ab<|bW<|bW<|W.bZ [0] ⟨(0,(j,(j:Int),10),bytesOf acc),?_⟩ ?_ Z ?_ trivial ?_ trivial Z;·exact⟨⟨fun h=>absurd (show(10:Int)=0 from h) (by decide),fun _=>⟨xm I.symm,mK I.symm q⟩⟩,trivial⟩
   ·dsimp only;omega
   ·repeat' constructor
   repeat' constructor
  obtain⟨cx,cy⟩:=hI.2 (υ ar);refine an<|bL<|bM<|bK<|qs<|aZ 1 Z<|W.ret<|ak aW [] trivial Z Z Z Z ?_ ?_;·
   rw[cy];exact⟨rfl,trivial⟩
  rw[cx];rfl
 exact a8 _ Z
theorem uR(s w:ByteArray)(v:JV)(i p)(hi:i<=s.size)(hs:s.size<=1000000000)(hw:∀b∈aX w,b≠0):
 bU Tryz.prog 126 [.ptr 0 0,.d (.v (.string w)),.ag v.c] [fE s i p 0] 0 (.ag v.c) [ig s (dM (bX (aX s) (aX w) i) p)] 0:=by
 have I:=qO s w i p hi hs hw;have I:bU Tryz.prog 164 [.ptr 0 0,.d (.v (.string w))] [fE s i p 0] 0 (.tup []) [ig s (dM (bX (aX s) (aX w) i) p)] 0:=by revert I;cases bX (aX s) (aX w) i<;>exact fun h=>h
 generalize dM (bX (aX s) (aX w) i) p=o at I⊢;refine bU.dk aW (n:=11) (rs:=[.cell 6 46]) Tryz.func126 (by kernel_rfl) Z Tryz.ntmps126 Tryz.results126 Z Z fun C hC J=>ae<|aa<|cG Z Z Z<|bT aW Z Z Z<|ab<|qs<|ae<|aa<|aY 2 Z<|bu [0] [] Z Z Z Z Z (I ..) Z Z (by rfl) (by rfl) Z Z Z Z<|ab<|qs<|ae<|aa<|aY 1 Z<|be aW Z Z Z Z Z Z Z Z<|ab<|qs<|W.ret<|ak aW [] trivial Z Z Z Z ?_ ?_;·exact⟨rfl,trivial⟩
 rfl
def iD(n:Nat)(l:List UInt8):Nat:=l.foldl (fun n b=>if n<=1000000000000000 then 10*n+(b.toNat-48)else n) n
theorem Fw(n l)(b:UInt8):iD n (l++[b])=if iD n l<=1000000000000000 then 10*iD n l+(b.toNat-48)else iD n l:=by unfold iD;rw[List.foldl_append];rfl
def gL(l:List UInt8)(i j:Nat):List UInt8:=(l.drop i).take (j-i)
theorem DM(h:i<=j)(hj:j<l.length):gL l i (j+1)=gL l i j++[bb l j]:=by unfold gL;rw[show j+1-i=(j-i)+1 by omega,Ψ,List.getElem?_drop,show i+(j-i)=j by omega];congr 1;unfold bb;rw[List.getD_eq_getElem?_getD,X' hj];rfl
def kM(l:List UInt8)(i:Nat)(p:Int):JV×RS:=
 let i1:=if bb l i=45 then i+1 else i
 if cF (bb l i1)=false then(cR,(i1,(i1:Int),10))else
 let n:=iD 0 (gL l i1 (cc l i1))
 (.mk 3 (if bb l i=45 then-(n:Int)else(n:Int)) (B #[]) [] [],if 1000000000000000<n then(cc l i1,(i:Int),2)else(cc l i1,p,0))
theorem GM(h:cF b=true):48<=b.toNat∧b.toNat<=57:=by unfold cF at h;simpa using h
theorem Hx(I:bb l i≠48)(J:i<=j)(hd:∀q,i<=q->q<j->cF (bb l q)=true)(M:cF (bb l j)=false):cc l i=j:=by unfold cc;rw[if_neg I];exact x7 l _ i j J hd M (ω _)
set_option maxHeartbeats 1000000 in
theorem CY(s:ByteArray)(i p)(hi:i<=s.size)(hs:s.size<=1000000000):bU Tryz.prog 129 [.ptr 0 0] [fE s i p 0] 0 (.ag (kM (aX s) i p).1.c) [ig s (kM (aX s) i p).2] 0:=by
 obtain⟨i1,a1⟩:∃i1,i1=if bb (aX s) i=45 then i+1 else i:=⟨_,rfl⟩;have a6:∀j,bb (aX s) j≠0->j<s.size:=fun j h=>by have:=b8 h;rwa[bh]at this
 have cq:i1<=s.size:=by
  rw[a1];split;·rename_i q;exact a6 i (by rw[q];decide)
  exact hi
 have I:kM (aX s) i p=if cF (bb (aX s) i1)=false then(cR,(i1,(i1:Int),10))else(.mk 3 (if bb (aX s) i=45 then-(iD 0 (gL (aX s) i1 (cc (aX s) i1)):Int)else(iD 0 (gL (aX s) i1 (cc (aX s) i1)):Int)) (B #[]) [] [],if 1000000000000000<iD 0 (gL (aX s) i1 (cc (aX s) i1))then(cc (aX s) i1,(i:Int),2)else(cc (aX s) i1,p,0)):=by rw[a1];rfl
 generalize kM (aX s) i p=Y at I⊢;refine bU.dk aW (n:=66) (rs:=[.cell 2 46]) Tryz.func129 (by kernel_rfl) Z Tryz.ntmps129 Tryz.results129 Z Z fun C hC hG=>ae<|aa<|bT aW Z Z Z<|ab<|qs<|aZ 5 Z<|ae<|aa<|pE Z<|bu [0] [] Z Z Z Z Z ((fy s i p 0)) Z Z (by rfl) (by rfl) Z Z Z Z<|aY 2 Z<|ab<|qs<|ae<|aZ 1 Z<|W.kV [(0,.ptr 0 0),(2,.ptr 1 0),(3,.d (.v (.int .i64 ((i:Nat):Int)))),(4,.d (.v (.bool (decide (((bb (aX s) i).toNat:Int)=45)))))] [] [(0,[.d (cs s),.d (.v (.int .i64 (i1:Int))),.d (.v (.int .i64 p)),.d (.v (.int .i64 0))])] [1] [] 2 ?_ ?_;·
  refine ba Z (fun a7=>?_) (fun a7=>?_);·
   have M:bb (aX s) i=45:=fS (n:=45) (by decide) (μ a7);have e1:i1=i+1:=by rw[a1,if_pos M]
   have hl:=a6 i (by rw[M];decide);subst e1;refine aa<|aY 4 Z<|pu (b5 (ev aW Z) (y:=((i+1:Nat):Int)) (wrap64 (by omega))) Z<|aY 2 Z<|be aW Z Z Z Z Z Z Z Z<|ab<|cZ [0,1] Z ?_ trivial ?_ ⟨rfl,rfl,trivial⟩ Z;·repeat' constructor
   repeat' constructor
  have M:¬bb (aX s) i=45:=by intro e;rw[e]at a7;simp at a7
  have e1:i1=i:=by rw[a1,if_neg M]
  subst e1;refine ah (cZ [0,1] Z ?_ trivial ?_ ⟨rfl,rfl,trivial⟩ Z);·repeat' constructor
  repeat' constructor
 refine qs<|ae<|ae<|aa<|pE Z<|bu [0] [] Z Z Z Z Z ((fy s i1 p 0)) Z Z (by rfl) (by rfl) Z Z Z Z ?_
 refine pu (bm Z Z Z (rQ (bb (aX s) i1)) Z) Z<|pE Z<|ab<|qs<|ba Z (fun a8=>?_)<|fun a8=>?_;·
  have hd:cF (bb (aX s) i1)=false:=by simpa using a8
  rw[if_pos hd]at I;refine ae<|aa<|aY 5 Z<|bu [0] [] Z Z Z Z Z ((kg s i1 p 0 10 (i1:Int) Z)) Z Z (by rfl) (by rfl) Z Z Z Z<|ab<|qs<|ae<|aa<|pu (build aW Z Z Z Z) Z ?_;try refine mH 32 Z Z Z ?_
  refine be aW Z Z Z Z Z Z Z Z (ab (qs ?_));try refine bJ 1 3 Z Z Z ?_
  try refine bJ 1 4 Z Z Z ?_
  refine W.ret (bl (ak aW [] trivial Z Z Z Z ?_ ?_));·
   rw[I];exact⟨rfl,trivial⟩
  rw[I];rfl
 have hd:cF (bb (aX s) i1)=true:=by simpa using a8
 rw[if_neg (by rw[hd];decide)]at I;have c6:i1<s.size:=a6 i1 (by intro e;rw[e]at hd;exact absurd hd (by decide));refine ah<|qs<|aZ 1 Z<|ae<|aa<|pE Z<|bu [0] [] Z Z Z Z Z ((fy s i1 p 0)) Z Z (by rfl) (by rfl) Z Z Z Z<|pE Z<|ab<|qs<|ae<|W.block<|W.bY (ι:={x:Nat×Nat//match x with|(j,n)=>i1<=j∧j<=s.size∧n=iD 0 (gL (aX s) i1 j)∧n<=10000000000000009∧(∀q,i1<=q->q<j->cF (bb (aX s) q)=true)∧(i1<j->bb (aX s) i1≠48)})
  (fun x=>match x.1 with|(j,n)=>[(0,.ptr 0 0),(2,.ptr 1 0),(3,.d (.v (.int .i64 ((i:Nat):Int)))),(4,.d (.v (.bool (decide (((bb (aX s) i).toNat:Int)=45))))),(5,.d (.v (.int .i64 ((n:Nat):Int)))),(6,.d (.v (.int .u8 (bb (aX s) i1).toNat)))]) []
  (fun x=>match x.1 with|(j,n)=>[(0,[.d (cs s),.d (.v (.int .i64 (j:Int))),.d (.v (.int .i64 p)),.d (.v (.int .i64 0))])]) [(1,_)] [] 2 (fun x=>match x.1 with|(j,n)=>s.size-j)
  [0,1] ⟨(i1,0),?_⟩ Z ?_ trivial ?_ ⟨rfl,rfl,trivial⟩ Z ?_
 ·exact⟨ω _,cq,by unfold gL;rw[Nat.sub_self,List.take_zero];rfl,ς _,fun q h1 h2=>by omega,fun h=>by omega⟩
 ·repeat' constructor
 ·repeat' constructor
 rintro⟨⟨j,n⟩,aj,c7,hn,df,cl,b0⟩;show W _ _ _ _ _ ⟨[(0,.ptr 0 0),(2,.ptr 1 0),(3,.d (.v (.int .i64 ((i:Nat):Int)))),(4,.d (.v (.bool (decide (((bb (aX s) i).toNat:Int)=45))))),(5,.d (.v (.int .i64 ((n:Nat):Int)))),(6,.d (.v (.int .u8 (bb (aX s) i1).toNat)))],[(0,[.d (cs s),.d (.v (.int .i64 (j:Int))),.d (.v (.int .i64 p)),.d (.v (.int .i64 0))]),(1,_)],[],2⟩;refine ae<|ae<|aa<|pE Z<|bu [0] [] Z Z Z Z Z ((fy s j p 0)) Z Z (by rfl) (by rfl) Z Z Z Z ?_
 refine pu (bm Z Z Z (rQ (bb (aX s) j)) Z) Z<|ab<|qs<|ba Z (fun b2=>?_)<|fun b2=>?_;·
  have U:cF (bb (aX s) j)=true:=b2;have b3:j<s.size:=a6 j (by intro e;rw[e]at U;exact absurd U (by decide));have di:=GM U;have X:=Fw 0 (gL (aX s) i1 j) (bb (aX s) j);rw[<-DM aj (by rw[bh];exact b3),←hn]at X;have ch:∀q,i1<=q->q<j+1->cF (bb (aX s) q)=true:=fun q h1 h2=>by
   rcases Nat.lt_succ_iff_lt_or_eq.1 h2 with h|h
   ·exact cl q h1 h
   rw[h];exact U
  refine ah<|qs<|W.block<|ae<|aZ 2 Z<|ba Z (fun cj=>?_)<|fun cj=>?_;·
   have hle:n<=1000000000000000:=by simp at cj;omega
   rw[if_pos hle]at X;obtain⟨n2,cy⟩:∃n2,n2=10*n+((bb (aX s) j).toNat-48):=⟨_,rfl⟩;rw[<-cy]at X;have c1:n2<=10000000000000009:=by omega
   refine aa<|pE Z<|pu (b5 (ev aW Z) (y:=((10*n:Nat):Int)) (by exact Eq.trans (wrap64 (by omega)) (by omega))) Z<|pE Z<|bu [0] [] Z Z Z Z Z ((fy s j p 0)) Z Z (by rfl) (by rfl) Z Z Z Z<|pu (b5 (ev aW Z) (y:=(((bb (aX s) j).toNat-48:Nat):Int)) (Eq.trans (wrap_u8 (by omega)) (by omega))) Z<|pu (b5 (ev aW Z) (y:=(((bb (aX s) j).toNat-48:Nat):Int)) (wrap64 (by omega))) Z<|pu (b5 (ev aW Z) (y:=((n2:Nat):Int)) (Eq.trans (wrap64 (by omega)) (by omega))) Z<|pE Z<|ab<|qs<|ae<|aa<|aY 4 Z<|pu (b5 (ev aW Z) (y:=((j+1:Nat):Int)) (wrap64 (by omega))) Z<|aY 2 Z<|be aW Z Z Z Z Z Z Z Z<|ab<|qs<|aZ 2 Z ?_;refine ba Z (fun O=>?_) (fun O=>?_);·
    have hz:bb (aX s) i1=48:=fS (n:=48) (by decide) (μ O);have ar:i1=j:=by
     rcases Nat.eq_or_lt_of_le aj with e|e
     ·exact e
     exact absurd hz (b0 e)
    have ad:cc (aX s) i1=j+1:=by unfold cc;rw[if_pos hz,ar]
    rw[ad,X]at I;refine an<|sU Z<|bM<|bK<|qs<|ae<|aZ 2 Z<|ba Z (fun N=>?_)<|fun N=>?_;·
     have ai:=μ N;rw[if_pos (show 1000000000000000<n2 by omega)]at I;refine aa<|aY 2 Z<|bu [0] [] Z Z Z Z Z ((kg s _ p 0 2 (i:Int) Z)) Z Z (by rfl) (by rfl) Z Z Z Z<|ab<|qs<|ae<|aZ 1 Z<|ba Z (fun J=>?_)<|fun J=>?_;·
      have M:bb (aX s) i=45:=fS (n:=45) (by decide) (μ J);rw[if_pos M]at I;refine aa<|pE Z<|pu (b5 (ev aW Z) (y:=-((n2:Nat):Int)) (by show IntKind.i64.wrap (0-((n2:Nat):Int))=_;rw[Int.zero_sub];exact wrap64 (by omega))) Z<|pE Z<|ab<|qs<|ae<|aa<|pE Z<|pu (build aW Z Z Z Z) Z ?_;try refine mH 65 Z Z Z ?_
      refine be aW Z Z Z Z Z Z Z Z (ab (qs ?_));try refine bJ 1 3 Z Z Z ?_
      try refine bJ 1 4 Z Z Z ?_
      refine W.ret (ak aW [] trivial Z Z Z Z ?_ ?_);·
       rw[I];exact⟨rfl,trivial⟩
      rw[I];rfl
     have M:¬bb (aX s) i=45:=by intro e;rw[e]at J;simp at J
     rw[if_neg M]at I;refine ah (qs (ae (aa (pE Z (pu (build aW Z Z Z Z) Z ?_)))));try refine mH 65 Z Z Z ?_
     refine be aW Z Z Z Z Z Z Z Z (ab (qs ?_));try refine bJ 1 3 Z Z Z ?_
     try refine bJ 1 4 Z Z Z ?_
     refine W.ret (ak aW [] trivial Z Z Z Z ?_ ?_);·
      rw[I];exact⟨rfl,trivial⟩
     rw[I];rfl
    have ai:=υ N;rw[if_neg (show ¬1000000000000000<n2 by omega)]at I;refine ah<|qs<|ae<|aZ 1 Z<|ba Z (fun J=>?_)<|fun J=>?_;·
     have M:bb (aX s) i=45:=fS (n:=45) (by decide) (μ J);rw[if_pos M]at I;refine aa<|pE Z<|pu (b5 (ev aW Z) (y:=-((n2:Nat):Int)) (by show IntKind.i64.wrap (0-((n2:Nat):Int))=_;rw[Int.zero_sub];exact wrap64 (by omega))) Z<|pE Z<|ab<|qs<|ae<|aa<|pE Z<|pu (build aW Z Z Z Z) Z ?_;try refine mH 65 Z Z Z ?_
     refine be aW Z Z Z Z Z Z Z Z (ab (qs ?_));try refine bJ 1 3 Z Z Z ?_
     try refine bJ 1 4 Z Z Z ?_
     refine W.ret (ak aW [] trivial Z Z Z Z ?_ ?_);·
      rw[I];exact⟨rfl,trivial⟩
     rw[I];rfl
    have M:¬bb (aX s) i=45:=by intro e;rw[e]at J;simp at J
    rw[if_neg M]at I;refine ah (qs (ae (aa (pE Z (pu (build aW Z Z Z Z) Z ?_)))));try refine mH 65 Z Z Z ?_
    refine be aW Z Z Z Z Z Z Z Z (ab (qs ?_));try refine bJ 1 3 Z Z Z ?_
    try refine bJ 1 4 Z Z Z ?_
    refine W.ret (ak aW [] trivial Z Z Z Z ?_ ?_);·
     rw[I];exact⟨rfl,trivial⟩
    rw[I];rfl
   have hz:bb (aX s) i1≠48:=by intro e;rw[e]at O;simp at O
   refine ah (bW (W.bZ [0,1] ⟨(j+1,n2),?_⟩ ?_ Z ?_ trivial ?_ ⟨rfl,rfl,trivial⟩ Z));·exact⟨by omega,b3,X.symm,by omega,ch,fun _=>hz⟩
   ·dsimp only;omega
   ·repeat' constructor
   repeat' constructor
  have hle:¬n<=1000000000000000:=by simp at cj;omega
  rw[if_neg hle]at X;refine ah<|qs<|ae<|aa<|aY 4 Z<|pu (b5 (ev aW Z) (y:=((j+1:Nat):Int)) (wrap64 (by omega))) Z<|aY 2 Z<|be aW Z Z Z Z Z Z Z Z<|ab<|qs<|aZ 2 Z<|ba Z (fun O=>?_)<|fun O=>?_;·
   have hz:bb (aX s) i1=48:=fS (n:=48) (by decide) (μ O);have ar:i1=j:=by
    rcases Nat.eq_or_lt_of_le aj with e|e
    ·exact e
    exact absurd hz (b0 e)
   have ad:cc (aX s) i1=j+1:=by unfold cc;rw[if_pos hz,ar]
   rw[ad,X]at I;refine an<|sU Z<|bM<|bK<|qs<|ae<|aZ 2 Z<|ba Z (fun N=>?_)<|fun N=>?_;·
    have ai:=μ N;rw[if_pos (show 1000000000000000<n by omega)]at I;refine aa<|aY 2 Z<|bu [0] [] Z Z Z Z Z ((kg s _ p 0 2 (i:Int) Z)) Z Z (by rfl) (by rfl) Z Z Z Z<|ab<|qs<|ae<|aZ 1 Z<|ba Z (fun J=>?_)<|fun J=>?_;·
     have M:bb (aX s) i=45:=fS (n:=45) (by decide) (μ J);rw[if_pos M]at I;refine aa<|pE Z<|pu (b5 (ev aW Z) (y:=-((n:Nat):Int)) (by show IntKind.i64.wrap (0-((n:Nat):Int))=_;rw[Int.zero_sub];exact wrap64 (by omega))) Z<|pE Z<|ab<|qs<|ae<|aa<|pE Z<|pu (build aW Z Z Z Z) Z ?_;try refine mH 65 Z Z Z ?_
     refine be aW Z Z Z Z Z Z Z Z (ab (qs ?_));try refine bJ 1 3 Z Z Z ?_
     try refine bJ 1 4 Z Z Z ?_
     refine W.ret (ak aW [] trivial Z Z Z Z ?_ ?_);·
      rw[I];exact⟨rfl,trivial⟩
     rw[I];rfl
    have M:¬bb (aX s) i=45:=by intro e;rw[e]at J;simp at J
    rw[if_neg M]at I;refine ah (qs (ae (aa (pE Z (pu (build aW Z Z Z Z) Z ?_)))));try refine mH 65 Z Z Z ?_
    refine be aW Z Z Z Z Z Z Z Z (ab (qs ?_));try refine bJ 1 3 Z Z Z ?_
    try refine bJ 1 4 Z Z Z ?_
    refine W.ret (ak aW [] trivial Z Z Z Z ?_ ?_);·
     rw[I];exact⟨rfl,trivial⟩
    rw[I];rfl
   have ai:=υ N;rw[if_neg (show ¬1000000000000000<n by omega)]at I;refine ah<|qs<|ae<|aZ 1 Z<|ba Z (fun J=>?_)<|fun J=>?_;·
    have M:bb (aX s) i=45:=fS (n:=45) (by decide) (μ J);rw[if_pos M]at I;refine aa<|pE Z<|pu (b5 (ev aW Z) (y:=-((n:Nat):Int)) (by show IntKind.i64.wrap (0-((n:Nat):Int))=_;rw[Int.zero_sub];exact wrap64 (by omega))) Z<|pE Z<|ab<|qs<|ae<|aa<|pE Z<|pu (build aW Z Z Z Z) Z ?_;try refine mH 65 Z Z Z ?_
    refine be aW Z Z Z Z Z Z Z Z (ab (qs ?_));try refine bJ 1 3 Z Z Z ?_
    try refine bJ 1 4 Z Z Z ?_
    refine W.ret (ak aW [] trivial Z Z Z Z ?_ ?_);·
     rw[I];exact⟨rfl,trivial⟩
    rw[I];rfl
   have M:¬bb (aX s) i=45:=by intro e;rw[e]at J;simp at J
   rw[if_neg M]at I;refine ah (qs (ae (aa (pE Z (pu (build aW Z Z Z Z) Z ?_)))));try refine mH 65 Z Z Z ?_
   refine be aW Z Z Z Z Z Z Z Z (ab (qs ?_));try refine bJ 1 3 Z Z Z ?_
   try refine bJ 1 4 Z Z Z ?_
   refine W.ret (ak aW [] trivial Z Z Z Z ?_ ?_);·
    rw[I];exact⟨rfl,trivial⟩
   rw[I];rfl
  have hz:bb (aX s) i1≠48:=by intro e;rw[e]at O;simp at O
  refine ah (bW (W.bZ [0,1] ⟨(j+1,n),?_⟩ ?_ Z ?_ trivial ?_ ⟨rfl,rfl,trivial⟩ Z));·exact⟨by omega,b3,X.symm,by omega,ch,fun _=>hz⟩
  ·dsimp only;omega
  ·repeat' constructor
  repeat' constructor
 have U:cF (bb (aX s) j)=false:=b2;have cx:i1<j:=by
  rcases Nat.eq_or_lt_of_le aj with e|e
  ·subst e;rw[hd]at U;cases U
  exact e
 have ad:cc (aX s) i1=j:=Hx (b0 cx) aj cl U;rw[ad,←hn]at I;refine an<|bL<|bM<|bK<|qs<|ae<|aZ 2 Z<|ba Z (fun N=>?_)<|fun N=>?_;·
  have ai:=μ N;rw[if_pos (show 1000000000000000<n by omega)]at I;refine aa<|aY 2 Z<|bu [0] [] Z Z Z Z Z ((kg s _ p 0 2 (i:Int) Z)) Z Z (by rfl) (by rfl) Z Z Z Z<|ab<|qs<|ae<|aZ 1 Z<|ba Z (fun J=>?_)<|fun J=>?_;·
   have M:bb (aX s) i=45:=fS (n:=45) (by decide) (μ J);rw[if_pos M]at I;refine aa<|pE Z<|pu (b5 (ev aW Z) (y:=-((n:Nat):Int)) (by show IntKind.i64.wrap (0-((n:Nat):Int))=_;rw[Int.zero_sub];exact wrap64 (by omega))) Z<|pE Z<|ab<|qs<|ae<|aa<|pE Z<|pu (build aW Z Z Z Z) Z ?_;try refine mH 65 Z Z Z ?_
   refine be aW Z Z Z Z Z Z Z Z (ab (qs ?_));try refine bJ 1 3 Z Z Z ?_
   try refine bJ 1 4 Z Z Z ?_
   refine W.ret (ak aW [] trivial Z Z Z Z ?_ ?_);·
    rw[I];exact⟨rfl,trivial⟩
   rw[I];rfl
  have M:¬bb (aX s) i=45:=by intro e;rw[e]at J;simp at J
  rw[if_neg M]at I;refine ah (qs (ae (aa (pE Z (pu (build aW Z Z Z Z) Z ?_)))));try refine mH 65 Z Z Z ?_
  refine be aW Z Z Z Z Z Z Z Z (ab (qs ?_));try refine bJ 1 3 Z Z Z ?_
  try refine bJ 1 4 Z Z Z ?_
  refine W.ret (ak aW [] trivial Z Z Z Z ?_ ?_);·
   rw[I];exact⟨rfl,trivial⟩
  rw[I];rfl
 have ai:=υ N;rw[if_neg (show ¬1000000000000000<n by omega)]at I;refine ah<|qs<|ae<|aZ 1 Z<|ba Z (fun J=>?_)<|fun J=>?_;·
  have M:bb (aX s) i=45:=fS (n:=45) (by decide) (μ J);rw[if_pos M]at I;refine aa<|pE Z<|pu (b5 (ev aW Z) (y:=-((n:Nat):Int)) (by show IntKind.i64.wrap (0-((n:Nat):Int))=_;rw[Int.zero_sub];exact wrap64 (by omega))) Z<|pE Z<|ab<|qs<|ae<|aa<|pE Z<|pu (build aW Z Z Z Z) Z ?_;try refine mH 65 Z Z Z ?_
  refine be aW Z Z Z Z Z Z Z Z (ab (qs ?_));try refine bJ 1 3 Z Z Z ?_
  try refine bJ 1 4 Z Z Z ?_
  refine W.ret (ak aW [] trivial Z Z Z Z ?_ ?_);·
   rw[I];exact⟨rfl,trivial⟩
  rw[I];rfl
 have M:¬bb (aX s) i=45:=by intro e;rw[e]at J;simp at J
 rw[if_neg M]at I;refine ah (qs (ae (aa (pE Z (pu (build aW Z Z Z Z) Z ?_)))));try refine mH 65 Z Z Z ?_
 refine be aW Z Z Z Z Z Z Z Z (ab (qs ?_));try refine bJ 1 3 Z Z Z ?_
 try refine bJ 1 4 Z Z Z ?_
 refine W.ret (ak aW [] trivial Z Z Z Z ?_ ?_);·
  rw[I];exact⟨rfl,trivial⟩
 rw[I];rfl
def sq(st:RS)(w a:Int):RS:=(st.1,(if st.2.2=0 then a else st.2.1),(if st.2.2=0 then w else st.2.2))
def fg(l:List UInt8)(st:RS):RS:=(bg l st.1,st.2.1,st.2.2)
def fV(st:RS):RS:=(st.1+1,st.2.1,st.2.2)
def cI(l w:List UInt8)(st:RS):RS:=if st.2.2=0 then dM (bX l w st.1) st.2.1 else st
def hasB(keys:List ByteArray)(t:ByteArray):Bool:=keys.any fun x=>decide (x=t)
def iQ(l:List UInt8)(keys:List ByteArray)(st:RS):RS:=if hasB keys (jU (cL l (bg l st.1)))=true then sq (dM (cL l (bg l st.1)) st.2.1) 4 (bg l st.1)else dM (cL l (bg l st.1)) st.2.1
def dP(l:List UInt8)(op:Int)(keys:List ByteArray)(st:RS):List ByteArray×RS:=
 if op=6 then(keys++[jU (cL l (bg l st.1))],cI l [58] (fg l (iQ l keys st)))else(keys,st)
def nM(l:List UInt8)(r:JV×RS):JV×RS:=if r.2.2.2=0 then(r.1,fg l r.2)else r
def cPj(st:RS)(I:Int):RS:=if 16<=I then sq st 20 st.1 else st
mutual
def c8(l:List UInt8):Nat->Int->RS->JV×RS
 |0,_,st=>(cR,st)
 |k+1,ar,st=>if st.2.2=0 then nM l (
   if bb l (bg l st.1)=110 then(.mk 1 0 (B #[]) [] [],dM (bX l kN (bg l st.1)) st.2.1)
   else if bb l (bg l st.1)=116 then(.mk 2 1 (B #[]) [] [],dM (bX l jn (bg l st.1)) st.2.1)
   else if bb l (bg l st.1)=102 then(.mk 2 0 (B #[]) [] [],dM (bX l il (bg l st.1)) st.2.1)
   else if bb l (bg l st.1)=34 then(.mk 4 0 (jU (cL l (bg l st.1))) [] [],dM (cL l (bg l st.1)) st.2.1)
   else if bb l (bg l st.1)=91 then eX l k 5 93 ar (bg l st.1,st.2.1,0)
   else if bb l (bg l st.1)=123 then eX l k 6 125 ar (bg l st.1,st.2.1,0)
   else kM l (bg l st.1) st.2.1)else(cR,st)
def eX(l:List UInt8):Nat->Int->UInt8->Int->RS->JV×RS
 |0,op,_,_,st=>(.mk op 0 (B #[]) [] [],st)
 |k+1,op,c,ar,st=>
   if(cPj st ar).2.2=0∧bb l (fg l (fV (cPj st ar))).1=c then(.mk op 0 (B #[]) [] [],fV (fg l (fV (cPj st ar))))
   else fw l k op c ar [] [] (fg l (fV (cPj st ar)))
def fw(l:List UInt8):Nat->Int->UInt8->Int->List ByteArray->List JV->RS->JV×RS
 |0,op,_,_,keys,kids,st=>(.mk op 0 (B #[]) keys kids,st)
 |k+1,op,c,ar,keys,kids,st=>if st.2.2=0 then
   (if(c8 l k (ar+1) (dP l op keys st).2).2.2.2=0∧bb l (c8 l k (ar+1) (dP l op keys st).2).2.1=c then
    (.mk op 0 (B #[]) (dP l op keys st).1 (kids++[(c8 l k (ar+1) (dP l op keys st).2).1]),fV (c8 l k (ar+1) (dP l op keys st).2).2)
   else fw l k op c ar (dP l op keys st).1 (kids++[(c8 l k (ar+1) (dP l op keys st).2).1]) (cI l [44] (c8 l k (ar+1) (dP l op keys st).2).2))
   else(.mk op 0 (B #[]) keys kids,st)
end
theorem oP(l k I)(st:RS):c8 l (k+1) I st=if st.2.2=0 then nM l (
 if bb l (bg l st.1)=110 then(.mk 1 0 (B #[]) [] [],dM (bX l kN (bg l st.1)) st.2.1)
 else if bb l (bg l st.1)=116 then(.mk 2 1 (B #[]) [] [],dM (bX l jn (bg l st.1)) st.2.1)
 else if bb l (bg l st.1)=102 then(.mk 2 0 (B #[]) [] [],dM (bX l il (bg l st.1)) st.2.1)
 else if bb l (bg l st.1)=34 then(.mk 4 0 (jU (cL l (bg l st.1))) [] [],dM (cL l (bg l st.1)) st.2.1)
 else if bb l (bg l st.1)=91 then eX l k 5 93 I (bg l st.1,st.2.1,0)
 else if bb l (bg l st.1)=123 then eX l k 6 125 I (bg l st.1,st.2.1,0)
 else kM l (bg l st.1) st.2.1)else(cR,st):=by rw[c8]
theorem lR(l k op c I)(st:RS):eX l (k+1) op c I st=
 if(cPj st I).2.2=0∧bb l (fg l (fV (cPj st I))).1=c then(.mk op 0 (B #[]) [] [],fV (fg l (fV (cPj st I))))
 else fw l k op c I [] [] (fg l (fV (cPj st I))):=by rw[eX]
theorem iZ(l k op c I keys kids)(st:RS):fw l (k+1) op c I keys kids st=if st.2.2=0 then
 (if(c8 l k (I+1) (dP l op keys st).2).2.2.2=0∧bb l (c8 l k (I+1) (dP l op keys st).2).2.1=c then
  (.mk op 0 (B #[]) (dP l op keys st).1 (kids++[(c8 l k (I+1) (dP l op keys st).2).1]),fV (c8 l k (I+1) (dP l op keys st).2).2)
 else fw l k op c I (dP l op keys st).1 (kids++[(c8 l k (I+1) (dP l op keys st).2).1]) (cI l [44] (c8 l k (I+1) (dP l op keys st).2).2))
 else(.mk op 0 (B #[]) keys kids,st):=by rw[fw]
/-! where the reader stands -/
theorem w5{x:PE α}(h:Bd l i x):(dM x p).1<=l.length:=by
 cases x with
 |ok v j=>exact h.2
 |no a w=>exact h.2
theorem mL{w}(h:i<=l.length):(dM (bX l w i) p).1<=l.length:=by
 have hb:=kv (l:=l) (x:=w) h;revert hb
 cases bX l w i with
 |ok v j=>exact fun hb=>hb.2
 |no a w=>exact fun hb=>hb.2
theorem ka(h:st.1<=l.length):(fg l st).1<=l.length:=cA h
theorem cW{w}(h:st.1<=l.length):(cI l w st).1<=l.length:=by
 unfold cI;split;·exact mL h
 exact h
theorem rI{keys}(h:st.1<=l.length):(iQ l keys st).1<=l.length:=by
 have:=w5 (p:=st.2.1) (iC (l:=l) (cA h));unfold iQ;split;·exact this
 exact this
theorem pf{op keys}(h:st.1<=l.length):(dP l op keys st).2.1<=l.length:=by
 unfold dP;split;·exact cW (ka (rI h))
 exact h
theorem AP(h:i<=l.length):(kM l i p).2.1<=l.length:=by
 have h1:(if bb l i=45 then i+1 else i)<=l.length:=by
  split;·rename_i q;exact b8 (by rw[q];decide)
  exact h
 have h2:=(lu (l:=l) h1).2;unfold kM;dsimp only;generalize(if bb l i=45 then i+1 else i)=i1 at h1 h2⊢;split;·exact h1
 dsimp only;split;·exact h2
 exact h2
theorem Jn{r:JV×RS}(h:r.2.1<=l.length):(nM l r).2.1<=l.length:=by
 unfold nM;split;·exact ka h
 exact h
theorem tg(st:RS)(I):(cPj st I).1=st.1:=by unfold cPj;split<;>rfl
structure Ps(l:List UInt8)(k:Nat):Prop where
 v:∀ar st,st.1<=l.length->(c8 l k ar st).2.1<=l.length
 a:∀op c ar st,st.1<l.length->c≠0->(eX l k op c ar st).2.1<=l.length
 g:∀op c ar keys kids st,st.1<=l.length->c≠0->(fw l k op c ar keys kids st).2.1<=l.length
theorem places(l):∀k,Ps l k
 |0=>⟨fun _ _ h=>by unfold c8;exact h,fun _ _ _ _ h _=>by unfold eX;exact Nat.le_of_lt h,fun _ _ _ _ _ _ h _=>by unfold fw;exact h⟩
 |k+1=>by
  have I:=places l k;refine⟨fun J st h=>?_,fun op c J st h M=>?_,fun op c J keys kids st h M=>?_⟩;·
   have hle:=cA h;rw[oP];split;·
    refine Jn ?_;split;·exact mL hle
    split;·exact mL hle
    split;·exact mL hle
    split;·exact w5 (iC hle)
    split;·rename_i q;exact I.a _ _ _ _ (b8 (by rw[q];decide)) (by decide)
    split;·rename_i q;exact I.a _ _ _ _ (b8 (by rw[q];decide)) (by decide)
    exact AP hle
   exact h
  ·
   have h1:(fg l (fV (cPj st J))).1<=l.length:=ka (by show(cPj st J).1+1<=_;rw[tg];exact h);rw[lR];split;·rename_i q;exact b8 (by rw[q.2];exact M)
   exact I.g _ _ _ _ _ _ h1 M
  rw[iZ];have h1:=I.v (J+1) (dP l op keys st).2 (pf h);split;·
   split;·rename_i q;exact b8 (by rw[q.2];exact M)
   exact I.g _ _ _ _ _ _ (cW h1) M
  exact h
/-! need, space and fail at any state -/
theorem ET(s w)(st:RS)(he:st.2.2≠0):bU Tryz.prog 164 [.ptr 0 0,.d (.v (.string w))] [ig s st] 0 (.tup []) [ig s st] 0:=by
 refine bU.dk aW (n:=37) (rs:=[]) Tryz.func164 (by kernel_rfl) Z Tryz.ntmps164 Tryz.results164 Z Z fun C hC J=>aZ 1 Z<|W.block<|W.bY (ι:={x:Nat//match x with|k=>k=0∧True})
  (fun x=>match x.1 with|k=>[(0,.ptr 0 0),(4,.d (.v (.int .i64 ((k:Nat):Int))))]) [(1,_)]
  (fun x=>match x.1 with|k=>[(0,[.d (cs s),.d (.v (.int .i64 (st.1:Int))),.d (.v (.int .i64 st.2.1)),.d (.v (.int .i64 st.2.2))])]) [] [] 1 (fun x=>match x.1 with|k=>k)
  [0] ⟨0,?_⟩ Z ?_ ⟨rfl,rfl,trivial⟩ ?_ trivial Z ?_
 ·exact⟨rfl,trivial⟩
 ·repeat' constructor
 ·repeat' constructor
 rintro⟨k,M,N⟩;show W _ _ _ _ _ ⟨[(0,.ptr 0 0),(4,.d (.v (.int .i64 ((k:Nat):Int)))),(1,_)],[(0,[.d (cs s),.d (.v (.int .i64 (st.1:Int))),.d (.v (.int .i64 st.2.1)),.d (.v (.int .i64 st.2.2))])],[],1⟩;iterate 2 refine ae ?_
 apply bC;(case hb=>rfl);·repeat' first|refine b4 Z Z Z|refine bz Z Z ?_|refine bA Z Z Z Z ?_|refine pE Z ?_|refine ab ?_|(apply bN;(case hj=>rfl);(case hl=>rfl))
 refine qs (ba Z (fun I=>?_) (fun I=>?_));·
  exfalso;revert I;simp[he]
 refine an (bL (bM (bK (ak aW [] trivial Z Z Z Z ?_ ?_))));·exact⟨rfl,trivial⟩
 rfl
theorem eS(s w:ByteArray)(st:RS)(hi:st.1<=s.size)(hs:s.size<=1000000000)(hw:∀b∈aX w,b≠0):bU Tryz.prog 164 [.ptr 0 0,.d (.v (.string w))] [ig s st] 0 (.tup []) [ig s (cI (aX s) (aX w) st)] 0:=by
 unfold cI;split;·
  rename_i e;obtain⟨i,p,I⟩:=st;have e:I=0:=e;subst e;have J:=qO s w i p hi hs hw;revert J;cases hX:bX (aX s) (aX w) i<;>exact fun h=>(by simp only[hX];exact h)
 rename_i e;exact ET s w st e
theorem fF(s:ByteArray)(st:RS)(hi:st.1<=s.size)(hs:s.size<=1000000000):bU Tryz.prog 124 [.ptr 0 0] [ig s st] 0 (.tup []) [ig s (fg (aX s) st)] 0:=pz s st.1 st.2.1 st.2.2 hi hs
theorem sE(s)(st:RS)(w a):bU Tryz.prog 79 [.ptr 0 0,.d (.v (.int .i64 w)),.d (.v (.int .i64 a))] [ig s st] 0 (.tup []) [ig s (sq st w a)] 0:=Al s st.1 st.2.1 st.2.2 w a
theorem kJ(s)(st:RS):bU Tryz.prog 125 [.ptr 0 0] [ig s st] 0 (.d (.v (.int .u8 (bb (aX s) st.1).toNat))) [ig s st] 0:=fy s st.1 st.2.1 st.2.2
theorem nA{r:JV×RS}(h:r.2.2.2=0):nM l r=(r.1,fg l r.2):=by unfold nM;rw[if_pos h]
theorem k9{r:JV×RS}(h:¬r.2.2.2=0):nM l r=r:=by unfold nM;rw[if_neg h]
theorem Bi(s:ByteArray)(k)(hs:s.size<=1000000000)(N)(st:RS)(hi:st.1<=s.size)(hA:∀i p,i<s.size->bb (aX s) i=91->st.1<=i->st.2.2=0->bU Tryz.prog 128 [.ptr 0 0,.d (.v (.int .i64 5)),.d (.v (.int .u8 93)),.d (.v (.int .i64 N))] [fE s i p 0] 0 (.ag (eX (aX s) k 5 93 N (i,p,0)).1.c) [ig s (eX (aX s) k 5 93 N (i,p,0)).2] 0)(hO:∀i p,i<s.size->bb (aX s) i=123->st.1<=i->st.2.2=0->bU Tryz.prog 128 [.ptr 0 0,.d (.v (.int .i64 6)),.d (.v (.int .u8 125)),.d (.v (.int .i64 N))] [fE s i p 0] 0 (.ag (eX (aX s) k 6 125 N (i,p,0)).1.c) [ig s (eX (aX s) k 6 125 N (i,p,0)).2] 0):
 bU Tryz.prog 78 [.ptr 0 0,.d (.v (.int .i64 N))] [ig s st] 0 (.ag (c8 (aX s) (k+1) N st).1.c) [ig s (c8 (aX s) (k+1) N st).2] 0:=by
 obtain⟨i0,p,e⟩:=st;have hi:i0<=s.size:=hi;have I:=oP (aX s) k N (i0,p,e);generalize c8 (aX s) (k+1) N (i0,p,e)=Y at I⊢;have hle:bg (aX s) i0<=s.size:=by have:=cA (l:=aX s) (i:=i0) (by rw[bh];exact hi);rwa[bh]at this
 have b2:=cE (aX s) i0;have b3:=fun(x:JV×RS)(h:x.2.1<=s.size)=>h;have X:bb (aX s) (bg (aX s) i0)≠0->bg (aX s) i0<s.size:=fun h=>by have:=b8 h;rwa[bh]at this
 have hb:∀{j:Nat},j<=(aX s).length->j<=s.size:=fun h=>by rwa[bh]at h
 have O:bg (aX s) i0<=(aX s).length:=by rw[bh];exact hle
 refine bU.dk aW (n:=56) (rs:=[.cell 4 46]) Tryz.func78 (by kernel_rfl) Z Tryz.ntmps78 Tryz.results78 Z Z fun C hC hG=>ae<|aa<|bT aW Z Z Z<|ab<|qs<|ae<|aa<|bT aW Z Z Z<|ab<|qs<|ae<|aZ 5 Z<|ba Z (fun ai=>?_)<|fun ai=>?_;·
  have he:¬e=0:=by simpa using ai
  rw[if_neg he]at I;refine ae<|aa<|aY 1 Z<|be aW Z Z Z Z Z Z Z Z<|ab<|qs ?_;try refine bJ 1 3 Z Z Z ?_
  try refine bJ 1 4 Z Z Z ?_
  refine W.ret (bl (ak aW [] trivial Z Z Z Z ?_ ?_));·
   rw[I];exact⟨rfl,trivial⟩
  rw[I];rfl
 have he:e=0:=by simpa using ai
 subst he;rw[if_pos rfl]at I;dsimp only at I;refine ah<|qs<|ae<|aa<|pE Z<|bu [0] [] Z Z Z Z Z ((pz s i0 p 0 hi hs)) Z Z (by rfl) (by rfl) Z Z Z Z<|ab<|qs<|ae<|ae<|aa<|pE Z<|bu [0] [] Z Z Z Z Z ((fy s (bg (aX s) i0) p 0)) Z Z (by rfl) (by rfl) Z Z Z Z ?_
 refine ab<|qs<|W.block<|aZ 2 Z<|ba Z (fun aj=>?_)<|fun aj=>?_;·
  rw[if_pos (jK (d:=110) aj)]at I;have hw:=uR s (B #[110,117,108,108]) (.mk 1 0 (B #[]) [] []) (bg (aX s) i0) p hle hs (by decide);have hw:bU Tryz.prog 126 [.ptr 0 0,.d (.v (.string (B #[110,117,108,108]))),.ag (JV.mk 1 0 (B #[]) [] []).c] [fE s (bg (aX s) i0) p 0] 0 (.ag (JV.mk 1 0 (B #[]) [] []).c) [ig s (dM (bX (aX s) kN (bg (aX s) i0)) p)] 0:=hw;have M:=hb (mL (w:=kN) (p:=p) O);generalize dM (bX (aX s) kN (bg (aX s) i0)) p=o at I hw M;refine aa (pE Z (pu (build aW Z Z Z Z) Z ?_));try refine gx 21 Z Z Z ?_
  refine bu [0] [] Z Z Z Z Z (hw ..) Z Z (by rfl) (by rfl) Z Z Z Z<|be aW Z Z Z Z Z Z Z Z<|ab<|bW<|qs<|ae<|aZ 5 Z<|ba Z (fun J=>?_)<|fun J=>?_;·
   rw[nA (μ J)]at I;refine aa<|pE Z<|bu [0] [] Z Z Z Z Z ((fF s o M hs)) Z Z (by rfl) (by rfl) Z Z Z Z<|ab<|qs<|ae<|aa<|aY 1 Z<|be aW Z Z Z Z Z Z Z Z<|ab<|qs ?_;try refine bJ 1 3 Z Z Z ?_
   try refine bJ 1 4 Z Z Z ?_
   refine W.ret (ak aW [] trivial Z Z Z Z ?_ ?_);·
    rw[I];exact⟨rfl,trivial⟩
   rw[I];rfl
  rw[k9 (υ J)]at I;refine ah<|qs<|ae<|aa<|aY 1 Z<|be aW Z Z Z Z Z Z Z Z<|ab<|qs ?_;try refine bJ 1 3 Z Z Z ?_
  try refine bJ 1 4 Z Z Z ?_
  refine W.ret (ak aW [] trivial Z Z Z Z ?_ ?_);·
   rw[I];exact⟨rfl,trivial⟩
  rw[I];rfl
 rw[if_neg (kP (d:=110) aj)]at I;refine aZ 2 Z<|ba Z (fun a1=>?_)<|fun a1=>?_;·
  rw[if_pos (jK (d:=116) a1)]at I;have hw:=uR s (B #[116,114,117,101]) (.mk 2 1 (B #[]) [] []) (bg (aX s) i0) p hle hs (by decide);have hw:bU Tryz.prog 126 [.ptr 0 0,.d (.v (.string (B #[116,114,117,101]))),.ag (JV.mk 2 1 (B #[]) [] []).c] [fE s (bg (aX s) i0) p 0] 0 (.ag (JV.mk 2 1 (B #[]) [] []).c) [ig s (dM (bX (aX s) jn (bg (aX s) i0)) p)] 0:=hw;have M:=hb (mL (w:=jn) (p:=p) O);generalize dM (bX (aX s) jn (bg (aX s) i0)) p=o at I hw M;refine aa (pE Z (pu (build aW Z Z Z Z) Z ?_));try refine gx 26 Z Z Z ?_
  refine bu [0] [] Z Z Z Z Z (hw ..) Z Z (by rfl) (by rfl) Z Z Z Z<|be aW Z Z Z Z Z Z Z Z<|ab<|bW<|qs<|ae<|aZ 5 Z<|ba Z (fun J=>?_)<|fun J=>?_;·
   rw[nA (μ J)]at I;refine aa<|pE Z<|bu [0] [] Z Z Z Z Z ((fF s o M hs)) Z Z (by rfl) (by rfl) Z Z Z Z<|ab<|qs<|ae<|aa<|aY 1 Z<|be aW Z Z Z Z Z Z Z Z<|ab<|qs ?_;try refine bJ 1 3 Z Z Z ?_
   try refine bJ 1 4 Z Z Z ?_
   refine W.ret (ak aW [] trivial Z Z Z Z ?_ ?_);·
    rw[I];exact⟨rfl,trivial⟩
   rw[I];rfl
  rw[k9 (υ J)]at I;refine ah<|qs<|ae<|aa<|aY 1 Z<|be aW Z Z Z Z Z Z Z Z<|ab<|qs ?_;try refine bJ 1 3 Z Z Z ?_
  try refine bJ 1 4 Z Z Z ?_
  refine W.ret (ak aW [] trivial Z Z Z Z ?_ ?_);·
   rw[I];exact⟨rfl,trivial⟩
  rw[I];rfl
 rw[if_neg (kP (d:=116) a1)]at I;refine aZ 2 Z<|ba Z (fun a6=>?_)<|fun a6=>?_;·
  rw[if_pos (jK (d:=102) a6)]at I;have hw:=uR s (B #[102,97,108,115,101]) (.mk 2 0 (B #[]) [] []) (bg (aX s) i0) p hle hs (by decide);have hw:bU Tryz.prog 126 [.ptr 0 0,.d (.v (.string (B #[102,97,108,115,101]))),.ag (JV.mk 2 0 (B #[]) [] []).c] [fE s (bg (aX s) i0) p 0] 0 (.ag (JV.mk 2 0 (B #[]) [] []).c) [ig s (dM (bX (aX s) il (bg (aX s) i0)) p)] 0:=hw;have M:=hb (mL (w:=il) (p:=p) O);generalize dM (bX (aX s) il (bg (aX s) i0)) p=o at I hw M;refine aa (pE Z (pu (build aW Z Z Z Z) Z ?_));try refine gx 31 Z Z Z ?_
  refine bu [0] [] Z Z Z Z Z (hw ..) Z Z (by rfl) (by rfl) Z Z Z Z<|be aW Z Z Z Z Z Z Z Z<|ab<|bW<|qs<|ae<|aZ 5 Z<|ba Z (fun J=>?_)<|fun J=>?_;·
   rw[nA (μ J)]at I;refine aa<|pE Z<|bu [0] [] Z Z Z Z Z ((fF s o M hs)) Z Z (by rfl) (by rfl) Z Z Z Z<|ab<|qs<|ae<|aa<|aY 1 Z<|be aW Z Z Z Z Z Z Z Z<|ab<|qs ?_;try refine bJ 1 3 Z Z Z ?_
   try refine bJ 1 4 Z Z Z ?_
   refine W.ret (ak aW [] trivial Z Z Z Z ?_ ?_);·
    rw[I];exact⟨rfl,trivial⟩
   rw[I];rfl
  rw[k9 (υ J)]at I;refine ah<|qs<|ae<|aa<|aY 1 Z<|be aW Z Z Z Z Z Z Z Z<|ab<|qs ?_;try refine bJ 1 3 Z Z Z ?_
  try refine bJ 1 4 Z Z Z ?_
  refine W.ret (ak aW [] trivial Z Z Z Z ?_ ?_);·
   rw[I];exact⟨rfl,trivial⟩
  rw[I];rfl
 rw[if_neg (kP (d:=102) a6)]at I;refine aZ 2 Z<|ba Z (fun a7=>?_)<|fun a7=>?_;·
  rw[if_pos (jK (d:=34) a7)]at I;have hw:=rq s (bg (aX s) i0) p hle hs;have M:=hb (w5 (p:=p) (iC (l:=aX s) O));generalize dM (cL (aX s) (bg (aX s) i0)) p=o at I hw M;generalize jU (cL (aX s) (bg (aX s) i0))=tx at I hw;refine aa<|pE Z<|bu [0] [] Z Z Z Z Z (hw ..) Z Z (by rfl) (by rfl) Z Z Z Z<|pu (build aW Z Z Z Z) Z ?_;try refine gx 37 Z Z Z ?_
  refine be aW Z Z Z Z Z Z Z Z<|ab<|bW<|qs<|ae<|aZ 5 Z<|ba Z (fun J=>?_)<|fun J=>?_;·
   rw[nA (μ J)]at I;refine aa<|pE Z<|bu [0] [] Z Z Z Z Z ((fF s o M hs)) Z Z (by rfl) (by rfl) Z Z Z Z<|ab<|qs<|ae<|aa<|aY 1 Z<|be aW Z Z Z Z Z Z Z Z<|ab<|qs ?_;try refine bJ 1 3 Z Z Z ?_
   try refine bJ 1 4 Z Z Z ?_
   refine W.ret (ak aW [] trivial Z Z Z Z ?_ ?_);·
    rw[I];exact⟨rfl,trivial⟩
   rw[I];rfl
  rw[k9 (υ J)]at I;refine ah<|qs<|ae<|aa<|aY 1 Z<|be aW Z Z Z Z Z Z Z Z<|ab<|qs ?_;try refine bJ 1 3 Z Z Z ?_
  try refine bJ 1 4 Z Z Z ?_
  refine W.ret (ak aW [] trivial Z Z Z Z ?_ ?_);·
   rw[I];exact⟨rfl,trivial⟩
  rw[I];rfl
 rw[if_neg (kP (d:=34) a7)]at I;refine aZ 2 Z<|ba Z (fun a8=>?_)<|fun a8=>?_;·
  have ad:=jK (d:=91) a8;rw[if_pos ad]at I;have hw:=hA (bg (aX s) i0) p (X (by rw[ad];decide)) ad b2 Z;have M:=hb ((places (aX s) k).a 5 93 N (bg (aX s) i0,p,0) (by show _<_;rw[bh];exact X (by rw[ad];decide)) (by decide));generalize eX (aX s) k 5 93 N (bg (aX s) i0,p,0)=R at I hw M;obtain⟨v,o⟩:=R;refine aa<|aY 2 Z<|bu [0] [] Z Z Z Z Z (hw ..) Z Z (by rfl) (by rfl) Z Z Z Z<|be aW Z Z Z Z Z Z Z Z<|ab<|bW<|qs<|ae<|aZ 5 Z<|ba Z (fun J=>?_)<|fun J=>?_;·
   rw[nA (μ J)]at I;refine aa<|pE Z<|bu [0] [] Z Z Z Z Z ((fF s o M hs)) Z Z (by rfl) (by rfl) Z Z Z Z<|ab<|qs<|ae<|aa<|aY 1 Z<|be aW Z Z Z Z Z Z Z Z<|ab<|qs ?_;try refine bJ 1 3 Z Z Z ?_
   try refine bJ 1 4 Z Z Z ?_
   refine W.ret (ak aW [] trivial Z Z Z Z ?_ ?_);·
    rw[I];exact⟨rfl,trivial⟩
   rw[I];rfl
  rw[k9 (υ J)]at I;refine ah<|qs<|ae<|aa<|aY 1 Z<|be aW Z Z Z Z Z Z Z Z<|ab<|qs ?_;try refine bJ 1 3 Z Z Z ?_
  try refine bJ 1 4 Z Z Z ?_
  refine W.ret (ak aW [] trivial Z Z Z Z ?_ ?_);·
   rw[I];exact⟨rfl,trivial⟩
  rw[I];rfl
 rw[if_neg (kP (d:=91) a8)]at I;refine aZ 2 Z<|ba Z (fun b0=>?_)<|fun b0=>?_;·
  have U:=jK (d:=123) b0;rw[if_pos U]at I;have hw:=hO (bg (aX s) i0) p (X (by rw[U];decide)) U b2 Z;have M:=hb ((places (aX s) k).a 6 125 N (bg (aX s) i0,p,0) (by show _<_;rw[bh];exact X (by rw[U];decide)) (by decide));generalize eX (aX s) k 6 125 N (bg (aX s) i0,p,0)=R at I hw M;obtain⟨v,o⟩:=R;refine aa<|aY 2 Z<|bu [0] [] Z Z Z Z Z (hw ..) Z Z (by rfl) (by rfl) Z Z Z Z<|be aW Z Z Z Z Z Z Z Z<|ab<|bW<|qs<|ae<|aZ 5 Z<|ba Z (fun J=>?_)<|fun J=>?_;·
   rw[nA (μ J)]at I;refine aa<|pE Z<|bu [0] [] Z Z Z Z Z ((fF s o M hs)) Z Z (by rfl) (by rfl) Z Z Z Z<|ab<|qs<|ae<|aa<|aY 1 Z<|be aW Z Z Z Z Z Z Z Z<|ab<|qs ?_;try refine bJ 1 3 Z Z Z ?_
   try refine bJ 1 4 Z Z Z ?_
   refine W.ret (ak aW [] trivial Z Z Z Z ?_ ?_);·
    rw[I];exact⟨rfl,trivial⟩
   rw[I];rfl
  rw[k9 (υ J)]at I;refine ah<|qs<|ae<|aa<|aY 1 Z<|be aW Z Z Z Z Z Z Z Z<|ab<|qs ?_;try refine bJ 1 3 Z Z Z ?_
  try refine bJ 1 4 Z Z Z ?_
  refine W.ret (ak aW [] trivial Z Z Z Z ?_ ?_);·
   rw[I];exact⟨rfl,trivial⟩
  rw[I];rfl
 rw[if_neg (kP (d:=123) b0)]at I;have hw:=CY s (bg (aX s) i0) p hle hs;have M:=hb (AP (p:=p) O);generalize kM (aX s) (bg (aX s) i0) p=R at I hw M;obtain⟨v,o⟩:=R;refine aa<|pE Z<|bu [0] [] Z Z Z Z Z (hw ..) Z Z (by rfl) (by rfl) Z Z Z Z<|be aW Z Z Z Z Z Z Z Z<|ab<|bW<|qs<|ae<|aZ 5 Z<|ba Z (fun J=>?_)<|fun J=>?_;·
  rw[nA (μ J)]at I;refine aa<|pE Z<|bu [0] [] Z Z Z Z Z ((fF s o M hs)) Z Z (by rfl) (by rfl) Z Z Z Z<|ab<|qs<|ae<|aa<|aY 1 Z<|be aW Z Z Z Z Z Z Z Z<|ab<|qs ?_;try refine bJ 1 3 Z Z Z ?_
  try refine bJ 1 4 Z Z Z ?_
  refine W.ret (ak aW [] trivial Z Z Z Z ?_ ?_);·
   rw[I];exact⟨rfl,trivial⟩
  rw[I];rfl
 rw[k9 (υ J)]at I;refine ah<|qs<|ae<|aa<|aY 1 Z<|be aW Z Z Z Z Z Z Z Z<|ab<|qs ?_;try refine bJ 1 3 Z Z Z ?_
 try refine bJ 1 4 Z Z Z ?_
 refine W.ret (ak aW [] trivial Z Z Z Z ?_ ?_);·
  rw[I];exact⟨rfl,trivial⟩
 rw[I];rfl
theorem BD{x:PE α}(h:Bd l i x):i<=(dM x p).1:=by
 cases x with
 |ok v j=>exact Nat.le_of_lt h.1
 |no a w=>exact h.1
theorem tL{w}(h:i<=l.length):i<=(dM (bX l w i) p).1:=by
 have hb:=Gz (l:=l) (x:=w) h;revert hb
 cases bX l w i with
 |ok v j=>exact fun hb=>hb
 |no a w=>exact fun hb=>hb
theorem yn{w}(h:st.1<=l.length):st.1<=(cI l w st).1:=by
 unfold cI;split;·exact tL h
 exact ω _
theorem ta(l)(st:RS):st.1<=(fg l st).1:=cE l st.1
theorem uY{op keys}(h:st.1<=l.length):st.1<=(dP l op keys st).2.1:=by
 unfold dP;split;·
  have h1:=cE l st.1;have h2:=BD (p:=st.2.1) (iC (l:=l) (cA h));have h3:(iQ l keys st).1=(dM (cL l (bg l st.1)) st.2.1).1:=by unfold iQ;split<;>rfl
  have h4:=ta l (iQ l keys st);have h5:=yn (w:=[58]) (ka (rI (keys:=keys) h));show st.1<=(cI l [58] (fg l (iQ l keys st))).1;omega
 exact ω _
theorem FX(h:i<=l.length):i<=(kM l i p).2.1:=by
 have h1:i<=(if bb l i=45 then i+1 else i)∧(if bb l i=45 then i+1 else i)<=l.length:=by
  split;·rename_i q;exact⟨Nat.le_succ _,b8 (by rw[q];decide)⟩
  exact⟨ω _,h⟩
 have h2:=(lu (l:=l) h1.2).1;unfold kM;dsimp only;generalize(if bb l i=45 then i+1 else i)=i1 at h1 h2⊢;split;·exact h1.1
 dsimp only;split;·exact B' h1.1 h2
 exact B' h1.1 h2
theorem Ib{r:JV×RS}(h:i<=r.2.1):i<=(nM l r).2.1:=by
 unfold nM;split;·exact B' h (ta l r.2)
 exact h
structure Qs(l:List UInt8)(k:Nat):Prop where
 v:∀ar st,st.1<=l.length->st.1<=(c8 l k ar st).2.1
 a:∀op c ar st,st.1<l.length->c≠0->st.1<=(eX l k op c ar st).2.1
 g:∀op c ar keys kids st,st.1<=l.length->c≠0->st.1<=(fw l k op c ar keys kids st).2.1
theorem si(l):∀k,Qs l k
 |0=>⟨fun _ _ _=>by unfold c8;exact ω _,fun _ _ _ _ _ _=>by unfold eX;exact ω _,fun _ _ _ _ _ _ _ _=>by unfold fw;exact ω _⟩
 |k+1=>by
  have J:=si l k;have pl:=places l k;refine⟨fun I st h=>?_,fun op c I st h M=>?_,fun op c I keys kids st h M=>?_⟩;·
   have hle:=cA h;have N:=cE l st.1;rw[oP];split;·
    refine Ib (B' N ?_);split;·exact tL hle
    split;·exact tL hle
    split;·exact tL hle
    split;·exact BD (iC hle)
    split;·rename_i q;exact J.a 5 93 I (bg l st.1,st.2.1,0) (b8 (by rw[q];decide)) (by decide)
    split;·rename_i q;exact J.a 6 125 I (bg l st.1,st.2.1,0) (b8 (by rw[q];decide)) (by decide)
    exact FX hle
   exact ω _
  ·
   have h0:(cPj st I).1=st.1:=tg st I;have h1:(fg l (fV (cPj st I))).1<=l.length:=ka (by show(cPj st I).1+1<=_;rw[tg];exact h);have h2:(cPj st I).1+1<=(fg l (fV (cPj st I))).1:=ta l (fV (cPj st I));rw[lR];split;·show st.1<=(fg l (fV (cPj st I))).1+1;omega
   have:=J.g op c I [] [] _ h1 M;omega
  rw[iZ];have h0:=uY (op:=op) (keys:=keys) h;have h1:=pl.v (I+1) (dP l op keys st).2 (pf h);have h2:=J.v (I+1) (dP l op keys st).2 (pf h);split;·
   split;·show st.1<=(c8 l k (I+1) (dP l op keys st).2).2.1+1;omega
   have h3:=yn (w:=[44]) h1;have:=J.g op c I (dP l op keys st).1 (kids++[(c8 l k (I+1) (dP l op keys st).2).1]) _ (cW (w:=[44]) h1) M;omega
  exact ω _
theorem gv{c}(h:(cI l [c] st).2.2=0):(cI l [c] st).1=st.1+1:=by
 unfold cI at h⊢;by_cases q:st.2.2=0;·
  rw[if_pos q]at h⊢;have hw:bX l [c] st.1=cn l c st.1:=by simp only[bX];cases cn l c st.1<;>rfl
  rw[hw]at h⊢;unfold cn at h⊢;by_cases q2:st.1<l.length∧bb l st.1=c;·rw[if_pos q2];rfl
  rw[if_neg q2]at h;exact absurd (show(10:Int)=0 from h) (by decide)
 rw[if_neg q]at h;exact absurd h q
theorem lP(op)(keys:List ByteArray)(acc:List JV):(JV.mk op 0 (B #[]) keys acc).c=[ci op,ci 0,cs (B #[]),.sl (keys.map sc),.sl (acc.map JV.c)]:=by simp[JV.c,JV.px,JV.op,JV.n,JV.s,JV.keys,JV.kids]
set_option maxHeartbeats 4000000 in
theorem Dh(s:ByteArray)(K)(hs:s.size<=1000000000)(er:K<=4000000000)(ar)(e0:0<=ar∧ar<=1000)(hV:∀k,k<K->∀st:RS,st.1<=s.size->(st.2.2=0->ar+1<=16∧3*(s.size-st.1)+1<=k)->bU Tryz.prog 78 [.ptr 0 0,.d (.v (.int .i64 (ar+1)))] [ig s st] 0 (.ag (c8 (aX s) k (ar+1) st).1.c) [ig s (c8 (aX s) k (ar+1) st).2] 0)(op)(c:UInt8)(hc:c≠0)(i p)(hi:i<s.size)(hK:3*(s.size-i)<=K)(e1:1<=K):
 bU Tryz.prog 128 [.ptr 0 0,.d (.v (.int .i64 op)),.d (.v (.int .u8 c.toNat)),.d (.v (.int .i64 ar))] [fE s i p 0] 0 (.ag (eX (aX s) K op c ar (i,p,0)).1.c) [ig s (eX (aX s) K op c ar (i,p,0)).2] 0:=by
 obtain⟨K',rfl⟩:∃K',K=K'+1:=⟨K-1,by omega⟩;have hg:=lR (aX s) K' op c ar (i,p,0);generalize eX (aX s) (K'+1) op c ar (i,p,0)=Y at hg⊢;obtain⟨hd,c1⟩:∃hd,hd=cPj (i,p,0) ar:=⟨_,rfl⟩;have ed:hd.1=i:=by rw[c1];exact tg _ _
 have dx:hd.2.2=0->ar+1<=16:=fun h=>by
  rw[c1]at h;unfold cPj at h;split at h;·exact absurd (show(20:Int)=0 from h) (by decide)
  omega
 rw[<-c1]at hg;have b3:∀j,bb (aX s) j=c->j<s.size:=fun j h=>by have:=b8 (l:=aX s) (i:=j) (by rw[h];exact hc);rwa[bh]at this
 have hb:∀{j:Nat},j<=(aX s).length->j<=s.size:=fun h=>by rwa[bh]at h
 have J:∀{j:Nat},j<=s.size->j<=(aX s).length:=fun h=>by rwa[bh]
 have a1:∀(b:UInt8),decide ((b.toNat:Int)=(c.toNat:Int))=true->b=c:=fun b h=>UInt8.toNat_inj.1 (by have:=μ h;omega);have ch:∀(b:UInt8),decide ((b.toNat:Int)=(c.toNat:Int))=false->b≠c:=fun b h e=>by rw[e]at h;simp at h
 have s1:(fg (aX s) (fV hd)).1<=s.size:=hb (ka (by show hd.1+1<=_;rw[bh,ed];exact hi));have e2:i+1<=(fg (aX s) (fV hd)).1:=by have:=ta (aX s) (fV hd);have e:(fV hd).1=hd.1+1:=rfl;omega
 refine bU.dk aW (n:=113) (rs:=[.cell 8 46]) Tryz.func128 (by kernel_rfl) Z Tryz.ntmps128 Tryz.results128 Z Z fun C hC hG=>ae<|aa<|bT aW Z Z Z<|ab<|qs<|ae<|aa<|pE Z<|pu (build aW Z Z Z Z) Z<|bT aW Z Z Z<|be aW Z Z Z Z Z Z Z Z<|ab<|qs<|ae<|aZ 2 Z<|W.kV [(0,.ptr 0 0),(1,.d (.v (.int .i64 op))),(2,.d (.v (.int .u8 c.toNat))),(3,.d (.v (.int .i64 ar))),(8,.ptr 1 0),(9,.ptr 2 0)] [] [(0,[.d (cs s),.d (.v (.int .i64 (hd.1:Int))),.d (.v (.int .i64 hd.2.1)),.d (.v (.int .i64 hd.2.2))])] [1,2] [] 3 ?_ ?_;·
  refine ba Z (fun di=>?_) (fun di=>?_);·
   have dj:16<=ar:=by simp at di;omega
   have e:hd=sq (i,p,0) 20 (i:Int):=by rw[c1];unfold cPj;rw[if_pos dj]
   subst e;refine aa<|aY 5 Z<|bu [0] [] Z Z Z Z Z ((sE s (i,p,0) 20 (i:Int))) Z Z (by rfl) (by rfl) Z Z Z Z<|ab<|cZ [0,1,2] Z ?_ trivial ?_ ⟨rfl,rfl,rfl,rfl,trivial⟩ Z;·repeat' constructor
   repeat' constructor
  have dj:¬16<=ar:=by simp at di;omega
  have e:hd=(i,p,0):=by rw[c1];unfold cPj;rw[if_neg dj]
  subst e;refine ah (cZ [0,1,2] Z ?_ trivial ?_ ⟨rfl,rfl,rfl,rfl,trivial⟩ Z);·repeat' constructor
  repeat' constructor
 refine qs<|ae<|aa<|aY 4 Z<|pu (b5 (ev aW Z) (y:=((hd.1+1:Nat):Int)) (wrap64 (by omega))) Z<|aY 2 Z<|be aW Z Z Z Z Z Z Z Z<|ab<|qs<|ae<|aa<|pE Z<|bu [0] [] Z Z Z Z Z ((fF s (fV hd) (by show hd.1+1<=_;omega) hs)) Z Z (by rfl) (by rfl) Z Z Z Z<|ab<|qs<|ae<|ae<|aa<|aY 6 Z ?_
 refine gz Z Z (fun c6=>?_) (fun c6=>?_);·
  refine bz Z Z<|pE Z<|bz Z Z<|bu [0] [] Z Z Z Z Z ((kJ s (fg (aX s) (fV hd)))) Z Z (by rfl) (by rfl) Z Z Z Z<|bz Z Z<|pE Z<|bz Z Z<|aY 2 Z<|ab<|qs<|ba Z (fun df=>?_)<|fun df=>?_;·
   rw[if_pos ⟨μ c6,a1 _ df⟩]at hg;have b2:=b3 _ (a1 _ df);refine ae<|aa<|aY 4 Z<|pu (b5 (ev aW Z) (y:=(((fg (aX s) (fV hd)).1+1:Nat):Int)) (wrap64 (by omega))) Z<|aY 2 Z<|be aW Z Z Z Z Z Z Z Z<|ab<|qs<|ae<|aa<|aY 1 Z<|be aW Z Z Z Z Z Z Z Z<|ab<|qs ?_;try refine bJ 1 3 Z Z Z ?_
   try refine bJ 1 4 Z Z Z ?_
   refine W.ret (bl (ak aW [] trivial Z Z Z Z ?_ ?_));·
    rw[hg];exact⟨rfl,trivial⟩
   rw[hg];rfl
  rw[if_neg (fun q=>by first|exact ch _ df q.2|exact υ c6 q.1)]at hg;refine ah (qs (ae (W.block ?_)));try rw[if_neg (fun q=>υ c6 q.1)]at hg
  refine W.gen 6 Z<|ey 2 3 Z Z Z<|ey 2 4 Z Z Z<|W.bY (ι:={x:Nat×List ByteArray×List JV×RS//match x with|(k,keys,kids,st)=>k<=K'∧st.1<=s.size∧keys.length+k<=K'∧kids.length+k<=K'∧(st.2.2=0->ar+1<=16∧3*(s.size-st.1)+2<=k)∧fw (aX s) k op c ar keys kids st=Y})
   (fun x=>match x.1 with|(k,keys,kids,st)=>[(0,.ptr 0 0),(1,.d (.v (.int .i64 op))),(2,.d (.v (.int .u8 c.toNat))),(3,.d (.v (.int .i64 ar))),(8,.ptr 1 0),(9,.ptr 2 0)]) []
   (fun x=>match x.1 with|(k,keys,kids,st)=>[(0,[.d (cs s),.d (.v (.int .i64 (st.1:Int))),.d (.v (.int .i64 st.2.1)),.d (.v (.int .i64 st.2.2))]),(2,[.d (ci op),.d (ci 0),.d (cs (B #[])),.own 3 (keys.map sc),.own 4 (kids.map JV.c)])]) [(1,_)] [4,3] 5 (fun x=>match x.1 with|(k,keys,kids,st)=>k)
   [0,1,2,6,7] ⟨(K',[],[],fg (aX s) (fV hd)),?_⟩ Z ?_ trivial ?_ ⟨rfl,rfl,trivial⟩ Z ?_
  ·exact⟨ω _,s1,Nat.le_of_eq (Nat.zero_add _),Nat.le_of_eq (Nat.zero_add _),fun h=>⟨dx h,by omega⟩,hg.symm⟩
  ·repeat' constructor
  ·repeat' constructor
  rintro⟨⟨k,keys,kids,st⟩,ei,dt,ej,en,hF,I⟩;show W _ _ _ _ _ ⟨[(0,.ptr 0 0),(1,.d (.v (.int .i64 op))),(2,.d (.v (.int .u8 c.toNat))),(3,.d (.v (.int .i64 ar))),(8,.ptr 1 0),(9,.ptr 2 0)],[(0,[.d (cs s),.d (.v (.int .i64 (st.1:Int))),.d (.v (.int .i64 st.2.1)),.d (.v (.int .i64 st.2.2))]),(2,[.d (ci op),.d (ci 0),.d (cs (B #[])),.own 3 (keys.map sc),.own 4 (kids.map JV.c)]),(1,_)],[4,3],5⟩;refine ae<|aZ 5 Z<|ba Z (fun cj=>?_)<|fun cj=>?_;·
   obtain⟨j,q,e⟩:=st;have he:e=0:=μ cj;subst he;have hj:j<=s.size:=dt;obtain⟨ad,c7⟩:=hF Z;have c7:3*(s.size-j)+2<=k:=c7;obtain⟨U,rfl⟩:∃U,k=U+1:=⟨k-1,by omega⟩;rw[iZ,if_pos rfl]at I;have X:=hb (pf (l:=aX s) (op:=op) (keys:=keys) (st:=(j,q,0)) (J hj));have ai:=uY (l:=aX s) (op:=op) (keys:=keys) (st:=(j,q,0)) (J hj);have ai:j<=(dP (aX s) op keys (j,q,0)).2.1:=ai;have hle:=hb (cA (l:=aX s) (i:=j) (J hj));refine ah<|qs<|W.block<|ae<|aZ 2 Z<|ba Z (fun cl=>?_)<|fun cl=>?_;·
    have cq:op=6:=μ cl;have hT:=rq s (bg (aX s) j) q hle hs;have a8:dP (aX s) op keys (j,q,0)=(keys++[jU (cL (aX s) (bg (aX s) j))],cI (aX s) [58] (fg (aX s) (iQ (aX s) keys (j,q,0)))):=by unfold dP;rw[if_pos cq]
    obtain⟨o2,cx⟩:∃o2,o2=iQ (aX s) keys (j,q,0):=⟨_,rfl⟩;have a6:o2.1<=s.size:=by rw[cx];exact hb (rI (J hj))
    have a7:o2=if hasB keys (jU (cL (aX s) (bg (aX s) j)))=true then sq (dM (cL (aX s) (bg (aX s) j)) q) 4 (bg (aX s) j)else dM (cL (aX s) (bg (aX s) j)) q:=cx;rw[<-cx]at a8;rw[a8]at I X ai;generalize dM (cL (aX s) (bg (aX s) j)) q=o at hT a7;generalize jU (cL (aX s) (bg (aX s) j))=tx at hT a7 a8 I X ai;dsimp only at I X ai;have hv:=hV U (by omega) _ X (fun _=>⟨ad,by omega⟩);have M:=hb ((places (aX s) U).v (ar+1) _ (J X));have b0:=(si (aX s) U).v (ar+1) _ (J X);generalize c8 (aX s) U (ar+1) (cI (aX s) [58] (fg (aX s) o2))=V at I hv M b0;refine ae<|aa<|pE Z<|bu [0] [] Z Z Z Z Z ((pz s j q 0 hj hs)) Z Z (by rfl) (by rfl) Z Z Z Z<|ab<|qs<|aZ 5 Z<|ae<|aa<|pE Z<|bu [0] [] Z Z Z Z Z (hT ..) Z Z (by rfl) (by rfl) Z Z Z Z<|pE Z<|ab<|qs<|ae<|ae<|aa<|aY 3 Z ?_
    refine pu (bm Z Z Z (uK keys tx) Z) Z<|ab<|qs<|ba Z (fun cy=>?_)<|fun cy=>?_;·
     have e:o2=sq o 4 (bg (aX s) j:Int):=by rw[a7,if_pos (show hasB keys tx=true from cy)]
     subst e;refine aa<|aY 2 Z<|bu [0] [] Z Z Z Z Z ((sE s o 4 (bg (aX s) j:Int))) Z Z (by rfl) (by rfl) Z Z Z Z<|ab<|qs<|ae<|W.gen 8 Z<|aa<|aY 3 Z<|pu (bR aW Z Z Z Z Z Z Z Z Z) Z<|dF (fn:=sc) (a:=tx) aW Z Z Z Z Z Z Z Z Z Z (fun _=>rfl) (by show(keys.length+1)*16<=_;omega)<|pE Z<|be aW Z Z Z Z Z Z Z Z<|ab<|qs<|ae<|aa<|pE Z<|bu [0] [] Z Z Z Z Z ((fF s _ a6 hs)) Z Z (by rfl) (by rfl) Z Z Z Z<|ab<|qs<|aa<|pE Z<|bu [0] [] Z Z Z Z Z ((eS s (B #[58]) _ (hb (ka (J a6))) hs (by decide))) Z Z (by rfl) (by rfl) Z Z Z Z<|ab<|qs<|ae<|W.gen 11 Z ?_;apply W.fb aW 7 5;(case hB=>kernel_rfl);(case h1=>rfl);(case h2=>rfl);refine' cd ?p1_1 (ev aW Z) Z Z Z Z Z ?h_1;case' h_1=>skip
     refine' cd ?p1_2 (ev aW Z) Z Z Z Z Z ?h_2;case' h_2=>skip
     refine' eJ (ev aW Z) Z Z Z Z Z ?h_3;case' h_3=>skip
     refine' cd ?p1_4 (ev aW Z) Z Z Z Z Z ?h_4;case' h_4=>skip
     refine' eJ (b5 (ev aW Z) (y:=ar+1) (wrap64 (by omega))) Z Z Z Z Z ?h_5;case' h_5=>skip
     refine' qu (fun g=>?e_6) Z Z Z ?h_6;case e_6=>refine bu [0] [] Z Z Z Z Z (hv ..) Z Z (by rfl) (by rfl) Z Z Z Z ?_;refine ab ?_;exact⟨rfl,rfl⟩
     case' h_6=>skip
     case p1_1=>exact(ev aW Z)
     case p1_2=>exact(ev aW Z)
     case p1_4=>exact(ev aW Z)
     refine nV (bR aW Z Z Z Z Z Z Z Z Z) Z Z Z Z Z<|au<|dF (fn:=JV.c) (a:=V.1) aW Z Z Z Z Z Z Z Z Z Z (fun _=>rfl) (by show(kids.length+1)*80<=_;omega)<|pE Z<|be aW Z Z Z Z Z Z Z Z<|ab<|qs<|ae<|ae<|aa<|aY 6 Z ?_
     refine gz Z Z (fun O=>?_) (fun O=>?_);·
      refine bz Z Z<|pE Z<|bz Z Z<|bu [0] [] Z Z Z Z Z ((kJ s V.2)) Z Z (by rfl) (by rfl) Z Z Z Z<|bz Z Z<|pE Z<|bz Z Z<|aY 2 Z<|ab<|qs<|ba Z (fun N=>?_)<|fun N=>?_;·
       rw[if_pos ⟨μ O,a1 _ N⟩]at I;have b2:=b3 _ (a1 _ N);refine ae<|aa<|aY 4 Z<|pu (b5 (ev aW Z) (y:=((V.2.1+1:Nat):Int)) (wrap64 (by omega))) Z<|aY 2 Z<|be aW Z Z Z Z Z Z Z Z<|ab<|qs<|ae<|aa<|aY 1 Z<|be aW Z Z Z Z Z Z Z Z<|ab<|qs ?_;try refine bJ 1 3 Z Z Z ?_
       try refine bJ 1 4 Z Z Z ?_
       refine W.ret (bl (bw (cN (bw (bl (ak aW [] trivial Z Z Z Z ?_ ?_))))));·(rw[<-I];exact⟨rfl,trivial⟩)
       (rw[<-I,lP];rfl)
      rw[if_neg (fun q=>by first|exact ch _ N q.2|exact υ O q.1)]at I;refine ah (qs ?_);try rw[if_neg (fun q=>υ O q.1)]at I
      refine aa<|pE Z<|bu [0] [] Z Z Z Z Z ((eS s (B #[44]) V.2 M hs (by decide))) Z Z (by rfl) (by rfl) Z Z Z Z<|ab<|bW<|W.bZ [0,1,2,8,12] ⟨(U,keys++[tx],kids++[V.1],cI (aX s) [44] V.2),?_⟩ ?_ Z ?_ trivial ?_ ⟨rfl,rfl,trivial⟩ Z;·exact⟨by omega,hb (cW (J M)),by first|(rw[ν,Φ];omega)|omega,by rw[ν,Φ];omega,fun h=>⟨ad,by have:=gv (l:=aX s) (c:=44) (st:=V.2) h;have aj:=hb (cW (l:=aX s) (w:=[44]) (J M));show 3*(s.size-(cI (aX s) [44] V.2).1)+2<=U;omega⟩,I⟩
      ·dsimp only;omega
      ·repeat' constructor
      repeat' constructor
     refine bA Z Z Z Z<|bA Z Z Z Z<|bA Z Z Z Z<|bA Z Z Z Z<|pE Z<|ab<|qs<|W.oa Z<|ah<|qs ?_
     try rw[if_neg (fun q=>υ O q.1)]at I
     refine aa<|pE Z<|bu [0] [] Z Z Z Z Z ((eS s (B #[44]) V.2 M hs (by decide))) Z Z (by rfl) (by rfl) Z Z Z Z<|ab<|bW<|W.bZ [0,1,2,8,12] ⟨(U,keys++[tx],kids++[V.1],cI (aX s) [44] V.2),?_⟩ ?_ Z ?_ trivial ?_ ⟨rfl,rfl,trivial⟩ Z;·exact⟨by omega,hb (cW (J M)),by first|(rw[ν,Φ];omega)|omega,by rw[ν,Φ];omega,fun h=>⟨ad,by have:=gv (l:=aX s) (c:=44) (st:=V.2) h;have aj:=hb (cW (l:=aX s) (w:=[44]) (J M));show 3*(s.size-(cI (aX s) [44] V.2).1)+2<=U;omega⟩,I⟩
     ·dsimp only;omega
     ·repeat' constructor
     repeat' constructor
    have e:o2=o:=by rw[a7,if_neg (by show ¬hasB keys tx=true;rw[show hasB keys tx=false from cy];decide)]
    subst e;refine ah<|qs<|ae<|W.gen 8 Z<|aa<|aY 3 Z<|pu (bR aW Z Z Z Z Z Z Z Z Z) Z<|dF (fn:=sc) (a:=tx) aW Z Z Z Z Z Z Z Z Z Z (fun _=>rfl) (by show(keys.length+1)*16<=_;omega)<|pE Z<|be aW Z Z Z Z Z Z Z Z<|ab<|qs<|ae<|aa<|pE Z<|bu [0] [] Z Z Z Z Z ((fF s _ a6 hs)) Z Z (by rfl) (by rfl) Z Z Z Z<|ab<|qs<|aa<|pE Z<|bu [0] [] Z Z Z Z Z ((eS s (B #[58]) _ (hb (ka (J a6))) hs (by decide))) Z Z (by rfl) (by rfl) Z Z Z Z<|ab<|qs<|ae<|W.gen 11 Z ?_;apply W.fb aW 7 5;(case hB=>kernel_rfl);(case h1=>rfl);(case h2=>rfl);refine' cd ?p1_8 (ev aW Z) Z Z Z Z Z ?h_8;case' h_8=>skip
    refine' cd ?p1_9 (ev aW Z) Z Z Z Z Z ?h_9;case' h_9=>skip
    refine' eJ (ev aW Z) Z Z Z Z Z ?h_10;case' h_10=>skip
    refine' cd ?p1_11 (ev aW Z) Z Z Z Z Z ?h_11;case' h_11=>skip
    refine' eJ (b5 (ev aW Z) (y:=ar+1) (wrap64 (by omega))) Z Z Z Z Z ?h_12;case' h_12=>skip
    refine' qu (fun g=>?e_13) Z Z Z ?h_13;case e_13=>refine bu [0] [] Z Z Z Z Z (hv ..) Z Z (by rfl) (by rfl) Z Z Z Z ?_;refine ab ?_;exact⟨rfl,rfl⟩
    case' h_13=>skip
    case p1_8=>exact(ev aW Z)
    case p1_9=>exact(ev aW Z)
    case p1_11=>exact(ev aW Z)
    refine nV (bR aW Z Z Z Z Z Z Z Z Z) Z Z Z Z Z<|au<|dF (fn:=JV.c) (a:=V.1) aW Z Z Z Z Z Z Z Z Z Z (fun _=>rfl) (by show(kids.length+1)*80<=_;omega)<|pE Z<|be aW Z Z Z Z Z Z Z Z<|ab<|qs<|ae<|ae<|aa<|aY 6 Z ?_
    refine gz Z Z (fun O=>?_) (fun O=>?_);·
     refine bz Z Z<|pE Z<|bz Z Z<|bu [0] [] Z Z Z Z Z ((kJ s V.2)) Z Z (by rfl) (by rfl) Z Z Z Z<|bz Z Z<|pE Z<|bz Z Z<|aY 2 Z<|ab<|qs<|ba Z (fun N=>?_)<|fun N=>?_;·
      rw[if_pos ⟨μ O,a1 _ N⟩]at I;have b2:=b3 _ (a1 _ N);refine ae<|aa<|aY 4 Z<|pu (b5 (ev aW Z) (y:=((V.2.1+1:Nat):Int)) (wrap64 (by omega))) Z<|aY 2 Z<|be aW Z Z Z Z Z Z Z Z<|ab<|qs<|ae<|aa<|aY 1 Z<|be aW Z Z Z Z Z Z Z Z<|ab<|qs ?_;try refine bJ 1 3 Z Z Z ?_
      try refine bJ 1 4 Z Z Z ?_
      refine W.ret (bl (bw (cN (bw (bl (ak aW [] trivial Z Z Z Z ?_ ?_))))));·(rw[<-I];exact⟨rfl,trivial⟩)
      (rw[<-I,lP];rfl)
     rw[if_neg (fun q=>by first|exact ch _ N q.2|exact υ O q.1)]at I;refine ah (qs ?_);try rw[if_neg (fun q=>υ O q.1)]at I
     refine aa<|pE Z<|bu [0] [] Z Z Z Z Z ((eS s (B #[44]) V.2 M hs (by decide))) Z Z (by rfl) (by rfl) Z Z Z Z<|ab<|bW<|W.bZ [0,1,2,8,12] ⟨(U,keys++[tx],kids++[V.1],cI (aX s) [44] V.2),?_⟩ ?_ Z ?_ trivial ?_ ⟨rfl,rfl,trivial⟩ Z;·exact⟨by omega,hb (cW (J M)),by first|(rw[ν,Φ];omega)|omega,by rw[ν,Φ];omega,fun h=>⟨ad,by have:=gv (l:=aX s) (c:=44) (st:=V.2) h;have aj:=hb (cW (l:=aX s) (w:=[44]) (J M));show 3*(s.size-(cI (aX s) [44] V.2).1)+2<=U;omega⟩,I⟩
     ·dsimp only;omega
     ·repeat' constructor
     repeat' constructor
    refine bA Z Z Z Z<|bA Z Z Z Z<|bA Z Z Z Z<|bA Z Z Z Z<|pE Z<|ab<|qs<|W.oa Z<|ah<|qs ?_
    try rw[if_neg (fun q=>υ O q.1)]at I
    refine aa<|pE Z<|bu [0] [] Z Z Z Z Z ((eS s (B #[44]) V.2 M hs (by decide))) Z Z (by rfl) (by rfl) Z Z Z Z<|ab<|bW<|W.bZ [0,1,2,8,12] ⟨(U,keys++[tx],kids++[V.1],cI (aX s) [44] V.2),?_⟩ ?_ Z ?_ trivial ?_ ⟨rfl,rfl,trivial⟩ Z;·exact⟨by omega,hb (cW (J M)),by first|(rw[ν,Φ];omega)|omega,by rw[ν,Φ];omega,fun h=>⟨ad,by have:=gv (l:=aX s) (c:=44) (st:=V.2) h;have aj:=hb (cW (l:=aX s) (w:=[44]) (J M));show 3*(s.size-(cI (aX s) [44] V.2).1)+2<=U;omega⟩,I⟩
    ·dsimp only;omega
    ·repeat' constructor
    repeat' constructor
   have cq:¬op=6:=υ cl;have a8:dP (aX s) op keys (j,q,0)=(keys,(j,q,0)):=by unfold dP;rw[if_neg cq]
   rw[a8]at I X ai;dsimp only at I X ai;have hv:=hV U (by omega) (j,q,0) X (fun _=>⟨ad,by show 3*(s.size-j)+1<=U;omega⟩);have M:=hb ((places (aX s) U).v (ar+1) (j,q,0) (J X));have b0:=(si (aX s) U).v (ar+1) (j,q,0) (J X);have b0:j<=(c8 (aX s) U (ar+1) (j,q,0)).2.1:=b0;generalize c8 (aX s) U (ar+1) (j,q,0)=V at I hv M b0;refine ah (qs (ae (W.gen 11 Z ?_)));apply W.fb aW 7 5;(case hB=>kernel_rfl);(case h1=>rfl);(case h2=>rfl);refine' cd ?p1_15 (ev aW Z) Z Z Z Z Z ?h_15;case' h_15=>skip
   refine' cd ?p1_16 (ev aW Z) Z Z Z Z Z ?h_16;case' h_16=>skip
   refine' eJ (ev aW Z) Z Z Z Z Z ?h_17;case' h_17=>skip
   refine' cd ?p1_18 (ev aW Z) Z Z Z Z Z ?h_18;case' h_18=>skip
   refine' eJ (b5 (ev aW Z) (y:=ar+1) (wrap64 (by omega))) Z Z Z Z Z ?h_19;case' h_19=>skip
   refine' qu (fun g=>?e_20) Z Z Z ?h_20;case e_20=>refine bu [0] [] Z Z Z Z Z (hv ..) Z Z (by rfl) (by rfl) Z Z Z Z ?_;refine ab ?_;exact⟨rfl,rfl⟩
   case' h_20=>skip
   case p1_15=>exact(ev aW Z)
   case p1_16=>exact(ev aW Z)
   case p1_18=>exact(ev aW Z)
   refine nV (bR aW Z Z Z Z Z Z Z Z Z) Z Z Z Z Z<|au<|dF (fn:=JV.c) (a:=V.1) aW Z Z Z Z Z Z Z Z Z Z (fun _=>rfl) (by show(kids.length+1)*80<=_;omega)<|pE Z<|be aW Z Z Z Z Z Z Z Z<|ab<|qs<|ae<|ae<|aa<|aY 6 Z ?_
   refine gz Z Z (fun O=>?_) (fun O=>?_);·
    refine bz Z Z<|pE Z<|bz Z Z<|bu [0] [] Z Z Z Z Z ((kJ s V.2)) Z Z (by rfl) (by rfl) Z Z Z Z<|bz Z Z<|pE Z<|bz Z Z<|aY 2 Z<|ab<|qs<|ba Z (fun N=>?_)<|fun N=>?_;·
     rw[if_pos ⟨μ O,a1 _ N⟩]at I;have b2:=b3 _ (a1 _ N);refine ae<|aa<|aY 4 Z<|pu (b5 (ev aW Z) (y:=((V.2.1+1:Nat):Int)) (wrap64 (by omega))) Z<|aY 2 Z<|be aW Z Z Z Z Z Z Z Z<|ab<|qs<|ae<|aa<|aY 1 Z<|be aW Z Z Z Z Z Z Z Z<|ab<|qs ?_;try refine bJ 1 3 Z Z Z ?_
     try refine bJ 1 4 Z Z Z ?_
     refine W.ret (bl (bw (cN (bw (bl (ak aW [] trivial Z Z Z Z ?_ ?_))))));·(rw[<-I];exact⟨rfl,trivial⟩)
     (rw[<-I,lP];rfl)
    rw[if_neg (fun q=>by first|exact ch _ N q.2|exact υ O q.1)]at I;refine ah (qs ?_);try rw[if_neg (fun q=>υ O q.1)]at I
    refine aa<|pE Z<|bu [0] [] Z Z Z Z Z ((eS s (B #[44]) V.2 M hs (by decide))) Z Z (by rfl) (by rfl) Z Z Z Z<|ab<|bW<|W.bZ [0,1,2,3,12] ⟨(U,keys,kids++[V.1],cI (aX s) [44] V.2),?_⟩ ?_ Z ?_ trivial ?_ ⟨rfl,rfl,trivial⟩ Z;·exact⟨by omega,hb (cW (J M)),by first|(rw[ν,Φ];omega)|omega,by rw[ν,Φ];omega,fun h=>⟨ad,by have:=gv (l:=aX s) (c:=44) (st:=V.2) h;have aj:=hb (cW (l:=aX s) (w:=[44]) (J M));show 3*(s.size-(cI (aX s) [44] V.2).1)+2<=U;omega⟩,I⟩
    ·dsimp only;omega
    ·repeat' constructor
    repeat' constructor
   refine bA Z Z Z Z<|bA Z Z Z Z<|bA Z Z Z Z<|bA Z Z Z Z<|pE Z<|ab<|qs<|W.oa Z<|ah<|qs ?_
   try rw[if_neg (fun q=>υ O q.1)]at I
   refine aa<|pE Z<|bu [0] [] Z Z Z Z Z ((eS s (B #[44]) V.2 M hs (by decide))) Z Z (by rfl) (by rfl) Z Z Z Z<|ab<|bW<|W.bZ [0,1,2,3,12] ⟨(U,keys,kids++[V.1],cI (aX s) [44] V.2),?_⟩ ?_ Z ?_ trivial ?_ ⟨rfl,rfl,trivial⟩ Z;·exact⟨by omega,hb (cW (J M)),by first|(rw[ν,Φ];omega)|omega,by rw[ν,Φ];omega,fun h=>⟨ad,by have:=gv (l:=aX s) (c:=44) (st:=V.2) h;have aj:=hb (cW (l:=aX s) (w:=[44]) (J M));show 3*(s.size-(cI (aX s) [44] V.2).1)+2<=U;omega⟩,I⟩
   ·dsimp only;omega
   ·repeat' constructor
   repeat' constructor
  have he:¬st.2.2=0:=υ cj;have hY:Y=(.mk op 0 (B #[]) keys kids,st):=by
   rw[<-I]
   cases k with
   |zero=>unfold fw;rfl
   |succ k=>rw[iZ,if_neg he]
  refine an<|bL<|bM<|bK<|qs<|ae<|aa<|aY 1 Z<|be aW Z Z Z Z Z Z Z Z<|ab<|qs ?_;try refine bJ 1 3 Z Z Z ?_
  try refine bJ 1 4 Z Z Z ?_
  refine W.ret (ak aW [] trivial Z Z Z Z ?_ ?_);·(rw[hY];exact⟨rfl,trivial⟩)
  (rw[hY,lP];rfl)
 refine bA Z Z Z Z<|bA Z Z Z Z<|bA Z Z Z Z<|bA Z Z Z Z<|pE Z<|ab<|qs<|W.oa Z<|ah<|qs<|ae<|W.block ?_
 try rw[if_neg (fun q=>υ c6 q.1)]at hg
 refine W.gen 6 Z<|ey 2 3 Z Z Z<|ey 2 4 Z Z Z<|W.bY (ι:={x:Nat×List ByteArray×List JV×RS//match x with|(k,keys,kids,st)=>k<=K'∧st.1<=s.size∧keys.length+k<=K'∧kids.length+k<=K'∧(st.2.2=0->ar+1<=16∧3*(s.size-st.1)+2<=k)∧fw (aX s) k op c ar keys kids st=Y})
  (fun x=>match x.1 with|(k,keys,kids,st)=>[(0,.ptr 0 0),(1,.d (.v (.int .i64 op))),(2,.d (.v (.int .u8 c.toNat))),(3,.d (.v (.int .i64 ar))),(8,.ptr 1 0),(9,.ptr 2 0)]) []
  (fun x=>match x.1 with|(k,keys,kids,st)=>[(0,[.d (cs s),.d (.v (.int .i64 (st.1:Int))),.d (.v (.int .i64 st.2.1)),.d (.v (.int .i64 st.2.2))]),(2,[.d (ci op),.d (ci 0),.d (cs (B #[])),.own 3 (keys.map sc),.own 4 (kids.map JV.c)])]) [(1,_)] [4,3] 5 (fun x=>match x.1 with|(k,keys,kids,st)=>k)
  [0,1,2,6,7] ⟨(K',[],[],fg (aX s) (fV hd)),?_⟩ Z ?_ trivial ?_ ⟨rfl,rfl,trivial⟩ Z ?_
 ·exact⟨ω _,s1,Nat.le_of_eq (Nat.zero_add _),Nat.le_of_eq (Nat.zero_add _),fun h=>⟨dx h,by omega⟩,hg.symm⟩
 ·repeat' constructor
 ·repeat' constructor
 rintro⟨⟨k,keys,kids,st⟩,ei,dt,ej,en,hF,I⟩;show W _ _ _ _ _ ⟨[(0,.ptr 0 0),(1,.d (.v (.int .i64 op))),(2,.d (.v (.int .u8 c.toNat))),(3,.d (.v (.int .i64 ar))),(8,.ptr 1 0),(9,.ptr 2 0)],[(0,[.d (cs s),.d (.v (.int .i64 (st.1:Int))),.d (.v (.int .i64 st.2.1)),.d (.v (.int .i64 st.2.2))]),(2,[.d (ci op),.d (ci 0),.d (cs (B #[])),.own 3 (keys.map sc),.own 4 (kids.map JV.c)]),(1,_)],[4,3],5⟩;refine ae<|aZ 5 Z<|ba Z (fun cj=>?_)<|fun cj=>?_;·
  obtain⟨j,q,e⟩:=st;have he:e=0:=μ cj;subst he;have hj:j<=s.size:=dt;obtain⟨ad,c7⟩:=hF Z;have c7:3*(s.size-j)+2<=k:=c7;obtain⟨U,rfl⟩:∃U,k=U+1:=⟨k-1,by omega⟩;rw[iZ,if_pos rfl]at I;have X:=hb (pf (l:=aX s) (op:=op) (keys:=keys) (st:=(j,q,0)) (J hj));have ai:=uY (l:=aX s) (op:=op) (keys:=keys) (st:=(j,q,0)) (J hj);have ai:j<=(dP (aX s) op keys (j,q,0)).2.1:=ai;have hle:=hb (cA (l:=aX s) (i:=j) (J hj));refine ah<|qs<|W.block<|ae<|aZ 2 Z<|ba Z (fun cl=>?_)<|fun cl=>?_;·
   have cq:op=6:=μ cl;have hT:=rq s (bg (aX s) j) q hle hs;have a8:dP (aX s) op keys (j,q,0)=(keys++[jU (cL (aX s) (bg (aX s) j))],cI (aX s) [58] (fg (aX s) (iQ (aX s) keys (j,q,0)))):=by unfold dP;rw[if_pos cq]
   obtain⟨o2,cx⟩:∃o2,o2=iQ (aX s) keys (j,q,0):=⟨_,rfl⟩;have a6:o2.1<=s.size:=by rw[cx];exact hb (rI (J hj))
   have a7:o2=if hasB keys (jU (cL (aX s) (bg (aX s) j)))=true then sq (dM (cL (aX s) (bg (aX s) j)) q) 4 (bg (aX s) j)else dM (cL (aX s) (bg (aX s) j)) q:=cx;rw[<-cx]at a8;rw[a8]at I X ai;generalize dM (cL (aX s) (bg (aX s) j)) q=o at hT a7;generalize jU (cL (aX s) (bg (aX s) j))=tx at hT a7 a8 I X ai;dsimp only at I X ai;have hv:=hV U (by omega) _ X (fun _=>⟨ad,by omega⟩);have M:=hb ((places (aX s) U).v (ar+1) _ (J X));have b0:=(si (aX s) U).v (ar+1) _ (J X);generalize c8 (aX s) U (ar+1) (cI (aX s) [58] (fg (aX s) o2))=V at I hv M b0;refine ae<|aa<|pE Z<|bu [0] [] Z Z Z Z Z ((pz s j q 0 hj hs)) Z Z (by rfl) (by rfl) Z Z Z Z<|ab<|qs<|aZ 5 Z<|ae<|aa<|pE Z<|bu [0] [] Z Z Z Z Z (hT ..) Z Z (by rfl) (by rfl) Z Z Z Z<|pE Z<|ab<|qs<|ae<|ae<|aa<|aY 3 Z ?_
   refine pu (bm Z Z Z (uK keys tx) Z) Z<|ab<|qs<|ba Z (fun cy=>?_)<|fun cy=>?_;·
    have e:o2=sq o 4 (bg (aX s) j:Int):=by rw[a7,if_pos (show hasB keys tx=true from cy)]
    subst e;refine aa<|aY 2 Z<|bu [0] [] Z Z Z Z Z ((sE s o 4 (bg (aX s) j:Int))) Z Z (by rfl) (by rfl) Z Z Z Z<|ab<|qs<|ae<|W.gen 8 Z<|aa<|aY 3 Z<|pu (bR aW Z Z Z Z Z Z Z Z Z) Z<|dF (fn:=sc) (a:=tx) aW Z Z Z Z Z Z Z Z Z Z (fun _=>rfl) (by show(keys.length+1)*16<=_;omega)<|pE Z<|be aW Z Z Z Z Z Z Z Z<|ab<|qs<|ae<|aa<|pE Z<|bu [0] [] Z Z Z Z Z ((fF s _ a6 hs)) Z Z (by rfl) (by rfl) Z Z Z Z<|ab<|qs<|aa<|pE Z<|bu [0] [] Z Z Z Z Z ((eS s (B #[58]) _ (hb (ka (J a6))) hs (by decide))) Z Z (by rfl) (by rfl) Z Z Z Z<|ab<|qs<|ae<|W.gen 11 Z ?_;apply W.fb aW 7 5;(case hB=>kernel_rfl);(case h1=>rfl);(case h2=>rfl);refine' cd ?p1_22 (ev aW Z) Z Z Z Z Z ?h_22;case' h_22=>skip
    refine' cd ?p1_23 (ev aW Z) Z Z Z Z Z ?h_23;case' h_23=>skip
    refine' eJ (ev aW Z) Z Z Z Z Z ?h_24;case' h_24=>skip
    refine' cd ?p1_25 (ev aW Z) Z Z Z Z Z ?h_25;case' h_25=>skip
    refine' eJ (b5 (ev aW Z) (y:=ar+1) (wrap64 (by omega))) Z Z Z Z Z ?h_26;case' h_26=>skip
    refine' qu (fun g=>?e_27) Z Z Z ?h_27;case e_27=>refine bu [0] [] Z Z Z Z Z (hv ..) Z Z (by rfl) (by rfl) Z Z Z Z ?_;refine ab ?_;exact⟨rfl,rfl⟩
    case' h_27=>skip
    case p1_22=>exact(ev aW Z)
    case p1_23=>exact(ev aW Z)
    case p1_25=>exact(ev aW Z)
    refine nV (bR aW Z Z Z Z Z Z Z Z Z) Z Z Z Z Z<|au<|dF (fn:=JV.c) (a:=V.1) aW Z Z Z Z Z Z Z Z Z Z (fun _=>rfl) (by show(kids.length+1)*80<=_;omega)<|pE Z<|be aW Z Z Z Z Z Z Z Z<|ab<|qs<|ae<|ae<|aa<|aY 6 Z ?_
    refine gz Z Z (fun O=>?_) (fun O=>?_);·
     refine bz Z Z<|pE Z<|bz Z Z<|bu [0] [] Z Z Z Z Z ((kJ s V.2)) Z Z (by rfl) (by rfl) Z Z Z Z<|bz Z Z<|pE Z<|bz Z Z<|aY 2 Z<|ab<|qs<|ba Z (fun N=>?_)<|fun N=>?_;·
      rw[if_pos ⟨μ O,a1 _ N⟩]at I;have b2:=b3 _ (a1 _ N);refine ae<|aa<|aY 4 Z<|pu (b5 (ev aW Z) (y:=((V.2.1+1:Nat):Int)) (wrap64 (by omega))) Z<|aY 2 Z<|be aW Z Z Z Z Z Z Z Z<|ab<|qs<|ae<|aa<|aY 1 Z<|be aW Z Z Z Z Z Z Z Z<|ab<|qs ?_;try refine bJ 1 3 Z Z Z ?_
      try refine bJ 1 4 Z Z Z ?_
      refine W.ret (bl (bw (cN (bw (bl (ak aW [] trivial Z Z Z Z ?_ ?_))))));·(rw[<-I];exact⟨rfl,trivial⟩)
      (rw[<-I,lP];rfl)
     rw[if_neg (fun q=>by first|exact ch _ N q.2|exact υ O q.1)]at I;refine ah (qs ?_);try rw[if_neg (fun q=>υ O q.1)]at I
     refine aa<|pE Z<|bu [0] [] Z Z Z Z Z ((eS s (B #[44]) V.2 M hs (by decide))) Z Z (by rfl) (by rfl) Z Z Z Z<|ab<|bW<|W.bZ [0,1,2,8,12] ⟨(U,keys++[tx],kids++[V.1],cI (aX s) [44] V.2),?_⟩ ?_ Z ?_ trivial ?_ ⟨rfl,rfl,trivial⟩ Z;·exact⟨by omega,hb (cW (J M)),by first|(rw[ν,Φ];omega)|omega,by rw[ν,Φ];omega,fun h=>⟨ad,by have:=gv (l:=aX s) (c:=44) (st:=V.2) h;have aj:=hb (cW (l:=aX s) (w:=[44]) (J M));show 3*(s.size-(cI (aX s) [44] V.2).1)+2<=U;omega⟩,I⟩
     ·dsimp only;omega
     ·repeat' constructor
     repeat' constructor
    refine bA Z Z Z Z<|bA Z Z Z Z<|bA Z Z Z Z<|bA Z Z Z Z<|pE Z<|ab<|qs<|W.oa Z<|ah<|qs ?_
    try rw[if_neg (fun q=>υ O q.1)]at I
    refine aa<|pE Z<|bu [0] [] Z Z Z Z Z ((eS s (B #[44]) V.2 M hs (by decide))) Z Z (by rfl) (by rfl) Z Z Z Z<|ab<|bW<|W.bZ [0,1,2,8,12] ⟨(U,keys++[tx],kids++[V.1],cI (aX s) [44] V.2),?_⟩ ?_ Z ?_ trivial ?_ ⟨rfl,rfl,trivial⟩ Z;·exact⟨by omega,hb (cW (J M)),by first|(rw[ν,Φ];omega)|omega,by rw[ν,Φ];omega,fun h=>⟨ad,by have:=gv (l:=aX s) (c:=44) (st:=V.2) h;have aj:=hb (cW (l:=aX s) (w:=[44]) (J M));show 3*(s.size-(cI (aX s) [44] V.2).1)+2<=U;omega⟩,I⟩
    ·dsimp only;omega
    ·repeat' constructor
    repeat' constructor
   have e:o2=o:=by rw[a7,if_neg (by show ¬hasB keys tx=true;rw[show hasB keys tx=false from cy];decide)]
   subst e;refine ah<|qs<|ae<|W.gen 8 Z<|aa<|aY 3 Z<|pu (bR aW Z Z Z Z Z Z Z Z Z) Z<|dF (fn:=sc) (a:=tx) aW Z Z Z Z Z Z Z Z Z Z (fun _=>rfl) (by show(keys.length+1)*16<=_;omega)<|pE Z<|be aW Z Z Z Z Z Z Z Z<|ab<|qs<|ae<|aa<|pE Z<|bu [0] [] Z Z Z Z Z ((fF s _ a6 hs)) Z Z (by rfl) (by rfl) Z Z Z Z<|ab<|qs<|aa<|pE Z<|bu [0] [] Z Z Z Z Z ((eS s (B #[58]) _ (hb (ka (J a6))) hs (by decide))) Z Z (by rfl) (by rfl) Z Z Z Z<|ab<|qs<|ae<|W.gen 11 Z ?_;apply W.fb aW 7 5;(case hB=>kernel_rfl);(case h1=>rfl);(case h2=>rfl);refine' cd ?p1_29 (ev aW Z) Z Z Z Z Z ?h_29;case' h_29=>skip
   refine' cd ?p1_30 (ev aW Z) Z Z Z Z Z ?h_30;case' h_30=>skip
   refine' eJ (ev aW Z) Z Z Z Z Z ?h_31;case' h_31=>skip
   refine' cd ?p1_32 (ev aW Z) Z Z Z Z Z ?h_32;case' h_32=>skip
   refine' eJ (b5 (ev aW Z) (y:=ar+1) (wrap64 (by omega))) Z Z Z Z Z ?h_33;case' h_33=>skip
   refine' qu (fun g=>?e_34) Z Z Z ?h_34;case e_34=>refine bu [0] [] Z Z Z Z Z (hv ..) Z Z (by rfl) (by rfl) Z Z Z Z ?_;refine ab ?_;exact⟨rfl,rfl⟩
   case' h_34=>skip
   case p1_29=>exact(ev aW Z)
   case p1_30=>exact(ev aW Z)
   case p1_32=>exact(ev aW Z)
   refine nV (bR aW Z Z Z Z Z Z Z Z Z) Z Z Z Z Z<|au<|dF (fn:=JV.c) (a:=V.1) aW Z Z Z Z Z Z Z Z Z Z (fun _=>rfl) (by show(kids.length+1)*80<=_;omega)<|pE Z<|be aW Z Z Z Z Z Z Z Z<|ab<|qs<|ae<|ae<|aa<|aY 6 Z ?_
   refine gz Z Z (fun O=>?_) (fun O=>?_);·
    refine bz Z Z<|pE Z<|bz Z Z<|bu [0] [] Z Z Z Z Z ((kJ s V.2)) Z Z (by rfl) (by rfl) Z Z Z Z<|bz Z Z<|pE Z<|bz Z Z<|aY 2 Z<|ab<|qs<|ba Z (fun N=>?_)<|fun N=>?_;·
     rw[if_pos ⟨μ O,a1 _ N⟩]at I;have b2:=b3 _ (a1 _ N);refine ae<|aa<|aY 4 Z<|pu (b5 (ev aW Z) (y:=((V.2.1+1:Nat):Int)) (wrap64 (by omega))) Z<|aY 2 Z<|be aW Z Z Z Z Z Z Z Z<|ab<|qs<|ae<|aa<|aY 1 Z<|be aW Z Z Z Z Z Z Z Z<|ab<|qs ?_;try refine bJ 1 3 Z Z Z ?_
     try refine bJ 1 4 Z Z Z ?_
     refine W.ret (bl (bw (cN (bw (bl (ak aW [] trivial Z Z Z Z ?_ ?_))))));·(rw[<-I];exact⟨rfl,trivial⟩)
     (rw[<-I,lP];rfl)
    rw[if_neg (fun q=>by first|exact ch _ N q.2|exact υ O q.1)]at I;refine ah (qs ?_);try rw[if_neg (fun q=>υ O q.1)]at I
    refine aa<|pE Z<|bu [0] [] Z Z Z Z Z ((eS s (B #[44]) V.2 M hs (by decide))) Z Z (by rfl) (by rfl) Z Z Z Z<|ab<|bW<|W.bZ [0,1,2,8,12] ⟨(U,keys++[tx],kids++[V.1],cI (aX s) [44] V.2),?_⟩ ?_ Z ?_ trivial ?_ ⟨rfl,rfl,trivial⟩ Z;·exact⟨by omega,hb (cW (J M)),by first|(rw[ν,Φ];omega)|omega,by rw[ν,Φ];omega,fun h=>⟨ad,by have:=gv (l:=aX s) (c:=44) (st:=V.2) h;have aj:=hb (cW (l:=aX s) (w:=[44]) (J M));show 3*(s.size-(cI (aX s) [44] V.2).1)+2<=U;omega⟩,I⟩
    ·dsimp only;omega
    ·repeat' constructor
    repeat' constructor
   refine bA Z Z Z Z<|bA Z Z Z Z<|bA Z Z Z Z<|bA Z Z Z Z<|pE Z<|ab<|qs<|W.oa Z<|ah<|qs ?_
   try rw[if_neg (fun q=>υ O q.1)]at I
   refine aa<|pE Z<|bu [0] [] Z Z Z Z Z ((eS s (B #[44]) V.2 M hs (by decide))) Z Z (by rfl) (by rfl) Z Z Z Z<|ab<|bW<|W.bZ [0,1,2,8,12] ⟨(U,keys++[tx],kids++[V.1],cI (aX s) [44] V.2),?_⟩ ?_ Z ?_ trivial ?_ ⟨rfl,rfl,trivial⟩ Z;·exact⟨by omega,hb (cW (J M)),by first|(rw[ν,Φ];omega)|omega,by rw[ν,Φ];omega,fun h=>⟨ad,by have:=gv (l:=aX s) (c:=44) (st:=V.2) h;have aj:=hb (cW (l:=aX s) (w:=[44]) (J M));show 3*(s.size-(cI (aX s) [44] V.2).1)+2<=U;omega⟩,I⟩
   ·dsimp only;omega
   ·repeat' constructor
   repeat' constructor
  have cq:¬op=6:=υ cl;have a8:dP (aX s) op keys (j,q,0)=(keys,(j,q,0)):=by unfold dP;rw[if_neg cq]
  rw[a8]at I X ai;dsimp only at I X ai;have hv:=hV U (by omega) (j,q,0) X (fun _=>⟨ad,by show 3*(s.size-j)+1<=U;omega⟩);have M:=hb ((places (aX s) U).v (ar+1) (j,q,0) (J X));have b0:=(si (aX s) U).v (ar+1) (j,q,0) (J X);have b0:j<=(c8 (aX s) U (ar+1) (j,q,0)).2.1:=b0;generalize c8 (aX s) U (ar+1) (j,q,0)=V at I hv M b0;refine ah (qs (ae (W.gen 11 Z ?_)));apply W.fb aW 7 5;(case hB=>kernel_rfl);(case h1=>rfl);(case h2=>rfl);refine' cd ?p1_36 (ev aW Z) Z Z Z Z Z ?h_36;case' h_36=>skip
  refine' cd ?p1_37 (ev aW Z) Z Z Z Z Z ?h_37;case' h_37=>skip
  refine' eJ (ev aW Z) Z Z Z Z Z ?h_38;case' h_38=>skip
  refine' cd ?p1_39 (ev aW Z) Z Z Z Z Z ?h_39;case' h_39=>skip
  refine' eJ (b5 (ev aW Z) (y:=ar+1) (wrap64 (by omega))) Z Z Z Z Z ?h_40;case' h_40=>skip
  refine' qu (fun g=>?e_41) Z Z Z ?h_41;case e_41=>refine bu [0] [] Z Z Z Z Z (hv ..) Z Z (by rfl) (by rfl) Z Z Z Z ?_;refine ab ?_;exact⟨rfl,rfl⟩
  case' h_41=>skip
  case p1_36=>exact(ev aW Z)
  case p1_37=>exact(ev aW Z)
  case p1_39=>exact(ev aW Z)
  refine nV (bR aW Z Z Z Z Z Z Z Z Z) Z Z Z Z Z<|au<|dF (fn:=JV.c) (a:=V.1) aW Z Z Z Z Z Z Z Z Z Z (fun _=>rfl) (by show(kids.length+1)*80<=_;omega)<|pE Z<|be aW Z Z Z Z Z Z Z Z<|ab<|qs<|ae<|ae<|aa<|aY 6 Z ?_
  refine gz Z Z (fun O=>?_) (fun O=>?_);·
   refine bz Z Z<|pE Z<|bz Z Z<|bu [0] [] Z Z Z Z Z ((kJ s V.2)) Z Z (by rfl) (by rfl) Z Z Z Z<|bz Z Z<|pE Z<|bz Z Z<|aY 2 Z<|ab<|qs<|ba Z (fun N=>?_)<|fun N=>?_;·
    rw[if_pos ⟨μ O,a1 _ N⟩]at I;have b2:=b3 _ (a1 _ N);refine ae<|aa<|aY 4 Z<|pu (b5 (ev aW Z) (y:=((V.2.1+1:Nat):Int)) (wrap64 (by omega))) Z<|aY 2 Z<|be aW Z Z Z Z Z Z Z Z<|ab<|qs<|ae<|aa<|aY 1 Z<|be aW Z Z Z Z Z Z Z Z<|ab<|qs ?_;try refine bJ 1 3 Z Z Z ?_
    try refine bJ 1 4 Z Z Z ?_
    refine W.ret (bl (bw (cN (bw (bl (ak aW [] trivial Z Z Z Z ?_ ?_))))));·(rw[<-I];exact⟨rfl,trivial⟩)
    (rw[<-I,lP];rfl)
   rw[if_neg (fun q=>by first|exact ch _ N q.2|exact υ O q.1)]at I;refine ah (qs ?_);try rw[if_neg (fun q=>υ O q.1)]at I
   refine aa<|pE Z<|bu [0] [] Z Z Z Z Z ((eS s (B #[44]) V.2 M hs (by decide))) Z Z (by rfl) (by rfl) Z Z Z Z<|ab<|bW<|W.bZ [0,1,2,3,12] ⟨(U,keys,kids++[V.1],cI (aX s) [44] V.2),?_⟩ ?_ Z ?_ trivial ?_ ⟨rfl,rfl,trivial⟩ Z;·exact⟨by omega,hb (cW (J M)),by first|(rw[ν,Φ];omega)|omega,by rw[ν,Φ];omega,fun h=>⟨ad,by have:=gv (l:=aX s) (c:=44) (st:=V.2) h;have aj:=hb (cW (l:=aX s) (w:=[44]) (J M));show 3*(s.size-(cI (aX s) [44] V.2).1)+2<=U;omega⟩,I⟩
   ·dsimp only;omega
   ·repeat' constructor
   repeat' constructor
  refine bA Z Z Z Z<|bA Z Z Z Z<|bA Z Z Z Z<|bA Z Z Z Z<|pE Z<|ab<|qs<|W.oa Z<|ah<|qs ?_
  try rw[if_neg (fun q=>υ O q.1)]at I
  refine aa<|pE Z<|bu [0] [] Z Z Z Z Z ((eS s (B #[44]) V.2 M hs (by decide))) Z Z (by rfl) (by rfl) Z Z Z Z<|ab<|bW<|W.bZ [0,1,2,3,12] ⟨(U,keys,kids++[V.1],cI (aX s) [44] V.2),?_⟩ ?_ Z ?_ trivial ?_ ⟨rfl,rfl,trivial⟩ Z;·exact⟨by omega,hb (cW (J M)),by first|(rw[ν,Φ];omega)|omega,by rw[ν,Φ];omega,fun h=>⟨ad,by have:=gv (l:=aX s) (c:=44) (st:=V.2) h;have aj:=hb (cW (l:=aX s) (w:=[44]) (J M));show 3*(s.size-(cI (aX s) [44] V.2).1)+2<=U;omega⟩,I⟩
  ·dsimp only;omega
  ·repeat' constructor
  repeat' constructor
 have he:¬st.2.2=0:=υ cj;have hY:Y=(.mk op 0 (B #[]) keys kids,st):=by
  rw[<-I]
  cases k with
  |zero=>unfold fw;rfl
  |succ k=>rw[iZ,if_neg he]
 refine an<|bL<|bM<|bK<|qs<|ae<|aa<|aY 1 Z<|be aW Z Z Z Z Z Z Z Z<|ab<|qs ?_;try refine bJ 1 3 Z Z Z ?_
 try refine bJ 1 4 Z Z Z ?_
 refine W.ret (ak aW [] trivial Z Z Z Z ?_ ?_);·(rw[hY];exact⟨rfl,trivial⟩)
 (rw[hY,lP];rfl)
theorem Ao(l k I)(st:RS)(h:¬st.2.2=0):c8 l k I st=(cR,st):=by
 cases k with
 |zero=>unfold c8;rfl
 |succ k=>rw[oP,if_neg h]
theorem vU(s:ByteArray)(hs:s.size<=1000000000):∀K,K<=4000000000->∀k,k<K->∀(I:Int)(st:RS),0<=I->I<=17->st.1<=s.size->(st.2.2=0->I<=16∧3*(s.size-st.1)+1<=k)->
 bU Tryz.prog 78 [.ptr 0 0,.d (.v (.int .i64 I))] [ig s st] 0 (.ag (c8 (aX s) k I st).1.c) [ig s (c8 (aX s) k I st).2] 0
 |0,_,k,hk,_,_,_,_,_,_=>by omega
 |K+1,hKb,k,hk,I,st,h0,h17,hi,hf=>by
  have key:∀J,J<=K->(st.2.2=0->I<=16∧3*(s.size-st.1)+1<=J+1)->bU Tryz.prog 78 [.ptr 0 0,.d (.v (.int .i64 I))] [ig s st] 0 (.ag (c8 (aX s) (J+1) I st).1.c) [ig s (c8 (aX s) (J+1) I st).2] 0:=by
   intro J ai N;have M:∀(op:Int)(c:UInt8)(O:c≠0)(i:Nat)(p:Int),i<s.size->st.1<=i->st.2.2=0->bU Tryz.prog 128 [.ptr 0 0,.d (.v (.int .i64 op)),.d (.v (.int .u8 c.toNat)),.d (.v (.int .i64 I))] [fE s i p 0] 0 (.ag (eX (aX s) J op c I (i,p,0)).1.c) [ig s (eX (aX s) J op c I (i,p,0)).2] 0:=by intro op c O i p h1 h2 h3;obtain⟨h4,h5⟩:=N h3;refine Dh s J hs (by omega) I ⟨h0,by omega⟩ (fun k2 aj U X ad=>?_) op c O i p h1 (by omega) (by omega);exact vU s hs K (by omega) k2 (by omega) (I+1) U (by omega) (by omega) X ad
   exact Bi s J hs I st hi (fun i p h1 _ h2 h3=>M 5 93 (by decide) i p h1 h2 h3) (fun i p h1 _ h2 h3=>M 6 125 (by decide) i p h1 h2 h3)
  cases k with
  |zero=>
   have he:¬st.2.2=0:=fun h=>by have:=(hf h).2;omega
   have h1:=key 0 (ς _) (fun h=>absurd h he);rw[Ao _ _ _ _ he]at h1⊢;exact h1
  |succ J=>exact key J (by omega) hf
def nN(s:ByteArray):JV×RS:=c8 (aX s) (3*s.size+1) 0 (0,0,0)
def kZ(s:ByteArray)(o:RS):RS:=if o.2.2=0∧o.1<s.size then sq o 10 (o.1:Int)else o
def jv(s:ByteArray):JV×Int×Int:=if 65536<s.size then(cR,0,7)else if(kZ s (nN s).2).2.2=0 then((nN s).1,0,0)else(cR,(kZ s (nN s).2).2.1,(kZ s (nN s).2).2.2)
theorem D6(s):bp Tryz.prog 27 [.d (.v (.string s))] (.tup [.ag (jv s).1.c,.d (ci (jv s).2.1),.d (ci (jv s).2.2)]) 0:=by
 refine bp.dk aW (n:=51) (rs:=[.cell 2 46,.tmp 3,.tmp 4]) Tryz.func27 (by kernel_rfl) Z Tryz.ntmps27 Tryz.results27 Z fun C hC hG=>ae<|aa<|bT aW Z Z Z<|aY 2 Z<|ab<|qs<|ae<|aZ 3 Z<|ba Z (fun U=>?_)<|fun U=>?_;·
  have I:jv s=(cR,0,7):=by unfold jv;rw[if_pos (by simp at U;omega)]
  refine ae (aa (pu (build aW Z Z Z Z) Z ?_));try refine gx 10 Z Z Z ?_
  refine be aW Z Z Z Z Z Z Z Z<|aY 2 Z<|ab<|qs ?_;try refine bJ 0 3 Z Z Z ?_
  try refine bJ 0 4 Z Z Z ?_
  refine W.ret (bl (QV.bo aW trivial Z ?_));rw[I];rfl
 have hs:¬65536<s.size:=by simp at U;omega
 have I:jv s=if(kZ s (nN s).2).2.2=0 then((nN s).1,0,0)else(cR,(kZ s (nN s).2).2.1,(kZ s (nN s).2).2.2):=by unfold jv;rw[if_neg hs]
 have O:=vU s (by omega) (3*s.size+2) (by omega) (3*s.size+1) (by omega) 0 (0,0,0) (by decide) (by decide) (ς _) (fun _=>⟨by decide,by show 3*(s.size-0)+1<=_;omega⟩);have O:bU Tryz.prog 78 [.ptr 0 0,.d (.v (.int .i64 0))] [fE s 0 0 0] 0 (.ag (nN s).1.c) [ig s (nN s).2] 0:=O;generalize nN s=R at I O;obtain⟨v,o⟩:=R;dsimp only at I;refine ah (qs (ae (aa (pE Z (pu (build aW Z Z Z Z) Z ?_)))));try refine gx 12 Z Z Z ?_
 refine cG Z Z Z<|pE Z<|ab<|qs<|ae<|aa<|pE Z<|bu [1] [] Z Z Z Z Z (O ..) Z Z (by rfl) (by rfl) Z Z Z Z<|bT aW Z Z Z<|be aW Z Z Z Z Z Z Z Z<|ab<|qs<|ae<|ae<|?_
 apply bC;(case hb=>rfl);·repeat' first|refine b4 Z Z Z|refine bz Z Z ?_|refine bA Z Z Z Z ?_|refine pE Z ?_|refine ab ?_|(apply bN;(case hj=>rfl);(case hl=>rfl))
 refine qs (ba Z (fun N=>?_) (fun N=>?_));·
  have M:o.2.2=0∧o.1<s.size:=by
   revert N;by_cases e:o.2.2=0;·simp[e]
   simp[e]
  have he:kZ s o=(o.1,(o.1:Int),10):=by unfold kZ;rw[if_pos M];unfold sq;rw[if_pos M.1,if_pos M.1]
  rw[he]at I;refine aa<|aY 5 Z<|bu [1] [] Z Z Z Z Z ((kg s o.1 o.2.1 o.2.2 10 (o.1:Int) M.1)) Z Z (by rfl) (by rfl) Z Z Z Z<|ab<|qs<|ae<|aZ 5 Z<|ba Z (fun J=>?_)<|fun J=>?_;·
   rw[if_neg (show ¬(10:Int)=0 by decide)]at I;refine ae ?_;apply W.fb aW 11 9;(case hB=>kernel_rfl);(case h1=>rfl);(case h2=>rfl);refine' eJ (build aW Z Z Z Z) Z Z Z Z Z ?h_1;case' h_1=>skip
   refine' cd ?p1_2 (ev aW Z) Z Z Z Z Z ?h_2;case' h_2=>skip
   refine' cd ?p1_3 (ev aW Z) Z Z Z Z Z ?h_3;case' h_3=>skip
   refine' cd ?p1_4 (ev aW Z) Z Z Z Z Z ?h_4;case' h_4=>skip
   refine' cd ?p1_5 (ev aW Z) Z Z Z Z Z ?h_5;case' h_5=>skip
   refine' cd ?p1_6 (ev aW Z) Z Z Z Z Z ?h_6;case' h_6=>skip
   refine' cd ?p1_7 (ev aW Z) Z Z Z Z Z ?h_7;case' h_7=>skip
   refine' cd ?p1_8 (ev aW Z) Z Z Z Z Z ?h_8;case' h_8=>skip
   refine' cd ?p1_9 (ev aW Z) Z Z Z Z Z ?h_9;case' h_9=>skip
   refine' wP (fun g=>?e_10) Z Z ?h_10;case e_10=>refine be aW Z Z Z Z Z Z Z Z (ab ?_);exact⟨rfl,rfl⟩
   case' h_10=>skip
   case p1_2=>exact(ev aW Z)
   case p1_3=>exact(ev aW Z)
   case p1_4=>exact(ev aW Z)
   case p1_5=>exact(ev aW Z)
   case p1_6=>exact(ev aW Z)
   case p1_7=>exact(ev aW Z)
   case p1_8=>exact(ev aW Z)
   case p1_9=>exact(ev aW Z)
   refine nV (ev aW Z) Z Z Z Z Z<|au<|pE Z<|ab<|qs ?_;try refine bJ 0 3 Z Z Z ?_
   try refine bJ 0 4 Z Z Z ?_
   refine W.ret (bl (QV.bo aW trivial Z ?_));rw[I];rfl
  have I:jv s=(v,0,0):=by first|exact absurd J (by decide)|(rw[I,if_pos (show o.2.2=0 by simpa using J)])
  refine ah<|qs<|ae<|aa<|aY 1 Z<|be aW Z Z Z Z Z Z Z Z<|aY 2 Z<|ab<|qs ?_;try refine bJ 0 3 Z Z Z ?_
  try refine bJ 0 4 Z Z Z ?_
  refine W.ret (QV.bo aW trivial Z ?_);rw[I];rfl
 have M:¬(o.2.2=0∧o.1<s.size):=by
  rintro⟨X,e2⟩;revert N;have e3:(o.1:Int)<(s.size:Int):=by omega
  simp[X,e3]
 have he:kZ s o=o:=by unfold kZ;rw[if_neg M]
 rw[he]at I;refine ah<|qs<|ae<|aZ 5 Z<|ba Z (fun J=>?_)<|fun J=>?_;·
  rw[if_neg (show ¬o.2.2=0 by simpa using J)]at I;refine ae ?_;apply W.fb aW 11 9;(case hB=>kernel_rfl);(case h1=>rfl);(case h2=>rfl);refine' eJ (build aW Z Z Z Z) Z Z Z Z Z ?h_12;case' h_12=>skip
  refine' cd ?p1_13 (ev aW Z) Z Z Z Z Z ?h_13;case' h_13=>skip
  refine' cd ?p1_14 (ev aW Z) Z Z Z Z Z ?h_14;case' h_14=>skip
  refine' cd ?p1_15 (ev aW Z) Z Z Z Z Z ?h_15;case' h_15=>skip
  refine' cd ?p1_16 (ev aW Z) Z Z Z Z Z ?h_16;case' h_16=>skip
  refine' cd ?p1_17 (ev aW Z) Z Z Z Z Z ?h_17;case' h_17=>skip
  refine' cd ?p1_18 (ev aW Z) Z Z Z Z Z ?h_18;case' h_18=>skip
  refine' cd ?p1_19 (ev aW Z) Z Z Z Z Z ?h_19;case' h_19=>skip
  refine' cd ?p1_20 (ev aW Z) Z Z Z Z Z ?h_20;case' h_20=>skip
  refine' wP (fun g=>?e_21) Z Z ?h_21;case e_21=>refine be aW Z Z Z Z Z Z Z Z (ab ?_);exact⟨rfl,rfl⟩
  case' h_21=>skip
  case p1_13=>exact(ev aW Z)
  case p1_14=>exact(ev aW Z)
  case p1_15=>exact(ev aW Z)
  case p1_16=>exact(ev aW Z)
  case p1_17=>exact(ev aW Z)
  case p1_18=>exact(ev aW Z)
  case p1_19=>exact(ev aW Z)
  case p1_20=>exact(ev aW Z)
  refine nV (ev aW Z) Z Z Z Z Z<|au<|pE Z<|ab<|qs ?_;try refine bJ 0 3 Z Z Z ?_
  try refine bJ 0 4 Z Z Z ?_
  refine W.ret (bl (QV.bo aW trivial Z ?_));rw[I];rfl
 have I:jv s=(v,0,0):=by first|exact absurd J (by decide)|(rw[I,if_pos (show o.2.2=0 by simpa using J)])
 refine ah<|qs<|ae<|aa<|aY 1 Z<|be aW Z Z Z Z Z Z Z Z<|aY 2 Z<|ab<|qs ?_;try refine bJ 0 3 Z Z Z ?_
 try refine bJ 0 4 Z Z Z ?_
 refine W.ret (QV.bo aW trivial Z ?_);rw[I];rfl
theorem BB:∀(l:List UInt8)(n:Nat),n<=eF n l
 |[],n=>ω n
 |b::r,n=>by
  have h:=BB r (if cF b then 10*n+(b.toNat-48)else n);have h2:n<=(if cF b then 10*n+(b.toNat-48)else n):=by split<;>omega
  exact B' h2 h
theorem xD:∀(l:List UInt8)(n:Nat),1000000000000000<n->iD n l=n
 |[],_,_=>rfl
 |b::r,n,h=>by show iD (if n<=1000000000000000 then 10*n+(b.toNat-48)else n) r=n;rw[if_neg (by omega)];exact xD r n h
theorem B6:∀(l:List UInt8)(n:Nat),(∀b∈l,cF b=true)->(eF n l<=1000000000000000->iD n l=eF n l)∧(1000000000000000<eF n l->1000000000000000<iD n l)
 |[],n,_=>⟨fun _=>rfl,fun h=>h⟩
 |b::r,n,hd=>by
  have e:eF n (b::r)=eF (10*n+(b.toNat-48)) r:=by show eF (if cF b then 10*n+(b.toNat-48)else n) r=_;rw[if_pos (hd b D')]
  have I:iD n (b::r)=iD (if n<=1000000000000000 then 10*n+(b.toNat-48)else n) r:=rfl;rw[e,I];by_cases q:n<=1000000000000000;·
   rw[if_pos q];exact B6 r _ (fun x J=>hd x (q' _ J))
  rw[if_neg q,xD r n (by omega)];have:=BB r (10*n+(b.toNat-48));exact⟨fun h=>by omega,fun _=>by omega⟩
theorem Gk(h:i<=j)(hj:j<=l.length):(gL l i j).length=j-i:=by unfold gL;simp;omega
theorem Gw(hj:j<=l.length)(h:b∈gL l i j):∃q,i<=q∧q<j∧bb l q=b:=by
 obtain⟨n,I⟩:=Γ.1 h;unfold gL at I;rw[List.getElem?_take,List.getElem?_drop]at I;split at I;·
  rename_i q;refine⟨i+n,by omega,by omega,?_⟩;unfold bb;rw[List.getD_eq_getElem?_getD,I];rfl
 cases I
theorem EK(h:i<j)(hj:j<=l.length):(gL l i j).head?=some (bb l i):=by unfold gL;rw[List.head?_take,List.head?_drop];rw[if_neg (by omega)];unfold bb;rw[List.getD_eq_getElem?_getD,X' (show i<l.length by omega)];rfl
theorem HI(hd:cF (bb l i)=true):i<cc l i∧(∀q,i<=q->q<cc l i->cF (bb l q)=true)∧(i+1<cc l i->bb l i≠48):=by
 unfold cc;split;·
  refine⟨Nat.lt_succ_self i,fun q h1 h2=>?_,fun h=>by omega⟩;have:q=i:=by omega
  rw[this];exact hd
 rename_i I;refine⟨?_,zK l _ i,fun _=>I⟩;have J:i<l.length:=b8 fun z=>by rw[z]at hd;exact absurd hd (by decide)
 obtain⟨k,M⟩:∃k,l.length-i=k+1:=⟨l.length-i-1,by omega⟩;rw[M];unfold gS;rw[if_pos ⟨J,hd⟩];exact(wO (k:=k) (show i+1<=l.length by omega)).1
def po(x:PE JV)(r:JV×RS)(p:Int)(f:Nat->Nat):Prop:=match x with
 |.ok v j=>r=(v,(f j,p,0))
 |.no a w=>∃I J,r=(I,(J,(a:Int),w))
theorem H8(hi:i<=l.length):po (e7 l i) (kM l i p) p id:=by
 obtain⟨i1,J⟩:∃i1,i1=if bb l i=45 then i+1 else i:=⟨_,rfl⟩;have aj:i1<=l.length:=by
  rw[J];split;·rename_i q;exact b8 (by rw[q];decide)
  exact hi
 unfold e7 kM;dsimp only;rw[<-J];by_cases hd:cF (bb l i1)=true;·
  obtain⟨h1,h2,h3⟩:=HI hd;have hle:=(lu (l:=l) aj).2;rw[if_neg (show ¬cc l i1=i1 by omega),if_neg (show ¬cF (bb l i1)=false by rw[hd];decide)];have X:=Gk (Nat.le_of_lt h1) hle;have N:∀b∈gL l i1 (cc l i1),cF b=true:=fun b hb=>by obtain⟨q,q1,q2,q3⟩:=Gw hle hb;rw[<-q3];exact h2 q q1 q2
  have a1:=EK h1 hle;have ad:gL l i1 (cc l i1)≠[]:=fun e=>by rw[e]at X;simp at X;omega
  have hz:1<(gL l i1 (cc l i1)).length->(gL l i1 (cc l i1)).head?≠some 48:=fun h e=>by rw[a1]at e;exact h3 (by omega) (P' e)
  obtain⟨s1,s2⟩:=B6 _ 0 N;have O:=(zN _ _ Z ad N hz).1;generalize hE:cc l i1=e at*;have ar:gL l i e=if bb l i=45 then 45::gL l i1 e else gL l i1 e:=by
   split;·
    rename_i q;rw[if_pos q]at J;subst J;unfold gL;have ai:i<l.length:=by omega
    rw[List.drop_eq_getElem_cons ai,show e-i=(e-(i+1))+1 by omega,List.take_succ_cons];congr 1;unfold bb at q;rw[List.getD_eq_getElem?_getD,X' ai]at q;exact q
   rename_i q;rw[if_neg q]at J;rw[J]
  have a6:(l.drop i).take (e-i)=gL l i e:=rfl;rw[a6,ar];generalize b2:gL l i1 e=ds at*
  have I:∀(u:ByteArray)(n:Int),(eF 0 ds<=1000000000000000->fY u=(n,true)∧n=(if bb l i=45 then-(iD 0 ds:Int)else(iD 0 ds:Int)))->(1000000000000000<eF 0 ds->(fY u).2=false)->
   po (if(fY u).2=true then PE.ok (JV.mk 3 (fY u).1 (B #[]) [] []) e else PE.no i 2) (JV.mk 3 (if bb l i=45 then-(iD 0 ds:Int)else(iD 0 ds:Int)) (B #[]) [] [],if 1000000000000000<iD 0 ds then(e,(i:Int),2)else(e,p,0)) p id:=by
   intro u n h1 h2;rcases V' 1000000000000000 (eF 0 ds)with hb|hb
   ·rw[h2 hb,if_neg (show ¬false=true by decide),if_pos (show 1000000000000000<iD 0 ds from s2 hb)];exact⟨_,_,rfl⟩
   obtain⟨g1,g2⟩:=h1 hb;rw[g1,if_pos (show(n,true).2=true from rfl),if_neg (show ¬1000000000000000<iD 0 ds by rw[s1 hb];omega),←g2];exact Z
  by_cases q:bb l i=45;·
   simp only[if_pos q]at I⊢;by_cases z:ds=[48];·
    have U:(⟨(45::ds).toArray⟩:ByteArray)=B #[45,48]:=by rw[z]
    rw[if_pos U];refine I _ 0 (fun _=>⟨by decide+kernel,by rw[z];decide⟩) (fun h=>?_);rw[z]at h;exact absurd h (by decide)
   have U:(⟨(45::ds).toArray⟩:ByteArray)≠B #[45,48]:=fun e=>z (by have M:(45::ds)=[45,48]:=congrArg aX e;exact(List.cons.inj M).2);rw[if_neg U];have b0:0<eF 0 ds:=by
    rcases Nat.eq_zero_or_pos (eF 0 ds)with h0|h0
    ·exfalso;rw[h0,fG (by decide)]at O;exact z O.symm
    exact h0
   refine I _ (-(eF 0 ds:Int)) (fun hb=>⟨?_,by rw[s1 hb]⟩) (fun hb=>?_);·
    have e:(⟨(45::ds).toArray⟩:ByteArray)=dh (-(eF 0 ds:Int)):=by unfold dh;rw[gF (by omega),show(-(eF 0 ds:Int)).natAbs=eF 0 ds by omega,O]
    rw[e];exact rF (by simp[fu];omega)
   have:fY (⟨(45::ds).toArray⟩:ByteArray)=(0,false):=xU fun v hv e=>by
    have b3:-1000000000000000<=v∧v<=1000000000000000:=by simpa[fu]using hv
    have M:(45::ds:List UInt8)=Lib.itoa v:=congrArg aX e;rcases Int.lt_or_le v 0 with h|h
    ·rw[gF h]at M;have e3:=(List.cons.inj M).2;rw[e3,yl]at hb;omega
    rw[fZ h]at M;have:=kz v.toNat 45 (by rw[<-M];simp);exact absurd this (by decide)
   rw[this]
  simp only[if_neg q]at I⊢;have a7:aX (⟨ds.toArray⟩:ByteArray)=ds:=rfl;have U:(⟨ds.toArray⟩:ByteArray)≠B #[45,48]:=fun e=>by have M:ds=[45,48]:=congrArg aX e;have:=N 45 (by rw[M];simp);exact absurd this (by decide)
  rw[if_neg U];have hn:=EO (s:=(⟨ds.toArray⟩:ByteArray)) ad N;rw[a7]at hn;refine I _ (eF 0 ds:Int) (fun hb=>⟨?_,by rw[s1 hb]⟩) (fun hb=>?_);·
   have a8:¬16<ds.length:=by have:=mw (eF 0 ds) 15 (by have:(10:Nat)^(15+1)=10000000000000000:=(by decide);omega);rw[O]at this;omega
   rw[hn,if_neg (fun h=>h.elim a8 fun h=>h.elim (fun h=>hz h.1 h.2) fun h=>by omega)]
  rw[hn,if_pos (.inr (.inr hb))]
 have hd:cF (bb l i1)=false:=by simpa using hd
 have he:cc l i1=i1:=by
  unfold cc;rw[if_neg (fun e=>by rw[e]at hd;exact absurd hd (by decide))]
  cases l.length-i1 with
  |zero=>rfl
  |succ k=>unfold gS;rw[if_neg (fun h=>by rw[hd]at h;exact absurd h.2 (by decide))]
 rw[if_pos he,if_pos hd];exact⟨_,_,rfl⟩
theorem sW{w}(h:EW (.no a w:PE α)):¬w=0:=by have h:w=2∨w=4∨w=10∨w=20:=h;omega
theorem qG{x:PE JV}{r:JV×RS}(I:EW x)(h:po x r p id):po x (nM l r) p (bg l):=by
 cases x with
 |ok v j=>have h:r=(v,(j,p,0)):=h;subst h;exact nA Z
 |no a w=>obtain⟨J,M,h⟩:=h;subst h;exact⟨J,M,k9 (sW I)⟩
theorem HD{x:PE Unit}{v:JV}:po (match x with|.no a w=>.no a w|.ok _ j=>.ok v j) (v,dM x p) p id:=by
 cases x with
 |ok u j=>exact Z
 |no a w=>exact⟨_,_,rfl⟩
theorem Ho{x:PE (List UInt8)}:po (match x with|.no a w=>.no a w|.ok t j=>.ok (.mk 4 0 (bytesOf t) [] []) j) (.mk 4 0 (jU x) [] [],dM x p) p id:=by
 cases x with
 |ok u j=>exact Z
 |no a w=>exact⟨_,_,rfl⟩
theorem Je{x:PE Unit}{v:JV}:EW x->EW (match x with|.no a w=>.no a w|.ok _ j=>.ok v j:PE JV):=by
 intro h
 cases x with
 |ok u j=>trivial
 |no a w=>exact h
theorem vo{x:PE Unit}{v:JV}:EW x->po (match x with|.no a w=>.no a w|.ok _ j=>.ok v j) (nM l (v,dM x p)) p (bg l):=fun h=>qG (Je h) HD
theorem Ih{x:PE (List UInt8)}:EW x->EW (match x with|.no a w=>.no a w|.ok t j=>.ok (.mk 4 0 (bytesOf t) [] []) j:PE JV):=by
 intro h
 cases x with
 |ok u j=>trivial
 |no a w=>exact h
theorem uW(l k op c I keys kids)(st:RS)(h:¬st.2.2=0):fw l k op c I keys kids st=(.mk op 0 (B #[]) keys kids,st):=by
 cases k with
 |zero=>unfold fw;rfl
 |succ k=>rw[iZ,if_neg h]
theorem uG(l w)(st:RS)(h:¬st.2.2=0):cI l w st=st:=by unfold cI;rw[if_neg h]
theorem uV(l c i p):cI l [c] (i,p,0)=dM (cn l c i) p:=by
 unfold cI;rw[if_pos rfl];show dM (bX l [c] i) p=_;have hw:bX l [c] i=cn l c i:=by simp only[bX];cases cn l c i<;>rfl
 rw[hw]
theorem xx(l k op c I i p)(h:16<=I):∃J M,eX l (k+1) op c I (i,p,0)=(J,(M,(i:Int),20)):=by
 have N:cPj (i,p,0) I=(i,(i:Int),20):=by unfold cPj;rw[if_pos h];rfl
 rw[lR,N];have hs:fg l (fV (i,(i:Int),20))=(bg l (i+1),(i:Int),20):=rfl;rw[hs,if_neg (fun q=>absurd (show(20:Int)=0 from q.1) (by decide)),uW _ _ _ _ _ _ _ _ (show ¬(20:Int)=0 by decide)];exact⟨_,_,rfl⟩
theorem uE(l k op c I keys kids)(V:JV×RS)(h:¬V.2.2.2=0):
 (if V.2.2.2=0∧bb l V.2.1=c then(JV.mk op 0 (B #[]) keys (kids++[V.1]),fV V.2)else fw l k op c I keys (kids++[V.1]) (cI l [44] V.2))=(.mk op 0 (B #[]) keys (kids++[V.1]),V.2):=by
 rw[if_neg (fun q=>h q.1),uG _ _ _ h,uW _ _ _ _ _ _ _ _ h]
structure Ti(l:List UInt8)(k:Nat):Prop where
 v:∀ar i p,i<=l.length->3*(l.length-i)+1<=k->po (dA l k (ar+1) i) (c8 l k ar (i,p,0)) p (bg l)
 a:∀ar i p,¬16<=ar->i<l.length->3*(l.length-i)<=k->po (ie l k (ar+1) (i+1)) (eX l k 5 93 ar (i,p,0)) p id
 ag:∀ar i p acc,i<=l.length->3*(l.length-i)+2<=k->po (fI l k (ar+1) i acc) (fw l k 5 93 ar [] acc (i,p,0)) p id
 o:∀ar i p,¬16<=ar->i<l.length->3*(l.length-i)<=k->po (ib l k (ar+1) (i+1)) (eX l k 6 125 ar (i,p,0)) p id
 og:∀ar i p keys acc,i<=l.length->3*(l.length-i)+2<=k->po (fJ l k (ar+1) i keys acc) (fw l k 6 125 ar keys acc (i,p,0)) p id
theorem yo{op:Int}{c:UInt8}{J:Int}{keys:List ByteArray}{kids:List JV}{v:JV}{G:Nat->PE JV}(O:c≠44)(M:c≠0)(U:bb l j=44->po (G (j+1)) (fw l k op c J keys (kids++[v]) (j+1,p,0)) p id):
 po (if bb l j=44 then G (j+1)else match cn l c j with|.no a w=>.no a w|.ok _ j2=>.ok (.mk op 0 (B #[]) keys (kids++[v])) j2)
  (if(v,((j,p,0):RS)).2.2.2=0∧bb l (v,((j,p,0):RS)).2.1=c then(JV.mk op 0 (B #[]) keys (kids++[(v,((j,p,0):RS)).1]),fV (v,((j,p,0):RS)).2)else fw l k op c J keys (kids++[(v,((j,p,0):RS)).1]) (cI l [44] (v,((j,p,0):RS)).2)) p id:=by
 dsimp only;by_cases h44:bb l j=44;·
  have hj:j<l.length:=b8 (by rw[h44];decide);have I:cn l 44 j=.ok () (j+1):=by unfold cn;rw[if_pos ⟨hj,h44⟩]
  rw[if_pos h44,if_neg (fun q=>O (q.2.symm.trans h44)),uV,I];exact U h44
 rw[if_neg h44];by_cases hcc:bb l j=c;·
  rw[if_pos ⟨rfl,hcc⟩];have hj:j<l.length:=b8 (by rw[hcc];exact M);unfold cn;rw[if_pos ⟨hj,hcc⟩];exact Z
 have I:cn l c j=.no j 10:=by unfold cn;rw[if_neg (fun h=>hcc h.2)]
 have N:cn l 44 j=.no j 10:=by unfold cn;rw[if_neg (fun h=>h44 h.2)]
 rw[I,if_neg (fun q=>hcc q.2),uV,N,uW _ _ _ _ _ _ _ _ (show ¬(10:Int)=0 by decide)];exact⟨_,_,rfl⟩
theorem JO(l:List UInt8):∀k,Ti l k
 |0=>⟨fun _ _ _ _ h=>by omega,fun _ _ _ _ h h2=>by omega,fun _ _ _ _ _ h=>by omega,fun _ _ _ _ h h2=>by omega,fun _ _ _ _ _ _ h=>by omega⟩
 |k+1=>by
  have O:=JO l k;have er:=C8 (l:=l) k;have bd:=mQ l k;refine⟨fun I i p hi hk=>?_,fun I i p aj hi hk=>?_,fun I i p acc hi hk=>?_,fun I i p aj hi hk=>?_,fun I i p keys acc hi hk=>?_⟩;·
   have hle:=cA hi;have ai:=cE l i;rw[w7,oP,if_pos rfl];dsimp only;by_cases c1:bb l (bg l i)=110;·rw[if_pos c1,if_pos c1];exact vo ov
   rw[if_neg c1,if_neg c1];by_cases c2:bb l (bg l i)=116;·rw[if_pos c2,if_pos c2];exact vo ov
   rw[if_neg c2,if_neg c2];by_cases c3:bb l (bg l i)=102;·rw[if_pos c3,if_pos c3];exact vo ov
   rw[if_neg c3,if_neg c3];by_cases c4:bb l (bg l i)=34;·rw[if_pos c4,if_pos c4];exact qG (Ih sV) Ho
   rw[if_neg c4,if_neg c4];by_cases c5:bb l (bg l i)=91;·
    have a1:bg l i<l.length:=b8 (by rw[c5];decide);rw[if_pos (.inl c5),if_pos c5,if_pos c5];by_cases hd:16<I+1;·
     rw[if_pos hd];obtain⟨k',rfl⟩:∃k',k=k'+1:=⟨k-1,by omega⟩;obtain⟨v',i',e⟩:=xx l k' 5 93 I (bg l i) p (by omega);rw[e];exact⟨v',i',k9 (show ¬(20:Int)=0 by decide)⟩
    rw[if_neg hd];exact qG (er.a _ _) (O.a I _ p (by omega) a1 (by omega))
   by_cases c6:bb l (bg l i)=123;·
    have a1:bg l i<l.length:=b8 (by rw[c6];decide);rw[if_pos (.inr c6),if_neg c5,if_neg c5,if_pos c6];by_cases hd:16<I+1;·
     rw[if_pos hd];obtain⟨k',rfl⟩:∃k',k=k'+1:=⟨k-1,by omega⟩;obtain⟨v',i',e⟩:=xx l k' 6 125 I (bg l i) p (by omega);rw[e];exact⟨v',i',k9 (show ¬(20:Int)=0 by decide)⟩
    rw[if_neg hd];exact qG (er.o _ _) (O.o I _ p (by omega) a1 (by omega))
   rw[if_neg (fun q=>q.elim c5 c6),if_neg c5,if_neg c6];exact qG E7 (H8 hle)
  ·
   have hh:cPj (i,p,0) I=(i,p,0):=by unfold cPj;rw[if_neg aj]
   have hs:fg l (fV (i,p,0))=(bg l (i+1),p,0):=rfl;have hle:=cA (show i+1<=l.length from hi);have ai:=cE l (i+1);rw[tW,lR,hh,hs];dsimp only;by_cases c1:bb l (bg l (i+1))=93;·rw[if_pos c1,if_pos ⟨rfl,c1⟩];exact Z
   rw[if_neg c1,if_neg (fun q=>c1 q.2)];exact O.ag I _ p [] hle (by omega)
  ·
   rw[rm,iZ,if_pos rfl];have a6:dP l 5 [] (i,p,0)=([],(i,p,0)):=by unfold dP;rw[if_neg (by decide)]
   rw[a6];dsimp only;have J:=O.v (I+1) i p hi (by omega);have hb:=bd.v (I+1+1) i hi;have he:=er.v (I+1+1) i
   cases U:dA l k (I+1+1) i with
   |no a w=>rw[U]at J he;obtain⟨v',i',J⟩:=J;rw[J];dsimp only;have:=uE l k 5 93 I [] acc (v',(i',(a:Int),w)) (sW he);dsimp only at this;rw[this];exact⟨_,_,rfl⟩
   |ok v j=>rw[U]at J hb;have J:c8 l k (I+1) (i,p,0)=(v,(bg l j,p,0)):=J;rw[J];have cx:i<j:=hb.1;have hle:=cA hb.2;have ai:=cE l j;exact yo (G:=fun q=>fI l k (I+1) q (acc++[v])) (by decide) (by decide) fun X=>O.ag I _ p _ (b8 (by rw[X];decide)) (by have:=b8 (l:=l) (i:=bg l j) (by rw[X];decide);omega)
  ·
   have hh:cPj (i,p,0) I=(i,p,0):=by unfold cPj;rw[if_neg aj]
   have hs:fg l (fV (i,p,0))=(bg l (i+1),p,0):=rfl;have hle:=cA (show i+1<=l.length from hi);have ai:=cE l (i+1);rw[tR,lR,hh,hs];dsimp only;by_cases c1:bb l (bg l (i+1))=125;·rw[if_pos c1,if_pos ⟨rfl,c1⟩];exact Z
   rw[if_neg c1,if_neg (fun q=>c1 q.2)];exact O.og I _ p [] [] hle (by omega)
  rw[rl,iZ,if_pos rfl];have hle:=cA hi;have ai:=cE l i;have a7:=iC (l:=l) hle;have b0:=sV (l:=l) (i:=bg l i);have a6:dP l 6 keys (i,p,0)=(keys++[jU (cL l (bg l i))],cI l [58] (fg l (iQ l keys (i,p,0)))):=by unfold dP;rw[if_pos rfl]
  have N:∀(x:RS),¬x.2.2=0->∀K,(if(c8 l k (I+1) x).2.2.2=0∧bb l (c8 l k (I+1) x).2.1=125 then(JV.mk 6 0 (B #[]) K (acc++[(c8 l k (I+1) x).1]),fV (c8 l k (I+1) x).2)else fw l k 6 125 I K (acc++[(c8 l k (I+1) x).1]) (cI l [44] (c8 l k (I+1) x).2))=(.mk 6 0 (B #[]) K (acc++[cR]),x):=by intro x hx K;rw[Ao l k (I+1) x hx];exact uE l k 6 125 I K acc (cR,x) hx
  rw[a6];dsimp only
  cases U:cL l (bg l i)with
  |no a w=>
   rw[U]at b0;have hw:=sW b0;have M:iQ l keys (i,p,0)=(a,(a:Int),w):=by
    unfold iQ;dsimp only;rw[U];have ho:dM (.no a w:PE (List UInt8)) p=(a,(a:Int),w):=rfl;rw[ho];split;·unfold sq;dsimp only;rw[if_neg hw,if_neg hw]
    rfl
   rw[M];have ad:¬(fg l (a,(a:Int),w)).2.2=0:=hw;rw[uG _ _ _ ad,N _ ad];exact⟨_,_,rfl⟩
  |ok t j=>
   rw[U]at a7;have a8:jU (.ok t j:PE (List UInt8))=bytesOf t:=rfl;rw[a8];dsimp only;by_cases c4:keys.any (fun x=>decide (x=bytesOf t))=true;·
    have M:iQ l keys (i,p,0)=(j,((bg l i:Nat):Int),4):=by unfold iQ;dsimp only;rw[U,a8,if_pos (show hasB keys (bytesOf t)=true from c4)];rfl
    rw[if_pos c4,M];have ad:¬(fg l (j,((bg l i:Nat):Int),(4:Int))).2.2=0:=by show ¬(4:Int)=0;decide
    rw[uG _ _ _ ad,N _ ad];exact⟨_,_,rfl⟩
   have M:iQ l keys (i,p,0)=(j,p,0):=by unfold iQ;dsimp only;rw[U,a8,if_neg (show ¬hasB keys (bytesOf t)=true from c4)];rfl
   rw[if_neg c4,M];have b3:fg l (j,p,0)=(bg l j,p,0):=rfl;rw[b3,uV];have ch:=cA a7.2;have cj:=cE l j
   cases hr2:cn l 58 (bg l j)with
   |no a w=>
    have hw:¬w=0:=by have:=oq (l:=l) (c:=58) (i:=bg l j);rw[hr2]at this;exact sW this
    have ho:dM (.no a w:PE Unit) p=(a,(a:Int),w):=rfl;rw[ho,N (a,(a:Int),w) hw];exact⟨_,_,rfl⟩
   |ok u j1=>
    obtain⟨e1,e2⟩:=mB hr2;have ho:dM (.ok u j1:PE Unit) p=(j1,p,0):=rfl;rw[ho];dsimp only;have cy:i<j:=by have:=a7.1;omega
    have J:=O.v (I+1) j1 p (by omega) (by omega);have hb:=bd.v (I+1+1) j1 (by omega);have he:=er.v (I+1+1) j1
    cases b2:dA l k (I+1+1) j1 with
    |no a w=>rw[b2]at J he;obtain⟨v',i',J⟩:=J;rw[J];have:=uE l k 6 125 I (keys++[bytesOf t]) acc (v',(i',(a:Int),w)) (sW he);rw[this];exact⟨_,_,rfl⟩
    |ok v j2=>rw[b2]at J hb;have J:c8 l k (I+1) (j1,p,0)=(v,(bg l j2,p,0)):=J;rw[J];have c7:j1<j2:=hb.1;have cl:=cA hb.2;have cq:=cE l j2;exact yo (G:=fun q=>fJ l k (I+1) q (keys++[bytesOf t]) (acc++[v])) (by decide) (by decide) fun X=>O.og I _ p _ _ (b8 (by rw[X];decide)) (by have:=b8 (l:=l) (i:=bg l j2) (by rw[X];decide);omega)
theorem Bp(s):jv s=j7 s:=by
 unfold jv j7;by_cases h:65536<s.size;·rw[if_pos h,if_pos h]
 rw[if_neg h,if_neg h];have I:=(JO (aX s) (3*s.size+1)).v 0 0 0 (ς _) (by rw[bh];omega);have J:=(C8 (l:=aX s) (3*s.size+1)).v (0+1) 0;have hb:=(mQ (aX s) (3*s.size+1)).v (0+1) 0 (ς _);have hp:eb (aX s)=match dA (aX s) (3*s.size+1) (0+1) 0 with
  |.no a w=>.no a w
  |.ok j i=>if bg (aX s) i<(aX s).length then .no (bg (aX s) i) 10 else .ok j 0:=by
  unfold eb;rw[bh];show(match dA (aX s) (3*s.size+1) 1 0 with|.no a w=>.no a w|.ok j i=>if bg (aX s) i<s.size then .no (bg (aX s) i) 10 else .ok j 0:PE JV)=match dA (aX s) (3*s.size+1) 1 0 with|.no a w=>.no a w|.ok j i=>if bg (aX s) i<s.size then .no (bg (aX s) i) 10 else .ok j 0
  rfl
 rw[hp];unfold nN
 cases hr:dA (aX s) (3*s.size+1) (0+1) 0 with
 |no a w=>
  rw[hr]at I J;obtain⟨N,M,I⟩:=I;have hw:=sW J;rw[I];have he:kZ s (M,(a:Int),w)=(M,(a:Int),w):=by unfold kZ;rw[if_neg (fun q=>hw q.1)]
  dsimp only;rw[he,if_neg hw]
 |ok v j=>
  rw[hr]at I hb;have I:c8 (aX s) (3*s.size+1) 0 (0,0,0)=(v,(bg (aX s) j,0,0)):=I;rw[I];dsimp only;by_cases hj:bg (aX s) j<(aX s).length;·
   have he:kZ s (bg (aX s) j,0,0)=(bg (aX s) j,((bg (aX s) j:Nat):Int),10):=by unfold kZ;rw[if_pos ⟨rfl,by rw[bh]at hj;exact hj⟩];rfl
   rw[if_pos hj,he,if_neg (show ¬(10:Int)=0 by decide)]
  have he:kZ s (bg (aX s) j,0,0)=(bg (aX s) j,0,0):=by unfold kZ;rw[if_neg (fun q=>hj (by rw[bh];exact q.2))]
  rw[if_neg hj,he,if_pos rfl]
variable {ps:List bP}
theorem DI(ts:List ca)(id)(hl:ts.length<=1000000):bp Tryz.prog 29 [.d (.sl (ts.map ca.c)),.d (ci id)] (.d (ci (cD ts id))) 0:=by
 refine bp.b6 (n:=20) (ts:=[4]) Tryz.func29 (by kernel_rfl) Z Tryz.ntmps29 Tryz.results29 Z Z fun C hC X=>aZ 1 Z<|ae<|aZ 1 Z<|W.block<|W.bY (ι:={x:Nat//match x with|k=>k<=ts.length∧(∀(i:Nat)(u:ca),i<k->ts[i]?=some u->u.id≠id)})
  (fun x=>match x.1 with|k=>[(5,.d (.v (.int .i64 ((k:Nat):Int))))]) [(0,_),(1,_)]
  (fun x=>match x.1 with|k=>[]) [] [] 0 (fun x=>match x.1 with|k=>ts.length-k)
  [] ⟨0,?_⟩ Z ?_ ⟨rfl,rfl,rfl,rfl,trivial⟩ ?_ trivial Z ?_
 ·exact⟨ς _,fun i u hi=>by omega⟩
 ·repeat' constructor
 ·repeat' exact trivial
 rintro⟨k,⟨O,hb⟩⟩;show W _ _ _ _ _ ⟨[(5,.d (.v (.int .i64 ((k:Nat):Int)))),(0,_),(1,_)],[],[],0⟩;refine ae<|aZ 4 Z<|ct (l:=ts) (k:=k) Z (by simp[Ex.bE,bh]) O (fun z J hd N=>?_)<|fun he hd=>?_;·
  refine ah<|qs<|ae<|W.block<|ae<|aa<|aY 2 Z<|pu (indexAddr aW Z Z Z Z Z Z (ε _) (bF (f:=ca.c) J) Z) Z<|aY 4 Z<|ab<|qs<|ba Z (fun I=>?_)<|fun I=>?_;·
   have M:cD ts id=(k:Int):=As hb J (by simpa using I);refine aZ 2 Z<|W.ret<|bw<|bl<|cN<|bw<|bl<|QF.bo trivial Z ?_;rw[M];rfl
  have U:z.id≠id:=by simpa using I
  refine ah<|bW<|qs<|aa<|pE Z<|pu (b5 (ev aW Z) (y:=((k+1:Nat):Int)) (wrap64 (by omega))) Z<|pE Z<|ab<|W.bZ [] ⟨k+1,?_⟩ ?_ Z ?_ ⟨rfl,rfl,rfl,rfl,trivial⟩ ?_ trivial Z;·
   exact⟨N,fun i u hi hu=>by
    by_cases e:i=k;·subst e;rw[J]at hu;cases hu;exact U
    exact hb i u (by omega) hu⟩
  ·dsimp only;omega
  ·repeat' constructor
  repeat' exact trivial
 have M:cD ts id=-1:=AZ (fun i u hi hu=>hb i u (by omega) hu);refine an<|bL<|bM<|bK<|qs<|aZ 1 Z<|W.ret<|QF.bo trivial Z ?_;rw[M];rfl
theorem Eu(j:JV):bp Tryz.prog 30 [.ag j.c] (.tup [.d (ci (xd j)),.d (cs (fR j)),.d (ci (gW j))]) 0:=by
 refine bp.b6 (n:=46) (ts:=[2,3,4]) Tryz.func30 (by kernel_rfl) Z Tryz.ntmps30 Tryz.results30 Z Z fun C hC J=>ae<|aa<|cG Z Z Z<|aY 3 Z<|ab<|qs<|ae<|aa<|aY 1 Z<|pu (bm Z Z Z (vg ..) Z) Z<|aY 7 Z<|ab<|qs<|ae<|aa<|aY 1 Z<|pu (bm Z Z Z (qw j cb) Z) Z<|aY 3 Z<|bT aW Z Z Z<|be aW Z Z Z Z Z Z Z Z<|pE Z<|ab<|qs<|ae<|ae<|?_
 apply bC;(case hb=>rfl);·repeat' first|refine b4 Z Z Z|refine bz Z Z ?_|refine bA Z Z Z Z ?_|refine pE Z ?_|refine ab ?_|(apply bN;(case hj=>rfl);(case hl=>rfl))
 refine qs (ba Z (fun I=>?_) (fun I=>?_));·
  have hb:ri j=true:=by rw[η,Bool.not_not]at I;exact I
  refine aZ 3 Z<|W.ret<|bl<|QF.bo trivial Z ?_;simp only[xd,fR,gW,hb];rfl
 have hb:ri j=false:=by rw[η,Bool.not_not]at I;exact I
 refine ah<|qs<|ae<|aa<|aY 2 Z<|pu (bm Z Z Z (qL ..) Z) Z<|pE Z<|ab<|qs<|ae<|W.dK aW (by kernel_rfl)<|bt (ev aW Z) Z<|bt (ev aW Z) Z<|bt (ev aW Z) Z ?_
 refine bt (ev aW Z) Z<|bt (ev aW Z) Z<|bt (ev aW Z) Z<|bt (ev aW Z) Z<|ao ?_
 refine qs (W.ret (QF.bo trivial Z ?_));simp only[xd,fR,gW,hb];rfl
abbrev jC(ts:List ca):List (List D):=ts.map ca.c
abbrev vS(l:List (Value×List Ev)):List (List D):=l.map fun p=>[.v p.1]
abbrev fv(l:List (Value×List Ev)):List (List Ev):=l.map (·.2)
theorem BH(l):∀(x:List D),x∈jC l->x.length=3:=by intro x I;obtain⟨y,_,rfl⟩:=A'.1 I;rfl
theorem DN(l):∀(x:List D),x∈vS l->x.length=1:=by intro x I;obtain⟨y,_,rfl⟩:=A'.1 I;rfl
theorem wH(l:List ca)(k)(t:ca):(jC l).set k t.c=jC (l.set k t):=(List.map_set (f:=ca.c)).symm
theorem KN(l:List (Value×List Ev))(k v e):(vS l).set k [.v v]=vS (l.set k (v,e)):=(List.map_set (f:=fun p:Value×List Ev=>[D.v p.1]) (a:=(v,e))).symm
theorem oz(l v):fv (l++[(v,[])])=fv l++[[]]:=by simp[fv]
theorem q9(l)(t:ca):jC l++[t.c]=jC (l++[t]):=by simp[jC]
theorem sZ(l v e):vS l++[[.v v]]=vS (l++[(v,e)]):=by simp[vS]
theorem Ik{id}(h:0<=id∧id<=1000000000000000):(B #[116]).size+(dh id).size<=9223372036854775807:=by have:=Co (n:=id) (Az.2 ⟨by omega,h.2⟩);show 1+_<=_;omega
def wy(v:JV)(e:Int):Int:=if(bif decide (e=0)then !decide (v.op=5)else false)=true then 10 else e
def eM(x:lJ)(j:JV):Int:=if sJ x j=true then 4 else gW j
structure HN(v:JV):Prop where
 len:v.kids.length<=100000
 kids:∀k∈v.kids,uw k
 fin:(eQ v.kids ([],[])).2=0->(∀e∈(eQ v.kids ([],[])).1.2,e.length<=1000)∧(∀t∈(eQ v.kids ([],[])).1.1,0<=t.id∧t.id<=1000000000000000)∧qx ((eQ v.kids ([],[])).1.1.map jZ) (km (eQ v.kids ([],[])).1)∧(km (eQ v.kids ([],[])).1).length<=1000
theorem vl{v:JV}{x:lJ}{j:JV}{r E}(I:¬v.op≠5)(J:(if(fT x j).2≠0 then(x,(fT x j).2)else eQ r (fT x j).1)=eQ v.kids ([],[]))(M:(fT x j).2=E)(h0:E≠0):mg v=(gm,E):=by rw[if_pos (by rw[M];exact h0),M]at J;unfold mg;rw[if_neg I,←J,if_pos h0]
theorem qv{v:JV}{x y:lJ}{j:JV}{r}(I:(if(fT x j).2≠0 then(x,(fT x j).2)else eQ r (fT x j).1)=eQ v.kids ([],[]))(J:fT x j=(y,0)):eQ r y=eQ v.kids ([],[]):=by rw[J]at I;exact I
theorem I2(x:lJ):(km x).length<=x.1.length:=by
 unfold km;have:∀l:List (ca×List Ev),(l.flatMap fun p=>qB p.1.id p.2).length<=l.length:=by
  intro l
  induction l with
  |nil=>simp
  |cons p r I=>
   rw[List.flatMap_cons,ν,Ξ];have:(qB p.1.id p.2).length<=1:=by unfold qB;split<;>simp
   omega
 have h:=this (x.1.zip x.2);rw[List.length_zip]at h;omega
theorem GD{ts:List ca}{es:List (List Ev)}{t:ca}{e}(h1:ts[i]?=some t)(h2:es[i]?=some e):km (ts.take (i+1),es.take (i+1))=km (ts.take i,es.take i)++qB t.id e:=by have I:=(δ.1 h1).1;have J:=(δ.1 h2).1;unfold km;dsimp only;rw[Ψ,Ψ,h1,h2,List.zip_append (by simp;omega),List.flatMap_append];simp
set_option maxHeartbeats 1000000 in
theorem Dy(s)(v:JV)(a e)(hp:bp Tryz.prog 27 [.d (.v (.string s))] (.tup [.ag v.c,.d (ci a),.d (ci e)]) 0)(hGd:e=0->HN v)(hof:∀(ts:List ca)(ps:List bP),qx ts ps->ps.length<=1000->bp Tryz.prog 32 [.ag (jf ts),.d (.sl (ps.map bP.c))] (.tup [.ag (ez ts ps).1.c,.d (ci (ez ts ps).2)]) 0):
  bp Tryz.prog 10 [.d (.v (.string s))] (.tup [.ag (if e≠0 then(gm,e)else mg v).1.c,.d (ci (if e≠0 then(gm,e)else mg v).2)]) 0:=by
 obtain⟨F,hF⟩:∃F,F=(if e≠0 then(gm,e)else mg v):=⟨_,rfl⟩
 rw[<-hF]
 refine bp.dk aW (n:=209) (rs:=[.cell 2 30,.tmp 3]) Tryz.func10 (by kernel_rfl) Z Tryz.ntmps10 Tryz.results10 Z fun C hC hG=>ae<|aa<|bT aW Z Z Z<|pE Z<|ab<|qs<|ae<|aa<|pE Z<|pu (bm Z Z Z hp Z) Z<|aY 4 Z<|bT aW Z Z Z<|be aW Z Z Z Z Z Z Z Z<|aY 2 Z<|ab<|qs<|ae<|ae<|?_
 apply bC;(case hb=>rfl)
 ·
  refine aY 3 Z ?_
  apply eU;(case hj=>rfl);(case hl=>rfl)
  ·
   intro g31
   refine bz Z Z<|pE Z<|bz Z Z<|aY 1 Z<|bz Z Z<|aY 2 Z<|ab<|b4 Z Z Z
  intro g31
  refine bA Z Z Z Z<|bA Z Z Z Z<|bA Z Z Z Z<|pE Z<|ab<|b4 Z Z Z
 refine qs (W.kV [(2,.ptr 0 0),(4,.ptr 1 0),(6,.d (ci (wy v e)))] [] [] [0,1] [] 2 ?_ ?_)
 ·
  refine ba Z (fun h35=>?_) (fun h35=>?_)
  ·
   rw[show wy v e=10 from if_pos h35]
   refine cJ 1 Z<|cZ [0,1] Z ?_ trivial ?_ ⟨rfl,rfl,rfl,rfl,trivial⟩ Z
   ·repeat' constructor
   repeat' exact trivial
  rw[show wy v e=e from if_neg (by simp[h35])]
  refine ah (cZ [0,1] Z ?_ trivial ?_ ⟨rfl,rfl,rfl,rfl,trivial⟩ Z)
  ·repeat' constructor
  repeat' exact trivial
 refine qs<|ae<|aZ 2 Z<|ba Z (fun h37=>?_)<|fun h37=>?_
 ·
  have hne:wy v e≠0:=by simpa using h37
  have hg:F=(gm,wy v e):=by
   rw[hF]
   unfold wy at hne⊢
   by_cases q:e=0
   ·
    rw[if_neg (by simpa using q)]
    by_cases q2:v.op=5
    ·simp[q,q2]at hne
    unfold mg
    rw[if_pos q2]
    simp[q,q2]
   rw[if_pos q,if_neg (by simp[q])]
  refine ae<|aa<|pu (gX (build aW Z Z Z Z) Z) Z<|pE Z<|be aW Z Z Z Z Z Z Z Z<|pE Z<|ab<|qs<|W.ret<|bl<|QV.bo aW trivial Z ?_
  rw[hg];rfl
 have hz:wy v e=0:=by simpa using h37
 have he0:e=0:=by
  unfold wy at hz
  split at hz
  ·cases hz
  exact hz
 have hop:¬v.op≠5:=by
  unfold wy at hz
  rw[he0]at hz
  intro q
  rw[if_pos (by simp[q])]at hz
  cases hz
 have hF2:F=mg v:=by rw[hF,if_neg (by simpa using he0)]
 have hGv:=hGd he0
 have hv5:=hGv.len
 refine ah<|qs<|aZ 1 Z<|aZ 1 Z<|ae<|ae<|W.yJ (d:=7) Z Z<|W.yJ (d:=8) Z Z<|KQ Ev.c 0 0 Z Z<|Jv 0 1 Z Z<|cJ 1 Z<|qs<|W.block<|W.bY (ι:={x:Nat×List ca×List (Value×List Ev)//match x with|(k,ts,l)=>k<=v.kids.length∧eQ (v.kids.drop k) (ts,fv l)=eQ v.kids ([],[])∧HT k (ts,fv l)})
  (fun x=>match x.1 with|(k,ts,l)=>[(2,.ptr 0 0),(4,.ptr 1 0),(7,.xs 2 (jC ts)),(8,.xs 3 (vS l)),(9,.d (.v (.int .i64 ((k:Nat):Int))))]) []
  (fun x=>match x.1 with|(k,ts,l)=>[(0,[.gi 4 (kj Ev.c l none),.any,.d (.v (.slice none 0 0)),.d (.v (.slice none 0 0))])]) [(1,_)] [2,3,4] 5 (fun x=>match x.1 with|(k,ts,l)=>v.kids.length-k)
  [0,1,2,3,4] ⟨(0,[],[]),?_⟩ rfl ?_ trivial ?_ ⟨rfl,rfl,trivial⟩ rfl ?_
 ·exact⟨ς _,rfl,ω _,rfl,fun e he=>nomatch he⟩
 ·repeat' constructor
 ·repeat' constructor
 rintro⟨⟨k,ts,l⟩,hk,hI,hM⟩
 show W _ _ _ _ _ ⟨[(2,.ptr 0 0),(4,.ptr 1 0),(7,.xs 2 (jC ts)),(8,.xs 3 (vS l)),(9,.d (.v (.int .i64 ((k:Nat):Int))))],[(0,[.gi 4 (kj Ev.c l none),.any,.d (.v (.slice none 0 0)),.d (.v (.slice none 0 0))]),(1,_)],[2,3,4],5⟩
 refine ae<|aZ 5 Z<|ct (l:=v.kids) (k:=k) Z (by simp[JV.bE]) hk (fun j hx hd hlt=>?_)<|fun he hd=>?_
 ·
  have hjk:uw j:=hGv.kids j (ζ hx)
  have hM1:ts.length<=k:=hM.1
  have hM2:(fv l).length=ts.length:=hM.2.1
  have hM3:=hM.2.2
  have hll:l.length=ts.length:=by rw[<-hM2];simp
  have htm:ts.length<=1000000:=by omega
  have hkm:v.kids.length<=maxLen:=by simp only[maxLen];omega
  rw[hd,eQ]at hI
  refine ah<|qs<|ae<|W.block<|ae<|aa<|aY 3 Z<|pu (indexAddr (l:=j.c) aW Z Z Z Z Z Z (ε _) (JV.sN hx) Z) Z<|aY 1 Z<|pu (bm Z Z Z (vg ..) Z) Z<|aY 7 Z<|ab<|qs<|ae<|aZ 2 Z<|ba Z (fun h58=>?_)<|fun h58=>?_
  ·
   have hb:gk j=true:=by simpa using h58
   have hg:F=(gm,10):=hF2.trans (vl hop hI (by unfold fT;rw[if_pos hb]) (by decide))
   refine ae<|aa<|pu (gX (build aW Z Z Z Z) Z) Z<|be aW Z Z Z Z Z Z Z Z<|pE Z<|ab<|qs<|W.ret<|bl<|bw<|bl<|cN<|bw<|bl<|QV.bo aW trivial Z ?_
   rw[hg];rfl
  have hb:¬gk j=true:=by simpa using h58
  refine ah<|qs<|ae<|aa<|aY 2 Z<|pu (IU Z Z Z Z (DI ts (cB j) htm)) Z<|pE Z<|ab<|qs<|ae<|aZ 2 Z<|ba Z (fun h64=>?_)<|fun h64=>?_
  ·
   have hM6:cP j=pM:=μ h64
   refine ae<|aa<|aY 3 Z<|pu (indexAddr (l:=j.c) aW Z Z Z Z Z Z (ε _) (JV.sN hx) Z) Z<|aY 1 Z<|pu (bm Z Z Z (Eu ..) Z) Z<|aY 7 Z<|ab<|qs<|ae<|ae<|?_
   apply bC;(case hb=>rfl)
   ·
    refine aY 3 Z ?_
    apply eU;(case hj=>rfl);(case hl=>rfl)
    ·
     intro g77
     refine bz Z Z (pE Z (bz Z Z (aY 3 Z ?_)))
     apply eU;(case hj=>rfl);(case hl=>rfl)
     ·
      intro g81
      refine bz Z Z<|pE Z<|bz Z Z<|pE Z<|bz Z Z<|pu (gB (l:=(l4 ts (cB j)).c) aW Z Z Z Z Z Z (μ g81) (JX g81) Z) Z<|bz Z Z<|pu (jx aW Z Z Z Z Z Z) Z<|bz Z Z<|pu (jT aW Z Z Z) Z<|bz Z Z<|aY 2 Z<|ab<|b4 Z Z Z
     intro g81
     iterate 6 refine bA Z Z Z Z ?_
     refine pE Z (ab (b4 Z Z Z))
    intro g77
    refine bA Z Z Z Z<|bA Z Z Z Z<|aY 2 Z ?_
    iterate 6 refine bA Z Z Z Z ?_
    refine pE Z (ab (b4 Z Z Z))
   refine qs (W.kV [(2,.ptr 0 0),(4,.ptr 1 0),(7,.xs 2 (jC ts)),(8,.xs 3 (vS l)),(9,.d (.v (.int .i64 ((k:Nat):Int)))),(11,.d (ci (cB j))),(13,.d (ci (cD ts (cB j)))),(15,.d (cs (fR j))),(16,.d (ci (eM (ts,fv l) j)))] [] [(0,[.gi 4 (kj Ev.c l none),.any,.d (.v (.slice none 0 0)),.d (.v (.slice none 0 0))])] [1] [2,3,4] 5 ?_ ?_)
   ·
    refine ba Z (fun h88=>?_) (fun h88=>?_)
    ·
     rw[show eM (ts,fv l) j=4 from if_pos h88]
     refine cJ 1 Z<|cZ [0,1,2,3,4] Z ?_ trivial ?_ ⟨rfl,rfl,trivial⟩ Z
     ·repeat' constructor
     repeat' constructor
    rw[show eM (ts,fv l) j=gW j from if_neg (by rw[show sJ (ts,fv l) j=false from h88];simp)]
    refine ah (cZ [0,1,2,3,4] Z ?_ trivial ?_ ⟨rfl,rfl,trivial⟩ Z)
    ·repeat' constructor
    repeat' constructor
   refine qs<|ae<|aZ 2 Z<|ba Z (fun h90=>?_)<|fun h90=>?_
   ·
    have hne:eM (ts,fv l) j≠0:=by simpa using h90
    have hg:F=(gm,eM (ts,fv l) j):=hF2.trans (vl hop hI (by
     unfold fT eM at*
     rw[if_neg hb,if_pos hM6]
     split
     ·rfl
     rename_i q
     rw[if_neg q]at hne
     rw[if_pos hne]) hne)
    refine ae<|aa<|pu (gX (build aW Z Z Z Z) Z) Z<|pE Z<|be aW Z Z Z Z Z Z Z Z<|pE Z<|ab<|qs<|W.ret<|bl<|bl<|bw<|bl<|cN<|bw<|bl<|QV.bo aW trivial Z ?_
    rw[hg];rfl
   have hz:eM (ts,fv l) j=0:=by simpa using h90
   have hs:fT (ts,fv l) j=if cD ts (cB j)<0 then((ts++[⟨cB j,fR j⟩],fv l++[[]]),0)else((ts.set (cD ts (cB j)).toNat ⟨(l4 ts (cB j)).id,fR j⟩,fv l),0):=by
    unfold fT
    unfold eM at hz
    rw[if_neg hb,if_pos hM6]
    split at hz
    ·cases hz
    rename_i q
    rw[if_neg q,if_neg (by simpa using hz)]
   refine ah<|qs<|ae<|aZ 2 Z<|ba Z (fun h94=>?_)<|fun h94=>?_
   ·
    have hf:cD ts (cB j)<0:=μ h94
    rw[if_pos hf]at hs
    have hbr:cD ts (cB j)<0:=hf
    have hI2:=qv hI hs
    refine ae<|Ey 0 0 Z Z Z Z<|aa<|aY 3 Z<|pu (build aW Z Z Z Z) Z<|pu (bR aW Z Z Z Z Z Z Z Z Z) Z<|mr (es2:=[ca.c ⟨cB j,fR j⟩]) (r:=jC (ts++[⟨cB j,fR j⟩])) aW Z Z Z Z Z Z Z Z Z Z (q9 _ _) (by rw[q9];exact BH _) (by show((jC ts).length+1)*32<=_;rw[η];omega) Z<|pE Z<|ab<|qs<|aa<|pE Z<|pu (bR aW Z Z Z Z Z Z Z Z Z) Z<|mr (es2:=[[.v (.slice none 0 0)]]) (r:=vS (l++[(.slice none 0 0,[])])) aW Z Z Z Z Z Z Z Z Z Z (sZ _ _ _) (by rw[sZ _ _ []];exact DN _) (by show((vS l).length+1)*24<=_;rw[η];omega) Z<|pE Z<|ab<|qs<|an<|bL<|bK<|qs ?_
    skip
    refine cJ 3 Z ?_
    (have _hb:cD ts (cB j)<0:=hbr;refine W.bZ [0,1,5,6,4] ⟨(k+1,ts++[⟨cB j,fR j⟩],l++[(.slice none 0 0,[])]),?_⟩ ?_ rfl ?_ trivial ?_ ⟨rfl,rfl,trivial⟩ rfl)
    ·exact⟨hlt,by first|exact hI2|(rw[oz];exact hI2)|exact qv hI (hs1 v'),by first|(have:=jV hM j;rw[hs]at this;exact this)|(have:=jV hM j;rw[hs]at this;rw[oz];exact this)|(have:=jV hM j;rw[hs1 v']at this;exact this)⟩
    ·dsimp only;omega
    ·repeat' first|exact trivial|refine⟨rfl,?_⟩|refine⟨bH (by assumption) (by assumption),?_⟩
    repeat' constructor
   have hf:¬cD ts (cB j)<0:=υ h94
   rw[if_neg hf]at hs
   have hbr:¬cD ts (cB j)<0:=hf
   have hI2:=qv hI hs
   have hf0:0<=cD ts (cB j):=by omega
   have hat:(jC ts)[(cD ts (cB j)).toNat]?=some (l4 ts (cB j)).c:=by rw[τ,vQ hf0];rfl
   have hset:(jC ts).set (cD ts (cB j)).toNat (nR (l4 ts (cB j)).c 1 [cs (fR j)])=jC (ts.set (cD ts (cB j)).toNat ⟨(l4 ts (cB j)).id,fR j⟩):=wH ts _ ⟨(l4 ts (cB j)).id,fR j⟩
   refine aa<|aY 3 Z<|pu (gB (l:=(l4 ts (cB j)).c) aW Z Z Z Z Z Z hf0 hat Z) Z<|pu (jx aW Z Z Z Z Z Z) Z<|qy aW 7 Z Z Z Z hat Z Z Z Z Z Z hset Z<|ab<|qs<|an<|bL<|bK<|qs ?_
   skip
   refine cJ 3 Z ?_
   (have _hb:¬cD ts (cB j)<0:=hbr;refine W.bZ [0,1,5,3,4] ⟨(k+1,ts.set (cD ts (cB j)).toNat ⟨(l4 ts (cB j)).id,fR j⟩,l),?_⟩ ?_ rfl ?_ trivial ?_ ⟨rfl,rfl,trivial⟩ rfl)
   ·exact⟨hlt,by first|exact hI2|(rw[oz];exact hI2)|exact qv hI (hs1 v'),by first|(have:=jV hM j;rw[hs]at this;exact this)|(have:=jV hM j;rw[hs]at this;rw[oz];exact this)|(have:=jV hM j;rw[hs1 v']at this;exact this)⟩
   ·dsimp only;omega
   ·repeat' first|exact trivial|refine⟨rfl,?_⟩|refine⟨bH (by assumption) (by assumption),?_⟩
   repeat' constructor
  have hM6:¬cP j=pM:=υ h64
  refine ah<|qs<|ae<|aa<|aY 3 Z<|pu (indexAddr (l:=j.c) aW Z Z Z Z Z Z (ε _) (JV.sN hx) Z) Z<|aY 1 Z<|pu (bm Z Z Z ((Fa _ (by assumption))) Z) Z<|aY 4 Z<|bT aW Z Z Z<|pE Z<|be aW Z Z Z Z Z Z Z Z<|pE Z<|ab<|qs<|ae<|aZ 2 Z<|ba Z (fun h120=>?_)<|fun h120=>?_
  ·
   have hne:(dX j).2.2≠0:=by simpa using h120
   have hg:F=(gm,(dX j).2.2):=hF2.trans (vl hop hI (by unfold fT;rw[if_neg hb,if_neg hM6,if_pos hne]) hne)
   refine ae<|aa<|pu (gX (build aW Z Z Z Z) Z) Z<|pE Z<|be aW Z Z Z Z Z Z Z Z<|pE Z<|ab<|qs<|W.ret<|bl<|bw<|bl<|cN<|bw<|bl<|QV.bo aW trivial Z ?_
   rw[hg];rfl
  have hz:¬(dX j).2.2≠0:=by simpa using h120
  have hs:fT (ts,fv l) j=if cD ts (cB j)<0 then((ts++[⟨cB j,cw⟩],fv l++[[(dX j).2.1]]),0)else((ts,(fv l).set (cD ts (cB j)).toNat (uM (ts,fv l) (cB j)++[(dX j).2.1])),0):=by
   unfold fT;rw[if_neg hb,if_neg hM6,if_neg hz]
  obtain⟨ts1,hts1⟩:∃x,x=if cD ts (cB j)<0 then ts++[⟨cB j,cw⟩]else ts:=⟨_,rfl⟩
  obtain⟨l1,hl1⟩:∃x,x=if cD ts (cB j)<0 then l++[((.slice none 0 0:Value),([]:List Ev))]else l:=⟨_,rfl⟩
  obtain⟨K,hK⟩:∃x,x=if cD ts (cB j)<0 then ts.length else(cD ts (cB j)).toNat:=⟨_,rfl⟩
  obtain⟨ej,hev⟩:∃x,x=(dX j).2.1:=⟨_,rfl⟩
  obtain⟨vK,es,hlK,hs1,hes1⟩:∃vK es,l1[K]?=some (vK,es)∧(∀v',fT (ts,fv l) j=((ts1,fv (l1.set K (v',es++[ej]))),0))∧es.length<=k:=by
   by_cases hf:cD ts (cB j)<0
   ·
    rw[if_pos hf]at hts1 hl1 hK hs
    subst hts1;subst hl1;subst hK
    refine⟨.slice none 0 0,[],by rw[Ω (by omega),hll];simp,fun v'=>?_,ς _⟩
    rw[hs,←hev]
    have:fv ((l++[((.slice none 0 0:Value),([]:List Ev))]).set ts.length (v',[]++[ej]))=fv l++[[ej]]:=by
     rw[<-hll,List.set_append_right _ _ (ω _)]
     simp[fv]
    rw[this]
   rw[if_neg hf]at hts1 hl1 hK hs
   rw[hts1,hl1,hK]
   obtain⟨q,hq,hqi,hqt,_⟩:=nX hf
   have hql:q<l.length:=by rw[hll];exact(δ.1 hqt).1
   have hqg:l[q]?=some (l[q].1,l[q].2):=by simp[hql]
   have hqe:uM (ts,fv l) (cB j)=l[q].2:=by unfold uM;rw[hq];simp[fv,List.getD,hql]
   rw[hqi]
   refine⟨_,_,hqg,fun v'=>?_,hM3 _ (A'.2 ⟨l[q],List.getElem_mem hql,rfl⟩)⟩
   rw[hs,hqe,hqi,←hev]
   have:fv (l.set q (v',l[q].2++[ej]))=(fv l).set q (l[q].2++[ej]):=List.map_set
   rw[show((q:Int)).toNat=q from rfl,this]
  rw[<-hev]
  have hxK:(vS l1)[K]?=some [.v vK]:=by rw[τ,hlK];rfl
  have hsetK:∀v',(vS l1).set K [.v v']=vS (l1.set K (v',es++[ej])):=fun v'=>KN l1 K v' _
  refine ah<|qs<|ae<|aZ 2 Z<|W.kV [(2,.ptr 0 0),(4,.ptr 1 0),(7,.xs 3 (jC ts1)),(8,.xs 4 (vS l1)),(9,.d (.v (.int .i64 ((k:Nat):Int)))),(13,.d (.v (.int .i64 ((K:Nat):Int)))),(18,.ptr 2 0)] [] [(0,[.gi 5 (kj Ev.c l1 none),.any,.d (.v (.slice none 0 0)),.d (.v (.slice none 0 0))]),(2,ej.c.map A.d)] [1] [3,4,5] 6 ?_ ?_
  ·
   refine ba Z (fun h124=>?_) (fun h124=>?_)
   ·
    have hf:cD ts (cB j)<0:=μ h124
    rw[if_pos hf]at hts1 hl1 hK
    subst hts1;subst hl1;subst hK
    refine ae<|Ey 0 0 Z Z Z Z<|aa<|pE Z<|pu (b5 (Ar aW Z Z Z Z) (y:=((ts.length:Nat):Int)) (by rw[η])) Z<|pE Z<|ab<|qs<|ae<|aa<|aY 2 Z<|pu (build aW Z Z Z Z) Z<|pu (bR aW Z Z Z Z Z Z Z Z Z) Z<|mr (es2:=[ca.c ⟨cB j,cw⟩]) (r:=jC (ts++[⟨cB j,cw⟩])) aW Z Z Z Z Z Z Z Z Z Z (q9 _ _) (by rw[q9];exact BH _) (by show((jC ts).length+1)*32<=_;rw[η];omega) Z<|pE Z<|ab<|qs<|aa<|pE Z<|pu (bR aW Z Z Z Z Z Z Z Z Z) Z<|mr (es2:=[[.v (.slice none 0 0)]]) (r:=vS (l++[(.slice none 0 0,[])])) aW Z Z Z Z Z Z Z Z Z Z (sZ _ _ _) (by rw[sZ _ _ []];exact DN _) (by show((vS l).length+1)*24<=_;rw[η];omega) Z ?_
    refine pE Z (ab (cZ [0,1,5,6,7,4] Z ?_ trivial ?_ ⟨rfl,rfl,trivial⟩ Z))
    ·repeat' constructor
    repeat' constructor
   have hf:¬cD ts (cB j)<0:=υ h124
   rw[if_neg hf]at hts1 hl1 hK
   rw[hts1,hl1,hK]
   have hKi:((cD ts (cB j)).toNat:Int)=cD ts (cB j):=Int.toNat_of_nonneg (by omega)
   rw[hKi]
   refine ah (cZ [0,1,5,2,3,4] Z ?_ trivial ?_ ⟨rfl,rfl,trivial⟩ Z)
   ·repeat' constructor
   repeat' constructor
  refine qs (Jk 0 0 1 K Z Z Z hlK Z Z Z ?_)
  apply W.fb aW 9 8;(case hB=>kernel_rfl);(case h1=>rfl);(case h2=>rfl)
  refine' cd ?p1_1 (ev aW Z) Z Z Z Z Z ?h_1
  case' h_1=>skip
  refine' cd ?p1_2 (ev aW Z) Z Z Z Z Z ?h_2
  case' h_2=>skip
  refine' cd ?p1_3 (ev aW Z) Z Z Z Z Z ?h_3
  case' h_3=>skip
  refine' cd ?p1_4 (ev aW Z) Z Z Z Z Z ?h_4
  case' h_4=>skip
  refine' cd ?p1_5 (gB (l:=[.v vK]) aW Z Z Z Z Z Z (ε _) hxK Z) Z Z Z Z Z ?h_5
  case' h_5=>skip
  refine' eJ (Lk 0 1 Z Z (jT aW Z Z Z)) Z Z Z Z Z ?h_6
  case' h_6=>skip
  refine' cd ?p1_7 (ev aW Z) Z Z Z Z Z ?h_7
  case' h_7=>skip
  refine' eJ (bR aW Z Z Z Z Z Z Z Z Z) Z Z Z Z Z ?h_8
  case' h_8=>skip
  refine' qu (fun g=>?e_9) Z Z Z ?h_9
  case e_9=>
   refine dF (fn:=Ev.c) (l:=es) (a:=ej) aW Z Z Z Z Z Z Z Z Z Z (fun _=>rfl) (by show(es.length+1)*72<=_;omega)<|ab ?_
   exact⟨rfl,rfl⟩
  case' h_9=>skip
  case p1_1=>exact(ev aW rfl)
  case p1_2=>exact(ev aW rfl)
  case p1_3=>exact(ev aW rfl)
  case p1_4=>exact(ev aW rfl)
  case p1_5=>exact(gB (l:=[.v vK]) aW rfl rfl rfl rfl rfl rfl (ε _) hxK rfl)
  case p1_7=>exact(ev aW rfl)
  refine au<|pu (gB (l:=[.v vK]) aW Z Z Z Z Z Z (ε _) hxK Z) Z<|Io 143 200 Z Z Z fun v' hv'=>qy aW 8 Z Z Z Z hxK Z Z Z Z Z Z (hsetK v') Z<|ab<|bW<|qs<|Kj (es:=es++[ej]) 0 0 200 K Z Z Z Z Z Z Z Z Z Z<|cJ 3 Z<|W.bZ [0,1,3,9,10] ⟨(k+1,ts1,l1.set K (v',es++[ej])),?_⟩ ?_ Z ?_ trivial ?_ ⟨rfl,rfl,trivial⟩ Z
  ·exact⟨hlt,by first|exact hI2|(rw[oz];exact hI2)|exact qv hI (hs1 v'),by first|(have:=jV hM j;rw[hs]at this;exact this)|(have:=jV hM j;rw[hs]at this;rw[oz];exact this)|(have:=jV hM j;rw[hs1 v']at this;exact this)⟩
  ·dsimp only;omega
  ·repeat' first|exact trivial|refine⟨rfl,?_⟩|refine⟨bH (by assumption) (by assumption),?_⟩
  repeat' constructor
 rw[hd]at hI
 have hI:((ts,fv l),(0:Int))=eQ v.kids ([],[]):=hI
 have hfin:=hGv.fin
 rw[<-hI]at hfin
 obtain⟨hf1,hf2,hOS,hOL⟩:=hfin rfl
 have hOL:(km (ts,fv l)).length<=1000:=hOL
 have hf1:∀e∈fv l,e.length<=1000:=hf1
 have hf2:∀t∈ts,0<=t.id∧t.id<=1000000000000000:=hf2
 have hOS:qx (ts.map jZ) (km (ts,fv l)):=hOS
 have hF3:F=ez (ts.map jZ) (km (ts,fv l)):=by rw[hF2];unfold mg;rw[if_neg hop,←hI];rfl
 have hM1:ts.length<=k:=hM.1
 have htm:ts.length<=maxLen:=by simp only[maxLen];omega
 have hll:l.length=ts.length:=by have:(fv l).length=ts.length:=hM.2.1;rw[<-this];simp
 refine an<|bL<|bM<|bK<|qs<|aZ 1 Z<|ae<|aZ 1 Z<|W.block<|lN (d:=20) Z Z<|W.bY (ι:={x:Nat×List ca×List bP//match x with|(i,tt,ps)=>i<=ts.length∧tt=(ts.take i).map jZ++ts.drop i∧ps=km (ts.take i,(fv l).take i)})
  (fun x=>match x.1 with|(i,tt,ps)=>[(2,.ptr 0 0),(7,.xs 1 (jC tt)),(8,.xs 2 (vS l)),(20,.own 3 (ps.map bP.c)),(21,.d (.v (.int .i64 ((i:Nat):Int))))]) []
  (fun x=>match x.1 with|(i,tt,ps)=>[(0,[.gi 4 (kj Ev.c l none),.any,.d (.v (.slice none 0 0)),.d (.v (.slice none 0 0))])]) [] [1,2,3,4] 5 (fun x=>match x.1 with|(i,tt,ps)=>ts.length-i)
  [0,2,3,5,4] ⟨(0,ts,[]),?_⟩ rfl ?_ trivial ?_ trivial rfl ?_
 ·exact⟨ς _,rfl,rfl⟩
 ·repeat' constructor
 ·repeat' constructor
 rintro⟨⟨i,tt,ps⟩,hi,htt,hps⟩
 show W _ _ _ _ _ ⟨[(2,.ptr 0 0),(7,.xs 1 (jC tt)),(8,.xs 2 (vS l)),(20,.own 3 (ps.map bP.c)),(21,.d (.v (.int .i64 ((i:Nat):Int))))],[(0,[.gi 4 (kj Ev.c l none),.any,.d (.v (.slice none 0 0)),.d (.v (.slice none 0 0))])],[1,2,3,4],5⟩
 have htl:tt.length=ts.length:=by rw[htt,ν,η,List.length_take,List.length_drop];omega
 have hpl:ps.length<=1000000:=by rw[hps];exact B' (I2 _) (by simp;omega)
 refine ae<|ae<|aa<|aY 2 Z<|pu (Ar aW Z Z Z Z) Z<|pE Z<|ab<|qs<|ba Z (fun h148=>?_)<|fun h148=>?_
 ·
  have hlt:i<ts.length:=by have:=μ h148;rw[η,htl]at this;omega
  obtain⟨t,ht⟩:∃t,ts[i]?=some t:=⟨ts[i],by simp[hlt]⟩
  obtain⟨vi,ei,hl⟩:∃vi ei,l[i]?=some (vi,ei):=⟨l[i].1,l[i].2,by simp[hll,hlt]⟩
  have hel:(fv l)[i]?=some ei:=by rw[τ,hl];rfl
  have hei:ei.length<=1000:=hf1 ei (ζ hel)
  have htid:=hf2 t (ζ ht)
  have hlm:((ts.take i).map jZ).length=i:=by rw[η,List.length_take];omega
  have htti:tt[i]?=some t:=by rw[htt,Ω (by omega),hlm,Nat.sub_self,List.getElem?_drop];exact ht
  have hti:(jC tt)[i]?=some t.c:=by rw[τ,htti];rfl
  have hvi:(vS l)[i]?=some [.v vi]:=by rw[τ,hl];rfl
  have hset:(jC tt).set i (nR t.c 1 [cs (B #[116]++dh t.id)])=jC (tt.set i ⟨t.id,B #[116]++dh t.id⟩):=wH tt i ⟨t.id,B #[116]++dh t.id⟩
  have htt2:tt.set i (jZ t)=(ts.take (i+1)).map jZ++ts.drop (i+1):=by
   rw[htt,List.set_append_right _ _ (by omega),hlm,Nat.sub_self,Ψ,ht,I',R']
   rw[show ts.drop i=t::ts.drop (i+1)from by rw[List.drop_eq_getElem_cons hlt];congr 1;simpa[hlt]using ht]
   rfl
  have hps2:ps++qB t.id ei=km (ts.take (i+1),(fv l).take (i+1)):=by rw[hps];exact(GD ht hel).symm
  refine ah<|qs<|ae<|W.block<|ae<|ae<|aa<|aY 2 Z<|pu (gB (l:=t.c) aW Z Z Z Z Z Z (ε _) hti Z) Z<|pu (jx aW Z Z Z Z Z Z) Z<|pu (jT aW Z Z Z) Z<|pE Z<|ab<|qs<|W.kV [(2,.ptr 0 0),(7,.xs 1 (jC (tt.set i (jZ t)))),(8,.xs 2 (vS l)),(20,.own 3 (ps.map bP.c)),(21,.d (.v (.int .i64 ((i:Nat):Int))))] [] [(0,[.gi 4 (kj Ev.c l none),.any,.d (.v (.slice none 0 0)),.d (.v (.slice none 0 0))])] [] [1,2,3,4] 5 ?_ ?_
  ·
   refine ba Z (fun h156=>?_) (fun h156=>?_)
   ·
    have hn0:t.name=cw:=μ h156
    rw[show jZ t=⟨t.id,B #[116]++dh t.id⟩from by unfold jZ;rw[if_pos hn0]]
    refine aa (aY 4 Z ?_)
    refine pu (gB (l:=t.c) aW Z Z Z Z Z Z (ε _) hti Z) Z ?_
    refine pu (jx aW Z Z Z Z Z Z) Z ?_
    refine pu (jT aW Z Z Z) Z ?_
    refine pu (bm Z Z Z (Gu _ t.id (Nat.lt_succ_self _) (by omega) (by omega)) Z) Z ?_
    refine pu (oQ (p:=B #[116]) (q:=dh t.id) Z Z (Ik htid)) Z ?_
    refine pu (gB (l:=t.c) aW Z Z Z Z Z Z (ε _) hti Z) Z ?_
    refine pu (jx aW Z Z Z Z Z Z) Z ?_
    refine qy aW 7 Z Z Z Z hti Z Z Z Z Z Z hset Z ?_
    refine ab (cZ [0,5,2,3,4] Z ?_ trivial ?_ trivial Z)
    ·repeat' constructor
    repeat' constructor
   have hn0:¬t.name=cw:=υ h156
   rw[show jZ t=t from by unfold jZ;rw[if_neg hn0],show tt.set i t=tt from by rw[<-(δ.1 htti).2];exact List.set_getElem_self _]
   refine ah (cZ [0,1,2,3,4] Z ?_ trivial ?_ trivial Z)
   ·repeat' constructor
   repeat' constructor
  refine qs<|aZ 1 Z<|W.block<|W.bY (ι:={x:Nat//match x with|q=>q<=1∧(q=1->ei≠[])})
   (fun x=>match x.1 with|q=>[(2,.ptr 0 0),(7,.xs 1 (jC (tt.set i (jZ t)))),(8,.xs 2 (vS l)),(20,.own 3 ((if q=0 then ps else ps++qB t.id ei).map bP.c)),(21,.d (.v (.int .i64 ((i:Nat):Int)))),(22,.d (ci (if q=0 then 0 else 1000)))]) []
   (fun x=>match x.1 with|q=>[(0,[.gi 4 (kj Ev.c l none),.any,.d (.v (.slice none 0 0)),.d (.v (.slice none 0 0))])]) [] [1,2,3,4] 5 (fun x=>match x.1 with|q=>1-q)
   [0,1,2,3,4] ⟨0,?_⟩ rfl ?_ trivial ?_ trivial rfl ?_
  ·exact⟨ς _,fun h=>by cases h⟩
  ·repeat' constructor
  ·repeat' constructor
  rintro⟨q,hq,hqe⟩
  show W _ _ _ _ _ ⟨[(2,.ptr 0 0),(7,.xs 1 (jC (tt.set i (jZ t)))),(8,.xs 2 (vS l)),(20,.own 3 ((if q=0 then ps else ps++qB t.id ei).map bP.c)),(21,.d (.v (.int .i64 ((i:Nat):Int)))),(22,.d (ci (if q=0 then 0 else 1000)))],[(0,[.gi 4 (kj Ev.c l none),.any,.d (.v (.slice none 0 0)),.d (.v (.slice none 0 0))])],[1,2,3,4],5⟩
  refine ae<|ae<|aa<|aY 3 Z<|pu (gB (l:=[.v vi]) aW Z Z Z Z Z Z (ε _) hvi Z) Z<|pu (vX 0 0 i Z Z Z hl Z (jT aW Z Z Z)) Z<|aY 2 Z<|ab<|qs<|ba Z (fun h174=>?_)<|fun h174=>?_
  ·
   have h174:=μ h174
   rw[η]at h174
   have hq0:q=0:=by
    by_cases q1:q=0
    ·exact q1
    rw[if_neg q1]at h174;omega
   subst hq0
   have hene:ei≠[]:=by rintro rfl;simp at h174
   rw[show qB t.id ei=[⟨t.id,0,0,ei⟩]from by unfold qB;rw[if_neg hene]]
   have hnt:(jZ t).id=t.id:=by unfold jZ;split<;>rfl
   have hti2:(jC (tt.set i (jZ t)))[i]?=some (jZ t).c:=by rw[<-wH,List.getElem?_set_self (by rw[η,htl];exact hlt)]
   have hei2:(ei.map Ev.c).length<=1000:=by rw[η];exact hei
   refine ah (qs (ae (W.block (W.ox aW [] [] [] [] 23 (by kernel_rfl) (by kernel_rfl) Z Z ?_))))
   refine' bQ (ev aW Z) ?p_10 Z Z Z (by kernel_rfl) Z ?h_10
   case' h_10=>skip
   case p_10=>refine⟨fun ha=>bc ha,?_⟩<;>intro ha<;>first|exact⟨ev aW rfl,fun h=>nomatch h⟩|exact bc ha
   refine' bQ (ev aW Z) ?p_11 Z Z Z (by kernel_rfl) Z ?h_11
   case' h_11=>skip
   case p_11=>refine⟨fun ha=>bc ha,?_⟩<;>intro ha<;>first|exact⟨ev aW rfl,fun h=>nomatch h⟩|exact bc ha
   refine' bQ (ev aW Z) ?p_12 Z Z Z (by kernel_rfl) Z ?h_12
   case' h_12=>skip
   case p_12=>refine⟨fun ha=>bc ha,?_⟩<;>intro ha<;>first|exact⟨ev aW rfl,fun h=>nomatch h⟩|exact bc ha
   refine' bQ (gB (l:=(jZ t).c) aW Z Z Z Z Z Z (ε _) hti2 Z) ?p_13 Z Z Z (by kernel_rfl) Z ?h_13
   case' h_13=>skip
   case p_13=>refine⟨fun ha=>bc ha,?_⟩<;>intro ha<;>first|exact⟨gB (l:=(jZ t).c) aW rfl rfl rfl rfl rfl rfl (ε _) hti2 rfl,fun h=>nomatch h⟩|exact bc ha
   refine' bQ (jx aW Z Z Z Z Z Z) ?p_14 Z Z Z (by kernel_rfl) Z ?h_14
   case' h_14=>skip
   case p_14=>refine⟨fun ha=>bc ha,?_⟩<;>intro ha<;>first|exact⟨jx aW rfl rfl rfl rfl rfl rfl,fun h=>nomatch h⟩|exact bc ha
   refine' bQ (b5 (jT aW Z Z Z) (y:=t.id) hnt) ?p_15 Z Z Z (by kernel_rfl) Z ?h_15
   case' h_15=>skip
   case p_15=>refine⟨fun ha=>bc ha,?_⟩<;>intro ha<;>first|exact⟨b5 (jT aW rfl rfl rfl) (y:=t.id) hnt,fun h=>nomatch h⟩|exact bc ha
   refine' bQ (ev aW Z) ?p_16 Z Z Z (by kernel_rfl) Z ?h_16
   case' h_16=>skip
   case p_16=>refine⟨fun ha=>bc ha,?_⟩<;>intro ha<;>first|exact⟨ev aW rfl,fun h=>nomatch h⟩|exact bc ha
   refine' bQ (ev aW Z) ?p_17 Z Z Z (by kernel_rfl) Z ?h_17
   case' h_17=>skip
   case p_17=>refine⟨fun ha=>bc ha,?_⟩<;>intro ha<;>first|exact⟨ev aW rfl,fun h=>nomatch h⟩|exact bc ha
   refine' bQ (ev aW Z) ?p_18 Z Z Z (by kernel_rfl) Z ?h_18
   case' h_18=>skip
   case p_18=>refine⟨fun ha=>bc ha,?_⟩<;>intro ha<;>first|exact⟨ev aW rfl,fun h=>nomatch h⟩|exact bc ha
   refine' bQ (gB (l:=[.v vi]) aW Z Z Z Z Z Z (ε _) hvi Z) ?p_19 Z Z Z (by kernel_rfl) Z ?h_19
   case' h_19=>skip
   case p_19=>refine⟨fun ha=>bc ha,?_⟩<;>intro ha<;>first|exact⟨gB (l:=[.v vi]) aW rfl rfl rfl rfl rfl rfl (ε _) hvi rfl,fun h=>nomatch h⟩|exact bc ha
   refine' bQ (vX 0 0 i Z Z Z hl Z (jT aW Z Z Z)) ?p_20 Z Z Z (by kernel_rfl) Z ?h_20
   case' h_20=>skip
   case p_20=>refine⟨fun ha=>bc ha,?_⟩<;>intro ha<;>first|exact⟨vX 0 0 i rfl rfl rfl hl rfl (jT aW rfl rfl rfl),fun h=>nomatch h⟩|exact bc ha
   refine' bQ (ev aW Z) ?p_21 Z Z Z (by kernel_rfl) Z ?h_21
   case' h_21=>skip
   case p_21=>refine⟨fun ha=>bc ha,?_⟩<;>intro ha<;>first|exact⟨ev aW rfl,fun h=>nomatch h⟩|exact bc ha
   refine' bQ (ev aW Z) ?p_22 Z Z Z (by kernel_rfl) Z ?h_22
   case' h_22=>skip
   case p_22=>refine⟨fun ha=>bc ha,?_⟩<;>intro ha<;>first|exact⟨ev aW rfl,fun h=>nomatch h⟩|exact bc ha
   refine' bQ (ev aW Z) ?p_23 Z Z Z (by kernel_rfl) Z ?h_23
   case' h_23=>skip
   case p_23=>refine⟨fun ha=>bc ha,?_⟩<;>intro ha<;>first|exact⟨ev aW rfl,fun h=>nomatch h⟩|exact bc ha
   refine' bQ (gB (l:=[.v vi]) aW Z Z Z Z Z Z (ε _) hvi Z) ?p_24 Z Z Z (by kernel_rfl) Z ?h_24
   case' h_24=>skip
   case p_24=>refine⟨fun ha=>bc ha,?_⟩<;>intro ha<;>first|exact⟨gB (l:=[.v vi]) aW rfl rfl rfl rfl rfl rfl (ε _) hvi rfl,fun h=>nomatch h⟩|exact bc ha
   refine' bQ (vX 0 0 i Z Z Z hl Z (jT aW Z Z Z)) ?p_25 Z Z Z (by kernel_rfl) Z ?h_25
   case' h_25=>skip
   case p_25=>refine⟨fun ha=>bc ha,?_⟩<;>intro ha<;>first|exact⟨vX 0 0 i rfl rfl rfl hl rfl (jT aW rfl rfl rfl),fun h=>nomatch h⟩|exact bc ha
   refine' bQ (ev aW Z) ?p_26 Z Z Z (by kernel_rfl) Z ?h_26
   case' h_26=>skip
   case p_26=>refine⟨fun ha=>bc ha,?_⟩<;>intro ha<;>first|exact⟨ev aW rfl,fun h=>nomatch h⟩|exact bc ha
   refine' bQ (ev aW Z) ?p_27 Z Z Z (by kernel_rfl) Z ?h_27
   case' h_27=>skip
   case p_27=>refine⟨fun ha=>bc ha,?_⟩<;>intro ha<;>first|exact⟨ev aW rfl,fun h=>nomatch h⟩|exact bc ha
   refine' bQ (b5 (ev aW Z) (y:=1000) (by rfl)) ?p_28 Z Z Z (by kernel_rfl) Z ?h_28
   case' h_28=>skip
   case p_28=>refine⟨fun ha=>bc ha,?_⟩<;>intro ha<;>first|exact⟨b5 (ev aW rfl) (y:=1000) (by rfl),fun h=>nomatch h⟩|exact bc ha
   refine' bQ (b5 (ev aW Z) (y:=(ei.length:Int)) (by show(if(1000:Int)<(((ei.map Ev.c).length:Nat):Int)then(1000:Int)else(((ei.map Ev.c).length:Nat):Int))=_;rw[η]at hei2⊢;split<;>omega)) ?p_29 Z Z Z (by kernel_rfl) Z ?h_29
   case' h_29=>skip
   case p_29=>refine⟨fun ha=>bc ha,?_⟩<;>intro ha<;>first|exact⟨b5 (ev aW rfl) (y:=(ei.length:Int)) (by show(if(1000:Int)<(((ei.map Ev.c).length:Nat):Int)then(1000:Int)else(((ei.map Ev.c).length:Nat):Int))=_;rw[η]at hei2⊢;split<;>omega),fun h=>nomatch h⟩|exact bc ha
   refine' bQ (qD (fn:=Ev.c) (l:=ei) (i:=0) (j:=(ei.length:Int)) (r:=ei) aW Z Z Z Z Z (fun _=>rfl) Z Z (by decide) (by omega) (by omega) (by rw[show((ei.length:Int)).toNat=ei.length from rfl,List.take_length];rfl)) ?p_30 Z Z Z (by kernel_rfl) Z ?h_30
   case' h_30=>skip
   case p_30=>refine⟨fun ha=>bc ha,?_⟩<;>intro ha<;>first|exact⟨qD (fn:=Ev.c) (l:=ei) (i:=0) (j:=(ei.length:Int)) (r:=ei) aW rfl rfl rfl rfl rfl (fun _=>rfl) rfl rfl (by decide) (by omega) (by omega) (by rw[show((ei.length:Int)).toNat=ei.length from rfl,List.take_length];rfl),fun h=>nomatch h⟩|exact bc ha
   refine' bQ (build aW Z Z Z Z) ?p_31 Z Z Z (by kernel_rfl) Z ?h_31
   case' h_31=>skip
   case p_31=>refine⟨fun ha=>bc ha,?_⟩<;>intro ha<;>first|exact⟨build aW rfl rfl rfl rfl,fun h=>nomatch h⟩|exact bc ha
   refine' bQ (bR aW Z Z Z Z Z Z Z Z Z) ?p_32 Z Z Z (by kernel_rfl) Z ?h_32
   case' h_32=>skip
   case p_32=>refine⟨fun ha=>bc ha,?_⟩<;>intro ha<;>first|exact⟨bR aW rfl rfl rfl rfl rfl rfl rfl rfl rfl,fun h=>nomatch h⟩|exact bc ha
   refine ax ?_ Z
   refine dF (fn:=bP.c) (l:=ps) (a:=⟨t.id,0,0,ei⟩) aW Z Z Z Z Z Z Z Z Z Z (fun _=>rfl) (by show(ps.length+1)*48<=_;omega)<|pE Z<|ab<|bW<|qs<|aa<|pE Z<|pu (b5 (ev aW Z) (y:=1000) (by rfl)) Z<|pE Z<|ab<|W.bZ [0,1,2,5,4] ⟨1,?_⟩ ?_ Z ?_ trivial ?_ trivial Z
   ·exact⟨ω _,fun _=>hene⟩
   ·dsimp only;omega
   ·repeat' constructor
   repeat' constructor
  have h174:=υ h174
  rw[η]at h174
  have hfin2:(if q=0 then ps else ps++qB t.id ei)=ps++qB t.id ei:=by
   by_cases q1:q=0
   ·
    rw[if_pos q1]at h174⊢
    have:ei=[]:=O' (by omega)
    unfold qB;rw[if_pos this,List.append_nil]
   rw[if_neg q1]
  rw[hfin2,hps2,htt2]
  refine an<|bL<|bM<|bK<|bW<|qs<|aa<|pE Z<|pu (b5 (ev aW Z) (y:=((i+1:Nat):Int)) (wrap64 (by omega))) Z<|pE Z<|ab<|W.bZ [0,1,2,3,4] ⟨(i+1,(ts.take (i+1)).map jZ++ts.drop (i+1),km (ts.take (i+1),(fv l).take (i+1))),?_⟩ ?_ Z ?_ trivial ?_ trivial Z
  ·exact⟨hlt,rfl,rfl⟩
  ·dsimp only;omega
  ·repeat' constructor
  repeat' constructor
 have hie:i=ts.length:=by have:=υ h148;rw[η,htl]at this;omega
 have htt3:tt=ts.map jZ:=by rw[htt,hie];simp
 have hps3:ps=km (ts,fv l):=by rw[hps,hie,List.take_length,List.take_of_length_le (by rw[η];omega)]
 refine an (bL (bM (bK (qs (ae (BN 7 Z Z Z Z ?_))))))
 rw[htt3,hps3]
 refine aa<|pE Z<|pu (build aW Z Z Z Z) Z<|pu (bR aW Z Z Z Z Z Z Z Z Z) Z<|pu (Pu.oD (build aW Z Z Z Z) Z) Z<|pE Z<|pu (bm Z Z Z (hof _ _ hOS hOL) Z) Z<|aY 2 Z<|be aW Z Z Z Z Z Z Z Z<|pE Z<|ab<|qs<|W.ret<|QV.bo aW trivial Z ?_
 rw[hF3];rfl
def mX(l:List Ev)(k:Nat):Option Int:=if k=0 then none else(l[k-1]?).map Ev.time
theorem sub_one(h:0<k)(hm:(k:Int)<=9223372036854775807):IntKind.i64.wrap ((k:Int)-1)=((k-1:Nat):Int):=by rw[wrap64 (by omega)];omega
theorem AX(l:List Ev):bp Tryz.prog 156 [.d (.sl (l.map Ev.c))] (.d (.v (.int .i64 (iv l none)))) 0:=by
 refine bp.b6 (n:=32) (ts:=[2]) Tryz.func156 (by kernel_rfl) Z Tryz.ntmps156 Tryz.results156 Z Z fun C hC hG=>aZ 1 Z<|ae<|aZ 3 Z<|W.block<|W.len (t:=0) Z Z<|fun hlen=>?_;try simp only[η,Ex.bE]at hlen
 refine W.bY (ι:={x:Nat//match x with|k=>k<=l.length∧iv (l.drop k) (mX l k)=iv l none})
  (fun x=>match x.1 with|k=>[(8,.d (.v (.int .i64 ((k:Nat):Int))))]) [(0,_),(6,_),(7,_)]
  (fun x=>match x.1 with|k=>[]) [] [] 0 (fun x=>match x.1 with|k=>l.length-k)
  [] ⟨0,?_⟩ Z ?_ ⟨rfl,rfl,rfl,rfl,rfl,rfl,trivial⟩ ?_ trivial Z ?_
 ·exact⟨ς _,rfl⟩
 ·repeat' constructor
 ·repeat' exact trivial
 rintro⟨k,hk,I⟩;show W _ _ _ _ _ ⟨[(8,.d (.v (.int .i64 ((k:Nat):Int)))),(0,_),(6,_),(7,_)],[],[],0⟩;refine aZ 1 Z<|ae<|ct (l:=l) (k:=k) Z (by simp[Ex.bE,bh]) hk (fun e hx hd ad=>?_)<|fun he hd=>?_;·
  rw[hd]at I;simp only[iv]at I;obtain⟨p,hp⟩:∃p:Ev,0<k->l[k-1]?=some p:=⟨l[k-1]'(by omega),fun _=>by simp⟩;have O:vO (mX l k) e.time=(decide (0<k)&&decide (e.time<p.time)):=by
   unfold mX vO;by_cases q:k=0;·simp[q]
   rw[if_neg q,hp (by omega)];simp;omega
  rw[O]at I;have U:mX l (k+1)=some e.time:=by unfold mX;rw[if_neg (by omega),Nat.add_sub_cancel,hx];rfl
  refine ah<|qs<|ae<|W.block<|ae<|aa<|pE Z<|pu (indexAddr aW Z Z Z Z Z Z (ε _) (bF hx) Z) Z<|aY 1 Z<|bT aW Z Z Z<|pE Z<|be aW Z Z Z Z Z Z Z Z<|ab<|qs<|ae<|ae<|aa<|aY 1 Z ?_
  refine pu (bm Z Z Z (xw e) Z) Z<|pE Z<|ab<|qs<|aZ 2 Z<|ba Z (fun J=>?_)<|fun J=>?_;·
   have X:dJ e≠0:=by simpa using J
   rw[if_pos X]at I;refine aZ 2 Z<|W.ret<|bl<|bw<|bl<|cN<|bw<|bl<|QF.bo trivial Z ?_;simp only[norm,bO,←I]
  have X:dJ e=0:=by simpa using J
  rw[if_neg (by simp[X])]at I;refine ah (qs (ae ?_));apply oM aW;(case hb=>rfl);(case hB=>kernel_rfl);·
   iterate 3 refine bt (ev aW Z) Z ?_
   apply oG;(case hj=>rfl);(case hl=>rfl);·
    intro g20;refine dB Z Z (ev aW Z) Z<|dB Z Z (ev aW Z) Z<|dB Z Z (ev aW Z) Z<|dB Z Z (ev aW Z) Z<|dB Z Z (b5 (ev aW Z) (y:=((k-1:Nat):Int)) (sub_one (by simpa using g20) (by simp only[maxLen]at hlen;omega))) Z<|dB Z Z (indexAddr (l:=p.c) aW Z Z Z Z Z Z (ε _) (bF (hp (by simpa using g20))) Z) Z<|dB Z Z (ev aW Z) Z<|dB Z Z (ev aW Z) Z<|dB Z Z (ev aW Z) Z<|bt (ev aW Z) Z<|ao<|b4 Z Z Z
   intro g20;iterate 9 refine sL Z Z Z Z ?_
   refine bt (ev aW Z) Z<|ao<|b4 Z Z Z
  refine qs (ba Z (fun M=>?_) (fun M=>?_));·
   have N:(decide (0<k)&&decide (e.time<p.time))=true:=by simp at M⊢;omega
   rw[if_pos N]at I;refine aZ 1 Z<|W.ret<|bw<|bl<|cN<|bw<|bl<|QF.bo trivial Z ?_;simp only[norm,bO,←I]
  have N:(decide (0<k)&&decide (e.time<p.time))=false:=by simp at M⊢;omega
  rw[if_neg (by rw[N];decide)]at I;refine ah<|bW<|qs<|cJ 2 Z<|W.bZ [] ⟨k+1,?_⟩ ?_ Z ?_ ⟨rfl,rfl,rfl,rfl,rfl,rfl,trivial⟩ ?_ trivial Z;·exact⟨ad,by rw[U];exact I⟩
  ·dsimp only;omega
  ·repeat' first|exact trivial|refine⟨bH (by assumption) (by assumption),?_⟩
  repeat' exact trivial
 rw[hd]at I;simp only[iv]at I;refine an<|bL<|bM<|bK<|qs<|aZ 1 Z<|W.ret<|QF.bo trivial Z ?_;simp only[norm,bO,←I]
theorem xL(fid caps)(I:Still caps)(p)(hp:∀x:Int×Int,bp Tryz.prog fid (.ag (dv x)::caps) (.d (.v (.bool (p x)))) 0)(l:List (Int×Int)):
 bp Tryz.prog 155 [.d (.sl (l.map dv)),.clo fid caps] (.d (.v (.int .i64 (idx (l.findIdx? p))))) 0:=by
 refine bp.b6 (n:=19) (ts:=[4]) Tryz.func155 (by kernel_rfl) Z Tryz.ntmps155 Tryz.results155 Z Z fun C hC X=>aZ 1 Z<|ae<|aZ 3 Z<|W.block<|W.len (t:=0) Z Z<|fun hlen=>?_;try simp only[η,Ex.bE]at hlen
 refine W.bY (ι:={x:Nat//match x with|k=>k<=l.length∧cX p l k})
  (fun x=>match x.1 with|k=>[(8,.d (.v (.int .i64 ((k:Nat):Int))))]) [(0,_),(1,_),(7,_)]
  (fun x=>match x.1 with|k=>[]) [] [] 0 (fun x=>match x.1 with|k=>l.length-k)
  [] ⟨0,?_⟩ Z ?_ ⟨rfl,(by first|rfl|exact I.2),rfl,(by first|rfl|exact I.2),rfl,(by first|rfl|exact I.2),trivial⟩ ?_ trivial Z ?_
 ·exact⟨ς _,cX.zero⟩
 ·repeat' constructor
 ·repeat' exact trivial
 rintro⟨k,U,M⟩;show W _ _ _ _ _ ⟨[(8,.d (.v (.int .i64 ((k:Nat):Int)))),(0,_),(1,_),(7,_)],[],[],0⟩;refine aZ 1 Z<|ae<|ct (l:=l) (k:=k) Z (by simp[Ex.bE,bh]) U (fun x N hd O=>?_)<|fun he hd=>?_;·
  refine ah<|qs<|ae<|W.block<|aZ 2 Z<|ae<|aa<|aY 3 Z<|pu (indexAddr aW Z Z Z Z Z Z (ε _) (bF N) Z) Z<|aY 1 Z<|pu (bm Z Z (by rw[I',I.1 _ 3];rfl) (hp x) Z) Z<|ab<|qs<|ba Z (fun J=>?_)<|fun J=>?_;·
   refine aZ 2 Z<|W.ret<|bw<|bl<|cN<|bw<|bl<|QF.bo trivial Z ?_;simp only[norm,bO];rw[M.found N J];rfl
  refine ah<|bW<|qs<|cJ 2 Z<|W.bZ [] ⟨k+1,?_⟩ ?_ Z ?_ ⟨rfl,(by first|rfl|exact I.2),rfl,(by first|rfl|exact I.2),rfl,(by first|rfl|exact I.2),trivial⟩ ?_ trivial Z;·exact⟨O,M.step N J⟩
  ·dsimp only;omega
  ·repeat' first|exact trivial|refine⟨bH (by assumption) (by assumption),?_⟩
  repeat' exact trivial
 refine an<|bL<|bM<|bK<|qs<|aZ 1 Z<|W.ret<|QF.bo trivial Z ?_;simp only[norm,bO];rw[M.end_ he];rfl
theorem Cl(fid caps)(I:Still caps)(p)(hp:∀x:Int×Int,bp Tryz.prog fid (.ag (dv x)::caps) (.d (.v (.bool (p x)))) 0)(l:List (Int×Int)):
 bp Tryz.prog 109 [.d (.sl (l.map dv)),.clo fid caps] (.d (.v (.bool (l.any p)))) 0:=by
 refine bp.b6 (n:=9) (ts:=[4]) Tryz.func109 (by kernel_rfl) Z Tryz.ntmps109 Tryz.results109 Z Z fun C hC J=>aZ 1 Z<|ae<|aa<|aY 2 Z<|pu (bm (args:=[.d (.sl (l.map dv)),.clo fid caps]) Z Z (by simp[conv,I.1 _ 2]) (xL fid caps I p hp l) Z) Z<|aY 2 Z<|ab<|qs<|W.ret<|QF.bo trivial Z ?_;simp only[norm,bO];rw[<-mf]
theorem GJ(id)(d:Int×Int):bp Tryz.prog 188 [.ag (dv d),.row [.d (.v (.int .i64 id))]] (.d (.v (.bool (decide (d.1=id))))) 0:=by refine bp.b6 (n:=8) (ts:=[3]) Tryz.func188 (by kernel_rfl) Z Tryz.ntmps188 Tryz.results188 Z Z fun C hC I=>?_;refine ae (aa (cG Z Z Z (pE Z (ab (qs (aZ 5 Z ?_))))));refine W.ret (QF.bo trivial Z ?_);rfl
theorem Et(l:List (Int×Int))(id):bp Tryz.prog 174 [.d (.sl (l.map dv)),.d (.v (.int .i64 id))] (.d (.v (.int .i64 (idx (l.findIdx? fun d=>decide (d.1=id)))))) 0:=by refine bp.b6 (n:=8) (ts:=[4]) Tryz.func174 (by kernel_rfl) Z Tryz.ntmps174 Tryz.results174 Z Z fun C hC I=>?_;refine ae (aa (cG Z Z Z (pE Z (ab (qs (ae (aa (aY 2 Z ?_))))))));refine pu (bm Z Z Z (xL _ _ ⟨fun _ _=>rfl,rfl⟩ _ (GJ id) l) Z) Z ?_;refine pE Z (ab (qs (W.ret (QF.bo trivial Z ?_))));rfl
theorem Gi(t:ca)(d:Int×Int):bp Tryz.prog 110 [.ag (dv d),.row (t.c.map A.d)] (.d (.v (.bool (decide (d.1=0))))) 0:=by refine bp.b6 (n:=9) (ts:=[3]) Tryz.func110 (by kernel_rfl) Z Tryz.ntmps110 Tryz.results110 Z Z fun C hC I=>?_;refine ae (aa (cG Z Z Z (pE Z (ab (qs (aZ 6 Z ?_))))));refine W.ret (QF.bo trivial Z ?_);rfl
theorem Jr{d}(h:dV[k]?=some d):k=0∧d=(0,0):=by
 match k with
 |0=>simp[dV]at h;exact⟨rfl,h.symm⟩
 |k+1=>simp[dV]at h
theorem Cr:bp Tryz.prog 153 [.d (.sl (dV.map dv))] (.d (.v (.int .i64 0))) 0:=by
 refine bp.b6 (n:=38) (ts:=[2]) Tryz.func153 (by kernel_rfl) Z Tryz.ntmps153 Tryz.results153 Z Z fun C hC hG=>aZ 1 Z<|ae<|aZ 3 Z<|W.block<|W.bY (ι:={x:Nat//match x with|k=>k<=dV.length})
  (fun x=>match x.1 with|k=>[(7,.d (.v (.int .i64 ((k:Nat):Int))))]) [(0,_),(5,_),(6,_)]
  (fun x=>match x.1 with|k=>[]) [] [] 0 (fun x=>match x.1 with|k=>dV.length-k)
  [] ⟨0,?_⟩ Z ?_ ⟨rfl,rfl,rfl,rfl,rfl,rfl,trivial⟩ ?_ trivial Z ?_
 ·exact ς _
 ·repeat' constructor
 ·repeat' exact trivial
 rintro⟨k,O⟩;show W _ _ _ _ _ ⟨[(7,.d (.v (.int .i64 ((k:Nat):Int)))),(0,_),(5,_),(6,_)],[],[],0⟩;refine aZ 1 Z<|ae<|ct (l:=dV) (k:=k) Z (by simp[Ex.bE,bh]) O (fun d U hd X=>?_)<|fun he hd=>?_;·
  obtain⟨M,N⟩:=Jr U;subst M;subst N;refine ah<|qs<|ae<|W.block<|ae<|aa<|pE Z<|pu (indexAddr (l:=dv (0,0)) aW Z Z Z Z Z Z (by decide) Z Z) Z<|aY 1 Z<|bT aW Z Z Z<|pE Z<|be aW Z Z Z Z Z Z Z Z<|ab<|qs<|ae<|ae<|?_
  apply bC;(case hb=>rfl);·repeat' first|refine b4 Z Z Z|refine bz Z Z ?_|refine pE Z ?_|refine ab ?_
  refine qs (ba Z (fun I=>?_) (fun I=>?_));·exfalso;simp at I
  refine ah<|qs<|ae<|W.dK aW (by kernel_rfl)<|bt (ev aW Z) Z<|bt (ev aW Z) Z<|bt (qD (fn:=dv) (l:=dV) (i:=0) (j:=0) (r:=[]) aW Z Z Z Z Z (fun _=>rfl) Z Z (by decide) (by decide) (by decide) Z) Z ?_
  refine bt (ev aW Z) Z<|bt (ev aW Z) Z<|bt (bm Z Z Z (Et [] 0) Z) Z<|bt (ev aW Z) Z<|ao<|qs<|ba Z (fun J=>?_)<|fun J=>?_;·exfalso;simp[idx]at J
  refine ah<|bW<|qs<|cJ 2 Z<|W.bZ [] ⟨1,?_⟩ ?_ Z ?_ ⟨rfl,rfl,rfl,rfl,rfl,rfl,trivial⟩ ?_ trivial Z;·decide
  ·dsimp only;omega
  ·repeat' constructor
  repeat' exact trivial
 refine an<|bL<|bM<|bK<|qs<|aZ 1 Z<|W.ret<|QF.bo trivial Z ?_;rfl
theorem GG:bp Tryz.prog 108 [.d (.sl (dV.map dv)),.d (.sl [])] (.d (.v (.int .i64 0))) 0:=by
 refine bp.b6 (n:=43) (ts:=[4]) Tryz.func108 (by kernel_rfl) Z Tryz.ntmps108 Tryz.results108 Z Z fun C hC hG=>aZ 1 Z<|ae<|aZ 3 Z<|ba Z (fun I=>?_)<|fun I=>?_;·exfalso;simp[dV]at I
 refine ah<|qs<|ae<|ae<|?_
 apply bC;(case hb=>rfl);·repeat' first|refine b4 Z Z Z|refine bz Z Z ?_|refine pE Z ?_|refine ab ?_
 refine qs (ba Z (fun J=>?_) (fun J=>?_));·exfalso;simp[dV]at J
 refine ah<|qs<|ae<|ae<|aa<|pE Z<|pu (indexAddr (l:=dv (0,0)) aW Z Z Z Z Z Z (by decide) Z Z) Z ?_
 refine aY 1 Z<|pu (build aW Z Z Z Z) Z<|pE Z<|ab<|qs<|ba Z (fun M=>?_)<|fun M=>?_;·exfalso;simp at M<;>omega
 refine ah<|qs<|ae<|ae<|aa<|pE Z<|pu (bm Z Z Z Cr Z) Z ?_
 refine pE Z<|ab<|qs<|aZ 2 Z<|ba Z (fun N=>?_)<|fun N=>?_;·exfalso;simp at N
 refine ah<|qs<|ae<|aZ 3 Z<|W.block<|W.bY (ι:={x:Nat//match x with|k=>k<=([]:List (List D)).length})
  (fun x=>match x.1 with|k=>[(32,.d (.v (.int .i64 ((k:Nat):Int))))]) [(0,_),(30,_),(31,_)]
  (fun x=>match x.1 with|k=>[]) [] [] 0 (fun x=>match x.1 with|k=>([]:List (List D)).length-k)
  [] ⟨0,?_⟩ Z ?_ ⟨rfl,rfl,rfl,rfl,rfl,rfl,trivial⟩ ?_ trivial Z ?_
 ·exact ς _
 ·repeat' constructor
 ·repeat' exact trivial
 rintro⟨k,O⟩;show W _ _ _ _ _ ⟨[(32,.d (.v (.int .i64 ((k:Nat):Int)))),(0,_),(30,_),(31,_)],[],[],0⟩;refine aZ 1 Z<|ae<|ct (l:=([]:List (List D))) (k:=k) Z (by simp[Ex.bE,bh]) O (fun d U hd X=>?_)<|fun he hd=>?_;·exfalso;simp at U
 refine an<|bL<|bM<|bK<|qs<|aZ 1 Z<|W.ret<|QF.bo trivial Z ?_;rfl
theorem Jj(t:ca):bp Tryz.prog 109 [.d (.sl (dV.map dv)),.clo 110 [.row (t.c.map A.d)]] (.d (.v (.bool true))) 0:=
 Cl _ _ ⟨fun _ _=>rfl,rfl⟩ _ (Gi t) dV
theorem Ek(p:bP)(h1:0<=p.thread∧p.thread<=1000000000000000)(h2:p.serial=0)(h3:p.lost=0)(h4:0<p.evs.length∧p.evs.length<=1000):bp Tryz.prog 111 [.ag p.c] (.d (.v (.int .i64 (iv p.evs none)))) 0:=by
 obtain⟨th,se,lo,evs⟩:=p
 simp only at h1 h2 h3 h4
 subst h2;subst h3
 have hlen:[th,0,0].length<=maxLen:=by simp[maxLen]
 refine bp.b6 (n:=50) (ts:=[2]) Tryz.func111 (by kernel_rfl) Z Tryz.ntmps111 Tryz.results111 Z Z fun C hC hG=>ae<|aa<|cG Z Z Z<|pE Z<|ab<|qs<|ae<|ae<|aa<|aY 6 Z<|pu (bR aW Z Z Z Z Z Z Z Z Z) Z<|aY 2 Z<|ab<|qs<|W.block<|W.bY (ι:={x:Nat//match x with|k=>k<=[th,0,0].length})
  (fun x=>match x.1 with|k=>[(1,.ptr 0 0),(13,.d (.v (.int .i64 ((k:Nat):Int))))]) [(11,_),(12,_)]
  (fun x=>match x.1 with|k=>[(0,(bP.c ⟨th,0,0,evs⟩).map A.d)]) [] [] 1 (fun x=>match x.1 with|k=>[th,0,0].length-k)
  [0] ⟨0,?_⟩ rfl ?_ ⟨rfl,rfl,rfl,rfl,trivial⟩ ?_ trivial rfl ?_
 ·exact ς _
 ·repeat' constructor
 ·repeat' constructor
 rintro⟨k,hk⟩
 show W _ _ _ _ _ ⟨[(1,.ptr 0 0),(13,.d (.v (.int .i64 ((k:Nat):Int)))),(11,_),(12,_)],[(0,(bP.c ⟨th,0,0,evs⟩).map A.d)],[],1⟩
 refine aZ 1 Z<|ae<|ct (l:=[th,0,0]) (k:=k) Z (by simp[Ex.bE,bh]) hk (fun y hx hd hlt=>?_)<|fun he hd=>?_
 ·
  have hy:0<=y∧y<=1000000000000000:=by have:=ζ hx;simp at this;rcases this with Z|rfl<;>omega
  refine ah<|qs<|ae<|W.block<|ae<|aa<|pu (indexAddr aW Z Z Z Z Z Z (ε _) (bF (f:=ic) hx) Z) Z<|aY 2 Z<|ab<|qs<|ae ?_
  apply bC;(case hb=>rfl)
  ·repeat' first|refine b4 rfl rfl rfl|refine bz rfl rfl ?_|refine bA rfl rfl rfl rfl ?_|refine pE rfl ?_|refine ab ?_|(apply bN;(case hj=>rfl);(case hl=>rfl))
  refine qs (ba Z (fun h22=>?_) (fun h22=>?_))
  ·
   exfalso;simp at h22;omega
  refine ah<|bW<|qs<|cJ 2 Z<|W.bZ [0] ⟨k+1,?_⟩ ?_ Z ?_ ⟨rfl,rfl,rfl,rfl,trivial⟩ ?_ trivial Z
  ·exact hlt
  ·dsimp only;omega
  ·repeat' first|exact trivial|refine⟨rfl,?_⟩|refine⟨bH (by assumption) (by assumption),?_⟩
  repeat' constructor
 refine an<|bL<|bM<|bK<|qs<|ae<|W.block<|ae<|aZ 6 Z<|ba Z (fun h24=>?_)<|fun h24=>?_
 ·
  exfalso;simp at h24<;>omega
 refine aa<|aY 5 Z<|pu (b5 (ev aW Z) (y:=(evs.length:Int)) (by show IntKind.i64.wrap ((0:Int)+((evs.map Ev.c).length:Nat))=_;rw[η,wrap64 (by omega)];omega)) Z<|aY 2 Z<|ab<|qs<|ba Z (fun h24=>?_)<|fun h24=>?_
 ·
  exfalso;simp at h24<;>omega
 refine aZ 5 Z<|ba Z (fun h37=>?_)<|fun h37=>?_
 ·
  exfalso;simp at h37;simp[h37]at h4
 refine aZ 5 Z<|ba Z (fun h42=>?_)<|fun h42=>?_
 ·
  exfalso;simp at h42;omega
 refine ah<|bW<|qs<|ae<|aa<|aY 2 Z<|pu (bm Z Z Z (AX ..) Z) Z<|pE Z<|ab<|qs<|W.ret<|QF.bo trivial Z ?_
 rfl
theorem B7{p:bP}{e:Ev}{r}(hp:p.evs=e::r)(h:iv p.evs none=0):0<=e.time:=by
 rw[hp]at h;simp only[iv]at h;by_cases hc:dJ e=0;·
  unfold dJ at hc;split at hc;·cases hc
  omega
 rw[if_pos hc]at h;exact absurd h hc
theorem Cy(th)(e:Ev)(r)(h0:0<=e.time):bU Tryz.prog 112 [.ptr 0 0,.ag (bP.c ⟨th,0,0,e::r⟩)] [z2.map A.d] 0 (.d (.v (.bool true))) [z2.map A.d] 0:=by
 refine bU.dk aW (n:=27) (rs:=[.tmp 4]) Tryz.func112 (by kernel_rfl) Z Tryz.ntmps112 Tryz.results112 Z Z fun C hC I=>ae<|aa<|cG Z Z Z<|pE Z<|ab<|qs<|ae ?_;apply oM aW;(case hb=>rfl);(case hB=>kernel_rfl);·
  refine bt (ev aW Z) Z<|bt (ev aW Z) Z<|bt (ev aW Z) Z<|bt (ev aW Z) Z<|bt (ev aW Z) Z<|bt (ev aW Z) Z<|bt (ev aW Z) Z<|bt (ev aW Z) Z<|bt (ev aW Z) Z ?_
  iterate 2 refine bt (ev aW Z) Z ?_
  apply Gm;(case hj=>rfl);(case hl=>rfl);·
   refine dB Z Z (ev aW Z) Z<|dB Z Z (ev aW Z) Z<|dB Z Z (indexAddr (l:=e.c) aW Z Z Z Z Z Z (by decide) Z Z) Z<|dB Z Z (ev aW Z) Z<|dB Z Z (ev aW Z) Z<|dB Z Z (ev aW Z) Z<|dB Z Z (ev aW Z) Z<|dB Z Z (ev aW Z) Z<|dB Z Z (ev aW Z) Z<|dB Z Z (ev aW Z) Z<|bt (ev aW Z) Z<|bt (ev aW Z) Z<|ao ?_
   refine b4 Z Z Z
  iterate 10 refine sL Z Z Z Z ?_
  refine bt (ev aW Z) Z<|bt (ev aW Z) Z<|ao ?_
  refine b4 Z Z Z
 refine qs (W.ret (ak aW [] trivial Z Z Z Z ?_ ?_));·exact⟨rfl,trivial⟩
 simp only[norm,bO];simp[h0];rfl
theorem Cm(th)(e:Ev)(r:List Ev)(z:Ev)(I:(e::r)[r.length]?=some z)(hl:r.length<=1000):bU Tryz.prog 113 [.ptr 0 0,.ag (bP.c ⟨th,0,0,e::r⟩)] [z2.map A.d] 0 (.tup []) [[.d (ci ((r.length:Int)+1)),.d (ci z.time)]] 0:=by
 refine bU.dk aW (n:=25) (rs:=[]) Tryz.func113 (by kernel_rfl) Z Tryz.ntmps113 Tryz.results113 Z Z fun C hC J=>ae<|aa<|cG Z Z Z<|ab<|qs<|ae<|aa<|aY 6 Z<|pu (b5 (ev aW Z) (y:=(r.length:Int)+1) (by show IntKind.i64.wrap ((0:Int)+(((e::r).map Ev.c).length:Nat))=_;rw[η,Ξ,wrap64 (by omega)];omega)) Z<|aY 2 Z<|be aW Z Z Z Z Z Z Z Z<|ab<|qs<|aa<|aY 6 Z<|pu (b5 (ev aW Z) (y:=(r.length:Int)) (by show IntKind.i64.wrap ((((e::r).map Ev.c).length:Nat)-(1:Int))=_;rw[η,Ξ,wrap64 (by omega)];omega)) Z<|pu (indexAddr (l:=z.c) aW Z Z Z Z Z Z (ε _) (bF I) Z) Z<|aY 4 Z ?_;refine be aW Z Z Z Z Z Z Z Z (ab (ak aW [] trivial Z Z Z Z ?_ ?_));·exact⟨rfl,trivial⟩
 rfl
theorem Ax(l:List bP)(k):((l.take k).map fun p=>p.evs.length).sum<=(l.map fun p=>p.evs.length).sum:=by have h:=congrArg (fun x=>(x.map fun p:bP=>p.evs.length).sum) (List.take_append_drop k l);simp only[I',List.sum_append]at h;omega
theorem yO(l:List Ev):bp Tryz.prog 135 [.d (.sl (l.map Ev.c))] (.d (.v (.int .i64 (iv l none)))) 0:=by
 refine bp.b6 (n:=35) (ts:=[2]) Tryz.func135 (by kernel_rfl) Z Tryz.ntmps135 Tryz.results135 Z Z fun C hC hG=>aZ 1 Z<|ae<|aZ 1 Z<|W.block<|W.len (t:=0) Z Z<|fun hlen=>?_;try simp only[η,Ex.bE]at hlen
 refine W.bY (ι:={x:Nat//match x with|k=>k<=l.length∧iv (l.drop k) (mX l k)=iv l none})
  (fun x=>match x.1 with|k=>[(3,.d (.v (.int .i64 ((k:Nat):Int))))]) [(0,_)]
  (fun x=>match x.1 with|k=>[]) [] [] 0 (fun x=>match x.1 with|k=>l.length-k)
  [] ⟨0,?_⟩ Z ?_ ⟨rfl,rfl,trivial⟩ ?_ trivial Z ?_
 ·exact⟨ς _,rfl⟩
 ·repeat' constructor
 ·repeat' exact trivial
 rintro⟨k,hk,I⟩;show W _ _ _ _ _ ⟨[(3,.d (.v (.int .i64 ((k:Nat):Int)))),(0,_)],[],[],0⟩;refine ae<|aZ 4 Z<|ct (l:=l) (k:=k) Z (by simp[Ex.bE,bh]) hk (fun e X hd ad=>?_)<|fun he hd=>?_;·
  rw[hd]at I;simp only[iv]at I;obtain⟨p,hp⟩:∃p:Ev,0<k->l[k-1]?=some p:=⟨l[k-1]'(by omega),fun _=>by simp⟩;have O:vO (mX l k) e.time=(decide (0<k)&&decide (e.time<p.time)):=by
   unfold mX vO;by_cases q:k=0;·simp[q]
   rw[if_neg q,hp (by omega)];simp;omega
  rw[O]at I;have U:mX l (k+1)=some e.time:=by unfold mX;rw[if_neg (by omega),Nat.add_sub_cancel,X];rfl
  refine ah<|qs<|ae<|W.block<|ae<|aa<|aY 2 Z<|pu (indexAddr aW Z Z Z Z Z Z (ε _) (bF X) Z) Z<|aY 1 Z<|pu (bm Z Z Z (xN e) Z) Z<|pE Z<|ab<|qs<|ae<|aZ 2 Z<|ba Z (fun J=>?_)<|fun J=>?_;·
   have hc:dJ e≠0:=by simpa using J
   rw[if_pos hc]at I;refine aZ 2 Z<|W.ret<|bl<|bw<|bl<|cN<|bw<|bl<|QF.bo trivial Z ?_;simp only[norm,bO,←I]
  have hc:dJ e=0:=by simpa using J
  rw[if_neg (by simp[hc])]at I;refine ah (qs (ae ?_));apply oM aW;(case hb=>rfl);(case hB=>kernel_rfl);·
   iterate 3 refine bt (ev aW Z) Z ?_
   apply oG;(case hj=>rfl);(case hl=>rfl);·
    intro g21;refine dB Z Z (ev aW Z) Z<|dB Z Z (ev aW Z) Z<|dB Z Z (indexAddr aW Z Z Z Z Z Z (ε _) (bF X) Z) Z<|dB Z Z (ev aW Z) Z<|dB Z Z (ev aW Z) Z<|dB Z Z (ev aW Z) Z<|dB Z Z (ev aW Z) Z<|dB Z Z (b5 (ev aW Z) (y:=((k-1:Nat):Int)) (sub_one (by simpa using g21) (by simp only[maxLen]at hlen;omega))) Z<|dB Z Z (indexAddr (l:=p.c) aW Z Z Z Z Z Z (ε _) (bF (hp (by simpa using g21))) Z) Z<|dB Z Z (ev aW Z) Z<|dB Z Z (ev aW Z) Z<|dB Z Z (ev aW Z) Z<|bt (ev aW Z) Z<|ao<|b4 Z Z Z
   intro g21;iterate 12 refine sL Z Z Z Z ?_
   refine bt (ev aW Z) Z<|ao<|b4 Z Z Z
  refine qs (ba Z (fun M=>?_) (fun M=>?_));·
   have N:(decide (0<k)&&decide (e.time<p.time))=true:=by simp at M⊢;omega
   rw[if_pos N]at I;refine aZ 1 Z<|W.ret<|bw<|bl<|cN<|bw<|bl<|QF.bo trivial Z ?_;simp only[norm,bO,←I]
  have N:(decide (0<k)&&decide (e.time<p.time))=false:=by simp at M⊢;omega
  rw[if_neg (by rw[N];decide)]at I;refine ah<|bW<|qs<|cJ 3 Z<|W.bZ [] ⟨k+1,?_⟩ ?_ Z ?_ ⟨rfl,rfl,trivial⟩ ?_ trivial Z;·exact⟨ad,by rw[U];exact I⟩
  ·dsimp only;omega
  ·repeat' first|exact trivial|refine⟨bH (by assumption) (by assumption),?_⟩
  repeat' exact trivial
 rw[hd]at I;simp only[iv]at I;refine an<|bL<|bM<|bK<|qs<|aZ 1 Z<|W.ret<|QF.bo trivial Z ?_;simp only[norm,bO,←I]
theorem Is(n):bp Tryz.prog 134 [.d (.v (.int .i64 n))] (.d (.v (.bool (decide (0<=n)&&decide (n<=1000000000000000))))) 0:=by
 refine bp.b6 (n:=9) (ts:=[2]) Tryz.func134 (by kernel_rfl) Z Tryz.ntmps134 Tryz.results134 Z Z fun C hC I=>aZ 1 Z<|ae ?_;apply bC;(case hb=>rfl);·repeat' first|refine b4 Z Z Z|refine bz Z Z ?_|refine bA Z Z Z Z ?_|refine pE Z ?_|refine ab ?_|(apply bN;(case hj=>rfl);(case hl=>rfl))
 refine qs (W.ret (QF.bo trivial Z ?_));simp only[norm,bO];by_cases q:0<=n<;>simp[q]
theorem CW(p:bP)(h1:0<=p.thread∧p.thread<=1000000000000000)(h2:p.serial=0)(h3:p.lost=0)(h4:0<p.evs.length∧p.evs.length<=1000):bp Tryz.prog 82 [.ag p.c] (.d (.v (.int .i64 (iv p.evs none)))) 0:=by
 obtain⟨th,N,lo,evs⟩:=p;simp only at h1 h2 h3 h4;subst h2;subst h3;refine bp.b6 (n:=48) (ts:=[2]) Tryz.func82 (by kernel_rfl) Z Tryz.ntmps82 Tryz.results82 Z Z fun C hC O=>ae<|aa<|cG Z Z Z<|pE Z<|ab<|qs<|ae<|W.block<|ae ?_;apply bC;(case hb=>rfl);·repeat' first|refine b4 Z Z Z|refine bz Z Z ?_|refine bA Z Z Z Z ?_|refine pE Z ?_|refine pu (bm Z Z Z (Is ..) Z) Z ?_|refine ab ?_|(apply bN;(case hj=>rfl);(case hl=>rfl))
 refine qs (ba Z (fun h3=>?_) (fun h3=>?_));·
  exfalso;simp[h1.1,h1.2]at h3
 refine ae<|aa<|aY 5 Z<|pu (b5 (ev aW Z) (y:=1000000000000000-(evs.length:Int)) (by show IntKind.i64.wrap (1000000000000000-((evs.map Ev.c).length:Nat))=_;rw[η];exact wrap64 (by omega))) Z<|aY 2 Z<|ab<|qs<|ba Z (fun I=>?_)<|fun I=>?_;·exfalso;simp at I;omega
 refine aZ 5 Z<|ba Z (fun J=>?_)<|fun J=>?_;·
  exfalso;have:(((evs.map Ev.c).length:Nat):Int)=0:=μ J;rw[η]at this;omega
 refine aZ 5 Z<|ba Z (fun M=>?_)<|fun M=>?_;·exfalso;simp at M;omega
 refine ah<|bW<|qs<|ae<|aa<|aY 2 Z<|pu (bm Z Z Z (yO ..) Z) Z<|pE Z<|ab<|qs<|W.ret<|QF.bo trivial Z ?_;rfl
theorem AH{d}(h:dV[k]?=some d):k=0∧d=(0,0):=by
 match k with
 |0=>simp[dV]at h;exact⟨rfl,h.symm⟩
 |k+1=>simp[dV]at h
theorem zB:bp Tryz.prog 168 [.d (.sl (dV.map dv)),.d (.v (.int .i64 0))] (.d (.v (.int .i64 0))) 0:=by
 refine bp.b6 (n:=20) (ts:=[4]) Tryz.func168 (by kernel_rfl) Z Tryz.ntmps168 Tryz.results168 Z Z fun C hC X=>aZ 1 Z<|ae<|aZ 1 Z<|W.block<|W.bY (ι:={x:Nat//match x with|k=>k=0})
  (fun x=>match x.1 with|k=>[(5,.d (.v (.int .i64 ((k:Nat):Int))))]) [(0,_),(1,_)]
  (fun x=>match x.1 with|k=>[]) [] [] 0 (fun x=>match x.1 with|k=>dV.length-k)
  [] ⟨0,?_⟩ Z ?_ ⟨rfl,rfl,rfl,rfl,trivial⟩ ?_ trivial Z ?_
 ·rfl
 ·repeat' constructor
 ·repeat' exact trivial
 rintro⟨k,M⟩;show W _ _ _ _ _ ⟨[(5,.d (.v (.int .i64 ((k:Nat):Int)))),(0,_),(1,_)],[],[],0⟩;have I:=M;have M:k<=dV.length:=by have h:k=0:=I;rw[h];exact ς _
 refine ae<|aZ 4 Z<|ct (l:=dV) (k:=k) Z (by simp[Ex.bE,bh]) M (fun d O hd U=>?_)<|fun he hd=>?_;·
  obtain⟨I,N⟩:=AH O;subst I;subst N;refine ah<|qs<|ae<|W.block<|ae<|aa<|aY 2 Z<|pu (indexAddr (l:=dv (0,0)) aW Z Z Z Z Z Z (by decide) Z Z) Z<|aY 4 Z<|ab<|qs<|ba Z (fun J=>?_)<|fun J=>?_;·
   refine aZ 2 Z<|W.ret<|bw<|bl<|cN<|bw<|bl<|QF.bo trivial Z ?_;rfl
  exfalso;exact absurd J (by decide)
 exfalso;have h:k=0:=I;rw[h]at he;exact absurd he (by decide)
theorem xA:bp Tryz.prog 132 [.d (.sl (dV.map dv)),.d (.sl [])] (.d (.v (.int .i64 0))) 0:=by
 refine bp.b6 (n:=94) (ts:=[4]) Tryz.func132 (by kernel_rfl) Z Tryz.ntmps132 Tryz.results132 Z Z fun C hC hG=>aZ 1 Z<|ae<|W.block<|aZ 4 Z<|ba Z (fun X=>?_)<|fun X=>?_;·exfalso;exact absurd X (by decide)
 refine ae ?_;apply bC;(case hb=>rfl);·repeat' first|refine b4 Z Z Z|refine bz Z Z ?_|refine pE Z ?_|refine ab ?_
 refine qs (ba Z (fun I=>?_) (fun I=>?_));·exfalso;exact absurd I (by decide)
 refine ae ?_;apply bC;(case hb=>rfl);·
  refine pE Z<|pu (indexAddr (l:=dv (0,0)) aW Z Z Z Z Z Z (by decide) Z Z) Z<|aY 4 Z ?_;apply bN;(case hj=>rfl);(case hl=>rfl);·
   refine bA Z Z Z Z<|bA Z Z Z Z<|bA Z Z Z Z<|bA Z Z Z Z<|bA Z Z Z Z<|aY 2 Z ?_
   refine ab (b4 Z Z Z)
  refine bz Z Z<|pE Z<|bz Z Z<|pu (indexAddr (l:=dv (0,0)) aW Z Z Z Z Z Z (by decide) Z Z) Z<|bz Z Z<|pE Z<|bz Z Z<|aY 1 Z<|bz Z Z<|aY 3 Z<|ab<|b4 Z Z Z
 refine qs (ba Z (fun J=>?_) (fun J=>?_));·exfalso;exact absurd J (by decide)
 refine ah<|bW<|qs<|ae<|aZ 1 Z<|W.block<|W.bY (ι:={x:Nat//match x with|k=>k<=dV.length})
  (fun x=>match x.1 with|k=>[(5,.d (.v (.int .i64 ((k:Nat):Int))))]) [(0,_),(1,_)]
  (fun x=>match x.1 with|k=>[]) [] [] 0 (fun x=>match x.1 with|k=>dV.length-k)
  [] ⟨0,?_⟩ Z ?_ ⟨rfl,rfl,rfl,rfl,trivial⟩ ?_ trivial Z ?_
 ·exact ς _
 ·repeat' constructor
 ·repeat' exact trivial
 rintro⟨k,O⟩;show W _ _ _ _ _ ⟨[(5,.d (.v (.int .i64 ((k:Nat):Int)))),(0,_),(1,_)],[],[],0⟩;refine ae<|aZ 4 Z<|ct (l:=dV) (k:=k) Z (by simp[Ex.bE,bh]) O (fun d U hd ad=>?_)<|fun he hd=>?_;·
  obtain⟨ai,aj⟩:=AH U;subst ai;subst aj;refine ah<|qs<|ae<|W.block<|ae<|ae<|?_
  apply bC;(case hb=>rfl);·
   refine aY 2 Z<|pu (indexAddr (l:=dv (0,0)) aW Z Z Z Z Z Z (by decide) Z Z) Z<|aY 4 Z ?_;apply bN;(case hj=>rfl);(case hl=>rfl);·
    iterate 6 refine bA Z Z Z Z ?_
    refine aY 2 Z ?_;iterate 6 refine bA Z Z Z Z ?_
    refine aY 2 Z ?_;iterate 6 refine bA Z Z Z Z ?_
    refine pE Z (ab (b4 Z Z Z))
   refine bz Z Z<|pE Z<|bz Z Z<|pE Z<|bz Z Z<|pu (indexAddr (l:=dv (0,0)) aW Z Z Z Z Z Z (by decide) Z Z) Z<|bz Z Z<|pE Z<|bz Z Z<|aY 1 Z<|bz Z Z<|aY 3 Z ?_;apply bN;(case hj=>rfl);(case hl=>rfl);·
    iterate 6 refine bA Z Z Z Z ?_
    refine aY 2 Z ?_;iterate 6 refine bA Z Z Z Z ?_
    refine pE Z (ab (b4 Z Z Z))
   refine bz Z Z<|pE Z<|bz Z Z<|pE Z<|bz Z Z<|pu (indexAddr (l:=dv (0,0)) aW Z Z Z Z Z Z (by decide) Z Z) Z<|bz Z Z<|pE Z<|bz Z Z<|aY 1 Z<|bz Z Z<|aY 3 Z ?_;apply bN;(case hj=>rfl);(case hl=>rfl);·
    iterate 6 refine bA Z Z Z Z ?_
    refine pE Z (ab (b4 Z Z Z))
   refine bz Z Z<|pE Z<|bz Z Z<|pE Z<|bz Z Z<|pu (indexAddr (l:=dv (0,0)) aW Z Z Z Z Z Z (by decide) Z Z) Z<|bz Z Z<|pE Z<|bz Z Z<|aY 1 Z<|bz Z Z<|aY 2 Z<|ab<|b4 Z Z Z
  refine qs (ba Z (fun M=>?_) (fun M=>?_));·exfalso;exact absurd M (by decide)
  refine ah<|qs<|ae<|aa<|aY 3 Z<|pu (indexAddr (l:=dv (0,0)) aW Z Z Z Z Z Z (by decide) Z Z) Z<|aY 2 Z<|pu (bm Z Z Z (zB ..) Z) Z<|aY 2 Z<|ab<|qs<|ba Z (fun N=>?_)<|fun N=>?_;·exfalso;exact absurd N (by decide)
  refine ah<|bW<|qs<|cJ 3 Z<|W.bZ [] ⟨1,?_⟩ ?_ Z ?_ ⟨rfl,rfl,rfl,rfl,trivial⟩ ?_ trivial Z;·decide
  ·dsimp only;omega
  ·repeat' constructor
  repeat' exact trivial
 refine an<|bL<|bM<|bK<|qs<|ae<|aZ 1 Z<|W.block<|W.bY (ι:={x:Nat//match x with|k=>k<=([]:List (List D)).length})
  (fun x=>match x.1 with|k=>[(6,.d (.v (.int .i64 ((k:Nat):Int))))]) [(0,_),(1,_)]
  (fun x=>match x.1 with|k=>[]) [] [] 0 (fun x=>match x.1 with|k=>([]:List (List D)).length-k)
  [] ⟨0,?_⟩ Z ?_ ⟨rfl,rfl,rfl,rfl,trivial⟩ ?_ trivial Z ?_
 ·exact ς _
 ·repeat' constructor
 ·repeat' exact trivial
 rintro⟨k,O⟩;show W _ _ _ _ _ ⟨[(6,.d (.v (.int .i64 ((k:Nat):Int)))),(0,_),(1,_)],[],[],0⟩;refine ae<|aZ 4 Z<|ct (l:=([]:List (List D))) (k:=k) Z (by simp[Ex.bE,bh]) O (fun d U hd ad=>?_)<|fun he hd=>?_;·exfalso;simp at U
 refine an<|bL<|bM<|bK<|qs<|aZ 1 Z<|W.ret<|QF.bo trivial Z ?_;rfl
theorem It:bp Tryz.prog 133 [.d (.sl (dV.map dv)),.d (.v (.int .i64 0))] (.tup [.d (.v (.int .i64 0)),.d (.v (.bool true))]) 0:=by
 refine bp.b6 (n:=22) (ts:=[4,5]) Tryz.func133 (by kernel_rfl) Z Tryz.ntmps133 Tryz.results133 Z Z fun C hC J=>aZ 2 Z<|ae<|aa<|aY 2 Z<|pu (bm Z Z Z (zB ..) Z) Z<|pE Z<|ab<|qs<|ae<|ae<|?_
 apply bC;(case hb=>rfl);·repeat' first|refine b4 Z Z Z|refine bz Z Z ?_|refine pE Z ?_|refine pu (bm Z Z Z (bp.pX xA) Z) Z ?_|refine ab ?_
 refine qs (ba Z (fun I=>?_) (fun I=>?_));·exfalso;exact absurd I (by decide)
 refine ah<|qs<|ae<|aa<|aY 2 Z<|pu (indexAddr (l:=dv (0,0)) aW Z Z Z Z Z Z (by decide) Z Z) Z<|aY 4 Z<|ab<|qs<|W.ret<|QF.bo trivial Z ?_;rfl
theorem Ei(ts:List ca)(hl:ts.length<=1000)(id)(h:id∈ts.map ca.id):bp Tryz.prog 83 [.ag (jf ts),.d (ci id)] (.d (.v (.bool true))) 0:=by
 have hml:ts.length<=maxLen:=by simp only[maxLen];omega
 refine bp.b6 (n:=21) (ts:=[4]) Tryz.func83 (by kernel_rfl) Z Tryz.ntmps83 Tryz.results83 Z Z fun C hC hG=>ae<|aa<|cG Z Z Z<|pE Z<|ab<|qs<|ae<|aZ 1 Z<|W.block<|W.bY (ι:={x:Nat//match x with|k=>k<=ts.length∧id∉(ts.take k).map ca.id})
  (fun x=>match x.1 with|k=>[(2,.ptr 0 0),(5,.d (.v (.int .i64 ((k:Nat):Int))))]) [(1,_)]
  (fun x=>match x.1 with|k=>[(0,(jf ts).map A.d)]) [] [] 1 (fun x=>match x.1 with|k=>ts.length-k)
  [0] ⟨0,?_⟩ rfl ?_ ⟨rfl,rfl,trivial⟩ ?_ trivial rfl ?_
 ·exact⟨ς _,by simp⟩
 ·repeat' constructor
 ·repeat' constructor
 rintro⟨k,hk,hI⟩
 show W _ _ _ _ _ ⟨[(2,.ptr 0 0),(5,.d (.v (.int .i64 ((k:Nat):Int)))),(1,_)],[(0,(jf ts).map A.d)],[],1⟩
 refine ae<|aZ 5 Z<|ct (l:=ts) (k:=k) Z (by simp[Ex.bE,bh]) hk (fun t hx hd hlt=>?_)<|fun he hd=>?_
 ·
  refine ah<|qs<|ae<|W.block<|ae<|aa<|aY 3 Z<|pu (indexAddr aW Z Z Z Z Z Z (ε _) (bF hx) Z) Z<|aY 4 Z<|ab<|qs<|ba Z (fun h20=>?_)<|fun h20=>?_
  ·
   refine aZ 1 Z<|W.ret<|bw<|bl<|cN<|bw<|bl<|QF.bo trivial Z ?_
   rfl
  have hne:¬t.id=id:=υ h20
  refine ah<|bW<|qs<|cJ 3 Z<|W.bZ [0] ⟨k+1,?_⟩ ?_ Z ?_ ⟨rfl,rfl,trivial⟩ ?_ trivial Z
  ·exact⟨hlt,by rw[Ψ,hx,I',F'];rintro(h1|h1);exact hI h1;simp at h1;exact hne h1.symm⟩
  ·dsimp only;omega
  ·repeat' first|exact trivial|refine⟨rfl,?_⟩|refine⟨bH (by assumption) (by assumption),?_⟩
  repeat' constructor
 exfalso
 rw[List.take_of_length_le (by omega)]at hI
 exact hI h
theorem ID(ps:List bP)(hl:ps.length<=1000)(id)(h:id∉ps.map bP.thread):bp Tryz.prog 136 [.d (.sl (ps.map bP.c)),.d (ci id)] (.tup [.d (ci 0),.d (ci 0)]) 0:=by
 have hml:ps.length<=maxLen:=by simp only[maxLen];omega
 refine bp.b6 (n:=51) (ts:=[4,5]) Tryz.func136 (by kernel_rfl) Z Tryz.ntmps136 Tryz.results136 Z Z fun C hC hG=>aZ 2 Z<|aZ 1 Z<|aZ 1 Z<|ae<|aZ 1 Z<|W.block<|W.bY (ι:={x:Nat//match x with|k=>k<=ps.length})
  (fun x=>match x.1 with|k=>[(6,.d (.v (.int .i64 (0)))),(7,.d (.v (.int .i64 (0)))),(8,.d (.v (.int .i64 ((k:Nat):Int))))]) [(0,_),(1,_)]
  (fun x=>match x.1 with|k=>[]) [] [] 0 (fun x=>match x.1 with|k=>ps.length-k)
  [] ⟨0,?_⟩ rfl ?_ ⟨rfl,rfl,rfl,rfl,trivial⟩ ?_ trivial rfl ?_
 ·exact ς _
 ·repeat' constructor
 ·repeat' exact trivial
 rintro⟨k,hk⟩
 show W _ _ _ _ _ ⟨[(6,.d (.v (.int .i64 (0)))),(7,.d (.v (.int .i64 (0)))),(8,.d (.v (.int .i64 ((k:Nat):Int)))),(0,_),(1,_)],[],[],0⟩
 refine ae<|aZ 4 Z<|ct (l:=ps) (k:=k) Z (by simp[Ex.bE,bh]) hk (fun p hx hd hlt=>?_)<|fun he hd=>?_
 ·
  have hne:p.thread≠id:=fun e=>h (e▸A'.2 ⟨p,ζ hx,rfl⟩)
  refine ah<|qs<|ae<|W.block<|ae<|aa<|aY 2 Z<|pu (indexAddr aW Z Z Z Z Z Z (ε _) (bF hx) Z) Z<|aY 4 Z<|ab<|qs<|ba Z (fun h21=>?_)<|fun h21=>?_
  ·
   exfalso;exact hne (μ h21)
  refine ah<|bW<|qs<|cJ 3 Z<|W.bZ [] ⟨k+1,?_⟩ ?_ Z ?_ ⟨rfl,rfl,rfl,rfl,trivial⟩ ?_ trivial Z
  ·exact hlt
  ·dsimp only;omega
  ·repeat' first|exact trivial|refine⟨rfl,?_⟩|refine⟨bH (by assumption) (by assumption),?_⟩
  repeat' exact trivial
 refine an<|bL<|bM<|bK<|qs<|aZ 4 Z<|W.ret<|QF.bo trivial Z ?_
 rfl
theorem Bc(ps:List bP)(hl:ps.length<=1000)(th)(h:th∉ps.map bP.thread)(e:Ev)(r)(h0:0<=e.time):bp Tryz.prog 84 [.d (.sl (ps.map bP.c)),.ag (bP.c ⟨th,0,0,e::r⟩)] (.d (.v (.bool true))) 0:=by
 refine bp.b6 (n:=30) (ts:=[4]) Tryz.func84 (by kernel_rfl) Z Tryz.ntmps84 Tryz.results84 Z Z fun C hC I=>ae<|aa<|cG Z Z Z<|pE Z<|ab<|qs<|ae<|aa<|aY 3 Z<|pu (bm Z Z Z (ID ps hl th h) Z) Z<|aY 5 Z<|ab<|qs<|ae ?_;apply bC;(case hb=>rfl);·
  refine aY 8 Z ?_;apply bN;(case hj=>rfl);(case hl=>rfl);·
   refine bz Z Z<|pE Z<|bz Z Z<|aY 1 Z<|bz Z Z<|pu (indexAddr (l:=e.c) aW Z Z Z Z Z Z (by decide) Z Z) Z<|bz Z Z<|pE Z<|bz Z Z<|aY 1 Z<|bz Z Z<|pE Z<|bz Z Z<|aY 3 Z<|ab<|b4 Z Z Z
  iterate 7 refine bA Z Z Z Z ?_
  refine aY 2 Z<|ab<|b4 Z Z Z
 refine qs (W.ret (QF.bo trivial Z ?_));simp only[norm,bO];simp[h0];rfl
theorem El(ps:List bP)(hl:ps.length<=1000)(h:(ps.map fun p=>p.evs.length).sum<=20000):bp Tryz.prog 85 [.d (.sl (ps.map bP.c))] (.d (.v (.int .i64 (((ps.map fun p=>p.evs.length).sum:Nat):Int)))) 0:=by
 have hml:ps.length<=maxLen:=by simp only[maxLen];omega
 refine bp.b6 (n:=20) (ts:=[2]) Tryz.func85 (by kernel_rfl) Z Tryz.ntmps85 Tryz.results85 Z Z fun C hC hG=>aZ 1 Z<|aZ 1 Z<|ae<|aZ 1 Z<|W.block<|W.bY (ι:={x:Nat//match x with|k=>k<=ps.length})
  (fun x=>match x.1 with|k=>[(3,.d (.v (.int .i64 ((((ps.take k).map fun p=>p.evs.length).sum:Nat):Int)))),(4,.d (.v (.int .i64 ((k:Nat):Int))))]) [(0,_)]
  (fun x=>match x.1 with|k=>[]) [] [] 0 (fun x=>match x.1 with|k=>ps.length-k)
  [] ⟨0,?_⟩ rfl ?_ ⟨rfl,rfl,trivial⟩ ?_ trivial rfl ?_
 ·exact ς _
 ·repeat' constructor
 ·repeat' exact trivial
 rintro⟨k,hk⟩
 show W _ _ _ _ _ ⟨[(3,.d (.v (.int .i64 ((((ps.take k).map fun p=>p.evs.length).sum:Nat):Int)))),(4,.d (.v (.int .i64 ((k:Nat):Int)))),(0,_)],[],[],0⟩
 refine ae<|aZ 4 Z<|ct (l:=ps) (k:=k) Z (by simp[Ex.bE,bh]) hk (fun p hx hd hlt=>?_)<|fun he hd=>?_
 ·
  have hst:=AR (f:=fun p:bP=>p.evs.length) hx
  have hle:=A0 (f:=fun p:bP=>p.evs.length) ps (k+1)
  refine ah<|qs<|ae<|W.block<|aa<|aY 3 Z<|pu (indexAddr aW Z Z Z Z Z Z (ε _) (bF hx) Z) Z<|aY 3 Z<|pu (b5 (ev aW Z) (y:=((((ps.take (k+1)).map fun p=>p.evs.length).sum:Nat):Int)) (by show IntKind.i64.wrap ((((ps.take k).map fun p=>p.evs.length).sum:Nat)+((p.evs.map Ev.c).length:Nat):Int)=_;rw[η,hst];exact(wrap64 (by omega)).trans (by omega))) Z<|pE Z<|ab<|bW<|qs<|cJ 3 Z<|W.bZ [] ⟨k+1,?_⟩ ?_ Z ?_ ⟨rfl,rfl,trivial⟩ ?_ trivial Z
  ·exact hlt
  ·dsimp only;omega
  ·repeat' first|exact trivial|refine⟨rfl,?_⟩|refine⟨bH (by assumption) (by assumption),?_⟩
  repeat' exact trivial
 have hpt:ps.take k=ps:=List.take_of_length_le (by omega)
 refine an<|bL<|bM<|bK<|qs<|aZ 2 Z<|W.ret<|QF.bo trivial Z ?_
 rw[hpt];rfl
def fU(th:Int)(ps:List bP):D:=match ps.filter fun p=>decide (p.thread=th)with|[]=>.v (.slice none 0 0)|l=>.sl (l.map bP.c)
theorem ui{th}{p:bP}(I:ps[k]?=some p):(ps.take (k+1)).filter (fun p=>decide (p.thread=th))=(ps.take k).filter (fun p=>decide (p.thread=th))++(if p.thread=th then[p]else[]):=by rw[Ψ,I,List.filter_append];congr 1;by_cases h:p.thread=th<;>simp[h]
theorem filter_none{th}{p:bP}(I:(ps.map bP.thread).Nodup)(J:ps[k]?=some p)(h:p.thread=th):(ps.take k).filter (fun p=>decide (p.thread=th))=[]:=by rw[List.filter_eq_nil_iff];intro q M;simp only[Δ];intro e;exact ly I J (by rw[h,←e];exact A'.2 ⟨q,M,rfl⟩)
theorem CT(th)(ps:List bP)(hl:ps.length<=1000000)(hn:(ps.map bP.thread).Nodup)(hp:∀p∈ps,p.serial=0∧p.lost=0∧0<p.evs.length∧p.evs.length<=1000):
  bp Tryz.prog 86 [.d (ci th),.d (.sl (ps.map bP.c))] (.d (fU th ps)) 0:=by
 have hml:ps.length<=maxLen:=by simp only[maxLen];omega
 refine bp.b6 (n:=95) (ts:=[4]) Tryz.func86 (by kernel_rfl) Z Tryz.ntmps86 Tryz.results86 Z Z fun C hC hG=>aZ 1 Z<|aZ 1 Z<|ae<|aZ 1 Z<|W.block<|W.bY (ι:={x:Nat//match x with|k=>k<=ps.length})
  (fun x=>match x.1 with|k=>[(5,.d (fU th (ps.take k))),(6,.d (.v (.int .i64 ((k:Nat):Int))))]) [(0,_),(1,_)]
  (fun x=>match x.1 with|k=>[]) [] [] 0 (fun x=>match x.1 with|k=>ps.length-k)
  [] ⟨0,?_⟩ rfl ?_ ⟨rfl,rfl,rfl,rfl,trivial⟩ ?_ trivial rfl ?_
 ·exact ς _
 ·repeat' constructor
 ·repeat' exact trivial
 rintro⟨k,hk⟩
 show W _ _ _ _ _ ⟨[(5,.d (fU th (ps.take k))),(6,.d (.v (.int .i64 ((k:Nat):Int)))),(0,_),(1,_)],[],[],0⟩
 refine ae<|aZ 4 Z<|ct (l:=ps) (k:=k) Z (by simp[Ex.bE,bh]) hk (fun p hx hd hlt=>?_)<|fun he hd=>?_
 ·
  obtain⟨hs0,hl0,he0,he1⟩:=hp p (ζ hx)
  have hst:=ui (th:=th) hx
  refine ah<|qs<|ae<|W.block<|ae<|ae<|aa<|aY 2 Z<|pu (indexAddr aW Z Z Z Z Z Z (ε _) (bF hx) Z) Z<|aY 4 Z<|ab<|qs<|ba Z (fun h22=>?_)<|fun h22=>?_
  ·
   have hne:¬p.thread=th:=by simpa using h22
   rw[if_neg hne,List.append_nil]at hst
   have hD:fU th (ps.take k)=fU th (ps.take (k+1)):=by unfold fU;rw[hst]
   rw[hD]
   refine an<|bL<|bK<|qs<|cJ 3 Z<|W.bZ [] ⟨k+1,?_⟩ ?_ Z ?_ ⟨rfl,rfl,rfl,rfl,trivial⟩ ?_ trivial Z
   ·exact hlt
   ·dsimp only;omega
   ·repeat' first|exact trivial|refine⟨rfl,?_⟩|refine⟨bH (by assumption) (by assumption),?_⟩
   repeat' exact trivial
  have hpt:p.thread=th:=by simpa using h22
  have hnil:=filter_none hn hx hpt
  have hD0:fU th (ps.take k)=.v (.slice none 0 0):=by unfold fU;rw[hnil]
  have hD1:fU th (ps.take (k+1))=.sl ([p].map bP.c):=by unfold fU;rw[hst,hnil,if_pos hpt];rfl
  rw[hD0]
  obtain⟨th2,se,lo,evs⟩:=p
  simp only at hs0 hl0 he0 he1 hpt
  subst hs0
  subst hl0
  subst hpt
  refine ah<|qs<|aZ 1 Z<|W.block<|KJ 4 Z<|W.bY (ι:={x:(Nat) ⊕ (Nat×Nat×Nat)//match x with|.inl (j)=>j=0|.inr (j,cap,kk)=>j<=evs.length∧0<j})
   (fun x=>match x.1 with|.inl (j)=>[(4,.ow 1 [] (.slice none 0 0)),(5,.d (.v (.slice none 0 0))),(7,.d (.v (.int .i64 ((0:Nat):Int))))]|.inr (j,cap,kk)=>[(5,.sb 0 1 cap),(7,.d (.v (.int .i64 ((j:Nat):Int))))]) [(0,_),(1,_),(6,_)]
   (fun x=>match x.1 with|.inl (j)=>[]|.inr (j,cap,kk)=>[(0,zO th2 1 (evs.take j) kk)]) [] [1] 2 (fun x=>match x.1 with|.inl (j)=>evs.length|.inr (j,cap,kk)=>evs.length-j)
   [9,0] ⟨.inl 0,?_⟩ rfl ?_ ⟨rfl,rfl,rfl,rfl,rfl,rfl,trivial⟩ ?_ trivial rfl ?_
  ·rfl
  ·repeat' constructor
  ·repeat' exact trivial
  rintro⟨⟨j⟩|⟨j,cap,kk⟩,hinv⟩
  ·
   obtain⟨hj0⟩:=hinv
   show W _ _ _ _ _ ⟨[(4,.ow 1 [] (.slice none 0 0)),(5,.d (.v (.slice none 0 0))),(7,.d (.v (.int .i64 ((0:Nat):Int)))),(0,_),(1,_),(6,_)],[],[1],2⟩
   refine ae<|ae<|aa<|aY 3 Z<|pu (indexAddr (l:=bP.c ⟨th2,0,0,evs⟩) aW Z Z Z Z Z Z (ε _) (bF hx) Z) Z<|aY 4 Z<|ab<|qs<|ba Z (fun h30=>?_)<|fun h30=>?_
   ·
    obtain⟨e,he⟩:∃e,evs[0]?=some e:=⟨evs[0],by simp⟩
    have htk:evs.take 1=[e]:=by rw[show(1:Nat)=0+1 from rfl,Ψ,he];rfl
    refine ah<|qs<|ae<|W.block<|aZ 1 Z<|ae<|aZ 2 Z<|ba Z (fun h34=>?_)<|fun h34=>?_
    ·
     refine aa<|aY 2 Z<|pu (indexAddr (l:=bP.c ⟨th2,0,0,evs⟩) aW Z Z Z Z Z Z (ε _) (bF hx) Z) Z<|aY 3 Z<|ab<|qs<|aZ 3 Z<|ae<|ae<|?_
     apply bC;(case hb=>rfl)
     ·
      refine aY 3 Z ?_
      apply eU (y2:=true);(case hj=>rfl);(case hl=>rfl)
      ·
       intro g44
       refine bA Z Z Z Z<|bA Z Z Z Z<|aY 2 Z ?_
       iterate 8 refine bA Z Z Z Z ?_
       refine pE Z (ab (b4 Z Z Z))
      intro g44
      exfalso;exact absurd g44 (by decide)
     refine qs (ba Z (fun h57=>?_) (fun h57=>?_))
     ·
      refine ae<|W.yJ (d:=5) Z Z<|aa<|aY 4 Z<|pu (indexAddr (l:=bP.c ⟨th2,0,0,evs⟩) aW Z Z Z Z Z Z (ε _) (bF hx) Z) Z<|aY 3 Z<|pu (b5 (ev aW Z) (y:=0) (by rfl)) Z<|pE Z<|pu (build aW Z Z Z Z) Z<|pu (bR aW Z Z Z Z Z Z Z Z Z) Z<|mr (es:=[]) aW Z Z Z Z Z Z Z Z Z Z Z (fun x hx=>by obtain rfl:=List.mem_singleton.1 hx;rfl) (by show 1*48<=140737488355328;decide) Z<|pE Z<|ab<|qs<|aa<|pE Z<|pu (b5 (ev aW Z) (y:=1) (by rfl)) Z<|pE Z<|ab<|qs<|L3 5 Z Z Z (by show 0<1;decide) Z<|fun cap kk=>ey 4 3 Z Z Z ?_
      apply W.fb aW 19 18;(case hB=>kernel_rfl);(case h1=>rfl);(case h2=>rfl)
      refine' cd ?p1_1 (ev aW Z) Z Z Z Z Z ?h_1
      case' h_1=>skip
      refine' cd ?p1_2 (ev aW Z) Z Z Z Z Z ?h_2
      case' h_2=>skip
      refine' cd ?p1_3 (b5 (ev aW Z) (y:=0) (by rfl)) Z Z Z Z Z ?h_3
      case' h_3=>skip
      refine' cd ?p1_4 (ev aW Z) Z Z Z Z Z ?h_4
      case' h_4=>skip
      refine' cd ?p1_5 (ev aW Z) Z Z Z Z Z ?h_5
      case' h_5=>skip
      refine' cd ?p1_6 (b5 (ev aW Z) (y:=0) (by rfl)) Z Z Z Z Z ?h_6
      case' h_6=>skip
      refine' cd ?p1_7 (mE aW Z Z Z Z Z (by decide) Nat.zero_lt_one Z) Z Z Z Z Z ?h_7
      case' h_7=>skip
      refine' cd ?p1_8 (ev aW Z) Z Z Z Z Z ?h_8
      case' h_8=>skip
      refine' eJ (ev aW Z) Z Z Z Z Z ?h_9
      case' h_9=>skip
      refine' cd ?p1_10 (ev aW Z) Z Z Z Z Z ?h_10
      case' h_10=>skip
      refine' cd ?p1_11 (ev aW Z) Z Z Z Z Z ?h_11
      case' h_11=>skip
      refine' cd ?p1_12 (indexAddr (l:=bP.c ⟨th2,0,0,evs⟩) aW Z Z Z Z Z Z (ε _) (bF hx) Z) Z Z Z Z Z ?h_12
      case' h_12=>skip
      refine' cd ?p1_13 (ev aW Z) Z Z Z Z Z ?h_13
      case' h_13=>skip
      refine' cd ?p1_14 (ev aW Z) Z Z Z Z Z ?h_14
      case' h_14=>skip
      refine' cd ?p1_15 (ev aW Z) Z Z Z Z Z ?h_15
      case' h_15=>skip
      refine' cd ?p1_16 (indexAddr (l:=e.c) aW Z Z Z Z Z Z (by decide) (bF he) Z) Z Z Z Z Z ?h_16
      case' h_16=>skip
      refine' cd ?p1_17 (ev aW Z) Z Z Z Z Z ?h_17
      case' h_17=>skip
      refine' eJ (bR aW Z Z Z Z Z Z Z Z Z) Z Z Z Z Z ?h_18
      case' h_18=>skip
      refine' qu (fun g=>?e_19) Z Z Z ?h_19
      case e_19=>
       refine dF (fn:=Ev.c) (l:=[]) (a:=e) aW Z Z Z Z Z Z Z Z Z Z (fun _=>rfl) (by show 1*72<=140737488355328;decide)<|ab ?_
       exact⟨rfl,rfl⟩
      case' h_19=>skip
      case p1_1=>exact(ev aW rfl)
      case p1_2=>exact(ev aW rfl)
      case p1_3=>exact(b5 (ev aW rfl) (y:=0) (by rfl))
      case p1_4=>exact(ev aW rfl)
      case p1_5=>exact(ev aW rfl)
      case p1_6=>exact(b5 (ev aW rfl) (y:=0) (by rfl))
      case p1_7=>exact(mE aW rfl rfl rfl rfl rfl (by decide) Nat.zero_lt_one rfl)
      case p1_8=>exact(ev aW rfl)
      case p1_10=>exact(ev aW rfl)
      case p1_11=>exact(ev aW rfl)
      case p1_12=>exact(indexAddr (l:=bP.c ⟨th2,0,0,evs⟩) aW rfl rfl rfl rfl rfl rfl (ε _) (bF hx) rfl)
      case p1_13=>exact(ev aW rfl)
      case p1_14=>exact(ev aW rfl)
      case p1_15=>exact(ev aW rfl)
      case p1_16=>exact(indexAddr (l:=e.c) aW rfl rfl rfl rfl rfl rfl (by decide) (bF he) rfl)
      case p1_17=>exact(ev aW rfl)
      refine au<|pu (mE aW Z Z Z Z Z (by decide) Nat.zero_lt_one Z) Z<|pE Z<|be aW Z Z Z Z Z Z Z Z<|ab<|bW<|qs<|aa<|pE Z<|pu (b5 (ev aW Z) (y:=((1:Nat):Int)) (by rfl)) Z<|pE Z<|ab<|W.bZ [4,6] ⟨.inr (1,cap,kk),?_⟩ ?_ Z ?_ ⟨rfl,rfl,rfl,rfl,rfl,rfl,trivial⟩ ?_ trivial Z
      ·exact⟨he0,Nat.zero_lt_one⟩
      ·dsimp only;omega
      ·repeat' constructor
      dsimp only
      rw[htk]
      exact Cd Z Z Z Z
     exfalso;exact absurd h57 (by decide)
    exfalso;exact absurd h34 (by decide)
   exfalso
   have h:=υ h30
   rw[η]at h
   exact h (Int.ofNat_lt.2 he0)
  obtain⟨hj,hj0⟩:=hinv
  show W _ _ _ _ _ ⟨[(5,.sb 0 1 cap),(7,.d (.v (.int .i64 ((j:Nat):Int)))),(0,_),(1,_),(6,_)],[(0,zO th2 1 (evs.take j) kk)],[1],2⟩
  refine ae<|ae<|aa<|aY 3 Z<|pu (indexAddr (l:=bP.c ⟨th2,0,0,evs⟩) aW Z Z Z Z Z Z (ε _) (bF hx) Z) Z<|aY 4 Z<|ab<|qs<|ba Z (fun h30=>?_)<|fun h30=>?_
  ·
   have hjl:j<evs.length:=by have h:=μ h30;rw[η]at h;exact Int.ofNat_lt.1 h
   obtain⟨e,he⟩:∃e,evs[j]?=some e:=⟨evs[j],by simp⟩
   have htk:evs.take (j+1)=evs.take j++[e]:=by rw[Ψ,he];rfl
   have htl:(evs.take j).length=j:=by rw[List.length_take];omega
   refine ah<|qs<|ae<|W.block<|aZ 1 Z<|ae<|aZ 2 Z<|ba Z (fun h34=>?_)<|fun h34=>?_
   ·
    exfalso;have:=μ h34;omega
   refine ah<|qs<|ae<|aa<|pE Z<|pu (Lu aW Z Z Z) Z<|pE Z<|ab<|qs<|ae<|ae<|?_
   apply bC;(case hb=>rfl)
   ·
    refine aY 3 Z ?_
    apply eU;(case hj=>rfl);(case hl=>rfl)
    ·
     intro g44
     refine bA Z Z Z Z<|bA Z Z Z Z<|aY 2 Z ?_
     iterate 8 refine bA Z Z Z Z ?_
     refine pE Z (ab (b4 Z Z Z))
    intro g44
    refine bz Z Z (pE Z (bz Z Z (aY 3 Z ?_)))
    apply eU;(case hj=>rfl);(case hl=>rfl)
    ·
     intro g48
     iterate 8 refine bA Z Z Z Z ?_
     refine pE Z (ab (b4 Z Z Z))
    intro g48
    refine bz Z Z<|pE Z<|bz Z Z<|pE Z<|bz Z Z<|pu (b5 (ev aW Z) (y:=0) (by rfl)) Z<|bz Z Z<|pu (mE aW Z Z Z Z Z (by decide) Nat.zero_lt_one Z) Z<|bz Z Z<|pE Z<|bz Z Z<|aY 1 Z<|bz Z Z<|pE Z<|bz Z Z<|aY 2 Z<|ab<|b4 Z Z Z
   refine qs (ba Z (fun h57=>?_) (fun h57=>?_))
   ·
    exfalso
    have h1000:¬((((evs.take j).map Ev.c).length:Nat):Int)=1000:=by rw[η,htl];omega
    simp[h1000]at h57
    omega
   refine ah (qs ?_)
   apply W.fb aW 19 18;(case hB=>kernel_rfl);(case h1=>rfl);(case h2=>rfl)
   refine' cd ?p1_20 (ev aW Z) Z Z Z Z Z ?h_20
   case' h_20=>skip
   refine' cd ?p1_21 (ev aW Z) Z Z Z Z Z ?h_21
   case' h_21=>skip
   refine' cd ?p1_22 (b5 (ev aW Z) (y:=0) (by rfl)) Z Z Z Z Z ?h_22
   case' h_22=>skip
   refine' cd ?p1_23 (ev aW Z) Z Z Z Z Z ?h_23
   case' h_23=>skip
   refine' cd ?p1_24 (ev aW Z) Z Z Z Z Z ?h_24
   case' h_24=>skip
   refine' cd ?p1_25 (b5 (ev aW Z) (y:=0) (by rfl)) Z Z Z Z Z ?h_25
   case' h_25=>skip
   refine' cd ?p1_26 (mE aW Z Z Z Z Z (by decide) Nat.zero_lt_one Z) Z Z Z Z Z ?h_26
   case' h_26=>skip
   refine' cd ?p1_27 (ev aW Z) Z Z Z Z Z ?h_27
   case' h_27=>skip
   refine' eJ (ev aW Z) Z Z Z Z Z ?h_28
   case' h_28=>skip
   refine' cd ?p1_29 (ev aW Z) Z Z Z Z Z ?h_29
   case' h_29=>skip
   refine' cd ?p1_30 (ev aW Z) Z Z Z Z Z ?h_30
   case' h_30=>skip
   refine' cd ?p1_31 (indexAddr (l:=bP.c ⟨th2,0,0,evs⟩) aW Z Z Z Z Z Z (ε _) (bF hx) Z) Z Z Z Z Z ?h_31
   case' h_31=>skip
   refine' cd ?p1_32 (ev aW Z) Z Z Z Z Z ?h_32
   case' h_32=>skip
   refine' cd ?p1_33 (ev aW Z) Z Z Z Z Z ?h_33
   case' h_33=>skip
   refine' cd ?p1_34 (ev aW Z) Z Z Z Z Z ?h_34
   case' h_34=>skip
   refine' cd ?p1_35 (indexAddr (l:=e.c) aW Z Z Z Z Z Z (ε _) (bF he) Z) Z Z Z Z Z ?h_35
   case' h_35=>skip
   refine' cd ?p1_36 (ev aW Z) Z Z Z Z Z ?h_36
   case' h_36=>skip
   refine' eJ (bR aW Z Z Z Z Z Z Z Z Z) Z Z Z Z Z ?h_37
   case' h_37=>skip
   refine' qu (fun g=>?e_38) Z Z Z ?h_38
   case e_38=>
    refine dF (fn:=Ev.c) (l:=evs.take j) (a:=e) aW Z Z Z Z Z Z Z Z Z Z (fun _=>rfl) (by show((evs.take j).length+1)*72<=_;omega)<|ab ?_
    exact⟨rfl,rfl⟩
   case' h_38=>skip
   case p1_20=>exact(ev aW rfl)
   case p1_21=>exact(ev aW rfl)
   case p1_22=>exact(b5 (ev aW rfl) (y:=0) (by rfl))
   case p1_23=>exact(ev aW rfl)
   case p1_24=>exact(ev aW rfl)
   case p1_25=>exact(b5 (ev aW rfl) (y:=0) (by rfl))
   case p1_26=>exact(mE aW rfl rfl rfl rfl rfl (by decide) Nat.zero_lt_one rfl)
   case p1_27=>exact(ev aW rfl)
   case p1_29=>exact(ev aW rfl)
   case p1_30=>exact(ev aW rfl)
   case p1_31=>exact(indexAddr (l:=bP.c ⟨th2,0,0,evs⟩) aW rfl rfl rfl rfl rfl rfl (ε _) (bF hx) rfl)
   case p1_32=>exact(ev aW rfl)
   case p1_33=>exact(ev aW rfl)
   case p1_34=>exact(ev aW rfl)
   case p1_35=>exact(indexAddr (l:=e.c) aW rfl rfl rfl rfl rfl rfl (ε _) (bF he) rfl)
   case p1_36=>exact(ev aW rfl)
   refine au<|pu (mE aW Z Z Z Z Z (by decide) Nat.zero_lt_one Z) Z<|pE Z<|be aW Z Z Z Z Z Z Z Z<|ab<|bW<|qs<|aa<|pE Z<|pu (b5 (ev aW Z) (y:=((j+1:Nat):Int)) ((wrap64 (by omega)).trans (by omega))) Z<|pE Z<|ab<|W.bZ [0,2] ⟨.inr (j+1,cap,kk),?_⟩ ?_ Z ?_ ⟨rfl,rfl,rfl,rfl,rfl,rfl,trivial⟩ ?_ trivial Z
   ·exact⟨hjl,Nat.succ_pos _⟩
   ·dsimp only;omega
   ·repeat' constructor
   dsimp only
   rw[htk]
   exact Cd Z Z Z Z
  have hje:j=evs.length:=by have h:=υ h30;rw[η]at h;exact Nat.le_antisymm hj (Nat.not_lt.1 fun q=>h (Int.ofNat_lt.2 q))
  rw[show evs.take j=evs from List.take_of_length_le (by omega)]
  refine Ch 0 3 Z Z Z<|Hs 5 (es:=[bP.c ⟨th2,0,0,evs⟩]) (k:=kk) (sz:=4) Z Z Z Z (fun x hx=>by obtain rfl:=List.mem_singleton.1 hx;rfl) Z Z ?_
  rw[show(D.sl [bP.c ⟨th2,0,0,evs⟩])=fU th2 (ps.take (k+1))from hD1.symm]
  refine an<|bL<|bM<|bK<|bW<|qs<|cJ 3 Z<|W.bZ [] ⟨k+1,?_⟩ ?_ Z ?_ ⟨rfl,rfl,rfl,rfl,trivial⟩ ?_ trivial Z
  ·exact hlt
  ·dsimp only;omega
  ·repeat' first|exact trivial|refine⟨rfl,?_⟩|refine⟨bH (by assumption) (by assumption),?_⟩
  repeat' exact trivial
 have hpt:ps.take k=ps:=List.take_of_length_le (by omega)
 rw[hpt]
 refine an<|bL<|bM<|bK<|qs<|aZ 2 Z<|W.ret<|QF.bo trivial Z ?_
 rfl
theorem FC(J:(ps.map bP.thread).Nodup){p:bP}(I:ps[k]?=some p):ps.filter (fun q=>decide (q.thread=p.thread))=[p]:=by
 have h1:=ui (th:=p.thread) I;rw[filter_none J I Z,if_pos rfl]at h1;have h2:(ps.drop (k+1)).filter (fun q=>decide (q.thread=p.thread))=[]:=by rw[List.filter_eq_nil_iff];intro q M;simp only[Δ];intro e;obtain⟨j,hj⟩:=Γ.1 M;rw[List.getElem?_drop]at hj;have:=ly J hj;exact this (by rw[e];exact A'.2 ⟨p,ζ (i:=k) (by rw[List.getElem?_take_of_lt (by omega)];exact I),rfl⟩)
 have h3:ps.filter (fun q=>decide (q.thread=p.thread))=(ps.take (k+1)).filter (fun q=>decide (q.thread=p.thread))++(ps.drop (k+1)).filter (fun q=>decide (q.thread=p.thread)):=by rw[<-List.filter_append,List.take_append_drop]
 rw[h3,h1,h2];rfl
theorem CI(t:ca):bp Tryz.prog 107 [.ag t.c] (.d (.v (.int .i64 (lz t)))) 0:=by
 refine bp.b6 (n:=24) (ts:=[2]) Tryz.func107 (by kernel_rfl) Z Tryz.ntmps107 Tryz.results107 Z Z fun C hC M=>ae<|aa<|cG Z Z Z<|pE Z<|ab<|qs<|ae<|ae<|?_
 apply bC;(case hb=>rfl);·repeat' first|refine b4 Z Z Z|refine bz Z Z ?_|refine bA Z Z Z Z ?_|refine pE Z ?_|refine ab ?_|(apply bN;(case hj=>rfl);(case hl=>rfl))
 refine qs (ba Z (fun I=>?_) (fun I=>?_));·
  have J:lz t=2:=by unfold lz;rw[if_pos (by simp at I;omega)]
  refine aZ 1 Z<|W.ret<|bl<|QF.bo trivial Z ?_;simp only[norm,bO,J]
 have J:lz t=cO t.name:=by unfold lz;rw[if_neg (by simp at I;omega)]
 refine ah<|qs<|ae<|aa<|aY 2 Z<|pu (bm Z Z Z (tG ..) Z) Z<|pE Z<|ab<|qs<|W.ret<|QF.bo trivial Z ?_;simp only[norm,bO,J]
theorem Hz(ts):bp Tryz.prog 67 [.ag (jf ts)] (.d (.v (.int .i64 (eC ts)))) 0:=by
 refine bp.b6 (n:=62) (ts:=[2]) Tryz.func67 (by kernel_rfl) Z Tryz.ntmps67 Tryz.results67 Z Z fun C hC hG=>ae<|aa<|cG Z Z Z<|pE Z<|ab<|qs<|ae<|W.block<|aZ 5 Z<|ba Z (fun h10=>?_)<|fun h10=>?_
 ·
  have hg:eC ts=8:=by simp at h10;unfold eC;rw[if_pos h10]
  refine aZ 1 Z<|W.ret<|bw<|bl<|QF.bo trivial Z ?_
  simp only[norm,bO,hg]
 have hne:ts≠[]:=by simpa using h10
 refine aZ 5 Z<|ba Z (fun h15=>?_)<|fun h15=>?_
 ·
  have hg:eC ts=7:=by simp at h15;unfold eC;rw[if_neg hne,if_pos (by omega)]
  refine aZ 1 Z<|W.ret<|bw<|bl<|QF.bo trivial Z ?_
  simp only[norm,bO,hg]
 have hT:eC ts=mZ ts []:=by simp at h15;unfold eC;rw[if_neg hne,if_neg (by omega)]
 have hlen:ts.length<=maxLen:=by simp at h15;simp only[maxLen];omega
 refine ah<|bW<|qs<|ae<|aa<|mkMap Z<|pE Z<|ab<|qs<|ae<|aZ 4 Z<|W.block<|W.bY (ι:={x:Nat//match x with|k=>k<=ts.length∧((ts.take k).map ca.id).Nodup∧mZ (ts.drop k) ((ts.take k).map ca.id)=eC ts})
  (fun x=>match x.1 with|k=>[(1,.ptr 0 0),(3,.mp 1 (gy ik FL (lq (ts.take k) ca.id))),(24,.d (.v (.int .i64 ((k:Nat):Int))))]) [(22,_),(23,_)]
  (fun x=>match x.1 with|k=>[(0,(jf ts).map A.d)]) [] [1] 2 (fun x=>match x.1 with|k=>ts.length-k)
  [0,1] ⟨0,?_⟩ rfl ?_ ⟨rfl,rfl,rfl,rfl,trivial⟩ ?_ trivial rfl ?_
 ·exact⟨ς _,List.nodup_nil,hT.symm⟩
 ·repeat' constructor
 ·repeat' constructor
 rintro⟨k,hk,hnd,hI⟩
 show W _ _ _ _ _ ⟨[(1,.ptr 0 0),(3,.mp 1 (gy ik FL (lq (ts.take k) ca.id))),(24,.d (.v (.int .i64 ((k:Nat):Int)))),(22,_),(23,_)],[(0,(jf ts).map A.d)],[1],2⟩
 refine aZ 1 Z<|ae<|ct (l:=ts) (k:=k) Z (by simp[Ex.bE,bh]) hk (fun t hx hd hlt=>?_)<|fun he hd=>?_
 ·
  rw[hd,mZ]at hI
  have hst:=x9 (f:=ca.id) (ts.take k) t.id
  refine ah<|qs<|ae<|W.block<|ae<|aa<|pu (indexAddr aW Z Z Z Z Z Z (ε _) (bF hx) Z) Z<|aY 1 Z<|bT aW Z Z Z<|be aW Z Z Z Z Z Z Z Z<|ab<|qs<|ae<|ae<|aa<|aY 1 Z<|pu (bm Z Z Z (CI t) Z) Z<|pE Z<|ab<|qs<|aZ 2 Z<|ba Z (fun h31=>?_)<|fun h31=>?_
  ·
   have hg:eC ts=lz t:=by rw[<-hI,if_pos (by simpa using h31)]
   refine aZ 2 Z<|W.ret<|bl<|bw<|bl<|cN<|bw<|bl<|QF.bo trivial Z ?_
   simp only[norm,bO,hg]
  rw[if_neg (by simpa using h31)]at hI
  refine ah<|qs<|ae<|ae<|aa<|aY 3 Z<|pu (oV (kf:=ik) (vf:=FL) (l:=lq (ts.take k) ca.id) (a:=t.id) (z:=false) (r:=FL (((ts.take k).map ca.id).any fun x=>decide (x=t.id))) aW Z Z Z Z Z (jr (aW.iR Z Z)) Z Z Z (fun _ _=>.v _ Z) (by rw[rC];exact hnd) (by rw[hst])) Z<|ab<|qs<|ba Z (fun h36=>?_)<|fun h36=>?_
  ·
   have hg:eC ts=4:=by rw[<-hI,if_pos h36]
   refine aZ 1 Z<|W.ret<|bl<|bw<|bl<|cN<|bw<|bl<|QF.bo trivial Z ?_
   simp only[norm,bO,hg]
  have hns:¬(((ts.take k).map ca.id).any fun x=>decide (x=t.id))=true:=by rw[show(((ts.take k).map ca.id).any fun x=>decide (x=t.id))=false from h36];simp
  rw[if_neg hns]at hI
  have hti:(ts.take (k+1)).map ca.id=(ts.take k).map ca.id++[t.id]:=by rw[Ψ,hx,I'];rfl
  have hnm:t.id∉(ts.take k).map ca.id:=by intro q;exact hns (L'.2 ⟨_,q,by simp⟩)
  refine ah (qs (aa (aY 3 Z ?_)))
  first|refine wb (kf:=ik) (vf:=FL) (l:=lq (ts.take k) ca.id) (a:=t.id) (y:=true) aW 3 rfl rfl rfl rfl rfl rfl rfl (jr (aW.iR rfl rfl)) rfl rfl (by rw[rC];exact hnd) (by rw[Hn hns hx]) rfl ?_
  refine ab<|bW<|qs<|cJ 2 Z<|W.bZ [0,3] ⟨k+1,?_⟩ ?_ Z ?_ ⟨rfl,rfl,rfl,rfl,trivial⟩ ?_ trivial Z
  ·exact⟨hlt,by rw[hti,List.nodup_append];exact⟨hnd,by simp,fun a ha b hb=>by simp at hb;subst hb;rintro rfl;exact hnm ha⟩,by rw[hti];exact hI⟩
  ·dsimp only;omega
  ·repeat' first|exact trivial|refine⟨rfl,?_⟩|refine⟨bH (by assumption) (by assumption),?_⟩
  repeat' constructor
 have hg:eC ts=0:=by rw[<-hI,hd];rfl
 refine an<|bL<|bM<|bK<|qs<|ae<|ae<|aa<|aY 4 Z<|pu (bm Z Z Z GG Z) Z<|pE Z<|ab<|qs<|aZ 2 Z<|ba Z (fun h47=>?_)<|fun h47=>?_
 ·
  exfalso;simp at h47
 refine ah<|qs<|ae<|aZ 4 Z<|W.block<|W.bY (ι:={x:Nat//match x with|k=>k<=ts.length})
  (fun x=>match x.1 with|k=>[(1,.ptr 0 0),(52,.d (.v (.int .i64 ((k:Nat):Int))))]) [(50,_),(51,_)]
  (fun x=>match x.1 with|k=>[(0,(jf ts).map A.d)]) [] [] 1 (fun x=>match x.1 with|k=>ts.length-k)
  [0] ⟨0,?_⟩ rfl ?_ ⟨rfl,rfl,rfl,rfl,trivial⟩ ?_ trivial rfl ?_
 ·exact ς _
 ·repeat' constructor
 ·repeat' constructor
 rintro⟨k,hk⟩
 show W _ _ _ _ _ ⟨[(1,.ptr 0 0),(52,.d (.v (.int .i64 ((k:Nat):Int)))),(50,_),(51,_)],[(0,(jf ts).map A.d)],[],1⟩
 refine aZ 1 Z<|ae<|ct (l:=ts) (k:=k) Z (by simp[Ex.bE,bh]) hk (fun t hx hd hlt=>?_)<|fun he hd=>?_
 ·
  refine ah<|qs<|ae<|W.block<|ae<|aa<|pu (indexAddr aW Z Z Z Z Z Z (ε _) (bF hx) Z) Z<|aY 1 Z<|bT aW Z Z Z<|be aW Z Z Z Z Z Z Z Z<|ab<|qs<|ae<|aa<|aY 3 Z<|pu (bm Z Z Z (Jj t) Z) Z<|pE Z<|ab<|qs<|ba Z (fun h60=>?_)<|fun h60=>?_
  ·
   exfalso;simp at h60
  refine ah<|bW<|qs<|cJ 2 Z<|W.bZ [0] ⟨k+1,?_⟩ ?_ Z ?_ ⟨rfl,rfl,rfl,rfl,trivial⟩ ?_ trivial Z
  ·exact hlt
  ·dsimp only;omega
  ·repeat' first|exact trivial|refine⟨rfl,?_⟩|refine⟨bH (by assumption) (by assumption),?_⟩
  repeat' constructor
 refine an<|bL<|bM<|bK<|qs<|aZ 1 Z<|W.ret<|QF.bo trivial Z ?_
 simp only[norm,bO,hg]
theorem DT(ts)(ps:List bP)(ok:Lx ts)(okp:qx ts ps):bp Tryz.prog 68 [.ag (jf ts),.d (.sl (ps.map bP.c))] (.d (.v (.int .i64 (fC ps)))) 0:=by
 obtain⟨ids,hids⟩:∃ids,ids=ts.map ca.id:=⟨_,rfl⟩
 have hnd:ids.Nodup:=hids▸ok.2
 have hpi:(ps.map bP.thread).Sublist ids:=hids▸okp.1
 have hpn:(ps.map bP.thread).Nodup:=hnd.sublist hpi
 refine bp.b6 (n:=63) (ts:=[4]) Tryz.func68 (by kernel_rfl) Z Tryz.ntmps68 Tryz.results68 Z Z fun C hC hG=>ae<|aa<|cG Z Z Z<|pE Z<|ab<|qs<|ae<|aa<|K1 Z<|pE Z<|ab<|qs<|ae<|aZ 4 Z<|W.block<|W.len (t:=16) Z Z<|fun hlen=>?_
 try simp only[η,Ex.bE]at hlen
 refine W.bY (ι:={x:Nat//match x with|k=>k<=ts.length})
  (fun x=>match x.1 with|k=>[(1,.d (.sl (ps.map bP.c))),(5,.mq 1 (kU ik (rZ ids k))),(18,.d (.v (.int .i64 ((k:Nat):Int))))]) [(16,_),(17,_)]
  (fun x=>match x.1 with|k=>[(0,(jf ts).map A.d)]) [] [1] 2 (fun x=>match x.1 with|k=>ts.length-k)
  [0,1] ⟨0,?_⟩ rfl ?_ ⟨rfl,rfl,rfl,rfl,trivial⟩ ?_ trivial rfl ?_
 ·exact ς _
 ·repeat' constructor
 ·repeat' constructor
 rintro⟨k,hk⟩
 show W _ _ _ _ _ ⟨[(1,.d (.sl (ps.map bP.c))),(5,.mq 1 (kU ik (rZ ids k))),(18,.d (.v (.int .i64 ((k:Nat):Int)))),(16,_),(17,_)],[(0,(jf ts).map A.d)],[1],2⟩
 refine aZ 1 Z<|ae<|ct (l:=ts) (k:=k) Z (by simp[Ex.bE,bh]) hk (fun t hx hd hlt=>?_)<|fun he hd=>?_
 ·
  have hti:ids[k]?=some t.id:=by rw[hids];simp[hx]
  refine ah<|qs<|ae<|W.block<|ae<|aa<|pu (indexAddr aW Z Z Z Z Z Z (ε _) (bF hx) Z) Z<|aY 1 Z<|bT aW Z Z Z<|be aW Z Z Z Z Z Z Z Z<|ab<|qs<|aa<|aY 3 Z<|pu (build aW Z Z Z Z) Z<|cG Z Z Z ?_
  first|refine H7 (kf:=ik) (l:=rZ ids k) (a:=t.id) (y:=z2) aW 5 rfl rfl rfl rfl rfl rfl rfl rfl (jr (aW.iR rfl rfl)) rfl rfl (by rw[zI];exact hnd.sublist (List.take_sublist _ _)) (by rw[zI];exact sd hnd hti) rfl rfl (by rw[G9 hti]) rfl ?_
  refine ab<|bW<|qs<|cJ 2 Z<|W.bZ [0,5] ⟨k+1,?_⟩ ?_ Z ?_ ⟨rfl,rfl,rfl,rfl,trivial⟩ ?_ trivial Z
  ·exact hlt
  ·dsimp only;omega
  ·repeat' first|exact trivial|refine⟨rfl,?_⟩|refine⟨bH (by assumption) (by assumption),?_⟩
  repeat' constructor
 have hq:rZ ids k=qF ids []:=by rw[Jh];exact IK (by rw[hids,η];exact he)
 rw[hq]
 refine an<|bL<|bM<|bK<|qs<|aZ 1 Z<|ae<|aZ 3 Z<|W.block<|W.len (t:=28) Z Z<|fun hlen=>?_
 try simp only[η,Ex.bE]at hlen
 refine W.bY (ι:={x:Nat×Nat//match x with|(k,c)=>k<=ps.length∧fC (ps.drop k)=fC ps∧c=((ps.take k).map fun p=>p.evs.length).sum})
  (fun x=>match x.1 with|(k,c)=>[(5,.mq 1 (kU ik (qF ids ((ps.take k).map bP.thread)))),(8,.d (.v (.int .i64 ((c:Nat):Int)))),(30,.d (.v (.int .i64 ((k:Nat):Int))))]) [(28,_),(29,_)]
  (fun x=>match x.1 with|(k,c)=>[(0,(jf ts).map A.d)]) [] [1] 2 (fun x=>match x.1 with|(k,c)=>ps.length-k)
  [0,1] ⟨(0,0),?_⟩ rfl ?_ ⟨rfl,rfl,rfl,rfl,trivial⟩ ?_ trivial rfl ?_
 ·exact⟨ς _,rfl,rfl⟩
 ·repeat' constructor
 ·repeat' constructor
 rintro⟨⟨k,c⟩,hk,hI,hc⟩
 show W _ _ _ _ _ ⟨[(5,.mq 1 (kU ik (qF ids ((ps.take k).map bP.thread)))),(8,.d (.v (.int .i64 ((c:Nat):Int)))),(30,.d (.v (.int .i64 ((k:Nat):Int)))),(28,_),(29,_)],[(0,(jf ts).map A.d)],[1],2⟩
 refine aZ 1 Z<|ae<|ct (l:=ps) (k:=k) Z (by simp[Ex.bE,bh]) hk (fun p hx hd hlt=>?_)<|fun he hd=>?_
 ·
  obtain⟨hs0,hl0,he0,he1⟩:=okp.2.1 p (ζ hx)
  obtain⟨ix,hpt⟩:∃ix:Nat,ids[ix]?=some p.thread:=Γ.1 (hpi.subset (A'.2 ⟨p,ζ hx,rfl⟩))
  have hnu:p.thread∉(ps.take k).map bP.thread:=ly hpn hx
  have hus:(ps.take (k+1)).map bP.thread=(ps.take k).map bP.thread++[p.thread]:=by rw[Ψ,hx,I'];rfl
  have hth:0<=p.thread∧p.thread<=1000000000000000:=by
   have:=ζ hpt
   rw[hids]at this
   obtain⟨t,ht,e⟩:=A'.1 this
   have:=ok.1 t ht
   omega
  obtain⟨th,se,lo,evs⟩:=p
  simp only at hs0 hl0 he0 he1 hth hpt hnu hus
  subst hs0
  subst hl0
  obtain⟨e,r,her⟩:∃e r,evs=e::r:=by
   cases evs with
   |nil=>simp at he0
   |cons e r=>exact⟨e,r,rfl⟩
  subst her
  have hcl:c<=20000:=hc▸B' (Ax ps k) okp.2.2
  have hrl:r.length<=1000:=by simp at he1;omega
  obtain⟨z,hz⟩:∃z,(e::r)[r.length]?=some z:=⟨(e::r)[r.length],by simp⟩
  refine ah<|qs<|ae<|W.block<|ae<|aa<|pu (indexAddr aW Z Z Z Z Z Z (ε _) (bF hx) Z) Z<|aY 1 Z<|bT aW Z Z Z<|be aW Z Z Z Z Z Z Z Z<|ab<|qs<|ae<|ae<|aa<|aY 1 Z<|pu (bm Z Z Z (Ek ⟨th,0,0,e::r⟩ hth Z Z ⟨he0,he1⟩) Z) Z<|pE Z<|ab<|qs<|aZ 2 Z<|ba Z (fun h37=>?_)<|fun h37=>?_
  ·
   have hg:fC ps=iv (e::r) none:=by
    rw[<-hI,hd,fC]
    exact if_pos (by simpa using h37)
   refine aZ 2 Z<|W.ret<|bl<|bw<|bl<|cN<|bw<|bl<|QF.bo trivial Z ?_
   rw[hg];rfl
  have ha0:iv (e::r) none=0:=by simpa using h37
  have ht0:0<=e.time:=B7 (p:=⟨th,0,0,e::r⟩) Z ha0
  refine ah<|qs<|ae<|aa<|aY 3 Z<|FR (kf:=ik) (l:=qF ids ((ps.take k).map bP.thread)) (a:=th) (y:=z2) aW 5 ix Z Z Z Z Z Z Z Z (jr (aW.iR Z Z)) Z Z Z Z Z (by rw[FQ];exact hnd) (Jm hpt hnu) (by rw[Jt hnd hpt,←hus]) Z<|aY 5 Z<|ab<|qs<|ae<|aZ 2 Z<|ba Z (fun h47=>?_)<|fun h47=>?_
  ·
   exfalso;simp at h47
  refine ah<|qs<|ae<|ae<|aa<|aY 2 Z<|bu [5] [] Z Z Z Z Z ((Cy th e r ht0)) Z Z (by rfl) (by rfl) Z Z Z Z<|pE Z<|ab<|qs<|ba Z (fun h51=>?_)<|fun h51=>?_
  ·
   exfalso;simp at h51
  refine ah<|qs<|ae<|aa<|aY 2 Z<|bu [5] [] Z Z Z Z Z ((Cm th e r z hz hrl)) Z Z (by rfl) (by rfl) Z Z Z Z<|ab<|qs<|aa<|aY 4 Z<|pu (b5 (ev aW Z) (y:=((c+(r.length+1):Nat):Int)) (by show IntKind.i64.wrap ((c:Int)+(((e::r).map Ev.c).length:Nat))=_;rw[η,Ξ,wrap64 (by omega)];omega)) Z<|pE Z<|ab<|bW<|qs<|cJ 2 Z<|W.bZ [0,3] ⟨(k+1,c+(r.length+1)),?_⟩ ?_ Z ?_ ⟨rfl,rfl,rfl,rfl,trivial⟩ ?_ trivial Z
  ·exact⟨hlt,by rw[<-hI,hd,fC,if_neg (by simpa using ha0)],by rw[hc,Ψ,hx];simp⟩
  ·dsimp only;omega
  ·repeat' first|exact trivial|refine⟨rfl,?_⟩|refine⟨bH (by assumption) (by assumption),?_⟩
  repeat' constructor
 have hg:fC ps=0:=by rw[<-hI,hd];rfl
 have hcl:c<=20000:=hc▸B' (Ax ps k) okp.2.2
 refine an<|bL<|bM<|bK<|qs<|ae<|aZ 2 Z<|ba Z (fun h62=>?_)<|fun h62=>?_
 ·
  exfalso;simp at h62;omega
 refine ah<|qs<|aZ 1 Z<|W.ret<|QF.bo trivial Z ?_
 rw[hg];rfl
abbrev LD(th:Int):List D:=[ci th,ci 0,ci 0,.v (.slice none 0 0)]
theorem Il(th)(evs:List Ev)(h0:0<evs.length)(h1:evs.length<=1000):bU Tryz.prog 69 [.xs 0 [LD th],.d (.sl (evs.map Ev.c))] [] 1 (.own 0 [bP.c ⟨th,0,0,evs⟩]) [] 1:=by
 refine bU.dk aW (n:=54) (rs:=[.tmp 4]) Tryz.func69 (by kernel_rfl) Z Tryz.ntmps69 Tryz.results69 Z Z fun C hC U=>aZ 1 Z<|ae<|W.block<|W.bY (ι:={x:Nat//match x with|j=>j<=1})
  (fun x=>match x.1 with|j=>[(0,.xs 0 [[ci th,ci 0,ci 0,LH evs j]]),(1,.d (.sl ((HL evs j).map Ev.c)))]) []
  (fun x=>match x.1 with|j=>[]) [] [0] 1 (fun x=>match x.1 with|j=>1-j)
  [0] ⟨0,?_⟩ Z ?_ trivial ?_ trivial Z ?_
 ·exact ς _
 ·repeat' constructor
 ·repeat' exact trivial
 rintro⟨j,hj⟩;show W _ _ _ _ _ ⟨[(0,.xs 0 [[ci th,ci 0,ci 0,LH evs j]]),(1,.d (.sl ((HL evs j).map Ev.c)))],[],[0],1⟩;refine ae<|aZ 3 Z<|ba Z (fun I=>?_)<|fun I=>?_;·
  have M:j=0:=by
   match j,hj with
   |0,_=>rfl
   |1,_=>exfalso;simp[HL]at I
  subst M;refine ah<|qs<|W.block<|ae<|aa<|aY 2 Z<|pu (Ar aW Z Z Z Z) Z<|pu (b5 (ev aW Z) (y:=0) (by rfl)) Z<|pu (gB (l:=LD th) aW Z Z Z Z Z Z (by decide) Z Z) Z<|pE Z<|ab<|qs<|ae<|aa<|pE Z<|pu (CK Z Z) Z<|pu (jx aW Z Z Z Z Z Z) Z<|pu (jT aW Z Z Z) Z<|pE Z<|pu (b5 (ev aW Z) (y:=1000) (by rfl)) Z<|aY 2 Z<|pu (b5 (ev aW Z) (y:=(evs.length:Int)) (by show(if(((evs.map Ev.c).length:Nat):Int)<1000 then(((evs.map Ev.c).length:Nat):Int)else 1000)=_;rw[η];split<;>omega)) Z<|pE Z<|ab<|qs<|ae<|aZ 2 Z<|ba Z (fun J=>?_)<|fun J=>?_;·exfalso;have:=μ J;omega
  refine ah (qs (ae ?_));apply W.fb aW 9 8;(case hB=>kernel_rfl);(case h1=>rfl);(case h2=>rfl);refine' cd ?p1_1 (ev aW Z) Z Z Z Z Z ?h_1;case' h_1=>skip
  refine' cd ?p1_2 (ev aW Z) Z Z Z Z Z ?h_2;case' h_2=>skip
  refine' cd ?p1_3 (CK Z Z) Z Z Z Z Z ?h_3;case' h_3=>skip
  refine' cd ?p1_4 (jx aW Z Z Z Z Z Z) Z Z Z Z Z ?h_4;case' h_4=>skip
  refine' eJ (jT aW Z Z Z) Z Z Z Z Z ?h_5;case' h_5=>skip
  refine' cd ?p1_6 (ev aW Z) Z Z Z Z Z ?h_6;case' h_6=>skip
  refine' cd ?p1_7 (ev aW Z) Z Z Z Z Z ?h_7;case' h_7=>skip
  refine' eJ (qD (fn:=Ev.c) (l:=evs) (i:=0) (j:=(evs.length:Int)) (r:=evs) aW Z Z Z Z Z (fun _=>rfl) Z Z (by decide) (by omega) (by omega) (by rw[show((evs.length:Int)).toNat=evs.length from rfl,List.take_length];rfl)) Z Z Z Z Z ?h_8;case' h_8=>skip
  refine' qu (fun g=>?e_9) Z Z Z ?h_9;case e_9=>refine Dn (es2:=evs.map Ev.c) aW Z Z Z Z Z Z Z Z Z (fun x O=>by obtain⟨y,_,rfl⟩:=A'.1 O;rfl) (by rw[η];show evs.length*72<=140737488355328;omega) ?_;refine ab ?_;exact⟨rfl,rfl⟩
  case' h_9=>skip
  case p1_1=>exact(ev aW Z)
  case p1_2=>exact(ev aW Z)
  case p1_3=>exact(CK Z Z)
  case p1_4=>exact(jx aW Z Z Z Z Z Z)
  case p1_6=>exact(ev aW Z)
  case p1_7=>exact(ev aW Z)
  refine au<|pu (CK Z Z) Z<|pu (jx aW Z Z Z Z Z Z) Z<|qy aW 0 Z Z Z Z Z Z Z Z Z Z Z Z Z<|ab<|qs<|aa<|aY 2 Z<|pu (qD (fn:=Ev.c) (l:=evs) (i:=(evs.length:Int)) (j:=(evs.length:Int)) (r:=[]) aW Z Z Z Z Z (fun _=>rfl) Z Z (by omega) (by omega) (by omega) (by show(evs.take evs.length).drop evs.length=[];rw[List.take_length,List.drop_length])) Z<|pE Z<|ab<|bW<|W.bZ [2] ⟨1,?_⟩ ?_ Z ?_ trivial ?_ trivial Z;·decide
  ·dsimp only;omega
  ·repeat' constructor
  repeat' exact trivial
 have N:j=1:=by
  match j,hj with
  |0,_=>exfalso;have I:=υ I;rw[η]at I;simp only[HL]at I;omega
  |1,_=>rfl
 subst N;refine an<|bL<|bM<|bK<|qs<|aZ 2 Z<|BN 4 Z Z Z Z<|W.ret<|ak aW [1] trivial Z Z Z Z ?_ ?_;·trivial
 rfl
abbrev AE:D->D:=fun d=>d
def kY(l:List bP):List (Int×D):=l.map fun p=>(p.thread,.sl [p.c])
theorem ny(l:List bP):(kY l).map (·.1)=l.map bP.thread:=by unfold kY;rw[List.map_map];rfl
theorem FD{l:List bP}{p:bP}(I:(l.map bP.thread).Nodup)(h:l[k]?=some p):dN (kY (l.take k)) p.thread (.sl [p.c])=kY (l.take (k+1)):=by
 rw[lB];·
  unfold kY;rw[Ψ,h,I'];rfl
 intro q J e;have:=ly I h;rw[<-ny]at this;exact this (A'.2 ⟨q,J,e⟩)
theorem DW{l:List bP}{p:bP}(I:(l.map bP.thread).Nodup)(h:l[k]?=some p):(cC (kY (l.take k)) p.thread).getD (.v (.slice none 0 0))=.v (.slice none 0 0):=by rw[qZ];rfl;intro q J e;have:=ly I h;rw[<-ny]at this;exact this (A'.2 ⟨q,J,e⟩)
theorem Ed(l:List bP)(a):(cC (kY l) a).getD (.v (.slice none 0 0))=match l.find? fun p=>decide (p.thread=a)with|some p=>.sl ([p].map bP.c)|none=>.v (.slice none 0 0):=by
 induction l with
 |nil=>rfl
 |cons p r I=>
  show(cC ((p.thread,D.sl [p.c])::kY r) a).getD _=_;rw[iz,List.find?_cons];by_cases e:p.thread=a;·rw[if_pos e];simp[e]
  rw[if_neg e,I];simp[e]
theorem D2(ts)(ps:List bP)(okp:qx ts ps):bp Tryz.prog 22 [.ag (jf ts),.d (.sl (ps.map bP.c))] (.tup [.ag (ez ts ps).1.c,.d (ci (ez ts ps).2)]) 0:=by
 refine bp.dk aW (n:=84) (rs:=[.cell 4 30,.tmp 5]) Tryz.func22 (by kernel_rfl) Z Tryz.ntmps22 Tryz.results22 Z fun C hC hG=>ae<|aa<|cG Z Z Z<|bT aW Z Z Z<|pE Z<|ab<|qs<|ae<|ae<|aa<|aY 1 Z<|pu (bm Z Z Z ((Hz _)) Z) Z<|pE Z<|ab<|qs<|aZ 2 Z<|ba Z (fun h18=>?_)<|fun h18=>?_
 ·
  have hg:ez ts ps=(gm,eC ts):=by unfold ez;rw[if_pos (by simpa using h18)]
  refine ae<|aa<|pu (build aW Z Z Z Z) Z<|gx 19 Z Z Z<|pE Z<|be aW Z Z Z Z Z Z Z Z<|pE Z<|ab<|qs<|W.ret<|bl<|QV.bo aW trivial Z ?_
  rw[hg];rfl
 have h0:eC ts=0:=by simpa using h18
 obtain⟨ok,_,h64⟩:=qU h0
 have hn:(ps.map bP.thread).Nodup:=ok.2.sublist okp.1
 refine ah<|qs<|ae<|ae<|aa<|aY 2 Z<|pu (bm Z Z Z ((DT _ _ (by assumption) (by assumption))) Z) Z<|pE Z<|ab<|qs<|aZ 2 Z<|ba Z (fun h25=>?_)<|fun h25=>?_
 ·
  have hg:ez ts ps=(gm,fC ps):=by unfold ez;rw[if_neg (by simp[h0]),if_pos (by simpa using h25)]
  refine ae<|aa<|pu (build aW Z Z Z Z) Z<|gx 26 Z Z Z<|pE Z<|be aW Z Z Z Z Z Z Z Z<|pE Z<|ab<|qs<|W.ret<|bl<|QV.bo aW trivial Z ?_
  rw[hg];rfl
 have hg:ez ts ps=(⟨ts,dV,ps⟩,0):=by unfold ez;rw[if_neg (by simp[h0]),if_neg (by simpa using h25)]
 refine ah<|qs<|ae<|aa<|mkMap Z<|pE Z<|ab<|qs<|ae<|aZ 3 Z<|W.block<|W.len (t:=29) Z Z<|fun hlen=>?_
 try simp only[η,Ex.bE]at hlen
 refine W.bY (ι:={x:Nat//match x with|k=>k<=ps.length})
  (fun x=>match x.1 with|k=>[(2,.ptr 0 0),(4,.ptr 1 0),(8,.mp 2 (gy ik AE (kY (ps.take k)))),(31,.d (.v (.int .i64 ((k:Nat):Int))))]) [(29,_),(30,_)]
  (fun x=>match x.1 with|k=>[(0,(jf ts).map A.d),(1,[.d (.v (.slice none 0 0)),.d (.v (.slice none 0 0)),.d (.v (.slice none 0 0)),.d (.v (.slice none 0 0))])]) [] [2] 3 (fun x=>match x.1 with|k=>ps.length-k)
  [0,1,2] ⟨0,?_⟩ rfl ?_ ⟨rfl,rfl,rfl,rfl,trivial⟩ ?_ trivial rfl ?_
 ·exact ς _
 ·repeat' constructor
 ·repeat' constructor
 rintro⟨k,hk⟩
 show W _ _ _ _ _ ⟨[(2,.ptr 0 0),(4,.ptr 1 0),(8,.mp 2 (gy ik AE (kY (ps.take k)))),(31,.d (.v (.int .i64 ((k:Nat):Int)))),(29,_),(30,_)],[(0,(jf ts).map A.d),(1,[.d (.v (.slice none 0 0)),.d (.v (.slice none 0 0)),.d (.v (.slice none 0 0)),.d (.v (.slice none 0 0))])],[2],3⟩
 refine aZ 1 Z<|ae<|ct (l:=ps) (k:=k) Z (by simp[Ex.bE,bh]) hk (fun p hx hd hlt=>?_)<|fun he hd=>?_
 ·
  obtain⟨hs0,hl0,he0,he1⟩:=okp.2.1 p (ζ hx)
  have hget:=DW hn hx
  have hput:=FD hn hx
  obtain⟨th,se,lo,evs⟩:=p
  simp only at hs0 hl0 he0 he1
  subst hs0
  subst hl0
  refine ah<|qs<|ae<|W.block<|ae<|aa<|pu (indexAddr aW Z Z Z Z Z Z (ε _) (bF hx) Z) Z<|aY 1 Z<|bT aW Z Z Z<|be aW Z Z Z Z Z Z Z Z<|ab<|qs<|ae<|aa<|aY 3 Z<|pu (oV (kf:=ik) (vf:=AE) (l:=kY (ps.take k)) (a:=th) (z:=.v (.slice none 0 0)) (r:=.v (.slice none 0 0)) aW Z Z Z Z Z (jr (aW.iR Z Z)) Z Z Z (fun _ _=>.v _ Z) (by rw[ny];exact vD hn k) (by rw[hget])) Z<|pE Z<|ab<|qs<|ae<|ae<|?_
  apply bC;(case hb=>rfl)
  ·
   refine aY 4 Z ?_
   apply eU;(case hj=>rfl);(case hl=>rfl)
   ·
    intro g42
    refine bA Z Z Z Z<|bA Z Z Z Z<|bA Z Z Z Z<|pE Z<|ab<|b4 Z Z Z
   intro g42
   refine bz Z Z<|pE Z<|bz Z Z<|pE Z<|bz Z Z<|aY 2 Z<|ab<|b4 Z Z Z
  refine qs (ba Z (fun h46=>?_) (fun h46=>?_))
  ·
   refine W.yJ (d:=11) Z Z<|aa<|aY 7 Z<|pu (build aW Z Z Z Z) Z<|pu (bR aW Z Z Z Z Z Z Z Z Z) Z<|mr aW Z Z Z Z Z Z Z Z Z Z Z (fun x hx=>by obtain rfl:=List.mem_singleton.1 hx;rfl) (by show 1*48<=140737488355328;decide) Z<|pE Z<|ab<|qs ?_
   apply W.fb aW 7 6;(case hB=>kernel_rfl);(case h1=>rfl);(case h2=>rfl)
   refine' cd ?p1_1 (ev aW Z) Z Z Z Z Z ?h_1
   case' h_1=>skip
   refine' cd ?p1_2 (ev aW Z) Z Z Z Z Z ?h_2
   case' h_2=>skip
   refine' cd ?p1_3 (ev aW Z) Z Z Z Z Z ?h_3
   case' h_3=>skip
   refine' eJ (ev aW Z) Z Z Z Z Z ?h_4
   case' h_4=>skip
   refine' cd ?p1_5 (ev aW Z) Z Z Z Z Z ?h_5
   case' h_5=>skip
   refine' eJ (ev aW Z) Z Z Z Z Z ?h_6
   case' h_6=>skip
   refine' qu (fun g=>?e_7) Z Z Z ?h_7
   case e_7=>
    refine bu [] [5] Z Z Z Z Z ((Il th evs he0 he1)) Z Z (by rfl) (by rfl) Z Z Z Z<|ab ?_
    exact⟨rfl,rfl⟩
   case' h_7=>skip
   case p1_1=>exact(ev aW rfl)
   case p1_2=>exact(ev aW rfl)
   case p1_3=>exact(ev aW rfl)
   case p1_5=>exact(ev aW rfl)
   refine au ?_
   first|refine wb (kf:=ik) (vf:=AE) (l:=kY (ps.take k)) (a:=th) (y:=.sl [bP.c ⟨th,0,0,evs⟩]) aW 8 rfl rfl rfl rfl rfl rfl rfl (jr (aW.iR rfl rfl)) rfl rfl (by rw[ny];exact vD hn k) (by rw[hput]) rfl ?_
   refine ab<|bW<|qs<|cJ 2 Z<|W.bZ [0,1,7] ⟨k+1,?_⟩ ?_ Z ?_ ⟨rfl,rfl,rfl,rfl,trivial⟩ ?_ trivial Z
   ·exact hlt
   ·dsimp only;omega
   ·repeat' first|exact trivial|refine⟨rfl,?_⟩|refine⟨bH (by assumption) (by assumption),?_⟩
   repeat' constructor
  exfalso;simp at h46
 have hpl:ps.take k=ps:=List.take_of_length_le (by omega)
 rw[hpl]
 have htm:ts.length<=maxLen:=by simp only[maxLen];omega
 refine an<|bL<|bM<|bK<|qs<|ae<|aa<|aY 1 Z<|pu (build aW Z Z Z Z) Z<|bT aW Z Z Z<|be aW Z Z Z Z Z Z Z Z<|ab<|qs<|ae<|ae<|ey 3 3 Z Z Z<|cJ 4 Z<|qs<|W.block<|W.bY (ι:={x:Nat×List bP//match x with|(k,m)=>k<=ts.length∧m=mD (ts.take k) ps})
  (fun x=>match x.1 with|(k,m)=>[(4,.ptr 0 0),(8,.mp 2 (gy ik AE (kY ps))),(12,.ptr 1 0),(70,.d (.v (.int .i64 ((k:Nat):Int))))]) [(68,_),(69,_)]
  (fun x=>match x.1 with|(k,m)=>[(0,[.d (.v (.slice none 0 0)),.d (.v (.slice none 0 0)),.d (.v (.slice none 0 0)),.d (.v (.slice none 0 0))]),(1,[.d (.sl (ts.map ca.c)),.d (.sl (dV.map dv)),.d (.sl []),.own 3 (m.map bP.c)])]) [] [2,3] 4 (fun x=>match x.1 with|(k,m)=>ts.length-k)
  [1,3,2,4] ⟨(0,[]),?_⟩ rfl ?_ ⟨rfl,rfl,rfl,rfl,trivial⟩ ?_ trivial rfl ?_
 ·exact⟨ς _,rfl⟩
 ·repeat' constructor
 ·repeat' constructor
 rintro⟨⟨k,m⟩,hk,hM⟩
 show W _ _ _ _ _ ⟨[(4,.ptr 0 0),(8,.mp 2 (gy ik AE (kY ps))),(12,.ptr 1 0),(70,.d (.v (.int .i64 ((k:Nat):Int)))),(68,_),(69,_)],[(0,[.d (.v (.slice none 0 0)),.d (.v (.slice none 0 0)),.d (.v (.slice none 0 0)),.d (.v (.slice none 0 0))]),(1,[.d (.sl (ts.map ca.c)),.d (.sl (dV.map dv)),.d (.sl []),.own 3 (m.map bP.c)])],[2,3],4⟩
 refine aZ 1 Z<|ae<|ct (l:=ts) (k:=k) Z (by simp[Ex.bE,bh]) hk (fun t hx hd hlt=>?_)<|fun he hd=>?_
 ·
  obtain⟨ql,hql⟩:∃ql,ql=(ps.find? fun p=>decide (p.thread=t.id)).toList:=⟨_,rfl⟩
  have hmn:m++ql=mD (ts.take (k+1)) ps:=by rw[hM,hql];unfold mD;rw[Ψ,hx,List.flatMap_append];simp
  have hml:m.length<=64:=by rw[hM];exact zb ps (by simp;omega)
  have hq1:ql.length<=1:=by rw[hql];cases ps.find? _<;>simp
  have hget:(cC (kY ps) t.id).getD (.v (.slice none 0 0))=if ql=[]then .v (.slice none 0 0)else .sl (ql.map bP.c):=by rw[Ed,hql];cases ps.find? _<;>simp
  refine ah<|qs<|ae<|W.block<|ae<|aa<|pu (indexAddr aW Z Z Z Z Z Z (ε _) (bF hx) Z) Z<|aY 1 Z<|bT aW Z Z Z<|be aW Z Z Z Z Z Z Z Z<|ab<|qs<|aa<|aY 5 Z<|pu (oV (kf:=ik) (vf:=AE) (l:=kY ps) (a:=t.id) (z:=.v (.slice none 0 0)) (r:=if ql=[]then .v (.slice none 0 0)else .sl (ql.map bP.c)) aW Z Z Z Z Z (jr (aW.iR Z Z)) Z Z Z (fun _ _=>.v _ Z) (by rw[ny];exact hn) (by rw[hget])) Z<|zn (l2:=ql) (fn:=bP.c) aW Z Z (by by_cases q:ql=[]<;>simp[q,iU]) Z Z Z Z Z Z Z (fun _=>rfl) (by show(m.length+ql.length)*48<=_;omega)<|pE Z<|be aW Z Z Z Z Z Z Z Z<|ab<|bW<|qs<|cJ 2 Z ?_
  refine W.bZ [0,1,2,5] ⟨(k+1,m++ql),?_⟩ ?_ Z ?_ ⟨rfl,rfl,rfl,rfl,trivial⟩ ?_ trivial Z
  ·exact⟨hlt,hmn⟩
  ·dsimp only;omega
  ·repeat' first|exact trivial|refine⟨rfl,?_⟩|refine⟨bH (by assumption) (by assumption),?_⟩
  repeat' constructor
 have hpm:m=ps:=by rw[hM,List.take_of_length_le (by omega),oL okp.1 ok.2]
 subst hpm
 refine an<|bL<|bM<|bK<|qs<|ae<|aa<|aY 1 Z<|be aW Z Z Z Z Z Z Z Z<|pE Z<|ab<|qs<|W.ret<|QV.bo aW trivial Z ?_
 rw[hg];rfl
end Go.Proofs.YtpiaiiopakafhaaGreatDoor
