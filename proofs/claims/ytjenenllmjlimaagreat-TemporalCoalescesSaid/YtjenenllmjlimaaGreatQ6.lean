import Derived.Test.YtjenenllmjlimaaGreatQ5
namespace Go.Proofs.YtjenenllmjlimaaGreat
open Go.Ab Go.Tb
set_option maxRecDepth 10000
attribute [local irreducible] W WO Pu QS QB QL QF QV b7 CH QE
theorem zp (m:Nat):List.replicate m (([.int .i64 0,.int .i64 0,.string (B #[])]:List Value).map D.v)=(List.replicate m gh).map aH.c:=by
 rw[List.map_replicate]
 rfl
theorem vT (a b:bo) (on:List ByteArray) (hon:on.length≤400):ax Tryz.prog 11 [.ag a.c,.ag b.c,.d (.sl (on.map sc))]
  (.tup [.ag (hZ a b on).1.c,.d (.v (.int .i64 (hZ a b on).2))]) 0:=by
 have hcol:=kb 8 on [a,b] (by simp) hon
 rw[qh] at hcol
 obtain⟨CT0,hCT⟩:∃ c,eL 8 on a b=c:=⟨_,rfl⟩
 rw[hCT] at hcol
 refine ax.fg aa (n:=143) (rs:=[.cell 6 25,.tmp 7]) Tryz.func11 (by kernel_rfl) rfl Tryz.ntmps11 Tryz.results11 rfl fun C hC hG=>?_
 refine W.seq (W.region (br rfl rfl rfl (br rfl rfl rfl (a8 aa rfl rfl rfl (pE rfl (WO.nil (qs (W.seq (W.region (pE rfl (pE rfl (pE rfl (pu (aI aa rfl rfl rfl rfl rfl rfl rfl rfl rfl) rfl ?_)))))))))))))
 refine pu (ak rfl rfl rfl hcol rfl) rfl ?_
 iterate 5 refine pE rfl ?_
 refine WO.nil (qs ?_)
 iterate 2 refine W.seq ?_
 refine W.region ?_
 iterate 2 refine pE rfl ?_
 refine WO.nil (qs (ao rfl (fun h33=>?_) (fun h33=>?_)))
 ·
  have he:CT0.2≠0:=by simpa using h33
  have hg:hZ a b on=(fL,CT0.2):=by unfold hZ;rw[hCT,if_pos he]
  refine W.seq (W.region (pu (build aa rfl rfl rfl rfl) rfl ?_))
  refine pE rfl (aR aa rfl rfl rfl rfl rfl rfl rfl rfl (pE rfl (WO.nil (qs ?_))))
  try refine cD 2 0 rfl rfl rfl ?_
  try refine cD 2 1 rfl rfl rfl ?_
  refine W.ret (ah (QV.aq aa trivial rfl ?_))
  (rw[hg];rfl)
 have he:CT0.2=0:=by simpa using h33
 have hok:=yK (.inr rfl) (by rw[hCT];exact he)
 have hoo:=A8 hok
 have haz:=eh hok.ga
 have hbz:=eh hok.gb
 have hol:=hok.len
 have hra:=gW hok.ga
 have hrb:=gW hok.gb
 obtain⟨o,ho⟩:∃ o,zT a b on=o:=⟨_,rfl⟩
 have hgo:hZ a b on=(⟨CT0.1,a.rows.map (kA o b.rows)⟩,0):=by unfold hZ;rw[hCT,if_neg (by simp[he]),ho]
 have e8:aM 8=[aP]:=rfl
 rw[e8] at hok
 have hpl:ax Tryz.prog 21 [.ag a.c,.d (.sl (on.map sc))] (.d (.sl (o.left.map nc))) 0:=by
  have:=eU a on (by omega)
  rw[gC (fun s hs=>by obtain⟨i,j,c,d,h1,_⟩:=hok.ons s hs;exact⟨i,h1⟩)] at this
  rw[←ho];exact this
 have hpr:ax Tryz.prog 21 [.ag b.c,.d (.sl (on.map sc))] (.d (.sl (o.right.map nc))) 0:=by
  have:=eU b on (by omega)
  rw[gC (fun s hs=>by obtain⟨i,j,c,d,_,h1,_⟩:=hok.ons s hs;exact⟨j,h1⟩)] at this
  rw[←ho];exact this
 have hcm:ax Tryz.prog 34 [.ag a.c,.d (.v (.string aP))] (.d (.v (.int .i64 (o.m:Int)))) 0:=by
  have h0:=rB a aP
  obtain⟨i,c,h1,_⟩:=hok.spa aP (by simp)
  have h2:(a.cols.findIdx? fun x=>decide (x.name=aP))=some i:=h1
  rw[h2] at h0
  have h3:o.m=i:=by rw[←ho];exact cm h1
  rw[h3];exact h0
 have hct:ax Tryz.prog 34 [.ag b.c,.d (.v (.string aP))] (.d (.v (.int .i64 (o.t:Int)))) 0:=by
  have h0:=rB b aP
  obtain⟨i,c,h1,_⟩:=hok.spb aP (by simp)
  have h2:(b.cols.findIdx? fun x=>decide (x.name=aP))=some i:=h1
  rw[h2] at h0
  have h3:o.t=i:=by rw[←ho];exact cm h1
  rw[h3];exact h0
 have hre:ax Tryz.prog 22 [.ag b.c,.d (.sl ((on++[aP]).map sc))] (.d (.sl (o.more.map nc))) 0:=by
  have:=vb b (on++[aP]) (by omega)
  rw[←ho];exact this
 rw[ho] at hoo
 have hll:o.left.length≤16:=by rw[←ho];show(on.map _).length≤_;rw[List.length_map];exact hol
 have hrl:o.right.length≤16:=by rw[←ho];show(on.map _).length≤_;rw[List.length_map];exact hol
 have hml:o.more.length≤32:=by rw[←ho];have:=lY (on++[aP]) b.cols 0;show(eF _ _ _).length≤_;omega
 have hmm:(o.more.map nc).length=o.more.length:=List.length_map _
 refine W.skip (qs (W.seq (W.be aa (by kernel_rfl) ?_)))
 refine an (ev aa rfl) rfl ?_
 refine an (ev aa rfl) rfl ?_
 refine an (ak rfl rfl rfl hpl rfl) rfl ?_
 refine an (ev aa rfl) rfl ?_
 refine an (ev aa rfl) rfl ?_
 refine an (ak rfl rfl rfl hpr rfl) rfl ?_
 iterate 2 refine an (ev aa rfl) rfl ?_
 refine CH.nil ?_
 refine qs (W.seq (W.be aa (by kernel_rfl) ?_))
 refine an (ev aa rfl) rfl ?_
 refine an (ak rfl rfl rfl hcm rfl) rfl ?_
 refine an (ev aa rfl) rfl ?_
 refine an (ak rfl rfl rfl hct rfl) rfl ?_
 iterate 2 refine an (ev aa rfl) rfl ?_
 refine CH.nil ?_
 refine qs (W.seq ?_)
 refine' W.eD aa [_,_] [[3],[4]] [4,5] [2,4] 5 (by kernel_rfl) (by kernel_rfl) rfl rfl ?hL_1
 case' hL_1=>skip
 refine' aJ (ev aa rfl) ?p_2 rfl rfl rfl (by kernel_rfl) rfl ?h_2
 case' h_2=>skip
 refine' aJ (ev aa rfl) ?p_3 rfl rfl rfl (by kernel_rfl) rfl ?h_3
 case' h_3=>skip
 refine' kC ?x_4 rfl rfl rfl (by kernel_rfl) (fun h=>(ae h (by kernel_rfl)).elim) rfl ?h_4
 case x_4=>
  intro b hb g;cases b
  · exact(ae hb (by kernel_rfl)).elim
  refine fC rfl rfl rfl (rS on (by omega)) (by rfl) rfl rfl ?_
  refine WO.nil ?_
  refine' iD rfl ?_ ?_ ?_ ?_
  all_goals try exact rfl
 case' h_4=>skip
 refine' aJ (aI aa rfl rfl rfl rfl rfl rfl rfl rfl rfl) ?p_5 rfl rfl rfl (by kernel_rfl) rfl ?h_5
 case' h_5=>skip
 refine' kC ?x_6 rfl rfl rfl (by kernel_rfl) (fun h=>(ae h (by kernel_rfl)).elim) rfl ?h_6
 case x_6=>
  intro b hb g;cases b
  · exact(ae hb (by kernel_rfl)).elim
  refine bJ (fn:=sc) (l:=on) (a:=aP) aa rfl rfl rfl rfl rfl rfl rfl rfl rfl rfl (fun _=>rfl) (by show(on.length+1)*16≤_;omega) ?_
  refine WO.nil ?_
  refine' iD rfl ?_ ?_ ?_ ?_
  all_goals try exact rfl
 case' h_6=>skip
 case p_2=>refine⟨fun ha=>(ae ha (by kernel_rfl)).elim,?_,fun ha=>(ae ha (by kernel_rfl)).elim,?_,fun ha=>(ae ha (by kernel_rfl)).elim,?_⟩ <;> intro ha <;> first | exact⟨ev aa rfl,fun h=>nomatch h⟩ | exact⟨bM aa rfl rfl rfl rfl,fun h=>nomatch h⟩ | exact⟨bL aa rfl rfl rfl rfl rfl,fun h=>nomatch h⟩ | exact(ae ha (by kernel_rfl)).elim
 case p_3=>refine⟨fun ha=>(ae ha (by kernel_rfl)).elim,?_,fun ha=>(ae ha (by kernel_rfl)).elim,?_,fun ha=>(ae ha (by kernel_rfl)).elim,?_⟩ <;> intro ha <;> first | exact⟨ev aa rfl,fun h=>nomatch h⟩ | exact(ae ha (by kernel_rfl)).elim
 case p_5=>refine⟨fun ha=>(ae ha (by kernel_rfl)).elim,?_,fun ha=>(ae ha (by kernel_rfl)).elim,?_,fun ha=>(ae ha (by kernel_rfl)).elim,?_⟩ <;> intro ha <;> first | exact⟨aI aa rfl rfl rfl rfl rfl rfl rfl rfl rfl,fun h=>nomatch h⟩ | exact(ae ha (by kernel_rfl)).elim
 refine CD.nil ?_ rfl
 refine pu (ak rfl rfl rfl hre rfl) rfl ?_
 refine pE rfl (WO.nil (qs (W.seq (W.region (pE rfl (pu (build aa rfl rfl rfl rfl) rfl ?_))))))
 refine a8 aa rfl rfl rfl (aR aa rfl rfl rfl rfl rfl rfl rfl rfl (WO.nil (qs ?_)))
 iterate 2 refine W.seq ?_
 refine W.region (pE rfl (pE rfl ?_))
 iterate 2 refine pE rfl ?_
 refine WO.nil (qs (W.block (fv 5 1 rfl rfl rfl ?_)))
 refine W.len (t:=55) rfl rfl (fun hlen=>?_)
 try simp only[List.length_map,Ex.aF] at hlen
 refine W.aS (ι:={x:Nat×List (List aH) // match x with | (i,out)=>i≤a.rows.length∧out=(a.rows.take i).map (kA o b.rows)})
  (fun x=>match x.1 with | (i,out)=>[(4,.ptr 0 0),(6,.ptr 1 0),(15,.ptr 2 0),(57,.d (.v (.int .i64 ((i:Nat):Int))))]) [(10,_),(11,_),(12,_),(13,_),(14,_),(55,_),(56,_)]
  (fun x=>match x.1 with | (i,out)=>[(0,b.c.map A.d),(1,[.d (.v (.slice none 0 0)),.d (.v (.slice none 0 0))]),(2,[.d (.sl (CT0.1.map Col.c)),.own 3 (out.map rc)])]) [] [3] 4 (fun x=>match x.1 with | (i,out)=>a.rows.length - i)
  [1,2,5,6] ⟨(0,[]),?_⟩ rfl ?_ ⟨rfl,rfl,rfl,rfl,rfl,rfl,rfl,rfl,rfl,rfl,rfl,rfl,rfl,rfl,trivial⟩ ?_ trivial rfl ?_
 · exact⟨Nat.zero_le _,rfl⟩
 · repeat' first | exact trivial | refine⟨rfl,?_⟩
 · repeat' first | exact trivial | refine⟨rfl,?_⟩
 rintro⟨⟨i,out⟩,hk,hI⟩
 show W _ _ _ _ _ ⟨[(4,.ptr 0 0),(6,.ptr 1 0),(15,.ptr 2 0),(57,.d (.v (.int .i64 ((i:Nat):Int)))),(10,_),(11,_),(12,_),(13,_),(14,_),(55,_),(56,_)],[(0,b.c.map A.d),(1,[.d (.v (.slice none 0 0)),.d (.v (.slice none 0 0))]),(2,[.d (.sl (CT0.1.map Col.c)),.own 3 (out.map rc)])],[3],4⟩
 refine W.seq (W.region (pE rfl (WO.nil (qs (W.seq (a9 (l:=a.rows) (k:=i) rfl (by simp[Ex.aF,aL]) hk (fun z hx hd hlt=>?_) (fun he hd=>?_)))))))
 ·
  have hzx:=hx
  have hzlt:=hlt
  have hxm:=List.mem_of_getElem? hx
  have hxl:=(hra z hxm).1
  have hpx:=jm z o.left (by omega) (fun q hq=>by rw[hxl];exact hoo.left q hq)
  have hoi:out.length≤20000:=by rw[hI,List.length_map,List.length_take];omega
  have hzm:(z.map aH.c)[((o.m:Nat):Int).toNat]? = some (bh z o.m).c:=aE (iq (by rw[hxl];exact hoo.mm))
  refine W.skip (qs (W.seq (W.block (W.seq (W.region (pu (indexAddr aa rfl rfl rfl rfl rfl rfl (Int.natCast_nonneg _) (aE hx) rfl) rfl ?_))))))
  refine pE rfl (pE rfl (WO.nil (qs (W.seq (W.region (pE rfl (WO.nil (qs ?_))))))))
  iterate 2 refine W.seq ?_
  refine W.region (pE rfl (pE rfl ?_))
  iterate 2 refine pE rfl ?_
  refine WO.nil (qs (W.block (W.len (t:=62) rfl rfl (fun hlen=>?_))))
  try simp only[List.length_map,Ex.aF] at hlen
  refine W.aS (ι:={x:Nat×Option Nat // match x with | (j,best)=>j≤b.rows.length∧(∀ i,best=some i→i < b.rows.length)∧lH o b.rows z (b.rows.drop j) j best=lH o b.rows z b.rows 0 none})
   (fun x=>match x.1 with | (j,best)=>[(4,.ptr 0 0),(6,.ptr 1 0),(15,.ptr 2 0),(18,.d (.v (.int .i64 (idx best)))),(64,.d (.v (.int .i64 ((j:Nat):Int))))]) [(10,_),(11,_),(12,_),(13,_),(14,_),(17,_),(55,_),(56,_),(57,_),(62,_),(63,_)]
   (fun x=>match x.1 with | (j,best)=>[(0,b.c.map A.d),(1,[.d (.v (.slice none 0 0)),.d (.v (.slice none 0 0))]),(2,[.d (.sl (CT0.1.map Col.c)),.own 3 (out.map rc)])]) [] [3] 4 (fun x=>match x.1 with | (j,best)=>b.rows.length - j)
   [0,1,2,3] ⟨(0,none),?_⟩ rfl ?_ ⟨rfl,rfl,rfl,rfl,rfl,rfl,rfl,rfl,rfl,rfl,rfl,rfl,rfl,rfl,rfl,rfl,rfl,rfl,rfl,rfl,rfl,rfl,trivial⟩ ?_ trivial rfl ?_
  · exact⟨Nat.zero_le _,(fun i h=>by cases h),rfl⟩
  · repeat' first | exact trivial | refine⟨rfl,?_⟩
  · repeat' first | exact trivial | refine⟨rfl,?_⟩
  rintro⟨⟨j,best⟩,hk,hbl,hJ⟩
  show W _ _ _ _ _ ⟨[(4,.ptr 0 0),(6,.ptr 1 0),(15,.ptr 2 0),(18,.d (.v (.int .i64 (idx best)))),(64,.d (.v (.int .i64 ((j:Nat):Int)))),(10,_),(11,_),(12,_),(13,_),(14,_),(17,_),(55,_),(56,_),(57,_),(62,_),(63,_)],[(0,b.c.map A.d),(1,[.d (.v (.slice none 0 0)),.d (.v (.slice none 0 0))]),(2,[.d (.sl (CT0.1.map Col.c)),.own 3 (out.map rc)])],[3],4⟩
  refine W.seq (W.region (pE rfl (WO.nil (qs (W.seq (a9 (l:=b.rows) (k:=j) rfl (by simp[Ex.aF,aL]) hk (fun y hx hd hlt=>?_) (fun he hd=>?_)))))))
  ·
   rw[hd] at hJ
   simp only[lH] at hJ
   have hym:=List.mem_of_getElem? hx
   have hyl:=(hrb y hym).1
   have hpy:=jm y o.right (by omega) (fun q hq=>by rw[hyl];exact hoo.right q hq)
   have hyt:(y.map aH.c)[((o.t:Nat):Int).toNat]? = some (bh y o.t).c:=aE (iq (by rw[hyl];exact hoo.tt))
   have hbn:∀ h:decide (idx best < 0)=false,0≤idx best∧(b.rows.map rc)[(idx best).toNat]? = some (rc (ij b.rows (idx best).toNat))∧((ij b.rows (idx best).toNat).map aH.c)[((o.t:Nat):Int).toNat]? = some (bh (ij b.rows (idx best).toNat) o.t).c:=by
    intro h
    have h0:=of_decide_eq_false h
    cases best with
    | none=>exact absurd (by decide) h0
    | some i=>
     have hi:=hbl i rfl
     have hr:=th hi
     refine⟨Int.natCast_nonneg _,aE hr,aE (iq ?_)⟩
     show(o.t:Int).toNat < (ij b.rows i).length
     rw[(hrb _ (List.mem_of_getElem? hr)).1]
     exact hoo.tt
   refine W.skip (qs (W.seq (W.block (W.seq (W.region (pE rfl (pu (indexAddr aa rfl rfl rfl rfl rfl rfl (Int.natCast_nonneg _) (aE hx) rfl) rfl ?_)))))))
   refine pE rfl ?_
   iterate 2 refine pE rfl ?_
   refine WO.nil (qs (W.seq (W.jV aa 11 2 (by kernel_rfl) rfl rfl ?_)))
   refine bE rfl (ev aa rfl) rfl ?_
   refine bE rfl (ev aa rfl) rfl ?_
   refine bE rfl (indexAddr aa rfl rfl rfl rfl rfl rfl (Int.natCast_nonneg _) hzm rfl) rfl ?_
   refine bE rfl (ev aa rfl) rfl ?_
   refine bE rfl (ev aa rfl) rfl ?_
   refine bE rfl (ev aa rfl) rfl ?_
   refine bE rfl (indexAddr aa rfl rfl rfl rfl rfl rfl (Int.natCast_nonneg _) hyt rfl) rfl ?_
   refine bE rfl (ev aa rfl) rfl ?_
   refine gE 0 rfl rfl rfl rfl rfl rfl ?_
   refine gE 1 rfl rfl rfl rfl rfl rfl ?_
   refine oV 8 0 rfl rfl rfl rfl rfl rfl rfl rfl rfl rfl rfl rfl ?_
   refine CE.nil ?_
   refine aR aa rfl rfl rfl rfl rfl rfl rfl rfl (WO.nil (qs ?_))
   iterate 2 refine W.seq ?_
   apply aC;(case hb=>rfl)
   ·
    refine pE rfl (pE rfl ?_)
    iterate 2 refine pE rfl ?_
    apply eI;(case hj=>rfl);(case hl=>rfl)
    ·
     intro g80
     iterate 3 refine ar rfl rfl rfl rfl ?_
     iterate 2 refine pE rfl ?_
     iterate 5 refine ar rfl rfl rfl rfl ?_
     iterate 2 refine pE rfl ?_
     iterate 8 refine ar rfl rfl rfl rfl ?_
     refine pE rfl (WO.nil (ay rfl rfl rfl))
    intro g80
    refine ab rfl rfl (pE rfl (ab rfl rfl (pE rfl (ab rfl rfl ?_))))
    iterate 3 refine pE rfl ?_
    apply eI;(case hj=>rfl);(case hl=>rfl)
    ·
     intro g85
     iterate 5 refine ar rfl rfl rfl rfl ?_
     iterate 2 refine pE rfl ?_
     iterate 8 refine ar rfl rfl rfl rfl ?_
     refine pE rfl (WO.nil (ay rfl rfl rfl))
    intro g85
    refine ab rfl rfl (pE rfl (ab rfl rfl (pE rfl (ab rfl rfl (pE rfl (ab rfl rfl (pE rfl (ab rfl rfl ?_))))))))
    iterate 3 refine pE rfl ?_
    apply eI;(case hj=>rfl);(case hl=>rfl)
    ·
     intro g92
     iterate 8 refine ar rfl rfl rfl rfl ?_
     refine pE rfl (WO.nil (ay rfl rfl rfl))
    intro g92
    refine ab rfl rfl (pE rfl (ab rfl rfl (pE rfl (ab rfl rfl (pu (ak rfl rfl rfl hpx rfl) rfl ?_)))))
    refine ab rfl rfl (pE rfl (ab rfl rfl (pE rfl (ab rfl rfl (pu (ak rfl rfl rfl hpy rfl) rfl ?_)))))
    refine ab rfl rfl (pu (ak rfl rfl rfl (tH (bF z o.left) (bF y o.right)) rfl) rfl ?_)
    refine ab rfl rfl ?_
    iterate 2 refine pE rfl ?_
    refine WO.nil (ay rfl rfl rfl)
   refine qs (ao rfl (fun h101=>?_) (fun h101=>?_))
   ·
    have hsk:mJ o z y=true:=by
     revert h101
     unfold mJ
     cases decide ((bh z o.m).kind=0) <;> cases decide ((bh y o.t).kind=0) <;> cases decide ((bh z o.m).n < (bh y o.t).n) <;> cases kq (bF z o.left) (bF y o.right) <;> simp
    rw[if_pos hsk] at hJ
    have hbr:mJ o z y=true∨False:=.inl hsk
    refine W.exit (aN (aO (qs (W.region ?_))))
    iterate 2 refine pE rfl ?_
    refine WO.nil ?_
    try have hbr:=hup
    refine W.aU [0,1,2,3] ⟨(j+1,best),?_⟩ ?_ rfl ?_ ⟨rfl,rfl,rfl,rfl,rfl,rfl,rfl,rfl,rfl,rfl,rfl,rfl,rfl,rfl,rfl,rfl,rfl,rfl,rfl,rfl,rfl,rfl,trivial⟩ ?_ trivial rfl
    · exact⟨hlt,(by first | exact hbl | (intro i h;cases h;exact hlt)),hJ⟩
    · dsimp only;omega
    · repeat' first | exact trivial | refine⟨rfl,?_⟩ | refine⟨aD (by assumption) (by assumption),?_⟩
    repeat' first | exact trivial | refine⟨rfl,?_⟩
   have hsk:mJ o z y=false:=by
    revert h101
    unfold mJ
    cases decide ((bh z o.m).kind=0) <;> cases decide ((bh y o.t).kind=0) <;> cases decide ((bh z o.m).n < (bh y o.t).n) <;> cases kq (bF z o.left) (bF y o.right) <;> simp
   rw[if_neg (by simp[hsk])] at hJ
   refine W.skip (qs (W.seq ?_))
   apply iV aa;(case hb=>rfl);(case hB=>kernel_rfl)
   ·
    iterate 3 refine an (ev aa rfl) rfl ?_
    apply gd;(case hj=>rfl);(case hl=>rfl)
    ·
     intro g104
     iterate 12 refine bU rfl rfl rfl rfl ?_
     refine an (ev aa rfl) rfl ?_
     refine CH.nil ?_
     refine ay rfl rfl rfl
    intro g104
    refine aB rfl rfl (ev aa rfl) rfl ?_
    refine aB rfl rfl (ev aa rfl) rfl ?_
    refine aB rfl rfl (ev aa rfl) rfl ?_
    refine aB rfl rfl (ev aa rfl) rfl ?_
    refine aB rfl rfl (ev aa rfl) rfl ?_
    refine aB rfl rfl (indexAddr aa rfl rfl rfl rfl rfl rfl (hbn g104).1 (hbn g104).2.1 rfl) rfl ?_
    refine aB rfl rfl (ev aa rfl) rfl ?_
    refine aB rfl rfl (ev aa rfl) rfl ?_
    refine aB rfl rfl (indexAddr aa rfl rfl rfl rfl rfl rfl (Int.natCast_nonneg _) (hbn g104).2.2 rfl) rfl ?_
    refine aB rfl rfl (ev aa rfl) rfl ?_
    refine aB rfl rfl (ev aa rfl) rfl ?_
    refine aB rfl rfl (ev aa rfl) rfl ?_
    refine an (ev aa rfl) rfl ?_
    refine CH.nil ?_
    refine ay rfl rfl rfl
   refine qs (ao rfl (fun h117=>?_) (fun h117=>?_))
   ·
    have hup:idx best < 0∨(bh (ij b.rows (idx best).toNat) o.t).n≤(bh y o.t).n:=by
     revert h117
     by_cases q:idx best < 0 <;> simp[q]
    rw[if_pos hup] at hJ
    refine W.region ?_
    iterate 2 refine pE rfl ?_
    refine WO.nil (aX (qs (W.region ?_)))
    iterate 2 refine pE rfl ?_
    refine WO.nil ?_
    try have hbr:=hup
    (have _hb:idx best < 0∨(bh (ij b.rows (idx best).toNat) o.t).n≤(bh y o.t).n:=hbr;refine W.aU [0,1,2,3] ⟨(j+1,some j),?_⟩ ?_ rfl ?_ ⟨rfl,rfl,rfl,rfl,rfl,rfl,rfl,rfl,rfl,rfl,rfl,rfl,rfl,rfl,rfl,rfl,rfl,rfl,rfl,rfl,rfl,rfl,trivial⟩ ?_ trivial rfl)
    · exact⟨hlt,(by first | exact hbl | (intro i h;cases h;exact hlt)),hJ⟩
    · dsimp only;omega
    · repeat' first | exact trivial | refine⟨rfl,?_⟩ | refine⟨aD (by assumption) (by assumption),?_⟩
    repeat' first | exact trivial | refine⟨rfl,?_⟩
   have hup:¬ (idx best < 0∨(bh (ij b.rows (idx best).toNat) o.t).n≤(bh y o.t).n):=by
    revert h117
    by_cases q:idx best < 0 <;> simp[q]
   rw[if_neg hup] at hJ
   have hbr:mJ o z y=true∨False∨True:=.inr (.inr trivial)
   refine W.skip (aX (qs (W.region ?_)))
   iterate 2 refine pE rfl ?_
   refine WO.nil ?_
   try have hbr:=hup
   refine W.aU [0,1,2,3] ⟨(j+1,best),?_⟩ ?_ rfl ?_ ⟨rfl,rfl,rfl,rfl,rfl,rfl,rfl,rfl,rfl,rfl,rfl,rfl,rfl,rfl,rfl,rfl,rfl,rfl,rfl,rfl,rfl,rfl,trivial⟩ ?_ trivial rfl
   · exact⟨hlt,(by first | exact hbl | (intro i h;cases h;exact hlt)),hJ⟩
   · dsimp only;omega
   · repeat' first | exact trivial | refine⟨rfl,?_⟩ | refine⟨aD (by assumption) (by assumption),?_⟩
   repeat' first | exact trivial | refine⟨rfl,?_⟩
  rw[hd] at hJ
  simp only[lH] at hJ
  refine W.exit (aN (aQ (aO (qs (W.seq (W.region ?_))))))
  iterate 2 refine pE rfl ?_
  refine pu (AY (m:=(o.more.map nc).length) aa rfl rfl rfl rfl rfl rfl (by rw[hmm];show(32:Int)*_≤_;omega) (by rw[hmm];simp only[maxLen];omega)) rfl ?_
  refine pE rfl (WO.nil (qs ?_))
  iterate 2 refine W.seq ?_
  refine W.region ?_
  iterate 2 refine pE rfl ?_
  refine WO.nil (qs (ao rfl (fun h124=>?_) (fun h124=>?_)))
  ·
   have hbb:0≤idx best:=by simpa using h124
   obtain⟨q,rfl⟩:∃ q,best=some q:=by
    cases best with
    | none=>exact absurd hbb (by decide)
    | some q=>exact⟨q,rfl⟩
   have hqr:=th (hbl q rfl)
   have hql:=(hrb _ (List.mem_of_getElem? hqr)).1
   have hpz:=jm (ij b.rows q) o.more (by omega) (fun r hr=>by rw[hql];exact hoo.more r hr)
   have hfd:wI o b.rows (some q)=bF (ij b.rows q) o.more:=rfl
   have hfl:(bF (ij b.rows q) o.more).length=o.more.length:=List.length_map _
   have hrow:kA o b.rows z=z++bF (ij b.rows q) o.more:=by unfold kA;rw[←hJ];rfl
   refine W.region (pE rfl (pE rfl (pE rfl (pu (indexAddr (l:=rc (ij b.rows q)) aa rfl rfl rfl rfl rfl rfl (Int.natCast_nonneg _) (aE hqr) rfl) rfl ?_))))
   refine pE rfl (pE rfl (pu (ak rfl rfl rfl hpz rfl) rfl ?_))
   refine pE rfl (WO.nil (qs ?_))
   refine' W.eD aa [_,_] [[4,3],[5,3],[6,5]] [5,6,7] [3,5] 7 (by kernel_rfl) (by kernel_rfl) rfl rfl ?hL_7
   case' hL_7=>skip
   refine' aJ (ev aa rfl) ?p_8 rfl rfl rfl (by kernel_rfl) rfl ?h_8
   case' h_8=>skip
   refine' aJ (ev aa rfl) ?p_9 rfl rfl rfl (by kernel_rfl) rfl ?h_9
   case' h_9=>skip
   refine' aJ (ev aa rfl) ?p_10 rfl rfl rfl (by kernel_rfl) rfl ?h_10
   case' h_10=>skip
   refine' kC ?x_11 rfl rfl rfl (by kernel_rfl) (fun h=>(ae h (by kernel_rfl)).elim) rfl ?h_11
   case x_11=>
    intro b hb g;cases b
    · exact(ae hb (by kernel_rfl)).elim
    refine fC rfl rfl rfl (lX z (by omega)) (by rfl) rfl rfl ?_
    refine WO.nil ?_
    refine' iD rfl ?_ ?_ ?_ ?_
    all_goals try exact rfl
   case' h_11=>skip
   refine' aJ (ev aa rfl) ?p_12 rfl rfl rfl (by kernel_rfl) rfl ?h_12
   case' h_12=>skip
   refine' kC ?x_13 rfl rfl rfl (by kernel_rfl) (fun h=>(ae h (by kernel_rfl)).elim) rfl ?h_13
   case x_13=>
    intro b hb g;cases b
    · exact(ae hb (by kernel_rfl)).elim
    refine dn (fn:=aH.c) (l:=z) (l2:=bF (ij b.rows q) o.more) aa rfl rfl rfl rfl rfl rfl rfl rfl rfl rfl (fun _=>rfl) (by rw[hfl];show _*32≤_;omega) ?_
    refine WO.nil ?_
    refine' iD rfl ?_ ?_ ?_ ?_
    all_goals try exact rfl
   case' h_13=>skip
   case p_8=>refine⟨fun ha=>(ae ha (by kernel_rfl)).elim,?_,fun ha=>(ae ha (by kernel_rfl)).elim,?_,fun ha=>(ae ha (by kernel_rfl)).elim,?_⟩ <;> intro ha <;> first | exact⟨ev aa rfl,fun h=>nomatch h⟩ | exact(ae ha (by kernel_rfl)).elim
   case p_9=>refine⟨fun ha=>(ae ha (by kernel_rfl)).elim,?_,fun ha=>(ae ha (by kernel_rfl)).elim,?_,fun ha=>(ae ha (by kernel_rfl)).elim,?_⟩ <;> intro ha <;> first | exact⟨ev aa rfl,fun h=>nomatch h⟩ | exact⟨bM aa rfl rfl rfl rfl,fun h=>nomatch h⟩ | exact⟨bL aa rfl rfl rfl rfl rfl,fun h=>nomatch h⟩ | exact(ae ha (by kernel_rfl)).elim
   case p_10=>refine⟨fun ha=>(ae ha (by kernel_rfl)).elim,?_,fun ha=>(ae ha (by kernel_rfl)).elim,?_,fun ha=>(ae ha (by kernel_rfl)).elim,?_⟩ <;> intro ha <;> first | exact⟨ev aa rfl,fun h=>nomatch h⟩ | exact(ae ha (by kernel_rfl)).elim
   case p_12=>refine⟨fun ha=>(ae ha (by kernel_rfl)).elim,?_,fun ha=>(ae ha (by kernel_rfl)).elim,?_,fun ha=>(ae ha (by kernel_rfl)).elim,?_⟩ <;> intro ha <;> first | exact⟨ev aa rfl,fun h=>nomatch h⟩ | exact(ae ha (by kernel_rfl)).elim
   refine' aJ (aI aa rfl rfl rfl rfl rfl rfl rfl rfl rfl) ?p_14 rfl rfl rfl (by kernel_rfl) rfl ?h_14
   case' h_14=>skip
   case p_14=>refine⟨fun ha=>(ae ha (by kernel_rfl)).elim,?_,fun ha=>(ae ha (by kernel_rfl)).elim,?_,fun ha=>(ae ha (by kernel_rfl)).elim,?_⟩ <;> intro ha <;> first | exact⟨aI aa rfl rfl rfl rfl rfl rfl rfl rfl rfl,fun h=>nomatch h⟩ | exact(ae ha (by kernel_rfl)).elim
   refine CD.nil ?_ rfl
   refine bJ (fn:=rc) (a:=kA o b.rows z) aa rfl rfl (by rw[hrow];rfl) rfl rfl rfl rfl rfl rfl rfl (fun _=>rfl) (by show(out.length+1)*24≤_;omega) ?_
   refine pE rfl (aR aa rfl rfl rfl rfl rfl rfl rfl rfl (WO.nil (aX (qs (W.region ?_)))))
   iterate 2 refine pE rfl ?_
   refine WO.nil (W.aU [0,1,2,6] ⟨(i+1,out++[kA o b.rows z]),?_⟩ ?_ rfl ?_ ⟨rfl,rfl,rfl,rfl,rfl,rfl,rfl,rfl,rfl,rfl,rfl,rfl,rfl,rfl,trivial⟩ ?_ trivial rfl)
   · exact⟨hzlt,by rw[hI,List.take_add_one,hzx];simp⟩
   · dsimp only;omega
   · repeat' first | exact trivial | refine⟨rfl,?_⟩ | refine⟨aD (by assumption) (by assumption),?_⟩
   repeat' first | exact trivial | refine⟨rfl,?_⟩
  have hbb:best=none:=by
   cases best with
   | none=>rfl
   | some q=>simp[idx] at h124
  subst hbb
  have hfl:(List.replicate o.more.length gh).length=o.more.length:=List.length_replicate
  have hrow:kA o b.rows z=z++List.replicate o.more.length gh:=by unfold kA;rw[←hJ];rfl
  have hzz:List.replicate (o.more.map nc).length (([.int .i64 0,.int .i64 0,.string (B #[])]:List Value).map D.v)=(List.replicate o.more.length gh).map aH.c:=by rw[hmm];exact zp _
  refine W.skip (qs ?_)
  refine' W.eD aa [_,_] [[4,3],[5,3],[6,5]] [5,6,7] [3,5] 7 (by kernel_rfl) (by kernel_rfl) rfl rfl ?hL_15
  case' hL_15=>skip
  refine' aJ (ev aa rfl) ?p_16 rfl rfl rfl (by kernel_rfl) rfl ?h_16
  case' h_16=>skip
  refine' aJ (ev aa rfl) ?p_17 rfl rfl rfl (by kernel_rfl) rfl ?h_17
  case' h_17=>skip
  refine' aJ (ev aa rfl) ?p_18 rfl rfl rfl (by kernel_rfl) rfl ?h_18
  case' h_18=>skip
  refine' kC ?x_19 rfl rfl rfl (by kernel_rfl) (fun h=>(ae h (by kernel_rfl)).elim) rfl ?h_19
  case x_19=>
   intro b hb g;cases b
   · exact(ae hb (by kernel_rfl)).elim
   refine fC rfl rfl rfl (lX z (by omega)) (by rfl) rfl rfl ?_
   refine WO.nil ?_
   refine' iD rfl ?_ ?_ ?_ ?_
   all_goals try exact rfl
  case' h_19=>skip
  refine' aJ (ev aa rfl) ?p_20 rfl rfl rfl (by kernel_rfl) rfl ?h_20
  case' h_20=>skip
  refine' kC ?x_21 rfl rfl rfl (by kernel_rfl) (fun h=>(ae h (by kernel_rfl)).elim) rfl ?h_21
  case x_21=>
   intro b hb g;cases b
   · exact(ae hb (by kernel_rfl)).elim
   refine dn (fn:=aH.c) (l:=z) (l2:=List.replicate o.more.length gh) aa rfl rfl (by rw[←hzz];rfl) rfl rfl rfl rfl rfl rfl rfl (fun _=>rfl) (by rw[hfl];show _*32≤_;omega) ?_
   refine WO.nil ?_
   refine' iD rfl ?_ ?_ ?_ ?_
   all_goals try exact rfl
  case' h_21=>skip
  case p_16=>refine⟨fun ha=>(ae ha (by kernel_rfl)).elim,?_,fun ha=>(ae ha (by kernel_rfl)).elim,?_,fun ha=>(ae ha (by kernel_rfl)).elim,?_⟩ <;> intro ha <;> first | exact⟨ev aa rfl,fun h=>nomatch h⟩ | exact(ae ha (by kernel_rfl)).elim
  case p_17=>refine⟨fun ha=>(ae ha (by kernel_rfl)).elim,?_,fun ha=>(ae ha (by kernel_rfl)).elim,?_,fun ha=>(ae ha (by kernel_rfl)).elim,?_⟩ <;> intro ha <;> first | exact⟨ev aa rfl,fun h=>nomatch h⟩ | exact⟨bM aa rfl rfl rfl rfl,fun h=>nomatch h⟩ | exact⟨bL aa rfl rfl rfl rfl rfl,fun h=>nomatch h⟩ | exact(ae ha (by kernel_rfl)).elim
  case p_18=>refine⟨fun ha=>(ae ha (by kernel_rfl)).elim,?_,fun ha=>(ae ha (by kernel_rfl)).elim,?_,fun ha=>(ae ha (by kernel_rfl)).elim,?_⟩ <;> intro ha <;> first | exact⟨ev aa rfl,fun h=>nomatch h⟩ | exact(ae ha (by kernel_rfl)).elim
  case p_20=>refine⟨fun ha=>(ae ha (by kernel_rfl)).elim,?_,fun ha=>(ae ha (by kernel_rfl)).elim,?_,fun ha=>(ae ha (by kernel_rfl)).elim,?_⟩ <;> intro ha <;> first | exact⟨ev aa rfl,fun h=>nomatch h⟩ | exact(ae ha (by kernel_rfl)).elim
  refine' aJ (aI aa rfl rfl rfl rfl rfl rfl rfl rfl rfl) ?p_22 rfl rfl rfl (by kernel_rfl) rfl ?h_22
  case' h_22=>skip
  case p_22=>refine⟨fun ha=>(ae ha (by kernel_rfl)).elim,?_,fun ha=>(ae ha (by kernel_rfl)).elim,?_,fun ha=>(ae ha (by kernel_rfl)).elim,?_⟩ <;> intro ha <;> first | exact⟨aI aa rfl rfl rfl rfl rfl rfl rfl rfl rfl,fun h=>nomatch h⟩ | exact(ae ha (by kernel_rfl)).elim
  refine CD.nil ?_ rfl
  refine bJ (fn:=rc) (a:=kA o b.rows z) aa rfl rfl (by rw[hrow];rfl) rfl rfl rfl rfl rfl rfl rfl (fun _=>rfl) (by show(out.length+1)*24≤_;omega) ?_
  refine pE rfl (aR aa rfl rfl rfl rfl rfl rfl rfl rfl (WO.nil (aX (qs (W.region ?_)))))
  iterate 2 refine pE rfl ?_
  refine WO.nil (W.aU [0,1,2,6] ⟨(i+1,out++[kA o b.rows z]),?_⟩ ?_ rfl ?_ ⟨rfl,rfl,rfl,rfl,rfl,rfl,rfl,rfl,rfl,rfl,rfl,rfl,rfl,rfl,trivial⟩ ?_ trivial rfl)
  · exact⟨hzlt,by rw[hI,List.take_add_one,hzx];simp⟩
  · dsimp only;omega
  · repeat' first | exact trivial | refine⟨rfl,?_⟩ | refine⟨aD (by assumption) (by assumption),?_⟩
  repeat' first | exact trivial | refine⟨rfl,?_⟩
 have hfin:out=a.rows.map (kA o b.rows):=by rw[hI,List.take_of_length_le (by have:=congrArg List.length hd;simp at this;omega)]
 have hg:hZ a b on=(⟨CT0.1,out⟩,0):=by rw[hgo,hfin]
 refine W.exit (aN (aQ (aO (qs (W.seq (W.region (pE rfl (aR aa rfl rfl rfl rfl rfl rfl rfl rfl (pE rfl (WO.nil (qs ?_)))))))))))
 try refine cD 2 0 rfl rfl rfl ?_
 try refine cD 2 1 rfl rfl rfl ?_
 refine W.ret (QV.aq aa trivial rfl ?_)
 (rw[hg];rfl)
end Go.Proofs.YtjenenllmjlimaaGreat
namespace Go.Proofs.YtjenenllmjlimaaGreat
open Go.Ab Go.Tb
set_option maxRecDepth 10000
attribute [local irreducible] W WO Pu QS QB QL QF QV b7 CH QE
theorem zk:ax Tryz.prog 85 [.d (.sl []),.d (.v (.int .i64 0)),.d (.v (.int .i64 0)),.clo 37 []] (.tup []) 0:=by
 refine ax.aT (n:=53) (ts:=[]) Tryz.func85 (by kernel_rfl) rfl Tryz.ntmps85 Tryz.results85 rfl rfl fun C hC hG=>?_
 refine W.seq (W.region ?_)
 iterate 3 refine pE rfl ?_
 refine WO.nil (qs (W.block ?_))
 refine W.aS (ι:={x:Unit // match x with | u=>True})
  (fun x=>match x.1 with | u=>[(8,.d (.v (.int .i64 1)))]) [(0,_),(1,_),(2,_),(3,_)]
  (fun x=>match x.1 with | u=>[]) [] [] 0 (fun x=>match x.1 with | u=>0)
  [] ⟨(),?_⟩ rfl ?_ ⟨rfl,rfl,rfl,rfl,rfl,rfl,rfl,rfl,trivial⟩ ?_ trivial rfl ?_
 · exact trivial
 · repeat' first | exact trivial | refine⟨rfl,?_⟩
 · repeat' exact trivial
 rintro⟨u,hk,hI⟩
 show W _ _ _ _ _ ⟨[(8,.d (.v (.int .i64 1))),(0,_),(1,_),(2,_),(3,_)],[],[],0⟩
 iterate 2 refine W.seq ?_
 refine W.region ?_
 iterate 3 refine pE rfl ?_
 refine WO.nil (qs (ao rfl (fun h14=>?_) (fun h14=>?_)))
 ·
  exfalso
  simp at h14
 refine W.exit (aN (aQ (aO (QF.aq trivial rfl ?_))))
 rfl
theorem vN:ax Tryz.prog 55 [.d (.sl []),.d (.v (.int .i64 0)),.clo 37 []] (.tup []) 0:=by
 refine ax.aT (n:=63) (ts:=[]) Tryz.func55 (by kernel_rfl) rfl Tryz.ntmps55 Tryz.results55 rfl rfl fun C hC hG=>?_
 refine W.seq (W.region (pE rfl (WO.nil (qs (W.seq (W.region ?_))))))
 iterate 3 refine pE rfl ?_
 refine WO.nil (qs (W.seq (W.block ?_)))
 refine W.aS (ι:={x:Unit // match x with | u=>True})
  (fun x=>match x.1 with | u=>[(7,.d (.v (.int .i64 0))),(8,.d (.v (.int .i64 20)))]) [(0,_),(1,_),(2,_),(6,_)]
  (fun x=>match x.1 with | u=>[]) [] [] 0 (fun x=>match x.1 with | u=>0)
  [] ⟨(),?_⟩ rfl ?_ ⟨rfl,rfl,rfl,rfl,rfl,rfl,rfl,rfl,trivial⟩ ?_ trivial rfl ?_
 · exact trivial
 · repeat' first | exact trivial | refine⟨rfl,?_⟩
 · repeat' exact trivial
 rintro⟨u,hk,hI⟩
 show W _ _ _ _ _ ⟨[(7,.d (.v (.int .i64 0))),(8,.d (.v (.int .i64 20))),(0,_),(1,_),(2,_),(6,_)],[],[],0⟩
 iterate 2 refine W.seq ?_
 refine W.region ?_
 iterate 3 refine pE rfl ?_
 refine WO.nil (qs (ao rfl (fun h13=>?_) (fun h13=>?_)))
 ·
  exfalso
  simp at h13
 refine W.exit (aN (aQ (aO (qs (W.seq (W.region ?_))))))
 iterate 4 refine pE rfl ?_
 refine pu (ak rfl rfl rfl zk rfl) rfl ?_
 refine WO.nil (qs (W.block ?_))
 refine W.aS (ι:={x:Unit // match x with | u=>True})
  (fun x=>match x.1 with | u=>[(6,.d (.v (.int .i64 20)))]) [(0,_),(1,_),(2,_)]
  (fun x=>match x.1 with | u=>[]) [] [] 0 (fun x=>match x.1 with | u=>0)
  [] ⟨(),?_⟩ rfl ?_ ⟨rfl,rfl,rfl,rfl,rfl,rfl,trivial⟩ ?_ trivial rfl ?_
 · exact trivial
 · repeat' first | exact trivial | refine⟨rfl,?_⟩
 · repeat' exact trivial
 rintro⟨u,hk,hI⟩
 show W _ _ _ _ _ ⟨[(6,.d (.v (.int .i64 20))),(0,_),(1,_),(2,_)],[],[],0⟩
 iterate 2 refine W.seq ?_
 refine W.region ?_
 iterate 3 refine pE rfl ?_
 refine WO.nil (qs (ao rfl (fun h30=>?_) (fun h30=>?_)))
 ·
  exfalso
  simp at h30
 refine W.exit (aN (aQ (aO (QF.aq trivial rfl ?_))))
 rfl
theorem rD:ax Tryz.prog 36 [.d (.sl []),.clo 37 []] (.tup []) 0:=by
 refine ax.aT (n:=9) (ts:=[]) Tryz.func36 (by kernel_rfl) rfl Tryz.ntmps36 Tryz.results36 rfl rfl fun C hC hG=>?_
 refine W.region ?_
 iterate 4 refine pE rfl ?_
 refine pu (ak rfl rfl rfl vN rfl) rfl ?_
 refine WO.nil (QF.aq trivial rfl ?_)
 rfl
theorem jk (L:List Pc) (p:Pc):L.map Pc.c++[p.c]=(L++[p]).map Pc.c:=by simp
end Go.Proofs.YtjenenllmjlimaaGreat
namespace Go.Proofs.YtjenenllmjlimaaGreat
open Go.Ab Go.Tb
set_option maxRecDepth 10000
attribute [local irreducible] W WO Pu QS QB QL QF QV b7 CH QE
theorem tf (a:bo) (on:List ByteArray) (hon:on.length≤400) (hpos:0 < (pieces (cO a on) (bw a.cols aP) (bw a.cols bp) a.rows).length):ax Tryz.prog 13 [.ag a.c,.d (.sl (on.map sc))]
  (.tup [.ag (bb a on).1.c,.d (.v (.int .i64 (bb a on).2))]) 0:=by
 have hcol:=kb 9 on [a] (by simp) hon
 rw[qP] at hcol
 obtain⟨CT0,hCT⟩:∃ c,dY 9 on a=c:=⟨_,rfl⟩
 rw[hCT] at hcol
 obtain⟨m0,hm0⟩:∃ i,bw a.cols aP=i:=⟨_,rfl⟩
 obtain⟨m1,hm1⟩:∃ i,bw a.cols bp=i:=⟨_,rfl⟩
 obtain⟨left,hleft⟩:∃ l,cO a on=l:=⟨_,rfl⟩
 rw[hm0,hm1,hleft] at hpos
 refine ax.fg aa (n:=150) (rs:=[.cell 4 25,.tmp 5]) Tryz.func13 (by kernel_rfl) rfl Tryz.ntmps13 Tryz.results13 rfl fun C hC hG=>?_
 refine W.seq (W.region (br rfl rfl rfl (a8 aa rfl rfl rfl (pE rfl (WO.nil (qs (W.seq (W.region (pE rfl (pE rfl (pu (aI aa rfl rfl rfl rfl rfl rfl rfl rfl rfl) rfl ?_)))))))))))
 refine pu (ak rfl rfl rfl hcol rfl) rfl ?_
 iterate 5 refine pE rfl ?_
 refine WO.nil (qs ?_)
 iterate 2 refine W.seq ?_
 refine W.region ?_
 iterate 2 refine pE rfl ?_
 refine WO.nil (qs (ao rfl (fun h30=>?_) (fun h30=>?_)))
 ·
  have he:CT0.2≠0:=by simpa using h30
  have hg:bb a on=(fL,CT0.2):=by unfold bb;rw[hCT,if_pos he]
  refine W.seq (W.region (pu (build aa rfl rfl rfl rfl) rfl ?_))
  refine pE rfl (aR aa rfl rfl rfl rfl rfl rfl rfl rfl (pE rfl (WO.nil (qs ?_))))
  try refine cD 1 0 rfl rfl rfl ?_
  try refine cD 1 1 rfl rfl rfl ?_
  refine W.ret (ah (QV.aq aa trivial rfl ?_))
  (rw[hg];rfl)
 have he:CT0.2=0:=by simpa using h30
 have hok:=yU (by rw[hCT];exact he)
 have hoo:=zU hok
 have haz:=eh hok.ga
 have hol:=hok.len
 have hra:=gW hok.ga
 obtain⟨srt,hsrt⟩:∃ s,cH bg (pieces left m0 m1 a.rows)=s:=⟨_,rfl⟩
 obtain⟨J,hJJ⟩:∃ s,db [] srt=s:=⟨_,rfl⟩
 have hgo:bb a on=(⟨CT0.1,J.map a0⟩,0):=by unfold bb jK;rw[hCT,if_neg (by simp[he]),hleft,hm0,hm1,hsrt,hJJ]
 have hpl:ax Tryz.prog 21 [.ag a.c,.d (.sl (on.map sc))] (.d (.sl (left.map nc))) 0:=by
  have:=eU a on (by omega)
  rw[gC (fun s hs=>by obtain⟨i,c,h1,_⟩:=hok.ons s hs;exact⟨i,h1⟩)] at this
  rw[←hleft];exact this
 have hpm:ax Tryz.prog 21 [.ag a.c,.d (.sl ([aP,bp].map sc))] (.d (.sl ([m0,m1].map nc))) 0:=by
  have:=eU a [aP,bp] (by simp)
  rw[gC (fun s hs=>by
   rcases List.mem_cons.1 hs with rfl | hs
   · obtain⟨i,c,h1,_⟩:=hok.fr;exact⟨i,h1⟩
   rcases List.mem_cons.1 hs with rfl | hs
   · obtain⟨i,c,h1,_⟩:=hok.to;exact⟨i,h1⟩
   cases hs)] at this
  rw[←hm0,←hm1];exact this
 have hll:left.length≤16:=by rw[←hleft];show(on.map _).length≤_;rw[List.length_map];exact hol
 rw[show on.map (bw a.cols)=left from hleft,hm0,hm1] at hoo
 refine W.skip (qs (W.seq (W.be aa (by kernel_rfl) ?_)))
 refine an (ev aa rfl) rfl ?_
 refine an (ev aa rfl) rfl ?_
 refine an (ak rfl rfl rfl hpl rfl) rfl ?_
 refine an (ev aa rfl) rfl ?_
 refine an (aI aa rfl rfl rfl rfl rfl rfl rfl rfl rfl) rfl ?_
 refine an (ak rfl rfl rfl hpm rfl) rfl ?_
 iterate 2 refine an (ev aa rfl) rfl ?_
 refine CH.nil ?_
 refine qs (W.seq (W.region ?_))
 iterate 2 refine pE rfl ?_
 refine WO.nil (qs ?_)
 iterate 2 refine W.seq ?_
 refine W.region (pE rfl (pE rfl ?_))
 iterate 2 refine pE rfl ?_
 refine WO.nil (qs (W.block (W.oL (d:=10) rfl rfl ?_)))
 refine W.len (t:=40) rfl rfl (fun hlen=>?_)
 try simp only[List.length_map,Ex.aF] at hlen
 refine W.aS (ι:={x:Nat×List Pc // match x with | (i,L)=>i≤a.rows.length∧L.length≤i∧L++pieces left m0 m1 (a.rows.drop i)=pieces left m0 m1 a.rows})
  (fun x=>match x.1 with | (i,L)=>[(4,.ptr 0 0),(10,.xs 1 (L.map Pc.c)),(42,.d (.v (.int .i64 ((i:Nat):Int))))]) [(6,_),(8,_),(9,_),(11,_),(40,_),(41,_)]
  (fun x=>match x.1 with | (i,L)=>[(0,[.d (.v (.slice none 0 0)),.d (.v (.slice none 0 0))])]) [] [1] 2 (fun x=>match x.1 with | (i,L)=>a.rows.length - i)
  [1,2] ⟨(0,[]),?_⟩ rfl ?_ ⟨rfl,rfl,rfl,rfl,rfl,rfl,rfl,rfl,rfl,rfl,rfl,rfl,trivial⟩ ?_ trivial rfl ?_
 · exact⟨Nat.zero_le _,Nat.zero_le _,rfl⟩
 · repeat' first | exact trivial | refine⟨rfl,?_⟩
 · repeat' first | exact trivial | refine⟨rfl,?_⟩
 rintro⟨⟨i,L⟩,hk,hn,hI⟩
 show W _ _ _ _ _ ⟨[(4,.ptr 0 0),(10,.xs 1 (L.map Pc.c)),(42,.d (.v (.int .i64 ((i:Nat):Int)))),(6,_),(8,_),(9,_),(11,_),(40,_),(41,_)],[(0,[.d (.v (.slice none 0 0)),.d (.v (.slice none 0 0))])],[1],2⟩
 refine W.seq (W.region (pE rfl (WO.nil (qs (W.seq (a9 (l:=a.rows) (k:=i) rfl (by simp[Ex.aF,aL]) hk (fun z hx hd hlt=>?_) (fun he hd=>?_)))))))
 ·
  rw[hd] at hI
  simp only[pieces] at hI
  have hxm:=List.mem_of_getElem? hx
  have hxl:=(hra z hxm).1
  have hsx:=oZ z m0 m1 (by rw[hxl];exact hoo.m0) (by rw[hxl];exact hoo.m1)
  have hpx:=jm z left (by omega) (fun q hq=>by rw[hxl];exact hoo.left q hq)
  refine W.skip (qs (W.seq (W.block (W.seq (W.region (pu (indexAddr aa rfl rfl rfl rfl rfl rfl (Int.natCast_nonneg _) (aE hx) rfl) rfl ?_))))))
  refine pE rfl (pE rfl (WO.nil (qs (W.seq (W.region ?_)))))
  iterate 2 refine pE rfl ?_
  refine pu (ak rfl rfl rfl hsx rfl) rfl ?_
  iterate 3 refine pE rfl ?_
  refine a8 aa rfl rfl rfl (aR aa rfl rfl rfl rfl rfl rfl rfl rfl (pE rfl (WO.nil (qs (W.seq ?_)))))
  apply aC;(case hb=>rfl)
  ·
   iterate 2 refine pE rfl ?_
   apply eI;(case hj=>rfl);(case hl=>rfl)
   ·
    intro g53
    refine ab rfl rfl (pE rfl (ab rfl rfl (pE rfl (ab rfl rfl ?_))))
    iterate 2 refine pE rfl ?_
    refine WO.nil (ay rfl rfl rfl)
   intro g53
   iterate 3 refine ar rfl rfl rfl rfl ?_
   refine pE rfl (WO.nil (ay rfl rfl rfl))
  refine qs (ao rfl (fun h57=>?_) (fun h57=>?_))
  ·
   have hin:eJ z m0 m1=true:=by
    revert h57
    unfold eJ
    cases cM z m0 m1 <;> simp
   rw[if_pos hin] at hI
   refine W.eD aa [] [] [] [] 7 (by kernel_rfl) (by kernel_rfl) rfl rfl ?_
   refine' aJ (ev aa rfl) ?p_1 rfl rfl rfl (by kernel_rfl) rfl ?h_1
   case' h_1=>skip
   case p_1=>refine⟨fun ha=>(ae ha (by kernel_rfl)).elim,?_⟩ <;> intro ha <;> first | exact⟨ev aa rfl,fun h=>nomatch h⟩ | exact(ae ha (by kernel_rfl)).elim
   refine' aJ (ev aa rfl) ?p_2 rfl rfl rfl (by kernel_rfl) rfl ?h_2
   case' h_2=>skip
   case p_2=>refine⟨fun ha=>(ae ha (by kernel_rfl)).elim,?_⟩ <;> intro ha <;> first | exact⟨ev aa rfl,fun h=>nomatch h⟩ | exact(ae ha (by kernel_rfl)).elim
   refine' aJ (ev aa rfl) ?p_3 rfl rfl rfl (by kernel_rfl) rfl ?h_3
   case' h_3=>skip
   case p_3=>refine⟨fun ha=>(ae ha (by kernel_rfl)).elim,?_⟩ <;> intro ha <;> first | exact⟨ev aa rfl,fun h=>nomatch h⟩ | exact(ae ha (by kernel_rfl)).elim
   refine' aJ (ak rfl rfl rfl hpx rfl) ?p_4 rfl rfl rfl (by kernel_rfl) rfl ?h_4
   case' h_4=>skip
   case p_4=>refine⟨fun ha=>(ae ha (by kernel_rfl)).elim,?_⟩ <;> intro ha <;> first | exact⟨ak rfl rfl rfl hpx rfl,fun h=>nomatch h⟩ | exact(ae ha (by kernel_rfl)).elim
   refine' aJ (ev aa rfl) ?p_5 rfl rfl rfl (by kernel_rfl) rfl ?h_5
   case' h_5=>skip
   case p_5=>refine⟨fun ha=>(ae ha (by kernel_rfl)).elim,?_⟩ <;> intro ha <;> first | exact⟨ev aa rfl,fun h=>nomatch h⟩ | exact⟨bM aa rfl rfl rfl rfl,fun h=>nomatch h⟩ | exact⟨bL aa rfl rfl rfl rfl rfl,fun h=>nomatch h⟩ | exact(ae ha (by kernel_rfl)).elim
   refine' aJ (build aa rfl rfl rfl rfl) ?p_6 rfl rfl rfl (by kernel_rfl) rfl ?h_6
   case' h_6=>skip
   case p_6=>refine⟨fun ha=>(ae ha (by kernel_rfl)).elim,?_⟩ <;> intro ha <;> first | exact⟨build aa rfl rfl rfl rfl,fun h=>nomatch h⟩ | exact(ae ha (by kernel_rfl)).elim
   refine' aJ (aI aa rfl rfl rfl rfl rfl rfl rfl rfl rfl) ?p_7 rfl rfl rfl (by kernel_rfl) rfl ?h_7
   case' h_7=>skip
   case p_7=>refine⟨fun ha=>(ae ha (by kernel_rfl)).elim,?_⟩ <;> intro ha <;> first | exact⟨aI aa rfl rfl rfl rfl rfl rfl rfl rfl rfl,fun h=>nomatch h⟩ | exact(ae ha (by kernel_rfl)).elim
   refine CD.nil ?_ rfl
   refine iY (es2:=[(gK left m0 m1 z).c]) (r:=(L++[gK left m0 m1 z]).map Pc.c) aa rfl rfl rfl rfl rfl rfl rfl rfl rfl rfl (jk _ _) (by rw[jk];exact cr _) (by show((L.map Pc.c).length+1)*40≤_;rw[List.length_map];omega) rfl ?_
   refine pE rfl (WO.nil (aX (qs (W.region ?_))))
   iterate 2 refine pE rfl ?_
   refine WO.nil ?_
   have hbr:=hin
   (have _hb:eJ z m0 m1=true:=hbr;refine W.aU [0,3] ⟨(i+1,L++[gK left m0 m1 z]),?_⟩ ?_ rfl ?_ ⟨rfl,rfl,rfl,rfl,rfl,rfl,rfl,rfl,rfl,rfl,rfl,rfl,trivial⟩ ?_ trivial rfl)
   · exact⟨hlt,(by first | (rw[List.length_append];simp;omega) | omega),(by first | exact hI | (rw[List.append_assoc];exact hI))⟩
   · dsimp only;omega
   · repeat' first | exact trivial | refine⟨rfl,?_⟩ | refine⟨aD (by assumption) (by assumption),?_⟩
   repeat' first | exact trivial | refine⟨rfl,?_⟩
  have hin:eJ z m0 m1=false:=by
   revert h57
   unfold eJ
   cases cM z m0 m1 <;> simp
  rw[if_neg (by simp[hin])] at hI
  refine W.skip (aX (qs (W.region ?_)))
  iterate 2 refine pE rfl ?_
  refine WO.nil ?_
  have hbr:=hin
  (have _hb:eJ z m0 m1=false:=hbr;refine W.aU [0,1] ⟨(i+1,L),?_⟩ ?_ rfl ?_ ⟨rfl,rfl,rfl,rfl,rfl,rfl,rfl,rfl,rfl,rfl,rfl,rfl,trivial⟩ ?_ trivial rfl)
  · exact⟨hlt,(by first | (rw[List.length_append];simp;omega) | omega),(by first | exact hI | (rw[List.append_assoc];exact hI))⟩
  · dsimp only;omega
  · repeat' first | exact trivial | refine⟨rfl,?_⟩ | refine⟨aD (by assumption) (by assumption),?_⟩
  repeat' first | exact trivial | refine⟨rfl,?_⟩
 rw[hd] at hI
 simp only[pieces,List.append_nil] at hI
 rw[←hI] at hpos hsrt
 have hL2:L.length≤20000:=by omega
 have hst:cH bg L=srt:=hsrt
 have hsl0:srt.length=L.length:=by rw[←hst];exact(dI bg L).len
 have hkey:∀ p∈J,p.key.length≤16:=by
  have h1:∀ p∈srt,p.key.length=left.length:=fun p hp=>by
   have h2:p∈L:=by rw[←hst] at hp;exact(dI bg L).perm.mem_iff.1 hp
   rw[hI] at h2
   exact kH left m0 m1 a.rows p h2
  intro p hp
  rw[←hJJ] at hp
  have:=lT srt [] h1 (fun p hp=>nomatch hp) p hp
  omega
 have hJn:J.length≤20000:=by rw[←hJJ];have:=lJ srt [];simp at this;omega
 refine W.exit (aN (aQ (aO (qs (W.seq ?_)))))
 have hlp:0 < (L.map Pc.c).length:=by rw[List.length_map];exact hpos
 refine Al 10 rfl rfl rfl hlp rfl (fun cap13 k13=>?_)
 have hsl:=sF L k13 cap13 (by omega)
 have hll2:(L.map Pc.c).length=L.length:=List.length_map _
 rw[←hll2,hst] at hsl
 refine W.region (pE rfl (iS 2 rfl rfl rfl rfl hsl rfl ?_))
 refine WO.nil (qs ?_)
 iterate 2 refine W.seq ?_
 refine sY (sz:=3) 10 rfl rfl rfl (by rw[List.length_map,List.length_map,hsl0]) (cr _) rfl rfl ?_
 refine W.region ?_
 iterate 3 refine pE rfl ?_
 refine WO.nil (qs (W.block (W.oL (d:=11) rfl rfl ?_)))
 have hsm:srt.length≤maxLen:=by simp only[maxLen];omega
 refine W.aS (ι:={x:Nat×List Pc // match x with | (j,out)=>j≤srt.length∧out.length≤j∧db out (srt.drop j)=J})
  (fun x=>match x.1 with | (j,out)=>[(4,.ptr 0 0),(11,.xs 1 (out.map Pc.c)),(71,.d (.v (.int .i64 ((j:Nat):Int))))]) [(6,_),(69,_),(70,_)]
  (fun x=>match x.1 with | (j,out)=>[(0,[.d (.v (.slice none 0 0)),.d (.v (.slice none 0 0))])]) [] [1] 2 (fun x=>match x.1 with | (j,out)=>srt.length - j)
  [0,4] ⟨(0,[]),?_⟩ rfl ?_ ⟨rfl,rfl,rfl,rfl,rfl,rfl,trivial⟩ ?_ trivial rfl ?_
 · exact⟨Nat.zero_le _,Nat.zero_le _,hJJ⟩
 · repeat' first | exact trivial | refine⟨rfl,?_⟩
 · repeat' first | exact trivial | refine⟨rfl,?_⟩
 rintro⟨⟨j,out⟩,hk,hn2,hR⟩
 show W _ _ _ _ _ ⟨[(4,.ptr 0 0),(11,.xs 1 (out.map Pc.c)),(71,.d (.v (.int .i64 ((j:Nat):Int)))),(6,_),(69,_),(70,_)],[(0,[.d (.v (.slice none 0 0)),.d (.v (.slice none 0 0))])],[1],2⟩
 refine W.seq (W.region (pE rfl (WO.nil (qs (W.seq (a9 (l:=srt) (k:=j) rfl (by simp[Ex.aF,aL]) hk (fun p hx hd hlt=>?_) (fun he hd=>?_)))))))
 ·
  rw[hd] at hR
  simp only[db] at hR
  have hsub:IntKind.i64.wrap (((out.map Pc.c).length:Int) - 1)=((out.length:Int) - 1):=by rw[List.length_map,wrap64 (by omega)]
  have hla:∀ h:decide (0≤(out.length:Int) - 1)=true,0 < out.length∧0≤(out.length:Int) - 1∧(out.map Pc.c)[((out.length:Int) - 1).toNat]? = some (bC out).c:=by
   intro h
   have h0:0 < out.length:=by simp at h;omega
   refine⟨h0,by omega,?_⟩
   rw[show((out.length:Int) - 1).toNat=out.length - 1 by omega]
   exact dQ (by omega)
  refine W.skip (qs (W.seq (W.block (W.seq (W.region (pu (indexAddr aa rfl rfl rfl rfl rfl rfl (Int.natCast_nonneg _) (aE hx) rfl) rfl ?_))))))
  refine pE rfl (a8 aa rfl rfl rfl (aR aa rfl rfl rfl rfl rfl rfl rfl rfl (WO.nil (qs (W.seq (W.region (pE rfl (pu (vJ aa rfl rfl rfl rfl) rfl ?_))))))))
  refine pu (bH (ev aa rfl) hsub) rfl ?_
  refine pE rfl (WO.nil (qs (W.seq ?_)))
  apply iV aa;(case hb=>rfl);(case hB=>kernel_rfl)
  ·
   iterate 3 refine an (ev aa rfl) rfl ?_
   apply gd;(case hj=>rfl);(case hl=>rfl)
   ·
    intro g80
    refine aB rfl rfl (ev aa rfl) rfl ?_
    refine aB rfl rfl (ev aa rfl) rfl ?_
    refine aB rfl rfl (gA (l:=(bC out).c) aa rfl rfl rfl rfl rfl rfl (hla g80).2.1 (hla g80).2.2 rfl) rfl ?_
    refine aB rfl rfl (dP aa rfl rfl rfl rfl rfl rfl) rfl ?_
    refine aB rfl rfl (ke aa rfl rfl rfl) rfl ?_
    refine aB rfl rfl (ev aa rfl) rfl ?_
    refine aB rfl rfl (ev aa rfl) rfl ?_
    refine aB rfl rfl (ak rfl rfl rfl (ot (bC out).key p.key) rfl) rfl ?_
    iterate 2 refine an (ev aa rfl) rfl ?_
    apply gd;(case hj=>rfl);(case hl=>rfl)
    ·
     intro g90
     refine aB rfl rfl (ev aa rfl) rfl ?_
     refine aB rfl rfl (ev aa rfl) rfl ?_
     refine aB rfl rfl (ev aa rfl) rfl ?_
     refine aB rfl rfl (ev aa rfl) rfl ?_
     refine aB rfl rfl (ev aa rfl) rfl ?_
     refine aB rfl rfl (gA (l:=(bC out).c) aa rfl rfl rfl rfl rfl rfl (hla g80).2.1 (hla g80).2.2 rfl) rfl ?_
     refine aB rfl rfl (dP aa rfl rfl rfl rfl rfl rfl) rfl ?_
     refine aB rfl rfl (dP aa rfl rfl rfl rfl rfl rfl) rfl ?_
     refine aB rfl rfl (ke aa rfl rfl rfl) rfl ?_
     refine aB rfl rfl (ev aa rfl) rfl ?_
     refine an (ev aa rfl) rfl ?_
     refine CH.nil ?_
     refine ay rfl rfl rfl
    intro g90
    iterate 10 refine bU rfl rfl rfl rfl ?_
    refine an (ev aa rfl) rfl ?_
    refine CH.nil ?_
    refine ay rfl rfl rfl
   intro g80
   iterate 8 refine bU rfl rfl rfl rfl ?_
   iterate 2 refine an (ev aa rfl) rfl ?_
   iterate 10 refine bU rfl rfl rfl rfl ?_
   refine an (ev aa rfl) rfl ?_
   refine CH.nil ?_
   refine ay rfl rfl rfl
  refine qs (ao rfl (fun h101=>?_) (fun h101=>?_))
  ·
   have htp:cK out p=true:=by
    revert h101
    unfold cK
    by_cases q:0 < out.length
    ·
     have q1:0≤(out.length:Int) - 1:=by omega
     have q2:1≤(out.length:Int):=by omega
     simp[q,q1,q2]
    have q1:¬ (0≤(out.length:Int) - 1):=by omega
    have q2:¬ (1≤(out.length:Int)):=by omega
    simp[q,q1,q2]
   rw[if_pos htp] at hR
   have h0:0 < out.length:=by unfold cK at htp;simp at htp;exact htp.1
   have hk0:0≤(out.length:Int) - 1:=by omega
   have hat:(out.map Pc.c)[((out.length:Int) - 1).toNat]? = some (bC out).c:=by
    rw[show((out.length:Int) - 1).toNat=out.length - 1 by omega]
    exact dQ (by omega)
   have hset:(out.map Pc.c).set ((out.length:Int) - 1).toNat (dD (bC out) p).c=(out.set (out.length - 1) (dD (bC out) p)).map Pc.c:=by
    rw[show((out.length:Int) - 1).toNat=out.length - 1 by omega]
    exact iK
   refine W.eD aa [] [] [] [] 12 (by kernel_rfl) (by kernel_rfl) rfl rfl ?_
   refine' aJ (ev aa rfl) ?p_8 rfl rfl rfl (by kernel_rfl) rfl ?h_8
   case' h_8=>skip
   case p_8=>refine⟨fun ha=>(ae ha (by kernel_rfl)).elim,?_⟩ <;> intro ha <;> first | exact⟨ev aa rfl,fun h=>nomatch h⟩ | exact(ae ha (by kernel_rfl)).elim
   refine' aJ (ev aa rfl) ?p_9 rfl rfl rfl (by kernel_rfl) rfl ?h_9
   case' h_9=>skip
   case p_9=>refine⟨fun ha=>(ae ha (by kernel_rfl)).elim,?_⟩ <;> intro ha <;> first | exact⟨ev aa rfl,fun h=>nomatch h⟩ | exact(ae ha (by kernel_rfl)).elim
   refine' aJ (ev aa rfl) ?p_10 rfl rfl rfl (by kernel_rfl) rfl ?h_10
   case' h_10=>skip
   case p_10=>refine⟨fun ha=>(ae ha (by kernel_rfl)).elim,?_⟩ <;> intro ha <;> first | exact⟨ev aa rfl,fun h=>nomatch h⟩ | exact(ae ha (by kernel_rfl)).elim
   refine' aJ (ev aa rfl) ?p_11 rfl rfl rfl (by kernel_rfl) rfl ?h_11
   case' h_11=>skip
   case p_11=>refine⟨fun ha=>(ae ha (by kernel_rfl)).elim,?_⟩ <;> intro ha <;> first | exact⟨ev aa rfl,fun h=>nomatch h⟩ | exact(ae ha (by kernel_rfl)).elim
   refine' aJ (gA (l:=(bC out).c) aa rfl rfl rfl rfl rfl rfl hk0 hat rfl) ?p_12 rfl rfl rfl (by kernel_rfl) rfl ?h_12
   case' h_12=>skip
   case p_12=>refine⟨fun ha=>(ae ha (by kernel_rfl)).elim,?_⟩ <;> intro ha <;> first | exact⟨gA (l:=(bC out).c) aa rfl rfl rfl rfl rfl rfl hk0 hat rfl,fun h=>nomatch h⟩ | exact(ae ha (by kernel_rfl)).elim
   refine' aJ (dP aa rfl rfl rfl rfl rfl rfl) ?p_13 rfl rfl rfl (by kernel_rfl) rfl ?h_13
   case' h_13=>skip
   case p_13=>refine⟨fun ha=>(ae ha (by kernel_rfl)).elim,?_⟩ <;> intro ha <;> first | exact⟨dP aa rfl rfl rfl rfl rfl rfl,fun h=>nomatch h⟩ | exact(ae ha (by kernel_rfl)).elim
   refine' aJ (dP aa rfl rfl rfl rfl rfl rfl) ?p_14 rfl rfl rfl (by kernel_rfl) rfl ?h_14
   case' h_14=>skip
   case p_14=>refine⟨fun ha=>(ae ha (by kernel_rfl)).elim,?_⟩ <;> intro ha <;> first | exact⟨dP aa rfl rfl rfl rfl rfl rfl,fun h=>nomatch h⟩ | exact(ae ha (by kernel_rfl)).elim
   refine' aJ (ke aa rfl rfl rfl) ?p_15 rfl rfl rfl (by kernel_rfl) rfl ?h_15
   case' h_15=>skip
   case p_15=>refine⟨fun ha=>(ae ha (by kernel_rfl)).elim,?_⟩ <;> intro ha <;> first | exact⟨ke aa rfl rfl rfl,fun h=>nomatch h⟩ | exact(ae ha (by kernel_rfl)).elim
   refine' aJ (ev aa rfl) ?p_16 rfl rfl rfl (by kernel_rfl) rfl ?h_16
   case' h_16=>skip
   case p_16=>refine⟨fun ha=>(ae ha (by kernel_rfl)).elim,?_⟩ <;> intro ha <;> first | exact⟨ev aa rfl,fun h=>nomatch h⟩ | exact(ae ha (by kernel_rfl)).elim
   refine' aJ (ev aa rfl) ?p_17 rfl rfl rfl (by kernel_rfl) rfl ?h_17
   case' h_17=>skip
   case p_17=>refine⟨fun ha=>(ae ha (by kernel_rfl)).elim,?_⟩ <;> intro ha <;> first | exact⟨ev aa rfl,fun h=>nomatch h⟩ | exact(ae ha (by kernel_rfl)).elim
   refine' aJ (ev aa rfl) ?p_18 rfl rfl rfl (by kernel_rfl) rfl ?h_18
   case' h_18=>skip
   case p_18=>refine⟨fun ha=>(ae ha (by kernel_rfl)).elim,?_⟩ <;> intro ha <;> first | exact⟨ev aa rfl,fun h=>nomatch h⟩ | exact⟨bM aa rfl rfl rfl rfl,fun h=>nomatch h⟩ | exact⟨bL aa rfl rfl rfl rfl rfl,fun h=>nomatch h⟩ | exact(ae ha (by kernel_rfl)).elim
   refine' aJ (ev aa rfl) ?p_19 rfl rfl rfl (by kernel_rfl) rfl ?h_19
   case' h_19=>skip
   case p_19=>refine⟨fun ha=>(ae ha (by kernel_rfl)).elim,?_⟩ <;> intro ha <;> first | exact⟨ev aa rfl,fun h=>nomatch h⟩ | exact(ae ha (by kernel_rfl)).elim
   refine CD.nil ?_ rfl
   refine pu (gA (l:=(bC out).c) aa rfl rfl rfl rfl rfl rfl hk0 hat rfl) rfl ?_
   refine pu (dP aa rfl rfl rfl rfl rfl rfl) rfl ?_
   refine pu (dP aa rfl rfl rfl rfl rfl rfl) rfl ?_
   refine qa aa 11 rfl rfl rfl rfl hat rfl rfl rfl rfl rfl rfl hset rfl ?_
   refine WO.nil (aX (qs (W.region ?_)))
   iterate 2 refine pE rfl ?_
   refine WO.nil ?_
   have hbr:=htp
   (have _hb:cK out p=true:=hbr;refine W.aU [0,3] ⟨(j+1,out.set (out.length - 1) (dD (bC out) p)),?_⟩ ?_ rfl ?_ ⟨rfl,rfl,rfl,rfl,rfl,rfl,trivial⟩ ?_ trivial rfl)
   · exact⟨hlt,(by first | (rw[List.length_append];simp;omega) | (rw[List.length_set];omega)),hR⟩
   · dsimp only;omega
   · repeat' first | exact trivial | refine⟨rfl,?_⟩ | refine⟨aD (by assumption) (by assumption),?_⟩
   repeat' first | exact trivial | refine⟨rfl,?_⟩
  have htp:cK out p=false:=by
   revert h101
   unfold cK
   by_cases q:0 < out.length
   ·
    have q1:0≤(out.length:Int) - 1:=by omega
    have q2:1≤(out.length:Int):=by omega
    simp[q,q1,q2]
   have q1:¬ (0≤(out.length:Int) - 1):=by omega
   have q2:¬ (1≤(out.length:Int)):=by omega
   simp[q,q1,q2]
  rw[if_neg (by simp[htp])] at hR
  refine W.region (pE rfl (pE rfl (pu (aI aa rfl rfl rfl rfl rfl rfl rfl rfl rfl) rfl ?_)))
  refine iY (es2:=[p.c]) (r:=(out++[p]).map Pc.c) aa rfl rfl rfl rfl rfl rfl rfl rfl rfl rfl (jk _ _) (by rw[jk];exact cr _) (by show((out.map Pc.c).length+1)*40≤_;rw[List.length_map];omega) rfl ?_
  refine pE rfl (WO.nil (aX (qs (W.region ?_))))
  iterate 2 refine pE rfl ?_
  refine WO.nil ?_
  have hbr:=htp
  (have _hb:cK out p=false:=hbr;refine W.aU [0,3] ⟨(j+1,out++[p]),?_⟩ ?_ rfl ?_ ⟨rfl,rfl,rfl,rfl,rfl,rfl,trivial⟩ ?_ trivial rfl)
  · exact⟨hlt,(by first | (rw[List.length_append];simp;omega) | (rw[List.length_set];omega)),hR⟩
  · dsimp only;omega
  · repeat' first | exact trivial | refine⟨rfl,?_⟩ | refine⟨aD (by assumption) (by assumption),?_⟩
  repeat' first | exact trivial | refine⟨rfl,?_⟩
 rw[hd] at hR
 simp only[db] at hR
 refine W.exit (aN (aQ (aO (qs (W.seq (rN 11 rfl rfl rfl rfl ?_))))))
 refine wg 11 rfl rfl ?_
 refine W.region (pE rfl (pu (build aa rfl rfl rfl rfl) rfl ?_))
 refine a8 aa rfl rfl rfl (aR aa rfl rfl rfl rfl rfl rfl rfl rfl (WO.nil (qs ?_)))
 iterate 2 refine W.seq ?_
 refine W.region ?_
 iterate 3 refine pE rfl ?_
 refine WO.nil (qs (W.block (fv 3 1 rfl rfl rfl ?_)))
 refine W.len (t:=124) rfl rfl (fun hlen=>?_)
 try simp only[List.length_map,Ex.aF] at hlen
 refine W.aS (ι:={x:Nat×List (List aH) // match x with | (k,rows)=>k≤out.length∧rows=(out.take k).map a0})
  (fun x=>match x.1 with | (k,rows)=>[(4,.ptr 0 0),(19,.ptr 1 0),(126,.d (.v (.int .i64 ((k:Nat):Int))))]) [(124,_),(125,_)]
  (fun x=>match x.1 with | (k,rows)=>[(0,[.d (.v (.slice none 0 0)),.d (.v (.slice none 0 0))]),(1,[.d (.sl (CT0.1.map Col.c)),.own 2 (rows.map rc)])]) [] [2] 3 (fun x=>match x.1 with | (k,rows)=>out.length - k)
  [0,3,4] ⟨(0,[]),?_⟩ rfl ?_ ⟨rfl,rfl,rfl,rfl,trivial⟩ ?_ trivial rfl ?_
 · exact⟨Nat.zero_le _,rfl⟩
 · repeat' first | exact trivial | refine⟨rfl,?_⟩
 · repeat' first | exact trivial | refine⟨rfl,?_⟩
 rintro⟨⟨k,rows⟩,hk,hW⟩
 show W _ _ _ _ _ ⟨[(4,.ptr 0 0),(19,.ptr 1 0),(126,.d (.v (.int .i64 ((k:Nat):Int)))),(124,_),(125,_)],[(0,[.d (.v (.slice none 0 0)),.d (.v (.slice none 0 0))]),(1,[.d (.sl (CT0.1.map Col.c)),.own 2 (rows.map rc)])],[2],3⟩
 refine W.seq (W.region (pE rfl (WO.nil (qs (W.seq (a9 (l:=out) (k:=k) rfl (by simp[Ex.aF,aL]) hk (fun q hx hd hlt=>?_) (fun he hd=>?_)))))))
 ·
  have hq16:q.key.length≤16:=hkey q (by rw[←hR];exact List.mem_of_getElem? hx)
  have hrl:rows.length≤20000:=by rw[hW,List.length_map,List.length_take];rw[←hR] at hJn;omega
  have hrow:q.key++[⟨2,q.fr,B #[]⟩,⟨2,q.to,B #[]⟩]=a0 q:=rfl
  refine W.skip (qs (W.seq (W.block (W.seq (W.region (pu (indexAddr aa rfl rfl rfl rfl rfl rfl (Int.natCast_nonneg _) (aE hx) rfl) rfl ?_))))))
  refine pE rfl (a8 aa rfl rfl rfl (aR aa rfl rfl rfl rfl rfl rfl rfl rfl (WO.nil (qs ?_))))
  refine' W.eD aa [_,_] [[4,2],[5,2],[6,5]] [5,6,7] [4,14] 16 (by kernel_rfl) (by kernel_rfl) rfl rfl ?hL_20
  case' hL_20=>skip
  refine' aJ (ev aa rfl) ?p_21 rfl rfl rfl (by kernel_rfl) rfl ?h_21
  case' h_21=>skip
  refine' aJ (ev aa rfl) ?p_22 rfl rfl rfl (by kernel_rfl) rfl ?h_22
  case' h_22=>skip
  refine' aJ (ev aa rfl) ?p_23 rfl rfl rfl (by kernel_rfl) rfl ?h_23
  case' h_23=>skip
  refine' aJ (ev aa rfl) ?p_24 rfl rfl rfl (by kernel_rfl) rfl ?h_24
  case' h_24=>skip
  refine' kC ?x_25 rfl rfl rfl (by kernel_rfl) (fun h=>(ae h (by kernel_rfl)).elim) rfl ?h_25
  case x_25=>
   intro b hb g;cases b
   · exact(ae hb (by kernel_rfl)).elim
   refine fC rfl rfl rfl (lX q.key (by omega)) (by rfl) rfl rfl ?_
   refine WO.nil ?_
   refine' iD rfl ?_ ?_ ?_ ?_
   all_goals try exact rfl
  case' h_25=>skip
  refine' aJ (ev aa rfl) ?p_26 rfl rfl rfl (by kernel_rfl) rfl ?h_26
  case' h_26=>skip
  refine' aJ (ev aa rfl) ?p_27 rfl rfl rfl (by kernel_rfl) rfl ?h_27
  case' h_27=>skip
  refine' aJ (ev aa rfl) ?p_28 rfl rfl rfl (by kernel_rfl) rfl ?h_28
  case' h_28=>skip
  refine' aJ (build aa rfl rfl rfl rfl) ?p_29 rfl rfl rfl (by kernel_rfl) rfl ?h_29
  case' h_29=>skip
  refine' aJ (ev aa rfl) ?p_30 rfl rfl rfl (by kernel_rfl) rfl ?h_30
  case' h_30=>skip
  refine' aJ (ev aa rfl) ?p_31 rfl rfl rfl (by kernel_rfl) rfl ?h_31
  case' h_31=>skip
  refine' aJ (ev aa rfl) ?p_32 rfl rfl rfl (by kernel_rfl) rfl ?h_32
  case' h_32=>skip
  refine' aJ (build aa rfl rfl rfl rfl) ?p_33 rfl rfl rfl (by kernel_rfl) rfl ?h_33
  case' h_33=>skip
  refine' aJ (aI aa rfl rfl rfl rfl rfl rfl rfl rfl rfl) ?p_34 rfl rfl rfl (by kernel_rfl) rfl ?h_34
  case' h_34=>skip
  refine' kC ?x_35 rfl rfl rfl (by kernel_rfl) (fun h=>(ae h (by kernel_rfl)).elim) rfl ?h_35
  case x_35=>
   intro b hb g;cases b
   · exact(ae hb (by kernel_rfl)).elim
   refine dn (fn:=aH.c) (l:=q.key) (l2:=[⟨2,q.fr,B #[]⟩,⟨2,q.to,B #[]⟩]) aa rfl rfl rfl rfl rfl rfl rfl rfl rfl rfl (fun _=>rfl) (by show(q.key.length+2)*32≤_;omega) ?_
   refine WO.nil ?_
   refine' iD rfl ?_ ?_ ?_ ?_
   all_goals try exact rfl
  case' h_35=>skip
  case p_21=>refine⟨fun ha=>(ae ha (by kernel_rfl)).elim,?_,fun ha=>(ae ha (by kernel_rfl)).elim,?_,fun ha=>(ae ha (by kernel_rfl)).elim,?_⟩ <;> intro ha <;> first | exact⟨ev aa rfl,fun h=>nomatch h⟩ | exact(ae ha (by kernel_rfl)).elim
  case p_22=>refine⟨fun ha=>(ae ha (by kernel_rfl)).elim,?_,fun ha=>(ae ha (by kernel_rfl)).elim,?_,fun ha=>(ae ha (by kernel_rfl)).elim,?_⟩ <;> intro ha <;> first | exact⟨ev aa rfl,fun h=>nomatch h⟩ | exact⟨bM aa rfl rfl rfl rfl,fun h=>nomatch h⟩ | exact⟨bL aa rfl rfl rfl rfl rfl,fun h=>nomatch h⟩ | exact(ae ha (by kernel_rfl)).elim
  case p_23=>refine⟨fun ha=>(ae ha (by kernel_rfl)).elim,?_,fun ha=>(ae ha (by kernel_rfl)).elim,?_,fun ha=>(ae ha (by kernel_rfl)).elim,?_⟩ <;> intro ha <;> first | exact⟨ev aa rfl,fun h=>nomatch h⟩ | exact(ae ha (by kernel_rfl)).elim
  case p_24=>refine⟨fun ha=>(ae ha (by kernel_rfl)).elim,?_,fun ha=>(ae ha (by kernel_rfl)).elim,?_,fun ha=>(ae ha (by kernel_rfl)).elim,?_⟩ <;> intro ha <;> first | exact⟨ev aa rfl,fun h=>nomatch h⟩ | exact⟨bM aa rfl rfl rfl rfl,fun h=>nomatch h⟩ | exact⟨bL aa rfl rfl rfl rfl rfl,fun h=>nomatch h⟩ | exact(ae ha (by kernel_rfl)).elim
  case p_26=>refine⟨fun ha=>(ae ha (by kernel_rfl)).elim,?_,fun ha=>(ae ha (by kernel_rfl)).elim,?_,fun ha=>(ae ha (by kernel_rfl)).elim,?_⟩ <;> intro ha <;> first | exact⟨ev aa rfl,fun h=>nomatch h⟩ | exact(ae ha (by kernel_rfl)).elim
  case p_27=>refine⟨fun ha=>(ae ha (by kernel_rfl)).elim,?_,fun ha=>(ae ha (by kernel_rfl)).elim,?_,fun ha=>(ae ha (by kernel_rfl)).elim,?_⟩ <;> intro ha <;> first | exact⟨ev aa rfl,fun h=>nomatch h⟩ | exact(ae ha (by kernel_rfl)).elim
  case p_28=>refine⟨fun ha=>(ae ha (by kernel_rfl)).elim,?_,fun ha=>(ae ha (by kernel_rfl)).elim,?_,fun ha=>(ae ha (by kernel_rfl)).elim,?_⟩ <;> intro ha <;> first | exact⟨ev aa rfl,fun h=>nomatch h⟩ | exact⟨bM aa rfl rfl rfl rfl,fun h=>nomatch h⟩ | exact⟨bL aa rfl rfl rfl rfl rfl,fun h=>nomatch h⟩ | exact(ae ha (by kernel_rfl)).elim
  case p_29=>refine⟨fun ha=>(ae ha (by kernel_rfl)).elim,?_,fun ha=>(ae ha (by kernel_rfl)).elim,?_,fun ha=>(ae ha (by kernel_rfl)).elim,?_⟩ <;> intro ha <;> first | exact⟨build aa rfl rfl rfl rfl,fun h=>nomatch h⟩ | exact(ae ha (by kernel_rfl)).elim
  case p_30=>refine⟨fun ha=>(ae ha (by kernel_rfl)).elim,?_,fun ha=>(ae ha (by kernel_rfl)).elim,?_,fun ha=>(ae ha (by kernel_rfl)).elim,?_⟩ <;> intro ha <;> first | exact⟨ev aa rfl,fun h=>nomatch h⟩ | exact(ae ha (by kernel_rfl)).elim
  case p_31=>refine⟨fun ha=>(ae ha (by kernel_rfl)).elim,?_,fun ha=>(ae ha (by kernel_rfl)).elim,?_,fun ha=>(ae ha (by kernel_rfl)).elim,?_⟩ <;> intro ha <;> first | exact⟨ev aa rfl,fun h=>nomatch h⟩ | exact(ae ha (by kernel_rfl)).elim
  case p_32=>refine⟨fun ha=>(ae ha (by kernel_rfl)).elim,?_,fun ha=>(ae ha (by kernel_rfl)).elim,?_,fun ha=>(ae ha (by kernel_rfl)).elim,?_⟩ <;> intro ha <;> first | exact⟨ev aa rfl,fun h=>nomatch h⟩ | exact⟨bM aa rfl rfl rfl rfl,fun h=>nomatch h⟩ | exact⟨bL aa rfl rfl rfl rfl rfl,fun h=>nomatch h⟩ | exact(ae ha (by kernel_rfl)).elim
  case p_33=>refine⟨fun ha=>(ae ha (by kernel_rfl)).elim,?_,fun ha=>(ae ha (by kernel_rfl)).elim,?_,fun ha=>(ae ha (by kernel_rfl)).elim,?_⟩ <;> intro ha <;> first | exact⟨build aa rfl rfl rfl rfl,fun h=>nomatch h⟩ | exact(ae ha (by kernel_rfl)).elim
  case p_34=>refine⟨fun ha=>(ae ha (by kernel_rfl)).elim,?_,fun ha=>(ae ha (by kernel_rfl)).elim,?_,fun ha=>(ae ha (by kernel_rfl)).elim,?_⟩ <;> intro ha <;> first | exact⟨aI aa rfl rfl rfl rfl rfl rfl rfl rfl rfl,fun h=>nomatch h⟩ | exact(ae ha (by kernel_rfl)).elim
  refine' aJ (aI aa rfl rfl rfl rfl rfl rfl rfl rfl rfl) ?p_36 rfl rfl rfl (by kernel_rfl) rfl ?h_36
  case' h_36=>skip
  case p_36=>refine⟨fun ha=>(ae ha (by kernel_rfl)).elim,?_,fun ha=>(ae ha (by kernel_rfl)).elim,?_,fun ha=>(ae ha (by kernel_rfl)).elim,?_⟩ <;> intro ha <;> first | exact⟨aI aa rfl rfl rfl rfl rfl rfl rfl rfl rfl,fun h=>nomatch h⟩ | exact(ae ha (by kernel_rfl)).elim
  refine CD.nil ?_ rfl
  refine bJ (fn:=rc) (a:=a0 q) aa rfl rfl rfl rfl rfl rfl rfl rfl rfl rfl (fun _=>rfl) (by show(rows.length+1)*24≤_;omega) ?_
  refine pE rfl (aR aa rfl rfl rfl rfl rfl rfl rfl rfl (WO.nil (aX (qs (W.region ?_)))))
  iterate 2 refine pE rfl ?_
  refine WO.nil (W.aU [0,1,6] ⟨(k+1,rows++[a0 q]),?_⟩ ?_ rfl ?_ ⟨rfl,rfl,rfl,rfl,trivial⟩ ?_ trivial rfl)
  · exact⟨hlt,by rw[hW,List.take_add_one,hx];simp⟩
  · dsimp only;omega
  · repeat' first | exact trivial | refine⟨rfl,?_⟩ | refine⟨aD (by assumption) (by assumption),?_⟩
  repeat' first | exact trivial | refine⟨rfl,?_⟩
 have hg:bb a on=(⟨CT0.1,rows⟩,0):=by
  rw[hgo,hW,←hR,List.take_of_length_le (by have:=congrArg List.length hd;simp at this;omega)]
 refine W.exit (aN (aQ (aO (qs (W.seq (W.region (pE rfl (aR aa rfl rfl rfl rfl rfl rfl rfl rfl (pE rfl (WO.nil (qs ?_)))))))))))
 try refine cD 1 0 rfl rfl rfl ?_
 try refine cD 1 1 rfl rfl rfl ?_
 refine W.ret (QV.aq aa trivial rfl ?_)
 (rw[hg];rfl)
end Go.Proofs.YtjenenllmjlimaaGreat
namespace Go.Proofs.YtjenenllmjlimaaGreat
open Go.Ab Go.Tb
set_option maxRecDepth 10000
attribute [local irreducible] W WO Pu QS QB QL QF QV b7 CH QE
theorem sV (a:bo) (on:List ByteArray) (hon:on.length≤400) (hpos:pieces (cO a on) (bw a.cols aP) (bw a.cols bp) a.rows=[]):ax Tryz.prog 13 [.ag a.c,.d (.sl (on.map sc))]
  (.tup [.ag (bb a on).1.c,.d (.v (.int .i64 (bb a on).2))]) 0:=by
 have hcol:=kb 9 on [a] (by simp) hon
 rw[qP] at hcol
 obtain⟨CT0,hCT⟩:∃ c,dY 9 on a=c:=⟨_,rfl⟩
 rw[hCT] at hcol
 obtain⟨m0,hm0⟩:∃ i,bw a.cols aP=i:=⟨_,rfl⟩
 obtain⟨m1,hm1⟩:∃ i,bw a.cols bp=i:=⟨_,rfl⟩
 obtain⟨left,hleft⟩:∃ l,cO a on=l:=⟨_,rfl⟩
 rw[hm0,hm1,hleft] at hpos
 refine ax.fg aa (n:=150) (rs:=[.cell 4 25,.tmp 5]) Tryz.func13 (by kernel_rfl) rfl Tryz.ntmps13 Tryz.results13 rfl fun C hC hG=>?_
 refine W.seq (W.region (br rfl rfl rfl (a8 aa rfl rfl rfl (pE rfl (WO.nil (qs (W.seq (W.region (pE rfl (pE rfl (pu (aI aa rfl rfl rfl rfl rfl rfl rfl rfl rfl) rfl ?_)))))))))))
 refine pu (ak rfl rfl rfl hcol rfl) rfl ?_
 iterate 5 refine pE rfl ?_
 refine WO.nil (qs ?_)
 iterate 2 refine W.seq ?_
 refine W.region ?_
 iterate 2 refine pE rfl ?_
 refine WO.nil (qs (ao rfl (fun h30=>?_) (fun h30=>?_)))
 ·
  have he:CT0.2≠0:=by simpa using h30
  have hg:bb a on=(fL,CT0.2):=by unfold bb;rw[hCT,if_pos he]
  refine W.seq (W.region (pu (build aa rfl rfl rfl rfl) rfl ?_))
  refine pE rfl (aR aa rfl rfl rfl rfl rfl rfl rfl rfl (pE rfl (WO.nil (qs ?_))))
  try refine cD 1 0 rfl rfl rfl ?_
  try refine cD 1 1 rfl rfl rfl ?_
  refine W.ret (ah (QV.aq aa trivial rfl ?_))
  (rw[hg];rfl)
 have he:CT0.2=0:=by simpa using h30
 have hok:=yU (by rw[hCT];exact he)
 have hoo:=zU hok
 have haz:=eh hok.ga
 have hol:=hok.len
 have hra:=gW hok.ga
 obtain⟨srt,hsrt⟩:∃ s,cH bg (pieces left m0 m1 a.rows)=s:=⟨_,rfl⟩
 obtain⟨J,hJJ⟩:∃ s,db [] srt=s:=⟨_,rfl⟩
 have hgo:bb a on=(⟨CT0.1,J.map a0⟩,0):=by unfold bb jK;rw[hCT,if_neg (by simp[he]),hleft,hm0,hm1,hsrt,hJJ]
 have hpl:ax Tryz.prog 21 [.ag a.c,.d (.sl (on.map sc))] (.d (.sl (left.map nc))) 0:=by
  have:=eU a on (by omega)
  rw[gC (fun s hs=>by obtain⟨i,c,h1,_⟩:=hok.ons s hs;exact⟨i,h1⟩)] at this
  rw[←hleft];exact this
 have hpm:ax Tryz.prog 21 [.ag a.c,.d (.sl ([aP,bp].map sc))] (.d (.sl ([m0,m1].map nc))) 0:=by
  have:=eU a [aP,bp] (by simp)
  rw[gC (fun s hs=>by
   rcases List.mem_cons.1 hs with rfl | hs
   · obtain⟨i,c,h1,_⟩:=hok.fr;exact⟨i,h1⟩
   rcases List.mem_cons.1 hs with rfl | hs
   · obtain⟨i,c,h1,_⟩:=hok.to;exact⟨i,h1⟩
   cases hs)] at this
  rw[←hm0,←hm1];exact this
 have hll:left.length≤16:=by rw[←hleft];show(on.map _).length≤_;rw[List.length_map];exact hol
 rw[show on.map (bw a.cols)=left from hleft,hm0,hm1] at hoo
 refine W.skip (qs (W.seq (W.be aa (by kernel_rfl) ?_)))
 refine an (ev aa rfl) rfl ?_
 refine an (ev aa rfl) rfl ?_
 refine an (ak rfl rfl rfl hpl rfl) rfl ?_
 refine an (ev aa rfl) rfl ?_
 refine an (aI aa rfl rfl rfl rfl rfl rfl rfl rfl rfl) rfl ?_
 refine an (ak rfl rfl rfl hpm rfl) rfl ?_
 iterate 2 refine an (ev aa rfl) rfl ?_
 refine CH.nil ?_
 refine qs (W.seq (W.region ?_))
 iterate 2 refine pE rfl ?_
 refine WO.nil (qs ?_)
 iterate 2 refine W.seq ?_
 refine W.region (pE rfl (pE rfl ?_))
 iterate 2 refine pE rfl ?_
 refine WO.nil (qs (W.block (W.oL (d:=10) rfl rfl ?_)))
 refine W.len (t:=40) rfl rfl (fun hlen=>?_)
 try simp only[List.length_map,Ex.aF] at hlen
 refine W.aS (ι:={x:Nat×List Pc // match x with | (i,L)=>i≤a.rows.length∧L.length≤i∧L++pieces left m0 m1 (a.rows.drop i)=pieces left m0 m1 a.rows})
  (fun x=>match x.1 with | (i,L)=>[(4,.ptr 0 0),(10,.xs 1 (L.map Pc.c)),(42,.d (.v (.int .i64 ((i:Nat):Int))))]) [(6,_),(8,_),(9,_),(11,_),(40,_),(41,_)]
  (fun x=>match x.1 with | (i,L)=>[(0,[.d (.v (.slice none 0 0)),.d (.v (.slice none 0 0))])]) [] [1] 2 (fun x=>match x.1 with | (i,L)=>a.rows.length - i)
  [1,2] ⟨(0,[]),?_⟩ rfl ?_ ⟨rfl,rfl,rfl,rfl,rfl,rfl,rfl,rfl,rfl,rfl,rfl,rfl,trivial⟩ ?_ trivial rfl ?_
 · exact⟨Nat.zero_le _,Nat.zero_le _,rfl⟩
 · repeat' first | exact trivial | refine⟨rfl,?_⟩
 · repeat' first | exact trivial | refine⟨rfl,?_⟩
 rintro⟨⟨i,L⟩,hk,hn,hI⟩
 show W _ _ _ _ _ ⟨[(4,.ptr 0 0),(10,.xs 1 (L.map Pc.c)),(42,.d (.v (.int .i64 ((i:Nat):Int)))),(6,_),(8,_),(9,_),(11,_),(40,_),(41,_)],[(0,[.d (.v (.slice none 0 0)),.d (.v (.slice none 0 0))])],[1],2⟩
 refine W.seq (W.region (pE rfl (WO.nil (qs (W.seq (a9 (l:=a.rows) (k:=i) rfl (by simp[Ex.aF,aL]) hk (fun z hx hd hlt=>?_) (fun he hd=>?_)))))))
 ·
  rw[hd] at hI
  simp only[pieces] at hI
  have hxm:=List.mem_of_getElem? hx
  have hxl:=(hra z hxm).1
  have hsx:=oZ z m0 m1 (by rw[hxl];exact hoo.m0) (by rw[hxl];exact hoo.m1)
  have hpx:=jm z left (by omega) (fun q hq=>by rw[hxl];exact hoo.left q hq)
  refine W.skip (qs (W.seq (W.block (W.seq (W.region (pu (indexAddr aa rfl rfl rfl rfl rfl rfl (Int.natCast_nonneg _) (aE hx) rfl) rfl ?_))))))
  refine pE rfl (pE rfl (WO.nil (qs (W.seq (W.region ?_)))))
  iterate 2 refine pE rfl ?_
  refine pu (ak rfl rfl rfl hsx rfl) rfl ?_
  iterate 3 refine pE rfl ?_
  refine a8 aa rfl rfl rfl (aR aa rfl rfl rfl rfl rfl rfl rfl rfl (pE rfl (WO.nil (qs (W.seq ?_)))))
  apply aC;(case hb=>rfl)
  ·
   iterate 2 refine pE rfl ?_
   apply eI;(case hj=>rfl);(case hl=>rfl)
   ·
    intro g53
    refine ab rfl rfl (pE rfl (ab rfl rfl (pE rfl (ab rfl rfl ?_))))
    iterate 2 refine pE rfl ?_
    refine WO.nil (ay rfl rfl rfl)
   intro g53
   iterate 3 refine ar rfl rfl rfl rfl ?_
   refine pE rfl (WO.nil (ay rfl rfl rfl))
  refine qs (ao rfl (fun h57=>?_) (fun h57=>?_))
  ·
   have hin:eJ z m0 m1=true:=by
    revert h57
    unfold eJ
    cases cM z m0 m1 <;> simp
   rw[if_pos hin] at hI
   refine W.eD aa [] [] [] [] 7 (by kernel_rfl) (by kernel_rfl) rfl rfl ?_
   refine' aJ (ev aa rfl) ?p_1 rfl rfl rfl (by kernel_rfl) rfl ?h_1
   case' h_1=>skip
   case p_1=>refine⟨fun ha=>(ae ha (by kernel_rfl)).elim,?_⟩ <;> intro ha <;> first | exact⟨ev aa rfl,fun h=>nomatch h⟩ | exact(ae ha (by kernel_rfl)).elim
   refine' aJ (ev aa rfl) ?p_2 rfl rfl rfl (by kernel_rfl) rfl ?h_2
   case' h_2=>skip
   case p_2=>refine⟨fun ha=>(ae ha (by kernel_rfl)).elim,?_⟩ <;> intro ha <;> first | exact⟨ev aa rfl,fun h=>nomatch h⟩ | exact(ae ha (by kernel_rfl)).elim
   refine' aJ (ev aa rfl) ?p_3 rfl rfl rfl (by kernel_rfl) rfl ?h_3
   case' h_3=>skip
   case p_3=>refine⟨fun ha=>(ae ha (by kernel_rfl)).elim,?_⟩ <;> intro ha <;> first | exact⟨ev aa rfl,fun h=>nomatch h⟩ | exact(ae ha (by kernel_rfl)).elim
   refine' aJ (ak rfl rfl rfl hpx rfl) ?p_4 rfl rfl rfl (by kernel_rfl) rfl ?h_4
   case' h_4=>skip
   case p_4=>refine⟨fun ha=>(ae ha (by kernel_rfl)).elim,?_⟩ <;> intro ha <;> first | exact⟨ak rfl rfl rfl hpx rfl,fun h=>nomatch h⟩ | exact(ae ha (by kernel_rfl)).elim
   refine' aJ (ev aa rfl) ?p_5 rfl rfl rfl (by kernel_rfl) rfl ?h_5
   case' h_5=>skip
   case p_5=>refine⟨fun ha=>(ae ha (by kernel_rfl)).elim,?_⟩ <;> intro ha <;> first | exact⟨ev aa rfl,fun h=>nomatch h⟩ | exact⟨bM aa rfl rfl rfl rfl,fun h=>nomatch h⟩ | exact⟨bL aa rfl rfl rfl rfl rfl,fun h=>nomatch h⟩ | exact(ae ha (by kernel_rfl)).elim
   refine' aJ (build aa rfl rfl rfl rfl) ?p_6 rfl rfl rfl (by kernel_rfl) rfl ?h_6
   case' h_6=>skip
   case p_6=>refine⟨fun ha=>(ae ha (by kernel_rfl)).elim,?_⟩ <;> intro ha <;> first | exact⟨build aa rfl rfl rfl rfl,fun h=>nomatch h⟩ | exact(ae ha (by kernel_rfl)).elim
   refine' aJ (aI aa rfl rfl rfl rfl rfl rfl rfl rfl rfl) ?p_7 rfl rfl rfl (by kernel_rfl) rfl ?h_7
   case' h_7=>skip
   case p_7=>refine⟨fun ha=>(ae ha (by kernel_rfl)).elim,?_⟩ <;> intro ha <;> first | exact⟨aI aa rfl rfl rfl rfl rfl rfl rfl rfl rfl,fun h=>nomatch h⟩ | exact(ae ha (by kernel_rfl)).elim
   refine CD.nil ?_ rfl
   refine iY (es2:=[(gK left m0 m1 z).c]) (r:=(L++[gK left m0 m1 z]).map Pc.c) aa rfl rfl rfl rfl rfl rfl rfl rfl rfl rfl (jk _ _) (by rw[jk];exact cr _) (by show((L.map Pc.c).length+1)*40≤_;rw[List.length_map];omega) rfl ?_
   refine pE rfl (WO.nil (aX (qs (W.region ?_))))
   iterate 2 refine pE rfl ?_
   refine WO.nil ?_
   have hbr:=hin
   (have _hb:eJ z m0 m1=true:=hbr;refine W.aU [0,3] ⟨(i+1,L++[gK left m0 m1 z]),?_⟩ ?_ rfl ?_ ⟨rfl,rfl,rfl,rfl,rfl,rfl,rfl,rfl,rfl,rfl,rfl,rfl,trivial⟩ ?_ trivial rfl)
   · exact⟨hlt,(by first | (rw[List.length_append];simp;omega) | omega),(by first | exact hI | (rw[List.append_assoc];exact hI))⟩
   · dsimp only;omega
   · repeat' first | exact trivial | refine⟨rfl,?_⟩ | refine⟨aD (by assumption) (by assumption),?_⟩
   repeat' first | exact trivial | refine⟨rfl,?_⟩
  have hin:eJ z m0 m1=false:=by
   revert h57
   unfold eJ
   cases cM z m0 m1 <;> simp
  rw[if_neg (by simp[hin])] at hI
  refine W.skip (aX (qs (W.region ?_)))
  iterate 2 refine pE rfl ?_
  refine WO.nil ?_
  have hbr:=hin
  (have _hb:eJ z m0 m1=false:=hbr;refine W.aU [0,1] ⟨(i+1,L),?_⟩ ?_ rfl ?_ ⟨rfl,rfl,rfl,rfl,rfl,rfl,rfl,rfl,rfl,rfl,rfl,rfl,trivial⟩ ?_ trivial rfl)
  · exact⟨hlt,(by first | (rw[List.length_append];simp;omega) | omega),(by first | exact hI | (rw[List.append_assoc];exact hI))⟩
  · dsimp only;omega
  · repeat' first | exact trivial | refine⟨rfl,?_⟩ | refine⟨aD (by assumption) (by assumption),?_⟩
  repeat' first | exact trivial | refine⟨rfl,?_⟩
 rw[hd] at hI
 simp only[pieces,List.append_nil] at hI
 rw[←hI] at hpos hsrt
 have hL2:L.length≤20000:=by omega
 have hst:cH bg L=srt:=hsrt
 have hsl0:srt.length=L.length:=by rw[←hst];exact(dI bg L).len
 have hkey:∀ p∈J,p.key.length≤16:=by
  have h1:∀ p∈srt,p.key.length=left.length:=fun p hp=>by
   have h2:p∈L:=by rw[←hst] at hp;exact(dI bg L).perm.mem_iff.1 hp
   rw[hI] at h2
   exact kH left m0 m1 a.rows p h2
  intro p hp
  rw[←hJJ] at hp
  have:=lT srt [] h1 (fun p hp=>nomatch hp) p hp
  omega
 have hJn:J.length≤20000:=by rw[←hJJ];have:=lJ srt [];simp at this;omega
 refine W.exit (aN (aQ (aO (qs (W.seq ?_)))))
 have hL0:L=[]:=hpos
 subst hL0
 have hs0:srt=[]:=List.length_eq_zero_iff.1 hsl0
 subst hs0
 refine rN 10 rfl rfl rfl rfl ?_
 refine wg 10 rfl rfl ?_
 refine W.region (pE rfl (pu (ak rfl rfl rfl rD rfl) rfl ?_))
 refine WO.nil (qs ?_)
 iterate 2 refine W.seq ?_
 refine W.region ?_
 iterate 3 refine pE rfl ?_
 refine WO.nil (qs (W.block (W.oL (d:=11) rfl rfl ?_)))
 have hsm:([]:List Pc).length≤maxLen:=by simp only[maxLen];omega
 refine W.aS (ι:={x:Nat×List Pc // match x with | (j,out)=>j≤([]:List Pc).length∧out.length≤j∧db out (([]:List Pc).drop j)=J})
  (fun x=>match x.1 with | (j,out)=>[(4,.ptr 0 0),(11,.xs 1 (out.map Pc.c)),(71,.d (.v (.int .i64 ((j:Nat):Int))))]) [(6,_),(69,_),(70,_)]
  (fun x=>match x.1 with | (j,out)=>[(0,[.d (.v (.slice none 0 0)),.d (.v (.slice none 0 0))])]) [] [1] 2 (fun x=>match x.1 with | (j,out)=>([]:List Pc).length - j)
  [0,3] ⟨(0,[]),?_⟩ rfl ?_ ⟨rfl,rfl,rfl,rfl,rfl,rfl,trivial⟩ ?_ trivial rfl ?_
 · exact⟨Nat.zero_le _,Nat.zero_le _,hJJ⟩
 · repeat' first | exact trivial | refine⟨rfl,?_⟩
 · repeat' first | exact trivial | refine⟨rfl,?_⟩
 rintro⟨⟨j,out⟩,hk,hn2,hR⟩
 show W _ _ _ _ _ ⟨[(4,.ptr 0 0),(11,.xs 1 (out.map Pc.c)),(71,.d (.v (.int .i64 ((j:Nat):Int)))),(6,_),(69,_),(70,_)],[(0,[.d (.v (.slice none 0 0)),.d (.v (.slice none 0 0))])],[1],2⟩
 refine W.seq (W.region (pE rfl (WO.nil (qs (W.seq (a9 (l:=([]:List Pc)) (k:=j) rfl (by simp[Ex.aF,aL]) hk (fun p hx hd hlt=>?_) (fun he hd=>?_)))))))
 ·
  rw[hd] at hR
  simp only[db] at hR
  have hsub:IntKind.i64.wrap (((out.map Pc.c).length:Int) - 1)=((out.length:Int) - 1):=by rw[List.length_map,wrap64 (by omega)]
  have hla:∀ h:decide (0≤(out.length:Int) - 1)=true,0 < out.length∧0≤(out.length:Int) - 1∧(out.map Pc.c)[((out.length:Int) - 1).toNat]? = some (bC out).c:=by
   intro h
   have h0:0 < out.length:=by simp at h;omega
   refine⟨h0,by omega,?_⟩
   rw[show((out.length:Int) - 1).toNat=out.length - 1 by omega]
   exact dQ (by omega)
  refine W.skip (qs (W.seq (W.block (W.seq (W.region (pu (indexAddr aa rfl rfl rfl rfl rfl rfl (Int.natCast_nonneg _) (aE hx) rfl) rfl ?_))))))
  refine pE rfl (a8 aa rfl rfl rfl (aR aa rfl rfl rfl rfl rfl rfl rfl rfl (WO.nil (qs (W.seq (W.region (pE rfl (pu (vJ aa rfl rfl rfl rfl) rfl ?_))))))))
  refine pu (bH (ev aa rfl) hsub) rfl ?_
  refine pE rfl (WO.nil (qs (W.seq ?_)))
  apply iV aa;(case hb=>rfl);(case hB=>kernel_rfl)
  ·
   iterate 3 refine an (ev aa rfl) rfl ?_
   apply gd;(case hj=>rfl);(case hl=>rfl)
   ·
    intro g80
    refine aB rfl rfl (ev aa rfl) rfl ?_
    refine aB rfl rfl (ev aa rfl) rfl ?_
    refine aB rfl rfl (gA (l:=(bC out).c) aa rfl rfl rfl rfl rfl rfl (hla g80).2.1 (hla g80).2.2 rfl) rfl ?_
    refine aB rfl rfl (dP aa rfl rfl rfl rfl rfl rfl) rfl ?_
    refine aB rfl rfl (ke aa rfl rfl rfl) rfl ?_
    refine aB rfl rfl (ev aa rfl) rfl ?_
    refine aB rfl rfl (ev aa rfl) rfl ?_
    refine aB rfl rfl (ak rfl rfl rfl (ot (bC out).key p.key) rfl) rfl ?_
    iterate 2 refine an (ev aa rfl) rfl ?_
    apply gd;(case hj=>rfl);(case hl=>rfl)
    ·
     intro g90
     refine aB rfl rfl (ev aa rfl) rfl ?_
     refine aB rfl rfl (ev aa rfl) rfl ?_
     refine aB rfl rfl (ev aa rfl) rfl ?_
     refine aB rfl rfl (ev aa rfl) rfl ?_
     refine aB rfl rfl (ev aa rfl) rfl ?_
     refine aB rfl rfl (gA (l:=(bC out).c) aa rfl rfl rfl rfl rfl rfl (hla g80).2.1 (hla g80).2.2 rfl) rfl ?_
     refine aB rfl rfl (dP aa rfl rfl rfl rfl rfl rfl) rfl ?_
     refine aB rfl rfl (dP aa rfl rfl rfl rfl rfl rfl) rfl ?_
     refine aB rfl rfl (ke aa rfl rfl rfl) rfl ?_
     refine aB rfl rfl (ev aa rfl) rfl ?_
     refine an (ev aa rfl) rfl ?_
     refine CH.nil ?_
     refine ay rfl rfl rfl
    intro g90
    iterate 10 refine bU rfl rfl rfl rfl ?_
    refine an (ev aa rfl) rfl ?_
    refine CH.nil ?_
    refine ay rfl rfl rfl
   intro g80
   iterate 8 refine bU rfl rfl rfl rfl ?_
   iterate 2 refine an (ev aa rfl) rfl ?_
   iterate 10 refine bU rfl rfl rfl rfl ?_
   refine an (ev aa rfl) rfl ?_
   refine CH.nil ?_
   refine ay rfl rfl rfl
  refine qs (ao rfl (fun h101=>?_) (fun h101=>?_))
  ·
   have htp:cK out p=true:=by
    revert h101
    unfold cK
    by_cases q:0 < out.length
    ·
     have q1:0≤(out.length:Int) - 1:=by omega
     have q2:1≤(out.length:Int):=by omega
     simp[q,q1,q2]
    have q1:¬ (0≤(out.length:Int) - 1):=by omega
    have q2:¬ (1≤(out.length:Int)):=by omega
    simp[q,q1,q2]
   rw[if_pos htp] at hR
   have h0:0 < out.length:=by unfold cK at htp;simp at htp;exact htp.1
   have hk0:0≤(out.length:Int) - 1:=by omega
   have hat:(out.map Pc.c)[((out.length:Int) - 1).toNat]? = some (bC out).c:=by
    rw[show((out.length:Int) - 1).toNat=out.length - 1 by omega]
    exact dQ (by omega)
   have hset:(out.map Pc.c).set ((out.length:Int) - 1).toNat (dD (bC out) p).c=(out.set (out.length - 1) (dD (bC out) p)).map Pc.c:=by
    rw[show((out.length:Int) - 1).toNat=out.length - 1 by omega]
    exact iK
   refine W.eD aa [] [] [] [] 12 (by kernel_rfl) (by kernel_rfl) rfl rfl ?_
   refine' aJ (ev aa rfl) ?p_8 rfl rfl rfl (by kernel_rfl) rfl ?h_8
   case' h_8=>skip
   case p_8=>refine⟨fun ha=>(ae ha (by kernel_rfl)).elim,?_⟩ <;> intro ha <;> first | exact⟨ev aa rfl,fun h=>nomatch h⟩ | exact(ae ha (by kernel_rfl)).elim
   refine' aJ (ev aa rfl) ?p_9 rfl rfl rfl (by kernel_rfl) rfl ?h_9
   case' h_9=>skip
   case p_9=>refine⟨fun ha=>(ae ha (by kernel_rfl)).elim,?_⟩ <;> intro ha <;> first | exact⟨ev aa rfl,fun h=>nomatch h⟩ | exact(ae ha (by kernel_rfl)).elim
   refine' aJ (ev aa rfl) ?p_10 rfl rfl rfl (by kernel_rfl) rfl ?h_10
   case' h_10=>skip
   case p_10=>refine⟨fun ha=>(ae ha (by kernel_rfl)).elim,?_⟩ <;> intro ha <;> first | exact⟨ev aa rfl,fun h=>nomatch h⟩ | exact(ae ha (by kernel_rfl)).elim
   refine' aJ (ev aa rfl) ?p_11 rfl rfl rfl (by kernel_rfl) rfl ?h_11
   case' h_11=>skip
   case p_11=>refine⟨fun ha=>(ae ha (by kernel_rfl)).elim,?_⟩ <;> intro ha <;> first | exact⟨ev aa rfl,fun h=>nomatch h⟩ | exact(ae ha (by kernel_rfl)).elim
   refine' aJ (gA (l:=(bC out).c) aa rfl rfl rfl rfl rfl rfl hk0 hat rfl) ?p_12 rfl rfl rfl (by kernel_rfl) rfl ?h_12
   case' h_12=>skip
   case p_12=>refine⟨fun ha=>(ae ha (by kernel_rfl)).elim,?_⟩ <;> intro ha <;> first | exact⟨gA (l:=(bC out).c) aa rfl rfl rfl rfl rfl rfl hk0 hat rfl,fun h=>nomatch h⟩ | exact(ae ha (by kernel_rfl)).elim
   refine' aJ (dP aa rfl rfl rfl rfl rfl rfl) ?p_13 rfl rfl rfl (by kernel_rfl) rfl ?h_13
   case' h_13=>skip
   case p_13=>refine⟨fun ha=>(ae ha (by kernel_rfl)).elim,?_⟩ <;> intro ha <;> first | exact⟨dP aa rfl rfl rfl rfl rfl rfl,fun h=>nomatch h⟩ | exact(ae ha (by kernel_rfl)).elim
   refine' aJ (dP aa rfl rfl rfl rfl rfl rfl) ?p_14 rfl rfl rfl (by kernel_rfl) rfl ?h_14
   case' h_14=>skip
   case p_14=>refine⟨fun ha=>(ae ha (by kernel_rfl)).elim,?_⟩ <;> intro ha <;> first | exact⟨dP aa rfl rfl rfl rfl rfl rfl,fun h=>nomatch h⟩ | exact(ae ha (by kernel_rfl)).elim
   refine' aJ (ke aa rfl rfl rfl) ?p_15 rfl rfl rfl (by kernel_rfl) rfl ?h_15
   case' h_15=>skip
   case p_15=>refine⟨fun ha=>(ae ha (by kernel_rfl)).elim,?_⟩ <;> intro ha <;> first | exact⟨ke aa rfl rfl rfl,fun h=>nomatch h⟩ | exact(ae ha (by kernel_rfl)).elim
   refine' aJ (ev aa rfl) ?p_16 rfl rfl rfl (by kernel_rfl) rfl ?h_16
   case' h_16=>skip
   case p_16=>refine⟨fun ha=>(ae ha (by kernel_rfl)).elim,?_⟩ <;> intro ha <;> first | exact⟨ev aa rfl,fun h=>nomatch h⟩ | exact(ae ha (by kernel_rfl)).elim
   refine' aJ (ev aa rfl) ?p_17 rfl rfl rfl (by kernel_rfl) rfl ?h_17
   case' h_17=>skip
   case p_17=>refine⟨fun ha=>(ae ha (by kernel_rfl)).elim,?_⟩ <;> intro ha <;> first | exact⟨ev aa rfl,fun h=>nomatch h⟩ | exact(ae ha (by kernel_rfl)).elim
   refine' aJ (ev aa rfl) ?p_18 rfl rfl rfl (by kernel_rfl) rfl ?h_18
   case' h_18=>skip
   case p_18=>refine⟨fun ha=>(ae ha (by kernel_rfl)).elim,?_⟩ <;> intro ha <;> first | exact⟨ev aa rfl,fun h=>nomatch h⟩ | exact⟨bM aa rfl rfl rfl rfl,fun h=>nomatch h⟩ | exact⟨bL aa rfl rfl rfl rfl rfl,fun h=>nomatch h⟩ | exact(ae ha (by kernel_rfl)).elim
   refine' aJ (ev aa rfl) ?p_19 rfl rfl rfl (by kernel_rfl) rfl ?h_19
   case' h_19=>skip
   case p_19=>refine⟨fun ha=>(ae ha (by kernel_rfl)).elim,?_⟩ <;> intro ha <;> first | exact⟨ev aa rfl,fun h=>nomatch h⟩ | exact(ae ha (by kernel_rfl)).elim
   refine CD.nil ?_ rfl
   refine pu (gA (l:=(bC out).c) aa rfl rfl rfl rfl rfl rfl hk0 hat rfl) rfl ?_
   refine pu (dP aa rfl rfl rfl rfl rfl rfl) rfl ?_
   refine pu (dP aa rfl rfl rfl rfl rfl rfl) rfl ?_
   refine qa aa 11 rfl rfl rfl rfl hat rfl rfl rfl rfl rfl rfl hset rfl ?_
   refine WO.nil (aX (qs (W.region ?_)))
   iterate 2 refine pE rfl ?_
   refine WO.nil ?_
   have hbr:=htp
   (have _hb:cK out p=true:=hbr;refine W.aU [0,3] ⟨(j+1,out.set (out.length - 1) (dD (bC out) p)),?_⟩ ?_ rfl ?_ ⟨rfl,rfl,rfl,rfl,rfl,rfl,trivial⟩ ?_ trivial rfl)
   · exact⟨hlt,(by first | (rw[List.length_append];simp;omega) | (rw[List.length_set];omega)),hR⟩
   · dsimp only;omega
   · repeat' first | exact trivial | refine⟨rfl,?_⟩ | refine⟨aD (by assumption) (by assumption),?_⟩
   repeat' first | exact trivial | refine⟨rfl,?_⟩
  have htp:cK out p=false:=by
   revert h101
   unfold cK
   by_cases q:0 < out.length
   ·
    have q1:0≤(out.length:Int) - 1:=by omega
    have q2:1≤(out.length:Int):=by omega
    simp[q,q1,q2]
   have q1:¬ (0≤(out.length:Int) - 1):=by omega
   have q2:¬ (1≤(out.length:Int)):=by omega
   simp[q,q1,q2]
  rw[if_neg (by simp[htp])] at hR
  refine W.region (pE rfl (pE rfl (pu (aI aa rfl rfl rfl rfl rfl rfl rfl rfl rfl) rfl ?_)))
  refine iY (es2:=[p.c]) (r:=(out++[p]).map Pc.c) aa rfl rfl rfl rfl rfl rfl rfl rfl rfl rfl (jk _ _) (by rw[jk];exact cr _) (by show((out.map Pc.c).length+1)*40≤_;rw[List.length_map];omega) rfl ?_
  refine pE rfl (WO.nil (aX (qs (W.region ?_))))
  iterate 2 refine pE rfl ?_
  refine WO.nil ?_
  have hbr:=htp
  (have _hb:cK out p=false:=hbr;refine W.aU [0,3] ⟨(j+1,out++[p]),?_⟩ ?_ rfl ?_ ⟨rfl,rfl,rfl,rfl,rfl,rfl,trivial⟩ ?_ trivial rfl)
  · exact⟨hlt,(by first | (rw[List.length_append];simp;omega) | (rw[List.length_set];omega)),hR⟩
  · dsimp only;omega
  · repeat' first | exact trivial | refine⟨rfl,?_⟩ | refine⟨aD (by assumption) (by assumption),?_⟩
  repeat' first | exact trivial | refine⟨rfl,?_⟩
 rw[hd] at hR
 simp only[db] at hR
 refine W.exit (aN (aQ (aO (qs (W.seq (rN 11 rfl rfl rfl rfl ?_))))))
 refine wg 11 rfl rfl ?_
 refine W.region (pE rfl (pu (build aa rfl rfl rfl rfl) rfl ?_))
 refine a8 aa rfl rfl rfl (aR aa rfl rfl rfl rfl rfl rfl rfl rfl (WO.nil (qs ?_)))
 iterate 2 refine W.seq ?_
 refine W.region ?_
 iterate 3 refine pE rfl ?_
 refine WO.nil (qs (W.block (fv 3 1 rfl rfl rfl ?_)))
 refine W.len (t:=124) rfl rfl (fun hlen=>?_)
 try simp only[List.length_map,Ex.aF] at hlen
 refine W.aS (ι:={x:Nat×List (List aH) // match x with | (k,rows)=>k≤out.length∧rows=(out.take k).map a0})
  (fun x=>match x.1 with | (k,rows)=>[(4,.ptr 0 0),(19,.ptr 1 0),(126,.d (.v (.int .i64 ((k:Nat):Int))))]) [(124,_),(125,_)]
  (fun x=>match x.1 with | (k,rows)=>[(0,[.d (.v (.slice none 0 0)),.d (.v (.slice none 0 0))]),(1,[.d (.sl (CT0.1.map Col.c)),.own 2 (rows.map rc)])]) [] [2] 3 (fun x=>match x.1 with | (k,rows)=>out.length - k)
  [0,3,4] ⟨(0,[]),?_⟩ rfl ?_ ⟨rfl,rfl,rfl,rfl,trivial⟩ ?_ trivial rfl ?_
 · exact⟨Nat.zero_le _,rfl⟩
 · repeat' first | exact trivial | refine⟨rfl,?_⟩
 · repeat' first | exact trivial | refine⟨rfl,?_⟩
 rintro⟨⟨k,rows⟩,hk,hW⟩
 show W _ _ _ _ _ ⟨[(4,.ptr 0 0),(19,.ptr 1 0),(126,.d (.v (.int .i64 ((k:Nat):Int)))),(124,_),(125,_)],[(0,[.d (.v (.slice none 0 0)),.d (.v (.slice none 0 0))]),(1,[.d (.sl (CT0.1.map Col.c)),.own 2 (rows.map rc)])],[2],3⟩
 refine W.seq (W.region (pE rfl (WO.nil (qs (W.seq (a9 (l:=out) (k:=k) rfl (by simp[Ex.aF,aL]) hk (fun q hx hd hlt=>?_) (fun he hd=>?_)))))))
 ·
  have hq16:q.key.length≤16:=hkey q (by rw[←hR];exact List.mem_of_getElem? hx)
  have hrl:rows.length≤20000:=by rw[hW,List.length_map,List.length_take];rw[←hR] at hJn;omega
  have hrow:q.key++[⟨2,q.fr,B #[]⟩,⟨2,q.to,B #[]⟩]=a0 q:=rfl
  refine W.skip (qs (W.seq (W.block (W.seq (W.region (pu (indexAddr aa rfl rfl rfl rfl rfl rfl (Int.natCast_nonneg _) (aE hx) rfl) rfl ?_))))))
  refine pE rfl (a8 aa rfl rfl rfl (aR aa rfl rfl rfl rfl rfl rfl rfl rfl (WO.nil (qs ?_))))
  refine' W.eD aa [_,_] [[4,2],[5,2],[6,5]] [5,6,7] [4,14] 16 (by kernel_rfl) (by kernel_rfl) rfl rfl ?hL_20
  case' hL_20=>skip
  refine' aJ (ev aa rfl) ?p_21 rfl rfl rfl (by kernel_rfl) rfl ?h_21
  case' h_21=>skip
  refine' aJ (ev aa rfl) ?p_22 rfl rfl rfl (by kernel_rfl) rfl ?h_22
  case' h_22=>skip
  refine' aJ (ev aa rfl) ?p_23 rfl rfl rfl (by kernel_rfl) rfl ?h_23
  case' h_23=>skip
  refine' aJ (ev aa rfl) ?p_24 rfl rfl rfl (by kernel_rfl) rfl ?h_24
  case' h_24=>skip
  refine' kC ?x_25 rfl rfl rfl (by kernel_rfl) (fun h=>(ae h (by kernel_rfl)).elim) rfl ?h_25
  case x_25=>
   intro b hb g;cases b
   · exact(ae hb (by kernel_rfl)).elim
   refine fC rfl rfl rfl (lX q.key (by omega)) (by rfl) rfl rfl ?_
   refine WO.nil ?_
   refine' iD rfl ?_ ?_ ?_ ?_
   all_goals try exact rfl
  case' h_25=>skip
  refine' aJ (ev aa rfl) ?p_26 rfl rfl rfl (by kernel_rfl) rfl ?h_26
  case' h_26=>skip
  refine' aJ (ev aa rfl) ?p_27 rfl rfl rfl (by kernel_rfl) rfl ?h_27
  case' h_27=>skip
  refine' aJ (ev aa rfl) ?p_28 rfl rfl rfl (by kernel_rfl) rfl ?h_28
  case' h_28=>skip
  refine' aJ (build aa rfl rfl rfl rfl) ?p_29 rfl rfl rfl (by kernel_rfl) rfl ?h_29
  case' h_29=>skip
  refine' aJ (ev aa rfl) ?p_30 rfl rfl rfl (by kernel_rfl) rfl ?h_30
  case' h_30=>skip
  refine' aJ (ev aa rfl) ?p_31 rfl rfl rfl (by kernel_rfl) rfl ?h_31
  case' h_31=>skip
  refine' aJ (ev aa rfl) ?p_32 rfl rfl rfl (by kernel_rfl) rfl ?h_32
  case' h_32=>skip
  refine' aJ (build aa rfl rfl rfl rfl) ?p_33 rfl rfl rfl (by kernel_rfl) rfl ?h_33
  case' h_33=>skip
  refine' aJ (aI aa rfl rfl rfl rfl rfl rfl rfl rfl rfl) ?p_34 rfl rfl rfl (by kernel_rfl) rfl ?h_34
  case' h_34=>skip
  refine' kC ?x_35 rfl rfl rfl (by kernel_rfl) (fun h=>(ae h (by kernel_rfl)).elim) rfl ?h_35
  case x_35=>
   intro b hb g;cases b
   · exact(ae hb (by kernel_rfl)).elim
   refine dn (fn:=aH.c) (l:=q.key) (l2:=[⟨2,q.fr,B #[]⟩,⟨2,q.to,B #[]⟩]) aa rfl rfl rfl rfl rfl rfl rfl rfl rfl rfl (fun _=>rfl) (by show(q.key.length+2)*32≤_;omega) ?_
   refine WO.nil ?_
   refine' iD rfl ?_ ?_ ?_ ?_
   all_goals try exact rfl
  case' h_35=>skip
  case p_21=>refine⟨fun ha=>(ae ha (by kernel_rfl)).elim,?_,fun ha=>(ae ha (by kernel_rfl)).elim,?_,fun ha=>(ae ha (by kernel_rfl)).elim,?_⟩ <;> intro ha <;> first | exact⟨ev aa rfl,fun h=>nomatch h⟩ | exact(ae ha (by kernel_rfl)).elim
  case p_22=>refine⟨fun ha=>(ae ha (by kernel_rfl)).elim,?_,fun ha=>(ae ha (by kernel_rfl)).elim,?_,fun ha=>(ae ha (by kernel_rfl)).elim,?_⟩ <;> intro ha <;> first | exact⟨ev aa rfl,fun h=>nomatch h⟩ | exact⟨bM aa rfl rfl rfl rfl,fun h=>nomatch h⟩ | exact⟨bL aa rfl rfl rfl rfl rfl,fun h=>nomatch h⟩ | exact(ae ha (by kernel_rfl)).elim
  case p_23=>refine⟨fun ha=>(ae ha (by kernel_rfl)).elim,?_,fun ha=>(ae ha (by kernel_rfl)).elim,?_,fun ha=>(ae ha (by kernel_rfl)).elim,?_⟩ <;> intro ha <;> first | exact⟨ev aa rfl,fun h=>nomatch h⟩ | exact(ae ha (by kernel_rfl)).elim
  case p_24=>refine⟨fun ha=>(ae ha (by kernel_rfl)).elim,?_,fun ha=>(ae ha (by kernel_rfl)).elim,?_,fun ha=>(ae ha (by kernel_rfl)).elim,?_⟩ <;> intro ha <;> first | exact⟨ev aa rfl,fun h=>nomatch h⟩ | exact⟨bM aa rfl rfl rfl rfl,fun h=>nomatch h⟩ | exact⟨bL aa rfl rfl rfl rfl rfl,fun h=>nomatch h⟩ | exact(ae ha (by kernel_rfl)).elim
  case p_26=>refine⟨fun ha=>(ae ha (by kernel_rfl)).elim,?_,fun ha=>(ae ha (by kernel_rfl)).elim,?_,fun ha=>(ae ha (by kernel_rfl)).elim,?_⟩ <;> intro ha <;> first | exact⟨ev aa rfl,fun h=>nomatch h⟩ | exact(ae ha (by kernel_rfl)).elim
  case p_27=>refine⟨fun ha=>(ae ha (by kernel_rfl)).elim,?_,fun ha=>(ae ha (by kernel_rfl)).elim,?_,fun ha=>(ae ha (by kernel_rfl)).elim,?_⟩ <;> intro ha <;> first | exact⟨ev aa rfl,fun h=>nomatch h⟩ | exact(ae ha (by kernel_rfl)).elim
  case p_28=>refine⟨fun ha=>(ae ha (by kernel_rfl)).elim,?_,fun ha=>(ae ha (by kernel_rfl)).elim,?_,fun ha=>(ae ha (by kernel_rfl)).elim,?_⟩ <;> intro ha <;> first | exact⟨ev aa rfl,fun h=>nomatch h⟩ | exact⟨bM aa rfl rfl rfl rfl,fun h=>nomatch h⟩ | exact⟨bL aa rfl rfl rfl rfl rfl,fun h=>nomatch h⟩ | exact(ae ha (by kernel_rfl)).elim
  case p_29=>refine⟨fun ha=>(ae ha (by kernel_rfl)).elim,?_,fun ha=>(ae ha (by kernel_rfl)).elim,?_,fun ha=>(ae ha (by kernel_rfl)).elim,?_⟩ <;> intro ha <;> first | exact⟨build aa rfl rfl rfl rfl,fun h=>nomatch h⟩ | exact(ae ha (by kernel_rfl)).elim
  case p_30=>refine⟨fun ha=>(ae ha (by kernel_rfl)).elim,?_,fun ha=>(ae ha (by kernel_rfl)).elim,?_,fun ha=>(ae ha (by kernel_rfl)).elim,?_⟩ <;> intro ha <;> first | exact⟨ev aa rfl,fun h=>nomatch h⟩ | exact(ae ha (by kernel_rfl)).elim
  case p_31=>refine⟨fun ha=>(ae ha (by kernel_rfl)).elim,?_,fun ha=>(ae ha (by kernel_rfl)).elim,?_,fun ha=>(ae ha (by kernel_rfl)).elim,?_⟩ <;> intro ha <;> first | exact⟨ev aa rfl,fun h=>nomatch h⟩ | exact(ae ha (by kernel_rfl)).elim
  case p_32=>refine⟨fun ha=>(ae ha (by kernel_rfl)).elim,?_,fun ha=>(ae ha (by kernel_rfl)).elim,?_,fun ha=>(ae ha (by kernel_rfl)).elim,?_⟩ <;> intro ha <;> first | exact⟨ev aa rfl,fun h=>nomatch h⟩ | exact⟨bM aa rfl rfl rfl rfl,fun h=>nomatch h⟩ | exact⟨bL aa rfl rfl rfl rfl rfl,fun h=>nomatch h⟩ | exact(ae ha (by kernel_rfl)).elim
  case p_33=>refine⟨fun ha=>(ae ha (by kernel_rfl)).elim,?_,fun ha=>(ae ha (by kernel_rfl)).elim,?_,fun ha=>(ae ha (by kernel_rfl)).elim,?_⟩ <;> intro ha <;> first | exact⟨build aa rfl rfl rfl rfl,fun h=>nomatch h⟩ | exact(ae ha (by kernel_rfl)).elim
  case p_34=>refine⟨fun ha=>(ae ha (by kernel_rfl)).elim,?_,fun ha=>(ae ha (by kernel_rfl)).elim,?_,fun ha=>(ae ha (by kernel_rfl)).elim,?_⟩ <;> intro ha <;> first | exact⟨aI aa rfl rfl rfl rfl rfl rfl rfl rfl rfl,fun h=>nomatch h⟩ | exact(ae ha (by kernel_rfl)).elim
  refine' aJ (aI aa rfl rfl rfl rfl rfl rfl rfl rfl rfl) ?p_36 rfl rfl rfl (by kernel_rfl) rfl ?h_36
  case' h_36=>skip
  case p_36=>refine⟨fun ha=>(ae ha (by kernel_rfl)).elim,?_,fun ha=>(ae ha (by kernel_rfl)).elim,?_,fun ha=>(ae ha (by kernel_rfl)).elim,?_⟩ <;> intro ha <;> first | exact⟨aI aa rfl rfl rfl rfl rfl rfl rfl rfl rfl,fun h=>nomatch h⟩ | exact(ae ha (by kernel_rfl)).elim
  refine CD.nil ?_ rfl
  refine bJ (fn:=rc) (a:=a0 q) aa rfl rfl rfl rfl rfl rfl rfl rfl rfl rfl (fun _=>rfl) (by show(rows.length+1)*24≤_;omega) ?_
  refine pE rfl (aR aa rfl rfl rfl rfl rfl rfl rfl rfl (WO.nil (aX (qs (W.region ?_)))))
  iterate 2 refine pE rfl ?_
  refine WO.nil (W.aU [0,1,6] ⟨(k+1,rows++[a0 q]),?_⟩ ?_ rfl ?_ ⟨rfl,rfl,rfl,rfl,trivial⟩ ?_ trivial rfl)
  · exact⟨hlt,by rw[hW,List.take_add_one,hx];simp⟩
  · dsimp only;omega
  · repeat' first | exact trivial | refine⟨rfl,?_⟩ | refine⟨aD (by assumption) (by assumption),?_⟩
  repeat' first | exact trivial | refine⟨rfl,?_⟩
 have hg:bb a on=(⟨CT0.1,rows⟩,0):=by
  rw[hgo,hW,←hR,List.take_of_length_le (by have:=congrArg List.length hd;simp at this;omega)]
 refine W.exit (aN (aQ (aO (qs (W.seq (W.region (pE rfl (aR aa rfl rfl rfl rfl rfl rfl rfl rfl (pE rfl (WO.nil (qs ?_)))))))))))
 try refine cD 1 0 rfl rfl rfl ?_
 try refine cD 1 1 rfl rfl rfl ?_
 refine W.ret (QV.aq aa trivial rfl ?_)
 (rw[hg];rfl)
theorem pk (a:bo) (on:List ByteArray) (hon:on.length≤400):ax Tryz.prog 13 [.ag a.c,.d (.sl (on.map sc))]
  (.tup [.ag (bb a on).1.c,.d (.v (.int .i64 (bb a on).2))]) 0:=by
 rcases Nat.eq_zero_or_pos (pieces (cO a on) (bw a.cols aP) (bw a.cols bp) a.rows).length with h | h
 · exact sV a on hon (List.length_eq_zero_iff.1 h)
 exact tf a on hon h
end Go.Proofs.YtjenenllmjlimaaGreat
namespace Go.Proofs.YtjenenllmjlimaaGreat
open Go.Ab Go.Tb
set_option maxRecDepth 10000
attribute [local irreducible] W WO Pu QS QB QL QF QV b7 CH QE
theorem cR (n:Int):ax Tryz.prog 18 [.d (.v (.int .i64 n))] (.ag (b9 n).c) 0:=by
 refine ax.fg aa (n:=5) (rs:=[.cell 2 39]) Tryz.func18 (by kernel_rfl) rfl Tryz.ntmps18 Tryz.results18 rfl fun C hC hG=>?_
 refine W.seq (W.region (a8 aa rfl rfl rfl (WO.nil (qs (W.seq (W.region (pE rfl (pu (build aa rfl rfl rfl rfl) rfl ?_))))))))
 refine aR aa rfl rfl rfl rfl rfl rfl rfl rfl (WO.nil (qs (W.ret (QV.aq aa trivial rfl ?_))))
 rfl
theorem kW (s:ByteArray):ax Tryz.prog 17 [.d (.v (.string s))] (.ag (oR s).c) 0:=by
 refine ax.fg aa (n:=5) (rs:=[.cell 2 39]) Tryz.func17 (by kernel_rfl) rfl Tryz.ntmps17 Tryz.results17 rfl fun C hC hG=>?_
 refine W.seq (W.region (a8 aa rfl rfl rfl (WO.nil (qs (W.seq (W.region (pE rfl (pu (build aa rfl rfl rfl rfl) rfl ?_))))))))
 refine aR aa rfl rfl rfl rfl rfl rfl rfl rfl (WO.nil (qs (W.ret (QV.aq aa trivial rfl ?_))))
 rfl
theorem eW (l:List Int) (h:l.length≤100000):ax Tryz.prog 19 [.d (.sl (l.map ic))] (.d (.sl ((l.map b9).map aH.c))) 0:=by
 have hlm:l.length≤maxLen:=by simp only[maxLen];omega
 refine ax.aT (n:=20) (ts:=[2]) Tryz.func19 (by kernel_rfl) rfl Tryz.ntmps19 Tryz.results19 rfl rfl fun C hC hG=>?_
 refine W.seq (W.region (pE rfl (WO.nil (qs (W.seq (W.region (pE rfl (WO.nil (qs ?_)))))))))
 iterate 2 refine W.seq ?_
 refine W.region (pE rfl (WO.nil (qs (W.block (aG (d:=3) rfl rfl ?_)))))
 refine W.aS (ι:={x:Nat×List aH // match x with | (k,out)=>k≤l.length∧out=(l.take k).map b9})
  (fun x=>match x.1 with | (k,out)=>[(3,.own 0 (out.map aH.c)),(4,.d (.v (.int .i64 ((k:Nat):Int))))]) [(0,_)]
  (fun x=>match x.1 with | (k,out)=>[]) [] [0] 1 (fun x=>match x.1 with | (k,out)=>l.length - k)
  [0] ⟨(0,[]),?_⟩ rfl ?_ ⟨rfl,rfl,trivial⟩ ?_ trivial rfl ?_
 · exact⟨Nat.zero_le _,rfl⟩
 · repeat' first | exact trivial | refine⟨rfl,?_⟩
 · repeat' exact trivial
 rintro⟨⟨k,out⟩,hk,hI⟩
 show W _ _ _ _ _ ⟨[(3,.own 0 (out.map aH.c)),(4,.d (.v (.int .i64 ((k:Nat):Int)))),(0,_)],[],[0],1⟩
 iterate 2 refine W.seq ?_
 refine W.region ?_
 iterate 4 refine pE rfl ?_
 refine WO.nil (qs (a9 (l:=l) (k:=k) rfl (by simp[Ex.aF,aL]) hk (fun s hx hd hlt=>?_) (fun he hd=>?_)))
 ·
  have hol:out.length≤k:=by rw[hI];simp;omega
  refine W.skip (qs (W.seq (W.block (W.region ?_))))
  iterate 3 refine pE rfl ?_
  refine pu (indexAddr aa rfl rfl rfl rfl rfl rfl (Int.natCast_nonneg _) (aE (by assumption)) rfl) rfl ?_
  refine pE rfl (pu (ak rfl rfl rfl ((cR _)) rfl) rfl ?_)
  refine pu (aI aa rfl rfl rfl rfl rfl rfl rfl rfl rfl) rfl ?_
  refine bJ (fn:=aH.c) (a:=b9 s) aa rfl rfl rfl rfl rfl rfl rfl rfl rfl rfl (fun _=>rfl) (by show(out.length+1)*32≤_;omega) ?_
  refine pE rfl (WO.nil (aX (qs (W.region ?_))))
  iterate 3 refine pE rfl ?_
  refine WO.nil (W.aU [1] ⟨(k+1,out++[b9 s]),?_⟩ ?_ rfl ?_ ⟨rfl,rfl,trivial⟩ ?_ trivial rfl)
  · exact⟨hlt,by rw[hI,List.take_add_one,hx];simp⟩
  · dsimp only;omega
  · repeat' first | exact trivial | refine⟨rfl,?_⟩ | refine⟨aD (by assumption) (by assumption),?_⟩
  repeat' exact trivial
 have hfin:out=l.map b9:=by rw[hI,List.take_of_length_le (by have:=congrArg List.length hd;simp at this;omega)]
 refine W.exit (aN (aQ (aO (qs (W.seq (W.region ?_))))))
 iterate 2 refine pE rfl ?_
 refine WO.nil (qs (W.ret (QF.aq trivial rfl ?_)))
 simp only[norm,az];rw[hfin];rfl
theorem lh (l:List ByteArray) (h:l.length≤100000):ax Tryz.prog 16 [.d (.sl (l.map sc))] (.d (.sl ((l.map gr).map Col.c))) 0:=by
 have hlm:l.length≤maxLen:=by simp only[maxLen];omega
 refine ax.aT (n:=28) (ts:=[2]) Tryz.func16 (by kernel_rfl) rfl Tryz.ntmps16 Tryz.results16 rfl rfl fun C hC hG=>?_
 refine W.seq (W.region (pE rfl (WO.nil (qs (W.seq (W.region (pE rfl (WO.nil (qs ?_)))))))))
 iterate 2 refine W.seq ?_
 refine W.region (pE rfl (WO.nil (qs (W.block (aG (d:=3) rfl rfl ?_)))))
 refine W.aS (ι:={x:Nat×List Col // match x with | (k,out)=>k≤l.length∧out=(l.take k).map gr})
  (fun x=>match x.1 with | (k,out)=>[(3,.own 0 (out.map Col.c)),(4,.d (.v (.int .i64 ((k:Nat):Int))))]) [(0,_)]
  (fun x=>match x.1 with | (k,out)=>[]) [] [0] 1 (fun x=>match x.1 with | (k,out)=>l.length - k)
  [0] ⟨(0,[]),?_⟩ rfl ?_ ⟨rfl,rfl,trivial⟩ ?_ trivial rfl ?_
 · exact⟨Nat.zero_le _,rfl⟩
 · repeat' first | exact trivial | refine⟨rfl,?_⟩
 · repeat' exact trivial
 rintro⟨⟨k,out⟩,hk,hI⟩
 show W _ _ _ _ _ ⟨[(3,.own 0 (out.map Col.c)),(4,.d (.v (.int .i64 ((k:Nat):Int)))),(0,_)],[],[0],1⟩
 iterate 2 refine W.seq ?_
 refine W.region ?_
 iterate 4 refine pE rfl ?_
 refine WO.nil (qs (a9 (l:=l) (k:=k) rfl (by simp[Ex.aF,aL]) hk (fun s hx hd hlt=>?_) (fun he hd=>?_)))
 ·
  have hol:out.length≤k:=by rw[hI];simp;omega
  refine W.skip (qs (W.seq (W.block (W.seq (W.region ?_)))))
  iterate 2 refine pE rfl ?_
  refine pu (indexAddr aa rfl rfl rfl rfl rfl rfl (Int.natCast_nonneg _) (aE (by assumption)) rfl) rfl ?_
  refine pE rfl (pu (build aa rfl rfl rfl rfl) rfl ?_)
  refine a8 aa rfl rfl rfl (aR aa rfl rfl rfl rfl rfl rfl rfl rfl (WO.nil (qs ?_)))
  iterate 2 refine W.seq ?_
  refine W.region ?_
  iterate 2 refine pE rfl ?_
  refine pu (indexAddr aa rfl rfl rfl rfl rfl rfl (Int.natCast_nonneg _) (aE (by assumption)) rfl) rfl ?_
  refine pE rfl (pE rfl (WO.nil (qs (ao rfl (fun h21=>?_) (fun h21=>?_)))))
  ·
   have hs:s=B #[107]:=by simpa using h21
   have hlc:gr s=⟨s,3⟩:=by unfold gr;rw[if_pos hs]
   refine W.region (pE rfl (aR aa rfl rfl rfl rfl rfl rfl rfl rfl (WO.nil (qs (W.region (pE rfl (pE rfl (pu (aI aa rfl rfl rfl rfl rfl rfl rfl rfl rfl) rfl ?_))))))))
   refine bJ (fn:=Col.c) (a:=gr s) aa rfl rfl (by rw[hlc];rfl) rfl rfl rfl rfl rfl rfl rfl (fun _=>rfl) (by show(out.length+1)*24≤_;omega) ?_
   refine pE rfl (WO.nil (aX (qs (W.region ?_))))
   iterate 3 refine pE rfl ?_
   refine WO.nil (W.aU [2] ⟨(k+1,out++[gr s]),?_⟩ ?_ rfl ?_ ⟨rfl,rfl,trivial⟩ ?_ trivial rfl)
   · exact⟨hlt,by rw[hI,List.take_add_one,hx];simp⟩
   · dsimp only;omega
   · repeat' first | exact trivial | refine⟨rfl,?_⟩ | refine⟨aD (by assumption) (by assumption),?_⟩
   repeat' exact trivial
  have hs:¬ s=B #[107]:=by simpa using h21
  have hlc:gr s=⟨s,2⟩:=by unfold gr;rw[if_neg hs]
  refine W.skip (qs (W.region (pE rfl (pE rfl (pu (aI aa rfl rfl rfl rfl rfl rfl rfl rfl rfl) rfl ?_)))))
  refine bJ (fn:=Col.c) (a:=gr s) aa rfl rfl (by rw[hlc];rfl) rfl rfl rfl rfl rfl rfl rfl (fun _=>rfl) (by show(out.length+1)*24≤_;omega) ?_
  refine pE rfl (WO.nil (aX (qs (W.region ?_))))
  iterate 3 refine pE rfl ?_
  refine WO.nil (W.aU [2] ⟨(k+1,out++[gr s]),?_⟩ ?_ rfl ?_ ⟨rfl,rfl,trivial⟩ ?_ trivial rfl)
  · exact⟨hlt,by rw[hI,List.take_add_one,hx];simp⟩
  · dsimp only;omega
  · repeat' first | exact trivial | refine⟨rfl,?_⟩ | refine⟨aD (by assumption) (by assumption),?_⟩
  repeat' exact trivial
 have hfin:out=l.map gr:=by rw[hI,List.take_of_length_le (by have:=congrArg List.length hd;simp at this;omega)]
 refine W.exit (aN (aQ (aO (qs (W.seq (W.region ?_))))))
 iterate 2 refine pE rfl ?_
 refine WO.nil (qs (W.ret (QF.aq trivial rfl ?_)))
 simp only[norm,az];rw[hfin];rfl
theorem wG (a b:List aH):ax Tryz.prog 52 [.d (.sl (a.map aH.c)),.d (.sl (b.map aH.c))] (.d (.v (.bool (decide (a=b))))) 0:=by
 refine ax.aT (n:=26) (ts:=[4]) Tryz.func52 (by kernel_rfl) rfl Tryz.ntmps52 Tryz.results52 rfl rfl fun C hC hG=>?_
 refine W.seq (W.region (pE rfl (WO.nil (qs ?_))))
 iterate 2 refine W.seq ?_
 refine W.region ?_
 iterate 5 refine pE rfl ?_
 refine WO.nil (qs (ao rfl (fun h10=>?_) (fun h10=>?_)))
 ·
  have hg:decide (a=b)=false:=decide_eq_false (by rintro rfl;simp at h10)
  refine W.seq (W.region (pE rfl (WO.nil (qs (W.ret (ah (QF.aq trivial rfl ?_)))))))
  rw[hg];rfl
 have hl2:a.length=b.length:=by simp at h10;omega
 refine W.skip (qs ?_)
 iterate 2 refine W.seq ?_
 refine W.region (pE rfl (WO.nil (qs (W.block (W.len (t:=0) rfl rfl (fun hlen=>?_))))))
 try simp only[List.length_map,Ex.aF] at hlen
 refine W.aS (ι:={x:Nat // match x with | k=>k≤a.length∧(a.drop k=b.drop k↔a=b)})
  (fun x=>match x.1 with | k=>[(5,.d (.v (.int .i64 ((k:Nat):Int))))]) [(0,_),(1,_)]
  (fun x=>match x.1 with | k=>[]) [] [] 0 (fun x=>match x.1 with | k=>a.length - k)
  [] ⟨0,?_⟩ rfl ?_ ⟨rfl,rfl,rfl,rfl,trivial⟩ ?_ trivial rfl ?_
 · exact⟨Nat.zero_le _,by simp⟩
 · repeat' first | exact trivial | refine⟨rfl,?_⟩
 · repeat' exact trivial
 rintro⟨k,hk,hI⟩
 show W _ _ _ _ _ ⟨[(5,.d (.v (.int .i64 ((k:Nat):Int)))),(0,_),(1,_)],[],[],0⟩
 iterate 2 refine W.seq ?_
 refine W.region ?_
 iterate 4 refine pE rfl ?_
 refine WO.nil (qs (a9 (l:=a) (k:=k) rfl (by simp[Ex.aF,aL]) hk (fun x hx hd hlt=>?_) (fun he hd=>?_)))
 ·
  obtain⟨y,hy⟩:∃ y,b[k]? = some y:=⟨b[k]'(by omega),by simp⟩
  have hd2:b.drop k=y::b.drop (k+1):=by
   have hlt2:k < b.length:=by omega
   have:=List.drop_eq_getElem_cons hlt2
   rw[this,(List.getElem?_eq_some_iff.1 hy).2]
  rw[hd,hd2] at hI
  refine W.skip (qs (W.seq (W.block (W.seq (W.be aa (by kernel_rfl) ?_)))))
  iterate 2 refine an (ev aa rfl) rfl ?_
  refine an (indexAddr aa rfl rfl rfl rfl rfl rfl (Int.natCast_nonneg _) (aE hx) rfl) rfl ?_
  refine an (ev aa rfl) rfl ?_
  iterate 2 refine an (ev aa rfl) rfl ?_
  refine an (indexAddr (l:=y.c) aa rfl rfl rfl rfl rfl rfl (Int.natCast_nonneg _) (aE hy) rfl) rfl ?_
  refine an (ev aa rfl) rfl ?_
  refine an (ev aa rfl) rfl ?_
  refine CH.nil ?_
  refine qs (ao rfl (fun h25=>?_) (fun h25=>?_))
  ·
   have hxy:x≠y:=by rintro rfl;simp at h25
   have hg:decide (a=b)=false:=decide_eq_false (fun q=>by have:=hI.2 q;simp at this;exact hxy this.1)
   refine W.seq (W.region (pE rfl (WO.nil (qs (W.ret (au (ah (aZ (au (ah (QF.aq trivial rfl ?_)))))))))))
   rw[hg];rfl
  have hxy:x=y:=by
   have:=lR (a:=x) (b:=y)
   exact of_decide_eq_true (by rw[←this];simpa using h25)
  have hn:a.drop (k+1)=b.drop (k+1)↔a=b:=by rw[←hI,hxy];simp
  refine W.skip (aX (qs (W.region ?_)))
  iterate 3 refine pE rfl ?_
  refine WO.nil (W.aU [] ⟨k+1,?_⟩ ?_ rfl ?_ ⟨rfl,rfl,rfl,rfl,trivial⟩ ?_ trivial rfl)
  · exact⟨hlt,hn⟩
  · dsimp only;omega
  · repeat' first | exact trivial | refine⟨aD (by assumption) (by assumption),?_⟩
  repeat' exact trivial
 have hd2:b.drop k=[]:=List.drop_eq_nil_of_le (by have:=congrArg List.length hd;simp at this;omega)
 rw[hd,hd2] at hI
 have hg:decide (a=b)=true:=decide_eq_true (hI.1 rfl)
 refine W.exit (aN (aQ (aO (qs (W.seq (W.region (pE rfl (WO.nil (qs (W.ret (QF.aq trivial rfl ?_)))))))))))
 rw[hg];rfl
theorem vl (a b:List aH):ax Tryz.prog 33 [.d (.sl (a.map aH.c)),.d (.sl (b.map aH.c))] (.d (.v (.bool (decide (a=b))))) 0:=by
 refine ax.aT (n:=8) (ts:=[4]) Tryz.func33 (by kernel_rfl) rfl Tryz.ntmps33 Tryz.results33 rfl rfl fun C hC hG=>?_
 refine W.seq (W.region (pE rfl (WO.nil (qs (W.seq (W.region ?_))))))
 iterate 2 refine pE rfl ?_
 refine pu (ak rfl rfl rfl (wG a b) rfl) rfl ?_
 refine pE rfl (WO.nil (qs (W.ret (QF.aq trivial rfl ?_))))
 rfl
theorem r8 (t:bo):ax Tryz.prog 15 [.ag t.c] (.d (.v (.bool (lz t)))) 0:=by
 refine ax.aT (n:=36) (ts:=[2]) Tryz.func15 (by kernel_rfl) rfl Tryz.ntmps15 Tryz.results15 rfl rfl fun C hC hG=>?_
 refine W.seq (W.region (br rfl rfl rfl (pE rfl (WO.nil (qs (W.seq (W.region (pE rfl (pE rfl ?_)))))))))
 iterate 2 refine pE rfl ?_
 refine WO.nil (qs ?_)
 iterate 2 refine W.seq ?_
 refine W.region (pE rfl (WO.nil (qs (W.block (gy (g:=0) (j:=1) rfl rfl (fun hlen=>?_))))))
 rw[List.length_map] at hlen
 refine W.aS (ι:={x:Nat×Int // match x with | (k,n)=>k≤t.rows.length∧lq (t.rows.drop k) n=lq t.rows (t.cols.length:Int)})
  (fun x=>match x.1 with | (k,n)=>[(1,.ptr 0 0),(3,.d (.v (.int .i64 (n)))),(4,.d (.v (.int .i64 ((k:Nat):Int))))]) []
  (fun x=>match x.1 with | (k,n)=>[(0,t.c.map A.d)]) [] [] 1 (fun x=>match x.1 with | (k,n)=>t.rows.length - k)
  [0] ⟨(0,((t.cols.map Col.c).length:Int)),?_⟩ rfl ?_ trivial ?_ trivial rfl ?_
 · exact⟨Nat.zero_le _,by rw[List.length_map];rfl⟩
 · repeat' first | exact trivial | refine⟨rfl,?_⟩
 · repeat' first | exact trivial | refine⟨rfl,?_⟩
 rintro⟨⟨k,n⟩,hk,hI⟩
 show W _ _ _ _ _ ⟨[(1,.ptr 0 0),(3,.d (.v (.int .i64 (n)))),(4,.d (.v (.int .i64 ((k:Nat):Int))))],[(0,t.c.map A.d)],[],1⟩
 iterate 2 refine W.seq ?_
 apply aC;(case hb=>rfl)
 ·
  iterate 2 refine pE rfl ?_
  refine pE rfl ?_
  iterate 3 refine pE rfl ?_
  apply aw;(case hj=>rfl);(case hl=>rfl)
  ·
   refine ab rfl rfl (pE rfl (ab rfl rfl ?_))
   iterate 2 refine pE rfl ?_
   refine WO.nil (ay rfl rfl rfl)
  iterate 2 refine ar rfl rfl rfl rfl ?_
  refine pE rfl (WO.nil (ay rfl rfl rfl))
 refine qs (ao rfl (fun h16=>?_) (fun h16=>?_))
 ·
  have hlt:k < t.rows.length:=by
   revert h16
   by_cases q:(k:Int) < (t.rows.length:Int)
   · intro _;omega
   simp[q]
  have hn6:n≤600:=by
   revert h16
   by_cases q:n≤600
   · intro _;exact q
   simp[q]
  obtain⟨x,hx⟩:∃ x,t.rows[k]? = some x:=⟨t.rows[k],by simp[hlt]⟩
  have hd:t.rows.drop k=x::t.rows.drop (k+1):=by
   have:=List.drop_eq_getElem_cons hlt
   rw[this,(List.getElem?_eq_some_iff.1 hx).2]
  rw[hd] at hI
  simp only[lq] at hI
  rw[if_pos hn6] at hI
  refine W.skip (qs (W.seq (W.block (W.region ?_))))
  iterate 3 refine pE rfl ?_
  refine pE rfl (pE rfl (pu (indexAddr aa rfl rfl rfl rfl rfl rfl (Int.natCast_nonneg _) (aE hx) rfl) rfl ?_))
  refine pE rfl ?_
  iterate 3 refine pE rfl ?_
  refine WO.nil (aX (qs (W.region ?_)))
  iterate 3 refine pE rfl ?_
  refine WO.nil (W.aU [0] ⟨(k+1,IntKind.i64.wrap (IntKind.i64.wrap (n+1)+((x.map aH.c).length:Int))),?_⟩ ?_ rfl ?_ trivial ?_ trivial rfl)
  · exact⟨hlt,by rw[List.length_map];exact hI⟩
  · dsimp only;omega
  · repeat' first | exact trivial | refine⟨rfl,?_⟩ | refine⟨aD (by assumption) (by assumption),?_⟩
  repeat' first | exact trivial | refine⟨rfl,?_⟩
 have hfin:lq t.rows (t.cols.length:Int)=n:=by
  rw[←hI]
  cases hdd:t.rows.drop k with
  | nil=>rfl
  | cons x r=>
   have hlt:k < t.rows.length:=by have:=congrArg List.length hdd;simp at this;omega
   have q:(k:Int) < (t.rows.length:Int):=by omega
   have q2:¬ n≤600:=by
    intro q2
    revert h16
    simp[q,q2]
   simp only[lq]
   rw[if_neg q2]
 refine W.exit (aN (aQ (aO (qs (W.seq ?_)))))
 apply aC;(case hb=>rfl)
 ·
  iterate 3 refine pE rfl ?_
  apply aw;(case hj=>rfl);(case hl=>rfl)
  ·
   refine ab rfl rfl (pE rfl (ab rfl rfl (pE rfl (ab rfl rfl (pE rfl (ab rfl rfl ?_))))))
   iterate 3 refine pE rfl ?_
   refine WO.nil (ay rfl rfl rfl)
  iterate 4 refine ar rfl rfl rfl rfl ?_
  iterate 2 refine pE rfl ?_
  refine WO.nil (ay rfl rfl rfl)
 refine qs (W.ret (QF.aq trivial rfl ?_))
 simp only[norm,az];unfold lz;rw[hfin];first | rfl | (simp;done) | skip
end Go.Proofs.YtjenenllmjlimaaGreat
namespace Go.Proofs.YtjenenllmjlimaaGreat
open Go.Ab Go.Tb
set_option maxRecDepth 10000
attribute [local irreducible] W WO Pu QS QB QL QF QV b7 CH QE
theorem zd (a b:bo) (on:List ByteArray):ax Tryz.prog 6 [.ag a.c,.ag b.c,.d (.sl (on.map sc))] (.d (.v (.bool (qF a b on)))) 0:=by
 refine ax.aT (n:=18) (ts:=[6]) Tryz.func6 (by kernel_rfl) rfl Tryz.ntmps6 Tryz.results6 rfl rfl fun C hC hG=>?_
 refine W.seq (W.region (br rfl rfl rfl (br rfl rfl rfl (pE rfl (WO.nil (qs (W.seq ?_)))))))
 apply aC;(case hb=>rfl)
 ·
  refine pE rfl (pu (ak rfl rfl rfl (r8 a) rfl) rfl ?_)
  refine pE rfl ?_
  apply aw;(case hj=>rfl);(case hl=>rfl)
  ·
   refine ab rfl rfl (pE rfl (ab rfl rfl (pu (ak rfl rfl rfl (r8 b) rfl) rfl ?_)))
   iterate 2 refine pE rfl ?_
   apply aw;(case hj=>rfl);(case hl=>rfl)
   ·
    refine ab rfl rfl (pE rfl (ab rfl rfl (pE rfl (ab rfl rfl ?_))))
    iterate 3 refine pE rfl ?_
    refine WO.nil (ay rfl rfl rfl)
   iterate 3 refine ar rfl rfl rfl rfl ?_
   iterate 2 refine pE rfl ?_
   refine WO.nil (ay rfl rfl rfl)
  iterate 2 refine ar rfl rfl rfl rfl ?_
  iterate 2 refine pE rfl ?_
  iterate 3 refine ar rfl rfl rfl rfl ?_
  iterate 2 refine pE rfl ?_
  refine WO.nil (ay rfl rfl rfl)
 refine qs (W.ret (QF.aq trivial rfl ?_))
 simp only[norm,az];unfold qF;rw[List.length_map];cases lz a <;> cases lz b <;> rfl
theorem wE {a b:Col}:(decide (a.name=b.name) && decide (a.type=b.type))=decide (a=b):=by
 obtain⟨x,y⟩:=a
 obtain⟨x',y'⟩:=b
 simp only[Col.mk.injEq]
 by_cases h1:x=x' <;> by_cases h2:y=y' <;> simp[h1,h2]
theorem sU (a b:bo):ax Tryz.prog 10 [.ag a.c,.ag b.c] (.d (.v (.bool (decide (a=b))))) 0:=by
 refine ax.aT (n:=60) (ts:=[4]) Tryz.func10 (by kernel_rfl) rfl Tryz.ntmps10 Tryz.results10 rfl rfl fun C hC hG=>?_
 refine W.seq (W.region (br rfl rfl rfl (br rfl rfl rfl (pE rfl (WO.nil (qs ?_))))))
 iterate 2 refine W.seq ?_
 apply aC;(case hb=>rfl)
 ·
  refine pE rfl (pE rfl ?_)
  iterate 2 refine pE rfl ?_
  refine pE rfl ?_
  iterate 3 refine pE rfl ?_
  apply aw;(case hj=>rfl);(case hl=>rfl)
  ·
   iterate 7 refine ar rfl rfl rfl rfl ?_
   refine pE rfl (WO.nil (ay rfl rfl rfl))
  refine ab rfl rfl (pE rfl (ab rfl rfl (pE rfl (ab rfl rfl (pE rfl (ab rfl rfl (pE rfl (ab rfl rfl (pE rfl (ab rfl rfl (pE rfl (ab rfl rfl ?_))))))))))))
  iterate 2 refine pE rfl ?_
  refine WO.nil (ay rfl rfl rfl)
 refine qs (ao rfl (fun h22=>?_) (fun h22=>?_))
 ·
  have hg:decide (a=b)=false:=decide_eq_false (by rintro rfl;simp at h22)
  refine W.seq (W.region (pE rfl (WO.nil (qs (W.ret (ah (QF.aq trivial rfl ?_)))))))
  rw[hg];rfl
 have hl2:a.cols.length=b.cols.length∧a.rows.length=b.rows.length:=by
  revert h22
  by_cases q:(a.cols.length:Int)=(b.cols.length:Int)
  ·
   simp only[List.length_map,q,decide_true,Bool.not_true,cond_false]
   intro h
   simp at h
   omega
  simp[q]
 refine W.skip (qs ?_)
 iterate 2 refine W.seq ?_
 refine W.region (pE rfl (WO.nil (qs (W.block (gy (g:=0) (j:=0) rfl rfl (fun hlen0=>?_))))))
 rw[List.length_map] at hlen0
 refine gy (g:=0) (j:=1) rfl rfl (fun hlen1=>?_)
 rw[List.length_map] at hlen1
 refine W.aS (ι:={x:Nat // match x with | k=>k≤a.cols.length∧(a.cols.drop k=b.cols.drop k↔a.cols=b.cols)})
  (fun x=>match x.1 with | k=>[(2,.ptr 0 0),(3,.ptr 1 0),(5,.d (.v (.int .i64 ((k:Nat):Int))))]) []
  (fun x=>match x.1 with | k=>[(0,a.c.map A.d),(1,b.c.map A.d)]) [] [] 2 (fun x=>match x.1 with | k=>a.cols.length - k)
  [0,1] ⟨0,?_⟩ rfl ?_ trivial ?_ trivial rfl ?_
 · exact⟨Nat.zero_le _,by simp⟩
 · repeat' first | exact trivial | refine⟨rfl,?_⟩
 · repeat' first | exact trivial | refine⟨rfl,?_⟩
 rintro⟨k,hk,hI⟩
 show W _ _ _ _ _ ⟨[(2,.ptr 0 0),(3,.ptr 1 0),(5,.d (.v (.int .i64 ((k:Nat):Int))))],[(0,a.c.map A.d),(1,b.c.map A.d)],[],2⟩
 iterate 2 refine W.seq ?_
 refine W.region ?_
 iterate 2 refine pE rfl ?_
 refine pE rfl ?_
 iterate 2 refine pE rfl ?_
 refine WO.nil (qs (a9 (l:=a.cols) (k:=k) rfl (by simp[Ex.aF,aL]) hk (fun x hx hd hlt=>?_) (fun he hd=>?_)))
 ·
  obtain⟨y,hy⟩:∃ y,b.cols[k]? = some y:=⟨b.cols[k]'(by omega),by simp⟩
  have hd2:b.cols.drop k=y::b.cols.drop (k+1):=by
   have hlt2:k < b.cols.length:=by omega
   have:=List.drop_eq_getElem_cons hlt2
   rw[this,(List.getElem?_eq_some_iff.1 hy).2]
  rw[hd,hd2] at hI
  refine W.skip (qs (W.seq (W.block (W.seq (W.be aa (by kernel_rfl) ?_)))))
  refine an (ev aa rfl) rfl ?_
  refine an (ev aa rfl) rfl ?_
  refine an (ev aa rfl) rfl ?_
  refine an (indexAddr aa rfl rfl rfl rfl rfl rfl (Int.natCast_nonneg _) (aE hx) rfl) rfl ?_
  refine an (ev aa rfl) rfl ?_
  refine an (ev aa rfl) rfl ?_
  refine an (ev aa rfl) rfl ?_
  refine an (ev aa rfl) rfl ?_
  refine an (indexAddr (l:=y.c) aa rfl rfl rfl rfl rfl rfl (Int.natCast_nonneg _) (aE hy) rfl) rfl ?_
  refine an (ev aa rfl) rfl ?_
  refine an (ev aa rfl) rfl ?_
  refine CH.nil ?_
  refine qs (ao rfl (fun h40=>?_) (fun h40=>?_))
  ·
   have hxy:x≠y:=by rintro rfl;simp at h40
   have hg:decide (a=b)=false:=decide_eq_false (fun q=>by have:=hI.2 (by rw[q]);simp at this;exact hxy this.1)
   refine W.seq (W.region (pE rfl (WO.nil (qs (W.ret (au (ah (aZ (au (ah (QF.aq trivial rfl ?_)))))))))))
   rw[hg];rfl
  have hxy:x=y:=by
   have:=wE (a:=x) (b:=y)
   exact of_decide_eq_true (by rw[←this];simpa using h40)
  have hn:a.cols.drop (k+1)=b.cols.drop (k+1)↔a.cols=b.cols:=by rw[←hI,hxy];simp
  refine W.skip (aX (qs (W.region ?_)))
  iterate 3 refine pE rfl ?_
  refine WO.nil (W.aU [0,1] ⟨k+1,?_⟩ ?_ rfl ?_ trivial ?_ trivial rfl)
  · exact⟨hlt,hn⟩
  · dsimp only;omega
  · repeat' first | exact trivial | refine⟨rfl,?_⟩ | refine⟨aD (by assumption) (by assumption),?_⟩
  repeat' first | exact trivial | refine⟨rfl,?_⟩
 have hd2:b.cols.drop k=[]:=List.drop_eq_nil_of_le (by have:=congrArg List.length hd;simp at this;omega)
 rw[hd,hd2] at hI
 have hce:a.cols=b.cols:=hI.1 rfl
 refine W.exit (aN (aQ (aO (qs ?_))))
 iterate 2 refine W.seq ?_
 refine W.region (pE rfl (WO.nil (qs (W.block ?_))))
 refine W.aS (ι:={x:Nat // match x with | k=>k≤a.rows.length∧(a.rows.drop k=b.rows.drop k↔a.rows=b.rows)})
  (fun x=>match x.1 with | k=>[(2,.ptr 0 0),(3,.ptr 1 0),(6,.d (.v (.int .i64 ((k:Nat):Int))))]) []
  (fun x=>match x.1 with | k=>[(0,a.c.map A.d),(1,b.c.map A.d)]) [] [] 2 (fun x=>match x.1 with | k=>a.rows.length - k)
  [0,1] ⟨0,?_⟩ rfl ?_ trivial ?_ trivial rfl ?_
 · exact⟨Nat.zero_le _,by simp⟩
 · repeat' first | exact trivial | refine⟨rfl,?_⟩
 · repeat' first | exact trivial | refine⟨rfl,?_⟩
 rintro⟨k,hk,hR⟩
 show W _ _ _ _ _ ⟨[(2,.ptr 0 0),(3,.ptr 1 0),(6,.d (.v (.int .i64 ((k:Nat):Int))))],[(0,a.c.map A.d),(1,b.c.map A.d)],[],2⟩
 iterate 2 refine W.seq ?_
 refine W.region ?_
 iterate 2 refine pE rfl ?_
 refine pE rfl ?_
 iterate 2 refine pE rfl ?_
 refine WO.nil (qs (a9 (l:=a.rows) (k:=k) rfl (by simp[Ex.aF,aL]) hk (fun x hx hd hlt=>?_) (fun he hd=>?_)))
 ·
  obtain⟨y,hy⟩:∃ y,b.rows[k]? = some y:=⟨b.rows[k]'(by omega),by simp⟩
  have hd2:b.rows.drop k=y::b.rows.drop (k+1):=by
   have hlt2:k < b.rows.length:=by omega
   have:=List.drop_eq_getElem_cons hlt2
   rw[this,(List.getElem?_eq_some_iff.1 hy).2]
  rw[hd,hd2] at hR
  refine W.skip (qs (W.seq (W.block (W.seq (W.be aa (by kernel_rfl) ?_)))))
  refine an (ev aa rfl) rfl ?_
  refine an (ev aa rfl) rfl ?_
  refine an (ev aa rfl) rfl ?_
  refine an (indexAddr aa rfl rfl rfl rfl rfl rfl (Int.natCast_nonneg _) (aE hx) rfl) rfl ?_
  refine an (ev aa rfl) rfl ?_
  refine an (ev aa rfl) rfl ?_
  refine an (ev aa rfl) rfl ?_
  refine an (ev aa rfl) rfl ?_
  refine an (indexAddr (l:=rc y) aa rfl rfl rfl rfl rfl rfl (Int.natCast_nonneg _) (aE hy) rfl) rfl ?_
  refine an (ev aa rfl) rfl ?_
  refine an (ak rfl rfl rfl (vl x y) rfl) rfl ?_
  refine an (ev aa rfl) rfl ?_
  refine CH.nil ?_
  refine qs (ao rfl (fun h59=>?_) (fun h59=>?_))
  ·
   have hxy:x≠y:=by simpa using h59
   have hg:decide (a=b)=false:=decide_eq_false (fun q=>by have:=hR.2 (by rw[q]);simp at this;exact hxy this.1)
   refine W.seq (W.region (pE rfl (WO.nil (qs (W.ret (au (ah (aZ (au (ah (QF.aq trivial rfl ?_)))))))))))
   rw[hg];rfl
  have hxy:x=y:=by simpa using h59
  have hn:a.rows.drop (k+1)=b.rows.drop (k+1)↔a.rows=b.rows:=by rw[←hR,hxy];simp
  refine W.skip (aX (qs (W.region ?_)))
  iterate 3 refine pE rfl ?_
  refine WO.nil (W.aU [0,1] ⟨k+1,?_⟩ ?_ rfl ?_ trivial ?_ trivial rfl)
  · exact⟨hlt,hn⟩
  · dsimp only;omega
  · repeat' first | exact trivial | refine⟨rfl,?_⟩ | refine⟨aD (by assumption) (by assumption),?_⟩
  repeat' first | exact trivial | refine⟨rfl,?_⟩
 have hd2:b.rows.drop k=[]:=List.drop_eq_nil_of_le (by have:=congrArg List.length hd;simp at this;omega)
 rw[hd,hd2] at hR
 have hg:decide (a=b)=true:=decide_eq_true (by cases a;cases b;simp only[bo.mk.injEq];exact⟨hce,hR.1 rfl⟩)
 refine W.exit (aN (aQ (aO (qs (W.seq (W.region (pE rfl (WO.nil (qs (W.ret (QF.aq trivial rfl ?_)))))))))))
 rw[hg];rfl
def wK:ByteArray:=B #[107]
def wV:ByteArray:=B #[118]
def tA:bo:=⟨[wK,aP,bp].map gr,[[oR (B #[120]),b9 0,b9 10],[oR (B #[121]),b9 0,b9 10]]⟩
def tB:bo:=⟨[wK,aP,bp,wV].map gr,[[oR (B #[120]),b9 5,b9 20,b9 1],[oR (B #[120]),b9 10,b9 12,b9 2]]⟩
def tW:bo:=⟨[wK,aP,bp,wV].map gr,[[oR (B #[120]),b9 5,b9 10,b9 1]]⟩
def tC:bo:=⟨[aP].map gr,[[7].map b9,[2].map b9]⟩
def tD:bo:=⟨[aP,wV].map gr,[[3,1].map b9,[5,2].map b9,[5,3].map b9,[9,4].map b9]⟩
def tN:bo:=⟨[aP,wV].map gr,[[7,3].map b9,[b9 2,gh]]⟩
def tS:bo:=⟨[aP,bp].map gr,[[0,3].map b9,[7,9].map b9,[8,8].map b9,[3,5].map b9]⟩
def tU:bo:=⟨[aP,bp].map gr,[[0,5].map b9,[7,9].map b9]⟩
set_option maxRecDepth 100000 in
theorem Bj:fF tA tB [wK]=(tW,0):=by decide +kernel
set_option maxRecDepth 100000 in
theorem Bg:fF tA tB []=(fL,4):=by decide +kernel
set_option maxRecDepth 100000 in
theorem A6:hZ tC tD []=(tN,0):=by decide +kernel
set_option maxRecDepth 100000 in
theorem Bb:bb tS []=(tU,0):=by decide +kernel
end Go.Proofs.YtjenenllmjlimaaGreat
namespace Go.Proofs.YtjenenllmjlimaaGreat
open Go.Ab Go.Tb
set_option maxRecDepth 10000
attribute [local irreducible] W WO Pu QS QB QL QF QV b7 CH QE
theorem sw:ax Tryz.prog 7 [] (.d (.v (.bool true))) 0:=by
 have hov1:ax Tryz.prog 8 [.ag tA.c,.ag tB.c,.d (.sl ([wK].map sc))] (.tup [.ag tW.c,.d (.v (.int .i64 0))]) 0:=by have:=qv tA tB [wK] (by decide);rw[Bj] at this;exact this
 have hov2:ax Tryz.prog 8 [.ag tA.c,.ag tB.c,.d (.sl (([]:List ByteArray).map sc))] (.tup [.ag fL.c,.d (.v (.int .i64 4))]) 0:=by have:=qv tA tB [] (by decide);rw[Bg] at this;exact this
 have hne:ax Tryz.prog 11 [.ag tC.c,.ag tD.c,.d (.sl (([]:List ByteArray).map sc))] (.tup [.ag tN.c,.d (.v (.int .i64 0))]) 0:=by have:=vT tC tD [] (by decide);rw[A6] at this;exact this
 have hco:ax Tryz.prog 13 [.ag tS.c,.d (.sl (([]:List ByteArray).map sc))] (.tup [.ag tU.c,.d (.v (.int .i64 0))]) 0:=by have:=pk tS [] (by decide);rw[Bb] at this;exact this
 have hs:∀ t:bo,ax Tryz.prog 10 [.ag t.c,.ag t.c] (.d (.v (.bool true))) 0:=fun t=>by have:=sU t t;rw[decide_eq_true (rfl:t=t)] at this;exact this
 refine ax.aT (n:=154) (ts:=[0]) Tryz.func7 (by kernel_rfl) rfl Tryz.ntmps7 Tryz.results7 rfl rfl fun C hC hG=>?_
 refine W.seq (W.region (pE rfl (WO.nil (qs (W.seq (W.region (pu (aI aa rfl rfl rfl rfl rfl rfl rfl rfl rfl) rfl ?_)))))))
 refine pu (ak rfl rfl rfl (lh [wK,aP,bp] (by decide)) rfl) rfl ?_
 refine pu (ak rfl rfl rfl ((kW _)) rfl) rfl ?_
 refine pu (ak rfl rfl rfl ((cR _)) rfl) rfl ?_
 refine pu (ak rfl rfl rfl ((cR _)) rfl) rfl ?_
 refine pu (aI aa rfl rfl rfl rfl rfl rfl rfl rfl rfl) rfl ?_
 refine pu (ak rfl rfl rfl ((kW _)) rfl) rfl ?_
 refine pu (ak rfl rfl rfl ((cR _)) rfl) rfl ?_
 refine pu (ak rfl rfl rfl ((cR _)) rfl) rfl ?_
 refine pu (aI aa rfl rfl rfl rfl rfl rfl rfl rfl rfl) rfl ?_
 refine pu (aI aa rfl rfl rfl rfl rfl rfl rfl rfl rfl) rfl ?_
 refine pu (build aa rfl rfl rfl rfl) rfl ?_
 refine a8 aa rfl rfl rfl (aR aa rfl rfl rfl rfl rfl rfl rfl rfl (WO.nil (qs (W.seq (W.region (pu (aI aa rfl rfl rfl rfl rfl rfl rfl rfl rfl) rfl ?_))))))
 refine pu (ak rfl rfl rfl (lh [wK,aP,bp,wV] (by decide)) rfl) rfl ?_
 refine pu (ak rfl rfl rfl ((kW _)) rfl) rfl ?_
 refine pu (ak rfl rfl rfl ((cR _)) rfl) rfl ?_
 refine pu (ak rfl rfl rfl ((cR _)) rfl) rfl ?_
 refine pu (ak rfl rfl rfl ((cR _)) rfl) rfl ?_
 refine pu (aI aa rfl rfl rfl rfl rfl rfl rfl rfl rfl) rfl ?_
 refine pu (ak rfl rfl rfl ((kW _)) rfl) rfl ?_
 refine pu (ak rfl rfl rfl ((cR _)) rfl) rfl ?_
 refine pu (ak rfl rfl rfl ((cR _)) rfl) rfl ?_
 refine pu (ak rfl rfl rfl ((cR _)) rfl) rfl ?_
 refine pu (aI aa rfl rfl rfl rfl rfl rfl rfl rfl rfl) rfl ?_
 refine pu (aI aa rfl rfl rfl rfl rfl rfl rfl rfl rfl) rfl ?_
 refine pu (build aa rfl rfl rfl rfl) rfl ?_
 refine a8 aa rfl rfl rfl (aR aa rfl rfl rfl rfl rfl rfl rfl rfl (WO.nil (qs (W.seq (W.region (pE rfl (pE rfl (pu (aI aa rfl rfl rfl rfl rfl rfl rfl rfl rfl) rfl ?_))))))))
 refine pu (ak rfl rfl rfl hov1 rfl) rfl ?_
 iterate 3 refine pE rfl ?_
 refine a8 aa rfl rfl rfl (aR aa rfl rfl rfl rfl rfl rfl rfl rfl (pE rfl (WO.nil (qs (W.seq (W.region (pE rfl (pE rfl (pu (rm rfl rfl rfl hov2 rfl) rfl ?_)))))))))
 iterate 3 refine pE rfl ?_
 refine a8 aa rfl rfl rfl (aR aa rfl rfl rfl rfl rfl rfl rfl rfl (pE rfl (WO.nil (qs (W.seq (W.jV aa 10 1 (by kernel_rfl) rfl rfl ?_))))))
 refine bE rfl (ev aa rfl) rfl ?_
 refine bE rfl (ev aa rfl) rfl ?_
 refine bE rfl (ak rfl rfl rfl ((kW _)) rfl) rfl ?_
 refine bE rfl (ak rfl rfl rfl ((cR _)) rfl) rfl ?_
 refine bE rfl (ak rfl rfl rfl ((cR _)) rfl) rfl ?_
 refine bE rfl (ak rfl rfl rfl ((cR _)) rfl) rfl ?_
 refine bE rfl (aI aa rfl rfl rfl rfl rfl rfl rfl rfl rfl) rfl ?_
 refine bE rfl (aI aa rfl rfl rfl rfl rfl rfl rfl rfl rfl) rfl ?_
 refine bE rfl (build aa rfl rfl rfl rfl) rfl ?_
 refine gE 0 rfl rfl rfl rfl rfl rfl ?_
 refine CE.nil ?_
 refine aR aa rfl rfl rfl rfl rfl rfl rfl rfl (WO.nil (qs (W.seq (W.region (pu (aI aa rfl rfl rfl rfl rfl rfl rfl rfl rfl) rfl ?_)))))
 refine pu (ak rfl rfl rfl (lh [aP] (by decide)) rfl) rfl ?_
 refine pu (aI aa rfl rfl rfl rfl rfl rfl rfl rfl rfl) rfl ?_
 refine pu (ak rfl rfl rfl (eW [7] (by decide)) rfl) rfl ?_
 refine pu (aI aa rfl rfl rfl rfl rfl rfl rfl rfl rfl) rfl ?_
 refine pu (ak rfl rfl rfl (eW [2] (by decide)) rfl) rfl ?_
 refine pu (aI aa rfl rfl rfl rfl rfl rfl rfl rfl rfl) rfl ?_
 refine pu (build aa rfl rfl rfl rfl) rfl ?_
 refine a8 aa rfl rfl rfl (aR aa rfl rfl rfl rfl rfl rfl rfl rfl (WO.nil (qs (W.seq (W.region (pu (aI aa rfl rfl rfl rfl rfl rfl rfl rfl rfl) rfl ?_))))))
 refine pu (ak rfl rfl rfl (lh [aP,wV] (by decide)) rfl) rfl ?_
 refine pu (aI aa rfl rfl rfl rfl rfl rfl rfl rfl rfl) rfl ?_
 refine pu (ak rfl rfl rfl (eW [3,1] (by decide)) rfl) rfl ?_
 refine pu (aI aa rfl rfl rfl rfl rfl rfl rfl rfl rfl) rfl ?_
 refine pu (ak rfl rfl rfl (eW [5,2] (by decide)) rfl) rfl ?_
 refine pu (aI aa rfl rfl rfl rfl rfl rfl rfl rfl rfl) rfl ?_
 refine pu (ak rfl rfl rfl (eW [5,3] (by decide)) rfl) rfl ?_
 refine pu (aI aa rfl rfl rfl rfl rfl rfl rfl rfl rfl) rfl ?_
 refine pu (ak rfl rfl rfl (eW [9,4] (by decide)) rfl) rfl ?_
 refine pu (aI aa rfl rfl rfl rfl rfl rfl rfl rfl rfl) rfl ?_
 refine pu (build aa rfl rfl rfl rfl) rfl ?_
 refine a8 aa rfl rfl rfl (aR aa rfl rfl rfl rfl rfl rfl rfl rfl (WO.nil (qs (W.seq (W.region (pE rfl (pE rfl (pu (rm rfl rfl rfl hne rfl) rfl ?_))))))))
 iterate 3 refine pE rfl ?_
 refine a8 aa rfl rfl rfl (aR aa rfl rfl rfl rfl rfl rfl rfl rfl (pE rfl (WO.nil (qs (W.seq (W.jV aa 10 1 (by kernel_rfl) rfl rfl ?_))))))
 refine bE rfl (ev aa rfl) rfl ?_
 refine bE rfl (ev aa rfl) rfl ?_
 refine bE rfl (aI aa rfl rfl rfl rfl rfl rfl rfl rfl rfl) rfl ?_
 refine bE rfl (ak rfl rfl rfl (eW [7,3] (by decide)) rfl) rfl ?_
 refine bE rfl (ak rfl rfl rfl ((cR _)) rfl) rfl ?_
 refine bE rfl (build aa rfl rfl rfl rfl) rfl ?_
 refine bE rfl (aI aa rfl rfl rfl rfl rfl rfl rfl rfl rfl) rfl ?_
 refine bE rfl (aI aa rfl rfl rfl rfl rfl rfl rfl rfl rfl) rfl ?_
 refine bE rfl (build aa rfl rfl rfl rfl) rfl ?_
 refine gE 0 rfl rfl rfl rfl rfl rfl ?_
 refine CE.nil ?_
 refine aR aa rfl rfl rfl rfl rfl rfl rfl rfl (WO.nil (qs (W.seq (W.region (pu (aI aa rfl rfl rfl rfl rfl rfl rfl rfl rfl) rfl ?_)))))
 refine pu (ak rfl rfl rfl (lh [aP,bp] (by decide)) rfl) rfl ?_
 refine pu (aI aa rfl rfl rfl rfl rfl rfl rfl rfl rfl) rfl ?_
 refine pu (ak rfl rfl rfl (eW [0,3] (by decide)) rfl) rfl ?_
 refine pu (aI aa rfl rfl rfl rfl rfl rfl rfl rfl rfl) rfl ?_
 refine pu (ak rfl rfl rfl (eW [7,9] (by decide)) rfl) rfl ?_
 refine pu (aI aa rfl rfl rfl rfl rfl rfl rfl rfl rfl) rfl ?_
 refine pu (ak rfl rfl rfl (eW [8,8] (by decide)) rfl) rfl ?_
 refine pu (aI aa rfl rfl rfl rfl rfl rfl rfl rfl rfl) rfl ?_
 refine pu (ak rfl rfl rfl (eW [3,5] (by decide)) rfl) rfl ?_
 refine pu (aI aa rfl rfl rfl rfl rfl rfl rfl rfl rfl) rfl ?_
 refine pu (build aa rfl rfl rfl rfl) rfl ?_
 refine a8 aa rfl rfl rfl (aR aa rfl rfl rfl rfl rfl rfl rfl rfl (WO.nil (qs (W.seq (W.region (pE rfl (pu (rm rfl rfl rfl hco rfl) rfl ?_)))))))
 iterate 3 refine pE rfl ?_
 refine a8 aa rfl rfl rfl (aR aa rfl rfl rfl rfl rfl rfl rfl rfl (pE rfl (WO.nil (qs (W.seq (W.jV aa 9 1 (by kernel_rfl) rfl rfl ?_))))))
 refine bE rfl (ev aa rfl) rfl ?_
 refine bE rfl (ev aa rfl) rfl ?_
 refine bE rfl (aI aa rfl rfl rfl rfl rfl rfl rfl rfl rfl) rfl ?_
 refine bE rfl (ak rfl rfl rfl (eW [0,5] (by decide)) rfl) rfl ?_
 refine bE rfl (aI aa rfl rfl rfl rfl rfl rfl rfl rfl rfl) rfl ?_
 refine bE rfl (ak rfl rfl rfl (eW [7,9] (by decide)) rfl) rfl ?_
 refine bE rfl (aI aa rfl rfl rfl rfl rfl rfl rfl rfl rfl) rfl ?_
 refine bE rfl (build aa rfl rfl rfl rfl) rfl ?_
 refine gE 0 rfl rfl rfl rfl rfl rfl ?_
 refine CE.nil ?_
 refine aR aa rfl rfl rfl rfl rfl rfl rfl rfl (WO.nil (qs (W.seq ?_)))
 apply aC;(case hb=>rfl)
 ·
  refine pE rfl (pE rfl (pu (ak rfl rfl rfl (hs tW) rfl) rfl ?_))
  refine pE rfl ?_
  apply aw;(case hj=>rfl);(case hl=>rfl)
  ·
   refine ab rfl rfl (pE rfl (ab rfl rfl ?_))
   iterate 3 refine pE rfl ?_
   apply aw;(case hj=>rfl);(case hl=>rfl)
   ·
    refine ab rfl rfl (pE rfl (ab rfl rfl ?_))
    iterate 3 refine pE rfl ?_
    apply aw;(case hj=>rfl);(case hl=>rfl)
    ·
     refine ab rfl rfl (pE rfl (ab rfl rfl (pE rfl (ab rfl rfl (pu (ak rfl rfl rfl (hs tN) rfl) rfl ?_)))))
     iterate 2 refine pE rfl ?_
     apply aw;(case hj=>rfl);(case hl=>rfl)
     ·
      refine ab rfl rfl (pE rfl (ab rfl rfl ?_))
      iterate 3 refine pE rfl ?_
      apply aw;(case hj=>rfl);(case hl=>rfl)
      ·
       refine ab rfl rfl (pE rfl (ab rfl rfl (pE rfl (ab rfl rfl (pu (ak rfl rfl rfl (hs tU) rfl) rfl ?_)))))
       iterate 2 refine pE rfl ?_
       apply aw;(case hj=>rfl);(case hl=>rfl)
       ·
        refine ab rfl rfl (pE rfl (ab rfl rfl ?_))
        iterate 3 refine pE rfl ?_
        refine WO.nil (ay rfl rfl rfl)
       iterate 2 refine ar rfl rfl rfl rfl ?_
       iterate 2 refine pE rfl ?_
       refine WO.nil (ay rfl rfl rfl)
      iterate 3 refine ar rfl rfl rfl rfl ?_
      iterate 2 refine pE rfl ?_
      iterate 2 refine ar rfl rfl rfl rfl ?_
      iterate 2 refine pE rfl ?_
      refine WO.nil (ay rfl rfl rfl)
     iterate 2 refine ar rfl rfl rfl rfl ?_
     iterate 2 refine pE rfl ?_
     iterate 3 refine ar rfl rfl rfl rfl ?_
     iterate 2 refine pE rfl ?_
     iterate 2 refine ar rfl rfl rfl rfl ?_
     iterate 2 refine pE rfl ?_
     refine WO.nil (ay rfl rfl rfl)
    iterate 3 refine ar rfl rfl rfl rfl ?_
    iterate 2 refine pE rfl ?_
    iterate 2 refine ar rfl rfl rfl rfl ?_
    iterate 2 refine pE rfl ?_
    iterate 3 refine ar rfl rfl rfl rfl ?_
    iterate 2 refine pE rfl ?_
    iterate 2 refine ar rfl rfl rfl rfl ?_
    iterate 2 refine pE rfl ?_
    refine WO.nil (ay rfl rfl rfl)
   iterate 2 refine ar rfl rfl rfl rfl ?_
   iterate 2 refine pE rfl ?_
   iterate 3 refine ar rfl rfl rfl rfl ?_
   iterate 2 refine pE rfl ?_
   iterate 2 refine ar rfl rfl rfl rfl ?_
   iterate 2 refine pE rfl ?_
   iterate 3 refine ar rfl rfl rfl rfl ?_
   iterate 2 refine pE rfl ?_
   iterate 2 refine ar rfl rfl rfl rfl ?_
   iterate 2 refine pE rfl ?_
   refine WO.nil (ay rfl rfl rfl)
  iterate 2 refine ar rfl rfl rfl rfl ?_
  iterate 2 refine pE rfl ?_
  iterate 2 refine ar rfl rfl rfl rfl ?_
  iterate 2 refine pE rfl ?_
  iterate 3 refine ar rfl rfl rfl rfl ?_
  iterate 2 refine pE rfl ?_
  iterate 2 refine ar rfl rfl rfl rfl ?_
  iterate 2 refine pE rfl ?_
  iterate 3 refine ar rfl rfl rfl rfl ?_
  iterate 2 refine pE rfl ?_
  iterate 2 refine ar rfl rfl rfl rfl ?_
  iterate 2 refine pE rfl ?_
  refine WO.nil (ay rfl rfl rfl)
 refine qs (W.ret (QF.aq trivial rfl ?_))
 rfl
end Go.Proofs.YtjenenllmjlimaaGreat
namespace Go.Proofs.YtjenenllmjlimaaGreat
open Go.Ab Go.Tb
set_option maxRecDepth 10000
attribute [local irreducible] W WO Pu QS QB QL QF QV b7 CH QE
theorem uy (op:Int) (on:List ByteArray) (a b:bo) (hon:on.length≤400) (hop:op=7∨op=8∨op=9):ax Tryz.prog 28 [.ag a.c,.ag b.c,.d (.v (.int .i64 op)),.d (.sl (on.map sc))]
  (.tup [.d (.sl ((jt op on a b).1.map Col.c)),.d (.v (.int .i64 (jt op on a b).2))]) 0:=by
 have hfs:∀ w,l7 (cG op on w):=fun w=>⟨Nat.zero_le _,hon,Nat.zero_le _,Nat.zero_le _⟩
 refine ax.aT (n:=41) (ts:=[8,9]) Tryz.func28 (by kernel_rfl) rfl Tryz.ntmps28 Tryz.results28 rfl rfl fun C hC hG=>?_
 refine W.seq (W.region (br rfl rfl rfl (br rfl rfl rfl ?_)))
 iterate 2 refine pE rfl ?_
 refine WO.nil (qs (W.seq (W.region (pE rfl (pu (ak rfl rfl rfl (sh a) rfl) rfl ?_)))))
 refine pE rfl (WO.nil (qs ?_))
 iterate 2 refine W.seq ?_
 refine W.region ?_
 iterate 2 refine pE rfl ?_
 refine WO.nil (qs (ao rfl (fun h16=>?_) (fun h16=>?_)))
 ·
  have hc:bj a≠0:=by simpa using h16
  have hg:jt op on a b=([],bj a):=by unfold jt dY eL;rw[if_pos hc,if_pos hc];split <;> rfl
  refine W.seq (W.region ?_)
  iterate 3 refine pE rfl ?_
  refine WO.nil (qs ?_)
  try refine aG (d:=8) rfl rfl ?_
  refine W.ret (ah (QF.aq trivial rfl ?_))
  (rw[hg];rfl)
 have hc:bj a=0:=by simpa using h16
 have haz:=eh hc
 refine W.skip (qs (W.seq (W.region ?_)))
 iterate 2 refine pE rfl ?_
 refine pu (build aa rfl rfl rfl rfl) rfl ?_
 try refine tP 20 rfl rfl rfl ?_
 refine a8 aa rfl rfl rfl (aR aa rfl rfl rfl rfl rfl rfl rfl rfl (WO.nil (qs (W.seq (W.region (pE rfl (WO.nil (qs ?_))))))))
 iterate 2 refine W.seq ?_
 refine aG (d:=12) rfl rfl ?_
 refine W.region ?_
 iterate 2 refine pE rfl ?_
 refine WO.nil (qs (ao rfl (fun h22=>?_) (fun h22=>?_)))
 ·
  have h9:op≠9:=by simpa using h22
  refine W.seq (W.region (pE rfl (pu (ak rfl rfl rfl (sh b) rfl) rfl ?_)))
  refine pE rfl (WO.nil (qs ?_))
  iterate 2 refine W.seq ?_
  refine W.region ?_
  iterate 2 refine pE rfl ?_
  refine WO.nil (qs (ao rfl (fun h26=>?_) (fun h26=>?_)))
  ·
   have hc2:bj b≠0:=by simpa using h26
   have hg:jt op on a b=([],bj b):=by unfold jt eL;rw[if_neg h9,if_neg (by simp[hc]),if_pos hc2]
   refine W.seq (W.region ?_)
   iterate 3 refine pE rfl ?_
   refine WO.nil (qs ?_)
   try refine aG (d:=8) rfl rfl ?_
   refine W.ret (ah (ah (QF.aq trivial rfl ?_)))
   (rw[hg];rfl)
  have hc2:bj b=0:=by simpa using h26
  have hbz:=eh hc2
  have hft:vZ [⟨wB,b⟩]:=fun x hx=>by simp at hx;subst hx;show b.cols.length≤1000;omega
  have hg:jt op on a b=dy [⟨wB,b⟩] a.cols (cG op on wB):=by unfold jt eL;rw[if_neg h9,if_neg (by simp[hc]),if_neg (by simp[hc2])]
  have hst:=r7 [⟨wB,b⟩] a.cols (cG op on wB) (hfs wB) hft (by omega)
  refine W.skip (qs (W.seq (W.region (pE rfl (aR aa rfl rfl rfl rfl rfl rfl rfl rfl (WO.nil (qs (W.region (pE rfl (pE rfl (pu (build aa rfl rfl rfl rfl) rfl ?_)))))))))))
  try refine tP 31 rfl rfl rfl ?_
  refine pu (aI aa rfl rfl rfl rfl rfl rfl rfl rfl rfl) rfl ?_
  refine bJ (fn:=iH.c) (l:=[]) (a:=⟨wB,b⟩) aa rfl rfl rfl rfl rfl rfl rfl rfl rfl rfl (fun _=>rfl) (by decide) ?_
  refine pE rfl (WO.nil (qs (W.seq (W.region ?_))))
  iterate 2 refine pE rfl ?_
  refine pE rfl (pE rfl (pu (ak rfl rfl rfl hst rfl) rfl ?_))
  iterate 4 refine pE rfl ?_
  refine WO.nil (qs ?_)
  try refine aG (d:=8) rfl rfl ?_
  refine W.ret (QF.aq trivial rfl ?_)
  (rw[hg];rfl)
 have h9:op=9:=by simpa using h22
 have hg:jt op on a b=dy [] a.cols (cG op on (B #[])):=by unfold jt dY;rw[if_pos h9,if_neg (by simp[hc]),h9]
 have hst:=r7 [] a.cols (cG op on (B #[])) (hfs _) (fun x hx=>by cases hx) (by omega)
 refine W.skip (qs (W.seq (W.region ?_)))
 iterate 2 refine pE rfl ?_
 refine pE rfl (pE rfl (pu (ak rfl rfl rfl hst rfl) rfl ?_))
 iterate 4 refine pE rfl ?_
 refine WO.nil (qs ?_)
 try refine aG (d:=8) rfl rfl ?_
 refine W.ret (QF.aq trivial rfl ?_)
 (rw[hg];rfl)
theorem jM (n:Int):ax Tryz.prog 41 [.d (.v (.int .i64 n))] (.ag (b9 n).c) 0:=by
 refine ax.fg aa (n:=5) (rs:=[.cell 2 39]) Tryz.func41 (by kernel_rfl) rfl Tryz.ntmps41 Tryz.results41 rfl fun C hC hG=>?_
 refine W.seq (W.region (a8 aa rfl rfl rfl (WO.nil (qs (W.seq (W.region (pE rfl (pu (build aa rfl rfl rfl rfl) rfl ?_))))))))
 refine aR aa rfl rfl rfl rfl rfl rfl rfl rfl (WO.nil (qs (W.ret (QV.aq aa trivial rfl ?_))))
 rfl
theorem v9 (t:bo) {s:ByteArray} {i:Nat} (h:dp t.cols s=some i):ax Tryz.prog 49 [.ag t.c,.d (.v (.string s))] (.d (.v (.int .i64 ((i:Nat):Int)))) 0:=by
 have:=uS t s
 rw[show(t.cols.findIdx? fun x=>decide (x.name=s))=some i from h] at this
 exact this
theorem xQ (t:bo) (r:List aH) (i j:Nat) (hci:dp t.cols aP=some i) (hcj:dp t.cols bp=some j) (hi:i < r.length) (hj:j < r.length):ax Tryz.prog 29 [.ag t.c,.d (.sl (r.map aH.c))]
  (.tup [.ag (if kO r i j=true then [ci (bh r i).n,ci (bh r j).n] else [ci 0,ci 0]),.d (.v (.bool (kO r i j)))]) 0:=by
 have hvi:r[i]? = some (bh r i):=iq hi
 have hvj:r[j]? = some (bh r j):=iq hj
 refine ax.fg aa (n:=39) (rs:=[.cell 4 51,.tmp 5]) Tryz.func29 (by kernel_rfl) rfl Tryz.ntmps29 Tryz.results29 rfl fun C hC hG=>?_
 refine W.seq (W.region (br rfl rfl rfl (a8 aa rfl rfl rfl (pE rfl (WO.nil (qs (W.seq (W.jV aa 13 2 (by kernel_rfl) rfl rfl ?_))))))))
 refine bE rfl (ev aa rfl) rfl ?_
 refine bE rfl (ev aa rfl) rfl ?_
 refine bE rfl (ak rfl rfl rfl (v9 t hci) rfl) rfl ?_
 refine bE rfl (indexAddr (l:=(bh r i).c) aa rfl rfl rfl rfl rfl rfl (Int.natCast_nonneg _) (aE hvi) rfl) rfl ?_
 refine bE rfl (ev aa rfl) rfl ?_
 refine bE rfl (ev aa rfl) rfl ?_
 refine bE rfl (ev aa rfl) rfl ?_
 refine bE rfl (ak rfl rfl rfl (v9 t hcj) rfl) rfl ?_
 refine bE rfl (indexAddr (l:=(bh r j).c) aa rfl rfl rfl rfl rfl rfl (Int.natCast_nonneg _) (aE hvj) rfl) rfl ?_
 refine bE rfl (ev aa rfl) rfl ?_
 refine gE 0 rfl rfl rfl rfl rfl rfl ?_
 refine gE 1 rfl rfl rfl rfl rfl rfl ?_
 refine oV 10 0 rfl rfl rfl rfl rfl rfl rfl rfl rfl rfl rfl rfl ?_
 refine CE.nil ?_
 refine aR aa rfl rfl rfl rfl rfl rfl rfl rfl (WO.nil (qs ?_))
 iterate 2 refine W.seq ?_
 apply aC;(case hb=>rfl)
 ·
  refine pE rfl (pE rfl ?_)
  iterate 2 refine pE rfl ?_
  apply aw;(case hj=>rfl);(case hl=>rfl)
  ·
   iterate 3 refine ar rfl rfl rfl rfl ?_
   iterate 2 refine pE rfl ?_
   iterate 5 refine ar rfl rfl rfl rfl ?_
   refine pE rfl (WO.nil (ay rfl rfl rfl))
  refine ab rfl rfl (pE rfl (ab rfl rfl (pE rfl (ab rfl rfl ?_))))
  iterate 3 refine pE rfl ?_
  apply aw;(case hj=>rfl);(case hl=>rfl)
  ·
   iterate 5 refine ar rfl rfl rfl rfl ?_
   refine pE rfl (WO.nil (ay rfl rfl rfl))
  refine ab rfl rfl (pE rfl (ab rfl rfl (pE rfl (ab rfl rfl (pE rfl (ab rfl rfl (pE rfl (ab rfl rfl ?_))))))))
  iterate 2 refine pE rfl ?_
  refine WO.nil (ay rfl rfl rfl)
 refine qs (ao rfl (fun h32=>?_) (fun h32=>?_))
 ·
  have hg:kO r i j=false:=by
   revert h32
   unfold kO
   by_cases q1:(bh r i).kind=0 <;> by_cases q2:(bh r j).kind=0 <;> by_cases q3:(bh r i).n < (bh r j).n <;> simp[q1,q2,q3]
  refine W.seq (W.region (pu (build aa rfl rfl rfl rfl) rfl ?_))
  refine aR aa rfl rfl rfl rfl rfl rfl rfl rfl (pE rfl (WO.nil (qs (W.ret (ah (QV.aq aa trivial rfl ?_))))))
  rw[hg];rfl
 have hg:kO r i j=true:=by
  revert h32
  unfold kO
  by_cases q1:(bh r i).kind=0 <;> by_cases q2:(bh r j).kind=0 <;> by_cases q3:(bh r i).n < (bh r j).n <;> simp[q1,q2,q3]
 refine W.skip (qs (W.seq (W.region (pE rfl (pE rfl (pE rfl (pE rfl (pu (build aa rfl rfl rfl rfl) rfl ?_))))))))
 refine aR aa rfl rfl rfl rfl rfl rfl rfl rfl (pE rfl (WO.nil (qs (W.ret (QV.aq aa trivial rfl ?_)))))
 rw[hg];rfl
end Go.Proofs.YtjenenllmjlimaaGreat
namespace Go.Proofs.YtjenenllmjlimaaGreat
open Go.Ab Go.Tb
set_option maxRecDepth 10000
attribute [local irreducible] W WO Pu QS QB QL QF QV b7 CH QE
end Go.Proofs.YtjenenllmjlimaaGreat
namespace Go.Proofs.YtjenenllmjlimaaGreat
open Go.Ab Go.Tb
set_option maxRecDepth 10000
attribute [local irreducible] W WO Pu QS QB QL QF QV b7 CH QE
theorem Av (t:bo) (r:List aH) (i j:Nat) (hci:dp t.cols aP=some i) (hcj:dp t.cols bp=some j) (hi:i < r.length) (hj:j < r.length) (he:kO r i j=cM r i j) :
  ∃ F U:Int,(cM r i j=true→F=(bh r i).n∧U=(bh r j).n)∧ax Tryz.prog 29 [.ag t.c,.d (.sl (r.map aH.c))] (.tup [.ag [ci F,ci U],.d (.v (.bool (cM r i j)))]) 0:=by
 have h:=xQ t r i j hci hcj hi hj
 rw[he] at h
 cases q:cM r i j with
 | true=>
  rw[q] at h
  exact⟨_,_,fun _=>⟨rfl,rfl⟩,h⟩
 | false=>
  rw[q] at h
  exact⟨0,0,(fun h=>by cases h),h⟩
end Go.Proofs.YtjenenllmjlimaaGreat
namespace Go.Proofs.YtjenenllmjlimaaGreat
open Go.Ab Go.Tb
set_option maxRecDepth 10000
attribute [local irreducible] W WO Pu QS QB QL QF QV b7 CH QE
theorem nv (a b:List aH):ax Tryz.prog 42 [.d (.sl (a.map aH.c)),.d (.sl (b.map aH.c))] (.d (.v (.int .i64 (jW a b)))) 0:=by
 refine ax.aT (n:=31) (ts:=[4]) Tryz.func42 (by kernel_rfl) rfl Tryz.ntmps42 Tryz.results42 rfl rfl fun C hC hG=>?_
 refine W.seq (W.region (pE rfl (WO.nil (qs ?_))))
 iterate 2 refine W.seq ?_
 refine W.region (pE rfl (WO.nil (qs (W.block (W.len (t:=1) rfl rfl (fun hlenb=>?_))))))
 simp only[List.length_map] at hlenb
 refine W.len (t:=0) rfl rfl (fun hlen=>?_)
 try simp only[List.length_map,Ex.aF] at hlen
 refine W.aS (ι:={x:Nat // match x with | k=>k≤a.length∧k≤b.length∧jW (a.drop k) (b.drop k)=jW a b})
  (fun x=>match x.1 with | k=>[(5,.d (.v (.int .i64 ((k:Nat):Int))))]) [(0,_),(1,_)]
  (fun x=>match x.1 with | k=>[]) [] [] 0 (fun x=>match x.1 with | k=>a.length - k)
  [] ⟨0,?_⟩ rfl ?_ ⟨rfl,rfl,rfl,rfl,trivial⟩ ?_ trivial rfl ?_
 · exact⟨Nat.zero_le _,Nat.zero_le _,rfl⟩
 · repeat' first | exact trivial | refine⟨rfl,?_⟩
 · repeat' exact trivial
 rintro⟨k,hk,hkb,hI⟩
 show W _ _ _ _ _ ⟨[(5,.d (.v (.int .i64 ((k:Nat):Int)))),(0,_),(1,_)],[],[],0⟩
 iterate 2 refine W.seq ?_
 apply aC;(case hb=>rfl)
 ·
  iterate 5 refine pE rfl ?_
  apply aw;(case hj=>rfl);(case hl=>rfl)
  ·
   refine ab rfl rfl (pE rfl (ab rfl rfl (pE rfl (ab rfl rfl (pE rfl (ab rfl rfl ?_))))))
   iterate 2 refine pE rfl ?_
   refine WO.nil (ay rfl rfl rfl)
  iterate 4 refine ar rfl rfl rfl rfl ?_
  refine pE rfl (WO.nil (ay rfl rfl rfl))
 refine qs (ao rfl (fun h16=>?_) (fun h16=>?_))
 ·
  obtain⟨hlt,hltb⟩:k < a.length∧k < b.length:=by
   revert h16
   by_cases q1:(k:Int) < (a.length:Int) <;> by_cases q2:(k:Int) < (b.length:Int) <;> simp[q1,q2] <;> omega
  obtain⟨x,hx⟩:∃ x,a[k]? = some x:=⟨a[k],by simp[hlt]⟩
  obtain⟨y,hy⟩:∃ y,b[k]? = some y:=⟨b[k],by simp[hltb]⟩
  rw[List.drop_eq_getElem_cons hlt,List.drop_eq_getElem_cons hltb,(List.getElem?_eq_some_iff.1 hx).2,(List.getElem?_eq_some_iff.1 hy).2] at hI
  simp only[jW] at hI
  refine W.skip (qs (W.seq (W.block (W.seq (W.be aa (by kernel_rfl) ?_)))))
  iterate 2 refine an (ev aa rfl) rfl ?_
  refine an (indexAddr (l:=x.c) aa rfl rfl rfl rfl rfl rfl (Int.natCast_nonneg _) (aE hx) rfl) rfl ?_
  refine an (ev aa rfl) rfl ?_
  iterate 2 refine an (ev aa rfl) rfl ?_
  refine an (indexAddr (l:=y.c) aa rfl rfl rfl rfl rfl rfl (Int.natCast_nonneg _) (aE hy) rfl) rfl ?_
  refine an (ev aa rfl) rfl ?_
  refine an (ak rfl rfl rfl (wL x y) rfl) rfl ?_
  refine an (ev aa rfl) rfl ?_
  refine CH.nil ?_
  refine qs (W.seq (W.region ?_))
  iterate 2 refine pE rfl ?_
  refine WO.nil (qs (ao rfl (fun h29=>?_) (fun h29=>?_)))
  ·
   have hq:dd x y≠0:=by simpa using h29
   rw[if_pos hq] at hI
   refine W.seq (W.region ?_)
   iterate 2 refine pE rfl ?_
   refine WO.nil (qs (W.ret (au (ah (aZ (au (ah (QF.aq trivial rfl ?_))))))))
   rw[←hI];rfl
  have hq:dd x y=0:=by simpa using h29
  rw[if_neg (by simp[hq])] at hI
  refine W.skip (aX (qs (W.region ?_)))
  iterate 3 refine pE rfl ?_
  refine WO.nil (W.aU [] ⟨k+1,?_⟩ ?_ rfl ?_ ⟨rfl,rfl,rfl,rfl,trivial⟩ ?_ trivial rfl)
  · exact⟨hlt,hltb,hI⟩
  · dsimp only;omega
  · repeat' first | exact trivial | refine⟨aD (by assumption) (by assumption),?_⟩
  repeat' exact trivial
 have hge:a.length≤k∨b.length≤k:=by
  revert h16
  by_cases q1:(k:Int) < (a.length:Int) <;> by_cases q2:(k:Int) < (b.length:Int) <;> simp[q1,q2] <;> omega
 have hg:jW a b=0:=by
  rw[←hI]
  rcases hge with q | q
  · rw[List.drop_eq_nil_of_le q];rfl
  rw[List.drop_eq_nil_of_le q];cases a.drop k <;> rfl
 refine W.exit (aN (aQ (aO (qs (W.seq (W.region (pE rfl (WO.nil (qs (W.ret (QF.aq trivial rfl ?_)))))))))))
 rw[hg];rfl
end Go.Proofs.YtjenenllmjlimaaGreat
namespace Go.Proofs.YtjenenllmjlimaaGreat
open Go.Ab Go.Tb
set_option maxRecDepth 10000
attribute [local irreducible] W WO Pu QS QB QL QF QV b7 CH QE
theorem yY (t:bo) (row:List aH) (on:List ByteArray) (hon:on.length≤400) (hks:∀ s∈on,∃ i,dp t.cols s=some i∧i < row.length) :
  ax Tryz.prog 40 [.ag t.c,.d (.sl (row.map aH.c)),.d (.sl (on.map sc))] (.own 0 ((bF row (on.map (bw t.cols))).map aH.c)) 1:=by
 have hom:on.length≤maxLen:=by simp only[maxLen];omega
 refine ax.aT (n:=28) (ts:=[6]) Tryz.func40 (by kernel_rfl) rfl Tryz.ntmps40 Tryz.results40 rfl rfl fun C hC hG=>?_
 refine W.seq (W.region (br rfl rfl rfl (pE rfl (WO.nil (qs (W.seq (W.region (pE rfl (WO.nil (qs ?_))))))))))
 iterate 2 refine W.seq ?_
 refine W.region (pE rfl (WO.nil (qs (W.block (aG (d:=7) rfl rfl ?_)))))
 refine W.aS (ι:={x:Nat×List aH // match x with | (k,out)=>k≤on.length∧out=bF row ((on.take k).map (bw t.cols))})
  (fun x=>match x.1 with | (k,out)=>[(3,.ptr 0 0),(7,.own 1 (out.map aH.c)),(8,.d (.v (.int .i64 ((k:Nat):Int))))]) [(1,_),(2,_)]
  (fun x=>match x.1 with | (k,out)=>[(0,t.c.map A.d)]) [] [1] 2 (fun x=>match x.1 with | (k,out)=>on.length - k)
  [0,1] ⟨(0,[]),?_⟩ rfl ?_ ⟨rfl,rfl,rfl,rfl,trivial⟩ ?_ trivial rfl ?_
 · exact⟨Nat.zero_le _,rfl⟩
 · repeat' first | exact trivial | refine⟨rfl,?_⟩
 · repeat' first | exact trivial | refine⟨rfl,?_⟩
 rintro⟨⟨k,out⟩,hk,hI⟩
 show W _ _ _ _ _ ⟨[(3,.ptr 0 0),(7,.own 1 (out.map aH.c)),(8,.d (.v (.int .i64 ((k:Nat):Int)))),(1,_),(2,_)],[(0,t.c.map A.d)],[1],2⟩
 iterate 2 refine W.seq ?_
 refine W.region ?_
 iterate 4 refine pE rfl ?_
 refine WO.nil (qs (a9 (l:=on) (k:=k) rfl (by simp[Ex.aF,aL]) hk (fun s hx hd hlt=>?_) (fun he hd=>?_)))
 ·
  obtain⟨i,hi1,hi2⟩:=hks s (List.mem_of_getElem? hx)
  have htc:=v9 t hi1
  have hv:(row.map aH.c)[((i:Nat):Int).toNat]? = some (bh row i).c:=aE (iq hi2)
  have hol:out.length≤k:=by rw[hI];unfold bF;simp;omega
  refine W.skip (qs (W.seq (W.block (W.eD aa [] [] [] [] 11 (by kernel_rfl) (by kernel_rfl) rfl rfl ?_))))
  refine' aJ (ev aa rfl) ?p_1 rfl rfl rfl (by kernel_rfl) rfl ?h_1
  case' h_1=>skip
  case p_1=>refine⟨fun ha=>(ae ha (by kernel_rfl)).elim,?_⟩ <;> intro ha <;> first | exact⟨ev aa rfl,fun h=>nomatch h⟩ | exact(ae ha (by kernel_rfl)).elim
  refine' aJ (ev aa rfl) ?p_2 rfl rfl rfl (by kernel_rfl) rfl ?h_2
  case' h_2=>skip
  case p_2=>refine⟨fun ha=>(ae ha (by kernel_rfl)).elim,?_⟩ <;> intro ha <;> first | exact⟨ev aa rfl,fun h=>nomatch h⟩ | exact(ae ha (by kernel_rfl)).elim
  refine' aJ (ev aa rfl) ?p_3 rfl rfl rfl (by kernel_rfl) rfl ?h_3
  case' h_3=>skip
  case p_3=>refine⟨fun ha=>(ae ha (by kernel_rfl)).elim,?_⟩ <;> intro ha <;> first | exact⟨ev aa rfl,fun h=>nomatch h⟩ | exact⟨bM aa rfl rfl rfl rfl,fun h=>nomatch h⟩ | exact⟨bL aa rfl rfl rfl rfl rfl,fun h=>nomatch h⟩ | exact(ae ha (by kernel_rfl)).elim
  refine' aJ (ev aa rfl) ?p_4 rfl rfl rfl (by kernel_rfl) rfl ?h_4
  case' h_4=>skip
  case p_4=>refine⟨fun ha=>(ae ha (by kernel_rfl)).elim,?_⟩ <;> intro ha <;> first | exact⟨ev aa rfl,fun h=>nomatch h⟩ | exact(ae ha (by kernel_rfl)).elim
  refine' aJ (ev aa rfl) ?p_5 rfl rfl rfl (by kernel_rfl) rfl ?h_5
  case' h_5=>skip
  case p_5=>refine⟨fun ha=>(ae ha (by kernel_rfl)).elim,?_⟩ <;> intro ha <;> first | exact⟨ev aa rfl,fun h=>nomatch h⟩ | exact(ae ha (by kernel_rfl)).elim
  refine' aJ (indexAddr aa rfl rfl rfl rfl rfl rfl (Int.natCast_nonneg _) (aE hx) rfl) ?p_6 rfl rfl rfl (by kernel_rfl) rfl ?h_6
  case' h_6=>skip
  case p_6=>refine⟨fun ha=>(ae ha (by kernel_rfl)).elim,?_⟩ <;> intro ha <;> first | exact⟨indexAddr aa rfl rfl rfl rfl rfl rfl (Int.natCast_nonneg _) (aE hx) rfl,fun h=>nomatch h⟩ | exact(ae ha (by kernel_rfl)).elim
  refine' aJ (ev aa rfl) ?p_7 rfl rfl rfl (by kernel_rfl) rfl ?h_7
  case' h_7=>skip
  case p_7=>refine⟨fun ha=>(ae ha (by kernel_rfl)).elim,?_⟩ <;> intro ha <;> first | exact⟨ev aa rfl,fun h=>nomatch h⟩ | exact⟨bM aa rfl rfl rfl rfl,fun h=>nomatch h⟩ | exact⟨bL aa rfl rfl rfl rfl rfl,fun h=>nomatch h⟩ | exact(ae ha (by kernel_rfl)).elim
  refine' aJ (ak rfl rfl rfl htc rfl) ?p_8 rfl rfl rfl (by kernel_rfl) rfl ?h_8
  case' h_8=>skip
  case p_8=>refine⟨fun ha=>(ae ha (by kernel_rfl)).elim,?_⟩ <;> intro ha <;> first | exact⟨ak rfl rfl rfl htc rfl,fun h=>nomatch h⟩ | exact(ae ha (by kernel_rfl)).elim
  refine' aJ (indexAddr (l:=(bh row i).c) aa rfl rfl rfl rfl rfl rfl (Int.natCast_nonneg _) hv rfl) ?p_9 rfl rfl rfl (by kernel_rfl) rfl ?h_9
  case' h_9=>skip
  case p_9=>refine⟨fun ha=>(ae ha (by kernel_rfl)).elim,?_⟩ <;> intro ha <;> first | exact⟨indexAddr (l:=(bh row i).c) aa rfl rfl rfl rfl rfl rfl (Int.natCast_nonneg _) hv rfl,fun h=>nomatch h⟩ | exact(ae ha (by kernel_rfl)).elim
  refine' aJ (ev aa rfl) ?p_10 rfl rfl rfl (by kernel_rfl) rfl ?h_10
  case' h_10=>skip
  case p_10=>refine⟨fun ha=>(ae ha (by kernel_rfl)).elim,?_⟩ <;> intro ha <;> first | exact⟨ev aa rfl,fun h=>nomatch h⟩ | exact⟨bM aa rfl rfl rfl rfl,fun h=>nomatch h⟩ | exact⟨bL aa rfl rfl rfl rfl rfl,fun h=>nomatch h⟩ | exact(ae ha (by kernel_rfl)).elim
  refine' aJ (aI aa rfl rfl rfl rfl rfl rfl rfl rfl rfl) ?p_11 rfl rfl rfl (by kernel_rfl) rfl ?h_11
  case' h_11=>skip
  case p_11=>refine⟨fun ha=>(ae ha (by kernel_rfl)).elim,?_⟩ <;> intro ha <;> first | exact⟨aI aa rfl rfl rfl rfl rfl rfl rfl rfl rfl,fun h=>nomatch h⟩ | exact(ae ha (by kernel_rfl)).elim
  refine CD.nil ?_ rfl
  refine bJ (fn:=aH.c) (a:=bh row i) aa rfl rfl rfl rfl rfl rfl rfl rfl rfl rfl (fun _=>rfl) (by show(out.length+1)*32≤_;omega) ?_
  refine pE rfl (WO.nil (aX (qs (W.region ?_))))
  iterate 3 refine pE rfl ?_
  refine WO.nil (W.aU [0,2] ⟨(k+1,out++[bh row i]),?_⟩ ?_ rfl ?_ ⟨rfl,rfl,rfl,rfl,trivial⟩ ?_ trivial rfl)
  · exact⟨hlt,by rw[hI];unfold bF;rw[List.take_add_one,hx];simp[cm hi1]⟩
  · dsimp only;omega
  · repeat' first | exact trivial | refine⟨rfl,?_⟩ | refine⟨aD (by assumption) (by assumption),?_⟩
  repeat' first | exact trivial | refine⟨rfl,?_⟩
 have hfin:out=bF row (on.map (bw t.cols)):=by rw[hI,List.take_of_length_le (by have:=congrArg List.length hd;simp at this;omega)]
 refine W.exit (aN (aQ (aO (qs (W.seq (W.region ?_))))))
 iterate 2 refine pE rfl ?_
 refine WO.nil (qs (W.ret (QF.lr 1 trivial rfl (by simp) ?_)))
 rw[hfin];rfl
theorem yX (l:List Pc) (p:Pc) (m:Nat) (hkl:∀ q∈l,q.key.length=m) (hp:p.key.length=m) (hl:l.length≤100000) :
  ax Tryz.prog 39 [.d (.sl ((l.map a0).map rc)),.d (.sl ((a0 p).map aH.c))] (.d (.sl (((lB l p).map a0).map rc))) 0:=by
 have hlm:l.length≤maxLen:=by simp only[maxLen];omega
 refine ax.aT (n:=37) (ts:=[4]) Tryz.func39 (by kernel_rfl) rfl Tryz.ntmps39 Tryz.results39 rfl rfl fun C hC hG=>?_
 refine W.seq (W.region (pE rfl (WO.nil (qs (W.seq (W.region ?_))))))
 iterate 3 refine pE rfl ?_
 refine WO.nil (qs (W.seq (W.block ?_)))
 refine W.aS (ι:={x:Nat // match x with | k=>k≤l.length∧gn l p k=gn l p l.length})
  (fun x=>match x.1 with | k=>[(5,.d (.v (.int .i64 ((k:Nat):Int))))]) [(0,_),(1,_)]
  (fun x=>match x.1 with | k=>[]) [] [] 0 (fun x=>match x.1 with | k=>k)
  [] ⟨((l.map a0).map rc).length,?_⟩ rfl ?_ ⟨rfl,rfl,rfl,rfl,trivial⟩ ?_ trivial rfl ?_
 · exact⟨by rw[List.length_map,List.length_map];exact Nat.le_refl _,by rw[List.length_map,List.length_map]⟩
 · repeat' first | exact trivial | refine⟨rfl,?_⟩
 · repeat' exact trivial
 rintro⟨k,hk,hI⟩
 show W _ _ _ _ _ ⟨[(5,.d (.v (.int .i64 ((k:Nat):Int)))),(0,_),(1,_)],[],[],0⟩
 have hsub:IntKind.i64.wrap ((k:Int) - 1)=(k:Int) - 1:=wrap64 (by omega)
 have hla:∀ h:decide ((0:Int) < (k:Int))=true,0≤(k:Int) - 1∧((l.map a0).map rc)[((k:Int) - 1).toNat]? = some (rc (a0 (el l (k - 1)))):=by
  intro h
  have h0:0 < k:=by simp at h;omega
  refine⟨by omega,?_⟩
  rw[show((k:Int) - 1).toNat=k - 1 by omega,List.getElem?_map,List.getElem?_map,gv (by omega:k - 1 < l.length)];rfl
 iterate 2 refine W.seq ?_
 apply aC;(case hb=>rfl)
 ·
  iterate 3 refine pE rfl ?_
  apply eI;(case hj=>rfl);(case hl=>rfl)
  ·
   intro g11
   refine ab rfl rfl (pE rfl (ab rfl rfl (pE rfl (ab rfl rfl (pu (bH (ev aa rfl) hsub) rfl ?_)))))
   refine ab rfl rfl (pu (indexAddr (l:=rc (a0 (el l (k - 1)))) aa rfl rfl rfl rfl rfl rfl (hla g11).1 (hla g11).2 rfl) rfl ?_)
   refine ab rfl rfl (pE rfl (ab rfl rfl (pE rfl (ab rfl rfl (pu (ak rfl rfl rfl (nv (a0 (el l (k - 1))) (a0 p)) rfl) rfl ?_)))))
   refine ab rfl rfl ?_
   iterate 2 refine pE rfl ?_
   refine WO.nil (ay rfl rfl rfl)
  intro g11
  iterate 8 refine ar rfl rfl rfl rfl ?_
  refine pE rfl (WO.nil (ay rfl rfl rfl))
 refine qs (ao rfl (fun h20=>?_) (fun h20=>?_))
 ·
  have hh:0 < k∧0 < kz (el l (k - 1)) p:=by
   revert h20
   by_cases q:(0:Int) < (k:Int)
   ·
    have hm:el l (k - 1)∈l:=List.mem_of_getElem? (gv (by omega))
    rw[uf (by rw[hkl _ hm,hp])]
    have q1:0 < k:=by omega
    simp[q1]
   have q1:¬ 0 < k:=by omega
   simp[q1]
  have hk0:=hh.1
  have hsubN:IntKind.i64.wrap ((k:Int) - 1)=((k - 1:Nat):Int):=by rw[hsub];omega
  have hnx:gn l p (k - 1)=gn l p l.length:=by
   rw[←hI]
   obtain⟨j,rfl⟩:∃ j,k=j+1:=⟨k - 1,by omega⟩
   simp only[Nat.add_sub_cancel] at hh ⊢
   rw[gn,if_pos hh.2]
  refine W.skip (qs (W.block (W.region (pE rfl (pu (bH (ev aa rfl) hsubN) rfl ?_)))))
  refine pE rfl (WO.nil (aX (W.aU [] ⟨k - 1,?_⟩ ?_ rfl ?_ ⟨rfl,rfl,rfl,rfl,trivial⟩ ?_ trivial rfl)))
  · exact⟨by omega,hnx⟩
  · dsimp only;omega
  · repeat' first | exact trivial | refine⟨rfl,?_⟩
  repeat' exact trivial
 have hfin:gn l p l.length=k:=by
  rw[←hI]
  cases k with
  | zero=>rfl
  | succ j=>
   rw[gn]
   rw[if_neg]
   intro hc
   have hm:el l j∈l:=List.mem_of_getElem? (gv (by omega))
   revert h20
   simp only[Nat.add_sub_cancel]
   rw[uf (by rw[hkl _ hm,hp])]
   simp[hc]
 refine W.exit (aN (aQ (aO (qs (W.seq (W.region (mq aa rfl rfl rfl rfl rfl rfl rfl rfl (by rfl) ?_)))))))
 iterate 2 refine pE rfl ?_
 refine pu (ub (fn:=rc) (l:=l.map a0) (i:=0) (j:=(k:Int)) (r:=(l.take k).map a0) aa rfl rfl rfl rfl rfl (fun _=>rfl) rfl rfl (by decide) (by omega) (by rw[List.length_map];omega) (by simp)) rfl ?_
 refine dn (l:=[]) (l2:=(l.take k).map a0) (fn:=rc) aa rfl rfl rfl rfl rfl rfl rfl rfl rfl rfl (fun _=>rfl) (by show(0+((l.take k).map a0).length)*24≤_;rw[List.length_map,List.length_take];omega) ?_
 refine pE rfl (WO.nil (qs (W.seq (W.region ?_))))
 iterate 2 refine pE rfl ?_
 refine pu (aI aa rfl rfl rfl rfl rfl rfl rfl rfl rfl) rfl ?_
 refine bJ (fn:=rc) (a:=a0 p) aa rfl rfl rfl rfl rfl rfl rfl rfl rfl rfl (fun _=>rfl) (by show(((l.take k).map a0).length+1)*24≤_;rw[List.length_map,List.length_take];omega) ?_
 refine pE rfl (WO.nil (qs (W.seq (W.region ?_))))
 iterate 3 refine pE rfl ?_
 refine pu (ub (fn:=rc) (l:=l.map a0) (i:=(k:Int)) (j:=(l.length:Int)) (r:=(l.drop k).map a0) aa rfl rfl rfl rfl rfl (fun _=>rfl) rfl (by rw[List.length_map];rfl) (by omega) (by omega) (by rw[List.length_map];omega) (by rw[show((l.length:Int)).toNat=l.length by simp,show((k:Int)).toNat=k by simp,List.take_of_length_le (by simp),List.map_drop])) rfl ?_
 refine dn (l2:=(l.drop k).map a0) (fn:=rc) aa rfl rfl rfl rfl rfl rfl rfl rfl rfl rfl (fun _=>rfl) (by show(((l.take k).map a0++[a0 p]).length+((l.drop k).map a0).length)*24≤_;simp;omega) ?_
 refine pE rfl (WO.nil (qs (W.ret (QF.aq trivial rfl ?_))))
 simp only[norm,az];first | (unfold lB;rw[hfin];simp;done) | skip
end Go.Proofs.YtjenenllmjlimaaGreat
namespace Go.Proofs.YtjenenllmjlimaaGreat
open Go.Ab Go.Tb
set_option maxRecDepth 10000
attribute [local irreducible] W WO Pu QS QB QL QF QV b7 CH QE
/- the rows so far: the last one may still be written -/
def Mode (J:List Pc) (R es:List (List D)) (v:Value) (m:Nat):Prop:=(J=[]∧R=[])∨∃ J0 p,J=J0++[p]∧R=(J0.map a0).map rc++[[.v v]]∧es=(a0 p).map aH.c∧m=es.length
theorem Mode.len {J:List Pc} {R es:List (List D)} {v:Value} {m:Nat} (h:Mode J R es v m):R.length=J.length:=by
 rcases h with ⟨rfl,rfl⟩ | ⟨J0,p,rfl,rfl,_,_⟩
 · rfl
 simp
theorem Mode.at_ {J:List Pc} {R es:List (List D)} {v:Value} {m:Nat} (h:Mode J R es v m) (h0:0 < J.length):R[J.length - 1]? = some [.v v]∧es=(a0 (bC J)).map aH.c∧m=(bC J).key.length+2:=by
 rcases h with ⟨rfl,rfl⟩ | ⟨J0,p,rfl,rfl,rfl,rfl⟩
 · simp at h0
 rw[kG]
 refine⟨?_,rfl,by unfold a0;simp⟩
 rw[List.length_append,List.length_singleton,Nat.add_sub_cancel,List.getElem?_append_right (by simp)]
 simp
theorem Mode.fz {J:List Pc} {R es:List (List D)} {v:Value} {m:Nat} (h:Mode J R es v m):R=(J.map a0).map rc∨∃ E,R=E++[[.v v]]∧(J.map a0).map rc=E++[[.sl es]]∧es.length=m∧∀ x∈es,x.length=3:=by
 rcases h with ⟨rfl,rfl⟩ | ⟨J0,p,rfl,rfl,rfl,rfl⟩
 · exact .inl rfl
 exact .inr ⟨_,rfl,by simp,rfl,iI _⟩
theorem Mode.one {J:List Pc} {R es:List (List D)} {v:Value} {m:Nat} (h:Mode J R es v m):∀ z∈(J.map a0).map rc,z.length=1:=by
 intro z hz
 obtain⟨y,_,rfl⟩:=List.mem_map.1 hz
 rfl
theorem Mode.add (J:List Pc) (p:Pc) (v:Value):Mode (J++[p]) ((J.map a0).map rc++[[.v v]]) ((a0 p).map aH.c) v ((a0 p).map aH.c).length:=.inr ⟨J,p,rfl,rfl,rfl,rfl⟩
theorem Mode.A5 {J:List Pc} {R es:List (List D)} {v:Value} {m:Nat} (h:Mode J R es v m) (h0:0 < J.length) (p:Pc) (hk:p.key.length=(bC J).key.length):Mode (J.set (J.length - 1) p) R ((a0 p).map aH.c) v m:=by
 rcases h with ⟨rfl,rfl⟩ | ⟨J0,q,rfl,rfl,rfl,rfl⟩
 · simp at h0
 rw[kG] at hk
 exact .inr ⟨J0,p,tF _ _ _,rfl,rfl,by unfold a0;simp[hk]⟩
theorem ze {p:Pc} {n:Nat} (h:p.key.length=n):((a0 p).map aH.c).take n=p.key.map aH.c:=by
 subst h
 unfold a0
 rw[List.map_append,List.take_append_of_le_length (by simp),List.take_of_length_le (by simp)]
theorem zs {p:Pc} {n:Nat} (h:p.key.length=n):((a0 p).map aH.c)[n]? = some (b9 p.fr).c:=by
 subst h
 unfold a0
 rw[List.map_append,List.getElem?_append_right (by simp)]
 simp
 exact⟨rfl,rfl,rfl⟩
theorem rz {p:Pc} {n:Nat} (h:p.key.length=n):((a0 p).map aH.c)[n+1]? = some (b9 p.to).c:=by
 subst h
 unfold a0
 rw[List.map_append,List.getElem?_append_right (by simp)]
 simp
 exact⟨rfl,rfl,rfl⟩
theorem zh {p q:Pc} {n:Nat} (h:p.key.length=n) (u:Int) (hu:u=(dD p q).to):((a0 p).map aH.c).set (n+1) (gV (b9 p.to).c 1 [.v (.int .i64 u)])=(a0 (dD p q)).map aH.c:=by
 subst h;subst hu
 unfold a0
 have e:gV (b9 p.to).c 1 [.v (.int .i64 (dD p q).to)]=(b9 (dD p q).to).c:=rfl
 rw[e,List.map_append,List.map_append,List.set_append_right _ _ (by simp)]
 simp;rfl
theorem vH {K:List aH→Prop} {J:List Pc} {p:Pc} (h:∀ q∈J,dc K q) (hp:dc K p) (h0:0 < J.length):∀ q∈J.set (J.length - 1) (dD (bC J) p),dc K q:=by
 intro q hq
 rcases List.mem_or_eq_of_mem_set hq with hq | rfl
 · exact h q hq
 exact mL (h _ (nR h0)) hp
theorem tT (a:bo) (on:List ByteArray) (hon:on.length≤400):ax Tryz.prog 14 [.ag a.c,.d (.sl (on.map sc))]
  (.tup [.ag (bb a on).1.c,.d (.v (.int .i64 (bb a on).2))]) 0:=by
 have hcol:=uy 9 on a fL hon (.inr (.inr rfl))
 rw[show jt 9 on a fL=dY 9 on a from rfl] at hcol
 obtain⟨CT0,hCT⟩:∃ c,dY 9 on a=c:=⟨_,rfl⟩
 rw[hCT] at hcol
 refine ax.fg aa (n:=163) (rs:=[.cell 4 25,.tmp 5]) Tryz.func14 (by kernel_rfl) rfl Tryz.ntmps14 Tryz.results14 rfl fun C hC hG=>?_
 refine W.seq (W.region (br rfl rfl rfl (a8 aa rfl rfl rfl (pE rfl (WO.nil (qs (W.seq (W.region (pE rfl (pu (build aa rfl rfl rfl rfl) rfl ?_))))))))))
 refine tP 18 rfl rfl rfl ?_
 refine pE rfl (pu (ak rfl rfl rfl hcol rfl) rfl ?_)
 iterate 5 refine pE rfl ?_
 refine WO.nil (qs ?_)
 iterate 2 refine W.seq ?_
 refine W.region ?_
 iterate 2 refine pE rfl ?_
 refine WO.nil (qs (ao rfl (fun h24=>?_) (fun h24=>?_)))
 ·
  have he:CT0.2≠0:=by simpa using h24
  have hg:bb a on=(fL,CT0.2):=by unfold bb;rw[hCT,if_pos he]
  refine W.seq (W.region (pu (build aa rfl rfl rfl rfl) rfl ?_))
  refine pE rfl (aR aa rfl rfl rfl rfl rfl rfl rfl rfl (pE rfl (WO.nil (qs ?_))))
  try refine cD 1 0 rfl rfl rfl ?_
  try refine cD 1 1 rfl rfl rfl ?_
  refine W.ret (ah (QV.aq aa trivial rfl ?_))
  (rw[hg];rfl)
 have he:CT0.2=0:=by simpa using h24
 have hca:=AE.1 (by rw[hCT];exact he)
 have haz:=eh hca.ga
 have hra:=gW hca.ga
 have hnd:=hca.nd
 have hlma:a.rows.length≤maxLen:=by simp only[maxLen];omega
 have hpg:∀ z∈a.rows,eJ z (bw a.cols aP) (bw a.cols bp)=true→dc (pH (cA a on)) (gK (cO a on) (bw a.cols aP) (bw a.cols bp) z):=fun z hz hi=>xC hca hz hi
 have hgo:bb a on=(⟨CT0.1,(jK a on).map a0⟩,0):=by unfold bb;rw[hCT,if_neg (by simp[he])]
 have hjo:jK a on=db [] (iL [] (pieces (cO a on) (bw a.cols aP) (bw a.cols bp) a.rows)):=(join_eq wH _ (fun p hp=>by
  obtain⟨z,hz,hi,rfl⟩:=mQ.1 hp
  exact hpg z hz hi)).symm
 have hpsg:∀ p∈pieces (cO a on) (bw a.cols aP) (bw a.cols bp) a.rows,dc (pH (cA a on)) p:=fun p hp=>by
  obtain⟨z,hz,hi,rfl⟩:=mQ.1 hp
  exact hpg z hz hi
 have hpl:=mI (cO a on) (bw a.cols aP) (bw a.cols bp) a.rows
 have hcl:(cA a on).length=on.length:=List.length_map _
 have hkey:∀ z∈a.rows,ax Tryz.prog 40 [.ag a.c,.d (.sl (z.map aH.c)),.d (.sl (on.map sc))] (.own 0 ((bF z (cO a on)).map aH.c)) 1:=fun z hz=>yY a z on (by omega) (fun s hs=>by
  obtain⟨c,hc⟩:=hca.tk s hs
  obtain⟨i,g1,g2,_⟩:=fV hc
  exact⟨i,g1,by rw[(hra z hz).1];exact(List.getElem?_eq_some_iff.1 g2).1⟩)
 have hll:(cO a on).length=on.length:=List.length_map _
 obtain⟨i0,ca0,ha0,ha0c,ha0t⟩:=fJ hca.fr
 obtain⟨i1,ca1,ha1,ha1c,ha1t⟩:=fJ hca.to
 have oa0:bw a.cols aP=i0:=cm ha0
 have oa1:bw a.cols bp=i1:=cm ha1
 obtain⟨left,hleft⟩:∃ l,cO a on=l:=⟨_,rfl⟩
 rw[hleft] at hpg hpsg hpl hkey hll hjo
 rw[oa0,oa1] at hpg hpsg hpl hjo
 obtain⟨K,hK⟩:∃ k,pH (cA a on)=k:=⟨_,rfl⟩
 have hKl:∀ k,K k→k.length=on.length:=fun k hk=>by rw[←hK] at hk;rw[hk.1,hcl]
 have hKe:∀ x y,K x→K y→bT x y=0→x=y:=by rw[←hK];exact wH
 rw[hK] at hpg hpsg
 obtain⟨PS,hPS⟩:∃ s,pieces left i0 i1 a.rows=s:=⟨_,rfl⟩
 have hps:=ma PS [] List.Pairwise.nil
 rw[List.nil_append] at hps
 rw[hPS] at hpsg hpl hjo
 obtain⟨S,hSS⟩:∃ s,iL [] PS=s:=⟨_,rfl⟩
 rw[hSS] at hps hjo
 have hSg:∀ p∈S,dc K p:=fun p hp=>hpsg p (hps.2.mem_iff.1 hp)
 have hSl:S.length=PS.length:=hps.2.length_eq
 have hSm:S.length≤maxLen:=by simp only[maxLen];omega
 refine W.skip (qs (W.seq (W.region (pE rfl (WO.nil (qs ?_))))))
 iterate 2 refine W.seq ?_
 refine W.region (pE rfl (WO.nil (qs (W.block (yS (t:=8) rfl ?_)))))
 refine W.aS (ι:={x:Nat×List Pc // match x with | (i,L)=>i≤a.rows.length∧L.length≤i∧iL L (pieces left i0 i1 (a.rows.drop i))=S∧∀ p∈L,p.key.length=on.length})
  (fun x=>match x.1 with | (i,L)=>[(2,.ptr 0 0),(4,.ptr 1 0),(8,.d (.sl ((L.map a0).map rc))),(9,.d (.v (.int .i64 ((i:Nat):Int))))]) [(1,_),(6,_)]
  (fun x=>match x.1 with | (i,L)=>[(0,a.c.map A.d),(1,[.d (.v (.slice none 0 0)),.d (.v (.slice none 0 0))])]) [] [] 2 (fun x=>match x.1 with | (i,L)=>a.rows.length - i)
  [0,1] ⟨(0,[]),?_⟩ rfl ?_ ⟨rfl,rfl,rfl,rfl,trivial⟩ ?_ trivial rfl ?_
 · exact⟨Nat.zero_le _,Nat.zero_le _,by rw[List.drop_zero,hPS];exact hSS,fun p hp=>nomatch hp⟩
 · repeat' first | exact trivial | refine⟨rfl,?_⟩
 · repeat' first | exact trivial | refine⟨rfl,?_⟩
 rintro⟨⟨i,L⟩,hk,hLn,hI,hLk⟩
 show W _ _ _ _ _ ⟨[(2,.ptr 0 0),(4,.ptr 1 0),(8,.d (.sl ((L.map a0).map rc))),(9,.d (.v (.int .i64 ((i:Nat):Int)))),(1,_),(6,_)],[(0,a.c.map A.d),(1,[.d (.v (.slice none 0 0)),.d (.v (.slice none 0 0))])],[],2⟩
 iterate 2 refine W.seq ?_
 refine W.region ?_
 iterate 2 refine pE rfl ?_
 refine pE rfl ?_
 iterate 2 refine pE rfl ?_
 refine WO.nil (qs (a9 (l:=a.rows) (k:=i) rfl (by simp[Ex.aF,aL]) hk (fun z hx hd hlt=>?_) (fun he hd=>?_)))
 ·
  rw[hd] at hI
  simp only[pieces] at hI
  have hzm:=List.mem_of_getElem? hx
  have hzl:=(hra z hzm).1
  have hzi:=(List.getElem?_eq_some_iff.1 hx).1
  obtain⟨F,U,hFU,hsx⟩:=Av a z i0 i1 ha0 ha1 (by rw[hzl];exact(List.getElem?_eq_some_iff.1 ha0c).1) (by rw[hzl];exact(List.getElem?_eq_some_iff.1 ha1c).1) (yB hca.ga hzm ha0c ha1c ha0t ha1t)
  have hkz:=hkey z hzm
  have hkn:(bF z left).length=on.length:=by unfold bF;rw[List.length_map,hll]
  refine W.skip (qs (W.seq (W.block (W.seq (W.jV aa 12 1 (by kernel_rfl) rfl rfl ?_)))))
  refine bE rfl (ev aa rfl) rfl ?_
  refine bE rfl (ev aa rfl) rfl ?_
  refine bE rfl (ev aa rfl) rfl ?_
  refine bE rfl (ev aa rfl) rfl ?_
  refine bE rfl (indexAddr aa rfl rfl rfl rfl rfl rfl (Int.natCast_nonneg _) (aE hx) rfl) rfl ?_
  refine bE rfl (ev aa rfl) rfl ?_
  refine bE rfl (ak rfl rfl rfl hsx rfl) rfl ?_
  refine bE rfl (ev aa rfl) rfl ?_
  refine bE rfl (ev aa rfl) rfl ?_
  refine bE rfl (ev aa rfl) rfl ?_
  refine gE 0 rfl rfl rfl rfl rfl rfl ?_
  refine oV 10 0 rfl rfl rfl rfl rfl rfl rfl rfl rfl rfl rfl rfl ?_
  refine CE.nil ?_
  refine pE rfl (WO.nil (qs (W.seq ?_)))
  apply aC;(case hb=>rfl)
  ·
   iterate 2 refine pE rfl ?_
   apply eI;(case hj=>rfl);(case hl=>rfl)
   ·
    intro g45
    refine ab rfl rfl (pE rfl (ab rfl rfl (pE rfl (ab rfl rfl ?_))))
    iterate 2 refine pE rfl ?_
    refine WO.nil (ay rfl rfl rfl)
   intro g45
   iterate 3 refine ar rfl rfl rfl rfl ?_
   refine pE rfl (WO.nil (ay rfl rfl rfl))
  refine qs (ao rfl (fun h49=>?_) (fun h49=>?_))
  ·
   have hin:eJ z i0 i1=true:=by
    revert h49
    unfold eJ
    cases q:cM z i0 i1 with
    | false=>intro h;simp at h
    | true=>
     obtain⟨rfl,rfl⟩:=hFU q
     simp
   have hsb:cM z i0 i1=true:=by
    unfold eJ at hin
    simp only[Bool.and_eq_true] at hin
    exact hin.1
   obtain⟨rfl,rfl⟩:=hFU hsb
   rw[if_pos hin] at hI
   simp only[iL] at hI
   have hput:=yX L (gK left i0 i1 z) on.length hLk hkn (by omega)
   have hplen:=xW L (gK left i0 i1 z)
   have hpk:∀ p∈lB L (gK left i0 i1 z),p.key.length=on.length:=fun p hp=>by
    rcases List.mem_cons.1 ((nz L (gK left i0 i1 z)).mem_iff.1 hp) with rfl | hp
    · exact hkn
    exact hLk p hp
   refine' W.eD aa [_,_] [[3],[4]] [4,5] [8,16] 17 (by kernel_rfl) (by kernel_rfl) rfl rfl ?hL_1
   case' hL_1=>skip
   refine' aJ (ev aa rfl) ?p_2 rfl rfl rfl (by kernel_rfl) rfl ?h_2
   case' h_2=>skip
   refine' aJ (ev aa rfl) ?p_3 rfl rfl rfl (by kernel_rfl) rfl ?h_3
   case' h_3=>skip
   refine' aJ (ev aa rfl) ?p_4 rfl rfl rfl (by kernel_rfl) rfl ?h_4
   case' h_4=>skip
   refine' aJ (ev aa rfl) ?p_5 rfl rfl rfl (by kernel_rfl) rfl ?h_5
   case' h_5=>skip
   refine' aJ (ev aa rfl) ?p_6 rfl rfl rfl (by kernel_rfl) rfl ?h_6
   case' h_6=>skip
   refine' aJ (indexAddr aa rfl rfl rfl rfl rfl rfl (Int.natCast_nonneg _) (aE hx) rfl) ?p_7 rfl rfl rfl (by kernel_rfl) rfl ?h_7
   case' h_7=>skip
   refine' aJ (ev aa rfl) ?p_8 rfl rfl rfl (by kernel_rfl) rfl ?h_8
   case' h_8=>skip
   refine' aJ (ev aa rfl) ?p_9 rfl rfl rfl (by kernel_rfl) rfl ?h_9
   case' h_9=>skip
   refine' kC ?x_10 rfl rfl rfl (by kernel_rfl) (fun h=>(ae h (by kernel_rfl)).elim) rfl ?h_10
   case x_10=>
    intro b hb g;cases b
    · exact(ae hb (by kernel_rfl)).elim
    refine fC rfl rfl rfl (hkz) (by rfl) rfl rfl ?_
    refine WO.nil ?_
    refine' iD rfl ?_ ?_ ?_ ?_
    all_goals try exact rfl
   case' h_10=>skip
   refine' aJ (ev aa rfl) ?p_11 rfl rfl rfl (by kernel_rfl) rfl ?h_11
   case' h_11=>skip
   refine' aJ (ev aa rfl) ?p_12 rfl rfl rfl (by kernel_rfl) rfl ?h_12
   case' h_12=>skip
   refine' aJ (ak rfl rfl rfl (jM _) rfl) ?p_13 rfl rfl rfl (by kernel_rfl) rfl ?h_13
   case' h_13=>skip
   refine' aJ (ev aa rfl) ?p_14 rfl rfl rfl (by kernel_rfl) rfl ?h_14
   case' h_14=>skip
   refine' aJ (ev aa rfl) ?p_15 rfl rfl rfl (by kernel_rfl) rfl ?h_15
   case' h_15=>skip
   refine' aJ (ak rfl rfl rfl (jM _) rfl) ?p_16 rfl rfl rfl (by kernel_rfl) rfl ?h_16
   case' h_16=>skip
   refine' aJ (aI aa rfl rfl rfl rfl rfl rfl rfl rfl rfl) ?p_17 rfl rfl rfl (by kernel_rfl) rfl ?h_17
   case' h_17=>skip
   refine' kC ?x_18 rfl rfl rfl (by kernel_rfl) (fun h=>(ae h (by kernel_rfl)).elim) rfl ?h_18
   case x_18=>
    intro b hb g;cases b
    · exact(ae hb (by kernel_rfl)).elim
    refine dn (fn:=aH.c) (l:=bF z left) (l2:=[b9 (bh z i0).n,b9 (bh z i1).n]) aa rfl rfl rfl rfl rfl rfl rfl rfl rfl rfl (fun _=>rfl) (by show((bF z left).length+2)*32≤_;omega) ?_
    refine WO.nil ?_
    refine' iD rfl ?_ ?_ ?_ ?_
    all_goals try exact rfl
   case' h_18=>skip
   case p_2=>refine⟨fun ha=>(ae ha (by kernel_rfl)).elim,?_,fun ha=>(ae ha (by kernel_rfl)).elim,?_,fun ha=>(ae ha (by kernel_rfl)).elim,?_⟩ <;> intro ha <;> first | exact⟨ev aa rfl,fun h=>nomatch h⟩ | exact(ae ha (by kernel_rfl)).elim
   case p_3=>refine⟨fun ha=>(ae ha (by kernel_rfl)).elim,?_,fun ha=>(ae ha (by kernel_rfl)).elim,?_,fun ha=>(ae ha (by kernel_rfl)).elim,?_⟩ <;> intro ha <;> first | exact⟨ev aa rfl,fun h=>nomatch h⟩ | exact⟨bM aa rfl rfl rfl rfl,fun h=>nomatch h⟩ | exact⟨bL aa rfl rfl rfl rfl rfl,fun h=>nomatch h⟩ | exact(ae ha (by kernel_rfl)).elim
   case p_4=>refine⟨fun ha=>(ae ha (by kernel_rfl)).elim,?_,fun ha=>(ae ha (by kernel_rfl)).elim,?_,fun ha=>(ae ha (by kernel_rfl)).elim,?_⟩ <;> intro ha <;> first | exact⟨ev aa rfl,fun h=>nomatch h⟩ | exact(ae ha (by kernel_rfl)).elim
   case p_5=>refine⟨fun ha=>(ae ha (by kernel_rfl)).elim,?_,fun ha=>(ae ha (by kernel_rfl)).elim,?_,fun ha=>(ae ha (by kernel_rfl)).elim,?_⟩ <;> intro ha <;> first | exact⟨ev aa rfl,fun h=>nomatch h⟩ | exact⟨bM aa rfl rfl rfl rfl,fun h=>nomatch h⟩ | exact⟨bL aa rfl rfl rfl rfl rfl,fun h=>nomatch h⟩ | exact(ae ha (by kernel_rfl)).elim
   case p_6=>refine⟨fun ha=>(ae ha (by kernel_rfl)).elim,?_,fun ha=>(ae ha (by kernel_rfl)).elim,?_,fun ha=>(ae ha (by kernel_rfl)).elim,?_⟩ <;> intro ha <;> first | exact⟨ev aa rfl,fun h=>nomatch h⟩ | exact(ae ha (by kernel_rfl)).elim
   case p_7=>refine⟨fun ha=>(ae ha (by kernel_rfl)).elim,?_,fun ha=>(ae ha (by kernel_rfl)).elim,?_,fun ha=>(ae ha (by kernel_rfl)).elim,?_⟩ <;> intro ha <;> first | exact⟨indexAddr aa rfl rfl rfl rfl rfl rfl (Int.natCast_nonneg _) (aE hx) rfl,fun h=>nomatch h⟩ | exact(ae ha (by kernel_rfl)).elim
   case p_8=>refine⟨fun ha=>(ae ha (by kernel_rfl)).elim,?_,fun ha=>(ae ha (by kernel_rfl)).elim,?_,fun ha=>(ae ha (by kernel_rfl)).elim,?_⟩ <;> intro ha <;> first | exact⟨ev aa rfl,fun h=>nomatch h⟩ | exact⟨bM aa rfl rfl rfl rfl,fun h=>nomatch h⟩ | exact⟨bL aa rfl rfl rfl rfl rfl,fun h=>nomatch h⟩ | exact(ae ha (by kernel_rfl)).elim
   case p_9=>refine⟨fun ha=>(ae ha (by kernel_rfl)).elim,?_,fun ha=>(ae ha (by kernel_rfl)).elim,?_,fun ha=>(ae ha (by kernel_rfl)).elim,?_⟩ <;> intro ha <;> first | exact⟨ev aa rfl,fun h=>nomatch h⟩ | exact(ae ha (by kernel_rfl)).elim
   case p_11=>refine⟨fun ha=>(ae ha (by kernel_rfl)).elim,?_,fun ha=>(ae ha (by kernel_rfl)).elim,?_,fun ha=>(ae ha (by kernel_rfl)).elim,?_⟩ <;> intro ha <;> first | exact⟨ev aa rfl,fun h=>nomatch h⟩ | exact(ae ha (by kernel_rfl)).elim
   case p_12=>refine⟨fun ha=>(ae ha (by kernel_rfl)).elim,?_,fun ha=>(ae ha (by kernel_rfl)).elim,?_,fun ha=>(ae ha (by kernel_rfl)).elim,?_⟩ <;> intro ha <;> first | exact⟨ev aa rfl,fun h=>nomatch h⟩ | exact⟨bM aa rfl rfl rfl rfl,fun h=>nomatch h⟩ | exact⟨bL aa rfl rfl rfl rfl rfl,fun h=>nomatch h⟩ | exact(ae ha (by kernel_rfl)).elim
   case p_13=>refine⟨fun ha=>(ae ha (by kernel_rfl)).elim,?_,fun ha=>(ae ha (by kernel_rfl)).elim,?_,fun ha=>(ae ha (by kernel_rfl)).elim,?_⟩ <;> intro ha <;> first | exact⟨ak rfl rfl rfl (jM _) rfl,fun h=>nomatch h⟩ | exact(ae ha (by kernel_rfl)).elim
   case p_14=>refine⟨fun ha=>(ae ha (by kernel_rfl)).elim,?_,fun ha=>(ae ha (by kernel_rfl)).elim,?_,fun ha=>(ae ha (by kernel_rfl)).elim,?_⟩ <;> intro ha <;> first | exact⟨ev aa rfl,fun h=>nomatch h⟩ | exact(ae ha (by kernel_rfl)).elim
   case p_15=>refine⟨fun ha=>(ae ha (by kernel_rfl)).elim,?_,fun ha=>(ae ha (by kernel_rfl)).elim,?_,fun ha=>(ae ha (by kernel_rfl)).elim,?_⟩ <;> intro ha <;> first | exact⟨ev aa rfl,fun h=>nomatch h⟩ | exact⟨bM aa rfl rfl rfl rfl,fun h=>nomatch h⟩ | exact⟨bL aa rfl rfl rfl rfl rfl,fun h=>nomatch h⟩ | exact(ae ha (by kernel_rfl)).elim
   case p_16=>refine⟨fun ha=>(ae ha (by kernel_rfl)).elim,?_,fun ha=>(ae ha (by kernel_rfl)).elim,?_,fun ha=>(ae ha (by kernel_rfl)).elim,?_⟩ <;> intro ha <;> first | exact⟨ak rfl rfl rfl (jM _) rfl,fun h=>nomatch h⟩ | exact(ae ha (by kernel_rfl)).elim
   case p_17=>refine⟨fun ha=>(ae ha (by kernel_rfl)).elim,?_,fun ha=>(ae ha (by kernel_rfl)).elim,?_,fun ha=>(ae ha (by kernel_rfl)).elim,?_⟩ <;> intro ha <;> first | exact⟨aI aa rfl rfl rfl rfl rfl rfl rfl rfl rfl,fun h=>nomatch h⟩ | exact(ae ha (by kernel_rfl)).elim
   refine CD.nil ?_ rfl
   refine pu (ak rfl rfl rfl hput rfl) rfl ?_
   refine pE rfl (WO.nil (aX (qs (W.region ?_))))
   iterate 3 refine pE rfl ?_
   refine WO.nil ?_
   have hbr:=hin
   (have _hb:eJ z i0 i1=true:=hbr;refine W.aU [0,1] ⟨(i+1,lB L (gK left i0 i1 z)),?_⟩ ?_ rfl ?_ ⟨rfl,rfl,rfl,rfl,trivial⟩ ?_ trivial rfl)
   · exact⟨hzi,(by omega),hI,(by first | exact hpk | exact hLk)⟩
   · dsimp only;omega
   · repeat' first | exact trivial | refine⟨rfl,?_⟩ | refine⟨aD (by assumption) (by assumption),?_⟩
   repeat' first | exact trivial | refine⟨rfl,?_⟩
  have hin:eJ z i0 i1=false:=by
   revert h49
   unfold eJ
   cases q:cM z i0 i1 with
   | false=>intro _;rfl
   | true=>
    obtain⟨rfl,rfl⟩:=hFU q
    simp
  rw[if_neg (by simp[hin])] at hI
  refine W.skip (aX (qs (W.region ?_)))
  iterate 3 refine pE rfl ?_
  refine WO.nil ?_
  have hbr:=hin
  (have _hb:eJ z i0 i1=false:=hbr;refine W.aU [0,1] ⟨(i+1,L),?_⟩ ?_ rfl ?_ ⟨rfl,rfl,rfl,rfl,trivial⟩ ?_ trivial rfl)
  · exact⟨hzi,(by omega),hI,(by first | exact hpk | exact hLk)⟩
  · dsimp only;omega
  · repeat' first | exact trivial | refine⟨rfl,?_⟩ | refine⟨aD (by assumption) (by assumption),?_⟩
  repeat' first | exact trivial | refine⟨rfl,?_⟩
 rw[hd] at hI
 simp only[pieces,iL] at hI
 subst hI
 refine W.exit (aN (aQ (aO (qs (W.seq (W.region (pE rfl (pu (build aa rfl rfl rfl rfl) rfl ?_))))))))
 refine a8 aa rfl rfl rfl (aR aa rfl rfl rfl rfl rfl rfl rfl rfl (WO.nil (qs (W.seq (W.region ?_)))))
 iterate 3 refine pE rfl ?_
 refine WO.nil (qs ?_)
 iterate 2 refine W.seq ?_
 refine W.region (pE rfl (WO.nil (qs (W.block (fv 2 1 rfl rfl rfl ?_)))))
 refine AT 1 0 (g:=0) rfl rfl (fun v0=>?_)
 have hn1:IntKind.i64.wrap (((on.map sc).length:Int)+1)=((on.length+1:Nat):Int):=by rw[List.length_map,wrap64 (by omega)];rfl
 refine W.aS (ι:={x:Nat×List Pc×List (List D)×List (List D)×Value×Nat×Nat×Nat // match x with | (j,J,R,es,v,m,c,k)=>j≤L.length∧J.length≤j∧db J (L.drop j)=jK a on∧Mode J R es v m∧∀ q∈J,dc K q})
  (fun x=>match x.1 with | (j,J,R,es,v,m,c,k)=>[(4,.ptr 1 0),(12,.ptr 2 0),(14,.d (.v (.int .i64 ((j:Nat):Int))))]) [(8,_),(13,_)]
  (fun x=>match x.1 with | (j,J,R,es,v,m,c,k)=>[(0,a7 es k),(1,[.lk 0 m c v,.d (.v (.slice none 0 0))]),(2,[.d (.sl (CT0.1.map Col.c)),.own 3 R])]) [] [3] 4 (fun x=>match x.1 with | (j,J,R,es,v,m,c,k)=>L.length - j)
  [0,1,2,3] ⟨(0,[],[],[a.c],v0,0,0,0),?_⟩ rfl ?_ ⟨rfl,rfl,rfl,rfl,trivial⟩ ?_ trivial rfl ?_
 · exact⟨Nat.zero_le _,Nat.zero_le _,hjo.symm,.inl ⟨rfl,rfl⟩,fun q hq=>nomatch hq⟩
 · repeat' first | exact trivial | refine⟨rfl,?_⟩
 · repeat' first | exact trivial | refine⟨rfl,?_⟩
 rintro⟨⟨j,J,R,es,v,m,c,k⟩,hj,hJn,hR,hM,hJg⟩
 show W _ _ _ _ _ ⟨[(4,.ptr 1 0),(12,.ptr 2 0),(14,.d (.v (.int .i64 ((j:Nat):Int)))),(8,_),(13,_)],[(0,a7 es k),(1,[.lk 0 m c v,.d (.v (.slice none 0 0))]),(2,[.d (.sl (CT0.1.map Col.c)),.own 3 R])],[3],4⟩
 iterate 2 refine W.seq ?_
 refine W.region ?_
 iterate 4 refine pE rfl ?_
 refine WO.nil (qs (ao rfl (fun h75=>?_) (fun h75=>?_)))
 ·
  have hlt:j < L.length:=by simp at h75;omega
  obtain⟨s,hx⟩:∃ s,L[j]? = some s:=⟨L[j],by simp[hlt]⟩
  have hd:L.drop j=s::L.drop (j+1):=by
   have:=List.drop_eq_getElem_cons hlt
   rw[this,(List.getElem?_eq_some_iff.1 hx).2]
  rw[hd] at hR
  simp only[db] at hR
  have hsg:=hSg s (List.mem_of_getElem? hx)
  have hsn:=hKl _ hsg.key
  have hRl:=hM.len
  have hsub:IntKind.i64.wrap ((R.length:Int) - 1)=(R.length:Int) - 1:=wrap64 (by omega)
  have hsx:((L.map a0).map rc)[((j:Nat):Int).toNat]? = some (rc (a0 s)):=by
   rw[List.getElem?_map,List.getElem?_map]
   show((L[j]?).map a0).map rc=_
   rw[hx];rfl
  have hla:decide ((0:Int)≤(R.length:Int) - 1)=true→0 < J.length∧0≤(R.length:Int) - 1∧R[((R.length:Int) - 1).toNat]? = some [.v v]∧es=(a0 (bC J)).map aH.c∧m=on.length+2∧(bC J).key.length=on.length∧K (bC J).key:=by
   intro h
   have h0:0 < J.length:=by simp at h;omega
   have hlg:=hJg _ (nR h0)
   have hlk:=hKl _ hlg.key
   obtain⟨q1,q2,q3⟩:=hM.at_ h0
   refine⟨h0,by omega,?_,q2,by omega,hlk,hlg.key⟩
   rw[show((R.length:Int) - 1).toNat=J.length - 1 by omega]
   exact q1
  have hs0:((a0 s).map aH.c)[(((on.map sc).length:Nat):Int).toNat]? = some (b9 s.fr).c:=by
   rw[List.length_map];exact zs hsn
  have hs1:((a0 s).map aH.c)[((on.length+1:Nat):Int).toNat]? = some (b9 s.to).c:=rz hsn
  have hsl:(a0 s).length=on.length+2:=by unfold a0;simp[hsn]
  have hsk:((a0 s).take on.length).drop 0=s.key:=by unfold a0;rw[List.drop_zero,List.take_append_of_le_length (by omega),List.take_of_length_le (by omega)]
  refine W.skip (qs (W.seq (W.block (W.seq (W.region (pE rfl (pE rfl (pE rfl (pu (bH (ev aa rfl) hsub) rfl ?_)))))))))
  refine pE rfl (WO.nil (qs (W.seq ?_)))
  apply iV aa;(case hb=>rfl);(case hB=>kernel_rfl)
  ·
   iterate 3 refine an (ev aa rfl) rfl ?_
   apply gd;(case hj=>rfl);(case hl=>rfl)
   ·
    intro g84
    refine aB rfl rfl (ev aa rfl) rfl ?_
    refine aB rfl rfl (ev aa rfl) rfl ?_
    refine aB rfl rfl (ev aa rfl) rfl ?_
    refine aB rfl rfl (indexAddr (l:=[.v v]) aa rfl rfl rfl rfl rfl rfl (hla g84).2.1 (hla g84).2.2.1 rfl) rfl ?_
    refine aB rfl rfl (my (gq:=1) (jq:=0) rfl rfl (ev aa rfl)) rfl ?_
    refine aB rfl rfl (ev aa rfl) rfl ?_
    refine aB rfl rfl (zG aa rfl rfl rfl rfl rfl (Int.natCast_nonneg _) (by rw[(hla g84).2.2.2.2.1,List.length_map];omega) (r:=on.length) (by rw[List.length_map];rfl)) rfl ?_
    refine aB rfl rfl (ev aa rfl) rfl ?_
    refine aB rfl rfl (ev aa rfl) rfl ?_
    refine aB rfl rfl (indexAddr (l:=rc (a0 s)) aa rfl rfl rfl rfl rfl rfl (Int.natCast_nonneg _) hsx rfl) rfl ?_
    refine aB rfl rfl (ev aa rfl) rfl ?_
    refine aB rfl rfl (ev aa rfl) rfl ?_
    refine aB rfl rfl (ub (fn:=aH.c) (l:=a0 s) (i:=0) (j:=((on.map sc).length:Int)) (r:=s.key) aa rfl rfl rfl rfl rfl (fun _=>rfl) rfl rfl (by decide) (by omega) (by rw[List.length_map];omega) (by rw[List.length_map];exact hsk)) rfl ?_
    refine aB rfl rfl (x2 (sz:=3) (es1:=(bC J).key.map aH.c) rfl rfl rfl rfl (by rw[(hla g84).2.2.2.1];exact ze (hla g84).2.2.2.2.2.1) (by rw[(hla g84).2.2.2.1];unfold a0;simp[(hla g84).2.2.2.2.2.1]) (by rw[(hla g84).2.2.2.1];exact iI _) (nv (bC J).key s.key)) rfl ?_
    refine aB rfl rfl (ev aa rfl) rfl ?_
    iterate 2 refine an (ev aa rfl) rfl ?_
    apply gd;(case hj=>rfl);(case hl=>rfl)
    ·
     intro g101
     refine aB rfl rfl (ev aa rfl) rfl ?_
     refine aB rfl rfl (ev aa rfl) rfl ?_
     refine aB rfl rfl (indexAddr (l:=rc (a0 s)) aa rfl rfl rfl rfl rfl rfl (Int.natCast_nonneg _) hsx rfl) rfl ?_
     refine aB rfl rfl (ev aa rfl) rfl ?_
     refine aB rfl rfl (ev aa rfl) rfl ?_
     refine aB rfl rfl (indexAddr (l:=(b9 s.fr).c) aa rfl rfl rfl rfl rfl rfl (Int.natCast_nonneg _) hs0 rfl) rfl ?_
     refine aB rfl rfl (ev aa rfl) rfl ?_
     refine aB rfl rfl (ev aa rfl) rfl ?_
     refine aB rfl rfl (ev aa rfl) rfl ?_
     refine aB rfl rfl (ev aa rfl) rfl ?_
     refine aB rfl rfl (ev aa rfl) rfl ?_
     refine aB rfl rfl (indexAddr (l:=[.v v]) aa rfl rfl rfl rfl rfl rfl (hla g84).2.1 (hla g84).2.2.1 rfl) rfl ?_
     refine aB rfl rfl (my (gq:=1) (jq:=0) rfl rfl (ev aa rfl)) rfl ?_
     refine aB rfl rfl (ev aa rfl) rfl ?_
     refine aB rfl rfl (bH (ev aa rfl) hn1) rfl ?_
     refine aB rfl rfl (bG aa rfl rfl rfl rfl rfl (Int.natCast_nonneg _) (by rw[(hla g84).2.2.2.2.1];show on.length+1 < _;omega) rfl) rfl ?_
     refine aB rfl rfl (ev aa rfl) rfl ?_
     refine aB rfl rfl (rG (i:=on.length+1) (sz:=3) (off:=1) (e:=(b9 (bC J).to).c) aa rfl rfl (by rw[(hla g84).2.2.2.1];exact iI _) (by rw[(hla g84).2.2.2.1];exact rz (hla g84).2.2.2.2.2.1) rfl rfl rfl) rfl ?_
     refine aB rfl rfl (ev aa rfl) rfl ?_
     refine an (ev aa rfl) rfl ?_
     refine CH.nil ?_
     refine ay rfl rfl rfl
    intro g101
    iterate 19 refine bU rfl rfl rfl rfl ?_
    refine an (ev aa rfl) rfl ?_
    refine CH.nil ?_
    refine ay rfl rfl rfl
   intro g84
   iterate 15 refine bU rfl rfl rfl rfl ?_
   iterate 2 refine an (ev aa rfl) rfl ?_
   iterate 19 refine bU rfl rfl rfl rfl ?_
   refine an (ev aa rfl) rfl ?_
   refine CH.nil ?_
   refine ay rfl rfl rfl
  refine qs (ao rfl (fun h121=>?_) (fun h121=>?_))
  ·
   have htp:cK J s=true:=by
    revert h121
    by_cases q:(0:Int)≤(R.length:Int) - 1
    ·
     obtain⟨z1,z2,z3,z4,z5,z6,z7⟩:=hla (decide_eq_true q)
     rw[pa (by omega)]
     unfold cK
     by_cases q2:bT (bC J).key s.key=0
     ·
      have e:=hKe _ _ z7 hsg.key q2
      simp[q,e,z1,ja.self]
      intro _ h
      exact h
     simp[q,q2]
    simp[q]
    intro h1
    exfalso
    omega
   have h0:0 < J.length:=by unfold cK at htp;simp at htp;exact htp.1
   rw[if_pos htp] at hR
   have hq:decide ((0:Int)≤(R.length:Int) - 1)=true:=by simp;omega
   obtain⟨z1,z2,z3,z4,z5,z6,z7⟩:=hla hq
   subst z4
   subst z5
   have hmode:=hM.A5 z1 (dD (bC J) s) rfl
   have hgood:=vH hJg hsg z1
   have hls3:=iI (a0 (bC J))
   have hre:=rz z6
   have hset:=zh (q:=s) z6 (if (bC J).to < s.to then s.to else (bC J).to) rfl
   refine W.eD aa [] [] [] [] 27 (by kernel_rfl) (by kernel_rfl) rfl rfl ?_
   refine' aJ (ev aa rfl) ?p_19 rfl rfl rfl (by kernel_rfl) rfl ?h_19
   case' h_19=>skip
   case p_19=>refine⟨fun ha=>(ae ha (by kernel_rfl)).elim,?_⟩ <;> intro ha <;> first | exact⟨ev aa rfl,fun h=>nomatch h⟩ | exact(ae ha (by kernel_rfl)).elim
   refine' aJ (ev aa rfl) ?p_20 rfl rfl rfl (by kernel_rfl) rfl ?h_20
   case' h_20=>skip
   case p_20=>refine⟨fun ha=>(ae ha (by kernel_rfl)).elim,?_⟩ <;> intro ha <;> first | exact⟨ev aa rfl,fun h=>nomatch h⟩ | exact⟨bM aa rfl rfl rfl rfl,fun h=>nomatch h⟩ | exact⟨bL aa rfl rfl rfl rfl rfl,fun h=>nomatch h⟩ | exact(ae ha (by kernel_rfl)).elim
   refine' aJ (ev aa rfl) ?p_21 rfl rfl rfl (by kernel_rfl) rfl ?h_21
   case' h_21=>skip
   case p_21=>refine⟨fun ha=>(ae ha (by kernel_rfl)).elim,?_⟩ <;> intro ha <;> first | exact⟨ev aa rfl,fun h=>nomatch h⟩ | exact(ae ha (by kernel_rfl)).elim
   refine' aJ (indexAddr (l:=[.v v]) aa rfl rfl rfl rfl rfl rfl z2 z3 rfl) ?p_22 rfl rfl rfl (by kernel_rfl) rfl ?h_22
   case' h_22=>skip
   case p_22=>refine⟨fun ha=>(ae ha (by kernel_rfl)).elim,?_⟩ <;> intro ha <;> first | exact⟨indexAddr (l:=[.v v]) aa rfl rfl rfl rfl rfl rfl z2 z3 rfl,fun h=>nomatch h⟩ | exact(ae ha (by kernel_rfl)).elim
   refine' aJ (my (gq:=1) (jq:=0) rfl rfl (ev aa rfl)) ?p_23 rfl rfl rfl (by kernel_rfl) rfl ?h_23
   case' h_23=>skip
   case p_23=>refine⟨fun ha=>(ae ha (by kernel_rfl)).elim,?_⟩ <;> intro ha <;> first | exact⟨my (gq:=1) (jq:=0) rfl rfl (ev aa rfl),fun h=>nomatch h⟩ | exact(ae ha (by kernel_rfl)).elim
   refine' aJ (ev aa rfl) ?p_24 rfl rfl rfl (by kernel_rfl) rfl ?h_24
   case' h_24=>skip
   case p_24=>refine⟨fun ha=>(ae ha (by kernel_rfl)).elim,?_⟩ <;> intro ha <;> first | exact⟨ev aa rfl,fun h=>nomatch h⟩ | exact(ae ha (by kernel_rfl)).elim
   refine' aJ (bH (ev aa rfl) hn1) ?p_25 rfl rfl rfl (by kernel_rfl) rfl ?h_25
   case' h_25=>skip
   case p_25=>refine⟨fun ha=>(ae ha (by kernel_rfl)).elim,?_⟩ <;> intro ha <;> first | exact⟨bH (ev aa rfl) hn1,fun h=>nomatch h⟩ | exact(ae ha (by kernel_rfl)).elim
   refine' aJ (ev aa rfl) ?p_26 rfl rfl rfl (by kernel_rfl) rfl ?h_26
   case' h_26=>skip
   case p_26=>refine⟨fun ha=>(ae ha (by kernel_rfl)).elim,?_⟩ <;> intro ha <;> first | exact⟨ev aa rfl,fun h=>nomatch h⟩ | exact(ae ha (by kernel_rfl)).elim
   refine' aJ (ev aa rfl) ?p_27 rfl rfl rfl (by kernel_rfl) rfl ?h_27
   case' h_27=>skip
   case p_27=>refine⟨fun ha=>(ae ha (by kernel_rfl)).elim,?_⟩ <;> intro ha <;> first | exact⟨ev aa rfl,fun h=>nomatch h⟩ | exact⟨bM aa rfl rfl rfl rfl,fun h=>nomatch h⟩ | exact⟨bL aa rfl rfl rfl rfl rfl,fun h=>nomatch h⟩ | exact(ae ha (by kernel_rfl)).elim
   refine' aJ (ev aa rfl) ?p_28 rfl rfl rfl (by kernel_rfl) rfl ?h_28
   case' h_28=>skip
   case p_28=>refine⟨fun ha=>(ae ha (by kernel_rfl)).elim,?_⟩ <;> intro ha <;> first | exact⟨ev aa rfl,fun h=>nomatch h⟩ | exact(ae ha (by kernel_rfl)).elim
   refine' aJ (indexAddr (l:=[.v v]) aa rfl rfl rfl rfl rfl rfl z2 z3 rfl) ?p_29 rfl rfl rfl (by kernel_rfl) rfl ?h_29
   case' h_29=>skip
   case p_29=>refine⟨fun ha=>(ae ha (by kernel_rfl)).elim,?_⟩ <;> intro ha <;> first | exact⟨indexAddr (l:=[.v v]) aa rfl rfl rfl rfl rfl rfl z2 z3 rfl,fun h=>nomatch h⟩ | exact(ae ha (by kernel_rfl)).elim
   refine' aJ (my (gq:=1) (jq:=0) rfl rfl (ev aa rfl)) ?p_30 rfl rfl rfl (by kernel_rfl) rfl ?h_30
   case' h_30=>skip
   case p_30=>refine⟨fun ha=>(ae ha (by kernel_rfl)).elim,?_⟩ <;> intro ha <;> first | exact⟨my (gq:=1) (jq:=0) rfl rfl (ev aa rfl),fun h=>nomatch h⟩ | exact(ae ha (by kernel_rfl)).elim
   refine' aJ (ev aa rfl) ?p_31 rfl rfl rfl (by kernel_rfl) rfl ?h_31
   case' h_31=>skip
   case p_31=>refine⟨fun ha=>(ae ha (by kernel_rfl)).elim,?_⟩ <;> intro ha <;> first | exact⟨ev aa rfl,fun h=>nomatch h⟩ | exact(ae ha (by kernel_rfl)).elim
   refine' aJ (bH (ev aa rfl) hn1) ?p_32 rfl rfl rfl (by kernel_rfl) rfl ?h_32
   case' h_32=>skip
   case p_32=>refine⟨fun ha=>(ae ha (by kernel_rfl)).elim,?_⟩ <;> intro ha <;> first | exact⟨bH (ev aa rfl) hn1,fun h=>nomatch h⟩ | exact(ae ha (by kernel_rfl)).elim
   refine' aJ (bG aa rfl rfl rfl rfl rfl (Int.natCast_nonneg _) (by show on.length+1 < _;omega) rfl) ?p_33 rfl rfl rfl (by kernel_rfl) rfl ?h_33
   case' h_33=>skip
   case p_33=>refine⟨fun ha=>(ae ha (by kernel_rfl)).elim,?_⟩ <;> intro ha <;> first | exact⟨bG aa rfl rfl rfl rfl rfl (Int.natCast_nonneg _) (by show on.length+1 < _;omega) rfl,fun h=>nomatch h⟩ | exact(ae ha (by kernel_rfl)).elim
   refine' aJ (ev aa rfl) ?p_34 rfl rfl rfl (by kernel_rfl) rfl ?h_34
   case' h_34=>skip
   case p_34=>refine⟨fun ha=>(ae ha (by kernel_rfl)).elim,?_⟩ <;> intro ha <;> first | exact⟨ev aa rfl,fun h=>nomatch h⟩ | exact(ae ha (by kernel_rfl)).elim
   refine' aJ (rG (i:=on.length+1) (sz:=3) (off:=1) (e:=(b9 (bC J).to).c) aa rfl rfl hls3 hre rfl rfl rfl) ?p_35 rfl rfl rfl (by kernel_rfl) rfl ?h_35
   case' h_35=>skip
   case p_35=>refine⟨fun ha=>(ae ha (by kernel_rfl)).elim,?_⟩ <;> intro ha <;> first | exact⟨rG (i:=on.length+1) (sz:=3) (off:=1) (e:=(b9 (bC J).to).c) aa rfl rfl hls3 hre rfl rfl rfl,fun h=>nomatch h⟩ | exact(ae ha (by kernel_rfl)).elim
   refine' aJ (ev aa rfl) ?p_36 rfl rfl rfl (by kernel_rfl) rfl ?h_36
   case' h_36=>skip
   case p_36=>refine⟨fun ha=>(ae ha (by kernel_rfl)).elim,?_⟩ <;> intro ha <;> first | exact⟨ev aa rfl,fun h=>nomatch h⟩ | exact(ae ha (by kernel_rfl)).elim
   refine' aJ (ev aa rfl) ?p_37 rfl rfl rfl (by kernel_rfl) rfl ?h_37
   case' h_37=>skip
   case p_37=>refine⟨fun ha=>(ae ha (by kernel_rfl)).elim,?_⟩ <;> intro ha <;> first | exact⟨ev aa rfl,fun h=>nomatch h⟩ | exact(ae ha (by kernel_rfl)).elim
   refine' aJ (indexAddr (l:=rc (a0 s)) aa rfl rfl rfl rfl rfl rfl (Int.natCast_nonneg _) hsx rfl) ?p_38 rfl rfl rfl (by kernel_rfl) rfl ?h_38
   case' h_38=>skip
   case p_38=>refine⟨fun ha=>(ae ha (by kernel_rfl)).elim,?_⟩ <;> intro ha <;> first | exact⟨indexAddr (l:=rc (a0 s)) aa rfl rfl rfl rfl rfl rfl (Int.natCast_nonneg _) hsx rfl,fun h=>nomatch h⟩ | exact(ae ha (by kernel_rfl)).elim
   refine' aJ (ev aa rfl) ?p_39 rfl rfl rfl (by kernel_rfl) rfl ?h_39
   case' h_39=>skip
   case p_39=>refine⟨fun ha=>(ae ha (by kernel_rfl)).elim,?_⟩ <;> intro ha <;> first | exact⟨ev aa rfl,fun h=>nomatch h⟩ | exact⟨bM aa rfl rfl rfl rfl,fun h=>nomatch h⟩ | exact⟨bL aa rfl rfl rfl rfl rfl,fun h=>nomatch h⟩ | exact(ae ha (by kernel_rfl)).elim
   refine' aJ (ev aa rfl) ?p_40 rfl rfl rfl (by kernel_rfl) rfl ?h_40
   case' h_40=>skip
   case p_40=>refine⟨fun ha=>(ae ha (by kernel_rfl)).elim,?_⟩ <;> intro ha <;> first | exact⟨ev aa rfl,fun h=>nomatch h⟩ | exact(ae ha (by kernel_rfl)).elim
   refine' aJ (bH (ev aa rfl) hn1) ?p_41 rfl rfl rfl (by kernel_rfl) rfl ?h_41
   case' h_41=>skip
   case p_41=>refine⟨fun ha=>(ae ha (by kernel_rfl)).elim,?_⟩ <;> intro ha <;> first | exact⟨bH (ev aa rfl) hn1,fun h=>nomatch h⟩ | exact(ae ha (by kernel_rfl)).elim
   refine' aJ (indexAddr (l:=(b9 s.to).c) aa rfl rfl rfl rfl rfl rfl (Int.natCast_nonneg _) hs1 rfl) ?p_42 rfl rfl rfl (by kernel_rfl) rfl ?h_42
   case' h_42=>skip
   case p_42=>refine⟨fun ha=>(ae ha (by kernel_rfl)).elim,?_⟩ <;> intro ha <;> first | exact⟨indexAddr (l:=(b9 s.to).c) aa rfl rfl rfl rfl rfl rfl (Int.natCast_nonneg _) hs1 rfl,fun h=>nomatch h⟩ | exact(ae ha (by kernel_rfl)).elim
   refine' aJ (ev aa rfl) ?p_43 rfl rfl rfl (by kernel_rfl) rfl ?h_43
   case' h_43=>skip
   case p_43=>refine⟨fun ha=>(ae ha (by kernel_rfl)).elim,?_⟩ <;> intro ha <;> first | exact⟨ev aa rfl,fun h=>nomatch h⟩ | exact(ae ha (by kernel_rfl)).elim
   refine' aJ (ev aa rfl) ?p_44 rfl rfl rfl (by kernel_rfl) rfl ?h_44
   case' h_44=>skip
   case p_44=>refine⟨fun ha=>(ae ha (by kernel_rfl)).elim,?_⟩ <;> intro ha <;> first | exact⟨ev aa rfl,fun h=>nomatch h⟩ | exact⟨bM aa rfl rfl rfl rfl,fun h=>nomatch h⟩ | exact⟨bL aa rfl rfl rfl rfl rfl,fun h=>nomatch h⟩ | exact(ae ha (by kernel_rfl)).elim
   refine' aJ (ev aa rfl) ?p_45 rfl rfl rfl (by kernel_rfl) rfl ?h_45
   case' h_45=>skip
   case p_45=>refine⟨fun ha=>(ae ha (by kernel_rfl)).elim,?_⟩ <;> intro ha <;> first | exact⟨ev aa rfl,fun h=>nomatch h⟩ | exact(ae ha (by kernel_rfl)).elim
   refine CD.nil ?_ rfl
   refine pu (bG aa rfl rfl rfl rfl rfl (Int.natCast_nonneg _) (by show on.length+1 < _;omega) rfl) rfl ?_
   refine pE rfl (pJ (i:=on.length+1) (sz:=3) (off:=1) (e:=(b9 (bC J).to).c) (cs:=[.v (.int .i64 (if (bC J).to < s.to then s.to else (bC J).to))]) aa rfl rfl rfl rfl rfl hls3 hre (by show 1+1≤3;omega) rfl (by simp) hset ?_)
   refine WO.nil (aX (qs ?_))
   try (refine zK 1 0 2 1 rfl rfl rfl hrp rfl rfl rfl ?_;intro v2 c2 k2)
   refine W.region ?_
   iterate 3 refine pE rfl ?_
   refine WO.nil ?_
   have hbr:=htp
   (have _hb:cK J s=true:=hbr;refine W.aU [0,1,2,3] ⟨(j+1,J.set (J.length - 1) (dD (bC J) s),R,(a0 (dD (bC J) s)).map aH.c,v,on.length+2,c,k),?_⟩ ?_ rfl ?_ ⟨rfl,rfl,rfl,rfl,trivial⟩ ?_ trivial rfl)
   · exact⟨hlt,(by first | (rw[List.length_append];simp;omega) | (rw[List.length_set];omega)),hR,(by first | exact hmode | exact Mode.add J s _),hgood⟩
   · dsimp only;omega
   · repeat' first | exact trivial | refine⟨rfl,?_⟩ | refine⟨aD (by assumption) (by assumption),?_⟩
   repeat' first | exact trivial | refine⟨rfl,?_⟩ | refine⟨congrArg some (bd _ _ _),?_⟩
  have htp:cK J s=false:=by
   revert h121
   by_cases q:(0:Int)≤(R.length:Int) - 1
   ·
    obtain⟨z1,z2,z3,z4,z5,z6,z7⟩:=hla (decide_eq_true q)
    rw[pa (by omega)]
    unfold cK
    by_cases q2:(bC J).key=s.key
    ·
     have e:bT (bC J).key s.key=0:=by rw[q2];exact ja.self _
     simp[q,e,z1,q2]
     intro h
     exact h (by omega) (ja.self _)
    simp[q2]
   have z1:¬ 0 < J.length:=by omega
   unfold cK
   simp[z1]
  rw[if_neg (by simp[htp])] at hR
  have hfz:=hM.fz
  have hone:=hM.one
  have hRn:((J.map a0).map rc).length=J.length:=by simp
  have hgood:∀ q∈J++[s],dc K q:=fun q hq=>by
   rcases List.mem_append.1 hq with hq | hq
   · exact hJg q hq
   rw[List.mem_singleton.1 hq];exact hsg
  have hrp:0 < ((a0 s).map aH.c).length:=by rw[List.length_map,hsl];omega
  refine sT 1 0 2 1 (sz:=3) (R':=(J.map a0).map rc) rfl rfl rfl rfl hfz rfl rfl rfl rfl ?_
  refine' W.eD aa [_,_] [[4,3],[5,3],[6,5]] [5,6,7] [2,7] 9 (by kernel_rfl) (by kernel_rfl) rfl rfl ?hL_46
  case' hL_46=>skip
  refine' aJ (ev aa rfl) ?p_47 rfl rfl rfl (by kernel_rfl) rfl ?h_47
  case' h_47=>skip
  refine' aJ (ev aa rfl) ?p_48 rfl rfl rfl (by kernel_rfl) rfl ?h_48
  case' h_48=>skip
  refine' kC ?x_49 rfl rfl rfl (by kernel_rfl) (fun h=>(ae h (by kernel_rfl)).elim) rfl ?h_49
  case x_49=>
   intro b hb g;cases b
   · exact(ae hb (by kernel_rfl)).elim
   refine wT (es:=[]) aa rfl rfl rfl rfl rfl rfl rfl (fun x hx=>nomatch hx) rfl ?_
   refine WO.nil ?_
   refine' iD rfl ?_ ?_ ?_ ?_
   all_goals try exact rfl
  case' h_49=>skip
  refine' aJ (ev aa rfl) ?p_50 rfl rfl rfl (by kernel_rfl) rfl ?h_50
  case' h_50=>skip
  refine' aJ (ev aa rfl) ?p_51 rfl rfl rfl (by kernel_rfl) rfl ?h_51
  case' h_51=>skip
  refine' aJ (indexAddr (l:=rc (a0 s)) aa rfl rfl rfl rfl rfl rfl (Int.natCast_nonneg _) hsx rfl) ?p_52 rfl rfl rfl (by kernel_rfl) rfl ?h_52
  case' h_52=>skip
  refine' aJ (ev aa rfl) ?p_53 rfl rfl rfl (by kernel_rfl) rfl ?h_53
  case' h_53=>skip
  refine' kC ?x_54 rfl rfl rfl (by kernel_rfl) (fun h=>(ae h (by kernel_rfl)).elim) rfl ?h_54
  case x_54=>
   intro b hb g;cases b
   · exact(ae hb (by kernel_rfl)).elim
   refine iY (es2:=(a0 s).map aH.c) aa rfl rfl rfl rfl rfl rfl rfl rfl rfl rfl (List.nil_append _) (by rw[List.nil_append];exact iI _) (by show(0+((a0 s).map aH.c).length)*32≤_;rw[List.length_map];omega) rfl ?_
   refine WO.nil ?_
   refine' iD rfl ?_ ?_ ?_ ?_
   all_goals try exact rfl
  case' h_54=>skip
  case p_47=>refine⟨fun ha=>(ae ha (by kernel_rfl)).elim,?_,fun ha=>(ae ha (by kernel_rfl)).elim,?_,fun ha=>(ae ha (by kernel_rfl)).elim,?_⟩ <;> intro ha <;> first | exact⟨ev aa rfl,fun h=>nomatch h⟩ | exact(ae ha (by kernel_rfl)).elim
  case p_48=>refine⟨fun ha=>(ae ha (by kernel_rfl)).elim,?_,fun ha=>(ae ha (by kernel_rfl)).elim,?_,fun ha=>(ae ha (by kernel_rfl)).elim,?_⟩ <;> intro ha <;> first | exact⟨ev aa rfl,fun h=>nomatch h⟩ | exact⟨bM aa rfl rfl rfl rfl,fun h=>nomatch h⟩ | exact⟨bL aa rfl rfl rfl rfl rfl,fun h=>nomatch h⟩ | exact(ae ha (by kernel_rfl)).elim
  case p_50=>refine⟨fun ha=>(ae ha (by kernel_rfl)).elim,?_,fun ha=>(ae ha (by kernel_rfl)).elim,?_,fun ha=>(ae ha (by kernel_rfl)).elim,?_⟩ <;> intro ha <;> first | exact⟨ev aa rfl,fun h=>nomatch h⟩ | exact(ae ha (by kernel_rfl)).elim
  case p_51=>refine⟨fun ha=>(ae ha (by kernel_rfl)).elim,?_,fun ha=>(ae ha (by kernel_rfl)).elim,?_,fun ha=>(ae ha (by kernel_rfl)).elim,?_⟩ <;> intro ha <;> first | exact⟨ev aa rfl,fun h=>nomatch h⟩ | exact(ae ha (by kernel_rfl)).elim
  case p_52=>refine⟨fun ha=>(ae ha (by kernel_rfl)).elim,?_,fun ha=>(ae ha (by kernel_rfl)).elim,?_,fun ha=>(ae ha (by kernel_rfl)).elim,?_⟩ <;> intro ha <;> first | exact⟨indexAddr (l:=rc (a0 s)) aa rfl rfl rfl rfl rfl rfl (Int.natCast_nonneg _) hsx rfl,fun h=>nomatch h⟩ | exact(ae ha (by kernel_rfl)).elim
  case p_53=>refine⟨fun ha=>(ae ha (by kernel_rfl)).elim,?_,fun ha=>(ae ha (by kernel_rfl)).elim,?_,fun ha=>(ae ha (by kernel_rfl)).elim,?_⟩ <;> intro ha <;> first | exact⟨ev aa rfl,fun h=>nomatch h⟩ | exact⟨bM aa rfl rfl rfl rfl,fun h=>nomatch h⟩ | exact⟨bL aa rfl rfl rfl rfl rfl,fun h=>nomatch h⟩ | exact(ae ha (by kernel_rfl)).elim
  refine' aJ (uW (s:=158) aa rfl rfl rfl rfl rfl rfl rfl) ?p_55 rfl rfl rfl (by kernel_rfl) rfl ?h_55
  case' h_55=>skip
  case p_55=>refine⟨fun ha=>(ae ha (by kernel_rfl)).elim,?_,fun ha=>(ae ha (by kernel_rfl)).elim,?_,fun ha=>(ae ha (by kernel_rfl)).elim,?_⟩ <;> intro ha <;> first | exact⟨uW (s:=158) aa rfl rfl rfl rfl rfl rfl rfl,fun h=>nomatch h⟩ | exact(ae ha (by kernel_rfl)).elim
  refine CD.nil ?_ rfl
  refine xP (sy:=159) aa rfl rfl rfl rfl rfl rfl rfl rfl rfl rfl hone (by show(((J.map a0).map rc).length+1)*24≤_;omega) rfl ?_
  refine pE rfl (aR aa rfl rfl rfl rfl rfl rfl rfl rfl (WO.nil (aX (qs ?_))))
  try (refine zK 1 0 2 1 rfl rfl rfl hrp rfl rfl rfl ?_;intro v2 c2 k2)
  refine W.region ?_
  iterate 3 refine pE rfl ?_
  refine WO.nil ?_
  have hbr:=htp
  (have _hb:cK J s=false:=hbr;refine W.aU [7,1,2,6] ⟨(j+1,J++[s],(J.map a0).map rc++[[.v v2]],(a0 s).map aH.c,v2,((a0 s).map aH.c).length,c2,k2),?_⟩ ?_ rfl ?_ ⟨rfl,rfl,rfl,rfl,trivial⟩ ?_ trivial rfl)
  · exact⟨hlt,(by first | (rw[List.length_append];simp;omega) | (rw[List.length_set];omega)),hR,(by first | exact hmode | exact Mode.add J s _),hgood⟩
  · dsimp only;omega
  · repeat' first | exact trivial | refine⟨rfl,?_⟩ | refine⟨aD (by assumption) (by assumption),?_⟩
  repeat' first | exact trivial | refine⟨rfl,?_⟩ | refine⟨congrArg some (bd _ _ _),?_⟩
 have hjl:j=L.length:=by simp at h75;omega
 have hRf:J=jK a on:=by
  rw[←hR,List.drop_eq_nil_of_le (by omega)];rfl
 have hRl:=hM.len
 refine W.exit (aN (aQ (aO (qs (W.seq (sT 1 0 2 1 (sz:=3) (R':=(J.map a0).map rc) rfl rfl rfl rfl hM.fz rfl rfl rfl rfl ?_))))))
 rw[hRf]
 refine W.region (pE rfl (aR aa rfl rfl rfl rfl rfl rfl rfl rfl (pE rfl (WO.nil (qs ?_)))))
 try refine cD 1 0 rfl rfl rfl ?_
 try refine cD 1 1 rfl rfl rfl ?_
 refine W.ret (QV.aq aa trivial rfl ?_)
 (rw[hgo];rfl)
end Go.Proofs.YtjenenllmjlimaaGreat
namespace Go.Proofs.YtjenenllmjlimaaGreat
open Go.Ab Go.Tb
set_option maxRecDepth 10000
attribute [local irreducible] W WO Pu QS QB QL QF QV b7 CH QE
theorem ud (a:bo) (on:List ByteArray):ax Tryz.prog 5 [.ag a.c,.d (.sl (on.map sc))] (.d (.v (.bool true))) 0:=by
 have hs:∀ t:bo,ax Tryz.prog 10 [.ag t.c,.ag t.c] (.d (.v (.bool true))) 0:=fun t=>by have:=sU t t;rw[decide_eq_true (rfl:t=t)] at this;exact this
 refine ax.aT (n:=38) (ts:=[4]) Tryz.func5 (by kernel_rfl) rfl Tryz.ntmps5 Tryz.results5 rfl rfl fun C hC hG=>?_
 refine W.seq (W.region (br rfl rfl rfl (pE rfl (WO.nil (qs ?_)))))
 iterate 2 refine W.seq ?_
 refine W.region (pE rfl (pu (build aa rfl rfl rfl rfl) rfl ?_))
 try refine tP 10 rfl rfl rfl ?_
 refine pE rfl (pu (ak rfl rfl rfl (zd a fL on) rfl) rfl ?_)
 refine pE rfl (WO.nil (qs (ao rfl (fun h13=>?_) (fun h13=>?_))))
 ·
  refine W.seq (W.region (pu (ak rfl rfl rfl sw rfl) rfl ?_))
  refine pE rfl (WO.nil (qs (W.ret (ah (QF.aq trivial rfl ?_)))))
  rfl
 have hfew:qF a fL on=true:=by simpa using h13
 have hon:=(xO hfew).1
 refine W.skip (qs (W.seq (W.region (pE rfl (pE rfl (pu (ak rfl rfl rfl (pk a on (by omega)) rfl) rfl ?_))))))
 iterate 3 refine pE rfl ?_
 refine a8 aa rfl rfl rfl (aR aa rfl rfl rfl rfl rfl rfl rfl rfl (pE rfl (WO.nil (qs (W.seq (W.region (pE rfl (pE rfl (pu (ak rfl rfl rfl (tT a on (by omega)) rfl) rfl ?_)))))))))
 iterate 3 refine pE rfl ?_
 refine a8 aa rfl rfl rfl (aR aa rfl rfl rfl rfl rfl rfl rfl rfl (pE rfl (WO.nil (qs (W.seq ?_)))))
 apply aC;(case hb=>rfl)
 ·
  refine pE rfl (pE rfl (pu (ak rfl rfl rfl (hs (bb a on).1) rfl) rfl ?_))
  refine pE rfl ?_
  apply aw;(case hj=>rfl);(case hl=>rfl)
  ·
   refine ab rfl rfl (pE rfl (ab rfl rfl (pE rfl (ab rfl rfl ?_))))
   iterate 3 refine pE rfl ?_
   apply aw;(case hj=>rfl);(case hl=>rfl)
   ·
    refine ab rfl rfl (pu (ak rfl rfl rfl sw rfl) rfl ?_)
    iterate 2 refine pE rfl ?_
    refine WO.nil (ay rfl rfl rfl)
   refine ar rfl rfl rfl rfl ?_
   iterate 2 refine pE rfl ?_
   refine WO.nil (ay rfl rfl rfl)
  iterate 3 refine ar rfl rfl rfl rfl ?_
  iterate 2 refine pE rfl ?_
  refine ar rfl rfl rfl rfl ?_
  iterate 2 refine pE rfl ?_
  refine WO.nil (ay rfl rfl rfl)
 refine qs (W.ret (QF.aq trivial rfl ?_))
 (simp only[norm,az];simp;done)
end Go.Proofs.YtjenenllmjlimaaGreat
