import Derived.Test.YtjenenllmjlimaaGreatQ4
namespace Go.Proofs.YtjenenllmjlimaaGreat
open Go.Ab Go.Tb
set_option maxRecDepth 10000
attribute [local irreducible] W WO Pu QS QB QL QF QV b7 CH QE
def oI:ByteArray:=B #[95,46,58,47,60,62,36,42,126,45]
theorem vA (b:UInt8):ax Tryz.prog 108 [.d (.v (.int .u8 b.toNat))] (.d (.v (.bool (fm b)))) 0:=by
 refine ax.aT (n:=38) (ts:=[2]) Tryz.func108 (by kernel_rfl) rfl Tryz.ntmps108 Tryz.results108 rfl rfl fun C hC hG=>?_
 refine W.seq (W.region (pE rfl (WO.nil (qs ?_))))
 iterate 2 refine W.seq ?_
 apply aC;(case hb=>rfl)
 ·
  iterate 3 refine pE rfl ?_
  apply aw;(case hj=>rfl);(case hl=>rfl)
  ·
   refine ab rfl rfl (pE rfl (ab rfl rfl ?_))
   iterate 3 refine pE rfl ?_
   apply aw;(case hj=>rfl);(case hl=>rfl)
   ·
    iterate 3 refine ar rfl rfl rfl rfl ?_
    iterate 2 refine b8 rfl rfl rfl ?_
    refine ar rfl rfl rfl rfl ?_
    iterate 2 refine pE rfl ?_
    iterate 3 refine ar rfl rfl rfl rfl ?_
    iterate 2 refine b8 rfl rfl rfl ?_
    refine ar rfl rfl rfl rfl (pE rfl (WO.nil (ay rfl rfl rfl)))
   refine ab rfl rfl (pE rfl (ab rfl rfl (pE rfl (ab rfl rfl (pE rfl ?_)))))
   apply aw;(case hj=>rfl);(case hl=>rfl)
   ·
    refine ab rfl rfl (pE rfl (ab rfl rfl (pE rfl (ab rfl rfl ?_))))
    iterate 3 refine pE rfl ?_
    apply aw;(case hj=>rfl);(case hl=>rfl)
    ·
     iterate 3 refine ar rfl rfl rfl rfl ?_
     iterate 2 refine b8 rfl rfl rfl ?_
     refine ar rfl rfl rfl rfl (pE rfl (WO.nil (ay rfl rfl rfl)))
    refine ab rfl rfl (pE rfl (ab rfl rfl (pE rfl (ab rfl rfl (pE rfl ?_)))))
    apply aw;(case hj=>rfl);(case hl=>rfl)
    ·
     refine ab rfl rfl (pE rfl (ab rfl rfl (pE rfl (ab rfl rfl ?_))))
     iterate 2 refine pE rfl ?_
     refine WO.nil (ay rfl rfl rfl)
    iterate 2 refine ar rfl rfl rfl rfl ?_
    refine ab rfl rfl ?_
    iterate 2 refine pE rfl ?_
    refine WO.nil (ay rfl rfl rfl)
   iterate 2 refine ar rfl rfl rfl rfl ?_
   refine ab rfl rfl ?_
   iterate 3 refine pE rfl ?_
   refine ab rfl rfl (pE rfl (ab rfl rfl (pE rfl (ab rfl rfl (pE rfl ?_)))))
   apply aw;(case hj=>rfl);(case hl=>rfl)
   ·
    refine ab rfl rfl (pE rfl (ab rfl rfl (pE rfl (ab rfl rfl ?_))))
    iterate 2 refine pE rfl ?_
    refine WO.nil (ay rfl rfl rfl)
   iterate 2 refine ar rfl rfl rfl rfl ?_
   refine ab rfl rfl ?_
   iterate 2 refine pE rfl ?_
   refine WO.nil (ay rfl rfl rfl)
  iterate 2 refine ar rfl rfl rfl rfl ?_
  iterate 2 refine pE rfl ?_
  refine ab rfl rfl (pE rfl (ab rfl rfl (pE rfl (ab rfl rfl (pE rfl ?_)))))
  apply aw;(case hj=>rfl);(case hl=>rfl)
  ·
   refine ab rfl rfl (pE rfl (ab rfl rfl (pE rfl (ab rfl rfl ?_))))
   iterate 3 refine pE rfl ?_
   apply aw;(case hj=>rfl);(case hl=>rfl)
   ·
    iterate 3 refine ar rfl rfl rfl rfl ?_
    iterate 2 refine b8 rfl rfl rfl ?_
    refine ar rfl rfl rfl rfl (pE rfl (WO.nil (ay rfl rfl rfl)))
   refine ab rfl rfl (pE rfl (ab rfl rfl (pE rfl (ab rfl rfl (pE rfl ?_)))))
   apply aw;(case hj=>rfl);(case hl=>rfl)
   ·
    refine ab rfl rfl (pE rfl (ab rfl rfl (pE rfl (ab rfl rfl ?_))))
    iterate 2 refine pE rfl ?_
    refine WO.nil (ay rfl rfl rfl)
   iterate 2 refine ar rfl rfl rfl rfl ?_
   refine ab rfl rfl ?_
   iterate 2 refine pE rfl ?_
   refine WO.nil (ay rfl rfl rfl)
  iterate 2 refine ar rfl rfl rfl rfl ?_
  refine ab rfl rfl ?_
  iterate 3 refine pE rfl ?_
  refine ab rfl rfl (pE rfl (ab rfl rfl (pE rfl (ab rfl rfl (pE rfl ?_)))))
  apply aw;(case hj=>rfl);(case hl=>rfl)
  ·
   refine ab rfl rfl (pE rfl (ab rfl rfl (pE rfl (ab rfl rfl ?_))))
   iterate 2 refine pE rfl ?_
   refine WO.nil (ay rfl rfl rfl)
  iterate 2 refine ar rfl rfl rfl rfl ?_
  refine ab rfl rfl ?_
  iterate 2 refine pE rfl ?_
  refine WO.nil (ay rfl rfl rfl)
 refine qs (ao rfl (fun h26=>?_) (fun h26=>?_))
 ·
  have hg:fm b=true:=by revert h26;simp only[fm,lower];grind
  refine W.seq (W.region (pE rfl (WO.nil (qs (W.ret (ah (QF.aq trivial rfl ?_)))))))
  rw[hg];rfl
 have hg:fm b=marks.any fun c=>decide (c=b):=by revert h26;simp only[fm,lower];grind
 refine W.skip (qs (W.seq (W.region (pE rfl (WO.nil (qs ?_))))))
 iterate 2 refine W.seq ?_
 refine W.region (pE rfl (WO.nil (qs (W.block ?_))))
 have hlen:(ck oI).length≤maxLen:=by decide
 refine W.aS (ι:={x:Nat // match x with | k=>k≤(ck oI).length∧((ck oI).drop k).any (fun c=>decide (c=b))=marks.any (fun c=>decide (c=b))})
  (fun x=>match x.1 with | k=>[(4,.d (.v (.int .i64 ((k:Nat):Int))))]) [(0,_),(3,_)]
  (fun x=>match x.1 with | k=>[]) [] [] 0 (fun x=>match x.1 with | k=>(ck oI).length - k)
  [] ⟨0,?_⟩ rfl ?_ ⟨rfl,rfl,rfl,rfl,trivial⟩ ?_ trivial rfl ?_
 · exact⟨Nat.zero_le _,rfl⟩
 · repeat' first | exact trivial | refine⟨rfl,?_⟩
 · repeat' exact trivial
 rintro⟨k,hk,hI⟩
 show W _ _ _ _ _ ⟨[(4,.d (.v (.int .i64 ((k:Nat):Int)))),(0,_),(3,_)],[],[],0⟩
 iterate 2 refine W.seq ?_
 refine W.region ?_
 iterate 4 refine pE rfl ?_
 refine WO.nil (qs (a9 (l:=ck oI) (k:=k) rfl (by rfl) hk (fun c hx hd hlt=>?_) (fun he hd=>?_)))
 ·
  rw[hd,List.any_cons] at hI
  refine W.skip (qs (W.seq (W.block (W.seq (W.region ?_)))))
  iterate 2 refine pE rfl ?_
  refine pu (c9 (s:=oI) aa rfl rfl rfl rfl (Int.natCast_nonneg _) (dO hx)) rfl ?_
  iterate 2 refine pE rfl ?_
  refine WO.nil (qs (ao rfl (fun h37=>?_) (fun h37=>?_)))
  ·
   have h37:decide (c=b)=true:=by simp at h37 ⊢;exact UInt8.toNat_inj.1 (by omega)
   rw[h37,Bool.true_or] at hI
   refine W.seq (W.region (pE rfl (WO.nil (qs (W.ret (au (ah (aZ (au (ah (QF.aq trivial rfl ?_)))))))))))
   rw[hg,←hI];rfl
  have h37:decide (c=b)=false:=by simp at h37 ⊢;rintro rfl;exact h37 rfl
  rw[h37,Bool.false_or] at hI
  refine W.skip (aX (qs (W.region ?_)))
  iterate 3 refine pE rfl ?_
  refine WO.nil (W.aU [] ⟨k+1,?_⟩ ?_ rfl ?_ ⟨rfl,rfl,rfl,rfl,trivial⟩ ?_ trivial rfl)
  · exact⟨hlt,hI⟩
  · dsimp only;omega
  · repeat' first | exact trivial | refine⟨aD (by assumption) (by assumption),?_⟩
  repeat' exact trivial
 rw[hd,List.any_nil] at hI
 refine W.exit (aN (aQ (aO (qs (W.seq (W.region (pE rfl (WO.nil (qs (W.ret (QF.aq trivial rfl ?_)))))))))))
 rw[hg,←hI];rfl
theorem yI (s:ByteArray):s.size < 1↔s=B #[]:=by
 constructor
 ·
  intro h
  obtain⟨l⟩:=s
  have:l=#[]:=Array.eq_empty_of_size_eq_zero (by have:l.size < 1:=h;omega)
  rw[this]
 rintro rfl;decide
theorem yb (s:ByteArray):ax Tryz.prog 73 [.d (.v (.string s))] (.d (.v (.int .i64 (c7 s)))) 0:=by
 refine ax.aT (n:=23) (ts:=[2]) Tryz.func73 (by kernel_rfl) rfl Tryz.ntmps73 Tryz.results73 rfl rfl fun C hC hG=>?_
 refine W.seq (W.region (pE rfl (WO.nil (qs ?_))))
 iterate 2 refine W.seq ?_
 apply aC;(case hb=>rfl)
 ·
  iterate 4 refine pE rfl ?_
  apply aw;(case hj=>rfl);(case hl=>rfl)
  ·
   iterate 3 refine ar rfl rfl rfl rfl ?_
   refine pE rfl (WO.nil (ay rfl rfl rfl))
  refine ab rfl rfl (pE rfl (ab rfl rfl (pE rfl (ab rfl rfl ?_))))
  iterate 2 refine pE rfl ?_
  refine WO.nil (ay rfl rfl rfl)
 refine qs (ao rfl (fun h11=>?_) (fun h11=>?_))
 ·
  have h11:s=B #[]∨40 < s.size:=by
   rw[←yI]
   by_cases q:s.size < 1
   · exact .inl q
   have q':¬ ((s.size:Int) < 1):=by omega
   simp[q'] at h11
   exact .inr (by omega)
  have hg:c7 s=3:=by unfold c7;rw[if_pos (by grind)]
  refine W.seq (W.region (pE rfl (WO.nil (qs (W.ret (ah (QF.aq trivial rfl ?_)))))))
  rw[hg];rfl
 have h11:¬ (s=B #[]∨40 < s.size):=by
  rw[←yI]
  by_cases q:(s.size:Int) < 1
  · simp[q] at h11
  simp[q] at h11
  omega
 refine W.skip (qs ?_)
 iterate 2 refine W.seq ?_
 refine W.region (pE rfl (WO.nil (qs (W.block (W.kS (t:=0) rfl (fun hok=>?_))))))
 have hlen:=iU hok
 refine W.aS (ι:={x:Nat // match x with | k=>k≤(ck s).length∧((ck s).drop k).all fm=(ck s).all fm})
  (fun x=>match x.1 with | k=>[(3,.d (.v (.int .i64 ((k:Nat):Int))))]) [(0,_)]
  (fun x=>match x.1 with | k=>[]) [] [] 0 (fun x=>match x.1 with | k=>(ck s).length - k)
  [] ⟨0,?_⟩ rfl ?_ ⟨rfl,rfl,trivial⟩ ?_ trivial rfl ?_
 · exact⟨Nat.zero_le _,rfl⟩
 · repeat' first | exact trivial | refine⟨rfl,?_⟩
 · repeat' exact trivial
 rintro⟨k,hk,hI⟩
 show W _ _ _ _ _ ⟨[(3,.d (.v (.int .i64 ((k:Nat):Int)))),(0,_)],[],[],0⟩
 iterate 2 refine W.seq ?_
 refine W.region ?_
 iterate 4 refine pE rfl ?_
 refine WO.nil (qs (a9 (l:=ck s) (k:=k) rfl (by simp[Ex.aF,aL]) hk (fun b hx hd hlt=>?_) (fun he hd=>?_)))
 ·
  rw[hd,List.all_cons] at hI
  refine W.skip (qs (W.seq (W.block (W.seq (W.region ?_)))))
  iterate 2 refine pE rfl ?_
  refine pu (c9 aa rfl rfl rfl rfl (Int.natCast_nonneg _) (dO (by assumption))) rfl ?_
  refine pu (ak rfl rfl rfl (vA ..) rfl) rfl ?_
  refine pE rfl (WO.nil (qs (ao rfl (fun h22=>?_) (fun h22=>?_))))
  ·
   refine W.seq (W.region (pE rfl (WO.nil (qs (W.ret (au (ah (aZ (au (ah (QF.aq trivial rfl ?_)))))))))))
   simp only[norm,az];unfold c7;grind
  refine W.skip (aX (qs (W.region ?_)))
  iterate 3 refine pE rfl ?_
  refine WO.nil (W.aU [] ⟨k+1,?_⟩ ?_ rfl ?_ ⟨rfl,rfl,trivial⟩ ?_ trivial rfl)
  · exact⟨hlt,by rw[←hI];simp_all⟩
  · dsimp only;omega
  · repeat' first | exact trivial | refine⟨aD (by assumption) (by assumption),?_⟩
  repeat' exact trivial
 rw[hd] at hI
 refine W.exit (aN (aQ (aO (qs (W.seq (W.region (pE rfl (WO.nil (qs (W.ret (QF.aq trivial rfl ?_)))))))))))
 simp only[norm,az];unfold c7;grind
theorem xw (d:List iH) (name:ByteArray):ax Tryz.prog 122 [.d (.sl (d.map iH.c)),.d (.v (.string name))] (.d (.v (.int .i64 (idx (d.findIdx? fun x=>decide (x.name=name)))))) 0:=by
 refine ax.aT (n:=20) (ts:=[4]) Tryz.func122 (by kernel_rfl) rfl Tryz.ntmps122 Tryz.results122 rfl rfl fun C hC hG=>?_
 refine W.seq (W.region (pE rfl (WO.nil (qs ?_))))
 iterate 2 refine W.seq ?_
 refine W.region (pE rfl (WO.nil (qs (W.block (W.len (t:=0) rfl rfl (fun hlen=>?_))))))
 try simp only[List.length_map,Ex.aF] at hlen
 refine W.aS (ι:={x:Nat // match x with | k=>k≤d.length∧bm (fun x=>decide (x.name=name)) d k})
  (fun x=>match x.1 with | k=>[(5,.d (.v (.int .i64 ((k:Nat):Int))))]) [(0,_),(1,_)]
  (fun x=>match x.1 with | k=>[]) [] [] 0 (fun x=>match x.1 with | k=>d.length - k)
  [] ⟨0,?_⟩ rfl ?_ ⟨rfl,rfl,rfl,rfl,trivial⟩ ?_ trivial rfl ?_
 · exact⟨Nat.zero_le _,bm.zero⟩
 · repeat' first | exact trivial | refine⟨rfl,?_⟩
 · repeat' exact trivial
 rintro⟨k,hk,hI⟩
 show W _ _ _ _ _ ⟨[(5,.d (.v (.int .i64 ((k:Nat):Int)))),(0,_),(1,_)],[],[],0⟩
 iterate 2 refine W.seq ?_
 refine W.region ?_
 iterate 4 refine pE rfl ?_
 refine WO.nil (qs (a9 (l:=d) (k:=k) rfl (by simp[Ex.aF,aL]) hk (fun x hx hd hlt=>?_) (fun he hd=>?_)))
 ·
  refine W.skip (qs (W.seq (W.block (W.seq (W.region ?_)))))
  iterate 2 refine pE rfl ?_
  refine pu (indexAddr aa rfl rfl rfl rfl rfl rfl (Int.natCast_nonneg _) (aE hx) rfl) rfl ?_
  refine pE rfl (pE rfl ?_)
  iterate 2 refine pE rfl ?_
  refine WO.nil (qs (ao rfl (fun h18=>?_) (fun h18=>?_)))
  ·
   refine W.seq (W.region ?_)
   iterate 2 refine pE rfl ?_
   refine WO.nil (qs (W.ret (au (ah (aZ (au (ah (QF.aq trivial rfl ?_))))))))
   simp only[norm,az];rw[hI.found hx h18];rfl
  refine W.skip (aX (qs (W.region ?_)))
  iterate 3 refine pE rfl ?_
  refine WO.nil (W.aU [] ⟨k+1,?_⟩ ?_ rfl ?_ ⟨rfl,rfl,rfl,rfl,trivial⟩ ?_ trivial rfl)
  · exact⟨hlt,hI.step hx h18⟩
  · dsimp only;omega
  · repeat' first | exact trivial | refine⟨aD (by assumption) (by assumption),?_⟩
  repeat' exact trivial
 refine W.exit (aN (aQ (aO (qs (W.seq (W.region (pE rfl (WO.nil (qs (W.ret (QF.aq trivial rfl ?_)))))))))))
 simp only[norm,az];rw[hI.end_ he];rfl
theorem uS (t:bo) (name:ByteArray):ax Tryz.prog 49 [.ag t.c,.d (.v (.string name))] (.d (.v (.int .i64 (idx (t.cols.findIdx? fun x=>decide (x.name=name)))))) 0:=by
 refine ax.aT (n:=22) (ts:=[4]) Tryz.func49 (by kernel_rfl) rfl Tryz.ntmps49 Tryz.results49 rfl rfl fun C hC hG=>?_
 refine W.seq (W.region (br rfl rfl rfl (pE rfl (WO.nil (qs ?_)))))
 iterate 2 refine W.seq ?_
 refine W.region (pE rfl (WO.nil (qs (W.block (gy (g:=0) (j:=0) rfl rfl (fun hlen=>?_))))))
 rw[List.length_map] at hlen
 refine W.aS (ι:={x:Nat // match x with | k=>k≤t.cols.length∧bm (fun x=>decide (x.name=name)) t.cols k})
  (fun x=>match x.1 with | k=>[(2,.ptr 0 0),(5,.d (.v (.int .i64 ((k:Nat):Int))))]) [(1,_)]
  (fun x=>match x.1 with | k=>[]) [(0,_)] [] 1 (fun x=>match x.1 with | k=>t.cols.length - k)
  [0] ⟨0,?_⟩ rfl ?_ ⟨rfl,rfl,trivial⟩ ?_ ⟨rfl,rfl,trivial⟩ rfl ?_
 · exact⟨Nat.zero_le _,bm.zero⟩
 · repeat' first | exact trivial | refine⟨rfl,?_⟩
 · repeat' exact trivial
 rintro⟨k,hk,hI⟩
 show W _ _ _ _ _ ⟨[(2,.ptr 0 0),(5,.d (.v (.int .i64 ((k:Nat):Int)))),(1,_)],[(0,_)],[],1⟩
 iterate 2 refine W.seq ?_
 refine W.region ?_
 iterate 2 refine pE rfl ?_
 refine pE rfl ?_
 iterate 2 refine pE rfl ?_
 refine WO.nil (qs (a9 (l:=t.cols) (k:=k) rfl (by simp[Ex.aF,aL]) hk (fun x hx hd hlt=>?_) (fun he hd=>?_)))
 ·
  refine W.skip (qs (W.seq (W.block (W.seq (W.region (pE rfl (pE rfl (pE rfl (pu (indexAddr aa rfl rfl rfl rfl rfl rfl (Int.natCast_nonneg _) (aE hx) rfl) rfl ?_)))))))))
  refine pE rfl (pE rfl ?_)
  iterate 2 refine pE rfl ?_
  refine WO.nil (qs (ao rfl (fun h20=>?_) (fun h20=>?_)))
  ·
   refine W.seq (W.region ?_)
   iterate 2 refine pE rfl ?_
   refine WO.nil (qs (W.ret (au (ah (aZ (au (ah (QF.aq trivial rfl ?_))))))))
   simp only[norm,az];rw[hI.found hx h20];rfl
  refine W.skip (aX (qs (W.region ?_)))
  iterate 3 refine pE rfl ?_
  refine WO.nil (W.aU [0] ⟨k+1,?_⟩ ?_ rfl ?_ ⟨rfl,rfl,trivial⟩ ?_ ⟨rfl,rfl,trivial⟩ rfl)
  · exact⟨hlt,hI.step hx h20⟩
  · dsimp only;omega
  · repeat' first | exact trivial | refine⟨rfl,?_⟩ | refine⟨aD (by assumption) (by assumption),?_⟩
  repeat' exact trivial
 refine W.exit (aN (aQ (aO (qs (W.seq (W.region (pE rfl (WO.nil (qs (W.ret (QF.aq trivial rfl ?_)))))))))))
 simp only[norm,az];rw[hI.end_ he];rfl
theorem wF (d:List iH) (name:ByteArray):ax Tryz.prog 82 [.d (.sl (d.map iH.c)),.d (.v (.string name))] (.tup [.ag (om (dk d name)),.d (.v (.bool (dk d name).isSome))]) 0:=by
 refine ax.fg aa (n:=18) (rs:=[.cell 4 25,.tmp 5]) Tryz.func82 (by kernel_rfl) rfl Tryz.ntmps82 Tryz.results82 rfl fun C hC hG=>?_
 refine W.seq (W.region (a8 aa rfl rfl rfl (pE rfl (WO.nil (qs (W.seq (W.region ?_)))))))
 iterate 2 refine pE rfl ?_
 refine pu (ak rfl rfl rfl (xw d name) rfl) rfl ?_
 refine pE rfl (WO.nil (qs ?_))
 iterate 2 refine W.seq ?_
 refine W.region ?_
 iterate 2 refine pE rfl ?_
 refine WO.nil (qs (ao rfl (fun h11=>?_) (fun h11=>?_)))
 ·
  have h5:dk d name=none:=by unfold dk;rw[ee (of_decide_eq_true h11)];rfl
  refine W.seq (W.region (pu (build aa rfl rfl rfl rfl) rfl ?_))
  refine aR aa rfl rfl rfl rfl rfl rfl rfl rfl (pE rfl (WO.nil (qs (W.ret (ah (QV.aq aa trivial rfl ?_))))))
  rw[h5];rfl
 obtain⟨i,x,h3,h4,h5',h6⟩:=ek (of_decide_eq_false h11)
 have h5:dk d name=some x.table:=by unfold dk;rw[h5'];rfl
 refine W.skip (qs (W.seq (W.region ?_)))
 iterate 2 refine pE rfl ?_
 refine pu (indexAddr aa rfl rfl rfl rfl rfl rfl (i:=idx _) (by rw[h3];exact Int.natCast_nonneg _) (by rw[h3];exact aE h4) rfl) rfl ?_
 refine pE rfl (pE rfl (aR aa rfl rfl rfl rfl rfl rfl rfl rfl (pE rfl (WO.nil (qs (W.ret (QV.aq aa trivial rfl ?_)))))))
 rw[h5];rfl
theorem rb {α:Type} {p:α→Bool} {l:List α} {k:Nat} {x:α} (hx:l[k]? = some x) (hp:p x=true):decide (idx (l.findIdx? p) < (k:Int))=(l.take k).any p:=by
 obtain⟨hk,rfl⟩:=List.getElem?_eq_some_iff.1 hx
 cases hf:l.findIdx? p with
 | none=>
  rw[List.findIdx?_eq_none_iff] at hf
  have:=hf l[k] (List.getElem_mem hk)
  rw[hp] at this
  cases this
 | some i=>
  obtain⟨hi,hpi,hmin⟩:=List.findIdx?_eq_some_iff_getElem.1 hf
  have e:decide (idx (some i) < (k:Int))=decide (i < k):=by rw[decide_eq_decide];simp[idx]
  rw[e,Bool.eq_iff_iff,decide_eq_true_eq,List.any_eq_true]
  constructor
  ·
   intro h
   refine⟨l[i],?_,hpi⟩
   rw[List.mem_iff_getElem?]
   exact⟨i,by rw[List.getElem?_take,if_pos (by omega)];simp[hi]⟩
  rintro⟨y,hy,hpy⟩
  obtain⟨j,hj⟩:=List.mem_iff_getElem?.1 hy
  rw[List.getElem?_take] at hj
  split at hj
  ·
   rename_i hjk
   obtain⟨hjl,rfl⟩:=List.getElem?_eq_some_iff.1 hj
   rcases Nat.lt_or_ge j i with hlt | hge
   ·
    have:=hmin j hlt
    simp[hpy] at this
   omega
  cases hj
theorem sh (t:bo):ax Tryz.prog 47 [.ag t.c] (.d (.v (.int .i64 (bj t)))) 0:=by
 refine ax.aT (n:=101) (ts:=[2]) Tryz.func47 (by kernel_rfl) rfl Tryz.ntmps47 Tryz.results47 rfl rfl fun C hC hG=>?_
 refine W.seq (W.region (br rfl rfl rfl (pE rfl (WO.nil (qs ?_)))))
 iterate 2 refine W.seq ?_
 apply aC;(case hb=>rfl)
 ·
  refine pE rfl (pE rfl ?_)
  iterate 3 refine pE rfl ?_
  apply aw;(case hj=>rfl);(case hl=>rfl)
  ·
   iterate 4 refine ar rfl rfl rfl rfl ?_
   refine pE rfl (WO.nil (ay rfl rfl rfl))
  refine ab rfl rfl (pE rfl (ab rfl rfl (pE rfl (ab rfl rfl (pE rfl (ab rfl rfl ?_))))))
  iterate 2 refine pE rfl ?_
  refine WO.nil (ay rfl rfl rfl)
 refine qs (ao rfl (fun h18=>?_) (fun h18=>?_))
 ·
  refine W.seq (W.region (pE rfl (WO.nil (qs (W.ret (ah (QF.aq trivial rfl ?_)))))))
  simp only[norm,az,List.length_map] at *;grind[bj]
 have h18:¬ (32 < t.cols.length∨20000 < t.rows.length):=by simp only[List.length_map] at h18;intro h;revert h18;grind
 have hq:bj t=if dG t.cols 0 t.cols≠0 then dG t.cols 0 t.cols else ec t.cols t.rows:=by unfold bj;rw[if_neg h18]
 refine W.skip (qs ?_)
 iterate 2 refine W.seq ?_
 refine W.region (pE rfl (WO.nil (qs (W.block (gy (g:=0) (j:=0) rfl rfl (fun hlen=>?_))))))
 rw[List.length_map] at hlen
 refine W.aS (ι:={x:Nat // match x with | k=>k≤t.cols.length∧dG t.cols k (t.cols.drop k)=dG t.cols 0 t.cols})
  (fun x=>match x.1 with | k=>[(1,.ptr 0 0),(3,.d (.v (.int .i64 ((k:Nat):Int))))]) []
  (fun x=>match x.1 with | k=>[]) [(0,_)] [] 1 (fun x=>match x.1 with | k=>t.cols.length - k)
  [0] ⟨0,?_⟩ rfl ?_ trivial ?_ ⟨rfl,rfl,trivial⟩ rfl ?_
 · exact⟨Nat.zero_le _,rfl⟩
 · repeat' first | exact trivial | refine⟨rfl,?_⟩
 · repeat' exact trivial
 rintro⟨k,hk,hI⟩
 show W _ _ _ _ _ ⟨[(1,.ptr 0 0),(3,.d (.v (.int .i64 ((k:Nat):Int))))],[(0,_)],[],1⟩
 iterate 2 refine W.seq ?_
 refine W.region ?_
 iterate 2 refine pE rfl ?_
 refine pE rfl ?_
 iterate 2 refine pE rfl ?_
 refine WO.nil (qs (a9 (l:=t.cols) (k:=k) rfl (by simp[Ex.aF,aL]) hk (fun x hx hd hlt=>?_) (fun he hd=>?_)))
 ·
  rw[hd] at hI
  simp only[dG] at hI
  refine W.skip (qs (W.seq (W.block (W.seq (W.region (pE rfl (pE rfl (pE rfl (pu (indexAddr aa rfl rfl rfl rfl rfl rfl (Int.natCast_nonneg _) (aE hx) rfl) rfl ?_)))))))))
  refine pE rfl (a8 aa rfl rfl rfl (aR aa rfl rfl rfl rfl rfl rfl rfl rfl (WO.nil (qs (W.seq (W.region (pE rfl (pE rfl (pu (ak rfl rfl rfl (yb ..) rfl) rfl ?_)))))))))
  refine pE rfl (WO.nil (qs (W.block (W.seq (W.region ?_)))))
  iterate 3 refine pE rfl ?_
  refine WO.nil (qs (ao rfl (fun h34=>?_) (fun h34=>?_)))
  ·
   have h34:c7 x.name≠0:=by simpa using h34
   have hB:dH t.cols k x=c7 x.name:=by unfold dH;rw[if_pos h34]
   simp only[hB] at hI
   rw[if_pos h34] at hI
   refine W.seq (W.region ?_)
   iterate 2 refine pE rfl ?_
   refine WO.nil (qs (W.ret (au (au (ah (aZ (au (ah (QF.aq trivial rfl ?_)))))))))
   rw[hq];first | rfl | (rw[if_pos (by rw[←hI];first | assumption | decide),←hI];rfl) | (rw[←hK];rfl)
  have h34:¬ (c7 x.name≠0):=by simpa using h34
  refine W.seq (W.region (pE rfl (pE rfl (pE rfl (pu (ak rfl rfl rfl (uS t x.name) rfl) rfl ?_)))))
  iterate 3 refine pE rfl ?_
  refine WO.nil (qs (ao rfl (fun h38=>?_) (fun h38=>?_)))
  ·
   have h38:((t.cols.take k).any fun y=>decide (y.name=x.name))=true:=(rb hx (by simp)).symm.trans h38
   have hB:dH t.cols k x=4:=by unfold dH;rw[if_neg h34,if_pos h38]
   simp only[hB] at hI
   rw[if_pos (by decide)] at hI
   refine W.seq (W.region (pE rfl (WO.nil (qs (W.ret (au (au (ah (aZ (au (ah (QF.aq trivial rfl ?_))))))))))))
   rw[hq];first | rfl | (rw[if_pos (by rw[←hI];first | assumption | decide),←hI];rfl) | (rw[←hK];rfl)
  have h38:¬ (((t.cols.take k).any fun y=>decide (y.name=x.name))=true):=by rw[((rb hx (by simp)).symm.trans h38:((t.cols.take k).any fun y=>decide (y.name=x.name))=false)];decide
  refine W.seq ?_
  apply aC;(case hb=>rfl)
  ·
   refine pE rfl (pE rfl ?_)
   iterate 2 refine pE rfl ?_
   apply aw;(case hj=>rfl);(case hl=>rfl)
   ·
    refine ab rfl rfl (pE rfl (ab rfl rfl (pE rfl (ab rfl rfl ?_))))
    iterate 3 refine pE rfl ?_
    apply aw;(case hj=>rfl);(case hl=>rfl)
    ·
     refine ab rfl rfl (pE rfl (ab rfl rfl (pE rfl (ab rfl rfl ?_))))
     iterate 3 refine pE rfl ?_
     refine WO.nil (ay rfl rfl rfl)
    iterate 3 refine ar rfl rfl rfl rfl ?_
    iterate 2 refine pE rfl ?_
    refine WO.nil (ay rfl rfl rfl)
   iterate 3 refine ar rfl rfl rfl rfl ?_
   iterate 2 refine pE rfl ?_
   iterate 3 refine ar rfl rfl rfl rfl ?_
   iterate 2 refine pE rfl ?_
   refine WO.nil (ay rfl rfl rfl)
  refine qs (ao rfl (fun h45=>?_) (fun h45=>?_))
  ·
   have h45:x.type≠1∧x.type≠2∧x.type≠3:=by revert h45;grind
   have hB:dH t.cols k x=14:=by unfold dH;rw[if_neg h34,if_neg h38,if_pos h45]
   simp only[hB] at hI
   rw[if_pos (by decide)] at hI
   refine W.seq (W.region (pE rfl (WO.nil (qs (W.ret (au (au (ah (aZ (au (ah (QF.aq trivial rfl ?_))))))))))))
   rw[hq];first | rfl | (rw[if_pos (by rw[←hI];first | assumption | decide),←hI];rfl) | (rw[←hK];rfl)
  have h45:¬ (x.type≠1∧x.type≠2∧x.type≠3):=by revert h45;grind
  have hB:dH t.cols k x=0:=by unfold dH;rw[if_neg h34,if_neg h38,if_neg h45]
  simp only[hB] at hI
  rw[if_neg (by decide)] at hI
  refine W.skip (aX (aX (qs (W.region ?_))))
  iterate 3 refine pE rfl ?_
  refine WO.nil (W.aU [0] ⟨k+1,?_⟩ ?_ rfl ?_ trivial ?_ ⟨rfl,rfl,trivial⟩ rfl)
  · exact⟨hlt,hI⟩
  · dsimp only;omega
  · repeat' first | exact trivial | refine⟨rfl,?_⟩ | refine⟨aD (by assumption) (by assumption),?_⟩
  repeat' exact trivial
 rw[hd] at hI
 simp only[dG] at hI
 rw[←hI] at hq
 simp only[ne_eq,not_true_eq_false,if_false] at hq
 refine W.exit (aN (aQ (aO (qs ?_))))
 iterate 2 refine W.seq ?_
 refine W.region (pE rfl (WO.nil (qs (W.block (gy (g:=0) (j:=1) rfl rfl (fun hlen=>?_))))))
 rw[List.length_map] at hlen
 refine W.aS (ι:={x:Nat // match x with | k=>k≤t.rows.length∧ec t.cols (t.rows.drop k)=ec t.cols t.rows})
  (fun x=>match x.1 with | k=>[(1,.ptr 0 0),(6,.d (.v (.int .i64 ((k:Nat):Int))))]) []
  (fun x=>match x.1 with | k=>[]) [(0,_)] [] 1 (fun x=>match x.1 with | k=>t.rows.length - k)
  [0] ⟨0,?_⟩ rfl ?_ trivial ?_ ⟨rfl,rfl,trivial⟩ rfl ?_
 · exact⟨Nat.zero_le _,rfl⟩
 · repeat' first | exact trivial | refine⟨rfl,?_⟩
 · repeat' exact trivial
 rintro⟨k,hk,hK⟩
 show W _ _ _ _ _ ⟨[(1,.ptr 0 0),(6,.d (.v (.int .i64 ((k:Nat):Int))))],[(0,_)],[],1⟩
 iterate 2 refine W.seq ?_
 refine W.region ?_
 iterate 2 refine pE rfl ?_
 refine pE rfl ?_
 iterate 2 refine pE rfl ?_
 refine WO.nil (qs (a9 (l:=t.rows) (k:=k) rfl (by simp[Ex.aF,aL]) hk (fun r hx hd hlt=>?_) (fun he hd=>?_)))
 ·
  rw[hd] at hK
  simp only[ec] at hK
  have hxr:=hx
  refine W.skip (qs (W.seq (W.block ?_)))
  iterate 2 refine W.seq ?_
  refine W.be aa (by kernel_rfl) ?_
  refine an (ev aa rfl) rfl ?_
  refine an (ev aa rfl) rfl ?_
  refine an (ev aa rfl) rfl ?_
  refine an (indexAddr aa rfl rfl rfl rfl rfl rfl (Int.natCast_nonneg _) (aE hx) rfl) rfl ?_
  refine an (ev aa rfl) rfl ?_
  iterate 2 refine an (ev aa rfl) rfl ?_
  refine an (ev aa rfl) rfl ?_
  iterate 2 refine an (ev aa rfl) rfl ?_
  refine CH.nil ?_
  refine qs (ao rfl (fun h75=>?_) (fun h75=>?_))
  ·
   have h75:r.length≠t.cols.length:=by simp at h75;omega
   rw[if_pos h75] at hK
   refine W.seq (W.region (pE rfl (WO.nil (qs (W.ret (ah (au (ah (aZ (au (ah (QF.aq trivial rfl ?_))))))))))))
   rw[hq];first | rfl | (rw[if_pos (by rw[←hI];first | assumption | decide),←hI];rfl) | (rw[←hK];rfl)
  have h75:r.length=t.cols.length:=by simp at h75;omega
  rw[if_neg (by omega)] at hK
  refine W.skip (qs (W.seq (W.region (pE rfl (WO.nil (qs (W.block ?_)))))))
  have hlen:t.cols.length≤maxLen:=by simp[maxLen];omega
  refine W.aS (ι:={x:Nat // match x with | j=>j≤t.cols.length∧c8 (t.cols.drop j) (r.drop j)=c8 t.cols r})
   (fun x=>match x.1 with | j=>[(1,.ptr 0 0),(7,.d (.v (.int .i64 ((j:Nat):Int))))]) [(6,_)]
   (fun x=>match x.1 with | j=>[]) [(0,_)] [] 1 (fun x=>match x.1 with | j=>t.cols.length - j)
   [0] ⟨0,?_⟩ rfl ?_ ⟨rfl,rfl,trivial⟩ ?_ ⟨rfl,rfl,trivial⟩ rfl ?_
  · exact⟨Nat.zero_le _,rfl⟩
  · repeat' first | exact trivial | refine⟨rfl,?_⟩
  · repeat' exact trivial
  rintro⟨j,hk,hJ⟩
  show W _ _ _ _ _ ⟨[(1,.ptr 0 0),(7,.d (.v (.int .i64 ((j:Nat):Int)))),(6,_)],[(0,_)],[],1⟩
  iterate 2 refine W.seq ?_
  refine W.region ?_
  iterate 2 refine pE rfl ?_
  refine pE rfl ?_
  iterate 2 refine pE rfl ?_
  refine WO.nil (qs (a9 (l:=t.cols) (k:=j) rfl (by simp[Ex.aF,aL]) hk (fun c hx hd hlt=>?_) (fun he hd=>?_)))
  ·
   obtain⟨v,hv,hvd⟩:=nA (l:=r) (k:=j) (by omega)
   rw[hd,hvd] at hJ
   simp only[c8] at hJ
   refine W.skip (qs (W.seq (W.block (W.seq (W.be aa (by kernel_rfl) ?_)))))
   refine an (ev aa rfl) rfl ?_
   refine an (ev aa rfl) rfl ?_
   refine an (ev aa rfl) rfl ?_
   refine an (indexAddr aa rfl rfl rfl rfl rfl rfl (Int.natCast_nonneg _) (aE hx) rfl) rfl ?_
   refine an (ev aa rfl) rfl ?_
   refine an (ev aa rfl) rfl ?_
   refine an (ev aa rfl) rfl ?_
   refine an (ev aa rfl) rfl ?_
   refine an (ev aa rfl) rfl ?_
   refine an (indexAddr aa rfl rfl rfl rfl rfl rfl (Int.natCast_nonneg _) (aE hxr) rfl) rfl ?_
   refine an (ev aa rfl) rfl ?_
   refine an (ev aa rfl) rfl ?_
   refine an (indexAddr aa rfl rfl rfl rfl rfl rfl (Int.natCast_nonneg _) (aE hv) rfl) rfl ?_
   refine an (ev aa rfl) rfl ?_
   refine an (ak rfl rfl rfl (si c.type v) rfl) rfl ?_
   refine an (ev aa rfl) rfl ?_
   refine CH.nil ?_
   refine qs (W.seq (W.region ?_))
   iterate 2 refine pE rfl ?_
   refine WO.nil (qs (ao rfl (fun h99=>?_) (fun h99=>?_)))
   ·
    have h99:bO c.type v≠0:=by simpa using h99
    rw[if_pos h99] at hJ
    simp only[←hJ] at hK
    rw[if_pos h99] at hK
    refine W.seq (W.region ?_)
    iterate 2 refine pE rfl ?_
    refine WO.nil (qs (W.ret (au (ah (aZ (au (au (ah (aZ (au (ah (QF.aq trivial rfl ?_))))))))))))
    rw[hq];first | rfl | (rw[if_pos (by rw[←hI];first | assumption | decide),←hI];rfl) | (rw[←hK];rfl)
   rw[if_neg (by simpa using h99)] at hJ
   refine W.skip (aX (qs (W.region ?_)))
   iterate 3 refine pE rfl ?_
   refine WO.nil (W.aU [0] ⟨j+1,?_⟩ ?_ rfl ?_ ⟨rfl,rfl,trivial⟩ ?_ ⟨rfl,rfl,trivial⟩ rfl)
   · exact⟨hlt,hJ⟩
   · dsimp only;omega
   · repeat' first | exact trivial | refine⟨rfl,?_⟩ | refine⟨aD (by assumption) (by assumption),?_⟩
   repeat' exact trivial
  have hj0:c8 t.cols r=0:=by rw[←hJ,hd];cases r.drop j <;> rfl
  simp only[hj0] at hK
  rw[if_neg (by decide)] at hK
  refine W.exit (aN (aQ (aO (aX (qs (W.region ?_))))))
  iterate 3 refine pE rfl ?_
  refine WO.nil (W.aU [0] ⟨k+1,?_⟩ ?_ rfl ?_ trivial ?_ ⟨rfl,rfl,trivial⟩ rfl)
  · exact⟨hlt,hK⟩
  · dsimp only;omega
  · repeat' first | exact trivial | refine⟨rfl,?_⟩ | refine⟨aD (by assumption) (by assumption),?_⟩
  repeat' exact trivial
 rw[hd] at hK
 simp only[ec] at hK
 rw[←hK] at hq
 refine W.exit (aN (aQ (aO (qs (W.seq (W.region (pE rfl (WO.nil (qs (W.ret (QF.aq trivial rfl ?_)))))))))))
 rw[hq];first | rfl | (rw[if_pos (by rw[←hI];first | assumption | decide),←hI];rfl) | (rw[←hK];rfl)
end Go.Proofs.YtjenenllmjlimaaGreat
namespace Go.Proofs.YtjenenllmjlimaaGreat
open Go.Ab Go.Tb
set_option maxRecDepth 10000
attribute [local irreducible] W WO Pu QS QB QL QF QV b7 CH QE
theorem wA (e:Ex):ax Tryz.prog 138 [.ag e.c] (.d (.v (.bool (oS e)))) 0:=by
 refine ax.aT (n:=23) (ts:=[2]) Tryz.func138 (by kernel_rfl) rfl Tryz.ntmps138 Tryz.results138 rfl rfl fun C hC hG=>?_
 have hkl:=Ex.aF e
 refine W.seq (W.region (br rfl rfl rfl (pE rfl (WO.nil (qs (W.seq ?_))))))
 apply aC;(case hb=>rfl)
 ·
  refine pE rfl (pE rfl ?_)
  iterate 2 refine pE rfl ?_
  apply aw;(case hj=>rfl);(case hl=>rfl)
  ·
   refine ab rfl rfl (pE rfl (ab rfl rfl (pE rfl (ab rfl rfl ?_))))
   iterate 3 refine pE rfl ?_
   apply aw;(case hj=>rfl);(case hl=>rfl)
   ·
    refine ab rfl rfl (pE rfl (ab rfl rfl (pE rfl (ab rfl rfl (pu (build aa rfl rfl rfl rfl) rfl ?_)))))
    refine ab rfl rfl ?_
    iterate 3 refine pE rfl ?_
    apply aw;(case hj=>rfl);(case hl=>rfl)
    ·
     refine ab rfl rfl (pE rfl (ab rfl rfl (pE rfl (ab rfl rfl (pE rfl (ab rfl rfl ?_))))))
     iterate 3 refine pE rfl ?_
     refine WO.nil (ay rfl rfl rfl)
    iterate 4 refine ar rfl rfl rfl rfl ?_
    iterate 2 refine pE rfl ?_
    refine WO.nil (ay rfl rfl rfl)
   iterate 4 refine ar rfl rfl rfl rfl ?_
   iterate 2 refine pE rfl ?_
   iterate 4 refine ar rfl rfl rfl rfl ?_
   iterate 2 refine pE rfl ?_
   refine WO.nil (ay rfl rfl rfl)
  iterate 3 refine ar rfl rfl rfl rfl ?_
  iterate 2 refine pE rfl ?_
  iterate 4 refine ar rfl rfl rfl rfl ?_
  iterate 2 refine pE rfl ?_
  iterate 4 refine ar rfl rfl rfl rfl ?_
  iterate 2 refine pE rfl ?_
  refine WO.nil (ay rfl rfl rfl)
 refine qs (W.ret (QF.aq trivial rfl ?_))
 simp only[norm,az,oS,zeroV,hkl,Int.natCast_eq_zero];grind
def jd (s:dK):Bool:=
 !(!decide (s.op=1) && !oS s.cond) && !(!decide (s.op=2) && decide (0 < s.items.length)) && !(!decide (s.op=3) && decide (0 < s.aggs.length)) &&
 !(!decide (s.op=4) && decide (0 < s.sorts.length)) && !(!decide (s.op=5) && !decide (s.n=0)) && !(!bK s.op && !decide (s.table=B #[])) &&
 (decide (s.op=3) || bK s.op || decide (s.op=9) || decide (s.cols.length=0))
theorem pX (s:dK):eB s=(!(decide (s.op < 1) || decide (9 < s.op)) && jd s):=by
 unfold eB jd
 simp only[Bool.and_assoc]
theorem vP (s:dK):ax Tryz.prog 110 [.ag s.c] (.d (.v (.bool (jd s)))) 0:=by
 refine ax.aT (n:=85) (ts:=[2]) Tryz.func110 (by kernel_rfl) rfl Tryz.ntmps110 Tryz.results110 rfl rfl fun C hC hG=>?_
 refine W.seq (W.region (br rfl rfl rfl (pE rfl (WO.nil (qs (W.seq (W.region (pE rfl (pE rfl (pE rfl (WO.nil (qs ?_))))))))))))
 iterate 2 refine W.seq ?_
 apply aC;(case hb=>rfl)
 ·
  iterate 3 refine pE rfl ?_
  apply aw;(case hj=>rfl);(case hl=>rfl)
  ·
   refine ab rfl rfl (pE rfl (ab rfl rfl (pE rfl (ab rfl rfl (pu (ak rfl rfl rfl (wA s.cond) rfl) rfl ?_)))))
   refine ab rfl rfl ?_
   iterate 3 refine pE rfl ?_
   apply aw;(case hj=>rfl);(case hl=>rfl)
   ·
    iterate 3 refine ar rfl rfl rfl rfl ?_
    iterate 4 refine b8 rfl rfl rfl ?_
    refine ar rfl rfl rfl rfl ?_
    iterate 2 refine pE rfl ?_
    iterate 3 refine ar rfl rfl rfl rfl ?_
    iterate 4 refine b8 rfl rfl rfl ?_
    refine ar rfl rfl rfl rfl (pE rfl (WO.nil (ay rfl rfl rfl)))
   refine ab rfl rfl (pE rfl (ab rfl rfl (pE rfl (ab rfl rfl (pE rfl ?_)))))
   apply aw;(case hj=>rfl);(case hl=>rfl)
   ·
    refine ab rfl rfl (pE rfl (ab rfl rfl (pE rfl (ab rfl rfl (pE rfl (ab rfl rfl (pE rfl (ab rfl rfl ?_))))))))
    iterate 3 refine pE rfl ?_
    apply aw;(case hj=>rfl);(case hl=>rfl)
    ·
     iterate 3 refine ar rfl rfl rfl rfl ?_
     iterate 4 refine b8 rfl rfl rfl ?_
     refine ar rfl rfl rfl rfl (pE rfl (WO.nil (ay rfl rfl rfl)))
    refine ab rfl rfl (pE rfl (ab rfl rfl (pE rfl (ab rfl rfl (pE rfl ?_)))))
    apply aw;(case hj=>rfl);(case hl=>rfl)
    ·
     refine ab rfl rfl (pE rfl (ab rfl rfl (pE rfl (ab rfl rfl (pE rfl (ab rfl rfl (pE rfl (ab rfl rfl ?_))))))))
     iterate 2 refine pE rfl ?_
     refine WO.nil (ay rfl rfl rfl)
    iterate 4 refine ar rfl rfl rfl rfl ?_
    refine ab rfl rfl ?_
    iterate 2 refine pE rfl ?_
    refine WO.nil (ay rfl rfl rfl)
   iterate 4 refine ar rfl rfl rfl rfl ?_
   refine ab rfl rfl ?_
   iterate 3 refine pE rfl ?_
   refine ab rfl rfl (pE rfl (ab rfl rfl (pE rfl (ab rfl rfl (pE rfl ?_)))))
   apply aw;(case hj=>rfl);(case hl=>rfl)
   ·
    refine ab rfl rfl (pE rfl (ab rfl rfl (pE rfl (ab rfl rfl (pE rfl (ab rfl rfl (pE rfl (ab rfl rfl ?_))))))))
    iterate 2 refine pE rfl ?_
    refine WO.nil (ay rfl rfl rfl)
   iterate 4 refine ar rfl rfl rfl rfl ?_
   refine ab rfl rfl ?_
   iterate 2 refine pE rfl ?_
   refine WO.nil (ay rfl rfl rfl)
  iterate 4 refine ar rfl rfl rfl rfl ?_
  iterate 2 refine pE rfl ?_
  refine ab rfl rfl (pE rfl (ab rfl rfl (pE rfl (ab rfl rfl (pE rfl ?_)))))
  apply aw;(case hj=>rfl);(case hl=>rfl)
  ·
   refine ab rfl rfl (pE rfl (ab rfl rfl (pE rfl (ab rfl rfl (pE rfl (ab rfl rfl (pE rfl (ab rfl rfl ?_))))))))
   iterate 3 refine pE rfl ?_
   apply aw;(case hj=>rfl);(case hl=>rfl)
   ·
    iterate 3 refine ar rfl rfl rfl rfl ?_
    iterate 4 refine b8 rfl rfl rfl ?_
    refine ar rfl rfl rfl rfl (pE rfl (WO.nil (ay rfl rfl rfl)))
   refine ab rfl rfl (pE rfl (ab rfl rfl (pE rfl (ab rfl rfl (pE rfl ?_)))))
   apply aw;(case hj=>rfl);(case hl=>rfl)
   ·
    refine ab rfl rfl (pE rfl (ab rfl rfl (pE rfl (ab rfl rfl (pE rfl (ab rfl rfl (pE rfl (ab rfl rfl ?_))))))))
    iterate 2 refine pE rfl ?_
    refine WO.nil (ay rfl rfl rfl)
   iterate 4 refine ar rfl rfl rfl rfl ?_
   refine ab rfl rfl ?_
   iterate 2 refine pE rfl ?_
   refine WO.nil (ay rfl rfl rfl)
  iterate 4 refine ar rfl rfl rfl rfl ?_
  refine ab rfl rfl ?_
  iterate 3 refine pE rfl ?_
  refine ab rfl rfl (pE rfl (ab rfl rfl (pE rfl (ab rfl rfl (pE rfl ?_)))))
  apply aw;(case hj=>rfl);(case hl=>rfl)
  ·
   refine ab rfl rfl (pE rfl (ab rfl rfl (pE rfl (ab rfl rfl (pE rfl (ab rfl rfl (pE rfl (ab rfl rfl ?_))))))))
   iterate 2 refine pE rfl ?_
   refine WO.nil (ay rfl rfl rfl)
  iterate 4 refine ar rfl rfl rfl rfl ?_
  refine ab rfl rfl ?_
  iterate 2 refine pE rfl ?_
  refine WO.nil (ay rfl rfl rfl)
 refine qs (ao rfl (fun h34=>?_) (fun h34=>?_))
 ·
  refine W.seq (W.region (pE rfl (WO.nil (qs (W.ret (ah (QF.aq trivial rfl ?_)))))))
  simp only[norm,az,List.length_map] at *;congr 3;simp only[jd,bK];grind(splits:=60)
 refine W.skip (qs ?_)
 iterate 2 refine W.seq ?_
 apply aC;(case hb=>rfl)
 ·
  iterate 3 refine pE rfl ?_
  apply aw;(case hj=>rfl);(case hl=>rfl)
  ·
   refine ab rfl rfl (pE rfl (ab rfl rfl (pE rfl (ab rfl rfl (pE rfl (ab rfl rfl ?_))))))
   iterate 3 refine pE rfl ?_
   apply aw;(case hj=>rfl);(case hl=>rfl)
   ·
    iterate 3 refine ar rfl rfl rfl rfl ?_
    iterate 3 refine b8 rfl rfl rfl ?_
    refine ar rfl rfl rfl rfl (pE rfl (WO.nil (ay rfl rfl rfl)))
   refine ab rfl rfl (pE rfl (ab rfl rfl (pE rfl (ab rfl rfl (pE rfl ?_)))))
   apply aw;(case hj=>rfl);(case hl=>rfl)
   ·
    refine ab rfl rfl (pE rfl (ab rfl rfl (pE rfl (ab rfl rfl (pE rfl (ab rfl rfl ?_))))))
    iterate 2 refine pE rfl ?_
    refine WO.nil (ay rfl rfl rfl)
   iterate 3 refine ar rfl rfl rfl rfl ?_
   refine ab rfl rfl ?_
   iterate 2 refine pE rfl ?_
   refine WO.nil (ay rfl rfl rfl)
  iterate 4 refine ar rfl rfl rfl rfl ?_
  iterate 2 refine pE rfl ?_
  refine ab rfl rfl (pE rfl (ab rfl rfl (pE rfl (ab rfl rfl (pE rfl ?_)))))
  apply aw;(case hj=>rfl);(case hl=>rfl)
  ·
   refine ab rfl rfl (pE rfl (ab rfl rfl (pE rfl (ab rfl rfl (pE rfl (ab rfl rfl ?_))))))
   iterate 2 refine pE rfl ?_
   refine WO.nil (ay rfl rfl rfl)
  iterate 3 refine ar rfl rfl rfl rfl ?_
  refine ab rfl rfl ?_
  iterate 2 refine pE rfl ?_
  refine WO.nil (ay rfl rfl rfl)
 refine qs (ao rfl (fun h51=>?_) (fun h51=>?_))
 ·
  refine W.seq (W.region (pE rfl (WO.nil (qs (W.ret (ah (QF.aq trivial rfl ?_)))))))
  simp only[norm,az,List.length_map] at *;congr 3;simp only[jd,bK];grind(splits:=60)
 refine W.skip (qs (W.seq ?_))
 apply aC;(case hb=>rfl)
 ·
  iterate 3 refine pE rfl ?_
  apply aw;(case hj=>rfl);(case hl=>rfl)
  ·
   iterate 2 refine ar rfl rfl rfl rfl ?_
   iterate 2 refine pE rfl ?_
   iterate 2 refine ar rfl rfl rfl rfl ?_
   iterate 2 refine pE rfl ?_
   refine WO.nil (ay rfl rfl rfl)
  refine ab rfl rfl (pE rfl (ab rfl rfl ?_))
  iterate 3 refine pE rfl ?_
  apply aw;(case hj=>rfl);(case hl=>rfl)
  ·
   iterate 2 refine ar rfl rfl rfl rfl ?_
   iterate 2 refine pE rfl ?_
   refine WO.nil (ay rfl rfl rfl)
  refine ab rfl rfl (pE rfl (ab rfl rfl ?_))
  iterate 3 refine pE rfl ?_
  refine WO.nil (ay rfl rfl rfl)
 refine qs (W.seq ?_)
 apply aC;(case hb=>rfl)
 ·
  iterate 2 refine pE rfl ?_
  apply aw;(case hj=>rfl);(case hl=>rfl)
  ·
   iterate 3 refine ar rfl rfl rfl rfl ?_
   iterate 2 refine pE rfl ?_
   refine ab rfl rfl (pE rfl (ab rfl rfl (pE rfl ?_)))
   apply aw;(case hj=>rfl);(case hl=>rfl)
   ·
    iterate 2 refine ar rfl rfl rfl rfl ?_
    refine ab rfl rfl (pE rfl (ab rfl rfl (pE rfl ?_)))
    iterate 2 refine ar rfl rfl rfl rfl ?_
    refine ab rfl rfl (pE rfl (ab rfl rfl (pE rfl ?_)))
    iterate 4 refine ar rfl rfl rfl rfl ?_
    refine ab rfl rfl ?_
    iterate 3 refine pE rfl ?_
    refine WO.nil (ay rfl rfl rfl)
   refine ab rfl rfl (pE rfl (ab rfl rfl (pE rfl (ab rfl rfl (pE rfl (ab rfl rfl (pE rfl ?_)))))))
   apply aw;(case hj=>rfl);(case hl=>rfl)
   ·
    iterate 2 refine ar rfl rfl rfl rfl ?_
    refine ab rfl rfl (pE rfl (ab rfl rfl (pE rfl ?_)))
    iterate 4 refine ar rfl rfl rfl rfl ?_
    refine ab rfl rfl ?_
    iterate 3 refine pE rfl ?_
    refine WO.nil (ay rfl rfl rfl)
   refine ab rfl rfl (pE rfl (ab rfl rfl (pE rfl (ab rfl rfl (pE rfl (ab rfl rfl (pE rfl ?_)))))))
   apply aw;(case hj=>rfl);(case hl=>rfl)
   ·
    iterate 4 refine ar rfl rfl rfl rfl ?_
    refine ab rfl rfl ?_
    iterate 3 refine pE rfl ?_
    refine WO.nil (ay rfl rfl rfl)
   refine ab rfl rfl (pE rfl (ab rfl rfl (pE rfl (ab rfl rfl (pE rfl (ab rfl rfl (pE rfl (ab rfl rfl ?_))))))))
   iterate 3 refine pE rfl ?_
   refine WO.nil (ay rfl rfl rfl)
  refine ab rfl rfl (pE rfl (ab rfl rfl (pE rfl (ab rfl rfl ?_))))
  iterate 3 refine pE rfl ?_
  apply aw;(case hj=>rfl);(case hl=>rfl)
  ·
   refine ab rfl rfl (pE rfl (ab rfl rfl (pE rfl ?_)))
   apply aw;(case hj=>rfl);(case hl=>rfl)
   ·
    iterate 2 refine ar rfl rfl rfl rfl ?_
    refine ab rfl rfl (pE rfl (ab rfl rfl (pE rfl ?_)))
    iterate 2 refine ar rfl rfl rfl rfl ?_
    refine ab rfl rfl (pE rfl (ab rfl rfl (pE rfl ?_)))
    iterate 4 refine ar rfl rfl rfl rfl ?_
    refine ab rfl rfl ?_
    iterate 3 refine pE rfl ?_
    refine WO.nil (ay rfl rfl rfl)
   refine ab rfl rfl (pE rfl (ab rfl rfl (pE rfl (ab rfl rfl (pE rfl (ab rfl rfl (pE rfl ?_)))))))
   apply aw;(case hj=>rfl);(case hl=>rfl)
   ·
    iterate 2 refine ar rfl rfl rfl rfl ?_
    refine ab rfl rfl (pE rfl (ab rfl rfl (pE rfl ?_)))
    iterate 4 refine ar rfl rfl rfl rfl ?_
    refine ab rfl rfl ?_
    iterate 3 refine pE rfl ?_
    refine WO.nil (ay rfl rfl rfl)
   refine ab rfl rfl (pE rfl (ab rfl rfl (pE rfl (ab rfl rfl (pE rfl (ab rfl rfl (pE rfl ?_)))))))
   apply aw;(case hj=>rfl);(case hl=>rfl)
   ·
    iterate 4 refine ar rfl rfl rfl rfl ?_
    refine ab rfl rfl ?_
    iterate 3 refine pE rfl ?_
    refine WO.nil (ay rfl rfl rfl)
   refine ab rfl rfl (pE rfl (ab rfl rfl (pE rfl (ab rfl rfl (pE rfl (ab rfl rfl (pE rfl (ab rfl rfl ?_))))))))
   iterate 3 refine pE rfl ?_
   refine WO.nil (ay rfl rfl rfl)
  iterate 2 refine ar rfl rfl rfl rfl ?_
  iterate 2 refine b8 rfl rfl rfl ?_
  iterate 2 refine ar rfl rfl rfl rfl ?_
  iterate 2 refine b8 rfl rfl rfl ?_
  iterate 2 refine ar rfl rfl rfl rfl ?_
  iterate 4 refine b8 rfl rfl rfl ?_
  refine ar rfl rfl rfl rfl ?_
  iterate 2 refine pE rfl ?_
  refine WO.nil (ay rfl rfl rfl)
 refine qs (W.ret (QF.aq trivial rfl ?_))
 simp only[norm,az,List.length_map] at *;congr 3;simp only[jd,bK];grind(splits:=60)
theorem kv (l:List ByteArray):ax Tryz.prog 116 [.d (.sl (l.map sc))] (.d (.v (.int .i64 (bR [] l)))) 0:=by
 refine ax.aT (n:=31) (ts:=[2]) Tryz.func116 (by kernel_rfl) rfl Tryz.ntmps116 Tryz.results116 rfl rfl fun C hC hG=>?_
 refine W.seq (W.region (pE rfl (WO.nil (qs ?_))))
 iterate 2 refine W.seq ?_
 refine W.region (pE rfl (WO.nil (qs (W.block (W.len (t:=0) rfl rfl (fun hlen=>?_))))))
 try simp only[List.length_map,Ex.aF] at hlen
 refine W.aS (ι:={x:Nat // match x with | k=>k≤l.length∧bR (l.take k) (l.drop k)=bR [] l})
  (fun x=>match x.1 with | k=>[(3,.d (.v (.int .i64 ((k:Nat):Int))))]) [(0,_)]
  (fun x=>match x.1 with | k=>[]) [] [] 0 (fun x=>match x.1 with | k=>l.length - k)
  [] ⟨0,?_⟩ rfl ?_ ⟨rfl,rfl,trivial⟩ ?_ trivial rfl ?_
 · exact⟨Nat.zero_le _,rfl⟩
 · repeat' first | exact trivial | refine⟨rfl,?_⟩
 · repeat' exact trivial
 rintro⟨k,hk,hI⟩
 show W _ _ _ _ _ ⟨[(3,.d (.v (.int .i64 ((k:Nat):Int)))),(0,_)],[],[],0⟩
 iterate 2 refine W.seq ?_
 refine W.region ?_
 iterate 4 refine pE rfl ?_
 refine WO.nil (qs (a9 (l:=l) (k:=k) rfl (by simp[Ex.aF,aL]) hk (fun z hx hd hlt=>?_) (fun he hd=>?_)))
 ·
  rw[hd] at hI
  simp only[bR] at hI
  have hxk:=hx
  have hltk:=hlt
  refine W.skip (qs (W.seq (W.block ?_)))
  iterate 2 refine W.seq ?_
  refine W.region ?_
  iterate 2 refine pE rfl ?_
  refine pu (indexAddr aa rfl rfl rfl rfl rfl rfl (Int.natCast_nonneg _) (aE hx) rfl) rfl ?_
  refine pE rfl (pu (ak rfl rfl rfl (ll ..) rfl) rfl ?_)
  refine pE rfl (WO.nil (qs (ao rfl (fun h16=>?_) (fun h16=>?_))))
  ·
   have h16:cC z=false:=by simpa using h16
   have hB:cv (l.take k) z=3:=by unfold cv;rw[if_pos h16]
   simp only[hB] at hI
   rw[if_pos (by decide)] at hI
   refine W.seq (W.region (pE rfl (WO.nil (qs (W.ret (ah (au (ah (aZ (au (ah (QF.aq trivial rfl ?_))))))))))))
   rw[←hI];rfl
  have h16:cC z=true:=by simpa using h16
  have hA:cv (l.take k) z=if (l.take k).any (fun y=>decide (z=y)) then 4 else 0:=by unfold cv;rw[if_neg (by simp[h16])]
  refine W.skip (qs (W.seq (W.region (pE rfl (WO.nil (qs (W.block ?_)))))))
  refine W.aS (ι:={x:Nat // match x with | j=>j≤k∧((l.take k).drop j).any (fun y=>decide (z=y))=(l.take k).any (fun y=>decide (z=y))})
   (fun x=>match x.1 with | j=>[(4,.d (.v (.int .i64 ((j:Nat):Int))))]) [(0,_),(3,_)]
   (fun x=>match x.1 with | j=>[]) [] [] 0 (fun x=>match x.1 with | j=>k - j)
   [] ⟨0,?_⟩ rfl ?_ ⟨rfl,rfl,rfl,rfl,trivial⟩ ?_ trivial rfl ?_
  · exact⟨Nat.zero_le _,rfl⟩
  · repeat' first | exact trivial | refine⟨rfl,?_⟩
  · repeat' exact trivial
  rintro⟨j,hk2,hJ⟩
  show W _ _ _ _ _ ⟨[(4,.d (.v (.int .i64 ((j:Nat):Int)))),(0,_),(3,_)],[],[],0⟩
  iterate 2 refine W.seq ?_
  refine W.region ?_
  iterate 3 refine pE rfl ?_
  refine WO.nil (qs (ao rfl (fun h19=>?_) (fun h19=>?_)))
  ·
   have hjk:j < k:=by simp at h19;omega
   have hlt:j < l.length:=by omega
   obtain⟨y,hy,hyd⟩:=nA (l:=l.take k) (k:=j) (by simp;omega)
   have hyl:l[j]? = some y:=by rw[List.getElem?_take,if_pos hjk] at hy;exact hy
   rw[hyd,List.any_cons] at hJ
   refine W.skip (qs (W.seq (W.block (W.seq (W.be aa (by kernel_rfl) ?_)))))
   iterate 2 refine an (ev aa rfl) rfl ?_
   refine an (indexAddr aa rfl rfl rfl rfl rfl rfl (Int.natCast_nonneg _) (aE hyl) rfl) rfl ?_
   refine an (ev aa rfl) rfl ?_
   iterate 2 refine an (ev aa rfl) rfl ?_
   refine an (indexAddr aa rfl rfl rfl rfl rfl rfl (Int.natCast_nonneg _) (aE hxk) rfl) rfl ?_
   refine an (ev aa rfl) rfl ?_
   refine an (ev aa rfl) rfl ?_
   refine CH.nil ?_
   refine qs (ao rfl (fun h30=>?_) (fun h30=>?_))
   ·
    have h30:decide (z=y)=true:=by simp at h30 ⊢;exact h30.symm
    rw[h30,Bool.true_or] at hJ
    rw[←hJ] at hA
    simp only[hA] at hI
    rw[if_pos (by decide)] at hI
    refine W.seq (W.region (pE rfl (WO.nil (qs (W.ret (au (ah (aZ (au (au (ah (aZ (au (ah ?_))))))))))))))
    refine QF.aq trivial rfl ?_
    rw[←hI];rfl
   have h30:decide (z=y)=false:=by simp at h30 ⊢;exact fun h=>h30 h.symm
   rw[h30,Bool.false_or] at hJ
   refine W.skip (aX (qs (W.region ?_)))
   iterate 3 refine pE rfl ?_
   refine WO.nil (W.aU [] ⟨j+1,?_⟩ ?_ rfl ?_ ⟨rfl,rfl,rfl,rfl,trivial⟩ ?_ trivial rfl)
   · exact⟨hjk,hJ⟩
   · show k - (j+1) < k - j;omega
   · repeat' first | exact trivial | refine⟨aD (by assumption) (by assumption),?_⟩
   repeat' exact trivial
  have hjk:j=k:=by simp at h19;omega
  rw[dropEnd (l:=l.take k) (k:=j) (by simp;omega),List.any_nil] at hJ
  rw[←hJ] at hA
  simp only[hA] at hI
  rw[if_neg (by decide)] at hI
  refine W.exit (aN (aQ (aO (aX (qs (W.region ?_))))))
  iterate 3 refine pE rfl ?_
  refine WO.nil (W.aU [] ⟨k+1,?_⟩ ?_ rfl ?_ ⟨rfl,rfl,trivial⟩ ?_ trivial rfl)
  · exact⟨hltk,by rw[List.take_add_one,hxk];exact hI⟩
  · show l.length - (k+1) < l.length - k;omega
  ·
   have hlt:=hltk
   repeat' first | exact trivial | refine⟨aD (by assumption) (by assumption),?_⟩
  repeat' exact trivial
 rw[hd] at hI
 simp only[bR] at hI
 refine W.exit (aN (aQ (aO (qs (W.seq (W.region (pE rfl (WO.nil (qs (W.ret (QF.aq trivial rfl ?_)))))))))))
 rw[←hI];rfl
theorem w4 (l:List ly) (h:l.length≤100000):ax Tryz.prog 117 [.d (.sl (l.map ly.c))] (.d (.sl ((l.map ly.col).map sc))) 0:=by
 refine ax.aT (n:=20) (ts:=[2]) Tryz.func117 (by kernel_rfl) rfl Tryz.ntmps117 Tryz.results117 rfl rfl fun C hC hG=>?_
 refine W.seq (W.region (pE rfl (WO.nil (qs (W.seq (W.region (pE rfl (WO.nil (qs ?_)))))))))
 iterate 2 refine W.seq ?_
 refine W.region (pE rfl (WO.nil (qs (W.block (aG (d:=3) rfl rfl ?_)))))
 refine W.len (t:=0) rfl rfl (fun hlen=>?_)
 try simp only[List.length_map,Ex.aF] at hlen
 refine W.aS (ι:={x:Nat×List ByteArray // match x with | (k,ns)=>k≤l.length∧ns=(l.take k).map ly.col})
  (fun x=>match x.1 with | (k,ns)=>[(3,.own 0 (ns.map sc)),(4,.d (.v (.int .i64 ((k:Nat):Int))))]) [(0,_)]
  (fun x=>match x.1 with | (k,ns)=>[]) [] [0] 1 (fun x=>match x.1 with | (k,ns)=>l.length - k)
  [0] ⟨(0,[]),?_⟩ rfl ?_ ⟨rfl,rfl,trivial⟩ ?_ trivial rfl ?_
 · exact⟨Nat.zero_le _,rfl⟩
 · repeat' first | exact trivial | refine⟨rfl,?_⟩
 · repeat' exact trivial
 rintro⟨⟨k,ns⟩,hk,hI⟩
 show W _ _ _ _ _ ⟨[(3,.own 0 (ns.map sc)),(4,.d (.v (.int .i64 ((k:Nat):Int)))),(0,_)],[],[0],1⟩
 iterate 2 refine W.seq ?_
 refine W.region ?_
 iterate 4 refine pE rfl ?_
 refine WO.nil (qs (a9 (l:=l) (k:=k) rfl (by simp[Ex.aF,aL]) hk (fun x hx hd hlt=>?_) (fun he hd=>?_)))
 ·
  have hnl:ns.length=k:=by rw[hI];simp;omega
  refine W.skip (qs (W.seq (W.block (W.region ?_))))
  iterate 3 refine pE rfl ?_
  refine pu (indexAddr aa rfl rfl rfl rfl rfl rfl (Int.natCast_nonneg _) (aE hx) rfl) rfl ?_
  refine pE rfl (pE rfl (pu (aI aa rfl rfl rfl rfl rfl rfl rfl rfl rfl) rfl ?_))
  refine bJ aa rfl rfl rfl rfl rfl rfl rfl rfl rfl rfl (fun _=>rfl) (by show(ns.length+1)*16≤_;omega) ?_
  refine pE rfl (WO.nil (aX (qs (W.region ?_))))
  iterate 3 refine pE rfl ?_
  refine WO.nil (W.aU [1] ⟨(k+1,ns++[x.col]),?_⟩ ?_ rfl ?_ ⟨rfl,rfl,trivial⟩ ?_ trivial rfl)
  · exact⟨hlt,by rw[hI,List.take_add_one,hx];simp⟩
  · dsimp only;omega
  · repeat' first | exact trivial | refine⟨rfl,?_⟩ | refine⟨aD (by assumption) (by assumption),?_⟩
  repeat' exact trivial
 have hns:ns=l.map ly.col:=by rw[hI,he,List.take_length]
 refine W.exit (aN (aQ (aO (qs (W.seq (W.region ?_))))))
 iterate 2 refine pE rfl ?_
 refine WO.nil (qs (W.ret (QF.aq trivial rfl ?_)))
 rw[←hns];rfl
theorem ui (l:List kE) (h:l.length≤100000):ax Tryz.prog 114 [.d (.sl (l.map kE.c))] (.d (.v (.int .i64 (dW [] l)))) 0:=by
 refine ax.aT (n:=33) (ts:=[2]) Tryz.func114 (by kernel_rfl) rfl Tryz.ntmps114 Tryz.results114 rfl rfl fun C hC hG=>?_
 refine W.seq (W.region (pE rfl (WO.nil (qs (W.seq (W.region (pE rfl (WO.nil (qs ?_)))))))))
 iterate 2 refine W.seq ?_
 refine W.region (pE rfl (WO.nil (qs (W.block (aG (d:=3) rfl rfl ?_)))))
 refine W.len (t:=0) rfl rfl (fun hlen=>?_)
 try simp only[List.length_map,Ex.aF] at hlen
 refine W.aS (ι:={x:Nat×List ByteArray // match x with | (k,ns)=>k≤l.length∧dW ns (l.drop k)=dW [] l∧ns.length=k∧bR [] ns=0})
  (fun x=>match x.1 with | (k,ns)=>[(3,.own 0 (ns.map sc)),(4,.d (.v (.int .i64 ((k:Nat):Int))))]) [(0,_)]
  (fun x=>match x.1 with | (k,ns)=>[]) [] [0] 1 (fun x=>match x.1 with | (k,ns)=>l.length - k)
  [0] ⟨(0,[]),?_⟩ rfl ?_ ⟨rfl,rfl,trivial⟩ ?_ trivial rfl ?_
 · exact⟨Nat.zero_le _,rfl,rfl,rfl⟩
 · repeat' first | exact trivial | refine⟨rfl,?_⟩
 · repeat' exact trivial
 rintro⟨⟨k,ns⟩,hk,hI,hL,hN⟩
 show W _ _ _ _ _ ⟨[(3,.own 0 (ns.map sc)),(4,.d (.v (.int .i64 ((k:Nat):Int)))),(0,_)],[],[0],1⟩
 iterate 2 refine W.seq ?_
 refine W.region ?_
 iterate 4 refine pE rfl ?_
 refine WO.nil (qs (a9 (l:=l) (k:=k) rfl (by simp[Ex.aF,aL]) hk (fun x hx hd hlt=>?_) (fun he hd=>?_)))
 ·
  rw[hd] at hI
  simp only[dW] at hI
  have hA:bR [] (ns++[x.name])=cv ns x.name:=ky [] ns x.name hN
  refine W.skip (qs (W.seq (W.block (W.seq (W.region ?_)))))
  iterate 2 refine pE rfl ?_
  refine pu (indexAddr aa rfl rfl rfl rfl rfl rfl (Int.natCast_nonneg _) (aE hx) rfl) rfl ?_
  refine pE rfl (pE rfl (pu (ak rfl rfl rfl (pz x.e) rfl) rfl ?_))
  refine pE rfl (WO.nil (qs (W.seq (W.region ?_))))
  iterate 3 refine pE rfl ?_
  refine pu (indexAddr aa rfl rfl rfl rfl rfl rfl (Int.natCast_nonneg _) (aE hx) rfl) rfl ?_
  refine pE rfl (pE rfl (pu (aI aa rfl rfl rfl rfl rfl rfl rfl rfl rfl) rfl ?_))
  refine bJ aa rfl rfl rfl rfl rfl rfl rfl rfl rfl rfl (fun _=>rfl) (by show(ns.length+1)*16≤_;omega) ?_
  refine pE rfl (WO.nil (qs ?_))
  iterate 2 refine W.seq ?_
  refine W.region ?_
  iterate 2 refine pE rfl ?_
  refine WO.nil (qs (ao rfl (fun h27=>?_) (fun h27=>?_)))
  ·
   have h27:¬ (dh x.e≠0):=by simpa using h27
   rw[if_neg h27] at hI
   refine W.region (pE rfl (pu (ak rfl rfl rfl (kv (ns++[x.name])) rfl) rfl ?_))
   refine pE rfl (WO.nil (qs (W.seq (W.region ?_))))
   iterate 2 refine pE rfl ?_
   refine WO.nil (qs (ao rfl (fun h31=>?_) (fun h31=>?_)))
   ·
    try rw[hA] at h31
    try rw[if_pos (by simpa using h31)] at hI
    refine W.seq (W.region ?_)
    iterate 2 refine pE rfl ?_
    refine WO.nil (qs (W.ret (au (ah (aZ (au (ah (QF.aq trivial rfl ?_))))))))
    (rw[←hI,←hA];rfl)
   try rw[hA] at h31
   try rw[if_neg (by simpa using h31)] at hI
   refine W.skip (aX (qs (W.region ?_)))
   iterate 3 refine pE rfl ?_
   refine WO.nil (W.aU [1] ⟨(k+1,ns++[x.name]),?_⟩ ?_ rfl ?_ ⟨rfl,rfl,trivial⟩ ?_ trivial rfl)
   · exact⟨hlt,hI,by simp[hL],by rw[hA];simpa using h31⟩
   · dsimp only;omega
   · repeat' first | exact trivial | refine⟨rfl,?_⟩ | refine⟨aD (by assumption) (by assumption),?_⟩
   repeat' exact trivial
  have h27:dh x.e≠0:=by simpa using h27
  rw[if_pos h27] at hI
  refine W.skip (qs (W.seq (W.region ?_)))
  iterate 2 refine pE rfl ?_
  refine WO.nil (qs (ao rfl (fun h31=>?_) (fun h31=>?_)))
  ·
   try rw[hA] at h31
   try rw[if_pos (by simpa using h31)] at hI
   refine W.seq (W.region ?_)
   iterate 2 refine pE rfl ?_
   refine WO.nil (qs (W.ret (au (ah (aZ (au (ah (QF.aq trivial rfl ?_))))))))
   (rw[←hI];rfl)
  try rw[hA] at h31
  try rw[if_neg (by simpa using h31)] at hI
  refine W.skip (aX (qs (W.region ?_)))
  iterate 3 refine pE rfl ?_
  refine WO.nil (W.aU [1] ⟨(k+1,ns++[x.name]),?_⟩ ?_ rfl ?_ ⟨rfl,rfl,trivial⟩ ?_ trivial rfl)
  · (exfalso;simp at h31;exact h27 h31)
  · dsimp only;omega
  · repeat' first | exact trivial | refine⟨rfl,?_⟩ | refine⟨aD (by assumption) (by assumption),?_⟩
  repeat' exact trivial
 rw[hd] at hI
 simp only[dW] at hI
 refine W.exit (aN (aQ (aO (qs (W.seq (W.region (pE rfl (WO.nil (qs (W.ret (QF.aq trivial rfl ?_)))))))))))
 (rw[←hI];rfl)
end Go.Proofs.YtjenenllmjlimaaGreat
namespace Go.Proofs.YtjenenllmjlimaaGreat
open Go.Ab Go.Tb
set_option maxRecDepth 10000
attribute [local irreducible] W WO Pu QS QB QL QF QV b7 CH QE
def mw (s:dK):Int:=if bR [] s.cols≠0 then bR [] s.cols else gN s.cols s.aggs
theorem wc (s:dK) (hf:l7 s):ax Tryz.prog 115 [.ag s.c] (.d (.v (.int .i64 (mw s)))) 0:=by
 obtain⟨hf1,hf2,hf3,hf4⟩:=hf
 refine ax.aT (n:=83) (ts:=[2]) Tryz.func115 (by kernel_rfl) rfl Tryz.ntmps115 Tryz.results115 rfl rfl fun C hC hG=>?_
 refine W.seq (W.region (br rfl rfl rfl (pE rfl (WO.nil (qs (W.seq (W.region (pE rfl (pE rfl (pu (ak rfl rfl rfl (kv s.cols) rfl) rfl ?_))))))))))
 refine pE rfl (WO.nil (qs (W.seq (W.region (mq aa rfl rfl rfl rfl rfl rfl rfl rfl (by rfl) ?_)))))
 refine pE rfl (pE rfl (dn (l:=[]) (fn:=sc) aa rfl rfl rfl rfl rfl rfl rfl rfl rfl rfl (fun _=>rfl) (by show(0+s.cols.length)*16≤_;omega) ?_))
 refine pE rfl (WO.nil (qs ?_))
 iterate 2 refine W.seq ?_
 refine W.region (pE rfl (WO.nil (qs (W.block ?_))))
 have hlen:s.aggs.length≤maxLen:=by simp[maxLen];omega
 refine W.aS (ι:={x:Nat×List ByteArray×Int // match x with | (k,ns,y)=>k≤s.aggs.length∧(if y≠0 then y else gN ns (s.aggs.drop k))=mw s∧y=bR [] ns∧ns.length≤400+k})
  (fun x=>match x.1 with | (k,ns,y)=>[(1,.ptr 0 0),(3,.d (.v (.int .i64 (y)))),(4,.own 1 (ns.map sc)),(5,.d (.v (.int .i64 ((k:Nat):Int))))]) []
  (fun x=>match x.1 with | (k,ns,y)=>[]) [(0,_)] [1] 2 (fun x=>match x.1 with | (k,ns,y)=>s.aggs.length - k)
  [0,2] ⟨(0,s.cols,bR [] s.cols),?_⟩ rfl ?_ trivial ?_ ⟨rfl,rfl,trivial⟩ rfl ?_
 · exact⟨Nat.zero_le _,rfl,rfl,by omega⟩
 · repeat' first | exact trivial | refine⟨rfl,?_⟩
 · repeat' exact trivial
 rintro⟨⟨k,ns,y⟩,hk,hI,hY,hL⟩
 show W _ _ _ _ _ ⟨[(1,.ptr 0 0),(3,.d (.v (.int .i64 (y)))),(4,.own 1 (ns.map sc)),(5,.d (.v (.int .i64 ((k:Nat):Int))))],[(0,_)],[1],2⟩
 iterate 2 refine W.seq ?_
 apply aC;(case hb=>rfl)
 ·
  iterate 2 refine pE rfl ?_
  refine pE rfl ?_
  iterate 3 refine pE rfl ?_
  apply aw;(case hj=>rfl);(case hl=>rfl)
  ·
   refine ab rfl rfl (pE rfl (ab rfl rfl ?_))
   iterate 2 refine pE rfl ?_
   refine WO.nil (ay rfl rfl rfl)
  iterate 2 refine ar rfl rfl rfl rfl ?_
  refine pE rfl (WO.nil (ay rfl rfl rfl))
 refine qs (ao rfl (fun h23=>?_) (fun h23=>?_))
 ·
  have h23':k < s.aggs.length∧y=0:=by revert h23;simp only[List.length_map];by_cases q:(k:Int) < s.aggs.length <;> simp[q];omega
  obtain⟨hlt,rfl⟩:=h23'
  obtain⟨a,hx,hd⟩:=nA hlt
  rw[hd,if_neg (by decide)] at hI
  simp only[gN] at hI
  have hA:bR [] (ns++[a.name])=cv ns a.name:=ky [] ns a.name hY.symm
  refine W.skip (qs (W.seq (W.block (W.seq (W.region (pE rfl (pE rfl (pE rfl (pu (indexAddr aa rfl rfl rfl rfl rfl rfl (Int.natCast_nonneg _) (aE hx) rfl) rfl ?_)))))))))
  refine pE rfl (a8 aa rfl rfl rfl (aR aa rfl rfl rfl rfl rfl rfl rfl rfl (WO.nil (qs (W.seq ?_)))))
  apply aC;(case hb=>rfl)
  ·
   refine pE rfl (pE rfl ?_)
   iterate 2 refine pE rfl ?_
   apply aw;(case hj=>rfl);(case hl=>rfl)
   ·
    iterate 3 refine ar rfl rfl rfl rfl ?_
    iterate 2 refine pE rfl ?_
    iterate 3 refine ar rfl rfl rfl rfl ?_
    iterate 2 refine pE rfl ?_
    iterate 3 refine ar rfl rfl rfl rfl ?_
    iterate 2 refine pE rfl ?_
    refine WO.nil (ay rfl rfl rfl)
   refine ab rfl rfl (pE rfl (ab rfl rfl (pE rfl (ab rfl rfl ?_))))
   iterate 3 refine pE rfl ?_
   apply aw;(case hj=>rfl);(case hl=>rfl)
   ·
    iterate 3 refine ar rfl rfl rfl rfl ?_
    iterate 2 refine pE rfl ?_
    iterate 3 refine ar rfl rfl rfl rfl ?_
    iterate 2 refine pE rfl ?_
    refine WO.nil (ay rfl rfl rfl)
   refine ab rfl rfl (pE rfl (ab rfl rfl (pE rfl (ab rfl rfl ?_))))
   iterate 3 refine pE rfl ?_
   apply aw;(case hj=>rfl);(case hl=>rfl)
   ·
    iterate 3 refine ar rfl rfl rfl rfl ?_
    iterate 2 refine pE rfl ?_
    refine WO.nil (ay rfl rfl rfl)
   refine ab rfl rfl (pE rfl (ab rfl rfl (pE rfl (ab rfl rfl ?_))))
   iterate 3 refine pE rfl ?_
   refine WO.nil (ay rfl rfl rfl)
  refine qs ?_
  iterate 2 refine W.seq ?_
  apply aC;(case hb=>rfl)
  ·
   refine pE rfl (pE rfl ?_)
   iterate 2 refine pE rfl ?_
   apply aw;(case hj=>rfl);(case hl=>rfl)
   ·
    iterate 3 refine ar rfl rfl rfl rfl ?_
    iterate 2 refine pE rfl ?_
    refine ab rfl rfl (pE rfl (ab rfl rfl (pE rfl (ab rfl rfl (pE rfl ?_)))))
    apply aw;(case hj=>rfl);(case hl=>rfl)
    ·
     iterate 3 refine ar rfl rfl rfl rfl ?_
     refine ab rfl rfl ?_
     iterate 2 refine pE rfl ?_
     refine WO.nil (ay rfl rfl rfl)
    refine ab rfl rfl (pE rfl (ab rfl rfl (pE rfl (ab rfl rfl (pE rfl (ab rfl rfl ?_))))))
    iterate 2 refine pE rfl ?_
    refine WO.nil (ay rfl rfl rfl)
   refine ab rfl rfl (pE rfl (ab rfl rfl (pE rfl (ab rfl rfl ?_))))
   iterate 3 refine pE rfl ?_
   apply aw;(case hj=>rfl);(case hl=>rfl)
   ·
    refine ab rfl rfl (pE rfl (ab rfl rfl (pE rfl (ab rfl rfl (pE rfl ?_)))))
    apply aw;(case hj=>rfl);(case hl=>rfl)
    ·
     iterate 3 refine ar rfl rfl rfl rfl ?_
     refine ab rfl rfl ?_
     iterate 2 refine pE rfl ?_
     refine WO.nil (ay rfl rfl rfl)
    refine ab rfl rfl (pE rfl (ab rfl rfl (pE rfl (ab rfl rfl (pE rfl (ab rfl rfl ?_))))))
    iterate 2 refine pE rfl ?_
    refine WO.nil (ay rfl rfl rfl)
   iterate 3 refine ar rfl rfl rfl rfl ?_
   iterate 3 refine b8 rfl rfl rfl ?_
   refine ar rfl rfl rfl rfl (pE rfl (WO.nil (ay rfl rfl rfl)))
  refine qs (ao rfl (fun h65=>?_) (fun h65=>?_))
  ·
   have h65:jG a=true:=by revert h65;simp only[jG,lA,fB,jZ,dT,dS,ql];by_cases q:a.fn=B #[99,111,117,110,116] <;> by_cases q2:a.col=B #[] <;> simp[q,q2] <;> grind
   rw[if_pos h65] at hI
   refine W.seq (W.region (pE rfl (WO.nil (qs (W.ret (ah (au (ah (aZ (au (ah (QF.aq trivial rfl ?_))))))))))))
   rw[←hI];rfl
  have h65:¬ (jG a=true):=by revert h65;simp only[jG,lA,fB,jZ,dT,dS,ql];by_cases q:a.fn=B #[99,111,117,110,116] <;> by_cases q2:a.col=B #[] <;> simp[q,q2] <;> grind
  rw[if_neg h65] at hI
  refine W.skip (qs ?_)
  iterate 2 refine W.seq ?_
  apply aC;(case hb=>rfl)
  ·
   refine pE rfl (pE rfl ?_)
   iterate 2 refine pE rfl ?_
   apply aw;(case hj=>rfl);(case hl=>rfl)
   ·
    refine ab rfl rfl (pE rfl (ab rfl rfl (pE rfl (ab rfl rfl (pu (ak rfl rfl rfl (ll ..) rfl) rfl ?_)))))
    refine ab rfl rfl ?_
    iterate 2 refine pE rfl ?_
    refine WO.nil (ay rfl rfl rfl)
   iterate 4 refine ar rfl rfl rfl rfl ?_
   refine pE rfl (WO.nil (ay rfl rfl rfl))
  refine qs (ao rfl (fun h74=>?_) (fun h74=>?_))
  ·
   have h74:a.col≠B #[]∧cC a.col=false:=by revert h74;by_cases q2:a.col=B #[] <;> simp[q2]
   rw[if_pos h74] at hI
   refine W.seq (W.region (pE rfl (WO.nil (qs (W.ret (ah (au (ah (aZ (au (ah (QF.aq trivial rfl ?_))))))))))))
   rw[←hI];rfl
  have h74:¬ (a.col≠B #[]∧cC a.col=false):=by revert h74;by_cases q2:a.col=B #[] <;> simp[q2]
  rw[if_neg h74] at hI
  refine W.skip (qs (W.seq (W.region ?_)))
  iterate 2 refine pE rfl ?_
  refine pE rfl (pu (aI aa rfl rfl rfl rfl rfl rfl rfl rfl rfl) rfl ?_)
  refine bJ (a:=a.name) aa rfl rfl rfl rfl rfl rfl rfl rfl rfl rfl (fun _=>rfl) (by show(ns.length+1)*16≤_;omega) ?_
  refine pE rfl (WO.nil (qs (W.region (pE rfl (pu (ak rfl rfl rfl (kv (ns++[a.name])) rfl) rfl ?_)))))
  refine pE rfl (WO.nil (aX (qs (W.region ?_))))
  iterate 3 refine pE rfl ?_
  refine WO.nil (W.aU [0,3] ⟨(k+1,ns++[a.name],bR [] (ns++[a.name])),?_⟩ ?_ rfl ?_ trivial ?_ ⟨rfl,rfl,trivial⟩ rfl)
  ·
   refine⟨hlt,?_,rfl,by simp;omega⟩
   simp only[hA]
   exact hI
  · dsimp only;omega
  · repeat' first | exact trivial | refine⟨rfl,?_⟩ | refine⟨aD (by assumption) (by assumption),?_⟩
  repeat' exact trivial
 have h23':k < s.aggs.length→y≠0:=by
  intro hk2 hy
  have hk3:(k:Int) < s.aggs.length:=by omega
  simp[hk3,hy] at h23
 have hR:mw s=y:=by
  rw[←hI]
  by_cases hy:y=0
  ·
   have hk2:¬ k < s.aggs.length:=fun h=>h23' h hy
   rw[if_neg (by simp[hy]),dropEnd (by omega)]
   simp[gN,hy]
  rw[if_pos hy]
 refine W.exit (aN (aQ (aO (qs (W.seq (W.region ?_))))))
 iterate 2 refine pE rfl ?_
 refine WO.nil (qs (W.ret (QF.aq trivial rfl ?_)))
 rw[hR];rfl
def fy (s:dK):Bool:=(decide (s.op=2) && decide (s.items.length=0)) || (decide (s.op=3) && decide (s.cols.length+s.aggs.length=0)) || (decide (s.op=4) && decide (s.sorts.length=0)) || (decide (s.op=6) && decide (s.cols.length=0))
def e9 (s:dK):Int:=if fy s=true then 8 else if 16 < s.items.length∨16 < s.cols.length∨16 < s.aggs.length∨16 < s.sorts.length then 7 else 0
theorem xv (s:dK) (hf:l7 s):ax Tryz.prog 112 [.ag s.c] (.d (.v (.int .i64 (e9 s)))) 0:=by
 obtain⟨hf1,hf2,hf3,hf4⟩:=hf
 refine ax.aT (n:=73) (ts:=[2]) Tryz.func112 (by kernel_rfl) rfl Tryz.ntmps112 Tryz.results112 rfl rfl fun C hC hG=>?_
 refine W.seq (W.region (br rfl rfl rfl (pE rfl (WO.nil (qs (W.seq ?_))))))
 apply aC;(case hb=>rfl)
 ·
  refine pE rfl (pE rfl ?_)
  iterate 2 refine pE rfl ?_
  apply aw;(case hj=>rfl);(case hl=>rfl)
  ·
   refine ab rfl rfl (pE rfl (ab rfl rfl (pE rfl (ab rfl rfl (pE rfl (ab rfl rfl ?_))))))
   iterate 3 refine pE rfl ?_
   apply aw;(case hj=>rfl);(case hl=>rfl)
   ·
    iterate 4 refine ar rfl rfl rfl rfl ?_
    iterate 8 refine b8 rfl rfl rfl ?_
    refine ar rfl rfl rfl rfl ?_
    iterate 2 refine pE rfl ?_
    iterate 4 refine ar rfl rfl rfl rfl ?_
    iterate 4 refine b8 rfl rfl rfl ?_
    refine ar rfl rfl rfl rfl ?_
    iterate 2 refine pE rfl ?_
    iterate 4 refine ar rfl rfl rfl rfl ?_
    iterate 4 refine b8 rfl rfl rfl ?_
    refine ar rfl rfl rfl rfl ?_
    iterate 2 refine pE rfl ?_
    refine WO.nil (ay rfl rfl rfl)
   refine ab rfl rfl (pE rfl (ab rfl rfl (pE rfl (ab rfl rfl (pE rfl (ab rfl rfl (pE rfl ?_)))))))
   apply aw;(case hj=>rfl);(case hl=>rfl)
   ·
    refine ab rfl rfl (pE rfl (ab rfl rfl (pE rfl (ab rfl rfl (pE rfl (ab rfl rfl (pE rfl (ab rfl rfl (pE rfl (ab rfl rfl (pE rfl (ab rfl rfl (pu (bH (ev aa rfl) (y:=((s.cols.length+s.aggs.length:Nat):Int)) (by simp only[List.length_map];rw[wrap64 (by omega)];omega)) rfl ?_)))))))))))))
    refine ab rfl rfl (pE rfl (ab rfl rfl ?_))
    iterate 3 refine pE rfl ?_
    apply aw;(case hj=>rfl);(case hl=>rfl)
    ·
     iterate 4 refine ar rfl rfl rfl rfl ?_
     iterate 4 refine b8 rfl rfl rfl ?_
     refine ar rfl rfl rfl rfl ?_
     iterate 2 refine pE rfl ?_
     iterate 4 refine ar rfl rfl rfl rfl ?_
     iterate 4 refine b8 rfl rfl rfl ?_
     refine ar rfl rfl rfl rfl ?_
     iterate 2 refine pE rfl ?_
     refine WO.nil (ay rfl rfl rfl)
    refine ab rfl rfl (pE rfl (ab rfl rfl (pE rfl (ab rfl rfl (pE rfl (ab rfl rfl (pE rfl ?_)))))))
    apply aw;(case hj=>rfl);(case hl=>rfl)
    ·
     refine ab rfl rfl (pE rfl (ab rfl rfl (pE rfl (ab rfl rfl (pE rfl (ab rfl rfl (pE rfl (ab rfl rfl ?_))))))))
     iterate 3 refine pE rfl ?_
     apply aw;(case hj=>rfl);(case hl=>rfl)
     ·
      iterate 4 refine ar rfl rfl rfl rfl ?_
      iterate 4 refine b8 rfl rfl rfl ?_
      refine ar rfl rfl rfl rfl ?_
      iterate 2 refine pE rfl ?_
      refine WO.nil (ay rfl rfl rfl)
     refine ab rfl rfl (pE rfl (ab rfl rfl (pE rfl (ab rfl rfl (pE rfl (ab rfl rfl (pE rfl ?_)))))))
     apply aw;(case hj=>rfl);(case hl=>rfl)
     ·
      refine ab rfl rfl (pE rfl (ab rfl rfl (pE rfl (ab rfl rfl (pE rfl (ab rfl rfl (pE rfl (ab rfl rfl ?_))))))))
      iterate 3 refine pE rfl ?_
      refine WO.nil (ay rfl rfl rfl)
     iterate 4 refine ar rfl rfl rfl rfl ?_
     refine ab rfl rfl ?_
     iterate 3 refine pE rfl ?_
     refine WO.nil (ay rfl rfl rfl)
    iterate 4 refine ar rfl rfl rfl rfl ?_
    refine ab rfl rfl ?_
    iterate 3 refine pE rfl ?_
    refine ab rfl rfl (pE rfl (ab rfl rfl (pE rfl (ab rfl rfl (pE rfl (ab rfl rfl (pE rfl ?_)))))))
    apply aw;(case hj=>rfl);(case hl=>rfl)
    ·
     refine ab rfl rfl (pE rfl (ab rfl rfl (pE rfl (ab rfl rfl (pE rfl (ab rfl rfl (pE rfl (ab rfl rfl ?_))))))))
     iterate 3 refine pE rfl ?_
     refine WO.nil (ay rfl rfl rfl)
    iterate 4 refine ar rfl rfl rfl rfl ?_
    refine ab rfl rfl ?_
    iterate 3 refine pE rfl ?_
    refine WO.nil (ay rfl rfl rfl)
   iterate 8 refine ar rfl rfl rfl rfl ?_
   refine ab rfl rfl ?_
   iterate 3 refine pE rfl ?_
   refine ab rfl rfl (pE rfl (ab rfl rfl (pE rfl (ab rfl rfl (pE rfl (ab rfl rfl (pE rfl ?_)))))))
   apply aw;(case hj=>rfl);(case hl=>rfl)
   ·
    refine ab rfl rfl (pE rfl (ab rfl rfl (pE rfl (ab rfl rfl (pE rfl (ab rfl rfl (pE rfl (ab rfl rfl ?_))))))))
    iterate 3 refine pE rfl ?_
    apply aw;(case hj=>rfl);(case hl=>rfl)
    ·
     iterate 4 refine ar rfl rfl rfl rfl ?_
     iterate 4 refine b8 rfl rfl rfl ?_
     refine ar rfl rfl rfl rfl ?_
     iterate 2 refine pE rfl ?_
     refine WO.nil (ay rfl rfl rfl)
    refine ab rfl rfl (pE rfl (ab rfl rfl (pE rfl (ab rfl rfl (pE rfl (ab rfl rfl (pE rfl ?_)))))))
    apply aw;(case hj=>rfl);(case hl=>rfl)
    ·
     refine ab rfl rfl (pE rfl (ab rfl rfl (pE rfl (ab rfl rfl (pE rfl (ab rfl rfl (pE rfl (ab rfl rfl ?_))))))))
     iterate 3 refine pE rfl ?_
     refine WO.nil (ay rfl rfl rfl)
    iterate 4 refine ar rfl rfl rfl rfl ?_
    refine ab rfl rfl ?_
    iterate 3 refine pE rfl ?_
    refine WO.nil (ay rfl rfl rfl)
   iterate 4 refine ar rfl rfl rfl rfl ?_
   refine ab rfl rfl ?_
   iterate 3 refine pE rfl ?_
   refine ab rfl rfl (pE rfl (ab rfl rfl (pE rfl (ab rfl rfl (pE rfl (ab rfl rfl (pE rfl ?_)))))))
   apply aw;(case hj=>rfl);(case hl=>rfl)
   ·
    refine ab rfl rfl (pE rfl (ab rfl rfl (pE rfl (ab rfl rfl (pE rfl (ab rfl rfl (pE rfl (ab rfl rfl ?_))))))))
    iterate 3 refine pE rfl ?_
    refine WO.nil (ay rfl rfl rfl)
   iterate 4 refine ar rfl rfl rfl rfl ?_
   refine ab rfl rfl ?_
   iterate 3 refine pE rfl ?_
   refine WO.nil (ay rfl rfl rfl)
  iterate 4 refine ar rfl rfl rfl rfl ?_
  iterate 2 refine pE rfl ?_
  refine ab rfl rfl (pE rfl (ab rfl rfl (pE rfl (ab rfl rfl (pE rfl (ab rfl rfl (pE rfl ?_)))))))
  apply aw;(case hj=>rfl);(case hl=>rfl)
  ·
   refine ab rfl rfl (pE rfl (ab rfl rfl (pE rfl (ab rfl rfl (pE rfl (ab rfl rfl (pE rfl (ab rfl rfl (pE rfl (ab rfl rfl (pE rfl (ab rfl rfl (pu (bH (ev aa rfl) (y:=((s.cols.length+s.aggs.length:Nat):Int)) (by simp only[List.length_map];rw[wrap64 (by omega)];omega)) rfl ?_)))))))))))))
   refine ab rfl rfl (pE rfl (ab rfl rfl ?_))
   iterate 3 refine pE rfl ?_
   apply aw;(case hj=>rfl);(case hl=>rfl)
   ·
    iterate 4 refine ar rfl rfl rfl rfl ?_
    iterate 4 refine b8 rfl rfl rfl ?_
    refine ar rfl rfl rfl rfl ?_
    iterate 2 refine pE rfl ?_
    iterate 4 refine ar rfl rfl rfl rfl ?_
    iterate 4 refine b8 rfl rfl rfl ?_
    refine ar rfl rfl rfl rfl ?_
    iterate 2 refine pE rfl ?_
    refine WO.nil (ay rfl rfl rfl)
   refine ab rfl rfl (pE rfl (ab rfl rfl (pE rfl (ab rfl rfl (pE rfl (ab rfl rfl (pE rfl ?_)))))))
   apply aw;(case hj=>rfl);(case hl=>rfl)
   ·
    refine ab rfl rfl (pE rfl (ab rfl rfl (pE rfl (ab rfl rfl (pE rfl (ab rfl rfl (pE rfl (ab rfl rfl ?_))))))))
    iterate 3 refine pE rfl ?_
    apply aw;(case hj=>rfl);(case hl=>rfl)
    ·
     iterate 4 refine ar rfl rfl rfl rfl ?_
     iterate 4 refine b8 rfl rfl rfl ?_
     refine ar rfl rfl rfl rfl ?_
     iterate 2 refine pE rfl ?_
     refine WO.nil (ay rfl rfl rfl)
    refine ab rfl rfl (pE rfl (ab rfl rfl (pE rfl (ab rfl rfl (pE rfl (ab rfl rfl (pE rfl ?_)))))))
    apply aw;(case hj=>rfl);(case hl=>rfl)
    ·
     refine ab rfl rfl (pE rfl (ab rfl rfl (pE rfl (ab rfl rfl (pE rfl (ab rfl rfl (pE rfl (ab rfl rfl ?_))))))))
     iterate 3 refine pE rfl ?_
     refine WO.nil (ay rfl rfl rfl)
    iterate 4 refine ar rfl rfl rfl rfl ?_
    refine ab rfl rfl ?_
    iterate 3 refine pE rfl ?_
    refine WO.nil (ay rfl rfl rfl)
   iterate 4 refine ar rfl rfl rfl rfl ?_
   refine ab rfl rfl ?_
   iterate 3 refine pE rfl ?_
   refine ab rfl rfl (pE rfl (ab rfl rfl (pE rfl (ab rfl rfl (pE rfl (ab rfl rfl (pE rfl ?_)))))))
   apply aw;(case hj=>rfl);(case hl=>rfl)
   ·
    refine ab rfl rfl (pE rfl (ab rfl rfl (pE rfl (ab rfl rfl (pE rfl (ab rfl rfl (pE rfl (ab rfl rfl ?_))))))))
    iterate 3 refine pE rfl ?_
    refine WO.nil (ay rfl rfl rfl)
   iterate 4 refine ar rfl rfl rfl rfl ?_
   refine ab rfl rfl ?_
   iterate 3 refine pE rfl ?_
   refine WO.nil (ay rfl rfl rfl)
  iterate 8 refine ar rfl rfl rfl rfl ?_
  refine ab rfl rfl ?_
  iterate 3 refine pE rfl ?_
  refine ab rfl rfl (pE rfl (ab rfl rfl (pE rfl (ab rfl rfl (pE rfl (ab rfl rfl (pE rfl ?_)))))))
  apply aw;(case hj=>rfl);(case hl=>rfl)
  ·
   refine ab rfl rfl (pE rfl (ab rfl rfl (pE rfl (ab rfl rfl (pE rfl (ab rfl rfl (pE rfl (ab rfl rfl ?_))))))))
   iterate 3 refine pE rfl ?_
   apply aw;(case hj=>rfl);(case hl=>rfl)
   ·
    iterate 4 refine ar rfl rfl rfl rfl ?_
    iterate 4 refine b8 rfl rfl rfl ?_
    refine ar rfl rfl rfl rfl ?_
    iterate 2 refine pE rfl ?_
    refine WO.nil (ay rfl rfl rfl)
   refine ab rfl rfl (pE rfl (ab rfl rfl (pE rfl (ab rfl rfl (pE rfl (ab rfl rfl (pE rfl ?_)))))))
   apply aw;(case hj=>rfl);(case hl=>rfl)
   ·
    refine ab rfl rfl (pE rfl (ab rfl rfl (pE rfl (ab rfl rfl (pE rfl (ab rfl rfl (pE rfl (ab rfl rfl ?_))))))))
    iterate 3 refine pE rfl ?_
    refine WO.nil (ay rfl rfl rfl)
   iterate 4 refine ar rfl rfl rfl rfl ?_
   refine ab rfl rfl ?_
   iterate 3 refine pE rfl ?_
   refine WO.nil (ay rfl rfl rfl)
  iterate 4 refine ar rfl rfl rfl rfl ?_
  refine ab rfl rfl ?_
  iterate 3 refine pE rfl ?_
  refine ab rfl rfl (pE rfl (ab rfl rfl (pE rfl (ab rfl rfl (pE rfl (ab rfl rfl (pE rfl ?_)))))))
  apply aw;(case hj=>rfl);(case hl=>rfl)
  ·
   refine ab rfl rfl (pE rfl (ab rfl rfl (pE rfl (ab rfl rfl (pE rfl (ab rfl rfl (pE rfl (ab rfl rfl ?_))))))))
   iterate 3 refine pE rfl ?_
   refine WO.nil (ay rfl rfl rfl)
  iterate 4 refine ar rfl rfl rfl rfl ?_
  refine ab rfl rfl ?_
  iterate 3 refine pE rfl ?_
  refine WO.nil (ay rfl rfl rfl)
 refine qs ?_
 iterate 2 refine W.seq ?_
 refine W.region (pE rfl (WO.nil (qs (ao rfl (fun h50=>?_) (fun h50=>?_)))))
 ·
  have h50:fy s=true:=by revert h50;simp only[fy,List.length_map];grind
  refine W.seq (W.region (pE rfl (WO.nil (qs (W.ret (ah (QF.aq trivial rfl ?_)))))))
  simp only[norm,az];unfold e9;rw[if_pos h50]
 have h50:¬ (fy s=true):=by revert h50;simp only[fy,List.length_map];grind
 refine W.skip (qs ?_)
 iterate 2 refine W.seq ?_
 apply aC;(case hb=>rfl)
 ·
  refine pE rfl (pE rfl ?_)
  iterate 3 refine pE rfl ?_
  apply aw;(case hj=>rfl);(case hl=>rfl)
  ·
   iterate 4 refine ar rfl rfl rfl rfl ?_
   iterate 2 refine pE rfl ?_
   iterate 4 refine ar rfl rfl rfl rfl ?_
   iterate 2 refine pE rfl ?_
   iterate 4 refine ar rfl rfl rfl rfl ?_
   refine pE rfl (WO.nil (ay rfl rfl rfl))
  refine ab rfl rfl (pE rfl (ab rfl rfl (pE rfl (ab rfl rfl (pE rfl (ab rfl rfl ?_))))))
  iterate 3 refine pE rfl ?_
  apply aw;(case hj=>rfl);(case hl=>rfl)
  ·
   iterate 4 refine ar rfl rfl rfl rfl ?_
   iterate 2 refine pE rfl ?_
   iterate 4 refine ar rfl rfl rfl rfl ?_
   refine pE rfl (WO.nil (ay rfl rfl rfl))
  refine ab rfl rfl (pE rfl (ab rfl rfl (pE rfl (ab rfl rfl (pE rfl (ab rfl rfl ?_))))))
  iterate 3 refine pE rfl ?_
  apply aw;(case hj=>rfl);(case hl=>rfl)
  ·
   iterate 4 refine ar rfl rfl rfl rfl ?_
   refine pE rfl (WO.nil (ay rfl rfl rfl))
  refine ab rfl rfl (pE rfl (ab rfl rfl (pE rfl (ab rfl rfl (pE rfl (ab rfl rfl ?_))))))
  iterate 2 refine pE rfl ?_
  refine WO.nil (ay rfl rfl rfl)
 refine qs (ao rfl (fun h72=>?_) (fun h72=>?_))
 ·
  refine W.seq (W.region (pE rfl (WO.nil (qs (W.ret (ah (QF.aq trivial rfl ?_)))))))
  simp only[norm,az];unfold e9;rw[if_neg h50,if_pos (by revert h72;simp only[List.length_map];grind)]
 refine W.skip (qs (W.seq (W.region (pE rfl (WO.nil (qs (W.ret (QF.aq trivial rfl ?_))))))))
 simp only[norm,az];unfold e9;rw[if_neg h50,if_neg (by revert h72;simp only[List.length_map];grind)]
def qD (s:dK):Int:=
 if eB s=false then 1 else if (bK s.op && !cC s.table)=true then 3 else if e9 s≠0 then e9 s
 else if s.op=1 then dh s.cond else if s.op=2 then dW [] s.items else if s.op=3 then mw s else if s.op=4 then bR [] (s.sorts.map ly.col)
 else if s.op=5 then (if s.n < 0∨20000 < s.n then 2 else 0) else bR [] s.cols
theorem xI (s:dK):qD s=bZ s:=by
 unfold qD bZ
 by_cases hu:eB s=false
 · rw[if_pos hu,if_pos hu]
 rw[if_neg hu,if_neg hu]
 have hu:eB s=true:=by simpa using hu
 simp only[eB,Bool.and_eq_true,Bool.not_eq_true',Bool.or_eq_true,Bool.or_eq_false_iff,Bool.and_eq_false_iff,decide_eq_true_eq,decide_eq_false_iff_not] at hu
 obtain⟨⟨⟨⟨⟨⟨⟨⟨h0,h0'⟩,h1⟩,h2⟩,h3⟩,h4⟩,h5⟩,h6⟩,h7⟩:=hu
 have hop:s.op=1∨s.op=2∨s.op=3∨s.op=4∨s.op=5∨s.op=6∨s.op=7∨s.op=8∨s.op=9:=by omega
 have hil:s.op≠2→s.items.length=0:=fun h=>by rcases h2 with h2 | h2 <;> simp_all
 have hal:s.op≠3→s.aggs.length=0:=fun h=>by rcases h3 with h3 | h3 <;> simp_all
 have hsl:s.op≠4→s.sorts.length=0:=fun h=>by rcases h4 with h4 | h4 <;> simp_all
 have hcl:s.op≠3→bK s.op=false→s.op≠9→s.cols.length=0:=fun a b c=>by
  rcases h7 with ((h7 | h7) | h7) | h7
  · exact absurd h7 a
  · rw[b] at h7;cases h7
  · exact absurd h7 c
  exact h7
 rcases hop with h | h | h | h | h | h | h | h | h
 ·
  have a1:=hil (by omega);have a2:=hal (by omega);have a3:=hsl (by omega);have a4:=hcl (by omega) (by simp[bK,h]) (by omega)
  simp[bK,h,e9,fy,a1,a2,a3,a4]
 ·
  have a2:=hal (by omega);have a3:=hsl (by omega);have a4:=hcl (by omega) (by simp[bK,h]) (by omega)
  simp only[bK,h,e9,fy,a2,a3,a4,du]
  by_cases q:s.items.length=0 <;> by_cases q2:16 < s.items.length <;> simp[q,q2] <;> omega
 ·
  have a1:=hil (by omega);have a3:=hsl (by omega)
  simp only[bK,h,e9,fy,a1,a3,iW,mw]
  by_cases q:s.cols.length+s.aggs.length=0 <;> by_cases q2:16 < s.cols.length <;> by_cases q3:16 < s.aggs.length <;> simp[q,q2,q3] <;> first | omega | (by_cases q4:s.cols=[]∧s.aggs=[] <;> simp[q4])
 ·
  have a1:=hil (by omega);have a2:=hal (by omega);have a4:=hcl (by omega) (by simp[bK,h]) (by omega)
  simp only[bK,h,e9,fy,a1,a2,a4,cU,du,List.length_map]
  by_cases q:s.sorts.length=0 <;> by_cases q2:16 < s.sorts.length <;> simp[q,q2] <;> omega
 ·
  have a1:=hil (by omega);have a2:=hal (by omega);have a3:=hsl (by omega);have a4:=hcl (by omega) (by simp[bK,h]) (by omega)
  simp[bK,h,e9,fy,a1,a2,a3,a4]
 ·
  have a1:=hil (by omega);have a2:=hal (by omega);have a3:=hsl (by omega)
  simp only[bK,h,e9,fy,a1,a2,a3,cU,du]
  cases cC s.table <;> by_cases q:s.cols.length=0 <;> by_cases q2:16 < s.cols.length <;> simp[q,q2] <;> omega
 ·
  have a1:=hil (by omega);have a2:=hal (by omega);have a3:=hsl (by omega)
  simp only[bK,h,e9,fy,a1,a2,a3,cU,du]
  cases cC s.table <;> by_cases q2:16 < s.cols.length <;> simp[q2] <;> omega
 ·
  have a1:=hil (by omega);have a2:=hal (by omega);have a3:=hsl (by omega)
  simp only[bK,h,e9,fy,a1,a2,a3,cU,du]
  cases cC s.table <;> by_cases q2:16 < s.cols.length <;> simp[q2] <;> omega
 have a1:=hil (by omega);have a2:=hal (by omega);have a3:=hsl (by omega)
 simp only[bK,h,e9,fy,a1,a2,a3,cU,du]
 by_cases q2:16 < s.cols.length <;> simp[q2] <;> omega
theorem xN (s:dK) (hf:l7 s):ax Tryz.prog 75 [.ag s.c] (.d (.v (.int .i64 (bZ s)))) 0:=by
 rw[←xI]
 have hg:qD s=qD s:=rfl
 conv at hg=>rhs;unfold qD
 refine ax.aT (n:=78) (ts:=[2]) Tryz.func75 (by kernel_rfl) rfl Tryz.ntmps75 Tryz.results75 rfl rfl fun C hC hG=>?_
 refine W.seq (W.region (br rfl rfl rfl (pE rfl (WO.nil (qs ?_)))))
 iterate 2 refine W.seq ?_
 apply aC;(case hb=>rfl)
 ·
  refine pE rfl (pE rfl ?_)
  iterate 2 refine pE rfl ?_
  apply aw;(case hj=>rfl);(case hl=>rfl)
  ·
   iterate 3 refine ar rfl rfl rfl rfl ?_
   iterate 2 refine pE rfl ?_
   iterate 3 refine ar rfl rfl rfl rfl ?_
   refine pE rfl (WO.nil (ay rfl rfl rfl))
  refine ab rfl rfl (pE rfl (ab rfl rfl (pE rfl (ab rfl rfl ?_))))
  iterate 3 refine pE rfl ?_
  apply aw;(case hj=>rfl);(case hl=>rfl)
  ·
   iterate 3 refine ar rfl rfl rfl rfl ?_
   refine pE rfl (WO.nil (ay rfl rfl rfl))
  refine ab rfl rfl (pE rfl (ab rfl rfl (pu (ak rfl rfl rfl (vP s) rfl) rfl ?_)))
  refine ab rfl rfl ?_
  iterate 2 refine pE rfl ?_
  refine WO.nil (ay rfl rfl rfl)
 refine qs (ao rfl (fun h17=>?_) (fun h17=>?_))
 ·
  have h17:eB s=false:=by rw[pX];revert h17;by_cases q:s.op < 1 <;> by_cases q2:9 < s.op <;> cases jd s <;> simp[q,q2]
  rw[if_pos h17] at hg
  refine W.seq (W.region (pE rfl (WO.nil (qs (W.ret (ah (QF.aq trivial rfl ?_)))))))
  rw[hg];rfl
 have h17:¬ (eB s=false):=by rw[pX];revert h17;by_cases q:s.op < 1 <;> by_cases q2:9 < s.op <;> cases jd s <;> simp[q,q2]
 rw[if_neg h17] at hg
 refine W.skip (qs (W.seq ?_))
 apply aC;(case hb=>rfl)
 ·
  refine pE rfl (pE rfl ?_)
  iterate 2 refine pE rfl ?_
  apply aw;(case hj=>rfl);(case hl=>rfl)
  ·
   iterate 3 refine ar rfl rfl rfl rfl ?_
   iterate 2 refine pE rfl ?_
   iterate 3 refine ar rfl rfl rfl rfl ?_
   iterate 2 refine pE rfl ?_
   refine WO.nil (ay rfl rfl rfl)
  refine ab rfl rfl (pE rfl (ab rfl rfl (pE rfl (ab rfl rfl ?_))))
  iterate 3 refine pE rfl ?_
  apply aw;(case hj=>rfl);(case hl=>rfl)
  ·
   iterate 3 refine ar rfl rfl rfl rfl ?_
   iterate 2 refine pE rfl ?_
   refine WO.nil (ay rfl rfl rfl)
  refine ab rfl rfl (pE rfl (ab rfl rfl (pE rfl (ab rfl rfl ?_))))
  iterate 3 refine pE rfl ?_
  refine WO.nil (ay rfl rfl rfl)
 refine qs ?_
 iterate 2 refine W.seq ?_
 apply aC;(case hb=>rfl)
 ·
  iterate 2 refine pE rfl ?_
  apply aw;(case hj=>rfl);(case hl=>rfl)
  ·
   refine ab rfl rfl (pE rfl (ab rfl rfl (pE rfl (ab rfl rfl (pu (ak rfl rfl rfl (ll ..) rfl) rfl ?_)))))
   refine ab rfl rfl ?_
   iterate 2 refine pE rfl ?_
   refine WO.nil (ay rfl rfl rfl)
  iterate 4 refine ar rfl rfl rfl rfl ?_
  refine pE rfl (WO.nil (ay rfl rfl rfl))
 refine qs (ao rfl (fun h37=>?_) (fun h37=>?_))
 ·
  have h37:(bK s.op && !cC s.table)=true:=by revert h37;simp only[bK];by_cases q:s.op=6 <;> by_cases q2:s.op=7 <;> by_cases q3:s.op=8 <;> cases cC s.table <;> simp[q,q2,q3]
  rw[if_pos h37] at hg
  refine W.seq (W.region (pE rfl (WO.nil (qs (W.ret (ah (QF.aq trivial rfl ?_)))))))
  rw[hg];rfl
 have h37:¬ ((bK s.op && !cC s.table)=true):=by revert h37;simp only[bK];by_cases q:s.op=6 <;> by_cases q2:s.op=7 <;> by_cases q3:s.op=8 <;> cases cC s.table <;> simp[q,q2,q3]
 rw[if_neg h37] at hg
 refine W.skip (qs (W.seq (W.region (pE rfl (pu (ak rfl rfl rfl (xv s hf) rfl) rfl ?_)))))
 refine pE rfl (WO.nil (qs ?_))
 iterate 2 refine W.seq ?_
 refine W.region ?_
 iterate 2 refine pE rfl ?_
 refine WO.nil (qs (ao rfl (fun h41=>?_) (fun h41=>?_)))
 ·
  rw[if_pos (by simpa using h41)] at hg
  refine W.seq (W.region ?_)
  iterate 2 refine pE rfl ?_
  refine WO.nil (qs (W.ret (ah (QF.aq trivial rfl ?_))))
  rw[hg];rfl
 rw[if_neg (by simpa using h41)] at hg
 refine W.skip (qs ?_)
 iterate 2 refine W.seq ?_
 refine W.region (pE rfl (pE rfl (WO.nil (qs (W.block (W.seq (W.region ?_)))))))
 iterate 2 refine pE rfl ?_
 refine WO.nil (qs (ao rfl (fun h45=>?_) (fun h45=>?_)))
 ·
  rw[if_pos (by simpa using h45)] at hg
  refine W.seq (W.region (pE rfl (pE rfl (pu (ak rfl rfl rfl (pz s.cond) rfl) rfl ?_))))
  refine pE rfl (WO.nil (qs (W.ret (au (ah (QF.aq trivial rfl ?_))))))
  rw[hg];rfl
 rw[if_neg (by simpa using h45)] at hg
 refine W.seq (W.region ?_)
 iterate 2 refine pE rfl ?_
 refine WO.nil (qs (ao rfl (fun h50=>?_) (fun h50=>?_)))
 ·
  rw[if_pos (by simpa using h50)] at hg
  refine W.seq (W.region (pE rfl (pE rfl (pu (ak rfl rfl rfl (ui s.items (by have:=hf.1;omega)) rfl) rfl ?_))))
  refine pE rfl (WO.nil (qs (W.ret (au (ah (QF.aq trivial rfl ?_))))))
  rw[hg];rfl
 rw[if_neg (by simpa using h50)] at hg
 refine W.seq (W.region ?_)
 iterate 2 refine pE rfl ?_
 refine WO.nil (qs (ao rfl (fun h55=>?_) (fun h55=>?_)))
 ·
  rw[if_pos (by simpa using h55)] at hg
  refine W.seq (W.region (pE rfl (pu (ak rfl rfl rfl (wc s hf) rfl) rfl ?_)))
  refine pE rfl (WO.nil (qs (W.ret (au (ah (QF.aq trivial rfl ?_))))))
  rw[hg];rfl
 rw[if_neg (by simpa using h55)] at hg
 refine W.seq (W.region ?_)
 iterate 2 refine pE rfl ?_
 refine WO.nil (qs (ao rfl (fun h59=>?_) (fun h59=>?_)))
 ·
  rw[if_pos (by simpa using h59)] at hg
  refine W.seq (W.region (pE rfl (pE rfl (pu (ak rfl rfl rfl (w4 s.sorts (by have:=hf.2.2.2;omega)) rfl) rfl ?_))))
  refine pu (ak rfl rfl rfl (kv (s.sorts.map ly.col)) rfl) rfl ?_
  refine pE rfl (WO.nil (qs (W.ret (au (ah (QF.aq trivial rfl ?_))))))
  rw[hg];rfl
 rw[if_neg (by simpa using h59)] at hg
 refine W.seq (W.region ?_)
 iterate 2 refine pE rfl ?_
 refine WO.nil (qs (ao rfl (fun h65=>?_) (fun h65=>?_)))
 ·
  rw[if_pos (by simpa using h65)] at hg
  iterate 2 refine W.seq ?_
  apply aC;(case hb=>rfl)
  ·
   refine pE rfl (pE rfl ?_)
   iterate 2 refine pE rfl ?_
   apply aw;(case hj=>rfl);(case hl=>rfl)
   ·
    iterate 3 refine ar rfl rfl rfl rfl ?_
    refine pE rfl (WO.nil (ay rfl rfl rfl))
   refine ab rfl rfl (pE rfl (ab rfl rfl (pE rfl (ab rfl rfl ?_))))
   iterate 2 refine pE rfl ?_
   refine WO.nil (ay rfl rfl rfl)
  refine qs (ao rfl (fun h74=>?_) (fun h74=>?_))
  ·
   rw[if_pos (by revert h74;grind)] at hg
   refine W.seq (W.region (pE rfl (WO.nil (qs (W.ret (ah (au (ah (QF.aq trivial rfl ?_)))))))))
   rw[hg];rfl
  rw[if_neg (by revert h74;grind)] at hg
  refine W.skip (qs (W.seq (W.region (pE rfl (WO.nil (qs (W.ret (au (ah (QF.aq trivial rfl ?_))))))))))
  rw[hg];rfl
 rw[if_neg (by simpa using h65)] at hg
 refine W.skip (aX (qs (W.seq (W.region (pE rfl (pE rfl (pu (ak rfl rfl rfl (kv s.cols) rfl) rfl ?_)))))))
 refine pE rfl (WO.nil (qs (W.ret (QF.aq trivial rfl ?_))))
 rw[hg];rfl
end Go.Proofs.YtjenenllmjlimaaGreat
namespace Go.Proofs.YtjenenllmjlimaaGreat
open Go.Ab Go.Tb
set_option maxRecDepth 10000
attribute [local irreducible] W WO Pu QS QB QL QF QV b7 CH QE
theorem mz (l:List ByteArray) (s:ByteArray):ax Tryz.prog 120 [.d (.sl (l.map sc)),.d (.v (.string s))] (.d (.v (.bool (l.any fun x=>decide (s=x))))) 0:=by
 refine ax.aT (n:=18) (ts:=[4]) Tryz.func120 (by kernel_rfl) rfl Tryz.ntmps120 Tryz.results120 rfl rfl fun C hC hG=>?_
 refine W.seq (W.region (pE rfl (WO.nil (qs ?_))))
 iterate 2 refine W.seq ?_
 refine W.region (pE rfl (WO.nil (qs (W.block (W.len (t:=0) rfl rfl (fun hlen=>?_))))))
 try simp only[List.length_map,Ex.aF] at hlen
 refine W.aS (ι:={x:Nat // match x with | k=>k≤l.length∧(l.drop k).any (fun x=>decide (s=x))=l.any (fun x=>decide (s=x))})
  (fun x=>match x.1 with | k=>[(5,.d (.v (.int .i64 ((k:Nat):Int))))]) [(0,_),(1,_)]
  (fun x=>match x.1 with | k=>[]) [] [] 0 (fun x=>match x.1 with | k=>l.length - k)
  [] ⟨0,?_⟩ rfl ?_ ⟨rfl,rfl,rfl,rfl,trivial⟩ ?_ trivial rfl ?_
 · exact⟨Nat.zero_le _,rfl⟩
 · repeat' first | exact trivial | refine⟨rfl,?_⟩
 · repeat' exact trivial
 rintro⟨k,hk,hI⟩
 show W _ _ _ _ _ ⟨[(5,.d (.v (.int .i64 ((k:Nat):Int)))),(0,_),(1,_)],[],[],0⟩
 iterate 2 refine W.seq ?_
 refine W.region ?_
 iterate 4 refine pE rfl ?_
 refine WO.nil (qs (a9 (l:=l) (k:=k) rfl (by simp[Ex.aF,aL]) hk (fun x hx hd hlt=>?_) (fun he hd=>?_)))
 ·
  rw[hd,List.any_cons] at hI
  refine W.skip (qs (W.seq (W.block (W.seq (W.region ?_)))))
  iterate 2 refine pE rfl ?_
  refine pu (indexAddr aa rfl rfl rfl rfl rfl rfl (Int.natCast_nonneg _) (aE hx) rfl) rfl ?_
  refine pE rfl ?_
  iterate 2 refine pE rfl ?_
  refine WO.nil (qs (ao rfl (fun h17=>?_) (fun h17=>?_)))
  ·
   have h17:decide (s=x)=true:=by simp at h17 ⊢;exact h17.symm
   rw[h17,Bool.true_or] at hI
   refine W.seq (W.region (pE rfl (WO.nil (qs (W.ret (au (ah (aZ (au (ah (QF.aq trivial rfl ?_)))))))))))
   rw[←hI];rfl
  have h17:decide (s=x)=false:=by simp at h17 ⊢;exact fun h=>h17 h.symm
  rw[h17,Bool.false_or] at hI
  refine W.skip (aX (qs (W.region ?_)))
  iterate 3 refine pE rfl ?_
  refine WO.nil (W.aU [] ⟨k+1,?_⟩ ?_ rfl ?_ ⟨rfl,rfl,rfl,rfl,trivial⟩ ?_ trivial rfl)
  · exact⟨hlt,hI⟩
  · dsimp only;omega
  · repeat' first | exact trivial | refine⟨aD (by assumption) (by assumption),?_⟩
  repeat' exact trivial
 rw[hd,List.any_nil] at hI
 refine W.exit (aN (aQ (aO (qs (W.seq (W.region (pE rfl (WO.nil (qs (W.ret (QF.aq trivial rfl ?_)))))))))))
 rw[←hI];rfl
theorem jL (cols:List Col) (name:ByteArray):ax Tryz.prog 121 [.d (.sl (cols.map Col.c)),.d (.v (.string name))] (.d (.v (.int .i64 (cn cols name)))) 0:=by
 refine ax.aT (n:=17) (ts:=[4]) Tryz.func121 (by kernel_rfl) rfl Tryz.ntmps121 Tryz.results121 rfl rfl fun C hC hG=>?_
 refine W.seq (W.region (pE rfl (WO.nil (qs (W.seq (W.region ?_))))))
 iterate 2 refine pE rfl ?_
 refine pu (ak rfl rfl rfl (gM ..) rfl) rfl ?_
 refine pE rfl (WO.nil (qs ?_))
 iterate 2 refine W.seq ?_
 refine W.region ?_
 iterate 2 refine pE rfl ?_
 refine WO.nil (qs (ao rfl (fun h10=>?_) (fun h10=>?_)))
 ·
  have h5:aY cols name=none:=ee (of_decide_eq_true h10)
  refine W.seq (W.region (pE rfl (WO.nil (qs (W.ret (ah (QF.aq trivial rfl ?_)))))))
  simp only[norm,az,cn,h5] <;> simp_all
 obtain⟨i,c,h3,h4,h5,h6⟩:=ek (of_decide_eq_false h10)
 have h5:aY cols name=some c:=h5
 refine W.skip (qs ?_)
 iterate 2 refine W.seq ?_
 refine W.region ?_
 iterate 2 refine pE rfl ?_
 refine pu (indexAddr aa rfl rfl rfl rfl rfl rfl (i:=idx _) (by rw[h3];exact Int.natCast_nonneg _) (by rw[h3];exact aE h4) rfl) rfl ?_
 refine pE rfl (pE rfl (pE rfl (WO.nil (qs (ao rfl (fun h16=>?_) (fun h16=>?_))))))
 ·
  refine W.seq (W.region (pE rfl (WO.nil (qs (W.ret (ah (QF.aq trivial rfl ?_)))))))
  simp only[norm,az,cn,h5] <;> simp_all
 refine W.skip (qs (W.seq (W.region (pE rfl (WO.nil (qs (W.ret (QF.aq trivial rfl ?_))))))))
 simp only[norm,az,cn,h5] <;> simp_all
theorem s8 (cols:List Col) (names:List ByteArray) (h:names.length≤100000):ax Tryz.prog 119 [.d (.sl (cols.map Col.c)),.d (.sl (names.map sc))]
  (.tup [.own 0 ((bA cols [] names).1.map Col.c),.d (.v (.int .i64 (bA cols [] names).2))]) 1:=by
 refine ax.aT (n:=31) (ts:=[4,5]) Tryz.func119 (by kernel_rfl) rfl Tryz.ntmps119 Tryz.results119 rfl rfl fun C hC hG=>?_
 refine W.seq (W.region ?_)
 iterate 2 refine pE rfl ?_
 refine WO.nil (qs (W.seq (W.region (pE rfl (WO.nil (qs ?_))))))
 iterate 2 refine W.seq ?_
 refine W.region (pE rfl (WO.nil (qs (W.block (aG (d:=6) rfl rfl ?_)))))
 refine W.len (t:=1) rfl rfl (fun hlen=>?_)
 try simp only[List.length_map,Ex.aF] at hlen
 refine W.aS (ι:={x:Nat×List Col // match x with | (k,out)=>k≤names.length∧bA cols out (names.drop k)=bA cols [] names∧out.length=k})
  (fun x=>match x.1 with | (k,out)=>[(6,.own 0 (out.map Col.c)),(7,.d (.v (.int .i64 ((k:Nat):Int))))]) [(0,_),(1,_)]
  (fun x=>match x.1 with | (k,out)=>[]) [] [0] 1 (fun x=>match x.1 with | (k,out)=>names.length - k)
  [0] ⟨(0,[]),?_⟩ rfl ?_ ⟨rfl,rfl,rfl,rfl,trivial⟩ ?_ trivial rfl ?_
 · exact⟨Nat.zero_le _,rfl,rfl⟩
 · repeat' first | exact trivial | refine⟨rfl,?_⟩
 · repeat' exact trivial
 rintro⟨⟨k,out⟩,hk,hI,hL⟩
 show W _ _ _ _ _ ⟨[(6,.own 0 (out.map Col.c)),(7,.d (.v (.int .i64 ((k:Nat):Int)))),(0,_),(1,_)],[],[0],1⟩
 iterate 2 refine W.seq ?_
 refine W.region ?_
 iterate 4 refine pE rfl ?_
 refine WO.nil (qs (a9 (l:=names) (k:=k) rfl (by simp[Ex.aF,aL]) hk (fun x hx hd hlt=>?_) (fun he hd=>?_)))
 ·
  rw[hd] at hI
  simp only[bA] at hI
  refine W.skip (qs (W.seq (W.block (W.seq (W.region ?_)))))
  iterate 3 refine pE rfl ?_
  refine pu (indexAddr aa rfl rfl rfl rfl rfl rfl (Int.natCast_nonneg _) (aE hx) rfl) rfl ?_
  refine pE rfl (pu (ak rfl rfl rfl (gM cols x) rfl) rfl ?_)
  refine pE rfl (WO.nil (qs ?_))
  iterate 2 refine W.seq ?_
  refine W.region ?_
  iterate 2 refine pE rfl ?_
  refine WO.nil (qs (ao rfl (fun h22=>?_) (fun h22=>?_)))
  ·
   have h5:aY cols x=none:=ee (of_decide_eq_true h22)
   rw[h5] at hI
   refine W.seq (W.region ?_)
   iterate 2 refine pE rfl ?_
   refine WO.nil (qs ?_)
   try refine aG (d:=4) rfl rfl ?_
   refine W.ret (ah (au (ah (aZ (au (ah (QF.lr 1 trivial rfl (by simp) ?_)))))))
   rw[←hI];rfl
  obtain⟨i,c,h3,h4,h5,h6⟩:=ek (of_decide_eq_false h22)
  have h5:aY cols x=some c:=h5
  rw[h5] at hI
  refine W.skip (qs (W.region ?_))
  iterate 3 refine pE rfl ?_
  refine pu (indexAddr aa rfl rfl rfl rfl rfl rfl (i:=idx _) (by rw[h3];exact Int.natCast_nonneg _) (by rw[h3];exact aE h4) rfl) rfl ?_
  refine pE rfl (pu (aI aa rfl rfl rfl rfl rfl rfl rfl rfl rfl) rfl ?_)
  refine bJ (fn:=Col.c) (a:=c) aa rfl rfl rfl rfl rfl rfl rfl rfl rfl rfl (fun _=>rfl) (by show(out.length+1)*24≤_;omega) ?_
  refine pE rfl (WO.nil (aX (qs (W.region ?_))))
  iterate 3 refine pE rfl ?_
  refine WO.nil (W.aU [1] ⟨(k+1,out++[c]),?_⟩ ?_ rfl ?_ ⟨rfl,rfl,rfl,rfl,trivial⟩ ?_ trivial rfl)
  · exact⟨hlt,hI,by simp[hL]⟩
  · dsimp only;omega
  · repeat' first | exact trivial | refine⟨rfl,?_⟩ | refine⟨aD (by assumption) (by assumption),?_⟩
  repeat' exact trivial
 rw[hd] at hI
 simp only[bA] at hI
 refine W.exit (aN (aQ (aO (qs (W.seq (W.region ?_))))))
 iterate 3 refine pE rfl ?_
 refine WO.nil (qs ?_)
 try refine aG (d:=4) rfl rfl ?_
 refine W.ret (QF.lr 0 trivial rfl (by simp) ?_)
 rw[←hI];rfl
theorem zD (cols:List Col) (l:List kE) (h:l.length≤100000) (hv:∀ x∈l,dh x.e=0):ax Tryz.prog 78 [.d (.sl (cols.map Col.c)),.d (.sl (l.map kE.c))]
  (.tup [.d (.sl ((jF cols [] l).1.map Col.c)),.d (.v (.int .i64 (jF cols [] l).2))]) 0:=by
 refine ax.aT (n:=46) (ts:=[4,5]) Tryz.func78 (by kernel_rfl) rfl Tryz.ntmps78 Tryz.results78 rfl rfl fun C hC hG=>?_
 refine W.seq (W.region ?_)
 iterate 2 refine pE rfl ?_
 refine WO.nil (qs (W.seq (W.region (pE rfl (WO.nil (qs ?_))))))
 iterate 2 refine W.seq ?_
 refine W.region (pE rfl (WO.nil (qs (W.block (aG (d:=6) rfl rfl ?_)))))
 refine W.len (t:=1) rfl rfl (fun hlen=>?_)
 try simp only[List.length_map,Ex.aF] at hlen
 refine W.aS (ι:={x:Nat×List Col // match x with | (k,out)=>k≤l.length∧jF cols out (l.drop k)=jF cols [] l∧out.length=k})
  (fun x=>match x.1 with | (k,out)=>[(6,.own 0 (out.map Col.c)),(7,.d (.v (.int .i64 ((k:Nat):Int))))]) [(0,_),(1,_)]
  (fun x=>match x.1 with | (k,out)=>[]) [] [0] 1 (fun x=>match x.1 with | (k,out)=>l.length - k)
  [0] ⟨(0,[]),?_⟩ rfl ?_ ⟨rfl,rfl,rfl,rfl,trivial⟩ ?_ trivial rfl ?_
 · exact⟨Nat.zero_le _,rfl,rfl⟩
 · repeat' first | exact trivial | refine⟨rfl,?_⟩
 · repeat' exact trivial
 rintro⟨⟨k,out⟩,hk,hI,hL⟩
 show W _ _ _ _ _ ⟨[(6,.own 0 (out.map Col.c)),(7,.d (.v (.int .i64 ((k:Nat):Int)))),(0,_),(1,_)],[],[0],1⟩
 iterate 2 refine W.seq ?_
 refine W.region ?_
 iterate 4 refine pE rfl ?_
 refine WO.nil (qs (a9 (l:=l) (k:=k) rfl (by simp[Ex.aF,aL]) hk (fun x hx hd hlt=>?_) (fun he hd=>?_)))
 ·
  rw[hd] at hI
  simp only[jF] at hI
  have hX:=sg cols x.e
  rw[show lM cols x.e=cX cols x.e by unfold lM;rw[if_neg (by simp[hv x (List.mem_of_getElem? hx)])]] at hX
  refine W.skip (qs (W.seq (W.block (W.seq (W.region ?_)))))
  iterate 3 refine pE rfl ?_
  refine pu (indexAddr aa rfl rfl rfl rfl rfl rfl (Int.natCast_nonneg _) (aE hx) rfl) rfl ?_
  refine pE rfl (pE rfl (pu (ak rfl rfl rfl hX rfl) rfl ?_))
  iterate 5 refine pE rfl ?_
  refine WO.nil (qs ?_)
  iterate 2 refine W.seq ?_
  apply aC;(case hb=>rfl)
  ·
   iterate 3 refine pE rfl ?_
   apply aw;(case hj=>rfl);(case hl=>rfl)
   ·
    refine ab rfl rfl (pE rfl (ab rfl rfl ?_))
    iterate 2 refine pE rfl ?_
    refine WO.nil (ay rfl rfl rfl)
   iterate 2 refine ar rfl rfl rfl rfl ?_
   refine pE rfl (WO.nil (ay rfl rfl rfl))
  refine qs (ao rfl (fun h31=>?_) (fun h31=>?_))
  ·
   have h31:(cX cols x.e).2=0∧(cX cols x.e).1=0:=by revert h31;by_cases q:(cX cols x.e).2=0 <;> simp[q]
   rw[if_neg (by simp[h31.1]),if_pos h31.2] at hI
   refine W.region (pE rfl (WO.nil (qs ?_)))
   iterate 2 refine W.seq ?_
   refine W.region ?_
   iterate 2 refine pE rfl ?_
   refine WO.nil (qs (ao rfl (fun h33=>?_) (fun h33=>?_)))
   ·
    try rw[if_pos (by simpa using h33)] at hI
    refine W.seq (W.region ?_)
    iterate 3 refine pE rfl ?_
    refine WO.nil (qs ?_)
    try refine aG (d:=4) rfl rfl ?_
    refine W.ret (ah (au (ah (aZ (au (ah (QF.aq trivial rfl ?_)))))))
    rw[←hI];rfl
   try rw[if_neg (by simpa using h33),if_neg (h31 (by simpa using h33))] at hI
   refine W.skip (qs (W.region ?_))
   iterate 3 refine pE rfl ?_
   refine pu (indexAddr aa rfl rfl rfl rfl rfl rfl (Int.natCast_nonneg _) (aE hx) rfl) rfl ?_
   refine pE rfl (pE rfl (pE rfl (pu (build aa rfl rfl rfl rfl) rfl ?_)))
   refine pu (aI aa rfl rfl rfl rfl rfl rfl rfl rfl rfl) rfl ?_
   refine bJ (fn:=Col.c) (a:=⟨x.name,(cX cols x.e).1⟩) aa rfl rfl rfl rfl rfl rfl rfl rfl rfl rfl (fun _=>rfl) (by show(out.length+1)*24≤_;omega) ?_
   refine pE rfl (WO.nil (aX (qs (W.region ?_))))
   iterate 3 refine pE rfl ?_
   refine WO.nil (W.aU [1] ⟨(k+1,out++[⟨x.name,(cX cols x.e).1⟩]),?_⟩ ?_ rfl ?_ ⟨rfl,rfl,rfl,rfl,trivial⟩ ?_ trivial rfl)
   · (exfalso;simp at h33)
   · dsimp only;omega
   · repeat' first | exact trivial | refine⟨rfl,?_⟩ | refine⟨aD (by assumption) (by assumption),?_⟩
   repeat' exact trivial
  have h31:(cX cols x.e).2=0→¬ (cX cols x.e).1=0:=by revert h31;by_cases q:(cX cols x.e).2=0 <;> simp[q]
  refine W.skip (qs ?_)
  iterate 2 refine W.seq ?_
  refine W.region ?_
  iterate 2 refine pE rfl ?_
  refine WO.nil (qs (ao rfl (fun h33=>?_) (fun h33=>?_)))
  ·
   try rw[if_pos (by simpa using h33)] at hI
   refine W.seq (W.region ?_)
   iterate 3 refine pE rfl ?_
   refine WO.nil (qs ?_)
   try refine aG (d:=4) rfl rfl ?_
   refine W.ret (ah (au (ah (aZ (au (ah (QF.aq trivial rfl ?_)))))))
   rw[←hI];rfl
  try rw[if_neg (by simpa using h33),if_neg (h31 (by simpa using h33))] at hI
  refine W.skip (qs (W.region ?_))
  iterate 3 refine pE rfl ?_
  refine pu (indexAddr aa rfl rfl rfl rfl rfl rfl (Int.natCast_nonneg _) (aE hx) rfl) rfl ?_
  refine pE rfl (pE rfl (pE rfl (pu (build aa rfl rfl rfl rfl) rfl ?_)))
  refine pu (aI aa rfl rfl rfl rfl rfl rfl rfl rfl rfl) rfl ?_
  refine bJ (fn:=Col.c) (a:=⟨x.name,(cX cols x.e).1⟩) aa rfl rfl rfl rfl rfl rfl rfl rfl rfl rfl (fun _=>rfl) (by show(out.length+1)*24≤_;omega) ?_
  refine pE rfl (WO.nil (aX (qs (W.region ?_))))
  iterate 3 refine pE rfl ?_
  refine WO.nil (W.aU [1] ⟨(k+1,out++[⟨x.name,(cX cols x.e).1⟩]),?_⟩ ?_ rfl ?_ ⟨rfl,rfl,rfl,rfl,trivial⟩ ?_ trivial rfl)
  · exact⟨hlt,hI,by simp[hL]⟩
  · dsimp only;omega
  · repeat' first | exact trivial | refine⟨rfl,?_⟩ | refine⟨aD (by assumption) (by assumption),?_⟩
  repeat' exact trivial
 rw[hd] at hI
 simp only[jF] at hI
 refine W.exit (aN (aQ (aO (qs (W.seq (W.region ?_))))))
 iterate 3 refine pE rfl ?_
 refine WO.nil (qs ?_)
 try refine aG (d:=4) rfl rfl ?_
 refine W.ret (QF.aq trivial rfl ?_)
 rw[←hI];rfl
theorem wY (cols:List Col) (s:dK) (hf:l7 s):ax Tryz.prog 79 [.d (.sl (cols.map Col.c)),.ag s.c]
  (.tup [.d (.sl ((gX cols s).1.map Col.c)),.d (.v (.int .i64 (gX cols s).2))]) 0:=by
 obtain⟨hf1,hf2,hf3,hf4⟩:=hf
 have htl:=kr cols s.cols []
 have hg:gX cols s=gX cols s:=rfl
 conv at hg=>rhs;unfold gX
 refine ax.aT (n:=72) (ts:=[4,5]) Tryz.func79 (by kernel_rfl) rfl Tryz.ntmps79 Tryz.results79 rfl rfl fun C hC hG=>?_
 refine W.seq (W.region (br rfl rfl rfl ?_))
 iterate 2 refine pE rfl ?_
 refine WO.nil (qs (W.seq (W.region ?_)))
 iterate 2 refine pE rfl ?_
 refine pE rfl (fC rfl rfl rfl (s8 cols s.cols (by omega)) (by rfl) rfl rfl ?_)
 iterate 5 refine pE rfl ?_
 refine WO.nil (qs ?_)
 iterate 2 refine W.seq ?_
 refine W.region (pE rfl (WO.nil (qs (W.block ?_))))
 have hlen:s.aggs.length≤maxLen:=by simp[maxLen];omega
 refine W.aS (ι:={x:Nat×List Col // match x with | (k,out)=>k≤s.aggs.length∧((bA cols [] s.cols).2=0→lj cols out (s.aggs.drop k)=lj cols (bA cols [] s.cols).1 s.aggs)∧out.length≤400+k})
  (fun x=>match x.1 with | (k,out)=>[(3,.ptr 0 0),(6,.own 1 (out.map Col.c)),(8,.d (.v (.int .i64 ((k:Nat):Int))))]) [(0,_),(7,_)]
  (fun x=>match x.1 with | (k,out)=>[]) [(0,_)] [1] 2 (fun x=>match x.1 with | (k,out)=>s.aggs.length - k)
  [0,1] ⟨(0,(bA cols [] s.cols).1),?_⟩ rfl ?_ ⟨rfl,rfl,rfl,rfl,trivial⟩ ?_ ⟨rfl,rfl,trivial⟩ rfl ?_
 · exact⟨Nat.zero_le _,fun _=>rfl,by simp at htl;omega⟩
 · repeat' first | exact trivial | refine⟨rfl,?_⟩
 · repeat' exact trivial
 rintro⟨⟨k,out⟩,hk,hI,hL⟩
 show W _ _ _ _ _ ⟨[(3,.ptr 0 0),(6,.own 1 (out.map Col.c)),(8,.d (.v (.int .i64 ((k:Nat):Int)))),(0,_),(7,_)],[(0,_)],[1],2⟩
 iterate 2 refine W.seq ?_
 apply aC;(case hb=>rfl)
 ·
  iterate 2 refine pE rfl ?_
  refine pE rfl ?_
  iterate 3 refine pE rfl ?_
  apply aw;(case hj=>rfl);(case hl=>rfl)
  ·
   refine ab rfl rfl (pE rfl (ab rfl rfl ?_))
   iterate 2 refine pE rfl ?_
   refine WO.nil (ay rfl rfl rfl)
  iterate 2 refine ar rfl rfl rfl rfl ?_
  refine pE rfl (WO.nil (ay rfl rfl rfl))
 refine qs (ao rfl (fun h27=>?_) (fun h27=>?_))
 ·
  have h27':k < s.aggs.length∧(bA cols [] s.cols).2=0:=by revert h27;simp only[List.length_map];by_cases q:(k:Int) < s.aggs.length <;> simp[q];omega
  obtain⟨hlt,hz⟩:=h27'
  obtain⟨x,hx,hd⟩:=nA hlt
  rw[if_neg (by simp[hz])] at hg
  have hI:=hI hz
  rw[hd] at hI
  simp only[lj] at hI
  refine W.skip (qs (W.seq (W.block (W.seq (W.region (pE rfl (pE rfl (pE rfl (pu (indexAddr aa rfl rfl rfl rfl rfl rfl (Int.natCast_nonneg _) (aE hx) rfl) rfl ?_)))))))))
  refine pE rfl (a8 aa rfl rfl rfl (aR aa rfl rfl rfl rfl rfl rfl rfl rfl (WO.nil (qs (W.seq (W.region (pE rfl (pE rfl (pu (build aa rfl rfl rfl rfl) rfl ?_)))))))))
  refine a8 aa rfl rfl rfl (aR aa rfl rfl rfl rfl rfl rfl rfl rfl (WO.nil (qs ?_)))
  iterate 2 refine W.seq ?_
  refine W.region (pE rfl (pE rfl (pE rfl (WO.nil (qs (ao rfl (fun h40=>?_) (fun h40=>?_)))))))
  ·
   have h40:¬ (x.fn=fB):=by simpa [fB] using h40
   rw[if_neg h40] at hI
   refine W.seq (W.region ?_)
   iterate 2 refine pE rfl ?_
   refine pE rfl (pu (ak rfl rfl rfl (gM cols x.col) rfl) rfl ?_)
   refine pE rfl (WO.nil (qs ?_))
   iterate 2 refine W.seq ?_
   refine W.region ?_
   iterate 2 refine pE rfl ?_
   refine WO.nil (qs (ao rfl (fun h46=>?_) (fun h46=>?_)))
   ·
    have h5:aY cols x.col=none:=ee (of_decide_eq_true h46)
    rw[h5] at hI
    refine W.seq (W.region ?_)
    iterate 2 refine pE rfl ?_
    refine WO.nil (qs ?_)
    try refine aG (d:=4) rfl rfl ?_
    refine W.ret (ah (ah (au (ah (aZ (au (ah (QF.aq trivial rfl ?_))))))))
    rw[hg,←hI];rfl
   obtain⟨i,c,h3,h4,h5,h6⟩:=ek (of_decide_eq_false h46)
   have h5:aY cols x.col=some c:=h5
   rw[h5] at hI
   simp only at hI
   refine W.skip (qs ?_)
   iterate 2 refine W.seq ?_
   apply aC;(case hb=>rfl)
   ·
    refine pE rfl (pE rfl ?_)
    iterate 2 refine pE rfl ?_
    apply aw;(case hj=>rfl);(case hl=>rfl)
    ·
     refine ab rfl rfl (pE rfl (ab rfl rfl (pE rfl (ab rfl rfl (pu (indexAddr aa rfl rfl rfl rfl rfl rfl (i:=idx _) (by rw[h3];exact Int.natCast_nonneg _) (by rw[h3];exact aE h4) rfl) rfl ?_)))))
     refine ab rfl rfl (pE rfl (ab rfl rfl (pE rfl (ab rfl rfl ?_))))
     iterate 2 refine pE rfl ?_
     refine WO.nil (ay rfl rfl rfl)
    iterate 6 refine ar rfl rfl rfl rfl ?_
    refine pE rfl (WO.nil (ay rfl rfl rfl))
   refine qs (ao rfl (fun h57=>?_) (fun h57=>?_))
   ·
    have h57:x.fn=jZ∧c.type≠2:=by revert h57;simp only[jZ];by_cases q:x.fn=B #[115,117,109] <;> simp[q]
    rw[if_pos h57] at hI
    refine W.seq (W.region ?_)
    iterate 2 refine pE rfl ?_
    refine WO.nil (qs ?_)
    try refine aG (d:=4) rfl rfl ?_
    refine W.ret (ah (ah (au (ah (aZ (au (ah (QF.aq trivial rfl ?_))))))))
    rw[hg,←hI];rfl
   have h57:¬ (x.fn=jZ∧c.type≠2):=by revert h57;simp only[jZ];by_cases q:x.fn=B #[115,117,109] <;> simp[q]
   rw[if_neg h57] at hI
   let ty:Int:=c.type
   refine W.skip (qs (W.region ?_))
   iterate 2 refine pE rfl ?_
   refine pu (indexAddr aa rfl rfl rfl rfl rfl rfl (i:=idx _) (by rw[h3];exact Int.natCast_nonneg _) (by rw[h3];exact aE h4) rfl) rfl ?_
   refine pE rfl (pE rfl (pE rfl (aR aa rfl rfl rfl rfl rfl rfl rfl rfl (WO.nil (qs (W.region (pE rfl (pE rfl (pu (aI aa rfl rfl rfl rfl rfl rfl rfl rfl rfl) rfl ?_)))))))))
   refine bJ (fn:=Col.c) (a:=⟨x.name,ty⟩) aa rfl rfl rfl rfl rfl rfl rfl rfl rfl rfl (fun _=>rfl) (by show(out.length+1)*24≤_;omega) ?_
   refine pE rfl (WO.nil (aX (qs (W.region ?_))))
   iterate 3 refine pE rfl ?_
   refine WO.nil (W.aU [0,4] ⟨(k+1,out++[⟨x.name,ty⟩]),?_⟩ ?_ rfl ?_ ⟨rfl,rfl,rfl,rfl,trivial⟩ ?_ ⟨rfl,rfl,trivial⟩ rfl)
   · exact⟨hlt,fun _=>hI,by simp;omega⟩
   · dsimp only;omega
   · repeat' first | exact trivial | refine⟨rfl,?_⟩ | refine⟨aD (by assumption) (by assumption),?_⟩
   repeat' exact trivial
  have h40:x.fn=fB:=by simpa [fB] using h40
  rw[if_pos h40] at hI
  let ty:Int:=2
  refine W.skip (qs (W.region (pE rfl (pE rfl (pu (aI aa rfl rfl rfl rfl rfl rfl rfl rfl rfl) rfl ?_)))))
  refine bJ (fn:=Col.c) (a:=⟨x.name,ty⟩) aa rfl rfl rfl rfl rfl rfl rfl rfl rfl rfl (fun _=>rfl) (by show(out.length+1)*24≤_;omega) ?_
  refine pE rfl (WO.nil (aX (qs (W.region ?_))))
  iterate 3 refine pE rfl ?_
  refine WO.nil (W.aU [0,4] ⟨(k+1,out++[⟨x.name,ty⟩]),?_⟩ ?_ rfl ?_ ⟨rfl,rfl,rfl,rfl,trivial⟩ ?_ ⟨rfl,rfl,trivial⟩ rfl)
  · exact⟨hlt,fun _=>hI,by simp;omega⟩
  · dsimp only;omega
  · repeat' first | exact trivial | refine⟨rfl,?_⟩ | refine⟨aD (by assumption) (by assumption),?_⟩
  repeat' exact trivial
 have h27':k < s.aggs.length→¬ (bA cols [] s.cols).2=0:=by
  intro hk2 hy
  have hk3:(k:Int) < s.aggs.length:=by omega
  simp[hk3,hy] at h27
 refine W.exit (aN (aQ (aO (qs ?_))))
 iterate 2 refine W.seq ?_
 refine W.region ?_
 iterate 2 refine pE rfl ?_
 refine WO.nil (qs (ao rfl (fun h69=>?_) (fun h69=>?_)))
 ·
  rw[if_pos (by simpa using h69)] at hg
  refine W.seq (W.region ?_)
  iterate 3 refine pE rfl ?_
  refine WO.nil (qs ?_)
  try refine aG (d:=4) rfl rfl ?_
  refine W.ret (ah (QF.aq trivial rfl ?_))
  rw[hg];rfl
 have hz:(bA cols [] s.cols).2=0:=by simpa using h69
 rw[if_neg (by simp[hz])] at hg
 have hI:=hI hz
 rw[dropEnd (by have:=fun h=>h27' h hz;omega)] at hI
 simp only[lj] at hI
 refine W.skip (qs (W.seq (W.region ?_)))
 iterate 3 refine pE rfl ?_
 refine WO.nil (qs ?_)
 try refine aG (d:=4) rfl rfl ?_
 refine W.ret (QF.aq trivial rfl ?_)
 rw[hg,←hI];rfl
theorem yn (cols:List Col) (s:dK) (hf:l7 s):ax Tryz.prog 81 [.d (.sl (cols.map Col.c)),.ag s.c]
  (.tup [.d (.sl ((ff cols s).1.map Col.c)),.d (.v (.int .i64 (ff cols s).2))]) 0:=by
 obtain⟨hf1,hf2,hf3,hf4⟩:=hf
 have htl:=kr cols s.cols []
 have hg:ff cols s=ff cols s:=rfl
 conv at hg=>rhs;unfold ff
 refine ax.aT (n:=39) (ts:=[4,5]) Tryz.func81 (by kernel_rfl) rfl Tryz.ntmps81 Tryz.results81 rfl rfl fun C hC hG=>?_
 refine W.seq (W.region (br rfl rfl rfl ?_))
 iterate 2 refine pE rfl ?_
 refine WO.nil (qs ?_)
 iterate 2 refine W.seq ?_
 apply aC;(case hb=>rfl)
 ·
  refine pE rfl (pE rfl (pu (ak rfl rfl rfl (mz s.cols aP) rfl) rfl ?_))
  refine pE rfl ?_
  apply aw;(case hj=>rfl);(case hl=>rfl)
  ·
   iterate 3 refine ar rfl rfl rfl rfl ?_
   refine pE rfl (WO.nil (ay rfl rfl rfl))
  refine ab rfl rfl (pE rfl (ab rfl rfl (pE rfl (ab rfl rfl (pu (ak rfl rfl rfl (mz s.cols bp) rfl) rfl ?_)))))
  refine pE rfl (WO.nil (ay rfl rfl rfl))
 refine qs (ao rfl (fun h15=>?_) (fun h15=>?_))
 ·
  rw[if_pos (by revert h15;generalize s.cols.any (fun x=>decide (aP=x))=a;generalize s.cols.any (fun x=>decide (bp=x))=b;cases a <;> cases b <;> simp)] at hg
  refine W.seq (W.region ?_)
  iterate 2 refine pE rfl ?_
  refine WO.nil (qs ?_)
  try refine aG (d:=4) rfl rfl ?_
  refine W.ret (ah (QF.aq trivial rfl ?_))
  (rw[hg];rfl)
 rw[if_neg (by revert h15;generalize s.cols.any (fun x=>decide (aP=x))=a;generalize s.cols.any (fun x=>decide (bp=x))=b;cases a <;> cases b <;> simp)] at hg
 refine W.skip (qs (W.seq (W.region ?_)))
 iterate 2 refine pE rfl ?_
 refine pE rfl (fC rfl rfl rfl (s8 cols s.cols (by omega)) (by rfl) rfl rfl ?_)
 iterate 5 refine pE rfl ?_
 refine WO.nil (qs ?_)
 iterate 2 refine W.seq ?_
 refine W.region ?_
 iterate 2 refine pE rfl ?_
 refine WO.nil (qs (ao rfl (fun h24=>?_) (fun h24=>?_)))
 ·
  have h24:(bA cols [] s.cols).2=0:=by simpa using h24
  rw[if_neg (by simp[h24])] at hg
  refine W.region (pE rfl (pu (ak rfl rfl rfl (jL cols aP) rfl) rfl ?_))
  refine pE rfl (WO.nil (qs ?_))
  iterate 2 refine W.seq ?_
  refine W.region ?_
  iterate 2 refine pE rfl ?_
  refine WO.nil (qs (ao rfl (fun h28=>?_) (fun h28=>?_)))
  ·
   try rw[if_neg (by simpa using h28)] at hg
   refine W.region (pE rfl (pu (ak rfl rfl rfl (jL cols bp) rfl) rfl ?_))
   refine pE rfl (WO.nil (qs ?_))
   iterate 2 refine W.seq ?_
   refine W.region ?_
   iterate 2 refine pE rfl ?_
   refine WO.nil (qs (ao rfl (fun h32=>?_) (fun h32=>?_)))
   ·
    try rw[if_pos (by simpa using h32)] at hg
    refine W.seq (W.region ?_)
    iterate 3 refine pE rfl ?_
    refine WO.nil (qs ?_)
    try refine aG (d:=4) rfl rfl ?_
    refine W.ret (ah (QF.aq trivial rfl ?_))
    (rw[hg];rfl)
   try rw[if_neg (by simpa using h32)] at hg
   refine W.skip (qs (W.seq (W.region (pE rfl (pu (build aa rfl rfl rfl rfl) rfl ?_)))))
   refine pu (build aa rfl rfl rfl rfl) rfl ?_
   refine pu (aI aa rfl rfl rfl rfl rfl rfl rfl rfl rfl) rfl ?_
   refine dn (l2:=[⟨aP,2⟩,⟨bp,2⟩]) (fn:=Col.c) aa rfl rfl rfl rfl rfl rfl rfl rfl rfl rfl (fun _=>rfl) (by show((bA cols [] s.cols).1.length+2)*24≤_;simp at htl;omega) ?_
   iterate 2 refine pE rfl ?_
   refine WO.nil (qs ?_)
   try refine aG (d:=4) rfl rfl ?_
   refine W.ret (QF.aq trivial rfl ?_)
   (rw[hg];rfl)
  try rw[if_pos (by simpa using h28)] at hg
  refine W.skip (qs ?_)
  iterate 2 refine W.seq ?_
  refine W.region ?_
  iterate 2 refine pE rfl ?_
  refine WO.nil (qs (ao rfl (fun h32=>?_) (fun h32=>?_)))
  ·
   try rw[if_pos (by simpa using h32)] at hg
   refine W.seq (W.region ?_)
   iterate 3 refine pE rfl ?_
   refine WO.nil (qs ?_)
   try refine aG (d:=4) rfl rfl ?_
   refine W.ret (ah (QF.aq trivial rfl ?_))
   (rw[hg];rfl)
  try rw[if_neg (by simpa using h32)] at hg
  refine W.skip (qs (W.seq (W.region (pE rfl (pu (build aa rfl rfl rfl rfl) rfl ?_)))))
  refine pu (build aa rfl rfl rfl rfl) rfl ?_
  refine pu (aI aa rfl rfl rfl rfl rfl rfl rfl rfl rfl) rfl ?_
  refine dn (l2:=[⟨aP,2⟩,⟨bp,2⟩]) (fn:=Col.c) aa rfl rfl rfl rfl rfl rfl rfl rfl rfl rfl (fun _=>rfl) (by show((bA cols [] s.cols).1.length+2)*24≤_;simp at htl;omega) ?_
  iterate 2 refine pE rfl ?_
  refine WO.nil (qs ?_)
  try refine aG (d:=4) rfl rfl ?_
  refine W.ret (QF.aq trivial rfl ?_)
  (exfalso;simp_all)
 have h24:(bA cols [] s.cols).2≠0:=by simpa using h24
 rw[if_pos h24] at hg
 refine W.skip (qs ?_)
 iterate 2 refine W.seq ?_
 refine W.region ?_
 iterate 2 refine pE rfl ?_
 refine WO.nil (qs (ao rfl (fun h28=>?_) (fun h28=>?_)))
 ·
  try rw[if_neg (by simpa using h28)] at hg
  refine W.region (pE rfl (pu (ak rfl rfl rfl (jL cols bp) rfl) rfl ?_))
  refine pE rfl (WO.nil (qs ?_))
  iterate 2 refine W.seq ?_
  refine W.region ?_
  iterate 2 refine pE rfl ?_
  refine WO.nil (qs (ao rfl (fun h32=>?_) (fun h32=>?_)))
  ·
   try rw[if_pos (by simpa using h32)] at hg
   refine W.seq (W.region ?_)
   iterate 3 refine pE rfl ?_
   refine WO.nil (qs ?_)
   try refine aG (d:=4) rfl rfl ?_
   refine W.ret (ah (QF.aq trivial rfl ?_))
   (exfalso;simp_all)
  try rw[if_neg (by simpa using h32)] at hg
  refine W.skip (qs (W.seq (W.region (pE rfl (pu (build aa rfl rfl rfl rfl) rfl ?_)))))
  refine pu (build aa rfl rfl rfl rfl) rfl ?_
  refine pu (aI aa rfl rfl rfl rfl rfl rfl rfl rfl rfl) rfl ?_
  refine dn (l2:=[⟨aP,2⟩,⟨bp,2⟩]) (fn:=Col.c) aa rfl rfl rfl rfl rfl rfl rfl rfl rfl rfl (fun _=>rfl) (by show((bA cols [] s.cols).1.length+2)*24≤_;simp at htl;omega) ?_
  iterate 2 refine pE rfl ?_
  refine WO.nil (qs ?_)
  try refine aG (d:=4) rfl rfl ?_
  refine W.ret (QF.aq trivial rfl ?_)
  (exfalso;simp_all)
 try rw[if_pos (by simpa using h28)] at hg
 refine W.skip (qs ?_)
 iterate 2 refine W.seq ?_
 refine W.region ?_
 iterate 2 refine pE rfl ?_
 refine WO.nil (qs (ao rfl (fun h32=>?_) (fun h32=>?_)))
 ·
  try rw[if_pos (by simpa using h32)] at hg
  refine W.seq (W.region ?_)
  iterate 3 refine pE rfl ?_
  refine WO.nil (qs ?_)
  try refine aG (d:=4) rfl rfl ?_
  refine W.ret (ah (QF.aq trivial rfl ?_))
  (rw[hg];rfl)
 try rw[if_neg (by simpa using h32)] at hg
 refine W.skip (qs (W.seq (W.region (pE rfl (pu (build aa rfl rfl rfl rfl) rfl ?_)))))
 refine pu (build aa rfl rfl rfl rfl) rfl ?_
 refine pu (aI aa rfl rfl rfl rfl rfl rfl rfl rfl rfl) rfl ?_
 refine dn (l2:=[⟨aP,2⟩,⟨bp,2⟩]) (fn:=Col.c) aa rfl rfl rfl rfl rfl rfl rfl rfl rfl rfl (fun _=>rfl) (by show((bA cols [] s.cols).1.length+2)*24≤_;simp at htl;omega) ?_
 iterate 2 refine pE rfl ?_
 refine WO.nil (qs ?_)
 try refine aG (d:=4) rfl rfl ?_
 refine W.ret (QF.aq trivial rfl ?_)
 (exfalso;simp_all)
theorem w6 (op:Int):ax Tryz.prog 123 [.d (.v (.int .i64 op))] (.d (.sl ((aM op).map sc))) 0:=by
 refine ax.aT (n:=9) (ts:=[2]) Tryz.func123 (by kernel_rfl) rfl Tryz.ntmps123 Tryz.results123 rfl rfl fun C hC hG=>?_
 refine W.seq (W.region (pE rfl (WO.nil (qs ?_))))
 iterate 2 refine W.seq ?_
 refine W.region ?_
 iterate 2 refine pE rfl ?_
 refine WO.nil (qs (ao rfl (fun h4=>?_) (fun h4=>?_)))
 ·
  refine W.seq (W.region (pu (aI (es:=[aP,bp].map sc) aa rfl rfl rfl rfl rfl rfl rfl rfl rfl) rfl ?_))
  refine pE rfl (WO.nil (qs ?_))
  try refine aG (d:=2) rfl rfl ?_
  refine W.ret (ah (QF.aq trivial rfl ?_))
  rw[show aM op=[aP,bp] by unfold aM;rw[if_pos (by simpa using h4)]];rfl
 refine W.skip (qs ?_)
 iterate 2 refine W.seq ?_
 refine W.region ?_
 iterate 2 refine pE rfl ?_
 refine WO.nil (qs (ao rfl (fun h7=>?_) (fun h7=>?_)))
 ·
  refine W.seq (W.region (pu (aI (es:=[aP].map sc) aa rfl rfl rfl rfl rfl rfl rfl rfl rfl) rfl ?_))
  refine pE rfl (WO.nil (qs ?_))
  try refine aG (d:=2) rfl rfl ?_
  refine W.ret (ah (QF.aq trivial rfl ?_))
  rw[show aM op=[aP] by unfold aM;rw[if_neg (by simpa using h4),if_pos (by simpa using h7)]];rfl
 refine W.skip (qs (W.seq (W.region (pE rfl (WO.nil (qs ?_))))))
 try refine aG (d:=2) rfl rfl ?_
 refine W.ret (QF.aq trivial rfl ?_)
 rw[show aM op=[] by unfold aM;rw[if_neg (by simpa using h4),if_neg (by simpa using h7)]];rfl
end Go.Proofs.YtjenenllmjlimaaGreat
namespace Go.Proofs.YtjenenllmjlimaaGreat
open Go.Ab Go.Tb
set_option maxRecDepth 10000
attribute [local irreducible] W WO Pu QS QB QL QF QV b7 CH QE
theorem xx (op:Int):(aM op).length≤2:=by unfold aM;split <;> (try split) <;> simp
def er (cols right:List Col) (l:List ByteArray):List (List Col×ByteArray):=l.map (fun s=>(cols,s))++l.map (fun s=>(right,s))
def dL:List (List Col×ByteArray)→Int
 | []=>0
 | x::r=>if cn x.1 x.2≠0 then cn x.1 x.2 else dL r
theorem n9:∀ (a b:List (List Col×ByteArray)),dL (a++b)=if dL a≠0 then dL a else dL b
 | [],b=>by simp[dL]
 | x::r,b=>by
  simp only[List.cons_append,dL,n9 r b]
  split
  · rename_i h;simp[h]
  rfl
theorem oe (c:List Col):∀ (l:List ByteArray),dL (l.map (fun s=>(c,s)))=cZ c l
 | []=>rfl
 | s::r=>by simp only[List.map_cons,dL,cZ,oe c r]
theorem x4 (cols right:List Col) (s:dK):kF cols right s =
  if (aM s.op).any (fun n=>s.cols.any fun x=>decide (n=x)) then ([],4)
  else if ew cols right s.cols≠0 then ([],ew cols right s.cols)
  else if dL (er cols right (aM s.op))≠0 then ([],dL (er cols right (aM s.op)))
  else tG (cols++dm s.cols (aM s.op) right):=by
 unfold kF er
 simp only[n9,oe]
 by_cases h1:cZ cols (aM s.op)=0 <;> by_cases h2:cZ right (aM s.op)=0 <;> simp[h1,h2]
theorem xH {cols right:List Col} {l:List ByteArray} {i:Nat} (h:i < 2*l.length):∃ (j:Nat) (m:ByteArray),l[j]? = some m∧((i:Int).tmod (l.length:Int))=(j:Int) ∧
  (er cols right l)[i]? = some (if i < l.length then cols else right,m):=by
 by_cases hi:i < l.length
 ·
  refine⟨i,l[i],by simp[hi],?_,?_⟩
  · rw[Int.tmod_eq_of_lt (by omega) (by omega)]
  unfold er
  rw[List.getElem?_append_left (by simpa using hi),List.getElem?_map]
  simp[hi]
 refine⟨i - l.length,l[i - l.length]'(by omega),by simp,?_,?_⟩
 ·
  have e:(i:Int)=((i - l.length:Nat):Int)+l.length:=by omega
  rw[Int.tmod_eq_emod_of_nonneg (by omega)]
  calc (i:Int) % (l.length:Int)=(((i - l.length:Nat):Int)+l.length) % (l.length:Int):=by rw[←e]
   _=((i - l.length:Nat):Int):=by rw[Int.add_emod_right,Int.emod_eq_of_lt (by omega) (by omega)]
 unfold er
 rw[List.getElem?_append_right (by simp;omega),List.getElem?_map]
 have:i - l.length < l.length:=by omega
 simp[hi,this]
theorem wx (cols right:List Col) (s:dK) (hf:l7 s) (hc:cols.length≤1000) (htc:right.length≤1000):ax Tryz.prog 83 [.d (.sl (cols.map Col.c)),.d (.sl (right.map Col.c)),.ag s.c]
  (.tup [.d (.sl ((kF cols right s).1.map Col.c)),.d (.v (.int .i64 (kF cols right s).2))]) 0:=by
 obtain⟨hf1,hf2,hf3,hf4⟩:=hf
 have hsl:=xx s.op
 have hg:=x4 cols right s
 generalize hP:dL (er cols right (aM s.op))=PP at hg
 refine ax.aT (n:=153) (ts:=[6,7]) Tryz.func83 (by kernel_rfl) rfl Tryz.ntmps83 Tryz.results83 rfl rfl fun C hC hG=>?_
 refine W.seq (W.region (br rfl rfl rfl ?_))
 iterate 2 refine pE rfl ?_
 refine WO.nil (qs (W.seq (W.region (pE rfl (pE rfl (pu (ak rfl rfl rfl (w6 s.op) rfl) rfl ?_))))))
 refine pE rfl (WO.nil (qs ?_))
 iterate 2 refine W.seq ?_
 refine W.region (pE rfl (WO.nil (qs (W.block ?_))))
 have hlen:(aM s.op).length≤maxLen:=by simp[maxLen];omega
 refine W.aS (ι:={x:Nat // match x with | k=>k≤(aM s.op).length∧((aM s.op).drop k).any (fun n=>s.cols.any fun x=>decide (n=x))=(aM s.op).any (fun n=>s.cols.any fun x=>decide (n=x))})
  (fun x=>match x.1 with | k=>[(5,.ptr 0 0),(9,.d (.v (.int .i64 ((k:Nat):Int))))]) [(0,_),(1,_),(8,_)]
  (fun x=>match x.1 with | k=>[]) [(0,_)] [] 1 (fun x=>match x.1 with | k=>(aM s.op).length - k)
  [0] ⟨0,?_⟩ rfl ?_ ⟨rfl,rfl,rfl,rfl,rfl,rfl,trivial⟩ ?_ ⟨rfl,rfl,trivial⟩ rfl ?_
 · exact⟨Nat.zero_le _,rfl⟩
 · repeat' first | exact trivial | refine⟨rfl,?_⟩
 · repeat' exact trivial
 rintro⟨k,hk,hI⟩
 show W _ _ _ _ _ ⟨[(5,.ptr 0 0),(9,.d (.v (.int .i64 ((k:Nat):Int)))),(0,_),(1,_),(8,_)],[(0,_)],[],1⟩
 iterate 2 refine W.seq ?_
 refine W.region ?_
 iterate 4 refine pE rfl ?_
 refine WO.nil (qs (a9 (l:=aM s.op) (k:=k) rfl (by simp[Ex.aF,aL]) hk (fun z hx hd hlt=>?_) (fun he hd=>?_)))
 ·
  rw[hd,List.any_cons] at hI
  refine W.skip (qs (W.seq (W.block (W.seq (W.be aa (by kernel_rfl) ?_)))))
  refine an (ev aa rfl) rfl ?_
  refine an (ev aa rfl) rfl ?_
  iterate 2 refine an (ev aa rfl) rfl ?_
  refine an (indexAddr aa rfl rfl rfl rfl rfl rfl (Int.natCast_nonneg _) (aE hx) rfl) rfl ?_
  refine an (ev aa rfl) rfl ?_
  refine an (ak rfl rfl rfl (mz s.cols z) rfl) rfl ?_
  refine CH.nil ?_
  refine qs (ao rfl (fun h34=>?_) (fun h34=>?_))
  ·
   rw[h34,Bool.true_or] at hI
   rw[if_pos hI.symm] at hg
   refine W.seq (W.region ?_)
   iterate 2 refine pE rfl ?_
   refine WO.nil (qs ?_)
   try refine aG (d:=6) rfl rfl ?_
   refine W.ret (au (ah (aZ (au (ah (QF.aq trivial rfl ?_))))))
   rw[hg];rfl
  rw[h34,Bool.false_or] at hI
  refine W.skip (aX (qs (W.region ?_)))
  iterate 3 refine pE rfl ?_
  refine WO.nil (W.aU [0] ⟨k+1,?_⟩ ?_ rfl ?_ ⟨rfl,rfl,rfl,rfl,rfl,rfl,trivial⟩ ?_ ⟨rfl,rfl,trivial⟩ rfl)
  · exact⟨hlt,hI⟩
  · dsimp only;omega
  · repeat' first | exact trivial | refine⟨rfl,?_⟩ | refine⟨aD (by assumption) (by assumption),?_⟩
  repeat' exact trivial
 rw[hd,List.any_nil] at hI
 rw[if_neg (by rw[←hI];decide)] at hg
 refine W.exit (aN (aQ (aO (qs ?_))))
 iterate 2 refine W.seq ?_
 refine W.region (pE rfl (WO.nil (qs (W.block ?_))))
 have hlen:s.cols.length≤maxLen:=by simp[maxLen];omega
 refine W.aS (ι:={x:Nat // match x with | k=>k≤s.cols.length∧ew cols right (s.cols.drop k)=ew cols right s.cols})
  (fun x=>match x.1 with | k=>[(5,.ptr 0 0),(10,.d (.v (.int .i64 ((k:Nat):Int))))]) [(0,_),(1,_),(8,_)]
  (fun x=>match x.1 with | k=>[]) [(0,_)] [] 1 (fun x=>match x.1 with | k=>s.cols.length - k)
  [0] ⟨0,?_⟩ rfl ?_ ⟨rfl,rfl,rfl,rfl,rfl,rfl,trivial⟩ ?_ ⟨rfl,rfl,trivial⟩ rfl ?_
 · exact⟨Nat.zero_le _,rfl⟩
 · repeat' first | exact trivial | refine⟨rfl,?_⟩
 · repeat' exact trivial
 rintro⟨k,hk,hJ⟩
 show W _ _ _ _ _ ⟨[(5,.ptr 0 0),(10,.d (.v (.int .i64 ((k:Nat):Int)))),(0,_),(1,_),(8,_)],[(0,_)],[],1⟩
 iterate 2 refine W.seq ?_
 refine W.region ?_
 iterate 2 refine pE rfl ?_
 refine pE rfl ?_
 iterate 2 refine pE rfl ?_
 refine WO.nil (qs (a9 (l:=s.cols) (k:=k) rfl (by simp[Ex.aF,aL]) hk (fun z hx hd hlt=>?_) (fun he hd=>?_)))
 ·
  rw[hd] at hJ
  refine W.skip (qs (W.seq (W.block (W.seq (W.be aa (by kernel_rfl) ?_)))))
  iterate 2 refine an (ev aa rfl) rfl ?_
  refine an (ev aa rfl) rfl ?_
  refine an (ev aa rfl) rfl ?_
  refine an (indexAddr aa rfl rfl rfl rfl rfl rfl (Int.natCast_nonneg _) (aE hx) rfl) rfl ?_
  refine an (ev aa rfl) rfl ?_
  refine an (ak rfl rfl rfl (gM cols z) rfl) rfl ?_
  iterate 2 refine an (ev aa rfl) rfl ?_
  refine an (ev aa rfl) rfl ?_
  refine an (ev aa rfl) rfl ?_
  refine an (indexAddr aa rfl rfl rfl rfl rfl rfl (Int.natCast_nonneg _) (aE hx) rfl) rfl ?_
  refine an (ev aa rfl) rfl ?_
  refine an (ak rfl rfl rfl (gM right z) rfl) rfl ?_
  iterate 2 refine an (ev aa rfl) rfl ?_
  refine CH.nil ?_
  refine qs ?_
  iterate 2 refine W.seq ?_
  apply aC;(case hb=>rfl)
  ·
   iterate 3 refine pE rfl ?_
   apply aw;(case hj=>rfl);(case hl=>rfl)
   ·
    iterate 2 refine ar rfl rfl rfl rfl ?_
    refine pE rfl (WO.nil (ay rfl rfl rfl))
   refine ab rfl rfl (pE rfl (ab rfl rfl ?_))
   iterate 2 refine pE rfl ?_
   refine WO.nil (ay rfl rfl rfl)
  refine qs (ao rfl (fun h61=>?_) (fun h61=>?_))
  ·
   have h5:aY cols z=none∨aY right z=none:=by
    by_cases q1:idx (cols.findIdx? fun c=>decide (c.name=z)) < 0
    · exact .inl (ee q1)
    refine .inr (ee ?_)
    revert h61
    simp[q1]
   rw[qc h5] at hJ
   rw[←hJ,if_pos (by decide)] at hg
   refine W.seq (W.region ?_)
   iterate 2 refine pE rfl ?_
   refine WO.nil (qs ?_)
   try refine aG (d:=6) rfl rfl ?_
   refine W.ret (ah (au (ah (aZ (au (ah (QF.aq trivial rfl ?_)))))))
   rw[hg];rfl
  have h59':¬ (idx (cols.findIdx? fun c=>decide (c.name=z)) < 0)∧¬ (idx (right.findIdx? fun c=>decide (c.name=z)) < 0):=by
   revert h61
   generalize idx (cols.findIdx? fun c=>decide (c.name=z))=u
   generalize idx (right.findIdx? fun c=>decide (c.name=z))=v
   by_cases q1:u < 0 <;> by_cases q2:v < 0 <;> simp[q1,q2]
  obtain⟨i,a,a3,a4,a5,a6⟩:=ek h59'.1
  obtain⟨j,b,b3,b4,b5,b6⟩:=ek h59'.2
  rw[qQ (c:=a) (e:=b) a5 b5] at hJ
  refine W.skip (qs (W.seq (W.be aa (by kernel_rfl) ?_)))
  iterate 2 refine an (ev aa rfl) rfl ?_
  refine an (indexAddr aa rfl rfl rfl rfl rfl rfl (i:=idx _) (by rw[a3];exact Int.natCast_nonneg _) (by rw[a3];exact aE a4) rfl) rfl ?_
  refine an (ev aa rfl) rfl ?_
  refine an (ev aa rfl) rfl ?_
  iterate 2 refine an (ev aa rfl) rfl ?_
  refine an (indexAddr aa rfl rfl rfl rfl rfl rfl (i:=idx _) (by rw[b3];exact Int.natCast_nonneg _) (by rw[b3];exact aE b4) rfl) rfl ?_
  refine an (ev aa rfl) rfl ?_
  refine an (ev aa rfl) rfl ?_
  refine an (ev aa rfl) rfl ?_
  refine CH.nil ?_
  refine qs (ao rfl (fun h72=>?_) (fun h72=>?_))
  ·
   have h72:a.type≠b.type:=by simpa using h72
   rw[if_pos h72] at hJ
   rw[←hJ,if_pos (by decide)] at hg
   refine W.seq (W.region ?_)
   iterate 2 refine pE rfl ?_
   refine WO.nil (qs ?_)
   try refine aG (d:=6) rfl rfl ?_
   refine W.ret (au (ah (aZ (au (ah (QF.aq trivial rfl ?_))))))
   rw[hg];rfl
  have h72:¬ (a.type≠b.type):=by simpa using h72
  rw[if_neg h72] at hJ
  refine W.skip (aX (qs (W.region ?_)))
  iterate 3 refine pE rfl ?_
  refine WO.nil (W.aU [0] ⟨k+1,?_⟩ ?_ rfl ?_ ⟨rfl,rfl,rfl,rfl,rfl,rfl,trivial⟩ ?_ ⟨rfl,rfl,trivial⟩ rfl)
  · exact⟨hlt,hJ⟩
  · dsimp only;omega
  · repeat' first | exact trivial | refine⟨rfl,?_⟩ | refine⟨aD (by assumption) (by assumption),?_⟩
  repeat' exact trivial
 rw[hd] at hJ
 simp only[ew] at hJ
 rw[←hJ] at hg
 simp only[ne_eq,not_true_eq_false,if_false] at hg
 refine W.exit (aN (aQ (aO (qs ?_))))
 iterate 2 refine W.seq ?_
 refine W.region (pE rfl (WO.nil (qs (W.block ?_))))
 have hpl:(er cols right (aM s.op)).length=2*(aM s.op).length:=by unfold er;simp;omega
 have hlen:(er cols right (aM s.op)).length≤maxLen:=by rw[hpl];simp[maxLen];omega
 refine W.aS (ι:={x:Nat // match x with | i=>i≤(er cols right (aM s.op)).length∧dL ((er cols right (aM s.op)).drop i)=PP})
  (fun x=>match x.1 with | i=>[(5,.ptr 0 0),(13,.d (.v (.int .i64 ((i:Nat):Int))))]) [(0,_),(1,_),(8,_)]
  (fun x=>match x.1 with | i=>[]) [(0,_)] [] 1 (fun x=>match x.1 with | i=>(er cols right (aM s.op)).length - i)
  [0] ⟨0,?_⟩ rfl ?_ ⟨rfl,rfl,rfl,rfl,rfl,rfl,trivial⟩ ?_ ⟨rfl,rfl,trivial⟩ rfl ?_
 · exact⟨Nat.zero_le _,hP⟩
 · repeat' first | exact trivial | refine⟨rfl,?_⟩
 · repeat' exact trivial
 rintro⟨i,hk,hK⟩
 show W _ _ _ _ _ ⟨[(5,.ptr 0 0),(13,.d (.v (.int .i64 ((i:Nat):Int)))),(0,_),(1,_),(8,_)],[(0,_)],[],1⟩
 iterate 2 refine W.seq ?_
 refine W.region ?_
 iterate 3 refine pE rfl ?_
 refine pu (bH (ev aa rfl) (y:=(((er cols right (aM s.op)).length:Nat):Int)) (by rw[hpl,List.length_map,wrap64 (by omega)];omega)) rfl ?_
 refine pE rfl (WO.nil (qs (a9 (l:=er cols right (aM s.op)) (k:=i) rfl (by rfl) hk (fun z hx hd hlt=>?_) (fun he hd=>?_))))
 ·
  rw[hd] at hK
  simp only[dL] at hK
  obtain⟨j,m,hm,hmod,hz⟩:=xH (cols:=cols) (right:=right) (l:=aM s.op) (i:=i) (by omega)
  rw[hx] at hz
  simp only[Option.some.injEq] at hz
  have hne:((aM s.op).length:Int)≠0:=by omega
  refine W.skip (qs (W.seq (W.block (W.seq (W.region ?_)))))
  iterate 2 refine pE rfl ?_
  refine WO.nil (qs ?_)
  iterate 2 refine W.seq ?_
  refine W.region ?_
  iterate 4 refine pE rfl ?_
  refine WO.nil (qs (ao rfl (fun h84=>?_) (fun h84=>?_)))
  ·
   have hnl:¬ i < (aM s.op).length:=by simp at h84;omega
   rw[if_neg hnl] at hz
   subst hz
   simp only at hK
   have hnum:=jL right m
   refine W.region ?_
   iterate 2 refine pE rfl ?_
   refine WO.nil (qs (W.seq (W.region ?_)))
   iterate 5 refine pE rfl ?_
   refine pu (bH (Aw rfl rfl (by rw[List.length_map];exact hne) (by rw[List.length_map,hmod];simp[dq,IntKind.min,IntKind.max,IntKind.signed,IntKind.bits];have:=(List.getElem?_eq_some_iff.1 hm).1;omega)) (y:=(j:Int)) (by rw[List.length_map];exact hmod)) rfl ?_
   refine pu (indexAddr aa rfl rfl rfl rfl rfl rfl (Int.natCast_nonneg _) (aE hm) rfl) rfl ?_
   refine pE rfl (pu (ak rfl rfl rfl hnum rfl) rfl ?_)
   refine pE rfl (WO.nil (qs (W.seq (W.region ?_))))
   iterate 2 refine pE rfl ?_
   refine WO.nil (qs (ao rfl (fun h96=>?_) (fun h96=>?_)))
   ·
    have h96:=h96
    simp only[Bool.not_eq_true',decide_eq_false_iff_not] at h96
    rw[if_pos h96] at hK
    simp only[←hK] at hg
    rw[if_pos h96] at hg
    refine W.seq (W.region ?_)
    iterate 3 refine pE rfl ?_
    refine WO.nil (qs ?_)
    try refine aG (d:=6) rfl rfl ?_
    refine W.ret (au (ah (aZ (au (ah (QF.aq trivial rfl ?_))))))
    rw[hg];rfl
   have h96:=h96
   simp only[Bool.not_eq_false',decide_eq_true_eq] at h96
   rw[if_neg (by simp[h96])] at hK
   refine W.skip (aX (qs (W.region ?_)))
   iterate 3 refine pE rfl ?_
   refine WO.nil (W.aU [0] ⟨i+1,?_⟩ ?_ rfl ?_ ⟨rfl,rfl,rfl,rfl,rfl,rfl,trivial⟩ ?_ ⟨rfl,rfl,trivial⟩ rfl)
   · exact⟨hlt,hK⟩
   · dsimp only;omega
   · repeat' first | exact trivial | refine⟨rfl,?_⟩ | refine⟨aD (by assumption) (by assumption),?_⟩
   repeat' exact trivial
  have hnl:i < (aM s.op).length:=by simp at h84;omega
  rw[if_pos hnl] at hz
  subst hz
  simp only at hK
  have hnum:=jL cols m
  refine W.skip (qs (W.seq (W.region ?_)))
  iterate 5 refine pE rfl ?_
  refine pu (bH (Aw rfl rfl (by rw[List.length_map];exact hne) (by rw[List.length_map,hmod];simp[dq,IntKind.min,IntKind.max,IntKind.signed,IntKind.bits];have:=(List.getElem?_eq_some_iff.1 hm).1;omega)) (y:=(j:Int)) (by rw[List.length_map];exact hmod)) rfl ?_
  refine pu (indexAddr aa rfl rfl rfl rfl rfl rfl (Int.natCast_nonneg _) (aE hm) rfl) rfl ?_
  refine pE rfl (pu (ak rfl rfl rfl hnum rfl) rfl ?_)
  refine pE rfl (WO.nil (qs (W.seq (W.region ?_))))
  iterate 2 refine pE rfl ?_
  refine WO.nil (qs (ao rfl (fun h96=>?_) (fun h96=>?_)))
  ·
   have h96:=h96
   simp only[Bool.not_eq_true',decide_eq_false_iff_not] at h96
   rw[if_pos h96] at hK
   simp only[←hK] at hg
   rw[if_pos h96] at hg
   refine W.seq (W.region ?_)
   iterate 3 refine pE rfl ?_
   refine WO.nil (qs ?_)
   try refine aG (d:=6) rfl rfl ?_
   refine W.ret (au (ah (aZ (au (ah (QF.aq trivial rfl ?_))))))
   rw[hg];rfl
  have h96:=h96
  simp only[Bool.not_eq_false',decide_eq_true_eq] at h96
  rw[if_neg (by simp[h96])] at hK
  refine W.skip (aX (qs (W.region ?_)))
  iterate 3 refine pE rfl ?_
  refine WO.nil (W.aU [0] ⟨i+1,?_⟩ ?_ rfl ?_ ⟨rfl,rfl,rfl,rfl,rfl,rfl,trivial⟩ ?_ ⟨rfl,rfl,trivial⟩ rfl)
  · exact⟨hlt,hK⟩
  · dsimp only;omega
  · repeat' first | exact trivial | refine⟨rfl,?_⟩ | refine⟨aD (by assumption) (by assumption),?_⟩
  repeat' exact trivial
 rw[hd] at hK
 simp only[dL] at hK
 rw[←hK] at hg
 simp only[ne_eq,not_true_eq_false,if_false] at hg
 refine W.exit (aN (aQ (aO (qs (W.seq (W.region (mq aa rfl rfl rfl rfl rfl rfl rfl rfl (by rfl) ?_)))))))
 refine pE rfl (dn (l:=[]) (l2:=cols) (fn:=Col.c) aa rfl rfl rfl rfl rfl rfl rfl rfl rfl rfl (fun _=>rfl) (by show(0+cols.length)*24≤_;omega) ?_)
 refine pE rfl (WO.nil (qs ?_))
 iterate 2 refine W.seq ?_
 refine W.region (pE rfl (WO.nil (qs (W.block ?_))))
 have hlen:right.length≤maxLen:=by simp[maxLen];omega
 refine W.aS (ι:={x:Nat×List Col // match x with | (k,out)=>k≤right.length∧out++dm s.cols (aM s.op) (right.drop k)=cols++dm s.cols (aM s.op) right∧out.length≤1000+k})
  (fun x=>match x.1 with | (k,out)=>[(5,.ptr 0 0),(16,.own 1 (out.map Col.c)),(17,.d (.v (.int .i64 ((k:Nat):Int))))]) [(1,_),(8,_)]
  (fun x=>match x.1 with | (k,out)=>[]) [(0,_)] [1] 2 (fun x=>match x.1 with | (k,out)=>right.length - k)
  [0,2] ⟨(0,cols),?_⟩ rfl ?_ ⟨rfl,rfl,rfl,rfl,trivial⟩ ?_ ⟨rfl,rfl,trivial⟩ rfl ?_
 · exact⟨Nat.zero_le _,rfl,by omega⟩
 · repeat' first | exact trivial | refine⟨rfl,?_⟩
 · repeat' exact trivial
 rintro⟨⟨k,out⟩,hk,hL,hN⟩
 show W _ _ _ _ _ ⟨[(5,.ptr 0 0),(16,.own 1 (out.map Col.c)),(17,.d (.v (.int .i64 ((k:Nat):Int)))),(1,_),(8,_)],[(0,_)],[1],2⟩
 iterate 2 refine W.seq ?_
 refine W.region ?_
 iterate 4 refine pE rfl ?_
 refine WO.nil (qs (a9 (l:=right) (k:=k) rfl (by simp[Ex.aF,aL]) hk (fun c hx hd hlt=>?_) (fun he hd=>?_)))
 ·
  rw[hd] at hL
  refine W.skip (qs (W.seq (W.block (W.seq ?_))))
  apply iV aa;(case hb=>rfl);(case hB=>kernel_rfl)
  ·
   refine an (ev aa rfl) rfl ?_
   refine an (ev aa rfl) rfl ?_
   iterate 2 refine an (ev aa rfl) rfl ?_
   refine an (indexAddr aa rfl rfl rfl rfl rfl rfl (Int.natCast_nonneg _) (aE hx) rfl) rfl ?_
   refine an (ev aa rfl) rfl ?_
   refine an (ev aa rfl) rfl ?_
   refine an (ak rfl rfl rfl (mz s.cols c.name) rfl) rfl ?_
   iterate 2 refine an (ev aa rfl) rfl ?_
   apply eX;(case hj=>rfl);(case hl=>rfl)
   ·
    refine aB rfl rfl (ev aa rfl) rfl ?_
    refine aB rfl rfl (ev aa rfl) rfl ?_
    refine aB rfl rfl (ev aa rfl) rfl ?_
    refine aB rfl rfl (indexAddr aa rfl rfl rfl rfl rfl rfl (Int.natCast_nonneg _) (aE hx) rfl) rfl ?_
    refine aB rfl rfl (ev aa rfl) rfl ?_
    refine aB rfl rfl (ev aa rfl) rfl ?_
    refine aB rfl rfl (ak rfl rfl rfl (mz (aM s.op) c.name) rfl) rfl ?_
    refine aB rfl rfl (ev aa rfl) rfl ?_
    refine an (ev aa rfl) rfl ?_
    refine CH.nil ?_
    refine ay rfl rfl rfl
   iterate 8 refine bU rfl rfl rfl rfl ?_
   refine an (ev aa rfl) rfl ?_
   refine CH.nil ?_
   refine ay rfl rfl rfl
  refine qs (ao rfl (fun h125=>?_) (fun h125=>?_))
  ·
   have hr:dm s.cols (aM s.op) (c::right.drop (k+1))=c::dm s.cols (aM s.op) (right.drop (k+1)):=by
    simp only[dm]
    rw[List.filter_cons_of_pos]
    revert h125
    generalize s.cols.any (fun x=>decide (c.name=x))=u
    generalize (aM s.op).any (fun x=>decide (c.name=x))=v
    cases u <;> cases v <;> simp
   rw[hr] at hL
   refine W.region ?_
   iterate 3 refine pE rfl ?_
   refine pu (indexAddr aa rfl rfl rfl rfl rfl rfl (Int.natCast_nonneg _) (aE hx) rfl) rfl ?_
   refine pE rfl (pu (aI aa rfl rfl rfl rfl rfl rfl rfl rfl rfl) rfl ?_)
   refine bJ (fn:=Col.c) (a:=c) aa rfl rfl rfl rfl rfl rfl rfl rfl rfl rfl (fun _=>rfl) (by show(out.length+1)*24≤_;omega) ?_
   refine pE rfl (WO.nil (aX (qs (W.region ?_))))
   iterate 3 refine pE rfl ?_
   refine WO.nil (W.aU [0,2] ⟨(k+1,out++[c]),?_⟩ ?_ rfl ?_ ⟨rfl,rfl,rfl,rfl,trivial⟩ ?_ ⟨rfl,rfl,trivial⟩ rfl)
   · exact⟨hlt,by rw[←hL];simp,by simp;omega⟩
   · dsimp only;omega
   · repeat' first | exact trivial | refine⟨rfl,?_⟩ | refine⟨aD (by assumption) (by assumption),?_⟩
   repeat' exact trivial
  have hr:dm s.cols (aM s.op) (c::right.drop (k+1))=dm s.cols (aM s.op) (right.drop (k+1)):=by
   simp only[dm]
   rw[List.filter_cons_of_neg]
   revert h125
   generalize s.cols.any (fun x=>decide (c.name=x))=u
   generalize (aM s.op).any (fun x=>decide (c.name=x))=v
   cases u <;> cases v <;> simp
  rw[hr] at hL
  refine W.skip (aX (qs (W.region ?_)))
  iterate 3 refine pE rfl ?_
  refine WO.nil (W.aU [0,1] ⟨(k+1,out),?_⟩ ?_ rfl ?_ ⟨rfl,rfl,rfl,rfl,trivial⟩ ?_ ⟨rfl,rfl,trivial⟩ rfl)
  · exact⟨hlt,hL,by omega⟩
  · dsimp only;omega
  · repeat' first | exact trivial | refine⟨rfl,?_⟩ | refine⟨aD (by assumption) (by assumption),?_⟩
  repeat' exact trivial
 rw[hd] at hL
 rw[show dm s.cols (aM s.op) []=[] from rfl,List.append_nil] at hL
 rw[←hL] at hg
 unfold tG at hg
 refine W.exit (aN (aQ (aO (qs ?_))))
 iterate 2 refine W.seq ?_
 refine W.region (pE rfl (WO.nil (qs (W.block ?_))))
 have hlen:out.length≤maxLen:=by simp[maxLen];omega
 refine W.aS (ι:={x:Nat // match x with | k=>k≤out.length∧fu out k (out.drop k)=fu out 0 out})
  (fun x=>match x.1 with | k=>[(16,.own 0 (out.map Col.c)),(18,.d (.v (.int .i64 ((k:Nat):Int))))]) []
  (fun x=>match x.1 with | k=>[]) [] [0] 1 (fun x=>match x.1 with | k=>out.length - k)
  [1] ⟨0,?_⟩ rfl ?_ trivial ?_ trivial rfl ?_
 · exact⟨Nat.zero_le _,rfl⟩
 · repeat' first | exact trivial | refine⟨rfl,?_⟩
 · repeat' exact trivial
 rintro⟨k,hk,hM⟩
 show W _ _ _ _ _ ⟨[(16,.own 0 (out.map Col.c)),(18,.d (.v (.int .i64 ((k:Nat):Int))))],[],[0],1⟩
 iterate 2 refine W.seq ?_
 refine W.region ?_
 iterate 4 refine pE rfl ?_
 refine WO.nil (qs (a9 (l:=out) (k:=k) rfl (by simp[Ex.aF,aL]) hk (fun c hx hd hlt=>?_) (fun he hd=>?_)))
 ·
  rw[hd] at hM
  simp only[fu] at hM
  refine W.skip (qs (W.seq (W.block (W.seq (W.be aa (by kernel_rfl) ?_)))))
  iterate 2 refine an (ev aa rfl) rfl ?_
  refine an (vO (fn:=Col.c) aa rfl rfl rfl rfl rfl rfl (fun _=>rfl) (by omega)) rfl ?_
  iterate 2 refine an (ev aa rfl) rfl ?_
  refine an (indexAddr aa rfl rfl rfl rfl rfl rfl (Int.natCast_nonneg _) (aE hx) rfl) rfl ?_
  refine an (ev aa rfl) rfl ?_
  refine an (ev aa rfl) rfl ?_
  refine an (ak rfl rfl rfl (gM (out.take k) c.name) rfl) rfl ?_
  refine an (ev aa rfl) rfl ?_
  refine CH.nil ?_
  refine qs (ao rfl (fun h148=>?_) (fun h148=>?_))
  ·
   have h148:((out.take k).any fun y=>decide (y.name=c.name))=true:=cF.symm.trans h148
   rw[h148,Bool.true_or] at hM
   rw[if_pos hM.symm] at hg
   refine W.seq (W.region ?_)
   iterate 2 refine pE rfl ?_
   refine WO.nil (qs ?_)
   try refine aG (d:=6) rfl rfl ?_
   refine W.ret (au (ah (aZ (au (ah (QF.aq trivial rfl ?_))))))
   rw[hg];rfl
  have h148:((out.take k).any fun y=>decide (y.name=c.name))=false:=cF.symm.trans h148
  rw[h148,Bool.false_or] at hM
  refine W.skip (aX (qs (W.region ?_)))
  iterate 3 refine pE rfl ?_
  refine WO.nil (W.aU [0] ⟨k+1,?_⟩ ?_ rfl ?_ trivial ?_ trivial rfl)
  · exact⟨hlt,hM⟩
  · dsimp only;omega
  · repeat' first | exact trivial | refine⟨rfl,?_⟩ | refine⟨aD (by assumption) (by assumption),?_⟩
  repeat' exact trivial
 rw[hd] at hM
 simp only[fu] at hM
 rw[if_neg (by rw[←hM];decide)] at hg
 refine W.exit (aN (aQ (aO (qs ?_))))
 iterate 2 refine W.seq ?_
 refine W.region ?_
 iterate 3 refine pE rfl ?_
 refine WO.nil (qs (ao rfl (fun h151=>?_) (fun h151=>?_)))
 ·
  rw[if_pos (by simp at h151;omega)] at hg
  refine W.seq (W.region ?_)
  iterate 2 refine pE rfl ?_
  refine WO.nil (qs ?_)
  try refine aG (d:=6) rfl rfl ?_
  refine W.ret (ah (QF.aq trivial rfl ?_))
  rw[hg];rfl
 rw[if_neg (by simp at h151;omega)] at hg
 refine W.skip (qs (W.seq (W.region ?_)))
 iterate 3 refine pE rfl ?_
 refine WO.nil (qs ?_)
 try refine aG (d:=6) rfl rfl ?_
 refine W.ret (QF.aq trivial rfl ?_)
 rw[hg];rfl
end Go.Proofs.YtjenenllmjlimaaGreat
namespace Go.Proofs.YtjenenllmjlimaaGreat
open Go.Ab Go.Tb
set_option maxRecDepth 10000
attribute [local irreducible] W WO Pu QS QB QL QF QV b7 CH QE
theorem pt:∀ (l:List kE) (ks:List ByteArray),dW ks l=0→∀ x∈l,dh x.e=0
 | [],_,_,x,hx=>by cases hx
 | y::r,ks,h,x,hx=>by
  simp only[dW] at h
  split at h
  · rename_i h1;exact absurd h h1
  rename_i h1
  split at h
  · rename_i h2;exact absurd h h2
  rcases List.mem_cons.1 hx with rfl | hx
  · simpa using h1
  exact pt r _ h x hx
theorem yu {s:dK} (h:¬ eB s=false):1≤s.op∧s.op≤9:=by
 rw[pX] at h
 by_cases q:s.op < 1 <;> by_cases q2:9 < s.op <;> simp[q,q2] at h <;> omega
theorem r7 (d:List iH) (cols:List Col) (s:dK) (hf:l7 s) (ht:vZ d) (hc:cols.length≤1000):ax Tryz.prog 48 [.d (.sl (d.map iH.c)),.d (.sl (cols.map Col.c)),.ag s.c]
  (.tup [.d (.sl ((dy d cols s).1.map Col.c)),.d (.v (.int .i64 (dy d cols s).2))]) 0:=by
 obtain⟨hf1,hf2,hf3,hf4⟩:=id hf
 have hg:dy d cols s=dy d cols s:=rfl
 conv at hg=>rhs;unfold dy
 refine ax.aT (n:=101) (ts:=[6,7]) Tryz.func48 (by kernel_rfl) rfl Tryz.ntmps48 Tryz.results48 rfl rfl fun C hC hG=>?_
 refine W.seq (W.region (br rfl rfl rfl ?_))
 iterate 2 refine pE rfl ?_
 refine WO.nil (qs (W.seq (W.region (pE rfl (pu (ak rfl rfl rfl (xN s hf) rfl) rfl ?_)))))
 refine pE rfl (WO.nil (qs ?_))
 iterate 2 refine W.seq ?_
 refine W.region ?_
 iterate 2 refine pE rfl ?_
 refine WO.nil (qs (ao rfl (fun h17=>?_) (fun h17=>?_)))
 ·
  rw[if_pos (by simpa using h17)] at hg
  refine W.seq (W.region ?_)
  iterate 3 refine pE rfl ?_
  refine WO.nil (qs ?_)
  try refine aG (d:=6) rfl rfl ?_
  refine W.ret (ah (QF.aq trivial rfl ?_))
  rw[hg];rfl
 have h17:bZ s=0:=by simpa using h17
 rw[if_neg (by simp[h17])] at hg
 have hse:=h17
 unfold bZ at hse
 split at hse
 · cases hse
 rename_i hub
 have hop:=yu hub
 refine W.skip (qs ?_)
 iterate 2 refine W.seq ?_
 refine W.region (pE rfl (pE rfl (WO.nil (qs (W.block (W.seq (W.region ?_)))))))
 iterate 2 refine pE rfl ?_
 refine WO.nil (qs (ao rfl (fun h21=>?_) (fun h21=>?_)))
 ·
  have h21:s.op=1:=by simpa using h21
  rw[if_pos h21] at hg hse
  have hX:=sg cols s.cond
  rw[show lM cols s.cond=cX cols s.cond by unfold lM;rw[if_neg (by simp[hse])]] at hX
  refine W.seq (W.region ?_)
  iterate 2 refine pE rfl ?_
  refine pE rfl (pu (ak rfl rfl rfl hX rfl) rfl ?_)
  iterate 5 refine pE rfl ?_
  refine WO.nil (qs ?_)
  iterate 2 refine W.seq ?_
  apply aC;(case hb=>rfl)
  ·
   iterate 3 refine pE rfl ?_
   apply aw;(case hj=>rfl);(case hl=>rfl)
   ·
    refine ab rfl rfl (pE rfl (ab rfl rfl (pu (ak rfl rfl rfl (fa ..) rfl) rfl ?_)))
    refine ab rfl rfl ?_
    iterate 2 refine pE rfl ?_
    refine WO.nil (ay rfl rfl rfl)
   iterate 3 refine ar rfl rfl rfl rfl ?_
   refine pE rfl (WO.nil (ay rfl rfl rfl))
  refine qs (ao rfl (fun h36=>?_) (fun h36=>?_))
  ·
   have h36:(cX cols s.cond).2=0∧fits (cX cols s.cond).1 1=false:=by revert h36;generalize fits (cX cols s.cond).1 1=u;by_cases q:(cX cols s.cond).2=0 <;> cases u <;> simp[q]
   have hw:fK cols s.cond=14:=by unfold fK;rw[if_pos h36]
   simp only[hw] at hg
   refine W.region (pE rfl (WO.nil (qs ?_)))
   iterate 2 refine W.seq ?_
   refine W.region ?_
   iterate 2 refine pE rfl ?_
   refine WO.nil (qs (ao rfl (fun h38=>?_) (fun h38=>?_)))
   ·
    rw[if_pos (by first | decide | simpa using h38)] at hg
    refine W.seq (W.region ?_)
    iterate 3 refine pE rfl ?_
    refine WO.nil (qs ?_)
    try refine aG (d:=6) rfl rfl ?_
    refine W.ret (ah (au (ah (QF.aq trivial rfl ?_))))
    rw[hg];rfl
   rw[if_neg (by first | (exfalso;revert h38;decide) | simpa using h38)] at hg
   refine W.skip (qs (W.seq (W.region ?_)))
   iterate 3 refine pE rfl ?_
   refine WO.nil (qs ?_)
   try refine aG (d:=6) rfl rfl ?_
   refine W.ret (au (ah (QF.aq trivial rfl ?_)))
   rw[hg];rfl
  have h36:¬ ((cX cols s.cond).2=0∧fits (cX cols s.cond).1 1=false):=by revert h36;generalize fits (cX cols s.cond).1 1=u;by_cases q:(cX cols s.cond).2=0 <;> cases u <;> simp[q]
  have hw:fK cols s.cond=(cX cols s.cond).2:=by unfold fK;rw[if_neg h36]
  simp only[hw] at hg
  refine W.skip (qs ?_)
  iterate 2 refine W.seq ?_
  refine W.region ?_
  iterate 2 refine pE rfl ?_
  refine WO.nil (qs (ao rfl (fun h38=>?_) (fun h38=>?_)))
  ·
   rw[if_pos (by first | decide | simpa using h38)] at hg
   refine W.seq (W.region ?_)
   iterate 3 refine pE rfl ?_
   refine WO.nil (qs ?_)
   try refine aG (d:=6) rfl rfl ?_
   refine W.ret (ah (au (ah (QF.aq trivial rfl ?_))))
   rw[hg];rfl
  rw[if_neg (by first | (exfalso;revert h38;decide) | simpa using h38)] at hg
  refine W.skip (qs (W.seq (W.region ?_)))
  iterate 3 refine pE rfl ?_
  refine WO.nil (qs ?_)
  try refine aG (d:=6) rfl rfl ?_
  refine W.ret (au (ah (QF.aq trivial rfl ?_)))
  rw[hg];rfl
 have h21:¬ s.op=1:=by simpa using h21
 rw[if_neg h21] at hg hse
 refine W.seq (W.region ?_)
 iterate 2 refine pE rfl ?_
 refine WO.nil (qs (ao rfl (fun h41=>?_) (fun h41=>?_)))
 ·
  have h41:s.op=2:=by simpa using h41
  rw[if_pos h41] at hg hse
  have hsel:dW [] s.items=0:=by
   split at hse
   · rename_i h1;exact absurd hse h1
   exact hse
  refine W.seq (W.region ?_)
  iterate 2 refine pE rfl ?_
  refine pE rfl (pu (ak rfl rfl rfl (zD cols s.items (by omega) (pt _ _ hsel)) rfl) rfl ?_)
  iterate 4 refine pE rfl ?_
  refine WO.nil (qs ?_)
  try refine aG (d:=6) rfl rfl ?_
  refine W.ret (au (ah (QF.aq trivial rfl ?_)))
  rw[hg];rfl
 have h41:¬ s.op=2:=by simpa using h41
 rw[if_neg h41] at hg hse
 refine W.seq (W.region ?_)
 iterate 2 refine pE rfl ?_
 refine WO.nil (qs (ao rfl (fun h49=>?_) (fun h49=>?_)))
 ·
  have h49:s.op=3:=by simpa using h49
  rw[if_pos h49] at hg hse
  refine W.seq (W.region (pE rfl (pE rfl (pu (ak rfl rfl rfl (wY cols s hf) rfl) rfl ?_))))
  iterate 4 refine pE rfl ?_
  refine WO.nil (qs ?_)
  try refine aG (d:=6) rfl rfl ?_
  refine W.ret (au (ah (QF.aq trivial rfl ?_)))
  rw[hg];rfl
 have h49:¬ s.op=3:=by simpa using h49
 rw[if_neg h49] at hg hse
 refine W.seq (W.region ?_)
 iterate 2 refine pE rfl ?_
 refine WO.nil (qs (ao rfl (fun h56=>?_) (fun h56=>?_)))
 ·
  have h56:s.op=4:=by simpa using h56
  rw[if_pos h56] at hg hse
  iterate 2 refine W.seq ?_
  refine W.region (pE rfl (WO.nil (qs (W.block ?_))))
  have hlen:s.sorts.length≤maxLen:=by simp[maxLen];omega
  refine W.aS (ι:={x:Nat // match x with | k=>k≤s.sorts.length∧fS cols (s.sorts.drop k)=fS cols s.sorts})
   (fun x=>match x.1 with | k=>[(5,.ptr 0 0),(11,.d (.v (.int .i64 ((k:Nat):Int))))]) [(1,_)]
   (fun x=>match x.1 with | k=>[]) [(0,_)] [] 1 (fun x=>match x.1 with | k=>s.sorts.length - k)
   [0] ⟨0,?_⟩ rfl ?_ ⟨rfl,rfl,trivial⟩ ?_ ⟨rfl,rfl,trivial⟩ rfl ?_
  · exact⟨Nat.zero_le _,rfl⟩
  · repeat' first | exact trivial | refine⟨rfl,?_⟩
  · repeat' exact trivial
  rintro⟨k,hk,hI⟩
  show W _ _ _ _ _ ⟨[(5,.ptr 0 0),(11,.d (.v (.int .i64 ((k:Nat):Int)))),(1,_)],[(0,_)],[],1⟩
  iterate 2 refine W.seq ?_
  refine W.region ?_
  iterate 2 refine pE rfl ?_
  refine pE rfl ?_
  iterate 2 refine pE rfl ?_
  refine WO.nil (qs (a9 (l:=s.sorts) (k:=k) rfl (by simp[Ex.aF,aL]) hk (fun z hx hd hlt=>?_) (fun he hd=>?_)))
  ·
   rw[hd] at hI
   rw[show fS cols (z::s.sorts.drop (k+1))=(!(cols.any fun c=>decide (c.name=z.col)) || fS cols (s.sorts.drop (k+1))) from rfl] at hI
   refine W.skip (qs (W.seq (W.block (W.seq (W.region ?_)))))
   iterate 2 refine pE rfl ?_
   refine pE rfl (pE rfl (pu (indexAddr aa rfl rfl rfl rfl rfl rfl (Int.natCast_nonneg _) (aE hx) rfl) rfl ?_))
   refine pE rfl (pE rfl (pu (ak rfl rfl rfl (gM cols z.col) rfl) rfl ?_))
   refine pE rfl (WO.nil (qs (ao rfl (fun h73=>?_) (fun h73=>?_))))
   ·
    have h73:(cols.any fun c=>decide (c.name=z.col))=false:=by rw[←cF];simp at h73 ⊢;omega
    rw[h73] at hI
    rw[if_pos (by rw[←hI];rfl)] at hg
    refine W.seq (W.region ?_)
    iterate 2 refine pE rfl ?_
    refine WO.nil (qs ?_)
    try refine aG (d:=6) rfl rfl ?_
    refine W.ret (au (ah (aZ (au (ah (au (ah (QF.aq trivial rfl ?_))))))))
    rw[hg];rfl
   have h73:(cols.any fun c=>decide (c.name=z.col))=true:=by rw[←cF];simp at h73 ⊢;omega
   rw[h73] at hI
   refine W.skip (aX (qs (W.region ?_)))
   iterate 3 refine pE rfl ?_
   refine WO.nil (W.aU [0] ⟨k+1,?_⟩ ?_ rfl ?_ ⟨rfl,rfl,trivial⟩ ?_ ⟨rfl,rfl,trivial⟩ rfl)
   · exact⟨hlt,hI⟩
   · dsimp only;omega
   · repeat' first | exact trivial | refine⟨rfl,?_⟩ | refine⟨aD (by assumption) (by assumption),?_⟩
   repeat' exact trivial
  rw[hd] at hI
  rw[if_neg (by rw[←hI];simp[fS])] at hg
  refine W.exit (aN (aQ (aO (qs (W.seq (W.region ?_))))))
  iterate 3 refine pE rfl ?_
  refine WO.nil (qs ?_)
  try refine aG (d:=6) rfl rfl ?_
  refine W.ret (au (ah (QF.aq trivial rfl ?_)))
  rw[hg];rfl
 have h56:¬ s.op=4:=by simpa using h56
 rw[if_neg h56] at hg hse
 refine W.seq (W.region ?_)
 iterate 2 refine pE rfl ?_
 refine WO.nil (qs (ao rfl (fun h75=>?_) (fun h75=>?_)))
 ·
  have h75:s.op=5:=by simpa using h75
  rw[if_neg (by omega),if_neg (by omega)] at hg
  refine W.seq (W.region ?_)
  iterate 3 refine pE rfl ?_
  refine WO.nil (qs ?_)
  try refine aG (d:=6) rfl rfl ?_
  refine W.ret (au (ah (QF.aq trivial rfl ?_)))
  rw[hg];rfl
 have h75:¬ s.op=5:=by simpa using h75
 refine W.seq (W.region ?_)
 iterate 2 refine pE rfl ?_
 refine WO.nil (qs (ao rfl (fun h78=>?_) (fun h78=>?_)))
 ·
  have h78:s.op=9:=by simpa using h78
  rw[if_pos h78] at hg
  refine W.seq (W.region (pE rfl (pE rfl (pu (ak rfl rfl rfl (yn cols s hf) rfl) rfl ?_))))
  iterate 4 refine pE rfl ?_
  refine WO.nil (qs ?_)
  try refine aG (d:=6) rfl rfl ?_
  refine W.ret (au (ah (QF.aq trivial rfl ?_)))
  rw[hg];rfl
 have h78:¬ s.op=9:=by simpa using h78
 rw[if_neg h78,if_pos (by omega)] at hg
 refine W.skip (aX (qs (W.seq ?_)))
 obtain⟨p,q,hpq⟩:=uK (dk d s.table)
 have hf':=wF d s.table
 rw[hpq] at hf'
 refine W.region ?_
 iterate 2 refine pE rfl ?_
 refine pE rfl (pu (ak rfl rfl rfl hf' rfl) rfl ?_)
 iterate 3 refine pE rfl ?_
 refine a8 aa rfl rfl rfl (aR aa rfl rfl rfl rfl rfl rfl rfl rfl (pE rfl (WO.nil (qs ?_))))
 iterate 2 refine W.seq ?_
 refine W.region ?_
 iterate 2 refine pE rfl ?_
 refine WO.nil (qs (ao rfl (fun h93=>?_) (fun h93=>?_)))
 ·
  have hq:dk d s.table=none:=by cases hq:dk d s.table with | none=>rfl | some t=>rw[hq] at h93;simp at h93
  unfold gF at hg
  rw[hq] at hg
  refine W.seq (W.region ?_)
  iterate 2 refine pE rfl ?_
  refine WO.nil (qs ?_)
  try refine aG (d:=6) rfl rfl ?_
  refine W.ret (ah (QF.aq trivial rfl ?_))
  rw[hg];rfl
 obtain⟨t,hq⟩:∃ t,dk d s.table=some t:=by cases hq:dk d s.table with | none=>rw[hq] at h93;simp at h93 | some t=>exact⟨t,rfl⟩
 unfold gF at hg
 rw[hq] at hg hpq
 simp only at hg
 have htc:t.cols.length≤1000:=by obtain⟨x,hx,rfl⟩:=so hq;exact ht x hx
 simp only[om,bo.c,List.cons.injEq,and_true] at hpq
 obtain⟨rfl,rfl⟩:=hpq
 refine W.skip (qs (W.seq (W.region ?_)))
 iterate 2 refine pE rfl ?_
 refine pE rfl (pE rfl (pu (ak rfl rfl rfl (wx cols t.cols s hf hc htc) rfl) rfl ?_))
 iterate 4 refine pE rfl ?_
 refine WO.nil (qs ?_)
 try refine aG (d:=6) rfl rfl ?_
 refine W.ret (QF.aq trivial rfl ?_)
 rw[hg];rfl
end Go.Proofs.YtjenenllmjlimaaGreat
namespace Go.Proofs.YtjenenllmjlimaaGreat
open Go.Ab Go.Tb
set_option maxRecDepth 10000
attribute [local irreducible] W WO Pu QS QB QL QF QV b7 CH QE
theorem uU (n:Int):ax Tryz.prog 125 [.d (.v (.int .i64 n))] (.d (.v (.bool false))) 0:=by
 refine ax.aT (n:=6) (ts:=[2]) Tryz.func125 (by kernel_rfl) rfl Tryz.ntmps125 Tryz.results125 rfl rfl fun C hC hG=>?_
 refine W.seq (W.region (pE rfl (WO.nil (qs (W.seq (W.region ?_))))))
 iterate 4 refine pE rfl ?_
 refine WO.nil (qs (W.ret (QF.aq trivial rfl ?_)))
 simp[norm,az]
theorem u5 (n:Int):ax Tryz.prog 89 [.d (.v (.int .i64 n))] (.d (.v (.bool false))) 0:=by
 refine ax.aT (n:=6) (ts:=[2]) Tryz.func89 (by kernel_rfl) rfl Tryz.ntmps89 Tryz.results89 rfl rfl fun C hC hG=>?_
 refine W.seq (W.region (pE rfl (WO.nil (qs (W.seq (W.region ?_))))))
 iterate 4 refine pE rfl ?_
 refine WO.nil (qs (W.ret (QF.aq trivial rfl ?_)))
 simp[norm,az]
theorem uM (n:ByteArray):ax Tryz.prog 126 [.d (.v (.string n))] (.d (.v (.bool false))) 0:=by
 refine ax.aT (n:=6) (ts:=[2]) Tryz.func126 (by kernel_rfl) rfl Tryz.ntmps126 Tryz.results126 rfl rfl fun C hC hG=>?_
 refine W.seq (W.region (pE rfl (WO.nil (qs (W.seq (W.region ?_))))))
 iterate 4 refine pE rfl ?_
 refine WO.nil (qs (W.ret (QF.aq trivial rfl ?_)))
 simp[norm,az]
theorem y7 (a b:Int):ax Tryz.prog 87 [.d (.v (.int .i64 a)),.d (.v (.int .i64 b))] (.d (.v (.int .i64 (cI a b)))) 0:=by
 refine ax.aT (n:=20) (ts:=[4]) Tryz.func87 (by kernel_rfl) rfl Tryz.ntmps87 Tryz.results87 rfl rfl fun C hC hG=>?_
 refine W.seq (W.region (pE rfl (WO.nil (qs (W.seq (W.region (pE rfl (pu (ak rfl rfl rfl (uU ..) rfl) rfl ?_))))))))
 refine pE rfl (WO.nil (qs (W.seq (W.region (pE rfl (pu (ak rfl rfl rfl (uU ..) rfl) rfl ?_))))))
 refine pE rfl (WO.nil (qs ?_))
 iterate 2 refine W.seq ?_
 refine W.region (pE rfl (WO.nil (qs (ao rfl (fun h11=>?_) (fun h11=>?_)))))
 ·
  iterate 2 refine W.seq ?_
  refine W.region (pE rfl (WO.nil (qs (ao rfl (fun h12=>?_) (fun h12=>?_)))))
  ·
   refine W.seq (W.region (pE rfl (WO.nil (qs (W.ret (ah (ah (QF.aq trivial rfl ?_))))))))
   simp only[norm,az] at *;grind[cI]
  refine W.skip (qs (W.seq (W.region (pE rfl (WO.nil (qs (W.ret (ah (QF.aq trivial rfl ?_)))))))))
  simp only[norm,az] at *;grind[cI]
 refine W.skip (qs ?_)
 iterate 2 refine W.seq ?_
 refine W.region (pE rfl (WO.nil (qs (ao rfl (fun h13=>?_) (fun h13=>?_)))))
 ·
  refine W.seq (W.region (pE rfl (WO.nil (qs (W.ret (ah (QF.aq trivial rfl ?_)))))))
  simp only[norm,az] at *;grind[cI]
 refine W.skip (qs ?_)
 iterate 2 refine W.seq ?_
 refine W.region ?_
 iterate 3 refine pE rfl ?_
 refine WO.nil (qs (ao rfl (fun h16=>?_) (fun h16=>?_)))
 ·
  refine W.seq (W.region (pE rfl (WO.nil (qs (W.ret (ah (QF.aq trivial rfl ?_)))))))
  simp only[norm,az] at *;grind[cI]
 refine W.skip (qs ?_)
 iterate 2 refine W.seq ?_
 refine W.region ?_
 iterate 3 refine pE rfl ?_
 refine WO.nil (qs (ao rfl (fun h19=>?_) (fun h19=>?_)))
 ·
  refine W.seq (W.region (pE rfl (WO.nil (qs (W.ret (ah (QF.aq trivial rfl ?_)))))))
  simp only[norm,az] at *;grind[cI]
 refine W.skip (qs (W.seq (W.region (pE rfl (WO.nil (qs (W.ret (QF.aq trivial rfl ?_))))))))
 simp only[norm,az] at *;grind[cI]
theorem uI (a b:Int):ax Tryz.prog 59 [.d (.v (.int .i64 a)),.d (.v (.int .i64 b))] (.d (.v (.int .i64 (cI a b)))) 0:=by
 refine ax.aT (n:=20) (ts:=[4]) Tryz.func59 (by kernel_rfl) rfl Tryz.ntmps59 Tryz.results59 rfl rfl fun C hC hG=>?_
 refine W.seq (W.region (pE rfl (WO.nil (qs (W.seq (W.region (pE rfl (pu (ak rfl rfl rfl (u5 ..) rfl) rfl ?_))))))))
 refine pE rfl (WO.nil (qs (W.seq (W.region (pE rfl (pu (ak rfl rfl rfl (u5 ..) rfl) rfl ?_))))))
 refine pE rfl (WO.nil (qs ?_))
 iterate 2 refine W.seq ?_
 refine W.region (pE rfl (WO.nil (qs (ao rfl (fun h11=>?_) (fun h11=>?_)))))
 ·
  iterate 2 refine W.seq ?_
  refine W.region (pE rfl (WO.nil (qs (ao rfl (fun h12=>?_) (fun h12=>?_)))))
  ·
   refine W.seq (W.region (pE rfl (WO.nil (qs (W.ret (ah (ah (QF.aq trivial rfl ?_))))))))
   simp only[norm,az] at *;grind[cI]
  refine W.skip (qs (W.seq (W.region (pE rfl (WO.nil (qs (W.ret (ah (QF.aq trivial rfl ?_)))))))))
  simp only[norm,az] at *;grind[cI]
 refine W.skip (qs ?_)
 iterate 2 refine W.seq ?_
 refine W.region (pE rfl (WO.nil (qs (ao rfl (fun h13=>?_) (fun h13=>?_)))))
 ·
  refine W.seq (W.region (pE rfl (WO.nil (qs (W.ret (ah (QF.aq trivial rfl ?_)))))))
  simp only[norm,az] at *;grind[cI]
 refine W.skip (qs ?_)
 iterate 2 refine W.seq ?_
 refine W.region ?_
 iterate 3 refine pE rfl ?_
 refine WO.nil (qs (ao rfl (fun h16=>?_) (fun h16=>?_)))
 ·
  refine W.seq (W.region (pE rfl (WO.nil (qs (W.ret (ah (QF.aq trivial rfl ?_)))))))
  simp only[norm,az] at *;grind[cI]
 refine W.skip (qs ?_)
 iterate 2 refine W.seq ?_
 refine W.region ?_
 iterate 3 refine pE rfl ?_
 refine WO.nil (qs (ao rfl (fun h19=>?_) (fun h19=>?_)))
 ·
  refine W.seq (W.region (pE rfl (WO.nil (qs (W.ret (ah (QF.aq trivial rfl ?_)))))))
  simp only[norm,az] at *;grind[cI]
 refine W.skip (qs (W.seq (W.region (pE rfl (WO.nil (qs (W.ret (QF.aq trivial rfl ?_))))))))
 simp only[norm,az] at *;grind[cI]
theorem zF (a b:ByteArray):ax Tryz.prog 88 [.d (.v (.string a)),.d (.v (.string b))] (.d (.v (.int .i64 (fP a b)))) 0:=by
 refine ax.aT (n:=20) (ts:=[4]) Tryz.func88 (by kernel_rfl) rfl Tryz.ntmps88 Tryz.results88 rfl rfl fun C hC hG=>?_
 refine W.seq (W.region (pE rfl (WO.nil (qs (W.seq (W.region (pE rfl (pu (ak rfl rfl rfl (uM ..) rfl) rfl ?_))))))))
 refine pE rfl (WO.nil (qs (W.seq (W.region (pE rfl (pu (ak rfl rfl rfl (uM ..) rfl) rfl ?_))))))
 refine pE rfl (WO.nil (qs ?_))
 iterate 2 refine W.seq ?_
 refine W.region (pE rfl (WO.nil (qs (ao rfl (fun h11=>?_) (fun h11=>?_)))))
 ·
  iterate 2 refine W.seq ?_
  refine W.region (pE rfl (WO.nil (qs (ao rfl (fun h12=>?_) (fun h12=>?_)))))
  ·
   refine W.seq (W.region (pE rfl (WO.nil (qs (W.ret (ah (ah (QF.aq trivial rfl ?_))))))))
   simp only[norm,az] at *;grind[fP]
  refine W.skip (qs (W.seq (W.region (pE rfl (WO.nil (qs (W.ret (ah (QF.aq trivial rfl ?_)))))))))
  simp only[norm,az] at *;grind[fP]
 refine W.skip (qs ?_)
 iterate 2 refine W.seq ?_
 refine W.region (pE rfl (WO.nil (qs (ao rfl (fun h13=>?_) (fun h13=>?_)))))
 ·
  refine W.seq (W.region (pE rfl (WO.nil (qs (W.ret (ah (QF.aq trivial rfl ?_)))))))
  simp only[norm,az] at *;grind[fP]
 refine W.skip (qs ?_)
 iterate 2 refine W.seq ?_
 refine W.region ?_
 iterate 3 refine pE rfl ?_
 refine WO.nil (qs (ao rfl (fun h16=>?_) (fun h16=>?_)))
 ·
  refine W.seq (W.region (pE rfl (WO.nil (qs (W.ret (ah (QF.aq trivial rfl ?_)))))))
  simp only[norm,az] at *;grind[fP]
 refine W.skip (qs ?_)
 iterate 2 refine W.seq ?_
 refine W.region ?_
 iterate 3 refine pE rfl ?_
 refine WO.nil (qs (ao rfl (fun h19=>?_) (fun h19=>?_)))
 ·
  refine W.seq (W.region (pE rfl (WO.nil (qs (W.ret (ah (QF.aq trivial rfl ?_)))))))
  simp only[norm,az] at *;grind[fP]
 refine W.skip (qs (W.seq (W.region (pE rfl (WO.nil (qs (W.ret (QF.aq trivial rfl ?_))))))))
 simp only[norm,az] at *;grind[fP]
theorem qx (a b:Int):ax Tryz.prog 84 [.d (.v (.int .i64 a)),.d (.v (.int .i64 b))] (.d (.v (.int .i64 (cI a b)))) 0:=by
 refine ax.aT (n:=13) (ts:=[4]) Tryz.func84 (by kernel_rfl) rfl Tryz.ntmps84 Tryz.results84 rfl rfl fun C hC hG=>?_
 refine W.seq (W.region (pE rfl (WO.nil (qs (W.seq (W.block (W.seq (W.region ?_))))))))
 iterate 4 refine pE rfl ?_
 refine WO.nil (qs (ao rfl (fun h5=>?_) (fun h5=>?_)))
 ·
  refine W.seq (W.region (pE rfl (WO.nil (qs (W.ret (au (ah (QF.aq trivial rfl ?_))))))))
  simp only[norm,az] at *;grind[cI]
 refine W.seq (W.region ?_)
 iterate 4 refine pE rfl ?_
 refine WO.nil (qs (ao rfl (fun h9=>?_) (fun h9=>?_)))
 ·
  refine W.seq (W.region (pE rfl (WO.nil (qs (W.ret (au (ah (QF.aq trivial rfl ?_))))))))
  simp only[norm,az] at *;grind[cI]
 refine W.skip (aX (qs (W.seq (W.region (pE rfl (WO.nil (qs (W.ret (QF.aq trivial rfl ?_)))))))))
 simp only[norm,az] at *;grind[cI]
theorem x5 (a b:aH):ax Tryz.prog 58 [.ag a.c,.ag b.c] (.d (.v (.int .i64 (dd a b)))) 0:=by
 refine ax.aT (n:=39) (ts:=[4]) Tryz.func58 (by kernel_rfl) rfl Tryz.ntmps58 Tryz.results58 rfl rfl fun C hC hG=>?_
 refine W.seq (W.region (br rfl rfl rfl (br rfl rfl rfl (pE rfl (WO.nil (qs (W.seq (W.block (W.seq (W.region (pE rfl (pE rfl (pE rfl ?_)))))))))))))
 refine pE rfl ?_
 iterate 2 refine pE rfl ?_
 refine WO.nil (qs (ao rfl (fun h5=>?_) (fun h5=>?_)))
 ·
  refine W.seq (W.region (pE rfl (pE rfl (pE rfl (pE rfl (pu (ak rfl rfl rfl (y7 ..) rfl) rfl ?_))))))
  refine pE rfl (WO.nil (qs (W.ret (au (ah (QF.aq trivial rfl ?_))))))
  simp only[norm,az] at *;grind[dd]
 refine W.seq (W.region (pE rfl (pE rfl ?_)))
 iterate 2 refine pE rfl ?_
 refine WO.nil (qs (ao rfl (fun h16=>?_) (fun h16=>?_)))
 ·
  refine W.seq (W.region (pE rfl (pE rfl (pE rfl (pE rfl (pu (ak rfl rfl rfl (zF ..) rfl) rfl ?_))))))
  refine pE rfl (WO.nil (qs (W.ret (au (ah (QF.aq trivial rfl ?_))))))
  simp only[norm,az] at *;grind[dd]
 refine W.seq ?_
 apply aC;(case hb=>rfl)
 ·
  refine pE rfl (pE rfl ?_)
  iterate 2 refine pE rfl ?_
  apply aw;(case hj=>rfl);(case hl=>rfl)
  ·
   iterate 3 refine ar rfl rfl rfl rfl ?_
   iterate 2 refine pE rfl ?_
   refine WO.nil (ay rfl rfl rfl)
  refine ab rfl rfl (pE rfl (ab rfl rfl (pE rfl (ab rfl rfl ?_))))
  iterate 3 refine pE rfl ?_
  refine WO.nil (ay rfl rfl rfl)
 refine qs (ao rfl (fun h25=>?_) (fun h25=>?_))
 ·
  refine W.seq (W.region (pE rfl (pE rfl (pE rfl (pE rfl (pu (ak rfl rfl rfl (uI ..) rfl) rfl ?_))))))
  refine pE rfl (WO.nil (qs (W.ret (au (ah (QF.aq trivial rfl ?_))))))
  simp only[norm,az] at *;grind[dd]
 refine W.skip (aX (qs (W.seq (W.region (pE rfl (WO.nil (qs (W.ret (QF.aq trivial rfl ?_)))))))))
 simp only[norm,az] at *;grind[dd]
theorem wL (a b:aH):ax Tryz.prog 50 [.ag a.c,.ag b.c] (.d (.v (.int .i64 (dd a b)))) 0:=by
 refine ax.aT (n:=47) (ts:=[4]) Tryz.func50 (by kernel_rfl) rfl Tryz.ntmps50 Tryz.results50 rfl rfl fun C hC hG=>?_
 refine W.seq (W.region (br rfl rfl rfl (br rfl rfl rfl (pE rfl (WO.nil (qs (W.seq (W.block (W.seq (W.region (pE rfl (pE rfl (pE rfl ?_)))))))))))))
 refine pE rfl ?_
 iterate 2 refine pE rfl ?_
 refine WO.nil (qs (ao rfl (fun h5=>?_) (fun h5=>?_)))
 ·
  refine W.seq (W.region (pE rfl (pE rfl (pE rfl (pE rfl (pu (ak rfl rfl rfl (qx ..) rfl) rfl ?_))))))
  refine pE rfl (WO.nil (qs (W.ret (au (ah (QF.aq trivial rfl ?_))))))
  simp only[norm,az] at *;grind[dd,fP,kx]
 refine W.seq ?_
 apply aC;(case hb=>rfl)
 ·
  refine pE rfl (pE rfl ?_)
  iterate 2 refine pE rfl ?_
  apply aw;(case hj=>rfl);(case hl=>rfl)
  ·
   iterate 3 refine ar rfl rfl rfl rfl ?_
   iterate 2 refine pE rfl ?_
   refine WO.nil (ay rfl rfl rfl)
  refine ab rfl rfl (pE rfl (ab rfl rfl (pE rfl (ab rfl rfl ?_))))
  iterate 3 refine pE rfl ?_
  refine WO.nil (ay rfl rfl rfl)
 refine qs (ao rfl (fun h16=>?_) (fun h16=>?_))
 ·
  refine W.seq (W.region (pE rfl (pE rfl (pE rfl (pE rfl (pu (ak rfl rfl rfl (qx ..) rfl) rfl ?_))))))
  refine pE rfl (WO.nil (qs (W.ret (au (ah (QF.aq trivial rfl ?_))))))
  simp only[norm,az] at *;grind[dd,fP,kx]
 refine W.seq ?_
 apply aC;(case hb=>rfl)
 ·
  refine pE rfl (pE rfl ?_)
  iterate 2 refine pE rfl ?_
  apply aw;(case hj=>rfl);(case hl=>rfl)
  ·
   iterate 5 refine ar rfl rfl rfl rfl ?_
   iterate 2 refine pE rfl ?_
   refine WO.nil (ay rfl rfl rfl)
  refine ab rfl rfl (pE rfl (ab rfl rfl (pE rfl (ab rfl rfl (pE rfl (ab rfl rfl (pE rfl (ab rfl rfl ?_))))))))
  iterate 3 refine pE rfl ?_
  refine WO.nil (ay rfl rfl rfl)
 refine qs (ao rfl (fun h30=>?_) (fun h30=>?_))
 ·
  refine W.seq (W.region (pE rfl (WO.nil (qs (W.ret (au (ah (QF.aq trivial rfl ?_))))))))
  simp only[norm,az] at *;grind[dd,fP,kx]
 refine W.seq (W.region (pE rfl (pE rfl (pE rfl (pE rfl ?_)))))
 iterate 2 refine pE rfl ?_
 refine WO.nil (qs (ao rfl (fun h41=>?_) (fun h41=>?_)))
 ·
  refine W.seq (W.region (pE rfl (WO.nil (qs (W.ret (au (ah (QF.aq trivial rfl ?_))))))))
  simp only[norm,az] at *;grind[dd,fP,kx]
 refine W.skip (aX (qs (W.seq (W.region (pE rfl (WO.nil (qs (W.ret (QF.aq trivial rfl ?_)))))))))
 simp only[norm,az] at *;grind[dd,fP,kx]
end Go.Proofs.YtjenenllmjlimaaGreat
namespace Go.Proofs.YtjenenllmjlimaaGreat
open Go.Ab Go.Tb
set_option maxRecDepth 10000
attribute [local irreducible] W WO Pu QS QB QL QF QV b7 CH QE
theorem iI (l:List aH):∀ (x:List D),x∈l.map aH.c→x.length=3:=by
 intro x hx
 obtain⟨y,_,rfl⟩:=List.mem_map.1 hx
 rfl
theorem xc (l:List aH) (h:l.length≤100000):dE Tryz.prog 27 [.d (.sl (l.map aH.c))] [] 0 (.xs 0 (l.map aH.c)) [] 1:=by
 refine dE.fg aa (n:=8) (rs:=[.tmp 2]) Tryz.func27 (by kernel_rfl) rfl Tryz.ntmps27 Tryz.results27 rfl rfl fun C hC hG=>?_
 refine W.seq (W.region (pE rfl (WO.nil (qs ?_))))
 iterate 2 refine W.seq ?_
 refine W.region (pE rfl (mA aa rfl rfl rfl rfl rfl (fun b4 hb4=>?_)))
 refine WO.nil (qs (ao rfl (fun h4=>?_) (fun h4=>?_)))
 ·
  refine W.seq (W.region (pE rfl (WO.nil (qs ?_))))
  try refine W.oL (d:=2) rfl rfl ?_
  refine W.ret (ah (ik.end aa [0] trivial rfl rfl rfl rfl ?_ ?_))
  · exact trivial
  have hl0:=hb4 h4
  rw[hl0];rfl
 refine W.skip (qs (W.seq (W.region (wT (es:=[]) aa rfl rfl rfl rfl rfl rfl rfl (fun x hx=>nomatch hx) rfl ?_))))
 refine pE rfl (iY (es2:=l.map aH.c) aa rfl rfl rfl rfl rfl rfl rfl rfl rfl rfl (List.nil_append _) (by rw[List.nil_append];exact iI _) (by show(0+(l.map aH.c).length)*32≤_;rw[List.length_map];omega) rfl ?_)
 refine pE rfl (WO.nil (qs ?_))
 try refine W.oL (d:=2) rfl rfl ?_
 refine W.ret (ik.end aa [1] trivial rfl rfl rfl rfl ?_ ?_)
 · exact trivial
 rfl
theorem lX (l:List aH) (h:l.length≤100000):ax Tryz.prog 27 [.d (.sl (l.map aH.c))] (.own 0 (l.map aH.c)) 1:=by
 refine ax.aT (n:=8) (ts:=[2]) Tryz.func27 (by kernel_rfl) rfl Tryz.ntmps27 Tryz.results27 rfl rfl fun C hC hG=>?_
 refine W.seq (W.region (pE rfl (WO.nil (qs ?_))))
 iterate 2 refine W.seq ?_
 refine W.region (pE rfl (mA aa rfl rfl rfl rfl rfl (fun b4 hb4=>?_)))
 refine WO.nil (qs (ao rfl (fun h4=>?_) (fun h4=>?_)))
 ·
  refine W.seq (W.region (pE rfl (WO.nil (qs ?_))))
  try refine aG (d:=2) rfl rfl ?_
  refine W.ret (ah (QF.lr 0 trivial rfl (by simp) ?_))
  have hl0:=hb4 h4
  rw[hl0];rfl
 refine W.skip (qs (W.seq (W.region (mq aa rfl rfl rfl rfl rfl rfl rfl rfl (by rfl) ?_))))
 refine pE rfl (dn (l:=[]) (fn:=aH.c) aa rfl rfl rfl rfl rfl rfl rfl rfl rfl rfl (fun _=>rfl) (by show(0+l.length)*32≤_;omega) ?_)
 refine pE rfl (WO.nil (qs ?_))
 try refine aG (d:=2) rfl rfl ?_
 refine W.ret (QF.lr 1 trivial rfl (by simp) ?_)
 rfl
theorem rS (l:List ByteArray) (h:l.length≤100000):ax Tryz.prog 23 [.d (.sl (l.map sc))] (.own 0 (l.map sc)) 1:=by
 refine ax.aT (n:=8) (ts:=[2]) Tryz.func23 (by kernel_rfl) rfl Tryz.ntmps23 Tryz.results23 rfl rfl fun C hC hG=>?_
 refine W.seq (W.region (pE rfl (WO.nil (qs ?_))))
 iterate 2 refine W.seq ?_
 refine W.region (pE rfl (mA aa rfl rfl rfl rfl rfl (fun b4 hb4=>?_)))
 refine WO.nil (qs (ao rfl (fun h4=>?_) (fun h4=>?_)))
 ·
  refine W.seq (W.region (pE rfl (WO.nil (qs ?_))))
  try refine aG (d:=2) rfl rfl ?_
  refine W.ret (ah (QF.lr 0 trivial rfl (by simp) ?_))
  have hl0:=hb4 h4
  rw[hl0];rfl
 refine W.skip (qs (W.seq (W.region (mq aa rfl rfl rfl rfl rfl rfl rfl rfl (by rfl) ?_))))
 refine pE rfl (dn (l:=[]) (fn:=sc) aa rfl rfl rfl rfl rfl rfl rfl rfl rfl rfl (fun _=>rfl) (by show(0+l.length)*16≤_;omega) ?_)
 refine pE rfl (WO.nil (qs ?_))
 try refine aG (d:=2) rfl rfl ?_
 refine W.ret (QF.lr 1 trivial rfl (by simp) ?_)
 rfl
theorem lR {a b:aH}:(decide (a.kind=b.kind) && (decide (a.n=b.n) && decide (a.s=b.s)))=decide (a=b):=by
 obtain⟨x,y,z⟩:=a
 obtain⟨x',y',z'⟩:=b
 simp only[aH.mk.injEq]
 by_cases h1:x=x' <;> by_cases h2:y=y' <;> by_cases h3:z=z' <;> simp[h1,h2,h3]
theorem xe (l:List aH) (s:aH):ax Tryz.prog 72 [.d (.sl (l.map aH.c)),.ag s.c] (.d (.v (.int .i64 (idx (l.findIdx? fun x=>decide (s=x)))))) 0:=by
 refine ax.aT (n:=19) (ts:=[4]) Tryz.func72 (by kernel_rfl) rfl Tryz.ntmps72 Tryz.results72 rfl rfl fun C hC hG=>?_
 refine W.seq (W.region (br rfl rfl rfl (pE rfl (WO.nil (qs ?_)))))
 iterate 2 refine W.seq ?_
 refine W.region ?_
 iterate 3 refine pE rfl ?_
 refine WO.nil (qs (W.block (W.len (t:=0) rfl rfl (fun hlen=>?_))))
 try simp only[List.length_map,Ex.aF] at hlen
 refine W.aS (ι:={x:Nat // match x with | k=>k≤l.length∧bm (fun x=>decide (s=x)) l k})
  (fun x=>match x.1 with | k=>[(3,.ptr 0 0),(8,.d (.v (.int .i64 ((k:Nat):Int))))]) [(0,_),(7,_)]
  (fun x=>match x.1 with | k=>[(0,s.c.map A.d)]) [] [] 1 (fun x=>match x.1 with | k=>l.length - k)
  [0] ⟨0,?_⟩ rfl ?_ ⟨rfl,rfl,rfl,rfl,trivial⟩ ?_ trivial rfl ?_
 · exact⟨Nat.zero_le _,bm.zero⟩
 · repeat' first | exact trivial | refine⟨rfl,?_⟩
 · repeat' first | exact trivial | refine⟨rfl,?_⟩
 rintro⟨k,hk,hI⟩
 show W _ _ _ _ _ ⟨[(3,.ptr 0 0),(8,.d (.v (.int .i64 ((k:Nat):Int)))),(0,_),(7,_)],[(0,s.c.map A.d)],[],1⟩
 refine W.seq (W.region (pE rfl (WO.nil (qs (W.seq (a9 (l:=l) (k:=k) rfl (by simp[Ex.aF,aL]) hk (fun x hx hd hlt=>?_) (fun he hd=>?_)))))))
 ·
  refine W.skip (qs (W.seq (W.block (W.seq (W.region ?_)))))
  iterate 2 refine pE rfl ?_
  refine WO.nil (qs (W.seq (W.be aa (by kernel_rfl) ?_)))
  refine an (ev aa rfl) rfl ?_
  iterate 2 refine an (ev aa rfl) rfl ?_
  refine an (indexAddr aa rfl rfl rfl rfl rfl rfl (Int.natCast_nonneg _) (aE hx) rfl) rfl ?_
  refine an (ev aa rfl) rfl ?_
  refine an (ev aa rfl) rfl ?_
  refine CH.nil ?_
  refine qs (ao rfl (fun h16=>?_) (fun h16=>?_))
  ·
   have h16:decide (s=x)=true:=by rw[←lR];simpa using h16
   refine W.seq (W.region ?_)
   iterate 2 refine pE rfl ?_
   refine WO.nil (qs (W.ret (au (ah (aZ (au (ah (QF.aq trivial rfl ?_))))))))
   simp only[norm,az];rw[hI.found hx h16];rfl
  have h16:decide (s=x)=false:=by rw[←lR];simpa using h16
  refine W.skip (aX (qs (W.region ?_)))
  iterate 2 refine pE rfl ?_
  refine WO.nil (W.aU [0] ⟨k+1,?_⟩ ?_ rfl ?_ ⟨rfl,rfl,rfl,rfl,trivial⟩ ?_ trivial rfl)
  · exact⟨hlt,hI.step hx h16⟩
  · dsimp only;omega
  · repeat' first | exact trivial | refine⟨rfl,?_⟩ | refine⟨aD (by assumption) (by assumption),?_⟩
  repeat' first | exact trivial | refine⟨rfl,?_⟩
 refine W.exit (aN (aQ (aO (qs (W.seq (W.region (pE rfl (WO.nil (qs (W.ret (QF.aq trivial rfl ?_)))))))))))
 simp only[norm,az];rw[hI.end_ he];rfl
theorem tE (l:List aH) (s:aH):ax Tryz.prog 46 [.d (.sl (l.map aH.c)),.ag s.c] (.d (.v (.bool (l.any fun x=>decide (s=x))))) 0:=by
 refine ax.aT (n:=9) (ts:=[4]) Tryz.func46 (by kernel_rfl) rfl Tryz.ntmps46 Tryz.results46 rfl rfl fun C hC hG=>?_
 refine W.seq (W.region (br rfl rfl rfl (pE rfl (WO.nil (qs (W.seq (W.region (pE rfl (pE rfl (pu (ak rfl rfl rfl (xe l s) rfl) rfl ?_))))))))))
 iterate 2 refine pE rfl ?_
 refine WO.nil (qs (W.ret (QF.aq trivial rfl ?_)))
 simp only[norm,az];rw[←cF]
theorem ot (a b:List aH):ax Tryz.prog 38 [.d (.sl (a.map aH.c)),.d (.sl (b.map aH.c))] (.d (.v (.bool (decide (a=b))))) 0:=by
 refine ax.aT (n:=26) (ts:=[4]) Tryz.func38 (by kernel_rfl) rfl Tryz.ntmps38 Tryz.results38 rfl rfl fun C hC hG=>?_
 refine W.seq (W.region (pE rfl (WO.nil (qs ?_))))
 iterate 2 refine W.seq ?_
 refine W.region ?_
 iterate 5 refine pE rfl ?_
 refine WO.nil (qs (ao rfl (fun h10=>?_) (fun h10=>?_)))
 ·
  have hg:decide (a=b)=false:=decide_eq_false (by rintro rfl;simp at h10)
  refine W.seq (W.region (pE rfl (WO.nil (qs (W.ret (ah (QF.aq trivial rfl ?_)))))))
  rw[hg];rfl
 have hl2:a.length=b.length:=by simp at h10;omega
 refine W.skip (qs ?_)
 iterate 2 refine W.seq ?_
 refine W.region ?_
 iterate 3 refine pE rfl ?_
 refine WO.nil (qs (W.block (W.len (t:=0) rfl rfl (fun hlen=>?_))))
 try simp only[List.length_map,Ex.aF] at hlen
 refine W.aS (ι:={x:Nat // match x with | k=>k≤a.length∧(a.drop k=b.drop k↔a=b)})
  (fun x=>match x.1 with | k=>[(13,.d (.v (.int .i64 ((k:Nat):Int))))]) [(0,_),(1,_),(12,_)]
  (fun x=>match x.1 with | k=>[]) [] [] 0 (fun x=>match x.1 with | k=>a.length - k)
  [] ⟨0,?_⟩ rfl ?_ ⟨rfl,rfl,rfl,rfl,rfl,rfl,trivial⟩ ?_ trivial rfl ?_
 · exact⟨Nat.zero_le _,by simp⟩
 · repeat' first | exact trivial | refine⟨rfl,?_⟩
 · repeat' exact trivial
 rintro⟨k,hk,hI⟩
 show W _ _ _ _ _ ⟨[(13,.d (.v (.int .i64 ((k:Nat):Int)))),(0,_),(1,_),(12,_)],[],[],0⟩
 refine W.seq (W.region (pE rfl (WO.nil (qs (W.seq (a9 (l:=a) (k:=k) rfl (by simp[Ex.aF,aL]) hk (fun x hx hd hlt=>?_) (fun he hd=>?_)))))))
 ·
  obtain⟨y,hy⟩:∃ y,b[k]? = some y:=⟨b[k]'(by omega),by simp⟩
  have hd2:b.drop k=y::b.drop (k+1):=by
   have hlt2:k < b.length:=by omega
   have:=List.drop_eq_getElem_cons hlt2
   rw[this,(List.getElem?_eq_some_iff.1 hy).2]
  rw[hd,hd2] at hI
  refine W.skip (qs (W.seq (W.block (W.seq (W.region ?_)))))
  iterate 2 refine pE rfl ?_
  refine WO.nil (qs (W.seq (W.be aa (by kernel_rfl) ?_)))
  iterate 2 refine an (ev aa rfl) rfl ?_
  refine an (indexAddr aa rfl rfl rfl rfl rfl rfl (Int.natCast_nonneg _) (aE hx) rfl) rfl ?_
  refine an (ev aa rfl) rfl ?_
  iterate 2 refine an (ev aa rfl) rfl ?_
  refine an (indexAddr (l:=y.c) aa rfl rfl rfl rfl rfl rfl (Int.natCast_nonneg _) (aE hy) rfl) rfl ?_
  refine an (ev aa rfl) rfl ?_
  refine an (ev aa rfl) rfl ?_
  refine CH.nil ?_
  refine qs (ao rfl (fun h24=>?_) (fun h24=>?_))
  ·
   have hxy:x≠y:=by rintro rfl;simp at h24
   have hg:decide (a=b)=false:=decide_eq_false (fun q=>by have:=hI.2 q;simp at this;exact hxy this.1)
   refine W.seq (W.region (pE rfl (WO.nil (qs (W.ret (au (ah (aZ (au (ah (QF.aq trivial rfl ?_)))))))))))
   rw[hg];rfl
  have hxy:x=y:=by
   have:=lR (a:=x) (b:=y)
   exact of_decide_eq_true (by rw[←this];simpa using h24)
  have hn:a.drop (k+1)=b.drop (k+1)↔a=b:=by rw[←hI,hxy];simp
  refine W.skip (aX (qs (W.region ?_)))
  iterate 2 refine pE rfl ?_
  refine WO.nil (W.aU [] ⟨k+1,?_⟩ ?_ rfl ?_ ⟨rfl,rfl,rfl,rfl,rfl,rfl,trivial⟩ ?_ trivial rfl)
  · exact⟨hlt,hn⟩
  · dsimp only;omega
  · repeat' first | exact trivial | refine⟨aD (by assumption) (by assumption),?_⟩
  repeat' exact trivial
 have hd2:b.drop k=[]:=List.drop_eq_nil_of_le (by have:=congrArg List.length hd;simp at this;omega)
 rw[hd,hd2] at hI
 have hg:decide (a=b)=true:=decide_eq_true (hI.1 rfl)
 refine W.exit (aN (aQ (aO (qs (W.seq (W.region (pE rfl (WO.nil (qs (W.ret (QF.aq trivial rfl ?_)))))))))))
 rw[hg];rfl
theorem tH (a b:List aH):ax Tryz.prog 25 [.d (.sl (a.map aH.c)),.d (.sl (b.map aH.c))] (.d (.v (.bool (kq a b)))) 0:=by
 refine ax.aT (n:=14) (ts:=[4]) Tryz.func25 (by kernel_rfl) rfl Tryz.ntmps25 Tryz.results25 rfl rfl fun C hC hG=>?_
 refine W.seq (W.region (pE rfl (WO.nil (qs (W.seq ?_)))))
 apply aC;(case hb=>rfl)
 ·
  iterate 2 refine pE rfl ?_
  refine pu (ak rfl rfl rfl (ot a b) rfl) rfl ?_
  refine pE rfl ?_
  apply aw;(case hj=>rfl);(case hl=>rfl)
  ·
   refine ab rfl rfl (pE rfl (ab rfl rfl (pu (build aa rfl rfl rfl rfl) rfl ?_)))
   refine ab rfl rfl (pu (ak rfl rfl rfl (tE a gh) rfl) rfl ?_)
   refine ab rfl rfl ?_
   iterate 3 refine pE rfl ?_
   refine WO.nil (ay rfl rfl rfl)
  iterate 4 refine ar rfl rfl rfl rfl ?_
  iterate 2 refine pE rfl ?_
  refine WO.nil (ay rfl rfl rfl)
 refine qs (W.ret (QF.aq trivial rfl ?_))
 simp only[norm,az];unfold kq;first | rfl | (simp only[*];done) | (simp[*];done) | skip
end Go.Proofs.YtjenenllmjlimaaGreat
namespace Go.Proofs.YtjenenllmjlimaaGreat
open Go.Ab Go.Tb
set_option maxRecDepth 10000
attribute [local irreducible] W WO Pu QS QB QL QF QV b7 CH QE
theorem jm (r:List aH) (at_:List Nat) (h:at_.length≤100000) (hr:∀ i∈at_,i < r.length):ax Tryz.prog 26 [.d (.sl (r.map aH.c)),.d (.sl (at_.map nc))] (.d (.sl ((bF r at_).map aH.c))) 0:=by
 refine ax.aT (n:=23) (ts:=[4]) Tryz.func26 (by kernel_rfl) rfl Tryz.ntmps26 Tryz.results26 rfl rfl fun C hC hG=>?_
 refine W.seq (W.region (pE rfl (WO.nil (qs (W.seq (W.region (pE rfl (WO.nil (qs ?_)))))))))
 iterate 2 refine W.seq ?_
 refine W.region ?_
 iterate 3 refine pE rfl ?_
 refine WO.nil (qs (W.block (aG (d:=5) rfl rfl ?_)))
 refine W.len (t:=8) rfl rfl (fun hlen=>?_)
 try simp only[List.length_map,Ex.aF] at hlen
 refine W.aS (ι:={x:Nat×List aH // match x with | (k,out)=>k≤at_.length∧out=bF r (at_.take k)})
  (fun x=>match x.1 with | (k,out)=>[(5,.own 0 (out.map aH.c)),(10,.d (.v (.int .i64 ((k:Nat):Int))))]) [(0,_),(8,_),(9,_)]
  (fun x=>match x.1 with | (k,out)=>[]) [] [0] 1 (fun x=>match x.1 with | (k,out)=>at_.length - k)
  [0] ⟨(0,[]),?_⟩ rfl ?_ ⟨rfl,rfl,rfl,rfl,rfl,rfl,trivial⟩ ?_ trivial rfl ?_
 · exact⟨Nat.zero_le _,rfl⟩
 · repeat' first | exact trivial | refine⟨rfl,?_⟩
 · repeat' exact trivial
 rintro⟨⟨k,out⟩,hk,hI⟩
 show W _ _ _ _ _ ⟨[(5,.own 0 (out.map aH.c)),(10,.d (.v (.int .i64 ((k:Nat):Int)))),(0,_),(8,_),(9,_)],[],[0],1⟩
 refine W.seq (W.region (pE rfl (WO.nil (qs (W.seq (a9 (l:=at_) (k:=k) rfl (by simp[Ex.aF,aL]) hk (fun i hx hd hlt=>?_) (fun he hd=>?_)))))))
 ·
  have hi:=hr i (List.mem_of_getElem? hx)
  have hv:r[i]? = some (bh r i):=by unfold bh;rw[List.getD_eq_getElem?_getD,List.getElem?_eq_getElem hi];rfl
  have hol:out.length≤k:=by rw[hI];unfold bF;simp;omega
  refine W.skip (qs (W.seq (W.block (W.seq (W.region (pu (indexAddr aa rfl rfl rfl rfl rfl rfl (Int.natCast_nonneg _) (aE hx) rfl) rfl ?_))))))
  refine pE rfl (pE rfl (WO.nil (qs (W.region ?_))))
  iterate 3 refine pE rfl ?_
  refine pu (indexAddr (l:=(bh r i).c) aa rfl rfl rfl rfl rfl rfl (Int.natCast_nonneg _) (aE hv) rfl) rfl ?_
  refine pE rfl (pu (aI aa rfl rfl rfl rfl rfl rfl rfl rfl rfl) rfl ?_)
  refine bJ (fn:=aH.c) (a:=bh r i) aa rfl rfl rfl rfl rfl rfl rfl rfl rfl rfl (fun _=>rfl) (by show(out.length+1)*32≤_;omega) ?_
  refine pE rfl (WO.nil (aX (qs (W.region ?_))))
  iterate 2 refine pE rfl ?_
  refine WO.nil (W.aU [1] ⟨(k+1,out++[bh r i]),?_⟩ ?_ rfl ?_ ⟨rfl,rfl,rfl,rfl,rfl,rfl,trivial⟩ ?_ trivial rfl)
  · exact⟨hlt,by rw[hI];unfold bF;rw[List.take_add_one,hx];simp⟩
  · dsimp only;omega
  · repeat' first | exact trivial | refine⟨rfl,?_⟩ | refine⟨aD (by assumption) (by assumption),?_⟩
  repeat' exact trivial
 have hfin:out=bF r at_:=by rw[hI,List.take_of_length_le (by have:=congrArg List.length hd;simp at this;omega)]
 refine W.exit (aN (aQ (aO (qs (W.seq (W.region ?_))))))
 iterate 2 refine pE rfl ?_
 refine WO.nil (qs (W.ret (QF.aq trivial rfl ?_)))
 simp only[norm,az];rw[hfin];rfl
theorem eU (t:bo) (l:List ByteArray) (h:l.length≤100000):ax Tryz.prog 21 [.ag t.c,.d (.sl (l.map sc))] (.d (.sl (l.map fun s=>ic (idx (dp t.cols s))))) 0:=by
 refine ax.aT (n:=22) (ts:=[4]) Tryz.func21 (by kernel_rfl) rfl Tryz.ntmps21 Tryz.results21 rfl rfl fun C hC hG=>?_
 refine W.seq (W.region (br rfl rfl rfl (pE rfl (WO.nil (qs (W.seq (W.region (pE rfl (WO.nil (qs ?_))))))))))
 iterate 2 refine W.seq ?_
 refine W.region ?_
 iterate 3 refine pE rfl ?_
 refine WO.nil (qs (W.block (aG (d:=5) rfl rfl ?_)))
 refine W.len (t:=8) rfl rfl (fun hlen=>?_)
 try simp only[List.length_map,Ex.aF] at hlen
 refine W.aS (ι:={x:Nat×List Int // match x with | (k,out)=>k≤l.length∧out=(l.take k).map fun s=>idx (dp t.cols s)})
  (fun x=>match x.1 with | (k,out)=>[(2,.ptr 0 0),(5,.own 1 (out.map ic)),(10,.d (.v (.int .i64 ((k:Nat):Int))))]) [(8,_),(9,_)]
  (fun x=>match x.1 with | (k,out)=>[(0,t.c.map A.d)]) [] [1] 2 (fun x=>match x.1 with | (k,out)=>l.length - k)
  [0,1] ⟨(0,[]),?_⟩ rfl ?_ ⟨rfl,rfl,rfl,rfl,trivial⟩ ?_ trivial rfl ?_
 · exact⟨Nat.zero_le _,rfl⟩
 · repeat' first | exact trivial | refine⟨rfl,?_⟩
 · repeat' first | exact trivial | refine⟨rfl,?_⟩
 rintro⟨⟨k,out⟩,hk,hI⟩
 show W _ _ _ _ _ ⟨[(2,.ptr 0 0),(5,.own 1 (out.map ic)),(10,.d (.v (.int .i64 ((k:Nat):Int)))),(8,_),(9,_)],[(0,t.c.map A.d)],[1],2⟩
 refine W.seq (W.region (pE rfl (WO.nil (qs (W.seq (a9 (l:=l) (k:=k) rfl (by simp[Ex.aF,aL]) hk (fun s hx hd hlt=>?_) (fun he hd=>?_)))))))
 ·
  have hol:out.length≤k:=by rw[hI];simp;omega
  have htc:ax Tryz.prog 34 [.ag t.c,.d (.v (.string s))] (.d (.v (.int .i64 (idx (dp t.cols s))))) 0:=rB t s
  refine W.skip (qs (W.seq (W.block (W.seq (W.region (pu (indexAddr aa rfl rfl rfl rfl rfl rfl (Int.natCast_nonneg _) (aE hx) rfl) rfl ?_))))))
  refine pE rfl (pE rfl (WO.nil (qs (W.region (pE rfl (pE rfl (pE rfl (pu (ak rfl rfl rfl htc rfl) rfl ?_))))))))
  refine pu (aI aa rfl rfl rfl rfl rfl rfl rfl rfl rfl) rfl ?_
  refine bJ (fn:=ic) (a:=idx (dp t.cols s)) aa rfl rfl rfl rfl rfl rfl rfl rfl rfl rfl (fun _=>rfl) (by show(out.length+1)*8≤_;omega) ?_
  refine pE rfl (WO.nil (aX (qs (W.region ?_))))
  iterate 2 refine pE rfl ?_
  refine WO.nil (W.aU [0,2] ⟨(k+1,out++[idx (dp t.cols s)]),?_⟩ ?_ rfl ?_ ⟨rfl,rfl,rfl,rfl,trivial⟩ ?_ trivial rfl)
  · exact⟨hlt,by rw[hI,List.take_add_one,hx];simp⟩
  · dsimp only;omega
  · repeat' first | exact trivial | refine⟨rfl,?_⟩ | refine⟨aD (by assumption) (by assumption),?_⟩
  repeat' first | exact trivial | refine⟨rfl,?_⟩
 have hfin:out=l.map fun s=>idx (dp t.cols s):=by rw[hI,List.take_of_length_le (by have:=congrArg List.length hd;simp at this;omega)]
 refine W.exit (aN (aQ (aO (qs (W.seq (W.region ?_))))))
 iterate 2 refine pE rfl ?_
 refine WO.nil (qs (W.ret (QF.aq trivial rfl ?_)))
 simp only[norm,az];rw[hfin,List.map_map];rfl
theorem qk:∀ (not:List ByteArray) (cols:List Col) (k i:Nat) (c:Col),cols[k]? = some c→eF not (cols.take (k+1)) i=eF not (cols.take k) i++(if not.any (fun x=>decide (c.name=x)) then [] else [i+k])
 | not,[],k,i,c,h=>by simp at h
 | not,d::r,0,i,c,h=>by
  simp at h
  subst h
  simp only[List.take_succ_cons,List.take_zero,eF]
  split <;> simp
 | not,d::r,k+1,i,c,h=>by
  have ih:=qk not r k (i+1) c (by simpa using h)
  rw[List.take_succ_cons,List.take_succ_cons,eF,eF,ih,show i+1+k=i+(k+1) by omega]
  split <;> simp
theorem lY:∀ (not:List ByteArray) (cols:List Col) (i:Nat),(eF not cols i).length≤cols.length
 | _,[],_=>by simp[eF]
 | not,c::r,i=>by
  have:=lY not r (i+1)
  simp only[eF]
  split <;> simp <;> omega
theorem vb (t:bo) (names:List ByteArray) (h:t.cols.length≤100000):ax Tryz.prog 22 [.ag t.c,.d (.sl (names.map sc))] (.d (.sl ((eF names t.cols 0).map nc))) 0:=by
 refine ax.aT (n:=27) (ts:=[4]) Tryz.func22 (by kernel_rfl) rfl Tryz.ntmps22 Tryz.results22 rfl rfl fun C hC hG=>?_
 refine W.seq (W.region (br rfl rfl rfl (pE rfl (WO.nil (qs (W.seq (W.region (pE rfl (WO.nil (qs ?_))))))))))
 iterate 2 refine W.seq ?_
 refine W.region (pE rfl (pE rfl ?_))
 iterate 2 refine pE rfl ?_
 refine WO.nil (qs (W.block (aG (d:=5) rfl rfl ?_)))
 refine W.len (t:=9) rfl rfl (fun hlen=>?_)
 try simp only[List.length_map,Ex.aF] at hlen
 refine W.aS (ι:={x:Nat×List Nat // match x with | (k,out)=>k≤t.cols.length∧out=eF names (t.cols.take k) 0})
  (fun x=>match x.1 with | (k,out)=>[(5,.own 0 (out.map nc)),(11,.d (.v (.int .i64 ((k:Nat):Int))))]) [(1,_),(9,_),(10,_)]
  (fun x=>match x.1 with | (k,out)=>[]) [] [0] 1 (fun x=>match x.1 with | (k,out)=>t.cols.length - k)
  [1] ⟨(0,[]),?_⟩ rfl ?_ ⟨rfl,rfl,rfl,rfl,rfl,rfl,trivial⟩ ?_ trivial rfl ?_
 · exact⟨Nat.zero_le _,rfl⟩
 · repeat' first | exact trivial | refine⟨rfl,?_⟩
 · repeat' exact trivial
 rintro⟨⟨k,out⟩,hk,hI⟩
 show W _ _ _ _ _ ⟨[(5,.own 0 (out.map nc)),(11,.d (.v (.int .i64 ((k:Nat):Int)))),(1,_),(9,_),(10,_)],[],[0],1⟩
 refine W.seq (W.region (pE rfl (WO.nil (qs (W.seq (a9 (l:=t.cols) (k:=k) rfl (by simp[Ex.aF,aL]) hk (fun c hx hd hlt=>?_) (fun he hd=>?_)))))))
 ·
  have hol:out.length≤k:=by rw[hI];have:=lY names (t.cols.take k) 0;simp at this;omega
  have hst:=qk names t.cols k 0 c hx
  rw[←hI,Nat.zero_add] at hst
  refine W.skip (qs (W.seq (W.block (W.seq (W.region (pE rfl (pu (indexAddr aa rfl rfl rfl rfl rfl rfl (Int.natCast_nonneg _) (aE hx) rfl) rfl ?_)))))))
  refine pE rfl (a8 aa rfl rfl rfl (pE rfl (aR aa rfl rfl rfl rfl rfl rfl rfl rfl (WO.nil (qs (W.seq (W.region ?_)))))))
  iterate 2 refine pE rfl ?_
  refine pE rfl (pu (ak rfl rfl rfl (eA names c.name) rfl) rfl ?_)
  refine pE rfl (WO.nil (qs (ao rfl (fun h20=>?_) (fun h20=>?_))))
  ·
   have hq:names.any (fun x=>decide (c.name=x))=false:=by simpa using h20
   rw[if_neg (by simp[hq])] at hst
   refine W.region ?_
   iterate 2 refine pE rfl ?_
   refine pu (aI aa rfl rfl rfl rfl rfl rfl rfl rfl rfl) rfl ?_
   refine bJ (fn:=nc) (a:=k) aa rfl rfl rfl rfl rfl rfl rfl rfl rfl rfl (fun _=>rfl) (by show(out.length+1)*8≤_;omega) ?_
   refine pE rfl (WO.nil (aX (qs (W.region ?_))))
   iterate 2 refine pE rfl ?_
   refine WO.nil (W.aU [2] ⟨(k+1,out++[k]),?_⟩ ?_ rfl ?_ ⟨rfl,rfl,rfl,rfl,rfl,rfl,trivial⟩ ?_ trivial rfl)
   · exact⟨hlt,hst.symm⟩
   · dsimp only;omega
   · repeat' first | exact trivial | refine⟨rfl,?_⟩ | refine⟨aD (by assumption) (by assumption),?_⟩
   repeat' exact trivial
  have hq:names.any (fun x=>decide (c.name=x))=true:=by simpa using h20
  rw[if_pos hq,List.append_nil] at hst
  refine W.skip (aX (qs (W.region ?_)))
  iterate 2 refine pE rfl ?_
  refine WO.nil (W.aU [0] ⟨(k+1,out),?_⟩ ?_ rfl ?_ ⟨rfl,rfl,rfl,rfl,rfl,rfl,trivial⟩ ?_ trivial rfl)
  · exact⟨hlt,hst.symm⟩
  · dsimp only;omega
  · repeat' first | exact trivial | refine⟨rfl,?_⟩ | refine⟨aD (by assumption) (by assumption),?_⟩
  repeat' exact trivial
 have hfin:out=eF names t.cols 0:=by rw[hI,List.take_of_length_le (by have:=congrArg List.length hd;simp at this;omega)]
 refine W.exit (aN (aQ (aO (qs (W.seq (W.region ?_))))))
 iterate 2 refine pE rfl ?_
 refine WO.nil (qs (W.ret (QF.aq trivial rfl ?_)))
 simp only[norm,az];rw[hfin];rfl
theorem oZ (r:List aH) (i j:Nat) (hi:i < r.length) (hj:j < r.length):ax Tryz.prog 24 [.d (.sl (r.map aH.c)),.d (.sl ([i,j].map nc))] (.tup [.ag [ci (bh r i).n,ci (bh r j).n],.d (.v (.bool (cM r i j)))]) 0:=by
 have hvi:r[i]? = some (bh r i):=by unfold bh;rw[List.getD_eq_getElem?_getD,List.getElem?_eq_getElem hi];rfl
 have hvj:r[j]? = some (bh r j):=by unfold bh;rw[List.getD_eq_getElem?_getD,List.getElem?_eq_getElem hj];rfl
 refine ax.fg aa (n:=40) (rs:=[.cell 4 51,.tmp 5]) Tryz.func24 (by kernel_rfl) rfl Tryz.ntmps24 Tryz.results24 rfl fun C hC hG=>?_
 refine W.seq (W.region (a8 aa rfl rfl rfl (pE rfl (WO.nil (qs (W.seq (W.jV aa 15 2 (by kernel_rfl) rfl rfl ?_)))))))
 refine bE rfl (ev aa rfl) rfl ?_
 refine bE rfl (ev aa rfl) rfl ?_
 refine bE rfl (indexAddr (l:=nc i) aa rfl rfl rfl rfl rfl rfl (by decide) rfl rfl) rfl ?_
 refine bE rfl (ev aa rfl) rfl ?_
 refine bE rfl (indexAddr (l:=(bh r i).c) aa rfl rfl rfl rfl rfl rfl (Int.natCast_nonneg _) (aE hvi) rfl) rfl ?_
 refine bE rfl (ev aa rfl) rfl ?_
 refine bE rfl (ev aa rfl) rfl ?_
 refine bE rfl (ev aa rfl) rfl ?_
 refine bE rfl (indexAddr (l:=nc j) aa rfl rfl rfl rfl rfl rfl (by decide) rfl rfl) rfl ?_
 refine bE rfl (ev aa rfl) rfl ?_
 refine bE rfl (indexAddr (l:=(bh r j).c) aa rfl rfl rfl rfl rfl rfl (Int.natCast_nonneg _) (aE hvj) rfl) rfl ?_
 refine bE rfl (ev aa rfl) rfl ?_
 refine gE 0 rfl rfl rfl rfl rfl rfl ?_
 refine gE 1 rfl rfl rfl rfl rfl rfl ?_
 refine oV 12 0 rfl rfl rfl rfl rfl rfl rfl rfl rfl rfl rfl rfl ?_
 refine CE.nil ?_
 refine aR aa rfl rfl rfl rfl rfl rfl rfl rfl (WO.nil (qs (W.seq ?_)))
 apply W.j0 aa 21 20;(case hB=>kernel_rfl);(case h1=>rfl);(case h2=>rfl)
 refine' bz (ev aa rfl) rfl rfl rfl rfl rfl ?h_1
 case' h_1=>skip
 refine' bz (ev aa rfl) rfl rfl rfl rfl rfl ?h_2
 case' h_2=>skip
 refine' bz (ev aa rfl) rfl rfl rfl rfl rfl ?h_3
 case' h_3=>skip
 refine' bz (ev aa rfl) rfl rfl rfl rfl rfl ?h_4
 case' h_4=>skip
 refine' bz (build aa rfl rfl rfl rfl) rfl rfl rfl rfl rfl ?h_5
 case' h_5=>skip
 refine' cg ?p1_6 (ev aa rfl) rfl rfl rfl rfl rfl ?h_6
 case' h_6=>skip
 refine' cg ?p1_7 (ev aa rfl) rfl rfl rfl rfl rfl ?h_7
 case' h_7=>skip
 refine' cg ?p1_8 (ev aa rfl) rfl rfl rfl rfl rfl ?h_8
 case' h_8=>skip
 refine' cg ?p1_9 (ev aa rfl) rfl rfl rfl rfl rfl ?h_9
 case' h_9=>skip
 refine' ua rfl rfl (fun _=>?hT_10) (fun _=>?hF_10)
 case hT_10=>
  refine' ov rfl rfl ?p1_11 (ev aa rfl) rfl rfl rfl rfl rfl ?h_11
  case' h_11=>skip
  refine' ov rfl rfl ?p1_12 (ev aa rfl) rfl rfl rfl rfl rfl ?h_12
  case' h_12=>skip
  refine' ov rfl rfl ?p1_13 (ev aa rfl) rfl rfl rfl rfl rfl ?h_13
  case' h_13=>skip
  refine' cg ?p1_14 (ev aa rfl) rfl rfl rfl rfl rfl ?h_14
  case' h_14=>skip
  refine' bz (ev aa rfl) rfl rfl rfl rfl rfl ?h_15
  case' h_15=>skip
  refine' ua rfl rfl (fun _=>?hT_16) (fun _=>?hF_16)
  case hT_16=>
   refine' ov rfl rfl ?p1_17 (ev aa rfl) rfl rfl rfl rfl rfl ?h_17
   case' h_17=>skip
   refine' ov rfl rfl ?p1_18 (ev aa rfl) rfl rfl rfl rfl rfl ?h_18
   case' h_18=>skip
   refine' ov rfl rfl ?p1_19 (ev aa rfl) rfl rfl rfl rfl rfl ?h_19
   case' h_19=>skip
   refine' ov rfl rfl ?p1_20 (ev aa rfl) rfl rfl rfl rfl rfl ?h_20
   case' h_20=>skip
   refine' ov rfl rfl ?p1_21 (ev aa rfl) rfl rfl rfl rfl rfl ?h_21
   case' h_21=>skip
   refine' cg ?p1_22 (ev aa rfl) rfl rfl rfl rfl rfl ?h_22
   case' h_22=>skip
   refine' mR (fun g=>?e_23) rfl rfl ?h_23
   case e_23=>
    refine aR aa rfl rfl rfl rfl rfl rfl rfl rfl (WO.nil ?_)
    exact⟨rfl,rfl⟩
   case' h_23=>skip
   case p1_17=>exact(ev aa rfl)
   case p1_18=>exact(ev aa rfl)
   case p1_19=>exact(ev aa rfl)
   case p1_20=>exact(ev aa rfl)
   case p1_21=>exact(ev aa rfl)
   case p1_22=>exact(ev aa rfl)
   refine CC.nil ?_
   refine pE rfl (WO.nil (qs (W.ret (QV.aq aa trivial rfl ?_))))
   refine congrArg (fun b=>A.tup [A.ag [ci (bh r i).n,ci (bh r j).n],.d (.v (.bool b))]) (?_:_=cM r i j)
   unfold cM
   simp_all
  case hF_16=>
   refine' fQ rfl rfl rfl rfl rfl rfl rfl rfl ?h_24
   case' h_24=>skip
   refine' fQ rfl rfl rfl rfl rfl rfl rfl rfl ?h_25
   case' h_25=>skip
   refine' fQ rfl rfl rfl rfl rfl rfl rfl rfl ?h_26
   case' h_26=>skip
   refine' fQ rfl rfl rfl rfl rfl rfl rfl rfl ?h_27
   case' h_27=>skip
   refine' fQ rfl rfl rfl rfl rfl rfl rfl rfl ?h_28
   case' h_28=>skip
   refine' cg ?p1_29 (ev aa rfl) rfl rfl rfl rfl rfl ?h_29
   case' h_29=>skip
   refine' mR (fun g=>?e_30) rfl rfl ?h_30
   case e_30=>
    refine aR aa rfl rfl rfl rfl rfl rfl rfl rfl (WO.nil ?_)
    exact⟨rfl,rfl⟩
   case' h_30=>skip
   case p1_29=>exact(ev aa rfl)
   refine CC.nil ?_
   refine pE rfl (WO.nil (qs (W.ret (QV.aq aa trivial rfl ?_))))
   refine congrArg (fun b=>A.tup [A.ag [ci (bh r i).n,ci (bh r j).n],.d (.v (.bool b))]) (?_:_=cM r i j)
   unfold cM
   simp_all
  case p1_11=>exact(ev aa rfl)
  case p1_12=>exact(ev aa rfl)
  case p1_13=>exact(ev aa rfl)
  case p1_14=>exact(ev aa rfl)
 case hF_10=>
  refine' fQ rfl rfl rfl rfl rfl rfl rfl rfl ?h_31
  case' h_31=>skip
  refine' fQ rfl rfl rfl rfl rfl rfl rfl rfl ?h_32
  case' h_32=>skip
  refine' fQ rfl rfl rfl rfl rfl rfl rfl rfl ?h_33
  case' h_33=>skip
  refine' cg ?p1_34 (ev aa rfl) rfl rfl rfl rfl rfl ?h_34
  case' h_34=>skip
  refine' bz (ev aa rfl) rfl rfl rfl rfl rfl ?h_35
  case' h_35=>skip
  refine' fQ rfl rfl rfl rfl rfl rfl rfl rfl ?h_36
  case' h_36=>skip
  refine' fQ rfl rfl rfl rfl rfl rfl rfl rfl ?h_37
  case' h_37=>skip
  refine' fQ rfl rfl rfl rfl rfl rfl rfl rfl ?h_38
  case' h_38=>skip
  refine' fQ rfl rfl rfl rfl rfl rfl rfl rfl ?h_39
  case' h_39=>skip
  refine' fQ rfl rfl rfl rfl rfl rfl rfl rfl ?h_40
  case' h_40=>skip
  refine' cg ?p1_41 (ev aa rfl) rfl rfl rfl rfl rfl ?h_41
  case' h_41=>skip
  refine' mR (fun g=>?e_42) rfl rfl ?h_42
  case e_42=>
   refine aR aa rfl rfl rfl rfl rfl rfl rfl rfl (WO.nil ?_)
   exact⟨rfl,rfl⟩
  case' h_42=>skip
  case p1_34=>exact(ev aa rfl)
  case p1_41=>exact(ev aa rfl)
  refine CC.nil ?_
  refine pE rfl (WO.nil (qs (W.ret (QV.aq aa trivial rfl ?_))))
  refine congrArg (fun b=>A.tup [A.ag [ci (bh r i).n,ci (bh r j).n],.d (.v (.bool b))]) (?_:_=cM r i j)
  unfold cM
  simp_all
 case p1_6=>exact(ev aa rfl)
 case p1_7=>exact(ev aa rfl)
 case p1_8=>exact(ev aa rfl)
 case p1_9=>exact(ev aa rfl)
end Go.Proofs.YtjenenllmjlimaaGreat
namespace Go.Proofs.YtjenenllmjlimaaGreat
open Go.Ab Go.Tb
set_option maxRecDepth 10000
attribute [local irreducible] W WO Pu QS QB QL QF QV b7 CH QE
theorem kb (op:Int) (on:List ByteArray) (l:List bo) (hl:0 < l.length) (hon:on.length≤400):ax Tryz.prog 20 [.d (.v (.int .i64 op)),.d (.sl (on.map sc)),.d (.sl (l.map bo.c))]
  (.tup [.d (.sl ((gx op on l).1.map Col.c)),.d (.v (.int .i64 (gx op on l).2))]) 0:=by
 obtain⟨a,ha⟩:∃ a,l[0]? = some a:=⟨l[0],by simp[hl]⟩
 have ha2:l.getD 0 fL=a:=by rw[List.getD_eq_getElem?_getD,ha];rfl
 have hfs:∀ w,l7 (cG op on w):=fun w=>⟨Nat.zero_le _,hon,Nat.zero_le _,Nat.zero_le _⟩
 refine ax.aT (n:=46) (ts:=[6,7]) Tryz.func20 (by kernel_rfl) rfl Tryz.ntmps20 Tryz.results20 rfl rfl fun C hC hG=>?_
 refine W.seq (W.region ?_)
 iterate 2 refine pE rfl ?_
 refine WO.nil (qs ?_)
 iterate 2 refine W.seq ?_
 refine W.region ?_
 iterate 3 refine pE rfl ?_
 refine WO.nil (qs (W.block (W.len (t:=13) rfl rfl (fun hlen=>?_))))
 try simp only[List.length_map,Ex.aF] at hlen
 refine W.aS (ι:={x:Nat // match x with | k=>k≤l.length∧eZ (l.drop k)=eZ l})
  (fun x=>match x.1 with | k=>[(15,.d (.v (.int .i64 ((k:Nat):Int))))]) [(0,_),(1,_),(2,_),(13,_),(14,_)]
  (fun x=>match x.1 with | k=>[]) [] [] 0 (fun x=>match x.1 with | k=>l.length - k)
  [] ⟨0,?_⟩ rfl ?_ ⟨rfl,rfl,rfl,rfl,rfl,rfl,rfl,rfl,rfl,rfl,trivial⟩ ?_ trivial rfl ?_
 · exact⟨Nat.zero_le _,rfl⟩
 · repeat' first | exact trivial | refine⟨rfl,?_⟩
 · repeat' exact trivial
 rintro⟨k,hk,hI⟩
 show W _ _ _ _ _ ⟨[(15,.d (.v (.int .i64 ((k:Nat):Int)))),(0,_),(1,_),(2,_),(13,_),(14,_)],[],[],0⟩
 refine W.seq (W.region (pE rfl (WO.nil (qs (W.seq (a9 (l:=l) (k:=k) rfl (by simp[Ex.aF,aL]) hk (fun t hx hd hlt=>?_) (fun he hd=>?_)))))))
 ·
  rw[hd] at hI
  simp only[eZ] at hI
  refine W.skip (qs (W.seq (W.block (W.seq (W.region (pu (indexAddr aa rfl rfl rfl rfl rfl rfl (Int.natCast_nonneg _) (aE hx) rfl) rfl ?_))))))
  refine pE rfl (a8 aa rfl rfl rfl (aR aa rfl rfl rfl rfl rfl rfl rfl rfl (WO.nil (qs (W.seq (W.region (pE rfl (pu (ak rfl rfl rfl (xX t) rfl) rfl ?_))))))))
  refine pE rfl (WO.nil (qs (W.seq (W.region ?_))))
  iterate 2 refine pE rfl ?_
  refine WO.nil (qs (ao rfl (fun h22=>?_) (fun h22=>?_)))
  ·
   have hc:bj t≠0:=by simpa using h22
   rw[if_pos hc] at hI
   have hg:gx op on l=([],bj t):=by unfold gx;rw[←hI,if_pos hc]
   refine W.seq (W.region ?_)
   iterate 3 refine pE rfl ?_
   refine WO.nil (qs ?_)
   try refine aG (d:=6) rfl rfl ?_
   refine W.ret (au (ah (aZ (au (ah (QF.aq trivial rfl ?_))))))
   (rw[hg];rfl)
  have hc:bj t=0:=by simpa using h22
  rw[if_neg (by simp[hc])] at hI
  refine W.skip (aX (qs (W.region ?_)))
  iterate 2 refine pE rfl ?_
  refine WO.nil (W.aU [] ⟨k+1,?_⟩ ?_ rfl ?_ ⟨rfl,rfl,rfl,rfl,rfl,rfl,rfl,rfl,rfl,rfl,trivial⟩ ?_ trivial rfl)
  · exact⟨hlt,hI⟩
  · dsimp only;omega
  · repeat' first | exact trivial | refine⟨aD (by assumption) (by assumption),?_⟩
  repeat' exact trivial
 rw[hd] at hI
 have hfe:eZ l=0:=hI.symm
 have hmem:=nP hfe
 have haz:=eh (hmem a (List.mem_of_getElem? ha))
 refine W.exit (aN (aQ (aO (qs (W.seq (W.region ?_))))))
 iterate 2 refine pE rfl ?_
 refine pu (build aa rfl rfl rfl rfl) rfl ?_
 try refine tP 27 rfl rfl rfl ?_
 refine a8 aa rfl rfl rfl (aR aa rfl rfl rfl rfl rfl rfl rfl rfl (WO.nil (qs (W.seq (W.region (pE rfl (WO.nil (qs ?_))))))))
 iterate 2 refine W.seq ?_
 refine W.region ?_
 iterate 3 refine pE rfl ?_
 refine WO.nil (qs (ao rfl (fun h30=>?_) (fun h30=>?_)))
 ·
  have hl1:1 < l.length:=by simp at h30;omega
  obtain⟨b,hb⟩:∃ b,l[1]? = some b:=⟨l[1],by simp[hl1]⟩
  have hb2:l.getD 1 fL=b:=by rw[List.getD_eq_getElem?_getD,hb];rfl
  have hbz:=eh (hmem b (List.mem_of_getElem? hb))
  have hft:vZ [⟨wB,b⟩]:=fun x hx=>by simp at hx;subst hx;show b.cols.length≤1000;omega
  have hg:gx op on l=dy [⟨wB,b⟩] a.cols (cG op on wB):=by unfold gx;rw[if_neg (by simp[hfe]),if_pos hl1,if_pos hl1,hb2,ha2]
  have hst:=sM [⟨wB,b⟩] a.cols (cG op on wB) (hfs wB) hft (by omega)
  apply W.j0 aa 7 6;(case hB=>kernel_rfl);(case h1=>rfl);(case h2=>rfl)
  refine' cg ?p1_1 (ev aa rfl) rfl rfl rfl rfl rfl ?h_1
  case' h_1=>skip
  refine' cg ?p1_2 (indexAddr (l:=b.c) aa rfl rfl rfl rfl rfl rfl (by decide) (aE hb) rfl) rfl rfl rfl rfl rfl ?h_2
  case' h_2=>skip
  refine' cg ?p1_3 (ev aa rfl) rfl rfl rfl rfl rfl ?h_3
  case' h_3=>skip
  refine' cg ?p1_4 (build aa rfl rfl rfl rfl) rfl rfl rfl rfl rfl ?h_4
  case' h_4=>skip
  refine' cg ?p1_5 (aI aa rfl rfl rfl rfl rfl rfl rfl rfl rfl) rfl rfl rfl rfl rfl ?h_5
  case' h_5=>skip
  refine' bz (ev aa rfl) rfl rfl rfl rfl rfl ?h_6
  case' h_6=>skip
  refine' mR (fun g=>?e_7) rfl rfl ?h_7
  case e_7=>
   refine aR aa rfl rfl rfl rfl rfl rfl rfl rfl (WO.nil ?_)
   exact⟨rfl,rfl⟩
  case' h_7=>skip
  case p1_1=>exact(ev aa rfl)
  case p1_2=>exact(indexAddr (l:=b.c) aa rfl rfl rfl rfl rfl rfl (by decide) (aE hb) rfl)
  case p1_3=>exact(ev aa rfl)
  case p1_4=>exact(build aa rfl rfl rfl rfl)
  case p1_5=>exact(aI aa rfl rfl rfl rfl rfl rfl rfl rfl rfl)
  refine CC.nil ?_
  refine pE rfl (WO.nil (qs (W.seq ?_)))
  try refine aG (d:=12) rfl rfl ?_
  refine W.be aa (by kernel_rfl) ?_
  iterate 2 refine an (ev aa rfl) rfl ?_
  refine an (indexAddr (l:=a.c) aa rfl rfl rfl rfl rfl rfl (by decide) (aE ha) rfl) rfl ?_
  refine an (ev aa rfl) rfl ?_
  refine an (ev aa rfl) rfl ?_
  refine an (ev aa rfl) rfl ?_
  refine an (ak rfl rfl rfl hst rfl) rfl ?_
  iterate 4 refine an (ev aa rfl) rfl ?_
  refine CH.nil ?_
  refine qs ?_
  try refine aG (d:=6) rfl rfl ?_
  refine W.ret (QF.aq trivial rfl ?_)
  (rw[hg];rfl)
 have hl1:¬ 1 < l.length:=by simp at h30;omega
 have hg:gx op on l=dy [] a.cols (cG op on (B #[])):=by unfold gx;rw[if_neg (by simp[hfe]),if_neg hl1,if_neg hl1,ha2]
 have hst:=sM [] a.cols (cG op on (B #[])) (hfs _) (fun x hx=>by cases hx) (by omega)
 refine W.skip (qs (W.seq ?_))
 try refine aG (d:=12) rfl rfl ?_
 refine W.be aa (by kernel_rfl) ?_
 iterate 2 refine an (ev aa rfl) rfl ?_
 refine an (indexAddr (l:=a.c) aa rfl rfl rfl rfl rfl rfl (by decide) (aE ha) rfl) rfl ?_
 refine an (ev aa rfl) rfl ?_
 refine an (ev aa rfl) rfl ?_
 refine an (ev aa rfl) rfl ?_
 refine an (ak rfl rfl rfl hst rfl) rfl ?_
 iterate 4 refine an (ev aa rfl) rfl ?_
 refine CH.nil ?_
 refine qs ?_
 try refine aG (d:=6) rfl rfl ?_
 refine W.ret (QF.aq trivial rfl ?_)
 (rw[hg];rfl)
theorem AL (a b:Int):ax Tryz.prog 56 [.d (.sl ([a,b].map ic))] (.d (.v (.int .i64 (if a≠0 then a else b)))) 0:=by
 refine ax.aT (n:=18) (ts:=[2]) Tryz.func56 (by kernel_rfl) rfl Tryz.ntmps56 Tryz.results56 rfl rfl fun C hC hG=>?_
 refine W.seq (W.region (pE rfl (WO.nil (qs (W.seq (W.region (pE rfl (WO.nil (qs ?_)))))))))
 iterate 2 refine W.seq ?_
 refine W.region ?_
 iterate 3 refine pE rfl ?_
 refine WO.nil (qs (W.block (W.len (t:=6) rfl rfl (fun hlen=>?_))))
 try simp only[List.length_map,Ex.aF] at hlen
 refine W.aS (ι:={x:Nat // match x with | k=>k≤[a,b].length∧(if a≠0 then a else b)=(([a,b].drop k).find? (fun x=>decide (x≠0))).getD 0})
  (fun x=>match x.1 with | k=>[(8,.d (.v (.int .i64 ((k:Nat):Int))))]) [(3,_),(6,_),(7,_)]
  (fun x=>match x.1 with | k=>[]) [] [] 0 (fun x=>match x.1 with | k=>[a,b].length - k)
  [] ⟨0,?_⟩ rfl ?_ ⟨rfl,rfl,rfl,rfl,rfl,rfl,trivial⟩ ?_ trivial rfl ?_
 · exact⟨Nat.zero_le _,by by_cases h:a=0 <;> by_cases h2:b=0 <;> simp[h,h2]⟩
 · repeat' first | exact trivial | refine⟨rfl,?_⟩
 · repeat' exact trivial
 rintro⟨k,hk,hI⟩
 show W _ _ _ _ _ ⟨[(8,.d (.v (.int .i64 ((k:Nat):Int)))),(3,_),(6,_),(7,_)],[],[],0⟩
 refine W.seq (W.region (pE rfl (WO.nil (qs (W.seq (a9 (l:=[a,b]) (k:=k) rfl (by simp[Ex.aF,aL]) hk (fun x hx hd hlt=>?_) (fun he hd=>?_)))))))
 ·
  rw[hd] at hI
  refine W.skip (qs (W.seq (W.block (W.seq (W.region (pu (indexAddr aa rfl rfl rfl rfl rfl rfl (Int.natCast_nonneg _) (aE hx) rfl) rfl ?_))))))
  refine pE rfl (pE rfl (WO.nil (qs (W.seq (W.region ?_)))))
  iterate 3 refine pE rfl ?_
  refine WO.nil (qs (ao rfl (fun h14=>?_) (fun h14=>?_)))
  ·
   have hz:x≠0:=by simpa using h14
   rw[List.find?_cons_of_pos (by simpa using hz)] at hI
   refine W.seq (W.region ?_)
   iterate 2 refine pE rfl ?_
   refine WO.nil (qs (W.ret (au (ah (aZ (au (ah (QF.aq trivial rfl ?_))))))))
   simp only[norm,az,hI];first | rfl | skip
  have hz:x=0:=by simpa using h14
  rw[List.find?_cons_of_neg (by simp[hz])] at hI
  refine W.skip (aX (qs (W.region ?_)))
  iterate 2 refine pE rfl ?_
  refine WO.nil (W.aU [] ⟨k+1,?_⟩ ?_ rfl ?_ ⟨rfl,rfl,rfl,rfl,rfl,rfl,trivial⟩ ?_ trivial rfl)
  · exact⟨hlt,hI⟩
  · dsimp only;omega
  · repeat' first | exact trivial | refine⟨aD (by assumption) (by assumption),?_⟩
  repeat' exact trivial
 rw[hd] at hI
 refine W.exit (aN (aQ (aO (qs (W.seq (W.region ?_))))))
 iterate 2 refine pE rfl ?_
 refine WO.nil (qs (W.ret (QF.aq trivial rfl ?_)))
 simp only[norm,az,hI];first | rfl | skip
end Go.Proofs.YtjenenllmjlimaaGreat
namespace Go.Proofs.YtjenenllmjlimaaGreat
open Go.Ab Go.Tb
set_option maxRecDepth 10000
attribute [local irreducible] W WO Pu QS QB QL QF QV b7 CH QE
theorem zy (a b:List aH):ax Tryz.prog 57 [.d (.sl (a.map aH.c)),.d (.sl (b.map aH.c)),.clo 58 []] (.d (.v (.int .i64 (bT a b)))) 0:=by
 refine ax.aT (n:=39) (ts:=[6]) Tryz.func57 (by kernel_rfl) rfl Tryz.ntmps57 Tryz.results57 rfl rfl fun C hC hG=>?_
 refine W.seq (W.region (pE rfl (WO.nil (qs ?_))))
 iterate 2 refine W.seq ?_
 refine W.region ?_
 iterate 3 refine pE rfl ?_
 refine WO.nil (qs (W.block (W.len (t:=1) rfl rfl (fun hlenb=>?_))))
 simp only[List.length_map] at hlenb
 refine W.len (t:=0) rfl rfl (fun hlen=>?_)
 try simp only[List.length_map,Ex.aF] at hlen
 refine W.aS (ι:={x:Nat // match x with | k=>k≤a.length∧k≤b.length∧bT (a.drop k) (b.drop k)=bT a b})
  (fun x=>match x.1 with | k=>[(13,.d (.v (.int .i64 ((k:Nat):Int))))]) [(0,_),(1,_),(2,_),(11,_),(12,_)]
  (fun x=>match x.1 with | k=>[]) [] [] 0 (fun x=>match x.1 with | k=>a.length - k)
  [] ⟨0,?_⟩ rfl ?_ ⟨rfl,rfl,rfl,rfl,rfl,rfl,rfl,rfl,rfl,rfl,trivial⟩ ?_ trivial rfl ?_
 · exact⟨Nat.zero_le _,Nat.zero_le _,rfl⟩
 · repeat' first | exact trivial | refine⟨rfl,?_⟩
 · repeat' exact trivial
 rintro⟨k,hk,hkb,hI⟩
 show W _ _ _ _ _ ⟨[(13,.d (.v (.int .i64 ((k:Nat):Int)))),(0,_),(1,_),(2,_),(11,_),(12,_)],[],[],0⟩
 refine W.seq (W.region (pE rfl (WO.nil (qs (W.seq (a9 (l:=a) (k:=k) rfl (by simp[Ex.aF,aL]) hk (fun x hx hd hlt=>?_) (fun he hd=>?_)))))))
 ·
  rw[hd] at hI
  refine W.skip (qs (W.seq (W.block (W.seq (W.region (pE rfl (pu (indexAddr aa rfl rfl rfl rfl rfl rfl (Int.natCast_nonneg _) (aE hx) rfl) rfl ?_)))))))
  refine pE rfl (a8 aa rfl rfl rfl (pE rfl (aR aa rfl rfl rfl rfl rfl rfl rfl rfl (WO.nil (qs ?_)))))
  iterate 2 refine W.seq ?_
  refine W.region ?_
  iterate 4 refine pE rfl ?_
  refine WO.nil (qs (ao rfl (fun h21=>?_) (fun h21=>?_)))
  ·
   have hbk:b.length≤k:=by simp at h21;omega
   rw[List.drop_eq_nil_of_le hbk] at hI
   refine W.seq (W.region (pE rfl (WO.nil (qs (W.ret (ah (au (ah (aZ (au (ah (QF.aq trivial rfl ?_))))))))))))
   rw[←hI];rfl
  have hbk:k < b.length:=by simp at h21;omega
  obtain⟨y,hy⟩:∃ y,b[k]? = some y:=⟨b[k],by simp[hbk]⟩
  have hd2:b.drop k=y::b.drop (k+1):=by
   have:=List.drop_eq_getElem_cons hbk
   rw[this,(List.getElem?_eq_some_iff.1 hy).2]
  rw[hd2] at hI
  simp only[bT] at hI
  refine W.skip (qs (W.seq (W.region ?_)))
  iterate 2 refine pE rfl ?_
  refine pu (indexAddr (l:=y.c) aa rfl rfl rfl rfl rfl rfl (Int.natCast_nonneg _) (aE hy) rfl) rfl ?_
  refine pE rfl (a8 aa rfl rfl rfl (aR aa rfl rfl rfl rfl rfl rfl rfl rfl (WO.nil (qs (W.seq (W.region (pE rfl (pE rfl (pE rfl (pu (ak rfl rfl rfl (x5 x y) rfl) rfl ?_))))))))))
  refine pE rfl (WO.nil (qs (W.seq (W.region ?_))))
  iterate 2 refine pE rfl ?_
  refine WO.nil (qs (ao rfl (fun h31=>?_) (fun h31=>?_)))
  ·
   have hq:dd x y≠0:=by simpa using h31
   rw[if_pos hq] at hI
   refine W.seq (W.region ?_)
   iterate 2 refine pE rfl ?_
   refine WO.nil (qs (W.ret (au (ah (aZ (au (ah (QF.aq trivial rfl ?_))))))))
   rw[←hI];rfl
  have hq:dd x y=0:=by simpa using h31
  rw[if_neg (by simp[hq])] at hI
  refine W.skip (aX (qs (W.region ?_)))
  iterate 2 refine pE rfl ?_
  refine WO.nil (W.aU [] ⟨k+1,?_⟩ ?_ rfl ?_ ⟨rfl,rfl,rfl,rfl,rfl,rfl,rfl,rfl,rfl,rfl,trivial⟩ ?_ trivial rfl)
  · exact⟨hlt,hbk,hI⟩
  · dsimp only;omega
  · repeat' first | exact trivial | refine⟨aD (by assumption) (by assumption),?_⟩
  repeat' exact trivial
 have hka:a.length≤k:=by have:=congrArg List.length hd;simp at this;omega
 rw[hd] at hI
 refine W.exit (aN (aQ (aO (qs ?_))))
 iterate 2 refine W.seq ?_
 refine W.region ?_
 iterate 5 refine pE rfl ?_
 refine WO.nil (qs (ao rfl (fun h38=>?_) (fun h38=>?_)))
 ·
  have hbk:k < b.length:=by simp at h38;omega
  have hg:bT a b = -1:=by
   rw[←hI,List.drop_eq_getElem_cons hbk];rfl
  refine W.seq (W.region (pE rfl (WO.nil (qs (W.ret (ah (QF.aq trivial rfl ?_)))))))
  rw[hg];rfl
 have hbk:b.length≤k:=by simp at h38;omega
 have hg:bT a b=0:=by rw[←hI,List.drop_eq_nil_of_le hbk];rfl
 refine W.skip (qs (W.seq (W.region (pE rfl (WO.nil (qs (W.ret (QF.aq trivial rfl ?_))))))))
 rw[hg];rfl
theorem kL (a b:Pc):ax Tryz.prog 37 [.ag a.c,.ag b.c] (.d (.v (.int .i64 (jc a b)))) 0:=by
 refine ax.aT (n:=19) (ts:=[4]) Tryz.func37 (by kernel_rfl) rfl Tryz.ntmps37 Tryz.results37 rfl rfl fun C hC hG=>?_
 refine W.seq (W.region (br rfl rfl rfl (br rfl rfl rfl (pE rfl (WO.nil (qs (W.seq (W.be aa (by kernel_rfl) ?_))))))))
 refine an (ev aa rfl) rfl ?_
 refine an (ev aa rfl) rfl ?_
 refine an (ev aa rfl) rfl ?_
 refine an (ev aa rfl) rfl ?_
 refine an (ak rfl rfl rfl (zy a.key b.key) rfl) rfl ?_
 iterate 2 refine an (ev aa rfl) rfl ?_
 refine an (ev aa rfl) rfl ?_
 iterate 2 refine an (ev aa rfl) rfl ?_
 refine an (ev aa rfl) rfl ?_
 refine an (ak rfl rfl rfl (uI a.fr b.fr) rfl) rfl ?_
 refine an (aI aa rfl rfl rfl rfl rfl rfl rfl rfl rfl) rfl ?_
 refine an (ak rfl rfl rfl (AL (bT a.key b.key) (cI a.fr b.fr)) rfl) rfl ?_
 refine an (ev aa rfl) rfl ?_
 refine CH.nil ?_
 refine qs (W.ret (QF.aq trivial rfl ?_))
 rfl
theorem cr (l:List Pc):∀ (x:List D),x∈l.map Pc.c→x.length=3:=by
 intro x hx
 obtain⟨y,_,rfl⟩:=List.mem_map.1 hx
 rfl
theorem dQ {l:List Pc} {k:Nat} (h:k < l.length):(l.map Pc.c)[k]? = some (el l k).c:=by rw[List.getElem?_map,gv h];rfl
theorem iK {l:List Pc} {i:Nat} {x:Pc}:(l.map Pc.c).set i x.c=(l.set i x).map Pc.c:=List.map_set.symm
theorem eQ {x y:Nat} (h:x+y≤1000000000):IntKind.i64.wrap ((x:Int)+(y:Int))=((x+y:Nat):Int):=by rw[wrap64 (by omega)];omega
theorem iE {x y:Nat} (h:y≤x) (hx:x≤1000000000):IntKind.i64.wrap ((x:Int) - (y:Int))=((x - y:Nat):Int):=by rw[wrap64 (by omega)];omega
theorem pY (l:List Pc) (a b c k cap:Nat) (hcap:l.length≤100000) (h1:a+c≤b) (h2:b+c≤l.length) :
  dE Tryz.prog 143 [.sb 0 l.length cap,.d (.v (.int .i64 (a:Int))),.d (.v (.int .i64 (b:Int))),.d (.v (.int .i64 (c:Int))),.clo 37 []] [a7 (l.map Pc.c) k] 0 (.tup []) [a7 ((dJ l a b c 0).map Pc.c) k] 0:=by
 have hcm:c≤maxLen:=by simp only[maxLen];omega
 refine dE.fg aa (n:=38) (rs:=[]) Tryz.func143 (by kernel_rfl) rfl Tryz.ntmps143 Tryz.results143 rfl rfl fun C hC hG=>?_
 refine W.seq (W.region (pE rfl (WO.nil (qs (W.block ?_)))))
 refine W.aS (ι:={x:Nat×List Pc // match x with | (i,L)=>i≤c∧L.length=l.length∧dJ L a b (c - i) i=dJ l a b c 0})
  (fun x=>match x.1 with | (i,L)=>[(0,.sb 0 l.length cap),(10,.d (.v (.int .i64 ((i:Nat):Int))))]) [(1,_),(2,_),(3,_)]
  (fun x=>match x.1 with | (i,L)=>[(0,a7 (L.map Pc.c) k)]) [] [] 1 (fun x=>match x.1 with | (i,L)=>c - i)
  [0] ⟨(0,l),?_⟩ rfl ?_ ⟨rfl,rfl,rfl,rfl,rfl,rfl,trivial⟩ ?_ trivial rfl ?_
 · exact⟨Nat.zero_le _,rfl,rfl⟩
 · repeat' first | exact trivial | refine⟨rfl,?_⟩
 · repeat' first | exact trivial | refine⟨congrArg some (bd _ _ _),?_⟩
 rintro⟨⟨i,L⟩,hi,hL,hI⟩
 show W _ _ _ _ _ ⟨[(0,.sb 0 l.length cap),(10,.d (.v (.int .i64 ((i:Nat):Int)))),(1,_),(2,_),(3,_)],[(0,a7 (L.map Pc.c) k)],[],1⟩
 iterate 2 refine W.seq ?_
 refine W.region ?_
 iterate 3 refine pE rfl ?_
 refine WO.nil (qs (ao rfl (fun h13=>?_) (fun h13=>?_)))
 ·
  have hic:i < c:=by simp at h13;omega
  obtain⟨r,hr⟩:∃ r,c - i=r+1:=⟨c - i - 1,by omega⟩
  have hr2:c - (i+1)=r:=by omega
  rw[hr] at hI
  simp only[dJ] at hI
  have ea:(L.map Pc.c)[a+i]? = some (el L (a+i)).c:=dQ (by omega)
  have eb:(L.map Pc.c)[b+i]? = some (el L (b+i)).c:=dQ (by omega)
  have eb2:((L.set (a+i) (el L (b+i))).map Pc.c)[b+i]? = some (el L (b+i)).c:=by rw[dQ (by rw[List.length_set];omega),ml (by omega),if_neg (by omega)]
  refine W.skip (qs (W.seq (W.block ?_)))
  apply W.j0 aa 22 21;(case hB=>kernel_rfl);(case h1=>rfl);(case h2=>rfl)
  refine' bz (ev aa rfl) rfl rfl rfl rfl rfl ?h_1
  case' h_1=>skip
  refine' bz (ev aa rfl) rfl rfl rfl rfl rfl ?h_2
  case' h_2=>skip
  refine' bz (ev aa rfl) rfl rfl rfl rfl rfl ?h_3
  case' h_3=>skip
  refine' bz (bH (ev aa rfl) (eQ (x:=a) (y:=i) (by omega))) rfl rfl rfl rfl rfl ?h_4
  case' h_4=>skip
  refine' cg ?p1_5 (ev aa rfl) rfl rfl rfl rfl rfl ?h_5
  case' h_5=>skip
  refine' cg ?p1_6 (ev aa rfl) rfl rfl rfl rfl rfl ?h_6
  case' h_6=>skip
  refine' cg ?p1_7 (ev aa rfl) rfl rfl rfl rfl rfl ?h_7
  case' h_7=>skip
  refine' cg ?p1_8 (bH (ev aa rfl) (eQ (x:=b) (y:=i) (by omega))) rfl rfl rfl rfl rfl ?h_8
  case' h_8=>skip
  refine' bz (ev aa rfl) rfl rfl rfl rfl rfl ?h_9
  case' h_9=>skip
  refine' bz (ev aa rfl) rfl rfl rfl rfl rfl ?h_10
  case' h_10=>skip
  refine' bz (ev aa rfl) rfl rfl rfl rfl rfl ?h_11
  case' h_11=>skip
  refine' bz (bH (ev aa rfl) (eQ (x:=b) (y:=i) (by omega))) rfl rfl rfl rfl rfl ?h_12
  case' h_12=>skip
  refine' bz (bG aa rfl rfl rfl rfl rfl (Int.natCast_nonneg _) (show b+i < l.length by omega) rfl) rfl rfl rfl rfl rfl ?h_13
  case' h_13=>skip
  refine' bz (eK (i:=b+i) aa rfl rfl rfl rfl (cr L) eb) rfl rfl rfl rfl rfl ?h_14
  case' h_14=>skip
  refine' cg ?p1_15 (ev aa rfl) rfl rfl rfl rfl rfl ?h_15
  case' h_15=>skip
  refine' cg ?p1_16 (ev aa rfl) rfl rfl rfl rfl rfl ?h_16
  case' h_16=>skip
  refine' cg ?p1_17 (ev aa rfl) rfl rfl rfl rfl rfl ?h_17
  case' h_17=>skip
  refine' cg ?p1_18 (bH (ev aa rfl) (eQ (x:=a) (y:=i) (by omega))) rfl rfl rfl rfl rfl ?h_18
  case' h_18=>skip
  refine' cg ?p1_19 (bG aa rfl rfl rfl rfl rfl (Int.natCast_nonneg _) (show a+i < l.length by omega) rfl) rfl rfl rfl rfl rfl ?h_19
  case' h_19=>skip
  refine' bz (eK (i:=a+i) aa rfl rfl rfl rfl (cr L) ea) rfl rfl rfl rfl rfl ?h_20
  case' h_20=>skip
  refine' bz (bG aa rfl rfl rfl rfl rfl (Int.natCast_nonneg _) (show a+i < l.length by omega) rfl) rfl rfl rfl rfl rfl ?h_21
  case' h_21=>skip
  refine' mR (fun g=>?e_22) rfl rfl ?h_22
  case e_22=>
   refine jh (i:=a+i) aa rfl rfl rfl rfl (cr L) ea rfl rfl (iK (x:=el L (b+i))) ?_
   refine WO.nil ?_
   exact⟨rfl,rfl⟩
  case' h_22=>skip
  case p1_5=>exact(ev aa rfl)
  case p1_6=>exact(ev aa rfl)
  case p1_7=>exact(ev aa rfl)
  case p1_8=>exact(bH (ev aa rfl) (eQ (x:=b) (y:=i) (by omega)))
  case p1_15=>exact(ev aa rfl)
  case p1_16=>exact(ev aa rfl)
  case p1_17=>exact(ev aa rfl)
  case p1_18=>exact(bH (ev aa rfl) (eQ (x:=a) (y:=i) (by omega)))
  case p1_19=>exact(bG aa rfl rfl rfl rfl rfl (Int.natCast_nonneg _) (show a+i < l.length by omega) rfl)
  refine CC.nil ?_
  refine pu (bG aa rfl rfl rfl rfl rfl (Int.natCast_nonneg _) (show b+i < l.length by omega) rfl) rfl ?_
  refine jh (i:=b+i) aa rfl rfl rfl rfl (cr _) eb2 rfl rfl (iK (x:=el L (a+i))) ?_
  refine WO.nil (aX (qs (W.region ?_)))
  iterate 3 refine pE rfl ?_
  refine WO.nil (W.aU [0] ⟨(i+1,fq L (a+i) (b+i)),?_⟩ ?_ rfl ?_ ⟨rfl,rfl,rfl,rfl,rfl,rfl,trivial⟩ ?_ trivial rfl)
  · exact⟨hic,by rw[dA];exact hL,by rw[hr2];exact hI⟩
  · dsimp only;omega
  · repeat' first | exact trivial | refine⟨rfl,?_⟩ | refine⟨aD (by assumption) (by assumption),?_⟩
  repeat' first | exact trivial | refine⟨congrArg some (bd _ _ _),?_⟩
 have hic:c - i=0:=by simp at h13;omega
 rw[hic] at hI
 simp only[dJ] at hI
 refine W.exit (aN (aQ (aO (ik.end aa [] trivial rfl rfl rfl rfl ?_ ?_))))
 · rw[←hI];exact jB rfl
 rfl
theorem qj (L:List Pc) (a j:Nat):ir bg L a (j+1)=if a < j+1 then (if bg (el L (j+1)) (el L j)=true then ir bg (fq L (j+1) j) a j else L) else L:=rfl
theorem wJ (g:Nat) (L:List Pc) (m i j:Nat):gU (g+1) L m i j=if i=j then dJ L (m - i) m i 0 else if j < i then gU g (dJ L (m - i) m j 0) m (i - j) j else gU g (dJ L (m - i) (m+j - i) i 0) m i (j - i):=rfl
theorem wR (l:List Pc) (a b k cap:Nat) (hcap:l.length≤100000) (hb:b≤l.length) (ha:a≤l.length) :
  dE Tryz.prog 85 [.sb 0 l.length cap,.d (.v (.int .i64 (a:Int))),.d (.v (.int .i64 (b:Int))),.clo 37 []] [a7 (l.map Pc.c) k] 0 (.tup []) [a7 ((eV bg l a b).map Pc.c) k] 0:=by
 have hbm:b≤maxLen:=by simp only[maxLen];omega
 refine dE.fg aa (n:=53) (rs:=[]) Tryz.func85 (by kernel_rfl) rfl Tryz.ntmps85 Tryz.results85 rfl rfl fun C hC hG=>?_
 refine W.seq (W.region (pE rfl (pu (bH (ev aa rfl) (eQ (x:=a) (y:=1) (by omega))) rfl ?_)))
 refine pE rfl (WO.nil (qs (W.block ?_)))
 refine W.aS (ι:={x:Nat×List Pc // match x with | (i,L)=>a < i∧L.length=l.length∧jU bg L a (b - i) i=eV bg l a b})
  (fun x=>match x.1 with | (i,L)=>[(0,.sb 0 l.length cap),(8,.d (.v (.int .i64 ((i:Nat):Int))))]) [(1,_),(2,_),(3,_)]
  (fun x=>match x.1 with | (i,L)=>[(0,a7 (L.map Pc.c) k)]) [] [] 1 (fun x=>match x.1 with | (i,L)=>b - i)
  [0] ⟨(a+1,l),?_⟩ rfl ?_ ⟨rfl,rfl,rfl,rfl,rfl,rfl,trivial⟩ ?_ trivial rfl ?_
 · exact⟨Nat.lt_succ_self _,rfl,rfl⟩
 · repeat' first | exact trivial | refine⟨rfl,?_⟩
 · repeat' first | exact trivial | refine⟨congrArg some (bd _ _ _),?_⟩
 rintro⟨⟨i,L⟩,hi,hL,hI⟩
 show W _ _ _ _ _ ⟨[(0,.sb 0 l.length cap),(8,.d (.v (.int .i64 ((i:Nat):Int)))),(1,_),(2,_),(3,_)],[(0,a7 (L.map Pc.c) k)],[],1⟩
 iterate 2 refine W.seq ?_
 refine W.region ?_
 iterate 3 refine pE rfl ?_
 refine WO.nil (qs (ao rfl (fun h14=>?_) (fun h14=>?_)))
 ·
  have hib:i < b:=by simp at h14;omega
  obtain⟨r,hr⟩:∃ r,b - i=r+1:=⟨b - i - 1,by omega⟩
  have hr2:b - (i+1)=r:=by omega
  rw[hr] at hI
  simp only[jU] at hI
  refine W.skip (qs (W.seq (W.block (W.seq (W.region ?_)))))
  iterate 2 refine pE rfl ?_
  refine WO.nil (qs (W.block ?_))
  refine W.aS (ι:={x:Nat×List Pc // match x with | (j,M)=>j≤i∧M.length=l.length∧ir bg M a j=ir bg L a i})
   (fun x=>match x.1 with | (j,M)=>[(0,.sb 0 l.length cap),(9,.d (.v (.int .i64 ((j:Nat):Int))))]) [(1,_),(2,_),(3,_),(8,_)]
   (fun x=>match x.1 with | (j,M)=>[(0,a7 (M.map Pc.c) k)]) [] [] 1 (fun x=>match x.1 with | (j,M)=>j)
   [0] ⟨(i,L),?_⟩ rfl ?_ ⟨rfl,rfl,rfl,rfl,rfl,rfl,rfl,rfl,trivial⟩ ?_ trivial rfl ?_
  · exact⟨Nat.le_refl _,hL,rfl⟩
  · repeat' first | exact trivial | refine⟨rfl,?_⟩
  · repeat' first | exact trivial | refine⟨congrArg some (bd _ _ _),?_⟩
  rintro⟨⟨j,M⟩,hj,hM,hJ⟩
  show W _ _ _ _ _ ⟨[(0,.sb 0 l.length cap),(9,.d (.v (.int .i64 ((j:Nat):Int)))),(1,_),(2,_),(3,_),(8,_)],[(0,a7 (M.map Pc.c) k)],[],1⟩
  iterate 2 refine W.seq ?_
  apply iV aa;(case hb=>rfl);(case hB=>kernel_rfl)
  ·
   iterate 4 refine an (ev aa rfl) rfl ?_
   apply gd;(case hj=>rfl);(case hl=>rfl)
   ·
    intro g21
    refine aB rfl rfl (ev aa rfl) rfl ?_
    refine aB rfl rfl (ev aa rfl) rfl ?_
    refine aB rfl rfl (ev aa rfl) rfl ?_
    refine aB rfl rfl (bG aa rfl rfl rfl rfl rfl (Int.natCast_nonneg _) (show j < l.length by omega) rfl) rfl ?_
    refine aB rfl rfl (eK (i:=j) aa rfl rfl rfl rfl (cr M) (dQ (by omega))) rfl ?_
    refine aB rfl rfl (ev aa rfl) rfl ?_
    refine aB rfl rfl (ev aa rfl) rfl ?_
    refine aB rfl rfl (bH (ev aa rfl) (iE (x:=j) (y:=1) (by have:=of_decide_eq_true g21;omega) (by omega))) rfl ?_
    refine aB rfl rfl (bG aa rfl rfl rfl rfl rfl (Int.natCast_nonneg _) (show j - 1 < l.length by omega) rfl) rfl ?_
    refine aB rfl rfl (eK (i:=j - 1) aa rfl rfl rfl rfl (cr M) (dQ (by omega))) rfl ?_
    refine aB rfl rfl (ak rfl rfl rfl (kL (el M j) (el M (j - 1))) rfl) rfl ?_
    refine aB rfl rfl (ev aa rfl) rfl ?_
    refine an (ev aa rfl) rfl ?_
    refine CH.nil ?_
    refine ay rfl rfl rfl
   intro g21
   iterate 12 refine bU rfl rfl rfl rfl ?_
   refine an (ev aa rfl) rfl ?_
   refine CH.nil ?_
   refine ay rfl rfl rfl
  refine qs (ao rfl (fun h34=>?_) (fun h34=>?_))
  ·
   have hc:a < j∧bg (el M j) (el M (j - 1))=true:=by simpa [bg] using h34
   obtain⟨q,rfl⟩:∃ q,j=q+1:=⟨j - 1,by omega⟩
   have e1:q+1 - 1=q:=rfl
   rw[e1] at hc
   rw[qj,if_pos hc.1,if_pos hc.2] at hJ
   have ea:(M.map Pc.c)[q+1]? = some (el M (q+1)).c:=dQ (by omega)
   have eb:(M.map Pc.c)[q]? = some (el M q).c:=dQ (by omega)
   have eb2:((M.set (q+1) (el M q)).map Pc.c)[q]? = some (el M q).c:=by rw[dQ (by rw[List.length_set];omega),ml (by omega),if_neg (by omega)]
   have hsub:IntKind.i64.wrap (((q+1:Nat):Int) - 1)=((q:Nat):Int):=by rw[wrap64 (by omega)];omega
   refine W.skip (qs (W.seq (W.block ?_)))
   apply W.j0 aa 16 15;(case hB=>kernel_rfl);(case h1=>rfl);(case h2=>rfl)
   refine' bz (ev aa rfl) rfl rfl rfl rfl rfl ?h_1
   case' h_1=>skip
   refine' bz (ev aa rfl) rfl rfl rfl rfl rfl ?h_2
   case' h_2=>skip
   refine' cg ?p1_3 (ev aa rfl) rfl rfl rfl rfl rfl ?h_3
   case' h_3=>skip
   refine' cg ?p1_4 (ev aa rfl) rfl rfl rfl rfl rfl ?h_4
   case' h_4=>skip
   refine' cg ?p1_5 (bH (ev aa rfl) hsub) rfl rfl rfl rfl rfl ?h_5
   case' h_5=>skip
   refine' bz (ev aa rfl) rfl rfl rfl rfl rfl ?h_6
   case' h_6=>skip
   refine' bz (ev aa rfl) rfl rfl rfl rfl rfl ?h_7
   case' h_7=>skip
   refine' bz (bH (ev aa rfl) hsub) rfl rfl rfl rfl rfl ?h_8
   case' h_8=>skip
   refine' bz (bG aa rfl rfl rfl rfl rfl (Int.natCast_nonneg _) (show q < l.length by omega) rfl) rfl rfl rfl rfl rfl ?h_9
   case' h_9=>skip
   refine' bz (eK (i:=q) aa rfl rfl rfl rfl (cr M) eb) rfl rfl rfl rfl rfl ?h_10
   case' h_10=>skip
   refine' cg ?p1_11 (ev aa rfl) rfl rfl rfl rfl rfl ?h_11
   case' h_11=>skip
   refine' cg ?p1_12 (ev aa rfl) rfl rfl rfl rfl rfl ?h_12
   case' h_12=>skip
   refine' cg ?p1_13 (bG aa rfl rfl rfl rfl rfl (Int.natCast_nonneg _) (show q+1 < l.length by omega) rfl) rfl rfl rfl rfl rfl ?h_13
   case' h_13=>skip
   refine' bz (eK (i:=q+1) aa rfl rfl rfl rfl (cr M) ea) rfl rfl rfl rfl rfl ?h_14
   case' h_14=>skip
   refine' bz (bG aa rfl rfl rfl rfl rfl (Int.natCast_nonneg _) (show q+1 < l.length by omega) rfl) rfl rfl rfl rfl rfl ?h_15
   case' h_15=>skip
   refine' mR (fun g=>?e_16) rfl rfl ?h_16
   case e_16=>
    refine jh (i:=q+1) aa rfl rfl rfl rfl (cr M) ea rfl rfl (iK (x:=el M q)) ?_
    refine WO.nil ?_
    exact⟨rfl,rfl⟩
   case' h_16=>skip
   case p1_3=>exact(ev aa rfl)
   case p1_4=>exact(ev aa rfl)
   case p1_5=>exact(bH (ev aa rfl) hsub)
   case p1_11=>exact(ev aa rfl)
   case p1_12=>exact(ev aa rfl)
   case p1_13=>exact(bG aa rfl rfl rfl rfl rfl (Int.natCast_nonneg _) (show q+1 < l.length by omega) rfl)
   refine CC.nil ?_
   refine pu (bG aa rfl rfl rfl rfl rfl (Int.natCast_nonneg _) (show q < l.length by omega) rfl) rfl ?_
   refine jh (i:=q) aa rfl rfl rfl rfl (cr _) eb2 rfl rfl (iK (x:=el M (q+1))) ?_
   refine WO.nil (aX (qs (W.region (pE rfl (pu (bH (ev aa rfl) hsub) rfl ?_)))))
   refine pE rfl (WO.nil (W.aU [0] ⟨(q,fq M (q+1) q),?_⟩ ?_ rfl ?_ ⟨rfl,rfl,rfl,rfl,rfl,rfl,rfl,rfl,trivial⟩ ?_ trivial rfl))
   · exact⟨by omega,by rw[dA];exact hM,hJ⟩
   · dsimp only;omega
   · repeat' first | exact trivial | refine⟨rfl,?_⟩
   repeat' first | exact trivial | refine⟨congrArg some (bd _ _ _),?_⟩
  have hX:ir bg L a i=M:=by
   rw[←hJ]
   have hc:¬ (a < j∧bg (el M j) (el M (j - 1))=true):=by intro q;simp[bg] at h34;have:=h34 q.1;simp[bg] at q;omega
   cases j with
   | zero=>rfl
   | succ q=>
    rw[qj]
    rw[show q+1 - 1=q from rfl] at hc
    by_cases q1:a < q+1
    · rw[if_pos q1,if_neg (fun q2=>hc ⟨q1,q2⟩)]
    rw[if_neg q1]
  refine W.exit (aN (aQ (aO (aX (qs (W.region ?_))))))
  iterate 3 refine pE rfl ?_
  refine WO.nil (W.aU [0] ⟨(i+1,M),?_⟩ ?_ rfl ?_ ⟨rfl,rfl,rfl,rfl,rfl,rfl,trivial⟩ ?_ trivial rfl)
  · exact⟨by omega,hM,by rw[hr2,←hX];exact hI⟩
  · dsimp only;omega
  · repeat' first | exact trivial | refine⟨rfl,?_⟩ | refine⟨aD (by assumption) (by assumption),?_⟩
  repeat' first | exact trivial | refine⟨congrArg some (bd _ _ _),?_⟩
 have hib:b - i=0:=by simp at h14;omega
 rw[hib] at hI
 simp only[jU] at hI
 refine W.exit (aN (aQ (aO (ik.end aa [] trivial rfl rfl rfl rfl ?_ ?_))))
 · rw[←hI];exact jB rfl
 rfl
theorem Ap (l:List Pc) (a m b k cap f:Nat) (hcap:l.length≤100000) (h1:a < m) (h2:m < b) (h3:b≤l.length) (hf:m - a+(b - m)≤f) :
  dE Tryz.prog 124 [.sb 0 l.length cap,.d (.v (.int .i64 (a:Int))),.d (.v (.int .i64 (m:Int))),.d (.v (.int .i64 (b:Int))),.clo 37 []] [a7 (l.map Pc.c) k] 0 (.tup []) [a7 ((gU f l m (m - a) (b - m)).map Pc.c) k] 0:=by
 refine dE.fg aa (n:=58) (rs:=[]) Tryz.func124 (by kernel_rfl) rfl Tryz.ntmps124 Tryz.results124 rfl rfl fun C hC hG=>?_
 refine W.seq (W.region ?_)
 iterate 2 refine pE rfl ?_
 refine pu (bH (ev aa rfl) (iE (x:=m) (y:=a) (by omega) (by omega))) rfl ?_
 refine pE rfl (WO.nil (qs (W.seq (W.region ?_))))
 iterate 2 refine pE rfl ?_
 refine pu (bH (ev aa rfl) (iE (x:=b) (y:=m) (by omega) (by omega))) rfl ?_
 refine pE rfl (WO.nil (qs (W.seq (W.block ?_))))
 refine W.aS (ι:={x:Nat×Nat×Nat×List Pc // match x with | (g,i,j,L)=>i+j≤g∧0 < i∧0 < j∧i≤m∧m+j≤l.length∧L.length=l.length∧gU g L m i j=gU f l m (m - a) (b - m)})
  (fun x=>match x.1 with | (g,i,j,L)=>[(0,.sb 0 l.length cap),(10,.d (.v (.int .i64 ((i:Nat):Int)))),(11,.d (.v (.int .i64 ((j:Nat):Int))))]) [(2,_),(4,_)]
  (fun x=>match x.1 with | (g,i,j,L)=>[(0,a7 (L.map Pc.c) k)]) [] [] 1 (fun x=>match x.1 with | (g,i,j,L)=>i+j)
  [0] ⟨(f,m - a,b - m,l),?_⟩ rfl ?_ ⟨rfl,rfl,rfl,rfl,trivial⟩ ?_ trivial rfl ?_
 · exact⟨hf,by omega,by omega,by omega,by omega,rfl,rfl⟩
 · repeat' first | exact trivial | refine⟨rfl,?_⟩
 · repeat' first | exact trivial | refine⟨congrArg some (bd _ _ _),?_⟩
 rintro⟨⟨g,i,j,L⟩,hg,hi,hj,him,hjl,hL,hI⟩
 show W _ _ _ _ _ ⟨[(0,.sb 0 l.length cap),(10,.d (.v (.int .i64 ((i:Nat):Int)))),(11,.d (.v (.int .i64 ((j:Nat):Int)))),(2,_),(4,_)],[(0,a7 (L.map Pc.c) k)],[],1⟩
 obtain⟨g,rfl⟩:∃ q,g=q+1:=⟨g - 1,by omega⟩
 rw[wJ] at hI
 iterate 2 refine W.seq ?_
 refine W.region ?_
 iterate 3 refine pE rfl ?_
 refine WO.nil (qs (ao rfl (fun h20=>?_) (fun h20=>?_)))
 ·
  have hij:i≠j:=by simp at h20;omega
  rw[if_neg hij] at hI
  refine W.skip (qs (W.block (W.seq (W.region ?_))))
  iterate 3 refine pE rfl ?_
  refine WO.nil (qs (ao rfl (fun h23=>?_) (fun h23=>?_)))
  ·
   have hij2:j < i:=by simp at h23;omega
   have hbr:=hij2
   rw[if_pos hij2] at hI
   have hsl:=pY L (m - i) m j k cap (by omega) (by omega) (by omega)
   rw[hL] at hsl
   have hlen:(dJ L (m - i) m j 0).length=l.length:=(eT (lo:=0) (hi:=l.length) j 0 L (by omega) (by omega) (by omega) (by omega) (by omega) (by omega)).len.trans hL
   refine W.seq (W.region ?_)
   iterate 3 refine pE rfl ?_
   refine pu (bH (ev aa rfl) (iE (x:=m) (y:=i) (by omega) (by omega))) rfl ?_
   iterate 3 refine pE rfl ?_
   refine iS 0 rfl rfl rfl rfl hsl rfl ?_
   refine WO.nil (qs (W.region ?_))
   iterate 2 refine pE rfl ?_
   refine pu (bH (ev aa rfl) (iE (x:=i) (y:=j) (by omega) (by omega))) rfl ?_
   refine pE rfl (WO.nil (aX ?_))
   (have _hb:j < i:=hbr;refine W.aU [0] ⟨(g,i - j,j,dJ L (m - i) m j 0),?_⟩ ?_ rfl ?_ ⟨rfl,rfl,rfl,rfl,trivial⟩ ?_ trivial rfl)
   · exact⟨by omega,by omega,by omega,by omega,by omega,hlen,hI⟩
   · dsimp only;omega
   · repeat' first | exact trivial | refine⟨rfl,?_⟩
   repeat' first | exact trivial | refine⟨congrArg some (bd _ _ _),?_⟩
  have hij2:¬ j < i:=by simp at h23;omega
  have hbr:=hij2
  rw[if_neg hij2] at hI
  have hsl:=pY L (m - i) (m+j - i) i k cap (by omega) (by omega) (by omega)
  rw[hL] at hsl
  have hlen:(dJ L (m - i) (m+j - i) i 0).length=l.length:=(eT (lo:=0) (hi:=l.length) i 0 L (by omega) (by omega) (by omega) (by omega) (by omega) (by omega)).len.trans hL
  refine W.seq (W.region ?_)
  iterate 3 refine pE rfl ?_
  refine pu (bH (ev aa rfl) (iE (x:=m) (y:=i) (by omega) (by omega))) rfl ?_
  iterate 2 refine pE rfl ?_
  refine pu (bH (ev aa rfl) (eQ (x:=m) (y:=j) (by omega))) rfl ?_
  refine pE rfl (pu (bH (ev aa rfl) (iE (x:=m+j) (y:=i) (by omega) (by omega))) rfl ?_)
  iterate 2 refine pE rfl ?_
  refine iS 0 rfl rfl rfl rfl hsl rfl ?_
  refine WO.nil (qs (W.region ?_))
  iterate 2 refine pE rfl ?_
  refine pu (bH (ev aa rfl) (iE (x:=j) (y:=i) (by omega) (by omega))) rfl ?_
  refine pE rfl (WO.nil (aX ?_))
  (have _hb:¬ j < i:=hbr;refine W.aU [0] ⟨(g,i,j - i,dJ L (m - i) (m+j - i) i 0),?_⟩ ?_ rfl ?_ ⟨rfl,rfl,rfl,rfl,trivial⟩ ?_ trivial rfl)
  · exact⟨by omega,by omega,by omega,by omega,by omega,hlen,hI⟩
  · dsimp only;omega
  · repeat' first | exact trivial | refine⟨rfl,?_⟩
  repeat' first | exact trivial | refine⟨congrArg some (bd _ _ _),?_⟩
 have hij:i=j:=by simp at h20;omega
 rw[if_pos hij] at hI
 refine W.exit (aN (aQ (aO (qs ?_))))
 have hsl:=pY L (m - i) m i k cap (by omega) (by omega) (by omega)
 rw[hL] at hsl
 refine W.region ?_
 iterate 3 refine pE rfl ?_
 refine pu (bH (ev aa rfl) (iE (x:=m) (y:=i) (by omega) (by omega))) rfl ?_
 iterate 3 refine pE rfl ?_
 refine iS 0 rfl rfl rfl rfl hsl rfl ?_
 refine WO.nil (ik.end aa [] trivial rfl rfl rfl rfl ?_ ?_)
 · rw[←hI];exact jB rfl
 rfl
end Go.Proofs.YtjenenllmjlimaaGreat
namespace Go.Proofs.YtjenenllmjlimaaGreat
open Go.Ab Go.Tb
set_option maxRecDepth 10000
attribute [local irreducible] W WO Pu QS QB QL QF QV b7 CH QE
theorem nO (p:Nat→Bool) (f i j:Nat):dN p (f+1) i j=if i < j then (if p ((i+j) / 2)=true then dN p f ((i+j) / 2+1) j else dN p f i ((i+j) / 2)) else i:=rfl
theorem wa {x:Nat} (h:x≤1000000):IntKind.u64.wrap ((x:Int))=(x:Int):=by
 simp only[IntKind.wrap,IntKind.signed,IntKind.bits]
 simp
 omega
theorem vC {x:Nat}:((x:Int)).fdiv (2 ^ (min (IntKind.u64.wrap 1).toNat IntKind.u64.bits))=((x / 2:Nat):Int):=by
 have e:min (IntKind.u64.wrap 1).toNat IntKind.u64.bits=1:=by decide
 rw[e]
 have:((x:Int)).fdiv 2=(x:Int) / 2:=Int.fdiv_eq_ediv_of_nonneg _ (by omega)
 rw[show((2:Int) ^ 1)=2 from rfl,this]
 omega
theorem o0 {x:Nat} (h:x≤1000000):dq (.int .u64 (x:Int))=true:=by
 simp[dq,IntKind.min,IntKind.max,IntKind.signed,IntKind.bits];omega
theorem wb {x:Nat} (h:x≤1000000):IntKind.i64.wrap ((x:Int))=(x:Int):=wrap64 (by omega)
theorem oP:∀ (f:Nat) (l:List Pc) (a m b k cap:Nat),l.length≤100000→a < m→m < b→b≤l.length→b - a≤f →
  dE Tryz.prog 86 [.sb 0 l.length cap,.d (.v (.int .i64 (a:Int))),.d (.v (.int .i64 (m:Int))),.d (.v (.int .i64 (b:Int))),.clo 37 []] [a7 (l.map Pc.c) k] 0 (.tup []) [a7 ((ep bg f l a m b).map Pc.c) k] 0
 | 0,l,a,m,b,k,cap,hcap,h1,h2,h3,hf=>by omega
 | f+1,l,a,m,b,k,cap,hcap,h1,h2,h3,hf=>by
  refine dE.fg aa (n:=220) (rs:=[]) Tryz.func86 (by kernel_rfl) rfl Tryz.ntmps86 Tryz.results86 rfl rfl fun C hC hG=>?_
  iterate 2 refine W.seq ?_
  refine W.region ?_
  iterate 2 refine pE rfl ?_
  refine pu (bH (ev aa rfl) (iE (x:=m) (y:=a) (by omega) (by omega))) rfl ?_
  refine pE rfl (WO.nil (qs (ao rfl (fun h28=>?_) (fun h28=>?_))))
  ·
   have e1:m - a=1:=by simp at h28;omega
   refine W.seq (W.region ?_)
   iterate 2 refine pE rfl ?_
   refine WO.nil (qs (W.seq (W.region ?_)))
   iterate 2 refine pE rfl ?_
   refine WO.nil (qs (W.seq (W.block ?_)))
   refine W.aS (ι:={x:Nat×Nat×Nat // match x with | (g,i,j)=>j - i < g∧m≤i∧i≤j∧j≤b∧dN (fun h=>bg (el l h) (el l a)) g i j=dN (fun h=>bg (el l h) (el l a)) (b - m+1) m b})
    (fun x=>match x.1 with | (g,i,j)=>[(0,.sb 0 l.length cap),(10,.d (.v (.int .i64 ((i:Nat):Int)))),(11,.d (.v (.int .i64 ((j:Nat):Int))))]) [(1,_),(4,_)]
    (fun x=>match x.1 with | (g,i,j)=>[(0,a7 (l.map Pc.c) k)]) [] [] 1 (fun x=>match x.1 with | (g,i,j)=>j - i)
    [0] ⟨(b - m+1,m,b),?_⟩ rfl ?_ ⟨rfl,rfl,rfl,rfl,trivial⟩ ?_ trivial rfl ?_
   · exact⟨by omega,Nat.le_refl _,by omega,Nat.le_refl _,rfl⟩
   · repeat' first | exact trivial | refine⟨rfl,?_⟩
   · repeat' first | exact trivial | refine⟨congrArg some (bd _ _ _),?_⟩
   rintro⟨⟨g,i,j⟩,hg,hi,hij,hj,hI⟩
   show W _ _ _ _ _ ⟨[(0,.sb 0 l.length cap),(10,.d (.v (.int .i64 ((i:Nat):Int)))),(11,.d (.v (.int .i64 ((j:Nat):Int)))),(1,_),(4,_)],[(0,a7 (l.map Pc.c) k)],[],1⟩
   obtain⟨g,rfl⟩:∃ q,g=q+1:=⟨g - 1,by omega⟩
   rw[nO] at hI
   iterate 2 refine W.seq ?_
   refine W.region ?_
   iterate 3 refine pE rfl ?_
   refine WO.nil (qs (ao rfl (fun h33=>?_) (fun h33=>?_)))
   ·
    have hlt:i < j:=by simp at h33;omega
    rw[if_pos hlt] at hI
    refine W.skip (qs (W.block (W.seq (W.region ?_))))
    iterate 2 refine pE rfl ?_
    refine pu (bH (ev aa rfl) (eQ (x:=i) (y:=j) (by omega))) rfl ?_
    refine pu (bH (ev aa rfl) (wa (x:=i+j) (by omega))) rfl ?_
    refine pu (wi (r:=(((i+j) / 2:Nat):Int)) rfl rfl (by decide) vC (o0 (by omega))) rfl ?_
    refine pu (bH (ev aa rfl) (wb (x:=(i+j) / 2) (by omega))) rfl ?_
    refine pE rfl (WO.nil (qs (W.seq (W.be aa (by kernel_rfl) ?_))))
    iterate 3 refine an (ev aa rfl) rfl ?_
    refine an (bG aa rfl rfl rfl rfl rfl (Int.natCast_nonneg _) (show(i+j) / 2 < l.length by omega) rfl) rfl ?_
    refine an (eK (i:=(i+j) / 2) aa rfl rfl rfl rfl (cr l) (dQ (by omega))) rfl ?_
    iterate 2 refine an (ev aa rfl) rfl ?_
    refine an (bG aa rfl rfl rfl rfl rfl (Int.natCast_nonneg _) (show a < l.length by omega) rfl) rfl ?_
    refine an (eK (i:=a) aa rfl rfl rfl rfl (cr l) (dQ (by omega))) rfl ?_
    refine an (ak rfl rfl rfl (kL (el l ((i+j) / 2)) (el l a)) rfl) rfl ?_
    refine an (ev aa rfl) rfl ?_
    refine CH.nil ?_
    refine qs (ao rfl (fun h50=>?_) (fun h50=>?_))
    ·
     have hbr:bg (el l ((i+j) / 2)) (el l a)=true:=h50
     rw[if_pos hbr] at hI
     refine W.region (pE rfl (pu (bH (ev aa rfl) (eQ (x:=(i+j) / 2) (y:=1) (by omega))) rfl ?_))
     refine pE rfl (WO.nil (aX ?_))
     (have _hb:bg (el l ((i+j) / 2)) (el l a)=true:=hbr;refine W.aU [0] ⟨(g,(i+j) / 2+1,j),?_⟩ ?_ rfl ?_ ⟨rfl,rfl,rfl,rfl,trivial⟩ ?_ trivial rfl)
     · exact⟨by omega,by omega,by omega,by omega,hI⟩
     · dsimp only;omega
     · repeat' first | exact trivial | refine⟨rfl,?_⟩
     repeat' first | exact trivial | refine⟨congrArg some (bd _ _ _),?_⟩
    have hbr:bg (el l ((i+j) / 2)) (el l a)=false:=h50
    rw[if_neg (by rw[hbr];decide)] at hI
    refine W.region ?_
    iterate 2 refine pE rfl ?_
    refine WO.nil (aX ?_)
    (have _hb:bg (el l ((i+j) / 2)) (el l a)=false:=hbr;refine W.aU [0] ⟨(g,i,(i+j) / 2),?_⟩ ?_ rfl ?_ ⟨rfl,rfl,rfl,rfl,trivial⟩ ?_ trivial rfl)
    · exact⟨by omega,by omega,by omega,by omega,hI⟩
    · dsimp only;omega
    · repeat' first | exact trivial | refine⟨rfl,?_⟩
    repeat' first | exact trivial | refine⟨congrArg some (bd _ _ _),?_⟩
   have hlt:¬ i < j:=by simp at h33;omega
   rw[if_neg hlt] at hI
   refine W.exit (aN (aQ (aO (qs ?_))))
   iterate 2 refine W.seq ?_
   refine W.region ?_
   iterate 2 refine pE rfl ?_
   refine WO.nil (qs (W.block ?_))
   have hr1:i≤b:=by omega
   refine W.aS (ι:={x:Nat×List Pc // match x with | (x,L)=>a≤x∧x≤i - 1∧L.length=l.length∧nt L (i - 1 - x) x=nt l (i - 1 - a) a})
    (fun x=>match x.1 with | (x,L)=>[(0,.sb 0 l.length cap),(13,.d (.v (.int .i64 ((x:Nat):Int))))]) [(10,_)]
    (fun x=>match x.1 with | (x,L)=>[(0,a7 (L.map Pc.c) k)]) [] [] 1 (fun x=>match x.1 with | (x,L)=>i - 1 - x)
    [0] ⟨(a,l),?_⟩ rfl ?_ ⟨rfl,rfl,trivial⟩ ?_ trivial rfl ?_
   · exact⟨Nat.le_refl _,by omega,rfl,rfl⟩
   · repeat' first | exact trivial | refine⟨rfl,?_⟩
   · repeat' first | exact trivial | refine⟨congrArg some (bd _ _ _),?_⟩
   rintro⟨⟨x,L⟩,hx1,hx2,hL,hU⟩
   show W _ _ _ _ _ ⟨[(0,.sb 0 l.length cap),(13,.d (.v (.int .i64 ((x:Nat):Int)))),(10,_)],[(0,a7 (L.map Pc.c) k)],[],1⟩
   iterate 2 refine W.seq ?_
   refine W.region ?_
   iterate 2 refine pE rfl ?_
   refine pu (bH (ev aa rfl) (iE (x:=i) (y:=1) (by omega) (by omega))) rfl ?_
   refine pE rfl (WO.nil (qs (ao rfl (fun h58=>?_) (fun h58=>?_))))
   ·
    have hxi:x < i - 1:=by simp at h58;omega
    obtain⟨r,hr⟩:∃ r,i - 1 - x=r+1:=⟨i - 1 - x - 1,by omega⟩
    have hr2:i - 1 - (x+1)=r:=by omega
    rw[hr] at hU
    simp only[nt] at hU
    have ea:(L.map Pc.c)[x]? = some (el L x).c:=dQ (by omega)
    have eb:(L.map Pc.c)[x+1]? = some (el L (x+1)).c:=dQ (by omega)
    have eb2:((L.set x (el L (x+1))).map Pc.c)[x+1]? = some (el L (x+1)).c:=by rw[dQ (by rw[List.length_set];omega),ml (by omega),if_neg (by omega)]
    refine W.skip (qs (W.seq (W.block ?_)))
    apply W.j0 aa 16 15;(case hB=>kernel_rfl);(case h1=>rfl);(case h2=>rfl)
    refine' bz (ev aa rfl) rfl rfl rfl rfl rfl ?h_1
    case' h_1=>skip
    refine' bz (ev aa rfl) rfl rfl rfl rfl rfl ?h_2
    case' h_2=>skip
    refine' cg ?p1_3 (ev aa rfl) rfl rfl rfl rfl rfl ?h_3
    case' h_3=>skip
    refine' cg ?p1_4 (ev aa rfl) rfl rfl rfl rfl rfl ?h_4
    case' h_4=>skip
    refine' cg ?p1_5 (bH (ev aa rfl) (eQ (x:=x) (y:=1) (by omega))) rfl rfl rfl rfl rfl ?h_5
    case' h_5=>skip
    refine' bz (ev aa rfl) rfl rfl rfl rfl rfl ?h_6
    case' h_6=>skip
    refine' bz (ev aa rfl) rfl rfl rfl rfl rfl ?h_7
    case' h_7=>skip
    refine' bz (bH (ev aa rfl) (eQ (x:=x) (y:=1) (by omega))) rfl rfl rfl rfl rfl ?h_8
    case' h_8=>skip
    refine' bz (bG aa rfl rfl rfl rfl rfl (Int.natCast_nonneg _) (show x+1 < l.length by omega) rfl) rfl rfl rfl rfl rfl ?h_9
    case' h_9=>skip
    refine' bz (eK (i:=x+1) aa rfl rfl rfl rfl (cr L) eb) rfl rfl rfl rfl rfl ?h_10
    case' h_10=>skip
    refine' cg ?p1_11 (ev aa rfl) rfl rfl rfl rfl rfl ?h_11
    case' h_11=>skip
    refine' cg ?p1_12 (ev aa rfl) rfl rfl rfl rfl rfl ?h_12
    case' h_12=>skip
    refine' cg ?p1_13 (bG aa rfl rfl rfl rfl rfl (Int.natCast_nonneg _) (show x < l.length by omega) rfl) rfl rfl rfl rfl rfl ?h_13
    case' h_13=>skip
    refine' bz (eK (i:=x) aa rfl rfl rfl rfl (cr L) ea) rfl rfl rfl rfl rfl ?h_14
    case' h_14=>skip
    refine' bz (bG aa rfl rfl rfl rfl rfl (Int.natCast_nonneg _) (show x < l.length by omega) rfl) rfl rfl rfl rfl rfl ?h_15
    case' h_15=>skip
    refine' mR (fun g=>?e_16) rfl rfl ?h_16
    case e_16=>
     refine jh (i:=x) aa rfl rfl rfl rfl (cr L) ea rfl rfl (iK (x:=el L (x+1))) ?_
     refine WO.nil ?_
     exact⟨rfl,rfl⟩
    case' h_16=>skip
    case p1_3=>exact(ev aa rfl)
    case p1_4=>exact(ev aa rfl)
    case p1_5=>exact(bH (ev aa rfl) (eQ (x:=x) (y:=1) (by omega)))
    case p1_11=>exact(ev aa rfl)
    case p1_12=>exact(ev aa rfl)
    case p1_13=>exact(bG aa rfl rfl rfl rfl rfl (Int.natCast_nonneg _) (show x < l.length by omega) rfl)
    refine CC.nil ?_
    refine pu (bG aa rfl rfl rfl rfl rfl (Int.natCast_nonneg _) (show x+1 < l.length by omega) rfl) rfl ?_
    refine jh (i:=x+1) aa rfl rfl rfl rfl (cr _) eb2 rfl rfl (iK (x:=el L x)) ?_
    refine WO.nil (aX (qs (W.region (pE rfl (pu (bH (ev aa rfl) (eQ (x:=x) (y:=1) (by omega))) rfl ?_)))))
    refine pE rfl (WO.nil (W.aU [0] ⟨(x+1,fq L x (x+1)),?_⟩ ?_ rfl ?_ ⟨rfl,rfl,trivial⟩ ?_ trivial rfl))
    · exact⟨by omega,by omega,by rw[dA];exact hL,by rw[hr2];exact hU⟩
    · dsimp only;omega
    · repeat' first | exact trivial | refine⟨rfl,?_⟩
    repeat' first | exact trivial | refine⟨congrArg some (bd _ _ _),?_⟩
   have hxi:i - 1 - x=0:=by simp at h58;omega
   rw[hxi] at hU
   simp only[nt] at hU
   have hg:ep bg (f+1) l a m b=L:=by
    unfold ep
    rw[if_pos e1,←hI,hU]
   refine W.exit (aN (aQ (aO (qs (W.ret (ah (ik.end aa [] trivial rfl rfl rfl rfl ?_ ?_)))))))
   · rw[hg];exact jB rfl
   rfl
  have e1:¬ m - a=1:=by simp at h28;omega
  refine W.skip (qs ?_)
  iterate 2 refine W.seq ?_
  refine W.region ?_
  iterate 2 refine pE rfl ?_
  refine pu (bH (ev aa rfl) (iE (x:=b) (y:=m) (by omega) (by omega))) rfl ?_
  refine pE rfl (WO.nil (qs (ao rfl (fun h80=>?_) (fun h80=>?_))))
  ·
   have e2:b - m=1:=by simp at h80;omega
   refine W.seq (W.region ?_)
   iterate 2 refine pE rfl ?_
   refine WO.nil (qs (W.seq (W.region ?_)))
   iterate 2 refine pE rfl ?_
   refine WO.nil (qs (W.seq (W.block ?_)))
   refine W.aS (ι:={x:Nat×Nat×Nat // match x with | (g,i,j)=>j - i < g∧a≤i∧i≤j∧j≤m∧dN (fun h=>!bg (el l m) (el l h)) g i j=dN (fun h=>!bg (el l m) (el l h)) (m - a+1) a m})
    (fun x=>match x.1 with | (g,i,j)=>[(0,.sb 0 l.length cap),(14,.d (.v (.int .i64 ((i:Nat):Int)))),(15,.d (.v (.int .i64 ((j:Nat):Int))))]) [(2,_),(4,_)]
    (fun x=>match x.1 with | (g,i,j)=>[(0,a7 (l.map Pc.c) k)]) [] [] 1 (fun x=>match x.1 with | (g,i,j)=>j - i)
    [0] ⟨(m - a+1,a,m),?_⟩ rfl ?_ ⟨rfl,rfl,rfl,rfl,trivial⟩ ?_ trivial rfl ?_
   · exact⟨by omega,Nat.le_refl _,by omega,Nat.le_refl _,rfl⟩
   · repeat' first | exact trivial | refine⟨rfl,?_⟩
   · repeat' first | exact trivial | refine⟨congrArg some (bd _ _ _),?_⟩
   rintro⟨⟨g,i,j⟩,hg,hi,hij,hj,hI⟩
   show W _ _ _ _ _ ⟨[(0,.sb 0 l.length cap),(14,.d (.v (.int .i64 ((i:Nat):Int)))),(15,.d (.v (.int .i64 ((j:Nat):Int)))),(2,_),(4,_)],[(0,a7 (l.map Pc.c) k)],[],1⟩
   obtain⟨g,rfl⟩:∃ q,g=q+1:=⟨g - 1,by omega⟩
   rw[nO] at hI
   iterate 2 refine W.seq ?_
   refine W.region ?_
   iterate 3 refine pE rfl ?_
   refine WO.nil (qs (ao rfl (fun h85=>?_) (fun h85=>?_)))
   ·
    have hlt:i < j:=by simp at h85;omega
    rw[if_pos hlt] at hI
    refine W.skip (qs (W.block (W.seq (W.region ?_))))
    iterate 2 refine pE rfl ?_
    refine pu (bH (ev aa rfl) (eQ (x:=i) (y:=j) (by omega))) rfl ?_
    refine pu (bH (ev aa rfl) (wa (x:=i+j) (by omega))) rfl ?_
    refine pu (wi (r:=(((i+j) / 2:Nat):Int)) rfl rfl (by decide) vC (o0 (by omega))) rfl ?_
    refine pu (bH (ev aa rfl) (wb (x:=(i+j) / 2) (by omega))) rfl ?_
    refine pE rfl (WO.nil (qs (W.seq (W.be aa (by kernel_rfl) ?_))))
    iterate 3 refine an (ev aa rfl) rfl ?_
    refine an (bG aa rfl rfl rfl rfl rfl (Int.natCast_nonneg _) (show m < l.length by omega) rfl) rfl ?_
    refine an (eK (i:=m) aa rfl rfl rfl rfl (cr l) (dQ (by omega))) rfl ?_
    iterate 2 refine an (ev aa rfl) rfl ?_
    refine an (bG aa rfl rfl rfl rfl rfl (Int.natCast_nonneg _) (show(i+j) / 2 < l.length by omega) rfl) rfl ?_
    refine an (eK (i:=(i+j) / 2) aa rfl rfl rfl rfl (cr l) (dQ (by omega))) rfl ?_
    refine an (ak rfl rfl rfl (kL (el l m) (el l ((i+j) / 2))) rfl) rfl ?_
    iterate 2 refine an (ev aa rfl) rfl ?_
    refine CH.nil ?_
    refine qs (ao rfl (fun h103=>?_) (fun h103=>?_))
    ·
     have hbr:(!bg (el l m) (el l ((i+j) / 2)))=true:=h103
     rw[if_pos hbr] at hI
     refine W.region (pE rfl (pu (bH (ev aa rfl) (eQ (x:=(i+j) / 2) (y:=1) (by omega))) rfl ?_))
     refine pE rfl (WO.nil (aX ?_))
     (have _hb:(!bg (el l m) (el l ((i+j) / 2)))=true:=hbr;refine W.aU [0] ⟨(g,(i+j) / 2+1,j),?_⟩ ?_ rfl ?_ ⟨rfl,rfl,rfl,rfl,trivial⟩ ?_ trivial rfl)
     · exact⟨by omega,by omega,by omega,by omega,hI⟩
     · dsimp only;omega
     · repeat' first | exact trivial | refine⟨rfl,?_⟩
     repeat' first | exact trivial | refine⟨congrArg some (bd _ _ _),?_⟩
    have hbr:(!bg (el l m) (el l ((i+j) / 2)))=false:=h103
    rw[if_neg (by rw[hbr];decide)] at hI
    refine W.region ?_
    iterate 2 refine pE rfl ?_
    refine WO.nil (aX ?_)
    (have _hb:(!bg (el l m) (el l ((i+j) / 2)))=false:=hbr;refine W.aU [0] ⟨(g,i,(i+j) / 2),?_⟩ ?_ rfl ?_ ⟨rfl,rfl,rfl,rfl,trivial⟩ ?_ trivial rfl)
    · exact⟨by omega,by omega,by omega,by omega,hI⟩
    · dsimp only;omega
    · repeat' first | exact trivial | refine⟨rfl,?_⟩
    repeat' first | exact trivial | refine⟨congrArg some (bd _ _ _),?_⟩
   have hlt:¬ i < j:=by simp at h85;omega
   rw[if_neg hlt] at hI
   refine W.exit (aN (aQ (aO (qs ?_))))
   iterate 2 refine W.seq ?_
   refine W.region ?_
   iterate 2 refine pE rfl ?_
   refine WO.nil (qs (W.block ?_))
   refine W.aS (ι:={x:Nat×List Pc // match x with | (x,L)=>i≤x∧x≤m∧L.length=l.length∧nq L (x - i) x=nq l (m - i) m})
    (fun x=>match x.1 with | (x,L)=>[(0,.sb 0 l.length cap),(17,.d (.v (.int .i64 ((x:Nat):Int))))]) [(14,_)]
    (fun x=>match x.1 with | (x,L)=>[(0,a7 (L.map Pc.c) k)]) [] [] 1 (fun x=>match x.1 with | (x,L)=>x - i)
    [0] ⟨(m,l),?_⟩ rfl ?_ ⟨rfl,rfl,trivial⟩ ?_ trivial rfl ?_
   · exact⟨by omega,Nat.le_refl _,rfl,rfl⟩
   · repeat' first | exact trivial | refine⟨rfl,?_⟩
   · repeat' first | exact trivial | refine⟨congrArg some (bd _ _ _),?_⟩
   rintro⟨⟨x,L⟩,hx1,hx2,hL,hU⟩
   show W _ _ _ _ _ ⟨[(0,.sb 0 l.length cap),(17,.d (.v (.int .i64 ((x:Nat):Int)))),(14,_)],[(0,a7 (L.map Pc.c) k)],[],1⟩
   iterate 2 refine W.seq ?_
   refine W.region ?_
   iterate 3 refine pE rfl ?_
   refine WO.nil (qs (ao rfl (fun h110=>?_) (fun h110=>?_)))
   ·
    have hxi:i < x:=by simp at h110;omega
    obtain⟨y,rfl⟩:∃ y,x=y+1:=⟨x - 1,by omega⟩
    have hr:y+1 - i=y - i+1:=by omega
    rw[hr] at hU
    simp only[nq] at hU
    rw[show y+1 - 1=y from rfl] at hU
    have ea:(L.map Pc.c)[y+1]? = some (el L (y+1)).c:=dQ (by omega)
    have eb:(L.map Pc.c)[y]? = some (el L y).c:=dQ (by omega)
    have eb2:((L.set (y+1) (el L y)).map Pc.c)[y]? = some (el L y).c:=by rw[dQ (by rw[List.length_set];omega),ml (by omega),if_neg (by omega)]
    have hsub:IntKind.i64.wrap (((y+1:Nat):Int) - 1)=((y:Nat):Int):=by rw[wrap64 (by omega)];omega
    refine W.skip (qs (W.seq (W.block ?_)))
    apply W.j0 aa 16 15;(case hB=>kernel_rfl);(case h1=>rfl);(case h2=>rfl)
    refine' bz (ev aa rfl) rfl rfl rfl rfl rfl ?h_17
    case' h_17=>skip
    refine' bz (ev aa rfl) rfl rfl rfl rfl rfl ?h_18
    case' h_18=>skip
    refine' cg ?p1_19 (ev aa rfl) rfl rfl rfl rfl rfl ?h_19
    case' h_19=>skip
    refine' cg ?p1_20 (ev aa rfl) rfl rfl rfl rfl rfl ?h_20
    case' h_20=>skip
    refine' cg ?p1_21 (bH (ev aa rfl) hsub) rfl rfl rfl rfl rfl ?h_21
    case' h_21=>skip
    refine' bz (ev aa rfl) rfl rfl rfl rfl rfl ?h_22
    case' h_22=>skip
    refine' bz (ev aa rfl) rfl rfl rfl rfl rfl ?h_23
    case' h_23=>skip
    refine' bz (bH (ev aa rfl) hsub) rfl rfl rfl rfl rfl ?h_24
    case' h_24=>skip
    refine' bz (bG aa rfl rfl rfl rfl rfl (Int.natCast_nonneg _) (show y < l.length by omega) rfl) rfl rfl rfl rfl rfl ?h_25
    case' h_25=>skip
    refine' bz (eK (i:=y) aa rfl rfl rfl rfl (cr L) eb) rfl rfl rfl rfl rfl ?h_26
    case' h_26=>skip
    refine' cg ?p1_27 (ev aa rfl) rfl rfl rfl rfl rfl ?h_27
    case' h_27=>skip
    refine' cg ?p1_28 (ev aa rfl) rfl rfl rfl rfl rfl ?h_28
    case' h_28=>skip
    refine' cg ?p1_29 (bG aa rfl rfl rfl rfl rfl (Int.natCast_nonneg _) (show y+1 < l.length by omega) rfl) rfl rfl rfl rfl rfl ?h_29
    case' h_29=>skip
    refine' bz (eK (i:=y+1) aa rfl rfl rfl rfl (cr L) ea) rfl rfl rfl rfl rfl ?h_30
    case' h_30=>skip
    refine' bz (bG aa rfl rfl rfl rfl rfl (Int.natCast_nonneg _) (show y+1 < l.length by omega) rfl) rfl rfl rfl rfl rfl ?h_31
    case' h_31=>skip
    refine' mR (fun g=>?e_32) rfl rfl ?h_32
    case e_32=>
     refine jh (i:=y+1) aa rfl rfl rfl rfl (cr L) ea rfl rfl (iK (x:=el L y)) ?_
     refine WO.nil ?_
     exact⟨rfl,rfl⟩
    case' h_32=>skip
    case p1_19=>exact(ev aa rfl)
    case p1_20=>exact(ev aa rfl)
    case p1_21=>exact(bH (ev aa rfl) hsub)
    case p1_27=>exact(ev aa rfl)
    case p1_28=>exact(ev aa rfl)
    case p1_29=>exact(bG aa rfl rfl rfl rfl rfl (Int.natCast_nonneg _) (show y+1 < l.length by omega) rfl)
    refine CC.nil ?_
    refine pu (bG aa rfl rfl rfl rfl rfl (Int.natCast_nonneg _) (show y < l.length by omega) rfl) rfl ?_
    refine jh (i:=y) aa rfl rfl rfl rfl (cr _) eb2 rfl rfl (iK (x:=el L (y+1))) ?_
    refine WO.nil (aX (qs (W.region (pE rfl (pu (bH (ev aa rfl) hsub) rfl ?_)))))
    refine pE rfl (WO.nil (W.aU [0] ⟨(y,fq L (y+1) y),?_⟩ ?_ rfl ?_ ⟨rfl,rfl,trivial⟩ ?_ trivial rfl))
    · exact⟨by omega,by omega,by rw[dA];exact hL,hU⟩
    · dsimp only;omega
    · repeat' first | exact trivial | refine⟨rfl,?_⟩
    repeat' first | exact trivial | refine⟨congrArg some (bd _ _ _),?_⟩
   have hxi:x - i=0:=by simp at h110;omega
   rw[hxi] at hU
   simp only[nq] at hU
   have hg:ep bg (f+1) l a m b=L:=by
    unfold ep
    rw[if_neg e1,if_pos e2,←hI,hU]
   refine W.exit (aN (aQ (aO (qs (W.ret (ah (ik.end aa [] trivial rfl rfl rfl rfl ?_ ?_)))))))
   · rw[hg];exact jB rfl
   rfl
  have e2:¬ b - m=1:=by simp at h80;omega
  refine W.skip (qs (W.seq ?_))
  have hG:ep bg (f+1) l a m b=ep bg (f+1) l a m b:=rfl
  conv at hG=>rhs;unfold ep
  rw[if_neg e1,if_neg e2] at hG
  dsimp only at hG
  generalize hmid:(a+b) / 2=mid at hG
  generalize hs0:(if mid < m then mid+m - b else a)=s0 at hG
  generalize hr0:(if mid < m then mid else m)=r0 at hG
  have hle:s0≤r0:=by subst hs0 hr0;split <;> omega
  have hs1:a≤s0:=by subst hs0;split <;> omega
  have hr1:r0≤m∧r0≤mid:=by subst hr0;split <;> omega
  have hs2:mid+m≤b+s0:=by subst hs0;split <;> omega
  have hlow:∀ c,s0≤c→c < r0→m≤mid+m - 1 - c∧mid+m - 1 - c < b:=fun c p1 p2=>by subst hs0 hr0;split at p1 <;> split at p2 <;> omega
  have hhalf:=vC (x:=a+b)
  rw[hmid] at hhalf
  refine W.region ?_
  iterate 2 refine pE rfl ?_
  refine pu (bH (ev aa rfl) (eQ (x:=a) (y:=b) (by omega))) rfl ?_
  refine pu (bH (ev aa rfl) (wa (x:=a+b) (by omega))) rfl ?_
  refine pu (wi (r:=(mid:Int)) rfl rfl (by decide) hhalf (o0 (by omega))) rfl ?_
  refine pu (bH (ev aa rfl) (wb (x:=mid) (by omega))) rfl ?_
  refine pE rfl (WO.nil (qs (W.seq (W.region ?_))))
  iterate 2 refine pE rfl ?_
  refine pu (bH (ev aa rfl) (eQ (x:=mid) (y:=m) (by omega))) rfl ?_
  refine pE rfl (WO.nil (qs (W.seq (W.region ?_))))
  iterate 2 refine pE rfl ?_
  refine WO.nil (qs ?_)
  iterate 2 refine W.seq ?_
  refine W.region ?_
  iterate 3 refine pE rfl ?_
  refine WO.nil (qs (W.we [(0,.sb 0 l.length cap),(1,.d (.v (.int .i64 ((a:Nat):Int)))),(2,.d (.v (.int .i64 ((m:Nat):Int)))),(3,.d (.v (.int .i64 ((b:Nat):Int)))),(4,.clo 37 []),(18,.d (.v (.int .i64 ((mid:Nat):Int)))),(19,.d (.v (.int .i64 (((mid+m):Nat):Int)))),(20,.d (.v (.int .i64 ((s0:Nat):Int)))),(21,.d (.v (.int .i64 ((r0:Nat):Int))))] [] [(0,a7 (l.map Pc.c) k)] [] [] 1 ?_ ?_))
  ·
   refine ao rfl (fun h140=>?_) (fun h140=>?_)
   ·
    have hq:mid < m:=by simp at h140;omega
    rw[if_pos hq] at hs0 hr0
    subst hs0 hr0
    refine W.seq (W.region ?_)
    iterate 2 refine pE rfl ?_
    refine pu (bH (ev aa rfl) (iE (x:=mid+m) (y:=b) (by omega) (by omega))) rfl ?_
    refine pE rfl (WO.nil (qs (W.region ?_)))
    iterate 2 refine pE rfl ?_
    refine WO.nil (jQ [0] rfl ?_ trivial ?_ trivial rfl)
    · repeat' first | exact trivial | refine⟨rfl,?_⟩
    repeat' first | exact trivial | refine⟨congrArg some (bd _ _ _),?_⟩
   have hq:¬ mid < m:=by simp at h140;omega
   rw[if_neg hq] at hs0 hr0
   subst hs0 hr0
   refine W.seq (W.region ?_)
   iterate 2 refine pE rfl ?_
   refine WO.nil (qs (W.region ?_))
   iterate 2 refine pE rfl ?_
   refine WO.nil (jQ [0] rfl ?_ trivial ?_ trivial rfl)
   · repeat' first | exact trivial | refine⟨rfl,?_⟩
   repeat' first | exact trivial | refine⟨congrArg some (bd _ _ _),?_⟩
  refine qs (W.seq (W.region (pE rfl (pu (bH (ev aa rfl) (iE (x:=mid+m) (y:=1) (by omega) (by omega))) rfl ?_))))
  refine pE rfl (WO.nil (qs (W.seq (W.block ?_))))
  refine W.aS (ι:={x:Nat×Nat×Nat // match x with | (g,i,j)=>j - i < g∧s0≤i∧i≤j∧j≤r0∧dN (fun c=>!bg (el l (mid+m - 1 - c)) (el l c)) g i j=dN (fun c=>!bg (el l (mid+m - 1 - c)) (el l c)) (r0 - s0+1) s0 r0})
   (fun x=>match x.1 with | (g,i,j)=>[(0,.sb 0 l.length cap),(20,.d (.v (.int .i64 ((i:Nat):Int)))),(21,.d (.v (.int .i64 ((j:Nat):Int))))]) [(1,_),(2,_),(3,_),(4,_),(18,_),(19,_),(22,_)]
   (fun x=>match x.1 with | (g,i,j)=>[(0,a7 (l.map Pc.c) k)]) [] [] 1 (fun x=>match x.1 with | (g,i,j)=>j - i)
   [0] ⟨(r0 - s0+1,s0,r0),?_⟩ rfl ?_ ⟨rfl,rfl,rfl,rfl,rfl,rfl,rfl,rfl,rfl,rfl,rfl,rfl,rfl,rfl,trivial⟩ ?_ trivial rfl ?_
  · exact⟨by omega,Nat.le_refl _,by omega,Nat.le_refl _,rfl⟩
  · repeat' first | exact trivial | refine⟨rfl,?_⟩
  · repeat' first | exact trivial | refine⟨congrArg some (bd _ _ _),?_⟩
  rintro⟨⟨g,i,j⟩,hg,hi,hij,hj,hI⟩
  show W _ _ _ _ _ ⟨[(0,.sb 0 l.length cap),(20,.d (.v (.int .i64 ((i:Nat):Int)))),(21,.d (.v (.int .i64 ((j:Nat):Int)))),(1,_),(2,_),(3,_),(4,_),(18,_),(19,_),(22,_)],[(0,a7 (l.map Pc.c) k)],[],1⟩
  obtain⟨g,rfl⟩:∃ q,g=q+1:=⟨g - 1,by omega⟩
  rw[nO] at hI
  iterate 2 refine W.seq ?_
  refine W.region ?_
  iterate 3 refine pE rfl ?_
  refine WO.nil (qs (ao rfl (fun h151=>?_) (fun h151=>?_)))
  ·
   have hlt:i < j:=by simp at h151;omega
   rw[if_pos hlt] at hI
   have hlw:=hlow ((i+j) / 2) (by omega) (by omega)
   refine W.skip (qs (W.block (W.seq (W.region ?_))))
   iterate 2 refine pE rfl ?_
   refine pu (bH (ev aa rfl) (eQ (x:=i) (y:=j) (by omega))) rfl ?_
   refine pu (bH (ev aa rfl) (wa (x:=i+j) (by omega))) rfl ?_
   refine pu (wi (r:=(((i+j) / 2:Nat):Int)) rfl rfl (by decide) vC (o0 (by omega))) rfl ?_
   refine pu (bH (ev aa rfl) (wb (x:=(i+j) / 2) (by omega))) rfl ?_
   refine pE rfl (WO.nil (qs (W.seq (W.be aa (by kernel_rfl) ?_))))
   iterate 4 refine an (ev aa rfl) rfl ?_
   refine an (bH (ev aa rfl) (iE (x:=mid+m - 1) (y:=(i+j) / 2) (by omega) (by omega))) rfl ?_
   refine an (bG aa rfl rfl rfl rfl rfl (Int.natCast_nonneg _) (show mid+m - 1 - (i+j) / 2 < l.length by omega) rfl) rfl ?_
   refine an (eK (i:=mid+m - 1 - (i+j) / 2) aa rfl rfl rfl rfl (cr l) (dQ (by omega))) rfl ?_
   iterate 2 refine an (ev aa rfl) rfl ?_
   refine an (bG aa rfl rfl rfl rfl rfl (Int.natCast_nonneg _) (show(i+j) / 2 < l.length by omega) rfl) rfl ?_
   refine an (eK (i:=(i+j) / 2) aa rfl rfl rfl rfl (cr l) (dQ (by omega))) rfl ?_
   refine an (ak rfl rfl rfl (kL (el l (mid+m - 1 - (i+j) / 2)) (el l ((i+j) / 2))) rfl) rfl ?_
   iterate 2 refine an (ev aa rfl) rfl ?_
   refine CH.nil ?_
   refine qs (ao rfl (fun h171=>?_) (fun h171=>?_))
   ·
    have hbr:(!bg (el l (mid+m - 1 - (i+j) / 2)) (el l ((i+j) / 2)))=true:=h171
    rw[if_pos hbr] at hI
    refine W.region (pE rfl (pu (bH (ev aa rfl) (eQ (x:=(i+j) / 2) (y:=1) (by omega))) rfl ?_))
    refine pE rfl (WO.nil (aX ?_))
    (have _hb:(!bg (el l (mid+m - 1 - (i+j) / 2)) (el l ((i+j) / 2)))=true:=hbr;refine W.aU [0] ⟨(g,(i+j) / 2+1,j),?_⟩ ?_ rfl ?_ ⟨rfl,rfl,rfl,rfl,rfl,rfl,rfl,rfl,rfl,rfl,rfl,rfl,rfl,rfl,trivial⟩ ?_ trivial rfl)
    · exact⟨by omega,by omega,by omega,by omega,hI⟩
    · dsimp only;omega
    · repeat' first | exact trivial | refine⟨rfl,?_⟩
    repeat' first | exact trivial | refine⟨congrArg some (bd _ _ _),?_⟩
   have hbr:(!bg (el l (mid+m - 1 - (i+j) / 2)) (el l ((i+j) / 2)))=false:=h171
   rw[if_neg (by rw[hbr];decide)] at hI
   refine W.region ?_
   iterate 2 refine pE rfl ?_
   refine WO.nil (aX ?_)
   (have _hb:(!bg (el l (mid+m - 1 - (i+j) / 2)) (el l ((i+j) / 2)))=false:=hbr;refine W.aU [0] ⟨(g,i,(i+j) / 2),?_⟩ ?_ rfl ?_ ⟨rfl,rfl,rfl,rfl,rfl,rfl,rfl,rfl,rfl,rfl,rfl,rfl,rfl,rfl,trivial⟩ ?_ trivial rfl)
   · exact⟨by omega,by omega,by omega,by omega,hI⟩
   · dsimp only;omega
   · repeat' first | exact trivial | refine⟨rfl,?_⟩
   repeat' first | exact trivial | refine⟨congrArg some (bd _ _ _),?_⟩
  have hlt:¬ i < j:=by simp at h151;omega
  rw[if_neg hlt] at hI
  rw[←hI] at hG
  obtain⟨e,he⟩:∃ e,mid+m - i=e:=⟨_,rfl⟩
  rw[he] at hG
  have hse:m≤e:=by omega
  have hsb:e≤b:=by omega
  obtain⟨l1,hl1⟩:∃ x,(if i < m∧m < e then gU (m - i+(e - m)) l m (m - i) (e - m) else l)=x:=⟨_,rfl⟩
  rw[hl1] at hG
  have hlen1:l1.length=l.length:=by
   subst hl1
   split
   · exact(jJ (lo:=0) (hi:=l.length) _ _ _ _ _ (by omega) (by omega) (by omega) (by omega)).len
   rfl
  obtain⟨l2,hl2⟩:∃ x,(if a < i∧i < mid then ep bg f l1 a i mid else l1)=x:=⟨_,rfl⟩
  rw[hl2] at hG
  have hlen2:l2.length=l.length:=by
   subst hl2
   split
   · exact(dX bg f l1 a i mid (by omega) (by omega) (by omega)).len.trans hlen1
   exact hlen1
  refine W.exit (aN (aQ (aO (qs (W.seq (W.region ?_))))))
  iterate 2 refine pE rfl ?_
  refine pu (bH (ev aa rfl) (y:=((e:Nat):Int)) (by rw[←he];exact iE (x:=mid+m) (y:=i) (by omega) (by omega))) rfl ?_
  refine pE rfl (WO.nil (qs ?_))
  iterate 2 refine W.seq ?_
  apply aC;(case hb=>rfl)
  ·
   iterate 4 refine pE rfl ?_
   apply aw;(case hj=>rfl);(case hl=>rfl)
   ·
    refine ab rfl rfl (pE rfl (ab rfl rfl (pE rfl (ab rfl rfl ?_))))
    iterate 2 refine pE rfl ?_
    refine WO.nil (ay rfl rfl rfl)
   iterate 3 refine ar rfl rfl rfl rfl ?_
   refine pE rfl (WO.nil (ay rfl rfl rfl))
  refine qs (W.we [(0,.sb 0 l.length cap),(1,.d (.v (.int .i64 ((a:Nat):Int)))),(2,.d (.v (.int .i64 ((m:Nat):Int)))),(3,.d (.v (.int .i64 ((b:Nat):Int)))),(4,.clo 37 []),(18,.d (.v (.int .i64 ((mid:Nat):Int)))),(20,.d (.v (.int .i64 ((i:Nat):Int)))),(24,.d (.v (.int .i64 ((e:Nat):Int))))] [] [(0,a7 (l1.map Pc.c) k)] [] [] 1 ?_ ?_)
  ·
   refine ao rfl (fun h185=>?_) (fun h185=>?_)
   ·
    have hq:i < m∧m < e:=by simp at h185;omega
    rw[if_pos hq] at hl1
    subst hl1
    refine W.region ?_
    iterate 5 refine pE rfl ?_
    refine iS 0 rfl rfl rfl rfl (Ap l i m e k cap (m - i+(e - m)) hcap hq.1 hq.2 (by omega) (Nat.le_refl _)) rfl ?_
    refine WO.nil (jQ [0] rfl ?_ trivial ?_ trivial rfl)
    · repeat' first | exact trivial | refine⟨rfl,?_⟩
    repeat' first | exact trivial | refine⟨congrArg some (bd _ _ _),?_⟩
   have hq:¬ (i < m∧m < e):=by simp at h185;omega
   rw[if_neg hq] at hl1
   subst hl1
   refine W.skip (jQ [0] rfl ?_ trivial ?_ trivial rfl)
   · repeat' first | exact trivial | refine⟨rfl,?_⟩
   repeat' first | exact trivial | refine⟨congrArg some (bd _ _ _),?_⟩
  refine qs ?_
  iterate 2 refine W.seq ?_
  apply aC;(case hb=>rfl)
  ·
   iterate 4 refine pE rfl ?_
   apply aw;(case hj=>rfl);(case hl=>rfl)
   ·
    refine ab rfl rfl (pE rfl (ab rfl rfl (pE rfl (ab rfl rfl ?_))))
    iterate 2 refine pE rfl ?_
    refine WO.nil (ay rfl rfl rfl)
   iterate 3 refine ar rfl rfl rfl rfl ?_
   refine pE rfl (WO.nil (ay rfl rfl rfl))
  refine qs (W.we [(0,.sb 0 l.length cap),(1,.d (.v (.int .i64 ((a:Nat):Int)))),(2,.d (.v (.int .i64 ((m:Nat):Int)))),(3,.d (.v (.int .i64 ((b:Nat):Int)))),(4,.clo 37 []),(18,.d (.v (.int .i64 ((mid:Nat):Int)))),(20,.d (.v (.int .i64 ((i:Nat):Int)))),(24,.d (.v (.int .i64 ((e:Nat):Int))))] [] [(0,a7 (l2.map Pc.c) k)] [] [] 1 ?_ ?_)
  ·
   refine ao rfl (fun h199=>?_) (fun h199=>?_)
   ·
    have hq:a < i∧i < mid:=by simp at h199;omega
    rw[if_pos hq] at hl2
    subst hl2
    have hsl:=oP f l1 a i mid k cap (by omega) hq.1 hq.2 (by omega) (by omega)
    rw[hlen1] at hsl
    refine W.region ?_
    iterate 5 refine pE rfl ?_
    refine iS 0 rfl rfl rfl rfl hsl rfl ?_
    refine WO.nil (jQ [0] rfl ?_ trivial ?_ trivial rfl)
    · repeat' first | exact trivial | refine⟨rfl,?_⟩
    repeat' first | exact trivial | refine⟨congrArg some (bd _ _ _),?_⟩
   have hq:¬ (a < i∧i < mid):=by simp at h199;omega
   rw[if_neg hq] at hl2
   subst hl2
   refine W.skip (jQ [0] rfl ?_ trivial ?_ trivial rfl)
   · repeat' first | exact trivial | refine⟨rfl,?_⟩
   repeat' first | exact trivial | refine⟨congrArg some (bd _ _ _),?_⟩
  refine qs (W.seq ?_)
  apply aC;(case hb=>rfl)
  ·
   iterate 4 refine pE rfl ?_
   apply aw;(case hj=>rfl);(case hl=>rfl)
   ·
    refine ab rfl rfl (pE rfl (ab rfl rfl (pE rfl (ab rfl rfl ?_))))
    iterate 2 refine pE rfl ?_
    refine WO.nil (ay rfl rfl rfl)
   iterate 3 refine ar rfl rfl rfl rfl ?_
   refine pE rfl (WO.nil (ay rfl rfl rfl))
  refine qs (ao rfl (fun h213=>?_) (fun h213=>?_))
  ·
   have hq:mid < e∧e < b:=by simp at h213;omega
   rw[if_pos hq] at hG
   have hsl:=oP f l2 mid e b k cap (by omega) hq.1 hq.2 (by omega) (by omega)
   rw[hlen2] at hsl
   refine W.region ?_
   iterate 5 refine pE rfl ?_
   refine iS 0 rfl rfl rfl rfl hsl rfl ?_
   refine WO.nil (ik.end aa [] trivial rfl rfl rfl rfl ?_ ?_)
   · rw[hG];exact jB rfl
   rfl
  have hq:¬ (mid < e∧e < b):=by simp at h213;omega
  rw[if_neg hq] at hG
  refine W.skip (ik.end aa [] trivial rfl rfl rfl rfl ?_ ?_)
  · rw[hG];exact jB rfl
  rfl
end Go.Proofs.YtjenenllmjlimaaGreat
namespace Go.Proofs.YtjenenllmjlimaaGreat
open Go.Ab Go.Tb
set_option maxRecDepth 10000
attribute [local irreducible] W WO Pu QS QB QL QF QV b7 CH QE
theorem xf (n g:Nat) (L:List Pc) (a:Nat):kY bg n (g+1) L a=if a+20≤n then kY bg n g (eV bg L a (a+20)) (a+20) else eV bg L a n:=rfl
theorem xa (n bs g:Nat) (L:List Pc) (a:Nat):ln bg n bs (g+1) L a=if a+2*bs≤n then ln bg n bs g (ep bg n L a (a+bs) (a+2*bs)) (a+2*bs) else if a+bs < n then ep bg n L a (a+bs) n else L:=rfl
theorem su (n g:Nat) (L:List Pc) (bs:Nat):l6 bg n (g+1) L bs=if bs < n then l6 bg n g (ln bg n bs (n+1) L 0) (2*bs) else L:=rfl
theorem wX (l:List Pc) (k cap:Nat) (hcap:l.length≤100000) :
  dE Tryz.prog 55 [.sb 0 l.length cap,.d (.v (.int .i64 (l.length:Int))),.clo 37 []] [a7 (l.map Pc.c) k] 0 (.tup []) [a7 ((cH bg l).map Pc.c) k] 0:=by
 obtain⟨N,hN⟩:∃ N,l.length=N:=⟨_,rfl⟩
 have hS:cH bg l=l6 bg N (N+1) (kY bg N (N+1) l 0) 20:=by unfold cH;rw[hN]
 rw[hN]
 rw[hN] at hcap
 refine dE.fg aa (n:=63) (rs:=[]) Tryz.func55 (by kernel_rfl) rfl Tryz.ntmps55 Tryz.results55 rfl rfl fun C hC hG=>?_
 refine W.seq (W.region (pE rfl (WO.nil (qs (W.seq (W.region ?_))))))
 iterate 3 refine pE rfl ?_
 refine WO.nil (qs (W.seq (W.block ?_)))
 refine W.aS (ι:={x:Nat×Nat×List Pc // match x with | (g,a,L)=>a≤N∧N < a+g∧L.length=N∧kY bg N g L a=kY bg N (N+1) l 0})
  (fun x=>match x.1 with | (g,a,L)=>[(0,.sb 0 N cap),(7,.d (.v (.int .i64 ((a:Nat):Int)))),(8,.d (.v (.int .i64 (((a+20):Nat):Int))))]) [(1,_),(2,_),(6,_)]
  (fun x=>match x.1 with | (g,a,L)=>[(0,a7 (L.map Pc.c) k)]) [] [] 1 (fun x=>match x.1 with | (g,a,L)=>N - a)
  [0] ⟨(N+1,0,l),?_⟩ rfl ?_ ⟨rfl,rfl,rfl,rfl,rfl,rfl,trivial⟩ ?_ trivial rfl ?_
 · exact⟨Nat.zero_le _,by omega,hN,rfl⟩
 · repeat' first | exact trivial | refine⟨rfl,?_⟩
 · repeat' first | exact trivial | refine⟨congrArg some (bd _ _ _),?_⟩
 rintro⟨⟨g,a,L⟩,ha,hg,hL,hI⟩
 show W _ _ _ _ _ ⟨[(0,.sb 0 N cap),(7,.d (.v (.int .i64 ((a:Nat):Int)))),(8,.d (.v (.int .i64 (((a+20):Nat):Int)))),(1,_),(2,_),(6,_)],[(0,a7 (L.map Pc.c) k)],[],1⟩
 obtain⟨g,rfl⟩:∃ q,g=q+1:=⟨g - 1,by omega⟩
 rw[xf] at hI
 iterate 2 refine W.seq ?_
 refine W.region ?_
 iterate 3 refine pE rfl ?_
 refine WO.nil (qs (ao rfl (fun h13=>?_) (fun h13=>?_)))
 ·
  have hq:a+20≤N:=by simp at h13;omega
  rw[if_pos hq] at hI
  have hsl:=wR L a (a+20) k cap (by omega) (by omega) (by omega)
  rw[hL] at hsl
  have hlen:=(fk bg (l:=L) (a:=a) (b:=a+20) (by omega)).len.trans hL
  refine W.skip (qs (W.block (W.seq (W.region ?_))))
  iterate 4 refine pE rfl ?_
  refine iS 0 rfl rfl rfl rfl hsl rfl ?_
  refine WO.nil (qs (W.seq (W.region ?_)))
  iterate 2 refine pE rfl ?_
  refine WO.nil (qs (W.region ?_))
  iterate 2 refine pE rfl ?_
  refine pu (bH (ev aa rfl) (eQ (x:=a+20) (y:=20) (by omega))) rfl ?_
  refine pE rfl (WO.nil (aX (W.aU [0] ⟨(g,a+20,eV bg L a (a+20)),?_⟩ ?_ rfl ?_ ⟨rfl,rfl,rfl,rfl,rfl,rfl,trivial⟩ ?_ trivial rfl)))
  · exact⟨by omega,by omega,hlen,hI⟩
  · dsimp only;omega
  · repeat' first | exact trivial | refine⟨rfl,?_⟩
  repeat' first | exact trivial | refine⟨congrArg some (bd _ _ _),?_⟩
 have hq:¬ a+20≤N:=by simp at h13;omega
 rw[if_neg hq] at hI
 have hsl:=wR L a N k cap (by omega) (by omega) (by omega)
 rw[hL] at hsl
 have hlen:=(fk bg (l:=L) (a:=a) (b:=N) (by omega)).len.trans hL
 obtain⟨M0,hM0⟩:∃ x,eV bg L a N=x:=⟨_,rfl⟩
 rw[hM0] at hsl hlen hI
 rw[←hI] at hS
 refine W.exit (aN (aQ (aO (qs (W.seq (W.region ?_))))))
 iterate 4 refine pE rfl ?_
 refine iS 0 rfl rfl rfl rfl hsl rfl ?_
 refine WO.nil (qs (W.block ?_))
 refine W.aS (ι:={x:Nat×Nat×List Pc // match x with | (g1,bs,M)=>0 < bs∧bs≤2*N+20∧N < bs+g1∧M.length=N∧l6 bg N g1 M bs=cH bg l})
  (fun x=>match x.1 with | (g1,bs,M)=>[(0,.sb 0 N cap),(6,.d (.v (.int .i64 ((bs:Nat):Int))))]) [(1,_),(2,_)]
  (fun x=>match x.1 with | (g1,bs,M)=>[(0,a7 (M.map Pc.c) k)]) [] [] 1 (fun x=>match x.1 with | (g1,bs,M)=>N - bs)
  [0] ⟨(N+1,20,M0),?_⟩ rfl ?_ ⟨rfl,rfl,rfl,rfl,trivial⟩ ?_ trivial rfl ?_
 · exact⟨by omega,by omega,by omega,hlen,hS.symm⟩
 · repeat' first | exact trivial | refine⟨rfl,?_⟩
 · repeat' first | exact trivial | refine⟨congrArg some (bd _ _ _),?_⟩
 rintro⟨⟨g1,bs,M⟩,hb0,hb1,hb2,hM,hD⟩
 show W _ _ _ _ _ ⟨[(0,.sb 0 N cap),(6,.d (.v (.int .i64 ((bs:Nat):Int)))),(1,_),(2,_)],[(0,a7 (M.map Pc.c) k)],[],1⟩
 iterate 2 refine W.seq ?_
 refine W.region ?_
 iterate 3 refine pE rfl ?_
 refine WO.nil (qs (ao rfl (fun h30=>?_) (fun h30=>?_)))
 ·
  have hq1:bs < N:=by simp at h30;omega
  obtain⟨g1,rfl⟩:∃ q,g1=q+1:=⟨g1 - 1,by omega⟩
  rw[su,if_pos hq1] at hD
  have h2b:IntKind.i64.wrap (2*(bs:Int))=((2*bs:Nat):Int):=by rw[wrap64 (by omega)];omega
  have h2c:IntKind.i64.wrap ((bs:Int)*2)=((2*bs:Nat):Int):=by rw[wrap64 (by omega)];omega
  refine W.skip (qs (W.block (W.seq (W.region (pE rfl (pu (bH (ev aa rfl) (y:=((0+2*bs:Nat):Int)) (by rw[Nat.zero_add];exact h2b)) rfl ?_))))))
  iterate 2 refine pE rfl ?_
  refine WO.nil (qs (W.seq (W.block ?_)))
  refine W.aS (ι:={x:Nat×Nat×List Pc // match x with | (h,c,T)=>c≤N∧N < c+h∧T.length=N∧ln bg N bs h T c=ln bg N bs (N+1) M 0})
   (fun x=>match x.1 with | (h,c,T)=>[(0,.sb 0 N cap),(7,.d (.v (.int .i64 ((c:Nat):Int)))),(8,.d (.v (.int .i64 (((c+2*bs):Nat):Int))))]) [(1,_),(2,_),(6,_)]
   (fun x=>match x.1 with | (h,c,T)=>[(0,a7 (T.map Pc.c) k)]) [] [] 1 (fun x=>match x.1 with | (h,c,T)=>N - c)
   [0] ⟨(N+1,0,M),?_⟩ rfl ?_ ⟨rfl,rfl,rfl,rfl,rfl,rfl,trivial⟩ ?_ trivial rfl ?_
  · exact⟨Nat.zero_le _,by omega,hM,rfl⟩
  · repeat' first | exact trivial | refine⟨rfl,?_⟩
  · repeat' first | exact trivial | refine⟨congrArg some (bd _ _ _),?_⟩
  rintro⟨⟨h,c,T⟩,hc,hh,hT,hR⟩
  show W _ _ _ _ _ ⟨[(0,.sb 0 N cap),(7,.d (.v (.int .i64 ((c:Nat):Int)))),(8,.d (.v (.int .i64 (((c+2*bs):Nat):Int)))),(1,_),(2,_),(6,_)],[(0,a7 (T.map Pc.c) k)],[],1⟩
  obtain⟨h,rfl⟩:∃ q,h=q+1:=⟨h - 1,by omega⟩
  rw[xa] at hR
  iterate 2 refine W.seq ?_
  refine W.region ?_
  iterate 3 refine pE rfl ?_
  refine WO.nil (qs (ao rfl (fun h35=>?_) (fun h35=>?_)))
  ·
   have hq2:c+2*bs≤N:=by simp at h35;omega
   rw[if_pos hq2] at hR
   have hsl2:=oP N T c (c+bs) (c+2*bs) k cap (by omega) (by omega) (by omega) (by omega) (by omega)
   rw[hT] at hsl2
   have hlen2:=(dX bg N T c (c+bs) (c+2*bs) (by omega) (by omega) (by omega)).len.trans hT
   refine W.skip (qs (W.block (W.seq (W.region ?_))))
   iterate 4 refine pE rfl ?_
   refine pu (bH (ev aa rfl) (eQ (x:=c) (y:=bs) (by omega))) rfl ?_
   iterate 2 refine pE rfl ?_
   refine iS 0 rfl rfl rfl rfl hsl2 rfl ?_
   refine WO.nil (qs (W.seq (W.region ?_)))
   iterate 2 refine pE rfl ?_
   refine WO.nil (qs (W.region ?_))
   iterate 2 refine pE rfl ?_
   refine pu (bH (ev aa rfl) (y:=((2*bs:Nat):Int)) h2b) rfl ?_
   refine pu (bH (ev aa rfl) (eQ (x:=c+2*bs) (y:=2*bs) (by omega))) rfl ?_
   refine pE rfl (WO.nil (aX (W.aU [0] ⟨(h,c+2*bs,ep bg N T c (c+bs) (c+2*bs)),?_⟩ ?_ rfl ?_ ⟨rfl,rfl,rfl,rfl,rfl,rfl,trivial⟩ ?_ trivial rfl)))
   · exact⟨by omega,by omega,hlen2,hR⟩
   · dsimp only;omega
   · repeat' first | exact trivial | refine⟨rfl,?_⟩
   repeat' first | exact trivial | refine⟨congrArg some (bd _ _ _),?_⟩
  have hq2:¬ c+2*bs≤N:=by simp at h35;omega
  rw[if_neg hq2] at hR
  refine W.exit (aN (aQ (aO (qs ?_))))
  iterate 2 refine W.seq ?_
  refine W.region ?_
  iterate 2 refine pE rfl ?_
  refine pu (bH (ev aa rfl) (eQ (x:=c) (y:=bs) (by omega))) rfl ?_
  refine pE rfl (WO.nil (qs (W.seq (W.region ?_))))
  iterate 3 refine pE rfl ?_
  refine WO.nil (qs (ao rfl (fun h54=>?_) (fun h54=>?_)))
  ·
   have hbr:c+bs < N:=by simp at h54;omega
   rw[if_pos hbr] at hR
   rw[←hR] at hD
   have hsl3:=oP N T c (c+bs) N k cap (by omega) (by omega) (by omega) (by omega) (by omega)
   rw[hT] at hsl3
   have hlen3:=(dX bg N T c (c+bs) N (by omega) (by omega) (by omega)).len.trans hT
   refine W.region ?_
   iterate 5 refine pE rfl ?_
   refine iS 0 rfl rfl rfl rfl hsl3 rfl ?_
   refine WO.nil (qs (W.region (pE rfl (pu (bH (ev aa rfl) (y:=((2*bs:Nat):Int)) h2c) rfl ?_))))
   refine pE rfl (WO.nil (aX ?_))
   (have _hb:c+bs < N:=hbr;refine W.aU [0] ⟨(g1,2*bs,ep bg N T c (c+bs) N),?_⟩ ?_ rfl ?_ ⟨rfl,rfl,rfl,rfl,trivial⟩ ?_ trivial rfl)
   · exact⟨by omega,by omega,by omega,hlen3,hD⟩
   · dsimp only;omega
   · repeat' first | exact trivial | refine⟨rfl,?_⟩
   repeat' first | exact trivial | refine⟨congrArg some (bd _ _ _),?_⟩
  have hbr:¬ c+bs < N:=by simp at h54;omega
  rw[if_neg hbr] at hR
  rw[←hR] at hD
  have hlen3:=hT
  refine W.skip (qs (W.region (pE rfl (pu (bH (ev aa rfl) (y:=((2*bs:Nat):Int)) h2c) rfl ?_))))
  refine pE rfl (WO.nil (aX ?_))
  (have _hb:¬ c+bs < N:=hbr;refine W.aU [0] ⟨(g1,2*bs,T),?_⟩ ?_ rfl ?_ ⟨rfl,rfl,rfl,rfl,trivial⟩ ?_ trivial rfl)
  · exact⟨by omega,by omega,by omega,hlen3,hD⟩
  · dsimp only;omega
  · repeat' first | exact trivial | refine⟨rfl,?_⟩
  repeat' first | exact trivial | refine⟨congrArg some (bd _ _ _),?_⟩
 have hq1:¬ bs < N:=by simp at h30;omega
 have hE:cH bg l=M:=by
  rw[←hD]
  cases g1 with
  | zero=>rfl
  | succ q=>rw[su,if_neg hq1]
 refine W.exit (aN (aQ (aO (ik.end aa [] trivial rfl rfl rfl rfl ?_ ?_))))
 · rw[hE];exact jB rfl
 rfl
theorem sF (l:List Pc) (k cap:Nat) (hcap:l.length≤100000) :
  dE Tryz.prog 36 [.sb 0 l.length cap,.clo 37 []] [a7 (l.map Pc.c) k] 0 (.tup []) [a7 ((cH bg l).map Pc.c) k] 0:=by
 refine dE.fg aa (n:=9) (rs:=[]) Tryz.func36 (by kernel_rfl) rfl Tryz.ntmps36 Tryz.results36 rfl rfl fun C hC hG=>?_
 refine W.region ?_
 iterate 2 refine pE rfl ?_
 refine pu (AN aa rfl rfl rfl) rfl ?_
 refine pE rfl (iS 0 rfl rfl rfl rfl (wX l k cap hcap) rfl ?_)
 refine WO.nil (ik.end aa [] trivial rfl rfl rfl rfl ?_ ?_)
 · exact jB rfl
 rfl
end Go.Proofs.YtjenenllmjlimaaGreat
namespace Go.Proofs.YtjenenllmjlimaaGreat
open Go.Ab Go.Tb
set_option maxRecDepth 10000
attribute [local irreducible] W WO Pu QS QB QL QF QV b7 CH QE
theorem qv (a b:bo) (on:List ByteArray) (hon:on.length≤400):ax Tryz.prog 8 [.ag a.c,.ag b.c,.d (.sl (on.map sc))]
  (.tup [.ag (fF a b on).1.c,.d (.v (.int .i64 (fF a b on).2))]) 0:=by
 have hcol:=kb 7 on [a,b] (by simp) hon
 rw[qh] at hcol
 obtain⟨CT0,hCT⟩:∃ c,eL 7 on a b=c:=⟨_,rfl⟩
 rw[hCT] at hcol
 refine ax.fg aa (n:=148) (rs:=[.cell 6 25,.tmp 7]) Tryz.func8 (by kernel_rfl) rfl Tryz.ntmps8 Tryz.results8 rfl fun C hC hG=>?_
 refine W.seq (W.region (br rfl rfl rfl (br rfl rfl rfl (a8 aa rfl rfl rfl (pE rfl (WO.nil (qs (W.seq (W.region (pE rfl (pE rfl (pE rfl (pu (aI aa rfl rfl rfl rfl rfl rfl rfl rfl rfl) rfl ?_)))))))))))))
 refine pu (ak rfl rfl rfl hcol rfl) rfl ?_
 iterate 5 refine pE rfl ?_
 refine WO.nil (qs ?_)
 iterate 2 refine W.seq ?_
 refine W.region ?_
 iterate 2 refine pE rfl ?_
 refine WO.nil (qs (ao rfl (fun h36=>?_) (fun h36=>?_)))
 ·
  have he:CT0.2≠0:=by simpa using h36
  have hg:fF a b on=(fL,CT0.2):=by unfold fF;rw[hCT,if_pos he]
  refine W.seq (W.region (pu (build aa rfl rfl rfl rfl) rfl ?_))
  refine pE rfl (aR aa rfl rfl rfl rfl rfl rfl rfl rfl (pE rfl (WO.nil (qs ?_))))
  try refine cD 2 0 rfl rfl rfl ?_
  try refine cD 2 1 rfl rfl rfl ?_
  try refine cD 1 0 rfl rfl rfl ?_
  try refine cD 1 1 rfl rfl rfl ?_
  refine W.ret (ah (QV.aq aa trivial rfl ?_))
  (rw[hg];rfl)
 have he:CT0.2=0:=by simpa using h36
 have hok:=yK (.inl rfl) (by rw[hCT];exact he)
 have hoo:=Be hok
 have haz:=eh hok.ga
 have hbz:=eh hok.gb
 have hol:=hok.len
 have hra:=gW hok.ga
 have hrb:=gW hok.gb
 obtain⟨o,ho⟩:∃ o,At a b on=o:=⟨_,rfl⟩
 have hgo:fF a b on=(match lL o b.rows a.rows [] with | none=>(fL,7) | some rows=>(⟨CT0.1,rows⟩,0)):=by unfold fF;rw[hCT,if_neg (by simp[he]),ho];rfl
 have e7:aM 7=[aP,bp]:=rfl
 rw[e7] at hok
 have hpl:ax Tryz.prog 21 [.ag a.c,.d (.sl (on.map sc))] (.d (.sl (o.left.map nc))) 0:=by
  have:=eU a on (by omega)
  rw[gC (fun s hs=>by obtain⟨i,j,c,d,h1,_⟩:=hok.ons s hs;exact⟨i,h1⟩)] at this
  rw[←ho];exact this
 have hpr:ax Tryz.prog 21 [.ag b.c,.d (.sl (on.map sc))] (.d (.sl (o.right.map nc))) 0:=by
  have:=eU b on (by omega)
  rw[gC (fun s hs=>by obtain⟨i,j,c,d,_,h1,_⟩:=hok.ons s hs;exact⟨j,h1⟩)] at this
  rw[←ho];exact this
 have hpm:ax Tryz.prog 21 [.ag a.c,.d (.sl ([aP,bp].map sc))] (.d (.sl ([o.m0,o.m1].map nc))) 0:=by
  have:=eU a [aP,bp] (by simp)
  rw[gC (fun s hs=>by obtain⟨i,c,h1,_⟩:=hok.spa s hs;exact⟨i,h1⟩)] at this
  rw[←ho];exact this
 have hpt:ax Tryz.prog 21 [.ag b.c,.d (.sl ([aP,bp].map sc))] (.d (.sl ([o.t0,o.t1].map nc))) 0:=by
  have:=eU b [aP,bp] (by simp)
  rw[gC (fun s hs=>by obtain⟨i,c,h1,_⟩:=hok.spb s hs;exact⟨i,h1⟩)] at this
  rw[←ho];exact this
 have hre:ax Tryz.prog 22 [.ag b.c,.d (.sl ((on++[aP,bp]).map sc))] (.d (.sl (o.more.map nc))) 0:=by
  have:=vb b (on++[aP,bp]) (by omega)
  rw[←ho];exact this
 rw[ho] at hoo
 have hll:o.left.length≤16:=by rw[←ho];show(on.map _).length≤_;rw[List.length_map];exact hol
 have hrl:o.right.length≤16:=by rw[←ho];show(on.map _).length≤_;rw[List.length_map];exact hol
 have hml:o.more.length≤32:=by rw[←ho];have:=lY (on++[aP,bp]) b.cols 0;show(eF _ _ _).length≤_;omega
 refine W.skip (qs (W.seq (W.be aa (by kernel_rfl) ?_)))
 refine an (ev aa rfl) rfl ?_
 refine an (ev aa rfl) rfl ?_
 refine an (ak rfl rfl rfl hpl rfl) rfl ?_
 refine an (ev aa rfl) rfl ?_
 refine an (ev aa rfl) rfl ?_
 refine an (ak rfl rfl rfl hpr rfl) rfl ?_
 iterate 2 refine an (ev aa rfl) rfl ?_
 refine CH.nil ?_
 refine qs (W.seq (W.be aa (by kernel_rfl) ?_))
 refine an (ev aa rfl) rfl ?_
 refine an (aI aa rfl rfl rfl rfl rfl rfl rfl rfl rfl) rfl ?_
 refine an (ak rfl rfl rfl hpm rfl) rfl ?_
 refine an (ev aa rfl) rfl ?_
 refine an (aI aa rfl rfl rfl rfl rfl rfl rfl rfl rfl) rfl ?_
 refine an (ak rfl rfl rfl hpt rfl) rfl ?_
 iterate 2 refine an (ev aa rfl) rfl ?_
 refine CH.nil ?_
 refine qs (W.seq ?_)
 refine' W.eD aa [_,_] [[3],[4]] [4,5] [2,4] 5 (by kernel_rfl) (by kernel_rfl) rfl rfl ?hL_1
 case' hL_1=>skip
 refine' aJ (ev aa rfl) ?p_2 rfl rfl rfl (by kernel_rfl) rfl ?h_2
 case' h_2=>skip
 refine' aJ (ev aa rfl) ?p_3 rfl rfl rfl (by kernel_rfl) rfl ?h_3
 case' h_3=>skip
 refine' kC ?x_4 rfl rfl rfl (by kernel_rfl) (fun h=>(ae h (by kernel_rfl)).elim) rfl ?h_4
 case x_4=>
  intro b hb g;cases b
  · exact(ae hb (by kernel_rfl)).elim
  refine fC rfl rfl rfl (rS on (by omega)) (by rfl) rfl rfl ?_
  refine WO.nil ?_
  refine' iD rfl ?_ ?_ ?_ ?_
  all_goals try exact rfl
 case' h_4=>skip
 refine' aJ (aI aa rfl rfl rfl rfl rfl rfl rfl rfl rfl) ?p_5 rfl rfl rfl (by kernel_rfl) rfl ?h_5
 case' h_5=>skip
 refine' kC ?x_6 rfl rfl rfl (by kernel_rfl) (fun h=>(ae h (by kernel_rfl)).elim) rfl ?h_6
 case x_6=>
  intro b hb g;cases b
  · exact(ae hb (by kernel_rfl)).elim
  refine dn (fn:=sc) (l:=on) (l2:=[aP,bp]) aa rfl rfl rfl rfl rfl rfl rfl rfl rfl rfl (fun _=>rfl) (by show(on.length+2)*16≤_;omega) ?_
  refine WO.nil ?_
  refine' iD rfl ?_ ?_ ?_ ?_
  all_goals try exact rfl
 case' h_6=>skip
 case p_2=>refine⟨fun ha=>(ae ha (by kernel_rfl)).elim,?_,fun ha=>(ae ha (by kernel_rfl)).elim,?_,fun ha=>(ae ha (by kernel_rfl)).elim,?_⟩ <;> intro ha <;> first | exact⟨ev aa rfl,fun h=>nomatch h⟩ | exact⟨bM aa rfl rfl rfl rfl,fun h=>nomatch h⟩ | exact⟨bL aa rfl rfl rfl rfl rfl,fun h=>nomatch h⟩ | exact(ae ha (by kernel_rfl)).elim
 case p_3=>refine⟨fun ha=>(ae ha (by kernel_rfl)).elim,?_,fun ha=>(ae ha (by kernel_rfl)).elim,?_,fun ha=>(ae ha (by kernel_rfl)).elim,?_⟩ <;> intro ha <;> first | exact⟨ev aa rfl,fun h=>nomatch h⟩ | exact(ae ha (by kernel_rfl)).elim
 case p_5=>refine⟨fun ha=>(ae ha (by kernel_rfl)).elim,?_,fun ha=>(ae ha (by kernel_rfl)).elim,?_,fun ha=>(ae ha (by kernel_rfl)).elim,?_⟩ <;> intro ha <;> first | exact⟨aI aa rfl rfl rfl rfl rfl rfl rfl rfl rfl,fun h=>nomatch h⟩ | exact(ae ha (by kernel_rfl)).elim
 refine CD.nil ?_ rfl
 refine pu (ak rfl rfl rfl hre rfl) rfl ?_
 refine pE rfl (WO.nil (qs (W.seq (W.region (pE rfl (pu (build aa rfl rfl rfl rfl) rfl ?_))))))
 refine a8 aa rfl rfl rfl (aR aa rfl rfl rfl rfl rfl rfl rfl rfl (WO.nil (qs ?_)))
 iterate 2 refine W.seq ?_
 refine W.region (pE rfl (pE rfl ?_))
 iterate 2 refine pE rfl ?_
 refine WO.nil (qs (W.block (fv 5 1 rfl rfl rfl ?_)))
 refine W.len (t:=60) rfl rfl (fun hlen=>?_)
 try simp only[List.length_map,Ex.aF] at hlen
 refine W.aS (ι:={x:Nat×List (List aH) // match x with | (i,out)=>i≤a.rows.length∧out.length≤20000∧lL o b.rows (a.rows.drop i) out=lL o b.rows a.rows []})
  (fun x=>match x.1 with | (i,out)=>[(4,.ptr 0 0),(6,.ptr 1 0),(15,.ptr 2 0),(62,.d (.v (.int .i64 ((i:Nat):Int))))]) [(10,_),(11,_),(12,_),(13,_),(14,_),(60,_),(61,_)]
  (fun x=>match x.1 with | (i,out)=>[(0,b.c.map A.d),(1,[.d (.v (.slice none 0 0)),.d (.v (.slice none 0 0))]),(2,[.d (.sl (CT0.1.map Col.c)),.own 3 (out.map rc)])]) [] [3] 4 (fun x=>match x.1 with | (i,out)=>a.rows.length - i)
  [1,2,5,6] ⟨(0,[]),?_⟩ rfl ?_ ⟨rfl,rfl,rfl,rfl,rfl,rfl,rfl,rfl,rfl,rfl,rfl,rfl,rfl,rfl,trivial⟩ ?_ trivial rfl ?_
 · exact⟨Nat.zero_le _,Nat.zero_le _,rfl⟩
 · repeat' first | exact trivial | refine⟨rfl,?_⟩
 · repeat' first | exact trivial | refine⟨rfl,?_⟩
 rintro⟨⟨i,out⟩,hk,hn,hI⟩
 show W _ _ _ _ _ ⟨[(4,.ptr 0 0),(6,.ptr 1 0),(15,.ptr 2 0),(62,.d (.v (.int .i64 ((i:Nat):Int)))),(10,_),(11,_),(12,_),(13,_),(14,_),(60,_),(61,_)],[(0,b.c.map A.d),(1,[.d (.v (.slice none 0 0)),.d (.v (.slice none 0 0))]),(2,[.d (.sl (CT0.1.map Col.c)),.own 3 (out.map rc)])],[3],4⟩
 refine W.seq (W.region (pE rfl (WO.nil (qs (W.seq (a9 (l:=a.rows) (k:=i) rfl (by simp[Ex.aF,aL]) hk (fun z hx hd hlt=>?_) (fun he hd=>?_)))))))
 ·
  rw[hd] at hI
  simp only[lL] at hI
  have hxm:=List.mem_of_getElem? hx
  have hxl:=(hra z hxm).1
  have hsx:=oZ z o.m0 o.m1 (by rw[hxl];exact hoo.m0) (by rw[hxl];exact hoo.m1)
  have hpx:=jm z o.left (by omega) (fun q hq=>by rw[hxl];exact hoo.left q hq)
  refine W.skip (qs (W.seq (W.block (W.seq (W.region (pu (indexAddr aa rfl rfl rfl rfl rfl rfl (Int.natCast_nonneg _) (aE hx) rfl) rfl ?_))))))
  refine pE rfl (pE rfl (WO.nil (qs (W.seq (W.region ?_)))))
  iterate 2 refine pE rfl ?_
  refine pu (ak rfl rfl rfl hsx rfl) rfl ?_
  iterate 3 refine pE rfl ?_
  refine a8 aa rfl rfl rfl (aR aa rfl rfl rfl rfl rfl rfl rfl rfl (pE rfl (WO.nil (qs ?_))))
  iterate 2 refine W.seq ?_
  refine W.region ?_
  iterate 2 refine pE rfl ?_
  refine WO.nil (qs (ao rfl (fun h73=>?_) (fun h73=>?_)))
  ·
   have hbr:cM z o.m0 o.m1=false:=by simpa using h73
   rw[if_neg (by simp[hbr])] at hI
   refine W.exit (aN (aO (qs (W.region ?_))))
   iterate 2 refine pE rfl ?_
   refine WO.nil ?_
   (have _hb:cM z o.m0 o.m1=false:=hbr;refine W.aU [0,1,2,3] ⟨(i+1,out),?_⟩ ?_ rfl ?_ ⟨rfl,rfl,rfl,rfl,rfl,rfl,rfl,rfl,rfl,rfl,rfl,rfl,rfl,rfl,trivial⟩ ?_ trivial rfl)
   · exact⟨hlt,(by first | exact hn2 | exact hn),hI⟩
   · dsimp only;omega
   · repeat' first | exact trivial | refine⟨rfl,?_⟩ | refine⟨aD (by assumption) (by assumption),?_⟩
   repeat' first | exact trivial | refine⟨rfl,?_⟩
  have hbr:cM z o.m0 o.m1=true:=by simpa using h73
  rw[if_pos hbr] at hI
  refine W.skip (qs (W.seq (W.region (pE rfl (pE rfl ?_)))))
  iterate 2 refine pE rfl ?_
  refine WO.nil (qs (W.block (W.len (t:=75) rfl rfl (fun hlen=>?_))))
  try simp only[List.length_map,Ex.aF] at hlen
  refine W.aS (ι:={x:Nat×List (List aH) // match x with | (j,out2)=>j≤b.rows.length∧out2.length≤20000∧pP o z (b.rows.drop j) out2=pP o z b.rows out})
   (fun x=>match x.1 with | (j,out2)=>[(4,.ptr 0 0),(6,.ptr 1 0),(15,.ptr 2 0),(18,.ptr 4 0),(77,.d (.v (.int .i64 ((j:Nat):Int))))]) [(10,_),(11,_),(12,_),(13,_),(14,_),(17,_),(60,_),(61,_),(62,_),(75,_),(76,_)]
   (fun x=>match x.1 with | (j,out2)=>[(0,b.c.map A.d),(1,[.d (.v (.slice none 0 0)),.d (.v (.slice none 0 0))]),(2,[.d (.sl (CT0.1.map Col.c)),.own 3 (out2.map rc)]),(4,[.d (ci (bh z o.m0).n),.d (ci (bh z o.m1).n)])]) [] [3] 5 (fun x=>match x.1 with | (j,out2)=>b.rows.length - j)
   [0,1,2,3,4] ⟨(0,out),?_⟩ rfl ?_ ⟨rfl,rfl,rfl,rfl,rfl,rfl,rfl,rfl,rfl,rfl,rfl,rfl,rfl,rfl,rfl,rfl,rfl,rfl,rfl,rfl,rfl,rfl,trivial⟩ ?_ trivial rfl ?_
  · exact⟨Nat.zero_le _,hn,rfl⟩
  · repeat' first | exact trivial | refine⟨rfl,?_⟩
  · repeat' first | exact trivial | refine⟨rfl,?_⟩
  rintro⟨⟨j,out2⟩,hk,hn2,hJ⟩
  show W _ _ _ _ _ ⟨[(4,.ptr 0 0),(6,.ptr 1 0),(15,.ptr 2 0),(18,.ptr 4 0),(77,.d (.v (.int .i64 ((j:Nat):Int)))),(10,_),(11,_),(12,_),(13,_),(14,_),(17,_),(60,_),(61,_),(62,_),(75,_),(76,_)],[(0,b.c.map A.d),(1,[.d (.v (.slice none 0 0)),.d (.v (.slice none 0 0))]),(2,[.d (.sl (CT0.1.map Col.c)),.own 3 (out2.map rc)]),(4,[.d (ci (bh z o.m0).n),.d (ci (bh z o.m1).n)])],[3],5⟩
  refine W.seq (W.region (pE rfl (WO.nil (qs (W.seq (a9 (l:=b.rows) (k:=j) rfl (by simp[Ex.aF,aL]) hk (fun y hx hd hlt=>?_) (fun he hd=>?_)))))))
  ·
   rw[hd] at hJ
   simp only[pP] at hJ
   have hym:=List.mem_of_getElem? hx
   have hyl:=(hrb y hym).1
   have hsy:=oZ y o.t0 o.t1 (by rw[hyl];exact hoo.t0) (by rw[hyl];exact hoo.t1)
   have hpy:=jm y o.right (by omega) (fun q hq=>by rw[hyl];exact hoo.right q hq)
   have hpz:=jm y o.more (by omega) (fun q hq=>by rw[hyl];exact hoo.more q hq)
   have hpzl:(bF y o.more).length=o.more.length:=List.length_map _
   refine W.skip (qs (W.seq (W.block (W.seq (W.region (pu (indexAddr aa rfl rfl rfl rfl rfl rfl (Int.natCast_nonneg _) (aE hx) rfl) rfl ?_))))))
   refine pE rfl (pE rfl (WO.nil (qs (W.seq (W.region ?_)))))
   iterate 2 refine pE rfl ?_
   refine pu (ak rfl rfl rfl hsy rfl) rfl ?_
   iterate 3 refine pE rfl ?_
   refine a8 aa rfl rfl rfl (aR aa rfl rfl rfl rfl rfl rfl rfl rfl (pE rfl (WO.nil (qs (W.seq (W.be aa (by kernel_rfl) ?_))))))
   refine an (ev aa rfl) rfl ?_
   refine an (ev aa rfl) rfl ?_
   refine an (ev aa rfl) rfl ?_
   refine an (ev aa rfl) rfl ?_
   iterate 2 refine an (ev aa rfl) rfl ?_
   refine an (ev aa rfl) rfl ?_
   refine an (ev aa rfl) rfl ?_
   refine an (ev aa rfl) rfl ?_
   iterate 3 refine an (ev aa rfl) rfl ?_
   refine CH.nil ?_
   refine qs ?_
   iterate 2 refine W.seq ?_
   apply aC;(case hb=>rfl)
   ·
    iterate 3 refine pE rfl ?_
    apply aw;(case hj=>rfl);(case hl=>rfl)
    ·
     iterate 3 refine ar rfl rfl rfl rfl ?_
     iterate 2 refine pE rfl ?_
     iterate 8 refine ar rfl rfl rfl rfl ?_
     refine pE rfl (WO.nil (ay rfl rfl rfl))
    refine ab rfl rfl (pE rfl (ab rfl rfl (pE rfl (ab rfl rfl ?_))))
    iterate 3 refine pE rfl ?_
    apply aw;(case hj=>rfl);(case hl=>rfl)
    ·
     iterate 8 refine ar rfl rfl rfl rfl ?_
     refine pE rfl (WO.nil (ay rfl rfl rfl))
    refine ab rfl rfl (pE rfl (ab rfl rfl (pE rfl (ab rfl rfl (pu (ak rfl rfl rfl hpx rfl) rfl ?_)))))
    refine ab rfl rfl (pE rfl (ab rfl rfl (pE rfl (ab rfl rfl (pu (ak rfl rfl rfl hpy rfl) rfl ?_)))))
    refine ab rfl rfl (pu (ak rfl rfl rfl (tH (bF z o.left) (bF y o.right)) rfl) rfl ?_)
    refine ab rfl rfl ?_
    iterate 2 refine pE rfl ?_
    refine WO.nil (ay rfl rfl rfl)
   refine qs (ao rfl (fun h113=>?_) (fun h113=>?_))
   ·
    have hbr2:lF o z y=false:=by
     unfold lF rU u6
     revert h113
     cases cM y o.t0 o.t1 <;> cases kq (bF z o.left) (bF y o.right) <;> simp
    rw[if_neg (by simp[hbr2])] at hJ
    refine W.exit (aN (aO (qs (W.region ?_))))
    iterate 2 refine pE rfl ?_
    refine WO.nil ?_
    have hbr:=hbr2
    (have _hb:lF o z y=false:=hbr;refine W.aU [0,1,2,3,4] ⟨(j+1,out2),?_⟩ ?_ rfl ?_ ⟨rfl,rfl,rfl,rfl,rfl,rfl,rfl,rfl,rfl,rfl,rfl,rfl,rfl,rfl,rfl,rfl,rfl,rfl,rfl,rfl,rfl,rfl,trivial⟩ ?_ trivial rfl)
    · exact⟨hlt,(by first | exact hn2 | (rw[List.length_append];simp;omega)),hJ⟩
    · dsimp only;omega
    · repeat' first | exact trivial | refine⟨rfl,?_⟩ | refine⟨aD (by assumption) (by assumption),?_⟩
    repeat' first | exact trivial | refine⟨rfl,?_⟩
   have hbr2:lF o z y=true:=by
    unfold lF rU u6
    revert h113
    cases cM y o.t0 o.t1 <;> cases kq (bF z o.left) (bF y o.right) <;> simp
   rw[if_pos hbr2] at hJ
   refine W.skip (qs ?_)
   iterate 2 refine W.seq ?_
   refine W.region (pE rfl (pE rfl ?_))
   iterate 2 refine pE rfl ?_
   refine WO.nil (qs (ao rfl (fun h117=>?_) (fun h117=>?_)))
   ·
    have hq:out2.length=20000:=by simp at h117;omega
    rw[if_pos hq] at hJ
    have hg:fF a b on=(fL,7):=by
     rw[←hJ] at hI
     rw[hgo,←hI]
    refine W.seq (W.region (pu (build aa rfl rfl rfl rfl) rfl ?_))
    refine aR aa rfl rfl rfl rfl rfl rfl rfl rfl (pE rfl (WO.nil (qs ?_)))
    try refine cD 2 0 rfl rfl rfl ?_
    try refine cD 2 1 rfl rfl rfl ?_
    try refine cD 1 0 rfl rfl rfl ?_
    try refine cD 1 1 rfl rfl rfl ?_
    refine W.ret (ah (au (ah (aZ (au (au (ah (aZ (au (ah (QV.aq aa trivial rfl ?_)))))))))))
    (rw[hg];rfl)
   have hq:¬ out2.length=20000:=by simp at h117;omega
   rw[if_neg hq] at hJ
   have hzp:0 < ((z++bF y o.more).map aH.c).length:=by rw[List.length_map,List.length_append,hxl];have:=hoo.m0;omega
   have hr0:((z++bF y o.more).map aH.c)[o.m0]? = some (bh (z++bF y o.more) o.m0).c:=by
    rw[List.getElem?_map,iq (by rw[List.length_append,hxl];have:=hoo.m0;omega)];rfl
   have hr1:((nU (z++bF y o.more) o.m0 (rU o z y)).map aH.c)[o.m1]? = some (bh (nU (z++bF y o.more) o.m0 (rU o z y)) o.m1).c:=by
    rw[List.getElem?_map,iq (by rw[mD,List.length_append,hxl];have:=hoo.m1;omega)];rfl
   have hl0:=(List.getElem?_eq_some_iff.1 hr0).1
   have hl1:o.m1 < ((z++bF y o.more).map aH.c).length:=by have:=(List.getElem?_eq_some_iff.1 hr1).1;rw[List.length_map,mD] at this;rw[List.length_map];exact this
   refine W.skip (qs (W.seq (W.region (pE rfl (kQ [] [] rfl rfl rfl rfl rfl ((xc z (by omega))) rfl rfl (by rfl) (by rfl) rfl rfl rfl rfl ?_)))))
   iterate 2 refine pE rfl ?_
   refine pu (ak rfl rfl rfl hpz rfl) rfl ?_
   refine iY (es2:=(bF y o.more).map aH.c) (r:=(z++bF y o.more).map aH.c) aa rfl rfl rfl rfl rfl rfl rfl rfl rfl rfl (List.map_append).symm (by rw[←List.map_append];exact iI _) (by show((z.map aH.c).length+((bF y o.more).map aH.c).length)*32≤_;rw[List.length_map,List.length_map];omega) rfl ?_
   refine pE rfl (WO.nil (qs (W.seq (Al 26 rfl rfl rfl hzp rfl (fun cap22 k22=>?_)))))
   apply W.j0 aa 13 12;(case hB=>kernel_rfl);(case h1=>rfl);(case h2=>rfl)
   refine' bz (ev aa rfl) rfl rfl rfl rfl rfl ?h_7
   case' h_7=>skip
   refine' bz (ev aa rfl) rfl rfl rfl rfl rfl ?h_8
   case' h_8=>skip
   refine' bz (indexAddr (l:=nc o.m0) aa rfl rfl rfl rfl rfl rfl (by decide) rfl rfl) rfl rfl rfl rfl rfl ?h_9
   case' h_9=>skip
   refine' bz (ev aa rfl) rfl rfl rfl rfl rfl ?h_10
   case' h_10=>skip
   refine' cg ?p1_11 (ev aa rfl) rfl rfl rfl rfl rfl ?h_11
   case' h_11=>skip
   refine' cg ?p1_12 (ev aa rfl) rfl rfl rfl rfl rfl ?h_12
   case' h_12=>skip
   refine' cg ?p1_13 (indexAddr (l:=nc o.m1) aa rfl rfl rfl rfl rfl rfl (by decide) rfl rfl) rfl rfl rfl rfl rfl ?h_13
   case' h_13=>skip
   refine' bz (ev aa rfl) rfl rfl rfl rfl rfl ?h_14
   case' h_14=>skip
   refine' bz (ev aa rfl) rfl rfl rfl rfl rfl ?h_15
   case' h_15=>skip
   refine' cg ?p1_16 (ev aa rfl) rfl rfl rfl rfl rfl ?h_16
   case' h_16=>skip
   refine' cg ?p1_17 (bG aa rfl rfl rfl rfl rfl (Int.natCast_nonneg _) hl0 rfl) rfl rfl rfl rfl rfl ?h_17
   case' h_17=>skip
   refine' bz (ev aa rfl) rfl rfl rfl rfl rfl ?h_18
   case' h_18=>skip
   refine' mR (fun g=>?e_19) rfl rfl ?h_19
   case e_19=>
    refine pJ (i:=o.m0) (off:=1) (sz:=3) (cs:=[ci (rU o z y)]) aa rfl rfl rfl rfl rfl (iI _) hr0 (by simp) rfl (by simp) (qN (n:=rU o z y)) ?_
    refine WO.nil ?_
    exact⟨rfl,rfl⟩
   case' h_19=>skip
   case p1_11=>exact(ev aa rfl)
   case p1_12=>exact(ev aa rfl)
   case p1_13=>exact(indexAddr (l:=nc o.m1) aa rfl rfl rfl rfl rfl rfl (by decide) rfl rfl)
   case p1_16=>exact(ev aa rfl)
   case p1_17=>exact(bG aa rfl rfl rfl rfl rfl (Int.natCast_nonneg _) hl0 rfl)
   refine CC.nil ?_
   refine pu (bG aa rfl rfl rfl rfl rfl (Int.natCast_nonneg _) hl1 rfl) rfl ?_
   refine pE rfl (pJ (i:=o.m1) (off:=1) (sz:=3) (cs:=[ci (u6 o z y)]) aa rfl rfl rfl rfl rfl (iI _) hr1 (by simp) rfl (by simp) (qN (n:=u6 o z y)) ?_)
   refine WO.nil (qs (sY (sz:=3) 26 rfl rfl rfl (by rw[List.length_map,List.length_map,mD,mD]) (iI _) rfl rfl ?_))
   refine W.region (pE rfl (pE rfl (pE rfl (pu (aI aa rfl rfl rfl rfl rfl rfl rfl rfl rfl) rfl ?_))))
   refine bJ (fn:=rc) (a:=yA o z y) aa rfl rfl rfl rfl rfl rfl rfl rfl rfl rfl (fun _=>rfl) (by show(out2.length+1)*24≤_;omega) ?_
   refine pE rfl (aR aa rfl rfl rfl rfl rfl rfl rfl rfl (WO.nil (aX (qs (W.region ?_)))))
   iterate 2 refine pE rfl ?_
   refine WO.nil ?_
   have hbr:=hbr2
   (have _hb:lF o z y=true:=hbr;refine W.aU [0,1,2,9,4] ⟨(j+1,out2++[yA o z y]),?_⟩ ?_ rfl ?_ ⟨rfl,rfl,rfl,rfl,rfl,rfl,rfl,rfl,rfl,rfl,rfl,rfl,rfl,rfl,rfl,rfl,rfl,rfl,rfl,rfl,rfl,rfl,trivial⟩ ?_ trivial rfl)
   · exact⟨hlt,(by first | exact hn2 | (rw[List.length_append];simp;omega)),hJ⟩
   · dsimp only;omega
   · repeat' first | exact trivial | refine⟨rfl,?_⟩ | refine⟨aD (by assumption) (by assumption),?_⟩
   repeat' first | exact trivial | refine⟨rfl,?_⟩
  rw[hd] at hJ
  simp only[pP] at hJ
  rw[←hJ] at hI
  dsimp only at hI
  refine W.exit (aN (aQ (aO (aX (qs (W.region ?_))))))
  iterate 2 refine pE rfl ?_
  refine WO.nil ?_
  (have _hb:cM z o.m0 o.m1=true:=hbr;refine W.aU [0,1,2,3] ⟨(i+1,out2),?_⟩ ?_ rfl ?_ ⟨rfl,rfl,rfl,rfl,rfl,rfl,rfl,rfl,rfl,rfl,rfl,rfl,rfl,rfl,trivial⟩ ?_ trivial rfl)
  · exact⟨hlt,(by first | exact hn2 | exact hn),hI⟩
  · dsimp only;omega
  · repeat' first | exact trivial | refine⟨rfl,?_⟩ | refine⟨aD (by assumption) (by assumption),?_⟩
  repeat' first | exact trivial | refine⟨rfl,?_⟩
 rw[hd] at hI
 simp only[lL] at hI
 have hg:fF a b on=(⟨CT0.1,out⟩,0):=by rw[hgo,←hI]
 refine W.exit (aN (aQ (aO (qs (W.seq (W.region (pE rfl (aR aa rfl rfl rfl rfl rfl rfl rfl rfl (pE rfl (WO.nil (qs ?_)))))))))))
 try refine cD 2 0 rfl rfl rfl ?_
 try refine cD 2 1 rfl rfl rfl ?_
 try refine cD 1 0 rfl rfl rfl ?_
 try refine cD 1 1 rfl rfl rfl ?_
 refine W.ret (QV.aq aa trivial rfl ?_)
 (rw[hg];rfl)
end Go.Proofs.YtjenenllmjlimaaGreat
