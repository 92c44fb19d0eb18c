import Derived.Test.YtpiaiiopakafhaaGreatDoorQ5
namespace Go.Proofs.YtpiaiiopakafhaaGreatDoor
open Go.Ab Go.Tb
set_option maxRecDepth 10000
set_option maxHeartbeats 1000000
attribute [local irreducible] W WO Pu QS QB QL QF QV bu CH QE
theorem vD (b:UInt8):decide (0≤Lib.indexByte (ah (B #[32,9,10,13])) b)=iA b:=by rw[Bool.eq_iff_iff,decide_eq_true_eq,jY];unfold iA;simp only[ah,Bool.or_eq_true,decide_eq_true_eq];show b∈[32,9,10,13]↔_;simp only[List.mem_cons,List.mem_nil_iff,or_false,←UInt8.toNat_inj];rfl
theorem jt (s:ByteArray) (i:Nat) (hi:i≤s.size) (hs:s.size≤1000000000):bp Tryz.prog 72 [.ptr 0 0] [ek s i] 0 (.d (.v (.int .u8 (ak (ah s) (ar (ah s) i)).toNat))) [ek s (ar (ah s) i)] 0:=by
 refine bp.cZ aa (n:=35) (rs:=[.tmp 2]) Tryz.func72 (by kernel_rfl) rfl Tryz.ntmps72 Tryz.results72 rfl rfl fun C hC N=>?_;refine W.seq (W.region (pE rfl (WO.nil (qs (W.seq (W.block ?_))))))
 refine W.bF (ι:={x:Nat // match x with | j=>j≤s.size∧ar (ah s) j=ar (ah s) i})
  (fun x=>match x.1 with | j=>[(0,.ptr 0 0)]) []
  (fun x=>match x.1 with | j=>[(0,[.d (cs s),.d (.v (.int .i64 (j:Int)))])]) [] [] 1 (fun x=>match x.1 with | j=>s.size - j)
  [0] ⟨i,?_⟩ rfl ?_ trivial ?_ trivial rfl ?_
 ·exact⟨hi,rfl⟩
 ·repeat' first | exact trivial | refine⟨rfl,?_⟩
 ·repeat' first | exact trivial | refine⟨rfl,?_⟩
 rintro⟨j,O,J⟩;show W _ _ _ _ _ ⟨[(0,.ptr 0 0)],[(0,[.d (cs s),.d (.v (.int .i64 (j:Int)))])],[],1⟩;iterate 2 refine W.seq ?_
 apply mL aa;(case hb=>rfl);(case hB=>kernel_rfl);·
  iterate 3 refine aK (ev aa rfl) rfl ?_
  refine aK (ev aa rfl) rfl ?_;iterate 3 refine aK (ev aa rfl) rfl ?_
  refine aK (ev aa rfl) rfl ?_;iterate 3 refine aK (ev aa rfl) rfl ?_
  apply mz;(case hj=>rfl);(case hl=>rfl);·
   intro g13;refine cL rfl rfl (ev aa rfl) rfl ?_;refine cL rfl rfl (ev aa rfl) rfl ?_;refine cL rfl rfl (ev aa rfl) rfl ?_;refine cL rfl rfl (ev aa rfl) rfl ?_;refine cL rfl rfl (ev aa rfl) rfl ?_;refine cL rfl rfl (ev aa rfl) rfl ?_;refine cL rfl rfl (ev aa rfl) rfl ?_;refine cL rfl rfl (ev aa rfl) rfl ?_;refine cL rfl rfl (dM aa rfl rfl rfl rfl (Int.natCast_nonneg _) (gf (mh (s:=s) (i:=j) (by simpa using g13)))) rfl ?_;refine cL rfl rfl (ay rfl rfl rfl (xk (B #[32,9,10,13]) (ak (ah s) j)) rfl) rfl ?_;refine cL rfl rfl (ev aa rfl) rfl ?_;refine aK (ev aa rfl) rfl ?_;refine CH.nil ?_;refine bt rfl rfl rfl
  intro g13;iterate 11 refine qR rfl rfl rfl rfl ?_
  refine aK (ev aa rfl) rfl ?_;refine CH.nil ?_;refine bt rfl rfl rfl
 refine qs (an rfl (fun I=>?_) (fun I=>?_));·
  have q:j < s.size∧iA (ak (ah s) j)=true:=by revert I;rw[vD];simp
  have M:=qL (l:=ah s) (i:=j) (by rw[aw];exact q.1) q.2;refine W.skip (qs (W.block (W.region ?_)));iterate 3 refine pE rfl ?_
  refine pE rfl (pu (dn (ev aa rfl) (y:=((j+1:Nat):Int)) (wrap64 (by omega))) rfl ?_);iterate 2 refine pE rfl ?_
  refine ax aa rfl rfl rfl rfl rfl rfl rfl rfl (WO.nil (bz (W.bU [0] ⟨j+1,?_⟩ ?_ rfl ?_ trivial ?_ trivial rfl)));·exact⟨q.1,by rw[←M,J]⟩
  ·dsimp only;omega
  ·repeat' first | exact trivial | refine⟨rfl,?_⟩
  repeat' first | exact trivial | refine⟨rfl,?_⟩
 have q:ar (ah s) i=j:=by
  rw[←J];by_cases q1:j < s.size;·exact dd (by revert I;rw[vD];simp[q1])
  exact tE (by rw[aw];omega)
 refine W.exit (bb (be (ba (qs (W.seq (W.region (pE rfl (aE [0] [] rfl rfl rfl rfl rfl ((gv s j)) rfl rfl (by rfl) (by rfl) rfl rfl rfl rfl ?_))))))));refine pE rfl (WO.nil (qs (W.ret (b4.end aa [] trivial rfl rfl rfl rfl ?_ ?_))));·rw[q];exact⟨rfl,trivial⟩
 rw[q];rfl
theorem iI (s:ByteArray) (c:UInt8) (i:Nat) (hs:s.size≤1000000000):cF Tryz.prog 157 [.ptr 0 0,.d (.v (.int .u8 c.toNat))] [ek s i] 0 (fV 128 s (fun _=>.tup []) (bw (ah s) c i)):=by
 refine cF.cZ aa (n:=39) (rs:=[]) Tryz.func157 (by kernel_rfl) rfl Tryz.ntmps157 Tryz.results157 rfl (eX ..) fun C hC M=>?_;iterate 2 refine W.seq ?_
 apply mL aa;(case hb=>rfl);(case hB=>kernel_rfl);·
  iterate 3 refine aK (ev aa rfl) rfl ?_
  refine aK (ev aa rfl) rfl ?_;iterate 3 refine aK (ev aa rfl) rfl ?_
  refine aK (ev aa rfl) rfl ?_;iterate 3 refine aK (ev aa rfl) rfl ?_
  apply mz;(case hj=>rfl);(case hl=>rfl);·
   intro g14;iterate 11 refine qR rfl rfl rfl rfl ?_
   refine aK (ev aa rfl) rfl ?_;refine CH.nil ?_;refine bt rfl rfl rfl
  intro g14;refine cL rfl rfl (ev aa rfl) rfl ?_;refine cL rfl rfl (ev aa rfl) rfl ?_;refine cL rfl rfl (ev aa rfl) rfl ?_;refine cL rfl rfl (ev aa rfl) rfl ?_;refine cL rfl rfl (ev aa rfl) rfl ?_;refine cL rfl rfl (ev aa rfl) rfl ?_;refine cL rfl rfl (ev aa rfl) rfl ?_;refine cL rfl rfl (ev aa rfl) rfl ?_;refine cL rfl rfl (dM aa rfl rfl rfl rfl (Int.natCast_nonneg _) (gf (mh (s:=s) (i:=i) (by simpa using g14)))) rfl ?_;refine cL rfl rfl (ev aa rfl) rfl ?_;refine cL rfl rfl (ev aa rfl) rfl ?_;refine aK (ev aa rfl) rfl ?_;refine CH.nil ?_;refine bt rfl rfl rfl
 refine qs (an rfl (fun I=>?_) (fun I=>?_));·
  have J:bw (ah s) c i=.no i 10:=by unfold bw;rw[if_neg];rintro⟨q1,q2⟩;rw[aw] at q1;revert I;simp[q1,q2]
  refine W.region ?_;iterate 3 refine pE rfl ?_
  refine pE rfl (b7 [] [] rfl rfl rfl rfl rfl (cI i 10) rfl rfl (by rfl) (fun st'=>?_));repeat' refine bW ?_
  exact cf (aH J)
 have J:bw (ah s) c i=.ok () (i+1)∧i < s.size:=by
  have q:i < s.size∧ak (ah s) i=c:=by revert I;simp;intro q1 q2;exact⟨q1,UInt8.toNat_inj.1 (by omega)⟩
  exact⟨by unfold bw;rw[if_pos ⟨by rw[aw];exact q.1,q.2⟩],q.1⟩
 refine W.skip (qs (W.region ?_));iterate 3 refine pE rfl ?_
 refine pE rfl (pu (dn (ev aa rfl) (y:=((i+1:Nat):Int)) (wrap64 (by omega))) rfl ?_);iterate 2 refine pE rfl ?_
 refine ax aa rfl rfl rfl rfl rfl rfl rfl rfl (WO.nil (cO (aM (J.1)) ?_));refine b4.end aa [] trivial rfl rfl rfl rfl ?_ ?_;·exact⟨rfl,trivial⟩
 rfl
end Go.Proofs.YtpiaiiopakafhaaGreatDoor
namespace Go.Proofs.YtpiaiiopakafhaaGreatDoor
open Go.Ab Go.Tb
set_option maxRecDepth 10000
set_option maxHeartbeats 1000000
attribute [local irreducible] W WO Pu QS QB QL QF QV bu CH QE
theorem iK (s w:ByteArray) (i:Nat) (hs:s.size≤1000000000):cF Tryz.prog 114 [.ptr 0 0,.d (.v (.string w))] [ek s i] 0 (fV 128 s (fun _=>.tup []) (b5 (ah s) (ah w) i)):=by
 refine cF.cZ aa (n:=16) (rs:=[]) Tryz.func114 (by kernel_rfl) rfl Tryz.ntmps114 Tryz.results114 rfl (eX ..) fun C hC X=>?_;refine W.seq (W.region ?_);iterate 3 refine pE rfl ?_
 refine WO.nil (qs (W.block (W.l9 (t:=1) rfl (fun hok=>?_))));have hlen:=kQ hok
 refine W.bF (ι:={x:Nat×Nat // match x with | (k,j)=>k≤(ah w).length∧b5 (ah s) ((ah w).drop k) j=b5 (ah s) (ah w) i})
  (fun x=>match x.1 with | (k,j)=>[(0,.ptr 0 0),(7,.d (.v (.int .i64 ((k:Nat):Int))))]) [(1,_),(6,_)]
  (fun x=>match x.1 with | (k,j)=>[(0,[.d (cs s),.d (.v (.int .i64 (j:Int)))])]) [] [] 1 (fun x=>match x.1 with | (k,j)=>(ah w).length - k)
  [0] ⟨(0,i),?_⟩ rfl ?_ ⟨rfl,rfl,rfl,rfl,trivial⟩ ?_ trivial rfl ?_
 ·exact⟨Nat.zero_le _,rfl⟩
 ·repeat' first | exact trivial | refine⟨rfl,?_⟩
 ·repeat' first | exact trivial | refine⟨rfl,?_⟩
 rintro⟨⟨k,j⟩,M,I⟩;show W _ _ _ _ _ ⟨[(0,.ptr 0 0),(7,.d (.v (.int .i64 ((k:Nat):Int)))),(1,_),(6,_)],[(0,[.d (cs s),.d (.v (.int .i64 (j:Int)))])],[],1⟩;refine W.seq (W.region (pE rfl (WO.nil (qs (W.seq (ca (l:=ah w) (k:=k) rfl (by simp[Ex.aF,aw]) M (fun b Z hd J=>?_) (fun he hd=>?_)))))));·
  rw[hd] at I;simp only[b5] at I;refine W.skip (qs (W.seq (W.block (W.seq (W.region ?_)))));iterate 2 refine pE rfl ?_
  refine WO.nil (qs (W.region ?_));iterate 3 refine pE rfl ?_
  refine pu (dM aa rfl rfl rfl rfl (Int.natCast_nonneg _) (gf (by assumption))) rfl ?_
  cases hc14:bw (ah s) b j with
  | no N O=>
   refine b7 [0] [] rfl rfl rfl rfl rfl ((iI s b j hs).e9 (aH hc14)) rfl rfl (by rfl) (fun st'=>?_);repeat' first | refine bW ?_ | refine fg ?_ | refine iU ?_
   refine cf (aH (by rw[←I,hc14]))
  | ok U i14=>
   refine aE [0] [] rfl rfl rfl rfl rfl ((iI s b j hs).ret (aM hc14)) rfl rfl (by rfl) (by rfl) rfl rfl rfl rfl ?_;refine WO.nil (bz (qs (W.region ?_)));iterate 2 refine pE rfl ?_
   refine WO.nil (W.bU [0] ⟨(k+1,i14),?_⟩ ?_ rfl ?_ ⟨rfl,rfl,rfl,rfl,trivial⟩ ?_ trivial rfl);·exact⟨J,by rw[←I,hc14]⟩
   ·dsimp only;omega
   ·repeat' first | exact trivial | refine⟨rfl,?_⟩ | refine⟨aP (by assumption) (by assumption),?_⟩
   repeat' first | exact trivial | refine⟨rfl,?_⟩
 rw[hd] at I;simp only[b5] at I;refine W.exit (bb (be (ba (cO (aM (I.symm)) ?_))));refine b4.end aa [] trivial rfl rfl rfl rfl ?_ ?_;·exact⟨rfl,trivial⟩
 rfl
def gg (l:List UInt8) (c:UInt8) (i:Nat):PE Bool:=
 if ak l (ar l i)=44 then .ok true (ar l i+1) else match bw l c (ar l i) with | .no a w=>.no a w | .ok _ j=>.ok false j
theorem oW (s:ByteArray) (c:UInt8) (i:Nat) (hi:i≤s.size) (hs:s.size≤1000000000):cF Tryz.prog 159 [.ptr 0 0,.d (.v (.int .u8 c.toNat))] [ek s i] 0 (fV 128 s (fun b=>.d (.v (.bool b))) (gg (ah s) c i)):=by
 have hle:ar (ah s) i≤s.size:=by have:=bR (l:=ah s) (i:=i) (by rw[aw];exact hi);rwa [aw] at this
 refine cF.cZ aa (n:=18) (rs:=[.tmp 4]) Tryz.func159 (by kernel_rfl) rfl Tryz.ntmps159 Tryz.results159 rfl (eX ..) fun C hC U=>?_;refine W.seq (W.region (pE rfl (WO.nil (qs ?_))));iterate 2 refine W.seq ?_
 refine W.region (pE rfl (aE [0] [] rfl rfl rfl rfl rfl ((jt s i hi hs)) rfl rfl (by rfl) (by rfl) rfl rfl rfl rfl ?_));refine pE rfl (WO.nil (qs (an rfl (fun I=>?_) (fun I=>?_))));·
  have q:ak (ah s) (ar (ah s) i)=44:=UInt8.toNat_inj.1 (by show _=44;simp at I;omega);have J:gg (ah s) c i=.ok true (ar (ah s) i+1):=by unfold gg;rw[if_pos q]
  refine W.seq (W.region ?_);iterate 3 refine pE rfl ?_
  refine pE rfl (pu (dn (ev aa rfl) (y:=((ar (ah s) i+1:Nat):Int)) (wrap64 (by omega))) rfl ?_);iterate 2 refine pE rfl ?_
  refine ax aa rfl rfl rfl rfl rfl rfl rfl rfl (WO.nil (qs (W.seq (W.region (pE rfl (WO.nil (qs (W.ret (aA (cO (aM (J)) ?_))))))))));refine b4.end aa [] trivial rfl rfl rfl rfl ?_ ?_;·exact⟨rfl,trivial⟩
  rfl
 have q:¬ ak (ah s) (ar (ah s) i)=44:=by intro q;rw[q] at I;simp at I
 have J:gg (ah s) c i=match bw (ah s) c (ar (ah s) i) with | .no a w=>.no a w | .ok _ j=>.ok false j:=by unfold gg;rw[if_neg q]
 refine W.skip (qs (W.seq (W.region ?_)));iterate 2 refine pE rfl ?_
 cases hc17:bw (ah s) c (ar (ah s) i) with
 | no M N=>
  refine b7 [0] [] rfl rfl rfl rfl rfl ((iI s c (ar (ah s) i) hs).e9 (aH hc17)) rfl rfl (by rfl) (fun st'=>?_);repeat' refine bW ?_
  refine cf (aH (by rw[J,hc17]))
 | ok O i17=>
  refine aE [0] [] rfl rfl rfl rfl rfl ((iI s c (ar (ah s) i) hs).ret (aM hc17)) rfl rfl (by rfl) (by rfl) rfl rfl rfl rfl ?_;refine WO.nil (qs (W.seq (W.region (pE rfl (WO.nil (qs (W.ret (cO (aM ((by rw[J,hc17]))) ?_))))))));refine b4.end aa [] trivial rfl rfl rfl rfl ?_ ?_;·exact⟨rfl,trivial⟩
  rfl
def fw (l:List UInt8) (i:Nat):PE Nat:=match jc (ak l i) with | some n=>.ok n i | none=>.no i 10
theorem Ft:∀ n:Fin 256,IntKind.u8.wrap (((BitVec.ofInt IntKind.u8.bits (n.val:Int)) ||| BitVec.ofInt IntKind.u8.bits 32).toNat:Int)=(((UInt8.ofNat n.val) ||| 32).toNat:Int):=by decide +kernel
theorem By (b:UInt8):IntKind.u8.wrap (((BitVec.ofInt IntKind.u8.bits (b.toNat:Int)) ||| BitVec.ofInt IntKind.u8.bits 32).toNat:Int)=((b ||| 32).toNat:Int):=by have h:=Ft ⟨b.toNat,b.toNat_lt⟩;rw[h];simp
theorem mB (s:ByteArray) (i:Nat):cF Tryz.prog 176 [.ptr 0 0] [ek s i] 0 (fV 128 s (fun n:Nat=>.d (.v (.int .i64 (n:Int)))) (fw (ah s) i)):=by
 have O:(ak (ah s) i).toNat < 256:=(ak (ah s) i).toNat_lt;have N:(ak (ah s) i ||| 32).toNat < 256:=(ak (ah s) i ||| 32).toNat_lt;refine cF.cZ aa (n:=35) (rs:=[.tmp 2]) Tryz.func176 (by kernel_rfl) rfl Tryz.ntmps176 Tryz.results176 rfl (eX ..) fun C hC U=>?_;refine W.seq (W.region (pE rfl (WO.nil (qs ?_))));iterate 2 refine W.seq ?_
 refine W.region (pE rfl (aE [0] [] rfl rfl rfl rfl rfl ((gv s i)) rfl rfl (by rfl) (by rfl) rfl rfl rfl rfl ?_));refine pE rfl (WO.nil (qs (W.block (W.seq ?_))));apply aO;(case hb=>rfl);·repeat' first | refine bt rfl rfl rfl | refine aG rfl rfl ?_ | refine aD rfl rfl rfl rfl ?_ | refine pE rfl ?_ | refine WO.nil ?_ | (apply bj;(case hj=>rfl);(case hl=>rfl))
 refine qs (an rfl (fun M=>?_) (fun M=>?_));·
  have q:48≤(ak (ah s) i).toNat∧(ak (ah s) i).toNat≤57:=by revert M;simp;omega
  have I:fw (ah s) i=.ok ((ak (ah s) i).toNat - 48) i:=by unfold fw jc;rw[if_pos q]
  refine W.seq (W.region (pE rfl (pu (dn (ev aa rfl) (y:=(((ak (ah s) i).toNat - 48:Nat):Int)) (Eq.trans (wrap_u8 (by omega)) (by omega))) rfl ?_)));refine pu (dn (ev aa rfl) (y:=(((ak (ah s) i).toNat - 48:Nat):Int)) (wrap64 (by omega))) rfl ?_;refine pE rfl (WO.nil (qs (W.ret (aJ (aA (cO (aM (I)) ?_))))));refine b4.end aa [] trivial rfl rfl rfl rfl ?_ ?_;·exact⟨rfl,trivial⟩
  rfl
 have q:¬ (48≤(ak (ah s) i).toNat∧(ak (ah s) i).toNat≤57):=by revert M;simp;omega
 refine W.seq ?_;apply aO;(case hb=>rfl);·
  refine pE rfl (pu (dn (ev aa rfl) (By (ak (ah s) i))) rfl ?_);iterate 2 refine pE rfl ?_
  apply bj;(case hj=>rfl);(case hl=>rfl);·
   refine aG rfl rfl (pE rfl (aG rfl rfl (pu (dn (ev aa rfl) (By (ak (ah s) i))) rfl ?_)));refine aG rfl rfl ?_;iterate 3 refine pE rfl ?_
   refine WO.nil (bt rfl rfl rfl)
  iterate 3 refine aD rfl rfl rfl rfl ?_
  iterate 2 refine pE rfl ?_
  refine WO.nil (bt rfl rfl rfl)
 refine qs (an rfl (fun J=>?_) (fun J=>?_));·
  have q2:97≤(ak (ah s) i ||| 32).toNat∧(ak (ah s) i ||| 32).toNat≤102:=by revert J;simp only[Bool.cond_false_right,Bool.and_eq_true,decide_eq_true_eq];omega
  have I:fw (ah s) i=.ok ((ak (ah s) i ||| 32).toNat - 97+10) i:=by unfold fw jc;rw[if_neg q,if_pos q2]
  refine W.seq (W.region (pE rfl (pu (dn (ev aa rfl) (By (ak (ah s) i))) rfl ?_)));refine pu (dn (ev aa rfl) (y:=(((ak (ah s) i ||| 32).toNat - 97:Nat):Int)) (Eq.trans (wrap_u8 (by omega)) (by omega))) rfl ?_;refine pu (dn (ev aa rfl) (y:=(((ak (ah s) i ||| 32).toNat - 97:Nat):Int)) (wrap64 (by omega))) rfl ?_;refine pu (dn (ev aa rfl) (y:=(((ak (ah s) i ||| 32).toNat - 97+10:Nat):Int)) (Eq.trans (wrap64 (by omega)) (by omega))) rfl ?_;refine pE rfl (WO.nil (qs (W.ret (aJ (aA (cO (aM (I)) ?_))))));refine b4.end aa [] trivial rfl rfl rfl rfl ?_ ?_;·exact⟨rfl,trivial⟩
  rfl
 have q2:¬ (97≤(ak (ah s) i ||| 32).toNat∧(ak (ah s) i ||| 32).toNat≤102):=by revert J;simp only[Bool.cond_false_right,Bool.and_eq_false_iff,decide_eq_false_iff_not];omega
 have I:fw (ah s) i=.no i 10:=by unfold fw jc;rw[if_neg q,if_neg q2]
 refine W.skip (bz (qs (W.seq (W.region ?_))));iterate 3 refine pE rfl ?_
 refine pE rfl (b7 [] [] rfl rfl rfl rfl rfl (cI i 10) rfl rfl (by rfl) (fun st'=>?_));repeat' refine bW ?_
 exact cf (aH I)
end Go.Proofs.YtpiaiiopakafhaaGreatDoor
namespace Go.Proofs.YtpiaiiopakafhaaGreatDoor
open Go.Ab Go.Tb
set_option maxRecDepth 10000
set_option maxHeartbeats 1000000
attribute [local irreducible] W WO Pu QS QB QL QF QV bu CH QE
def x5 (l:List UInt8) (i:Nat):PE UInt8:=match b5 l [117,48,48] i with
 | .no a w=>.no a w
 | .ok _ j=>match fw l j with
  | .no a w=>.no a w
  | .ok high j1=>if high=1∨7 < high then .no j1 10 else match fw l (j1+1) with
   | .no a w=>.no a w
   | .ok low j2=>if known (UInt8.ofNat (16*high+low))=false then .no j2 10 else .ok (UInt8.ofNat (16*high+low)) (j2+1)
theorem ig {c:UInt8} {n:Nat} (I:n < 256) (h:(c.toNat:Int)=(n:Int)):c=UInt8.ofNat n:=UInt8.toNat_inj.1 (by rw[UInt8.toNat_ofNat_of_lt' I];omega)
theorem qd {l:List UInt8} {i:Nat} (h:((ak l i).toNat:Int)=34∨((ak l i).toNat:Int)=92∨((ak l i).toNat:Int)=47):dQ l i=.ok (ak l i) (i+1):=by
 unfold dQ;rw[if_pos];rcases h with h | h | h
 ·exact .inl (ig (n:=34) (by decide) h)
 ·exact .inr (.inl (ig (n:=92) (by decide) h))
 exact .inr (.inr (ig (n:=47) (by decide) h))
theorem FC {l:List UInt8} {i:Nat} (h:((ak l i).toNat:Int)=110):dQ l i=.ok 10 (i+1):=by have e:=ig (n:=110) (by decide) h;unfold dQ;rw[e];rfl
theorem Fv {l:List UInt8} {i:Nat} (h:((ak l i).toNat:Int)=116):dQ l i=.ok 9 (i+1):=by have e:=ig (n:=116) (by decide) h;unfold dQ;rw[e];rfl
theorem Az {l:List UInt8} {i:Nat} (h1:¬ ((ak l i).toNat:Int)=34) (h2:¬ ((ak l i).toNat:Int)=92) (h3:¬ ((ak l i).toNat:Int)=47) (h4:¬ ((ak l i).toNat:Int)=110) (h5:¬ ((ak l i).toNat:Int)=116):dQ l i=x5 l i:=by
 unfold dQ x5 fw;rw[if_neg (by rintro(e | e | e) <;> rw[e] at h1 h2 h3 <;> simp at h1 h2 h3),if_neg (by intro e;rw[e] at h4;simp at h4),if_neg (by intro e;rw[e] at h5;simp at h5)]
 cases b5 l [117,48,48] i with
 | no a w=>rfl
 | ok y j=>
  simp only
  cases jc (ak l j) with
  | none=>rfl
  | some high=>
   simp only;by_cases q:high=1∨7 < high;·rw[if_pos q,if_pos q]
   rw[if_neg q,if_neg q]
   cases jc (ak l (j+1)) with
   | none=>rfl
   | some low=>rfl
theorem uI {l:List UInt8} {i n j:Nat} (h:fw l i=.ok n j):j=i∧n < 16:=by
 unfold fw at h
 cases I:jc (ak l i) with
 | none=>rw[I] at h;cases h
 | some m=>
  rw[I] at h;cases h;refine⟨rfl,?_⟩;unfold jc at I;split at I;·cases I;omega
  split at I;·cases I;omega
  cases I
theorem EM {n:Nat} (h:n < 256):((UInt8.ofNat n).toNat:Int)=(n:Int):=by rw[UInt8.toNat_ofNat_of_lt' h]
theorem tl (s:ByteArray) (i:Nat) (hi:i≤s.size) (hs:s.size≤1000000000):cF Tryz.prog 158 [.ptr 0 0] [ek s i] 0 (fV 128 s (fun c:UInt8=>.d (.v (.int .u8 c.toNat))) (dQ (ah s) i)):=by
 have X:=ku (l:=ah s) (x:=[117,48,48]) (i:=i) (by rw[aw];exact hi);refine cF.cZ aa (n:=83) (rs:=[.tmp 2]) Tryz.func158 (by kernel_rfl) rfl Tryz.ntmps158 Tryz.results158 rfl (eX ..) fun C hC hG=>?_;refine W.seq (W.region (pE rfl (WO.nil (qs (W.seq (W.region (pE rfl (aE [0] [] rfl rfl rfl rfl rfl ((gv s i)) rfl rfl (by rfl) (by rfl) rfl rfl rfl rfl ?_))))))));refine pE rfl (WO.nil (qs ?_));iterate 2 refine W.seq ?_
 refine W.region (pE rfl (WO.nil (qs (W.block ?_))));iterate 2 refine W.seq ?_
 refine W.region ?_;iterate 2 refine pE rfl ?_
 refine WO.nil (qs (an rfl (fun M=>?_) (fun M=>?_)));·
  have I:dQ (ah s) i=.ok (ak (ah s) i) (i+1):=qd (by have:=of_decide_eq_true M;omega);refine W.skip (qs (W.lB rfl (W.seq (W.region ?_))));iterate 3 refine pE rfl ?_
  refine pE rfl (pu (dn (ev aa rfl) (y:=((i+1:Nat):Int)) (wrap64 (by omega))) rfl ?_);iterate 2 refine pE rfl ?_
  refine ax aa rfl rfl rfl rfl rfl rfl rfl rfl (WO.nil (qs (W.seq (W.region ?_))));iterate 2 refine pE rfl ?_
  refine WO.nil (qs (W.ret (aJ (aA (cO (aM (I)) ?_)))));refine b4.end aa [] trivial rfl rfl rfl rfl ?_ ?_;·exact⟨rfl,trivial⟩
  rfl
 refine W.seq (W.region ?_);iterate 2 refine pE rfl ?_
 refine WO.nil (qs (an rfl (fun M=>?_) (fun M=>?_)));·
  have I:dQ (ah s) i=.ok (ak (ah s) i) (i+1):=qd (by have:=of_decide_eq_true M;omega);refine W.skip (qs (W.lB rfl (W.seq (W.region ?_))));iterate 3 refine pE rfl ?_
  refine pE rfl (pu (dn (ev aa rfl) (y:=((i+1:Nat):Int)) (wrap64 (by omega))) rfl ?_);iterate 2 refine pE rfl ?_
  refine ax aa rfl rfl rfl rfl rfl rfl rfl rfl (WO.nil (qs (W.seq (W.region ?_))));iterate 2 refine pE rfl ?_
  refine WO.nil (qs (W.ret (aJ (aA (cO (aM (I)) ?_)))));refine b4.end aa [] trivial rfl rfl rfl rfl ?_ ?_;·exact⟨rfl,trivial⟩
  rfl
 refine W.region ?_;iterate 2 refine pE rfl ?_
 refine WO.nil (qs (an rfl (fun M=>?_) (fun M=>?_)));·
  have I:dQ (ah s) i=.ok (ak (ah s) i) (i+1):=qd (by have:=of_decide_eq_true M;omega);refine W.seq (W.region ?_);iterate 3 refine pE rfl ?_
  refine pE rfl (pu (dn (ev aa rfl) (y:=((i+1:Nat):Int)) (wrap64 (by omega))) rfl ?_);iterate 2 refine pE rfl ?_
  refine ax aa rfl rfl rfl rfl rfl rfl rfl rfl (WO.nil (qs (W.seq (W.region ?_))));iterate 2 refine pE rfl ?_
  refine WO.nil (qs (W.ret (aJ (aA (cO (aM (I)) ?_)))));refine b4.end aa [] trivial rfl rfl rfl rfl ?_ ?_;·exact⟨rfl,trivial⟩
  rfl
 refine W.seq (W.region ?_);iterate 2 refine pE rfl ?_
 refine WO.nil (qs (an rfl (fun Z=>?_) (fun Z=>?_)));·
  have I:dQ (ah s) i=.ok 10 (i+1):=FC (of_decide_eq_true Z);refine W.seq (W.region ?_);iterate 3 refine pE rfl ?_
  refine pE rfl (pu (dn (ev aa rfl) (y:=((i+1:Nat):Int)) (wrap64 (by omega))) rfl ?_);iterate 2 refine pE rfl ?_
  refine ax aa rfl rfl rfl rfl rfl rfl rfl rfl (WO.nil (qs (W.seq (W.region (pE rfl (WO.nil (qs (W.ret (aJ (aA (cO (aM (I)) ?_)))))))))));refine b4.end aa [] trivial rfl rfl rfl rfl ?_ ?_;·exact⟨rfl,trivial⟩
  rfl
 refine W.seq (W.region ?_);iterate 2 refine pE rfl ?_
 refine WO.nil (qs (an rfl (fun ad=>?_) (fun ad=>?_)));·
  have I:dQ (ah s) i=.ok 9 (i+1):=Fv (of_decide_eq_true ad);refine W.seq (W.region ?_);iterate 3 refine pE rfl ?_
  refine pE rfl (pu (dn (ev aa rfl) (y:=((i+1:Nat):Int)) (wrap64 (by omega))) rfl ?_);iterate 2 refine pE rfl ?_
  refine ax aa rfl rfl rfl rfl rfl rfl rfl rfl (WO.nil (qs (W.seq (W.region (pE rfl (WO.nil (qs (W.ret (aJ (aA (cO (aM (I)) ?_)))))))))));refine b4.end aa [] trivial rfl rfl rfl rfl ?_ ?_;·exact⟨rfl,trivial⟩
  rfl
 have I:dQ (ah s) i=x5 (ah s) i:=Az (by simp_all) (by simp_all) (by simp_all) (by simp_all) (by simp_all);unfold x5 at I;refine W.skip (bz (qs (W.seq (W.region (pE rfl ?_)))))
 cases hc40:b5 (ah s) [117,48,48] i with
 | no a40 ai=>
  refine b7 [0] [] rfl rfl rfl rfl rfl ((iK s (B #[117,48,48]) i hs).e9 (aH hc40)) rfl rfl (by rfl) (fun st'=>?_);repeat' refine bW ?_
  refine cf (aH (by rw[I,hc40]))
 | ok aj i40=>
  refine aE [0] [] rfl rfl rfl rfl rfl ((iK s (B #[117,48,48]) i hs).ret (aM hc40)) rfl rfl (by rfl) (by rfl) rfl rfl rfl rfl ?_;rw[hc40] at I X;rw[aw] at X;simp only at I;refine WO.nil (qs (W.seq (W.region (pE rfl ?_))))
  cases hc42:fw (ah s) i40 with
  | no a1 a6=>
   refine b7 [0] [] rfl rfl rfl rfl rfl ((mB s i40).e9 (aH hc42)) rfl rfl (by rfl) (fun st'=>?_);repeat' refine bW ?_
   refine cf (aH (by rw[I,hc42]))
  | ok J i42=>
   refine aE [0] [] rfl rfl rfl rfl rfl ((mB s i40).ret (aM hc42)) rfl rfl (by rfl) (by rfl) rfl rfl rfl rfl ?_;rw[hc42] at I;simp only at I;obtain⟨a7,a8⟩:=uI hc42;refine pE rfl (WO.nil (qs ?_));iterate 2 refine W.seq ?_
   apply aO;(case hb=>rfl);·repeat' first | refine bt rfl rfl rfl | refine aG rfl rfl ?_ | refine aD rfl rfl rfl rfl ?_ | refine pE rfl ?_ | refine WO.nil ?_ | (apply bj;(case hj=>rfl);(case hl=>rfl))
   refine qs (an rfl (fun O=>?_) (fun O=>?_));·
    have q:J=1∨7 < J:=by revert O;simp;omega
    rw[if_pos q] at I;refine W.region ?_;iterate 3 refine pE rfl ?_
    refine pE rfl (b7 [] [] rfl rfl rfl rfl rfl (cI i42 10) rfl rfl (by rfl) (fun st'=>?_));repeat' refine bW ?_
    exact cf (aH I)
   have q:¬ (J=1∨7 < J):=by revert O;simp;omega
   rw[if_neg q] at I;refine W.skip (qs (W.seq (W.region ?_)));iterate 3 refine pE rfl ?_
   refine pE rfl (pu (dn (ev aa rfl) (y:=((i42+1:Nat):Int)) (wrap64 (by omega))) rfl ?_);iterate 2 refine pE rfl ?_
   refine ax aa rfl rfl rfl rfl rfl rfl rfl rfl (WO.nil (qs (W.seq (W.region (pE rfl (pu (dn (ev aa rfl) (y:=((16*J:Nat):Int)) (Eq.trans (wrap64 (by omega)) (by omega))) rfl ?_))))));refine pE rfl ?_
   cases hc64:fw (ah s) (i42+1) with
   | no b0 b2=>
    refine b7 [0] [] rfl rfl rfl rfl rfl ((mB s (i42+1)).e9 (aH hc64)) rfl rfl (by rfl) (fun st'=>?_);repeat' refine bW ?_
    refine cf (aH (by rw[I,hc64]))
   | ok N i64=>
    refine aE [0] [] rfl rfl rfl rfl rfl ((mB s (i42+1)).ret (aM hc64)) rfl rfl (by rfl) (by rfl) rfl rfl rfl rfl ?_;rw[hc64] at I;simp only at I;obtain⟨b3,ch⟩:=uI hc64;refine pu (dn (ev aa rfl) (y:=((16*J+N:Nat):Int)) (Eq.trans (wrap64 (by omega)) (by omega))) rfl ?_;refine pu (dn (ev aa rfl) (y:=((UInt8.ofNat (16*J+N)).toNat:Int)) (Eq.trans (wrap_u8 (by omega)) (EM (by omega)).symm)) rfl ?_;refine pE rfl (WO.nil (qs ?_));iterate 2 refine W.seq ?_
    refine W.region (pE rfl (pu (ay rfl rfl rfl (vW (UInt8.ofNat (16*J+N))) rfl) rfl ?_));refine pE rfl (WO.nil (qs (an rfl (fun U=>?_) (fun U=>?_))));·
     have q2:known (UInt8.ofNat (16*J+N))=false:=by simpa using U
     rw[if_pos q2] at I;refine W.region ?_;iterate 3 refine pE rfl ?_
     refine pE rfl (b7 [] [] rfl rfl rfl rfl rfl (cI i64 10) rfl rfl (by rfl) (fun st'=>?_));repeat' refine bW ?_
     exact cf (aH I)
    have q2:¬ known (UInt8.ofNat (16*J+N))=false:=by simpa using U
    rw[if_neg q2] at I;refine W.skip (qs (W.seq (W.region ?_)));iterate 3 refine pE rfl ?_
    refine pE rfl (pu (dn (ev aa rfl) (y:=((i64+1:Nat):Int)) (wrap64 (by omega))) rfl ?_);iterate 2 refine pE rfl ?_
    refine ax aa rfl rfl rfl rfl rfl rfl rfl rfl (WO.nil (qs (W.seq (W.region ?_))));iterate 2 refine pE rfl ?_
    refine WO.nil (qs (W.ret (cO (aM (I)) ?_)));refine b4.end aa [] trivial rfl rfl rfl rfl ?_ ?_;·exact⟨rfl,trivial⟩
    rfl
end Go.Proofs.YtpiaiiopakafhaaGreatDoor
namespace Go.Proofs.YtpiaiiopakafhaaGreatDoor
open Go.Ab Go.Tb
set_option maxRecDepth 10000
set_option maxHeartbeats 1000000
attribute [local irreducible] W WO Pu QS QB QL QF QV bu CH QE
def ie (l:List UInt8) (i j:Nat):ByteArray:=⟨((l.drop i).take (j - i)).toArray⟩
def ga (l:List UInt8) (i j:Nat) (u:ByteArray):PE JV:=if (fE u).2=true then .ok (.mk 3 (fE u).1 (B #[]) [] []) j else .no i 2
def j7 (l:List UInt8) (i i1 j:Nat):PE JV:=if j=i1 then .no i1 10 else ga l i j (if ie l i j=B #[45,48] then B #[48] else ie l i j)
theorem Cv {l:List UInt8} {i:Nat} (h:ak l i=45):dz l i=j7 l i (i+1) (bo l (i+1)):=by unfold dz j7 ga ie;rw[if_pos h]
theorem Cq {l:List UInt8} {i:Nat} (h:¬ ak l i=45):dz l i=j7 l i i (bo l i):=by unfold dz j7 ga ie;rw[if_neg h]
theorem j0 (s:ByteArray) (i j:Nat):s.extract i j=ie (ah s) i j:=by refine iH ?_;show ah _=_;rw[Go.Tb.wL];unfold ie;simp[List.drop_take]
theorem oY (b:UInt8):cW b=true↔48≤b.toNat∧b.toNat≤57:=by unfold cW;simp
theorem tf {l:List UInt8} {k j:Nat} (h:cW (ak l j)=false):gy l k j=j:=by cases k <;> simp[gy,h]
theorem tG {l:List UInt8} {j:Nat} (hj:j < l.length) (h:cW (ak l j)=true):gy l (l.length - j) j=gy l (l.length - (j+1)) (j+1):=by rw[show l.length - j=(l.length - (j+1))+1 by omega,gy,if_pos ⟨hj,h⟩]
theorem yQ (s:ByteArray) (i:Nat) (hi:i≤s.size) (hs:s.size≤1000000000) (hm:ak (ah s) i=45):cF Tryz.prog 118 [.ptr 0 0] [ek s i] 0 (fV 128 s (fun v:JV=>.ag v.c) (dz (ah s) i)):=by
 have X:=Cv (l:=ah s) (i:=i) hm;have a6:i < s.size:=by have:=b6 (l:=ah s) (i:=i) (by rw[hm];decide);rwa [aw] at this
 have a7:=mY (l:=ah s) (i:=i+1) (by rw[aw];omega);rw[aw] at a7;refine cF.cZ aa (n:=85) (rs:=[.cell 2 46]) Tryz.func118 (by kernel_rfl) rfl Tryz.ntmps118 Tryz.results118 rfl (eX ..) fun C hC hG=>?_;refine W.seq (W.region (aL aa rfl rfl rfl (WO.nil (qs (W.seq (W.region ?_))))));iterate 3 refine pE rfl ?_
 refine pE rfl (pE rfl (WO.nil (qs ?_)));iterate 2 refine W.seq ?_
 refine W.region (pE rfl (aE [0] [] rfl rfl rfl rfl rfl ((gv s i)) rfl rfl (by rfl) (by rfl) rfl rfl rfl rfl ?_));refine pE rfl (WO.nil (qs (an rfl (fun ad=>?_) (fun ad=>?_))));·
  refine W.region ?_;iterate 3 refine pE rfl ?_
  refine pE rfl (pu (dn (ev aa rfl) (y:=((i+1:Nat):Int)) (wrap64 (by omega))) rfl ?_);iterate 2 refine pE rfl ?_
  refine ax aa rfl rfl rfl rfl rfl rfl rfl rfl (WO.nil (qs (W.seq (W.region ?_))));iterate 3 refine pE rfl ?_
  refine pE rfl (pE rfl (WO.nil (qs ?_)));iterate 2 refine W.seq ?_
  refine W.region (pE rfl (aE [0] [] rfl rfl rfl rfl rfl ((gv s (i+1))) rfl rfl (by rfl) (by rfl) rfl rfl rfl rfl ?_));refine pE rfl (WO.nil (qs (W.block ?_)))
  refine W.bF (ι:={x:Nat // match x with | j=>(i+1)≤j∧j≤s.size∧(j=(i+1)∨ak (ah s) (i+1)≠48)∧(ak (ah s) (i+1)≠48→gy (ah s) ((ah s).length - j) j=gy (ah s) ((ah s).length - (i+1)) (i+1))})
   (fun x=>match x.1 with | j=>[(0,.ptr 0 0),(2,.ptr 1 0),(5,.d (.v (.int .u8 (ak (ah s) j).toNat)))]) [(3,_),(4,_)]
   (fun x=>match x.1 with | j=>[(0,[.d (cs s),.d (.v (.int .i64 (j:Int)))])]) [(1,_)] [] 2 (fun x=>match x.1 with | j=>s.size - j)
   [0,1] ⟨(i+1),?_⟩ rfl ?_ ⟨rfl,rfl,rfl,rfl,trivial⟩ ?_ ⟨rfl,rfl,trivial⟩ rfl ?_
  ·exact⟨Nat.le_refl _,a6,.inl rfl,fun _=>rfl⟩
  ·repeat' first | exact trivial | refine⟨rfl,?_⟩
  ·repeat' first | exact trivial | refine⟨rfl,?_⟩
  rintro⟨j,b2,b3,aj,a1⟩;show W _ _ _ _ _ ⟨[(0,.ptr 0 0),(2,.ptr 1 0),(5,.d (.v (.int .u8 (ak (ah s) j).toNat))),(3,_),(4,_)],[(0,[.d (cs s),.d (.v (.int .i64 (j:Int)))]),(1,_)],[],2⟩;iterate 2 refine W.seq ?_
  apply aO;(case hb=>rfl);·
   iterate 3 refine pE rfl ?_
   apply eY;(case hj=>rfl);(case hl=>rfl);·
    intro a8;refine aG rfl rfl (pE rfl (aG rfl rfl ?_));iterate 2 refine pE rfl ?_
    refine WO.nil (bt rfl rfl rfl)
   intro a8;iterate 2 refine aD rfl rfl rfl rfl ?_
   refine pE rfl (WO.nil (bt rfl rfl rfl))
  refine qs (an rfl (fun ai=>?_) (fun ai=>?_));·
   have hd:cW (ak (ah s) j)=true:=by rw[oY];revert ai;simp;omega
   have b0:j < s.size:=by have:=b6 (l:=ah s) (i:=j) (by intro q;rw[q] at hd;exact absurd hd (by decide));rwa [aw] at this
   refine W.skip (qs (W.seq (W.block (W.seq (W.region ?_)))));iterate 3 refine pE rfl ?_
   refine pE rfl (pu (dn (ev aa rfl) (y:=((j+1:Nat):Int)) (wrap64 (by omega))) rfl ?_);iterate 2 refine pE rfl ?_
   refine ax aa rfl rfl rfl rfl rfl rfl rfl rfl (WO.nil (qs (W.seq (W.region ?_))));iterate 3 refine pE rfl ?_
   refine pE rfl (pE rfl (pu (dM aa rfl rfl rfl rfl (Int.natCast_nonneg _) (gf (mh (s:=s) (i:=(i+1)) (by omega)))) rfl ?_));refine pE rfl (WO.nil (qs (an rfl (fun Z=>?_) (fun Z=>?_))));·
    have N:ak (ah s) (i+1)=48:=ig (n:=48) (by decide) (of_decide_eq_true Z);have hE:j+1=bo (ah s) (i+1):=by
     unfold bo;rw[if_pos N];rcases aj with e | e
     ·rw[e]
     exact absurd N e
    rw[hE];refine W.exit (wW rfl ?_);refine bb (be (ba (qs ?_)));iterate 2 refine W.seq ?_
    refine W.region ?_;iterate 3 refine pE rfl ?_
    refine pE rfl ?_;iterate 2 refine pE rfl ?_
    refine WO.nil (qs (an rfl (fun O=>?_) (fun O=>?_)));·
     have q:bo (ah s) (i+1)=(i+1):=by have:=of_decide_eq_true O;omega
     have M:dz (ah s) i=.no (bo (ah s) (i+1)) 10:=by rw[X];unfold j7;rw[if_pos q,q]
     refine W.region ?_;iterate 3 refine pE rfl ?_
     refine pE rfl (b7 [] [] rfl rfl rfl rfl rfl (cI (bo (ah s) (i+1)) 10) rfl rfl (by rfl) (fun st'=>?_));repeat' refine bW ?_
     exact cf (aH M)
    have q:¬ bo (ah s) (i+1)=(i+1):=by have:=of_decide_eq_false O;omega
    unfold j7 at X;rw[if_neg q] at X;refine W.skip (qs (W.seq (W.eW aa (by kernel_rfl) ?_)));iterate 3 refine aK (ev aa rfl) rfl ?_
    refine aK (ev aa rfl) rfl ?_;iterate 4 refine aK (ev aa rfl) rfl ?_
    refine aK (ev aa rfl) rfl ?_;refine aK (Cj (pn (l:=(i:Int)) (h:=((bo (ah s) (i+1):Nat):Int)) aa rfl rfl rfl rfl rfl (by omega) (by omega) (by omega)) (show _=ie (ah s) i (bo (ah s) (i+1)) from j0 s i _)) rfl ?_;refine aK (ev aa rfl) rfl ?_;refine CH.nil ?_;refine qs ?_;iterate 2 refine W.seq ?_
    refine W.region ?_;iterate 2 refine pE rfl ?_
    refine WO.nil (qs (an rfl (fun U=>?_) (fun U=>?_)));·
     have M:=X;rw[if_pos (of_decide_eq_true U)] at M;refine W.region (pE rfl (WO.nil (qs (W.seq (W.region (pE rfl (pu (ay rfl rfl rfl (fS _ (by first | (rw[show(B #[48]).size=1 from rfl];omega) | (rw[←j0,ByteArray.size_extract];omega))) rfl) rfl ?_)))))));iterate 5 refine pE rfl ?_
     refine WO.nil (qs ?_);iterate 2 refine W.seq ?_
     refine W.region ?_;iterate 2 refine pE rfl ?_
     refine WO.nil (qs (an rfl (fun J=>?_) (fun J=>?_)));·
      have I:dz (ah s) i=.no i 2:=by rw[M];unfold ga;rw[if_neg (by simpa using J)]
      refine W.region (pE rfl (b7 [] [] rfl rfl rfl rfl rfl (cI i 2) rfl rfl (by rfl) (fun st'=>?_)));repeat' refine bW ?_
      exact cf (aH I)
     have I:=M;unfold ga at I;rw[if_pos (by simpa using J)] at I;refine W.skip (qs (W.seq (W.region (pE rfl (pu (build aa rfl rfl rfl rfl) rfl ?_)))));try refine gG 84 rfl rfl rfl ?_
     refine ax aa rfl rfl rfl rfl rfl rfl rfl rfl (WO.nil (qs (W.ret (cO (aM (I)) ?_))));refine b4.end aa [] trivial rfl rfl rfl rfl ?_ ?_;·exact⟨rfl,trivial⟩
     rfl
    have M:=X;rw[if_neg (of_decide_eq_false U)] at M;refine W.skip (qs (W.seq (W.region (pE rfl (pu (ay rfl rfl rfl (fS _ (by first | (rw[show(B #[48]).size=1 from rfl];omega) | (rw[←j0,ByteArray.size_extract];omega))) rfl) rfl ?_)))));iterate 5 refine pE rfl ?_
    refine WO.nil (qs ?_);iterate 2 refine W.seq ?_
    refine W.region ?_;iterate 2 refine pE rfl ?_
    refine WO.nil (qs (an rfl (fun J=>?_) (fun J=>?_)));·
     have I:dz (ah s) i=.no i 2:=by rw[M];unfold ga;rw[if_neg (by simpa using J)]
     refine W.region (pE rfl (b7 [] [] rfl rfl rfl rfl rfl (cI i 2) rfl rfl (by rfl) (fun st'=>?_)));repeat' refine bW ?_
     exact cf (aH I)
    have I:=M;unfold ga at I;rw[if_pos (by simpa using J)] at I;refine W.skip (qs (W.seq (W.region (pE rfl (pu (build aa rfl rfl rfl rfl) rfl ?_)))));try refine gG 84 rfl rfl rfl ?_
    refine ax aa rfl rfl rfl rfl rfl rfl rfl rfl (WO.nil (qs (W.ret (cO (aM (I)) ?_))));refine b4.end aa [] trivial rfl rfl rfl rfl ?_ ?_;·exact⟨rfl,trivial⟩
    rfl
   have N:ak (ah s) (i+1)≠48:=by intro q;rw[q] at Z;simp at Z
   refine W.skip (bz (qs (W.region (pE rfl (aE [0] [] rfl rfl rfl rfl rfl ((gv s (j+1))) rfl rfl (by rfl) (by rfl) rfl rfl rfl rfl ?_)))));refine pE rfl (WO.nil (W.bU [0,1] ⟨j+1,?_⟩ ?_ rfl ?_ ⟨rfl,rfl,rfl,rfl,trivial⟩ ?_ ⟨rfl,rfl,trivial⟩ rfl));·exact⟨by omega,by omega,.inr N,fun q=>by rw[←a1 q,tG (by rw[aw];exact b0) hd]⟩
   ·dsimp only;omega
   ·repeat' first | exact trivial | refine⟨rfl,?_⟩
   repeat' first | exact trivial | refine⟨rfl,?_⟩
  have hd:cW (ak (ah s) j)=false:=by
   cases q:cW (ak (ah s) j) with
   | false=>rfl
   | true=>rw[oY] at q;revert ai;simp;omega
  have N:ak (ah s) (i+1)≠48:=by
   rcases aj with e | e
   ·rw[←e];intro q;rw[q] at hd;exact absurd hd (by decide)
   exact e
  have hE:bo (ah s) (i+1)=j:=by unfold bo;rw[if_neg N,←a1 N,tf hd]
  subst hE;refine W.exit (bb (be (ba (qs ?_))));iterate 2 refine W.seq ?_
  refine W.region ?_;iterate 3 refine pE rfl ?_
  refine pE rfl ?_;iterate 2 refine pE rfl ?_
  refine WO.nil (qs (an rfl (fun O=>?_) (fun O=>?_)));·
   have q:bo (ah s) (i+1)=(i+1):=by have:=of_decide_eq_true O;omega
   have M:dz (ah s) i=.no (bo (ah s) (i+1)) 10:=by rw[X];unfold j7;rw[if_pos q,q]
   refine W.region ?_;iterate 3 refine pE rfl ?_
   refine pE rfl (b7 [] [] rfl rfl rfl rfl rfl (cI (bo (ah s) (i+1)) 10) rfl rfl (by rfl) (fun st'=>?_));repeat' refine bW ?_
   exact cf (aH M)
  have q:¬ bo (ah s) (i+1)=(i+1):=by have:=of_decide_eq_false O;omega
  unfold j7 at X;rw[if_neg q] at X;refine W.skip (qs (W.seq (W.eW aa (by kernel_rfl) ?_)));iterate 3 refine aK (ev aa rfl) rfl ?_
  refine aK (ev aa rfl) rfl ?_;iterate 4 refine aK (ev aa rfl) rfl ?_
  refine aK (ev aa rfl) rfl ?_;refine aK (Cj (pn (l:=(i:Int)) (h:=((bo (ah s) (i+1):Nat):Int)) aa rfl rfl rfl rfl rfl (by omega) (by omega) (by omega)) (show _=ie (ah s) i (bo (ah s) (i+1)) from j0 s i _)) rfl ?_;refine aK (ev aa rfl) rfl ?_;refine CH.nil ?_;refine qs ?_;iterate 2 refine W.seq ?_
  refine W.region ?_;iterate 2 refine pE rfl ?_
  refine WO.nil (qs (an rfl (fun U=>?_) (fun U=>?_)));·
   have M:=X;rw[if_pos (of_decide_eq_true U)] at M;refine W.region (pE rfl (WO.nil (qs (W.seq (W.region (pE rfl (pu (ay rfl rfl rfl (fS _ (by first | (rw[show(B #[48]).size=1 from rfl];omega) | (rw[←j0,ByteArray.size_extract];omega))) rfl) rfl ?_)))))));iterate 5 refine pE rfl ?_
   refine WO.nil (qs ?_);iterate 2 refine W.seq ?_
   refine W.region ?_;iterate 2 refine pE rfl ?_
   refine WO.nil (qs (an rfl (fun J=>?_) (fun J=>?_)));·
    have I:dz (ah s) i=.no i 2:=by rw[M];unfold ga;rw[if_neg (by simpa using J)]
    refine W.region (pE rfl (b7 [] [] rfl rfl rfl rfl rfl (cI i 2) rfl rfl (by rfl) (fun st'=>?_)));repeat' refine bW ?_
    exact cf (aH I)
   have I:=M;unfold ga at I;rw[if_pos (by simpa using J)] at I;refine W.skip (qs (W.seq (W.region (pE rfl (pu (build aa rfl rfl rfl rfl) rfl ?_)))));try refine gG 84 rfl rfl rfl ?_
   refine ax aa rfl rfl rfl rfl rfl rfl rfl rfl (WO.nil (qs (W.ret (cO (aM (I)) ?_))));refine b4.end aa [] trivial rfl rfl rfl rfl ?_ ?_;·exact⟨rfl,trivial⟩
   rfl
  have M:=X;rw[if_neg (of_decide_eq_false U)] at M;refine W.skip (qs (W.seq (W.region (pE rfl (pu (ay rfl rfl rfl (fS _ (by first | (rw[show(B #[48]).size=1 from rfl];omega) | (rw[←j0,ByteArray.size_extract];omega))) rfl) rfl ?_)))));iterate 5 refine pE rfl ?_
  refine WO.nil (qs ?_);iterate 2 refine W.seq ?_
  refine W.region ?_;iterate 2 refine pE rfl ?_
  refine WO.nil (qs (an rfl (fun J=>?_) (fun J=>?_)));·
   have I:dz (ah s) i=.no i 2:=by rw[M];unfold ga;rw[if_neg (by simpa using J)]
   refine W.region (pE rfl (b7 [] [] rfl rfl rfl rfl rfl (cI i 2) rfl rfl (by rfl) (fun st'=>?_)));repeat' refine bW ?_
   exact cf (aH I)
  have I:=M;unfold ga at I;rw[if_pos (by simpa using J)] at I;refine W.skip (qs (W.seq (W.region (pE rfl (pu (build aa rfl rfl rfl rfl) rfl ?_)))));try refine gG 84 rfl rfl rfl ?_
  refine ax aa rfl rfl rfl rfl rfl rfl rfl rfl (WO.nil (qs (W.ret (cO (aM (I)) ?_))));refine b4.end aa [] trivial rfl rfl rfl rfl ?_ ?_;·exact⟨rfl,trivial⟩
  rfl
 exfalso;rw[hm] at ad;simp at ad
theorem yy (s:ByteArray) (i:Nat) (hi:i≤s.size) (hs:s.size≤1000000000) (hm:¬ ak (ah s) i=45):cF Tryz.prog 118 [.ptr 0 0] [ek s i] 0 (fV 128 s (fun v:JV=>.ag v.c) (dz (ah s) i)):=by
 have X:=Cq (l:=ah s) (i:=i) hm;have a6:=mY (l:=ah s) (i:=i) (by rw[aw];omega);rw[aw] at a6;refine cF.cZ aa (n:=85) (rs:=[.cell 2 46]) Tryz.func118 (by kernel_rfl) rfl Tryz.ntmps118 Tryz.results118 rfl (eX ..) fun C hC hG=>?_;refine W.seq (W.region (aL aa rfl rfl rfl (WO.nil (qs (W.seq (W.region ?_))))));iterate 3 refine pE rfl ?_
 refine pE rfl (pE rfl (WO.nil (qs ?_)));iterate 2 refine W.seq ?_
 refine W.region (pE rfl (aE [0] [] rfl rfl rfl rfl rfl ((gv s i)) rfl rfl (by rfl) (by rfl) rfl rfl rfl rfl ?_));refine pE rfl (WO.nil (qs (an rfl (fun ai=>?_) (fun ai=>?_))));·exfalso;exact hm (ig (n:=45) (by decide) (of_decide_eq_true ai))
 refine W.skip (qs (W.seq (W.region ?_)));iterate 3 refine pE rfl ?_
 refine pE rfl (pE rfl (WO.nil (qs ?_)));iterate 2 refine W.seq ?_
 refine W.region (pE rfl (aE [0] [] rfl rfl rfl rfl rfl ((gv s i)) rfl rfl (by rfl) (by rfl) rfl rfl rfl rfl ?_));refine pE rfl (WO.nil (qs (W.block ?_)))
 refine W.bF (ι:={x:Nat // match x with | j=>i≤j∧j≤s.size∧(j=i∨ak (ah s) i≠48)∧(ak (ah s) i≠48→gy (ah s) ((ah s).length - j) j=gy (ah s) ((ah s).length - i) i)})
  (fun x=>match x.1 with | j=>[(0,.ptr 0 0),(2,.ptr 1 0),(5,.d (.v (.int .u8 (ak (ah s) j).toNat)))]) [(3,_),(4,_)]
  (fun x=>match x.1 with | j=>[(0,[.d (cs s),.d (.v (.int .i64 (j:Int)))])]) [(1,_)] [] 2 (fun x=>match x.1 with | j=>s.size - j)
  [0,1] ⟨i,?_⟩ rfl ?_ ⟨rfl,rfl,rfl,rfl,trivial⟩ ?_ ⟨rfl,rfl,trivial⟩ rfl ?_
 ·exact⟨Nat.le_refl _,hi,.inl rfl,fun _=>rfl⟩
 ·repeat' first | exact trivial | refine⟨rfl,?_⟩
 ·repeat' first | exact trivial | refine⟨rfl,?_⟩
 rintro⟨j,b0,b2,aj,a1⟩;show W _ _ _ _ _ ⟨[(0,.ptr 0 0),(2,.ptr 1 0),(5,.d (.v (.int .u8 (ak (ah s) j).toNat))),(3,_),(4,_)],[(0,[.d (cs s),.d (.v (.int .i64 (j:Int)))]),(1,_)],[],2⟩;iterate 2 refine W.seq ?_
 apply aO;(case hb=>rfl);·
  iterate 3 refine pE rfl ?_
  apply eY;(case hj=>rfl);(case hl=>rfl);·
   intro a7;refine aG rfl rfl (pE rfl (aG rfl rfl ?_));iterate 2 refine pE rfl ?_
   refine WO.nil (bt rfl rfl rfl)
  intro a7;iterate 2 refine aD rfl rfl rfl rfl ?_
  refine pE rfl (WO.nil (bt rfl rfl rfl))
 refine qs (an rfl (fun ad=>?_) (fun ad=>?_));·
  have hd:cW (ak (ah s) j)=true:=by rw[oY];revert ad;simp;omega
  have a8:j < s.size:=by have:=b6 (l:=ah s) (i:=j) (by intro q;rw[q] at hd;exact absurd hd (by decide));rwa [aw] at this
  refine W.skip (qs (W.seq (W.block (W.seq (W.region ?_)))));iterate 3 refine pE rfl ?_
  refine pE rfl (pu (dn (ev aa rfl) (y:=((j+1:Nat):Int)) (wrap64 (by omega))) rfl ?_);iterate 2 refine pE rfl ?_
  refine ax aa rfl rfl rfl rfl rfl rfl rfl rfl (WO.nil (qs (W.seq (W.region ?_))));iterate 3 refine pE rfl ?_
  refine pE rfl (pE rfl (pu (dM aa rfl rfl rfl rfl (Int.natCast_nonneg _) (gf (mh (s:=s) (i:=i) (by omega)))) rfl ?_));refine pE rfl (WO.nil (qs (an rfl (fun Z=>?_) (fun Z=>?_))));·
   have N:ak (ah s) i=48:=ig (n:=48) (by decide) (of_decide_eq_true Z);have hE:j+1=bo (ah s) i:=by
    unfold bo;rw[if_pos N];rcases aj with e | e
    ·rw[e]
    exact absurd N e
   rw[hE];refine W.exit (wW rfl ?_);refine bb (be (ba (qs ?_)));iterate 2 refine W.seq ?_
   refine W.region ?_;iterate 3 refine pE rfl ?_
   refine pE rfl ?_;iterate 2 refine pE rfl ?_
   refine WO.nil (qs (an rfl (fun O=>?_) (fun O=>?_)));·
    have q:bo (ah s) i=i:=by have:=of_decide_eq_true O;omega
    have M:dz (ah s) i=.no (bo (ah s) i) 10:=by rw[X];unfold j7;rw[if_pos q,q]
    refine W.region ?_;iterate 3 refine pE rfl ?_
    refine pE rfl (b7 [] [] rfl rfl rfl rfl rfl (cI (bo (ah s) i) 10) rfl rfl (by rfl) (fun st'=>?_));repeat' refine bW ?_
    exact cf (aH M)
   have q:¬ bo (ah s) i=i:=by have:=of_decide_eq_false O;omega
   unfold j7 at X;rw[if_neg q] at X;refine W.skip (qs (W.seq (W.eW aa (by kernel_rfl) ?_)));iterate 3 refine aK (ev aa rfl) rfl ?_
   refine aK (ev aa rfl) rfl ?_;iterate 4 refine aK (ev aa rfl) rfl ?_
   refine aK (ev aa rfl) rfl ?_;refine aK (Cj (pn (l:=(i:Int)) (h:=((bo (ah s) i:Nat):Int)) aa rfl rfl rfl rfl rfl (by omega) (by omega) (by omega)) (show _=ie (ah s) i (bo (ah s) i) from j0 s i _)) rfl ?_;refine aK (ev aa rfl) rfl ?_;refine CH.nil ?_;refine qs ?_;iterate 2 refine W.seq ?_
   refine W.region ?_;iterate 2 refine pE rfl ?_
   refine WO.nil (qs (an rfl (fun U=>?_) (fun U=>?_)));·
    have M:=X;rw[if_pos (of_decide_eq_true U)] at M;refine W.region (pE rfl (WO.nil (qs (W.seq (W.region (pE rfl (pu (ay rfl rfl rfl (fS _ (by first | (rw[show(B #[48]).size=1 from rfl];omega) | (rw[←j0,ByteArray.size_extract];omega))) rfl) rfl ?_)))))));iterate 5 refine pE rfl ?_
    refine WO.nil (qs ?_);iterate 2 refine W.seq ?_
    refine W.region ?_;iterate 2 refine pE rfl ?_
    refine WO.nil (qs (an rfl (fun J=>?_) (fun J=>?_)));·
     have I:dz (ah s) i=.no i 2:=by rw[M];unfold ga;rw[if_neg (by simpa using J)]
     refine W.region (pE rfl (b7 [] [] rfl rfl rfl rfl rfl (cI i 2) rfl rfl (by rfl) (fun st'=>?_)));repeat' refine bW ?_
     exact cf (aH I)
    have I:=M;unfold ga at I;rw[if_pos (by simpa using J)] at I;refine W.skip (qs (W.seq (W.region (pE rfl (pu (build aa rfl rfl rfl rfl) rfl ?_)))));try refine gG 84 rfl rfl rfl ?_
    refine ax aa rfl rfl rfl rfl rfl rfl rfl rfl (WO.nil (qs (W.ret (cO (aM (I)) ?_))));refine b4.end aa [] trivial rfl rfl rfl rfl ?_ ?_;·exact⟨rfl,trivial⟩
    rfl
   have M:=X;rw[if_neg (of_decide_eq_false U)] at M;refine W.skip (qs (W.seq (W.region (pE rfl (pu (ay rfl rfl rfl (fS _ (by first | (rw[show(B #[48]).size=1 from rfl];omega) | (rw[←j0,ByteArray.size_extract];omega))) rfl) rfl ?_)))));iterate 5 refine pE rfl ?_
   refine WO.nil (qs ?_);iterate 2 refine W.seq ?_
   refine W.region ?_;iterate 2 refine pE rfl ?_
   refine WO.nil (qs (an rfl (fun J=>?_) (fun J=>?_)));·
    have I:dz (ah s) i=.no i 2:=by rw[M];unfold ga;rw[if_neg (by simpa using J)]
    refine W.region (pE rfl (b7 [] [] rfl rfl rfl rfl rfl (cI i 2) rfl rfl (by rfl) (fun st'=>?_)));repeat' refine bW ?_
    exact cf (aH I)
   have I:=M;unfold ga at I;rw[if_pos (by simpa using J)] at I;refine W.skip (qs (W.seq (W.region (pE rfl (pu (build aa rfl rfl rfl rfl) rfl ?_)))));try refine gG 84 rfl rfl rfl ?_
   refine ax aa rfl rfl rfl rfl rfl rfl rfl rfl (WO.nil (qs (W.ret (cO (aM (I)) ?_))));refine b4.end aa [] trivial rfl rfl rfl rfl ?_ ?_;·exact⟨rfl,trivial⟩
   rfl
  have N:ak (ah s) i≠48:=by intro q;rw[q] at Z;simp at Z
  refine W.skip (bz (qs (W.region (pE rfl (aE [0] [] rfl rfl rfl rfl rfl ((gv s (j+1))) rfl rfl (by rfl) (by rfl) rfl rfl rfl rfl ?_)))));refine pE rfl (WO.nil (W.bU [0,1] ⟨j+1,?_⟩ ?_ rfl ?_ ⟨rfl,rfl,rfl,rfl,trivial⟩ ?_ ⟨rfl,rfl,trivial⟩ rfl));·exact⟨by omega,by omega,.inr N,fun q=>by rw[←a1 q,tG (by rw[aw];exact a8) hd]⟩
  ·dsimp only;omega
  ·repeat' first | exact trivial | refine⟨rfl,?_⟩
  repeat' first | exact trivial | refine⟨rfl,?_⟩
 have hd:cW (ak (ah s) j)=false:=by
  cases q:cW (ak (ah s) j) with
  | false=>rfl
  | true=>rw[oY] at q;revert ad;simp;omega
 have N:ak (ah s) i≠48:=by
  rcases aj with e | e
  ·rw[←e];intro q;rw[q] at hd;exact absurd hd (by decide)
  exact e
 have hE:bo (ah s) i=j:=by unfold bo;rw[if_neg N,←a1 N,tf hd]
 subst hE;refine W.exit (bb (be (ba (qs ?_))));iterate 2 refine W.seq ?_
 refine W.region ?_;iterate 3 refine pE rfl ?_
 refine pE rfl ?_;iterate 2 refine pE rfl ?_
 refine WO.nil (qs (an rfl (fun O=>?_) (fun O=>?_)));·
  have q:bo (ah s) i=i:=by have:=of_decide_eq_true O;omega
  have M:dz (ah s) i=.no (bo (ah s) i) 10:=by rw[X];unfold j7;rw[if_pos q,q]
  refine W.region ?_;iterate 3 refine pE rfl ?_
  refine pE rfl (b7 [] [] rfl rfl rfl rfl rfl (cI (bo (ah s) i) 10) rfl rfl (by rfl) (fun st'=>?_));repeat' refine bW ?_
  exact cf (aH M)
 have q:¬ bo (ah s) i=i:=by have:=of_decide_eq_false O;omega
 unfold j7 at X;rw[if_neg q] at X;refine W.skip (qs (W.seq (W.eW aa (by kernel_rfl) ?_)));iterate 3 refine aK (ev aa rfl) rfl ?_
 refine aK (ev aa rfl) rfl ?_;iterate 4 refine aK (ev aa rfl) rfl ?_
 refine aK (ev aa rfl) rfl ?_;refine aK (Cj (pn (l:=(i:Int)) (h:=((bo (ah s) i:Nat):Int)) aa rfl rfl rfl rfl rfl (by omega) (by omega) (by omega)) (show _=ie (ah s) i (bo (ah s) i) from j0 s i _)) rfl ?_;refine aK (ev aa rfl) rfl ?_;refine CH.nil ?_;refine qs ?_;iterate 2 refine W.seq ?_
 refine W.region ?_;iterate 2 refine pE rfl ?_
 refine WO.nil (qs (an rfl (fun U=>?_) (fun U=>?_)));·
  have M:=X;rw[if_pos (of_decide_eq_true U)] at M;refine W.region (pE rfl (WO.nil (qs (W.seq (W.region (pE rfl (pu (ay rfl rfl rfl (fS _ (by first | (rw[show(B #[48]).size=1 from rfl];omega) | (rw[←j0,ByteArray.size_extract];omega))) rfl) rfl ?_)))))));iterate 5 refine pE rfl ?_
  refine WO.nil (qs ?_);iterate 2 refine W.seq ?_
  refine W.region ?_;iterate 2 refine pE rfl ?_
  refine WO.nil (qs (an rfl (fun J=>?_) (fun J=>?_)));·
   have I:dz (ah s) i=.no i 2:=by rw[M];unfold ga;rw[if_neg (by simpa using J)]
   refine W.region (pE rfl (b7 [] [] rfl rfl rfl rfl rfl (cI i 2) rfl rfl (by rfl) (fun st'=>?_)));repeat' refine bW ?_
   exact cf (aH I)
  have I:=M;unfold ga at I;rw[if_pos (by simpa using J)] at I;refine W.skip (qs (W.seq (W.region (pE rfl (pu (build aa rfl rfl rfl rfl) rfl ?_)))));try refine gG 84 rfl rfl rfl ?_
  refine ax aa rfl rfl rfl rfl rfl rfl rfl rfl (WO.nil (qs (W.ret (cO (aM (I)) ?_))));refine b4.end aa [] trivial rfl rfl rfl rfl ?_ ?_;·exact⟨rfl,trivial⟩
  rfl
 have M:=X;rw[if_neg (of_decide_eq_false U)] at M;refine W.skip (qs (W.seq (W.region (pE rfl (pu (ay rfl rfl rfl (fS _ (by first | (rw[show(B #[48]).size=1 from rfl];omega) | (rw[←j0,ByteArray.size_extract];omega))) rfl) rfl ?_)))));iterate 5 refine pE rfl ?_
 refine WO.nil (qs ?_);iterate 2 refine W.seq ?_
 refine W.region ?_;iterate 2 refine pE rfl ?_
 refine WO.nil (qs (an rfl (fun J=>?_) (fun J=>?_)));·
  have I:dz (ah s) i=.no i 2:=by rw[M];unfold ga;rw[if_neg (by simpa using J)]
  refine W.region (pE rfl (b7 [] [] rfl rfl rfl rfl rfl (cI i 2) rfl rfl (by rfl) (fun st'=>?_)));repeat' refine bW ?_
  exact cf (aH I)
 have I:=M;unfold ga at I;rw[if_pos (by simpa using J)] at I;refine W.skip (qs (W.seq (W.region (pE rfl (pu (build aa rfl rfl rfl rfl) rfl ?_)))));try refine gG 84 rfl rfl rfl ?_
 refine ax aa rfl rfl rfl rfl rfl rfl rfl rfl (WO.nil (qs (W.ret (cO (aM (I)) ?_))));refine b4.end aa [] trivial rfl rfl rfl rfl ?_ ?_;·exact⟨rfl,trivial⟩
 rfl
theorem rK (s:ByteArray) (i:Nat) (hi:i≤s.size) (hs:s.size≤1000000000):cF Tryz.prog 118 [.ptr 0 0] [ek s i] 0 (fV 128 s (fun v:JV=>.ag v.c) (dz (ah s) i)):=by
 by_cases hm:ak (ah s) i=45;·exact yQ s i hi hs hm
 exact yy s i hi hs hm
end Go.Proofs.YtpiaiiopakafhaaGreatDoor
namespace Go.Proofs.YtpiaiiopakafhaaGreatDoor
open Go.Ab Go.Tb
set_option maxRecDepth 10000
set_option maxHeartbeats 1000000
attribute [local irreducible] W WO Pu QS QB QL QF QV bu CH QE
theorem zw {l:List UInt8} {k i:Nat} {acc:List UInt8} (h1:¬ ((ak l i).toNat < 32∨126 < (ak l i).toNat)) (h2:ak l i≠34) (h3:ak l i≠92):cC l (k+1) i acc=cC l k (i+1) (acc++[ak l i]):=by rw[cC,if_neg h1,if_neg h2,if_neg h3]
theorem BZ {l:List UInt8} {k i:Nat} {acc:List UInt8} (h3:ak l i=92):cC l (k+1) i acc=match dQ l (i+1) with | .no a w=>.no a w | .ok c j=>cC l k j (acc++[c]):=by rw[cC,h3];rfl
theorem A4 {l:List UInt8} {k i:Nat} {acc:List UInt8} (h3:ak l i=34):cC l (k+1) i acc=.ok acc (i+1):=by rw[cC,h3];rfl
theorem Cy {l:List UInt8} {k i:Nat} {acc:List UInt8} (h1:(ak l i).toNat < 32∨126 < (ak l i).toNat):cC l (k+1) i acc=.no i 10:=by rw[cC,if_pos h1]
theorem E9 (a:List UInt8) (b:UInt8):bytesOf a++bytesOf [b]=bytesOf (a++[b]):=iH (by show ah _=ah _;rw[gC,dT,dT])
theorem mV (s:ByteArray) (i:Nat) (hi:i≤s.size) (hs:s.size≤1000000000):cF Tryz.prog 115 [.ptr 0 0] [ek s i] 0 (fV 128 s (fun t:List UInt8=>.d (.v (.string (bytesOf t)))) (de (ah s) i)):=by
 refine cF.ue aa (n:=53) (rs:=[.tmp 2]) Tryz.func115 (by kernel_rfl) rfl Tryz.ntmps115 Tryz.results115 rfl (eX ..) fun C hC hG aj a1=>?_;refine W.seq (W.region (pE rfl (WO.nil (qs (W.seq (W.region (pE rfl ?_)))))))
 cases hc6:bw (ah s) 34 i with
 | no a6 w6=>
  refine b7 [0] [] rfl rfl rfl rfl rfl ((iI s 34 i hs).e9 (aH hc6)) rfl rfl (by rfl) (fun st'=>?_);repeat' refine bW ?_
  refine cf (aH (by unfold de;rw[hc6]))
 | ok y6 i6=>
  refine aE [0] [] rfl rfl rfl rfl rfl ((iI s 34 i hs).ret (aM hc6)) rfl rfl (by rfl) (by rfl) rfl rfl rfl rfl ?_;have hg:de (ah s) i=cC (ah s) ((ah s).length+1 - i6) i6 []:=by unfold de;rw[hc6]
  have U:=gD (l:=ah s) (c:=34) (i:=i) (by rw[aw];exact hi);rw[hc6] at U;refine WO.nil (qs (W.seq (W.region (Ag aa tU rfl rfl rfl ?_))));refine WO.nil (qs (W.block ?_))
  refine W.bF (ι:={x:Nat×List UInt8×Bool // match x with | (j,acc,u)=>j≤s.size∧acc.length≤j∧∃ J,(ah s).length≤J+j∧cC (ah s) (J+1) j acc=de (ah s) i})
   (fun x=>match x.1 with | (j,acc,u)=>[(0,.ptr 0 0),(3,.ptr 1 0)]) []
   (fun x=>match x.1 with | (j,acc,u)=>[(0,[.d (cs s),.d (.v (.int .i64 (j:Int)))]),(1,[.np 1 tB u,.bf 2 tU (bytesOf acc)])]) [] [2] 3 (fun x=>match x.1 with | (j,acc,u)=>s.size - j)
   [0,2,3] ⟨(i6,[],false),?_⟩ rfl ?_ trivial ?_ trivial rfl ?_
  ·exact⟨by have:=U.2;rwa [aw] at this,Nat.zero_le _,(ah s).length - i6,by omega,by rw[hg,show(ah s).length+1 - i6=(ah s).length - i6+1 by have:=U.2;omega]⟩
  ·repeat' first | exact trivial | refine⟨rfl,?_⟩
  ·repeat' first | exact trivial | refine⟨rfl,?_⟩
  rintro⟨⟨j,acc,u⟩,hj,ha,hX⟩;show W _ _ _ _ _ ⟨[(0,.ptr 0 0),(3,.ptr 1 0)],[(0,[.d (cs s),.d (.v (.int .i64 (j:Int)))]),(1,[.np 1 tB u,.bf 2 tU (bytesOf acc)])],[2],3⟩;refine W.block (W.seq ?_);obtain⟨J,ad,Z⟩:=hX;refine W.region (pE rfl (aE [0] [] rfl rfl rfl rfl rfl ((gv s j)) rfl rfl (by rfl) (by rfl) rfl rfl rfl rfl ?_));refine pE rfl (WO.nil (qs (W.seq (W.block (W.seq ?_)))));apply aO;(case hb=>rfl);·repeat' first | refine bt rfl rfl rfl | refine aG rfl rfl ?_ | refine aD rfl rfl rfl rfl ?_ | refine pE rfl ?_ | refine WO.nil ?_ | (apply bj;(case hj=>rfl);(case hl=>rfl))
  refine qs (an rfl (fun X=>?_) (fun X=>?_));·
   have q:(ak (ah s) j).toNat < 32∨126 < (ak (ah s) j).toNat:=by revert X;simp;omega
   have hx:de (ah s) i=.no j 10:=by rw[←Z,Cy q]
   refine W.region ?_;iterate 3 refine pE rfl ?_
   refine pE rfl (b7 [] [] rfl rfl rfl rfl rfl (cI j 10) rfl rfl (by rfl) (fun st'=>?_));repeat' first | refine bW ?_ | refine fg ?_ | refine iU ?_
   exact cf (aH hx)
  have q:¬ ((ak (ah s) j).toNat < 32∨126 < (ak (ah s) j).toNat):=by revert X;simp;omega
  have a8:j < s.size:=by have:=b6 (l:=ah s) (i:=j) (by intro e;rw[e] at q;exact q (.inl (by decide)));rwa [aw] at this
  refine W.seq (W.region ?_);iterate 3 refine pE rfl ?_
  refine WO.nil (qs (an rfl (fun M=>?_) (fun M=>?_)));·
   have hx:de (ah s) i=.ok acc (j+1):=by rw[←Z,A4 (ig (n:=34) (by decide) (of_decide_eq_true M))]
   refine W.seq (W.region ?_);iterate 3 refine pE rfl ?_
   refine pE rfl (pu (dn (ev aa rfl) (y:=((j+1:Nat):Int)) (wrap64 (by omega))) rfl ?_);iterate 2 refine pE rfl ?_
   refine ax aa rfl rfl rfl rfl rfl rfl rfl rfl (WO.nil (qs (W.seq (W.region (C7 (aj rfl) a1 rfl rfl rfl rfl An xD (by rw[qW];simp only[maxLen];omega) rfl rfl ?_)))));refine pE rfl (WO.nil (qs (W.ret (aJ (aA (aJ (dV (aJ (cO (aM (hx)) ?_)))))))));refine b4.end aa [] trivial rfl rfl rfl rfl ?_ ?_;·exact⟨rfl,trivial⟩
   rfl
  have q2:ak (ah s) j≠34:=by intro e;rw[e] at M;simp at M
  refine W.seq (W.region ?_);iterate 3 refine pE rfl ?_
  refine WO.nil (qs (an rfl (fun N=>?_) (fun N=>?_)));·
   have I:=Z;rw[BZ (ig (n:=92) (by decide) (of_decide_eq_true N))] at I;have ai:=sE (l:=ah s) (i:=j+1) (by rw[aw];omega);refine W.seq (W.region ?_);iterate 3 refine pE rfl ?_
   refine pE rfl (pu (dn (ev aa rfl) (y:=((j+1:Nat):Int)) (wrap64 (by omega))) rfl ?_);iterate 2 refine pE rfl ?_
   refine ax aa rfl rfl rfl rfl rfl rfl rfl rfl (WO.nil (qs (W.region (pE rfl ?_))))
   cases hc50:dQ (ah s) (j+1) with
   | no b0 b2=>
    refine b7 [0] [] rfl rfl rfl rfl rfl ((tl s (j+1) (by omega) hs).e9 (aH hc50)) rfl rfl (by rfl) (fun st'=>?_);repeat' first | refine bW ?_ | refine fg ?_ | refine iU ?_
    refine cf (aH (by rw[←I,hc50]))
   | ok O i50=>
    refine aE [0] [] rfl rfl rfl rfl rfl ((tl s (j+1) (by omega) hs).ret (aM hc50)) rfl rfl (by rfl) (by rfl) rfl rfl rfl rfl ?_;rw[hc50] at I ai;have a7:j+1 < i50∧i50≤s.size:=by have:=ai;rw[←aw s];exact this
    have hW:=dY (u:=u) (s:=bytesOf acc) (m:=bytesOf [O]) (r:=bytesOf (acc++[O])) (c:=O.toNat) (E9 ..) rfl (eD _).2 (by rw[qW];omega);refine pE rfl (WO.nil (bz (qs (W.region (pE rfl (aE [1] [2] rfl rfl rfl rfl rfl hW rfl rfl (by rfl) (by rfl) rfl rfl rfl rfl ?_))))));refine WO.nil (bz (W.bU [0,1,6] ⟨(i50,acc++[O],true),?_⟩ ?_ rfl ?_ trivial ?_ trivial rfl));·
     obtain⟨k2,rfl⟩:∃ k2,J=k2+1:=⟨J - 1,by rw[aw] at ad;omega⟩;exact⟨by omega,by rw[List.length_append,List.length_singleton];omega,k2,by omega,I⟩
    ·dsimp only;omega
    ·repeat' first | exact trivial | refine⟨rfl,?_⟩
    repeat' first | exact trivial | refine⟨rfl,?_⟩
  have q3:ak (ah s) j≠92:=by intro e;rw[e] at N;simp at N
  have I:=Z;rw[zw q q2 q3] at I;have hW:=dY (u:=u) (s:=bytesOf acc) (m:=bytesOf [ak (ah s) j]) (r:=bytesOf (acc++[ak (ah s) j])) (c:=(ak (ah s) j).toNat) (E9 ..) rfl (eD _).2 (by rw[qW];omega);refine W.region ?_;iterate 3 refine pE rfl ?_
  refine pE rfl (pu (dn (ev aa rfl) (y:=((j+1:Nat):Int)) (wrap64 (by omega))) rfl ?_);iterate 2 refine pE rfl ?_
  refine ax aa rfl rfl rfl rfl rfl rfl rfl rfl (WO.nil (bz (qs (W.region (pE rfl (aE [1] [2] rfl rfl rfl rfl rfl hW rfl rfl (by rfl) (by rfl) rfl rfl rfl rfl ?_))))));refine WO.nil (bz (W.bU [0,1,5] ⟨(j+1,acc++[ak (ah s) j],true),?_⟩ ?_ rfl ?_ trivial ?_ trivial rfl));·
   obtain⟨k2,rfl⟩:∃ k2,J=k2+1:=⟨J - 1,by rw[aw] at ad;omega⟩;exact⟨by omega,by rw[List.length_append,List.length_singleton];omega,k2,by omega,I⟩
  ·dsimp only;omega
  ·repeat' first | exact trivial | refine⟨rfl,?_⟩
  repeat' first | exact trivial | refine⟨rfl,?_⟩
end Go.Proofs.YtpiaiiopakafhaaGreatDoor
namespace Go.Proofs.YtpiaiiopakafhaaGreatDoor
open Go.Ab Go.Tb
set_option maxRecDepth 10000
set_option maxHeartbeats 1000000
attribute [local irreducible] W WO Pu QS QB QL QF QV bu CH QE
theorem DQ (l:List UInt8) (k:Nat) (level:Int) (i0:Nat):cb l (k+1) level i0 =
 if ak l (ar l i0)=110 then (match b5 l lb (ar l i0) with | .no a w=>.no a w | .ok _ j=>.ok (.mk 1 0 (B #[]) [] []) j)
 else if ak l (ar l i0)=116 then (match b5 l je (ar l i0) with | .no a w=>.no a w | .ok _ j=>.ok (.mk 2 1 (B #[]) [] []) j)
 else if ak l (ar l i0)=102 then (match b5 l gK (ar l i0) with | .no a w=>.no a w | .ok _ j=>.ok (.mk 2 0 (B #[]) [] []) j)
 else if ak l (ar l i0)=34 then (match de l (ar l i0) with | .no a w=>.no a w | .ok t j=>.ok (.mk 4 0 (bytesOf t) [] []) j)
 else if ak l (ar l i0)=91∨ak l (ar l i0)=123 then
  if 16 < level then .no (ar l i0) 20
  else if ak l (ar l i0)=91 then eS l k level (ar l i0+1) else eT l k level (ar l i0+1)
 else dz l (ar l i0):=by rw[cb]<;>rfl
theorem mI {c d:UInt8} (h:decide ((c.toNat:Int)=(d.toNat:Int))=false):c≠d:=by rintro rfl;simp at h
theorem kj {c d:UInt8} (h:decide ((c.toNat:Int)=(d.toNat:Int))=true):c=d:=UInt8.toNat_inj.1 (by have:=of_decide_eq_true h;omega)
theorem yP (s:ByteArray) (k:Nat) (hs:s.size≤1000000000) (level:Int) (i0:Nat) (hi:i0≤s.size)
 (hA:∀ i,i0 < i→i≤s.size→level≤16→cF Tryz.prog 116 [.ptr 0 0,.d (.v (.int .i64 level))] [ek s i] 0 (fV 128 s (fun v:JV=>.ag v.c) (eS (ah s) k level i)))
 (hO:∀ i,i0 < i→i≤s.size→level≤16→cF Tryz.prog 117 [.ptr 0 0,.d (.v (.int .i64 level))] [ek s i] 0 (fV 128 s (fun v:JV=>.ag v.c) (eT (ah s) k level i))) :
 cF Tryz.prog 71 [.ptr 0 0,.d (.v (.int .i64 level))] [ek s i0] 0 (fV 128 s (fun v:JV=>.ag v.c) (cb (ah s) (k+1) level i0)):=by
 have hle:ar (ah s) i0≤s.size:=by have:=bR (l:=ah s) (i:=i0) (by rw[aw];exact hi);rwa [aw] at this
 have ai:=bP (ah s) i0;have I:=DQ (ah s) k level i0;refine cF.cZ aa (n:=63) (rs:=[.cell 4 46]) Tryz.func71 (by kernel_rfl) rfl Tryz.ntmps71 Tryz.results71 rfl (eX ..) fun C hC hG=>?_;refine W.seq (W.region (aL aa rfl rfl rfl (WO.nil (qs ?_))));iterate 2 refine W.seq ?_
 refine W.region (pE rfl (aE [0] [] rfl rfl rfl rfl rfl ((jt s i0 hi hs)) rfl rfl (by rfl) (by rfl) rfl rfl rfl rfl ?_));refine pE rfl (WO.nil (qs (W.block (W.seq (W.region ?_)))));iterate 3 refine pE rfl ?_
 refine WO.nil (qs (an rfl (fun Z=>?_) (fun Z=>?_)));·
  rw[if_pos (kj (d:=110) Z)] at I;refine W.seq (W.region (pE rfl ?_))
  cases hc12:b5 (ah s) lb (ar (ah s) i0) with
  | no a12 aj=>
   refine b7 [0] [] rfl rfl rfl rfl rfl ((iK s (B #[110,117,108,108]) (ar (ah s) i0) hs).e9 (aH hc12)) rfl rfl (by rfl) (fun st'=>?_);repeat' first | refine bW ?_ | refine fg ?_
   refine cf (aH (by rw[I,hc12]))
  | ok a1 i12=>
   refine aE [0] [] rfl rfl rfl rfl rfl ((iK s (B #[110,117,108,108]) (ar (ah s) i0) hs).ret (aM hc12)) rfl rfl (by rfl) (by rfl) rfl rfl rfl rfl ?_;refine WO.nil (qs (W.seq (W.region (pu (build aa rfl rfl rfl rfl) rfl ?_))));try refine gG 13 rfl rfl rfl ?_
   refine ax aa rfl rfl rfl rfl rfl rfl rfl rfl (WO.nil (qs (W.ret (aJ (aA (cO (aM ((by rw[I,hc12]))) ?_))))));refine b4.end aa [] trivial rfl rfl rfl rfl ?_ ?_;·exact⟨rfl,trivial⟩
   rfl
 rw[if_neg (mI (d:=110) Z)] at I;refine W.seq (W.region ?_);iterate 3 refine pE rfl ?_
 refine WO.nil (qs (an rfl (fun M=>?_) (fun M=>?_)));·
  rw[if_pos (kj (d:=116) M)] at I;refine W.seq (W.region (pE rfl ?_))
  cases hc18:b5 (ah s) je (ar (ah s) i0) with
  | no a6 a7=>
   refine b7 [0] [] rfl rfl rfl rfl rfl ((iK s (B #[116,114,117,101]) (ar (ah s) i0) hs).e9 (aH hc18)) rfl rfl (by rfl) (fun st'=>?_);repeat' first | refine bW ?_ | refine fg ?_
   refine cf (aH (by rw[I,hc18]))
  | ok a8 i18=>
   refine aE [0] [] rfl rfl rfl rfl rfl ((iK s (B #[116,114,117,101]) (ar (ah s) i0) hs).ret (aM hc18)) rfl rfl (by rfl) (by rfl) rfl rfl rfl rfl ?_;refine WO.nil (qs (W.seq (W.region (pu (build aa rfl rfl rfl rfl) rfl ?_))));try refine gG 19 rfl rfl rfl ?_
   refine ax aa rfl rfl rfl rfl rfl rfl rfl rfl (WO.nil (qs (W.ret (aJ (aA (cO (aM ((by rw[I,hc18]))) ?_))))));refine b4.end aa [] trivial rfl rfl rfl rfl ?_ ?_;·exact⟨rfl,trivial⟩
   rfl
 rw[if_neg (mI (d:=116) M)] at I;refine W.seq (W.region ?_);iterate 3 refine pE rfl ?_
 refine WO.nil (qs (an rfl (fun N=>?_) (fun N=>?_)));·
  rw[if_pos (kj (d:=102) N)] at I;refine W.seq (W.region (pE rfl ?_))
  cases hc24:b5 (ah s) gK (ar (ah s) i0) with
  | no a24 b0=>
   refine b7 [0] [] rfl rfl rfl rfl rfl ((iK s (B #[102,97,108,115,101]) (ar (ah s) i0) hs).e9 (aH hc24)) rfl rfl (by rfl) (fun st'=>?_);repeat' first | refine bW ?_ | refine fg ?_
   refine cf (aH (by rw[I,hc24]))
  | ok b2 i24=>
   refine aE [0] [] rfl rfl rfl rfl rfl ((iK s (B #[102,97,108,115,101]) (ar (ah s) i0) hs).ret (aM hc24)) rfl rfl (by rfl) (by rfl) rfl rfl rfl rfl ?_;refine WO.nil (qs (W.seq (W.region (pu (build aa rfl rfl rfl rfl) rfl ?_))));try refine gG 25 rfl rfl rfl ?_
   refine ax aa rfl rfl rfl rfl rfl rfl rfl rfl (WO.nil (qs (W.ret (aJ (aA (cO (aM ((by rw[I,hc24]))) ?_))))));refine b4.end aa [] trivial rfl rfl rfl rfl ?_ ?_;·exact⟨rfl,trivial⟩
   rfl
 rw[if_neg (mI (d:=102) N)] at I;refine W.seq (W.region ?_);iterate 3 refine pE rfl ?_
 refine WO.nil (qs (an rfl (fun O=>?_) (fun O=>?_)));·
  rw[if_pos (kj (d:=34) O)] at I;refine W.seq (W.region (pE rfl ?_))
  cases hc30:de (ah s) (ar (ah s) i0) with
  | no b3 ch=>
   refine b7 [0] [] rfl rfl rfl rfl rfl ((mV s (ar (ah s) i0) hle hs).e9 (aH hc30)) rfl rfl (by rfl) (fun st'=>?_);repeat' first | refine bW ?_ | refine fg ?_
   refine cf (aH (by rw[I,hc30]))
  | ok cj i30=>
   refine aE [0] [] rfl rfl rfl rfl rfl ((mV s (ar (ah s) i0) hle hs).ret (aM hc30)) rfl rfl (by rfl) (by rfl) rfl rfl rfl rfl ?_;refine pu (build aa rfl rfl rfl rfl) rfl ?_;try refine gG 31 rfl rfl rfl ?_
   refine ax aa rfl rfl rfl rfl rfl rfl rfl rfl (WO.nil (qs (W.ret (aJ (aA (cO (aM ((by rw[I,hc30]))) ?_))))));refine b4.end aa [] trivial rfl rfl rfl rfl ?_ ?_;·exact⟨rfl,trivial⟩
   rfl
 rw[if_neg (mI (d:=34) O)] at I;refine W.seq ?_;apply aO;(case hb=>rfl);·repeat' first | refine bt rfl rfl rfl | refine aG rfl rfl ?_ | refine aD rfl rfl rfl rfl ?_ | refine pE rfl ?_ | refine WO.nil ?_ | (apply bj;(case hj=>rfl);(case hl=>rfl))
 refine qs (an rfl (fun J=>?_) (fun J=>?_));·
  have q:ak (ah s) (ar (ah s) i0)=91∨ak (ah s) (ar (ah s) i0)=123:=by
   by_cases e:ak (ah s) (ar (ah s) i0)=91;·exact .inl e
   refine .inr (ig (n:=123) (by decide) ?_);have e2:¬ ((ak (ah s) (ar (ah s) i0)).toNat:Int)=91:=fun h=>e (ig (n:=91) (by decide) h);revert J;simp[e2]
  rw[if_pos q] at I;have cl:ar (ah s) i0 < s.size:=by have:=b6 (l:=ah s) (i:=ar (ah s) i0) (by rcases q with q | q <;> rw[q] <;> decide);rwa [aw] at this
  iterate 2 refine W.seq ?_
  refine W.region ?_;iterate 2 refine pE rfl ?_
  refine WO.nil (qs (an rfl (fun U=>?_) (fun U=>?_)));·
   rw[if_pos (of_decide_eq_true U)] at I;refine W.region ?_;iterate 3 refine pE rfl ?_
   refine pE rfl (b7 [] [] rfl rfl rfl rfl rfl (cI (ar (ah s) i0) 20) rfl rfl (by rfl) (fun st'=>?_));repeat' first | refine bW ?_ | refine fg ?_
   exact cf (aH I)
  have ad:¬ 16 < level:=of_decide_eq_false U;rw[if_neg ad] at I;refine W.skip (qs (W.seq (W.region ?_)));iterate 3 refine pE rfl ?_
  refine pE rfl (pu (dn (ev aa rfl) (y:=((ar (ah s) i0+1:Nat):Int)) (wrap64 (by omega))) rfl ?_);iterate 2 refine pE rfl ?_
  refine ax aa rfl rfl rfl rfl rfl rfl rfl rfl (WO.nil (qs ?_));iterate 2 refine W.seq ?_
  refine W.region ?_;iterate 2 refine pE rfl ?_
  refine WO.nil (qs (an rfl (fun X=>?_) (fun X=>?_)));·
   rw[if_pos (kj (d:=91) X)] at I;refine W.seq (W.region ?_);iterate 2 refine pE rfl ?_
   cases hc57:eS (ah s) k level (ar (ah s) i0+1) with
   | no cq cx=>
    refine b7 [0] [] rfl rfl rfl rfl rfl ((hA (ar (ah s) i0+1) (by omega) (by omega) (by omega)).e9 (aH hc57)) rfl rfl (by rfl) (fun st'=>?_);repeat' first | refine bW ?_ | refine fg ?_
    refine cf (aH (by rw[I,hc57]))
   | ok cy i57=>
    refine aE [0] [] rfl rfl rfl rfl rfl ((hA (ar (ah s) i0+1) (by omega) (by omega) (by omega)).ret (aM hc57)) rfl rfl (by rfl) (by rfl) rfl rfl rfl rfl ?_;refine ax aa rfl rfl rfl rfl rfl rfl rfl rfl (WO.nil (qs (W.ret (aA (aJ (aA (cO (aM ((by rw[I,hc57]))) ?_)))))));refine b4.end aa [] trivial rfl rfl rfl rfl ?_ ?_;·exact⟨rfl,trivial⟩
    rfl
  rw[if_neg (mI (d:=91) X)] at I;refine W.skip (qs (W.seq (W.region ?_)));iterate 2 refine pE rfl ?_
  cases hc60:eT (ah s) k level (ar (ah s) i0+1) with
  | no c1 c6=>
   refine b7 [0] [] rfl rfl rfl rfl rfl ((hO (ar (ah s) i0+1) (by omega) (by omega) (by omega)).e9 (aH hc60)) rfl rfl (by rfl) (fun st'=>?_);repeat' first | refine bW ?_ | refine fg ?_
   refine cf (aH (by rw[I,hc60]))
  | ok c7 i60=>
   refine aE [0] [] rfl rfl rfl rfl rfl ((hO (ar (ah s) i0+1) (by omega) (by omega) (by omega)).ret (aM hc60)) rfl rfl (by rfl) (by rfl) rfl rfl rfl rfl ?_;refine ax aa rfl rfl rfl rfl rfl rfl rfl rfl (WO.nil (qs (W.ret (aJ (aA (cO (aM ((by rw[I,hc60]))) ?_))))));refine b4.end aa [] trivial rfl rfl rfl rfl ?_ ?_;·exact⟨rfl,trivial⟩
   rfl
 have q:¬ (ak (ah s) (ar (ah s) i0)=91∨ak (ah s) (ar (ah s) i0)=123):=by rintro(e | e) <;> rw[e] at J <;> simp at J
 rw[if_neg q] at I;refine W.skip (bz (qs (W.seq (W.region (pE rfl ?_)))))
 cases hc62:dz (ah s) (ar (ah s) i0) with
 | no df di=>
  refine b7 [0] [] rfl rfl rfl rfl rfl ((rK s (ar (ah s) i0) hle hs).e9 (aH hc62)) rfl rfl (by rfl) (fun st'=>?_);repeat' refine bW ?_
  refine cf (aH (by rw[I,hc62]))
 | ok dj i62=>
  refine aE [0] [] rfl rfl rfl rfl rfl ((rK s (ar (ah s) i0) hle hs).ret (aM hc62)) rfl rfl (by rfl) (by rfl) rfl rfl rfl rfl ?_;refine ax aa rfl rfl rfl rfl rfl rfl rfl rfl (WO.nil (qs (W.ret (cO (aM ((by rw[I,hc62]))) ?_))));refine b4.end aa [] trivial rfl rfl rfl rfl ?_ ?_;·exact⟨rfl,trivial⟩
  rfl
end Go.Proofs.YtpiaiiopakafhaaGreatDoor
namespace Go.Proofs.YtpiaiiopakafhaaGreatDoor
open Go.Ab Go.Tb
set_option maxRecDepth 10000
set_option maxHeartbeats 1000000
attribute [local irreducible] W WO Pu QS QB QL QF QV bu CH QE
theorem vC {l:List UInt8} {c:UInt8} {i:Nat} (h:i≤l.length):Bd l i (gg l c i):=by
 have J:=bP l i;have hle:=bR h;unfold gg;split;·
  rename_i q;exact⟨by omega,b6 (by rw[q];decide)⟩
 have I:=gD (c:=c) hle
 cases M:bw l c (ar l i) with
 | no a w=>rw[M] at I;exact⟨Nat.le_trans J I.1,I.2⟩
 | ok u j=>rw[M] at I;exact⟨Nat.lt_of_le_of_lt J I.1,I.2⟩
theorem pg {l:List UInt8} {c:UInt8} {i a:Nat} {w:Int} (h:gg l c i=.no a w):¬ ak l (ar l i)=44∧bw l c (ar l i)=.no a w:=by
 unfold gg at h;split at h;·cases h
 rename_i q;refine⟨q,?_⟩
 cases I:bw l c (ar l i) with
 | no a' w'=>rw[I] at h;injection h with h1 h2;rw[h1,h2]
 | ok u j=>rw[I] at h;cases h
theorem lD {l:List UInt8} {c:UInt8} {i j:Nat} (h:gg l c i=.ok true j):ak l (ar l i)=44∧j=ar l i+1:=by
 unfold gg at h;split at h;·rename_i q;injection h with _ h2;exact⟨q,h2.symm⟩
 cases I:bw l c (ar l i) with
 | no a' w'=>rw[I] at h;cases h
 | ok u j=>rw[I] at h;cases h
theorem km {l:List UInt8} {c:UInt8} {i j:Nat} (h:gg l c i=.ok false j):¬ ak l (ar l i)=44∧bw l c (ar l i)=.ok () j:=by
 unfold gg at h;split at h;·cases h
 rename_i q;refine⟨q,?_⟩
 cases I:bw l c (ar l i) with
 | no a' w'=>rw[I] at h;cases h
 | ok u J=>rw[I] at h;injection h with _ h2;rw[h2]
theorem Cw (acc:List JV):(JV.mk 5 0 (B #[]) [] acc).c=[ci 5,ci 0,cs (B #[]),.sl [],.sl (acc.map JV.c)]:=by simp[JV.c,JV.mr,JV.op,JV.n,JV.s,JV.keys,JV.kids]
def yJ (s:ByteArray) (K:Nat):Prop:=∀ k,k < K→∀ (level:Int) (i:Nat),1≤level→level≤17→i≤s.size→3*(s.size - i)+1≤k →
 cF Tryz.prog 71 [.ptr 0 0,.d (.v (.int .i64 level))] [ek s i] 0 (fV 128 s (fun v:JV=>.ag v.c) (cb (ah s) k level i))
theorem x9 (s:ByteArray) (K:Nat) (hs:s.size≤1000000000) (hV:yJ s K) (level:Int) (i0:Nat) (hi:i0≤s.size) (a8:1≤level) (b0:level≤16) (hK:3*(s.size - i0)+3≤K) :
 cF Tryz.prog 116 [.ptr 0 0,.d (.v (.int .i64 level))] [ek s i0] 0 (fV 128 s (fun v:JV=>.ag v.c) (eS (ah s) K level i0)):=by
 have hle:ar (ah s) i0≤s.size:=by have:=bR (l:=ah s) (i:=i0) (by rw[aw];exact hi);rwa [aw] at this
 have b2:=bP (ah s) i0;obtain⟨O,rfl⟩:∃ O,K=O+1:=⟨K - 1,by omega⟩;have U:=sB (ah s) O level i0;generalize hA:eS (ah s) (O+1) level i0=A at U ⊢;clear hA;refine cF.cZ aa (n:=32) (rs:=[.cell 4 46]) Tryz.func116 (by kernel_rfl) rfl Tryz.ntmps116 Tryz.results116 rfl (eX ..) fun C hC hG=>?_;refine W.seq (W.region (aL aa rfl rfl rfl (WO.nil (qs (W.seq (W.region (pu (build aa rfl rfl rfl rfl) rfl ?_)))))));refine aL aa rfl rfl rfl (ax aa rfl rfl rfl rfl rfl rfl rfl rfl (WO.nil (qs ?_)));iterate 2 refine W.seq ?_
 refine W.region (pE rfl (aE [0] [] rfl rfl rfl rfl rfl ((jt s i0 hi hs)) rfl rfl (by rfl) (by rfl) rfl rfl rfl rfl ?_));refine pE rfl (WO.nil (qs (an rfl (fun N=>?_) (fun N=>?_))));·
  rw[if_pos (kj (d:=93) N)] at U;have b3:ar (ah s) i0 < s.size:=by have:=b6 (l:=ah s) (i:=ar (ah s) i0) (by rw[kj (d:=93) N];decide);rwa [aw] at this
  refine W.seq (W.region ?_);iterate 3 refine pE rfl ?_
  refine pE rfl (pu (dn (ev aa rfl) (y:=((ar (ah s) i0+1:Nat):Int)) (wrap64 (by omega))) rfl ?_);iterate 2 refine pE rfl ?_
  refine ax aa rfl rfl rfl rfl rfl rfl rfl rfl (WO.nil (qs (W.seq (W.region (pE rfl (ax aa rfl rfl rfl rfl rfl rfl rfl rfl (WO.nil (qs ?_))))))));try refine gr 1 3 rfl rfl rfl ?_
  try refine gr 1 4 rfl rfl rfl ?_
  refine W.ret (aA (cO (aM (U)) ?_));refine b4.end aa [] trivial rfl rfl rfl rfl ?_ ?_;·exact⟨rfl,trivial⟩
  rfl
 rw[if_neg (mI (d:=93) N)] at U;refine W.skip (qs ?_);iterate 2 refine W.seq ?_
 refine W.region (pE rfl (WO.nil (qs (W.block (eg 2 4 rfl rfl rfl ?_)))))
 refine W.bF (ι:={x:Nat×Nat×List JV×Bool // match x with | (k,j,acc,on)=>k≤O∧(on=true→j≤s.size∧acc.length≤j∧3*(s.size - j)+2≤k∧eb (ah s) k level j acc=A)∧(on=false→A=.ok (.mk 5 0 (B #[]) [] acc) j)})
  (fun x=>match x.1 with | (k,j,acc,on)=>[(0,.ptr 0 0),(1,.d (.v (.int .i64 level))),(4,.ptr 1 0),(5,.ptr 2 0),(6,.d (.v (.bool on)))]) []
  (fun x=>match x.1 with | (k,j,acc,on)=>[(0,ek s j),(2,[.d (ci 5),.d (ci 0),.d (cs (B #[])),.d (.v (.slice none 0 0)),.own 3 (acc.map JV.c)])]) [(1,_)] [3] 4 (fun x=>match x.1 with | (k,j,acc,on)=>k)
  [0,1,2,4] ⟨(O,ar (ah s) i0,[],true),?_⟩ rfl ?_ trivial ?_ ⟨rfl,rfl,trivial⟩ rfl ?_
 ·exact⟨Nat.le_refl _,fun _=>⟨hle,Nat.zero_le _,by omega,U.symm⟩,fun h=>by cases h⟩
 ·repeat' first | exact trivial | refine⟨rfl,?_⟩
 ·repeat' first | exact trivial | refine⟨rfl,?_⟩
 rintro⟨⟨k,j,acc,on⟩,ch,hT,hF⟩;show W _ _ _ _ _ ⟨[(0,.ptr 0 0),(1,.d (.v (.int .i64 level))),(4,.ptr 1 0),(5,.ptr 2 0),(6,.d (.v (.bool on)))],[(0,ek s j),(2,[.d (ci 5),.d (ci 0),.d (cs (B #[])),.d (.v (.slice none 0 0)),.own 3 (acc.map JV.c)]),(1,_)],[3],4⟩;iterate 2 refine W.seq ?_
 refine W.region (pE rfl (WO.nil (qs (an rfl (fun X=>?_) (fun X=>?_)))));·
  obtain⟨hj,I,hk,J⟩:=hT X;obtain⟨M,rfl⟩:∃ M,k=M+1:=⟨k - 1,by omega⟩;rw[qi] at J;have hb:=(la (ah s) M).v (level+1) j (by rw[aw];exact hj);refine W.skip (qs (W.seq (W.block ?_)))
  cases hc27:cb (ah s) M (level+1) j with
  | no aj a1=>
   refine' W.A0 aa (gu 128 aj a1) [5,6] 7 (by kernel_rfl) (by kernel_rfl) rfl rfl (fun st=>?hQ_1) ?hL_1;case hQ_1=>
    repeat' first | refine bW ?_ | refine fg ?_ | refine iU ?_
    refine cf (aH (by rw[←J,hc27]))
   case' hL_1=>skip
   refine' aQ (ev aa rfl) ?p_2 rfl rfl rfl (by kernel_rfl) rfl ?h_2;case' h_2=>skip
   refine' aQ (ev aa rfl) ?p_3 rfl rfl rfl (by kernel_rfl) rfl ?h_3;case' h_3=>skip
   refine' aQ (ev aa rfl) ?p_4 rfl rfl rfl (by kernel_rfl) rfl ?h_4;case' h_4=>skip
   refine' aQ (ev aa rfl) ?p_5 rfl rfl rfl (by kernel_rfl) rfl ?h_5;case' h_5=>skip
   refine' aQ (dn (ev aa rfl) (y:=level+1) (wrap64 (by omega))) ?p_6 rfl rfl rfl (by kernel_rfl) rfl ?h_6;case' h_6=>skip
   refine' FF ?x_7 rfl rfl rfl (by kernel_rfl) rfl ?h_7;case x_7=>
    intro b hb g;cases b;·exact(ab hb (by kernel_rfl)).elim
    exact b7 [0] [] rfl rfl rfl rfl rfl ((hV M (by omega) (level+1) j (by omega) (by omega) hj (by omega)).e9 (aH hc27)) rfl rfl (by rfl) (fun st'=>⟨_,rfl,rfl⟩)
   case' h_7=>skip
   refine DC 27 rfl rfl rfl rfl (by kernel_rfl) rfl ?_;case p_2=>refine⟨fun I=>(ab I (by kernel_rfl)).elim,?_,fun I=>(ab I (by kernel_rfl)).elim,?_,fun I=>(ab I (by kernel_rfl)).elim,?_⟩ <;> intro I <;> first | exact⟨ev aa rfl,fun h=>nomatch h⟩ | exact(ab I (by kernel_rfl)).elim
   case p_3=>refine⟨fun I=>(ab I (by kernel_rfl)).elim,?_,fun I=>(ab I (by kernel_rfl)).elim,?_,fun I=>(ab I (by kernel_rfl)).elim,?_⟩ <;> intro I <;> first | exact⟨ev aa rfl,fun h=>nomatch h⟩ | exact⟨dD aa rfl rfl rfl rfl,fun h=>nomatch h⟩ | exact⟨dE aa rfl rfl rfl rfl rfl,fun h=>nomatch h⟩ | exact(ab I (by kernel_rfl)).elim
   case p_4=>refine⟨fun I=>(ab I (by kernel_rfl)).elim,?_,fun I=>(ab I (by kernel_rfl)).elim,?_,fun I=>(ab I (by kernel_rfl)).elim,?_⟩ <;> intro I <;> first | exact⟨ev aa rfl,fun h=>nomatch h⟩ | exact(ab I (by kernel_rfl)).elim
   case p_5=>refine⟨fun I=>(ab I (by kernel_rfl)).elim,?_,fun I=>(ab I (by kernel_rfl)).elim,?_,fun I=>(ab I (by kernel_rfl)).elim,?_⟩ <;> intro I <;> first | exact⟨ev aa rfl,fun h=>nomatch h⟩ | exact(ab I (by kernel_rfl)).elim
   case p_6=>refine⟨fun I=>(ab I (by kernel_rfl)).elim,?_,fun I=>(ab I (by kernel_rfl)).elim,?_,fun I=>(ab I (by kernel_rfl)).elim,?_⟩ <;> intro I <;> first | exact⟨dn (ev aa rfl) (y:=level+1) (wrap64 (by omega)),fun h=>nomatch h⟩ | exact(ab I (by kernel_rfl)).elim
   refine CD.nil ?_ rfl;exact Ba 27 rfl
  | ok ai i27=>
   rw[hc27] at J hb;dsimp only at J;have cj:j < i27:=hb.1;have Z:i27≤s.size:=by have:=hb.2;rwa [aw] at this
   have ad:=vC (l:=ah s) (c:=93) (i:=i27) (by rw[aw];exact Z);apply W.so aa 7 5;(case hB=>kernel_rfl);(case h1=>rfl);(case h2=>rfl);refine' jl ?p1_9 (ev aa rfl) rfl rfl rfl rfl rfl ?h_9;case' h_9=>skip
   refine' jl ?p1_10 (ev aa rfl) rfl rfl rfl rfl rfl ?h_10;case' h_10=>skip
   refine' po (ev aa rfl) rfl rfl rfl rfl rfl ?h_11;case' h_11=>skip
   refine' jl ?p1_12 (ev aa rfl) rfl rfl rfl rfl rfl ?h_12;case' h_12=>skip
   refine' po (dn (ev aa rfl) (y:=level+1) (wrap64 (by omega))) rfl rfl rfl rfl rfl ?h_13;case' h_13=>skip
   refine' DM (fun g=>?e_14) rfl rfl rfl ?h_14;case e_14=>refine aE [0] [] rfl rfl rfl rfl rfl (((hV M (by omega) (level+1) j (by omega) (by omega) hj (by omega)).ret (aM hc27))) rfl rfl (by rfl) (by rfl) rfl rfl rfl rfl ?_;refine WO.nil ?_;exact⟨rfl,rfl⟩
   case' h_14=>skip
   case p1_9=>exact(ev aa rfl)
   case p1_10=>exact(ev aa rfl)
   case p1_12=>exact(ev aa rfl)
   refine Fa (aZ aa rfl rfl rfl rfl rfl rfl rfl rfl rfl) rfl rfl rfl rfl rfl ?_;refine CC.nil ?_;refine eu (fn:=JV.c) (a:=ai) aa rfl rfl rfl rfl rfl rfl rfl rfl rfl rfl (fun _=>rfl) (by show(acc.length+1)*80≤_;omega) ?_;refine pE rfl (ax aa rfl rfl rfl rfl rfl rfl rfl rfl (WO.nil (bz (qs (W.region (pE rfl ?_))))))
   cases hc21:gg (ah s) 93 i27 with
   | no a21 cl=>
    refine b7 [0] [] rfl rfl rfl rfl rfl ((oW s 93 i27 Z hs).e9 (aH hc21)) rfl rfl (by rfl) (fun st'=>?_);repeat' first | refine bW ?_ | refine fg ?_ | refine iU ?_
    refine cf (aH (by rw[←J,if_neg (pg hc21).1,(pg hc21).2]))
   | ok a6 i21=>
    refine aE [0] [] rfl rfl rfl rfl rfl ((oW s 93 i27 Z hs).ret (aM hc21)) rfl rfl (by rfl) (by rfl) rfl rfl rfl rfl ?_;rw[hc21] at ad;have cq:i27 < i21:=ad.1;have a7:i21≤s.size:=by have:=ad.2;rwa [aw] at this
    refine pE rfl (WO.nil (W.bU [0,1,2,5] ⟨(M,i21,acc++[ai],a6),?_⟩ ?_ rfl ?_ trivial ?_ ⟨rfl,rfl,trivial⟩ rfl));·
     refine⟨by omega,fun h=>?_,fun h=>?_⟩;·
      subst h;rw[if_pos (lD hc21).1,←(lD hc21).2] at J;exact⟨a7,by rw[List.length_append,List.length_singleton];omega,by omega,J⟩
     subst h;rw[if_neg (km hc21).1,(km hc21).2] at J;exact J.symm
    ·dsimp only;omega
    ·repeat' first | exact trivial | refine⟨rfl,?_⟩
    repeat' first | exact trivial | refine⟨rfl,?_⟩
 have hx:=hF X;refine W.exit (bb (be (ba (qs (W.seq (W.region (pE rfl (ax aa rfl rfl rfl rfl rfl rfl rfl rfl (WO.nil (qs ?_))))))))));try refine gr 1 3 rfl rfl rfl ?_
 try refine gr 1 4 rfl rfl rfl ?_
 refine W.ret (cO (aM (hx)) ?_);refine b4.end aa [] trivial rfl rfl rfl rfl ?_ ?_;·exact⟨rfl,trivial⟩
 rw[Cw];rfl
end Go.Proofs.YtpiaiiopakafhaaGreatDoor
namespace Go.Proofs.YtpiaiiopakafhaaGreatDoor
open Go.Ab Go.Tb
set_option maxRecDepth 10000
set_option maxHeartbeats 1000000
attribute [local irreducible] W WO Pu QS QB QL QF QV bu CH QE
theorem Du (keys:List ByteArray) (acc:List JV):(JV.mk 6 0 (B #[]) keys acc).c=[ci 6,ci 0,cs (B #[]),.sl (keys.map sc),.sl (acc.map JV.c)]:=by simp[JV.c,JV.mr,JV.op,JV.n,JV.s,JV.keys,JV.kids]
theorem wB (s:ByteArray) (K:Nat) (hs:s.size≤1000000000) (hV:yJ s K) (level:Int) (i0:Nat) (hi:i0≤s.size) (cy:1≤level) (c1:level≤16) (hK:3*(s.size - i0)+3≤K) :
 cF Tryz.prog 117 [.ptr 0 0,.d (.v (.int .i64 level))] [ek s i0] 0 (fV 128 s (fun v:JV=>.ag v.c) (eT (ah s) K level i0)):=by
 have hle:ar (ah s) i0≤s.size:=by have:=bR (l:=ah s) (i:=i0) (by rw[aw];exact hi);rwa [aw] at this
 have c6:=bP (ah s) i0;obtain⟨Z,rfl⟩:∃ Z,K=Z+1:=⟨K - 1,by omega⟩;have hv:=sr (ah s) Z level i0;generalize hA:eT (ah s) (Z+1) level i0=A at hv ⊢;clear hA;refine cF.cZ aa (n:=61) (rs:=[.cell 4 46]) Tryz.func117 (by kernel_rfl) rfl Tryz.ntmps117 Tryz.results117 rfl (eX ..) fun C hC hG=>?_;refine W.seq (W.region (aL aa rfl rfl rfl (WO.nil (qs (W.seq (W.region (pu (build aa rfl rfl rfl rfl) rfl ?_)))))));refine aL aa rfl rfl rfl (ax aa rfl rfl rfl rfl rfl rfl rfl rfl (WO.nil (qs ?_)));iterate 2 refine W.seq ?_
 refine W.region (pE rfl (aE [0] [] rfl rfl rfl rfl rfl ((jt s i0 hi hs)) rfl rfl (by rfl) (by rfl) rfl rfl rfl rfl ?_));refine pE rfl (WO.nil (qs (an rfl (fun X=>?_) (fun X=>?_))));·
  rw[if_pos (kj (d:=125) X)] at hv;have c7:ar (ah s) i0 < s.size:=by have:=b6 (l:=ah s) (i:=ar (ah s) i0) (by rw[kj (d:=125) X];decide);rwa [aw] at this
  refine W.seq (W.region ?_);iterate 3 refine pE rfl ?_
  refine pE rfl (pu (dn (ev aa rfl) (y:=((ar (ah s) i0+1:Nat):Int)) (wrap64 (by omega))) rfl ?_);iterate 2 refine pE rfl ?_
  refine ax aa rfl rfl rfl rfl rfl rfl rfl rfl (WO.nil (qs (W.seq (W.region (pE rfl (ax aa rfl rfl rfl rfl rfl rfl rfl rfl (WO.nil (qs ?_))))))));try refine gr 1 3 rfl rfl rfl ?_
  try refine gr 1 4 rfl rfl rfl ?_
  refine W.ret (aA (cO (aM (hv)) ?_));refine b4.end aa [] trivial rfl rfl rfl rfl ?_ ?_;·exact⟨rfl,trivial⟩
  rfl
 rw[if_neg (mI (d:=125) X)] at hv;refine W.skip (qs (W.seq (W.region (mkMap rfl ?_))));refine pE rfl (WO.nil (qs ?_));iterate 2 refine W.seq ?_
 refine W.region (pE rfl (WO.nil (qs (W.block (eg 2 3 rfl rfl rfl ?_)))));refine eg 2 4 rfl rfl rfl ?_
 refine W.bF (ι:={x:Nat×Nat×List ByteArray×List JV×Bool // match x with | (k,j,keys,acc,on)=>k≤Z∧keys.Nodup∧(on=true→j≤s.size∧keys.length≤j∧acc.length≤j∧3*(s.size - j)+2≤k∧dZ (ah s) k level j keys acc=A)∧(on=false→A=.ok (.mk 6 0 (B #[]) keys acc) j)})
  (fun x=>match x.1 with | (k,j,keys,acc,on)=>[(0,.ptr 0 0),(1,.d (.v (.int .i64 level))),(4,.ptr 1 0),(5,.ptr 2 0),(6,.mp 3 (ee sk bv (fc keys))),(7,.d (.v (.bool on)))]) []
  (fun x=>match x.1 with | (k,j,keys,acc,on)=>[(0,ek s j),(2,[.d (ci 6),.d (ci 0),.d (cs (B #[])),.own 4 (keys.map sc),.own 5 (acc.map JV.c)])]) [(1,_)] [5,4,3] 6 (fun x=>match x.1 with | (k,j,keys,acc,on)=>k)
  [0,1,2,4,5,6] ⟨(Z,ar (ah s) i0,[],[],true),?_⟩ rfl ?_ trivial ?_ ⟨rfl,rfl,trivial⟩ rfl ?_
 ·exact⟨Nat.le_refl _,List.nodup_nil,fun _=>⟨hle,Nat.zero_le _,Nat.zero_le _,by omega,hv.symm⟩,fun h=>by cases h⟩
 ·repeat' first | exact trivial | refine⟨rfl,?_⟩
 ·repeat' first | exact trivial | refine⟨rfl,?_⟩
 rintro⟨⟨k,j,keys,acc,on⟩,df,hn,hT,hF⟩;show W _ _ _ _ _ ⟨[(0,.ptr 0 0),(1,.d (.v (.int .i64 level))),(4,.ptr 1 0),(5,.ptr 2 0),(6,.mp 3 (ee sk bv (fc keys))),(7,.d (.v (.bool on)))],[(0,ek s j),(2,[.d (ci 6),.d (ci 0),.d (cs (B #[])),.own 4 (keys.map sc),.own 5 (acc.map JV.c)]),(1,_)],[5,4,3],6⟩;iterate 2 refine W.seq ?_
 refine W.region (pE rfl (WO.nil (qs (an rfl (fun ad=>?_) (fun ad=>?_)))));·
  obtain⟨hj,di,I,hk,J⟩:=hT ad;obtain⟨O,rfl⟩:∃ O,k=O+1:=⟨k - 1,by omega⟩;rw[qB] at J;have U:ar (ah s) j≤s.size:=by have:=bR (l:=ah s) (i:=j) (by rw[aw];exact hj);rwa [aw] at this
  have cl:=bP (ah s) j;have ai:=kS (l:=ah s) (i:=ar (ah s) j) (by rw[aw];exact U);refine W.skip (qs (W.seq (W.block (W.seq (W.region (pE rfl (aE [0] [] rfl rfl rfl rfl rfl ((jt s j hj hs)) rfl rfl (by rfl) (by rfl) rfl rfl rfl rfl ?_)))))));refine WO.nil (qs (W.seq (W.region ?_)));iterate 3 refine pE rfl ?_
  refine pE rfl (pE rfl (WO.nil (qs (W.seq (W.region (pE rfl ?_))))))
  cases hc33:de (ah s) (ar (ah s) j) with
  | no dj dt=>
   refine b7 [0] [] rfl rfl rfl rfl rfl ((mV s (ar (ah s) j) U hs).e9 (aH hc33)) rfl rfl (by rfl) (fun st'=>?_);repeat' first | refine bW ?_ | refine fg ?_ | refine iU ?_
   refine cf (aH (by rw[←J,hc33]))
  | ok M i33=>
   refine aE [0] [] rfl rfl rfl rfl rfl ((mV s (ar (ah s) j) U hs).ret (aM hc33)) rfl rfl (by rfl) (by rfl) rfl rfl rfl rfl ?_;rw[hc33] at J ai;dsimp only at J;have dx:ar (ah s) j < i33:=ai.1;have a7:i33≤s.size:=by have:=ai.2;rwa [aw] at this
   have cq:ar (ah s) i33≤s.size:=by have:=bR (l:=ah s) (i:=i33) (by rw[aw];exact a7);rwa [aw] at this
   have cx:=bP (ah s) i33;refine pE rfl (WO.nil (qs ?_));iterate 2 refine W.seq ?_
   refine W.region ?_;iterate 2 refine pE rfl ?_
   refine pu (kF (kf:=sk) (vf:=bv) (l:=fc keys) (a:=bytesOf M) (z:=false) (zx:=.bool false) aa rfl rfl rfl rfl rfl (qH (aa.gQ rfl rfl)) rfl rfl rfl (fun w pv=>.v _ rfl) (by rw[iO];exact hn) (congrArg bv (tz hn (bytesOf M)))) rfl ?_;refine WO.nil (qs (an rfl (fun N=>?_) (fun N=>?_)));·
    rw[if_pos N] at J;refine W.region (pE rfl (b7 [] [] rfl rfl rfl rfl rfl (cI (ar (ah s) j) 4) rfl rfl (by rfl) (fun st'=>?_)));repeat' first | refine bW ?_ | refine fg ?_ | refine iU ?_
    exact cf (aH J.symm)
   rw[if_neg (by rw[N];decide)] at J;have b0:=rk hn N;refine W.skip (qs (W.seq (W.region ?_)));iterate 2 refine pE rfl ?_
   refine rl (kf:=sk) (vf:=bv) (l:=fc keys) (a:=bytesOf M) (y:=true) aa 6 rfl rfl rfl rfl rfl rfl rfl (qH (aa.gQ rfl rfl)) rfl rfl (by rw[iO];exact hn) (congrArg (ee sk bv) (sM N)) rfl ?_;refine WO.nil (qs (W.seq (W.region (pE rfl (aE [0] [] rfl rfl rfl rfl rfl ((jt s i33 a7 hs)) rfl rfl (by rfl) (by rfl) rfl rfl rfl rfl ?_)))));refine WO.nil (qs (W.seq (W.region (pE rfl ?_))))
   cases hc44:bw (ah s) 58 (ar (ah s) i33) with
   | no ed ei=>
    refine b7 [0] [] rfl rfl rfl rfl rfl ((iI s 58 (ar (ah s) i33) hs).e9 (aH hc44)) rfl rfl (by rfl) (fun st'=>?_);repeat' first | refine bW ?_ | refine fg ?_ | refine iU ?_
    refine cf (aH (by rw[←J,hc44]))
   | ok ej i44=>
    refine aE [0] [] rfl rfl rfl rfl rfl ((iI s 58 (ar (ah s) i33) hs).ret (aM hc44)) rfl rfl (by rfl) (by rfl) rfl rfl rfl rfl ?_;rw[hc44] at J;dsimp only at J;obtain⟨en,a6⟩:=kM hc44;rw[aw] at a6;have hb:=(la (ah s) O).v (level+1) i44 (by rw[aw];omega);refine WO.nil (qs ?_)
    cases hc55:cb (ah s) O (level+1) i44 with
    | no b2 b3=>
     refine' W.BQ aa (gu 128 b2 b3) [11,8,5] 12 _ [4,10,11,12] 14 (by kernel_rfl) (by kernel_rfl) rfl rfl (fun st=>?hQ_1) ?hL_1;case hQ_1=>
      repeat' first | refine bW ?_ | refine fg ?_ | refine iU ?_
      refine cf (aH (by rw[←J,hc55]))
     case' hL_1=>skip
     refine' aQ (ev aa rfl) ?p_2 rfl rfl rfl (by kernel_rfl) rfl ?h_2;case' h_2=>skip
     refine' aQ (ev aa rfl) ?p_3 rfl rfl rfl (by kernel_rfl) rfl ?h_3;case' h_3=>skip
     refine' aQ (ev aa rfl) ?p_4 rfl rfl rfl (by kernel_rfl) rfl ?h_4;case' h_4=>skip
     refine' aQ (aZ aa rfl rfl rfl rfl rfl rfl rfl rfl rfl) ?p_5 rfl rfl rfl (by kernel_rfl) rfl ?h_5;case' h_5=>skip
     refine' v7 ?x_6 rfl rfl rfl (by kernel_rfl) (fun h=>(ab h (by kernel_rfl)).elim) rfl ?h_6;case x_6=>
      intro b hb g;cases b;·exact(ab hb (by kernel_rfl)).elim
      refine eu (fn:=sc) (a:=bytesOf M) aa rfl rfl rfl rfl rfl rfl rfl rfl rfl rfl (fun _=>rfl) (by show(keys.length+1)*16≤_;omega) ?_;refine WO.nil ?_;refine' rZ rfl ?_ ?_ ?_ ?_;all_goals try exact rfl
     case' h_6=>skip
     refine' aQ (ev aa rfl) ?p_7 rfl rfl rfl (by kernel_rfl) rfl ?h_7;case' h_7=>skip
     refine' aQ (ev aa rfl) ?p_8 rfl rfl rfl (by kernel_rfl) rfl ?h_8;case' h_8=>skip
     refine' aQ (ev aa rfl) ?p_9 rfl rfl rfl (by kernel_rfl) rfl ?h_9;case' h_9=>skip
     refine' aQ (ev aa rfl) ?p_10 rfl rfl rfl (by kernel_rfl) rfl ?h_10;case' h_10=>skip
     refine' aQ (dn (ev aa rfl) (y:=level+1) (wrap64 (by omega))) ?p_11 rfl rfl rfl (by kernel_rfl) rfl ?h_11;case' h_11=>skip
     refine' FF ?x_12 rfl rfl rfl (by kernel_rfl) rfl ?h_12;case x_12=>
      intro b hb g;cases b;·exact(ab hb (by kernel_rfl)).elim
      exact b7 [0] [] rfl rfl rfl rfl rfl ((hV O (by omega) (level+1) i44 (by omega) (by omega) (by omega) (by omega)).e9 (aH hc55)) rfl rfl (by rfl) (fun st'=>⟨_,rfl,rfl⟩)
     case' h_12=>skip
     refine DC 55 rfl rfl rfl rfl (by kernel_rfl) rfl ?_;refine DC 56 rfl rfl rfl rfl (by kernel_rfl) rfl ?_;refine' aQ (ev aa rfl) ?p_15 rfl rfl rfl (by kernel_rfl) rfl ?h_15;case' h_15=>skip
     case p_2=>refine⟨fun I=>(ab I (by kernel_rfl)).elim,?_,fun I=>(ab I (by kernel_rfl)).elim,?_,fun I=>(ab I (by kernel_rfl)).elim,?_,fun I=>(ab I (by kernel_rfl)).elim,?_,fun I=>(ab I (by kernel_rfl)).elim,?_⟩ <;> intro I <;> first | exact⟨ev aa rfl,fun h=>nomatch h⟩ | exact(ab I (by kernel_rfl)).elim
     case p_3=>refine⟨fun I=>(ab I (by kernel_rfl)).elim,?_,fun I=>(ab I (by kernel_rfl)).elim,?_,fun I=>(ab I (by kernel_rfl)).elim,?_,fun I=>(ab I (by kernel_rfl)).elim,?_,fun I=>(ab I (by kernel_rfl)).elim,?_⟩ <;> intro I <;> first | exact⟨ev aa rfl,fun h=>nomatch h⟩ | exact⟨dD aa rfl rfl rfl rfl,fun h=>nomatch h⟩ | exact⟨dE aa rfl rfl rfl rfl rfl,fun h=>nomatch h⟩ | exact(ab I (by kernel_rfl)).elim
     case p_4=>refine⟨fun I=>(ab I (by kernel_rfl)).elim,?_,fun I=>(ab I (by kernel_rfl)).elim,?_,fun I=>(ab I (by kernel_rfl)).elim,?_,fun I=>(ab I (by kernel_rfl)).elim,?_,fun I=>(ab I (by kernel_rfl)).elim,?_⟩ <;> intro I <;> first | exact⟨ev aa rfl,fun h=>nomatch h⟩ | exact(ab I (by kernel_rfl)).elim
     case p_5=>refine⟨fun I=>(ab I (by kernel_rfl)).elim,?_,fun I=>(ab I (by kernel_rfl)).elim,?_,fun I=>(ab I (by kernel_rfl)).elim,?_,fun I=>(ab I (by kernel_rfl)).elim,?_,fun I=>(ab I (by kernel_rfl)).elim,?_⟩ <;> intro I <;> first | exact⟨aZ aa rfl rfl rfl rfl rfl rfl rfl rfl rfl,fun h=>nomatch h⟩ | exact(ab I (by kernel_rfl)).elim
     case p_7=>refine⟨fun I=>(ab I (by kernel_rfl)).elim,?_,fun I=>(ab I (by kernel_rfl)).elim,?_,fun I=>(ab I (by kernel_rfl)).elim,?_,fun I=>(ab I (by kernel_rfl)).elim,?_,fun I=>(ab I (by kernel_rfl)).elim,?_⟩ <;> intro I <;> first | exact⟨ev aa rfl,fun h=>nomatch h⟩ | exact(ab I (by kernel_rfl)).elim
     case p_8=>refine⟨fun I=>(ab I (by kernel_rfl)).elim,?_,fun I=>(ab I (by kernel_rfl)).elim,?_,fun I=>(ab I (by kernel_rfl)).elim,?_,fun I=>(ab I (by kernel_rfl)).elim,?_,fun I=>(ab I (by kernel_rfl)).elim,?_⟩ <;> intro I <;> first | exact⟨ev aa rfl,fun h=>nomatch h⟩ | exact⟨dD aa rfl rfl rfl rfl,fun h=>nomatch h⟩ | exact⟨dE aa rfl rfl rfl rfl rfl,fun h=>nomatch h⟩ | exact(ab I (by kernel_rfl)).elim
     case p_9=>refine⟨fun I=>(ab I (by kernel_rfl)).elim,?_,fun I=>(ab I (by kernel_rfl)).elim,?_,fun I=>(ab I (by kernel_rfl)).elim,?_,fun I=>(ab I (by kernel_rfl)).elim,?_,fun I=>(ab I (by kernel_rfl)).elim,?_⟩ <;> intro I <;> first | exact⟨ev aa rfl,fun h=>nomatch h⟩ | exact(ab I (by kernel_rfl)).elim
     case p_10=>refine⟨fun I=>(ab I (by kernel_rfl)).elim,?_,fun I=>(ab I (by kernel_rfl)).elim,?_,fun I=>(ab I (by kernel_rfl)).elim,?_,fun I=>(ab I (by kernel_rfl)).elim,?_,fun I=>(ab I (by kernel_rfl)).elim,?_⟩ <;> intro I <;> first | exact⟨ev aa rfl,fun h=>nomatch h⟩ | exact(ab I (by kernel_rfl)).elim
     case p_11=>refine⟨fun I=>(ab I (by kernel_rfl)).elim,?_,fun I=>(ab I (by kernel_rfl)).elim,?_,fun I=>(ab I (by kernel_rfl)).elim,?_,fun I=>(ab I (by kernel_rfl)).elim,?_,fun I=>(ab I (by kernel_rfl)).elim,?_⟩ <;> intro I <;> first | exact⟨dn (ev aa rfl) (y:=level+1) (wrap64 (by omega)),fun h=>nomatch h⟩ | exact(ab I (by kernel_rfl)).elim
     case p_15=>refine⟨fun I=>(ab I (by kernel_rfl)).elim,?_,fun I=>(ab I (by kernel_rfl)).elim,?_,fun I=>(ab I (by kernel_rfl)).elim,?_,fun I=>(ab I (by kernel_rfl)).elim,?_,fun I=>(ab I (by kernel_rfl)).elim,?_⟩ <;> intro I <;> first | exact⟨ev aa rfl,fun h=>nomatch h⟩ | exact(ab I (by kernel_rfl)).elim
     refine CD.nil ?_ rfl;exact Ba 55 rfl
    | ok a8 i55=>
     rw[hc55] at J hb;dsimp only at J;have e0:i44 < i55:=hb.1;have aj:i55≤s.size:=by have:=hb.2;rwa [aw] at this
     have a1:=vC (l:=ah s) (c:=125) (i:=i55) (by rw[aw];exact aj);refine' W.p9 aa (fun bx=>[bx,(0,ek s i55)::bx,(0,ek s i55)::bx]) [[11,8,5],[11,8,5],[13,11,8]] [12,13,14] [4,10,12] 14 (by kernel_rfl) (by kernel_rfl) rfl rfl ?hL_16;case' hL_16=>skip
     refine' aQ (ev aa rfl) ?p_17 rfl rfl rfl (by kernel_rfl) rfl ?h_17;case' h_17=>skip
     refine' aQ (ev aa rfl) ?p_18 rfl rfl rfl (by kernel_rfl) rfl ?h_18;case' h_18=>skip
     refine' aQ (ev aa rfl) ?p_19 rfl rfl rfl (by kernel_rfl) rfl ?h_19;case' h_19=>skip
     refine' aQ (aZ aa rfl rfl rfl rfl rfl rfl rfl rfl rfl) ?p_20 rfl rfl rfl (by kernel_rfl) rfl ?h_20;case' h_20=>skip
     refine' v7 ?x_21 rfl rfl rfl (by kernel_rfl) (fun h=>(ab h (by kernel_rfl)).elim) rfl ?h_21;case x_21=>
      intro b hb g;cases b;·exact(ab hb (by kernel_rfl)).elim
      refine eu (fn:=sc) (a:=bytesOf M) aa rfl rfl rfl rfl rfl rfl rfl rfl rfl rfl (fun _=>rfl) (by show(keys.length+1)*16≤_;omega) ?_;refine WO.nil ?_;refine' rZ rfl ?_ ?_ ?_ ?_;all_goals try exact rfl
     case' h_21=>skip
     refine' aQ (ev aa rfl) ?p_22 rfl rfl rfl (by kernel_rfl) rfl ?h_22;case' h_22=>skip
     refine' aQ (ev aa rfl) ?p_23 rfl rfl rfl (by kernel_rfl) rfl ?h_23;case' h_23=>skip
     refine' aQ (ev aa rfl) ?p_24 rfl rfl rfl (by kernel_rfl) rfl ?h_24;case' h_24=>skip
     refine' aQ (ev aa rfl) ?p_25 rfl rfl rfl (by kernel_rfl) rfl ?h_25;case' h_25=>skip
     refine' aQ (dn (ev aa rfl) (y:=level+1) (wrap64 (by omega))) ?p_26 rfl rfl rfl (by kernel_rfl) rfl ?h_26;case' h_26=>skip
     refine' v7 ?x_27 rfl rfl rfl (by kernel_rfl) (fun h=>(ab h (by kernel_rfl)).elim) rfl ?h_27;case x_27=>
      intro b hb g;cases b;·exact(ab hb (by kernel_rfl)).elim
      refine aE [0] [] rfl rfl rfl rfl rfl (((hV O (by omega) (level+1) i44 (by omega) (by omega) (by omega) (by omega)).ret (aM hc55))) rfl rfl (by rfl) (by rfl) rfl rfl rfl rfl ?_;refine WO.nil ?_;refine' rZ rfl ?_ ?_ ?_ ?_;all_goals try exact rfl
     case' h_27=>skip
     refine' aQ (aZ aa rfl rfl rfl rfl rfl rfl rfl rfl rfl) ?p_28 rfl rfl rfl (by kernel_rfl) rfl ?h_28;case' h_28=>skip
     refine' v7 ?x_29 rfl rfl rfl (by kernel_rfl) (fun h=>(ab h (by kernel_rfl)).elim) rfl ?h_29;case x_29=>
      intro b hb g;cases b;·exact(ab hb (by kernel_rfl)).elim
      refine eu (fn:=JV.c) (a:=a8) aa rfl rfl rfl rfl rfl rfl rfl rfl rfl rfl (fun _=>rfl) (by show(acc.length+1)*80≤_;omega) ?_;refine WO.nil ?_;refine' rZ rfl ?_ ?_ ?_ ?_;all_goals try exact rfl
     case' h_29=>skip
     case p_17=>refine⟨fun I=>(ab I (by kernel_rfl)).elim,?_,fun I=>(ab I (by kernel_rfl)).elim,?_,fun I=>(ab I (by kernel_rfl)).elim,?_,fun I=>(ab I (by kernel_rfl)).elim,?_⟩ <;> intro I <;> first | exact⟨ev aa rfl,fun h=>nomatch h⟩ | exact(ab I (by kernel_rfl)).elim
     case p_18=>refine⟨fun I=>(ab I (by kernel_rfl)).elim,?_,fun I=>(ab I (by kernel_rfl)).elim,?_,fun I=>(ab I (by kernel_rfl)).elim,?_,fun I=>(ab I (by kernel_rfl)).elim,?_⟩ <;> intro I <;> first | exact⟨ev aa rfl,fun h=>nomatch h⟩ | exact⟨dD aa rfl rfl rfl rfl,fun h=>nomatch h⟩ | exact⟨dE aa rfl rfl rfl rfl rfl,fun h=>nomatch h⟩ | exact(ab I (by kernel_rfl)).elim
     case p_19=>refine⟨fun I=>(ab I (by kernel_rfl)).elim,?_,fun I=>(ab I (by kernel_rfl)).elim,?_,fun I=>(ab I (by kernel_rfl)).elim,?_,fun I=>(ab I (by kernel_rfl)).elim,?_⟩ <;> intro I <;> first | exact⟨ev aa rfl,fun h=>nomatch h⟩ | exact(ab I (by kernel_rfl)).elim
     case p_20=>refine⟨fun I=>(ab I (by kernel_rfl)).elim,?_,fun I=>(ab I (by kernel_rfl)).elim,?_,fun I=>(ab I (by kernel_rfl)).elim,?_,fun I=>(ab I (by kernel_rfl)).elim,?_⟩ <;> intro I <;> first | exact⟨aZ aa rfl rfl rfl rfl rfl rfl rfl rfl rfl,fun h=>nomatch h⟩ | exact(ab I (by kernel_rfl)).elim
     case p_22=>refine⟨fun I=>(ab I (by kernel_rfl)).elim,?_,fun I=>(ab I (by kernel_rfl)).elim,?_,fun I=>(ab I (by kernel_rfl)).elim,?_,fun I=>(ab I (by kernel_rfl)).elim,?_⟩ <;> intro I <;> first | exact⟨ev aa rfl,fun h=>nomatch h⟩ | exact(ab I (by kernel_rfl)).elim
     case p_23=>refine⟨fun I=>(ab I (by kernel_rfl)).elim,?_,fun I=>(ab I (by kernel_rfl)).elim,?_,fun I=>(ab I (by kernel_rfl)).elim,?_,fun I=>(ab I (by kernel_rfl)).elim,?_⟩ <;> intro I <;> first | exact⟨ev aa rfl,fun h=>nomatch h⟩ | exact⟨dD aa rfl rfl rfl rfl,fun h=>nomatch h⟩ | exact⟨dE aa rfl rfl rfl rfl rfl,fun h=>nomatch h⟩ | exact(ab I (by kernel_rfl)).elim
     case p_24=>refine⟨fun I=>(ab I (by kernel_rfl)).elim,?_,fun I=>(ab I (by kernel_rfl)).elim,?_,fun I=>(ab I (by kernel_rfl)).elim,?_,fun I=>(ab I (by kernel_rfl)).elim,?_⟩ <;> intro I <;> first | exact⟨ev aa rfl,fun h=>nomatch h⟩ | exact(ab I (by kernel_rfl)).elim
     case p_25=>refine⟨fun I=>(ab I (by kernel_rfl)).elim,?_,fun I=>(ab I (by kernel_rfl)).elim,?_,fun I=>(ab I (by kernel_rfl)).elim,?_,fun I=>(ab I (by kernel_rfl)).elim,?_⟩ <;> intro I <;> first | exact⟨ev aa rfl,fun h=>nomatch h⟩ | exact(ab I (by kernel_rfl)).elim
     case p_26=>refine⟨fun I=>(ab I (by kernel_rfl)).elim,?_,fun I=>(ab I (by kernel_rfl)).elim,?_,fun I=>(ab I (by kernel_rfl)).elim,?_,fun I=>(ab I (by kernel_rfl)).elim,?_⟩ <;> intro I <;> first | exact⟨dn (ev aa rfl) (y:=level+1) (wrap64 (by omega)),fun h=>nomatch h⟩ | exact(ab I (by kernel_rfl)).elim
     case p_28=>refine⟨fun I=>(ab I (by kernel_rfl)).elim,?_,fun I=>(ab I (by kernel_rfl)).elim,?_,fun I=>(ab I (by kernel_rfl)).elim,?_,fun I=>(ab I (by kernel_rfl)).elim,?_⟩ <;> intro I <;> first | exact⟨aZ aa rfl rfl rfl rfl rfl rfl rfl rfl rfl,fun h=>nomatch h⟩ | exact(ab I (by kernel_rfl)).elim
     refine' aQ (ev aa rfl) ?p_30 rfl rfl rfl (by kernel_rfl) rfl ?h_30;case' h_30=>skip
     case p_30=>refine⟨fun I=>(ab I (by kernel_rfl)).elim,?_,fun I=>(ab I (by kernel_rfl)).elim,?_,fun I=>(ab I (by kernel_rfl)).elim,?_,fun I=>(ab I (by kernel_rfl)).elim,?_⟩ <;> intro I <;> first | exact⟨ev aa rfl,fun h=>nomatch h⟩ | exact(ab I (by kernel_rfl)).elim
     refine CD.nil ?_ rfl;refine ax aa rfl rfl rfl rfl rfl rfl rfl rfl (pE rfl (ax aa rfl rfl rfl rfl rfl rfl rfl rfl (WO.nil (bz (qs (W.region (pE rfl ?_)))))))
     cases hc25:gg (ah s) 125 i55 with
     | no e1 e2=>
      refine b7 [0] [] rfl rfl rfl rfl rfl ((oW s 125 i55 aj hs).e9 (aH hc25)) rfl rfl (by rfl) (fun st'=>?_);repeat' first | refine bW ?_ | refine fg ?_ | refine iU ?_
      refine cf (aH (by rw[←J,if_neg (pg hc25).1,(pg hc25).2]))
     | ok ch i25=>
      refine aE [0] [] rfl rfl rfl rfl rfl ((oW s 125 i55 aj hs).ret (aM hc25)) rfl rfl (by rfl) (by rfl) rfl rfl rfl rfl ?_;rw[hc25] at a1;have e3:i55 < i25:=a1.1;have cj:i25≤s.size:=by have:=a1.2;rwa [aw] at this
      refine pE rfl (WO.nil (W.bU [0,1,2,8,11,13] ⟨(O,i25,keys++[bytesOf M],acc++[a8],ch),?_⟩ ?_ rfl ?_ trivial ?_ ⟨rfl,rfl,trivial⟩ rfl));·
       refine⟨by omega,b0,fun h=>?_,fun h=>?_⟩;·
        subst h;rw[if_pos (lD hc25).1,←(lD hc25).2] at J;exact⟨cj,by rw[List.length_append,List.length_singleton];omega,by rw[List.length_append,List.length_singleton];omega,by omega,J⟩
       subst h;rw[if_neg (km hc25).1,(km hc25).2] at J;exact J.symm
      ·dsimp only;omega
      ·repeat' first | exact trivial | refine⟨rfl,?_⟩
      repeat' first | exact trivial | refine⟨rfl,?_⟩
 have hx:=hF ad;refine W.exit (bb (be (ba (qs (W.seq (W.region (pE rfl (ax aa rfl rfl rfl rfl rfl rfl rfl rfl (WO.nil (qs ?_))))))))));try refine gr 1 3 rfl rfl rfl ?_
 try refine gr 1 4 rfl rfl rfl ?_
 refine W.ret (cO (aM (hx)) ?_);refine b4.end aa [] trivial rfl rfl rfl rfl ?_ ?_;·exact⟨rfl,trivial⟩
 rw[Du];rfl
end Go.Proofs.YtpiaiiopakafhaaGreatDoor
namespace Go.Proofs.YtpiaiiopakafhaaGreatDoor
open Go.Ab Go.Tb
set_option maxRecDepth 10000
set_option maxHeartbeats 1000000
attribute [local irreducible] W WO Pu QS QB QL QF QV bu CH QE
theorem sO (s:ByteArray) (hs:s.size≤1000000000):∀ K,yJ s K
 | 0=>fun k N=>by omega
 | K+1=>fun k N level i J O hi X=>by obtain⟨I,rfl⟩:∃ I,k=I+1:=⟨k - 1,by omega⟩;have M:yJ s I:=fun k U=>sO s hs K k (by omega);exact yP s I hs level i hi (fun j h1 h2 h3=>x9 s I hs M level j h2 J h3 (by omega)) (fun j h1 h2 h3=>wB s I hs M level j h2 J h3 (by omega))
theorem vl (s:ByteArray) (hs:s.size≤1000000000):cF Tryz.prog 71 [.ptr 0 0,.d (.v (.int .i64 1))] [ek s 0] 0 (fV 128 s (fun v:JV=>.ag v.c) (cb (ah s) (3*(ah s).length+1) 1 0)):=
 sO s hs (3*(ah s).length+2) _ (Nat.lt_succ_self _) 1 0 (by decide) (by decide) (Nat.zero_le _) (by rw[aw];omega)
end Go.Proofs.YtpiaiiopakafhaaGreatDoor
namespace Go.Proofs.YtpiaiiopakafhaaGreatDoor
open Go.Ab Go.Tb
set_option maxRecDepth 10000
set_option maxHeartbeats 1000000
attribute [local irreducible] W WO Pu QS QB QL QF QV bu CH QE
abbrev zc:List A:=[.d (ci 0),.d (ci 0),.d (cs (B #[])),.d (.sl []),.d (.sl [])]
theorem wU {C:Ctx} {n:Nat} {f:List (Nat×A)} {bx:List (Nat×List A)} {gen:Nat} {G:Gh} {tmps:Array Value} {w:World} {I b1 J:Nat} {N:List Deferred} (O:C.bx=[I,b1,J]) (hs:ao C n ⟨f,bx,[],gen⟩ G tmps w) {X:Value} (U:cm X=true) {k:Nat} (Z:k=22) :
 ao { C with bx:=[I,b1,J],ds:=N } 22 ⟨[(3,.d (.v X)),(0,.ptr 0 0),(1,.ptr 1 0),(2,.ptr 2 0)],bx,[],gen⟩ G (((#[pp I,pp b1,pp J]++Array.replicate (k - #[pp I,pp b1,pp J].size) undef).setIfInBounds 6 X).setIfInBounds 3 X) w:=by
 subst Z;have h5:=hs.uj (bs:=[I,b1,J]) (ds:=N) (fun i b hb=>hs.lent i b (by rw[O];exact hb));have hl:∀ (i b:Nat),[I,b1,J][i]? = some b→i < gen∧G.box i=some b:=fun i b hb=>by have:=hs.lent i b (by rw[O];exact hb);exact⟨(hs.gbox i b this).1,this⟩
 have t3:(((#[pp I,pp b1,pp J]++Array.replicate (22 - #[pp I,pp b1,pp J].size) undef).setIfInBounds 6 X).setIfInBounds 3 X)[3]? = some X:=by simp[Array.getElem?_setIfInBounds]
 have t0:(((#[pp I,pp b1,pp J]++Array.replicate (22 - #[pp I,pp b1,pp J].size) undef).setIfInBounds 6 X).setIfInBounds 3 X)[0]? = some (pp I):=by simp[Array.getElem?_setIfInBounds]
 have t1:(((#[pp I,pp b1,pp J]++Array.replicate (22 - #[pp I,pp b1,pp J].size) undef).setIfInBounds 6 X).setIfInBounds 3 X)[1]? = some (pp b1):=by simp[Array.getElem?_setIfInBounds]
 have t2:(((#[pp I,pp b1,pp J]++Array.replicate (22 - #[pp I,pp b1,pp J].size) undef).setIfInBounds 6 X).setIfInBounds 3 X)[2]? = some (pp J):=by simp[Array.getElem?_setIfInBounds]
 have ts:(((#[pp I,pp b1,pp J]++Array.replicate (22 - #[pp I,pp b1,pp J].size) undef).setIfInBounds 6 X).setIfInBounds 3 X).size=22:=by simp
 generalize (((#[pp I,pp b1,pp J]++Array.replicate (22 - #[pp I,pp b1,pp J].size) undef).setIfInBounds 6 X).setIfInBounds 3 X)=tm at t3 t0 t1 t2 ts ⊢;exact { h5 with
  size:=ts
  frame:=fun t a M=>by
   have M:Go.Ab.look [(3,A.d (.v X)),(0,.ptr 0 0),(1,.ptr 1 0),(2,.ptr 2 0)] t=some a:=M;rw[aN,aN,aN,aN] at M;split at M;·
    rename_i e;cases M;subst e;exact⟨X,t3,.d (.v X U)⟩
   split at M;·
    rename_i e;cases M;subst e;exact⟨pp I,t0,.ptr _ _ _ I (hl 0 I rfl).1 (hl 0 I rfl).2 rfl⟩
   split at M;·
    rename_i e;cases M;subst e;exact⟨pp b1,t1,.ptr _ _ _ b1 (hl 1 b1 rfl).1 (hl 1 b1 rfl).2 rfl⟩
   split at M;·
    rename_i e;cases M;subst e;exact⟨pp J,t2,.ptr _ _ _ J (hl 2 J rfl).1 (hl 2 J rfl).2 rfl⟩
   cases M }
theorem Di {C:Ctx} (hG:GC Tryz.prog C) {n:Nat} {f:List (Nat×A)} {bx:List (Nat×List A)} {gen:Nat} {G:Gh} {tmps:Array Value} {w:World} {I b1 J:Nat} (Z:C.bx=[I,b1,J]) (hs:ao C n ⟨f,bx,[],gen⟩ G tmps w) :
 CallsD Tryz.prog 70 #[pp I,pp b1,pp J] .returning w fun e u' w'=>∃ v M,e=.returned v∧u'=.returning∧ao { C with bx:=[I,b1,J],ds:=[] } 0 ⟨[],bx,[],gen⟩ M #[] w':=by
 refine callsD_of_wpS Tryz.func70 rfl (fun c0 ad hu=>?_);refine wpS_seq (wpS_region (oN (d:=6) rfl rfl rfl rfl ?_));have N:recoverD (c0::ad)=none:=by cases c0 with | mk a b c d e f g=>subst hu;rfl
 rw[N];refine tH (d:=3) (d0:=6) (v:=.nilIface) rfl rfl rfl rfl (by rw[Array.getElem?_setIfInBounds_self,if_pos (by rw[Array.size_append,Array.size_replicate,Tryz.ntmps70];show 6 < 3+(22 - 3);omega)]) (vG ?_);refine wpS_of_wp ?_;haveI:NB { C with bx:=[I,b1,J],ds:=[] } 3:=⟨rfl⟩;haveI:GC Tryz.prog { C with bx:=[I,b1,J],ds:=[] }:=hG.uj;refine sC (C:={ C with bx:=[I,b1,J],ds:=[] }) (n:=22) (st:=⟨[(3,.d (.v .nilIface)),(0,.ptr 0 0),(1,.ptr 1 0),(2,.ptr 2 0)],bx,[],gen⟩) (Q:=fun e st=>e=.normal∧st.bx=bx∧st.gen=gen∧st.lv=[]) ⟨G,wU Z hs rfl Tryz.ntmps70⟩ ?hW ?hB;case hW=>refine W.seq (W.region (pE rfl (pu (DK rfl (by kernel_rfl)) rfl ?_)));refine WO.nil (qs (W.Cb rfl (W.skip ?_)));exact⟨rfl,rfl,rfl,rfl⟩
 case hB=>rintro e ⟨t,df⟩ w' ⟨hd,⟨f',bx',lv',gen'⟩,⟨M,ai⟩,he,O,U,X⟩;have O:bx'=bx:=O;have U:gen'=gen:=U;have X:lv'=[]:=X;subst he;subst O;subst U;subst X;refine⟨hd,.returning,by rw[←hu],_,fH (rs:=[]) Tryz.results70 (vs:=[]) rfl,_,M,rfl,rfl,?_⟩;exact { ai with size:=rfl,frame:=fun t a ha=>by cases ha }
theorem CB {C:Ctx} (hG:GC Tryz.prog C) {n:Nat} {f:List (Nat×A)} {bx:List (Nat×List A)} {gen:Nat} {G:Gh} {tmps:Array Value} {w:World} {O b1 U:Nat} {a:Nat} {e:Int} (hl:cm (.int .i64 (a:Int))=true∧cm (.int .i64 e)=true) (ai:C.bx=[O,b1,U]) (hs:ao C n ⟨f,bx,[],gen⟩ G tmps w)
 {x0 x1 x2 x3 x4 y0 z0:A} (h0:ae bx 0=some [x0,x1,x2,x3,x4]) (h1:ae bx 1=some [y0]) (h2:ae bx 2=some [z0]) :
 CallsD Tryz.prog 70 #[pp O,pp b1,pp U] (.panicking [{ v:=gu 128 a e,recovered:=false }]) w fun r u' w'=>∃ v G' bx' gen',r=.returned v∧u'=.panicking [{ v:=gu 128 a e,recovered:=true }]∧ae bx' 0=some zc∧ae bx' 1=some [.d (ci a)]∧ae bx' 2=some [.d (ci e)]∧ao { C with bx:=[O,b1,U],ds:=[] } 0 ⟨[],bx',[],gen'⟩ G' #[] w':=by
 refine callsD_of_wpS Tryz.func70 rfl (fun c0 aj hu=>?_);refine wpS_seq (wpS_region (oN (d:=6) rfl rfl rfl rfl ?_));have a1:recoverD (c0::aj)=some (gu 128 a e,{ c0 with mode:=.panicking [{ v:=gu 128 a e,recovered:=true }] }::aj):=by cases c0 with | mk a b c d e f g=>subst hu;rfl
 rw[a1];refine tH (d:=3) (d0:=6) (v:=gu 128 a e) rfl rfl rfl rfl (by rw[Array.getElem?_setIfInBounds_self,if_pos (by rw[Array.size_append,Array.size_replicate,Tryz.ntmps70];show 6 < 3+(22 - 3);omega)]) (vG ?_);refine wpS_of_wp ?_;haveI:NB { C with bx:=[O,b1,U],ds:=[] } 3:=⟨rfl⟩;haveI:GC Tryz.prog { C with bx:=[O,b1,U],ds:=[] }:=hG.uj;have X:ao C n ⟨[],[(0,[.any,.any,.any,.any,.any]),(1,[.any]),(2,[.any])],[],3⟩ ⟨fun g=>if g < 3 then G.box g else none,fun _=>none⟩ tmps w:=by
  have J:∀ g b,(if g < 3 then G.box g else none)=some b→g < 3∧G.box g=some b:=fun g b h=>by
   split at h;·rename_i q;exact⟨q,h⟩
   cases h
  have hb:∀ (g:Nat) (cells cells':List A),g < 3→ae bx g=some cells→cells'.length=cells.length→(∀ (i:Nat) (a:A),cells'[i]? = some a→a=.any)→∃ b cs T,(if g < 3 then G.box g else none)=some b∧w.heap[b]? = some (.cells cs T (0,0))∧cs.size=cells'.length ∧
   (∀ (i:Nat) (u:Value),cs[i]? = some u→u.oneCell'=true)∧∀ (i:Nat) (u:Value) (a:A),cs[i]? = some u→cells'[i]? = some a→aC (au C ⟨fun g=>if g < 3 then G.box g else none,fun _=>none⟩ 3 w) u a:=fun g cells cells' hg M hlen a6=>by
   obtain⟨b,cs,T,q1,q2,q3,q4,_⟩:=hs.box g cells M;exact⟨b,cs,T,by rw[if_pos hg];exact q1,q2,by rw[q3,hlen],q4,fun i u a _ I=>by rw[a6 i a I];exact .any _⟩
  have a7:∀ (g:Nat) (cells:List A),Go.Ab.ae [(0,[A.any,A.any,A.any,A.any,A.any]),(1,[A.any]),(2,[A.any])] g=some cells→∃ b cs T,(if g < 3 then G.box g else none)=some b∧w.heap[b]? = some (.cells cs T (0,0))∧cs.size=cells.length∧(∀ (i:Nat) (u:Value),cs[i]? = some u→u.oneCell'=true)∧∀ (i:Nat) (u:Value) (a:A),cs[i]? = some u→cells[i]? = some a→aC (au C ⟨fun g=>if g < 3 then G.box g else none,fun _=>none⟩ 3 w) u a:=by
   intro g cells M
   match g,M with
   | 0,M=>cases M;exact hb 0 _ _ (by decide) h0 rfl (fun i a h=>by have:=List.mem_of_getElem? h;simpa using this)
   | 1,M=>cases M;exact hb 1 _ _ (by decide) h1 rfl (fun i a h=>by have:=List.mem_of_getElem? h;simpa using this)
   | 2,M=>cases M;exact hb 2 _ _ (by decide) h2 rfl (fun i a h=>by have:=List.mem_of_getElem? h;simpa using this)
   | g+3,M=>cases M
  have ad:∀ (i b:Nat),C.bx[i]? = some b→(if i < 3 then G.box i else none)=some b:=by
   intro i b h;have hi:i < 3:=by rw[ai] at h;have:=(List.getElem?_eq_some_iff.1 h).1;simpa using this
   rw[if_pos hi];exact hs.lent i b h
  exact { size:=hs.size,frame:=fun t a I=>(by cases I),box:=a7,gbox:=fun g b h=>⟨(J g b h).1,(hs.gbox g b (J g b h).2).2⟩,inj:=fun g g' b h h'=>hs.inj g g' b (J g b h).2 (J g' b h').2,live:=fun g hg=>(by cases hg),gown:=fun g r N=>(by cases N),row:=fun g b len cap sz a8 N=>(by cases N),mrow:=fun g b bs N=>(by cases N),gcell:=fun g b h=>hs.gcell g b (J g b h).2,sub:=fun g b bs c lim N=>(by cases N),xold:=hs.xold,kold:=hs.kold,lent:=ad,fr:=hs.fr }
 refine sC (C:={ C with bx:=[O,b1,U],ds:=[] }) (n:=22) (st:=⟨[(3,.d (.v (gu 128 a e))),(0,.ptr 0 0),(1,.ptr 1 0),(2,.ptr 2 0)],[(0,[.any,.any,.any,.any,.any]),(1,[.any]),(2,[.any])],[],3⟩) (Q:=fun r st=>r=.normal∧st.lv=[]∧ae st.bx 0=some zc∧ae st.bx 1=some [.d (ci a)]∧ae st.bx 2=some [.d (ci e)]) ⟨_,wU ai X rfl Tryz.ntmps70⟩ ?hW ?hB;case hW=>
  refine W.seq (W.region (pE rfl (pu (FA rfl (by kernel_rfl)) rfl ?_)));refine WO.nil (qs (W.lB rfl (W.seq (W.region (pE rfl ?_)))));refine pu (zD (l:=[.int .i64 (a:Int),.int .i64 e]) aa rfl rfl (fun v Z=>by rcases List.mem_cons.1 Z with rfl | Z;exact hl.1;rcases List.mem_cons.1 Z with rfl | Z;exact hl.2;cases Z) rfl) rfl ?_;iterate 3 refine pE rfl ?_
  refine aL aa rfl rfl rfl (ax aa rfl rfl rfl rfl rfl rfl rfl rfl (pE rfl (WO.nil (qs ?_))));iterate 2 refine W.seq ?_
  refine W.region ?_;iterate 2 refine pE rfl ?_
  refine WO.nil (qs (W.Cb rfl (W.skip (qs ?_))));refine' W.p9 aa (fun bx=>[(0,zc)::bx,(1,[.d (ci a)])::(0,zc)::bx]) [[],[]] [4,4] [5,6] 7 (by kernel_rfl) (by kernel_rfl) rfl rfl ?hL_9;case' hL_9=>skip
  refine' aQ (Pu.oK (build aa rfl rfl rfl rfl) rfl) ?p_10 rfl rfl rfl (by kernel_rfl) rfl ?h_10;case' h_10=>skip
  refine' aQ (ev aa rfl) ?p_11 rfl rfl rfl (by kernel_rfl) rfl ?h_11;case' h_11=>skip
  refine' aQ (ev aa rfl) ?p_12 rfl rfl rfl (by kernel_rfl) rfl ?h_12;case' h_12=>skip
  refine' aQ (ev aa rfl) ?p_13 rfl rfl rfl (by kernel_rfl) rfl ?h_13;case' h_13=>skip
  refine' aQ (ev aa rfl) ?p_14 rfl rfl rfl (by kernel_rfl) rfl ?h_14;case' h_14=>skip
  refine' EU ?x_15 rfl rfl rfl (by kernel_rfl) ?h_15;case x_15=>
   intro b hb g;cases b;·exact(ab hb (by kernel_rfl)).elim
   refine ax aa rfl rfl rfl rfl rfl rfl rfl rfl (WO.nil ?_);refine' Ea rfl ?_ ?_ ?_;all_goals try exact rfl
  case' h_15=>skip
  refine' EU ?x_16 rfl rfl rfl (by kernel_rfl) ?h_16;case x_16=>
   intro b hb g;cases b;·exact(ab hb (by kernel_rfl)).elim
   refine ax aa rfl rfl rfl rfl rfl rfl rfl rfl (WO.nil ?_);refine' Ea rfl ?_ ?_ ?_;all_goals try exact rfl
  case' h_16=>skip
  case p_10=>refine⟨fun I=>(ab I (by kernel_rfl)).elim,?_,fun I=>(ab I (by kernel_rfl)).elim,?_,fun I=>(ab I (by kernel_rfl)).elim,?_⟩ <;> intro I <;> first | exact⟨Pu.oK (build aa rfl rfl rfl rfl) rfl,fun h=>nomatch h⟩ | exact(ab I (by kernel_rfl)).elim
  case p_11=>refine⟨fun I=>(ab I (by kernel_rfl)).elim,?_,fun I=>(ab I (by kernel_rfl)).elim,?_,fun I=>(ab I (by kernel_rfl)).elim,?_⟩ <;> intro I <;> first | exact⟨ev aa rfl,fun h=>nomatch h⟩ | exact(ab I (by kernel_rfl)).elim
  case p_12=>refine⟨fun I=>(ab I (by kernel_rfl)).elim,?_,fun I=>(ab I (by kernel_rfl)).elim,?_,fun I=>(ab I (by kernel_rfl)).elim,?_⟩ <;> intro I <;> first | exact⟨ev aa rfl,fun h=>nomatch h⟩ | exact⟨dD aa rfl rfl rfl rfl,fun h=>nomatch h⟩ | exact⟨dE aa rfl rfl rfl rfl rfl,fun h=>nomatch h⟩ | exact(ab I (by kernel_rfl)).elim
  case p_13=>refine⟨fun I=>(ab I (by kernel_rfl)).elim,?_,fun I=>(ab I (by kernel_rfl)).elim,?_,fun I=>(ab I (by kernel_rfl)).elim,?_⟩ <;> intro I <;> first | exact⟨ev aa rfl,fun h=>nomatch h⟩ | exact(ab I (by kernel_rfl)).elim
  case p_14=>refine⟨fun I=>(ab I (by kernel_rfl)).elim,?_,fun I=>(ab I (by kernel_rfl)).elim,?_,fun I=>(ab I (by kernel_rfl)).elim,?_⟩ <;> intro I <;> first | exact⟨ev aa rfl,fun h=>nomatch h⟩ | exact⟨dD aa rfl rfl rfl rfl,fun h=>nomatch h⟩ | exact⟨dE aa rfl rfl rfl rfl rfl,fun h=>nomatch h⟩ | exact(ab I (by kernel_rfl)).elim
  refine CD.nil ?_ rfl;refine ax aa rfl rfl rfl rfl rfl rfl rfl rfl (WO.nil ?_);exact⟨rfl,rfl,rfl,rfl,rfl⟩
 case hB=>rintro r ⟨t,df⟩ w' ⟨hd,⟨f',bx',lv',gen'⟩,⟨G',X⟩,he,e3,q0,q1,q2⟩;have e3:lv'=[]:=e3;subst he;subst e3;refine⟨hd,_,rfl,_,fH (rs:=[]) Tryz.results70 (vs:=[]) rfl,_,G',bx',gen',rfl,rfl,q0,q1,q2,?_⟩;exact { X with size:=rfl,frame:=fun t a I=>by cases I }
end Go.Proofs.YtpiaiiopakafhaaGreatDoor
namespace Go.Proofs.YtpiaiiopakafhaaGreatDoor
open Go.Ab Go.Tb
set_option maxRecDepth 10000
set_option maxHeartbeats 1000000
attribute [local irreducible] W WO Pu QS QB QL QF QV bu CH QE
def mc (s:ByteArray):A:=if 65536 < s.size then .tup [.ag eo.c,.d (ci 0),.d (ci 7)] else match cR (ah s) with
 | .ok v _=>.tup [.ag v.c,.d (ci 0),.d (ci 0)]
 | .no a w=>.tup [.ag eo.c,.d (ci a),.d (ci w)]
def PQ (x:PE JV):Exit→St→Prop:=fun e st=>(match x with
 | .ok v _=>e=.ret∧ae st.bx 0=some (v.c.map .d)∧ae st.bx 1=some [.d (ci 0)]∧ae st.bx 2=some [.d (ci 0)]
 | .no a w=>e=eI (gu 128 a w)∧∃ x0 I J x3 M N z0,ae st.bx 0=some [x0,I,J,x3,M]∧ae st.bx 1=some [N]∧ae st.bx 2=some [z0]) ∧
 Go.Ab.look st.f 2=some (A.ptr 0 0)∧Go.Ab.look st.f 3=some (A.ptr 1 0)∧Go.Ab.look st.f 4=some (A.ptr 2 0)
theorem DZ {C:Ctx} {n:Nat} {f:List (Nat×A)} {bx:List (Nat×List A)} {lv:List Nat} {gen:Nat} {G:Gh} {tmps:Array Value} {w:World} {c0 J c2:List A} (hs:ao C n ⟨f,bx,lv,gen⟩ G tmps w) (h0:ae bx 0=some c0) (h1:ae bx 1=some J) (h2:ae bx 2=some c2):ao C n ⟨f,[(0,c0),(1,J),(2,c2)],lv,gen⟩ G tmps w:=by
 refine { hs with box:=fun g cells I=>?_ };have I:Go.Ab.ae [(0,c0),(1,J),(2,c2)] g=some cells:=I
 match g,I with
 | 0,I=>cases I;exact hs.box 0 _ h0
 | 1,I=>cases I;exact hs.box 1 _ h1
 | 2,I=>cases I;exact hs.box 2 _ h2
 | g+3,I=>cases I
theorem F2:iC Tryz.prog 70:=⟨_,Tryz.func70,by kernel_rfl,rfl⟩
theorem Cg (M b1 N:Nat) (w:World):(invoke (.fn (.func 70) #[pp M,pp b1,pp N]) #[]).run Tryz.prog w=.ok (.enter 70 #[pp M,pp b1,pp N]) w:=by obtain⟨fn,O,I,J⟩:=F2;simp only[invoke,callFunc,Sem.run_bind,Sem.run_pure,Result.andThen_ok,run_program,O,I,J,Bool.false_eq_true,if_false,Array.empty_append]
theorem BM (s:ByteArray):az Tryz.prog 23 [.d (.v (.string s))] (mc s) 0:=by
 refine az.Fq (n:=34) Tryz.func23 (by kernel_rfl) rfl Tryz.ntmps23 rfl fun C hC hG O U=>?_;refine W'.seq ?_;refine W.region ?_;iterate 3 refine aL aa rfl rfl rfl ?_
 refine WO.nil (W'.seq ?_);refine W.seq (W.region ?_);iterate 3 refine pE rfl ?_
 refine WO.nil (qs (an rfl (fun h8=>?_) (fun h8=>?_)));·
  refine W.seq (W.region (pu (build aa rfl rfl rfl rfl) rfl ?_));refine gG 9 rfl rfl rfl ?_;iterate 3 refine ax aa rfl rfl rfl rfl rfl rfl rfl rfl ?_
  refine WO.nil (qs (W.ret ?_));intro tmps w ⟨G,hs⟩;have hg:mc s=.tup [.ag eo.c,.d (ci 0),.d (ci 7)]:=by unfold mc;rw[if_pos (by simp at h8;omega)]
  show Leaves _ _ tmps _ C.ds .returning w;rw[U,hg];exact BS aa (rs:=[.cell 2 46,.cell 3 3,.cell 4 31]) hs O Tryz.results23 rfl rfl
 have a8:¬ 65536 < s.size:=by simp at h8;omega
 have X:s.size≤1000000000:=by omega
 have b3:mc s=match cR (ah s) with | .ok v _=>.tup [.ag v.c,.d (ci 0),.d (ci 0)] | .no a w=>.tup [.ag eo.c,.d (ci a),.d (ci w)]:=by unfold mc;rw[if_neg a8]
 refine W.skip (W'.yX ?_);refine nK.pu rfl rfl (ev aa rfl) ?_;refine nK.BJ rfl (fun I b1 J tmps w G hs e0 e1 e2=>?_);have c1:NB { C with bx:=[I,b1,J],ds:=pD 70 I b1 J::C.ds } 3:=⟨rfl⟩;have a6:GC Tryz.prog { C with bx:=[I,b1,J],ds:=pD 70 I b1 J::C.ds }:=hG.uj;refine sC (C:={ C with bx:=[I,b1,J],ds:=pD 70 I b1 J::C.ds }) (n:=34) (Q:=PQ (cR (ah s))) ⟨G,hs.uj (fun i b hb=>?hl)⟩ ?hW ?hB;case hl=>
  match i,hb with
  | 0,hb=>cases hb;exact e0
  | 1,hb=>cases hb;exact e1
  | 2,hb=>cases hb;exact e2
  | i+3,hb=>cases hb
 case hW=>
  refine W.seq (W.region (pE rfl (pu (build aa rfl rfl rfl rfl) rfl ?_)));refine cw rfl rfl rfl (pE rfl (WO.nil (qs (W.seq (W.region (pE rfl ?_))))))
  cases hc15:cb (ah s) (3*(ah s).length+1) 1 0 with
  | no ch cj=>
   have hp:cR (ah s)=.no ch cj:=by unfold cR;rw[hc15]
   refine oM [3] [] rfl rfl rfl rfl rfl ((vl s X).e9 (aH hc15)) rfl rfl (by rfl) ?_;repeat' refine bW ?_
   rw[hp];exact⟨⟨rfl,_,_,_,_,_,_,_,rfl,rfl,rfl⟩,rfl,rfl,rfl⟩
  | ok cl i15=>
   have hb:=(la (ah s) (3*(ah s).length+1)).v 1 0 (Nat.zero_le _);rw[hc15] at hb;have hi:i15≤s.size:=by have:=hb.2;rwa [aw] at this
   refine aE [3] [] rfl rfl rfl rfl rfl ((vl s X).ret (aM hc15)) rfl rfl (by rfl) (by rfl) rfl rfl rfl rfl ?_;refine ax aa rfl rfl rfl rfl rfl rfl rfl rfl (WO.nil (qs ?_));iterate 2 refine W.seq ?_
   refine W.region (pE rfl (aE [3] [] rfl rfl rfl rfl rfl ((jt s i15 hi X)) rfl rfl (by rfl) (by rfl) rfl rfl rfl rfl ?_));iterate 2 refine pE rfl ?_
   refine kC rfl rfl (fun g19=>?_) (fun g19=>?_);·
    iterate 7 refine aD rfl rfl rfl rfl ?_
    refine pE rfl (WO.nil (qs (W.lB rfl (W.region ?_))));iterate 3 refine pE rfl ?_
    refine pE rfl ?_;have N:ar (ah s) i15 < (ah s).length:=b6 fun e=>by rw[e] at g19;simp at g19
    have hp:cR (ah s)=.no (ar (ah s) i15) 10:=by unfold cR;rw[hc15];dsimp only;rw[if_pos N]
    refine oM [] [] rfl rfl rfl rfl rfl (cI (ar (ah s) i15) 10) rfl rfl (by rfl) ?_;repeat' refine bW ?_
    rw[hp];exact⟨⟨rfl,_,_,_,_,_,_,_,rfl,rfl,rfl⟩,rfl,rfl,rfl⟩
   refine aG rfl rfl (pE rfl (aG rfl rfl (pE rfl (aG rfl rfl (pE rfl (aG rfl rfl (pE rfl (aG rfl rfl (pE rfl (aG rfl rfl (pE rfl (aG rfl rfl ?_))))))))))));iterate 2 refine pE rfl ?_
   refine WO.nil (qs (an rfl (fun Z=>?_) (fun Z=>?_)));·
    refine W.region ?_;iterate 3 refine pE rfl ?_
    refine pE rfl ?_;have N:ar (ah s) i15 < (ah s).length:=by rw[aw];simp at Z;omega
    have hp:cR (ah s)=.no (ar (ah s) i15) 10:=by unfold cR;rw[hc15];dsimp only;rw[if_pos N]
    refine oM [] [] rfl rfl rfl rfl rfl (cI (ar (ah s) i15) 10) rfl rfl (by rfl) ?_;repeat' refine bW ?_
    rw[hp];exact⟨⟨rfl,_,_,_,_,_,_,_,rfl,rfl,rfl⟩,rfl,rfl,rfl⟩
   have N:¬ ar (ah s) i15 < (ah s).length:=by rw[aw];simp at Z;omega
   have hp:cR (ah s)=.ok cl 0:=by unfold cR;rw[hc15];dsimp only;rw[if_neg N]
   refine W.skip (qs (W.seq (W.region (pE rfl ?_))));iterate 3 refine ax aa rfl rfl rfl rfl rfl rfl rfl rfl ?_
   refine WO.nil (qs (W.ret ?_));rw[hp];exact⟨⟨rfl,rfl,rfl,rfl⟩,rfl,rfl,rfl⟩
 case hB=>
  rintro e ⟨M,df⟩ w2 ⟨ad,⟨f2,cq,c6,a7⟩,⟨G2,ai⟩,hq,k0,k1,k2⟩;have ad:df=pD 70 I b1 J::C.ds:=ad;subst ad;have aj:ao { C with bx:=[I,b1,J],ds:=pD 70 I b1 J::C.ds } 34 ⟨f2,cq,[],a7⟩ G2 M w2:={ ai with live:=fun g h=>by cases h };rw[b3];have hE:=wS (l:=ah s);have cx:=fun a w=>BK (l:=ah s) (a:=a) (w:=w)
  cases hA:cR (ah s) with
  | ok v i=>rw[hA] at hq;obtain⟨rfl,q0,q1,q2⟩:=hq;show Leaves _ _ M _ (pD 70 I b1 J::C.ds) .returning w2;rw[U];refine leaves_cons (by simp) (Cg I b1 J w2) (CallsD.mono (Di a6 rfl aj) ?_);rintro r u' w3 ⟨v3,G3,rfl,rfl,a1⟩;exact rB aa (rs:=[.cell 2 46,.cell 3 3,.cell 4 31]) O ai k0 k1 k2 (DZ a1 q0 q1 q2) Tryz.results23 rfl rfl
  | no a w=>
   rw[hA] at hq hE;obtain⟨rfl,x0,x1,x2,x3,x4,y0,z0,q0,q1,q2⟩:=hq;have ha:a≤s.size:=by have:=cx a w hA;rwa [aw] at this
   have hw:cm (.int .i64 (a:Int))=true∧cm (.int .i64 w)=true:=by refine⟨by simp[cm,IntKind.min,IntKind.max,IntKind.signed,IntKind.bits];omega,?_⟩;rcases hE with rfl | rfl | rfl | rfl <;> rfl
   show Leaves _ _ M _ (pD 70 I b1 J::C.ds) (.panicking [{ v:=gu 128 a w,recovered:=false }]) w2;rw[U];refine leaves_cons (by simp) (Cg I b1 J w2) (CallsD.mono (CB a6 hw rfl aj q0 q1 q2) ?_);rintro r u' w3 ⟨v3,G3,c7,cy,rfl,rfl,r0,r1,r2,a1⟩;exact rB aa (rs:=[.cell 2 46,.cell 3 3,.cell 4 31]) O ai k0 k1 k2 (DZ a1 r0 r1 r2) Tryz.results23 rfl rfl
end Go.Proofs.YtpiaiiopakafhaaGreatDoor
namespace Go.Proofs.YtpiaiiopakafhaaGreatDoor
open Go.Ab Go.Tb
set_option maxRecDepth 10000
set_option maxHeartbeats 1000000
attribute [local irreducible] W WO Pu QS QB QL QF QV bu CH QE
theorem A1 (s:ByteArray):∃ (v:JV) (a e:Int),az Tryz.prog 23 [.d (.v (.string s))] (.tup [.ag v.c,.d (ci a),.d (ci e)]) 0∧(e≠0→gF s=(jr,e))∧(e=0→s.size≤65536∧∃ i,cR (ah s)=.ok v i):=by
 have h:=BM s;unfold mc at h;by_cases hs:65536 < s.size;·
  rw[if_pos hs] at h;exact⟨_,_,_,h,fun _=>by unfold gF;rw[if_pos hs],fun q=>by cases q⟩
 rw[if_neg hs] at h
 cases hp:cR (ah s) with
 | ok v i=>rw[hp] at h;exact⟨v,_,_,h,fun q=>absurd rfl q,fun _=>⟨by omega,i,rfl⟩⟩
 | no a w=>rw[hp] at h;have hw:=wS (l:=ah s);rw[hp] at hw;have hw:w=2∨w=4∨w=10∨w=20:=hw;exact⟨_,_,_,h,fun _=>by unfold gF;rw[if_neg hs,hp],fun q=>by omega⟩
theorem zP {z:eV} {id:Int} {cur:List Ev} {ps:List aW} (h:cur=[]→dy z id=[]) (q:cur.map Ev.c=[]) :
 ([[.own 3 ((ps++dy z id).map aW.c)],[.d (ci id)],[.d (ci (cur.length:Int))]]:List (List A))=[[.own 3 (ps.map aW.c)],[.d (ci id)],[.d (ci 0)]]∧1=1:=by
 have q:cur=[]:=by simpa using q
 rw[h q,q,List.append_nil];exact⟨rfl,rfl⟩
set_option maxHeartbeats 1000000 in
theorem nk (s:ByteArray) (di:∀ v i,cR (ah s)=.ok v i→uc v):az Tryz.prog 9 [.d (.v (.string s))] (.tup [.ag (gF s).1.c,.d (ci (gF s).2)]) 0:=by
 obtain⟨v,a,e,hP,dj,dt⟩:=A1 s;refine az.Fx aa (n:=107) (rs:=[.cell 2 30,.tmp 3]) Tryz.func9 (by kernel_rfl) rfl Tryz.ntmps9 Tryz.results9 rfl fun C I J=>?_;haveI hC:NB C 0:=⟨by rw[I];rfl⟩;refine Wd.gx I fun C hC J=>?_;refine W.region (aL aa rfl rfl rfl (pE rfl (WO.nil (jg rfl ?_))));refine Wd.gx I fun C hC J=>?_;refine W.region (pE rfl (pu (ay rfl rfl rfl hP rfl) rfl ?_));iterate 4 refine pE rfl ?_
 refine aL aa rfl rfl rfl (ax aa rfl rfl rfl rfl rfl rfl rfl rfl ?_);iterate 2 refine pE rfl ?_
 refine WO.nil (jg rfl ?_);refine Wd.gx I fun C hC J=>?_;refine W.seq (W.region ?_);iterate 2 refine pE rfl ?_
 refine WO.nil (qs (an rfl (fun aj=>?_) (fun aj=>?_)));·
  have hg:=dj (by simpa using aj);refine W.seq (W.region (pu (jG (build aa rfl rfl rfl rfl) rfl) rfl ?_));refine pE rfl (ax aa rfl rfl rfl rfl rfl rfl rfl rfl (pE rfl (WO.nil (qs (W.ret (uh rfl ?_))))));refine uX ?_;refine⟨trivial,_,rfl,?_⟩;rw[hg];rfl
 have dx:e=0:=by simpa using aj
 obtain⟨e3,i,cl⟩:=dt dx;have O:=di v i cl;have X:gF s=if v.op≠5 then (jr,10) else if (cG v.kids x0).2≠0 then (jr,(cG v.kids x0).2) else cQ ((cG v.kids x0).1.ids.map (iw (cG v.kids x0).1)) ((cG v.kids x0).1.ids.flatMap (dy (cG v.kids x0).1)):=by unfold gF;rw[if_neg (by omega),cl]
 refine W.skip (jg rfl ?_);refine Wd.gx I fun C hC J=>?_;refine W.seq (W.region (pE rfl (pE rfl (pE rfl (WO.nil (qs (an rfl (fun a1=>?_) (fun a1=>?_))))))));·
  have hg:gF s=(jr,10):=by rw[X,if_pos (by simpa using a1)]
  refine W.seq (W.region (pu (jG (build aa rfl rfl rfl rfl) rfl) rfl ?_));refine ax aa rfl rfl rfl rfl rfl rfl rfl rfl (pE rfl (WO.nil (qs (W.ret (uh rfl ?_)))));refine uX ?_;refine⟨trivial,_,rfl,?_⟩;rw[hg];rfl
 have ed:¬ v.op≠5:=by simpa using a1
 rw[if_neg ed] at X;refine W.skip (jg rfl ?_);refine Wd.gx I fun C hC J=>?_;refine W.region (mkMap rfl ?_);refine DY rfl ?_;refine pu (build aa rfl rfl rfl rfl) rfl ?_;refine cw rfl rfl rfl (pE rfl (WO.nil (jg rfl ?_)));refine Wd.gx I fun C hC J=>?_;refine W.seq (W.region (pE rfl (pE rfl ?_)));iterate 2 refine pE rfl ?_
 refine WO.nil (qs (W.block (eg 4 0 rfl rfl rfl ?_)));refine W.len (t:=37) rfl rfl (fun hlen=>?_);try simp only[List.length_map,Ex.aF] at hlen
 refine W.bF (ι:={x:Nat×eV // match x with | (k,z)=>k≤v.kids.length∧cG (v.kids.drop k) z=cG v.kids x0∧sN k z∧EX z})
  (fun x=>match x.1 with | (k,z)=>[(2,.ptr 0 0),(7,.ptr 1 0),(39,.d (.v (.int .i64 ((k:Nat):Int))))]) [(37,_),(38,_)]
  (fun x=>match x.1 with | (k,z)=>[(0,[.d (.v (.slice none 0 0)),.d (.v (.slice none 0 0)),.d (.v (.slice none 0 0)),.d (.v (.slice none 0 0))]),(1,qP 2 z)]) [] [2,3,4] 5 (fun x=>match x.1 with | (k,z)=>v.kids.length - k)
  [0,4,5,2,3] ⟨(0,x0),?_⟩ rfl ?_ ⟨rfl,rfl,rfl,rfl,trivial⟩ ?_ trivial rfl ?_
 ·exact⟨Nat.zero_le _,rfl,⟨List.nodup_nil,List.nodup_nil,Nat.le_refl _,by simp[x0]⟩,List.nodup_nil,by simp[x0]⟩
 ·repeat' first | exact trivial | refine⟨rfl,?_⟩
 ·repeat' first | exact trivial | refine⟨rfl,?_⟩
 rintro⟨⟨k,z⟩,hk,N,M,cq⟩;show W _ _ _ _ _ ⟨[(2,.ptr 0 0),(7,.ptr 1 0),(39,.d (.v (.int .i64 ((k:Nat):Int)))),(37,_),(38,_)],[(0,[.d (.v (.slice none 0 0)),.d (.v (.slice none 0 0)),.d (.v (.slice none 0 0)),.d (.v (.slice none 0 0))]),(1,qP 2 z)],[2,3,4],5⟩;refine W.seq (W.region (pE rfl (WO.nil (qs (W.seq (ca (l:=v.kids) (k:=k) rfl (by simp[JV.aF]) hk (fun j U hd a6=>?_) (fun he hd=>?_)))))));·
  have ei:uR j:=O.kids j (List.mem_of_getElem? U);have ej:=O.tids j (List.mem_of_getElem? U);have e4:=O.len;have e5:v.kids.length≤maxLen:=by simp only[maxLen];omega
  have en:sN 1000000 z:=⟨M.1,M.2.1,by have:=M.2.2.1;omega,fun p hp=>by have:=M.2.2.2 p hp;omega⟩;rw[hd,cG] at N;refine W.skip (qs (W.seq (W.block (W.seq (W.region (pu (indexAddr (l:=j.c) aa rfl rfl rfl rfl rfl rfl (Int.natCast_nonneg _) (JV.zu U) rfl) rfl ?_))))));refine pE rfl (aL aa rfl rfl rfl (ax aa rfl rfl rfl rfl rfl rfl rfl rfl (WO.nil (qs (W.seq (W.region (pE rfl (pE rfl (aE [1] [2,3,4] rfl rfl rfl rfl rfl ((zO z j ei en)) rfl rfl (by rfl) (by rfl) rfl rfl rfl rfl ?_)))))))));refine pE rfl (WO.nil (qs (W.seq (W.region ?_))));iterate 2 refine pE rfl ?_
  refine WO.nil (qs (an rfl (fun a7=>?_) (fun a7=>?_)));·
   have a8:(dk z j).2≠0:=by simpa using a7
   rw[if_pos a8] at N;have hg:gF s=(jr,(dk z j).2):=by rw[X,if_pos (by rw[←N];exact a8),←N]
   refine W.seq (W.region (pu (jG (build aa rfl rfl rfl rfl) rfl) rfl ?_));refine pE rfl (ax aa rfl rfl rfl rfl rfl rfl rfl rfl (pE rfl (WO.nil (qs (W.ret (aJ (aA (dV (aJ (uh rfl ?_))))))))));refine uX ?_;refine⟨trivial,_,rfl,?_⟩;rw[hg];rfl
  rw[if_neg (by simpa using a7)] at N;refine W.skip (bz (qs (W.region ?_)));iterate 2 refine pE rfl ?_
  refine WO.nil (W.bU [0,1,7,8,9] ⟨(k+1,(dk z j).1),?_⟩ ?_ rfl ?_ ⟨rfl,rfl,rfl,rfl,trivial⟩ ?_ trivial rfl);·exact⟨a6,N,AW M j,A9 cq ej⟩
  ·dsimp only;omega
  ·repeat' first | exact trivial | refine⟨rfl,?_⟩ | refine⟨aP (by assumption) (by assumption),?_⟩
  repeat' first | exact trivial | refine⟨rfl,?_⟩
 rw[hd] at N;have N:(z,0)=cG v.kids x0:=N;have Z:=O.evs;rw[←N] at Z X;have Z:=Z rfl;have X:gF s=cQ (z.ids.map (iw z)) (z.ids.flatMap (dy z)):=X;have ai:=Ef Z;have e6:z.ids.length≤maxLen:=by have:=M.2.2.1;have:=O.len;simp only[maxLen];omega
 have e2:z.ids.length≤100000:=by have:=M.2.2.1;have:=O.len;omega
 refine W.exit (bb (be (ba (jg rfl ?_))));refine Wd.gx I fun C hC J=>?_;refine W.region (pu (jG (build aa rfl rfl rfl rfl) rfl) rfl ?_);refine pu (aZ aa rfl rfl rfl rfl rfl rfl rfl rfl rfl) rfl ?_;refine pu (build aa rfl rfl rfl rfl) rfl ?_;refine aL aa rfl rfl rfl (ax aa rfl rfl rfl rfl rfl rfl rfl rfl (WO.nil (jg rfl ?_)));refine Wd.gx I fun C hC J=>?_;refine W.region (aL aa rfl rfl rfl (WO.nil (jg rfl ?_)));refine Wd.seq ?_;refine Wd.gx I fun C hC J=>?_;refine eg 5 0 rfl rfl rfl ?_;refine gr 5 2 rfl rfl rfl ?_;refine eg 6 0 rfl rfl rfl ?_;refine W.region ?_;iterate 3 refine pE rfl ?_
 refine pE rfl ?_;iterate 2 refine pE rfl ?_
 refine WO.nil (jg rfl ?_);refine Wd.block ?_
 refine Wd.bF (ι:={x:Nat×List bJ×List aW // match x with | (k,ts,ps)=>k≤z.ids.length∧ts=(z.ids.take k).map (iw z)∧ps=(z.ids.take k).flatMap (dy z)})
  (fun x=>match x.1 with | (k,ts,ps)=>[(2,.ptr 0 0),(7,.ptr 1 0),(11,.ptr 2 0),(12,.ptr 3 0),(57,.own 4 (z.ids.map ic)),(59,.d (.v (.int .i64 ((k:Nat):Int))))]) [(58,_)]
  (fun x=>match x.1 with | (k,ts,ps)=>[(0,[.d (.v (.slice none 0 0)),.d (.v (.slice none 0 0)),.d (.v (.slice none 0 0)),.d (.v (.slice none 0 0))]),(1,qP 4 z),(2,[.own 7 (ts.map bJ.c),.d (.sl (dq.map eB)),.d (.sl [])]),(3,[.own 8 (ps.map aW.c)])]) [] [4,5,6,7,8] 9 (fun x=>match x.1 with | (k,ts,ps)=>z.ids.length - k)
  [0,1,5,6,2,3,4,7,8] ⟨(0,[],[]),?_⟩ rfl ?_ ⟨rfl,rfl,trivial⟩ ?_ trivial rfl ?_
 ·exact⟨Nat.zero_le _,rfl,rfl⟩
 ·repeat' first | exact trivial | refine⟨rfl,?_⟩
 ·repeat' first | exact trivial | refine⟨rfl,?_⟩
 rintro⟨⟨k,ts,ps⟩,hk,b0,b2⟩;show Wd _ _ _ _ _ ⟨[(2,.ptr 0 0),(7,.ptr 1 0),(11,.ptr 2 0),(12,.ptr 3 0),(57,.own 4 (z.ids.map ic)),(59,.d (.v (.int .i64 ((k:Nat):Int)))),(58,_)],[(0,[.d (.v (.slice none 0 0)),.d (.v (.slice none 0 0)),.d (.v (.slice none 0 0)),.d (.v (.slice none 0 0))]),(1,qP 4 z),(2,[.own 7 (ts.map bJ.c),.d (.sl (dq.map eB)),.d (.sl [])]),(3,[.own 8 (ps.map aW.c)])],[4,5,6,7,8],9⟩;refine Wd.gx I fun C hC J=>?_;refine W.region (pE rfl (WO.nil (jg rfl ?_)));refine Wd.gx I fun C hC J=>?_;refine ca (l:=z.ids) (k:=k) rfl (by simp[Ex.aF,aw]) hk (fun id U hd a6=>?_) (fun he hd=>?_);·
  have hid:=cq.2 id (List.mem_of_getElem? U);obtain⟨cur,ad⟩:∃ cur,cur=(bO z.evs id).getD []:=⟨_,rfl⟩;have cx:cur≠[]→dy z id=[⟨id,0,0,cur⟩]:=fun q=>by unfold dy;rw[←ad,if_neg q]
  have c6:cur=[]→dy z id=[]:=fun q=>by unfold dy;rw[←ad,if_pos q]
  have cy:(cur.map Ev.c).length≤1000:=by
   rw[List.length_map];by_cases q:cur=[];·simp[q]
   have hm:(⟨id,0,0,cur⟩:aW)∈z.ids.flatMap (dy z):=List.mem_flatMap.2 ⟨id,List.mem_of_getElem? U,by rw[cx q];exact List.mem_singleton.2 rfl⟩;exact Nat.le_trans (xu hm) Z
  have ff:ts.length≤100000:=by rw[b0,List.length_map,List.length_take];omega
  have fj:ps.length≤100000:=by rw[b2];exact nf z (z.ids.take k) (by rw[List.length_take];omega)
  have e0:ts++[iw z id]=(z.ids.take (k+1)).map (iw z):=by rw[b0,List.take_add_one,U,List.map_append];rfl
  have e1:ps++dy z id=(z.ids.take (k+1)).flatMap (dy z):=by rw[b2,List.take_add_one,U,List.flatMap_append];simp
  have c1:nameOf z.names id=if (bO z.names id).getD aY=aY then B #[116]++cT id else (bO z.names id).getD aY:=rfl;refine W.skip (jg rfl ?_);refine Wd.seq ?_;refine Wd.block ?_;refine Wd.gx I fun C hC J=>?_;refine W.region (pu (indexAddr aa rfl rfl rfl rfl rfl rfl (Int.natCast_nonneg _) (aV (f:=ic) U) rfl) rfl ?_);refine pE rfl (aL aa rfl rfl rfl (ax aa rfl rfl rfl rfl rfl rfl rfl rfl (WO.nil (jg rfl ?_))));refine Wd.gx I fun C hC J=>?_;refine W.eW aa (by kernel_rfl) ?_;iterate 3 refine aK (ev aa rfl) rfl ?_
  refine aK (ev aa rfl) rfl ?_;refine aK (ev aa rfl) rfl ?_;refine aK (kF (kf:=ik) (vf:=cs) (l:=z.names) (a:=id) (z:=aY) aa rfl rfl rfl rfl rfl (fN (aa.fa rfl rfl)) rfl rfl rfl (fun _ _=>.v _ rfl) M.1 rfl) rfl ?_;refine aK (ev aa rfl) rfl ?_;refine CH.nil ?_;refine jg rfl ?_;refine Wd.gx I fun C hC J=>?_;refine W.seq (W.region ?_);iterate 2 refine pE rfl ?_
  refine WO.nil (qs (W.nI [(2,.ptr 0 0),(7,.ptr 1 0),(11,.ptr 2 0),(12,.ptr 3 0),(14,.ptr 4 0),(15,.d (cs (nameOf z.names id))),(57,.own 5 (z.ids.map ic))] [58,59] [(0,[.d (.v (.slice none 0 0)),.d (.v (.slice none 0 0)),.d (.v (.slice none 0 0)),.d (.v (.slice none 0 0))]),(1,qP 5 z),(2,[.own 8 (ts.map bJ.c),.d (.sl (dq.map eB)),.d (.sl [])]),(3,[.own 9 (ps.map aW.c)]),(4,[.d (ci id)])] [] [5,6,7,8,9] 10 ?_ ?_));·
   refine an rfl (fun b3=>?_) (fun b3=>?_);·
    have ch:(bO z.names id).getD aY=aY:=of_decide_eq_true b3;rw[show nameOf z.names id=B #[116]++cT id from by rw[c1,if_pos ch]];refine W.region (pE rfl (pu (ay rfl rfl rfl (lZ id (by omega) (by omega)) rfl) rfl ?_));refine pu (DG (p:=B #[116]) (q:=cT id) rfl rfl (DF hid)) rfl ?_;refine pE rfl (WO.nil (dN [0,1,2,3,9,4,5,6,7,8] rfl ?_ ⟨rfl,rfl,rfl,rfl,trivial⟩ ?_ trivial rfl));·repeat' first | exact trivial | refine⟨rfl,?_⟩
    repeat' first | exact trivial | refine⟨rfl,?_⟩
   have ch:¬ (bO z.names id).getD aY=aY:=of_decide_eq_false b3;rw[show nameOf z.names id=(bO z.names id).getD aY from by rw[c1,if_neg ch]];refine W.skip (dN [0,1,2,3,9,4,5,6,7,8] rfl ?_ ⟨rfl,rfl,rfl,rfl,trivial⟩ ?_ trivial rfl);·repeat' first | exact trivial | refine⟨rfl,?_⟩
   repeat' first | exact trivial | refine⟨rfl,?_⟩
  refine jg rfl ?_;refine Wd.gx I fun C hC J=>?_;refine W.region (pE rfl (pE rfl (pE rfl (pE rfl (pu (build aa rfl rfl rfl rfl) rfl ?_)))));refine pu (aZ aa rfl rfl rfl rfl rfl rfl rfl rfl rfl) rfl ?_;refine eu (fn:=bJ.c) (a:=iw z id) aa rfl rfl rfl rfl rfl rfl rfl rfl rfl rfl (fun _=>rfl) (by show(ts.length+1)*32≤_;omega) ?_;refine pE rfl (ax aa rfl rfl rfl rfl rfl rfl rfl rfl (WO.nil (jg rfl ?_)));refine Wd.gx I fun C hC J=>?_;refine W.region (aL aa rfl rfl rfl (ax aa rfl rfl rfl rfl rfl rfl rfl rfl (WO.nil (jg rfl ?_))));refine Wd.gx I fun C hC J=>?_;refine W.eW aa (by kernel_rfl) ?_;iterate 3 refine aK (ev aa rfl) rfl ?_
  refine aK (ev aa rfl) rfl ?_;refine aK (ev aa rfl) rfl ?_;refine aK (AX (kf:=ik) (fn:=Ev.c) (l:=z.evs) (a:=id) (r:=cur.map Ev.c) aa rfl rfl rfl rfl rfl (fN (aa.fa rfl rfl)) rfl rfl rfl M.2.1 (by rw[ad])) rfl ?_;refine aK (ay rfl rfl rfl (AM cur) rfl) rfl ?_;refine CH.nil ?_;refine jg rfl ?_;refine Wd.block ?_;refine Wd.D7 (V:=[(12,.ptr 0 0),(14,.ptr 1 0),(16,.ptr 2 0)]) (es:=cur.map Ev.c) (b1:=[[.own 3 ((ps++dy z id).map aW.c)],[.d (ci id)],[.d (ci (cur.length:Int))]]) (k:=1) rfl ⟨_,Tryz.func77,by kernel_rfl,by kernel_rfl⟩ AI Ap cy rfl rfl [3,4,11] [9] rfl rfl rfl rfl rfl (zY.look ⟨⟨_,rfl,rfl⟩,⟨_,rfl,rfl⟩,⟨_,rfl,rfl⟩,trivial⟩) rfl (zP c6) (fun cj=>?_) rfl ?_;have cj:cur≠[]:=by simpa using cj
  rw[show dy z id=[⟨id,0,0,cur⟩] from cx cj];·
   refine nU.Gk rfl rfl rfl fun C hC J=>?_;refine pE rfl (pE rfl (pE rfl (pE rfl (pu (build aa rfl rfl rfl rfl) rfl ?_))));refine pu (aZ aa rfl rfl rfl rfl rfl rfl rfl rfl rfl) rfl ?_;refine eu (fn:=aW.c) (a:=⟨id,0,0,cur⟩) aa rfl rfl rfl rfl rfl rfl rfl rfl rfl rfl (fun _=>rfl) (by show(ps.length+1)*48≤_;omega) ?_;refine ax aa rfl rfl rfl rfl rfl rfl rfl rfl (WO.nil (⟨rfl,?_⟩));refine pE rfl ?_;iterate 2 refine pE rfl ?_
   refine pu (dn (ev aa rfl) (y:=(cur.length:Int)) (by show IntKind.i64.wrap ((0:Int)+((cur.map Ev.c).length:Nat))=_;rw[List.length_map] at cy ⊢;rw[wrap64 (by omega)];omega)) rfl ?_;refine ax aa rfl rfl rfl rfl rfl rfl rfl rfl (WO.nil (⟨rfl,QR.mk' [4] rfl rfl rfl ⟨⟨_,rfl,rfl⟩,⟨_,rfl,rfl⟩,⟨_,rfl,rfl⟩,trivial⟩⟩))
  refine bz (bz (FK ?_));refine Wd.D3 I fun C hC J=>?_;refine W.region ?_;iterate 2 refine pE rfl ?_
  refine WO.nil (Ge rfl ?_);refine Wd.bU [0,1,2,3,5,6,7,10,15] ⟨(k+1,ts++[iw z id],ps++dy z id),?_⟩ ?_ rfl ?_ ⟨rfl,rfl,trivial⟩ ?_ trivial rfl;·exact⟨a6,e0,e1⟩
  ·dsimp only;omega
  ·repeat' first | exact trivial | refine⟨rfl,?_⟩ | refine⟨aP (by assumption) (by assumption),?_⟩
  repeat' first | exact trivial | refine⟨rfl,?_⟩
 have c7:ts=z.ids.map (iw z):=by rw[b0,List.take_of_length_le (by omega)]
 have df:ps=z.ids.flatMap (dy z):=by rw[b2,List.take_of_length_le (by omega)]
 have ai:rG (z.ids.map (iw z)) (z.ids.flatMap (dy z)):=ai;rw[←c7,←df] at ai X;refine W.exit (EO rfl ?_);refine Db ?_;refine Dq ?_;refine ba (FK ?_);refine Wd.gx I fun C hC J=>?_;refine W.region (pE rfl (pE rfl (pu (ay rfl rfl rfl (uU ts ps ai) rfl) rfl ?_)));iterate 2 refine pE rfl ?_
 refine ax aa rfl rfl rfl rfl rfl rfl rfl rfl (pE rfl (WO.nil (jg rfl ?_)));refine Wd.D3 I fun C hC J=>?_;refine W.ret (uh rfl ?_);refine⟨trivial,_,rfl,?_⟩;rw[X];rfl
end Go.Proofs.YtpiaiiopakafhaaGreatDoor
namespace Go.Proofs.YtpiaiiopakafhaaGreatDoor
open Go.Ab Go.Tb
set_option maxRecDepth 10000
set_option maxHeartbeats 1000000
attribute [local irreducible] W WO Pu QS QB QL QF QV bu CH QE
abbrev Bz:ByteArray:=B #[91,123,34,112,104,34,58,34,77,34,44,34,116,105,100,34,58,51,44,34,110,97,109,101,34,58,34,109,97,105,110,34,125,44,123,34,112,104,34,58,34,66,34,44,34,116,105,100,34,58,51,44,34,110,97,109,101,34,58,34,97,34,44,34,116,115,34,58,53,125,44,123,34,112,104,34,58,34,69,34,44,34,116,105,100,34,58,51,44,34,116,115,34,58,57,125,93]
abbrev EI:ByteArray:=B #[91,123,34,112,104,34,58,34,69,34,44,34,116,105,100,34,58,51,44,34,116,115,34,58,57,44,34,110,97,109,101,34,58,34,97,34,125,93]
abbrev rU:List bJ:=[⟨3,B #[109,97,105,110]⟩]
abbrev sD:List aW:=[⟨3,0,0,[⟨5,1,B #[97],0,0,[]⟩,⟨9,2,B #[],0,0,[]⟩]⟩]
theorem Gi:gF Bz=(⟨rU,dq,sD⟩,0):=by kernel_rfl
theorem Gb:(gF EI).2=10:=by kernel_rfl
theorem Gg:(gF (B #[91,93])).2=8:=by kernel_rfl
theorem Gc:jj rU sD=(Bz,0):=by kernel_rfl
theorem F4:rG rU sD:=⟨by decide,by decide,by decide⟩
theorem FZ:(aq (eh rU sD)).length≤1000000000000:=by
 have:(aq (eh rU sD)).length=97:=by kernel_rfl
 omega
theorem yK (s:ByteArray) (h:s.size≤3000):az Tryz.prog 9 [.d (.v (.string s))] (.tup [.ag (gF s).1.c,.d (ci (gF s).2)]) 0:=nk s fun v i hp=>ye hp h
theorem tK:az Tryz.prog 8 [] (.d (.v (.bool true))) 0:=by
 have h1:=yK Bz (by decide);rw[Gi] at h1;have h2:=yK EI (by decide);rw[Gb] at h2;have h3:=yK (B #[91,93]) (by decide);rw[Gg] at h3;have h4:=nj rU sD F4 (fun _=>FZ);rw[Gc] at h4;refine az.bl (n:=75) (ts:=[0]) Tryz.func8 (by kernel_rfl) rfl Tryz.ntmps8 Tryz.results8 rfl rfl fun C hC I=>?_;refine W.seq (W.region (pE rfl (WO.nil (qs (W.seq (W.region (pu (ay rfl rfl rfl h1 rfl) rfl ?_)))))));iterate 3 refine pE rfl ?_
 refine aL aa rfl rfl rfl (ax aa rfl rfl rfl rfl rfl rfl rfl rfl (pE rfl (WO.nil (qs (W.seq (W.region (pE rfl (pu (ay rfl rfl rfl h4 rfl) rfl ?_))))))));iterate 5 refine pE rfl ?_
 refine WO.nil (qs (W.seq (W.region (pu (ay rfl rfl rfl h2 rfl) rfl ?_))));iterate 3 refine pE rfl ?_
 refine aL aa rfl rfl rfl (ax aa rfl rfl rfl rfl rfl rfl rfl rfl (pE rfl (WO.nil (qs (W.seq (W.region (pu (ay rfl rfl rfl h3 rfl) rfl ?_)))))));iterate 3 refine pE rfl ?_
 refine aL aa rfl rfl rfl (ax aa rfl rfl rfl rfl rfl rfl rfl rfl (pE rfl (WO.nil (qs (W.seq ?_)))));apply aO;(case hb=>rfl);·
  iterate 3 refine pE rfl ?_
  apply bj;(case hj=>rfl);(case hl=>rfl);·
   refine aG rfl rfl (pE rfl (aG rfl rfl (pE rfl (aG rfl rfl (pE rfl (aG rfl rfl (pE rfl (aG rfl rfl ?_))))))));iterate 3 refine pE rfl ?_
   apply bj;(case hj=>rfl);(case hl=>rfl);·
    refine aG rfl rfl (pE rfl (aG rfl rfl (pE rfl (aG rfl rfl (pE rfl (aG rfl rfl (pu (indexAddr (l:=bJ.c ⟨3,B #[109,97,105,110]⟩) aa rfl rfl rfl rfl rfl rfl (by decide) rfl rfl) rfl ?_)))))));refine aG rfl rfl (pE rfl (aG rfl rfl (pu (build aa rfl rfl rfl rfl) rfl ?_)));refine aG rfl rfl ?_;iterate 3 refine pE rfl ?_
    apply bj;(case hj=>rfl);(case hl=>rfl);·
     refine aG rfl rfl (pE rfl (aG rfl rfl (pE rfl (aG rfl rfl (pE rfl (aG rfl rfl ?_))))));iterate 3 refine pE rfl ?_
     apply bj;(case hj=>rfl);(case hl=>rfl);·
      refine aG rfl rfl (pE rfl (aG rfl rfl (pE rfl (aG rfl rfl (pu (indexAddr (l:=aW.c ⟨3,0,0,[⟨5,1,B #[97],0,0,[]⟩,⟨9,2,B #[],0,0,[]⟩]⟩) aa rfl rfl rfl rfl rfl rfl (by decide) rfl rfl) rfl ?_)))));refine aG rfl rfl (pE rfl (aG rfl rfl (pE rfl (aG rfl rfl (pE rfl (aG rfl rfl ?_))))));iterate 3 refine pE rfl ?_
      apply bj;(case hj=>rfl);(case hl=>rfl);·
       refine aG rfl rfl (pE rfl (aG rfl rfl ?_));iterate 3 refine pE rfl ?_
       apply bj;(case hj=>rfl);(case hl=>rfl);·
        refine aG rfl rfl (pE rfl (aG rfl rfl ?_));iterate 3 refine pE rfl ?_
        apply bj;(case hj=>rfl);(case hl=>rfl);·
         refine aG rfl rfl (pE rfl (aG rfl rfl ?_));iterate 3 refine pE rfl ?_
         apply bj;(case hj=>rfl);(case hl=>rfl);·
          refine aG rfl rfl (pE rfl (aG rfl rfl ?_));iterate 3 refine pE rfl ?_
          refine WO.nil (bt rfl rfl rfl)
         iterate 2 refine aD rfl rfl rfl rfl ?_
         iterate 2 refine pE rfl ?_
         refine WO.nil (bt rfl rfl rfl)
        iterate 2 refine aD rfl rfl rfl rfl ?_
        iterate 2 refine pE rfl ?_
        iterate 2 refine aD rfl rfl rfl rfl ?_
        iterate 2 refine pE rfl ?_
        refine WO.nil (bt rfl rfl rfl)
       iterate 2 refine aD rfl rfl rfl rfl ?_
       iterate 2 refine pE rfl ?_
       iterate 2 refine aD rfl rfl rfl rfl ?_
       iterate 2 refine pE rfl ?_
       iterate 2 refine aD rfl rfl rfl rfl ?_
       iterate 2 refine pE rfl ?_
       refine WO.nil (bt rfl rfl rfl)
      iterate 2 refine aD rfl rfl rfl rfl ?_
      iterate 2 refine pE rfl ?_
      iterate 2 refine aD rfl rfl rfl rfl ?_
      iterate 2 refine pE rfl ?_
      iterate 2 refine aD rfl rfl rfl rfl ?_
      iterate 2 refine pE rfl ?_
      iterate 2 refine aD rfl rfl rfl rfl ?_
      iterate 2 refine pE rfl ?_
      refine WO.nil (bt rfl rfl rfl)
     iterate 7 refine aD rfl rfl rfl rfl ?_
     iterate 2 refine pE rfl ?_
     iterate 2 refine aD rfl rfl rfl rfl ?_
     iterate 2 refine pE rfl ?_
     iterate 2 refine aD rfl rfl rfl rfl ?_
     iterate 2 refine pE rfl ?_
     iterate 2 refine aD rfl rfl rfl rfl ?_
     iterate 2 refine pE rfl ?_
     iterate 2 refine aD rfl rfl rfl rfl ?_
     iterate 2 refine pE rfl ?_
     refine WO.nil (bt rfl rfl rfl)
    iterate 4 refine aD rfl rfl rfl rfl ?_
    iterate 2 refine pE rfl ?_
    iterate 7 refine aD rfl rfl rfl rfl ?_
    iterate 2 refine pE rfl ?_
    iterate 2 refine aD rfl rfl rfl rfl ?_
    iterate 2 refine pE rfl ?_
    iterate 2 refine aD rfl rfl rfl rfl ?_
    iterate 2 refine pE rfl ?_
    iterate 2 refine aD rfl rfl rfl rfl ?_
    iterate 2 refine pE rfl ?_
    iterate 2 refine aD rfl rfl rfl rfl ?_
    iterate 2 refine pE rfl ?_
    refine WO.nil (bt rfl rfl rfl)
   iterate 7 refine aD rfl rfl rfl rfl ?_
   iterate 2 refine pE rfl ?_
   iterate 4 refine aD rfl rfl rfl rfl ?_
   iterate 2 refine pE rfl ?_
   iterate 7 refine aD rfl rfl rfl rfl ?_
   iterate 2 refine pE rfl ?_
   iterate 2 refine aD rfl rfl rfl rfl ?_
   iterate 2 refine pE rfl ?_
   iterate 2 refine aD rfl rfl rfl rfl ?_
   iterate 2 refine pE rfl ?_
   iterate 2 refine aD rfl rfl rfl rfl ?_
   iterate 2 refine pE rfl ?_
   iterate 2 refine aD rfl rfl rfl rfl ?_
   iterate 2 refine pE rfl ?_
   refine WO.nil (bt rfl rfl rfl)
  iterate 5 refine aD rfl rfl rfl rfl ?_
  iterate 2 refine pE rfl ?_
  iterate 7 refine aD rfl rfl rfl rfl ?_
  iterate 2 refine pE rfl ?_
  iterate 4 refine aD rfl rfl rfl rfl ?_
  iterate 2 refine pE rfl ?_
  iterate 7 refine aD rfl rfl rfl rfl ?_
  iterate 2 refine pE rfl ?_
  iterate 2 refine aD rfl rfl rfl rfl ?_
  iterate 2 refine pE rfl ?_
  iterate 2 refine aD rfl rfl rfl rfl ?_
  iterate 2 refine pE rfl ?_
  iterate 2 refine aD rfl rfl rfl rfl ?_
  iterate 2 refine pE rfl ?_
  iterate 2 refine aD rfl rfl rfl rfl ?_
  iterate 2 refine pE rfl ?_
  refine WO.nil (bt rfl rfl rfl)
 refine qs (W.ret (QF.aB trivial rfl ?_));rfl
end Go.Proofs.YtpiaiiopakafhaaGreatDoor
namespace Go.Proofs.YtpiaiiopakafhaaGreatDoor
open Go.Ab Go.Tb
set_option maxRecDepth 10000
set_option maxHeartbeats 1000000
attribute [local irreducible] W WO Pu QS QB QL QF QV bu CH QE
theorem rp {t:bJ} {l:List Ev} (h:(cQ [t] (ct t.id l)).2=0) (hl:l.length≤12):jj [t] (ct t.id l)=(bytesOf (aq (eh [t] (ct t.id l))),0):=by
 have I:=kY h;have hs:=mf h hl;have J:gL (eh [t] (ct t.id l))=bytesOf (aq (eh [t] (ct t.id l))):=by unfold gL;rw[if_pos I]
 have M:(bytesOf (aq (eh [t] (ct t.id l)))).size≤65536:=by rw[←l4,dT];omega
 unfold jj;rw[if_neg (fun q=>q h),if_neg (fun q=>q I),J,if_neg (by omega)]
theorem pX {t:bJ} {l:List Ev} (h:(cQ [t] (ct t.id l)).2=0) (hl:l.length≤12):∀ v i,cR (ah (bytesOf (aq (eh [t] (ct t.id l)))))=.ok v i→uc v:=by intro v i hp;have hb:=qF (kY h) (x:=[]) (y:=[]) (by simp) (by simp);rw[List.nil_append,List.append_nil] at hb;rw[dT,hb] at hp;cases hp;refine uN (kY h) (by have:=mf h hl;omega) fun _=>?_;show(lV [t] (ct t.id l)).length≤1000;rw[ry];simp;omega
theorem wC (id:Int) (name:ByteArray) (d:Int) (l:List Ev):az Tryz.prog 6 [.ag [ci id,cs name,ci d],.d (.sl (l.map Ev.c))] (.d (.v (.bool true))) 0:=by
 obtain⟨t,J⟩:∃ t:bJ,t=⟨id,name⟩:=⟨_,rfl⟩;refine az.bl (n:=72) (ts:=[4]) Tryz.func6 (by kernel_rfl) rfl Tryz.ntmps6 Tryz.results6 rfl rfl fun C hC hG=>?_;refine W.seq (W.region (cw rfl rfl rfl (pE rfl (WO.nil (qs ?_)))));iterate 2 refine W.seq ?_
 apply aO;(case hb=>rfl);·
  refine pu (ay rfl rfl rfl (tK ..) rfl) rfl ?_;iterate 2 refine pE rfl ?_
  apply eY;(case hj=>rfl);(case hl=>rfl);·
   intro g15;iterate 3 refine aD rfl rfl rfl rfl ?_
   iterate 2 refine pE rfl ?_
   iterate 4 refine aD rfl rfl rfl rfl ?_
   refine pE rfl (WO.nil (bt rfl rfl rfl))
  intro g15;refine aG rfl rfl (pE rfl (aG rfl rfl (pE rfl (aG rfl rfl ?_))));iterate 3 refine pE rfl ?_
  apply eY;(case hj=>rfl);(case hl=>rfl);·
   intro g20;iterate 4 refine aD rfl rfl rfl rfl ?_
   refine pE rfl (WO.nil (bt rfl rfl rfl))
  intro g20;refine aG rfl rfl (pE rfl (aG rfl rfl (pE rfl (aG rfl rfl (pE rfl (aG rfl rfl ?_))))));iterate 2 refine pE rfl ?_
  refine WO.nil (bt rfl rfl rfl)
 refine qs (an rfl (fun Z=>?_) (fun Z=>?_));·
  refine W.seq (W.region (pu (ay rfl rfl rfl (tK ..) rfl) rfl ?_));refine pE rfl (WO.nil (qs (W.ret (aA (QF.aB trivial rfl ?_)))));rfl
 have hl:l.length≤12:=by rw[List.length_map] at Z;revert Z;by_cases q:l.length≤12 <;> simp[q] <;> omega
 have aj:=uU [t] (ct t.id l) (AG t l hl);refine W.skip (qs (W.seq (W.region (pE rfl (ax aa rfl rfl rfl rfl rfl rfl rfl rfl (WO.nil (qs (W.seq (W.region (pE rfl (pu (aZ aa rfl rfl rfl rfl rfl rfl rfl rfl rfl) rfl ?_)))))))))));refine pu (build aa rfl rfl rfl rfl) rfl ?_;refine pu (aZ aa rfl rfl rfl rfl rfl rfl rfl rfl rfl) rfl ?_;refine pu (build aa rfl rfl rfl rfl) rfl ?_;refine aL aa rfl rfl rfl (ax aa rfl rfl rfl rfl rfl rfl rfl rfl (WO.nil (qs (W.seq (gr 1 2 rfl rfl rfl ?_)))));refine W.region (pE rfl (WO.nil (qs ?_)));iterate 2 refine W.seq ?_
 refine pd (d:=6) rfl rfl ?_;refine W.region ?_;iterate 3 refine pE rfl ?_
 refine WO.nil (qs (an rfl (fun M=>?_) (fun M=>?_)));·
  have I:ct t.id l=[⟨id,0,0,l⟩]:=by rw[J];exact if_neg (by rintro rfl;simp at M)
  refine W.region ?_;iterate 2 refine pE rfl ?_
  refine pE rfl (pE rfl (pu (build aa rfl rfl rfl rfl) rfl ?_));refine pu (aZ aa rfl rfl rfl rfl rfl rfl rfl rfl rfl) rfl ?_;refine eu (fn:=aW.c) (l:=[]) (a:=⟨id,0,0,l⟩) aa rfl rfl rfl rfl rfl rfl rfl rfl rfl rfl (fun _=>rfl) (by decide) ?_;refine pE rfl (WO.nil (qs (W.seq (W.region (pE rfl (pE rfl (pu (ay rfl rfl rfl (by have q:=aj;rw[I,J] at q;exact q) rfl) rfl ?_)))))));iterate 3 refine pE rfl ?_
  refine aL aa rfl rfl rfl (ax aa rfl rfl rfl rfl rfl rfl rfl rfl (pE rfl (WO.nil (qs ?_))));iterate 2 refine W.seq ?_
  refine W.region ?_;iterate 2 refine pE rfl ?_
  refine WO.nil (qs (an rfl (fun N=>?_) (fun N=>?_)));·
   skip;refine W.seq (W.region (pE rfl (WO.nil (qs (W.ret (aA (QF.aB trivial rfl ?_)))))));rfl
  have h0:(cQ [t] (ct t.id l)).2=0:=by rw[I,J];simpa using N
  have ho:=mg h0;have O:(cQ [t] (ct t.id l)).1=⟨[t],dq,ct t.id l⟩:=by unfold cQ;rw[if_neg (by rw[ho.1];simp),if_neg (by rw[ho.2];simp)]
  have U:=nj [t] (ct t.id l) (AG t l hl) (fun _=>by have:=mf h0 hl;omega);rw[rp h0 hl,←O,I,J] at U;have X:=nk _ (pX h0 hl);rw[qM h0 hl,←O,I,J] at X;refine W.skip (qs (W.seq (W.region (pE rfl (pu (ay rfl rfl rfl U rfl) rfl ?_)))));iterate 5 refine pE rfl ?_
  refine WO.nil (qs (W.seq (W.region (pE rfl (pu (ay rfl rfl rfl X rfl) rfl ?_)))));iterate 3 refine pE rfl ?_
  refine aL aa rfl rfl rfl (ax aa rfl rfl rfl rfl rfl rfl rfl rfl (pE rfl (WO.nil (qs (W.seq ?_)))));apply aO;(case hb=>rfl);·
   iterate 3 refine pE rfl ?_
   apply eY;(case hj=>rfl);(case hl=>rfl);·
    intro ad;refine aG rfl rfl (pE rfl (aG rfl rfl ?_));iterate 3 refine pE rfl ?_
    apply eY;(case hj=>rfl);(case hl=>rfl);·
     intro ai;refine aG rfl rfl (pE rfl (aG rfl rfl (pE rfl (aG rfl rfl (pu (ay rfl rfl rfl (qx ..) rfl) rfl ?_)))));iterate 2 refine pE rfl ?_
     refine WO.nil (bt rfl rfl rfl)
    intro ai;iterate 3 refine aD rfl rfl rfl rfl ?_
    iterate 2 refine pE rfl ?_
    refine WO.nil (bt rfl rfl rfl)
   intro ad;iterate 2 refine aD rfl rfl rfl rfl ?_
   iterate 2 refine pE rfl ?_
   iterate 3 refine aD rfl rfl rfl rfl ?_
   iterate 2 refine pE rfl ?_
   refine WO.nil (bt rfl rfl rfl)
  refine qs (W.ret (QF.aB trivial rfl ?_))
  (simp only[norm,aT];rw[(mC _ _).2 rfl];rfl)
 have I:ct t.id l=[]:=if_pos (by rw[List.length_map] at M;simp at M;exact M);refine W.skip (qs (W.seq (W.region (pE rfl (pE rfl (pu (ay rfl rfl rfl (by have q:=aj;rw[I,J] at q;exact q) rfl) rfl ?_))))));iterate 3 refine pE rfl ?_
 refine aL aa rfl rfl rfl (ax aa rfl rfl rfl rfl rfl rfl rfl rfl (pE rfl (WO.nil (qs ?_))));iterate 2 refine W.seq ?_
 refine W.region ?_;iterate 2 refine pE rfl ?_
 refine WO.nil (qs (an rfl (fun N=>?_) (fun N=>?_)));·
  skip;refine W.seq (W.region (pE rfl (WO.nil (qs (W.ret (aA (QF.aB trivial rfl ?_)))))));rfl
 have h0:(cQ [t] (ct t.id l)).2=0:=by rw[I,J];simpa using N
 have ho:=mg h0;have O:(cQ [t] (ct t.id l)).1=⟨[t],dq,ct t.id l⟩:=by unfold cQ;rw[if_neg (by rw[ho.1];simp),if_neg (by rw[ho.2];simp)]
 have U:=nj [t] (ct t.id l) (AG t l hl) (fun _=>by have:=mf h0 hl;omega);rw[rp h0 hl,←O,I,J] at U;have X:=nk _ (pX h0 hl);rw[qM h0 hl,←O,I,J] at X;refine W.skip (qs (W.seq (W.region (pE rfl (pu (ay rfl rfl rfl U rfl) rfl ?_)))));iterate 5 refine pE rfl ?_
 refine WO.nil (qs (W.seq (W.region (pE rfl (pu (ay rfl rfl rfl X rfl) rfl ?_)))));iterate 3 refine pE rfl ?_
 refine aL aa rfl rfl rfl (ax aa rfl rfl rfl rfl rfl rfl rfl rfl (pE rfl (WO.nil (qs (W.seq ?_)))));apply aO;(case hb=>rfl);·
  iterate 3 refine pE rfl ?_
  apply eY;(case hj=>rfl);(case hl=>rfl);·
   intro ad;refine aG rfl rfl (pE rfl (aG rfl rfl ?_));iterate 3 refine pE rfl ?_
   apply eY;(case hj=>rfl);(case hl=>rfl);·
    intro ai;refine aG rfl rfl (pE rfl (aG rfl rfl (pE rfl (aG rfl rfl (pu (ay rfl rfl rfl (qx ..) rfl) rfl ?_)))));iterate 2 refine pE rfl ?_
    refine WO.nil (bt rfl rfl rfl)
   intro ai;iterate 3 refine aD rfl rfl rfl rfl ?_
   iterate 2 refine pE rfl ?_
   refine WO.nil (bt rfl rfl rfl)
  intro ad;iterate 2 refine aD rfl rfl rfl rfl ?_
  iterate 2 refine pE rfl ?_
  iterate 3 refine aD rfl rfl rfl rfl ?_
  iterate 2 refine pE rfl ?_
  refine WO.nil (bt rfl rfl rfl)
 refine qs (W.ret (QF.aB trivial rfl ?_))
 (simp only[norm,aT];rw[(mC _ _).2 rfl];rfl)
theorem wo (x:Cd) (l:List Ev):az Tryz.prog 6 [.ag x.c,.d (.sl (l.map Ev.c))] (.d (.v (.bool true))) 0:=wC x.id x.name x.dom l
end Go.Proofs.YtpiaiiopakafhaaGreatDoor
