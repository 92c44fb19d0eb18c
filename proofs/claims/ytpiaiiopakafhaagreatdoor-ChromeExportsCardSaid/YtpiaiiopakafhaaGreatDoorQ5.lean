import Derived.Test.YtpiaiiopakafhaaGreatDoorQ4
import Derived.WalkKit
import Derived.OwnWalkIn
import Derived.TacticsInMore
import Derived.LoopNIn
import Derived.LoopIn
import Derived.BigRegionIn
namespace Go.Proofs.YtpiaiiopakafhaaGreatDoor
open Go.Ab Go.Tb
set_option maxRecDepth 10000
set_option maxHeartbeats 1000000
attribute [local irreducible] W WO Pu QS QB QL QF QV cB CH QE
variable {l:List UInt8}{k i:Nat}{w:World}{b:UInt8}
variable {f:List (Nat×A)}
variable {j:JV}
theorem yp(b:UInt8):bm Tryz.prog 187 [.d (.v (.int .u8 b.toNat))] (.d (.v (.bool (known b)))) 0:=by
 refine bm.bW (n:=17) (ts:=[2]) Tryz.func187 (by kernel_rfl) Z Tryz.ntmps187 Tryz.results187 Z Z fun C hC I=>aZ 1 Z<|aa ?_;apply bJ;(case hb=>rfl);·repeat' first|refine b7 Z Z Z|refine bE Z Z ?_|refine bD Z Z Z Z ?_|refine kn Z Z Z ?_|refine pE Z ?_|refine ae ?_|(apply bU;(case hj=>rfl);(case hl=>rfl))
 refine qs (W.ret (QF.bl trivial Z ?_));show A.d (D.v (Value.bool _))=A.d (D.v (Value.bool _));congr 3;unfold known;generalize b.toNat=n;simp only[show((n:Int)=9)=(n=9)from propext (by omega),show((n:Int)=10)=(n=10)from propext (by omega),show((32:Int)<=n)=(32<=n)from propext (by omega),show((n:Int)<=126)=(n<=126)from propext (by omega)];cases decide (n=9)<;>cases decide (n=10)<;>cases decide (32<=n)<;>cases decide (n<=126)<;>rfl
theorem zh(s):bm Tryz.prog 173 [.d (.v (.string s))] (.d (.v (.bool (da s)))) 0:=by
 refine bm.bW (n:=15) (ts:=[2]) Tryz.func173 (by kernel_rfl) Z Tryz.ntmps173 Tryz.results173 Z Z fun C hC O=>aZ 1 Z<|aa<|aZ 1 Z<|W.block<|W.lj (t:=0) Z<|fun hok=>?_;have hlen:=kb hok
 refine W.ca (ι:={x:Nat//match x with|k=>k<=(bg s).length∧((bg s).drop k).all known=(bg s).all known})
  (fun x=>match x.1 with|k=>[(3,.d (.v (.int .i64 ((k:Nat):Int))))]) [(0,_)]
  (fun x=>match x.1 with|k=>[]) [] [] 0 (fun x=>match x.1 with|k=>(bg s).length-k)
  [] ⟨0,?_⟩ Z ?_ ⟨rfl,rfl,trivial⟩ ?_ trivial Z ?_
 ·exact⟨ς _,rfl⟩
 ·repeat' constructor
 ·repeat' exact trivial
 rintro⟨k,N,I⟩;show W _ _ _ _ _ ⟨[(3,.d (.v (.int .i64 ((k:Nat):Int)))),(0,_)],[],[],0⟩;refine aa<|aZ 4 Z<|cr (l:=bg s) (k:=k) Z (by simp[Ex.bG,bo]) N (fun b U hd J=>?_)<|fun he hd=>?_;·
  rw[hd,List.all_cons]at I;refine ah<|qs<|aa<|W.block<|aa<|ab<|bb 2 Z<|pu (eJ aY Z Z Z Z (ε _) (gx (by assumption))) Z<|pu (bk Z Z Z (yp ..) Z) Z<|pE Z<|ae<|qs<|bc Z (fun M=>?_)<|fun M=>?_;·
   refine aZ 1 Z<|W.ret<|bw<|be<|cE<|bw<|be<|QF.bl trivial Z ?_;simp only[norm,bM];unfold da;rw[<-I];simp_all
  refine ah<|bX<|qs<|cu 3 Z<|W.cg [] ⟨k+1,?_⟩ ?_ Z ?_ ⟨rfl,rfl,trivial⟩ ?_ trivial Z;·exact⟨J,by rw[<-I];simp_all⟩
  ·dsimp only;omega
  ·repeat' first|exact trivial|refine⟨bF (by assumption) (by assumption),?_⟩
  repeat' exact trivial
 rw[hd]at I;refine ak<|bP<|bQ<|bO<|qs<|aZ 1 Z<|W.ret<|QF.bl trivial Z ?_;simp only[norm,bM];unfold da;rw[<-I];simp_all
theorem Fz(l:List ByteArray)(s):bm Tryz.prog 166 [.d (.sl (l.map sc)),.d (.v (.string s))] (.d (.v (.bool (l.any fun x=>decide (x=s))))) 0:=by
 refine bm.bW (n:=18) (ts:=[4]) Tryz.func166 (by kernel_rfl) Z Tryz.ntmps166 Tryz.results166 Z Z fun C hC O=>aZ 1 Z<|aa<|aZ 1 Z<|W.block<|W.len (t:=0) Z Z<|fun hlen=>?_;try simp only[η,Ex.bG]at hlen
 refine W.ca (ι:={x:Nat//match x with|k=>k<=l.length∧(l.drop k).any (fun x=>decide (x=s))=l.any (fun x=>decide (x=s))})
  (fun x=>match x.1 with|k=>[(5,.d (.v (.int .i64 ((k:Nat):Int))))]) [(0,_),(1,_)]
  (fun x=>match x.1 with|k=>[]) [] [] 0 (fun x=>match x.1 with|k=>l.length-k)
  [] ⟨0,?_⟩ Z ?_ ⟨rfl,rfl,rfl,rfl,trivial⟩ ?_ trivial Z ?_
 ·exact⟨ς _,by simp⟩
 ·repeat' constructor
 ·repeat' exact trivial
 rintro⟨k,N,I⟩;show W _ _ _ _ _ ⟨[(5,.d (.v (.int .i64 ((k:Nat):Int)))),(0,_),(1,_)],[],[],0⟩;refine aa<|aZ 4 Z<|cr (l:=l) (k:=k) Z (by simp[Ex.bG,bo]) N (fun x U hd J=>?_)<|fun he hd=>?_;·
  rw[hd,List.any_cons]at I;refine ah<|qs<|aa<|W.block<|aa<|ab<|bb 2 Z<|pu (indexAddr aY Z Z Z Z Z Z (ε _) (bC (by assumption)) Z) Z<|bb 3 Z<|ae<|qs<|bc Z (fun M=>?_)<|fun M=>?_;·
   refine aZ 1 Z<|W.ret<|bw<|be<|cE<|bw<|be<|QF.bl trivial Z ?_;simp only[norm,bM];rw[<-I];try simp_all
  refine ah<|bX<|qs<|cu 3 Z<|W.cg [] ⟨k+1,?_⟩ ?_ Z ?_ ⟨rfl,rfl,rfl,rfl,trivial⟩ ?_ trivial Z;·exact⟨J,by rw[<-I];simp_all⟩
  ·dsimp only;omega
  ·repeat' first|exact trivial|refine⟨bF (by assumption) (by assumption),?_⟩
  repeat' exact trivial
 rw[hd,List.any_nil]at I;refine ak<|bP<|bQ<|bO<|qs<|aZ 1 Z<|W.ret<|QF.bl trivial Z ?_;simp only[norm,bM];rw[<-I];try simp_all
theorem lb(j:JV)(J:1<=j.op∧j.op<=6):dH j 0=if(j.n≠0∧j.op≠2∧j.op≠3)∨(j.s≠B #[]∧j.op≠4)∨(0<j.kids.length∧j.op≠5∧j.op≠6)then 1
 else if(0<j.keys.length∧j.op≠6)∨(j.op=6∧j.keys.length≠j.kids.length)then 1
 else if(j.op=2∧j.n≠0∧j.n≠1)∨(j.op=3∧eK j.n=false)then 2 else if da j.s=false then 10 else if(j.keys.any fun s=>!da s)=true then 10 else if gV [] j.keys=true then 4 else 0:=by
 have I:j.op=1∨j.op=2∨j.op=3∨j.op=4∨j.op=5∨j.op=6:=by omega
 unfold dH dJ;clear J;generalize j.op=o at*;generalize j.keys.length=a;generalize j.kids.length=b;by_cases hs:j.s=B #[]<;>by_cases hn:j.n=0<;>by_cases ha:a=0<;>by_cases hb:b=0<;>by_cases hc:a=b<;>rcases I with rfl|rfl|rfl|rfl|rfl|rfl<;>simp[hs,hn,ha,hb,hc,Nat.pos_iff_ne_zero]<;>grind
theorem bj{a b:Int}(h:a=b):A.d (D.v (Value.int .i64 a))=A.d (D.v (Value.int .i64 b)):=by rw[h]
theorem B4(j:JV)(J:¬(1<=j.op∧j.op<=6)):bm Tryz.prog 151 [.ag j.c] (.d (.v (.int .i64 (dH j 0)))) 0:=by
 rw[e7 j];refine bm.bW (n:=135) (ts:=[2]) Tryz.func151 (by kernel_rfl) Z Tryz.ntmps151 Tryz.results151 Z Z fun C hC M=>aa<|ab<|cz Z Z Z<|pE Z<|ae<|qs<|aa<|aZ 2 Z<|W.block<|aa<|aZ 2 Z<|bc Z (fun I=>?_)<|fun I=>?_;·exfalso;simp at I;omega
 refine aZ 2 Z<|bc Z (fun I=>?_)<|fun I=>?_;·exfalso;simp at I;omega
 refine aZ 2 Z<|bc Z (fun I=>?_)<|fun I=>?_;·exfalso;simp at I;omega
 refine aZ 2 Z<|bc Z (fun I=>?_)<|fun I=>?_;·exfalso;simp at I;omega
 refine aZ 2 Z<|bc Z (fun I=>?_)<|fun I=>?_;·exfalso;simp at I;omega
 refine cu 2 Z<|qs<|bc Z (fun I=>?_)<|fun I=>?_;·exfalso;simp at I;omega
 refine aZ 1 Z<|W.ret<|bw<|be<|QF.bl trivial Z<|bj ?_;unfold dH dJ;grind
theorem Cr(j:JV)(ho:1<=j.op∧j.op<=6):bm Tryz.prog 151 [.ag j.c] (.d (.v (.int .i64 (dH j 0)))) 0:=by
 rw[e7 j]
 refine bm.bW (n:=135) (ts:=[2]) Tryz.func151 (by kernel_rfl) Z Tryz.ntmps151 Tryz.results151 Z Z fun C hC hG=>aa<|ab<|cz Z Z Z<|pE Z<|ae<|qs<|aa<|aZ 2 Z<|W.nl [(1,.ptr 0 0)] [] [(0,[.d (ci j.op),.d (ci j.n),.d (cs j.s),.d (.sl (j.keys.map sc)),.d (.sl (j.kids.map JV.c))])] [] [] 1 ?_ ?_
 ·
  refine W.block<|aa<|aZ 2 Z<|bc Z (fun h7=>?_)<|fun h7=>?_
  ·
   refine ah (qs (W.gr Z (ah (bX (dL [0] Z ?_ trivial ?_ trivial Z)))))
   ·repeat' constructor
   repeat' constructor
  refine aZ 2 Z<|bc Z (fun h7=>?_)<|fun h7=>?_
  ·
   refine ah (qs (W.gr Z (ah (bX (dL [0] Z ?_ trivial ?_ trivial Z)))))
   ·repeat' constructor
   repeat' constructor
  refine aZ 2 Z<|bc Z (fun h7=>?_)<|fun h7=>?_
  ·
   refine ah (qs (W.gr Z (ah (bX (dL [0] Z ?_ trivial ?_ trivial Z)))))
   ·repeat' constructor
   repeat' constructor
  refine aZ 2 Z<|bc Z (fun h7=>?_)<|fun h7=>?_
  ·
   refine ah (qs (W.gr Z (ah (bX (dL [0] Z ?_ trivial ?_ trivial Z)))))
   ·repeat' constructor
   repeat' constructor
  refine aZ 2 Z<|bc Z (fun h7=>?_)<|fun h7=>?_
  ·
   refine ah (qs (W.gr Z (ah (bX (dL [0] Z ?_ trivial ?_ trivial Z)))))
   ·repeat' constructor
   repeat' constructor
  refine cu 2 Z<|qs<|bc Z (fun h7=>?_)<|fun h7=>?_
  ·
   refine ah (bX (dL [0] Z ?_ trivial ?_ trivial Z))
   ·repeat' constructor
   repeat' constructor
  refine aZ 1 Z<|W.ret<|bw<|KJ<|be<|QF.bl trivial Z<|bj ?_
  first|(rw[lb j ho];(repeat(first|rw[if_pos (by assumption)]|rw[if_neg (by assumption)]));done)|(exfalso;simp only[S']at*;omega)
 refine qs<|aa<|aa<|?_
 apply bJ;(case hb=>rfl)
 ·repeat' first|refine b7 rfl rfl rfl|refine bE rfl rfl ?_|refine bD rfl rfl rfl rfl ?_|refine kn rfl rfl rfl ?_|refine pE rfl ?_|refine ae ?_|(apply bU;(case hj=>rfl);(case hl=>rfl))
 refine qs (bc Z (fun h52=>?_) (fun h52=>?_))
 ·
  have q52:(j.n≠0∧j.op≠2∧j.op≠3)∨(j.s≠B #[]∧j.op≠4)∨(0<j.kids.length∧j.op≠5∧j.op≠6):=by rw[η]at h52;grind
  refine aZ 1 Z<|W.ret<|be<|QF.bl trivial Z<|bj ?_
  first|(rw[lb j ho];(repeat(first|rw[if_pos (by assumption)]|rw[if_neg (by assumption)]));done)|(exfalso;simp only[S']at*;omega)
 have q52:¬((j.n≠0∧j.op≠2∧j.op≠3)∨(j.s≠B #[]∧j.op≠4)∨(0<j.kids.length∧j.op≠5∧j.op≠6)):=by rw[η]at h52;grind
 clear h52
 refine ah<|qs<|aa<|aa<|?_
 apply bJ;(case hb=>rfl)
 ·repeat' first|refine b7 rfl rfl rfl|refine bE rfl rfl ?_|refine bD rfl rfl rfl rfl ?_|refine kn rfl rfl rfl ?_|refine pE rfl ?_|refine ae ?_|(apply bU;(case hj=>rfl);(case hl=>rfl))
 refine qs (bc Z (fun h75=>?_) (fun h75=>?_))
 ·
  have q75:(0<j.keys.length∧j.op≠6)∨(j.op=6∧j.keys.length≠j.kids.length):=by simp only[η]at h75;grind
  refine aZ 1 Z<|W.ret<|be<|QF.bl trivial Z<|bj ?_
  first|(rw[lb j ho];(repeat(first|rw[if_pos (by assumption)]|rw[if_neg (by assumption)]));done)|(exfalso;simp only[S']at*;omega)
 have q75:¬((0<j.keys.length∧j.op≠6)∨(j.op=6∧j.keys.length≠j.kids.length)):=by simp only[η]at h75;grind
 clear h75
 refine ah<|qs<|aa<|aa<|?_
 apply bJ;(case hb=>rfl)
 ·repeat' first|refine b7 rfl rfl rfl|refine bE rfl rfl ?_|refine bD rfl rfl rfl rfl ?_|refine kn rfl rfl rfl ?_|refine pE rfl ?_|refine ae ?_|refine pu (bk rfl rfl rfl (Kp ..) rfl) rfl ?_|(apply bU;(case hj=>rfl);(case hl=>rfl))
 refine qs (bc Z (fun h99=>?_) (fun h99=>?_))
 ·
  have q99:(j.op=2∧j.n≠0∧j.n≠1)∨(j.op=3∧eK j.n=false):=by grind
  refine aZ 1 Z<|W.ret<|be<|QF.bl trivial Z<|bj ?_
  first|(rw[lb j ho];(repeat(first|rw[if_pos (by assumption)]|rw[if_neg (by assumption)]));done)|(exfalso;simp only[S']at*;omega)
 have q99:¬((j.op=2∧j.n≠0∧j.n≠1)∨(j.op=3∧eK j.n=false)):=by grind
 clear h99
 refine ah<|qs<|aa<|aa<|ab<|bb 2 Z<|pu (bk Z Z Z (zh ..) Z) Z<|pE Z<|ae<|qs<|bc Z (fun h103=>?_)<|fun h103=>?_
 ·
  have q103:da j.s=false:=by simpa using h103
  refine aZ 1 Z<|W.ret<|be<|QF.bl trivial Z<|bj ?_
  first|(rw[lb j ho];(repeat(first|rw[if_pos (by assumption)]|rw[if_neg (by assumption)]));done)|(exfalso;simp only[S']at*;omega)
 have q103:¬da j.s=false:=by simpa using h103
 clear h103
 refine ah<|qs<|aa<|aZ 1 Z<|W.block<|pQ (g:=0) (j:=3) Z Z<|fun hlen=>?_
 rw[η]at hlen
 refine W.ca (ι:={x:Nat//match x with|k=>k<=j.keys.length∧(j.keys.drop k).any (fun s=>!da s)=j.keys.any (fun s=>!da s)})
  (fun x=>match x.1 with|k=>[(1,.ptr 0 0),(3,.d (.v (.int .i64 ((k:Nat):Int))))]) []
  (fun x=>match x.1 with|k=>[(0,[.d (ci j.op),.d (ci j.n),.d (cs j.s),.d (.sl (j.keys.map sc)),.d (.sl (j.kids.map JV.c))])]) [] [] 1 (fun x=>match x.1 with|k=>j.keys.length-k)
  [0] ⟨0,?_⟩ rfl ?_ trivial ?_ trivial rfl ?_
 ·exact⟨ς _,by simp⟩
 ·repeat' constructor
 ·repeat' constructor
 rintro⟨k,hk,hI⟩
 show W _ _ _ _ _ ⟨[(1,.ptr 0 0),(3,.d (.v (.int .i64 ((k:Nat):Int))))],[(0,[.d (ci j.op),.d (ci j.n),.d (cs j.s),.d (.sl (j.keys.map sc)),.d (.sl (j.kids.map JV.c))])],[],1⟩
 refine aa<|aZ 5 Z<|cr (l:=j.keys) (k:=k) Z (by simp[Ex.bG,bo]) hk (fun x hx hd hlt=>?_)<|fun he hd=>?_
 ·
  rw[hd,List.any_cons]at hI
  refine ah<|qs<|aa<|W.block<|aa<|ab<|bb 3 Z<|pu (indexAddr aY Z Z Z Z Z Z (ε _) (bC hx) Z) Z<|bb 1 Z<|pu (bk Z Z Z (zh ..) Z) Z<|pE Z<|ae<|qs<|bc Z (fun h117=>?_)<|fun h117=>?_
  ·
   have hb:da x=false:=by simpa using h117
   rw[hb]at hI
   simp only[Bool.not_false,Bool.true_or]at hI
   have qk:(j.keys.any fun s=>!da s)=true:=hI.symm
   refine aZ 1 Z<|W.ret<|bw<|be<|cE<|bw<|be<|QF.bl trivial Z<|bj ?_
   first|(rw[lb j ho];(repeat(first|rw[if_pos (by assumption)]|rw[if_neg (by assumption)]));done)|(exfalso;simp only[S']at*;omega)
  have hb:da x=true:=by simpa using h117
  rw[hb]at hI
  simp only[Bool.not_true,Bool.false_or]at hI
  refine ah<|bX<|qs<|cu 3 Z<|W.cg [0] ⟨k+1,?_⟩ ?_ Z ?_ trivial ?_ trivial Z
  ·exact⟨hlt,hI⟩
  ·dsimp only;omega
  ·repeat' first|exact trivial|refine⟨rfl,?_⟩|refine⟨bF (by assumption) (by assumption),?_⟩
  repeat' constructor
 rw[hd,List.any_nil]at hI
 have qk:¬(j.keys.any fun s=>!da s)=true:=by rw[<-hI];simp
 refine ak<|bP<|bQ<|bO<|qs<|aa<|aZ 1 Z<|W.block<|W.ca (ι:={x:Nat//match x with|k=>k<=j.keys.length∧gV (j.keys.take k) (j.keys.drop k)=gV [] j.keys})
  (fun x=>match x.1 with|k=>[(1,.ptr 0 0),(4,.d (.v (.int .i64 ((k:Nat):Int))))]) []
  (fun x=>match x.1 with|k=>[(0,[.d (ci j.op),.d (ci j.n),.d (cs j.s),.d (.sl (j.keys.map sc)),.d (.sl (j.kids.map JV.c))])]) [] [] 1 (fun x=>match x.1 with|k=>j.keys.length-k)
  [0] ⟨0,?_⟩ rfl ?_ trivial ?_ trivial rfl ?_
 ·exact⟨ς _,by simp⟩
 ·repeat' constructor
 ·repeat' constructor
 rintro⟨k,hk,hR⟩
 show W _ _ _ _ _ ⟨[(1,.ptr 0 0),(4,.d (.v (.int .i64 ((k:Nat):Int))))],[(0,[.d (ci j.op),.d (ci j.n),.d (cs j.s),.d (.sl (j.keys.map sc)),.d (.sl (j.kids.map JV.c))])],[],1⟩
 refine aa<|aZ 5 Z<|cr (l:=j.keys) (k:=k) Z (by simp[Ex.bG,bo]) hk (fun x hx hd hlt=>?_)<|fun he hd=>?_
 ·
  rw[hd]at hR
  simp only[gV]at hR
  have htk:j.keys.take (k+1)=j.keys.take k++[x]:=by rw[Φ,hx];rfl
  refine ah<|qs<|aa<|W.block<|aa<|W.dD aY (by kernel_rfl)<|br (ev aY Z) Z<|br (ev aY Z) Z<|br (ev aY Z) Z<|br (LK aY Z Z Z Z Z Z (ε _) (by simp;omega) (by intro y hy;obtain⟨z,_,rfl⟩:=R'.1 hy;rfl)) Z<|br (ev aY Z) Z<|br (ev aY Z) Z<|br (ev aY Z) Z<|br (indexAddr aY Z Z Z Z Z Z (ε _) (bC hx) Z) Z<|br (ev aY Z) Z<|br (bk Z Z Z (by rw[show(((j.keys.map sc).take ((k:Int)).toNat).drop 0)=(j.keys.take k).map sc by rw[Int.toNat_natCast,List.drop_zero,List.map_take]];exact Fz _ _) Z) Z<|ao<|qs<|bc Z (fun h134=>?_)<|fun h134=>?_
  ·
   have qr:gV [] j.keys=true:=by rw[if_pos h134]at hR;exact hR.symm
   refine aZ 1 Z<|W.ret<|bw<|be<|cE<|bw<|be<|QF.bl trivial Z<|bj ?_
   first|(rw[lb j ho];(repeat(first|rw[if_pos (by assumption)]|rw[if_neg (by assumption)]));done)|(exfalso;simp only[S']at*;omega)
  rw[if_neg (by rw[h134];simp)]at hR
  refine ah<|bX<|qs<|cu 3 Z<|W.cg [0] ⟨k+1,?_⟩ ?_ Z ?_ trivial ?_ trivial Z
  ·exact⟨hlt,by rw[htk];exact hR⟩
  ·dsimp only;omega
  ·repeat' first|exact trivial|refine⟨rfl,?_⟩|refine⟨bF (by assumption) (by assumption),?_⟩
  repeat' constructor
 rw[hd]at hR
 simp only[gV]at hR
 have qr:¬gV [] j.keys=true:=by rw[<-hR];simp
 refine ak<|bP<|bQ<|bO<|qs<|aZ 1 Z<|W.ret<|QF.bl trivial Z<|bj ?_
 first|(rw[lb j ho];(repeat(first|rw[if_pos (by assumption)]|rw[if_neg (by assumption)]));done)|(exfalso;simp only[S']at*;omega)
theorem AQ(j:JV):bm Tryz.prog 151 [.ag j.c] (.d (.v (.int .i64 (dH j 0)))) 0:=by
 by_cases ho:1<=j.op∧j.op<=6;·exact Cr j ho
 exact B4 j ho
theorem IB(j:JV)(a):dH j (a+1)=if dH j 0≠0 then dH j 0 else if 5<=j.op∧16<=a then 20 else 0:=by
 have I:(16<a+1)=(16<=a):=propext (by constructor<;>intro h<;>omega);have J:¬(5<=j.op∧(16:Int)<0):=by omega
 unfold dH;simp only[I,if_neg J];by_cases c1:dJ j=false;·simp[c1]
 by_cases c2:(j.op=2∧j.n≠0∧j.n≠1)∨(j.op=3∧eK j.n=false);·simp only[if_neg c1,if_pos c2];simp
 by_cases c3:da j.s=false∨(j.keys.any fun s=>!da s)=true;·simp only[if_neg c1,if_neg c2,if_pos c3];simp
 by_cases c4:gV [] j.keys=true;·simp only[if_neg c1,if_neg c2,if_neg c3,if_pos c4];simp
 simp only[if_neg c1,if_neg c2,if_neg c3,if_neg c4];simp
theorem F0(j:JV)(h:dH j 0=0)(h5:j.op≠5)(J:j.op≠6):j.kids=[]∧¬5<=j.op:=by
 have I:dJ j=true:=by
  by_cases c1:dJ j=false;·unfold dH at h;rw[if_pos c1]at h;cases h
  simpa using c1
 unfold dJ at I;rw[if_neg h5,if_neg J]at I;split at I;·simp only[μ,Δ]at I;exact⟨List.length_eq_zero_iff.1 (by omega),by omega⟩
 split at I;·simp only[μ,Δ]at I;exact⟨List.length_eq_zero_iff.1 (by omega),by omega⟩
 split at I;·simp only[μ,Δ]at I;exact⟨List.length_eq_zero_iff.1 (by omega),by omega⟩
 cases I
theorem Gg(j:JV)(a):b8 j (a+1)=if dH j 0≠0 then dH j 0 else if j.op≠5∧j.op≠6 then 0 else if 16<=a then 20 else dn j.kids (a+1+1):=by
 rw[gI,IB];by_cases c1:dH j 0=0;·
  have n1:¬dH j 0≠0:=by simp[c1]
  simp only[if_neg n1];by_cases c2:j.op≠5∧j.op≠6;·
   obtain⟨e,I⟩:=F0 j c1 c2.1 c2.2;simp only[if_pos c2,if_neg (show ¬(5<=j.op∧16<=a)from fun h=>I h.1),e];simp[dn]
  have h5:5<=j.op:=by omega
  simp only[if_neg c2];by_cases c3:16<=a;·simp only[if_pos (show 5<=j.op∧16<=a from⟨h5,c3⟩),if_pos c3];simp
  simp only[if_neg (show ¬(5<=j.op∧16<=a)from fun h=>c3 h.2),if_neg c3];simp
 simp only[if_pos (show dH j 0≠0 from c1)]
theorem Da:∀(j:JV)(a:Int),0<=a->a<=16->bm Tryz.prog 102 [.ag j.c,.d (.v (.int .i64 a))] (.d (.v (.int .i64 (b8 j (a+1))))) 0:=by
 refine aD fun j ih=>?_
 intro a h0 h1
 have hfj:=AQ j
 rw[e7 j]at hfj⊢
 have hup:=Gg j a
 refine bm.bW (n:=41) (ts:=[4]) Tryz.func102 (by kernel_rfl) Z Tryz.ntmps102 Tryz.results102 Z Z fun C hC hG=>aa<|ab<|cz Z Z Z<|pE Z<|ae<|qs<|aa<|ab<|bb 1 Z<|pu (bk Z Z Z hfj Z) Z<|pE Z<|ae<|qs<|aa<|aZ 2 Z<|bc Z (fun h11=>?_)<|fun h11=>?_
 ·
  have q11:dH j 0≠0:=by simpa using h11
  rw[if_pos q11]at hup
  refine aZ 2 Z<|W.ret<|be<|QF.bl trivial Z<|bj ?_
  first|exact hup.symm|(rw[hup,←hI])
 have q11:¬dH j 0≠0:=by simpa using h11
 rw[if_neg q11]at hup
 refine ah<|qs<|aa<|aa<|?_
 apply bJ;(case hb=>rfl)
 ·repeat' first|refine b7 rfl rfl rfl|refine bE rfl rfl ?_|refine bD rfl rfl rfl rfl ?_|refine pE rfl ?_|refine ae ?_|(apply bU;(case hj=>rfl);(case hl=>rfl))
 refine qs (bc Z (fun h20=>?_) (fun h20=>?_))
 ·
  have q20:j.op≠5∧j.op≠6:=by revert h20;simp
  rw[if_pos q20]at hup
  refine aZ 1 Z<|W.ret<|be<|QF.bl trivial Z<|bj ?_
  first|exact hup.symm|(rw[hup,←hI])
 have q20:¬(j.op≠5∧j.op≠6):=by revert h20;simp
 rw[if_neg q20]at hup
 refine ah<|qs<|aa<|aZ 2 Z<|bc Z (fun h22=>?_)<|fun h22=>?_
 ·
  have q22:16<=a:=by simpa using h22
  rw[if_pos q22]at hup
  refine aZ 1 Z<|W.ret<|be<|QF.bl trivial Z<|bj ?_
  first|exact hup.symm|(rw[hup,←hI])
 have q22:¬16<=a:=by simpa using h22
 rw[if_neg q22]at hup
 refine ah<|qs<|aa<|aZ 1 Z<|W.block<|pQ (g:=0) (j:=4) Z Z<|fun hlen=>?_
 rw[η]at hlen
 refine W.ca (ι:={x:Nat//match x with|k=>k<=j.kids.length∧dn (j.kids.drop k) (a+1+1)=dn j.kids (a+1+1)})
  (fun x=>match x.1 with|k=>[(1,.d (.v (.int .i64 a))),(2,.ptr 0 0),(6,.d (.v (.int .i64 ((k:Nat):Int))))]) []
  (fun x=>match x.1 with|k=>[(0,[.d (ci j.op),.d (ci j.n),.d (cs j.s),.d (.sl (j.keys.map sc)),.d (.sl (j.kids.map JV.c))])]) [] [] 1 (fun x=>match x.1 with|k=>j.kids.length-k)
  [0] ⟨0,?_⟩ rfl ?_ trivial ?_ trivial rfl ?_
 ·exact⟨ς _,by simp⟩
 ·repeat' constructor
 ·repeat' constructor
 rintro⟨k,hk,hI⟩
 show W _ _ _ _ _ ⟨[(1,.d (.v (.int .i64 a))),(2,.ptr 0 0),(6,.d (.v (.int .i64 ((k:Nat):Int))))],[(0,[.d (ci j.op),.d (ci j.n),.d (cs j.s),.d (.sl (j.keys.map sc)),.d (.sl (j.kids.map JV.c))])],[],1⟩
 refine aa<|aZ 5 Z<|cr (l:=j.kids) (k:=k) Z (by simp[Ex.bG,bo]) hk (fun z hx hd hlt=>?_)<|fun he hd=>?_
 ·
  rw[hd]at hI
  simp only[dn]at hI
  have hxc:=ih z (ζ hx) (a+1) (by omega) (by omega)
  refine ah<|qs<|aa<|W.block<|aa<|ab<|bb 3 Z<|pu (indexAddr aY Z Z Z Z Z Z (ε _) (bC hx) Z) Z<|bb 2 Z<|pu (cW (ev aY Z) (wrap64 (by omega))) Z<|pu (bk Z Z Z hxc Z) Z<|pE Z<|ae<|qs<|aZ 2 Z<|bc Z (fun h39=>?_)<|fun h39=>?_
  ·
   have hc:b8 z (a+1+1)≠0:=by simpa using h39
   rw[if_pos hc]at hI
   refine aZ 2 Z<|W.ret<|bw<|be<|cE<|bw<|be<|QF.bl trivial Z<|bj ?_
   first|exact hup.symm|(rw[hup,←hI])
  have hc:b8 z (a+1+1)=0:=by simpa using h39
  rw[if_neg (by simp[hc])]at hI
  refine ah<|bX<|qs<|cu 3 Z<|W.cg [0] ⟨k+1,?_⟩ ?_ Z ?_ trivial ?_ trivial Z
  ·exact⟨hlt,hI⟩
  ·dsimp only;omega
  ·repeat' first|exact trivial|refine⟨rfl,?_⟩|refine⟨bF (by assumption) (by assumption),?_⟩
  repeat' constructor
 rw[hd]at hI
 simp only[dn]at hI
 refine ak<|bP<|bQ<|bO<|qs<|aZ 1 Z<|W.ret<|QF.bl trivial Z<|bj ?_
 first|exact hup.symm|(rw[hup,←hI])
theorem DK(j:JV):bm Tryz.prog 60 [.ag j.c] (.d (.v (.int .i64 (b8 j 1)))) 0:=by have h:=Da j 0 (by omega) (by omega);rw[e7 j]at h⊢;refine bm.bW (n:=5) (ts:=[2]) Tryz.func60 (by kernel_rfl) Z Tryz.ntmps60 Tryz.results60 Z Z fun C hC I=>?_;refine aa (ab (cz Z Z Z (pE Z (ae (qs (aa (ab (bb 1 Z ?_))))))));refine pu (bk Z Z Z h Z) Z ?_;refine pE Z (ae (qs (W.ret (QF.bl trivial Z ?_))));rfl
theorem xM(j:JV):bm Tryz.prog 50 [.ag j.c] (.d (.v (.int .i64 (b8 j 1)))) 0:=by have h:=Eu j 1 (by omega) (by omega);rw[e7 j]at h⊢;refine bm.bW (n:=5) (ts:=[2]) Tryz.func50 (by kernel_rfl) Z Tryz.ntmps50 Tryz.results50 Z Z fun C hC I=>?_;refine aa (ab (cz Z Z Z (pE Z (ae (qs (aa (ab (bb 1 Z ?_))))))));refine pu (bk Z Z Z h Z) Z ?_;refine pE Z (ae (qs (W.ret (QF.bl trivial Z ?_))));rfl
def oJ(o:Option JV):JV:=o.getD gf
theorem HX{key}(h:j.op≠6):e9 j key=none:=by unfold e9;rw[if_neg h]
theorem y7{key}(h:j.op=6)(hi:(j.keys.findIdx? fun x=>decide (key=x))=some k):e9 j key=j.kids[k]?:=by unfold e9;rw[if_pos h,hi]
theorem EF{key}(hi:(j.keys.findIdx? fun x=>decide (key=x))=none):e9 j key=none:=by unfold e9;rw[hi];simp
theorem Io(j:JV)(key):bm Tryz.prog 96 [.ag j.c,.d (.v (.string key))] (.tup [.ag (oJ (e9 j key)).c,.d (.v (.bool (e9 j key).isSome))]) 0:=by
 rw[e7 j];refine bm.dY aY (n:=31) (rs:=[.cell 4 46,.tmp 5]) Tryz.func96 (by kernel_rfl) Z Tryz.ntmps96 Tryz.results96 Z fun C hC U=>aa<|ab<|cz Z Z Z<|b9 aY Z Z Z<|pE Z<|ae<|qs<|aa<|ab<|bb 3 Z<|pu (bk Z Z Z (zQ j.keys key) Z) Z<|pE Z<|ae<|qs<|aa<|aa<|?_
 apply bJ;(case hb=>rfl);·repeat' first|refine b7 Z Z Z|refine bE Z Z ?_|refine bD Z Z Z Z ?_|refine pE Z ?_|refine ae ?_|(apply bU;(case hj=>rfl);(case hl=>rfl))
 refine qs (bc Z (fun I=>?_) (fun I=>?_));·
  have M:e9 j key=none:=by
   by_cases ho:j.op=6;·
    cases hi:(j.keys.findIdx? fun x=>decide (key=x))with
    |none=>exact EF hi
    |some k=>rw[y7 ho hi];rw[hi,show idx (some k)=(k:Int)from rfl]at I;simp[ho]at I⊢;omega
   exact HX ho
  refine aa (ab (pu (build aY Z Z Z Z) Z ?_));try refine iR 25 Z Z Z ?_
  refine bt aY Z Z Z Z Z Z Z Z (pE Z (ae (qs (W.ret (be (QV.bl aY trivial Z ?_))))));rw[M];rfl
 obtain⟨k,y,N,O,M⟩:∃(k:Nat)(y:JV),idx (j.keys.findIdx? fun x=>decide (key=x))=(k:Int)∧j.kids[k]?=some y∧e9 j key=some y:=by
  by_cases ho:j.op=6;·
   cases hi:(j.keys.findIdx? fun x=>decide (key=x))with
   |none=>rw[hi]at I;simp[idx]at I
   |some k=>
    rw[hi]at I;rw[show idx (some k)=(k:Int)from rfl]at I;have J:k<j.kids.length:=by simp[ho]at I;omega
    exact⟨k,j.kids[k],rfl,by simp[J],by rw[y7 ho hi];simp[J]⟩
  simp[ho]at I
 rw[N];refine ah<|qs<|aa<|ab<|bb 3 Z<|pu (indexAddr (l:=y.c) aY Z Z Z Z Z Z (ε _) (bC O) Z) Z<|bb 1 Z<|bt aY Z Z Z Z Z Z Z Z<|pE Z<|ae<|qs<|W.ret<|QV.bl aY trivial Z ?_;rw[M];rfl
theorem pg:bm Tryz.prog 53 [] (.d (.sl (gC.map Fm.c))) 0:=by refine bm.bW (n:=14) (ts:=[0]) Tryz.func53 (by kernel_rfl) Z Tryz.ntmps53 Tryz.results53 Z Z fun C hC I=>?_;refine aZ 1 Z ?_;refine aa (ab (pu (build aY Z Z Z Z) Z ?_));refine pu (build aY Z Z Z Z) Z ?_;refine pu (build aY Z Z Z Z) Z ?_;refine pu (build aY Z Z Z Z) Z ?_;refine pu (build aY Z Z Z Z) Z ?_;refine pu (build aY Z Z Z Z) Z ?_;refine pu (build aY Z Z Z Z) Z ?_;refine pu (build aY Z Z Z Z) Z ?_;refine pu (build aY Z Z Z Z) Z ?_;refine pu (build aY Z Z Z Z) Z ?_;refine pu (build aY Z Z Z Z) Z ?_;refine pu (build aY Z Z Z Z) Z ?_;refine pu (bZ aY Z Z Z Z Z Z Z Z Z) Z ?_;refine pE Z (ae (qs (W.ret (QF.bl trivial Z ?_))));rfl
theorem vC(fid caps)(I:Still caps)(p:Fm->Bool)(hp:∀x:Fm,bm Tryz.prog fid (.ag x.c::caps) (.d (.v (.bool (p x)))) 0)(l:List Fm):
 bm Tryz.prog 52 [.d (.sl (l.map Fm.c)),.clo fid caps] (.d (.v (.int .i64 (idx (l.findIdx? p))))) 0:=by
 refine bm.bW (n:=19) (ts:=[4]) Tryz.func52 (by kernel_rfl) Z Tryz.ntmps52 Tryz.results52 Z Z fun C hC X=>aZ 1 Z<|aa<|aZ 3 Z<|W.block<|W.len (t:=0) Z Z<|fun hlen=>?_;try simp only[η,Ex.bG]at hlen
 refine W.ca (ι:={x:Nat//match x with|k=>k<=l.length∧c8 p l k})
  (fun x=>match x.1 with|k=>[(8,.d (.v (.int .i64 ((k:Nat):Int))))]) [(0,_),(1,_),(7,_)]
  (fun x=>match x.1 with|k=>[]) [] [] 0 (fun x=>match x.1 with|k=>l.length-k)
  [] ⟨0,?_⟩ Z ?_ ⟨rfl,(by first|rfl|exact I.2),rfl,(by first|rfl|exact I.2),rfl,(by first|rfl|exact I.2),trivial⟩ ?_ trivial Z ?_
 ·exact⟨ς _,c8.zero⟩
 ·repeat' constructor
 ·repeat' exact trivial
 rintro⟨k,U,M⟩;show W _ _ _ _ _ ⟨[(8,.d (.v (.int .i64 ((k:Nat):Int)))),(0,_),(1,_),(7,_)],[],[],0⟩;refine aZ 1 Z<|aa<|cr (l:=l) (k:=k) Z (by simp[Ex.bG,bo]) U (fun x N hd O=>?_)<|fun he hd=>?_;·
  refine ah<|qs<|aa<|W.block<|aZ 2 Z<|aa<|ab<|bb 3 Z<|pu (indexAddr aY Z Z Z Z Z Z (ε _) (bC (by assumption)) Z) Z<|bb 1 Z<|pu (bk Z Z (by rw[y',I.1 _ 3];rfl) (hp x) Z) Z<|ae<|qs<|bc Z (fun J=>?_)<|fun J=>?_;·
   refine aZ 2 Z<|W.ret<|bw<|be<|cE<|bw<|be<|QF.bl trivial Z ?_;simp only[norm,bM];rw[M.found N J];rfl
  refine ah<|bX<|qs<|cu 2 Z<|W.cg [] ⟨k+1,?_⟩ ?_ Z ?_ ⟨rfl,(by first|rfl|exact I.2),rfl,(by first|rfl|exact I.2),rfl,(by first|rfl|exact I.2),trivial⟩ ?_ trivial Z;·exact⟨O,M.step N J⟩
  ·dsimp only;omega
  ·repeat' first|exact trivial|refine⟨bF (by assumption) (by assumption),?_⟩
  repeat' exact trivial
 refine ak<|bP<|bQ<|bO<|qs<|aZ 1 Z<|W.ret<|QF.bl trivial Z ?_;simp only[norm,bM];rw[M.end_ he];rfl
theorem Ig(ph)(f:Fm):bm Tryz.prog 54 [.ag f.c,.row [.d (.v (.string ph))]] (.d (.v (.bool (decide (f.ph=ph))))) 0:=by refine bm.bW (n:=8) (ts:=[3]) Tryz.func54 (by kernel_rfl) Z Tryz.ntmps54 Tryz.results54 Z Z fun C hC I=>?_;refine aa (ab (cz Z Z Z (pE Z (ae (qs (aZ 5 Z ?_))))));refine W.ret (QF.bl trivial Z ?_);rfl
theorem DU(e:Ev)(f:Fm):bm Tryz.prog 88 [.ag f.c,.row (e.c.map A.d)] (.d (.v (.bool (decide (f.kind=e.kind))))) 0:=by refine bm.bW (n:=9) (ts:=[3]) Tryz.func88 (by kernel_rfl) Z Tryz.ntmps88 Tryz.results88 Z Z fun C hC I=>?_;refine aa (ab (cz Z Z Z (pE Z (ae (qs (aZ 6 Z ?_))))));refine W.ret (QF.bl trivial Z ?_);rfl
theorem wZ(f:Fm)(on):bm Tryz.prog 58 [.ag f.c,.d (.v (.bool on))] (.d (.sl ((cM f on).map sc))) 0:=by
 refine bm.bW (n:=47) (ts:=[4]) Tryz.func58 (by kernel_rfl) Z Tryz.ntmps58 Tryz.results58 Z Z fun C hC U=>aa<|ab<|cz Z Z Z<|pE Z<|ae<|qs<|aa<|ab<|pu (IN aY Z Z Z Z Z Z Z Z Z) Z<|pE Z<|ae<|qs<|aa<|aZ 2 Z<|bc Z (fun O=>?_)<|fun O=>?_;·
  refine ab<|pE Z<|pu (bZ aY Z Z Z Z Z Z Z Z Z) Z<|za aY Z Z Z Z Z Z Z Z Z Z Z Z (ki Z) (κ Z)<|pE Z<|ae<|qs<|aa<|ab<|pE Z<|pu (bZ aY Z Z Z Z Z Z Z Z Z) Z<|ji aY Z Z Z Z Z Z Z Z Z Z Z Z Z Z<|pE Z<|ae<|qs<|aa<|aZ 2 Z<|W.block<|aZ 2 Z<|bc Z (fun J=>?_)<|fun J=>?_;·
   refine aa<|ab<|pE Z<|pu (bZ aY Z Z Z Z Z Z Z Z Z) Z<|ji aY Z Z Z Z Z Z Z Z Z Z Z Z Z Z<|pE Z<|ae<|qs<|W.ret<|bw<|be<|QF.bl trivial Z ?_;simp only[norm,bM,cM];simp_all[pP,pN,cn,dZ,cF,cm,dO,bY,dS,iE,eF];try exact if_neg (fun h=>by have:=I h.1;rw[this]at h;cases h.2)
  refine aZ 2 Z<|bc Z (fun M=>?_)<|fun M=>?_;·
   refine aa<|ab<|pE Z<|pu (bZ aY Z Z Z Z Z Z Z Z Z) Z<|ji aY Z Z Z Z Z Z Z Z Z Z Z Z Z Z<|pE Z<|ae<|qs<|W.ret<|bw<|be<|QF.bl trivial Z ?_;simp only[norm,bM,cM];simp_all[pP,pN,cn,dZ,cF,cm,dO,bY,dS,iE,eF];try exact if_neg (fun h=>by have:=I h.1;rw[this]at h;cases h.2)
  refine ah<|bX<|qs<|aa<|aZ 3 Z<|bc Z (fun N=>?_)<|fun N=>?_;·
   refine ab<|bb 3 Z<|pu (bZ aY Z Z Z Z Z Z Z Z Z) Z<|ji aY Z Z Z Z Z Z Z Z Z Z Z Z Z Z<|pE Z<|ae<|qs<|aa<|aa<|?_
   apply bJ;(case hb=>rfl);·repeat' first|refine b7 Z Z Z|refine bE Z Z ?_|refine bD Z Z Z Z ?_|refine pE Z ?_|refine ae ?_|(apply bU;(case hj=>rfl);(case hl=>rfl))
   refine qs (bc Z (fun I=>?_) (fun I=>?_));·
    refine ab<|bb 3 Z<|pu (bZ aY Z Z Z Z Z Z Z Z Z) Z<|ji aY Z Z Z Z Z Z Z Z Z Z Z Z Z Z<|pE Z<|ae<|qs<|aZ 2 Z<|W.ret<|QF.bl trivial Z ?_;simp only[norm,bM,cM];simp_all[pP,pN,cn,dZ,cF,cm,dO,bY,dS,iE,eF];try exact if_neg (fun h=>by have:=I h.1;rw[this]at h;cases h.2)
   refine ah<|qs<|aZ 2 Z<|W.ret<|QF.bl trivial Z ?_;simp only[norm,bM,cM];simp_all[pP,pN,cn,dZ,cF,cm,dO,bY,dS,iE,eF];try exact if_neg (fun h=>by have:=I h.1;rw[this]at h;cases h.2)
  refine ah<|qs<|aa<|aa<|?_
  apply bJ;(case hb=>rfl);·repeat' first|refine b7 Z Z Z|refine bE Z Z ?_|refine bD Z Z Z Z ?_|refine pE Z ?_|refine ae ?_|(apply bU;(case hj=>rfl);(case hl=>rfl))
  refine qs (bc Z (fun I=>?_) (fun I=>?_));·
   refine ab<|bb 3 Z<|pu (bZ aY Z Z Z Z Z Z Z Z Z) Z<|ji aY Z Z Z Z Z Z Z Z Z Z Z Z Z Z<|pE Z<|ae<|qs<|aZ 2 Z<|W.ret<|QF.bl trivial Z ?_;simp only[norm,bM,cM];simp_all[pP,pN,cn,dZ,cF,cm,dO,bY,dS,iE,eF];try exact if_neg (fun h=>by have:=I h.1;rw[this]at h;cases h.2)
  refine ah<|qs<|aZ 2 Z<|W.ret<|QF.bl trivial Z ?_;simp only[norm,bM,cM];simp_all[pP,pN,cn,dZ,cF,cm,dO,bY,dS,iE,eF];try exact if_neg (fun h=>by have:=I h.1;rw[this]at h;cases h.2)
 refine ah<|qs<|aa<|ab<|pE Z<|pu (bZ aY Z Z Z Z Z Z Z Z Z) Z<|za aY Z Z Z Z Z Z Z Z Z Z Z Z (ki Z) (κ Z)<|pE Z<|ae<|qs<|aa<|aZ 2 Z<|W.block<|aZ 2 Z<|bc Z (fun J=>?_)<|fun J=>?_;·
  refine aa<|ab<|pE Z<|pu (bZ aY Z Z Z Z Z Z Z Z Z) Z<|ji aY Z Z Z Z Z Z Z Z Z Z Z Z Z Z<|pE Z<|ae<|qs<|W.ret<|bw<|be<|QF.bl trivial Z ?_;simp only[norm,bM,cM];simp_all[pP,pN,cn,dZ,cF,cm,dO,bY,dS,iE,eF];try exact if_neg (fun h=>by have:=I h.1;rw[this]at h;cases h.2)
 refine aZ 2 Z<|bc Z (fun M=>?_)<|fun M=>?_;·
  refine aa<|ab<|pE Z<|pu (bZ aY Z Z Z Z Z Z Z Z Z) Z<|ji aY Z Z Z Z Z Z Z Z Z Z Z Z Z Z<|pE Z<|ae<|qs<|W.ret<|bw<|be<|QF.bl trivial Z ?_;simp only[norm,bM,cM];simp_all[pP,pN,cn,dZ,cF,cm,dO,bY,dS,iE,eF];try exact if_neg (fun h=>by have:=I h.1;rw[this]at h;cases h.2)
 refine ah<|bX<|qs<|aa<|aZ 3 Z<|bc Z (fun N=>?_)<|fun N=>?_;·
  refine ab<|bb 3 Z<|pu (bZ aY Z Z Z Z Z Z Z Z Z) Z<|ji aY Z Z Z Z Z Z Z Z Z Z Z Z Z Z<|pE Z<|ae<|qs<|aa<|aa<|?_
  apply bJ;(case hb=>rfl);·repeat' first|refine b7 Z Z Z|refine bE Z Z ?_|refine bD Z Z Z Z ?_|refine pE Z ?_|refine ae ?_|(apply bU;(case hj=>rfl);(case hl=>rfl))
  refine qs (bc Z (fun I=>?_) (fun I=>?_));·
   refine ab<|bb 3 Z<|pu (bZ aY Z Z Z Z Z Z Z Z Z) Z<|ji aY Z Z Z Z Z Z Z Z Z Z Z Z Z Z<|pE Z<|ae<|qs<|aZ 2 Z<|W.ret<|QF.bl trivial Z ?_;simp only[norm,bM,cM];simp_all[pP,pN,cn,dZ,cF,cm,dO,bY,dS,iE,eF];try exact if_neg (fun h=>by have:=I h.1;rw[this]at h;cases h.2)
  refine ah<|qs<|aZ 2 Z<|W.ret<|QF.bl trivial Z ?_;simp only[norm,bM,cM];simp_all[pP,pN,cn,dZ,cF,cm,dO,bY,dS,iE,eF];try exact if_neg (fun h=>by have:=I h.1;rw[this]at h;cases h.2)
 refine ah<|qs<|aa<|aa<|?_
 apply bJ;(case hb=>rfl);·repeat' first|refine b7 Z Z Z|refine bE Z Z ?_|refine bD Z Z Z Z ?_|refine pE Z ?_|refine ae ?_|(apply bU;(case hj=>rfl);(case hl=>rfl))
 refine qs (bc Z (fun I=>?_) (fun I=>?_));·
  refine ab<|bb 3 Z<|pu (bZ aY Z Z Z Z Z Z Z Z Z) Z<|ji aY Z Z Z Z Z Z Z Z Z Z Z Z Z Z<|pE Z<|ae<|qs<|aZ 2 Z<|W.ret<|QF.bl trivial Z ?_;simp only[norm,bM,cM];simp_all[pP,pN,cn,dZ,cF,cm,dO,bY,dS,iE,eF];try exact if_neg (fun h=>by have:=I h.1;rw[this]at h;cases h.2)
 refine ah<|qs<|aZ 2 Z<|W.ret<|QF.bl trivial Z ?_;simp only[norm,bM,cM];simp_all[pP,pN,cn,dZ,cF,cm,dO,bY,dS,iE,eF];try exact if_neg (fun h=>by have:=I h.1;rw[this]at h;cases h.2)
def Fc(caps:List A):Prop:=(∀bx k,caps.map (conv bx (k+3))=caps)∧lR caps=true
theorem B9(fid caps)(I:Fc caps)(p)(hp:∀x:ByteArray,bm Tryz.prog fid (.d (.v (.string x))::caps) (.d (.v (.bool (p x)))) 0)(l:List ByteArray):
 bm Tryz.prog 148 [.d (.sl (l.map sc)),.clo fid caps] (.d (.v (.int .i64 (idx (l.findIdx? p))))) 0:=by
 refine bm.bW (n:=19) (ts:=[4]) Tryz.func148 (by kernel_rfl) Z Tryz.ntmps148 Tryz.results148 Z Z fun C hC X=>aZ 1 Z<|aa<|aZ 3 Z<|W.block<|W.len (t:=0) Z Z<|fun hlen=>?_;try simp only[η,Ex.bG]at hlen
 refine W.ca (ι:={x:Nat//match x with|k=>k<=l.length∧c8 p l k})
  (fun x=>match x.1 with|k=>[(8,.d (.v (.int .i64 ((k:Nat):Int))))]) [(0,_),(1,_),(7,_)]
  (fun x=>match x.1 with|k=>[]) [] [] 0 (fun x=>match x.1 with|k=>l.length-k)
  [] ⟨0,?_⟩ Z ?_ ⟨rfl,(by first|rfl|exact I.2),rfl,(by first|rfl|exact I.2),rfl,(by first|rfl|exact I.2),trivial⟩ ?_ trivial Z ?_
 ·exact⟨ς _,c8.zero⟩
 ·repeat' constructor
 ·repeat' exact trivial
 rintro⟨k,U,M⟩;show W _ _ _ _ _ ⟨[(8,.d (.v (.int .i64 ((k:Nat):Int)))),(0,_),(1,_),(7,_)],[],[],0⟩;refine aZ 1 Z<|aa<|cr (l:=l) (k:=k) Z (by simp[Ex.bG,bo]) U (fun x N hd O=>?_)<|fun he hd=>?_;·
  refine ah<|qs<|aa<|W.block<|aZ 2 Z<|aa<|ab<|bb 3 Z<|pu (indexAddr aY Z Z Z Z Z Z (ε _) (bC (by assumption)) Z) Z<|bb 1 Z<|pu (bk Z Z (by rw[y',I.1 _ 2];rfl) (hp x) Z) Z<|ae<|qs<|bc Z (fun J=>?_)<|fun J=>?_;·
   refine aZ 2 Z<|W.ret<|bw<|be<|cE<|bw<|be<|QF.bl trivial Z ?_;simp only[norm,bM];rw[M.found N J];rfl
  refine ah<|bX<|qs<|cu 2 Z<|W.cg [] ⟨k+1,?_⟩ ?_ Z ?_ ⟨rfl,(by first|rfl|exact I.2),rfl,(by first|rfl|exact I.2),rfl,(by first|rfl|exact I.2),trivial⟩ ?_ trivial Z;·exact⟨O,M.step N J⟩
  ·dsimp only;omega
  ·repeat' first|exact trivial|refine⟨bF (by assumption) (by assumption),?_⟩
  repeat' exact trivial
 refine ak<|bP<|bQ<|bO<|qs<|aZ 1 Z<|W.ret<|QF.bl trivial Z ?_;simp only[norm,bM];rw[M.end_ he];rfl
theorem vD(fid caps)(I:Fc caps)(p)(hp:∀x:ByteArray,bm Tryz.prog fid (.d (.v (.string x))::caps) (.d (.v (.bool (p x)))) 0)(l:List ByteArray):
 bm Tryz.prog 97 [.d (.sl (l.map sc)),.clo fid caps] (.d (.v (.bool (l.any p)))) 0:=by
 refine bm.bW (n:=9) (ts:=[4]) Tryz.func97 (by kernel_rfl) Z Tryz.ntmps97 Tryz.results97 Z Z fun C hC J=>aZ 1 Z<|aa<|ab<|bb 2 Z<|pu (bk (args:=[.d (.sl (l.map sc)),.clo fid caps]) Z Z (by simp[conv,I.1 _ 1]) (B9 fid caps I p hp l) Z) Z<|bb 2 Z<|ae<|qs<|W.ret<|QF.bl trivial Z ?_;simp only[norm,bM];rw[<-iM]
abbrev obj(j:JV)(bad:Bool):List A:=[.d (ci j.op),.d (ci j.n),.d (cs j.s),.d (.sl (j.keys.map sc)),.d (.sl j.kc),.d (.v (.bool bad))]
theorem FQ(j:JV)(bad k):bm Tryz.prog 98 [.d (.v (.string k)),.row [.row (obj j bad)]] (.d (.v (.bool (!j.keys.any fun x=>decide (k=x))))) 0:=by refine bm.bW (n:=12) (ts:=[3]) Tryz.func98 (by kernel_rfl) Z Tryz.ntmps98 Tryz.results98 Z Z fun C hC I=>?_;refine aZ 1 Z ?_;refine aa (ab (bb 6 Z ?_));refine pu (bk Z Z Z (A1 ..) Z) Z ?_;refine bb 2 Z ?_;refine ae (qs (W.ret (QF.bl trivial Z ?_)));rfl
theorem DP:∀{k:Nat},k<12->∃f,gC[k]?=some f∧ma.extract k (k+1)=f.ph
 |0,_=>⟨_,rfl,by decide+kernel⟩
 |1,_=>⟨_,rfl,by decide+kernel⟩
 |2,_=>⟨_,rfl,by decide+kernel⟩
 |3,_=>⟨_,rfl,by decide+kernel⟩
 |4,_=>⟨_,rfl,by decide+kernel⟩
 |5,_=>⟨_,rfl,by decide+kernel⟩
 |6,_=>⟨_,rfl,by decide+kernel⟩
 |7,_=>⟨_,rfl,by decide+kernel⟩
 |8,_=>⟨_,rfl,by decide+kernel⟩
 |9,_=>⟨_,rfl,by decide+kernel⟩
 |10,_=>⟨_,rfl,by decide+kernel⟩
 |11,_=>⟨_,rfl,by decide+kernel⟩
 |k+12,h=>by omega
theorem Ga(k b):bm Tryz.prog 63 [.d (ci k),.d (.v (.bool b))] (.d (.sl ((gM k b).map sc))) 0:=by
 refine bm.bW (n:=34) (ts:=[4]) Tryz.func63 (by kernel_rfl) Z Tryz.ntmps63 Tryz.results63 Z Z fun C hC hG=>aZ 1 Z<|aa<|aZ 1 Z<|W.block<|aa<|aZ 2 Z<|bc Z (fun I=>?_)<|fun I=>?_;·
  refine ah<|qs<|W.gr Z<|aa<|ab<|pu (bZ aY Z Z Z Z Z Z Z Z Z) Z<|pE Z<|ae<|qs<|W.ret<|bw<|be<|QF.bl trivial Z ?_;simp only[norm,bM,gM];simp_all[cm,dO,bY,dS,iE,eF,ja,mf,iJ,lW,jc]
 refine cu 2 Z<|qs<|bc Z (fun I=>?_)<|fun I=>?_;·
  refine aa<|ab<|pu (bZ aY Z Z Z Z Z Z Z Z Z) Z<|pE Z<|ae<|qs<|W.ret<|bw<|be<|QF.bl trivial Z ?_;simp only[norm,bM,gM];simp_all[cm,dO,bY,dS,iE,eF,ja,mf,iJ,lW,jc]
 refine aZ 2 Z<|bc Z (fun J=>?_)<|fun J=>?_;·
  refine aa<|ab<|pu (bZ aY Z Z Z Z Z Z Z Z Z) Z<|pE Z<|ae<|qs<|W.ret<|bw<|be<|QF.bl trivial Z ?_;simp only[norm,bM,gM];simp_all[cm,dO,bY,dS,iE,eF,ja,mf,iJ,lW,jc]
 refine aZ 2 Z<|bc Z (fun M=>?_)<|fun M=>?_;·
  refine aa<|ab<|pu (bZ aY Z Z Z Z Z Z Z Z Z) Z<|pE Z<|ae<|qs<|W.ret<|bw<|be<|QF.bl trivial Z ?_;simp only[norm,bM,gM];simp_all[cm,dO,bY,dS,iE,eF,ja,mf,iJ,lW,jc]
 refine aZ 2 Z<|bc Z (fun N=>?_)<|fun N=>?_;·
  refine aa<|ab<|pu (bZ aY Z Z Z Z Z Z Z Z Z) Z<|pE Z<|ae<|qs<|W.ret<|bw<|be<|QF.bl trivial Z ?_;simp only[norm,bM,gM];simp_all[cm,dO,bY,dS,iE,eF,ja,mf,iJ,lW,jc]
 refine aZ 2 Z<|bc Z (fun O=>?_)<|fun O=>?_;·
  refine aa<|ab<|pu (bZ aY Z Z Z Z Z Z Z Z Z) Z<|pE Z<|ae<|qs<|W.ret<|bw<|be<|QF.bl trivial Z ?_;simp only[norm,bM,gM];simp_all[cm,dO,bY,dS,iE,eF,ja,mf,iJ,lW,jc]
 refine aZ 2 Z<|bc Z (fun U=>?_)<|fun U=>?_;·
  refine aa<|aZ 1 Z<|bc Z (fun X=>?_)<|fun X=>?_;·
   refine aa<|ab<|pu (bZ aY Z Z Z Z Z Z Z Z Z) Z<|pE Z<|ae<|qs<|W.ret<|be<|bw<|be<|QF.bl trivial Z ?_;simp only[norm,bM,gM];simp_all[cm,dO,bY,dS,iE,eF,ja,mf,iJ,lW,jc]
  refine ah<|qs<|aa<|ab<|pu (bZ aY Z Z Z Z Z Z Z Z Z) Z<|pE Z<|ae<|qs<|W.ret<|bw<|be<|QF.bl trivial Z ?_;simp only[norm,bM,gM];simp_all[cm,dO,bY,dS,iE,eF,ja,mf,iJ,lW,jc]
 refine aZ 2 Z<|bc Z (fun ad=>?_)<|fun ad=>?_;·
  refine aa<|ab<|pu (bZ aY Z Z Z Z Z Z Z Z Z) Z<|pE Z<|ae<|qs<|W.ret<|bw<|be<|QF.bl trivial Z ?_;simp only[norm,bM,gM];simp_all[cm,dO,bY,dS,iE,eF,ja,mf,iJ,lW,jc]
 refine aZ 2 Z<|bc Z (fun ai=>?_)<|fun ai=>?_;·
  refine aa<|ab<|pu (bZ aY Z Z Z Z Z Z Z Z Z) Z<|pE Z<|ae<|qs<|W.ret<|bw<|be<|QF.bl trivial Z ?_;simp only[norm,bM,gM];simp_all[cm,dO,bY,dS,iE,eF,ja,mf,iJ,lW,jc]
 refine ah<|bX<|qs<|aa<|ab<|pu (bZ aY Z Z Z Z Z Z Z Z Z) Z<|pE Z<|ae<|qs<|W.ret<|QF.bl trivial Z ?_;simp only[norm,bM,gM];simp_all[cm,dO,bY,dS,iE,eF,ja,mf,iJ,lW,jc]
theorem kD(j:JV)(bad key op):cU Tryz.prog 55 [.ptr 0 0,.d (.v (.string key)),.d (.v (.int .i64 op))] [obj j bad] 0 (.ag (cK j key op).c) [obj j (bad||fk j key op)] 0:=by
 refine cU.dY aY (n:=31) (rs:=[.cell 6 46]) Tryz.func55 (by kernel_rfl) Z Tryz.ntmps55 Tryz.results55 Z Z fun C hC M=>aa<|ab<|b9 aY Z Z Z<|ae<|qs<|aa<|ab<|bb 5 Z<|pu (bk Z Z Z (Io j key) Z) Z<|bb 3 Z<|b9 aY Z Z Z<|bt aY Z Z Z Z Z Z Z Z<|pE Z<|ae<|qs<|aa<|aa<|?_
 apply bJ;(case hb=>rfl);·repeat' first|refine b7 Z Z Z|refine bE Z Z ?_|refine bD Z Z Z Z ?_|refine pE Z ?_|refine ae ?_|(apply bU;(case hj=>rfl);(case hl=>rfl))
 refine qs (bc Z (fun I=>?_) (fun I=>?_));·
  obtain⟨hb,J⟩:=Hd I;rw[hb,J,Bool.or_true];refine aa<|ab<|bb 3 Z<|bt aY Z Z Z Z Z Z Z Z<|ae<|qs<|aa<|ab<|pu (build aY Z Z Z Z) Z ?_;try refine iR 29 Z Z Z ?_
  refine bt aY Z Z Z Z Z Z Z Z (ae (qs (W.ret (be (an aY [] trivial Z Z Z Z ?_ ?_)))));·exact⟨rfl,trivial⟩
  rfl
 obtain⟨hb,J⟩:=Ie I;rw[hb,J,Bool.or_false];refine ah<|qs<|aa<|ab<|bb 1 Z<|bt aY Z Z Z Z Z Z Z Z<|ae<|qs<|W.ret<|an aY [] trivial Z Z Z Z ?_ ?_;·exact⟨rfl,trivial⟩
 rfl
theorem vH(j:JV)(bad):cU Tryz.prog 51 [.ptr 0 0] [obj j bad] 0 (.tup [.d (ci (cK j cF 3).n),.d (cs (cK j dZ 4).s)]) [obj j (db j bad)] 0:=by
 refine cU.dY aY (n:=23) (rs:=[.tmp 2,.tmp 3]) Tryz.func51 (by kernel_rfl) Z Tryz.ntmps51 Tryz.results51 Z Z fun C hC I=>aZ 2 Z<|aa<|ab<|pE Z<|bT [0] [] Z Z Z Z Z ((kD j bad cF 3)) Z Z (by rfl) (by rfl) Z Z Z Z<|bb 2 Z<|ae<|qs<|aa<|ab<|bb 6 Z<|oh Z Z (fun g13=>?_)<|fun g13=>?_;·
  have hb:db j bad=(true||fk j dZ 4):=by unfold db;rw[show(bad||fk j cF 3)=true from g13];rfl
  rw[hb];refine bD Z Z Z Z<|bD Z Z Z Z<|bb 3 Z ?_
  refine bt aY Z Z Z Z Z Z Z Z<|ae<|qs<|aa<|ab<|bb 2 Z<|bT [0] [] Z Z Z Z Z ((kD j _ dZ 4)) Z Z (by rfl) (by rfl) Z Z Z Z<|bb 3 Z<|ae<|qs<|W.ret<|an aY [] trivial Z Z Z Z ?_ ?_;·exact⟨rfl,trivial⟩
  rfl
 have hb:db j bad=(decide ((cK j cF 3).n<0)||fk j dZ 4):=by unfold db;rw[show(bad||fk j cF 3)=false from g13];rfl
 rw[hb];refine bE Z Z<|pE Z<|bE Z Z<|bb 4 Z<|bt aY Z Z Z Z Z Z Z Z<|ae<|qs<|aa<|ab<|bb 2 Z<|bT [0] [] Z Z Z Z Z ((kD j _ dZ 4)) Z Z (by rfl) (by rfl) Z Z Z Z<|bb 3 Z<|ae<|qs<|W.ret<|an aY [] trivial Z Z Z Z ?_ ?_;·exact⟨rfl,trivial⟩
 rfl
theorem vw(j:JV)(bad)(l:List ByteArray):bm Tryz.prog 57 [.row (obj j bad),.d (.sl (l.map sc))] (.d (.v (.bool (iG j l)))) 0:=by
 refine bm.bW (n:=20) (ts:=[4]) Tryz.func57 (by kernel_rfl) Z Tryz.ntmps57 Tryz.results57 Z Z fun C hC I=>aa<|ab<|cz Z Z Z<|pE Z<|ae<|qs<|aa ?_;apply bJ;(case hb=>rfl);·repeat' first|refine b7 Z Z Z|refine bE Z Z ?_|refine bD Z Z Z Z ?_|refine pE Z ?_|refine pu (bk Z Z Z (vD _ [.row [.row (obj j bad)]] ⟨fun _ _=>rfl,rfl⟩ _ (FQ j bad) l) Z) Z ?_|refine ae ?_|(apply bU;(case hj=>rfl);(case hl=>rfl))
 refine qs (W.ret (QF.bl trivial Z ?_));show A.d (.v (.bool _))=A.d (.v (.bool _));unfold iG;rw[η,η];congr 3;simp only[cond_eq_ite];by_cases h:j.keys.length=l.length<;>simp[h]<;>omega
theorem zN{l:List JV}{x:JV}(h:l[k]?=some x):jC (l.take (k+1))=(jC (l.take k)||!decide (x.op=4)):=by unfold jC;rw[Φ,h];simp
theorem EU(j:JV)(bad)(hs:(cK j bY 5).kids.length<=1000000000):cU Tryz.prog 56 [.ptr 0 0] [obj j bad] 0 (.d (.sl ((vj j).map sc))) [obj j ((bad||fk j bY 5)||jC (cK j bY 5).kids)] 0:=by
 refine cU.dY aY (n:=33) (rs:=[.tmp 2]) Tryz.func56 (by kernel_rfl) Z Tryz.ntmps56 Tryz.results56 Z Z fun C hC hG=>aZ 1 Z<|aZ 1 Z<|aa<|aa<|ab<|pE Z<|bT [0] [] Z Z Z Z Z ((kD j bad bY 5)) Z Z (by rfl) (by rfl) Z Z Z Z<|bb 3 Z<|ae<|qs<|W.block<|sY (d:=3) Z Z<|W.len (t:=8) Z Z<|fun hlen=>?_
 try simp only[η,Ex.bG]at hlen
 refine W.ca (ι:={x:Nat×Bool×List ByteArray//match x with|(k,b,out)=>k<=(cK j bY 5).kids.length∧out=((cK j bY 5).kids.take k).map JV.s∧b=((bad||fk j bY 5)||jC ((cK j bY 5).kids.take k))})
  (fun x=>match x.1 with|(k,b,out)=>[(0,.ptr 0 0),(3,.own 1 (out.map sc)),(10,.d (.v (.int .i64 ((k:Nat):Int))))]) [(8,_),(9,_)]
  (fun x=>match x.1 with|(k,b,out)=>[(0,obj j b)]) [] [1] 2 (fun x=>match x.1 with|(k,b,out)=>(cK j bY 5).kids.length-k)
  [0,2] ⟨(0,bad||fk j bY 5,[]),?_⟩ rfl ?_ ⟨rfl,rfl,rfl,rfl,trivial⟩ ?_ trivial rfl ?_
 ·exact⟨ς _,rfl,by simp[jC]⟩
 ·repeat' constructor
 ·repeat' constructor
 rintro⟨⟨k,b,out⟩,hk,hout,hI⟩
 show W _ _ _ _ _ ⟨[(0,.ptr 0 0),(3,.own 1 (out.map sc)),(10,.d (.v (.int .i64 ((k:Nat):Int)))),(8,_),(9,_)],[(0,obj j b)],[1],2⟩
 have hkm:(cK j bY 5).kids.length<=maxLen:=by rw[<-JV.bG];exact hlen
 have hol:out.length<=(cK j bY 5).kids.length:=by rw[hout,η,V'];exact Nat.min_le_right _ _
 refine aZ 1 Z<|aa<|cr (l:=(cK j bY 5).kids) (k:=k) Z (by simp[JV.bG]) hk (fun x hx hd hlt=>?_)<|fun he hd=>?_
 ·
  refine ah<|qs<|aa<|W.block<|aa<|ab<|pu (indexAddr (l:=x.c) aY Z Z Z Z Z Z (ε _) (JV.DX hx) Z) Z<|bb 1 Z<|b9 aY Z Z Z<|bt aY Z Z Z Z Z Z Z Z<|ae<|qs<|aa<|ab<|bb 6 Z<|oh Z Z (fun g19=>?_)<|fun g19=>?_
  ·
   let nb:Bool:=true
   refine bD Z Z Z Z<|bD Z Z Z Z<|bD Z Z Z Z<|bb 3 Z<|bt aY Z Z Z Z Z Z Z Z<|ae<|qs<|ab<|bb 3 Z<|pu (bZ aY Z Z Z Z Z Z Z Z Z) Z<|eT (a:=x.s) aY Z Z Z Z Z Z Z Z Z Z (fun _=>rfl) (by show(out.length+1)*16<=_;omega)<|pE Z<|ae<|bX<|qs<|cu 2 Z<|W.cg [0,3] ⟨(k+1,nb,out++[x.s]),?_⟩ ?_ Z ?_ ⟨rfl,rfl,rfl,rfl,trivial⟩ ?_ trivial Z
   ·exact⟨hlt,by rw[Φ,hx,y',hout];rfl,by rw[zN hx,←Bool.or_assoc,←hI,g19];rfl⟩
   ·dsimp only;omega
   ·repeat' first|exact trivial|refine⟨rfl,?_⟩|refine⟨bF (by assumption) (by assumption),?_⟩
   repeat' constructor
  let nb:Bool:=!decide (x.op=4)
  refine bE Z Z<|pE Z<|bE Z Z<|bb 1 Z<|bE Z Z<|bb 4 Z<|bt aY Z Z Z Z Z Z Z Z<|ae<|qs<|ab<|bb 3 Z<|pu (bZ aY Z Z Z Z Z Z Z Z Z) Z<|eT (a:=x.s) aY Z Z Z Z Z Z Z Z Z Z (fun _=>rfl) (by show(out.length+1)*16<=_;omega)<|pE Z<|ae<|bX<|qs<|cu 2 Z<|W.cg [0,3] ⟨(k+1,nb,out++[x.s]),?_⟩ ?_ Z ?_ ⟨rfl,rfl,rfl,rfl,trivial⟩ ?_ trivial Z
  ·exact⟨hlt,by rw[Φ,hx,y',hout];rfl,by rw[zN hx,←Bool.or_assoc,←hI,g19];rfl⟩
  ·dsimp only;omega
  ·repeat' first|exact trivial|refine⟨rfl,?_⟩|refine⟨bF (by assumption) (by assumption),?_⟩
  repeat' constructor
 rw[he,List.take_length]at hI;rw[<-hI]
 refine ak<|bP<|bQ<|bO<|qs<|aZ 2 Z<|W.ret<|an aY [] trivial Z Z Z Z ?_ ?_
 ·exact⟨rfl,trivial⟩
 rw[hout,he,List.take_length];rfl
abbrev sA:List A:=[.d (ci 0),.d (ci 0),.d (cs (B #[])),.d (ci 0),.d (ci 0),.d (.v (.slice none 0 0))]
abbrev Lk(j:JV):Nat->Bool
 |0=>db j (dv j)
 |_+1=>fS j (db j (dv j))
abbrev yU(j:JV)(f:Fm)(k:Nat):List (Nat×List A):=[(2,obj j (Lk j k)),(5,f.c.map A.d),(4,[.d (cs (cK j dZ 4).s)]),(1,sA),(0,j.c.map A.d)]
abbrev nh(j:JV)(f:Fm):kz:=⟨yU j f,fun k=>(6,sA)::yU j f k,fun _=>[],fun k=>7+k,fun k=>[0,1,2,3,4,5,7+k]++(List.range k).map (7+·),6,sA,[3],6,fun _=>False⟩
theorem A5{ph}(h:idx (gC.findIdx? fun f=>decide (f.ph=ph))<0):mK ph=none:=by
 unfold mK
 cases hi:gC.findIdx? fun f=>decide (f.ph=ph)with
 |none=>rfl
 |some i=>rw[hi]at h;simp[idx]at h;omega
theorem A4{ph}(h:¬idx (gC.findIdx? fun f=>decide (f.ph=ph))<0):∃(i:Nat)(f:Fm),idx (gC.findIdx? fun f=>decide (f.ph=ph))=(i:Int)∧gC[i]?=some f∧mK ph=some f:=by
 cases hi:gC.findIdx? fun f=>decide (f.ph=ph)with
 |none=>rw[hi]at h;simp[idx]at h
 |some i=>obtain⟨hl,_⟩:=List.findIdx?_eq_some_iff_getElem.1 hi;refine⟨i,gC[i],rfl,by simp[hl],?_⟩;unfold mK;rw[hi];simp[hl]
set_option maxHeartbeats 1000000 in
theorem GA(j:JV)(hs:(cK j bY 5).kids.length<=1000000000):bm Tryz.prog 19 [.ag j.c] (.tup [.d (ci (cN j).1),.ag (cN j).2.1.c,.d (ci (cN j).2.2)]) 0:=by
 refine bm.dY aY (n:=114) (rs:=[.tmp 2,.cell 3 50,.tmp 4]) Tryz.func19 (by kernel_rfl) Z Tryz.ntmps19 Tryz.results19 Z fun C hC hG=>aa<|ab<|cz Z Z Z<|pE Z<|b9 aY Z Z Z<|pE Z<|ae<|qs<|aa<|aa<|ab<|bb 1 Z ?_
 refine pu (bk Z Z Z (xM j) Z) Z<|pE Z<|ae<|qs<|aZ 2 Z<|bc Z (fun ad=>?_)<|fun ad=>?_;·
  have J:cN j=(0,rR,b8 j 1):=by unfold cN;rw[if_pos (by simpa using ad)]
  refine aa<|ab<|pu (kQ (build aY Z Z Z Z) Z) Z<|bb 2 Z<|bt aY Z Z Z Z Z Z Z Z<|pE Z<|ae<|qs<|W.ret<|be<|QV.bl aY trivial Z ?_;rw[J];rfl
 have a1:b8 j 1=0:=by simpa using ad
 refine ah<|qs<|aa<|ab<|bb 4 Z<|pu (build aY Z Z Z Z) Z<|cz Z Z Z<|pE Z<|ae<|qs<|aa<|ab<|pE Z<|bT [2] [] Z Z Z Z Z ((vH j (dv j))) Z Z (by rfl) (by rfl) Z Z Z Z<|bb 3 Z<|b9 aY Z Z Z<|pE Z<|bt aY Z Z Z Z Z Z Z Z<|ae<|qs<|aa<|ab<|pu (bk Z Z Z (pg ..) Z) Z<|pE Z<|pu (bk Z Z Z (vC _ _ ⟨fun _ _=>rfl,rfl⟩ _ (Ig (cK j dZ 4).s) gC) Z) Z<|pE Z<|ae<|qs<|aa<|aa<|?_
 apply bJ;(case hb=>rfl);·
  refine bb 5 Z ?_;apply dP;(case hj=>rfl);(case hl=>rfl);·
   intro a7;refine bD Z Z Z Z<|bD Z Z Z Z<|pE Z<|ae<|b7 Z Z Z
  intro a7;refine bE Z Z<|pE Z<|bE Z Z<|bb 2 Z<|ae<|b7 Z Z Z
 refine qs (bc Z (fun I=>?_) (fun I=>?_));·
  have J:cN j=(0,rR,10):=by
   unfold cN;rw[if_neg (by rw[a1];simp)]
   cases hb:db j (dv j)with
   |true=>rfl
   |false=>rw[hb]at I;rw[A5 (by simpa using I)];rfl
  refine aa<|ab<|pu (kQ (build aY Z Z Z Z) Z) Z<|pE Z<|bt aY Z Z Z Z Z Z Z Z<|pE Z<|ae<|qs<|W.ret<|be<|QV.bl aY trivial Z ?_;rw[J];rfl
 have a6:db j (dv j)=false:=by
  cases hb:db j (dv j)with
  |true=>rw[hb]at I;cases I
  |false=>rfl
 obtain⟨i,f,hi,hf,a8⟩:=A4 (ph:=(cK j dZ 4).s) (by rw[a6]at I;simpa using I);have hE:cN j=if(bif yT j f (db j (dv j))then true else !iG j (cM f (jk j f)))=true then(0,rR,10)else if dq (ov j f)≠0 then(0,rR,dq (ov j f))else((cK j cF 3).n,ov j f,0):=by unfold cN;rw[if_neg (by rw[a1];simp),if_neg (by rw[a6];simp),a8]
 rw[hi];refine ah<|qs<|aa<|ab<|pu (bk Z Z Z (pg ..) Z) Z<|pE Z<|pu (indexAddr (l:=f.c) aY Z Z Z Z Z Z (ε _) (bC hf) Z) Z<|bb 1 Z<|b9 aY Z Z Z<|bt aY Z Z Z Z Z Z Z Z<|ae<|qs<|aa<|W.pK aY (nh j f) false 7 (by kernel_rfl) (by kernel_rfl) Z Z (fun _ _ h=>h.elim) ?hok (pG.le (f':=yU j f 0) ⟨rfl,rfl,rfl,rfl,rfl,trivial⟩) Z Z ?hcd;case hok=>exact fun _=>⟨by repeat'(first|exact trivial|exact Z|refine And.intro ?_ ?_),by repeat'(first|exact trivial|exact Z|refine And.intro ?_ ?_)⟩
 refine' wO ?p0 Z Z Z (by kernel_rfl) Z ?h0;case p0=>refine⟨?_,?_,?_,?_⟩<;>intro M<;>first|(refine⟨ev aY Z,?_⟩;intro _;rfl)|exact ba M
 case' h0=>skip
 refine' wO ?p1 Z Z Z (by kernel_rfl) Z ?h1;case p1=>refine⟨?_,?_,?_,?_⟩<;>intro M<;>first|(refine⟨ev aY Z,?_⟩;intro _;rfl)|exact ba M
 case' h1=>skip
 refine' wO ?p2 Z Z Z (by kernel_rfl) Z ?h2;case p2=>refine⟨?_,?_,?_,?_⟩<;>intro M<;>first|(refine⟨ev aY Z,?_⟩;intro _;rfl)|exact ba M
 case' h2=>skip
 refine' zp ?x3 Z Z Z (by kernel_rfl) ?r3 Z ?h3;case x3=>
  intro b hb g;cases b;·
   refine bT [2] [] Z Z Z Z Z (kD j (db j (dv j)) dO 3) Z Z (by rfl) (by rfl) Z Z Z Z<|D0 (yU j f 1) ⟨rfl,rfl,rfl,rfl,rfl,trivial⟩<|ae ?_;exact⟨rfl,rfl⟩
  refine bT [2] [] Z Z Z Z Z (kD j (db j (dv j)) dO 3) Z Z (by rfl) (by rfl) Z Z Z Z<|D0 ((6,sA)::yU j f 1) ⟨rfl,rfl,rfl,rfl,rfl,rfl,trivial⟩<|ae ?_;exact⟨rfl,rfl⟩
 case r3=>intro _;rfl
 case' h3=>skip
 refine' wO ?p4 Z Z Z (by kernel_rfl) Z ?h4;case p4=>refine⟨?_,?_,?_,?_⟩<;>intro M<;>first|(refine⟨ev aY Z,?_⟩;intro _;rfl)|exact ba M
 case' h4=>skip
 refine' wO ?p5 Z Z Z (by kernel_rfl) Z ?h5;case p5=>refine⟨?_,?_,?_,?_⟩<;>intro M<;>first|(refine⟨Pu.sE (build aY Z Z Z Z) Z,?_⟩;intro _;rfl)|exact ba M
 case' h5=>skip
 refine LH Z Z Z Z Z (by kernel_rfl) Z<|ar ?_ Z;refine bt aY Z Z Z Z Z Z Z Z<|ae<|qs<|aa<|aZ 2 Z<|W.nl [(3,.ptr 0 0),(6,.ptr 1 0),(10,.ptr 2 0),(11,.ptr 3 0)] [7] [(0,sA),(1,obj j (fI j f (fS j (db j (dv j))))),(2,f.c.map A.d),(3,[.d (ci (zm j)),.d (ci f.kind),.d (cs (nC j f)),.d (ci 0),.d (ci 0),.d (.sl [])])] [] [] 4 ?_ ?_;·
  refine bc Z (fun N=>?_) (fun N=>?_);·
   rw[show fI j f (fS j (db j (dv j)))=(fS j (db j (dv j))||fk j cm 4)from if_pos N,show nC j f=(cK j cm 4).s from if_pos N];refine ab<|pE Z<|bT [2] [] Z Z Z Z Z ((kD j (fS j (db j (dv j))) cm 4)) Z Z (by rfl) (by rfl) Z Z Z Z<|bb 2 Z<|bt aY Z Z Z Z Z Z Z Z<|ae<|dL [1,2,5,6] Z ?_ ⟨rfl,rfl,trivial⟩ ?_ trivial Z;·repeat' constructor
   repeat' constructor
  rw[show fI j f (fS j (db j (dv j)))=fS j (db j (dv j))from if_neg (by rw[N];simp),show nC j f=cn from if_neg (by rw[N];simp)];refine ah (dL [1,2,5,6] Z ?_ ⟨rfl,rfl,trivial⟩ ?_ trivial Z);·repeat' constructor
  repeat' constructor
 refine qs<|aa<|aZ 3 Z<|W.nl [(3,.ptr 0 0),(6,.ptr 1 0),(10,.ptr 2 0),(11,.ptr 3 0)] [7] [(0,sA),(1,obj j (jb j f (fI j f (fS j (db j (dv j)))))),(2,f.c.map A.d),(3,[.d (ci (zm j)),.d (ci f.kind),.d (cs (nC j f)),.d (ci (nO j f)),.d (ci 0),.d (.sl [])])] [] [] 4 ?_ ?_;·
  refine bc Z (fun ai=>?_) (fun ai=>?_);·
   have hn:¬f.n=cn:=by simpa[cn]using ai
   rw[show jb j f (fI j f (fS j (db j (dv j))))=(fI j f (fS j (db j (dv j)))||fk j f.n 3)from if_neg hn,show nO j f=(cK j f.n 3).n from if_neg hn];refine ab<|bb 3 Z<|bT [1] [] Z Z Z Z Z ((kD j (fI j f (fS j (db j (dv j)))) f.n 3)) Z Z (by rfl) (by rfl) Z Z Z Z<|bb 2 Z<|bt aY Z Z Z Z Z Z Z Z<|ae<|dL [0,1,2,3] Z ?_ ⟨rfl,rfl,trivial⟩ ?_ trivial Z;·repeat' constructor
   repeat' constructor
  have hn:f.n=cn:=by simpa[cn]using ai
  rw[show jb j f (fI j f (fS j (db j (dv j))))=fI j f (fS j (db j (dv j)))from if_pos hn,show nO j f=0 from if_pos hn];refine ah (dL [0,1,2,3] Z ?_ ⟨rfl,rfl,trivial⟩ ?_ trivial Z);·repeat' constructor
  repeat' constructor
 refine qs (aa ?_);apply bJ;(case hb=>rfl);·
  refine bb 4 Z ?_;apply dP;(case hj=>rfl);(case hl=>rfl);·
   intro b0;refine bD Z Z Z Z<|bD Z Z Z Z<|bD Z Z Z Z<|bb 2 Z ?_
   refine ae (b7 Z Z Z)
  intro b0;refine bE Z Z<|pE Z<|bE Z Z<|bb 1 Z<|bE Z Z<|bb 3 Z<|ae<|b7 Z Z Z
 refine qs<|aa<|aa<|?_
 apply bJ;(case hb=>rfl);·
  refine bb 4 Z ?_;apply dP;(case hj=>rfl);(case hl=>rfl);·
   intro b2;refine bE Z Z<|bb 2 Z<|ae<|b7 Z Z Z
  intro b2;refine bD Z Z Z Z (pE Z (ae (b7 Z Z Z)))
 refine qs (W.nl [(3,.ptr 0 0),(6,.ptr 1 0),(10,.ptr 2 0),(11,.ptr 3 0)] [7,12] [(0,sA),(1,obj j (lJ j f (jk j f) (jb j f (fI j f (fS j (db j (dv j))))))),(2,f.c.map A.d),(3,[.d (ci (zm j)),.d (ci f.kind),.d (cs (nC j f)),.d (ci (nO j f)),.d (ci (mO j f (jk j f))),.d (.sl [])])] [] [] 4 ?_ ?_);·
  refine bc Z (fun aj=>?_) (fun aj=>?_);·
   have hm:pJ f (jk j f)=true:=aj;rw[show lJ j f (jk j f) (jb j f (fI j f (fS j (db j (dv j)))))=(jb j f (fI j f (fS j (db j (dv j))))||fk j f.m 3)from if_pos hm,show mO j f (jk j f)=(cK j f.m 3).n from if_pos hm];refine ab<|bb 3 Z<|bT [1] [] Z Z Z Z Z ((kD j (jb j f (fI j f (fS j (db j (dv j))))) f.m 3)) Z Z (by rfl) (by rfl) Z Z Z Z<|bb 2 Z<|bt aY Z Z Z Z Z Z Z Z<|ae<|dL [0,1,2,3] Z ?_ ⟨rfl,rfl,rfl,rfl,trivial⟩ ?_ trivial Z;·repeat' constructor
   repeat' constructor
  have hm:¬pJ f (jk j f)=true:=by rw[show pJ f (jk j f)=false from aj];simp
  rw[show lJ j f (jk j f) (jb j f (fI j f (fS j (db j (dv j)))))=jb j f (fI j f (fS j (db j (dv j))))from if_neg hm,show mO j f (jk j f)=0 from if_neg hm];refine ah (dL [0,1,2,3] Z ?_ ⟨rfl,rfl,rfl,rfl,trivial⟩ ?_ trivial Z);·repeat' constructor
  repeat' constructor
 refine qs<|aa<|aZ 2 Z<|W.nl [(3,.ptr 0 0),(6,.ptr 1 0),(10,.ptr 2 0),(11,.ptr 3 0)] [7,12] [(0,sA),(1,obj j (sd j f (lJ j f (jk j f) (jb j f (fI j f (fS j (db j (dv j)))))))),(2,f.c.map A.d),(3,[.d (ci (zm j)),.d (ci f.kind),.d (cs (nC j f)),.d (ci (nO j f)),.d (ci (mO j f (jk j f))),.d (.sl (xG (BM j f)))])] [] [] 4 ?_ ?_;·
  refine bc Z (fun O=>?_) (fun O=>?_);·
   rw[show sd j f (lJ j f (jk j f) (jb j f (fI j f (fS j (db j (dv j))))))=((lJ j f (jk j f) (jb j f (fI j f (fS j (db j (dv j)))))||fk j bY 5)||jC (cK j bY 5).kids)from if_pos O,show BM j f=vj j from if_pos O];refine ab<|pE Z<|bT [1] [] Z Z Z Z Z ((EU j (lJ j f (jk j f) (jb j f (fI j f (fS j (db j (dv j)))))) hs)) Z Z (by rfl) (by rfl) Z Z Z Z<|pE Z<|bt aY Z Z Z Z Z Z Z Z<|ae<|dL [0,1,2,3] Z ?_ ⟨rfl,rfl,rfl,rfl,trivial⟩ ?_ trivial Z;·repeat' constructor
   repeat' constructor
  rw[show sd j f (lJ j f (jk j f) (jb j f (fI j f (fS j (db j (dv j))))))=lJ j f (jk j f) (jb j f (fI j f (fS j (db j (dv j)))))from if_neg (by rw[O];simp),show BM j f=[]from if_neg (by rw[O];simp)];refine ah (dL [0,1,2,3] Z ?_ ⟨rfl,rfl,rfl,rfl,trivial⟩ ?_ trivial Z);·repeat' constructor
  repeat' constructor
 refine qs<|aa<|aa<|?_
 have hB:yT j f (db j (dv j))=sd j f (lJ j f (jk j f) (jb j f (fI j f (fS j (db j (dv j)))))):=rfl;generalize sd j f (lJ j f (jk j f) (jb j f (fI j f (fS j (db j (dv j))))))=B at hB⊢;apply bJ;(case hb=>rfl);·
  refine bb 5 Z ?_;apply dP;(case hj=>rfl);(case hl=>rfl);·
   intro b3;iterate 6 refine bD Z Z Z Z ?_
   refine pE Z (ae (b7 Z Z Z))
  intro b3;refine bE Z Z<|pE Z<|bE Z Z<|bb 1 Z<|bE Z Z<|pE Z<|bE Z Z<|pu (bk Z Z Z (wZ f (jk j f)) Z) Z<|bE Z Z<|pu (bk Z Z Z (vw j B (cM f (jk j f))) Z) Z<|bE Z Z<|bb 2 Z<|ae<|b7 Z Z Z
 refine qs (bc Z (fun U=>?_) (fun U=>?_));·
  have J:cN j=(0,rR,10):=by rw[hE,hB,if_pos U]
  refine aa<|ab<|pu (kQ (build aY Z Z Z Z) Z) Z<|pE Z<|bt aY Z Z Z Z Z Z Z Z<|pE Z<|ae<|qs<|W.ret<|be<|QV.bl aY trivial Z ?_;rw[J];rfl
 rw[hB,if_neg (by rw[show(bif B then true else !iG j (cM f (jk j f)))=false from U];simp)]at hE;refine ah<|qs<|aa<|aa<|ab<|bb 1 Z ?_
 refine pu (bk Z Z Z (xF (ov j f)) Z) Z<|pE Z<|ae<|qs<|aZ 2 Z<|bc Z (fun X=>?_)<|fun X=>?_;·
  have J:cN j=(0,rR,dq (ov j f)):=by rw[hE,if_pos (by simpa using X)]
  refine aa<|ab<|pu (kQ (build aY Z Z Z Z) Z) Z<|bb 2 Z<|bt aY Z Z Z Z Z Z Z Z<|pE Z<|ae<|qs<|W.ret<|be<|QV.bl aY trivial Z ?_;rw[J];rfl
 have J:cN j=((cK j cF 3).n,ov j f,0):=by rw[hE,if_neg (by simpa using X)]
 refine ah<|qs<|aa<|W.Bp aY 3 0 (by kernel_rfl) Z Z<|uB Z (ev aY Z) Z<|uB Z (ev aY Z) Z<|uB Z (ev aY Z) Z<|aM<|bt aY Z Z Z Z Z Z Z Z<|pE Z<|ae<|qs<|W.ret<|QV.bl aY trivial Z ?_;rw[J];rfl
theorem jY(s):bm Tryz.prog 35 [.d (.v (.string s))] (.ag (tJ s).c) 0:=by refine bm.dY aY (n:=5) (rs:=[.cell 2 46]) Tryz.func35 (by kernel_rfl) Z Tryz.ntmps35 Tryz.results35 Z fun C hC I=>?_;refine aa (ab (b9 aY Z Z Z (ae (qs (aa (ab (pE Z (pu (kQ (build aY Z Z Z Z) Z) Z ?_))))))));refine bt aY Z Z Z Z Z Z Z Z (ae (qs (W.ret (QV.bl aY trivial Z ?_))));rfl
theorem km(n):bm Tryz.prog 36 [.d (ci n)] (.ag (nJ n).c) 0:=by refine bm.dY aY (n:=5) (rs:=[.cell 2 46]) Tryz.func36 (by kernel_rfl) Z Tryz.ntmps36 Tryz.results36 Z fun C hC I=>?_;refine aa (ab (b9 aY Z Z Z (ae (qs (aa (ab (pE Z (pu (kQ (build aY Z Z Z Z) Z) Z ?_))))))));refine bt aY Z Z Z Z Z Z Z Z (ae (qs (W.ret (QV.bl aY trivial Z ?_))));rfl
abbrev tT:List A:=[.d (ci 0),.d (ci 0),.d (cs (B #[])),.d (.v (.slice none 0 0)),.d (.v (.slice none 0 0))]
theorem wh(id)(e:Ev)(f:Fm)(hf:jD e.kind=some f)(hs:e.stack.length<=1000000):bm Tryz.prog 37 [.d (ci id),.ag e.c] (.ag (fP f id e).c) 0:=by
 obtain⟨i,hi,hfi⟩:=GZ hf
 obtain⟨l,hl⟩:∃l,l=cM f (ju f e):=⟨_,rfl⟩
 have hl7:l.length<=7:=hl▸xk f _
 refine bm.dY aY (n:=94) (rs:=[.cell 4 46]) Tryz.func37 (by kernel_rfl) Z Tryz.ntmps37 Tryz.results37 Z fun C hC hG=>aa<|ab<|cz Z Z Z<|b9 aY Z Z Z<|ae<|qs<|aa<|ab<|pu (bk Z Z Z (pg ..) Z) Z<|pE Z<|pu (bk Z Z Z (vC _ [.row (e.c.map A.d)] ⟨fun _ _=>rfl,rfl⟩ _ (DU e) gC) Z) Z<|pE Z<|ae<|qs<|aa ?_
 rw[hi]
 refine ab<|pu (bk Z Z Z (pg ..) Z) Z<|pE Z<|pu (indexAddr (l:=f.c) aY Z Z Z Z Z Z (ε _) (bC hfi) Z) Z<|bb 1 Z<|b9 aY Z Z Z<|bt aY Z Z Z Z Z Z Z Z<|ae<|qs<|aa<|W.nl [(3,.ptr 0 0),(4,.ptr 1 0),(6,.ptr 2 0),(7,.ptr 3 0)] [0] [(0,e.c.map A.d),(1,tT),(2,f.c.map A.d),(3,[.d (ci 6),.d (ci 0),.d (cs cn),.d (.sl (l.map sc)),.d (.v (.slice none 0 0))])] [] [] 4 ?_ ?_
 ·
  refine ab<|bb 5 Z<|oh Z Z (fun g24=>?_)<|fun g24=>?_
  ·
   have hl2:l=cM f true:=by rw[hl];unfold ju;rw[show(!decide (f.ph=pS))=true from g24];rfl
   rw[hl2]
   refine bD Z Z Z Z<|bD Z Z Z Z<|bD Z Z Z Z<|pE Z<|pu (bk Z Z Z (wZ f _) Z) Z<|pu (build aY Z Z Z Z) Z<|b9 aY Z Z Z<|bt aY Z Z Z Z Z Z Z Z<|ae<|dL [0,1,2,3] Z ?_ ⟨rfl,rfl,trivial⟩ ?_ trivial Z
   ·repeat' constructor
   repeat' constructor
  have hl2:l=cM f (decide (e.n=2)):=by rw[hl];unfold ju;rw[show(!decide (f.ph=pS))=false from g24];rfl
  rw[hl2]
  refine bE Z Z<|pE Z<|bE Z Z<|bb 1 Z<|bE Z Z<|bb 2 Z<|pu (bk Z Z Z (wZ f _) Z) Z<|pu (build aY Z Z Z Z) Z<|b9 aY Z Z Z<|bt aY Z Z Z Z Z Z Z Z<|ae<|dL [0,1,2,3] Z ?_ ⟨rfl,rfl,trivial⟩ ?_ trivial Z
  ·repeat' constructor
  repeat' constructor
 refine qs<|aa<|aZ 4 Z<|W.block<|fh 3 4 Z Z Z<|W.len (t:=32) Z Z<|fun hlen=>?_
 try simp only[η,Ex.bG]at hlen
 refine W.ca (ι:={x:Nat×List JV//match x with|(k,acc)=>k<=l.length∧acc=(l.take k).map (ee f id e)})
  (fun x=>match x.1 with|(k,acc)=>[(3,.ptr 0 0),(4,.ptr 1 0),(6,.ptr 2 0),(7,.ptr 3 0),(34,.d (.v (.int .i64 ((k:Nat):Int))))]) [(0,_),(32,_),(33,_)]
  (fun x=>match x.1 with|(k,acc)=>[(0,e.c.map A.d),(1,tT),(2,f.c.map A.d),(3,[.d (ci 6),.d (ci 0),.d (cs cn),.d (.sl (l.map sc)),.own 4 (acc.map JV.c)])]) [] [4] 5 (fun x=>match x.1 with|(k,acc)=>l.length-k)
  [0,1,2,3,4] ⟨(0,[]),?_⟩ rfl ?_ ⟨rfl,rfl,rfl,rfl,rfl,rfl,trivial⟩ ?_ trivial rfl ?_
 ·exact⟨ς _,rfl⟩
 ·repeat' constructor
 ·repeat' constructor
 rintro⟨⟨k,acc⟩,hk,hacc⟩
 show W _ _ _ _ _ ⟨[(3,.ptr 0 0),(4,.ptr 1 0),(6,.ptr 2 0),(7,.ptr 3 0),(34,.d (.v (.int .i64 ((k:Nat):Int)))),(0,_),(32,_),(33,_)],[(0,e.c.map A.d),(1,tT),(2,f.c.map A.d),(3,[.d (ci 6),.d (ci 0),.d (cs cn),.d (.sl (l.map sc)),.own 4 (acc.map JV.c)])],[4],5⟩
 have hal:acc.length<=7:=by rw[hacc,η,V'];omega
 refine aZ 1 Z<|aa<|cr (l:=l) (k:=k) Z (by simp[Ex.bG,bo]) hk (fun w hx hd hlt=>?_)<|fun he hd=>?_
 ·
  refine ah<|qs<|aa<|W.block<|aa<|ab<|pu (indexAddr (l:=sc w) aY Z Z Z Z Z Z (ε _) (bC hx) Z) Z<|bb 2 Z<|ae<|qs<|aa<|ab<|b9 aY Z Z Z<|ae<|qs<|aa<|aZ 1 Z<|W.nl [(3,.ptr 0 0),(4,.ptr 1 0),(6,.ptr 2 0),(7,.ptr 3 0),(10,.ptr 4 0)] [0,32,33,34] [(0,e.c.map A.d),(1,tT),(2,f.c.map A.d),(3,[.d (ci 6),.d (ci 0),.d (cs cn),.d (.sl (l.map sc)),.own 5 (acc.map JV.c)]),(4,(ee f id e w).c.map A.d)] [] [5] 6 ?_ ?_
  ·
   refine W.block<|aZ 2 Z<|bc Z (fun h42=>?_)<|fun h42=>?_
   ·
    have hw:w=dZ:=by simpa[dZ]using h42
    rw[show ee f id e w=tJ f.ph from if_pos hw]
    refine ab<|bb 2 Z<|pu (bk Z Z Z (jY ..) Z) Z<|bt aY Z Z Z Z Z Z Z Z<|ae<|bX<|dL [0,1,2,3,5,4] Z ?_ ⟨rfl,rfl,rfl,rfl,rfl,rfl,rfl,rfl,trivial⟩ ?_ trivial Z
    ·repeat' constructor
    repeat' constructor
   have n1:¬w=dZ:=by simpa[dZ]using h42
   refine aZ 2 Z<|bc Z (fun h47=>?_)<|fun h47=>?_
   ·
    have hw:w=cF:=by simpa[cF]using h47
    rw[show ee f id e w=nJ id from by unfold ee;rw[if_neg n1,if_pos hw]]
    refine ab<|pE Z<|pu (bk Z Z Z (km ..) Z) Z<|bt aY Z Z Z Z Z Z Z Z<|ae<|bX<|dL [0,1,2,3,5,4] Z ?_ ⟨rfl,rfl,rfl,rfl,rfl,rfl,rfl,rfl,trivial⟩ ?_ trivial Z
    ·repeat' constructor
    repeat' constructor
   have n2:¬w=cF:=by simpa[cF]using h47
   refine aZ 2 Z<|bc Z (fun h51=>?_)<|fun h51=>?_
   ·
    have hw:w=cm:=by simpa[cm]using h51
    rw[show ee f id e w=tJ e.name from by unfold ee;rw[if_neg n1,if_neg n2,if_pos hw]]
    refine ab<|bb 2 Z<|pu (bk Z Z Z (jY ..) Z) Z<|bt aY Z Z Z Z Z Z Z Z<|ae<|bX<|dL [0,1,2,3,5,4] Z ?_ ⟨rfl,rfl,rfl,rfl,rfl,rfl,rfl,rfl,trivial⟩ ?_ trivial Z
    ·repeat' constructor
    repeat' constructor
   have n3:¬w=cm:=by simpa[cm]using h51
   refine aZ 2 Z<|bc Z (fun h56=>?_)<|fun h56=>?_
   ·
    have hw:w=dO:=by simpa[dO]using h56
    rw[show ee f id e w=nJ e.time from by unfold ee;rw[if_neg n1,if_neg n2,if_neg n3,if_pos hw]]
    refine ab<|bb 2 Z<|pu (bk Z Z Z (km ..) Z) Z<|bt aY Z Z Z Z Z Z Z Z<|ae<|bX<|dL [0,1,2,3,5,4] Z ?_ ⟨rfl,rfl,rfl,rfl,rfl,rfl,rfl,rfl,trivial⟩ ?_ trivial Z
    ·repeat' constructor
    repeat' constructor
   have n4:¬w=dO:=by simpa[dO]using h56
   refine aZ 2 Z<|bc Z (fun h61=>?_)<|fun h61=>?_
   ·
    have hw:w=bY:=by simpa[bY]using h61
    rw[show ee f id e w=.mk 5 0 cn [] (e.stack.map tJ)from by unfold ee;rw[if_neg n1,if_neg n2,if_neg n3,if_neg n4,if_pos hw],e7]
    refine aa<|ab<|pu (build aY Z Z Z Z) Z<|bt aY Z Z Z Z Z Z Z Z<|ae<|qs<|aZ 4 Z<|W.block<|jl 5 3 Z Z Z<|fh 5 4 Z Z Z<|W.len (t:=65) Z Z<|fun hlen=>?_
    try simp only[η,Ex.bG]at hlen
    refine W.ca (ι:={x:Nat×List JV//match x with|(q,bcc)=>q<=e.stack.length∧bcc=(e.stack.take q).map tJ})
     (fun x=>match x.1 with|(q,bcc)=>[(3,.ptr 0 0),(4,.ptr 1 0),(6,.ptr 2 0),(7,.ptr 3 0),(10,.ptr 4 0),(67,.d (.v (.int .i64 ((q:Nat):Int))))]) [(0,_),(32,_),(33,_),(34,_),(65,_),(66,_)]
     (fun x=>match x.1 with|(q,bcc)=>[(0,e.c.map A.d),(1,tT),(2,f.c.map A.d),(3,[.d (ci 6),.d (ci 0),.d (cs cn),.d (.sl (l.map sc)),.own 5 (acc.map JV.c)]),(4,[.d (ci 5),.d (ci 0),.d (cs cn),.d (.sl []),.own 6 (bcc.map JV.c)])]) [] [5,6] 7 (fun x=>match x.1 with|(q,bcc)=>e.stack.length-q)
     [0,1,2,3,5,4,6] ⟨(0,[]),?_⟩ rfl ?_ ⟨rfl,rfl,rfl,rfl,rfl,rfl,rfl,rfl,rfl,rfl,rfl,rfl,trivial⟩ ?_ trivial rfl ?_
    ·exact⟨ς _,rfl⟩
    ·repeat' constructor
    ·repeat' constructor
    rintro⟨⟨q,bcc⟩,hk,hbcc⟩
    show W _ _ _ _ _ ⟨[(3,.ptr 0 0),(4,.ptr 1 0),(6,.ptr 2 0),(7,.ptr 3 0),(10,.ptr 4 0),(67,.d (.v (.int .i64 ((q:Nat):Int)))),(0,_),(32,_),(33,_),(34,_),(65,_),(66,_)],[(0,e.c.map A.d),(1,tT),(2,f.c.map A.d),(3,[.d (ci 6),.d (ci 0),.d (cs cn),.d (.sl (l.map sc)),.own 5 (acc.map JV.c)]),(4,[.d (ci 5),.d (ci 0),.d (cs cn),.d (.sl []),.own 6 (bcc.map JV.c)])],[5,6],7⟩
    have hbl:bcc.length<=e.stack.length:=by rw[hbcc,η,V'];omega
    refine aZ 1 Z<|aa<|cr (l:=e.stack) (k:=q) Z (by simp[Ex.bG,bo]) hk (fun u hx hd hlt=>?_)<|fun he hd=>?_
    ·
     refine ah<|qs<|aa<|W.block<|aa<|ab<|pu (indexAddr (l:=sc u) aY Z Z Z Z Z Z (ε _) (bC hx) Z) Z<|bb 2 Z<|ae<|qs<|W.ko aY [] [] [] [] 5 (by kernel_rfl) (by kernel_rfl) Z Z ?_
     refine' bL (ev aY Z) ?p_1 Z Z Z (by kernel_rfl) Z ?h_1
     case' h_1=>skip
     case p_1=>refine⟨fun ha=>ba ha,?_⟩<;>intro ha<;>first|exact⟨ev aY rfl,fun h=>nomatch h⟩|exact ba ha
     refine' bL (ev aY Z) ?p_2 Z Z Z (by kernel_rfl) Z ?h_2
     case' h_2=>skip
     case p_2=>refine⟨fun ha=>ba ha,?_⟩<;>intro ha<;>first|exact⟨ev aY rfl,fun h=>nomatch h⟩|exact⟨cS aY rfl rfl rfl rfl,fun h=>nomatch h⟩|exact⟨cR aY rfl rfl rfl rfl rfl,fun h=>nomatch h⟩|exact ba ha
     refine' bL (ev aY Z) ?p_3 Z Z Z (by kernel_rfl) Z ?h_3
     case' h_3=>skip
     case p_3=>refine⟨fun ha=>ba ha,?_⟩<;>intro ha<;>first|exact⟨ev aY rfl,fun h=>nomatch h⟩|exact ba ha
     refine' bL (bk Z Z Z (jY ..) Z) ?p_4 Z Z Z (by kernel_rfl) Z ?h_4
     case' h_4=>skip
     case p_4=>refine⟨fun ha=>ba ha,?_⟩<;>intro ha<;>first|exact⟨bk rfl rfl rfl (jY ..) rfl,fun h=>nomatch h⟩|exact ba ha
     refine' bL (bZ aY Z Z Z Z Z Z Z Z Z) ?p_5 Z Z Z (by kernel_rfl) Z ?h_5
     case' h_5=>skip
     case p_5=>refine⟨fun ha=>ba ha,?_⟩<;>intro ha<;>first|exact⟨bZ aY rfl rfl rfl rfl rfl rfl rfl rfl rfl,fun h=>nomatch h⟩|exact ba ha
     refine ar ?_ Z
     refine eT (fn:=JV.c) (a:=tJ u) aY Z Z Z Z Z Z Z Z Z Z (fun _=>rfl) (by show(bcc.length+1)*80<=_;omega)<|pE Z<|bt aY Z Z Z Z Z Z Z Z<|ae<|bX<|qs<|cu 2 Z<|W.cg [0,1,2,3,4,5,7] ⟨(q+1,bcc++[tJ u]),?_⟩ ?_ Z ?_ ⟨rfl,rfl,rfl,rfl,rfl,rfl,rfl,rfl,rfl,rfl,rfl,rfl,trivial⟩ ?_ trivial Z
     ·exact⟨hlt,by rw[Φ,hx,y',hbcc];rfl⟩
     ·dsimp only;omega
     ·repeat' first|exact trivial|refine⟨rfl,?_⟩|refine⟨bF (by assumption) (by assumption),?_⟩
     repeat' constructor
    have hb2:bcc=e.stack.map tJ:=by rw[hbcc,he,List.take_length]
    refine BL 4 4 Z Z Z ?_
    subst hb2
    refine ak (bP (bQ (bO (bX (dL [0,1,2,3,4,5] Z ?_ ⟨rfl,rfl,rfl,rfl,rfl,rfl,rfl,rfl,trivial⟩ ?_ trivial Z)))))
    ·repeat' constructor
    repeat' constructor
   have n5:¬w=bY:=by simpa[bY]using h61
   refine aZ 4 Z<|bc Z (fun h79=>?_)<|fun h79=>?_
   ·
    have hw:w=f.n:=by simpa using h79
    rw[show ee f id e w=nJ e.n from by unfold ee;rw[if_neg n1,if_neg n2,if_neg n3,if_neg n4,if_neg n5,if_pos hw]]
    refine ab<|bb 2 Z<|pu (bk Z Z Z (km ..) Z) Z<|bt aY Z Z Z Z Z Z Z Z<|ae<|bX<|dL [0,1,2,3,5,4] Z ?_ ⟨rfl,rfl,rfl,rfl,rfl,rfl,rfl,rfl,trivial⟩ ?_ trivial Z
    ·repeat' constructor
    repeat' constructor
   have n6:¬w=f.n:=by simpa using h79
   rw[show ee f id e w=nJ e.m from by unfold ee;rw[if_neg n1,if_neg n2,if_neg n3,if_neg n4,if_neg n5,if_neg n6]]
   refine ab<|bb 2 Z<|pu (bk Z Z Z (km ..) Z) Z<|bt aY Z Z Z Z Z Z Z Z<|ae<|bX<|dL [0,1,2,3,5,4] Z ?_ ⟨rfl,rfl,rfl,rfl,rfl,rfl,rfl,rfl,trivial⟩ ?_ trivial Z
   ·repeat' constructor
   repeat' constructor
  refine qs<|ab<|bb 3 Z<|pu (bZ aY Z Z Z Z Z Z Z Z Z) Z<|eT (fn:=JV.c) (a:=ee f id e w) aY Z Z Z Z Z Z Z Z Z Z (fun _=>rfl) (by show(acc.length+1)*80<=_;omega)<|pE Z<|bt aY Z Z Z Z Z Z Z Z<|ae<|bX<|qs<|cu 2 Z<|W.cg [0,1,2,3,6] ⟨(k+1,acc++[ee f id e w]),?_⟩ ?_ Z ?_ ⟨rfl,rfl,rfl,rfl,rfl,rfl,trivial⟩ ?_ trivial Z
  ·exact⟨hlt,by rw[Φ,hx,y',hacc];rfl⟩
  ·dsimp only;omega
  ·repeat' first|exact trivial|refine⟨rfl,?_⟩|refine⟨bF (by assumption) (by assumption),?_⟩
  repeat' constructor
 have ha2:acc=l.map (ee f id e):=by rw[hacc,he,List.take_length]
 refine ak<|bP<|bQ<|bO<|qs<|aa<|ab<|bb 1 Z<|bt aY Z Z Z Z Z Z Z Z<|ae<|qs<|W.ret<|QV.bl aY trivial Z ?_
 rw[show fP f id e=.mk 6 0 cn l (l.map (ee f id e))from by rw[hl];rfl,e7,ha2];rfl
theorem lg(s):bm Tryz.prog 40 [.d (.v (.string s))] (.ag (tJ s).c) 0:=by refine bm.dY aY (n:=5) (rs:=[.cell 2 46]) Tryz.func40 (by kernel_rfl) Z Tryz.ntmps40 Tryz.results40 Z fun C hC I=>?_;refine aa (ab (b9 aY Z Z Z (ae (qs (aa (ab (pE Z (pu (kQ (build aY Z Z Z Z) Z) Z ?_))))))));refine bt aY Z Z Z Z Z Z Z Z (ae (qs (W.ret (QV.bl aY trivial Z ?_))));rfl
theorem l4(n):bm Tryz.prog 41 [.d (ci n)] (.ag (nJ n).c) 0:=by refine bm.dY aY (n:=5) (rs:=[.cell 2 46]) Tryz.func41 (by kernel_rfl) Z Tryz.ntmps41 Tryz.results41 Z fun C hC I=>?_;refine aa (ab (b9 aY Z Z Z (ae (qs (aa (ab (pE Z (pu (kQ (build aY Z Z Z Z) Z) Z ?_))))))));refine bt aY Z Z Z Z Z Z Z Z (ae (qs (W.ret (QV.bl aY trivial Z ?_))));rfl
theorem xq(e:Ev)(w)(hs:e.stack.length<=1000000):bm Tryz.prog 91 [.ag e.c,.d (.v (.string w))] (.ag (kg e w).c) 0:=by
 have hm:e.stack.length<=maxLen:=by simp only[maxLen];omega
 refine bm.dY aY (n:=51) (rs:=[.cell 4 46]) Tryz.func91 (by kernel_rfl) Z Tryz.ntmps91 Tryz.results91 Z fun C hC hG=>aa<|ab<|cz Z Z Z<|b9 aY Z Z Z<|ae<|qs<|aa<|aZ 2 Z<|bc Z (fun h8=>?_)<|fun h8=>?_
 ·
  have hg:kg e w=tJ e.name:=by unfold kg;rw[if_pos (by simpa[cm]using h8)]
  refine aa<|ab<|bb 2 Z<|pu (bk Z Z Z (lg ..) Z) Z<|bt aY Z Z Z Z Z Z Z Z<|ae<|qs<|W.ret<|be<|QV.bl aY trivial Z ?_
  rw[hg];first|rfl|(rw[e7];rfl)
 have n1:¬w=cm:=by simpa[cm]using h8
 refine ah<|qs<|aa<|aZ 2 Z<|bc Z (fun h13=>?_)<|fun h13=>?_
 ·
  have hg:kg e w=.mk 5 0 cn [] (e.stack.map tJ):=by unfold kg;rw[if_neg n1,if_pos (by simpa[bY]using h13)]
  refine aa<|ab<|pu (build aY Z Z Z Z) Z<|b9 aY Z Z Z<|bt aY Z Z Z Z Z Z Z Z<|ae<|qs<|aa<|aZ 1 Z<|W.block<|jl 2 3 Z Z Z<|fh 2 4 Z Z Z<|W.ca (ι:={x:Nat×List JV//match x with|(q,bcc)=>q<=e.stack.length∧bcc=(e.stack.take q).map tJ})
   (fun x=>match x.1 with|(q,bcc)=>[(2,.ptr 0 0),(4,.ptr 1 0),(5,.ptr 2 0),(6,.d (.v (.int .i64 ((q:Nat):Int))))]) []
   (fun x=>match x.1 with|(q,bcc)=>[(0,e.c.map A.d),(1,tT),(2,[.d (ci 5),.d (ci 0),.d (cs cn),.d (.sl []),.own 3 (bcc.map JV.c)])]) [] [3] 4 (fun x=>match x.1 with|(q,bcc)=>e.stack.length-q)
   [0,1,2,3] ⟨(0,[]),?_⟩ rfl ?_ trivial ?_ trivial rfl ?_
  ·exact⟨ς _,rfl⟩
  ·repeat' constructor
  ·repeat' constructor
  rintro⟨⟨q,bcc⟩,hk,hbcc⟩
  show W _ _ _ _ _ ⟨[(2,.ptr 0 0),(4,.ptr 1 0),(5,.ptr 2 0),(6,.d (.v (.int .i64 ((q:Nat):Int))))],[(0,e.c.map A.d),(1,tT),(2,[.d (ci 5),.d (ci 0),.d (cs cn),.d (.sl []),.own 3 (bcc.map JV.c)])],[3],4⟩
  have hbl:bcc.length<=e.stack.length:=by rw[hbcc,η,V'];omega
  refine aa<|aZ 5 Z<|cr (l:=e.stack) (k:=q) Z (by simp[Ex.bG,bo]) hk (fun u hx hd hlt=>?_)<|fun he hd=>?_
  ·
   refine ah (qs (aa (W.block (W.ko aY [] [] [] [] 9 (by kernel_rfl) (by kernel_rfl) Z Z ?_))))
   refine' bL (ev aY Z) ?p_1 Z Z Z (by kernel_rfl) Z ?h_1
   case' h_1=>skip
   case p_1=>refine⟨fun ha=>ba ha,?_⟩<;>intro ha<;>first|exact⟨ev aY rfl,fun h=>nomatch h⟩|exact ba ha
   refine' bL (ev aY Z) ?p_2 Z Z Z (by kernel_rfl) Z ?h_2
   case' h_2=>skip
   case p_2=>refine⟨fun ha=>ba ha,?_⟩<;>intro ha<;>first|exact⟨ev aY rfl,fun h=>nomatch h⟩|exact⟨cS aY rfl rfl rfl rfl,fun h=>nomatch h⟩|exact⟨cR aY rfl rfl rfl rfl rfl,fun h=>nomatch h⟩|exact ba ha
   refine' bL (ev aY Z) ?p_3 Z Z Z (by kernel_rfl) Z ?h_3
   case' h_3=>skip
   case p_3=>refine⟨fun ha=>ba ha,?_⟩<;>intro ha<;>first|exact⟨ev aY rfl,fun h=>nomatch h⟩|exact ba ha
   refine' bL (ev aY Z) ?p_4 Z Z Z (by kernel_rfl) Z ?h_4
   case' h_4=>skip
   case p_4=>refine⟨fun ha=>ba ha,?_⟩<;>intro ha<;>first|exact⟨ev aY rfl,fun h=>nomatch h⟩|exact⟨cS aY rfl rfl rfl rfl,fun h=>nomatch h⟩|exact⟨cR aY rfl rfl rfl rfl rfl,fun h=>nomatch h⟩|exact ba ha
   refine' bL (ev aY Z) ?p_5 Z Z Z (by kernel_rfl) Z ?h_5
   case' h_5=>skip
   case p_5=>refine⟨fun ha=>ba ha,?_⟩<;>intro ha<;>first|exact⟨ev aY rfl,fun h=>nomatch h⟩|exact ba ha
   refine' bL (indexAddr (l:=sc u) aY Z Z Z Z Z Z (ε _) (bC hx) Z) ?p_6 Z Z Z (by kernel_rfl) Z ?h_6
   case' h_6=>skip
   case p_6=>refine⟨fun ha=>ba ha,?_⟩<;>intro ha<;>first|exact⟨indexAddr (l:=sc u) aY rfl rfl rfl rfl rfl rfl (ε _) (bC hx) rfl,fun h=>nomatch h⟩|exact ba ha
   refine' bL (ev aY Z) ?p_7 Z Z Z (by kernel_rfl) Z ?h_7
   case' h_7=>skip
   case p_7=>refine⟨fun ha=>ba ha,?_⟩<;>intro ha<;>first|exact⟨ev aY rfl,fun h=>nomatch h⟩|exact⟨cS aY rfl rfl rfl rfl,fun h=>nomatch h⟩|exact⟨cR aY rfl rfl rfl rfl rfl,fun h=>nomatch h⟩|exact ba ha
   refine' bL (bk Z Z Z (lg ..) Z) ?p_8 Z Z Z (by kernel_rfl) Z ?h_8
   case' h_8=>skip
   case p_8=>refine⟨fun ha=>ba ha,?_⟩<;>intro ha<;>first|exact⟨bk rfl rfl rfl (lg ..) rfl,fun h=>nomatch h⟩|exact ba ha
   refine' bL (bZ aY Z Z Z Z Z Z Z Z Z) ?p_9 Z Z Z (by kernel_rfl) Z ?h_9
   case' h_9=>skip
   case p_9=>refine⟨fun ha=>ba ha,?_⟩<;>intro ha<;>first|exact⟨bZ aY rfl rfl rfl rfl rfl rfl rfl rfl rfl,fun h=>nomatch h⟩|exact ba ha
   refine ar ?_ Z
   refine eT (fn:=JV.c) (a:=tJ u) aY Z Z Z Z Z Z Z Z Z Z (fun _=>rfl) (by show(bcc.length+1)*80<=_;omega)<|pE Z<|bt aY Z Z Z Z Z Z Z Z<|ae<|bX<|qs<|cu 3 Z<|W.cg [0,1,2,4] ⟨(q+1,bcc++[tJ u]),?_⟩ ?_ Z ?_ trivial ?_ trivial Z
   ·exact⟨hlt,by rw[Φ,hx,y',hbcc];rfl⟩
   ·dsimp only;omega
   ·repeat' first|exact trivial|refine⟨rfl,?_⟩|refine⟨bF (by assumption) (by assumption),?_⟩
   repeat' constructor
  have hb2:bcc=e.stack.map tJ:=by rw[hbcc,P' (by omega)]
  refine BL 2 4 Z Z Z ?_
  subst hb2
  refine ak<|bP<|bQ<|bO<|qs<|aa<|ab<|bb 1 Z<|bt aY Z Z Z Z Z Z Z Z<|ae<|qs<|W.ret<|be<|QV.bl aY trivial Z ?_
  rw[hg];first|rfl|(rw[e7];rfl)
 have n2:¬w=bY:=by simpa[bY]using h13
 refine ah<|qs<|aa<|aZ 2 Z<|bc Z (fun h35=>?_)<|fun h35=>?_
 ·
  have hg:kg e w=nJ e.time:=by unfold kg;rw[if_neg n1,if_neg n2,if_pos (by simpa[dO]using h35)]
  refine aa<|ab<|bb 2 Z<|pu (bk Z Z Z (l4 ..) Z) Z<|bt aY Z Z Z Z Z Z Z Z<|ae<|qs<|W.ret<|be<|QV.bl aY trivial Z ?_
  rw[hg];first|rfl|(rw[e7];rfl)
 have n3:¬w=dO:=by simpa[dO]using h35
 refine ah<|qs<|aa<|aa<|?_
 apply bJ;(case hb=>rfl)
 ·
  refine bb 3 Z ?_
  apply dP;(case hj=>rfl);(case hl=>rfl)
  ·
   intro g41
   refine bD Z Z Z Z<|bD Z Z Z Z<|pE Z<|ae<|b7 Z Z Z
  intro g41
  refine bE Z Z<|pE Z<|bE Z Z<|bb 2 Z<|ae<|b7 Z Z Z
 refine qs (bc Z (fun h44=>?_) (fun h44=>?_))
 ·
  have hg:kg e w=nJ e.m:=by unfold kg;rw[if_neg n1,if_neg n2,if_neg n3,if_pos (by by_cases a:w=B #[111,110]<;>by_cases b:w=B #[115,105,122,101]<;>simp_all[lW,eF])]
  refine aa<|ab<|bb 2 Z<|pu (bk Z Z Z (l4 ..) Z) Z<|bt aY Z Z Z Z Z Z Z Z<|ae<|qs<|W.ret<|be<|QV.bl aY trivial Z ?_
  rw[hg];first|rfl|(rw[e7];rfl)
 have hg:kg e w=nJ e.n:=by unfold kg;rw[if_neg n1,if_neg n2,if_neg n3,if_neg (by by_cases a:w=B #[111,110]<;>by_cases b:w=B #[115,105,122,101]<;>simp_all[lW,eF])]
 refine ah<|qs<|aa<|ab<|bb 2 Z<|pu (bk Z Z Z (l4 ..) Z) Z<|bt aY Z Z Z Z Z Z Z Z<|ae<|qs<|W.ret<|QV.bl aY trivial Z ?_
 rw[hg];first|rfl|(rw[e7];rfl)
theorem DD(k b):(gM k b).length<=5:=by unfold gM;repeat' first|split|simp
abbrev va(i:Nat)(tm:Int)(nm:ByteArray)(n m:Int)(st:List ByteArray):Ev:=⟨tm,(i:Int)+1,nm,n,m,st⟩
theorem AE(id i tm nm n m)(st:List ByteArray)(hik:i<12)(hs:st.length<=1000000):bm Tryz.prog 42 [.d (ci id),.ag (Ev.c (va i tm nm n m st))] (.ag (Cv (ma.extract i (i+1)) id (va i tm nm n m st)).c) 0:=by
 obtain⟨l,hl⟩:∃l,l=gM ((i:Int)+1) (decide (n=2)):=⟨_,rfl⟩
 have hl5:l.length<=5:=hl▸DD _ _
 have hlm:l.length<=maxLen:=by simp only[maxLen];omega
 refine bm.dY aY (n:=54) (rs:=[.cell 4 46]) Tryz.func42 (by kernel_rfl) Z Tryz.ntmps42 Tryz.results42 Z fun C hC hG=>aa<|ab<|cz Z Z Z<|b9 aY Z Z Z<|ae<|qs<|aZ 3 Z<|aa<|ab<|DY aY Z Z Z Z Z Z Z Z Z<|pE Z<|pu (cW (ev aY Z) (y:=(i:Int)) (by show IntKind.i64.wrap ((i:Int)+1-1)=(i:Int);rw[wrap64 (by omega)];omega)) Z<|pE Z<|pu (je (s:=ma) (l:=(i:Int)) (h:=(i:Int)+1) aY Z Z Z Z Z (ε _) (by omega) (by show(i:Int)+1<=12;omega)) Z<|pu (bk Z Z Z (lg ..) Z) Z<|pE Z<|pu (bk Z Z Z (l4 ..) Z) Z<|DY aY Z Z Z Z Z Z Z Z Z<|pu (uC aY Z Z Z) Z<|b9 aY Z Z Z<|bt aY Z Z Z Z Z Z Z Z<|ae<|qs<|aa<|ab<|bb 5 Z ?_
 refine pu (bk Z Z Z (Ga ((i:Int)+1) (decide (n=2))) Z) Z<|pE Z<|ae<|qs<|aa<|aa<|?_
 rw[<-hl]
 refine cu 1 Z<|qs<|W.block<|W.ca (ι:={x:Nat×List ByteArray×List JV//match x with|(k,acc,bcc)=>k<=l.length∧acc=l.take k∧bcc=acc.map (kg (va i tm nm n m st))})
  (fun x=>match x.1 with|(k,acc,bcc)=>[(3,.ptr 0 0),(4,.ptr 1 0),(6,.ptr 2 0),(8,.d (.v (.int .i64 ((k:Nat):Int))))]) [(7,_)]
  (fun x=>match x.1 with|(k,acc,bcc)=>[(0,(Ev.c (va i tm nm n m st)).map A.d),(1,tT),(2,[.d (ci 6),.d (ci 0),.d (cs cn),.own 3 (([dZ,cF]++acc).map sc),.own 4 (([tJ (ma.extract i (i+1)),nJ id]++bcc).map JV.c)])]) [] [3,4] 5 (fun x=>match x.1 with|(k,acc,bcc)=>l.length-k)
  [0,1,4,2,3] ⟨(0,[],[]),?_⟩ rfl ?_ ⟨rfl,rfl,trivial⟩ ?_ trivial rfl ?_
 ·exact⟨ς _,rfl,rfl⟩
 ·repeat' constructor
 ·repeat' constructor
 rintro⟨⟨k,acc,bcc⟩,hk,hacc,hbcc⟩
 show W _ _ _ _ _ ⟨[(3,.ptr 0 0),(4,.ptr 1 0),(6,.ptr 2 0),(8,.d (.v (.int .i64 ((k:Nat):Int)))),(7,_)],[(0,(Ev.c (va i tm nm n m st)).map A.d),(1,tT),(2,[.d (ci 6),.d (ci 0),.d (cs cn),.own 3 (([dZ,cF]++acc).map sc),.own 4 (([tJ (ma.extract i (i+1)),nJ id]++bcc).map JV.c)])],[3,4],5⟩
 have hal:acc.length<=5:=by rw[hacc,V'];omega
 have hbl:bcc.length<=5:=by rw[hbcc,η];exact hal
 refine aa<|aZ 4 Z<|cr (l:=l) (k:=k) Z (by simp[Ex.bG,bo]) hk (fun w hx hd hlt=>?_)<|fun he hd=>?_
 ·
  refine ah (qs (aa (W.block (aa (W.ko aY [] [] [] [] 7 (by kernel_rfl) (by kernel_rfl) Z Z ?_)))))
  refine' bL (ev aY Z) ?p_1 Z Z Z (by kernel_rfl) Z ?h_1
  case' h_1=>skip
  case p_1=>refine⟨fun ha=>ba ha,?_⟩<;>intro ha<;>first|exact⟨ev aY rfl,fun h=>nomatch h⟩|exact ba ha
  refine' bL (ev aY Z) ?p_2 Z Z Z (by kernel_rfl) Z ?h_2
  case' h_2=>skip
  case p_2=>refine⟨fun ha=>ba ha,?_⟩<;>intro ha<;>first|exact⟨ev aY rfl,fun h=>nomatch h⟩|exact⟨cS aY rfl rfl rfl rfl,fun h=>nomatch h⟩|exact⟨cR aY rfl rfl rfl rfl rfl,fun h=>nomatch h⟩|exact ba ha
  refine' bL (ev aY Z) ?p_3 Z Z Z (by kernel_rfl) Z ?h_3
  case' h_3=>skip
  case p_3=>refine⟨fun ha=>ba ha,?_⟩<;>intro ha<;>first|exact⟨ev aY rfl,fun h=>nomatch h⟩|exact ba ha
  refine' bL (ev aY Z) ?p_4 Z Z Z (by kernel_rfl) Z ?h_4
  case' h_4=>skip
  case p_4=>refine⟨fun ha=>ba ha,?_⟩<;>intro ha<;>first|exact⟨ev aY rfl,fun h=>nomatch h⟩|exact ba ha
  refine' bL (indexAddr (l:=sc w) aY Z Z Z Z Z Z (ε _) (bC hx) Z) ?p_5 Z Z Z (by kernel_rfl) Z ?h_5
  case' h_5=>skip
  case p_5=>refine⟨fun ha=>ba ha,?_⟩<;>intro ha<;>first|exact⟨indexAddr (l:=sc w) aY rfl rfl rfl rfl rfl rfl (ε _) (bC hx) rfl,fun h=>nomatch h⟩|exact ba ha
  refine' bL (ev aY Z) ?p_6 Z Z Z (by kernel_rfl) Z ?h_6
  case' h_6=>skip
  case p_6=>refine⟨fun ha=>ba ha,?_⟩<;>intro ha<;>first|exact⟨ev aY rfl,fun h=>nomatch h⟩|exact⟨cS aY rfl rfl rfl rfl,fun h=>nomatch h⟩|exact⟨cR aY rfl rfl rfl rfl rfl,fun h=>nomatch h⟩|exact ba ha
  refine' bL (bZ aY Z Z Z Z Z Z Z Z Z) ?p_7 Z Z Z (by kernel_rfl) Z ?h_7
  case' h_7=>skip
  case p_7=>refine⟨fun ha=>ba ha,?_⟩<;>intro ha<;>first|exact⟨bZ aY rfl rfl rfl rfl rfl rfl rfl rfl rfl,fun h=>nomatch h⟩|exact ba ha
  refine ar ?_ Z
  refine eT (fn:=sc) (a:=w) aY Z Z Z Z Z Z Z Z Z Z (fun _=>rfl) (by show(([dZ,cF]++acc).length+1)*16<=_;rw[υ];show(2+acc.length+1)*16<=_;omega)<|pE Z<|bt aY Z Z Z Z Z Z Z Z<|ae<|qs<|W.ko aY [] [] [] [] 9 (by kernel_rfl) (by kernel_rfl) Z Z ?_
  refine' bL (ev aY Z) ?p_8 Z Z Z (by kernel_rfl) Z ?h_8
  case' h_8=>skip
  case p_8=>refine⟨fun ha=>ba ha,?_⟩<;>intro ha<;>first|exact⟨ev aY rfl,fun h=>nomatch h⟩|exact ba ha
  refine' bL (ev aY Z) ?p_9 Z Z Z (by kernel_rfl) Z ?h_9
  case' h_9=>skip
  case p_9=>refine⟨fun ha=>ba ha,?_⟩<;>intro ha<;>first|exact⟨ev aY rfl,fun h=>nomatch h⟩|exact⟨cS aY rfl rfl rfl rfl,fun h=>nomatch h⟩|exact⟨cR aY rfl rfl rfl rfl rfl,fun h=>nomatch h⟩|exact ba ha
  refine' bL (ev aY Z) ?p_10 Z Z Z (by kernel_rfl) Z ?h_10
  case' h_10=>skip
  case p_10=>refine⟨fun ha=>ba ha,?_⟩<;>intro ha<;>first|exact⟨ev aY rfl,fun h=>nomatch h⟩|exact⟨cS aY rfl rfl rfl rfl,fun h=>nomatch h⟩|exact⟨cR aY rfl rfl rfl rfl rfl,fun h=>nomatch h⟩|exact ba ha
  refine' bL (ev aY Z) ?p_11 Z Z Z (by kernel_rfl) Z ?h_11
  case' h_11=>skip
  case p_11=>refine⟨fun ha=>ba ha,?_⟩<;>intro ha<;>first|exact⟨ev aY rfl,fun h=>nomatch h⟩|exact ba ha
  refine' bL (ev aY Z) ?p_12 Z Z Z (by kernel_rfl) Z ?h_12
  case' h_12=>skip
  case p_12=>refine⟨fun ha=>ba ha,?_⟩<;>intro ha<;>first|exact⟨ev aY rfl,fun h=>nomatch h⟩|exact ba ha
  refine' bL (indexAddr (l:=sc w) aY Z Z Z Z Z Z (ε _) (bC hx) Z) ?p_13 Z Z Z (by kernel_rfl) Z ?h_13
  case' h_13=>skip
  case p_13=>refine⟨fun ha=>ba ha,?_⟩<;>intro ha<;>first|exact⟨indexAddr (l:=sc w) aY rfl rfl rfl rfl rfl rfl (ε _) (bC hx) rfl,fun h=>nomatch h⟩|exact ba ha
  refine' bL (ev aY Z) ?p_14 Z Z Z (by kernel_rfl) Z ?h_14
  case' h_14=>skip
  case p_14=>refine⟨fun ha=>ba ha,?_⟩<;>intro ha<;>first|exact⟨ev aY rfl,fun h=>nomatch h⟩|exact⟨cS aY rfl rfl rfl rfl,fun h=>nomatch h⟩|exact⟨cR aY rfl rfl rfl rfl rfl,fun h=>nomatch h⟩|exact ba ha
  refine' bL (bk Z Z Z (xq (va i tm nm n m st) w hs) Z) ?p_15 Z Z Z (by kernel_rfl) Z ?h_15
  case' h_15=>skip
  case p_15=>refine⟨fun ha=>ba ha,?_⟩<;>intro ha<;>first|exact⟨bk rfl rfl rfl (xq (va i tm nm n m st) w hs) rfl,fun h=>nomatch h⟩|exact ba ha
  refine' bL (bZ aY Z Z Z Z Z Z Z Z Z) ?p_16 Z Z Z (by kernel_rfl) Z ?h_16
  case' h_16=>skip
  case p_16=>refine⟨fun ha=>ba ha,?_⟩<;>intro ha<;>first|exact⟨bZ aY rfl rfl rfl rfl rfl rfl rfl rfl rfl,fun h=>nomatch h⟩|exact ba ha
  refine ar ?_ Z
  refine eT (fn:=JV.c) (a:=kg (va i tm nm n m st) w) aY Z Z Z Z Z Z Z Z Z Z (fun _=>rfl) (by show(([tJ (ma.extract i (i+1)),nJ id]++bcc).length+1)*80<=_;rw[υ];show(2+bcc.length+1)*80<=_;omega)<|pE Z<|bt aY Z Z Z Z Z Z Z Z<|ae<|bX<|qs<|cu 3 Z<|W.cg [0,1,2,5,6] ⟨(k+1,acc++[w],bcc++[kg (va i tm nm n m st) w]),?_⟩ ?_ Z ?_ ⟨rfl,rfl,trivial⟩ ?_ trivial Z
  ·exact⟨hlt,by rw[Φ,hx,hacc];rfl,by rw[y',hbcc];rfl⟩
  ·dsimp only;omega
  ·repeat' first|exact trivial|refine⟨rfl,?_⟩|refine⟨bF (by assumption) (by assumption),?_⟩
  repeat' constructor
 have ha2:acc=l:=by rw[hacc,P' (by omega)]
 subst ha2
 subst hbcc
 refine ak<|bP<|bQ<|bO<|qs<|aa<|ab<|bb 1 Z<|bt aY Z Z Z Z Z Z Z Z<|ae<|qs<|W.ret<|QV.bl aY trivial Z ?_
 unfold Cv;rw[<-hl];first|rfl|(rw[e7];rfl)
theorem wi(id)(e:Ev)(f:Fm)(hf:jD e.kind=some f)(hs:e.stack.length<=1000000):bm Tryz.prog 42 [.d (ci id),.ag e.c] (.ag (fP f id e).c) 0:=by
 obtain⟨i,I,J,M,U⟩:=Cg hf;obtain⟨f2,N,O⟩:=DP (k:=i) J;have X:f2=f:=by rw[N]at I;exact J' I
 subst X;rw[<-II N U id,←O];obtain⟨tm,kd,nm,n,m,st⟩:=e;simp only at M hs;subst M;exact AE id i tm nm n m st J hs
theorem B0(p:bH):[p.thread,p.serial,p.lost].any fc=true↔fc p.thread=true∨fc p.serial=true∨fc p.lost=true:=by simp
theorem C9(p:bH):bm Tryz.prog 111 [.ag p.c] (.d (.v (.int .i64 (cD p)))) 0:=by
 have hlen:[p.thread,p.serial,p.lost].length<=maxLen:=by simp[maxLen]
 refine bm.bW (n:=50) (ts:=[2]) Tryz.func111 (by kernel_rfl) Z Tryz.ntmps111 Tryz.results111 Z Z fun C hC hG=>aa<|ab<|cz Z Z Z<|pE Z<|ae<|qs<|aa<|aa<|ab<|bb 6 Z<|pu (bZ aY Z Z Z Z Z Z Z Z Z) Z<|bb 2 Z<|ae<|qs<|W.block<|W.ca (ι:={x:Nat//match x with|k=>k<=[p.thread,p.serial,p.lost].length∧([p.thread,p.serial,p.lost].take k).any fc=false})
  (fun x=>match x.1 with|k=>[(1,.ptr 0 0),(13,.d (.v (.int .i64 ((k:Nat):Int))))]) [(11,_),(12,_)]
  (fun x=>match x.1 with|k=>[(0,p.c.map A.d)]) [] [] 1 (fun x=>match x.1 with|k=>[p.thread,p.serial,p.lost].length-k)
  [0] ⟨0,?_⟩ rfl ?_ ⟨rfl,rfl,rfl,rfl,trivial⟩ ?_ trivial rfl ?_
 ·exact⟨ς _,rfl⟩
 ·repeat' constructor
 ·repeat' constructor
 rintro⟨k,hk,hI⟩
 show W _ _ _ _ _ ⟨[(1,.ptr 0 0),(13,.d (.v (.int .i64 ((k:Nat):Int)))),(11,_),(12,_)],[(0,p.c.map A.d)],[],1⟩
 refine aZ 1 Z<|aa<|cr (l:=[p.thread,p.serial,p.lost]) (k:=k) Z (by simp[Ex.bG,bo]) hk (fun y hx hd hlt=>?_)<|fun he hd=>?_
 ·
  have htk:[p.thread,p.serial,p.lost].take (k+1)=[p.thread,p.serial,p.lost].take k++[y]:=by rw[Φ,hx];rfl
  refine ah<|qs<|aa<|W.block<|aa<|ab<|pu (indexAddr aY Z Z Z Z Z Z (ε _) (bC (f:=ic) hx) Z) Z<|bb 2 Z<|ae<|qs<|aa ?_
  apply bJ;(case hb=>rfl)
  ·
   refine bb 3 Z ?_
   apply dP;(case hj=>rfl);(case hl=>rfl)
   ·
    intro g19
    refine bD Z Z Z Z<|bD Z Z Z Z<|pE Z<|ae<|b7 Z Z Z
   intro g19
   refine bE Z Z<|pE Z<|bE Z Z<|bb 2 Z<|ae<|b7 Z Z Z
  refine qs (bc Z (fun h22=>?_) (fun h22=>?_))
  ·
   have hy:fc y=true:=by unfold fc;simp at h22⊢;omega
   have hg:cD p=2:=by unfold cD;rw[if_pos ((B0 p).1 (F'.2 ⟨y,ζ hx,hy⟩))]
   refine aZ 1 Z<|W.ret<|bw<|be<|cE<|bw<|be<|QF.bl trivial Z ?_
   rw[hg];rfl
  have hy:fc y=false:=by unfold fc;simp at h22⊢;omega
  refine ah<|bX<|qs<|cu 2 Z<|W.cg [0] ⟨k+1,?_⟩ ?_ Z ?_ ⟨rfl,rfl,rfl,rfl,trivial⟩ ?_ trivial Z
  ·exact⟨hlt,by rw[htk,List.any_append,hI];simp[hy]⟩
  ·dsimp only;omega
  ·repeat' first|exact trivial|refine⟨rfl,?_⟩|refine⟨bF (by assumption) (by assumption),?_⟩
  repeat' constructor
 have hno:¬(fc p.thread=true∨fc p.serial=true∨fc p.lost=true):=by
  rw[<-B0]
  have e:[p.thread,p.serial,p.lost].take k=[p.thread,p.serial,p.lost]:=P' (by omega)
  rw[e]at hI
  rw[hI];simp
 refine ak<|bP<|bQ<|bO<|qs<|aa<|W.block<|aa<|aZ 6 Z<|bc Z (fun h24=>?_)<|fun h24=>?_
 ·
  have hg:cD p=2:=by unfold cD;rw[if_neg hno,if_pos (by simp_all)]
  refine ah<|qs<|W.gr Z<|aZ 1 Z<|W.ret<|bw<|be<|QF.bl trivial Z ?_
  rw[hg];rfl
 refine cu 8 Z<|qs<|bc Z (fun h24=>?_)<|fun h24=>?_
 ·
  have hg:cD p=2:=by unfold cD;rw[if_neg hno,if_pos (by simp_all)]
  refine aZ 1 Z<|W.ret<|bw<|be<|QF.bl trivial Z ?_
  rw[hg];rfl
 refine aZ 5 Z<|bc Z (fun h37=>?_)<|fun h37=>?_
 ·
  have hg:cD p=8:=by unfold cD;rw[if_neg hno,if_neg (by simp_all),if_pos (by simp_all)]
  refine aZ 1 Z<|W.ret<|bw<|be<|QF.bl trivial Z ?_
  rw[hg];rfl
 refine aZ 5 Z<|bc Z (fun h42=>?_)<|fun h42=>?_
 ·
  have hg:cD p=7:=by unfold cD;rw[if_neg hno,if_neg (by simp_all),if_neg (by simp_all),if_pos (by simp at h42;omega)]
  refine aZ 1 Z<|W.ret<|bw<|be<|QF.bl trivial Z ?_
  rw[hg];rfl
 have hg:cD p=jg p.evs none:=by unfold cD;rw[if_neg hno,if_neg (by simp_all),if_neg (by simp_all),if_neg (by simp at h42;omega)]
 refine ah<|bX<|qs<|aa<|ab<|bb 2 Z<|pu (bk Z Z Z (A0 ..) Z) Z<|pE Z<|ae<|qs<|W.ret<|QF.bl trivial Z ?_
 rw[hg];rfl
theorem AF(p:bH)(t:Int×Int)(h:cD p=0):cU Tryz.prog 112 [.ptr 0 0,.ag p.c] [[.d (ci t.1),.d (ci t.2)]] 0 (.d (.v (.bool (kN t p)))) [[.d (ci t.1),.d (ci t.2)]] 0:=by
 obtain⟨h1,h2,h3,h4,h5,_⟩:=eG h;obtain⟨th,I,lo,evs⟩:=p;simp only at h1 h2 h3 h4 h5;obtain⟨e,r,he⟩:∃e r,evs=e::r:=by
  cases evs with
  |nil=>exact absurd Z h4
  |cons e r=>exact⟨e,r,rfl⟩
 subst he;refine cU.dY aY (n:=27) (rs:=[.tmp 4]) Tryz.func112 (by kernel_rfl) Z Tryz.ntmps112 Tryz.results112 Z Z fun C hC J=>aa<|ab<|cz Z Z Z<|pE Z<|ae<|qs<|aa ?_;apply oD aY;(case hb=>rfl);(case hB=>kernel_rfl);·
  refine br (ev aY Z) Z<|br (ev aY Z) Z<|br (ev aY Z) Z<|br (ev aY Z) Z<|br (cW (ev aY Z) (y:=I-lo) (by show IntKind.i64.wrap (I-lo)=_;exact wrap64 (by omega))) Z<|br (ev aY Z) Z<|br (ev aY Z) Z<|br (ev aY Z) Z<|br (ev aY Z) Z ?_
  iterate 2 refine br (ev aY Z) Z ?_
  apply Gm;(case hj=>rfl);(case hl=>rfl);·
   refine dz Z Z (ev aY Z) Z<|dz Z Z (ev aY Z) Z<|dz Z Z (indexAddr (l:=e.c) aY Z Z Z Z Z Z (by decide) Z Z) Z<|dz Z Z (ev aY Z) Z<|dz Z Z (ev aY Z) Z<|dz Z Z (ev aY Z) Z<|dz Z Z (ev aY Z) Z<|dz Z Z (ev aY Z) Z<|dz Z Z (ev aY Z) Z<|dz Z Z (ev aY Z) Z<|br (ev aY Z) Z<|br (ev aY Z) Z<|ao ?_
   refine b7 Z Z Z
  iterate 10 refine sj Z Z Z Z ?_
  refine br (ev aY Z) Z<|br (ev aY Z) Z<|ao ?_
  refine b7 Z Z Z
 refine qs (W.ret (an aY [] trivial Z Z Z Z ?_ ?_));·exact⟨rfl,trivial⟩
 simp only[norm,bM];unfold kN;cases decide (I-lo=t.1)<;>rfl
theorem AT(p:bH)(t:Int×Int)(h:cD p=0):cU Tryz.prog 113 [.ptr 0 0,.ag p.c] [[.d (ci t.1),.d (ci t.2)]] 0 (.tup []) [[.d (ci (p.serial+p.evs.length)),.d (ci (mB p))]] 0:=by
 obtain⟨h1,h2,h3,h4,h5,_⟩:=eG h;obtain⟨th,I,lo,evs⟩:=p;simp only at h1 h2 h3 h4 h5;obtain⟨n,J⟩:∃n,evs.length=n+1:=⟨evs.length-1,by have:=List.length_pos_iff.2 h4;omega⟩;obtain⟨z,M⟩:∃z,evs[n]?=some z:=⟨evs[n]'(by omega),by simp⟩;have N:mB ⟨th,I,lo,evs⟩=z.time:=by unfold mB;rw[List.getLast?_eq_getElem?,J,Nat.add_sub_cancel,M]
 rw[N];refine cU.dY aY (n:=25) (rs:=[]) Tryz.func113 (by kernel_rfl) Z Tryz.ntmps113 Tryz.results113 Z Z fun C hC O=>aa<|ab<|cz Z Z Z<|ae<|qs<|aa<|ab<|bb 6 Z<|pu (cW (ev aY Z) (y:=I+(evs.length:Int)) (by show IntKind.i64.wrap (I+((evs.map Ev.c).length:Nat))=_;rw[η,wrap64 (by omega)])) Z<|bb 2 Z<|bt aY Z Z Z Z Z Z Z Z<|ae<|qs<|ab<|bb 6 Z<|pu (cW (ev aY Z) (y:=(n:Int)) (by show IntKind.i64.wrap (((evs.map Ev.c).length:Nat)-(1:Int))=_;rw[η,J,wrap64 (by omega)];omega)) Z<|pu (indexAddr (l:=z.c) aY Z Z Z Z Z Z (ε _) (bC M) Z) Z<|bb 4 Z<|bt aY Z Z Z Z Z Z Z Z<|ae<|an aY [] trivial Z Z Z Z ?_ ?_;·exact⟨rfl,trivial⟩
 rfl
theorem D5(ts:List GT)(ds sn)(ps:List bH)(h64:ts.length<=64)(hnd0:(ts.map GT.id).Nodup)(h8:ps.length<=8):bm Tryz.prog 68 [.ag (fQ ts ds sn),.d (.sl (ps.map bH.c))] (.d (.v (.int .i64 (fT (ts.map GT.id) [] ps)))) 0:=by
 obtain⟨ids,hids⟩:∃ids,ids=ts.map GT.id:=⟨_,rfl⟩
 have hnd:ids.Nodup:=hids▸hnd0
 rw[<-hids]
 have hlen:ts.length<=maxLen:=by simp only[maxLen];omega
 have hlen2:ps.length<=maxLen:=by simp only[maxLen];omega
 refine bm.bW (n:=63) (ts:=[4]) Tryz.func68 (by kernel_rfl) Z Tryz.ntmps68 Tryz.results68 Z Z fun C hC hG=>aa<|ab<|cz Z Z Z<|pE Z<|ae<|qs<|aa<|ab<|mkMap Z<|pE Z<|ae<|qs<|aa<|aZ 4 Z<|W.block<|Kv 0 0 Z Z<|W.ca (ι:={x:Nat×List (Nat×List D)//match x with|(k,l)=>k<=ts.length∧l.length=k∧∀q∈l,q.2=z2})
  (fun x=>match x.1 with|(k,l)=>[(1,.d (.sl (ps.map bH.c))),(5,.mp 1 (eP ik oZ (kE (ids.take k) l))),(18,.d (.v (.int .i64 ((k:Nat):Int))))]) [(16,_),(17,_)]
  (fun x=>match x.1 with|(k,l)=>[(0,[.gi 2 (lK l none),.d (.sl (ds.map dF)),.d (.sl (sn.map Sn.c))])]) [] [1,2] 3 (fun x=>match x.1 with|(k,l)=>ts.length-k)
  [0,1,2] ⟨(0,[]),?_⟩ rfl ?_ ⟨rfl,rfl,rfl,rfl,trivial⟩ ?_ trivial rfl ?_
 ·exact⟨ς _,rfl,fun q hq=>nomatch hq⟩
 ·repeat' constructor
 ·repeat' constructor
 rintro⟨⟨k,l⟩,hk,hlk,hz⟩
 show W _ _ _ _ _ ⟨[(1,.d (.sl (ps.map bH.c))),(5,.mp 1 (eP ik oZ (kE (ids.take k) l))),(18,.d (.v (.int .i64 ((k:Nat):Int)))),(16,_),(17,_)],[(0,[.gi 2 (lK l none),.d (.sl (ds.map dF)),.d (.sl (sn.map Sn.c))])],[1,2],3⟩
 refine aZ 1 Z<|aa<|cr (l:=ts) (k:=k) Z (by simp[Ex.bG,bo]) hk (fun t hx hd hlt=>?_)<|fun he hd=>?_
 ·
  have hti:ids[k]?=some t.id:=by rw[hids];simp[hx]
  refine ah<|qs<|aa<|W.block<|aa<|ab<|pu (indexAddr aY Z Z Z Z Z Z (ε _) (bC hx) Z) Z<|bb 1 Z<|b9 aY Z Z Z<|bt aY Z Z Z Z Z Z Z Z<|ae<|qs<|ab<|bb 3 Z<|pu (build aY Z Z Z Z) Z<|cz Z Z Z<|Kt (y:=z2) 0 0 26 Z Z Z Z Z Z Z Z Z Z Z fun c=>?_
  first|refine rK (kf:=ik) (vf:=oZ) (l:=kE (ids.take k) l) (a:=t.id) (y:=sB c) aY 5 rfl rfl rfl rfl rfl rfl rfl (iZ (aY.iC rfl rfl)) rfl rfl (by rw[uQ (by rw[V'];omega)];exact hnd.sublist (List.take_sublist _ _)) (by rw[HN c z2 hnd hlk hti]) rfl ?_
  refine ae<|bX<|qs<|cu 2 Z<|W.cg [0,7,6] ⟨(k+1,l++[(c,z2)]),?_⟩ ?_ Z ?_ ⟨rfl,rfl,rfl,rfl,trivial⟩ ?_ trivial Z
  ·exact⟨hlt,by simp[hlk],fun q hq=>by rcases D'.1 hq with q1|q1;exact hz q q1;simp at q1;subst q1;rfl⟩
  ·dsimp only;omega
  ·repeat' first|exact trivial|refine⟨rfl,?_⟩|refine⟨bF (by assumption) (by assumption),?_⟩
  repeat' constructor
 have hkt:ids.take k=ids:=P' (by rw[hids,η];omega)
 rw[hkt]
 have hat0:mj ids l []:=aK (by rw[hlk,hids,η];omega) hz
 obtain⟨l0,hl0⟩:∃l0,l0=l:=⟨_,rfl⟩
 rw[show kE ids l=kE ids l0 from by rw[hl0]]
 have hke:(kE ids l0).map (·.1)=ids:=uQ (by rw[hl0,hat0.1];exact χ _)
 refine ak<|bP<|bQ<|bO<|qs<|aZ 1 Z<|aa<|aZ 3 Z<|W.block<|W.ca (ι:={x:Nat×List (Nat×List D)×Nat//match x with|(k,m,c)=>k<=ps.length∧fT ids (ps.take k) (ps.drop k)=fT ids [] ps∧mj ids m (ps.take k)∧m.map (·.1)=l0.map (·.1)∧c<=1000*k})
  (fun x=>match x.1 with|(k,m,c)=>[(5,.mp 1 (eP ik oZ (kE ids l0))),(8,.d (.v (.int .i64 ((c:Nat):Int)))),(30,.d (.v (.int .i64 ((k:Nat):Int))))]) [(28,_),(29,_)]
  (fun x=>match x.1 with|(k,m,c)=>[(0,[.gi 2 (lK m none),.d (.sl (ds.map dF)),.d (.sl (sn.map Sn.c))])]) [] [1,2] 3 (fun x=>match x.1 with|(k,m,c)=>ps.length-k)
  [0,1,2] ⟨(0,l,0),?_⟩ rfl ?_ ⟨rfl,rfl,rfl,rfl,trivial⟩ ?_ trivial rfl ?_
 ·exact⟨ς _,rfl,hat0,by rw[hl0],ς _⟩
 ·repeat' constructor
 ·repeat' constructor
 rintro⟨⟨k,m,c⟩,hk2,hI,hat,hfs,hc⟩
 show W _ _ _ _ _ ⟨[(5,.mp 1 (eP ik oZ (kE ids l0))),(8,.d (.v (.int .i64 ((c:Nat):Int)))),(30,.d (.v (.int .i64 ((k:Nat):Int)))),(28,_),(29,_)],[(0,[.gi 2 (lK m none),.d (.sl (ds.map dF)),.d (.sl (sn.map Sn.c))])],[1,2],3⟩
 have hk:=hk2
 refine aZ 1 Z<|aa<|cr (l:=ps) (k:=k) Z (by simp[Ex.bG,bo]) hk (fun p hx hd hlt=>?_)<|fun he hd=>?_
 ·
  have htk:ps.take (k+1)=ps.take k++[p]:=by rw[Φ,hx];rfl
  rw[hd,fT]at hI
  obtain⟨r,hr⟩:∃r,(cC (kE ids l0) p.thread).getD (.v (.pointer none))=r:=⟨_,rfl⟩
  obtain⟨q,hq⟩:∃q,(cC (kE ids l0) p.thread).isSome=q:=⟨_,rfl⟩
  refine ah<|qs<|aa<|W.block<|aa<|ab<|pu (indexAddr aY Z Z Z Z Z Z (ε _) (bC hx) Z) Z<|bb 1 Z<|b9 aY Z Z Z<|bt aY Z Z Z Z Z Z Z Z<|ae<|qs<|aa<|aa<|ab<|bb 1 Z<|pu (bk Z Z Z (C9 p) Z) Z<|pE Z<|ae<|qs<|aZ 2 Z<|bc Z (fun h37=>?_)<|fun h37=>?_
  ·
   have hg:fT ids [] ps=cD p:=by rw[<-hI,if_pos (by simpa using h37)]
   refine aZ 2 Z<|W.ret<|be<|bw<|be<|cE<|bw<|be<|QF.bl trivial Z ?_
   rw[hg];rfl
  have hpk:cD p=0:=by simpa using h37
  rw[if_neg (by simp[hpk])]at hI
  have hpl:=(eG hpk).2.2.2.2.1
  refine ah<|qs<|aa<|ab<|bb 3 Z<|pu (It (kf:=ik) (vf:=oZ) (l:=kE ids l0) (a:=p.thread) (z:=.v (.pointer none)) (r:=r) (q:=q) aY Z Z Z Z Z (iZ (aY.iC Z Z)) Z Z Z (fun _ _=>.v _ Z) (by rw[hke];exact hnd) hr hq) Z<|bb 5 Z<|ae<|qs<|aa<|aZ 2 Z<|bc Z (fun h47=>?_)<|fun h47=>?_
  ·
   have hm:p.thread∉ids:=by
    intro hm
    obtain⟨ix,hix⟩:=ψ.1 hm
    obtain⟨c',h2⟩:=hat.2 ix _ hix
    obtain⟨y0,h3⟩:=Fg hfs h2
    rw[wX hnd hix h3]at hq
    simp at hq
    subst hq
    simp at h47
   have hg:fT ids [] ps=5:=by rw[<-hI,if_pos hm]
   refine aZ 1 Z<|W.ret<|be<|bw<|be<|cE<|bw<|be<|QF.bl trivial Z ?_
   rw[hg];rfl
  have hm:p.thread∈ids:=by
   refine Decidable.byContradiction fun hm=>?_
   rw[GI hm]at hq
   simp at hq
   subst hq
   simp at h47
  rw[if_neg (by simp[hm])]at hI
  obtain⟨ix,hix⟩:=ψ.1 hm
  obtain⟨c',hl2⟩:=hat.2 ix _ hix
  obtain⟨y0,h3⟩:=Fg hfs hl2
  have hr2:r=sB c':=by rw[<-hr,wX hnd hix h3];rfl
  subst hr2
  refine ah<|qs<|aa<|aa<|Jt 0 0 12 43 ix Z Z Z Z hl2 Z Z Z Z<|ab<|bb 2 Z<|bT [6] [] Z Z Z Z Z ((AF p (fD (ps.take k) p.thread) hpk)) Z Z (by rfl) (by rfl) Z Z Z Z<|pE Z<|ae<|qs<|bc Z (fun h51=>?_)<|fun h51=>?_
  ·
   have hg:fT ids [] ps=11:=by rw[<-hI,if_pos (by simpa using h51)]
   refine aZ 1 Z<|W.ret<|be<|bw<|be<|cE<|bw<|be<|QF.bl trivial Z ?_
   rw[hg];rfl
  rw[if_neg (by simpa using h51),←htk]at hI
  refine ah<|qs<|aa<|ab<|bb 2 Z<|bT [6] [] Z Z Z Z Z ((AT p (fD (ps.take k) p.thread) hpk)) Z Z (by rfl) (by rfl) Z Z Z Z<|ae<|qs<|Ih (y:=[ci (p.serial+p.evs.length),ci (mB p)]) 0 0 43 ix Z Z Z hl2 Z Z Z Z Z Z Z Z<|ab<|bb 4 Z<|pu (cW (ev aY Z) (y:=((c+p.evs.length:Nat):Int)) (by show IntKind.i64.wrap ((c:Int)+((p.evs.map Ev.c).length:Nat))=_;rw[η,wrap64 (by omega)];omega)) Z<|pE Z<|ae<|bX<|qs<|cu 2 Z<|W.cg [0,1,10] ⟨(k+1,m.set ix (c',[ci (p.serial+p.evs.length),ci (mB p)]),c+p.evs.length),?_⟩ ?_ Z ?_ ⟨rfl,rfl,rfl,rfl,trivial⟩ ?_ trivial Z
  ·exact⟨hlt,hI,by rw[htk];exact hat.step hnd hix hl2,by rw[aN hl2];exact hfs,by omega⟩
  ·dsimp only;omega
  ·repeat' first|exact trivial|refine⟨rfl,?_⟩|refine⟨bF (by assumption) (by assumption),?_⟩
  repeat' constructor
 have hg:fT ids [] ps=0:=by rw[<-hI,hd];rfl
 refine ak<|bP<|bQ<|bO<|qs<|aa<|aZ 2 Z<|bc Z (fun h62=>?_)<|fun h62=>?_
 ·
  exfalso;simp at h62;omega
 refine ah<|qs<|aZ 1 Z<|W.ret<|QF.bl trivial Z ?_
 rw[hg];rfl
def LS(es evs:List Ev)(j:Nat):List Ev:=if j=0 then es else es++evs
theorem Gu(th I lo)(rows:List (List D))(v)(es evs:List Ev)(l2:List (Value×List Ev))(i)(hi:l2[i]?=some (v,es))(O:Iv)(h0:0<evs.length)(hl:es.length+evs.length<=1000)(a7:rows.length<=100)(a8:∀(x:List D),x∈rows->x.length=4):
 pj Tryz.prog 69 [.xs 1 (rows++[iW th I lo v]),.d (.sl (evs.map Ev.c))] [[.gi 2 (gG Ev.c l2 none),.any,.gi 3 O,.any]] 3
  (fun r b1=>∃M,True∧r=.xs 1 (rows++[iW th I lo M])∧b1=[[.gi 2 (gG Ev.c (l2.set i (M,es++evs)) none),.any,.gi 3 O,.any]]) 3:=by
 have b0:i<l2.length:=(δ.1 hi).1;have J:l2.set i (v,es)=l2:=by rw[<-(δ.1 hi).2];exact List.set_getElem_self _
 have X:∀u,(rows++[iW th I lo u])[((rows.length:Nat):Int).toNat]?=some (iW th I lo u):=fun u=>by rw[Int.toNat_natCast,Θ (χ _),Nat.sub_self];rfl
 have U:∀u u',(rows++[iW th I lo u]).set rows.length (mb (iW th I lo u) 3 [.v u'])=rows++[iW th I lo u']:=fun u u'=>by rw[List.set_append_right _ _ (χ _),Nat.sub_self];rfl
 refine pj.dY aY (n:=54) (rs:=[.tmp 4]) Tryz.func69 (by kernel_rfl) Z Tryz.ntmps69 Tryz.results69 Z fun C hC hG=>aZ 1 Z<|aa<|W.block<|W.ca (ι:={x:Nat×Value×List (Value×List Ev)//match x with|(j,u,m)=>j<=1∧(j=0->u=v)∧m=l2.set i (u,LS es evs j)})
  (fun x=>match x.1 with|(j,u,m)=>[(0,.xs 1 (rows++[iW th I lo u])),(1,.d (.sl ((Hs evs j).map Ev.c)))]) []
  (fun x=>match x.1 with|(j,u,m)=>[(0,[.gi 2 (gG Ev.c m none),.any,.gi 3 O,.any])]) [] [1,2,3] 4 (fun x=>match x.1 with|(j,u,m)=>1-j)
  [0,1,2,3] ⟨(0,v,l2),?_⟩ Z ?_ trivial ?_ trivial Z ?_
 ·exact⟨ς _,fun _=>rfl,J.symm⟩
 ·repeat' constructor
 ·repeat' constructor
 rintro⟨⟨j,u,m⟩,hj,hu,hm⟩;show W _ _ _ _ _ ⟨[(0,.xs 1 (rows++[iW th I lo u])),(1,.d (.sl ((Hs evs j).map Ev.c)))],[(0,[.gi 2 (gG Ev.c m none),.any,.gi 3 O,.any])],[1,2,3],4⟩;refine aa<|aZ 3 Z<|bc Z (fun N=>?_)<|fun N=>?_;·
  have ai:j=0:=by
   match j,hj with
   |0,_=>rfl
   |1,_=>exfalso;simp[Hs]at N
  subst ai;have aj:=hu Z;subst aj;have a1:m=l2:=by rw[hm];exact J
  subst a1;refine ah<|qs<|W.block<|aa<|ab<|bb 2 Z<|pu (yo aY Z Z Z Z) Z<|pu (cW (ev aY Z) (y:=((rows.length:Nat):Int)) (by show IntKind.i64.wrap (((rows++[iW th I lo u]).length:Nat)-(1:Int))=_;rw[υ,wrap64 (by simp;omega)];simp)) Z<|pu (ox (l:=iW th I lo u) aY Z Z Z Z Z Z (ε _) (X u) Z) Z<|pE Z<|ae<|qs<|aa<|ab<|pE Z<|pu (C4 Z Z) Z<|pu (kC aY Z Z Z Z Z Z) Z<|pu (Hg 0 0 i Z Z Z hi Z (sL aY Z Z Z)) Z<|pE Z<|pu (cW (ev aY Z) (y:=((1000-es.length:Nat):Int)) (by show IntKind.i64.wrap ((1000:Int)-((es.map Ev.c).length:Nat))=_;rw[η,wrap64 (by omega)];omega)) Z<|bb 2 Z ?_;refine pu (cW (ev aY Z) (y:=(evs.length:Int)) (by show(if(((evs.map Ev.c).length:Nat):Int)<((1000-es.length:Nat):Int)then(((evs.map Ev.c).length:Nat):Int)else((1000-es.length:Nat):Int))=_;rw[η];split<;>omega)) Z<|pE Z<|ae<|qs<|aa<|aZ 2 Z<|bc Z (fun ad=>?_)<|fun ad=>?_;·exfalso;have:=B' ad;omega
  refine ah (qs (aa (BI 0 0 1 i Z Z Z hi Z Z Z ?_)));apply W.wU aY 9 8;(case hB=>kernel_rfl);(case h1=>rfl);(case h2=>rfl);refine' gT ?p1_1 (ev aY Z) Z Z Z Z Z ?h_1;case' h_1=>skip
  refine' gT ?p1_2 (ev aY Z) Z Z Z Z Z ?h_2;case' h_2=>skip
  refine' gT ?p1_3 (C4 Z Z) Z Z Z Z Z ?h_3;case' h_3=>skip
  refine' gT ?p1_4 (kC aY Z Z Z Z Z Z) Z Z Z Z Z ?h_4;case' h_4=>skip
  refine' sU (Hz 0 1 Z Z (sL aY Z Z Z)) Z Z Z Z Z ?h_5;case' h_5=>skip
  refine' gT ?p1_6 (ev aY Z) Z Z Z Z Z ?h_6;case' h_6=>skip
  refine' gT ?p1_7 (ev aY Z) Z Z Z Z Z ?h_7;case' h_7=>skip
  refine' sU (vo (fn:=Ev.c) (l:=evs) (i:=0) (j:=(evs.length:Int)) (r:=evs) aY Z Z Z Z Z (fun _=>rfl) Z Z (by decide) (by omega) (by omega) (by rw[show((evs.length:Int)).toNat=evs.length from rfl,List.take_length];rfl)) Z Z Z Z Z ?h_8;case' h_8=>skip
  refine' Ky (fun g=>?e_9) Z Z Z ?h_9;case e_9=>refine uJ (l:=es) (l2:=evs) (fn:=Ev.c) aY Z Z Z Z Z Z Z Z Z Z (fun _=>rfl) (by show(es.length+evs.length)*72<=_;omega) ?_;refine ae ?_;exact⟨rfl,rfl⟩
  case' h_9=>skip
  case p1_1=>exact(ev aY Z)
  case p1_2=>exact(ev aY Z)
  case p1_3=>exact(C4 Z Z)
  case p1_4=>exact(kC aY Z Z Z Z Z Z)
  case p1_6=>exact(ev aY Z)
  case p1_7=>exact(ev aY Z)
  refine aI ?_;refine pu (C4 Z Z) Z ?_;refine pu (kC aY Z Z Z Z Z Z) Z ?_;refine Bs 47 26 Z Z Z fun M b2=>?_;refine vv aY 0 Z Z Z Z (X u) Z Z Z Z Z Z (U u M) Z ?_;refine ae (qs (Fe (es:=es++evs) 0 0 26 i Z Z Z Z Z Z Z Z Z Z ?_));refine ab (bb 2 Z ?_);refine pu (vo (fn:=Ev.c) (l:=evs) (i:=(evs.length:Int)) (j:=(evs.length:Int)) (r:=[]) aY Z Z Z Z Z (fun _=>rfl) Z Z (by omega) (by omega) (by omega) (by show(evs.take evs.length).drop evs.length=[];rw[List.take_length,List.drop_length])) Z ?_;refine pE Z (ae (bX (W.cg [0,7,8,3] ⟨(1,M,m.set i (M,es++evs)),?_⟩ ?_ Z ?_ trivial ?_ trivial Z)));·exact⟨χ _,(fun h=>by cases h),rfl⟩
  ·dsimp only;omega
  ·repeat' constructor
  repeat' constructor
 have a6:j=1:=by
  match j,hj with
  |0,_=>exfalso;have N:=O' N;rw[η]at N;simp only[Hs]at N;omega
  |1,_=>rfl
 subst a6;subst hm;refine ak<|bP<|bQ<|bO<|qs<|aZ 2 Z<|W.ret<|Fb.ret _ _ ⟨u,trivial,rfl,rfl⟩ Z<|an aY [1,2,3] trivial Z Z Z Z ?_ ?_;·exact⟨rfl,trivial⟩
 rfl
theorem wG(ts ds sn)(ps:List bH)(h8:ps.length<=8)(hF:(∀p∈ps,cD p=0)->total ps<=1000):bm Tryz.prog 22 [.ag (fQ ts ds sn),.d (.sl (ps.map bH.c))] (.tup [.ag (ez ts ds sn ps).1.c,.d (ci (ez ts ds sn ps).2)]) 0:=by
 have hlen0:ps.length<=maxLen:=by simp only[maxLen];omega
 refine bm.dY aY (n:=84) (rs:=[.cell 4 30,.tmp 5]) Tryz.func22 (by kernel_rfl) Z Tryz.ntmps22 Tryz.results22 Z fun C hC hG=>aa<|ab<|cz Z Z Z<|b9 aY Z Z Z<|pE Z<|ae<|qs<|aa<|aa<|ab<|bb 1 Z<|pu (bk Z Z Z ((Gn _ _ _)) Z) Z<|pE Z<|ae<|qs<|aZ 2 Z<|bc Z (fun h18=>?_)<|fun h18=>?_
 ·
  have hg:ez ts ds sn ps=(nH,dB ts ds sn):=by unfold ez;rw[if_pos (by simpa using h18)]
  refine aa<|ab<|pu (build aY Z Z Z Z) Z<|iR 19 Z Z Z<|pE Z<|bt aY Z Z Z Z Z Z Z Z<|pE Z<|ae<|qs<|W.ret<|be<|QV.bl aY trivial Z ?_
  rw[hg];rfl
 have h0:dB ts ds sn=0:=by simpa using h18
 obtain⟨h64,hnd⟩:=uz h0
 have htm:ts.length<=maxLen:=by simp only[maxLen];omega
 refine ah<|qs<|aa<|aa<|ab<|bb 2 Z<|pu (bk Z Z Z ((D5 _ _ _ _ (by assumption) (by assumption) (by assumption))) Z) Z<|pE Z<|ae<|qs<|aZ 2 Z<|bc Z (fun h25=>?_)<|fun h25=>?_
 ·
  have hg:ez ts ds sn ps=(nH,fT (ts.map GT.id) [] ps):=by unfold ez;rw[if_neg (by simp[h0]),if_pos (by simpa using h25)]
  refine aa<|ab<|pu (build aY Z Z Z Z) Z<|iR 26 Z Z Z<|pE Z<|bt aY Z Z Z Z Z Z Z Z<|pE Z<|ae<|qs<|W.ret<|be<|QV.bl aY trivial Z ?_
  rw[hg];rfl
 have hc0:fT (ts.map GT.id) [] ps=0:=by simpa using h25
 have hg:ez ts ds sn ps=(⟨ts,ds,sn,ts.flatMap fun t=>cc t.id ps⟩,0):=by unfold ez;rw[if_neg (by simp[h0]),if_neg (by simpa using h25)]
 have hpk:=lr hc0
 have hT:=hF fun p hp=>(hpk p hp).1
 refine ah<|qs<|aa<|ab<|mkMap Z<|pE Z<|ae<|qs<|aa<|aZ 3 Z<|W.block<|Fa Ev.c 1 0 Z Z<|LI 1 2 Z Z<|l6 1 1 Z Z<|l6 1 3 Z Z<|W.len (t:=29) Z Z<|fun hlen=>?_
 try simp only[η,Ex.bG]at hlen
 refine W.ca (ι:={x:Nat×PL×List (Value×List (List D))×List (Value×List Ev)//match x with|(k,L,l,l2)=>k<=ps.length∧lE L l l2 (ps.take k)})
  (fun x=>match x.1 with|(k,L,l,l2)=>[(2,.ptr 0 0),(4,.ptr 1 0),(8,.mp 2 (eP ik oZ (jt (L.map (·.1)) l))),(31,.d (.v (.int .i64 ((k:Nat):Int))))]) [(29,_),(30,_)]
  (fun x=>match x.1 with|(k,L,l,l2)=>[(0,(fQ ts ds sn).map A.d),(1,[.gi 3 (gG Ev.c l2 none),.any,.gi 4 (xI l none),.any])]) [] [2,3,4] 5 (fun x=>match x.1 with|(k,L,l,l2)=>ps.length-k)
  [0,1,2,3,4] ⟨(0,[],[],[]),?_⟩ rfl ?_ ⟨rfl,rfl,rfl,rfl,trivial⟩ ?_ trivial rfl ?_
 ·exact⟨ς _,lE.nil⟩
 ·repeat' constructor
 ·repeat' constructor
 rintro⟨⟨k,L,l,l2⟩,hk,hP⟩
 show W _ _ _ _ _ ⟨[(2,.ptr 0 0),(4,.ptr 1 0),(8,.mp 2 (eP ik oZ (jt (L.map (·.1)) l))),(31,.d (.v (.int .i64 ((k:Nat):Int)))),(29,_),(30,_)],[(0,(fQ ts ds sn).map A.d),(1,[.gi 3 (gG Ev.c l2 none),.any,.gi 4 (xI l none),.any])],[2,3,4],5⟩
 refine aZ 1 Z<|aa<|cr (l:=ps) (k:=k) Z (by simp[Ex.bG,bo]) hk (fun p hx hd hlt=>?_)<|fun he hd=>?_
 ·
  have htk:ps.take (k+1)=ps.take k++[p]:=by rw[Φ,hx];rfl
  obtain⟨hp0,_⟩:=hpk p (ζ hx)
  have he0:0<p.evs.length:=List.length_pos_iff.2 (eG hp0).2.2.2.1
  have htt:=qJ hx
  obtain⟨x,L1,l1,jx,o,hAt⟩:=hP.LM p.thread
  obtain⟨rowsA,tA,seA,pO,vA,esA,l2A,iA,oA,hY,hN,Dz,hrl,hr4,hes,hnext⟩:=hAt.LU
  obtain⟨rX,hrX⟩:∃rX,rX=o.map (gk l2):=⟨_,rfl⟩
  have hjx:l1[jx]?=some (x,rX):=by rw[hrX];exact hAt.hj
  have htl:(ps.take k).length<=8:=by rw[V'];omega
  have hol:o.length<=8:=by
   have h1:=hAt.own _ o (ζ hAt.hL)
   have h2:=(iN p.thread (rfl:(ps.take k).length=(ps.take k).length)).1
   rw[<-h1.1,η]at h2
   omega
  refine ah<|qs<|aa<|W.block<|aa<|ab<|pu (indexAddr aY Z Z Z Z Z Z (ε _) (bC hx) Z) Z<|bb 1 Z<|b9 aY Z Z Z<|bt aY Z Z Z Z Z Z Z Z<|ae<|qs<|aa<|ab<|bb 3 Z<|pu (nY (kf:=ik) (vf:=oZ) (l:=jt (L.map (·.1)) l) (a:=p.thread) (z:=.v (.slice none 0 0)) (r:=.v x) aY Z Z Z Z Z (iZ (aY.iC Z Z)) Z Z Z (fun _ _=>.v _ Z) (by rw[uy (by simp[hP.len])];exact hP.keys) hAt.get) Z<|pE Z<|ae<|qs<|aa<|aa<|Lt 1 2 11 jx Z Z Z Z hAt.new hjx Z Z ?_
  apply bJ;(case hb=>rfl)
  ·
   refine bb 4 Z ?_
   apply dP;(case hj=>rfl);(case hl=>rfl)
   ·
    intro g42
    refine bD Z Z Z Z<|bD Z Z Z Z<|bD Z Z Z Z<|pE Z<|ae<|b7 Z Z Z
   intro g42
   refine bE Z Z<|pE Z<|bE Z Z<|pu (yo aY Z Z Z Z) Z<|bE Z Z<|bb 2 Z<|ae<|b7 Z Z Z
  refine qs (W.nl [(2,.ptr 0 0),(4,.ptr 1 0),(8,.mp 3 (eP ik oZ (jt (L.map (·.1)) l))),(10,.ptr 2 0),(11,.xs 6 (rowsA++[iW tA seA pO vA])),(31,.d (.v (.int .i64 ((k:Nat):Int))))] [29,30] [(0,(fQ ts ds sn).map A.d),(1,[.gi 4 (gG Ev.c l2A none),.any,.gi 5 (xI l1 (some jx)),.any]),(2,p.c.map A.d)] [] [3,4,5,6] 7 ?_ ?_)
  ·
   refine bc Z (fun h46=>?_) (fun h46=>?_)
   ·
    have hb:0<p.lost∨o=[]:=by
     rw[hrX]at h46
     by_cases q:0<p.lost
     ·exact .inl q
     refine .inr ?_
     simp[q]at h46
     exact h46
    obtain⟨rfl,rfl,rfl,rfl,rfl,rfl⟩:=hY hb
    subst hrX
    refine Ep 1 0 Z Z Z Z<|ab<|bb 7 Z<|pu (build aY Z Z Z Z) Z<|pu (bZ aY Z Z Z Z Z Z Z Z Z) Z<|zZ (es2:=[iW p.thread p.serial p.lost ir]) (r:=o.map (gk l2)++[iW p.thread p.serial p.lost ir]) aY Z Z Z Z Z Z Z Z Z Z Z (fun z hz=>by rcases D'.1 hz with hz|hz;exact uE _ _ z hz;simp at hz;subst hz;rfl) (by show((o.map (gk l2)).length+1)*48<=_;rw[η];omega) Z<|pE Z<|ae<|dL [0,1,5,2,3,6,8] Z ?_ ⟨rfl,rfl,rfl,rfl,trivial⟩ ?_ trivial Z
    ·repeat' constructor
    repeat' constructor
   have hb:¬(0<p.lost∨o=[]):=by
    rw[hrX]at h46
    rintro(q|q)
    ·simp[q]at h46
    subst q;by_cases q:0<p.lost<;>simp[q]at h46
   obtain⟨e1,e2⟩:=hN hb
   rw[e1]at hrX
   subst hrX
   subst e2
   refine ah (dL [0,1,5,2,3,6,7] Z ?_ ⟨rfl,rfl,rfl,rfl,trivial⟩ ?_ trivial Z)
   ·repeat' constructor
   repeat' constructor
  refine qs<|W.Ae aY (fun _=>True) (fun v':Value=>[(1,[.gi 9 (gG Ev.c (l2A.set iA (v',esA++p.evs)) none),.any,.gi 10 (xI l1 (some jx)),.any])]) [8,9,10,3] 11 63 (fun v'=>.xs 8 (rowsA++[iW tA seA pO v'])) 7 6 (by kernel_rfl) Z Z<|oF (fun _ _=>ev aY Z) (ev aY Z) Z Z Z Z Z Z<|oF (fun _ _=>ev aY Z) (ev aY Z) Z Z Z Z Z Z<|oF (fun _ _=>ev aY Z) (ev aY Z) Z Z Z Z Z Z<|yl (ev aY Z) Z Z Z Z Z Z<|oF (fun _ _=>ev aY Z) (ev aY Z) Z Z Z Z Z Z<|yl (ev aY Z) Z Z Z Z Z Z ?_
  refine Lf (fun g=>yd [1] [6,4,5] Z Z Z Z Z (Gu tA seA pO rowsA vA esA p.evs l2A iA Dz (xI l1 (some jx)) he0 (by omega) (by omega) hr4) Z Z (by rfl) Z (fun _=>rfl) (fun _=>rfl) Z Z fun v' _=>ae ⟨rfl,v',trivial,rfl⟩) Z Z Z<|CX.nil fun v' _=>K1 1 2 63 jx Z Z Z Z Z Z Z Z fun x'=>rK (kf:=ik) (vf:=oZ) (l:=jt (L.map (·.1)) l) (a:=p.thread) (y:=.v x') aY 8 Z Z Z Z Z Z Z (iZ (aY.iC Z Z)) Z Z (by rw[uy (by simp[hP.len])];exact hP.keys) (by rw[hAt.put x' (rowsA++[iW tA seA pO v']),←hAt.Jq oA]) Z<|ae<|bX<|qs<|cu 2 Z ?_
  refine W.cg [0,1,12,9,11] ⟨(k+1,L1.set jx (p.thread,oA),l1.set jx (x',rowsA++[iW tA seA pO v']),l2A.set iA (v',esA++p.evs)),?_⟩ ?_ Z ?_ ⟨rfl,rfl,rfl,rfl,trivial⟩ ?_ trivial Z
  ·exact⟨hlt,by rw[htk];exact hnext v' x'⟩
  ·dsimp only;omega
  ·repeat' first|exact trivial|refine⟨rfl,?_⟩|refine⟨bF (by assumption) (by assumption),?_⟩
  repeat' constructor
 have hpl:ps.take k=ps:=P' (by omega)
 rw[hpl]at hP
 refine ak<|bP<|bQ<|bO<|qs<|aa<|KC 1 2 0 8 (ks':=pt L) Z Z Z Z Z Z Z Z Z Z (H5 hP.len) hP.done Z<|ab<|bb 1 Z<|pu (build aY Z Z Z Z) Z<|b9 aY Z Z Z<|bt aY Z Z Z Z Z Z Z Z<|ae<|qs<|aa<|aa<|fh 5 3 Z Z Z<|cu 4 Z<|qs<|W.block<|W.ca (ι:={x:Nat×List bH//match x with|(k,m)=>k<=ts.length∧m=(ts.take k).flatMap fun t=>cc t.id ps})
  (fun x=>match x.1 with|(k,m)=>[(4,.ptr 0 0),(8,.mp 2 (eP ik oZ (pt L))),(12,.ptr 1 0),(70,.d (.v (.int .i64 ((k:Nat):Int))))]) [(68,_),(69,_)]
  (fun x=>match x.1 with|(k,m)=>[(0,[.any,.any,.any,.any]),(1,[.d (.sl (ts.map GT.c)),.d (.sl (ds.map dF)),.d (.sl (sn.map Sn.c)),.own 3 (m.map bH.c)])]) [] [2,3] 4 (fun x=>match x.1 with|(k,m)=>ts.length-k)
  [1,5,2,6] ⟨(0,[]),?_⟩ rfl ?_ ⟨rfl,rfl,rfl,rfl,trivial⟩ ?_ trivial rfl ?_
 ·exact⟨ς _,rfl⟩
 ·repeat' constructor
 ·repeat' constructor
 rintro⟨⟨k,m⟩,hk,hM⟩
 show W _ _ _ _ _ ⟨[(4,.ptr 0 0),(8,.mp 2 (eP ik oZ (pt L))),(12,.ptr 1 0),(70,.d (.v (.int .i64 ((k:Nat):Int)))),(68,_),(69,_)],[(0,[.any,.any,.any,.any]),(1,[.d (.sl (ts.map GT.c)),.d (.sl (ds.map dF)),.d (.sl (sn.map Sn.c)),.own 3 (m.map bH.c)])],[2,3],4⟩
 refine aZ 1 Z<|aa<|cr (l:=ts) (k:=k) Z (by simp[Ex.bG,bo]) hk (fun t hx hd hlt=>?_)<|fun he hd=>?_
 ·
  have hmn:m++cc t.id ps=(ts.take (k+1)).flatMap fun t=>cc t.id ps:=by rw[hM,Φ,hx,List.flatMap_append];simp
  have hq8:=(iN t.id (rfl:ps.length=ps.length)).1
  have hml:m.length<=512:=by rw[hM];exact rW ps h8 (by rw[V'];omega)
  refine ah<|qs<|aa<|W.block<|aa<|ab<|pu (indexAddr aY Z Z Z Z Z Z (ε _) (bC hx) Z) Z<|bb 1 Z<|b9 aY Z Z Z<|bt aY Z Z Z Z Z Z Z Z<|ae<|qs<|ab<|bb 5 Z<|pu (nY (kf:=ik) (vf:=oZ) (l:=pt L) (a:=t.id) (z:=.v (.slice none 0 0)) (r:=if cc t.id ps=[]then .v ir else .sl ((cc t.id ps).map bH.c)) aY Z Z Z Z Z (iZ (aY.iC Z Z)) Z Z Z (fun _ _=>.v _ Z) (by rw[Gj];exact hP.keys) (hP.get t.id)) Z<|uJ (l2:=cc t.id ps) (fn:=bH.c) aY Z Z (by by_cases q:cc t.id ps=[]<;>simp[q,jI,ir]) Z Z Z Z Z Z Z (fun _=>rfl) (by show(m.length+(cc t.id ps).length)*48<=_;omega)<|pE Z<|bt aY Z Z Z Z Z Z Z Z<|ae<|bX<|qs<|cu 2 Z ?_
  refine W.cg [0,1,2,5] ⟨(k+1,m++cc t.id ps),?_⟩ ?_ Z ?_ ⟨rfl,rfl,rfl,rfl,trivial⟩ ?_ trivial Z
  ·exact⟨hlt,hmn⟩
  ·dsimp only;omega
  ·repeat' first|exact trivial|refine⟨rfl,?_⟩|refine⟨bF (by assumption) (by assumption),?_⟩
  repeat' constructor
 have hpm:m=ts.flatMap fun t=>cc t.id ps:=by rw[hM,P' (by omega)]
 subst hpm
 refine ak<|bP<|bQ<|bO<|qs<|aa<|ab<|bb 1 Z<|bt aY Z Z Z Z Z Z Z Z<|pE Z<|ae<|qs<|W.ret<|QV.bl aY trivial Z ?_
 rw[hg];rfl
theorem EO(a b:List (Int×Int)):bm Tryz.prog 45 [.d (.sl (a.map dF)),.d (.sl (b.map dF))] (.d (.v (.bool (decide (a=b))))) 0:=by
 refine bm.bW (n:=26) (ts:=[4]) Tryz.func45 (by kernel_rfl) Z Tryz.ntmps45 Tryz.results45 Z Z fun C hC hG=>aZ 1 Z<|aa<|aZ 5 Z<|bc Z (fun I=>?_)<|fun I=>?_;·
  have J:decide (a=b)=false:=decide_eq_false (by rintro rfl;simp at I);refine aZ 1 Z<|W.ret<|be<|QF.bl trivial Z ?_;rw[J];rfl
 have ai:a.length=b.length:=by simp at I;omega
 refine ah<|qs<|aa<|aZ 3 Z<|W.block<|W.len (t:=0) Z Z<|fun hlen=>?_;try simp only[η,Ex.bG]at hlen
 refine W.ca (ι:={x:Nat//match x with|k=>k<=a.length∧(a.drop k=b.drop k↔a=b)})
  (fun x=>match x.1 with|k=>[(13,.d (.v (.int .i64 ((k:Nat):Int))))]) [(0,_),(1,_),(12,_)]
  (fun x=>match x.1 with|k=>[]) [] [] 0 (fun x=>match x.1 with|k=>a.length-k)
  [] ⟨0,?_⟩ Z ?_ ⟨rfl,rfl,rfl,rfl,rfl,rfl,trivial⟩ ?_ trivial Z ?_
 ·exact⟨ς _,by simp⟩
 ·repeat' constructor
 ·repeat' exact trivial
 rintro⟨k,hk,M⟩;show W _ _ _ _ _ ⟨[(13,.d (.v (.int .i64 ((k:Nat):Int)))),(0,_),(1,_),(12,_)],[],[],0⟩;refine aZ 1 Z<|aa<|cr (l:=a) (k:=k) Z (by simp[Ex.bG,bo]) hk (fun x hx hd ad=>?_)<|fun he hd=>?_;·
  obtain⟨y,hy⟩:∃y,b[k]?=some y:=⟨b[k]'(by omega),by simp⟩;have N:b.drop k=y::b.drop (k+1):=by
   have X:k<b.length:=by omega
   have:=List.drop_eq_getElem_cons X;rw[this,(δ.1 hy).2]
  rw[hd,N]at M;refine ah<|qs<|aa<|W.block<|aZ 2 Z<|aa<|W.dD aY (by kernel_rfl)<|br (ev aY Z) Z<|br (ev aY Z) Z<|br (indexAddr (l:=dF x) aY Z Z Z Z Z Z (ε _) (bC hx) Z) Z ?_
  refine br (ev aY Z) Z<|br (ev aY Z) Z<|br (ev aY Z) Z<|br (indexAddr (l:=dF y) aY Z Z Z Z Z Z (ε _) (bC hy) Z) Z ?_
  refine br (ev aY Z) Z<|br (ev aY Z) Z<|ao<|qs<|bc Z (fun O=>?_)<|fun O=>?_;·
   have U:x≠y:=by rintro rfl;simp at O
   have J:decide (a=b)=false:=decide_eq_false (fun q=>by have:=M.2 q;simp at this;exact U this.1);refine aZ 1 Z<|W.ret<|bw<|be<|cE<|bw<|be<|QF.bl trivial Z ?_;rw[J];rfl
  have U:x=y:=by
   have q:x.1=y.1∧x.2=y.2:=by simpa[dF]using O
   exact Prod.ext q.1 q.2
  have hn:a.drop (k+1)=b.drop (k+1)↔a=b:=by rw[<-M,U];simp
  refine ah<|bX<|qs<|cu 2 Z<|W.cg [] ⟨k+1,?_⟩ ?_ Z ?_ ⟨rfl,rfl,rfl,rfl,rfl,rfl,trivial⟩ ?_ trivial Z;·exact⟨ad,hn⟩
  ·dsimp only;omega
  ·repeat' first|exact trivial|refine⟨bF (by assumption) (by assumption),?_⟩
  repeat' exact trivial
 have N:b.drop k=[]:=List.drop_eq_nil_of_le (by have:=congrArg List.length hd;simp at this;omega);rw[hd,N]at M;have J:decide (a=b)=true:=decide_eq_true (M.1 Z);refine ak<|bP<|bQ<|bO<|qs<|aZ 1 Z<|W.ret<|QF.bl trivial Z ?_;rw[J];rfl
theorem CZ(fid)(p:Ev->Ev->Bool)(hp:∀x y:Ev,bm Tryz.prog fid [.ag (Ev.c x),.ag (Ev.c y)] (.d (.v (.bool (p x y)))) 0)(l m:List Ev):
 bm Tryz.prog 93 [.d (.sl (l.map Ev.c)),.d (.sl (m.map Ev.c)),.clo fid []] (.d (.v (.bool (ey p l m)))) 0:=by
 refine bm.bW (n:=32) (ts:=[6]) Tryz.func93 (by kernel_rfl) Z Tryz.ntmps93 Tryz.results93 Z Z fun C hC hG=>aZ 1 Z<|aa<|aZ 5 Z<|bc Z (fun J=>?_)<|fun J=>?_;·
  have M:ey p l m=false:=by
   cases he:ey p l m with
   |false=>rfl
   |true=>have:=q9 he;simp at J;omega
  refine aZ 1 Z<|W.ret<|be<|QF.bl trivial Z ?_;rw[M];rfl
 have hl:l.length=m.length:=by simp at J;omega
 refine ah<|qs<|aa<|aZ 3 Z<|W.block<|W.len (t:=0) Z Z<|fun hlen=>?_;try simp only[η,Ex.bG]at hlen
 refine W.ca (ι:={x:Nat//match x with|k=>k<=l.length∧ey p (l.drop k) (m.drop k)=ey p l m})
  (fun x=>match x.1 with|k=>[(17,.d (.v (.int .i64 ((k:Nat):Int))))]) [(1,_),(2,_),(15,_),(16,_)]
  (fun x=>match x.1 with|k=>[]) [] [] 0 (fun x=>match x.1 with|k=>l.length-k)
  [] ⟨0,?_⟩ Z ?_ ⟨rfl,rfl,rfl,rfl,rfl,rfl,rfl,rfl,trivial⟩ ?_ trivial Z ?_
 ·exact⟨ς _,by simp⟩
 ·repeat' constructor
 ·repeat' exact trivial
 rintro⟨k,hk,I⟩;show W _ _ _ _ _ ⟨[(17,.d (.v (.int .i64 ((k:Nat):Int)))),(1,_),(2,_),(15,_),(16,_)],[],[],0⟩;refine aZ 1 Z<|aa<|cr (l:=l) (k:=k) Z (by simp[Ex.bG,bo]) hk (fun x hx hd U=>?_)<|fun he hd=>?_;·
  obtain⟨y,hy,X⟩:=sr (l:=m) (k:=k) (by omega);rw[hd,X]at I;simp only[ey]at I;have ad:=hp x y;refine ah<|qs<|aa<|W.block<|aa<|ab<|pE Z<|pu (indexAddr (l:=Ev.c x) aY Z Z Z Z Z Z (ε _) (bC hx) Z) Z<|bb 1 Z<|b9 aY Z Z Z<|pE Z<|bt aY Z Z Z Z Z Z Z Z<|ae<|qs<|aa<|ab<|bb 2 Z<|pu (indexAddr (l:=Ev.c y) aY Z Z Z Z Z Z (ε _) (bC hy) Z) Z<|bb 1 Z<|b9 aY Z Z Z<|bt aY Z Z Z Z Z Z Z Z<|ae<|qs<|aa<|ab<|bb 3 Z<|pu (bk Z Z Z ad Z) Z<|pE Z<|ae<|qs<|bc Z (fun N=>?_)<|fun N=>?_;·
   have O:p x y=false:=by simpa using N
   have M:ey p l m=false:=by rw[<-I,O];rfl
   refine aZ 1 Z<|W.ret<|bw<|be<|cE<|bw<|be<|QF.bl trivial Z ?_;rw[M];rfl
  have O:p x y=true:=by simpa using N
  rw[O,Bool.true_and]at I;refine ah<|bX<|qs<|cu 2 Z<|W.cg [] ⟨k+1,?_⟩ ?_ Z ?_ ⟨rfl,rfl,rfl,rfl,rfl,rfl,rfl,rfl,trivial⟩ ?_ trivial Z;·exact⟨U,I⟩
  ·dsimp only;omega
  ·repeat' first|exact trivial|refine⟨bF (by assumption) (by assumption),?_⟩
  repeat' exact trivial
 rw[hd,dropEnd (l:=m) (by omega)]at I;have M:ey p l m=true:=I.symm;refine ak<|bP<|bQ<|bO<|qs<|aZ 1 Z<|W.ret<|QF.bl trivial Z ?_;rw[M];rfl
theorem Dv(fid)(p:bH->bH->Bool)(hp:∀x y:bH,bm Tryz.prog fid [.ag (bH.c x),.ag (bH.c y)] (.d (.v (.bool (p x y)))) 0)(l m:List bH):
 bm Tryz.prog 47 [.d (.sl (l.map bH.c)),.d (.sl (m.map bH.c)),.clo fid []] (.d (.v (.bool (ey p l m)))) 0:=by
 refine bm.bW (n:=32) (ts:=[6]) Tryz.func47 (by kernel_rfl) Z Tryz.ntmps47 Tryz.results47 Z Z fun C hC hG=>aZ 1 Z<|aa<|aZ 5 Z<|bc Z (fun J=>?_)<|fun J=>?_;·
  have M:ey p l m=false:=by
   cases he:ey p l m with
   |false=>rfl
   |true=>have:=q9 he;simp at J;omega
  refine aZ 1 Z<|W.ret<|be<|QF.bl trivial Z ?_;rw[M];rfl
 have hl:l.length=m.length:=by simp at J;omega
 refine ah<|qs<|aa<|aZ 3 Z<|W.block<|W.len (t:=0) Z Z<|fun hlen=>?_;try simp only[η,Ex.bG]at hlen
 refine W.ca (ι:={x:Nat//match x with|k=>k<=l.length∧ey p (l.drop k) (m.drop k)=ey p l m})
  (fun x=>match x.1 with|k=>[(17,.d (.v (.int .i64 ((k:Nat):Int))))]) [(1,_),(2,_),(15,_),(16,_)]
  (fun x=>match x.1 with|k=>[]) [] [] 0 (fun x=>match x.1 with|k=>l.length-k)
  [] ⟨0,?_⟩ Z ?_ ⟨rfl,rfl,rfl,rfl,rfl,rfl,rfl,rfl,trivial⟩ ?_ trivial Z ?_
 ·exact⟨ς _,by simp⟩
 ·repeat' constructor
 ·repeat' exact trivial
 rintro⟨k,hk,I⟩;show W _ _ _ _ _ ⟨[(17,.d (.v (.int .i64 ((k:Nat):Int)))),(1,_),(2,_),(15,_),(16,_)],[],[],0⟩;refine aZ 1 Z<|aa<|cr (l:=l) (k:=k) Z (by simp[Ex.bG,bo]) hk (fun x hx hd U=>?_)<|fun he hd=>?_;·
  obtain⟨y,hy,X⟩:=sr (l:=m) (k:=k) (by omega);rw[hd,X]at I;simp only[ey]at I;have ad:=hp x y;refine ah<|qs<|aa<|W.block<|aa<|ab<|pE Z<|pu (indexAddr (l:=bH.c x) aY Z Z Z Z Z Z (ε _) (bC hx) Z) Z<|bb 1 Z<|b9 aY Z Z Z<|pE Z<|bt aY Z Z Z Z Z Z Z Z<|ae<|qs<|aa<|ab<|bb 2 Z<|pu (indexAddr (l:=bH.c y) aY Z Z Z Z Z Z (ε _) (bC hy) Z) Z<|bb 1 Z<|b9 aY Z Z Z<|bt aY Z Z Z Z Z Z Z Z<|ae<|qs<|aa<|ab<|bb 3 Z<|pu (bk Z Z Z ad Z) Z<|pE Z<|ae<|qs<|bc Z (fun N=>?_)<|fun N=>?_;·
   have O:p x y=false:=by simpa using N
   have M:ey p l m=false:=by rw[<-I,O];rfl
   refine aZ 1 Z<|W.ret<|bw<|be<|cE<|bw<|be<|QF.bl trivial Z ?_;rw[M];rfl
  have O:p x y=true:=by simpa using N
  rw[O,Bool.true_and]at I;refine ah<|bX<|qs<|cu 2 Z<|W.cg [] ⟨k+1,?_⟩ ?_ Z ?_ ⟨rfl,rfl,rfl,rfl,rfl,rfl,rfl,rfl,trivial⟩ ?_ trivial Z;·exact⟨U,I⟩
  ·dsimp only;omega
  ·repeat' first|exact trivial|refine⟨bF (by assumption) (by assumption),?_⟩
  repeat' exact trivial
 rw[hd,dropEnd (l:=m) (by omega)]at I;have M:ey p l m=true:=I.symm;refine ak<|bP<|bQ<|bO<|qs<|aZ 1 Z<|W.ret<|QF.bl trivial Z ?_;rw[M];rfl
theorem G5(p q:bH):bm Tryz.prog 49 [.ag p.c,.ag q.c] (.d (.v (.bool (eD p q)))) 0:=by
 refine bm.bW (n:=31) (ts:=[4]) Tryz.func49 (by kernel_rfl) Z Tryz.ntmps49 Tryz.results49 Z Z fun C hC I=>aa<|ab<|cz Z Z Z<|cz Z Z Z<|pE Z<|ae<|qs<|aa ?_;apply bJ;(case hb=>rfl);·repeat' first|refine b7 Z Z Z|refine bE Z Z ?_|refine bD Z Z Z Z ?_|refine pE Z ?_|refine pu (bk Z Z Z (CZ 94 lF Iw p.evs q.evs) Z) Z ?_|refine ae ?_|(apply bU;(case hj=>rfl);(case hl=>rfl))
 refine qs (W.ret (QF.bl trivial Z ?_));simp only[norm,bM,eD];cases decide (p.thread=q.thread)<;>cases decide (p.serial=q.serial)<;>cases decide (p.lost=q.lost)<;>rfl
theorem D1(p q:bH):bm Tryz.prog 48 [.ag p.c,.ag q.c] (.d (.v (.bool (eD p q)))) 0:=by refine bm.bW (n:=8) (ts:=[4]) Tryz.func48 (by kernel_rfl) Z Tryz.ntmps48 Tryz.results48 Z Z fun C hC I=>?_;refine aa (ab (cz Z Z Z (cz Z Z Z (pE Z (ae (qs (aa (ab (bb 2 Z ?_)))))))));refine pu (bk Z Z Z (G5 p q) Z) Z ?_;refine pE Z (ae (qs (W.ret (QF.bl trivial Z ?_))));rfl
theorem Ek(a b:List GT):bm Tryz.prog 44 [.d (.sl (a.map GT.c)),.d (.sl (b.map GT.c))] (.d (.v (.bool (decide (a=b))))) 0:=by
 refine bm.bW (n:=26) (ts:=[4]) Tryz.func44 (by kernel_rfl) Z Tryz.ntmps44 Tryz.results44 Z Z fun C hC hG=>aZ 1 Z<|aa<|aZ 5 Z<|bc Z (fun I=>?_)<|fun I=>?_;·
  have J:decide (a=b)=false:=decide_eq_false (by rintro rfl;simp at I);refine aZ 1 Z<|W.ret<|be<|QF.bl trivial Z ?_;rw[J];rfl
 have ad:a.length=b.length:=by simp at I;omega
 refine ah<|qs<|aa<|aZ 3 Z<|W.block<|W.len (t:=0) Z Z<|fun hlen=>?_;try simp only[η,Ex.bG]at hlen
 refine W.ca (ι:={x:Nat//match x with|k=>k<=a.length∧(a.drop k=b.drop k↔a=b)})
  (fun x=>match x.1 with|k=>[(13,.d (.v (.int .i64 ((k:Nat):Int))))]) [(0,_),(1,_),(12,_)]
  (fun x=>match x.1 with|k=>[]) [] [] 0 (fun x=>match x.1 with|k=>a.length-k)
  [] ⟨0,?_⟩ Z ?_ ⟨rfl,rfl,rfl,rfl,rfl,rfl,trivial⟩ ?_ trivial Z ?_
 ·exact⟨ς _,by simp⟩
 ·repeat' constructor
 ·repeat' exact trivial
 rintro⟨k,hk,M⟩;show W _ _ _ _ _ ⟨[(13,.d (.v (.int .i64 ((k:Nat):Int)))),(0,_),(1,_),(12,_)],[],[],0⟩;refine aZ 1 Z<|aa<|cr (l:=a) (k:=k) Z (by simp[Ex.bG,bo]) hk (fun x hx hd X=>?_)<|fun he hd=>?_;·
  obtain⟨y,hy,N⟩:=sr (l:=b) (k:=k) (by omega);rw[hd,N]at M;refine ah<|qs<|aa<|W.block<|aZ 2 Z<|aa<|W.dD aY (by kernel_rfl)<|br (ev aY Z) Z<|br (ev aY Z) Z<|br (indexAddr (l:=x.c) aY Z Z Z Z Z Z (ε _) (bC hx) Z) Z ?_
  refine br (ev aY Z) Z<|br (ev aY Z) Z<|br (ev aY Z) Z<|br (indexAddr (l:=y.c) aY Z Z Z Z Z Z (ε _) (bC hy) Z) Z ?_
  refine br (ev aY Z) Z<|br (ev aY Z) Z<|ao<|qs<|bc Z (fun O=>?_)<|fun O=>?_;·
   have U:x≠y:=by rintro rfl;simp at O
   have J:decide (a=b)=false:=decide_eq_false (fun q=>by have:=M.2 q;simp at this;exact U this.1);refine aZ 1 Z<|W.ret<|bw<|be<|cE<|bw<|be<|QF.bl trivial Z ?_;rw[J];rfl
  have U:x=y:=by
   have q:x.id=y.id∧x.name=y.name∧x.dom=y.dom:=by simpa using O
   cases x;cases y;simp_all
  have hn:a.drop (k+1)=b.drop (k+1)↔a=b:=by rw[<-M,U];simp
  refine ah<|bX<|qs<|cu 2 Z<|W.cg [] ⟨k+1,?_⟩ ?_ Z ?_ ⟨rfl,rfl,rfl,rfl,rfl,rfl,trivial⟩ ?_ trivial Z;·exact⟨X,hn⟩
  ·dsimp only;omega
  ·repeat' first|exact trivial|refine⟨bF (by assumption) (by assumption),?_⟩
  repeat' exact trivial
 have N:b.drop k=[]:=List.drop_eq_nil_of_le (by have:=congrArg List.length hd;simp at this;omega);rw[hd,N]at M;have J:decide (a=b)=true:=decide_eq_true (M.1 Z);refine ak<|bP<|bQ<|bO<|qs<|aZ 1 Z<|W.ret<|QF.bl trivial Z ?_;rw[J];rfl
theorem Ef(a b:List Sn):bm Tryz.prog 46 [.d (.sl (a.map Sn.c)),.d (.sl (b.map Sn.c))] (.d (.v (.bool (decide (a=b))))) 0:=by
 refine bm.bW (n:=26) (ts:=[4]) Tryz.func46 (by kernel_rfl) Z Tryz.ntmps46 Tryz.results46 Z Z fun C hC hG=>aZ 1 Z<|aa<|aZ 5 Z<|bc Z (fun I=>?_)<|fun I=>?_;·
  have J:decide (a=b)=false:=decide_eq_false (by rintro rfl;simp at I);refine aZ 1 Z<|W.ret<|be<|QF.bl trivial Z ?_;rw[J];rfl
 have ad:a.length=b.length:=by simp at I;omega
 refine ah<|qs<|aa<|aZ 3 Z<|W.block<|W.len (t:=0) Z Z<|fun hlen=>?_;try simp only[η,Ex.bG]at hlen
 refine W.ca (ι:={x:Nat//match x with|k=>k<=a.length∧(a.drop k=b.drop k↔a=b)})
  (fun x=>match x.1 with|k=>[(13,.d (.v (.int .i64 ((k:Nat):Int))))]) [(0,_),(1,_),(12,_)]
  (fun x=>match x.1 with|k=>[]) [] [] 0 (fun x=>match x.1 with|k=>a.length-k)
  [] ⟨0,?_⟩ Z ?_ ⟨rfl,rfl,rfl,rfl,rfl,rfl,trivial⟩ ?_ trivial Z ?_
 ·exact⟨ς _,by simp⟩
 ·repeat' constructor
 ·repeat' exact trivial
 rintro⟨k,hk,M⟩;show W _ _ _ _ _ ⟨[(13,.d (.v (.int .i64 ((k:Nat):Int)))),(0,_),(1,_),(12,_)],[],[],0⟩;refine aZ 1 Z<|aa<|cr (l:=a) (k:=k) Z (by simp[Ex.bG,bo]) hk (fun x hx hd X=>?_)<|fun he hd=>?_;·
  obtain⟨y,hy,N⟩:=sr (l:=b) (k:=k) (by omega);rw[hd,N]at M;refine ah<|qs<|aa<|W.block<|aZ 2 Z<|aa<|W.dD aY (by kernel_rfl)<|br (ev aY Z) Z<|br (ev aY Z) Z<|br (indexAddr (l:=x.c) aY Z Z Z Z Z Z (ε _) (bC hx) Z) Z ?_
  refine br (ev aY Z) Z<|br (ev aY Z) Z<|br (ev aY Z) Z<|br (indexAddr (l:=y.c) aY Z Z Z Z Z Z (ε _) (bC hy) Z) Z ?_
  refine br (ev aY Z) Z<|br (ev aY Z) Z<|ao<|qs<|bc Z (fun O=>?_)<|fun O=>?_;·
   have U:x≠y:=by rintro rfl;simp at O
   have J:decide (a=b)=false:=decide_eq_false (fun q=>by have:=M.2 q;simp at this;exact U this.1);refine aZ 1 Z<|W.ret<|bw<|be<|cE<|bw<|be<|QF.bl trivial Z ?_;rw[J];rfl
  have U:x=y:=by
   have q:x.a=y.a∧x.ata=y.ata∧x.b=y.b∧x.lo=y.lo∧x.hi=y.hi:=by simpa using O
   cases x;cases y;simp_all
  have hn:a.drop (k+1)=b.drop (k+1)↔a=b:=by rw[<-M,U];simp
  refine ah<|bX<|qs<|cu 2 Z<|W.cg [] ⟨k+1,?_⟩ ?_ Z ?_ ⟨rfl,rfl,rfl,rfl,rfl,rfl,trivial⟩ ?_ trivial Z;·exact⟨X,hn⟩
  ·dsimp only;omega
  ·repeat' first|exact trivial|refine⟨bF (by assumption) (by assumption),?_⟩
  repeat' exact trivial
 have N:b.drop k=[]:=List.drop_eq_nil_of_le (by have:=congrArg List.length hd;simp at this;omega);rw[hd,N]at M;have J:decide (a=b)=true:=decide_eq_true (M.1 Z);refine ak<|bP<|bQ<|bO<|qs<|aZ 1 Z<|W.ret<|QF.bl trivial Z ?_;rw[J];rfl
theorem yI(a b:dM):bm Tryz.prog 17 [.ag a.c,.ag b.c] (.d (.v (.bool (oU a b)))) 0:=by
 refine bm.bW (n:=37) (ts:=[4]) Tryz.func17 (by kernel_rfl) Z Tryz.ntmps17 Tryz.results17 Z Z fun C hC I=>aa<|ab<|cz Z Z Z<|cz Z Z Z<|pE Z<|ae<|qs<|aa<|W.Bp aY 7 2 (by kernel_rfl) Z Z<|uB Z (ev aY Z) Z<|uB Z (ev aY Z) Z<|uB Z (ev aY Z) Z<|uB Z (ev aY Z) Z<|Bj 0 Z Z Z Z Z Z<|Bj 1 Z Z Z Z Z Z<|IX 4 0 Z Z Z Z Z Z Z Z Z Z Z Z<|aM<|bt aY Z Z Z Z Z Z Z Z<|ae<|qs<|aa ?_;apply bJ;(case hb=>rfl);·repeat' first|refine b7 Z Z Z|refine bE Z Z ?_|refine bD Z Z Z Z ?_|refine pE Z ?_|refine pu (bk Z Z Z (Ek a.ts b.ts) Z) Z ?_|refine pu (bk Z Z Z (EO a.ds b.ds) Z) Z ?_|refine pu (bk Z Z Z (Ef a.sn b.sn) Z) Z ?_|refine pu (bk Z Z Z (Dv 48 eD D1 a.ps b.ps) Z) Z ?_|refine ae ?_|(apply bU;(case hj=>rfl);(case hl=>rfl))
 refine qs (W.ret (QF.bl trivial Z ?_));simp only[norm,bM,oU];cases decide (a.ts=b.ts)<;>cases decide (a.ds=b.ds)<;>cases decide (a.sn=b.sn)<;>rfl
theorem qw(l:dM)(M:l.ps.length<=8)(N:(∀p∈l.ps,cD p=0)->total l.ps<=1000):bm Tryz.prog 12 [.ag l.c] (.d (ci (gv l))) 0:=by
 refine bm.bW (n:=22) (ts:=[2]) Tryz.func12 (by kernel_rfl) Z Tryz.ntmps12 Tryz.results12 Z Z fun C hC O=>aa<|ab<|cz Z Z Z<|pE Z<|ae<|qs<|aa<|ab<|bb 4 Z<|pu (bk Z Z Z (wG l.ts l.ds l.sn l.ps M N) Z) Z<|bb 3 Z<|b9 aY Z Z Z<|bt aY Z Z Z Z Z Z Z Z<|pE Z<|ae<|qs<|aa<|aa<|?_
 apply bJ;(case hb=>rfl);·
  refine bb 3 Z ?_;apply dP;(case hj=>rfl);(case hl=>rfl);·
   intro g15;refine bE Z Z<|bb 1 Z<|bE Z Z<|bb 1 Z<|bE Z Z<|pu (bk Z Z Z (yI (ez l.ts l.ds l.sn l.ps).1 l) Z) Z<|bE Z Z<|bb 2 Z<|ae<|b7 Z Z Z
  intro g15;refine bD Z Z Z Z<|bD Z Z Z Z<|bD Z Z Z Z<|bD Z Z Z Z<|pE Z<|ae<|b7 Z Z Z
 refine qs (bc Z (fun I=>?_) (fun I=>?_));·
  have J:gv l=10:=by
   unfold gv;by_cases q:(ez l.ts l.ds l.sn l.ps).2=0;·rw[if_pos ⟨q,by simpa[q]using I⟩]
   simp[q]at I
  refine aZ 1 Z<|W.ret<|be<|QF.bl trivial Z ?_;rw[J];rfl
 have J:gv l=(ez l.ts l.ds l.sn l.ps).2:=by unfold gv;rw[if_neg];rintro⟨q1,q2⟩;simp[q1,q2]at I
 refine ah<|qs<|aZ 2 Z<|W.ret<|QF.bl trivial Z ?_;rw[J];rfl
theorem si{l:dM}(h:gv l=0):∀p∈l.ps,cD p=0∧p.thread∈l.ts.map GT.id:=by
 unfold gv at h;split at h;·cases h
 unfold ez at h;split at h;·rename_i q;exact absurd h q
 split at h;·rename_i q;exact absurd h q
 rename_i q;exact lr (by simpa using q)
theorem zG(l:dM)(h8:l.ps.length<=8)(hF:(∀p∈l.ps,cD p=0)->total l.ps<=1000):bm Tryz.prog 13 [.ag l.c] (.d (.sl ((mE l).map C2))) 0:=by
 have hlen0:l.ps.length<=maxLen:=by simp only[maxLen];omega
 refine bm.bW (n:=34) (ts:=[2]) Tryz.func13 (by kernel_rfl) Z Tryz.ntmps13 Tryz.results13 Z Z fun C hC hG=>aa<|ab<|cz Z Z Z<|pE Z<|ae<|qs<|aa<|aa<|ab<|bb 1 Z<|pu (bk Z Z Z (qw l h8 hF) Z) Z<|pE Z<|ae<|qs<|bc Z (fun h8=>?_)<|fun h8=>?_
 ·
  have hg:mE l=[]:=by unfold mE;rw[if_pos (by simpa using h8)]
  refine aZ 1 Z ?_
  try refine sY (d:=2) rfl rfl ?_
  refine W.ret (be (QF.bl trivial Z ?_))
  rw[hg];rfl
 have hc:gv l=0:=by simpa using h8
 have hg:mE l=gD l.ps:=by unfold mE;rw[if_neg (by simp[hc])]
 have hpk:=si hc
 refine ah<|qs<|aZ 1 Z<|aa<|aZ 4 Z<|W.block<|sY (d:=3) Z Z<|W.len (t:=10) Z Z<|fun hlen=>?_
 try simp only[η,Ex.bG]at hlen
 refine W.ca (ι:={x:Nat×List (Int×Int×Int)//match x with|(k,acc)=>k<=l.ps.length∧acc=gD (l.ps.take k)∧acc.length<=k})
  (fun x=>match x.1 with|(k,acc)=>[(3,.own 0 (acc.map C2)),(12,.d (.v (.int .i64 ((k:Nat):Int))))]) [(10,_),(11,_)]
  (fun x=>match x.1 with|(k,acc)=>[]) [] [0] 1 (fun x=>match x.1 with|(k,acc)=>l.ps.length-k)
  [1] ⟨(0,[]),?_⟩ rfl ?_ ⟨rfl,rfl,rfl,rfl,trivial⟩ ?_ trivial rfl ?_
 ·exact⟨ς _,rfl,χ _⟩
 ·repeat' constructor
 ·repeat' exact trivial
 rintro⟨⟨k,acc⟩,hk,hA,hal⟩
 show W _ _ _ _ _ ⟨[(3,.own 0 (acc.map C2)),(12,.d (.v (.int .i64 ((k:Nat):Int)))),(10,_),(11,_)],[],[0],1⟩
 refine aZ 1 Z<|aa<|cr (l:=l.ps) (k:=k) Z (by simp[Ex.bG,bo]) hk (fun p hx hd hlt=>?_)<|fun he hd=>?_
 ·
  have htk:l.ps.take (k+1)=l.ps.take k++[p]:=by rw[Φ,hx];rfl
  obtain⟨hp0,_⟩:=hpk p (ζ hx)
  obtain⟨_,q2,q3,_⟩:=eG hp0
  have hsn:=CQ (l.ps.take k) p
  rw[<-htk,←hA]at hsn
  refine ah<|qs<|aa<|W.block<|aa<|ab<|pu (indexAddr (l:=p.c) aY Z Z Z Z Z Z (ε _) (bC hx) Z) Z<|bb 1 Z<|b9 aY Z Z Z<|bt aY Z Z Z Z Z Z Z Z<|ae<|qs<|aZ 3 Z<|bc Z (fun h18=>?_)<|fun h18=>?_
  ·
   have hl0:0<p.lost:=B' h18
   rw[if_pos hl0]at hsn
   refine ab<|bb 7 Z<|pu (cW (ev aY Z) (y:=p.serial-p.lost) (wrap64 (by omega))) Z<|bb 2 Z<|pu (build aY Z Z Z Z) Z<|pu (bZ aY Z Z Z Z Z Z Z Z Z) Z<|eT (fn:=C2) (l:=acc) (a:=(p.thread,p.serial-p.lost,p.lost)) aY Z Z Z Z Z Z Z Z Z Z (fun _=>rfl) (by show(acc.length+1)*24<=_;omega)<|pE Z<|ae<|bX<|qs<|cu 2 Z<|W.cg [2] ⟨(k+1,acc++[(p.thread,p.serial-p.lost,p.lost)]),?_⟩ ?_ Z ?_ ⟨rfl,rfl,rfl,rfl,trivial⟩ ?_ trivial Z
   ·exact⟨hlt,by rw[hsn],by first|(simp;omega)|omega⟩
   ·dsimp only;omega
   ·repeat' first|exact trivial|refine⟨rfl,?_⟩|refine⟨bF (by assumption) (by assumption),?_⟩
   repeat' exact trivial
  have hl0:¬0<p.lost:=O' h18
  rw[if_neg hl0]at hsn
  refine ah<|bX<|qs<|cu 2 Z<|W.cg [0] ⟨(k+1,acc),?_⟩ ?_ Z ?_ ⟨rfl,rfl,rfl,rfl,trivial⟩ ?_ trivial Z
  ·exact⟨hlt,by rw[hsn],by first|(simp;omega)|omega⟩
  ·dsimp only;omega
  ·repeat' first|exact trivial|refine⟨rfl,?_⟩|refine⟨bF (by assumption) (by assumption),?_⟩
  repeat' exact trivial
 have hm:acc=gD l.ps:=by rw[hA,P' (by omega)]
 subst hm
 refine ak (bP (bQ (bO (qs (aZ 2 Z ?_)))))
 try refine sY (d:=2) rfl rfl ?_
 refine W.ret (QF.bl trivial Z ?_)
 rw[hg];rfl
def qm(l:dM):Int:=if gv l≠0 then gv l else if 1<l.ds.length∨0<l.sn.length then 12 else 1
theorem Ca(l:dM)(U:l.ps.length<=8)(X:(∀p∈l.ps,cD p=0)->total l.ps<=1000)(O:gv l≠0∨(1<l.ds.length∨0<l.sn.length)∨gD l.ps≠[]):bm Tryz.prog 15 [.ag l.c] (.tup [.d (cs cn),.d (ci (qm l))]) 0:=by
 refine bm.bW (n:=97) (ts:=[2,3]) Tryz.func15 (by kernel_rfl) Z Tryz.ntmps15 Tryz.results15 Z Z fun C hC hG=>aa<|ab<|cz Z Z Z<|bb 2 Z<|ae<|qs<|aa<|aa<|ab<|bb 1 Z ?_
 refine pu (bk Z Z Z (qw l U X) Z) Z<|pE Z<|ae<|qs<|aZ 2 Z<|bc Z (fun M=>?_)<|fun M=>?_;·
  have N:qm l=gv l:=by unfold qm;rw[if_pos (by simpa using M)]
  refine aZ 3 Z<|W.ret<|be<|QF.bl trivial Z ?_;rw[N];rfl
 have h0:gv l=0:=by simpa using M
 refine ah<|qs<|aa<|aa<|?_
 apply bJ;(case hb=>rfl);·
  refine bb 6 Z ?_;apply dP;(case hj=>rfl);(case hl=>rfl);·
   intro g24;refine bD Z Z Z Z<|bD Z Z Z Z<|bD Z Z Z Z<|bD Z Z Z Z<|bD Z Z Z Z<|pE Z<|ae<|b7 Z Z Z
  intro g24;refine bE Z Z<|pE Z<|bE Z Z<|pE Z<|bE Z Z<|bb 1 Z<|bE Z Z<|pE Z<|bE Z Z<|bb 2 Z<|ae<|b7 Z Z Z
 refine qs (bc Z (fun I=>?_) (fun I=>?_));·
  have N:qm l=12:=by unfold qm;rw[if_neg (by simp[h0]),if_pos (by cases hs:l.sn<;>simp[hs]at I⊢<;>omega)]
  refine aZ 2 Z<|W.ret<|be<|QF.bl trivial Z ?_;rw[N];rfl
 have h1:¬(1<l.ds.length∨0<l.sn.length):=by simp at I;obtain⟨a,b⟩:=I;simp[b];omega
 refine ah<|qs<|aa<|aa<|ab<|bb 1 Z ?_
 refine pu (bk Z Z Z (zG l U X) Z) Z<|bb 2 Z<|ae<|qs<|bc Z (fun J=>?_)<|fun J=>?_;·
  have N:qm l=1:=by unfold qm;rw[if_neg (by simp[h0]),if_neg h1]
  refine aZ 2 Z<|W.ret<|be<|QF.bl trivial Z ?_;rw[N];rfl
 exfalso;have ad:mE l=gD l.ps:=by unfold mE;rw[if_neg (by simp[h0])]
 rw[ad]at J;rcases O with q|q|q
 ·exact q h0
 ·exact h1 q
 simp at J;exact q J
theorem Kf(b):(dN b).length<=2:=by unfold dN;split<;>(try split)<;>(try split)<;>simp
theorem pU:∀l:List UInt8,(l.flatMap dN).length<=2*l.length
 |[]=>by simp
 |b::l=>by have h1:=Kf b;have h2:=pU l;simp only[List.flatMap_cons,υ,Ξ];omega
theorem eb(t l):bg (t++bytesOf l)=bg t++l:=by simp[bg,bytesOf]
theorem Ct(h:(b.toNat:Int)=34∨(b.toNat:Int)=92)(t):t++B #[92]++bytesOf [b]=t++bytesOf (dN b):=by
 have e:b=34∨b=92:=by
  rcases h with h|h
  ·exact .inl (UInt8.toNat_inj.1 (by show b.toNat=34;omega))
  exact .inr (UInt8.toNat_inj.1 (by show b.toNat=92;omega))
 refine fb ?_;unfold dN;rw[if_pos e];simp[bg,bytesOf]
theorem JA(h:(b.toNat:Int)=10)(t):t++B #[92,110]=t++bytesOf (dN b):=by have e:b=10:=UInt8.toNat_inj.1 (by show b.toNat=10;omega);subst e;rfl
theorem Ka(h:(b.toNat:Int)=9)(t):t++B #[92,116]=t++bytesOf (dN b):=by have e:b=9:=UInt8.toNat_inj.1 (by show b.toNat=9;omega);subst e;rfl
theorem JM(h1:¬(b.toNat:Int)=34)(h2:¬(b.toNat:Int)=92)(h3:¬(b.toNat:Int)=10)(h4:¬(b.toNat:Int)=9):dN b=[b]:=by unfold dN;rw[if_neg (by rintro(rfl|rfl)<;>simp at h1 h2),if_neg (by rintro rfl;simp at h3),if_neg (by rintro rfl;simp at h4)]
theorem Ha{s:ByteArray}(h:(bg s)[k]?=some b):s.extract k (k+1)=bytesOf [b]:=by refine fb ?_;show bg _=bg _;rw[Go.Tb.tP,dU,Φ,h];have hl:k<(bg s).length:=(δ.1 h).1;rw[List.drop_append_of_le_length (by simp;omega),List.drop_eq_nil_of_le (by simp;omega)];rfl
theorem sx(s:ByteArray)(hs:s.size<=1000000000000):bm Tryz.prog 140 [.d (.v (.string s))] (.d (.v (.string (bytesOf (cI (bg s)))))) 0:=by
 refine bm.bW (n:=42) (ts:=[2]) Tryz.func140 (by kernel_rfl) Z Tryz.ntmps140 Tryz.results140 Z Z fun C hC hG=>aZ 1 Z<|aZ 1 Z<|aa<|aZ 1 Z<|W.block<|W.lj (t:=0) Z<|fun hok=>?_
 have hlen:=kb hok
 refine W.ca (ι:={x:Nat×ByteArray//match x with|(k,t)=>k<=(bg s).length∧bg t=34::((bg s).take k).flatMap dN})
  (fun x=>match x.1 with|(k,t)=>[(3,.d (.v (.string t))),(4,.d (.v (.int .i64 ((k:Nat):Int))))]) [(0,_)]
  (fun x=>match x.1 with|(k,t)=>[]) [] [] 0 (fun x=>match x.1 with|(k,t)=>(bg s).length-k)
  [] ⟨(0,B #[34]),?_⟩ rfl ?_ ⟨rfl,rfl,trivial⟩ ?_ trivial rfl ?_
 ·exact⟨ς _,by simp[bg]⟩
 ·repeat' constructor
 ·repeat' exact trivial
 rintro⟨⟨k,t⟩,hk,hI⟩
 show W _ _ _ _ _ ⟨[(3,.d (.v (.string t))),(4,.d (.v (.int .i64 ((k:Nat):Int)))),(0,_)],[],[],0⟩
 refine aa<|aZ 4 Z<|cr (l:=bg s) (k:=k) Z (by simp[Ex.bG,bo]) hk (fun b hx hd hlt=>?_)<|fun he hd=>?_
 ·
  have hN:bg (t++bytesOf (dN b))=34::((bg s).take (k+1)).flatMap dN:=by rw[eb,hI,Φ,hx];simp
  have hz:t.size<=2000000000001:=by
   rw[<-bo,hI]
   have:=pU ((bg s).take k)
   have:=bo s
   simp at*;omega
  have hk1:k+1<=s.size:=by rw[<-bo];omega
  refine ah<|qs<|aa<|W.block<|aa<|ab<|bb 2 Z<|pu (eJ aY Z Z Z Z (ε _) (gx (by assumption))) Z<|ae<|qs<|W.block<|aa<|aZ 2 Z<|bc Z (fun h21=>?_)<|fun h21=>?_
  ·
   refine ah<|qs<|W.gr Z<|ab<|pE Z<|pu (eY (p:=t) (q:=B #[92]) Z Z (by rw[show(B #[92]).size=1 from rfl];omega)) Z<|bb 3 Z<|pu (cW (ev aY Z) (y:=((k+1:Nat):Int)) (wrap64 (by omega))) Z<|pu (jm (je (l:=(k:Int)) (h:=((k+1:Nat):Int)) aY Z Z Z Z Z (by omega) (by omega) (by omega)) (Ha hx)) Z<|pu (jm (eY (p:=t++B #[92]) (q:=bytesOf [b]) Z Z (by rw[rl,show(B #[92]).size=1 from rfl,show(bytesOf [b]).size=1 from rfl];omega)) (Ct (b:=b) (by simp_all) t)) Z<|pE Z<|ae<|bX<|bX<|qs<|cu 3 Z<|W.cg [] ⟨(k+1,t++bytesOf (dN b)),?_⟩ ?_ Z ?_ ⟨rfl,rfl,trivial⟩ ?_ trivial Z
   ·exact⟨hlt,hN⟩
   ·dsimp only;omega
   ·repeat' first|exact trivial|refine⟨rfl,?_⟩|refine⟨bF (by assumption) (by assumption),?_⟩
   repeat' exact trivial
  refine cu 2 Z<|qs<|bc Z (fun h21=>?_)<|fun h21=>?_
  ·
   refine ab<|pE Z<|pu (eY (p:=t) (q:=B #[92]) Z Z (by rw[show(B #[92]).size=1 from rfl];omega)) Z<|bb 3 Z<|pu (cW (ev aY Z) (y:=((k+1:Nat):Int)) (wrap64 (by omega))) Z<|pu (jm (je (l:=(k:Int)) (h:=((k+1:Nat):Int)) aY Z Z Z Z Z (by omega) (by omega) (by omega)) (Ha hx)) Z<|pu (jm (eY (p:=t++B #[92]) (q:=bytesOf [b]) Z Z (by rw[rl,show(B #[92]).size=1 from rfl,show(bytesOf [b]).size=1 from rfl];omega)) (Ct (b:=b) (by simp_all) t)) Z<|pE Z<|ae<|bX<|bX<|qs<|cu 3 Z<|W.cg [] ⟨(k+1,t++bytesOf (dN b)),?_⟩ ?_ Z ?_ ⟨rfl,rfl,trivial⟩ ?_ trivial Z
   ·exact⟨hlt,hN⟩
   ·dsimp only;omega
   ·repeat' first|exact trivial|refine⟨rfl,?_⟩|refine⟨bF (by assumption) (by assumption),?_⟩
   repeat' exact trivial
  refine aZ 2 Z<|bc Z (fun h32=>?_)<|fun h32=>?_
  ·
   refine ab<|pE Z<|pu (jm (eY (p:=t) (q:=B #[92,110]) Z Z (by rw[show(B #[92,110]).size=2 from rfl];omega)) (JA (b:=b) (by simp_all) t)) Z<|pE Z<|ae<|bX<|bX<|qs<|cu 3 Z<|W.cg [] ⟨(k+1,t++bytesOf (dN b)),?_⟩ ?_ Z ?_ ⟨rfl,rfl,trivial⟩ ?_ trivial Z
   ·exact⟨hlt,hN⟩
   ·dsimp only;omega
   ·repeat' first|exact trivial|refine⟨rfl,?_⟩|refine⟨bF (by assumption) (by assumption),?_⟩
   repeat' exact trivial
  refine aZ 2 Z<|bc Z (fun h36=>?_)<|fun h36=>?_
  ·
   refine ab<|pE Z<|pu (jm (eY (p:=t) (q:=B #[92,116]) Z Z (by rw[show(B #[92,116]).size=2 from rfl];omega)) (Ka (b:=b) (by simp_all) t)) Z<|pE Z<|ae<|bX<|bX<|qs<|cu 3 Z<|W.cg [] ⟨(k+1,t++bytesOf (dN b)),?_⟩ ?_ Z ?_ ⟨rfl,rfl,trivial⟩ ?_ trivial Z
   ·exact⟨hlt,hN⟩
   ·dsimp only;omega
   ·repeat' first|exact trivial|refine⟨rfl,?_⟩|refine⟨bF (by assumption) (by assumption),?_⟩
   repeat' exact trivial
  refine ab<|bb 4 Z<|pu (cW (ev aY Z) (y:=((k+1:Nat):Int)) (wrap64 (by omega))) Z<|pu (jm (je (l:=(k:Int)) (h:=((k+1:Nat):Int)) aY Z Z Z Z Z (by omega) (by omega) (by omega)) (Ha hx)) Z<|pu (jm (eY (p:=t) (q:=bytesOf [b]) Z Z (by rw[show(bytesOf [b]).size=1 from rfl];omega)) (congrArg (fun l=>t++bytesOf l) (JM (b:=b) (by simp_all) (by simp_all) (by simp_all) (by simp_all)).symm)) Z<|pE Z<|ae<|bX<|bX<|qs<|cu 3 Z<|W.cg [] ⟨(k+1,t++bytesOf (dN b)),?_⟩ ?_ Z ?_ ⟨rfl,rfl,trivial⟩ ?_ trivial Z
  ·exact⟨hlt,hN⟩
  ·dsimp only;omega
  ·repeat' first|exact trivial|refine⟨rfl,?_⟩|refine⟨bF (by assumption) (by assumption),?_⟩
  repeat' exact trivial
 have hz:t.size<=2000000000001:=by
  rw[<-bo,hI]
  have:=pU ((bg s).take k)
  have:=bo s
  simp at*;omega
 have hfin:t++B #[34]=bytesOf (cI (bg s)):=by
  refine fb ?_
  show bg _=bg _
  rw[dU]
  have e:k=(bg s).length:=by have:=congrArg List.length hd;simp at this;omega
  unfold cI
  rw[show bg (t++B #[34])=bg t++[34] by simp[bg],hI,e,List.take_length]
  rfl
 refine ak<|bP<|bQ<|bO<|qs<|aa<|ab<|pE Z<|pu (jm (eY (p:=t) (q:=B #[34]) Z Z (by rw[show(B #[34]).size=1 from rfl];omega)) hfin) Z<|pE Z<|ae<|qs<|W.ret<|QF.bl trivial Z ?_
 rfl
theorem gJ(b:UInt8):(bytesOf [b]).size=1∧∀x,(bytesOf [b]).data[0]?=some x->(x.toNat:Int)=(b.toNat:Int):=⟨rfl,by intro x I;cases I;rfl⟩
theorem lA(t a b):t++bytesOf a++bytesOf b=t++bytesOf (a++b):=by refine fb ?_;show bg _=bg _;rw[eb,eb,eb,M']
theorem eu(t:ByteArray)(a:List UInt8):(t++bytesOf a).size=t.size+a.length:=by rw[rl];rfl
theorem fW{u}{s m r:ByteArray}{c:Int}(e:s++m=r)(hm:m.size=1)(I:∀b,m.data[0]?=some b->(b.toNat:Int)=c)(hb:s.size+1<=140737488355328):cU Tryz.prog 139 [.ptr 0 0,.d (.v (.int .u8 c))] [[.np 0 tB u,.bf 1 tU s]] 1 (.d (.v .nilIface)) [[.np 0 tB true,.bf 1 tU r]] 1:=e▸rk u s c m hm I hb
theorem mM{u}{s x r:ByteArray}(e:s++x=r)(hb:s.size+x.size<=140737488355328):cU Tryz.prog 137 [.ptr 0 0,.d (.v (.string x))] [[.np 0 tB u,.bf 1 tU s]] 1 (.tup [.d (.v (.int .i64 x.size)),.d (.v .nilIface)]) [[.np 0 tB true,.bf 1 tU r]] 1:=e▸EL u s x hb
theorem F3(u)(t s:ByteArray)(hz:t.size+2*s.size+2<=140737488355328):cU Tryz.prog 138 [.ptr 0 0,.d (.v (.string s))] [[.np 0 tB u,.bf 1 tU t]] 1 (.tup []) [[.np 0 tB true,.bf 1 tU (t++bytesOf (cI (bg s)))]] 1:=by
 refine cU.dY aY (n:=39) (rs:=[]) Tryz.func138 (by kernel_rfl) Z Tryz.ntmps138 Tryz.results138 Z Z fun C hC hG=>aa<|ab<|pE Z<|bT [0] [1] Z Z Z Z Z ((rk u t 34 (bytesOf [34]) Z (gJ 34).2 (by omega))) Z Z (by rfl) (by rfl) Z Z Z Z<|ae<|qs<|aa<|aZ 3 Z<|W.block<|W.lj (t:=1) Z<|fun hok=>?_
 have hlen:=kb hok
 refine W.ca (ι:={x:Nat×ByteArray//match x with|(k,T)=>k<=(bg s).length∧T=t++bytesOf (34::((bg s).take k).flatMap dN)})
  (fun x=>match x.1 with|(k,T)=>[(0,.ptr 0 0),(10,.d (.v (.int .i64 ((k:Nat):Int))))]) [(1,_),(9,_)]
  (fun x=>match x.1 with|(k,T)=>[(0,[.np 0 tB true,.bf 1 tU T])]) [] [1] 2 (fun x=>match x.1 with|(k,T)=>(bg s).length-k)
  [0,3] ⟨(0,t++bytesOf [34]),?_⟩ rfl ?_ ⟨rfl,rfl,rfl,rfl,trivial⟩ ?_ trivial rfl ?_
 ·exact⟨ς _,by simp⟩
 ·repeat' constructor
 ·repeat' constructor
 rintro⟨⟨k,T⟩,hk,hI⟩
 show W _ _ _ _ _ ⟨[(0,.ptr 0 0),(10,.d (.v (.int .i64 ((k:Nat):Int)))),(1,_),(9,_)],[(0,[.np 0 tB true,.bf 1 tU T])],[1],2⟩
 refine aZ 1 Z<|aa<|cr (l:=bg s) (k:=k) Z (by simp[Ex.bG,bo]) hk (fun b hx hd hlt=>?_)<|fun he hd=>?_
 ·
  have hTs:T.size<=t.size+1+2*k:=by
   rw[hI,eu]
   have:=pU ((bg s).take k)
   simp at*;omega
  have hk1:k+1<=s.size:=by rw[<-bo];omega
  have hN:T++bytesOf (dN b)=t++bytesOf (34::((bg s).take (k+1)).flatMap dN):=by rw[hI,lA,Φ,hx];simp
  refine ah<|qs<|aa<|W.block<|aZ 2 Z<|aa<|ab<|bb 2 Z<|pu (eJ aY Z Z Z Z (ε _) (gx (by assumption))) Z<|pE Z<|ae<|qs<|aZ 1 Z<|W.block<|aa<|aZ 2 Z<|bc Z (fun h20=>?_)<|fun h20=>?_
  ·
   refine ah<|qs<|W.gr Z<|aa<|ab<|pE Z<|bT [0] [1] Z Z Z Z Z ((rk true T 92 (bytesOf [92]) Z (gJ 92).2 (by omega))) Z Z (by rfl) (by rfl) Z Z Z Z<|ae<|qs<|ab<|bb 2 Z<|bT [0] [3] Z Z Z Z Z ((fW (c:=b.toNat) (s:=T++bytesOf [92]) (m:=bytesOf [b]) (Ct (b:=b) (by simp_all) T) Z (gJ b).2 (by rw[eu];simp;omega))) Z Z (by rfl) (by rfl) Z Z Z Z<|ae<|bX<|bX<|qs<|cu 2 Z<|W.cg [0,5] ⟨(k+1,T++bytesOf (dN b)),?_⟩ ?_ Z ?_ ⟨rfl,rfl,rfl,rfl,trivial⟩ ?_ trivial Z
   ·exact⟨hlt,hN⟩
   ·dsimp only;omega
   ·repeat' first|exact trivial|refine⟨rfl,?_⟩|refine⟨bF (by assumption) (by assumption),?_⟩
   repeat' constructor
  refine cu 2 Z<|qs<|bc Z (fun h20=>?_)<|fun h20=>?_
  ·
   refine aa<|ab<|pE Z<|bT [0] [1] Z Z Z Z Z ((rk true T 92 (bytesOf [92]) Z (gJ 92).2 (by omega))) Z Z (by rfl) (by rfl) Z Z Z Z<|ae<|qs<|ab<|bb 2 Z<|bT [0] [3] Z Z Z Z Z ((fW (c:=b.toNat) (s:=T++bytesOf [92]) (m:=bytesOf [b]) (Ct (b:=b) (by simp_all) T) Z (gJ b).2 (by rw[eu];simp;omega))) Z Z (by rfl) (by rfl) Z Z Z Z<|ae<|bX<|bX<|qs<|cu 2 Z<|W.cg [0,5] ⟨(k+1,T++bytesOf (dN b)),?_⟩ ?_ Z ?_ ⟨rfl,rfl,rfl,rfl,trivial⟩ ?_ trivial Z
   ·exact⟨hlt,hN⟩
   ·dsimp only;omega
   ·repeat' first|exact trivial|refine⟨rfl,?_⟩|refine⟨bF (by assumption) (by assumption),?_⟩
   repeat' constructor
  refine aZ 2 Z<|bc Z (fun h28=>?_)<|fun h28=>?_
  ·
   refine ab<|pE Z<|bT [0] [1] Z Z Z Z Z ((mM (s:=T) (x:=bytesOf [92,110]) (JA (b:=b) (by simp_all) T) (by rw[show(bytesOf [92,110]).size=2 from rfl];omega))) Z Z (by rfl) (by rfl) Z Z Z Z<|ae<|bX<|bX<|qs<|cu 2 Z<|W.cg [0,3] ⟨(k+1,T++bytesOf (dN b)),?_⟩ ?_ Z ?_ ⟨rfl,rfl,rfl,rfl,trivial⟩ ?_ trivial Z
   ·exact⟨hlt,hN⟩
   ·dsimp only;omega
   ·repeat' first|exact trivial|refine⟨rfl,?_⟩|refine⟨bF (by assumption) (by assumption),?_⟩
   repeat' constructor
  refine aZ 2 Z<|bc Z (fun h32=>?_)<|fun h32=>?_
  ·
   refine ab<|pE Z<|bT [0] [1] Z Z Z Z Z ((mM (s:=T) (x:=bytesOf [92,116]) (Ka (b:=b) (by simp_all) T) (by rw[show(bytesOf [92,116]).size=2 from rfl];omega))) Z Z (by rfl) (by rfl) Z Z Z Z<|ae<|bX<|bX<|qs<|cu 2 Z<|W.cg [0,3] ⟨(k+1,T++bytesOf (dN b)),?_⟩ ?_ Z ?_ ⟨rfl,rfl,rfl,rfl,trivial⟩ ?_ trivial Z
   ·exact⟨hlt,hN⟩
   ·dsimp only;omega
   ·repeat' first|exact trivial|refine⟨rfl,?_⟩|refine⟨bF (by assumption) (by assumption),?_⟩
   repeat' constructor
  refine ab<|bb 2 Z<|bT [0] [1] Z Z Z Z Z ((fW (c:=b.toNat) (s:=T) (m:=bytesOf [b]) (congrArg (fun l=>T++bytesOf l) (JM (b:=b) (by simp_all) (by simp_all) (by simp_all) (by simp_all)).symm) Z (gJ b).2 (by omega))) Z Z (by rfl) (by rfl) Z Z Z Z<|ae<|bX<|bX<|qs<|cu 2 Z<|W.cg [0,3] ⟨(k+1,T++bytesOf (dN b)),?_⟩ ?_ Z ?_ ⟨rfl,rfl,rfl,rfl,trivial⟩ ?_ trivial Z
  ·exact⟨hlt,hN⟩
  ·dsimp only;omega
  ·repeat' first|exact trivial|refine⟨rfl,?_⟩|refine⟨bF (by assumption) (by assumption),?_⟩
  repeat' constructor
 have e:k=(bg s).length:=by have:=congrArg List.length hd;simp at this;omega
 have hTs:T.size<=t.size+1+2*k:=by
  rw[hI,eu]
  have:=pU ((bg s).take k)
  simp at*;omega
 have hk1:k=s.size:=by rw[<-bo];omega
 have hfin:T++bytesOf [34]=t++bytesOf (cI (bg s)):=by rw[hI,lA,e,List.take_length];rfl
 refine ak<|bP<|bQ<|bO<|qs<|ab<|pE Z<|bT [0] [1] Z Z Z Z Z ((fW (c:=34) (s:=T) (m:=bytesOf [34]) hfin Z (gJ 34).2 (by omega))) Z Z (by rfl) (by rfl) Z Z Z Z<|ae<|an aY [3] trivial Z Z Z Z ?_ ?_
 ·exact⟨rfl,trivial⟩
 rfl
theorem Em:∀l:List UInt8,l.length<=(l.flatMap dN).length
 |[]=>by simp
 |b::l=>by
  have h1:1<=(dN b).length:=by unfold dN;split<;>(try split)<;>(try split)<;>simp
  have h2:=Em l;simp only[List.flatMap_cons,υ,Ξ];omega
theorem ot(s:ByteArray):s.size+2<=(cI (bg s)).length:=by have h:=Em (bg s);rw[bo]at h;simp only[cI,Ξ,υ,List.length_nil];omega
theorem v7:∀(l:List JV)(z:JV)(first:Bool),dI (l++[z]) first=dI l first++(if first&&l.isEmpty then[]else[44])++bp z
 |[],z,first=>by cases first<;>simp[dI]
 |a::l,z,first=>by rw[List.cons_append,dI,dI,v7 l z false];simp
theorem sf:∀(ks:List ByteArray)(l:List JV)(s:ByteArray)(z:JV)(first:Bool),ks.length=l.length->cv (ks++[s]) (l++[z]) first=cv ks l first++(if first&&l.isEmpty then[]else[44])++cI (bg s)++[58]++bp z
 |[],[],s,z,first,_=>by cases first<;>simp[cv]
 |a::ks,b::l,s,z,first,h=>by rw[List.cons_append,List.cons_append,cv,cv,sf ks l s z false (by simpa using h)];simp
 |[],_::_,_,_,_,h=>by simp at h
 |_::_,[],_,_,_,h=>by simp at h
def fB(j:JV)(k:Nat):List UInt8:=if j.op=6 then cv (j.keys.take k) (j.kids.take k) true else dI (j.kids.take k) true
def jX(j:JV):UInt8:=if j.op=6 then 123 else 91
def p9(j:JV):UInt8:=if j.op=6 then 125 else 93
def cA(k:Nat):List UInt8:=if k=0 then[]else[44]
def eB(j:JV)(k:Nat):List UInt8:=if j.op=6 then cI (bg (j.keys.getD k (B #[])))++[58]else[]
theorem po(j:JV):fB j 0=[]:=by unfold fB;split<;>simp[cv,dI]
theorem Fx{l:List JV}(h:k<l.length):(l.take k).isEmpty=decide (k=0):=by
 rw[Bool.eq_iff_iff];simp only[List.isEmpty_iff,Δ,List.take_eq_nil_iff];constructor;·
  rintro(h1|h1);·exact h1
  rw[h1]at h;simp at h
 exact fun h1=>.inl h1
theorem k9{z:JV}(I:j.kids[k]?=some z)(hl:j.op=6->j.keys.length=j.kids.length):fB j (k+1)=fB j k++cA k++eB j k++bp z:=by
 have M:k<j.kids.length:=(δ.1 I).1;have hs:(if(true&&(j.kids.take k).isEmpty)=true then[]else[44])=cA k:=by rw[Fx M];unfold cA;by_cases q:k=0<;>simp[q]
 unfold fB eB;by_cases ho:j.op=6;·
  have hl:=hl ho;have J:j.keys[k]?=some (j.keys.getD k (B #[])):=by rw[List.getD_eq_getElem?_getD,List.getElem?_eq_getElem (by omega)];rfl
  simp only[if_pos ho];rw[Φ,J,Φ,I];show cv (_++[_]) (_++[_]) true=_;rw[sf _ _ _ _ _ (by simp;omega),hs];simp only[M']
 simp only[if_neg ho];rw[Φ,I];show dI (_++[_]) true=_;rw[v7,hs];simp only[M',List.nil_append]
theorem Eo:∀{j:JV},j.op=6->bp j=123::(cv j.keys j.kids true++[125])
 |.mk op n s keys kids,h=>by have h:op=6:=h;subst h;rw[bp];rfl
theorem D7:∀{j:JV},j.op≠1->j.op≠2->j.op≠3->j.op≠4->j.op≠6->bp j=91::(dI j.kids true++[93])
 |.mk op n s keys kids,h1,h2,h3,h4,I=>by rw[bp,if_neg (show ¬op=1 from h1),if_neg (show ¬op=2 from h2),if_neg (show ¬op=3 from h3),if_neg (show ¬op=4 from h4),if_neg (show ¬op=6 from I)];rfl
theorem nL(h1:j.op≠1)(h2:j.op≠2)(h3:j.op≠3)(h4:j.op≠4)(hl:j.op=6->j.keys.length=j.kids.length):bp j=jX j::(fB j j.kids.length++[p9 j]):=by
 unfold jX fB p9;by_cases ho:j.op=6;·rw[Eo ho,if_pos ho,if_pos ho,if_pos ho,List.take_length,←hl ho,List.take_length]
 rw[D7 h1 h2 h3 h4 ho,if_neg ho,if_neg ho,if_neg ho,List.take_length]
theorem xf(hl:j.op=6->j.keys.length=j.kids.length):∀(d k:Nat),k+d=j.kids.length->(fB j k).length<=(fB j j.kids.length).length
 |0,k,h=>by rw[<-h];simp
 |d+1,k,h=>by
  have I:k<j.kids.length:=by omega
  have h1:=k9 (j:=j) (k:=k) (z:=j.kids[k]) (by simp[I]) hl;have h2:=xf hl d (k+1) (by omega);rw[h1]at h2;simp only[υ]at h2;omega
theorem Lc{lv:Int}(h:b8 j lv=0):(1<=j.op∧j.op<=6)∧(j.op=2->j.n=0∨j.n=1)∧(j.op=3->eK j.n=true)∧(j.op=6->j.keys.length=j.kids.length)∧(∀z∈j.kids,b8 z (lv+1)=0):=by
 rw[gI]at h;have h0:dH j lv=0:=by
  by_cases q:dH j lv=0;·exact q
  rw[if_pos q]at h;exact h
 rw[if_neg (by simp[h0])]at h;obtain⟨I,M,_⟩:=jh h0;have N:∀l:List JV,dn l (lv+1)=0->∀z∈l,b8 z (lv+1)=0:=by
  intro l
  induction l with
  |nil=>intro _ z J;cases J
  |cons a l O=>
   intro U z J;obtain⟨h1,h2⟩:=jf U;rcases N'.1 J with rfl|J
   ·exact h1
   exact O h2 z J
 refine⟨?_,?_,?_,?_,N _ h⟩;·
  unfold dJ at I;by_cases e1:j.op=1;·omega
  rw[if_neg e1]at I;by_cases e2:j.op=2∨j.op=3;·omega
  rw[if_neg e2]at I;by_cases e4:j.op=4;·omega
  rw[if_neg e4]at I;by_cases e5:j.op=5;·omega
  rw[if_neg e5]at I;by_cases e6:j.op=6;·omega
  rw[if_neg e6]at I;cases I
 ·
  intro e;by_cases q0:j.n=0;·exact .inl q0
  by_cases q1:j.n=1;·exact .inr q1
  exact absurd (.inl ⟨e,q0,q1⟩) M
 ·
  intro e
  cases hi:eK j.n with
  |true=>rfl
  |false=>exact absurd (.inr ⟨e,hi⟩) M
 intro e;unfold dJ at I;rw[if_neg (by omega),if_neg (by omega),if_neg (by omega),if_neg (by omega),if_pos e]at I;simp only[μ,Δ]at I;exact I.2.2
theorem EP:∀{j:JV},j.op=1->bp j=qn
 |.mk op n s keys kids,h=>by have h:op=1:=h;subst h;rw[bp];rfl
theorem z8:∀{j:JV},j.op=2->bp j=if j.n=1 then mx else kK
 |.mk op n s keys kids,h=>by have h:op=2:=h;subst h;rw[bp];rfl
theorem DN:∀{j:JV},j.op=3->bp j=bg (eg j.n)
 |.mk op n s keys kids,h=>by have h:op=3:=h;subst h;rw[bp];rfl
theorem vB:∀{j:JV},j.op=4->bp j=cI (bg j.s)
 |.mk op n s keys kids,h=>by have h:op=4:=h;subst h;rw[bp];rfl
theorem DW{n:Int}(h:eK n=true):-9223372036854775808<=n∧n<=9223372036854775807:=by unfold eK at h;simp only[μ,Δ]at h;omega
theorem D3(I:j.op=6)(hl:j.keys.length=j.kids.length)(J:k<j.kids.length):∃s,j.keys[k]?=some s∧eB j k=cI (bg s)++[58]:=by refine⟨j.keys[k],by rw[List.getElem?_eq_getElem],?_⟩;unfold eB;rw[if_pos I,List.getD_eq_getElem?_getD,List.getElem?_eq_getElem (by omega)];rfl
theorem oS{z:JV}(I:j.kids[k]?=some z)(hl:j.op=6->j.keys.length=j.kids.length):(fB j k).length+(cA k).length+(eB j k).length+(bp z).length<=(fB j j.kids.length).length:=by have J:k<j.kids.length:=(δ.1 I).1;have h:=xf hl (j.kids.length-(k+1)) (k+1) (by omega);rw[k9 I hl]at h;simp only[υ]at h;omega
theorem Cm(j:JV)(ih:∀z∈j.kids,(bp z).length<=1000000000000->bm Tryz.prog 92 [.ag z.c] (.d (.v (.string (bytesOf (bp z))))) 0)(hop:1<=j.op∧j.op<=6)(hnum:j.op=3->eK j.n=true)(hlen6:j.op=6->j.keys.length=j.kids.length)(hz:(bp j).length<=1000000000000)(ho:j.op=6):
  bm Tryz.prog 92 [.ag j.c] (.d (.v (.string (bytesOf (bp j))))) 0:=by
 have hzs:j.op=4->j.s.size<=1000000000000:=by intro e;have:=ot j.s;rw[vB e]at hz;omega
 have hO:jX j=123:=if_pos ho
 have hC':p9 j=125:=if_pos ho
 rw[e7 j]
 refine bm.bW (n:=64) (ts:=[2]) Tryz.func92 (by kernel_rfl) Z Tryz.ntmps92 Tryz.results92 Z Z fun C hC hG=>aa<|ab<|cz Z Z Z<|pE Z<|ae<|qs<|aa<|aZ 2 Z<|W.block<|aZ 2 Z<|bc Z (fun h9=>?_)<|fun h9=>?_
 ·
  exfalso;simp at h9;omega
 refine aZ 2 Z<|bc Z (fun h11=>?_)<|fun h11=>?_
 ·
  exfalso;simp at h11;omega
 refine aZ 2 Z<|bc Z (fun h16=>?_)<|fun h16=>?_
 ·
  exfalso;simp at h16;omega
 refine aZ 2 Z<|bc Z (fun h21=>?_)<|fun h21=>?_
 ·
  exfalso;simp at h21;omega
 have hg:=nL (j:=j) (by omega) (by omega) (by omega) (by omega) hlen6
 refine ah<|bX<|qs<|aZ 2 Z<|aa<|aZ 3 Z<|bc Z (fun h28=>?_)<|fun h28=>?_
 ·
  refine cu 2 Z<|qs<|aZ 2 Z<|aa<|aZ 1 Z<|W.block<|pQ (g:=0) (j:=4) Z Z<|fun hlen=>?_
  rw[η]at hlen
  refine W.ca (ι:={x:Nat×ByteArray//match x with|(k,t)=>k<=j.kids.length∧t=bytesOf (jX j::fB j k)})
   (fun x=>match x.1 with|(k,t)=>[(1,.ptr 0 0),(4,.d (.v (.string (B #[125])))),(5,.d (.v (.string t))),(6,.d (.v (.int .i64 ((k:Nat):Int))))]) []
   (fun x=>match x.1 with|(k,t)=>[(0,[.d (ci j.op),.d (ci j.n),.d (cs j.s),.d (.sl (j.keys.map sc)),.d (.sl (j.kids.map JV.c))])]) [] [] 1 (fun x=>match x.1 with|(k,t)=>j.kids.length-k)
   [0] ⟨(0,B #[123]),?_⟩ rfl ?_ trivial ?_ trivial rfl ?_
  ·exact⟨ς _,by rw[po,hO];rfl⟩
  ·repeat' constructor
  ·repeat' constructor
  rintro⟨⟨k,t⟩,hk,hI⟩
  show W _ _ _ _ _ ⟨[(1,.ptr 0 0),(4,.d (.v (.string (B #[125])))),(5,.d (.v (.string t))),(6,.d (.v (.int .i64 ((k:Nat):Int))))],[(0,[.d (ci j.op),.d (ci j.n),.d (cs j.s),.d (.sl (j.keys.map sc)),.d (.sl (j.kids.map JV.c))])],[],1⟩
  refine aa<|aZ 5 Z<|cr (l:=j.kids) (k:=k) Z (by simp[Ex.bG,bo]) hk (fun z hx hd hlt=>?_)<|fun he hd=>?_
  ·
   have hp:=oS hx hlen6
   have hst:=k9 hx hlen6
   have hkl:k<j.kids.length:=hlt
   rw[hg]at hz
   simp only[Ξ,υ,List.length_nil]at hz
   have hts:t.size=(fB j k).length+1:=by rw[hI];rfl
   have hxc:=ih z (ζ hx) (by omega)
   have hN:t++bytesOf (cA k)++bytesOf (eB j k)++bytesOf (bp z)=bytesOf (jX j::fB j (k+1)):=by
    refine fb ?_
    show bg _=bg _
    rw[eb,eb,eb,hst,dU,hI,dU];simp only[M',List.cons_append]
   obtain⟨s,hks,hkq⟩:=D3 ho (hlen6 ho) hkl
   have hkl2:(eB j k).length=(cI (bg s)).length+1:=by rw[hkq];simp
   have hsz:s.size<=1000000000000:=by have:=ot s;omega
   have hs1:(t++bytesOf (cA k)).size+(bytesOf (cI (bg s))).size<=9223372036854775807:=by rw[eu,show(bytesOf (cI (bg s))).size=(cI (bg s)).length from rfl];omega
   have hs1':t.size+(bytesOf (cI (bg s))).size<=9223372036854775807:=by rw[show(bytesOf (cI (bg s))).size=(cI (bg s)).length from rfl];omega
   have hs2:(t++bytesOf (cA k)++bytesOf (cI (bg s))).size+(B #[58]).size<=9223372036854775807:=by rw[eu,eu,show(B #[58]).size=1 from rfl];omega
   have hs3:(t++bytesOf (cA k)++bytesOf (eB j k)).size+(bytesOf (bp z)).size<=9223372036854775807:=by rw[eu,eu,show(bytesOf (bp z)).size=(bp z).length from rfl];omega
   refine ah<|qs<|aa<|W.block<|aa<|aZ 2 Z<|bc Z (fun h38=>?_)<|fun h38=>?_
   ·
    have hs4:bytesOf (cA k)=B #[44]:=by unfold cA;rw[if_neg (by simp at h38;omega)];rfl
    refine ab<|pE Z<|pu (jm (eY (p:=t) (q:=B #[44]) Z Z (by rw[show(B #[44]).size=1 from rfl];omega)) (show _=t++bytesOf (cA k)from by rw[hs4])) Z<|pE Z<|ae<|qs<|aa<|aZ 3 Z<|bc Z (fun h43=>?_)<|fun h43=>?_
    ·
     refine ab<|bb 4 Z<|pu (indexAddr (l:=sc s) aY Z Z Z Z Z Z (ε _) (bC hks) Z) Z<|bb 1 Z<|pu (bk Z Z Z (sx s hsz) Z) Z<|pu (jm (eY Z Z (by first|exact hs1|exact hs1')) (show _=t++bytesOf (cA k)++bytesOf (cI (bg s))from by first|rfl|rw[hs])) Z<|pu (jm (eY (p:=t++bytesOf (cA k)++bytesOf (cI (bg s))) (q:=B #[58]) Z Z hs2) (show _=t++bytesOf (cA k)++bytesOf (eB j k)from by rw[hkq,←lA];rfl)) Z<|pE Z<|ae<|qs<|ab<|bb 4 Z<|pu (indexAddr (l:=z.c) aY Z Z Z Z Z Z (ε _) (bC hx) Z) Z<|bb 1 Z<|pu (bk Z Z Z hxc Z) Z<|pu (eY (p:=t++bytesOf (cA k)++bytesOf (eB j k)) (q:=bytesOf (bp z)) Z Z hs3) Z ?_
     refine pE Z<|ae<|bX<|qs<|cu 3 Z<|W.cg [0] ⟨(k+1,t++bytesOf (cA k)++bytesOf (eB j k)++bytesOf (bp z)),?_⟩ ?_ Z ?_ trivial ?_ trivial Z
     ·exact⟨hlt,by rw[<-hN]⟩
     ·dsimp only;omega
     ·repeat' first|exact trivial|refine⟨rfl,?_⟩|refine⟨bF (by assumption) (by assumption),?_⟩
     repeat' constructor
    exfalso;simp at h43;omega
   have hs:t++bytesOf (cA k)=t:=by
    unfold cA;rw[if_pos (by simp at h38;omega)]
    exact fb (by show bg _=bg _;rw[eb];simp)
   refine ah<|qs<|aa<|aZ 3 Z<|bc Z (fun h43=>?_)<|fun h43=>?_
   ·
    refine ab<|bb 4 Z<|pu (indexAddr (l:=sc s) aY Z Z Z Z Z Z (ε _) (bC hks) Z) Z<|bb 1 Z<|pu (bk Z Z Z (sx s hsz) Z) Z<|pu (jm (eY Z Z (by first|exact hs1|exact hs1')) (show _=t++bytesOf (cA k)++bytesOf (cI (bg s))from by first|rfl|rw[hs])) Z<|pu (jm (eY (p:=t++bytesOf (cA k)++bytesOf (cI (bg s))) (q:=B #[58]) Z Z hs2) (show _=t++bytesOf (cA k)++bytesOf (eB j k)from by rw[hkq,←lA];rfl)) Z<|pE Z<|ae<|qs<|ab<|bb 4 Z<|pu (indexAddr (l:=z.c) aY Z Z Z Z Z Z (ε _) (bC hx) Z) Z<|bb 1 Z<|pu (bk Z Z Z hxc Z) Z<|pu (eY (p:=t++bytesOf (cA k)++bytesOf (eB j k)) (q:=bytesOf (bp z)) Z Z hs3) Z ?_
    refine pE Z<|ae<|bX<|qs<|cu 3 Z<|W.cg [0] ⟨(k+1,t++bytesOf (cA k)++bytesOf (eB j k)++bytesOf (bp z)),?_⟩ ?_ Z ?_ trivial ?_ trivial Z
    ·exact⟨hlt,by rw[<-hN]⟩
    ·dsimp only;omega
    ·repeat' first|exact trivial|refine⟨rfl,?_⟩|refine⟨bF (by assumption) (by assumption),?_⟩
    repeat' constructor
   exfalso;simp at h43;omega
  have e:k=j.kids.length:=by have:=congrArg List.length hd;simp at this;omega
  have hts:t.size=(fB j k).length+1:=by rw[hI];rfl
  have hfin:t++B #[125]=bytesOf (bp j):=by
   rw[hI,hg,hC']
   refine fb ?_
   show bg _=bg _
   rw[show(B #[125])=bytesOf [125]from rfl,eb,dU,dU,e];rfl
  rw[hg]at hz
  simp only[Ξ,υ,List.length_nil]at hz
  rw[<-e]at hz
  refine ak<|bP<|bQ<|bO<|qs<|aa<|ab<|bb 2 Z<|pu (jm (eY (p:=t) (q:=B #[125]) Z Z (by rw[show(B #[125]).size=1 from rfl];omega)) hfin) Z<|pE Z<|ae<|qs<|W.ret<|QF.bl trivial Z ?_
  rfl
 exfalso;simp at h28;omega
theorem C3(j:JV)(ih:∀z∈j.kids,(bp z).length<=1000000000000->bm Tryz.prog 92 [.ag z.c] (.d (.v (.string (bytesOf (bp z))))) 0)(hop:1<=j.op∧j.op<=6)(hnum:j.op=3->eK j.n=true)(hlen6:j.op=6->j.keys.length=j.kids.length)(hz:(bp j).length<=1000000000000)(ho:¬j.op=6):
  bm Tryz.prog 92 [.ag j.c] (.d (.v (.string (bytesOf (bp j))))) 0:=by
 have hzs:j.op=4->j.s.size<=1000000000000:=by intro e;have:=ot j.s;rw[vB e]at hz;omega
 have hO:jX j=91:=if_neg ho
 have hC':p9 j=93:=if_neg ho
 rw[e7 j]
 refine bm.bW (n:=64) (ts:=[2]) Tryz.func92 (by kernel_rfl) Z Tryz.ntmps92 Tryz.results92 Z Z fun C hC hG=>aa<|ab<|cz Z Z Z<|pE Z<|ae<|qs<|aa<|aZ 2 Z<|W.block<|aZ 2 Z<|bc Z (fun h9=>?_)<|fun h9=>?_
 ·
  have e:j.op=1:=by simpa using h9
  have hg:=EP e
  refine aZ 1 Z<|W.ret<|bw<|be<|QF.bl trivial Z ?_
  (rw[hg];rfl)
 have e1:j.op≠1:=by simpa using h9
 refine aZ 2 Z<|bc Z (fun h11=>?_)<|fun h11=>?_
 ·
  have e:j.op=2:=by simpa using h11
  refine aa<|aZ 3 Z<|bc Z (fun h15=>?_)<|fun h15=>?_
  ·
   have hg:=z8 e
   rw[if_pos (by simpa using h15)]at hg
   refine aZ 1 Z<|W.ret<|be<|bw<|be<|QF.bl trivial Z ?_
   (rw[hg];rfl)
  have hg:=z8 e
  rw[if_neg (by simpa using h15)]at hg
  refine ah<|qs<|aZ 1 Z<|W.ret<|bw<|be<|QF.bl trivial Z ?_
  (rw[hg];rfl)
 have e2:j.op≠2:=by simpa using h11
 refine aZ 2 Z<|bc Z (fun h16=>?_)<|fun h16=>?_
 ·
  have e:j.op=3:=by simpa using h16
  have hg:=DN e
  have hi:=DW (hnum e)
  refine aa<|ab<|bb 2 Z<|pu (bk Z Z Z (FC _ j.n (Nat.lt_succ_self _) hi.1 hi.2) Z) Z<|pE Z<|ae<|qs<|W.ret<|bw<|be<|QF.bl trivial Z ?_
  (rw[hg];rfl)
 have e3:j.op≠3:=by simpa using h16
 refine aZ 2 Z<|bc Z (fun h21=>?_)<|fun h21=>?_
 ·
  have e:j.op=4:=by simpa using h21
  have hg:=vB e
  refine aa<|ab<|bb 2 Z<|pu (bk Z Z Z (sx j.s (hzs e)) Z) Z<|pE Z<|ae<|qs<|W.ret<|bw<|be<|QF.bl trivial Z ?_
  (rw[hg];rfl)
 have e4:j.op≠4:=by simpa using h21
 have hg:=nL e1 e2 e3 e4 hlen6
 refine ah<|bX<|qs<|aZ 2 Z<|aa<|aZ 3 Z<|bc Z (fun h28=>?_)<|fun h28=>?_
 ·
  exfalso;simp at h28;omega
 refine ah<|qs<|aZ 2 Z<|aa<|aZ 1 Z<|W.block<|pQ (g:=0) (j:=4) Z Z<|fun hlen=>?_
 rw[η]at hlen
 refine W.ca (ι:={x:Nat×ByteArray//match x with|(k,t)=>k<=j.kids.length∧t=bytesOf (jX j::fB j k)})
  (fun x=>match x.1 with|(k,t)=>[(1,.ptr 0 0),(4,.d (.v (.string (B #[93])))),(5,.d (.v (.string t))),(6,.d (.v (.int .i64 ((k:Nat):Int))))]) []
  (fun x=>match x.1 with|(k,t)=>[(0,[.d (ci j.op),.d (ci j.n),.d (cs j.s),.d (.sl (j.keys.map sc)),.d (.sl (j.kids.map JV.c))])]) [] [] 1 (fun x=>match x.1 with|(k,t)=>j.kids.length-k)
  [0] ⟨(0,B #[91]),?_⟩ rfl ?_ trivial ?_ trivial rfl ?_
 ·exact⟨ς _,by rw[po,hO];rfl⟩
 ·repeat' constructor
 ·repeat' constructor
 rintro⟨⟨k,t⟩,hk,hI⟩
 show W _ _ _ _ _ ⟨[(1,.ptr 0 0),(4,.d (.v (.string (B #[93])))),(5,.d (.v (.string t))),(6,.d (.v (.int .i64 ((k:Nat):Int))))],[(0,[.d (ci j.op),.d (ci j.n),.d (cs j.s),.d (.sl (j.keys.map sc)),.d (.sl (j.kids.map JV.c))])],[],1⟩
 refine aa<|aZ 5 Z<|cr (l:=j.kids) (k:=k) Z (by simp[Ex.bG,bo]) hk (fun z hx hd hlt=>?_)<|fun he hd=>?_
 ·
  have hp:=oS hx hlen6
  have hst:=k9 hx hlen6
  have hkl:k<j.kids.length:=hlt
  rw[hg]at hz
  simp only[Ξ,υ,List.length_nil]at hz
  have hts:t.size=(fB j k).length+1:=by rw[hI];rfl
  have hxc:=ih z (ζ hx) (by omega)
  have hN:t++bytesOf (cA k)++bytesOf (eB j k)++bytesOf (bp z)=bytesOf (jX j::fB j (k+1)):=by
   refine fb ?_
   show bg _=bg _
   rw[eb,eb,eb,hst,dU,hI,dU];simp only[M',List.cons_append]
  have hkq:t++bytesOf (cA k)++bytesOf (eB j k)=t++bytesOf (cA k):=by
   rw[show eB j k=[]from if_neg ho]
   exact fb (by show bg _=bg _;rw[eb];simp)
  have hs3':t.size+(bytesOf (bp z)).size<=9223372036854775807:=by rw[show(bytesOf (bp z)).size=(bp z).length from rfl];omega
  have hs3:(t++bytesOf (cA k)).size+(bytesOf (bp z)).size<=9223372036854775807:=by rw[eu,show(bytesOf (bp z)).size=(bp z).length from rfl];omega
  refine ah<|qs<|aa<|W.block<|aa<|aZ 2 Z<|bc Z (fun h38=>?_)<|fun h38=>?_
  ·
   have hs4:bytesOf (cA k)=B #[44]:=by unfold cA;rw[if_neg (by simp at h38;omega)];rfl
   refine ab<|pE Z<|pu (jm (eY (p:=t) (q:=B #[44]) Z Z (by rw[show(B #[44]).size=1 from rfl];omega)) (show _=t++bytesOf (cA k)from by rw[hs4])) Z<|pE Z<|ae<|qs<|aa<|aZ 3 Z<|bc Z (fun h43=>?_)<|fun h43=>?_
   ·
    exfalso;simp at h43;omega
   refine ah<|qs<|ab<|bb 4 Z<|pu (indexAddr (l:=z.c) aY Z Z Z Z Z Z (ε _) (bC hx) Z) Z<|bb 1 Z<|pu (bk Z Z Z hxc Z) Z<|pu (jm (eY Z Z (by first|exact hs3|exact hs3')) (show _=t++bytesOf (cA k)++bytesOf (eB j k)++bytesOf (bp z)from by first|(rw[hkq];done)|rw[hkq,hs])) Z<|pE Z<|ae<|bX<|qs<|cu 3 Z<|W.cg [0] ⟨(k+1,t++bytesOf (cA k)++bytesOf (eB j k)++bytesOf (bp z)),?_⟩ ?_ Z ?_ trivial ?_ trivial Z
   ·exact⟨hlt,by rw[<-hN]⟩
   ·dsimp only;omega
   ·repeat' first|exact trivial|refine⟨rfl,?_⟩|refine⟨bF (by assumption) (by assumption),?_⟩
   repeat' constructor
  have hs:t++bytesOf (cA k)=t:=by
   unfold cA;rw[if_pos (by simp at h38;omega)]
   exact fb (by show bg _=bg _;rw[eb];simp)
  refine ah<|qs<|aa<|aZ 3 Z<|bc Z (fun h43=>?_)<|fun h43=>?_
  ·
   exfalso;simp at h43;omega
  refine ah<|qs<|ab<|bb 4 Z<|pu (indexAddr (l:=z.c) aY Z Z Z Z Z Z (ε _) (bC hx) Z) Z<|bb 1 Z<|pu (bk Z Z Z hxc Z) Z<|pu (jm (eY Z Z (by first|exact hs3|exact hs3')) (show _=t++bytesOf (cA k)++bytesOf (eB j k)++bytesOf (bp z)from by first|(rw[hkq];done)|rw[hkq,hs])) Z<|pE Z<|ae<|bX<|qs<|cu 3 Z<|W.cg [0] ⟨(k+1,t++bytesOf (cA k)++bytesOf (eB j k)++bytesOf (bp z)),?_⟩ ?_ Z ?_ trivial ?_ trivial Z
  ·exact⟨hlt,by rw[<-hN]⟩
  ·dsimp only;omega
  ·repeat' first|exact trivial|refine⟨rfl,?_⟩|refine⟨bF (by assumption) (by assumption),?_⟩
  repeat' constructor
 have e:k=j.kids.length:=by have:=congrArg List.length hd;simp at this;omega
 have hts:t.size=(fB j k).length+1:=by rw[hI];rfl
 have hfin:t++B #[93]=bytesOf (bp j):=by
  rw[hI,hg,hC']
  refine fb ?_
  show bg _=bg _
  rw[show(B #[93])=bytesOf [93]from rfl,eb,dU,dU,e];rfl
 rw[hg]at hz
 simp only[Ξ,υ,List.length_nil]at hz
 rw[<-e]at hz
 refine ak<|bP<|bQ<|bO<|qs<|aa<|ab<|bb 2 Z<|pu (jm (eY (p:=t) (q:=B #[93]) Z Z (by rw[show(B #[93]).size=1 from rfl];omega)) hfin) Z<|pE Z<|ae<|qs<|W.ret<|QF.bl trivial Z ?_
 rfl
theorem Fo:∀(j:JV)(lv:Int),b8 j lv=0->(bp j).length<=1000000000000->bm Tryz.prog 92 [.ag j.c] (.d (.v (.string (bytesOf (bp j))))) 0:=by
 refine aD fun j O=>?_;intro lv X U;obtain⟨N,ad,M,I,J⟩:=Lc X;by_cases ho:j.op=6;·exact Cm j (fun z h1 h2=>O z h1 _ (J z h1) h2) N M I U ho
 exact C3 j (fun z h1 h2=>O z h1 _ (J z h1) h2) N M I U ho
theorem nV{u}{t s r:ByteArray}(e:t++bytesOf (cI (bg s))=r)(I:t.size+2*s.size+2<=140737488355328):cU Tryz.prog 138 [.ptr 0 0,.d (.v (.string s))] [[.np 0 tB u,.bf 1 tU t]] 1 (.tup []) [[.np 0 tB true,.bf 1 tU r]] 1:=e▸F3 u t s I
theorem ve(l:List UInt8):(bytesOf l).size=l.length:=rfl
theorem KN{n:Int}(h:n=0∨n=1):([[cs (B #[102,97,108,115,101])],[cs (B #[116,114,117,101])]]:List (List D))[n.toNat]?=some [cs (bytesOf (if n=1 then mx else kK))]:=by rcases h with rfl|rfl<;>rfl
theorem Cz(j:JV)(u)(t:ByteArray)(ih:∀z∈j.kids,∀(u:Bool)(t r:ByteArray),t++bytesOf (bp z)=r->t.size+2*(bp z).length+2<=140737488355328->cU Tryz.prog 89 [.ptr 0 0,.ag z.c] [[.np 0 tB u,.bf 1 tU t]] 1 (.tup []) [[.np 0 tB true,.bf 1 tU r]] 1)(hop:1<=j.op∧j.op<=6)(htwo:j.op=2->j.n=0∨j.n=1)(hnum:j.op=3->eK j.n=true)(hlen6:j.op=6->j.keys.length=j.kids.length)(hz:t.size+2*(bp j).length+2<=140737488355328)(ho:j.op=6):
  cU Tryz.prog 89 [.ptr 0 0,.ag j.c] [[.np 0 tB u,.bf 1 tU t]] 1 (.tup []) [[.np 0 tB true,.bf 1 tU (t++bytesOf (bp j))]] 1:=by
 have hO:jX j=123:=if_pos ho
 have hC':p9 j=125:=if_pos ho
 rw[e7 j]
 refine cU.dY aY (n:=74) (rs:=[]) Tryz.func89 (by kernel_rfl) Z Tryz.ntmps89 Tryz.results89 Z Z fun C hC hG=>aa<|ab<|cz Z Z Z<|ae<|qs<|aZ 2 Z<|W.block<|aZ 2 Z<|bc Z (fun h48=>?_)<|fun h48=>?_
 ·
  exfalso;simp at h48;omega
 refine aZ 2 Z<|bc Z (fun h52=>?_)<|fun h52=>?_
 ·
  exfalso;simp at h52;omega
 refine aZ 2 Z<|bc Z (fun h61=>?_)<|fun h61=>?_
 ·
  exfalso;simp at h61;omega
 refine aZ 2 Z<|bc Z (fun h68=>?_)<|fun h68=>?_
 ·
  exfalso;simp at h68;omega
 have hg:=nL (j:=j) (by omega) (by omega) (by omega) (by omega) hlen6
 refine aZ 1 Z<|aa<|aZ 3 Z<|bc Z (fun h11=>?_)<|fun h11=>?_
 ·
  refine cu 1 Z<|qs<|aa<|ab<|bb 2 Z<|pu (eJ (b:=123) aY Z Z Z Z (by decide) Z) Z<|bT [0] [1] Z Z Z Z Z ((fW (c:=123) (s:=t) (m:=B #[123]) (r:=t++bytesOf [123]) Z Z (gJ 123).2 (by omega))) Z Z (by rfl) (by rfl) Z Z Z Z<|ae<|qs<|aa<|aZ 4 Z<|W.block<|W.len (t:=17) Z Z<|fun hlen=>?_
  try simp only[η,Ex.bG]at hlen
  refine W.ca (ι:={x:Nat×ByteArray//match x with|(k,T)=>k<=j.kids.length∧T=t++bytesOf (jX j::fB j k)})
   (fun x=>match x.1 with|(k,T)=>[(0,.ptr 0 0),(3,.ptr 2 0),(19,.d (.v (.int .i64 ((k:Nat):Int))))]) [(4,_),(17,_),(18,_)]
   (fun x=>match x.1 with|(k,T)=>[(0,[.np 0 tB true,.bf 1 tU T]),(2,[.d (ci j.op),.d (ci j.n),.d (cs j.s),.d (.sl (j.keys.map sc)),.d (.sl (j.kids.map JV.c))])]) [] [1] 3 (fun x=>match x.1 with|(k,T)=>j.kids.length-k)
   [0,4,2] ⟨(0,t++bytesOf [123]),?_⟩ rfl ?_ ⟨rfl,rfl,rfl,rfl,rfl,rfl,trivial⟩ ?_ trivial rfl ?_
  ·exact⟨ς _,by rw[po,hO]⟩
  ·repeat' constructor
  ·repeat' constructor
  rintro⟨⟨k,T⟩,hk,hI⟩
  show W _ _ _ _ _ ⟨[(0,.ptr 0 0),(3,.ptr 2 0),(19,.d (.v (.int .i64 ((k:Nat):Int)))),(4,_),(17,_),(18,_)],[(0,[.np 0 tB true,.bf 1 tU T]),(2,[.d (ci j.op),.d (ci j.n),.d (cs j.s),.d (.sl (j.keys.map sc)),.d (.sl (j.kids.map JV.c))])],[1],3⟩
  refine aZ 1 Z<|aa<|cr (l:=j.kids) (k:=k) Z (by simp[Ex.bG,bo]) hk (fun z hx hd hlt=>?_)<|fun he hd=>?_
  ·
   have hp:=oS hx hlen6
   have hst:=k9 hx hlen6
   have hkl:k<j.kids.length:=hlt
   rw[hg]at hz
   simp only[Ξ,υ,List.length_nil]at hz
   have hTs:T.size=t.size+(fB j k).length+1:=by rw[hI,eu];rfl
   have hxc:∀{u:Bool}{t r:ByteArray},t++bytesOf (bp z)=r->t.size+2*(bp z).length+2<=140737488355328->cU Tryz.prog 89 [.ptr 0 0,.ag z.c] [[.np 0 tB u,.bf 1 tU t]] 1 (.tup []) [[.np 0 tB true,.bf 1 tU r]] 1:=fun{u t r}=>ih z (ζ hx) u t r
   have hN:T++bytesOf (cA k)++bytesOf (eB j k)++bytesOf (bp z)=t++bytesOf (jX j::fB j (k+1)):=by
    rw[hI,lA,lA,lA,hst];simp only[M',List.cons_append]
   have hsepl:(cA k).length<=1:=by unfold cA;split<;>simp
   obtain⟨s,hks,hkq⟩:=D3 ho (hlen6 ho) hkl
   have hkl2:(eB j k).length=(cI (bg s)).length+1:=by rw[hkq];simp
   have hsz:=ot s
   have hs0:(T++bytesOf (cA k)).size<=T.size+1:=by rw[eu];omega
   refine ah<|qs<|aa<|W.block<|aa<|ab<|pE Z<|pu (indexAddr (l:=z.c) aY Z Z Z Z Z Z (ε _) (bC hx) Z) Z<|bb 1 Z<|b9 aY Z Z Z<|pE Z<|bt aY Z Z Z Z Z Z Z Z<|ae<|qs<|aa<|aZ 2 Z<|bc Z (fun h25=>?_)<|fun h25=>?_
   ·
    have hs4:bytesOf (cA k)=B #[44]:=by unfold cA;rw[if_neg (by simp at h25;omega)];rfl
    refine ab<|pE Z<|bT [0] [1] Z Z Z Z Z ((fW (c:=44) (s:=T) (m:=B #[44]) (r:=T++bytesOf (cA k)) (by rw[hs4]) Z (gJ 44).2 (by omega))) Z Z (by rfl) (by rfl) Z Z Z Z<|ae<|qs<|aa<|aZ 3 Z<|bc Z (fun h30=>?_)<|fun h30=>?_
    ·
     refine aa<|ab<|bb 4 Z<|pu (indexAddr (l:=sc s) aY Z Z Z Z Z Z (ε _) (bC hks) Z) Z<|bb 1 Z ?_
     first|refine bT [0] [5] rfl rfl rfl rfl rfl (nV (s:=s) (r:=T++bytesOf (cA k)++bytesOf (cI (bg s))) (by first|rfl|rw[hs]) (by omega)) rfl rfl (by rfl) (by rfl) rfl rfl rfl rfl ?_|refine bT [0] [1] rfl rfl rfl rfl rfl (nV (s:=s) (r:=T++bytesOf (cA k)++bytesOf (cI (bg s))) (by first|rfl|rw[hs]) (by omega)) rfl rfl (by rfl) (by rfl) rfl rfl rfl rfl ?_
     refine ae<|qs<|ab<|pE Z<|bT [0] [7] Z Z Z Z Z (fW (c:=58) (s:=T++bytesOf (cA k)++bytesOf (cI (bg s))) (m:=B #[58]) (r:=T++bytesOf (cA k)++bytesOf (eB j k)) (by rw[hkq,←lA];rfl) Z (gJ 58).2 (by rw[eu];omega)) Z Z (by rfl) (by rfl) Z Z Z Z<|ae<|qs<|ab<|bb 2 Z<|bT [0] [9] Z Z Z Z Z (hxc (t:=T++bytesOf (cA k)++bytesOf (eB j k)) (r:=T++bytesOf (cA k)++bytesOf (eB j k)++bytesOf (bp z)) Z (by rw[eu];omega)) Z Z (by rfl) (by rfl) Z Z Z Z<|ae<|bX<|qs<|cu 2 Z<|W.cg [0,11,2] ⟨(k+1,T++bytesOf (cA k)++bytesOf (eB j k)++bytesOf (bp z)),?_⟩ ?_ Z ?_ ⟨rfl,rfl,rfl,rfl,rfl,rfl,trivial⟩ ?_ trivial Z
     ·exact⟨hlt,hN⟩
     ·dsimp only;omega
     ·repeat' first|exact trivial|refine⟨rfl,?_⟩|refine⟨bF (by assumption) (by assumption),?_⟩
     repeat' constructor
    exfalso;simp at h30;omega
   have hs:T++bytesOf (cA k)=T:=by
    unfold cA;rw[if_pos (by simp at h25;omega)]
    exact fb (by show bg _=bg _;rw[eb];simp)
   refine ah<|qs<|aa<|aZ 3 Z<|bc Z (fun h30=>?_)<|fun h30=>?_
   ·
    refine aa<|ab<|bb 4 Z<|pu (indexAddr (l:=sc s) aY Z Z Z Z Z Z (ε _) (bC hks) Z) Z<|bb 1 Z ?_
    first|refine bT [0] [5] rfl rfl rfl rfl rfl (nV (s:=s) (r:=T++bytesOf (cA k)++bytesOf (cI (bg s))) (by first|rfl|rw[hs]) (by omega)) rfl rfl (by rfl) (by rfl) rfl rfl rfl rfl ?_|refine bT [0] [1] rfl rfl rfl rfl rfl (nV (s:=s) (r:=T++bytesOf (cA k)++bytesOf (cI (bg s))) (by first|rfl|rw[hs]) (by omega)) rfl rfl (by rfl) (by rfl) rfl rfl rfl rfl ?_
    refine ae<|qs<|ab<|pE Z<|bT [0] [5] Z Z Z Z Z (fW (c:=58) (s:=T++bytesOf (cA k)++bytesOf (cI (bg s))) (m:=B #[58]) (r:=T++bytesOf (cA k)++bytesOf (eB j k)) (by rw[hkq,←lA];rfl) Z (gJ 58).2 (by rw[eu];omega)) Z Z (by rfl) (by rfl) Z Z Z Z<|ae<|qs<|ab<|bb 2 Z<|bT [0] [7] Z Z Z Z Z (hxc (t:=T++bytesOf (cA k)++bytesOf (eB j k)) (r:=T++bytesOf (cA k)++bytesOf (eB j k)++bytesOf (bp z)) Z (by rw[eu];omega)) Z Z (by rfl) (by rfl) Z Z Z Z<|ae<|bX<|qs<|cu 2 Z<|W.cg [0,9,2] ⟨(k+1,T++bytesOf (cA k)++bytesOf (eB j k)++bytesOf (bp z)),?_⟩ ?_ Z ?_ ⟨rfl,rfl,rfl,rfl,rfl,rfl,trivial⟩ ?_ trivial Z
    ·exact⟨hlt,hN⟩
    ·dsimp only;omega
    ·repeat' first|exact trivial|refine⟨rfl,?_⟩|refine⟨bF (by assumption) (by assumption),?_⟩
    repeat' constructor
   exfalso;simp at h30;omega
  have e:k=j.kids.length:=by have:=congrArg List.length hd;simp at this;omega
  have hTs:T.size=t.size+(fB j k).length+1:=by rw[hI,eu];rfl
  have hfin:T++B #[125]=t++bytesOf (bp j):=by
   rw[hI,hg,hC',show(B #[125])=bytesOf [125]from rfl,lA,e];rfl
  rw[hg]at hz
  simp only[Ξ,υ,List.length_nil]at hz
  rw[<-e]at hz
  refine ak<|bP<|bQ<|bO<|qs<|ab<|bb 2 Z<|pu (eJ (b:=125) aY Z Z Z Z (by decide) Z) Z<|bT [0] [1] Z Z Z Z Z ((fW (c:=125) (s:=T) (m:=B #[125]) (r:=t++bytesOf (bp j)) hfin Z (gJ 125).2 (by omega))) Z Z (by rfl) (by rfl) Z Z Z Z<|ae<|bX<|an aY [4] trivial Z Z Z Z ?_ ?_
  ·exact⟨rfl,trivial⟩
  rfl
 exfalso;simp at h11;omega
theorem CJ(j:JV)(u)(t:ByteArray)(ih:∀z∈j.kids,∀(u:Bool)(t r:ByteArray),t++bytesOf (bp z)=r->t.size+2*(bp z).length+2<=140737488355328->cU Tryz.prog 89 [.ptr 0 0,.ag z.c] [[.np 0 tB u,.bf 1 tU t]] 1 (.tup []) [[.np 0 tB true,.bf 1 tU r]] 1)(hop:1<=j.op∧j.op<=6)(htwo:j.op=2->j.n=0∨j.n=1)(hnum:j.op=3->eK j.n=true)(hlen6:j.op=6->j.keys.length=j.kids.length)(hz:t.size+2*(bp j).length+2<=140737488355328)(ho:¬j.op=6):
  cU Tryz.prog 89 [.ptr 0 0,.ag j.c] [[.np 0 tB u,.bf 1 tU t]] 1 (.tup []) [[.np 0 tB true,.bf 1 tU (t++bytesOf (bp j))]] 1:=by
 have hO:jX j=91:=if_neg ho
 have hC':p9 j=93:=if_neg ho
 rw[e7 j]
 refine cU.dY aY (n:=74) (rs:=[]) Tryz.func89 (by kernel_rfl) Z Tryz.ntmps89 Tryz.results89 Z Z fun C hC hG=>aa<|ab<|cz Z Z Z<|ae<|qs<|aZ 2 Z<|W.block<|aZ 2 Z<|bc Z (fun h48=>?_)<|fun h48=>?_
 ·
  have e:j.op=1:=by simpa using h48
  have hg:=EP e
  have hgl:(bp j).length=4:=by rw[hg];rfl
  refine ab<|pE Z<|bT [0] [1] Z Z Z Z Z ((mM (s:=t) (x:=B #[110,117,108,108]) (r:=t++bytesOf (bp j)) (by rw[hg];rfl) (by rw[show(B #[110,117,108,108]).size=4 from rfl];omega))) Z Z (by rfl) (by rfl) Z Z Z Z<|ae<|bX<|an aY [4] trivial Z Z Z Z ?_ ?_
  ·exact⟨rfl,trivial⟩
  rfl
 have e1:j.op≠1:=by simpa using h48
 refine aZ 2 Z<|bc Z (fun h52=>?_)<|fun h52=>?_
 ·
  have e:j.op=2:=by simpa using h52
  have hg:=z8 e
  have hn2:=htwo e
  refine ab<|pE Z<|pu (bZ aY Z Z Z Z Z Z Z Z Z) Z<|bb 2 Z<|pu (indexAddr (l:=[cs (bytesOf (if j.n=1 then mx else kK))]) aY Z Z Z Z Z Z (by omega) (KN hn2) Z) Z<|bb 1 Z<|bT [0] [1] Z Z Z Z Z ((mM (s:=t) (x:=bytesOf (if j.n=1 then mx else kK)) (r:=t++bytesOf (bp j)) (by rw[hg]) (by rw[hg]at hz;rw[ve];omega))) Z Z (by rfl) (by rfl) Z Z Z Z<|ae<|bX<|an aY [4] trivial Z Z Z Z ?_ ?_
  ·exact⟨rfl,trivial⟩
  rfl
 have e2:j.op≠2:=by simpa using h52
 refine aZ 2 Z<|bc Z (fun h61=>?_)<|fun h61=>?_
 ·
  have e:j.op=3:=by simpa using h61
  have hg:=DN e
  have hi:=DW (hnum e)
  refine ab<|bb 3 Z<|pu (bk Z Z Z (qc j.n hi.1 hi.2) Z) Z<|bT [0] [1] Z Z Z Z Z ((mM (s:=t) (x:=eg j.n) (r:=t++bytesOf (bp j)) (by rw[hg,mh]) (by rw[hg,bo]at hz;omega))) Z Z (by rfl) (by rfl) Z Z Z Z<|ae<|bX<|an aY [4] trivial Z Z Z Z ?_ ?_
  ·exact⟨rfl,trivial⟩
  rfl
 have e3:j.op≠3:=by simpa using h61
 refine aZ 2 Z<|bc Z (fun h68=>?_)<|fun h68=>?_
 ·
  have e:j.op=4:=by simpa using h68
  have hg:=vB e
  have hq:=ot j.s
  refine ab<|bb 3 Z<|bT [0] [1] Z Z Z Z Z ((nV (t:=t) (s:=j.s) (r:=t++bytesOf (bp j)) (by rw[hg]) (by rw[hg]at hz;omega))) Z Z (by rfl) (by rfl) Z Z Z Z<|ae<|bX<|an aY [4] trivial Z Z Z Z ?_ ?_
  ·exact⟨rfl,trivial⟩
  rfl
 have e4:j.op≠4:=by simpa using h68
 have hg:=nL e1 e2 e3 e4 hlen6
 refine aZ 1 Z<|aa<|aZ 3 Z<|bc Z (fun h11=>?_)<|fun h11=>?_
 ·
  exfalso;simp at h11;omega
 refine ah<|qs<|aa<|ab<|bb 2 Z<|pu (eJ (b:=91) aY Z Z Z Z (by decide) Z) Z<|bT [0] [1] Z Z Z Z Z ((fW (c:=91) (s:=t) (m:=B #[91]) (r:=t++bytesOf [91]) Z Z (gJ 91).2 (by omega))) Z Z (by rfl) (by rfl) Z Z Z Z<|ae<|qs<|aa<|aZ 4 Z<|W.block<|W.len (t:=17) Z Z<|fun hlen=>?_
 try simp only[η,Ex.bG]at hlen
 refine W.ca (ι:={x:Nat×ByteArray//match x with|(k,T)=>k<=j.kids.length∧T=t++bytesOf (jX j::fB j k)})
  (fun x=>match x.1 with|(k,T)=>[(0,.ptr 0 0),(3,.ptr 2 0),(19,.d (.v (.int .i64 ((k:Nat):Int))))]) [(4,_),(17,_),(18,_)]
  (fun x=>match x.1 with|(k,T)=>[(0,[.np 0 tB true,.bf 1 tU T]),(2,[.d (ci j.op),.d (ci j.n),.d (cs j.s),.d (.sl (j.keys.map sc)),.d (.sl (j.kids.map JV.c))])]) [] [1] 3 (fun x=>match x.1 with|(k,T)=>j.kids.length-k)
  [0,4,2] ⟨(0,t++bytesOf [91]),?_⟩ rfl ?_ ⟨rfl,rfl,rfl,rfl,rfl,rfl,trivial⟩ ?_ trivial rfl ?_
 ·exact⟨ς _,by rw[po,hO]⟩
 ·repeat' constructor
 ·repeat' constructor
 rintro⟨⟨k,T⟩,hk,hI⟩
 show W _ _ _ _ _ ⟨[(0,.ptr 0 0),(3,.ptr 2 0),(19,.d (.v (.int .i64 ((k:Nat):Int)))),(4,_),(17,_),(18,_)],[(0,[.np 0 tB true,.bf 1 tU T]),(2,[.d (ci j.op),.d (ci j.n),.d (cs j.s),.d (.sl (j.keys.map sc)),.d (.sl (j.kids.map JV.c))])],[1],3⟩
 refine aZ 1 Z<|aa<|cr (l:=j.kids) (k:=k) Z (by simp[Ex.bG,bo]) hk (fun z hx hd hlt=>?_)<|fun he hd=>?_
 ·
  have hp:=oS hx hlen6
  have hst:=k9 hx hlen6
  have hkl:k<j.kids.length:=hlt
  rw[hg]at hz
  simp only[Ξ,υ,List.length_nil]at hz
  have hTs:T.size=t.size+(fB j k).length+1:=by rw[hI,eu];rfl
  have hxc:∀{u:Bool}{t r:ByteArray},t++bytesOf (bp z)=r->t.size+2*(bp z).length+2<=140737488355328->cU Tryz.prog 89 [.ptr 0 0,.ag z.c] [[.np 0 tB u,.bf 1 tU t]] 1 (.tup []) [[.np 0 tB true,.bf 1 tU r]] 1:=fun{u t r}=>ih z (ζ hx) u t r
  have hN:T++bytesOf (cA k)++bytesOf (eB j k)++bytesOf (bp z)=t++bytesOf (jX j::fB j (k+1)):=by
   rw[hI,lA,lA,lA,hst];simp only[M',List.cons_append]
  have hsepl:(cA k).length<=1:=by unfold cA;split<;>simp
  have hkq:T++bytesOf (cA k)++bytesOf (eB j k)=T++bytesOf (cA k):=by
   rw[show eB j k=[]from if_neg ho]
   exact fb (by show bg _=bg _;rw[eb];simp)
  have hs0:(T++bytesOf (cA k)).size<=T.size+1:=by rw[eu];omega
  refine ah<|qs<|aa<|W.block<|aa<|ab<|pE Z<|pu (indexAddr (l:=z.c) aY Z Z Z Z Z Z (ε _) (bC hx) Z) Z<|bb 1 Z<|b9 aY Z Z Z<|pE Z<|bt aY Z Z Z Z Z Z Z Z<|ae<|qs<|aa<|aZ 2 Z<|bc Z (fun h25=>?_)<|fun h25=>?_
  ·
   have hs4:bytesOf (cA k)=B #[44]:=by unfold cA;rw[if_neg (by simp at h25;omega)];rfl
   refine ab<|pE Z<|bT [0] [1] Z Z Z Z Z ((fW (c:=44) (s:=T) (m:=B #[44]) (r:=T++bytesOf (cA k)) (by rw[hs4]) Z (gJ 44).2 (by omega))) Z Z (by rfl) (by rfl) Z Z Z Z<|ae<|qs<|aa<|aZ 3 Z<|bc Z (fun h30=>?_)<|fun h30=>?_
   ·
    exfalso;simp at h30;omega
   refine ah (qs (ab (bb 2 Z ?_)))
   first|refine bT [0] [5] rfl rfl rfl rfl rfl (hxc (r:=T++bytesOf (cA k)++bytesOf (eB j k)++bytesOf (bp z)) (by first|(rw[hkq];done)|rw[hkq,hs]) (by omega)) rfl rfl (by rfl) (by rfl) rfl rfl rfl rfl ?_|refine bT [0] [1] rfl rfl rfl rfl rfl (hxc (r:=T++bytesOf (cA k)++bytesOf (eB j k)++bytesOf (bp z)) (by first|(rw[hkq];done)|rw[hkq,hs]) (by omega)) rfl rfl (by rfl) (by rfl) rfl rfl rfl rfl ?_
   refine ae<|bX<|qs<|cu 2 Z<|W.cg [0,7,2] ⟨(k+1,T++bytesOf (cA k)++bytesOf (eB j k)++bytesOf (bp z)),?_⟩ ?_ Z ?_ ⟨rfl,rfl,rfl,rfl,rfl,rfl,trivial⟩ ?_ trivial Z
   ·exact⟨hlt,hN⟩
   ·dsimp only;omega
   ·repeat' first|exact trivial|refine⟨rfl,?_⟩|refine⟨bF (by assumption) (by assumption),?_⟩
   repeat' constructor
  have hs:T++bytesOf (cA k)=T:=by
   unfold cA;rw[if_pos (by simp at h25;omega)]
   exact fb (by show bg _=bg _;rw[eb];simp)
  refine ah<|qs<|aa<|aZ 3 Z<|bc Z (fun h30=>?_)<|fun h30=>?_
  ·
   exfalso;simp at h30;omega
  refine ah (qs (ab (bb 2 Z ?_)))
  first|refine bT [0] [5] rfl rfl rfl rfl rfl (hxc (r:=T++bytesOf (cA k)++bytesOf (eB j k)++bytesOf (bp z)) (by first|(rw[hkq];done)|rw[hkq,hs]) (by omega)) rfl rfl (by rfl) (by rfl) rfl rfl rfl rfl ?_|refine bT [0] [1] rfl rfl rfl rfl rfl (hxc (r:=T++bytesOf (cA k)++bytesOf (eB j k)++bytesOf (bp z)) (by first|(rw[hkq];done)|rw[hkq,hs]) (by omega)) rfl rfl (by rfl) (by rfl) rfl rfl rfl rfl ?_
  refine ae<|bX<|qs<|cu 2 Z<|W.cg [0,5,2] ⟨(k+1,T++bytesOf (cA k)++bytesOf (eB j k)++bytesOf (bp z)),?_⟩ ?_ Z ?_ ⟨rfl,rfl,rfl,rfl,rfl,rfl,trivial⟩ ?_ trivial Z
  ·exact⟨hlt,hN⟩
  ·dsimp only;omega
  ·repeat' first|exact trivial|refine⟨rfl,?_⟩|refine⟨bF (by assumption) (by assumption),?_⟩
  repeat' constructor
 have e:k=j.kids.length:=by have:=congrArg List.length hd;simp at this;omega
 have hTs:T.size=t.size+(fB j k).length+1:=by rw[hI,eu];rfl
 have hfin:T++B #[93]=t++bytesOf (bp j):=by
  rw[hI,hg,hC',show(B #[93])=bytesOf [93]from rfl,lA,e];rfl
 rw[hg]at hz
 simp only[Ξ,υ,List.length_nil]at hz
 rw[<-e]at hz
 refine ak<|bP<|bQ<|bO<|qs<|ab<|bb 2 Z<|pu (eJ (b:=93) aY Z Z Z Z (by decide) Z) Z<|bT [0] [1] Z Z Z Z Z ((fW (c:=93) (s:=T) (m:=B #[93]) (r:=t++bytesOf (bp j)) hfin Z (gJ 93).2 (by omega))) Z Z (by rfl) (by rfl) Z Z Z Z<|ae<|bX<|an aY [4] trivial Z Z Z Z ?_ ?_
 ·exact⟨rfl,trivial⟩
 rfl
theorem Fl:∀(j:JV)(lv:Int),b8 j lv=0->∀(u:Bool)(t r:ByteArray),t++bytesOf (bp j)=r->t.size+2*(bp j).length+2<=140737488355328->cU Tryz.prog 89 [.ptr 0 0,.ag j.c] [[.np 0 tB u,.bf 1 tU t]] 1 (.tup []) [[.np 0 tB true,.bf 1 tU r]] 1:=by
 refine aD fun j U=>?_;intro lv hc u t r e X;subst e;obtain⟨O,M,N,I,J⟩:=Lc hc;by_cases ho:j.op=6;·exact Cz j u t (fun z h1=>U z h1 _ (J z h1)) O M N I X ho
 exact CJ j u t (fun z h1=>U z h1 _ (J z h1)) O M N I X ho
def fK(j:JV):ByteArray:=if b8 j 1=0 then bytesOf (bp j)else B #[]
theorem Eg(j:JV)(N:b8 j 1=0->(bp j).length<=1000000000000):bm Tryz.prog 43 [.ag j.c] (.tup [.d (.v (.string (fK j))),.d (.v (.int .i64 (b8 j 1)))]) 0:=by
 have M:=DK j;have hp:b8 j 1=0->bm Tryz.prog 92 [.ag j.c] (.d (.v (.string (bytesOf (bp j))))) 0:=fun h=>Fo j 1 h (N h);rw[e7 j]at M hp⊢;refine bm.bW (n:=12) (ts:=[2,3]) Tryz.func43 (by kernel_rfl) Z Tryz.ntmps43 Tryz.results43 Z Z fun C hC O=>aa<|ab<|cz Z Z Z<|bb 2 Z<|ae<|qs<|aa<|ab<|bb 1 Z<|pu (bk Z Z Z M Z) Z<|pE Z<|ae<|qs<|aa<|aZ 2 Z<|bc Z (fun I=>?_)<|fun I=>?_;·
  have J:fK j=B #[]:=by unfold fK;rw[if_neg (by simpa using I)]
  refine aZ 3 Z<|W.ret<|be<|QF.bl trivial Z ?_;rw[J];rfl
 have h0:b8 j 1=0:=by simpa using I
 have J:fK j=bytesOf (bp j):=by unfold fK;rw[if_pos h0]
 refine ah<|qs<|aa<|ab<|bb 1 Z<|pu (bk Z Z Z (hp h0) Z) Z<|bb 2 Z<|ae<|qs<|W.ret<|QF.bl trivial Z ?_;rw[J,h0];rfl
theorem Cx(j:JV)(O:b8 j 1=0->(bp j).length<=1000000000000):sP Tryz.prog (fun _=>True) 38 [.ag j.c] (.tup [.d (.v (.string (fK j))),.d (.v (.int .i64 (b8 j 1)))]) 0:=by
 have M:=xM j;rw[e7 j]at M⊢;refine sP.dY aY (n:=14) (rs:=[.tmp 2,.tmp 3]) Tryz.func38 (by kernel_rfl) Z Tryz.ntmps38 Tryz.results38 Z fun C hC X hH N=>aa<|ab<|cz Z Z Z<|bb 2 Z<|ae<|qs<|aa<|aa<|ab<|bb 1 Z ?_
 refine pu (bk Z Z Z M Z) Z<|pE Z<|ae<|qs<|aZ 2 Z<|bc Z (fun I=>?_)<|fun I=>?_;·
  have J:fK j=B #[]:=by unfold fK;rw[if_neg (by simpa using I)]
  refine aZ 3 Z<|W.ret<|be<|QV.bl aY trivial Z ?_;rw[J];rfl
 have h0:b8 j 1=0:=by simpa using I
 have J:fK j=bytesOf (bp j):=by unfold fK;rw[if_pos h0]
 have U:=O h0;refine ah<|qs<|aa<|ab<|DJ aY tU Z Z Z<|ae<|qs<|aa<|ab<|bb 1 Z<|bT [1] [2] Z Z Z Z Z (((congrArg (fun c=>cU Tryz.prog 89 [.ptr 0 0,.ag c] [[.np 0 tB false,.bf 1 tU .empty]] 1 (.tup []) [[.np 0 tB true,.bf 1 tU (bytesOf (bp j))]] 1) (e7 j)).mp (Fl j 1 h0 false .empty (bytesOf (bp j)) (fb Z) (by rw[show(ByteArray.empty).size=0 from rfl];omega)))) Z Z (by rfl) (by rfl) Z Z Z Z<|ae<|qs<|aa<|ab<|Kx N Z Z Z Z D4 BV (by rw[ve];simp only[maxLen];omega) Z<|bb 2 Z<|ae<|qs<|W.ret<|QV.bl aY trivial Z ?_;rw[J,h0];rfl
theorem EJ(j:JV)(I:b8 j 1=0->(bp j).length<=1000000000000):bm Tryz.prog 38 [.ag j.c] (.tup [.d (.v (.string (fK j))),.d (.v (.int .i64 (b8 j 1)))]) 0:=(Cx j I).FU fun _=>trivial
def ky(ts:List dV)(ps:List bH):ByteArray×Int:=
 if(jQ ts ps).2≠0 then(cn,(jQ ts ps).2)else if b8 (dQ ts ps) 1≠0 then(cn,b8 (dQ ts ps) 1)else if 65536<(fK (dQ ts ps)).size then(cn,7)else(fK (dQ ts ps),0)
theorem Dq(ts ps)(ok:DI ts ps)(hz:b8 (dQ ts ps) 1=0->(bp (dQ ts ps)).length<=1000000000000)(hL:bm Tryz.prog 12 [.ag (kV.c ⟨ts,gy,ps⟩)] (.d (ci (jQ ts ps).2)) 0)(hGp:bm Tryz.prog 13 [.ag (kV.c ⟨ts,gy,ps⟩)] (.d (.sl [])) 0):bm Tryz.prog 15 [.ag (kV.c ⟨ts,gy,ps⟩)] (.tup [.d (cs (ky ts ps).1),.d (ci (ky ts ps).2)]) 0:=by
 refine bm.bW (n:=97) (ts:=[2,3]) Tryz.func15 (by kernel_rfl) Z Tryz.ntmps15 Tryz.results15 Z Z fun C hC hG=>aa<|ab<|cz Z Z Z<|bb 2 Z<|ae<|qs<|aa<|aa<|ab<|bb 1 Z<|pu (bk Z Z Z hL Z) Z<|pE Z<|ae<|qs<|aZ 2 Z<|bc Z (fun h17=>?_)<|fun h17=>?_
 ·
  have hg:ky ts ps=(cn,(jQ ts ps).2):=by unfold ky;rw[if_pos (by simpa using h17)]
  refine aZ 3 Z<|W.ret<|be<|QF.bl trivial Z ?_
  rw[hg];rfl
 have h0:¬(jQ ts ps).2≠0:=by simpa using h17
 refine ah<|qs<|aa<|aa<|?_
 apply bJ;(case hb=>rfl)
 ·
  refine bb 6 Z ?_
  apply dP;(case hj=>rfl);(case hl=>rfl)
  ·
   intro g24
   refine bD Z Z Z Z<|bD Z Z Z Z<|bD Z Z Z Z<|bD Z Z Z Z<|bD Z Z Z Z<|pE Z<|ae<|b7 Z Z Z
  intro g24
  refine bE Z Z<|pE Z<|bE Z Z<|pE Z<|bE Z Z<|bb 1 Z<|bE Z Z<|pE Z<|bE Z Z<|bb 2 Z<|ae<|b7 Z Z Z
 refine qs (bc Z (fun h30=>?_) (fun h30=>?_))
 ·
  exfalso;simp[gy]at h30
 refine ah<|qs<|aa<|aa<|ab<|bb 1 Z<|pu (bk Z Z Z hGp Z) Z<|bb 2 Z<|ae<|qs<|bc Z (fun h34=>?_)<|fun h34=>?_
 ·
  exfalso;simp at h34
 refine ah<|qs<|aa<|ab<|pu (build aY Z Z Z Z) Z<|b9 aY Z Z Z<|bt aY Z Z Z Z Z Z Z Z<|ae<|qs<|aa<|aa<|?_
 obtain⟨hh,hcs⟩:=Bn (ts:=ts) (ps:=ps) (by simpa using h0)
 obtain⟨_,_,h64⟩:=zn hh
 have hsum:=ok.2.2
 have hall:=tX hcs
 refine cu 5 Z<|qs<|W.block<|jl 1 3 Z Z Z<|fh 1 4 Z Z Z<|W.len (t:=38) Z Z<|fun hlen=>?_
 try simp only[η,Ex.bG]at hlen
 refine W.ca (ι:={x:Nat×List JV//match x with|(k,acc)=>k<=ts.length∧acc=(ts.take k).map mJ})
  (fun x=>match x.1 with|(k,acc)=>[(1,.ptr 0 0),(5,.ptr 1 0),(40,.d (.v (.int .i64 ((k:Nat):Int))))]) [(38,_),(39,_)]
  (fun x=>match x.1 with|(k,acc)=>[(0,(kV.c ⟨ts,gy,ps⟩).map A.d),(1,[.d (ci 5),.d (ci 0),.d (cs cn),.d (.sl []),.own 2 (acc.map JV.c)])]) [] [2] 3 (fun x=>match x.1 with|(k,acc)=>ts.length-k)
  [0,1,2] ⟨(0,[]),?_⟩ rfl ?_ ⟨rfl,rfl,rfl,rfl,trivial⟩ ?_ trivial rfl ?_
 ·exact⟨ς _,rfl⟩
 ·repeat' constructor
 ·repeat' constructor
 rintro⟨⟨k,acc⟩,hk,hacc⟩
 show W _ _ _ _ _ ⟨[(1,.ptr 0 0),(5,.ptr 1 0),(40,.d (.v (.int .i64 ((k:Nat):Int)))),(38,_),(39,_)],[(0,(kV.c ⟨ts,gy,ps⟩).map A.d),(1,[.d (ci 5),.d (ci 0),.d (cs cn),.d (.sl []),.own 2 (acc.map JV.c)])],[2],3⟩
 have hal:acc.length<=64:=by rw[hacc,η,V'];omega
 refine aZ 1 Z<|aa<|cr (l:=ts) (k:=k) Z (by simp[Ex.bG,bo]) hk (fun t hx hd hlt=>?_)<|fun he hd=>?_
 ·
  refine ah<|qs<|aa<|W.block<|aa<|ab<|pu (indexAddr (l:=t.c) aY Z Z Z Z Z Z (ε _) (bC hx) Z) Z<|bb 1 Z<|b9 aY Z Z Z<|bt aY Z Z Z Z Z Z Z Z<|ae<|qs<|W.ko aY [] [] [] [] 13 (by kernel_rfl) (by kernel_rfl) Z Z ?_
  refine' bL (ev aY Z) ?p_1 Z Z Z (by kernel_rfl) Z ?h_1
  case' h_1=>skip
  case p_1=>refine⟨fun ha=>ba ha,?_⟩<;>intro ha<;>first|exact⟨ev aY rfl,fun h=>nomatch h⟩|exact ba ha
  refine' bL (ev aY Z) ?p_2 Z Z Z (by kernel_rfl) Z ?h_2
  case' h_2=>skip
  case p_2=>refine⟨fun ha=>ba ha,?_⟩<;>intro ha<;>first|exact⟨ev aY rfl,fun h=>nomatch h⟩|exact⟨cS aY rfl rfl rfl rfl,fun h=>nomatch h⟩|exact⟨cR aY rfl rfl rfl rfl rfl,fun h=>nomatch h⟩|exact ba ha
  refine' bL (bZ aY Z Z Z Z Z Z Z Z Z) ?p_3 Z Z Z (by kernel_rfl) Z ?h_3
  case' h_3=>skip
  case p_3=>refine⟨fun ha=>ba ha,?_⟩<;>intro ha<;>first|exact⟨bZ aY rfl rfl rfl rfl rfl rfl rfl rfl rfl,fun h=>nomatch h⟩|exact ba ha
  refine' bL (bk Z Z Z (jY ..) Z) ?p_4 Z Z Z (by kernel_rfl) Z ?h_4
  case' h_4=>skip
  case p_4=>refine⟨fun ha=>ba ha,?_⟩<;>intro ha<;>first|exact⟨bk rfl rfl rfl (jY ..) rfl,fun h=>nomatch h⟩|exact ba ha
  refine' bL (ev aY Z) ?p_5 Z Z Z (by kernel_rfl) Z ?h_5
  case' h_5=>skip
  case p_5=>refine⟨fun ha=>ba ha,?_⟩<;>intro ha<;>first|exact⟨ev aY rfl,fun h=>nomatch h⟩|exact ba ha
  refine' bL (ev aY Z) ?p_6 Z Z Z (by kernel_rfl) Z ?h_6
  case' h_6=>skip
  case p_6=>refine⟨fun ha=>ba ha,?_⟩<;>intro ha<;>first|exact⟨ev aY rfl,fun h=>nomatch h⟩|exact⟨cS aY rfl rfl rfl rfl,fun h=>nomatch h⟩|exact⟨cR aY rfl rfl rfl rfl rfl,fun h=>nomatch h⟩|exact ba ha
  refine' bL (bk Z Z Z (km ..) Z) ?p_7 Z Z Z (by kernel_rfl) Z ?h_7
  case' h_7=>skip
  case p_7=>refine⟨fun ha=>ba ha,?_⟩<;>intro ha<;>first|exact⟨bk rfl rfl rfl (km ..) rfl,fun h=>nomatch h⟩|exact ba ha
  refine' bL (ev aY Z) ?p_8 Z Z Z (by kernel_rfl) Z ?h_8
  case' h_8=>skip
  case p_8=>refine⟨fun ha=>ba ha,?_⟩<;>intro ha<;>first|exact⟨ev aY rfl,fun h=>nomatch h⟩|exact ba ha
  refine' bL (ev aY Z) ?p_9 Z Z Z (by kernel_rfl) Z ?h_9
  case' h_9=>skip
  case p_9=>refine⟨fun ha=>ba ha,?_⟩<;>intro ha<;>first|exact⟨ev aY rfl,fun h=>nomatch h⟩|exact⟨cS aY rfl rfl rfl rfl,fun h=>nomatch h⟩|exact⟨cR aY rfl rfl rfl rfl rfl,fun h=>nomatch h⟩|exact ba ha
  refine' bL (bk Z Z Z (jY ..) Z) ?p_10 Z Z Z (by kernel_rfl) Z ?h_10
  case' h_10=>skip
  case p_10=>refine⟨fun ha=>ba ha,?_⟩<;>intro ha<;>first|exact⟨bk rfl rfl rfl (jY ..) rfl,fun h=>nomatch h⟩|exact ba ha
  refine' bL (bZ aY Z Z Z Z Z Z Z Z Z) ?p_11 Z Z Z (by kernel_rfl) Z ?h_11
  case' h_11=>skip
  case p_11=>refine⟨fun ha=>ba ha,?_⟩<;>intro ha<;>first|exact⟨bZ aY rfl rfl rfl rfl rfl rfl rfl rfl rfl,fun h=>nomatch h⟩|exact ba ha
  refine' bL (build aY Z Z Z Z) ?p_12 Z Z Z (by kernel_rfl) Z ?h_12
  case' h_12=>skip
  case p_12=>refine⟨fun ha=>ba ha,?_⟩<;>intro ha<;>first|exact⟨build aY rfl rfl rfl rfl,fun h=>nomatch h⟩|exact ba ha
  refine' bL (bZ aY Z Z Z Z Z Z Z Z Z) ?p_13 Z Z Z (by kernel_rfl) Z ?h_13
  case' h_13=>skip
  case p_13=>refine⟨fun ha=>ba ha,?_⟩<;>intro ha<;>first|exact⟨bZ aY rfl rfl rfl rfl rfl rfl rfl rfl rfl,fun h=>nomatch h⟩|exact ba ha
  refine ar ?_ Z
  refine eT (fn:=JV.c) (a:=mJ t) aY Z Z Z Z Z Z Z Z Z Z (fun _=>rfl) (by show(acc.length+1)*80<=_;omega)<|pE Z<|bt aY Z Z Z Z Z Z Z Z<|ae<|bX<|qs<|cu 2 Z<|W.cg [0,1,4] ⟨(k+1,acc++[mJ t]),?_⟩ ?_ Z ?_ ⟨rfl,rfl,rfl,rfl,trivial⟩ ?_ trivial Z
  ·exact⟨hlt,by rw[Φ,hx,y',hacc];rfl⟩
  ·dsimp only;omega
  ·repeat' first|exact trivial|refine⟨rfl,?_⟩|refine⟨bF (by assumption) (by assumption),?_⟩
  repeat' constructor
 have hm:acc=ts.map mJ:=by rw[hacc,he,List.take_length]
 refine ak<|bP<|bQ<|bO<|qs<|aa<|aZ 4 Z<|W.block<|W.len (t:=61) Z Z<|fun hlen=>?_
 try simp only[η,Ex.bG]at hlen
 refine W.ca (ι:={x:Nat×List JV//match x with|(k,bcc)=>k<=ps.length∧bcc=ts.map mJ++(ps.take k).flatMap nr})
  (fun x=>match x.1 with|(k,bcc)=>[(5,.ptr 0 0),(63,.d (.v (.int .i64 ((k:Nat):Int))))]) [(61,_),(62,_)]
  (fun x=>match x.1 with|(k,bcc)=>[(0,[.d (ci 5),.d (ci 0),.d (cs cn),.d (.sl []),.own 1 (bcc.map JV.c)])]) [] [1] 2 (fun x=>match x.1 with|(k,bcc)=>ps.length-k)
  [1,2] ⟨(0,acc),?_⟩ rfl ?_ ⟨rfl,rfl,rfl,rfl,trivial⟩ ?_ trivial rfl ?_
 ·exact⟨ς _,by rw[hm];simp⟩
 ·repeat' constructor
 ·repeat' constructor
 rintro⟨⟨k,bcc⟩,hk,hbcc⟩
 show W _ _ _ _ _ ⟨[(5,.ptr 0 0),(63,.d (.v (.int .i64 ((k:Nat):Int)))),(61,_),(62,_)],[(0,[.d (ci 5),.d (ci 0),.d (cs cn),.d (.sl []),.own 1 (bcc.map JV.c)])],[1],2⟩
 refine aZ 1 Z<|aa<|cr (l:=ps) (k:=k) Z (by simp[Ex.bG,bo]) hk (fun p hx hd hlt=>?_)<|fun he hd=>?_
 ·
  have hpe:=hall p (ζ hx)
  have hpl:=(ok.2.1 p (ζ hx)).2.2.2
  refine ah<|qs<|aa<|W.block<|aa<|ab<|pu (indexAddr (l:=p.c) aY Z Z Z Z Z Z (ε _) (bC hx) Z) Z<|bb 1 Z<|b9 aY Z Z Z<|bt aY Z Z Z Z Z Z Z Z<|ae<|qs<|aZ 4 Z<|W.block<|W.len (t:=68) Z Z<|fun hlen=>?_
  try simp only[η,Ex.bG]at hlen
  refine W.ca (ι:={x:Nat×List JV//match x with|(q,dcc)=>q<=p.evs.length∧dcc=bcc++(p.evs.take q).map (BR p.thread)})
   (fun x=>match x.1 with|(q,dcc)=>[(5,.ptr 0 0),(9,.ptr 1 0),(70,.d (.v (.int .i64 ((q:Nat):Int))))]) [(61,_),(62,_),(63,_),(68,_),(69,_)]
   (fun x=>match x.1 with|(q,dcc)=>[(0,[.d (ci 5),.d (ci 0),.d (cs cn),.d (.sl []),.own 2 (dcc.map JV.c)]),(1,p.c.map A.d)]) [] [2] 3 (fun x=>match x.1 with|(q,dcc)=>p.evs.length-q)
   [0,2,1] ⟨(0,bcc),?_⟩ rfl ?_ ⟨rfl,rfl,rfl,rfl,rfl,rfl,rfl,rfl,rfl,rfl,trivial⟩ ?_ trivial rfl ?_
  ·exact⟨ς _,by simp⟩
  ·repeat' constructor
  ·repeat' constructor
  rintro⟨⟨q,dcc⟩,hk2,hdcc⟩
  show W _ _ _ _ _ ⟨[(5,.ptr 0 0),(9,.ptr 1 0),(70,.d (.v (.int .i64 ((q:Nat):Int)))),(61,_),(62,_),(63,_),(68,_),(69,_)],[(0,[.d (ci 5),.d (ci 0),.d (cs cn),.d (.sl []),.own 2 (dcc.map JV.c)]),(1,p.c.map A.d)],[2],3⟩
  have hk:=hk2
  have hdl:dcc.length<=22000:=by
   rw[hdcc,hbcc,υ,υ,η,η,V']
   have:=xD ps k
   omega
  refine aZ 1 Z<|aa<|cr (l:=p.evs) (k:=q) Z (by simp[Ex.bG,bo]) hk (fun e hx hd hlt=>?_)<|fun he hd=>?_
  ·
   obtain⟨f,hf,hw,hst⟩:=vO (hpe e (ζ hx)) p.thread
   refine ah<|qs<|aa<|W.block<|aa<|ab<|pu (indexAddr (l:=e.c) aY Z Z Z Z Z Z (ε _) (bC hx) Z) Z<|bb 1 Z<|b9 aY Z Z Z<|bt aY Z Z Z Z Z Z Z Z<|ae<|qs<|W.ko aY [] [] [] [] 7 (by kernel_rfl) (by kernel_rfl) Z Z ?_
   refine' bL (ev aY Z) ?p_14 Z Z Z (by kernel_rfl) Z ?h_14
   case' h_14=>skip
   case p_14=>refine⟨fun ha=>ba ha,?_⟩<;>intro ha<;>first|exact⟨ev aY rfl,fun h=>nomatch h⟩|exact ba ha
   refine' bL (ev aY Z) ?p_15 Z Z Z (by kernel_rfl) Z ?h_15
   case' h_15=>skip
   case p_15=>refine⟨fun ha=>ba ha,?_⟩<;>intro ha<;>first|exact⟨ev aY rfl,fun h=>nomatch h⟩|exact⟨cS aY rfl rfl rfl rfl,fun h=>nomatch h⟩|exact⟨cR aY rfl rfl rfl rfl rfl,fun h=>nomatch h⟩|exact ba ha
   refine' bL (ev aY Z) ?p_16 Z Z Z (by kernel_rfl) Z ?h_16
   case' h_16=>skip
   case p_16=>refine⟨fun ha=>ba ha,?_⟩<;>intro ha<;>first|exact⟨ev aY rfl,fun h=>nomatch h⟩|exact ba ha
   refine' bL (ev aY Z) ?p_17 Z Z Z (by kernel_rfl) Z ?h_17
   case' h_17=>skip
   case p_17=>refine⟨fun ha=>ba ha,?_⟩<;>intro ha<;>first|exact⟨ev aY rfl,fun h=>nomatch h⟩|exact⟨cS aY rfl rfl rfl rfl,fun h=>nomatch h⟩|exact⟨cR aY rfl rfl rfl rfl rfl,fun h=>nomatch h⟩|exact ba ha
   refine' bL (ev aY Z) ?p_18 Z Z Z (by kernel_rfl) Z ?h_18
   case' h_18=>skip
   case p_18=>refine⟨fun ha=>ba ha,?_⟩<;>intro ha<;>first|exact⟨ev aY rfl,fun h=>nomatch h⟩|exact⟨cS aY rfl rfl rfl rfl,fun h=>nomatch h⟩|exact⟨cR aY rfl rfl rfl rfl rfl,fun h=>nomatch h⟩|exact ba ha
   refine' bL (bk Z Z Z (wh p.thread e f hf hst) Z) ?p_19 Z Z Z (by kernel_rfl) Z ?h_19
   case' h_19=>skip
   case p_19=>refine⟨fun ha=>ba ha,?_⟩<;>intro ha<;>first|exact⟨bk rfl rfl rfl (wh p.thread e f hf hst) rfl,fun h=>nomatch h⟩|exact ba ha
   refine' bL (bZ aY Z Z Z Z Z Z Z Z Z) ?p_20 Z Z Z (by kernel_rfl) Z ?h_20
   case' h_20=>skip
   case p_20=>refine⟨fun ha=>ba ha,?_⟩<;>intro ha<;>first|exact⟨bZ aY rfl rfl rfl rfl rfl rfl rfl rfl rfl,fun h=>nomatch h⟩|exact ba ha
   refine ar ?_ Z
   refine eT (fn:=JV.c) (a:=fP f p.thread e) aY Z Z Z Z Z Z Z Z Z Z (fun _=>rfl) (by show(dcc.length+1)*80<=_;omega)<|pE Z<|bt aY Z Z Z Z Z Z Z Z<|ae<|bX<|qs<|cu 2 Z<|W.cg [0,1,4] ⟨(q+1,dcc++[fP f p.thread e]),?_⟩ ?_ Z ?_ ⟨rfl,rfl,rfl,rfl,rfl,rfl,rfl,rfl,rfl,rfl,trivial⟩ ?_ trivial Z
   ·exact⟨hlt,by rw[Φ,hx,y',hdcc,←hw,M'];rfl⟩
   ·dsimp only;omega
   ·repeat' first|exact trivial|refine⟨rfl,?_⟩|refine⟨bF (by assumption) (by assumption),?_⟩
   repeat' constructor
  have hd3:dcc=ts.map mJ++(ps.take (k+1)).flatMap nr:=by
   rw[hdcc,he,List.take_length,hbcc,Φ,hx,List.flatMap_append,M']
   congr 2
   simp[nr]
  refine ak<|bP<|bQ<|bO<|bX<|qs<|cu 2 Z<|W.cg [0,2] ⟨(k+1,dcc),?_⟩ ?_ Z ?_ ⟨rfl,rfl,rfl,rfl,trivial⟩ ?_ trivial Z
  ·exact⟨hlt,hd3⟩
  ·dsimp only;omega
  ·repeat' first|exact trivial|refine⟨rfl,?_⟩|refine⟨bF (by assumption) (by assumption),?_⟩
  repeat' constructor
 have hb2:bcc=kU ts ps:=by rw[hbcc,he,List.take_length];rfl
 have hP:=EJ (dQ ts ps) hz
 rw[e7]at hP
 rw[show(dQ ts ps).kids=bcc from hb2.symm]at hP
 refine ak<|bP<|bQ<|bO<|qs<|aa<|ab<|bb 1 Z<|pu (bk Z Z Z hP Z) Z<|bb 5 Z<|ae<|qs<|aa<|aZ 2 Z<|bc Z (fun h91=>?_)<|fun h91=>?_
 ·
  have hg:ky ts ps=(cn,b8 (dQ ts ps) 1):=by unfold ky;rw[if_neg h0,if_pos (by simpa using h91)]
  refine aZ 3 Z<|W.ret<|be<|QF.bl trivial Z ?_
  rw[hg];rfl
 have hcj:¬b8 (dQ ts ps) 1≠0:=by simpa using h91
 refine ah<|qs<|aa<|aZ 3 Z<|bc Z (fun h95=>?_)<|fun h95=>?_
 ·
  have hg:ky ts ps=(cn,7):=by unfold ky;rw[if_neg h0,if_neg hcj,if_pos (by simp at h95;omega)]
  refine aZ 2 Z<|W.ret<|be<|QF.bl trivial Z ?_
  rw[hg];rfl
 have hg:ky ts ps=(fK (dQ ts ps),0):=by unfold ky;rw[if_neg h0,if_neg hcj,if_neg (by simp at h95;omega)]
 refine ah<|qs<|aZ 3 Z<|W.ret<|QF.bl trivial Z ?_
 rw[hg];rfl
abbrev wc(g:Nat)(x:gO):List A:=[.own g (x.ids.map ic),.mp (g+1) (eP ik cs x.names),.mo (g+2) (iU ik Ev.c x.evs) none none]
theorem we(x:gO)(id)(M:w7 1000000 x):cU Tryz.prog 74 [.ptr 0 0,.d (ci id)] [wc 1 x] 3 (.tup []) [wc 1 {x with ids:=fe x.ids id}] 3:=by
 obtain⟨ids,names,evs⟩:=x;have hid:ids.length<=1000000:=M.2.2.1;refine cU.dY aY (n:=21) (rs:=[]) Tryz.func74 (by kernel_rfl) Z Tryz.ntmps74 Tryz.results74 Z Z fun C hC N=>aa<|ab<|bb 5 Z<|pu (bk Z Z Z (zj ids id) Z) Z<|pE Z<|ae<|qs<|bc Z (fun I=>?_)<|fun I=>?_;·
  have J:fe ids id=ids++[id]:=if_neg (by revert I;cases(ids.any fun x=>decide (id=x))<;>simp);refine ab<|bb 6 Z<|pu (bZ aY Z Z Z Z Z Z Z Z Z) Z<|eT (fn:=ic) (a:=id) aY Z Z Z Z Z Z Z Z Z Z (fun _=>rfl) (by show(ids.length+1)*8<=_;omega)<|bb 2 Z<|bt aY Z Z Z Z Z Z Z Z<|ae<|an aY [4,2,3] trivial Z Z Z Z ?_ ?_;·rw[J];exact⟨rfl,trivial⟩
  rfl
 have J:fe ids id=ids:=if_pos (by revert I;cases(ids.any fun x=>decide (id=x))<;>simp);refine ah (an aY [1,2,3] trivial Z Z Z Z ?_ ?_);·rw[J];exact⟨rfl,trivial⟩
 rfl
theorem H3{n}{x:gO}(h:w7 n x)(id):((cC x.evs id).getD []).length<=n:=by
 unfold cC
 cases q:x.evs.find? fun p=>decide (p.1=id)with
 |none=>simp
 |some p=>simpa[q]using h.2.2.2 p (List.mem_of_find?_eq_some q)
set_option maxHeartbeats 1000000 in
theorem El(x:gO)(j:JV)(hj:zq j)(O:w7 1000000 x):cU Tryz.prog 24 [.ptr 0 0,.ag j.c] [wc 1 x] 3 (.d (ci (fC x j).2)) [wc 1 (fC x j).1] 3:=by
 obtain⟨ids,names,evs⟩:=x;have b0:=H3 O (cN j).1;have hid:ids.length<=1000000:=O.2.2.1;obtain⟨M,X⟩:∃M,M=fe ids (cN j).1:=⟨_,rfl⟩;obtain⟨cur,U⟩:∃cur,cur=(cC evs (cN j).1).getD []:=⟨_,rfl⟩;have b2:cur.length<=1000000:=by rw[U];exact b0
 refine cU.dY aY (n:=90) (rs:=[.tmp 4]) Tryz.func24 (by kernel_rfl) Z Tryz.ntmps24 Tryz.results24 Z Z fun C hC hG=>aa<|ab<|cz Z Z Z<|pE Z<|ae<|qs<|aa<|ab<|bb 4 Z<|pu (build aY Z Z Z Z) Z<|cz Z Z Z<|pE Z<|ae<|qs<|aa<|ab<|pE Z<|bT [5] [] Z Z Z Z Z ((vH j (dv j))) Z Z (by rfl) (by rfl) Z Z Z Z<|bb 5 Z<|ae<|qs<|aa<|aZ 4 Z<|bc Z (fun ad=>?_)<|fun ad=>?_;·
  have J:fC ⟨ids,names,evs⟩ j=(⟨ids,names,evs⟩,10):=if_pos ad;refine aZ 1 Z<|W.ret<|be<|an aY [1,2,3] trivial Z Z Z Z ?_ ?_;·rw[J];exact⟨rfl,trivial⟩
  rw[J];rfl
 have hb:¬db j (dv j)=true:=by rw[show db j (dv j)=false from ad];simp
 refine ah<|qs<|aa<|aZ 2 Z<|bc Z (fun ai=>?_)<|fun ai=>?_;·
  have N:(cK j dZ 4).s≠pM:=by simpa[pM]using ai
  have hE:fC ⟨ids,names,evs⟩ j=(if(cN j).2.2=0 then(As ⟨ids,names,evs⟩ (cN j).1 (cN j).2.1,0)else(⟨ids,names,evs⟩,(cN j).2.2)):=by unfold fC;rw[if_neg hb,if_pos N]
  refine aa<|ab<|bb 1 Z<|pu (bk Z Z Z (GA j (hj.val _ _)) Z) Z<|bb 4 Z<|b9 aY Z Z Z<|pE Z<|bt aY Z Z Z Z Z Z Z Z<|pE Z<|ae<|qs<|aa<|aZ 2 Z<|bc Z (fun aj=>?_)<|fun aj=>?_;·
   have h0:(cN j).2.2=0:=by simpa using aj
   have J:fC ⟨ids,names,evs⟩ j=(⟨M,names,dm evs (cN j).1 (cur++[(cN j).2.1])⟩,(cN j).2.2):=by rw[hE,if_pos h0,X,U,h0];rfl
   refine aa (W.nl [(0,.ptr 0 0),(9,.ptr 1 0)] [8,10] [(0,[.own 2 (M.map ic),.mp 3 (eP ik cs names),.mo 4 (iU ik Ev.c evs) none none]),(1,(cN j).2.1.c.map A.d)] [] [2,3,4] 5 ?_ ?_);·
    refine ab<|bb 2 Z<|bT [0] [1,2,3] Z Z Z Z Z ((we ⟨ids,names,evs⟩ (cN j).1 O)) Z Z (by rfl) (by rfl) Z Z Z Z<|ae<|dL [0,7,9,10,11] Z ?_ ⟨rfl,rfl,rfl,rfl,trivial⟩ ?_ trivial Z;·repeat' constructor
    rw[X];repeat' constructor
   refine qs (W.JD 0 2 Z Z Z fun b=>?_);refine' W.uw aY (fun bx=>[(0,[.own 2 (M.map ic),.mp 3 (eP ik cs names),.mo 5 (iU ik Ev.c evs) (some (ik (cN j).1)) (some b)])::bx,(0,[.own 2 (M.map ic),.mp 3 (eP ik cs names),.mo 5 (iU ik Ev.c evs) (some (ik (cN j).1)) (some b)])::bx]) [[5,6,2,3],[7,5,2,3]] [7,8] [10,13] 14 (by kernel_rfl) (by kernel_rfl) Z Z ?hL_1;case' hL_1=>skip
   refine' bL (ev aY Z) ?p_2 Z Z Z (by kernel_rfl) Z ?h_2;case' h_2=>skip
   refine' bL (ev aY Z) ?p_3 Z Z Z (by kernel_rfl) Z ?h_3;case' h_3=>skip
   refine' bL (ev aY Z) ?p_4 Z Z Z (by kernel_rfl) Z ?h_4;case' h_4=>skip
   refine' bL (vZ aY 0 2 Z Z Z Z) ?p_5 Z Z Z (by kernel_rfl) Z ?h_5;case' h_5=>skip
   refine' bL (ev aY Z) ?p_6 Z Z Z (by kernel_rfl) Z ?h_6;case' h_6=>skip
   refine' bL (ev aY Z) ?p_7 Z Z Z (by kernel_rfl) Z ?h_7;case' h_7=>skip
   refine' bL (ev aY Z) ?p_8 Z Z Z (by kernel_rfl) Z ?h_8;case' h_8=>skip
   refine' bL (ev aY Z) ?p_9 Z Z Z (by kernel_rfl) Z ?h_9;case' h_9=>skip
   refine' bL (vZ aY 0 2 Z Z Z Z) ?p_10 Z Z Z (by kernel_rfl) Z ?h_10;case' h_10=>skip
   refine' bL (ev aY Z) ?p_11 Z Z Z (by kernel_rfl) Z ?h_11;case' h_11=>skip
   refine' zp ?x_12 Z Z Z (by kernel_rfl) (fun h=>ba h) Z ?h_12;case x_12=>
    intro b hb g;cases b;·exact ba hb
    refine GS (kf:=ik) (fn:=Ev.c) (l:=evs) (a:=(cN j).1) (x:=cur.map Ev.c) aY 0 2 Z Z Z Z Z Z Z Z (iZ (aY.iC Z Z)) Z Z Z O.2.1 (by rw[U]) Z Z<|ae ?_;refine' wY Z ?_ ?_ ?_ ?_;all_goals try exact Z
   case' h_12=>skip
   refine' bL (ev aY Z) ?p_13 Z Z Z (by kernel_rfl) Z ?h_13;case' h_13=>skip
   refine' bL (bZ aY Z Z Z Z Z Z Z Z Z) ?p_14 Z Z Z (by kernel_rfl) Z ?h_14;case' h_14=>skip
   refine' zp ?x_15 Z Z Z (by kernel_rfl) (fun h=>ba h) Z ?h_15;case x_15=>
    intro b hb g;cases b;·exact ba hb
    refine eT (fn:=Ev.c) (l:=cur) (a:=(cN j).2.1) aY Z Z Z Z Z Z Z Z Z Z (fun _=>rfl) (by show(cur.length+1)*72<=_;omega)<|ae ?_;refine' wY Z ?_ ?_ ?_ ?_;all_goals try exact Z
   case' h_15=>skip
   case p_2=>refine⟨fun I=>ba I,?_,fun I=>ba I,?_,fun I=>ba I,?_⟩<;>intro I<;>first|exact⟨ev aY Z,fun h=>nomatch h⟩|exact ba I
   case p_3=>refine⟨fun I=>ba I,?_,fun I=>ba I,?_,fun I=>ba I,?_⟩<;>intro I<;>first|exact⟨ev aY Z,fun h=>nomatch h⟩|exact ba I
   case p_4=>refine⟨fun I=>ba I,?_,fun I=>ba I,?_,fun I=>ba I,?_⟩<;>intro I<;>first|exact⟨ev aY Z,fun h=>nomatch h⟩|exact ba I
   case p_5=>refine⟨fun I=>ba I,?_,fun I=>ba I,?_,fun I=>ba I,?_⟩<;>intro I<;>first|exact⟨vZ aY 0 2 Z Z Z Z,fun h=>nomatch h⟩|exact ba I
   case p_6=>refine⟨fun I=>ba I,?_,fun I=>ba I,?_,fun I=>ba I,?_⟩<;>intro I<;>first|exact⟨ev aY Z,fun h=>nomatch h⟩|exact ba I
   case p_7=>refine⟨fun I=>ba I,?_,fun I=>ba I,?_,fun I=>ba I,?_⟩<;>intro I<;>first|exact⟨ev aY Z,fun h=>nomatch h⟩|exact ba I
   case p_8=>refine⟨fun I=>ba I,?_,fun I=>ba I,?_,fun I=>ba I,?_⟩<;>intro I<;>first|exact⟨ev aY Z,fun h=>nomatch h⟩|exact ba I
   case p_9=>refine⟨fun I=>ba I,?_,fun I=>ba I,?_,fun I=>ba I,?_⟩<;>intro I<;>first|exact⟨ev aY Z,fun h=>nomatch h⟩|exact ba I
   case p_10=>refine⟨fun I=>ba I,?_,fun I=>ba I,?_,fun I=>ba I,?_⟩<;>intro I<;>first|exact⟨vZ aY 0 2 Z Z Z Z,fun h=>nomatch h⟩|exact ba I
   case p_11=>refine⟨fun I=>ba I,?_,fun I=>ba I,?_,fun I=>ba I,?_⟩<;>intro I<;>first|exact⟨ev aY Z,fun h=>nomatch h⟩|exact ba I
   case p_13=>refine⟨fun I=>ba I,?_,fun I=>ba I,?_,fun I=>ba I,?_⟩<;>intro I<;>first|exact⟨ev aY Z,fun h=>nomatch h⟩|exact⟨cS aY Z Z Z Z,fun h=>nomatch h⟩|exact⟨cR aY Z Z Z Z Z,fun h=>nomatch h⟩|exact ba I
   case p_14=>refine⟨fun I=>ba I,?_,fun I=>ba I,?_,fun I=>ba I,?_⟩<;>intro I<;>first|exact⟨bZ aY Z Z Z Z Z Z Z Z Z,fun h=>nomatch h⟩|exact ba I
   refine ar ?_ Z;refine Ia (kf:=ik) (fn:=Ev.c) (l:=evs) (a:=(cN j).1) (y:=cur++[(cN j).2.1]) aY 0 2 Z Z Z Z Z Z Z (iZ (aY.iC Z Z)) Z Z Z O.2.1 Z Z<|ae<|qs<|aZ 2 Z<|W.ret<|be<|an aY [2,3,8] trivial Z Z Z Z ?_ ?_;·rw[J];exact⟨rfl,trivial⟩
   rw[J];rfl
  have h0:¬(cN j).2.2=0:=by simpa using aj
  have J:fC ⟨ids,names,evs⟩ j=(⟨ids,names,evs⟩,(cN j).2.2):=by rw[hE,if_neg h0]
  refine ah<|qs<|aZ 2 Z<|W.ret<|be<|an aY [1,2,3] trivial Z Z Z Z ?_ ?_;·rw[J];exact⟨rfl,trivial⟩
  rw[J];rfl
 have N:¬(cK j dZ 4).s≠pM:=by simpa[pM]using ai
 refine ah<|qs<|aa<|ab<|pE Z<|bT [5] [] Z Z Z Z Z ((kD j (db j (dv j)) cm 4)) Z Z (by rfl) (by rfl) Z Z Z Z<|bb 2 Z<|ae<|qs<|aa<|aa<|?_
 apply bJ;(case hb=>rfl);·repeat' first|refine b7 Z Z Z|refine bE Z Z ?_|refine bD Z Z Z Z ?_|refine pE Z ?_|refine ae ?_|refine pu (bZ aY Z Z Z Z Z Z Z Z Z) Z ?_|refine pu (bk Z Z Z (vw j (db j (dv j)||fk j cm 4) sO) Z) Z ?_|(apply bU;(case hj=>rfl);(case hl=>rfl))
 refine qs (bc Z (fun a1=>?_) (fun a1=>?_));·
  have J:fC ⟨ids,names,evs⟩ j=(⟨ids,names,evs⟩,10):=by unfold fC;rw[if_neg hb,if_neg N,if_pos a1]
  refine aZ 1 Z<|W.ret<|be<|an aY [1,2,3] trivial Z Z Z Z ?_ ?_;·rw[J];exact⟨rfl,trivial⟩
  rw[J];rfl
 have hg:¬(bif (db j (dv j)||fk j cm 4)then true else !iG j sO)=true:=by rw[show(bif (db j (dv j)||fk j cm 4)then true else !iG j sO)=false from a1];simp
 refine ah<|qs<|aa<|aa<|ab<|pE Z<|pu (bk Z Z Z (sZ (cK j cm 4).s) Z) Z ?_
 refine pE Z<|ae<|qs<|aZ 2 Z<|bc Z (fun a6=>?_)<|fun a6=>?_;·
  have J:fC ⟨ids,names,evs⟩ j=(⟨ids,names,evs⟩,cw (cK j cm 4).s):=by unfold fC;rw[if_neg hb,if_neg N,if_neg hg,if_pos (by simpa using a6)]
  refine aZ 2 Z<|W.ret<|be<|an aY [1,2,3] trivial Z Z Z Z ?_ ?_;·rw[J];exact⟨rfl,trivial⟩
  rw[J];rfl
 have a8:¬cw (cK j cm 4).s≠0:=by simpa using a6
 refine ah<|qs<|aa<|aa<|ab<|bb 5 Z ?_
 refine pu (nY (kf:=ik) (vf:=cs) (l:=names) (a:=(cK j cF 3).n) (z:=cn) aY Z Z Z Z Z (iZ (aY.iC Z Z)) Z Z Z (fun _ _=>.v _ Z) O.1 Z) Z<|pE Z<|ae<|qs<|bc Z (fun a7=>?_)<|fun a7=>?_;·
  have J:fC ⟨ids,names,evs⟩ j=(⟨ids,names,evs⟩,4):=by unfold fC;rw[if_neg hb,if_neg N,if_neg hg,if_neg a8,if_pos (by revert a7;show(!decide ((cC names (cK j cF 3).n).getD cn=cn))=true->_;simp)]
  refine aZ 1 Z<|W.ret<|be<|an aY [1,2,3] trivial Z Z Z Z ?_ ?_;·rw[J];exact⟨rfl,trivial⟩
  rw[J];rfl
 have J:fC ⟨ids,names,evs⟩ j=(y9 ⟨ids,names,evs⟩ (cK j cF 3).n (cK j cm 4).s,0):=by unfold fC;rw[if_neg hb,if_neg N,if_neg hg,if_neg a8,if_neg (by revert a7;show(!decide ((cC names (cK j cF 3).n).getD cn=cn))=false->_;simp)]
 refine ah<|qs<|aa<|ab<|bb 2 Z<|bT [0] [1,2,3] Z Z Z Z Z ((we ⟨ids,names,evs⟩ (cK j cF 3).n O)) Z Z (by rfl) (by rfl) Z Z Z Z<|ae<|qs<|aa<|ab<|bb 6 Z<|HE (kf:=ik) (vf:=cs) (l:=names) (a:=(cK j cF 3).n) (y:=(cK j cm 4).s) aY 0 1 Z Z Z Z Z Z Z Z (iZ (aY.iC Z Z)) Z O.1 Z Z Z<|ae<|qs<|aZ 1 Z<|W.ret<|an aY [9,12,11] trivial Z Z Z Z ?_ ?_;·rw[J];exact⟨rfl,trivial⟩
 rw[J];rfl
attribute [local go_sem] Oper.semAt_some
section
open Go.RowKit
section
set_option maxRecDepth 100000 in
set_option maxHeartbeats 2000000 in
variable {l:List UInt8}{k i:Nat}{w:World}{b:UInt8}
variable {f:List (Nat×A)}
variable {j:JV}
theorem FL:wu Tryz.prog 77:=by
 intro l W J M b1 o1 a len cap R h0 h1 U hle X ad hY;refine(callsIn_wide (n:=0)).1 ?_;refine callsIn_of_wp (F:=Fence.wide) (n:=0) Tryz.func77 Z trivial ?_ Z;simp only[Tryz.ntmps77,List.size_toArray,Ξ,List.length_nil,Nat.reduceAdd,Nat.reduceSub,Array.replicate_succ,Array.replicate_zero,List.push_toArray,List.append_toArray,List.nil_append,List.cons_append]
 gi_wp2
 gi_loopw [4] (fun i wr=>(i=.int .i64 0∧wr=W)∨(i=.int .i64 1000∧(∃a' I,wr.cell? ⟨J,M,none⟩=some (.slice a' len I))∧wr.cell? ⟨b1,o1,none⟩=some (.int .i64 1000)∧R wr)) (fun i _=>1000-(intOf i).toNat)
 case atStart=>exact .inl ⟨rfl,rfl⟩
 case round=>
  rcases hrel with⟨rfl,rfl⟩|⟨rfl,⟨a',I,h2⟩,h3,N⟩
  ·
   obtain⟨fn,tmps,assign,body,hy,N⟩:=hY;have ai:wr.cell? ⟨J,M,none⟩=some (.slice (some a) len cap):=h0;have aj:wr.cell? ⟨b1,o1,none⟩=some (.int .i64 1000):=h1
   gi_wp2
   gi_big_region
   rw[show min (1000:Int) (len:Int)=(len:Int)from by omega];have a1:wr.drew.cell? ⟨J,M,none⟩=some (.slice (some a) len cap):=h0;have a6:wr.drew.cell? ⟨b1,o1,none⟩=some (.int .i64 1000):=h1
   gi_wp2
   refine⟨rfl,N.mono ?_⟩;rintro e W3 ⟨rfl,⟨a',I,h2⟩,h3,O⟩
   gi_wp2
   go_roundw
   case rel=>exact .inr ⟨rfl,⟨_,_,h2⟩,h3,O⟩
   case measure=>simp[intOf]
  gi_wp2
  go_end0
  exact⟨⟨_,rfl⟩,N⟩
end
end
theorem Gq(evs:List Ev):bm Tryz.prog 26 [.d (.sl (evs.map Ev.c)),.d (ci 1000)] (.clo 77 [.rowd [.sl (evs.map Ev.c)],.rowd [ci 1000]]) 0:=by
 refine bm.bW (n:=9) (ts:=[4]) Tryz.func26 (by kernel_rfl) Z Tryz.ntmps26 Tryz.results26 Z Z fun C hC J=>aa<|ab<|cz Z Z Z<|cz Z Z Z<|pE Z<|ae<|qs<|aa<|aZ 2 Z<|bc Z (fun I=>?_)<|fun I=>?_;·exfalso;simp at I
 refine ah<|qs<|aa<|BK 2 (l:=[.sl (evs.map Ev.c)]) Z Z Z Z Z<|BK 3 (l:=[ci 1000]) Z Z Z Z Z<|cu 2 Z<|qs<|W.ret<|QF.bl trivial Z ?_;rfl
theorem JX{id:Int}(h:0<=id∧id<=1000000000000000):(B #[116]).size+(eg id).size<=9223372036854775807:=by
 have h1:(10:Nat)^20=100000000000000000000:=by decide
 have h2:=pf (n:=id) (by omega);have h3:(B #[116]).size=1:=rfl;omega
section
open Go.RowKit
section
set_option maxRecDepth 100000 in
set_option maxHeartbeats 2000000 in
variable {l:List UInt8}{k i:Nat}{w:World}{b:UInt8}
variable {f:List (Nat×A)}
variable {j:JV}
theorem EV:uA Tryz.prog 77:=by
 intro l W I J b1 o1 a cap R h0 h1 M;refine(callsIn_wide (n:=0)).1 ?_;refine callsIn_of_wp (F:=Fence.wide) (n:=0) Tryz.func77 Z trivial ?_ Z;simp only[Tryz.ntmps77,List.size_toArray,Ξ,List.length_nil,Nat.reduceAdd,Nat.reduceSub,Array.replicate_succ,Array.replicate_zero,List.push_toArray,List.append_toArray,List.nil_append,List.cons_append]
 gi_wp2
 gi_loopw [4] (fun i wr=>i=.int .i64 0∧wr=W) (fun i _=>1000-(intOf i).toNat)
 case atStart=>exact⟨rfl,rfl⟩
 case round=>
  obtain⟨rfl,rfl⟩:=hrel;have N:wr.cell? ⟨I,J,none⟩=some (.slice a 0 cap):=h0;have O:wr.cell? ⟨b1,o1,none⟩=some (.int .i64 1000):=h1
  gi_wp2
  go_end0
  exact⟨⟨_,rfl⟩,M⟩
end
end
theorem eh(a w):jB Tryz.prog 73 [.d (.v (.int .i64 a)),.d (.v (.int .i64 w))] [] 0 (.iface 128 (.agg #[.int .i64 a,.int .i64 w])):=by
 refine jB.bW (n:=8) Tryz.func73 (by kernel_rfl) Z Tryz.ntmps73 Z fun C hC I=>ab<|bb 2 Z<|pu (build aY Z Z Z Z) Z<|pu (Ir (l:=[.int .i64 a,.int .i64 w]) aY Z Z Z) Z<|Jb Z<|fun st'=>?_;repeat' first|refine du ?_|refine iD ?_|refine lG ?_|refine KP ?_
 exact Z
theorem qb{s:ByteArray}(h:i<s.size):(bg s)[i]?=some (bz (bg s) i):=by
 have:i<(bg s).length:=by rw[bo];exact h
 rw[List.getElem?_eq_getElem this];simp[bz,List.getD_eq_getElem?_getD,List.getElem?_eq_getElem this]
theorem jO(s i):cU Tryz.prog 120 [.ptr 0 0] [gn s i] 0 (.d (.v (.int .u8 (bz (bg s) i).toNat))) [gn s i] 0:=by
 refine cU.dY aY (n:=22) (rs:=[.tmp 2]) Tryz.func120 (by kernel_rfl) Z Tryz.ntmps120 Tryz.results120 Z Z fun C hC M=>aZ 1 Z<|aa<|aa<|W.dD aY (by kernel_rfl) ?_
 refine br (ev aY Z) Z<|br (ev aY Z) Z<|br (ev aY Z) Z<|br (ev aY Z) Z ?_
 refine br (ev aY Z) Z<|br (ev aY Z) Z<|br (ev aY Z) Z<|br (ev aY Z) Z ?_
 refine br (ev aY Z) Z<|br (ev aY Z) Z<|ao ?_
 refine qs (bc Z (fun I=>?_) (fun I=>?_));·
  have J:bz (bg s) i=0:=oE (by rw[bo];simpa using I);refine aZ 1 Z<|W.ret<|be<|an aY [] trivial Z Z Z Z ?_ ?_;·exact⟨rfl,trivial⟩
  rw[J];rfl
 have hb:=qb (s:=s) (i:=i) (by simpa using I);refine ah<|qs<|aa<|W.dD aY (by kernel_rfl)<|br (ev aY Z) Z<|br (ev aY Z) Z<|br (ev aY Z) Z<|br (ev aY Z) Z ?_
 refine br (ev aY Z) Z<|br (ev aY Z) Z<|br (ev aY Z) Z<|br (ev aY Z) Z ?_
 refine br (eJ aY Z Z Z Z (ε _) (gx hb)) Z<|br (ev aY Z) Z<|ao<|qs<|W.ret<|an aY [] trivial Z Z Z Z ?_ ?_;·exact⟨rfl,trivial⟩
 rfl
theorem yN(b):decide (0<=Lib.indexByte (bg (B #[32,9,10,13])) b)=kX b:=by rw[Bool.eq_iff_iff,Δ,ns];unfold kX;simp only[bg,Bool.or_eq_true,Δ];show b∈[32,9,10,13]↔_;simp only[N',List.mem_nil_iff,or_false,←UInt8.toNat_inj];rfl
theorem l8(s:ByteArray)(i)(hi:i<=s.size)(hs:s.size<=1000000000):cU Tryz.prog 72 [.ptr 0 0] [gn s i] 0 (.d (.v (.int .u8 (bz (bg s) (bA (bg s) i)).toNat))) [gn s (bA (bg s) i)] 0:=by
 refine cU.dY aY (n:=35) (rs:=[.tmp 2]) Tryz.func72 (by kernel_rfl) Z Tryz.ntmps72 Tryz.results72 Z Z fun C hC N=>aZ 1 Z<|aa<|W.block<|W.ca (ι:={x:Nat//match x with|j=>j<=s.size∧bA (bg s) j=bA (bg s) i})
  (fun x=>match x.1 with|j=>[(0,.ptr 0 0)]) []
  (fun x=>match x.1 with|j=>[(0,[.d (cs s),.d (.v (.int .i64 (j:Int)))])]) [] [] 1 (fun x=>match x.1 with|j=>s.size-j)
  [0] ⟨i,?_⟩ Z ?_ trivial ?_ trivial Z ?_
 ·exact⟨hi,rfl⟩
 ·repeat' constructor
 ·repeat' constructor
 rintro⟨j,O,J⟩;show W _ _ _ _ _ ⟨[(0,.ptr 0 0)],[(0,[.d (cs s),.d (.v (.int .i64 (j:Int)))])],[],1⟩;iterate 2 refine aa ?_
 apply oD aY;(case hb=>rfl);(case hB=>kernel_rfl);·
  refine br (ev aY Z) Z<|br (ev aY Z) Z<|br (ev aY Z) Z<|br (ev aY Z) Z ?_
  refine br (ev aY Z) Z<|br (ev aY Z) Z<|br (ev aY Z) Z<|br (ev aY Z) Z ?_
  iterate 3 refine br (ev aY Z) Z ?_
  apply oL;(case hj=>rfl);(case hl=>rfl);·
   intro g13;refine dz Z Z (ev aY Z) Z<|dz Z Z (ev aY Z) Z<|dz Z Z (ev aY Z) Z<|dz Z Z (ev aY Z) Z<|dz Z Z (ev aY Z) Z<|dz Z Z (ev aY Z) Z<|dz Z Z (ev aY Z) Z<|dz Z Z (ev aY Z) Z<|dz Z Z (eJ aY Z Z Z Z (ε _) (gx (qb (s:=s) (i:=j) (by simpa using g13)))) Z<|dz Z Z (bk Z Z Z (Bv (B #[32,9,10,13]) (bz (bg s) j)) Z) Z<|dz Z Z (ev aY Z) Z<|br (ev aY Z) Z<|ao<|b7 Z Z Z
  intro g13;iterate 11 refine sj Z Z Z Z ?_
  refine br (ev aY Z) Z<|ao<|b7 Z Z Z
 refine qs (bc Z (fun I=>?_) (fun I=>?_));·
  have q:j<s.size∧kX (bz (bg s) j)=true:=by revert I;rw[yN];simp
  have M:=wg (l:=bg s) (i:=j) (by rw[bo];exact q.1) q.2;refine ah<|qs<|W.block<|ab<|bb 4 Z<|pu (cW (ev aY Z) (y:=((j+1:Nat):Int)) (wrap64 (by omega))) Z<|bb 2 Z<|bt aY Z Z Z Z Z Z Z Z<|ae<|bX<|W.cg [0] ⟨j+1,?_⟩ ?_ Z ?_ trivial ?_ trivial Z;·exact⟨q.1,by rw[<-M,J]⟩
  ·dsimp only;omega
  ·repeat' constructor
  repeat' constructor
 have q:bA (bg s) i=j:=by
  rw[<-J];by_cases q1:j<s.size;·exact e8 (by revert I;rw[yN];simp[q1])
  exact xT (by rw[bo];omega)
 refine ak<|bP<|bQ<|bO<|qs<|aa<|ab<|pE Z<|bT [0] [] Z Z Z Z Z ((jO s j)) Z Z (by rfl) (by rfl) Z Z Z Z<|pE Z<|ae<|qs<|W.ret<|an aY [] trivial Z Z Z Z ?_ ?_;·rw[q];exact⟨rfl,trivial⟩
 rw[q];rfl
theorem lx(s:ByteArray)(c:UInt8)(i)(hs:s.size<=1000000000):dX Tryz.prog 157 [.ptr 0 0,.d (.v (.int .u8 c.toNat))] [gn s i] 0 (jA 128 s (fun _=>.tup []) (dc (bg s) c i)):=by
 refine dX.dY aY (n:=39) (rs:=[]) Tryz.func157 (by kernel_rfl) Z Tryz.ntmps157 Tryz.results157 Z (ig ..) fun C hC M=>aa<|aa<|?_
 apply oD aY;(case hb=>rfl);(case hB=>kernel_rfl);·
  refine br (ev aY Z) Z<|br (ev aY Z) Z<|br (ev aY Z) Z<|br (ev aY Z) Z ?_
  refine br (ev aY Z) Z<|br (ev aY Z) Z<|br (ev aY Z) Z<|br (ev aY Z) Z ?_
  iterate 3 refine br (ev aY Z) Z ?_
  apply oL;(case hj=>rfl);(case hl=>rfl);·
   intro g14;iterate 11 refine sj Z Z Z Z ?_
   refine br (ev aY Z) Z<|ao<|b7 Z Z Z
  intro g14;refine dz Z Z (ev aY Z) Z<|dz Z Z (ev aY Z) Z<|dz Z Z (ev aY Z) Z<|dz Z Z (ev aY Z) Z<|dz Z Z (ev aY Z) Z<|dz Z Z (ev aY Z) Z<|dz Z Z (ev aY Z) Z<|dz Z Z (ev aY Z) Z<|dz Z Z (eJ aY Z Z Z Z (ε _) (gx (qb (s:=s) (i:=i) (by simpa using g14)))) Z<|dz Z Z (ev aY Z) Z<|dz Z Z (ev aY Z) Z<|br (ev aY Z) Z<|ao<|b7 Z Z Z
 refine qs (bc Z (fun I=>?_) (fun I=>?_));·
  have J:dc (bg s) c i=.no i 10:=by unfold dc;rw[if_neg];rintro⟨q1,q2⟩;rw[bo]at q1;revert I;simp[q1,q2]
  refine ab<|bb 4 Z<|dC [] [] Z Z Z Z Z (eh i 10) Z Z (by rfl)<|fun st'=>?_;repeat' refine du ?_
  exact dK (cb J)
 have J:dc (bg s) c i=.ok () (i+1)∧i<s.size:=by
  have q:i<s.size∧bz (bg s) i=c:=by revert I;simp;intro q1 q2;exact⟨q1,UInt8.toNat_inj.1 (by omega)⟩
  exact⟨by unfold dc;rw[if_pos ⟨by rw[bo];exact q.1,q.2⟩],q.1⟩
 refine ah<|qs<|ab<|bb 4 Z<|pu (cW (ev aY Z) (y:=((i+1:Nat):Int)) (wrap64 (by omega))) Z<|bb 2 Z<|bt aY Z Z Z Z Z Z Z Z<|ae<|eA (cp (J.1))<|an aY [] trivial Z Z Z Z ?_ ?_;·exact⟨rfl,trivial⟩
 rfl
theorem la(s w:ByteArray)(i)(hs:s.size<=1000000000):dX Tryz.prog 114 [.ptr 0 0,.d (.v (.string w))] [gn s i] 0 (jA 128 s (fun _=>.tup []) (dR (bg s) (bg w) i)):=by
 refine dX.dY aY (n:=16) (rs:=[]) Tryz.func114 (by kernel_rfl) Z Tryz.ntmps114 Tryz.results114 Z (ig ..) fun C hC hG=>aZ 3 Z<|W.block<|W.lj (t:=1) Z<|fun hok=>?_
 have hlen:=kb hok
 refine W.ca (ι:={x:Nat×Nat//match x with|(k,j)=>k<=(bg w).length∧dR (bg s) ((bg w).drop k) j=dR (bg s) (bg w) i})
  (fun x=>match x.1 with|(k,j)=>[(0,.ptr 0 0),(7,.d (.v (.int .i64 ((k:Nat):Int))))]) [(1,_),(6,_)]
  (fun x=>match x.1 with|(k,j)=>[(0,[.d (cs s),.d (.v (.int .i64 (j:Int)))])]) [] [] 1 (fun x=>match x.1 with|(k,j)=>(bg w).length-k)
  [0] ⟨(0,i),?_⟩ rfl ?_ ⟨rfl,rfl,rfl,rfl,trivial⟩ ?_ trivial rfl ?_
 ·exact⟨ς _,rfl⟩
 ·repeat' constructor
 ·repeat' constructor
 rintro⟨⟨k,j⟩,hk,hI⟩
 show W _ _ _ _ _ ⟨[(0,.ptr 0 0),(7,.d (.v (.int .i64 ((k:Nat):Int)))),(1,_),(6,_)],[(0,[.d (cs s),.d (.v (.int .i64 (j:Int)))])],[],1⟩
 refine aZ 1 Z<|aa<|cr (l:=bg w) (k:=k) Z (by simp[Ex.bG,bo]) hk (fun b hx hd hlt=>?_)<|fun he hd=>?_
 ·
  rw[hd]at hI
  simp only[dR]at hI
  refine ah<|qs<|aa<|W.block<|aZ 2 Z<|ab<|bb 3 Z<|pu (eJ aY Z Z Z Z (ε _) (gx (by assumption))) Z ?_
  cases hc14:dc (bg s) b j with
  |no a14 w14=>
   refine dC [0] [] Z Z Z Z Z ((lx s b j hs).ib (cb hc14)) Z Z (by rfl) (fun st'=>?_)
   repeat' first|refine du ?_|refine iD ?_|refine lG ?_
   refine dK (cb (by rw[<-hI,hc14]))
  |ok y14 i14=>
   refine bT [0] [] Z Z Z Z Z ((lx s b j hs).ret (cp hc14)) Z Z (by rfl) (by rfl) Z Z Z Z<|ae<|bX<|qs<|cu 2 Z<|W.cg [0] ⟨(k+1,i14),?_⟩ ?_ Z ?_ ⟨rfl,rfl,rfl,rfl,trivial⟩ ?_ trivial Z
   ·exact⟨hlt,by rw[<-hI,hc14]⟩
   ·dsimp only;omega
   ·repeat' first|exact trivial|refine⟨rfl,?_⟩|refine⟨bF (by assumption) (by assumption),?_⟩
   repeat' constructor
 rw[hd]at hI
 simp only[dR]at hI
 refine ak<|bP<|bQ<|bO<|eA (cp (hI.symm))<|an aY [] trivial Z Z Z Z ?_ ?_
 ·exact⟨rfl,trivial⟩
 rfl
def jz(l:List UInt8)(c:UInt8)(i:Nat):PE Bool:=
 if bz l (bA l i)=44 then .ok true (bA l i+1)else match dc l c (bA l i)with|.no a w=>.no a w|.ok _ j=>.ok false j
theorem tg(s:ByteArray)(c:UInt8)(i)(hi:i<=s.size)(hs:s.size<=1000000000):dX Tryz.prog 159 [.ptr 0 0,.d (.v (.int .u8 c.toNat))] [gn s i] 0 (jA 128 s (fun b=>.d (.v (.bool b))) (jz (bg s) c i)):=by
 have hle:bA (bg s) i<=s.size:=by have:=eH (l:=bg s) (i:=i) (by rw[bo];exact hi);rwa[bo]at this
 refine dX.dY aY (n:=18) (rs:=[.tmp 4]) Tryz.func159 (by kernel_rfl) Z Tryz.ntmps159 Tryz.results159 Z (ig ..) fun C hC U=>aZ 1 Z<|aa<|aa<|ab<|pE Z<|bT [0] [] Z Z Z Z Z ((l8 s i hi hs)) Z Z (by rfl) (by rfl) Z Z Z Z ?_
 refine pE Z (ae (qs (bc Z (fun I=>?_) (fun I=>?_))));·
  have q:bz (bg s) (bA (bg s) i)=44:=UInt8.toNat_inj.1 (by show _=44;simp at I;omega);have J:jz (bg s) c i=.ok true (bA (bg s) i+1):=by unfold jz;rw[if_pos q]
  refine aa<|ab<|bb 4 Z<|pu (cW (ev aY Z) (y:=((bA (bg s) i+1:Nat):Int)) (wrap64 (by omega))) Z<|bb 2 Z<|bt aY Z Z Z Z Z Z Z Z<|ae<|qs<|aZ 1 Z<|W.ret<|be<|eA (cp (J))<|an aY [] trivial Z Z Z Z ?_ ?_;·exact⟨rfl,trivial⟩
  rfl
 have q:¬bz (bg s) (bA (bg s) i)=44:=by intro q;rw[q]at I;simp at I
 have J:jz (bg s) c i=match dc (bg s) c (bA (bg s) i)with|.no a w=>.no a w|.ok _ j=>.ok false j:=by unfold jz;rw[if_neg q]
 refine ah (qs (aa (ab (bb 2 Z ?_))))
 cases hc17:dc (bg s) c (bA (bg s) i)with
 |no M N=>
  refine dC [0] [] Z Z Z Z Z ((lx s c (bA (bg s) i) hs).ib (cb hc17)) Z Z (by rfl) (fun st'=>?_);repeat' refine du ?_
  refine dK (cb (by rw[J,hc17]))
 |ok O i17=>
  refine bT [0] [] Z Z Z Z Z ((lx s c (bA (bg s) i) hs).ret (cp hc17)) Z Z (by rfl) (by rfl) Z Z Z Z<|ae<|qs<|aZ 1 Z<|W.ret<|eA (cp ((by rw[J,hc17])))<|an aY [] trivial Z Z Z Z ?_ ?_;·exact⟨rfl,trivial⟩
  rfl
def iL(l:List UInt8)(i:Nat):PE Nat:=match lM (bz l i)with|some n=>.ok n i|none=>.no i 10
theorem KF:∀n:Fin 256,IntKind.u8.wrap (((BitVec.ofInt IntKind.u8.bits (n.val:Int))|||BitVec.ofInt IntKind.u8.bits 32).toNat:Int)=(((UInt8.ofNat n.val)|||32).toNat:Int):=by decide+kernel
theorem GW(b:UInt8):IntKind.u8.wrap (((BitVec.ofInt IntKind.u8.bits (b.toNat:Int))|||BitVec.ofInt IntKind.u8.bits 32).toNat:Int)=((b|||32).toNat:Int):=by have h:=KF ⟨b.toNat,b.toNat_lt⟩;rw[h];simp
theorem qp(s i):dX Tryz.prog 176 [.ptr 0 0] [gn s i] 0 (jA 128 s (fun n:Nat=>.d (.v (.int .i64 (n:Int)))) (iL (bg s) i)):=by
 have O:(bz (bg s) i).toNat<256:=(bz (bg s) i).toNat_lt;have N:(bz (bg s) i|||32).toNat<256:=(bz (bg s) i|||32).toNat_lt;refine dX.dY aY (n:=35) (rs:=[.tmp 2]) Tryz.func176 (by kernel_rfl) Z Tryz.ntmps176 Tryz.results176 Z (ig ..) fun C hC U=>aZ 1 Z<|aa<|aa<|ab<|pE Z<|bT [0] [] Z Z Z Z Z ((jO s i)) Z Z (by rfl) (by rfl) Z Z Z Z ?_
 refine pE Z (ae (qs (W.block (aa ?_))));apply bJ;(case hb=>rfl);·repeat' first|refine b7 Z Z Z|refine bE Z Z ?_|refine bD Z Z Z Z ?_|refine pE Z ?_|refine ae ?_|(apply bU;(case hj=>rfl);(case hl=>rfl))
 refine qs (bc Z (fun M=>?_) (fun M=>?_));·
  have q:48<=(bz (bg s) i).toNat∧(bz (bg s) i).toNat<=57:=by revert M;simp;omega
  have I:iL (bg s) i=.ok ((bz (bg s) i).toNat-48) i:=by unfold iL lM;rw[if_pos q]
  refine aa<|ab<|pE Z<|pu (cW (ev aY Z) (y:=(((bz (bg s) i).toNat-48:Nat):Int)) (Eq.trans (wrap_u8 (by omega)) (by omega))) Z<|pu (cW (ev aY Z) (y:=(((bz (bg s) i).toNat-48:Nat):Int)) (wrap64 (by omega))) Z<|pE Z<|ae<|qs<|W.ret<|bw<|be<|eA (cp (I))<|an aY [] trivial Z Z Z Z ?_ ?_;·exact⟨rfl,trivial⟩
  rfl
 have q:¬(48<=(bz (bg s) i).toNat∧(bz (bg s) i).toNat<=57):=by revert M;simp;omega
 refine aa ?_;apply bJ;(case hb=>rfl);·
  refine pE Z<|pu (cW (ev aY Z) (GW (bz (bg s) i))) Z<|bb 2 Z ?_;apply bU;(case hj=>rfl);(case hl=>rfl);·
   refine bE Z Z<|pE Z<|bE Z Z<|pu (cW (ev aY Z) (GW (bz (bg s) i))) Z<|bE Z Z<|bb 3 Z<|ae<|b7 Z Z Z
  refine bD Z Z Z Z<|bD Z Z Z Z<|bD Z Z Z Z<|bb 2 Z ?_
  refine ae (b7 Z Z Z)
 refine qs (bc Z (fun J=>?_) (fun J=>?_));·
  have q2:97<=(bz (bg s) i|||32).toNat∧(bz (bg s) i|||32).toNat<=102:=by revert J;simp only[Bool.cond_false_right,μ,Δ];omega
  have I:iL (bg s) i=.ok ((bz (bg s) i|||32).toNat-97+10) i:=by unfold iL lM;rw[if_neg q,if_pos q2]
  refine aa<|ab<|pE Z<|pu (cW (ev aY Z) (GW (bz (bg s) i))) Z<|pu (cW (ev aY Z) (y:=(((bz (bg s) i|||32).toNat-97:Nat):Int)) (Eq.trans (wrap_u8 (by omega)) (by omega))) Z<|pu (cW (ev aY Z) (y:=(((bz (bg s) i|||32).toNat-97:Nat):Int)) (wrap64 (by omega))) Z<|pu (cW (ev aY Z) (y:=(((bz (bg s) i|||32).toNat-97+10:Nat):Int)) (Eq.trans (wrap64 (by omega)) (by omega))) Z<|pE Z<|ae<|qs<|W.ret<|bw<|be<|eA (cp (I))<|an aY [] trivial Z Z Z Z ?_ ?_;·exact⟨rfl,trivial⟩
  rfl
 have q2:¬(97<=(bz (bg s) i|||32).toNat∧(bz (bg s) i|||32).toNat<=102):=by revert J;simp only[Bool.cond_false_right,Bool.and_eq_false_iff,S'];omega
 have I:iL (bg s) i=.no i 10:=by unfold iL lM;rw[if_neg q,if_neg q2]
 refine ah<|bX<|qs<|aa<|ab<|bb 4 Z<|dC [] [] Z Z Z Z Z (eh i 10) Z Z (by rfl)<|fun st'=>?_;repeat' refine du ?_
 exact dK (cb I)
def Du(l:List UInt8)(i:Nat):PE UInt8:=match dR l [117,48,48] i with
 |.no a w=>.no a w
 |.ok _ j=>match iL l j with
  |.no a w=>.no a w
  |.ok high j1=>if high=1∨7<high then .no j1 10 else match iL l (j1+1)with
   |.no a w=>.no a w
   |.ok low j2=>if known (UInt8.ofNat (16*high+low))=false then .no j2 10 else .ok (UInt8.ofNat (16*high+low)) (j2+1)
theorem kO{c:UInt8}{n:Nat}(I:n<256)(h:(c.toNat:Int)=(n:Int)):c=UInt8.ofNat n:=UInt8.toNat_inj.1 (by rw[UInt8.toNat_ofNat_of_lt' I];omega)
theorem uo(h:((bz l i).toNat:Int)=34∨((bz l i).toNat:Int)=92∨((bz l i).toNat:Int)=47):gl l i=.ok (bz l i) (i+1):=by
 unfold gl;rw[if_pos];rcases h with h|h|h
 ·exact .inl (kO (n:=34) (by decide) h)
 ·exact .inr (.inl (kO (n:=92) (by decide) h))
 exact .inr (.inr (kO (n:=47) (by decide) h))
theorem KW(h:((bz l i).toNat:Int)=110):gl l i=.ok 10 (i+1):=by have e:=kO (n:=110) (by decide) h;unfold gl;rw[e];rfl
theorem KA(h:((bz l i).toNat:Int)=116):gl l i=.ok 9 (i+1):=by have e:=kO (n:=116) (by decide) h;unfold gl;rw[e];rfl
theorem FN(h1:¬((bz l i).toNat:Int)=34)(h2:¬((bz l i).toNat:Int)=92)(h3:¬((bz l i).toNat:Int)=47)(h4:¬((bz l i).toNat:Int)=110)(h5:¬((bz l i).toNat:Int)=116):gl l i=Du l i:=by
 unfold gl Du iL;rw[if_neg (by rintro(e|e|e)<;>rw[e]at h1 h2 h3<;>simp at h1 h2 h3),if_neg (by intro e;rw[e]at h4;simp at h4),if_neg (by intro e;rw[e]at h5;simp at h5)]
 cases dR l [117,48,48] i with
 |no a w=>rfl
 |ok y j=>
  simp only
  cases lM (bz l j)with
  |none=>rfl
  |some high=>
   simp only;by_cases q:high=1∨7<high;·rw[if_pos q,if_pos q]
   rw[if_neg q,if_neg q]
   cases lM (bz l (j+1))with
   |none=>rfl
   |some low=>rfl
theorem yG{n j}(h:iL l i=.ok n j):j=i∧n<16:=by
 unfold iL at h
 cases I:lM (bz l i)with
 |none=>rw[I]at h;cases h
 |some m=>
  rw[I]at h;cases h;refine⟨rfl,?_⟩;unfold lM at I;split at I;·cases I;omega
  split at I;·cases I;omega
  cases I
theorem Jr{n}(h:n<256):((UInt8.ofNat n).toNat:Int)=(n:Int):=by rw[UInt8.toNat_ofNat_of_lt' h]
theorem xx(s:ByteArray)(i)(hi:i<=s.size)(hs:s.size<=1000000000):dX Tryz.prog 158 [.ptr 0 0] [gn s i] 0 (jA 128 s (fun c:UInt8=>.d (.v (.int .u8 c.toNat))) (gl (bg s) i)):=by
 have X:=rq (l:=bg s) (x:=[117,48,48]) (i:=i) (by rw[bo];exact hi);refine dX.dY aY (n:=83) (rs:=[.tmp 2]) Tryz.func158 (by kernel_rfl) Z Tryz.ntmps158 Tryz.results158 Z (ig ..) fun C hC hG=>aZ 1 Z<|aa<|ab<|pE Z<|bT [0] [] Z Z Z Z Z ((jO s i)) Z Z (by rfl) (by rfl) Z Z Z Z<|pE Z<|ae<|qs<|aa<|aZ 1 Z<|W.block<|aa<|aZ 2 Z<|bc Z (fun M=>?_)<|fun M=>?_;·
  have I:gl (bg s) i=.ok (bz (bg s) i) (i+1):=uo (by have:=B' M;omega);refine ah<|qs<|W.gr Z<|aa<|ab<|bb 4 Z<|pu (cW (ev aY Z) (y:=((i+1:Nat):Int)) (wrap64 (by omega))) Z<|bb 2 Z<|bt aY Z Z Z Z Z Z Z Z<|ae<|qs<|aZ 2 Z<|W.ret<|bw<|be<|eA (cp (I))<|an aY [] trivial Z Z Z Z ?_ ?_;·exact⟨rfl,trivial⟩
  rfl
 refine aZ 2 Z<|bc Z (fun M=>?_)<|fun M=>?_;·
  have I:gl (bg s) i=.ok (bz (bg s) i) (i+1):=uo (by have:=B' M;omega);refine ah<|qs<|W.gr Z<|aa<|ab<|bb 4 Z<|pu (cW (ev aY Z) (y:=((i+1:Nat):Int)) (wrap64 (by omega))) Z<|bb 2 Z<|bt aY Z Z Z Z Z Z Z Z<|ae<|qs<|aZ 2 Z<|W.ret<|bw<|be<|eA (cp (I))<|an aY [] trivial Z Z Z Z ?_ ?_;·exact⟨rfl,trivial⟩
  rfl
 refine cu 2 Z<|qs<|bc Z (fun M=>?_)<|fun M=>?_;·
  have I:gl (bg s) i=.ok (bz (bg s) i) (i+1):=uo (by have:=B' M;omega);refine aa<|ab<|bb 4 Z<|pu (cW (ev aY Z) (y:=((i+1:Nat):Int)) (wrap64 (by omega))) Z<|bb 2 Z<|bt aY Z Z Z Z Z Z Z Z<|ae<|qs<|aZ 2 Z<|W.ret<|bw<|be<|eA (cp (I))<|an aY [] trivial Z Z Z Z ?_ ?_;·exact⟨rfl,trivial⟩
  rfl
 refine aZ 2 Z<|bc Z (fun ad=>?_)<|fun ad=>?_;·
  have I:gl (bg s) i=.ok 10 (i+1):=KW (B' ad);refine aa<|ab<|bb 4 Z<|pu (cW (ev aY Z) (y:=((i+1:Nat):Int)) (wrap64 (by omega))) Z<|bb 2 Z<|bt aY Z Z Z Z Z Z Z Z<|ae<|qs<|aZ 1 Z<|W.ret<|bw<|be<|eA (cp (I))<|an aY [] trivial Z Z Z Z ?_ ?_;·exact⟨rfl,trivial⟩
  rfl
 refine aZ 2 Z<|bc Z (fun ai=>?_)<|fun ai=>?_;·
  have I:gl (bg s) i=.ok 9 (i+1):=KA (B' ai);refine aa<|ab<|bb 4 Z<|pu (cW (ev aY Z) (y:=((i+1:Nat):Int)) (wrap64 (by omega))) Z<|bb 2 Z<|bt aY Z Z Z Z Z Z Z Z<|ae<|qs<|aZ 1 Z<|W.ret<|bw<|be<|eA (cp (I))<|an aY [] trivial Z Z Z Z ?_ ?_;·exact⟨rfl,trivial⟩
  rfl
 have I:gl (bg s) i=Du (bg s) i:=FN (by simp_all) (by simp_all) (by simp_all) (by simp_all) (by simp_all);unfold Du at I;refine ah (bX (qs (aa (ab (pE Z ?_)))))
 cases hc40:dR (bg s) [117,48,48] i with
 |no a40 aj=>
  refine dC [0] [] Z Z Z Z Z ((la s (B #[117,48,48]) i hs).ib (cb hc40)) Z Z (by rfl) (fun st'=>?_);repeat' refine du ?_
  refine dK (cb (by rw[I,hc40]))
 |ok a1 i40=>
  refine bT [0] [] Z Z Z Z Z ((la s (B #[117,48,48]) i hs).ret (cp hc40)) Z Z (by rfl) (by rfl) Z Z Z Z ?_;rw[hc40]at I X;rw[bo]at X;simp only at I;refine ae (qs (aa (ab (pE Z ?_))))
  cases hc42:iL (bg s) i40 with
  |no a6 a7=>
   refine dC [0] [] Z Z Z Z Z ((qp s i40).ib (cb hc42)) Z Z (by rfl) (fun st'=>?_);repeat' refine du ?_
   refine dK (cb (by rw[I,hc42]))
  |ok J i42=>
   refine bT [0] [] Z Z Z Z Z ((qp s i40).ret (cp hc42)) Z Z (by rfl) (by rfl) Z Z Z Z ?_;rw[hc42]at I;simp only at I;obtain⟨a8,b0⟩:=yG hc42;refine pE Z<|ae<|qs<|aa<|aa<|?_
   apply bJ;(case hb=>rfl);·repeat' first|refine b7 Z Z Z|refine bE Z Z ?_|refine bD Z Z Z Z ?_|refine pE Z ?_|refine ae ?_|(apply bU;(case hj=>rfl);(case hl=>rfl))
   refine qs (bc Z (fun O=>?_) (fun O=>?_));·
    have q:J=1∨7<J:=by revert O;simp;omega
    rw[if_pos q]at I;refine ab<|bb 4 Z<|dC [] [] Z Z Z Z Z (eh i42 10) Z Z (by rfl)<|fun st'=>?_;repeat' refine du ?_
    exact dK (cb I)
   have q:¬(J=1∨7<J):=by revert O;simp;omega
   rw[if_neg q]at I;refine ah<|qs<|aa<|ab<|bb 4 Z<|pu (cW (ev aY Z) (y:=((i42+1:Nat):Int)) (wrap64 (by omega))) Z<|bb 2 Z<|bt aY Z Z Z Z Z Z Z Z<|ae<|qs<|aa<|ab<|pE Z<|pu (cW (ev aY Z) (y:=((16*J:Nat):Int)) (Eq.trans (wrap64 (by omega)) (by omega))) Z<|pE Z ?_
   cases hc64:iL (bg s) (i42+1)with
   |no b2 b3=>
    refine dC [0] [] Z Z Z Z Z ((qp s (i42+1)).ib (cb hc64)) Z Z (by rfl) (fun st'=>?_);repeat' refine du ?_
    refine dK (cb (by rw[I,hc64]))
   |ok N i64=>
    refine bT [0] [] Z Z Z Z Z ((qp s (i42+1)).ret (cp hc64)) Z Z (by rfl) (by rfl) Z Z Z Z ?_;rw[hc64]at I;simp only at I;obtain⟨b4,b5⟩:=yG hc64;refine pu (cW (ev aY Z) (y:=((16*J+N:Nat):Int)) (Eq.trans (wrap64 (by omega)) (by omega))) Z<|pu (cW (ev aY Z) (y:=((UInt8.ofNat (16*J+N)).toNat:Int)) (Eq.trans (wrap_u8 (by omega)) (Jr (by omega)).symm)) Z<|pE Z<|ae<|qs<|aa<|aa<|ab<|pE Z<|pu (bk Z Z Z (yJ (UInt8.ofNat (16*J+N))) Z) Z ?_
    refine pE Z (ae (qs (bc Z (fun U=>?_) (fun U=>?_))));·
     have q2:known (UInt8.ofNat (16*J+N))=false:=by simpa using U
     rw[if_pos q2]at I;refine ab<|bb 4 Z<|dC [] [] Z Z Z Z Z (eh i64 10) Z Z (by rfl)<|fun st'=>?_;repeat' refine du ?_
     exact dK (cb I)
    have q2:¬known (UInt8.ofNat (16*J+N))=false:=by simpa using U
    rw[if_neg q2]at I;refine ah<|qs<|aa<|ab<|bb 4 Z<|pu (cW (ev aY Z) (y:=((i64+1:Nat):Int)) (wrap64 (by omega))) Z<|bb 2 Z<|bt aY Z Z Z Z Z Z Z Z<|ae<|qs<|aZ 2 Z<|W.ret<|eA (cp (I))<|an aY [] trivial Z Z Z Z ?_ ?_;·exact⟨rfl,trivial⟩
    rfl
def kH(l:List UInt8)(i j:Nat):ByteArray:=⟨((l.drop i).take (j-i)).toArray⟩
def jG(l:List UInt8)(i j:Nat)(u:ByteArray):PE JV:=if(jR u).2=true then .ok (.mk 3 (jR u).1 (B #[]) [] []) j else .no i 2
def nq(l:List UInt8)(i i1 j:Nat):PE JV:=if j=i1 then .no i1 10 else jG l i j (if kH l i j=B #[45,48]then B #[48]else kH l i j)
theorem HW(h:bz l i=45):fM l i=nq l i (i+1) (dd l (i+1)):=by unfold fM nq jG kH;rw[if_pos h]
theorem Il(h:¬bz l i=45):fM l i=nq l i i (dd l i):=by unfold fM nq jG kH;rw[if_neg h]
theorem nu(s:ByteArray)(i j):s.extract i j=kH (bg s) i j:=by refine fb ?_;show bg _=_;rw[Go.Tb.tP];unfold kH;simp[List.drop_take]
theorem sJ(b:UInt8):eS b=true↔48<=b.toNat∧b.toNat<=57:=by unfold eS;simp
theorem xY{j}(h:eS (bz l j)=false):jT l k j=j:=by cases k<;>simp[jT,h]
theorem xA{j}(hj:j<l.length)(h:eS (bz l j)=true):jT l (l.length-j) j=jT l (l.length-(j+1)) (j+1):=by rw[show l.length-j=(l.length-(j+1))+1 by omega,jT,if_pos ⟨hj,h⟩]
theorem CG(s:ByteArray)(i)(hi:i<=s.size)(hs:s.size<=1000000000)(hm:bz (bg s) i=45):dX Tryz.prog 118 [.ptr 0 0] [gn s i] 0 (jA 128 s (fun v:JV=>.ag v.c) (fM (bg s) i)):=by
 have X:=HW (l:=bg s) (i:=i) hm;have a7:i<s.size:=by have:=eo (l:=bg s) (i:=i) (by rw[hm];decide);rwa[bo]at this
 have a8:=ug (l:=bg s) (i:=i+1) (by rw[bo];omega);rw[bo]at a8;refine dX.dY aY (n:=85) (rs:=[.cell 2 46]) Tryz.func118 (by kernel_rfl) Z Tryz.ntmps118 Tryz.results118 Z (ig ..) fun C hC hG=>aa<|ab<|b9 aY Z Z Z<|ae<|qs<|aZ 5 Z<|aa<|aa<|ab<|pE Z<|bT [0] [] Z Z Z Z Z ((jO s i)) Z Z (by rfl) (by rfl) Z Z Z Z ?_
 refine pE Z (ae (qs (bc Z (fun ai=>?_) (fun ai=>?_))));·
  refine ab<|bb 4 Z<|pu (cW (ev aY Z) (y:=((i+1:Nat):Int)) (wrap64 (by omega))) Z<|bb 2 Z<|bt aY Z Z Z Z Z Z Z Z<|ae<|qs<|aZ 5 Z<|aa<|aa<|ab<|pE Z<|bT [0] [] Z Z Z Z Z ((jO s (i+1))) Z Z (by rfl) (by rfl) Z Z Z Z ?_
  refine pE Z<|ae<|qs<|W.block<|W.ca (ι:={x:Nat//match x with|j=>(i+1)<=j∧j<=s.size∧(j=(i+1)∨bz (bg s) (i+1)≠48)∧(bz (bg s) (i+1)≠48->jT (bg s) ((bg s).length-j) j=jT (bg s) ((bg s).length-(i+1)) (i+1))})
   (fun x=>match x.1 with|j=>[(0,.ptr 0 0),(2,.ptr 1 0),(5,.d (.v (.int .u8 (bz (bg s) j).toNat)))]) [(3,_),(4,_)]
   (fun x=>match x.1 with|j=>[(0,[.d (cs s),.d (.v (.int .i64 (j:Int)))])]) [(1,_)] [] 2 (fun x=>match x.1 with|j=>s.size-j)
   [0,1] ⟨(i+1),?_⟩ Z ?_ ⟨rfl,rfl,rfl,rfl,trivial⟩ ?_ ⟨rfl,rfl,trivial⟩ Z ?_
  ·exact⟨χ _,a7,.inl Z,fun _=>rfl⟩
  ·repeat' constructor
  ·repeat' constructor
  rintro⟨j,b3,b4,a1,a6⟩;show W _ _ _ _ _ ⟨[(0,.ptr 0 0),(2,.ptr 1 0),(5,.d (.v (.int .u8 (bz (bg s) j).toNat))),(3,_),(4,_)],[(0,[.d (cs s),.d (.v (.int .i64 (j:Int)))]),(1,_)],[],2⟩;iterate 2 refine aa ?_
  apply bJ;(case hb=>rfl);·
   refine bb 3 Z ?_;apply dP;(case hj=>rfl);(case hl=>rfl);·
    intro b0;refine bE Z Z<|pE Z<|bE Z Z<|bb 2 Z<|ae<|b7 Z Z Z
   intro b0;refine bD Z Z Z Z<|bD Z Z Z Z<|pE Z<|ae<|b7 Z Z Z
  refine qs (bc Z (fun aj=>?_) (fun aj=>?_));·
   have hd:eS (bz (bg s) j)=true:=by rw[sJ];revert aj;simp;omega
   have b2:j<s.size:=by have:=eo (l:=bg s) (i:=j) (by intro q;rw[q]at hd;exact absurd hd (by decide));rwa[bo]at this
   refine ah<|qs<|aa<|W.block<|aa<|ab<|bb 4 Z<|pu (cW (ev aY Z) (y:=((j+1:Nat):Int)) (wrap64 (by omega))) Z<|bb 2 Z<|bt aY Z Z Z Z Z Z Z Z<|ae<|qs<|aa<|ab<|bb 5 Z<|pu (eJ aY Z Z Z Z (ε _) (gx (qb (s:=s) (i:=(i+1)) (by omega)))) Z<|pE Z<|ae<|qs<|bc Z (fun ad=>?_)<|fun ad=>?_;·
    have N:bz (bg s) (i+1)=48:=kO (n:=48) (by decide) (B' ad);have hE:j+1=dd (bg s) (i+1):=by
     unfold dd;rw[if_pos N];rcases a1 with e|e
     ·rw[e]
     exact absurd N e
    rw[hE];refine ak<|A7 Z<|bP<|bQ<|bO<|qs<|aa<|aZ 6 Z<|bc Z (fun O=>?_)<|fun O=>?_;·
     have q:dd (bg s) (i+1)=(i+1):=by have:=B' O;omega
     have M:fM (bg s) i=.no (dd (bg s) (i+1)) 10:=by rw[X];unfold nq;rw[if_pos q,q]
     refine ab<|bb 4 Z<|dC [] [] Z Z Z Z Z (eh (dd (bg s) (i+1)) 10) Z Z (by rfl)<|fun st'=>?_;repeat' refine du ?_
     exact dK (cb M)
    have q:¬dd (bg s) (i+1)=(i+1):=by have:=O' O;omega
    unfold nq at X;rw[if_neg q]at X;refine ah<|qs<|aa<|W.dD aY (by kernel_rfl)<|br (ev aY Z) Z<|br (ev aY Z) Z<|br (ev aY Z) Z<|br (ev aY Z) Z ?_
    refine br (ev aY Z) Z<|br (ev aY Z) Z<|br (ev aY Z) Z<|br (ev aY Z) Z<|br (ev aY Z) Z ?_
    refine br (jm (je (l:=(i:Int)) (h:=((dd (bg s) (i+1):Nat):Int)) aY Z Z Z Z Z (by omega) (by omega) (by omega)) (show _=kH (bg s) i (dd (bg s) (i+1))from nu s i _)) Z<|br (ev aY Z) Z<|ao<|qs<|aa<|aZ 2 Z<|bc Z (fun U=>?_)<|fun U=>?_;·
     have M:=X;rw[if_pos (B' U)]at M;refine cu 1 Z<|qs<|aa<|ab<|pE Z<|pu (bk Z Z Z (jr _ (by first|(rw[show(B #[48]).size=1 from rfl];omega)|(rw[<-nu,ByteArray.size_extract];omega))) Z) Z<|bb 5 Z<|ae<|qs<|aa<|aZ 2 Z<|bc Z (fun J=>?_)<|fun J=>?_;·
      have I:fM (bg s) i=.no i 2:=by rw[M];unfold jG;rw[if_neg (by simpa using J)]
      refine ab (pE Z (dC [] [] Z Z Z Z Z (eh i 2) Z Z (by rfl) (fun st'=>?_)));repeat' refine du ?_
      exact dK (cb I)
     have I:=M;unfold jG at I;rw[if_pos (by simpa using J)]at I;refine ah (qs (aa (ab (pE Z (pu (build aY Z Z Z Z) Z ?_)))));try refine iR 84 Z Z Z ?_
     refine bt aY Z Z Z Z Z Z Z Z<|ae<|qs<|W.ret<|eA (cp (I))<|an aY [] trivial Z Z Z Z ?_ ?_;·exact⟨rfl,trivial⟩
     rfl
    have M:=X;rw[if_neg (O' U)]at M;refine ah<|qs<|aa<|ab<|pE Z<|pu (bk Z Z Z (jr _ (by first|(rw[show(B #[48]).size=1 from rfl];omega)|(rw[<-nu,ByteArray.size_extract];omega))) Z) Z<|bb 5 Z<|ae<|qs<|aa<|aZ 2 Z<|bc Z (fun J=>?_)<|fun J=>?_;·
     have I:fM (bg s) i=.no i 2:=by rw[M];unfold jG;rw[if_neg (by simpa using J)]
     refine ab (pE Z (dC [] [] Z Z Z Z Z (eh i 2) Z Z (by rfl) (fun st'=>?_)));repeat' refine du ?_
     exact dK (cb I)
    have I:=M;unfold jG at I;rw[if_pos (by simpa using J)]at I;refine ah (qs (aa (ab (pE Z (pu (build aY Z Z Z Z) Z ?_)))));try refine iR 84 Z Z Z ?_
    refine bt aY Z Z Z Z Z Z Z Z<|ae<|qs<|W.ret<|eA (cp (I))<|an aY [] trivial Z Z Z Z ?_ ?_;·exact⟨rfl,trivial⟩
    rfl
   have N:bz (bg s) (i+1)≠48:=by intro q;rw[q]at ad;simp at ad
   refine ah<|bX<|qs<|ab<|pE Z<|bT [0] [] Z Z Z Z Z ((jO s (j+1))) Z Z (by rfl) (by rfl) Z Z Z Z<|pE Z<|ae<|W.cg [0,1] ⟨j+1,?_⟩ ?_ Z ?_ ⟨rfl,rfl,rfl,rfl,trivial⟩ ?_ ⟨rfl,rfl,trivial⟩ Z;·exact⟨by omega,by omega,.inr N,fun q=>by rw[<-a6 q,xA (by rw[bo];exact b2) hd]⟩
   ·dsimp only;omega
   ·repeat' constructor
   repeat' constructor
  have hd:eS (bz (bg s) j)=false:=by
   cases q:eS (bz (bg s) j)with
   |false=>rfl
   |true=>rw[sJ]at q;revert aj;simp;omega
  have N:bz (bg s) (i+1)≠48:=by
   rcases a1 with e|e
   ·rw[<-e];intro q;rw[q]at hd;exact absurd hd (by decide)
   exact e
  have hE:dd (bg s) (i+1)=j:=by unfold dd;rw[if_neg N,←a6 N,xY hd]
  subst hE;refine ak<|bP<|bQ<|bO<|qs<|aa<|aZ 6 Z<|bc Z (fun O=>?_)<|fun O=>?_;·
   have q:dd (bg s) (i+1)=(i+1):=by have:=B' O;omega
   have M:fM (bg s) i=.no (dd (bg s) (i+1)) 10:=by rw[X];unfold nq;rw[if_pos q,q]
   refine ab<|bb 4 Z<|dC [] [] Z Z Z Z Z (eh (dd (bg s) (i+1)) 10) Z Z (by rfl)<|fun st'=>?_;repeat' refine du ?_
   exact dK (cb M)
  have q:¬dd (bg s) (i+1)=(i+1):=by have:=O' O;omega
  unfold nq at X;rw[if_neg q]at X;refine ah<|qs<|aa<|W.dD aY (by kernel_rfl)<|br (ev aY Z) Z<|br (ev aY Z) Z<|br (ev aY Z) Z<|br (ev aY Z) Z ?_
  refine br (ev aY Z) Z<|br (ev aY Z) Z<|br (ev aY Z) Z<|br (ev aY Z) Z<|br (ev aY Z) Z ?_
  refine br (jm (je (l:=(i:Int)) (h:=((dd (bg s) (i+1):Nat):Int)) aY Z Z Z Z Z (by omega) (by omega) (by omega)) (show _=kH (bg s) i (dd (bg s) (i+1))from nu s i _)) Z<|br (ev aY Z) Z<|ao<|qs<|aa<|aZ 2 Z<|bc Z (fun U=>?_)<|fun U=>?_;·
   have M:=X;rw[if_pos (B' U)]at M;refine cu 1 Z<|qs<|aa<|ab<|pE Z<|pu (bk Z Z Z (jr _ (by first|(rw[show(B #[48]).size=1 from rfl];omega)|(rw[<-nu,ByteArray.size_extract];omega))) Z) Z<|bb 5 Z<|ae<|qs<|aa<|aZ 2 Z<|bc Z (fun J=>?_)<|fun J=>?_;·
    have I:fM (bg s) i=.no i 2:=by rw[M];unfold jG;rw[if_neg (by simpa using J)]
    refine ab (pE Z (dC [] [] Z Z Z Z Z (eh i 2) Z Z (by rfl) (fun st'=>?_)));repeat' refine du ?_
    exact dK (cb I)
   have I:=M;unfold jG at I;rw[if_pos (by simpa using J)]at I;refine ah (qs (aa (ab (pE Z (pu (build aY Z Z Z Z) Z ?_)))));try refine iR 84 Z Z Z ?_
   refine bt aY Z Z Z Z Z Z Z Z<|ae<|qs<|W.ret<|eA (cp (I))<|an aY [] trivial Z Z Z Z ?_ ?_;·exact⟨rfl,trivial⟩
   rfl
  have M:=X;rw[if_neg (O' U)]at M;refine ah<|qs<|aa<|ab<|pE Z<|pu (bk Z Z Z (jr _ (by first|(rw[show(B #[48]).size=1 from rfl];omega)|(rw[<-nu,ByteArray.size_extract];omega))) Z) Z<|bb 5 Z<|ae<|qs<|aa<|aZ 2 Z<|bc Z (fun J=>?_)<|fun J=>?_;·
   have I:fM (bg s) i=.no i 2:=by rw[M];unfold jG;rw[if_neg (by simpa using J)]
   refine ab (pE Z (dC [] [] Z Z Z Z Z (eh i 2) Z Z (by rfl) (fun st'=>?_)));repeat' refine du ?_
   exact dK (cb I)
  have I:=M;unfold jG at I;rw[if_pos (by simpa using J)]at I;refine ah (qs (aa (ab (pE Z (pu (build aY Z Z Z Z) Z ?_)))));try refine iR 84 Z Z Z ?_
  refine bt aY Z Z Z Z Z Z Z Z<|ae<|qs<|W.ret<|eA (cp (I))<|an aY [] trivial Z Z Z Z ?_ ?_;·exact⟨rfl,trivial⟩
  rfl
 exfalso;rw[hm]at ai;simp at ai
theorem Dl(s:ByteArray)(i)(hi:i<=s.size)(hs:s.size<=1000000000)(hm:¬bz (bg s) i=45):dX Tryz.prog 118 [.ptr 0 0] [gn s i] 0 (jA 128 s (fun v:JV=>.ag v.c) (fM (bg s) i)):=by
 have X:=Il (l:=bg s) (i:=i) hm;have a7:=ug (l:=bg s) (i:=i) (by rw[bo];omega);rw[bo]at a7;refine dX.dY aY (n:=85) (rs:=[.cell 2 46]) Tryz.func118 (by kernel_rfl) Z Tryz.ntmps118 Tryz.results118 Z (ig ..) fun C hC hG=>aa<|ab<|b9 aY Z Z Z<|ae<|qs<|aZ 5 Z<|aa<|aa<|ab<|pE Z<|bT [0] [] Z Z Z Z Z ((jO s i)) Z Z (by rfl) (by rfl) Z Z Z Z ?_
 refine pE Z (ae (qs (bc Z (fun aj=>?_) (fun aj=>?_))));·exfalso;exact hm (kO (n:=45) (by decide) (B' aj))
 refine ah<|qs<|aZ 5 Z<|aa<|aa<|ab<|pE Z<|bT [0] [] Z Z Z Z Z ((jO s i)) Z Z (by rfl) (by rfl) Z Z Z Z ?_
 refine pE Z<|ae<|qs<|W.block<|W.ca (ι:={x:Nat//match x with|j=>i<=j∧j<=s.size∧(j=i∨bz (bg s) i≠48)∧(bz (bg s) i≠48->jT (bg s) ((bg s).length-j) j=jT (bg s) ((bg s).length-i) i)})
  (fun x=>match x.1 with|j=>[(0,.ptr 0 0),(2,.ptr 1 0),(5,.d (.v (.int .u8 (bz (bg s) j).toNat)))]) [(3,_),(4,_)]
  (fun x=>match x.1 with|j=>[(0,[.d (cs s),.d (.v (.int .i64 (j:Int)))])]) [(1,_)] [] 2 (fun x=>match x.1 with|j=>s.size-j)
  [0,1] ⟨i,?_⟩ Z ?_ ⟨rfl,rfl,rfl,rfl,trivial⟩ ?_ ⟨rfl,rfl,trivial⟩ Z ?_
 ·exact⟨χ _,hi,.inl Z,fun _=>rfl⟩
 ·repeat' constructor
 ·repeat' constructor
 rintro⟨j,b2,b3,a1,a6⟩;show W _ _ _ _ _ ⟨[(0,.ptr 0 0),(2,.ptr 1 0),(5,.d (.v (.int .u8 (bz (bg s) j).toNat))),(3,_),(4,_)],[(0,[.d (cs s),.d (.v (.int .i64 (j:Int)))]),(1,_)],[],2⟩;iterate 2 refine aa ?_
 apply bJ;(case hb=>rfl);·
  refine bb 3 Z ?_;apply dP;(case hj=>rfl);(case hl=>rfl);·
   intro a8;refine bE Z Z<|pE Z<|bE Z Z<|bb 2 Z<|ae<|b7 Z Z Z
  intro a8;refine bD Z Z Z Z<|bD Z Z Z Z<|pE Z<|ae<|b7 Z Z Z
 refine qs (bc Z (fun ai=>?_) (fun ai=>?_));·
  have hd:eS (bz (bg s) j)=true:=by rw[sJ];revert ai;simp;omega
  have b0:j<s.size:=by have:=eo (l:=bg s) (i:=j) (by intro q;rw[q]at hd;exact absurd hd (by decide));rwa[bo]at this
  refine ah<|qs<|aa<|W.block<|aa<|ab<|bb 4 Z<|pu (cW (ev aY Z) (y:=((j+1:Nat):Int)) (wrap64 (by omega))) Z<|bb 2 Z<|bt aY Z Z Z Z Z Z Z Z<|ae<|qs<|aa<|ab<|bb 5 Z<|pu (eJ aY Z Z Z Z (ε _) (gx (qb (s:=s) (i:=i) (by omega)))) Z<|pE Z<|ae<|qs<|bc Z (fun ad=>?_)<|fun ad=>?_;·
   have N:bz (bg s) i=48:=kO (n:=48) (by decide) (B' ad);have hE:j+1=dd (bg s) i:=by
    unfold dd;rw[if_pos N];rcases a1 with e|e
    ·rw[e]
    exact absurd N e
   rw[hE];refine ak<|A7 Z<|bP<|bQ<|bO<|qs<|aa<|aZ 6 Z<|bc Z (fun O=>?_)<|fun O=>?_;·
    have q:dd (bg s) i=i:=by have:=B' O;omega
    have M:fM (bg s) i=.no (dd (bg s) i) 10:=by rw[X];unfold nq;rw[if_pos q,q]
    refine ab<|bb 4 Z<|dC [] [] Z Z Z Z Z (eh (dd (bg s) i) 10) Z Z (by rfl)<|fun st'=>?_;repeat' refine du ?_
    exact dK (cb M)
   have q:¬dd (bg s) i=i:=by have:=O' O;omega
   unfold nq at X;rw[if_neg q]at X;refine ah<|qs<|aa<|W.dD aY (by kernel_rfl)<|br (ev aY Z) Z<|br (ev aY Z) Z<|br (ev aY Z) Z<|br (ev aY Z) Z ?_
   refine br (ev aY Z) Z<|br (ev aY Z) Z<|br (ev aY Z) Z<|br (ev aY Z) Z<|br (ev aY Z) Z ?_
   refine br (jm (je (l:=(i:Int)) (h:=((dd (bg s) i:Nat):Int)) aY Z Z Z Z Z (by omega) (by omega) (by omega)) (show _=kH (bg s) i (dd (bg s) i)from nu s i _)) Z<|br (ev aY Z) Z<|ao<|qs<|aa<|aZ 2 Z<|bc Z (fun U=>?_)<|fun U=>?_;·
    have M:=X;rw[if_pos (B' U)]at M;refine cu 1 Z<|qs<|aa<|ab<|pE Z<|pu (bk Z Z Z (jr _ (by first|(rw[show(B #[48]).size=1 from rfl];omega)|(rw[<-nu,ByteArray.size_extract];omega))) Z) Z<|bb 5 Z<|ae<|qs<|aa<|aZ 2 Z<|bc Z (fun J=>?_)<|fun J=>?_;·
     have I:fM (bg s) i=.no i 2:=by rw[M];unfold jG;rw[if_neg (by simpa using J)]
     refine ab (pE Z (dC [] [] Z Z Z Z Z (eh i 2) Z Z (by rfl) (fun st'=>?_)));repeat' refine du ?_
     exact dK (cb I)
    have I:=M;unfold jG at I;rw[if_pos (by simpa using J)]at I;refine ah (qs (aa (ab (pE Z (pu (build aY Z Z Z Z) Z ?_)))));try refine iR 84 Z Z Z ?_
    refine bt aY Z Z Z Z Z Z Z Z<|ae<|qs<|W.ret<|eA (cp (I))<|an aY [] trivial Z Z Z Z ?_ ?_;·exact⟨rfl,trivial⟩
    rfl
   have M:=X;rw[if_neg (O' U)]at M;refine ah<|qs<|aa<|ab<|pE Z<|pu (bk Z Z Z (jr _ (by first|(rw[show(B #[48]).size=1 from rfl];omega)|(rw[<-nu,ByteArray.size_extract];omega))) Z) Z<|bb 5 Z<|ae<|qs<|aa<|aZ 2 Z<|bc Z (fun J=>?_)<|fun J=>?_;·
    have I:fM (bg s) i=.no i 2:=by rw[M];unfold jG;rw[if_neg (by simpa using J)]
    refine ab (pE Z (dC [] [] Z Z Z Z Z (eh i 2) Z Z (by rfl) (fun st'=>?_)));repeat' refine du ?_
    exact dK (cb I)
   have I:=M;unfold jG at I;rw[if_pos (by simpa using J)]at I;refine ah (qs (aa (ab (pE Z (pu (build aY Z Z Z Z) Z ?_)))));try refine iR 84 Z Z Z ?_
   refine bt aY Z Z Z Z Z Z Z Z<|ae<|qs<|W.ret<|eA (cp (I))<|an aY [] trivial Z Z Z Z ?_ ?_;·exact⟨rfl,trivial⟩
   rfl
  have N:bz (bg s) i≠48:=by intro q;rw[q]at ad;simp at ad
  refine ah<|bX<|qs<|ab<|pE Z<|bT [0] [] Z Z Z Z Z ((jO s (j+1))) Z Z (by rfl) (by rfl) Z Z Z Z<|pE Z<|ae<|W.cg [0,1] ⟨j+1,?_⟩ ?_ Z ?_ ⟨rfl,rfl,rfl,rfl,trivial⟩ ?_ ⟨rfl,rfl,trivial⟩ Z;·exact⟨by omega,by omega,.inr N,fun q=>by rw[<-a6 q,xA (by rw[bo];exact b0) hd]⟩
  ·dsimp only;omega
  ·repeat' constructor
  repeat' constructor
 have hd:eS (bz (bg s) j)=false:=by
  cases q:eS (bz (bg s) j)with
  |false=>rfl
  |true=>rw[sJ]at q;revert ai;simp;omega
 have N:bz (bg s) i≠48:=by
  rcases a1 with e|e
  ·rw[<-e];intro q;rw[q]at hd;exact absurd hd (by decide)
  exact e
 have hE:dd (bg s) i=j:=by unfold dd;rw[if_neg N,←a6 N,xY hd]
 subst hE;refine ak<|bP<|bQ<|bO<|qs<|aa<|aZ 6 Z<|bc Z (fun O=>?_)<|fun O=>?_;·
  have q:dd (bg s) i=i:=by have:=B' O;omega
  have M:fM (bg s) i=.no (dd (bg s) i) 10:=by rw[X];unfold nq;rw[if_pos q,q]
  refine ab<|bb 4 Z<|dC [] [] Z Z Z Z Z (eh (dd (bg s) i) 10) Z Z (by rfl)<|fun st'=>?_;repeat' refine du ?_
  exact dK (cb M)
 have q:¬dd (bg s) i=i:=by have:=O' O;omega
 unfold nq at X;rw[if_neg q]at X;refine ah<|qs<|aa<|W.dD aY (by kernel_rfl)<|br (ev aY Z) Z<|br (ev aY Z) Z<|br (ev aY Z) Z<|br (ev aY Z) Z ?_
 refine br (ev aY Z) Z<|br (ev aY Z) Z<|br (ev aY Z) Z<|br (ev aY Z) Z<|br (ev aY Z) Z ?_
 refine br (jm (je (l:=(i:Int)) (h:=((dd (bg s) i:Nat):Int)) aY Z Z Z Z Z (by omega) (by omega) (by omega)) (show _=kH (bg s) i (dd (bg s) i)from nu s i _)) Z<|br (ev aY Z) Z<|ao<|qs<|aa<|aZ 2 Z<|bc Z (fun U=>?_)<|fun U=>?_;·
  have M:=X;rw[if_pos (B' U)]at M;refine cu 1 Z<|qs<|aa<|ab<|pE Z<|pu (bk Z Z Z (jr _ (by first|(rw[show(B #[48]).size=1 from rfl];omega)|(rw[<-nu,ByteArray.size_extract];omega))) Z) Z<|bb 5 Z<|ae<|qs<|aa<|aZ 2 Z<|bc Z (fun J=>?_)<|fun J=>?_;·
   have I:fM (bg s) i=.no i 2:=by rw[M];unfold jG;rw[if_neg (by simpa using J)]
   refine ab (pE Z (dC [] [] Z Z Z Z Z (eh i 2) Z Z (by rfl) (fun st'=>?_)));repeat' refine du ?_
   exact dK (cb I)
  have I:=M;unfold jG at I;rw[if_pos (by simpa using J)]at I;refine ah (qs (aa (ab (pE Z (pu (build aY Z Z Z Z) Z ?_)))));try refine iR 84 Z Z Z ?_
  refine bt aY Z Z Z Z Z Z Z Z<|ae<|qs<|W.ret<|eA (cp (I))<|an aY [] trivial Z Z Z Z ?_ ?_;·exact⟨rfl,trivial⟩
  rfl
 have M:=X;rw[if_neg (O' U)]at M;refine ah<|qs<|aa<|ab<|pE Z<|pu (bk Z Z Z (jr _ (by first|(rw[show(B #[48]).size=1 from rfl];omega)|(rw[<-nu,ByteArray.size_extract];omega))) Z) Z<|bb 5 Z<|ae<|qs<|aa<|aZ 2 Z<|bc Z (fun J=>?_)<|fun J=>?_;·
  have I:fM (bg s) i=.no i 2:=by rw[M];unfold jG;rw[if_neg (by simpa using J)]
  refine ab (pE Z (dC [] [] Z Z Z Z Z (eh i 2) Z Z (by rfl) (fun st'=>?_)));repeat' refine du ?_
  exact dK (cb I)
 have I:=M;unfold jG at I;rw[if_pos (by simpa using J)]at I;refine ah (qs (aa (ab (pE Z (pu (build aY Z Z Z Z) Z ?_)))));try refine iR 84 Z Z Z ?_
 refine bt aY Z Z Z Z Z Z Z Z<|ae<|qs<|W.ret<|eA (cp (I))<|an aY [] trivial Z Z Z Z ?_ ?_;·exact⟨rfl,trivial⟩
 rfl
theorem vE(s:ByteArray)(i)(hi:i<=s.size)(hs:s.size<=1000000000):dX Tryz.prog 118 [.ptr 0 0] [gn s i] 0 (jA 128 s (fun v:JV=>.ag v.c) (fM (bg s) i)):=by
 by_cases hm:bz (bg s) i=45;·exact CG s i hi hs hm
 exact Dl s i hi hs hm
theorem EH{acc}(h1:¬((bz l i).toNat<32∨126<(bz l i).toNat))(h2:bz l i≠34)(h3:bz l i≠92):eE l (k+1) i acc=eE l k (i+1) (acc++[bz l i]):=by rw[eE,if_neg h1,if_neg h2,if_neg h3]
theorem FX{acc}(h3:bz l i=92):eE l (k+1) i acc=match gl l (i+1)with|.no a w=>.no a w|.ok c j=>eE l k j (acc++[c]):=by rw[eE,h3];rfl
theorem FK{acc}(h3:bz l i=34):eE l (k+1) i acc=.ok acc (i+1):=by rw[eE,h3];rfl
theorem IW{acc}(h1:(bz l i).toNat<32∨126<(bz l i).toNat):eE l (k+1) i acc=.no i 10:=by rw[eE,if_pos h1]
theorem I5(a b):bytesOf a++bytesOf [b]=bytesOf (a++[b]):=fb (by show bg _=bg _;rw[eb,dU,dU])
theorem rb(s:ByteArray)(i)(hi:i<=s.size)(hs:s.size<=1000000000):dX Tryz.prog 115 [.ptr 0 0] [gn s i] 0 (jA 128 s (fun t:List UInt8=>.d (.v (.string (bytesOf t)))) (fL (bg s) i)):=by
 refine dX.x8 aY (n:=53) (rs:=[.tmp 2]) Tryz.func115 (by kernel_rfl) Z Tryz.ntmps115 Tryz.results115 Z (ig ..) fun C hC hG aj a1=>aZ 1 Z<|aa<|ab<|pE Z ?_
 cases hc6:dc (bg s) 34 i with
 |no a6 w6=>
  refine dC [0] [] Z Z Z Z Z ((lx s 34 i hs).ib (cb hc6)) Z Z (by rfl) (fun st'=>?_);repeat' refine du ?_
  refine dK (cb (by unfold fL;rw[hc6]))
 |ok y6 i6=>
  refine bT [0] [] Z Z Z Z Z ((lx s 34 i hs).ret (cp hc6)) Z Z (by rfl) (by rfl) Z Z Z Z ?_;have hg:fL (bg s) i=eE (bg s) ((bg s).length+1-i6) i6 []:=by unfold fL;rw[hc6]
  have U:=ke (l:=bg s) (c:=34) (i:=i) (by rw[bo];exact hi);rw[hc6]at U;refine ae<|qs<|aa<|ab<|DJ aY tU Z Z Z<|ae<|qs<|W.block<|W.ca (ι:={x:Nat×List UInt8×Bool//match x with|(j,acc,u)=>j<=s.size∧acc.length<=j∧∃J,(bg s).length<=J+j∧eE (bg s) (J+1) j acc=fL (bg s) i})
   (fun x=>match x.1 with|(j,acc,u)=>[(0,.ptr 0 0),(3,.ptr 1 0)]) []
   (fun x=>match x.1 with|(j,acc,u)=>[(0,[.d (cs s),.d (.v (.int .i64 (j:Int)))]),(1,[.np 1 tB u,.bf 2 tU (bytesOf acc)])]) [] [2] 3 (fun x=>match x.1 with|(j,acc,u)=>s.size-j)
   [0,2,3] ⟨(i6,[],false),?_⟩ Z ?_ trivial ?_ trivial Z ?_
  ·exact⟨by have:=U.2;rwa[bo]at this,ς _,(bg s).length-i6,by omega,by rw[hg,show(bg s).length+1-i6=(bg s).length-i6+1 by have:=U.2;omega]⟩
  ·repeat' constructor
  ·repeat' constructor
  rintro⟨⟨j,acc,u⟩,hj,ha,hX⟩;show W _ _ _ _ _ ⟨[(0,.ptr 0 0),(3,.ptr 1 0)],[(0,[.d (cs s),.d (.v (.int .i64 (j:Int)))]),(1,[.np 1 tB u,.bf 2 tU (bytesOf acc)])],[2],3⟩;refine W.block (aa ?_);obtain⟨J,ad,hI⟩:=hX;refine ab<|pE Z<|bT [0] [] Z Z Z Z Z ((jO s j)) Z Z (by rfl) (by rfl) Z Z Z Z<|pE Z<|ae<|qs<|aa<|W.block<|aa ?_;apply bJ;(case hb=>rfl);·repeat' first|refine b7 Z Z Z|refine bE Z Z ?_|refine bD Z Z Z Z ?_|refine pE Z ?_|refine ae ?_|(apply bU;(case hj=>rfl);(case hl=>rfl))
  refine qs (bc Z (fun X=>?_) (fun X=>?_));·
   have q:(bz (bg s) j).toNat<32∨126<(bz (bg s) j).toNat:=by revert X;simp;omega
   have hx:fL (bg s) i=.no j 10:=by rw[<-hI,IW q]
   refine ab<|bb 4 Z<|dC [] [] Z Z Z Z Z (eh j 10) Z Z (by rfl)<|fun st'=>?_;repeat' first|refine du ?_|refine iD ?_|refine lG ?_
   exact dK (cb hx)
  have q:¬((bz (bg s) j).toNat<32∨126<(bz (bg s) j).toNat):=by revert X;simp;omega
  have a8:j<s.size:=by have:=eo (l:=bg s) (i:=j) (by intro e;rw[e]at q;exact q (.inl (by decide)));rwa[bo]at this
  refine aZ 3 Z<|bc Z (fun M=>?_)<|fun M=>?_;·
   have hx:fL (bg s) i=.ok acc (j+1):=by rw[<-hI,FK (kO (n:=34) (by decide) (B' M))]
   refine aa<|ab<|bb 4 Z<|pu (cW (ev aY Z) (y:=((j+1:Nat):Int)) (wrap64 (by omega))) Z<|bb 2 Z<|bt aY Z Z Z Z Z Z Z Z<|ae<|qs<|aa<|ab<|IL (aj Z) a1 Z Z Z Z D4 BV (by rw[ve];simp only[maxLen];omega) Z Z<|pE Z<|ae<|qs<|W.ret<|bw<|be<|bw<|cE<|bw<|eA (cp (hx))<|an aY [] trivial Z Z Z Z ?_ ?_;·exact⟨rfl,trivial⟩
   rfl
  have q2:bz (bg s) j≠34:=by intro e;rw[e]at M;simp at M
  refine aZ 3 Z<|bc Z (fun N=>?_)<|fun N=>?_;·
   have I:=hI;rw[FX (kO (n:=92) (by decide) (B' N))]at I;have ai:=Bh (l:=bg s) (i:=j+1) (by rw[bo];omega);refine aa<|ab<|bb 4 Z<|pu (cW (ev aY Z) (y:=((j+1:Nat):Int)) (wrap64 (by omega))) Z<|bb 2 Z<|bt aY Z Z Z Z Z Z Z Z<|ae<|qs<|ab<|pE Z ?_
   cases hc50:gl (bg s) (j+1)with
   |no b0 b2=>
    refine dC [0] [] Z Z Z Z Z ((xx s (j+1) (by omega) hs).ib (cb hc50)) Z Z (by rfl) (fun st'=>?_);repeat' first|refine du ?_|refine iD ?_|refine lG ?_
    refine dK (cb (by rw[<-I,hc50]))
   |ok O i50=>
    refine bT [0] [] Z Z Z Z Z ((xx s (j+1) (by omega) hs).ret (cp hc50)) Z Z (by rfl) (by rfl) Z Z Z Z ?_;rw[hc50]at I ai;have a7:j+1<i50∧i50<=s.size:=by have:=ai;rw[<-bo s];exact this
    have hW:=fW (u:=u) (s:=bytesOf acc) (m:=bytesOf [O]) (r:=bytesOf (acc++[O])) (c:=O.toNat) (I5 ..) Z (gJ _).2 (by rw[ve];omega);refine pE Z<|ae<|bX<|qs<|ab<|pE Z<|bT [1] [2] Z Z Z Z Z hW Z Z (by rfl) (by rfl) Z Z Z Z<|ae<|bX<|W.cg [0,1,6] ⟨(i50,acc++[O],true),?_⟩ ?_ Z ?_ trivial ?_ trivial Z;·
     obtain⟨k2,rfl⟩:∃k2,J=k2+1:=⟨J-1,by rw[bo]at ad;omega⟩;exact⟨by omega,by rw[υ,List.length_singleton];omega,k2,by omega,I⟩
    ·dsimp only;omega
    ·repeat' constructor
    repeat' constructor
  have q3:bz (bg s) j≠92:=by intro e;rw[e]at N;simp at N
  have I:=hI;rw[EH q q2 q3]at I;have hW:=fW (u:=u) (s:=bytesOf acc) (m:=bytesOf [bz (bg s) j]) (r:=bytesOf (acc++[bz (bg s) j])) (c:=(bz (bg s) j).toNat) (I5 ..) Z (gJ _).2 (by rw[ve];omega);refine ab<|bb 4 Z<|pu (cW (ev aY Z) (y:=((j+1:Nat):Int)) (wrap64 (by omega))) Z<|bb 2 Z<|bt aY Z Z Z Z Z Z Z Z<|ae<|bX<|qs<|ab<|pE Z<|bT [1] [2] Z Z Z Z Z hW Z Z (by rfl) (by rfl) Z Z Z Z<|ae<|bX<|W.cg [0,1,5] ⟨(j+1,acc++[bz (bg s) j],true),?_⟩ ?_ Z ?_ trivial ?_ trivial Z;·
   obtain⟨k2,rfl⟩:∃k2,J=k2+1:=⟨J-1,by rw[bo]at ad;omega⟩;exact⟨by omega,by rw[υ,List.length_singleton];omega,k2,by omega,I⟩
  ·dsimp only;omega
  ·repeat' constructor
  repeat' constructor
theorem I9(l k level i0):dW l (k+1) level i0=
 if bz l (bA l i0)=110 then(match dR l qn (bA l i0)with|.no a w=>.no a w|.ok _ j=>.ok (.mk 1 0 (B #[]) [] []) j)
 else if bz l (bA l i0)=116 then(match dR l mx (bA l i0)with|.no a w=>.no a w|.ok _ j=>.ok (.mk 2 1 (B #[]) [] []) j)
 else if bz l (bA l i0)=102 then(match dR l kK (bA l i0)with|.no a w=>.no a w|.ok _ j=>.ok (.mk 2 0 (B #[]) [] []) j)
 else if bz l (bA l i0)=34 then(match fL l (bA l i0)with|.no a w=>.no a w|.ok t j=>.ok (.mk 4 0 (bytesOf t) [] []) j)
 else if bz l (bA l i0)=91∨bz l (bA l i0)=123 then
  if 16<level then .no (bA l i0) 20
  else if bz l (bA l i0)=91 then im l k level (bA l i0+1)else iv l k level (bA l i0+1)
 else fM l (bA l i0):=by rw[dW]<;>rfl
theorem qO{c d:UInt8}(h:decide ((c.toNat:Int)=(d.toNat:Int))=false):c≠d:=by rintro rfl;simp at h
theorem nM{c d:UInt8}(h:decide ((c.toNat:Int)=(d.toNat:Int))=true):c=d:=UInt8.toNat_inj.1 (by have:=B' h;omega)
theorem CF(s:ByteArray)(k)(hs:s.size<=1000000000)(level i0)(hi:i0<=s.size)(hA:∀i,i0<i->i<=s.size->level<=16->dX Tryz.prog 116 [.ptr 0 0,.d (.v (.int .i64 level))] [gn s i] 0 (jA 128 s (fun v:JV=>.ag v.c) (im (bg s) k level i)))(hO:∀i,i0<i->i<=s.size->level<=16->dX Tryz.prog 117 [.ptr 0 0,.d (.v (.int .i64 level))] [gn s i] 0 (jA 128 s (fun v:JV=>.ag v.c) (iv (bg s) k level i))):
 dX Tryz.prog 71 [.ptr 0 0,.d (.v (.int .i64 level))] [gn s i0] 0 (jA 128 s (fun v:JV=>.ag v.c) (dW (bg s) (k+1) level i0)):=by
 have hle:bA (bg s) i0<=s.size:=by have:=eH (l:=bg s) (i:=i0) (by rw[bo];exact hi);rwa[bo]at this
 have ai:=ew (bg s) i0;have I:=I9 (bg s) k level i0;refine dX.dY aY (n:=63) (rs:=[.cell 4 46]) Tryz.func71 (by kernel_rfl) Z Tryz.ntmps71 Tryz.results71 Z (ig ..) fun C hC hG=>aa<|ab<|b9 aY Z Z Z<|ae<|qs<|aa<|aa<|ab<|pE Z<|bT [0] [] Z Z Z Z Z ((l8 s i0 hi hs)) Z Z (by rfl) (by rfl) Z Z Z Z ?_
 refine pE Z<|ae<|qs<|W.block<|aZ 3 Z<|bc Z (fun h8=>?_)<|fun h8=>?_;·
  rw[if_pos (nM (d:=110) h8)]at I;refine aa (ab (pE Z ?_))
  cases hc12:dR (bg s) qn (bA (bg s) i0)with
  |no a12 aj=>
   refine dC [0] [] Z Z Z Z Z ((la s (B #[110,117,108,108]) (bA (bg s) i0) hs).ib (cb hc12)) Z Z (by rfl) (fun st'=>?_);repeat' first|refine du ?_|refine iD ?_
   refine dK (cb (by rw[I,hc12]))
  |ok a1 i12=>
   refine bT [0] [] Z Z Z Z Z ((la s (B #[110,117,108,108]) (bA (bg s) i0) hs).ret (cp hc12)) Z Z (by rfl) (by rfl) Z Z Z Z<|ae<|qs<|aa<|ab<|pu (build aY Z Z Z Z) Z ?_;try refine iR 13 Z Z Z ?_
   refine bt aY Z Z Z Z Z Z Z Z<|ae<|qs<|W.ret<|bw<|be<|eA (cp ((by rw[I,hc12])))<|an aY [] trivial Z Z Z Z ?_ ?_;·exact⟨rfl,trivial⟩
   rfl
 rw[if_neg (qO (d:=110) h8)]at I;refine aZ 3 Z<|bc Z (fun M=>?_)<|fun M=>?_;·
  rw[if_pos (nM (d:=116) M)]at I;refine aa (ab (pE Z ?_))
  cases hc18:dR (bg s) mx (bA (bg s) i0)with
  |no a6 a7=>
   refine dC [0] [] Z Z Z Z Z ((la s (B #[116,114,117,101]) (bA (bg s) i0) hs).ib (cb hc18)) Z Z (by rfl) (fun st'=>?_);repeat' first|refine du ?_|refine iD ?_
   refine dK (cb (by rw[I,hc18]))
  |ok a8 i18=>
   refine bT [0] [] Z Z Z Z Z ((la s (B #[116,114,117,101]) (bA (bg s) i0) hs).ret (cp hc18)) Z Z (by rfl) (by rfl) Z Z Z Z<|ae<|qs<|aa<|ab<|pu (build aY Z Z Z Z) Z ?_;try refine iR 19 Z Z Z ?_
   refine bt aY Z Z Z Z Z Z Z Z<|ae<|qs<|W.ret<|bw<|be<|eA (cp ((by rw[I,hc18])))<|an aY [] trivial Z Z Z Z ?_ ?_;·exact⟨rfl,trivial⟩
   rfl
 rw[if_neg (qO (d:=116) M)]at I;refine aZ 3 Z<|bc Z (fun N=>?_)<|fun N=>?_;·
  rw[if_pos (nM (d:=102) N)]at I;refine aa (ab (pE Z ?_))
  cases hc24:dR (bg s) kK (bA (bg s) i0)with
  |no a24 b0=>
   refine dC [0] [] Z Z Z Z Z ((la s (B #[102,97,108,115,101]) (bA (bg s) i0) hs).ib (cb hc24)) Z Z (by rfl) (fun st'=>?_);repeat' first|refine du ?_|refine iD ?_
   refine dK (cb (by rw[I,hc24]))
  |ok b2 i24=>
   refine bT [0] [] Z Z Z Z Z ((la s (B #[102,97,108,115,101]) (bA (bg s) i0) hs).ret (cp hc24)) Z Z (by rfl) (by rfl) Z Z Z Z<|ae<|qs<|aa<|ab<|pu (build aY Z Z Z Z) Z ?_;try refine iR 25 Z Z Z ?_
   refine bt aY Z Z Z Z Z Z Z Z<|ae<|qs<|W.ret<|bw<|be<|eA (cp ((by rw[I,hc24])))<|an aY [] trivial Z Z Z Z ?_ ?_;·exact⟨rfl,trivial⟩
   rfl
 rw[if_neg (qO (d:=102) N)]at I;refine aZ 3 Z<|bc Z (fun O=>?_)<|fun O=>?_;·
  rw[if_pos (nM (d:=34) O)]at I;refine aa (ab (pE Z ?_))
  cases hc30:fL (bg s) (bA (bg s) i0)with
  |no b3 b4=>
   refine dC [0] [] Z Z Z Z Z ((rb s (bA (bg s) i0) hle hs).ib (cb hc30)) Z Z (by rfl) (fun st'=>?_);repeat' first|refine du ?_|refine iD ?_
   refine dK (cb (by rw[I,hc30]))
  |ok b5 i30=>
   refine bT [0] [] Z Z Z Z Z ((rb s (bA (bg s) i0) hle hs).ret (cp hc30)) Z Z (by rfl) (by rfl) Z Z Z Z<|pu (build aY Z Z Z Z) Z ?_;try refine iR 31 Z Z Z ?_
   refine bt aY Z Z Z Z Z Z Z Z<|ae<|qs<|W.ret<|bw<|be<|eA (cp ((by rw[I,hc30])))<|an aY [] trivial Z Z Z Z ?_ ?_;·exact⟨rfl,trivial⟩
   rfl
 rw[if_neg (qO (d:=34) O)]at I;refine aa ?_;apply bJ;(case hb=>rfl);·repeat' first|refine b7 Z Z Z|refine bE Z Z ?_|refine bD Z Z Z Z ?_|refine pE Z ?_|refine ae ?_|(apply bU;(case hj=>rfl);(case hl=>rfl))
 refine qs (bc Z (fun J=>?_) (fun J=>?_));·
  have q:bz (bg s) (bA (bg s) i0)=91∨bz (bg s) (bA (bg s) i0)=123:=by
   by_cases e:bz (bg s) (bA (bg s) i0)=91;·exact .inl e
   refine .inr (kO (n:=123) (by decide) ?_);have e2:¬((bz (bg s) (bA (bg s) i0)).toNat:Int)=91:=fun h=>e (kO (n:=91) (by decide) h);revert J;simp[e2]
  rw[if_pos q]at I;have b6:bA (bg s) i0<s.size:=by have:=eo (l:=bg s) (i:=bA (bg s) i0) (by rcases q with q|q<;>rw[q]<;>decide);rwa[bo]at this
  refine aa<|aZ 2 Z<|bc Z (fun U=>?_)<|fun U=>?_;·
   rw[if_pos (B' U)]at I;refine ab<|bb 4 Z<|dC [] [] Z Z Z Z Z (eh (bA (bg s) i0) 20) Z Z (by rfl)<|fun st'=>?_;repeat' first|refine du ?_|refine iD ?_
   exact dK (cb I)
  have ad:¬16<level:=O' U;rw[if_neg ad]at I;refine ah<|qs<|aa<|ab<|bb 4 Z<|pu (cW (ev aY Z) (y:=((bA (bg s) i0+1:Nat):Int)) (wrap64 (by omega))) Z<|bb 2 Z<|bt aY Z Z Z Z Z Z Z Z<|ae<|qs<|aa<|aZ 2 Z<|bc Z (fun X=>?_)<|fun X=>?_;·
   rw[if_pos (nM (d:=91) X)]at I;refine aa (ab (bb 2 Z ?_))
   cases hc57:im (bg s) k level (bA (bg s) i0+1)with
   |no ch cj=>
    refine dC [0] [] Z Z Z Z Z ((hA (bA (bg s) i0+1) (by omega) (by omega) (by omega)).ib (cb hc57)) Z Z (by rfl) (fun st'=>?_);repeat' first|refine du ?_|refine iD ?_
    refine dK (cb (by rw[I,hc57]))
   |ok cl i57=>
    refine bT [0] [] Z Z Z Z Z ((hA (bA (bg s) i0+1) (by omega) (by omega) (by omega)).ret (cp hc57)) Z Z (by rfl) (by rfl) Z Z Z Z<|bt aY Z Z Z Z Z Z Z Z<|ae<|qs<|W.ret<|be<|bw<|be<|eA (cp ((by rw[I,hc57])))<|an aY [] trivial Z Z Z Z ?_ ?_;·exact⟨rfl,trivial⟩
    rfl
  rw[if_neg (qO (d:=91) X)]at I;refine ah (qs (aa (ab (bb 2 Z ?_))))
  cases hc60:iv (bg s) k level (bA (bg s) i0+1)with
  |no cq cx=>
   refine dC [0] [] Z Z Z Z Z ((hO (bA (bg s) i0+1) (by omega) (by omega) (by omega)).ib (cb hc60)) Z Z (by rfl) (fun st'=>?_);repeat' first|refine du ?_|refine iD ?_
   refine dK (cb (by rw[I,hc60]))
  |ok cy i60=>
   refine bT [0] [] Z Z Z Z Z ((hO (bA (bg s) i0+1) (by omega) (by omega) (by omega)).ret (cp hc60)) Z Z (by rfl) (by rfl) Z Z Z Z<|bt aY Z Z Z Z Z Z Z Z<|ae<|qs<|W.ret<|bw<|be<|eA (cp ((by rw[I,hc60])))<|an aY [] trivial Z Z Z Z ?_ ?_;·exact⟨rfl,trivial⟩
   rfl
 have q:¬(bz (bg s) (bA (bg s) i0)=91∨bz (bg s) (bA (bg s) i0)=123):=by rintro(e|e)<;>rw[e]at J<;>simp at J
 rw[if_neg q]at I;refine ah (bX (qs (aa (ab (pE Z ?_)))))
 cases hc62:fM (bg s) (bA (bg s) i0)with
 |no c1 c6=>
  refine dC [0] [] Z Z Z Z Z ((vE s (bA (bg s) i0) hle hs).ib (cb hc62)) Z Z (by rfl) (fun st'=>?_);repeat' refine du ?_
  refine dK (cb (by rw[I,hc62]))
 |ok c7 i62=>
  refine bT [0] [] Z Z Z Z Z ((vE s (bA (bg s) i0) hle hs).ret (cp hc62)) Z Z (by rfl) (by rfl) Z Z Z Z<|bt aY Z Z Z Z Z Z Z Z<|ae<|qs<|W.ret<|eA (cp ((by rw[I,hc62])))<|an aY [] trivial Z Z Z Z ?_ ?_;·exact⟨rfl,trivial⟩
  rfl
theorem z7{c}(h:i<=l.length):Bd l i (jz l c i):=by
 have J:=ew l i;have hle:=eH h;unfold jz;split;·
  rename_i q;exact⟨by omega,eo (by rw[q];decide)⟩
 have I:=ke (c:=c) hle
 cases M:dc l c (bA l i)with
 |no a w=>rw[M]at I;exact⟨Y' J I.1,I.2⟩
 |ok u j=>rw[M]at I;exact⟨Nat.lt_of_le_of_lt J I.1,I.2⟩
theorem sH{c a}{w:Int}(h:jz l c i=.no a w):¬bz l (bA l i)=44∧dc l c (bA l i)=.no a w:=by
 unfold jz at h;split at h;·cases h
 rename_i q;refine⟨q,?_⟩
 cases I:dc l c (bA l i)with
 |no a' w'=>rw[I]at h;injection h with h1 h2;rw[h1,h2]
 |ok u j=>rw[I]at h;cases h
theorem pa{c j}(h:jz l c i=.ok true j):bz l (bA l i)=44∧j=bA l i+1:=by
 unfold jz at h;split at h;·rename_i q;injection h with _ h2;exact⟨q,h2.symm⟩
 cases I:dc l c (bA l i)with
 |no a' w'=>rw[I]at h;cases h
 |ok u j=>rw[I]at h;cases h
theorem nF{c j}(h:jz l c i=.ok false j):¬bz l (bA l i)=44∧dc l c (bA l i)=.ok () j:=by
 unfold jz at h;split at h;·cases h
 rename_i q;refine⟨q,?_⟩
 cases I:dc l c (bA l i)with
 |no a' w'=>rw[I]at h;cases h
 |ok u J=>rw[I]at h;injection h with _ h2;rw[h2]
theorem Ic(acc:List JV):(JV.mk 5 0 (B #[]) [] acc).c=[ci 5,ci 0,cs (B #[]),.sl [],.sl (acc.map JV.c)]:=by simp[JV.c,JV.qD,JV.op,JV.n,JV.s,JV.keys,JV.kids]
def Cb(s:ByteArray)(K:Nat):Prop:=∀k,k<K->∀(level:Int)(i:Nat),1<=level->level<=17->i<=s.size->3*(s.size-i)+1<=k->
 dX Tryz.prog 71 [.ptr 0 0,.d (.v (.int .i64 level))] [gn s i] 0 (jA 128 s (fun v:JV=>.ag v.c) (dW (bg s) k level i))
theorem Ce(s:ByteArray)(K)(hs:s.size<=1000000000)(hV:Cb s K)(level i0)(hi:i0<=s.size)(b0:1<=level)(b2:level<=16)(hK:3*(s.size-i0)+3<=K):
 dX Tryz.prog 116 [.ptr 0 0,.d (.v (.int .i64 level))] [gn s i0] 0 (jA 128 s (fun v:JV=>.ag v.c) (im (bg s) K level i0)):=by
 have hle:bA (bg s) i0<=s.size:=by have:=eH (l:=bg s) (i:=i0) (by rw[bo];exact hi);rwa[bo]at this
 have b3:=ew (bg s) i0;obtain⟨O,rfl⟩:∃O,K=O+1:=⟨K-1,by omega⟩;have U:=A8 (bg s) O level i0;generalize hA:im (bg s) (O+1) level i0=A at U⊢;clear hA;refine dX.dY aY (n:=32) (rs:=[.cell 4 46]) Tryz.func116 (by kernel_rfl) Z Tryz.ntmps116 Tryz.results116 Z (ig ..) fun C hC hG=>aa<|ab<|b9 aY Z Z Z<|ae<|qs<|aa<|ab<|pu (build aY Z Z Z Z) Z<|b9 aY Z Z Z<|bt aY Z Z Z Z Z Z Z Z<|ae<|qs<|aa<|aa<|ab<|pE Z<|bT [0] [] Z Z Z Z Z ((l8 s i0 hi hs)) Z Z (by rfl) (by rfl) Z Z Z Z ?_
 refine pE Z (ae (qs (bc Z (fun N=>?_) (fun N=>?_))));·
  rw[if_pos (nM (d:=93) N)]at U;have b4:bA (bg s) i0<s.size:=by have:=eo (l:=bg s) (i:=bA (bg s) i0) (by rw[nM (d:=93) N];decide);rwa[bo]at this
  refine aa<|ab<|bb 4 Z<|pu (cW (ev aY Z) (y:=((bA (bg s) i0+1:Nat):Int)) (wrap64 (by omega))) Z<|bb 2 Z<|bt aY Z Z Z Z Z Z Z Z<|ae<|qs<|aa<|ab<|bb 1 Z<|bt aY Z Z Z Z Z Z Z Z<|ae<|qs ?_;try refine jl 1 3 Z Z Z ?_
  try refine jl 1 4 Z Z Z ?_
  refine W.ret<|be<|eA (cp (U))<|an aY [] trivial Z Z Z Z ?_ ?_;·exact⟨rfl,trivial⟩
  rfl
 rw[if_neg (qO (d:=93) N)]at U;refine ah<|qs<|aa<|aZ 1 Z<|W.block<|fh 2 4 Z Z Z<|W.ca (ι:={x:Nat×Nat×List JV×Bool//match x with|(k,j,acc,on)=>k<=O∧(on=true->j<=s.size∧acc.length<=j∧3*(s.size-j)+2<=k∧gu (bg s) k level j acc=A)∧(on=false->A=.ok (.mk 5 0 (B #[]) [] acc) j)})
  (fun x=>match x.1 with|(k,j,acc,on)=>[(0,.ptr 0 0),(1,.d (.v (.int .i64 level))),(4,.ptr 1 0),(5,.ptr 2 0),(6,.d (.v (.bool on)))]) []
  (fun x=>match x.1 with|(k,j,acc,on)=>[(0,gn s j),(2,[.d (ci 5),.d (ci 0),.d (cs (B #[])),.d (.v (.slice none 0 0)),.own 3 (acc.map JV.c)])]) [(1,_)] [3] 4 (fun x=>match x.1 with|(k,j,acc,on)=>k)
  [0,1,2,4] ⟨(O,bA (bg s) i0,[],true),?_⟩ Z ?_ trivial ?_ ⟨rfl,rfl,trivial⟩ Z ?_
 ·exact⟨χ _,fun _=>⟨hle,ς _,by omega,U.symm⟩,fun h=>by cases h⟩
 ·repeat' constructor
 ·repeat' constructor
 rintro⟨⟨k,j,acc,on⟩,b5,hT,hF⟩;show W _ _ _ _ _ ⟨[(0,.ptr 0 0),(1,.d (.v (.int .i64 level))),(4,.ptr 1 0),(5,.ptr 2 0),(6,.d (.v (.bool on)))],[(0,gn s j),(2,[.d (ci 5),.d (ci 0),.d (cs (B #[])),.d (.v (.slice none 0 0)),.own 3 (acc.map JV.c)]),(1,_)],[3],4⟩;refine aa<|aZ 1 Z<|bc Z (fun X=>?_)<|fun X=>?_;·
  obtain⟨hj,I,hk,J⟩:=hT X;obtain⟨M,rfl⟩:∃M,k=M+1:=⟨k-1,by omega⟩;rw[y8]at J;have hb:=(sQ (bg s) M).v (level+1) j (by rw[bo];exact hj);refine ah (qs (aa (W.block ?_)))
  cases hc27:dW (bg s) M (level+1) j with
  |no a1 a6=>
   refine' W.G6 aY (jL 128 a1 a6) [5,6] 7 (by kernel_rfl) (by kernel_rfl) Z Z (fun st=>?hQ_1) ?hL_1;case hQ_1=>
    repeat' first|refine du ?_|refine iD ?_|refine lG ?_
    refine dK (cb (by rw[<-J,hc27]))
   case' hL_1=>skip
   refine' bL (ev aY Z) ?p_2 Z Z Z (by kernel_rfl) Z ?h_2;case' h_2=>skip
   refine' bL (ev aY Z) ?p_3 Z Z Z (by kernel_rfl) Z ?h_3;case' h_3=>skip
   refine' bL (ev aY Z) ?p_4 Z Z Z (by kernel_rfl) Z ?h_4;case' h_4=>skip
   refine' bL (ev aY Z) ?p_5 Z Z Z (by kernel_rfl) Z ?h_5;case' h_5=>skip
   refine' bL (cW (ev aY Z) (y:=level+1) (wrap64 (by omega))) ?p_6 Z Z Z (by kernel_rfl) Z ?h_6;case' h_6=>skip
   refine' K6 ?x_7 Z Z Z (by kernel_rfl) Z ?h_7;case x_7=>
    intro b hb g;cases b;·exact ba hb
    exact dC [0] [] Z Z Z Z Z ((hV M (by omega) (level+1) j (by omega) (by omega) hj (by omega)).ib (cb hc27)) Z Z (by rfl) (fun st'=>⟨_,rfl,rfl⟩)
   case' h_7=>skip
   refine Jm 27 Z Z Z Z (by kernel_rfl) Z ?_;case p_2=>refine⟨fun I=>ba I,?_,fun I=>ba I,?_,fun I=>ba I,?_⟩<;>intro I<;>first|exact⟨ev aY Z,fun h=>nomatch h⟩|exact ba I
   case p_3=>refine⟨fun I=>ba I,?_,fun I=>ba I,?_,fun I=>ba I,?_⟩<;>intro I<;>first|exact⟨ev aY Z,fun h=>nomatch h⟩|exact⟨cS aY Z Z Z Z,fun h=>nomatch h⟩|exact⟨cR aY Z Z Z Z Z,fun h=>nomatch h⟩|exact ba I
   case p_4=>refine⟨fun I=>ba I,?_,fun I=>ba I,?_,fun I=>ba I,?_⟩<;>intro I<;>first|exact⟨ev aY Z,fun h=>nomatch h⟩|exact ba I
   case p_5=>refine⟨fun I=>ba I,?_,fun I=>ba I,?_,fun I=>ba I,?_⟩<;>intro I<;>first|exact⟨ev aY Z,fun h=>nomatch h⟩|exact ba I
   case p_6=>refine⟨fun I=>ba I,?_,fun I=>ba I,?_,fun I=>ba I,?_⟩<;>intro I<;>first|exact⟨cW (ev aY Z) (y:=level+1) (wrap64 (by omega)),fun h=>nomatch h⟩|exact ba I
   refine ar ?_ Z;exact GJ 27 Z
  |ok aj i27=>
   rw[hc27]at J hb;dsimp only at J;have b6:j<i27:=hb.1;have ad:i27<=s.size:=by have:=hb.2;rwa[bo]at this
   have ai:=z7 (l:=bg s) (c:=93) (i:=i27) (by rw[bo];exact ad);apply W.wU aY 7 5;(case hB=>kernel_rfl);(case h1=>rfl);(case h2=>rfl);refine' gT ?p1_9 (ev aY Z) Z Z Z Z Z ?h_9;case' h_9=>skip
   refine' gT ?p1_10 (ev aY Z) Z Z Z Z Z ?h_10;case' h_10=>skip
   refine' sU (ev aY Z) Z Z Z Z Z ?h_11;case' h_11=>skip
   refine' gT ?p1_12 (ev aY Z) Z Z Z Z Z ?h_12;case' h_12=>skip
   refine' sU (cW (ev aY Z) (y:=level+1) (wrap64 (by omega))) Z Z Z Z Z ?h_13;case' h_13=>skip
   refine' Ky (fun g=>?e_14) Z Z Z ?h_14;case e_14=>refine bT [0] [] Z Z Z Z Z (((hV M (by omega) (level+1) j (by omega) (by omega) hj (by omega)).ret (cp hc27))) Z Z (by rfl) (by rfl) Z Z Z Z ?_;refine ae ?_;exact⟨rfl,rfl⟩
   case' h_14=>skip
   case p1_9=>exact(ev aY Z)
   case p1_10=>exact(ev aY Z)
   case p1_12=>exact(ev aY Z)
   refine KV (bZ aY Z Z Z Z Z Z Z Z Z) Z Z Z Z Z<|aI<|eT (fn:=JV.c) (a:=aj) aY Z Z Z Z Z Z Z Z Z Z (fun _=>rfl) (by show(acc.length+1)*80<=_;omega)<|pE Z<|bt aY Z Z Z Z Z Z Z Z<|ae<|bX<|qs<|ab<|pE Z ?_
   cases hc21:jz (bg s) 93 i27 with
   |no a21 ch=>
    refine dC [0] [] Z Z Z Z Z ((tg s 93 i27 ad hs).ib (cb hc21)) Z Z (by rfl) (fun st'=>?_);repeat' first|refine du ?_|refine iD ?_|refine lG ?_
    refine dK (cb (by rw[<-J,if_neg (sH hc21).1,(sH hc21).2]))
   |ok a7 i21=>
    refine bT [0] [] Z Z Z Z Z ((tg s 93 i27 ad hs).ret (cp hc21)) Z Z (by rfl) (by rfl) Z Z Z Z ?_;rw[hc21]at ai;have cj:i27<i21:=ai.1;have a8:i21<=s.size:=by have:=ai.2;rwa[bo]at this
    refine pE Z (ae (W.cg [0,1,2,5] ⟨(M,i21,acc++[aj],a7),?_⟩ ?_ Z ?_ trivial ?_ ⟨rfl,rfl,trivial⟩ Z));·
     refine⟨by omega,fun h=>?_,fun h=>?_⟩;·
      subst h;rw[if_pos (pa hc21).1,←(pa hc21).2]at J;exact⟨a8,by rw[υ,List.length_singleton];omega,by omega,J⟩
     subst h;rw[if_neg (nF hc21).1,(nF hc21).2]at J;exact J.symm
    ·dsimp only;omega
    ·repeat' constructor
    repeat' constructor
 have hx:=hF X;refine ak<|bP<|bQ<|bO<|qs<|aa<|ab<|bb 1 Z<|bt aY Z Z Z Z Z Z Z Z<|ae<|qs ?_;try refine jl 1 3 Z Z Z ?_
 try refine jl 1 4 Z Z Z ?_
 refine W.ret<|eA (cp (hx))<|an aY [] trivial Z Z Z Z ?_ ?_;·exact⟨rfl,trivial⟩
 rw[Ic];rfl
theorem HM(keys:List ByteArray)(acc:List JV):(JV.mk 6 0 (B #[]) keys acc).c=[ci 6,ci 0,cs (B #[]),.sl (keys.map sc),.sl (acc.map JV.c)]:=by simp[JV.c,JV.qD,JV.op,JV.n,JV.s,JV.keys,JV.kids]
theorem AH(s:ByteArray)(K)(hs:s.size<=1000000000)(hV:Cb s K)(level i0)(hi:i0<=s.size)(cl:1<=level)(cq:level<=16)(hK:3*(s.size-i0)+3<=K):
 dX Tryz.prog 117 [.ptr 0 0,.d (.v (.int .i64 level))] [gn s i0] 0 (jA 128 s (fun v:JV=>.ag v.c) (iv (bg s) K level i0)):=by
 have hle:bA (bg s) i0<=s.size:=by have:=eH (l:=bg s) (i:=i0) (by rw[bo];exact hi);rwa[bo]at this
 have cx:=ew (bg s) i0;obtain⟨K',rfl⟩:∃K',K=K'+1:=⟨K-1,by omega⟩;have hv:=B3 (bg s) K' level i0;generalize hA:iv (bg s) (K'+1) level i0=A at hv⊢;clear hA;refine dX.dY aY (n:=61) (rs:=[.cell 4 46]) Tryz.func117 (by kernel_rfl) Z Tryz.ntmps117 Tryz.results117 Z (ig ..) fun C hC hG=>aa<|ab<|b9 aY Z Z Z<|ae<|qs<|aa<|ab<|pu (build aY Z Z Z Z) Z<|b9 aY Z Z Z<|bt aY Z Z Z Z Z Z Z Z<|ae<|qs<|aa<|aa<|ab<|pE Z<|bT [0] [] Z Z Z Z Z ((l8 s i0 hi hs)) Z Z (by rfl) (by rfl) Z Z Z Z ?_
 refine pE Z (ae (qs (bc Z (fun X=>?_) (fun X=>?_))));·
  rw[if_pos (nM (d:=125) X)]at hv;have cy:bA (bg s) i0<s.size:=by have:=eo (l:=bg s) (i:=bA (bg s) i0) (by rw[nM (d:=125) X];decide);rwa[bo]at this
  refine aa<|ab<|bb 4 Z<|pu (cW (ev aY Z) (y:=((bA (bg s) i0+1:Nat):Int)) (wrap64 (by omega))) Z<|bb 2 Z<|bt aY Z Z Z Z Z Z Z Z<|ae<|qs<|aa<|ab<|bb 1 Z<|bt aY Z Z Z Z Z Z Z Z<|ae<|qs ?_;try refine jl 1 3 Z Z Z ?_
  try refine jl 1 4 Z Z Z ?_
  refine W.ret<|be<|eA (cp (hv))<|an aY [] trivial Z Z Z Z ?_ ?_;·exact⟨rfl,trivial⟩
  rfl
 rw[if_neg (qO (d:=125) X)]at hv;refine ah<|qs<|aa<|ab<|mkMap Z<|pE Z<|ae<|qs<|aa<|aZ 1 Z<|W.block<|fh 2 3 Z Z Z<|fh 2 4 Z Z Z<|W.ca (ι:={x:Nat×Nat×List ByteArray×List JV×Bool//match x with|(k,j,keys,acc,on)=>k<=K'∧keys.Nodup∧(on=true->j<=s.size∧keys.length<=j∧acc.length<=j∧3*(s.size-j)+2<=k∧gp (bg s) k level j keys acc=A)∧(on=false->A=.ok (.mk 6 0 (B #[]) keys acc) j)})
  (fun x=>match x.1 with|(k,j,keys,acc,on)=>[(0,.ptr 0 0),(1,.d (.v (.int .i64 level))),(4,.ptr 1 0),(5,.ptr 2 0),(6,.mp 3 (eP sk bv (iH keys))),(7,.d (.v (.bool on)))]) []
  (fun x=>match x.1 with|(k,j,keys,acc,on)=>[(0,gn s j),(2,[.d (ci 6),.d (ci 0),.d (cs (B #[])),.own 4 (keys.map sc),.own 5 (acc.map JV.c)])]) [(1,_)] [5,4,3] 6 (fun x=>match x.1 with|(k,j,keys,acc,on)=>k)
  [0,1,2,4,5,6] ⟨(K',bA (bg s) i0,[],[],true),?_⟩ Z ?_ trivial ?_ ⟨rfl,rfl,trivial⟩ Z ?_
 ·exact⟨χ _,List.nodup_nil,fun _=>⟨hle,ς _,ς _,by omega,hv.symm⟩,fun h=>by cases h⟩
 ·repeat' constructor
 ·repeat' constructor
 rintro⟨⟨k,j,keys,acc,on⟩,c1,hn,hT,hF⟩;show W _ _ _ _ _ ⟨[(0,.ptr 0 0),(1,.d (.v (.int .i64 level))),(4,.ptr 1 0),(5,.ptr 2 0),(6,.mp 3 (eP sk bv (iH keys))),(7,.d (.v (.bool on)))],[(0,gn s j),(2,[.d (ci 6),.d (ci 0),.d (cs (B #[])),.own 4 (keys.map sc),.own 5 (acc.map JV.c)]),(1,_)],[5,4,3],6⟩;refine aa<|aZ 1 Z<|bc Z (fun ad=>?_)<|fun ad=>?_;·
  obtain⟨hj,c6,I,hk,J⟩:=hT ad;obtain⟨O,rfl⟩:∃O,k=O+1:=⟨k-1,by omega⟩;rw[yw]at J;have U:bA (bg s) j<=s.size:=by have:=eH (l:=bg s) (i:=j) (by rw[bo];exact hj);rwa[bo]at this
  have b6:=ew (bg s) j;have ai:=qv (l:=bg s) (i:=bA (bg s) j) (by rw[bo];exact U);refine ah<|qs<|aa<|W.block<|aa<|ab<|pE Z<|bT [0] [] Z Z Z Z Z ((l8 s j hj hs)) Z Z (by rfl) (by rfl) Z Z Z Z<|ae<|qs<|aZ 5 Z<|aa<|ab<|pE Z ?_
  cases hc33:fL (bg s) (bA (bg s) j)with
  |no c7 df=>
   refine dC [0] [] Z Z Z Z Z ((rb s (bA (bg s) j) U hs).ib (cb hc33)) Z Z (by rfl) (fun st'=>?_);repeat' first|refine du ?_|refine iD ?_|refine lG ?_
   refine dK (cb (by rw[<-J,hc33]))
  |ok M i33=>
   refine bT [0] [] Z Z Z Z Z ((rb s (bA (bg s) j) U hs).ret (cp hc33)) Z Z (by rfl) (by rfl) Z Z Z Z ?_;rw[hc33]at J ai;dsimp only at J;have di:bA (bg s) j<i33:=ai.1;have a7:i33<=s.size:=by have:=ai.2;rwa[bo]at this
   have ch:bA (bg s) i33<=s.size:=by have:=eH (l:=bg s) (i:=i33) (by rw[bo];exact a7);rwa[bo]at this
   have cj:=ew (bg s) i33;refine pE Z<|ae<|qs<|aa<|aa<|ab<|bb 2 Z ?_
   refine pu (nY (kf:=sk) (vf:=bv) (l:=iH keys) (a:=bytesOf M) (z:=false) (zx:=.bool false) aY Z Z Z Z Z (vW (aY.kr Z Z)) Z Z Z (fun w pv=>.v _ Z) (by rw[lC];exact hn) (congrArg bv (xb hn (bytesOf M)))) Z<|ae<|qs<|bc Z (fun N=>?_)<|fun N=>?_;·
    rw[if_pos N]at J;refine ab (pE Z (dC [] [] Z Z Z Z Z (eh (bA (bg s) j) 4) Z Z (by rfl) (fun st'=>?_)));repeat' first|refine du ?_|refine iD ?_|refine lG ?_
    exact dK (cb J.symm)
   rw[if_neg (by rw[N];decide)]at J;have b0:=vP hn N;refine ah<|qs<|aa<|ab<|bb 2 Z<|rK (kf:=sk) (vf:=bv) (l:=iH keys) (a:=bytesOf M) (y:=true) aY 6 Z Z Z Z Z Z Z (vW (aY.kr Z Z)) Z Z (by rw[lC];exact hn) (congrArg (eP sk bv) (xE N)) Z<|ae<|qs<|aa<|ab<|pE Z<|bT [0] [] Z Z Z Z Z ((l8 s i33 a7 hs)) Z Z (by rfl) (by rfl) Z Z Z Z<|ae<|qs<|aa<|ab<|pE Z ?_
   cases hc44:dc (bg s) 58 (bA (bg s) i33)with
   |no dj dt=>
    refine dC [0] [] Z Z Z Z Z ((lx s 58 (bA (bg s) i33) hs).ib (cb hc44)) Z Z (by rfl) (fun st'=>?_);repeat' first|refine du ?_|refine iD ?_|refine lG ?_
    refine dK (cb (by rw[<-J,hc44]))
   |ok dx i44=>
    refine bT [0] [] Z Z Z Z Z ((lx s 58 (bA (bg s) i33) hs).ret (cp hc44)) Z Z (by rfl) (by rfl) Z Z Z Z ?_;rw[hc44]at J;dsimp only at J;obtain⟨ec,a6⟩:=F2 hc44;rw[bo]at a6;have hb:=(sQ (bg s) O).v (level+1) i44 (by rw[bo];omega);refine ae (qs ?_)
    cases hc55:dW (bg s) O (level+1) i44 with
    |no b2 b3=>
     refine' W.FA aY (jL 128 b2 b3) [11,8,5] 12 _ [4,10,11,12] 14 (by kernel_rfl) (by kernel_rfl) Z Z (fun st=>?hQ_1) ?hL_1;case hQ_1=>
      repeat' first|refine du ?_|refine iD ?_|refine lG ?_
      refine dK (cb (by rw[<-J,hc55]))
     case' hL_1=>skip
     refine' bL (ev aY Z) ?p_2 Z Z Z (by kernel_rfl) Z ?h_2;case' h_2=>skip
     refine' bL (ev aY Z) ?p_3 Z Z Z (by kernel_rfl) Z ?h_3;case' h_3=>skip
     refine' bL (ev aY Z) ?p_4 Z Z Z (by kernel_rfl) Z ?h_4;case' h_4=>skip
     refine' bL (bZ aY Z Z Z Z Z Z Z Z Z) ?p_5 Z Z Z (by kernel_rfl) Z ?h_5;case' h_5=>skip
     refine' zp ?x_6 Z Z Z (by kernel_rfl) (fun h=>ba h) Z ?h_6;case x_6=>
      intro b hb g;cases b;·exact ba hb
      refine eT (fn:=sc) (a:=bytesOf M) aY Z Z Z Z Z Z Z Z Z Z (fun _=>rfl) (by show(keys.length+1)*16<=_;omega)<|ae ?_;refine' wY Z ?_ ?_ ?_ ?_;all_goals try exact Z
     case' h_6=>skip
     refine' bL (ev aY Z) ?p_7 Z Z Z (by kernel_rfl) Z ?h_7;case' h_7=>skip
     refine' bL (ev aY Z) ?p_8 Z Z Z (by kernel_rfl) Z ?h_8;case' h_8=>skip
     refine' bL (ev aY Z) ?p_9 Z Z Z (by kernel_rfl) Z ?h_9;case' h_9=>skip
     refine' bL (ev aY Z) ?p_10 Z Z Z (by kernel_rfl) Z ?h_10;case' h_10=>skip
     refine' bL (cW (ev aY Z) (y:=level+1) (wrap64 (by omega))) ?p_11 Z Z Z (by kernel_rfl) Z ?h_11;case' h_11=>skip
     refine' K6 ?x_12 Z Z Z (by kernel_rfl) Z ?h_12;case x_12=>
      intro b hb g;cases b;·exact ba hb
      exact dC [0] [] Z Z Z Z Z ((hV O (by omega) (level+1) i44 (by omega) (by omega) (by omega) (by omega)).ib (cb hc55)) Z Z (by rfl) (fun st'=>⟨_,rfl,rfl⟩)
     case' h_12=>skip
     refine Jm 55 Z Z Z Z (by kernel_rfl) Z<|Jm 56 Z Z Z Z (by kernel_rfl) Z ?_;refine' bL (ev aY Z) ?p_15 Z Z Z (by kernel_rfl) Z ?h_15;case' h_15=>skip
     case p_2=>refine⟨fun I=>ba I,?_,fun I=>ba I,?_,fun I=>ba I,?_,fun I=>ba I,?_,fun I=>ba I,?_⟩<;>intro I<;>first|exact⟨ev aY Z,fun h=>nomatch h⟩|exact ba I
     case p_3=>refine⟨fun I=>ba I,?_,fun I=>ba I,?_,fun I=>ba I,?_,fun I=>ba I,?_,fun I=>ba I,?_⟩<;>intro I<;>first|exact⟨ev aY Z,fun h=>nomatch h⟩|exact⟨cS aY Z Z Z Z,fun h=>nomatch h⟩|exact⟨cR aY Z Z Z Z Z,fun h=>nomatch h⟩|exact ba I
     case p_4=>refine⟨fun I=>ba I,?_,fun I=>ba I,?_,fun I=>ba I,?_,fun I=>ba I,?_,fun I=>ba I,?_⟩<;>intro I<;>first|exact⟨ev aY Z,fun h=>nomatch h⟩|exact ba I
     case p_5=>refine⟨fun I=>ba I,?_,fun I=>ba I,?_,fun I=>ba I,?_,fun I=>ba I,?_,fun I=>ba I,?_⟩<;>intro I<;>first|exact⟨bZ aY Z Z Z Z Z Z Z Z Z,fun h=>nomatch h⟩|exact ba I
     case p_7=>refine⟨fun I=>ba I,?_,fun I=>ba I,?_,fun I=>ba I,?_,fun I=>ba I,?_,fun I=>ba I,?_⟩<;>intro I<;>first|exact⟨ev aY Z,fun h=>nomatch h⟩|exact ba I
     case p_8=>refine⟨fun I=>ba I,?_,fun I=>ba I,?_,fun I=>ba I,?_,fun I=>ba I,?_,fun I=>ba I,?_⟩<;>intro I<;>first|exact⟨ev aY Z,fun h=>nomatch h⟩|exact⟨cS aY Z Z Z Z,fun h=>nomatch h⟩|exact⟨cR aY Z Z Z Z Z,fun h=>nomatch h⟩|exact ba I
     case p_9=>refine⟨fun I=>ba I,?_,fun I=>ba I,?_,fun I=>ba I,?_,fun I=>ba I,?_,fun I=>ba I,?_⟩<;>intro I<;>first|exact⟨ev aY Z,fun h=>nomatch h⟩|exact ba I
     case p_10=>refine⟨fun I=>ba I,?_,fun I=>ba I,?_,fun I=>ba I,?_,fun I=>ba I,?_,fun I=>ba I,?_⟩<;>intro I<;>first|exact⟨ev aY Z,fun h=>nomatch h⟩|exact ba I
     case p_11=>refine⟨fun I=>ba I,?_,fun I=>ba I,?_,fun I=>ba I,?_,fun I=>ba I,?_,fun I=>ba I,?_⟩<;>intro I<;>first|exact⟨cW (ev aY Z) (y:=level+1) (wrap64 (by omega)),fun h=>nomatch h⟩|exact ba I
     case p_15=>refine⟨fun I=>ba I,?_,fun I=>ba I,?_,fun I=>ba I,?_,fun I=>ba I,?_,fun I=>ba I,?_⟩<;>intro I<;>first|exact⟨ev aY Z,fun h=>nomatch h⟩|exact ba I
     refine ar ?_ Z;exact GJ 55 Z
    |ok a8 i55=>
     rw[hc55]at J hb;dsimp only at J;have ed:i44<i55:=hb.1;have aj:i55<=s.size:=by have:=hb.2;rwa[bo]at this
     have a1:=z7 (l:=bg s) (c:=125) (i:=i55) (by rw[bo];exact aj);refine' W.uw aY (fun bx=>[bx,(0,gn s i55)::bx,(0,gn s i55)::bx]) [[11,8,5],[11,8,5],[13,11,8]] [12,13,14] [4,10,12] 14 (by kernel_rfl) (by kernel_rfl) Z Z ?hL_16;case' hL_16=>skip
     refine' bL (ev aY Z) ?p_17 Z Z Z (by kernel_rfl) Z ?h_17;case' h_17=>skip
     refine' bL (ev aY Z) ?p_18 Z Z Z (by kernel_rfl) Z ?h_18;case' h_18=>skip
     refine' bL (ev aY Z) ?p_19 Z Z Z (by kernel_rfl) Z ?h_19;case' h_19=>skip
     refine' bL (bZ aY Z Z Z Z Z Z Z Z Z) ?p_20 Z Z Z (by kernel_rfl) Z ?h_20;case' h_20=>skip
     refine' zp ?x_21 Z Z Z (by kernel_rfl) (fun h=>ba h) Z ?h_21;case x_21=>
      intro b hb g;cases b;·exact ba hb
      refine eT (fn:=sc) (a:=bytesOf M) aY Z Z Z Z Z Z Z Z Z Z (fun _=>rfl) (by show(keys.length+1)*16<=_;omega)<|ae ?_;refine' wY Z ?_ ?_ ?_ ?_;all_goals try exact Z
     case' h_21=>skip
     refine' bL (ev aY Z) ?p_22 Z Z Z (by kernel_rfl) Z ?h_22;case' h_22=>skip
     refine' bL (ev aY Z) ?p_23 Z Z Z (by kernel_rfl) Z ?h_23;case' h_23=>skip
     refine' bL (ev aY Z) ?p_24 Z Z Z (by kernel_rfl) Z ?h_24;case' h_24=>skip
     refine' bL (ev aY Z) ?p_25 Z Z Z (by kernel_rfl) Z ?h_25;case' h_25=>skip
     refine' bL (cW (ev aY Z) (y:=level+1) (wrap64 (by omega))) ?p_26 Z Z Z (by kernel_rfl) Z ?h_26;case' h_26=>skip
     refine' zp ?x_27 Z Z Z (by kernel_rfl) (fun h=>ba h) Z ?h_27;case x_27=>
      intro b hb g;cases b;·exact ba hb
      refine bT [0] [] Z Z Z Z Z (((hV O (by omega) (level+1) i44 (by omega) (by omega) (by omega) (by omega)).ret (cp hc55))) Z Z (by rfl) (by rfl) Z Z Z Z<|ae ?_;refine' wY Z ?_ ?_ ?_ ?_;all_goals try exact Z
     case' h_27=>skip
     refine' bL (bZ aY Z Z Z Z Z Z Z Z Z) ?p_28 Z Z Z (by kernel_rfl) Z ?h_28;case' h_28=>skip
     refine' zp ?x_29 Z Z Z (by kernel_rfl) (fun h=>ba h) Z ?h_29;case x_29=>
      intro b hb g;cases b;·exact ba hb
      refine eT (fn:=JV.c) (a:=a8) aY Z Z Z Z Z Z Z Z Z Z (fun _=>rfl) (by show(acc.length+1)*80<=_;omega)<|ae ?_;refine' wY Z ?_ ?_ ?_ ?_;all_goals try exact Z
     case' h_29=>skip
     case p_17=>refine⟨fun I=>ba I,?_,fun I=>ba I,?_,fun I=>ba I,?_,fun I=>ba I,?_⟩<;>intro I<;>first|exact⟨ev aY Z,fun h=>nomatch h⟩|exact ba I
     case p_18=>refine⟨fun I=>ba I,?_,fun I=>ba I,?_,fun I=>ba I,?_,fun I=>ba I,?_⟩<;>intro I<;>first|exact⟨ev aY Z,fun h=>nomatch h⟩|exact⟨cS aY Z Z Z Z,fun h=>nomatch h⟩|exact⟨cR aY Z Z Z Z Z,fun h=>nomatch h⟩|exact ba I
     case p_19=>refine⟨fun I=>ba I,?_,fun I=>ba I,?_,fun I=>ba I,?_,fun I=>ba I,?_⟩<;>intro I<;>first|exact⟨ev aY Z,fun h=>nomatch h⟩|exact ba I
     case p_20=>refine⟨fun I=>ba I,?_,fun I=>ba I,?_,fun I=>ba I,?_,fun I=>ba I,?_⟩<;>intro I<;>first|exact⟨bZ aY Z Z Z Z Z Z Z Z Z,fun h=>nomatch h⟩|exact ba I
     case p_22=>refine⟨fun I=>ba I,?_,fun I=>ba I,?_,fun I=>ba I,?_,fun I=>ba I,?_⟩<;>intro I<;>first|exact⟨ev aY Z,fun h=>nomatch h⟩|exact ba I
     case p_23=>refine⟨fun I=>ba I,?_,fun I=>ba I,?_,fun I=>ba I,?_,fun I=>ba I,?_⟩<;>intro I<;>first|exact⟨ev aY Z,fun h=>nomatch h⟩|exact⟨cS aY Z Z Z Z,fun h=>nomatch h⟩|exact⟨cR aY Z Z Z Z Z,fun h=>nomatch h⟩|exact ba I
     case p_24=>refine⟨fun I=>ba I,?_,fun I=>ba I,?_,fun I=>ba I,?_,fun I=>ba I,?_⟩<;>intro I<;>first|exact⟨ev aY Z,fun h=>nomatch h⟩|exact ba I
     case p_25=>refine⟨fun I=>ba I,?_,fun I=>ba I,?_,fun I=>ba I,?_,fun I=>ba I,?_⟩<;>intro I<;>first|exact⟨ev aY Z,fun h=>nomatch h⟩|exact ba I
     case p_26=>refine⟨fun I=>ba I,?_,fun I=>ba I,?_,fun I=>ba I,?_,fun I=>ba I,?_⟩<;>intro I<;>first|exact⟨cW (ev aY Z) (y:=level+1) (wrap64 (by omega)),fun h=>nomatch h⟩|exact ba I
     case p_28=>refine⟨fun I=>ba I,?_,fun I=>ba I,?_,fun I=>ba I,?_,fun I=>ba I,?_⟩<;>intro I<;>first|exact⟨bZ aY Z Z Z Z Z Z Z Z Z,fun h=>nomatch h⟩|exact ba I
     refine' bL (ev aY Z) ?p_30 Z Z Z (by kernel_rfl) Z ?h_30;case' h_30=>skip
     case p_30=>refine⟨fun I=>ba I,?_,fun I=>ba I,?_,fun I=>ba I,?_,fun I=>ba I,?_⟩<;>intro I<;>first|exact⟨ev aY Z,fun h=>nomatch h⟩|exact ba I
     refine ar ?_ Z;refine bt aY Z Z Z Z Z Z Z Z (pE Z (bt aY Z Z Z Z Z Z Z Z (ae (bX (qs (ab (pE Z ?_)))))))
     cases hc25:jz (bg s) 125 i55 with
     |no ei ej=>
      refine dC [0] [] Z Z Z Z Z ((tg s 125 i55 aj hs).ib (cb hc25)) Z Z (by rfl) (fun st'=>?_);repeat' first|refine du ?_|refine iD ?_|refine lG ?_
      refine dK (cb (by rw[<-J,if_neg (sH hc25).1,(sH hc25).2]))
     |ok b4 i25=>
      refine bT [0] [] Z Z Z Z Z ((tg s 125 i55 aj hs).ret (cp hc25)) Z Z (by rfl) (by rfl) Z Z Z Z ?_;rw[hc25]at a1;have en:i55<i25:=a1.1;have b5:i25<=s.size:=by have:=a1.2;rwa[bo]at this
      refine pE Z (ae (W.cg [0,1,2,8,11,13] ⟨(O,i25,keys++[bytesOf M],acc++[a8],b4),?_⟩ ?_ Z ?_ trivial ?_ ⟨rfl,rfl,trivial⟩ Z));·
       refine⟨by omega,b0,fun h=>?_,fun h=>?_⟩;·
        subst h;rw[if_pos (pa hc25).1,←(pa hc25).2]at J;exact⟨b5,by rw[υ,List.length_singleton];omega,by rw[υ,List.length_singleton];omega,by omega,J⟩
       subst h;rw[if_neg (nF hc25).1,(nF hc25).2]at J;exact J.symm
      ·dsimp only;omega
      ·repeat' constructor
      repeat' constructor
 have hx:=hF ad;refine ak<|bP<|bQ<|bO<|qs<|aa<|ab<|bb 1 Z<|bt aY Z Z Z Z Z Z Z Z<|ae<|qs ?_;try refine jl 1 3 Z Z Z ?_
 try refine jl 1 4 Z Z Z ?_
 refine W.ret<|eA (cp (hx))<|an aY [] trivial Z Z Z Z ?_ ?_;·exact⟨rfl,trivial⟩
 rw[HM];rfl
theorem xw(s:ByteArray)(hs:s.size<=1000000000):∀K,Cb s K
 |0=>fun k N=>by omega
 |K+1=>fun k N level i J O hi X=>by obtain⟨I,rfl⟩:∃I,k=I+1:=⟨k-1,by omega⟩;have M:Cb s I:=fun k U=>xw s hs K k (by omega);exact CF s I hs level i hi (fun j h1 h2 h3=>Ce s I hs M level j h2 J h3 (by omega)) (fun j h1 h2 h3=>AH s I hs M level j h2 J h3 (by omega))
theorem zP(s:ByteArray)(hs:s.size<=1000000000):dX Tryz.prog 71 [.ptr 0 0,.d (.v (.int .i64 1))] [gn s 0] 0 (jA 128 s (fun v:JV=>.ag v.c) (dW (bg s) (3*(bg s).length+1) 1 0)):=
 xw s hs (3*(bg s).length+2) _ (Nat.lt_succ_self _) 1 0 (by decide) (by decide) (ς _) (by rw[bo];omega)
end Go.Proofs.YtpiaiiopakafhaaGreatDoor
