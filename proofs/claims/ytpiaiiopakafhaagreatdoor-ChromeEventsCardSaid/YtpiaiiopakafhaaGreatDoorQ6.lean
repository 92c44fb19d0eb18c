import Derived.Test.YtpiaiiopakafhaaGreatDoorQ5
import Derived.WalkKit
import Derived.OwnWalkIn
import Derived.TacticsInMore
import Derived.LoopNIn
import Derived.LoopIn
import Derived.BigRegionIn
namespace Go.Proofs.YtpiaiiopakafhaaGreatDoor
open Go.Ab Go.Tb
set_option maxRecDepth 10000
set_option maxHeartbeats 1000000
attribute [local irreducible] W WO Pu QS QB QL QF QV bA CH QE
theorem lu {u:Bool} {t s r:ByteArray} (e:t++bytesOf (cD (ak s))=r) (I:t.size+2*s.size+2≤140737488355328):bz Tryz.prog 138 [.ptr 0 0,.d (.v (.string s))] [[.np 0 tB u,.bf 1 tU t]] 1 (.tup []) [[.np 0 tB true,.bf 1 tU r]] 1:=e▸Cg u t s I
theorem rf (l:List UInt8):(bytesOf l).size=l.length:=rfl
theorem Ge {n:Int} (h:n=0∨n=1):([[cs (B #[102,97,108,115,101])],[cs (B #[116,114,117,101])]]:List (List D))[n.toNat]? = some [cs (bytesOf (if n=1 then ju else ie))]:=by rcases h with rfl | rfl <;> rfl
theorem xU (j:JV) (u:Bool) (t:ByteArray) (ih:∀ z∈j.kids,∀ (u:Bool) (t r:ByteArray),t++bytesOf (aB z)=r→t.size+2*(aB z).length+2≤140737488355328→bz Tryz.prog 89 [.ptr 0 0,.ag z.c] [[.np 0 tB u,.bf 1 tU t]] 1 (.tup []) [[.np 0 tB true,.bf 1 tU r]] 1) (c6:1≤j.op∧j.op≤6) (cx:j.op=2→j.n=0∨j.n=1) (cy:j.op=3→eg j.n=true) (I:j.op=6→j.keys.length=j.kids.length) (M:t.size+2*(aB j).length+2≤140737488355328) (X:j.op=6) :
 bz Tryz.prog 89 [.ptr 0 0,.ag j.c] [[.np 0 tB u,.bf 1 tU t]] 1 (.tup []) [[.np 0 tB true,.bf 1 tU (t++bytesOf (aB j))]] 1:=by
 have hO:lW j=123:=if_pos X;have b2:qP j=125:=if_pos X;rw[eO j];refine bz.cX aa (n:=74) (rs:=[]) Tryz.func89 (by kernel_rfl) rfl Tryz.ntmps89 Tryz.results89 rfl rfl fun C hC hG=>?_;refine W.seq (W.region (bK rfl rfl rfl (WO.nil (qs (W.seq (W.region (pE rfl (pE rfl (WO.nil (qs (W.block (W.seq (W.region ?_)))))))))))));iterate 2 refine pE rfl ?_
 refine WO.nil (qs (ab rfl (fun ad=>?_) (fun ad=>?_)));·exfalso;simp at ad;omega
 refine W.seq (W.region ?_);iterate 2 refine pE rfl ?_
 refine WO.nil (qs (ab rfl (fun ai=>?_) (fun ai=>?_)));·exfalso;simp at ai;omega
 refine W.seq (W.region ?_);iterate 2 refine pE rfl ?_
 refine WO.nil (qs (ab rfl (fun aj=>?_) (fun aj=>?_)));·exfalso;simp at aj;omega
 refine W.seq (W.region ?_);iterate 2 refine pE rfl ?_
 refine WO.nil (qs (ab rfl (fun a1=>?_) (fun a1=>?_)));·exfalso;simp at a1;omega
 have hg:=qV (j:=j) (by omega) (by omega) (by omega) (by omega) I;refine W.seq (W.region (pE rfl (WO.nil (qs ?_))));iterate 2 refine W.seq ?_
 refine W.region (pE rfl (pE rfl (pE rfl (WO.nil (qs (ab rfl (fun a6=>?_) (fun a6=>?_)))))));·
  refine W.region (pE rfl (WO.nil (qs (W.seq (W.region ?_)))));iterate 2 refine pE rfl ?_
  refine pu (db (b:=123) aa rfl rfl rfl rfl (by decide) rfl) rfl ?_;refine aK [0] [1] rfl rfl rfl rfl rfl ((eo (c:=123) (s:=t) (m:=B #[123]) (r:=t++bytesOf [123]) rfl rfl (eL 123).2 (by omega))) rfl rfl (by rfl) (by rfl) rfl rfl rfl rfl ?_;refine WO.nil (qs ?_);iterate 2 refine W.seq ?_
  refine W.region (pE rfl (pE rfl ?_));iterate 2 refine pE rfl ?_
  refine WO.nil (qs (W.block (W.len (t:=17) rfl rfl (fun hlen=>?_))));try simp only[List.length_map,Ex.aF] at hlen
  refine W.bh (ι:={x:Nat×ByteArray // match x with | (k,T)=>k≤j.kids.length∧T=t++bytesOf (lW j::fb j k)})
   (fun x=>match x.1 with | (k,T)=>[(0,.ptr 0 0),(3,.ptr 2 0),(19,.d (.v (.int .i64 ((k:Nat):Int))))]) [(4,_),(17,_),(18,_)]
   (fun x=>match x.1 with | (k,T)=>[(0,[.np 0 tB true,.bf 1 tU T]),(2,[.d (ci j.op),.d (ci j.n),.d (cs j.s),.d (.sl (j.keys.map sc)),.d (.sl (j.kids.map JV.c))])]) [] [1] 3 (fun x=>match x.1 with | (k,T)=>j.kids.length - k)
   [0,4,2] ⟨(0,t++bytesOf [123]),?_⟩ rfl ?_ ⟨rfl,rfl,rfl,rfl,rfl,rfl,trivial⟩ ?_ trivial rfl ?_
  ·exact⟨Nat.zero_le _,by rw[tK,hO]⟩
  ·repeat' first | exact trivial | refine⟨rfl,?_⟩
  ·repeat' first | exact trivial | refine⟨rfl,?_⟩
  rintro⟨⟨k,T⟩,hk,Z⟩;show W _ _ _ _ _ ⟨[(0,.ptr 0 0),(3,.ptr 2 0),(19,.d (.v (.int .i64 ((k:Nat):Int)))),(4,_),(17,_),(18,_)],[(0,[.np 0 tB true,.bf 1 tU T]),(2,[.d (ci j.op),.d (ci j.n),.d (cs j.s),.d (.sl (j.keys.map sc)),.d (.sl (j.kids.map JV.c))])],[1],3⟩;refine W.seq (W.region (pE rfl (WO.nil (qs (W.seq (bu (l:=j.kids) (k:=k) rfl (by simp[Ex.aF,au]) hk (fun z hx hd N=>?_) (fun he hd=>?_)))))));·
   have hp:=tl hx I;have b3:=lH hx I;have ch:k < j.kids.length:=N;rw[hg] at M;simp only[List.length_cons,List.length_append,List.length_nil] at M;have cj:T.size=t.size+(fb j k).length+1:=by rw[Z,ea];rfl
   have a7:∀ {u:Bool} {t r:ByteArray},t++bytesOf (aB z)=r→t.size+2*(aB z).length+2≤140737488355328→bz Tryz.prog 89 [.ptr 0 0,.ag z.c] [[.np 0 tB u,.bf 1 tU t]] 1 (.tup []) [[.np 0 tB true,.bf 1 tU r]] 1:=fun {u t r}=>ih z (List.mem_of_getElem? hx) u t r;have hN:T++bytesOf (cK k)++bytesOf (fe j k)++bytesOf (aB z)=t++bytesOf (lW j::fb j (k+1)):=by rw[Z,kE,kE,kE,b3];simp only[List.append_assoc,List.cons_append]
   have cq:(cK k).length≤1:=by unfold cK;split <;> simp
   obtain⟨s,a8,O⟩:=Ed X (I X) ch;have c1:(fe j k).length=(cD (ak s)).length+1:=by rw[O];simp
   have c7:=wa s;have df:(T++bytesOf (cK k)).size≤T.size+1:=by rw[ea];omega
   refine W.skip (qs (W.seq (W.block (W.seq (W.region (pE rfl (pu (indexAddr (l:=z.c) aa rfl rfl rfl rfl rfl rfl (Int.natCast_nonneg _) (aM hx) rfl) rfl ?_)))))));refine pE rfl (aQ aa rfl rfl rfl (pE rfl (ar aa rfl rfl rfl rfl rfl rfl rfl rfl (WO.nil (qs ?_)))));iterate 2 refine W.seq ?_
   refine W.region ?_;iterate 2 refine pE rfl ?_
   refine WO.nil (qs (ab rfl (fun U=>?_) (fun U=>?_)));·
    have cl:bytesOf (cK k)=B #[44]:=by unfold cK;rw[if_neg (by simp at U;omega)];rfl
    refine W.region (pE rfl (aK [0] [1] rfl rfl rfl rfl rfl ((eo (c:=44) (s:=T) (m:=B #[44]) (r:=T++bytesOf (cK k)) (by rw[cl]) rfl (eL 44).2 (by omega))) rfl rfl (by rfl) (by rfl) rfl rfl rfl rfl ?_));refine WO.nil (qs ?_);iterate 2 refine W.seq ?_
    refine W.region (pE rfl (pE rfl (pE rfl (WO.nil (qs (ab rfl (fun J=>?_) (fun J=>?_)))))));·
     refine W.seq (W.region ?_);iterate 2 refine pE rfl ?_
     refine pE rfl (pE rfl (pu (indexAddr (l:=sc s) aa rfl rfl rfl rfl rfl rfl (Int.natCast_nonneg _) (aM a8) rfl) rfl ?_));refine pE rfl ?_;first | refine aK [0] [5] rfl rfl rfl rfl rfl (lu (s:=s) (r:=T++bytesOf (cK k)++bytesOf (cD (ak s))) (by first | rfl | rw[hs]) (by omega)) rfl rfl (by rfl) (by rfl) rfl rfl rfl rfl ?_ | refine aK [0] [1] rfl rfl rfl rfl rfl (lu (s:=s) (r:=T++bytesOf (cK k)++bytesOf (cD (ak s))) (by first | rfl | rw[hs]) (by omega)) rfl rfl (by rfl) (by rfl) rfl rfl rfl rfl ?_
     refine WO.nil (qs (W.region (pE rfl (aK [0] [7] rfl rfl rfl rfl rfl (eo (c:=58) (s:=T++bytesOf (cK k)++bytesOf (cD (ak s))) (m:=B #[58]) (r:=T++bytesOf (cK k)++bytesOf (fe j k)) (by rw[O,←kE];rfl) rfl (eL 58).2 (by rw[ea];omega)) rfl rfl (by rfl) (by rfl) rfl rfl rfl rfl ?_))));refine WO.nil (qs (W.region (pE rfl (pE rfl (aK [0] [9] rfl rfl rfl rfl rfl (a7 (t:=T++bytesOf (cK k)++bytesOf (fe j k)) (r:=T++bytesOf (cK k)++bytesOf (fe j k)++bytesOf (aB z)) rfl (by rw[ea];omega)) rfl rfl (by rfl) (by rfl) rfl rfl rfl rfl ?_)))));refine WO.nil (be (qs (W.region ?_)));iterate 2 refine pE rfl ?_
     refine WO.nil (W.bt [0,11,2] ⟨(k+1,T++bytesOf (cK k)++bytesOf (fe j k)++bytesOf (aB z)),?_⟩ ?_ rfl ?_ ⟨rfl,rfl,rfl,rfl,rfl,rfl,trivial⟩ ?_ trivial rfl);·exact⟨N,hN⟩
     ·dsimp only;omega
     ·repeat' first | exact trivial | refine⟨rfl,?_⟩ | refine⟨aL (by assumption) (by assumption),?_⟩
     repeat' first | exact trivial | refine⟨rfl,?_⟩
    exfalso;simp at J;omega
   have hs:T++bytesOf (cK k)=T:=by unfold cK;rw[if_pos (by simp at U;omega)];exact jc (by show ak _=ak _;rw[gZ];simp)
   refine W.skip (qs ?_);iterate 2 refine W.seq ?_
   refine W.region (pE rfl (pE rfl (pE rfl (WO.nil (qs (ab rfl (fun J=>?_) (fun J=>?_)))))));·
    refine W.seq (W.region ?_);iterate 2 refine pE rfl ?_
    refine pE rfl (pE rfl (pu (indexAddr (l:=sc s) aa rfl rfl rfl rfl rfl rfl (Int.natCast_nonneg _) (aM a8) rfl) rfl ?_));refine pE rfl ?_;first | refine aK [0] [5] rfl rfl rfl rfl rfl (lu (s:=s) (r:=T++bytesOf (cK k)++bytesOf (cD (ak s))) (by first | rfl | rw[hs]) (by omega)) rfl rfl (by rfl) (by rfl) rfl rfl rfl rfl ?_ | refine aK [0] [1] rfl rfl rfl rfl rfl (lu (s:=s) (r:=T++bytesOf (cK k)++bytesOf (cD (ak s))) (by first | rfl | rw[hs]) (by omega)) rfl rfl (by rfl) (by rfl) rfl rfl rfl rfl ?_
    refine WO.nil (qs (W.region (pE rfl (aK [0] [5] rfl rfl rfl rfl rfl (eo (c:=58) (s:=T++bytesOf (cK k)++bytesOf (cD (ak s))) (m:=B #[58]) (r:=T++bytesOf (cK k)++bytesOf (fe j k)) (by rw[O,←kE];rfl) rfl (eL 58).2 (by rw[ea];omega)) rfl rfl (by rfl) (by rfl) rfl rfl rfl rfl ?_))));refine WO.nil (qs (W.region (pE rfl (pE rfl (aK [0] [7] rfl rfl rfl rfl rfl (a7 (t:=T++bytesOf (cK k)++bytesOf (fe j k)) (r:=T++bytesOf (cK k)++bytesOf (fe j k)++bytesOf (aB z)) rfl (by rw[ea];omega)) rfl rfl (by rfl) (by rfl) rfl rfl rfl rfl ?_)))));refine WO.nil (be (qs (W.region ?_)));iterate 2 refine pE rfl ?_
    refine WO.nil (W.bt [0,9,2] ⟨(k+1,T++bytesOf (cK k)++bytesOf (fe j k)++bytesOf (aB z)),?_⟩ ?_ rfl ?_ ⟨rfl,rfl,rfl,rfl,rfl,rfl,trivial⟩ ?_ trivial rfl);·exact⟨N,hN⟩
    ·dsimp only;omega
    ·repeat' first | exact trivial | refine⟨rfl,?_⟩ | refine⟨aL (by assumption) (by assumption),?_⟩
    repeat' first | exact trivial | refine⟨rfl,?_⟩
   exfalso;simp at J;omega
  have e:k=j.kids.length:=by have:=congrArg List.length hd;simp at this;omega
  have cj:T.size=t.size+(fb j k).length+1:=by rw[Z,ea];rfl
  have b0:T++B #[125]=t++bytesOf (aB j):=by rw[Z,hg,b2,show(B #[125])=bytesOf [125] from rfl,kE,e];rfl
  rw[hg] at M;simp only[List.length_cons,List.length_append,List.length_nil] at M;rw[←e] at M;refine W.exit (aW (aT (aS (qs (W.region ?_)))));iterate 2 refine pE rfl ?_
  refine pu (db (b:=125) aa rfl rfl rfl rfl (by decide) rfl) rfl ?_;refine aK [0] [1] rfl rfl rfl rfl rfl ((eo (c:=125) (s:=T) (m:=B #[125]) (r:=t++bytesOf (aB j)) b0 rfl (eL 125).2 (by omega))) rfl rfl (by rfl) (by rfl) rfl rfl rfl rfl ?_;refine WO.nil (be (b7.end aa [4] trivial rfl rfl rfl rfl ?_ ?_));·exact⟨rfl,trivial⟩
  rfl
 exfalso;simp at a6;omega
theorem yx (j:JV) (u:Bool) (t:ByteArray) (ih:∀ z∈j.kids,∀ (u:Bool) (t r:ByteArray),t++bytesOf (aB z)=r→t.size+2*(aB z).length+2≤140737488355328→bz Tryz.prog 89 [.ptr 0 0,.ag z.c] [[.np 0 tB u,.bf 1 tU t]] 1 (.tup []) [[.np 0 tB true,.bf 1 tU r]] 1) (cx:1≤j.op∧j.op≤6) (a7:j.op=2→j.n=0∨j.n=1) (a8:j.op=3→eg j.n=true) (M:j.op=6→j.keys.length=j.kids.length) (N:t.size+2*(aB j).length+2≤140737488355328) (ho:¬ j.op=6) :
 bz Tryz.prog 89 [.ptr 0 0,.ag j.c] [[.np 0 tB u,.bf 1 tU t]] 1 (.tup []) [[.np 0 tB true,.bf 1 tU (t++bytesOf (aB j))]] 1:=by
 have hO:lW j=91:=if_neg ho;have b2:qP j=93:=if_neg ho;rw[eO j];refine bz.cX aa (n:=74) (rs:=[]) Tryz.func89 (by kernel_rfl) rfl Tryz.ntmps89 Tryz.results89 rfl rfl fun C hC hG=>?_;refine W.seq (W.region (bK rfl rfl rfl (WO.nil (qs (W.seq (W.region (pE rfl (pE rfl (WO.nil (qs (W.block (W.seq (W.region ?_)))))))))))));iterate 2 refine pE rfl ?_
 refine WO.nil (qs (ab rfl (fun X=>?_) (fun X=>?_)));·
  have e:j.op=1:=by simpa using X
  have I:=E9 e;have cy:(aB j).length=4:=by rw[I]<;>rfl
  refine W.region (pE rfl (aK [0] [1] rfl rfl rfl rfl rfl ((kn (s:=t) (x:=B #[110,117,108,108]) (r:=t++bytesOf (aB j)) (by rw[I];rfl) (by rw[show(B #[110,117,108,108]).size=4 from rfl];omega))) rfl rfl (by rfl) (by rfl) rfl rfl rfl rfl ?_));refine WO.nil (be (b7.end aa [4] trivial rfl rfl rfl rfl ?_ ?_));·exact⟨rfl,trivial⟩
  rfl
 have e1:j.op≠1:=by simpa using X
 refine W.seq (W.region ?_);iterate 2 refine pE rfl ?_
 refine WO.nil (qs (ab rfl (fun Z=>?_) (fun Z=>?_)));·
  have e:j.op=2:=by simpa using Z
  have I:=Ft e;have b3:=a7 e;refine W.region (pE rfl (pu (ba aa rfl rfl rfl rfl rfl rfl rfl rfl rfl) rfl ?_));refine pE rfl (pE rfl (pu (indexAddr (l:=[cs (bytesOf (if j.n=1 then ju else ie))]) aa rfl rfl rfl rfl rfl rfl (by omega) (Ge b3) rfl) rfl ?_));refine pE rfl (aK [0] [1] rfl rfl rfl rfl rfl ((kn (s:=t) (x:=bytesOf (if j.n=1 then ju else ie)) (r:=t++bytesOf (aB j)) (by rw[I]) (by rw[I] at N;rw[rf];omega))) rfl rfl (by rfl) (by rfl) rfl rfl rfl rfl ?_);refine WO.nil (be (b7.end aa [4] trivial rfl rfl rfl rfl ?_ ?_));·exact⟨rfl,trivial⟩
  rfl
 have e2:j.op≠2:=by simpa using Z
 refine W.seq (W.region ?_);iterate 2 refine pE rfl ?_
 refine WO.nil (qs (ab rfl (fun ad=>?_) (fun ad=>?_)));·
  have e:j.op=3:=by simpa using ad
  have I:=Fv e;have hi:=E5 (a8 e);refine W.region ?_;iterate 2 refine pE rfl ?_
  refine pE rfl (pu (ao rfl rfl rfl (mF j.n hi.1 hi.2) rfl) rfl ?_);refine aK [0] [1] rfl rfl rfl rfl rfl ((kn (s:=t) (x:=dv j.n) (r:=t++bytesOf (aB j)) (by rw[I,j7]) (by rw[I,au] at N;omega))) rfl rfl (by rfl) (by rfl) rfl rfl rfl rfl ?_;refine WO.nil (be (b7.end aa [4] trivial rfl rfl rfl rfl ?_ ?_));·exact⟨rfl,trivial⟩
  rfl
 have e3:j.op≠3:=by simpa using ad
 refine W.seq (W.region ?_);iterate 2 refine pE rfl ?_
 refine WO.nil (qs (ab rfl (fun ai=>?_) (fun ai=>?_)));·
  have e:j.op=4:=by simpa using ai
  have I:=EV e;have hq:=wa j.s;refine W.region ?_;iterate 2 refine pE rfl ?_
  refine pE rfl (aK [0] [1] rfl rfl rfl rfl rfl ((lu (t:=t) (s:=j.s) (r:=t++bytesOf (aB j)) (by rw[I]) (by rw[I] at N;omega))) rfl rfl (by rfl) (by rfl) rfl rfl rfl rfl ?_);refine WO.nil (be (b7.end aa [4] trivial rfl rfl rfl rfl ?_ ?_));·exact⟨rfl,trivial⟩
  rfl
 have e4:j.op≠4:=by simpa using ai
 have I:=qV e1 e2 e3 e4 M;refine W.seq (W.region (pE rfl (WO.nil (qs ?_))));iterate 2 refine W.seq ?_
 refine W.region (pE rfl (pE rfl (pE rfl (WO.nil (qs (ab rfl (fun a6=>?_) (fun a6=>?_)))))));·exfalso;simp at a6;omega
 refine W.skip (qs (W.seq (W.region ?_)));iterate 2 refine pE rfl ?_
 refine pu (db (b:=91) aa rfl rfl rfl rfl (by decide) rfl) rfl ?_;refine aK [0] [1] rfl rfl rfl rfl rfl ((eo (c:=91) (s:=t) (m:=B #[91]) (r:=t++bytesOf [91]) rfl rfl (eL 91).2 (by omega))) rfl rfl (by rfl) (by rfl) rfl rfl rfl rfl ?_;refine WO.nil (qs ?_);iterate 2 refine W.seq ?_
 refine W.region (pE rfl (pE rfl ?_));iterate 2 refine pE rfl ?_
 refine WO.nil (qs (W.block (W.len (t:=17) rfl rfl (fun hlen=>?_))));try simp only[List.length_map,Ex.aF] at hlen
 refine W.bh (ι:={x:Nat×ByteArray // match x with | (k,T)=>k≤j.kids.length∧T=t++bytesOf (lW j::fb j k)})
  (fun x=>match x.1 with | (k,T)=>[(0,.ptr 0 0),(3,.ptr 2 0),(19,.d (.v (.int .i64 ((k:Nat):Int))))]) [(4,_),(17,_),(18,_)]
  (fun x=>match x.1 with | (k,T)=>[(0,[.np 0 tB true,.bf 1 tU T]),(2,[.d (ci j.op),.d (ci j.n),.d (cs j.s),.d (.sl (j.keys.map sc)),.d (.sl (j.kids.map JV.c))])]) [] [1] 3 (fun x=>match x.1 with | (k,T)=>j.kids.length - k)
  [0,4,2] ⟨(0,t++bytesOf [91]),?_⟩ rfl ?_ ⟨rfl,rfl,rfl,rfl,rfl,rfl,trivial⟩ ?_ trivial rfl ?_
 ·exact⟨Nat.zero_le _,by rw[tK,hO]⟩
 ·repeat' first | exact trivial | refine⟨rfl,?_⟩
 ·repeat' first | exact trivial | refine⟨rfl,?_⟩
 rintro⟨⟨k,T⟩,hk,hI⟩;show W _ _ _ _ _ ⟨[(0,.ptr 0 0),(3,.ptr 2 0),(19,.d (.v (.int .i64 ((k:Nat):Int)))),(4,_),(17,_),(18,_)],[(0,[.np 0 tB true,.bf 1 tU T]),(2,[.d (ci j.op),.d (ci j.n),.d (cs j.s),.d (.sl (j.keys.map sc)),.d (.sl (j.kids.map JV.c))])],[1],3⟩;refine W.seq (W.region (pE rfl (WO.nil (qs (W.seq (bu (l:=j.kids) (k:=k) rfl (by simp[Ex.aF,au]) hk (fun z hx hd aj=>?_) (fun he hd=>?_)))))));·
  have hp:=tl hx M;have ch:=lH hx M;have c1:k < j.kids.length:=aj;rw[I] at N;simp only[List.length_cons,List.length_append,List.length_nil] at N;have cj:T.size=t.size+(fb j k).length+1:=by rw[hI,ea];rfl
  have U:∀ {u:Bool} {t r:ByteArray},t++bytesOf (aB z)=r→t.size+2*(aB z).length+2≤140737488355328→bz Tryz.prog 89 [.ptr 0 0,.ag z.c] [[.np 0 tB u,.bf 1 tU t]] 1 (.tup []) [[.np 0 tB true,.bf 1 tU r]] 1:=fun {u t r}=>ih z (List.mem_of_getElem? hx) u t r;have hN:T++bytesOf (cK k)++bytesOf (fe j k)++bytesOf (aB z)=t++bytesOf (lW j::fb j (k+1)):=by rw[hI,kE,kE,kE,ch];simp only[List.append_assoc,List.cons_append]
  have cq:(cK k).length≤1:=by unfold cK;split <;> simp
  have J:T++bytesOf (cK k)++bytesOf (fe j k)=T++bytesOf (cK k):=by rw[show fe j k=[] from if_neg ho];exact jc (by show ak _=ak _;rw[gZ];simp)
  have c6:(T++bytesOf (cK k)).size≤T.size+1:=by rw[ea];omega
  refine W.skip (qs (W.seq (W.block (W.seq (W.region (pE rfl (pu (indexAddr (l:=z.c) aa rfl rfl rfl rfl rfl rfl (Int.natCast_nonneg _) (aM hx) rfl) rfl ?_)))))));refine pE rfl (aQ aa rfl rfl rfl (pE rfl (ar aa rfl rfl rfl rfl rfl rfl rfl rfl (WO.nil (qs ?_)))));iterate 2 refine W.seq ?_
  refine W.region ?_;iterate 2 refine pE rfl ?_
  refine WO.nil (qs (ab rfl (fun a1=>?_) (fun a1=>?_)));·
   have cl:bytesOf (cK k)=B #[44]:=by unfold cK;rw[if_neg (by simp at a1;omega)];rfl
   refine W.region (pE rfl (aK [0] [1] rfl rfl rfl rfl rfl ((eo (c:=44) (s:=T) (m:=B #[44]) (r:=T++bytesOf (cK k)) (by rw[cl]) rfl (eL 44).2 (by omega))) rfl rfl (by rfl) (by rfl) rfl rfl rfl rfl ?_));refine WO.nil (qs ?_);iterate 2 refine W.seq ?_
   refine W.region (pE rfl (pE rfl (pE rfl (WO.nil (qs (ab rfl (fun O=>?_) (fun O=>?_)))))));·exfalso;simp at O;omega
   refine W.skip (qs (W.region (pE rfl (pE rfl ?_))));first | refine aK [0] [5] rfl rfl rfl rfl rfl (U (r:=T++bytesOf (cK k)++bytesOf (fe j k)++bytesOf (aB z)) (by first | (rw[J];done) | rw[J,hs]) (by omega)) rfl rfl (by rfl) (by rfl) rfl rfl rfl rfl ?_ | refine aK [0] [1] rfl rfl rfl rfl rfl (U (r:=T++bytesOf (cK k)++bytesOf (fe j k)++bytesOf (aB z)) (by first | (rw[J];done) | rw[J,hs]) (by omega)) rfl rfl (by rfl) (by rfl) rfl rfl rfl rfl ?_
   refine WO.nil (be (qs (W.region ?_)));iterate 2 refine pE rfl ?_
   refine WO.nil (W.bt [0,7,2] ⟨(k+1,T++bytesOf (cK k)++bytesOf (fe j k)++bytesOf (aB z)),?_⟩ ?_ rfl ?_ ⟨rfl,rfl,rfl,rfl,rfl,rfl,trivial⟩ ?_ trivial rfl);·exact⟨aj,hN⟩
   ·dsimp only;omega
   ·repeat' first | exact trivial | refine⟨rfl,?_⟩ | refine⟨aL (by assumption) (by assumption),?_⟩
   repeat' first | exact trivial | refine⟨rfl,?_⟩
  have hs:T++bytesOf (cK k)=T:=by unfold cK;rw[if_pos (by simp at a1;omega)];exact jc (by show ak _=ak _;rw[gZ];simp)
  refine W.skip (qs ?_);iterate 2 refine W.seq ?_
  refine W.region (pE rfl (pE rfl (pE rfl (WO.nil (qs (ab rfl (fun O=>?_) (fun O=>?_)))))));·exfalso;simp at O;omega
  refine W.skip (qs (W.region (pE rfl (pE rfl ?_))));first | refine aK [0] [5] rfl rfl rfl rfl rfl (U (r:=T++bytesOf (cK k)++bytesOf (fe j k)++bytesOf (aB z)) (by first | (rw[J];done) | rw[J,hs]) (by omega)) rfl rfl (by rfl) (by rfl) rfl rfl rfl rfl ?_ | refine aK [0] [1] rfl rfl rfl rfl rfl (U (r:=T++bytesOf (cK k)++bytesOf (fe j k)++bytesOf (aB z)) (by first | (rw[J];done) | rw[J,hs]) (by omega)) rfl rfl (by rfl) (by rfl) rfl rfl rfl rfl ?_
  refine WO.nil (be (qs (W.region ?_)));iterate 2 refine pE rfl ?_
  refine WO.nil (W.bt [0,5,2] ⟨(k+1,T++bytesOf (cK k)++bytesOf (fe j k)++bytesOf (aB z)),?_⟩ ?_ rfl ?_ ⟨rfl,rfl,rfl,rfl,rfl,rfl,trivial⟩ ?_ trivial rfl);·exact⟨aj,hN⟩
  ·dsimp only;omega
  ·repeat' first | exact trivial | refine⟨rfl,?_⟩ | refine⟨aL (by assumption) (by assumption),?_⟩
  repeat' first | exact trivial | refine⟨rfl,?_⟩
 have e:k=j.kids.length:=by have:=congrArg List.length hd;simp at this;omega
 have cj:T.size=t.size+(fb j k).length+1:=by rw[hI,ea];rfl
 have b0:T++B #[93]=t++bytesOf (aB j):=by rw[hI,I,b2,show(B #[93])=bytesOf [93] from rfl,kE,e];rfl
 rw[I] at N;simp only[List.length_cons,List.length_append,List.length_nil] at N;rw[←e] at N;refine W.exit (aW (aT (aS (qs (W.region ?_)))));iterate 2 refine pE rfl ?_
 refine pu (db (b:=93) aa rfl rfl rfl rfl (by decide) rfl) rfl ?_;refine aK [0] [1] rfl rfl rfl rfl rfl ((eo (c:=93) (s:=T) (m:=B #[93]) (r:=t++bytesOf (aB j)) b0 rfl (eL 93).2 (by omega))) rfl rfl (by rfl) (by rfl) rfl rfl rfl rfl ?_;refine WO.nil (be (b7.end aa [4] trivial rfl rfl rfl rfl ?_ ?_));·exact⟨rfl,trivial⟩
 rfl
theorem zZ:∀ (j:JV) (lv:Int),aX j lv=0→∀ (u:Bool) (t r:ByteArray),t++bytesOf (aB j)=r→t.size+2*(aB j).length+2≤140737488355328→bz Tryz.prog 89 [.ptr 0 0,.ag j.c] [[.np 0 tB u,.bf 1 tU t]] 1 (.tup []) [[.np 0 tB true,.bf 1 tU r]] 1:=by
 refine JV.ind fun j U=>?_;intro lv Z u t r e X;subst e;obtain⟨O,M,N,I,J⟩:=GP Z;by_cases ho:j.op=6;·exact xU j u t (fun z h1=>U z h1 _ (J z h1)) O M N I X ho
 exact yx j u t (fun z h1=>U z h1 _ (J z h1)) O M N I X ho
end Go.Proofs.YtpiaiiopakafhaaGreatDoor
namespace Go.Proofs.YtpiaiiopakafhaaGreatDoor
open Go.Ab Go.Tb
set_option maxRecDepth 10000
set_option maxHeartbeats 1000000
attribute [local irreducible] W WO Pu QS QB QL QF QV bA CH QE
def jx (j:JV):ByteArray:=if aX j 1=0 then bytesOf (aB j) else B #[]
theorem x8 (j:JV) (O:aX j 1=0→(aB j).length≤1000000000000):pd Tryz.prog (fun _=>True) 38 [.ag j.c] (.tup [.d (.v (.string (jx j))),.d (.v (.int .i64 (aX j 1)))]) 0:=by
 have M:=tQ j;rw[eO j] at M ⊢;refine pd.cX aa (n:=14) (rs:=[.tmp 2,.tmp 3]) Tryz.func38 (by kernel_rfl) rfl Tryz.ntmps38 Tryz.results38 rfl fun C hC X Z N=>?_;refine W.seq (W.region (bK rfl rfl rfl ?_));iterate 2 refine pE rfl ?_
 refine WO.nil (qs ?_);iterate 2 refine W.seq ?_
 refine W.region (pE rfl (pu (ao rfl rfl rfl M rfl) rfl ?_));refine pE rfl (WO.nil (qs (W.seq (W.region ?_))));iterate 2 refine pE rfl ?_
 refine WO.nil (qs (ab rfl (fun I=>?_) (fun I=>?_)));·
  have J:jx j=B #[]:=by unfold jx;rw[if_neg (by simpa using I)]
  refine W.seq (W.region ?_);iterate 3 refine pE rfl ?_
  refine WO.nil (qs (W.ret (an (QV.aw aa trivial rfl ?_))));rw[J];rfl
 have h0:aX j 1=0:=by simpa using I
 have J:jx j=bytesOf (aB j):=by unfold jx;rw[if_pos h0]
 have U:=O h0;refine W.skip (qs (W.seq (W.region (AA aa tU rfl rfl rfl ?_))));refine WO.nil (qs (W.seq (W.region (pE rfl (aK [1] [2] rfl rfl rfl rfl rfl (((congrArg (fun c=>bz Tryz.prog 89 [.ptr 0 0,.ag c] [[.np 0 tB false,.bf 1 tU .empty]] 1 (.tup []) [[.np 0 tB true,.bf 1 tU (bytesOf (aB j))]] 1) (eO j)).mp (zZ j 1 h0 false .empty (bytesOf (aB j)) (jc rfl) (by rw[show(ByteArray.empty).size=0 from rfl];omega)))) rfl rfl (by rfl) (by rfl) rfl rfl rfl rfl ?_)))));refine WO.nil (qs (W.seq (W.region (EY N rfl rfl rfl rfl Ar xC (by rw[rf];simp only[maxLen];omega) rfl ?_))));iterate 2 refine pE rfl ?_
 refine WO.nil (qs (W.ret (QV.aw aa trivial rfl ?_)));rw[J,h0];rfl
theorem zO (j:JV) (I:aX j 1=0→(aB j).length≤1000000000000):ay Tryz.prog 38 [.ag j.c] (.tup [.d (.v (.string (jx j))),.d (.v (.int .i64 (aX j 1)))]) 0:=(x8 j I).BS fun _=>trivial
end Go.Proofs.YtpiaiiopakafhaaGreatDoor
namespace Go.Proofs.YtpiaiiopakafhaaGreatDoor
open Go.Ab Go.Tb
set_option maxRecDepth 10000
set_option maxHeartbeats 1000000
attribute [local irreducible] W WO Pu QS QB QL QF QV bA CH QE
def kZ (ts:List cf) (ps:List bl):ByteArray×Int:=
 if (e7 ts ps).2≠0 then (bq,(e7 ts ps).2) else if aX (jM ts ps) 1≠0 then (bq,aX (jM ts ps) 1) else if 65536 < (jx (jM ts ps)).size then (bq,7) else (jx (jM ts ps),0)
theorem yW (ts:List cf) (ps:List bl) (ok:sZ ts ps) (hz:aX (jM ts ps) 1=0→(aB (jM ts ps)).length≤1000000000000):ay Tryz.prog 15 [.ag (iV.c ⟨ts,dS,ps⟩)] (.tup [.d (cs (kZ ts ps).1),.d (ci (kZ ts ps).2)]) 0:=by
 refine ay.aZ (n:=97) (ts:=[2,3]) Tryz.func15 (by kernel_rfl) rfl Tryz.ntmps15 Tryz.results15 rfl rfl fun C hC hG=>?_;refine W.seq (W.region (bK rfl rfl rfl ?_));iterate 2 refine pE rfl ?_
 refine WO.nil (qs ?_);iterate 2 refine W.seq ?_
 refine W.region (pE rfl (pu (ao rfl rfl rfl (sK ts ps ok) rfl) rfl ?_));refine pE rfl (WO.nil (qs (W.seq (W.region ?_))));iterate 2 refine pE rfl ?_
 refine WO.nil (qs (ab rfl (fun ai=>?_) (fun ai=>?_)));·
  have U:kZ ts ps=(bq,(e7 ts ps).2):=by unfold kZ;rw[if_pos (by simpa using ai)]
  refine W.seq (W.region ?_);iterate 3 refine pE rfl ?_
  refine WO.nil (qs (W.ret (an (QF.aw trivial rfl ?_))));rw[U];rfl
 have h0:¬ (e7 ts ps).2≠0:=by simpa using ai
 refine W.skip (qs ?_);iterate 2 refine W.seq ?_
 apply aG;(case hb=>rfl);·
  iterate 2 refine pE rfl ?_
  refine pE rfl ?_;iterate 3 refine pE rfl ?_
  apply fJ;(case hj=>rfl);(case hl=>rfl);·
   intro g24;iterate 5 refine aE rfl rfl rfl rfl ?_
   refine pE rfl (WO.nil (bg rfl rfl rfl))
  intro g24;refine aH rfl rfl (pE rfl (aH rfl rfl (pE rfl (aH rfl rfl (pE rfl (aH rfl rfl (pE rfl (aH rfl rfl ?_))))))));iterate 2 refine pE rfl ?_
  refine WO.nil (bg rfl rfl rfl)
 refine qs (ab rfl (fun a6=>?_) (fun a6=>?_));·exfalso;simp[dS] at a6
 refine W.skip (qs ?_);iterate 2 refine W.seq ?_
 refine W.region (pE rfl (pu (ao rfl rfl rfl (Dl ts ps ok) rfl) rfl ?_));iterate 2 refine pE rfl ?_
 refine WO.nil (qs (ab rfl (fun a7=>?_) (fun a7=>?_)));·exfalso;simp at a7
 refine W.skip (qs (W.seq (W.region (pu (build aa rfl rfl rfl rfl) rfl ?_))));refine aQ aa rfl rfl rfl (ar aa rfl rfl rfl rfl rfl rfl rfl rfl (WO.nil (qs ?_)));iterate 2 refine W.seq ?_
 obtain⟨hh,b3⟩:=Dh (ts:=ts) (ps:=ps) (by simpa using h0);obtain⟨_,_,cy⟩:=vg hh;have cx:=ok.2.2;have b2:=pG b3;refine W.region ?_;iterate 2 refine pE rfl ?_
 refine pE rfl ?_;iterate 2 refine pE rfl ?_
 refine WO.nil (qs (W.block (gY 1 3 rfl rfl rfl ?_)));refine ez 1 4 rfl rfl rfl ?_;refine W.len (t:=38) rfl rfl (fun hlen=>?_);try simp only[List.length_map,Ex.aF] at hlen
 refine W.bh (ι:={x:Nat×List JV // match x with | (k,acc)=>k≤ts.length∧acc=(ts.take k).map mJ})
  (fun x=>match x.1 with | (k,acc)=>[(1,.ptr 0 0),(5,.ptr 1 0),(40,.d (.v (.int .i64 ((k:Nat):Int))))]) [(38,_),(39,_)]
  (fun x=>match x.1 with | (k,acc)=>[(0,(iV.c ⟨ts,dS,ps⟩).map A.d),(1,[.d (ci 5),.d (ci 0),.d (cs bq),.d (.sl []),.own 2 (acc.map JV.c)])]) [] [2] 3 (fun x=>match x.1 with | (k,acc)=>ts.length - k)
  [0,1,2] ⟨(0,[]),?_⟩ rfl ?_ ⟨rfl,rfl,rfl,rfl,trivial⟩ ?_ trivial rfl ?_
 ·exact⟨Nat.zero_le _,rfl⟩
 ·repeat' first | exact trivial | refine⟨rfl,?_⟩
 ·repeat' first | exact trivial | refine⟨rfl,?_⟩
 rintro⟨⟨k,acc⟩,hk,X⟩;show W _ _ _ _ _ ⟨[(1,.ptr 0 0),(5,.ptr 1 0),(40,.d (.v (.int .i64 ((k:Nat):Int)))),(38,_),(39,_)],[(0,(iV.c ⟨ts,dS,ps⟩).map A.d),(1,[.d (ci 5),.d (ci 0),.d (cs bq),.d (.sl []),.own 2 (acc.map JV.c)])],[2],3⟩;have c1:acc.length≤64:=by rw[X,List.length_map,List.length_take];omega
 refine W.seq (W.region (pE rfl (WO.nil (qs (W.seq (bu (l:=ts) (k:=k) rfl (by simp[Ex.aF,au]) hk (fun t N hd O=>?_) (fun he hd=>?_)))))));·
  refine W.skip (qs (W.seq (W.block (W.seq (W.region (pu (indexAddr (l:=t.c) aa rfl rfl rfl rfl rfl rfl (Int.natCast_nonneg _) (aM N) rfl) rfl ?_))))));refine pE rfl (aQ aa rfl rfl rfl (ar aa rfl rfl rfl rfl rfl rfl rfl rfl (WO.nil (qs (W.pw aa [] [] [] [] 13 (by kernel_rfl) (by kernel_rfl) rfl rfl ?_)))));refine' bb (ev aa rfl) ?p_1 rfl rfl rfl (by kernel_rfl) rfl ?h_1;case' h_1=>skip
  case p_1=>refine⟨fun I=>(ae I (by kernel_rfl)).elim,?_⟩ <;> intro I <;> first | exact⟨ev aa rfl,fun h=>nomatch h⟩ | exact(ae I (by kernel_rfl)).elim
  refine' bb (ev aa rfl) ?p_2 rfl rfl rfl (by kernel_rfl) rfl ?h_2;case' h_2=>skip
  case p_2=>refine⟨fun I=>(ae I (by kernel_rfl)).elim,?_⟩ <;> intro I <;> first | exact⟨ev aa rfl,fun h=>nomatch h⟩ | exact⟨dL aa rfl rfl rfl rfl,fun h=>nomatch h⟩ | exact⟨dM aa rfl rfl rfl rfl rfl,fun h=>nomatch h⟩ | exact(ae I (by kernel_rfl)).elim
  refine' bb (ba aa rfl rfl rfl rfl rfl rfl rfl rfl rfl) ?p_3 rfl rfl rfl (by kernel_rfl) rfl ?h_3;case' h_3=>skip
  case p_3=>refine⟨fun I=>(ae I (by kernel_rfl)).elim,?_⟩ <;> intro I <;> first | exact⟨ba aa rfl rfl rfl rfl rfl rfl rfl rfl rfl,fun h=>nomatch h⟩ | exact(ae I (by kernel_rfl)).elim
  refine' bb (ao rfl rfl rfl (il ..) rfl) ?p_4 rfl rfl rfl (by kernel_rfl) rfl ?h_4;case' h_4=>skip
  case p_4=>refine⟨fun I=>(ae I (by kernel_rfl)).elim,?_⟩ <;> intro I <;> first | exact⟨ao rfl rfl rfl (il ..) rfl,fun h=>nomatch h⟩ | exact(ae I (by kernel_rfl)).elim
  refine' bb (ev aa rfl) ?p_5 rfl rfl rfl (by kernel_rfl) rfl ?h_5;case' h_5=>skip
  case p_5=>refine⟨fun I=>(ae I (by kernel_rfl)).elim,?_⟩ <;> intro I <;> first | exact⟨ev aa rfl,fun h=>nomatch h⟩ | exact(ae I (by kernel_rfl)).elim
  refine' bb (ev aa rfl) ?p_6 rfl rfl rfl (by kernel_rfl) rfl ?h_6;case' h_6=>skip
  case p_6=>refine⟨fun I=>(ae I (by kernel_rfl)).elim,?_⟩ <;> intro I <;> first | exact⟨ev aa rfl,fun h=>nomatch h⟩ | exact⟨dL aa rfl rfl rfl rfl,fun h=>nomatch h⟩ | exact⟨dM aa rfl rfl rfl rfl rfl,fun h=>nomatch h⟩ | exact(ae I (by kernel_rfl)).elim
  refine' bb (ao rfl rfl rfl (iy ..) rfl) ?p_7 rfl rfl rfl (by kernel_rfl) rfl ?h_7;case' h_7=>skip
  case p_7=>refine⟨fun I=>(ae I (by kernel_rfl)).elim,?_⟩ <;> intro I <;> first | exact⟨ao rfl rfl rfl (iy ..) rfl,fun h=>nomatch h⟩ | exact(ae I (by kernel_rfl)).elim
  refine' bb (ev aa rfl) ?p_8 rfl rfl rfl (by kernel_rfl) rfl ?h_8;case' h_8=>skip
  case p_8=>refine⟨fun I=>(ae I (by kernel_rfl)).elim,?_⟩ <;> intro I <;> first | exact⟨ev aa rfl,fun h=>nomatch h⟩ | exact(ae I (by kernel_rfl)).elim
  refine' bb (ev aa rfl) ?p_9 rfl rfl rfl (by kernel_rfl) rfl ?h_9;case' h_9=>skip
  case p_9=>refine⟨fun I=>(ae I (by kernel_rfl)).elim,?_⟩ <;> intro I <;> first | exact⟨ev aa rfl,fun h=>nomatch h⟩ | exact⟨dL aa rfl rfl rfl rfl,fun h=>nomatch h⟩ | exact⟨dM aa rfl rfl rfl rfl rfl,fun h=>nomatch h⟩ | exact(ae I (by kernel_rfl)).elim
  refine' bb (ao rfl rfl rfl (il ..) rfl) ?p_10 rfl rfl rfl (by kernel_rfl) rfl ?h_10;case' h_10=>skip
  case p_10=>refine⟨fun I=>(ae I (by kernel_rfl)).elim,?_⟩ <;> intro I <;> first | exact⟨ao rfl rfl rfl (il ..) rfl,fun h=>nomatch h⟩ | exact(ae I (by kernel_rfl)).elim
  refine' bb (ba aa rfl rfl rfl rfl rfl rfl rfl rfl rfl) ?p_11 rfl rfl rfl (by kernel_rfl) rfl ?h_11;case' h_11=>skip
  case p_11=>refine⟨fun I=>(ae I (by kernel_rfl)).elim,?_⟩ <;> intro I <;> first | exact⟨ba aa rfl rfl rfl rfl rfl rfl rfl rfl rfl,fun h=>nomatch h⟩ | exact(ae I (by kernel_rfl)).elim
  refine' bb (build aa rfl rfl rfl rfl) ?p_12 rfl rfl rfl (by kernel_rfl) rfl ?h_12;case' h_12=>skip
  case p_12=>refine⟨fun I=>(ae I (by kernel_rfl)).elim,?_⟩ <;> intro I <;> first | exact⟨build aa rfl rfl rfl rfl,fun h=>nomatch h⟩ | exact(ae I (by kernel_rfl)).elim
  refine' bb (ba aa rfl rfl rfl rfl rfl rfl rfl rfl rfl) ?p_13 rfl rfl rfl (by kernel_rfl) rfl ?h_13;case' h_13=>skip
  case p_13=>refine⟨fun I=>(ae I (by kernel_rfl)).elim,?_⟩ <;> intro I <;> first | exact⟨ba aa rfl rfl rfl rfl rfl rfl rfl rfl rfl,fun h=>nomatch h⟩ | exact(ae I (by kernel_rfl)).elim
  refine CD.nil ?_ rfl;refine eE (fn:=JV.c) (a:=mJ t) aa rfl rfl rfl rfl rfl rfl rfl rfl rfl rfl (fun _=>rfl) (by show(acc.length+1)*80≤_;omega) ?_;refine pE rfl (ar aa rfl rfl rfl rfl rfl rfl rfl rfl (WO.nil (be (qs (W.region ?_)))));iterate 2 refine pE rfl ?_
  refine WO.nil (W.bt [0,1,4] ⟨(k+1,acc++[mJ t]),?_⟩ ?_ rfl ?_ ⟨rfl,rfl,rfl,rfl,trivial⟩ ?_ trivial rfl);·exact⟨O,by rw[List.take_add_one,N,List.map_append,X];rfl⟩
  ·dsimp only;omega
  ·repeat' first | exact trivial | refine⟨rfl,?_⟩ | refine⟨aL (by assumption) (by assumption),?_⟩
  repeat' first | exact trivial | refine⟨rfl,?_⟩
 have hm:acc=ts.map mJ:=by rw[X,he,List.take_length]
 refine W.exit (aW (aT (aS (qs ?_))));iterate 2 refine W.seq ?_
 refine W.region (pE rfl (pE rfl ?_));iterate 2 refine pE rfl ?_
 refine WO.nil (qs (W.block (W.len (t:=61) rfl rfl (fun hlen=>?_))));try simp only[List.length_map,Ex.aF] at hlen
 refine W.bh (ι:={x:Nat×List JV // match x with | (k,M)=>k≤ps.length∧M=ts.map mJ++(ps.take k).flatMap qj})
  (fun x=>match x.1 with | (k,M)=>[(5,.ptr 0 0),(63,.d (.v (.int .i64 ((k:Nat):Int))))]) [(61,_),(62,_)]
  (fun x=>match x.1 with | (k,M)=>[(0,[.d (ci 5),.d (ci 0),.d (cs bq),.d (.sl []),.own 1 (M.map JV.c)])]) [] [1] 2 (fun x=>match x.1 with | (k,M)=>ps.length - k)
  [1,2] ⟨(0,acc),?_⟩ rfl ?_ ⟨rfl,rfl,rfl,rfl,trivial⟩ ?_ trivial rfl ?_
 ·exact⟨Nat.zero_le _,by rw[hm];simp⟩
 ·repeat' first | exact trivial | refine⟨rfl,?_⟩
 ·repeat' first | exact trivial | refine⟨rfl,?_⟩
 rintro⟨⟨k,M⟩,hk,Z⟩;show W _ _ _ _ _ ⟨[(5,.ptr 0 0),(63,.d (.v (.int .i64 ((k:Nat):Int)))),(61,_),(62,_)],[(0,[.d (ci 5),.d (ci 0),.d (cs bq),.d (.sl []),.own 1 (M.map JV.c)])],[1],2⟩;refine W.seq (W.region (pE rfl (WO.nil (qs (W.seq (bu (l:=ps) (k:=k) rfl (by simp[Ex.aF,au]) hk (fun p N hd O=>?_) (fun he hd=>?_)))))));·
  have ch:=b2 p (List.mem_of_getElem? N);have c6:=(ok.2.1 p (List.mem_of_getElem? N)).2.2.2;refine W.skip (qs (W.seq (W.block (W.seq (W.region (pu (indexAddr (l:=p.c) aa rfl rfl rfl rfl rfl rfl (Int.natCast_nonneg _) (aM N) rfl) rfl ?_))))));refine pE rfl (aQ aa rfl rfl rfl (ar aa rfl rfl rfl rfl rfl rfl rfl rfl (WO.nil (qs (W.seq (W.region (pE rfl (pE rfl ?_))))))));iterate 2 refine pE rfl ?_
  refine WO.nil (qs (W.block (W.len (t:=68) rfl rfl (fun hlen=>?_))));try simp only[List.length_map,Ex.aF] at hlen
  refine W.bh (ι:={x:Nat×List JV // match x with | (q,J)=>q≤p.evs.length∧J=M++(p.evs.take q).map (CW p.thread)})
   (fun x=>match x.1 with | (q,J)=>[(5,.ptr 0 0),(9,.ptr 1 0),(70,.d (.v (.int .i64 ((q:Nat):Int))))]) [(61,_),(62,_),(63,_),(68,_),(69,_)]
   (fun x=>match x.1 with | (q,J)=>[(0,[.d (ci 5),.d (ci 0),.d (cs bq),.d (.sl []),.own 2 (J.map JV.c)]),(1,p.c.map A.d)]) [] [2] 3 (fun x=>match x.1 with | (q,J)=>p.evs.length - q)
   [0,2,1] ⟨(0,M),?_⟩ rfl ?_ ⟨rfl,rfl,rfl,rfl,rfl,rfl,rfl,rfl,rfl,rfl,trivial⟩ ?_ trivial rfl ?_
  ·exact⟨Nat.zero_le _,by simp⟩
  ·repeat' first | exact trivial | refine⟨rfl,?_⟩
  ·repeat' first | exact trivial | refine⟨rfl,?_⟩
  rintro⟨⟨q,J⟩,cj,ad⟩;show W _ _ _ _ _ ⟨[(5,.ptr 0 0),(9,.ptr 1 0),(70,.d (.v (.int .i64 ((q:Nat):Int)))),(61,_),(62,_),(63,_),(68,_),(69,_)],[(0,[.d (ci 5),.d (ci 0),.d (cs bq),.d (.sl []),.own 2 (J.map JV.c)]),(1,p.c.map A.d)],[2],3⟩;have hk:=cj;have c7:J.length≤22000:=by rw[ad,Z,List.length_append,List.length_append,List.length_map,List.length_map,List.length_take];have:=Ao ps k;omega
  refine W.seq (W.region (pE rfl (WO.nil (qs (W.seq (bu (l:=p.evs) (k:=q) rfl (by simp[Ex.aF,au]) hk (fun e N hd O=>?_) (fun he hd=>?_)))))));·
   obtain⟨f,hf,hw,a8⟩:=Fj (ch e (List.mem_of_getElem? N)) p.thread;refine W.skip (qs (W.seq (W.block (W.seq (W.region (pu (indexAddr (l:=e.c) aa rfl rfl rfl rfl rfl rfl (Int.natCast_nonneg _) (aM N) rfl) rfl ?_))))));refine pE rfl (aQ aa rfl rfl rfl (ar aa rfl rfl rfl rfl rfl rfl rfl rfl (WO.nil (qs (W.pw aa [] [] [] [] 7 (by kernel_rfl) (by kernel_rfl) rfl rfl ?_)))));refine' bb (ev aa rfl) ?p_14 rfl rfl rfl (by kernel_rfl) rfl ?h_14;case' h_14=>skip
   case p_14=>refine⟨fun I=>(ae I (by kernel_rfl)).elim,?_⟩ <;> intro I <;> first | exact⟨ev aa rfl,fun h=>nomatch h⟩ | exact(ae I (by kernel_rfl)).elim
   refine' bb (ev aa rfl) ?p_15 rfl rfl rfl (by kernel_rfl) rfl ?h_15;case' h_15=>skip
   case p_15=>refine⟨fun I=>(ae I (by kernel_rfl)).elim,?_⟩ <;> intro I <;> first | exact⟨ev aa rfl,fun h=>nomatch h⟩ | exact⟨dL aa rfl rfl rfl rfl,fun h=>nomatch h⟩ | exact⟨dM aa rfl rfl rfl rfl rfl,fun h=>nomatch h⟩ | exact(ae I (by kernel_rfl)).elim
   refine' bb (ev aa rfl) ?p_16 rfl rfl rfl (by kernel_rfl) rfl ?h_16;case' h_16=>skip
   case p_16=>refine⟨fun I=>(ae I (by kernel_rfl)).elim,?_⟩ <;> intro I <;> first | exact⟨ev aa rfl,fun h=>nomatch h⟩ | exact(ae I (by kernel_rfl)).elim
   refine' bb (ev aa rfl) ?p_17 rfl rfl rfl (by kernel_rfl) rfl ?h_17;case' h_17=>skip
   case p_17=>refine⟨fun I=>(ae I (by kernel_rfl)).elim,?_⟩ <;> intro I <;> first | exact⟨ev aa rfl,fun h=>nomatch h⟩ | exact⟨dL aa rfl rfl rfl rfl,fun h=>nomatch h⟩ | exact⟨dM aa rfl rfl rfl rfl rfl,fun h=>nomatch h⟩ | exact(ae I (by kernel_rfl)).elim
   refine' bb (ev aa rfl) ?p_18 rfl rfl rfl (by kernel_rfl) rfl ?h_18;case' h_18=>skip
   case p_18=>refine⟨fun I=>(ae I (by kernel_rfl)).elim,?_⟩ <;> intro I <;> first | exact⟨ev aa rfl,fun h=>nomatch h⟩ | exact⟨dL aa rfl rfl rfl rfl,fun h=>nomatch h⟩ | exact⟨dM aa rfl rfl rfl rfl rfl,fun h=>nomatch h⟩ | exact(ae I (by kernel_rfl)).elim
   refine' bb (ao rfl rfl rfl (qT p.thread e f hf a8) rfl) ?p_19 rfl rfl rfl (by kernel_rfl) rfl ?h_19;case' h_19=>skip
   case p_19=>refine⟨fun I=>(ae I (by kernel_rfl)).elim,?_⟩ <;> intro I <;> first | exact⟨ao rfl rfl rfl (qT p.thread e f hf a8) rfl,fun h=>nomatch h⟩ | exact(ae I (by kernel_rfl)).elim
   refine' bb (ba aa rfl rfl rfl rfl rfl rfl rfl rfl rfl) ?p_20 rfl rfl rfl (by kernel_rfl) rfl ?h_20;case' h_20=>skip
   case p_20=>refine⟨fun I=>(ae I (by kernel_rfl)).elim,?_⟩ <;> intro I <;> first | exact⟨ba aa rfl rfl rfl rfl rfl rfl rfl rfl rfl,fun h=>nomatch h⟩ | exact(ae I (by kernel_rfl)).elim
   refine CD.nil ?_ rfl;refine eE (fn:=JV.c) (a:=xz f p.thread e) aa rfl rfl rfl rfl rfl rfl rfl rfl rfl rfl (fun _=>rfl) (by show(J.length+1)*80≤_;omega) ?_;refine pE rfl (ar aa rfl rfl rfl rfl rfl rfl rfl rfl (WO.nil (be (qs (W.region ?_)))));iterate 2 refine pE rfl ?_
   refine WO.nil (W.bt [0,1,4] ⟨(q+1,J++[xz f p.thread e]),?_⟩ ?_ rfl ?_ ⟨rfl,rfl,rfl,rfl,rfl,rfl,rfl,rfl,rfl,rfl,trivial⟩ ?_ trivial rfl);·exact⟨O,by rw[List.take_add_one,N,List.map_append,ad,←hw,List.append_assoc];rfl⟩
   ·dsimp only;omega
   ·repeat' first | exact trivial | refine⟨rfl,?_⟩ | refine⟨aL (by assumption) (by assumption),?_⟩
   repeat' first | exact trivial | refine⟨rfl,?_⟩
  have cl:J=ts.map mJ++(ps.take (k+1)).flatMap qj:=by rw[ad,he,List.take_length,Z,List.take_add_one,N,List.flatMap_append,List.append_assoc];congr 2;simp[qj]
  refine W.exit (aW (aT (aS (be (qs (W.region ?_))))));iterate 2 refine pE rfl ?_
  refine WO.nil (W.bt [0,2] ⟨(k+1,J),?_⟩ ?_ rfl ?_ ⟨rfl,rfl,rfl,rfl,trivial⟩ ?_ trivial rfl);·exact⟨O,cl⟩
  ·dsimp only;omega
  ·repeat' first | exact trivial | refine⟨rfl,?_⟩ | refine⟨aL (by assumption) (by assumption),?_⟩
  repeat' first | exact trivial | refine⟨rfl,?_⟩
 have cq:M=Fa ts ps:=by rw[Z,he,List.take_length];rfl
 have hP:=zO (jM ts ps) hz;rw[eO] at hP;rw[show(jM ts ps).kids=M from cq.symm] at hP;refine W.exit (aW (aT (aS (qs (W.seq (W.region (pE rfl (pu (ao rfl rfl rfl hP rfl) rfl ?_))))))));iterate 5 refine pE rfl ?_
 refine WO.nil (qs ?_);iterate 2 refine W.seq ?_
 refine W.region ?_;iterate 2 refine pE rfl ?_
 refine WO.nil (qs (ab rfl (fun aj=>?_) (fun aj=>?_)));·
  have U:kZ ts ps=(bq,aX (jM ts ps) 1):=by unfold kZ;rw[if_neg h0,if_pos (by simpa using aj)]
  refine W.seq (W.region ?_);iterate 3 refine pE rfl ?_
  refine WO.nil (qs (W.ret (an (QF.aw trivial rfl ?_))));rw[U];rfl
 have b0:¬ aX (jM ts ps) 1≠0:=by simpa using aj
 refine W.skip (qs ?_);iterate 2 refine W.seq ?_
 refine W.region ?_;iterate 3 refine pE rfl ?_
 refine WO.nil (qs (ab rfl (fun a1=>?_) (fun a1=>?_)));·
  have U:kZ ts ps=(bq,7):=by unfold kZ;rw[if_neg h0,if_neg b0,if_pos (by simp at a1;omega)]
  refine W.seq (W.region ?_);iterate 2 refine pE rfl ?_
  refine WO.nil (qs (W.ret (an (QF.aw trivial rfl ?_))));rw[U];rfl
 have U:kZ ts ps=(jx (jM ts ps),0):=by unfold kZ;rw[if_neg h0,if_neg b0,if_neg (by simp at a1;omega)]
 refine W.skip (qs (W.seq (W.region ?_)));iterate 3 refine pE rfl ?_
 refine WO.nil (qs (W.ret (QF.aw trivial rfl ?_)));rw[U];rfl
end Go.Proofs.YtpiaiiopakafhaaGreatDoor
namespace Go.Proofs.YtpiaiiopakafhaaGreatDoor
open Go.Ab Go.Tb
set_option maxRecDepth 10000
set_option maxHeartbeats 1000000
attribute [local irreducible] W WO Pu QS QB QL QF QV bA CH QE
theorem A6 (j:JV):ay Tryz.prog 28 [.ag j.c] (.tup [.d (cs (dZ j)),.d (ci (lQ j)),.d (.v (.bool (!fC j)))]) 0:=by
 refine ay.aZ (n:=54) (ts:=[2,3,4]) Tryz.func28 (by kernel_rfl) rfl Tryz.ntmps28 Tryz.results28 rfl rfl fun C hC J=>?_;refine W.seq (W.region (bK rfl rfl rfl ?_));iterate 3 refine pE rfl ?_
 refine WO.nil (qs (W.seq (W.region (pE rfl (pu (ao rfl rfl rfl (pj j dz) rfl) rfl ?_)))));iterate 3 refine pE rfl ?_
 refine aQ aa rfl rfl rfl (ar aa rfl rfl rfl rfl rfl rfl rfl rfl (pE rfl (WO.nil (qs (W.seq (W.region (pE rfl (pu (ao rfl rfl rfl (pj j bP) rfl) rfl ?_))))))));iterate 3 refine pE rfl ?_
 refine aQ aa rfl rfl rfl (ar aa rfl rfl rfl rfl rfl rfl rfl rfl (pE rfl (WO.nil (qs ?_))));iterate 2 refine W.seq ?_
 apply aG;(case hb=>rfl);·repeat' first | refine bg rfl rfl rfl | refine aH rfl rfl ?_ | refine aE rfl rfl rfl rfl ?_ | refine pE rfl ?_ | refine WO.nil ?_ | (apply aP;(case hj=>rfl);(case hl=>rfl))
 refine qs (ab rfl (fun I=>?_) (fun I=>?_));·
  have hb:fC j=true:=I;refine W.seq (W.region ?_);iterate 3 refine pE rfl ?_
  refine WO.nil (qs (W.ret (an (QF.aw trivial rfl ?_))));simp only[dZ,lQ,hb];rfl
 have hb:fC j=false:=I;refine W.skip (qs (W.seq (W.ey aa (by kernel_rfl) ?_)));refine aJ (ev aa rfl) rfl ?_;refine aJ (ev aa rfl) rfl ?_;refine aJ (ev aa rfl) rfl ?_;refine aJ (ev aa rfl) rfl ?_;iterate 3 refine aJ (ev aa rfl) rfl ?_
 refine CH.nil ?_;refine qs (W.ret (QF.aw trivial rfl ?_));simp only[dZ,lQ,hb];rfl
theorem zm:∀ {k:Nat},k < 12→∃ f,eH[k]? = some f∧vM.extract k (k+1)=f.ph
 | 0,_=>⟨_,rfl,by decide +kernel⟩
 | 1,_=>⟨_,rfl,by decide +kernel⟩
 | 2,_=>⟨_,rfl,by decide +kernel⟩
 | 3,_=>⟨_,rfl,by decide +kernel⟩
 | 4,_=>⟨_,rfl,by decide +kernel⟩
 | 5,_=>⟨_,rfl,by decide +kernel⟩
 | 6,_=>⟨_,rfl,by decide +kernel⟩
 | 7,_=>⟨_,rfl,by decide +kernel⟩
 | 8,_=>⟨_,rfl,by decide +kernel⟩
 | 9,_=>⟨_,rfl,by decide +kernel⟩
 | 10,_=>⟨_,rfl,by decide +kernel⟩
 | 11,_=>⟨_,rfl,by decide +kernel⟩
 | k+12,h=>by omega
theorem BU {ph:ByteArray} {k:Nat} (h:bJ (fun f:Fm=>decide (f.ph=ph)) eH k) {f:Fm} (I:eH[k]? = some f) (e:f.ph=ph):dB ph=(k:Int)+1:=by unfold dB;have:=h.found I (by simpa using e);rw[this]
theorem B8 (ph:ByteArray):ay Tryz.prog 61 [.d (.v (.string ph))] (.d (ci (dB ph))) 0:=by
 refine ay.aZ (n:=16) (ts:=[2]) Tryz.func61 (by kernel_rfl) rfl Tryz.ntmps61 Tryz.results61 rfl rfl fun C hC U=>?_;refine W.seq (W.region (pE rfl (WO.nil (qs ?_))));iterate 2 refine W.seq ?_
 refine W.region (pE rfl (WO.nil (qs (W.block ?_))))
 refine W.bh (ι:={x:Nat // match x with | k=>k≤12∧bJ (fun f:Fm=>decide (f.ph=ph)) eH k})
  (fun x=>match x.1 with | k=>[(3,.d (.v (.int .i64 ((k:Nat):Int))))]) [(0,_)]
  (fun x=>match x.1 with | k=>[]) [] [] 0 (fun x=>match x.1 with | k=>12 - k)
  [] ⟨0,?_⟩ rfl ?_ ⟨rfl,rfl,trivial⟩ ?_ trivial rfl ?_
 ·exact⟨Nat.zero_le _,bJ.zero⟩
 ·repeat' first | exact trivial | refine⟨rfl,?_⟩
 ·repeat' exact trivial
 rintro⟨k,X,M⟩;show W _ _ _ _ _ ⟨[(3,.d (.v (.int .i64 ((k:Nat):Int)))),(0,_)],[],[],0⟩;iterate 2 refine W.seq ?_
 refine W.region ?_;iterate 2 refine pE rfl ?_
 refine WO.nil (qs (ab rfl (fun h5=>?_) (fun h5=>?_)));·
  obtain⟨f,N,hl⟩:=zm (k:=k) (by simp at h5;omega);refine W.skip (qs (W.seq (W.block (W.seq (W.region ?_)))));iterate 3 refine pE rfl ?_
  refine pu (cU (ev aa rfl) (y:=((k+1:Nat):Int)) (wrap64 (by omega))) rfl ?_;refine pu (mx (s:=vM) (l:=(k:Int)) (h:=((k+1:Nat):Int)) aa rfl rfl rfl rfl rfl (Int.natCast_nonneg _) (by omega) (by show((k+1:Nat):Int)≤12;simp at h5;omega)) rfl ?_;refine pE rfl (WO.nil (qs (ab rfl (fun I=>?_) (fun I=>?_))));·
   have J:dB ph=(k:Int)+1:=BU M N (by rw[←hl];simp at I;exact I.symm);refine W.seq (W.region (pE rfl (pu (cU (ev aa rfl) (y:=((k+1:Nat):Int)) (wrap64 (by omega))) rfl ?_)));refine pE rfl (WO.nil (qs (W.ret (aC (an (cn (aC (an (QF.aw trivial rfl ?_)))))))));rw[J];rfl
  have O:decide (f.ph=ph)=false:=by rw[←hl];simp at I ⊢;exact fun e=>I e.symm
  refine W.skip (be (qs (W.region (pE rfl (pu (cU (ev aa rfl) (y:=((k+1:Nat):Int)) (wrap64 (by omega))) rfl ?_)))));refine pE rfl (WO.nil (W.bt [] ⟨k+1,?_⟩ ?_ rfl ?_ ⟨rfl,rfl,trivial⟩ ?_ trivial rfl));·exact⟨by simp at h5;omega,M.step N O⟩
  ·simp at h5;dsimp only;omega
  ·repeat' first | exact trivial | refine⟨rfl,?_⟩
  repeat' exact trivial
 have J:dB ph=0:=by
  obtain rfl:k=12:=by simp at h5;omega
  unfold dB;rw[M.end_ rfl]
 refine W.exit (aW (aT (aS (qs (W.seq (W.region (pE rfl (WO.nil (qs (W.ret (QF.aw trivial rfl ?_)))))))))));rw[J];rfl
theorem vU (k:Int) (b:Bool):ay Tryz.prog 63 [.d (ci k),.d (.v (.bool b))] (.d (.sl ((dr k b).map sc))) 0:=by
 refine ay.aZ (n:=34) (ts:=[4]) Tryz.func63 (by kernel_rfl) rfl Tryz.ntmps63 Tryz.results63 rfl rfl fun C hC hG=>?_;refine W.seq (W.region (pE rfl (WO.nil (qs ?_))));iterate 2 refine W.seq ?_
 refine W.region (pE rfl (WO.nil (qs (W.block ?_))));iterate 2 refine W.seq ?_
 refine W.region ?_;iterate 2 refine pE rfl ?_
 refine WO.nil (qs (ab rfl (fun I=>?_) (fun I=>?_)));·
  refine W.skip (qs (W.fX rfl (W.seq (W.region (pu (ba aa rfl rfl rfl rfl rfl rfl rfl rfl rfl) rfl ?_)))));refine pE rfl (WO.nil (qs (W.ret (aC (an (QF.aw trivial rfl ?_))))));simp only[norm,aI,dr];simp_all[bk,cT,aR,b6,eW,cF,eP,hZ,cE,gT,eM]
 refine W.region ?_;iterate 2 refine pE rfl ?_
 refine WO.nil (qs (ab rfl (fun I=>?_) (fun I=>?_)));·
  refine W.seq (W.region (pu (ba aa rfl rfl rfl rfl rfl rfl rfl rfl rfl) rfl ?_));refine pE rfl (WO.nil (qs (W.ret (aC (an (QF.aw trivial rfl ?_))))));simp only[norm,aI,dr];simp_all[bk,cT,aR,b6,eW,cF,eP,hZ,cE,gT,eM]
 refine W.seq (W.region ?_);iterate 2 refine pE rfl ?_
 refine WO.nil (qs (ab rfl (fun J=>?_) (fun J=>?_)));·
  refine W.seq (W.region (pu (ba aa rfl rfl rfl rfl rfl rfl rfl rfl rfl) rfl ?_));refine pE rfl (WO.nil (qs (W.ret (aC (an (QF.aw trivial rfl ?_))))));simp only[norm,aI,dr];simp_all[bk,cT,aR,b6,eW,cF,eP,hZ,cE,gT,eM]
 refine W.seq (W.region ?_);iterate 2 refine pE rfl ?_
 refine WO.nil (qs (ab rfl (fun M=>?_) (fun M=>?_)));·
  refine W.seq (W.region (pu (ba aa rfl rfl rfl rfl rfl rfl rfl rfl rfl) rfl ?_));refine pE rfl (WO.nil (qs (W.ret (aC (an (QF.aw trivial rfl ?_))))));simp only[norm,aI,dr];simp_all[bk,cT,aR,b6,eW,cF,eP,hZ,cE,gT,eM]
 refine W.seq (W.region ?_);iterate 2 refine pE rfl ?_
 refine WO.nil (qs (ab rfl (fun N=>?_) (fun N=>?_)));·
  refine W.seq (W.region (pu (ba aa rfl rfl rfl rfl rfl rfl rfl rfl rfl) rfl ?_));refine pE rfl (WO.nil (qs (W.ret (aC (an (QF.aw trivial rfl ?_))))));simp only[norm,aI,dr];simp_all[bk,cT,aR,b6,eW,cF,eP,hZ,cE,gT,eM]
 refine W.seq (W.region ?_);iterate 2 refine pE rfl ?_
 refine WO.nil (qs (ab rfl (fun O=>?_) (fun O=>?_)));·
  refine W.seq (W.region (pu (ba aa rfl rfl rfl rfl rfl rfl rfl rfl rfl) rfl ?_));refine pE rfl (WO.nil (qs (W.ret (aC (an (QF.aw trivial rfl ?_))))));simp only[norm,aI,dr];simp_all[bk,cT,aR,b6,eW,cF,eP,hZ,cE,gT,eM]
 refine W.seq (W.region ?_);iterate 2 refine pE rfl ?_
 refine WO.nil (qs (ab rfl (fun U=>?_) (fun U=>?_)));·
  iterate 2 refine W.seq ?_
  refine W.region (pE rfl (WO.nil (qs (ab rfl (fun X=>?_) (fun X=>?_)))));·
   refine W.seq (W.region (pu (ba aa rfl rfl rfl rfl rfl rfl rfl rfl rfl) rfl ?_));refine pE rfl (WO.nil (qs (W.ret (an (aC (an (QF.aw trivial rfl ?_)))))));simp only[norm,aI,dr];simp_all[bk,cT,aR,b6,eW,cF,eP,hZ,cE,gT,eM]
  refine W.skip (qs (W.seq (W.region (pu (ba aa rfl rfl rfl rfl rfl rfl rfl rfl rfl) rfl ?_))));refine pE rfl (WO.nil (qs (W.ret (aC (an (QF.aw trivial rfl ?_))))));simp only[norm,aI,dr];simp_all[bk,cT,aR,b6,eW,cF,eP,hZ,cE,gT,eM]
 refine W.seq (W.region ?_);iterate 2 refine pE rfl ?_
 refine WO.nil (qs (ab rfl (fun Z=>?_) (fun Z=>?_)));·
  refine W.seq (W.region (pu (ba aa rfl rfl rfl rfl rfl rfl rfl rfl rfl) rfl ?_));refine pE rfl (WO.nil (qs (W.ret (aC (an (QF.aw trivial rfl ?_))))));simp only[norm,aI,dr];simp_all[bk,cT,aR,b6,eW,cF,eP,hZ,cE,gT,eM]
 refine W.seq (W.region ?_);iterate 2 refine pE rfl ?_
 refine WO.nil (qs (ab rfl (fun ad=>?_) (fun ad=>?_)));·
  refine W.seq (W.region (pu (ba aa rfl rfl rfl rfl rfl rfl rfl rfl rfl) rfl ?_));refine pE rfl (WO.nil (qs (W.ret (aC (an (QF.aw trivial rfl ?_))))));simp only[norm,aI,dr];simp_all[bk,cT,aR,b6,eW,cF,eP,hZ,cE,gT,eM]
 refine W.skip (be (qs (W.seq (W.region (pu (ba aa rfl rfl rfl rfl rfl rfl rfl rfl rfl) rfl ?_)))));refine pE rfl (WO.nil (qs (W.ret (QF.aw trivial rfl ?_))));simp only[norm,aI,dr];simp_all[bk,cT,aR,b6,eW,cF,eP,hZ,cE,gT,eM]
end Go.Proofs.YtpiaiiopakafhaaGreatDoor
namespace Go.Proofs.YtpiaiiopakafhaaGreatDoor
open Go.Ab Go.Tb
set_option maxRecDepth 10000
set_option maxHeartbeats 1000000
attribute [local irreducible] W WO Pu QS QB QL QF QV bA CH QE
theorem wh {l:List JV} {k:Nat} {x:JV} (h:l[k]? = some x):cz (l.take (k+1))=(cz (l.take k) || !decide (x.op=4)):=by unfold cz;rw[List.take_add_one,h];simp
theorem Ce {l:List JV} {k:Nat} (h:cz l=false):cz (l.take k)=false:=by unfold cz at h ⊢;rw[List.any_eq_false] at h ⊢;exact fun x I=>h x (List.mem_of_mem_take I)
theorem zD (j:JV) (hs:j.kids.length≤1000000000):ay Tryz.prog 103 [.ag j.c] (.tup [.d (.sl ((e8 j).1.map sc)),.d (.v (.bool (e8 j).2))]) 0:=by
 rw[eO j];refine ay.aZ (n:=33) (ts:=[2,3]) Tryz.func103 (by kernel_rfl) rfl Tryz.ntmps103 Tryz.results103 rfl rfl fun C hC hG=>?_;refine W.seq (W.region (bK rfl rfl rfl ?_));iterate 2 refine pE rfl ?_
 refine WO.nil (qs ?_);iterate 2 refine W.seq ?_
 refine W.region (pE rfl (pE rfl (pE rfl (WO.nil (qs (ab rfl (fun U=>?_) (fun U=>?_)))))));·
  have J:e8 j=([],false):=by unfold e8;rw[if_pos (by simpa using U)]
  refine W.seq (W.region ?_);iterate 2 refine pE rfl ?_
  refine WO.nil (qs ?_);try refine jI (d:=2) rfl rfl ?_
  refine W.ret (an (QF.aw trivial rfl ?_));rw[J];rfl
 have O:j.op=5:=by simpa using U
 refine W.skip (qs (W.seq (W.region (pE rfl (WO.nil (qs ?_))))));iterate 2 refine W.seq ?_
 refine W.region (pE rfl (WO.nil (qs (W.block (kg (g:=0) (j:=4) rfl rfl (fun hlen=>?_))))));rw[List.length_map] at hlen;refine jI (d:=4) rfl rfl ?_
 refine W.bh (ι:={x:Nat×List ByteArray // match x with | (k,out)=>k≤j.kids.length∧out=(j.kids.take k).map JV.s∧cz (j.kids.take k)=false})
  (fun x=>match x.1 with | (k,out)=>[(1,.ptr 0 0),(4,.own 1 (out.map sc)),(5,.d (.v (.int .i64 ((k:Nat):Int))))]) []
  (fun x=>match x.1 with | (k,out)=>[(0,[.d (ci j.op),.d (ci j.n),.d (cs j.s),.d (.sl (j.keys.map sc)),.d (.sl (j.kids.map JV.c))])]) [] [1] 2 (fun x=>match x.1 with | (k,out)=>j.kids.length - k)
  [0,1] ⟨(0,[]),?_⟩ rfl ?_ trivial ?_ trivial rfl ?_
 ·exact⟨Nat.zero_le _,rfl,rfl⟩
 ·repeat' first | exact trivial | refine⟨rfl,?_⟩
 ·repeat' first | exact trivial | refine⟨rfl,?_⟩
 rintro⟨⟨k,out⟩,hk,I,X⟩;show W _ _ _ _ _ ⟨[(1,.ptr 0 0),(4,.own 1 (out.map sc)),(5,.d (.v (.int .i64 ((k:Nat):Int))))],[(0,[.d (ci j.op),.d (ci j.n),.d (cs j.s),.d (.sl (j.keys.map sc)),.d (.sl (j.kids.map JV.c))])],[1],2⟩;have aj:out.length≤j.kids.length:=by rw[I,List.length_map,List.length_take];exact Nat.min_le_right _ _
 iterate 2 refine W.seq ?_
 refine W.region ?_;iterate 2 refine pE rfl ?_
 refine pE rfl ?_;iterate 2 refine pE rfl ?_
 refine WO.nil (qs (bu (l:=j.kids) (k:=k) rfl (by simp[Ex.aF,au]) hk (fun x M hd Z=>?_) (fun he hd=>?_)));·
  refine W.skip (qs (W.seq (W.block ?_)));iterate 2 refine W.seq ?_
  refine W.region (pE rfl (pE rfl (pE rfl (pu (indexAddr (l:=x.c) aa rfl rfl rfl rfl rfl rfl (Int.natCast_nonneg _) (aM M) rfl) rfl ?_))));refine pE rfl (pE rfl (pE rfl (WO.nil (qs (ab rfl (fun N=>?_) (fun N=>?_))))));·
   have ad:cz j.kids=true:=by
    cases hb:cz j.kids with
    | true=>rfl
    | false=>have h1:=Ce (k:=k+1) hb;rw[wh M,show(!decide (x.op=4))=true from N,Bool.or_true] at h1;cases h1
   have J:e8 j=([],false):=by unfold e8;rw[if_neg (by rw[O];simp),if_pos ad]
   refine W.seq (W.region ?_);iterate 2 refine pE rfl ?_
   refine WO.nil (qs ?_);try refine jI (d:=2) rfl rfl ?_
   refine W.ret (an (aC (an (cn (aC (an (QF.aw trivial rfl ?_)))))));rw[J];rfl
  have ai:(!decide (x.op=4))=false:=N;refine W.skip (qs (W.region ?_));iterate 2 refine pE rfl ?_
  refine pE rfl (pE rfl (pu (indexAddr (l:=x.c) aa rfl rfl rfl rfl rfl rfl (Int.natCast_nonneg _) (aM M) rfl) rfl ?_));refine pE rfl (pE rfl (pu (ba aa rfl rfl rfl rfl rfl rfl rfl rfl rfl) rfl ?_));refine eE (a:=x.s) aa rfl rfl rfl rfl rfl rfl rfl rfl rfl rfl (fun _=>rfl) (by show(out.length+1)*16≤_;omega) ?_;refine pE rfl (WO.nil (be (qs (W.region ?_))));iterate 3 refine pE rfl ?_
  refine WO.nil (W.bt [0,2] ⟨(k+1,out++[x.s]),?_⟩ ?_ rfl ?_ trivial ?_ trivial rfl);·exact⟨Z,by rw[List.take_add_one,M,List.map_append,I];rfl,by rw[wh M,X,ai];rfl⟩
  ·dsimp only;omega
  ·repeat' first | exact trivial | refine⟨rfl,?_⟩ | refine⟨aL (by assumption) (by assumption),?_⟩
  repeat' first | exact trivial | refine⟨rfl,?_⟩
 rw[he,List.take_length] at X I;have J:e8 j=(j.kids.map JV.s,true):=by unfold e8;rw[if_neg (by rw[O];simp),if_neg (by rw[X];simp)]
 rw[J,←I];refine W.exit (aW (aT (aS (qs (W.seq (W.region ?_))))));iterate 3 refine pE rfl ?_
 refine WO.nil (qs ?_);try refine jI (d:=2) rfl rfl ?_
 refine W.ret (QF.aw trivial rfl ?_);rfl
theorem D0 (e:Ev) (key:ByteArray) (v:JV) (hs:v.kids.length≤1000000000):ay Tryz.prog 64 [.ag e.c,.d (.v (.string key)),.ag v.c] (.tup [.ag (dc e key v).1.c,.d (.v (.bool (dc e key v).2))]) 0:=by
 refine ay.cX aa (n:=51) (rs:=[.cell 6 50,.tmp 7]) Tryz.func64 (by kernel_rfl) rfl Tryz.ntmps64 Tryz.results64 rfl fun C hC U=>?_;refine W.seq (W.region (bK rfl rfl rfl (bK rfl rfl rfl (aQ aa rfl rfl rfl (pE rfl (WO.nil (qs ?_)))))));iterate 2 refine W.seq ?_
 refine W.region ?_;iterate 2 refine pE rfl ?_
 refine WO.nil (qs (ab rfl (fun J=>?_) (fun J=>?_)));·
  have I:dc e key v=({ e with name:=v.s },decide (v.op=4)):=if_pos (by simpa [bk] using J);refine W.seq (W.region (pE rfl (pE rfl (pE rfl (ar aa rfl rfl rfl rfl rfl rfl rfl rfl (WO.nil (qs (W.seq ?_))))))));apply W.jJ aa 5 4;(case hB=>kernel_rfl);(case h1=>rfl);(case h2=>rfl);refine' j6 (ev aa rfl) rfl rfl rfl rfl rfl ?h_1;case' h_1=>skip
  refine' eY ?p1_2 (ev aa rfl) rfl rfl rfl rfl rfl ?h_2;case' h_2=>skip
  refine' eY ?p1_3 (ev aa rfl) rfl rfl rfl rfl rfl ?h_3;case' h_3=>skip
  refine' eY ?p1_4 (ev aa rfl) rfl rfl rfl rfl rfl ?h_4;case' h_4=>skip
  refine' xN (fun g=>?e_5) rfl rfl ?h_5;case e_5=>refine ar aa rfl rfl rfl rfl rfl rfl rfl rfl (WO.nil ?_);exact⟨rfl,rfl⟩
  case' h_5=>skip
  case p1_2=>exact(ev aa rfl)
  case p1_3=>exact(ev aa rfl)
  case p1_4=>exact(ev aa rfl)
  refine CC.nil ?_;refine pE rfl (WO.nil (qs (W.ret (an (QV.aw aa trivial rfl ?_)))));rw[I];rfl
 have n1:¬ key=bk:=by simpa [bk] using J
 refine W.skip (qs ?_);iterate 2 refine W.seq ?_
 refine W.region ?_;iterate 2 refine pE rfl ?_
 refine WO.nil (qs (ab rfl (fun M=>?_) (fun M=>?_)));·
  have I:dc e key v=({ e with stack:=(e8 v).1 },(e8 v).2):=by unfold dc;rw[if_neg n1,if_pos (by simpa [aR] using M)]
  refine W.seq (W.region (pE rfl (pu (ao rfl rfl rfl (zD v hs) rfl) rfl ?_)));iterate 5 refine pE rfl ?_
  refine WO.nil (qs (W.seq (W.region ?_)));iterate 2 refine pE rfl ?_
  refine ar aa rfl rfl rfl rfl rfl rfl rfl rfl (WO.nil (qs (W.seq (W.region (pE rfl (pE rfl (ar aa rfl rfl rfl rfl rfl rfl rfl rfl (pE rfl (WO.nil (qs (W.ret (an (QV.aw aa trivial rfl ?_)))))))))))));rw[I];rfl
 have n2:¬ key=aR:=by simpa [aR] using M
 refine W.skip (qs ?_);iterate 2 refine W.seq ?_
 refine W.region ?_;iterate 2 refine pE rfl ?_
 refine WO.nil (qs (ab rfl (fun N=>?_) (fun N=>?_)));·
  have I:dc e key v=({ e with time:=v.n },decide (v.op=3)):=by unfold dc;rw[if_neg n1,if_neg n2,if_pos (by simpa [cT] using N)]
  refine W.region (pE rfl (pE rfl (pE rfl (ar aa rfl rfl rfl rfl rfl rfl rfl rfl (WO.nil (qs (W.seq ?_)))))));apply W.jJ aa 5 4;(case hB=>kernel_rfl);(case h1=>rfl);(case h2=>rfl);refine' j6 (ev aa rfl) rfl rfl rfl rfl rfl ?h_6;case' h_6=>skip
  refine' eY ?p1_7 (ev aa rfl) rfl rfl rfl rfl rfl ?h_7;case' h_7=>skip
  refine' eY ?p1_8 (ev aa rfl) rfl rfl rfl rfl rfl ?h_8;case' h_8=>skip
  refine' eY ?p1_9 (ev aa rfl) rfl rfl rfl rfl rfl ?h_9;case' h_9=>skip
  refine' xN (fun g=>?e_10) rfl rfl ?h_10;case e_10=>refine ar aa rfl rfl rfl rfl rfl rfl rfl rfl (WO.nil ?_);exact⟨rfl,rfl⟩
  case' h_10=>skip
  case p1_7=>exact(ev aa rfl)
  case p1_8=>exact(ev aa rfl)
  case p1_9=>exact(ev aa rfl)
  refine CC.nil ?_;refine pE rfl (WO.nil (qs (W.ret (QV.aw aa trivial rfl ?_))));rw[I];rfl
 have n3:¬ key=cT:=by simpa [cT] using N
 refine W.seq ?_;apply aG;(case hb=>rfl);·repeat' first | refine bg rfl rfl rfl | refine aH rfl rfl ?_ | refine aE rfl rfl rfl rfl ?_ | refine pE rfl ?_ | refine WO.nil ?_ | (apply aP;(case hj=>rfl);(case hl=>rfl))
 refine qs (ab rfl (fun O=>?_) (fun O=>?_));·
  have I:dc e key v=({ e with m:=v.n },decide (v.op=3)):=by unfold dc;rw[if_neg n1,if_neg n2,if_neg n3,if_pos (by simpa [gT,cF,Classical.or_iff_not_imp_left] using O)]
  refine W.region (pE rfl (pE rfl (pE rfl (ar aa rfl rfl rfl rfl rfl rfl rfl rfl (WO.nil (qs (W.seq ?_)))))));apply W.jJ aa 5 4;(case hB=>kernel_rfl);(case h1=>rfl);(case h2=>rfl);refine' j6 (ev aa rfl) rfl rfl rfl rfl rfl ?h_11;case' h_11=>skip
  refine' eY ?p1_12 (ev aa rfl) rfl rfl rfl rfl rfl ?h_12;case' h_12=>skip
  refine' eY ?p1_13 (ev aa rfl) rfl rfl rfl rfl rfl ?h_13;case' h_13=>skip
  refine' eY ?p1_14 (ev aa rfl) rfl rfl rfl rfl rfl ?h_14;case' h_14=>skip
  refine' xN (fun g=>?e_15) rfl rfl ?h_15;case e_15=>refine ar aa rfl rfl rfl rfl rfl rfl rfl rfl (WO.nil ?_);exact⟨rfl,rfl⟩
  case' h_15=>skip
  case p1_12=>exact(ev aa rfl)
  case p1_13=>exact(ev aa rfl)
  case p1_14=>exact(ev aa rfl)
  refine CC.nil ?_;refine pE rfl (WO.nil (qs (W.ret (QV.aw aa trivial rfl ?_))));rw[I];rfl
 have I:dc e key v=({ e with n:=v.n },decide (v.op=3)):=by unfold dc;rw[if_neg n1,if_neg n2,if_neg n3,if_neg (by simpa [gT,cF] using O)]
 refine W.region (pE rfl (pE rfl (pE rfl (ar aa rfl rfl rfl rfl rfl rfl rfl rfl (WO.nil (qs (W.seq ?_)))))));apply W.jJ aa 5 4;(case hB=>kernel_rfl);(case h1=>rfl);(case h2=>rfl);refine' j6 (ev aa rfl) rfl rfl rfl rfl rfl ?h_16;case' h_16=>skip
 refine' eY ?p1_17 (ev aa rfl) rfl rfl rfl rfl rfl ?h_17;case' h_17=>skip
 refine' eY ?p1_18 (ev aa rfl) rfl rfl rfl rfl rfl ?h_18;case' h_18=>skip
 refine' eY ?p1_19 (ev aa rfl) rfl rfl rfl rfl rfl ?h_19;case' h_19=>skip
 refine' xN (fun g=>?e_20) rfl rfl ?h_20;case e_20=>refine ar aa rfl rfl rfl rfl rfl rfl rfl rfl (WO.nil ?_);exact⟨rfl,rfl⟩
 case' h_20=>skip
 case p1_17=>exact(ev aa rfl)
 case p1_18=>exact(ev aa rfl)
 case p1_19=>exact(ev aa rfl)
 refine CC.nil ?_;refine pE rfl (WO.nil (qs (W.ret (QV.aw aa trivial rfl ?_))));rw[I];rfl
end Go.Proofs.YtpiaiiopakafhaaGreatDoor
namespace Go.Proofs.YtpiaiiopakafhaaGreatDoor
open Go.Ab Go.Tb
set_option maxRecDepth 10000
set_option maxHeartbeats 1000000
attribute [local irreducible] W WO Pu QS QB QL QF QV bA CH QE
theorem AB (j:JV) (hs:ra j):ay Tryz.prog 20 [.ag j.c] (.tup [.d (ci (ew j).1),.ag (ew j).2.1.c,.d (ci (ew j).2.2)]) 0:=by
 refine ay.cX aa (n:=106) (rs:=[.tmp 2,.cell 3 50,.tmp 4]) Tryz.func20 (by kernel_rfl) rfl Tryz.ntmps20 Tryz.results20 rfl fun C hC hG=>?_;refine W.seq (W.region (bK rfl rfl rfl (pE rfl (aQ aa rfl rfl rfl (pE rfl (WO.nil (qs (W.seq (W.region (pE rfl (pu (ao rfl rfl rfl (zw j) rfl) rfl ?_)))))))))));refine pE rfl (WO.nil (qs ?_));iterate 2 refine W.seq ?_
 refine W.region ?_;iterate 2 refine pE rfl ?_
 refine WO.nil (qs (ab rfl (fun O=>?_) (fun O=>?_)));·
  have I:ew j=(0,ig,aX j 1):=by unfold ew;rw[if_pos (by simpa using O)]
  refine W.seq (W.region (pu (fV (build aa rfl rfl rfl rfl) rfl) rfl ?_));iterate 2 refine pE rfl ?_
  refine ar aa rfl rfl rfl rfl rfl rfl rfl rfl (pE rfl (WO.nil (qs (W.ret (an (QV.aw aa trivial rfl ?_))))));rw[I];rfl
 have U:¬ aX j 1≠0:=by simpa using O
 refine W.skip (qs (W.seq (W.region (pE rfl (pu (ao rfl rfl rfl (A6 j) rfl) rfl ?_)))));iterate 7 refine pE rfl ?_
 refine WO.nil (qs (W.seq (W.region (pE rfl (pu (ao rfl rfl rfl (B8 (dZ j)) rfl) rfl ?_)))));refine pu (fV (build aa rfl rfl rfl rfl) rfl) rfl ?_;refine aQ aa rfl rfl rfl (ar aa rfl rfl rfl rfl rfl rfl rfl rfl (WO.nil (qs ?_)));iterate 2 refine W.seq ?_
 apply aG;(case hb=>rfl);·
  iterate 3 refine pE rfl ?_
  apply fJ;(case hj=>rfl);(case hl=>rfl);·
   intro aj;iterate 3 refine aE rfl rfl rfl rfl ?_
   refine pE rfl (WO.nil (bg rfl rfl rfl))
  intro aj;refine aH rfl rfl (pE rfl (aH rfl rfl (pE rfl (aH rfl rfl ?_))));iterate 2 refine pE rfl ?_
  refine WO.nil (bg rfl rfl rfl)
 refine qs (ab rfl (fun X=>?_) (fun X=>?_));·
  have I:ew j=(0,ig,10):=by unfold ew;rw[if_neg U,if_pos (by revert X;cases fC j <;> exact fun h=>h)]
  refine W.seq (W.region (pu (fV (build aa rfl rfl rfl rfl) rfl) rfl ?_));refine pE rfl (ar aa rfl rfl rfl rfl rfl rfl rfl rfl (pE rfl (WO.nil (qs (W.ret (an (QV.aw aa trivial rfl ?_)))))));rw[I];rfl
 have ai:¬ (bif fC j then true else decide (dB (dZ j)=0))=true:=by revert X;cases fC j <;> intro h <;> simp_all
 refine W.skip (qs (W.seq (W.region (pE rfl (pu (ao rfl rfl rfl (pj j cE) rfl) rfl ?_)))));iterate 3 refine pE rfl ?_
 refine aQ aa rfl rfl rfl (ar aa rfl rfl rfl rfl rfl rfl rfl rfl (pE rfl (WO.nil (qs (W.seq (W.mh [(1,.ptr 0 0),(3,.ptr 1 0),(9,.ptr 2 0),(12,.d (.sl ((dr (dB (dZ j)) (cR j)).map sc)))] [7] [(0,j.c.map A.d),(1,lC),(2,(sT (dB (dZ j))).c.map A.d)] [] [] 3 ?_ ?_))))));·
  refine W.region (pE rfl (pE rfl (pE rfl (pE rfl ?_))));iterate 2 refine pE rfl ?_
  refine ku rfl rfl (fun Z=>?_) (fun Z=>?_);·
   have hb:cR j=decide ((oJ (bp j cE)).n=2):=by unfold cR;rw[show decide (((bp j cE).getD cG).op=3)=true from Z];rfl
   rw[hb];refine aH rfl rfl (pE rfl (aH rfl rfl (pE rfl (aH rfl rfl ?_))));iterate 2 refine pE rfl ?_
   refine pu (ao rfl rfl rfl (vU (dB (dZ j)) _) rfl) rfl ?_;refine pE rfl (WO.nil (cO [0,1,2] rfl ?_ ⟨rfl,rfl,trivial⟩ ?_ trivial rfl));·repeat' first | exact trivial | refine⟨rfl,?_⟩
   repeat' first | exact trivial | refine⟨rfl,?_⟩
  have hb:cR j=false:=by unfold cR;rw[show decide (((bp j cE).getD cG).op=3)=false from Z];rfl
  rw[hb];iterate 3 refine aE rfl rfl rfl rfl ?_
  refine pE rfl (pu (ao rfl rfl rfl (vU (dB (dZ j)) _) rfl) rfl ?_);refine pE rfl (WO.nil (cO [0,1,2] rfl ?_ ⟨rfl,rfl,trivial⟩ ?_ trivial rfl));·repeat' first | exact trivial | refine⟨rfl,?_⟩
  repeat' first | exact trivial | refine⟨rfl,?_⟩
 refine qs ?_;iterate 2 refine W.seq ?_
 have a7:=Ay (dB (dZ j)) (cR j);refine W.region (pE rfl (pE rfl ?_));iterate 3 refine pE rfl ?_
 refine pu (cU (ev aa rfl) (y:=(((dr (dB (dZ j)) (cR j)).map sc).length:Int)+2) (wrap64 (by rw[List.length_map];omega))) rfl ?_;refine pE rfl (WO.nil (qs (ab rfl (fun J=>?_) (fun J=>?_))));·
  have I:ew j=(0,ig,10):=by unfold ew;rw[if_neg U,if_neg ai,if_pos];intro q;rw[List.length_map,List.length_map] at J;rw[q] at J;simp at J
  refine W.seq (W.region (pu (fV (build aa rfl rfl rfl rfl) rfl) rfl ?_));refine pE rfl (ar aa rfl rfl rfl rfl rfl rfl rfl rfl (pE rfl (WO.nil (qs (W.ret (an (QV.aw aa trivial rfl ?_)))))));rw[I];rfl
 have hlen:¬ j.keys.length≠(dr (dB (dZ j)) (cR j)).length+2:=by rw[List.length_map,List.length_map] at J;intro q;apply q;simp at J;omega
 have hE:ew j=match cm j (dr (dB (dZ j)) (cR j)) (sT (dB (dZ j))) with
  | none=>(0,ig,10)
  | some e=>if ct e≠0 then (0,ig,ct e) else (lQ j,e,0):=by
  unfold ew;rw[if_neg U,if_neg ai,if_neg hlen];rfl
 generalize dr (dB (dZ j)) (cR j)=l at hE ⊢;refine W.skip (qs ?_);iterate 2 refine W.seq ?_
 refine W.region (pE rfl (WO.nil (qs (W.block (W.len (t:=12) rfl rfl (fun hlen=>?_))))));try simp only[List.length_map,Ex.aF] at hlen
 refine W.bh (ι:={x:Nat×Ev // match x with | (k,e)=>k≤l.length∧cm j (l.drop k) e=cm j l (sT (dB (dZ j)))})
  (fun x=>match x.1 with | (k,e)=>[(1,.ptr 0 0),(3,.ptr 1 0),(9,.ptr 2 0),(13,.d (.v (.int .i64 ((k:Nat):Int))))]) [(7,_),(12,_)]
  (fun x=>match x.1 with | (k,e)=>[(0,j.c.map A.d),(1,lC),(2,e.c.map A.d)]) [] [] 3 (fun x=>match x.1 with | (k,e)=>l.length - k)
  [0,1,2] ⟨(0,sT (dB (dZ j))),?_⟩ rfl ?_ ⟨rfl,rfl,rfl,rfl,trivial⟩ ?_ trivial rfl ?_
 ·exact⟨Nat.zero_le _,rfl⟩
 ·repeat' first | exact trivial | refine⟨rfl,?_⟩
 ·repeat' first | exact trivial | refine⟨rfl,?_⟩
 rintro⟨⟨k,e⟩,hk,N⟩;show W _ _ _ _ _ ⟨[(1,.ptr 0 0),(3,.ptr 1 0),(9,.ptr 2 0),(13,.d (.v (.int .i64 ((k:Nat):Int)))),(7,_),(12,_)],[(0,j.c.map A.d),(1,lC),(2,e.c.map A.d)],[],3⟩;iterate 2 refine W.seq ?_
 refine W.region ?_;iterate 4 refine pE rfl ?_
 refine WO.nil (qs (bu (l:=l) (k:=k) rfl (by simp[Ex.aF,au]) hk (fun x hx hd a1=>?_) (fun he hd=>?_)));·
  rw[hd] at N;refine W.skip (qs (W.seq (W.block (W.seq (W.mD aa 11 1 (by kernel_rfl) rfl rfl ?_)))));refine et rfl (ev aa rfl) rfl ?_;refine et rfl (ev aa rfl) rfl ?_;refine et rfl (ev aa rfl) rfl ?_;refine et rfl (indexAddr (l:=sc x) aa rfl rfl rfl rfl rfl rfl (Int.natCast_nonneg _) (aM hx) rfl) rfl ?_;refine et rfl (ev aa rfl) rfl ?_;refine et rfl (ao rfl rfl rfl (pj j x) rfl) rfl ?_;refine et rfl (ev aa rfl) rfl ?_;refine et rfl (ev aa rfl) rfl ?_;refine et rfl (ev aa rfl) rfl ?_;refine pr 0 rfl rfl rfl rfl rfl rfl ?_;refine rY 9 0 rfl rfl rfl rfl rfl rfl rfl rfl rfl rfl rfl rfl ?_;refine CE.nil ?_;refine pE rfl (WO.nil (qs (W.seq (W.mD aa 12 1 (by kernel_rfl) rfl rfl ?_))));refine et rfl (ev aa rfl) rfl ?_;refine et rfl (ev aa rfl) rfl ?_;refine et rfl (ev aa rfl) rfl ?_;refine et rfl (indexAddr (l:=sc x) aa rfl rfl rfl rfl rfl rfl (Int.natCast_nonneg _) (aM hx) rfl) rfl ?_;refine et rfl (ev aa rfl) rfl ?_;refine et rfl (ev aa rfl) rfl ?_;refine et rfl (ao rfl rfl rfl (D0 e x (oJ (bp j x)) (hs.get x)) rfl) rfl ?_;refine et rfl (ev aa rfl) rfl ?_;refine et rfl (ev aa rfl) rfl ?_;refine et rfl (ev aa rfl) rfl ?_;refine pr 0 rfl rfl rfl rfl rfl rfl ?_;refine rY 10 0 rfl rfl rfl rfl rfl rfl rfl rfl rfl rfl rfl rfl ?_;refine CE.nil ?_;refine pE rfl (WO.nil (qs ?_));iterate 2 refine W.seq ?_
  apply aG;(case hb=>rfl);·
   iterate 3 refine pE rfl ?_
   apply fJ;(case hj=>rfl);(case hl=>rfl);·
    intro a6;iterate 2 refine aE rfl rfl rfl rfl ?_
    refine pE rfl (WO.nil (bg rfl rfl rfl))
   intro a6;refine aH rfl rfl (pE rfl (aH rfl rfl ?_));iterate 2 refine pE rfl ?_
   refine WO.nil (bg rfl rfl rfl)
  refine qs (ab rfl (fun ad=>?_) (fun ad=>?_));·
   have I:ew j=(0,ig,10):=by rw[hE,←N,DR ad]
   refine W.seq (W.region (pu (fV (build aa rfl rfl rfl rfl) rfl) rfl ?_));refine pE rfl (ar aa rfl rfl rfl rfl rfl rfl rfl rfl (pE rfl (WO.nil (qs (W.ret (an (aC (an (cn (aC (an (QV.aw aa trivial rfl ?_))))))))))));rw[I];rfl
  have hn:=N;rw[Db ad] at hn;refine W.skip (qs (W.region (pE rfl (ar aa rfl rfl rfl rfl rfl rfl rfl rfl (WO.nil (be (qs (W.region ?_))))))));iterate 3 refine pE rfl ?_
  refine WO.nil (W.bt [0,1,2] ⟨(k+1,(dc e x (oJ (bp j x))).1),?_⟩ ?_ rfl ?_ ⟨rfl,rfl,rfl,rfl,trivial⟩ ?_ trivial rfl);·exact⟨a1,hn⟩
  ·dsimp only;omega
  ·repeat' first | exact trivial | refine⟨rfl,?_⟩ | refine⟨aL (by assumption) (by assumption),?_⟩
  repeat' first | exact trivial | refine⟨rfl,?_⟩
 rw[hd] at N;refine W.exit (aW (aT (aS (qs (W.seq (W.region (pE rfl (pu (ao rfl rfl rfl (zU e) rfl) rfl ?_))))))));refine pE rfl (WO.nil (qs ?_));iterate 2 refine W.seq ?_
 refine W.region ?_;iterate 2 refine pE rfl ?_
 refine WO.nil (qs (ab rfl (fun M=>?_) (fun M=>?_)));·
  have I:ew j=(0,ig,ct e):=by rw[hE,←N];exact if_pos (by simpa using M)
  refine W.seq (W.region (pu (fV (build aa rfl rfl rfl rfl) rfl) rfl ?_));iterate 2 refine pE rfl ?_
  refine ar aa rfl rfl rfl rfl rfl rfl rfl rfl (pE rfl (WO.nil (qs (W.ret (an (QV.aw aa trivial rfl ?_))))));rw[I];rfl
 have I:ew j=(lQ j,e,0):=by rw[hE,←N];exact if_neg (by simpa using M)
 refine W.skip (qs (W.seq (W.mD aa 3 0 (by kernel_rfl) rfl rfl ?_)));refine et rfl (ev aa rfl) rfl ?_;refine et rfl (ev aa rfl) rfl ?_;refine et rfl (ev aa rfl) rfl ?_;refine CE.nil ?_;refine ar aa rfl rfl rfl rfl rfl rfl rfl rfl (pE rfl (WO.nil (qs (W.ret (QV.aw aa trivial rfl ?_)))));rw[I];rfl
end Go.Proofs.YtpiaiiopakafhaaGreatDoor
namespace Go.Proofs.YtpiaiiopakafhaaGreatDoor
open Go.Ab Go.Tb
set_option maxRecDepth 10000
set_option maxHeartbeats 1000000
attribute [local irreducible] W WO Pu QS QB QL QF QV bA CH QE
abbrev rO (g:Nat) (x:fk):List A:=[.own g (x.ids.map ic),.mp (g+1) (eA ik cs x.names),.mo (g+2) (fS ik Ev.c x.evs) none none]
theorem rm (x:fk) (id:Int) (M:sR 1000000 x):bz Tryz.prog 74 [.ptr 0 0,.d (ci id)] [rO 1 x] 3 (.tup []) [rO 1 { x with ids:=eb x.ids id }] 3:=by
 obtain⟨ids,names,evs⟩:=x;have hid:ids.length≤1000000:=M.2.2.1;refine bz.cX aa (n:=21) (rs:=[]) Tryz.func74 (by kernel_rfl) rfl Tryz.ntmps74 Tryz.results74 rfl rfl fun C hC N=>?_;refine W.seq (W.region ?_);iterate 3 refine pE rfl ?_
 refine pE rfl (pE rfl (pu (ao rfl rfl rfl (vb ids id) rfl) rfl ?_));refine pE rfl (WO.nil (qs (ab rfl (fun I=>?_) (fun I=>?_))));·
  have J:eb ids id=ids++[id]:=if_neg (by revert I;cases (ids.any fun x=>decide (id=x)) <;> simp);refine W.region ?_;iterate 4 refine pE rfl ?_
  refine pE rfl (pE rfl (pu (ba aa rfl rfl rfl rfl rfl rfl rfl rfl rfl) rfl ?_));refine eE (fn:=ic) (a:=id) aa rfl rfl rfl rfl rfl rfl rfl rfl rfl rfl (fun _=>rfl) (by show(ids.length+1)*8≤_;omega) ?_;iterate 2 refine pE rfl ?_
  refine ar aa rfl rfl rfl rfl rfl rfl rfl rfl (WO.nil (b7.end aa [4,2,3] trivial rfl rfl rfl rfl ?_ ?_));·rw[J];exact⟨rfl,trivial⟩
  rfl
 have J:eb ids id=ids:=if_pos (by revert I;cases (ids.any fun x=>decide (id=x)) <;> simp);refine W.skip (b7.end aa [1,2,3] trivial rfl rfl rfl rfl ?_ ?_);·rw[J];exact⟨rfl,trivial⟩
 rfl
theorem C3 {n:Nat} {x:fk} (h:sR n x) (id:Int):((bT x.evs id).getD []).length≤n:=by
 unfold bT
 cases q:x.evs.find? fun p=>decide (p.1=id) with
 | none=>simp
 | some p=>simpa [q] using h.2.2.2 p (List.mem_of_find?_eq_some q)
set_option maxHeartbeats 1000000 in
theorem zt (x:fk) (j:JV) (hj:ra j) (O:sR 1000000 x):bz Tryz.prog 24 [.ptr 0 0,.ag j.c] [rO 1 x] 3 (.d (ci (dN x j).2)) [rO 1 (dN x j).1] 3:=by
 obtain⟨ids,names,evs⟩:=x;have a8:=C3 O (bo j).1;have hid:ids.length≤1000000:=O.2.2.1;obtain⟨M,X⟩:∃ M,M=eb ids (bo j).1:=⟨_,rfl⟩;obtain⟨cur,U⟩:∃ cur,cur=(bT evs (bo j).1).getD []:=⟨_,rfl⟩;have b0:cur.length≤1000000:=by rw[U];exact a8
 refine bz.cX aa (n:=90) (rs:=[.tmp 4]) Tryz.func24 (by kernel_rfl) rfl Tryz.ntmps24 Tryz.results24 rfl rfl fun C hC hG=>?_;refine W.seq (W.region (bK rfl rfl rfl (pE rfl (WO.nil (qs (W.seq (W.region (pE rfl (pE rfl (pE rfl (pE rfl (pu (build aa rfl rfl rfl rfl) rfl ?_))))))))))));refine bK rfl rfl rfl (pE rfl (WO.nil (qs (W.seq (W.region (pE rfl (aK [5] [] rfl rfl rfl rfl rfl ((qQ j (bO j))) rfl rfl (by rfl) (by rfl) rfl rfl rfl rfl ?_)))))));iterate 5 refine pE rfl ?_
 refine WO.nil (qs ?_);iterate 2 refine W.seq ?_
 refine W.region ?_;iterate 3 refine pE rfl ?_
 refine pE rfl (WO.nil (qs (ab rfl (fun Z=>?_) (fun Z=>?_))));·
  have J:dN ⟨ids,names,evs⟩ j=(⟨ids,names,evs⟩,10):=if_pos Z;refine W.seq (W.region (pE rfl (WO.nil (qs (W.ret (an (b7.end aa [1,2,3] trivial rfl rfl rfl rfl ?_ ?_)))))));·rw[J];exact⟨rfl,trivial⟩
  rw[J];rfl
 have hb:¬ bD j (bO j)=true:=by rw[show bD j (bO j)=false from Z];simp
 refine W.skip (qs ?_);iterate 2 refine W.seq ?_
 refine W.region ?_;iterate 2 refine pE rfl ?_
 refine WO.nil (qs (ab rfl (fun ad=>?_) (fun ad=>?_)));·
  have N:(aY j dz 4).s≠pM:=by simpa [pM] using ad
  have hE:dN ⟨ids,names,evs⟩ j=(if (bo j).2.2=0 then (FH ⟨ids,names,evs⟩ (bo j).1 (bo j).2.1,0) else (⟨ids,names,evs⟩,(bo j).2.2)):=by unfold dN;rw[if_neg hb,if_pos N]
  refine W.seq (W.region (pE rfl (pu (ao rfl rfl rfl (vO j (hj.val _ _)) rfl) rfl ?_)));iterate 4 refine pE rfl ?_
  refine aQ aa rfl rfl rfl (pE rfl (ar aa rfl rfl rfl rfl rfl rfl rfl rfl (pE rfl (WO.nil (qs ?_)))));iterate 2 refine W.seq ?_
  refine W.region ?_;iterate 2 refine pE rfl ?_
  refine WO.nil (qs (ab rfl (fun ai=>?_) (fun ai=>?_)));·
   have h0:(bo j).2.2=0:=by simpa using ai
   have J:dN ⟨ids,names,evs⟩ j=(⟨M,names,cH evs (bo j).1 (cur++[(bo j).2.1])⟩,(bo j).2.2):=by rw[hE,if_pos h0,X,U,h0];rfl
   refine W.seq (W.mh [(0,.ptr 0 0),(9,.ptr 1 0)] [8,10] [(0,[.own 2 (M.map ic),.mp 3 (eA ik cs names),.mo 4 (fS ik Ev.c evs) none none]),(1,(bo j).2.1.c.map A.d)] [] [2,3,4] 5 ?_ ?_);·
    refine W.region ?_;iterate 2 refine pE rfl ?_
    refine aK [0] [1,2,3] rfl rfl rfl rfl rfl ((rm ⟨ids,names,evs⟩ (bo j).1 O)) rfl rfl (by rfl) (by rfl) rfl rfl rfl rfl ?_;refine WO.nil (cO [0,7,9,10,11] rfl ?_ ⟨rfl,rfl,rfl,rfl,trivial⟩ ?_ trivial rfl);·repeat' first | exact trivial | refine⟨rfl,?_⟩
    rw[X];repeat' first | exact trivial | refine⟨rfl,?_⟩
   refine qs (W.Ez 0 2 rfl rfl rfl fun b=>?_);refine' W.qH aa (fun bx=>[(0,[.own 2 (M.map ic),.mp 3 (eA ik cs names),.mo 5 (fS ik Ev.c evs) (some (ik (bo j).1)) (some b)])::bx,(0,[.own 2 (M.map ic),.mp 3 (eA ik cs names),.mo 5 (fS ik Ev.c evs) (some (ik (bo j).1)) (some b)])::bx]) [[5,6,2,3],[7,5,2,3]] [7,8] [10,13] 14 (by kernel_rfl) (by kernel_rfl) rfl rfl ?hL_1;case' hL_1=>skip
   refine' bb (ev aa rfl) ?p_2 rfl rfl rfl (by kernel_rfl) rfl ?h_2;case' h_2=>skip
   refine' bb (ev aa rfl) ?p_3 rfl rfl rfl (by kernel_rfl) rfl ?h_3;case' h_3=>skip
   refine' bb (ev aa rfl) ?p_4 rfl rfl rfl (by kernel_rfl) rfl ?h_4;case' h_4=>skip
   refine' bb (rk aa 0 2 rfl rfl rfl rfl) ?p_5 rfl rfl rfl (by kernel_rfl) rfl ?h_5;case' h_5=>skip
   refine' bb (ev aa rfl) ?p_6 rfl rfl rfl (by kernel_rfl) rfl ?h_6;case' h_6=>skip
   refine' bb (ev aa rfl) ?p_7 rfl rfl rfl (by kernel_rfl) rfl ?h_7;case' h_7=>skip
   refine' bb (ev aa rfl) ?p_8 rfl rfl rfl (by kernel_rfl) rfl ?h_8;case' h_8=>skip
   refine' bb (ev aa rfl) ?p_9 rfl rfl rfl (by kernel_rfl) rfl ?h_9;case' h_9=>skip
   refine' bb (rk aa 0 2 rfl rfl rfl rfl) ?p_10 rfl rfl rfl (by kernel_rfl) rfl ?h_10;case' h_10=>skip
   refine' bb (ev aa rfl) ?p_11 rfl rfl rfl (by kernel_rfl) rfl ?h_11;case' h_11=>skip
   refine' uO ?x_12 rfl rfl rfl (by kernel_rfl) (fun h=>(ae h (by kernel_rfl)).elim) rfl ?h_12;case x_12=>
    intro b hb g;cases b;·exact(ae hb (by kernel_rfl)).elim
    refine A0 (kf:=ik) (fn:=Ev.c) (l:=evs) (a:=(bo j).1) (x:=cur.map Ev.c) aa 0 2 rfl rfl rfl rfl rfl rfl rfl rfl (gd (aa.fw rfl rfl)) rfl rfl rfl O.2.1 (by rw[U]) rfl rfl ?_;refine WO.nil ?_;refine' sq rfl ?_ ?_ ?_ ?_;all_goals try exact rfl
   case' h_12=>skip
   refine' bb (ev aa rfl) ?p_13 rfl rfl rfl (by kernel_rfl) rfl ?h_13;case' h_13=>skip
   refine' bb (ba aa rfl rfl rfl rfl rfl rfl rfl rfl rfl) ?p_14 rfl rfl rfl (by kernel_rfl) rfl ?h_14;case' h_14=>skip
   refine' uO ?x_15 rfl rfl rfl (by kernel_rfl) (fun h=>(ae h (by kernel_rfl)).elim) rfl ?h_15;case x_15=>
    intro b hb g;cases b;·exact(ae hb (by kernel_rfl)).elim
    refine eE (fn:=Ev.c) (l:=cur) (a:=(bo j).2.1) aa rfl rfl rfl rfl rfl rfl rfl rfl rfl rfl (fun _=>rfl) (by show(cur.length+1)*72≤_;omega) ?_;refine WO.nil ?_;refine' sq rfl ?_ ?_ ?_ ?_;all_goals try exact rfl
   case' h_15=>skip
   case p_2=>refine⟨fun I=>(ae I (by kernel_rfl)).elim,?_,fun I=>(ae I (by kernel_rfl)).elim,?_,fun I=>(ae I (by kernel_rfl)).elim,?_⟩ <;> intro I <;> first | exact⟨ev aa rfl,fun h=>nomatch h⟩ | exact(ae I (by kernel_rfl)).elim
   case p_3=>refine⟨fun I=>(ae I (by kernel_rfl)).elim,?_,fun I=>(ae I (by kernel_rfl)).elim,?_,fun I=>(ae I (by kernel_rfl)).elim,?_⟩ <;> intro I <;> first | exact⟨ev aa rfl,fun h=>nomatch h⟩ | exact(ae I (by kernel_rfl)).elim
   case p_4=>refine⟨fun I=>(ae I (by kernel_rfl)).elim,?_,fun I=>(ae I (by kernel_rfl)).elim,?_,fun I=>(ae I (by kernel_rfl)).elim,?_⟩ <;> intro I <;> first | exact⟨ev aa rfl,fun h=>nomatch h⟩ | exact(ae I (by kernel_rfl)).elim
   case p_5=>refine⟨fun I=>(ae I (by kernel_rfl)).elim,?_,fun I=>(ae I (by kernel_rfl)).elim,?_,fun I=>(ae I (by kernel_rfl)).elim,?_⟩ <;> intro I <;> first | exact⟨rk aa 0 2 rfl rfl rfl rfl,fun h=>nomatch h⟩ | exact(ae I (by kernel_rfl)).elim
   case p_6=>refine⟨fun I=>(ae I (by kernel_rfl)).elim,?_,fun I=>(ae I (by kernel_rfl)).elim,?_,fun I=>(ae I (by kernel_rfl)).elim,?_⟩ <;> intro I <;> first | exact⟨ev aa rfl,fun h=>nomatch h⟩ | exact(ae I (by kernel_rfl)).elim
   case p_7=>refine⟨fun I=>(ae I (by kernel_rfl)).elim,?_,fun I=>(ae I (by kernel_rfl)).elim,?_,fun I=>(ae I (by kernel_rfl)).elim,?_⟩ <;> intro I <;> first | exact⟨ev aa rfl,fun h=>nomatch h⟩ | exact(ae I (by kernel_rfl)).elim
   case p_8=>refine⟨fun I=>(ae I (by kernel_rfl)).elim,?_,fun I=>(ae I (by kernel_rfl)).elim,?_,fun I=>(ae I (by kernel_rfl)).elim,?_⟩ <;> intro I <;> first | exact⟨ev aa rfl,fun h=>nomatch h⟩ | exact(ae I (by kernel_rfl)).elim
   case p_9=>refine⟨fun I=>(ae I (by kernel_rfl)).elim,?_,fun I=>(ae I (by kernel_rfl)).elim,?_,fun I=>(ae I (by kernel_rfl)).elim,?_⟩ <;> intro I <;> first | exact⟨ev aa rfl,fun h=>nomatch h⟩ | exact(ae I (by kernel_rfl)).elim
   case p_10=>refine⟨fun I=>(ae I (by kernel_rfl)).elim,?_,fun I=>(ae I (by kernel_rfl)).elim,?_,fun I=>(ae I (by kernel_rfl)).elim,?_⟩ <;> intro I <;> first | exact⟨rk aa 0 2 rfl rfl rfl rfl,fun h=>nomatch h⟩ | exact(ae I (by kernel_rfl)).elim
   case p_11=>refine⟨fun I=>(ae I (by kernel_rfl)).elim,?_,fun I=>(ae I (by kernel_rfl)).elim,?_,fun I=>(ae I (by kernel_rfl)).elim,?_⟩ <;> intro I <;> first | exact⟨ev aa rfl,fun h=>nomatch h⟩ | exact(ae I (by kernel_rfl)).elim
   case p_13=>refine⟨fun I=>(ae I (by kernel_rfl)).elim,?_,fun I=>(ae I (by kernel_rfl)).elim,?_,fun I=>(ae I (by kernel_rfl)).elim,?_⟩ <;> intro I <;> first | exact⟨ev aa rfl,fun h=>nomatch h⟩ | exact⟨dL aa rfl rfl rfl rfl,fun h=>nomatch h⟩ | exact⟨dM aa rfl rfl rfl rfl rfl,fun h=>nomatch h⟩ | exact(ae I (by kernel_rfl)).elim
   case p_14=>refine⟨fun I=>(ae I (by kernel_rfl)).elim,?_,fun I=>(ae I (by kernel_rfl)).elim,?_,fun I=>(ae I (by kernel_rfl)).elim,?_⟩ <;> intro I <;> first | exact⟨ba aa rfl rfl rfl rfl rfl rfl rfl rfl rfl,fun h=>nomatch h⟩ | exact(ae I (by kernel_rfl)).elim
   refine CD.nil ?_ rfl;refine DV (kf:=ik) (fn:=Ev.c) (l:=evs) (a:=(bo j).1) (y:=cur++[(bo j).2.1]) aa 0 2 rfl rfl rfl rfl rfl rfl rfl (gd (aa.fw rfl rfl)) rfl rfl rfl O.2.1 rfl rfl ?_;refine WO.nil (qs (W.seq (W.region ?_)));iterate 2 refine pE rfl ?_
   refine WO.nil (qs (W.ret (an (b7.end aa [2,3,8] trivial rfl rfl rfl rfl ?_ ?_))));·rw[J];exact⟨rfl,trivial⟩
   rw[J];rfl
  have h0:¬ (bo j).2.2=0:=by simpa using ai
  have J:dN ⟨ids,names,evs⟩ j=(⟨ids,names,evs⟩,(bo j).2.2):=by rw[hE,if_neg h0]
  refine W.skip (qs (W.seq (W.region ?_)));iterate 2 refine pE rfl ?_
  refine WO.nil (qs (W.ret (an (b7.end aa [1,2,3] trivial rfl rfl rfl rfl ?_ ?_))));·rw[J];exact⟨rfl,trivial⟩
  rw[J];rfl
 have N:¬ (aY j dz 4).s≠pM:=by simpa [pM] using ad
 refine W.skip (qs (W.seq (W.region (pE rfl (aK [5] [] rfl rfl rfl rfl rfl ((iE j (bD j (bO j)) bk 4)) rfl rfl (by rfl) (by rfl) rfl rfl rfl rfl ?_)))));iterate 2 refine pE rfl ?_
 refine WO.nil (qs ?_);iterate 2 refine W.seq ?_
 apply aG;(case hb=>rfl);·repeat' first | refine bg rfl rfl rfl | refine aH rfl rfl ?_ | refine aE rfl rfl rfl rfl ?_ | refine pE rfl ?_ | refine WO.nil ?_ | refine pu (ba aa rfl rfl rfl rfl rfl rfl rfl rfl rfl) rfl ?_ | refine pu (ao rfl rfl rfl (rv j (bD j (bO j) || cw j bk 4) tV) rfl) rfl ?_ | (apply aP;(case hj=>rfl);(case hl=>rfl))
 refine qs (ab rfl (fun aj=>?_) (fun aj=>?_));·
  have J:dN ⟨ids,names,evs⟩ j=(⟨ids,names,evs⟩,10):=by unfold dN;rw[if_neg hb,if_neg N,if_pos aj]
  refine W.seq (W.region (pE rfl (WO.nil (qs (W.ret (an (b7.end aa [1,2,3] trivial rfl rfl rfl rfl ?_ ?_)))))));·rw[J];exact⟨rfl,trivial⟩
  rw[J];rfl
 have hg:¬ (bif (bD j (bO j) || cw j bk 4) then true else !gN j tV)=true:=by rw[show(bif (bD j (bO j) || cw j bk 4) then true else !gN j tV)=false from aj];simp
 refine W.skip (qs ?_);iterate 2 refine W.seq ?_
 refine W.region (pE rfl (pu (ao rfl rfl rfl (pb (aY j bk 4).s) rfl) rfl ?_));refine pE rfl (WO.nil (qs (W.seq (W.region ?_))));iterate 2 refine pE rfl ?_
 refine WO.nil (qs (ab rfl (fun a1=>?_) (fun a1=>?_)));·
  have J:dN ⟨ids,names,evs⟩ j=(⟨ids,names,evs⟩,bE (aY j bk 4).s):=by unfold dN;rw[if_neg hb,if_neg N,if_neg hg,if_pos (by simpa using a1)]
  refine W.seq (W.region ?_);iterate 2 refine pE rfl ?_
  refine WO.nil (qs (W.ret (an (b7.end aa [1,2,3] trivial rfl rfl rfl rfl ?_ ?_))));·rw[J];exact⟨rfl,trivial⟩
  rw[J];rfl
 have a7:¬ bE (aY j bk 4).s≠0:=by simpa using a1
 refine W.skip (qs ?_);iterate 2 refine W.seq ?_
 refine W.region ?_;iterate 3 refine pE rfl ?_
 refine pE rfl (pE rfl (pu (lB (kf:=ik) (vf:=cs) (l:=names) (a:=(aY j bP 3).n) (z:=bq) aa rfl rfl rfl rfl rfl (gd (aa.fw rfl rfl)) rfl rfl rfl (fun _ _=>.v _ rfl) O.1 rfl) rfl ?_));refine pE rfl (WO.nil (qs (ab rfl (fun a6=>?_) (fun a6=>?_))));·
  have J:dN ⟨ids,names,evs⟩ j=(⟨ids,names,evs⟩,4):=by unfold dN;rw[if_neg hb,if_neg N,if_neg hg,if_neg a7,if_pos (by revert a6;show(!decide ((bT names (aY j bP 3).n).getD bq=bq))=true→_;simp)]
  refine W.seq (W.region (pE rfl (WO.nil (qs (W.ret (an (b7.end aa [1,2,3] trivial rfl rfl rfl rfl ?_ ?_)))))));·rw[J];exact⟨rfl,trivial⟩
  rw[J];rfl
 have J:dN ⟨ids,names,evs⟩ j=(EN ⟨ids,names,evs⟩ (aY j bP 3).n (aY j bk 4).s,0):=by unfold dN;rw[if_neg hb,if_neg N,if_neg hg,if_neg a7,if_neg (by revert a6;show(!decide ((bT names (aY j bP 3).n).getD bq=bq))=false→_;simp)]
 refine W.skip (qs (W.seq (W.region ?_)));iterate 2 refine pE rfl ?_
 refine aK [0] [1,2,3] rfl rfl rfl rfl rfl ((rm ⟨ids,names,evs⟩ (aY j bP 3).n O)) rfl rfl (by rfl) (by rfl) rfl rfl rfl rfl ?_;refine WO.nil (qs (W.seq (W.region ?_)));iterate 3 refine pE rfl ?_
 refine pE rfl ?_;iterate 2 refine pE rfl ?_
 refine Dz (kf:=ik) (vf:=cs) (l:=names) (a:=(aY j bP 3).n) (y:=(aY j bk 4).s) aa 0 1 rfl rfl rfl rfl rfl rfl rfl rfl (gd (aa.fw rfl rfl)) rfl O.1 rfl rfl rfl ?_;refine WO.nil (qs (W.seq (W.region (pE rfl (WO.nil (qs (W.ret (b7.end aa [9,12,11] trivial rfl rfl rfl rfl ?_ ?_))))))));·rw[J];exact⟨rfl,trivial⟩
 rw[J];rfl
end Go.Proofs.YtpiaiiopakafhaaGreatDoor
namespace Go.Proofs.YtpiaiiopakafhaaGreatDoor
open Go.Ab Go.Tb
set_option maxRecDepth 10000
set_option maxHeartbeats 1000000
attribute [local irreducible] W WO Pu QS QB QL QF QV bA CH QE
open Go.RowKit
attribute [local go_sem] Oper.semAt_some
set_option maxRecDepth 100000 in
set_option maxHeartbeats 2000000 in
theorem BO:sg Tryz.prog 77:=by
 intro l W J M b1 o1 a len cap R h0 h1 U hle X Z hY;refine(callsIn_wide (n:=0)).1 ?_;refine callsIn_of_wp (F:=Fence.wide) (n:=0) Tryz.func77 rfl trivial ?_ rfl;simp only[Tryz.ntmps77,List.size_toArray,List.length_cons,List.length_nil,Nat.reduceAdd,Nat.reduceSub,Array.replicate_succ,Array.replicate_zero,List.push_toArray,List.append_toArray,List.nil_append,List.cons_append]
 gi_wp2
 gi_loopw [4] (fun i wr=>(i=.int .i64 0∧wr=W)∨(i=.int .i64 1000∧(∃ a' I,wr.cell? ⟨J,M,none⟩=some (.slice a' len I))∧wr.cell? ⟨b1,o1,none⟩=some (.int .i64 1000)∧R wr)) (fun i _=>1000 - (intOf i).toNat)
 case atStart=>exact .inl ⟨rfl,rfl⟩
 case round=>
  rcases hrel with ⟨rfl,rfl⟩ | ⟨rfl,⟨a',I,h2⟩,h3,N⟩
  ·
   obtain⟨fn,tmps,assign,body,hy,N⟩:=hY;have ad:wr.cell? ⟨J,M,none⟩=some (.slice (some a) len cap):=h0;have ai:wr.cell? ⟨b1,o1,none⟩=some (.int .i64 1000):=h1
   gi_wp2
   gi_big_region
   rw[show min (1000:Int) (len:Int)=(len:Int) from by omega];have aj:wr.drew.cell? ⟨J,M,none⟩=some (.slice (some a) len cap):=h0;have a1:wr.drew.cell? ⟨b1,o1,none⟩=some (.int .i64 1000):=h1
   gi_wp2
   refine⟨rfl,N.mono ?_⟩;rintro e W3 ⟨rfl,⟨a',I,h2⟩,h3,O⟩
   gi_wp2
   go_roundw
   case rel=>exact .inr ⟨rfl,⟨_,_,h2⟩,h3,O⟩
   case measure=>simp[intOf]
  gi_wp2
  go_end0
  exact⟨⟨_,rfl⟩,N⟩
end Go.Proofs.YtpiaiiopakafhaaGreatDoor
namespace Go.Proofs.YtpiaiiopakafhaaGreatDoor
open Go.Ab Go.Tb
set_option maxRecDepth 10000
set_option maxHeartbeats 1000000
attribute [local irreducible] W WO Pu QS QB QL QF QV bA CH QE
theorem Cs (evs:List Ev):ay Tryz.prog 26 [.d (.sl (evs.map Ev.c)),.d (ci 1000)] (.clo 77 [.rowd [.sl (evs.map Ev.c)],.rowd [ci 1000]]) 0:=by
 refine ay.aZ (n:=9) (ts:=[4]) Tryz.func26 (by kernel_rfl) rfl Tryz.ntmps26 Tryz.results26 rfl rfl fun C hC J=>?_;refine W.seq (W.region (bK rfl rfl rfl (bK rfl rfl rfl (pE rfl (WO.nil (qs ?_))))));iterate 2 refine W.seq ?_
 refine W.region (pE rfl (pE rfl (WO.nil (qs (ab rfl (fun I=>?_) (fun I=>?_))))));·exfalso;simp at I
 refine W.skip (qs (W.seq (xu 2 (l:=[.sl (evs.map Ev.c)]) rfl rfl rfl rfl rfl ?_)));refine xu 3 (l:=[ci 1000]) rfl rfl rfl rfl rfl ?_;refine W.region ?_;iterate 2 refine pE rfl ?_
 refine WO.nil (qs (W.ret (QF.aw trivial rfl ?_)));rfl
theorem Ef {id:Int} (h:0≤id∧id≤1000000000000000):(B #[116]).size+(dv id).size≤9223372036854775807:=by
 have h1:(10:Nat) ^ 20=100000000000000000000:=by decide
 have h2:=sP (n:=id) (by omega);have h3:(B #[116]).size=1:=rfl;omega
end Go.Proofs.YtpiaiiopakafhaaGreatDoor
namespace Go.Proofs.YtpiaiiopakafhaaGreatDoor
open Go.Ab Go.Tb
set_option maxRecDepth 10000
set_option maxHeartbeats 1000000
attribute [local irreducible] W WO Pu QS QB QL QF QV bA CH QE
open Go.RowKit
attribute [local go_sem] Oper.semAt_some
set_option maxRecDepth 100000 in
set_option maxHeartbeats 2000000 in
theorem AQ:qF Tryz.prog 77:=by
 intro l W I J b1 o1 a cap R h0 h1 M;refine(callsIn_wide (n:=0)).1 ?_;refine callsIn_of_wp (F:=Fence.wide) (n:=0) Tryz.func77 rfl trivial ?_ rfl;simp only[Tryz.ntmps77,List.size_toArray,List.length_cons,List.length_nil,Nat.reduceAdd,Nat.reduceSub,Array.replicate_succ,Array.replicate_zero,List.push_toArray,List.append_toArray,List.nil_append,List.cons_append]
 gi_wp2
 gi_loopw [4] (fun i wr=>i=.int .i64 0∧wr=W) (fun i _=>1000 - (intOf i).toNat)
 case atStart=>exact⟨rfl,rfl⟩
 case round=>
  obtain⟨rfl,rfl⟩:=hrel;have N:wr.cell? ⟨I,J,none⟩=some (.slice a 0 cap):=h0;have O:wr.cell? ⟨b1,o1,none⟩=some (.int .i64 1000):=h1
  gi_wp2
  go_end0
  exact⟨⟨_,rfl⟩,M⟩
end Go.Proofs.YtpiaiiopakafhaaGreatDoor
namespace Go.Proofs.YtpiaiiopakafhaaGreatDoor
open Go.Ab Go.Tb
set_option maxRecDepth 10000
set_option maxHeartbeats 1000000
attribute [local irreducible] W WO Pu QS QB QL QF QV bA CH QE
end Go.Proofs.YtpiaiiopakafhaaGreatDoor
namespace Go.Proofs.YtpiaiiopakafhaaGreatDoor
open Go.Ab Go.Tb
set_option maxRecDepth 10000
set_option maxHeartbeats 1000000
attribute [local irreducible] W WO Pu QS QB QL QF QV bA CH QE
theorem cM (a w:Int):gx Tryz.prog 73 [.d (.v (.int .i64 a)),.d (.v (.int .i64 w))] [] 0 (.iface 128 (.agg #[.int .i64 a,.int .i64 w])):=by
 refine gx.aZ (n:=8) Tryz.func73 (by kernel_rfl) rfl Tryz.ntmps73 rfl fun C hC I=>?_;refine W.region ?_;iterate 2 refine pE rfl ?_
 refine pu (build aa rfl rfl rfl rfl) rfl ?_;refine pu (DE (l:=[.int .i64 a,.int .i64 w]) aa rfl rfl rfl) rfl ?_;refine E8 rfl (fun st'=>?_);repeat' first | refine b4 ?_ | refine fz ?_ | refine jt ?_ | refine F4 ?_
 exact rfl
theorem mC {s:ByteArray} {i:Nat} (h:i < s.size):(ak s)[i]? = some (aq (ak s) i):=by
 have:i < (ak s).length:=by rw[au];exact h
 rw[List.getElem?_eq_getElem this];simp[aq,List.getD_eq_getElem?_getD,List.getElem?_eq_getElem this]
theorem gM (s:ByteArray) (i:Nat):bz Tryz.prog 120 [.ptr 0 0] [eB s i] 0 (.d (.v (.int .u8 (aq (ak s) i).toNat))) [eB s i] 0:=by
 refine bz.cX aa (n:=22) (rs:=[.tmp 2]) Tryz.func120 (by kernel_rfl) rfl Tryz.ntmps120 Tryz.results120 rfl rfl fun C hC M=>?_;refine W.seq (W.region (pE rfl (WO.nil (qs ?_))));iterate 2 refine W.seq ?_
 refine W.ey aa (by kernel_rfl) ?_;iterate 3 refine aJ (ev aa rfl) rfl ?_
 refine aJ (ev aa rfl) rfl ?_;iterate 3 refine aJ (ev aa rfl) rfl ?_
 refine aJ (ev aa rfl) rfl ?_;iterate 2 refine aJ (ev aa rfl) rfl ?_
 refine CH.nil ?_;refine qs (ab rfl (fun I=>?_) (fun I=>?_));·
  have J:aq (ak s) i=0:=lq (by rw[au];simpa using I);refine W.seq (W.region (pE rfl (WO.nil (qs (W.ret (an (b7.end aa [] trivial rfl rfl rfl rfl ?_ ?_)))))));·exact⟨rfl,trivial⟩
  rw[J];rfl
 have hb:=mC (s:=s) (i:=i) (by simpa using I);refine W.skip (qs (W.seq (W.ey aa (by kernel_rfl) ?_)));iterate 3 refine aJ (ev aa rfl) rfl ?_
 refine aJ (ev aa rfl) rfl ?_;iterate 3 refine aJ (ev aa rfl) rfl ?_
 refine aJ (ev aa rfl) rfl ?_;refine aJ (db aa rfl rfl rfl rfl (Int.natCast_nonneg _) (eZ hb)) rfl ?_;refine aJ (ev aa rfl) rfl ?_;refine CH.nil ?_;refine qs (W.ret (b7.end aa [] trivial rfl rfl rfl rfl ?_ ?_));·exact⟨rfl,trivial⟩
 rfl
end Go.Proofs.YtpiaiiopakafhaaGreatDoor
namespace Go.Proofs.YtpiaiiopakafhaaGreatDoor
open Go.Ab Go.Tb
set_option maxRecDepth 10000
set_option maxHeartbeats 1000000
attribute [local irreducible] W WO Pu QS QB QL QF QV bA CH QE
theorem vA (b:UInt8):decide (0≤Lib.indexByte (ak (B #[32,9,10,13])) b)=l8 b:=by rw[Bool.eq_iff_iff,decide_eq_true_eq,kz];unfold l8;simp only[ak,Bool.or_eq_true,decide_eq_true_eq];show b∈[32,9,10,13]↔_;simp only[List.mem_cons,List.mem_nil_iff,or_false,←UInt8.toNat_inj];rfl
theorem jO (s:ByteArray) (i:Nat) (hi:i≤s.size) (hs:s.size≤1000000000):bz Tryz.prog 72 [.ptr 0 0] [eB s i] 0 (.d (.v (.int .u8 (aq (ak s) (az (ak s) i)).toNat))) [eB s (az (ak s) i)] 0:=by
 refine bz.cX aa (n:=35) (rs:=[.tmp 2]) Tryz.func72 (by kernel_rfl) rfl Tryz.ntmps72 Tryz.results72 rfl rfl fun C hC N=>?_;refine W.seq (W.region (pE rfl (WO.nil (qs (W.seq (W.block ?_))))))
 refine W.bh (ι:={x:Nat // match x with | j=>j≤s.size∧az (ak s) j=az (ak s) i})
  (fun x=>match x.1 with | j=>[(0,.ptr 0 0)]) []
  (fun x=>match x.1 with | j=>[(0,[.d (cs s),.d (.v (.int .i64 (j:Int)))])]) [] [] 1 (fun x=>match x.1 with | j=>s.size - j)
  [0] ⟨i,?_⟩ rfl ?_ trivial ?_ trivial rfl ?_
 ·exact⟨hi,rfl⟩
 ·repeat' first | exact trivial | refine⟨rfl,?_⟩
 ·repeat' first | exact trivial | refine⟨rfl,?_⟩
 rintro⟨j,O,J⟩;show W _ _ _ _ _ ⟨[(0,.ptr 0 0)],[(0,[.d (cs s),.d (.v (.int .i64 (j:Int)))])],[],1⟩;iterate 2 refine W.seq ?_
 apply mL aa;(case hb=>rfl);(case hB=>kernel_rfl);·
  iterate 3 refine aJ (ev aa rfl) rfl ?_
  refine aJ (ev aa rfl) rfl ?_;iterate 3 refine aJ (ev aa rfl) rfl ?_
  refine aJ (ev aa rfl) rfl ?_;iterate 3 refine aJ (ev aa rfl) rfl ?_
  apply nw;(case hj=>rfl);(case hl=>rfl);·
   intro g13;refine cS rfl rfl (ev aa rfl) rfl ?_;refine cS rfl rfl (ev aa rfl) rfl ?_;refine cS rfl rfl (ev aa rfl) rfl ?_;refine cS rfl rfl (ev aa rfl) rfl ?_;refine cS rfl rfl (ev aa rfl) rfl ?_;refine cS rfl rfl (ev aa rfl) rfl ?_;refine cS rfl rfl (ev aa rfl) rfl ?_;refine cS rfl rfl (ev aa rfl) rfl ?_;refine cS rfl rfl (db aa rfl rfl rfl rfl (Int.natCast_nonneg _) (eZ (mC (s:=s) (i:=j) (by simpa using g13)))) rfl ?_;refine cS rfl rfl (ao rfl rfl rfl (xt (B #[32,9,10,13]) (aq (ak s) j)) rfl) rfl ?_;refine cS rfl rfl (ev aa rfl) rfl ?_;refine aJ (ev aa rfl) rfl ?_;refine CH.nil ?_;refine bg rfl rfl rfl
  intro g13;iterate 11 refine qU rfl rfl rfl rfl ?_
  refine aJ (ev aa rfl) rfl ?_;refine CH.nil ?_;refine bg rfl rfl rfl
 refine qs (ab rfl (fun I=>?_) (fun I=>?_));·
  have q:j < s.size∧l8 (aq (ak s) j)=true:=by revert I;rw[vA];simp
  have M:=yp (l:=ak s) (i:=j) (by rw[au];exact q.1) q.2;refine W.skip (qs (W.block (W.region ?_)));iterate 3 refine pE rfl ?_
  refine pE rfl (pu (cU (ev aa rfl) (y:=((j+1:Nat):Int)) (wrap64 (by omega))) rfl ?_);iterate 2 refine pE rfl ?_
  refine ar aa rfl rfl rfl rfl rfl rfl rfl rfl (WO.nil (be (W.bt [0] ⟨j+1,?_⟩ ?_ rfl ?_ trivial ?_ trivial rfl)));·exact⟨q.1,by rw[←M,J]⟩
  ·dsimp only;omega
  ·repeat' first | exact trivial | refine⟨rfl,?_⟩
  repeat' first | exact trivial | refine⟨rfl,?_⟩
 have q:az (ak s) i=j:=by
  rw[←J];by_cases q1:j < s.size;·exact dn (by revert I;rw[vA];simp[q1])
  exact AM (by rw[au];omega)
 refine W.exit (aW (aT (aS (qs (W.seq (W.region (pE rfl (aK [0] [] rfl rfl rfl rfl rfl ((gM s j)) rfl rfl (by rfl) (by rfl) rfl rfl rfl rfl ?_))))))));refine pE rfl (WO.nil (qs (W.ret (b7.end aa [] trivial rfl rfl rfl rfl ?_ ?_))));·rw[q];exact⟨rfl,trivial⟩
 rw[q];rfl
theorem iX (s:ByteArray) (c:UInt8) (i:Nat) (hs:s.size≤1000000000):cL Tryz.prog 157 [.ptr 0 0,.d (.v (.int .u8 c.toNat))] [eB s i] 0 (gH 128 s (fun _=>.tup []) (bG (ak s) c i)):=by
 refine cL.cX aa (n:=39) (rs:=[]) Tryz.func157 (by kernel_rfl) rfl Tryz.ntmps157 Tryz.results157 rfl (fv ..) fun C hC M=>?_;iterate 2 refine W.seq ?_
 apply mL aa;(case hb=>rfl);(case hB=>kernel_rfl);·
  iterate 3 refine aJ (ev aa rfl) rfl ?_
  refine aJ (ev aa rfl) rfl ?_;iterate 3 refine aJ (ev aa rfl) rfl ?_
  refine aJ (ev aa rfl) rfl ?_;iterate 3 refine aJ (ev aa rfl) rfl ?_
  apply nw;(case hj=>rfl);(case hl=>rfl);·
   intro g14;iterate 11 refine qU rfl rfl rfl rfl ?_
   refine aJ (ev aa rfl) rfl ?_;refine CH.nil ?_;refine bg rfl rfl rfl
  intro g14;refine cS rfl rfl (ev aa rfl) rfl ?_;refine cS rfl rfl (ev aa rfl) rfl ?_;refine cS rfl rfl (ev aa rfl) rfl ?_;refine cS rfl rfl (ev aa rfl) rfl ?_;refine cS rfl rfl (ev aa rfl) rfl ?_;refine cS rfl rfl (ev aa rfl) rfl ?_;refine cS rfl rfl (ev aa rfl) rfl ?_;refine cS rfl rfl (ev aa rfl) rfl ?_;refine cS rfl rfl (db aa rfl rfl rfl rfl (Int.natCast_nonneg _) (eZ (mC (s:=s) (i:=i) (by simpa using g14)))) rfl ?_;refine cS rfl rfl (ev aa rfl) rfl ?_;refine cS rfl rfl (ev aa rfl) rfl ?_;refine aJ (ev aa rfl) rfl ?_;refine CH.nil ?_;refine bg rfl rfl rfl
 refine qs (ab rfl (fun I=>?_) (fun I=>?_));·
  have J:bG (ak s) c i=.no i 10:=by unfold bG;rw[if_neg];rintro⟨q1,q2⟩;rw[au] at q1;revert I;simp[q1,q2]
  refine W.region ?_;iterate 3 refine pE rfl ?_
  refine pE rfl (ca [] [] rfl rfl rfl rfl rfl (cM i 10) rfl rfl (by rfl) (fun st'=>?_));repeat' refine b4 ?_
  exact cg (aN J)
 have J:bG (ak s) c i=.ok () (i+1)∧i < s.size:=by
  have q:i < s.size∧aq (ak s) i=c:=by revert I;simp;intro q1 q2;exact⟨q1,UInt8.toNat_inj.1 (by omega)⟩
  exact⟨by unfold bG;rw[if_pos ⟨by rw[au];exact q.1,q.2⟩],q.1⟩
 refine W.skip (qs (W.region ?_));iterate 3 refine pE rfl ?_
 refine pE rfl (pu (cU (ev aa rfl) (y:=((i+1:Nat):Int)) (wrap64 (by omega))) rfl ?_);iterate 2 refine pE rfl ?_
 refine ar aa rfl rfl rfl rfl rfl rfl rfl rfl (WO.nil (cV (aV (J.1)) ?_));refine b7.end aa [] trivial rfl rfl rfl rfl ?_ ?_;·exact⟨rfl,trivial⟩
 rfl
end Go.Proofs.YtpiaiiopakafhaaGreatDoor
namespace Go.Proofs.YtpiaiiopakafhaaGreatDoor
open Go.Ab Go.Tb
set_option maxRecDepth 10000
set_option maxHeartbeats 1000000
attribute [local irreducible] W WO Pu QS QB QL QF QV bA CH QE
theorem jf (s w:ByteArray) (i:Nat) (hs:s.size≤1000000000):cL Tryz.prog 114 [.ptr 0 0,.d (.v (.string w))] [eB s i] 0 (gH 128 s (fun _=>.tup []) (b8 (ak s) (ak w) i)):=by
 refine cL.cX aa (n:=16) (rs:=[]) Tryz.func114 (by kernel_rfl) rfl Tryz.ntmps114 Tryz.results114 rfl (fv ..) fun C hC X=>?_;refine W.seq (W.region ?_);iterate 3 refine pE rfl ?_
 refine WO.nil (qs (W.block (W.jC (t:=1) rfl (fun hok=>?_))));have hlen:=iR hok
 refine W.bh (ι:={x:Nat×Nat // match x with | (k,j)=>k≤(ak w).length∧b8 (ak s) ((ak w).drop k) j=b8 (ak s) (ak w) i})
  (fun x=>match x.1 with | (k,j)=>[(0,.ptr 0 0),(7,.d (.v (.int .i64 ((k:Nat):Int))))]) [(1,_),(6,_)]
  (fun x=>match x.1 with | (k,j)=>[(0,[.d (cs s),.d (.v (.int .i64 (j:Int)))])]) [] [] 1 (fun x=>match x.1 with | (k,j)=>(ak w).length - k)
  [0] ⟨(0,i),?_⟩ rfl ?_ ⟨rfl,rfl,rfl,rfl,trivial⟩ ?_ trivial rfl ?_
 ·exact⟨Nat.zero_le _,rfl⟩
 ·repeat' first | exact trivial | refine⟨rfl,?_⟩
 ·repeat' first | exact trivial | refine⟨rfl,?_⟩
 rintro⟨⟨k,j⟩,M,I⟩;show W _ _ _ _ _ ⟨[(0,.ptr 0 0),(7,.d (.v (.int .i64 ((k:Nat):Int)))),(1,_),(6,_)],[(0,[.d (cs s),.d (.v (.int .i64 (j:Int)))])],[],1⟩;refine W.seq (W.region (pE rfl (WO.nil (qs (W.seq (bu (l:=ak w) (k:=k) rfl (by simp[Ex.aF,au]) M (fun b Z hd J=>?_) (fun he hd=>?_)))))));·
  rw[hd] at I;simp only[b8] at I;refine W.skip (qs (W.seq (W.block (W.seq (W.region ?_)))));iterate 2 refine pE rfl ?_
  refine WO.nil (qs (W.region ?_));iterate 3 refine pE rfl ?_
  refine pu (db aa rfl rfl rfl rfl (Int.natCast_nonneg _) (eZ (by assumption))) rfl ?_
  cases hc14:bG (ak s) b j with
  | no N O=>
   refine ca [0] [] rfl rfl rfl rfl rfl ((iX s b j hs).fu (aN hc14)) rfl rfl (by rfl) (fun st'=>?_);repeat' first | refine b4 ?_ | refine fz ?_ | refine jt ?_
   refine cg (aN (by rw[←I,hc14]))
  | ok U i14=>
   refine aK [0] [] rfl rfl rfl rfl rfl ((iX s b j hs).ret (aV hc14)) rfl rfl (by rfl) (by rfl) rfl rfl rfl rfl ?_;refine WO.nil (be (qs (W.region ?_)));iterate 2 refine pE rfl ?_
   refine WO.nil (W.bt [0] ⟨(k+1,i14),?_⟩ ?_ rfl ?_ ⟨rfl,rfl,rfl,rfl,trivial⟩ ?_ trivial rfl);·exact⟨J,by rw[←I,hc14]⟩
   ·dsimp only;omega
   ·repeat' first | exact trivial | refine⟨rfl,?_⟩ | refine⟨aL (by assumption) (by assumption),?_⟩
   repeat' first | exact trivial | refine⟨rfl,?_⟩
 rw[hd] at I;simp only[b8] at I;refine W.exit (aW (aT (aS (cV (aV (I.symm)) ?_))));refine b7.end aa [] trivial rfl rfl rfl rfl ?_ ?_;·exact⟨rfl,trivial⟩
 rfl
def gu (l:List UInt8) (c:UInt8) (i:Nat):PE Bool:=
 if aq l (az l i)=44 then .ok true (az l i+1) else match bG l c (az l i) with | .no a w=>.no a w | .ok _ j=>.ok false j
theorem pf (s:ByteArray) (c:UInt8) (i:Nat) (hi:i≤s.size) (hs:s.size≤1000000000):cL Tryz.prog 159 [.ptr 0 0,.d (.v (.int .u8 c.toNat))] [eB s i] 0 (gH 128 s (fun b=>.d (.v (.bool b))) (gu (ak s) c i)):=by
 have hle:az (ak s) i≤s.size:=by have:=bW (l:=ak s) (i:=i) (by rw[au];exact hi);rwa [au] at this
 refine cL.cX aa (n:=18) (rs:=[.tmp 4]) Tryz.func159 (by kernel_rfl) rfl Tryz.ntmps159 Tryz.results159 rfl (fv ..) fun C hC U=>?_;refine W.seq (W.region (pE rfl (WO.nil (qs ?_))));iterate 2 refine W.seq ?_
 refine W.region (pE rfl (aK [0] [] rfl rfl rfl rfl rfl ((jO s i hi hs)) rfl rfl (by rfl) (by rfl) rfl rfl rfl rfl ?_));refine pE rfl (WO.nil (qs (ab rfl (fun I=>?_) (fun I=>?_))));·
  have q:aq (ak s) (az (ak s) i)=44:=UInt8.toNat_inj.1 (by show _=44;simp at I;omega);have J:gu (ak s) c i=.ok true (az (ak s) i+1):=by unfold gu;rw[if_pos q]
  refine W.seq (W.region ?_);iterate 3 refine pE rfl ?_
  refine pE rfl (pu (cU (ev aa rfl) (y:=((az (ak s) i+1:Nat):Int)) (wrap64 (by omega))) rfl ?_);iterate 2 refine pE rfl ?_
  refine ar aa rfl rfl rfl rfl rfl rfl rfl rfl (WO.nil (qs (W.seq (W.region (pE rfl (WO.nil (qs (W.ret (an (cV (aV (J)) ?_))))))))));refine b7.end aa [] trivial rfl rfl rfl rfl ?_ ?_;·exact⟨rfl,trivial⟩
  rfl
 have q:¬ aq (ak s) (az (ak s) i)=44:=by intro q;rw[q] at I;simp at I
 have J:gu (ak s) c i=match bG (ak s) c (az (ak s) i) with | .no a w=>.no a w | .ok _ j=>.ok false j:=by unfold gu;rw[if_neg q]
 refine W.skip (qs (W.seq (W.region ?_)));iterate 2 refine pE rfl ?_
 cases hc17:bG (ak s) c (az (ak s) i) with
 | no M N=>
  refine ca [0] [] rfl rfl rfl rfl rfl ((iX s c (az (ak s) i) hs).fu (aN hc17)) rfl rfl (by rfl) (fun st'=>?_);repeat' refine b4 ?_
  refine cg (aN (by rw[J,hc17]))
 | ok O i17=>
  refine aK [0] [] rfl rfl rfl rfl rfl ((iX s c (az (ak s) i) hs).ret (aV hc17)) rfl rfl (by rfl) (by rfl) rfl rfl rfl rfl ?_;refine WO.nil (qs (W.seq (W.region (pE rfl (WO.nil (qs (W.ret (cV (aV ((by rw[J,hc17]))) ?_))))))));refine b7.end aa [] trivial rfl rfl rfl rfl ?_ ?_;·exact⟨rfl,trivial⟩
  rfl
def fN (l:List UInt8) (i:Nat):PE Nat:=match jh (aq l i) with | some n=>.ok n i | none=>.no i 10
theorem F2:∀ n:Fin 256,IntKind.u8.wrap (((BitVec.ofInt IntKind.u8.bits (n.val:Int)) ||| BitVec.ofInt IntKind.u8.bits 32).toNat:Int)=(((UInt8.ofNat n.val) ||| 32).toNat:Int):=by decide +kernel
theorem Ct (b:UInt8):IntKind.u8.wrap (((BitVec.ofInt IntKind.u8.bits (b.toNat:Int)) ||| BitVec.ofInt IntKind.u8.bits 32).toNat:Int)=((b ||| 32).toNat:Int):=by have h:=F2 ⟨b.toNat,b.toNat_lt⟩;rw[h];simp
theorem mR (s:ByteArray) (i:Nat):cL Tryz.prog 176 [.ptr 0 0] [eB s i] 0 (gH 128 s (fun n:Nat=>.d (.v (.int .i64 (n:Int)))) (fN (ak s) i)):=by
 have O:(aq (ak s) i).toNat < 256:=(aq (ak s) i).toNat_lt;have N:(aq (ak s) i ||| 32).toNat < 256:=(aq (ak s) i ||| 32).toNat_lt;refine cL.cX aa (n:=35) (rs:=[.tmp 2]) Tryz.func176 (by kernel_rfl) rfl Tryz.ntmps176 Tryz.results176 rfl (fv ..) fun C hC U=>?_;refine W.seq (W.region (pE rfl (WO.nil (qs ?_))));iterate 2 refine W.seq ?_
 refine W.region (pE rfl (aK [0] [] rfl rfl rfl rfl rfl ((gM s i)) rfl rfl (by rfl) (by rfl) rfl rfl rfl rfl ?_));refine pE rfl (WO.nil (qs (W.block (W.seq ?_))));apply aG;(case hb=>rfl);·repeat' first | refine bg rfl rfl rfl | refine aH rfl rfl ?_ | refine aE rfl rfl rfl rfl ?_ | refine pE rfl ?_ | refine WO.nil ?_ | (apply aP;(case hj=>rfl);(case hl=>rfl))
 refine qs (ab rfl (fun M=>?_) (fun M=>?_));·
  have q:48≤(aq (ak s) i).toNat∧(aq (ak s) i).toNat≤57:=by revert M;simp;omega
  have I:fN (ak s) i=.ok ((aq (ak s) i).toNat - 48) i:=by unfold fN jh;rw[if_pos q]
  refine W.seq (W.region (pE rfl (pu (cU (ev aa rfl) (y:=(((aq (ak s) i).toNat - 48:Nat):Int)) (Eq.trans (wrap_u8 (by omega)) (by omega))) rfl ?_)));refine pu (cU (ev aa rfl) (y:=(((aq (ak s) i).toNat - 48:Nat):Int)) (wrap64 (by omega))) rfl ?_;refine pE rfl (WO.nil (qs (W.ret (aC (an (cV (aV (I)) ?_))))));refine b7.end aa [] trivial rfl rfl rfl rfl ?_ ?_;·exact⟨rfl,trivial⟩
  rfl
 have q:¬ (48≤(aq (ak s) i).toNat∧(aq (ak s) i).toNat≤57):=by revert M;simp;omega
 refine W.seq ?_;apply aG;(case hb=>rfl);·
  refine pE rfl (pu (cU (ev aa rfl) (Ct (aq (ak s) i))) rfl ?_);iterate 2 refine pE rfl ?_
  apply aP;(case hj=>rfl);(case hl=>rfl);·
   refine aH rfl rfl (pE rfl (aH rfl rfl (pu (cU (ev aa rfl) (Ct (aq (ak s) i))) rfl ?_)));refine aH rfl rfl ?_;iterate 3 refine pE rfl ?_
   refine WO.nil (bg rfl rfl rfl)
  iterate 3 refine aE rfl rfl rfl rfl ?_
  iterate 2 refine pE rfl ?_
  refine WO.nil (bg rfl rfl rfl)
 refine qs (ab rfl (fun J=>?_) (fun J=>?_));·
  have q2:97≤(aq (ak s) i ||| 32).toNat∧(aq (ak s) i ||| 32).toNat≤102:=by revert J;simp only[Bool.cond_false_right,Bool.and_eq_true,decide_eq_true_eq];omega
  have I:fN (ak s) i=.ok ((aq (ak s) i ||| 32).toNat - 97+10) i:=by unfold fN jh;rw[if_neg q,if_pos q2]
  refine W.seq (W.region (pE rfl (pu (cU (ev aa rfl) (Ct (aq (ak s) i))) rfl ?_)));refine pu (cU (ev aa rfl) (y:=(((aq (ak s) i ||| 32).toNat - 97:Nat):Int)) (Eq.trans (wrap_u8 (by omega)) (by omega))) rfl ?_;refine pu (cU (ev aa rfl) (y:=(((aq (ak s) i ||| 32).toNat - 97:Nat):Int)) (wrap64 (by omega))) rfl ?_;refine pu (cU (ev aa rfl) (y:=(((aq (ak s) i ||| 32).toNat - 97+10:Nat):Int)) (Eq.trans (wrap64 (by omega)) (by omega))) rfl ?_;refine pE rfl (WO.nil (qs (W.ret (aC (an (cV (aV (I)) ?_))))));refine b7.end aa [] trivial rfl rfl rfl rfl ?_ ?_;·exact⟨rfl,trivial⟩
  rfl
 have q2:¬ (97≤(aq (ak s) i ||| 32).toNat∧(aq (ak s) i ||| 32).toNat≤102):=by revert J;simp only[Bool.cond_false_right,Bool.and_eq_false_iff,decide_eq_false_iff_not];omega
 have I:fN (ak s) i=.no i 10:=by unfold fN jh;rw[if_neg q,if_neg q2]
 refine W.skip (be (qs (W.seq (W.region ?_))));iterate 3 refine pE rfl ?_
 refine pE rfl (ca [] [] rfl rfl rfl rfl rfl (cM i 10) rfl rfl (by rfl) (fun st'=>?_));repeat' refine b4 ?_
 exact cg (aN I)
end Go.Proofs.YtpiaiiopakafhaaGreatDoor
namespace Go.Proofs.YtpiaiiopakafhaaGreatDoor
open Go.Ab Go.Tb
set_option maxRecDepth 10000
set_option maxHeartbeats 1000000
attribute [local irreducible] W WO Pu QS QB QL QF QV bA CH QE
def yl (l:List UInt8) (i:Nat):PE UInt8:=match b8 l [117,48,48] i with
 | .no a w=>.no a w
 | .ok _ j=>match fN l j with
  | .no a w=>.no a w
  | .ok high j1=>if high=1∨7 < high then .no j1 10 else match fN l (j1+1) with
   | .no a w=>.no a w
   | .ok low j2=>if known (UInt8.ofNat (16*high+low))=false then .no j2 10 else .ok (UInt8.ofNat (16*high+low)) (j2+1)
theorem iL {c:UInt8} {n:Nat} (I:n < 256) (h:(c.toNat:Int)=(n:Int)):c=UInt8.ofNat n:=UInt8.toNat_inj.1 (by rw[UInt8.toNat_ofNat_of_lt' I];omega)
theorem qC {l:List UInt8} {i:Nat} (h:((aq l i).toNat:Int)=34∨((aq l i).toNat:Int)=92∨((aq l i).toNat:Int)=47):dU l i=.ok (aq l i) (i+1):=by
 unfold dU;rw[if_pos];rcases h with h | h | h
 ·exact .inl (iL (n:=34) (by decide) h)
 ·exact .inr (.inl (iL (n:=92) (by decide) h))
 exact .inr (.inr (iL (n:=47) (by decide) h))
theorem F1 {l:List UInt8} {i:Nat} (h:((aq l i).toNat:Int)=110):dU l i=.ok 10 (i+1):=by have e:=iL (n:=110) (by decide) h;unfold dU;rw[e];rfl
theorem FZ {l:List UInt8} {i:Nat} (h:((aq l i).toNat:Int)=116):dU l i=.ok 9 (i+1):=by have e:=iL (n:=116) (by decide) h;unfold dU;rw[e];rfl
theorem Bb {l:List UInt8} {i:Nat} (h1:¬ ((aq l i).toNat:Int)=34) (h2:¬ ((aq l i).toNat:Int)=92) (h3:¬ ((aq l i).toNat:Int)=47) (h4:¬ ((aq l i).toNat:Int)=110) (h5:¬ ((aq l i).toNat:Int)=116):dU l i=yl l i:=by
 unfold dU yl fN;rw[if_neg (by rintro(e | e | e) <;> rw[e] at h1 h2 h3 <;> simp at h1 h2 h3),if_neg (by intro e;rw[e] at h4;simp at h4),if_neg (by intro e;rw[e] at h5;simp at h5)]
 cases b8 l [117,48,48] i with
 | no a w=>rfl
 | ok y j=>
  simp only
  cases jh (aq l j) with
  | none=>rfl
  | some high=>
   simp only;by_cases q:high=1∨7 < high;·rw[if_pos q,if_pos q]
   rw[if_neg q,if_neg q]
   cases jh (aq l (j+1)) with
   | none=>rfl
   | some low=>rfl
theorem uv {l:List UInt8} {i n j:Nat} (h:fN l i=.ok n j):j=i∧n < 16:=by
 unfold fN at h
 cases I:jh (aq l i) with
 | none=>rw[I] at h;cases h
 | some m=>
  rw[I] at h;cases h;refine⟨rfl,?_⟩;unfold jh at I;split at I;·cases I;omega
  split at I;·cases I;omega
  cases I
theorem Ey {n:Nat} (h:n < 256):((UInt8.ofNat n).toNat:Int)=(n:Int):=by rw[UInt8.toNat_ofNat_of_lt' h]
theorem tL (s:ByteArray) (i:Nat) (hi:i≤s.size) (hs:s.size≤1000000000):cL Tryz.prog 158 [.ptr 0 0] [eB s i] 0 (gH 128 s (fun c:UInt8=>.d (.v (.int .u8 c.toNat))) (dU (ak s) i)):=by
 have X:=kX (l:=ak s) (x:=[117,48,48]) (i:=i) (by rw[au];exact hi);refine cL.cX aa (n:=83) (rs:=[.tmp 2]) Tryz.func158 (by kernel_rfl) rfl Tryz.ntmps158 Tryz.results158 rfl (fv ..) fun C hC hG=>?_;refine W.seq (W.region (pE rfl (WO.nil (qs (W.seq (W.region (pE rfl (aK [0] [] rfl rfl rfl rfl rfl ((gM s i)) rfl rfl (by rfl) (by rfl) rfl rfl rfl rfl ?_))))))));refine pE rfl (WO.nil (qs ?_));iterate 2 refine W.seq ?_
 refine W.region (pE rfl (WO.nil (qs (W.block ?_))));iterate 2 refine W.seq ?_
 refine W.region ?_;iterate 2 refine pE rfl ?_
 refine WO.nil (qs (ab rfl (fun M=>?_) (fun M=>?_)));·
  have I:dU (ak s) i=.ok (aq (ak s) i) (i+1):=qC (by have:=of_decide_eq_true M;omega);refine W.skip (qs (W.fX rfl (W.seq (W.region ?_))));iterate 3 refine pE rfl ?_
  refine pE rfl (pu (cU (ev aa rfl) (y:=((i+1:Nat):Int)) (wrap64 (by omega))) rfl ?_);iterate 2 refine pE rfl ?_
  refine ar aa rfl rfl rfl rfl rfl rfl rfl rfl (WO.nil (qs (W.seq (W.region ?_))));iterate 2 refine pE rfl ?_
  refine WO.nil (qs (W.ret (aC (an (cV (aV (I)) ?_)))));refine b7.end aa [] trivial rfl rfl rfl rfl ?_ ?_;·exact⟨rfl,trivial⟩
  rfl
 refine W.seq (W.region ?_);iterate 2 refine pE rfl ?_
 refine WO.nil (qs (ab rfl (fun M=>?_) (fun M=>?_)));·
  have I:dU (ak s) i=.ok (aq (ak s) i) (i+1):=qC (by have:=of_decide_eq_true M;omega);refine W.skip (qs (W.fX rfl (W.seq (W.region ?_))));iterate 3 refine pE rfl ?_
  refine pE rfl (pu (cU (ev aa rfl) (y:=((i+1:Nat):Int)) (wrap64 (by omega))) rfl ?_);iterate 2 refine pE rfl ?_
  refine ar aa rfl rfl rfl rfl rfl rfl rfl rfl (WO.nil (qs (W.seq (W.region ?_))));iterate 2 refine pE rfl ?_
  refine WO.nil (qs (W.ret (aC (an (cV (aV (I)) ?_)))));refine b7.end aa [] trivial rfl rfl rfl rfl ?_ ?_;·exact⟨rfl,trivial⟩
  rfl
 refine W.region ?_;iterate 2 refine pE rfl ?_
 refine WO.nil (qs (ab rfl (fun M=>?_) (fun M=>?_)));·
  have I:dU (ak s) i=.ok (aq (ak s) i) (i+1):=qC (by have:=of_decide_eq_true M;omega);refine W.seq (W.region ?_);iterate 3 refine pE rfl ?_
  refine pE rfl (pu (cU (ev aa rfl) (y:=((i+1:Nat):Int)) (wrap64 (by omega))) rfl ?_);iterate 2 refine pE rfl ?_
  refine ar aa rfl rfl rfl rfl rfl rfl rfl rfl (WO.nil (qs (W.seq (W.region ?_))));iterate 2 refine pE rfl ?_
  refine WO.nil (qs (W.ret (aC (an (cV (aV (I)) ?_)))));refine b7.end aa [] trivial rfl rfl rfl rfl ?_ ?_;·exact⟨rfl,trivial⟩
  rfl
 refine W.seq (W.region ?_);iterate 2 refine pE rfl ?_
 refine WO.nil (qs (ab rfl (fun Z=>?_) (fun Z=>?_)));·
  have I:dU (ak s) i=.ok 10 (i+1):=F1 (of_decide_eq_true Z);refine W.seq (W.region ?_);iterate 3 refine pE rfl ?_
  refine pE rfl (pu (cU (ev aa rfl) (y:=((i+1:Nat):Int)) (wrap64 (by omega))) rfl ?_);iterate 2 refine pE rfl ?_
  refine ar aa rfl rfl rfl rfl rfl rfl rfl rfl (WO.nil (qs (W.seq (W.region (pE rfl (WO.nil (qs (W.ret (aC (an (cV (aV (I)) ?_)))))))))));refine b7.end aa [] trivial rfl rfl rfl rfl ?_ ?_;·exact⟨rfl,trivial⟩
  rfl
 refine W.seq (W.region ?_);iterate 2 refine pE rfl ?_
 refine WO.nil (qs (ab rfl (fun ad=>?_) (fun ad=>?_)));·
  have I:dU (ak s) i=.ok 9 (i+1):=FZ (of_decide_eq_true ad);refine W.seq (W.region ?_);iterate 3 refine pE rfl ?_
  refine pE rfl (pu (cU (ev aa rfl) (y:=((i+1:Nat):Int)) (wrap64 (by omega))) rfl ?_);iterate 2 refine pE rfl ?_
  refine ar aa rfl rfl rfl rfl rfl rfl rfl rfl (WO.nil (qs (W.seq (W.region (pE rfl (WO.nil (qs (W.ret (aC (an (cV (aV (I)) ?_)))))))))));refine b7.end aa [] trivial rfl rfl rfl rfl ?_ ?_;·exact⟨rfl,trivial⟩
  rfl
 have I:dU (ak s) i=yl (ak s) i:=Bb (by simp_all) (by simp_all) (by simp_all) (by simp_all) (by simp_all);unfold yl at I;refine W.skip (be (qs (W.seq (W.region (pE rfl ?_)))))
 cases hc40:b8 (ak s) [117,48,48] i with
 | no a40 ai=>
  refine ca [0] [] rfl rfl rfl rfl rfl ((jf s (B #[117,48,48]) i hs).fu (aN hc40)) rfl rfl (by rfl) (fun st'=>?_);repeat' refine b4 ?_
  refine cg (aN (by rw[I,hc40]))
 | ok aj i40=>
  refine aK [0] [] rfl rfl rfl rfl rfl ((jf s (B #[117,48,48]) i hs).ret (aV hc40)) rfl rfl (by rfl) (by rfl) rfl rfl rfl rfl ?_;rw[hc40] at I X;rw[au] at X;simp only at I;refine WO.nil (qs (W.seq (W.region (pE rfl ?_))))
  cases hc42:fN (ak s) i40 with
  | no a1 a6=>
   refine ca [0] [] rfl rfl rfl rfl rfl ((mR s i40).fu (aN hc42)) rfl rfl (by rfl) (fun st'=>?_);repeat' refine b4 ?_
   refine cg (aN (by rw[I,hc42]))
  | ok J i42=>
   refine aK [0] [] rfl rfl rfl rfl rfl ((mR s i40).ret (aV hc42)) rfl rfl (by rfl) (by rfl) rfl rfl rfl rfl ?_;rw[hc42] at I;simp only at I;obtain⟨a7,a8⟩:=uv hc42;refine pE rfl (WO.nil (qs ?_));iterate 2 refine W.seq ?_
   apply aG;(case hb=>rfl);·repeat' first | refine bg rfl rfl rfl | refine aH rfl rfl ?_ | refine aE rfl rfl rfl rfl ?_ | refine pE rfl ?_ | refine WO.nil ?_ | (apply aP;(case hj=>rfl);(case hl=>rfl))
   refine qs (ab rfl (fun O=>?_) (fun O=>?_));·
    have q:J=1∨7 < J:=by revert O;simp;omega
    rw[if_pos q] at I;refine W.region ?_;iterate 3 refine pE rfl ?_
    refine pE rfl (ca [] [] rfl rfl rfl rfl rfl (cM i42 10) rfl rfl (by rfl) (fun st'=>?_));repeat' refine b4 ?_
    exact cg (aN I)
   have q:¬ (J=1∨7 < J):=by revert O;simp;omega
   rw[if_neg q] at I;refine W.skip (qs (W.seq (W.region ?_)));iterate 3 refine pE rfl ?_
   refine pE rfl (pu (cU (ev aa rfl) (y:=((i42+1:Nat):Int)) (wrap64 (by omega))) rfl ?_);iterate 2 refine pE rfl ?_
   refine ar aa rfl rfl rfl rfl rfl rfl rfl rfl (WO.nil (qs (W.seq (W.region (pE rfl (pu (cU (ev aa rfl) (y:=((16*J:Nat):Int)) (Eq.trans (wrap64 (by omega)) (by omega))) rfl ?_))))));refine pE rfl ?_
   cases hc64:fN (ak s) (i42+1) with
   | no b0 b2=>
    refine ca [0] [] rfl rfl rfl rfl rfl ((mR s (i42+1)).fu (aN hc64)) rfl rfl (by rfl) (fun st'=>?_);repeat' refine b4 ?_
    refine cg (aN (by rw[I,hc64]))
   | ok N i64=>
    refine aK [0] [] rfl rfl rfl rfl rfl ((mR s (i42+1)).ret (aV hc64)) rfl rfl (by rfl) (by rfl) rfl rfl rfl rfl ?_;rw[hc64] at I;simp only at I;obtain⟨b3,ch⟩:=uv hc64;refine pu (cU (ev aa rfl) (y:=((16*J+N:Nat):Int)) (Eq.trans (wrap64 (by omega)) (by omega))) rfl ?_;refine pu (cU (ev aa rfl) (y:=((UInt8.ofNat (16*J+N)).toNat:Int)) (Eq.trans (wrap_u8 (by omega)) (Ey (by omega)).symm)) rfl ?_;refine pE rfl (WO.nil (qs ?_));iterate 2 refine W.seq ?_
    refine W.region (pE rfl (pu (ao rfl rfl rfl (vX (UInt8.ofNat (16*J+N))) rfl) rfl ?_));refine pE rfl (WO.nil (qs (ab rfl (fun U=>?_) (fun U=>?_))));·
     have q2:known (UInt8.ofNat (16*J+N))=false:=by simpa using U
     rw[if_pos q2] at I;refine W.region ?_;iterate 3 refine pE rfl ?_
     refine pE rfl (ca [] [] rfl rfl rfl rfl rfl (cM i64 10) rfl rfl (by rfl) (fun st'=>?_));repeat' refine b4 ?_
     exact cg (aN I)
    have q2:¬ known (UInt8.ofNat (16*J+N))=false:=by simpa using U
    rw[if_neg q2] at I;refine W.skip (qs (W.seq (W.region ?_)));iterate 3 refine pE rfl ?_
    refine pE rfl (pu (cU (ev aa rfl) (y:=((i64+1:Nat):Int)) (wrap64 (by omega))) rfl ?_);iterate 2 refine pE rfl ?_
    refine ar aa rfl rfl rfl rfl rfl rfl rfl rfl (WO.nil (qs (W.seq (W.region ?_))));iterate 2 refine pE rfl ?_
    refine WO.nil (qs (W.ret (cV (aV (I)) ?_)));refine b7.end aa [] trivial rfl rfl rfl rfl ?_ ?_;·exact⟨rfl,trivial⟩
    rfl
end Go.Proofs.YtpiaiiopakafhaaGreatDoor
namespace Go.Proofs.YtpiaiiopakafhaaGreatDoor
open Go.Ab Go.Tb
set_option maxRecDepth 10000
set_option maxHeartbeats 1000000
attribute [local irreducible] W WO Pu QS QB QL QF QV bA CH QE
def iH (l:List UInt8) (i j:Nat):ByteArray:=⟨((l.drop i).take (j - i)).toArray⟩
def gD (l:List UInt8) (i j:Nat) (u:ByteArray):PE JV:=if (fR u).2=true then .ok (.mk 3 (fR u).1 (B #[]) [] []) j else .no i 2
def kG (l:List UInt8) (i i1 j:Nat):PE JV:=if j=i1 then .no i1 10 else gD l i j (if iH l i j=B #[45,48] then B #[48] else iH l i j)
theorem DZ {l:List UInt8} {i:Nat} (h:aq l i=45):dH l i=kG l i (i+1) (bw l (i+1)):=by unfold dH kG gD iH;rw[if_pos h]
theorem D7 {l:List UInt8} {i:Nat} (h:¬ aq l i=45):dH l i=kG l i i (bw l i):=by unfold dH kG gD iH;rw[if_neg h]
theorem kC (s:ByteArray) (i j:Nat):s.extract i j=iH (ak s) i j:=by refine jc ?_;show ak _=_;rw[Go.Tb.wG];unfold iH;simp[List.drop_take]
theorem oU (b:UInt8):dE b=true↔48≤b.toNat∧b.toNat≤57:=by unfold dE;simp
theorem tE {l:List UInt8} {k j:Nat} (h:dE (aq l j)=false):gQ l k j=j:=by cases k <;> simp[gQ,h]
theorem tf {l:List UInt8} {j:Nat} (hj:j < l.length) (h:dE (aq l j)=true):gQ l (l.length - j) j=gQ l (l.length - (j+1)) (j+1):=by rw[show l.length - j=(l.length - (j+1))+1 by omega,gQ,if_pos ⟨hj,h⟩]
theorem yY (s:ByteArray) (i:Nat) (hi:i≤s.size) (hs:s.size≤1000000000) (hm:aq (ak s) i=45):cL Tryz.prog 118 [.ptr 0 0] [eB s i] 0 (gH 128 s (fun v:JV=>.ag v.c) (dH (ak s) i)):=by
 have X:=DZ (l:=ak s) (i:=i) hm;have a6:i < s.size:=by have:=b9 (l:=ak s) (i:=i) (by rw[hm];decide);rwa [au] at this
 have a7:=nG (l:=ak s) (i:=i+1) (by rw[au];omega);rw[au] at a7;refine cL.cX aa (n:=85) (rs:=[.cell 2 46]) Tryz.func118 (by kernel_rfl) rfl Tryz.ntmps118 Tryz.results118 rfl (fv ..) fun C hC hG=>?_;refine W.seq (W.region (aQ aa rfl rfl rfl (WO.nil (qs (W.seq (W.region ?_))))));iterate 3 refine pE rfl ?_
 refine pE rfl (pE rfl (WO.nil (qs ?_)));iterate 2 refine W.seq ?_
 refine W.region (pE rfl (aK [0] [] rfl rfl rfl rfl rfl ((gM s i)) rfl rfl (by rfl) (by rfl) rfl rfl rfl rfl ?_));refine pE rfl (WO.nil (qs (ab rfl (fun ad=>?_) (fun ad=>?_))));·
  refine W.region ?_;iterate 3 refine pE rfl ?_
  refine pE rfl (pu (cU (ev aa rfl) (y:=((i+1:Nat):Int)) (wrap64 (by omega))) rfl ?_);iterate 2 refine pE rfl ?_
  refine ar aa rfl rfl rfl rfl rfl rfl rfl rfl (WO.nil (qs (W.seq (W.region ?_))));iterate 3 refine pE rfl ?_
  refine pE rfl (pE rfl (WO.nil (qs ?_)));iterate 2 refine W.seq ?_
  refine W.region (pE rfl (aK [0] [] rfl rfl rfl rfl rfl ((gM s (i+1))) rfl rfl (by rfl) (by rfl) rfl rfl rfl rfl ?_));refine pE rfl (WO.nil (qs (W.block ?_)))
  refine W.bh (ι:={x:Nat // match x with | j=>(i+1)≤j∧j≤s.size∧(j=(i+1)∨aq (ak s) (i+1)≠48)∧(aq (ak s) (i+1)≠48→gQ (ak s) ((ak s).length - j) j=gQ (ak s) ((ak s).length - (i+1)) (i+1))})
   (fun x=>match x.1 with | j=>[(0,.ptr 0 0),(2,.ptr 1 0),(5,.d (.v (.int .u8 (aq (ak s) j).toNat)))]) [(3,_),(4,_)]
   (fun x=>match x.1 with | j=>[(0,[.d (cs s),.d (.v (.int .i64 (j:Int)))])]) [(1,_)] [] 2 (fun x=>match x.1 with | j=>s.size - j)
   [0,1] ⟨(i+1),?_⟩ rfl ?_ ⟨rfl,rfl,rfl,rfl,trivial⟩ ?_ ⟨rfl,rfl,trivial⟩ rfl ?_
  ·exact⟨Nat.le_refl _,a6,.inl rfl,fun _=>rfl⟩
  ·repeat' first | exact trivial | refine⟨rfl,?_⟩
  ·repeat' first | exact trivial | refine⟨rfl,?_⟩
  rintro⟨j,b2,b3,aj,a1⟩;show W _ _ _ _ _ ⟨[(0,.ptr 0 0),(2,.ptr 1 0),(5,.d (.v (.int .u8 (aq (ak s) j).toNat))),(3,_),(4,_)],[(0,[.d (cs s),.d (.v (.int .i64 (j:Int)))]),(1,_)],[],2⟩;iterate 2 refine W.seq ?_
  apply aG;(case hb=>rfl);·
   iterate 3 refine pE rfl ?_
   apply fJ;(case hj=>rfl);(case hl=>rfl);·
    intro a8;refine aH rfl rfl (pE rfl (aH rfl rfl ?_));iterate 2 refine pE rfl ?_
    refine WO.nil (bg rfl rfl rfl)
   intro a8;iterate 2 refine aE rfl rfl rfl rfl ?_
   refine pE rfl (WO.nil (bg rfl rfl rfl))
  refine qs (ab rfl (fun ai=>?_) (fun ai=>?_));·
   have hd:dE (aq (ak s) j)=true:=by rw[oU];revert ai;simp;omega
   have b0:j < s.size:=by have:=b9 (l:=ak s) (i:=j) (by intro q;rw[q] at hd;exact absurd hd (by decide));rwa [au] at this
   refine W.skip (qs (W.seq (W.block (W.seq (W.region ?_)))));iterate 3 refine pE rfl ?_
   refine pE rfl (pu (cU (ev aa rfl) (y:=((j+1:Nat):Int)) (wrap64 (by omega))) rfl ?_);iterate 2 refine pE rfl ?_
   refine ar aa rfl rfl rfl rfl rfl rfl rfl rfl (WO.nil (qs (W.seq (W.region ?_))));iterate 3 refine pE rfl ?_
   refine pE rfl (pE rfl (pu (db aa rfl rfl rfl rfl (Int.natCast_nonneg _) (eZ (mC (s:=s) (i:=(i+1)) (by omega)))) rfl ?_));refine pE rfl (WO.nil (qs (ab rfl (fun Z=>?_) (fun Z=>?_))));·
    have N:aq (ak s) (i+1)=48:=iL (n:=48) (by decide) (of_decide_eq_true Z);have hE:j+1=bw (ak s) (i+1):=by
     unfold bw;rw[if_pos N];rcases aj with e | e
     ·rw[e]
     exact absurd N e
    rw[hE];refine W.exit (w8 rfl ?_);refine aW (aT (aS (qs ?_)));iterate 2 refine W.seq ?_
    refine W.region ?_;iterate 3 refine pE rfl ?_
    refine pE rfl ?_;iterate 2 refine pE rfl ?_
    refine WO.nil (qs (ab rfl (fun O=>?_) (fun O=>?_)));·
     have q:bw (ak s) (i+1)=(i+1):=by have:=of_decide_eq_true O;omega
     have M:dH (ak s) i=.no (bw (ak s) (i+1)) 10:=by rw[X];unfold kG;rw[if_pos q,q]
     refine W.region ?_;iterate 3 refine pE rfl ?_
     refine pE rfl (ca [] [] rfl rfl rfl rfl rfl (cM (bw (ak s) (i+1)) 10) rfl rfl (by rfl) (fun st'=>?_));repeat' refine b4 ?_
     exact cg (aN M)
    have q:¬ bw (ak s) (i+1)=(i+1):=by have:=of_decide_eq_false O;omega
    unfold kG at X;rw[if_neg q] at X;refine W.skip (qs (W.seq (W.ey aa (by kernel_rfl) ?_)));iterate 3 refine aJ (ev aa rfl) rfl ?_
    refine aJ (ev aa rfl) rfl ?_;iterate 4 refine aJ (ev aa rfl) rfl ?_
    refine aJ (ev aa rfl) rfl ?_;refine aJ (C0 (mx (l:=(i:Int)) (h:=((bw (ak s) (i+1):Nat):Int)) aa rfl rfl rfl rfl rfl (by omega) (by omega) (by omega)) (show _=iH (ak s) i (bw (ak s) (i+1)) from kC s i _)) rfl ?_;refine aJ (ev aa rfl) rfl ?_;refine CH.nil ?_;refine qs ?_;iterate 2 refine W.seq ?_
    refine W.region ?_;iterate 2 refine pE rfl ?_
    refine WO.nil (qs (ab rfl (fun U=>?_) (fun U=>?_)));·
     have M:=X;rw[if_pos (of_decide_eq_true U)] at M;refine W.region (pE rfl (WO.nil (qs (W.seq (W.region (pE rfl (pu (ao rfl rfl rfl (gn _ (by first | (rw[show(B #[48]).size=1 from rfl];omega) | (rw[←kC,ByteArray.size_extract];omega))) rfl) rfl ?_)))))));iterate 5 refine pE rfl ?_
     refine WO.nil (qs ?_);iterate 2 refine W.seq ?_
     refine W.region ?_;iterate 2 refine pE rfl ?_
     refine WO.nil (qs (ab rfl (fun J=>?_) (fun J=>?_)));·
      have I:dH (ak s) i=.no i 2:=by rw[M];unfold gD;rw[if_neg (by simpa using J)]
      refine W.region (pE rfl (ca [] [] rfl rfl rfl rfl rfl (cM i 2) rfl rfl (by rfl) (fun st'=>?_)));repeat' refine b4 ?_
      exact cg (aN I)
     have I:=M;unfold gD at I;rw[if_pos (by simpa using J)] at I;refine W.skip (qs (W.seq (W.region (pE rfl (pu (build aa rfl rfl rfl rfl) rfl ?_)))));try refine gf 84 rfl rfl rfl ?_
     refine ar aa rfl rfl rfl rfl rfl rfl rfl rfl (WO.nil (qs (W.ret (cV (aV (I)) ?_))));refine b7.end aa [] trivial rfl rfl rfl rfl ?_ ?_;·exact⟨rfl,trivial⟩
     rfl
    have M:=X;rw[if_neg (of_decide_eq_false U)] at M;refine W.skip (qs (W.seq (W.region (pE rfl (pu (ao rfl rfl rfl (gn _ (by first | (rw[show(B #[48]).size=1 from rfl];omega) | (rw[←kC,ByteArray.size_extract];omega))) rfl) rfl ?_)))));iterate 5 refine pE rfl ?_
    refine WO.nil (qs ?_);iterate 2 refine W.seq ?_
    refine W.region ?_;iterate 2 refine pE rfl ?_
    refine WO.nil (qs (ab rfl (fun J=>?_) (fun J=>?_)));·
     have I:dH (ak s) i=.no i 2:=by rw[M];unfold gD;rw[if_neg (by simpa using J)]
     refine W.region (pE rfl (ca [] [] rfl rfl rfl rfl rfl (cM i 2) rfl rfl (by rfl) (fun st'=>?_)));repeat' refine b4 ?_
     exact cg (aN I)
    have I:=M;unfold gD at I;rw[if_pos (by simpa using J)] at I;refine W.skip (qs (W.seq (W.region (pE rfl (pu (build aa rfl rfl rfl rfl) rfl ?_)))));try refine gf 84 rfl rfl rfl ?_
    refine ar aa rfl rfl rfl rfl rfl rfl rfl rfl (WO.nil (qs (W.ret (cV (aV (I)) ?_))));refine b7.end aa [] trivial rfl rfl rfl rfl ?_ ?_;·exact⟨rfl,trivial⟩
    rfl
   have N:aq (ak s) (i+1)≠48:=by intro q;rw[q] at Z;simp at Z
   refine W.skip (be (qs (W.region (pE rfl (aK [0] [] rfl rfl rfl rfl rfl ((gM s (j+1))) rfl rfl (by rfl) (by rfl) rfl rfl rfl rfl ?_)))));refine pE rfl (WO.nil (W.bt [0,1] ⟨j+1,?_⟩ ?_ rfl ?_ ⟨rfl,rfl,rfl,rfl,trivial⟩ ?_ ⟨rfl,rfl,trivial⟩ rfl));·exact⟨by omega,by omega,.inr N,fun q=>by rw[←a1 q,tf (by rw[au];exact b0) hd]⟩
   ·dsimp only;omega
   ·repeat' first | exact trivial | refine⟨rfl,?_⟩
   repeat' first | exact trivial | refine⟨rfl,?_⟩
  have hd:dE (aq (ak s) j)=false:=by
   cases q:dE (aq (ak s) j) with
   | false=>rfl
   | true=>rw[oU] at q;revert ai;simp;omega
  have N:aq (ak s) (i+1)≠48:=by
   rcases aj with e | e
   ·rw[←e];intro q;rw[q] at hd;exact absurd hd (by decide)
   exact e
  have hE:bw (ak s) (i+1)=j:=by unfold bw;rw[if_neg N,←a1 N,tE hd]
  subst hE;refine W.exit (aW (aT (aS (qs ?_))));iterate 2 refine W.seq ?_
  refine W.region ?_;iterate 3 refine pE rfl ?_
  refine pE rfl ?_;iterate 2 refine pE rfl ?_
  refine WO.nil (qs (ab rfl (fun O=>?_) (fun O=>?_)));·
   have q:bw (ak s) (i+1)=(i+1):=by have:=of_decide_eq_true O;omega
   have M:dH (ak s) i=.no (bw (ak s) (i+1)) 10:=by rw[X];unfold kG;rw[if_pos q,q]
   refine W.region ?_;iterate 3 refine pE rfl ?_
   refine pE rfl (ca [] [] rfl rfl rfl rfl rfl (cM (bw (ak s) (i+1)) 10) rfl rfl (by rfl) (fun st'=>?_));repeat' refine b4 ?_
   exact cg (aN M)
  have q:¬ bw (ak s) (i+1)=(i+1):=by have:=of_decide_eq_false O;omega
  unfold kG at X;rw[if_neg q] at X;refine W.skip (qs (W.seq (W.ey aa (by kernel_rfl) ?_)));iterate 3 refine aJ (ev aa rfl) rfl ?_
  refine aJ (ev aa rfl) rfl ?_;iterate 4 refine aJ (ev aa rfl) rfl ?_
  refine aJ (ev aa rfl) rfl ?_;refine aJ (C0 (mx (l:=(i:Int)) (h:=((bw (ak s) (i+1):Nat):Int)) aa rfl rfl rfl rfl rfl (by omega) (by omega) (by omega)) (show _=iH (ak s) i (bw (ak s) (i+1)) from kC s i _)) rfl ?_;refine aJ (ev aa rfl) rfl ?_;refine CH.nil ?_;refine qs ?_;iterate 2 refine W.seq ?_
  refine W.region ?_;iterate 2 refine pE rfl ?_
  refine WO.nil (qs (ab rfl (fun U=>?_) (fun U=>?_)));·
   have M:=X;rw[if_pos (of_decide_eq_true U)] at M;refine W.region (pE rfl (WO.nil (qs (W.seq (W.region (pE rfl (pu (ao rfl rfl rfl (gn _ (by first | (rw[show(B #[48]).size=1 from rfl];omega) | (rw[←kC,ByteArray.size_extract];omega))) rfl) rfl ?_)))))));iterate 5 refine pE rfl ?_
   refine WO.nil (qs ?_);iterate 2 refine W.seq ?_
   refine W.region ?_;iterate 2 refine pE rfl ?_
   refine WO.nil (qs (ab rfl (fun J=>?_) (fun J=>?_)));·
    have I:dH (ak s) i=.no i 2:=by rw[M];unfold gD;rw[if_neg (by simpa using J)]
    refine W.region (pE rfl (ca [] [] rfl rfl rfl rfl rfl (cM i 2) rfl rfl (by rfl) (fun st'=>?_)));repeat' refine b4 ?_
    exact cg (aN I)
   have I:=M;unfold gD at I;rw[if_pos (by simpa using J)] at I;refine W.skip (qs (W.seq (W.region (pE rfl (pu (build aa rfl rfl rfl rfl) rfl ?_)))));try refine gf 84 rfl rfl rfl ?_
   refine ar aa rfl rfl rfl rfl rfl rfl rfl rfl (WO.nil (qs (W.ret (cV (aV (I)) ?_))));refine b7.end aa [] trivial rfl rfl rfl rfl ?_ ?_;·exact⟨rfl,trivial⟩
   rfl
  have M:=X;rw[if_neg (of_decide_eq_false U)] at M;refine W.skip (qs (W.seq (W.region (pE rfl (pu (ao rfl rfl rfl (gn _ (by first | (rw[show(B #[48]).size=1 from rfl];omega) | (rw[←kC,ByteArray.size_extract];omega))) rfl) rfl ?_)))));iterate 5 refine pE rfl ?_
  refine WO.nil (qs ?_);iterate 2 refine W.seq ?_
  refine W.region ?_;iterate 2 refine pE rfl ?_
  refine WO.nil (qs (ab rfl (fun J=>?_) (fun J=>?_)));·
   have I:dH (ak s) i=.no i 2:=by rw[M];unfold gD;rw[if_neg (by simpa using J)]
   refine W.region (pE rfl (ca [] [] rfl rfl rfl rfl rfl (cM i 2) rfl rfl (by rfl) (fun st'=>?_)));repeat' refine b4 ?_
   exact cg (aN I)
  have I:=M;unfold gD at I;rw[if_pos (by simpa using J)] at I;refine W.skip (qs (W.seq (W.region (pE rfl (pu (build aa rfl rfl rfl rfl) rfl ?_)))));try refine gf 84 rfl rfl rfl ?_
  refine ar aa rfl rfl rfl rfl rfl rfl rfl rfl (WO.nil (qs (W.ret (cV (aV (I)) ?_))));refine b7.end aa [] trivial rfl rfl rfl rfl ?_ ?_;·exact⟨rfl,trivial⟩
  rfl
 exfalso;rw[hm] at ad;simp at ad
theorem xW (s:ByteArray) (i:Nat) (hi:i≤s.size) (hs:s.size≤1000000000) (hm:¬ aq (ak s) i=45):cL Tryz.prog 118 [.ptr 0 0] [eB s i] 0 (gH 128 s (fun v:JV=>.ag v.c) (dH (ak s) i)):=by
 have X:=D7 (l:=ak s) (i:=i) hm;have a6:=nG (l:=ak s) (i:=i) (by rw[au];omega);rw[au] at a6;refine cL.cX aa (n:=85) (rs:=[.cell 2 46]) Tryz.func118 (by kernel_rfl) rfl Tryz.ntmps118 Tryz.results118 rfl (fv ..) fun C hC hG=>?_;refine W.seq (W.region (aQ aa rfl rfl rfl (WO.nil (qs (W.seq (W.region ?_))))));iterate 3 refine pE rfl ?_
 refine pE rfl (pE rfl (WO.nil (qs ?_)));iterate 2 refine W.seq ?_
 refine W.region (pE rfl (aK [0] [] rfl rfl rfl rfl rfl ((gM s i)) rfl rfl (by rfl) (by rfl) rfl rfl rfl rfl ?_));refine pE rfl (WO.nil (qs (ab rfl (fun ai=>?_) (fun ai=>?_))));·exfalso;exact hm (iL (n:=45) (by decide) (of_decide_eq_true ai))
 refine W.skip (qs (W.seq (W.region ?_)));iterate 3 refine pE rfl ?_
 refine pE rfl (pE rfl (WO.nil (qs ?_)));iterate 2 refine W.seq ?_
 refine W.region (pE rfl (aK [0] [] rfl rfl rfl rfl rfl ((gM s i)) rfl rfl (by rfl) (by rfl) rfl rfl rfl rfl ?_));refine pE rfl (WO.nil (qs (W.block ?_)))
 refine W.bh (ι:={x:Nat // match x with | j=>i≤j∧j≤s.size∧(j=i∨aq (ak s) i≠48)∧(aq (ak s) i≠48→gQ (ak s) ((ak s).length - j) j=gQ (ak s) ((ak s).length - i) i)})
  (fun x=>match x.1 with | j=>[(0,.ptr 0 0),(2,.ptr 1 0),(5,.d (.v (.int .u8 (aq (ak s) j).toNat)))]) [(3,_),(4,_)]
  (fun x=>match x.1 with | j=>[(0,[.d (cs s),.d (.v (.int .i64 (j:Int)))])]) [(1,_)] [] 2 (fun x=>match x.1 with | j=>s.size - j)
  [0,1] ⟨i,?_⟩ rfl ?_ ⟨rfl,rfl,rfl,rfl,trivial⟩ ?_ ⟨rfl,rfl,trivial⟩ rfl ?_
 ·exact⟨Nat.le_refl _,hi,.inl rfl,fun _=>rfl⟩
 ·repeat' first | exact trivial | refine⟨rfl,?_⟩
 ·repeat' first | exact trivial | refine⟨rfl,?_⟩
 rintro⟨j,b0,b2,aj,a1⟩;show W _ _ _ _ _ ⟨[(0,.ptr 0 0),(2,.ptr 1 0),(5,.d (.v (.int .u8 (aq (ak s) j).toNat))),(3,_),(4,_)],[(0,[.d (cs s),.d (.v (.int .i64 (j:Int)))]),(1,_)],[],2⟩;iterate 2 refine W.seq ?_
 apply aG;(case hb=>rfl);·
  iterate 3 refine pE rfl ?_
  apply fJ;(case hj=>rfl);(case hl=>rfl);·
   intro a7;refine aH rfl rfl (pE rfl (aH rfl rfl ?_));iterate 2 refine pE rfl ?_
   refine WO.nil (bg rfl rfl rfl)
  intro a7;iterate 2 refine aE rfl rfl rfl rfl ?_
  refine pE rfl (WO.nil (bg rfl rfl rfl))
 refine qs (ab rfl (fun ad=>?_) (fun ad=>?_));·
  have hd:dE (aq (ak s) j)=true:=by rw[oU];revert ad;simp;omega
  have a8:j < s.size:=by have:=b9 (l:=ak s) (i:=j) (by intro q;rw[q] at hd;exact absurd hd (by decide));rwa [au] at this
  refine W.skip (qs (W.seq (W.block (W.seq (W.region ?_)))));iterate 3 refine pE rfl ?_
  refine pE rfl (pu (cU (ev aa rfl) (y:=((j+1:Nat):Int)) (wrap64 (by omega))) rfl ?_);iterate 2 refine pE rfl ?_
  refine ar aa rfl rfl rfl rfl rfl rfl rfl rfl (WO.nil (qs (W.seq (W.region ?_))));iterate 3 refine pE rfl ?_
  refine pE rfl (pE rfl (pu (db aa rfl rfl rfl rfl (Int.natCast_nonneg _) (eZ (mC (s:=s) (i:=i) (by omega)))) rfl ?_));refine pE rfl (WO.nil (qs (ab rfl (fun Z=>?_) (fun Z=>?_))));·
   have N:aq (ak s) i=48:=iL (n:=48) (by decide) (of_decide_eq_true Z);have hE:j+1=bw (ak s) i:=by
    unfold bw;rw[if_pos N];rcases aj with e | e
    ·rw[e]
    exact absurd N e
   rw[hE];refine W.exit (w8 rfl ?_);refine aW (aT (aS (qs ?_)));iterate 2 refine W.seq ?_
   refine W.region ?_;iterate 3 refine pE rfl ?_
   refine pE rfl ?_;iterate 2 refine pE rfl ?_
   refine WO.nil (qs (ab rfl (fun O=>?_) (fun O=>?_)));·
    have q:bw (ak s) i=i:=by have:=of_decide_eq_true O;omega
    have M:dH (ak s) i=.no (bw (ak s) i) 10:=by rw[X];unfold kG;rw[if_pos q,q]
    refine W.region ?_;iterate 3 refine pE rfl ?_
    refine pE rfl (ca [] [] rfl rfl rfl rfl rfl (cM (bw (ak s) i) 10) rfl rfl (by rfl) (fun st'=>?_));repeat' refine b4 ?_
    exact cg (aN M)
   have q:¬ bw (ak s) i=i:=by have:=of_decide_eq_false O;omega
   unfold kG at X;rw[if_neg q] at X;refine W.skip (qs (W.seq (W.ey aa (by kernel_rfl) ?_)));iterate 3 refine aJ (ev aa rfl) rfl ?_
   refine aJ (ev aa rfl) rfl ?_;iterate 4 refine aJ (ev aa rfl) rfl ?_
   refine aJ (ev aa rfl) rfl ?_;refine aJ (C0 (mx (l:=(i:Int)) (h:=((bw (ak s) i:Nat):Int)) aa rfl rfl rfl rfl rfl (by omega) (by omega) (by omega)) (show _=iH (ak s) i (bw (ak s) i) from kC s i _)) rfl ?_;refine aJ (ev aa rfl) rfl ?_;refine CH.nil ?_;refine qs ?_;iterate 2 refine W.seq ?_
   refine W.region ?_;iterate 2 refine pE rfl ?_
   refine WO.nil (qs (ab rfl (fun U=>?_) (fun U=>?_)));·
    have M:=X;rw[if_pos (of_decide_eq_true U)] at M;refine W.region (pE rfl (WO.nil (qs (W.seq (W.region (pE rfl (pu (ao rfl rfl rfl (gn _ (by first | (rw[show(B #[48]).size=1 from rfl];omega) | (rw[←kC,ByteArray.size_extract];omega))) rfl) rfl ?_)))))));iterate 5 refine pE rfl ?_
    refine WO.nil (qs ?_);iterate 2 refine W.seq ?_
    refine W.region ?_;iterate 2 refine pE rfl ?_
    refine WO.nil (qs (ab rfl (fun J=>?_) (fun J=>?_)));·
     have I:dH (ak s) i=.no i 2:=by rw[M];unfold gD;rw[if_neg (by simpa using J)]
     refine W.region (pE rfl (ca [] [] rfl rfl rfl rfl rfl (cM i 2) rfl rfl (by rfl) (fun st'=>?_)));repeat' refine b4 ?_
     exact cg (aN I)
    have I:=M;unfold gD at I;rw[if_pos (by simpa using J)] at I;refine W.skip (qs (W.seq (W.region (pE rfl (pu (build aa rfl rfl rfl rfl) rfl ?_)))));try refine gf 84 rfl rfl rfl ?_
    refine ar aa rfl rfl rfl rfl rfl rfl rfl rfl (WO.nil (qs (W.ret (cV (aV (I)) ?_))));refine b7.end aa [] trivial rfl rfl rfl rfl ?_ ?_;·exact⟨rfl,trivial⟩
    rfl
   have M:=X;rw[if_neg (of_decide_eq_false U)] at M;refine W.skip (qs (W.seq (W.region (pE rfl (pu (ao rfl rfl rfl (gn _ (by first | (rw[show(B #[48]).size=1 from rfl];omega) | (rw[←kC,ByteArray.size_extract];omega))) rfl) rfl ?_)))));iterate 5 refine pE rfl ?_
   refine WO.nil (qs ?_);iterate 2 refine W.seq ?_
   refine W.region ?_;iterate 2 refine pE rfl ?_
   refine WO.nil (qs (ab rfl (fun J=>?_) (fun J=>?_)));·
    have I:dH (ak s) i=.no i 2:=by rw[M];unfold gD;rw[if_neg (by simpa using J)]
    refine W.region (pE rfl (ca [] [] rfl rfl rfl rfl rfl (cM i 2) rfl rfl (by rfl) (fun st'=>?_)));repeat' refine b4 ?_
    exact cg (aN I)
   have I:=M;unfold gD at I;rw[if_pos (by simpa using J)] at I;refine W.skip (qs (W.seq (W.region (pE rfl (pu (build aa rfl rfl rfl rfl) rfl ?_)))));try refine gf 84 rfl rfl rfl ?_
   refine ar aa rfl rfl rfl rfl rfl rfl rfl rfl (WO.nil (qs (W.ret (cV (aV (I)) ?_))));refine b7.end aa [] trivial rfl rfl rfl rfl ?_ ?_;·exact⟨rfl,trivial⟩
   rfl
  have N:aq (ak s) i≠48:=by intro q;rw[q] at Z;simp at Z
  refine W.skip (be (qs (W.region (pE rfl (aK [0] [] rfl rfl rfl rfl rfl ((gM s (j+1))) rfl rfl (by rfl) (by rfl) rfl rfl rfl rfl ?_)))));refine pE rfl (WO.nil (W.bt [0,1] ⟨j+1,?_⟩ ?_ rfl ?_ ⟨rfl,rfl,rfl,rfl,trivial⟩ ?_ ⟨rfl,rfl,trivial⟩ rfl));·exact⟨by omega,by omega,.inr N,fun q=>by rw[←a1 q,tf (by rw[au];exact a8) hd]⟩
  ·dsimp only;omega
  ·repeat' first | exact trivial | refine⟨rfl,?_⟩
  repeat' first | exact trivial | refine⟨rfl,?_⟩
 have hd:dE (aq (ak s) j)=false:=by
  cases q:dE (aq (ak s) j) with
  | false=>rfl
  | true=>rw[oU] at q;revert ad;simp;omega
 have N:aq (ak s) i≠48:=by
  rcases aj with e | e
  ·rw[←e];intro q;rw[q] at hd;exact absurd hd (by decide)
  exact e
 have hE:bw (ak s) i=j:=by unfold bw;rw[if_neg N,←a1 N,tE hd]
 subst hE;refine W.exit (aW (aT (aS (qs ?_))));iterate 2 refine W.seq ?_
 refine W.region ?_;iterate 3 refine pE rfl ?_
 refine pE rfl ?_;iterate 2 refine pE rfl ?_
 refine WO.nil (qs (ab rfl (fun O=>?_) (fun O=>?_)));·
  have q:bw (ak s) i=i:=by have:=of_decide_eq_true O;omega
  have M:dH (ak s) i=.no (bw (ak s) i) 10:=by rw[X];unfold kG;rw[if_pos q,q]
  refine W.region ?_;iterate 3 refine pE rfl ?_
  refine pE rfl (ca [] [] rfl rfl rfl rfl rfl (cM (bw (ak s) i) 10) rfl rfl (by rfl) (fun st'=>?_));repeat' refine b4 ?_
  exact cg (aN M)
 have q:¬ bw (ak s) i=i:=by have:=of_decide_eq_false O;omega
 unfold kG at X;rw[if_neg q] at X;refine W.skip (qs (W.seq (W.ey aa (by kernel_rfl) ?_)));iterate 3 refine aJ (ev aa rfl) rfl ?_
 refine aJ (ev aa rfl) rfl ?_;iterate 4 refine aJ (ev aa rfl) rfl ?_
 refine aJ (ev aa rfl) rfl ?_;refine aJ (C0 (mx (l:=(i:Int)) (h:=((bw (ak s) i:Nat):Int)) aa rfl rfl rfl rfl rfl (by omega) (by omega) (by omega)) (show _=iH (ak s) i (bw (ak s) i) from kC s i _)) rfl ?_;refine aJ (ev aa rfl) rfl ?_;refine CH.nil ?_;refine qs ?_;iterate 2 refine W.seq ?_
 refine W.region ?_;iterate 2 refine pE rfl ?_
 refine WO.nil (qs (ab rfl (fun U=>?_) (fun U=>?_)));·
  have M:=X;rw[if_pos (of_decide_eq_true U)] at M;refine W.region (pE rfl (WO.nil (qs (W.seq (W.region (pE rfl (pu (ao rfl rfl rfl (gn _ (by first | (rw[show(B #[48]).size=1 from rfl];omega) | (rw[←kC,ByteArray.size_extract];omega))) rfl) rfl ?_)))))));iterate 5 refine pE rfl ?_
  refine WO.nil (qs ?_);iterate 2 refine W.seq ?_
  refine W.region ?_;iterate 2 refine pE rfl ?_
  refine WO.nil (qs (ab rfl (fun J=>?_) (fun J=>?_)));·
   have I:dH (ak s) i=.no i 2:=by rw[M];unfold gD;rw[if_neg (by simpa using J)]
   refine W.region (pE rfl (ca [] [] rfl rfl rfl rfl rfl (cM i 2) rfl rfl (by rfl) (fun st'=>?_)));repeat' refine b4 ?_
   exact cg (aN I)
  have I:=M;unfold gD at I;rw[if_pos (by simpa using J)] at I;refine W.skip (qs (W.seq (W.region (pE rfl (pu (build aa rfl rfl rfl rfl) rfl ?_)))));try refine gf 84 rfl rfl rfl ?_
  refine ar aa rfl rfl rfl rfl rfl rfl rfl rfl (WO.nil (qs (W.ret (cV (aV (I)) ?_))));refine b7.end aa [] trivial rfl rfl rfl rfl ?_ ?_;·exact⟨rfl,trivial⟩
  rfl
 have M:=X;rw[if_neg (of_decide_eq_false U)] at M;refine W.skip (qs (W.seq (W.region (pE rfl (pu (ao rfl rfl rfl (gn _ (by first | (rw[show(B #[48]).size=1 from rfl];omega) | (rw[←kC,ByteArray.size_extract];omega))) rfl) rfl ?_)))));iterate 5 refine pE rfl ?_
 refine WO.nil (qs ?_);iterate 2 refine W.seq ?_
 refine W.region ?_;iterate 2 refine pE rfl ?_
 refine WO.nil (qs (ab rfl (fun J=>?_) (fun J=>?_)));·
  have I:dH (ak s) i=.no i 2:=by rw[M];unfold gD;rw[if_neg (by simpa using J)]
  refine W.region (pE rfl (ca [] [] rfl rfl rfl rfl rfl (cM i 2) rfl rfl (by rfl) (fun st'=>?_)));repeat' refine b4 ?_
  exact cg (aN I)
 have I:=M;unfold gD at I;rw[if_pos (by simpa using J)] at I;refine W.skip (qs (W.seq (W.region (pE rfl (pu (build aa rfl rfl rfl rfl) rfl ?_)))));try refine gf 84 rfl rfl rfl ?_
 refine ar aa rfl rfl rfl rfl rfl rfl rfl rfl (WO.nil (qs (W.ret (cV (aV (I)) ?_))));refine b7.end aa [] trivial rfl rfl rfl rfl ?_ ?_;·exact⟨rfl,trivial⟩
 rfl
theorem qY (s:ByteArray) (i:Nat) (hi:i≤s.size) (hs:s.size≤1000000000):cL Tryz.prog 118 [.ptr 0 0] [eB s i] 0 (gH 128 s (fun v:JV=>.ag v.c) (dH (ak s) i)):=by
 by_cases hm:aq (ak s) i=45;·exact yY s i hi hs hm
 exact xW s i hi hs hm
end Go.Proofs.YtpiaiiopakafhaaGreatDoor
namespace Go.Proofs.YtpiaiiopakafhaaGreatDoor
open Go.Ab Go.Tb
set_option maxRecDepth 10000
set_option maxHeartbeats 1000000
attribute [local irreducible] W WO Pu QS QB QL QF QV bA CH QE
theorem AV {l:List UInt8} {k i:Nat} {acc:List UInt8} (h1:¬ ((aq l i).toNat < 32∨126 < (aq l i).toNat)) (h2:aq l i≠34) (h3:aq l i≠92):cI l (k+1) i acc=cI l k (i+1) (acc++[aq l i]):=by rw[cI,if_neg h1,if_neg h2,if_neg h3]
theorem Cw {l:List UInt8} {k i:Nat} {acc:List UInt8} (h3:aq l i=92):cI l (k+1) i acc=match dU l (i+1) with | .no a w=>.no a w | .ok c j=>cI l k j (acc++[c]):=by rw[cI,h3];rfl
theorem BW {l:List UInt8} {k i:Nat} {acc:List UInt8} (h3:aq l i=34):cI l (k+1) i acc=.ok acc (i+1):=by rw[cI,h3];rfl
theorem DJ {l:List UInt8} {k i:Nat} {acc:List UInt8} (h1:(aq l i).toNat < 32∨126 < (aq l i).toNat):cI l (k+1) i acc=.no i 10:=by rw[cI,if_pos h1]
theorem Fk (a:List UInt8) (b:UInt8):bytesOf a++bytesOf [b]=bytesOf (a++[b]):=jc (by show ak _=ak _;rw[gZ,gL,gL])
theorem mY (s:ByteArray) (i:Nat) (hi:i≤s.size) (hs:s.size≤1000000000):cL Tryz.prog 115 [.ptr 0 0] [eB s i] 0 (gH 128 s (fun t:List UInt8=>.d (.v (.string (bytesOf t)))) (dk (ak s) i)):=by
 refine cL.tT aa (n:=53) (rs:=[.tmp 2]) Tryz.func115 (by kernel_rfl) rfl Tryz.ntmps115 Tryz.results115 rfl (fv ..) fun C hC hG aj a1=>?_;refine W.seq (W.region (pE rfl (WO.nil (qs (W.seq (W.region (pE rfl ?_)))))))
 cases hc6:bG (ak s) 34 i with
 | no a6 w6=>
  refine ca [0] [] rfl rfl rfl rfl rfl ((iX s 34 i hs).fu (aN hc6)) rfl rfl (by rfl) (fun st'=>?_);repeat' refine b4 ?_
  refine cg (aN (by unfold dk;rw[hc6]))
 | ok y6 i6=>
  refine aK [0] [] rfl rfl rfl rfl rfl ((iX s 34 i hs).ret (aV hc6)) rfl rfl (by rfl) (by rfl) rfl rfl rfl rfl ?_;have hg:dk (ak s) i=cI (ak s) ((ak s).length+1 - i6) i6 []:=by unfold dk;rw[hc6]
  have U:=hU (l:=ak s) (c:=34) (i:=i) (by rw[au];exact hi);rw[hc6] at U;refine WO.nil (qs (W.seq (W.region (AA aa tU rfl rfl rfl ?_))));refine WO.nil (qs (W.block ?_))
  refine W.bh (ι:={x:Nat×List UInt8×Bool // match x with | (j,acc,u)=>j≤s.size∧acc.length≤j∧∃ J,(ak s).length≤J+j∧cI (ak s) (J+1) j acc=dk (ak s) i})
   (fun x=>match x.1 with | (j,acc,u)=>[(0,.ptr 0 0),(3,.ptr 1 0)]) []
   (fun x=>match x.1 with | (j,acc,u)=>[(0,[.d (cs s),.d (.v (.int .i64 (j:Int)))]),(1,[.np 1 tB u,.bf 2 tU (bytesOf acc)])]) [] [2] 3 (fun x=>match x.1 with | (j,acc,u)=>s.size - j)
   [0,2,3] ⟨(i6,[],false),?_⟩ rfl ?_ trivial ?_ trivial rfl ?_
  ·exact⟨by have:=U.2;rwa [au] at this,Nat.zero_le _,(ak s).length - i6,by omega,by rw[hg,show(ak s).length+1 - i6=(ak s).length - i6+1 by have:=U.2;omega]⟩
  ·repeat' first | exact trivial | refine⟨rfl,?_⟩
  ·repeat' first | exact trivial | refine⟨rfl,?_⟩
  rintro⟨⟨j,acc,u⟩,hj,ha,hX⟩;show W _ _ _ _ _ ⟨[(0,.ptr 0 0),(3,.ptr 1 0)],[(0,[.d (cs s),.d (.v (.int .i64 (j:Int)))]),(1,[.np 1 tB u,.bf 2 tU (bytesOf acc)])],[2],3⟩;refine W.block (W.seq ?_);obtain⟨J,ad,Z⟩:=hX;refine W.region (pE rfl (aK [0] [] rfl rfl rfl rfl rfl ((gM s j)) rfl rfl (by rfl) (by rfl) rfl rfl rfl rfl ?_));refine pE rfl (WO.nil (qs (W.seq (W.block (W.seq ?_)))));apply aG;(case hb=>rfl);·repeat' first | refine bg rfl rfl rfl | refine aH rfl rfl ?_ | refine aE rfl rfl rfl rfl ?_ | refine pE rfl ?_ | refine WO.nil ?_ | (apply aP;(case hj=>rfl);(case hl=>rfl))
  refine qs (ab rfl (fun X=>?_) (fun X=>?_));·
   have q:(aq (ak s) j).toNat < 32∨126 < (aq (ak s) j).toNat:=by revert X;simp;omega
   have hx:dk (ak s) i=.no j 10:=by rw[←Z,DJ q]
   refine W.region ?_;iterate 3 refine pE rfl ?_
   refine pE rfl (ca [] [] rfl rfl rfl rfl rfl (cM j 10) rfl rfl (by rfl) (fun st'=>?_));repeat' first | refine b4 ?_ | refine fz ?_ | refine jt ?_
   exact cg (aN hx)
  have q:¬ ((aq (ak s) j).toNat < 32∨126 < (aq (ak s) j).toNat):=by revert X;simp;omega
  have a8:j < s.size:=by have:=b9 (l:=ak s) (i:=j) (by intro e;rw[e] at q;exact q (.inl (by decide)));rwa [au] at this
  refine W.seq (W.region ?_);iterate 3 refine pE rfl ?_
  refine WO.nil (qs (ab rfl (fun M=>?_) (fun M=>?_)));·
   have hx:dk (ak s) i=.ok acc (j+1):=by rw[←Z,BW (iL (n:=34) (by decide) (of_decide_eq_true M))]
   refine W.seq (W.region ?_);iterate 3 refine pE rfl ?_
   refine pE rfl (pu (cU (ev aa rfl) (y:=((j+1:Nat):Int)) (wrap64 (by omega))) rfl ?_);iterate 2 refine pE rfl ?_
   refine ar aa rfl rfl rfl rfl rfl rfl rfl rfl (WO.nil (qs (W.seq (W.region (C6 (aj rfl) a1 rfl rfl rfl rfl Ar xC (by rw[rf];simp only[maxLen];omega) rfl rfl ?_)))));refine pE rfl (WO.nil (qs (W.ret (aC (an (aC (cn (aC (cV (aV (hx)) ?_)))))))));refine b7.end aa [] trivial rfl rfl rfl rfl ?_ ?_;·exact⟨rfl,trivial⟩
   rfl
  have q2:aq (ak s) j≠34:=by intro e;rw[e] at M;simp at M
  refine W.seq (W.region ?_);iterate 3 refine pE rfl ?_
  refine WO.nil (qs (ab rfl (fun N=>?_) (fun N=>?_)));·
   have I:=Z;rw[Cw (iL (n:=92) (by decide) (of_decide_eq_true N))] at I;have ai:=su (l:=ak s) (i:=j+1) (by rw[au];omega);refine W.seq (W.region ?_);iterate 3 refine pE rfl ?_
   refine pE rfl (pu (cU (ev aa rfl) (y:=((j+1:Nat):Int)) (wrap64 (by omega))) rfl ?_);iterate 2 refine pE rfl ?_
   refine ar aa rfl rfl rfl rfl rfl rfl rfl rfl (WO.nil (qs (W.region (pE rfl ?_))))
   cases hc50:dU (ak s) (j+1) with
   | no b0 b2=>
    refine ca [0] [] rfl rfl rfl rfl rfl ((tL s (j+1) (by omega) hs).fu (aN hc50)) rfl rfl (by rfl) (fun st'=>?_);repeat' first | refine b4 ?_ | refine fz ?_ | refine jt ?_
    refine cg (aN (by rw[←I,hc50]))
   | ok O i50=>
    refine aK [0] [] rfl rfl rfl rfl rfl ((tL s (j+1) (by omega) hs).ret (aV hc50)) rfl rfl (by rfl) (by rfl) rfl rfl rfl rfl ?_;rw[hc50] at I ai;have a7:j+1 < i50∧i50≤s.size:=by have:=ai;rw[←au s];exact this
    have hW:=eo (u:=u) (s:=bytesOf acc) (m:=bytesOf [O]) (r:=bytesOf (acc++[O])) (c:=O.toNat) (Fk ..) rfl (eL _).2 (by rw[rf];omega);refine pE rfl (WO.nil (be (qs (W.region (pE rfl (aK [1] [2] rfl rfl rfl rfl rfl hW rfl rfl (by rfl) (by rfl) rfl rfl rfl rfl ?_))))));refine WO.nil (be (W.bt [0,1,6] ⟨(i50,acc++[O],true),?_⟩ ?_ rfl ?_ trivial ?_ trivial rfl));·
     obtain⟨k2,rfl⟩:∃ k2,J=k2+1:=⟨J - 1,by rw[au] at ad;omega⟩;exact⟨by omega,by rw[List.length_append,List.length_singleton];omega,k2,by omega,I⟩
    ·dsimp only;omega
    ·repeat' first | exact trivial | refine⟨rfl,?_⟩
    repeat' first | exact trivial | refine⟨rfl,?_⟩
  have q3:aq (ak s) j≠92:=by intro e;rw[e] at N;simp at N
  have I:=Z;rw[AV q q2 q3] at I;have hW:=eo (u:=u) (s:=bytesOf acc) (m:=bytesOf [aq (ak s) j]) (r:=bytesOf (acc++[aq (ak s) j])) (c:=(aq (ak s) j).toNat) (Fk ..) rfl (eL _).2 (by rw[rf];omega);refine W.region ?_;iterate 3 refine pE rfl ?_
  refine pE rfl (pu (cU (ev aa rfl) (y:=((j+1:Nat):Int)) (wrap64 (by omega))) rfl ?_);iterate 2 refine pE rfl ?_
  refine ar aa rfl rfl rfl rfl rfl rfl rfl rfl (WO.nil (be (qs (W.region (pE rfl (aK [1] [2] rfl rfl rfl rfl rfl hW rfl rfl (by rfl) (by rfl) rfl rfl rfl rfl ?_))))));refine WO.nil (be (W.bt [0,1,5] ⟨(j+1,acc++[aq (ak s) j],true),?_⟩ ?_ rfl ?_ trivial ?_ trivial rfl));·
   obtain⟨k2,rfl⟩:∃ k2,J=k2+1:=⟨J - 1,by rw[au] at ad;omega⟩;exact⟨by omega,by rw[List.length_append,List.length_singleton];omega,k2,by omega,I⟩
  ·dsimp only;omega
  ·repeat' first | exact trivial | refine⟨rfl,?_⟩
  repeat' first | exact trivial | refine⟨rfl,?_⟩
end Go.Proofs.YtpiaiiopakafhaaGreatDoor
namespace Go.Proofs.YtpiaiiopakafhaaGreatDoor
open Go.Ab Go.Tb
set_option maxRecDepth 10000
set_option maxHeartbeats 1000000
attribute [local irreducible] W WO Pu QS QB QL QF QV bA CH QE
theorem Eb (l:List UInt8) (k:Nat) (level:Int) (i0:Nat):cA l (k+1) level i0 =
 if aq l (az l i0)=110 then (match b8 l lX (az l i0) with | .no a w=>.no a w | .ok _ j=>.ok (.mk 1 0 (B #[]) [] []) j)
 else if aq l (az l i0)=116 then (match b8 l ju (az l i0) with | .no a w=>.no a w | .ok _ j=>.ok (.mk 2 1 (B #[]) [] []) j)
 else if aq l (az l i0)=102 then (match b8 l ie (az l i0) with | .no a w=>.no a w | .ok _ j=>.ok (.mk 2 0 (B #[]) [] []) j)
 else if aq l (az l i0)=34 then (match dk l (az l i0) with | .no a w=>.no a w | .ok t j=>.ok (.mk 4 0 (bytesOf t) [] []) j)
 else if aq l (az l i0)=91∨aq l (az l i0)=123 then
  if 16 < level then .no (az l i0) 20
  else if aq l (az l i0)=91 then e9 l k level (az l i0+1) else fc l k level (az l i0+1)
 else dH l (az l i0):=by rw[cA]<;>rfl
theorem nr {c d:UInt8} (h:decide ((c.toNat:Int)=(d.toNat:Int))=false):c≠d:=by rintro rfl;simp at h
theorem kH {c d:UInt8} (h:decide ((c.toNat:Int)=(d.toNat:Int))=true):c=d:=UInt8.toNat_inj.1 (by have:=of_decide_eq_true h;omega)
theorem yL (s:ByteArray) (k:Nat) (hs:s.size≤1000000000) (level:Int) (i0:Nat) (hi:i0≤s.size)
 (hA:∀ i,i0 < i→i≤s.size→level≤16→cL Tryz.prog 116 [.ptr 0 0,.d (.v (.int .i64 level))] [eB s i] 0 (gH 128 s (fun v:JV=>.ag v.c) (e9 (ak s) k level i)))
 (hO:∀ i,i0 < i→i≤s.size→level≤16→cL Tryz.prog 117 [.ptr 0 0,.d (.v (.int .i64 level))] [eB s i] 0 (gH 128 s (fun v:JV=>.ag v.c) (fc (ak s) k level i))) :
 cL Tryz.prog 71 [.ptr 0 0,.d (.v (.int .i64 level))] [eB s i0] 0 (gH 128 s (fun v:JV=>.ag v.c) (cA (ak s) (k+1) level i0)):=by
 have hle:az (ak s) i0≤s.size:=by have:=bW (l:=ak s) (i:=i0) (by rw[au];exact hi);rwa [au] at this
 have ai:=bY (ak s) i0;have I:=Eb (ak s) k level i0;refine cL.cX aa (n:=63) (rs:=[.cell 4 46]) Tryz.func71 (by kernel_rfl) rfl Tryz.ntmps71 Tryz.results71 rfl (fv ..) fun C hC hG=>?_;refine W.seq (W.region (aQ aa rfl rfl rfl (WO.nil (qs ?_))));iterate 2 refine W.seq ?_
 refine W.region (pE rfl (aK [0] [] rfl rfl rfl rfl rfl ((jO s i0 hi hs)) rfl rfl (by rfl) (by rfl) rfl rfl rfl rfl ?_));refine pE rfl (WO.nil (qs (W.block (W.seq (W.region ?_)))));iterate 3 refine pE rfl ?_
 refine WO.nil (qs (ab rfl (fun Z=>?_) (fun Z=>?_)));·
  rw[if_pos (kH (d:=110) Z)] at I;refine W.seq (W.region (pE rfl ?_))
  cases hc12:b8 (ak s) lX (az (ak s) i0) with
  | no a12 aj=>
   refine ca [0] [] rfl rfl rfl rfl rfl ((jf s (B #[110,117,108,108]) (az (ak s) i0) hs).fu (aN hc12)) rfl rfl (by rfl) (fun st'=>?_);repeat' first | refine b4 ?_ | refine fz ?_
   refine cg (aN (by rw[I,hc12]))
  | ok a1 i12=>
   refine aK [0] [] rfl rfl rfl rfl rfl ((jf s (B #[110,117,108,108]) (az (ak s) i0) hs).ret (aV hc12)) rfl rfl (by rfl) (by rfl) rfl rfl rfl rfl ?_;refine WO.nil (qs (W.seq (W.region (pu (build aa rfl rfl rfl rfl) rfl ?_))));try refine gf 13 rfl rfl rfl ?_
   refine ar aa rfl rfl rfl rfl rfl rfl rfl rfl (WO.nil (qs (W.ret (aC (an (cV (aV ((by rw[I,hc12]))) ?_))))));refine b7.end aa [] trivial rfl rfl rfl rfl ?_ ?_;·exact⟨rfl,trivial⟩
   rfl
 rw[if_neg (nr (d:=110) Z)] at I;refine W.seq (W.region ?_);iterate 3 refine pE rfl ?_
 refine WO.nil (qs (ab rfl (fun M=>?_) (fun M=>?_)));·
  rw[if_pos (kH (d:=116) M)] at I;refine W.seq (W.region (pE rfl ?_))
  cases hc18:b8 (ak s) ju (az (ak s) i0) with
  | no a6 a7=>
   refine ca [0] [] rfl rfl rfl rfl rfl ((jf s (B #[116,114,117,101]) (az (ak s) i0) hs).fu (aN hc18)) rfl rfl (by rfl) (fun st'=>?_);repeat' first | refine b4 ?_ | refine fz ?_
   refine cg (aN (by rw[I,hc18]))
  | ok a8 i18=>
   refine aK [0] [] rfl rfl rfl rfl rfl ((jf s (B #[116,114,117,101]) (az (ak s) i0) hs).ret (aV hc18)) rfl rfl (by rfl) (by rfl) rfl rfl rfl rfl ?_;refine WO.nil (qs (W.seq (W.region (pu (build aa rfl rfl rfl rfl) rfl ?_))));try refine gf 19 rfl rfl rfl ?_
   refine ar aa rfl rfl rfl rfl rfl rfl rfl rfl (WO.nil (qs (W.ret (aC (an (cV (aV ((by rw[I,hc18]))) ?_))))));refine b7.end aa [] trivial rfl rfl rfl rfl ?_ ?_;·exact⟨rfl,trivial⟩
   rfl
 rw[if_neg (nr (d:=116) M)] at I;refine W.seq (W.region ?_);iterate 3 refine pE rfl ?_
 refine WO.nil (qs (ab rfl (fun N=>?_) (fun N=>?_)));·
  rw[if_pos (kH (d:=102) N)] at I;refine W.seq (W.region (pE rfl ?_))
  cases hc24:b8 (ak s) ie (az (ak s) i0) with
  | no a24 b0=>
   refine ca [0] [] rfl rfl rfl rfl rfl ((jf s (B #[102,97,108,115,101]) (az (ak s) i0) hs).fu (aN hc24)) rfl rfl (by rfl) (fun st'=>?_);repeat' first | refine b4 ?_ | refine fz ?_
   refine cg (aN (by rw[I,hc24]))
  | ok b2 i24=>
   refine aK [0] [] rfl rfl rfl rfl rfl ((jf s (B #[102,97,108,115,101]) (az (ak s) i0) hs).ret (aV hc24)) rfl rfl (by rfl) (by rfl) rfl rfl rfl rfl ?_;refine WO.nil (qs (W.seq (W.region (pu (build aa rfl rfl rfl rfl) rfl ?_))));try refine gf 25 rfl rfl rfl ?_
   refine ar aa rfl rfl rfl rfl rfl rfl rfl rfl (WO.nil (qs (W.ret (aC (an (cV (aV ((by rw[I,hc24]))) ?_))))));refine b7.end aa [] trivial rfl rfl rfl rfl ?_ ?_;·exact⟨rfl,trivial⟩
   rfl
 rw[if_neg (nr (d:=102) N)] at I;refine W.seq (W.region ?_);iterate 3 refine pE rfl ?_
 refine WO.nil (qs (ab rfl (fun O=>?_) (fun O=>?_)));·
  rw[if_pos (kH (d:=34) O)] at I;refine W.seq (W.region (pE rfl ?_))
  cases hc30:dk (ak s) (az (ak s) i0) with
  | no b3 ch=>
   refine ca [0] [] rfl rfl rfl rfl rfl ((mY s (az (ak s) i0) hle hs).fu (aN hc30)) rfl rfl (by rfl) (fun st'=>?_);repeat' first | refine b4 ?_ | refine fz ?_
   refine cg (aN (by rw[I,hc30]))
  | ok cj i30=>
   refine aK [0] [] rfl rfl rfl rfl rfl ((mY s (az (ak s) i0) hle hs).ret (aV hc30)) rfl rfl (by rfl) (by rfl) rfl rfl rfl rfl ?_;refine pu (build aa rfl rfl rfl rfl) rfl ?_;try refine gf 31 rfl rfl rfl ?_
   refine ar aa rfl rfl rfl rfl rfl rfl rfl rfl (WO.nil (qs (W.ret (aC (an (cV (aV ((by rw[I,hc30]))) ?_))))));refine b7.end aa [] trivial rfl rfl rfl rfl ?_ ?_;·exact⟨rfl,trivial⟩
   rfl
 rw[if_neg (nr (d:=34) O)] at I;refine W.seq ?_;apply aG;(case hb=>rfl);·repeat' first | refine bg rfl rfl rfl | refine aH rfl rfl ?_ | refine aE rfl rfl rfl rfl ?_ | refine pE rfl ?_ | refine WO.nil ?_ | (apply aP;(case hj=>rfl);(case hl=>rfl))
 refine qs (ab rfl (fun J=>?_) (fun J=>?_));·
  have q:aq (ak s) (az (ak s) i0)=91∨aq (ak s) (az (ak s) i0)=123:=by
   by_cases e:aq (ak s) (az (ak s) i0)=91;·exact .inl e
   refine .inr (iL (n:=123) (by decide) ?_);have e2:¬ ((aq (ak s) (az (ak s) i0)).toNat:Int)=91:=fun h=>e (iL (n:=91) (by decide) h);revert J;simp[e2]
  rw[if_pos q] at I;have cl:az (ak s) i0 < s.size:=by have:=b9 (l:=ak s) (i:=az (ak s) i0) (by rcases q with q | q <;> rw[q] <;> decide);rwa [au] at this
  iterate 2 refine W.seq ?_
  refine W.region ?_;iterate 2 refine pE rfl ?_
  refine WO.nil (qs (ab rfl (fun U=>?_) (fun U=>?_)));·
   rw[if_pos (of_decide_eq_true U)] at I;refine W.region ?_;iterate 3 refine pE rfl ?_
   refine pE rfl (ca [] [] rfl rfl rfl rfl rfl (cM (az (ak s) i0) 20) rfl rfl (by rfl) (fun st'=>?_));repeat' first | refine b4 ?_ | refine fz ?_
   exact cg (aN I)
  have ad:¬ 16 < level:=of_decide_eq_false U;rw[if_neg ad] at I;refine W.skip (qs (W.seq (W.region ?_)));iterate 3 refine pE rfl ?_
  refine pE rfl (pu (cU (ev aa rfl) (y:=((az (ak s) i0+1:Nat):Int)) (wrap64 (by omega))) rfl ?_);iterate 2 refine pE rfl ?_
  refine ar aa rfl rfl rfl rfl rfl rfl rfl rfl (WO.nil (qs ?_));iterate 2 refine W.seq ?_
  refine W.region ?_;iterate 2 refine pE rfl ?_
  refine WO.nil (qs (ab rfl (fun X=>?_) (fun X=>?_)));·
   rw[if_pos (kH (d:=91) X)] at I;refine W.seq (W.region ?_);iterate 2 refine pE rfl ?_
   cases hc57:e9 (ak s) k level (az (ak s) i0+1) with
   | no cq cx=>
    refine ca [0] [] rfl rfl rfl rfl rfl ((hA (az (ak s) i0+1) (by omega) (by omega) (by omega)).fu (aN hc57)) rfl rfl (by rfl) (fun st'=>?_);repeat' first | refine b4 ?_ | refine fz ?_
    refine cg (aN (by rw[I,hc57]))
   | ok cy i57=>
    refine aK [0] [] rfl rfl rfl rfl rfl ((hA (az (ak s) i0+1) (by omega) (by omega) (by omega)).ret (aV hc57)) rfl rfl (by rfl) (by rfl) rfl rfl rfl rfl ?_;refine ar aa rfl rfl rfl rfl rfl rfl rfl rfl (WO.nil (qs (W.ret (an (aC (an (cV (aV ((by rw[I,hc57]))) ?_)))))));refine b7.end aa [] trivial rfl rfl rfl rfl ?_ ?_;·exact⟨rfl,trivial⟩
    rfl
  rw[if_neg (nr (d:=91) X)] at I;refine W.skip (qs (W.seq (W.region ?_)));iterate 2 refine pE rfl ?_
  cases hc60:fc (ak s) k level (az (ak s) i0+1) with
  | no c1 c6=>
   refine ca [0] [] rfl rfl rfl rfl rfl ((hO (az (ak s) i0+1) (by omega) (by omega) (by omega)).fu (aN hc60)) rfl rfl (by rfl) (fun st'=>?_);repeat' first | refine b4 ?_ | refine fz ?_
   refine cg (aN (by rw[I,hc60]))
  | ok c7 i60=>
   refine aK [0] [] rfl rfl rfl rfl rfl ((hO (az (ak s) i0+1) (by omega) (by omega) (by omega)).ret (aV hc60)) rfl rfl (by rfl) (by rfl) rfl rfl rfl rfl ?_;refine ar aa rfl rfl rfl rfl rfl rfl rfl rfl (WO.nil (qs (W.ret (aC (an (cV (aV ((by rw[I,hc60]))) ?_))))));refine b7.end aa [] trivial rfl rfl rfl rfl ?_ ?_;·exact⟨rfl,trivial⟩
   rfl
 have q:¬ (aq (ak s) (az (ak s) i0)=91∨aq (ak s) (az (ak s) i0)=123):=by rintro(e | e) <;> rw[e] at J <;> simp at J
 rw[if_neg q] at I;refine W.skip (be (qs (W.seq (W.region (pE rfl ?_)))))
 cases hc62:dH (ak s) (az (ak s) i0) with
 | no df di=>
  refine ca [0] [] rfl rfl rfl rfl rfl ((qY s (az (ak s) i0) hle hs).fu (aN hc62)) rfl rfl (by rfl) (fun st'=>?_);repeat' refine b4 ?_
  refine cg (aN (by rw[I,hc62]))
 | ok dj i62=>
  refine aK [0] [] rfl rfl rfl rfl rfl ((qY s (az (ak s) i0) hle hs).ret (aV hc62)) rfl rfl (by rfl) (by rfl) rfl rfl rfl rfl ?_;refine ar aa rfl rfl rfl rfl rfl rfl rfl rfl (WO.nil (qs (W.ret (cV (aV ((by rw[I,hc62]))) ?_))));refine b7.end aa [] trivial rfl rfl rfl rfl ?_ ?_;·exact⟨rfl,trivial⟩
  rfl
end Go.Proofs.YtpiaiiopakafhaaGreatDoor
namespace Go.Proofs.YtpiaiiopakafhaaGreatDoor
open Go.Ab Go.Tb
set_option maxRecDepth 10000
set_option maxHeartbeats 1000000
attribute [local irreducible] W WO Pu QS QB QL QF QV bA CH QE
theorem vh {l:List UInt8} {c:UInt8} {i:Nat} (h:i≤l.length):Bd l i (gu l c i):=by
 have J:=bY l i;have hle:=bW h;unfold gu;split;·
  rename_i q;exact⟨by omega,b9 (by rw[q];decide)⟩
 have I:=hU (c:=c) hle
 cases M:bG l c (az l i) with
 | no a w=>rw[M] at I;exact⟨Nat.le_trans J I.1,I.2⟩
 | ok u j=>rw[M] at I;exact⟨Nat.lt_of_le_of_lt J I.1,I.2⟩
theorem oZ {l:List UInt8} {c:UInt8} {i a:Nat} {w:Int} (h:gu l c i=.no a w):¬ aq l (az l i)=44∧bG l c (az l i)=.no a w:=by
 unfold gu at h;split at h;·cases h
 rename_i q;refine⟨q,?_⟩
 cases I:bG l c (az l i) with
 | no a' w'=>rw[I] at h;injection h with h1 h2;rw[h1,h2]
 | ok u j=>rw[I] at h;cases h
theorem lT {l:List UInt8} {c:UInt8} {i j:Nat} (h:gu l c i=.ok true j):aq l (az l i)=44∧j=az l i+1:=by
 unfold gu at h;split at h;·rename_i q;injection h with _ h2;exact⟨q,h2.symm⟩
 cases I:bG l c (az l i) with
 | no a' w'=>rw[I] at h;cases h
 | ok u j=>rw[I] at h;cases h
theorem kJ {l:List UInt8} {c:UInt8} {i j:Nat} (h:gu l c i=.ok false j):¬ aq l (az l i)=44∧bG l c (az l i)=.ok () j:=by
 unfold gu at h;split at h;·cases h
 rename_i q;refine⟨q,?_⟩
 cases I:bG l c (az l i) with
 | no a' w'=>rw[I] at h;cases h
 | ok u J=>rw[I] at h;injection h with _ h2;rw[h2]
theorem DS (acc:List JV):(JV.mk 5 0 (B #[]) [] acc).c=[ci 5,ci 0,cs (B #[]),.sl [],.sl (acc.map JV.c)]:=by simp[JV.c,JV.lF,JV.op,JV.n,JV.s,JV.keys,JV.kids]
def yy (s:ByteArray) (K:Nat):Prop:=∀ k,k < K→∀ (level:Int) (i:Nat),1≤level→level≤17→i≤s.size→3*(s.size - i)+1≤k →
 cL Tryz.prog 71 [.ptr 0 0,.d (.v (.int .i64 level))] [eB s i] 0 (gH 128 s (fun v:JV=>.ag v.c) (cA (ak s) k level i))
theorem xY (s:ByteArray) (K:Nat) (hs:s.size≤1000000000) (hV:yy s K) (level:Int) (i0:Nat) (hi:i0≤s.size) (a8:1≤level) (b0:level≤16) (hK:3*(s.size - i0)+3≤K) :
 cL Tryz.prog 116 [.ptr 0 0,.d (.v (.int .i64 level))] [eB s i0] 0 (gH 128 s (fun v:JV=>.ag v.c) (e9 (ak s) K level i0)):=by
 have hle:az (ak s) i0≤s.size:=by have:=bW (l:=ak s) (i:=i0) (by rw[au];exact hi);rwa [au] at this
 have b2:=bY (ak s) i0;obtain⟨O,rfl⟩:∃ O,K=O+1:=⟨K - 1,by omega⟩;have U:=sh (ak s) O level i0;generalize hA:e9 (ak s) (O+1) level i0=A at U ⊢;clear hA;refine cL.cX aa (n:=32) (rs:=[.cell 4 46]) Tryz.func116 (by kernel_rfl) rfl Tryz.ntmps116 Tryz.results116 rfl (fv ..) fun C hC hG=>?_;refine W.seq (W.region (aQ aa rfl rfl rfl (WO.nil (qs (W.seq (W.region (pu (build aa rfl rfl rfl rfl) rfl ?_)))))));refine aQ aa rfl rfl rfl (ar aa rfl rfl rfl rfl rfl rfl rfl rfl (WO.nil (qs ?_)));iterate 2 refine W.seq ?_
 refine W.region (pE rfl (aK [0] [] rfl rfl rfl rfl rfl ((jO s i0 hi hs)) rfl rfl (by rfl) (by rfl) rfl rfl rfl rfl ?_));refine pE rfl (WO.nil (qs (ab rfl (fun N=>?_) (fun N=>?_))));·
  rw[if_pos (kH (d:=93) N)] at U;have b3:az (ak s) i0 < s.size:=by have:=b9 (l:=ak s) (i:=az (ak s) i0) (by rw[kH (d:=93) N];decide);rwa [au] at this
  refine W.seq (W.region ?_);iterate 3 refine pE rfl ?_
  refine pE rfl (pu (cU (ev aa rfl) (y:=((az (ak s) i0+1:Nat):Int)) (wrap64 (by omega))) rfl ?_);iterate 2 refine pE rfl ?_
  refine ar aa rfl rfl rfl rfl rfl rfl rfl rfl (WO.nil (qs (W.seq (W.region (pE rfl (ar aa rfl rfl rfl rfl rfl rfl rfl rfl (WO.nil (qs ?_))))))));try refine gY 1 3 rfl rfl rfl ?_
  try refine gY 1 4 rfl rfl rfl ?_
  refine W.ret (an (cV (aV (U)) ?_));refine b7.end aa [] trivial rfl rfl rfl rfl ?_ ?_;·exact⟨rfl,trivial⟩
  rfl
 rw[if_neg (nr (d:=93) N)] at U;refine W.skip (qs ?_);iterate 2 refine W.seq ?_
 refine W.region (pE rfl (WO.nil (qs (W.block (ez 2 4 rfl rfl rfl ?_)))))
 refine W.bh (ι:={x:Nat×Nat×List JV×Bool // match x with | (k,j,acc,on)=>k≤O∧(on=true→j≤s.size∧acc.length≤j∧3*(s.size - j)+2≤k∧ek (ak s) k level j acc=A)∧(on=false→A=.ok (.mk 5 0 (B #[]) [] acc) j)})
  (fun x=>match x.1 with | (k,j,acc,on)=>[(0,.ptr 0 0),(1,.d (.v (.int .i64 level))),(4,.ptr 1 0),(5,.ptr 2 0),(6,.d (.v (.bool on)))]) []
  (fun x=>match x.1 with | (k,j,acc,on)=>[(0,eB s j),(2,[.d (ci 5),.d (ci 0),.d (cs (B #[])),.d (.v (.slice none 0 0)),.own 3 (acc.map JV.c)])]) [(1,_)] [3] 4 (fun x=>match x.1 with | (k,j,acc,on)=>k)
  [0,1,2,4] ⟨(O,az (ak s) i0,[],true),?_⟩ rfl ?_ trivial ?_ ⟨rfl,rfl,trivial⟩ rfl ?_
 ·exact⟨Nat.le_refl _,fun _=>⟨hle,Nat.zero_le _,by omega,U.symm⟩,fun h=>by cases h⟩
 ·repeat' first | exact trivial | refine⟨rfl,?_⟩
 ·repeat' first | exact trivial | refine⟨rfl,?_⟩
 rintro⟨⟨k,j,acc,on⟩,ch,hT,hF⟩;show W _ _ _ _ _ ⟨[(0,.ptr 0 0),(1,.d (.v (.int .i64 level))),(4,.ptr 1 0),(5,.ptr 2 0),(6,.d (.v (.bool on)))],[(0,eB s j),(2,[.d (ci 5),.d (ci 0),.d (cs (B #[])),.d (.v (.slice none 0 0)),.own 3 (acc.map JV.c)]),(1,_)],[3],4⟩;iterate 2 refine W.seq ?_
 refine W.region (pE rfl (WO.nil (qs (ab rfl (fun X=>?_) (fun X=>?_)))));·
  obtain⟨hj,I,hk,J⟩:=hT X;obtain⟨M,rfl⟩:∃ M,k=M+1:=⟨k - 1,by omega⟩;rw[qf] at J;have hb:=(lI (ak s) M).v (level+1) j (by rw[au];exact hj);refine W.skip (qs (W.seq (W.block ?_)))
  cases hc27:cA (ak s) M (level+1) j with
  | no aj a1=>
   refine' W.BB aa (gJ 128 aj a1) [5,6] 7 (by kernel_rfl) (by kernel_rfl) rfl rfl (fun st=>?hQ_1) ?hL_1;case hQ_1=>
    repeat' first | refine b4 ?_ | refine fz ?_ | refine jt ?_
    refine cg (aN (by rw[←J,hc27]))
   case' hL_1=>skip
   refine' bb (ev aa rfl) ?p_2 rfl rfl rfl (by kernel_rfl) rfl ?h_2;case' h_2=>skip
   refine' bb (ev aa rfl) ?p_3 rfl rfl rfl (by kernel_rfl) rfl ?h_3;case' h_3=>skip
   refine' bb (ev aa rfl) ?p_4 rfl rfl rfl (by kernel_rfl) rfl ?h_4;case' h_4=>skip
   refine' bb (ev aa rfl) ?p_5 rfl rfl rfl (by kernel_rfl) rfl ?h_5;case' h_5=>skip
   refine' bb (cU (ev aa rfl) (y:=level+1) (wrap64 (by omega))) ?p_6 rfl rfl rfl (by kernel_rfl) rfl ?h_6;case' h_6=>skip
   refine' Gr ?x_7 rfl rfl rfl (by kernel_rfl) rfl ?h_7;case x_7=>
    intro b hb g;cases b;·exact(ae hb (by kernel_rfl)).elim
    exact ca [0] [] rfl rfl rfl rfl rfl ((hV M (by omega) (level+1) j (by omega) (by omega) hj (by omega)).fu (aN hc27)) rfl rfl (by rfl) (fun st'=>⟨_,rfl,rfl⟩)
   case' h_7=>skip
   refine FK 27 rfl rfl rfl rfl (by kernel_rfl) rfl ?_;case p_2=>refine⟨fun I=>(ae I (by kernel_rfl)).elim,?_,fun I=>(ae I (by kernel_rfl)).elim,?_,fun I=>(ae I (by kernel_rfl)).elim,?_⟩ <;> intro I <;> first | exact⟨ev aa rfl,fun h=>nomatch h⟩ | exact(ae I (by kernel_rfl)).elim
   case p_3=>refine⟨fun I=>(ae I (by kernel_rfl)).elim,?_,fun I=>(ae I (by kernel_rfl)).elim,?_,fun I=>(ae I (by kernel_rfl)).elim,?_⟩ <;> intro I <;> first | exact⟨ev aa rfl,fun h=>nomatch h⟩ | exact⟨dL aa rfl rfl rfl rfl,fun h=>nomatch h⟩ | exact⟨dM aa rfl rfl rfl rfl rfl,fun h=>nomatch h⟩ | exact(ae I (by kernel_rfl)).elim
   case p_4=>refine⟨fun I=>(ae I (by kernel_rfl)).elim,?_,fun I=>(ae I (by kernel_rfl)).elim,?_,fun I=>(ae I (by kernel_rfl)).elim,?_⟩ <;> intro I <;> first | exact⟨ev aa rfl,fun h=>nomatch h⟩ | exact(ae I (by kernel_rfl)).elim
   case p_5=>refine⟨fun I=>(ae I (by kernel_rfl)).elim,?_,fun I=>(ae I (by kernel_rfl)).elim,?_,fun I=>(ae I (by kernel_rfl)).elim,?_⟩ <;> intro I <;> first | exact⟨ev aa rfl,fun h=>nomatch h⟩ | exact(ae I (by kernel_rfl)).elim
   case p_6=>refine⟨fun I=>(ae I (by kernel_rfl)).elim,?_,fun I=>(ae I (by kernel_rfl)).elim,?_,fun I=>(ae I (by kernel_rfl)).elim,?_⟩ <;> intro I <;> first | exact⟨cU (ev aa rfl) (y:=level+1) (wrap64 (by omega)),fun h=>nomatch h⟩ | exact(ae I (by kernel_rfl)).elim
   refine CD.nil ?_ rfl;exact Cb 27 rfl
  | ok ai i27=>
   rw[hc27] at J hb;dsimp only at J;have cj:j < i27:=hb.1;have Z:i27≤s.size:=by have:=hb.2;rwa [au] at this
   have ad:=vh (l:=ak s) (c:=93) (i:=i27) (by rw[au];exact Z);apply W.jJ aa 7 5;(case hB=>kernel_rfl);(case h1=>rfl);(case h2=>rfl);refine' eY ?p1_9 (ev aa rfl) rfl rfl rfl rfl rfl ?h_9;case' h_9=>skip
   refine' eY ?p1_10 (ev aa rfl) rfl rfl rfl rfl rfl ?h_10;case' h_10=>skip
   refine' j6 (ev aa rfl) rfl rfl rfl rfl rfl ?h_11;case' h_11=>skip
   refine' eY ?p1_12 (ev aa rfl) rfl rfl rfl rfl rfl ?h_12;case' h_12=>skip
   refine' j6 (cU (ev aa rfl) (y:=level+1) (wrap64 (by omega))) rfl rfl rfl rfl rfl ?h_13;case' h_13=>skip
   refine' Eu (fun g=>?e_14) rfl rfl rfl ?h_14;case e_14=>refine aK [0] [] rfl rfl rfl rfl rfl (((hV M (by omega) (level+1) j (by omega) (by omega) hj (by omega)).ret (aV hc27))) rfl rfl (by rfl) (by rfl) rfl rfl rfl rfl ?_;refine WO.nil ?_;exact⟨rfl,rfl⟩
   case' h_14=>skip
   case p1_9=>exact(ev aa rfl)
   case p1_10=>exact(ev aa rfl)
   case p1_12=>exact(ev aa rfl)
   refine F5 (ba aa rfl rfl rfl rfl rfl rfl rfl rfl rfl) rfl rfl rfl rfl rfl ?_;refine CC.nil ?_;refine eE (fn:=JV.c) (a:=ai) aa rfl rfl rfl rfl rfl rfl rfl rfl rfl rfl (fun _=>rfl) (by show(acc.length+1)*80≤_;omega) ?_;refine pE rfl (ar aa rfl rfl rfl rfl rfl rfl rfl rfl (WO.nil (be (qs (W.region (pE rfl ?_))))))
   cases hc21:gu (ak s) 93 i27 with
   | no a21 cl=>
    refine ca [0] [] rfl rfl rfl rfl rfl ((pf s 93 i27 Z hs).fu (aN hc21)) rfl rfl (by rfl) (fun st'=>?_);repeat' first | refine b4 ?_ | refine fz ?_ | refine jt ?_
    refine cg (aN (by rw[←J,if_neg (oZ hc21).1,(oZ hc21).2]))
   | ok a6 i21=>
    refine aK [0] [] rfl rfl rfl rfl rfl ((pf s 93 i27 Z hs).ret (aV hc21)) rfl rfl (by rfl) (by rfl) rfl rfl rfl rfl ?_;rw[hc21] at ad;have cq:i27 < i21:=ad.1;have a7:i21≤s.size:=by have:=ad.2;rwa [au] at this
    refine pE rfl (WO.nil (W.bt [0,1,2,5] ⟨(M,i21,acc++[ai],a6),?_⟩ ?_ rfl ?_ trivial ?_ ⟨rfl,rfl,trivial⟩ rfl));·
     refine⟨by omega,fun h=>?_,fun h=>?_⟩;·
      subst h;rw[if_pos (lT hc21).1,←(lT hc21).2] at J;exact⟨a7,by rw[List.length_append,List.length_singleton];omega,by omega,J⟩
     subst h;rw[if_neg (kJ hc21).1,(kJ hc21).2] at J;exact J.symm
    ·dsimp only;omega
    ·repeat' first | exact trivial | refine⟨rfl,?_⟩
    repeat' first | exact trivial | refine⟨rfl,?_⟩
 have hx:=hF X;refine W.exit (aW (aT (aS (qs (W.seq (W.region (pE rfl (ar aa rfl rfl rfl rfl rfl rfl rfl rfl (WO.nil (qs ?_))))))))));try refine gY 1 3 rfl rfl rfl ?_
 try refine gY 1 4 rfl rfl rfl ?_
 refine W.ret (cV (aV (hx)) ?_);refine b7.end aa [] trivial rfl rfl rfl rfl ?_ ?_;·exact⟨rfl,trivial⟩
 rw[DS];rfl
end Go.Proofs.YtpiaiiopakafhaaGreatDoor
namespace Go.Proofs.YtpiaiiopakafhaaGreatDoor
open Go.Ab Go.Tb
set_option maxRecDepth 10000
set_option maxHeartbeats 1000000
attribute [local irreducible] W WO Pu QS QB QL QF QV bA CH QE
theorem DM (keys:List ByteArray) (acc:List JV):(JV.mk 6 0 (B #[]) keys acc).c=[ci 6,ci 0,cs (B #[]),.sl (keys.map sc),.sl (acc.map JV.c)]:=by simp[JV.c,JV.lF,JV.op,JV.n,JV.s,JV.keys,JV.kids]
theorem wO (s:ByteArray) (K:Nat) (hs:s.size≤1000000000) (hV:yy s K) (level:Int) (i0:Nat) (hi:i0≤s.size) (cy:1≤level) (c1:level≤16) (hK:3*(s.size - i0)+3≤K) :
 cL Tryz.prog 117 [.ptr 0 0,.d (.v (.int .i64 level))] [eB s i0] 0 (gH 128 s (fun v:JV=>.ag v.c) (fc (ak s) K level i0)):=by
 have hle:az (ak s) i0≤s.size:=by have:=bW (l:=ak s) (i:=i0) (by rw[au];exact hi);rwa [au] at this
 have c6:=bY (ak s) i0;obtain⟨Z,rfl⟩:∃ Z,K=Z+1:=⟨K - 1,by omega⟩;have hv:=rU (ak s) Z level i0;generalize hA:fc (ak s) (Z+1) level i0=A at hv ⊢;clear hA;refine cL.cX aa (n:=61) (rs:=[.cell 4 46]) Tryz.func117 (by kernel_rfl) rfl Tryz.ntmps117 Tryz.results117 rfl (fv ..) fun C hC hG=>?_;refine W.seq (W.region (aQ aa rfl rfl rfl (WO.nil (qs (W.seq (W.region (pu (build aa rfl rfl rfl rfl) rfl ?_)))))));refine aQ aa rfl rfl rfl (ar aa rfl rfl rfl rfl rfl rfl rfl rfl (WO.nil (qs ?_)));iterate 2 refine W.seq ?_
 refine W.region (pE rfl (aK [0] [] rfl rfl rfl rfl rfl ((jO s i0 hi hs)) rfl rfl (by rfl) (by rfl) rfl rfl rfl rfl ?_));refine pE rfl (WO.nil (qs (ab rfl (fun X=>?_) (fun X=>?_))));·
  rw[if_pos (kH (d:=125) X)] at hv;have c7:az (ak s) i0 < s.size:=by have:=b9 (l:=ak s) (i:=az (ak s) i0) (by rw[kH (d:=125) X];decide);rwa [au] at this
  refine W.seq (W.region ?_);iterate 3 refine pE rfl ?_
  refine pE rfl (pu (cU (ev aa rfl) (y:=((az (ak s) i0+1:Nat):Int)) (wrap64 (by omega))) rfl ?_);iterate 2 refine pE rfl ?_
  refine ar aa rfl rfl rfl rfl rfl rfl rfl rfl (WO.nil (qs (W.seq (W.region (pE rfl (ar aa rfl rfl rfl rfl rfl rfl rfl rfl (WO.nil (qs ?_))))))));try refine gY 1 3 rfl rfl rfl ?_
  try refine gY 1 4 rfl rfl rfl ?_
  refine W.ret (an (cV (aV (hv)) ?_));refine b7.end aa [] trivial rfl rfl rfl rfl ?_ ?_;·exact⟨rfl,trivial⟩
  rfl
 rw[if_neg (nr (d:=125) X)] at hv;refine W.skip (qs (W.seq (W.region (mkMap rfl ?_))));refine pE rfl (WO.nil (qs ?_));iterate 2 refine W.seq ?_
 refine W.region (pE rfl (WO.nil (qs (W.block (ez 2 3 rfl rfl rfl ?_)))));refine ez 2 4 rfl rfl rfl ?_
 refine W.bh (ι:={x:Nat×Nat×List ByteArray×List JV×Bool // match x with | (k,j,keys,acc,on)=>k≤Z∧keys.Nodup∧(on=true→j≤s.size∧keys.length≤j∧acc.length≤j∧3*(s.size - j)+2≤k∧ec (ak s) k level j keys acc=A)∧(on=false→A=.ok (.mk 6 0 (B #[]) keys acc) j)})
  (fun x=>match x.1 with | (k,j,keys,acc,on)=>[(0,.ptr 0 0),(1,.d (.v (.int .i64 level))),(4,.ptr 1 0),(5,.ptr 2 0),(6,.mp 3 (eA sk bv (fy keys))),(7,.d (.v (.bool on)))]) []
  (fun x=>match x.1 with | (k,j,keys,acc,on)=>[(0,eB s j),(2,[.d (ci 6),.d (ci 0),.d (cs (B #[])),.own 4 (keys.map sc),.own 5 (acc.map JV.c)])]) [(1,_)] [5,4,3] 6 (fun x=>match x.1 with | (k,j,keys,acc,on)=>k)
  [0,1,2,4,5,6] ⟨(Z,az (ak s) i0,[],[],true),?_⟩ rfl ?_ trivial ?_ ⟨rfl,rfl,trivial⟩ rfl ?_
 ·exact⟨Nat.le_refl _,List.nodup_nil,fun _=>⟨hle,Nat.zero_le _,Nat.zero_le _,by omega,hv.symm⟩,fun h=>by cases h⟩
 ·repeat' first | exact trivial | refine⟨rfl,?_⟩
 ·repeat' first | exact trivial | refine⟨rfl,?_⟩
 rintro⟨⟨k,j,keys,acc,on⟩,df,hn,hT,hF⟩;show W _ _ _ _ _ ⟨[(0,.ptr 0 0),(1,.d (.v (.int .i64 level))),(4,.ptr 1 0),(5,.ptr 2 0),(6,.mp 3 (eA sk bv (fy keys))),(7,.d (.v (.bool on)))],[(0,eB s j),(2,[.d (ci 6),.d (ci 0),.d (cs (B #[])),.own 4 (keys.map sc),.own 5 (acc.map JV.c)]),(1,_)],[5,4,3],6⟩;iterate 2 refine W.seq ?_
 refine W.region (pE rfl (WO.nil (qs (ab rfl (fun ad=>?_) (fun ad=>?_)))));·
  obtain⟨hj,di,I,hk,J⟩:=hT ad;obtain⟨O,rfl⟩:∃ O,k=O+1:=⟨k - 1,by omega⟩;rw[qt] at J;have U:az (ak s) j≤s.size:=by have:=bW (l:=ak s) (i:=j) (by rw[au];exact hj);rwa [au] at this
  have cl:=bY (ak s) j;have ai:=lh (l:=ak s) (i:=az (ak s) j) (by rw[au];exact U);refine W.skip (qs (W.seq (W.block (W.seq (W.region (pE rfl (aK [0] [] rfl rfl rfl rfl rfl ((jO s j hj hs)) rfl rfl (by rfl) (by rfl) rfl rfl rfl rfl ?_)))))));refine WO.nil (qs (W.seq (W.region ?_)));iterate 3 refine pE rfl ?_
  refine pE rfl (pE rfl (WO.nil (qs (W.seq (W.region (pE rfl ?_))))))
  cases hc33:dk (ak s) (az (ak s) j) with
  | no dj dt=>
   refine ca [0] [] rfl rfl rfl rfl rfl ((mY s (az (ak s) j) U hs).fu (aN hc33)) rfl rfl (by rfl) (fun st'=>?_);repeat' first | refine b4 ?_ | refine fz ?_ | refine jt ?_
   refine cg (aN (by rw[←J,hc33]))
  | ok M i33=>
   refine aK [0] [] rfl rfl rfl rfl rfl ((mY s (az (ak s) j) U hs).ret (aV hc33)) rfl rfl (by rfl) (by rfl) rfl rfl rfl rfl ?_;rw[hc33] at J ai;dsimp only at J;have dx:az (ak s) j < i33:=ai.1;have a7:i33≤s.size:=by have:=ai.2;rwa [au] at this
   have cq:az (ak s) i33≤s.size:=by have:=bW (l:=ak s) (i:=i33) (by rw[au];exact a7);rwa [au] at this
   have cx:=bY (ak s) i33;refine pE rfl (WO.nil (qs ?_));iterate 2 refine W.seq ?_
   refine W.region ?_;iterate 2 refine pE rfl ?_
   refine pu (lB (kf:=sk) (vf:=bv) (l:=fy keys) (a:=bytesOf M) (z:=false) (zx:=.bool false) aa rfl rfl rfl rfl rfl (rh (aa.im rfl rfl)) rfl rfl rfl (fun w pv=>.v _ rfl) (by rw[jj];exact hn) (congrArg bv (tu hn (bytesOf M)))) rfl ?_;refine WO.nil (qs (ab rfl (fun N=>?_) (fun N=>?_)));·
    rw[if_pos N] at J;refine W.region (pE rfl (ca [] [] rfl rfl rfl rfl rfl (cM (az (ak s) j) 4) rfl rfl (by rfl) (fun st'=>?_)));repeat' first | refine b4 ?_ | refine fz ?_ | refine jt ?_
    exact cg (aN J.symm)
   rw[if_neg (by rw[N];decide)] at J;have b0:=qK hn N;refine W.skip (qs (W.seq (W.region ?_)));iterate 2 refine pE rfl ?_
   refine rb (kf:=sk) (vf:=bv) (l:=fy keys) (a:=bytesOf M) (y:=true) aa 6 rfl rfl rfl rfl rfl rfl rfl (rh (aa.im rfl rfl)) rfl rfl (by rw[jj];exact hn) (congrArg (eA sk bv) (sI N)) rfl ?_;refine WO.nil (qs (W.seq (W.region (pE rfl (aK [0] [] rfl rfl rfl rfl rfl ((jO s i33 a7 hs)) rfl rfl (by rfl) (by rfl) rfl rfl rfl rfl ?_)))));refine WO.nil (qs (W.seq (W.region (pE rfl ?_))))
   cases hc44:bG (ak s) 58 (az (ak s) i33) with
   | no ed ei=>
    refine ca [0] [] rfl rfl rfl rfl rfl ((iX s 58 (az (ak s) i33) hs).fu (aN hc44)) rfl rfl (by rfl) (fun st'=>?_);repeat' first | refine b4 ?_ | refine fz ?_ | refine jt ?_
    refine cg (aN (by rw[←J,hc44]))
   | ok ej i44=>
    refine aK [0] [] rfl rfl rfl rfl rfl ((iX s 58 (az (ak s) i33) hs).ret (aV hc44)) rfl rfl (by rfl) (by rfl) rfl rfl rfl rfl ?_;rw[hc44] at J;dsimp only at J;obtain⟨en,a6⟩:=ld hc44;rw[au] at a6;have hb:=(lI (ak s) O).v (level+1) i44 (by rw[au];omega);refine WO.nil (qs ?_)
    cases hc55:cA (ak s) O (level+1) i44 with
    | no b2 b3=>
     refine' W.Cj aa (gJ 128 b2 b3) [11,8,5] 12 _ [4,10,11,12] 14 (by kernel_rfl) (by kernel_rfl) rfl rfl (fun st=>?hQ_1) ?hL_1;case hQ_1=>
      repeat' first | refine b4 ?_ | refine fz ?_ | refine jt ?_
      refine cg (aN (by rw[←J,hc55]))
     case' hL_1=>skip
     refine' bb (ev aa rfl) ?p_2 rfl rfl rfl (by kernel_rfl) rfl ?h_2;case' h_2=>skip
     refine' bb (ev aa rfl) ?p_3 rfl rfl rfl (by kernel_rfl) rfl ?h_3;case' h_3=>skip
     refine' bb (ev aa rfl) ?p_4 rfl rfl rfl (by kernel_rfl) rfl ?h_4;case' h_4=>skip
     refine' bb (ba aa rfl rfl rfl rfl rfl rfl rfl rfl rfl) ?p_5 rfl rfl rfl (by kernel_rfl) rfl ?h_5;case' h_5=>skip
     refine' uO ?x_6 rfl rfl rfl (by kernel_rfl) (fun h=>(ae h (by kernel_rfl)).elim) rfl ?h_6;case x_6=>
      intro b hb g;cases b;·exact(ae hb (by kernel_rfl)).elim
      refine eE (fn:=sc) (a:=bytesOf M) aa rfl rfl rfl rfl rfl rfl rfl rfl rfl rfl (fun _=>rfl) (by show(keys.length+1)*16≤_;omega) ?_;refine WO.nil ?_;refine' sq rfl ?_ ?_ ?_ ?_;all_goals try exact rfl
     case' h_6=>skip
     refine' bb (ev aa rfl) ?p_7 rfl rfl rfl (by kernel_rfl) rfl ?h_7;case' h_7=>skip
     refine' bb (ev aa rfl) ?p_8 rfl rfl rfl (by kernel_rfl) rfl ?h_8;case' h_8=>skip
     refine' bb (ev aa rfl) ?p_9 rfl rfl rfl (by kernel_rfl) rfl ?h_9;case' h_9=>skip
     refine' bb (ev aa rfl) ?p_10 rfl rfl rfl (by kernel_rfl) rfl ?h_10;case' h_10=>skip
     refine' bb (cU (ev aa rfl) (y:=level+1) (wrap64 (by omega))) ?p_11 rfl rfl rfl (by kernel_rfl) rfl ?h_11;case' h_11=>skip
     refine' Gr ?x_12 rfl rfl rfl (by kernel_rfl) rfl ?h_12;case x_12=>
      intro b hb g;cases b;·exact(ae hb (by kernel_rfl)).elim
      exact ca [0] [] rfl rfl rfl rfl rfl ((hV O (by omega) (level+1) i44 (by omega) (by omega) (by omega) (by omega)).fu (aN hc55)) rfl rfl (by rfl) (fun st'=>⟨_,rfl,rfl⟩)
     case' h_12=>skip
     refine FK 55 rfl rfl rfl rfl (by kernel_rfl) rfl ?_;refine FK 56 rfl rfl rfl rfl (by kernel_rfl) rfl ?_;refine' bb (ev aa rfl) ?p_15 rfl rfl rfl (by kernel_rfl) rfl ?h_15;case' h_15=>skip
     case p_2=>refine⟨fun I=>(ae I (by kernel_rfl)).elim,?_,fun I=>(ae I (by kernel_rfl)).elim,?_,fun I=>(ae I (by kernel_rfl)).elim,?_,fun I=>(ae I (by kernel_rfl)).elim,?_,fun I=>(ae I (by kernel_rfl)).elim,?_⟩ <;> intro I <;> first | exact⟨ev aa rfl,fun h=>nomatch h⟩ | exact(ae I (by kernel_rfl)).elim
     case p_3=>refine⟨fun I=>(ae I (by kernel_rfl)).elim,?_,fun I=>(ae I (by kernel_rfl)).elim,?_,fun I=>(ae I (by kernel_rfl)).elim,?_,fun I=>(ae I (by kernel_rfl)).elim,?_,fun I=>(ae I (by kernel_rfl)).elim,?_⟩ <;> intro I <;> first | exact⟨ev aa rfl,fun h=>nomatch h⟩ | exact⟨dL aa rfl rfl rfl rfl,fun h=>nomatch h⟩ | exact⟨dM aa rfl rfl rfl rfl rfl,fun h=>nomatch h⟩ | exact(ae I (by kernel_rfl)).elim
     case p_4=>refine⟨fun I=>(ae I (by kernel_rfl)).elim,?_,fun I=>(ae I (by kernel_rfl)).elim,?_,fun I=>(ae I (by kernel_rfl)).elim,?_,fun I=>(ae I (by kernel_rfl)).elim,?_,fun I=>(ae I (by kernel_rfl)).elim,?_⟩ <;> intro I <;> first | exact⟨ev aa rfl,fun h=>nomatch h⟩ | exact(ae I (by kernel_rfl)).elim
     case p_5=>refine⟨fun I=>(ae I (by kernel_rfl)).elim,?_,fun I=>(ae I (by kernel_rfl)).elim,?_,fun I=>(ae I (by kernel_rfl)).elim,?_,fun I=>(ae I (by kernel_rfl)).elim,?_,fun I=>(ae I (by kernel_rfl)).elim,?_⟩ <;> intro I <;> first | exact⟨ba aa rfl rfl rfl rfl rfl rfl rfl rfl rfl,fun h=>nomatch h⟩ | exact(ae I (by kernel_rfl)).elim
     case p_7=>refine⟨fun I=>(ae I (by kernel_rfl)).elim,?_,fun I=>(ae I (by kernel_rfl)).elim,?_,fun I=>(ae I (by kernel_rfl)).elim,?_,fun I=>(ae I (by kernel_rfl)).elim,?_,fun I=>(ae I (by kernel_rfl)).elim,?_⟩ <;> intro I <;> first | exact⟨ev aa rfl,fun h=>nomatch h⟩ | exact(ae I (by kernel_rfl)).elim
     case p_8=>refine⟨fun I=>(ae I (by kernel_rfl)).elim,?_,fun I=>(ae I (by kernel_rfl)).elim,?_,fun I=>(ae I (by kernel_rfl)).elim,?_,fun I=>(ae I (by kernel_rfl)).elim,?_,fun I=>(ae I (by kernel_rfl)).elim,?_⟩ <;> intro I <;> first | exact⟨ev aa rfl,fun h=>nomatch h⟩ | exact⟨dL aa rfl rfl rfl rfl,fun h=>nomatch h⟩ | exact⟨dM aa rfl rfl rfl rfl rfl,fun h=>nomatch h⟩ | exact(ae I (by kernel_rfl)).elim
     case p_9=>refine⟨fun I=>(ae I (by kernel_rfl)).elim,?_,fun I=>(ae I (by kernel_rfl)).elim,?_,fun I=>(ae I (by kernel_rfl)).elim,?_,fun I=>(ae I (by kernel_rfl)).elim,?_,fun I=>(ae I (by kernel_rfl)).elim,?_⟩ <;> intro I <;> first | exact⟨ev aa rfl,fun h=>nomatch h⟩ | exact(ae I (by kernel_rfl)).elim
     case p_10=>refine⟨fun I=>(ae I (by kernel_rfl)).elim,?_,fun I=>(ae I (by kernel_rfl)).elim,?_,fun I=>(ae I (by kernel_rfl)).elim,?_,fun I=>(ae I (by kernel_rfl)).elim,?_,fun I=>(ae I (by kernel_rfl)).elim,?_⟩ <;> intro I <;> first | exact⟨ev aa rfl,fun h=>nomatch h⟩ | exact(ae I (by kernel_rfl)).elim
     case p_11=>refine⟨fun I=>(ae I (by kernel_rfl)).elim,?_,fun I=>(ae I (by kernel_rfl)).elim,?_,fun I=>(ae I (by kernel_rfl)).elim,?_,fun I=>(ae I (by kernel_rfl)).elim,?_,fun I=>(ae I (by kernel_rfl)).elim,?_⟩ <;> intro I <;> first | exact⟨cU (ev aa rfl) (y:=level+1) (wrap64 (by omega)),fun h=>nomatch h⟩ | exact(ae I (by kernel_rfl)).elim
     case p_15=>refine⟨fun I=>(ae I (by kernel_rfl)).elim,?_,fun I=>(ae I (by kernel_rfl)).elim,?_,fun I=>(ae I (by kernel_rfl)).elim,?_,fun I=>(ae I (by kernel_rfl)).elim,?_,fun I=>(ae I (by kernel_rfl)).elim,?_⟩ <;> intro I <;> first | exact⟨ev aa rfl,fun h=>nomatch h⟩ | exact(ae I (by kernel_rfl)).elim
     refine CD.nil ?_ rfl;exact Cb 55 rfl
    | ok a8 i55=>
     rw[hc55] at J hb;dsimp only at J;have e0:i44 < i55:=hb.1;have aj:i55≤s.size:=by have:=hb.2;rwa [au] at this
     have a1:=vh (l:=ak s) (c:=125) (i:=i55) (by rw[au];exact aj);refine' W.qH aa (fun bx=>[bx,(0,eB s i55)::bx,(0,eB s i55)::bx]) [[11,8,5],[11,8,5],[13,11,8]] [12,13,14] [4,10,12] 14 (by kernel_rfl) (by kernel_rfl) rfl rfl ?hL_16;case' hL_16=>skip
     refine' bb (ev aa rfl) ?p_17 rfl rfl rfl (by kernel_rfl) rfl ?h_17;case' h_17=>skip
     refine' bb (ev aa rfl) ?p_18 rfl rfl rfl (by kernel_rfl) rfl ?h_18;case' h_18=>skip
     refine' bb (ev aa rfl) ?p_19 rfl rfl rfl (by kernel_rfl) rfl ?h_19;case' h_19=>skip
     refine' bb (ba aa rfl rfl rfl rfl rfl rfl rfl rfl rfl) ?p_20 rfl rfl rfl (by kernel_rfl) rfl ?h_20;case' h_20=>skip
     refine' uO ?x_21 rfl rfl rfl (by kernel_rfl) (fun h=>(ae h (by kernel_rfl)).elim) rfl ?h_21;case x_21=>
      intro b hb g;cases b;·exact(ae hb (by kernel_rfl)).elim
      refine eE (fn:=sc) (a:=bytesOf M) aa rfl rfl rfl rfl rfl rfl rfl rfl rfl rfl (fun _=>rfl) (by show(keys.length+1)*16≤_;omega) ?_;refine WO.nil ?_;refine' sq rfl ?_ ?_ ?_ ?_;all_goals try exact rfl
     case' h_21=>skip
     refine' bb (ev aa rfl) ?p_22 rfl rfl rfl (by kernel_rfl) rfl ?h_22;case' h_22=>skip
     refine' bb (ev aa rfl) ?p_23 rfl rfl rfl (by kernel_rfl) rfl ?h_23;case' h_23=>skip
     refine' bb (ev aa rfl) ?p_24 rfl rfl rfl (by kernel_rfl) rfl ?h_24;case' h_24=>skip
     refine' bb (ev aa rfl) ?p_25 rfl rfl rfl (by kernel_rfl) rfl ?h_25;case' h_25=>skip
     refine' bb (cU (ev aa rfl) (y:=level+1) (wrap64 (by omega))) ?p_26 rfl rfl rfl (by kernel_rfl) rfl ?h_26;case' h_26=>skip
     refine' uO ?x_27 rfl rfl rfl (by kernel_rfl) (fun h=>(ae h (by kernel_rfl)).elim) rfl ?h_27;case x_27=>
      intro b hb g;cases b;·exact(ae hb (by kernel_rfl)).elim
      refine aK [0] [] rfl rfl rfl rfl rfl (((hV O (by omega) (level+1) i44 (by omega) (by omega) (by omega) (by omega)).ret (aV hc55))) rfl rfl (by rfl) (by rfl) rfl rfl rfl rfl ?_;refine WO.nil ?_;refine' sq rfl ?_ ?_ ?_ ?_;all_goals try exact rfl
     case' h_27=>skip
     refine' bb (ba aa rfl rfl rfl rfl rfl rfl rfl rfl rfl) ?p_28 rfl rfl rfl (by kernel_rfl) rfl ?h_28;case' h_28=>skip
     refine' uO ?x_29 rfl rfl rfl (by kernel_rfl) (fun h=>(ae h (by kernel_rfl)).elim) rfl ?h_29;case x_29=>
      intro b hb g;cases b;·exact(ae hb (by kernel_rfl)).elim
      refine eE (fn:=JV.c) (a:=a8) aa rfl rfl rfl rfl rfl rfl rfl rfl rfl rfl (fun _=>rfl) (by show(acc.length+1)*80≤_;omega) ?_;refine WO.nil ?_;refine' sq rfl ?_ ?_ ?_ ?_;all_goals try exact rfl
     case' h_29=>skip
     case p_17=>refine⟨fun I=>(ae I (by kernel_rfl)).elim,?_,fun I=>(ae I (by kernel_rfl)).elim,?_,fun I=>(ae I (by kernel_rfl)).elim,?_,fun I=>(ae I (by kernel_rfl)).elim,?_⟩ <;> intro I <;> first | exact⟨ev aa rfl,fun h=>nomatch h⟩ | exact(ae I (by kernel_rfl)).elim
     case p_18=>refine⟨fun I=>(ae I (by kernel_rfl)).elim,?_,fun I=>(ae I (by kernel_rfl)).elim,?_,fun I=>(ae I (by kernel_rfl)).elim,?_,fun I=>(ae I (by kernel_rfl)).elim,?_⟩ <;> intro I <;> first | exact⟨ev aa rfl,fun h=>nomatch h⟩ | exact⟨dL aa rfl rfl rfl rfl,fun h=>nomatch h⟩ | exact⟨dM aa rfl rfl rfl rfl rfl,fun h=>nomatch h⟩ | exact(ae I (by kernel_rfl)).elim
     case p_19=>refine⟨fun I=>(ae I (by kernel_rfl)).elim,?_,fun I=>(ae I (by kernel_rfl)).elim,?_,fun I=>(ae I (by kernel_rfl)).elim,?_,fun I=>(ae I (by kernel_rfl)).elim,?_⟩ <;> intro I <;> first | exact⟨ev aa rfl,fun h=>nomatch h⟩ | exact(ae I (by kernel_rfl)).elim
     case p_20=>refine⟨fun I=>(ae I (by kernel_rfl)).elim,?_,fun I=>(ae I (by kernel_rfl)).elim,?_,fun I=>(ae I (by kernel_rfl)).elim,?_,fun I=>(ae I (by kernel_rfl)).elim,?_⟩ <;> intro I <;> first | exact⟨ba aa rfl rfl rfl rfl rfl rfl rfl rfl rfl,fun h=>nomatch h⟩ | exact(ae I (by kernel_rfl)).elim
     case p_22=>refine⟨fun I=>(ae I (by kernel_rfl)).elim,?_,fun I=>(ae I (by kernel_rfl)).elim,?_,fun I=>(ae I (by kernel_rfl)).elim,?_,fun I=>(ae I (by kernel_rfl)).elim,?_⟩ <;> intro I <;> first | exact⟨ev aa rfl,fun h=>nomatch h⟩ | exact(ae I (by kernel_rfl)).elim
     case p_23=>refine⟨fun I=>(ae I (by kernel_rfl)).elim,?_,fun I=>(ae I (by kernel_rfl)).elim,?_,fun I=>(ae I (by kernel_rfl)).elim,?_,fun I=>(ae I (by kernel_rfl)).elim,?_⟩ <;> intro I <;> first | exact⟨ev aa rfl,fun h=>nomatch h⟩ | exact⟨dL aa rfl rfl rfl rfl,fun h=>nomatch h⟩ | exact⟨dM aa rfl rfl rfl rfl rfl,fun h=>nomatch h⟩ | exact(ae I (by kernel_rfl)).elim
     case p_24=>refine⟨fun I=>(ae I (by kernel_rfl)).elim,?_,fun I=>(ae I (by kernel_rfl)).elim,?_,fun I=>(ae I (by kernel_rfl)).elim,?_,fun I=>(ae I (by kernel_rfl)).elim,?_⟩ <;> intro I <;> first | exact⟨ev aa rfl,fun h=>nomatch h⟩ | exact(ae I (by kernel_rfl)).elim
     case p_25=>refine⟨fun I=>(ae I (by kernel_rfl)).elim,?_,fun I=>(ae I (by kernel_rfl)).elim,?_,fun I=>(ae I (by kernel_rfl)).elim,?_,fun I=>(ae I (by kernel_rfl)).elim,?_⟩ <;> intro I <;> first | exact⟨ev aa rfl,fun h=>nomatch h⟩ | exact(ae I (by kernel_rfl)).elim
     case p_26=>refine⟨fun I=>(ae I (by kernel_rfl)).elim,?_,fun I=>(ae I (by kernel_rfl)).elim,?_,fun I=>(ae I (by kernel_rfl)).elim,?_,fun I=>(ae I (by kernel_rfl)).elim,?_⟩ <;> intro I <;> first | exact⟨cU (ev aa rfl) (y:=level+1) (wrap64 (by omega)),fun h=>nomatch h⟩ | exact(ae I (by kernel_rfl)).elim
     case p_28=>refine⟨fun I=>(ae I (by kernel_rfl)).elim,?_,fun I=>(ae I (by kernel_rfl)).elim,?_,fun I=>(ae I (by kernel_rfl)).elim,?_,fun I=>(ae I (by kernel_rfl)).elim,?_⟩ <;> intro I <;> first | exact⟨ba aa rfl rfl rfl rfl rfl rfl rfl rfl rfl,fun h=>nomatch h⟩ | exact(ae I (by kernel_rfl)).elim
     refine' bb (ev aa rfl) ?p_30 rfl rfl rfl (by kernel_rfl) rfl ?h_30;case' h_30=>skip
     case p_30=>refine⟨fun I=>(ae I (by kernel_rfl)).elim,?_,fun I=>(ae I (by kernel_rfl)).elim,?_,fun I=>(ae I (by kernel_rfl)).elim,?_,fun I=>(ae I (by kernel_rfl)).elim,?_⟩ <;> intro I <;> first | exact⟨ev aa rfl,fun h=>nomatch h⟩ | exact(ae I (by kernel_rfl)).elim
     refine CD.nil ?_ rfl;refine ar aa rfl rfl rfl rfl rfl rfl rfl rfl (pE rfl (ar aa rfl rfl rfl rfl rfl rfl rfl rfl (WO.nil (be (qs (W.region (pE rfl ?_)))))))
     cases hc25:gu (ak s) 125 i55 with
     | no e1 e2=>
      refine ca [0] [] rfl rfl rfl rfl rfl ((pf s 125 i55 aj hs).fu (aN hc25)) rfl rfl (by rfl) (fun st'=>?_);repeat' first | refine b4 ?_ | refine fz ?_ | refine jt ?_
      refine cg (aN (by rw[←J,if_neg (oZ hc25).1,(oZ hc25).2]))
     | ok ch i25=>
      refine aK [0] [] rfl rfl rfl rfl rfl ((pf s 125 i55 aj hs).ret (aV hc25)) rfl rfl (by rfl) (by rfl) rfl rfl rfl rfl ?_;rw[hc25] at a1;have e3:i55 < i25:=a1.1;have cj:i25≤s.size:=by have:=a1.2;rwa [au] at this
      refine pE rfl (WO.nil (W.bt [0,1,2,8,11,13] ⟨(O,i25,keys++[bytesOf M],acc++[a8],ch),?_⟩ ?_ rfl ?_ trivial ?_ ⟨rfl,rfl,trivial⟩ rfl));·
       refine⟨by omega,b0,fun h=>?_,fun h=>?_⟩;·
        subst h;rw[if_pos (lT hc25).1,←(lT hc25).2] at J;exact⟨cj,by rw[List.length_append,List.length_singleton];omega,by rw[List.length_append,List.length_singleton];omega,by omega,J⟩
       subst h;rw[if_neg (kJ hc25).1,(kJ hc25).2] at J;exact J.symm
      ·dsimp only;omega
      ·repeat' first | exact trivial | refine⟨rfl,?_⟩
      repeat' first | exact trivial | refine⟨rfl,?_⟩
 have hx:=hF ad;refine W.exit (aW (aT (aS (qs (W.seq (W.region (pE rfl (ar aa rfl rfl rfl rfl rfl rfl rfl rfl (WO.nil (qs ?_))))))))));try refine gY 1 3 rfl rfl rfl ?_
 try refine gY 1 4 rfl rfl rfl ?_
 refine W.ret (cV (aV (hx)) ?_);refine b7.end aa [] trivial rfl rfl rfl rfl ?_ ?_;·exact⟨rfl,trivial⟩
 rw[DM];rfl
end Go.Proofs.YtpiaiiopakafhaaGreatDoor
namespace Go.Proofs.YtpiaiiopakafhaaGreatDoor
open Go.Ab Go.Tb
set_option maxRecDepth 10000
set_option maxHeartbeats 1000000
attribute [local irreducible] W WO Pu QS QB QL QF QV bA CH QE
theorem sW (s:ByteArray) (hs:s.size≤1000000000):∀ K,yy s K
 | 0=>fun k N=>by omega
 | K+1=>fun k N level i J O hi X=>by obtain⟨I,rfl⟩:∃ I,k=I+1:=⟨k - 1,by omega⟩;have M:yy s I:=fun k U=>sW s hs K k (by omega);exact yL s I hs level i hi (fun j h1 h2 h3=>xY s I hs M level j h2 J h3 (by omega)) (fun j h1 h2 h3=>wO s I hs M level j h2 J h3 (by omega))
theorem vq (s:ByteArray) (hs:s.size≤1000000000):cL Tryz.prog 71 [.ptr 0 0,.d (.v (.int .i64 1))] [eB s 0] 0 (gH 128 s (fun v:JV=>.ag v.c) (cA (ak s) (3*(ak s).length+1) 1 0)):=
 sW s hs (3*(ak s).length+2) _ (Nat.lt_succ_self _) 1 0 (by decide) (by decide) (Nat.zero_le _) (by rw[au];omega)
end Go.Proofs.YtpiaiiopakafhaaGreatDoor
namespace Go.Proofs.YtpiaiiopakafhaaGreatDoor
open Go.Ab Go.Tb
set_option maxRecDepth 10000
set_option maxHeartbeats 1000000
attribute [local irreducible] W WO Pu QS QB QL QF QV bA CH QE
abbrev zc:List A:=[.d (ci 0),.d (ci 0),.d (cs (B #[])),.d (.sl []),.d (.sl [])]
theorem xH {C:Ctx} {n:Nat} {f:List (Nat×A)} {bx:List (Nat×List A)} {gen:Nat} {G:Gh} {tmps:Array Value} {w:World} {I b1 J:Nat} {N:List Deferred} (O:C.bx=[I,b1,J]) (hs:ax C n ⟨f,bx,[],gen⟩ G tmps w) {X:Value} (U:cu X=true) {k:Nat} (Z:k=22) :
 ax { C with bx:=[I,b1,J],ds:=N } 22 ⟨[(3,.d (.v X)),(0,.ptr 0 0),(1,.ptr 1 0),(2,.ptr 2 0)],bx,[],gen⟩ G (((#[pp I,pp b1,pp J]++Array.replicate (k - #[pp I,pp b1,pp J].size) undef).setIfInBounds 6 X).setIfInBounds 3 X) w:=by
 subst Z;have h5:=hs.vo (bs:=[I,b1,J]) (ds:=N) (fun i b hb=>hs.lent i b (by rw[O];exact hb));have hl:∀ (i b:Nat),[I,b1,J][i]? = some b→i < gen∧G.box i=some b:=fun i b hb=>by have:=hs.lent i b (by rw[O];exact hb);exact⟨(hs.gbox i b this).1,this⟩
 have t3:(((#[pp I,pp b1,pp J]++Array.replicate (22 - #[pp I,pp b1,pp J].size) undef).setIfInBounds 6 X).setIfInBounds 3 X)[3]? = some X:=by simp[Array.getElem?_setIfInBounds]
 have t0:(((#[pp I,pp b1,pp J]++Array.replicate (22 - #[pp I,pp b1,pp J].size) undef).setIfInBounds 6 X).setIfInBounds 3 X)[0]? = some (pp I):=by simp[Array.getElem?_setIfInBounds]
 have t1:(((#[pp I,pp b1,pp J]++Array.replicate (22 - #[pp I,pp b1,pp J].size) undef).setIfInBounds 6 X).setIfInBounds 3 X)[1]? = some (pp b1):=by simp[Array.getElem?_setIfInBounds]
 have t2:(((#[pp I,pp b1,pp J]++Array.replicate (22 - #[pp I,pp b1,pp J].size) undef).setIfInBounds 6 X).setIfInBounds 3 X)[2]? = some (pp J):=by simp[Array.getElem?_setIfInBounds]
 have ts:(((#[pp I,pp b1,pp J]++Array.replicate (22 - #[pp I,pp b1,pp J].size) undef).setIfInBounds 6 X).setIfInBounds 3 X).size=22:=by simp
 generalize (((#[pp I,pp b1,pp J]++Array.replicate (22 - #[pp I,pp b1,pp J].size) undef).setIfInBounds 6 X).setIfInBounds 3 X)=tm at t3 t0 t1 t2 ts ⊢;exact { h5 with
  size:=ts
  frame:=fun t a M=>by
   have M:Go.Ab.look [(3,A.d (.v X)),(0,.ptr 0 0),(1,.ptr 1 0),(2,.ptr 2 0)] t=some a:=M;rw[aU,aU,aU,aU] at M;split at M;·
    rename_i e;cases M;subst e;exact⟨X,t3,.d (.v X U)⟩
   split at M;·
    rename_i e;cases M;subst e;exact⟨pp I,t0,.ptr _ _ _ I (hl 0 I rfl).1 (hl 0 I rfl).2 rfl⟩
   split at M;·
    rename_i e;cases M;subst e;exact⟨pp b1,t1,.ptr _ _ _ b1 (hl 1 b1 rfl).1 (hl 1 b1 rfl).2 rfl⟩
   split at M;·
    rename_i e;cases M;subst e;exact⟨pp J,t2,.ptr _ _ _ J (hl 2 J rfl).1 (hl 2 J rfl).2 rfl⟩
   cases M }
theorem DU {C:Ctx} (hG:GC Tryz.prog C) {n:Nat} {f:List (Nat×A)} {bx:List (Nat×List A)} {gen:Nat} {G:Gh} {tmps:Array Value} {w:World} {I b1 J:Nat} (Z:C.bx=[I,b1,J]) (hs:ax C n ⟨f,bx,[],gen⟩ G tmps w) :
 CallsD Tryz.prog 70 #[pp I,pp b1,pp J] .returning w fun e u' w'=>∃ v M,e=.returned v∧u'=.returning∧ax { C with bx:=[I,b1,J],ds:=[] } 0 ⟨[],bx,[],gen⟩ M #[] w':=by
 refine callsD_of_wpS Tryz.func70 rfl (fun c0 ad hu=>?_);refine wpS_seq (wpS_region (om (d:=6) rfl rfl rfl rfl ?_));have N:recoverD (c0::ad)=none:=by cases c0 with | mk a b c d e f g=>subst hu;rfl
 rw[N];refine sH (d:=3) (d0:=6) (v:=.nilIface) rfl rfl rfl rfl (by rw[Array.getElem?_setIfInBounds_self,if_pos (by rw[Array.size_append,Array.size_replicate,Tryz.ntmps70];show 6 < 3+(22 - 3);omega)]) (u9 ?_);refine wpS_of_wp ?_;haveI:NB { C with bx:=[I,b1,J],ds:=[] } 3:=⟨rfl⟩;haveI:GC Tryz.prog { C with bx:=[I,b1,J],ds:=[] }:=hG.vo;refine sC (C:={ C with bx:=[I,b1,J],ds:=[] }) (n:=22) (st:=⟨[(3,.d (.v .nilIface)),(0,.ptr 0 0),(1,.ptr 1 0),(2,.ptr 2 0)],bx,[],gen⟩) (Q:=fun e st=>e=.normal∧st.bx=bx∧st.gen=gen∧st.lv=[]) ⟨G,xH Z hs rfl Tryz.ntmps70⟩ ?hW ?hB;case hW=>refine W.seq (W.region (pE rfl (pu (EE rfl (by kernel_rfl)) rfl ?_)));refine WO.nil (qs (W.CK rfl (W.skip ?_)));exact⟨rfl,rfl,rfl,rfl⟩
 case hB=>rintro e ⟨t,df⟩ w' ⟨hd,⟨f',bx',lv',gen'⟩,⟨M,ai⟩,he,O,U,X⟩;have O:bx'=bx:=O;have U:gen'=gen:=U;have X:lv'=[]:=X;subst he;subst O;subst U;subst X;refine⟨hd,.returning,by rw[←hu],_,gh (rs:=[]) Tryz.results70 (vs:=[]) rfl,_,M,rfl,rfl,?_⟩;exact { ai with size:=rfl,frame:=fun t a ha=>by cases ha }
theorem DI {C:Ctx} (hG:GC Tryz.prog C) {n:Nat} {f:List (Nat×A)} {bx:List (Nat×List A)} {gen:Nat} {G:Gh} {tmps:Array Value} {w:World} {O b1 U:Nat} {a:Nat} {e:Int} (hl:cu (.int .i64 (a:Int))=true∧cu (.int .i64 e)=true) (ai:C.bx=[O,b1,U]) (hs:ax C n ⟨f,bx,[],gen⟩ G tmps w)
 {x0 x1 x2 x3 x4 y0 z0:A} (h0:ah bx 0=some [x0,x1,x2,x3,x4]) (h1:ah bx 1=some [y0]) (h2:ah bx 2=some [z0]) :
 CallsD Tryz.prog 70 #[pp O,pp b1,pp U] (.panicking [{ v:=gJ 128 a e,recovered:=false }]) w fun r u' w'=>∃ v G' bx' gen',r=.returned v∧u'=.panicking [{ v:=gJ 128 a e,recovered:=true }]∧ah bx' 0=some zc∧ah bx' 1=some [.d (ci a)]∧ah bx' 2=some [.d (ci e)]∧ax { C with bx:=[O,b1,U],ds:=[] } 0 ⟨[],bx',[],gen'⟩ G' #[] w':=by
 refine callsD_of_wpS Tryz.func70 rfl (fun c0 aj hu=>?_);refine wpS_seq (wpS_region (om (d:=6) rfl rfl rfl rfl ?_));have a1:recoverD (c0::aj)=some (gJ 128 a e,{ c0 with mode:=.panicking [{ v:=gJ 128 a e,recovered:=true }] }::aj):=by cases c0 with | mk a b c d e f g=>subst hu;rfl
 rw[a1];refine sH (d:=3) (d0:=6) (v:=gJ 128 a e) rfl rfl rfl rfl (by rw[Array.getElem?_setIfInBounds_self,if_pos (by rw[Array.size_append,Array.size_replicate,Tryz.ntmps70];show 6 < 3+(22 - 3);omega)]) (u9 ?_);refine wpS_of_wp ?_;haveI:NB { C with bx:=[O,b1,U],ds:=[] } 3:=⟨rfl⟩;haveI:GC Tryz.prog { C with bx:=[O,b1,U],ds:=[] }:=hG.vo;have X:ax C n ⟨[],[(0,[.any,.any,.any,.any,.any]),(1,[.any]),(2,[.any])],[],3⟩ ⟨fun g=>if g < 3 then G.box g else none,fun _=>none⟩ tmps w:=by
  have J:∀ g b,(if g < 3 then G.box g else none)=some b→g < 3∧G.box g=some b:=fun g b h=>by
   split at h;·rename_i q;exact⟨q,h⟩
   cases h
  have hb:∀ (g:Nat) (cells cells':List A),g < 3→ah bx g=some cells→cells'.length=cells.length→(∀ (i:Nat) (a:A),cells'[i]? = some a→a=.any)→∃ b cs T,(if g < 3 then G.box g else none)=some b∧w.heap[b]? = some (.cells cs T (0,0))∧cs.size=cells'.length ∧
   (∀ (i:Nat) (u:Value),cs[i]? = some u→u.oneCell'=true)∧∀ (i:Nat) (u:Value) (a:A),cs[i]? = some u→cells'[i]? = some a→aD (aA C ⟨fun g=>if g < 3 then G.box g else none,fun _=>none⟩ 3 w) u a:=fun g cells cells' hg M hlen a6=>by
   obtain⟨b,cs,T,q1,q2,q3,q4,_⟩:=hs.box g cells M;exact⟨b,cs,T,by rw[if_pos hg];exact q1,q2,by rw[q3,hlen],q4,fun i u a _ I=>by rw[a6 i a I];exact .any _⟩
  have a7:∀ (g:Nat) (cells:List A),Go.Ab.ah [(0,[A.any,A.any,A.any,A.any,A.any]),(1,[A.any]),(2,[A.any])] g=some cells→∃ b cs T,(if g < 3 then G.box g else none)=some b∧w.heap[b]? = some (.cells cs T (0,0))∧cs.size=cells.length∧(∀ (i:Nat) (u:Value),cs[i]? = some u→u.oneCell'=true)∧∀ (i:Nat) (u:Value) (a:A),cs[i]? = some u→cells[i]? = some a→aD (aA C ⟨fun g=>if g < 3 then G.box g else none,fun _=>none⟩ 3 w) u a:=by
   intro g cells M
   match g,M with
   | 0,M=>cases M;exact hb 0 _ _ (by decide) h0 rfl (fun i a h=>by have:=List.mem_of_getElem? h;simpa using this)
   | 1,M=>cases M;exact hb 1 _ _ (by decide) h1 rfl (fun i a h=>by have:=List.mem_of_getElem? h;simpa using this)
   | 2,M=>cases M;exact hb 2 _ _ (by decide) h2 rfl (fun i a h=>by have:=List.mem_of_getElem? h;simpa using this)
   | g+3,M=>cases M
  have ad:∀ (i b:Nat),C.bx[i]? = some b→(if i < 3 then G.box i else none)=some b:=by
   intro i b h;have hi:i < 3:=by rw[ai] at h;have:=(List.getElem?_eq_some_iff.1 h).1;simpa using this
   rw[if_pos hi];exact hs.lent i b h
  exact { size:=hs.size,frame:=fun t a I=>(by cases I),box:=a7,gbox:=fun g b h=>⟨(J g b h).1,(hs.gbox g b (J g b h).2).2⟩,inj:=fun g g' b h h'=>hs.inj g g' b (J g b h).2 (J g' b h').2,live:=fun g hg=>(by cases hg),gown:=fun g r N=>(by cases N),row:=fun g b len cap sz a8 N=>(by cases N),mrow:=fun g b bs N=>(by cases N),gcell:=fun g b h=>hs.gcell g b (J g b h).2,sub:=fun g b bs c lim N=>(by cases N),xold:=hs.xold,kold:=hs.kold,lent:=ad,fr:=hs.fr }
 refine sC (C:={ C with bx:=[O,b1,U],ds:=[] }) (n:=22) (st:=⟨[(3,.d (.v (gJ 128 a e))),(0,.ptr 0 0),(1,.ptr 1 0),(2,.ptr 2 0)],[(0,[.any,.any,.any,.any,.any]),(1,[.any]),(2,[.any])],[],3⟩) (Q:=fun r st=>r=.normal∧st.lv=[]∧ah st.bx 0=some zc∧ah st.bx 1=some [.d (ci a)]∧ah st.bx 2=some [.d (ci e)]) ⟨_,xH ai X rfl Tryz.ntmps70⟩ ?hW ?hB;case hW=>
  refine W.seq (W.region (pE rfl (pu (FY rfl (by kernel_rfl)) rfl ?_)));refine WO.nil (qs (W.fX rfl (W.seq (W.region (pE rfl ?_)))));refine pu (AO (l:=[.int .i64 (a:Int),.int .i64 e]) aa rfl rfl (fun v Z=>by rcases List.mem_cons.1 Z with rfl | Z;exact hl.1;rcases List.mem_cons.1 Z with rfl | Z;exact hl.2;cases Z) rfl) rfl ?_;iterate 3 refine pE rfl ?_
  refine aQ aa rfl rfl rfl (ar aa rfl rfl rfl rfl rfl rfl rfl rfl (pE rfl (WO.nil (qs ?_))));iterate 2 refine W.seq ?_
  refine W.region ?_;iterate 2 refine pE rfl ?_
  refine WO.nil (qs (W.CK rfl (W.skip (qs ?_))));refine' W.qH aa (fun bx=>[(0,zc)::bx,(1,[.d (ci a)])::(0,zc)::bx]) [[],[]] [4,4] [5,6] 7 (by kernel_rfl) (by kernel_rfl) rfl rfl ?hL_9;case' hL_9=>skip
  refine' bb (Pu.oN (build aa rfl rfl rfl rfl) rfl) ?p_10 rfl rfl rfl (by kernel_rfl) rfl ?h_10;case' h_10=>skip
  refine' bb (ev aa rfl) ?p_11 rfl rfl rfl (by kernel_rfl) rfl ?h_11;case' h_11=>skip
  refine' bb (ev aa rfl) ?p_12 rfl rfl rfl (by kernel_rfl) rfl ?h_12;case' h_12=>skip
  refine' bb (ev aa rfl) ?p_13 rfl rfl rfl (by kernel_rfl) rfl ?h_13;case' h_13=>skip
  refine' bb (ev aa rfl) ?p_14 rfl rfl rfl (by kernel_rfl) rfl ?h_14;case' h_14=>skip
  refine' Et ?x_15 rfl rfl rfl (by kernel_rfl) ?h_15;case x_15=>
   intro b hb g;cases b;·exact(ae hb (by kernel_rfl)).elim
   refine ar aa rfl rfl rfl rfl rfl rfl rfl rfl (WO.nil ?_);refine' Fw rfl ?_ ?_ ?_;all_goals try exact rfl
  case' h_15=>skip
  refine' Et ?x_16 rfl rfl rfl (by kernel_rfl) ?h_16;case x_16=>
   intro b hb g;cases b;·exact(ae hb (by kernel_rfl)).elim
   refine ar aa rfl rfl rfl rfl rfl rfl rfl rfl (WO.nil ?_);refine' Fw rfl ?_ ?_ ?_;all_goals try exact rfl
  case' h_16=>skip
  case p_10=>refine⟨fun I=>(ae I (by kernel_rfl)).elim,?_,fun I=>(ae I (by kernel_rfl)).elim,?_,fun I=>(ae I (by kernel_rfl)).elim,?_⟩ <;> intro I <;> first | exact⟨Pu.oN (build aa rfl rfl rfl rfl) rfl,fun h=>nomatch h⟩ | exact(ae I (by kernel_rfl)).elim
  case p_11=>refine⟨fun I=>(ae I (by kernel_rfl)).elim,?_,fun I=>(ae I (by kernel_rfl)).elim,?_,fun I=>(ae I (by kernel_rfl)).elim,?_⟩ <;> intro I <;> first | exact⟨ev aa rfl,fun h=>nomatch h⟩ | exact(ae I (by kernel_rfl)).elim
  case p_12=>refine⟨fun I=>(ae I (by kernel_rfl)).elim,?_,fun I=>(ae I (by kernel_rfl)).elim,?_,fun I=>(ae I (by kernel_rfl)).elim,?_⟩ <;> intro I <;> first | exact⟨ev aa rfl,fun h=>nomatch h⟩ | exact⟨dL aa rfl rfl rfl rfl,fun h=>nomatch h⟩ | exact⟨dM aa rfl rfl rfl rfl rfl,fun h=>nomatch h⟩ | exact(ae I (by kernel_rfl)).elim
  case p_13=>refine⟨fun I=>(ae I (by kernel_rfl)).elim,?_,fun I=>(ae I (by kernel_rfl)).elim,?_,fun I=>(ae I (by kernel_rfl)).elim,?_⟩ <;> intro I <;> first | exact⟨ev aa rfl,fun h=>nomatch h⟩ | exact(ae I (by kernel_rfl)).elim
  case p_14=>refine⟨fun I=>(ae I (by kernel_rfl)).elim,?_,fun I=>(ae I (by kernel_rfl)).elim,?_,fun I=>(ae I (by kernel_rfl)).elim,?_⟩ <;> intro I <;> first | exact⟨ev aa rfl,fun h=>nomatch h⟩ | exact⟨dL aa rfl rfl rfl rfl,fun h=>nomatch h⟩ | exact⟨dM aa rfl rfl rfl rfl rfl,fun h=>nomatch h⟩ | exact(ae I (by kernel_rfl)).elim
  refine CD.nil ?_ rfl;refine ar aa rfl rfl rfl rfl rfl rfl rfl rfl (WO.nil ?_);exact⟨rfl,rfl,rfl,rfl,rfl⟩
 case hB=>rintro r ⟨t,df⟩ w' ⟨hd,⟨f',bx',lv',gen'⟩,⟨G',X⟩,he,e3,q0,q1,q2⟩;have e3:lv'=[]:=e3;subst he;subst e3;refine⟨hd,_,rfl,_,gh (rs:=[]) Tryz.results70 (vs:=[]) rfl,_,G',bx',gen',rfl,rfl,q0,q1,q2,?_⟩;exact { X with size:=rfl,frame:=fun t a I=>by cases I }
end Go.Proofs.YtpiaiiopakafhaaGreatDoor
namespace Go.Proofs.YtpiaiiopakafhaaGreatDoor
open Go.Ab Go.Tb
set_option maxRecDepth 10000
set_option maxHeartbeats 1000000
attribute [local irreducible] W WO Pu QS QB QL QF QV bA CH QE
def mI (s:ByteArray):A:=if 65536 < s.size then .tup [.ag cG.c,.d (ci 0),.d (ci 7)] else match du (ak s) with
 | .ok v _=>.tup [.ag v.c,.d (ci 0),.d (ci 0)]
 | .no a w=>.tup [.ag cG.c,.d (ci a),.d (ci w)]
def PQ (x:PE JV):Exit→St→Prop:=fun e st=>(match x with
 | .ok v _=>e=.ret∧ah st.bx 0=some (v.c.map .d)∧ah st.bx 1=some [.d (ci 0)]∧ah st.bx 2=some [.d (ci 0)]
 | .no a w=>e=eX (gJ 128 a w)∧∃ x0 I J x3 M N z0,ah st.bx 0=some [x0,I,J,x3,M]∧ah st.bx 1=some [N]∧ah st.bx 2=some [z0]) ∧
 Go.Ab.look st.f 2=some (A.ptr 0 0)∧Go.Ab.look st.f 3=some (A.ptr 1 0)∧Go.Ab.look st.f 4=some (A.ptr 2 0)
theorem Fz {C:Ctx} {n:Nat} {f:List (Nat×A)} {bx:List (Nat×List A)} {lv:List Nat} {gen:Nat} {G:Gh} {tmps:Array Value} {w:World} {c0 J c2:List A} (hs:ax C n ⟨f,bx,lv,gen⟩ G tmps w) (h0:ah bx 0=some c0) (h1:ah bx 1=some J) (h2:ah bx 2=some c2):ax C n ⟨f,[(0,c0),(1,J),(2,c2)],lv,gen⟩ G tmps w:=by
 refine { hs with box:=fun g cells I=>?_ };have I:Go.Ab.ah [(0,c0),(1,J),(2,c2)] g=some cells:=I
 match g,I with
 | 0,I=>cases I;exact hs.box 0 _ h0
 | 1,I=>cases I;exact hs.box 1 _ h1
 | 2,I=>cases I;exact hs.box 2 _ h2
 | g+3,I=>cases I
theorem GI:iQ Tryz.prog 70:=⟨_,Tryz.func70,by kernel_rfl,rfl⟩
theorem CZ (M b1 N:Nat) (w:World):(invoke (.fn (.func 70) #[pp M,pp b1,pp N]) #[]).run Tryz.prog w=.ok (.enter 70 #[pp M,pp b1,pp N]) w:=by obtain⟨fn,O,I,J⟩:=GI;simp only[invoke,callFunc,Sem.run_bind,Sem.run_pure,Result.andThen_ok,run_program,O,I,J,Bool.false_eq_true,if_false,Array.empty_append]
theorem B1 (s:ByteArray):ay Tryz.prog 23 [.d (.v (.string s))] (mI s) 0:=by
 refine ay.Gf (n:=34) Tryz.func23 (by kernel_rfl) rfl Tryz.ntmps23 rfl fun C hC hG O U=>?_;refine W'.seq ?_;refine W.region ?_;iterate 3 refine aQ aa rfl rfl rfl ?_
 refine WO.nil (W'.seq ?_);refine W.seq (W.region ?_);iterate 3 refine pE rfl ?_
 refine WO.nil (qs (ab rfl (fun h8=>?_) (fun h8=>?_)));·
  refine W.seq (W.region (pu (build aa rfl rfl rfl rfl) rfl ?_));refine gf 9 rfl rfl rfl ?_;iterate 3 refine ar aa rfl rfl rfl rfl rfl rfl rfl rfl ?_
  refine WO.nil (qs (W.ret ?_));intro tmps w ⟨G,hs⟩;have hg:mI s=.tup [.ag cG.c,.d (ci 0),.d (ci 7)]:=by unfold mI;rw[if_pos (by simp at h8;omega)]
  show Leaves _ _ tmps _ C.ds .returning w;rw[U,hg];exact Cm aa (rs:=[.cell 2 46,.cell 3 3,.cell 4 31]) hs O Tryz.results23 rfl rfl
 have a8:¬ 65536 < s.size:=by simp at h8;omega
 have X:s.size≤1000000000:=by omega
 have b3:mI s=match du (ak s) with | .ok v _=>.tup [.ag v.c,.d (ci 0),.d (ci 0)] | .no a w=>.tup [.ag cG.c,.d (ci a),.d (ci w)]:=by unfold mI;rw[if_neg a8]
 refine W.skip (W'.zE ?_);refine oL.pu rfl rfl (ev aa rfl) ?_;refine oL.Bf rfl (fun I b1 J tmps w G hs e0 e1 e2=>?_);have c1:NB { C with bx:=[I,b1,J],ds:=pJ 70 I b1 J::C.ds } 3:=⟨rfl⟩;have a6:GC Tryz.prog { C with bx:=[I,b1,J],ds:=pJ 70 I b1 J::C.ds }:=hG.vo;refine sC (C:={ C with bx:=[I,b1,J],ds:=pJ 70 I b1 J::C.ds }) (n:=34) (Q:=PQ (du (ak s))) ⟨G,hs.vo (fun i b hb=>?hl)⟩ ?hW ?hB;case hl=>
  match i,hb with
  | 0,hb=>cases hb;exact e0
  | 1,hb=>cases hb;exact e1
  | 2,hb=>cases hb;exact e2
  | i+3,hb=>cases hb
 case hW=>
  refine W.seq (W.region (pE rfl (pu (build aa rfl rfl rfl rfl) rfl ?_)));refine bK rfl rfl rfl (pE rfl (WO.nil (qs (W.seq (W.region (pE rfl ?_))))))
  cases hc15:cA (ak s) (3*(ak s).length+1) 1 0 with
  | no ch cj=>
   have hp:du (ak s)=.no ch cj:=by unfold du;rw[hc15]
   refine nY [3] [] rfl rfl rfl rfl rfl ((vq s X).fu (aN hc15)) rfl rfl (by rfl) ?_;repeat' refine b4 ?_
   rw[hp];exact⟨⟨rfl,_,_,_,_,_,_,_,rfl,rfl,rfl⟩,rfl,rfl,rfl⟩
  | ok cl i15=>
   have hb:=(lI (ak s) (3*(ak s).length+1)).v 1 0 (Nat.zero_le _);rw[hc15] at hb;have hi:i15≤s.size:=by have:=hb.2;rwa [au] at this
   refine aK [3] [] rfl rfl rfl rfl rfl ((vq s X).ret (aV hc15)) rfl rfl (by rfl) (by rfl) rfl rfl rfl rfl ?_;refine ar aa rfl rfl rfl rfl rfl rfl rfl rfl (WO.nil (qs ?_));iterate 2 refine W.seq ?_
   refine W.region (pE rfl (aK [3] [] rfl rfl rfl rfl rfl ((jO s i15 hi X)) rfl rfl (by rfl) (by rfl) rfl rfl rfl rfl ?_));iterate 2 refine pE rfl ?_
   refine ku rfl rfl (fun g19=>?_) (fun g19=>?_);·
    iterate 7 refine aE rfl rfl rfl rfl ?_
    refine pE rfl (WO.nil (qs (W.fX rfl (W.region ?_))));iterate 3 refine pE rfl ?_
    refine pE rfl ?_;have N:az (ak s) i15 < (ak s).length:=b9 fun e=>by rw[e] at g19;simp at g19
    have hp:du (ak s)=.no (az (ak s) i15) 10:=by unfold du;rw[hc15];dsimp only;rw[if_pos N]
    refine nY [] [] rfl rfl rfl rfl rfl (cM (az (ak s) i15) 10) rfl rfl (by rfl) ?_;repeat' refine b4 ?_
    rw[hp];exact⟨⟨rfl,_,_,_,_,_,_,_,rfl,rfl,rfl⟩,rfl,rfl,rfl⟩
   refine aH rfl rfl (pE rfl (aH rfl rfl (pE rfl (aH rfl rfl (pE rfl (aH rfl rfl (pE rfl (aH rfl rfl (pE rfl (aH rfl rfl (pE rfl (aH rfl rfl ?_))))))))))));iterate 2 refine pE rfl ?_
   refine WO.nil (qs (ab rfl (fun Z=>?_) (fun Z=>?_)));·
    refine W.region ?_;iterate 3 refine pE rfl ?_
    refine pE rfl ?_;have N:az (ak s) i15 < (ak s).length:=by rw[au];simp at Z;omega
    have hp:du (ak s)=.no (az (ak s) i15) 10:=by unfold du;rw[hc15];dsimp only;rw[if_pos N]
    refine nY [] [] rfl rfl rfl rfl rfl (cM (az (ak s) i15) 10) rfl rfl (by rfl) ?_;repeat' refine b4 ?_
    rw[hp];exact⟨⟨rfl,_,_,_,_,_,_,_,rfl,rfl,rfl⟩,rfl,rfl,rfl⟩
   have N:¬ az (ak s) i15 < (ak s).length:=by rw[au];simp at Z;omega
   have hp:du (ak s)=.ok cl 0:=by unfold du;rw[hc15];dsimp only;rw[if_neg N]
   refine W.skip (qs (W.seq (W.region (pE rfl ?_))));iterate 3 refine ar aa rfl rfl rfl rfl rfl rfl rfl rfl ?_
   refine WO.nil (qs (W.ret ?_));rw[hp];exact⟨⟨rfl,rfl,rfl,rfl⟩,rfl,rfl,rfl⟩
 case hB=>
  rintro e ⟨M,df⟩ w2 ⟨ad,⟨f2,cq,c6,a7⟩,⟨G2,ai⟩,hq,k0,k1,k2⟩;have ad:df=pJ 70 I b1 J::C.ds:=ad;subst ad;have aj:ax { C with bx:=[I,b1,J],ds:=pJ 70 I b1 J::C.ds } 34 ⟨f2,cq,[],a7⟩ G2 M w2:={ ai with live:=fun g h=>by cases h };rw[b3];have hE:=xI (l:=ak s);have cx:=fun a w=>Bp (l:=ak s) (a:=a) (w:=w)
  cases hA:du (ak s) with
  | ok v i=>rw[hA] at hq;obtain⟨rfl,q0,q1,q2⟩:=hq;show Leaves _ _ M _ (pJ 70 I b1 J::C.ds) .returning w2;rw[U];refine leaves_cons (by simp) (CZ I b1 J w2) (CallsD.mono (DU a6 rfl aj) ?_);rintro r u' w3 ⟨v3,G3,rfl,rfl,a1⟩;exact rN aa (rs:=[.cell 2 46,.cell 3 3,.cell 4 31]) O ai k0 k1 k2 (Fz a1 q0 q1 q2) Tryz.results23 rfl rfl
  | no a w=>
   rw[hA] at hq hE;obtain⟨rfl,x0,x1,x2,x3,x4,y0,z0,q0,q1,q2⟩:=hq;have ha:a≤s.size:=by have:=cx a w hA;rwa [au] at this
   have hw:cu (.int .i64 (a:Int))=true∧cu (.int .i64 w)=true:=by refine⟨by simp[cu,IntKind.min,IntKind.max,IntKind.signed,IntKind.bits];omega,?_⟩;rcases hE with rfl | rfl | rfl | rfl <;> rfl
   show Leaves _ _ M _ (pJ 70 I b1 J::C.ds) (.panicking [{ v:=gJ 128 a w,recovered:=false }]) w2;rw[U];refine leaves_cons (by simp) (CZ I b1 J w2) (CallsD.mono (DI a6 hw rfl aj q0 q1 q2) ?_);rintro r u' w3 ⟨v3,G3,c7,cy,rfl,rfl,r0,r1,r2,a1⟩;exact rN aa (rs:=[.cell 2 46,.cell 3 3,.cell 4 31]) O ai k0 k1 k2 (Fz a1 r0 r1 r2) Tryz.results23 rfl rfl
end Go.Proofs.YtpiaiiopakafhaaGreatDoor
namespace Go.Proofs.YtpiaiiopakafhaaGreatDoor
open Go.Ab Go.Tb
set_option maxRecDepth 10000
set_option maxHeartbeats 1000000
attribute [local irreducible] W WO Pu QS QB QL QF QV bA CH QE
theorem BI (s:ByteArray):∃ (v:JV) (a e:Int),ay Tryz.prog 23 [.d (.v (.string s))] (.tup [.ag v.c,.d (ci a),.d (ci e)]) 0∧(e≠0→iP s=(jD,e))∧(e=0→s.size≤65536∧∃ i,du (ak s)=.ok v i):=by
 have h:=B1 s;unfold mI at h;by_cases hs:65536 < s.size;·
  rw[if_pos hs] at h;exact⟨_,_,_,h,fun _=>by unfold iP;rw[if_pos hs],fun q=>by cases q⟩
 rw[if_neg hs] at h
 cases hp:du (ak s) with
 | ok v i=>rw[hp] at h;exact⟨v,_,_,h,fun q=>absurd rfl q,fun _=>⟨by omega,i,rfl⟩⟩
 | no a w=>rw[hp] at h;have hw:=xI (l:=ak s);rw[hp] at hw;have hw:w=2∨w=4∨w=10∨w=20:=hw;exact⟨_,_,_,h,fun _=>by unfold iP;rw[if_neg hs,hp],fun q=>by omega⟩
theorem zY {z:fk} {id:Int} {cur:List Ev} {ps:List bl} (h:cur=[]→dW z id=[]) (q:cur.map Ev.c=[]) :
 ([[.own 3 ((ps++dW z id).map bl.c)],[.d (ci id)],[.d (ci (cur.length:Int))]]:List (List A))=[[.own 3 (ps.map bl.c)],[.d (ci id)],[.d (ci 0)]]∧1=1:=by
 have q:cur=[]:=by simpa using q
 rw[h q,q,List.append_nil];exact⟨rfl,rfl⟩
set_option maxHeartbeats 1000000 in
theorem x5 (s:ByteArray) (di:∀ v i,du (ak s)=.ok v i→yK v):ay Tryz.prog 9 [.d (.v (.string s))] (.tup [.ag (iP s).1.c,.d (ci (iP s).2)]) 0:=by
 obtain⟨v,a,e,hP,dj,dt⟩:=BI s;refine ay.FX aa (n:=107) (rs:=[.cell 2 30,.tmp 3]) Tryz.func9 (by kernel_rfl) rfl Tryz.ntmps9 Tryz.results9 rfl fun C I J=>?_;haveI hC:NB C 0:=⟨by rw[I];rfl⟩;refine Wd.gP I fun C hC J=>?_;refine W.region (aQ aa rfl rfl rfl (pE rfl (WO.nil (jA rfl ?_))));refine Wd.gP I fun C hC J=>?_;refine W.region (pE rfl (pu (ao rfl rfl rfl hP rfl) rfl ?_));iterate 4 refine pE rfl ?_
 refine aQ aa rfl rfl rfl (ar aa rfl rfl rfl rfl rfl rfl rfl rfl ?_);iterate 2 refine pE rfl ?_
 refine WO.nil (jA rfl ?_);refine Wd.gP I fun C hC J=>?_;refine W.seq (W.region ?_);iterate 2 refine pE rfl ?_
 refine WO.nil (qs (ab rfl (fun aj=>?_) (fun aj=>?_)));·
  have hg:=dj (by simpa using aj);refine W.seq (W.region (pu (fV (build aa rfl rfl rfl rfl) rfl) rfl ?_));refine pE rfl (ar aa rfl rfl rfl rfl rfl rfl rfl rfl (pE rfl (WO.nil (qs (W.ret (tW rfl ?_))))));refine vY ?_;refine⟨trivial,_,rfl,?_⟩;rw[hg];rfl
 have dx:e=0:=by simpa using aj
 obtain⟨e3,i,cl⟩:=dt dx;have O:=di v i cl;have X:iP s=if v.op≠5 then (jD,10) else if (dp v.kids x0).2≠0 then (jD,(dp v.kids x0).2) else e7 ((dp v.kids x0).1.ids.map (kB (dp v.kids x0).1)) ((dp v.kids x0).1.ids.flatMap (dW (dp v.kids x0).1)):=by unfold iP;rw[if_neg (by omega),cl]
 refine W.skip (jA rfl ?_);refine Wd.gP I fun C hC J=>?_;refine W.seq (W.region (pE rfl (pE rfl (pE rfl (WO.nil (qs (ab rfl (fun a1=>?_) (fun a1=>?_))))))));·
  have hg:iP s=(jD,10):=by rw[X,if_pos (by simpa using a1)]
  refine W.seq (W.region (pu (fV (build aa rfl rfl rfl rfl) rfl) rfl ?_));refine ar aa rfl rfl rfl rfl rfl rfl rfl rfl (pE rfl (WO.nil (qs (W.ret (tW rfl ?_)))));refine vY ?_;refine⟨trivial,_,rfl,?_⟩;rw[hg];rfl
 have ed:¬ v.op≠5:=by simpa using a1
 rw[if_neg ed] at X;refine W.skip (jA rfl ?_);refine Wd.gP I fun C hC J=>?_;refine W.region (mkMap rfl ?_);refine FF rfl ?_;refine pu (build aa rfl rfl rfl rfl) rfl ?_;refine bK rfl rfl rfl (pE rfl (WO.nil (jA rfl ?_)));refine Wd.gP I fun C hC J=>?_;refine W.seq (W.region (pE rfl (pE rfl ?_)));iterate 2 refine pE rfl ?_
 refine WO.nil (qs (W.block (ez 4 0 rfl rfl rfl ?_)));refine W.len (t:=37) rfl rfl (fun hlen=>?_);try simp only[List.length_map,Ex.aF] at hlen
 refine W.bh (ι:={x:Nat×fk // match x with | (k,z)=>k≤v.kids.length∧dp (v.kids.drop k) z=dp v.kids x0∧sR k z∧Eg z})
  (fun x=>match x.1 with | (k,z)=>[(2,.ptr 0 0),(7,.ptr 1 0),(39,.d (.v (.int .i64 ((k:Nat):Int))))]) [(37,_),(38,_)]
  (fun x=>match x.1 with | (k,z)=>[(0,[.d (.v (.slice none 0 0)),.d (.v (.slice none 0 0)),.d (.v (.slice none 0 0)),.d (.v (.slice none 0 0))]),(1,rO 2 z)]) [] [2,3,4] 5 (fun x=>match x.1 with | (k,z)=>v.kids.length - k)
  [0,4,5,2,3] ⟨(0,x0),?_⟩ rfl ?_ ⟨rfl,rfl,rfl,rfl,trivial⟩ ?_ trivial rfl ?_
 ·exact⟨Nat.zero_le _,rfl,⟨List.nodup_nil,List.nodup_nil,Nat.le_refl _,by simp[x0]⟩,List.nodup_nil,by simp[x0]⟩
 ·repeat' first | exact trivial | refine⟨rfl,?_⟩
 ·repeat' first | exact trivial | refine⟨rfl,?_⟩
 rintro⟨⟨k,z⟩,hk,N,M,cq⟩;show W _ _ _ _ _ ⟨[(2,.ptr 0 0),(7,.ptr 1 0),(39,.d (.v (.int .i64 ((k:Nat):Int)))),(37,_),(38,_)],[(0,[.d (.v (.slice none 0 0)),.d (.v (.slice none 0 0)),.d (.v (.slice none 0 0)),.d (.v (.slice none 0 0))]),(1,rO 2 z)],[2,3,4],5⟩;refine W.seq (W.region (pE rfl (WO.nil (qs (W.seq (bu (l:=v.kids) (k:=k) rfl (by simp[JV.aF]) hk (fun j U hd a6=>?_) (fun he hd=>?_)))))));·
  have ei:ra j:=O.kids j (List.mem_of_getElem? U);have ej:=O.tids j (List.mem_of_getElem? U);have e4:=O.len;have e5:v.kids.length≤maxLen:=by simp only[maxLen];omega
  have en:sR 1000000 z:=⟨M.1,M.2.1,by have:=M.2.2.1;omega,fun p hp=>by have:=M.2.2.2 p hp;omega⟩;rw[hd,dp] at N;refine W.skip (qs (W.seq (W.block (W.seq (W.region (pu (indexAddr (l:=j.c) aa rfl rfl rfl rfl rfl rfl (Int.natCast_nonneg _) (JV.zh U) rfl) rfl ?_))))));refine pE rfl (aQ aa rfl rfl rfl (ar aa rfl rfl rfl rfl rfl rfl rfl rfl (WO.nil (qs (W.seq (W.region (pE rfl (pE rfl (aK [1] [2,3,4] rfl rfl rfl rfl rfl ((zt z j ei en)) rfl rfl (by rfl) (by rfl) rfl rfl rfl rfl ?_)))))))));refine pE rfl (WO.nil (qs (W.seq (W.region ?_))));iterate 2 refine pE rfl ?_
  refine WO.nil (qs (ab rfl (fun a7=>?_) (fun a7=>?_)));·
   have a8:(dN z j).2≠0:=by simpa using a7
   rw[if_pos a8] at N;have hg:iP s=(jD,(dN z j).2):=by rw[X,if_pos (by rw[←N];exact a8),←N]
   refine W.seq (W.region (pu (fV (build aa rfl rfl rfl rfl) rfl) rfl ?_));refine pE rfl (ar aa rfl rfl rfl rfl rfl rfl rfl rfl (pE rfl (WO.nil (qs (W.ret (aC (an (cn (aC (tW rfl ?_))))))))));refine vY ?_;refine⟨trivial,_,rfl,?_⟩;rw[hg];rfl
  rw[if_neg (by simpa using a7)] at N;refine W.skip (be (qs (W.region ?_)));iterate 2 refine pE rfl ?_
  refine WO.nil (W.bt [0,1,7,8,9] ⟨(k+1,(dN z j).1),?_⟩ ?_ rfl ?_ ⟨rfl,rfl,rfl,rfl,trivial⟩ ?_ trivial rfl);·exact⟨a6,N,CG M j,Bq cq ej⟩
  ·dsimp only;omega
  ·repeat' first | exact trivial | refine⟨rfl,?_⟩ | refine⟨aL (by assumption) (by assumption),?_⟩
  repeat' first | exact trivial | refine⟨rfl,?_⟩
 rw[hd] at N;have N:(z,0)=dp v.kids x0:=N;have Z:=O.evs;rw[←N] at Z X;have Z:=Z rfl;have X:iP s=e7 (z.ids.map (kB z)) (z.ids.flatMap (dW z)):=X;have ai:=EO Z;have e6:z.ids.length≤maxLen:=by have:=M.2.2.1;have:=O.len;simp only[maxLen];omega
 have e2:z.ids.length≤100000:=by have:=M.2.2.1;have:=O.len;omega
 refine W.exit (aW (aT (aS (jA rfl ?_))));refine Wd.gP I fun C hC J=>?_;refine W.region (pu (fV (build aa rfl rfl rfl rfl) rfl) rfl ?_);refine pu (ba aa rfl rfl rfl rfl rfl rfl rfl rfl rfl) rfl ?_;refine pu (build aa rfl rfl rfl rfl) rfl ?_;refine aQ aa rfl rfl rfl (ar aa rfl rfl rfl rfl rfl rfl rfl rfl (WO.nil (jA rfl ?_)));refine Wd.gP I fun C hC J=>?_;refine W.region (aQ aa rfl rfl rfl (WO.nil (jA rfl ?_)));refine Wd.seq ?_;refine Wd.gP I fun C hC J=>?_;refine ez 5 0 rfl rfl rfl ?_;refine gY 5 2 rfl rfl rfl ?_;refine ez 6 0 rfl rfl rfl ?_;refine W.region ?_;iterate 3 refine pE rfl ?_
 refine pE rfl ?_;iterate 2 refine pE rfl ?_
 refine WO.nil (jA rfl ?_);refine Wd.block ?_
 refine Wd.bh (ι:={x:Nat×List cf×List bl // match x with | (k,ts,ps)=>k≤z.ids.length∧ts=(z.ids.take k).map (kB z)∧ps=(z.ids.take k).flatMap (dW z)})
  (fun x=>match x.1 with | (k,ts,ps)=>[(2,.ptr 0 0),(7,.ptr 1 0),(11,.ptr 2 0),(12,.ptr 3 0),(57,.own 4 (z.ids.map ic)),(59,.d (.v (.int .i64 ((k:Nat):Int))))]) [(58,_)]
  (fun x=>match x.1 with | (k,ts,ps)=>[(0,[.d (.v (.slice none 0 0)),.d (.v (.slice none 0 0)),.d (.v (.slice none 0 0)),.d (.v (.slice none 0 0))]),(1,rO 4 z),(2,[.own 7 (ts.map cf.c),.d (.sl (dS.map eQ)),.d (.sl [])]),(3,[.own 8 (ps.map bl.c)])]) [] [4,5,6,7,8] 9 (fun x=>match x.1 with | (k,ts,ps)=>z.ids.length - k)
  [0,1,5,6,2,3,4,7,8] ⟨(0,[],[]),?_⟩ rfl ?_ ⟨rfl,rfl,trivial⟩ ?_ trivial rfl ?_
 ·exact⟨Nat.zero_le _,rfl,rfl⟩
 ·repeat' first | exact trivial | refine⟨rfl,?_⟩
 ·repeat' first | exact trivial | refine⟨rfl,?_⟩
 rintro⟨⟨k,ts,ps⟩,hk,b0,b2⟩;show Wd _ _ _ _ _ ⟨[(2,.ptr 0 0),(7,.ptr 1 0),(11,.ptr 2 0),(12,.ptr 3 0),(57,.own 4 (z.ids.map ic)),(59,.d (.v (.int .i64 ((k:Nat):Int)))),(58,_)],[(0,[.d (.v (.slice none 0 0)),.d (.v (.slice none 0 0)),.d (.v (.slice none 0 0)),.d (.v (.slice none 0 0))]),(1,rO 4 z),(2,[.own 7 (ts.map cf.c),.d (.sl (dS.map eQ)),.d (.sl [])]),(3,[.own 8 (ps.map bl.c)])],[4,5,6,7,8],9⟩;refine Wd.gP I fun C hC J=>?_;refine W.region (pE rfl (WO.nil (jA rfl ?_)));refine Wd.gP I fun C hC J=>?_;refine bu (l:=z.ids) (k:=k) rfl (by simp[Ex.aF,au]) hk (fun id U hd a6=>?_) (fun he hd=>?_);·
  have hid:=cq.2 id (List.mem_of_getElem? U);obtain⟨cur,ad⟩:∃ cur,cur=(bT z.evs id).getD []:=⟨_,rfl⟩;have cx:cur≠[]→dW z id=[⟨id,0,0,cur⟩]:=fun q=>by unfold dW;rw[←ad,if_neg q]
  have c6:cur=[]→dW z id=[]:=fun q=>by unfold dW;rw[←ad,if_pos q]
  have cy:(cur.map Ev.c).length≤1000:=by
   rw[List.length_map];by_cases q:cur=[];·simp[q]
   have hm:(⟨id,0,0,cur⟩:bl)∈z.ids.flatMap (dW z):=List.mem_flatMap.2 ⟨id,List.mem_of_getElem? U,by rw[cx q];exact List.mem_singleton.2 rfl⟩;exact Nat.le_trans (xo hm) Z
  have ff:ts.length≤100000:=by rw[b0,List.length_map,List.length_take];omega
  have fj:ps.length≤100000:=by rw[b2];exact nk z (z.ids.take k) (by rw[List.length_take];omega)
  have e0:ts++[kB z id]=(z.ids.take (k+1)).map (kB z):=by rw[b0,List.take_add_one,U,List.map_append];rfl
  have e1:ps++dW z id=(z.ids.take (k+1)).flatMap (dW z):=by rw[b2,List.take_add_one,U,List.flatMap_append];simp
  have c1:nameOf z.names id=if (bT z.names id).getD bq=bq then B #[116]++dv id else (bT z.names id).getD bq:=rfl;refine W.skip (jA rfl ?_);refine Wd.seq ?_;refine Wd.block ?_;refine Wd.gP I fun C hC J=>?_;refine W.region (pu (indexAddr aa rfl rfl rfl rfl rfl rfl (Int.natCast_nonneg _) (aM (f:=ic) U) rfl) rfl ?_);refine pE rfl (aQ aa rfl rfl rfl (ar aa rfl rfl rfl rfl rfl rfl rfl rfl (WO.nil (jA rfl ?_))));refine Wd.gP I fun C hC J=>?_;refine W.ey aa (by kernel_rfl) ?_;iterate 3 refine aJ (ev aa rfl) rfl ?_
  refine aJ (ev aa rfl) rfl ?_;refine aJ (ev aa rfl) rfl ?_;refine aJ (lB (kf:=ik) (vf:=cs) (l:=z.names) (a:=id) (z:=bq) aa rfl rfl rfl rfl rfl (gd (aa.fw rfl rfl)) rfl rfl rfl (fun _ _=>.v _ rfl) M.1 rfl) rfl ?_;refine aJ (ev aa rfl) rfl ?_;refine CH.nil ?_;refine jA rfl ?_;refine Wd.gP I fun C hC J=>?_;refine W.seq (W.region ?_);iterate 2 refine pE rfl ?_
  refine WO.nil (qs (W.mh [(2,.ptr 0 0),(7,.ptr 1 0),(11,.ptr 2 0),(12,.ptr 3 0),(14,.ptr 4 0),(15,.d (cs (nameOf z.names id))),(57,.own 5 (z.ids.map ic))] [58,59] [(0,[.d (.v (.slice none 0 0)),.d (.v (.slice none 0 0)),.d (.v (.slice none 0 0)),.d (.v (.slice none 0 0))]),(1,rO 5 z),(2,[.own 8 (ts.map cf.c),.d (.sl (dS.map eQ)),.d (.sl [])]),(3,[.own 9 (ps.map bl.c)]),(4,[.d (ci id)])] [] [5,6,7,8,9] 10 ?_ ?_));·
   refine ab rfl (fun b3=>?_) (fun b3=>?_);·
    have ch:(bT z.names id).getD bq=bq:=of_decide_eq_true b3;rw[show nameOf z.names id=B #[116]++dv id from by rw[c1,if_pos ch]];refine W.region (pE rfl (pu (ao rfl rfl rfl (mF id (by omega) (by omega)) rfl) rfl ?_));refine pu (Fb (p:=B #[116]) (q:=dv id) rfl rfl (Ef hid)) rfl ?_;refine pE rfl (WO.nil (cO [0,1,2,3,9,4,5,6,7,8] rfl ?_ ⟨rfl,rfl,rfl,rfl,trivial⟩ ?_ trivial rfl));·repeat' first | exact trivial | refine⟨rfl,?_⟩
    repeat' first | exact trivial | refine⟨rfl,?_⟩
   have ch:¬ (bT z.names id).getD bq=bq:=of_decide_eq_false b3;rw[show nameOf z.names id=(bT z.names id).getD bq from by rw[c1,if_neg ch]];refine W.skip (cO [0,1,2,3,9,4,5,6,7,8] rfl ?_ ⟨rfl,rfl,rfl,rfl,trivial⟩ ?_ trivial rfl);·repeat' first | exact trivial | refine⟨rfl,?_⟩
   repeat' first | exact trivial | refine⟨rfl,?_⟩
  refine jA rfl ?_;refine Wd.gP I fun C hC J=>?_;refine W.region (pE rfl (pE rfl (pE rfl (pE rfl (pu (build aa rfl rfl rfl rfl) rfl ?_)))));refine pu (ba aa rfl rfl rfl rfl rfl rfl rfl rfl rfl) rfl ?_;refine eE (fn:=cf.c) (a:=kB z id) aa rfl rfl rfl rfl rfl rfl rfl rfl rfl rfl (fun _=>rfl) (by show(ts.length+1)*32≤_;omega) ?_;refine pE rfl (ar aa rfl rfl rfl rfl rfl rfl rfl rfl (WO.nil (jA rfl ?_)));refine Wd.gP I fun C hC J=>?_;refine W.region (aQ aa rfl rfl rfl (ar aa rfl rfl rfl rfl rfl rfl rfl rfl (WO.nil (jA rfl ?_))));refine Wd.gP I fun C hC J=>?_;refine W.ey aa (by kernel_rfl) ?_;iterate 3 refine aJ (ev aa rfl) rfl ?_
  refine aJ (ev aa rfl) rfl ?_;refine aJ (ev aa rfl) rfl ?_;refine aJ (B7 (kf:=ik) (fn:=Ev.c) (l:=z.evs) (a:=id) (r:=cur.map Ev.c) aa rfl rfl rfl rfl rfl (gd (aa.fw rfl rfl)) rfl rfl rfl M.2.1 (by rw[ad])) rfl ?_;refine aJ (ao rfl rfl rfl (Cs cur) rfl) rfl ?_;refine CH.nil ?_;refine jA rfl ?_;refine Wd.block ?_;refine Wd.EH (V:=[(12,.ptr 0 0),(14,.ptr 1 0),(16,.ptr 2 0)]) (es:=cur.map Ev.c) (b1:=[[.own 3 ((ps++dW z id).map bl.c)],[.d (ci id)],[.d (ci (cur.length:Int))]]) (k:=1) rfl ⟨_,Tryz.func77,by kernel_rfl,by kernel_rfl⟩ BO AQ cy rfl rfl [3,4,11] [9] rfl rfl rfl rfl rfl (z7.look ⟨⟨_,rfl,rfl⟩,⟨_,rfl,rfl⟩,⟨_,rfl,rfl⟩,trivial⟩) rfl (zY c6) (fun cj=>?_) rfl ?_;have cj:cur≠[]:=by simpa using cj
  rw[show dW z id=[⟨id,0,0,cur⟩] from cx cj];·
   refine nR.GS rfl rfl rfl fun C hC J=>?_;refine pE rfl (pE rfl (pE rfl (pE rfl (pu (build aa rfl rfl rfl rfl) rfl ?_))));refine pu (ba aa rfl rfl rfl rfl rfl rfl rfl rfl rfl) rfl ?_;refine eE (fn:=bl.c) (a:=⟨id,0,0,cur⟩) aa rfl rfl rfl rfl rfl rfl rfl rfl rfl rfl (fun _=>rfl) (by show(ps.length+1)*48≤_;omega) ?_;refine ar aa rfl rfl rfl rfl rfl rfl rfl rfl (WO.nil (⟨rfl,?_⟩));refine pE rfl ?_;iterate 2 refine pE rfl ?_
   refine pu (cU (ev aa rfl) (y:=(cur.length:Int)) (by show IntKind.i64.wrap ((0:Int)+((cur.map Ev.c).length:Nat))=_;rw[List.length_map] at cy ⊢;rw[wrap64 (by omega)];omega)) rfl ?_;refine ar aa rfl rfl rfl rfl rfl rfl rfl rfl (WO.nil (⟨rfl,QR.mk' [4] rfl rfl rfl ⟨⟨_,rfl,rfl⟩,⟨_,rfl,rfl⟩,⟨_,rfl,rfl⟩,trivial⟩⟩))
  refine be (be (Gj ?_));refine Wd.EP I fun C hC J=>?_;refine W.region ?_;iterate 2 refine pE rfl ?_
  refine WO.nil (GW rfl ?_);refine Wd.bt [0,1,2,3,5,6,7,10,15] ⟨(k+1,ts++[kB z id],ps++dW z id),?_⟩ ?_ rfl ?_ ⟨rfl,rfl,trivial⟩ ?_ trivial rfl;·exact⟨a6,e0,e1⟩
  ·dsimp only;omega
  ·repeat' first | exact trivial | refine⟨rfl,?_⟩ | refine⟨aL (by assumption) (by assumption),?_⟩
  repeat' first | exact trivial | refine⟨rfl,?_⟩
 have c7:ts=z.ids.map (kB z):=by rw[b0,List.take_of_length_le (by omega)]
 have df:ps=z.ids.flatMap (dW z):=by rw[b2,List.take_of_length_le (by omega)]
 have ai:sZ (z.ids.map (kB z)) (z.ids.flatMap (dW z)):=ai;rw[←c7,←df] at ai X;refine W.exit (El rfl ?_);refine DB ?_;refine D8 ?_;refine aS (Gj ?_);refine Wd.gP I fun C hC J=>?_;refine W.region (pE rfl (pE rfl (pu (ao rfl rfl rfl (zL ts ps ai) rfl) rfl ?_)));iterate 2 refine pE rfl ?_
 refine ar aa rfl rfl rfl rfl rfl rfl rfl rfl (pE rfl (WO.nil (jA rfl ?_)));refine Wd.EP I fun C hC J=>?_;refine W.ret (tW rfl ?_);refine⟨trivial,_,rfl,?_⟩;rw[X];rfl
end Go.Proofs.YtpiaiiopakafhaaGreatDoor
namespace Go.Proofs.YtpiaiiopakafhaaGreatDoor
open Go.Ab Go.Tb
set_option maxRecDepth 10000
set_option maxHeartbeats 1000000
attribute [local irreducible] W WO Pu QS QB QL QF QV bA CH QE
abbrev A2:ByteArray:=B #[91,123,34,112,104,34,58,34,77,34,44,34,116,105,100,34,58,51,44,34,110,97,109,101,34,58,34,109,97,105,110,34,125,44,123,34,112,104,34,58,34,66,34,44,34,116,105,100,34,58,51,44,34,110,97,109,101,34,58,34,97,34,44,34,116,115,34,58,53,125,44,123,34,112,104,34,58,34,69,34,44,34,116,105,100,34,58,51,44,34,116,115,34,58,57,125,93]
abbrev EB:ByteArray:=B #[91,123,34,112,104,34,58,34,69,34,44,34,116,105,100,34,58,51,44,34,116,115,34,58,57,44,34,110,97,109,101,34,58,34,97,34,125,93]
abbrev si:List cf:=[⟨3,B #[109,97,105,110]⟩]
abbrev rR:List bl:=[⟨3,0,0,[⟨5,1,B #[97],0,0,[]⟩,⟨9,2,B #[],0,0,[]⟩]⟩]
theorem GU:iP A2=(⟨si,dS,rR⟩,0):=by kernel_rfl
theorem GV:(iP EB).2=10:=by kernel_rfl
theorem GQ:(iP (B #[91,93])).2=8:=by kernel_rfl
theorem GR:kZ si rR=(A2,0):=by kernel_rfl
theorem Gx:sZ si rR:=⟨by decide,by decide,by decide⟩
theorem GD:(aB (jM si rR)).length≤1000000000000:=by
 have:(aB (jM si rR)).length=97:=by kernel_rfl
 omega
theorem x9 (s:ByteArray) (h:s.size≤3000):ay Tryz.prog 9 [.d (.v (.string s))] (.tup [.ag (iP s).1.c,.d (ci (iP s).2)]) 0:=x5 s fun v i hp=>yd hp h
theorem sX:ay Tryz.prog 8 [] (.d (.v (.bool true))) 0:=by
 have h1:=x9 A2 (by decide);rw[GU] at h1;have h2:=x9 EB (by decide);rw[GV] at h2;have h3:=x9 (B #[91,93]) (by decide);rw[GQ] at h3;have h4:=yW si rR Gx (fun _=>GD);rw[GR] at h4;refine ay.aZ (n:=75) (ts:=[0]) Tryz.func8 (by kernel_rfl) rfl Tryz.ntmps8 Tryz.results8 rfl rfl fun C hC I=>?_;refine W.seq (W.region (pE rfl (WO.nil (qs (W.seq (W.region (pu (ao rfl rfl rfl h1 rfl) rfl ?_)))))));iterate 3 refine pE rfl ?_
 refine aQ aa rfl rfl rfl (ar aa rfl rfl rfl rfl rfl rfl rfl rfl (pE rfl (WO.nil (qs (W.seq (W.region (pE rfl (pu (ao rfl rfl rfl h4 rfl) rfl ?_))))))));iterate 5 refine pE rfl ?_
 refine WO.nil (qs (W.seq (W.region (pu (ao rfl rfl rfl h2 rfl) rfl ?_))));iterate 3 refine pE rfl ?_
 refine aQ aa rfl rfl rfl (ar aa rfl rfl rfl rfl rfl rfl rfl rfl (pE rfl (WO.nil (qs (W.seq (W.region (pu (ao rfl rfl rfl h3 rfl) rfl ?_)))))));iterate 3 refine pE rfl ?_
 refine aQ aa rfl rfl rfl (ar aa rfl rfl rfl rfl rfl rfl rfl rfl (pE rfl (WO.nil (qs (W.seq ?_)))));apply aG;(case hb=>rfl);·
  iterate 3 refine pE rfl ?_
  apply aP;(case hj=>rfl);(case hl=>rfl);·
   refine aH rfl rfl (pE rfl (aH rfl rfl (pE rfl (aH rfl rfl (pE rfl (aH rfl rfl (pE rfl (aH rfl rfl ?_))))))));iterate 3 refine pE rfl ?_
   apply aP;(case hj=>rfl);(case hl=>rfl);·
    refine aH rfl rfl (pE rfl (aH rfl rfl (pE rfl (aH rfl rfl (pE rfl (aH rfl rfl (pu (indexAddr (l:=cf.c ⟨3,B #[109,97,105,110]⟩) aa rfl rfl rfl rfl rfl rfl (by decide) rfl rfl) rfl ?_)))))));refine aH rfl rfl (pE rfl (aH rfl rfl (pu (build aa rfl rfl rfl rfl) rfl ?_)));refine aH rfl rfl ?_;iterate 3 refine pE rfl ?_
    apply aP;(case hj=>rfl);(case hl=>rfl);·
     refine aH rfl rfl (pE rfl (aH rfl rfl (pE rfl (aH rfl rfl (pE rfl (aH rfl rfl ?_))))));iterate 3 refine pE rfl ?_
     apply aP;(case hj=>rfl);(case hl=>rfl);·
      refine aH rfl rfl (pE rfl (aH rfl rfl (pE rfl (aH rfl rfl (pu (indexAddr (l:=bl.c ⟨3,0,0,[⟨5,1,B #[97],0,0,[]⟩,⟨9,2,B #[],0,0,[]⟩]⟩) aa rfl rfl rfl rfl rfl rfl (by decide) rfl rfl) rfl ?_)))));refine aH rfl rfl (pE rfl (aH rfl rfl (pE rfl (aH rfl rfl (pE rfl (aH rfl rfl ?_))))));iterate 3 refine pE rfl ?_
      apply aP;(case hj=>rfl);(case hl=>rfl);·
       refine aH rfl rfl (pE rfl (aH rfl rfl ?_));iterate 3 refine pE rfl ?_
       apply aP;(case hj=>rfl);(case hl=>rfl);·
        refine aH rfl rfl (pE rfl (aH rfl rfl ?_));iterate 3 refine pE rfl ?_
        apply aP;(case hj=>rfl);(case hl=>rfl);·
         refine aH rfl rfl (pE rfl (aH rfl rfl ?_));iterate 3 refine pE rfl ?_
         apply aP;(case hj=>rfl);(case hl=>rfl);·
          refine aH rfl rfl (pE rfl (aH rfl rfl ?_));iterate 3 refine pE rfl ?_
          refine WO.nil (bg rfl rfl rfl)
         iterate 2 refine aE rfl rfl rfl rfl ?_
         iterate 2 refine pE rfl ?_
         refine WO.nil (bg rfl rfl rfl)
        iterate 2 refine aE rfl rfl rfl rfl ?_
        iterate 2 refine pE rfl ?_
        iterate 2 refine aE rfl rfl rfl rfl ?_
        iterate 2 refine pE rfl ?_
        refine WO.nil (bg rfl rfl rfl)
       iterate 2 refine aE rfl rfl rfl rfl ?_
       iterate 2 refine pE rfl ?_
       iterate 2 refine aE rfl rfl rfl rfl ?_
       iterate 2 refine pE rfl ?_
       iterate 2 refine aE rfl rfl rfl rfl ?_
       iterate 2 refine pE rfl ?_
       refine WO.nil (bg rfl rfl rfl)
      iterate 2 refine aE rfl rfl rfl rfl ?_
      iterate 2 refine pE rfl ?_
      iterate 2 refine aE rfl rfl rfl rfl ?_
      iterate 2 refine pE rfl ?_
      iterate 2 refine aE rfl rfl rfl rfl ?_
      iterate 2 refine pE rfl ?_
      iterate 2 refine aE rfl rfl rfl rfl ?_
      iterate 2 refine pE rfl ?_
      refine WO.nil (bg rfl rfl rfl)
     iterate 7 refine aE rfl rfl rfl rfl ?_
     iterate 2 refine pE rfl ?_
     iterate 2 refine aE rfl rfl rfl rfl ?_
     iterate 2 refine pE rfl ?_
     iterate 2 refine aE rfl rfl rfl rfl ?_
     iterate 2 refine pE rfl ?_
     iterate 2 refine aE rfl rfl rfl rfl ?_
     iterate 2 refine pE rfl ?_
     iterate 2 refine aE rfl rfl rfl rfl ?_
     iterate 2 refine pE rfl ?_
     refine WO.nil (bg rfl rfl rfl)
    iterate 4 refine aE rfl rfl rfl rfl ?_
    iterate 2 refine pE rfl ?_
    iterate 7 refine aE rfl rfl rfl rfl ?_
    iterate 2 refine pE rfl ?_
    iterate 2 refine aE rfl rfl rfl rfl ?_
    iterate 2 refine pE rfl ?_
    iterate 2 refine aE rfl rfl rfl rfl ?_
    iterate 2 refine pE rfl ?_
    iterate 2 refine aE rfl rfl rfl rfl ?_
    iterate 2 refine pE rfl ?_
    iterate 2 refine aE rfl rfl rfl rfl ?_
    iterate 2 refine pE rfl ?_
    refine WO.nil (bg rfl rfl rfl)
   iterate 7 refine aE rfl rfl rfl rfl ?_
   iterate 2 refine pE rfl ?_
   iterate 4 refine aE rfl rfl rfl rfl ?_
   iterate 2 refine pE rfl ?_
   iterate 7 refine aE rfl rfl rfl rfl ?_
   iterate 2 refine pE rfl ?_
   iterate 2 refine aE rfl rfl rfl rfl ?_
   iterate 2 refine pE rfl ?_
   iterate 2 refine aE rfl rfl rfl rfl ?_
   iterate 2 refine pE rfl ?_
   iterate 2 refine aE rfl rfl rfl rfl ?_
   iterate 2 refine pE rfl ?_
   iterate 2 refine aE rfl rfl rfl rfl ?_
   iterate 2 refine pE rfl ?_
   refine WO.nil (bg rfl rfl rfl)
  iterate 5 refine aE rfl rfl rfl rfl ?_
  iterate 2 refine pE rfl ?_
  iterate 7 refine aE rfl rfl rfl rfl ?_
  iterate 2 refine pE rfl ?_
  iterate 4 refine aE rfl rfl rfl rfl ?_
  iterate 2 refine pE rfl ?_
  iterate 7 refine aE rfl rfl rfl rfl ?_
  iterate 2 refine pE rfl ?_
  iterate 2 refine aE rfl rfl rfl rfl ?_
  iterate 2 refine pE rfl ?_
  iterate 2 refine aE rfl rfl rfl rfl ?_
  iterate 2 refine pE rfl ?_
  iterate 2 refine aE rfl rfl rfl rfl ?_
  iterate 2 refine pE rfl ?_
  iterate 2 refine aE rfl rfl rfl rfl ?_
  iterate 2 refine pE rfl ?_
  refine WO.nil (bg rfl rfl rfl)
 refine qs (W.ret (QF.aw trivial rfl ?_));rfl
end Go.Proofs.YtpiaiiopakafhaaGreatDoor
namespace Go.Proofs.YtpiaiiopakafhaaGreatDoor
open Go.Ab Go.Tb
set_option maxRecDepth 10000
set_option maxHeartbeats 1000000
attribute [local irreducible] W WO Pu QS QB QL QF QV bA CH QE
inductive sy:JV→Prop
 | mk (j:JV) (hs:j.s.size≤maxLen) (hk:j.keys.length≤maxLen) (hks:∀ s∈j.keys,s.size≤maxLen) (hz:∀ z∈j.kids,sy z):sy j
end Go.Proofs.YtpiaiiopakafhaaGreatDoor
namespace Go.Proofs.YtpiaiiopakafhaaGreatDoor
open Go.Ab Go.Tb
set_option maxRecDepth 10000
set_option maxHeartbeats 1000000
attribute [local irreducible] W WO Pu QS QB QL QF QV bA CH QE
theorem AZ {P:Program} {T:bF P} {U tp ti ts M N:Nat} {o1 o2 o3 o4 o5:Nat} {n1 n2 n3 n4 n5:String}
 (hj:cW T U=.st [(o1,tp,n1),(o2,ti,n2),(o3,ts,n3),(o4,M,n4),(o5,N,n5)]) (ho:cW T tp=.int .i64) (hi:cW T ti=.int .i64) (hs:cW T ts=.str) (ai:cW T M=.slice ts) (aj:cW T N=.slice U):∀ (l:List D),dw T U l→∃ x:JV,l=x.c∧sy x:=by
 intro l
 induction hn:_root_.SizeOf.sizeOf l using Nat.strongRecOn generalizing l with
 | _ m ih=>
  intro h;subst hn;obtain⟨p,q,r,s,u,rfl,h1,h2,h3,h4,h5⟩:=BH h hj;obtain⟨a,rfl⟩:=vW h1 ho;obtain⟨b,rfl⟩:=vW h2 hi;obtain⟨c,rfl,hc⟩:=h3.toStr hs;obtain⟨ks,rfl,a1,a6⟩:=h4.toSlice ai;have X:∀ (l:List (List D)),(∀ x∈l,dw T ts x)→∃ keys:List ByteArray,l=keys.map sc∧∀ s∈keys,s.size≤maxLen:=by
   intro l
   induction l with
   | nil=>intro _;exact⟨[],rfl,by simp⟩
   | cons x l I=>intro hl;obtain⟨y,rfl,Z⟩:=(hl x List.mem_cons_self).toStr hs;obtain⟨keys,rfl,hk⟩:=I (fun z hz=>hl z (List.mem_cons_of_mem _ hz));exact⟨y::keys,rfl,fun s h=>by rcases List.mem_cons.1 h with rfl | h;exact Z;exact hk s h⟩
  obtain⟨keys,rfl,J⟩:=X ks a1;obtain⟨es,rfl,h6,_⟩:=h5.toSlice aj;have ad:∀ (l:List (List D)),(∀ x∈l,x∈es)→∃ kids:List JV,l=kids.map JV.c∧∀ z∈kids,sy z:=by
   intro l
   induction l with
   | nil=>intro _;exact⟨[],rfl,by simp⟩
   | cons x l I=>
    intro hl;have O:=hl x List.mem_cons_self;obtain⟨y,a7,Z⟩:=ih (_root_.SizeOf.sizeOf x) (by have:=List.sizeOf_lt_of_mem O;simp;omega) x rfl (h6 x O);obtain⟨kids,a8,hk⟩:=I (fun z hz=>hl z (List.mem_cons_of_mem _ hz));exact⟨y::kids,by rw[a8,a7];rfl,fun s h=>by rcases List.mem_cons.1 h with rfl | h;exact Z;exact hk s h⟩
  obtain⟨kids,rfl,b0⟩:=ad es (fun x hx=>hx);exact⟨.mk a b c keys kids,by simp[JV.c,JV.op,JV.n,JV.s,JV.keys,JV.lF,JV.kids],sy.mk _ hc (by simpa [JV.keys] using a6) J b0⟩
end Go.Proofs.YtpiaiiopakafhaaGreatDoor
namespace Go.Proofs.YtpiaiiopakafhaaGreatDoor
open Go.Ab Go.Tb
set_option maxRecDepth 10000
set_option maxHeartbeats 1000000
attribute [local irreducible] W WO Pu QS QB QL QF QV bA CH QE
theorem AY:∀ (j:JV) (level left:Int),0≤level∧level≤1000→0≤left∧left≤1000→ay Tryz.prog 18 [.ag j.c,.d (ci level),.d (ci left)] (.d (ci (jb j level left))) 0:=by
 refine JV.ind fun j ih=>?_;intro level left hv hl;have hj:=vG j level left;rw[eO j];refine ay.aZ (n:=62) (ts:=[6]) Tryz.func18 (by kernel_rfl) rfl Tryz.ntmps18 Tryz.results18 rfl rfl fun C hC hG=>?_;refine W.seq (W.region (bK rfl rfl rfl (pE rfl (WO.nil (qs (W.seq (W.region (pE rfl (pu (cU (ev aa rfl) (y:=left - 1) (wrap64 (by omega))) rfl ?_)))))))));refine pE rfl (WO.nil (qs ?_));iterate 2 refine W.seq ?_
 apply aG;(case hb=>rfl);·repeat' first | refine bg rfl rfl rfl | refine aH rfl rfl ?_ | refine aE rfl rfl rfl rfl ?_ | refine pE rfl ?_ | refine WO.nil ?_ | (apply aP;(case hj=>rfl);(case hl=>rfl))
 refine qs (ab rfl (fun M=>?_) (fun M=>?_));·
  have J:jb j level left = -1:=by rw[hj,if_pos];revert M;rw[List.length_map];simp only[Bool.cond_eq_ite];intro h;grind
  refine W.seq (W.region (pE rfl (WO.nil (qs (W.ret (an (QF.aw trivial rfl ?_)))))));rw[J];rfl
 have hn:¬ (level < 1∨left - 1 < 0∨300 < j.s.size∨40 < j.keys.length):=by revert M;rw[List.length_map];simp only[Bool.cond_eq_ite];intro h;grind
 rw[if_neg hn] at hj;refine W.skip (qs ?_);iterate 2 refine W.seq ?_
 refine W.region (pE rfl (WO.nil (qs (W.block (kg (g:=0) (j:=3) rfl rfl (fun hlen=>?_))))));rw[List.length_map] at hlen
 refine W.bh (ι:={x:Nat // match x with | k=>k≤j.keys.length∧((j.keys.drop k).any fun x=>decide (300 < x.size))=(j.keys.any fun x=>decide (300 < x.size))})
  (fun x=>match x.1 with | k=>[(1,.d (ci level)),(2,.d (ci (left - 1))),(3,.ptr 0 0),(7,.d (.v (.int .i64 ((k:Nat):Int))))]) []
  (fun x=>match x.1 with | k=>[(0,[.d (ci j.op),.d (ci j.n),.d (cs j.s),.d (.sl (j.keys.map sc)),.d (.sl (j.kids.map JV.c))])]) [] [] 1 (fun x=>match x.1 with | k=>j.keys.length - k)
  [0] ⟨0,?_⟩ rfl ?_ trivial ?_ trivial rfl ?_
 ·exact⟨Nat.zero_le _,by simp⟩
 ·repeat' first | exact trivial | refine⟨rfl,?_⟩
 ·repeat' first | exact trivial | refine⟨rfl,?_⟩
 rintro⟨k,Z,I⟩;show W _ _ _ _ _ ⟨[(1,.d (ci level)),(2,.d (ci (left - 1))),(3,.ptr 0 0),(7,.d (.v (.int .i64 ((k:Nat):Int))))],[(0,[.d (ci j.op),.d (ci j.n),.d (cs j.s),.d (.sl (j.keys.map sc)),.d (.sl (j.kids.map JV.c))])],[],1⟩;iterate 2 refine W.seq ?_
 refine W.region ?_;iterate 2 refine pE rfl ?_
 refine pE rfl ?_;iterate 2 refine pE rfl ?_
 refine WO.nil (qs (bu (l:=j.keys) (k:=k) rfl (by simp[Ex.aF,au]) Z (fun x X hd N=>?_) (fun he hd=>?_)));·
  rw[hd,List.any_cons] at I;refine W.skip (qs (W.seq (W.block (W.seq (W.region (pE rfl (pE rfl (pE rfl (pu (indexAddr (l:=sc x) aa rfl rfl rfl rfl rfl rfl (Int.natCast_nonneg _) (aM X) rfl) rfl ?_)))))))));refine pE rfl ?_;iterate 2 refine pE rfl ?_
  refine WO.nil (qs (ab rfl (fun O=>?_) (fun O=>?_)));·
   have J:jb j level left = -1:=by rw[hj,if_pos];rw[←I,show decide (300 < x.size)=true from by simp at O ⊢;omega];rfl
   refine W.seq (W.region (pE rfl (WO.nil (qs (W.ret (aC (an (cn (aC (an (QF.aw trivial rfl ?_)))))))))));rw[J];rfl
  rw[show decide (300 < x.size)=false from by simp at O ⊢;omega,Bool.false_or] at I;refine W.skip (be (qs (W.region ?_)));iterate 3 refine pE rfl ?_
  refine WO.nil (W.bt [0] ⟨k+1,?_⟩ ?_ rfl ?_ trivial ?_ trivial rfl);·exact⟨N,I⟩
  ·dsimp only;omega
  ·repeat' first | exact trivial | refine⟨rfl,?_⟩ | refine⟨aL (by assumption) (by assumption),?_⟩
  repeat' first | exact trivial | refine⟨rfl,?_⟩
 rw[hd,List.any_nil] at I;rw[if_neg (by rw[←I];simp)] at hj;refine W.exit (aW (aT (aS (qs ?_))));iterate 2 refine W.seq ?_
 refine W.region (pE rfl (WO.nil (qs (W.block (kg (g:=0) (j:=4) rfl rfl (fun hlen=>?_))))));rw[List.length_map] at hlen
 refine W.bh (ι:={x:Nat×Int // match x with | (k,n)=>k≤j.kids.length∧nj (j.kids.drop k) (level - 1) n=jb j level left∧0≤n∧n≤1000})
  (fun x=>match x.1 with | (k,n)=>[(1,.d (ci level)),(2,.d (ci n)),(3,.ptr 0 0),(8,.d (.v (.int .i64 ((k:Nat):Int))))]) []
  (fun x=>match x.1 with | (k,n)=>[(0,[.d (ci j.op),.d (ci j.n),.d (cs j.s),.d (.sl (j.keys.map sc)),.d (.sl (j.kids.map JV.c))])]) [] [] 1 (fun x=>match x.1 with | (k,n)=>j.kids.length - k)
  [0] ⟨(0,left - 1),?_⟩ rfl ?_ trivial ?_ trivial rfl ?_
 ·exact⟨Nat.zero_le _,by rw[hj];rfl,by omega,by omega⟩
 ·repeat' first | exact trivial | refine⟨rfl,?_⟩
 ·repeat' first | exact trivial | refine⟨rfl,?_⟩
 rintro⟨⟨k,n⟩,Z,I,ad,ai⟩;show W _ _ _ _ _ ⟨[(1,.d (ci level)),(2,.d (ci n)),(3,.ptr 0 0),(8,.d (.v (.int .i64 ((k:Nat):Int))))],[(0,[.d (ci j.op),.d (ci j.n),.d (cs j.s),.d (.sl (j.keys.map sc)),.d (.sl (j.kids.map JV.c))])],[],1⟩;iterate 2 refine W.seq ?_
 refine W.region ?_;iterate 2 refine pE rfl ?_
 refine pE rfl ?_;iterate 2 refine pE rfl ?_
 refine WO.nil (qs (bu (l:=j.kids) (k:=k) rfl (by simp[Ex.aF,au]) Z (fun x X hd N=>?_) (fun he hd=>?_)));·
  rw[hd,nj] at I;have hs:=ih x (List.mem_of_getElem? X) (level - 1) n ⟨by omega,by omega⟩ ⟨ad,ai⟩;refine W.skip (qs (W.seq (W.block (W.seq (W.region (pE rfl (pE rfl (pE rfl (pu (indexAddr (l:=x.c) aa rfl rfl rfl rfl rfl rfl (Int.natCast_nonneg _) (aM X) rfl) rfl ?_)))))))));refine pE rfl (pE rfl (pu (cU (ev aa rfl) (y:=level - 1) (wrap64 (by omega))) rfl ?_));refine pE rfl (pu (ao rfl rfl rfl hs rfl) rfl ?_);refine pE rfl (WO.nil (qs (W.seq (W.region ?_))));iterate 2 refine pE rfl ?_
  refine WO.nil (qs (ab rfl (fun U=>?_) (fun U=>?_)));·
   have J:jb j level left = -1:=by rw[←I,if_pos (by simpa using U)]
   refine W.seq (W.region (pE rfl (WO.nil (qs (W.ret (aC (an (cn (aC (an (QF.aw trivial rfl ?_)))))))))));rw[J];rfl
  have h0:¬ jb x (level - 1) n < 0:=by simpa using U
  rw[if_neg h0] at I;have hle:=AU x (level - 1) n (by omega);refine W.skip (be (qs (W.region ?_)));iterate 3 refine pE rfl ?_
  refine WO.nil (W.bt [0] ⟨(k+1,jb x (level - 1) n),?_⟩ ?_ rfl ?_ trivial ?_ trivial rfl);·exact⟨N,I,by omega,by omega⟩
  ·dsimp only;omega
  ·repeat' first | exact trivial | refine⟨rfl,?_⟩ | refine⟨aL (by assumption) (by assumption),?_⟩
  repeat' first | exact trivial | refine⟨rfl,?_⟩
 rw[hd] at I;have J:jb j level left=n:=I.symm;refine W.exit (aW (aT (aS (qs (W.seq (W.region ?_))))));iterate 2 refine pE rfl ?_
 refine WO.nil (qs (W.ret (QF.aw trivial rfl ?_)));rw[J];rfl
end Go.Proofs.YtpiaiiopakafhaaGreatDoor
namespace Go.Proofs.YtpiaiiopakafhaaGreatDoor
open Go.Ab Go.Tb
set_option maxRecDepth 10000
set_option maxHeartbeats 1000000
attribute [local irreducible] W WO Pu QS QB QL QF QV bA CH QE
theorem wL (j:JV) (_:sy j):ay Tryz.prog 5 [.ag j.c] (.d (.v (.bool true))) 0:=by
 refine ay.aZ (n:=42) (ts:=[2]) Tryz.func5 (by kernel_rfl) rfl Tryz.ntmps5 Tryz.results5 rfl rfl fun C hC U=>?_;refine W.seq (W.region (bK rfl rfl rfl (pE rfl (WO.nil (qs ?_)))));iterate 2 refine W.seq ?_
 apply aG;(case hb=>rfl);·
  refine pu (ao rfl rfl rfl (sX ..) rfl) rfl ?_;iterate 2 refine pE rfl ?_
  apply fJ;(case hj=>rfl);(case hl=>rfl);·
   intro g11;iterate 3 refine aE rfl rfl rfl rfl ?_
   refine pE rfl (WO.nil (bg rfl rfl rfl))
  intro g11;refine aH rfl rfl (pE rfl (aH rfl rfl (pu (ao rfl rfl rfl (AY j 20 100 (by decide) (by decide)) rfl) rfl ?_)));refine aH rfl rfl ?_;iterate 2 refine pE rfl ?_
  refine WO.nil (bg rfl rfl rfl)
 refine qs (ab rfl (fun I=>?_) (fun I=>?_));·
  refine W.seq (W.region (pu (ao rfl rfl rfl (sX ..) rfl) rfl ?_));refine pE rfl (WO.nil (qs (W.ret (an (QF.aw trivial rfl ?_)))));rfl
 have h0:0≤jb j 20 100:=by revert I;simp
 have J:=zA h0 (by decide);have M:=AB j J;rw[B2] at M;refine W.skip (qs (W.seq (W.region (pE rfl (pu (ao rfl rfl rfl (vO j (J.val _ _)) rfl) rfl ?_)))));iterate 4 refine pE rfl ?_
 refine aQ aa rfl rfl rfl (pE rfl (ar aa rfl rfl rfl rfl rfl rfl rfl rfl (pE rfl (WO.nil (qs (W.seq (W.region (pE rfl (pu (ao rfl rfl rfl M rfl) rfl ?_)))))))));iterate 4 refine pE rfl ?_
 refine aQ aa rfl rfl rfl (pE rfl (ar aa rfl rfl rfl rfl rfl rfl rfl rfl (pE rfl (WO.nil (qs (W.seq ?_))))));apply aG;(case hb=>rfl);·
  iterate 4 refine pE rfl ?_
  apply fJ;(case hj=>rfl);(case hl=>rfl);·
   intro N;refine aH rfl rfl (pE rfl (aH rfl rfl (pE rfl (aH rfl rfl (pu (ao rfl rfl rfl (By (bo j).2.1 (bo j).2.1) rfl) rfl ?_)))));iterate 2 refine pE rfl ?_
   apply fJ;(case hj=>rfl);(case hl=>rfl);·
    intro O;refine aH rfl rfl (pE rfl (aH rfl rfl (pE rfl (aH rfl rfl ?_))));iterate 3 refine pE rfl ?_
    refine WO.nil (bg rfl rfl rfl)
   intro O;iterate 3 refine aE rfl rfl rfl rfl ?_
   iterate 2 refine pE rfl ?_
   refine WO.nil (bg rfl rfl rfl)
  intro N;iterate 3 refine aE rfl rfl rfl rfl ?_
  iterate 2 refine pE rfl ?_
  iterate 3 refine aE rfl rfl rfl rfl ?_
  iterate 2 refine pE rfl ?_
  refine WO.nil (bg rfl rfl rfl)
 refine qs (W.ret (QF.aw trivial rfl ?_));simp only[norm,aI];rw[(yz (bo j).2.1 (bo j).2.1).2 rfl];simp
end Go.Proofs.YtpiaiiopakafhaaGreatDoor
