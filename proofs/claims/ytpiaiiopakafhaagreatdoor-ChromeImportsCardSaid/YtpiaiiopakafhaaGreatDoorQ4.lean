import Derived.Test.YtpiaiiopakafhaaGreatDoorQ3
import Derived.RowKit
import Derived.Shelf.Strings.Builder1
import Derived.Shelf.Small.Strs
import Derived.Shelf.Strconv.Atoi
import Derived.Shelf.Strconv.Itoa0
import Derived.Shelf.Strconv.Itoa1
import Derived.Shelf.LaysM
import Derived.Shelf.Strconv.Itoa2
import Derived.Shelf.Strconv.Itoa3
import Derived.Shelf.Strconv.AtoiErrFast
import Derived.Shelf.Strconv.ParseIntEmpty
import Derived.Shelf.Strconv.AtoiFail
import Derived.Shelf.Strconv.Clone
import Derived.Shelf.Strconv.SyntaxError
import Derived.Shelf.LaysC
import Derived.Shelf.Strconv.ToError
import Derived.Shelf.Strconv.AtoiErr
import Derived.Shelf.Strconv.ErrVar
import Derived.Shelf.Strconv.Lower
import Derived.Shelf.Strconv.ParseUint10
import Derived.Shelf.Strconv.ParseUint10Empty
import Derived.Shelf.Strconv.ParseUint10Any
import Derived.Shelf.Strconv.ParseInt10
import Derived.Shelf.Strconv.AtoiLong
import Derived.Shelf.Strconv.AtoiInnerAll
import Derived.Shelf.Strconv.RangeError
import Derived.Shelf.Strconv.ToErrorRange
import Derived.Shelf.Strconv.AtoiAll
import Derived.Shelf.Strconv.ErrVarAll
import Derived.Shelf.Strings.Search1
import Derived.Shelf.Slices.Equal
import Derived.Shelf.Slices.Empties2
import Derived.Test.YtpiaiiopakafhaaGreatDoorProg
import Derived.Test.YtpiaiiopakafhaaGreatDoorChecked
import Derived.KernelRfl
import Derived.Test.YtpiaiiopakafhaaGreatDoorRows
import Derived.Lib.Strings
import Derived.Lib.Slices
import Derived.Lib.Walk
import Derived.Lib.Builder
import Derived.Lib.UnsafeStr
import Derived.WalkKit
import Derived.Laws.Externs
import Derived.Laws.IdiomCopy
import Derived.OwnWalkIn
import Derived.TacticsInMore
import Derived.LoopNIn
import Derived.LoopIn
import Derived.BigRegionIn
namespace Go.Tb
open Go.Ab
variable {l x:List UInt8}{i k u:Nat}{level id a:Int}{α β:Type}{ids:List Int}
variable {j:JV}
variable {e:Ev}
def lz(t:ca):Int:=if t.id<0∨1000000000000000<t.id then 2 else cO t.name
def mZ:List ca->List Int->Int
 |[],_=>0
 |t::r,seen=>if lz t≠0 then lz t else if(seen.any fun x=>decide (x=t.id))=true then 4 else mZ r (seen++[t.id])
def eC(ts:List ca):Int:=if ts=[]then 8 else if 64<ts.length then 7 else mZ ts []
theorem zV:∀(ts:List ca)(seen:List Int),mZ ts seen=0->seen.Nodup->(∀t∈ts,0<=t.id∧t.id<=1000000000000000∧cO t.name=0)∧(seen++ts.map ca.id).Nodup
 |[],seen,_,hn=>⟨by simp,by simpa using hn⟩
 |t::r,seen,h,hn=>by
   simp only[mZ]at h;split at h;·grind
   ·rename_i q
    split at h;·grind
    ·rename_i q2
     have hm:t.id∉seen:=by simpa using q2
     obtain⟨h1,h2⟩:=zV r (seen++[t.id]) h (by rw[List.nodup_append];exact⟨hn,by simp,fun a I b hb=>by simp at hb;subst hb;rintro rfl;exact hm I⟩);grind[lz]
theorem qU{ts:List ca}(h:eC ts=0):Lx ts∧ts≠[]∧ts.length<=64:=by
 unfold eC at h;split at h;·grind
 ·rename_i q
  split at h;·grind
  ·obtain⟨h1,h2⟩:=zV ts [] h List.nodup_nil
   exact⟨⟨h1,by simpa using h2⟩,q,by omega⟩
def qx(ts:List ca)(ps:List bP):Prop:=(ps.map bP.thread).Sublist (ts.map ca.id)∧(∀p∈ps,p.serial=0∧p.lost=0∧0<p.evs.length∧p.evs.length<=1000)∧(ps.map fun p=>p.evs.length).sum<=20000
def ez(ts:List ca)(ps:List bP):kp×Int:=if eC ts≠0 then(gm,eC ts)else if fC ps≠0 then(gm,fC ps)else(⟨ts,dV,ps⟩,0)
theorem x9{f:α->Int}:∀(l:List α)(a:Int),(cC (lq l f) a).getD false=(l.map f).any fun x=>decide (x=a)
 |[],a=>rfl
 |x::r,a=>by
   show(cC ((f x,true)::lq r f) a).getD false=_;rw[iz];by_cases e:f x=a;·grind
   ·rw[if_neg e,x9 r a];simp[e]
theorem Hn{f:α->Int}{l:List α}{x:α}(hm:¬((l.take k).map f).any (fun y=>decide (y=f x))=true)(I:l[k]?=some x):dN (lq (l.take k) f) (f x) true=lq (l.take (k+1)) f:=by
 rw[lB]
 ·unfold lq
  rw[Ψ,I,I'];rfl
 ·intro p hp e
  apply hm;rw[L'];have:p.1∈(lq (l.take k) f).map (·.1):=A'.2 ⟨p,hp,rfl⟩;rw[rC]at this;exact⟨p.1,this,by simpa using e⟩
/-! the map of the threads' ends, when some packets were read -/
def qF(ids us:List Int):List (Int×Option (List D)):=ids.map fun a=>(a,if a∈us then none else some z2)
theorem FQ(ids us):(qF ids us).map (·.1)=ids:=by unfold qF;rw[List.map_map];exact List.map_id _
theorem Jh(ids):qF ids []=tq ids 0:=by unfold qF tq;simp
theorem Jm{us}(h:ids[i]?=some a)(hu:a∉us):(qF ids us)[i]?=some (a,some z2):=by unfold qF;grind
theorem Jt{us}(I:ids.Nodup)(h:ids[i]?=some a):(qF ids us).set i (a,none)=qF ids (us++[a]):=by
 have hi:=(δ.1 h).1;refine List.ext_getElem? fun k=>?_;rw[List.getElem?_set];unfold qF;simp only[τ,η];by_cases e:i=k;·grind
 ·rw[if_neg e]
  cases hk:ids[k]?with
  |none=>rfl
  |some b=>
    have hb:b≠a:=by
     rintro rfl;rcases Nat.lt_trichotomy i k with q|q|q
     ·exact sd I hk (Γ.2 ⟨i,by rw[List.getElem?_take_of_lt q,h]⟩)
     ·grind
     ·exact sd I h (Γ.2 ⟨k,by rw[List.getElem?_take_of_lt q,hk]⟩)
    grind
/-! the parts, thread by thread -/
def mD(ts:List ca)(ps:List bP):List bP:=ts.flatMap fun t=>(ps.find? fun p=>decide (p.thread=t.id)).toList
theorem zb{ts:List ca}(ps){n}(h:ts.length<=n):(mD ts ps).length<=n:=by
 refine B' ?_ h;unfold mD
 induction ts with
 |nil=>simp
 |cons t r I=>grind
theorem oL:∀ {ts:List ca} {ps:List bP},(ps.map bP.thread).Sublist (ts.map ca.id)→(ts.map ca.id).Nodup→mD ts ps=ps
  | [],ps,h,_=>by
    have:ps=[]:=by simpa using h
    subst this;rfl
  | t::r,ps,h,hn=>by
    rw[J',List.nodup_cons] at hn
    have key:∀ (q:List bP) (p:bP),p.thread=t.id→mD r (p::q)=mD r q:=by
      intro q p hp
      unfold mD
      rw[List.flatMap_def,List.flatMap_def]
      congr 1
      refine List.map_congr_left fun x hx=>?_
      congr 1
      rw[List.find?_cons_of_neg]
      simp only[Δ]
      rintro e
      exact hn.1 (by rw[←hp,e];exact A'.2 ⟨x,hx,rfl⟩)
    show(ps.find? fun p=>decide (p.thread=t.id)).toList++mD r ps=ps
    match ps,h with
    | [],_=>exact oL (ts:=r) (ps:=[]) (List.nil_sublist _) hn.2
    | p::q,h=>
      rw[J',J'] at h
      by_cases e:p.thread=t.id
      · have h2:(q.map bP.thread).Sublist (r.map ca.id):=by
          rw[e] at h
          exact List.cons_sublist_cons.1 h
        rw[List.find?_cons_of_pos (by simpa using e),key q p e,oL h2 hn.2]
        rfl
      · have h2:((p::q).map bP.thread).Sublist (r.map ca.id):=by
          rcases List.sublist_cons_iff.1 h with h | ⟨x,hx,_⟩
          · exact h
          · exact absurd (List.cons.inj hx).1 e
        rw[oL h2 hn.2]
        rw[List.find?_eq_none.2]
        · rfl
        · intro x hx
          simp only[Δ]
          rintro e2
          exact hn.1 (by rw[←e2];exact h2.subset (A'.2 ⟨x,hx,rfl⟩))
theorem AR{α:Type}{f:α->Nat}{l:List α}{k:Nat}{x:α}(I:l[k]?=some x):((l.take (k+1)).map f).sum=((l.take k).map f).sum+f x:=by grind[List.take_add_one]
theorem A0{α:Type}{f:α->Nat}(l:List α)(k:Nat):((l.take k).map f).sum<=(l.map f).sum:=by grind[pa.map,List.take_append_drop]
variable {f:Fm}
structure fX where
 ids:List Int
 names:List (Int×ByteArray)
 evs:List (Int×List Ev)
def dq(ids:List Int)(id:Int):List Int:=if(ids.any fun x=>decide (id=x))=true then ids else ids++[id]
def Kq(x:fX)(id:Int)(e:Ev):fX:=⟨dq x.ids id,x.names,dN x.evs id ((cC x.evs id).getD []++[e])⟩
def Ke(x:fX)(id:Int)(name:ByteArray):fX:=⟨dq x.ids id,dN x.names id name,x.evs⟩
def rG:List ByteArray:=[e8,de,cb]
def eY(x:fX)(j:JV):fX×Int:=
 if cQ j (da j)=true then(x,10)
 else if(cm j e8 4).s≠pM then(if(cH j).2.2=0 then(Kq x (cH j).1 (cH j).2.1,0)else(x,(cH j).2.2))
 else if(bif (cQ j (da j)||dD j cb 4)then true else !iB j rG)=true then(x,10)
 else if cO (cm j cb 4).s≠0 then(x,cO (cm j cb 4).s)
 else if(cC x.names (cm j de 3).n).getD cw≠cw then(x,4)
 else(Ke x (cm j de 3).n (cm j cb 4).s,0)
def x5(n:Nat)(x:fX):Prop:=(x.names.map (·.1)).Nodup∧(x.evs.map (·.1)).Nodup∧x.ids.length<=n∧∀p∈x.evs,p.2.length<=n
variable {z:fX}
def db:List JV->fX->fX×Int
 |[],x=>(x,0)
 |j::r,x=>if(eY x j).2≠0 then(x,(eY x j).2)else db r (eY x j).1
def nameOf(l:List (Int×ByteArray))(id:Int):ByteArray:=if(cC l id).getD cw=cw then B #[116]++dh id else(cC l id).getD cw
def lD(x:fX)(id:Int):ca:=⟨id,nameOf x.names id⟩
def fc(x:fX)(id:Int):List bP:=if(cC x.evs id).getD []=[]then[]else[⟨id,0,0,(cC x.evs id).getD []⟩]
def x0:fX:=⟨[],[],[]⟩
def fO(s:ByteArray):kp×Int:=
 if 65536<s.size then(gm,7)
 else match eb (aX s)with
  |.no _ e=>(gm,e)
  |.ok v _=>if v.op≠5 then(gm,10)else if(db v.kids x0).2≠0 then(gm,(db v.kids x0).2)
    else ez ((db v.kids x0).1.ids.map (lD (db v.kids x0).1)) ((db v.kids x0).1.ids.flatMap (fc (db v.kids x0).1))
structure yy(v:JV):Prop where
 len:v.kids.length<=100000
 kids:∀k∈v.kids,uw k
 tids:∀k∈v.kids,(cm k de 3).n<=1000000000000000
 evs:(db v.kids x0).2=0->(((db v.kids x0).1.ids.flatMap (fc (db v.kids x0).1)).map fun p=>p.evs.length).sum<=1000
theorem HE{l:List (Int×List Ev)}{y:List Ev}{p:Int×List Ev}(hp:p∈dN l a y):p=(a,y)∨p∈l:=by
 induction l with
 |nil=>simp[dN]at hp;exact .inl hp
 |cons q r I=>simp only[dN]at hp;grind
theorem uA(l:List Int)(id):(dq l id).length<=l.length+1:=by grind[dq]
theorem iV{l:List Int}(h:l.Nodup)(id):(dq l id).Nodup:=by unfold dq;grind
theorem A4{l}(h:a∈dq l id):a∈l∨a=id:=by unfold dq at h;grind
theorem Hf{n:Nat}{x:fX}(h:x5 n x)(j:JV):x5 (n+1) (eY x j).1:=by
 obtain⟨h1,h2,h3,h4⟩:=h;have same:x5 (n+1) x:=⟨h1,h2,by omega,fun p hp=>Nat.le_succ_of_le (h4 p hp)⟩;unfold eY;split;·grind
 split
 ·split
  ·refine⟨h1,qS h2 _ _,B' (uA _ _) (by omega),fun p hp=>?_⟩
   rcases HE hp with rfl|hp
   ·show(_++[_]).length<=_
    rw[ν];have:((cC x.evs (cH j).1).getD []).length<=n:=by
     unfold cC
     cases q:x.evs.find? fun p=>decide (p.1=(cH j).1)with
     |none=>simp
     |some p=>simpa[q]using h4 p (List.mem_of_find?_eq_some q)
    grind
   ·grind
  ·grind
 split;·grind
 split;·grind
 split;·grind
 ·exact⟨qS h1 _ _,h2,B' (uA _ _) (by omega),fun p hp=>Nat.le_succ_of_le (h4 p hp)⟩
def ED(x:fX):Prop:=x.ids.Nodup∧∀a∈x.ids,0<=a∧a<=1000000000000000
theorem xJ(h:(cH j).2.2=0):cQ j (da j)=false∧(cH j).1=(cm j de 3).n:=by unfold cH at h⊢;grind
theorem G6(h:cQ j (da j)=false):0<=(cm j de 3).n:=by unfold cQ at h;grind
theorem zl{x:fX}(h:ED x)(hj:(cm j de 3).n<=1000000000000000):ED (eY x j).1:=by
 obtain⟨h1,h2⟩:=h;have add:∀(id:Int),0<=id->id<=1000000000000000->(dq x.ids id).Nodup∧∀a∈dq x.ids id,0<=a∧a<=1000000000000000:=fun id q1 q2=>⟨iV h1 id,fun a I=>(A4 I).elim (h2 a) (fun e=>e▸⟨q1,q2⟩)⟩;unfold eY
 cases hb:cQ j (da j)with
 |true=>exact⟨h1,h2⟩
 |false=>
   have h0:=G6 hb;rw[if_neg (by simp)];split
   ·split
    ·rename_i q
     have:=(xJ q).2;exact add _ (by omega) (by omega)
    ·exact⟨h1,h2⟩
   split;·exact⟨h1,h2⟩
   split;·exact⟨h1,h2⟩
   split;·exact⟨h1,h2⟩
   ·exact add _ h0 hj
theorem Bw(x:fX):∀ids:List Int,((ids.flatMap (fc x)).map bP.thread).Sublist ((ids.map (lD x)).map ca.id)
 |[]=>by simp
 |id::r=>by
   rw[List.flatMap_cons,I',J',J'];have h:=Bw x r;unfold fc at h⊢;split;·grind
   ·exact List.Sublist.cons_cons _ h
theorem oS(x:fX)(l:List Int){n:Nat}(h:l.length<=n):(l.flatMap (fc x)).length<=n:=by
 refine B' ?_ h;clear h
 induction l with
 |nil=>simp
 |cons a r I=>grind[List.length_append,List.length_cons,fc]
theorem Jq{x:fX}{p:bP}(h:p∈fc x id):p.serial=0∧p.lost=0∧0<p.evs.length:=by unfold fc at h;grind
theorem wZ{l:List bP}{p:bP}(h:p∈l):p.evs.length<=(l.map fun p=>p.evs.length).sum:=by
 induction l with
 |nil=>cases h
 |cons q r I=>grind
theorem zd{x:fX}(hs:((x.ids.flatMap (fc x)).map fun p=>p.evs.length).sum<=1000):qx (x.ids.map (lD x)) (x.ids.flatMap (fc x)):=by refine⟨Bw x x.ids,fun p hp=>?_,by omega⟩;obtain⟨id,_,h⟩:=List.mem_flatMap.1 hp;obtain⟨a,b,c⟩:=Jq h;exact⟨a,b,c,B' (wZ hp) hs⟩
abbrev lJ:=List ca×List (List Ev)
def iI(l:List ca)(id:Int):Option Nat:=l.findIdx? fun t=>decide (t.id=id)
def cD(l:List ca)(id:Int):Int:=match iI l id with
 |some k=>(k:Int)
 |none=>-1
def l4(l:List ca)(id:Int):ca:=match iI l id with
 |some k=>l.getD k ⟨0,cw⟩
 |none=>⟨0,cw⟩
def uM(x:lJ)(id:Int):List Ev:=match iI x.1 id with
 |some k=>x.2.getD k []
 |none=>[]
def ri(j:JV):Bool:=bif gk j then true else bif !(cM j cb).isSome then true else bif !decide (((cM j cb).getD cR).op=4)then true else !decide ((j.keys.length:Int)=3)
def gW(j:JV):Int:=if ri j=true then 10 else cO ((cM j cb).getD cR).s
def fR(j:JV):ByteArray:=if ri j=true then cw else((cM j cb).getD cR).s
def xd(j:JV):Int:=if ri j=true then 0 else cB j
def sJ(x:lJ)(j:JV):Bool:=bif decide (gW j=0)then(bif decide (0<=cD x.1 (cB j))then !decide ((l4 x.1 (cB j)).name=cw)else false)else false
def fT(x:lJ)(j:JV):lJ×Int:=
 if gk j=true then(x,10)
 else if cP j=pM then
  if sJ x j=true then(x,4)
  else if gW j≠0 then(x,gW j)
  else if cD x.1 (cB j)<0 then((x.1++[⟨cB j,fR j⟩],x.2++[[]]),0)
  else((x.1.set (cD x.1 (cB j)).toNat ⟨(l4 x.1 (cB j)).id,fR j⟩,x.2),0)
 else if(dX j).2.2≠0 then(x,(dX j).2.2)
 else if cD x.1 (cB j)<0 then((x.1++[⟨cB j,cw⟩],x.2++[[(dX j).2.1]]),0)
 else((x.1,x.2.set (cD x.1 (cB j)).toNat (uM x (cB j)++[(dX j).2.1])),0)
def eQ:List JV->lJ->lJ×Int
 |[],x=>(x,0)
 |j::r,x=>if(fT x j).2≠0 then(x,(fT x j).2)else eQ r (fT x j).1
def jZ(t:ca):ca:=if t.name=cw then⟨t.id,B #[116]++dh t.id⟩else t
def qB(id:Int)(e:List Ev):List bP:=if e=[]then[]else[⟨id,0,0,e⟩]
def km(x:lJ):List bP:=(x.1.zip x.2).flatMap fun p=>qB p.1.id p.2
def mg(v:JV):kp×Int:=
 if v.op≠5 then(gm,10)
 else if(eQ v.kids ([],[])).2≠0 then(gm,(eQ v.kids ([],[])).2)
 else ez ((eQ v.kids ([],[])).1.1.map jZ) (km (eQ v.kids ([],[])).1)
theorem ua{l:List ca}(h:iI l id=some k):l[k]?=some (l4 l id)∧(l4 l id).id=id∧cD l id=(k:Int):=by grind[cD,iI,List.findIdx?_eq_some_iff_getElem,l4,List.getD]
theorem vA{l}:cD l id<0↔iI l id=none:=by grind[cD,iI]
theorem nX{l:List ca}(h:¬cD l id<0):∃k,iI l id=some k∧cD l id=(k:Int)∧l[k]?=some (l4 l id)∧(l4 l id).id=id:=by
 cases I:iI l id with
 |none=>exact absurd (vA.2 I) h
 |some k=>grind[ua]
theorem vQ{l:List ca}(h:0<=cD l id):l[(cD l id).toNat]?=some (l4 l id):=by grind[nX]
theorem As{l:List ca}{t:ca}(hb:∀(i:Nat)(u:ca),i<k->l[i]?=some u->u.id≠id)(I:l[k]?=some t)(he:t.id=id):cD l id=(k:Int):=by
 have J:k<l.length:=(δ.1 I).1;have:iI l id=some k:=by grind[iI,List.findIdx?_eq_some_iff_getElem]
 exact(ua this).2.2
theorem AZ{l:List ca}(hb:∀(i:Nat)(u:ca),i<l.length->l[i]?=some u->u.id≠id):cD l id=-1:=by grind[iI,List.findIdx?_eq_none_iff,List.mem_iff_getElem?,List.getElem?_eq_some_iff,cD]
def HT(n:Nat)(x:lJ):Prop:=x.1.length<=n∧x.2.length=x.1.length∧∀e∈x.2,e.length<=n
theorem jV{n}{x:lJ}(h:HT n x)(j:JV):HT (n+1) (fT x j).1:=by
 obtain⟨h1,h2,h3⟩:=h;have same:HT (n+1) x:=⟨by omega,h2,fun e he=>Nat.le_succ_of_le (h3 e he)⟩;unfold fT;split;·grind
 split
 ·split
  ·grind
  split;·grind
  split
  ·refine⟨by simp;omega,by simp[h2],fun e he=>?_⟩
   grind
  ·exact⟨by simp;omega,by simp[h2],fun e he=>Nat.le_succ_of_le (h3 e he)⟩
 split;·grind
 split
 ·refine⟨by simp;omega,by simp[h2],fun e he=>?_⟩
  grind
 ·rename_i I
  obtain⟨k,N,hi,J,_⟩:=nX I;have M:k<x.2.length:=by rw[h2];exact(δ.1 J).1
  refine⟨by simp;omega,by simp[h2],fun e he=>?_⟩;grind[List.mem_or_eq_of_mem_set,Nat.le_succ_of_le,uM,cB,List.getD,List.length_append,List.getElem_mem]
theorem JX{ts:List ca}{id:Int}(h:decide (0<=cD ts id)=true):(ts.map ca.c)[(cD ts id).toNat]?=some (l4 ts id).c:=by grind[vQ]
def gM{α:Type}(p:α->α->Bool):List α->List α->Bool
 |[],[]=>true
 |x::r,y::s=>p x y&&gM p r s
 |_,_=>false
theorem ve{p:α->α->Bool}:∀{l m:List α},gM p l m=true->l.length=m.length
 |[],[],_=>rfl
 |x::r,y::s,h=>by simp only[gM,ρ]at h;simp[ve h.2]
 |[],_::_,h=>by cases h
 |_::_,[],h=>by cases h
theorem vb{p:α->α->Bool}(hp:∀x y,p x y=true↔x=y):∀{l m:List α},gM p l m=true↔l=m
 |[],[]=>by simp[gM]
 |x::r,y::s=>by simp[gM,hp,vb hp (l:=r) (m:=s)]
 |[],_::_=>by simp[gM]
 |_::_,[]=>by simp[gM]
def yI(a b:Ev):Bool:=decide (a.time=b.time)&&decide (a.kind=b.kind)&&decide (a.name=b.name)&&decide (a.n=b.n)&&decide (a.m=b.m)&&decide (a.stack=b.stack)
theorem Fp(a b:Ev):yI a b=true↔a=b:=by cases a;cases b;simp only[yI,ρ,Δ,Ev.mk.injEq];grind
def oX(p q:bP):Bool:=decide (p.thread=q.thread)&&decide (p.serial=q.serial)&&decide (p.lost=q.lost)&&gM yI p.evs q.evs
theorem Dv(p q:bP):oX p q=true↔p=q:=by cases p;cases q;simp only[oX,ρ,Δ,bP.mk.injEq,vb Fp];grind
def r7(a b:kp):Bool:=decide (a.ts=b.ts)&&decide (a.ds=b.ds)&&gM oX a.ps b.ps
theorem DA(a b:kp):r7 a b=true↔a=b:=by cases a;cases b;simp only[r7,ρ,Δ,kp.mk.injEq,vb Dv];grind
def HP(id:Int)(e:Ev):JV:=match tf e.kind with
 |some f=>BY f id e
 |none=>cR
def Jz:List ByteArray:=[e8,de,cb]
def mJ(t:ca):JV:=.mk 6 0 cw Jz [tJ pM,nJ t.id,tJ t.name]
def uX(p:bP):List JV:=p.evs.map (HP p.thread)
def K0(ts:List ca)(ps:List bP):List JV:=ts.map mJ++ps.flatMap uX
def mn(ts:List ca)(ps:List bP):JV:=.mk 5 0 cw [] (K0 ts ps)
theorem AI:∀{l:List Ev}{last:Option Int},iv l last=0->∀e∈l,dJ e=0
 |[],_,_,e,h=>by cases h
 |x::r,last,h,e,he=>by
   simp only[iv]at h;split at h;·grind
   ·rename_i q
    split at h;·grind
    ·rcases C'.1 he with rfl|he
     ·grind
     ·exact AI h e he
theorem uq:∀{ps:List bP},fC ps=0->∀p∈ps,∀e∈p.evs,dJ e=0
 |[],_,p,hp=>by cases hp
 |q::r,h,p,hp=>by
   simp only[fC]at h;split at h;·grind
   ·rename_i h2
    rcases C'.1 hp with rfl|hp
    ·grind[AI]
    ·exact uq h p hp
theorem DD{k}(h:1<=k∧k<13):∃f,tf k=some f:=by
 have:k=1∨k=2∨k=3∨k=4∨k=5∨k=6∨k=7∨k=8∨k=9∨k=10∨k=11∨k=12:=by omega
 rcases this with rfl|rfl|rfl|rfl|rfl|rfl|rfl|rfl|rfl|rfl|rfl|rfl<;>exact⟨_,rfl⟩
theorem AL:∀(ps:List bP),(ps.flatMap uX).length=(ps.map fun p=>p.evs.length).sum
 |[]=>rfl
 |p::r=>by rw[List.flatMap_cons,ν,J',List.sum_cons,AL r];simp[uX]
theorem DP(ps:List bP)(k:Nat):((ps.take k).flatMap uX).length<=(ps.map fun p=>p.evs.length).sum:=by grind[AL,pa.map,List.take_append_drop]
theorem Iu{ts ps}(h:(ez ts ps).2=0):eC ts=0∧fC ps=0:=by grind[ez]
theorem JI(h:dJ e=0)(id):∃f,tf e.kind=some f∧HP id e=BY f id e∧e.stack.length<=1000000:=by
 have g:=Ja h;obtain⟨f,J⟩:=DD g.kind;refine⟨f,J,by unfold HP;rw[J],?_⟩
 cases I:(eD e.kind).name with
 |false=>have:=(DK (g.stack I)).1;omega
 |true=>
   have:(eD e.kind).stack=false:=by
    have k:=g.kind;have:e.kind=1∨e.kind=2∨e.kind=3∨e.kind=4∨e.kind=5∨e.kind=6∨e.kind=7∨e.kind=8∨e.kind=9∨e.kind=10∨e.kind=11∨e.kind=12:=by omega
    rcases this with h|h|h|h|h|h|h|h|h|h|h|h<;>rw[h]at I⊢<;>first|rfl|exact absurd I (by decide)
   rw[g.noStack this];simp
theorem yh:∀l:List JV,(dR l false).length=(l.map fun k=>(bD k).length).sum+l.length
 |[]=>rfl
 |x::r=>by rw[gK,ν,ν,yh r,J',List.sum_cons,Ξ];grind
theorem uu:∀(ks:List ByteArray)(l:List JV),ks.length=l.length->(l.map fun k=>(bD k).length).sum+2*l.length<=(cK ks l false).length
 |[],[],_=>by simp[cK]
 |s::ks,x::r,h=>by have:=uu ks r (by simpa using h);rw[fL];grind
 |[],_::_,h=>by simp at h
 |_::_,[],h=>by simp at h
theorem qQ (h:ck j level=0):(j.kids.map fun k=>(bD k).length).sum+j.kids.length≤(bD j).length:=by
  obtain⟨op,n,s,keys,kids⟩:=j
  obtain⟨h1,_⟩:=lF h
  obtain⟨hf,_⟩:=jA h1
  show(kids.map fun k=>(bD k).length).sum+kids.length≤(bD (.mk op n s keys kids)).length
  cases kids with
  | nil=>simp
  | cons x r=>
    unfold dc at hf
    simp only[JV.op,JV.n,JV.s,JV.keys,JV.kids] at hf
    by_cases o1:op=1
    · grind
    by_cases o2:op=2
    · grind
    by_cases o3:op=3
    · grind
    by_cases o4:op=4
    · grind
    by_cases o6:op=6
    · have hkl:keys.length=(x::r).length:=by
        grind
      simp only[bD,o1,o2,o3,o4,o6,if_true,if_false]
      cases keys with
      | nil=>simp at hkl
      | cons k ks=>
        have hm:=uu (k::ks) (x::r) hkl
        grind[qK,List.length_cons,List.length_append]
    · grind[bD,yh,so,List.length_cons,List.length_append]
theorem Cf{l:List JV}{k:JV}(h:k∈l):(bD k).length<=(l.map fun k=>(bD k).length).sum:=by
 induction l with
 |nil=>cases h
 |cons x r I=>grind
theorem uf:∀{l:List JV},dz l level=0->∀k∈l,ck k level=0
 |[],_,k,I=>by cases I
 |x::r,h,k,I=>by
   obtain⟨h1,h2⟩:=jt h;rcases C'.1 I with rfl|I
   ·grind
   ·exact uf h2 k I
theorem lO{k:JV}(h:ck j level=0)(I:k∈j.kids):ck k (level+1)=0:=by obtain⟨op,n,s,keys,kids⟩:=j;exact uf (lF h).2 k I
theorem xX:∀{l:List JV}{x:fX},(db l x).2=0->∀k∈l,k.op=6
 |[],_,_,k,I=>by cases I
 |j::r,x,h,k,I=>by
   simp only[db]at h;split at h;·grind
   ·rename_i q
    rcases C'.1 I with rfl|I
    ·grind[eY,cQ,da,Bool.or_eq_false_iff]
    ·exact xX h k I
/-! the events that are kept -/
theorem Fs(l:List (Int×List Ev))(a:Int)(e:Ev):oU (dN l a ((cC l a).getD []++[e]))<=oU l+1:=by
 induction l with
 |nil=>simp[dN,rz,oU]
 |cons p r I=>grind[iz,dN,oU]
theorem BJ:∀(l:List (Int×List Ev))(L:List Int),L.Nodup->(L.map fun a=>((cC l a).getD []).length).sum<=oU l
 |[],L,_=>by
   have:(L.map fun a=>((cC ([]:List (Int×List Ev)) a).getD []).length).sum=0:=by induction L<;>simp_all[rz]
   grind
 |p::r,L,hn=>by
   have h1:=BJ r L hn;have key:∀L:List Int,L.Nodup->(L.map fun a=>((cC (p::r) a).getD []).length).sum<=(if p.1∈L then p.2.length else 0)+(L.map fun a=>((cC r a).getD []).length).sum:=by
    intro L
    induction L with
    |nil=>intro _;simp
    |cons a t I=>grind[List.nodup_cons,iz,List.mem_cons_self]
   grind[oU]
theorem Cb(x:fX):∀L:List Int,((L.flatMap (fc x)).map fun p=>p.evs.length).sum=(L.map fun a=>((cC x.evs a).getD []).length).sum
 |[]=>rfl
 |a::r=>by rw[List.flatMap_cons,I',List.sum_append,J',List.sum_cons,Cb x r];congr 1;grind[fc]
theorem Gs(x:fX)(j:JV):oU (eY x j).1.evs<=oU x.evs+1:=by
 unfold eY;repeat' split
 all_goals first|exact Fs _ _ _|exact Nat.le_succ _
theorem Dk{x:fX}(h:x.ids.Nodup)(j:JV):(eY x j).1.ids.Nodup:=by
 unfold eY;repeat' split
 all_goals first|exact iV h _|exact h
theorem xH:∀(l:List JV)(x:fX),oU (db l x).1.evs<=oU x.evs+l.length
 |[],x=>ω _
 |j::r,x=>by
   simp only[db];split;·grind
   ·have h1:=xH r (eY x j).1
    grind[Gs,List.length_cons]
theorem ur:∀(l:List JV){x:fX},x.ids.Nodup->(db l x).1.ids.Nodup
 |[],x,h=>h
 |j::r,x,h=>by
   simp only[db];split;·grind
   ·exact ur r (Dk h j)
theorem FP{v:JV}(I:ck v 1=0)(hp:(bD v).length<=100000)(M:(db v.kids x0).2=0->v.kids.length<=1000):yy v:=by
 have N:=qQ I;refine⟨by omega,fun k hm u hu=>?_,fun k hm=>?_,fun h0=>?_⟩
 ·have h1:=lO I hm
  have h2:=qQ h1;have h3:=qQ (lO h1 hu);have:=Cf hm;have:=Cf hu;omega
 ·unfold cm lZ
  cases hg:cM k de with
  |none=>simp[cR,JV.n]
  |some t=>
    by_cases J:t.op=3
    ·simp only[J,if_true,Option.getD_some]
     have h1:=lO (lO I hm) (rA hg);obtain⟨op,n,s,keys,kids⟩:=t;have J:op=3:=J;obtain⟨h2,_⟩:=lF h1;obtain⟨_,h3,_⟩:=jA h2;grind[fu]
    ·grind[cR,JV.n]
 ·rw[Cb]
  have h1:=BJ (db v.kids x0).1.evs (db v.kids x0).1.ids (ur v.kids (x:=x0) List.nodup_nil);grind[xH,x0,oU]
theorem oe{s:ByteArray}{v:JV}(h:eb (aX s)=.ok v i)(hs:s.size<=3000):yy v:=by
 obtain⟨J,hl,_⟩:=qd h;have hb:(aX s).length=s.size:=Array.length_toList;refine FP J (by omega) fun h0=>?_;have N:=qQ J;have h2:2*v.kids.length<=(v.kids.map fun k=>(bD k).length).sum:=by
  have I:∀k∈v.kids,2<=(bD k).length:=fun k hm=>by have M:=xX h0 k hm;obtain⟨op,n,t,keys,kids⟩:=k;have M:op=6:=M;grind[bD]
  clear N h0;generalize v.kids=l at I
  induction l with
  |nil=>simp
  |cons x r O=>grind
 omega
structure rU(z:fX)(x:lJ):Prop where
 ths:x.1=z.ids.map fun a=>⟨a,(cC z.names a).getD cw⟩
 evs:x.2=z.ids.map fun a=>(cC z.evs a).getD []
 nd:z.ids.Nodup
 kn:∀p∈z.names,p.1∈z.ids
 ke:∀p∈z.evs,p.1∈z.ids
theorem zi{x:lJ}(h:rU z x)(id):(cD x.1 id<0∧id∉z.ids)∨∃k:Nat,cD x.1 id=(k:Int)∧iI x.1 id=some k∧z.ids[k]?=some id∧l4 x.1 id=⟨id,(cC z.names id).getD cw⟩:=by
 by_cases hf:cD x.1 id<0
 ·refine .inl ⟨hf,fun hm=>?_⟩
  have I:=vA.1 hf;unfold iI at I;rw[List.findIdx?_eq_none_iff]at I;have:=I ⟨id,(cC z.names id).getD cw⟩ (by rw[h.ths];exact A'.2 ⟨id,hm,rfl⟩);grind
 ·obtain⟨k,h1,h2,h3,h4⟩:=nX hf
  refine .inr ⟨k,h2,h1,?_⟩;have h5:=h3;rw[h.ths,τ,χ]at h5;obtain⟨a,J,e⟩:=h5;rw[h.ths]at h4;rw[<-e]at h4;have h4:a=id:=h4;subst h4;refine⟨J,?_⟩;rw[h.ths];exact e.symm
theorem qf(h:id∈ids):dq ids id=ids:=by grind[dq,List.any_eq_true]
theorem pY(h:id∉ids):dq ids id=ids++[id]:=by unfold dq;grind
theorem uS{l:List (Int×β)}(h:∀p∈l,p.1∈ids)(I:id∉ids):cC l id=none:=by grind[qZ]
theorem tM{β:Type}{l:List (Int×β)}{ids:List Int}(h:∀p∈l,p.1∈ids)(id:Int)(b:β):∀p∈dN l id b,p.1∈dq ids id:=by intro p hp;have:=(xP l id b p.1).1 (List.mem_map.2 ⟨p,hp,rfl⟩);grind[dq,qf,pY,List.mem_append_left]
theorem nk(h:a∈ids):a∈dq ids id:=by unfold dq;grind
theorem tD{β γ:Type}{l:List (Int×β)}{ids:List Int}{d:β}{F:Int->β->γ}(hl:∀p∈l,p.1∈ids)(J:ids.Nodup)(id:Int)(b:β):
 (id∉ids->(dq ids id).map (fun a=>F a ((cC (dN l id b) a).getD d))=ids.map (fun a=>F a ((cC l a).getD d))++[F id b])∧
 (∀k:Nat,ids[k]?=some id->(dq ids id).map (fun a=>F a ((cC (dN l id b) a).getD d))=(ids.map (fun a=>F a ((cC l a).getD d))).set k (F id b)):=by
 constructor;·grind[pY,List.map_congr_left,xY]
 ·intro k I
  rw[qf (List.mem_of_getElem? I)];refine List.ext_getElem? fun i=>?_;grind[List.getElem?_eq_some_iff,xY,List.pairwise_iff_getElem,Nat.lt_or_gt_of_ne]
theorem rK{β γ:Type}{l:List (Int×β)}{ids:List Int}{d:β}{F:Int->β->γ}(hl:∀p∈l,p.1∈ids)(id:Int):
 (id∉ids->(dq ids id).map (fun a=>F a ((cC l a).getD d))=ids.map (fun a=>F a ((cC l a).getD d))++[F id d])∧
 (id∈ids->(dq ids id).map (fun a=>F a ((cC l a).getD d))=ids.map (fun a=>F a ((cC l a).getD d))):=by
 grind[pY,uS,qf]
theorem IG{x:lJ}(h:rU z x)(I:iI x.1 id=some k)(hi:z.ids[k]?=some id):uM x id=(cC z.evs id).getD []:=by unfold uM;rw[I,h.evs];grind
theorem G8{j:JV}{level:Int}(J:ck j level=0)(hb:cQ j (da j)=false):ri j=(bif (cQ j (da j)||dD j cb 4)then true else !iB j rG):=by
 have M:gk j=false:=by rw[head_eq J,hb]
 have I:=hb;unfold cQ at I;simp only[Bool.or_eq_false_iff]at I;obtain⟨⟨⟨h0,h1⟩,_⟩,h2⟩:=I;have N:j.op=6:=by simpa[da]using h0
 have hl:=(checked J).1 N;have p1:=nU h1;have p2:=nU h2;unfold ri;rw[M,hb];simp only[cond_false,Bool.false_or];unfold dD lZ
 cases hg:cM j cb with
 |none=>simp
 |some v=>
   by_cases hv:v.op=4
   ·simp only[Option.isSome_some,Bool.not_true,cond_false,Option.getD_some,hv,decide_true,if_true,Option.isNone_some]
    grind[iB,rG,BM,Option.isSome_some,List.length_cons]
   ·grind
theorem BZ(h:dD j cb 4=false):((cM j cb).getD cR).s=(cm j cb 4).s:=by grind[dD,lZ,cm,cM,cb]
theorem GN{x:lJ}(h:rU z x)(U:ck j level=0):(fT x j).2=(eY z j).2∧((eY z j).2=0->rU (eY z j).1 (fT x j).1):=by
 have hh:=head_eq U;unfold fT eY;rw[hh]
 cases hb:cQ j (da j)with
 |true=>rw[if_pos rfl,if_pos rfl];exact⟨rfl,fun q=>by simp at q⟩
 |false=>
   obtain⟨hs,hn⟩:=zE hb U;rw[if_neg Bool.false_ne_true,if_neg Bool.false_ne_true,hs,hn];obtain⟨tid,J⟩:∃t,t=(cm j de 3).n:=⟨_,rfl⟩;by_cases hM:(cm j e8 4).s=pM
   ·rw[if_pos hM,if_neg (show ¬(cm j e8 4).s≠pM from fun q=>q hM)]
    have I:=G8 U hb;rw[hb]at I;have hT:sJ x j=(decide (gW j=0)&&(decide (0<=cD x.1 tid)&&!decide ((l4 x.1 tid).name=cw))):=by unfold sJ;rw[hn,←J];cases decide (gW j=0)<;>cases decide (0<=cD x.1 tid)<;>rfl
    rw[hT,←J]
    cases hq:(bif (false||dD j cb 4)then true else !iB j rG)with
    |true=>
      rw[hq]at I;have X:gW j=10:=by unfold gW;rw[if_pos I]
      rw[X,if_neg (by simp),if_pos (by decide),if_pos rfl];exact⟨rfl,fun q=>by simp at q⟩
    |false=>
      rw[hq]at I;have O:dD j cb 4=false:=by
       cases hb4:dD j cb 4 with
       |false=>rfl
       |true=>rw[hb4]at hq;cases hq
      have X:gW j=cO (cm j cb 4).s:=by unfold gW;rw[I,BZ O];rfl
      have hS:fR j=(cm j cb 4).s:=by unfold fR;rw[I,BZ O];rfl
      rw[X,hS,if_neg (show ¬(false=true) by decide)];by_cases hne:cO (cm j cb 4).s=0
      ·rw[hne]
       simp only[decide_true,Bool.true_and,ne_eq,not_true_eq_false,if_false];rcases zi h tid with⟨M,hm⟩|⟨k,M,hk,hi,ha⟩
       ·have N:(cC z.names tid).getD cw=cw:=by rw[uS h.kn hm];rfl
        rw[if_neg (by simp;omega),if_pos M,if_neg (by simpa using N)];refine⟨rfl,fun _=>⟨?_,?_,iV h.nd _,tM h.kn _ _,fun p hp=>nk (h.ke p hp)⟩⟩
        ·rw[h.ths]
         exact((tD (F:=fun a b=>(⟨a,b⟩:ca)) h.kn h.nd tid _).1 hm).symm
        ·rw[h.evs]
         exact((rK (F:=fun _ b=>b) h.ke tid).1 hm).symm
       ·rw[ha,M]
        by_cases N:(cC z.names tid).getD cw=cw
        ·rw[if_neg (by simp[N]),if_neg (by omega),if_neg (by simpa using N)]
         refine⟨rfl,fun _=>⟨?_,?_,iV h.nd _,tM h.kn _ _,fun p hp=>nk (h.ke p hp)⟩⟩
         ·rw[h.ths]
          exact((tD (F:=fun a b=>(⟨a,b⟩:ca)) h.kn h.nd tid _).2 k hi).symm
         ·rw[h.evs]
          exact((rK (F:=fun _ b=>b) h.ke tid).2 (ζ hi)).symm
        ·rw[if_pos (by simp[N]),if_pos N]
         exact⟨rfl,fun q=>by simp at q⟩
      ·rw[if_neg (by simp[hne]),if_pos hne,if_pos hne]
       exact⟨rfl,fun q=>absurd q hne⟩
   ·rw[if_neg hM,if_pos hM,GB]
    by_cases he:(cH j).2.2=0
    ·rw[if_neg (by simpa using he),if_pos he]
     have ht:(cH j).1=tid:=by rw[(xJ he).2,J]
     rw[<-J,ht];rcases zi h tid with⟨M,hm⟩|⟨k,M,hk,hi,ha⟩
     ·rw[if_pos M]
      refine⟨rfl,fun _=>⟨?_,?_,iV h.nd _,fun p hp=>nk (h.kn p hp),tM h.ke _ _⟩⟩
      ·rw[h.ths]
       exact((rK (F:=fun a b=>(⟨a,b⟩:ca)) h.kn tid).1 hm).symm
      ·have:=(tD (d:=([]:List Ev)) (F:=fun _ b=>b) h.ke h.nd tid ((cC z.evs tid).getD []++[(cH j).2.1])).1 hm
       have h0:(cC z.evs tid).getD []=[]:=by rw[uS h.ke hm];rfl
       rw[h.evs];show List.map _ _++[[(cH j).2.1]]=List.map (fun a=>(cC (dN z.evs tid ((cC z.evs tid).getD []++[(cH j).2.1])) a).getD []) (dq z.ids tid);rw[this,h0];rfl
     ·rw[M,if_neg (by omega),IG h hk hi]
      refine⟨rfl,fun _=>⟨?_,?_,iV h.nd _,fun p hp=>nk (h.kn p hp),tM h.ke _ _⟩⟩
      ·rw[h.ths]
       exact((rK (F:=fun a b=>(⟨a,b⟩:ca)) h.kn tid).2 (ζ hi)).symm
      ·rw[h.evs]
       exact((tD (d:=([]:List Ev)) (F:=fun _ b=>b) h.ke h.nd tid _).2 k hi).symm
    ·rw[if_pos (by simpa using he),if_neg he]
     exact⟨rfl,fun q=>absurd q he⟩
theorem sf:∀{l:List JV}{z:fX}{x:lJ},rU z x->(∀k∈l,ck k level=0)->(eQ l x).2=(db l z).2∧((db l z).2=0->rU (db l z).1 (eQ l x).1)
 |[],z,x,h,_=>⟨rfl,fun _=>h⟩
 |j::r,z,x,h,hc=>by
   obtain⟨h1,h2⟩:=GN h (hc j D');simp only[eQ,db];by_cases q:(eY z j).2=0
   ·rw[if_neg (by rw[h1];simpa using q),if_neg (by simpa using q)]
    exact sf (h2 q) (fun k I=>hc k (q' _ I))
   ·grind
theorem By{x:lJ}(h:rU z x):km x=z.ids.flatMap (fc z):=by unfold km;rw[h.ths,h.evs,List.zip_map',List.flatMap_map];rfl
theorem Bx{x:lJ}(h:rU z x):x.1.map jZ=z.ids.map (lD z):=by rw[h.ths,List.map_map];grind[List.map_congr_left,jZ,lD,nameOf]
theorem D9{v:JV}(I:ck v level=0):mg v=if v.op≠5 then(gm,10)else if(db v.kids x0).2≠0 then(gm,(db v.kids x0).2)else ez ((db v.kids x0).1.ids.map (lD (db v.kids x0).1)) ((db v.kids x0).1.ids.flatMap (fc (db v.kids x0).1)):=by obtain⟨h1,h2⟩:=sf (l:=v.kids) (z:=x0) (x:=([],[])) ⟨rfl,rfl,List.nodup_nil,fun p hp=>(nomatch hp),fun p hp=>(nomatch hp)⟩ (fun k J=>lO I J);grind[mg,By,Bx]
end Go.Tb
namespace Go.Ab
open Go.RowKit
variable {w w':World}{tmps:Array Value}{pv:Nat→Nat→Prop}{x y:Operand}{t g i k e m j b id off d clock sz gen' cap mt t' g2 d0:Nat}{P:Program}{Q':Exit→Act→World→Prop}{fid:FuncId}{lv' lv gs order os:List Nat}{bs:List (Nat×Nat)}{o:Oper}{xs:Array Operand}{fn:Func}{parts:Array (Nat×Operand)}{α ι β:Type}{dst:Option Nat}{hole:Option Value}{R:Value→World→Prop}{ops:Array Oper}{want:Bool}{listed:Array Bool}{T ty:TypeId}{act:Act}
variable {es es2:List (List D)}{f:List (Nat×A)}{G:Gh}{a a':A}{st st':St}{l:List D}{E E':En}{args cells cells' caps:List A}{Q:Exit→St→Prop}{b1:List (List A)}{C:Ctx}
variable {rs:List RV}
variable {I td J ed M N:cY}
section
variable{n:Nat}{c:Code}
variable{bx:List (Nat×List A)}{gen:Nat}
theorem Ch(g j)(hb:bk bx g=some cells)(hj:cells[j]?=some (.own g2 es))(M:cells.set j (.d (.sl es))=cells')(h:W P C n c Q ⟨f,(g,cells')::bx,lv,gen⟩):W P C n c Q ⟨f,bx,lv,gen⟩:=by
 subst M;intro tmps w ⟨G,hs⟩;refine h tmps w ⟨G,hs.lg hb (by simp) fun b cs T h1 h2 h3 i x a N I=>?_⟩;by_cases e:j=i
 ·subst e
  have J:j<cells.length:=(δ.1 hj).1;rw[List.getElem?_set_self J]at I;simp only[Option.some.injEq]at I;subst I;have:=h3 j x _ N hj;cases this with|own _ _ _ hd _ _=>exact .d hd
 ·grind
end
theorem E6(o k):ia o (List.replicate k A.any)=List.replicate k A.any:=by rw[iN,List.map_replicate];rfl
end Go.Ab
namespace Go.Tb
open Go.Ab
def zO(th:Int)(g:Nat)(E:List Ev)(k:Nat):List A:=.d (ci th)::.d (ci 0)::.d (ci 0)::.own g (E.map Ev.c)::List.replicate k .any
theorem IW{o:List Nat}{th:Int}{g i:Nat}{E:List Ev}{k:Nat}(h:pos o g=some i):ia o (zO th g E k)=zO th i E k:=by unfold zO;simp only[ia,E6,Ab.cV,h]
theorem Cd{o:List Nat}{bx:List (Nat×List A)}{q i j g g2:Nat}{th:Int}{E:List Ev}{k:Nat}(I:o[q]?=some j)(hb:bk bx j=some (zO th g E k))(hp:pos o g=some g2)(hi:i=q):kL o bx [(i,zO th g2 E k)]:=by subst hi;refine⟨?_,trivial⟩;grind[IW]
end Go.Tb
namespace Go.Proofs
open Go.Shelf
def Tryz.ug:Go.Shelf.Ren:=⟨fun|169=>90|n=>n,fun|70=>147|9=>9|0=>0|72=>150|37=>148|127=>201|3=>3|5=>5|n=>n,fun|n=>n⟩
theorem Tryz.IP:Go.Proofs.Lays.n169 Tryz.prog Tryz.ug:={
 mixed:=by kernel_rfl
 f169:=Tryz.func90.trans (congrArg some (by kernel_rfl))
 t0:=Tryz.underlying0
 a0:=Tryz.isAgg0
 z0:=Tryz.sizeOf0
 v0:=Tryz.zeroValue0
 t3:=Tryz.underlying3
 a3:=Tryz.isAgg3
 z3:=Tryz.sizeOf3
 v3:=Tryz.zeroValue3
 t9:=Tryz.underlying9
 a9:=Tryz.isAgg9
 z9:=Tryz.sizeOf9
 v9:=Tryz.zeroValue9
 t37:=Tryz.underlying148
 a37:=Tryz.isAgg148
 z37:=Tryz.sizeOf148
 v37:=Tryz.zeroValue148
 t70:=Tryz.underlying147
 a70:=Tryz.isAgg147
 z70:=Tryz.sizeOf147
 v70:=Tryz.zeroValue147
 t72:=Tryz.underlying150
 a72:=Tryz.isAgg150
 z72:=Tryz.sizeOf150
 v72:=Tryz.zeroValue150
 t127:=Tryz.underlying201
 a127:=Tryz.isAgg201
 z127:=Tryz.sizeOf201
 v127:=Tryz.zeroValue201}
theorem Tryz.tX:Builder.Extra Tryz.prog Tryz.ug:={
 sizeBuilder:=by kernel_rfl
 liesBuilder:=by kernel_rfl
 t5:=Tryz.underlying5
 a5:=Tryz.isAgg5
 z5:=Tryz.sizeOf5
 v5:=Tryz.zeroValue5
 infoByte:=by kernel_rfl
 cellsByte:=by kernel_rfl
 sizeByte:=by kernel_rfl
 neB5:=by decide}
open Go.RowKit in
theorem aB(B b)(l:List UInt8)(w:World)(h:Lib.IsBuilder 150 5 B b (Lib.byteCells l) w)(I:B<=w.heap.size):
 Calls Tryz.prog 90 #[.pointer (some ⟨b,0,none⟩)] w fun e w'=>e=.returned (.string ⟨l.toArray⟩)∧Below B w w':=Any.Builder_String_any Tryz.IP Tryz.tX B b l w h I
def Tryz.zm:Go.Shelf.Ren:=⟨fun|171=>76|243=>123|246=>163|283=>180|284=>181|285=>182|286=>183|129=>192|317=>191|318=>193|319=>194|320=>195|337=>202|338=>203|n=>n,fun|3=>3|9=>9|2=>2|4=>4|171=>219|0=>0|53=>220|37=>148|5=>5|173=>223|212=>230|51=>231|20=>20|213=>232|46=>233|232=>248|233=>249|n=>n,fun|17=>1|18=>4|19=>5|n=>n⟩
theorem Tryz.Gf:Go.Proofs.LaysM.n171 Tryz.prog Tryz.zm:={
 mixed:=by kernel_rfl
 f129:=Tryz.func192.trans (congrArg some (by kernel_rfl))
 f171:=Tryz.func76.trans (congrArg some (by kernel_rfl))
 f243:=Tryz.func123.trans (congrArg some (by kernel_rfl))
 f246:=Tryz.func163.trans (congrArg some (by kernel_rfl))
 f283:=Tryz.func180.trans (congrArg some (by kernel_rfl))
 f284:=Tryz.func181.trans (congrArg some (by kernel_rfl))
 f285:=Tryz.func182.trans (congrArg some (by kernel_rfl))
 f286:=Tryz.func183.trans (congrArg some (by kernel_rfl))
 f317:=Tryz.func191.trans (congrArg some (by kernel_rfl))
 f318:=Tryz.func193.trans (congrArg some (by kernel_rfl))
 f319:=Tryz.func194.trans (congrArg some (by kernel_rfl))
 f320:=Tryz.func195.trans (congrArg some (by kernel_rfl))
 f337:=Tryz.func202.trans (congrArg some (by kernel_rfl))
 f338:=Tryz.func203.trans (congrArg some (by kernel_rfl))
 t0:=Tryz.underlying0
 a0:=Tryz.isAgg0
 z0:=Tryz.sizeOf0
 v0:=Tryz.zeroValue0
 t2:=Tryz.underlying2
 a2:=Tryz.isAgg2
 z2:=Tryz.sizeOf2
 v2:=Tryz.zeroValue2
 t3:=Tryz.underlying3
 a3:=Tryz.isAgg3
 z3:=Tryz.sizeOf3
 v3:=Tryz.zeroValue3
 t4:=Tryz.underlying4
 a4:=Tryz.isAgg4
 z4:=Tryz.sizeOf4
 v4:=Tryz.zeroValue4
 t5:=Tryz.underlying5
 a5:=Tryz.isAgg5
 z5:=Tryz.sizeOf5
 v5:=Tryz.zeroValue5
 t9:=Tryz.underlying9
 a9:=Tryz.isAgg9
 z9:=Tryz.sizeOf9
 v9:=Tryz.zeroValue9
 t20:=Tryz.underlying20
 a20:=Tryz.isAgg20
 z20:=Tryz.sizeOf20
 v20:=Tryz.zeroValue20
 t37:=Tryz.underlying148
 a37:=Tryz.isAgg148
 z37:=Tryz.sizeOf148
 v37:=Tryz.zeroValue148
 t46:=Tryz.underlying233
 a46:=Tryz.isAgg233
 z46:=Tryz.sizeOf233
 v46:=Tryz.zeroValue233
 t51:=Tryz.underlying231
 a51:=Tryz.isAgg231
 z51:=Tryz.sizeOf231
 v51:=Tryz.zeroValue231
 t53:=Tryz.underlying220
 a53:=Tryz.isAgg220
 z53:=Tryz.sizeOf220
 v53:=Tryz.zeroValue220
 t171:=Tryz.underlying219
 a171:=Tryz.isAgg219
 z171:=Tryz.sizeOf219
 v171:=Tryz.zeroValue219
 t173:=Tryz.underlying223
 a173:=Tryz.isAgg223
 z173:=Tryz.sizeOf223
 v173:=Tryz.zeroValue223
 t212:=Tryz.underlying230
 a212:=Tryz.isAgg230
 z212:=Tryz.sizeOf230
 v212:=Tryz.zeroValue230
 t213:=Tryz.underlying232
 a213:=Tryz.isAgg232
 z213:=Tryz.sizeOf232
 t232:=Tryz.underlying248
 a232:=Tryz.isAgg248
 z232:=Tryz.sizeOf248
 v232:=Tryz.zeroValue248
 t233:=Tryz.underlying249
 a233:=Tryz.isAgg249
 z233:=Tryz.sizeOf249
 v233:=Tryz.zeroValue249
 g17:=by kernel_rfl
 g18:=by kernel_rfl
 g19:=by kernel_rfl
 i0:=by kernel_rfl
 i2:=by kernel_rfl
 i3:=by kernel_rfl
 i4:=by kernel_rfl
 i5:=by kernel_rfl
 i9:=by kernel_rfl
 i20:=by kernel_rfl
 i37:=by kernel_rfl
 i46:=by kernel_rfl
 i51:=by kernel_rfl
 i53:=by kernel_rfl
 i171:=by kernel_rfl
 i173:=by kernel_rfl
 i212:=by kernel_rfl
 i232:=by kernel_rfl
 i233:=by kernel_rfl
 m17:=by kernel_rfl
 m18:=by kernel_rfl
 m19:=by kernel_rfl}
open Go.RowKit Go.Sort Go.Lib in
theorem aG(n)(h0:-9223372036854775808<=n)(h1:n<=9223372036854775807)(w:World)(I:Lib.TabIs Tryz.prog w "internal/strconv.uint64pow10" .u64 Lib.pow10Tab):
 Calls Tryz.prog 76 #[.int .i64 n] w fun e w'=>e=.returned (.string ⟨(Lib.itoa n).toArray⟩)∧∃k os,w'=grow (w.drewN k) os:=Any.strconv_Itoa Tryz.Gf n h0 h1 w I
def Tryz.yZ:Go.Shelf.Ren:=⟨fun|172=>177|244=>189|245=>190|247=>197|279=>198|280=>199|281=>200|282=>201|287=>204|316=>205|171=>76|205=>206|321=>207|322=>208|243=>123|246=>163|283=>180|284=>181|285=>182|286=>183|129=>192|317=>191|318=>193|319=>194|320=>195|337=>202|338=>203|n=>n,fun|9=>9|3=>3|75=>196|76=>197|4=>4|5=>5|167=>236|37=>148|0=>0|85=>237|2=>2|168=>239|53=>220|175=>243|46=>233|210=>246|127=>201|145=>253|143=>251|21=>21|171=>219|173=>223|212=>230|51=>231|20=>20|213=>232|232=>248|233=>249|80=>152|n=>n,fun|15=>2|16=>3|17=>1|18=>4|19=>5|n=>n⟩
theorem Tryz.uF:Go.Proofs.LaysC.n172 Tryz.prog Tryz.yZ:={
 mixed:=by kernel_rfl
 f129:=Tryz.func192.trans (congrArg some (by kernel_rfl))
 f171:=Tryz.func76.trans (congrArg some (by kernel_rfl))
 f172:=Tryz.func177.trans (congrArg some (by kernel_rfl))
 f205:=Tryz.func206.trans (congrArg some (by kernel_rfl))
 f243:=Tryz.func123.trans (congrArg some (by kernel_rfl))
 f244:=Tryz.func189.trans (congrArg some (by kernel_rfl))
 f245:=Tryz.func190.trans (congrArg some (by kernel_rfl))
 f246:=Tryz.func163.trans (congrArg some (by kernel_rfl))
 f247:=Tryz.func197.trans (congrArg some (by kernel_rfl))
 f279:=Tryz.func198.trans (congrArg some (by kernel_rfl))
 f280:=Tryz.func199.trans (congrArg some (by kernel_rfl))
 f281:=Tryz.func200.trans (congrArg some (by kernel_rfl))
 f282:=Tryz.func201.trans (congrArg some (by kernel_rfl))
 f283:=Tryz.func180.trans (congrArg some (by kernel_rfl))
 f284:=Tryz.func181.trans (congrArg some (by kernel_rfl))
 f285:=Tryz.func182.trans (congrArg some (by kernel_rfl))
 f286:=Tryz.func183.trans (congrArg some (by kernel_rfl))
 f287:=Tryz.func204.trans (congrArg some (by kernel_rfl))
 f316:=Tryz.func205.trans (congrArg some (by kernel_rfl))
 f317:=Tryz.func191.trans (congrArg some (by kernel_rfl))
 f318:=Tryz.func193.trans (congrArg some (by kernel_rfl))
 f319:=Tryz.func194.trans (congrArg some (by kernel_rfl))
 f320:=Tryz.func195.trans (congrArg some (by kernel_rfl))
 f321:=Tryz.func207.trans (congrArg some (by kernel_rfl))
 f322:=Tryz.func208.trans (congrArg some (by kernel_rfl))
 f337:=Tryz.func202.trans (congrArg some (by kernel_rfl))
 f338:=Tryz.func203.trans (congrArg some (by kernel_rfl))
 t0:=Tryz.underlying0
 a0:=Tryz.isAgg0
 z0:=Tryz.sizeOf0
 v0:=Tryz.zeroValue0
 t2:=Tryz.underlying2
 a2:=Tryz.isAgg2
 z2:=Tryz.sizeOf2
 v2:=Tryz.zeroValue2
 t3:=Tryz.underlying3
 a3:=Tryz.isAgg3
 z3:=Tryz.sizeOf3
 v3:=Tryz.zeroValue3
 t4:=Tryz.underlying4
 a4:=Tryz.isAgg4
 z4:=Tryz.sizeOf4
 v4:=Tryz.zeroValue4
 t5:=Tryz.underlying5
 a5:=Tryz.isAgg5
 z5:=Tryz.sizeOf5
 v5:=Tryz.zeroValue5
 t9:=Tryz.underlying9
 a9:=Tryz.isAgg9
 z9:=Tryz.sizeOf9
 v9:=Tryz.zeroValue9
 t20:=Tryz.underlying20
 a20:=Tryz.isAgg20
 z20:=Tryz.sizeOf20
 v20:=Tryz.zeroValue20
 t21:=Tryz.underlying21
 a21:=Tryz.isAgg21
 z21:=Tryz.sizeOf21
 v21:=Tryz.zeroValue21
 t37:=Tryz.underlying148
 a37:=Tryz.isAgg148
 z37:=Tryz.sizeOf148
 v37:=Tryz.zeroValue148
 t46:=Tryz.underlying233
 a46:=Tryz.isAgg233
 z46:=Tryz.sizeOf233
 v46:=Tryz.zeroValue233
 t51:=Tryz.underlying231
 a51:=Tryz.isAgg231
 z51:=Tryz.sizeOf231
 v51:=Tryz.zeroValue231
 t53:=Tryz.underlying220
 a53:=Tryz.isAgg220
 z53:=Tryz.sizeOf220
 v53:=Tryz.zeroValue220
 t75:=Tryz.underlying196
 a75:=Tryz.isAgg196
 z75:=Tryz.sizeOf196
 v75:=Tryz.zeroValue196
 t76:=Tryz.underlying197
 a76:=Tryz.isAgg197
 z76:=Tryz.sizeOf197
 v76:=Tryz.zeroValue197
 t85:=Tryz.underlying237
 a85:=Tryz.isAgg237
 z85:=Tryz.sizeOf237
 v85:=Tryz.zeroValue237
 t127:=Tryz.underlying201
 a127:=Tryz.isAgg201
 z127:=Tryz.sizeOf201
 v127:=Tryz.zeroValue201
 t143:=Tryz.underlying251
 a143:=Tryz.isAgg251
 z143:=Tryz.sizeOf251
 v143:=Tryz.zeroValue251
 t145:=Tryz.underlying253
 a145:=Tryz.isAgg253
 z145:=Tryz.sizeOf253
 v145:=Tryz.zeroValue253
 t167:=Tryz.underlying236
 a167:=Tryz.isAgg236
 z167:=Tryz.sizeOf236
 v167:=Tryz.zeroValue236
 t168:=Tryz.underlying239
 a168:=Tryz.isAgg239
 z168:=Tryz.sizeOf239
 v168:=Tryz.zeroValue239
 t171:=Tryz.underlying219
 a171:=Tryz.isAgg219
 z171:=Tryz.sizeOf219
 v171:=Tryz.zeroValue219
 t173:=Tryz.underlying223
 a173:=Tryz.isAgg223
 z173:=Tryz.sizeOf223
 v173:=Tryz.zeroValue223
 t175:=Tryz.underlying243
 a175:=Tryz.isAgg243
 z175:=Tryz.sizeOf243
 v175:=Tryz.zeroValue243
 t210:=Tryz.underlying246
 a210:=Tryz.isAgg246
 z210:=Tryz.sizeOf246
 v210:=Tryz.zeroValue246
 t212:=Tryz.underlying230
 a212:=Tryz.isAgg230
 z212:=Tryz.sizeOf230
 v212:=Tryz.zeroValue230
 t213:=Tryz.underlying232
 a213:=Tryz.isAgg232
 z213:=Tryz.sizeOf232
 t232:=Tryz.underlying248
 a232:=Tryz.isAgg248
 z232:=Tryz.sizeOf248
 v232:=Tryz.zeroValue248
 t233:=Tryz.underlying249
 a233:=Tryz.isAgg249
 z233:=Tryz.sizeOf249
 v233:=Tryz.zeroValue249
 g15:=by kernel_rfl
 g16:=by kernel_rfl
 g17:=by kernel_rfl
 g18:=by kernel_rfl
 g19:=by kernel_rfl
 t80:=Tryz.underlying152
 a80:=Tryz.isAgg152
 z80:=Tryz.sizeOf152
 v80:=Tryz.zeroValue152
 i0:=by kernel_rfl
 i2:=by kernel_rfl
 i3:=by kernel_rfl
 i4:=by kernel_rfl
 i5:=by kernel_rfl
 i9:=by kernel_rfl
 i20:=by kernel_rfl
 i21:=by kernel_rfl
 i37:=by kernel_rfl
 i46:=by kernel_rfl
 i51:=by kernel_rfl
 i53:=by kernel_rfl
 i75:=by kernel_rfl
 i76:=by kernel_rfl
 i80:=by kernel_rfl
 i85:=by kernel_rfl
 i127:=by kernel_rfl
 i143:=by kernel_rfl
 i145:=by kernel_rfl
 i167:=by kernel_rfl
 i168:=by kernel_rfl
 i171:=by kernel_rfl
 i173:=by kernel_rfl
 i175:=by kernel_rfl
 i210:=by kernel_rfl
 i212:=by kernel_rfl
 i232:=by kernel_rfl
 i233:=by kernel_rfl
 m15:=by kernel_rfl
 m16:=by kernel_rfl
 m17:=by kernel_rfl
 m18:=by kernel_rfl
 m19:=by kernel_rfl
 c0:=by kernel_rfl
 c2:=by kernel_rfl
 c3:=by kernel_rfl
 c4:=by kernel_rfl
 c5:=by kernel_rfl
 c9:=by kernel_rfl
 c20:=by kernel_rfl
 c21:=by kernel_rfl
 c37:=by kernel_rfl
 c46:=by kernel_rfl
 c51:=by kernel_rfl
 c53:=by kernel_rfl
 c75:=by kernel_rfl
 c76:=by kernel_rfl
 c80:=by kernel_rfl
 c85:=by kernel_rfl
 c127:=by kernel_rfl
 c143:=by kernel_rfl
 c145:=by kernel_rfl
 c167:=by kernel_rfl
 c168:=by kernel_rfl
 c171:=by kernel_rfl
 c173:=by kernel_rfl
 c175:=by kernel_rfl
 c210:=by kernel_rfl
 c212:=by kernel_rfl
 c213:=by kernel_rfl
 c232:=by kernel_rfl
 c233:=by kernel_rfl}
open Go.RowKit in
theorem aD(s:ByteArray)(I:s.size<=9223372036854775806)(v)(h:Lib.atoiAll s.data.toList=.ok v)(w):
 Calls Tryz.prog 177 #[.string s] w fun e w'=>e=.returned (.tuple #[.int .i64 v,.nilIface])∧(w'=w∨∃t,w'=Lib.bytesWorld w 5 t):=Any.strconv_Atoi_ok Tryz.uF s I v h w
open Go.RowKit in
theorem ay(s:ByteArray)(I:s.size<=281474976710656)(h:Lib.atoiAll s.data.toList=Lib.atoiAll [])(J p)(w:World)(M:w.var? Tryz.prog "strconv.ErrSyntax" =some #[.iface J p]):
 Calls Tryz.prog 177 #[.string s] w fun e w'=>∃N,e=.returned (.tuple #[.int .i64 0,.iface 239 (.pointer (some ⟨N,0,none⟩))])∧w.heap.size<=N∧w'.heap[N]?=some (.cells #[.string ⟨#[65,116,111,105]⟩,.string s,.iface J p] 246 (0,0))∧Below w.heap.size w w':=Any.strconv_Atoi_syntax_var Tryz.uF s I h J p w M
open Go.RowKit in
theorem az(s:ByteArray)(I:s.size<=281474976710656)(h:Lib.atoiAll s.data.toList=.range)(J p)(w:World)(M:w.var? Tryz.prog "strconv.ErrRange" =some #[.iface J p]):
 Calls Tryz.prog 177 #[.string s] w fun e w'=>∃N,e=.returned (.tuple #[.int .i64 (Lib.atoiSat s.data.toList),.iface 239 (.pointer (some ⟨N,0,none⟩))])∧w.heap.size<=N∧w'.heap[N]?=some (.cells #[.string ⟨#[65,116,111,105]⟩,.string s,.iface J p] 246 (0,0))∧Below w.heap.size w w':=Any.strconv_Atoi_range_var Tryz.uF s I h J p w M
end Go.Proofs
namespace Go.Proofs.YtpiaiiopakafhaaGreatDoor
open Go.Ab
variable {l:List UInt8}{i k j a:Nat}{b:UInt8}{p:Int}{w:World}{α:Type}
variable {f:List (Nat×A)}
abbrev J8:List (Nat×cY):=[
 (2,⟨.int .i64,1,8,[.int .i64 0]⟩),
 (3,⟨.int .i64,1,8,[.int .i64 0]⟩),
 (4,⟨.bool,1,1,[.bool false]⟩),
 (5,⟨.int .u8,1,1,[.int .u8 0]⟩),
 (9,⟨.str,1,16,[.string ⟨#[]⟩]⟩),
 (12,⟨.int .u64,1,8,[.int .u64 0]⟩),
 (21,⟨.int .i32,1,4,[.int .i32 0]⟩),
 (23,⟨.slice 56,1,24,[.slice none 0 0]⟩),
 (24,⟨.slice 59,1,24,[.slice none 0 0]⟩),
 (25,⟨.slice 97,1,24,[.slice none 0 0]⟩),
 (27,⟨.st [(0,23, "Threads"),(1,24, "Domains"),(2,25, "Snaps")],3,72,[.slice none 0 0,.slice none 0 0,.slice none 0 0]⟩),
 (28,⟨.slice 61,1,24,[.slice none 0 0]⟩),
 (30,⟨.st [(0,27, "Head"),(3,28, "Parts")],4,96,[.slice none 0 0,.slice none 0 0,.slice none 0 0,.slice none 0 0]⟩),
 (31,⟨.int .i64,1,8,[.int .i64 0]⟩),
 (36,⟨.slice 86,1,24,[.slice none 0 0]⟩),
 (42,⟨.int .i64,1,8,[.int .i64 0]⟩),
 (43,⟨.slice 9,1,24,[.slice none 0 0]⟩),
 (44,⟨.slice 46,1,24,[.slice none 0 0]⟩),
 (46,⟨.st [(0,42, "Op"),(1,3, "N"),(2,9, "S"),(3,43, "Keys"),(4,44, "Kids")],5,80,[.int .i64 0,.int .i64 0,.string ⟨#[]⟩,.slice none 0 0,.slice none 0 0]⟩),
 (48,⟨.int .i64,1,8,[.int .i64 0]⟩),
 (50,⟨.st [(0,3, "At"),(1,48, "Kind"),(2,9, "Name"),(3,3, "N"),(4,3, "M"),(5,43, "Stack")],6,72,[.int .i64 0,.int .i64 0,.string ⟨#[]⟩,.int .i64 0,.int .i64 0,.slice none 0 0]⟩),
 (56,⟨.st [(0,3, "Id"),(1,9, "Name"),(2,3, "Domain")],3,32,[.int .i64 0,.string ⟨#[]⟩,.int .i64 0]⟩),
 (57,⟨.slice 50,1,24,[.slice none 0 0]⟩),
 (59,⟨.st [(0,3, "Id"),(1,3, "Ppm")],2,16,[.int .i64 0,.int .i64 0]⟩),
 (61,⟨.st [(0,3, "Thread"),(1,3, "Serial"),(2,3, "Lost"),(3,57, "Events")],4,48,[.int .i64 0,.int .i64 0,.int .i64 0,.slice none 0 0]⟩),
 (66,⟨.ptr 71,1,8,[.pointer none]⟩),
 (67,⟨.map 3 9,1,8,[.map none]⟩),
 (68,⟨.map 3 57,1,8,[.map none]⟩),
 (69,⟨.slice 3,1,24,[.slice none 0 0]⟩),
 (71,⟨.st [(0,69, "ids"),(1,67, "names"),(2,68, "events")],3,40,[.slice none 0 0,.map none,.map none]⟩),
 (77,⟨.slice 57,1,24,[.slice none 0 0]⟩),
 (86,⟨.st [(0,3, "Thread"),(1,3, "Serial"),(2,3, "Count")],3,24,[.int .i64 0,.int .i64 0,.int .i64 0]⟩),
 (95,⟨.st [(0,3, "Lo"),(1,3, "Hi")],2,16,[.int .i64 0,.int .i64 0]⟩),
 (97,⟨.st [(0,3, "A"),(1,3, "AtA"),(2,3, "B"),(3,95, "AtB")],5,40,[.int .i64 0,.int .i64 0,.int .i64 0,.int .i64 0,.int .i64 0]⟩),
 (100,⟨.ptr 102,1,8,[.pointer none]⟩),
 (102,⟨.st [(0,46, "j"),(5,4, "bad")],6,88,[.int .i64 0,.int .i64 0,.string ⟨#[]⟩,.slice none 0 0,.slice none 0 0,.bool false]⟩),
 (106,⟨.slice 108,1,24,[.slice none 0 0]⟩),
 (108,⟨.st [(0,9, "ph"),(1,48, "kind"),(2,4, "name"),(3,9, "n"),(4,9, "m"),(5,4, "hasStack")],6,72,[.string ⟨#[]⟩,.int .i64 0,.bool false,.string ⟨#[]⟩,.string ⟨#[]⟩,.bool false]⟩),
 (125,⟨.map 3 28,1,8,[.map none]⟩),
 (128,⟨.st [(0,3, "at"),(1,31, "why")],2,16,[.int .i64 0,.int .i64 0]⟩),
 (130,⟨.ptr 132,1,8,[.pointer none]⟩),
 (132,⟨.st [(0,9, "s"),(1,3, "at")],2,24,[.string ⟨#[]⟩,.int .i64 0]⟩),
 (138,⟨.ptr 140,1,8,[.pointer none]⟩),
 (140,⟨.st [(0,9, "S"),(1,3, "At"),(2,3, "Pos"),(3,31, "Err")],4,40,[.string ⟨#[]⟩,.int .i64 0,.int .i64 0,.int .i64 0]⟩),
 (147,⟨.ptr 150,1,8,[.pointer none]⟩),
 (148,⟨.slice 5,1,24,[.slice none 0 0]⟩),
 (150,⟨.st [(0,147, "addr"),(1,148, "buf")],2,32,[.pointer none,.slice none 0 0]⟩),
 (160,⟨.st [(0,9, "word"),(1,4, "name"),(2,4, "n"),(3,4, "m"),(4,4, "stack"),(5,3, "least"),(6,3, "most"),(7,3, "mLeast"),(8,3, "mMost")],9,56,[.string ⟨#[]⟩,.bool false,.bool false,.bool false,.bool false,.int .i64 0,.int .i64 0,.int .i64 0,.int .i64 0]⟩),
 (169,⟨.map 3 4,1,8,[.map none]⟩),
 (174,⟨.map 3 175,1,8,[.map none]⟩),
 (175,⟨.ptr 177,1,8,[.pointer none]⟩),
 (177,⟨.st [(0,3, "next"),(1,3, "last")],2,16,[.int .i64 0,.int .i64 0]⟩),
 (181,⟨.ptr 61,1,8,[.pointer none]⟩),
 (201,⟨.ptr 5,1,8,[.pointer none]⟩),
 (205,⟨.slice 160,1,24,[.slice none 0 0]⟩),
 (212,⟨.map 9 4,1,8,[.map none]⟩),
 (220,⟨.int .u64,1,8,[.int .u64 0]⟩),
 (231,⟨.int .u32,1,4,[.int .u32 0]⟩),
 (233,⟨.int .u64,1,8,[.int .u64 0]⟩),
 (236,⟨.int .i64,1,8,[.int .i64 0]⟩),
 (239,⟨.ptr 246,1,8,[.pointer none]⟩),
 (251,⟨.ptr 253,1,8,[.pointer none]⟩),
 (253,⟨.st [(0,9, "s")],1,16,[.string ⟨#[]⟩]⟩)]
theorem Ky:J8.all (fun x=>yR Tryz.prog x.1 x.2)=true:=by kernel_rfl
abbrev aW:cT Tryz.prog:=⟨J8,Ky,by kernel_rfl⟩
instance L9:Go.Ab.dG Tryz.prog:=⟨fun W=>qq Tryz.prog W⟩
section
variable{C:Ctx}{n:Nat}{ops:Array Oper}{Q:Exit→St→Prop}{rest:List Oper}{bx:List (Nat×List A)}{lv:List Nat}{gen d:Nat}{ty:TypeId}{pos:String}{af:Array Edge}{a:A}
theorem pE{op}(h:Bool.rec (motive:=fun _=>Option A) none (kX aW f bx op) (Nat.blt d n)=some a)(k:WO Tryz.prog C n ops Q rest ⟨(d,a)::f,bx,lv,gen⟩):WO Tryz.prog C n ops Q (⟨some d,op,ty,pos,af,none⟩::rest) ⟨f,bx,lv,gen⟩:=by
 cases hb:Nat.blt d n with
 |false=>rw[hb]at h;exact absurd h (by simp)
 |true=>rw[hb]at h;exact pu (ev aW h) hb k
theorem pR{t x}{I:cY}{l:List D}(J:bk aW.l t=some I)(M:I.k.agg=true)(N:av f x=some (.rowd l))(hl:l.length=I.n)(hd:Nat.blt d n=true)(k:WO Tryz.prog C n ops Q rest ⟨(d,.ag l)::f,bx,lv,gen⟩):WO Tryz.prog C n ops Q (⟨some d,.load t x,ty,pos,af,none⟩::rest) ⟨f,bx,lv,gen⟩:=pu (eH aW J M N hl) hd k
theorem pB{t x}{I:cY}{g}{l:List D}(J:bk aW.l t=some I)(M:I.k.agg=true)(N:av f x=some (.ptr g 0))(hb:bk bx g=some (l.map A.d))(hl:l.length=I.n)(hd:Nat.blt d n=true)(k:WO Tryz.prog C n ops Q rest ⟨(d,.ag l)::f,bx,lv,gen⟩):WO Tryz.prog C n ops Q (⟨some d,.load t x,ty,pos,af,none⟩::rest) ⟨f,bx,lv,gen⟩:=pu (eI aW J M N hb hl) hd k
theorem aY(k){l r f'}(h:runK aW n k l f bx=some (r,f'))(q:WO Tryz.prog C n ops Q r ⟨f',bx,lv,gen⟩):WO Tryz.prog C n ops Q l ⟨f,bx,lv,gen⟩:=Hr aW k h q
theorem cJ(k){l:List Oper}{id f'}(h:runK aW n k l f bx=some ([],f'))(q:Q .normal ⟨f',bx,lv,gen⟩):W Tryz.prog C n (.region id l.toArray false) Q ⟨f,bx,lv,gen⟩:=JK aW k h q
theorem aZ(k){l:List Oper}{id c f'}(h:runK aW n k l f bx=some ([],f'))(q:W Tryz.prog C n c Q ⟨f',bx,lv,gen⟩):W Tryz.prog C n (.seq (.region id l.toArray false) c) Q ⟨f,bx,lv,gen⟩:=LK aW k h q
end
theorem L2(W)(h:laidMet Tryz.prog Rows.chromeImportsRow.laid W):qq Tryz.prog W:=
 E5 (t:=230) (e:=220) (m:=20) (ti:=196) h (d:=Rows.laid_internal_strconv_uint64pow10) (.tail _ (.tail _ (.head _))) (by kernel_rfl) (by kernel_rfl) (by kernel_rfl) (by kernel_rfl) (by kernel_rfl) (by kernel_rfl)
  (nm:= "*errors.errorString") (nm':= "*errors.errorString") (.tail _ (.tail _ (.tail _ (.tail _ (.head _))))) (.tail _ (.tail _ (.tail _ (.head _)))) (by kernel_rfl) (by kernel_rfl) (by kernel_rfl)
open Go.Ab Go.Tb
set_option maxRecDepth 10000
set_option maxHeartbeats 1000000
attribute [local irreducible] W WO Pu QS QB QL QF QV cz CH QE
theorem HM(n):bp Tryz.prog 143 [.d (.v (.int .i64 n))] (.d (.v (.bool (fu n)))) 0:=by
 refine bp.b6 (n:=9) (ts:=[2]) Tryz.func143 (by kernel_rfl) Z Tryz.ntmps143 Tryz.results143 Z Z fun C hC I=>aZ 1 Z<|ae ?_;apply bC;(case hb=>rfl);·repeat' first|refine b4 Z Z Z|refine bz Z Z ?_|refine bA Z Z Z Z ?_|refine pE Z ?_|refine ab ?_|(apply bN;(case hj=>rfl);(case hl=>rfl))
 refine qs (W.ret (QF.bo trivial Z ?_));simp[norm,bO,fu]
theorem JY(n):bp Tryz.prog 172 [.d (.v (.int .i64 n))] (.d (.v (.bool (fu n)))) 0:=by
 refine bp.b6 (n:=9) (ts:=[2]) Tryz.func172 (by kernel_rfl) Z Tryz.ntmps172 Tryz.results172 Z Z fun C hC I=>aZ 1 Z<|ae ?_;apply bC;(case hb=>rfl);·repeat' first|refine b4 Z Z Z|refine bz Z Z ?_|refine bA Z Z Z Z ?_|refine pE Z ?_|refine ab ?_|(apply bN;(case hj=>rfl);(case hl=>rfl))
 refine qs (W.ret (QF.bo trivial Z ?_));simp[norm,bO,fu]
theorem D7(fid caps)(I:Still caps)(p)(hp:∀x:ByteArray,bp Tryz.prog fid (.d (.v (.string x))::caps) (.d (.v (.bool (p x)))) 0)(l:List ByteArray):
 bp Tryz.prog 148 [.d (.sl (l.map sc)),.clo fid caps] (.d (.v (.int .i64 (idx (l.findIdx? p))))) 0:=by
 refine bp.b6 (n:=19) (ts:=[4]) Tryz.func148 (by kernel_rfl) Z Tryz.ntmps148 Tryz.results148 Z Z fun C hC X=>aZ 1 Z<|ae<|aZ 3 Z<|W.block<|W.len (t:=0) Z Z<|fun hlen=>?_;try simp only[η,Ex.bE]at hlen
 refine W.bY (ι:={x:Nat//match x with|k=>k<=l.length∧cX p l k})
  (fun x=>match x.1 with|k=>[(8,.d (.v (.int .i64 ((k:Nat):Int))))]) [(0,_),(1,_),(7,_)]
  (fun x=>match x.1 with|k=>[]) [] [] 0 (fun x=>match x.1 with|k=>l.length-k)
  [] ⟨0,?_⟩ Z ?_ ⟨rfl,(by first|rfl|exact I.2),rfl,(by first|rfl|exact I.2),rfl,(by first|rfl|exact I.2),trivial⟩ ?_ trivial Z ?_
 ·exact⟨ς _,cX.zero⟩
 ·repeat' constructor
 ·repeat' exact trivial
 rintro⟨k,U,M⟩;show W _ _ _ _ _ ⟨[(8,.d (.v (.int .i64 ((k:Nat):Int)))),(0,_),(1,_),(7,_)],[],[],0⟩;refine aZ 1 Z<|ae<|ct (l:=l) (k:=k) Z (by simp[Ex.bE,bh]) U (fun x N hd O=>?_)<|fun he hd=>?_;·
  refine ah<|qs<|ae<|W.block<|aZ 2 Z<|ae<|aa<|aY 3 Z<|pu (indexAddr aW Z Z Z Z Z Z (ε _) (bF (by assumption)) Z) Z<|aY 1 Z<|pu (bm Z Z (by rw[I',I.1 _ 3];rfl) (hp x) Z) Z<|ab<|qs<|ba Z (fun J=>?_)<|fun J=>?_;·
   refine aZ 2 Z<|W.ret<|bw<|bl<|cN<|bw<|bl<|QF.bo trivial Z ?_;simp only[norm,bO];rw[M.found N J];rfl
  refine ah<|bW<|qs<|cJ 2 Z<|W.bZ [] ⟨k+1,?_⟩ ?_ Z ?_ ⟨rfl,(by first|rfl|exact I.2),rfl,(by first|rfl|exact I.2),rfl,(by first|rfl|exact I.2),trivial⟩ ?_ trivial Z;·exact⟨O,M.step N J⟩
  ·dsimp only;omega
  ·repeat' first|exact trivial|refine⟨bH (by assumption) (by assumption),?_⟩
  repeat' exact trivial
 refine an<|bL<|bM<|bK<|qs<|aZ 1 Z<|W.ret<|QF.bo trivial Z ?_;simp only[norm,bO];rw[M.end_ he];rfl
theorem yV(l:List ByteArray)(s):bp Tryz.prog 147 [.d (.sl (l.map sc)),.d (.v (.string s))] (.d (.v (.int .i64 (idx (l.findIdx? fun x=>decide (s=x)))))) 0:=by
 refine bp.b6 (n:=19) (ts:=[4]) Tryz.func147 (by kernel_rfl) Z Tryz.ntmps147 Tryz.results147 Z Z fun C hC U=>aZ 1 Z<|ae<|aZ 3 Z<|W.block<|W.len (t:=0) Z Z<|fun hlen=>?_;try simp only[η,Ex.bE]at hlen
 refine W.bY (ι:={x:Nat//match x with|k=>k<=l.length∧cX (fun x=>decide (s=x)) l k})
  (fun x=>match x.1 with|k=>[(8,.d (.v (.int .i64 ((k:Nat):Int))))]) [(0,_),(1,_),(7,_)]
  (fun x=>match x.1 with|k=>[]) [] [] 0 (fun x=>match x.1 with|k=>l.length-k)
  [] ⟨0,?_⟩ Z ?_ ⟨rfl,rfl,rfl,rfl,rfl,rfl,trivial⟩ ?_ trivial Z ?_
 ·exact⟨ς _,cX.zero⟩
 ·repeat' constructor
 ·repeat' exact trivial
 rintro⟨k,O,J⟩;show W _ _ _ _ _ ⟨[(8,.d (.v (.int .i64 ((k:Nat):Int)))),(0,_),(1,_),(7,_)],[],[],0⟩;refine aZ 1 Z<|ae<|ct (l:=l) (k:=k) Z (by simp[Ex.bE,bh]) O (fun x M hd N=>?_)<|fun he hd=>?_;·
  refine ah<|qs<|ae<|W.block<|aZ 2 Z<|ae<|aa<|aY 3 Z<|pu (indexAddr aW Z Z Z Z Z Z (ε _) (bF (by assumption)) Z) Z<|aY 2 Z<|ab<|qs<|ba Z (fun I=>?_)<|fun I=>?_;·
   refine aZ 2 Z<|W.ret<|bw<|bl<|cN<|bw<|bl<|QF.bo trivial Z ?_;simp only[norm,bO];rw[J.found M I];rfl
  refine ah<|bW<|qs<|cJ 2 Z<|W.bZ [] ⟨k+1,?_⟩ ?_ Z ?_ ⟨rfl,rfl,rfl,rfl,rfl,rfl,trivial⟩ ?_ trivial Z;·exact⟨N,J.step M I⟩
  ·dsimp only;omega
  ·repeat' first|exact trivial|refine⟨bH (by assumption) (by assumption),?_⟩
  repeat' exact trivial
 refine an<|bL<|bM<|bK<|qs<|aZ 1 Z<|W.ret<|QF.bo trivial Z ?_;simp only[norm,bO];rw[J.end_ he];rfl
theorem Bl(l:List ByteArray)(s):bp Tryz.prog 99 [.d (.sl (l.map sc)),.d (.v (.string s))] (.d (.v (.bool (l.any fun x=>decide (s=x))))) 0:=by refine bp.b6 (n:=9) (ts:=[4]) Tryz.func99 (by kernel_rfl) Z Tryz.ntmps99 Tryz.results99 Z Z fun C hC I=>?_;refine aZ 1 Z ?_;refine ae (aa (aY 2 Z ?_));refine pu (bm Z Z Z (yV ..) Z) Z ?_;refine aY 2 Z ?_;refine ab (qs (W.ret (QF.bo trivial Z ?_)));simp only[norm,bO];rw[<-mf]
theorem wX(fid caps)(I:Still caps)(p)(hp:∀x:ByteArray,bp Tryz.prog fid (.d (.v (.string x))::caps) (.d (.v (.bool (p x)))) 0)(l:List ByteArray):
 bp Tryz.prog 97 [.d (.sl (l.map sc)),.clo fid caps] (.d (.v (.bool (l.any p)))) 0:=by
 refine bp.b6 (n:=9) (ts:=[4]) Tryz.func97 (by kernel_rfl) Z Tryz.ntmps97 Tryz.results97 Z Z fun C hC J=>aZ 1 Z<|ae<|aa<|aY 2 Z<|pu (bm (args:=[.d (.sl (l.map sc)),.clo fid caps]) Z Z (by simp[conv,I.1 _ 2]) (D7 fid caps I p hp l) Z) Z<|aY 2 Z<|ab<|qs<|W.ret<|QF.bo trivial Z ?_;simp only[norm,bO];rw[<-mf]
theorem JL(s)(b:UInt8):bp Tryz.prog 161 [.d (.v (.string s)),.d (.v (.int .u8 b.toNat))] (.d (.v (.int .i64 (Lib.indexByte (aX s) b)))) 0:=by refine bp.b6 (n:=8) (ts:=[4]) Tryz.func161 (by kernel_rfl) Z Tryz.ntmps161 Tryz.results161 Z Z fun C hC I=>?_;refine W.lI (t:=0) Z (fun hok=>?_);refine aZ 1 Z ?_;refine ae (aa (aY 2 Z ?_));refine pu (K9 (vs:=[.string s,.int .u8 b.toNat]) Z Z (fun w=>(run_callFunc_extern Tryz.func179 (by kernel_rfl) (by kernel_rfl) (by kernel_rfl) (by kernel_rfl) #[.string s,.int .u8 b.toNat] w).trans (by rw[show(Extern.BytealgIndexByte.indexByte #[.string s,.int .u8 b.toNat]).run Tryz.prog w=_ from Lib.run_indexByteString s b.toNat w];rfl)) (AV hok _)) Z ?_;refine pE Z (ab (qs (W.ret (QF.bo trivial Z ?_))));simp[norm,bO,aX]
theorem Cg(s)(b:UInt8):bp Tryz.prog 119 [.d (.v (.string s)),.d (.v (.int .u8 b.toNat))] (.d (.v (.int .i64 (Lib.indexByte (aX s) b)))) 0:=by refine bp.b6 (n:=8) (ts:=[4]) Tryz.func119 (by kernel_rfl) Z Tryz.ntmps119 Tryz.results119 Z Z fun C hC I=>?_;refine aZ 1 Z ?_;refine ae (aa (aY 2 Z ?_));refine pu (bm Z Z Z (JL ..) Z) Z ?_;refine pE Z (ab (qs (W.ret (QF.bo trivial Z ?_))));rfl
theorem DU(b:UInt8):bp Tryz.prog 122 [.d (.v (.int .u8 b.toNat))] (.d (.v (.bool (iX b)))) 0:=by
 refine bp.b6 (n:=30) (ts:=[2]) Tryz.func122 (by kernel_rfl) Z Tryz.ntmps122 Tryz.results122 Z Z fun C hC I=>aZ 1 Z<|ae ?_;apply bC;(case hb=>rfl);·repeat' first|refine b4 Z Z Z|refine bz Z Z ?_|refine bA Z Z Z Z ?_|refine jQ Z Z Z ?_|refine pE Z ?_|refine ab ?_|refine pu (bm Z Z Z (Cg ..) Z) Z ?_|(apply bN;(case hj=>rfl);(case hl=>rfl))
 refine qs (W.ret (QF.bo trivial Z ?_));simp only[norm,bO];rw[yw];simp only[iX,lower,marks];simp[aX];grind
theorem tG(s):bp Tryz.prog 75 [.d (.v (.string s))] (.d (.v (.int .i64 (cO s)))) 0:=by
 refine bp.b6 (n:=22) (ts:=[2]) Tryz.func75 (by kernel_rfl) Z Tryz.ntmps75 Tryz.results75 Z Z fun C hC U=>aZ 1 Z<|ae<|ae<|?_
 apply bC;(case hb=>rfl);·repeat' first|refine b4 Z Z Z|refine bz Z Z ?_|refine bA Z Z Z Z ?_|refine pE Z ?_|refine ab ?_|(apply bN;(case hj=>rfl);(case hl=>rfl))
 refine qs (ba Z (fun J=>?_) (fun J=>?_));·
  refine aZ 1 Z<|W.ret<|bl<|QF.bo trivial Z ?_;simp only[norm,bO];grind[cO,qh]
 refine ah<|qs<|ae<|aZ 3 Z<|W.block<|W.lI (t:=0) Z<|fun hok=>?_;have hlen:=kC hok
 refine W.bY (ι:={x:Nat//match x with|k=>k<=(aX s).length∧((aX s).drop k).all iX=(aX s).all iX})
  (fun x=>match x.1 with|k=>[(13,.d (.v (.int .i64 ((k:Nat):Int))))]) [(0,_),(12,_)]
  (fun x=>match x.1 with|k=>[]) [] [] 0 (fun x=>match x.1 with|k=>(aX s).length-k)
  [] ⟨0,?_⟩ Z ?_ ⟨rfl,rfl,rfl,rfl,trivial⟩ ?_ trivial Z ?_
 ·exact⟨ς _,rfl⟩
 ·repeat' constructor
 ·repeat' exact trivial
 rintro⟨k,O,I⟩;show W _ _ _ _ _ ⟨[(13,.d (.v (.int .i64 ((k:Nat):Int)))),(0,_),(12,_)],[],[],0⟩;refine aZ 1 Z<|ae<|ct (l:=aX s) (k:=k) Z (by simp[Ex.bE,bh]) O (fun b X hd M=>?_)<|fun he hd=>?_;·
  rw[hd,List.all_cons]at I;refine ah<|qs<|ae<|W.block<|aZ 2 Z<|ae<|aa<|aY 2 Z<|pu (ew aW Z Z Z Z (ε _) (fN (by assumption))) Z<|pu (bm Z Z Z (DU ..) Z) Z<|pE Z<|ab<|qs<|ba Z (fun N=>?_)<|fun N=>?_;·
   refine aZ 1 Z<|W.ret<|bw<|bl<|cN<|bw<|bl<|QF.bo trivial Z ?_;simp only[norm,bO];grind[cO,qh]
  refine ah<|bW<|qs<|cJ 2 Z<|W.bZ [] ⟨k+1,?_⟩ ?_ Z ?_ ⟨rfl,rfl,rfl,rfl,trivial⟩ ?_ trivial Z;·exact⟨M,by rw[<-I];simp_all⟩
  ·dsimp only;omega
  ·repeat' first|exact trivial|refine⟨bH (by assumption) (by assumption),?_⟩
  repeat' exact trivial
 rw[hd]at I;refine an<|bL<|bM<|bK<|qs<|aZ 1 Z<|W.ret<|QF.bo trivial Z ?_;simp only[norm,bO];grind[cO,qh]
def gE:ByteArray:=B #[48,49,50,51,52,53,54,55,56,57]
theorem um{d}(h:d<10):gE.extract d (d+1)=⟨#[UInt8.ofNat (48+d)]⟩:=by
 have:∀i:Fin 10,gE.extract i.val (i.val+1)=⟨#[UInt8.ofNat (48+i.val)]⟩:=by decide+kernel
 exact this ⟨d,h⟩
theorem zo(a b:ByteArray):(a++b).data.toList=a.data.toList++b.data.toList:=by simp
theorem iW{a b:ByteArray}(h:a.data.toList=b.data.toList):a=b:=by cases a;cases b;simp at h;exact congrArg _ h
theorem pI{n:Int}(h:n.natAbs<10^20):(dh n).size<=21:=by
 have e:(dh n).size=(Lib.itoa n).length:=Array.length_toList.symm;rw[e];rcases Int.lt_or_le n 0 with I|I
 ·rw[gF I,Ξ];have:=mw n.natAbs 19 h;omega
 rw[fZ I];have:=mw n.toNat 19 (by omega);omega
theorem Kn{n:Int}(h0:-9223372036854775808<=n)(h1:n<=9223372036854775807)(N:10<=n.natAbs):∃d:Nat,d=n.natAbs%10∧d<10∧(n<0->n.tmod 10=-(d:Int))∧(0<=n->n.tmod 10=(d:Int))∧(n.tdiv 10).natAbs=n.natAbs/10∧
 (n<0->n.tdiv 10<0)∧(0<=n->0<=n.tdiv 10)∧(n.tdiv 10).natAbs*10<=n.natAbs∧-9223372036854775808<=n.tdiv 10∧n.tdiv 10<=9223372036854775807:=by
 have h4:(n.tdiv 10).natAbs=n.natAbs/10:=by rw[Int.natAbs_tdiv];rfl
 rcases Int.lt_or_le n 0 with J|J
 ·
  have e:n=-(n.natAbs:Int):=by omega
  have M:n.tdiv 10=-((n.natAbs/10:Nat):Int):=by
   conv=>lhs;rw[e]
   rw[Int.neg_tdiv];rfl
  have I:n.tmod 10=-((n.natAbs%10:Nat):Int):=by
   conv=>lhs;rw[e]
   rw[Int.neg_tmod];rfl
  exact⟨_,rfl,by omega,fun _=>I,fun h=>by omega,h4,fun _=>by omega,fun h=>by omega,by omega,by omega,by omega⟩
 have e:n=(n.natAbs:Int):=by omega
 have M:n.tdiv 10=((n.natAbs/10:Nat):Int):=by
  conv=>lhs;rw[e]
  rfl
 have I:n.tmod 10=((n.natAbs%10:Nat):Int):=by
  conv=>lhs;rw[e]
  rfl
 exact⟨_,rfl,by omega,fun h=>by omega,fun _=>I,h4,fun h=>by omega,fun _=>by omega,by omega,by omega,by omega⟩
theorem xQ{n:Int}{b}(hdiv:(n.tdiv 10).natAbs=n.natAbs/10)(h0:-9223372036854775808<=n)(h1:n<=9223372036854775807):(dh (n.tdiv 10)).size+(gE.extract a b).size<=9223372036854775807:=by
 have hp:(10:Nat)^20=100000000000000000000:=by decide
 have h2:=pI (n:=n.tdiv 10) (by omega);have h3:(gE.extract a b).size<=10:=by rw[ByteArray.size_extract,show gE.size=10 from rfl];omega
 omega
theorem lU(n ok):bp Tryz.prog 178 [.d (.v (.int .i64 n)),.d (.v (.bool ok))] (.tup [.d (.v (.int .i64 (if ok&&fu n then n else 0))),.d (.v (.bool (ok&&fu n)))]) 0:=by
 refine bp.b6 (n:=14) (ts:=[4,5]) Tryz.func178 (by kernel_rfl) Z Tryz.ntmps178 Tryz.results178 Z Z fun C hC J=>aZ 2 Z<|ae<|ae<|?_
 apply bC;(case hb=>rfl);·repeat' first|refine b4 Z Z Z|refine bz Z Z ?_|refine bA Z Z Z Z ?_|refine pE Z ?_|refine ab ?_|refine pu (bm Z Z Z (HM ..) Z) Z ?_|(apply bN;(case hj=>rfl);(case hl=>rfl))
 refine qs (ba Z (fun I=>?_) (fun I=>?_));·
  refine aZ 2 Z<|W.ret<|bl<|QF.bo trivial Z ?_;cases ok<;>cases h:fu n<;>simp_all[norm,lr,bO]
 refine ah<|qs<|aZ 3 Z<|W.ret<|QF.bo trivial Z ?_;cases ok<;>cases h:fu n<;>simp_all[norm,lr,bO]
theorem Gu:∀(m:Nat)(n:Int),2*n.natAbs+(if n<0 then 1 else 0)<m→-9223372036854775808<=n->n<=9223372036854775807->bp Tryz.prog 31 [.d (.v (.int .i64 n))] (.d (.v (.string (dh n)))) 0:=by
 intro m
 induction m with
 |zero=>intro n h;omega
 |succ m ih=>
  intro n hm h0 h1;have hp:(10:Nat)^20=100000000000000000000:=by decide
  refine bp.b6 (n:=38) (ts:=[2]) Tryz.func31 (by kernel_rfl) Z Tryz.ntmps31 Tryz.results31 Z Z fun C hC hG=>aZ 1 Z<|ae<|ae<|?_
  apply bC;(case hb=>rfl);·repeat' first|refine b4 Z Z Z|refine bz Z Z ?_|refine bA Z Z Z Z ?_|refine pE Z ?_|refine ab ?_|(apply bN;(case hj=>rfl);(case hl=>rfl))
  refine qs (ba Z (fun h9=>?_) (fun h9=>?_));·
   have hn:n<0∧-10<n:=by simp at h9;omega
   have hs:(B #[45])++dh (-n)=dh n:=by refine iW ?_;rw[zo,iA,iA,gF hn.1,fZ (show 0≤-n by omega),show(-n).toNat=n.natAbs by omega];rfl
   refine ae<|aa<|pE Z<|pu (b5 (ev aW Z) (y:=-n) (by rw[Int.zero_sub];exact wrap64 (by omega))) Z<|pu (bm Z Z Z (ih (-n) (by rw[if_pos hn.1]at hm;rw[if_neg (by omega)];omega) (by omega) (by omega)) Z) Z<|pu (xt (oQ (p:=B #[45]) (q:=dh (-n)) Z Z (by have:=pI (n:=-n) (by omega);have:(B #[45]).size=1:=rfl;omega)) hs) Z<|pE Z<|ab<|qs<|W.ret<|bl<|QF.bo trivial Z ?_;rfl
  have hn:¬(n<0∧-10<n):=by simp at h9;omega
  refine ah<|qs<|ae<|ae<|?_
  apply bC;(case hb=>rfl);·repeat' first|refine b4 Z Z Z|refine bz Z Z ?_|refine bA Z Z Z Z ?_|refine pE Z ?_|refine ab ?_|(apply bN;(case hj=>rfl);(case hl=>rfl))
  refine qs (ba Z (fun O=>?_) (fun O=>?_));·
   have U:0<=n∧n<10:=by simp at O;omega
   have hs:gE.extract n.toNat (n+1).toNat=dh n:=by refine iW ?_;rw[show(n+1).toNat=n.toNat+1 by omega,um (show n.toNat<10 by omega),iA,fZ U.1,fG (by omega)]
   refine ae<|aa<|aY 2 Z<|pu (b5 (ev aW Z) (wrap64 (by omega))) Z<|pu (xt (lL (s:=gE) aW Z Z Z Z Z U.1 (by omega) (by rw[show gE.size=10 from rfl];omega)) hs) Z<|pE Z<|ab<|qs<|W.ret<|bl<|QF.bo trivial Z ?_;rfl
  have U:¬(0<=n∧n<10):=by simp at O;omega
  obtain⟨d,hd,a6,X,ad,hdiv,a7,a8,b2,I,J⟩:=Kn h0 h1 (show 10<=n.natAbs by omega);have M:2*(n.tdiv 10).natAbs+(if n.tdiv 10<0 then 1 else 0)<m:=by split<;>split at hm<;>omega
  have aj:dn (.int .i64 (n.tmod 10))=true:=by
   have:-10<n.tmod 10∧n.tmod 10<10:=by
    rcases Int.lt_or_le n 0 with q|q
    ·rw[X q];omega
    rw[ad q];omega
   simp[dn,IntKind.min,IntKind.max,IntKind.signed,IntKind.bits];omega
  have hs:dh (n.tdiv 10)++gE.extract d (d+1)=dh n:=by
   refine iW ?_;rw[zo,um a6,iA,iA];rcases Int.lt_or_le n 0 with ar|a1
   ·rw[gF ar,gF (a7 ar),iG (u:=n.natAbs) (by omega),hdiv,hd];rfl
   rw[fZ a1,fZ (a8 a1),iG (u:=n.toNat) (by omega),show(n.tdiv 10).toNat=n.toNat/10 by omega,hd,show n.toNat%10=n.natAbs%10 by omega]
  refine ah<|qs<|ae<|aa<|pE Z<|pu (LN (q:=10) Z Z (by decide) aj) Z<|pE Z<|ab<|qs<|ae<|aZ 2 Z<|ba Z (fun ai=>?_)<|fun ai=>?_;·
   have b0:n<0:=by
    rcases Int.lt_or_le n 0 with q|q
    ·exact q
    have:=ad q;simp at ai;omega
   have N:=X b0;refine aa<|pE Z<|pu (b5 (ev aW Z) (y:=(d:Int)) (by rw[N,Int.zero_sub,Int.neg_neg];exact wrap64 (by omega))) Z<|pE Z<|ab<|qs<|ae<|W.dK aW (by kernel_rfl)<|bt (ev aW Z) Z<|bt (b5 (JT (q:=10) Z Z (by decide) (iJ _ _)) (wrap64 ⟨I,J⟩)) Z<|bt (bm Z Z Z (ih (n.tdiv 10) M I J) Z) Z<|bt (b5 (ev aW Z) (y:=(d:Int)) (by first|rfl|exact N)) Z<|bt (b5 (ev aW Z) (y:=(d:Int)) (by first|rfl|exact N)) Z<|bt (b5 (ev aW Z) (y:=((d+1:Nat):Int)) (show IntKind.i64.wrap ((d:Int)+1)=_ by rw[wrap64 (by omega)];rfl)) Z ?_;refine bt (lL (s:=gE) (l:=(d:Int)) (h:=((d+1:Nat):Int)) aW Z Z Z Z Z (by omega) (by omega) (by rw[show gE.size=10 from rfl];omega)) Z<|bt (xt (oQ Z Z (xQ hdiv h0 h1)) hs) Z<|bt (ev aW Z) Z<|ao<|qs<|W.ret<|QF.bo trivial Z ?_;rfl
  have N:n.tmod 10=(d:Int):=by
   rcases Int.lt_or_le n 0 with q|q
   ·have:=X q;simp at ai;omega
   exact ad q
  refine ah<|qs<|ae<|W.dK aW (by kernel_rfl)<|bt (ev aW Z) Z<|bt (b5 (JT (q:=10) Z Z (by decide) (iJ _ _)) (wrap64 ⟨I,J⟩)) Z<|bt (bm Z Z Z (ih (n.tdiv 10) M I J) Z) Z<|bt (b5 (ev aW Z) (y:=(d:Int)) (by first|rfl|exact N)) Z<|bt (b5 (ev aW Z) (y:=(d:Int)) (by first|rfl|exact N)) Z<|bt (b5 (ev aW Z) (y:=((d+1:Nat):Int)) (show IntKind.i64.wrap ((d:Int)+1)=_ by rw[wrap64 (by omega)];rfl)) Z<|bt (lL (s:=gE) (l:=(d:Int)) (h:=((d+1:Nat):Int)) aW Z Z Z Z Z (by omega) (by omega) (by rw[show gE.size=10 from rfl];omega)) Z<|bt (xt (oQ Z Z (xQ hdiv h0 h1)) hs) Z<|bt (ev aW Z) Z<|ao ?_;refine qs (W.ret (QF.bo trivial Z ?_));rfl
theorem EN(hu:ng Tryz.prog w):qq Tryz.prog w:=hu.num (fun _ h=>h)
theorem IH{n:Int}(h:n.natAbs<10^20):dn (.string (dh n))=true:=by have:=pI h;exact decide_eq_true (by simp only[maxLen];omega)
theorem Ix{n:Int}(h0:-9223372036854775808<=n)(h1:n<=9223372036854775807):n.natAbs<10^20:=by
 have hp:(10:Nat)^20=100000000000000000000:=by decide
 omega
open Go.RowKit in
theorem IN(n)(h0:-9223372036854775808<=n)(h1:n<=9223372036854775807):bp Tryz.prog 76 [.d (.v (.int .i64 n))] (.d (.v (.string (dh n)))) 0:=
 bp.xZ (xs:=[.int .i64 n]) ⟨_,Tryz.func76,by kernel_rfl,by kernel_rfl⟩ fun w hu _=>(aG n h0 h1 w (EN hu).1).mono fun e w'⟨he,k,os,hw⟩=>⟨_,he,hw▸Lib.below_grow _ w (ω _) k os,fun _ _ _=>.d (.v _ (IH (Ix h0 h1)))⟩
theorem qH(n)(h0:-9223372036854775808<=n)(h1:n<=9223372036854775807):bp Tryz.prog 25 [.d (.v (.int .i64 n))] (.d (.v (.string (dh n)))) 0:=by refine bp.b6 (n:=5) (ts:=[2]) Tryz.func25 (by kernel_rfl) Z Tryz.ntmps25 Tryz.results25 Z Z fun C hC I=>?_;refine aZ 1 Z ?_;refine ae (aa (pE Z (pu (bm Z Z Z ((IN _ (by assumption) (by assumption))) Z) Z ?_)));refine pE Z (ab (qs (W.ret (QF.bo trivial Z ?_))));rfl
def C5(s:ByteArray):A:=
 match Lib.atoiAll s.data.toList with
 |.ok v=>.tup [.d (.v (.int .i64 v)),.d (.v .nilIface)]
 |.range=>.tup [.d (.v (.int .i64 (Lib.atoiSat s.data.toList))),.ni]
 |_=>.tup [.d (.v (.int .i64 0)),.ni]
theorem KU(l):dn (.int .i64 (Lib.atoiSat l))=true:=by unfold Lib.atoiSat;split<;>(try split)<;>decide
open Go.RowKit in
theorem Im(s:ByteArray)(hs:s.size<=281474976710656):bp Tryz.prog 177 [.d (.v (.string s))] (C5 s) 0:=
 bp.xZ (xs:=[.string s]) ⟨_,Tryz.func177,by kernel_rfl,by kernel_rfl⟩ fun w hu _=>by
  obtain⟨_,⟨t,p,h2⟩,t',I,h3⟩:=EN hu;unfold C5
  cases h:Lib.atoiAll s.data.toList with
  |ok v=>
   have hb:=Lib.atoiAll_bounds h;refine(aD s (by omega) v h w).mono fun e w'⟨he,hw⟩=>⟨_,he,?_,fun _ _ _=>xf (.d (.v _ ?_)) (.d (.v _ Z))⟩;·
    rcases hw with rfl|⟨t,rfl⟩
    ·exact Below.refl _ _
    exact Joins.below_bytesWorld _ w _ _ (ω _)
   simp[dn,IntKind.min,IntKind.max,IntKind.signed,IntKind.bits];omega
  |range=>exact(az s hs h t' I w h3).mono fun e w'⟨N,he,_,_,hb⟩=>⟨_,he,hb,fun _ _ _=>xf (.d (.v _ (KU _))) (.ni _ _)⟩
  |_=>exact(ay s hs h t p w h2).mono fun e w'⟨N,he,_,_,hb⟩=>⟨_,he,hb,fun _ _ _=>xf (.d (.v _ (by decide))) (.ni _ _)⟩
def oo:ByteArray:=B #[95,46,58,47,60,62,36,42,126,45]
theorem DH(b:UInt8):bp Tryz.prog 130 [.d (.v (.int .u8 b.toNat))] (.d (.v (.bool (iX b)))) 0:=by
 refine bp.b6 (n:=38) (ts:=[2]) Tryz.func130 (by kernel_rfl) Z Tryz.ntmps130 Tryz.results130 Z Z fun C hC hG=>aZ 1 Z<|ae<|ae<|?_
 apply bC;(case hb=>rfl);·repeat' first|refine b4 Z Z Z|refine bz Z Z ?_|refine bA Z Z Z Z ?_|refine jQ Z Z Z ?_|refine pE Z ?_|refine ab ?_|(apply bN;(case hj=>rfl);(case hl=>rfl))
 refine qs (ba Z (fun M=>?_) (fun M=>?_));·
  have N:iX b=true:=by revert M;simp only[iX,lower];grind
  refine aZ 1 Z<|W.ret<|bl<|QF.bo trivial Z ?_;rw[N];rfl
 have N:iX b=marks.any fun c=>decide (c=b):=by revert M;simp only[iX,lower];grind
 refine ah<|qs<|aZ 1 Z<|ae<|aZ 1 Z<|W.block ?_;have hlen:(aX oo).length<=maxLen:=by decide
 refine W.bY (ι:={x:Nat//match x with|k=>k<=(aX oo).length∧((aX oo).drop k).any (fun c=>decide (c=b))=marks.any (fun c=>decide (c=b))})
  (fun x=>match x.1 with|k=>[(4,.d (.v (.int .i64 ((k:Nat):Int))))]) [(0,_),(3,_)]
  (fun x=>match x.1 with|k=>[]) [] [] 0 (fun x=>match x.1 with|k=>(aX oo).length-k)
  [] ⟨0,?_⟩ Z ?_ ⟨rfl,rfl,rfl,rfl,trivial⟩ ?_ trivial Z ?_
 ·exact⟨ς _,rfl⟩
 ·repeat' constructor
 ·repeat' exact trivial
 rintro⟨k,U,J⟩;show W _ _ _ _ _ ⟨[(4,.d (.v (.int .i64 ((k:Nat):Int)))),(0,_),(3,_)],[],[],0⟩;refine ae<|aZ 4 Z<|ct (l:=aX oo) (k:=k) Z (by rfl) U (fun c X hd O=>?_)<|fun he hd=>?_;·
  rw[hd,List.any_cons]at J;refine ah<|qs<|ae<|W.block<|ae<|aa<|aY 2 Z<|pu (ew (s:=oo) aW Z Z Z Z (ε _) (fN X)) Z<|aY 2 Z<|ab<|qs<|ba Z (fun I=>?_)<|fun I=>?_;·
   have I:decide (c=b)=true:=by simp at I⊢;exact UInt8.toNat_inj.1 (by omega)
   rw[I,Bool.true_or]at J;refine aZ 1 Z<|W.ret<|bw<|bl<|cN<|bw<|bl<|QF.bo trivial Z ?_;rw[N,←J];rfl
  have I:decide (c=b)=false:=by simp at I⊢;rintro rfl;exact I Z
  rw[I,Bool.false_or]at J;refine ah<|bW<|qs<|cJ 3 Z<|W.bZ [] ⟨k+1,?_⟩ ?_ Z ?_ ⟨rfl,rfl,rfl,rfl,trivial⟩ ?_ trivial Z;·exact⟨O,J⟩
  ·dsimp only;omega
  ·repeat' first|exact trivial|refine⟨bH (by assumption) (by assumption),?_⟩
  repeat' exact trivial
 rw[hd,List.any_nil]at J;refine an<|bL<|bM<|bK<|qs<|aZ 1 Z<|W.ret<|QF.bo trivial Z ?_;rw[N,←J];rfl
theorem Fi(s:ByteArray):s.size<1↔s=B #[]:=by
 constructor;·
  intro h;obtain⟨l⟩:=s;have:l=#[]:=Array.eq_empty_of_size_eq_zero (by have:l.size<1:=h;omega);rw[this]
 rintro rfl;decide
theorem qL(s):bp Tryz.prog 80 [.d (.v (.string s))] (.d (.v (.int .i64 (cO s)))) 0:=by
 refine bp.b6 (n:=23) (ts:=[2]) Tryz.func80 (by kernel_rfl) Z Tryz.ntmps80 Tryz.results80 Z Z fun C hC hG=>aZ 1 Z<|ae<|ae<|?_
 apply bC;(case hb=>rfl);·repeat' first|refine b4 Z Z Z|refine bz Z Z ?_|refine bA Z Z Z Z ?_|refine pE Z ?_|refine ab ?_|(apply bN;(case hj=>rfl);(case hl=>rfl))
 refine qs (ba Z (fun I=>?_) (fun I=>?_));·
  have I:s=B #[]∨40<s.size:=by
   rw[<-Fi];by_cases q:s.size<1;·exact .inl q
   have O:¬((s.size:Int)<1):=by omega
   simp[O]at I;exact .inr (by omega)
  have U:cO s=3:=by unfold cO;rw[if_pos (by grind)]
  refine aZ 1 Z<|W.ret<|bl<|QF.bo trivial Z ?_;rw[U];rfl
 have I:¬(s=B #[]∨40<s.size):=by
  rw[<-Fi];by_cases q:(s.size:Int)<1;·simp[q]at I
  simp[q]at I;omega
 refine ah<|qs<|ae<|aZ 1 Z<|W.block<|W.lI (t:=0) Z<|fun hok=>?_;have hlen:=kC hok
 refine W.bY (ι:={x:Nat//match x with|k=>k<=(aX s).length∧((aX s).drop k).all iX=(aX s).all iX})
  (fun x=>match x.1 with|k=>[(3,.d (.v (.int .i64 ((k:Nat):Int))))]) [(0,_)]
  (fun x=>match x.1 with|k=>[]) [] [] 0 (fun x=>match x.1 with|k=>(aX s).length-k)
  [] ⟨0,?_⟩ Z ?_ ⟨rfl,rfl,trivial⟩ ?_ trivial Z ?_
 ·exact⟨ς _,rfl⟩
 ·repeat' constructor
 ·repeat' exact trivial
 rintro⟨k,X,J⟩;show W _ _ _ _ _ ⟨[(3,.d (.v (.int .i64 ((k:Nat):Int)))),(0,_)],[],[],0⟩;refine ae<|aZ 4 Z<|ct (l:=aX s) (k:=k) Z (by simp[Ex.bE,bh]) X (fun b hx hd M=>?_)<|fun he hd=>?_;·
  rw[hd,List.all_cons]at J;refine ah<|qs<|ae<|W.block<|ae<|aa<|aY 2 Z<|pu (ew aW Z Z Z Z (ε _) (fN (by assumption))) Z<|pu (bm Z Z Z (DH ..) Z) Z<|pE Z<|ab<|qs<|ba Z (fun N=>?_)<|fun N=>?_;·
   refine aZ 1 Z<|W.ret<|bw<|bl<|cN<|bw<|bl<|QF.bo trivial Z ?_;simp only[norm,bO];unfold cO;grind
  refine ah<|bW<|qs<|cJ 3 Z<|W.bZ [] ⟨k+1,?_⟩ ?_ Z ?_ ⟨rfl,rfl,trivial⟩ ?_ trivial Z;·exact⟨M,by rw[<-J];simp_all⟩
  ·dsimp only;omega
  ·repeat' first|exact trivial|refine⟨bH (by assumption) (by assumption),?_⟩
  repeat' exact trivial
 rw[hd]at J;refine an<|bL<|bM<|bK<|qs<|aZ 1 Z<|W.ret<|QF.bo trivial Z ?_;simp only[norm,bO];unfold cO;grind
theorem B5(s):cO s=0∨cO s=3:=by unfold cO;split<;>simp
theorem Fy(l):bp Tryz.prog 150 [.d (.sl (yb l))] (.d (.v (.int .i64 (eG l)))) 0:=by
 refine bp.b6 (n:=21) (ts:=[2]) Tryz.func150 (by kernel_rfl) Z Tryz.ntmps150 Tryz.results150 Z Z fun C hC hG=>aZ 1 Z<|ae<|aZ 3 Z<|ba Z (fun O=>?_)<|fun O=>?_;·
  have J:eG l=7:=by unfold eG;rw[if_pos (by simp at O;omega)]
  refine aZ 1 Z<|W.ret<|bl<|QF.bo trivial Z ?_;rw[J];rfl
 have J:eG l=if l.any (fun s=>decide (cO s≠0))then 3 else 0:=by unfold eG;rw[if_neg (by simp at O;omega)]
 refine ah<|qs<|ae<|aZ 3 Z<|W.block<|W.len (t:=0) Z Z<|fun hlen=>?_;try simp only[η,Ex.bE]at hlen
 refine W.bY (ι:={x:Nat//match x with|k=>k<=l.length∧(l.drop k).any (fun s=>decide (cO s≠0))=l.any (fun s=>decide (cO s≠0))})
  (fun x=>match x.1 with|k=>[(11,.d (.v (.int .i64 ((k:Nat):Int))))]) [(9,_),(10,_)]
  (fun x=>match x.1 with|k=>[]) [] [] 0 (fun x=>match x.1 with|k=>l.length-k)
  [] ⟨0,?_⟩ Z ?_ ⟨rfl,rfl,rfl,rfl,trivial⟩ ?_ trivial Z ?_
 ·exact⟨ς _,rfl⟩
 ·repeat' constructor
 ·repeat' exact trivial
 rintro⟨k,X,I⟩;show W _ _ _ _ _ ⟨[(11,.d (.v (.int .i64 ((k:Nat):Int)))),(9,_),(10,_)],[],[],0⟩;refine aZ 1 Z<|ae<|ct (l:=l) (k:=k) Z (by simp[Ex.bE,bh]) X (fun s hx hd U=>?_)<|fun he hd=>?_;·
  rw[hd,List.any_cons]at I;refine ah<|qs<|ae<|W.block<|ae<|aa<|pu (indexAddr aW Z Z Z Z Z Z (ε _) (bF hx) Z) Z<|aY 2 Z<|ab<|qs<|ae<|aa<|pE Z<|pu (bm Z Z Z (tG s) Z) Z<|pE Z<|ab<|qs<|aZ 2 Z<|ba Z (fun N=>?_)<|fun N=>?_;·
   have M:cO s=3:=by rcases B5 s with q|q<;>simp_all
   rw[M]at I;refine aZ 2 Z<|W.ret<|bw<|bl<|cN<|bw<|bl<|QF.bo trivial Z ?_;rw[J,←I];simp[norm,bO,M]
  have M:cO s=0:=by simpa using N
  rw[M]at I;refine ah<|bW<|qs<|cJ 2 Z<|W.bZ [] ⟨k+1,?_⟩ ?_ Z ?_ ⟨rfl,rfl,rfl,rfl,trivial⟩ ?_ trivial Z;·exact⟨U,by simpa using I⟩
  ·dsimp only;omega
  ·repeat' first|exact trivial|refine⟨bH (by assumption) (by assumption),?_⟩
  repeat' exact trivial
 rw[hd,List.any_nil]at I;refine an<|bL<|bM<|bK<|qs<|aZ 1 Z<|W.ret<|QF.bo trivial Z ?_;rw[J,←I];rfl
theorem wg(l):bp Tryz.prog 105 [.d (.sl (yb l))] (.d (.v (.int .i64 (eG l)))) 0:=by
 refine bp.b6 (n:=19) (ts:=[2]) Tryz.func105 (by kernel_rfl) Z Tryz.ntmps105 Tryz.results105 Z Z fun C hC hG=>aZ 1 Z<|ae<|aZ 3 Z<|ba Z (fun N=>?_)<|fun N=>?_;·
  have J:eG l=7:=by unfold eG;rw[if_pos (by simp at N;omega)]
  refine aZ 1 Z<|W.ret<|bl<|QF.bo trivial Z ?_;rw[J];rfl
 have J:eG l=if l.any (fun s=>decide (cO s≠0))then 3 else 0:=by unfold eG;rw[if_neg (by simp at N;omega)]
 refine ah<|qs<|ae<|aZ 1 Z<|W.block<|W.len (t:=0) Z Z<|fun hlen=>?_;try simp only[η,Ex.bE]at hlen
 refine W.bY (ι:={x:Nat//match x with|k=>k<=l.length∧(l.drop k).any (fun s=>decide (cO s≠0))=l.any (fun s=>decide (cO s≠0))})
  (fun x=>match x.1 with|k=>[(3,.d (.v (.int .i64 ((k:Nat):Int))))]) [(0,_)]
  (fun x=>match x.1 with|k=>[]) [] [] 0 (fun x=>match x.1 with|k=>l.length-k)
  [] ⟨0,?_⟩ Z ?_ ⟨rfl,rfl,trivial⟩ ?_ trivial Z ?_
 ·exact⟨ς _,rfl⟩
 ·repeat' constructor
 ·repeat' exact trivial
 rintro⟨k,X,I⟩;show W _ _ _ _ _ ⟨[(3,.d (.v (.int .i64 ((k:Nat):Int)))),(0,_)],[],[],0⟩;refine ae<|aZ 4 Z<|ct (l:=l) (k:=k) Z (by simp[Ex.bE,bh]) X (fun s hx hd U=>?_)<|fun he hd=>?_;·
  rw[hd,List.any_cons]at I;refine ah<|qs<|ae<|W.block<|ae<|aa<|aY 2 Z<|pu (indexAddr aW Z Z Z Z Z Z (ε _) (bF hx) Z) Z<|aY 1 Z<|pu (bm Z Z Z (qL s) Z) Z<|pE Z<|ab<|qs<|ba Z (fun M=>?_)<|fun M=>?_;·
   have O:cO s=3:=by rcases B5 s with q|q<;>simp_all
   rw[O]at I;refine aZ 1 Z<|W.ret<|bw<|bl<|cN<|bw<|bl<|QF.bo trivial Z ?_;rw[J,←I];rfl
  have O:cO s=0:=by simpa using M
  rw[O]at I;refine ah<|bW<|qs<|cJ 3 Z<|W.bZ [] ⟨k+1,?_⟩ ?_ Z ?_ ⟨rfl,rfl,trivial⟩ ?_ trivial Z;·exact⟨U,by simpa using I⟩
  ·dsimp only;omega
  ·repeat' first|exact trivial|refine⟨bH (by assumption) (by assumption),?_⟩
  repeat' exact trivial
 rw[hd,List.any_nil]at I;refine an<|bL<|bM<|bK<|qs<|aZ 1 Z<|W.ret<|QF.bo trivial Z ?_;rw[J,←I];rfl
theorem GH:bp Tryz.prog 149 [] (.d (.sl (wN.map ye.c))) 0:=by refine bp.b6 (n:=15) (ts:=[0]) Tryz.func149 (by kernel_rfl) Z Tryz.ntmps149 Tryz.results149 Z Z fun C hC I=>?_;refine aZ 1 Z ?_;refine ae (aa (pu (build aW Z Z Z Z) Z ?_));refine pu (build aW Z Z Z Z) Z ?_;refine pu (build aW Z Z Z Z) Z ?_;refine pu (build aW Z Z Z Z) Z ?_;refine pu (build aW Z Z Z Z) Z ?_;refine pu (build aW Z Z Z Z) Z ?_;refine pu (build aW Z Z Z Z) Z ?_;refine pu (build aW Z Z Z Z) Z ?_;refine pu (build aW Z Z Z Z) Z ?_;refine pu (build aW Z Z Z Z) Z ?_;refine pu (build aW Z Z Z Z) Z ?_;refine pu (build aW Z Z Z Z) Z ?_;refine pu (build aW Z Z Z Z) Z ?_;refine pu (bR aW Z Z Z Z Z Z Z Z Z) Z ?_;refine pE Z (ab (qs (W.ret (QF.bo trivial Z ?_))));rfl
theorem JE{k:Int}(h1:1<=k)(h2:k<13):wN[k.toNat]?=some (eD k):=by rcases kinds h1 h2 with h|h|h|h|h|h|h|h|h|h|h|h<;>subst h<;>rfl
theorem Fk(k):bp Tryz.prog 100 [.d (.v (.int .i64 k))] (.tup [.ag (eD k).c,.d (.v (.bool (mS k)))]) 0:=by
 refine bp.dk aW (n:=19) (rs:=[.cell 2 160,.tmp 3]) Tryz.func100 (by kernel_rfl) Z Tryz.ntmps100 Tryz.results100 Z fun C hC N=>ae<|aa<|bT aW Z Z Z<|pE Z<|ab<|qs<|ae<|aa<|pu (bm Z Z Z (GH ..) Z) Z<|pE Z<|ab<|qs<|ae<|ae<|?_
 apply bC;(case hb=>rfl);·repeat' first|refine b4 Z Z Z|refine bz Z Z ?_|refine bA Z Z Z Z ?_|refine pE Z ?_|refine ab ?_|(apply bN;(case hj=>rfl);(case hl=>rfl))
 refine qs (ba Z (fun I=>?_) (fun I=>?_));·
  have J:eD k=zP∧mS k=false:=by
   have:k<1∨13<=k:=by simp at I;revert I;show _->_;intro h;simpa[wN]using h
   exact⟨by unfold eD;rw[if_pos this],by simp[mS];omega⟩
  refine ae<|aa<|pu (build aW Z Z Z Z) Z<|be aW Z Z Z Z Z Z Z Z<|pE Z<|ab<|qs<|W.ret<|bl<|QV.bo aW trivial Z ?_;rw[J.1,J.2];rfl
 have M:1<=k∧k<13:=by simp at I;simpa[wN]using I
 have J:mS k=true:=by simp[mS];omega
 refine ah<|qs<|ae<|aa<|aY 2 Z<|pu (indexAddr aW Z Z Z Z Z Z (by omega) (bF (JE M.1 M.2)) Z) Z<|aY 1 Z<|be aW Z Z Z Z Z Z Z Z<|pE Z<|ab<|qs<|W.ret<|QV.bo aW trivial Z ?_;rw[J];rfl
theorem HH(f:ye)(e:Ev):bp Tryz.prog 101 [.ag f.c,.ag e.c] (.d (.v (.int .i64 (nw f e)))) 0:=by
 refine bp.b6 (n:=13) (ts:=[4]) Tryz.func101 (by kernel_rfl) Z Tryz.ntmps101 Tryz.results101 Z Z fun C hC J=>ae<|aa<|cG Z Z Z<|cG Z Z Z<|pE Z<|ab<|qs<|ae<|aZ 2 Z<|ba Z (fun I=>?_)<|fun I=>?_;·
  refine ae<|aa<|aY 2 Z<|pu (bm Z Z Z (tG ..) Z) Z<|pE Z<|ab<|qs<|W.ret<|bl<|QF.bo trivial Z ?_;simp only[norm,bO];grind[nw]
 refine ah<|qs<|ae<|aa<|aY 2 Z<|pu (bm Z Z Z (Fy ..) Z) Z<|pE Z<|ab<|qs<|W.ret<|QF.bo trivial Z ?_;simp only[norm,bO];grind[nw]
theorem jO(n lo hi):bp Tryz.prog 152 [.d (.v (.int .i64 n)),.d (.v (.int .i64 lo)),.d (.v (.int .i64 hi))] (.d (.v (.int .i64 (within n lo hi)))) 0:=by
 refine bp.b6 (n:=15) (ts:=[6]) Tryz.func152 (by kernel_rfl) Z Tryz.ntmps152 Tryz.results152 Z Z fun C hC J=>aZ 1 Z<|ae<|ae<|?_
 apply bC;(case hb=>rfl);·repeat' first|refine b4 Z Z Z|refine bz Z Z ?_|refine bA Z Z Z Z ?_|refine pE Z ?_|refine ab ?_|(apply bN;(case hj=>rfl);(case hl=>rfl))
 refine qs (ba Z (fun I=>?_) (fun I=>?_));·
  refine aZ 1 Z<|W.ret<|bl<|QF.bo trivial Z ?_;simp only[norm,bO];grind[within]
 refine ah<|qs<|aZ 1 Z<|W.ret<|QF.bo trivial Z ?_;simp only[norm,bO];grind[within]
theorem F8(k):bp Tryz.prog 104 [.d (.v (.int .i64 k))] (.tup [.d (.v (.bool (pb k))),.d (.v (.bool (yC k))),.d (.v (.bool (yH k))),.d (.v (.bool (lH k)))]) 0:=by
 refine bp.b6 (n:=38) (ts:=[2,3,4,5]) Tryz.func104 (by kernel_rfl) Z Tryz.ntmps104 Tryz.results104 Z Z fun C hC I=>aZ 4 Z<|ae ?_;apply bC;(case hb=>rfl);·repeat' first|refine b4 Z Z Z|refine bz Z Z ?_|refine bA Z Z Z Z ?_|refine pE Z ?_|refine ab ?_|(apply bN;(case hj=>rfl);(case hl=>rfl))
 refine qs<|aZ 3 Z<|ae ?_;apply bC;(case hb=>rfl);·repeat' first|refine b4 Z Z Z|refine bz Z Z ?_|refine bA Z Z Z Z ?_|refine pE Z ?_|refine ab ?_|(apply bN;(case hj=>rfl);(case hl=>rfl))
 refine qs (ae ?_);apply bC;(case hb=>rfl);·repeat' first|refine b4 Z Z Z|refine bz Z Z ?_|refine bA Z Z Z Z ?_|refine pE Z ?_|refine ab ?_|(apply bN;(case hj=>rfl);(case hl=>rfl))
 refine qs<|aZ 8 Z<|W.ret<|QF.bo trivial Z ?_;simp only[norm,lr,bO];simp only[pb,yC,yH,lH];grind
theorem mR(e:Ev):bp Tryz.prog 106 [.ag e.c] (.d (.v (.int .i64 (kt e)))) 0:=by
 refine bp.b6 (n:=63) (ts:=[2]) Tryz.func106 (by kernel_rfl) Z Tryz.ntmps106 Tryz.results106 Z Z fun C hC hG=>ae<|aa<|cG Z Z Z<|pE Z<|ab<|qs<|ae<|aZ 2 Z<|W.block<|ae<|aZ 2 Z<|ba Z (fun I=>?_)<|fun I=>?_;·
  refine ah<|qs<|W.gJ Z<|aZ 1 Z<|W.ret<|bw<|bl<|QF.bo trivial Z ?_;simp only[norm,bO];grind[kt]
 refine aZ 2 Z<|ba Z (fun I=>?_)<|fun I=>?_;·
  refine ah<|qs<|W.gJ Z<|aZ 1 Z<|W.ret<|bw<|bl<|QF.bo trivial Z ?_;simp only[norm,bO];grind[kt]
 refine cJ 2 Z<|qs<|ba Z (fun I=>?_)<|fun I=>?_;·
  refine aZ 1 Z<|W.ret<|bw<|bl<|QF.bo trivial Z ?_;simp only[norm,bO];grind[kt]
 refine aZ 2 Z<|ba Z (fun J=>?_)<|fun J=>?_;·
  refine ae<|aa<|aY 2 Z<|pu (bm Z Z Z (jO ..) Z) Z<|pE Z<|ab<|qs<|W.ret<|bw<|bl<|QF.bo trivial Z ?_;simp only[norm,bO];grind[kt]
 refine aZ 2 Z<|ba Z (fun M=>?_)<|fun M=>?_;·
  refine ae<|aa<|aY 2 Z<|pu (bm Z Z Z (jO ..) Z) Z<|pE Z<|ab<|qs<|W.ret<|bw<|bl<|QF.bo trivial Z ?_;simp only[norm,bO];grind[kt]
 refine aZ 2 Z<|ba Z (fun N=>?_)<|fun N=>?_;·
  refine ae<|aa<|aY 2 Z<|pu (bm Z Z Z (jO ..) Z) Z<|pE Z<|ab<|qs<|W.ret<|bw<|bl<|QF.bo trivial Z ?_;simp only[norm,bO];grind[kt]
 refine aZ 2 Z<|ba Z (fun O=>?_)<|fun O=>?_;·
  refine ae<|aa<|aY 2 Z<|pu (bm Z Z Z (jO ..) Z) Z<|pE Z<|ab<|qs<|ae<|ae<|?_
  apply bC;(case hb=>rfl);·repeat' first|refine b4 Z Z Z|refine bz Z Z ?_|refine bA Z Z Z Z ?_|refine pE Z ?_|refine ab ?_|(apply bN;(case hj=>rfl);(case hl=>rfl))
  refine qs (ba Z (fun U=>?_) (fun U=>?_));·
   refine ae<|aa<|aY 2 Z<|pu (bm Z Z Z (jO ..) Z) Z<|pE Z<|ab<|qs<|W.ret<|bl<|bw<|bl<|QF.bo trivial Z ?_;simp only[norm,bO];grind[kt]
  refine ah<|qs<|ae<|ae<|?_
  apply bC;(case hb=>rfl);·repeat' first|refine b4 Z Z Z|refine bz Z Z ?_|refine bA Z Z Z Z ?_|refine pE Z ?_|refine ab ?_|(apply bN;(case hj=>rfl);(case hl=>rfl))
  refine qs (ba Z (fun X=>?_) (fun X=>?_));·
   refine aZ 1 Z<|W.ret<|bl<|bw<|bl<|QF.bo trivial Z ?_;simp only[norm,bO];grind[kt]
  refine ah<|qs<|aZ 2 Z<|W.ret<|bw<|bl<|QF.bo trivial Z ?_;simp only[norm,bO];grind[kt]
 refine ah<|bW<|qs<|ae<|aa<|aY 2 Z<|pu (bm Z Z Z (jO ..) Z) Z<|pE Z<|ab<|qs<|ae<|ae<|?_
 apply bC;(case hb=>rfl);·repeat' first|refine b4 Z Z Z|refine bz Z Z ?_|refine bA Z Z Z Z ?_|refine pE Z ?_|refine ab ?_|(apply bN;(case hj=>rfl);(case hl=>rfl))
 refine qs (ba Z (fun ad=>?_) (fun ad=>?_));·
  refine ae<|aa<|aY 2 Z<|pu (bm Z Z Z (jO ..) Z) Z<|pE Z<|ab<|qs<|W.ret<|bl<|QF.bo trivial Z ?_;simp only[norm,bO];grind[kt]
 refine ah<|qs<|aZ 2 Z<|W.ret<|QF.bo trivial Z ?_;simp only[norm,bO];grind[kt]
theorem FT(a b):bp Tryz.prog 66 [.d (.sl (yb a)),.d (.sl (yb b))] (.d (.v (.bool (decide (a=b))))) 0:=by
 refine bp.b6 (n:=26) (ts:=[4]) Tryz.func66 (by kernel_rfl) Z Tryz.ntmps66 Tryz.results66 Z Z fun C hC hG=>aZ 1 Z<|ae<|aZ 5 Z<|ba Z (fun I=>?_)<|fun I=>?_;·
  have O:decide (a=b)=false:=by simp at I⊢;rintro rfl;simp at I
  refine aZ 1 Z<|W.ret<|bl<|QF.bo trivial Z ?_;rw[O];rfl
 have hl:a.length=b.length:=by simp at I;omega
 refine ah<|qs<|ae<|aZ 1 Z<|W.block<|W.len (t:=0) Z Z<|fun hlen=>?_;try simp only[η,Ex.bE]at hlen
 refine W.bY (ι:={x:Nat//match x with|k=>k<=a.length∧decide (a.drop k=b.drop k)=decide (a=b)})
  (fun x=>match x.1 with|k=>[(5,.d (.v (.int .i64 ((k:Nat):Int))))]) [(0,_),(1,_)]
  (fun x=>match x.1 with|k=>[]) [] [] 0 (fun x=>match x.1 with|k=>a.length-k)
  [] ⟨0,?_⟩ Z ?_ ⟨rfl,rfl,rfl,rfl,trivial⟩ ?_ trivial Z ?_
 ·exact⟨ς _,rfl⟩
 ·repeat' constructor
 ·repeat' exact trivial
 rintro⟨k,hk,J⟩;show W _ _ _ _ _ ⟨[(5,.d (.v (.int .i64 ((k:Nat):Int)))),(0,_),(1,_)],[],[],0⟩;refine ae<|aZ 4 Z<|ct (l:=a) (k:=k) Z (by simp[Ex.bE,bh]) hk (fun x hx hd U=>?_)<|fun he hd=>?_;·
  obtain⟨y,hy,X⟩:=CM (l:=b) (k:=k) (by omega);rw[hd,X]at J;refine ah<|qs<|ae<|W.block<|ae<|W.dK aW (by kernel_rfl)<|bt (ev aW Z) Z<|bt (ev aW Z) Z<|bt (indexAddr aW Z Z Z Z Z Z (ε _) (bF hx) Z) Z ?_
  refine bt (ev aW Z) Z<|bt (ev aW Z) Z<|bt (ev aW Z) Z<|bt (indexAddr aW Z Z Z Z Z Z (ε _) (bF hy) Z) Z ?_
  refine bt (ev aW Z) Z<|bt (ev aW Z) Z<|ao<|qs<|ba Z (fun M=>?_)<|fun M=>?_;·
   have N:x≠y:=by rintro rfl;simp at M
   have O:decide (a=b)=false:=by rw[<-J];simp[N]
   refine aZ 1 Z<|W.ret<|bw<|bl<|cN<|bw<|bl<|QF.bo trivial Z ?_;rw[O];rfl
  have N:x=y:=by simpa using M
  refine ah<|bW<|qs<|cJ 3 Z<|W.bZ [] ⟨k+1,?_⟩ ?_ Z ?_ ⟨rfl,rfl,rfl,rfl,trivial⟩ ?_ trivial Z;·
   refine⟨U,?_⟩;rw[<-J,N];simp
  ·dsimp only;omega
  ·repeat' first|exact trivial|refine⟨bH (by assumption) (by assumption),?_⟩
  repeat' exact trivial
 rw[hd,dropEnd (l:=b) (by omega)]at J;refine an<|bL<|bM<|bK<|qs<|aZ 1 Z<|W.ret<|QF.bo trivial Z ?_;rw[<-J];rfl
theorem Hb(a b):bp Tryz.prog 141 [.d (.sl (yb a)),.d (.sl (yb b))] (.d (.v (.bool (decide (a=b))))) 0:=by
 refine bp.b6 (n:=26) (ts:=[4]) Tryz.func141 (by kernel_rfl) Z Tryz.ntmps141 Tryz.results141 Z Z fun C hC hG=>aZ 1 Z<|ae<|aZ 5 Z<|ba Z (fun I=>?_)<|fun I=>?_;·
  have O:decide (a=b)=false:=by simp at I⊢;rintro rfl;simp at I
  refine aZ 1 Z<|W.ret<|bl<|QF.bo trivial Z ?_;rw[O];rfl
 have hl:a.length=b.length:=by simp at I;omega
 refine ah<|qs<|ae<|aZ 3 Z<|W.block<|W.len (t:=0) Z Z<|fun hlen=>?_;try simp only[η,Ex.bE]at hlen
 refine W.bY (ι:={x:Nat//match x with|k=>k<=a.length∧decide (a.drop k=b.drop k)=decide (a=b)})
  (fun x=>match x.1 with|k=>[(13,.d (.v (.int .i64 ((k:Nat):Int))))]) [(0,_),(1,_),(12,_)]
  (fun x=>match x.1 with|k=>[]) [] [] 0 (fun x=>match x.1 with|k=>a.length-k)
  [] ⟨0,?_⟩ Z ?_ ⟨rfl,rfl,rfl,rfl,rfl,rfl,trivial⟩ ?_ trivial Z ?_
 ·exact⟨ς _,rfl⟩
 ·repeat' constructor
 ·repeat' exact trivial
 rintro⟨k,hk,J⟩;show W _ _ _ _ _ ⟨[(13,.d (.v (.int .i64 ((k:Nat):Int)))),(0,_),(1,_),(12,_)],[],[],0⟩;refine aZ 1 Z<|ae<|ct (l:=a) (k:=k) Z (by simp[Ex.bE,bh]) hk (fun x hx hd U=>?_)<|fun he hd=>?_;·
  obtain⟨y,hy,X⟩:=CM (l:=b) (k:=k) (by omega);rw[hd,X]at J;refine ah<|qs<|ae<|W.block<|aZ 2 Z<|ae<|W.dK aW (by kernel_rfl)<|bt (ev aW Z) Z<|bt (ev aW Z) Z<|bt (indexAddr aW Z Z Z Z Z Z (ε _) (bF hx) Z) Z ?_
  refine bt (ev aW Z) Z<|bt (ev aW Z) Z<|bt (ev aW Z) Z<|bt (indexAddr aW Z Z Z Z Z Z (ε _) (bF hy) Z) Z ?_
  refine bt (ev aW Z) Z<|bt (ev aW Z) Z<|ao<|qs<|ba Z (fun M=>?_)<|fun M=>?_;·
   have N:x≠y:=by rintro rfl;simp at M
   have O:decide (a=b)=false:=by rw[<-J];simp[N]
   refine aZ 1 Z<|W.ret<|bw<|bl<|cN<|bw<|bl<|QF.bo trivial Z ?_;rw[O];rfl
  have N:x=y:=by simpa using M
  refine ah<|bW<|qs<|cJ 2 Z<|W.bZ [] ⟨k+1,?_⟩ ?_ Z ?_ ⟨rfl,rfl,rfl,rfl,rfl,rfl,trivial⟩ ?_ trivial Z;·
   refine⟨U,?_⟩;rw[<-J,N];simp
  ·dsimp only;omega
  ·repeat' first|exact trivial|refine⟨bH (by assumption) (by assumption),?_⟩
  repeat' exact trivial
 rw[hd,dropEnd (l:=b) (by omega)]at J;refine an<|bL<|bM<|bK<|qs<|aZ 1 Z<|W.ret<|QF.bo trivial Z ?_;rw[<-J];rfl
def qo(a b:Ev):Bool:=decide (a.time=b.time)&&decide (a.kind=b.kind)&&decide (a.name=b.name)&&decide (a.n=b.n)&&decide (a.m=b.m)&&decide (a.stack=b.stack)
theorem C6(a b:Ev):qo a b=true↔a=b:=by
 cases a;cases b;simp only[qo,ρ,Δ,Ev.mk.injEq];constructor;·rintro⟨⟨⟨⟨⟨h1,h2⟩,h3⟩,h4⟩,h5⟩,I⟩;exact⟨h1,h2,h3,h4,h5,I⟩
 rintro⟨h1,h2,h3,h4,h5,I⟩;exact⟨⟨⟨⟨⟨h1,h2⟩,h3⟩,h4⟩,h5⟩,I⟩
theorem Ig(a b:Ev):bp Tryz.prog 94 [.ag a.c,.ag b.c] (.d (.v (.bool (qo a b)))) 0:=by
 refine bp.b6 (n:=45) (ts:=[4]) Tryz.func94 (by kernel_rfl) Z Tryz.ntmps94 Tryz.results94 Z Z fun C hC I=>ae<|aa<|cG Z Z Z<|cG Z Z Z<|pE Z<|ab<|qs<|ae ?_;apply bC;(case hb=>rfl);·repeat' first|refine b4 Z Z Z|refine bz Z Z ?_|refine bA Z Z Z Z ?_|refine pE Z ?_|refine pu (bm Z Z Z (Hb ..) Z) Z ?_|refine ab ?_|(apply bN;(case hj=>rfl);(case hl=>rfl))
 refine qs (W.ret (QF.bo trivial Z ?_));simp only[norm,bO,qo];grind
theorem HC(a b:Ev):bp Tryz.prog 21 [.ag a.c,.ag b.c] (.d (.v (.bool (qo a b)))) 0:=by
 refine bp.b6 (n:=45) (ts:=[4]) Tryz.func21 (by kernel_rfl) Z Tryz.ntmps21 Tryz.results21 Z Z fun C hC I=>ae<|aa<|cG Z Z Z<|cG Z Z Z<|pE Z<|ab<|qs<|ae ?_;apply bC;(case hb=>rfl);·repeat' first|refine b4 Z Z Z|refine bz Z Z ?_|refine bA Z Z Z Z ?_|refine pE Z ?_|refine pu (bm Z Z Z (FT ..) Z) Z ?_|refine ab ?_|(apply bN;(case hj=>rfl);(case hl=>rfl))
 refine qs (W.ret (QF.bo trivial Z ?_));simp only[norm,bO,qo];grind
theorem xw(e:Ev):bp Tryz.prog 59 [.ag e.c] (.d (.v (.int .i64 (dJ e)))) 0:=by
 refine bp.b6 (n:=127) (ts:=[2]) Tryz.func59 (by kernel_rfl) Z Tryz.ntmps59 Tryz.results59 Z Z fun C hC X=>ae<|aa<|cG Z Z Z<|pE Z<|ab<|qs<|ae<|ae<|?_
 apply bC;(case hb=>rfl);·repeat' first|refine b4 Z Z Z|refine bz Z Z ?_|refine bA Z Z Z Z ?_|refine pE Z ?_|refine ab ?_|(apply bN;(case hj=>rfl);(case hl=>rfl))
 refine qs (ba Z (fun J=>?_) (fun J=>?_));·
  refine aZ 1 Z<|W.ret<|bl<|QF.bo trivial Z ?_;simp only[norm,bO];grind[dJ]
 refine ah<|qs<|ae<|aa<|aY 2 Z<|pu (bm Z Z Z (Fk ..) Z) Z<|aY 3 Z<|bT aW Z Z Z<|be aW Z Z Z Z Z Z Z Z<|pE Z<|ab<|qs<|ae<|ae<|?_
 apply bC;(case hb=>rfl);·repeat' first|refine b4 Z Z Z|refine bz Z Z ?_|refine bA Z Z Z Z ?_|refine jQ Z Z Z ?_|refine pE Z ?_|refine ab ?_|(apply bN;(case hj=>rfl);(case hl=>rfl))
 refine qs (ba Z (fun M=>?_) (fun M=>?_));·
  refine aZ 1 Z<|W.ret<|bl<|QF.bo trivial Z ?_;simp only[norm,bO];grind[dJ]
 refine ah<|qs<|ae<|ae<|aa<|aY 2 Z ?_
 refine pu (bm Z Z Z (HH ..) Z) Z<|pE Z<|ab<|qs<|aZ 2 Z<|ba Z (fun N=>?_)<|fun N=>?_;·
  refine aZ 2 Z<|W.ret<|bl<|QF.bo trivial Z ?_;simp only[norm,bO];grind[dJ]
 refine ah (qs (ae (W.block (ae ?_))));apply bC;(case hb=>rfl);·repeat' first|refine b4 Z Z Z|refine bz Z Z ?_|refine bA Z Z Z Z ?_|refine jQ Z Z Z ?_|refine pE Z ?_|refine ab ?_|(apply bN;(case hj=>rfl);(case hl=>rfl))
 refine qs (ba Z (fun O=>?_) (fun O=>?_));·
  refine aZ 1 Z<|W.ret<|bw<|bl<|QF.bo trivial Z ?_;simp only[norm,bO];grind[dJ]
 refine ae ?_;apply bC;(case hb=>rfl);·repeat' first|refine b4 Z Z Z|refine bz Z Z ?_|refine bA Z Z Z Z ?_|refine pE Z ?_|refine ab ?_|(apply bN;(case hj=>rfl);(case hl=>rfl))
 refine qs (ba Z (fun U=>?_) (fun U=>?_));·
  refine aZ 1 Z<|W.ret<|bw<|bl<|QF.bo trivial Z ?_;simp only[norm,bO];grind[dJ]
 refine ae ?_;apply bC;(case hb=>rfl);·repeat' first|refine b4 Z Z Z|refine bz Z Z ?_|refine bA Z Z Z Z ?_|refine jQ Z Z Z ?_|refine pE Z ?_|refine ab ?_|(apply bN;(case hj=>rfl);(case hl=>rfl))
 refine qs (ba Z (fun I=>?_) (fun I=>?_));·
  refine aZ 1 Z<|W.ret<|bw<|bl<|QF.bo trivial Z ?_;simp only[norm,bO];grind[dJ]
 refine ah<|bW<|qs<|aZ 1 Z<|W.ret<|QF.bo trivial Z ?_;simp only[norm,bO];grind[dJ]
theorem xN(e:Ev):bp Tryz.prog 65 [.ag e.c] (.d (.v (.int .i64 (dJ e)))) 0:=by
 rw[<-EC];refine bp.b6 (n:=80) (ts:=[2]) Tryz.func65 (by kernel_rfl) Z Tryz.ntmps65 Tryz.results65 Z Z fun C hC X=>ae<|aa<|cG Z Z Z<|pE Z<|ab<|qs<|ae<|ae<|?_
 apply bC;(case hb=>rfl);·repeat' first|refine b4 Z Z Z|refine bz Z Z ?_|refine bA Z Z Z Z ?_|refine pE Z ?_|refine ab ?_|(apply bN;(case hj=>rfl);(case hl=>rfl))
 refine qs (ba Z (fun M=>?_) (fun M=>?_));·
  refine aZ 1 Z<|W.ret<|bl<|QF.bo trivial Z ?_;simp only[norm,bO];grind[jy]
 refine ah<|qs<|ae<|ae<|?_
 apply bC;(case hb=>rfl);·repeat' first|refine b4 Z Z Z|refine bz Z Z ?_|refine bA Z Z Z Z ?_|refine pE Z ?_|refine ab ?_|(apply bN;(case hj=>rfl);(case hl=>rfl))
 refine qs (ba Z (fun N=>?_) (fun N=>?_));·
  refine aZ 1 Z<|W.ret<|bl<|QF.bo trivial Z ?_;simp only[norm,bO];grind[jy]
 refine ah<|qs<|ae<|aa<|aY 2 Z<|pu (bm Z Z Z (F8 ..) Z) Z<|aY 9 Z<|ab<|qs<|ae<|ae<|?_
 apply bC;(case hb=>rfl);·repeat' first|refine b4 Z Z Z|refine bz Z Z ?_|refine bA Z Z Z Z ?_|refine jQ Z Z Z ?_|refine pE Z ?_|refine ab ?_|(apply bN;(case hj=>rfl);(case hl=>rfl))
 refine qs (ba Z (fun O=>?_) (fun O=>?_));·
  refine aZ 1 Z<|W.ret<|bl<|QF.bo trivial Z ?_;simp only[norm,bO];grind[jy]
 refine ah<|qs<|aZ 1 Z<|ae<|aZ 1 Z<|ba Z (fun U=>?_)<|fun U=>?_;·
  refine aa<|aY 2 Z<|pu (bm Z Z Z (qL ..) Z) Z<|pE Z<|ab<|qs<|ae<|aZ 1 Z<|ba Z (fun J=>?_)<|fun J=>?_;·
   refine aa<|aY 2 Z<|pu (bm Z Z Z (wg ..) Z) Z<|pE Z<|ab<|qs<|ae<|aZ 2 Z<|ba Z (fun I=>?_)<|fun I=>?_;·
    refine aZ 2 Z<|W.ret<|bl<|QF.bo trivial Z ?_;simp only[norm,bO];grind[jy]
   refine ah<|qs<|ae<|aa<|aY 1 Z<|pu (bm Z Z Z (mR ..) Z) Z<|pE Z<|ab<|qs<|W.ret<|QF.bo trivial Z ?_;simp only[norm,bO];grind[jy]
  refine ah<|qs<|ae<|aZ 2 Z<|ba Z (fun I=>?_)<|fun I=>?_;·
   refine aZ 2 Z<|W.ret<|bl<|QF.bo trivial Z ?_;simp only[norm,bO];grind[jy]
  refine ah<|qs<|ae<|aa<|aY 1 Z<|pu (bm Z Z Z (mR ..) Z) Z<|pE Z<|ab<|qs<|W.ret<|QF.bo trivial Z ?_;simp only[norm,bO];grind[jy]
 refine ah<|qs<|ae<|aZ 1 Z<|ba Z (fun J=>?_)<|fun J=>?_;·
  refine aa<|aY 2 Z<|pu (bm Z Z Z (wg ..) Z) Z<|pE Z<|ab<|qs<|ae<|aZ 2 Z<|ba Z (fun I=>?_)<|fun I=>?_;·
   refine aZ 2 Z<|W.ret<|bl<|QF.bo trivial Z ?_;simp only[norm,bO];grind[jy]
  refine ah<|qs<|ae<|aa<|aY 1 Z<|pu (bm Z Z Z (mR ..) Z) Z<|pE Z<|ab<|qs<|W.ret<|QF.bo trivial Z ?_;simp only[norm,bO];grind[jy]
 refine ah<|qs<|ae<|aZ 2 Z<|ba Z (fun I=>?_)<|fun I=>?_;·
  refine aZ 2 Z<|W.ret<|bl<|QF.bo trivial Z ?_;simp only[norm,bO];grind[jy]
 refine ah<|qs<|ae<|aa<|aY 1 Z<|pu (bm Z Z Z (mR ..) Z) Z<|pE Z<|ab<|qs<|W.ret<|QF.bo trivial Z ?_;simp only[norm,bO];grind[jy]
theorem D0(s:ByteArray)(v)(h:Lib.atoiAll s.data.toList=.ok v):fY s=(if(if dh v=s then true else false)&&fu v then(v,true)else(0,false)):=by unfold fY;rw[h];by_cases h1:dh v=s<;>by_cases h2:fu v=true<;>simp[h1,h2]
theorem Ep(l):-9223372036854775808<=Lib.atoiSat l∧Lib.atoiSat l<=9223372036854775807:=by unfold Lib.atoiSat;split<;>decide
theorem wrap_u8{x}(h:0<=x∧x<=255):IntKind.u8.wrap x=x:=IntWalk.u8_in x h
theorem jB(s:ByteArray)(hs:s.size<=281474976710656):bp Tryz.prog 160 [.d (.v (.string s))] (.tup [.d (.v (.int .i64 (fY s).1)),.d (.v (.bool (fY s).2))]) 0:=by
 have I:=Im s hs;unfold C5 at I
 cases h:Lib.atoiAll s.data.toList with
 |ok v=>
  rw[h]at I;have hb:=Lib.atoiAll_bounds h;have hp:=D0 s v h;refine bp.b6 (n:=23) (ts:=[2,3]) Tryz.func160 (by kernel_rfl) Z Tryz.ntmps160 Tryz.results160 Z Z fun C hC J=>aZ 2 Z<|ae<|aa<|pE Z<|pu (bm Z Z Z I Z) Z<|aY 5 Z<|ab<|qs<|ae<|aa<|aY 2 Z<|pu (Ls Z (by kernel_rfl)) Z<|pE Z<|gz Z Z (fun _=>?_)<|fun _=>?_;·
   refine bz Z Z<|pE Z<|bz Z Z<|pu (bm Z Z Z (qH v hb.1 hb.2) Z) Z<|bz Z Z<|pE Z<|bz Z Z<|aY 2 Z<|pu (bm Z Z Z (lU ..) Z) Z<|aY 4 Z<|ab<|qs<|W.ret<|QF.bo trivial Z ?_
   (rw[hp];simp only[norm,lr,bO];by_cases h1:dh v=s<;>by_cases h2:fu v=true<;>simp[h1,h2])
  refine bA Z Z Z Z<|bA Z Z Z Z<|bA Z Z Z Z<|bA Z Z Z Z<|pE Z<|pu (bm Z Z Z (lU ..) Z) Z ?_
  refine aY 4 Z<|ab<|qs<|W.ret<|QF.bo trivial Z ?_;first|contradiction|(rw[hp];simp only[norm,lr,bO];by_cases h1:dh v=s<;>by_cases h2:fu v=true<;>simp[h1,h2])
 |range=>
  rw[h]at I;have hp:fY s=(0,false):=by unfold fY;rw[h]
  refine bp.b6 (n:=23) (ts:=[2,3]) Tryz.func160 (by kernel_rfl) Z Tryz.ntmps160 Tryz.results160 Z Z fun C hC J=>aZ 2 Z<|ae<|aa<|pE Z<|pu (bm Z Z Z I Z) Z<|aY 5 Z<|ab<|qs<|ae<|aa<|aY 2 Z<|pu (KS Z (by kernel_rfl)) Z<|pE Z<|gz Z Z (fun _=>?_)<|fun _=>?_;·
   refine bz Z Z<|pE Z<|bz Z Z<|pu (bm Z Z Z (qH _ (Ep _).1 (Ep _).2) Z) Z<|bz Z Z<|pE Z<|bz Z Z<|aY 2 Z<|pu (bm Z Z Z (lU ..) Z) Z<|aY 4 Z<|ab<|qs<|W.ret<|QF.bo trivial Z ?_;contradiction
  refine bA Z Z Z Z<|bA Z Z Z Z<|bA Z Z Z Z<|bA Z Z Z Z<|pE Z<|pu (bm Z Z Z (lU ..) Z) Z ?_
  refine aY 4 Z<|ab<|qs<|W.ret<|QF.bo trivial Z ?_;first|contradiction|(rw[hp];rfl)
 |_=>
  rw[h]at I;have hp:fY s=(0,false):=by unfold fY;rw[h]
  refine bp.b6 (n:=23) (ts:=[2,3]) Tryz.func160 (by kernel_rfl) Z Tryz.ntmps160 Tryz.results160 Z Z fun C hC J=>aZ 2 Z<|ae<|aa<|pE Z<|pu (bm Z Z Z I Z) Z<|aY 5 Z<|ab<|qs<|ae<|aa<|aY 2 Z<|pu (KS Z (by kernel_rfl)) Z<|pE Z<|gz Z Z (fun _=>?_)<|fun _=>?_;·
   refine bz Z Z<|pE Z<|bz Z Z<|pu (bm Z Z Z (qH 0 (by decide) (by decide)) Z) Z<|bz Z Z<|pE Z<|bz Z Z<|aY 2 Z<|pu (bm Z Z Z (lU ..) Z) Z<|aY 4 Z<|ab<|qs<|W.ret<|QF.bo trivial Z ?_;contradiction
  refine bA Z Z Z Z<|bA Z Z Z Z<|bA Z Z Z Z<|bA Z Z Z Z<|pE Z<|pu (bm Z Z Z (lU ..) Z) Z ?_
  refine aY 4 Z<|ab<|qs<|W.ret<|QF.bo trivial Z ?_
  (rw[hp];rfl)
open Go.Ab Go.RowKit
abbrev tB:Nat:=150
abbrev tU:Nat:=5
theorem AJ:(Tryz.prog.info? tB).map (·.size)=some 2:=by kernel_rfl
theorem G5:liesAt Tryz.prog Tryz.prog.depth tB (2/Tryz.prog.cellsOf tB) 0 tB 1=true:=by kernel_rfl
set_option maxHeartbeats 1000000 in
set_option maxRecDepth 100000 in
theorem F7(b)(w:World)(h0:w.cell? ⟨b,0,none⟩=some (.pointer (some ⟨b,0,none⟩))):
 Calls Tryz.prog 170 #[.pointer (some ⟨b,0,none⟩)] w fun e w'=>e=.returned (.tuple #[])∧w'=w:=by
 obtain⟨j,hj,_⟩:=χ.1 AJ;have t150:=Tryz.underlying150;have I:=Tryz.isAgg150;have J:=Tryz.sizeOf150;have M:=run_underlying Tryz.underlying150;have t147:=Tryz.underlying147;have N:=Tryz.isAgg147;have O:=Tryz.sizeOf147;have U:=run_underlying Tryz.underlying147;have t225:=Tryz.underlying225;have X:=Tryz.isAgg225;have ad:=Tryz.sizeOf225;have ai:=run_underlying Tryz.underlying225
 go_enter Tryz.func170,Tryz.ntmps170
 go_wp2
 rw[Lib.run_neq_ptr_same w _ Tryz.underlying147 hj]
 go_wp2
 go_end0
 exact⟨rfl,rfl⟩
set_option maxHeartbeats 1000000 in
set_option maxRecDepth 100000 in
theorem EL(b)(w:World)(h0:w.cell? ⟨b,0,none⟩=some (.pointer none))(I:w.shape? b=some (tB,2))(a1:w.frozen? ⟨b,0,none⟩=false):
 Calls Tryz.prog 170 #[.pointer (some ⟨b,0,none⟩)] w fun e w'=>e=.returned (.tuple #[])∧w'=w.setCell ⟨b,0,none⟩ (.pointer (some ⟨b,0,none⟩)):=by
 obtain⟨j,hj,J⟩:=χ.1 AJ;have t150:=Tryz.underlying150;have M:=Tryz.isAgg150;have N:=Tryz.sizeOf150;have O:=run_underlying Tryz.underlying150;have t147:=Tryz.underlying147;have U:=Tryz.isAgg147;have X:=Tryz.sizeOf147;have ad:=run_underlying Tryz.underlying147;have t225:=Tryz.underlying225;have ai:=Tryz.isAgg225;have aj:=Tryz.sizeOf225;have ar:=run_underlying Tryz.underlying225
 go_enter Tryz.func170,Tryz.ntmps170
 go_wp2
 rw[Lib.run_to_unsafe w ⟨b,0,none⟩ Tryz.underlying147 Tryz.underlying225 hj (by rw[J];decide) I (Nat.zero_lt_succ 1)];simp only[Result.andThen];rw[Oper.upon_value]
 go_wp2
 rw[run_callFunc_extern Tryz.func186 (by kernel_rfl) (by kernel_rfl) (by kernel_rfl) (e:=Extern.AbiNoEscape.same) (by kernel_rfl)];rw[Lib.run_noEscape];simp only[Result.andThen];rw[Oper.upon_value]
 go_wp2
 rw[Lib.run_from_unsafe w ⟨b,0,none⟩ Tryz.underlying225 Tryz.underlying147 hj I G5];simp only[Result.andThen];rw[Oper.upon_value]
 go_wp2
 go_end0
 exact⟨rfl,rfl⟩
theorem KP:lx Tryz.prog 170:=⟨_,Tryz.func170,by kernel_rfl,by kernel_rfl⟩
theorem FI:lx Tryz.prog 90:=⟨_,Tryz.func90,by kernel_rfl,by kernel_rfl⟩
theorem GP:nY Tryz.prog tB 170:=⟨F7,EL⟩
theorem B4:uC Tryz.prog tB tU 90:=fun B b l w h hB=>aB B b l w h hB
theorem sD(u s):bU Tryz.prog 170 [.ptr 0 0] [[.np 0 tB u,.bf 1 tU s]] 1 (.tup []) [[.np 0 tB true,.bf 1 tU s]] 1:=nY.GK KP GP u (.bf 1 tU s) 1
theorem D8(u)(s x:ByteArray)(hb:s.size+x.size<=140737488355328):bU Tryz.prog 137 [.ptr 0 0,.d (.v (.string x))] [[.np 0 tB u,.bf 1 tU s]] 1 (.tup [.d (.v (.int .i64 x.size)),.d (.v .nilIface)]) [[.np 0 tB true,.bf 1 tU (s++x)]] 1:=by
 refine bU.dk aW (n:=19) (rs:=[.tmp 4,.tmp 5]) Tryz.func137 (by kernel_rfl) Z Tryz.ntmps137 Tryz.results137 Z Z fun C hC I=>aZ 2 Z<|ae<|aa<|pE Z<|bu [0] [1] Z Z Z Z Z ((sD u s)) Z Z (by rfl) (by rfl) Z Z Z Z<|ab<|qs<|ae<|aa<|aY 6 Z<|C0 aW Z Z Z Z Z Z Z Z Z Z hb Z Z<|aY 2 Z<|be aW Z Z Z Z Z Z Z Z<|ab<|qs<|aZ 4 Z<|W.ret<|ak aW [4] trivial Z Z Z Z ?_ ?_;·exact⟨rfl,trivial⟩
 rfl
theorem rB(u)(s:ByteArray)(c)(m:ByteArray)(hm:m.size=1)(I:∀b,m.data[0]?=some b->(b.toNat:Int)=c)(hb:s.size+1<=140737488355328):bU Tryz.prog 139 [.ptr 0 0,.d (.v (.int .u8 c))] [[.np 0 tB u,.bf 1 tU s]] 1 (.d (.v .nilIface)) [[.np 0 tB true,.bf 1 tU (s++m)]] 1:=by
 refine bU.dk aW (n:=17) (rs:=[.tmp 4]) Tryz.func139 (by kernel_rfl) Z Tryz.ntmps139 Tryz.results139 Z Z fun C hC J=>aZ 1 Z<|ae<|aa<|pE Z<|bu [0] [1] Z Z Z Z Z ((sD u s)) Z Z (by rfl) (by rfl) Z Z Z Z<|ab<|qs<|ae<|aa<|aY 6 Z<|pu (bR aW Z Z Z Z Z Z Z Z Z) Z<|Bk aW Z Z Z Z Z Z Z Z m hm I hb Z Z<|aY 2 Z<|be aW Z Z Z Z Z Z Z Z<|ab<|qs<|aZ 1 Z<|W.ret<|ak aW [4] trivial Z Z Z Z ?_ ?_;·exact⟨rfl,trivial⟩
 rfl
theorem AB(b:UInt8):bp Tryz.prog 171 [.d (.v (.int .u8 b.toNat))] (.d (.v (.bool (known b)))) 0:=by
 refine bp.b6 (n:=17) (ts:=[2]) Tryz.func171 (by kernel_rfl) Z Tryz.ntmps171 Tryz.results171 Z Z fun C hC I=>aZ 1 Z<|ae ?_;apply bC;(case hb=>rfl);·repeat' first|refine b4 Z Z Z|refine bz Z Z ?_|refine bA Z Z Z Z ?_|refine jQ Z Z Z ?_|refine pE Z ?_|refine ab ?_|(apply bN;(case hj=>rfl);(case hl=>rfl))
 refine qs (W.ret (QF.bo trivial Z ?_));show A.d (D.v (Value.bool _))=A.d (D.v (Value.bool _));congr 3;unfold known;generalize b.toNat=n;simp only[show((n:Int)=9)=(n=9)from propext (by omega),show((n:Int)=10)=(n=10)from propext (by omega),show((32:Int)<=n)=(32<=n)from propext (by omega),show((n:Int)<=126)=(n<=126)from propext (by omega)];cases decide (n=9)<;>cases decide (n=10)<;>cases decide (32<=n)<;>cases decide (n<=126)<;>rfl
theorem plain_fn(s):bp Tryz.prog 144 [.d (.v (.string s))] (.d (.v (.bool (dT s)))) 0:=by
 refine bp.b6 (n:=15) (ts:=[2]) Tryz.func144 (by kernel_rfl) Z Tryz.ntmps144 Tryz.results144 Z Z fun C hC O=>aZ 1 Z<|ae<|aZ 3 Z<|W.block<|W.lI (t:=0) Z<|fun hok=>?_;have hlen:=kC hok
 refine W.bY (ι:={x:Nat//match x with|k=>k<=(aX s).length∧((aX s).drop k).all known=(aX s).all known})
  (fun x=>match x.1 with|k=>[(6,.d (.v (.int .i64 ((k:Nat):Int))))]) [(0,_),(5,_)]
  (fun x=>match x.1 with|k=>[]) [] [] 0 (fun x=>match x.1 with|k=>(aX s).length-k)
  [] ⟨0,?_⟩ Z ?_ ⟨rfl,rfl,rfl,rfl,trivial⟩ ?_ trivial Z ?_
 ·exact⟨ς _,rfl⟩
 ·repeat' constructor
 ·repeat' exact trivial
 rintro⟨k,N,I⟩;show W _ _ _ _ _ ⟨[(6,.d (.v (.int .i64 ((k:Nat):Int)))),(0,_),(5,_)],[],[],0⟩;refine aZ 1 Z<|ae<|ct (l:=aX s) (k:=k) Z (by simp[Ex.bE,bh]) N (fun b U hd J=>?_)<|fun he hd=>?_;·
  rw[hd,List.all_cons]at I;refine ah<|qs<|ae<|W.block<|aZ 2 Z<|ae<|aa<|aY 2 Z<|pu (ew aW Z Z Z Z (ε _) (fN (by assumption))) Z<|pu (bm Z Z Z (AB ..) Z) Z<|pE Z<|ab<|qs<|ba Z (fun M=>?_)<|fun M=>?_;·
   refine aZ 1 Z<|W.ret<|bw<|bl<|cN<|bw<|bl<|QF.bo trivial Z ?_;simp only[norm,bO];unfold dT;rw[<-I];simp_all
  refine ah<|bW<|qs<|cJ 2 Z<|W.bZ [] ⟨k+1,?_⟩ ?_ Z ?_ ⟨rfl,rfl,rfl,rfl,trivial⟩ ?_ trivial Z;·exact⟨J,by rw[<-I];simp_all⟩
  ·dsimp only;omega
  ·repeat' first|exact trivial|refine⟨bH (by assumption) (by assumption),?_⟩
  repeat' exact trivial
 rw[hd]at I;refine an<|bL<|bM<|bK<|qs<|aZ 1 Z<|W.ret<|QF.bo trivial Z ?_;simp only[norm,bO];unfold dT;rw[<-I];simp_all
theorem IJ(a b)(I:a<=maxLen)(hb:b<=maxLen):decide (IntKind.i64.wrap ((a:Int)+(b:Int))=0)=decide (a+b=0):=by
 have e:maxLen=9223372036854775807:=rfl;have h:=wrap_zero (x:=(a:Int)+(b:Int)) (by omega) (by omega);by_cases q:a+b=0;·rw[decide_eq_true q,decide_eq_true (h.2 (by omega))]
 rw[decide_eq_false q,decide_eq_false (fun z=>q (by have:=h.1 z;omega))]
theorem Fl(j:JV):bp Tryz.prog 142 [.ag j.c] (.d (.v (.bool (dc j)))) 0:=by
 refine bp.b6 (n:=91) (ts:=[2]) Tryz.func142 (by kernel_rfl) Z Tryz.ntmps142 Tryz.results142 Z Z fun C hC hG=>ae<|aa<|cG Z Z Z<|pE Z<|ab<|qs<|ae<|ae<|qC (g:=0) (j:=3) Z Z<|fun M=>?_
 refine qC (g:=0) (j:=4) Z Z (fun N=>?_);rw[η]at M;rw[JV.bE]at N;have I:=IJ _ _ M N;refine cJ 2 Z<|qs<|W.block<|aZ 2 Z<|ba Z (fun h5=>?_)<|fun h5=>?_;·
  refine ae ?_;apply bC;(case hb=>rfl);·repeat' first|refine b4 Z Z Z|refine bz Z Z ?_|refine bA Z Z Z Z ?_|refine pE Z ?_|refine ab ?_|(apply bN;(case hj=>rfl);(case hl=>rfl))
  refine qs (W.ret (bw (bl (QF.bo trivial Z ?_))));show A.d (D.v (Value.bool _))=A.d (D.v (Value.bool _));congr 3;unfold dc;try simp only[η,JV.bE,I]
  simp only[Δ,S']at*;simp_all<;>grind
 refine ae<|aZ 2 Z<|ba Z (fun J=>?_)<|fun J=>?_;·
  refine ah (qs (W.gJ Z (ae ?_)));apply bC;(case hb=>rfl);·repeat' first|refine b4 Z Z Z|refine bz Z Z ?_|refine bA Z Z Z Z ?_|refine pE Z ?_|refine ab ?_|(apply bN;(case hj=>rfl);(case hl=>rfl))
  refine qs (W.ret (bw (bl (QF.bo trivial Z ?_))));show A.d (D.v (Value.bool _))=A.d (D.v (Value.bool _));congr 3;unfold dc;try simp only[η,JV.bE,I]
  simp only[Δ,S']at*;simp_all<;>grind
 refine cJ 2 Z<|qs<|ba Z (fun J=>?_)<|fun J=>?_;·
  refine ae ?_;apply bC;(case hb=>rfl);·repeat' first|refine b4 Z Z Z|refine bz Z Z ?_|refine bA Z Z Z Z ?_|refine pE Z ?_|refine ab ?_|(apply bN;(case hj=>rfl);(case hl=>rfl))
  refine qs (W.ret (bw (bl (QF.bo trivial Z ?_))));show A.d (D.v (Value.bool _))=A.d (D.v (Value.bool _));congr 3;unfold dc;try simp only[η,JV.bE,I]
  simp only[Δ,S']at*;simp_all<;>grind
 refine aZ 2 Z<|ba Z (fun O=>?_)<|fun O=>?_;·
  refine ae ?_;apply bC;(case hb=>rfl);·repeat' first|refine b4 Z Z Z|refine bz Z Z ?_|refine bA Z Z Z Z ?_|refine pE Z ?_|refine ab ?_|(apply bN;(case hj=>rfl);(case hl=>rfl))
  refine qs (W.ret (bw (bl (QF.bo trivial Z ?_))));show A.d (D.v (Value.bool _))=A.d (D.v (Value.bool _));congr 3;unfold dc;try simp only[η,JV.bE,I]
  simp only[Δ,S']at*;simp_all<;>grind
 refine aZ 2 Z<|ba Z (fun U=>?_)<|fun U=>?_;·
  refine ae ?_;apply bC;(case hb=>rfl);·repeat' first|refine b4 Z Z Z|refine bz Z Z ?_|refine bA Z Z Z Z ?_|refine pE Z ?_|refine ab ?_|(apply bN;(case hj=>rfl);(case hl=>rfl))
  refine qs (W.ret (bw (bl (QF.bo trivial Z ?_))));show A.d (D.v (Value.bool _))=A.d (D.v (Value.bool _));congr 3;unfold dc;try simp only[η,JV.bE,I]
  simp only[Δ,S']at*;simp_all<;>grind
 refine aZ 2 Z<|ba Z (fun X=>?_)<|fun X=>?_;·
  refine ae ?_;apply bC;(case hb=>rfl);·repeat' first|refine b4 Z Z Z|refine bz Z Z ?_|refine bA Z Z Z Z ?_|refine pE Z ?_|refine ab ?_|(apply bN;(case hj=>rfl);(case hl=>rfl))
  refine qs (W.ret (bw (bl (QF.bo trivial Z ?_))));show A.d (D.v (Value.bool _))=A.d (D.v (Value.bool _));congr 3;unfold dc;try simp only[η,JV.bE,I]
  simp only[Δ,S']at*;simp_all<;>grind
 refine ah<|bW<|qs<|aZ 1 Z<|W.ret<|QF.bo trivial Z ?_;show A.d (D.v (Value.bool _))=A.d (D.v (Value.bool _));congr 3;unfold dc;try simp only[η,JV.bE,I]
 simp only[Δ,S']at*;simp_all<;>grind
theorem AY(l:List ByteArray):bp Tryz.prog 146 [.d (.sl (l.map sc))] (.d (.v (.bool (fP [] l)))) 0:=by
 refine bp.b6 (n:=19) (ts:=[2]) Tryz.func146 (by kernel_rfl) Z Tryz.ntmps146 Tryz.results146 Z Z fun C hC hG=>aZ 1 Z<|ae<|aa<|mkMap Z<|pE Z<|ab<|qs<|ae<|aZ 3 Z<|W.block<|W.len (t:=7) Z Z<|fun hlen=>?_
 try simp only[η,Ex.bE]at hlen
 refine W.bY (ι:={x:Nat//match x with|k=>k<=l.length∧(l.take k).Nodup∧fP (l.take k) (l.drop k)=fP [] l})
  (fun x=>match x.1 with|k=>[(3,.mp 0 (gy sk bv (ja (l.take k)))),(9,.d (.v (.int .i64 ((k:Nat):Int))))]) [(7,_),(8,_)]
  (fun x=>match x.1 with|k=>[]) [] [0] 1 (fun x=>match x.1 with|k=>l.length-k)
  [0] ⟨0,?_⟩ rfl ?_ ⟨rfl,rfl,rfl,rfl,trivial⟩ ?_ trivial rfl ?_
 ·exact⟨ς _,by simp,by simp⟩
 ·repeat' constructor
 ·repeat' exact trivial
 rintro⟨k,hk,hn,hI⟩
 show W _ _ _ _ _ ⟨[(3,.mp 0 (gy sk bv (ja (l.take k)))),(9,.d (.v (.int .i64 ((k:Nat):Int)))),(7,_),(8,_)],[],[0],1⟩
 refine aZ 1 Z<|ae<|ct (l:=l) (k:=k) Z (by simp[Ex.bE,bh]) hk (fun s hx hd hlt=>?_)<|fun he hd=>?_
 ·
  rw[hd]at hI
  simp only[fP]at hI
  have htk:l.take (k+1)=l.take k++[s]:=by rw[Ψ,hx];rfl
  refine ah<|qs<|ae<|W.block<|ae<|aa<|pu (indexAddr aW Z Z Z Z Z Z (ε _) (bF hx) Z) Z<|aY 2 Z<|ab<|qs<|ae<|ae<|aa<|aY 2 Z<|pu (oV (kf:=sk) (vf:=bv) (l:=ja (l.take k)) (a:=s) (z:=false) (zx:=.bool false) aW Z Z Z Z Z (vL (aW.kO Z Z)) Z Z Z (fun w pv=>.v _ Z) (by rw[l5];exact hn) (congrArg bv (xu hn s))) Z<|ab<|qs<|ba Z (fun h15=>?_)<|fun h15=>?_
  ·
   rw[if_pos h15]at hI
   refine aZ 1 Z<|W.ret<|bl<|bw<|bl<|cN<|bw<|bl<|QF.bo trivial Z ?_
   simp only[norm,bO];rw[<-hI]
  rw[if_neg (by simp[h15])]at hI
  have hn2:=vv hn h15
  refine ah<|qs<|aa<|aY 2 Z<|wb (kf:=sk) (vf:=bv) (l:=ja (l.take k)) (a:=s) (y:=true) aW 3 Z Z Z Z Z Z Z (vL (aW.kO Z Z)) Z Z (by rw[l5];exact hn) (congrArg (gy sk bv) ((yc h15).trans (congrArg ja htk.symm))) Z<|ab<|bW<|qs<|cJ 2 Z<|W.bZ [1] ⟨k+1,?_⟩ ?_ Z ?_ ⟨rfl,rfl,rfl,rfl,trivial⟩ ?_ trivial Z
  ·exact⟨hlt,by rw[htk];exact hn2,by rw[htk];exact hI⟩
  ·dsimp only;omega
  ·repeat' first|exact trivial|refine⟨rfl,?_⟩|refine⟨bH (by assumption) (by assumption),?_⟩
  repeat' exact trivial
 rw[hd]at hI
 simp only[fP]at hI
 refine an<|bL<|bM<|bK<|qs<|aZ 1 Z<|W.ret<|QF.bo trivial Z ?_
 simp only[norm,bO];rw[<-hI]
theorem ij(j:JV):j.c=[ci j.op,ci j.n,cs j.s,.sl (j.keys.map sc),.sl (j.kids.map JV.c)]:=by unfold JV.c;rw[JV.px]
theorem gR(j:JV)(level):ck j level=if dO j level≠0 then dO j level else dz j.kids (level+1):=by cases j;simp only[ck,JV.kids]
theorem Bq(s):bp Tryz.prog 145 [.d (.v (.string s))] (.d (.v (.bool (!dT s)))) 0:=by refine bp.b6 (n:=6) (ts:=[2]) Tryz.func145 (by kernel_rfl) Z Tryz.ntmps145 Tryz.results145 Z Z fun C hC I=>?_;refine aZ 1 Z ?_;refine ae (aa (pE Z (pu (bm Z Z Z (plain_fn ..) Z) Z ?_)));refine aY 2 Z ?_;refine ab (qs (W.ret (QF.bo trivial Z ?_)));rfl
theorem Fq:∀(j:JV)(level:Int),0<=level->level<=17->bp Tryz.prog 95 [.ag j.c,.d (.v (.int .i64 level))] (.d (.v (.int .i64 (ck j level)))) 0:=by
 refine aH fun j J=>?_;intro level h0 h1;have I:=Fl j;rw[ij j]at I⊢;have ai:dc j=true->j.op<5->j.kids=[]:=by
  intro M a6;unfold dc at M;have e5:¬j.op=5:=by omega
  have e6:¬j.op=6:=by omega
  rw[if_neg e5,if_neg e6]at M;refine List.length_eq_zero_iff.1 ?_;split at M;·simp only[ρ,Δ]at M;omega
  split at M;·simp only[ρ,Δ]at M;omega
  split at M;·simp only[ρ,Δ]at M;omega
  cases M
 refine bp.b6 (n:=70) (ts:=[4]) Tryz.func95 (by kernel_rfl) Z Tryz.ntmps95 Tryz.results95 Z Z fun C hC hG=>ae<|aa<|cG Z Z Z<|pE Z<|ab<|qs<|ae<|W.block<|ae<|aa<|aY 1 Z<|pu (bm Z Z Z I Z) Z<|aY 2 Z<|ab<|qs<|ba Z (fun h8=>?_)<|fun h8=>?_;·
  refine aZ 1 Z<|W.ret<|bw<|bl<|QF.bo trivial Z ?_;clear J I;show A.d (D.v (Value.int _ _))=A.d (D.v (Value.int _ _));congr 3;rw[gR j];unfold dO;grind
 iterate 2 refine ae ?_
 apply bC;(case hb=>rfl);·repeat' first|refine b4 Z Z Z|refine bz Z Z ?_|refine bA Z Z Z Z ?_|refine pE Z ?_|refine ab ?_|(apply bN;(case hj=>rfl);(case hl=>rfl))
 refine qs (ba Z (fun O=>?_) (fun O=>?_));·
  refine ah<|qs<|W.gJ Z<|aZ 1 Z<|W.ret<|bw<|bl<|QF.bo trivial Z ?_;clear J I;show A.d (D.v (Value.int _ _))=A.d (D.v (Value.int _ _));congr 3;rw[gR j];unfold dO;grind
 apply bC;(case hb=>rfl);·repeat' first|refine b4 Z Z Z|refine bz Z Z ?_|refine bA Z Z Z Z ?_|refine pE Z ?_|refine pu (bm Z Z Z (HM ..) Z) Z ?_|refine ab ?_|(apply bN;(case hj=>rfl);(case hl=>rfl))
 refine qs (ba Z (fun O=>?_) (fun O=>?_));·
  refine aZ 1 Z<|W.ret<|bw<|bl<|QF.bo trivial Z ?_;clear J I;show A.d (D.v (Value.int _ _))=A.d (D.v (Value.int _ _));congr 3;rw[gR j];unfold dO;grind
 refine ae<|ae<|aa<|aY 2 Z ?_
 refine pu (bm Z Z Z (plain_fn ..) Z) Z<|aY 2 Z<|ab<|qs<|ba Z (fun U=>?_)<|fun U=>?_;·
  refine ah<|qs<|W.gJ Z<|aZ 1 Z<|W.ret<|bw<|bl<|QF.bo trivial Z ?_;clear J I;show A.d (D.v (Value.int _ _))=A.d (D.v (Value.int _ _));congr 3;rw[gR j];unfold dO;grind
 refine aa<|aY 2 Z<|pu (bm Z Z Z (wX _ [] ⟨fun _ _=>rfl,rfl⟩ _ Bq j.keys) Z) Z<|pE Z<|ab<|qs<|ba Z (fun U=>?_)<|fun U=>?_;·
  refine aZ 1 Z<|W.ret<|bw<|bl<|QF.bo trivial Z ?_;clear J I;show A.d (D.v (Value.int _ _))=A.d (D.v (Value.int _ _));congr 3;rw[gR j];unfold dO;grind
 refine ae<|aa<|aY 2 Z<|pu (bm Z Z Z (AY ..) Z) Z<|pE Z<|ab<|qs<|ba Z (fun ar=>?_)<|fun ar=>?_;·
  refine aZ 1 Z<|W.ret<|bw<|bl<|QF.bo trivial Z ?_;clear J I;show A.d (D.v (Value.int _ _))=A.d (D.v (Value.int _ _));congr 3;rw[gR j];unfold dO;grind
 refine ae ?_;apply bC;(case hb=>rfl);·repeat' first|refine b4 Z Z Z|refine bz Z Z ?_|refine bA Z Z Z Z ?_|refine pE Z ?_|refine ab ?_|(apply bN;(case hj=>rfl);(case hl=>rfl))
 refine qs (ba Z (fun aj=>?_) (fun aj=>?_));·
  refine aZ 1 Z<|W.ret<|bw<|bl<|QF.bo trivial Z ?_;clear J I;show A.d (D.v (Value.int _ _))=A.d (D.v (Value.int _ _));congr 3;rw[gR j];unfold dO;grind
 refine ah<|bW<|qs<|ae<|aZ 4 Z<|W.block<|W.len (t:=56) Z Z<|fun hlen=>?_;try simp only[η,Ex.bE]at hlen
 refine W.bY (ι:={x:Nat//match x with|k=>k<=j.kids.length∧dz (j.kids.drop k) (level+1)=dz j.kids (level+1)})
  (fun x=>match x.1 with|k=>[(58,.d (.v (.int .i64 ((k:Nat):Int))))]) [(1,_),(56,_),(57,_)]
  (fun x=>match x.1 with|k=>[]) [] [] 0 (fun x=>match x.1 with|k=>j.kids.length-k)
  [] ⟨0,?_⟩ Z ?_ ⟨rfl,rfl,rfl,rfl,rfl,rfl,trivial⟩ ?_ trivial Z ?_
 ·exact⟨ς _,by simp⟩
 ·repeat' constructor
 ·repeat' exact trivial
 rintro⟨k,hk,N⟩;show W _ _ _ _ _ ⟨[(58,.d (.v (.int .i64 ((k:Nat):Int)))),(1,_),(56,_),(57,_)],[],[],0⟩;refine aZ 1 Z<|ae<|ct (l:=j.kids) (k:=k) Z (by simp[Ex.bE,bh]) hk (fun x hx hd X=>?_)<|fun he hd=>?_;·
  rw[hd]at N;simp only[dz]at N;have a7:level<=16:=by
   by_cases q:j.op<5;·rw[ai (by simpa using h8) q]at X;simp at X
   revert aj;simp;omega
  have a1:=J x (ζ hx) (level+1) (by omega) (by omega);refine ah<|qs<|ae<|W.block<|ae<|aa<|pu (indexAddr aW Z Z Z Z Z Z (ε _) (bF hx) Z) Z<|aY 1 Z<|bT aW Z Z Z<|be aW Z Z Z Z Z Z Z Z<|ab<|qs<|ae<|aa<|aY 2 Z<|pu (b5 (ev aW Z) (wrap64 (by omega))) Z<|pu (bm Z Z Z a1 Z) Z<|pE Z<|ab<|qs<|aZ 2 Z<|ba Z (fun ad=>?_)<|fun ad=>?_;·
   have hc:ck x (level+1)≠0:=by simpa using ad
   rw[if_pos hc]at N;refine aZ 2 Z<|W.ret<|bw<|bl<|cN<|bw<|bl<|QF.bo trivial Z ?_;clear J I;show A.d (D.v (Value.int _ _))=A.d (D.v (Value.int _ _));congr 3;rw[gR j];unfold dO;grind
  have hc:ck x (level+1)=0:=by simpa using ad
  rw[if_neg (by simp[hc])]at N;refine ah<|bW<|qs<|cJ 2 Z<|W.bZ [] ⟨k+1,?_⟩ ?_ Z ?_ ⟨rfl,rfl,rfl,rfl,rfl,rfl,trivial⟩ ?_ trivial Z;·exact⟨X,N⟩
  ·dsimp only;omega
  ·repeat' first|exact trivial|refine⟨bH (by assumption) (by assumption),?_⟩
  repeat' exact trivial
 rw[hd]at N;simp only[dz]at N;refine an<|bL<|bM<|bK<|qs<|aZ 1 Z<|W.ret<|QF.bo trivial Z ?_;clear J I;show A.d (D.v (Value.int _ _))=A.d (D.v (Value.int _ _));congr 3;rw[gR j];unfold dO;grind
theorem rV(b:UInt8):bp Tryz.prog 187 [.d (.v (.int .u8 b.toNat))] (.d (.v (.bool (known b)))) 0:=by
 refine bp.b6 (n:=17) (ts:=[2]) Tryz.func187 (by kernel_rfl) Z Tryz.ntmps187 Tryz.results187 Z Z fun C hC I=>aZ 1 Z<|ae ?_;apply bC;(case hb=>rfl);·repeat' first|refine b4 Z Z Z|refine bz Z Z ?_|refine bA Z Z Z Z ?_|refine jQ Z Z Z ?_|refine pE Z ?_|refine ab ?_|(apply bN;(case hj=>rfl);(case hl=>rfl))
 refine qs (W.ret (QF.bo trivial Z ?_));show A.d (D.v (Value.bool _))=A.d (D.v (Value.bool _));congr 3;unfold known;generalize b.toNat=n;simp only[show((n:Int)=9)=(n=9)from propext (by omega),show((n:Int)=10)=(n=10)from propext (by omega),show((32:Int)<=n)=(32<=n)from propext (by omega),show((n:Int)<=126)=(n<=126)from propext (by omega)];cases decide (n=9)<;>cases decide (n=10)<;>cases decide (32<=n)<;>cases decide (n<=126)<;>rfl
theorem zW(s):bp Tryz.prog 173 [.d (.v (.string s))] (.d (.v (.bool (dT s)))) 0:=by
 refine bp.b6 (n:=15) (ts:=[2]) Tryz.func173 (by kernel_rfl) Z Tryz.ntmps173 Tryz.results173 Z Z fun C hC O=>aZ 1 Z<|ae<|aZ 1 Z<|W.block<|W.lI (t:=0) Z<|fun hok=>?_;have hlen:=kC hok
 refine W.bY (ι:={x:Nat//match x with|k=>k<=(aX s).length∧((aX s).drop k).all known=(aX s).all known})
  (fun x=>match x.1 with|k=>[(3,.d (.v (.int .i64 ((k:Nat):Int))))]) [(0,_)]
  (fun x=>match x.1 with|k=>[]) [] [] 0 (fun x=>match x.1 with|k=>(aX s).length-k)
  [] ⟨0,?_⟩ Z ?_ ⟨rfl,rfl,trivial⟩ ?_ trivial Z ?_
 ·exact⟨ς _,rfl⟩
 ·repeat' constructor
 ·repeat' exact trivial
 rintro⟨k,N,I⟩;show W _ _ _ _ _ ⟨[(3,.d (.v (.int .i64 ((k:Nat):Int)))),(0,_)],[],[],0⟩;refine ae<|aZ 4 Z<|ct (l:=aX s) (k:=k) Z (by simp[Ex.bE,bh]) N (fun b U hd J=>?_)<|fun he hd=>?_;·
  rw[hd,List.all_cons]at I;refine ah<|qs<|ae<|W.block<|ae<|aa<|aY 2 Z<|pu (ew aW Z Z Z Z (ε _) (fN (by assumption))) Z<|pu (bm Z Z Z (rV ..) Z) Z<|pE Z<|ab<|qs<|ba Z (fun M=>?_)<|fun M=>?_;·
   refine aZ 1 Z<|W.ret<|bw<|bl<|cN<|bw<|bl<|QF.bo trivial Z ?_;simp only[norm,bO];unfold dT;rw[<-I];simp_all
  refine ah<|bW<|qs<|cJ 3 Z<|W.bZ [] ⟨k+1,?_⟩ ?_ Z ?_ ⟨rfl,rfl,trivial⟩ ?_ trivial Z;·exact⟨J,by rw[<-I];simp_all⟩
  ·dsimp only;omega
  ·repeat' first|exact trivial|refine⟨bH (by assumption) (by assumption),?_⟩
  repeat' exact trivial
 rw[hd]at I;refine an<|bL<|bM<|bK<|qs<|aZ 1 Z<|W.ret<|QF.bo trivial Z ?_;simp only[norm,bO];unfold dT;rw[<-I];simp_all
theorem uK(l:List ByteArray)(s):bp Tryz.prog 166 [.d (.sl (l.map sc)),.d (.v (.string s))] (.d (.v (.bool (l.any fun x=>decide (x=s))))) 0:=by
 refine bp.b6 (n:=18) (ts:=[4]) Tryz.func166 (by kernel_rfl) Z Tryz.ntmps166 Tryz.results166 Z Z fun C hC O=>aZ 1 Z<|ae<|aZ 1 Z<|W.block<|W.len (t:=0) Z Z<|fun hlen=>?_;try simp only[η,Ex.bE]at hlen
 refine W.bY (ι:={x:Nat//match x with|k=>k<=l.length∧(l.drop k).any (fun x=>decide (x=s))=l.any (fun x=>decide (x=s))})
  (fun x=>match x.1 with|k=>[(5,.d (.v (.int .i64 ((k:Nat):Int))))]) [(0,_),(1,_)]
  (fun x=>match x.1 with|k=>[]) [] [] 0 (fun x=>match x.1 with|k=>l.length-k)
  [] ⟨0,?_⟩ Z ?_ ⟨rfl,rfl,rfl,rfl,trivial⟩ ?_ trivial Z ?_
 ·exact⟨ς _,by simp⟩
 ·repeat' constructor
 ·repeat' exact trivial
 rintro⟨k,N,I⟩;show W _ _ _ _ _ ⟨[(5,.d (.v (.int .i64 ((k:Nat):Int)))),(0,_),(1,_)],[],[],0⟩;refine ae<|aZ 4 Z<|ct (l:=l) (k:=k) Z (by simp[Ex.bE,bh]) N (fun x U hd J=>?_)<|fun he hd=>?_;·
  rw[hd,List.any_cons]at I;refine ah<|qs<|ae<|W.block<|ae<|aa<|aY 2 Z<|pu (indexAddr aW Z Z Z Z Z Z (ε _) (bF (by assumption)) Z) Z<|aY 3 Z<|ab<|qs<|ba Z (fun M=>?_)<|fun M=>?_;·
   refine aZ 1 Z<|W.ret<|bw<|bl<|cN<|bw<|bl<|QF.bo trivial Z ?_;simp only[norm,bO];rw[<-I];try simp_all
  refine ah<|bW<|qs<|cJ 3 Z<|W.bZ [] ⟨k+1,?_⟩ ?_ Z ?_ ⟨rfl,rfl,rfl,rfl,trivial⟩ ?_ trivial Z;·exact⟨J,by rw[<-I];simp_all⟩
  ·dsimp only;omega
  ·repeat' first|exact trivial|refine⟨bH (by assumption) (by assumption),?_⟩
  repeat' exact trivial
 rw[hd,List.any_nil]at I;refine an<|bL<|bM<|bK<|qs<|aZ 1 Z<|W.ret<|QF.bo trivial Z ?_;simp only[norm,bO];rw[<-I];try simp_all
theorem lS(j:JV)(J:1<=j.op∧j.op<=6):dO j 0=if(j.n≠0∧j.op≠2∧j.op≠3)∨(j.s≠B #[]∧j.op≠4)∨(0<j.kids.length∧j.op≠5∧j.op≠6)then 1
 else if(0<j.keys.length∧j.op≠6)∨(j.op=6∧j.keys.length≠j.kids.length)then 1
 else if(j.op=2∧j.n≠0∧j.n≠1)∨(j.op=3∧fu j.n=false)then 2 else if dT j.s=false then 10 else if(j.keys.any fun s=>!dT s)=true then 10 else if fP [] j.keys=true then 4 else 0:=by
 have I:j.op=1∨j.op=2∨j.op=3∨j.op=4∨j.op=5∨j.op=6:=by omega
 unfold dO dc;clear J;generalize j.op=o at*;generalize j.keys.length=a;generalize j.kids.length=b;by_cases hs:j.s=B #[]<;>by_cases hn:j.n=0<;>by_cases ha:a=0<;>by_cases hb:b=0<;>by_cases hc:a=b<;>rcases I with rfl|rfl|rfl|rfl|rfl|rfl<;>simp[hs,hn,ha,hb,hc,Nat.pos_iff_ne_zero]<;>grind
theorem bj{a b}(h:a=b):A.d (D.v (Value.int .i64 a))=A.d (D.v (Value.int .i64 b)):=by rw[h]
theorem Dd(j:JV)(J:¬(1<=j.op∧j.op<=6)):bp Tryz.prog 151 [.ag j.c] (.d (.v (.int .i64 (dO j 0)))) 0:=by
 rw[ij j];refine bp.b6 (n:=135) (ts:=[2]) Tryz.func151 (by kernel_rfl) Z Tryz.ntmps151 Tryz.results151 Z Z fun C hC M=>ae<|aa<|cG Z Z Z<|pE Z<|ab<|qs<|ae<|aZ 2 Z<|W.block<|ae<|aZ 2 Z<|ba Z (fun I=>?_)<|fun I=>?_;·exfalso;simp at I;omega
 refine aZ 2 Z<|ba Z (fun I=>?_)<|fun I=>?_;·exfalso;simp at I;omega
 refine aZ 2 Z<|ba Z (fun I=>?_)<|fun I=>?_;·exfalso;simp at I;omega
 refine aZ 2 Z<|ba Z (fun I=>?_)<|fun I=>?_;·exfalso;simp at I;omega
 refine aZ 2 Z<|ba Z (fun I=>?_)<|fun I=>?_;·exfalso;simp at I;omega
 refine cJ 2 Z<|qs<|ba Z (fun I=>?_)<|fun I=>?_;·exfalso;simp at I;omega
 refine aZ 1 Z<|W.ret<|bw<|bl<|QF.bo trivial Z<|bj ?_;unfold dO dc;grind
theorem Dr(j:JV)(ho:1<=j.op∧j.op<=6):bp Tryz.prog 151 [.ag j.c] (.d (.v (.int .i64 (dO j 0)))) 0:=by
 rw[ij j]
 refine bp.b6 (n:=135) (ts:=[2]) Tryz.func151 (by kernel_rfl) Z Tryz.ntmps151 Tryz.results151 Z Z fun C hC hG=>ae<|aa<|cG Z Z Z<|pE Z<|ab<|qs<|ae<|aZ 2 Z<|W.kV [(1,.ptr 0 0)] [] [(0,[.d (ci j.op),.d (ci j.n),.d (cs j.s),.d (.sl (j.keys.map sc)),.d (.sl (j.kids.map JV.c))])] [] [] 1 ?_ ?_
 ·
  refine W.block<|ae<|aZ 2 Z<|ba Z (fun h7=>?_)<|fun h7=>?_
  ·
   refine ah (qs (W.gJ Z (ah (bW (cZ [0] Z ?_ trivial ?_ trivial Z)))))
   ·repeat' constructor
   repeat' constructor
  refine aZ 2 Z<|ba Z (fun h7=>?_)<|fun h7=>?_
  ·
   refine ah (qs (W.gJ Z (ah (bW (cZ [0] Z ?_ trivial ?_ trivial Z)))))
   ·repeat' constructor
   repeat' constructor
  refine aZ 2 Z<|ba Z (fun h7=>?_)<|fun h7=>?_
  ·
   refine ah (qs (W.gJ Z (ah (bW (cZ [0] Z ?_ trivial ?_ trivial Z)))))
   ·repeat' constructor
   repeat' constructor
  refine aZ 2 Z<|ba Z (fun h7=>?_)<|fun h7=>?_
  ·
   refine ah (qs (W.gJ Z (ah (bW (cZ [0] Z ?_ trivial ?_ trivial Z)))))
   ·repeat' constructor
   repeat' constructor
  refine aZ 2 Z<|ba Z (fun h7=>?_)<|fun h7=>?_
  ·
   refine ah (qs (W.gJ Z (ah (bW (cZ [0] Z ?_ trivial ?_ trivial Z)))))
   ·repeat' constructor
   repeat' constructor
  refine cJ 2 Z<|qs<|ba Z (fun h7=>?_)<|fun h7=>?_
  ·
   refine ah (bW (cZ [0] Z ?_ trivial ?_ trivial Z))
   ·repeat' constructor
   repeat' constructor
  refine aZ 1 Z<|W.ret<|bw<|K7<|bl<|QF.bo trivial Z<|bj ?_
  first|(rw[lS j ho];(repeat(first|rw[if_pos (by assumption)]|rw[if_neg (by assumption)]));done)|(exfalso;simp only[S']at*;omega)
 refine qs<|ae<|ae<|?_
 apply bC;(case hb=>rfl)
 ·repeat' first|refine b4 rfl rfl rfl|refine bz rfl rfl ?_|refine bA rfl rfl rfl rfl ?_|refine jQ rfl rfl rfl ?_|refine pE rfl ?_|refine ab ?_|(apply bN;(case hj=>rfl);(case hl=>rfl))
 refine qs (ba Z (fun h52=>?_) (fun h52=>?_))
 ·
  have q52:(j.n≠0∧j.op≠2∧j.op≠3)∨(j.s≠B #[]∧j.op≠4)∨(0<j.kids.length∧j.op≠5∧j.op≠6):=by rw[η]at h52;grind
  refine aZ 1 Z<|W.ret<|bl<|QF.bo trivial Z<|bj ?_
  first|(rw[lS j ho];(repeat(first|rw[if_pos (by assumption)]|rw[if_neg (by assumption)]));done)|(exfalso;simp only[S']at*;omega)
 have q52:¬((j.n≠0∧j.op≠2∧j.op≠3)∨(j.s≠B #[]∧j.op≠4)∨(0<j.kids.length∧j.op≠5∧j.op≠6)):=by rw[η]at h52;grind
 clear h52
 refine ah<|qs<|ae<|ae<|?_
 apply bC;(case hb=>rfl)
 ·repeat' first|refine b4 rfl rfl rfl|refine bz rfl rfl ?_|refine bA rfl rfl rfl rfl ?_|refine jQ rfl rfl rfl ?_|refine pE rfl ?_|refine ab ?_|(apply bN;(case hj=>rfl);(case hl=>rfl))
 refine qs (ba Z (fun h75=>?_) (fun h75=>?_))
 ·
  have q75:(0<j.keys.length∧j.op≠6)∨(j.op=6∧j.keys.length≠j.kids.length):=by simp only[η]at h75;grind
  refine aZ 1 Z<|W.ret<|bl<|QF.bo trivial Z<|bj ?_
  first|(rw[lS j ho];(repeat(first|rw[if_pos (by assumption)]|rw[if_neg (by assumption)]));done)|(exfalso;simp only[S']at*;omega)
 have q75:¬((0<j.keys.length∧j.op≠6)∨(j.op=6∧j.keys.length≠j.kids.length)):=by simp only[η]at h75;grind
 clear h75
 refine ah<|qs<|ae<|ae<|?_
 apply bC;(case hb=>rfl)
 ·repeat' first|refine b4 rfl rfl rfl|refine bz rfl rfl ?_|refine bA rfl rfl rfl rfl ?_|refine jQ rfl rfl rfl ?_|refine pE rfl ?_|refine ab ?_|refine pu (bm rfl rfl rfl (JY ..) rfl) rfl ?_|(apply bN;(case hj=>rfl);(case hl=>rfl))
 refine qs (ba Z (fun h99=>?_) (fun h99=>?_))
 ·
  have q99:(j.op=2∧j.n≠0∧j.n≠1)∨(j.op=3∧fu j.n=false):=by grind
  refine aZ 1 Z<|W.ret<|bl<|QF.bo trivial Z<|bj ?_
  first|(rw[lS j ho];(repeat(first|rw[if_pos (by assumption)]|rw[if_neg (by assumption)]));done)|(exfalso;simp only[S']at*;omega)
 have q99:¬((j.op=2∧j.n≠0∧j.n≠1)∨(j.op=3∧fu j.n=false)):=by grind
 clear h99
 refine ah<|qs<|ae<|ae<|aa<|aY 2 Z<|pu (bm Z Z Z (zW ..) Z) Z<|pE Z<|ab<|qs<|ba Z (fun h103=>?_)<|fun h103=>?_
 ·
  have q103:dT j.s=false:=by simpa using h103
  refine aZ 1 Z<|W.ret<|bl<|QF.bo trivial Z<|bj ?_
  first|(rw[lS j ho];(repeat(first|rw[if_pos (by assumption)]|rw[if_neg (by assumption)]));done)|(exfalso;simp only[S']at*;omega)
 have q103:¬dT j.s=false:=by simpa using h103
 clear h103
 refine ah<|qs<|ae<|aZ 1 Z<|W.block<|qC (g:=0) (j:=3) Z Z<|fun hlen=>?_
 rw[η]at hlen
 refine W.bY (ι:={x:Nat//match x with|k=>k<=j.keys.length∧(j.keys.drop k).any (fun s=>!dT s)=j.keys.any (fun s=>!dT s)})
  (fun x=>match x.1 with|k=>[(1,.ptr 0 0),(3,.d (.v (.int .i64 ((k:Nat):Int))))]) []
  (fun x=>match x.1 with|k=>[(0,[.d (ci j.op),.d (ci j.n),.d (cs j.s),.d (.sl (j.keys.map sc)),.d (.sl (j.kids.map JV.c))])]) [] [] 1 (fun x=>match x.1 with|k=>j.keys.length-k)
  [0] ⟨0,?_⟩ rfl ?_ trivial ?_ trivial rfl ?_
 ·exact⟨ς _,by simp⟩
 ·repeat' constructor
 ·repeat' constructor
 rintro⟨k,hk,hI⟩
 show W _ _ _ _ _ ⟨[(1,.ptr 0 0),(3,.d (.v (.int .i64 ((k:Nat):Int))))],[(0,[.d (ci j.op),.d (ci j.n),.d (cs j.s),.d (.sl (j.keys.map sc)),.d (.sl (j.kids.map JV.c))])],[],1⟩
 refine ae<|aZ 5 Z<|ct (l:=j.keys) (k:=k) Z (by simp[Ex.bE,bh]) hk (fun x hx hd hlt=>?_)<|fun he hd=>?_
 ·
  rw[hd,List.any_cons]at hI
  refine ah<|qs<|ae<|W.block<|ae<|aa<|aY 3 Z<|pu (indexAddr aW Z Z Z Z Z Z (ε _) (bF hx) Z) Z<|aY 1 Z<|pu (bm Z Z Z (zW ..) Z) Z<|pE Z<|ab<|qs<|ba Z (fun h117=>?_)<|fun h117=>?_
  ·
   have hb:dT x=false:=by simpa using h117
   rw[hb]at hI
   simp only[Bool.not_false,Bool.true_or]at hI
   have qk:(j.keys.any fun s=>!dT s)=true:=hI.symm
   refine aZ 1 Z<|W.ret<|bw<|bl<|cN<|bw<|bl<|QF.bo trivial Z<|bj ?_
   first|(rw[lS j ho];(repeat(first|rw[if_pos (by assumption)]|rw[if_neg (by assumption)]));done)|(exfalso;simp only[S']at*;omega)
  have hb:dT x=true:=by simpa using h117
  rw[hb]at hI
  simp only[Bool.not_true,Bool.false_or]at hI
  refine ah<|bW<|qs<|cJ 3 Z<|W.bZ [0] ⟨k+1,?_⟩ ?_ Z ?_ trivial ?_ trivial Z
  ·exact⟨hlt,hI⟩
  ·dsimp only;omega
  ·repeat' first|exact trivial|refine⟨rfl,?_⟩|refine⟨bH (by assumption) (by assumption),?_⟩
  repeat' constructor
 rw[hd,List.any_nil]at hI
 have qk:¬(j.keys.any fun s=>!dT s)=true:=by rw[<-hI];simp
 refine an<|bL<|bM<|bK<|qs<|ae<|aZ 1 Z<|W.block<|W.bY (ι:={x:Nat//match x with|k=>k<=j.keys.length∧fP (j.keys.take k) (j.keys.drop k)=fP [] j.keys})
  (fun x=>match x.1 with|k=>[(1,.ptr 0 0),(4,.d (.v (.int .i64 ((k:Nat):Int))))]) []
  (fun x=>match x.1 with|k=>[(0,[.d (ci j.op),.d (ci j.n),.d (cs j.s),.d (.sl (j.keys.map sc)),.d (.sl (j.kids.map JV.c))])]) [] [] 1 (fun x=>match x.1 with|k=>j.keys.length-k)
  [0] ⟨0,?_⟩ rfl ?_ trivial ?_ trivial rfl ?_
 ·exact⟨ς _,by simp⟩
 ·repeat' constructor
 ·repeat' constructor
 rintro⟨k,hk,hR⟩
 show W _ _ _ _ _ ⟨[(1,.ptr 0 0),(4,.d (.v (.int .i64 ((k:Nat):Int))))],[(0,[.d (ci j.op),.d (ci j.n),.d (cs j.s),.d (.sl (j.keys.map sc)),.d (.sl (j.kids.map JV.c))])],[],1⟩
 refine ae<|aZ 5 Z<|ct (l:=j.keys) (k:=k) Z (by simp[Ex.bE,bh]) hk (fun x hx hd hlt=>?_)<|fun he hd=>?_
 ·
  rw[hd]at hR
  simp only[fP]at hR
  have htk:j.keys.take (k+1)=j.keys.take k++[x]:=by rw[Ψ,hx];rfl
  refine ah<|qs<|ae<|W.block<|ae<|W.dK aW (by kernel_rfl)<|bt (ev aW Z) Z<|bt (ev aW Z) Z<|bt (ev aW Z) Z<|bt (LM aW Z Z Z Z Z Z (ε _) (by simp;omega) (by intro y hy;obtain⟨z,_,rfl⟩:=A'.1 hy;rfl)) Z<|bt (ev aW Z) Z<|bt (ev aW Z) Z<|bt (ev aW Z) Z<|bt (indexAddr aW Z Z Z Z Z Z (ε _) (bF hx) Z) Z<|bt (ev aW Z) Z<|bt (bm Z Z Z (by rw[show(((j.keys.map sc).take ((k:Int)).toNat).drop 0)=(j.keys.take k).map sc by rw[Int.toNat_natCast,List.drop_zero,List.map_take]];exact uK _ _) Z) Z<|ao<|qs<|ba Z (fun h134=>?_)<|fun h134=>?_
  ·
   have qr:fP [] j.keys=true:=by rw[if_pos h134]at hR;exact hR.symm
   refine aZ 1 Z<|W.ret<|bw<|bl<|cN<|bw<|bl<|QF.bo trivial Z<|bj ?_
   first|(rw[lS j ho];(repeat(first|rw[if_pos (by assumption)]|rw[if_neg (by assumption)]));done)|(exfalso;simp only[S']at*;omega)
  rw[if_neg (by rw[h134];simp)]at hR
  refine ah<|bW<|qs<|cJ 3 Z<|W.bZ [0] ⟨k+1,?_⟩ ?_ Z ?_ trivial ?_ trivial Z
  ·exact⟨hlt,by rw[htk];exact hR⟩
  ·dsimp only;omega
  ·repeat' first|exact trivial|refine⟨rfl,?_⟩|refine⟨bH (by assumption) (by assumption),?_⟩
  repeat' constructor
 rw[hd]at hR
 simp only[fP]at hR
 have qr:¬fP [] j.keys=true:=by rw[<-hR];simp
 refine an<|bL<|bM<|bK<|qs<|aZ 1 Z<|W.ret<|QF.bo trivial Z<|bj ?_
 first|(rw[lS j ho];(repeat(first|rw[if_pos (by assumption)]|rw[if_neg (by assumption)]));done)|(exfalso;simp only[S']at*;omega)
theorem A2(j:JV):bp Tryz.prog 151 [.ag j.c] (.d (.v (.int .i64 (dO j 0)))) 0:=by
 by_cases ho:1<=j.op∧j.op<=6;·exact Dr j ho
 exact Dd j ho
theorem I6(j:JV)(a):dO j (a+1)=if dO j 0≠0 then dO j 0 else if 5<=j.op∧16<=a then 20 else 0:=by
 have I:(16<a+1)=(16<=a):=propext (by constructor<;>intro h<;>omega);have J:¬(5<=j.op∧(16:Int)<0):=by omega
 unfold dO;simp only[I,if_neg J];by_cases c1:dc j=false;·simp[c1]
 by_cases c2:(j.op=2∧j.n≠0∧j.n≠1)∨(j.op=3∧fu j.n=false);·simp only[if_neg c1,if_pos c2];simp
 by_cases c3:dT j.s=false∨(j.keys.any fun s=>!dT s)=true;·simp only[if_neg c1,if_neg c2,if_pos c3];simp
 by_cases c4:fP [] j.keys=true;·simp only[if_neg c1,if_neg c2,if_neg c3,if_pos c4];simp
 simp only[if_neg c1,if_neg c2,if_neg c3,if_neg c4];simp
theorem Hh(j:JV)(h:dO j 0=0)(h5:j.op≠5)(J:j.op≠6):j.kids=[]∧¬5<=j.op:=by
 have I:dc j=true:=by
  by_cases c1:dc j=false;·unfold dO at h;rw[if_pos c1]at h;cases h
  simpa using c1
 unfold dc at I;rw[if_neg h5,if_neg J]at I;split at I;·simp only[ρ,Δ]at I;exact⟨List.length_eq_zero_iff.1 (by omega),by omega⟩
 split at I;·simp only[ρ,Δ]at I;exact⟨List.length_eq_zero_iff.1 (by omega),by omega⟩
 split at I;·simp only[ρ,Δ]at I;exact⟨List.length_eq_zero_iff.1 (by omega),by omega⟩
 cases I
theorem Hc(j:JV)(a):ck j (a+1)=if dO j 0≠0 then dO j 0 else if j.op≠5∧j.op≠6 then 0 else if 16<=a then 20 else dz j.kids (a+1+1):=by
 rw[gR,I6];by_cases c1:dO j 0=0;·
  have n1:¬dO j 0≠0:=by simp[c1]
  simp only[if_neg n1];by_cases c2:j.op≠5∧j.op≠6;·
   obtain⟨e,I⟩:=Hh j c1 c2.1 c2.2;simp only[if_pos c2,if_neg (show ¬(5<=j.op∧16<=a)from fun h=>I h.1),e];simp[dz]
  have h5:5<=j.op:=by omega
  simp only[if_neg c2];by_cases c3:16<=a;·simp only[if_pos (show 5<=j.op∧16<=a from⟨h5,c3⟩),if_pos c3];simp
  simp only[if_neg (show ¬(5<=j.op∧16<=a)from fun h=>c3 h.2),if_neg c3];simp
 simp only[if_pos (show dO j 0≠0 from c1)]
theorem Dt:∀(j:JV)(a:Int),0<=a->a<=16->bp Tryz.prog 102 [.ag j.c,.d (.v (.int .i64 a))] (.d (.v (.int .i64 (ck j (a+1))))) 0:=by
 refine aH fun j ih=>?_
 intro a h0 h1
 have hfj:=A2 j
 rw[ij j]at hfj⊢
 have hup:=Hc j a
 refine bp.b6 (n:=41) (ts:=[4]) Tryz.func102 (by kernel_rfl) Z Tryz.ntmps102 Tryz.results102 Z Z fun C hC hG=>ae<|aa<|cG Z Z Z<|pE Z<|ab<|qs<|ae<|aa<|aY 1 Z<|pu (bm Z Z Z hfj Z) Z<|pE Z<|ab<|qs<|ae<|aZ 2 Z<|ba Z (fun h11=>?_)<|fun h11=>?_
 ·
  have q11:dO j 0≠0:=by simpa using h11
  rw[if_pos q11]at hup
  refine aZ 2 Z<|W.ret<|bl<|QF.bo trivial Z<|bj ?_
  first|exact hup.symm|(rw[hup,←hI])
 have q11:¬dO j 0≠0:=by simpa using h11
 rw[if_neg q11]at hup
 refine ah<|qs<|ae<|ae<|?_
 apply bC;(case hb=>rfl)
 ·repeat' first|refine b4 rfl rfl rfl|refine bz rfl rfl ?_|refine bA rfl rfl rfl rfl ?_|refine pE rfl ?_|refine ab ?_|(apply bN;(case hj=>rfl);(case hl=>rfl))
 refine qs (ba Z (fun h20=>?_) (fun h20=>?_))
 ·
  have q20:j.op≠5∧j.op≠6:=by revert h20;simp
  rw[if_pos q20]at hup
  refine aZ 1 Z<|W.ret<|bl<|QF.bo trivial Z<|bj ?_
  first|exact hup.symm|(rw[hup,←hI])
 have q20:¬(j.op≠5∧j.op≠6):=by revert h20;simp
 rw[if_neg q20]at hup
 refine ah<|qs<|ae<|aZ 2 Z<|ba Z (fun h22=>?_)<|fun h22=>?_
 ·
  have q22:16<=a:=by simpa using h22
  rw[if_pos q22]at hup
  refine aZ 1 Z<|W.ret<|bl<|QF.bo trivial Z<|bj ?_
  first|exact hup.symm|(rw[hup,←hI])
 have q22:¬16<=a:=by simpa using h22
 rw[if_neg q22]at hup
 refine ah<|qs<|ae<|aZ 1 Z<|W.block<|qC (g:=0) (j:=4) Z Z<|fun hlen=>?_
 rw[η]at hlen
 refine W.bY (ι:={x:Nat//match x with|k=>k<=j.kids.length∧dz (j.kids.drop k) (a+1+1)=dz j.kids (a+1+1)})
  (fun x=>match x.1 with|k=>[(1,.d (.v (.int .i64 a))),(2,.ptr 0 0),(6,.d (.v (.int .i64 ((k:Nat):Int))))]) []
  (fun x=>match x.1 with|k=>[(0,[.d (ci j.op),.d (ci j.n),.d (cs j.s),.d (.sl (j.keys.map sc)),.d (.sl (j.kids.map JV.c))])]) [] [] 1 (fun x=>match x.1 with|k=>j.kids.length-k)
  [0] ⟨0,?_⟩ rfl ?_ trivial ?_ trivial rfl ?_
 ·exact⟨ς _,by simp⟩
 ·repeat' constructor
 ·repeat' constructor
 rintro⟨k,hk,hI⟩
 show W _ _ _ _ _ ⟨[(1,.d (.v (.int .i64 a))),(2,.ptr 0 0),(6,.d (.v (.int .i64 ((k:Nat):Int))))],[(0,[.d (ci j.op),.d (ci j.n),.d (cs j.s),.d (.sl (j.keys.map sc)),.d (.sl (j.kids.map JV.c))])],[],1⟩
 refine ae<|aZ 5 Z<|ct (l:=j.kids) (k:=k) Z (by simp[Ex.bE,bh]) hk (fun z hx hd hlt=>?_)<|fun he hd=>?_
 ·
  rw[hd]at hI
  simp only[dz]at hI
  have hxc:=ih z (ζ hx) (a+1) (by omega) (by omega)
  refine ah<|qs<|ae<|W.block<|ae<|aa<|aY 3 Z<|pu (indexAddr aW Z Z Z Z Z Z (ε _) (bF hx) Z) Z<|aY 2 Z<|pu (b5 (ev aW Z) (wrap64 (by omega))) Z<|pu (bm Z Z Z hxc Z) Z<|pE Z<|ab<|qs<|aZ 2 Z<|ba Z (fun h39=>?_)<|fun h39=>?_
  ·
   have hc:ck z (a+1+1)≠0:=by simpa using h39
   rw[if_pos hc]at hI
   refine aZ 2 Z<|W.ret<|bw<|bl<|cN<|bw<|bl<|QF.bo trivial Z<|bj ?_
   first|exact hup.symm|(rw[hup,←hI])
  have hc:ck z (a+1+1)=0:=by simpa using h39
  rw[if_neg (by simp[hc])]at hI
  refine ah<|bW<|qs<|cJ 3 Z<|W.bZ [0] ⟨k+1,?_⟩ ?_ Z ?_ trivial ?_ trivial Z
  ·exact⟨hlt,hI⟩
  ·dsimp only;omega
  ·repeat' first|exact trivial|refine⟨rfl,?_⟩|refine⟨bH (by assumption) (by assumption),?_⟩
  repeat' constructor
 rw[hd]at hI
 simp only[dz]at hI
 refine an<|bL<|bM<|bK<|qs<|aZ 1 Z<|W.ret<|QF.bo trivial Z<|bj ?_
 first|exact hup.symm|(rw[hup,←hI])
theorem ES(j:JV):bp Tryz.prog 60 [.ag j.c] (.d (.v (.int .i64 (ck j 1)))) 0:=by have h:=Dt j 0 (by omega) (by omega);rw[ij j]at h⊢;refine bp.b6 (n:=5) (ts:=[2]) Tryz.func60 (by kernel_rfl) Z Tryz.ntmps60 Tryz.results60 Z Z fun C hC I=>?_;refine ae (aa (cG Z Z Z (pE Z (ab (qs (ae (aa (aY 1 Z ?_))))))));refine pu (bm Z Z Z h Z) Z ?_;refine pE Z (ab (qs (W.ret (QF.bo trivial Z ?_))));rfl
theorem xF(j:JV):bp Tryz.prog 50 [.ag j.c] (.d (.v (.int .i64 (ck j 1)))) 0:=by have h:=Fq j 1 (by omega) (by omega);rw[ij j]at h⊢;refine bp.b6 (n:=5) (ts:=[2]) Tryz.func50 (by kernel_rfl) Z Tryz.ntmps50 Tryz.results50 Z Z fun C hC I=>?_;refine ae (aa (cG Z Z Z (pE Z (ab (qs (ae (aa (aY 1 Z ?_))))))));refine pu (bm Z Z Z h Z) Z ?_;refine pE Z (ab (qs (W.ret (QF.bo trivial Z ?_))));rfl
def oJ(o:Option JV):JV:=o.getD cR
theorem BG{j:JV}{key}(h:j.op≠6):cM j key=none:=by unfold cM;rw[if_neg h]
theorem uT{j:JV}{key}(h:j.op=6)(hi:(j.keys.findIdx? fun x=>decide (key=x))=some k):cM j key=j.kids[k]?:=by unfold cM;rw[if_pos h,hi]
theorem yf{j:JV}{key}(hi:(j.keys.findIdx? fun x=>decide (key=x))=none):cM j key=none:=by unfold cM;rw[hi];simp
theorem qw(j:JV)(key):bp Tryz.prog 62 [.ag j.c,.d (.v (.string key))] (.tup [.ag (oJ (cM j key)).c,.d (.v (.bool (cM j key).isSome))]) 0:=by
 rw[ij j]
 refine bp.dk aW (n:=37) (rs:=[.cell 4 46,.tmp 5]) Tryz.func62 (by kernel_rfl) Z Tryz.ntmps62 Tryz.results62 Z fun C hC hG=>ae<|aa<|cG Z Z Z<|bT aW Z Z Z<|pE Z<|ab<|qs<|ae<|aZ 3 Z<|ba Z (fun h9=>?_)<|fun h9=>?_
 ·
  have hg:cM j key=none:=BG (by simpa using h9)
  refine ae (aa (pu (build aW Z Z Z Z) Z ?_))
  try refine gx 10 rfl rfl rfl ?_
  refine be aW Z Z Z Z Z Z Z Z (pE Z (ab (qs (W.ret (bl (QV.bo aW trivial Z ?_))))))
  rw[hg];rfl
 have hop:j.op=6:=by simpa using h9
 refine ah<|qs<|ae<|aZ 1 Z<|W.block<|qC (g:=0) (j:=3) Z Z<|fun hlen=>?_
 rw[η]at hlen
 refine W.bY (ι:={x:Nat//match x with|k=>k<=j.keys.length∧((j.keys.drop k).findIdx? fun x=>decide (key=x)).map (fun i=>i+k)=(j.keys.findIdx? fun x=>decide (key=x))})
  (fun x=>match x.1 with|k=>[(1,.d (.v (.string key))),(2,.ptr 0 0),(4,.ptr 1 0),(6,.d (.v (.int .i64 ((k:Nat):Int))))]) []
  (fun x=>match x.1 with|k=>[(0,[.d (ci j.op),.d (ci j.n),.d (cs j.s),.d (.sl (j.keys.map sc)),.d (.sl (j.kids.map JV.c))])]) [(1,_)] [] 2 (fun x=>match x.1 with|k=>j.keys.length-k)
  [0,1] ⟨0,?_⟩ rfl ?_ trivial ?_ ⟨rfl,rfl,trivial⟩ rfl ?_
 ·exact⟨ς _,by simp⟩
 ·repeat' constructor
 ·repeat' constructor
 rintro⟨k,hk,hI⟩
 show W _ _ _ _ _ ⟨[(1,.d (.v (.string key))),(2,.ptr 0 0),(4,.ptr 1 0),(6,.d (.v (.int .i64 ((k:Nat):Int))))],[(0,[.d (ci j.op),.d (ci j.n),.d (cs j.s),.d (.sl (j.keys.map sc)),.d (.sl (j.kids.map JV.c))]),(1,_)],[],2⟩
 refine ae<|aZ 5 Z<|ct (l:=j.keys) (k:=k) Z (by simp[Ex.bE,bh]) hk (fun x hx hd hlt=>?_)<|fun he hd=>?_
 ·
  rw[hd,List.findIdx?_cons]at hI
  refine ah<|qs<|ae<|W.block<|ae<|aa<|aY 3 Z<|pu (indexAddr aW Z Z Z Z Z Z (ε _) (bF hx) Z) Z<|aY 3 Z<|ab<|qs<|ba Z (fun h24=>?_)<|fun h24=>?_
  ·
   have hi:(j.keys.findIdx? fun x=>decide (key=x))=some k:=by rw[<-hI,if_pos (by simp at h24⊢;exact h24.symm)];simp
   have hgi:=uT hop hi
   refine ae<|aZ 5 Z<|ba Z (fun h29=>?_)<|fun h29=>?_
   ·
    have hg:cM j key=none:=by rw[hgi];simp at h29⊢;omega
    refine ae (aa (pu (build aW Z Z Z Z) Z ?_))
    try refine gx 30 rfl rfl rfl ?_
    refine be aW Z Z Z Z Z Z Z Z (pE Z (ab (qs (W.ret (bl (bw (bl (cN (bw (bl (QV.bo aW trivial Z ?_)))))))))))
    rw[hg];rfl
   obtain⟨y,hy⟩:∃y,j.kids[k]?=some y:=by simp at h29;exact⟨j.kids[k],by simp[h29]⟩
   have hg:cM j key=some y:=by rw[hgi,hy]
   refine ah<|qs<|ae<|aa<|aY 3 Z<|pu (indexAddr (l:=y.c) aW Z Z Z Z Z Z (ε _) (bF hy) Z) Z<|aY 1 Z<|be aW Z Z Z Z Z Z Z Z<|pE Z<|ab<|qs<|W.ret<|bw<|bl<|cN<|bw<|bl<|QV.bo aW trivial Z ?_
   rw[hg];rfl
  rw[if_neg (by simp at h24⊢;exact fun e=>h24 e.symm)]at hI
  refine ah<|bW<|qs<|cJ 3 Z<|W.bZ [0,1] ⟨k+1,?_⟩ ?_ Z ?_ trivial ?_ ⟨rfl,rfl,trivial⟩ Z
  ·exact⟨hlt,by rw[<-hI,Option.map_map];exact congrArg (fun f=>Option.map f _) (funext fun i=>(by show i+(k+1)=i+1+k;omega))⟩
  ·dsimp only;omega
  ·repeat' first|exact trivial|refine⟨rfl,?_⟩|refine⟨bH (by assumption) (by assumption),?_⟩
  repeat' constructor
 rw[hd]at hI
 have hg:cM j key=none:=yf (by rw[<-hI];rfl)
 refine an (bL (bM (bK (qs (ae (aa (pu (build aW Z Z Z Z) Z ?_)))))))
 try refine gx 36 rfl rfl rfl ?_
 refine be aW Z Z Z Z Z Z Z Z (pE Z (ab (qs (W.ret (QV.bo aW trivial Z ?_)))))
 rw[hg];rfl
theorem Jc(j:JV)(key):bp Tryz.prog 96 [.ag j.c,.d (.v (.string key))] (.tup [.ag (oJ (cM j key)).c,.d (.v (.bool (cM j key).isSome))]) 0:=by
 rw[ij j];refine bp.dk aW (n:=31) (rs:=[.cell 4 46,.tmp 5]) Tryz.func96 (by kernel_rfl) Z Tryz.ntmps96 Tryz.results96 Z fun C hC U=>ae<|aa<|cG Z Z Z<|bT aW Z Z Z<|pE Z<|ab<|qs<|ae<|aa<|aY 3 Z<|pu (bm Z Z Z (yV j.keys key) Z) Z<|pE Z<|ab<|qs<|ae<|ae<|?_
 apply bC;(case hb=>rfl);·repeat' first|refine b4 Z Z Z|refine bz Z Z ?_|refine bA Z Z Z Z ?_|refine pE Z ?_|refine ab ?_|(apply bN;(case hj=>rfl);(case hl=>rfl))
 refine qs (ba Z (fun I=>?_) (fun I=>?_));·
  have M:cM j key=none:=by
   by_cases ho:j.op=6;·
    cases hi:(j.keys.findIdx? fun x=>decide (key=x))with
    |none=>exact yf hi
    |some k=>rw[uT ho hi];rw[hi,show idx (some k)=(k:Int)from rfl]at I;simp[ho]at I⊢;omega
   exact BG ho
  refine ae (aa (pu (build aW Z Z Z Z) Z ?_));try refine gx 25 Z Z Z ?_
  refine be aW Z Z Z Z Z Z Z Z (pE Z (ab (qs (W.ret (bl (QV.bo aW trivial Z ?_))))));rw[M];rfl
 obtain⟨k,y,N,O,M⟩:∃(k:Nat)(y:JV),idx (j.keys.findIdx? fun x=>decide (key=x))=(k:Int)∧j.kids[k]?=some y∧cM j key=some y:=by
  by_cases ho:j.op=6;·
   cases hi:(j.keys.findIdx? fun x=>decide (key=x))with
   |none=>rw[hi]at I;simp[idx]at I
   |some k=>
    rw[hi]at I;rw[show idx (some k)=(k:Int)from rfl]at I;have J:k<j.kids.length:=by simp[ho]at I;omega
    exact⟨k,j.kids[k],rfl,by simp[J],by rw[uT ho hi];simp[J]⟩
  simp[ho]at I
 rw[N];refine ah<|qs<|ae<|aa<|aY 3 Z<|pu (indexAddr (l:=y.c) aW Z Z Z Z Z Z (ε _) (bF O) Z) Z<|aY 1 Z<|be aW Z Z Z Z Z Z Z Z<|pE Z<|ab<|qs<|W.ret<|QV.bo aW trivial Z ?_;rw[M];rfl
theorem pr:bp Tryz.prog 53 [] (.d (.sl (hZ.map Fm.c))) 0:=by refine bp.b6 (n:=14) (ts:=[0]) Tryz.func53 (by kernel_rfl) Z Tryz.ntmps53 Tryz.results53 Z Z fun C hC I=>?_;refine aZ 1 Z ?_;refine ae (aa (pu (build aW Z Z Z Z) Z ?_));refine pu (build aW Z Z Z Z) Z ?_;refine pu (build aW Z Z Z Z) Z ?_;refine pu (build aW Z Z Z Z) Z ?_;refine pu (build aW Z Z Z Z) Z ?_;refine pu (build aW Z Z Z Z) Z ?_;refine pu (build aW Z Z Z Z) Z ?_;refine pu (build aW Z Z Z Z) Z ?_;refine pu (build aW Z Z Z Z) Z ?_;refine pu (build aW Z Z Z Z) Z ?_;refine pu (build aW Z Z Z Z) Z ?_;refine pu (build aW Z Z Z Z) Z ?_;refine pu (bR aW Z Z Z Z Z Z Z Z Z) Z ?_;refine pE Z (ab (qs (W.ret (QF.bo trivial Z ?_))));rfl
theorem vP(fid caps)(I:Still caps)(p:Fm->Bool)(hp:∀x:Fm,bp Tryz.prog fid (.ag x.c::caps) (.d (.v (.bool (p x)))) 0)(l:List Fm):
 bp Tryz.prog 52 [.d (.sl (l.map Fm.c)),.clo fid caps] (.d (.v (.int .i64 (idx (l.findIdx? p))))) 0:=by
 refine bp.b6 (n:=19) (ts:=[4]) Tryz.func52 (by kernel_rfl) Z Tryz.ntmps52 Tryz.results52 Z Z fun C hC X=>aZ 1 Z<|ae<|aZ 3 Z<|W.block<|W.len (t:=0) Z Z<|fun hlen=>?_;try simp only[η,Ex.bE]at hlen
 refine W.bY (ι:={x:Nat//match x with|k=>k<=l.length∧cX p l k})
  (fun x=>match x.1 with|k=>[(8,.d (.v (.int .i64 ((k:Nat):Int))))]) [(0,_),(1,_),(7,_)]
  (fun x=>match x.1 with|k=>[]) [] [] 0 (fun x=>match x.1 with|k=>l.length-k)
  [] ⟨0,?_⟩ Z ?_ ⟨rfl,(by first|rfl|exact I.2),rfl,(by first|rfl|exact I.2),rfl,(by first|rfl|exact I.2),trivial⟩ ?_ trivial Z ?_
 ·exact⟨ς _,cX.zero⟩
 ·repeat' constructor
 ·repeat' exact trivial
 rintro⟨k,U,M⟩;show W _ _ _ _ _ ⟨[(8,.d (.v (.int .i64 ((k:Nat):Int)))),(0,_),(1,_),(7,_)],[],[],0⟩;refine aZ 1 Z<|ae<|ct (l:=l) (k:=k) Z (by simp[Ex.bE,bh]) U (fun x N hd O=>?_)<|fun he hd=>?_;·
  refine ah<|qs<|ae<|W.block<|aZ 2 Z<|ae<|aa<|aY 3 Z<|pu (indexAddr aW Z Z Z Z Z Z (ε _) (bF (by assumption)) Z) Z<|aY 1 Z<|pu (bm Z Z (by rw[I',I.1 _ 3];rfl) (hp x) Z) Z<|ab<|qs<|ba Z (fun J=>?_)<|fun J=>?_;·
   refine aZ 2 Z<|W.ret<|bw<|bl<|cN<|bw<|bl<|QF.bo trivial Z ?_;simp only[norm,bO];rw[M.found N J];rfl
  refine ah<|bW<|qs<|cJ 2 Z<|W.bZ [] ⟨k+1,?_⟩ ?_ Z ?_ ⟨rfl,(by first|rfl|exact I.2),rfl,(by first|rfl|exact I.2),rfl,(by first|rfl|exact I.2),trivial⟩ ?_ trivial Z;·exact⟨O,M.step N J⟩
  ·dsimp only;omega
  ·repeat' first|exact trivial|refine⟨bH (by assumption) (by assumption),?_⟩
  repeat' exact trivial
 refine an<|bL<|bM<|bK<|qs<|aZ 1 Z<|W.ret<|QF.bo trivial Z ?_;simp only[norm,bO];rw[M.end_ he];rfl
theorem IM(ph)(f:Fm):bp Tryz.prog 54 [.ag f.c,.row [.d (.v (.string ph))]] (.d (.v (.bool (decide (f.ph=ph))))) 0:=by refine bp.b6 (n:=8) (ts:=[3]) Tryz.func54 (by kernel_rfl) Z Tryz.ntmps54 Tryz.results54 Z Z fun C hC I=>?_;refine ae (aa (cG Z Z Z (pE Z (ab (qs (aZ 5 Z ?_))))));refine W.ret (QF.bo trivial Z ?_);rfl
theorem EA(e:Ev)(f:Fm):bp Tryz.prog 88 [.ag f.c,.row (e.c.map A.d)] (.d (.v (.bool (decide (f.kind=e.kind))))) 0:=by refine bp.b6 (n:=9) (ts:=[3]) Tryz.func88 (by kernel_rfl) Z Tryz.ntmps88 Tryz.results88 Z Z fun C hC I=>?_;refine ae (aa (cG Z Z Z (pE Z (ab (qs (aZ 6 Z ?_))))));refine W.ret (QF.bo trivial Z ?_);rfl
theorem wQ(f:Fm)(on):bp Tryz.prog 58 [.ag f.c,.d (.v (.bool on))] (.d (.sl ((fz f on).map sc))) 0:=by
 refine bp.b6 (n:=47) (ts:=[4]) Tryz.func58 (by kernel_rfl) Z Tryz.ntmps58 Tryz.results58 Z Z fun C hC U=>ae<|aa<|cG Z Z Z<|pE Z<|ab<|qs<|ae<|aa<|pu (Ir aW Z Z Z Z Z Z Z Z Z) Z<|pE Z<|ab<|qs<|ae<|aZ 2 Z<|ba Z (fun O=>?_)<|fun O=>?_;·
  refine aa<|pE Z<|pu (bR aW Z Z Z Z Z Z Z Z Z) Z<|zU aW Z Z Z Z Z Z Z Z Z Z Z Z (lK Z) (κ Z)<|pE Z<|ab<|qs<|ae<|aa<|pE Z<|pu (bR aW Z Z Z Z Z Z Z Z Z) Z<|jz aW Z Z Z Z Z Z Z Z Z Z Z Z Z Z<|pE Z<|ab<|qs<|ae<|aZ 2 Z<|W.block<|aZ 2 Z<|ba Z (fun J=>?_)<|fun J=>?_;·
   refine ae<|aa<|pE Z<|pu (bR aW Z Z Z Z Z Z Z Z Z) Z<|jz aW Z Z Z Z Z Z Z Z Z Z Z Z Z Z<|pE Z<|ab<|qs<|W.ret<|bw<|bl<|QF.bo trivial Z ?_;simp only[norm,bO,fz];simp_all[pP,pN,cw,e8,de,cb,eA,cg,dy,gV,ee];try exact if_neg (fun h=>by have:=I h.1;rw[this]at h;cases h.2)
  refine aZ 2 Z<|ba Z (fun M=>?_)<|fun M=>?_;·
   refine ae<|aa<|pE Z<|pu (bR aW Z Z Z Z Z Z Z Z Z) Z<|jz aW Z Z Z Z Z Z Z Z Z Z Z Z Z Z<|pE Z<|ab<|qs<|W.ret<|bw<|bl<|QF.bo trivial Z ?_;simp only[norm,bO,fz];simp_all[pP,pN,cw,e8,de,cb,eA,cg,dy,gV,ee];try exact if_neg (fun h=>by have:=I h.1;rw[this]at h;cases h.2)
  refine ah<|bW<|qs<|ae<|aZ 3 Z<|ba Z (fun N=>?_)<|fun N=>?_;·
   refine aa<|aY 3 Z<|pu (bR aW Z Z Z Z Z Z Z Z Z) Z<|jz aW Z Z Z Z Z Z Z Z Z Z Z Z Z Z<|pE Z<|ab<|qs<|ae<|ae<|?_
   apply bC;(case hb=>rfl);·repeat' first|refine b4 Z Z Z|refine bz Z Z ?_|refine bA Z Z Z Z ?_|refine pE Z ?_|refine ab ?_|(apply bN;(case hj=>rfl);(case hl=>rfl))
   refine qs (ba Z (fun I=>?_) (fun I=>?_));·
    refine aa<|aY 3 Z<|pu (bR aW Z Z Z Z Z Z Z Z Z) Z<|jz aW Z Z Z Z Z Z Z Z Z Z Z Z Z Z<|pE Z<|ab<|qs<|aZ 2 Z<|W.ret<|QF.bo trivial Z ?_;simp only[norm,bO,fz];simp_all[pP,pN,cw,e8,de,cb,eA,cg,dy,gV,ee];try exact if_neg (fun h=>by have:=I h.1;rw[this]at h;cases h.2)
   refine ah<|qs<|aZ 2 Z<|W.ret<|QF.bo trivial Z ?_;simp only[norm,bO,fz];simp_all[pP,pN,cw,e8,de,cb,eA,cg,dy,gV,ee];try exact if_neg (fun h=>by have:=I h.1;rw[this]at h;cases h.2)
  refine ah<|qs<|ae<|ae<|?_
  apply bC;(case hb=>rfl);·repeat' first|refine b4 Z Z Z|refine bz Z Z ?_|refine bA Z Z Z Z ?_|refine pE Z ?_|refine ab ?_|(apply bN;(case hj=>rfl);(case hl=>rfl))
  refine qs (ba Z (fun I=>?_) (fun I=>?_));·
   refine aa<|aY 3 Z<|pu (bR aW Z Z Z Z Z Z Z Z Z) Z<|jz aW Z Z Z Z Z Z Z Z Z Z Z Z Z Z<|pE Z<|ab<|qs<|aZ 2 Z<|W.ret<|QF.bo trivial Z ?_;simp only[norm,bO,fz];simp_all[pP,pN,cw,e8,de,cb,eA,cg,dy,gV,ee];try exact if_neg (fun h=>by have:=I h.1;rw[this]at h;cases h.2)
  refine ah<|qs<|aZ 2 Z<|W.ret<|QF.bo trivial Z ?_;simp only[norm,bO,fz];simp_all[pP,pN,cw,e8,de,cb,eA,cg,dy,gV,ee];try exact if_neg (fun h=>by have:=I h.1;rw[this]at h;cases h.2)
 refine ah<|qs<|ae<|aa<|pE Z<|pu (bR aW Z Z Z Z Z Z Z Z Z) Z<|zU aW Z Z Z Z Z Z Z Z Z Z Z Z (lK Z) (κ Z)<|pE Z<|ab<|qs<|ae<|aZ 2 Z<|W.block<|aZ 2 Z<|ba Z (fun J=>?_)<|fun J=>?_;·
  refine ae<|aa<|pE Z<|pu (bR aW Z Z Z Z Z Z Z Z Z) Z<|jz aW Z Z Z Z Z Z Z Z Z Z Z Z Z Z<|pE Z<|ab<|qs<|W.ret<|bw<|bl<|QF.bo trivial Z ?_;simp only[norm,bO,fz];simp_all[pP,pN,cw,e8,de,cb,eA,cg,dy,gV,ee];try exact if_neg (fun h=>by have:=I h.1;rw[this]at h;cases h.2)
 refine aZ 2 Z<|ba Z (fun M=>?_)<|fun M=>?_;·
  refine ae<|aa<|pE Z<|pu (bR aW Z Z Z Z Z Z Z Z Z) Z<|jz aW Z Z Z Z Z Z Z Z Z Z Z Z Z Z<|pE Z<|ab<|qs<|W.ret<|bw<|bl<|QF.bo trivial Z ?_;simp only[norm,bO,fz];simp_all[pP,pN,cw,e8,de,cb,eA,cg,dy,gV,ee];try exact if_neg (fun h=>by have:=I h.1;rw[this]at h;cases h.2)
 refine ah<|bW<|qs<|ae<|aZ 3 Z<|ba Z (fun N=>?_)<|fun N=>?_;·
  refine aa<|aY 3 Z<|pu (bR aW Z Z Z Z Z Z Z Z Z) Z<|jz aW Z Z Z Z Z Z Z Z Z Z Z Z Z Z<|pE Z<|ab<|qs<|ae<|ae<|?_
  apply bC;(case hb=>rfl);·repeat' first|refine b4 Z Z Z|refine bz Z Z ?_|refine bA Z Z Z Z ?_|refine pE Z ?_|refine ab ?_|(apply bN;(case hj=>rfl);(case hl=>rfl))
  refine qs (ba Z (fun I=>?_) (fun I=>?_));·
   refine aa<|aY 3 Z<|pu (bR aW Z Z Z Z Z Z Z Z Z) Z<|jz aW Z Z Z Z Z Z Z Z Z Z Z Z Z Z<|pE Z<|ab<|qs<|aZ 2 Z<|W.ret<|QF.bo trivial Z ?_;simp only[norm,bO,fz];simp_all[pP,pN,cw,e8,de,cb,eA,cg,dy,gV,ee];try exact if_neg (fun h=>by have:=I h.1;rw[this]at h;cases h.2)
  refine ah<|qs<|aZ 2 Z<|W.ret<|QF.bo trivial Z ?_;simp only[norm,bO,fz];simp_all[pP,pN,cw,e8,de,cb,eA,cg,dy,gV,ee];try exact if_neg (fun h=>by have:=I h.1;rw[this]at h;cases h.2)
 refine ah<|qs<|ae<|ae<|?_
 apply bC;(case hb=>rfl);·repeat' first|refine b4 Z Z Z|refine bz Z Z ?_|refine bA Z Z Z Z ?_|refine pE Z ?_|refine ab ?_|(apply bN;(case hj=>rfl);(case hl=>rfl))
 refine qs (ba Z (fun I=>?_) (fun I=>?_));·
  refine aa<|aY 3 Z<|pu (bR aW Z Z Z Z Z Z Z Z Z) Z<|jz aW Z Z Z Z Z Z Z Z Z Z Z Z Z Z<|pE Z<|ab<|qs<|aZ 2 Z<|W.ret<|QF.bo trivial Z ?_;simp only[norm,bO,fz];simp_all[pP,pN,cw,e8,de,cb,eA,cg,dy,gV,ee];try exact if_neg (fun h=>by have:=I h.1;rw[this]at h;cases h.2)
 refine ah<|qs<|aZ 2 Z<|W.ret<|QF.bo trivial Z ?_;simp only[norm,bO,fz];simp_all[pP,pN,cw,e8,de,cb,eA,cg,dy,gV,ee];try exact if_neg (fun h=>by have:=I h.1;rw[this]at h;cases h.2)
def Ft(caps:List A):Prop:=(∀bx k,caps.map (conv bx (k+3))=caps)∧l6 caps=true
theorem Du(fid caps)(I:Ft caps)(p)(hp:∀x:ByteArray,bp Tryz.prog fid (.d (.v (.string x))::caps) (.d (.v (.bool (p x)))) 0)(l:List ByteArray):
 bp Tryz.prog 148 [.d (.sl (l.map sc)),.clo fid caps] (.d (.v (.int .i64 (idx (l.findIdx? p))))) 0:=by
 refine bp.b6 (n:=19) (ts:=[4]) Tryz.func148 (by kernel_rfl) Z Tryz.ntmps148 Tryz.results148 Z Z fun C hC X=>aZ 1 Z<|ae<|aZ 3 Z<|W.block<|W.len (t:=0) Z Z<|fun hlen=>?_;try simp only[η,Ex.bE]at hlen
 refine W.bY (ι:={x:Nat//match x with|k=>k<=l.length∧cX p l k})
  (fun x=>match x.1 with|k=>[(8,.d (.v (.int .i64 ((k:Nat):Int))))]) [(0,_),(1,_),(7,_)]
  (fun x=>match x.1 with|k=>[]) [] [] 0 (fun x=>match x.1 with|k=>l.length-k)
  [] ⟨0,?_⟩ Z ?_ ⟨rfl,(by first|rfl|exact I.2),rfl,(by first|rfl|exact I.2),rfl,(by first|rfl|exact I.2),trivial⟩ ?_ trivial Z ?_
 ·exact⟨ς _,cX.zero⟩
 ·repeat' constructor
 ·repeat' exact trivial
 rintro⟨k,U,M⟩;show W _ _ _ _ _ ⟨[(8,.d (.v (.int .i64 ((k:Nat):Int)))),(0,_),(1,_),(7,_)],[],[],0⟩;refine aZ 1 Z<|ae<|ct (l:=l) (k:=k) Z (by simp[Ex.bE,bh]) U (fun x N hd O=>?_)<|fun he hd=>?_;·
  refine ah<|qs<|ae<|W.block<|aZ 2 Z<|ae<|aa<|aY 3 Z<|pu (indexAddr aW Z Z Z Z Z Z (ε _) (bF (by assumption)) Z) Z<|aY 1 Z<|pu (bm Z Z (by rw[I',I.1 _ 2];rfl) (hp x) Z) Z<|ab<|qs<|ba Z (fun J=>?_)<|fun J=>?_;·
   refine aZ 2 Z<|W.ret<|bw<|bl<|cN<|bw<|bl<|QF.bo trivial Z ?_;simp only[norm,bO];rw[M.found N J];rfl
  refine ah<|bW<|qs<|cJ 2 Z<|W.bZ [] ⟨k+1,?_⟩ ?_ Z ?_ ⟨rfl,(by first|rfl|exact I.2),rfl,(by first|rfl|exact I.2),rfl,(by first|rfl|exact I.2),trivial⟩ ?_ trivial Z;·exact⟨O,M.step N J⟩
  ·dsimp only;omega
  ·repeat' first|exact trivial|refine⟨bH (by assumption) (by assumption),?_⟩
  repeat' exact trivial
 refine an<|bL<|bM<|bK<|qs<|aZ 1 Z<|W.ret<|QF.bo trivial Z ?_;simp only[norm,bO];rw[M.end_ he];rfl
theorem vF(fid caps)(I:Ft caps)(p)(hp:∀x:ByteArray,bp Tryz.prog fid (.d (.v (.string x))::caps) (.d (.v (.bool (p x)))) 0)(l:List ByteArray):
 bp Tryz.prog 97 [.d (.sl (l.map sc)),.clo fid caps] (.d (.v (.bool (l.any p)))) 0:=by
 refine bp.b6 (n:=9) (ts:=[4]) Tryz.func97 (by kernel_rfl) Z Tryz.ntmps97 Tryz.results97 Z Z fun C hC J=>aZ 1 Z<|ae<|aa<|aY 2 Z<|pu (bm (args:=[.d (.sl (l.map sc)),.clo fid caps]) Z Z (by simp[conv,I.1 _ 1]) (Du fid caps I p hp l) Z) Z<|aY 2 Z<|ab<|qs<|W.ret<|QF.bo trivial Z ?_;simp only[norm,bO];rw[<-mf]
abbrev obj(j:JV)(bad:Bool):List A:=[.d (ci j.op),.d (ci j.n),.d (cs j.s),.d (.sl (j.keys.map sc)),.d (.sl j.kc),.d (.v (.bool bad))]
theorem F6(j:JV)(bad k):bp Tryz.prog 98 [.d (.v (.string k)),.row [.row (obj j bad)]] (.d (.v (.bool (!j.keys.any fun x=>decide (k=x))))) 0:=by refine bp.b6 (n:=12) (ts:=[3]) Tryz.func98 (by kernel_rfl) Z Tryz.ntmps98 Tryz.results98 Z Z fun C hC I=>?_;refine aZ 1 Z ?_;refine ae (aa (aY 6 Z ?_));refine pu (bm Z Z Z (Bl ..) Z) Z ?_;refine aY 2 Z ?_;refine ab (qs (W.ret (QF.bo trivial Z ?_)));rfl
theorem vg(j:JV):bp Tryz.prog 28 [.ag j.c] (.tup [.d (cs (cP j)),.d (ci (cB j)),.d (.v (.bool (!gk j)))]) 0:=by
 refine bp.b6 (n:=54) (ts:=[2,3,4]) Tryz.func28 (by kernel_rfl) Z Tryz.ntmps28 Tryz.results28 Z Z fun C hC J=>ae<|aa<|cG Z Z Z<|aY 3 Z<|ab<|qs<|ae<|aa<|aY 1 Z<|pu (bm Z Z Z (qw j e8) Z) Z<|aY 3 Z<|bT aW Z Z Z<|be aW Z Z Z Z Z Z Z Z<|pE Z<|ab<|qs<|ae<|aa<|aY 1 Z<|pu (bm Z Z Z (qw j de) Z) Z<|aY 3 Z<|bT aW Z Z Z<|be aW Z Z Z Z Z Z Z Z<|pE Z<|ab<|qs<|ae<|ae<|?_
 apply bC;(case hb=>rfl);·repeat' first|refine b4 Z Z Z|refine bz Z Z ?_|refine bA Z Z Z Z ?_|refine pE Z ?_|refine ab ?_|(apply bN;(case hj=>rfl);(case hl=>rfl))
 refine qs (ba Z (fun I=>?_) (fun I=>?_));·
  have hb:gk j=true:=I;refine aZ 3 Z<|W.ret<|bl<|QF.bo trivial Z ?_;simp only[cP,cB,hb];rfl
 have hb:gk j=false:=I;refine ah<|qs<|ae<|W.dK aW (by kernel_rfl)<|bt (ev aW Z) Z<|bt (ev aW Z) Z<|bt (ev aW Z) Z<|bt (ev aW Z) Z<|bt (ev aW Z) Z<|bt (ev aW Z) Z<|bt (ev aW Z) Z<|ao ?_
 refine qs (W.ret (QF.bo trivial Z ?_));simp only[cP,cB,hb];rfl
theorem EE:∀{k:Nat},k<12->∃f,hZ[k]?=some f∧zT.extract k (k+1)=f.ph
 |0,_=>⟨_,rfl,by decide+kernel⟩
 |1,_=>⟨_,rfl,by decide+kernel⟩
 |2,_=>⟨_,rfl,by decide+kernel⟩
 |3,_=>⟨_,rfl,by decide+kernel⟩
 |4,_=>⟨_,rfl,by decide+kernel⟩
 |5,_=>⟨_,rfl,by decide+kernel⟩
 |6,_=>⟨_,rfl,by decide+kernel⟩
 |7,_=>⟨_,rfl,by decide+kernel⟩
 |8,_=>⟨_,rfl,by decide+kernel⟩
 |9,_=>⟨_,rfl,by decide+kernel⟩
 |10,_=>⟨_,rfl,by decide+kernel⟩
 |11,_=>⟨_,rfl,by decide+kernel⟩
 |k+12,h=>by omega
theorem Gc{ph}(h:cX (fun f:Fm=>decide (f.ph=ph)) hZ k){f:Fm}(I:hZ[k]?=some f)(e:f.ph=ph):fa ph=(k:Int)+1:=by unfold fa;have:=h.found I (by simpa using e);rw[this]
theorem F4(ph):bp Tryz.prog 61 [.d (.v (.string ph))] (.d (ci (fa ph))) 0:=by
 refine bp.b6 (n:=16) (ts:=[2]) Tryz.func61 (by kernel_rfl) Z Tryz.ntmps61 Tryz.results61 Z Z fun C hC U=>aZ 1 Z<|ae<|aZ 1 Z<|W.block<|W.bY (ι:={x:Nat//match x with|k=>k<=12∧cX (fun f:Fm=>decide (f.ph=ph)) hZ k})
  (fun x=>match x.1 with|k=>[(3,.d (.v (.int .i64 ((k:Nat):Int))))]) [(0,_)]
  (fun x=>match x.1 with|k=>[]) [] [] 0 (fun x=>match x.1 with|k=>12-k)
  [] ⟨0,?_⟩ Z ?_ ⟨rfl,rfl,trivial⟩ ?_ trivial Z ?_
 ·exact⟨ς _,cX.zero⟩
 ·repeat' constructor
 ·repeat' exact trivial
 rintro⟨k,X,M⟩;show W _ _ _ _ _ ⟨[(3,.d (.v (.int .i64 ((k:Nat):Int)))),(0,_)],[],[],0⟩;refine ae<|aZ 2 Z<|ba Z (fun h5=>?_)<|fun h5=>?_;·
  obtain⟨f,N,hl⟩:=EE (k:=k) (by simp at h5;omega);refine ah<|qs<|ae<|W.block<|ae<|aa<|aY 3 Z<|pu (b5 (ev aW Z) (y:=((k+1:Nat):Int)) (wrap64 (by omega))) Z<|pu (lL (s:=zT) (l:=(k:Int)) (h:=((k+1:Nat):Int)) aW Z Z Z Z Z (ε _) (by omega) (by show((k+1:Nat):Int)<=12;simp at h5;omega)) Z<|pE Z<|ab<|qs<|ba Z (fun I=>?_)<|fun I=>?_;·
   have J:fa ph=(k:Int)+1:=Gc M N (by rw[<-hl];simp at I;exact I.symm);refine ae<|aa<|pE Z<|pu (b5 (ev aW Z) (y:=((k+1:Nat):Int)) (wrap64 (by omega))) Z<|pE Z<|ab<|qs<|W.ret<|bw<|bl<|cN<|bw<|bl<|QF.bo trivial Z ?_;rw[J];rfl
  have O:decide (f.ph=ph)=false:=by rw[<-hl];simp at I⊢;exact fun e=>I e.symm
  refine ah<|bW<|qs<|aa<|pE Z<|pu (b5 (ev aW Z) (y:=((k+1:Nat):Int)) (wrap64 (by omega))) Z<|pE Z<|ab<|W.bZ [] ⟨k+1,?_⟩ ?_ Z ?_ ⟨rfl,rfl,trivial⟩ ?_ trivial Z;·exact⟨by simp at h5;omega,M.step N O⟩
  ·simp at h5;dsimp only;omega
  ·repeat' constructor
  repeat' exact trivial
 have J:fa ph=0:=by
  obtain rfl:k=12:=by simp at h5;omega
  unfold fa;rw[M.end_ rfl]
 refine an<|bL<|bM<|bK<|qs<|aZ 1 Z<|W.ret<|QF.bo trivial Z ?_;rw[J];rfl
theorem Aa(k b):bp Tryz.prog 63 [.d (ci k),.d (.v (.bool b))] (.d (.sl ((fh k b).map sc))) 0:=by
 refine bp.b6 (n:=34) (ts:=[4]) Tryz.func63 (by kernel_rfl) Z Tryz.ntmps63 Tryz.results63 Z Z fun C hC hG=>aZ 1 Z<|ae<|aZ 1 Z<|W.block<|ae<|aZ 2 Z<|ba Z (fun I=>?_)<|fun I=>?_;·
  refine ah<|qs<|W.gJ Z<|ae<|aa<|pu (bR aW Z Z Z Z Z Z Z Z Z) Z<|pE Z<|ab<|qs<|W.ret<|bw<|bl<|QF.bo trivial Z ?_;simp only[norm,bO,fh];simp_all[cb,eA,cg,dy,gV,ee,gQ,kD,ec,kr,gU]
 refine cJ 2 Z<|qs<|ba Z (fun I=>?_)<|fun I=>?_;·
  refine ae<|aa<|pu (bR aW Z Z Z Z Z Z Z Z Z) Z<|pE Z<|ab<|qs<|W.ret<|bw<|bl<|QF.bo trivial Z ?_;simp only[norm,bO,fh];simp_all[cb,eA,cg,dy,gV,ee,gQ,kD,ec,kr,gU]
 refine aZ 2 Z<|ba Z (fun J=>?_)<|fun J=>?_;·
  refine ae<|aa<|pu (bR aW Z Z Z Z Z Z Z Z Z) Z<|pE Z<|ab<|qs<|W.ret<|bw<|bl<|QF.bo trivial Z ?_;simp only[norm,bO,fh];simp_all[cb,eA,cg,dy,gV,ee,gQ,kD,ec,kr,gU]
 refine aZ 2 Z<|ba Z (fun M=>?_)<|fun M=>?_;·
  refine ae<|aa<|pu (bR aW Z Z Z Z Z Z Z Z Z) Z<|pE Z<|ab<|qs<|W.ret<|bw<|bl<|QF.bo trivial Z ?_;simp only[norm,bO,fh];simp_all[cb,eA,cg,dy,gV,ee,gQ,kD,ec,kr,gU]
 refine aZ 2 Z<|ba Z (fun N=>?_)<|fun N=>?_;·
  refine ae<|aa<|pu (bR aW Z Z Z Z Z Z Z Z Z) Z<|pE Z<|ab<|qs<|W.ret<|bw<|bl<|QF.bo trivial Z ?_;simp only[norm,bO,fh];simp_all[cb,eA,cg,dy,gV,ee,gQ,kD,ec,kr,gU]
 refine aZ 2 Z<|ba Z (fun O=>?_)<|fun O=>?_;·
  refine ae<|aa<|pu (bR aW Z Z Z Z Z Z Z Z Z) Z<|pE Z<|ab<|qs<|W.ret<|bw<|bl<|QF.bo trivial Z ?_;simp only[norm,bO,fh];simp_all[cb,eA,cg,dy,gV,ee,gQ,kD,ec,kr,gU]
 refine aZ 2 Z<|ba Z (fun U=>?_)<|fun U=>?_;·
  refine ae<|aZ 1 Z<|ba Z (fun X=>?_)<|fun X=>?_;·
   refine ae<|aa<|pu (bR aW Z Z Z Z Z Z Z Z Z) Z<|pE Z<|ab<|qs<|W.ret<|bl<|bw<|bl<|QF.bo trivial Z ?_;simp only[norm,bO,fh];simp_all[cb,eA,cg,dy,gV,ee,gQ,kD,ec,kr,gU]
  refine ah<|qs<|ae<|aa<|pu (bR aW Z Z Z Z Z Z Z Z Z) Z<|pE Z<|ab<|qs<|W.ret<|bw<|bl<|QF.bo trivial Z ?_;simp only[norm,bO,fh];simp_all[cb,eA,cg,dy,gV,ee,gQ,kD,ec,kr,gU]
 refine aZ 2 Z<|ba Z (fun ad=>?_)<|fun ad=>?_;·
  refine ae<|aa<|pu (bR aW Z Z Z Z Z Z Z Z Z) Z<|pE Z<|ab<|qs<|W.ret<|bw<|bl<|QF.bo trivial Z ?_;simp only[norm,bO,fh];simp_all[cb,eA,cg,dy,gV,ee,gQ,kD,ec,kr,gU]
 refine aZ 2 Z<|ba Z (fun ai=>?_)<|fun ai=>?_;·
  refine ae<|aa<|pu (bR aW Z Z Z Z Z Z Z Z Z) Z<|pE Z<|ab<|qs<|W.ret<|bw<|bl<|QF.bo trivial Z ?_;simp only[norm,bO,fh];simp_all[cb,eA,cg,dy,gV,ee,gQ,kD,ec,kr,gU]
 refine ah<|bW<|qs<|ae<|aa<|pu (bR aW Z Z Z Z Z Z Z Z Z) Z<|pE Z<|ab<|qs<|W.ret<|QF.bo trivial Z ?_;simp only[norm,bO,fh];simp_all[cb,eA,cg,dy,gV,ee,gQ,kD,ec,kr,gU]
theorem zf{l:List JV}{x:JV}(h:l[k]?=some x):ep (l.take (k+1))=(ep (l.take k)||!decide (x.op=4)):=by unfold ep;rw[Ψ,h];simp
theorem GZ{l:List JV}(h:ep l=false):ep (l.take k)=false:=by unfold ep at h⊢;rw[List.any_eq_false]at h⊢;exact fun x I=>h x (List.mem_of_mem_take I)
theorem Ec(j:JV)(hs:j.kids.length<=1000000000):bp Tryz.prog 103 [.ag j.c] (.tup [.d (.sl ((iF j).1.map sc)),.d (.v (.bool (iF j).2))]) 0:=by
 rw[ij j]
 refine bp.b6 (n:=33) (ts:=[2,3]) Tryz.func103 (by kernel_rfl) Z Tryz.ntmps103 Tryz.results103 Z Z fun C hC hG=>ae<|aa<|cG Z Z Z<|aY 2 Z<|ab<|qs<|ae<|aZ 3 Z<|ba Z (fun h8=>?_)<|fun h8=>?_
 ·
  have hr:iF j=([],false):=by unfold iF;rw[if_pos (by simpa using h8)]
  refine aZ 2 Z ?_
  try refine lN (d:=2) rfl rfl ?_
  refine W.ret (bl (QF.bo trivial Z ?_))
  rw[hr];rfl
 have hop:j.op=5:=by simpa using h8
 refine ah<|qs<|aZ 1 Z<|ae<|aZ 1 Z<|W.block<|qC (g:=0) (j:=4) Z Z<|fun hlen=>?_
 rw[η]at hlen
 refine lN (d:=4) Z Z<|W.bY (ι:={x:Nat×List ByteArray//match x with|(k,out)=>k<=j.kids.length∧out=(j.kids.take k).map JV.s∧ep (j.kids.take k)=false})
  (fun x=>match x.1 with|(k,out)=>[(1,.ptr 0 0),(4,.own 1 (out.map sc)),(5,.d (.v (.int .i64 ((k:Nat):Int))))]) []
  (fun x=>match x.1 with|(k,out)=>[(0,[.d (ci j.op),.d (ci j.n),.d (cs j.s),.d (.sl (j.keys.map sc)),.d (.sl (j.kids.map JV.c))])]) [] [1] 2 (fun x=>match x.1 with|(k,out)=>j.kids.length-k)
  [0,1] ⟨(0,[]),?_⟩ rfl ?_ trivial ?_ trivial rfl ?_
 ·exact⟨ς _,rfl,rfl⟩
 ·repeat' constructor
 ·repeat' constructor
 rintro⟨⟨k,out⟩,hk,hout,hI⟩
 show W _ _ _ _ _ ⟨[(1,.ptr 0 0),(4,.own 1 (out.map sc)),(5,.d (.v (.int .i64 ((k:Nat):Int))))],[(0,[.d (ci j.op),.d (ci j.n),.d (cs j.s),.d (.sl (j.keys.map sc)),.d (.sl (j.kids.map JV.c))])],[1],2⟩
 have hol:out.length<=j.kids.length:=by rw[hout,η,List.length_take];exact Nat.min_le_right _ _
 refine ae<|aZ 5 Z<|ct (l:=j.kids) (k:=k) Z (by simp[Ex.bE,bh]) hk (fun x hx hd hlt=>?_)<|fun he hd=>?_
 ·
  refine ah<|qs<|ae<|W.block<|ae<|ae<|aa<|aY 3 Z<|pu (indexAddr (l:=x.c) aW Z Z Z Z Z Z (ε _) (bF hx) Z) Z<|aY 3 Z<|ab<|qs<|ba Z (fun h22=>?_)<|fun h22=>?_
  ·
   have hbx:ep j.kids=true:=by
    cases hb:ep j.kids with
    |true=>rfl
    |false=>
     have h1:=GZ (k:=k+1) hb
     rw[zf hx,show(!decide (x.op=4))=true from h22,Bool.or_true]at h1
     cases h1
   have hr:iF j=([],false):=by unfold iF;rw[if_neg (by rw[hop];simp),if_pos hbx]
   refine aZ 2 Z ?_
   try refine lN (d:=2) rfl rfl ?_
   refine W.ret (bl (bw (bl (cN (bw (bl (QF.bo trivial Z ?_)))))))
   rw[hr];rfl
  have hx4:(!decide (x.op=4))=false:=h22
  refine ah<|qs<|aa<|aY 4 Z<|pu (indexAddr (l:=x.c) aW Z Z Z Z Z Z (ε _) (bF hx) Z) Z<|aY 2 Z<|pu (bR aW Z Z Z Z Z Z Z Z Z) Z<|dF (a:=x.s) aW Z Z Z Z Z Z Z Z Z Z (fun _=>rfl) (by show(out.length+1)*16<=_;omega)<|pE Z<|ab<|bW<|qs<|cJ 3 Z<|W.bZ [0,2] ⟨(k+1,out++[x.s]),?_⟩ ?_ Z ?_ trivial ?_ trivial Z
  ·exact⟨hlt,by rw[Ψ,hx,I',hout];rfl,by rw[zf hx,hI,hx4];rfl⟩
  ·dsimp only;omega
  ·repeat' first|exact trivial|refine⟨rfl,?_⟩|refine⟨bH (by assumption) (by assumption),?_⟩
  repeat' constructor
 rw[he,List.take_length]at hI hout
 have hr:iF j=(j.kids.map JV.s,true):=by unfold iF;rw[if_neg (by rw[hop];simp),if_neg (by rw[hI];simp)]
 rw[hr,←hout]
 refine an (bL (bM (bK (qs (aZ 3 Z ?_)))))
 try refine lN (d:=2) rfl rfl ?_
 refine W.ret (QF.bo trivial Z ?_)
 rfl
theorem Ip(e:Ev)(key)(v:JV)(hs:v.kids.length<=1000000000):bp Tryz.prog 64 [.ag e.c,.d (.v (.string key)),.ag v.c] (.tup [.ag (fe e key v).1.c,.d (.v (.bool (fe e key v).2))]) 0:=by
 refine bp.dk aW (n:=51) (rs:=[.cell 6 50,.tmp 7]) Tryz.func64 (by kernel_rfl) Z Tryz.ntmps64 Tryz.results64 Z fun C hC U=>ae<|aa<|cG Z Z Z<|cG Z Z Z<|bT aW Z Z Z<|pE Z<|ab<|qs<|ae<|aZ 2 Z<|ba Z (fun J=>?_)<|fun J=>?_;·
  have I:fe e key v=({e with name:=v.s},decide (v.op=4)):=if_pos (by simpa[cb]using J);refine ae<|aa<|aY 3 Z<|be aW Z Z Z Z Z Z Z Z<|ab<|qs<|ae ?_;apply W.fb aW 5 4;(case hB=>kernel_rfl);(case h1=>rfl);(case h2=>rfl);refine' eJ (ev aW Z) Z Z Z Z Z ?h_1;case' h_1=>skip
  refine' cd ?p1_2 (ev aW Z) Z Z Z Z Z ?h_2;case' h_2=>skip
  refine' cd ?p1_3 (ev aW Z) Z Z Z Z Z ?h_3;case' h_3=>skip
  refine' cd ?p1_4 (ev aW Z) Z Z Z Z Z ?h_4;case' h_4=>skip
  refine' wP (fun g=>?e_5) Z Z ?h_5;case e_5=>refine be aW Z Z Z Z Z Z Z Z (ab ?_);exact⟨rfl,rfl⟩
  case' h_5=>skip
  case p1_2=>exact(ev aW Z)
  case p1_3=>exact(ev aW Z)
  case p1_4=>exact(ev aW Z)
  refine au<|pE Z<|ab<|qs<|W.ret<|bl<|QV.bo aW trivial Z ?_;rw[I];rfl
 have n1:¬key=cb:=by simpa[cb]using J
 refine ah<|qs<|ae<|aZ 2 Z<|ba Z (fun M=>?_)<|fun M=>?_;·
  have I:fe e key v=({e with stack:=(iF v).1},(iF v).2):=by unfold fe;rw[if_neg n1,if_pos (by simpa[cg]using M)]
  refine ae<|aa<|aY 1 Z<|pu (bm Z Z Z (Ec v hs) Z) Z<|aY 5 Z<|ab<|qs<|ae<|aa<|aY 2 Z<|be aW Z Z Z Z Z Z Z Z<|ab<|qs<|ae<|aa<|aY 2 Z<|be aW Z Z Z Z Z Z Z Z<|pE Z<|ab<|qs<|W.ret<|bl<|QV.bo aW trivial Z ?_;rw[I];rfl
 have n2:¬key=cg:=by simpa[cg]using M
 refine ah<|qs<|ae<|aZ 2 Z<|ba Z (fun N=>?_)<|fun N=>?_;·
  have I:fe e key v=({e with time:=v.n},decide (v.op=3)):=by unfold fe;rw[if_neg n1,if_neg n2,if_pos (by simpa[eA]using N)]
  refine aa<|aY 3 Z<|be aW Z Z Z Z Z Z Z Z<|ab<|qs<|ae ?_;apply W.fb aW 5 4;(case hB=>kernel_rfl);(case h1=>rfl);(case h2=>rfl);refine' eJ (ev aW Z) Z Z Z Z Z ?h_6;case' h_6=>skip
  refine' cd ?p1_7 (ev aW Z) Z Z Z Z Z ?h_7;case' h_7=>skip
  refine' cd ?p1_8 (ev aW Z) Z Z Z Z Z ?h_8;case' h_8=>skip
  refine' cd ?p1_9 (ev aW Z) Z Z Z Z Z ?h_9;case' h_9=>skip
  refine' wP (fun g=>?e_10) Z Z ?h_10;case e_10=>refine be aW Z Z Z Z Z Z Z Z (ab ?_);exact⟨rfl,rfl⟩
  case' h_10=>skip
  case p1_7=>exact(ev aW Z)
  case p1_8=>exact(ev aW Z)
  case p1_9=>exact(ev aW Z)
  refine au<|pE Z<|ab<|qs<|W.ret<|QV.bo aW trivial Z ?_;rw[I];rfl
 have n3:¬key=eA:=by simpa[eA]using N
 refine ae ?_;apply bC;(case hb=>rfl);·repeat' first|refine b4 Z Z Z|refine bz Z Z ?_|refine bA Z Z Z Z ?_|refine pE Z ?_|refine ab ?_|(apply bN;(case hj=>rfl);(case hl=>rfl))
 refine qs (ba Z (fun O=>?_) (fun O=>?_));·
  have I:fe e key v=({e with m:=v.n},decide (v.op=3)):=by unfold fe;rw[if_neg n1,if_neg n2,if_neg n3,if_pos (by simpa[kr,ee,Classical.or_iff_not_imp_left]using O)]
  refine aa<|aY 3 Z<|be aW Z Z Z Z Z Z Z Z<|ab<|qs<|ae ?_;apply W.fb aW 5 4;(case hB=>kernel_rfl);(case h1=>rfl);(case h2=>rfl);refine' eJ (ev aW Z) Z Z Z Z Z ?h_11;case' h_11=>skip
  refine' cd ?p1_12 (ev aW Z) Z Z Z Z Z ?h_12;case' h_12=>skip
  refine' cd ?p1_13 (ev aW Z) Z Z Z Z Z ?h_13;case' h_13=>skip
  refine' cd ?p1_14 (ev aW Z) Z Z Z Z Z ?h_14;case' h_14=>skip
  refine' wP (fun g=>?e_15) Z Z ?h_15;case e_15=>refine be aW Z Z Z Z Z Z Z Z (ab ?_);exact⟨rfl,rfl⟩
  case' h_15=>skip
  case p1_12=>exact(ev aW Z)
  case p1_13=>exact(ev aW Z)
  case p1_14=>exact(ev aW Z)
  refine au<|pE Z<|ab<|qs<|W.ret<|QV.bo aW trivial Z ?_;rw[I];rfl
 have I:fe e key v=({e with n:=v.n},decide (v.op=3)):=by unfold fe;rw[if_neg n1,if_neg n2,if_neg n3,if_neg (by simpa[kr,ee]using O)]
 refine aa<|aY 3 Z<|be aW Z Z Z Z Z Z Z Z<|ab<|qs<|ae ?_;apply W.fb aW 5 4;(case hB=>kernel_rfl);(case h1=>rfl);(case h2=>rfl);refine' eJ (ev aW Z) Z Z Z Z Z ?h_16;case' h_16=>skip
 refine' cd ?p1_17 (ev aW Z) Z Z Z Z Z ?h_17;case' h_17=>skip
 refine' cd ?p1_18 (ev aW Z) Z Z Z Z Z ?h_18;case' h_18=>skip
 refine' cd ?p1_19 (ev aW Z) Z Z Z Z Z ?h_19;case' h_19=>skip
 refine' wP (fun g=>?e_20) Z Z ?h_20;case e_20=>refine be aW Z Z Z Z Z Z Z Z (ab ?_);exact⟨rfl,rfl⟩
 case' h_20=>skip
 case p1_17=>exact(ev aW Z)
 case p1_18=>exact(ev aW Z)
 case p1_19=>exact(ev aW Z)
 refine au<|pE Z<|ab<|qs<|W.ret<|QV.bo aW trivial Z ?_;rw[I];rfl
theorem lf(j:JV)(bad key op):bU Tryz.prog 55 [.ptr 0 0,.d (.v (.string key)),.d (.v (.int .i64 op))] [obj j bad] 0 (.ag (cm j key op).c) [obj j (bad||dD j key op)] 0:=by
 refine bU.dk aW (n:=31) (rs:=[.cell 6 46]) Tryz.func55 (by kernel_rfl) Z Tryz.ntmps55 Tryz.results55 Z Z fun C hC M=>ae<|aa<|bT aW Z Z Z<|ab<|qs<|ae<|aa<|aY 5 Z<|pu (bm Z Z Z (Jc j key) Z) Z<|aY 3 Z<|bT aW Z Z Z<|be aW Z Z Z Z Z Z Z Z<|pE Z<|ab<|qs<|ae<|ae<|?_
 apply bC;(case hb=>rfl);·repeat' first|refine b4 Z Z Z|refine bz Z Z ?_|refine bA Z Z Z Z ?_|refine pE Z ?_|refine ab ?_|(apply bN;(case hj=>rfl);(case hl=>rfl))
 refine qs (ba Z (fun I=>?_) (fun I=>?_));·
  obtain⟨hb,J⟩:=F2 I;rw[hb,J,Bool.or_true];refine ae<|aa<|aY 3 Z<|be aW Z Z Z Z Z Z Z Z<|ab<|qs<|ae<|aa<|pu (build aW Z Z Z Z) Z ?_;try refine gx 29 Z Z Z ?_
  refine be aW Z Z Z Z Z Z Z Z (ab (qs (W.ret (bl (ak aW [] trivial Z Z Z Z ?_ ?_)))));·exact⟨rfl,trivial⟩
  rfl
 obtain⟨hb,J⟩:=IQ I;rw[hb,J,Bool.or_false];refine ah<|qs<|ae<|aa<|aY 1 Z<|be aW Z Z Z Z Z Z Z Z<|ab<|qs<|W.ret<|ak aW [] trivial Z Z Z Z ?_ ?_;·exact⟨rfl,trivial⟩
 rfl
theorem vq(j:JV)(bad):bU Tryz.prog 51 [.ptr 0 0] [obj j bad] 0 (.tup [.d (ci (cm j de 3).n),.d (cs (cm j e8 4).s)]) [obj j (cQ j bad)] 0:=by
 refine bU.dk aW (n:=23) (rs:=[.tmp 2,.tmp 3]) Tryz.func51 (by kernel_rfl) Z Tryz.ntmps51 Tryz.results51 Z Z fun C hC I=>aZ 2 Z<|ae<|aa<|pE Z<|bu [0] [] Z Z Z Z Z ((lf j bad de 3)) Z Z (by rfl) (by rfl) Z Z Z Z<|aY 2 Z<|ab<|qs<|ae<|aa<|aY 6 Z<|gz Z Z (fun g13=>?_)<|fun g13=>?_;·
  have hb:cQ j bad=(true||dD j e8 4):=by unfold cQ;rw[show(bad||dD j de 3)=true from g13];rfl
  rw[hb];refine bA Z Z Z Z<|bA Z Z Z Z<|aY 3 Z ?_
  refine be aW Z Z Z Z Z Z Z Z<|ab<|qs<|ae<|aa<|aY 2 Z<|bu [0] [] Z Z Z Z Z ((lf j _ e8 4)) Z Z (by rfl) (by rfl) Z Z Z Z<|aY 3 Z<|ab<|qs<|W.ret<|ak aW [] trivial Z Z Z Z ?_ ?_;·exact⟨rfl,trivial⟩
  rfl
 have hb:cQ j bad=(decide ((cm j de 3).n<0)||dD j e8 4):=by unfold cQ;rw[show(bad||dD j de 3)=false from g13];rfl
 rw[hb];refine bz Z Z<|pE Z<|bz Z Z<|aY 4 Z<|be aW Z Z Z Z Z Z Z Z<|ab<|qs<|ae<|aa<|aY 2 Z<|bu [0] [] Z Z Z Z Z ((lf j _ e8 4)) Z Z (by rfl) (by rfl) Z Z Z Z<|aY 3 Z<|ab<|qs<|W.ret<|ak aW [] trivial Z Z Z Z ?_ ?_;·exact⟨rfl,trivial⟩
 rfl
theorem vG(j:JV)(bad)(l:List ByteArray):bp Tryz.prog 57 [.row (obj j bad),.d (.sl (l.map sc))] (.d (.v (.bool (iB j l)))) 0:=by
 refine bp.b6 (n:=20) (ts:=[4]) Tryz.func57 (by kernel_rfl) Z Tryz.ntmps57 Tryz.results57 Z Z fun C hC I=>ae<|aa<|cG Z Z Z<|pE Z<|ab<|qs<|ae ?_;apply bC;(case hb=>rfl);·repeat' first|refine b4 Z Z Z|refine bz Z Z ?_|refine bA Z Z Z Z ?_|refine pE Z ?_|refine pu (bm Z Z Z (vF _ [.row [.row (obj j bad)]] ⟨fun _ _=>rfl,rfl⟩ _ (F6 j bad) l) Z) Z ?_|refine ab ?_|(apply bN;(case hj=>rfl);(case hl=>rfl))
 refine qs (W.ret (QF.bo trivial Z ?_));show A.d (.v (.bool _))=A.d (.v (.bool _));unfold iB;rw[η,η];congr 3;simp only[cond_eq_ite];by_cases h:j.keys.length=l.length<;>simp[h]<;>omega
theorem AK{l:List JV}{x:JV}(h:l[k]?=some x):ep (l.take (k+1))=(ep (l.take k)||!decide (x.op=4)):=by unfold ep;rw[Ψ,h];simp
theorem Fb(j:JV)(bad)(hs:(cm j cg 5).kids.length<=1000000000):bU Tryz.prog 56 [.ptr 0 0] [obj j bad] 0 (.d (.sl ((r8 j).map sc))) [obj j ((bad||dD j cg 5)||ep (cm j cg 5).kids)] 0:=by
 refine bU.dk aW (n:=33) (rs:=[.tmp 2]) Tryz.func56 (by kernel_rfl) Z Tryz.ntmps56 Tryz.results56 Z Z fun C hC hG=>aZ 1 Z<|aZ 1 Z<|ae<|ae<|aa<|pE Z<|bu [0] [] Z Z Z Z Z ((lf j bad cg 5)) Z Z (by rfl) (by rfl) Z Z Z Z<|aY 3 Z<|ab<|qs<|W.block<|lN (d:=3) Z Z<|W.len (t:=8) Z Z<|fun hlen=>?_
 try simp only[η,Ex.bE]at hlen
 refine W.bY (ι:={x:Nat×Bool×List ByteArray//match x with|(k,b,out)=>k<=(cm j cg 5).kids.length∧out=((cm j cg 5).kids.take k).map JV.s∧b=((bad||dD j cg 5)||ep ((cm j cg 5).kids.take k))})
  (fun x=>match x.1 with|(k,b,out)=>[(0,.ptr 0 0),(3,.own 1 (out.map sc)),(10,.d (.v (.int .i64 ((k:Nat):Int))))]) [(8,_),(9,_)]
  (fun x=>match x.1 with|(k,b,out)=>[(0,obj j b)]) [] [1] 2 (fun x=>match x.1 with|(k,b,out)=>(cm j cg 5).kids.length-k)
  [0,2] ⟨(0,bad||dD j cg 5,[]),?_⟩ rfl ?_ ⟨rfl,rfl,rfl,rfl,trivial⟩ ?_ trivial rfl ?_
 ·exact⟨ς _,rfl,by simp[ep]⟩
 ·repeat' constructor
 ·repeat' constructor
 rintro⟨⟨k,b,out⟩,hk,hout,hI⟩
 show W _ _ _ _ _ ⟨[(0,.ptr 0 0),(3,.own 1 (out.map sc)),(10,.d (.v (.int .i64 ((k:Nat):Int)))),(8,_),(9,_)],[(0,obj j b)],[1],2⟩
 have hkm:(cm j cg 5).kids.length<=maxLen:=by rw[<-JV.bE];exact hlen
 have hol:out.length<=(cm j cg 5).kids.length:=by rw[hout,η,List.length_take];exact Nat.min_le_right _ _
 refine aZ 1 Z<|ae<|ct (l:=(cm j cg 5).kids) (k:=k) Z (by simp[JV.bE]) hk (fun x hx hd hlt=>?_)<|fun he hd=>?_
 ·
  refine ah<|qs<|ae<|W.block<|ae<|aa<|pu (indexAddr (l:=x.c) aW Z Z Z Z Z Z (ε _) (JV.sN hx) Z) Z<|aY 1 Z<|bT aW Z Z Z<|be aW Z Z Z Z Z Z Z Z<|ab<|qs<|ae<|aa<|aY 6 Z<|gz Z Z (fun g19=>?_)<|fun g19=>?_
  ·
   let nb:Bool:=true
   refine bA Z Z Z Z<|bA Z Z Z Z<|bA Z Z Z Z<|aY 3 Z<|be aW Z Z Z Z Z Z Z Z<|ab<|qs<|aa<|aY 3 Z<|pu (bR aW Z Z Z Z Z Z Z Z Z) Z<|dF (a:=x.s) aW Z Z Z Z Z Z Z Z Z Z (fun _=>rfl) (by show(out.length+1)*16<=_;omega)<|pE Z<|ab<|bW<|qs<|cJ 2 Z<|W.bZ [0,3] ⟨(k+1,nb,out++[x.s]),?_⟩ ?_ Z ?_ ⟨rfl,rfl,rfl,rfl,trivial⟩ ?_ trivial Z
   ·exact⟨hlt,by rw[Ψ,hx,I',hout];rfl,by rw[AK hx,←Bool.or_assoc,←hI,g19];rfl⟩
   ·dsimp only;omega
   ·repeat' first|exact trivial|refine⟨rfl,?_⟩|refine⟨bH (by assumption) (by assumption),?_⟩
   repeat' constructor
  let nb:Bool:=!decide (x.op=4)
  refine bz Z Z<|pE Z<|bz Z Z<|aY 1 Z<|bz Z Z<|aY 4 Z<|be aW Z Z Z Z Z Z Z Z<|ab<|qs<|aa<|aY 3 Z<|pu (bR aW Z Z Z Z Z Z Z Z Z) Z<|dF (a:=x.s) aW Z Z Z Z Z Z Z Z Z Z (fun _=>rfl) (by show(out.length+1)*16<=_;omega)<|pE Z<|ab<|bW<|qs<|cJ 2 Z<|W.bZ [0,3] ⟨(k+1,nb,out++[x.s]),?_⟩ ?_ Z ?_ ⟨rfl,rfl,rfl,rfl,trivial⟩ ?_ trivial Z
  ·exact⟨hlt,by rw[Ψ,hx,I',hout];rfl,by rw[AK hx,←Bool.or_assoc,←hI,g19];rfl⟩
  ·dsimp only;omega
  ·repeat' first|exact trivial|refine⟨rfl,?_⟩|refine⟨bH (by assumption) (by assumption),?_⟩
  repeat' constructor
 rw[he,List.take_length]at hI;rw[<-hI]
 refine an<|bL<|bM<|bK<|qs<|aZ 2 Z<|W.ret<|ak aW [] trivial Z Z Z Z ?_ ?_
 ·exact⟨rfl,trivial⟩
 rw[hout,he,List.take_length];rfl
abbrev oH:List A:=[.d (ci 0),.d (ci 0),.d (cs (B #[])),.d (ci 0),.d (ci 0),.d (.v (.slice none 0 0))]
abbrev LJ(j:JV):Nat->Bool
 |0=>cQ j (da j)
 |_+1=>gr j (cQ j (da j))
abbrev zk(j:JV)(f:Fm)(k:Nat):List (Nat×List A):=[(2,obj j (LJ j k)),(5,f.c.map A.d),(4,[.d (cs (cm j e8 4).s)]),(1,oH),(0,j.c.map A.d)]
abbrev nt(j:JV)(f:Fm):kW:=⟨zk j f,fun k=>(6,oH)::zk j f k,fun _=>[],fun k=>7+k,fun k=>[0,1,2,3,4,5,7+k]++(List.range k).map (7+·),6,oH,[3],6,fun _=>False⟩
theorem Bg{ph}(h:idx (hZ.findIdx? fun f=>decide (f.ph=ph))<0):lb ph=none:=by
 unfold lb
 cases hi:hZ.findIdx? fun f=>decide (f.ph=ph)with
 |none=>rfl
 |some i=>rw[hi]at h;simp[idx]at h;omega
theorem A8{ph}(h:¬idx (hZ.findIdx? fun f=>decide (f.ph=ph))<0):∃(i:Nat)(f:Fm),idx (hZ.findIdx? fun f=>decide (f.ph=ph))=(i:Int)∧hZ[i]?=some f∧lb ph=some f:=by
 cases hi:hZ.findIdx? fun f=>decide (f.ph=ph)with
 |none=>rw[hi]at h;simp[idx]at h
 |some i=>obtain⟨hl,_⟩:=List.findIdx?_eq_some_iff_getElem.1 hi;refine⟨i,hZ[i],rfl,by simp[hl],?_⟩;unfold lb;rw[hi];simp[hl]
set_option maxHeartbeats 1000000 in
theorem F3(j:JV)(hs:(cm j cg 5).kids.length<=1000000000):bp Tryz.prog 19 [.ag j.c] (.tup [.d (ci (cH j).1),.ag (cH j).2.1.c,.d (ci (cH j).2.2)]) 0:=by
 refine bp.dk aW (n:=114) (rs:=[.tmp 2,.cell 3 50,.tmp 4]) Tryz.func19 (by kernel_rfl) Z Tryz.ntmps19 Tryz.results19 Z fun C hC hG=>ae<|aa<|cG Z Z Z<|pE Z<|bT aW Z Z Z<|pE Z<|ab<|qs<|ae<|ae<|aa<|aY 1 Z ?_
 refine pu (bm Z Z Z (xF j) Z) Z<|pE Z<|ab<|qs<|aZ 2 Z<|ba Z (fun ad=>?_)<|fun ad=>?_;·
  have J:cH j=(0,ku,ck j 1):=by unfold cH;rw[if_pos (by simpa using ad)]
  refine ae<|aa<|pu (gX (build aW Z Z Z Z) Z) Z<|aY 2 Z<|be aW Z Z Z Z Z Z Z Z<|pE Z<|ab<|qs<|W.ret<|bl<|QV.bo aW trivial Z ?_;rw[J];rfl
 have ar:ck j 1=0:=by simpa using ad
 refine ah<|qs<|ae<|aa<|aY 4 Z<|pu (build aW Z Z Z Z) Z<|cG Z Z Z<|pE Z<|ab<|qs<|ae<|aa<|pE Z<|bu [2] [] Z Z Z Z Z ((vq j (da j))) Z Z (by rfl) (by rfl) Z Z Z Z<|aY 3 Z<|bT aW Z Z Z<|pE Z<|be aW Z Z Z Z Z Z Z Z<|ab<|qs<|ae<|aa<|pu (bm Z Z Z (pr ..) Z) Z<|pE Z<|pu (bm Z Z Z (vP _ _ ⟨fun _ _=>rfl,rfl⟩ _ (IM (cm j e8 4).s) hZ) Z) Z<|pE Z<|ab<|qs<|ae<|ae<|?_
 apply bC;(case hb=>rfl);·
  refine aY 5 Z ?_;apply eU;(case hj=>rfl);(case hl=>rfl);·
   intro a6;refine bA Z Z Z Z<|bA Z Z Z Z<|pE Z<|ab<|b4 Z Z Z
  intro a6;refine bz Z Z<|pE Z<|bz Z Z<|aY 2 Z<|ab<|b4 Z Z Z
 refine qs (ba Z (fun I=>?_) (fun I=>?_));·
  have J:cH j=(0,ku,10):=by
   unfold cH;rw[if_neg (by rw[ar];simp)]
   cases hb:cQ j (da j)with
   |true=>rfl
   |false=>rw[hb]at I;rw[Bg (by simpa using I)];rfl
  refine ae<|aa<|pu (gX (build aW Z Z Z Z) Z) Z<|pE Z<|be aW Z Z Z Z Z Z Z Z<|pE Z<|ab<|qs<|W.ret<|bl<|QV.bo aW trivial Z ?_;rw[J];rfl
 have a1:cQ j (da j)=false:=by
  cases hb:cQ j (da j)with
  |true=>rw[hb]at I;cases I
  |false=>rfl
 obtain⟨i,f,hi,hf,a7⟩:=A8 (ph:=(cm j e8 4).s) (by rw[a1]at I;simpa using I);have hE:cH j=if(bif w9 j f (cQ j (da j))then true else !iB j (fz f (iS j f)))=true then(0,ku,10)else if dJ (nC j f)≠0 then(0,ku,dJ (nC j f))else((cm j de 3).n,nC j f,0):=by unfold cH;rw[if_neg (by rw[ar];simp),if_neg (by rw[a1];simp),a7]
 rw[hi];refine ah<|qs<|ae<|aa<|pu (bm Z Z Z (pr ..) Z) Z<|pE Z<|pu (indexAddr (l:=f.c) aW Z Z Z Z Z Z (ε _) (bF hf) Z) Z<|aY 1 Z<|bT aW Z Z Z<|be aW Z Z Z Z Z Z Z Z<|ab<|qs<|ae<|W.pZ aW (nt j f) false 7 (by kernel_rfl) (by kernel_rfl) Z Z (fun _ _ h=>h.elim) ?hok (pV.le (f':=zk j f 0) ⟨rfl,rfl,rfl,rfl,rfl,trivial⟩) Z Z ?hcd;case hok=>exact fun _=>⟨by repeat'(first|exact trivial|exact Z|refine And.intro ?_ ?_),by repeat'(first|exact trivial|exact Z|refine And.intro ?_ ?_)⟩
 refine' w8 ?p0 Z Z Z (by kernel_rfl) Z ?h0;case p0=>refine⟨?_,?_,?_,?_⟩<;>intro M<;>first|(refine⟨ev aW Z,?_⟩;intro _;rfl)|exact bc M
 case' h0=>skip
 refine' w8 ?p1 Z Z Z (by kernel_rfl) Z ?h1;case p1=>refine⟨?_,?_,?_,?_⟩<;>intro M<;>first|(refine⟨ev aW Z,?_⟩;intro _;rfl)|exact bc M
 case' h1=>skip
 refine' w8 ?p2 Z Z Z (by kernel_rfl) Z ?h2;case p2=>refine⟨?_,?_,?_,?_⟩<;>intro M<;>first|(refine⟨ev aW Z,?_⟩;intro _;rfl)|exact bc M
 case' h2=>skip
 refine' AM ?x3 Z Z Z (by kernel_rfl) ?r3 Z ?h3;case x3=>
  intro b hb g;cases b;·
   refine bu [2] [] Z Z Z Z Z (lf j (cQ j (da j)) eA 3) Z Z (by rfl) (by rfl) Z Z Z Z<|FE (zk j f 1) ⟨rfl,rfl,rfl,rfl,rfl,trivial⟩<|ab ?_;exact⟨rfl,rfl⟩
  refine bu [2] [] Z Z Z Z Z (lf j (cQ j (da j)) eA 3) Z Z (by rfl) (by rfl) Z Z Z Z<|FE ((6,oH)::zk j f 1) ⟨rfl,rfl,rfl,rfl,rfl,rfl,trivial⟩<|ab ?_;exact⟨rfl,rfl⟩
 case r3=>intro _;rfl
 case' h3=>skip
 refine' w8 ?p4 Z Z Z (by kernel_rfl) Z ?h4;case p4=>refine⟨?_,?_,?_,?_⟩<;>intro M<;>first|(refine⟨ev aW Z,?_⟩;intro _;rfl)|exact bc M
 case' h4=>skip
 refine' w8 ?p5 Z Z Z (by kernel_rfl) Z ?h5;case p5=>refine⟨?_,?_,?_,?_⟩<;>intro M<;>first|(refine⟨Pu.oD (build aW Z Z Z Z) Z,?_⟩;intro _;rfl)|exact bc M
 case' h5=>skip
 refine LU Z Z Z Z Z (by kernel_rfl) Z<|ax ?_ Z;refine be aW Z Z Z Z Z Z Z Z<|ab<|qs<|ae<|aZ 2 Z<|W.kV [(3,.ptr 0 0),(6,.ptr 1 0),(10,.ptr 2 0),(11,.ptr 3 0)] [7] [(0,oH),(1,obj j (fK j f (gr j (cQ j (da j))))),(2,f.c.map A.d),(3,[.d (ci (BV j)),.d (ci f.kind),.d (cs (pO j f)),.d (ci 0),.d (ci 0),.d (.sl [])])] [] [] 4 ?_ ?_;·
  refine ba Z (fun N=>?_) (fun N=>?_);·
   rw[show fK j f (gr j (cQ j (da j)))=(gr j (cQ j (da j))||dD j cb 4)from if_pos N,show pO j f=(cm j cb 4).s from if_pos N];refine aa<|pE Z<|bu [2] [] Z Z Z Z Z ((lf j (gr j (cQ j (da j))) cb 4)) Z Z (by rfl) (by rfl) Z Z Z Z<|aY 2 Z<|be aW Z Z Z Z Z Z Z Z<|ab<|cZ [1,2,5,6] Z ?_ ⟨rfl,rfl,trivial⟩ ?_ trivial Z;·repeat' constructor
   repeat' constructor
  rw[show fK j f (gr j (cQ j (da j)))=gr j (cQ j (da j))from if_neg (by rw[N];simp),show pO j f=cw from if_neg (by rw[N];simp)];refine ah (cZ [1,2,5,6] Z ?_ ⟨rfl,rfl,trivial⟩ ?_ trivial Z);·repeat' constructor
  repeat' constructor
 refine qs<|ae<|aZ 3 Z<|W.kV [(3,.ptr 0 0),(6,.ptr 1 0),(10,.ptr 2 0),(11,.ptr 3 0)] [7] [(0,oH),(1,obj j (jM j f (fK j f (gr j (cQ j (da j)))))),(2,f.c.map A.d),(3,[.d (ci (BV j)),.d (ci f.kind),.d (cs (pO j f)),.d (ci (nO j f)),.d (ci 0),.d (.sl [])])] [] [] 4 ?_ ?_;·
  refine ba Z (fun ai=>?_) (fun ai=>?_);·
   have hn:¬f.n=cw:=by simpa[cw]using ai
   rw[show jM j f (fK j f (gr j (cQ j (da j))))=(fK j f (gr j (cQ j (da j)))||dD j f.n 3)from if_neg hn,show nO j f=(cm j f.n 3).n from if_neg hn];refine aa<|aY 3 Z<|bu [1] [] Z Z Z Z Z ((lf j (fK j f (gr j (cQ j (da j)))) f.n 3)) Z Z (by rfl) (by rfl) Z Z Z Z<|aY 2 Z<|be aW Z Z Z Z Z Z Z Z<|ab<|cZ [0,1,2,3] Z ?_ ⟨rfl,rfl,trivial⟩ ?_ trivial Z;·repeat' constructor
   repeat' constructor
  have hn:f.n=cw:=by simpa[cw]using ai
  rw[show jM j f (fK j f (gr j (cQ j (da j))))=fK j f (gr j (cQ j (da j)))from if_pos hn,show nO j f=0 from if_pos hn];refine ah (cZ [0,1,2,3] Z ?_ ⟨rfl,rfl,trivial⟩ ?_ trivial Z);·repeat' constructor
  repeat' constructor
 refine qs (ae ?_);apply bC;(case hb=>rfl);·
  refine aY 4 Z ?_;apply eU;(case hj=>rfl);(case hl=>rfl);·
   intro a8;refine bA Z Z Z Z<|bA Z Z Z Z<|bA Z Z Z Z<|aY 2 Z ?_
   refine ab (b4 Z Z Z)
  intro a8;refine bz Z Z<|pE Z<|bz Z Z<|aY 1 Z<|bz Z Z<|aY 3 Z<|ab<|b4 Z Z Z
 refine qs<|ae<|ae<|?_
 apply bC;(case hb=>rfl);·
  refine aY 4 Z ?_;apply eU;(case hj=>rfl);(case hl=>rfl);·
   intro b0;refine bz Z Z<|aY 2 Z<|ab<|b4 Z Z Z
  intro b0;refine bA Z Z Z Z (pE Z (ab (b4 Z Z Z)))
 refine qs (W.kV [(3,.ptr 0 0),(6,.ptr 1 0),(10,.ptr 2 0),(11,.ptr 3 0)] [7,12] [(0,oH),(1,obj j (mC j f (iS j f) (jM j f (fK j f (gr j (cQ j (da j))))))),(2,f.c.map A.d),(3,[.d (ci (BV j)),.d (ci f.kind),.d (cs (pO j f)),.d (ci (nO j f)),.d (ci (mO j f (iS j f))),.d (.sl [])])] [] [] 4 ?_ ?_);·
  refine ba Z (fun aj=>?_) (fun aj=>?_);·
   have hm:wG f (iS j f)=true:=aj;rw[show mC j f (iS j f) (jM j f (fK j f (gr j (cQ j (da j)))))=(jM j f (fK j f (gr j (cQ j (da j))))||dD j f.m 3)from if_pos hm,show mO j f (iS j f)=(cm j f.m 3).n from if_pos hm];refine aa<|aY 3 Z<|bu [1] [] Z Z Z Z Z ((lf j (jM j f (fK j f (gr j (cQ j (da j))))) f.m 3)) Z Z (by rfl) (by rfl) Z Z Z Z<|aY 2 Z<|be aW Z Z Z Z Z Z Z Z<|ab<|cZ [0,1,2,3] Z ?_ ⟨rfl,rfl,rfl,rfl,trivial⟩ ?_ trivial Z;·repeat' constructor
   repeat' constructor
  have hm:¬wG f (iS j f)=true:=by rw[show wG f (iS j f)=false from aj];simp
  rw[show mC j f (iS j f) (jM j f (fK j f (gr j (cQ j (da j)))))=jM j f (fK j f (gr j (cQ j (da j))))from if_neg hm,show mO j f (iS j f)=0 from if_neg hm];refine ah (cZ [0,1,2,3] Z ?_ ⟨rfl,rfl,rfl,rfl,trivial⟩ ?_ trivial Z);·repeat' constructor
  repeat' constructor
 refine qs<|ae<|aZ 2 Z<|W.kV [(3,.ptr 0 0),(6,.ptr 1 0),(10,.ptr 2 0),(11,.ptr 3 0)] [7,12] [(0,oH),(1,obj j (uU j f (mC j f (iS j f) (jM j f (fK j f (gr j (cQ j (da j)))))))),(2,f.c.map A.d),(3,[.d (ci (BV j)),.d (ci f.kind),.d (cs (pO j f)),.d (ci (nO j f)),.d (ci (mO j f (iS j f))),.d (.sl (yb (Eh j f)))])] [] [] 4 ?_ ?_;·
  refine ba Z (fun O=>?_) (fun O=>?_);·
   rw[show uU j f (mC j f (iS j f) (jM j f (fK j f (gr j (cQ j (da j))))))=((mC j f (iS j f) (jM j f (fK j f (gr j (cQ j (da j)))))||dD j cg 5)||ep (cm j cg 5).kids)from if_pos O,show Eh j f=r8 j from if_pos O];refine aa<|pE Z<|bu [1] [] Z Z Z Z Z ((Fb j (mC j f (iS j f) (jM j f (fK j f (gr j (cQ j (da j)))))) hs)) Z Z (by rfl) (by rfl) Z Z Z Z<|pE Z<|be aW Z Z Z Z Z Z Z Z<|ab<|cZ [0,1,2,3] Z ?_ ⟨rfl,rfl,rfl,rfl,trivial⟩ ?_ trivial Z;·repeat' constructor
   repeat' constructor
  rw[show uU j f (mC j f (iS j f) (jM j f (fK j f (gr j (cQ j (da j))))))=mC j f (iS j f) (jM j f (fK j f (gr j (cQ j (da j)))))from if_neg (by rw[O];simp),show Eh j f=[]from if_neg (by rw[O];simp)];refine ah (cZ [0,1,2,3] Z ?_ ⟨rfl,rfl,rfl,rfl,trivial⟩ ?_ trivial Z);·repeat' constructor
  repeat' constructor
 refine qs<|ae<|ae<|?_
 have hB:w9 j f (cQ j (da j))=uU j f (mC j f (iS j f) (jM j f (fK j f (gr j (cQ j (da j)))))):=rfl;generalize uU j f (mC j f (iS j f) (jM j f (fK j f (gr j (cQ j (da j))))))=B at hB⊢;apply bC;(case hb=>rfl);·
  refine aY 5 Z ?_;apply eU;(case hj=>rfl);(case hl=>rfl);·
   intro b2;iterate 6 refine bA Z Z Z Z ?_
   refine pE Z (ab (b4 Z Z Z))
  intro b2;refine bz Z Z<|pE Z<|bz Z Z<|aY 1 Z<|bz Z Z<|pE Z<|bz Z Z<|pu (bm Z Z Z (wQ f (iS j f)) Z) Z<|bz Z Z<|pu (bm Z Z Z (vG j B (fz f (iS j f))) Z) Z<|bz Z Z<|aY 2 Z<|ab<|b4 Z Z Z
 refine qs (ba Z (fun U=>?_) (fun U=>?_));·
  have J:cH j=(0,ku,10):=by rw[hE,hB,if_pos U]
  refine ae<|aa<|pu (gX (build aW Z Z Z Z) Z) Z<|pE Z<|be aW Z Z Z Z Z Z Z Z<|pE Z<|ab<|qs<|W.ret<|bl<|QV.bo aW trivial Z ?_;rw[J];rfl
 rw[hB,if_neg (by rw[show(bif B then true else !iB j (fz f (iS j f)))=false from U];simp)]at hE;refine ah<|qs<|ae<|ae<|aa<|aY 1 Z ?_
 refine pu (bm Z Z Z (xw (nC j f)) Z) Z<|pE Z<|ab<|qs<|aZ 2 Z<|ba Z (fun X=>?_)<|fun X=>?_;·
  have J:cH j=(0,ku,dJ (nC j f)):=by rw[hE,if_pos (by simpa using X)]
  refine ae<|aa<|pu (gX (build aW Z Z Z Z) Z) Z<|aY 2 Z<|be aW Z Z Z Z Z Z Z Z<|pE Z<|ab<|qs<|W.ret<|bl<|QV.bo aW trivial Z ?_;rw[J];rfl
 have J:cH j=((cm j de 3).n,nC j f,0):=by rw[hE,if_neg (by simpa using X)]
 refine ah<|qs<|ae<|W.qp aW 3 0 (by kernel_rfl) Z Z<|gf Z (ev aW Z) Z<|gf Z (ev aW Z) Z<|gf Z (ev aW Z) Z<|aF<|be aW Z Z Z Z Z Z Z Z<|pE Z<|ab<|qs<|W.ret<|QV.bo aW trivial Z ?_;rw[J];rfl
theorem Fa(j:JV)(hs:uw j):bp Tryz.prog 20 [.ag j.c] (.tup [.d (ci (dX j).1),.ag (dX j).2.1.c,.d (ci (dX j).2.2)]) 0:=by
 refine bp.dk aW (n:=106) (rs:=[.tmp 2,.cell 3 50,.tmp 4]) Tryz.func20 (by kernel_rfl) Z Tryz.ntmps20 Tryz.results20 Z fun C hC hG=>ae<|aa<|cG Z Z Z<|pE Z<|bT aW Z Z Z<|pE Z<|ab<|qs<|ae<|aa<|aY 1 Z<|pu (bm Z Z Z (ES j) Z) Z<|pE Z<|ab<|qs<|ae<|aZ 2 Z<|ba Z (fun h21=>?_)<|fun h21=>?_
 ·
  have hF:dX j=(0,ku,ck j 1):=by unfold dX;rw[if_pos (by simpa using h21)]
  refine ae<|aa<|pu (gX (build aW Z Z Z Z) Z) Z<|aY 2 Z<|be aW Z Z Z Z Z Z Z Z<|pE Z<|ab<|qs<|W.ret<|bl<|QV.bo aW trivial Z ?_
  rw[hF];rfl
 have hcj:¬ck j 1≠0:=by simpa using h21
 refine ah<|qs<|ae<|aa<|aY 1 Z<|pu (bm Z Z Z (vg j) Z) Z<|aY 7 Z<|ab<|qs<|ae<|aa<|pE Z<|pu (bm Z Z Z (F4 (cP j)) Z) Z<|pu (gX (build aW Z Z Z Z) Z) Z<|bT aW Z Z Z<|be aW Z Z Z Z Z Z Z Z<|ab<|qs<|ae<|ae<|?_
 apply bC;(case hb=>rfl)
 ·
  refine aY 3 Z ?_
  apply eU;(case hj=>rfl);(case hl=>rfl)
  ·
   intro g35
   refine bA Z Z Z Z<|bA Z Z Z Z<|bA Z Z Z Z<|pE Z<|ab<|b4 Z Z Z
  intro g35
  refine bz Z Z<|pE Z<|bz Z Z<|aY 1 Z<|bz Z Z<|aY 2 Z<|ab<|b4 Z Z Z
 refine qs (ba Z (fun h39=>?_) (fun h39=>?_))
 ·
  have hF:dX j=(0,ku,10):=by unfold dX;rw[if_neg hcj,if_pos (by revert h39;cases gk j<;>exact fun h=>h)]
  refine ae<|aa<|pu (gX (build aW Z Z Z Z) Z) Z<|pE Z<|be aW Z Z Z Z Z Z Z Z<|pE Z<|ab<|qs<|W.ret<|bl<|QV.bo aW trivial Z ?_
  rw[hF];rfl
 have hhd:¬(bif gk j then true else decide (fa (cP j)=0))=true:=by revert h39;cases gk j<;>intro h<;>simp_all
 refine ah<|qs<|ae<|aa<|aY 1 Z<|pu (bm Z Z Z (qw j ec) Z) Z<|aY 3 Z<|bT aW Z Z Z<|be aW Z Z Z Z Z Z Z Z<|pE Z<|ab<|qs<|ae<|W.kV [(1,.ptr 0 0),(3,.ptr 1 0),(9,.ptr 2 0),(12,.d (.sl ((fh (fa (cP j)) (eL j)).map sc)))] [7] [(0,j.c.map A.d),(1,oH),(2,(xR (fa (cP j))).c.map A.d)] [] [] 3 ?_ ?_
 ·
  refine aa<|aY 6 Z<|gz Z Z (fun g51=>?_)<|fun g51=>?_
  ·
   have hb:eL j=decide ((oJ (cM j ec)).n=2):=by unfold eL;rw[show decide (((cM j ec).getD cR).op=3)=true from g51];rfl
   rw[hb]
   refine bz Z Z<|pE Z<|bz Z Z<|aY 1 Z<|bz Z Z<|aY 2 Z<|pu (bm Z Z Z (Aa (fa (cP j)) _) Z) Z<|pE Z<|ab<|cZ [0,1,2] Z ?_ ⟨rfl,rfl,trivial⟩ ?_ trivial Z
   ·repeat' constructor
   repeat' constructor
  have hb:eL j=false:=by unfold eL;rw[show decide (((cM j ec).getD cR).op=3)=false from g51];rfl
  rw[hb]
  refine bA Z Z Z Z<|bA Z Z Z Z<|bA Z Z Z Z<|pE Z<|pu (bm Z Z Z (Aa (fa (cP j)) _) Z) Z<|pE Z<|ab<|cZ [0,1,2] Z ?_ ⟨rfl,rfl,trivial⟩ ?_ trivial Z
  ·repeat' constructor
  repeat' constructor
 refine qs<|ae<|ae<|?_
 have hk4:=Eg (fa (cP j)) (eL j)
 refine aa<|aY 5 Z<|pu (b5 (ev aW Z) (y:=(((fh (fa (cP j)) (eL j)).map sc).length:Int)+2) (wrap64 (by rw[η];omega))) Z<|pE Z<|ab<|qs<|ba Z (fun h63=>?_)<|fun h63=>?_
 ·
  have hF:dX j=(0,ku,10):=by
   unfold dX
   rw[if_neg hcj,if_neg hhd,if_pos]
   intro q
   rw[η,η]at h63
   rw[q]at h63
   simp at h63
  refine ae<|aa<|pu (gX (build aW Z Z Z Z) Z) Z<|pE Z<|be aW Z Z Z Z Z Z Z Z<|pE Z<|ab<|qs<|W.ret<|bl<|QV.bo aW trivial Z ?_
  rw[hF];rfl
 have hlen:¬j.keys.length≠(fh (fa (cP j)) (eL j)).length+2:=by
  rw[η,η]at h63
  intro q
  apply q
  simp at h63
  omega
 have hE:dX j=match dW j (fh (fa (cP j)) (eL j)) (xR (fa (cP j)))with
   |none=>(0,ku,10)
   |some e=>if dJ e≠0 then(0,ku,dJ e)else(cB j,e,0):=by
  unfold dX
  rw[if_neg hcj,if_neg hhd,if_neg hlen]
  rfl
 generalize fh (fa (cP j)) (eL j)=l at hE⊢
 refine ah<|qs<|ae<|aZ 1 Z<|W.block<|W.len (t:=12) Z Z<|fun hlen=>?_
 try simp only[η,Ex.bE]at hlen
 refine W.bY (ι:={x:Nat×Ev//match x with|(k,e)=>k<=l.length∧dW j (l.drop k) e=dW j l (xR (fa (cP j)))})
  (fun x=>match x.1 with|(k,e)=>[(1,.ptr 0 0),(3,.ptr 1 0),(9,.ptr 2 0),(13,.d (.v (.int .i64 ((k:Nat):Int))))]) [(7,_),(12,_)]
  (fun x=>match x.1 with|(k,e)=>[(0,j.c.map A.d),(1,oH),(2,e.c.map A.d)]) [] [] 3 (fun x=>match x.1 with|(k,e)=>l.length-k)
  [0,1,2] ⟨(0,xR (fa (cP j))),?_⟩ rfl ?_ ⟨rfl,rfl,rfl,rfl,trivial⟩ ?_ trivial rfl ?_
 ·exact⟨ς _,rfl⟩
 ·repeat' constructor
 ·repeat' constructor
 rintro⟨⟨k,e⟩,hk,hI⟩
 show W _ _ _ _ _ ⟨[(1,.ptr 0 0),(3,.ptr 1 0),(9,.ptr 2 0),(13,.d (.v (.int .i64 ((k:Nat):Int)))),(7,_),(12,_)],[(0,j.c.map A.d),(1,oH),(2,e.c.map A.d)],[],3⟩
 refine ae<|aZ 4 Z<|ct (l:=l) (k:=k) Z (by simp[Ex.bE,bh]) hk (fun x hx hd hlt=>?_)<|fun he hd=>?_
 ·
  rw[hd]at hI
  refine ah<|qs<|ae<|W.block<|ae<|W.qp aW 11 1 (by kernel_rfl) Z Z<|gf Z (ev aW Z) Z<|gf Z (ev aW Z) Z<|gf Z (ev aW Z) Z<|gf Z (indexAddr (l:=sc x) aW Z Z Z Z Z Z (ε _) (bF hx) Z) Z<|gf Z (ev aW Z) Z<|gf Z (bm Z Z Z (qw j x) Z) Z<|gf Z (ev aW Z) Z<|gf Z (ev aW Z) Z<|gf Z (ev aW Z) Z<|tA 0 Z Z Z Z Z Z<|wW 9 0 Z Z Z Z Z Z Z Z Z Z Z Z<|aF<|pE Z<|ab<|qs<|ae<|W.qp aW 12 1 (by kernel_rfl) Z Z<|gf Z (ev aW Z) Z<|gf Z (ev aW Z) Z<|gf Z (ev aW Z) Z<|gf Z (indexAddr (l:=sc x) aW Z Z Z Z Z Z (ε _) (bF hx) Z) Z<|gf Z (ev aW Z) Z<|gf Z (ev aW Z) Z<|gf Z (bm Z Z Z (Ip e x (oJ (cM j x)) (hs.get x)) Z) Z ?_
  refine gf Z (ev aW Z) Z<|gf Z (ev aW Z) Z<|gf Z (ev aW Z) Z<|tA 0 Z Z Z Z Z Z<|wW 10 0 Z Z Z Z Z Z Z Z Z Z Z Z<|aF<|pE Z<|ab<|qs<|ae<|ae<|?_
  apply bC;(case hb=>rfl)
  ·
   refine aY 3 Z ?_
   apply eU;(case hj=>rfl);(case hl=>rfl)
   ·
    intro g92
    refine bA Z Z Z Z<|bA Z Z Z Z<|pE Z<|ab<|b4 Z Z Z
   intro g92
   refine bz Z Z<|pE Z<|bz Z Z<|aY 2 Z<|ab<|b4 Z Z Z
  refine qs (ba Z (fun h95=>?_) (fun h95=>?_))
  ·
   have hF:dX j=(0,ku,10):=by rw[hE,←hI,I7 h95]
   refine ae<|aa<|pu (gX (build aW Z Z Z Z) Z) Z<|pE Z<|be aW Z Z Z Z Z Z Z Z<|pE Z<|ab<|qs<|W.ret<|bl<|bw<|bl<|cN<|bw<|bl<|QV.bo aW trivial Z ?_
   rw[hF];rfl
  have hn:=hI
  rw[IT h95]at hn
  refine ah<|qs<|aa<|aY 1 Z<|be aW Z Z Z Z Z Z Z Z<|ab<|bW<|qs<|cJ 3 Z<|W.bZ [0,1,2] ⟨(k+1,(fe e x (oJ (cM j x))).1),?_⟩ ?_ Z ?_ ⟨rfl,rfl,rfl,rfl,trivial⟩ ?_ trivial Z
  ·exact⟨hlt,hn⟩
  ·dsimp only;omega
  ·repeat' first|exact trivial|refine⟨rfl,?_⟩|refine⟨bH (by assumption) (by assumption),?_⟩
  repeat' constructor
 rw[hd]at hI
 refine an<|bL<|bM<|bK<|qs<|ae<|aa<|aY 1 Z<|pu (bm Z Z Z (xN e) Z) Z<|pE Z<|ab<|qs<|ae<|aZ 2 Z<|ba Z (fun h101=>?_)<|fun h101=>?_
 ·
  have hF:dX j=(0,ku,dJ e):=by rw[hE,←hI];exact if_pos (by simpa using h101)
  refine ae<|aa<|pu (gX (build aW Z Z Z Z) Z) Z<|aY 2 Z<|be aW Z Z Z Z Z Z Z Z<|pE Z<|ab<|qs<|W.ret<|bl<|QV.bo aW trivial Z ?_
  rw[hF];rfl
 have hF:dX j=(cB j,e,0):=by rw[hE,←hI];exact if_neg (by simpa using h101)
 refine ah<|qs<|ae<|W.qp aW 3 0 (by kernel_rfl) Z Z<|gf Z (ev aW Z) Z<|gf Z (ev aW Z) Z<|gf Z (ev aW Z) Z<|aF<|be aW Z Z Z Z Z Z Z Z<|pE Z<|ab<|qs<|W.ret<|QV.bo aW trivial Z ?_
 rw[hF];rfl
theorem Ez(l:List Int)(s):bp Tryz.prog 162 [.d (.sl (l.map ic)),.d (.v (.int .i64 s))] (.d (.v (.int .i64 (idx (l.findIdx? fun x=>decide (s=x)))))) 0:=by
 refine bp.b6 (n:=19) (ts:=[4]) Tryz.func162 (by kernel_rfl) Z Tryz.ntmps162 Tryz.results162 Z Z fun C hC U=>aZ 1 Z<|ae<|aZ 3 Z<|W.block<|W.len (t:=0) Z Z<|fun hlen=>?_;try simp only[η,Ex.bE]at hlen
 refine W.bY (ι:={x:Nat//match x with|k=>k<=l.length∧cX (fun x=>decide (s=x)) l k})
  (fun x=>match x.1 with|k=>[(8,.d (.v (.int .i64 ((k:Nat):Int))))]) [(0,_),(1,_),(7,_)]
  (fun x=>match x.1 with|k=>[]) [] [] 0 (fun x=>match x.1 with|k=>l.length-k)
  [] ⟨0,?_⟩ Z ?_ ⟨rfl,rfl,rfl,rfl,rfl,rfl,trivial⟩ ?_ trivial Z ?_
 ·exact⟨ς _,cX.zero⟩
 ·repeat' constructor
 ·repeat' exact trivial
 rintro⟨k,O,J⟩;show W _ _ _ _ _ ⟨[(8,.d (.v (.int .i64 ((k:Nat):Int)))),(0,_),(1,_),(7,_)],[],[],0⟩;refine aZ 1 Z<|ae<|ct (l:=l) (k:=k) Z (by simp[Ex.bE,bh]) O (fun x M hd N=>?_)<|fun he hd=>?_;·
  refine ah<|qs<|ae<|W.block<|aZ 2 Z<|ae<|aa<|aY 3 Z<|pu (indexAddr aW Z Z Z Z Z Z (ε _) (bF (by assumption)) Z) Z<|aY 2 Z<|ab<|qs<|ba Z (fun I=>?_)<|fun I=>?_;·
   refine aZ 2 Z<|W.ret<|bw<|bl<|cN<|bw<|bl<|QF.bo trivial Z ?_;simp only[norm,bO];rw[J.found M I];rfl
  refine ah<|bW<|qs<|cJ 2 Z<|W.bZ [] ⟨k+1,?_⟩ ?_ Z ?_ ⟨rfl,rfl,rfl,rfl,rfl,rfl,trivial⟩ ?_ trivial Z;·exact⟨N,J.step M I⟩
  ·dsimp only;omega
  ·repeat' first|exact trivial|refine⟨bH (by assumption) (by assumption),?_⟩
  repeat' exact trivial
 refine an<|bL<|bM<|bK<|qs<|aZ 1 Z<|W.ret<|QF.bo trivial Z ?_;simp only[norm,bO];rw[J.end_ he];rfl
theorem Ac(l:List Int)(s):bp Tryz.prog 121 [.d (.sl (l.map ic)),.d (.v (.int .i64 s))] (.d (.v (.bool (l.any fun x=>decide (s=x))))) 0:=by refine bp.b6 (n:=9) (ts:=[4]) Tryz.func121 (by kernel_rfl) Z Tryz.ntmps121 Tryz.results121 Z Z fun C hC I=>?_;refine aZ 1 Z ?_;refine ae (aa (aY 2 Z ?_));refine pu (bm Z Z Z (Ez ..) Z) Z ?_;refine aY 2 Z ?_;refine ab (qs (W.ret (QF.bo trivial Z ?_)));simp only[norm,bO];rw[<-mf]
theorem JA(b):(ea b).length<=2:=by unfold ea;split<;>(try split)<;>(try split)<;>simp
theorem wY:∀l:List UInt8,(l.flatMap ea).length<=2*l.length
 |[]=>by simp
 |b::l=>by have h1:=JA b;have h2:=wY l;simp only[List.flatMap_cons,ν,Ξ];omega
theorem kF(t l):aX (t++bytesOf l)=aX t++l:=by simp[aX,bytesOf]
theorem Kw(h:(b.toNat:Int)=34∨(b.toNat:Int)=92)(t):t++B #[92]++bytesOf [b]=t++bytesOf (ea b):=by
 have e:b=34∨b=92:=by
  rcases h with h|h
  ·exact .inl (UInt8.toNat_inj.1 (by show b.toNat=34;omega))
  exact .inr (UInt8.toNat_inj.1 (by show b.toNat=92;omega))
 refine iW ?_;unfold ea;rw[if_pos e];simp[aX,bytesOf]
theorem L5(h:(b.toNat:Int)=10)(t):t++B #[92,110]=t++bytesOf (ea b):=by have e:b=10:=UInt8.toNat_inj.1 (by show b.toNat=10;omega);subst e;rfl
theorem LO(h:(b.toNat:Int)=9)(t):t++B #[92,116]=t++bytesOf (ea b):=by have e:b=9:=UInt8.toNat_inj.1 (by show b.toNat=9;omega);subst e;rfl
theorem LY(h1:¬(b.toNat:Int)=34)(h2:¬(b.toNat:Int)=92)(h3:¬(b.toNat:Int)=10)(h4:¬(b.toNat:Int)=9):ea b=[b]:=by unfold ea;rw[if_neg (by rintro(rfl|rfl)<;>simp at h1 h2),if_neg (by rintro rfl;simp at h3),if_neg (by rintro rfl;simp at h4)]
theorem gP(b:UInt8):(bytesOf [b]).size=1∧∀x,(bytesOf [b]).data[0]?=some x->(x.toNat:Int)=(b.toNat:Int):=⟨rfl,by intro x I;cases I;rfl⟩
theorem nK(t a b):t++bytesOf a++bytesOf b=t++bytesOf (a++b):=by refine iW ?_;show aX _=aX _;rw[kF,kF,kF,R']
theorem gg(t:ByteArray)(a:List UInt8):(t++bytesOf a).size=t.size+a.length:=by rw[Ah];rfl
theorem ga{u}{s m r:ByteArray}{c}(e:s++m=r)(hm:m.size=1)(I:∀b,m.data[0]?=some b->(b.toNat:Int)=c)(hb:s.size+1<=140737488355328):bU Tryz.prog 139 [.ptr 0 0,.d (.v (.int .u8 c))] [[.np 0 tB u,.bf 1 tU s]] 1 (.d (.v .nilIface)) [[.np 0 tB true,.bf 1 tU r]] 1:=e▸rB u s c m hm I hb
theorem nn{u}{s x r:ByteArray}(e:s++x=r)(hb:s.size+x.size<=140737488355328):bU Tryz.prog 137 [.ptr 0 0,.d (.v (.string x))] [[.np 0 tB u,.bf 1 tU s]] 1 (.tup [.d (.v (.int .i64 x.size)),.d (.v .nilIface)]) [[.np 0 tB true,.bf 1 tU r]] 1:=e▸D8 u s x hb
theorem Hw(u)(t s:ByteArray)(hz:t.size+2*s.size+2<=140737488355328):bU Tryz.prog 138 [.ptr 0 0,.d (.v (.string s))] [[.np 0 tB u,.bf 1 tU t]] 1 (.tup []) [[.np 0 tB true,.bf 1 tU (t++bytesOf (eg (aX s)))]] 1:=by
 refine bU.dk aW (n:=39) (rs:=[]) Tryz.func138 (by kernel_rfl) Z Tryz.ntmps138 Tryz.results138 Z Z fun C hC hG=>ae<|aa<|pE Z<|bu [0] [1] Z Z Z Z Z ((rB u t 34 (bytesOf [34]) Z (gP 34).2 (by omega))) Z Z (by rfl) (by rfl) Z Z Z Z<|ab<|qs<|ae<|aZ 3 Z<|W.block<|W.lI (t:=1) Z<|fun hok=>?_
 have hlen:=kC hok
 refine W.bY (ι:={x:Nat×ByteArray//match x with|(k,T)=>k<=(aX s).length∧T=t++bytesOf (34::((aX s).take k).flatMap ea)})
  (fun x=>match x.1 with|(k,T)=>[(0,.ptr 0 0),(10,.d (.v (.int .i64 ((k:Nat):Int))))]) [(1,_),(9,_)]
  (fun x=>match x.1 with|(k,T)=>[(0,[.np 0 tB true,.bf 1 tU T])]) [] [1] 2 (fun x=>match x.1 with|(k,T)=>(aX s).length-k)
  [0,3] ⟨(0,t++bytesOf [34]),?_⟩ rfl ?_ ⟨rfl,rfl,rfl,rfl,trivial⟩ ?_ trivial rfl ?_
 ·exact⟨ς _,by simp⟩
 ·repeat' constructor
 ·repeat' constructor
 rintro⟨⟨k,T⟩,hk,hI⟩
 show W _ _ _ _ _ ⟨[(0,.ptr 0 0),(10,.d (.v (.int .i64 ((k:Nat):Int)))),(1,_),(9,_)],[(0,[.np 0 tB true,.bf 1 tU T])],[1],2⟩
 refine aZ 1 Z<|ae<|ct (l:=aX s) (k:=k) Z (by simp[Ex.bE,bh]) hk (fun b hx hd hlt=>?_)<|fun he hd=>?_
 ·
  have hTs:T.size<=t.size+1+2*k:=by
   rw[hI,gg]
   have:=wY ((aX s).take k)
   simp at*;omega
  have hk1:k+1<=s.size:=by rw[<-bh];omega
  have hN:T++bytesOf (ea b)=t++bytesOf (34::((aX s).take (k+1)).flatMap ea):=by rw[hI,nK,Ψ,hx];simp
  refine ah<|qs<|ae<|W.block<|aZ 2 Z<|ae<|aa<|aY 2 Z<|pu (ew aW Z Z Z Z (ε _) (fN (by assumption))) Z<|pE Z<|ab<|qs<|aZ 1 Z<|W.block<|ae<|aZ 2 Z<|ba Z (fun h20=>?_)<|fun h20=>?_
  ·
   refine ah<|qs<|W.gJ Z<|ae<|aa<|pE Z<|bu [0] [1] Z Z Z Z Z ((rB true T 92 (bytesOf [92]) Z (gP 92).2 (by omega))) Z Z (by rfl) (by rfl) Z Z Z Z<|ab<|qs<|aa<|aY 2 Z<|bu [0] [3] Z Z Z Z Z ((ga (c:=b.toNat) (s:=T++bytesOf [92]) (m:=bytesOf [b]) (Kw (b:=b) (by simp_all) T) Z (gP b).2 (by rw[gg];simp;omega))) Z Z (by rfl) (by rfl) Z Z Z Z<|ab<|bW<|bW<|qs<|cJ 2 Z<|W.bZ [0,5] ⟨(k+1,T++bytesOf (ea b)),?_⟩ ?_ Z ?_ ⟨rfl,rfl,rfl,rfl,trivial⟩ ?_ trivial Z
   ·exact⟨hlt,hN⟩
   ·dsimp only;omega
   ·repeat' first|exact trivial|refine⟨rfl,?_⟩|refine⟨bH (by assumption) (by assumption),?_⟩
   repeat' constructor
  refine cJ 2 Z<|qs<|ba Z (fun h20=>?_)<|fun h20=>?_
  ·
   refine ae<|aa<|pE Z<|bu [0] [1] Z Z Z Z Z ((rB true T 92 (bytesOf [92]) Z (gP 92).2 (by omega))) Z Z (by rfl) (by rfl) Z Z Z Z<|ab<|qs<|aa<|aY 2 Z<|bu [0] [3] Z Z Z Z Z ((ga (c:=b.toNat) (s:=T++bytesOf [92]) (m:=bytesOf [b]) (Kw (b:=b) (by simp_all) T) Z (gP b).2 (by rw[gg];simp;omega))) Z Z (by rfl) (by rfl) Z Z Z Z<|ab<|bW<|bW<|qs<|cJ 2 Z<|W.bZ [0,5] ⟨(k+1,T++bytesOf (ea b)),?_⟩ ?_ Z ?_ ⟨rfl,rfl,rfl,rfl,trivial⟩ ?_ trivial Z
   ·exact⟨hlt,hN⟩
   ·dsimp only;omega
   ·repeat' first|exact trivial|refine⟨rfl,?_⟩|refine⟨bH (by assumption) (by assumption),?_⟩
   repeat' constructor
  refine aZ 2 Z<|ba Z (fun h28=>?_)<|fun h28=>?_
  ·
   refine aa<|pE Z<|bu [0] [1] Z Z Z Z Z ((nn (s:=T) (x:=bytesOf [92,110]) (L5 (b:=b) (by simp_all) T) (by rw[show(bytesOf [92,110]).size=2 from rfl];omega))) Z Z (by rfl) (by rfl) Z Z Z Z<|ab<|bW<|bW<|qs<|cJ 2 Z<|W.bZ [0,3] ⟨(k+1,T++bytesOf (ea b)),?_⟩ ?_ Z ?_ ⟨rfl,rfl,rfl,rfl,trivial⟩ ?_ trivial Z
   ·exact⟨hlt,hN⟩
   ·dsimp only;omega
   ·repeat' first|exact trivial|refine⟨rfl,?_⟩|refine⟨bH (by assumption) (by assumption),?_⟩
   repeat' constructor
  refine aZ 2 Z<|ba Z (fun h32=>?_)<|fun h32=>?_
  ·
   refine aa<|pE Z<|bu [0] [1] Z Z Z Z Z ((nn (s:=T) (x:=bytesOf [92,116]) (LO (b:=b) (by simp_all) T) (by rw[show(bytesOf [92,116]).size=2 from rfl];omega))) Z Z (by rfl) (by rfl) Z Z Z Z<|ab<|bW<|bW<|qs<|cJ 2 Z<|W.bZ [0,3] ⟨(k+1,T++bytesOf (ea b)),?_⟩ ?_ Z ?_ ⟨rfl,rfl,rfl,rfl,trivial⟩ ?_ trivial Z
   ·exact⟨hlt,hN⟩
   ·dsimp only;omega
   ·repeat' first|exact trivial|refine⟨rfl,?_⟩|refine⟨bH (by assumption) (by assumption),?_⟩
   repeat' constructor
  refine aa<|aY 2 Z<|bu [0] [1] Z Z Z Z Z ((ga (c:=b.toNat) (s:=T) (m:=bytesOf [b]) (congrArg (fun l=>T++bytesOf l) (LY (b:=b) (by simp_all) (by simp_all) (by simp_all) (by simp_all)).symm) Z (gP b).2 (by omega))) Z Z (by rfl) (by rfl) Z Z Z Z<|ab<|bW<|bW<|qs<|cJ 2 Z<|W.bZ [0,3] ⟨(k+1,T++bytesOf (ea b)),?_⟩ ?_ Z ?_ ⟨rfl,rfl,rfl,rfl,trivial⟩ ?_ trivial Z
  ·exact⟨hlt,hN⟩
  ·dsimp only;omega
  ·repeat' first|exact trivial|refine⟨rfl,?_⟩|refine⟨bH (by assumption) (by assumption),?_⟩
  repeat' constructor
 have e:k=(aX s).length:=by have:=congrArg List.length hd;simp at this;omega
 have hTs:T.size<=t.size+1+2*k:=by
  rw[hI,gg]
  have:=wY ((aX s).take k)
  simp at*;omega
 have hk1:k=s.size:=by rw[<-bh];omega
 have hfin:T++bytesOf [34]=t++bytesOf (eg (aX s)):=by rw[hI,nK,e,List.take_length];rfl
 refine an<|bL<|bM<|bK<|qs<|aa<|pE Z<|bu [0] [1] Z Z Z Z Z ((ga (c:=34) (s:=T) (m:=bytesOf [34]) hfin Z (gP 34).2 (by omega))) Z Z (by rfl) (by rfl) Z Z Z Z<|ab<|ak aW [3] trivial Z Z Z Z ?_ ?_
 ·exact⟨rfl,trivial⟩
 rfl
theorem D4:∀l:List UInt8,l.length<=(l.flatMap ea).length
 |[]=>by simp
 |b::l=>by
  have h1:1<=(ea b).length:=by unfold ea;split<;>(try split)<;>(try split)<;>simp
  have h2:=D4 l;simp only[List.flatMap_cons,ν,Ξ];omega
theorem ze(s:ByteArray):s.size+2<=(eg (aX s)).length:=by have h:=D4 (aX s);rw[bh]at h;simp only[eg,Ξ,ν,List.length_nil];omega
theorem vt:∀(l:List JV)(z:JV)(first:Bool),dR (l++[z]) first=dR l first++(if first&&l.isEmpty then[]else[44])++bD z
 |[],z,first=>by cases first<;>simp[dR]
 |a::l,z,first=>by rw[List.cons_append,dR,dR,vt l z false];simp
theorem sr:∀(ks:List ByteArray)(l:List JV)(s:ByteArray)(z:JV)(first:Bool),ks.length=l.length->cK (ks++[s]) (l++[z]) first=cK ks l first++(if first&&l.isEmpty then[]else[44])++eg (aX s)++[58]++bD z
 |[],[],s,z,first,_=>by cases first<;>simp[cK]
 |a::ks,b::l,s,z,first,h=>by rw[List.cons_append,List.cons_append,cK,cK,sr ks l s z false (by simpa using h)];simp
 |[],_::_,_,_,_,h=>by simp at h
 |_::_,[],_,_,_,h=>by simp at h
def iq(j:JV)(k:Nat):List UInt8:=if j.op=6 then cK (j.keys.take k) (j.kids.take k) true else dR (j.kids.take k) true
def pJ(j:JV):UInt8:=if j.op=6 then 123 else 91
def vR(j:JV):UInt8:=if j.op=6 then 125 else 93
def ek(k:Nat):List UInt8:=if k=0 then[]else[44]
def iu(j:JV)(k:Nat):List UInt8:=if j.op=6 then eg (aX (j.keys.getD k (B #[])))++[58]else[]
theorem xE(j:JV):iq j 0=[]:=by unfold iq;split<;>simp[cK,dR]
theorem Gv{l:List JV}(h:k<l.length):(l.take k).isEmpty=decide (k=0):=by
 rw[Bool.eq_iff_iff];simp only[List.isEmpty_iff,Δ,List.take_eq_nil_iff];constructor;·
  rintro(h1|h1);·exact h1
  rw[h1]at h;simp at h
 exact fun h1=>.inl h1
theorem pG{j:JV}{z:JV}(I:j.kids[k]?=some z)(hl:j.op=6->j.keys.length=j.kids.length):iq j (k+1)=iq j k++ek k++iu j k++bD z:=by
 have M:k<j.kids.length:=(δ.1 I).1;have hs:(if(true&&(j.kids.take k).isEmpty)=true then[]else[44])=ek k:=by rw[Gv M];unfold ek;by_cases q:k=0<;>simp[q]
 unfold iq iu;by_cases ho:j.op=6;·
  have hl:=hl ho;have J:j.keys[k]?=some (j.keys.getD k (B #[])):=by rw[List.getD_eq_getElem?_getD,X' (by omega)];rfl
  simp only[if_pos ho];rw[Ψ,J,Ψ,I];show cK (_++[_]) (_++[_]) true=_;rw[sr _ _ _ _ _ (by simp;omega),hs];simp only[R']
 simp only[if_neg ho];rw[Ψ,I];show dR (_++[_]) true=_;rw[vt,hs];simp only[R',List.nil_append]
theorem EZ:∀{j:JV},j.op=6->bD j=123::(cK j.keys j.kids true++[125])
 |.mk op n s keys kids,h=>by have h:op=6:=h;subst h;rw[bD];rfl
theorem Ej:∀{j:JV},j.op≠1->j.op≠2->j.op≠3->j.op≠4->j.op≠6->bD j=91::(dR j.kids true++[93])
 |.mk op n s keys kids,h1,h2,h3,h4,I=>by rw[bD,if_neg (show ¬op=1 from h1),if_neg (show ¬op=2 from h2),if_neg (show ¬op=3 from h3),if_neg (show ¬op=4 from h4),if_neg (show ¬op=6 from I)];rfl
theorem wA{j:JV}(h1:j.op≠1)(h2:j.op≠2)(h3:j.op≠3)(h4:j.op≠4)(hl:j.op=6->j.keys.length=j.kids.length):bD j=pJ j::(iq j j.kids.length++[vR j]):=by
 unfold pJ iq vR;by_cases ho:j.op=6;·rw[EZ ho,if_pos ho,if_pos ho,if_pos ho,List.take_length,←hl ho,List.take_length]
 rw[Ej h1 h2 h3 h4 ho,if_neg ho,if_neg ho,if_neg ho,List.take_length]
theorem yu{j:JV}(hl:j.op=6->j.keys.length=j.kids.length):∀(d k:Nat),k+d=j.kids.length->(iq j k).length<=(iq j j.kids.length).length
 |0,k,h=>by rw[<-h];simp
 |d+1,k,h=>by
  have I:k<j.kids.length:=by omega
  have h1:=pG (j:=j) (k:=k) (z:=j.kids[k]) (by simp[I]) hl;have h2:=yu hl d (k+1) (by omega);rw[h1]at h2;simp only[ν]at h2;omega
theorem Me{j:JV}{lv}(h:ck j lv=0):(1<=j.op∧j.op<=6)∧(j.op=2->j.n=0∨j.n=1)∧(j.op=3->fu j.n=true)∧(j.op=6->j.keys.length=j.kids.length)∧(∀z∈j.kids,ck z (lv+1)=0):=by
 rw[gR]at h;have h0:dO j lv=0:=by
  by_cases q:dO j lv=0;·exact q
  rw[if_pos q]at h;exact h
 rw[if_neg (by simp[h0])]at h;obtain⟨I,M,_⟩:=jA h0;have N:∀l:List JV,dz l (lv+1)=0->∀z∈l,ck z (lv+1)=0:=by
  intro l
  induction l with
  |nil=>intro _ z J;cases J
  |cons a l O=>
   intro U z J;obtain⟨h1,h2⟩:=jt U;rcases C'.1 J with rfl|J
   ·exact h1
   exact O h2 z J
 refine⟨?_,?_,?_,?_,N _ h⟩;·
  unfold dc at I;by_cases e1:j.op=1;·omega
  rw[if_neg e1]at I;by_cases e2:j.op=2∨j.op=3;·omega
  rw[if_neg e2]at I;by_cases e4:j.op=4;·omega
  rw[if_neg e4]at I;by_cases e5:j.op=5;·omega
  rw[if_neg e5]at I;by_cases e6:j.op=6;·omega
  rw[if_neg e6]at I;cases I
 ·
  intro e;by_cases q0:j.n=0;·exact .inl q0
  by_cases q1:j.n=1;·exact .inr q1
  exact absurd (.inl ⟨e,q0,q1⟩) M
 ·
  intro e
  cases hi:fu j.n with
  |true=>rfl
  |false=>exact absurd (.inr ⟨e,hi⟩) M
 intro e;unfold dc at I;rw[if_neg (by omega),if_neg (by omega),if_neg (by omega),if_neg (by omega),if_pos e]at I;simp only[ρ,Δ]at I;exact I.2.2
theorem Kk:∀{j:JV},j.op=1->bD j=kN
 |.mk op n s keys kids,h=>by have h:op=1:=h;subst h;rw[bD];rfl
theorem J3:∀{j:JV},j.op=2->bD j=if j.n=1 then jn else il
 |.mk op n s keys kids,h=>by have h:op=2:=h;subst h;rw[bD];rfl
theorem Ku:∀{j:JV},j.op=3->bD j=aX (dh j.n)
 |.mk op n s keys kids,h=>by have h:op=3:=h;subst h;rw[bD];rfl
theorem Kx:∀{j:JV},j.op=4->bD j=eg (aX j.s)
 |.mk op n s keys kids,h=>by have h:op=4:=h;subst h;rw[bD];rfl
theorem Kg{n}(h:fu n=true):-9223372036854775808<=n∧n<=9223372036854775807:=by unfold fu at h;simp only[ρ,Δ]at h;omega
theorem Ko{j:JV}(I:j.op=6)(hl:j.keys.length=j.kids.length)(J:k<j.kids.length):∃s,j.keys[k]?=some s∧iu j k=eg (aX s)++[58]:=by refine⟨j.keys[k],by rw[X'],?_⟩;unfold iu;rw[if_pos I,List.getD_eq_getElem?_getD,X' (by omega)];rfl
theorem x6{j:JV}{z:JV}(I:j.kids[k]?=some z)(hl:j.op=6->j.keys.length=j.kids.length):(iq j k).length+(ek k).length+(iu j k).length+(bD z).length<=(iq j j.kids.length).length:=by have J:k<j.kids.length:=(δ.1 I).1;have h:=yu hl (j.kids.length-(k+1)) (k+1) (by omega);rw[pG I hl]at h;simp only[ν]at h;omega
theorem oI{u}{t s r:ByteArray}(e:t++bytesOf (eg (aX s))=r)(I:t.size+2*s.size+2<=140737488355328):bU Tryz.prog 138 [.ptr 0 0,.d (.v (.string s))] [[.np 0 tB u,.bf 1 tU t]] 1 (.tup []) [[.np 0 tB true,.bf 1 tU r]] 1:=e▸Hw u t s I
theorem wE(l:List UInt8):(bytesOf l).size=l.length:=rfl
theorem K4{n:Int}(h:n=0∨n=1):([[cs (B #[102,97,108,115,101])],[cs (B #[116,114,117,101])]]:List (List D))[n.toNat]?=some [cs (bytesOf (if n=1 then jn else il))]:=by rcases h with rfl|rfl<;>rfl
theorem Cn(j:JV)(u)(t:ByteArray)(ih:∀z∈j.kids,∀(u:Bool)(t r:ByteArray),t++bytesOf (bD z)=r->t.size+2*(bD z).length+2<=140737488355328->bU Tryz.prog 89 [.ptr 0 0,.ag z.c] [[.np 0 tB u,.bf 1 tU t]] 1 (.tup []) [[.np 0 tB true,.bf 1 tU r]] 1)(hop:1<=j.op∧j.op<=6)(htwo:j.op=2->j.n=0∨j.n=1)(hnum:j.op=3->fu j.n=true)(hlen6:j.op=6->j.keys.length=j.kids.length)(hz:t.size+2*(bD j).length+2<=140737488355328)(ho:j.op=6):
  bU Tryz.prog 89 [.ptr 0 0,.ag j.c] [[.np 0 tB u,.bf 1 tU t]] 1 (.tup []) [[.np 0 tB true,.bf 1 tU (t++bytesOf (bD j))]] 1:=by
 have hO:pJ j=123:=if_pos ho
 have hC':vR j=125:=if_pos ho
 rw[ij j]
 refine bU.dk aW (n:=74) (rs:=[]) Tryz.func89 (by kernel_rfl) Z Tryz.ntmps89 Tryz.results89 Z Z fun C hC hG=>ae<|aa<|cG Z Z Z<|ab<|qs<|aZ 2 Z<|W.block<|aZ 2 Z<|ba Z (fun h48=>?_)<|fun h48=>?_
 ·
  exfalso;simp at h48;omega
 refine aZ 2 Z<|ba Z (fun h52=>?_)<|fun h52=>?_
 ·
  exfalso;simp at h52;omega
 refine aZ 2 Z<|ba Z (fun h61=>?_)<|fun h61=>?_
 ·
  exfalso;simp at h61;omega
 refine aZ 2 Z<|ba Z (fun h68=>?_)<|fun h68=>?_
 ·
  exfalso;simp at h68;omega
 have hg:=wA (j:=j) (by omega) (by omega) (by omega) (by omega) hlen6
 refine aZ 1 Z<|ae<|aZ 3 Z<|ba Z (fun h11=>?_)<|fun h11=>?_
 ·
  refine cJ 1 Z<|qs<|ae<|aa<|aY 2 Z<|pu (ew (b:=123) aW Z Z Z Z (by decide) Z) Z<|bu [0] [1] Z Z Z Z Z ((ga (c:=123) (s:=t) (m:=B #[123]) (r:=t++bytesOf [123]) Z Z (gP 123).2 (by omega))) Z Z (by rfl) (by rfl) Z Z Z Z<|ab<|qs<|ae<|aZ 4 Z<|W.block<|W.len (t:=17) Z Z<|fun hlen=>?_
  try simp only[η,Ex.bE]at hlen
  refine W.bY (ι:={x:Nat×ByteArray//match x with|(k,T)=>k<=j.kids.length∧T=t++bytesOf (pJ j::iq j k)})
   (fun x=>match x.1 with|(k,T)=>[(0,.ptr 0 0),(3,.ptr 2 0),(19,.d (.v (.int .i64 ((k:Nat):Int))))]) [(4,_),(17,_),(18,_)]
   (fun x=>match x.1 with|(k,T)=>[(0,[.np 0 tB true,.bf 1 tU T]),(2,[.d (ci j.op),.d (ci j.n),.d (cs j.s),.d (.sl (j.keys.map sc)),.d (.sl (j.kids.map JV.c))])]) [] [1] 3 (fun x=>match x.1 with|(k,T)=>j.kids.length-k)
   [0,4,2] ⟨(0,t++bytesOf [123]),?_⟩ rfl ?_ ⟨rfl,rfl,rfl,rfl,rfl,rfl,trivial⟩ ?_ trivial rfl ?_
  ·exact⟨ς _,by rw[xE,hO]⟩
  ·repeat' constructor
  ·repeat' constructor
  rintro⟨⟨k,T⟩,hk,hI⟩
  show W _ _ _ _ _ ⟨[(0,.ptr 0 0),(3,.ptr 2 0),(19,.d (.v (.int .i64 ((k:Nat):Int)))),(4,_),(17,_),(18,_)],[(0,[.np 0 tB true,.bf 1 tU T]),(2,[.d (ci j.op),.d (ci j.n),.d (cs j.s),.d (.sl (j.keys.map sc)),.d (.sl (j.kids.map JV.c))])],[1],3⟩
  refine aZ 1 Z<|ae<|ct (l:=j.kids) (k:=k) Z (by simp[Ex.bE,bh]) hk (fun z hx hd hlt=>?_)<|fun he hd=>?_
  ·
   have hp:=x6 hx hlen6
   have hst:=pG hx hlen6
   have hkl:k<j.kids.length:=hlt
   rw[hg]at hz
   simp only[Ξ,ν,List.length_nil]at hz
   have hTs:T.size=t.size+(iq j k).length+1:=by rw[hI,gg];rfl
   have hxc:∀{u:Bool}{t r:ByteArray},t++bytesOf (bD z)=r->t.size+2*(bD z).length+2<=140737488355328->bU Tryz.prog 89 [.ptr 0 0,.ag z.c] [[.np 0 tB u,.bf 1 tU t]] 1 (.tup []) [[.np 0 tB true,.bf 1 tU r]] 1:=fun{u t r}=>ih z (ζ hx) u t r
   have hN:T++bytesOf (ek k)++bytesOf (iu j k)++bytesOf (bD z)=t++bytesOf (pJ j::iq j (k+1)):=by
    rw[hI,nK,nK,nK,hst];simp only[R',List.cons_append]
   have hsepl:(ek k).length<=1:=by unfold ek;split<;>simp
   obtain⟨s,hks,hkq⟩:=Ko ho (hlen6 ho) hkl
   have hkl2:(iu j k).length=(eg (aX s)).length+1:=by rw[hkq];simp
   have hsz:=ze s
   have hs0:(T++bytesOf (ek k)).size<=T.size+1:=by rw[gg];omega
   refine ah<|qs<|ae<|W.block<|ae<|aa<|pE Z<|pu (indexAddr (l:=z.c) aW Z Z Z Z Z Z (ε _) (bF hx) Z) Z<|aY 1 Z<|bT aW Z Z Z<|pE Z<|be aW Z Z Z Z Z Z Z Z<|ab<|qs<|ae<|aZ 2 Z<|ba Z (fun h25=>?_)<|fun h25=>?_
   ·
    have hs4:bytesOf (ek k)=B #[44]:=by unfold ek;rw[if_neg (by simp at h25;omega)];rfl
    refine aa<|pE Z<|bu [0] [1] Z Z Z Z Z ((ga (c:=44) (s:=T) (m:=B #[44]) (r:=T++bytesOf (ek k)) (by rw[hs4]) Z (gP 44).2 (by omega))) Z Z (by rfl) (by rfl) Z Z Z Z<|ab<|qs<|ae<|aZ 3 Z<|ba Z (fun h30=>?_)<|fun h30=>?_
    ·
     refine ae<|aa<|aY 4 Z<|pu (indexAddr (l:=sc s) aW Z Z Z Z Z Z (ε _) (bF hks) Z) Z<|aY 1 Z ?_
     first|refine bu [0] [5] rfl rfl rfl rfl rfl (oI (s:=s) (r:=T++bytesOf (ek k)++bytesOf (eg (aX s))) (by first|rfl|rw[hs]) (by omega)) rfl rfl (by rfl) (by rfl) rfl rfl rfl rfl ?_|refine bu [0] [1] rfl rfl rfl rfl rfl (oI (s:=s) (r:=T++bytesOf (ek k)++bytesOf (eg (aX s))) (by first|rfl|rw[hs]) (by omega)) rfl rfl (by rfl) (by rfl) rfl rfl rfl rfl ?_
     refine ab<|qs<|aa<|pE Z<|bu [0] [7] Z Z Z Z Z (ga (c:=58) (s:=T++bytesOf (ek k)++bytesOf (eg (aX s))) (m:=B #[58]) (r:=T++bytesOf (ek k)++bytesOf (iu j k)) (by rw[hkq,←nK];rfl) Z (gP 58).2 (by rw[gg];omega)) Z Z (by rfl) (by rfl) Z Z Z Z<|ab<|qs<|aa<|aY 2 Z<|bu [0] [9] Z Z Z Z Z (hxc (t:=T++bytesOf (ek k)++bytesOf (iu j k)) (r:=T++bytesOf (ek k)++bytesOf (iu j k)++bytesOf (bD z)) Z (by rw[gg];omega)) Z Z (by rfl) (by rfl) Z Z Z Z<|ab<|bW<|qs<|cJ 2 Z<|W.bZ [0,11,2] ⟨(k+1,T++bytesOf (ek k)++bytesOf (iu j k)++bytesOf (bD z)),?_⟩ ?_ Z ?_ ⟨rfl,rfl,rfl,rfl,rfl,rfl,trivial⟩ ?_ trivial Z
     ·exact⟨hlt,hN⟩
     ·dsimp only;omega
     ·repeat' first|exact trivial|refine⟨rfl,?_⟩|refine⟨bH (by assumption) (by assumption),?_⟩
     repeat' constructor
    exfalso;simp at h30;omega
   have hs:T++bytesOf (ek k)=T:=by
    unfold ek;rw[if_pos (by simp at h25;omega)]
    exact iW (by show aX _=aX _;rw[kF];simp)
   refine ah<|qs<|ae<|aZ 3 Z<|ba Z (fun h30=>?_)<|fun h30=>?_
   ·
    refine ae<|aa<|aY 4 Z<|pu (indexAddr (l:=sc s) aW Z Z Z Z Z Z (ε _) (bF hks) Z) Z<|aY 1 Z ?_
    first|refine bu [0] [5] rfl rfl rfl rfl rfl (oI (s:=s) (r:=T++bytesOf (ek k)++bytesOf (eg (aX s))) (by first|rfl|rw[hs]) (by omega)) rfl rfl (by rfl) (by rfl) rfl rfl rfl rfl ?_|refine bu [0] [1] rfl rfl rfl rfl rfl (oI (s:=s) (r:=T++bytesOf (ek k)++bytesOf (eg (aX s))) (by first|rfl|rw[hs]) (by omega)) rfl rfl (by rfl) (by rfl) rfl rfl rfl rfl ?_
    refine ab<|qs<|aa<|pE Z<|bu [0] [5] Z Z Z Z Z (ga (c:=58) (s:=T++bytesOf (ek k)++bytesOf (eg (aX s))) (m:=B #[58]) (r:=T++bytesOf (ek k)++bytesOf (iu j k)) (by rw[hkq,←nK];rfl) Z (gP 58).2 (by rw[gg];omega)) Z Z (by rfl) (by rfl) Z Z Z Z<|ab<|qs<|aa<|aY 2 Z<|bu [0] [7] Z Z Z Z Z (hxc (t:=T++bytesOf (ek k)++bytesOf (iu j k)) (r:=T++bytesOf (ek k)++bytesOf (iu j k)++bytesOf (bD z)) Z (by rw[gg];omega)) Z Z (by rfl) (by rfl) Z Z Z Z<|ab<|bW<|qs<|cJ 2 Z<|W.bZ [0,9,2] ⟨(k+1,T++bytesOf (ek k)++bytesOf (iu j k)++bytesOf (bD z)),?_⟩ ?_ Z ?_ ⟨rfl,rfl,rfl,rfl,rfl,rfl,trivial⟩ ?_ trivial Z
    ·exact⟨hlt,hN⟩
    ·dsimp only;omega
    ·repeat' first|exact trivial|refine⟨rfl,?_⟩|refine⟨bH (by assumption) (by assumption),?_⟩
    repeat' constructor
   exfalso;simp at h30;omega
  have e:k=j.kids.length:=by have:=congrArg List.length hd;simp at this;omega
  have hTs:T.size=t.size+(iq j k).length+1:=by rw[hI,gg];rfl
  have hfin:T++B #[125]=t++bytesOf (bD j):=by
   rw[hI,hg,hC',show(B #[125])=bytesOf [125]from rfl,nK,e];rfl
  rw[hg]at hz
  simp only[Ξ,ν,List.length_nil]at hz
  rw[<-e]at hz
  refine an<|bL<|bM<|bK<|qs<|aa<|aY 2 Z<|pu (ew (b:=125) aW Z Z Z Z (by decide) Z) Z<|bu [0] [1] Z Z Z Z Z ((ga (c:=125) (s:=T) (m:=B #[125]) (r:=t++bytesOf (bD j)) hfin Z (gP 125).2 (by omega))) Z Z (by rfl) (by rfl) Z Z Z Z<|ab<|bW<|ak aW [4] trivial Z Z Z Z ?_ ?_
  ·exact⟨rfl,trivial⟩
  rfl
 exfalso;simp at h11;omega
theorem Cs(j:JV)(u)(t:ByteArray)(ih:∀z∈j.kids,∀(u:Bool)(t r:ByteArray),t++bytesOf (bD z)=r->t.size+2*(bD z).length+2<=140737488355328->bU Tryz.prog 89 [.ptr 0 0,.ag z.c] [[.np 0 tB u,.bf 1 tU t]] 1 (.tup []) [[.np 0 tB true,.bf 1 tU r]] 1)(hop:1<=j.op∧j.op<=6)(htwo:j.op=2->j.n=0∨j.n=1)(hnum:j.op=3->fu j.n=true)(hlen6:j.op=6->j.keys.length=j.kids.length)(hz:t.size+2*(bD j).length+2<=140737488355328)(ho:¬j.op=6):
  bU Tryz.prog 89 [.ptr 0 0,.ag j.c] [[.np 0 tB u,.bf 1 tU t]] 1 (.tup []) [[.np 0 tB true,.bf 1 tU (t++bytesOf (bD j))]] 1:=by
 have hO:pJ j=91:=if_neg ho
 have hC':vR j=93:=if_neg ho
 rw[ij j]
 refine bU.dk aW (n:=74) (rs:=[]) Tryz.func89 (by kernel_rfl) Z Tryz.ntmps89 Tryz.results89 Z Z fun C hC hG=>ae<|aa<|cG Z Z Z<|ab<|qs<|aZ 2 Z<|W.block<|aZ 2 Z<|ba Z (fun h48=>?_)<|fun h48=>?_
 ·
  have e:j.op=1:=by simpa using h48
  have hg:=Kk e
  have hgl:(bD j).length=4:=by rw[hg];rfl
  refine aa<|pE Z<|bu [0] [1] Z Z Z Z Z ((nn (s:=t) (x:=B #[110,117,108,108]) (r:=t++bytesOf (bD j)) (by rw[hg];rfl) (by rw[show(B #[110,117,108,108]).size=4 from rfl];omega))) Z Z (by rfl) (by rfl) Z Z Z Z<|ab<|bW<|ak aW [4] trivial Z Z Z Z ?_ ?_
  ·exact⟨rfl,trivial⟩
  rfl
 have e1:j.op≠1:=by simpa using h48
 refine aZ 2 Z<|ba Z (fun h52=>?_)<|fun h52=>?_
 ·
  have e:j.op=2:=by simpa using h52
  have hg:=J3 e
  have hn2:=htwo e
  refine aa<|pE Z<|pu (bR aW Z Z Z Z Z Z Z Z Z) Z<|aY 2 Z<|pu (indexAddr (l:=[cs (bytesOf (if j.n=1 then jn else il))]) aW Z Z Z Z Z Z (by omega) (K4 hn2) Z) Z<|aY 1 Z<|bu [0] [1] Z Z Z Z Z ((nn (s:=t) (x:=bytesOf (if j.n=1 then jn else il)) (r:=t++bytesOf (bD j)) (by rw[hg]) (by rw[hg]at hz;rw[wE];omega))) Z Z (by rfl) (by rfl) Z Z Z Z<|ab<|bW<|ak aW [4] trivial Z Z Z Z ?_ ?_
  ·exact⟨rfl,trivial⟩
  rfl
 have e2:j.op≠2:=by simpa using h52
 refine aZ 2 Z<|ba Z (fun h61=>?_)<|fun h61=>?_
 ·
  have e:j.op=3:=by simpa using h61
  have hg:=Ku e
  have hi:=Kg (hnum e)
  refine aa<|aY 3 Z<|pu (bm Z Z Z (qH j.n hi.1 hi.2) Z) Z<|bu [0] [1] Z Z Z Z Z ((nn (s:=t) (x:=dh j.n) (r:=t++bytesOf (bD j)) (by rw[hg,mV]) (by rw[hg,bh]at hz;omega))) Z Z (by rfl) (by rfl) Z Z Z Z<|ab<|bW<|ak aW [4] trivial Z Z Z Z ?_ ?_
  ·exact⟨rfl,trivial⟩
  rfl
 have e3:j.op≠3:=by simpa using h61
 refine aZ 2 Z<|ba Z (fun h68=>?_)<|fun h68=>?_
 ·
  have e:j.op=4:=by simpa using h68
  have hg:=Kx e
  have hq:=ze j.s
  refine aa<|aY 3 Z<|bu [0] [1] Z Z Z Z Z ((oI (t:=t) (s:=j.s) (r:=t++bytesOf (bD j)) (by rw[hg]) (by rw[hg]at hz;omega))) Z Z (by rfl) (by rfl) Z Z Z Z<|ab<|bW<|ak aW [4] trivial Z Z Z Z ?_ ?_
  ·exact⟨rfl,trivial⟩
  rfl
 have e4:j.op≠4:=by simpa using h68
 have hg:=wA e1 e2 e3 e4 hlen6
 refine aZ 1 Z<|ae<|aZ 3 Z<|ba Z (fun h11=>?_)<|fun h11=>?_
 ·
  exfalso;simp at h11;omega
 refine ah<|qs<|ae<|aa<|aY 2 Z<|pu (ew (b:=91) aW Z Z Z Z (by decide) Z) Z<|bu [0] [1] Z Z Z Z Z ((ga (c:=91) (s:=t) (m:=B #[91]) (r:=t++bytesOf [91]) Z Z (gP 91).2 (by omega))) Z Z (by rfl) (by rfl) Z Z Z Z<|ab<|qs<|ae<|aZ 4 Z<|W.block<|W.len (t:=17) Z Z<|fun hlen=>?_
 try simp only[η,Ex.bE]at hlen
 refine W.bY (ι:={x:Nat×ByteArray//match x with|(k,T)=>k<=j.kids.length∧T=t++bytesOf (pJ j::iq j k)})
  (fun x=>match x.1 with|(k,T)=>[(0,.ptr 0 0),(3,.ptr 2 0),(19,.d (.v (.int .i64 ((k:Nat):Int))))]) [(4,_),(17,_),(18,_)]
  (fun x=>match x.1 with|(k,T)=>[(0,[.np 0 tB true,.bf 1 tU T]),(2,[.d (ci j.op),.d (ci j.n),.d (cs j.s),.d (.sl (j.keys.map sc)),.d (.sl (j.kids.map JV.c))])]) [] [1] 3 (fun x=>match x.1 with|(k,T)=>j.kids.length-k)
  [0,4,2] ⟨(0,t++bytesOf [91]),?_⟩ rfl ?_ ⟨rfl,rfl,rfl,rfl,rfl,rfl,trivial⟩ ?_ trivial rfl ?_
 ·exact⟨ς _,by rw[xE,hO]⟩
 ·repeat' constructor
 ·repeat' constructor
 rintro⟨⟨k,T⟩,hk,hI⟩
 show W _ _ _ _ _ ⟨[(0,.ptr 0 0),(3,.ptr 2 0),(19,.d (.v (.int .i64 ((k:Nat):Int)))),(4,_),(17,_),(18,_)],[(0,[.np 0 tB true,.bf 1 tU T]),(2,[.d (ci j.op),.d (ci j.n),.d (cs j.s),.d (.sl (j.keys.map sc)),.d (.sl (j.kids.map JV.c))])],[1],3⟩
 refine aZ 1 Z<|ae<|ct (l:=j.kids) (k:=k) Z (by simp[Ex.bE,bh]) hk (fun z hx hd hlt=>?_)<|fun he hd=>?_
 ·
  have hp:=x6 hx hlen6
  have hst:=pG hx hlen6
  have hkl:k<j.kids.length:=hlt
  rw[hg]at hz
  simp only[Ξ,ν,List.length_nil]at hz
  have hTs:T.size=t.size+(iq j k).length+1:=by rw[hI,gg];rfl
  have hxc:∀{u:Bool}{t r:ByteArray},t++bytesOf (bD z)=r->t.size+2*(bD z).length+2<=140737488355328->bU Tryz.prog 89 [.ptr 0 0,.ag z.c] [[.np 0 tB u,.bf 1 tU t]] 1 (.tup []) [[.np 0 tB true,.bf 1 tU r]] 1:=fun{u t r}=>ih z (ζ hx) u t r
  have hN:T++bytesOf (ek k)++bytesOf (iu j k)++bytesOf (bD z)=t++bytesOf (pJ j::iq j (k+1)):=by
   rw[hI,nK,nK,nK,hst];simp only[R',List.cons_append]
  have hsepl:(ek k).length<=1:=by unfold ek;split<;>simp
  have hkq:T++bytesOf (ek k)++bytesOf (iu j k)=T++bytesOf (ek k):=by
   rw[show iu j k=[]from if_neg ho]
   exact iW (by show aX _=aX _;rw[kF];simp)
  have hs0:(T++bytesOf (ek k)).size<=T.size+1:=by rw[gg];omega
  refine ah<|qs<|ae<|W.block<|ae<|aa<|pE Z<|pu (indexAddr (l:=z.c) aW Z Z Z Z Z Z (ε _) (bF hx) Z) Z<|aY 1 Z<|bT aW Z Z Z<|pE Z<|be aW Z Z Z Z Z Z Z Z<|ab<|qs<|ae<|aZ 2 Z<|ba Z (fun h25=>?_)<|fun h25=>?_
  ·
   have hs4:bytesOf (ek k)=B #[44]:=by unfold ek;rw[if_neg (by simp at h25;omega)];rfl
   refine aa<|pE Z<|bu [0] [1] Z Z Z Z Z ((ga (c:=44) (s:=T) (m:=B #[44]) (r:=T++bytesOf (ek k)) (by rw[hs4]) Z (gP 44).2 (by omega))) Z Z (by rfl) (by rfl) Z Z Z Z<|ab<|qs<|ae<|aZ 3 Z<|ba Z (fun h30=>?_)<|fun h30=>?_
   ·
    exfalso;simp at h30;omega
   refine ah (qs (aa (aY 2 Z ?_)))
   first|refine bu [0] [5] rfl rfl rfl rfl rfl (hxc (r:=T++bytesOf (ek k)++bytesOf (iu j k)++bytesOf (bD z)) (by first|(rw[hkq];done)|rw[hkq,hs]) (by omega)) rfl rfl (by rfl) (by rfl) rfl rfl rfl rfl ?_|refine bu [0] [1] rfl rfl rfl rfl rfl (hxc (r:=T++bytesOf (ek k)++bytesOf (iu j k)++bytesOf (bD z)) (by first|(rw[hkq];done)|rw[hkq,hs]) (by omega)) rfl rfl (by rfl) (by rfl) rfl rfl rfl rfl ?_
   refine ab<|bW<|qs<|cJ 2 Z<|W.bZ [0,7,2] ⟨(k+1,T++bytesOf (ek k)++bytesOf (iu j k)++bytesOf (bD z)),?_⟩ ?_ Z ?_ ⟨rfl,rfl,rfl,rfl,rfl,rfl,trivial⟩ ?_ trivial Z
   ·exact⟨hlt,hN⟩
   ·dsimp only;omega
   ·repeat' first|exact trivial|refine⟨rfl,?_⟩|refine⟨bH (by assumption) (by assumption),?_⟩
   repeat' constructor
  have hs:T++bytesOf (ek k)=T:=by
   unfold ek;rw[if_pos (by simp at h25;omega)]
   exact iW (by show aX _=aX _;rw[kF];simp)
  refine ah<|qs<|ae<|aZ 3 Z<|ba Z (fun h30=>?_)<|fun h30=>?_
  ·
   exfalso;simp at h30;omega
  refine ah (qs (aa (aY 2 Z ?_)))
  first|refine bu [0] [5] rfl rfl rfl rfl rfl (hxc (r:=T++bytesOf (ek k)++bytesOf (iu j k)++bytesOf (bD z)) (by first|(rw[hkq];done)|rw[hkq,hs]) (by omega)) rfl rfl (by rfl) (by rfl) rfl rfl rfl rfl ?_|refine bu [0] [1] rfl rfl rfl rfl rfl (hxc (r:=T++bytesOf (ek k)++bytesOf (iu j k)++bytesOf (bD z)) (by first|(rw[hkq];done)|rw[hkq,hs]) (by omega)) rfl rfl (by rfl) (by rfl) rfl rfl rfl rfl ?_
  refine ab<|bW<|qs<|cJ 2 Z<|W.bZ [0,5,2] ⟨(k+1,T++bytesOf (ek k)++bytesOf (iu j k)++bytesOf (bD z)),?_⟩ ?_ Z ?_ ⟨rfl,rfl,rfl,rfl,rfl,rfl,trivial⟩ ?_ trivial Z
  ·exact⟨hlt,hN⟩
  ·dsimp only;omega
  ·repeat' first|exact trivial|refine⟨rfl,?_⟩|refine⟨bH (by assumption) (by assumption),?_⟩
  repeat' constructor
 have e:k=j.kids.length:=by have:=congrArg List.length hd;simp at this;omega
 have hTs:T.size=t.size+(iq j k).length+1:=by rw[hI,gg];rfl
 have hfin:T++B #[93]=t++bytesOf (bD j):=by
  rw[hI,hg,hC',show(B #[93])=bytesOf [93]from rfl,nK,e];rfl
 rw[hg]at hz
 simp only[Ξ,ν,List.length_nil]at hz
 rw[<-e]at hz
 refine an<|bL<|bM<|bK<|qs<|aa<|aY 2 Z<|pu (ew (b:=93) aW Z Z Z Z (by decide) Z) Z<|bu [0] [1] Z Z Z Z Z ((ga (c:=93) (s:=T) (m:=B #[93]) (r:=t++bytesOf (bD j)) hfin Z (gP 93).2 (by omega))) Z Z (by rfl) (by rfl) Z Z Z Z<|ab<|bW<|ak aW [4] trivial Z Z Z Z ?_ ?_
 ·exact⟨rfl,trivial⟩
 rfl
theorem D1:∀(j:JV)(lv:Int),ck j lv=0->∀(u:Bool)(t r:ByteArray),t++bytesOf (bD j)=r->t.size+2*(bD j).length+2<=140737488355328->bU Tryz.prog 89 [.ptr 0 0,.ag j.c] [[.np 0 tB u,.bf 1 tU t]] 1 (.tup []) [[.np 0 tB true,.bf 1 tU r]] 1:=by
 refine aH fun j U=>?_;intro lv hc u t r e X;subst e;obtain⟨O,M,N,I,J⟩:=Me hc;by_cases ho:j.op=6;·exact Cn j u t (fun z h1=>U z h1 _ (J z h1)) O M N I X ho
 exact Cs j u t (fun z h1=>U z h1 _ (J z h1)) O M N I X ho
def l8(j:JV):ByteArray:=if ck j 1=0 then bytesOf (bD j)else B #[]
theorem C2(j:JV)(O:ck j 1=0->(bD j).length<=1000000000000):tO Tryz.prog (fun _=>True) 38 [.ag j.c] (.tup [.d (.v (.string (l8 j))),.d (.v (.int .i64 (ck j 1)))]) 0:=by
 have M:=xF j;rw[ij j]at M⊢;refine tO.dk aW (n:=14) (rs:=[.tmp 2,.tmp 3]) Tryz.func38 (by kernel_rfl) Z Tryz.ntmps38 Tryz.results38 Z fun C hC X hH N=>ae<|aa<|cG Z Z Z<|aY 2 Z<|ab<|qs<|ae<|ae<|aa<|aY 1 Z ?_
 refine pu (bm Z Z Z M Z) Z<|pE Z<|ab<|qs<|aZ 2 Z<|ba Z (fun I=>?_)<|fun I=>?_;·
  have J:l8 j=B #[]:=by unfold l8;rw[if_neg (by simpa using I)]
  refine aZ 3 Z<|W.ret<|bl<|QV.bo aW trivial Z ?_;rw[J];rfl
 have h0:ck j 1=0:=by simpa using I
 have J:l8 j=bytesOf (bD j):=by unfold l8;rw[if_pos h0]
 have U:=O h0;refine ah<|qs<|ae<|aa<|EM aW tU Z Z Z<|ab<|qs<|ae<|aa<|aY 1 Z<|bu [1] [2] Z Z Z Z Z (((congrArg (fun c=>bU Tryz.prog 89 [.ptr 0 0,.ag c] [[.np 0 tB false,.bf 1 tU .empty]] 1 (.tup []) [[.np 0 tB true,.bf 1 tU (bytesOf (bD j))]] 1) (ij j)).mp (D1 j 1 h0 false .empty (bytesOf (bD j)) (iW Z) (by rw[show(ByteArray.empty).size=0 from rfl];omega)))) Z Z (by rfl) (by rfl) Z Z Z Z<|ab<|qs<|ae<|aa<|Kr N Z Z Z Z FI B4 (by rw[wE];simp only[maxLen];omega) Z<|aY 2 Z<|ab<|qs<|W.ret<|QV.bo aW trivial Z ?_;rw[J,h0];rfl
theorem Fh(j:JV)(I:ck j 1=0->(bD j).length<=1000000000000):bp Tryz.prog 38 [.ag j.c] (.tup [.d (.v (.string (l8 j))),.d (.v (.int .i64 (ck j 1)))]) 0:=(C2 j I).GK fun _=>trivial
open Go.RowKit
attribute [local go_sem] Oper.semAt_some
section
set_option maxRecDepth 100000 in
set_option maxHeartbeats 2000000 in
variable {l:List UInt8}{i k j a:Nat}{b:UInt8}{p:Int}{w:World}{α:Type}
variable {f:List (Nat×A)}
theorem Gl:wM Tryz.prog 77:=by
 intro l W J M b1 o1 a len cap R h0 h1 U hle X ad hY;refine(callsIn_wide (n:=0)).1 ?_;refine callsIn_of_wp (F:=Fence.wide) (n:=0) Tryz.func77 Z trivial ?_ Z;simp only[Tryz.ntmps77,List.size_toArray,Ξ,List.length_nil,Nat.reduceAdd,Nat.reduceSub,Array.replicate_succ,Array.replicate_zero,List.push_toArray,List.append_toArray,List.nil_append,List.cons_append]
 gi_wp2
 gi_loopw [4] (fun i wr=>(i=.int .i64 0∧wr=W)∨(i=.int .i64 1000∧(∃a' I,wr.cell? ⟨J,M,none⟩=some (.slice a' len I))∧wr.cell? ⟨b1,o1,none⟩=some (.int .i64 1000)∧R wr)) (fun i _=>1000-(intOf i).toNat)
 case atStart=>exact .inl ⟨rfl,rfl⟩
 case round=>
  rcases hrel with⟨rfl,rfl⟩|⟨rfl,⟨a',I,h2⟩,h3,N⟩
  ·
   obtain⟨fn,tmps,assign,body,hy,N⟩:=hY;have ai:wr.cell? ⟨J,M,none⟩=some (.slice (some a) len cap):=h0;have aj:wr.cell? ⟨b1,o1,none⟩=some (.int .i64 1000):=h1
   gi_wp2
   gi_big_region
   rw[show min (1000:Int) (len:Int)=(len:Int)from by omega];have ar:wr.drew.cell? ⟨J,M,none⟩=some (.slice (some a) len cap):=h0;have a1:wr.drew.cell? ⟨b1,o1,none⟩=some (.int .i64 1000):=h1
   gi_wp2
   refine⟨rfl,N.mono ?_⟩;rintro e W3 ⟨rfl,⟨a',I,h2⟩,h3,O⟩
   gi_wp2
   go_roundw
   case rel=>exact .inr ⟨rfl,⟨_,_,h2⟩,h3,O⟩
   case measure=>simp[intOf]
  gi_wp2
  go_end0
  exact⟨⟨_,rfl⟩,N⟩
end
section
set_option maxRecDepth 100000 in
set_option maxHeartbeats 2000000 in
variable {l:List UInt8}{i k j a:Nat}{b:UInt8}{p:Int}{w:World}{α:Type}
variable {f:List (Nat×A)}
theorem Es:vd Tryz.prog 77:=by
 intro l W I J b1 o1 a cap R h0 h1 M;refine(callsIn_wide (n:=0)).1 ?_;refine callsIn_of_wp (F:=Fence.wide) (n:=0) Tryz.func77 Z trivial ?_ Z;simp only[Tryz.ntmps77,List.size_toArray,Ξ,List.length_nil,Nat.reduceAdd,Nat.reduceSub,Array.replicate_succ,Array.replicate_zero,List.push_toArray,List.append_toArray,List.nil_append,List.cons_append]
 gi_wp2
 gi_loopw [4] (fun i wr=>i=.int .i64 0∧wr=W) (fun i _=>1000-(intOf i).toNat)
 case atStart=>exact⟨rfl,rfl⟩
 case round=>
  obtain⟨rfl,rfl⟩:=hrel;have N:wr.cell? ⟨I,J,none⟩=some (.slice a 0 cap):=h0;have O:wr.cell? ⟨b1,o1,none⟩=some (.int .i64 1000):=h1
  gi_wp2
  go_end0
  exact⟨⟨_,rfl⟩,M⟩
end
theorem et(a w):jW Tryz.prog 73 [.d (.v (.int .i64 a)),.d (.v (.int .i64 w))] [] 0 (.iface 128 (.agg #[.int .i64 a,.int .i64 w])):=by
 refine jW.b6 (n:=8) Tryz.func73 (by kernel_rfl) Z Tryz.ntmps73 Z fun C hC I=>aa<|aY 2 Z<|pu (build aW Z Z Z Z) Z<|pu (Jd (l:=[.int .i64 a,.int .i64 w]) aW Z Z Z) Z<|Kh Z<|fun st'=>?_;repeat' first|refine dr ?_|refine iP ?_|refine ma ?_|refine La ?_
 exact Z
theorem oA{s:ByteArray}(h:i<s.size):(aX s)[i]?=some (bb (aX s) i):=by
 have:i<(aX s).length:=by rw[bh];exact h
 rw[X' this];simp[bb,List.getD_eq_getElem?_getD,X' this]
theorem j9(s i):bU Tryz.prog 120 [.ptr 0 0] [gw s i] 0 (.d (.v (.int .u8 (bb (aX s) i).toNat))) [gw s i] 0:=by
 refine bU.dk aW (n:=22) (rs:=[.tmp 2]) Tryz.func120 (by kernel_rfl) Z Tryz.ntmps120 Tryz.results120 Z Z fun C hC M=>aZ 1 Z<|ae<|ae<|W.dK aW (by kernel_rfl) ?_
 refine bt (ev aW Z) Z<|bt (ev aW Z) Z<|bt (ev aW Z) Z<|bt (ev aW Z) Z ?_
 refine bt (ev aW Z) Z<|bt (ev aW Z) Z<|bt (ev aW Z) Z<|bt (ev aW Z) Z ?_
 refine bt (ev aW Z) Z<|bt (ev aW Z) Z<|ao ?_
 refine qs (ba Z (fun I=>?_) (fun I=>?_));·
  have J:bb (aX s) i=0:=lE (by rw[bh];simpa using I);refine aZ 1 Z<|W.ret<|bl<|ak aW [] trivial Z Z Z Z ?_ ?_;·exact⟨rfl,trivial⟩
  rw[J];rfl
 have hb:=oA (s:=s) (i:=i) (by simpa using I);refine ah<|qs<|ae<|W.dK aW (by kernel_rfl)<|bt (ev aW Z) Z<|bt (ev aW Z) Z<|bt (ev aW Z) Z<|bt (ev aW Z) Z ?_
 refine bt (ev aW Z) Z<|bt (ev aW Z) Z<|bt (ev aW Z) Z<|bt (ev aW Z) Z ?_
 refine bt (ew aW Z Z Z Z (ε _) (fN hb)) Z<|bt (ev aW Z) Z<|ao<|qs<|W.ret<|ak aW [] trivial Z Z Z Z ?_ ?_;·exact⟨rfl,trivial⟩
 rfl
theorem AD(b):decide (0<=Lib.indexByte (aX (B #[32,9,10,13])) b)=jS b:=by rw[Bool.eq_iff_iff,Δ,nG];unfold jS;simp only[aX,Bool.or_eq_true,Δ];show b∈[32,9,10,13]↔_;simp only[C',List.mem_nil_iff,or_false,←UInt8.toNat_inj];rfl
theorem mG(s:ByteArray)(i)(hi:i<=s.size)(hs:s.size<=1000000000):bU Tryz.prog 72 [.ptr 0 0] [gw s i] 0 (.d (.v (.int .u8 (bb (aX s) (bg (aX s) i)).toNat))) [gw s (bg (aX s) i)] 0:=by
 refine bU.dk aW (n:=35) (rs:=[.tmp 2]) Tryz.func72 (by kernel_rfl) Z Tryz.ntmps72 Tryz.results72 Z Z fun C hC N=>aZ 1 Z<|ae<|W.block<|W.bY (ι:={x:Nat//match x with|j=>j<=s.size∧bg (aX s) j=bg (aX s) i})
  (fun x=>match x.1 with|j=>[(0,.ptr 0 0)]) []
  (fun x=>match x.1 with|j=>[(0,[.d (cs s),.d (.v (.int .i64 (j:Int)))])]) [] [] 1 (fun x=>match x.1 with|j=>s.size-j)
  [0] ⟨i,?_⟩ Z ?_ trivial ?_ trivial Z ?_
 ·exact⟨hi,rfl⟩
 ·repeat' constructor
 ·repeat' constructor
 rintro⟨j,O,J⟩;show W _ _ _ _ _ ⟨[(0,.ptr 0 0)],[(0,[.d (cs s),.d (.v (.int .i64 (j:Int)))])],[],1⟩;iterate 2 refine ae ?_
 apply oM aW;(case hb=>rfl);(case hB=>kernel_rfl);·
  refine bt (ev aW Z) Z<|bt (ev aW Z) Z<|bt (ev aW Z) Z<|bt (ev aW Z) Z ?_
  refine bt (ev aW Z) Z<|bt (ev aW Z) Z<|bt (ev aW Z) Z<|bt (ev aW Z) Z ?_
  iterate 3 refine bt (ev aW Z) Z ?_
  apply oG;(case hj=>rfl);(case hl=>rfl);·
   intro g13;refine dB Z Z (ev aW Z) Z<|dB Z Z (ev aW Z) Z<|dB Z Z (ev aW Z) Z<|dB Z Z (ev aW Z) Z<|dB Z Z (ev aW Z) Z<|dB Z Z (ev aW Z) Z<|dB Z Z (ev aW Z) Z<|dB Z Z (ev aW Z) Z<|dB Z Z (ew aW Z Z Z Z (ε _) (fN (oA (s:=s) (i:=j) (by simpa using g13)))) Z<|dB Z Z (bm Z Z Z (Cg (B #[32,9,10,13]) (bb (aX s) j)) Z) Z<|dB Z Z (ev aW Z) Z<|bt (ev aW Z) Z<|ao<|b4 Z Z Z
  intro g13;iterate 11 refine sL Z Z Z Z ?_
  refine bt (ev aW Z) Z<|ao<|b4 Z Z Z
 refine qs (ba Z (fun I=>?_) (fun I=>?_));·
  have q:j<s.size∧jS (bb (aX s) j)=true:=by revert I;rw[AD];simp
  have M:=mj (l:=aX s) (i:=j) (by rw[bh];exact q.1) q.2;refine ah<|qs<|W.block<|aa<|aY 4 Z<|pu (b5 (ev aW Z) (y:=((j+1:Nat):Int)) (wrap64 (by omega))) Z<|aY 2 Z<|be aW Z Z Z Z Z Z Z Z<|ab<|bW<|W.bZ [0] ⟨j+1,?_⟩ ?_ Z ?_ trivial ?_ trivial Z;·exact⟨q.1,by rw[<-M,J]⟩
  ·dsimp only;omega
  ·repeat' constructor
  repeat' constructor
 have q:bg (aX s) i=j:=by
  rw[<-J];by_cases q1:j<s.size;·exact eK (by revert I;rw[AD];simp[q1])
  exact Eo (by rw[bh];omega)
 refine an<|bL<|bM<|bK<|qs<|ae<|aa<|pE Z<|bu [0] [] Z Z Z Z Z ((j9 s j)) Z Z (by rfl) (by rfl) Z Z Z Z<|pE Z<|ab<|qs<|W.ret<|ak aW [] trivial Z Z Z Z ?_ ?_;·rw[q];exact⟨rfl,trivial⟩
 rw[q];rfl
theorem lT(s:ByteArray)(c:UInt8)(i)(hs:s.size<=1000000000):eo Tryz.prog 157 [.ptr 0 0,.d (.v (.int .u8 c.toNat))] [gw s i] 0 (jI 128 s (fun _=>.tup []) (cn (aX s) c i)):=by
 refine eo.dk aW (n:=39) (rs:=[]) Tryz.func157 (by kernel_rfl) Z Tryz.ntmps157 Tryz.results157 Z (iL ..) fun C hC M=>ae<|ae<|?_
 apply oM aW;(case hb=>rfl);(case hB=>kernel_rfl);·
  refine bt (ev aW Z) Z<|bt (ev aW Z) Z<|bt (ev aW Z) Z<|bt (ev aW Z) Z ?_
  refine bt (ev aW Z) Z<|bt (ev aW Z) Z<|bt (ev aW Z) Z<|bt (ev aW Z) Z ?_
  iterate 3 refine bt (ev aW Z) Z ?_
  apply oG;(case hj=>rfl);(case hl=>rfl);·
   intro g14;iterate 11 refine sL Z Z Z Z ?_
   refine bt (ev aW Z) Z<|ao<|b4 Z Z Z
  intro g14;refine dB Z Z (ev aW Z) Z<|dB Z Z (ev aW Z) Z<|dB Z Z (ev aW Z) Z<|dB Z Z (ev aW Z) Z<|dB Z Z (ev aW Z) Z<|dB Z Z (ev aW Z) Z<|dB Z Z (ev aW Z) Z<|dB Z Z (ev aW Z) Z<|dB Z Z (ew aW Z Z Z Z (ε _) (fN (oA (s:=s) (i:=i) (by simpa using g14)))) Z<|dB Z Z (ev aW Z) Z<|dB Z Z (ev aW Z) Z<|bt (ev aW Z) Z<|ao<|b4 Z Z Z
 refine qs (ba Z (fun I=>?_) (fun I=>?_));·
  have J:cn (aX s) c i=.no i 10:=by unfold cn;rw[if_neg];rintro⟨q1,q2⟩;rw[bh]at q1;revert I;simp[q1,q2]
  refine aa<|aY 4 Z<|dI [] [] Z Z Z Z Z (et i 10) Z Z (by rfl)<|fun st'=>?_;repeat' refine dr ?_
  exact dQ (b9 J)
 have J:cn (aX s) c i=.ok () (i+1)∧i<s.size:=by
  have q:i<s.size∧bb (aX s) i=c:=by revert I;simp;intro q1 q2;exact⟨q1,UInt8.toNat_inj.1 (by omega)⟩
  exact⟨by unfold cn;rw[if_pos ⟨by rw[bh];exact q.1,q.2⟩],q.1⟩
 refine ah<|qs<|aa<|aY 4 Z<|pu (b5 (ev aW Z) (y:=((i+1:Nat):Int)) (wrap64 (by omega))) Z<|aY 2 Z<|be aW Z Z Z Z Z Z Z Z<|ab<|eE (cp (J.1))<|ak aW [] trivial Z Z Z Z ?_ ?_;·exact⟨rfl,trivial⟩
 rfl
theorem lM(s w:ByteArray)(i)(hs:s.size<=1000000000):eo Tryz.prog 114 [.ptr 0 0,.d (.v (.string w))] [gw s i] 0 (jI 128 s (fun _=>.tup []) (bX (aX s) (aX w) i)):=by
 refine eo.dk aW (n:=16) (rs:=[]) Tryz.func114 (by kernel_rfl) Z Tryz.ntmps114 Tryz.results114 Z (iL ..) fun C hC hG=>aZ 3 Z<|W.block<|W.lI (t:=1) Z<|fun hok=>?_
 have hlen:=kC hok
 refine W.bY (ι:={x:Nat×Nat//match x with|(k,j)=>k<=(aX w).length∧bX (aX s) ((aX w).drop k) j=bX (aX s) (aX w) i})
  (fun x=>match x.1 with|(k,j)=>[(0,.ptr 0 0),(7,.d (.v (.int .i64 ((k:Nat):Int))))]) [(1,_),(6,_)]
  (fun x=>match x.1 with|(k,j)=>[(0,[.d (cs s),.d (.v (.int .i64 (j:Int)))])]) [] [] 1 (fun x=>match x.1 with|(k,j)=>(aX w).length-k)
  [0] ⟨(0,i),?_⟩ rfl ?_ ⟨rfl,rfl,rfl,rfl,trivial⟩ ?_ trivial rfl ?_
 ·exact⟨ς _,rfl⟩
 ·repeat' constructor
 ·repeat' constructor
 rintro⟨⟨k,j⟩,hk,hI⟩
 show W _ _ _ _ _ ⟨[(0,.ptr 0 0),(7,.d (.v (.int .i64 ((k:Nat):Int)))),(1,_),(6,_)],[(0,[.d (cs s),.d (.v (.int .i64 (j:Int)))])],[],1⟩
 refine aZ 1 Z<|ae<|ct (l:=aX w) (k:=k) Z (by simp[Ex.bE,bh]) hk (fun b hx hd hlt=>?_)<|fun he hd=>?_
 ·
  rw[hd]at hI
  simp only[bX]at hI
  refine ah<|qs<|ae<|W.block<|aZ 2 Z<|aa<|aY 3 Z<|pu (ew aW Z Z Z Z (ε _) (fN (by assumption))) Z ?_
  cases hc14:cn (aX s) b j with
  |no a14 w14=>
   refine dI [0] [] Z Z Z Z Z ((lT s b j hs).iM (b9 hc14)) Z Z (by rfl) (fun st'=>?_)
   repeat' first|refine dr ?_|refine iP ?_|refine ma ?_
   refine dQ (b9 (by rw[<-hI,hc14]))
  |ok y14 i14=>
   refine bu [0] [] Z Z Z Z Z ((lT s b j hs).ret (cp hc14)) Z Z (by rfl) (by rfl) Z Z Z Z<|ab<|bW<|qs<|cJ 2 Z<|W.bZ [0] ⟨(k+1,i14),?_⟩ ?_ Z ?_ ⟨rfl,rfl,rfl,rfl,trivial⟩ ?_ trivial Z
   ·exact⟨hlt,by rw[<-hI,hc14]⟩
   ·dsimp only;omega
   ·repeat' first|exact trivial|refine⟨rfl,?_⟩|refine⟨bH (by assumption) (by assumption),?_⟩
   repeat' constructor
 rw[hd]at hI
 simp only[bX]at hI
 refine an<|bL<|bM<|bK<|eE (cp (hI.symm))<|ak aW [] trivial Z Z Z Z ?_ ?_
 ·exact⟨rfl,trivial⟩
 rfl
def jF(l:List UInt8)(c:UInt8)(i:Nat):PE Bool:=
 if bb l (bg l i)=44 then .ok true (bg l i+1)else match cn l c (bg l i)with|.no a w=>.no a w|.ok _ j=>.ok false j
theorem tH(s:ByteArray)(c:UInt8)(i)(hi:i<=s.size)(hs:s.size<=1000000000):eo Tryz.prog 159 [.ptr 0 0,.d (.v (.int .u8 c.toNat))] [gw s i] 0 (jI 128 s (fun b=>.d (.v (.bool b))) (jF (aX s) c i)):=by
 have hle:bg (aX s) i<=s.size:=by have:=cA (l:=aX s) (i:=i) (by rw[bh];exact hi);rwa[bh]at this
 refine eo.dk aW (n:=18) (rs:=[.tmp 4]) Tryz.func159 (by kernel_rfl) Z Tryz.ntmps159 Tryz.results159 Z (iL ..) fun C hC U=>aZ 1 Z<|ae<|ae<|aa<|pE Z<|bu [0] [] Z Z Z Z Z ((mG s i hi hs)) Z Z (by rfl) (by rfl) Z Z Z Z ?_
 refine pE Z (ab (qs (ba Z (fun I=>?_) (fun I=>?_))));·
  have q:bb (aX s) (bg (aX s) i)=44:=UInt8.toNat_inj.1 (by show _=44;simp at I;omega);have J:jF (aX s) c i=.ok true (bg (aX s) i+1):=by unfold jF;rw[if_pos q]
  refine ae<|aa<|aY 4 Z<|pu (b5 (ev aW Z) (y:=((bg (aX s) i+1:Nat):Int)) (wrap64 (by omega))) Z<|aY 2 Z<|be aW Z Z Z Z Z Z Z Z<|ab<|qs<|aZ 1 Z<|W.ret<|bl<|eE (cp (J))<|ak aW [] trivial Z Z Z Z ?_ ?_;·exact⟨rfl,trivial⟩
  rfl
 have q:¬bb (aX s) (bg (aX s) i)=44:=by intro q;rw[q]at I;simp at I
 have J:jF (aX s) c i=match cn (aX s) c (bg (aX s) i)with|.no a w=>.no a w|.ok _ j=>.ok false j:=by unfold jF;rw[if_neg q]
 refine ah (qs (ae (aa (aY 2 Z ?_))))
 cases hc17:cn (aX s) c (bg (aX s) i)with
 |no M N=>
  refine dI [0] [] Z Z Z Z Z ((lT s c (bg (aX s) i) hs).iM (b9 hc17)) Z Z (by rfl) (fun st'=>?_);repeat' refine dr ?_
  refine dQ (b9 (by rw[J,hc17]))
 |ok O i17=>
  refine bu [0] [] Z Z Z Z Z ((lT s c (bg (aX s) i) hs).ret (cp hc17)) Z Z (by rfl) (by rfl) Z Z Z Z<|ab<|qs<|aZ 1 Z<|W.ret<|eE (cp ((by rw[J,hc17])))<|ak aW [] trivial Z Z Z Z ?_ ?_;·exact⟨rfl,trivial⟩
  rfl
def jg(l:List UInt8)(i:Nat):PE Nat:=match gC (bb l i)with|some n=>.ok n i|none=>.no i 10
theorem Ll:∀n:Fin 256,IntKind.u8.wrap (((BitVec.ofInt IntKind.u8.bits (n.val:Int))|||BitVec.ofInt IntKind.u8.bits 32).toNat:Int)=(((UInt8.ofNat n.val)|||32).toNat:Int):=by decide+kernel
theorem Hp(b:UInt8):IntKind.u8.wrap (((BitVec.ofInt IntKind.u8.bits (b.toNat:Int))|||BitVec.ofInt IntKind.u8.bits 32).toNat:Int)=((b|||32).toNat:Int):=by have h:=Ll ⟨b.toNat,b.toNat_lt⟩;rw[h];simp
theorem rn(s i):eo Tryz.prog 176 [.ptr 0 0] [gw s i] 0 (jI 128 s (fun n:Nat=>.d (.v (.int .i64 (n:Int)))) (jg (aX s) i)):=by
 have O:(bb (aX s) i).toNat<256:=(bb (aX s) i).toNat_lt;have N:(bb (aX s) i|||32).toNat<256:=(bb (aX s) i|||32).toNat_lt;refine eo.dk aW (n:=35) (rs:=[.tmp 2]) Tryz.func176 (by kernel_rfl) Z Tryz.ntmps176 Tryz.results176 Z (iL ..) fun C hC U=>aZ 1 Z<|ae<|ae<|aa<|pE Z<|bu [0] [] Z Z Z Z Z ((j9 s i)) Z Z (by rfl) (by rfl) Z Z Z Z ?_
 refine pE Z (ab (qs (W.block (ae ?_))));apply bC;(case hb=>rfl);·repeat' first|refine b4 Z Z Z|refine bz Z Z ?_|refine bA Z Z Z Z ?_|refine pE Z ?_|refine ab ?_|(apply bN;(case hj=>rfl);(case hl=>rfl))
 refine qs (ba Z (fun M=>?_) (fun M=>?_));·
  have q:48<=(bb (aX s) i).toNat∧(bb (aX s) i).toNat<=57:=by revert M;simp;omega
  have I:jg (aX s) i=.ok ((bb (aX s) i).toNat-48) i:=by unfold jg gC;rw[if_pos q]
  refine ae<|aa<|pE Z<|pu (b5 (ev aW Z) (y:=(((bb (aX s) i).toNat-48:Nat):Int)) (Eq.trans (wrap_u8 (by omega)) (by omega))) Z<|pu (b5 (ev aW Z) (y:=(((bb (aX s) i).toNat-48:Nat):Int)) (wrap64 (by omega))) Z<|pE Z<|ab<|qs<|W.ret<|bw<|bl<|eE (cp (I))<|ak aW [] trivial Z Z Z Z ?_ ?_;·exact⟨rfl,trivial⟩
  rfl
 have q:¬(48<=(bb (aX s) i).toNat∧(bb (aX s) i).toNat<=57):=by revert M;simp;omega
 refine ae ?_;apply bC;(case hb=>rfl);·
  refine pE Z<|pu (b5 (ev aW Z) (Hp (bb (aX s) i))) Z<|aY 2 Z ?_;apply bN;(case hj=>rfl);(case hl=>rfl);·
   refine bz Z Z<|pE Z<|bz Z Z<|pu (b5 (ev aW Z) (Hp (bb (aX s) i))) Z<|bz Z Z<|aY 3 Z<|ab<|b4 Z Z Z
  refine bA Z Z Z Z<|bA Z Z Z Z<|bA Z Z Z Z<|aY 2 Z ?_
  refine ab (b4 Z Z Z)
 refine qs (ba Z (fun J=>?_) (fun J=>?_));·
  have q2:97<=(bb (aX s) i|||32).toNat∧(bb (aX s) i|||32).toNat<=102:=by revert J;simp only[Bool.cond_false_right,ρ,Δ];omega
  have I:jg (aX s) i=.ok ((bb (aX s) i|||32).toNat-97+10) i:=by unfold jg gC;rw[if_neg q,if_pos q2]
  refine ae<|aa<|pE Z<|pu (b5 (ev aW Z) (Hp (bb (aX s) i))) Z<|pu (b5 (ev aW Z) (y:=(((bb (aX s) i|||32).toNat-97:Nat):Int)) (Eq.trans (wrap_u8 (by omega)) (by omega))) Z<|pu (b5 (ev aW Z) (y:=(((bb (aX s) i|||32).toNat-97:Nat):Int)) (wrap64 (by omega))) Z<|pu (b5 (ev aW Z) (y:=(((bb (aX s) i|||32).toNat-97+10:Nat):Int)) (Eq.trans (wrap64 (by omega)) (by omega))) Z<|pE Z<|ab<|qs<|W.ret<|bw<|bl<|eE (cp (I))<|ak aW [] trivial Z Z Z Z ?_ ?_;·exact⟨rfl,trivial⟩
  rfl
 have q2:¬(97<=(bb (aX s) i|||32).toNat∧(bb (aX s) i|||32).toNat<=102):=by revert J;simp only[Bool.cond_false_right,Bool.and_eq_false_iff,S'];omega
 have I:jg (aX s) i=.no i 10:=by unfold jg gC;rw[if_neg q,if_neg q2]
 refine ah<|bW<|qs<|ae<|aa<|aY 4 Z<|dI [] [] Z Z Z Z Z (et i 10) Z Z (by rfl)<|fun st'=>?_;repeat' refine dr ?_
 exact dQ (b9 I)
def DE(l:List UInt8)(i:Nat):PE UInt8:=match bX l [117,48,48] i with
 |.no a w=>.no a w
 |.ok _ j=>match jg l j with
  |.no a w=>.no a w
  |.ok high j1=>if high=1∨7<high then .no j1 10 else match jg l (j1+1)with
   |.no a w=>.no a w
   |.ok low j2=>if known (UInt8.ofNat (16*high+low))=false then .no j2 10 else .ok (UInt8.ofNat (16*high+low)) (j2+1)
theorem fS{c:UInt8}{n:Nat}(I:n<256)(h:(c.toNat:Int)=(n:Int)):c=UInt8.ofNat n:=UInt8.toNat_inj.1 (by rw[UInt8.toNat_ofNat_of_lt' I];omega)
theorem mu(h:((bb l i).toNat:Int)=34∨((bb l i).toNat:Int)=92∨((bb l i).toNat:Int)=47):dL l i=.ok (bb l i) (i+1):=by
 unfold dL;rw[if_pos];rcases h with h|h|h
 ·exact .inl (fS (n:=34) (by decide) h)
 ·exact .inr (.inl (fS (n:=92) (by decide) h))
 exact .inr (.inr (fS (n:=47) (by decide) h))
theorem H0(h:((bb l i).toNat:Int)=110):dL l i=.ok 10 (i+1):=by have e:=fS (n:=110) (by decide) h;unfold dL;rw[e];rfl
theorem HW(h:((bb l i).toNat:Int)=116):dL l i=.ok 9 (i+1):=by have e:=fS (n:=116) (by decide) h;unfold dL;rw[e];rfl
theorem GV(h1:¬((bb l i).toNat:Int)=34)(h2:¬((bb l i).toNat:Int)=92)(h3:¬((bb l i).toNat:Int)=47)(h4:¬((bb l i).toNat:Int)=110)(h5:¬((bb l i).toNat:Int)=116):dL l i=DE l i:=by
 unfold dL DE jg;rw[if_neg (by rintro(e|e|e)<;>rw[e]at h1 h2 h3<;>simp at h1 h2 h3),if_neg (by intro e;rw[e]at h4;simp at h4),if_neg (by intro e;rw[e]at h5;simp at h5)]
 cases bX l [117,48,48] i with
 |no a w=>rfl
 |ok y j=>
  simp only
  cases gC (bb l j)with
  |none=>rfl
  |some high=>
   simp only;by_cases q:high=1∨7<high;·rw[if_pos q,if_pos q]
   rw[if_neg q,if_neg q]
   cases gC (bb l (j+1))with
   |none=>rfl
   |some low=>rfl
theorem zC{n}(h:jg l i=.ok n j):j=i∧n<16:=by
 unfold jg at h
 cases I:gC (bb l i)with
 |none=>rw[I]at h;cases h
 |some m=>
  rw[I]at h;cases h;refine⟨rfl,?_⟩;unfold gC at I;split at I;·cases I;omega
  split at I;·cases I;omega
  cases I
theorem AT{n}(h:n<256):((UInt8.ofNat n).toNat:Int)=(n:Int):=by rw[UInt8.toNat_ofNat_of_lt' h]
theorem yg(s:ByteArray)(i)(hi:i<=s.size)(hs:s.size<=1000000000):eo Tryz.prog 158 [.ptr 0 0] [gw s i] 0 (jI 128 s (fun c:UInt8=>.d (.v (.int .u8 c.toNat))) (dL (aX s) i)):=by
 have X:=kv (l:=aX s) (x:=[117,48,48]) (i:=i) (by rw[bh];exact hi);refine eo.dk aW (n:=83) (rs:=[.tmp 2]) Tryz.func158 (by kernel_rfl) Z Tryz.ntmps158 Tryz.results158 Z (iL ..) fun C hC hG=>aZ 1 Z<|ae<|aa<|pE Z<|bu [0] [] Z Z Z Z Z ((j9 s i)) Z Z (by rfl) (by rfl) Z Z Z Z<|pE Z<|ab<|qs<|ae<|aZ 1 Z<|W.block<|ae<|aZ 2 Z<|ba Z (fun M=>?_)<|fun M=>?_;·
  have I:dL (aX s) i=.ok (bb (aX s) i) (i+1):=mu (by have:=μ M;omega);refine ah<|qs<|W.gJ Z<|ae<|aa<|aY 4 Z<|pu (b5 (ev aW Z) (y:=((i+1:Nat):Int)) (wrap64 (by omega))) Z<|aY 2 Z<|be aW Z Z Z Z Z Z Z Z<|ab<|qs<|aZ 2 Z<|W.ret<|bw<|bl<|eE (cp (I))<|ak aW [] trivial Z Z Z Z ?_ ?_;·exact⟨rfl,trivial⟩
  rfl
 refine aZ 2 Z<|ba Z (fun M=>?_)<|fun M=>?_;·
  have I:dL (aX s) i=.ok (bb (aX s) i) (i+1):=mu (by have:=μ M;omega);refine ah<|qs<|W.gJ Z<|ae<|aa<|aY 4 Z<|pu (b5 (ev aW Z) (y:=((i+1:Nat):Int)) (wrap64 (by omega))) Z<|aY 2 Z<|be aW Z Z Z Z Z Z Z Z<|ab<|qs<|aZ 2 Z<|W.ret<|bw<|bl<|eE (cp (I))<|ak aW [] trivial Z Z Z Z ?_ ?_;·exact⟨rfl,trivial⟩
  rfl
 refine cJ 2 Z<|qs<|ba Z (fun M=>?_)<|fun M=>?_;·
  have I:dL (aX s) i=.ok (bb (aX s) i) (i+1):=mu (by have:=μ M;omega);refine ae<|aa<|aY 4 Z<|pu (b5 (ev aW Z) (y:=((i+1:Nat):Int)) (wrap64 (by omega))) Z<|aY 2 Z<|be aW Z Z Z Z Z Z Z Z<|ab<|qs<|aZ 2 Z<|W.ret<|bw<|bl<|eE (cp (I))<|ak aW [] trivial Z Z Z Z ?_ ?_;·exact⟨rfl,trivial⟩
  rfl
 refine aZ 2 Z<|ba Z (fun ad=>?_)<|fun ad=>?_;·
  have I:dL (aX s) i=.ok 10 (i+1):=H0 (μ ad);refine ae<|aa<|aY 4 Z<|pu (b5 (ev aW Z) (y:=((i+1:Nat):Int)) (wrap64 (by omega))) Z<|aY 2 Z<|be aW Z Z Z Z Z Z Z Z<|ab<|qs<|aZ 1 Z<|W.ret<|bw<|bl<|eE (cp (I))<|ak aW [] trivial Z Z Z Z ?_ ?_;·exact⟨rfl,trivial⟩
  rfl
 refine aZ 2 Z<|ba Z (fun ai=>?_)<|fun ai=>?_;·
  have I:dL (aX s) i=.ok 9 (i+1):=HW (μ ai);refine ae<|aa<|aY 4 Z<|pu (b5 (ev aW Z) (y:=((i+1:Nat):Int)) (wrap64 (by omega))) Z<|aY 2 Z<|be aW Z Z Z Z Z Z Z Z<|ab<|qs<|aZ 1 Z<|W.ret<|bw<|bl<|eE (cp (I))<|ak aW [] trivial Z Z Z Z ?_ ?_;·exact⟨rfl,trivial⟩
  rfl
 have I:dL (aX s) i=DE (aX s) i:=GV (by simp_all) (by simp_all) (by simp_all) (by simp_all) (by simp_all);unfold DE at I;refine ah (bW (qs (ae (aa (pE Z ?_)))))
 cases hc40:bX (aX s) [117,48,48] i with
 |no a40 aj=>
  refine dI [0] [] Z Z Z Z Z ((lM s (B #[117,48,48]) i hs).iM (b9 hc40)) Z Z (by rfl) (fun st'=>?_);repeat' refine dr ?_
  refine dQ (b9 (by rw[I,hc40]))
 |ok ar i40=>
  refine bu [0] [] Z Z Z Z Z ((lM s (B #[117,48,48]) i hs).ret (cp hc40)) Z Z (by rfl) (by rfl) Z Z Z Z ?_;rw[hc40]at I X;rw[bh]at X;simp only at I;refine ab (qs (ae (aa (pE Z ?_))))
  cases hc42:jg (aX s) i40 with
  |no a1 a6=>
   refine dI [0] [] Z Z Z Z Z ((rn s i40).iM (b9 hc42)) Z Z (by rfl) (fun st'=>?_);repeat' refine dr ?_
   refine dQ (b9 (by rw[I,hc42]))
  |ok J i42=>
   refine bu [0] [] Z Z Z Z Z ((rn s i40).ret (cp hc42)) Z Z (by rfl) (by rfl) Z Z Z Z ?_;rw[hc42]at I;simp only at I;obtain⟨a7,a8⟩:=zC hc42;refine pE Z<|ab<|qs<|ae<|ae<|?_
   apply bC;(case hb=>rfl);·repeat' first|refine b4 Z Z Z|refine bz Z Z ?_|refine bA Z Z Z Z ?_|refine pE Z ?_|refine ab ?_|(apply bN;(case hj=>rfl);(case hl=>rfl))
   refine qs (ba Z (fun O=>?_) (fun O=>?_));·
    have q:J=1∨7<J:=by revert O;simp;omega
    rw[if_pos q]at I;refine aa<|aY 4 Z<|dI [] [] Z Z Z Z Z (et i42 10) Z Z (by rfl)<|fun st'=>?_;repeat' refine dr ?_
    exact dQ (b9 I)
   have q:¬(J=1∨7<J):=by revert O;simp;omega
   rw[if_neg q]at I;refine ah<|qs<|ae<|aa<|aY 4 Z<|pu (b5 (ev aW Z) (y:=((i42+1:Nat):Int)) (wrap64 (by omega))) Z<|aY 2 Z<|be aW Z Z Z Z Z Z Z Z<|ab<|qs<|ae<|aa<|pE Z<|pu (b5 (ev aW Z) (y:=((16*J:Nat):Int)) (Eq.trans (wrap64 (by omega)) (by omega))) Z<|pE Z ?_
   cases hc64:jg (aX s) (i42+1)with
   |no b0 b2=>
    refine dI [0] [] Z Z Z Z Z ((rn s (i42+1)).iM (b9 hc64)) Z Z (by rfl) (fun st'=>?_);repeat' refine dr ?_
    refine dQ (b9 (by rw[I,hc64]))
   |ok N i64=>
    refine bu [0] [] Z Z Z Z Z ((rn s (i42+1)).ret (cp hc64)) Z Z (by rfl) (by rfl) Z Z Z Z ?_;rw[hc64]at I;simp only at I;obtain⟨b3,ch⟩:=zC hc64;refine pu (b5 (ev aW Z) (y:=((16*J+N:Nat):Int)) (Eq.trans (wrap64 (by omega)) (by omega))) Z<|pu (b5 (ev aW Z) (y:=((UInt8.ofNat (16*J+N)).toNat:Int)) (Eq.trans (wrap_u8 (by omega)) (AT (by omega)).symm)) Z<|pE Z<|ab<|qs<|ae<|ae<|aa<|pE Z<|pu (bm Z Z Z (AB (UInt8.ofNat (16*J+N))) Z) Z ?_
    refine pE Z (ab (qs (ba Z (fun U=>?_) (fun U=>?_))));·
     have q2:known (UInt8.ofNat (16*J+N))=false:=by simpa using U
     rw[if_pos q2]at I;refine aa<|aY 4 Z<|dI [] [] Z Z Z Z Z (et i64 10) Z Z (by rfl)<|fun st'=>?_;repeat' refine dr ?_
     exact dQ (b9 I)
    have q2:¬known (UInt8.ofNat (16*J+N))=false:=by simpa using U
    rw[if_neg q2]at I;refine ah<|qs<|ae<|aa<|aY 4 Z<|pu (b5 (ev aW Z) (y:=((i64+1:Nat):Int)) (wrap64 (by omega))) Z<|aY 2 Z<|be aW Z Z Z Z Z Z Z Z<|ab<|qs<|aZ 2 Z<|W.ret<|eE (cp (I))<|ak aW [] trivial Z Z Z Z ?_ ?_;·exact⟨rfl,trivial⟩
    rfl
def ld(l:List UInt8)(i j:Nat):ByteArray:=⟨((l.drop i).take (j-i)).toArray⟩
def jY(l:List UInt8)(i j:Nat)(u:ByteArray):PE JV:=if(fY u).2=true then .ok (.mk 3 (fY u).1 (B #[]) [] []) j else .no i 2
def nL(l:List UInt8)(i i1 j:Nat):PE JV:=if j=i1 then .no i1 10 else jY l i j (if ld l i j=B #[45,48]then B #[48]else ld l i j)
theorem Jp(h:bb l i=45):e7 l i=nL l i (i+1) (cc l (i+1)):=by unfold e7 nL jY ld;rw[if_pos h]
theorem Ij(h:¬bb l i=45):e7 l i=nL l i i (cc l i):=by unfold e7 nL jY ld;rw[if_neg h]
theorem nP(s:ByteArray)(i j):s.extract i j=ld (aX s) i j:=by refine iW ?_;show aX _=_;rw[Go.Tb.Bj];unfold ld;simp[List.drop_take]
theorem oC(b:UInt8):cF b=true↔48<=b.toNat∧b.toNat<=57:=by unfold cF;simp
theorem yt(h:cF (bb l j)=false):gS l k j=j:=by cases k<;>simp[gS,h]
theorem xW(hj:j<l.length)(h:cF (bb l j)=true):gS l (l.length-j) j=gS l (l.length-(j+1)) (j+1):=by rw[show l.length-j=(l.length-(j+1))+1 by omega,gS,if_pos ⟨hj,h⟩]
theorem CX(s:ByteArray)(i)(hi:i<=s.size)(hs:s.size<=1000000000)(hm:bb (aX s) i=45):eo Tryz.prog 118 [.ptr 0 0] [gw s i] 0 (jI 128 s (fun v:JV=>.ag v.c) (e7 (aX s) i)):=by
 have X:=Jp (l:=aX s) (i:=i) hm;have a6:i<s.size:=by have:=b8 (l:=aX s) (i:=i) (by rw[hm];decide);rwa[bh]at this
 have a7:=lu (l:=aX s) (i:=i+1) (by rw[bh];omega);rw[bh]at a7;refine eo.dk aW (n:=85) (rs:=[.cell 2 46]) Tryz.func118 (by kernel_rfl) Z Tryz.ntmps118 Tryz.results118 Z (iL ..) fun C hC hG=>ae<|aa<|bT aW Z Z Z<|ab<|qs<|aZ 5 Z<|ae<|ae<|aa<|pE Z<|bu [0] [] Z Z Z Z Z ((j9 s i)) Z Z (by rfl) (by rfl) Z Z Z Z ?_
 refine pE Z (ab (qs (ba Z (fun ai=>?_) (fun ai=>?_))));·
  refine aa<|aY 4 Z<|pu (b5 (ev aW Z) (y:=((i+1:Nat):Int)) (wrap64 (by omega))) Z<|aY 2 Z<|be aW Z Z Z Z Z Z Z Z<|ab<|qs<|aZ 5 Z<|ae<|ae<|aa<|pE Z<|bu [0] [] Z Z Z Z Z ((j9 s (i+1))) Z Z (by rfl) (by rfl) Z Z Z Z ?_
  refine pE Z<|ab<|qs<|W.block<|W.bY (ι:={x:Nat//match x with|j=>(i+1)<=j∧j<=s.size∧(j=(i+1)∨bb (aX s) (i+1)≠48)∧(bb (aX s) (i+1)≠48->gS (aX s) ((aX s).length-j) j=gS (aX s) ((aX s).length-(i+1)) (i+1))})
   (fun x=>match x.1 with|j=>[(0,.ptr 0 0),(2,.ptr 1 0),(5,.d (.v (.int .u8 (bb (aX s) j).toNat)))]) [(3,_),(4,_)]
   (fun x=>match x.1 with|j=>[(0,[.d (cs s),.d (.v (.int .i64 (j:Int)))])]) [(1,_)] [] 2 (fun x=>match x.1 with|j=>s.size-j)
   [0,1] ⟨(i+1),?_⟩ Z ?_ ⟨rfl,rfl,rfl,rfl,trivial⟩ ?_ ⟨rfl,rfl,trivial⟩ Z ?_
  ·exact⟨ω _,a6,.inl Z,fun _=>rfl⟩
  ·repeat' constructor
  ·repeat' constructor
  rintro⟨j,b2,b3,ar,a1⟩;show W _ _ _ _ _ ⟨[(0,.ptr 0 0),(2,.ptr 1 0),(5,.d (.v (.int .u8 (bb (aX s) j).toNat))),(3,_),(4,_)],[(0,[.d (cs s),.d (.v (.int .i64 (j:Int)))]),(1,_)],[],2⟩;iterate 2 refine ae ?_
  apply bC;(case hb=>rfl);·
   refine aY 3 Z ?_;apply eU;(case hj=>rfl);(case hl=>rfl);·
    intro a8;refine bz Z Z<|pE Z<|bz Z Z<|aY 2 Z<|ab<|b4 Z Z Z
   intro a8;refine bA Z Z Z Z<|bA Z Z Z Z<|pE Z<|ab<|b4 Z Z Z
  refine qs (ba Z (fun aj=>?_) (fun aj=>?_));·
   have hd:cF (bb (aX s) j)=true:=by rw[oC];revert aj;simp;omega
   have b0:j<s.size:=by have:=b8 (l:=aX s) (i:=j) (by intro q;rw[q]at hd;exact absurd hd (by decide));rwa[bh]at this
   refine ah<|qs<|ae<|W.block<|ae<|aa<|aY 4 Z<|pu (b5 (ev aW Z) (y:=((j+1:Nat):Int)) (wrap64 (by omega))) Z<|aY 2 Z<|be aW Z Z Z Z Z Z Z Z<|ab<|qs<|ae<|aa<|aY 5 Z<|pu (ew aW Z Z Z Z (ε _) (fN (oA (s:=s) (i:=(i+1)) (by omega)))) Z<|pE Z<|ab<|qs<|ba Z (fun ad=>?_)<|fun ad=>?_;·
    have N:bb (aX s) (i+1)=48:=fS (n:=48) (by decide) (μ ad);have hE:j+1=cc (aX s) (i+1):=by
     unfold cc;rw[if_pos N];rcases ar with e|e
     ·rw[e]
     exact absurd N e
    rw[hE];refine an<|sU Z<|bL<|bM<|bK<|qs<|ae<|aZ 6 Z<|ba Z (fun O=>?_)<|fun O=>?_;·
     have q:cc (aX s) (i+1)=(i+1):=by have:=μ O;omega
     have M:e7 (aX s) i=.no (cc (aX s) (i+1)) 10:=by rw[X];unfold nL;rw[if_pos q,q]
     refine aa<|aY 4 Z<|dI [] [] Z Z Z Z Z (et (cc (aX s) (i+1)) 10) Z Z (by rfl)<|fun st'=>?_;repeat' refine dr ?_
     exact dQ (b9 M)
    have q:¬cc (aX s) (i+1)=(i+1):=by have:=υ O;omega
    unfold nL at X;rw[if_neg q]at X;refine ah<|qs<|ae<|W.dK aW (by kernel_rfl)<|bt (ev aW Z) Z<|bt (ev aW Z) Z<|bt (ev aW Z) Z<|bt (ev aW Z) Z ?_
    refine bt (ev aW Z) Z<|bt (ev aW Z) Z<|bt (ev aW Z) Z<|bt (ev aW Z) Z<|bt (ev aW Z) Z ?_
    refine bt (xt (lL (l:=(i:Int)) (h:=((cc (aX s) (i+1):Nat):Int)) aW Z Z Z Z Z (by omega) (by omega) (by omega)) (show _=ld (aX s) i (cc (aX s) (i+1))from nP s i _)) Z<|bt (ev aW Z) Z<|ao<|qs<|ae<|aZ 2 Z<|ba Z (fun U=>?_)<|fun U=>?_;·
     have M:=X;rw[if_pos (μ U)]at M;refine cJ 1 Z<|qs<|ae<|aa<|pE Z<|pu (bm Z Z Z (jB _ (by first|(rw[show(B #[48]).size=1 from rfl];omega)|(rw[<-nP,ByteArray.size_extract];omega))) Z) Z<|aY 5 Z<|ab<|qs<|ae<|aZ 2 Z<|ba Z (fun J=>?_)<|fun J=>?_;·
      have I:e7 (aX s) i=.no i 2:=by rw[M];unfold jY;rw[if_neg (by simpa using J)]
      refine aa (pE Z (dI [] [] Z Z Z Z Z (et i 2) Z Z (by rfl) (fun st'=>?_)));repeat' refine dr ?_
      exact dQ (b9 I)
     have I:=M;unfold jY at I;rw[if_pos (by simpa using J)]at I;refine ah (qs (ae (aa (pE Z (pu (build aW Z Z Z Z) Z ?_)))));try refine gx 84 Z Z Z ?_
     refine be aW Z Z Z Z Z Z Z Z<|ab<|qs<|W.ret<|eE (cp (I))<|ak aW [] trivial Z Z Z Z ?_ ?_;·exact⟨rfl,trivial⟩
     rfl
    have M:=X;rw[if_neg (υ U)]at M;refine ah<|qs<|ae<|aa<|pE Z<|pu (bm Z Z Z (jB _ (by first|(rw[show(B #[48]).size=1 from rfl];omega)|(rw[<-nP,ByteArray.size_extract];omega))) Z) Z<|aY 5 Z<|ab<|qs<|ae<|aZ 2 Z<|ba Z (fun J=>?_)<|fun J=>?_;·
     have I:e7 (aX s) i=.no i 2:=by rw[M];unfold jY;rw[if_neg (by simpa using J)]
     refine aa (pE Z (dI [] [] Z Z Z Z Z (et i 2) Z Z (by rfl) (fun st'=>?_)));repeat' refine dr ?_
     exact dQ (b9 I)
    have I:=M;unfold jY at I;rw[if_pos (by simpa using J)]at I;refine ah (qs (ae (aa (pE Z (pu (build aW Z Z Z Z) Z ?_)))));try refine gx 84 Z Z Z ?_
    refine be aW Z Z Z Z Z Z Z Z<|ab<|qs<|W.ret<|eE (cp (I))<|ak aW [] trivial Z Z Z Z ?_ ?_;·exact⟨rfl,trivial⟩
    rfl
   have N:bb (aX s) (i+1)≠48:=by intro q;rw[q]at ad;simp at ad
   refine ah<|bW<|qs<|aa<|pE Z<|bu [0] [] Z Z Z Z Z ((j9 s (j+1))) Z Z (by rfl) (by rfl) Z Z Z Z<|pE Z<|ab<|W.bZ [0,1] ⟨j+1,?_⟩ ?_ Z ?_ ⟨rfl,rfl,rfl,rfl,trivial⟩ ?_ ⟨rfl,rfl,trivial⟩ Z;·exact⟨by omega,by omega,.inr N,fun q=>by rw[<-a1 q,xW (by rw[bh];exact b0) hd]⟩
   ·dsimp only;omega
   ·repeat' constructor
   repeat' constructor
  have hd:cF (bb (aX s) j)=false:=by
   cases q:cF (bb (aX s) j)with
   |false=>rfl
   |true=>rw[oC]at q;revert aj;simp;omega
  have N:bb (aX s) (i+1)≠48:=by
   rcases ar with e|e
   ·rw[<-e];intro q;rw[q]at hd;exact absurd hd (by decide)
   exact e
  have hE:cc (aX s) (i+1)=j:=by unfold cc;rw[if_neg N,←a1 N,yt hd]
  subst hE;refine an<|bL<|bM<|bK<|qs<|ae<|aZ 6 Z<|ba Z (fun O=>?_)<|fun O=>?_;·
   have q:cc (aX s) (i+1)=(i+1):=by have:=μ O;omega
   have M:e7 (aX s) i=.no (cc (aX s) (i+1)) 10:=by rw[X];unfold nL;rw[if_pos q,q]
   refine aa<|aY 4 Z<|dI [] [] Z Z Z Z Z (et (cc (aX s) (i+1)) 10) Z Z (by rfl)<|fun st'=>?_;repeat' refine dr ?_
   exact dQ (b9 M)
  have q:¬cc (aX s) (i+1)=(i+1):=by have:=υ O;omega
  unfold nL at X;rw[if_neg q]at X;refine ah<|qs<|ae<|W.dK aW (by kernel_rfl)<|bt (ev aW Z) Z<|bt (ev aW Z) Z<|bt (ev aW Z) Z<|bt (ev aW Z) Z ?_
  refine bt (ev aW Z) Z<|bt (ev aW Z) Z<|bt (ev aW Z) Z<|bt (ev aW Z) Z<|bt (ev aW Z) Z ?_
  refine bt (xt (lL (l:=(i:Int)) (h:=((cc (aX s) (i+1):Nat):Int)) aW Z Z Z Z Z (by omega) (by omega) (by omega)) (show _=ld (aX s) i (cc (aX s) (i+1))from nP s i _)) Z<|bt (ev aW Z) Z<|ao<|qs<|ae<|aZ 2 Z<|ba Z (fun U=>?_)<|fun U=>?_;·
   have M:=X;rw[if_pos (μ U)]at M;refine cJ 1 Z<|qs<|ae<|aa<|pE Z<|pu (bm Z Z Z (jB _ (by first|(rw[show(B #[48]).size=1 from rfl];omega)|(rw[<-nP,ByteArray.size_extract];omega))) Z) Z<|aY 5 Z<|ab<|qs<|ae<|aZ 2 Z<|ba Z (fun J=>?_)<|fun J=>?_;·
    have I:e7 (aX s) i=.no i 2:=by rw[M];unfold jY;rw[if_neg (by simpa using J)]
    refine aa (pE Z (dI [] [] Z Z Z Z Z (et i 2) Z Z (by rfl) (fun st'=>?_)));repeat' refine dr ?_
    exact dQ (b9 I)
   have I:=M;unfold jY at I;rw[if_pos (by simpa using J)]at I;refine ah (qs (ae (aa (pE Z (pu (build aW Z Z Z Z) Z ?_)))));try refine gx 84 Z Z Z ?_
   refine be aW Z Z Z Z Z Z Z Z<|ab<|qs<|W.ret<|eE (cp (I))<|ak aW [] trivial Z Z Z Z ?_ ?_;·exact⟨rfl,trivial⟩
   rfl
  have M:=X;rw[if_neg (υ U)]at M;refine ah<|qs<|ae<|aa<|pE Z<|pu (bm Z Z Z (jB _ (by first|(rw[show(B #[48]).size=1 from rfl];omega)|(rw[<-nP,ByteArray.size_extract];omega))) Z) Z<|aY 5 Z<|ab<|qs<|ae<|aZ 2 Z<|ba Z (fun J=>?_)<|fun J=>?_;·
   have I:e7 (aX s) i=.no i 2:=by rw[M];unfold jY;rw[if_neg (by simpa using J)]
   refine aa (pE Z (dI [] [] Z Z Z Z Z (et i 2) Z Z (by rfl) (fun st'=>?_)));repeat' refine dr ?_
   exact dQ (b9 I)
  have I:=M;unfold jY at I;rw[if_pos (by simpa using J)]at I;refine ah (qs (ae (aa (pE Z (pu (build aW Z Z Z Z) Z ?_)))));try refine gx 84 Z Z Z ?_
  refine be aW Z Z Z Z Z Z Z Z<|ab<|qs<|W.ret<|eE (cp (I))<|ak aW [] trivial Z Z Z Z ?_ ?_;·exact⟨rfl,trivial⟩
  rfl
 exfalso;rw[hm]at ai;simp at ai
theorem CS(s:ByteArray)(i)(hi:i<=s.size)(hs:s.size<=1000000000)(hm:¬bb (aX s) i=45):eo Tryz.prog 118 [.ptr 0 0] [gw s i] 0 (jI 128 s (fun v:JV=>.ag v.c) (e7 (aX s) i)):=by
 have X:=Ij (l:=aX s) (i:=i) hm;have a6:=lu (l:=aX s) (i:=i) (by rw[bh];omega);rw[bh]at a6;refine eo.dk aW (n:=85) (rs:=[.cell 2 46]) Tryz.func118 (by kernel_rfl) Z Tryz.ntmps118 Tryz.results118 Z (iL ..) fun C hC hG=>ae<|aa<|bT aW Z Z Z<|ab<|qs<|aZ 5 Z<|ae<|ae<|aa<|pE Z<|bu [0] [] Z Z Z Z Z ((j9 s i)) Z Z (by rfl) (by rfl) Z Z Z Z ?_
 refine pE Z (ab (qs (ba Z (fun aj=>?_) (fun aj=>?_))));·exfalso;exact hm (fS (n:=45) (by decide) (μ aj))
 refine ah<|qs<|aZ 5 Z<|ae<|ae<|aa<|pE Z<|bu [0] [] Z Z Z Z Z ((j9 s i)) Z Z (by rfl) (by rfl) Z Z Z Z ?_
 refine pE Z<|ab<|qs<|W.block<|W.bY (ι:={x:Nat//match x with|j=>i<=j∧j<=s.size∧(j=i∨bb (aX s) i≠48)∧(bb (aX s) i≠48->gS (aX s) ((aX s).length-j) j=gS (aX s) ((aX s).length-i) i)})
  (fun x=>match x.1 with|j=>[(0,.ptr 0 0),(2,.ptr 1 0),(5,.d (.v (.int .u8 (bb (aX s) j).toNat)))]) [(3,_),(4,_)]
  (fun x=>match x.1 with|j=>[(0,[.d (cs s),.d (.v (.int .i64 (j:Int)))])]) [(1,_)] [] 2 (fun x=>match x.1 with|j=>s.size-j)
  [0,1] ⟨i,?_⟩ Z ?_ ⟨rfl,rfl,rfl,rfl,trivial⟩ ?_ ⟨rfl,rfl,trivial⟩ Z ?_
 ·exact⟨ω _,hi,.inl Z,fun _=>rfl⟩
 ·repeat' constructor
 ·repeat' constructor
 rintro⟨j,b0,b2,ar,a1⟩;show W _ _ _ _ _ ⟨[(0,.ptr 0 0),(2,.ptr 1 0),(5,.d (.v (.int .u8 (bb (aX s) j).toNat))),(3,_),(4,_)],[(0,[.d (cs s),.d (.v (.int .i64 (j:Int)))]),(1,_)],[],2⟩;iterate 2 refine ae ?_
 apply bC;(case hb=>rfl);·
  refine aY 3 Z ?_;apply eU;(case hj=>rfl);(case hl=>rfl);·
   intro a7;refine bz Z Z<|pE Z<|bz Z Z<|aY 2 Z<|ab<|b4 Z Z Z
  intro a7;refine bA Z Z Z Z<|bA Z Z Z Z<|pE Z<|ab<|b4 Z Z Z
 refine qs (ba Z (fun ai=>?_) (fun ai=>?_));·
  have hd:cF (bb (aX s) j)=true:=by rw[oC];revert ai;simp;omega
  have a8:j<s.size:=by have:=b8 (l:=aX s) (i:=j) (by intro q;rw[q]at hd;exact absurd hd (by decide));rwa[bh]at this
  refine ah<|qs<|ae<|W.block<|ae<|aa<|aY 4 Z<|pu (b5 (ev aW Z) (y:=((j+1:Nat):Int)) (wrap64 (by omega))) Z<|aY 2 Z<|be aW Z Z Z Z Z Z Z Z<|ab<|qs<|ae<|aa<|aY 5 Z<|pu (ew aW Z Z Z Z (ε _) (fN (oA (s:=s) (i:=i) (by omega)))) Z<|pE Z<|ab<|qs<|ba Z (fun ad=>?_)<|fun ad=>?_;·
   have N:bb (aX s) i=48:=fS (n:=48) (by decide) (μ ad);have hE:j+1=cc (aX s) i:=by
    unfold cc;rw[if_pos N];rcases ar with e|e
    ·rw[e]
    exact absurd N e
   rw[hE];refine an<|sU Z<|bL<|bM<|bK<|qs<|ae<|aZ 6 Z<|ba Z (fun O=>?_)<|fun O=>?_;·
    have q:cc (aX s) i=i:=by have:=μ O;omega
    have M:e7 (aX s) i=.no (cc (aX s) i) 10:=by rw[X];unfold nL;rw[if_pos q,q]
    refine aa<|aY 4 Z<|dI [] [] Z Z Z Z Z (et (cc (aX s) i) 10) Z Z (by rfl)<|fun st'=>?_;repeat' refine dr ?_
    exact dQ (b9 M)
   have q:¬cc (aX s) i=i:=by have:=υ O;omega
   unfold nL at X;rw[if_neg q]at X;refine ah<|qs<|ae<|W.dK aW (by kernel_rfl)<|bt (ev aW Z) Z<|bt (ev aW Z) Z<|bt (ev aW Z) Z<|bt (ev aW Z) Z ?_
   refine bt (ev aW Z) Z<|bt (ev aW Z) Z<|bt (ev aW Z) Z<|bt (ev aW Z) Z<|bt (ev aW Z) Z ?_
   refine bt (xt (lL (l:=(i:Int)) (h:=((cc (aX s) i:Nat):Int)) aW Z Z Z Z Z (by omega) (by omega) (by omega)) (show _=ld (aX s) i (cc (aX s) i)from nP s i _)) Z<|bt (ev aW Z) Z<|ao<|qs<|ae<|aZ 2 Z<|ba Z (fun U=>?_)<|fun U=>?_;·
    have M:=X;rw[if_pos (μ U)]at M;refine cJ 1 Z<|qs<|ae<|aa<|pE Z<|pu (bm Z Z Z (jB _ (by first|(rw[show(B #[48]).size=1 from rfl];omega)|(rw[<-nP,ByteArray.size_extract];omega))) Z) Z<|aY 5 Z<|ab<|qs<|ae<|aZ 2 Z<|ba Z (fun J=>?_)<|fun J=>?_;·
     have I:e7 (aX s) i=.no i 2:=by rw[M];unfold jY;rw[if_neg (by simpa using J)]
     refine aa (pE Z (dI [] [] Z Z Z Z Z (et i 2) Z Z (by rfl) (fun st'=>?_)));repeat' refine dr ?_
     exact dQ (b9 I)
    have I:=M;unfold jY at I;rw[if_pos (by simpa using J)]at I;refine ah (qs (ae (aa (pE Z (pu (build aW Z Z Z Z) Z ?_)))));try refine gx 84 Z Z Z ?_
    refine be aW Z Z Z Z Z Z Z Z<|ab<|qs<|W.ret<|eE (cp (I))<|ak aW [] trivial Z Z Z Z ?_ ?_;·exact⟨rfl,trivial⟩
    rfl
   have M:=X;rw[if_neg (υ U)]at M;refine ah<|qs<|ae<|aa<|pE Z<|pu (bm Z Z Z (jB _ (by first|(rw[show(B #[48]).size=1 from rfl];omega)|(rw[<-nP,ByteArray.size_extract];omega))) Z) Z<|aY 5 Z<|ab<|qs<|ae<|aZ 2 Z<|ba Z (fun J=>?_)<|fun J=>?_;·
    have I:e7 (aX s) i=.no i 2:=by rw[M];unfold jY;rw[if_neg (by simpa using J)]
    refine aa (pE Z (dI [] [] Z Z Z Z Z (et i 2) Z Z (by rfl) (fun st'=>?_)));repeat' refine dr ?_
    exact dQ (b9 I)
   have I:=M;unfold jY at I;rw[if_pos (by simpa using J)]at I;refine ah (qs (ae (aa (pE Z (pu (build aW Z Z Z Z) Z ?_)))));try refine gx 84 Z Z Z ?_
   refine be aW Z Z Z Z Z Z Z Z<|ab<|qs<|W.ret<|eE (cp (I))<|ak aW [] trivial Z Z Z Z ?_ ?_;·exact⟨rfl,trivial⟩
   rfl
  have N:bb (aX s) i≠48:=by intro q;rw[q]at ad;simp at ad
  refine ah<|bW<|qs<|aa<|pE Z<|bu [0] [] Z Z Z Z Z ((j9 s (j+1))) Z Z (by rfl) (by rfl) Z Z Z Z<|pE Z<|ab<|W.bZ [0,1] ⟨j+1,?_⟩ ?_ Z ?_ ⟨rfl,rfl,rfl,rfl,trivial⟩ ?_ ⟨rfl,rfl,trivial⟩ Z;·exact⟨by omega,by omega,.inr N,fun q=>by rw[<-a1 q,xW (by rw[bh];exact a8) hd]⟩
  ·dsimp only;omega
  ·repeat' constructor
  repeat' constructor
 have hd:cF (bb (aX s) j)=false:=by
  cases q:cF (bb (aX s) j)with
  |false=>rfl
  |true=>rw[oC]at q;revert ai;simp;omega
 have N:bb (aX s) i≠48:=by
  rcases ar with e|e
  ·rw[<-e];intro q;rw[q]at hd;exact absurd hd (by decide)
  exact e
 have hE:cc (aX s) i=j:=by unfold cc;rw[if_neg N,←a1 N,yt hd]
 subst hE;refine an<|bL<|bM<|bK<|qs<|ae<|aZ 6 Z<|ba Z (fun O=>?_)<|fun O=>?_;·
  have q:cc (aX s) i=i:=by have:=μ O;omega
  have M:e7 (aX s) i=.no (cc (aX s) i) 10:=by rw[X];unfold nL;rw[if_pos q,q]
  refine aa<|aY 4 Z<|dI [] [] Z Z Z Z Z (et (cc (aX s) i) 10) Z Z (by rfl)<|fun st'=>?_;repeat' refine dr ?_
  exact dQ (b9 M)
 have q:¬cc (aX s) i=i:=by have:=υ O;omega
 unfold nL at X;rw[if_neg q]at X;refine ah<|qs<|ae<|W.dK aW (by kernel_rfl)<|bt (ev aW Z) Z<|bt (ev aW Z) Z<|bt (ev aW Z) Z<|bt (ev aW Z) Z ?_
 refine bt (ev aW Z) Z<|bt (ev aW Z) Z<|bt (ev aW Z) Z<|bt (ev aW Z) Z<|bt (ev aW Z) Z ?_
 refine bt (xt (lL (l:=(i:Int)) (h:=((cc (aX s) i:Nat):Int)) aW Z Z Z Z Z (by omega) (by omega) (by omega)) (show _=ld (aX s) i (cc (aX s) i)from nP s i _)) Z<|bt (ev aW Z) Z<|ao<|qs<|ae<|aZ 2 Z<|ba Z (fun U=>?_)<|fun U=>?_;·
  have M:=X;rw[if_pos (μ U)]at M;refine cJ 1 Z<|qs<|ae<|aa<|pE Z<|pu (bm Z Z Z (jB _ (by first|(rw[show(B #[48]).size=1 from rfl];omega)|(rw[<-nP,ByteArray.size_extract];omega))) Z) Z<|aY 5 Z<|ab<|qs<|ae<|aZ 2 Z<|ba Z (fun J=>?_)<|fun J=>?_;·
   have I:e7 (aX s) i=.no i 2:=by rw[M];unfold jY;rw[if_neg (by simpa using J)]
   refine aa (pE Z (dI [] [] Z Z Z Z Z (et i 2) Z Z (by rfl) (fun st'=>?_)));repeat' refine dr ?_
   exact dQ (b9 I)
  have I:=M;unfold jY at I;rw[if_pos (by simpa using J)]at I;refine ah (qs (ae (aa (pE Z (pu (build aW Z Z Z Z) Z ?_)))));try refine gx 84 Z Z Z ?_
  refine be aW Z Z Z Z Z Z Z Z<|ab<|qs<|W.ret<|eE (cp (I))<|ak aW [] trivial Z Z Z Z ?_ ?_;·exact⟨rfl,trivial⟩
  rfl
 have M:=X;rw[if_neg (υ U)]at M;refine ah<|qs<|ae<|aa<|pE Z<|pu (bm Z Z Z (jB _ (by first|(rw[show(B #[48]).size=1 from rfl];omega)|(rw[<-nP,ByteArray.size_extract];omega))) Z) Z<|aY 5 Z<|ab<|qs<|ae<|aZ 2 Z<|ba Z (fun J=>?_)<|fun J=>?_;·
  have I:e7 (aX s) i=.no i 2:=by rw[M];unfold jY;rw[if_neg (by simpa using J)]
  refine aa (pE Z (dI [] [] Z Z Z Z Z (et i 2) Z Z (by rfl) (fun st'=>?_)));repeat' refine dr ?_
  exact dQ (b9 I)
 have I:=M;unfold jY at I;rw[if_pos (by simpa using J)]at I;refine ah (qs (ae (aa (pE Z (pu (build aW Z Z Z Z) Z ?_)))));try refine gx 84 Z Z Z ?_
 refine be aW Z Z Z Z Z Z Z Z<|ab<|qs<|W.ret<|eE (cp (I))<|ak aW [] trivial Z Z Z Z ?_ ?_;·exact⟨rfl,trivial⟩
 rfl
theorem vY(s:ByteArray)(i)(hi:i<=s.size)(hs:s.size<=1000000000):eo Tryz.prog 118 [.ptr 0 0] [gw s i] 0 (jI 128 s (fun v:JV=>.ag v.c) (e7 (aX s) i)):=by
 by_cases hm:bb (aX s) i=45;·exact CX s i hi hs hm
 exact CS s i hi hs hm
theorem xy{acc}(h1:¬((bb l i).toNat<32∨126<(bb l i).toNat))(h2:bb l i≠34)(h3:bb l i≠92):dE l (k+1) i acc=dE l k (i+1) (acc++[bb l i]):=by rw[dE,if_neg h1,if_neg h2,if_neg h3]
theorem Ae{acc}(h3:bb l i=92):dE l (k+1) i acc=match dL l (i+1)with|.no a w=>.no a w|.ok c j=>dE l k j (acc++[c]):=by rw[dE,h3];rfl
theorem AU{acc}(h3:bb l i=34):dE l (k+1) i acc=.ok acc (i+1):=by rw[dE,h3];rfl
theorem BF{acc}(h1:(bb l i).toNat<32∨126<(bb l i).toNat):dE l (k+1) i acc=.no i 10:=by rw[dE,if_pos h1]
theorem Jw(a b):bytesOf a++bytesOf [b]=bytesOf (a++[b]):=iW (by show aX _=aX _;rw[kF,iw,iw])
theorem rJ(s:ByteArray)(i)(hi:i<=s.size)(hs:s.size<=1000000000):eo Tryz.prog 115 [.ptr 0 0] [gw s i] 0 (jI 128 s (fun t:List UInt8=>.d (.v (.string (bytesOf t)))) (cL (aX s) i)):=by
 refine eo.yA aW (n:=53) (rs:=[.tmp 2]) Tryz.func115 (by kernel_rfl) Z Tryz.ntmps115 Tryz.results115 Z (iL ..) fun C hC hG aj ar=>aZ 1 Z<|ae<|aa<|pE Z ?_
 cases hc6:cn (aX s) 34 i with
 |no a6 w6=>
  refine dI [0] [] Z Z Z Z Z ((lT s 34 i hs).iM (b9 hc6)) Z Z (by rfl) (fun st'=>?_);repeat' refine dr ?_
  refine dQ (b9 (by unfold cL;rw[hc6]))
 |ok y6 i6=>
  refine bu [0] [] Z Z Z Z Z ((lT s 34 i hs).ret (cp hc6)) Z Z (by rfl) (by rfl) Z Z Z Z ?_;have hg:cL (aX s) i=dE (aX s) ((aX s).length+1-i6) i6 []:=by unfold cL;rw[hc6]
  have U:=jP (l:=aX s) (c:=34) (i:=i) (by rw[bh];exact hi);rw[hc6]at U;refine ab<|qs<|ae<|aa<|EM aW tU Z Z Z<|ab<|qs<|W.block<|W.bY (ι:={x:Nat×List UInt8×Bool//match x with|(j,acc,u)=>j<=s.size∧acc.length<=j∧∃J,(aX s).length<=J+j∧dE (aX s) (J+1) j acc=cL (aX s) i})
   (fun x=>match x.1 with|(j,acc,u)=>[(0,.ptr 0 0),(3,.ptr 1 0)]) []
   (fun x=>match x.1 with|(j,acc,u)=>[(0,[.d (cs s),.d (.v (.int .i64 (j:Int)))]),(1,[.np 1 tB u,.bf 2 tU (bytesOf acc)])]) [] [2] 3 (fun x=>match x.1 with|(j,acc,u)=>s.size-j)
   [0,2,3] ⟨(i6,[],false),?_⟩ Z ?_ trivial ?_ trivial Z ?_
  ·exact⟨by have:=U.2;rwa[bh]at this,ς _,(aX s).length-i6,by omega,by rw[hg,show(aX s).length+1-i6=(aX s).length-i6+1 by have:=U.2;omega]⟩
  ·repeat' constructor
  ·repeat' constructor
  rintro⟨⟨j,acc,u⟩,hj,ha,hX⟩;show W _ _ _ _ _ ⟨[(0,.ptr 0 0),(3,.ptr 1 0)],[(0,[.d (cs s),.d (.v (.int .i64 (j:Int)))]),(1,[.np 1 tB u,.bf 2 tU (bytesOf acc)])],[2],3⟩;refine W.block (ae ?_);obtain⟨J,ad,hI⟩:=hX;refine aa<|pE Z<|bu [0] [] Z Z Z Z Z ((j9 s j)) Z Z (by rfl) (by rfl) Z Z Z Z<|pE Z<|ab<|qs<|ae<|W.block<|ae ?_;apply bC;(case hb=>rfl);·repeat' first|refine b4 Z Z Z|refine bz Z Z ?_|refine bA Z Z Z Z ?_|refine pE Z ?_|refine ab ?_|(apply bN;(case hj=>rfl);(case hl=>rfl))
  refine qs (ba Z (fun X=>?_) (fun X=>?_));·
   have q:(bb (aX s) j).toNat<32∨126<(bb (aX s) j).toNat:=by revert X;simp;omega
   have hx:cL (aX s) i=.no j 10:=by rw[<-hI,BF q]
   refine aa<|aY 4 Z<|dI [] [] Z Z Z Z Z (et j 10) Z Z (by rfl)<|fun st'=>?_;repeat' first|refine dr ?_|refine iP ?_|refine ma ?_
   exact dQ (b9 hx)
  have q:¬((bb (aX s) j).toNat<32∨126<(bb (aX s) j).toNat):=by revert X;simp;omega
  have a7:j<s.size:=by have:=b8 (l:=aX s) (i:=j) (by intro e;rw[e]at q;exact q (.inl (by decide)));rwa[bh]at this
  refine aZ 3 Z<|ba Z (fun M=>?_)<|fun M=>?_;·
   have hx:cL (aX s) i=.ok acc (j+1):=by rw[<-hI,AU (fS (n:=34) (by decide) (μ M))]
   refine ae<|aa<|aY 4 Z<|pu (b5 (ev aW Z) (y:=((j+1:Nat):Int)) (wrap64 (by omega))) Z<|aY 2 Z<|be aW Z Z Z Z Z Z Z Z<|ab<|qs<|ae<|aa<|Iz (aj Z) ar Z Z Z Z FI B4 (by rw[wE];simp only[maxLen];omega) Z Z<|pE Z<|ab<|qs<|W.ret<|bw<|bl<|bw<|cN<|bw<|eE (cp (hx))<|ak aW [] trivial Z Z Z Z ?_ ?_;·exact⟨rfl,trivial⟩
   rfl
  have q2:bb (aX s) j≠34:=by intro e;rw[e]at M;simp at M
  refine aZ 3 Z<|ba Z (fun N=>?_)<|fun N=>?_;·
   have I:=hI;rw[Ae (fS (n:=92) (by decide) (μ N))]at I;have ai:=tI (l:=aX s) (i:=j+1) (by rw[bh];omega);refine ae<|aa<|aY 4 Z<|pu (b5 (ev aW Z) (y:=((j+1:Nat):Int)) (wrap64 (by omega))) Z<|aY 2 Z<|be aW Z Z Z Z Z Z Z Z<|ab<|qs<|aa<|pE Z ?_
   cases hc50:dL (aX s) (j+1)with
   |no a8 b0=>
    refine dI [0] [] Z Z Z Z Z ((yg s (j+1) (by omega) hs).iM (b9 hc50)) Z Z (by rfl) (fun st'=>?_);repeat' first|refine dr ?_|refine iP ?_|refine ma ?_
    refine dQ (b9 (by rw[<-I,hc50]))
   |ok O i50=>
    refine bu [0] [] Z Z Z Z Z ((yg s (j+1) (by omega) hs).ret (cp hc50)) Z Z (by rfl) (by rfl) Z Z Z Z ?_;rw[hc50]at I ai;have a1:j+1<i50∧i50<=s.size:=by have:=ai;rw[<-bh s];exact this
    have hW:=ga (u:=u) (s:=bytesOf acc) (m:=bytesOf [O]) (r:=bytesOf (acc++[O])) (c:=O.toNat) (Jw ..) Z (gP _).2 (by rw[wE];omega);refine pE Z<|ab<|bW<|qs<|aa<|pE Z<|bu [1] [2] Z Z Z Z Z hW Z Z (by rfl) (by rfl) Z Z Z Z<|ab<|bW<|W.bZ [0,1,6] ⟨(i50,acc++[O],true),?_⟩ ?_ Z ?_ trivial ?_ trivial Z;·
     obtain⟨k2,rfl⟩:∃k2,J=k2+1:=⟨J-1,by rw[bh]at ad;omega⟩;exact⟨by omega,by rw[ν,Φ];omega,k2,by omega,I⟩
    ·dsimp only;omega
    ·repeat' constructor
    repeat' constructor
  have q3:bb (aX s) j≠92:=by intro e;rw[e]at N;simp at N
  have I:=hI;rw[xy q q2 q3]at I;have hW:=ga (u:=u) (s:=bytesOf acc) (m:=bytesOf [bb (aX s) j]) (r:=bytesOf (acc++[bb (aX s) j])) (c:=(bb (aX s) j).toNat) (Jw ..) Z (gP _).2 (by rw[wE];omega);refine aa<|aY 4 Z<|pu (b5 (ev aW Z) (y:=((j+1:Nat):Int)) (wrap64 (by omega))) Z<|aY 2 Z<|be aW Z Z Z Z Z Z Z Z<|ab<|bW<|qs<|aa<|pE Z<|bu [1] [2] Z Z Z Z Z hW Z Z (by rfl) (by rfl) Z Z Z Z<|ab<|bW<|W.bZ [0,1,5] ⟨(j+1,acc++[bb (aX s) j],true),?_⟩ ?_ Z ?_ trivial ?_ trivial Z;·
   obtain⟨k2,rfl⟩:∃k2,J=k2+1:=⟨J-1,by rw[bh]at ad;omega⟩;exact⟨by omega,by rw[ν,Φ];omega,k2,by omega,I⟩
  ·dsimp only;omega
  ·repeat' constructor
  repeat' constructor
theorem JU(l k level i0):dA l (k+1) level i0=
 if bb l (bg l i0)=110 then(match bX l kN (bg l i0)with|.no a w=>.no a w|.ok _ j=>.ok (.mk 1 0 (B #[]) [] []) j)
 else if bb l (bg l i0)=116 then(match bX l jn (bg l i0)with|.no a w=>.no a w|.ok _ j=>.ok (.mk 2 1 (B #[]) [] []) j)
 else if bb l (bg l i0)=102 then(match bX l il (bg l i0)with|.no a w=>.no a w|.ok _ j=>.ok (.mk 2 0 (B #[]) [] []) j)
 else if bb l (bg l i0)=34 then(match cL l (bg l i0)with|.no a w=>.no a w|.ok t j=>.ok (.mk 4 0 (bytesOf t) [] []) j)
 else if bb l (bg l i0)=91∨bb l (bg l i0)=123 then
  if 16<level then .no (bg l i0) 20
  else if bb l (bg l i0)=91 then ie l k level (bg l i0+1)else ib l k level (bg l i0+1)
 else e7 l (bg l i0):=by rw[dA]<;>rfl
theorem kP{c d:UInt8}(h:decide ((c.toNat:Int)=(d.toNat:Int))=false):c≠d:=by rintro rfl;simp at h
theorem jK{c d:UInt8}(h:decide ((c.toNat:Int)=(d.toNat:Int))=true):c=d:=UInt8.toNat_inj.1 (by have:=μ h;omega)
theorem C4(s:ByteArray)(k)(hs:s.size<=1000000000)(level i0)(hi:i0<=s.size)(hA:∀i,i0<i->i<=s.size->level<=16->eo Tryz.prog 116 [.ptr 0 0,.d (.v (.int .i64 level))] [gw s i] 0 (jI 128 s (fun v:JV=>.ag v.c) (ie (aX s) k level i)))(hO:∀i,i0<i->i<=s.size->level<=16->eo Tryz.prog 117 [.ptr 0 0,.d (.v (.int .i64 level))] [gw s i] 0 (jI 128 s (fun v:JV=>.ag v.c) (ib (aX s) k level i))):
 eo Tryz.prog 71 [.ptr 0 0,.d (.v (.int .i64 level))] [gw s i0] 0 (jI 128 s (fun v:JV=>.ag v.c) (dA (aX s) (k+1) level i0)):=by
 have hle:bg (aX s) i0<=s.size:=by have:=cA (l:=aX s) (i:=i0) (by rw[bh];exact hi);rwa[bh]at this
 have ai:=cE (aX s) i0;have I:=JU (aX s) k level i0;refine eo.dk aW (n:=63) (rs:=[.cell 4 46]) Tryz.func71 (by kernel_rfl) Z Tryz.ntmps71 Tryz.results71 Z (iL ..) fun C hC hG=>ae<|aa<|bT aW Z Z Z<|ab<|qs<|ae<|ae<|aa<|pE Z<|bu [0] [] Z Z Z Z Z ((mG s i0 hi hs)) Z Z (by rfl) (by rfl) Z Z Z Z ?_
 refine pE Z<|ab<|qs<|W.block<|aZ 3 Z<|ba Z (fun h8=>?_)<|fun h8=>?_;·
  rw[if_pos (jK (d:=110) h8)]at I;refine ae (aa (pE Z ?_))
  cases hc12:bX (aX s) kN (bg (aX s) i0)with
  |no a12 aj=>
   refine dI [0] [] Z Z Z Z Z ((lM s (B #[110,117,108,108]) (bg (aX s) i0) hs).iM (b9 hc12)) Z Z (by rfl) (fun st'=>?_);repeat' first|refine dr ?_|refine iP ?_
   refine dQ (b9 (by rw[I,hc12]))
  |ok ar i12=>
   refine bu [0] [] Z Z Z Z Z ((lM s (B #[110,117,108,108]) (bg (aX s) i0) hs).ret (cp hc12)) Z Z (by rfl) (by rfl) Z Z Z Z<|ab<|qs<|ae<|aa<|pu (build aW Z Z Z Z) Z ?_;try refine gx 13 Z Z Z ?_
   refine be aW Z Z Z Z Z Z Z Z<|ab<|qs<|W.ret<|bw<|bl<|eE (cp ((by rw[I,hc12])))<|ak aW [] trivial Z Z Z Z ?_ ?_;·exact⟨rfl,trivial⟩
   rfl
 rw[if_neg (kP (d:=110) h8)]at I;refine aZ 3 Z<|ba Z (fun M=>?_)<|fun M=>?_;·
  rw[if_pos (jK (d:=116) M)]at I;refine ae (aa (pE Z ?_))
  cases hc18:bX (aX s) jn (bg (aX s) i0)with
  |no a1 a6=>
   refine dI [0] [] Z Z Z Z Z ((lM s (B #[116,114,117,101]) (bg (aX s) i0) hs).iM (b9 hc18)) Z Z (by rfl) (fun st'=>?_);repeat' first|refine dr ?_|refine iP ?_
   refine dQ (b9 (by rw[I,hc18]))
  |ok a7 i18=>
   refine bu [0] [] Z Z Z Z Z ((lM s (B #[116,114,117,101]) (bg (aX s) i0) hs).ret (cp hc18)) Z Z (by rfl) (by rfl) Z Z Z Z<|ab<|qs<|ae<|aa<|pu (build aW Z Z Z Z) Z ?_;try refine gx 19 Z Z Z ?_
   refine be aW Z Z Z Z Z Z Z Z<|ab<|qs<|W.ret<|bw<|bl<|eE (cp ((by rw[I,hc18])))<|ak aW [] trivial Z Z Z Z ?_ ?_;·exact⟨rfl,trivial⟩
   rfl
 rw[if_neg (kP (d:=116) M)]at I;refine aZ 3 Z<|ba Z (fun N=>?_)<|fun N=>?_;·
  rw[if_pos (jK (d:=102) N)]at I;refine ae (aa (pE Z ?_))
  cases hc24:bX (aX s) il (bg (aX s) i0)with
  |no a24 a8=>
   refine dI [0] [] Z Z Z Z Z ((lM s (B #[102,97,108,115,101]) (bg (aX s) i0) hs).iM (b9 hc24)) Z Z (by rfl) (fun st'=>?_);repeat' first|refine dr ?_|refine iP ?_
   refine dQ (b9 (by rw[I,hc24]))
  |ok b0 i24=>
   refine bu [0] [] Z Z Z Z Z ((lM s (B #[102,97,108,115,101]) (bg (aX s) i0) hs).ret (cp hc24)) Z Z (by rfl) (by rfl) Z Z Z Z<|ab<|qs<|ae<|aa<|pu (build aW Z Z Z Z) Z ?_;try refine gx 25 Z Z Z ?_
   refine be aW Z Z Z Z Z Z Z Z<|ab<|qs<|W.ret<|bw<|bl<|eE (cp ((by rw[I,hc24])))<|ak aW [] trivial Z Z Z Z ?_ ?_;·exact⟨rfl,trivial⟩
   rfl
 rw[if_neg (kP (d:=102) N)]at I;refine aZ 3 Z<|ba Z (fun O=>?_)<|fun O=>?_;·
  rw[if_pos (jK (d:=34) O)]at I;refine ae (aa (pE Z ?_))
  cases hc30:cL (aX s) (bg (aX s) i0)with
  |no b2 b3=>
   refine dI [0] [] Z Z Z Z Z ((rJ s (bg (aX s) i0) hle hs).iM (b9 hc30)) Z Z (by rfl) (fun st'=>?_);repeat' first|refine dr ?_|refine iP ?_
   refine dQ (b9 (by rw[I,hc30]))
  |ok ch i30=>
   refine bu [0] [] Z Z Z Z Z ((rJ s (bg (aX s) i0) hle hs).ret (cp hc30)) Z Z (by rfl) (by rfl) Z Z Z Z<|pu (build aW Z Z Z Z) Z ?_;try refine gx 31 Z Z Z ?_
   refine be aW Z Z Z Z Z Z Z Z<|ab<|qs<|W.ret<|bw<|bl<|eE (cp ((by rw[I,hc30])))<|ak aW [] trivial Z Z Z Z ?_ ?_;·exact⟨rfl,trivial⟩
   rfl
 rw[if_neg (kP (d:=34) O)]at I;refine ae ?_;apply bC;(case hb=>rfl);·repeat' first|refine b4 Z Z Z|refine bz Z Z ?_|refine bA Z Z Z Z ?_|refine pE Z ?_|refine ab ?_|(apply bN;(case hj=>rfl);(case hl=>rfl))
 refine qs (ba Z (fun J=>?_) (fun J=>?_));·
  have q:bb (aX s) (bg (aX s) i0)=91∨bb (aX s) (bg (aX s) i0)=123:=by
   by_cases e:bb (aX s) (bg (aX s) i0)=91;·exact .inl e
   refine .inr (fS (n:=123) (by decide) ?_);have e2:¬((bb (aX s) (bg (aX s) i0)).toNat:Int)=91:=fun h=>e (fS (n:=91) (by decide) h);revert J;simp[e2]
  rw[if_pos q]at I;have cj:bg (aX s) i0<s.size:=by have:=b8 (l:=aX s) (i:=bg (aX s) i0) (by rcases q with q|q<;>rw[q]<;>decide);rwa[bh]at this
  refine ae<|aZ 2 Z<|ba Z (fun U=>?_)<|fun U=>?_;·
   rw[if_pos (μ U)]at I;refine aa<|aY 4 Z<|dI [] [] Z Z Z Z Z (et (bg (aX s) i0) 20) Z Z (by rfl)<|fun st'=>?_;repeat' first|refine dr ?_|refine iP ?_
   exact dQ (b9 I)
  have ad:¬16<level:=υ U;rw[if_neg ad]at I;refine ah<|qs<|ae<|aa<|aY 4 Z<|pu (b5 (ev aW Z) (y:=((bg (aX s) i0+1:Nat):Int)) (wrap64 (by omega))) Z<|aY 2 Z<|be aW Z Z Z Z Z Z Z Z<|ab<|qs<|ae<|aZ 2 Z<|ba Z (fun X=>?_)<|fun X=>?_;·
   rw[if_pos (jK (d:=91) X)]at I;refine ae (aa (aY 2 Z ?_))
   cases hc57:ie (aX s) k level (bg (aX s) i0+1)with
   |no cl cq=>
    refine dI [0] [] Z Z Z Z Z ((hA (bg (aX s) i0+1) (by omega) (by omega) (by omega)).iM (b9 hc57)) Z Z (by rfl) (fun st'=>?_);repeat' first|refine dr ?_|refine iP ?_
    refine dQ (b9 (by rw[I,hc57]))
   |ok cx i57=>
    refine bu [0] [] Z Z Z Z Z ((hA (bg (aX s) i0+1) (by omega) (by omega) (by omega)).ret (cp hc57)) Z Z (by rfl) (by rfl) Z Z Z Z<|be aW Z Z Z Z Z Z Z Z<|ab<|qs<|W.ret<|bl<|bw<|bl<|eE (cp ((by rw[I,hc57])))<|ak aW [] trivial Z Z Z Z ?_ ?_;·exact⟨rfl,trivial⟩
    rfl
  rw[if_neg (kP (d:=91) X)]at I;refine ah (qs (ae (aa (aY 2 Z ?_))))
  cases hc60:ib (aX s) k level (bg (aX s) i0+1)with
  |no cy c1=>
   refine dI [0] [] Z Z Z Z Z ((hO (bg (aX s) i0+1) (by omega) (by omega) (by omega)).iM (b9 hc60)) Z Z (by rfl) (fun st'=>?_);repeat' first|refine dr ?_|refine iP ?_
   refine dQ (b9 (by rw[I,hc60]))
  |ok c6 i60=>
   refine bu [0] [] Z Z Z Z Z ((hO (bg (aX s) i0+1) (by omega) (by omega) (by omega)).ret (cp hc60)) Z Z (by rfl) (by rfl) Z Z Z Z<|be aW Z Z Z Z Z Z Z Z<|ab<|qs<|W.ret<|bw<|bl<|eE (cp ((by rw[I,hc60])))<|ak aW [] trivial Z Z Z Z ?_ ?_;·exact⟨rfl,trivial⟩
   rfl
 have q:¬(bb (aX s) (bg (aX s) i0)=91∨bb (aX s) (bg (aX s) i0)=123):=by rintro(e|e)<;>rw[e]at J<;>simp at J
 rw[if_neg q]at I;refine ah (bW (qs (ae (aa (pE Z ?_)))))
 cases hc62:e7 (aX s) (bg (aX s) i0)with
 |no c7 df=>
  refine dI [0] [] Z Z Z Z Z ((vY s (bg (aX s) i0) hle hs).iM (b9 hc62)) Z Z (by rfl) (fun st'=>?_);repeat' refine dr ?_
  refine dQ (b9 (by rw[I,hc62]))
 |ok di i62=>
  refine bu [0] [] Z Z Z Z Z ((vY s (bg (aX s) i0) hle hs).ret (cp hc62)) Z Z (by rfl) (by rfl) Z Z Z Z<|be aW Z Z Z Z Z Z Z Z<|ab<|qs<|W.ret<|eE (cp ((by rw[I,hc62])))<|ak aW [] trivial Z Z Z Z ?_ ?_;·exact⟨rfl,trivial⟩
  rfl
end Go.Proofs.YtpiaiiopakafhaaGreatDoor
