import Derived.Test.YtpiaiiopakafhaaGreatDoorQ3
import Derived.RowKit
import Derived.Shelf.Strings.Builder1
import Derived.Shelf.Small.Strs
import Derived.Shelf.Strconv.Atoi
import Derived.Shelf.Strconv.Itoa0
import Derived.Shelf.Strconv.Itoa1
import Derived.Shelf.LaysM
import Derived.Shelf.Strconv.Itoa2
import Derived.Shelf.Strconv.Itoa3
import Derived.Shelf.Strconv.AtoiErrFast
import Derived.Shelf.Strconv.ParseIntEmpty
import Derived.Shelf.Strconv.AtoiFail
import Derived.Shelf.Strconv.Clone
import Derived.Shelf.Strconv.SyntaxError
import Derived.Shelf.LaysC
import Derived.Shelf.Strconv.ToError
import Derived.Shelf.Strconv.AtoiErr
import Derived.Shelf.Strconv.ErrVar
import Derived.Shelf.Strconv.Lower
import Derived.Shelf.Strconv.ParseUint10
import Derived.Shelf.Strconv.ParseUint10Empty
import Derived.Shelf.Strconv.ParseUint10Any
import Derived.Shelf.Strconv.ParseInt10
import Derived.Shelf.Strconv.AtoiLong
import Derived.Shelf.Strconv.AtoiInnerAll
import Derived.Shelf.Strconv.RangeError
import Derived.Shelf.Strconv.ToErrorRange
import Derived.Shelf.Strconv.AtoiAll
import Derived.Shelf.Strconv.ErrVarAll
import Derived.Shelf.Strings.Search1
import Derived.Shelf.Slices.Equal
import Derived.Shelf.Slices.Empties2
import Derived.Test.YtpiaiiopakafhaaGreatDoorProg
import Derived.Test.YtpiaiiopakafhaaGreatDoorChecked
import Derived.KernelRfl
import Derived.Test.YtpiaiiopakafhaaGreatDoorRows
import Derived.Lib.Strings
import Derived.Lib.Slices
import Derived.Lib.Walk
import Derived.Lib.Builder
import Derived.Lib.UnsafeStr
import Derived.WalkKit
import Derived.Laws.Externs
import Derived.Laws.IdiomCopy
namespace Go.Tb
open Go.Ab
variable {l:List UInt8}{i k u:Nat}{α:Type}{level id a:Int}{x:Value}
variable {l1:List (Value×List (List D))}
variable {j:JV}
variable {l2:List (Value×List Ev)}{e:Ev}
structure dV where
 id:Int
 name:ByteArray
deriving DecidableEq
@[reducible] def dV.c(t:dV):List D:=[ci t.id,cs t.name,ci 0]
def dF(p:Int×Int):List D:=[ci p.1,ci p.2]
def gy:List (Int×Int):=[(0,0)]
@[reducible] def Kb(ts:List dV):List D:=[.sl (ts.map dV.c),.sl (gy.map dF),.sl []]
def LQ(ts:List dV):Prop:=(∀t∈ts,0<=t.id∧t.id<=1000000000000000∧cw t.name=0)∧(ts.map dV.id).Nodup
structure bH where
 thread:Int
 serial:Int
 lost:Int
 evs:List Ev
@[reducible] def bH.c(p:bH):List D:=[ci p.thread,ci p.serial,ci p.lost,.sl (p.evs.map Ev.c)]
theorem Gx{β:Type}{f:α->β}{l:List α}(h:(l.map f).Nodup){x:α}(I:l[k]?=some x):f x∉(l.take k).map f:=by grind[List.mem_iff_getElem?,List.getElem?_eq_some_iff,List.getElem?_take_of_lt,List.pairwise_iff_getElem,oy.map]
abbrev Et(b:Bool):D:=.v (.bool b)
def kS{α:Type}(l:List (α))(f:α->Int):List (Int×Bool):=l.map fun t=>(f t,true)
theorem qZ(l:List α)(f:α->Int):(kS l f).map (·.1)=l.map f:=by unfold kS;rw[List.map_map];rfl
@[reducible] def z2:List D:=[ci 0,ci 0]
def tq(ids:List Int)(k:Nat):List (Int×Option (List D)):=(ids.take k).map (fun a=>(a,none))++(ids.drop k).map (fun a=>(a,some z2))
theorem ES{l:List Int}(h:l.Nodup){k:Nat}{x:Int}(I:l[k]?=some x):x∉l.take k:=by have:=Gx (f:=id) (by rw[List.map_id];exact h) I;grind
end Go.Tb
namespace Go.Ab
open Go.RowKit
variable {w w':World}{tmps:Array Value}{pv:Nat→Nat→Prop}{x y:Operand}{t g i k e m j id b off gen d gen' clock sz J mt g2 t' cap d0:Nat}{P:Program}{Q':Exit→Act→World→Prop}{lv' lv gs order os:List Nat}{bs:List (Nat×Nat)}{parts:Array (Nat×Operand)}{fid:FuncId}{xs:Array Operand}{o:Oper}{fn:Func}{dst:Option Nat}{ops:Array Oper}{α ι H β:Type}{hole:Option Value}{R:Value→World→Prop}{want:Bool}{listed:Array Bool}{T ty:TypeId}{l1 l2:List Oper}{ids:List Int}{act:Act}
variable {es es2:List (List D)}{f:List (Nat×A)}{G:Gh}{a a':A}{st st':St}{l:List D}{args cells cq' caps cq cells' X:List A}{E E':En}{Q:Exit→St→Prop}{b1 I:List (List A)}{C:Ctx}
variable {rs:List RV}
variable {td ed:cV}
section
variable{n:Nat}{bx:List (Nat×List A)}{pos:String}{af:Array Edge}
theorem C4(X:av f x=some (.xp g j off l))(N:(lv.any fun h=>Nat.beq h g)=true):
 Pu P C n ⟨f,bx,lv,gen⟩ ⟨dst,.nilCheck x,ty,pos,af,none⟩ (.xp g j off l):=by
 refine aq fun G tmps w hs=>?_;have J:=hs.av X;obtain⟨r,O⟩:=hs.live g (er N);generalize hv:Act.eval ⟨tmps,[]⟩ x=v at J;have U:=J
 cases J with
 |xp _ _ _ _ _ ad h1 M=>
 have I:=M r O
 cases r with
 |nil=>exact I.elim
 |zero b=>exact I.elim
 |mp b bs=>exact I.elim
 |blk b len cap sz ai=>obtain⟨rfl,h2,h3,h4⟩:=I;refine⟨.pointer (some ⟨b,j*sz+off,none⟩),?_,U⟩;unfold execOp;simp_all
end
end Go.Ab
namespace Go.Tb
open Go.Ab
def Hs(l:List Ev):Nat->List Ev|0=>l|_=>[]
def vJ(last:Option Int)(t:Int):Bool:=match last with|some u=>decide (t<u)|none=>false
def jg:List Ev->Option Int->Int
 |[],_=>0
 |e::r,last=>if dq e≠0 then dq e else if vJ last e.time=true then 11 else jg r (some e.time)
def kq:List bH->Int
 |[]=>0
 |p::r=>if jg p.evs none≠0 then jg p.evs none else kq r
structure kV where
 ts:List dV
 ds:List (Int×Int)
 ps:List bH
@[reducible] def kV.c(l:kV):List D:=[.sl (l.ts.map dV.c),.sl (l.ds.map dF),.sl [],.sl (l.ps.map bH.c)]
def nU:kV:=⟨[],[],[]⟩
variable {l:List UInt8}{i k u:Nat}{α:Type}{level id a:Int}{x:Value}
variable {l1:List (Value×List (List D))}
variable {j:JV}
variable {o:List (bH×Nat)}{ps:List bH}{p:bH}
variable {l2:List (Value×List Ev)}{e:Ev}
structure LV where
 l:kV
 n:Nat
 e:Int
/-! what a line that is accepted holds -/
/-! the events thread by thread -/
def Dj(x:xO):Prop:=x.2.map (·.1)=x.1∧x.1.Nodup∧∀p∈x.2,p.2≠[]
theorem GO{l:List (Int×List Ev)}{y:List Ev}{p:Int×List Ev}(hp:p∈dm l a y):p=(a,y)∨p∈l:=by
 induction l with
 |nil=>simp[dm]at hp;exact .inl hp
 |cons q r I=>simp only[dm]at hp;grind
theorem Gb{l:List (Int×List Ev)}{y}:(dm l a y).map (·.1)=if a∈l.map (·.1)then l.map (·.1)else l.map (·.1)++[a]:=by
 induction l with
 |nil=>simp[dm]
 |cons p r I=>simp only[dm];grind
theorem Df{l:List (Int×List Ev)}(h:∀p∈l,p.2≠[])(a):(cC l a).getD []=[]↔a∉l.map (·.1):=by
 induction l with
 |nil=>simp[rr]
 |cons p r I=>rw[fG,U',N'];grind
theorem Dj.add{x:xO}(h:Dj x)(th:Int)(e:Ev):Dj (Dm x th e):=by
 obtain⟨h1,h2,h3⟩:=h;unfold Dm;split;·exact⟨h1,h2,h3⟩
 ·have hm:=Df h3 th
  refine⟨?_,?_,fun p hp=>?_⟩;·grind[Gb,cC]
  ·grind
  ·rcases GO hp with rfl|hp
   ·simp
   ·grind
def oG(m:List (Int×List Ev)):Nat:=(m.map fun p=>p.2.length).sum
def zM(t:dV):Int:=if t.id<0∨1000000000000000<t.id then 2 else cw t.name
def tf:List dV->List Int->Int
 |[],_=>0
 |t::r,seen=>if zM t≠0 then zM t else if(seen.any fun x=>decide (x=t.id))=true then 4 else tf r (seen++[t.id])
def qB(ts:List dV):Int:=if ts=[]then 8 else if 64<ts.length then 7 else tf ts []
theorem zS:∀(ts:List dV)(seen:List Int),tf ts seen=0->seen.Nodup->(∀t∈ts,0<=t.id∧t.id<=1000000000000000∧cw t.name=0)∧(seen++ts.map dV.id).Nodup
 |[],seen,_,hn=>⟨by simp,by simpa using hn⟩
 |t::r,seen,h,hn=>by
   simp only[tf]at h;split at h;·grind
   ·rename_i q
    split at h;·grind
    ·rename_i q2
     have hm:t.id∉seen:=by simpa using q2
     obtain⟨h1,h2⟩:=zS r (seen++[t.id]) h (by rw[List.nodup_append];exact⟨hn,by simp,fun a I b hb=>by simp at hb;subst hb;rintro rfl;exact hm I⟩);grind[zM]
theorem zn{ts:List dV}(h:qB ts=0):LQ ts∧ts≠[]∧ts.length<=64:=by
 unfold qB at h;split at h;·grind
 ·rename_i q
  split at h;·grind
  ·obtain⟨h1,h2⟩:=zS ts [] h List.nodup_nil
   exact⟨⟨h1,by simpa using h2⟩,q,by omega⟩
def DI(ts:List dV)(ps:List bH):Prop:=(ps.map bH.thread).Sublist (ts.map dV.id)∧(∀p∈ps,p.serial=0∧p.lost=0∧0<p.evs.length∧p.evs.length<=1000)∧(ps.map fun p=>p.evs.length).sum<=20000
def jQ(ts:List dV)(ps:List bH):kV×Int:=if qB ts≠0 then(nU,qB ts)else if kq ps≠0 then(nU,kq ps)else(⟨ts,gy,ps⟩,0)
theorem xP{f:α->Int}:∀(l:List α)(a:Int),(cC (kS l f) a).getD false=(l.map f).any fun x=>decide (x=a)
 |[],a=>rfl
 |x::r,a=>by
   show(cC ((f x,true)::kS r f) a).getD false=_;rw[fG];by_cases e:f x=a;·grind
   ·rw[if_neg e,xP r a];simp[e]
theorem FT{f:α->Int}{l:List α}{x:α}(hm:¬((l.take k).map f).any (fun y=>decide (y=f x))=true)(I:l[k]?=some x):dm (kS (l.take k) f) (f x) true=kS (l.take (k+1)) f:=by
 rw[iS]
 ·unfold kS
  rw[Φ,I,y'];rfl
 ·intro p hp e
  apply hm;rw[F'];have:p.1∈(kS (l.take k) f).map (·.1):=R'.2 ⟨p,hp,rfl⟩;rw[qZ]at this;exact⟨p.1,this,by simpa using e⟩
/-! the map of the threads' ends, when some packets were read -/
/-! the parts, thread by thread -/
def wM(ts:List dV)(ps:List bH):List bH:=ts.flatMap fun t=>(ps.find? fun p=>decide (p.thread=t.id)).toList
theorem qU:∀ {ts:List dV} {ps:List bH},(ps.map bH.thread).Sublist (ts.map dV.id)→(ts.map dV.id).Nodup→wM ts ps=ps
  | [],ps,h,_=>by
    have:ps=[]:=by simpa using h
    subst this;rfl
  | t::r,ps,h,hn=>by
    rw[U',List.nodup_cons] at hn
    have key:∀ (q:List bH) (p:bH),p.thread=t.id→wM r (p::q)=wM r q:=by
      intro q p hp
      unfold wM
      rw[List.flatMap_def,List.flatMap_def]
      congr 1
      refine List.map_congr_left fun x hx=>?_
      congr 1
      rw[List.find?_cons_of_neg]
      simp only[Δ]
      rintro e
      exact hn.1 (by rw[←hp,e];exact R'.2 ⟨x,hx,rfl⟩)
    show(ps.find? fun p=>decide (p.thread=t.id)).toList++wM r ps=ps
    match ps,h with
    | [],_=>exact qU (ts:=r) (ps:=[]) (List.nil_sublist _) hn.2
    | p::q,h=>
      rw[U',U'] at h
      by_cases e:p.thread=t.id
      · have h2:(q.map bH.thread).Sublist (r.map dV.id):=by
          rw[e] at h
          exact List.cons_sublist_cons.1 h
        rw[List.find?_cons_of_pos (by simpa using e),key q p e,qU h2 hn.2]
        rfl
      · have h2:((p::q).map bH.thread).Sublist (r.map dV.id):=by
          rcases List.sublist_cons_iff.1 h with h | ⟨x,hx,_⟩
          · exact h
          · exact absurd (List.cons.inj hx).1 e
        rw[qU h2 hn.2]
        rw[List.find?_eq_none.2]
        · rfl
        · intro x hx
          simp only[Δ]
          rintro e2
          exact hn.1 (by rw[←e2];exact h2.subset (R'.2 ⟨x,hx,rfl⟩))
theorem yA{f:α->Nat}{l:List α}{x:α}(I:l[k]?=some x):((l.take (k+1)).map f).sum=((l.take k).map f).sum+f x:=by grind[List.take_add_one]
theorem AJ{f:α->Nat}(l:List α)(k):((l.take k).map f).sum<=(l.map f).sum:=by grind[oy.map,List.take_append_drop]
variable {f:Fm}
structure gO where
 ids:List Int
 names:List (Int×ByteArray)
 evs:List (Int×List Ev)
def fe(ids:List Int)(id:Int):List Int:=if(ids.any fun x=>decide (id=x))=true then ids else ids++[id]
def As(x:gO)(id:Int)(e:Ev):gO:=⟨fe x.ids id,x.names,dm x.evs id ((cC x.evs id).getD []++[e])⟩
def y9(x:gO)(id:Int)(name:ByteArray):gO:=⟨fe x.ids id,dm x.names id name,x.evs⟩
def sO:List ByteArray:=[dZ,cF,cm]
def fC(x:gO)(j:JV):gO×Int:=
 if db j (dv j)=true then(x,10)
 else if(cK j dZ 4).s≠pM then(if(cN j).2.2=0 then(As x (cN j).1 (cN j).2.1,0)else(x,(cN j).2.2))
 else if(bif (db j (dv j)||fk j cm 4)then true else !iG j sO)=true then(x,10)
 else if cw (cK j cm 4).s≠0 then(x,cw (cK j cm 4).s)
 else if(cC x.names (cK j cF 3).n).getD cn≠cn then(x,4)
 else(y9 x (cK j cF 3).n (cK j cm 4).s,0)
def w7(n:Nat)(x:gO):Prop:=(x.names.map (·.1)).Nodup∧(x.evs.map (·.1)).Nodup∧x.ids.length<=n∧∀p∈x.evs,p.2.length<=n
def cO:List JV->gO->gO×Int
 |[],x=>(x,0)
 |j::r,x=>if(fC x j).2≠0 then(x,(fC x j).2)else cO r (fC x j).1
def nameOf(l:List (Int×ByteArray))(id:Int):ByteArray:=if(cC l id).getD cn=cn then B #[116]++eg id else(cC l id).getD cn
def jZ(x:gO)(id:Int):dV:=⟨id,nameOf x.names id⟩
def fX(x:gO)(id:Int):List bH:=if(cC x.evs id).getD []=[]then[]else[⟨id,0,0,(cC x.evs id).getD []⟩]
def x0:gO:=⟨[],[],[]⟩
def j7(s:ByteArray):kV×Int:=
 if 65536<s.size then(nU,7)
 else match ep (bg s)with
  |.no _ e=>(nU,e)
  |.ok v _=>if v.op≠5 then(nU,10)else if(cO v.kids x0).2≠0 then(nU,(cO v.kids x0).2)
    else jQ ((cO v.kids x0).1.ids.map (jZ (cO v.kids x0).1)) ((cO v.kids x0).1.ids.flatMap (fX (cO v.kids x0).1))
structure C7(v:JV):Prop where
 len:v.kids.length<=100000
 kids:∀k∈v.kids,zq k
 tids:∀k∈v.kids,(cK k cF 3).n<=1000000000000000
 evs:(cO v.kids x0).2=0->(((cO v.kids x0).1.ids.flatMap (fX (cO v.kids x0).1)).map fun p=>p.evs.length).sum<=1000
theorem Gz{l:List (Int×List Ev)}{y:List Ev}{p:Int×List Ev}(hp:p∈dm l a y):p=(a,y)∨p∈l:=by
 induction l with
 |nil=>simp[dm]at hp;exact .inl hp
 |cons q r I=>simp only[dm]at hp;grind
theorem tS(l:List Int)(id):(fe l id).length<=l.length+1:=by grind[fe]
theorem rD{l:List Int}(h:l.Nodup)(id):(fe l id).Nodup:=by unfold fe;grind
theorem AK{l}(h:a∈fe l id):a∈l∨a=id:=by unfold fe at h;grind
theorem Gl{n:Nat}{x:gO}(h:w7 n x)(j:JV):w7 (n+1) (fC x j).1:=by
 obtain⟨h1,h2,h3,h4⟩:=h;have same:w7 (n+1) x:=⟨h1,h2,by omega,fun p hp=>Nat.le_succ_of_le (h4 p hp)⟩;unfold fC;split;·grind
 split
 ·split
  ·refine⟨h1,qq h2 _ _,Y' (tS _ _) (by omega),fun p hp=>?_⟩
   rcases Gz hp with rfl|hp
   ·show(_++[_]).length<=_
    rw[υ];have:((cC x.evs (cN j).1).getD []).length<=n:=by
     unfold cC
     cases q:x.evs.find? fun p=>decide (p.1=(cN j).1)with
     |none=>simp
     |some p=>simpa[q]using h4 p (List.mem_of_find?_eq_some q)
    grind
   ·grind
  ·grind
 split;·grind
 split;·grind
 split;·grind
 ·exact⟨qq h1 _ _,h2,Y' (tS _ _) (by omega),fun p hp=>Nat.le_succ_of_le (h4 p hp)⟩
def Jh(x:gO):Prop:=x.ids.Nodup∧∀a∈x.ids,0<=a∧a<=1000000000000000
theorem xz(h:(cN j).2.2=0):db j (dv j)=false∧(cN j).1=(cK j cF 3).n:=by unfold cN at h⊢;grind
theorem FG(h:db j (dv j)=false):0<=(cK j cF 3).n:=by unfold db at h;grind
theorem F5{x:gO}(h:Jh x)(hj:(cK j cF 3).n<=1000000000000000):Jh (fC x j).1:=by
 obtain⟨h1,h2⟩:=h;have add:∀(id:Int),0<=id->id<=1000000000000000->(fe x.ids id).Nodup∧∀a∈fe x.ids id,0<=a∧a<=1000000000000000:=fun id q1 q2=>⟨rD h1 id,fun a I=>(AK I).elim (h2 a) (fun e=>e▸⟨q1,q2⟩)⟩;unfold fC
 cases hb:db j (dv j)with
 |true=>exact⟨h1,h2⟩
 |false=>
   have h0:=FG hb;rw[if_neg (by simp)];split
   ·split
    ·rename_i q
     have:=(xz q).2;exact add _ (by omega) (by omega)
    ·exact⟨h1,h2⟩
   split;·exact⟨h1,h2⟩
   split;·exact⟨h1,h2⟩
   split;·exact⟨h1,h2⟩
   ·exact add _ h0 hj
theorem qI(x:gO)(l:List Int){n}(h:l.length<=n):(l.flatMap (fX x)).length<=n:=by
 refine Y' ?_ h;clear h
 induction l with
 |nil=>simp
 |cons a r I=>grind[List.length_append,List.length_cons,fX]
theorem H8{l:List bH}(h:p∈l):p.evs.length<=(l.map fun p=>p.evs.length).sum:=by
 induction l with
 |nil=>cases h
 |cons q r I=>grind
def ey{α:Type}(p:α->α->Bool):List α->List α->Bool
 |[],[]=>true
 |x::r,y::s=>p x y&&ey p r s
 |_,_=>false
theorem q9{p:α->α->Bool}:∀{l m:List α},ey p l m=true->l.length=m.length
 |[],[],_=>rfl
 |x::r,y::s,h=>by simp only[ey,μ]at h;simp[q9 h.2]
 |[],_::_,h=>by cases h
 |_::_,[],h=>by cases h
theorem uO{p:α->α->Bool}(hp:∀x y,p x y=true↔x=y):∀{l m:List α},ey p l m=true↔l=m
 |[],[]=>by simp[ey]
 |x::r,y::s=>by simp[ey,hp,uO hp (l:=r) (m:=s)]
 |[],_::_=>by simp[ey]
 |_::_,[]=>by simp[ey]
def lF(a b:Ev):Bool:=decide (a.time=b.time)&&decide (a.kind=b.kind)&&decide (a.name=b.name)&&decide (a.n=b.n)&&decide (a.m=b.m)&&decide (a.stack=b.stack)
theorem su(a b:Ev):lF a b=true↔a=b:=by cases a;cases b;simp only[lF,μ,Δ,Ev.mk.injEq];grind
def eD(p q:bH):Bool:=decide (p.thread=q.thread)&&decide (p.serial=q.serial)&&decide (p.lost=q.lost)&&ey lF p.evs q.evs
theorem vN(p q:bH):eD p q=true↔p=q:=by cases p;cases q;simp only[eD,μ,Δ,bH.mk.injEq,uO su];grind
structure GT where
 id:Int
 name:ByteArray
 dom:Int
deriving DecidableEq
@[reducible] def GT.c(t:GT):List D:=[ci t.id,cs t.name,ci t.dom]
structure Sn where
 a:Int
 ata:Int
 b:Int
 lo:Int
 hi:Int
deriving DecidableEq
@[reducible] def Sn.c(s:Sn):List D:=[ci s.a,ci s.ata,ci s.b,ci s.lo,ci s.hi]
@[reducible] def fQ(ts:List GT)(ds:List (Int×Int))(sn:List Sn):List D:=[.sl (ts.map GT.c),.sl (ds.map dF),.sl (sn.map Sn.c)]
structure dM where
 ts:List GT
 ds:List (Int×Int)
 sn:List Sn
 ps:List bH
@[reducible] def dM.c(l:dM):List D:=[.sl (l.ts.map GT.c),.sl (l.ds.map dF),.sl (l.sn.map Sn.c),.sl (l.ps.map bH.c)]
def nH:dM:=⟨[],[],[],[]⟩
/-! heads -/
def gQ(t:GT):Int:=if t.id<0∨1000000000000000<t.id∨t.dom<0∨8<=t.dom then 2 else cw t.name
def fE:List GT->List Int->Int
 |[],_=>0
 |t::r,seen=>if gQ t≠0 then gQ t else if(seen.any fun x=>decide (x=t.id))=true then 4 else fE r (seen++[t.id])
def qj(d:Int×Int):Bool:=decide (d.1<0∨8<=d.1∨d.2<0∨10000<d.2)
def gE(ds:List (Int×Int))(a:Int):Bool:=ds.any fun d=>decide (d.1=a)
def iI:List (Int×Int)->List (Int×Int)->Int
 |[],_=>0
 |d::r,seen=>if qj d=true then 2 else if gE seen d.1=true then 4 else iI r (seen++[d])
def pX(n:Int):Bool:=decide (0<=n)&&decide (n<=1000000000000)
def eR(ds:List (Int×Int))(x:Sn):Int:=
 if gE ds x.a=false∨gE ds x.b=false then 5 else if x.a=x.b then 1 else if pX x.ata=false∨pX x.lo=false∨pX x.hi=false∨x.hi<x.lo then 2 else 0
def kM(ds:List (Int×Int)):List Sn->Int
 |[]=>0
 |x::r=>if eR ds x≠0 then eR ds x else kM ds r
def cJ(ds:List (Int×Int))(sn:List Sn):Int:=
 if ds=[]then 8 else if 8<ds.length∨200<sn.length then 7 else if ds.head?≠some (0,0)then 10 else if iI ds []≠0 then iI ds []else kM ds sn
def kF(ds:List (Int×Int))(ts:List GT):Bool:=ts.all fun t=>gE ds t.dom
def dB(ts:List GT)(ds:List (Int×Int))(sn:List Sn):Int:=
 if ts=[]then 8 else if 64<ts.length then 7 else if fE ts []≠0 then fE ts []else if cJ ds sn≠0 then cJ ds sn else if kF ds ts=false then 5 else 0
/-! packets -/
def fc(n:Int):Bool:=decide (n<0)||decide (1000000000000000<n)
def cD(p:bH):Int:=
 if fc p.thread=true∨fc p.serial=true∨fc p.lost=true then 2 else if p.serial<p.lost∨1000000000000000<IntKind.i64.wrap (p.serial+p.evs.length)then 2
 else if p.evs=[]then 8 else if 1000<p.evs.length then 7 else jg p.evs none
def Cf(p:bH):Int:=match p.evs with|[]=>0|e::_=>e.time
def mB(p:bH):Int:=match p.evs.getLast? with|none=>0|some e=>e.time
def fD(ps:List bH)(th:Int):Int×Int:=match(ps.filter fun p=>decide (p.thread=th)).getLast? with|none=>(0,0)|some p=>(p.serial+p.evs.length,mB p)
def kN(t:Int×Int)(p:bH):Bool:=decide (p.serial-p.lost=t.1)&&decide (t.2<=Cf p)
def fT(ids:List Int):List bH->List bH->Int
 |_,[]=>0
 |I,p::r=>if cD p≠0 then cD p else if p.thread∉ids then 5 else if kN (fD I p.thread) p=false then 11 else fT ids (I++[p]) r
theorem eG(h:cD p=0):(0<=p.thread∧p.thread<=1000000000000000)∧(0<=p.serial∧p.serial<=1000000000000000)∧(0<=p.lost∧p.lost<=p.serial)∧p.evs≠[]∧p.evs.length<=1000∧jg p.evs none=0:=by
 unfold cD fc at h;split at h;·grind
 ·grind
theorem qG(ps)(p:bH)(th):fD (ps++[p]) th=if p.thread=th then(p.serial+p.evs.length,mB p)else fD ps th:=by unfold fD;grind
/-! the parts -/
def jP(own:List bH)(p:bH):List bH:=
 if 0<p.lost then own++[p]else match own.getLast? with
  |none=>[p]
  |some q=>own.dropLast++[⟨q.thread,q.serial,q.lost,q.evs++p.evs⟩]
def cc(th:Int)(ps:List bH):List bH:=(ps.filter fun p=>decide (p.thread=th)).foldl jP []
theorem iQ(th ps)(p:bH):cc th (ps++[p])=if p.thread=th then jP (cc th ps) p else cc th ps:=by unfold cc;grind
def ez(ts:List GT)(ds:List (Int×Int))(sn:List Sn)(ps:List bH):dM×Int:=
 if dB ts ds sn≠0 then(nH,dB ts ds sn)else if fT (ts.map GT.id) [] ps≠0 then(nH,fT (ts.map GT.id) [] ps)else(⟨ts,ds,sn,ts.flatMap fun t=>cc t.id ps⟩,0)
def oU(a b:dM):Bool:=decide (a.ts=b.ts)&&decide (a.ds=b.ds)&&decide (a.sn=b.sn)&&ey eD a.ps b.ps
theorem sh(a b:dM):oU a b=true↔a=b:=by cases a;cases b;simp only[oU,μ,Δ,dM.mk.injEq,uO vN];grind
def gv(l:dM):Int:=if(ez l.ts l.ds l.sn l.ps).2=0∧oU (ez l.ts l.ds l.sn l.ps).1 l=false then 10 else(ez l.ts l.ds l.sn l.ps).2
def BR(id:Int)(e:Ev):JV:=match jD e.kind with
 |some f=>fP f id e
 |none=>gf
def pW:List ByteArray:=[dZ,cF,cm]
def mJ(t:dV):JV:=.mk 6 0 cn pW [tJ pM,nJ t.id,tJ t.name]
def nr(p:bH):List JV:=p.evs.map (BR p.thread)
def kU(ts:List dV)(ps:List bH):List JV:=ts.map mJ++ps.flatMap nr
def dQ(ts:List dV)(ps:List bH):JV:=.mk 5 0 cn [] (kU ts ps)
theorem qg:∀{l:List Ev}{last:Option Int},jg l last=0->∀e∈l,dq e=0
 |[],_,_,e,h=>by cases h
 |x::r,last,h,e,he=>by
   simp only[jg]at h;split at h;·grind
   ·rename_i q
    split at h;·grind
    ·rcases N'.1 he with rfl|he
     ·grind
     ·exact qg h e he
theorem tX:∀{ps:List bH},kq ps=0->∀p∈ps,∀e∈p.evs,dq e=0
 |[],_,p,hp=>by cases hp
 |q::r,h,p,hp=>by
   simp only[kq]at h;split at h;·grind
   ·rename_i h2
    rcases N'.1 hp with rfl|hp
    ·grind[qg]
    ·exact tX h p hp
theorem Cc{k:Int}(h:1<=k∧k<13):∃f,jD k=some f:=by
 have:k=1∨k=2∨k=3∨k=4∨k=5∨k=6∨k=7∨k=8∨k=9∨k=10∨k=11∨k=12:=by omega
 rcases this with rfl|rfl|rfl|rfl|rfl|rfl|rfl|rfl|rfl|rfl|rfl|rfl<;>exact⟨_,rfl⟩
theorem qX:∀(ps:List bH),(ps.flatMap nr).length=(ps.map fun p=>p.evs.length).sum
 |[]=>rfl
 |p::r=>by rw[List.flatMap_cons,υ,U',List.sum_cons,qX r];simp[nr]
theorem xD(ps:List bH)(k):((ps.take k).flatMap nr).length<=(ps.map fun p=>p.evs.length).sum:=by grind[qX,oy.map,List.take_append_drop]
theorem Bn{ts}(h:(jQ ts ps).2=0):qB ts=0∧kq ps=0:=by grind[jQ]
theorem vO(h:dq e=0)(id):∃f,jD e.kind=some f∧BR id e=fP f id e∧e.stack.length<=1000000:=by
 have g:=qe h;obtain⟨f,J⟩:=Cc g.kind;refine⟨f,J,by unfold BR;rw[J],?_⟩
 cases I:(dh e.kind).name with
 |false=>have:=(xR (g.stack I)).1;omega
 |true=>
   have:(dh e.kind).stack=false:=by
    have k:=g.kind;have:e.kind=1∨e.kind=2∨e.kind=3∨e.kind=4∨e.kind=5∨e.kind=6∨e.kind=7∨e.kind=8∨e.kind=9∨e.kind=10∨e.kind=11∨e.kind=12:=by omega
    rcases this with h|h|h|h|h|h|h|h|h|h|h|h<;>rw[h]at I⊢<;>first|rfl|exact absurd I (by decide)
   rw[g.noStack this];simp
theorem xK:∀l:List JV,(dI l false).length=(l.map fun k=>(bp k).length).sum+l.length
 |[]=>rfl
 |x::r=>by rw[gZ,υ,υ,xK r,U',List.sum_cons,Ξ];grind
theorem tO:∀(ks:List ByteArray)(l:List JV),ks.length=l.length->(l.map fun k=>(bp k).length).sum+2*l.length<=(cv ks l false).length
 |[],[],_=>by simp[cv]
 |s::ks,x::r,h=>by have:=tO ks r (by simpa using h);rw[eQ];grind
 |[],_::_,h=>by simp at h
 |_::_,[],h=>by simp at h
theorem uH (h:b8 j level=0):(j.kids.map fun k=>(bp k).length).sum+j.kids.length≤(bp j).length:=by
  obtain⟨op,n,s,keys,kids⟩:=j
  obtain⟨h1,_⟩:=lu h
  obtain⟨hf,_⟩:=jh h1
  show(kids.map fun k=>(bp k).length).sum+kids.length≤(bp (.mk op n s keys kids)).length
  cases kids with
  | nil=>simp
  | cons x r=>
    unfold dJ at hf
    simp only[JV.op,JV.n,JV.s,JV.keys,JV.kids] at hf
    by_cases o1:op=1
    · grind
    by_cases o2:op=2
    · grind
    by_cases o3:op=3
    · grind
    by_cases o4:op=4
    · grind
    by_cases o6:op=6
    · have hkl:keys.length=(x::r).length:=by
        grind
      simp only[bp,o1,o2,o3,o4,o6,if_true,if_false]
      cases keys with
      | nil=>simp at hkl
      | cons k ks=>
        have hm:=tO (k::ks) (x::r) hkl
        grind[wF,List.length_cons,List.length_append]
    · grind[bp,xK,yx,List.length_cons,List.length_append]
theorem Ba{l:List JV}{k:JV}(h:k∈l):(bp k).length<=(l.map fun k=>(bp k).length).sum:=by
 induction l with
 |nil=>cases h
 |cons x r I=>grind
theorem tH:∀{l:List JV},dn l level=0->∀k∈l,b8 k level=0
 |[],_,k,I=>by cases I
 |x::r,h,k,I=>by
   obtain⟨h1,h2⟩:=jf h;rcases N'.1 I with rfl|I
   ·grind
   ·exact tH h2 k I
theorem pn{k:JV}(h:b8 j level=0)(I:k∈j.kids):b8 k (level+1)=0:=by obtain⟨op,n,s,keys,kids⟩:=j;exact tH (lu h).2 k I
/-! the events that are kept -/
theorem D6(l a)(e:Ev):oG (dm l a ((cC l a).getD []++[e]))<=oG l+1:=by
 induction l with
 |nil=>simp[dm,rr,oG]
 |cons p r I=>grind[fG,dm,oG]
theorem BH:∀(l:List (Int×List Ev))(L:List Int),L.Nodup->(L.map fun a=>((cC l a).getD []).length).sum<=oG l
 |[],L,_=>by
   have:(L.map fun a=>((cC ([]:List (Int×List Ev)) a).getD []).length).sum=0:=by induction L<;>simp_all[rr]
   grind
 |p::r,L,hn=>by
   have h1:=BH r L hn;have key:∀L:List Int,L.Nodup->(L.map fun a=>((cC (p::r) a).getD []).length).sum<=(if p.1∈L then p.2.length else 0)+(L.map fun a=>((cC r a).getD []).length).sum:=by
    intro L
    induction L with
    |nil=>intro _;simp
    |cons a t I=>grind[List.nodup_cons,fG,List.mem_cons_self]
   grind[oG]
theorem BB(x:gO):∀L:List Int,((L.flatMap (fX x)).map fun p=>p.evs.length).sum=(L.map fun a=>((cC x.evs a).getD []).length).sum
 |[]=>rfl
 |a::r=>by rw[List.flatMap_cons,y',List.sum_append,U',List.sum_cons,BB x r];congr 1;grind[fX]
theorem FM(x:gO)(j:JV):oG (fC x j).1.evs<=oG x.evs+1:=by
 unfold fC;repeat' split
 all_goals first|exact D6 _ _ _|exact Nat.le_succ _
theorem Ck{x:gO}(h:x.ids.Nodup)(j:JV):(fC x j).1.ids.Nodup:=by
 unfold fC;repeat' split
 all_goals first|exact rD h _|exact h
theorem xX:∀(l:List JV)(x:gO),oG (cO l x).1.evs<=oG x.evs+l.length
 |[],x=>χ _
 |j::r,x=>by
   simp only[cO];split;·grind
   ·have h1:=xX r (fC x j).1
    grind[FM,List.length_cons]
theorem tL:∀(l:List JV){x:gO},x.ids.Nodup->(cO l x).1.ids.Nodup
 |[],x,h=>h
 |j::r,x,h=>by
   simp only[cO];split;·grind
   ·exact tL r (Ck h j)
theorem zC{v:JV}(I:b8 v 1=0)(hp:(bp v).length<=100000)(M:(cO v.kids x0).2=0->v.kids.length<=1000):C7 v:=by
 have N:=uH I;refine⟨by omega,fun k hm u hu=>?_,fun k hm=>?_,fun h0=>?_⟩
 ·have h1:=pn I hm
  have h2:=uH h1;have h3:=uH (pn h1 hu);have:=Ba hm;have:=Ba hu;omega
 ·unfold cK oC
  cases hg:e9 k cF with
  |none=>simp[gf,JV.n]
  |some t=>
    by_cases J:t.op=3
    ·simp only[J,if_true,Option.getD_some]
     have h1:=pn (pn I hm) (uj hg);obtain⟨op,n,s,keys,kids⟩:=t;have J:op=3:=J;obtain⟨h2,_⟩:=lu h1;obtain⟨_,h3,_⟩:=jh h2;grind[eK]
    ·grind[gf,JV.n]
 ·rw[BB]
  have h1:=BH (cO v.kids x0).1.evs (cO v.kids x0).1.ids (tL v.kids (x:=x0) List.nodup_nil);grind[xX,x0,oG]
section
deriving instance DecidableEq for Fm
variable {l:List UInt8}{i k u:Nat}{α:Type}{level id a:Int}{x:Value}
variable {l1:List (Value×List (List D))}
variable {j:JV}
variable {o:List (bH×Nat)}{ps:List bH}{p:bH}
variable {f:Fm}
variable {l2:List (Value×List Ev)}{e:Ev}
def hasB(l:List ByteArray)(k:ByteArray):Bool:=l.any fun x=>decide (k=x)
theorem HV(f:Fm)(id)(e:Ev)(k):e9 (fP f id e) k=if hasB (cM f (ju f e)) k=true then some (ee f id e k)else none:=by unfold e9 fP hasB;simp only[JV.op,JV.keys,JV.kids,if_true];grind[cM,ju,List.findIdx?_eq_none_iff,List.any_eq_true,List.findIdx?_eq_some_iff_getElem,List.getElem_mem]
theorem IA{k}{op:Int}{v:JV}(hm:hasB (cM f (ju f e)) k=true)(I:ee f id e k=v)(J:v.op=op):oC (fP f id e) k op=some v:=by grind[oC,HV]
theorem lf{k}{op:Int}{v:JV}(hm:hasB (cM f (ju f e)) k=true)(I:ee f id e k=v)(J:v.op=op):cK (fP f id e) k op=v∧fk (fP f id e) k op=false:=by unfold cK fk;rw[IA hm I J];grind
def GD:List ByteArray:=[dZ,cF,cm,dO,bY]
def Cn(f:Fm)(on:Bool):Bool:=
 hasB (cM f on) dZ&&(hasB (cM f on) cF&&(hasB (cM f on) dO&&((!f.name||hasB (cM f on) cm)&&((decide (f.n=cn)||hasB (cM f on) f.n)&&
 ((!pJ f on||hasB (cM f on) f.m)&&((!f.st||hasB (cM f on) bY)&&
 (!hasB GD f.n&&(!hasB GD f.m&&((decide (f.m=cn)||!decide (f.m=f.n))&&(decide (mK f.ph=some f)&&(decide (f.ph=pS)==decide (f.kind=9))))))))))))
theorem Hb:(gC.all fun f=>Cn f true&&Cn f false)=true:=by decide+kernel
theorem IC(h:f∈gC)(on):Cn f on=true:=by
 have:=I'.1 Hb f h;simp only[μ]at this;cases on;·grind
 ·grind
structure FV(f:Fm)(on:Bool):Prop where
 ph:hasB (cM f on) dZ=true
 tid:hasB (cM f on) cF=true
 ts:hasB (cM f on) dO=true
 name:f.name=true->hasB (cM f on) cm=true
 n:f.n≠cn->hasB (cM f on) f.n=true
 m:pJ f on=true->hasB (cM f on) f.m=true
 st:f.st=true->hasB (cM f on) bY=true
 n5:f.n≠dZ∧f.n≠cF∧f.n≠cm∧f.n≠dO∧f.n≠bY
 m5:f.m≠dZ∧f.m≠cF∧f.m≠cm∧f.m≠dO∧f.m≠bY
 mn:f.m≠cn->f.m≠f.n
 at_:mK f.ph=some f
 s9:f.ph=pS↔f.kind=9
theorem JO(h:f∈gC)(on):FV f on:=by
 have:=IC h on;unfold Cn hasB GD at this;simp only[μ,Bool.or_eq_true,Bool.not_eq_true',Δ,S',List.any_cons,List.any_nil,Bool.or_false,Bool.or_eq_false_iff,beq_iff_eq]at this;obtain⟨N,a2,a3,a4,a5,I,J,O,a9,U,M,a12⟩:=this;refine⟨N,a2,a3,?_,?_,?_,?_,O,a9,?_,M,?_⟩
 ·intro q;rcases a4 with a4|a4
  ·grind
  ·exact a4
 ·intro q;exact a5.resolve_left q
 ·intro q;rcases I with I|I
  ·grind
  ·exact I
 ·intro q;rcases J with J|J
  ·grind
  ·exact J
 ·grind
 ·grind
theorem Kg(h:f∈gC):(dh f.kind).name=f.name∧(dh f.kind).n=!decide (f.n=cn)∧(dh f.kind).m=!decide (f.m=cn)∧(dh f.kind).stack=f.st:=by simp only[gC,N',List.not_mem_nil,or_false]at h;rcases h with rfl|rfl|rfl|rfl|rfl|rfl|rfl|rfl|rfl|rfl|rfl|rfl<;>decide+kernel
theorem pd{k:Int}(h:jD k=some f):f∈gC∧f.kind=k:=by grind[jD,gC,List.findIdx?_eq_some_iff_getElem,List.getElem?_eq_getElem,Option.some.inj,List.mem_of_getElem?]
theorem LP:cF≠dZ:=by decide+kernel
theorem Lg:cm≠dZ∧cm≠cF:=by decide+kernel
theorem JT:dO≠dZ∧dO≠cF∧dO≠cm:=by decide+kernel
theorem HB:bY≠dZ∧bY≠cF∧bY≠cm∧bY≠dO:=by decide+kernel
theorem BX(f:Fm)(id)(e:Ev):ee f id e dZ=tJ f.ph:=if_pos rfl
theorem FW(f:Fm)(id)(e:Ev):ee f id e cF=nJ id:=by unfold ee;rw[if_neg LP,if_pos rfl]
theorem DR(f:Fm)(id)(e:Ev):ee f id e cm=tJ e.name:=by unfold ee;rw[if_neg Lg.1,if_neg Lg.2,if_pos rfl]
theorem IP(f:Fm)(id)(e:Ev):ee f id e dO=nJ e.time:=by unfold ee;rw[if_neg JT.1,if_neg JT.2.1,if_neg JT.2.2,if_pos rfl]
theorem Iu(f:Fm)(id)(e:Ev):ee f id e bY=.mk 5 0 cn [] (e.stack.map tJ):=by unfold ee;rw[if_neg HB.1,if_neg HB.2.1,if_neg HB.2.2.1,if_neg HB.2.2.2,if_pos rfl]
theorem Jc{on}(h:FV f on)(id)(e:Ev):ee f id e f.n=nJ e.n:=by obtain⟨a,b,c,d,q⟩:=h.n5;grind[ee]
theorem JR{on}(h:FV f on)(hm:f.m≠cn)(id)(e:Ev):ee f id e f.m=nJ e.m:=by obtain⟨a,b,c,d,q⟩:=h.m5;unfold ee;rw[if_neg a,if_neg b,if_neg c,if_neg d,if_neg q,if_neg (h.mn hm)]
theorem CS(hf:jD e.kind=some f)(J:dq e=0)(h0:0<=id)(hj:b8 (fP f id e) 1=0):cN (fP f id e)=(id,e,0):=by
 obtain⟨hm,M⟩:=pd hf;have g:=qe J;have K:=JO hm (ju f e);obtain⟨q1,q2,q3,q4⟩:=Kg hm;rw[M]at q1 q2 q3 q4;obtain⟨t1,t2⟩:=lf (id:=id) (op:=3) K.tid (FW f id e) rfl;obtain⟨p1,p2⟩:=lf (id:=id) (op:=4) K.ph (BX f id e) rfl;obtain⟨s1,s2⟩:=lf (id:=id) (op:=3) K.ts (IP f id e) rfl;have hb:db (fP f id e) (dv (fP f id e))=false:=by unfold db dv;rw[t1,t2,p2];have e1:(fP f id e).op=6:=rfl;have e2:(nJ id).n=id:=rfl;grind
 have a1:zm (fP f id e)=e.time:=by unfold zm;rw[s1];rfl
 have a6:fS (fP f id e) false=false:=by unfold fS;rw[s2];rfl
 have aj:nC (fP f id e) f=e.name∧fI (fP f id e) f false=false:=by
  unfold nC fI
  cases I:f.name with
  |true=>obtain⟨a,b⟩:=lf (id:=id) (op:=4) (K.name I) (DR f id e) rfl;rw[a,b];exact⟨rfl,rfl⟩
  |false=>exact⟨(g.noName (by rw[q1,I])).symm,rfl⟩
 have I:nO (fP f id e) f=e.n∧jb (fP f id e) f false=false:=by
  unfold nO jb;by_cases h:f.n=cn;·rw[if_pos h,if_pos h];exact⟨(g.noN (by rw[q2];simp[h])).symm,rfl⟩
  ·obtain⟨a,b⟩:=lf (id:=id) (op:=3) (K.n h) (Jc K id e) rfl
   rw[if_neg h,if_neg h,a,b];exact⟨rfl,rfl⟩
 have N:jk (fP f id e) f=ju f e:=by unfold jk ju;rw[I.1]
 have a7:mO (fP f id e) f (ju f e)=e.m∧lJ (fP f id e) f (ju f e) false=false:=by
  unfold mO lJ
  cases hu:pJ f (ju f e)with
  |true=>
    have O:f.m≠cn:=by unfold pJ at hu;intro q;simp[q]at hu
    obtain⟨a,b⟩:=lf (id:=id) (op:=3) (K.m hu) (JR K O id e) rfl;rw[a,b];exact⟨rfl,rfl⟩
  |false=>
    refine⟨?_,rfl⟩;show 0=e.m;by_cases h:f.m=cn;·exact(g.noM (by rw[q3];simp[h])).symm
    ·have U:ju f e=false:=by unfold pJ at hu;simpa[h]using hu
     unfold ju at U;by_cases hS:f.ph=pS
     ·have h9:=K.s9.1 hS
      have h2:e.n≠2:=by simpa[hS]using U
      exact(g.stop (by rw[<-M];exact h9) h2).symm
     ·grind
 have a8:BM (fP f id e) f=e.stack∧sd (fP f id e) f false=false:=by
  unfold BM sd vj
  cases hs:f.st with
  |true=>
    obtain⟨a,b⟩:=lf (id:=id) (op:=5) (K.st hs) (Iu f id e) rfl;rw[a,b];refine⟨?_,?_⟩
    ·simp only[if_true,JV.kids,List.map_map]
     show e.stack.map (fun s=>s)=e.stack;simp_all
    ·simp[jC,JV.kids,tJ,JV.op]
  |false=>exact⟨(g.noStack (by rw[q4,hs])).symm,rfl⟩
 have X:ov (fP f id e) f=e:=by unfold ov;simp_all
 have ad:yT (fP f id e) f false=false:=by grind[yT]
 have ai:iG (fP f id e) (cM f (ju f e))=true:=by unfold iG;simp only[fP,JV.keys,decide_true,Bool.true_and,Bool.not_eq_true',List.any_eq_false];grind
 unfold cN;rw[if_neg (fun q=>q hj),if_neg (by rw[hb];simp),p1];show(match mK f.ph with|none=>_|some f=>_)=_;rw[K.at_];dsimp only;rw[hb,ad,N,ai,X,t1,J];rfl
end
theorem zA(b)(h:gA b=true):known b=true:=by
 have key:∀n:Fin 256,gA (UInt8.ofNat n.val)=true->known (UInt8.ofNat n.val)=true:=by decide+kernel
 have:=key ⟨b.toNat,b.toNat_lt⟩;grind[UInt8.ofNat_toNat]
theorem rh{s:ByteArray}(h:cw s=0):da s=true∧s.size<=40:=by
 unfold cw at h;split at h;·grind
 ·rename_i q
  have q1:(bg s).all gA=true:=by grind
  refine⟨?_,by omega⟩;unfold da;rw[I']at q1⊢;intro b hb;exact zA b (q1 b hb)
theorem nw:∀{l:List JV},(∀x∈l,b8 x level=0)->dn l level=0
 |[],_=>pL
 |x::r,h=>CL (h x Ψ) (nw fun y I=>h y (ω _ I))
theorem ur{s}(h:da s=true)(level):b8 (tJ s) level=0:=
 oW (rj (by simp[dJ,JV.op,JV.n,JV.keys,JV.kids]) (by omega) h (by simp) rfl (by omega)) pL
theorem ra{n:Int}(h:eK n=true)(level):b8 (nJ n) level=0:=
 oW (rj (by simp[dJ,JV.op,JV.s,JV.keys,JV.kids,cn]) (by simp[h]) mu (by simp) rfl (by omega)) pL
theorem vS(h:f∈gC)(on):(∀x∈cM f on,da x=true)∧gV [] (cM f on)=false∧da f.ph=true∧f.ph≠pM:=by
 have key:(gC.all fun f=>[true,false].all fun on=>(cM f on).all da&&(!gV [] (cM f on)&&(da f.ph&&!decide (f.ph=pM))))=true:=by decide+kernel
 grind
theorem Ap(h:dq e=0):da e.name=true∧e.name.size<=40∧(∀s∈e.stack,da s=true∧s.size<=40)∧e.stack.length<=32:=by
 have g:=qe h
 cases hn:(dh e.kind).name with
 |true=>
   obtain⟨a,b⟩:=rh (g.name hn);have hs:(dh e.kind).stack=false:=by
    have k:=g.kind;have:e.kind=1∨e.kind=2∨e.kind=3∨e.kind=4∨e.kind=5∨e.kind=6∨e.kind=7∨e.kind=8∨e.kind=9∨e.kind=10∨e.kind=11∨e.kind=12:=by omega
    rcases this with h|h|h|h|h|h|h|h|h|h|h|h<;>rw[h]at hn⊢<;>first|rfl|exact absurd hn (by decide)
   have h0:=g.noStack hs;grind
 |false=>have h0:=g.noName hn;have I:=xR (g.stack hn);exact⟨by rw[h0];exact mu,by rw[h0];decide,fun s hs=>rh (I.2 s hs),I.1⟩
theorem ER(J:jD e.kind=some f)(I:dq e=0)(h0:0<=id)(h1:id<=1000000000000000)(hl:level<=14):b8 (fP f id e) level=0:=by
 obtain⟨hm,N⟩:=pd J;have g:=qe I;obtain⟨k1,k2,k3,_⟩:=vS hm (ju f e);obtain⟨t1,_,t3,_⟩:=Ap I;have hid:eK id=true:=by unfold eK;simp;omega
 refine oW (rj (by simp[dJ,JV.op,JV.n,JV.s,JV.keys,JV.kids,cn]) (by omega) mu k1 k2 (by omega)) (nw fun x M=>?_);obtain⟨k,_,rfl⟩:=R'.1 M;unfold ee;repeat' split
 ·exact ur k3 _
 ·grind[ra]
 ·exact ur t1 _
 ·exact ra g.E8 _
 ·refine oW (rj (by simp[dJ,JV.op,JV.n,JV.s,JV.keys,JV.kids,cn]) (by omega) mu (by simp) Z (by omega)) (nw fun y O=>?_)
  grind[ur]
 ·exact ra g.Le _
 ·exact ra g.Ld _
theorem xS(l:List UInt8):(cI l).length<=2*l.length+2:=by
 have key:∀l:List UInt8,(l.flatMap dN).length<=2*l.length:=by
  intro l
  induction l with
  |nil=>simp
  |cons b r I=>grind[List.length_append,List.length_cons,dN]
 have:=key l;unfold cI;grind
theorem tw(s:ByteArray):(bg s).length=s.size:=Array.length_toList
theorem vl(s:ByteArray):(bp (tJ s)).length<=2*s.size+2:=by grind[xS,bg,tw,tJ,bp]
theorem rT{n:Int}(h:eK n=true):(bp (nJ n)).length<=20:=by grind[Cp,bp,nJ,eg,tw]
theorem rN:∀(l:List JV)(first:Bool){m:Nat},(∀k∈l,(bp k).length<=m)->(dI l first).length<=(m+1)*l.length
 |[],_,m,_=>by simp[dI]
 |x::r,first,m,h=>by have h1:=h x List.mem_cons_self;have h2:=rN r false (m:=m) fun k I=>h k (List.mem_cons_of_mem _ I);grind[gZ,List.length_append,List.length_cons,Nat.mul_add]
theorem tI(v):∀(ks:List ByteArray)(first:Bool),(∀k∈ks,k.size<=7)->
 (cv ks (ks.map v) first).length<=18*ks.length+(ks.map fun k=>(bp (v k)).length).sum
 |[],_,_=>by simp[cv]
 |k::r,first,h=>by have h1:=h k List.mem_cons_self;have h2:=tI v r false fun x I=>h x (List.mem_cons_of_mem _ I);grind[xS,bg,tw,eQ,List.length_append,List.length_cons]
theorem vQ(h:f∈gC)(on):(∀k∈cM f on,k.size<=7)∧((cM f on).countP fun k=>decide (k=bY))<=1∧f.ph.size<=1:=by
 have key:(gC.all fun f=>[true,false].all fun on=>((cM f on).all fun k=>decide (k.size<=7))&&(decide (((cM f on).countP fun k=>decide (k=bY))<=1)&&decide (f.ph.size<=1)))=true:=by decide+kernel
 grind
theorem HY(hm:f∈gC)(I:dq e=0)(h0:0<=id)(h1:id<=1000000000000000)(k):(bp (ee f id e k)).length<=100+if k=bY then 3000 else 0:=by
 have g:=qe I;obtain⟨_,t2,t3,t4⟩:=Ap I;have hid:eK id=true:=by unfold eK;simp;omega
 have hp:=(vQ hm true).2.2;unfold ee;repeat' split
 all_goals try(have:=vl f.ph;omega)
 all_goals try(have:=rT hid;omega)
 all_goals try(have:=vl e.name;omega)
 all_goals try(have:=rT g.E8;omega)
 all_goals try(have:=rT g.Le;omega)
 all_goals try(have:=rT g.Ld;omega)
 have hi:=rN (e.stack.map tJ) true (m:=82) (fun x J=>by obtain⟨s,hs,rfl⟩:=List.mem_map.1 J;have:=vl s;have:=(t3 s hs).2;omega);grind[List.length_map,bp]
theorem Jv(I:jD e.kind=some f)(J:dq e=0)(h0:0<=id)(h1:id<=1000000000000000):(bp (fP f id e)).length<=4000:=by
 obtain⟨hm,_⟩:=pd I;obtain⟨a,b,_⟩:=vQ hm (ju f e);have c:=xk f (ju f e);have M:=tI (ee f id e) (cM f (ju f e)) true a;have key:∀l:List ByteArray,(l.map fun k=>(bp (ee f id e k)).length).sum<=100*l.length+3000*l.countP fun k=>decide (k=bY):=by
  intro l
  induction l with
  |nil=>simp
  |cons k r N=>have O:=HY hm J h0 h1 k;grind
 grind[cM,ju,bp,fP,cv,ee]
section
variable{P:Program}{T:cG P}{tl th tts tt tds td tsn tn tv tps tp tes te ti tk ts tsl:Nat}{o1 o2 o3 o4 o5 o6 p1 p2 p3 p4 p5 p6 q1 q2 q3 q4 r1 r2 u1 u2 u3 u4 u5 u6:Nat}{n1 n2 n3 n4 n5 n6 m1 m2 m3 m4 m5 m6 k1 k2 k3 k4 j1 j2 i1 i2 i3 i4 i5 i6:String}{l:List D}
theorem FP(h:de T tl l)(hl:cY T tl=.st [(o1,th,n1),(o2,tps,n2)])(X:cY T th=.st [(o3,tts,n3),(o4,tds,n4),(o5,tsn,n5)])(M:cY T tts=.slice tt)(ht:cY T tt=.st [(p1,ti,m1),(p2,ts,m2),(p3,ti,m3)])(N:cY T tds=.slice td)(hd:cY T td=.st [(p4,ti,m4),(p5,ti,m5)])(O:cY T tsn=.slice tn)(hn:cY T tn=.st [(q1,ti,k1),(q2,ti,k2),(q3,ti,k3),(q4,tv,k4)])(hv:cY T tv=.st [(r1,ti,j1),(r2,ti,j2)])(U:cY T tps=.slice tp)(hp:cY T tp=.st [(o6,ti,n6),(p6,ti,m6),(u1,ti,i1),(u2,tes,i2)])(J:cY T tes=.slice te)(he:∀x,de T te x->∃y:Ev,x=y.c)(hi:cY T ti=.int .i64)(hs:cY T ts=.str):∃x:dM,l=x.c∧∀p∈x.ps,p.evs.length<=140737488355328:=by
 obtain⟨a,b,rfl,h1,h2⟩:=uT h hl;obtain⟨c,d,e,rfl,h3,h4,h5⟩:=zg h1 X;obtain⟨x1,rfl⟩:=nS (f:=GT.c) h3 M (fun x I=>by obtain⟨p,q,r,rfl,g1,g2,g3⟩:=zg I ht;obtain⟨u,rfl⟩:=fF g1 hi;obtain⟨v,rfl⟩:=uR g2 hs;obtain⟨w,rfl⟩:=fF g3 hi;exact⟨⟨u,v,w⟩,rfl⟩);obtain⟨x2,rfl⟩:=nS (f:=dF) h4 N (fun x I=>by obtain⟨p,q,rfl,g1,g2⟩:=uT I hd;obtain⟨u,rfl⟩:=fF g1 hi;obtain⟨v,rfl⟩:=fF g2 hi;exact⟨(u,v),rfl⟩);obtain⟨x3,rfl⟩:=nS (f:=Sn.c) h5 O (fun x I=>by obtain⟨p,q,r,s,rfl,g1,g2,g3,g4⟩:=zJ I hn;obtain⟨s1,s2,rfl,g5,g6⟩:=uT g4 hv;obtain⟨u,rfl⟩:=fF g1 hi;obtain⟨v,rfl⟩:=fF g2 hi;obtain⟨w,rfl⟩:=fF g3 hi;obtain⟨y,rfl⟩:=fF g5 hi;obtain⟨z,rfl⟩:=fF g6 hi;exact⟨⟨u,v,w,y,z⟩,rfl⟩);obtain⟨x4,rfl⟩:=nS (f:=fun p:{p:bH//p.evs.length<=140737488355328}=>p.1.c) h2 U (fun x I=>by obtain⟨p,q,r,s,rfl,g1,g2,g3,g4⟩:=zJ I hp;obtain⟨u,rfl⟩:=fF g1 hi;obtain⟨v,rfl⟩:=fF g2 hi;obtain⟨w,rfl⟩:=fF g3 hi;obtain⟨y,rfl⟩:=nS (f:=Ev.c) g4 J he;obtain⟨es,hy,_,hz⟩:=g4.zf J;cases hy;exact⟨⟨⟨u,v,w,y⟩,by simp[reachBytes]at hz;show y.length<=_;omega⟩,rfl⟩);exact⟨⟨x1,x2,x3,x4.map (·.1)⟩,by simp[dM.c],fun p hp=>by obtain⟨y,_,rfl⟩:=R'.1 hp;exact y.2⟩
end
theorem Ki(t:dV):e9 (mJ t) dZ=some (tJ pM)∧e9 (mJ t) cF=some (nJ t.id)∧e9 (mJ t) cm=some (tJ t.name):=by
 have I:(pW.findIdx? fun x=>decide (dZ=x))=some 0:=by decide+kernel
 have J:(pW.findIdx? fun x=>decide (cF=x))=some 1:=by decide+kernel
 have M:(pW.findIdx? fun x=>decide (cm=x))=some 2:=by decide+kernel
 grind[e9,mJ,JV.op,JV.keys,JV.kids]
theorem Ku{x:gO}(I:jD e.kind=some f)(J:dq e=0)(h0:0<=id)(h1:id<=1000000000000000):fC x (fP f id e)=(As x id e,0):=by have hj:=ER I J h0 h1 (level:=1) (by decide);have he:=CS I J h0 hj;obtain⟨hb,_⟩:=xz (j:=fP f id e) (by rw[he]);obtain⟨hm,_⟩:=pd I;have K:=JO hm (ju f e);obtain⟨p1,_⟩:=lf (id:=id) (op:=4) K.ph (BX f id e) rfl;unfold fC;rw[if_neg (by rw[hb];simp),p1,if_pos (show(tJ f.ph).s≠pM from(vS hm true).2.2.2),he,if_pos rfl]
end Go.Tb
namespace Go.Ab
open Go.RowKit Go.MapKept
variable {w w':World}{tmps:Array Value}{pv:Nat→Nat→Prop}{x y:Operand}{t g i k e m j id b off gen d gen' clock sz J mt g2 t' cap d0:Nat}{P:Program}{Q':Exit→Act→World→Prop}{lv' lv gs order os:List Nat}{bs:List (Nat×Nat)}{parts:Array (Nat×Operand)}{fid:FuncId}{xs:Array Operand}{o:Oper}{fn:Func}{dst:Option Nat}{ops:Array Oper}{α ι H β:Type}{hole:Option Value}{R:Value→World→Prop}{want:Bool}{listed:Array Bool}{T ty:TypeId}{l1 l2:List Oper}{ids:List Int}{act:Act}
variable {es es2:List (List D)}{f:List (Nat×A)}{G:Gh}{a a':A}{st st':St}{l:List D}{args cells cq' caps cq cells' X:List A}{E E':En}{Q:Exit→St→Prop}{b1 I:List (List A)}{C:Ctx}
variable {rs:List RV}
variable {td ed:cV}
section
variable(T:cG P){n:Nat}{bx:List (Nat×List A)}{pos:String}{af:Array Edge}
variable[DecidableEq α]{kf:α→Value}{vf:β→D}
theorem It{N:cV}{m O}{l:List (α×β)}{a:α}{z:β}{zx}(hm:av f m=some (.mp g (eP kf vf l)))(hk:av f O=some (.d (.v (kf a))))(ht:bh T.l mt=some td)(U:td.k=.map k e)(he:bh T.l e=some N)(X:lN P k kf)(ad:(lv.any fun h=>Nat.beq h g)=true)(ai:N.z=[zx])(aj:oY N.k=true)(hz:∀w pv,bN w pv zx (vf z))(hn:(l.map (·.1)).Nodup){r}(hr:vf ((cC l a).getD z)=r){q}(hq:(cC l a).isSome=q):
 Pu P C n ⟨f,bx,lv,gen⟩ ⟨dst,.lookup mt m O true,ty,pos,af,none⟩ (.tup [.d r,.d (.v (.bool q))]):=by
 subst hr;subst hq;refine aq fun G tmps w hs=>?_;have M:=hs.av hm;have I:=hs.av hk;generalize hv:Act.eval ⟨tmps,[]⟩ m=v at M;generalize a1:Act.eval ⟨tmps,[]⟩ O=vk at I;obtain⟨b,bs,a7,rfl,me,clock,hb,a8,a6⟩:=hs.sK M (er ad);cases I with|d I=>cases I with|v _ hok=>
 obtain⟨u,h1,h2⟩:=vY (P:=P) T ht U he X ai aj (hz _ _) hb a6 hn a true;refine⟨.tuple #[u,.bool (cC l a).isSome],?_,.tup _ _ rfl (fun i u x hu J=>?_)⟩
 ·unfold execOp
  show Sem.run P _ w=.ok _ _;simp only[hv,a1,Sem.run_bind,h1,Result.andThen_ok,Sem.run_pure];rfl
 ·match i with
  |0=>simp at hu J;subst hu;subst J;exact .d h2
  |1=>simp at hu J;subst hu;subst J;exact .d (.v _ rfl)
  |i+2=>simp at J
end
end Go.Ab
namespace Go.Tb
open Go.Ab
abbrev oZ:D->D:=fun d=>d
def sB(c:Nat):D:=.v (.pointer (some ⟨c,0,none⟩))
def kE(ids:List Int)(l:List (Nat×List D)):List (Int×D):=(ids.zip l).map fun p=>(p.1,sB p.2.1)
theorem uQ{ids:List Int}{l:List (Nat×List D)}(h:ids.length<=l.length):(kE ids l).map (·.1)=ids:=by unfold kE;rw[List.map_map];show(ids.zip l).map Prod.fst=ids;exact List.map_fst_zip h
theorem wX:∀{ids:List Int}{l:List (Nat×List D)}{i:Nat}{a:Int}{p:Nat×List D},ids.Nodup->ids[i]?=some a->l[i]?=some p->cC (kE ids l) a=some (sB p.1)
 |[],_,i,a,p,_,h,_=>by simp at h
 |_::_,[],i,a,p,_,_,h=>by simp at h
 |b::ids,q::l,i,a,p,hn,h1,h2=>by
   show cC ((b,sB q.1)::kE ids l) a=_;rw[fG]
   cases i with
   |zero=>grind
   |succ i=>rw[List.nodup_cons]at hn;simp only[List.getElem?_cons_succ]at h1 h2;rw[if_neg (fun e:b=a=>hn.1 (by rw[e];exact ζ h1))];exact wX hn.2 h1 h2
theorem GI{ids:List Int}{l:List (Nat×List D)}{a:Int}(h:a∉ids):cC (kE ids l) a=none:=by
 unfold kE
 induction ids generalizing l with
 |nil=>rfl
 |cons b ids I=>
   cases l with
   |nil=>rfl
   |cons q l=>show cC ((b,sB q.1)::((ids.zip l).map fun p=>(p.1,sB p.2.1))) a=_;grind[fG,List.mem_cons_self,List.mem_cons_of_mem]
theorem HN{ids:List Int}{l:List (Nat×List D)}{k:Nat}{a:Int}(c:Nat)(y:List D)(I:ids.Nodup)(hl:l.length=k)(h:ids[k]?=some a):dm (kE (ids.take k) l) a (sB c)=kE (ids.take (k+1)) (l++[(c,y)]):=by
 rw[iS]
 ·unfold kE
  rw[Φ,h,List.zip_append (by rw[V'];have:=(δ.1 h).1;omega),y'];rfl
 ·intro p hp e
  have h1:p.1∈(kE (ids.take k) l).map (·.1):=List.mem_map.2 ⟨p,hp,rfl⟩;grind[uQ,List.length_take,ES]
def Hc(I:List bH)(a:Int):List D:=[ci (fD I a).1,ci (fD I a).2]
def mj(ids:List Int)(l:List (Nat×List D))(I:List bH):Prop:=l.length=ids.length∧∀(i:Nat)(a:Int),ids[i]?=some a->∃c,l[i]?=some (c,Hc I a)
theorem aK{ids:List Int}{l:List (Nat×List D)}(h:l.length=ids.length)(I:∀p∈l,p.2=z2):mj ids l []:=by
 refine⟨h,fun i a hi=>?_⟩;have hl:i<l.length:=by rw[h];exact(δ.1 hi).1
 refine⟨l[i].1,?_⟩;have h1:l[i]?=some l[i]:=by simp[hl]
 rw[h1];have h2:=I l[i] (List.getElem_mem hl);show some l[i]=some (l[i].1,z2);grind
theorem mj.step{ids:List Int}{l:List (Nat×List D)}{I:List bH}(h:mj ids l I)(J:ids.Nodup){p:bH}{i c:Nat}{y:List D}(hi:ids[i]?=some p.thread)(hl:l[i]?=some (c,y)):
 mj ids (l.set i (c,[ci (p.serial+p.evs.length),ci (mB p)])) (I++[p]):=by
 refine⟨by rw[List.length_set];exact h.1,fun j a hj=>?_⟩;by_cases e:i=j
 ·subst e
  rw[hi]at hj;cases hj;refine⟨c,?_⟩;grind[List.getElem?_set_self,List.getElem?_eq_some_iff,Hc,qG]
 ·obtain⟨M,h2⟩:=h.2 j a hj
  grind[List.getElem?_set_ne,Hc,qG,List.getElem?_inj,List.getElem?_eq_some_iff]
theorem aN{l:List (Nat×List D)}{i c:Nat}{y I:List D}(hl:l[i]?=some (c,I)):(l.set i (c,y)).map (·.1)=l.map (·.1):=by rw[List.map_set];refine List.ext_getElem? fun j=>?_;grind
theorem Fg{l I:List (Nat×List D)}(h:l.map (·.1)=I.map (·.1)){i c:Nat}{y:List D}(hl:l[i]?=some (c,y)):∃J,I[i]?=some (c,J):=by
 have h1:(I.map (·.1))[i]?=some c:=by rw[<-h,τ,hl];rfl
 grind
end Go.Tb
namespace Go.Ab
open Go.RowKit
variable {w w':World}{tmps:Array Value}{pv:Nat→Nat→Prop}{x y:Operand}{t g i k e m j id b off gen d gen' clock sz J mt g2 t' cap d0:Nat}{P:Program}{Q':Exit→Act→World→Prop}{lv' lv gs order os:List Nat}{bs:List (Nat×Nat)}{parts:Array (Nat×Operand)}{fid:FuncId}{xs:Array Operand}{o:Oper}{fn:Func}{dst:Option Nat}{ops:Array Oper}{α ι H β:Type}{hole:Option Value}{R:Value→World→Prop}{want:Bool}{listed:Array Bool}{T ty:TypeId}{l1 l2:List Oper}{ids:List Int}{act:Act}
variable {es es2:List (List D)}{f:List (Nat×A)}{G:Gh}{a a':A}{st st':St}{l:List D}{args cells cq' caps cq cells' X:List A}{E E':En}{Q:Exit→St→Prop}{b1 I:List (List A)}{C:Ctx}
variable {rs:List RV}
variable {td ed:cV}
section
variable{n:Nat}{c:Code}
variable{bx:List (Nat×List A)}
theorem BL(g j)(hb:bh bx g=some cells)(hj:cells[j]?=some (.own g2 es))(M:cells.set j (.d (.sl es))=cells')(h:W P C n c Q ⟨f,(g,cells')::bx,lv,gen⟩):W P C n c Q ⟨f,bx,lv,gen⟩:=by
 subst M;intro tmps w ⟨G,hs⟩;refine h tmps w ⟨G,hs.fZ hb (by simp) fun b cs T h1 h2 h3 i x a N I=>?_⟩;by_cases e:j=i
 ·subst e
  have J:j<cells.length:=(δ.1 hj).1;rw[C' J]at I;simp only[Option.some.injEq]at I;subst I;have:=h3 j x _ N hj;cases this with|own _ _ _ hd _ _=>exact .d hd
 ·grind
end
end Go.Ab
namespace Go.Tb
open Go.Ab
variable {l:List UInt8}{i k u:Nat}{α:Type}{level id a:Int}{x:Value}
variable {l1:List (Value×List (List D))}
variable {j:JV}
variable {o:List (bH×Nat)}{ps:List bH}{p:bH}
variable {f:Fm}
variable {l2:List (Value×List Ev)}{e:Ev}
def ir:Value:=.slice none 0 0
abbrev iW(th se lo:Int)(v:Value):List D:=[ci th,ci se,ci lo,.v v]
def wJ(l2:List (Value×List Ev))(i:Nat):Value:=match l2[i]?with|some p=>p.1|none=>ir
def gk(l2:List (Value×List Ev))(e:bH×Nat):List D:=iW e.1.thread e.1.serial e.1.lost (wJ l2 e.2)
theorem wW{I:List (Value×List Ev)}{e:bH×Nat}(h:I[e.2]?=l2[e.2]?):gk I e=gk l2 e:=by unfold gk wJ;rw[h]
def jt(ks:List Int)(l:List (Value×List (List D))):List (Int×D):=(ks.zip l).map fun p=>(p.1,.v p.2.1)
theorem uy{ks:List Int}{l:List (Value×List (List D))}(h:ks.length<=l.length):(jt ks l).map (·.1)=ks:=by unfold jt;rw[List.map_map];show(ks.zip l).map Prod.fst=ks;exact List.map_fst_zip h
theorem BD:∀{ks:List Int}{l:List (Value×List (List D))}{i:Nat}{a:Int}{p:Value×List (List D)},ks.Nodup->ks[i]?=some a->l[i]?=some p->cC (jt ks l) a=some (.v p.1)
 |[],_,i,a,p,_,h,_=>by simp at h
 |_::_,[],i,a,p,_,_,h=>by simp at h
 |b::ks,q::l,i,a,p,hn,h1,h2=>by
   show cC ((b,D.v q.1)::jt ks l) a=_;rw[fG]
   cases i with
   |zero=>grind
   |succ i=>rw[List.nodup_cons]at hn;simp only[List.getElem?_cons_succ]at h1 h2;rw[if_neg (fun e:b=a=>hn.1 (by rw[e];exact ζ h1))];exact BD hn.2 h1 h2
theorem yL:∀{ks:List Int}{l:List (Value×List (List D))}{a:Int},a∉ks->cC (jt ks l) a=none
 |[],_,_,_=>rfl
 |_::_,[],_,_=>rfl
 |b::ks,q::l,a,h=>by show cC ((b,D.v q.1)::jt ks l) a=_;rw[fG,if_neg (fun e:b=a=>h (by rw[e];exact Ψ))];exact yL (fun q=>h (ω _ q))
theorem BO:∀{ks:List Int}{l:List (Value×List (List D))}{i:Nat}{a:Int}(x:Value)(r:List (List D)),ks.Nodup->ks[i]?=some a->i<l.length->dm (jt ks l) a (.v x)=jt ks (l.set i (x,r))
 |[],_,i,a,x,r,_,h,_=>by simp at h
 |_::_,[],i,a,x,r,_,_,h=>by simp at h
 |b::ks,q::l,i,a,x,r,hn,h1,h2=>by
   show dm ((b,D.v q.1)::jt ks l) a (.v x)=_
   cases i with
   |zero=>simp only[List.getElem?_cons_zero,Option.some.injEq]at h1;subst h1;simp[dm,jt]
   |succ i=>rw[List.nodup_cons]at hn;simp only[List.getElem?_cons_succ]at h1;have I:b≠a:=fun e=>hn.1 (by rw[e];exact ζ h1);simp only[dm,if_neg I];rw[BO x r hn.2 h1 (by simpa using h2)];rfl
theorem Ip{ks:List Int}{l:List (Value×List (List D))}(x r)(h:a∉ks)(hl:l.length=ks.length):dm (jt ks l) a (.v x)=jt (ks++[a]) (l++[(x,r)]):=by
 rw[iS]
 ·unfold jt
  rw[List.zip_append hl.symm,y'];rfl
 ·grind[jt,uy]
abbrev PL:=List (Int×List (bH×Nat))
structure lE(L:PL)(l:List (Value×List (List D)))(l2:List (Value×List Ev))(bef:List bH):Prop where
 keys:(L.map (·.1)).Nodup
 len:l.length=L.length
 at_:∀(j:Nat)(a:Int)(o:List (bH×Nat)),L[j]?=some (a,o)->∃x,l[j]?=some (x,o.map (gk l2))
 own:∀a o,(a,o)∈L->o.map (·.1)=cc a bef∧o≠[]
 ev:∀a o,(a,o)∈L->∀e∈o,∃v,l2[e.2]?=some (v,e.1.evs)
 inj:(L.flatMap fun p=>p.2.map (·.2)).Nodup
 no:∀a,a∉L.map (·.1)->cc a bef=[]
theorem lE.nil:lE [] [] [] []:=⟨List.nodup_nil,rfl,fun _ _ _ h=>by simp at h,fun _ _ h=>(by cases h),fun _ _ h=>(by cases h),List.nodup_nil,fun _ _=>rfl⟩
structure qd(L:PL)(l:List (Value×List (List D)))(l2:List (Value×List Ev))(bef:List bH)(a:Int)(x:Value)(L1:PL)(l1:List (Value×List (List D)))(j:Nat)(o:List (bH×Nat)):Prop where
 get:(cC (jt (L.map (·.1)) l) a).getD (.v ir)=.v x
 new:l1=l∨l1=l++[(ir,[])]
 hj:l1[j]?=some (x,o.map (gk l2))
 hL:L1[j]?=some (a,o)
 keys:(L1.map (·.1)).Nodup
 len:l1.length=L1.length
 at_:∀(k:Nat)(b:Int)(q:List (bH×Nat)),L1[k]?=some (b,q)->∃x,l1[k]?=some (x,q.map (gk l2))
 own:∀b q,(b,q)∈L1->q.map (·.1)=cc b bef∧(b≠a->q≠[])
 ev:∀b q,(b,q)∈L1->∀e∈q,∃v,l2[e.2]?=some (v,e.1.evs)
 inj:(L1.flatMap fun p=>p.2.map (·.2)).Nodup
 no:∀b,b∉L1.map (·.1)->cc b bef=[]
 put:∀(y:Value)(r:List (List D)),dm (jt (L.map (·.1)) l) a (.v y)=jt (L1.map (·.1)) (l1.set j (y,r))
theorem lE.LM{L:PL}{l N}(h:lE L l l2 N)(a):∃x L1 l1 j o,qd L l l2 N a x L1 l1 j o:=by
 by_cases hm:a∈L.map (·.1)
 ·obtain⟨j,hj⟩:=ψ.1 hm
  have O:=hj;rw[τ,ν]at hj;obtain⟨⟨b,o⟩,hL,rfl⟩:=hj;obtain⟨x,M⟩:=h.at_ j b o hL;have U:j<l.length:=(δ.1 M).1;exact⟨x,L,l,j,o,by rw[BD h.keys O M];rfl,.inl rfl,M,hL,h.keys,h.len,h.at_,fun b q I=>⟨(h.own b q I).1,fun _=>(h.own b q I).2⟩,h.ev,h.inj,h.no,fun y r=>BO y r h.keys O U⟩
 ·refine⟨ir,L++[(a,[])],l++[(ir,[])],L.length,[],by rw[yL hm];rfl,.inr rfl,?_,?_,?_,by simp[h.len],fun k b q J=>?_,fun b q I=>?_,fun b q I=>?_,?_,fun b hb=>?_,fun y r=>?_⟩
  ·rw[Θ (by rw[h.len];exact χ _),h.len,Nat.sub_self];rfl
  ·grind
  ·rw[y',List.nodup_append]
   exact⟨h.keys,by simp,fun b hb c X=>by simp at X;subst X;rintro rfl;exact hm hb⟩
  ·rcases Nat.lt_or_ge k L.length with h1|h1
   ·rw[Ω h1]at J
    obtain⟨x,M⟩:=h.at_ k b q J;grind
   ·rw[Θ h1]at J
    have:k-L.length=0:=by grind
    rw[this]at J;simp at J;obtain⟨rfl,rfl⟩:=J;exact⟨ir,by rw[Θ (by rw[h.len];exact h1),h.len,this];rfl⟩
  ·rcases D'.1 I with I|I
   ·exact⟨(h.own b q I).1,fun _=>(h.own b q I).2⟩
   ·simp at I
    obtain⟨rfl,rfl⟩:=I;exact⟨(h.no b hm).symm,fun q=>absurd rfl q⟩
  ·rcases D'.1 I with I|I
   ·exact h.ev b q I
   ·grind
  ·rw[List.flatMap_append]
   simpa using h.inj
  ·exact h.no b (fun q=>hb (by rw[y'];exact List.mem_append_left _ q))
  ·rw[Ip y r hm (by simp[h.len])]
   rw[show L.length=l.length from h.len.symm,List.set_append_right _ _ (χ _),Nat.sub_self,y'];rfl
theorem qd.ex{L:PL}{l N}{J:PL}{j}(h:qd L l l2 N a x J l1 j o)(ha:p.thread=a){o':List (bH×Nat)}{X:List (Value×List Ev)}(y)(h1:o'.map (·.1)=cc a (N++[p]))(h2:o'≠[])(h3:∀b q,(b,q)∈J->b≠a->∀e∈q,X[e.2]?=l2[e.2]?)(h4:∀e∈o',∃v,X[e.2]?=some (v,e.1.evs))(h5:((J.set j (a,o')).flatMap fun p=>p.2.map (·.2)).Nodup):
 lE (J.set j (a,o')) (l1.set j (y,o'.map (gk X))) X (N++[p]):=by
 have ai:j<J.length:=(δ.1 h.hL).1;have O:(J.set j (a,o')).map (·.1)=J.map (·.1):=by
  refine List.ext_getElem? fun k=>?_;rw[τ,τ,List.getElem?_set];split
  ·rename_i e
   subst e;rw[h.hL];rfl
  ·rfl
 have ad:∀{k:Nat}{b:Int}{q:List (bH×Nat)},J[k]?=some (b,q)->k≠j->b≠a:=fun{k b q} I aj e=>by
  subst e;have h6:(J.map (·.1))[k]?=some b:=by rw[τ,I];rfl
  have h7:(J.map (·.1))[j]?=some b:=by rw[τ,h.hL];rfl
  exact aj ((List.getElem?_inj (δ.1 h6).1 h.keys).1 (h6.trans h7.symm))
 have U:∀{b:Int}{q:List (bH×Nat)},(b,q)∈J.set j (a,o')->(b=a∧q=o')∨(b≠a∧(b,q)∈J):=fun{b q} hm=>by
  obtain⟨k,I⟩:=ψ.1 hm;rw[List.getElem?_set]at I;split at I
  ·simp only[Option.some.injEq,Prod.mk.injEq]at I
   exact .inl ⟨I.1.symm,I.2.symm⟩
  ·rename_i e
   exact .inr ⟨ad I (Ne.symm e),ζ I⟩
 refine⟨by rw[O];exact h.keys,by simp[h.len],fun k b q I=>?_,fun b q M=>?_,fun b q M e he=>?_,h5,fun b hb=>?_⟩
 ·rw[List.getElem?_set]at I
  split at I
  ·rename_i e
   subst e;simp only[Option.some.injEq,Prod.mk.injEq]at I;obtain⟨rfl,rfl⟩:=I;exact⟨y,by rw[C' (by rw[h.len];exact ai)]⟩
  ·rename_i e
   obtain⟨x2,a1⟩:=h.at_ k b q I;refine⟨x2,?_⟩;rw[List.getElem?_set_ne e,a1];have hb:=ad I (Ne.symm e);rw[List.map_congr_left fun e he=>(wW (h3 b q (ζ I) hb e he)).symm]
 ·rcases U M with⟨rfl,rfl⟩|⟨hb,M⟩
  ·exact⟨h1,h2⟩
  ·rw[iQ,if_neg (fun e=>hb (e.symm.trans ha))]
   exact⟨(h.own b q M).1,(h.own b q M).2 hb⟩
 ·rcases U M with⟨rfl,rfl⟩|⟨hb,M⟩
  ·exact h4 e he
  ·rw[h3 b q M hb e he];exact h.ev b q M e he
 ·rw[O]at hb
  rw[iQ,if_neg];·exact h.no b hb
  ·rintro e
   refine hb ?_;rw[<-e,ha];exact R'.2 ⟨_,ζ h.hL,rfl⟩
theorem qd.Jq{L:PL}{l J}{I:PL}{j}(h:qd L l l2 J a x I l1 j o)(o'):(I.set j (a,o')).map (·.1)=I.map (·.1):=by
 have M:j<I.length:=(δ.1 h.hL).1;refine List.ext_getElem? fun k=>?_;rw[τ,τ,List.getElem?_set];split
 ·rename_i e
  subst e;rw[h.hL];rfl
 ·rfl
theorem qd.cut {L:PL} {l bef} {L1:PL} {j} (h:qd L l l2 bef a x L1 l1 j o) (o':List (bH×Nat)):
    ∃ A B:List Nat,(L1.flatMap fun p=>p.2.map (·.2))=A++(o.map (·.2)++B)∧((L1.set j (a,o')).flatMap fun p=>p.2.map (·.2))=A++(o'.map (·.2)++B) ∧
      ∀ b q,(b,q)∈L1→b≠a→∀ e∈q,e.2∈A∨e.2∈B:=by
  have hjl:j < L1.length:=(δ.1 h.hL).1
  refine⟨(L1.take j).flatMap fun p=>p.2.map (·.2),(L1.drop (j+1)).flatMap fun p=>p.2.map (·.2),?_,?_,fun b q hq hne e he=>?_⟩
  · have:L1=L1.take j++(a,o)::L1.drop (j+1):=by
      rw[←(δ.1 h.hL).2,←List.drop_eq_getElem_cons hjl,List.take_append_drop]
    conv=>lhs;rw[this]
    grind
  · grind[List.set_eq_take_append_cons_drop]
  · have:L1=L1.take j++(a,o)::L1.drop (j+1):=by
      rw[←(δ.1 h.hL).2,←List.drop_eq_getElem_cons hjl,List.take_append_drop]
    grind
theorem BZ{I:PL}(ev:∀b q,(b,q)∈I->∀e∈q,∃v,l2[e.2]?=some (v,e.1.evs)):∀i∈(I.flatMap fun p=>p.2.map (·.2)),i<l2.length:=by grind
theorem qd.step1{L:PL}{l J}{L1:PL}{j}(h:qd L l l2 J a x L1 l1 j o)(ha:p.thread=a)(hb:0<p.lost∨o=[])(I y):
 lE (L1.set j (a,o++[(p,l2.length)])) (l1.set j (y,o.map (gk l2)++[iW p.thread p.serial p.lost I])) ((l2++[(ir,[])]).set l2.length (I,[]++p.evs)) (J++[p]):=by
 have ai:(l2++[(ir,[])]).set l2.length (I,[]++p.evs)=l2++[(I,p.evs)]:=by rw[List.set_append_right _ _ (χ _),Nat.sub_self];rfl
 rw[ai];have M:=BZ h.ev;have hold:∀i,i<l2.length->(l2++[(I,p.evs)])[i]?=l2[i]?:=fun i hi=>Ω hi;have N:∀b q,(b,q)∈L1->∀e∈q,e.2<l2.length:=fun b q hq e he=>M _ (List.mem_flatMap.2 ⟨_,hq,R'.2 ⟨e,he,rfl⟩⟩);have X:=h.own a o (ζ h.hL);have O:(l2++[(I,p.evs)])[l2.length]?=some (I,p.evs):=by rw[Θ (χ _),Nat.sub_self];rfl
 have ad:o.map (gk l2)++[iW p.thread p.serial p.lost I]=(o++[(p,l2.length)]).map (gk (l2++[(I,p.evs)])):=by rw[y',List.map_congr_left fun e he=>(wW (hold _ (N a o (ζ h.hL) e he))).symm];show _=_++[gk _ (p,l2.length)];unfold gk wJ;rw[O]
 rw[ad];refine h.ex ha y ?_ (by simp) (fun b q hq _ e he=>hold _ (N b q hq e he)) (fun e he=>?_) ?_
 ·rw[y',X.1,iQ,if_pos ha]
  unfold jP;rcases hb with hb|rfl
  ·rw[if_pos hb];rfl
  ·have U:cc a J=[]:=X.1.symm
   rw[U];split<;>rfl
 ·rcases D'.1 he with he|he
  ·obtain⟨v,hv⟩:=h.ev a o (ζ h.hL) e he
   exact⟨v,by rw[hold _ (N a o (ζ h.hL) e he)];exact hv⟩
  ·simp at he;subst he;exact⟨I,O⟩
 ·obtain⟨A,B,e1,e2,_⟩:=h.cut (o++[(p,l2.length)])
  rw[e2];have U:=h.inj;rw[e1]at U M;have aj:l2.length∉A++(o.map (·.2)++B):=fun hm=>Nat.lt_irrefl _ (M _ hm);rw[y'];simp only[List.nodup_append,D',U',List.map_nil,List.mem_singleton,not_or]at U aj⊢;grind
theorem qd.step2{L:PL}{l N}{L1:PL}{j}{J:List (bH×Nat)}{q:bH}(h:qd L l l2 N a x L1 l1 j (J++[(q,i)]))(ha:p.thread=a)(hb:¬0<p.lost)(M y):
 lE (L1.set j (a,J++[(⟨q.thread,q.serial,q.lost,q.evs++p.evs⟩,i)])) (l1.set j (y,J.map (gk l2)++[iW q.thread q.serial q.lost M])) (l2.set i (M,q.evs++p.evs)) (N++[p]):=by
 have a6:=BZ h.ev;have O:=ζ h.hL;have ai:=h.own a _ O;have aj:i<l2.length:=by obtain⟨v,X⟩:=h.ev a _ O (q,i) (by simp);exact(δ.1 X).1
 obtain⟨A,B,e1,e2,e3⟩:=h.cut (J++[(⟨q.thread,q.serial,q.lost,q.evs++p.evs⟩,i)]);have I:=h.inj;rw[e1]at I;have U:(l2.set i (M,q.evs++p.evs))[i]?=some (M,q.evs++p.evs):=C' aj;have hold:∀k,k≠i->(l2.set i (M,q.evs++p.evs))[k]?=l2[k]?:=fun k hk=>List.getElem?_set_ne (Ne.symm hk);have h0:∀e∈J,e.2≠i:=fun e he hi=>by rw[y']at I;simp only[List.nodup_append,D',U',List.map_nil,List.mem_singleton]at I;have:=I.2.1.1.2.2 e.2 (R'.2 ⟨e,he,rfl⟩) i rfl;exact this hi
 have ad:J.map (gk l2)++[iW q.thread q.serial q.lost M]=(J++[((⟨q.thread,q.serial,q.lost,q.evs++p.evs⟩:bH),i)]).map (gk (l2.set i (M,q.evs++p.evs))):=by rw[y',List.map_congr_left fun e he=>(wW (hold _ (h0 e he))).symm];show _=_++[gk _ ((⟨q.thread,q.serial,q.lost,q.evs++p.evs⟩:bH),i)];unfold gk wJ;rw[U]
 rw[ad];refine h.ex ha y ?_ (by simp) (fun b r hr a1 e he=>hold _ fun hi=>?_) (fun e he=>?_) ?_
 ·rw[y',iQ,if_pos ha]
  have hp:cc a N=J.map (·.1)++[q]:=by rw[<-ai.1,y'];rfl
  unfold jP;rw[if_neg hb,hp,List.getLast?_concat,List.dropLast_concat];rfl
 ·rw[y']at I
  simp only[List.nodup_append,D',U',List.map_nil,List.mem_singleton]at I;rcases e3 b r hr a1 e he with hm|hm
  ·exact I.2.2 _ hm i (.inl (.inr Z)) hi
  ·exact I.2.1.2.2 i (.inr Z) _ hm hi.symm
 ·rcases D'.1 he with he|he
  ·obtain⟨v,X⟩:=h.ev a _ O e (List.mem_append_left _ he)
   exact⟨v,by rw[hold _ (h0 e he)];exact X⟩
  ·simp at he;subst he;exact⟨M,U⟩
 ·rw[e2,y']
  rw[y']at I;exact I
variable {L:PL}
def total(ps:List bH):Nat:=(ps.map fun p=>p.evs.length).sum
theorem qy(ps)(p:bH):total (ps++[p])=total ps+p.evs.length:=by unfold total;simp
theorem qJ(h:ps[k]?=some p):total (ps.take k)+p.evs.length<=total ps:=by
 have e:ps=ps.take k++p::ps.drop (k+1):=by rw[<-(δ.1 h).2,←List.drop_eq_getElem_cons (δ.1 h).1,List.take_append_drop]
 have:total ps=total (ps.take k)+(p.evs.length+total (ps.drop (k+1))):=by
  conv=>lhs;rw[e]
  unfold total;simp
 omega
theorem iN(th):∀{n:Nat}{ps:List bH},ps.length=n->(cc th ps).length<=ps.length∧∀q∈cc th ps,q.evs.length<=total ps
 |0,ps,h=>by have:ps=[]:=A' h;subst this;exact⟨χ _,fun q I=>by cases I⟩
 |n+1,ps,h=>by
   obtain⟨p,r,e⟩:∃p r,ps=r++[p]:=⟨ps.getLast (by rintro rfl;simp at h),ps.dropLast,(List.dropLast_concat_getLast _).symm⟩;subst e;obtain⟨h1,h2⟩:=iN th (n:=n) (ps:=r) (by simp at h;exact h);rw[iQ,qy];split
   ·unfold jP
    split;·grind
    ·cases hl:(cc th r).getLast? with
     |none=>exact⟨by simp,fun q I=>by simp at I;subst I;omega⟩
     |some J=>grind[List.mem_of_getLast?,List.length_append,List.length_dropLast,List.length_cons,List.length_nil,List.dropLast_sublist]
   ·grind
theorem uE(l2)(o:List (bH×Nat)):∀(x:List D),x∈o.map (gk l2)->x.length=4:=by intro x I;obtain⟨e,_,rfl⟩:=R'.1 I;rfl
theorem qd.LU{l}{J:List bH}{L1:PL}{j}(h:qd L l l2 J p.thread x L1 l1 j o):
 ∃(I:List (List D))(tA O pO:Int)(vA:Value)(U:List Ev)(M:List (Value×List Ev))(iA:Nat)(oA:List (bH×Nat)),
   ((0<p.lost∨o=[])->I=o.map (gk l2)∧tA=p.thread∧O=p.serial∧pO=p.lost∧vA=ir∧M=l2++[(ir,[])])∧
   (¬(0<p.lost∨o=[])->o.map (gk l2)=I++[iW tA O pO vA]∧M=l2)∧
   M[iA]?=some (vA,U)∧I.length<=J.length∧(∀(x:List D),x∈I->x.length=4)∧U.length<=total J∧
   ∀N y,lE (L1.set j (p.thread,oA)) (l1.set j (y,I++[iW tA O pO N])) (M.set iA (N,U++p.evs)) (J++[p]):=by
 have ad:=h.own _ o (ζ h.hL);obtain⟨b1,b2⟩:=iN p.thread (rfl:J.length=J.length);have ai:o.length<=J.length:=by have h1:=congrArg List.length ad.1;rw[η]at h1;omega
 by_cases hb:0<p.lost∨o=[]
 ·exact⟨o.map (gk l2),p.thread,p.serial,p.lost,ir,[],l2++[(ir,[])],l2.length,o++[(p,l2.length)],fun _=>⟨rfl,rfl,rfl,rfl,rfl,rfl⟩,fun q=>absurd hb q,
  by rw[Θ (χ _),Nat.sub_self];rfl,by simpa using ai,uE l2 o,ς _,fun N y=>h.step1 rfl hb N y⟩
 ·obtain⟨X,⟨q,i⟩,e⟩:∃X e,o=X++[e]:=⟨o.dropLast,o.getLast (fun q=>hb (.inr q)),(List.dropLast_concat_getLast _).symm⟩
  subst e;obtain⟨v,hv⟩:=h.ev _ _ (ζ h.hL) (q,i) (by simp);have hq:q∈cc p.thread J:=by rw[<-ad.1];simp
  refine⟨X.map (gk l2),q.thread,q.serial,q.lost,v,q.evs,l2,i,X++[(⟨q.thread,q.serial,q.lost,q.evs++p.evs⟩,i)],fun q=>absurd q hb,fun _=>⟨?_,rfl⟩,hv,by simp at ai⊢;omega,uE l2 X,b2 q hq,fun N y=>h.step2 Z (fun q=>hb (.inl q)) N y⟩;grind[gk,wJ]
def pt(L:PL):List (Int×D):=L.map fun p=>(p.1,.sl (p.2.map fun e=>e.1.c))
theorem H5{l:List (Value×List (List D))}(h:l.length=L.length):(pt L).length=(jt (L.map (·.1)) l).length:=by unfold pt jt;simp[h]
theorem lE.done{l:List (Value×List (List D))}{ad}(h:lE L l l2 ad)(i:Nat)(p X:Int×D)(h1:(jt (L.map (·.1)) l)[i]?=some p)(h2:(pt L)[i]?=some X):
 X.1=p.1∧∃(j:Nat)(v:Value)(es N:List (List D)),l[j]?=some (v,es)∧p.2=.v v∧X.2=.sl N∧Bm Ev.c l2 es N:=by
 unfold pt at h2;rw[τ,ν]at h2;obtain⟨⟨a,o⟩,hL,rfl⟩:=h2;obtain⟨x,hx⟩:=h.at_ i a o hL;unfold jt at h1;rw[τ,ν]at h1;obtain⟨⟨b,y⟩,hz,rfl⟩:=h1;rw[List.getElem?_zip_eq_some]at hz;obtain⟨J,M⟩:=hz;rw[τ,hL]at J;have M:l[i]?=some y:=M;rw[hx]at M;simp only[Option.map_some,Option.some.injEq]at J M;subst M;have J:a=b:=J;subst J;refine⟨rfl,i,x,_,_,hx,rfl,rfl,by simp,fun k e e' he O=>?_⟩;rw[τ,ν]at he O;obtain⟨q,hq,rfl⟩:=he;obtain⟨q',U,rfl⟩:=O;rw[hq]at U;cases U;refine⟨rfl,fun m d d' hd I=>?_⟩;obtain⟨v,hv⟩:=h.ev a o (ζ hL) q (ζ hq);have hr:gk l2 q=iW q.1.thread q.1.serial q.1.lost v:=by unfold gk wJ;rw[hv]
 rw[hr]at hd
 match m,hd,I with
 |0,hd,I=>simp at hd I;exact .inl (I.symm.trans hd)
 |1,hd,I=>simp at hd I;exact .inl (I.symm.trans hd)
 |2,hd,I=>simp at hd I;exact .inl (I.symm.trans hd)
 |3,hd,I=>simp at hd I;exact .inr ⟨q.2,q.1.evs,v,hv,hd.symm,I.symm⟩
 |m+4,hd,I=>simp at hd
theorem Gj(L:PL):(pt L).map (·.1)=L.map (·.1):=by unfold pt;rw[List.map_map];rfl
theorem lE.get{l I}(h:lE L l l2 I)(a):(cC (pt L) a).getD (.v ir)=if cc a I=[]then .v ir else .sl ((cc a I).map bH.c):=by
 have key:∀{M:PL},(M.map (·.1)).Nodup->(∀o:List (bH×Nat),(a,o)∈M->cC (pt M) a=some (.sl (o.map fun e=>e.1.c)))∧(a∉M.map (·.1)->cC (pt M) a=none):=by
  intro M
  induction M with
  |nil=>exact fun _=>⟨(fun o J=>by cases J),fun _=>rfl⟩
  |cons p r N=>grind[List.nodup_cons,cC,pt,oy.map,fG]
 obtain⟨k1,k2⟩:=key h.keys;by_cases hm:a∈L.map (·.1)
 ·obtain⟨⟨b,o⟩,J,rfl⟩:=R'.1 hm
  obtain⟨h1,h2⟩:=h.own b o J;rw[k1 o J,←h1,if_neg (by simpa using h2),List.map_map];rfl
 ·rw[k2 hm,if_pos (h.no a hm)];rfl
theorem lr{ids}:∀{I ps:List bH},fT ids I ps=0->∀p∈ps,cD p=0∧p.thread∈ids
 |_,[],_,_,hp=>by cases hp
 |I,q::r,h,p,hp=>by
   rw[fT]at h;split at h;·grind
   ·rename_i e
    split at h;·grind
    ·rename_i J
     split at h;·grind
     ·rcases N'.1 hp with rfl|hp
      ·grind
      ·exact lr h p hp
theorem rY:∀(ts:List GT)(seen:List Int),fE ts seen=0->seen.Nodup->(seen++ts.map GT.id).Nodup
 |[],seen,_,hn=>by simpa using hn
 |t::r,seen,h,hn=>by
   rw[fE]at h;split at h;·grind
   ·split at h
    ·grind
    ·rename_i q2
     have hm:t.id∉seen:=by simpa using q2
     have:=rY r (seen++[t.id]) h (by rw[List.nodup_append];exact⟨hn,by simp,fun a I b hb=>by simp at hb;subst hb;rintro rfl;exact hm I⟩);grind
theorem uz{ts:List GT}{ds sn}(h:dB ts ds sn=0):ts.length<=64∧(ts.map GT.id).Nodup:=by
 unfold dB at h;split at h;·grind
 ·split at h
  ·grind
  ·rename_i q
   split at h;·grind
   ·rename_i q2
    exact⟨by omega,by simpa using rY ts [] (by simpa using q2) List.nodup_nil⟩
theorem rW(ps:List bH)(I:ps.length<=8):∀{ts:List GT},ts.length<=64->(ts.flatMap fun t=>cc t.id ps).length<=512:=by
 have key:∀ts:List GT,(ts.flatMap fun t=>cc t.id ps).length<=8*ts.length:=by
  intro ts
  induction ts with
  |nil=>simp
  |cons t r J=>rw[List.flatMap_cons,υ,Ξ];have:=(iN t.id (rfl:ps.length=ps.length)).1;omega
 grind
def C2(g:Int×Int×Int):List D:=[ci g.1,ci g.2.1,ci g.2.2]
def gD(ps:List bH):List (Int×Int×Int):=(ps.filter fun p=>decide (0<p.lost)).map fun p=>(p.thread,p.serial-p.lost,p.lost)
def mE(l:dM):List (Int×Int×Int):=if gv l≠0 then[]else gD l.ps
theorem CQ(ps)(p:bH):gD (ps++[p])=if 0<p.lost then gD ps++[(p.thread,p.serial-p.lost,p.lost)]else gD ps:=by unfold gD;grind
def GT.gw(t:GT):dV:=⟨t.id,t.name⟩
theorem AP{own}{th:Int}(h:∀q∈own,q.thread=th)(hp:p.thread=th):∀q∈jP own p,q.thread=th:=by grind[jP,List.dropLast_sublist,List.mem_of_getLast?]
theorem x6(th ps):∀q∈cc th ps,q.thread=th:=by
 unfold cc;have key:∀(l own:List bH),(∀q∈own,q.thread=th)->(∀q∈l,q.thread=th)->∀q∈l.foldl jP own,q.thread=th:=by
  intro l
  induction l with
  |nil=>exact fun own h _=>h
  |cons p r I=>exact fun own h hl=>I _ (AP h (hl p Ψ)) fun q J=>hl q (ω _ J)
 grind
theorem CO{th:Int}(h:∀p∈ps,¬0<p.lost):(cc th ps).length<=1:=by
 unfold cc;have key:∀(l own:List bH),own.length<=1->(∀q∈l,¬0<q.lost)->(l.foldl jP own).length<=1:=by
  intro l
  induction l with
  |nil=>exact fun own h _=>h
  |cons p r I=>grind[List.mem_cons_of_mem,jP,List.mem_cons_self]
 grind
theorem yE(h:∀p∈ps,¬0<p.lost):∀ts:List GT,((ts.flatMap fun t=>cc t.id ps).map bH.thread).Sublist (ts.map GT.id)
 |[]=>by simp
 |t::r=>by
   rw[List.flatMap_cons,y',U'];have h1:=CO (th:=t.id) h;have h2:=x6 t.id ps;have I:=yE h r
   cases hp:cc t.id ps with
   |nil=>simpa using I.cons t.id
   |cons q s=>grind
theorem yS{ids}:∀{I ps:List bH},fT ids I ps=0->((I++ps).map bH.thread).Nodup->(∀p∈ps,¬0<p.lost)->∀p∈ps,p.serial=0∧p.lost=0
 |_,[],_,_,_,p,hp=>by cases hp
 |I,q::r,h,hn,hl,p,hp=>by
   rw[fT]at h;split at h;·rename_i e;exact absurd h e
   ·rename_i e
    split at h;·cases h
    ·split at h
     ·cases h
     ·rename_i M
      rcases N'.1 hp with rfl|hp
      ·have X:=eG (p:=p) (by simpa using e)
       have U:=hl p Ψ;have N:p.thread∉I.map bH.thread:=by rw[y',List.nodup_append]at hn;exact fun q=>hn.2.2 _ q p.thread (by simp) Z
       have he:fD I p.thread=(0,0):=by
        unfold fD;have:I.filter (fun q=>decide (q.thread=p.thread))=[]:=by rw[List.filter_eq_nil_iff];intro x J;simp;exact fun e=>N (R'.2 ⟨x,J,e⟩)
        rw[this];rfl
       rw[he]at M;have O:kN (0,0) p=true:=by simpa using M
       unfold kN at O;simp at O;omega
      ·exact yS h (by simpa using hn) (fun x J=>hl x (ω _ J)) p hp
theorem nX{l:dM}(h:gv l=0):dB l.ts l.ds l.sn=0∧fT (l.ts.map GT.id) [] l.ps=0∧(l.ts.flatMap fun t=>cc t.id l.ps)=l.ps:=by
 unfold gv at h;split at h;·cases h
 ·rename_i q
  have h1:dB l.ts l.ds l.sn=0:=by
   unfold ez at h;split at h;·rename_i e;exact absurd h e
   ·rename_i e;simpa using e
  have h2:fT (l.ts.map GT.id) [] l.ps=0:=by
   unfold ez at h;rw[if_neg (by simp[h1])]at h;split at h;·rename_i e;exact absurd h e
   ·rename_i e;simpa using e
  have h3:ez l.ts l.ds l.sn l.ps=(⟨l.ts,l.ds,l.sn,l.ts.flatMap fun t=>cc t.id l.ps⟩,0):=by unfold ez;rw[if_neg (by simp[h1]),if_neg (by simp[h2])]
  refine⟨h1,h2,?_⟩;rw[h3]at q;have q2:oU ⟨l.ts,l.ds,l.sn,l.ts.flatMap fun t=>cc t.id l.ps⟩ l=true:=by
   cases e:oU ⟨l.ts,l.ds,l.sn,l.ts.flatMap fun t=>cc t.id l.ps⟩ l with
   |true=>rfl
   |false=>exact absurd ⟨rfl,e⟩ q
  have q3:=(sh _ _).1 q2;exact congrArg dM.ps q3
theorem JG{l:dM}(h1:dB l.ts l.ds l.sn=0)(h2:fT (l.ts.map GT.id) [] l.ps=0)(h3:(l.ts.flatMap fun t=>cc t.id l.ps)=l.ps):gv l=0:=by
 have h:ez l.ts l.ds l.sn l.ps=(l,0):=by unfold ez;rw[if_neg (by simp[h1]),if_neg (by simp[h2]),h3]
 grind[gv,sh]
theorem Eb(h:¬gD ps≠[]):∀p∈ps,¬0<p.lost:=by grind[gD,List.map_eq_nil_iff,List.filter_eq_nil_iff]
structure iz(l:dM):Prop where
 ds:l.ds=gy
 sn:l.sn=[]
 dom:∀t∈l.ts,t.dom=0
 ok:DI (l.ts.map GT.gw) l.ps
 ck:gv l=0
 evs:∀p∈l.ps,∀e∈p.evs,dq e=0
 gw:∀p∈l.ps,0<=p.thread∧p.thread<=1000000000000000
theorem lq{ts:List GT}{ds sn}(h:dB ts ds sn=0):ts≠[]∧ts.length<=64∧fE ts []=0∧cJ ds sn=0∧kF ds ts=true:=by unfold dB at h;grind
theorem CU{l:dM}(U:gv l=0)(hd:¬(1<l.ds.length∨0<l.sn.length))(hg:¬gD l.ps≠[])(hT:total l.ps<=1000):iz l:=by
 obtain⟨h1,h2,h3⟩:=nX U;obtain⟨a1,a2,a3,a4,a5⟩:=lq h1;have hl:=Eb hg;have X:l.sn=[]:=A' (by omega);have I:l.ds=gy:=by
  unfold cJ at a4;split at a4;·cases a4
  ·rename_i q1
   split at a4;·cases a4
   ·split at a4
    ·cases a4
    ·rename_i q3
     have q3:l.ds.head?=some (0,0):=by simpa using q3
     cases I:l.ds with
     |nil=>exact absurd I q1
     |cons d r=>rw[I]at q3 hd;have:r=[]:=A' (by simp only[Ξ]at hd;omega);subst this;simp at q3;rw[q3];rfl
 have O:∀t∈l.ts,t.dom=0:=fun t ht=>by have:=I'.1 a5 t ht;rw[I]at this;unfold gE gy at this;simp at this;exact this.symm
 have J:=yE hl l.ts;rw[h3]at J;have ad:=(uz h1).2;have M:=yS h2 (by simpa using ad.sublist J) hl;have N:=lr h2;refine⟨I,X,O,⟨by rw[List.map_map];exact J,fun p hp=>?_,by unfold total at hT;omega⟩,U,fun p hp=>qg (eG (N p hp).1).2.2.2.2.2,fun p hp=>(eG (N p hp).1).1⟩;obtain⟨b1,b2,b3,b4,b5,_⟩:=eG (N p hp).1;exact⟨(M p hp).1,(M p hp).2,List.length_pos_iff.2 b4,b5⟩
theorem iz.gap{l:dM}(h:iz l)(hp:l.ps=[p]):gv ⟨l.ts,l.ds,l.sn,[⟨p.thread,2,2,p.evs⟩]⟩=0:=by
 obtain⟨h1,h2,h3⟩:=nX h.ck;have M:p∈l.ps:=by rw[hp];simp
 obtain⟨N,O⟩:=lr h2 p M;obtain⟨b1,b2,b3,X,b5,b6⟩:=eG N;obtain⟨c1,c2,_⟩:=h.ok.2.1 p M;have U:cD ⟨p.thread,2,2,p.evs⟩=0:=by have hw:IntKind.i64.wrap (2+(p.evs.length:Int))=2+(p.evs.length:Int):=wrap64 (by omega);unfold cD;rw[if_neg (by unfold fc;simp;omega),if_neg (by simp only;rw[hw];omega),if_neg X,if_neg (by simp only;omega)];exact b6
 have I:kN (fD [] p.thread) ⟨p.thread,2,2,p.evs⟩=true:=by
  have J:kN (fD [] p.thread) p=true:=by
   rw[hp,fT]at h2;rw[if_neg (by simp[N]),if_neg (by simp[O])]at h2;split at h2;·cases h2
   ·rename_i e;simpa using e
  unfold kN at J⊢;have e:fD [] p.thread=(0,0):=rfl;rw[e]at J⊢;simp at J⊢;exact J.2
 refine JG h1 ?_ ?_
 ·show fT (l.ts.map GT.id) [] [⟨p.thread,2,2,p.evs⟩]=0
  rw[fT,if_neg (by simp[U]),if_neg (by simp[O]),if_neg (by rw[I];simp)];rfl
 ·show(l.ts.flatMap fun t=>cc t.id [⟨p.thread,2,2,p.evs⟩])=[⟨p.thread,2,2,p.evs⟩]
  have e:∀a,cc a [⟨p.thread,2,2,p.evs⟩]=(cc a [p]).map fun q=>⟨q.thread,2,2,q.evs⟩:=fun a=>by
   unfold cc;by_cases q:p.thread=a;·simp[q,jP,c2]
   ·simp[q]
  simp only[e];rw[hp]at h3;have:=congrArg (List.map fun q:bH=>(⟨q.thread,2,2,q.evs⟩:bH)) h3;rw[List.map_flatMap]at this;exact this
def pz:List bH->Int->Int
 |[],n=>n
 |p::r,n=>pz r (IntKind.i64.wrap (n+p.evs.length))
def qR(l:dM):Bool:=decide (pz (l.ps.take 9) 0<=40)&&(decide (l.ps.length<=8)&&(decide (l.ts.length<=8)&&(decide (l.ds.length<=10)&&decide (l.sn.length<=20))))
theorem qN:∀(ps:List bH)(n:Nat),(∀p∈ps,p.evs.length<=1000)->n+1000*ps.length<=1000000->pz ps n=(n+total ps:Nat)
 |[],n,_,_=>by simp[pz,total]
 |p::r,n,h,hn=>by have hp:=h p Ψ;simp only[Ξ]at hn;rw[pz,wrap64 (by omega)];have:=qN r (n+p.evs.length) (fun q I=>h q (ω _ I)) (by omega);grind[total]
theorem zO{l:dM}(h:qR l=true):l.ps.length<=8∧((∀p∈l.ps,cD p=0)->total l.ps<=1000):=by unfold qR at h;simp only[μ,Δ]at h;refine⟨h.2.1,fun hp=>?_⟩;have h1:=h.1;rw[P' (by omega),show(0:Int)=((0:Nat):Int)from rfl,qN l.ps 0 (fun p q=>(eG (hp p q)).2.2.2.2.1) (by omega)]at h1;omega
theorem uW:∀{ts:List GT}{seen:List Int},fE ts seen=0->∀t∈ts,gQ t=0
 |[],_,_,t,I=>by cases I
 |u::r,seen,h,t,I=>by
   rw[fE]at h;split at h;·grind
   ·rename_i e
    split at h;·grind
    ·rcases N'.1 I with rfl|I
     ·grind
     ·exact uW h t I
theorem BG{t:GT}(h:gQ t=0):0<=t.id∧t.id<=1000000000000000∧cw t.name=0:=by grind[gQ]
theorem Ko{t:dV}(h0:0<=t.id)(h1:t.id<=1000000000000000)(I:cw t.name=0):(bp (mJ t)).length<=4000:=by
 have hid:eK t.id=true:=by unfold eK;simp;omega
 have J:=rT hid;have M:=vl t.name;have N:=(rh I).2;have O:(bp (tJ pM)).length=3:=by decide+kernel
 have q1:(cI (bg dZ)).length=4:=by decide+kernel
 have q2:(cI (bg cF)).length=5:=by decide+kernel
 have q3:(cI (bg cm)).length=6:=by decide+kernel
 have e:bp (mJ t)=123::(cv [dZ,cF,cm] [tJ pM,nJ t.id,tJ t.name] true++[125]):=by unfold mJ pW;simp only[bp];rfl
 rw[e,eQ,eQ,eQ];simp only[Ξ,υ,q1,q2,q3,cv,List.length_nil,if_true];grind
theorem iz.len{l:dM}(h:iz l):(bp (dQ (l.ts.map GT.gw) l.ps)).length<=1000000000000:=by
 obtain⟨h1,h2,h3⟩:=nX h.ck;obtain⟨U,a2,a3,a4,a5⟩:=lq h1;have hi:=rN (kU (l.ts.map GT.gw) l.ps) true (m:=4000) (fun x I=>by
  unfold kU at I;rcases D'.1 I with I|I
  ·obtain⟨t,J,rfl⟩:=R'.1 I
   obtain⟨u,hu,rfl⟩:=R'.1 J;obtain⟨b1,M,N⟩:=BG (uW a3 u hu);exact Ko b1 M N
  ·obtain⟨p,hp,I⟩:=List.mem_flatMap.1 I
   obtain⟨e,he,rfl⟩:=R'.1 I;obtain⟨f,O,hw,_⟩:=vO (h.evs p hp e he) p.thread;rw[hw];exact Jv O (h.evs p hp e he) (h.gw p hp).1 (h.gw p hp).2)
 have X:(kU (l.ts.map GT.gw) l.ps).length<=64+20000:=by unfold kU;have:=h.ok.2.2;grind[List.length_append,qX,List.length_map]
 have:(bp (dQ (l.ts.map GT.gw) l.ps)).length=(dI (kU (l.ts.map GT.gw) l.ps) true).length+2:=by simp[dQ,bp]
 omega
theorem iz.c{l:dM}(h:iz l):l.c=kV.c ⟨l.ts.map GT.gw,gy,l.ps⟩:=by
 have e:l.ts.map GT.c=(l.ts.map GT.gw).map dV.c:=by rw[List.map_map];refine List.map_congr_left fun t I=>?_;show[ci t.id,cs t.name,ci t.dom]=[ci t.id,cs t.name,ci 0];rw[h.dom t I]
 show[D.sl (l.ts.map GT.c),D.sl (l.ds.map dF),D.sl (l.sn.map Sn.c),D.sl (l.ps.map bH.c)]=_;rw[e,h.ds,h.sn];rfl
theorem Ij{x:gO}{t:dV}(h0:0<=t.id)(I:cw t.name=0)(hm:cC x.names t.id=none):fC x (mJ t)=(y9 x t.id t.name,0):=by
 obtain⟨g1,g2,g3⟩:=Ki t;have v1:cK (mJ t) dZ 4=tJ pM∧fk (mJ t) dZ 4=false:=by unfold cK fk oC;rw[g1];exact⟨rfl,rfl⟩
 have v2:cK (mJ t) cF 3=nJ t.id∧fk (mJ t) cF 3=false:=by unfold cK fk oC;rw[g2];exact⟨rfl,rfl⟩
 have v3:cK (mJ t) cm 4=tJ t.name∧fk (mJ t) cm 4=false:=by unfold cK fk oC;rw[g3];exact⟨rfl,rfl⟩
 have hb:db (mJ t) (dv (mJ t))=false:=by unfold db dv;rw[v1.2,v2.1,v2.2,show(mJ t).op=6 from rfl,show(nJ t.id).n=t.id from rfl,decide_eq_false (show ¬t.id<0 by omega)];rfl
 have J:iG (mJ t) sO=true:=by
  have:iG (.mk 6 0 cn pW []) sO=true:=by decide+kernel
  exact this
 unfold fC;rw[if_neg (by rw[hb];simp),v1.1,if_neg (fun h=>h rfl),hb,v3.2,J,if_neg (by simp),v3.1,show(tJ t.name).s=t.name from rfl,if_neg (fun h=>h I),v2.1,show(nJ t.id).n=t.id from rfl,hm,if_neg (by simp)]
theorem uq:∀(a b:List JV)(x:gO),(cO a x).2=0->cO (a++b) x=cO b (cO a x).1
 |[],b,x,_=>rfl
 |j::r,b,x,h=>by
   rw[List.cons_append,cO];rw[cO]at h;split at h;·grind
   ·rename_i q
    rw[if_neg q,uq r b _ h]
    conv=>rhs;rw[cO,if_neg q]
def mS(ts:List dV):List (Int×ByteArray):=ts.map fun t=>(t.id,t.name)
theorem EX:∀(a r:List dV),(∀t∈r,0<=t.id∧cw t.name=0)->((a++r).map dV.id).Nodup->cO (r.map mJ) ⟨a.map dV.id,mS a,[]⟩=(⟨(a++r).map dV.id,mS (a++r),[]⟩,0)
 |a,[],_,_=>by simp[cO]
 |a,t::r,h,hn=>by
   have J:t.id∉a.map dV.id:=by grind
   have I:∀p∈mS a,p.1≠t.id:=by intro p hp e;obtain⟨u,hu,rfl⟩:=R'.1 hp;grind
   obtain⟨h0,h1⟩:=h t List.mem_cons_self;have M:=Ij (x:=⟨a.map dV.id,mS a,[]⟩) h0 h1 (qT I);have hp:y9 ⟨a.map dV.id,mS a,[]⟩ t.id t.name=⟨(a++[t]).map dV.id,mS (a++[t]),[]⟩:=by grind[y9,fe,List.any_eq_true,iS,mS]
   have N:=EX (a++[t]) r (fun u hu=>h u (List.mem_cons_of_mem _ hu)) (by simpa using hn);grind[cO,List.append_assoc]
def lY(ps:List bH):List (Int×List Ev):=ps.map fun p=>(p.thread,p.evs)
theorem Bk{ids nm E}(h0:0<=id)(h1:id<=1000000000000000)(hi:id∈ids)(I:∀p∈E,p.1≠id):∀(l acc:List Ev),(∀e∈l,dq e=0)->
 cO (l.map (BR id)) ⟨ids,nm,if acc=[]then E else E++[(id,acc)]⟩=(⟨ids,nm,if acc++l=[]then E else E++[(id,acc++l)]⟩,0)
 |[],acc,_=>by rw[List.append_nil];rfl
 |e::r,acc,h=>by
   obtain⟨f,U,hw,_⟩:=vO (h e Ψ) id;have M:=Ku (x:=⟨ids,nm,if acc=[]then E else E++[(id,acc)]⟩) U (h e Ψ) h0 h1;rw[U',cO,hw,M,if_neg (by simp)];have J:fe ids id=ids:=by unfold fe;rw[if_pos];rw[F'];exact⟨id,hi,by simp⟩
   have hp:As ⟨ids,nm,if acc=[]then E else E++[(id,acc)]⟩ id e=⟨ids,nm,if acc++[e]=[]then E else E++[(id,acc++[e])]⟩:=by
    unfold As;rw[J];by_cases ha:acc=[]
    ·subst ha
     simp only[if_true,qT I,Option.getD_none,List.nil_append];rw[iS I];simp
    ·simp only[if_neg ha]
     have N:cC (E++[(id,acc)]) id=some acc:=by have:=Ew E id id acc;rw[iS I]at this;simpa using this
     have O:dm (E++[(id,acc)]) id (acc++[e])=E++[(id,acc++[e])]:=by
      clear N M h
      induction E with
      |nil=>simp[dm]
      |cons p s X=>rw[List.cons_append,dm,if_neg (I p Ψ),X (fun q hq=>I q (ω _ hq))];·rfl
     rw[N,Option.getD_some,O];simp
   have:=Bk h0 h1 hi I r (acc++[e]) (nm:=nm) fun x hx=>h x (ω _ hx);rw[hp,this,M'];rfl
theorem DT{ids nm}:∀(a r:List bH),(∀p∈r,0<=p.thread∧p.thread<=1000000000000000∧p.thread∈ids∧p.evs≠[]∧∀e∈p.evs,dq e=0)->((a++r).map bH.thread).Nodup->
 cO (r.flatMap nr) ⟨ids,nm,lY a⟩=(⟨ids,nm,lY (a++r)⟩,0)
 |a,[],_,_=>by simp[cO]
 |a,p::r,h,hn=>by
   obtain⟨h0,h1,h2,h3,h4⟩:=h p Ψ;have M:∀q∈lY a,q.1≠p.thread:=by intro q I e;obtain⟨u,hu,rfl⟩:=R'.1 I;rw[y',List.nodup_append]at hn;exact hn.2.2 _ (R'.2 ⟨u,hu,rfl⟩) p.thread (by simp) e
   have h5:=Bk h0 h1 h2 M p.evs [] (nm:=nm) h4;rw[if_pos rfl,List.nil_append,if_neg h3]at h5;have N:=DT (ids:=ids) (nm:=nm) (a++[p]) r (fun q I=>h q (ω _ I)) (by simpa using hn);have J:cO (nr p) ⟨ids,nm,lY a⟩=(⟨ids,nm,lY (a++[p])⟩,0):=by
    have e:lY a++[(p.thread,p.evs)]=lY (a++[p]):=by simp[lY]
    rw[<-e];exact h5
   rw[List.flatMap_cons,uq _ _ _ (by rw[J]),J,N,M'];rfl
theorem xV:∀{ts:List GT}{seen:List Int},fE ts seen=0->tf (ts.map GT.gw) seen=0
 |[],_,_=>rfl
 |t::r,seen,h=>by
   rw[fE]at h;split at h;·rename_i e;exact absurd h e
   ·rename_i e
    split at h;·cases h
    ·rename_i I
     have e:gQ t=0:=by simpa using e
     obtain⟨q1,q2,q3⟩:=BG e;rw[U',tf,if_neg,if_neg (by exact I)];·exact xV h
     ·show ¬zM ⟨t.id,t.name⟩≠0
      unfold zM;rw[if_neg (by show ¬(t.id<0∨1000000000000000<t.id);omega)];simp[q3]
theorem tQ:∀{ps:List bH},(∀p∈ps,jg p.evs none=0)->kq ps=0
 |[],_=>rfl
 |p::r,h=>by rw[kq,if_neg (by simp[h p Ψ])];exact tQ fun q I=>h q (ω _ I)
theorem iz.of{l:dM}(h:iz l):jQ (l.ts.map GT.gw) l.ps=(⟨l.ts.map GT.gw,gy,l.ps⟩,0):=by
 obtain⟨h1,h2,_⟩:=nX h.ck;obtain⟨I,a2,a3,_⟩:=lq h1;have J:qB (l.ts.map GT.gw)=0:=by grind[qB,List.length_map,xV]
 have M:kq l.ps=0:=tQ fun p hp=>(eG (lr h2 p hp).1).2.2.2.2.2;grind[jQ]
theorem xN(id):∀ps:List bH,cC (lY ps) id=(ps.find? fun p=>decide (p.thread=id)).map bH.evs
 |[]=>rfl
 |p::r=>by
   show cC ((p.thread,p.evs)::lY r) id=_;rw[fG,List.find?_cons];by_cases e:p.thread=id;·grind
   ·simp[e,xN id r]
theorem Hk{l:dM}(h:iz l):∃z:gO,cO (kU (l.ts.map GT.gw) l.ps) x0=(z,0)∧z.ids.map (jZ z)=l.ts.map GT.gw∧z.ids.flatMap (fX z)=l.ps:=by
 have U:=h.of;obtain⟨hh,_⟩:=Bn (by rw[U]:(jQ (l.ts.map GT.gw) l.ps).2=0);obtain⟨ok,_,a1⟩:=zn hh;generalize X:l.ts.map GT.gw=ts at*;have I:DI ts l.ps:=X▸h.ok;have J:=ok.2;have ad:=J.sublist I.1;have o1:=EX [] ts (fun t M=>⟨(ok.1 t M).1,(ok.1 t M).2.2⟩) (by simpa using J);have o2:=DT (ids:=ts.map dV.id) (nm:=mS ts) [] l.ps (fun p hp=>⟨(h.gw p hp).1,(h.gw p hp).2,I.1.subset (R'.2 ⟨p,hp,rfl⟩),List.length_pos_iff.1 (I.2.1 p hp).2.2.1,h.evs p hp⟩) (by simpa using ad);simp only[List.nil_append]at o1 o2;have ho:cO (kU ts l.ps) x0=(⟨ts.map dV.id,mS ts,lY l.ps⟩,0):=by have o1:cO (ts.map mJ) x0=(⟨ts.map dV.id,mS ts,[]⟩,0):=o1;unfold kU;rw[uq _ _ _ (by rw[o1]),o1];exact o2
 have e1:(ts.map dV.id).map (jZ ⟨ts.map dV.id,mS ts,lY l.ps⟩)=ts:=by
  rw[List.map_map]
  conv=>rhs;rw[<-List.map_id ts]
  refine List.map_congr_left fun t M=>?_;obtain⟨k,hk⟩:=ψ.1 M;have N:t.name≠cn:=by rintro q;have hn:=(ok.1 t M).2.2;rw[q]at hn;revert hn;decide+kernel
  have hg:cC (mS ts) t.id=some t.name:=wQ (l:=mS ts) (p:=(t.id,t.name)) (by unfold mS;rw[List.map_map];exact J) (j:=k) (by unfold mS;rw[τ,hk];rfl);show(⟨t.id,nameOf (mS ts) t.id⟩:dV)=t;unfold nameOf;rw[hg,Option.getD_some,if_neg N]
 have e2:(ts.map dV.id).flatMap (fX ⟨ts.map dV.id,mS ts,lY l.ps⟩)=l.ps:=by
  conv=>rhs;rw[<-qU I.1 J]
  unfold wM;rw[List.flatMap_map];refine congrArg (fun f=>List.flatMap f ts) (funext fun t=>?_);unfold fX;rw[xN]
  cases hf:l.ps.find? fun p=>decide (p.thread=t.id)with
  |none=>simp
  |some p=>
    have ai:=List.mem_of_find?_eq_some hf;have aj:p.thread=t.id:=by simpa using List.find?_some hf
    obtain⟨O,c2,c3,_⟩:=I.2.1 p ai;have N:p.evs≠[]:=List.length_pos_iff.1 c3;simp only[Option.map_some,Option.getD_some,if_neg N,Option.toList_some];rw[<-aj,←O];cases p;simp only at O c2;subst c2;rw[O]
 exact⟨_,ho,e1,e2⟩
theorem Gt{l:dM}(h:iz l)(I:b8 (dQ (l.ts.map GT.gw) l.ps) 1=0)(O:(bytesOf (bp (dQ (l.ts.map GT.gw) l.ps))).size<=65536):j7 (bytesOf (bp (dQ (l.ts.map GT.gw) l.ps)))=(⟨l.ts.map GT.gw,gy,l.ps⟩,0):=by obtain⟨z,J,M,N⟩:=Hk h;have hp:=ry I (x:=[]) (y:=[]) (by simp) (by simp);rw[List.nil_append,List.append_nil]at hp;unfold j7;rw[if_neg (by omega),dU,hp];show(if(dQ (l.ts.map GT.gw) l.ps).op≠5 then _ else if(cO (dQ (l.ts.map GT.gw) l.ps).kids x0).2≠0 then _ else _)=_;rw[if_neg (fun q=>q rfl),show(dQ (l.ts.map GT.gw) l.ps).kids=kU (l.ts.map GT.gw) l.ps from rfl,J,if_neg (fun q=>q rfl),M,N,h.of]
theorem iz.LA{l:dM}(h:iz l):mE l=[]:=by
 have e:gD l.ps=[]:=by unfold gD;rw[List.map_eq_nil_iff,List.filter_eq_nil_iff];intro p hp;have:=(h.ok.2.1 p hp).2.1;simp[this]
 unfold mE;rw[e];exact ite_self _
theorem iz.ez{l:dM}(h:iz l):Go.Tb.ez l.ts l.ds l.sn l.ps=(l,0):=by obtain⟨h1,h2,h3⟩:=nX h.ck;unfold Go.Tb.ez;rw[if_neg (by simp[h1]),if_neg (by simp[h2]),h3]
end Go.Tb
namespace Go.Ab
open Go.RowKit Go.MapKept
variable {w w':World}{tmps:Array Value}{pv:Nat→Nat→Prop}{x y:Operand}{t g i k e m j id b off gen d gen' clock sz J mt g2 t' cap d0:Nat}{P:Program}{Q':Exit→Act→World→Prop}{lv' lv gs order os:List Nat}{bs:List (Nat×Nat)}{parts:Array (Nat×Operand)}{fid:FuncId}{xs:Array Operand}{o:Oper}{fn:Func}{dst:Option Nat}{ops:Array Oper}{α ι H β:Type}{hole:Option Value}{R:Value→World→Prop}{want:Bool}{listed:Array Bool}{T ty:TypeId}{l1 l2:List Oper}{ids:List Int}{act:Act}
variable {es es2:List (List D)}{f:List (Nat×A)}{G:Gh}{a a':A}{st st':St}{l:List D}{args cells cq' caps cq cells' X:List A}{E E':En}{Q:Exit→St→Prop}{b1 I:List (List A)}{C:Ctx}
variable {rs:List RV}
variable {td ed:cV}
section
variable{n:Nat}{cd:Code}
variable{bx:List (Nat×List A)}
variable{γ:Type}{fn:γ→List D}
theorem bN.up{l2:List (Value×List γ)}(hb:∀(k:Nat)(p:Value×List γ),l2[k]?=some p->bN w pv p.1 (.sl (p.2.map fn))){v I}(O:Bm fn l2 es I)(h:bN w pv v (.sl es)):bN w pv v (.sl I):=by
 obtain⟨hlen,O⟩:=O
 cases h with
 |nil=>obtain rfl:=A' hlen;exact .nil
 |emp a cap hm=>obtain rfl:=A' hlen;exact .emp a cap hm
 |sl b off len cap sz _ u hl U hm hs hu X=>
   have old:∀{i:Nat}{J:List D},I[i]?=some J->∃e,es[i]?=some e:=fun{i J} h=>by grind
   refine .sl b off len cap sz I u (hlen.trans hl) U hm (fun i J M=>?_) hu fun i j J d' M N=>?_;·grind
   ·obtain⟨e,he⟩:=old M
    obtain⟨q1,q2⟩:=O i e J he M;have hj:j<e.length:=by rw[<-q1];exact(δ.1 N).1
    have hd:e[j]?=some e[j]:=by simp[hj]
    have h1:=X i j e _ he hd;rcases q2 j _ d' hd N with Z|⟨k,l,raw,t1,t2,rfl⟩
    ·grind
    ·rw[t2]at h1
     generalize u i j=x at h1;cases h1;grind
theorem J8(X jq s:Nat){M:List A}{g0 l2 I}(hl:look f s=some (.own g0 es))(hq:bh bx X=some M)(hj:M[jq]?=some (.gi g (gG fn l2 none)))(N:(lv.any fun h=>Nat.beq h g)=true)(O:Nat.blt s n=true)(hU:Bm fn l2 es I)(h:W P C n cd Q ⟨(s,.d (.sl I))::f,bx,lv,gen⟩):W P C n cd Q ⟨f,bx,lv,gen⟩:=by
 intro tmps w ⟨G,hs⟩;obtain⟨bs,_,_,ps,_,U⟩:=hs.ku hq hj N;obtain⟨x,hx,hr⟩:=hs.frame s _ hl
 cases hr with
 |own _ _ _ hd _ _=>have J:=hs.set (d:=s) (κ O) (v:=x) (a:=.d (.sl I)) (.d (hd.up (fun k p hp=>(U k p hp).1) hU));rw[fN hx]at J;exact h tmps w ⟨G,J⟩
end
end Go.Ab
namespace Go.Tb
open Go.Ab
structure eU where
 ser:Int
 lost:Int
 raw:Value
 evs:List Ev
def eU.row(th:Int)(x:eU):List D:=iW th x.ser x.lost x.raw
def eU.DH(x:eU):Value×List Ev:=(x.raw,x.evs)
def eU.nz(th:Int)(x:eU):bH:=⟨th,x.ser,x.lost,x.evs⟩
theorem eU.up(th)(L:List eU):Bm Ev.c (L.map eU.DH) (L.map (eU.row th)) ((L.map (eU.nz th)).map bH.c):=by
 refine⟨by simp,fun j e O he J=>?_⟩;simp only[τ,ν]at he J;obtain⟨x,M,rfl⟩:=he;obtain⟨y,⟨z,N,rfl⟩,rfl⟩:=J;rw[M]at N;cases N;refine⟨rfl,fun q d U hd I=>?_⟩
 match q with
 |0=>simp[eU.row,eU.nz]at hd I;exact .inl (I.symm.trans hd)
 |1=>simp[eU.row,eU.nz]at hd I;exact .inl (I.symm.trans hd)
 |2=>simp[eU.row,eU.nz]at hd I;exact .inl (I.symm.trans hd)
 |3=>simp[eU.row,eU.nz]at hd I;exact .inr ⟨j,x.evs,x.raw,by rw[τ,M];rfl,hd.symm,I.symm⟩
 |q+4=>simp[eU.row]at hd
def qi(m:List bH)(e:Ev):List bH:=match m.getLast? with
 |none=>m
 |some q=>m.dropLast++[⟨q.thread,q.serial,q.lost,q.evs++[e]⟩]
theorem nN(m)(q:bH)(e:Ev):qi (m++[q]) e=m++[⟨q.thread,q.serial,q.lost,q.evs++[e]⟩]:=by simp[qi]
def jU(own:List bH)(p:bH)(j:Nat):List bH:=if j=0 then own else jP own ⟨p.thread,p.serial,p.lost,p.evs.take j⟩
theorem FJ{own:List bH}{p:bH}{e:Ev}(he:p.evs[0]?=some e)(h:0<p.lost∨own=[]):jU own p 1=qi (own++[⟨p.thread,p.serial,p.lost,[]⟩]) e:=by
 have I:p.evs.take 1=[e]:=by rw[show(1:Nat)=0+1 from rfl,Φ,he];rfl
 unfold jU jP;rw[if_neg (by omega),nN,I];split;·rfl
 ·rename_i q
  obtain rfl:=h.resolve_left q;rfl
theorem Fj{own:List bH}{p:bH}{j:Nat}{e:Ev}(he:p.evs[j]?=some e)(h:j=0->¬(0<p.lost∨own=[])):jU own p (j+1)=qi (jU own p j) e:=by
 have I:p.evs.take (j+1)=p.evs.take j++[e]:=by rw[Φ,he];rfl
 unfold jU;rw[if_neg (by omega),I];unfold jP;split
 ·rename_i q
  rw[if_neg (fun e=>h e (.inl q)),nN]
 ·rename_i q
  cases hl:own.getLast? with
  |none=>have J:own=[]:=List.getLast?_eq_none_iff.1 hl;rw[if_neg (fun e=>h e (.inr J))];rfl
  |some r=>
    by_cases j0:j=0
    ·subst j0
     simp[qi,hl]
    ·simp[qi,j0]
theorem vg(own)(p:bH)(j):total (jU own p j)=total own+(p.evs.take j).length:=by grind[jU,jP,qy,List.getLast?_eq_none_iff,total,List.getLast?_eq_some_iff,conv]
theorem EG{m}{q:bH}(h:q∈m):q.evs.length<=total m:=by obtain⟨k,I⟩:=ψ.1 h;have:=qJ I;omega
theorem AW(th I):total (cc th I)<=total I:=by
 obtain⟨n,J⟩:∃n,I.length=n:=⟨_,rfl⟩
 induction n generalizing I with
 |zero=>obtain rfl:=A' J;exact χ _
 |succ n M=>
   obtain⟨p,r,rfl⟩:∃p r,I=r++[p]:=⟨I.getLast (by rintro rfl;simp at J),I.dropLast,(List.dropLast_concat_getLast _).symm⟩;have:=M r (by simpa using J);rw[iQ,qy];split
   ·have h:=vg (cc th r) p (p.evs.length+1)
    unfold jU at h;rw[if_neg (by omega),P' (by omega),show(⟨p.thread,p.serial,p.lost,p.evs⟩:bH)=p from rfl]at h;omega
   ·omega
theorem FR{own:List bH}{p:bH}(h:p.evs≠[]):jU own p p.evs.length=jP own p:=by unfold jU;simp_all
theorem IQ{own:List bH}{p:bH}{j:Nat}(h:0<j):jU own p j≠[]:=by
 unfold jU;rw[if_neg (by omega)];unfold jP;split;·simp
 ·split<;>simp
theorem Hf(own:List bH)(p:bH)(j):(jU own p j).length<=own.length+1:=by grind[jU,jP]
end Go.Tb
namespace Go.Proofs
open Go.Shelf
def Tryz.ub:Go.Shelf.Ren:=⟨fun|169=>90|n=>n,fun|70=>147|9=>9|0=>0|72=>150|37=>148|127=>201|3=>3|5=>5|n=>n,fun|n=>n⟩
theorem Tryz.HI:Go.Proofs.Lays.n169 Tryz.prog Tryz.ub:={
 mixed:=by kernel_rfl
 f169:=Tryz.func90.trans (congrArg some (by kernel_rfl))
 t0:=Tryz.underlying0
 a0:=Tryz.isAgg0
 z0:=Tryz.sizeOf0
 v0:=Tryz.zeroValue0
 t3:=Tryz.underlying3
 a3:=Tryz.isAgg3
 z3:=Tryz.sizeOf3
 v3:=Tryz.zeroValue3
 t9:=Tryz.underlying9
 a9:=Tryz.isAgg9
 z9:=Tryz.sizeOf9
 v9:=Tryz.zeroValue9
 t37:=Tryz.underlying148
 a37:=Tryz.isAgg148
 z37:=Tryz.sizeOf148
 v37:=Tryz.zeroValue148
 t70:=Tryz.underlying147
 a70:=Tryz.isAgg147
 z70:=Tryz.sizeOf147
 v70:=Tryz.zeroValue147
 t72:=Tryz.underlying150
 a72:=Tryz.isAgg150
 z72:=Tryz.sizeOf150
 v72:=Tryz.zeroValue150
 t127:=Tryz.underlying201
 a127:=Tryz.isAgg201
 z127:=Tryz.sizeOf201
 v127:=Tryz.zeroValue201}
theorem Tryz.tx:Builder.Extra Tryz.prog Tryz.ub:={
 sizeBuilder:=by kernel_rfl
 liesBuilder:=by kernel_rfl
 t5:=Tryz.underlying5
 a5:=Tryz.isAgg5
 z5:=Tryz.sizeOf5
 v5:=Tryz.zeroValue5
 infoByte:=by kernel_rfl
 cellsByte:=by kernel_rfl
 sizeByte:=by kernel_rfl
 neB5:=by decide}
open Go.RowKit in
theorem az(B b)(l:List UInt8)(w:World)(h:Lib.IsBuilder 150 5 B b (Lib.byteCells l) w)(I:B<=w.heap.size):
 Calls Tryz.prog 90 #[.pointer (some ⟨b,0,none⟩)] w fun e w'=>e=.returned (.string ⟨l.toArray⟩)∧Below B w w':=Any.Builder_String_any Tryz.HI Tryz.tx B b l w h I
def Tryz.zR:Go.Shelf.Ren:=⟨fun|171=>76|243=>123|246=>163|283=>180|284=>181|285=>182|286=>183|129=>192|317=>191|318=>193|319=>194|320=>195|337=>202|338=>203|n=>n,fun|3=>3|9=>9|2=>2|4=>4|171=>219|0=>0|53=>220|37=>148|5=>5|173=>223|212=>230|51=>231|20=>20|213=>232|46=>233|232=>248|233=>249|n=>n,fun|17=>1|18=>4|19=>5|n=>n⟩
theorem Tryz.Gk:Go.Proofs.LaysM.n171 Tryz.prog Tryz.zR:={
 mixed:=by kernel_rfl
 f129:=Tryz.func192.trans (congrArg some (by kernel_rfl))
 f171:=Tryz.func76.trans (congrArg some (by kernel_rfl))
 f243:=Tryz.func123.trans (congrArg some (by kernel_rfl))
 f246:=Tryz.func163.trans (congrArg some (by kernel_rfl))
 f283:=Tryz.func180.trans (congrArg some (by kernel_rfl))
 f284:=Tryz.func181.trans (congrArg some (by kernel_rfl))
 f285:=Tryz.func182.trans (congrArg some (by kernel_rfl))
 f286:=Tryz.func183.trans (congrArg some (by kernel_rfl))
 f317:=Tryz.func191.trans (congrArg some (by kernel_rfl))
 f318:=Tryz.func193.trans (congrArg some (by kernel_rfl))
 f319:=Tryz.func194.trans (congrArg some (by kernel_rfl))
 f320:=Tryz.func195.trans (congrArg some (by kernel_rfl))
 f337:=Tryz.func202.trans (congrArg some (by kernel_rfl))
 f338:=Tryz.func203.trans (congrArg some (by kernel_rfl))
 t0:=Tryz.underlying0
 a0:=Tryz.isAgg0
 z0:=Tryz.sizeOf0
 v0:=Tryz.zeroValue0
 t2:=Tryz.underlying2
 a2:=Tryz.isAgg2
 z2:=Tryz.sizeOf2
 v2:=Tryz.zeroValue2
 t3:=Tryz.underlying3
 a3:=Tryz.isAgg3
 z3:=Tryz.sizeOf3
 v3:=Tryz.zeroValue3
 t4:=Tryz.underlying4
 a4:=Tryz.isAgg4
 z4:=Tryz.sizeOf4
 v4:=Tryz.zeroValue4
 t5:=Tryz.underlying5
 a5:=Tryz.isAgg5
 z5:=Tryz.sizeOf5
 v5:=Tryz.zeroValue5
 t9:=Tryz.underlying9
 a9:=Tryz.isAgg9
 z9:=Tryz.sizeOf9
 v9:=Tryz.zeroValue9
 t20:=Tryz.underlying20
 a20:=Tryz.isAgg20
 z20:=Tryz.sizeOf20
 v20:=Tryz.zeroValue20
 t37:=Tryz.underlying148
 a37:=Tryz.isAgg148
 z37:=Tryz.sizeOf148
 v37:=Tryz.zeroValue148
 t46:=Tryz.underlying233
 a46:=Tryz.isAgg233
 z46:=Tryz.sizeOf233
 v46:=Tryz.zeroValue233
 t51:=Tryz.underlying231
 a51:=Tryz.isAgg231
 z51:=Tryz.sizeOf231
 v51:=Tryz.zeroValue231
 t53:=Tryz.underlying220
 a53:=Tryz.isAgg220
 z53:=Tryz.sizeOf220
 v53:=Tryz.zeroValue220
 t171:=Tryz.underlying219
 a171:=Tryz.isAgg219
 z171:=Tryz.sizeOf219
 v171:=Tryz.zeroValue219
 t173:=Tryz.underlying223
 a173:=Tryz.isAgg223
 z173:=Tryz.sizeOf223
 v173:=Tryz.zeroValue223
 t212:=Tryz.underlying230
 a212:=Tryz.isAgg230
 z212:=Tryz.sizeOf230
 v212:=Tryz.zeroValue230
 t213:=Tryz.underlying232
 a213:=Tryz.isAgg232
 z213:=Tryz.sizeOf232
 t232:=Tryz.underlying248
 a232:=Tryz.isAgg248
 z232:=Tryz.sizeOf248
 v232:=Tryz.zeroValue248
 t233:=Tryz.underlying249
 a233:=Tryz.isAgg249
 z233:=Tryz.sizeOf249
 v233:=Tryz.zeroValue249
 g17:=by kernel_rfl
 g18:=by kernel_rfl
 g19:=by kernel_rfl
 i0:=by kernel_rfl
 i2:=by kernel_rfl
 i3:=by kernel_rfl
 i4:=by kernel_rfl
 i5:=by kernel_rfl
 i9:=by kernel_rfl
 i20:=by kernel_rfl
 i37:=by kernel_rfl
 i46:=by kernel_rfl
 i51:=by kernel_rfl
 i53:=by kernel_rfl
 i171:=by kernel_rfl
 i173:=by kernel_rfl
 i212:=by kernel_rfl
 i232:=by kernel_rfl
 i233:=by kernel_rfl
 m17:=by kernel_rfl
 m18:=by kernel_rfl
 m19:=by kernel_rfl}
open Go.RowKit Go.Sort Go.Lib in
theorem aE(n)(h0:-9223372036854775808<=n)(h1:n<=9223372036854775807)(w:World)(I:Lib.TabIs Tryz.prog w "internal/strconv.uint64pow10" .u64 Lib.pow10Tab):
 Calls Tryz.prog 76 #[.int .i64 n] w fun e w'=>e=.returned (.string ⟨(Lib.itoa n).toArray⟩)∧∃k os,w'=grow (w.drewN k) os:=Any.strconv_Itoa Tryz.Gk n h0 h1 w I
def Tryz.yP:Go.Shelf.Ren:=⟨fun|172=>177|244=>189|245=>190|247=>197|279=>198|280=>199|281=>200|282=>201|287=>204|316=>205|171=>76|205=>206|321=>207|322=>208|243=>123|246=>163|283=>180|284=>181|285=>182|286=>183|129=>192|317=>191|318=>193|319=>194|320=>195|337=>202|338=>203|n=>n,fun|9=>9|3=>3|75=>196|76=>197|4=>4|5=>5|167=>236|37=>148|0=>0|85=>237|2=>2|168=>239|53=>220|175=>243|46=>233|210=>246|127=>201|145=>253|143=>251|21=>21|171=>219|173=>223|212=>230|51=>231|20=>20|213=>232|232=>248|233=>249|80=>152|n=>n,fun|15=>2|16=>3|17=>1|18=>4|19=>5|n=>n⟩
theorem Tryz.ui:Go.Proofs.LaysC.n172 Tryz.prog Tryz.yP:={
 mixed:=by kernel_rfl
 f129:=Tryz.func192.trans (congrArg some (by kernel_rfl))
 f171:=Tryz.func76.trans (congrArg some (by kernel_rfl))
 f172:=Tryz.func177.trans (congrArg some (by kernel_rfl))
 f205:=Tryz.func206.trans (congrArg some (by kernel_rfl))
 f243:=Tryz.func123.trans (congrArg some (by kernel_rfl))
 f244:=Tryz.func189.trans (congrArg some (by kernel_rfl))
 f245:=Tryz.func190.trans (congrArg some (by kernel_rfl))
 f246:=Tryz.func163.trans (congrArg some (by kernel_rfl))
 f247:=Tryz.func197.trans (congrArg some (by kernel_rfl))
 f279:=Tryz.func198.trans (congrArg some (by kernel_rfl))
 f280:=Tryz.func199.trans (congrArg some (by kernel_rfl))
 f281:=Tryz.func200.trans (congrArg some (by kernel_rfl))
 f282:=Tryz.func201.trans (congrArg some (by kernel_rfl))
 f283:=Tryz.func180.trans (congrArg some (by kernel_rfl))
 f284:=Tryz.func181.trans (congrArg some (by kernel_rfl))
 f285:=Tryz.func182.trans (congrArg some (by kernel_rfl))
 f286:=Tryz.func183.trans (congrArg some (by kernel_rfl))
 f287:=Tryz.func204.trans (congrArg some (by kernel_rfl))
 f316:=Tryz.func205.trans (congrArg some (by kernel_rfl))
 f317:=Tryz.func191.trans (congrArg some (by kernel_rfl))
 f318:=Tryz.func193.trans (congrArg some (by kernel_rfl))
 f319:=Tryz.func194.trans (congrArg some (by kernel_rfl))
 f320:=Tryz.func195.trans (congrArg some (by kernel_rfl))
 f321:=Tryz.func207.trans (congrArg some (by kernel_rfl))
 f322:=Tryz.func208.trans (congrArg some (by kernel_rfl))
 f337:=Tryz.func202.trans (congrArg some (by kernel_rfl))
 f338:=Tryz.func203.trans (congrArg some (by kernel_rfl))
 t0:=Tryz.underlying0
 a0:=Tryz.isAgg0
 z0:=Tryz.sizeOf0
 v0:=Tryz.zeroValue0
 t2:=Tryz.underlying2
 a2:=Tryz.isAgg2
 z2:=Tryz.sizeOf2
 v2:=Tryz.zeroValue2
 t3:=Tryz.underlying3
 a3:=Tryz.isAgg3
 z3:=Tryz.sizeOf3
 v3:=Tryz.zeroValue3
 t4:=Tryz.underlying4
 a4:=Tryz.isAgg4
 z4:=Tryz.sizeOf4
 v4:=Tryz.zeroValue4
 t5:=Tryz.underlying5
 a5:=Tryz.isAgg5
 z5:=Tryz.sizeOf5
 v5:=Tryz.zeroValue5
 t9:=Tryz.underlying9
 a9:=Tryz.isAgg9
 z9:=Tryz.sizeOf9
 v9:=Tryz.zeroValue9
 t20:=Tryz.underlying20
 a20:=Tryz.isAgg20
 z20:=Tryz.sizeOf20
 v20:=Tryz.zeroValue20
 t21:=Tryz.underlying21
 a21:=Tryz.isAgg21
 z21:=Tryz.sizeOf21
 v21:=Tryz.zeroValue21
 t37:=Tryz.underlying148
 a37:=Tryz.isAgg148
 z37:=Tryz.sizeOf148
 v37:=Tryz.zeroValue148
 t46:=Tryz.underlying233
 a46:=Tryz.isAgg233
 z46:=Tryz.sizeOf233
 v46:=Tryz.zeroValue233
 t51:=Tryz.underlying231
 a51:=Tryz.isAgg231
 z51:=Tryz.sizeOf231
 v51:=Tryz.zeroValue231
 t53:=Tryz.underlying220
 a53:=Tryz.isAgg220
 z53:=Tryz.sizeOf220
 v53:=Tryz.zeroValue220
 t75:=Tryz.underlying196
 a75:=Tryz.isAgg196
 z75:=Tryz.sizeOf196
 v75:=Tryz.zeroValue196
 t76:=Tryz.underlying197
 a76:=Tryz.isAgg197
 z76:=Tryz.sizeOf197
 v76:=Tryz.zeroValue197
 t85:=Tryz.underlying237
 a85:=Tryz.isAgg237
 z85:=Tryz.sizeOf237
 v85:=Tryz.zeroValue237
 t127:=Tryz.underlying201
 a127:=Tryz.isAgg201
 z127:=Tryz.sizeOf201
 v127:=Tryz.zeroValue201
 t143:=Tryz.underlying251
 a143:=Tryz.isAgg251
 z143:=Tryz.sizeOf251
 v143:=Tryz.zeroValue251
 t145:=Tryz.underlying253
 a145:=Tryz.isAgg253
 z145:=Tryz.sizeOf253
 v145:=Tryz.zeroValue253
 t167:=Tryz.underlying236
 a167:=Tryz.isAgg236
 z167:=Tryz.sizeOf236
 v167:=Tryz.zeroValue236
 t168:=Tryz.underlying239
 a168:=Tryz.isAgg239
 z168:=Tryz.sizeOf239
 v168:=Tryz.zeroValue239
 t171:=Tryz.underlying219
 a171:=Tryz.isAgg219
 z171:=Tryz.sizeOf219
 v171:=Tryz.zeroValue219
 t173:=Tryz.underlying223
 a173:=Tryz.isAgg223
 z173:=Tryz.sizeOf223
 v173:=Tryz.zeroValue223
 t175:=Tryz.underlying243
 a175:=Tryz.isAgg243
 z175:=Tryz.sizeOf243
 v175:=Tryz.zeroValue243
 t210:=Tryz.underlying246
 a210:=Tryz.isAgg246
 z210:=Tryz.sizeOf246
 v210:=Tryz.zeroValue246
 t212:=Tryz.underlying230
 a212:=Tryz.isAgg230
 z212:=Tryz.sizeOf230
 v212:=Tryz.zeroValue230
 t213:=Tryz.underlying232
 a213:=Tryz.isAgg232
 z213:=Tryz.sizeOf232
 t232:=Tryz.underlying248
 a232:=Tryz.isAgg248
 z232:=Tryz.sizeOf248
 v232:=Tryz.zeroValue248
 t233:=Tryz.underlying249
 a233:=Tryz.isAgg249
 z233:=Tryz.sizeOf249
 v233:=Tryz.zeroValue249
 g15:=by kernel_rfl
 g16:=by kernel_rfl
 g17:=by kernel_rfl
 g18:=by kernel_rfl
 g19:=by kernel_rfl
 t80:=Tryz.underlying152
 a80:=Tryz.isAgg152
 z80:=Tryz.sizeOf152
 v80:=Tryz.zeroValue152
 i0:=by kernel_rfl
 i2:=by kernel_rfl
 i3:=by kernel_rfl
 i4:=by kernel_rfl
 i5:=by kernel_rfl
 i9:=by kernel_rfl
 i20:=by kernel_rfl
 i21:=by kernel_rfl
 i37:=by kernel_rfl
 i46:=by kernel_rfl
 i51:=by kernel_rfl
 i53:=by kernel_rfl
 i75:=by kernel_rfl
 i76:=by kernel_rfl
 i80:=by kernel_rfl
 i85:=by kernel_rfl
 i127:=by kernel_rfl
 i143:=by kernel_rfl
 i145:=by kernel_rfl
 i167:=by kernel_rfl
 i168:=by kernel_rfl
 i171:=by kernel_rfl
 i173:=by kernel_rfl
 i175:=by kernel_rfl
 i210:=by kernel_rfl
 i212:=by kernel_rfl
 i232:=by kernel_rfl
 i233:=by kernel_rfl
 m15:=by kernel_rfl
 m16:=by kernel_rfl
 m17:=by kernel_rfl
 m18:=by kernel_rfl
 m19:=by kernel_rfl
 c0:=by kernel_rfl
 c2:=by kernel_rfl
 c3:=by kernel_rfl
 c4:=by kernel_rfl
 c5:=by kernel_rfl
 c9:=by kernel_rfl
 c20:=by kernel_rfl
 c21:=by kernel_rfl
 c37:=by kernel_rfl
 c46:=by kernel_rfl
 c51:=by kernel_rfl
 c53:=by kernel_rfl
 c75:=by kernel_rfl
 c76:=by kernel_rfl
 c80:=by kernel_rfl
 c85:=by kernel_rfl
 c127:=by kernel_rfl
 c143:=by kernel_rfl
 c145:=by kernel_rfl
 c167:=by kernel_rfl
 c168:=by kernel_rfl
 c171:=by kernel_rfl
 c173:=by kernel_rfl
 c175:=by kernel_rfl
 c210:=by kernel_rfl
 c212:=by kernel_rfl
 c213:=by kernel_rfl
 c232:=by kernel_rfl
 c233:=by kernel_rfl}
open Go.RowKit in
theorem aC(s:ByteArray)(I:s.size<=9223372036854775806)(v)(h:Lib.atoiAll s.data.toList=.ok v)(w):
 Calls Tryz.prog 177 #[.string s] w fun e w'=>e=.returned (.tuple #[.int .i64 v,.nilIface])∧(w'=w∨∃t,w'=Lib.bytesWorld w 5 t):=Any.strconv_Atoi_ok Tryz.ui s I v h w
open Go.RowKit in
theorem aw(s:ByteArray)(I:s.size<=281474976710656)(h:Lib.atoiAll s.data.toList=Lib.atoiAll [])(tp p)(w:World)(J:w.var? Tryz.prog "strconv.ErrSyntax" =some #[.iface tp p]):
 Calls Tryz.prog 177 #[.string s] w fun e w'=>∃N,e=.returned (.tuple #[.int .i64 0,.iface 239 (.pointer (some ⟨N,0,none⟩))])∧w.heap.size<=N∧w'.heap[N]?=some (.cells #[.string ⟨#[65,116,111,105]⟩,.string s,.iface tp p] 246 (0,0))∧Below w.heap.size w w':=Any.strconv_Atoi_syntax_var Tryz.ui s I h tp p w J
open Go.RowKit in
theorem ax(s:ByteArray)(I:s.size<=281474976710656)(h:Lib.atoiAll s.data.toList=.range)(tp p)(w:World)(J:w.var? Tryz.prog "strconv.ErrRange" =some #[.iface tp p]):
 Calls Tryz.prog 177 #[.string s] w fun e w'=>∃N,e=.returned (.tuple #[.int .i64 (Lib.atoiSat s.data.toList),.iface 239 (.pointer (some ⟨N,0,none⟩))])∧w.heap.size<=N∧w'.heap[N]?=some (.cells #[.string ⟨#[65,116,111,105]⟩,.string s,.iface tp p] 246 (0,0))∧Below w.heap.size w w':=Any.strconv_Atoi_range_var Tryz.ui s I h tp p w J
end Go.Proofs
namespace Go.Proofs.YtpiaiiopakafhaaGreatDoor
open Go.Ab
variable {l:List UInt8}{k i:Nat}{w:World}{b:UInt8}
variable {f:List (Nat×A)}
abbrev I4:List (Nat×cV):=[
 (2,⟨.int .i64,1,8,[.int .i64 0]⟩),
 (3,⟨.int .i64,1,8,[.int .i64 0]⟩),
 (4,⟨.bool,1,1,[.bool false]⟩),
 (5,⟨.int .u8,1,1,[.int .u8 0]⟩),
 (9,⟨.str,1,16,[.string ⟨#[]⟩]⟩),
 (12,⟨.int .u64,1,8,[.int .u64 0]⟩),
 (21,⟨.int .i32,1,4,[.int .i32 0]⟩),
 (23,⟨.slice 56,1,24,[.slice none 0 0]⟩),
 (24,⟨.slice 59,1,24,[.slice none 0 0]⟩),
 (25,⟨.slice 97,1,24,[.slice none 0 0]⟩),
 (27,⟨.st [(0,23, "Threads"),(1,24, "Domains"),(2,25, "Snaps")],3,72,[.slice none 0 0,.slice none 0 0,.slice none 0 0]⟩),
 (28,⟨.slice 61,1,24,[.slice none 0 0]⟩),
 (30,⟨.st [(0,27, "Head"),(3,28, "Parts")],4,96,[.slice none 0 0,.slice none 0 0,.slice none 0 0,.slice none 0 0]⟩),
 (31,⟨.int .i64,1,8,[.int .i64 0]⟩),
 (36,⟨.slice 86,1,24,[.slice none 0 0]⟩),
 (42,⟨.int .i64,1,8,[.int .i64 0]⟩),
 (43,⟨.slice 9,1,24,[.slice none 0 0]⟩),
 (44,⟨.slice 46,1,24,[.slice none 0 0]⟩),
 (46,⟨.st [(0,42, "Op"),(1,3, "N"),(2,9, "S"),(3,43, "Keys"),(4,44, "Kids")],5,80,[.int .i64 0,.int .i64 0,.string ⟨#[]⟩,.slice none 0 0,.slice none 0 0]⟩),
 (48,⟨.int .i64,1,8,[.int .i64 0]⟩),
 (50,⟨.st [(0,3, "At"),(1,48, "Kind"),(2,9, "Name"),(3,3, "N"),(4,3, "M"),(5,43, "Stack")],6,72,[.int .i64 0,.int .i64 0,.string ⟨#[]⟩,.int .i64 0,.int .i64 0,.slice none 0 0]⟩),
 (56,⟨.st [(0,3, "Id"),(1,9, "Name"),(2,3, "Domain")],3,32,[.int .i64 0,.string ⟨#[]⟩,.int .i64 0]⟩),
 (57,⟨.slice 50,1,24,[.slice none 0 0]⟩),
 (59,⟨.st [(0,3, "Id"),(1,3, "Ppm")],2,16,[.int .i64 0,.int .i64 0]⟩),
 (61,⟨.st [(0,3, "Thread"),(1,3, "Serial"),(2,3, "Lost"),(3,57, "Events")],4,48,[.int .i64 0,.int .i64 0,.int .i64 0,.slice none 0 0]⟩),
 (66,⟨.ptr 71,1,8,[.pointer none]⟩),
 (67,⟨.map 3 9,1,8,[.map none]⟩),
 (68,⟨.map 3 57,1,8,[.map none]⟩),
 (69,⟨.slice 3,1,24,[.slice none 0 0]⟩),
 (71,⟨.st [(0,69, "ids"),(1,67, "names"),(2,68, "events")],3,40,[.slice none 0 0,.map none,.map none]⟩),
 (77,⟨.slice 57,1,24,[.slice none 0 0]⟩),
 (86,⟨.st [(0,3, "Thread"),(1,3, "Serial"),(2,3, "Count")],3,24,[.int .i64 0,.int .i64 0,.int .i64 0]⟩),
 (95,⟨.st [(0,3, "Lo"),(1,3, "Hi")],2,16,[.int .i64 0,.int .i64 0]⟩),
 (97,⟨.st [(0,3, "A"),(1,3, "AtA"),(2,3, "B"),(3,95, "AtB")],5,40,[.int .i64 0,.int .i64 0,.int .i64 0,.int .i64 0,.int .i64 0]⟩),
 (100,⟨.ptr 102,1,8,[.pointer none]⟩),
 (102,⟨.st [(0,46, "j"),(5,4, "bad")],6,88,[.int .i64 0,.int .i64 0,.string ⟨#[]⟩,.slice none 0 0,.slice none 0 0,.bool false]⟩),
 (106,⟨.slice 108,1,24,[.slice none 0 0]⟩),
 (108,⟨.st [(0,9, "ph"),(1,48, "kind"),(2,4, "name"),(3,9, "n"),(4,9, "m"),(5,4, "hasStack")],6,72,[.string ⟨#[]⟩,.int .i64 0,.bool false,.string ⟨#[]⟩,.string ⟨#[]⟩,.bool false]⟩),
 (125,⟨.map 3 28,1,8,[.map none]⟩),
 (128,⟨.st [(0,3, "at"),(1,31, "why")],2,16,[.int .i64 0,.int .i64 0]⟩),
 (130,⟨.ptr 132,1,8,[.pointer none]⟩),
 (132,⟨.st [(0,9, "s"),(1,3, "at")],2,24,[.string ⟨#[]⟩,.int .i64 0]⟩),
 (138,⟨.ptr 140,1,8,[.pointer none]⟩),
 (140,⟨.st [(0,9, "S"),(1,3, "At"),(2,3, "Pos"),(3,31, "Err")],4,40,[.string ⟨#[]⟩,.int .i64 0,.int .i64 0,.int .i64 0]⟩),
 (147,⟨.ptr 150,1,8,[.pointer none]⟩),
 (148,⟨.slice 5,1,24,[.slice none 0 0]⟩),
 (150,⟨.st [(0,147, "addr"),(1,148, "buf")],2,32,[.pointer none,.slice none 0 0]⟩),
 (160,⟨.st [(0,9, "word"),(1,4, "name"),(2,4, "n"),(3,4, "m"),(4,4, "stack"),(5,3, "least"),(6,3, "most"),(7,3, "mLeast"),(8,3, "mMost")],9,56,[.string ⟨#[]⟩,.bool false,.bool false,.bool false,.bool false,.int .i64 0,.int .i64 0,.int .i64 0,.int .i64 0]⟩),
 (169,⟨.map 3 4,1,8,[.map none]⟩),
 (174,⟨.map 3 175,1,8,[.map none]⟩),
 (175,⟨.ptr 177,1,8,[.pointer none]⟩),
 (177,⟨.st [(0,3, "next"),(1,3, "last")],2,16,[.int .i64 0,.int .i64 0]⟩),
 (181,⟨.ptr 61,1,8,[.pointer none]⟩),
 (201,⟨.ptr 5,1,8,[.pointer none]⟩),
 (205,⟨.slice 160,1,24,[.slice none 0 0]⟩),
 (212,⟨.map 9 4,1,8,[.map none]⟩),
 (220,⟨.int .u64,1,8,[.int .u64 0]⟩),
 (231,⟨.int .u32,1,4,[.int .u32 0]⟩),
 (233,⟨.int .u64,1,8,[.int .u64 0]⟩),
 (236,⟨.int .i64,1,8,[.int .i64 0]⟩),
 (239,⟨.ptr 246,1,8,[.pointer none]⟩),
 (251,⟨.ptr 253,1,8,[.pointer none]⟩),
 (253,⟨.st [(0,9, "s")],1,16,[.string ⟨#[]⟩]⟩)]
theorem I1:I4.all (fun x=>zH Tryz.prog x.1 x.2)=true:=by kernel_rfl
abbrev aY:cG Tryz.prog:=⟨I4,I1,by kernel_rfl⟩
instance LL:Go.Ab.dw Tryz.prog:=⟨fun W=>qa Tryz.prog W⟩
section
variable{C:Ctx}{n:Nat}{ops:Array Oper}{Q:Exit→St→Prop}{rest:List Oper}{bx:List (Nat×List A)}{lv:List Nat}{gen d:Nat}{ty:TypeId}{pos:String}{af:Array Edge}{a:A}
theorem pE{op}(h:Bool.rec (motive:=fun _=>Option A) none (kA aY f bx op) (Nat.blt d n)=some a)(k:WO Tryz.prog C n ops Q rest ⟨(d,a)::f,bx,lv,gen⟩):WO Tryz.prog C n ops Q (⟨some d,op,ty,pos,af,none⟩::rest) ⟨f,bx,lv,gen⟩:=by
 cases hb:Nat.blt d n with
 |false=>rw[hb]at h;exact absurd h (by simp)
 |true=>rw[hb]at h;exact pu (ev aY h) hb k
theorem pR{t x}{td:cV}{l:List D}(I:bh aY.l t=some td)(J:td.k.agg=true)(M:av f x=some (.rowd l))(hl:l.length=td.n)(hd:Nat.blt d n=true)(k:WO Tryz.prog C n ops Q rest ⟨(d,.ag l)::f,bx,lv,gen⟩):WO Tryz.prog C n ops Q (⟨some d,.load t x,ty,pos,af,none⟩::rest) ⟨f,bx,lv,gen⟩:=pu (cS aY I J M hl) hd k
theorem pB{t x}{td:cV}{g}{l:List D}(I:bh aY.l t=some td)(J:td.k.agg=true)(M:av f x=some (.ptr g 0))(hb:bh bx g=some (l.map A.d))(hl:l.length=td.n)(hd:Nat.blt d n=true)(k:WO Tryz.prog C n ops Q rest ⟨(d,.ag l)::f,bx,lv,gen⟩):WO Tryz.prog C n ops Q (⟨some d,.load t x,ty,pos,af,none⟩::rest) ⟨f,bx,lv,gen⟩:=pu (cR aY I J M hb hl) hd k
theorem bb(k){l r f'}(h:runK aY n k l f bx=some (r,f'))(q:WO Tryz.prog C n ops Q r ⟨f',bx,lv,gen⟩):WO Tryz.prog C n ops Q l ⟨f,bx,lv,gen⟩:=FY aY k h q
theorem cu(k){l:List Oper}{id f'}(h:runK aY n k l f bx=some ([],f'))(q:Q .normal ⟨f',bx,lv,gen⟩):W Tryz.prog C n (.region id l.toArray false) Q ⟨f,bx,lv,gen⟩:=JB aY k h q
theorem aZ(k){l:List Oper}{id c f'}(h:runK aY n k l f bx=some ([],f'))(q:W Tryz.prog C n c Q ⟨f',bx,lv,gen⟩):W Tryz.prog C n (.seq (.region id l.toArray false) c) Q ⟨f,bx,lv,gen⟩:=Lq aY k h q
end
theorem Lz(W)(h:laidMet Tryz.prog Rows.chromeExportsRow.laid W):qa Tryz.prog W:=
 Dx (t:=230) (e:=220) (m:=20) (ti:=196) h (d:=Rows.laid_internal_strconv_uint64pow10) (.tail _ (.tail _ (.head _))) (by kernel_rfl) (by kernel_rfl) (by kernel_rfl) (by kernel_rfl) (by kernel_rfl) (by kernel_rfl)
  (nm:= "*errors.errorString") (nm':= "*errors.errorString") (.tail _ (.tail _ (.tail _ (.tail _ (.head _))))) (.tail _ (.tail _ (.tail _ (.head _)))) (by kernel_rfl) (by kernel_rfl) (by kernel_rfl)
open Go.Ab Go.Tb
set_option maxRecDepth 10000
set_option maxHeartbeats 1000000
attribute [local irreducible] W WO Pu QS QB QL QF QV cB CH QE
theorem Hp(n):bm Tryz.prog 143 [.d (.v (.int .i64 n))] (.d (.v (.bool (eK n)))) 0:=by
 refine bm.bW (n:=9) (ts:=[2]) Tryz.func143 (by kernel_rfl) Z Tryz.ntmps143 Tryz.results143 Z Z fun C hC I=>aZ 1 Z<|aa ?_;apply bJ;(case hb=>rfl);·repeat' first|refine b7 Z Z Z|refine bE Z Z ?_|refine bD Z Z Z Z ?_|refine pE Z ?_|refine ae ?_|(apply bU;(case hj=>rfl);(case hl=>rfl))
 refine qs (W.ret (QF.bl trivial Z ?_));simp[norm,bM,eK]
theorem Kp(n):bm Tryz.prog 172 [.d (.v (.int .i64 n))] (.d (.v (.bool (eK n)))) 0:=by
 refine bm.bW (n:=9) (ts:=[2]) Tryz.func172 (by kernel_rfl) Z Tryz.ntmps172 Tryz.results172 Z Z fun C hC I=>aZ 1 Z<|aa ?_;apply bJ;(case hb=>rfl);·repeat' first|refine b7 Z Z Z|refine bE Z Z ?_|refine bD Z Z Z Z ?_|refine pE Z ?_|refine ae ?_|(apply bU;(case hj=>rfl);(case hl=>rfl))
 refine qs (W.ret (QF.bl trivial Z ?_));simp[norm,bM,eK]
theorem Fi(fid caps)(I:Still caps)(p)(hp:∀x:ByteArray,bm Tryz.prog fid (.d (.v (.string x))::caps) (.d (.v (.bool (p x)))) 0)(l:List ByteArray):
 bm Tryz.prog 148 [.d (.sl (l.map sc)),.clo fid caps] (.d (.v (.int .i64 (idx (l.findIdx? p))))) 0:=by
 refine bm.bW (n:=19) (ts:=[4]) Tryz.func148 (by kernel_rfl) Z Tryz.ntmps148 Tryz.results148 Z Z fun C hC X=>aZ 1 Z<|aa<|aZ 3 Z<|W.block<|W.len (t:=0) Z Z<|fun hlen=>?_;try simp only[η,Ex.bG]at hlen
 refine W.ca (ι:={x:Nat//match x with|k=>k<=l.length∧c8 p l k})
  (fun x=>match x.1 with|k=>[(8,.d (.v (.int .i64 ((k:Nat):Int))))]) [(0,_),(1,_),(7,_)]
  (fun x=>match x.1 with|k=>[]) [] [] 0 (fun x=>match x.1 with|k=>l.length-k)
  [] ⟨0,?_⟩ Z ?_ ⟨rfl,(by first|rfl|exact I.2),rfl,(by first|rfl|exact I.2),rfl,(by first|rfl|exact I.2),trivial⟩ ?_ trivial Z ?_
 ·exact⟨ς _,c8.zero⟩
 ·repeat' constructor
 ·repeat' exact trivial
 rintro⟨k,U,M⟩;show W _ _ _ _ _ ⟨[(8,.d (.v (.int .i64 ((k:Nat):Int)))),(0,_),(1,_),(7,_)],[],[],0⟩;refine aZ 1 Z<|aa<|cr (l:=l) (k:=k) Z (by simp[Ex.bG,bo]) U (fun x N hd O=>?_)<|fun he hd=>?_;·
  refine ah<|qs<|aa<|W.block<|aZ 2 Z<|aa<|ab<|bb 3 Z<|pu (indexAddr aY Z Z Z Z Z Z (ε _) (bC (by assumption)) Z) Z<|bb 1 Z<|pu (bk Z Z (by rw[y',I.1 _ 3];rfl) (hp x) Z) Z<|ae<|qs<|bc Z (fun J=>?_)<|fun J=>?_;·
   refine aZ 2 Z<|W.ret<|bw<|be<|cE<|bw<|be<|QF.bl trivial Z ?_;simp only[norm,bM];rw[M.found N J];rfl
  refine ah<|bX<|qs<|cu 2 Z<|W.cg [] ⟨k+1,?_⟩ ?_ Z ?_ ⟨rfl,(by first|rfl|exact I.2),rfl,(by first|rfl|exact I.2),rfl,(by first|rfl|exact I.2),trivial⟩ ?_ trivial Z;·exact⟨O,M.step N J⟩
  ·dsimp only;omega
  ·repeat' first|exact trivial|refine⟨bF (by assumption) (by assumption),?_⟩
  repeat' exact trivial
 refine ak<|bP<|bQ<|bO<|qs<|aZ 1 Z<|W.ret<|QF.bl trivial Z ?_;simp only[norm,bM];rw[M.end_ he];rfl
theorem zQ(l:List ByteArray)(s):bm Tryz.prog 147 [.d (.sl (l.map sc)),.d (.v (.string s))] (.d (.v (.int .i64 (idx (l.findIdx? fun x=>decide (s=x)))))) 0:=by
 refine bm.bW (n:=19) (ts:=[4]) Tryz.func147 (by kernel_rfl) Z Tryz.ntmps147 Tryz.results147 Z Z fun C hC U=>aZ 1 Z<|aa<|aZ 3 Z<|W.block<|W.len (t:=0) Z Z<|fun hlen=>?_;try simp only[η,Ex.bG]at hlen
 refine W.ca (ι:={x:Nat//match x with|k=>k<=l.length∧c8 (fun x=>decide (s=x)) l k})
  (fun x=>match x.1 with|k=>[(8,.d (.v (.int .i64 ((k:Nat):Int))))]) [(0,_),(1,_),(7,_)]
  (fun x=>match x.1 with|k=>[]) [] [] 0 (fun x=>match x.1 with|k=>l.length-k)
  [] ⟨0,?_⟩ Z ?_ ⟨rfl,rfl,rfl,rfl,rfl,rfl,trivial⟩ ?_ trivial Z ?_
 ·exact⟨ς _,c8.zero⟩
 ·repeat' constructor
 ·repeat' exact trivial
 rintro⟨k,O,J⟩;show W _ _ _ _ _ ⟨[(8,.d (.v (.int .i64 ((k:Nat):Int)))),(0,_),(1,_),(7,_)],[],[],0⟩;refine aZ 1 Z<|aa<|cr (l:=l) (k:=k) Z (by simp[Ex.bG,bo]) O (fun x M hd N=>?_)<|fun he hd=>?_;·
  refine ah<|qs<|aa<|W.block<|aZ 2 Z<|aa<|ab<|bb 3 Z<|pu (indexAddr aY Z Z Z Z Z Z (ε _) (bC (by assumption)) Z) Z<|bb 2 Z<|ae<|qs<|bc Z (fun I=>?_)<|fun I=>?_;·
   refine aZ 2 Z<|W.ret<|bw<|be<|cE<|bw<|be<|QF.bl trivial Z ?_;simp only[norm,bM];rw[J.found M I];rfl
  refine ah<|bX<|qs<|cu 2 Z<|W.cg [] ⟨k+1,?_⟩ ?_ Z ?_ ⟨rfl,rfl,rfl,rfl,rfl,rfl,trivial⟩ ?_ trivial Z;·exact⟨N,J.step M I⟩
  ·dsimp only;omega
  ·repeat' first|exact trivial|refine⟨bF (by assumption) (by assumption),?_⟩
  repeat' exact trivial
 refine ak<|bP<|bQ<|bO<|qs<|aZ 1 Z<|W.ret<|QF.bl trivial Z ?_;simp only[norm,bM];rw[J.end_ he];rfl
theorem A1(l:List ByteArray)(s):bm Tryz.prog 99 [.d (.sl (l.map sc)),.d (.v (.string s))] (.d (.v (.bool (l.any fun x=>decide (s=x))))) 0:=by refine bm.bW (n:=9) (ts:=[4]) Tryz.func99 (by kernel_rfl) Z Tryz.ntmps99 Tryz.results99 Z Z fun C hC I=>?_;refine aZ 1 Z ?_;refine aa (ab (bb 2 Z ?_));refine pu (bk Z Z Z (zQ ..) Z) Z ?_;refine bb 2 Z ?_;refine ae (qs (W.ret (QF.bl trivial Z ?_)));simp only[norm,bM];rw[<-iM]
theorem wB(fid caps)(I:Still caps)(p)(hp:∀x:ByteArray,bm Tryz.prog fid (.d (.v (.string x))::caps) (.d (.v (.bool (p x)))) 0)(l:List ByteArray):
 bm Tryz.prog 97 [.d (.sl (l.map sc)),.clo fid caps] (.d (.v (.bool (l.any p)))) 0:=by
 refine bm.bW (n:=9) (ts:=[4]) Tryz.func97 (by kernel_rfl) Z Tryz.ntmps97 Tryz.results97 Z Z fun C hC J=>aZ 1 Z<|aa<|ab<|bb 2 Z<|pu (bk (args:=[.d (.sl (l.map sc)),.clo fid caps]) Z Z (by simp[conv,I.1 _ 2]) (Fi fid caps I p hp l) Z) Z<|bb 2 Z<|ae<|qs<|W.ret<|QF.bl trivial Z ?_;simp only[norm,bM];rw[<-iM]
theorem JE(s)(b:UInt8):bm Tryz.prog 161 [.d (.v (.string s)),.d (.v (.int .u8 b.toNat))] (.d (.v (.int .i64 (Lib.indexByte (bg s) b)))) 0:=by refine bm.bW (n:=8) (ts:=[4]) Tryz.func161 (by kernel_rfl) Z Tryz.ntmps161 Tryz.results161 Z Z fun C hC I=>?_;refine W.lj (t:=0) Z (fun hok=>?_);refine aZ 1 Z ?_;refine aa (ab (bb 2 Z ?_));refine pu (KY (vs:=[.string s,.int .u8 b.toNat]) Z Z (fun w=>(run_callFunc_extern Tryz.func179 (by kernel_rfl) (by kernel_rfl) (by kernel_rfl) (by kernel_rfl) #[.string s,.int .u8 b.toNat] w).trans (by rw[show(Extern.BytealgIndexByte.indexByte #[.string s,.int .u8 b.toNat]).run Tryz.prog w=_ from Lib.run_indexByteString s b.toNat w];rfl)) (yF hok _)) Z ?_;refine pE Z (ae (qs (W.ret (QF.bl trivial Z ?_))));simp[norm,bM,bg]
theorem Bv(s)(b:UInt8):bm Tryz.prog 119 [.d (.v (.string s)),.d (.v (.int .u8 b.toNat))] (.d (.v (.int .i64 (Lib.indexByte (bg s) b)))) 0:=by refine bm.bW (n:=8) (ts:=[4]) Tryz.func119 (by kernel_rfl) Z Tryz.ntmps119 Tryz.results119 Z Z fun C hC I=>?_;refine aZ 1 Z ?_;refine aa (ab (bb 2 Z ?_));refine pu (bk Z Z Z (JE ..) Z) Z ?_;refine pE Z (ae (qs (W.ret (QF.bl trivial Z ?_))));rfl
theorem Dw(b:UInt8):bm Tryz.prog 122 [.d (.v (.int .u8 b.toNat))] (.d (.v (.bool (gA b)))) 0:=by
 refine bm.bW (n:=30) (ts:=[2]) Tryz.func122 (by kernel_rfl) Z Tryz.ntmps122 Tryz.results122 Z Z fun C hC I=>aZ 1 Z<|aa ?_;apply bJ;(case hb=>rfl);·repeat' first|refine b7 Z Z Z|refine bE Z Z ?_|refine bD Z Z Z Z ?_|refine kn Z Z Z ?_|refine pE Z ?_|refine ae ?_|refine pu (bk Z Z Z (Bv ..) Z) Z ?_|(apply bU;(case hj=>rfl);(case hl=>rfl))
 refine qs (W.ret (QF.bl trivial Z ?_));simp only[norm,bM];rw[x5];simp only[gA,lower,marks];simp[bg];grind
theorem sZ(s):bm Tryz.prog 75 [.d (.v (.string s))] (.d (.v (.int .i64 (cw s)))) 0:=by
 refine bm.bW (n:=22) (ts:=[2]) Tryz.func75 (by kernel_rfl) Z Tryz.ntmps75 Tryz.results75 Z Z fun C hC U=>aZ 1 Z<|aa<|aa<|?_
 apply bJ;(case hb=>rfl);·repeat' first|refine b7 Z Z Z|refine bE Z Z ?_|refine bD Z Z Z Z ?_|refine pE Z ?_|refine ae ?_|(apply bU;(case hj=>rfl);(case hl=>rfl))
 refine qs (bc Z (fun J=>?_) (fun J=>?_));·
  refine aZ 1 Z<|W.ret<|be<|QF.bl trivial Z ?_;simp only[norm,bM];grind[cw,pF]
 refine ah<|qs<|aa<|aZ 3 Z<|W.block<|W.lj (t:=0) Z<|fun hok=>?_;have hlen:=kb hok
 refine W.ca (ι:={x:Nat//match x with|k=>k<=(bg s).length∧((bg s).drop k).all gA=(bg s).all gA})
  (fun x=>match x.1 with|k=>[(13,.d (.v (.int .i64 ((k:Nat):Int))))]) [(0,_),(12,_)]
  (fun x=>match x.1 with|k=>[]) [] [] 0 (fun x=>match x.1 with|k=>(bg s).length-k)
  [] ⟨0,?_⟩ Z ?_ ⟨rfl,rfl,rfl,rfl,trivial⟩ ?_ trivial Z ?_
 ·exact⟨ς _,rfl⟩
 ·repeat' constructor
 ·repeat' exact trivial
 rintro⟨k,O,I⟩;show W _ _ _ _ _ ⟨[(13,.d (.v (.int .i64 ((k:Nat):Int)))),(0,_),(12,_)],[],[],0⟩;refine aZ 1 Z<|aa<|cr (l:=bg s) (k:=k) Z (by simp[Ex.bG,bo]) O (fun b X hd M=>?_)<|fun he hd=>?_;·
  rw[hd,List.all_cons]at I;refine ah<|qs<|aa<|W.block<|aZ 2 Z<|aa<|ab<|bb 2 Z<|pu (eJ aY Z Z Z Z (ε _) (gx (by assumption))) Z<|pu (bk Z Z Z (Dw ..) Z) Z<|pE Z<|ae<|qs<|bc Z (fun N=>?_)<|fun N=>?_;·
   refine aZ 1 Z<|W.ret<|bw<|be<|cE<|bw<|be<|QF.bl trivial Z ?_;simp only[norm,bM];grind[cw,pF]
  refine ah<|bX<|qs<|cu 2 Z<|W.cg [] ⟨k+1,?_⟩ ?_ Z ?_ ⟨rfl,rfl,rfl,rfl,trivial⟩ ?_ trivial Z;·exact⟨M,by rw[<-I];simp_all⟩
  ·dsimp only;omega
  ·repeat' first|exact trivial|refine⟨bF (by assumption) (by assumption),?_⟩
  repeat' exact trivial
 rw[hd]at I;refine ak<|bP<|bQ<|bO<|qs<|aZ 1 Z<|W.ret<|QF.bl trivial Z ?_;simp only[norm,bM];grind[cw,pF]
def gB:ByteArray:=B #[48,49,50,51,52,53,54,55,56,57]
theorem tM{d}(h:d<10):gB.extract d (d+1)=⟨#[UInt8.ofNat (48+d)]⟩:=by
 have:∀i:Fin 10,gB.extract i.val (i.val+1)=⟨#[UInt8.ofNat (48+i.val)]⟩:=by decide+kernel
 exact this ⟨d,h⟩
theorem yQ(a b:ByteArray):(a++b).data.toList=a.data.toList++b.data.toList:=by simp
theorem fb{a b:ByteArray}(h:a.data.toList=b.data.toList):a=b:=by cases a;cases b;simp at h;exact congrArg _ h
theorem pf{n:Int}(h:n.natAbs<10^20):(eg n).size<=21:=by
 have e:(eg n).size=(Lib.itoa n).length:=Array.length_toList.symm;rw[e];rcases Int.lt_or_le n 0 with I|I
 ·rw[iT I,Ξ];have:=qL n.natAbs 19 h;omega
 rw[iu I];have:=qL n.toNat 19 (by omega);omega
theorem Kk{n:Int}(h0:-9223372036854775808<=n)(h1:n<=9223372036854775807)(N:10<=n.natAbs):∃d:Nat,d=n.natAbs%10∧d<10∧(n<0->n.tmod 10=-(d:Int))∧(0<=n->n.tmod 10=(d:Int))∧(n.tdiv 10).natAbs=n.natAbs/10∧
 (n<0->n.tdiv 10<0)∧(0<=n->0<=n.tdiv 10)∧(n.tdiv 10).natAbs*10<=n.natAbs∧-9223372036854775808<=n.tdiv 10∧n.tdiv 10<=9223372036854775807:=by
 have h4:(n.tdiv 10).natAbs=n.natAbs/10:=by rw[Int.natAbs_tdiv];rfl
 rcases Int.lt_or_le n 0 with J|J
 ·
  have e:n=-(n.natAbs:Int):=by omega
  have M:n.tdiv 10=-((n.natAbs/10:Nat):Int):=by
   conv=>lhs;rw[e]
   rw[Int.neg_tdiv];rfl
  have I:n.tmod 10=-((n.natAbs%10:Nat):Int):=by
   conv=>lhs;rw[e]
   rw[Int.neg_tmod];rfl
  exact⟨_,rfl,by omega,fun _=>I,fun h=>by omega,h4,fun _=>by omega,fun h=>by omega,by omega,by omega,by omega⟩
 have e:n=(n.natAbs:Int):=by omega
 have M:n.tdiv 10=((n.natAbs/10:Nat):Int):=by
  conv=>lhs;rw[e]
  rfl
 have I:n.tmod 10=((n.natAbs%10:Nat):Int):=by
  conv=>lhs;rw[e]
  rfl
 exact⟨_,rfl,by omega,fun h=>by omega,fun _=>I,h4,fun h=>by omega,fun _=>by omega,by omega,by omega,by omega⟩
theorem xW{n:Int}{a b}(hdiv:(n.tdiv 10).natAbs=n.natAbs/10)(h0:-9223372036854775808<=n)(h1:n<=9223372036854775807):(eg (n.tdiv 10)).size+(gB.extract a b).size<=9223372036854775807:=by
 have hp:(10:Nat)^20=100000000000000000000:=by decide
 have h2:=pf (n:=n.tdiv 10) (by omega);have h3:(gB.extract a b).size<=10:=by rw[ByteArray.size_extract,show gB.size=10 from rfl];omega
 omega
theorem lp(n ok):bm Tryz.prog 178 [.d (.v (.int .i64 n)),.d (.v (.bool ok))] (.tup [.d (.v (.int .i64 (if ok&&eK n then n else 0))),.d (.v (.bool (ok&&eK n)))]) 0:=by
 refine bm.bW (n:=14) (ts:=[4,5]) Tryz.func178 (by kernel_rfl) Z Tryz.ntmps178 Tryz.results178 Z Z fun C hC J=>aZ 2 Z<|aa<|aa<|?_
 apply bJ;(case hb=>rfl);·repeat' first|refine b7 Z Z Z|refine bE Z Z ?_|refine bD Z Z Z Z ?_|refine pE Z ?_|refine ae ?_|refine pu (bk Z Z Z (Hp ..) Z) Z ?_|(apply bU;(case hj=>rfl);(case hl=>rfl))
 refine qs (bc Z (fun I=>?_) (fun I=>?_));·
  refine aZ 2 Z<|W.ret<|be<|QF.bl trivial Z ?_;cases ok<;>cases h:eK n<;>simp_all[norm,kT,bM]
 refine ah<|qs<|aZ 3 Z<|W.ret<|QF.bl trivial Z ?_;cases ok<;>cases h:eK n<;>simp_all[norm,kT,bM]
theorem FC:∀(m:Nat)(n:Int),2*n.natAbs+(if n<0 then 1 else 0)<m→-9223372036854775808<=n->n<=9223372036854775807->bm Tryz.prog 31 [.d (.v (.int .i64 n))] (.d (.v (.string (eg n)))) 0:=by
 intro m
 induction m with
 |zero=>intro n h;omega
 |succ m ih=>
  intro n hm h0 h1;have hp:(10:Nat)^20=100000000000000000000:=by decide
  refine bm.bW (n:=38) (ts:=[2]) Tryz.func31 (by kernel_rfl) Z Tryz.ntmps31 Tryz.results31 Z Z fun C hC hG=>aZ 1 Z<|aa<|aa<|?_
  apply bJ;(case hb=>rfl);·repeat' first|refine b7 Z Z Z|refine bE Z Z ?_|refine bD Z Z Z Z ?_|refine pE Z ?_|refine ae ?_|(apply bU;(case hj=>rfl);(case hl=>rfl))
  refine qs (bc Z (fun h9=>?_) (fun h9=>?_));·
   have hn:n<0∧-10<n:=by simp at h9;omega
   have hs:(B #[45])++eg (-n)=eg n:=by refine fb ?_;rw[yQ,ia,ia,iT hn.1,iu (show 0≤-n by omega),show(-n).toNat=n.natAbs by omega];rfl
   refine aa<|ab<|pE Z<|pu (cW (ev aY Z) (y:=-n) (by rw[Int.zero_sub];exact wrap64 (by omega))) Z<|pu (bk Z Z Z (ih (-n) (by rw[if_pos hn.1]at hm;rw[if_neg (by omega)];omega) (by omega) (by omega)) Z) Z<|pu (jm (eY (p:=B #[45]) (q:=eg (-n)) Z Z (by have:=pf (n:=-n) (by omega);have:(B #[45]).size=1:=rfl;omega)) hs) Z<|pE Z<|ae<|qs<|W.ret<|be<|QF.bl trivial Z ?_;rfl
  have hn:¬(n<0∧-10<n):=by simp at h9;omega
  refine ah<|qs<|aa<|aa<|?_
  apply bJ;(case hb=>rfl);·repeat' first|refine b7 Z Z Z|refine bE Z Z ?_|refine bD Z Z Z Z ?_|refine pE Z ?_|refine ae ?_|(apply bU;(case hj=>rfl);(case hl=>rfl))
  refine qs (bc Z (fun O=>?_) (fun O=>?_));·
   have U:0<=n∧n<10:=by simp at O;omega
   have hs:gB.extract n.toNat (n+1).toNat=eg n:=by refine fb ?_;rw[show(n+1).toNat=n.toNat+1 by omega,tM (show n.toNat<10 by omega),ia,iu U.1,jy (by omega)]
   refine aa<|ab<|bb 2 Z<|pu (cW (ev aY Z) (wrap64 (by omega))) Z<|pu (jm (je (s:=gB) aY Z Z Z Z Z U.1 (by omega) (by rw[show gB.size=10 from rfl];omega)) hs) Z<|pE Z<|ae<|qs<|W.ret<|be<|QF.bl trivial Z ?_;rfl
  have U:¬(0<=n∧n<10):=by simp at O;omega
  obtain⟨d,hd,a7,X,ad,hdiv,a8,b0,b3,I,J⟩:=Kk h0 h1 (show 10<=n.natAbs by omega);have M:2*(n.tdiv 10).natAbs+(if n.tdiv 10<0 then 1 else 0)<m:=by split<;>split at hm<;>omega
  have aj:dy (.int .i64 (n.tmod 10))=true:=by
   have:-10<n.tmod 10∧n.tmod 10<10:=by
    rcases Int.lt_or_le n 0 with q|q
    ·rw[X q];omega
    rw[ad q];omega
   simp[dy,IntKind.min,IntKind.max,IntKind.signed,IntKind.bits];omega
  have hs:eg (n.tdiv 10)++gB.extract d (d+1)=eg n:=by
   refine fb ?_;rw[yQ,tM a7,ia,ia];rcases Int.lt_or_le n 0 with a1|a6
   ·rw[iT a1,iT (a8 a1),kZ (u:=n.natAbs) (by omega),hdiv,hd];rfl
   rw[iu a6,iu (b0 a6),kZ (u:=n.toNat) (by omega),show(n.tdiv 10).toNat=n.toNat/10 by omega,hd,show n.toNat%10=n.natAbs%10 by omega]
  refine ah<|qs<|aa<|ab<|pE Z<|pu (Lm (q:=10) Z Z (by decide) aj) Z<|pE Z<|ae<|qs<|aa<|aZ 2 Z<|bc Z (fun ai=>?_)<|fun ai=>?_;·
   have b2:n<0:=by
    rcases Int.lt_or_le n 0 with q|q
    ·exact q
    have:=ad q;simp at ai;omega
   have N:=X b2;refine ab<|pE Z<|pu (cW (ev aY Z) (y:=(d:Int)) (by rw[N,Int.zero_sub,Int.neg_neg];exact wrap64 (by omega))) Z<|pE Z<|ae<|qs<|aa<|W.dD aY (by kernel_rfl)<|br (ev aY Z) Z<|br (cW (JZ (q:=10) Z Z (by decide) (ie _ _)) (wrap64 ⟨I,J⟩)) Z<|br (bk Z Z Z (ih (n.tdiv 10) M I J) Z) Z<|br (cW (ev aY Z) (y:=(d:Int)) (by first|rfl|exact N)) Z<|br (cW (ev aY Z) (y:=(d:Int)) (by first|rfl|exact N)) Z<|br (cW (ev aY Z) (y:=((d+1:Nat):Int)) (show IntKind.i64.wrap ((d:Int)+1)=_ by rw[wrap64 (by omega)];rfl)) Z ?_;refine br (je (s:=gB) (l:=(d:Int)) (h:=((d+1:Nat):Int)) aY Z Z Z Z Z (by omega) (by omega) (by rw[show gB.size=10 from rfl];omega)) Z<|br (jm (eY Z Z (xW hdiv h0 h1)) hs) Z<|br (ev aY Z) Z<|ao<|qs<|W.ret<|QF.bl trivial Z ?_;rfl
  have N:n.tmod 10=(d:Int):=by
   rcases Int.lt_or_le n 0 with q|q
   ·have:=X q;simp at ai;omega
   exact ad q
  refine ah<|qs<|aa<|W.dD aY (by kernel_rfl)<|br (ev aY Z) Z<|br (cW (JZ (q:=10) Z Z (by decide) (ie _ _)) (wrap64 ⟨I,J⟩)) Z<|br (bk Z Z Z (ih (n.tdiv 10) M I J) Z) Z<|br (cW (ev aY Z) (y:=(d:Int)) (by first|rfl|exact N)) Z<|br (cW (ev aY Z) (y:=(d:Int)) (by first|rfl|exact N)) Z<|br (cW (ev aY Z) (y:=((d+1:Nat):Int)) (show IntKind.i64.wrap ((d:Int)+1)=_ by rw[wrap64 (by omega)];rfl)) Z<|br (je (s:=gB) (l:=(d:Int)) (h:=((d+1:Nat):Int)) aY Z Z Z Z Z (by omega) (by omega) (by rw[show gB.size=10 from rfl];omega)) Z<|br (jm (eY Z Z (xW hdiv h0 h1)) hs) Z<|br (ev aY Z) Z<|ao ?_;refine qs (W.ret (QF.bl trivial Z ?_));rfl
theorem E6(hu:mC Tryz.prog w):qa Tryz.prog w:=hu.num (fun _ h=>h)
theorem HL{n:Int}(h:n.natAbs<10^20):dy (.string (eg n))=true:=by have:=pf h;exact decide_eq_true (by simp only[maxLen];omega)
theorem IV{n:Int}(h0:-9223372036854775808<=n)(h1:n<=9223372036854775807):n.natAbs<10^20:=by
 have hp:(10:Nat)^20=100000000000000000000:=by decide
 omega
open Go.RowKit in
theorem H7(n)(h0:-9223372036854775808<=n)(h1:n<=9223372036854775807):bm Tryz.prog 76 [.d (.v (.int .i64 n))] (.d (.v (.string (eg n)))) 0:=
 bm.xJ (xs:=[.int .i64 n]) ⟨_,Tryz.func76,by kernel_rfl,by kernel_rfl⟩ fun w hu _=>(aE n h0 h1 w (E6 hu).1).mono fun e w'⟨he,k,os,hw⟩=>⟨_,he,hw▸Lib.below_grow _ w (χ _) k os,fun _ _ _=>.d (.v _ (HL (IV h0 h1)))⟩
theorem qc(n)(h0:-9223372036854775808<=n)(h1:n<=9223372036854775807):bm Tryz.prog 25 [.d (.v (.int .i64 n))] (.d (.v (.string (eg n)))) 0:=by refine bm.bW (n:=5) (ts:=[2]) Tryz.func25 (by kernel_rfl) Z Tryz.ntmps25 Tryz.results25 Z Z fun C hC I=>?_;refine aZ 1 Z ?_;refine aa (ab (pE Z (pu (bk Z Z Z ((H7 _ (by assumption) (by assumption))) Z) Z ?_)));refine pE Z (ae (qs (W.ret (QF.bl trivial Z ?_))));rfl
def Cu(s:ByteArray):A:=
 match Lib.atoiAll s.data.toList with
 |.ok v=>.tup [.d (.v (.int .i64 v)),.d (.v .nilIface)]
 |.range=>.tup [.d (.v (.int .i64 (Lib.atoiSat s.data.toList))),.ni]
 |_=>.tup [.d (.v (.int .i64 0)),.ni]
theorem Jw(l):dy (.int .i64 (Lib.atoiSat l))=true:=by unfold Lib.atoiSat;split<;>(try split)<;>decide
open Go.RowKit in
theorem HS(s:ByteArray)(hs:s.size<=281474976710656):bm Tryz.prog 177 [.d (.v (.string s))] (Cu s) 0:=
 bm.xJ (xs:=[.string s]) ⟨_,Tryz.func177,by kernel_rfl,by kernel_rfl⟩ fun w hu _=>by
  obtain⟨_,⟨t,p,h2⟩,t',I,h3⟩:=E6 hu;unfold Cu
  cases h:Lib.atoiAll s.data.toList with
  |ok v=>
   have hb:=Lib.atoiAll_bounds h;refine(aC s (by omega) v h w).mono fun e w'⟨he,hw⟩=>⟨_,he,?_,fun _ _ _=>wx (.d (.v _ ?_)) (.d (.v _ Z))⟩;·
    rcases hw with rfl|⟨t,rfl⟩
    ·exact Below.refl _ _
    exact Joins.below_bytesWorld _ w _ _ (χ _)
   simp[dy,IntKind.min,IntKind.max,IntKind.signed,IntKind.bits];omega
  |range=>exact(ax s hs h t' I w h3).mono fun e w'⟨N,he,_,_,hb⟩=>⟨_,he,hb,fun _ _ _=>wx (.d (.v _ (Jw _))) (.ni _ _)⟩
  |_=>exact(aw s hs h t p w h2).mono fun e w'⟨N,he,_,_,hb⟩=>⟨_,he,hb,fun _ _ _=>wx (.d (.v _ (by decide))) (.ni _ _)⟩
def nT:ByteArray:=B #[95,46,58,47,60,62,36,42,126,45]
theorem Db(b:UInt8):bm Tryz.prog 130 [.d (.v (.int .u8 b.toNat))] (.d (.v (.bool (gA b)))) 0:=by
 refine bm.bW (n:=38) (ts:=[2]) Tryz.func130 (by kernel_rfl) Z Tryz.ntmps130 Tryz.results130 Z Z fun C hC hG=>aZ 1 Z<|aa<|aa<|?_
 apply bJ;(case hb=>rfl);·repeat' first|refine b7 Z Z Z|refine bE Z Z ?_|refine bD Z Z Z Z ?_|refine kn Z Z Z ?_|refine pE Z ?_|refine ae ?_|(apply bU;(case hj=>rfl);(case hl=>rfl))
 refine qs (bc Z (fun M=>?_) (fun M=>?_));·
  have N:gA b=true:=by revert M;simp only[gA,lower];grind
  refine aZ 1 Z<|W.ret<|be<|QF.bl trivial Z ?_;rw[N];rfl
 have N:gA b=marks.any fun c=>decide (c=b):=by revert M;simp only[gA,lower];grind
 refine ah<|qs<|aZ 1 Z<|aa<|aZ 1 Z<|W.block ?_;have hlen:(bg nT).length<=maxLen:=by decide
 refine W.ca (ι:={x:Nat//match x with|k=>k<=(bg nT).length∧((bg nT).drop k).any (fun c=>decide (c=b))=marks.any (fun c=>decide (c=b))})
  (fun x=>match x.1 with|k=>[(4,.d (.v (.int .i64 ((k:Nat):Int))))]) [(0,_),(3,_)]
  (fun x=>match x.1 with|k=>[]) [] [] 0 (fun x=>match x.1 with|k=>(bg nT).length-k)
  [] ⟨0,?_⟩ Z ?_ ⟨rfl,rfl,rfl,rfl,trivial⟩ ?_ trivial Z ?_
 ·exact⟨ς _,rfl⟩
 ·repeat' constructor
 ·repeat' exact trivial
 rintro⟨k,U,J⟩;show W _ _ _ _ _ ⟨[(4,.d (.v (.int .i64 ((k:Nat):Int)))),(0,_),(3,_)],[],[],0⟩;refine aa<|aZ 4 Z<|cr (l:=bg nT) (k:=k) Z (by rfl) U (fun c X hd O=>?_)<|fun he hd=>?_;·
  rw[hd,List.any_cons]at J;refine ah<|qs<|aa<|W.block<|aa<|ab<|bb 2 Z<|pu (eJ (s:=nT) aY Z Z Z Z (ε _) (gx X)) Z<|bb 2 Z<|ae<|qs<|bc Z (fun I=>?_)<|fun I=>?_;·
   have I:decide (c=b)=true:=by simp at I⊢;exact UInt8.toNat_inj.1 (by omega)
   rw[I,Bool.true_or]at J;refine aZ 1 Z<|W.ret<|bw<|be<|cE<|bw<|be<|QF.bl trivial Z ?_;rw[N,←J];rfl
  have I:decide (c=b)=false:=by simp at I⊢;rintro rfl;exact I Z
  rw[I,Bool.false_or]at J;refine ah<|bX<|qs<|cu 3 Z<|W.cg [] ⟨k+1,?_⟩ ?_ Z ?_ ⟨rfl,rfl,rfl,rfl,trivial⟩ ?_ trivial Z;·exact⟨O,J⟩
  ·dsimp only;omega
  ·repeat' first|exact trivial|refine⟨bF (by assumption) (by assumption),?_⟩
  repeat' exact trivial
 rw[hd,List.any_nil]at J;refine ak<|bP<|bQ<|bO<|qs<|aZ 1 Z<|W.ret<|QF.bl trivial Z ?_;rw[N,←J];rfl
theorem E5(s:ByteArray):s.size<1↔s=B #[]:=by
 constructor;·
  intro h;obtain⟨l⟩:=s;have:l=#[]:=Array.eq_empty_of_size_eq_zero (by have:l.size<1:=h;omega);rw[this]
 rintro rfl;decide
theorem uP(s):bm Tryz.prog 80 [.d (.v (.string s))] (.d (.v (.int .i64 (cw s)))) 0:=by
 refine bm.bW (n:=23) (ts:=[2]) Tryz.func80 (by kernel_rfl) Z Tryz.ntmps80 Tryz.results80 Z Z fun C hC hG=>aZ 1 Z<|aa<|aa<|?_
 apply bJ;(case hb=>rfl);·repeat' first|refine b7 Z Z Z|refine bE Z Z ?_|refine bD Z Z Z Z ?_|refine pE Z ?_|refine ae ?_|(apply bU;(case hj=>rfl);(case hl=>rfl))
 refine qs (bc Z (fun I=>?_) (fun I=>?_));·
  have I:s=B #[]∨40<s.size:=by
   rw[<-E5];by_cases q:s.size<1;·exact .inl q
   have O:¬((s.size:Int)<1):=by omega
   simp[O]at I;exact .inr (by omega)
  have U:cw s=3:=by unfold cw;rw[if_pos (by grind)]
  refine aZ 1 Z<|W.ret<|be<|QF.bl trivial Z ?_;rw[U];rfl
 have I:¬(s=B #[]∨40<s.size):=by
  rw[<-E5];by_cases q:(s.size:Int)<1;·simp[q]at I
  simp[q]at I;omega
 refine ah<|qs<|aa<|aZ 1 Z<|W.block<|W.lj (t:=0) Z<|fun hok=>?_;have hlen:=kb hok
 refine W.ca (ι:={x:Nat//match x with|k=>k<=(bg s).length∧((bg s).drop k).all gA=(bg s).all gA})
  (fun x=>match x.1 with|k=>[(3,.d (.v (.int .i64 ((k:Nat):Int))))]) [(0,_)]
  (fun x=>match x.1 with|k=>[]) [] [] 0 (fun x=>match x.1 with|k=>(bg s).length-k)
  [] ⟨0,?_⟩ Z ?_ ⟨rfl,rfl,trivial⟩ ?_ trivial Z ?_
 ·exact⟨ς _,rfl⟩
 ·repeat' constructor
 ·repeat' exact trivial
 rintro⟨k,X,J⟩;show W _ _ _ _ _ ⟨[(3,.d (.v (.int .i64 ((k:Nat):Int)))),(0,_)],[],[],0⟩;refine aa<|aZ 4 Z<|cr (l:=bg s) (k:=k) Z (by simp[Ex.bG,bo]) X (fun b hx hd M=>?_)<|fun he hd=>?_;·
  rw[hd,List.all_cons]at J;refine ah<|qs<|aa<|W.block<|aa<|ab<|bb 2 Z<|pu (eJ aY Z Z Z Z (ε _) (gx (by assumption))) Z<|pu (bk Z Z Z (Db ..) Z) Z<|pE Z<|ae<|qs<|bc Z (fun N=>?_)<|fun N=>?_;·
   refine aZ 1 Z<|W.ret<|bw<|be<|cE<|bw<|be<|QF.bl trivial Z ?_;simp only[norm,bM];unfold cw;grind
  refine ah<|bX<|qs<|cu 3 Z<|W.cg [] ⟨k+1,?_⟩ ?_ Z ?_ ⟨rfl,rfl,trivial⟩ ?_ trivial Z;·exact⟨M,by rw[<-J];simp_all⟩
  ·dsimp only;omega
  ·repeat' first|exact trivial|refine⟨bF (by assumption) (by assumption),?_⟩
  repeat' exact trivial
 rw[hd]at J;refine ak<|bP<|bQ<|bO<|qs<|aZ 1 Z<|W.ret<|QF.bl trivial Z ?_;simp only[norm,bM];unfold cw;grind
theorem A9(s):cw s=0∨cw s=3:=by unfold cw;split<;>simp
theorem D8(l):bm Tryz.prog 150 [.d (.sl (xG l))] (.d (.v (.int .i64 (eC l)))) 0:=by
 refine bm.bW (n:=21) (ts:=[2]) Tryz.func150 (by kernel_rfl) Z Tryz.ntmps150 Tryz.results150 Z Z fun C hC hG=>aZ 1 Z<|aa<|aZ 3 Z<|bc Z (fun O=>?_)<|fun O=>?_;·
  have J:eC l=7:=by unfold eC;rw[if_pos (by simp at O;omega)]
  refine aZ 1 Z<|W.ret<|be<|QF.bl trivial Z ?_;rw[J];rfl
 have J:eC l=if l.any (fun s=>decide (cw s≠0))then 3 else 0:=by unfold eC;rw[if_neg (by simp at O;omega)]
 refine ah<|qs<|aa<|aZ 3 Z<|W.block<|W.len (t:=0) Z Z<|fun hlen=>?_;try simp only[η,Ex.bG]at hlen
 refine W.ca (ι:={x:Nat//match x with|k=>k<=l.length∧(l.drop k).any (fun s=>decide (cw s≠0))=l.any (fun s=>decide (cw s≠0))})
  (fun x=>match x.1 with|k=>[(11,.d (.v (.int .i64 ((k:Nat):Int))))]) [(9,_),(10,_)]
  (fun x=>match x.1 with|k=>[]) [] [] 0 (fun x=>match x.1 with|k=>l.length-k)
  [] ⟨0,?_⟩ Z ?_ ⟨rfl,rfl,rfl,rfl,trivial⟩ ?_ trivial Z ?_
 ·exact⟨ς _,rfl⟩
 ·repeat' constructor
 ·repeat' exact trivial
 rintro⟨k,X,I⟩;show W _ _ _ _ _ ⟨[(11,.d (.v (.int .i64 ((k:Nat):Int)))),(9,_),(10,_)],[],[],0⟩;refine aZ 1 Z<|aa<|cr (l:=l) (k:=k) Z (by simp[Ex.bG,bo]) X (fun s hx hd U=>?_)<|fun he hd=>?_;·
  rw[hd,List.any_cons]at I;refine ah<|qs<|aa<|W.block<|aa<|ab<|pu (indexAddr aY Z Z Z Z Z Z (ε _) (bC hx) Z) Z<|bb 2 Z<|ae<|qs<|aa<|ab<|pE Z<|pu (bk Z Z Z (sZ s) Z) Z<|pE Z<|ae<|qs<|aZ 2 Z<|bc Z (fun N=>?_)<|fun N=>?_;·
   have M:cw s=3:=by rcases A9 s with q|q<;>simp_all
   rw[M]at I;refine aZ 2 Z<|W.ret<|bw<|be<|cE<|bw<|be<|QF.bl trivial Z ?_;rw[J,←I];simp[norm,bM,M]
  have M:cw s=0:=by simpa using N
  rw[M]at I;refine ah<|bX<|qs<|cu 2 Z<|W.cg [] ⟨k+1,?_⟩ ?_ Z ?_ ⟨rfl,rfl,rfl,rfl,trivial⟩ ?_ trivial Z;·exact⟨U,by simpa using I⟩
  ·dsimp only;omega
  ·repeat' first|exact trivial|refine⟨bF (by assumption) (by assumption),?_⟩
  repeat' exact trivial
 rw[hd,List.any_nil]at I;refine ak<|bP<|bQ<|bO<|qs<|aZ 1 Z<|W.ret<|QF.bl trivial Z ?_;rw[J,←I];rfl
theorem vT(l):bm Tryz.prog 105 [.d (.sl (xG l))] (.d (.v (.int .i64 (eC l)))) 0:=by
 refine bm.bW (n:=19) (ts:=[2]) Tryz.func105 (by kernel_rfl) Z Tryz.ntmps105 Tryz.results105 Z Z fun C hC hG=>aZ 1 Z<|aa<|aZ 3 Z<|bc Z (fun N=>?_)<|fun N=>?_;·
  have J:eC l=7:=by unfold eC;rw[if_pos (by simp at N;omega)]
  refine aZ 1 Z<|W.ret<|be<|QF.bl trivial Z ?_;rw[J];rfl
 have J:eC l=if l.any (fun s=>decide (cw s≠0))then 3 else 0:=by unfold eC;rw[if_neg (by simp at N;omega)]
 refine ah<|qs<|aa<|aZ 1 Z<|W.block<|W.len (t:=0) Z Z<|fun hlen=>?_;try simp only[η,Ex.bG]at hlen
 refine W.ca (ι:={x:Nat//match x with|k=>k<=l.length∧(l.drop k).any (fun s=>decide (cw s≠0))=l.any (fun s=>decide (cw s≠0))})
  (fun x=>match x.1 with|k=>[(3,.d (.v (.int .i64 ((k:Nat):Int))))]) [(0,_)]
  (fun x=>match x.1 with|k=>[]) [] [] 0 (fun x=>match x.1 with|k=>l.length-k)
  [] ⟨0,?_⟩ Z ?_ ⟨rfl,rfl,trivial⟩ ?_ trivial Z ?_
 ·exact⟨ς _,rfl⟩
 ·repeat' constructor
 ·repeat' exact trivial
 rintro⟨k,X,I⟩;show W _ _ _ _ _ ⟨[(3,.d (.v (.int .i64 ((k:Nat):Int)))),(0,_)],[],[],0⟩;refine aa<|aZ 4 Z<|cr (l:=l) (k:=k) Z (by simp[Ex.bG,bo]) X (fun s hx hd U=>?_)<|fun he hd=>?_;·
  rw[hd,List.any_cons]at I;refine ah<|qs<|aa<|W.block<|aa<|ab<|bb 2 Z<|pu (indexAddr aY Z Z Z Z Z Z (ε _) (bC hx) Z) Z<|bb 1 Z<|pu (bk Z Z Z (uP s) Z) Z<|pE Z<|ae<|qs<|bc Z (fun M=>?_)<|fun M=>?_;·
   have O:cw s=3:=by rcases A9 s with q|q<;>simp_all
   rw[O]at I;refine aZ 1 Z<|W.ret<|bw<|be<|cE<|bw<|be<|QF.bl trivial Z ?_;rw[J,←I];rfl
  have O:cw s=0:=by simpa using M
  rw[O]at I;refine ah<|bX<|qs<|cu 3 Z<|W.cg [] ⟨k+1,?_⟩ ?_ Z ?_ ⟨rfl,rfl,trivial⟩ ?_ trivial Z;·exact⟨U,by simpa using I⟩
  ·dsimp only;omega
  ·repeat' first|exact trivial|refine⟨bF (by assumption) (by assumption),?_⟩
  repeat' exact trivial
 rw[hd,List.any_nil]at I;refine ak<|bP<|bQ<|bO<|qs<|aZ 1 Z<|W.ret<|QF.bl trivial Z ?_;rw[J,←I];rfl
theorem GV:bm Tryz.prog 149 [] (.d (.sl (wP.map xH.c))) 0:=by refine bm.bW (n:=15) (ts:=[0]) Tryz.func149 (by kernel_rfl) Z Tryz.ntmps149 Tryz.results149 Z Z fun C hC I=>?_;refine aZ 1 Z ?_;refine aa (ab (pu (build aY Z Z Z Z) Z ?_));refine pu (build aY Z Z Z Z) Z ?_;refine pu (build aY Z Z Z Z) Z ?_;refine pu (build aY Z Z Z Z) Z ?_;refine pu (build aY Z Z Z Z) Z ?_;refine pu (build aY Z Z Z Z) Z ?_;refine pu (build aY Z Z Z Z) Z ?_;refine pu (build aY Z Z Z Z) Z ?_;refine pu (build aY Z Z Z Z) Z ?_;refine pu (build aY Z Z Z Z) Z ?_;refine pu (build aY Z Z Z Z) Z ?_;refine pu (build aY Z Z Z Z) Z ?_;refine pu (build aY Z Z Z Z) Z ?_;refine pu (bZ aY Z Z Z Z Z Z Z Z Z) Z ?_;refine pE Z (ae (qs (W.ret (QF.bl trivial Z ?_))));rfl
theorem JF{k:Int}(h1:1<=k)(h2:k<13):wP[k.toNat]?=some (dh k):=by rcases kinds h1 h2 with h|h|h|h|h|h|h|h|h|h|h|h<;>subst h<;>rfl
theorem DM(k):bm Tryz.prog 100 [.d (.v (.int .i64 k))] (.tup [.ag (dh k).c,.d (.v (.bool (mI k)))]) 0:=by
 refine bm.dY aY (n:=19) (rs:=[.cell 2 160,.tmp 3]) Tryz.func100 (by kernel_rfl) Z Tryz.ntmps100 Tryz.results100 Z fun C hC N=>aa<|ab<|b9 aY Z Z Z<|pE Z<|ae<|qs<|aa<|ab<|pu (bk Z Z Z (GV ..) Z) Z<|pE Z<|ae<|qs<|aa<|aa<|?_
 apply bJ;(case hb=>rfl);·repeat' first|refine b7 Z Z Z|refine bE Z Z ?_|refine bD Z Z Z Z ?_|refine pE Z ?_|refine ae ?_|(apply bU;(case hj=>rfl);(case hl=>rfl))
 refine qs (bc Z (fun I=>?_) (fun I=>?_));·
  have J:dh k=Af∧mI k=false:=by
   have:k<1∨13<=k:=by simp at I;revert I;show _->_;intro h;simpa[wP]using h
   exact⟨by unfold dh;rw[if_pos this],by simp[mI];omega⟩
  refine aa<|ab<|pu (build aY Z Z Z Z) Z<|bt aY Z Z Z Z Z Z Z Z<|pE Z<|ae<|qs<|W.ret<|be<|QV.bl aY trivial Z ?_;rw[J.1,J.2];rfl
 have M:1<=k∧k<13:=by simp at I;simpa[wP]using I
 have J:mI k=true:=by simp[mI];omega
 refine ah<|qs<|aa<|ab<|bb 2 Z<|pu (indexAddr aY Z Z Z Z Z Z (by omega) (bC (JF M.1 M.2)) Z) Z<|bb 1 Z<|bt aY Z Z Z Z Z Z Z Z<|pE Z<|ae<|qs<|W.ret<|QV.bl aY trivial Z ?_;rw[J];rfl
theorem FE(f:xH)(e:Ev):bm Tryz.prog 101 [.ag f.c,.ag e.c] (.d (.v (.int .i64 (mZ f e)))) 0:=by
 refine bm.bW (n:=13) (ts:=[4]) Tryz.func101 (by kernel_rfl) Z Tryz.ntmps101 Tryz.results101 Z Z fun C hC J=>aa<|ab<|cz Z Z Z<|cz Z Z Z<|pE Z<|ae<|qs<|aa<|aZ 2 Z<|bc Z (fun I=>?_)<|fun I=>?_;·
  refine aa<|ab<|bb 2 Z<|pu (bk Z Z Z (sZ ..) Z) Z<|pE Z<|ae<|qs<|W.ret<|be<|QF.bl trivial Z ?_;simp only[norm,bM];grind[mZ]
 refine ah<|qs<|aa<|ab<|bb 2 Z<|pu (bk Z Z Z (D8 ..) Z) Z<|pE Z<|ae<|qs<|W.ret<|QF.bl trivial Z ?_;simp only[norm,bM];grind[mZ]
theorem jH(n lo hi):bm Tryz.prog 152 [.d (.v (.int .i64 n)),.d (.v (.int .i64 lo)),.d (.v (.int .i64 hi))] (.d (.v (.int .i64 (within n lo hi)))) 0:=by
 refine bm.bW (n:=15) (ts:=[6]) Tryz.func152 (by kernel_rfl) Z Tryz.ntmps152 Tryz.results152 Z Z fun C hC J=>aZ 1 Z<|aa<|aa<|?_
 apply bJ;(case hb=>rfl);·repeat' first|refine b7 Z Z Z|refine bE Z Z ?_|refine bD Z Z Z Z ?_|refine pE Z ?_|refine ae ?_|(apply bU;(case hj=>rfl);(case hl=>rfl))
 refine qs (bc Z (fun I=>?_) (fun I=>?_));·
  refine aZ 1 Z<|W.ret<|be<|QF.bl trivial Z ?_;simp only[norm,bM];grind[within]
 refine ah<|qs<|aZ 1 Z<|W.ret<|QF.bl trivial Z ?_;simp only[norm,bM];grind[within]
theorem FF(k):bm Tryz.prog 104 [.d (.v (.int .i64 k))] (.tup [.d (.v (.bool (oK k))),.d (.v (.bool (yk k))),.d (.v (.bool (x9 k))),.d (.v (.bool (lh k)))]) 0:=by
 refine bm.bW (n:=38) (ts:=[2,3,4,5]) Tryz.func104 (by kernel_rfl) Z Tryz.ntmps104 Tryz.results104 Z Z fun C hC I=>aZ 4 Z<|aa ?_;apply bJ;(case hb=>rfl);·repeat' first|refine b7 Z Z Z|refine bE Z Z ?_|refine bD Z Z Z Z ?_|refine pE Z ?_|refine ae ?_|(apply bU;(case hj=>rfl);(case hl=>rfl))
 refine qs<|aZ 3 Z<|aa ?_;apply bJ;(case hb=>rfl);·repeat' first|refine b7 Z Z Z|refine bE Z Z ?_|refine bD Z Z Z Z ?_|refine pE Z ?_|refine ae ?_|(apply bU;(case hj=>rfl);(case hl=>rfl))
 refine qs (aa ?_);apply bJ;(case hb=>rfl);·repeat' first|refine b7 Z Z Z|refine bE Z Z ?_|refine bD Z Z Z Z ?_|refine pE Z ?_|refine ae ?_|(apply bU;(case hj=>rfl);(case hl=>rfl))
 refine qs<|aZ 8 Z<|W.ret<|QF.bl trivial Z ?_;simp only[norm,kT,bM];simp only[oK,yk,x9,lh];grind
theorem mr(e:Ev):bm Tryz.prog 106 [.ag e.c] (.d (.v (.int .i64 (jV e)))) 0:=by
 refine bm.bW (n:=63) (ts:=[2]) Tryz.func106 (by kernel_rfl) Z Tryz.ntmps106 Tryz.results106 Z Z fun C hC hG=>aa<|ab<|cz Z Z Z<|pE Z<|ae<|qs<|aa<|aZ 2 Z<|W.block<|aa<|aZ 2 Z<|bc Z (fun I=>?_)<|fun I=>?_;·
  refine ah<|qs<|W.gr Z<|aZ 1 Z<|W.ret<|bw<|be<|QF.bl trivial Z ?_;simp only[norm,bM];grind[jV]
 refine aZ 2 Z<|bc Z (fun I=>?_)<|fun I=>?_;·
  refine ah<|qs<|W.gr Z<|aZ 1 Z<|W.ret<|bw<|be<|QF.bl trivial Z ?_;simp only[norm,bM];grind[jV]
 refine cu 2 Z<|qs<|bc Z (fun I=>?_)<|fun I=>?_;·
  refine aZ 1 Z<|W.ret<|bw<|be<|QF.bl trivial Z ?_;simp only[norm,bM];grind[jV]
 refine aZ 2 Z<|bc Z (fun J=>?_)<|fun J=>?_;·
  refine aa<|ab<|bb 2 Z<|pu (bk Z Z Z (jH ..) Z) Z<|pE Z<|ae<|qs<|W.ret<|bw<|be<|QF.bl trivial Z ?_;simp only[norm,bM];grind[jV]
 refine aZ 2 Z<|bc Z (fun M=>?_)<|fun M=>?_;·
  refine aa<|ab<|bb 2 Z<|pu (bk Z Z Z (jH ..) Z) Z<|pE Z<|ae<|qs<|W.ret<|bw<|be<|QF.bl trivial Z ?_;simp only[norm,bM];grind[jV]
 refine aZ 2 Z<|bc Z (fun N=>?_)<|fun N=>?_;·
  refine aa<|ab<|bb 2 Z<|pu (bk Z Z Z (jH ..) Z) Z<|pE Z<|ae<|qs<|W.ret<|bw<|be<|QF.bl trivial Z ?_;simp only[norm,bM];grind[jV]
 refine aZ 2 Z<|bc Z (fun O=>?_)<|fun O=>?_;·
  refine aa<|ab<|bb 2 Z<|pu (bk Z Z Z (jH ..) Z) Z<|pE Z<|ae<|qs<|aa<|aa<|?_
  apply bJ;(case hb=>rfl);·repeat' first|refine b7 Z Z Z|refine bE Z Z ?_|refine bD Z Z Z Z ?_|refine pE Z ?_|refine ae ?_|(apply bU;(case hj=>rfl);(case hl=>rfl))
  refine qs (bc Z (fun U=>?_) (fun U=>?_));·
   refine aa<|ab<|bb 2 Z<|pu (bk Z Z Z (jH ..) Z) Z<|pE Z<|ae<|qs<|W.ret<|be<|bw<|be<|QF.bl trivial Z ?_;simp only[norm,bM];grind[jV]
  refine ah<|qs<|aa<|aa<|?_
  apply bJ;(case hb=>rfl);·repeat' first|refine b7 Z Z Z|refine bE Z Z ?_|refine bD Z Z Z Z ?_|refine pE Z ?_|refine ae ?_|(apply bU;(case hj=>rfl);(case hl=>rfl))
  refine qs (bc Z (fun X=>?_) (fun X=>?_));·
   refine aZ 1 Z<|W.ret<|be<|bw<|be<|QF.bl trivial Z ?_;simp only[norm,bM];grind[jV]
  refine ah<|qs<|aZ 2 Z<|W.ret<|bw<|be<|QF.bl trivial Z ?_;simp only[norm,bM];grind[jV]
 refine ah<|bX<|qs<|aa<|ab<|bb 2 Z<|pu (bk Z Z Z (jH ..) Z) Z<|pE Z<|ae<|qs<|aa<|aa<|?_
 apply bJ;(case hb=>rfl);·repeat' first|refine b7 Z Z Z|refine bE Z Z ?_|refine bD Z Z Z Z ?_|refine pE Z ?_|refine ae ?_|(apply bU;(case hj=>rfl);(case hl=>rfl))
 refine qs (bc Z (fun ad=>?_) (fun ad=>?_));·
  refine aa<|ab<|bb 2 Z<|pu (bk Z Z Z (jH ..) Z) Z<|pE Z<|ae<|qs<|W.ret<|be<|QF.bl trivial Z ?_;simp only[norm,bM];grind[jV]
 refine ah<|qs<|aZ 2 Z<|W.ret<|QF.bl trivial Z ?_;simp only[norm,bM];grind[jV]
theorem F1(a b):bm Tryz.prog 66 [.d (.sl (xG a)),.d (.sl (xG b))] (.d (.v (.bool (decide (a=b))))) 0:=by
 refine bm.bW (n:=26) (ts:=[4]) Tryz.func66 (by kernel_rfl) Z Tryz.ntmps66 Tryz.results66 Z Z fun C hC hG=>aZ 1 Z<|aa<|aZ 5 Z<|bc Z (fun I=>?_)<|fun I=>?_;·
  have O:decide (a=b)=false:=by simp at I⊢;rintro rfl;simp at I
  refine aZ 1 Z<|W.ret<|be<|QF.bl trivial Z ?_;rw[O];rfl
 have hl:a.length=b.length:=by simp at I;omega
 refine ah<|qs<|aa<|aZ 1 Z<|W.block<|W.len (t:=0) Z Z<|fun hlen=>?_;try simp only[η,Ex.bG]at hlen
 refine W.ca (ι:={x:Nat//match x with|k=>k<=a.length∧decide (a.drop k=b.drop k)=decide (a=b)})
  (fun x=>match x.1 with|k=>[(5,.d (.v (.int .i64 ((k:Nat):Int))))]) [(0,_),(1,_)]
  (fun x=>match x.1 with|k=>[]) [] [] 0 (fun x=>match x.1 with|k=>a.length-k)
  [] ⟨0,?_⟩ Z ?_ ⟨rfl,rfl,rfl,rfl,trivial⟩ ?_ trivial Z ?_
 ·exact⟨ς _,rfl⟩
 ·repeat' constructor
 ·repeat' exact trivial
 rintro⟨k,hk,J⟩;show W _ _ _ _ _ ⟨[(5,.d (.v (.int .i64 ((k:Nat):Int)))),(0,_),(1,_)],[],[],0⟩;refine aa<|aZ 4 Z<|cr (l:=a) (k:=k) Z (by simp[Ex.bG,bo]) hk (fun x hx hd U=>?_)<|fun he hd=>?_;·
  obtain⟨y,hy,X⟩:=sr (l:=b) (k:=k) (by omega);rw[hd,X]at J;refine ah<|qs<|aa<|W.block<|aa<|W.dD aY (by kernel_rfl)<|br (ev aY Z) Z<|br (ev aY Z) Z<|br (indexAddr aY Z Z Z Z Z Z (ε _) (bC hx) Z) Z ?_
  refine br (ev aY Z) Z<|br (ev aY Z) Z<|br (ev aY Z) Z<|br (indexAddr aY Z Z Z Z Z Z (ε _) (bC hy) Z) Z ?_
  refine br (ev aY Z) Z<|br (ev aY Z) Z<|ao<|qs<|bc Z (fun M=>?_)<|fun M=>?_;·
   have N:x≠y:=by rintro rfl;simp at M
   have O:decide (a=b)=false:=by rw[<-J];simp[N]
   refine aZ 1 Z<|W.ret<|bw<|be<|cE<|bw<|be<|QF.bl trivial Z ?_;rw[O];rfl
  have N:x=y:=by simpa using M
  refine ah<|bX<|qs<|cu 3 Z<|W.cg [] ⟨k+1,?_⟩ ?_ Z ?_ ⟨rfl,rfl,rfl,rfl,trivial⟩ ?_ trivial Z;·
   refine⟨U,?_⟩;rw[<-J,N];simp
  ·dsimp only;omega
  ·repeat' first|exact trivial|refine⟨bF (by assumption) (by assumption),?_⟩
  repeat' exact trivial
 rw[hd,dropEnd (l:=b) (by omega)]at J;refine ak<|bP<|bQ<|bO<|qs<|aZ 1 Z<|W.ret<|QF.bl trivial Z ?_;rw[<-J];rfl
theorem Fy(a b):bm Tryz.prog 141 [.d (.sl (xG a)),.d (.sl (xG b))] (.d (.v (.bool (decide (a=b))))) 0:=by
 refine bm.bW (n:=26) (ts:=[4]) Tryz.func141 (by kernel_rfl) Z Tryz.ntmps141 Tryz.results141 Z Z fun C hC hG=>aZ 1 Z<|aa<|aZ 5 Z<|bc Z (fun I=>?_)<|fun I=>?_;·
  have O:decide (a=b)=false:=by simp at I⊢;rintro rfl;simp at I
  refine aZ 1 Z<|W.ret<|be<|QF.bl trivial Z ?_;rw[O];rfl
 have hl:a.length=b.length:=by simp at I;omega
 refine ah<|qs<|aa<|aZ 3 Z<|W.block<|W.len (t:=0) Z Z<|fun hlen=>?_;try simp only[η,Ex.bG]at hlen
 refine W.ca (ι:={x:Nat//match x with|k=>k<=a.length∧decide (a.drop k=b.drop k)=decide (a=b)})
  (fun x=>match x.1 with|k=>[(13,.d (.v (.int .i64 ((k:Nat):Int))))]) [(0,_),(1,_),(12,_)]
  (fun x=>match x.1 with|k=>[]) [] [] 0 (fun x=>match x.1 with|k=>a.length-k)
  [] ⟨0,?_⟩ Z ?_ ⟨rfl,rfl,rfl,rfl,rfl,rfl,trivial⟩ ?_ trivial Z ?_
 ·exact⟨ς _,rfl⟩
 ·repeat' constructor
 ·repeat' exact trivial
 rintro⟨k,hk,J⟩;show W _ _ _ _ _ ⟨[(13,.d (.v (.int .i64 ((k:Nat):Int)))),(0,_),(1,_),(12,_)],[],[],0⟩;refine aZ 1 Z<|aa<|cr (l:=a) (k:=k) Z (by simp[Ex.bG,bo]) hk (fun x hx hd U=>?_)<|fun he hd=>?_;·
  obtain⟨y,hy,X⟩:=sr (l:=b) (k:=k) (by omega);rw[hd,X]at J;refine ah<|qs<|aa<|W.block<|aZ 2 Z<|aa<|W.dD aY (by kernel_rfl)<|br (ev aY Z) Z<|br (ev aY Z) Z<|br (indexAddr aY Z Z Z Z Z Z (ε _) (bC hx) Z) Z ?_
  refine br (ev aY Z) Z<|br (ev aY Z) Z<|br (ev aY Z) Z<|br (indexAddr aY Z Z Z Z Z Z (ε _) (bC hy) Z) Z ?_
  refine br (ev aY Z) Z<|br (ev aY Z) Z<|ao<|qs<|bc Z (fun M=>?_)<|fun M=>?_;·
   have N:x≠y:=by rintro rfl;simp at M
   have O:decide (a=b)=false:=by rw[<-J];simp[N]
   refine aZ 1 Z<|W.ret<|bw<|be<|cE<|bw<|be<|QF.bl trivial Z ?_;rw[O];rfl
  have N:x=y:=by simpa using M
  refine ah<|bX<|qs<|cu 2 Z<|W.cg [] ⟨k+1,?_⟩ ?_ Z ?_ ⟨rfl,rfl,rfl,rfl,rfl,rfl,trivial⟩ ?_ trivial Z;·
   refine⟨U,?_⟩;rw[<-J,N];simp
  ·dsimp only;omega
  ·repeat' first|exact trivial|refine⟨bF (by assumption) (by assumption),?_⟩
  repeat' exact trivial
 rw[hd,dropEnd (l:=b) (by omega)]at J;refine ak<|bP<|bQ<|bO<|qs<|aZ 1 Z<|W.ret<|QF.bl trivial Z ?_;rw[<-J];rfl
def nf(a b:Ev):Bool:=decide (a.time=b.time)&&decide (a.kind=b.kind)&&decide (a.name=b.name)&&decide (a.n=b.n)&&decide (a.m=b.m)&&decide (a.stack=b.stack)
theorem vX(a b:Ev):nf a b=true↔a=b:=by
 cases a;cases b;simp only[nf,μ,Δ,Ev.mk.injEq];constructor;·rintro⟨⟨⟨⟨⟨h1,h2⟩,h3⟩,h4⟩,h5⟩,I⟩;exact⟨h1,h2,h3,h4,h5,I⟩
 rintro⟨h1,h2,h3,h4,h5,I⟩;exact⟨⟨⟨⟨⟨h1,h2⟩,h3⟩,h4⟩,h5⟩,I⟩
theorem Iw(a b:Ev):bm Tryz.prog 94 [.ag a.c,.ag b.c] (.d (.v (.bool (nf a b)))) 0:=by
 refine bm.bW (n:=45) (ts:=[4]) Tryz.func94 (by kernel_rfl) Z Tryz.ntmps94 Tryz.results94 Z Z fun C hC I=>aa<|ab<|cz Z Z Z<|cz Z Z Z<|pE Z<|ae<|qs<|aa ?_;apply bJ;(case hb=>rfl);·repeat' first|refine b7 Z Z Z|refine bE Z Z ?_|refine bD Z Z Z Z ?_|refine pE Z ?_|refine pu (bk Z Z Z (Fy ..) Z) Z ?_|refine ae ?_|(apply bU;(case hj=>rfl);(case hl=>rfl))
 refine qs (W.ret (QF.bl trivial Z ?_));simp only[norm,bM,nf];grind
theorem Gw(a b:Ev):bm Tryz.prog 21 [.ag a.c,.ag b.c] (.d (.v (.bool (nf a b)))) 0:=by
 refine bm.bW (n:=45) (ts:=[4]) Tryz.func21 (by kernel_rfl) Z Tryz.ntmps21 Tryz.results21 Z Z fun C hC I=>aa<|ab<|cz Z Z Z<|cz Z Z Z<|pE Z<|ae<|qs<|aa ?_;apply bJ;(case hb=>rfl);·repeat' first|refine b7 Z Z Z|refine bE Z Z ?_|refine bD Z Z Z Z ?_|refine pE Z ?_|refine pu (bk Z Z Z (F1 ..) Z) Z ?_|refine ae ?_|(apply bU;(case hj=>rfl);(case hl=>rfl))
 refine qs (W.ret (QF.bl trivial Z ?_));simp only[norm,bM,nf];grind
theorem xF(e:Ev):bm Tryz.prog 59 [.ag e.c] (.d (.v (.int .i64 (dq e)))) 0:=by
 refine bm.bW (n:=127) (ts:=[2]) Tryz.func59 (by kernel_rfl) Z Tryz.ntmps59 Tryz.results59 Z Z fun C hC X=>aa<|ab<|cz Z Z Z<|pE Z<|ae<|qs<|aa<|aa<|?_
 apply bJ;(case hb=>rfl);·repeat' first|refine b7 Z Z Z|refine bE Z Z ?_|refine bD Z Z Z Z ?_|refine pE Z ?_|refine ae ?_|(apply bU;(case hj=>rfl);(case hl=>rfl))
 refine qs (bc Z (fun J=>?_) (fun J=>?_));·
  refine aZ 1 Z<|W.ret<|be<|QF.bl trivial Z ?_;simp only[norm,bM];grind[dq]
 refine ah<|qs<|aa<|ab<|bb 2 Z<|pu (bk Z Z Z (DM ..) Z) Z<|bb 3 Z<|b9 aY Z Z Z<|bt aY Z Z Z Z Z Z Z Z<|pE Z<|ae<|qs<|aa<|aa<|?_
 apply bJ;(case hb=>rfl);·repeat' first|refine b7 Z Z Z|refine bE Z Z ?_|refine bD Z Z Z Z ?_|refine kn Z Z Z ?_|refine pE Z ?_|refine ae ?_|(apply bU;(case hj=>rfl);(case hl=>rfl))
 refine qs (bc Z (fun M=>?_) (fun M=>?_));·
  refine aZ 1 Z<|W.ret<|be<|QF.bl trivial Z ?_;simp only[norm,bM];grind[dq]
 refine ah<|qs<|aa<|aa<|ab<|bb 2 Z ?_
 refine pu (bk Z Z Z (FE ..) Z) Z<|pE Z<|ae<|qs<|aZ 2 Z<|bc Z (fun N=>?_)<|fun N=>?_;·
  refine aZ 2 Z<|W.ret<|be<|QF.bl trivial Z ?_;simp only[norm,bM];grind[dq]
 refine ah (qs (aa (W.block (aa ?_))));apply bJ;(case hb=>rfl);·repeat' first|refine b7 Z Z Z|refine bE Z Z ?_|refine bD Z Z Z Z ?_|refine kn Z Z Z ?_|refine pE Z ?_|refine ae ?_|(apply bU;(case hj=>rfl);(case hl=>rfl))
 refine qs (bc Z (fun O=>?_) (fun O=>?_));·
  refine aZ 1 Z<|W.ret<|bw<|be<|QF.bl trivial Z ?_;simp only[norm,bM];grind[dq]
 refine aa ?_;apply bJ;(case hb=>rfl);·repeat' first|refine b7 Z Z Z|refine bE Z Z ?_|refine bD Z Z Z Z ?_|refine pE Z ?_|refine ae ?_|(apply bU;(case hj=>rfl);(case hl=>rfl))
 refine qs (bc Z (fun U=>?_) (fun U=>?_));·
  refine aZ 1 Z<|W.ret<|bw<|be<|QF.bl trivial Z ?_;simp only[norm,bM];grind[dq]
 refine aa ?_;apply bJ;(case hb=>rfl);·repeat' first|refine b7 Z Z Z|refine bE Z Z ?_|refine bD Z Z Z Z ?_|refine kn Z Z Z ?_|refine pE Z ?_|refine ae ?_|(apply bU;(case hj=>rfl);(case hl=>rfl))
 refine qs (bc Z (fun I=>?_) (fun I=>?_));·
  refine aZ 1 Z<|W.ret<|bw<|be<|QF.bl trivial Z ?_;simp only[norm,bM];grind[dq]
 refine ah<|bX<|qs<|aZ 1 Z<|W.ret<|QF.bl trivial Z ?_;simp only[norm,bM];grind[dq]
theorem EA(e:Ev):bm Tryz.prog 65 [.ag e.c] (.d (.v (.int .i64 (dq e)))) 0:=by
 rw[<-ET];refine bm.bW (n:=80) (ts:=[2]) Tryz.func65 (by kernel_rfl) Z Tryz.ntmps65 Tryz.results65 Z Z fun C hC X=>aa<|ab<|cz Z Z Z<|pE Z<|ae<|qs<|aa<|aa<|?_
 apply bJ;(case hb=>rfl);·repeat' first|refine b7 Z Z Z|refine bE Z Z ?_|refine bD Z Z Z Z ?_|refine pE Z ?_|refine ae ?_|(apply bU;(case hj=>rfl);(case hl=>rfl))
 refine qs (bc Z (fun M=>?_) (fun M=>?_));·
  refine aZ 1 Z<|W.ret<|be<|QF.bl trivial Z ?_;simp only[norm,bM];grind[jn]
 refine ah<|qs<|aa<|aa<|?_
 apply bJ;(case hb=>rfl);·repeat' first|refine b7 Z Z Z|refine bE Z Z ?_|refine bD Z Z Z Z ?_|refine pE Z ?_|refine ae ?_|(apply bU;(case hj=>rfl);(case hl=>rfl))
 refine qs (bc Z (fun N=>?_) (fun N=>?_));·
  refine aZ 1 Z<|W.ret<|be<|QF.bl trivial Z ?_;simp only[norm,bM];grind[jn]
 refine ah<|qs<|aa<|ab<|bb 2 Z<|pu (bk Z Z Z (FF ..) Z) Z<|bb 9 Z<|ae<|qs<|aa<|aa<|?_
 apply bJ;(case hb=>rfl);·repeat' first|refine b7 Z Z Z|refine bE Z Z ?_|refine bD Z Z Z Z ?_|refine kn Z Z Z ?_|refine pE Z ?_|refine ae ?_|(apply bU;(case hj=>rfl);(case hl=>rfl))
 refine qs (bc Z (fun O=>?_) (fun O=>?_));·
  refine aZ 1 Z<|W.ret<|be<|QF.bl trivial Z ?_;simp only[norm,bM];grind[jn]
 refine ah<|qs<|aZ 1 Z<|aa<|aZ 1 Z<|bc Z (fun U=>?_)<|fun U=>?_;·
  refine ab<|bb 2 Z<|pu (bk Z Z Z (uP ..) Z) Z<|pE Z<|ae<|qs<|aa<|aZ 1 Z<|bc Z (fun J=>?_)<|fun J=>?_;·
   refine ab<|bb 2 Z<|pu (bk Z Z Z (vT ..) Z) Z<|pE Z<|ae<|qs<|aa<|aZ 2 Z<|bc Z (fun I=>?_)<|fun I=>?_;·
    refine aZ 2 Z<|W.ret<|be<|QF.bl trivial Z ?_;simp only[norm,bM];grind[jn]
   refine ah<|qs<|aa<|ab<|bb 1 Z<|pu (bk Z Z Z (mr ..) Z) Z<|pE Z<|ae<|qs<|W.ret<|QF.bl trivial Z ?_;simp only[norm,bM];grind[jn]
  refine ah<|qs<|aa<|aZ 2 Z<|bc Z (fun I=>?_)<|fun I=>?_;·
   refine aZ 2 Z<|W.ret<|be<|QF.bl trivial Z ?_;simp only[norm,bM];grind[jn]
  refine ah<|qs<|aa<|ab<|bb 1 Z<|pu (bk Z Z Z (mr ..) Z) Z<|pE Z<|ae<|qs<|W.ret<|QF.bl trivial Z ?_;simp only[norm,bM];grind[jn]
 refine ah<|qs<|aa<|aZ 1 Z<|bc Z (fun J=>?_)<|fun J=>?_;·
  refine ab<|bb 2 Z<|pu (bk Z Z Z (vT ..) Z) Z<|pE Z<|ae<|qs<|aa<|aZ 2 Z<|bc Z (fun I=>?_)<|fun I=>?_;·
   refine aZ 2 Z<|W.ret<|be<|QF.bl trivial Z ?_;simp only[norm,bM];grind[jn]
  refine ah<|qs<|aa<|ab<|bb 1 Z<|pu (bk Z Z Z (mr ..) Z) Z<|pE Z<|ae<|qs<|W.ret<|QF.bl trivial Z ?_;simp only[norm,bM];grind[jn]
 refine ah<|qs<|aa<|aZ 2 Z<|bc Z (fun I=>?_)<|fun I=>?_;·
  refine aZ 2 Z<|W.ret<|be<|QF.bl trivial Z ?_;simp only[norm,bM];grind[jn]
 refine ah<|qs<|aa<|ab<|bb 1 Z<|pu (bk Z Z Z (mr ..) Z) Z<|pE Z<|ae<|qs<|W.ret<|QF.bl trivial Z ?_;simp only[norm,bM];grind[jn]
theorem Ft(s:ByteArray)(v)(h:Lib.atoiAll s.data.toList=.ok v):jR s=(if(if eg v=s then true else false)&&eK v then(v,true)else(0,false)):=by unfold jR;rw[h];by_cases h1:eg v=s<;>by_cases h2:eK v=true<;>simp[h1,h2]
theorem Ey(l):-9223372036854775808<=Lib.atoiSat l∧Lib.atoiSat l<=9223372036854775807:=by unfold Lib.atoiSat;split<;>decide
theorem wrap_u8{x:Int}(h:0<=x∧x<=255):IntKind.u8.wrap x=x:=IntWalk.u8_in x h
theorem jr(s:ByteArray)(hs:s.size<=281474976710656):bm Tryz.prog 160 [.d (.v (.string s))] (.tup [.d (.v (.int .i64 (jR s).1)),.d (.v (.bool (jR s).2))]) 0:=by
 have I:=HS s hs;unfold Cu at I
 cases h:Lib.atoiAll s.data.toList with
 |ok v=>
  rw[h]at I;have hb:=Lib.atoiAll_bounds h;have hp:=Ft s v h;refine bm.bW (n:=23) (ts:=[2,3]) Tryz.func160 (by kernel_rfl) Z Tryz.ntmps160 Tryz.results160 Z Z fun C hC J=>aZ 2 Z<|aa<|ab<|pE Z<|pu (bk Z Z Z I Z) Z<|bb 5 Z<|ae<|qs<|aa<|ab<|bb 2 Z<|pu (K4 Z (by kernel_rfl)) Z<|pE Z<|oh Z Z (fun _=>?_)<|fun _=>?_;·
   refine bE Z Z<|pE Z<|bE Z Z<|pu (bk Z Z Z (qc v hb.1 hb.2) Z) Z<|bE Z Z<|pE Z<|bE Z Z<|bb 2 Z<|pu (bk Z Z Z (lp ..) Z) Z<|bb 4 Z<|ae<|qs<|W.ret<|QF.bl trivial Z ?_
   (rw[hp];simp only[norm,kT,bM];by_cases h1:eg v=s<;>by_cases h2:eK v=true<;>simp[h1,h2])
  refine bD Z Z Z Z<|bD Z Z Z Z<|bD Z Z Z Z<|bD Z Z Z Z<|pE Z<|pu (bk Z Z Z (lp ..) Z) Z ?_
  refine bb 4 Z<|ae<|qs<|W.ret<|QF.bl trivial Z ?_;first|contradiction|(rw[hp];simp only[norm,kT,bM];by_cases h1:eg v=s<;>by_cases h2:eK v=true<;>simp[h1,h2])
 |range=>
  rw[h]at I;have hp:jR s=(0,false):=by unfold jR;rw[h]
  refine bm.bW (n:=23) (ts:=[2,3]) Tryz.func160 (by kernel_rfl) Z Tryz.ntmps160 Tryz.results160 Z Z fun C hC J=>aZ 2 Z<|aa<|ab<|pE Z<|pu (bk Z Z Z I Z) Z<|bb 5 Z<|ae<|qs<|aa<|ab<|bb 2 Z<|pu (JJ Z (by kernel_rfl)) Z<|pE Z<|oh Z Z (fun _=>?_)<|fun _=>?_;·
   refine bE Z Z<|pE Z<|bE Z Z<|pu (bk Z Z Z (qc _ (Ey _).1 (Ey _).2) Z) Z<|bE Z Z<|pE Z<|bE Z Z<|bb 2 Z<|pu (bk Z Z Z (lp ..) Z) Z<|bb 4 Z<|ae<|qs<|W.ret<|QF.bl trivial Z ?_;contradiction
  refine bD Z Z Z Z<|bD Z Z Z Z<|bD Z Z Z Z<|bD Z Z Z Z<|pE Z<|pu (bk Z Z Z (lp ..) Z) Z ?_
  refine bb 4 Z<|ae<|qs<|W.ret<|QF.bl trivial Z ?_;first|contradiction|(rw[hp];rfl)
 |_=>
  rw[h]at I;have hp:jR s=(0,false):=by unfold jR;rw[h]
  refine bm.bW (n:=23) (ts:=[2,3]) Tryz.func160 (by kernel_rfl) Z Tryz.ntmps160 Tryz.results160 Z Z fun C hC J=>aZ 2 Z<|aa<|ab<|pE Z<|pu (bk Z Z Z I Z) Z<|bb 5 Z<|ae<|qs<|aa<|ab<|bb 2 Z<|pu (JJ Z (by kernel_rfl)) Z<|pE Z<|oh Z Z (fun _=>?_)<|fun _=>?_;·
   refine bE Z Z<|pE Z<|bE Z Z<|pu (bk Z Z Z (qc 0 (by decide) (by decide)) Z) Z<|bE Z Z<|pE Z<|bE Z Z<|bb 2 Z<|pu (bk Z Z Z (lp ..) Z) Z<|bb 4 Z<|ae<|qs<|W.ret<|QF.bl trivial Z ?_;contradiction
  refine bD Z Z Z Z<|bD Z Z Z Z<|bD Z Z Z Z<|bD Z Z Z Z<|pE Z<|pu (bk Z Z Z (lp ..) Z) Z ?_
  refine bb 4 Z<|ae<|qs<|W.ret<|QF.bl trivial Z ?_
  (rw[hp];rfl)
section
open Go.Ab Go.RowKit
abbrev tB:Nat:=150
abbrev tU:Nat:=5
theorem yR:(Tryz.prog.info? tB).map (·.size)=some 2:=by kernel_rfl
theorem GF:liesAt Tryz.prog Tryz.prog.depth tB (2/Tryz.prog.cellsOf tB) 0 tB 1=true:=by kernel_rfl
set_option maxHeartbeats 1000000 in
set_option maxRecDepth 100000 in
theorem G8(b)(w:World)(h0:w.cell? ⟨b,0,none⟩=some (.pointer (some ⟨b,0,none⟩))):
 Calls Tryz.prog 170 #[.pointer (some ⟨b,0,none⟩)] w fun e w'=>e=.returned (.tuple #[])∧w'=w:=by
 obtain⟨j,hj,_⟩:=ν.1 yR;have t150:=Tryz.underlying150;have I:=Tryz.isAgg150;have J:=Tryz.sizeOf150;have M:=run_underlying Tryz.underlying150;have t147:=Tryz.underlying147;have N:=Tryz.isAgg147;have O:=Tryz.sizeOf147;have U:=run_underlying Tryz.underlying147;have t225:=Tryz.underlying225;have X:=Tryz.isAgg225;have ad:=Tryz.sizeOf225;have ai:=run_underlying Tryz.underlying225
 go_enter Tryz.func170,Tryz.ntmps170
 go_wp2
 rw[Lib.run_neq_ptr_same w _ Tryz.underlying147 hj]
 go_wp2
 go_end0
 exact⟨rfl,rfl⟩
set_option maxHeartbeats 1000000 in
set_option maxRecDepth 100000 in
theorem Ej(b)(w:World)(h0:w.cell? ⟨b,0,none⟩=some (.pointer none))(I:w.shape? b=some (tB,2))(a6:w.frozen? ⟨b,0,none⟩=false):
 Calls Tryz.prog 170 #[.pointer (some ⟨b,0,none⟩)] w fun e w'=>e=.returned (.tuple #[])∧w'=w.setCell ⟨b,0,none⟩ (.pointer (some ⟨b,0,none⟩)):=by
 obtain⟨j,hj,J⟩:=ν.1 yR;have t150:=Tryz.underlying150;have M:=Tryz.isAgg150;have N:=Tryz.sizeOf150;have O:=run_underlying Tryz.underlying150;have t147:=Tryz.underlying147;have U:=Tryz.isAgg147;have X:=Tryz.sizeOf147;have ad:=run_underlying Tryz.underlying147;have t225:=Tryz.underlying225;have ai:=Tryz.isAgg225;have aj:=Tryz.sizeOf225;have a1:=run_underlying Tryz.underlying225
 go_enter Tryz.func170,Tryz.ntmps170
 go_wp2
 rw[Lib.run_to_unsafe w ⟨b,0,none⟩ Tryz.underlying147 Tryz.underlying225 hj (by rw[J];decide) I (Nat.zero_lt_succ 1)];simp only[Result.andThen];rw[Oper.upon_value]
 go_wp2
 rw[run_callFunc_extern Tryz.func186 (by kernel_rfl) (by kernel_rfl) (by kernel_rfl) (e:=Extern.AbiNoEscape.same) (by kernel_rfl)];rw[Lib.run_noEscape];simp only[Result.andThen];rw[Oper.upon_value]
 go_wp2
 rw[Lib.run_from_unsafe w ⟨b,0,none⟩ Tryz.underlying225 Tryz.underlying147 hj I GF];simp only[Result.andThen];rw[Oper.upon_value]
 go_wp2
 go_end0
 exact⟨rfl,rfl⟩
theorem J0:kB Tryz.prog 170:=⟨_,Tryz.func170,by kernel_rfl,by kernel_rfl⟩
theorem D4:kB Tryz.prog 90:=⟨_,Tryz.func90,by kernel_rfl,by kernel_rfl⟩
theorem GK:nG Tryz.prog tB 170:=⟨G8,Ej⟩
theorem BV:uM Tryz.prog tB tU 90:=fun B b l w h hB=>az B b l w h hB
end
variable {j:JV}
theorem Eh(l:List Int)(s):bm Tryz.prog 162 [.d (.sl (l.map ic)),.d (.v (.int .i64 s))] (.d (.v (.int .i64 (idx (l.findIdx? fun x=>decide (s=x)))))) 0:=by
 refine bm.bW (n:=19) (ts:=[4]) Tryz.func162 (by kernel_rfl) Z Tryz.ntmps162 Tryz.results162 Z Z fun C hC U=>aZ 1 Z<|aa<|aZ 3 Z<|W.block<|W.len (t:=0) Z Z<|fun hlen=>?_;try simp only[η,Ex.bG]at hlen
 refine W.ca (ι:={x:Nat//match x with|k=>k<=l.length∧c8 (fun x=>decide (s=x)) l k})
  (fun x=>match x.1 with|k=>[(8,.d (.v (.int .i64 ((k:Nat):Int))))]) [(0,_),(1,_),(7,_)]
  (fun x=>match x.1 with|k=>[]) [] [] 0 (fun x=>match x.1 with|k=>l.length-k)
  [] ⟨0,?_⟩ Z ?_ ⟨rfl,rfl,rfl,rfl,rfl,rfl,trivial⟩ ?_ trivial Z ?_
 ·exact⟨ς _,c8.zero⟩
 ·repeat' constructor
 ·repeat' exact trivial
 rintro⟨k,O,J⟩;show W _ _ _ _ _ ⟨[(8,.d (.v (.int .i64 ((k:Nat):Int)))),(0,_),(1,_),(7,_)],[],[],0⟩;refine aZ 1 Z<|aa<|cr (l:=l) (k:=k) Z (by simp[Ex.bG,bo]) O (fun x M hd N=>?_)<|fun he hd=>?_;·
  refine ah<|qs<|aa<|W.block<|aZ 2 Z<|aa<|ab<|bb 3 Z<|pu (indexAddr aY Z Z Z Z Z Z (ε _) (bC (by assumption)) Z) Z<|bb 2 Z<|ae<|qs<|bc Z (fun I=>?_)<|fun I=>?_;·
   refine aZ 2 Z<|W.ret<|bw<|be<|cE<|bw<|be<|QF.bl trivial Z ?_;simp only[norm,bM];rw[J.found M I];rfl
  refine ah<|bX<|qs<|cu 2 Z<|W.cg [] ⟨k+1,?_⟩ ?_ Z ?_ ⟨rfl,rfl,rfl,rfl,rfl,rfl,trivial⟩ ?_ trivial Z;·exact⟨N,J.step M I⟩
  ·dsimp only;omega
  ·repeat' first|exact trivial|refine⟨bF (by assumption) (by assumption),?_⟩
  repeat' exact trivial
 refine ak<|bP<|bQ<|bO<|qs<|aZ 1 Z<|W.ret<|QF.bl trivial Z ?_;simp only[norm,bM];rw[J.end_ he];rfl
theorem zj(l:List Int)(s):bm Tryz.prog 121 [.d (.sl (l.map ic)),.d (.v (.int .i64 s))] (.d (.v (.bool (l.any fun x=>decide (s=x))))) 0:=by refine bm.bW (n:=9) (ts:=[4]) Tryz.func121 (by kernel_rfl) Z Tryz.ntmps121 Tryz.results121 Z Z fun C hC I=>?_;refine aZ 1 Z ?_;refine aa (ab (bb 2 Z ?_));refine pu (bk Z Z Z (Eh ..) Z) Z ?_;refine bb 2 Z ?_;refine ae (qs (W.ret (QF.bl trivial Z ?_)));simp only[norm,bM];rw[<-iM]
def mF(l:List Ev)(k:Nat):Option Int:=if k=0 then none else(l[k-1]?).map Ev.time
theorem sub_one(h:0<k)(hm:(k:Int)<=9223372036854775807):IntKind.i64.wrap ((k:Int)-1)=((k-1:Nat):Int):=by rw[wrap64 (by omega)];omega
theorem A0(l:List Ev):bm Tryz.prog 156 [.d (.sl (l.map Ev.c))] (.d (.v (.int .i64 (jg l none)))) 0:=by
 refine bm.bW (n:=32) (ts:=[2]) Tryz.func156 (by kernel_rfl) Z Tryz.ntmps156 Tryz.results156 Z Z fun C hC hG=>aZ 1 Z<|aa<|aZ 3 Z<|W.block<|W.len (t:=0) Z Z<|fun hlen=>?_;try simp only[η,Ex.bG]at hlen
 refine W.ca (ι:={x:Nat//match x with|k=>k<=l.length∧jg (l.drop k) (mF l k)=jg l none})
  (fun x=>match x.1 with|k=>[(8,.d (.v (.int .i64 ((k:Nat):Int))))]) [(0,_),(6,_),(7,_)]
  (fun x=>match x.1 with|k=>[]) [] [] 0 (fun x=>match x.1 with|k=>l.length-k)
  [] ⟨0,?_⟩ Z ?_ ⟨rfl,rfl,rfl,rfl,rfl,rfl,trivial⟩ ?_ trivial Z ?_
 ·exact⟨ς _,rfl⟩
 ·repeat' constructor
 ·repeat' exact trivial
 rintro⟨k,hk,I⟩;show W _ _ _ _ _ ⟨[(8,.d (.v (.int .i64 ((k:Nat):Int)))),(0,_),(6,_),(7,_)],[],[],0⟩;refine aZ 1 Z<|aa<|cr (l:=l) (k:=k) Z (by simp[Ex.bG,bo]) hk (fun e hx hd ad=>?_)<|fun he hd=>?_;·
  rw[hd]at I;simp only[jg]at I;obtain⟨p,hp⟩:∃p:Ev,0<k->l[k-1]?=some p:=⟨l[k-1]'(by omega),fun _=>by simp⟩;have O:vJ (mF l k) e.time=(decide (0<k)&&decide (e.time<p.time)):=by
   unfold mF vJ;by_cases q:k=0;·simp[q]
   rw[if_neg q,hp (by omega)];simp;omega
  rw[O]at I;have U:mF l (k+1)=some e.time:=by unfold mF;rw[if_neg (by omega),Nat.add_sub_cancel,hx];rfl
  refine ah<|qs<|aa<|W.block<|aa<|ab<|pE Z<|pu (indexAddr aY Z Z Z Z Z Z (ε _) (bC hx) Z) Z<|bb 1 Z<|b9 aY Z Z Z<|pE Z<|bt aY Z Z Z Z Z Z Z Z<|ae<|qs<|aa<|aa<|ab<|bb 1 Z ?_
  refine pu (bk Z Z Z (xF e) Z) Z<|pE Z<|ae<|qs<|aZ 2 Z<|bc Z (fun J=>?_)<|fun J=>?_;·
   have X:dq e≠0:=by simpa using J
   rw[if_pos X]at I;refine aZ 2 Z<|W.ret<|be<|bw<|be<|cE<|bw<|be<|QF.bl trivial Z ?_;simp only[norm,bM,←I]
  have X:dq e=0:=by simpa using J
  rw[if_neg (by simp[X])]at I;refine ah (qs (aa ?_));apply oD aY;(case hb=>rfl);(case hB=>kernel_rfl);·
   iterate 3 refine br (ev aY Z) Z ?_
   apply oL;(case hj=>rfl);(case hl=>rfl);·
    intro g20;refine dz Z Z (ev aY Z) Z<|dz Z Z (ev aY Z) Z<|dz Z Z (ev aY Z) Z<|dz Z Z (ev aY Z) Z<|dz Z Z (cW (ev aY Z) (y:=((k-1:Nat):Int)) (sub_one (by simpa using g20) (by simp only[maxLen]at hlen;omega))) Z<|dz Z Z (indexAddr (l:=p.c) aY Z Z Z Z Z Z (ε _) (bC (hp (by simpa using g20))) Z) Z<|dz Z Z (ev aY Z) Z<|dz Z Z (ev aY Z) Z<|dz Z Z (ev aY Z) Z<|br (ev aY Z) Z<|ao<|b7 Z Z Z
   intro g20;iterate 9 refine sj Z Z Z Z ?_
   refine br (ev aY Z) Z<|ao<|b7 Z Z Z
  refine qs (bc Z (fun M=>?_) (fun M=>?_));·
   have N:(decide (0<k)&&decide (e.time<p.time))=true:=by simp at M⊢;omega
   rw[if_pos N]at I;refine aZ 1 Z<|W.ret<|bw<|be<|cE<|bw<|be<|QF.bl trivial Z ?_;simp only[norm,bM,←I]
  have N:(decide (0<k)&&decide (e.time<p.time))=false:=by simp at M⊢;omega
  rw[if_neg (by rw[N];decide)]at I;refine ah<|bX<|qs<|cu 2 Z<|W.cg [] ⟨k+1,?_⟩ ?_ Z ?_ ⟨rfl,rfl,rfl,rfl,rfl,rfl,trivial⟩ ?_ trivial Z;·exact⟨ad,by rw[U];exact I⟩
  ·dsimp only;omega
  ·repeat' first|exact trivial|refine⟨bF (by assumption) (by assumption),?_⟩
  repeat' exact trivial
 rw[hd]at I;simp only[jg]at I;refine ak<|bP<|bQ<|bO<|qs<|aZ 1 Z<|W.ret<|QF.bl trivial Z ?_;simp only[norm,bM,←I]
theorem w8(fid caps)(I:Still caps)(p)(hp:∀x:Int×Int,bm Tryz.prog fid (.ag (dF x)::caps) (.d (.v (.bool (p x)))) 0)(l:List (Int×Int)):
 bm Tryz.prog 155 [.d (.sl (l.map dF)),.clo fid caps] (.d (.v (.int .i64 (idx (l.findIdx? p))))) 0:=by
 refine bm.bW (n:=19) (ts:=[4]) Tryz.func155 (by kernel_rfl) Z Tryz.ntmps155 Tryz.results155 Z Z fun C hC X=>aZ 1 Z<|aa<|aZ 3 Z<|W.block<|W.len (t:=0) Z Z<|fun hlen=>?_;try simp only[η,Ex.bG]at hlen
 refine W.ca (ι:={x:Nat//match x with|k=>k<=l.length∧c8 p l k})
  (fun x=>match x.1 with|k=>[(8,.d (.v (.int .i64 ((k:Nat):Int))))]) [(0,_),(1,_),(7,_)]
  (fun x=>match x.1 with|k=>[]) [] [] 0 (fun x=>match x.1 with|k=>l.length-k)
  [] ⟨0,?_⟩ Z ?_ ⟨rfl,(by first|rfl|exact I.2),rfl,(by first|rfl|exact I.2),rfl,(by first|rfl|exact I.2),trivial⟩ ?_ trivial Z ?_
 ·exact⟨ς _,c8.zero⟩
 ·repeat' constructor
 ·repeat' exact trivial
 rintro⟨k,U,M⟩;show W _ _ _ _ _ ⟨[(8,.d (.v (.int .i64 ((k:Nat):Int)))),(0,_),(1,_),(7,_)],[],[],0⟩;refine aZ 1 Z<|aa<|cr (l:=l) (k:=k) Z (by simp[Ex.bG,bo]) U (fun x N hd O=>?_)<|fun he hd=>?_;·
  refine ah<|qs<|aa<|W.block<|aZ 2 Z<|aa<|ab<|bb 3 Z<|pu (indexAddr aY Z Z Z Z Z Z (ε _) (bC N) Z) Z<|bb 1 Z<|pu (bk Z Z (by rw[y',I.1 _ 3];rfl) (hp x) Z) Z<|ae<|qs<|bc Z (fun J=>?_)<|fun J=>?_;·
   refine aZ 2 Z<|W.ret<|bw<|be<|cE<|bw<|be<|QF.bl trivial Z ?_;simp only[norm,bM];rw[M.found N J];rfl
  refine ah<|bX<|qs<|cu 2 Z<|W.cg [] ⟨k+1,?_⟩ ?_ Z ?_ ⟨rfl,(by first|rfl|exact I.2),rfl,(by first|rfl|exact I.2),rfl,(by first|rfl|exact I.2),trivial⟩ ?_ trivial Z;·exact⟨O,M.step N J⟩
  ·dsimp only;omega
  ·repeat' first|exact trivial|refine⟨bF (by assumption) (by assumption),?_⟩
  repeat' exact trivial
 refine ak<|bP<|bQ<|bO<|qs<|aZ 1 Z<|W.ret<|QF.bl trivial Z ?_;simp only[norm,bM];rw[M.end_ he];rfl
theorem Cl(fid caps)(I:Still caps)(p)(hp:∀x:Int×Int,bm Tryz.prog fid (.ag (dF x)::caps) (.d (.v (.bool (p x)))) 0)(l:List (Int×Int)):
 bm Tryz.prog 109 [.d (.sl (l.map dF)),.clo fid caps] (.d (.v (.bool (l.any p)))) 0:=by
 refine bm.bW (n:=9) (ts:=[4]) Tryz.func109 (by kernel_rfl) Z Tryz.ntmps109 Tryz.results109 Z Z fun C hC J=>aZ 1 Z<|aa<|ab<|bb 2 Z<|pu (bk (args:=[.d (.sl (l.map dF)),.clo fid caps]) Z Z (by simp[conv,I.1 _ 2]) (w8 fid caps I p hp l) Z) Z<|bb 2 Z<|ae<|qs<|W.ret<|QF.bl trivial Z ?_;simp only[norm,bM];rw[<-iM]
theorem Gv(id)(d:Int×Int):bm Tryz.prog 188 [.ag (dF d),.row [.d (.v (.int .i64 id))]] (.d (.v (.bool (decide (d.1=id))))) 0:=by refine bm.bW (n:=8) (ts:=[3]) Tryz.func188 (by kernel_rfl) Z Tryz.ntmps188 Tryz.results188 Z Z fun C hC I=>?_;refine aa (ab (cz Z Z Z (pE Z (ae (qs (aZ 5 Z ?_))))));refine W.ret (QF.bl trivial Z ?_);rfl
theorem rJ(l:List (Int×Int))(id):bm Tryz.prog 174 [.d (.sl (l.map dF)),.d (.v (.int .i64 id))] (.d (.v (.int .i64 (idx (l.findIdx? fun d=>decide (d.1=id)))))) 0:=by refine bm.bW (n:=8) (ts:=[4]) Tryz.func174 (by kernel_rfl) Z Tryz.ntmps174 Tryz.results174 Z Z fun C hC I=>?_;refine aa (ab (cz Z Z Z (pE Z (ae (qs (aa (ab (bb 2 Z ?_))))))));refine pu (bk Z Z Z (w8 _ _ ⟨fun _ _=>rfl,rfl⟩ _ (Gv id) l) Z) Z ?_;refine pE Z (ae (qs (W.ret (QF.bl trivial Z ?_))));rfl
theorem AV(ds:List (Int×Int)):bm Tryz.prog 153 [.d (.sl (ds.map dF))] (.d (.v (.int .i64 (iI ds [])))) 0:=by
 refine bm.bW (n:=38) (ts:=[2]) Tryz.func153 (by kernel_rfl) Z Tryz.ntmps153 Tryz.results153 Z Z fun C hC hG=>aZ 1 Z<|aa<|aZ 3 Z<|W.block<|W.len (t:=5) Z Z<|fun hlen=>?_;try simp only[η,Ex.bG]at hlen
 refine W.ca (ι:={x:Nat//match x with|k=>k<=ds.length∧iI (ds.drop k) (ds.take k)=iI ds []})
  (fun x=>match x.1 with|k=>[(7,.d (.v (.int .i64 ((k:Nat):Int))))]) [(0,_),(5,_),(6,_)]
  (fun x=>match x.1 with|k=>[]) [] [] 0 (fun x=>match x.1 with|k=>ds.length-k)
  [] ⟨0,?_⟩ Z ?_ ⟨rfl,rfl,rfl,rfl,rfl,rfl,trivial⟩ ?_ trivial Z ?_
 ·exact⟨ς _,rfl⟩
 ·repeat' constructor
 ·repeat' exact trivial
 rintro⟨k,hk,I⟩;show W _ _ _ _ _ ⟨[(7,.d (.v (.int .i64 ((k:Nat):Int)))),(0,_),(5,_),(6,_)],[],[],0⟩;refine aZ 1 Z<|aa<|cr (l:=ds) (k:=k) Z (by simp[Ex.bG,bo]) hk (fun d O hd U=>?_)<|fun he hd=>?_;·
  rw[hd,iI]at I;have X:ds.take (k+1)=ds.take k++[d]:=by rw[Φ,O];rfl
  refine ah<|qs<|aa<|W.block<|aa<|ab<|pE Z<|pu (indexAddr (l:=dF d) aY Z Z Z Z Z Z (ε _) (bC O) Z) Z<|bb 1 Z<|b9 aY Z Z Z<|pE Z<|bt aY Z Z Z Z Z Z Z Z<|ae<|qs<|aa<|aa<|?_
  apply bJ;(case hb=>rfl);·
   refine bb 4 Z ?_;apply dP;(case hj=>rfl);(case hl=>rfl);·
    intro g15;refine bD Z Z Z Z<|bD Z Z Z Z<|bD Z Z Z Z<|bb 2 Z ?_
    refine bD Z Z Z Z<|bD Z Z Z Z<|bD Z Z Z Z<|bb 2 Z ?_
    refine bD Z Z Z Z<|bD Z Z Z Z<|bD Z Z Z Z<|pE Z<|ae<|b7 Z Z Z
   intro g15;refine bE Z Z<|pE Z<|bE Z Z<|bb 1 Z<|bE Z Z<|bb 3 Z ?_;apply dP;(case hj=>rfl);(case hl=>rfl);·
    intro g20;refine bD Z Z Z Z<|bD Z Z Z Z<|bD Z Z Z Z<|bb 2 Z ?_
    refine bD Z Z Z Z<|bD Z Z Z Z<|bD Z Z Z Z<|pE Z<|ae<|b7 Z Z Z
   intro g20;refine bE Z Z<|pE Z<|bE Z Z<|bb 1 Z<|bE Z Z<|bb 3 Z ?_;apply dP;(case hj=>rfl);(case hl=>rfl);·
    intro ad;refine bD Z Z Z Z<|bD Z Z Z Z<|bD Z Z Z Z<|pE Z<|ae<|b7 Z Z Z
   intro ad;refine bE Z Z<|pE Z<|bE Z Z<|bb 1 Z<|bE Z Z<|bb 2 Z<|ae<|b7 Z Z Z
  refine qs (bc Z (fun J=>?_) (fun J=>?_));·
   have hb:qj d=true:=by unfold qj;simp at J⊢;omega
   have M:iI ds []=2:=by rw[<-I,if_pos hb]
   refine aZ 1 Z<|W.ret<|be<|bw<|be<|cE<|bw<|be<|QF.bl trivial Z ?_;rw[M];rfl
  have hb:qj d=false:=by unfold qj;simp at J⊢;omega
  rw[if_neg (by rw[hb];decide)]at I;refine ah<|qs<|aa<|W.dD aY (by kernel_rfl)<|br (ev aY Z) Z<|br (ev aY Z) Z<|br (vo (fn:=dF) (l:=ds) (i:=0) (j:=(k:Int)) (r:=ds.take k) aY Z Z Z Z Z (fun _=>rfl) Z Z (by decide) (by omega) (by omega) Z) Z ?_
  refine br (ev aY Z) Z<|br (ev aY Z) Z<|br (bk Z Z Z (rJ (ds.take k) d.1) Z) Z<|br (ev aY Z) Z<|ao<|qs<|bc Z (fun N=>?_)<|fun N=>?_;·
   have M:iI ds []=4:=by rw[<-I,if_pos];unfold gE;rw[<-iM];simpa using N
   refine aZ 1 Z<|W.ret<|bw<|be<|cE<|bw<|be<|QF.bl trivial Z ?_;rw[M];rfl
  rw[if_neg (by unfold gE;rw[<-iM];simpa using N),←X]at I;refine ah<|bX<|qs<|cu 2 Z<|W.cg [] ⟨k+1,?_⟩ ?_ Z ?_ ⟨rfl,rfl,rfl,rfl,rfl,rfl,trivial⟩ ?_ trivial Z;·exact⟨U,I⟩
  ·dsimp only;omega
  ·repeat' first|exact trivial|refine⟨bF (by assumption) (by assumption),?_⟩
  repeat' exact trivial
 have M:iI ds []=0:=by rw[<-I,hd];rfl
 refine ak<|bP<|bQ<|bO<|qs<|aZ 1 Z<|W.ret<|QF.bl trivial Z ?_;rw[M];rfl
theorem re(a):bm Tryz.prog 175 [.d (ci a)] (.d (.v (.bool (pX a)))) 0:=by
 refine bm.bW (n:=9) (ts:=[2]) Tryz.func175 (by kernel_rfl) Z Tryz.ntmps175 Tryz.results175 Z Z fun C hC I=>aZ 1 Z<|aa ?_;apply bJ;(case hb=>rfl);·repeat' first|refine b7 Z Z Z|refine bE Z Z ?_|refine bD Z Z Z Z ?_|refine pE Z ?_|refine ae ?_|(apply bU;(case hj=>rfl);(case hl=>rfl))
 refine qs (W.ret (QF.bl trivial Z ?_));simp only[norm,bM];unfold pX;cases decide (0<=a)<;>rfl
theorem gR(ds:List (Int×Int))(a):decide (idx (ds.findIdx? fun d=>decide (d.1=a))<0)=!(gE ds a):=by
 unfold gE;rw[<-iM];by_cases h:idx (ds.findIdx? fun d=>decide (d.1=a))<0;·rw[decide_eq_true h,decide_eq_false (by omega)];rfl
 rw[decide_eq_false h,decide_eq_true (by omega)];rfl
theorem GX(ds:List (Int×Int))(x:Sn):bm Tryz.prog 154 [.d (.sl (ds.map dF)),.ag x.c] (.d (.v (.int .i64 (eR ds x)))) 0:=by
 refine bm.bW (n:=44) (ts:=[4]) Tryz.func154 (by kernel_rfl) Z Tryz.ntmps154 Tryz.results154 Z Z fun C hC N=>aa<|ab<|cz Z Z Z<|pE Z<|ae<|qs<|aa<|W.block<|aa<|aa<|ab<|bb 3 Z ?_
 refine pu (bk Z Z Z (rJ ds x.a) Z) Z<|bb 2 Z<|ae<|qs<|bc Z (fun h5=>?_)<|fun h5=>?_;·
  have I:eR ds x=5:=by simp only[gR]at*;unfold eR;rw[if_pos (by simp_all)]
  refine ah<|qs<|W.gr Z<|aZ 1 Z<|W.ret<|bw<|be<|QF.bl trivial Z ?_
  (rw[I];rfl)
 refine ab<|bb 3 Z<|pu (bk Z Z Z (rJ ds x.b) Z) Z<|bb 2 Z<|ae<|qs<|bc Z (fun h5=>?_)<|fun h5=>?_;·
  have I:eR ds x=5:=by simp only[gR]at*;unfold eR;rw[if_pos (by simp_all)]
  refine aZ 1 Z<|W.ret<|bw<|be<|QF.bl trivial Z ?_
  (rw[I];rfl)
 refine aZ 6 Z<|bc Z (fun M=>?_)<|fun M=>?_;·
  have I:eR ds x=1:=by simp only[gR]at*;unfold eR;rw[if_neg (by simp_all),if_pos (B' M)]
  refine aZ 1 Z<|W.ret<|bw<|be<|QF.bl trivial Z ?_
  (rw[I];rfl)
 refine aa<|aa<|ab<|bb 2 Z ?_
 refine pu (bk Z Z Z (re ..) Z) Z<|bb 2 Z<|ae<|qs<|bc Z (fun J=>?_)<|fun J=>?_;·
  have I:eR ds x=2:=by simp only[gR]at*;unfold eR;rw[if_neg (by simp_all),if_neg (O' (by assumption)),if_pos (by simp_all)]
  refine ah<|qs<|W.gr Z<|aZ 1 Z<|W.ret<|bw<|be<|QF.bl trivial Z ?_
  (rw[I];rfl)
 refine aa<|ab<|bb 3 Z<|pu (bk Z Z Z (re ..) Z) Z<|bb 2 Z<|ae<|qs<|bc Z (fun J=>?_)<|fun J=>?_;·
  have I:eR ds x=2:=by simp only[gR]at*;unfold eR;rw[if_neg (by simp_all),if_neg (O' (by assumption)),if_pos (by simp_all)]
  refine ah<|qs<|W.gr Z<|aZ 1 Z<|W.ret<|bw<|be<|QF.bl trivial Z ?_
  (rw[I];rfl)
 refine aa<|ab<|bb 3 Z<|pu (bk Z Z Z (re ..) Z) Z<|bb 2 Z<|ae<|qs<|bc Z (fun J=>?_)<|fun J=>?_;·
  have I:eR ds x=2:=by simp only[gR]at*;unfold eR;rw[if_neg (by simp_all),if_neg (O' (by assumption)),if_pos (by simp_all)]
  refine ah<|qs<|W.gr Z<|aZ 1 Z<|W.ret<|bw<|be<|QF.bl trivial Z ?_
  (rw[I];rfl)
 refine cu 8 Z<|qs<|bc Z (fun J=>?_)<|fun J=>?_;·
  have I:eR ds x=2:=by simp only[gR]at*;unfold eR;rw[if_neg (by simp_all),if_neg (O' (by assumption)),if_pos (by simp_all)]
  refine aZ 1 Z<|W.ret<|bw<|be<|QF.bl trivial Z ?_
  (rw[I];rfl)
 refine ah<|bX<|qs<|aZ 1 Z<|W.ret<|QF.bl trivial Z ?_
 (have I:eR ds x=0:=by simp only[gR]at*;unfold eR;rw[if_neg (by simp_all),if_neg (O' (by assumption)),if_neg (by simp_all)]);(rw[I];rfl)
theorem DA(ds:List (Int×Int))(sn:List Sn):bm Tryz.prog 108 [.d (.sl (ds.map dF)),.d (.sl (sn.map Sn.c))] (.d (.v (.int .i64 (cJ ds sn)))) 0:=by
 refine bm.bW (n:=43) (ts:=[4]) Tryz.func108 (by kernel_rfl) Z Tryz.ntmps108 Tryz.results108 Z Z fun C hC hG=>aZ 1 Z<|aa<|aZ 3 Z<|bc Z (fun J=>?_)<|fun J=>?_;·
  have I:cJ ds sn=8:=by simp at J;unfold cJ;rw[if_pos J]
  refine aZ 1 Z<|W.ret<|be<|QF.bl trivial Z ?_;rw[I];rfl
 obtain⟨d,r,M⟩:∃d r,ds=d::r:=by
  cases ds with
  |nil=>simp at J
  |cons d r=>exact⟨d,r,rfl⟩
 have N:ds≠[]:=by rw[M];simp
 have a1:ds[0]?=some d:=by rw[M];rfl
 have hh:ds.head?=some d:=by rw[M];rfl
 refine ah<|qs<|aa<|aa<|?_
 apply bJ;(case hb=>rfl);·
  refine bb 4 Z ?_;apply dP;(case hj=>rfl);(case hl=>rfl);·
   intro g15;refine bD Z Z Z Z<|bD Z Z Z Z<|bD Z Z Z Z<|pE Z<|ae<|b7 Z Z Z
  intro g15;refine bE Z Z<|pE Z<|bE Z Z<|pE Z<|bE Z Z<|bb 2 Z<|ae<|b7 Z Z Z
 refine qs (bc Z (fun U=>?_) (fun U=>?_));·
  have I:cJ ds sn=7:=by unfold cJ;rw[if_neg N,if_pos (by simp at U;omega)]
  refine aZ 1 Z<|W.ret<|be<|QF.bl trivial Z ?_;rw[I];rfl
 have hl:¬(8<ds.length∨200<sn.length):=by simp at U;omega
 refine ah<|qs<|aa<|aa<|ab<|pE Z<|pu (indexAddr (l:=dF d) aY Z Z Z Z Z Z (by decide) (by rw[M];rfl) Z) Z ?_
 refine bb 1 Z<|pu (build aY Z Z Z Z) Z<|pE Z<|ae<|qs<|bc Z (fun O=>?_)<|fun O=>?_;·
  have I:cJ ds sn=10:=by unfold cJ;rw[if_neg N,if_neg hl,if_pos (by rw[hh];intro q;simp only[Option.some.injEq]at q;subst q;simp at O)]
  refine aZ 1 Z<|W.ret<|be<|QF.bl trivial Z ?_;rw[I];rfl
 have ai:¬ds.head?≠some (0,0):=by rw[hh];obtain⟨d1,d2⟩:=d;simp at O⊢;exact O
 refine ah<|qs<|aa<|aa<|ab<|pE Z<|pu (bk Z Z Z (AV ds) Z) Z ?_
 refine pE Z<|ae<|qs<|aZ 2 Z<|bc Z (fun X=>?_)<|fun X=>?_;·
  have I:cJ ds sn=iI ds []:=by unfold cJ;rw[if_neg N,if_neg hl,if_neg ai,if_pos (by simpa using X)]
  refine aZ 2 Z<|W.ret<|be<|QF.bl trivial Z ?_;rw[I];rfl
 have hc:cJ ds sn=kM ds sn:=by unfold cJ;rw[if_neg N,if_neg hl,if_neg ai,if_neg (by simpa using X)]
 have hlen:sn.length<=maxLen:=by simp only[maxLen];omega
 refine ah<|qs<|aa<|aZ 3 Z<|W.block<|W.ca (ι:={x:Nat//match x with|k=>k<=sn.length∧kM ds (sn.drop k)=kM ds sn})
  (fun x=>match x.1 with|k=>[(32,.d (.v (.int .i64 ((k:Nat):Int))))]) [(0,_),(30,_),(31,_)]
  (fun x=>match x.1 with|k=>[]) [] [] 0 (fun x=>match x.1 with|k=>sn.length-k)
  [] ⟨0,?_⟩ Z ?_ ⟨rfl,rfl,rfl,rfl,rfl,rfl,trivial⟩ ?_ trivial Z ?_
 ·exact⟨ς _,rfl⟩
 ·repeat' constructor
 ·repeat' exact trivial
 rintro⟨k,hk,hI⟩;show W _ _ _ _ _ ⟨[(32,.d (.v (.int .i64 ((k:Nat):Int)))),(0,_),(30,_),(31,_)],[],[],0⟩;refine aZ 1 Z<|aa<|cr (l:=sn) (k:=k) Z (by simp[Ex.bG,bo]) hk (fun x hx hd aj=>?_)<|fun he hd=>?_;·
  rw[hd,kM]at hI;refine ah<|qs<|aa<|W.block<|aa<|ab<|pu (indexAddr (l:=x.c) aY Z Z Z Z Z Z (ε _) (bC hx) Z) Z<|bb 1 Z<|b9 aY Z Z Z<|bt aY Z Z Z Z Z Z Z Z<|ae<|qs<|aa<|ab<|bb 2 Z<|pu (bk Z Z Z (GX ds x) Z) Z<|pE Z<|ae<|qs<|aZ 2 Z<|bc Z (fun ad=>?_)<|fun ad=>?_;·
   have I:cJ ds sn=eR ds x:=by rw[hc,←hI,if_pos (by simpa using ad)]
   refine aZ 2 Z<|W.ret<|bw<|be<|cE<|bw<|be<|QF.bl trivial Z ?_;rw[I];rfl
  rw[if_neg (by simpa using ad)]at hI;refine ah<|bX<|qs<|cu 2 Z<|W.cg [] ⟨k+1,?_⟩ ?_ Z ?_ ⟨rfl,rfl,rfl,rfl,rfl,rfl,trivial⟩ ?_ trivial Z;·exact⟨aj,hI⟩
  ·dsimp only;omega
  ·repeat' first|exact trivial|refine⟨bF (by assumption) (by assumption),?_⟩
  repeat' exact trivial
 have I:cJ ds sn=0:=by rw[hc,←hI,hd];rfl
 refine ak<|bP<|bQ<|bO<|qs<|aZ 1 Z<|W.ret<|QF.bl trivial Z ?_;rw[I];rfl
theorem Di(t:GT):bm Tryz.prog 107 [.ag t.c] (.d (.v (.int .i64 (gQ t)))) 0:=by
 refine bm.bW (n:=24) (ts:=[2]) Tryz.func107 (by kernel_rfl) Z Tryz.ntmps107 Tryz.results107 Z Z fun C hC M=>aa<|ab<|cz Z Z Z<|pE Z<|ae<|qs<|aa<|aa<|?_
 apply bJ;(case hb=>rfl);·repeat' first|refine b7 Z Z Z|refine bE Z Z ?_|refine bD Z Z Z Z ?_|refine pE Z ?_|refine ae ?_|(apply bU;(case hj=>rfl);(case hl=>rfl))
 refine qs (bc Z (fun I=>?_) (fun I=>?_));·
  have J:gQ t=2:=by unfold gQ;rw[if_pos (by simp at I;omega)]
  refine aZ 1 Z<|W.ret<|be<|QF.bl trivial Z ?_;simp only[norm,bM,J]
 have J:gQ t=cw t.name:=by unfold gQ;rw[if_neg (by simp at I;omega)]
 refine ah<|qs<|aa<|ab<|bb 2 Z<|pu (bk Z Z Z (sZ ..) Z) Z<|pE Z<|ae<|qs<|W.ret<|QF.bl trivial Z ?_;simp only[norm,bM,J]
theorem Ff(t:GT)(d:Int×Int):bm Tryz.prog 110 [.ag (dF d),.row (t.c.map A.d)] (.d (.v (.bool (decide (d.1=t.dom))))) 0:=by refine bm.bW (n:=9) (ts:=[3]) Tryz.func110 (by kernel_rfl) Z Tryz.ntmps110 Tryz.results110 Z Z fun C hC I=>?_;refine aa (ab (cz Z Z Z (pE Z (ae (qs (aZ 6 Z ?_))))));refine W.ret (QF.bl trivial Z ?_);rfl
theorem Gi(ds:List (Int×Int))(t:GT):bm Tryz.prog 109 [.d (.sl (ds.map dF)),.clo 110 [.row (t.c.map A.d)]] (.d (.v (.bool (gE ds t.dom)))) 0:=
 Cl _ _ ⟨fun _ _=>rfl,rfl⟩ _ (Ff t) ds
theorem Gn(ts ds sn):bm Tryz.prog 67 [.ag (fQ ts ds sn)] (.d (.v (.int .i64 (dB ts ds sn)))) 0:=by
 refine bm.bW (n:=62) (ts:=[2]) Tryz.func67 (by kernel_rfl) Z Tryz.ntmps67 Tryz.results67 Z Z fun C hC hG=>aa<|ab<|cz Z Z Z<|pE Z<|ae<|qs<|aa<|W.block<|aZ 5 Z<|bc Z (fun h10=>?_)<|fun h10=>?_
 ·
  have hg:dB ts ds sn=8:=by simp at h10;unfold dB;rw[if_pos h10]
  refine aZ 1 Z<|W.ret<|bw<|be<|QF.bl trivial Z ?_
  simp only[norm,bM,hg]
 have hne:ts≠[]:=by simpa using h10
 refine aZ 5 Z<|bc Z (fun h15=>?_)<|fun h15=>?_
 ·
  have hg:dB ts ds sn=7:=by simp at h15;unfold dB;rw[if_neg hne,if_pos (by omega)]
  refine aZ 1 Z<|W.ret<|bw<|be<|QF.bl trivial Z ?_
  simp only[norm,bM,hg]
 have h64:¬64<ts.length:=by simp at h15;omega
 have hlen:ts.length<=maxLen:=by simp only[maxLen];omega
 refine ah<|bX<|qs<|aa<|ab<|mkMap Z<|pE Z<|ae<|qs<|aa<|aZ 4 Z<|W.block<|W.ca (ι:={x:Nat//match x with|k=>k<=ts.length∧((ts.take k).map GT.id).Nodup∧fE (ts.drop k) ((ts.take k).map GT.id)=fE ts []})
  (fun x=>match x.1 with|k=>[(1,.ptr 0 0),(3,.mp 1 (eP ik Et (kS (ts.take k) GT.id))),(24,.d (.v (.int .i64 ((k:Nat):Int))))]) [(22,_),(23,_)]
  (fun x=>match x.1 with|k=>[(0,(fQ ts ds sn).map A.d)]) [] [1] 2 (fun x=>match x.1 with|k=>ts.length-k)
  [0,1] ⟨0,?_⟩ rfl ?_ ⟨rfl,rfl,rfl,rfl,trivial⟩ ?_ trivial rfl ?_
 ·exact⟨ς _,List.nodup_nil,rfl⟩
 ·repeat' constructor
 ·repeat' constructor
 rintro⟨k,hk,hnd,hI⟩
 show W _ _ _ _ _ ⟨[(1,.ptr 0 0),(3,.mp 1 (eP ik Et (kS (ts.take k) GT.id))),(24,.d (.v (.int .i64 ((k:Nat):Int)))),(22,_),(23,_)],[(0,(fQ ts ds sn).map A.d)],[1],2⟩
 refine aZ 1 Z<|aa<|cr (l:=ts) (k:=k) Z (by simp[Ex.bG,bo]) hk (fun t hx hd hlt=>?_)<|fun he hd=>?_
 ·
  rw[hd,fE]at hI
  have hst:=xP (f:=GT.id) (ts.take k) t.id
  refine ah<|qs<|aa<|W.block<|aa<|ab<|pu (indexAddr aY Z Z Z Z Z Z (ε _) (bC hx) Z) Z<|bb 1 Z<|b9 aY Z Z Z<|bt aY Z Z Z Z Z Z Z Z<|ae<|qs<|aa<|aa<|ab<|bb 1 Z<|pu (bk Z Z Z (Di t) Z) Z<|pE Z<|ae<|qs<|aZ 2 Z<|bc Z (fun h31=>?_)<|fun h31=>?_
  ·
   have ht:fE ts []=gQ t:=by rw[<-hI,if_pos (by simpa using h31)]
   have hg:dB ts ds sn=gQ t:=by unfold dB;rw[if_neg hne,if_neg h64,if_pos (by rw[ht];simpa using h31),ht]
   refine aZ 2 Z<|W.ret<|be<|bw<|be<|cE<|bw<|be<|QF.bl trivial Z ?_
   simp only[norm,bM,hg]
  rw[if_neg (by simpa using h31)]at hI
  refine ah<|qs<|aa<|aa<|ab<|bb 3 Z<|pu (nY (kf:=ik) (vf:=Et) (l:=kS (ts.take k) GT.id) (a:=t.id) (z:=false) (r:=Et (((ts.take k).map GT.id).any fun x=>decide (x=t.id))) aY Z Z Z Z Z (iZ (aY.iC Z Z)) Z Z Z (fun _ _=>.v _ Z) (by rw[qZ];exact hnd) (by rw[hst])) Z<|ae<|qs<|bc Z (fun h36=>?_)<|fun h36=>?_
  ·
   have ht:fE ts []=4:=by rw[<-hI,if_pos h36]
   have hg:dB ts ds sn=4:=by unfold dB;rw[if_neg hne,if_neg h64,if_pos (by rw[ht];decide),ht]
   refine aZ 1 Z<|W.ret<|be<|bw<|be<|cE<|bw<|be<|QF.bl trivial Z ?_
   simp only[norm,bM,hg]
  have hns:¬(((ts.take k).map GT.id).any fun x=>decide (x=t.id))=true:=by rw[show(((ts.take k).map GT.id).any fun x=>decide (x=t.id))=false from h36];simp
  rw[if_neg hns]at hI
  have hti:(ts.take (k+1)).map GT.id=(ts.take k).map GT.id++[t.id]:=by rw[Φ,hx,y'];rfl
  have hnm:t.id∉(ts.take k).map GT.id:=by intro q;exact hns (F'.2 ⟨_,q,by simp⟩)
  refine ah (qs (ab (bb 3 Z ?_)))
  first|refine rK (kf:=ik) (vf:=Et) (l:=kS (ts.take k) GT.id) (a:=t.id) (y:=true) aY 3 rfl rfl rfl rfl rfl rfl rfl (iZ (aY.iC rfl rfl)) rfl rfl (by rw[qZ];exact hnd) (by rw[FT hns hx]) rfl ?_
  refine ae<|bX<|qs<|cu 2 Z<|W.cg [0,3] ⟨k+1,?_⟩ ?_ Z ?_ ⟨rfl,rfl,rfl,rfl,trivial⟩ ?_ trivial Z
  ·exact⟨hlt,by rw[hti,List.nodup_append];exact⟨hnd,by simp,fun a ha b hb=>by simp at hb;subst hb;rintro rfl;exact hnm ha⟩,by rw[hti];exact hI⟩
  ·dsimp only;omega
  ·repeat' first|exact trivial|refine⟨rfl,?_⟩|refine⟨bF (by assumption) (by assumption),?_⟩
  repeat' constructor
 have ht:fE ts []=0:=by rw[<-hI,hd];rfl
 have hG:dB ts ds sn=if cJ ds sn≠0 then cJ ds sn else if kF ds ts=false then 5 else 0:=by unfold dB;rw[if_neg hne,if_neg h64,if_neg (by rw[ht];simp)]
 refine ak<|bP<|bQ<|bO<|qs<|aa<|aa<|ab<|bb 4 Z<|pu (bk Z Z Z (DA ds sn) Z) Z<|pE Z<|ae<|qs<|aZ 2 Z<|bc Z (fun h47=>?_)<|fun h47=>?_
 ·
  have hg:dB ts ds sn=cJ ds sn:=by rw[hG,if_pos (by simpa using h47)]
  refine aZ 2 Z<|W.ret<|be<|QF.bl trivial Z ?_
  simp only[norm,bM,hg]
 rw[if_neg (by simpa using h47)]at hG
 refine ah<|qs<|aa<|aZ 4 Z<|W.block<|W.ca (ι:={x:Nat//match x with|k=>k<=ts.length∧kF ds (ts.take k)=true})
  (fun x=>match x.1 with|k=>[(1,.ptr 0 0),(52,.d (.v (.int .i64 ((k:Nat):Int))))]) [(50,_),(51,_)]
  (fun x=>match x.1 with|k=>[(0,(fQ ts ds sn).map A.d)]) [] [] 1 (fun x=>match x.1 with|k=>ts.length-k)
  [0] ⟨0,?_⟩ rfl ?_ ⟨rfl,rfl,rfl,rfl,trivial⟩ ?_ trivial rfl ?_
 ·exact⟨ς _,rfl⟩
 ·repeat' constructor
 ·repeat' constructor
 rintro⟨k,hk,hJ⟩
 show W _ _ _ _ _ ⟨[(1,.ptr 0 0),(52,.d (.v (.int .i64 ((k:Nat):Int)))),(50,_),(51,_)],[(0,(fQ ts ds sn).map A.d)],[],1⟩
 refine aZ 1 Z<|aa<|cr (l:=ts) (k:=k) Z (by simp[Ex.bG,bo]) hk (fun t hx hd hlt=>?_)<|fun he hd=>?_
 ·
  have htk:ts.take (k+1)=ts.take k++[t]:=by rw[Φ,hx];rfl
  refine ah<|qs<|aa<|W.block<|aa<|ab<|pu (indexAddr aY Z Z Z Z Z Z (ε _) (bC hx) Z) Z<|bb 1 Z<|b9 aY Z Z Z<|bt aY Z Z Z Z Z Z Z Z<|ae<|qs<|aa<|ab<|bb 3 Z<|pu (bk Z Z Z (Gi ds t) Z) Z<|pE Z<|ae<|qs<|bc Z (fun h60=>?_)<|fun h60=>?_
  ·
   have hf:gE ds t.dom=false:=by simpa using h60
   have hg:dB ts ds sn=5:=by
    rw[hG,if_pos]
    cases q:kF ds ts with
    |false=>rfl
    |true=>have:=I'.1 q t (ζ hx);rw[hf]at this;cases this
   refine aZ 1 Z<|W.ret<|bw<|be<|cE<|bw<|be<|QF.bl trivial Z ?_
   simp only[norm,bM,hg]
  have hf:gE ds t.dom=true:=by simpa using h60
  refine ah<|bX<|qs<|cu 2 Z<|W.cg [0] ⟨k+1,?_⟩ ?_ Z ?_ ⟨rfl,rfl,rfl,rfl,trivial⟩ ?_ trivial Z
  ·exact⟨hlt,by unfold kF at hJ⊢;rw[htk,List.all_append,hJ];simp[hf]⟩
  ·dsimp only;omega
  ·repeat' first|exact trivial|refine⟨rfl,?_⟩|refine⟨bF (by assumption) (by assumption),?_⟩
  repeat' constructor
 have hg:dB ts ds sn=0:=by
  rw[hG,if_neg]
  have e:ts.take k=ts:=P' (by omega)
  rw[e]at hJ
  rw[hJ];simp
 refine ak<|bP<|bQ<|bO<|qs<|aZ 1 Z<|W.ret<|QF.bl trivial Z ?_
 simp only[norm,bM,hg]
theorem zB(l:List Ev):bm Tryz.prog 135 [.d (.sl (l.map Ev.c))] (.d (.v (.int .i64 (jg l none)))) 0:=by
 refine bm.bW (n:=35) (ts:=[2]) Tryz.func135 (by kernel_rfl) Z Tryz.ntmps135 Tryz.results135 Z Z fun C hC hG=>aZ 1 Z<|aa<|aZ 1 Z<|W.block<|W.len (t:=0) Z Z<|fun hlen=>?_;try simp only[η,Ex.bG]at hlen
 refine W.ca (ι:={x:Nat//match x with|k=>k<=l.length∧jg (l.drop k) (mF l k)=jg l none})
  (fun x=>match x.1 with|k=>[(3,.d (.v (.int .i64 ((k:Nat):Int))))]) [(0,_)]
  (fun x=>match x.1 with|k=>[]) [] [] 0 (fun x=>match x.1 with|k=>l.length-k)
  [] ⟨0,?_⟩ Z ?_ ⟨rfl,rfl,trivial⟩ ?_ trivial Z ?_
 ·exact⟨ς _,rfl⟩
 ·repeat' constructor
 ·repeat' exact trivial
 rintro⟨k,hk,I⟩;show W _ _ _ _ _ ⟨[(3,.d (.v (.int .i64 ((k:Nat):Int)))),(0,_)],[],[],0⟩;refine aa<|aZ 4 Z<|cr (l:=l) (k:=k) Z (by simp[Ex.bG,bo]) hk (fun e X hd ad=>?_)<|fun he hd=>?_;·
  rw[hd]at I;simp only[jg]at I;obtain⟨p,hp⟩:∃p:Ev,0<k->l[k-1]?=some p:=⟨l[k-1]'(by omega),fun _=>by simp⟩;have O:vJ (mF l k) e.time=(decide (0<k)&&decide (e.time<p.time)):=by
   unfold mF vJ;by_cases q:k=0;·simp[q]
   rw[if_neg q,hp (by omega)];simp;omega
  rw[O]at I;have U:mF l (k+1)=some e.time:=by unfold mF;rw[if_neg (by omega),Nat.add_sub_cancel,X];rfl
  refine ah<|qs<|aa<|W.block<|aa<|ab<|bb 2 Z<|pu (indexAddr aY Z Z Z Z Z Z (ε _) (bC X) Z) Z<|bb 1 Z<|pu (bk Z Z Z (EA e) Z) Z<|pE Z<|ae<|qs<|aa<|aZ 2 Z<|bc Z (fun J=>?_)<|fun J=>?_;·
   have hc:dq e≠0:=by simpa using J
   rw[if_pos hc]at I;refine aZ 2 Z<|W.ret<|be<|bw<|be<|cE<|bw<|be<|QF.bl trivial Z ?_;simp only[norm,bM,←I]
  have hc:dq e=0:=by simpa using J
  rw[if_neg (by simp[hc])]at I;refine ah (qs (aa ?_));apply oD aY;(case hb=>rfl);(case hB=>kernel_rfl);·
   iterate 3 refine br (ev aY Z) Z ?_
   apply oL;(case hj=>rfl);(case hl=>rfl);·
    intro g21;refine dz Z Z (ev aY Z) Z<|dz Z Z (ev aY Z) Z<|dz Z Z (indexAddr aY Z Z Z Z Z Z (ε _) (bC X) Z) Z<|dz Z Z (ev aY Z) Z<|dz Z Z (ev aY Z) Z<|dz Z Z (ev aY Z) Z<|dz Z Z (ev aY Z) Z<|dz Z Z (cW (ev aY Z) (y:=((k-1:Nat):Int)) (sub_one (by simpa using g21) (by simp only[maxLen]at hlen;omega))) Z<|dz Z Z (indexAddr (l:=p.c) aY Z Z Z Z Z Z (ε _) (bC (hp (by simpa using g21))) Z) Z<|dz Z Z (ev aY Z) Z<|dz Z Z (ev aY Z) Z<|dz Z Z (ev aY Z) Z<|br (ev aY Z) Z<|ao<|b7 Z Z Z
   intro g21;iterate 12 refine sj Z Z Z Z ?_
   refine br (ev aY Z) Z<|ao<|b7 Z Z Z
  refine qs (bc Z (fun M=>?_) (fun M=>?_));·
   have N:(decide (0<k)&&decide (e.time<p.time))=true:=by simp at M⊢;omega
   rw[if_pos N]at I;refine aZ 1 Z<|W.ret<|bw<|be<|cE<|bw<|be<|QF.bl trivial Z ?_;simp only[norm,bM,←I]
  have N:(decide (0<k)&&decide (e.time<p.time))=false:=by simp at M⊢;omega
  rw[if_neg (by rw[N];decide)]at I;refine ah<|bX<|qs<|cu 3 Z<|W.cg [] ⟨k+1,?_⟩ ?_ Z ?_ ⟨rfl,rfl,trivial⟩ ?_ trivial Z;·exact⟨ad,by rw[U];exact I⟩
  ·dsimp only;omega
  ·repeat' first|exact trivial|refine⟨bF (by assumption) (by assumption),?_⟩
  repeat' exact trivial
 rw[hd]at I;simp only[jg]at I;refine ak<|bP<|bQ<|bO<|qs<|aZ 1 Z<|W.ret<|QF.bl trivial Z ?_;simp only[norm,bM,←I]
theorem wC(n):bm Tryz.prog 134 [.d (.v (.int .i64 n))] (.d (.v (.bool (decide (0<=n)&&decide (n<=1000000000000000))))) 0:=by
 refine bm.bW (n:=9) (ts:=[2]) Tryz.func134 (by kernel_rfl) Z Tryz.ntmps134 Tryz.results134 Z Z fun C hC I=>aZ 1 Z<|aa ?_;apply bJ;(case hb=>rfl);·repeat' first|refine b7 Z Z Z|refine bE Z Z ?_|refine bD Z Z Z Z ?_|refine pE Z ?_|refine ae ?_|(apply bU;(case hj=>rfl);(case hl=>rfl))
 refine qs (W.ret (QF.bl trivial Z ?_));simp only[norm,bM];by_cases q:0<=n<;>simp[q]
theorem AO(t:GT):bm Tryz.prog 131 [.ag t.c] (.d (.v (.int .i64 (gQ t)))) 0:=by
 refine bm.bW (n:=24) (ts:=[2]) Tryz.func131 (by kernel_rfl) Z Tryz.ntmps131 Tryz.results131 Z Z fun C hC M=>aa<|ab<|cz Z Z Z<|pE Z<|ae<|qs<|aa<|aa<|?_
 apply bJ;(case hb=>rfl);·repeat' first|refine b7 Z Z Z|refine bE Z Z ?_|refine bD Z Z Z Z ?_|refine pE Z ?_|refine ae ?_|(apply bU;(case hj=>rfl);(case hl=>rfl))
 refine qs (bc Z (fun I=>?_) (fun I=>?_));·
  have J:gQ t=2:=by unfold gQ;rw[if_pos (by simp at I;omega)]
  refine aZ 1 Z<|W.ret<|be<|QF.bl trivial Z ?_;simp only[norm,bM,J]
 have J:gQ t=cw t.name:=by unfold gQ;rw[if_neg (by simp at I;omega)]
 refine ah<|qs<|aa<|ab<|bb 2 Z<|pu (bk Z Z Z (uP ..) Z) Z<|pE Z<|ae<|qs<|W.ret<|QF.bl trivial Z ?_;simp only[norm,bM,J]
theorem oT(ds:List (Int×Int))(id):bm Tryz.prog 168 [.d (.sl (ds.map dF)),.d (ci id)] (.d (.v (.int .i64 (idx (ds.findIdx? fun d=>decide (d.1=id)))))) 0:=by
 refine bm.bW (n:=20) (ts:=[4]) Tryz.func168 (by kernel_rfl) Z Tryz.ntmps168 Tryz.results168 Z Z fun C hC U=>aZ 1 Z<|aa<|aZ 1 Z<|W.block<|W.len (t:=0) Z Z<|fun hlen=>?_;try simp only[η,Ex.bG]at hlen
 refine W.ca (ι:={x:Nat//match x with|k=>k<=ds.length∧c8 (fun d:Int×Int=>decide (d.1=id)) ds k})
  (fun x=>match x.1 with|k=>[(5,.d (.v (.int .i64 ((k:Nat):Int))))]) [(0,_),(1,_)]
  (fun x=>match x.1 with|k=>[]) [] [] 0 (fun x=>match x.1 with|k=>ds.length-k)
  [] ⟨0,?_⟩ Z ?_ ⟨rfl,rfl,rfl,rfl,trivial⟩ ?_ trivial Z ?_
 ·exact⟨ς _,c8.zero⟩
 ·repeat' constructor
 ·repeat' exact trivial
 rintro⟨k,O,J⟩;show W _ _ _ _ _ ⟨[(5,.d (.v (.int .i64 ((k:Nat):Int)))),(0,_),(1,_)],[],[],0⟩;refine aa<|aZ 4 Z<|cr (l:=ds) (k:=k) Z (by simp[Ex.bG,bo]) O (fun x M hd N=>?_)<|fun he hd=>?_;·
  refine ah<|qs<|aa<|W.block<|aa<|ab<|bb 2 Z<|pu (indexAddr (l:=dF x) aY Z Z Z Z Z Z (ε _) (bC M) Z) Z<|bb 4 Z<|ae<|qs<|bc Z (fun I=>?_)<|fun I=>?_;·
   refine aZ 2 Z<|W.ret<|bw<|be<|cE<|bw<|be<|QF.bl trivial Z ?_;simp only[norm,bM];rw[J.found M I];rfl
  refine ah<|bX<|qs<|cu 3 Z<|W.cg [] ⟨k+1,?_⟩ ?_ Z ?_ ⟨rfl,rfl,rfl,rfl,trivial⟩ ?_ trivial Z;·exact⟨N,J.step M I⟩
  ·dsimp only;omega
  ·repeat' first|exact trivial|refine⟨bF (by assumption) (by assumption),?_⟩
  repeat' exact trivial
 refine ak<|bP<|bQ<|bO<|qs<|aZ 1 Z<|W.ret<|QF.bl trivial Z ?_;simp only[norm,bM];rw[J.end_ he];rfl
theorem Ac(a):bm Tryz.prog 185 [.d (ci a)] (.d (.v (.bool (pX a)))) 0:=by
 refine bm.bW (n:=9) (ts:=[2]) Tryz.func185 (by kernel_rfl) Z Tryz.ntmps185 Tryz.results185 Z Z fun C hC I=>aZ 1 Z<|aa ?_;apply bJ;(case hb=>rfl);·repeat' first|refine b7 Z Z Z|refine bE Z Z ?_|refine bD Z Z Z Z ?_|refine pE Z ?_|refine ae ?_|(apply bU;(case hj=>rfl);(case hl=>rfl))
 refine qs (W.ret (QF.bl trivial Z ?_));simp only[norm,bM];unfold pX;cases decide (0<=a)<;>rfl
theorem E7(ds:List (Int×Int))(x:Sn):bm Tryz.prog 169 [.d (.sl (ds.map dF)),.ag x.c] (.d (.v (.int .i64 (eR ds x)))) 0:=by
 refine bm.bW (n:=52) (ts:=[4]) Tryz.func169 (by kernel_rfl) Z Tryz.ntmps169 Tryz.results169 Z Z fun C hC U=>aa<|ab<|cz Z Z Z<|pE Z<|ae<|qs<|aa<|W.block<|aa ?_;apply bJ;(case hb=>rfl);·repeat' first|refine b7 Z Z Z|refine bE Z Z ?_|refine bD Z Z Z Z ?_|refine pE Z ?_|refine pu (bk Z Z Z (oT ds x.a) Z) Z ?_|refine ae ?_|refine pu (bk Z Z Z (oT ds x.b) Z) Z ?_|(apply bU;(case hj=>rfl);(case hl=>rfl))
 refine qs (bc Z (fun h5=>?_) (fun h5=>?_));·
  have I:eR ds x=5:=by simp only[gR]at*;unfold eR;rw[if_pos (by cases q1:gE ds x.a<;>cases q2:gE ds x.b<;>simp_all)]
  refine aZ 1 Z<|W.ret<|bw<|be<|QF.bl trivial Z ?_;rw[I];rfl
 have J:¬(gE ds x.a=false∨gE ds x.b=false):=by simp only[gR]at*;cases q1:gE ds x.a<;>cases q2:gE ds x.b<;>simp_all
 refine aZ 6 Z<|bc Z (fun M=>?_)<|fun M=>?_;·
  have I:eR ds x=1:=by unfold eR;rw[if_neg J,if_pos (B' M)]
  refine aZ 1 Z<|W.ret<|bw<|be<|QF.bl trivial Z ?_;rw[I];rfl
 have N:¬x.a=x.b:=O' M;refine aa ?_;apply bJ;(case hb=>rfl);·repeat' first|refine b7 Z Z Z|refine bE Z Z ?_|refine bD Z Z Z Z ?_|refine pE Z ?_|refine pu (bk Z Z Z (Ac ..) Z) Z ?_|refine ae ?_|(apply bU;(case hj=>rfl);(case hl=>rfl))
 refine qs (bc Z (fun O=>?_) (fun O=>?_));·
  have I:eR ds x=2:=by unfold eR;rw[if_neg J,if_neg N,if_pos];cases q1:pX x.ata<;>cases q2:pX x.lo<;>cases q3:pX x.hi<;>simp_all
  refine aZ 1 Z<|W.ret<|bw<|be<|QF.bl trivial Z ?_;rw[I];rfl
 have I:eR ds x=0:=by unfold eR;rw[if_neg J,if_neg N,if_neg];cases q1:pX x.ata<;>cases q2:pX x.lo<;>cases q3:pX x.hi<;>simp_all
 refine ah<|bX<|qs<|aZ 1 Z<|W.ret<|QF.bl trivial Z ?_;rw[I];rfl
theorem yB{ds:List (Int×Int)}{d:Int×Int}(I:ds[k]?=some d):decide (idx (ds.findIdx? fun x=>decide (x.1=d.1))<(k:Int))=gE (ds.take k) d.1:=by
 have O:=(δ.1 I).1;have N:=(δ.1 I).2
 cases h:ds.findIdx? (fun x=>decide (x.1=d.1))with
 |none=>have:=List.findIdx?_eq_none_iff.1 h d (ζ I);simp at this
 |some j=>
  obtain⟨hj,h1,h2⟩:=List.findIdx?_eq_some_iff_getElem.1 h;show decide ((j:Int)<(k:Int))=_;by_cases q:j<k;·
   rw[decide_eq_true (by omega)];refine(F'.2 ⟨ds[j],?_,h1⟩).symm;exact ψ.2 ⟨j,by rw[List.getElem?_take_of_lt q];simp[hj]⟩
  rw[decide_eq_false (by omega)];refine(List.any_eq_false.2 fun y M=>?_).symm;obtain⟨i,hi⟩:=ψ.1 M;have J:i<k:=by have:=(δ.1 hi).1;rw[V']at this;omega
  rw[List.getElem?_take_of_lt J]at hi;have:=h2 i (by omega);rw[(δ.1 hi).2]at this;exact this
theorem vz(ds:List (Int×Int))(sn:List Sn):bm Tryz.prog 132 [.d (.sl (ds.map dF)),.d (.sl (sn.map Sn.c))] (.d (.v (.int .i64 (cJ ds sn)))) 0:=by
 refine bm.bW (n:=94) (ts:=[4]) Tryz.func132 (by kernel_rfl) Z Tryz.ntmps132 Tryz.results132 Z Z fun C hC hG=>aZ 1 Z<|aa<|W.block<|aZ 4 Z<|bc Z (fun h8=>?_)<|fun h8=>?_;·
  have I:cJ ds sn=8:=by simp at h8;unfold cJ;rw[if_pos h8]
  refine aZ 1 Z<|W.ret<|bw<|be<|QF.bl trivial Z ?_;rw[I];rfl
 obtain⟨d,r,U⟩:∃d r,ds=d::r:=by
  cases ds with
  |nil=>simp at h8
  |cons d r=>exact⟨d,r,rfl⟩
 have M:ds≠[]:=by rw[U];simp
 have hh:ds.head?=some d:=by rw[U];rfl
 refine aa ?_;apply bJ;(case hb=>rfl);·
  refine bb 4 Z ?_;apply dP;(case hj=>rfl);(case hl=>rfl);·
   intro g16;refine bD Z Z Z Z<|bD Z Z Z Z<|bD Z Z Z Z<|bb 2 Z ?_
   refine ae (b7 Z Z Z)
  intro g16;refine bE Z Z<|pE Z<|bE Z Z<|pE Z<|bE Z Z<|bb 3 Z<|ae<|b7 Z Z Z
 refine qs (bc Z (fun X=>?_) (fun X=>?_));·
  have I:cJ ds sn=7:=by unfold cJ;rw[if_neg M,if_pos (by simp at X;omega)]
  refine aZ 1 Z<|W.ret<|bw<|be<|QF.bl trivial Z ?_;rw[I];rfl
 have hl:¬(8<ds.length∨200<sn.length):=by simp at X;omega
 refine aa ?_;apply bJ;(case hb=>rfl);·
  refine pE Z<|pu (indexAddr (l:=dF d) aY Z Z Z Z Z Z (by decide) (by rw[U];rfl) Z) Z<|bb 4 Z ?_;apply dP;(case hj=>rfl);(case hl=>rfl);·
   intro a8;refine bD Z Z Z Z<|bD Z Z Z Z<|bD Z Z Z Z<|bD Z Z Z Z<|bD Z Z Z Z<|bb 2 Z ?_
   refine ae (b7 Z Z Z)
  intro a8;refine bE Z Z<|pE Z<|bE Z Z<|pu (indexAddr (l:=dF d) aY Z Z Z Z Z Z (by decide) (by rw[U];rfl) Z) Z<|bE Z Z<|pE Z<|bE Z Z<|bb 1 Z<|bE Z Z<|bb 3 Z<|ae<|b7 Z Z Z
 refine qs (bc Z (fun a7=>?_) (fun a7=>?_));·
  have I:cJ ds sn=10:=by unfold cJ;rw[if_neg M,if_neg hl,if_pos];rw[hh];intro q;simp only[Option.some.injEq]at q;subst q;simp at a7
  refine aZ 1 Z<|W.ret<|bw<|be<|QF.bl trivial Z ?_;rw[I];rfl
 have ad:¬ds.head?≠some (0,0):=by rw[hh];obtain⟨d1,d2⟩:=d;by_cases e1:d1=0<;>by_cases e2:d2=0<;>simp_all
 refine ah<|bX<|qs<|aa<|aZ 1 Z<|W.block<|W.len (t:=0) Z Z<|fun hlen=>?_;try simp only[η,Ex.bG]at hlen
 refine W.ca (ι:={x:Nat//match x with|k=>k<=ds.length∧iI (ds.drop k) (ds.take k)=iI ds []})
  (fun x=>match x.1 with|k=>[(5,.d (.v (.int .i64 ((k:Nat):Int))))]) [(0,_),(1,_)]
  (fun x=>match x.1 with|k=>[]) [] [] 0 (fun x=>match x.1 with|k=>ds.length-k)
  [] ⟨0,?_⟩ Z ?_ ⟨rfl,rfl,rfl,rfl,trivial⟩ ?_ trivial Z ?_
 ·exact⟨ς _,rfl⟩
 ·repeat' constructor
 ·repeat' exact trivial
 rintro⟨k,hk,N⟩;show W _ _ _ _ _ ⟨[(5,.d (.v (.int .i64 ((k:Nat):Int)))),(0,_),(1,_)],[],[],0⟩;refine aa<|aZ 4 Z<|cr (l:=ds) (k:=k) Z (by simp[Ex.bG,bo]) hk (fun x J hd ai=>?_)<|fun he hd=>?_;·
  rw[hd,iI]at N;have b0:ds.take (k+1)=ds.take k++[x]:=by rw[Φ,J];rfl
  refine ah<|qs<|aa<|W.block<|aa<|aa<|?_
  apply bJ;(case hb=>rfl);·
   refine bb 2 Z<|pu (indexAddr (l:=dF x) aY Z Z Z Z Z Z (ε _) (bC J) Z) Z<|bb 4 Z ?_;apply dP;(case hj=>rfl);(case hl=>rfl);·
    intro b2;iterate 6 refine bD Z Z Z Z ?_
    refine bb 2 Z ?_;iterate 6 refine bD Z Z Z Z ?_
    refine bb 2 Z ?_;iterate 6 refine bD Z Z Z Z ?_
    refine pE Z (ae (b7 Z Z Z))
   intro b2;refine bE Z Z<|pE Z<|bE Z Z<|pE Z<|bE Z Z<|pu (indexAddr (l:=dF x) aY Z Z Z Z Z Z (ε _) (bC J) Z) Z<|bE Z Z<|pE Z<|bE Z Z<|bb 1 Z<|bE Z Z<|bb 3 Z ?_;apply dP;(case hj=>rfl);(case hl=>rfl);·
    intro b3;iterate 6 refine bD Z Z Z Z ?_
    refine bb 2 Z ?_;iterate 6 refine bD Z Z Z Z ?_
    refine pE Z (ae (b7 Z Z Z))
   intro b3;refine bE Z Z<|pE Z<|bE Z Z<|pE Z<|bE Z Z<|pu (indexAddr (l:=dF x) aY Z Z Z Z Z Z (ε _) (bC J) Z) Z<|bE Z Z<|pE Z<|bE Z Z<|bb 1 Z<|bE Z Z<|bb 3 Z ?_;apply dP;(case hj=>rfl);(case hl=>rfl);·
    intro b4;iterate 6 refine bD Z Z Z Z ?_
    refine pE Z (ae (b7 Z Z Z))
   intro b4;refine bE Z Z<|pE Z<|bE Z Z<|pE Z<|bE Z Z<|pu (indexAddr (l:=dF x) aY Z Z Z Z Z Z (ε _) (bC J) Z) Z<|bE Z Z<|pE Z<|bE Z Z<|bb 1 Z<|bE Z Z<|bb 2 Z<|ae<|b7 Z Z Z
  refine qs (bc Z (fun aj=>?_) (fun aj=>?_));·
   have hb:qj x=true:=by unfold qj;simp at aj⊢;omega
   have O:iI ds []=2:=by rw[<-N,if_pos hb]
   have I:cJ ds sn=2:=by unfold cJ;rw[if_neg M,if_neg hl,if_neg ad,if_pos (by rw[O];decide),O]
   refine aZ 1 Z<|W.ret<|be<|bw<|be<|cE<|bw<|be<|QF.bl trivial Z ?_;rw[I];rfl
  have hb:qj x=false:=by unfold qj;simp at aj⊢;omega
  rw[if_neg (by rw[hb];decide)]at N;refine ah<|qs<|aa<|ab<|bb 3 Z<|pu (indexAddr (l:=dF x) aY Z Z Z Z Z Z (ε _) (bC J) Z) Z<|bb 2 Z<|pu (bk Z Z Z (oT ds x.1) Z) Z<|bb 2 Z<|ae<|qs<|bc Z (fun a1=>?_)<|fun a1=>?_;·
   have O:iI ds []=4:=by rw[<-N,if_pos (by rw[<-yB J];exact a1)]
   have I:cJ ds sn=4:=by unfold cJ;rw[if_neg M,if_neg hl,if_neg ad,if_pos (by rw[O];decide),O]
   refine aZ 1 Z<|W.ret<|bw<|be<|cE<|bw<|be<|QF.bl trivial Z ?_;rw[I];rfl
  rw[if_neg (by rw[<-yB J,a1];decide),←b0]at N;refine ah<|bX<|qs<|cu 3 Z<|W.cg [] ⟨k+1,?_⟩ ?_ Z ?_ ⟨rfl,rfl,rfl,rfl,trivial⟩ ?_ trivial Z;·exact⟨ai,N⟩
  ·dsimp only;omega
  ·repeat' first|exact trivial|refine⟨bF (by assumption) (by assumption),?_⟩
  repeat' exact trivial
 have O:iI ds []=0:=by rw[<-N,hd];rfl
 have hc:cJ ds sn=kM ds sn:=by unfold cJ;rw[if_neg M,if_neg hl,if_neg ad,if_neg (by rw[O];decide)]
 refine ak<|bP<|bQ<|bO<|qs<|aa<|aZ 1 Z<|W.block<|W.len (t:=1) Z Z<|fun hlen=>?_;try simp only[η,Ex.bG]at hlen
 refine W.ca (ι:={x:Nat//match x with|k=>k<=sn.length∧kM ds (sn.drop k)=kM ds sn})
  (fun x=>match x.1 with|k=>[(6,.d (.v (.int .i64 ((k:Nat):Int))))]) [(0,_),(1,_)]
  (fun x=>match x.1 with|k=>[]) [] [] 0 (fun x=>match x.1 with|k=>sn.length-k)
  [] ⟨0,?_⟩ Z ?_ ⟨rfl,rfl,rfl,rfl,trivial⟩ ?_ trivial Z ?_
 ·exact⟨ς _,rfl⟩
 ·repeat' constructor
 ·repeat' exact trivial
 rintro⟨k,hk,hJ⟩;show W _ _ _ _ _ ⟨[(6,.d (.v (.int .i64 ((k:Nat):Int)))),(0,_),(1,_)],[],[],0⟩;refine aa<|aZ 4 Z<|cr (l:=sn) (k:=k) Z (by simp[Ex.bG,bo]) hk (fun y J hd ai=>?_)<|fun he hd=>?_;·
  rw[hd,kM]at hJ;refine ah<|qs<|aa<|W.block<|aa<|ab<|bb 3 Z<|pu (indexAddr (l:=y.c) aY Z Z Z Z Z Z (ε _) (bC J) Z) Z<|bb 1 Z<|pu (bk Z Z Z (E7 ds y) Z) Z<|pE Z<|ae<|qs<|aZ 2 Z<|bc Z (fun a6=>?_)<|fun a6=>?_;·
   have I:cJ ds sn=eR ds y:=by rw[hc,←hJ,if_pos (by simpa using a6)]
   refine aZ 2 Z<|W.ret<|bw<|be<|cE<|bw<|be<|QF.bl trivial Z ?_;rw[I];rfl
  rw[if_neg (by simpa using a6)]at hJ;refine ah<|bX<|qs<|cu 3 Z<|W.cg [] ⟨k+1,?_⟩ ?_ Z ?_ ⟨rfl,rfl,rfl,rfl,trivial⟩ ?_ trivial Z;·exact⟨ai,hJ⟩
  ·dsimp only;omega
  ·repeat' first|exact trivial|refine⟨bF (by assumption) (by assumption),?_⟩
  repeat' exact trivial
 have I:cJ ds sn=0:=by rw[hc,←hJ,hd];rfl
 refine ak<|bP<|bQ<|bO<|qs<|aZ 1 Z<|W.ret<|QF.bl trivial Z ?_;rw[I];rfl
theorem EC(ps:List bH)(hl:ps.length<=1000)(h:(ps.map fun p=>p.evs.length).sum<=20000):bm Tryz.prog 85 [.d (.sl (ps.map bH.c))] (.d (.v (.int .i64 (((ps.map fun p=>p.evs.length).sum:Nat):Int)))) 0:=by
 have hml:ps.length<=maxLen:=by simp only[maxLen];omega
 refine bm.bW (n:=20) (ts:=[2]) Tryz.func85 (by kernel_rfl) Z Tryz.ntmps85 Tryz.results85 Z Z fun C hC hG=>aZ 1 Z<|aZ 1 Z<|aa<|aZ 1 Z<|W.block<|W.ca (ι:={x:Nat//match x with|k=>k<=ps.length})
  (fun x=>match x.1 with|k=>[(3,.d (.v (.int .i64 ((((ps.take k).map fun p=>p.evs.length).sum:Nat):Int)))),(4,.d (.v (.int .i64 ((k:Nat):Int))))]) [(0,_)]
  (fun x=>match x.1 with|k=>[]) [] [] 0 (fun x=>match x.1 with|k=>ps.length-k)
  [] ⟨0,?_⟩ rfl ?_ ⟨rfl,rfl,trivial⟩ ?_ trivial rfl ?_
 ·exact ς _
 ·repeat' constructor
 ·repeat' exact trivial
 rintro⟨k,hk⟩
 show W _ _ _ _ _ ⟨[(3,.d (.v (.int .i64 ((((ps.take k).map fun p=>p.evs.length).sum:Nat):Int)))),(4,.d (.v (.int .i64 ((k:Nat):Int)))),(0,_)],[],[],0⟩
 refine aa<|aZ 4 Z<|cr (l:=ps) (k:=k) Z (by simp[Ex.bG,bo]) hk (fun p hx hd hlt=>?_)<|fun he hd=>?_
 ·
  have hst:=yA (f:=fun p:bH=>p.evs.length) hx
  have hle:=AJ (f:=fun p:bH=>p.evs.length) ps (k+1)
  refine ah<|qs<|aa<|W.block<|ab<|bb 3 Z<|pu (indexAddr aY Z Z Z Z Z Z (ε _) (bC hx) Z) Z<|bb 3 Z<|pu (cW (ev aY Z) (y:=((((ps.take (k+1)).map fun p=>p.evs.length).sum:Nat):Int)) (by show IntKind.i64.wrap ((((ps.take k).map fun p=>p.evs.length).sum:Nat)+((p.evs.map Ev.c).length:Nat):Int)=_;rw[η,hst];exact(wrap64 (by omega)).trans (by omega))) Z<|pE Z<|ae<|bX<|qs<|cu 3 Z<|W.cg [] ⟨k+1,?_⟩ ?_ Z ?_ ⟨rfl,rfl,trivial⟩ ?_ trivial Z
  ·exact hlt
  ·dsimp only;omega
  ·repeat' first|exact trivial|refine⟨rfl,?_⟩|refine⟨bF (by assumption) (by assumption),?_⟩
  repeat' exact trivial
 have hpt:ps.take k=ps:=P' (by omega)
 refine ak<|bP<|bQ<|bO<|qs<|aZ 2 Z<|W.ret<|QF.bl trivial Z ?_
 rw[hpt];rfl
def v8(ds:List (Int×Int))(id:Int):Bool:=decide (cJ ds []=0)&&gE ds id
def Ak(ds:List (Int×Int))(id:Int):Int:=if v8 ds id=true then(match ds.findIdx? fun d=>decide (d.1=id)with
 |some j=>(match ds[j]?with|some d=>d.2|none=>0)
 |none=>0)else 0
theorem Gy(ds:List (Int×Int))(id):bm Tryz.prog 133 [.d (.sl (ds.map dF)),.d (ci id)] (.tup [.d (ci (Ak ds id)),.d (.v (.bool (v8 ds id)))]) 0:=by
 refine bm.bW (n:=22) (ts:=[4,5]) Tryz.func133 (by kernel_rfl) Z Tryz.ntmps133 Tryz.results133 Z Z fun C hC hG=>aZ 2 Z<|aa<|ab<|bb 2 Z<|pu (bk Z Z Z (oT ds id) Z) Z<|pE Z<|ae<|qs<|aa<|aa<|?_
 apply bJ;(case hb=>rfl);·repeat' first|refine b7 Z Z Z|refine bE Z Z ?_|refine bD Z Z Z Z ?_|refine pE Z ?_|refine pu (bk Z Z Z (bm.KZ (xs:=[.d (.sl (ds.map dF))]) (ys:=[]) (vz ds [])) Z) Z ?_|refine ae ?_|(apply bU;(case hj=>rfl);(case hl=>rfl))
 refine qs (bc Z (fun J=>?_) (fun J=>?_));·
  have I:v8 ds id=false:=by simp only[gR]at J;unfold v8;by_cases q:cJ ds []=0<;>cases q2:gE ds id<;>simp_all
  have M:Ak ds id=0:=by unfold Ak;rw[if_neg (by rw[I];decide)]
  refine aZ 2 Z<|W.ret<|be<|QF.bl trivial Z ?_;rw[I,M];rfl
 have I:v8 ds id=true:=by simp only[gR]at J;unfold v8;by_cases q:cJ ds []=0<;>cases q2:gE ds id<;>simp_all
 have hh:gE ds id=true:=by unfold v8 at I;simp at I;exact I.2
 obtain⟨j,hj⟩:∃j,ds.findIdx? (fun d=>decide (d.1=id))=some j:=by
  cases q:ds.findIdx? (fun d=>decide (d.1=id))with
  |some j=>exact⟨j,rfl⟩
  |none=>have h1:=List.findIdx?_eq_none_iff.1 q;obtain⟨d,hd,O⟩:=F'.1 hh;have:=h1 d hd;rw[O]at this;cases this
 obtain⟨U,_⟩:=List.findIdx?_eq_some_iff_getElem.1 hj;have X:ds[j]?=some ds[j]:=by simp[U]
 have M:Ak ds id=(ds[j]).2:=by unfold Ak;rw[if_pos I,hj];simp only;rw[X]
 have N:idx (ds.findIdx? fun d=>decide (d.1=id))=(j:Int):=by rw[hj];rfl
 rw[N];refine ah<|qs<|aa<|ab<|bb 2 Z<|pu (indexAddr (l:=dF ds[j]) aY Z Z Z Z Z Z (ε _) (bC X) Z) Z<|bb 4 Z<|ae<|qs<|W.ret<|QF.bl trivial Z ?_;rw[I,M];rfl
theorem Bw{ds sn}(h:cJ ds sn=0)(id):v8 ds id=gE ds id:=by
 have:cJ ds []=0:=by
  unfold cJ at h⊢;split at h;·cases h
  rename_i q1;rw[if_neg q1];split at h;·cases h
  rename_i q2;rw[if_neg (by simp;omega)];split at h;·cases h
  rename_i q3;rw[if_neg q3];split at h;·rename_i q4;exact absurd h q4
  rename_i q4;rw[if_neg q4];rfl
 unfold v8;rw[this];rfl
theorem DC(ts ds sn):bm Tryz.prog 81 [.ag (fQ ts ds sn)] (.d (.v (.int .i64 (dB ts ds sn)))) 0:=by
 refine bm.bW (n:=81) (ts:=[2]) Tryz.func81 (by kernel_rfl) Z Tryz.ntmps81 Tryz.results81 Z Z fun C hC hG=>aa<|ab<|cz Z Z Z<|pE Z<|ae<|qs<|aa<|aZ 4 Z<|bc Z (fun h13=>?_)<|fun h13=>?_
 ·
  have hg:dB ts ds sn=8:=by simp at h13;unfold dB;rw[if_pos h13]
  refine aZ 1 Z<|W.ret<|be<|QF.bl trivial Z ?_
  rw[hg];rfl
 have hne:ts≠[]:=by simpa using h13
 refine ah<|qs<|aa<|aZ 4 Z<|bc Z (fun h17=>?_)<|fun h17=>?_
 ·
  have hg:dB ts ds sn=7:=by simp at h17;unfold dB;rw[if_neg hne,if_pos (by omega)]
  refine aZ 1 Z<|W.ret<|be<|QF.bl trivial Z ?_
  rw[hg];rfl
 have h64:¬64<ts.length:=by simp at h17;omega
 have hml:ts.length<=maxLen:=by simp only[maxLen];omega
 refine ah<|qs<|aa<|aZ 1 Z<|W.block<|W.ca (ι:={x:Nat//match x with|k=>k<=ts.length∧fE (ts.drop k) ((ts.take k).map GT.id)=fE ts []})
  (fun x=>match x.1 with|k=>[(1,.ptr 0 0),(3,.d (.v (.int .i64 ((k:Nat):Int))))]) []
  (fun x=>match x.1 with|k=>[(0,(fQ ts ds sn).map A.d)]) [] [] 1 (fun x=>match x.1 with|k=>ts.length-k)
  [0] ⟨0,?_⟩ rfl ?_ trivial ?_ trivial rfl ?_
 ·exact⟨ς _,rfl⟩
 ·repeat' constructor
 ·repeat' constructor
 rintro⟨k,hk,hI⟩
 show W _ _ _ _ _ ⟨[(1,.ptr 0 0),(3,.d (.v (.int .i64 ((k:Nat):Int))))],[(0,(fQ ts ds sn).map A.d)],[],1⟩
 refine aa<|aZ 5 Z<|cr (l:=ts) (k:=k) Z (by simp[Ex.bG,bo]) hk (fun t hx hd hlt=>?_)<|fun he hd=>?_
 ·
  rw[hd,fE]at hI
  refine ah<|qs<|aa<|W.block<|aa<|ab<|bb 3 Z<|pu (indexAddr aY Z Z Z Z Z Z (ε _) (bC hx) Z) Z<|bb 1 Z<|pu (bk Z Z Z (AO t) Z) Z<|pE Z<|ae<|qs<|aa<|aZ 2 Z<|bc Z (fun h32=>?_)<|fun h32=>?_
  ·
   have ht:fE ts []=gQ t:=by rw[<-hI,if_pos (by simpa using h32)]
   have hg:dB ts ds sn=gQ t:=by unfold dB;rw[if_neg hne,if_neg h64,if_pos (by rw[ht];simpa using h32),ht]
   refine aZ 2 Z<|W.ret<|be<|bw<|be<|cE<|bw<|be<|QF.bl trivial Z ?_
   rw[hg];rfl
  rw[if_neg (by simpa using h32)]at hI
  refine ah<|qs<|aZ 1 Z<|W.block<|W.ca (ι:={x:Nat//match x with|j=>j<=k∧t.id∉(ts.take j).map GT.id})
   (fun x=>match x.1 with|j=>[(1,.ptr 0 0),(5,.d (.v (.int .i64 ((j:Nat):Int))))]) [(3,_)]
   (fun x=>match x.1 with|j=>[(0,(fQ ts ds sn).map A.d)]) [] [] 1 (fun x=>match x.1 with|j=>k-j)
   [0] ⟨0,?_⟩ rfl ?_ ⟨rfl,rfl,trivial⟩ ?_ trivial rfl ?_
  ·exact⟨ς _,by simp⟩
  ·repeat' constructor
  ·repeat' constructor
  rintro⟨j,hj,hJ⟩
  show W _ _ _ _ _ ⟨[(1,.ptr 0 0),(5,.d (.v (.int .i64 ((j:Nat):Int)))),(3,_)],[(0,(fQ ts ds sn).map A.d)],[],1⟩
  refine aa<|aZ 3 Z<|bc Z (fun h36=>?_)<|fun h36=>?_
  ·
   have hjk:j<k:=by simp at h36;omega
   obtain⟨u,hu⟩:∃u,ts[j]?=some u:=⟨ts[j]'(by omega),by simp⟩
   have hum:u.id∈(ts.take k).map GT.id:=R'.2 ⟨u,ζ (by rw[List.getElem?_take_of_lt hjk];exact hu),rfl⟩
   refine ah<|qs<|aa<|W.block<|aa<|W.dD aY (by kernel_rfl)<|br (ev aY Z) Z<|br (ev aY Z) Z<|br (ev aY Z) Z<|br (indexAddr aY Z Z Z Z Z Z (ε _) (bC hu) Z) Z<|br (ev aY Z) Z<|br (ev aY Z) Z<|br (ev aY Z) Z<|br (ev aY Z) Z<|br (ev aY Z) Z<|br (indexAddr aY Z Z Z Z Z Z (ε _) (bC hx) Z) Z<|br (ev aY Z) Z<|br (ev aY Z) Z<|br (ev aY Z) Z<|ao<|qs<|bc Z (fun h51=>?_)<|fun h51=>?_
   ·
    have he:u.id=t.id:=B' h51
    have ht:fE ts []=4:=by rw[<-hI,if_pos (F'.2 ⟨_,hum,by simp[he]⟩)]
    have hg:dB ts ds sn=4:=by unfold dB;rw[if_neg hne,if_neg h64,if_pos (by rw[ht];decide),ht]
    refine aZ 1 Z<|W.ret<|bw<|be<|cE<|bw<|bw<|be<|cE<|bw<|be<|QF.bl trivial Z ?_
    rw[hg];rfl
   have he:¬u.id=t.id:=O' h51
   refine ah<|bX<|qs<|ab<|pE Z<|pu (cW (ev aY Z) (y:=((j+1:Nat):Int)) ((wrap64 (by omega)).trans (by omega))) Z<|pE Z<|ae<|W.cg [0] ⟨j+1,?_⟩ ?_ Z ?_ ⟨rfl,rfl,trivial⟩ ?_ trivial Z
   ·exact⟨hjk,by rw[Φ,hu,y',D'];rintro(q|q);exact hJ q;simp at q;exact he q.symm⟩
   ·dsimp only;omega
   ·repeat' constructor
   repeat' constructor
  have hjk:j=k:=by simp at h36;omega
  subst hjk
  have hti:(ts.take (j+1)).map GT.id=(ts.take j).map GT.id++[t.id]:=by rw[Φ,hx,y'];rfl
  rw[if_neg (by simp only[F',Δ,not_exists,not_and];rintro x hx2 rfl;exact hJ hx2),←hti]at hI
  refine ak<|bP<|bQ<|bO<|bX<|qs<|cu 3 Z<|W.cg [0] ⟨j+1,?_⟩ ?_ Z ?_ trivial ?_ trivial Z
  ·exact⟨hlt,hI⟩
  ·dsimp only;omega
  ·repeat' first|exact trivial|refine⟨rfl,?_⟩|refine⟨bF (by assumption) (by assumption),?_⟩
  repeat' constructor
 have ht:fE ts []=0:=by rw[<-hI,hd];rfl
 have hG:dB ts ds sn=if cJ ds sn≠0 then cJ ds sn else if kF ds ts=false then 5 else 0:=by unfold dB;rw[if_neg hne,if_neg h64,if_neg (by rw[ht];simp)]
 refine ak<|bP<|bQ<|bO<|qs<|aa<|ab<|bb 4 Z<|pu (bk Z Z Z (vz ds sn) Z) Z<|pE Z<|ae<|qs<|aa<|aZ 2 Z<|bc Z (fun h58=>?_)<|fun h58=>?_
 ·
  have hg:dB ts ds sn=cJ ds sn:=by rw[hG,if_pos (by simpa using h58)]
  refine aZ 2 Z<|W.ret<|be<|QF.bl trivial Z ?_
  rw[hg];rfl
 have hc0:cJ ds sn=0:=by simpa using h58
 rw[if_neg (by simp[hc0])]at hG
 refine ah<|qs<|aa<|aZ 1 Z<|W.block<|W.ca (ι:={x:Nat//match x with|k=>k<=ts.length∧kF ds (ts.take k)=true})
  (fun x=>match x.1 with|k=>[(1,.ptr 0 0),(7,.d (.v (.int .i64 ((k:Nat):Int))))]) []
  (fun x=>match x.1 with|k=>[(0,(fQ ts ds sn).map A.d)]) [] [] 1 (fun x=>match x.1 with|k=>ts.length-k)
  [0] ⟨0,?_⟩ rfl ?_ trivial ?_ trivial rfl ?_
 ·exact⟨ς _,rfl⟩
 ·repeat' constructor
 ·repeat' constructor
 rintro⟨k,hk,hJ⟩
 show W _ _ _ _ _ ⟨[(1,.ptr 0 0),(7,.d (.v (.int .i64 ((k:Nat):Int))))],[(0,(fQ ts ds sn).map A.d)],[],1⟩
 refine aa<|aZ 5 Z<|cr (l:=ts) (k:=k) Z (by simp[Ex.bG,bo]) hk (fun t hx hd hlt=>?_)<|fun he hd=>?_
 ·
  have htk:ts.take (k+1)=ts.take k++[t]:=by rw[Φ,hx];rfl
  refine ah<|qs<|aa<|W.block<|aa<|W.dD aY (by kernel_rfl)<|br (ev aY Z) Z<|br (ev aY Z) Z<|br (ev aY Z) Z<|br (ev aY Z) Z<|br (ev aY Z) Z<|br (indexAddr aY Z Z Z Z Z Z (ε _) (bC hx) Z) Z<|br (ev aY Z) Z<|br (ev aY Z) Z<|br (bk Z Z Z (Gy ds t.dom) Z) Z<|br (ev aY Z) Z<|br (ev aY Z) Z<|br (ev aY Z) Z<|br (ev aY Z) Z<|br (ev aY Z) Z<|ao<|qs<|aZ 2 Z<|bc Z (fun h80=>?_)<|fun h80=>?_
  ·
   have hf:gE ds t.dom=false:=by rw[<-Bw hc0];simpa using h80
   have hg:dB ts ds sn=5:=by
    rw[hG,if_pos]
    cases q:kF ds ts with
    |false=>rfl
    |true=>have:=I'.1 q t (ζ hx);rw[hf]at this;cases this
   refine aZ 1 Z<|W.ret<|bw<|be<|cE<|bw<|be<|QF.bl trivial Z ?_
   rw[hg];rfl
  have hf:gE ds t.dom=true:=by rw[<-Bw hc0];simpa using h80
  refine ah<|bX<|qs<|cu 3 Z<|W.cg [0] ⟨k+1,?_⟩ ?_ Z ?_ trivial ?_ trivial Z
  ·exact⟨hlt,by unfold kF at hJ⊢;rw[htk,List.all_append,hJ];simp[hf]⟩
  ·dsimp only;omega
  ·repeat' first|exact trivial|refine⟨rfl,?_⟩|refine⟨bF (by assumption) (by assumption),?_⟩
  repeat' constructor
 have hg:dB ts ds sn=0:=by
  rw[hG,if_neg]
  have e:ts.take k=ts:=P' (by omega)
  rw[e]at hJ
  rw[hJ];simp
 refine ak<|bP<|bQ<|bO<|qs<|aZ 1 Z<|W.ret<|QF.bl trivial Z ?_
 rw[hg];rfl
theorem um(n):(!(decide (0<=n)&&decide (n<=1000000000000000)))=fc n:=by unfold fc;by_cases h1:0<=n<;>by_cases h2:n<=1000000000000000<;>simp[h1,h2]<;>omega
theorem AR(p:bH)(hs:p.evs.length<=140737488355328):bm Tryz.prog 82 [.ag p.c] (.d (.v (.int .i64 (cD p)))) 0:=by
 have hw:∀s:Int,0<=s->s<=1000000000000000->IntKind.i64.wrap (s+p.evs.length)=s+p.evs.length:=fun s h1 h2=>wrap64 (by omega);refine bm.bW (n:=48) (ts:=[2]) Tryz.func82 (by kernel_rfl) Z Tryz.ntmps82 Tryz.results82 Z Z fun C hC hG=>aa<|ab<|cz Z Z Z<|pE Z<|ae<|qs<|aa<|W.block<|aa ?_;apply bJ;(case hb=>rfl);·repeat' first|refine b7 Z Z Z|refine bE Z Z ?_|refine bD Z Z Z Z ?_|refine pE Z ?_|refine pu (bk Z Z Z (wC p.thread) Z) Z ?_|refine ae ?_|refine pu (bk Z Z Z (wC p.serial) Z) Z ?_|refine pu (bk Z Z Z (wC p.lost) Z) Z ?_|(apply bU;(case hj=>rfl);(case hl=>rfl))
 refine qs (bc Z (fun h3=>?_) (fun h3=>?_));·
  have J:cD p=2:=by
   simp only[um]at h3;unfold cD;by_cases q:fc p.thread=true∨fc p.serial=true∨fc p.lost=true;·rw[if_pos q]
   rw[if_neg q,if_pos];cases q1:fc p.thread<;>cases q2:fc p.serial<;>cases q3:fc p.lost<;>simp_all
  refine aZ 1 Z<|W.ret<|bw<|be<|QF.bl trivial Z ?_;rw[J];rfl
 have I:¬(fc p.thread=true∨fc p.serial=true∨fc p.lost=true):=by simp only[um]at h3;cases q1:fc p.thread<;>cases q2:fc p.serial<;>cases q3:fc p.lost<;>simp_all
 have ad:¬p.serial<p.lost:=by simp only[um]at h3;cases q1:fc p.thread<;>cases q2:fc p.serial<;>cases q3:fc p.lost<;>simp_all
 have hr:0<=p.serial∧p.serial<=1000000000000000:=by unfold fc at I;simp at I;omega
 have U:=hw p.serial hr.1 hr.2;refine aa<|ab<|bb 5 Z<|pu (cW (ev aY Z) (y:=1000000000000000-(p.evs.length:Int)) (by show IntKind.i64.wrap ((1000000000000000:Int)-((p.evs.map Ev.c).length:Nat))=_;rw[η,wrap64 (by omega)])) Z<|bb 2 Z<|ae<|qs<|bc Z (fun N=>?_)<|fun N=>?_;·
  have J:cD p=2:=by unfold cD;rw[if_neg I,if_pos (.inr (by rw[U];have:=B' N;omega))]
  refine aZ 1 Z<|W.ret<|bw<|be<|QF.bl trivial Z ?_;rw[J];rfl
 have hle:¬(p.serial<p.lost∨1000000000000000<IntKind.i64.wrap (p.serial+p.evs.length)):=by
  rintro(q|q);·exact ad q
  rw[U]at q;have:=O' N;omega
 refine aZ 5 Z<|bc Z (fun M=>?_)<|fun M=>?_;·
  have J:cD p=8:=by unfold cD;rw[if_neg I,if_neg hle,if_pos (by simp at M;exact M)]
  refine aZ 1 Z<|W.ret<|bw<|be<|QF.bl trivial Z ?_;rw[J];rfl
 have X:¬p.evs=[]:=by simp at M;exact M
 refine aZ 5 Z<|bc Z (fun O=>?_)<|fun O=>?_;·
  have J:cD p=7:=by unfold cD;rw[if_neg I,if_neg hle,if_neg X,if_pos (by simp at O;omega)]
  refine aZ 1 Z<|W.ret<|bw<|be<|QF.bl trivial Z ?_;rw[J];rfl
 have J:cD p=jg p.evs none:=by unfold cD;rw[if_neg I,if_neg hle,if_neg X,if_neg (by simp at O;omega)]
 refine ah<|bX<|qs<|aa<|ab<|bb 2 Z<|pu (bk Z Z Z (zB ..) Z) Z<|pE Z<|ae<|qs<|W.ret<|QF.bl trivial Z ?_;rw[J];rfl
def qV(ts:List GT)(id:Int):Bool:=ts.any fun t=>decide (t.id=id)
theorem CR(ts:List GT)(ds sn id)(hl:ts.length<=maxLen):bm Tryz.prog 83 [.ag (fQ ts ds sn),.d (ci id)] (.d (.v (.bool (qV ts id)))) 0:=by
 refine bm.bW (n:=21) (ts:=[4]) Tryz.func83 (by kernel_rfl) Z Tryz.ntmps83 Tryz.results83 Z Z fun C hC hG=>aa<|ab<|cz Z Z Z<|pE Z<|ae<|qs<|aa<|aZ 1 Z<|W.block<|W.ca (ι:={x:Nat//match x with|k=>k<=ts.length∧qV (ts.take k) id=false})
  (fun x=>match x.1 with|k=>[(2,.ptr 0 0),(5,.d (.v (.int .i64 ((k:Nat):Int))))]) [(1,_)]
  (fun x=>match x.1 with|k=>[(0,(fQ ts ds sn).map A.d)]) [] [] 1 (fun x=>match x.1 with|k=>ts.length-k)
  [0] ⟨0,?_⟩ rfl ?_ ⟨rfl,rfl,trivial⟩ ?_ trivial rfl ?_
 ·exact⟨ς _,rfl⟩
 ·repeat' constructor
 ·repeat' constructor
 rintro⟨k,hk,hI⟩
 show W _ _ _ _ _ ⟨[(2,.ptr 0 0),(5,.d (.v (.int .i64 ((k:Nat):Int)))),(1,_)],[(0,(fQ ts ds sn).map A.d)],[],1⟩
 refine aa<|aZ 5 Z<|cr (l:=ts) (k:=k) Z (by simp[Ex.bG,bo]) hk (fun t hx hd hlt=>?_)<|fun he hd=>?_
 ·
  have htk:ts.take (k+1)=ts.take k++[t]:=by rw[Φ,hx];rfl
  refine ah<|qs<|aa<|W.block<|aa<|ab<|bb 3 Z<|pu (indexAddr aY Z Z Z Z Z Z (ε _) (bC hx) Z) Z<|bb 4 Z<|ae<|qs<|bc Z (fun h20=>?_)<|fun h20=>?_
  ·
   have hg:qV ts id=true:=F'.2 ⟨t,ζ hx,by simpa using h20⟩
   refine aZ 1 Z<|W.ret<|bw<|be<|cE<|bw<|be<|QF.bl trivial Z ?_
   rw[hg];rfl
  have hn:¬t.id=id:=O' h20
  refine ah<|bX<|qs<|cu 3 Z<|W.cg [0] ⟨k+1,?_⟩ ?_ Z ?_ ⟨rfl,rfl,trivial⟩ ?_ trivial Z
  ·exact⟨hlt,by unfold qV at hI⊢;rw[htk,List.any_append,hI];simp[hn]⟩
  ·dsimp only;omega
  ·repeat' first|exact trivial|refine⟨rfl,?_⟩|refine⟨bF (by assumption) (by assumption),?_⟩
  repeat' constructor
 have hg:qV ts id=false:=by rw[P' (by omega)]at hI;exact hI
 refine ak<|bP<|bQ<|bO<|qs<|aZ 1 Z<|W.ret<|QF.bl trivial Z ?_
 rw[hg];rfl
theorem xm(ts:List GT)(id):qV ts id=true↔id∈ts.map GT.id:=by
 unfold qV;rw[F',R'];constructor;·rintro⟨t,h1,h2⟩;exact⟨t,h1,B' h2⟩
 rintro⟨t,h1,h2⟩;exact⟨t,h1,by simp[h2]⟩
theorem EM:∀(ps:List bH)(id:Int),(∀p∈ps,cD p=0)->0<=(fD ps id).1∧(fD ps id).1<=1000000000001000:=by
 intro ps id h;unfold fD
 cases hl:(ps.filter fun p=>decide (p.thread=id)).getLast? with
 |none=>exact⟨Int.le_refl _,by decide⟩
 |some p=>obtain⟨b1,I,J,M,N,_⟩:=eG (h p (List.mem_filter.1 (List.mem_of_getLast? hl)).1);show 0<=p.serial+(p.evs.length:Int)∧p.serial+(p.evs.length:Int)<=_;omega
theorem He(ps:List bH)(id)(hok:∀p∈ps,cD p=0):bm Tryz.prog 136 [.d (.sl (ps.map bH.c)),.d (ci id)] (.tup [.d (ci (fD ps id).1),.d (ci (fD ps id).2)]) 0:=by
 refine bm.bW (n:=51) (ts:=[4,5]) Tryz.func136 (by kernel_rfl) Z Tryz.ntmps136 Tryz.results136 Z Z fun C hC hG=>aZ 2 Z<|aZ 1 Z<|aZ 1 Z<|aa<|aZ 1 Z<|W.block<|W.len (t:=0) Z Z<|fun hlen=>?_
 try simp only[η,Ex.bG]at hlen
 refine W.ca (ι:={x:Nat×Int×Int//match x with|(k,a,b)=>k<=ps.length∧a=(fD (ps.take k) id).1∧b=(fD (ps.take k) id).2})
  (fun x=>match x.1 with|(k,a,b)=>[(6,.d (ci a)),(7,.d (ci b)),(8,.d (.v (.int .i64 ((k:Nat):Int))))]) [(0,_),(1,_)]
  (fun x=>match x.1 with|(k,a,b)=>[]) [] [] 0 (fun x=>match x.1 with|(k,a,b)=>ps.length-k)
  [] ⟨(0,0,0),?_⟩ rfl ?_ ⟨rfl,rfl,rfl,rfl,trivial⟩ ?_ trivial rfl ?_
 ·exact⟨ς _,rfl,rfl⟩
 ·repeat' constructor
 ·repeat' exact trivial
 rintro⟨⟨k,a,b⟩,hk,hA,hB⟩
 show W _ _ _ _ _ ⟨[(6,.d (ci a)),(7,.d (ci b)),(8,.d (.v (.int .i64 ((k:Nat):Int)))),(0,_),(1,_)],[],[],0⟩
 refine aa<|aZ 4 Z<|cr (l:=ps) (k:=k) Z (by simp[Ex.bG,bo]) hk (fun p hx hd hlt=>?_)<|fun he hd=>?_
 ·
  have htk:ps.take (k+1)=ps.take k++[p]:=by rw[Φ,hx];rfl
  have hsn:=qG (ps.take k) p id
  rw[<-htk]at hsn
  obtain⟨b1,b2,b3,b4,b5,_⟩:=eG (hok p (ζ hx))
  obtain⟨n,hn⟩:∃n,p.evs.length=n+1:=⟨p.evs.length-1,by have:=List.length_pos_iff.2 b4;omega⟩
  obtain⟨z,hz⟩:∃z,p.evs[n]?=some z:=⟨p.evs[n]'(by omega),by simp⟩
  have htl:mB p=z.time:=by
   unfold mB
   rw[List.getLast?_eq_getElem?,hn,Nat.add_sub_cancel,hz]
  refine ah<|qs<|aa<|W.block<|aa<|ab<|bb 2 Z<|pu (indexAddr (l:=p.c) aY Z Z Z Z Z Z (ε _) (bC hx) Z) Z<|bb 4 Z<|ae<|qs<|bc Z (fun h21=>?_)<|fun h21=>?_
  ·
   have he:p.thread=id:=B' h21
   rw[if_pos he,htl]at hsn
   refine aa<|W.dD aY (by kernel_rfl)<|br (ev aY Z) Z<|br (ev aY Z) Z<|br (indexAddr (l:=p.c) aY Z Z Z Z Z Z (ε _) (bC hx) Z) Z<|br (ev aY Z) Z<|br (ev aY Z) Z<|br (ev aY Z) Z<|br (ev aY Z) Z<|br (indexAddr (l:=p.c) aY Z Z Z Z Z Z (ε _) (bC hx) Z) Z<|br (ev aY Z) Z<|br (ev aY Z) Z<|br (ev aY Z) Z<|br (cW (ev aY Z) (y:=p.serial+(p.evs.length:Int)) (by show IntKind.i64.wrap (p.serial+((p.evs.map Ev.c).length:Nat))=_;rw[η,wrap64 (by omega)])) Z<|br (ev aY Z) Z<|ao<|qs<|W.dD aY (by kernel_rfl)<|br (ev aY Z) Z<|br (ev aY Z) Z<|br (indexAddr (l:=p.c) aY Z Z Z Z Z Z (ε _) (bC hx) Z) Z ?_
   refine br (ev aY Z) Z<|br (ev aY Z) Z<|br (ev aY Z) Z<|br (ev aY Z) Z<|br (indexAddr (l:=p.c) aY Z Z Z Z Z Z (ε _) (bC hx) Z) Z<|br (ev aY Z) Z<|br (ev aY Z) Z<|br (ev aY Z) Z<|br (cW (ev aY Z) (y:=(n:Int)) (by show IntKind.i64.wrap (((p.evs.map Ev.c).length:Nat)-(1:Int))=_;rw[η,hn,wrap64 (by omega)];omega)) Z<|br (indexAddr (l:=z.c) aY Z Z Z Z Z Z (ε _) (bC hz) Z) Z<|br (ev aY Z) Z<|br (ev aY Z) Z<|br (ev aY Z) Z<|ao<|bX<|qs<|cu 3 Z ?_
   have hbr:=he
   (have _hb:p.thread=id:=hbr;refine W.cg [] ⟨(k+1,p.serial+(p.evs.length:Int),z.time),?_⟩ ?_ rfl ?_ ⟨rfl,rfl,rfl,rfl,trivial⟩ ?_ trivial rfl)
   ·exact⟨hlt,by first|(rw[hsn];done)|(rw[hsn];exact hA),by first|(rw[hsn];done)|(rw[hsn];exact hB)⟩
   ·dsimp only;omega
   ·repeat' first|exact trivial|refine⟨rfl,?_⟩|refine⟨bF (by assumption) (by assumption),?_⟩
   repeat' exact trivial
  have he:¬p.thread=id:=O' h21
  rw[if_neg he]at hsn
  refine ah (bX (qs (cu 3 Z ?_)))
  have hbr:=he
  (have _hb:¬p.thread=id:=hbr;refine W.cg [] ⟨(k+1,a,b),?_⟩ ?_ rfl ?_ ⟨rfl,rfl,rfl,rfl,trivial⟩ ?_ trivial rfl)
  ·exact⟨hlt,by first|(rw[hsn];done)|(rw[hsn];exact hA),by first|(rw[hsn];done)|(rw[hsn];exact hB)⟩
  ·dsimp only;omega
  ·repeat' first|exact trivial|refine⟨rfl,?_⟩|refine⟨bF (by assumption) (by assumption),?_⟩
  repeat' exact trivial
 have hpt:ps.take k=ps:=P' (by omega)
 rw[hpt]at hA hB
 subst hA;subst hB
 refine ak<|bP<|bQ<|bO<|qs<|aZ 4 Z<|W.ret<|QF.bl trivial Z ?_
 rfl
theorem yW(ps:List bH)(p:bH)(hok:∀q∈ps,cD q=0)(hp:cD p=0):bm Tryz.prog 84 [.d (.sl (ps.map bH.c)),.ag p.c] (.d (.v (.bool (kN (fD ps p.thread) p)))) 0:=by
 obtain⟨b1,N,O,M,U,_⟩:=eG hp;obtain⟨n1,n2⟩:=EM ps p.thread hok;obtain⟨e,r,I⟩:∃e r,p.evs=e::r:=by
  cases q:p.evs with
  |nil=>exact absurd q M
  |cons e r=>exact⟨e,r,rfl⟩
 have J:Cf p=e.time:=by unfold Cf;rw[I]
 refine bm.bW (n:=30) (ts:=[4]) Tryz.func84 (by kernel_rfl) Z Tryz.ntmps84 Tryz.results84 Z Z fun C hC X=>aa<|ab<|cz Z Z Z<|pE Z<|ae<|qs<|aa<|ab<|bb 3 Z<|pu (bk Z Z Z (He ps p.thread hok) Z) Z<|bb 5 Z<|ae<|qs<|aa ?_;apply bJ;(case hb=>rfl);·
  refine bb 5 Z<|pu (cW (ev aY Z) (y:=(fD ps p.thread).1+p.lost) (wrap64 (by omega))) Z<|bb 2 Z ?_;apply bU;(case hj=>rfl);(case hl=>rfl);·
   refine bE Z Z<|pE Z<|bE Z Z<|bb 1 Z<|bE Z Z<|pu (indexAddr (l:=e.c) aY Z Z Z Z Z Z (by decide) (by rw[I];rfl) Z) Z<|bE Z Z<|pE Z<|bE Z Z<|bb 1 Z<|bE Z Z<|pE Z<|bE Z Z<|bb 3 Z<|ae<|b7 Z Z Z
  iterate 7 refine bD Z Z Z Z ?_
  refine bb 2 Z<|ae<|b7 Z Z Z
 refine qs (W.ret (QF.bl trivial Z ?_));simp only[norm,bM];unfold kN;rw[J,decide_eq_decide.2 (by omega:p.serial=(fD ps p.thread).1+p.lost↔p.serial-p.lost=(fD ps p.thread).1)];cases decide (p.serial-p.lost=(fD ps p.thread).1)<;>rfl
theorem CW(ps:List bH)(hl:ps.length<=1000)(h:total ps<=20000):bm Tryz.prog 85 [.d (.sl (ps.map bH.c))] (.d (.v (.int .i64 ((total ps:Nat):Int)))) 0:=EC ps hl h
abbrev jj(th:Int)(L:List eU):List (List D):=L.map (eU.row th)
abbrev nA(L:List eU):List (Value×List Ev):=L.map eU.DH
theorem IG(th L):∀(x:List D),x∈jj th L->x.length=4:=by intro x I;obtain⟨e,_,rfl⟩:=R'.1 I;rfl
theorem Ed{th:Int}{own}{p:bH}{j}{e:Ev}{M:List eU}{lo:Int}(U:p.thread=th)(he:p.evs[j]?=some e)(I:M.map (eU.nz th)=jU own p j)(J:lo=if j=0 then p.lost else 0)(hT:total own+p.evs.length<=1000):
 ∃(N:List eU)(y:eU),((M=[]∨0<lo)->N=M∧y=⟨p.serial+j,lo,ir,[]⟩)∧(¬(M=[]∨0<lo)->M=N++[y])∧y.evs.length<1000∧N.length<=M.length∧
  ∀O,(N++[(⟨y.ser,y.lost,O,y.evs++[e]⟩:eU)]).map (eU.nz th)=jU own p (j+1):=by
 have ad:=(δ.1 he).1;by_cases c:M=[]∨0<lo;·
  have X:j=0:=by
   rcases c with rfl|c
   ·
    by_cases q:j=0;·exact q
    exact absurd I.symm (IQ (by omega))
   by_cases q:j=0;·exact q
   rw[J,if_neg q]at c;omega
  subst X;have J:lo=p.lost:=J;have I:M.map (eU.nz th)=own:=I;refine⟨M,⟨p.serial+0,lo,ir,[]⟩,fun _=>⟨by simp,by simp⟩,fun q=>absurd c q,by simp,χ _,fun O=>?_⟩;rw[FJ he (by
   rcases c with rfl|c
   ·exact .inr I.symm
   exact .inl (by omega)),nN,y',I,J]
  simp[eU.nz,U]
 obtain⟨N,y,rfl⟩:∃N y,M=N++[y]:=⟨M.dropLast,M.getLast (fun q=>c (.inl q)),(List.dropLast_concat_getLast _).symm⟩;have hb:y.evs.length<=total (jU own p j):=by rw[<-I];exact EG (q:=y.nz th) (by simp)
 rw[vg,V']at hb;refine⟨N,y,fun q=>absurd q c,fun _=>rfl,by omega,by simp,fun O=>?_⟩;rw[Fj he (fun q=>by
  subst q;have I:(N++[y]).map (eU.nz th)=own:=I;rintro(q|q);·exact c (.inr (by rw[J,if_pos rfl];exact q))
  rw[q]at I;simp at I),←I,y',y']
 show _=qi (N.map (eU.nz th)++[y.nz th]) e;rw[nN];rfl
theorem Iz(th)(N:List eU)(y:eU)(I es):(jj th (N++[y])).set N.length (mb (y.row th) 3 [.v I])=jj th (N++[⟨y.ser,y.lost,I,es⟩]):=by simp[jj,eU.row,mb]
theorem HO(N:List eU)(y:eU)(I es):(nA (N++[y])).set N.length (I,es)=nA (N++[⟨y.ser,y.lost,I,es⟩]):=by simp[nA,eU.DH]
theorem Dt(th)(ps:List bH)(hl:ps.length<=8)(hT:total ps<=1000)(hok:∀p∈ps,cD p=0):
  pj Tryz.prog 86 [.d (ci th),.d (.sl (ps.map bH.c))] [[.any,.any,.any,.any]] 0
   (fun r b1=>∃_:Unit,True∧r=.d (.sl ((cc th ps).map bH.c))∧b1=[[.any,.any,.any,.any]]) 0:=by
 have hpml:ps.length<=maxLen:=by simp only[maxLen];omega
 refine pj.dY aY (n:=95) (rs:=[.tmp 4]) Tryz.func86 (by kernel_rfl) Z Tryz.ntmps86 Tryz.results86 Z fun C hC hG=>aZ 1 Z<|aZ 1 Z<|aa<|aZ 1 Z<|W.block<|Fa Ev.c 0 0 Z Z<|W.KI (d:=5) Z Z<|W.ca (ι:={x:Nat×List eU//match x with|(k,L)=>k<=ps.length∧L.map (eU.nz th)=cc th (ps.take k)})
  (fun x=>match x.1 with|(k,L)=>[(5,.xs 1 (jj th L)),(6,.d (.v (.int .i64 ((k:Nat):Int))))]) [(0,_),(1,_)]
  (fun x=>match x.1 with|(k,L)=>[(0,[.gi 2 (gG Ev.c (nA L) none),.any,.any,.any])]) [] [1,2] 3 (fun x=>match x.1 with|(k,L)=>ps.length-k)
  [0,2,1] ⟨(0,[]),?_⟩ rfl ?_ ⟨rfl,rfl,rfl,rfl,trivial⟩ ?_ trivial rfl ?_
 ·exact⟨ς _,rfl⟩
 ·repeat' constructor
 ·repeat' constructor
 rintro⟨⟨k,L⟩,hk,hL⟩
 show W _ _ _ _ _ ⟨[(5,.xs 1 (jj th L)),(6,.d (.v (.int .i64 ((k:Nat):Int)))),(0,_),(1,_)],[(0,[.gi 2 (gG Ev.c (nA L) none),.any,.any,.any])],[1,2],3⟩
 refine aa<|aZ 4 Z<|cr (l:=ps) (k:=k) Z (by simp[Ex.bG,bo]) hk (fun p hx hd hlt=>?_)<|fun he hd=>?_
 ·
  have htk:ps.take (k+1)=ps.take k++[p]:=by rw[Φ,hx];rfl
  have hsn:=iQ th (ps.take k) p
  rw[<-htk]at hsn
  obtain⟨b1,b2,b3,b4,b5,_⟩:=eG (hok p (ζ hx))
  have htt:=qJ hx
  have hpe:p.evs.length<=maxLen:=by simp only[maxLen];omega
  have htp:=AW th (ps.take k)
  have hpl:=(iN th (rfl:(ps.take k).length=(ps.take k).length)).1
  have hkl:(ps.take k).length<=8:=by rw[V'];omega
  refine ah<|qs<|aa<|W.block<|aa<|aa<|ab<|bb 2 Z<|pu (indexAddr aY Z Z Z Z Z Z (ε _) (bC hx) Z) Z<|bb 4 Z<|ae<|qs<|bc Z (fun h22=>?_)<|fun h22=>?_
  ·
   have hne:¬p.thread=th:=by simpa using h22
   rw[if_neg hne]at hsn
   refine ak<|bP<|bO<|qs<|cu 3 Z<|W.cg [0,1,2] ⟨(k+1,L),?_⟩ ?_ Z ?_ ⟨rfl,rfl,rfl,rfl,trivial⟩ ?_ trivial Z
   ·exact⟨hlt,by first|exact hML|(rw[hsn];exact hL)⟩
   ·dsimp only;omega
   ·repeat' first|exact trivial|refine⟨rfl,?_⟩|refine⟨bF (by assumption) (by assumption),?_⟩
   repeat' constructor
  have hpt:p.thread=th:=by simpa using h22
  rw[if_pos hpt]at hsn
  refine ah<|qs<|aZ 1 Z<|W.block<|W.ca (ι:={x:Nat×List eU//match x with|(j,M)=>j<=p.evs.length∧M.map (eU.nz th)=jU (cc th (ps.take k)) p j})
   (fun x=>match x.1 with|(j,M)=>[(5,.xs 1 (jj th M)),(6,.d (.v (.int .i64 ((k:Nat):Int)))),(7,.d (.v (.int .i64 ((j:Nat):Int))))]) [(0,_),(1,_)]
   (fun x=>match x.1 with|(j,M)=>[(0,[.gi 2 (gG Ev.c (nA M) none),.any,.any,.any])]) [] [1,2] 3 (fun x=>match x.1 with|(j,M)=>p.evs.length-j)
   [0,1,2] ⟨(0,L),?_⟩ rfl ?_ ⟨rfl,rfl,rfl,rfl,trivial⟩ ?_ trivial rfl ?_
  ·exact⟨ς _,hL⟩
  ·repeat' constructor
  ·repeat' constructor
  rintro⟨⟨j,M⟩,hj,hM⟩
  show W _ _ _ _ _ ⟨[(5,.xs 1 (jj th M)),(6,.d (.v (.int .i64 ((k:Nat):Int)))),(7,.d (.v (.int .i64 ((j:Nat):Int)))),(0,_),(1,_)],[(0,[.gi 2 (gG Ev.c (nA M) none),.any,.any,.any])],[1,2],3⟩
  refine aa<|aa<|ab<|bb 3 Z<|pu (indexAddr aY Z Z Z Z Z Z (ε _) (bC hx) Z) Z<|bb 4 Z<|ae<|qs<|bc Z (fun h30=>?_)<|fun h30=>?_
  ·
   have hjl:j<p.evs.length:=by have h:=B' h30;rw[η]at h;exact Int.ofNat_lt.1 h
   obtain⟨e,he⟩:∃e,p.evs[j]?=some e:=⟨p.evs[j],by simp⟩
   have hMl:M.length<=9:=by have h1:=congrArg List.length hM;rw[η]at h1;have:=Hf (cc th (ps.take k)) p j;omega
   obtain⟨lo,hlo⟩:∃lo:Int,lo=if j=0 then p.lost else 0:=⟨_,rfl⟩
   obtain⟨N,y,hN,hO,hy,hNM,hgo⟩:=Ed hpt he hM hlo (by omega)
   have hyR:(jj th (N++[y]))[((N.length:Nat):Int).toNat]?=some (y.row th):=by simp[jj]
   have hyB:(nA (N++[y]))[N.length]?=some (y.raw,y.evs):=by simp[nA,eU.DH]
   refine ah<|qs<|aa<|W.block<|aZ 1 Z<|aa<|aZ 2 Z<|W.nl [(5,.xs 1 (jj th M)),(6,.d (.v (.int .i64 ((k:Nat):Int)))),(7,.d (.v (.int .i64 ((j:Nat):Int)))),(8,.d (ci lo))] [0,1] [(0,[.gi 2 (gG Ev.c (nA M) none),.any,.any,.any])] [] [1,2] 3 ?_ ?_
   ·
    refine bc Z (fun h34=>?_) (fun h34=>?_)
    ·
     have hj0:j=0:=by have:=B' h34;omega
     rw[show lo=p.lost from by rw[hlo,if_pos hj0]]
     refine ab<|bb 2 Z<|pu (indexAddr aY Z Z Z Z Z Z (ε _) (bC hx) Z) Z<|bb 3 Z<|ae<|dL [0,1,2] Z ?_ ⟨rfl,rfl,rfl,rfl,trivial⟩ ?_ trivial Z
     ·repeat' constructor
     repeat' constructor
    have hj0:¬j=0:=by have:=O' h34;omega
    rw[show lo=0 from by rw[hlo,if_neg hj0]]
    refine ah (dL [0,1,2] Z ?_ ⟨rfl,rfl,rfl,rfl,trivial⟩ ?_ trivial Z)
    ·repeat' constructor
    repeat' constructor
   refine qs<|aa<|ab<|pE Z<|pu (yo aY Z Z Z Z) Z<|pE Z<|ae<|qs<|aa<|aa<|?_
   apply bJ;(case hb=>rfl)
   ·
    refine bb 3 Z ?_
    apply dP;(case hj=>rfl);(case hl=>rfl)
    ·
     intro g44
     have hM0:M=[]:=by cases M with|nil=>rfl|cons a r=>simp[jj]at g44;omega
     refine bD Z Z Z Z<|bD Z Z Z Z<|bb 2 Z ?_
     iterate 8 refine bD Z Z Z Z ?_
     refine pE Z (ae (b7 Z Z Z))
    intro g44
    have hM0:¬M=[]:=by rintro rfl;simp[jj]at g44
    refine bE Z Z (pE Z (bE Z Z (bb 3 Z ?_)))
    apply dP;(case hj=>rfl);(case hl=>rfl)
    ·
     intro g48
     iterate 8 refine bD Z Z Z Z ?_
     refine pE Z (ae (b7 Z Z Z))
    intro g48
    have hlo0:¬0<lo:=by simp at g48;omega
    have hc:¬(M=[]∨0<lo):=by rintro(q|q);exact hM0 q;exact hlo0 q
    have hMN:=hO hc
    have hyRM:(jj th M)[((N.length:Nat):Int).toNat]?=some (y.row th):=by rw[hMN];exact hyR
    have hyBM:(nA M)[N.length]?=some (y.raw,y.evs):=by rw[hMN];exact hyB
    have hMl2:(jj th M).length=N.length+1:=by rw[hMN];simp[jj]
    refine bE Z Z<|pE Z<|bE Z Z<|pE Z<|bE Z Z<|pu (cW (ev aY Z) (y:=(N.length:Int)) (by rw[hMl2,wrap64 (by omega)];omega)) Z<|bE Z Z<|pu (ox (l:=y.row th) aY Z Z Z Z Z Z (ε _) hyRM Z) Z<|bE Z Z<|pu (kC aY Z Z Z Z Z Z) Z<|bE Z Z<|pu (Hg 0 0 N.length Z Z Z hyBM Z (sL aY Z Z Z)) Z<|bE Z Z<|pE Z<|bE Z Z<|bb 2 Z<|ae<|b7 Z Z Z
   refine qs (W.nl [(5,.xs 1 (jj th (N++[y]))),(6,.d (.v (.int .i64 ((k:Nat):Int)))),(7,.d (.v (.int .i64 ((j:Nat):Int)))),(9,.d (.v (.int .i64 (((N.length+1):Nat):Int))))] [0,1] [(0,[.gi 2 (gG Ev.c (nA (N++[y])) none),.any,.any,.any])] [] [1,2] 3 ?_ ?_)
   ·
    refine bc Z (fun h57=>?_) (fun h57=>?_)
    ·
     have hc:M=[]∨0<lo:=by
      by_cases q1:M=[]
      ·exact .inl q1
      by_cases q2:0<lo
      ·exact .inr q2
      exfalso
      have hMN:=hO (fun q=>q.elim q1 q2)
      simp[q2]at h57
      have:=h57.resolve_left q1
      omega
     obtain⟨hNM2,hyq⟩:=hN hc
     have hrw:jj th M++[iW th (p.serial+j) lo ir]=jj th (N++[y]):=by rw[hNM2,hyq];simp[jj,eU.row]
     have hbg:nA M++[(ir,[])]=nA (N++[y]):=by rw[hNM2,hyq];simp[nA,eU.DH]
     have hMN2:(jj th M).length=N.length:=by rw[hNM2];simp[jj]
     refine aa<|Ep 0 0 Z Z Z (cq':=[.gi 2 (gG Ev.c (nA (N++[y])) none),.any,.any,.any]) (by rw[<-hbg];rfl)<|ab<|bb 4 Z<|pu (indexAddr aY Z Z Z Z Z Z (ε _) (bC hx) Z) Z<|bb 3 Z<|pu (cW (ev aY Z) (y:=p.serial+(j:Int)) (wrap64 (by omega))) Z<|pE Z<|pu (build aY Z Z Z Z) Z<|pu (bZ aY Z Z Z Z Z Z Z Z Z) Z<|zZ (es2:=[iW th (p.serial+j) lo ir]) (r:=jj th (N++[y])) aY Z Z Z Z Z Z Z Z Z Z hrw (by rw[hrw];exact IG _ _) (by show((jj th M).length+1)*48<=_;omega) Z<|pE Z<|ae<|qs<|ab<|pE Z<|pu (cW (ev aY Z) (y:=((N.length+1:Nat):Int)) (by rw[hMN2];exact(wrap64 (by omega)).trans (by omega))) Z ?_
     refine pE Z (ae (dL [0,3,2] Z ?_ ⟨rfl,rfl,rfl,rfl,trivial⟩ ?_ trivial Z))
     ·repeat' constructor
     repeat' constructor
    have hMN:=hO (fun q=>by
     rcases q with rfl|q
     ·simp[jj]at h57
     simp[q]at h57)
    have hMl2:(jj th M).length=N.length+1:=by rw[hMN];simp[jj]
    rw[<-hMN,←hMl2]
    refine ah (dL [0,1,2] Z ?_ ⟨rfl,rfl,rfl,rfl,trivial⟩ ?_ trivial Z)
    ·repeat' constructor
    repeat' constructor
   refine qs (BI 0 0 1 N.length Z Z Z hyB Z Z Z ?_)
   apply W.wU aY 19 18;(case hB=>kernel_rfl);(case h1=>rfl);(case h2=>rfl)
   refine' gT ?p1_1 (ev aY Z) Z Z Z Z Z ?h_1
   case' h_1=>skip
   refine' gT ?p1_2 (ev aY Z) Z Z Z Z Z ?h_2
   case' h_2=>skip
   refine' gT ?p1_3 (cW (ev aY Z) (y:=(N.length:Int)) ((wrap64 (by omega)).trans (by omega))) Z Z Z Z Z ?h_3
   case' h_3=>skip
   refine' gT ?p1_4 (ev aY Z) Z Z Z Z Z ?h_4
   case' h_4=>skip
   refine' gT ?p1_5 (ev aY Z) Z Z Z Z Z ?h_5
   case' h_5=>skip
   refine' gT ?p1_6 (cW (ev aY Z) (y:=(N.length:Int)) ((wrap64 (by omega)).trans (by omega))) Z Z Z Z Z ?h_6
   case' h_6=>skip
   refine' gT ?p1_7 (ox (l:=y.row th) aY Z Z Z Z Z Z (ε _) hyR Z) Z Z Z Z Z ?h_7
   case' h_7=>skip
   refine' gT ?p1_8 (kC aY Z Z Z Z Z Z) Z Z Z Z Z ?h_8
   case' h_8=>skip
   refine' sU (Hz 0 1 Z Z (sL aY Z Z Z)) Z Z Z Z Z ?h_9
   case' h_9=>skip
   refine' gT ?p1_10 (ev aY Z) Z Z Z Z Z ?h_10
   case' h_10=>skip
   refine' gT ?p1_11 (ev aY Z) Z Z Z Z Z ?h_11
   case' h_11=>skip
   refine' gT ?p1_12 (indexAddr aY Z Z Z Z Z Z (ε _) (bC hx) Z) Z Z Z Z Z ?h_12
   case' h_12=>skip
   refine' gT ?p1_13 (ev aY Z) Z Z Z Z Z ?h_13
   case' h_13=>skip
   refine' gT ?p1_14 (ev aY Z) Z Z Z Z Z ?h_14
   case' h_14=>skip
   refine' gT ?p1_15 (ev aY Z) Z Z Z Z Z ?h_15
   case' h_15=>skip
   refine' gT ?p1_16 (indexAddr (l:=e.c) aY Z Z Z Z Z Z (ε _) (bC he) Z) Z Z Z Z Z ?h_16
   case' h_16=>skip
   refine' gT ?p1_17 (ev aY Z) Z Z Z Z Z ?h_17
   case' h_17=>skip
   refine' sU (bZ aY Z Z Z Z Z Z Z Z Z) Z Z Z Z Z ?h_18
   case' h_18=>skip
   refine' Ky (fun g=>?e_19) Z Z Z ?h_19
   case e_19=>
    refine eT (fn:=Ev.c) (l:=y.evs) (a:=e) aY Z Z Z Z Z Z Z Z Z Z (fun _=>rfl) (by show(y.evs.length+1)*72<=_;omega)<|ae ?_
    exact⟨rfl,rfl⟩
   case' h_19=>skip
   case p1_1=>exact(ev aY rfl)
   case p1_2=>exact(ev aY rfl)
   case p1_3=>exact(cW (ev aY rfl) (y:=(N.length:Int)) ((wrap64 (by omega)).trans (by omega)))
   case p1_4=>exact(ev aY rfl)
   case p1_5=>exact(ev aY rfl)
   case p1_6=>exact(cW (ev aY rfl) (y:=(N.length:Int)) ((wrap64 (by omega)).trans (by omega)))
   case p1_7=>exact(ox (l:=y.row th) aY rfl rfl rfl rfl rfl rfl (ε _) hyR rfl)
   case p1_8=>exact(kC aY rfl rfl rfl rfl rfl rfl)
   case p1_10=>exact(ev aY rfl)
   case p1_11=>exact(ev aY rfl)
   case p1_12=>exact(indexAddr aY rfl rfl rfl rfl rfl rfl (ε _) (bC hx) rfl)
   case p1_13=>exact(ev aY rfl)
   case p1_14=>exact(ev aY rfl)
   case p1_15=>exact(ev aY rfl)
   case p1_16=>exact(indexAddr (l:=e.c) aY rfl rfl rfl rfl rfl rfl (ε _) (bC he) rfl)
   case p1_17=>exact(ev aY rfl)
   refine aI<|pu (ox (l:=y.row th) aY Z Z Z Z Z Z (ε _) hyR Z) Z<|pu (kC aY Z Z Z Z Z Z) Z<|Bs 91 10 Z Z Z fun v' hv'=>vv aY 5 Z Z Z Z hyR Z Z Z Z Z Z (Iz th N y v' (y.evs++[e])) Z<|ae<|bX<|qs<|Fe (es:=y.evs++[e]) 0 0 10 N.length Z Z Z Z Z Z Z (HO N y v' (y.evs++[e])) Z Z<|ab<|pE Z<|pu (cW (ev aY Z) (y:=((j+1:Nat):Int)) ((wrap64 (by omega)).trans (by omega))) Z<|pE Z<|ae<|W.cg [0,6,7] ⟨(j+1,N++[⟨y.ser,y.lost,v',y.evs++[e]⟩]),?_⟩ ?_ Z ?_ ⟨rfl,rfl,rfl,rfl,trivial⟩ ?_ trivial Z
   ·exact⟨hjl,hgo v'⟩
   ·dsimp only;omega
   ·repeat' constructor
   repeat' constructor
  have hje:j=p.evs.length:=by have h:=O' h30;rw[η]at h;exact Nat.le_antisymm hj (Nat.not_lt.1 fun q=>h (Int.ofNat_lt.2 q))
  have hML:M.map (eU.nz th)=cc th (ps.take (k+1)):=by rw[hM,hje,hsn,FR b4]
  refine ak<|bP<|bQ<|bO<|bX<|qs<|cu 3 Z<|W.cg [0,1,2] ⟨(k+1,M),?_⟩ ?_ Z ?_ ⟨rfl,rfl,rfl,rfl,trivial⟩ ?_ trivial Z
  ·exact⟨hlt,by first|exact hML|(rw[hsn];exact hL)⟩
  ·dsimp only;omega
  ·repeat' first|exact trivial|refine⟨rfl,?_⟩|refine⟨bF (by assumption) (by assumption),?_⟩
  repeat' constructor
 rw[P' (show ps.length<=k by omega)]at hL
 refine ak<|bP<|bQ<|bO<|qs<|aa<|IM 5 Z Z Z Z<|J8 0 0 5 Z Z Z Z Z (eU.up th L) ?_
 rw[hL]
 refine l6 0 0 Z Z<|cu 2 Z<|qs<|W.ret<|Fb.ret _ _ ⟨(),trivial,rfl,rfl⟩ Z<|an aY [] trivial Z Z Z Z ?_ ?_
 ·exact⟨rfl,trivial⟩
 rfl
theorem H6(ts ds sn)(ps:List bH)(h8:ps.length<=8)(hE:∀p∈ps,p.evs.length<=140737488355328)(hF:(∀p∈ps,cD p=0)->total ps<=1000):bm Tryz.prog 32 [.ag (fQ ts ds sn),.d (.sl (ps.map bH.c))] (.tup [.ag (ez ts ds sn ps).1.c,.d (ci (ez ts ds sn ps).2)]) 0:=by
 have hpm:ps.length<=maxLen:=by simp only[maxLen];omega
 refine bm.dY aY (n:=76) (rs:=[.cell 4 30,.tmp 5]) Tryz.func32 (by kernel_rfl) Z Tryz.ntmps32 Tryz.results32 Z fun C hC hG=>aa<|ab<|cz Z Z Z<|b9 aY Z Z Z<|pE Z<|ae<|qs<|aa<|ab<|bb 1 Z<|pu (bk Z Z Z (DC ts ds sn) Z) Z<|pE Z<|ae<|qs<|aa<|aZ 2 Z<|bc Z (fun h13=>?_)<|fun h13=>?_
 ·
  have hg:ez ts ds sn ps=(nH,dB ts ds sn):=by unfold ez;rw[if_pos (by simpa using h13)]
  refine aa<|ab<|pu (build aY Z Z Z Z) Z<|iR 14 Z Z Z<|pE Z<|bt aY Z Z Z Z Z Z Z Z<|pE Z<|ae<|qs<|W.ret<|be<|QV.bl aY trivial Z ?_
  rw[hg];rfl
 have h0:dB ts ds sn=0:=by simpa using h13
 obtain⟨h64,hnd⟩:=uz h0
 have htm:ts.length<=maxLen:=by simp only[maxLen];omega
 have hcE:fT (ts.map GT.id) [] ps≠0->ez ts ds sn ps=(nH,fT (ts.map GT.id) [] ps):=fun q=>by unfold ez;rw[if_neg (by simp[h0]),if_pos q]
 refine ah<|qs<|aa<|aZ 1 Z<|W.block<|W.ca (ι:={x:Nat//match x with|k=>k<=ps.length∧fT (ts.map GT.id) (ps.take k) (ps.drop k)=fT (ts.map GT.id) [] ps∧∀q∈ps.take k,cD q=0})
  (fun x=>match x.1 with|k=>[(2,.ptr 0 0),(4,.ptr 1 0),(7,.d (.v (.int .i64 ((k:Nat):Int))))]) [(1,_)]
  (fun x=>match x.1 with|k=>[(0,(fQ ts ds sn).map A.d),(1,[.d (.v (.slice none 0 0)),.d (.v (.slice none 0 0)),.d (.v (.slice none 0 0)),.d (.v (.slice none 0 0))])]) [] [] 2 (fun x=>match x.1 with|k=>ps.length-k)
  [0,1] ⟨0,?_⟩ rfl ?_ ⟨rfl,rfl,trivial⟩ ?_ trivial rfl ?_
 ·exact⟨ς _,rfl,fun q hq=>by cases hq⟩
 ·repeat' constructor
 ·repeat' constructor
 rintro⟨k,hk,hI,hQ⟩
 show W _ _ _ _ _ ⟨[(2,.ptr 0 0),(4,.ptr 1 0),(7,.d (.v (.int .i64 ((k:Nat):Int)))),(1,_)],[(0,(fQ ts ds sn).map A.d),(1,[.d (.v (.slice none 0 0)),.d (.v (.slice none 0 0)),.d (.v (.slice none 0 0)),.d (.v (.slice none 0 0))])],[],2⟩
 refine aa<|aZ 4 Z<|cr (l:=ps) (k:=k) Z (by simp[Ex.bG,bo]) hk (fun p hx hd hlt=>?_)<|fun he hd=>?_
 ·
  have htk:ps.take (k+1)=ps.take k++[p]:=by rw[Φ,hx];rfl
  rw[hd,fT]at hI
  have hpE:=hE p (ζ hx)
  refine ah<|qs<|aa<|W.block<|aa<|ab<|bb 2 Z<|pu (indexAddr (l:=p.c) aY Z Z Z Z Z Z (ε _) (bC hx) Z) Z<|bb 1 Z<|pu (bk Z Z Z (AR p hpE) Z) Z<|pE Z<|ae<|qs<|aa<|aZ 2 Z<|bc Z (fun h28=>?_)<|fun h28=>?_
  ·
   have hne:cD p≠0:=by simpa using h28
   rw[if_pos hne]at hI
   have hg:ez ts ds sn ps=(nH,cD p):=by rw[hcE (by rw[<-hI];exact hne),←hI]
   refine aa<|ab<|pu (build aY Z Z Z Z) Z<|iR 29 Z Z Z<|pE Z<|bt aY Z Z Z Z Z Z Z Z<|pE Z<|ae<|qs<|W.ret<|be<|bw<|be<|cE<|bw<|be<|QV.bl aY trivial Z ?_
   rw[hg];rfl
  have hp0:cD p=0:=by simpa using h28
  rw[if_neg (by simp[hp0])]at hI
  refine ah<|qs<|aa<|aa<|W.dD aY (by kernel_rfl)<|br (ev aY Z) Z<|br (ev aY Z) Z<|br (ev aY Z) Z<|br (indexAddr (l:=p.c) aY Z Z Z Z Z Z (ε _) (bC hx) Z) Z<|br (ev aY Z) Z<|br (ev aY Z) Z<|br (bk Z Z Z (CR ts ds sn p.thread htm) Z) Z<|br (ev aY Z) Z<|ao<|qs<|bc Z (fun h38=>?_)<|fun h38=>?_
  ·
   have hnk:p.thread∉ts.map GT.id:=fun q=>by rw[(xm ts p.thread).2 q]at h38;cases h38
   rw[if_pos hnk]at hI
   have hg:ez ts ds sn ps=(nH,5):=by rw[hcE (by rw[<-hI];decide),←hI]
   refine aa<|ab<|pu (build aY Z Z Z Z) Z<|iR 39 Z Z Z<|bt aY Z Z Z Z Z Z Z Z<|pE Z<|ae<|qs<|W.ret<|be<|bw<|be<|cE<|bw<|be<|QV.bl aY trivial Z ?_
   rw[hg];rfl
  have hk2:p.thread∈ts.map GT.id:=(xm ts p.thread).1 (by simpa using h38)
  rw[if_neg (fun q=>q hk2)]at hI
  refine ah<|qs<|aa<|W.dD aY (by kernel_rfl)<|br (ev aY Z) Z<|br (ev aY Z) Z<|br (vo (fn:=bH.c) (l:=ps) (i:=0) (j:=(k:Int)) (r:=ps.take k) aY Z Z Z Z Z (fun _=>rfl) Z Z (by decide) (by omega) (by omega) Z) Z<|br (ev aY Z) Z<|br (ev aY Z) Z<|br (indexAddr (l:=p.c) aY Z Z Z Z Z Z (ε _) (bC hx) Z) Z<|br (ev aY Z) Z<|br (bk Z Z Z (yW (ps.take k) p hQ hp0) Z) Z<|br (ev aY Z) Z<|ao<|qs<|bc Z (fun h48=>?_)<|fun h48=>?_
  ·
   have hf:kN (fD (ps.take k) p.thread) p=false:=by simpa using h48
   rw[if_pos hf]at hI
   have hg:ez ts ds sn ps=(nH,11):=by rw[hcE (by rw[<-hI];decide),←hI]
   refine aa<|ab<|pu (build aY Z Z Z Z) Z<|iR 49 Z Z Z<|bt aY Z Z Z Z Z Z Z Z<|pE Z<|ae<|qs<|W.ret<|bw<|be<|cE<|bw<|be<|QV.bl aY trivial Z ?_
   rw[hg];rfl
  have hf:kN (fD (ps.take k) p.thread) p=true:=by simpa using h48
  rw[if_neg (by rw[hf];decide),←htk]at hI
  refine ah<|bX<|qs<|cu 3 Z<|W.cg [0,1] ⟨k+1,?_⟩ ?_ Z ?_ ⟨rfl,rfl,trivial⟩ ?_ trivial Z
  ·exact⟨hlt,hI,fun q hq=>by rw[htk]at hq;rcases D'.1 hq with hq|hq;exact hQ q hq;simp at hq;subst hq;exact hp0⟩
  ·dsimp only;omega
  ·repeat' first|exact trivial|refine⟨rfl,?_⟩|refine⟨bF (by assumption) (by assumption),?_⟩
  repeat' constructor
 rw[hd]at hI
 have hc0:fT (ts.map GT.id) [] ps=0:=hI.symm
 have hg:ez ts ds sn ps=(⟨ts,ds,sn,ts.flatMap fun t=>cc t.id ps⟩,0):=by unfold ez;rw[if_neg (by simp[h0]),if_neg (by simp[hc0])]
 have hpk:∀p∈ps,cD p=0:=fun p hp=>(lr hc0 p hp).1
 have hT:=hF hpk
 refine ak<|bP<|bQ<|bO<|qs<|aa<|aa<|ab<|pE Z<|pu (bk Z Z Z (CW ps (by omega) (by omega)) Z) Z<|pE Z<|ae<|qs<|bc Z (fun h52=>?_)<|fun h52=>?_
 ·
  exfalso
  have:=B' h52
  omega
 refine ah<|qs<|aa<|ab<|bb 1 Z<|pu (build aY Z Z Z Z) Z<|b9 aY Z Z Z<|bt aY Z Z Z Z Z Z Z Z<|ae<|qs<|aa<|aa<|fh 2 3 Z Z Z<|l6 1 0 Z Z<|l6 1 1 Z Z<|l6 1 2 Z Z<|l6 1 3 Z Z<|cu 1 Z<|qs<|W.block<|W.ca (ι:={x:Nat×List bH//match x with|(k,m)=>k<=ts.length∧m=(ts.take k).flatMap fun t=>cc t.id ps})
  (fun x=>match x.1 with|(k,m)=>[(2,.ptr 0 0),(4,.ptr 1 0),(8,.ptr 2 0),(9,.d (.v (.int .i64 ((k:Nat):Int))))]) [(1,_)]
  (fun x=>match x.1 with|(k,m)=>[(0,(fQ ts ds sn).map A.d),(1,[.any,.any,.any,.any]),(2,[.d (.sl (ts.map GT.c)),.d (.sl (ds.map dF)),.d (.sl (sn.map Sn.c)),.own 3 (m.map bH.c)])]) [] [3] 4 (fun x=>match x.1 with|(k,m)=>ts.length-k)
  [0,1,2,3] ⟨(0,[]),?_⟩ rfl ?_ ⟨rfl,rfl,trivial⟩ ?_ trivial rfl ?_
 ·exact⟨ς _,rfl⟩
 ·repeat' constructor
 ·repeat' constructor
 rintro⟨⟨k,m⟩,hk,hM⟩
 show W _ _ _ _ _ ⟨[(2,.ptr 0 0),(4,.ptr 1 0),(8,.ptr 2 0),(9,.d (.v (.int .i64 ((k:Nat):Int)))),(1,_)],[(0,(fQ ts ds sn).map A.d),(1,[.any,.any,.any,.any]),(2,[.d (.sl (ts.map GT.c)),.d (.sl (ds.map dF)),.d (.sl (sn.map Sn.c)),.own 3 (m.map bH.c)])],[3],4⟩
 refine aa<|aZ 5 Z<|cr (l:=ts) (k:=k) Z (by simp[Ex.bG,bo]) hk (fun t hx hd hlt=>?_)<|fun he hd=>?_
 ·
  have hmn:m++cc t.id ps=(ts.take (k+1)).flatMap fun t=>cc t.id ps:=by rw[hM,Φ,hx,List.flatMap_append];simp
  have hq8:=(iN t.id (rfl:ps.length=ps.length)).1
  have hml:m.length<=512:=by rw[hM];exact rW ps h8 (by rw[V'];omega)
  refine ah<|qs<|aa<|W.block<|W.Ae aY (fun _:Unit=>True) (fun _=>[(1,[.any,.any,.any,.any])]) [3] 5 72 (fun _=>.d (.sl ((cc t.id ps).map bH.c))) 10 9 (by kernel_rfl) Z Z<|oF (fun _ _=>ev aY Z) (ev aY Z) Z Z Z Z Z Z<|oF (fun _ _=>ev aY Z) (ev aY Z) Z Z Z Z Z Z<|oF (fun _ _=>ev aY Z) (ev aY Z) Z Z Z Z Z Z<|oF (fun _ _=>ev aY Z) (ev aY Z) Z Z Z Z Z Z<|oF (fun _ _=>ev aY Z) (ev aY Z) Z Z Z Z Z Z<|oF (fun _ _=>indexAddr aY Z Z Z Z Z Z (ε _) (bC hx) Z) (indexAddr aY Z Z Z Z Z Z (ε _) (bC hx) Z) Z Z Z Z Z Z<|oF (fun _ _=>ev aY Z) (ev aY Z) Z Z Z Z Z Z<|yl (ev aY Z) Z Z Z Z Z Z ?_
  refine yl (ev aY Z) Z Z Z Z Z Z<|Lf (fun g=>yd [1] [] Z Z Z Z Z (Dt t.id ps h8 hT hpk) Z Z (by rfl) Z (fun _=>rfl) (fun _=>rfl) Z Z fun v' _=>ae ⟨rfl,v',trivial,rfl⟩) Z Z Z<|CX.nil fun v' _=>uJ (l2:=cc t.id ps) (fn:=bH.c) aY Z Z Z Z Z Z Z Z Z Z (fun _=>rfl) (by show(m.length+(cc t.id ps).length)*48<=_;omega)<|pE Z<|bt aY Z Z Z Z Z Z Z Z<|ae<|bX<|qs<|cu 3 Z<|W.cg [0,1,2,5] ⟨(k+1,m++cc t.id ps),?_⟩ ?_ Z ?_ ⟨rfl,rfl,trivial⟩ ?_ trivial Z
  ·exact⟨hlt,hmn⟩
  ·dsimp only;omega
  ·repeat' first|exact trivial|refine⟨rfl,?_⟩|refine⟨bF (by assumption) (by assumption),?_⟩
  repeat' constructor
 have hpm2:m=ts.flatMap fun t=>cc t.id ps:=by rw[hM,P' (by omega)]
 subst hpm2
 refine ak<|bP<|bQ<|bO<|qs<|aa<|ab<|bb 1 Z<|bt aY Z Z Z Z Z Z Z Z<|pE Z<|ae<|qs<|W.ret<|QV.bl aY trivial Z ?_
 rw[hg];rfl
theorem Dn(p q:bH)(hp:p.evs.length<=maxLen):bm Tryz.prog 87 [.ag p.c,.ag q.c] (.d (.v (.bool (eD p q)))) 0:=by
 have hsE:∀x y,nf x y=lF x y:=fun x y=>by
  cases h:lF x y with
  |true=>exact(vX x y).2 ((su x y).1 h)
  |false=>cases h2:nf x y with
   |false=>rfl
   |true=>rw[(su x y).2 ((vX x y).1 h2)]at h;cases h
 refine bm.bW (n:=53) (ts:=[4]) Tryz.func87 (by kernel_rfl) Z Tryz.ntmps87 Tryz.results87 Z Z fun C hC hG=>aa<|ab<|cz Z Z Z<|cz Z Z Z<|pE Z<|ae<|qs<|aa<|aa<|?_
 apply bJ;(case hb=>rfl)
 ·
  refine bb 6 Z ?_
  apply dP;(case hj=>rfl);(case hl=>rfl)
  ·
   intro g11
   refine bD Z Z Z Z<|bD Z Z Z Z<|bD Z Z Z Z<|bD Z Z Z Z<|bD Z Z Z Z<|bb 2 Z<|bD Z Z Z Z<|bD Z Z Z Z<|bD Z Z Z Z<|bD Z Z Z Z<|bD Z Z Z Z<|bb 2 Z ?_
   iterate 7 refine bD Z Z Z Z ?_
   refine pE Z (ae (b7 Z Z Z))
  intro g11
  refine bE Z Z<|pE Z<|bE Z Z<|bb 1 Z<|bE Z Z<|pE Z<|bE Z Z<|bb 1 Z<|bE Z Z<|bb 3 Z ?_
  apply dP;(case hj=>rfl);(case hl=>rfl)
  ·
   intro g18
   refine bD Z Z Z Z<|bD Z Z Z Z<|bD Z Z Z Z<|bD Z Z Z Z<|bD Z Z Z Z<|bb 2 Z ?_
   iterate 7 refine bD Z Z Z Z ?_
   refine pE Z (ae (b7 Z Z Z))
  intro g18
  refine bE Z Z<|pE Z<|bE Z Z<|bb 1 Z<|bE Z Z<|pE Z<|bE Z Z<|bb 1 Z<|bE Z Z<|bb 3 Z ?_
  apply dP;(case hj=>rfl);(case hl=>rfl)
  ·
   intro g25
   iterate 7 refine bD Z Z Z Z ?_
   refine pE Z (ae (b7 Z Z Z))
  intro g25
  refine bE Z Z<|pE Z<|bE Z Z<|bb 1 Z<|bE Z Z<|pE Z<|bE Z Z<|pE Z<|bE Z Z<|bb 1 Z<|bE Z Z<|pE Z<|bE Z Z<|bb 2 Z<|ae<|b7 Z Z Z
 refine qs (bc Z (fun h33=>?_) (fun h33=>?_))
 ·
  have hg:eD p q=false:=by
   cases h:eD p q with
   |false=>rfl
   |true=>have:=(vN p q).1 h;subst this;simp at h33
  refine aZ 1 Z<|W.ret<|be<|QF.bl trivial Z ?_
  rw[hg];rfl
 obtain⟨e1,e2,e3,e4⟩:p.thread=q.thread∧p.serial=q.serial∧p.lost=q.lost∧p.evs.length=q.evs.length:=by
  by_cases a1:p.thread=q.thread<;>by_cases a2:p.serial=q.serial<;>by_cases a3:p.lost=q.lost<;>by_cases a4:((p.evs.length:Nat):Int)=((q.evs.length:Nat):Int)<;>first|exact⟨a1,a2,a3,by omega⟩|(exfalso;simp only[η,a1,a2,a3,a4,decide_true,decide_false]at h33;cases h33)
 refine ah<|qs<|aa<|aZ 1 Z<|W.block<|W.ca (ι:={x:Nat//match x with|k=>k<=p.evs.length∧ey lF (p.evs.drop k) (q.evs.drop k)=ey lF p.evs q.evs})
  (fun x=>match x.1 with|k=>[(2,.ptr 0 0),(3,.ptr 1 0),(5,.d (.v (.int .i64 ((k:Nat):Int))))]) []
  (fun x=>match x.1 with|k=>[(0,p.c.map A.d),(1,q.c.map A.d)]) [] [] 2 (fun x=>match x.1 with|k=>p.evs.length-k)
  [0,1] ⟨0,?_⟩ rfl ?_ trivial ?_ trivial rfl ?_
 ·exact⟨ς _,rfl⟩
 ·repeat' constructor
 ·repeat' constructor
 rintro⟨k,hk,hI⟩
 show W _ _ _ _ _ ⟨[(2,.ptr 0 0),(3,.ptr 1 0),(5,.d (.v (.int .i64 ((k:Nat):Int))))],[(0,p.c.map A.d),(1,q.c.map A.d)],[],2⟩
 refine aa<|aZ 5 Z<|cr (l:=p.evs) (k:=k) Z (by simp[Ex.bG,bo]) hk (fun x hx hd hlt=>?_)<|fun he hd=>?_
 ·
  obtain⟨y,hy,hyd⟩:=sr (l:=q.evs) (k:=k) (by omega)
  rw[hd,hyd]at hI
  simp only[ey]at hI
  refine ah<|qs<|aa<|W.block<|aa<|W.dD aY (by kernel_rfl)<|br (ev aY Z) Z<|br (ev aY Z) Z<|br (ev aY Z) Z<|br (indexAddr (l:=Ev.c x) aY Z Z Z Z Z Z (ε _) (bC hx) Z) Z<|br (ev aY Z) Z<|br (ev aY Z) Z<|br (ev aY Z) Z<|br (ev aY Z) Z<|br (indexAddr (l:=Ev.c y) aY Z Z Z Z Z Z (ε _) (bC hy) Z) Z<|br (ev aY Z) Z<|br (bk Z Z Z (Gw ..) Z) Z<|br (ev aY Z) Z<|ao<|qs<|bc Z (fun h52=>?_)<|fun h52=>?_
  ·
   have hn:lF x y=false:=by rw[<-hsE];simpa using h52
   have hg:eD p q=false:=by
    unfold eD
    rw[<-hI,hn];simp
   refine aZ 1 Z<|W.ret<|bw<|be<|cE<|bw<|be<|QF.bl trivial Z ?_
   rw[hg];rfl
  have hn:lF x y=true:=by rw[<-hsE];simpa using h52
  rw[hn,Bool.true_and]at hI
  refine ah<|bX<|qs<|cu 3 Z<|W.cg [0,1] ⟨k+1,?_⟩ ?_ Z ?_ trivial ?_ trivial Z
  ·exact⟨hlt,hI⟩
  ·dsimp only;omega
  ·repeat' first|exact trivial|refine⟨rfl,?_⟩|refine⟨bF (by assumption) (by assumption),?_⟩
  repeat' constructor
 rw[hd,dropEnd (l:=q.evs) (by omega)]at hI
 have hI:true=ey lF p.evs q.evs:=hI
 have hg:eD p q=true:=by
  unfold eD
  rw[<-hI,decide_eq_true e1,decide_eq_true e2,decide_eq_true e3];rfl
 refine ak<|bP<|bQ<|bO<|qs<|aZ 1 Z<|W.ret<|QF.bl trivial Z ?_
 rw[hg];rfl
theorem Dh(l m:List bH)(hl:l.length<=maxLen)(hp:∀p∈l,p.evs.length<=maxLen):bm Tryz.prog 34 [.d (.sl (l.map bH.c)),.d (.sl (m.map bH.c))] (.d (.v (.bool (ey eD l m)))) 0:=by
 refine bm.bW (n:=27) (ts:=[4]) Tryz.func34 (by kernel_rfl) Z Tryz.ntmps34 Tryz.results34 Z Z fun C hC hG=>aZ 1 Z<|aa<|aZ 5 Z<|bc Z (fun J=>?_)<|fun J=>?_;·
  have M:ey eD l m=false:=by
   cases he:ey eD l m with
   |false=>rfl
   |true=>have:=q9 he;simp at J;omega
  refine aZ 1 Z<|W.ret<|be<|QF.bl trivial Z ?_;rw[M];rfl
 have aj:l.length=m.length:=by simp at J;omega
 refine ah<|qs<|aa<|aZ 1 Z<|W.block<|W.ca (ι:={x:Nat//match x with|k=>k<=l.length∧ey eD (l.drop k) (m.drop k)=ey eD l m})
  (fun x=>match x.1 with|k=>[(5,.d (.v (.int .i64 ((k:Nat):Int))))]) [(0,_),(1,_)]
  (fun x=>match x.1 with|k=>[]) [] [] 0 (fun x=>match x.1 with|k=>l.length-k)
  [] ⟨0,?_⟩ Z ?_ ⟨rfl,rfl,rfl,rfl,trivial⟩ ?_ trivial Z ?_
 ·exact⟨ς _,rfl⟩
 ·repeat' constructor
 ·repeat' exact trivial
 rintro⟨k,hk,I⟩;show W _ _ _ _ _ ⟨[(5,.d (.v (.int .i64 ((k:Nat):Int)))),(0,_),(1,_)],[],[],0⟩;refine aa<|aZ 4 Z<|cr (l:=l) (k:=k) Z (by simp[Ex.bG,bo]) hk (fun x U hd X=>?_)<|fun he hd=>?_;·
  obtain⟨y,hy,ad⟩:=sr (l:=m) (k:=k) (by omega);rw[hd,ad]at I;simp only[ey]at I;have ai:=hp x (ζ U);refine ah<|qs<|aa<|W.block<|aa<|W.dD aY (by kernel_rfl)<|br (ev aY Z) Z<|br (ev aY Z) Z<|br (indexAddr (l:=bH.c x) aY Z Z Z Z Z Z (ε _) (bC U) Z) Z ?_
  refine br (ev aY Z) Z<|br (ev aY Z) Z<|br (ev aY Z) Z<|br (indexAddr (l:=bH.c y) aY Z Z Z Z Z Z (ε _) (bC hy) Z) Z ?_
  refine br (ev aY Z) Z<|br (bk Z Z Z (Dn x y ai) Z) Z<|br (ev aY Z) Z<|ao<|qs<|bc Z (fun N=>?_)<|fun N=>?_;·
   have O:eD x y=false:=by simpa using N
   have M:ey eD l m=false:=by rw[<-I,O];rfl
   refine aZ 1 Z<|W.ret<|bw<|be<|cE<|bw<|be<|QF.bl trivial Z ?_;rw[M];rfl
  have O:eD x y=true:=by simpa using N
  rw[O,Bool.true_and]at I;refine ah<|bX<|qs<|cu 3 Z<|W.cg [] ⟨k+1,?_⟩ ?_ Z ?_ ⟨rfl,rfl,rfl,rfl,trivial⟩ ?_ trivial Z;·exact⟨X,I⟩
  ·dsimp only;omega
  ·repeat' first|exact trivial|refine⟨bF (by assumption) (by assumption),?_⟩
  repeat' exact trivial
 rw[hd,dropEnd (l:=m) (by omega)]at I;have M:ey eD l m=true:=I.symm;refine ak<|bP<|bQ<|bO<|qs<|aZ 1 Z<|W.ret<|QF.bl trivial Z ?_;rw[M];rfl
theorem CM(ts:List GT)(ds:List (Int×Int))(sn:List Sn)(ht:ts.length<=1000)(hd:ds.length<=1000)(hs:sn.length<=1000):bm Tryz.prog 33 [.ag (fQ ts ds sn),.ag (fQ ts ds sn)] (.d (.v (.bool true))) 0:=by
 have hm:ts.length<=maxLen:=by simp only[maxLen];omega
 have hm2:ds.length<=maxLen:=by simp only[maxLen];omega
 have hm3:sn.length<=maxLen:=by simp only[maxLen];omega
 refine bm.bW (n:=87) (ts:=[4]) Tryz.func33 (by kernel_rfl) Z Tryz.ntmps33 Tryz.results33 Z Z fun C hC hG=>aa<|ab<|cz Z Z Z<|cz Z Z Z<|pE Z<|ae<|qs<|aa<|aa<|?_
 apply bJ;(case hb=>rfl)
 ·repeat' first|refine b7 rfl rfl rfl|refine bE rfl rfl ?_|refine bD rfl rfl rfl rfl ?_|refine pE rfl ?_|refine ae ?_|(apply bU;(case hj=>rfl);(case hl=>rfl))
 refine qs (bc Z (fun h32=>?_) (fun h32=>?_))
 ·
  exfalso;simp at h32
 refine ah<|qs<|aa<|aZ 1 Z<|W.block<|W.ca (ι:={x:Nat//match x with|k=>k<=ts.length})
  (fun x=>match x.1 with|k=>[(2,.ptr 0 0),(3,.ptr 1 0),(5,.d (.v (.int .i64 ((k:Nat):Int))))]) []
  (fun x=>match x.1 with|k=>[(0,(fQ ts ds sn).map A.d),(1,(fQ ts ds sn).map A.d)]) [] [] 2 (fun x=>match x.1 with|k=>ts.length-k)
  [0,1] ⟨0,?_⟩ rfl ?_ trivial ?_ trivial rfl ?_
 ·exact ς _
 ·repeat' constructor
 ·repeat' constructor
 rintro⟨k,hk⟩
 show W _ _ _ _ _ ⟨[(2,.ptr 0 0),(3,.ptr 1 0),(5,.d (.v (.int .i64 ((k:Nat):Int))))],[(0,(fQ ts ds sn).map A.d),(1,(fQ ts ds sn).map A.d)],[],2⟩
 refine aa<|aZ 5 Z<|cr (l:=ts) (k:=k) Z (by simp[Ex.bG,bo]) hk (fun t hx hd hlt=>?_)<|fun he hd=>?_
 ·
  refine ah<|qs<|aa<|W.block<|aa<|W.dD aY (by kernel_rfl)<|br (ev aY Z) Z<|br (ev aY Z) Z<|br (ev aY Z) Z<|br (indexAddr aY Z Z Z Z Z Z (ε _) (bC hx) Z) Z<|br (ev aY Z) Z<|br (ev aY Z) Z<|br (ev aY Z) Z<|br (ev aY Z) Z<|br (indexAddr aY Z Z Z Z Z Z (ε _) (bC hx) Z) Z<|br (ev aY Z) Z<|br (ev aY Z) Z<|ao<|qs<|bc Z (fun h50=>?_)<|fun h50=>?_
  ·
   exfalso;simp at h50
  refine ah<|bX<|qs<|cu 3 Z<|W.cg [0,1] ⟨k+1,?_⟩ ?_ Z ?_ trivial ?_ trivial Z
  ·exact hlt
  ·dsimp only;omega
  ·repeat' first|exact trivial|refine⟨rfl,?_⟩|refine⟨bF (by assumption) (by assumption),?_⟩
  repeat' constructor
 refine ak<|bP<|bQ<|bO<|qs<|aa<|aZ 1 Z<|W.block<|W.ca (ι:={x:Nat//match x with|k=>k<=ds.length})
  (fun x=>match x.1 with|k=>[(2,.ptr 0 0),(3,.ptr 1 0),(6,.d (.v (.int .i64 ((k:Nat):Int))))]) []
  (fun x=>match x.1 with|k=>[(0,(fQ ts ds sn).map A.d),(1,(fQ ts ds sn).map A.d)]) [] [] 2 (fun x=>match x.1 with|k=>ds.length-k)
  [0,1] ⟨0,?_⟩ rfl ?_ trivial ?_ trivial rfl ?_
 ·exact ς _
 ·repeat' constructor
 ·repeat' constructor
 rintro⟨k,hk⟩
 show W _ _ _ _ _ ⟨[(2,.ptr 0 0),(3,.ptr 1 0),(6,.d (.v (.int .i64 ((k:Nat):Int))))],[(0,(fQ ts ds sn).map A.d),(1,(fQ ts ds sn).map A.d)],[],2⟩
 refine aa<|aZ 5 Z<|cr (l:=ds) (k:=k) Z (by simp[Ex.bG,bo]) hk (fun t hx hd hlt=>?_)<|fun he hd=>?_
 ·
  refine ah<|qs<|aa<|W.block<|aa<|W.dD aY (by kernel_rfl)<|br (ev aY Z) Z<|br (ev aY Z) Z<|br (ev aY Z) Z<|br (indexAddr aY Z Z Z Z Z Z (ε _) (bC hx) Z) Z<|br (ev aY Z) Z<|br (ev aY Z) Z<|br (ev aY Z) Z<|br (ev aY Z) Z<|br (indexAddr aY Z Z Z Z Z Z (ε _) (bC hx) Z) Z<|br (ev aY Z) Z<|br (ev aY Z) Z<|ao<|qs<|bc Z (fun h68=>?_)<|fun h68=>?_
  ·
   exfalso;simp at h68
  refine ah<|bX<|qs<|cu 3 Z<|W.cg [0,1] ⟨k+1,?_⟩ ?_ Z ?_ trivial ?_ trivial Z
  ·exact hlt
  ·dsimp only;omega
  ·repeat' first|exact trivial|refine⟨rfl,?_⟩|refine⟨bF (by assumption) (by assumption),?_⟩
  repeat' constructor
 refine ak<|bP<|bQ<|bO<|qs<|aa<|aZ 1 Z<|W.block<|W.ca (ι:={x:Nat//match x with|k=>k<=sn.length})
  (fun x=>match x.1 with|k=>[(2,.ptr 0 0),(3,.ptr 1 0),(7,.d (.v (.int .i64 ((k:Nat):Int))))]) []
  (fun x=>match x.1 with|k=>[(0,(fQ ts ds sn).map A.d),(1,(fQ ts ds sn).map A.d)]) [] [] 2 (fun x=>match x.1 with|k=>sn.length-k)
  [0,1] ⟨0,?_⟩ rfl ?_ trivial ?_ trivial rfl ?_
 ·exact ς _
 ·repeat' constructor
 ·repeat' constructor
 rintro⟨k,hk⟩
 show W _ _ _ _ _ ⟨[(2,.ptr 0 0),(3,.ptr 1 0),(7,.d (.v (.int .i64 ((k:Nat):Int))))],[(0,(fQ ts ds sn).map A.d),(1,(fQ ts ds sn).map A.d)],[],2⟩
 refine aa<|aZ 5 Z<|cr (l:=sn) (k:=k) Z (by simp[Ex.bG,bo]) hk (fun t hx hd hlt=>?_)<|fun he hd=>?_
 ·
  refine ah<|qs<|aa<|W.block<|aa<|W.dD aY (by kernel_rfl)<|br (ev aY Z) Z<|br (ev aY Z) Z<|br (ev aY Z) Z<|br (indexAddr aY Z Z Z Z Z Z (ε _) (bC hx) Z) Z<|br (ev aY Z) Z<|br (ev aY Z) Z<|br (ev aY Z) Z<|br (ev aY Z) Z<|br (indexAddr aY Z Z Z Z Z Z (ε _) (bC hx) Z) Z<|br (ev aY Z) Z<|br (ev aY Z) Z<|ao<|qs<|bc Z (fun h86=>?_)<|fun h86=>?_
  ·
   exfalso;simp at h86
  refine ah<|bX<|qs<|cu 3 Z<|W.cg [0,1] ⟨k+1,?_⟩ ?_ Z ?_ trivial ?_ trivial Z
  ·exact hlt
  ·dsimp only;omega
  ·repeat' first|exact trivial|refine⟨rfl,?_⟩|refine⟨bF (by assumption) (by assumption),?_⟩
  repeat' constructor
 refine ak<|bP<|bQ<|bO<|qs<|aZ 1 Z<|W.ret<|QF.bl trivial Z ?_
 rfl
theorem Ee(ts:List GT)(ds:List (Int×Int))(sn:List Sn)(ps rs:List bH)(I:ts.length<=1000)(hd:ds.length<=1000)(hs:sn.length<=1000)(hl:ps.length<=maxLen)(hp:∀p∈ps,p.evs.length<=maxLen):
 bm Tryz.prog 11 [.ag (dM.c ⟨ts,ds,sn,ps⟩),.ag (dM.c ⟨ts,ds,sn,rs⟩)] (.d (.v (.bool (ey eD ps rs)))) 0:=by
 refine bm.bW (n:=17) (ts:=[4]) Tryz.func11 (by kernel_rfl) Z Tryz.ntmps11 Tryz.results11 Z Z fun C hC J=>aa<|ab<|cz Z Z Z<|cz Z Z Z<|pE Z<|ae<|qs<|aa ?_;apply bJ;(case hb=>rfl);·repeat' first|refine b7 Z Z Z|refine bE Z Z ?_|refine pE Z ?_|refine pu (bk Z Z Z (CM ts ds sn I hd hs) Z) Z ?_|refine pu (bk Z Z Z (Dh ps rs hl hp) Z) Z ?_|refine ae ?_
 refine qs (W.ret (QF.bl trivial Z ?_));rfl
theorem DQ{ts:List GT}{ds:List (Int×Int)}{sn:List Sn}{ps:List bH}(I:ps.length<=8)(J:(∀p∈ps,cD p=0)->total ps<=1000)(h:(ez ts ds sn ps).2=0):
 ez ts ds sn ps=(⟨ts,ds,sn,ts.flatMap fun t=>cc t.id ps⟩,0)∧ts.length<=1000∧ds.length<=1000∧sn.length<=1000∧(ts.flatMap fun t=>cc t.id ps).length<=maxLen∧∀p∈ts.flatMap fun t=>cc t.id ps,p.evs.length<=maxLen:=by
 have h1:dB ts ds sn=0:=by
  unfold ez at h;split at h;·rename_i e;exact absurd h e
  rename_i e;simpa using e
 have h2:fT (ts.map GT.id) [] ps=0:=by
  unfold ez at h;rw[if_neg (by simp[h1])]at h;split at h;·rename_i e;exact absurd h e
  rename_i e;simpa using e
 obtain⟨N,a2,a3,a4,a5⟩:=lq h1;have O:=J fun p hp=>(lr h2 p hp).1;have U:ds.length<=8∧sn.length<=200:=by
  unfold cJ at a4;split at a4;·cases a4
  split at a4;·cases a4
  omega
 refine⟨by unfold ez;rw[if_neg (by simp[h1]),if_neg (by simp[h2])],by omega,by omega,by omega,?_,fun p hp=>?_⟩;·
  have:=rW (ts:=ts) ps I a2;simp only[maxLen];omega
 obtain⟨t,_,M⟩:=List.mem_flatMap.1 hp;have:=(iN t.id (rfl:ps.length=ps.length)).2 p M;simp only[maxLen];omega
theorem AX(l:dM)(O:l.ps.length<=8)(hE:∀p∈l.ps,p.evs.length<=140737488355328)(U:(∀p∈l.ps,cD p=0)->total l.ps<=1000):bm Tryz.prog 39 [.ag l.c] (.d (ci (gv l))) 0:=by
 refine bm.bW (n:=20) (ts:=[2]) Tryz.func39 (by kernel_rfl) Z Tryz.ntmps39 Tryz.results39 Z Z fun C hC hG=>aa<|ab<|cz Z Z Z<|pE Z<|ae<|qs<|aa<|ab<|bb 4 Z<|pu (bk Z Z Z (H6 l.ts l.ds l.sn l.ps O hE U) Z) Z<|bb 3 Z<|b9 aY Z Z Z<|bt aY Z Z Z Z Z Z Z Z<|pE Z<|ae<|qs<|aa<|aZ 2 Z<|bc Z (fun I=>?_)<|fun I=>?_;·
  have h0:(ez l.ts l.ds l.sn l.ps).2≠0:=by simpa using I
  have J:gv l=(ez l.ts l.ds l.sn l.ps).2:=by unfold gv;rw[if_neg];rintro⟨q1,_⟩;exact h0 q1
  refine aZ 2 Z<|W.ret<|be<|QF.bl trivial Z ?_;rw[J];rfl
 have h0:(ez l.ts l.ds l.sn l.ps).2=0:=by simpa using I
 obtain⟨X,ht,hd,hs,hl,hp⟩:=DQ O U h0;have ad:=Ee l.ts l.ds l.sn (l.ts.flatMap fun t=>cc t.id l.ps) l.ps ht hd hs hl hp;have N:gv l=if ey eD (l.ts.flatMap fun t=>cc t.id l.ps) l.ps=true then 0 else 10:=by unfold gv;rw[X];unfold oU;cases ey eD (l.ts.flatMap fun t=>cc t.id l.ps) l.ps<;>simp
 have ai:(ez l.ts l.ds l.sn l.ps).1=⟨l.ts,l.ds,l.sn,l.ts.flatMap fun t=>cc t.id l.ps⟩:=by rw[X]
 rw[ai];refine ah<|qs<|aa<|aa<|ab<|bb 2 Z ?_
 refine pu (bk Z Z Z ad Z) Z<|pE Z<|ae<|qs<|bc Z (fun M=>?_)<|fun M=>?_;·
  have J:gv l=10:=by rw[N,if_neg (by simpa using M)]
  refine aZ 1 Z<|W.ret<|be<|QF.bl trivial Z ?_;rw[J];rfl
 have J:gv l=0:=by rw[N,if_pos (by simpa using M)]
 refine ah<|qs<|aZ 1 Z<|W.ret<|QF.bl trivial Z ?_;rw[J];rfl
theorem rF(u s):cU Tryz.prog 170 [.ptr 0 0] [[.np 0 tB u,.bf 1 tU s]] 1 (.tup []) [[.np 0 tB true,.bf 1 tU s]] 1:=nG.FU J0 GK u (.bf 1 tU s) 1
theorem EL(u)(s x:ByteArray)(hb:s.size+x.size<=140737488355328):cU Tryz.prog 137 [.ptr 0 0,.d (.v (.string x))] [[.np 0 tB u,.bf 1 tU s]] 1 (.tup [.d (.v (.int .i64 x.size)),.d (.v .nilIface)]) [[.np 0 tB true,.bf 1 tU (s++x)]] 1:=by
 refine cU.dY aY (n:=19) (rs:=[.tmp 4,.tmp 5]) Tryz.func137 (by kernel_rfl) Z Tryz.ntmps137 Tryz.results137 Z Z fun C hC I=>aZ 2 Z<|aa<|ab<|pE Z<|bT [0] [1] Z Z Z Z Z ((rF u s)) Z Z (by rfl) (by rfl) Z Z Z Z<|ae<|qs<|aa<|ab<|bb 6 Z<|Cw aY Z Z Z Z Z Z Z Z Z Z hb Z Z<|bb 2 Z<|bt aY Z Z Z Z Z Z Z Z<|ae<|qs<|aZ 4 Z<|W.ret<|an aY [4] trivial Z Z Z Z ?_ ?_;·exact⟨rfl,trivial⟩
 rfl
theorem rk(u)(s:ByteArray)(c)(m:ByteArray)(hm:m.size=1)(I:∀b,m.data[0]?=some b->(b.toNat:Int)=c)(hb:s.size+1<=140737488355328):cU Tryz.prog 139 [.ptr 0 0,.d (.v (.int .u8 c))] [[.np 0 tB u,.bf 1 tU s]] 1 (.d (.v .nilIface)) [[.np 0 tB true,.bf 1 tU (s++m)]] 1:=by
 refine cU.dY aY (n:=17) (rs:=[.tmp 4]) Tryz.func139 (by kernel_rfl) Z Tryz.ntmps139 Tryz.results139 Z Z fun C hC J=>aZ 1 Z<|aa<|ab<|pE Z<|bT [0] [1] Z Z Z Z Z ((rF u s)) Z Z (by rfl) (by rfl) Z Z Z Z<|ae<|qs<|aa<|ab<|bb 6 Z<|pu (bZ aY Z Z Z Z Z Z Z Z Z) Z<|Ay aY Z Z Z Z Z Z Z Z m hm I hb Z Z<|bb 2 Z<|bt aY Z Z Z Z Z Z Z Z<|ae<|qs<|aZ 1 Z<|W.ret<|an aY [4] trivial Z Z Z Z ?_ ?_;·exact⟨rfl,trivial⟩
 rfl
theorem yJ(b:UInt8):bm Tryz.prog 171 [.d (.v (.int .u8 b.toNat))] (.d (.v (.bool (known b)))) 0:=by
 refine bm.bW (n:=17) (ts:=[2]) Tryz.func171 (by kernel_rfl) Z Tryz.ntmps171 Tryz.results171 Z Z fun C hC I=>aZ 1 Z<|aa ?_;apply bJ;(case hb=>rfl);·repeat' first|refine b7 Z Z Z|refine bE Z Z ?_|refine bD Z Z Z Z ?_|refine kn Z Z Z ?_|refine pE Z ?_|refine ae ?_|(apply bU;(case hj=>rfl);(case hl=>rfl))
 refine qs (W.ret (QF.bl trivial Z ?_));show A.d (D.v (Value.bool _))=A.d (D.v (Value.bool _));congr 3;unfold known;generalize b.toNat=n;simp only[show((n:Int)=9)=(n=9)from propext (by omega),show((n:Int)=10)=(n=10)from propext (by omega),show((32:Int)<=n)=(32<=n)from propext (by omega),show((n:Int)<=126)=(n<=126)from propext (by omega)];cases decide (n=9)<;>cases decide (n=10)<;>cases decide (32<=n)<;>cases decide (n<=126)<;>rfl
theorem plain_fn(s):bm Tryz.prog 144 [.d (.v (.string s))] (.d (.v (.bool (da s)))) 0:=by
 refine bm.bW (n:=15) (ts:=[2]) Tryz.func144 (by kernel_rfl) Z Tryz.ntmps144 Tryz.results144 Z Z fun C hC O=>aZ 1 Z<|aa<|aZ 3 Z<|W.block<|W.lj (t:=0) Z<|fun hok=>?_;have hlen:=kb hok
 refine W.ca (ι:={x:Nat//match x with|k=>k<=(bg s).length∧((bg s).drop k).all known=(bg s).all known})
  (fun x=>match x.1 with|k=>[(6,.d (.v (.int .i64 ((k:Nat):Int))))]) [(0,_),(5,_)]
  (fun x=>match x.1 with|k=>[]) [] [] 0 (fun x=>match x.1 with|k=>(bg s).length-k)
  [] ⟨0,?_⟩ Z ?_ ⟨rfl,rfl,rfl,rfl,trivial⟩ ?_ trivial Z ?_
 ·exact⟨ς _,rfl⟩
 ·repeat' constructor
 ·repeat' exact trivial
 rintro⟨k,N,I⟩;show W _ _ _ _ _ ⟨[(6,.d (.v (.int .i64 ((k:Nat):Int)))),(0,_),(5,_)],[],[],0⟩;refine aZ 1 Z<|aa<|cr (l:=bg s) (k:=k) Z (by simp[Ex.bG,bo]) N (fun b U hd J=>?_)<|fun he hd=>?_;·
  rw[hd,List.all_cons]at I;refine ah<|qs<|aa<|W.block<|aZ 2 Z<|aa<|ab<|bb 2 Z<|pu (eJ aY Z Z Z Z (ε _) (gx (by assumption))) Z<|pu (bk Z Z Z (yJ ..) Z) Z<|pE Z<|ae<|qs<|bc Z (fun M=>?_)<|fun M=>?_;·
   refine aZ 1 Z<|W.ret<|bw<|be<|cE<|bw<|be<|QF.bl trivial Z ?_;simp only[norm,bM];unfold da;rw[<-I];simp_all
  refine ah<|bX<|qs<|cu 2 Z<|W.cg [] ⟨k+1,?_⟩ ?_ Z ?_ ⟨rfl,rfl,rfl,rfl,trivial⟩ ?_ trivial Z;·exact⟨J,by rw[<-I];simp_all⟩
  ·dsimp only;omega
  ·repeat' first|exact trivial|refine⟨bF (by assumption) (by assumption),?_⟩
  repeat' exact trivial
 rw[hd]at I;refine ak<|bP<|bQ<|bO<|qs<|aZ 1 Z<|W.ret<|QF.bl trivial Z ?_;simp only[norm,bM];unfold da;rw[<-I];simp_all
theorem HG(a b)(I:a<=maxLen)(hb:b<=maxLen):decide (IntKind.i64.wrap ((a:Int)+(b:Int))=0)=decide (a+b=0):=by
 have e:maxLen=9223372036854775807:=rfl;have h:=wrap_zero (x:=(a:Int)+(b:Int)) (by omega) (by omega);by_cases q:a+b=0;·rw[decide_eq_true q,decide_eq_true (h.2 (by omega))]
 rw[decide_eq_false q,decide_eq_false (fun z=>q (by have:=h.1 z;omega))]
theorem Fs(j:JV):bm Tryz.prog 142 [.ag j.c] (.d (.v (.bool (dJ j)))) 0:=by
 refine bm.bW (n:=91) (ts:=[2]) Tryz.func142 (by kernel_rfl) Z Tryz.ntmps142 Tryz.results142 Z Z fun C hC hG=>aa<|ab<|cz Z Z Z<|pE Z<|ae<|qs<|aa<|aa<|pQ (g:=0) (j:=3) Z Z<|fun M=>?_
 refine pQ (g:=0) (j:=4) Z Z (fun N=>?_);rw[η]at M;rw[JV.bG]at N;have I:=HG _ _ M N;refine cu 2 Z<|qs<|W.block<|aZ 2 Z<|bc Z (fun h5=>?_)<|fun h5=>?_;·
  refine aa ?_;apply bJ;(case hb=>rfl);·repeat' first|refine b7 Z Z Z|refine bE Z Z ?_|refine bD Z Z Z Z ?_|refine pE Z ?_|refine ae ?_|(apply bU;(case hj=>rfl);(case hl=>rfl))
  refine qs (W.ret (bw (be (QF.bl trivial Z ?_))));show A.d (D.v (Value.bool _))=A.d (D.v (Value.bool _));congr 3;unfold dJ;try simp only[η,JV.bG,I]
  simp only[Δ,S']at*;simp_all<;>grind
 refine aa<|aZ 2 Z<|bc Z (fun J=>?_)<|fun J=>?_;·
  refine ah (qs (W.gr Z (aa ?_)));apply bJ;(case hb=>rfl);·repeat' first|refine b7 Z Z Z|refine bE Z Z ?_|refine bD Z Z Z Z ?_|refine pE Z ?_|refine ae ?_|(apply bU;(case hj=>rfl);(case hl=>rfl))
  refine qs (W.ret (bw (be (QF.bl trivial Z ?_))));show A.d (D.v (Value.bool _))=A.d (D.v (Value.bool _));congr 3;unfold dJ;try simp only[η,JV.bG,I]
  simp only[Δ,S']at*;simp_all<;>grind
 refine cu 2 Z<|qs<|bc Z (fun J=>?_)<|fun J=>?_;·
  refine aa ?_;apply bJ;(case hb=>rfl);·repeat' first|refine b7 Z Z Z|refine bE Z Z ?_|refine bD Z Z Z Z ?_|refine pE Z ?_|refine ae ?_|(apply bU;(case hj=>rfl);(case hl=>rfl))
  refine qs (W.ret (bw (be (QF.bl trivial Z ?_))));show A.d (D.v (Value.bool _))=A.d (D.v (Value.bool _));congr 3;unfold dJ;try simp only[η,JV.bG,I]
  simp only[Δ,S']at*;simp_all<;>grind
 refine aZ 2 Z<|bc Z (fun O=>?_)<|fun O=>?_;·
  refine aa ?_;apply bJ;(case hb=>rfl);·repeat' first|refine b7 Z Z Z|refine bE Z Z ?_|refine bD Z Z Z Z ?_|refine pE Z ?_|refine ae ?_|(apply bU;(case hj=>rfl);(case hl=>rfl))
  refine qs (W.ret (bw (be (QF.bl trivial Z ?_))));show A.d (D.v (Value.bool _))=A.d (D.v (Value.bool _));congr 3;unfold dJ;try simp only[η,JV.bG,I]
  simp only[Δ,S']at*;simp_all<;>grind
 refine aZ 2 Z<|bc Z (fun U=>?_)<|fun U=>?_;·
  refine aa ?_;apply bJ;(case hb=>rfl);·repeat' first|refine b7 Z Z Z|refine bE Z Z ?_|refine bD Z Z Z Z ?_|refine pE Z ?_|refine ae ?_|(apply bU;(case hj=>rfl);(case hl=>rfl))
  refine qs (W.ret (bw (be (QF.bl trivial Z ?_))));show A.d (D.v (Value.bool _))=A.d (D.v (Value.bool _));congr 3;unfold dJ;try simp only[η,JV.bG,I]
  simp only[Δ,S']at*;simp_all<;>grind
 refine aZ 2 Z<|bc Z (fun X=>?_)<|fun X=>?_;·
  refine aa ?_;apply bJ;(case hb=>rfl);·repeat' first|refine b7 Z Z Z|refine bE Z Z ?_|refine bD Z Z Z Z ?_|refine pE Z ?_|refine ae ?_|(apply bU;(case hj=>rfl);(case hl=>rfl))
  refine qs (W.ret (bw (be (QF.bl trivial Z ?_))));show A.d (D.v (Value.bool _))=A.d (D.v (Value.bool _));congr 3;unfold dJ;try simp only[η,JV.bG,I]
  simp only[Δ,S']at*;simp_all<;>grind
 refine ah<|bX<|qs<|aZ 1 Z<|W.ret<|QF.bl trivial Z ?_;show A.d (D.v (Value.bool _))=A.d (D.v (Value.bool _));congr 3;unfold dJ;try simp only[η,JV.bG,I]
 simp only[Δ,S']at*;simp_all<;>grind
theorem AI(l:List ByteArray):bm Tryz.prog 146 [.d (.sl (l.map sc))] (.d (.v (.bool (gV [] l)))) 0:=by
 refine bm.bW (n:=19) (ts:=[2]) Tryz.func146 (by kernel_rfl) Z Tryz.ntmps146 Tryz.results146 Z Z fun C hC hG=>aZ 1 Z<|aa<|ab<|mkMap Z<|pE Z<|ae<|qs<|aa<|aZ 3 Z<|W.block<|W.len (t:=7) Z Z<|fun hlen=>?_
 try simp only[η,Ex.bG]at hlen
 refine W.ca (ι:={x:Nat//match x with|k=>k<=l.length∧(l.take k).Nodup∧gV (l.take k) (l.drop k)=gV [] l})
  (fun x=>match x.1 with|k=>[(3,.mp 0 (eP sk bv (iH (l.take k)))),(9,.d (.v (.int .i64 ((k:Nat):Int))))]) [(7,_),(8,_)]
  (fun x=>match x.1 with|k=>[]) [] [0] 1 (fun x=>match x.1 with|k=>l.length-k)
  [0] ⟨0,?_⟩ rfl ?_ ⟨rfl,rfl,rfl,rfl,trivial⟩ ?_ trivial rfl ?_
 ·exact⟨ς _,by simp,by simp⟩
 ·repeat' constructor
 ·repeat' exact trivial
 rintro⟨k,hk,hn,hI⟩
 show W _ _ _ _ _ ⟨[(3,.mp 0 (eP sk bv (iH (l.take k)))),(9,.d (.v (.int .i64 ((k:Nat):Int)))),(7,_),(8,_)],[],[0],1⟩
 refine aZ 1 Z<|aa<|cr (l:=l) (k:=k) Z (by simp[Ex.bG,bo]) hk (fun s hx hd hlt=>?_)<|fun he hd=>?_
 ·
  rw[hd]at hI
  simp only[gV]at hI
  have htk:l.take (k+1)=l.take k++[s]:=by rw[Φ,hx];rfl
  refine ah<|qs<|aa<|W.block<|aa<|ab<|pu (indexAddr aY Z Z Z Z Z Z (ε _) (bC hx) Z) Z<|bb 2 Z<|ae<|qs<|aa<|aa<|ab<|bb 2 Z<|pu (nY (kf:=sk) (vf:=bv) (l:=iH (l.take k)) (a:=s) (z:=false) (zx:=.bool false) aY Z Z Z Z Z (vW (aY.kr Z Z)) Z Z Z (fun w pv=>.v _ Z) (by rw[lC];exact hn) (congrArg bv (xb hn s))) Z<|ae<|qs<|bc Z (fun h15=>?_)<|fun h15=>?_
  ·
   rw[if_pos h15]at hI
   refine aZ 1 Z<|W.ret<|be<|bw<|be<|cE<|bw<|be<|QF.bl trivial Z ?_
   simp only[norm,bM];rw[<-hI]
  rw[if_neg (by simp[h15])]at hI
  have hn2:=vP hn h15
  refine ah<|qs<|ab<|bb 2 Z<|rK (kf:=sk) (vf:=bv) (l:=iH (l.take k)) (a:=s) (y:=true) aY 3 Z Z Z Z Z Z Z (vW (aY.kr Z Z)) Z Z (by rw[lC];exact hn) (congrArg (eP sk bv) ((xE h15).trans (congrArg iH htk.symm))) Z<|ae<|bX<|qs<|cu 2 Z<|W.cg [1] ⟨k+1,?_⟩ ?_ Z ?_ ⟨rfl,rfl,rfl,rfl,trivial⟩ ?_ trivial Z
  ·exact⟨hlt,by rw[htk];exact hn2,by rw[htk];exact hI⟩
  ·dsimp only;omega
  ·repeat' first|exact trivial|refine⟨rfl,?_⟩|refine⟨bF (by assumption) (by assumption),?_⟩
  repeat' exact trivial
 rw[hd]at hI
 simp only[gV]at hI
 refine ak<|bP<|bQ<|bO<|qs<|aZ 1 Z<|W.ret<|QF.bl trivial Z ?_
 simp only[norm,bM];rw[<-hI]
theorem e7(j:JV):j.c=[ci j.op,ci j.n,cs j.s,.sl (j.keys.map sc),.sl (j.kids.map JV.c)]:=by unfold JV.c;rw[JV.qD]
theorem gI(j:JV)(level):b8 j level=if dH j level≠0 then dH j level else dn j.kids (level+1):=by cases j;simp only[b8,JV.kids]
theorem AN(s):bm Tryz.prog 145 [.d (.v (.string s))] (.d (.v (.bool (!da s)))) 0:=by refine bm.bW (n:=6) (ts:=[2]) Tryz.func145 (by kernel_rfl) Z Tryz.ntmps145 Tryz.results145 Z Z fun C hC I=>?_;refine aZ 1 Z ?_;refine aa (ab (pE Z (pu (bk Z Z Z (plain_fn ..) Z) Z ?_)));refine bb 2 Z ?_;refine ae (qs (W.ret (QF.bl trivial Z ?_)));rfl
theorem Eu:∀(j:JV)(level:Int),0<=level->level<=17->bm Tryz.prog 95 [.ag j.c,.d (.v (.int .i64 level))] (.d (.v (.int .i64 (b8 j level)))) 0:=by
 refine aD fun j J=>?_;intro level h0 h1;have I:=Fs j;rw[e7 j]at I⊢;have ai:dJ j=true->j.op<5->j.kids=[]:=by
  intro M a7;unfold dJ at M;have e5:¬j.op=5:=by omega
  have e6:¬j.op=6:=by omega
  rw[if_neg e5,if_neg e6]at M;refine List.length_eq_zero_iff.1 ?_;split at M;·simp only[μ,Δ]at M;omega
  split at M;·simp only[μ,Δ]at M;omega
  split at M;·simp only[μ,Δ]at M;omega
  cases M
 refine bm.bW (n:=70) (ts:=[4]) Tryz.func95 (by kernel_rfl) Z Tryz.ntmps95 Tryz.results95 Z Z fun C hC hG=>aa<|ab<|cz Z Z Z<|pE Z<|ae<|qs<|aa<|W.block<|aa<|ab<|bb 1 Z<|pu (bk Z Z Z I Z) Z<|bb 2 Z<|ae<|qs<|bc Z (fun h8=>?_)<|fun h8=>?_;·
  refine aZ 1 Z<|W.ret<|bw<|be<|QF.bl trivial Z ?_;clear J I;show A.d (D.v (Value.int _ _))=A.d (D.v (Value.int _ _));congr 3;rw[gI j];unfold dH;grind
 iterate 2 refine aa ?_
 apply bJ;(case hb=>rfl);·repeat' first|refine b7 Z Z Z|refine bE Z Z ?_|refine bD Z Z Z Z ?_|refine pE Z ?_|refine ae ?_|(apply bU;(case hj=>rfl);(case hl=>rfl))
 refine qs (bc Z (fun O=>?_) (fun O=>?_));·
  refine ah<|qs<|W.gr Z<|aZ 1 Z<|W.ret<|bw<|be<|QF.bl trivial Z ?_;clear J I;show A.d (D.v (Value.int _ _))=A.d (D.v (Value.int _ _));congr 3;rw[gI j];unfold dH;grind
 apply bJ;(case hb=>rfl);·repeat' first|refine b7 Z Z Z|refine bE Z Z ?_|refine bD Z Z Z Z ?_|refine pE Z ?_|refine pu (bk Z Z Z (Hp ..) Z) Z ?_|refine ae ?_|(apply bU;(case hj=>rfl);(case hl=>rfl))
 refine qs (bc Z (fun O=>?_) (fun O=>?_));·
  refine aZ 1 Z<|W.ret<|bw<|be<|QF.bl trivial Z ?_;clear J I;show A.d (D.v (Value.int _ _))=A.d (D.v (Value.int _ _));congr 3;rw[gI j];unfold dH;grind
 refine aa<|aa<|ab<|bb 2 Z ?_
 refine pu (bk Z Z Z (plain_fn ..) Z) Z<|bb 2 Z<|ae<|qs<|bc Z (fun U=>?_)<|fun U=>?_;·
  refine ah<|qs<|W.gr Z<|aZ 1 Z<|W.ret<|bw<|be<|QF.bl trivial Z ?_;clear J I;show A.d (D.v (Value.int _ _))=A.d (D.v (Value.int _ _));congr 3;rw[gI j];unfold dH;grind
 refine ab<|bb 2 Z<|pu (bk Z Z Z (wB _ [] ⟨fun _ _=>rfl,rfl⟩ _ AN j.keys) Z) Z<|pE Z<|ae<|qs<|bc Z (fun U=>?_)<|fun U=>?_;·
  refine aZ 1 Z<|W.ret<|bw<|be<|QF.bl trivial Z ?_;clear J I;show A.d (D.v (Value.int _ _))=A.d (D.v (Value.int _ _));congr 3;rw[gI j];unfold dH;grind
 refine aa<|ab<|bb 2 Z<|pu (bk Z Z Z (AI ..) Z) Z<|pE Z<|ae<|qs<|bc Z (fun a1=>?_)<|fun a1=>?_;·
  refine aZ 1 Z<|W.ret<|bw<|be<|QF.bl trivial Z ?_;clear J I;show A.d (D.v (Value.int _ _))=A.d (D.v (Value.int _ _));congr 3;rw[gI j];unfold dH;grind
 refine aa ?_;apply bJ;(case hb=>rfl);·repeat' first|refine b7 Z Z Z|refine bE Z Z ?_|refine bD Z Z Z Z ?_|refine pE Z ?_|refine ae ?_|(apply bU;(case hj=>rfl);(case hl=>rfl))
 refine qs (bc Z (fun aj=>?_) (fun aj=>?_));·
  refine aZ 1 Z<|W.ret<|bw<|be<|QF.bl trivial Z ?_;clear J I;show A.d (D.v (Value.int _ _))=A.d (D.v (Value.int _ _));congr 3;rw[gI j];unfold dH;grind
 refine ah<|bX<|qs<|aa<|aZ 4 Z<|W.block<|W.len (t:=56) Z Z<|fun hlen=>?_;try simp only[η,Ex.bG]at hlen
 refine W.ca (ι:={x:Nat//match x with|k=>k<=j.kids.length∧dn (j.kids.drop k) (level+1)=dn j.kids (level+1)})
  (fun x=>match x.1 with|k=>[(58,.d (.v (.int .i64 ((k:Nat):Int))))]) [(1,_),(56,_),(57,_)]
  (fun x=>match x.1 with|k=>[]) [] [] 0 (fun x=>match x.1 with|k=>j.kids.length-k)
  [] ⟨0,?_⟩ Z ?_ ⟨rfl,rfl,rfl,rfl,rfl,rfl,trivial⟩ ?_ trivial Z ?_
 ·exact⟨ς _,by simp⟩
 ·repeat' constructor
 ·repeat' exact trivial
 rintro⟨k,hk,N⟩;show W _ _ _ _ _ ⟨[(58,.d (.v (.int .i64 ((k:Nat):Int)))),(1,_),(56,_),(57,_)],[],[],0⟩;refine aZ 1 Z<|aa<|cr (l:=j.kids) (k:=k) Z (by simp[Ex.bG,bo]) hk (fun x hx hd X=>?_)<|fun he hd=>?_;·
  rw[hd]at N;simp only[dn]at N;have a8:level<=16:=by
   by_cases q:j.op<5;·rw[ai (by simpa using h8) q]at X;simp at X
   revert aj;simp;omega
  have a6:=J x (ζ hx) (level+1) (by omega) (by omega);refine ah<|qs<|aa<|W.block<|aa<|ab<|pu (indexAddr aY Z Z Z Z Z Z (ε _) (bC hx) Z) Z<|bb 1 Z<|b9 aY Z Z Z<|bt aY Z Z Z Z Z Z Z Z<|ae<|qs<|aa<|ab<|bb 2 Z<|pu (cW (ev aY Z) (wrap64 (by omega))) Z<|pu (bk Z Z Z a6 Z) Z<|pE Z<|ae<|qs<|aZ 2 Z<|bc Z (fun ad=>?_)<|fun ad=>?_;·
   have hc:b8 x (level+1)≠0:=by simpa using ad
   rw[if_pos hc]at N;refine aZ 2 Z<|W.ret<|bw<|be<|cE<|bw<|be<|QF.bl trivial Z ?_;clear J I;show A.d (D.v (Value.int _ _))=A.d (D.v (Value.int _ _));congr 3;rw[gI j];unfold dH;grind
  have hc:b8 x (level+1)=0:=by simpa using ad
  rw[if_neg (by simp[hc])]at N;refine ah<|bX<|qs<|cu 2 Z<|W.cg [] ⟨k+1,?_⟩ ?_ Z ?_ ⟨rfl,rfl,rfl,rfl,rfl,rfl,trivial⟩ ?_ trivial Z;·exact⟨X,N⟩
  ·dsimp only;omega
  ·repeat' first|exact trivial|refine⟨bF (by assumption) (by assumption),?_⟩
  repeat' exact trivial
 rw[hd]at N;simp only[dn]at N;refine ak<|bP<|bQ<|bO<|qs<|aZ 1 Z<|W.ret<|QF.bl trivial Z ?_;clear J I;show A.d (D.v (Value.int _ _))=A.d (D.v (Value.int _ _));congr 3;rw[gI j];unfold dH;grind
end Go.Proofs.YtpiaiiopakafhaaGreatDoor
