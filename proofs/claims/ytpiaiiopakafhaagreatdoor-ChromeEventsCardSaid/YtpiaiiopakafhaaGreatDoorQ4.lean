import Derived.Test.YtpiaiiopakafhaaGreatDoorQ3
namespace Go.Tb
open Go.Ab
def l7 (t:cf):Int:=if t.id < 0∨1000000000000000 < t.id then 2 else bE t.name
def nE:List cf→List Int→Int
 | [],_=>0
 | t::r,seen=>if l7 t≠0 then l7 t else if (seen.any fun x=>decide (x=t.id))=true then 4 else nE r (seen++[t.id])
def fA (ts:List cf):Int:=if ts=[] then 8 else if 64 < ts.length then 7 else nE ts []
theorem uK:∀ (ts:List cf) (seen:List Int),nE ts seen=0→seen.Nodup→(∀ t∈ts,0≤t.id∧t.id≤1000000000000000∧bE t.name=0)∧(seen++ts.map cf.id).Nodup
 | [],seen,_,hn=>⟨by simp,by simpa using hn⟩
 | t::r,seen,h,hn=>by
   simp only[nE] at h;split at h;·rename_i q;exact absurd h q
   ·rename_i q
    split at h;·cases h
    ·rename_i q2
     have hm:t.id∉seen:=by simpa using q2
     obtain⟨h1,h2⟩:=uK r (seen++[t.id]) h (by rw[List.nodup_append];exact⟨hn,by simp,fun a J b hb=>by simp at hb;subst hb;rintro rfl;exact hm J⟩);refine⟨fun x I=>?_,by simpa using h2⟩;rcases List.mem_cons.1 I with rfl | I
     ·have q:l7 x=0:=by simpa using q
      unfold l7 at q;split at q;·cases q
      ·omega
     ·exact h1 x I
theorem vg {ts:List cf} (h:fA ts=0):Gl ts∧ts≠[]∧ts.length≤64:=by
 unfold fA at h;split at h;·cases h
 ·rename_i q
  split at h;·cases h
  ·obtain⟨h1,h2⟩:=uK ts [] h List.nodup_nil
   exact⟨⟨h1,by simpa using h2⟩,q,by omega⟩
def sZ (ts:List cf) (ps:List bl):Prop:=(ps.map bl.thread).Sublist (ts.map cf.id)∧(∀ p∈ps,p.serial=0∧p.lost=0∧0 < p.evs.length∧p.evs.length≤1000)∧(ps.map fun p=>p.evs.length).sum≤20000
def e7 (ts:List cf) (ps:List bl):iV×Int:=if fA ts≠0 then (jD,fA ts) else if eT ps≠0 then (jD,eT ps) else (⟨ts,dS,ps⟩,0)
theorem tI {α:Type} {f:α→Int}:∀ (l:List α) (a:Int),(bT (iK l f) a).getD false=(l.map f).any fun x=>decide (x=a)
 | [],a=>rfl
 | x::r,a=>by
   show(bT ((f x,true)::iK r f) a).getD false=_;rw[gr];by_cases e:f x=a;·simp[e]
   ·rw[if_neg e,tI r a];simp[e]
theorem Bg {α:Type} {f:α→Int} {l:List α} {k:Nat} {x:α} (hm:¬ ((l.take k).map f).any (fun y=>decide (y=f x))=true) (I:l[k]? = some x):cH (iK (l.take k) f) (f x) true=iK (l.take (k+1)) f:=by
 rw[iW]
 ·unfold iK
  rw[List.take_add_one,I,List.map_append];rfl
 ·intro p hp e
  apply hm;rw[List.any_eq_true];have:p.1∈(iK (l.take k) f).map (·.1):=List.mem_map.2 ⟨p,hp,rfl⟩;rw[nt] at this;exact⟨p.1,this,by simpa using e⟩
/-! the map of the threads' ends, when some packets were read -/
def mB (ids us:List Int):List (Int×Option (List D)):=ids.map fun a=>(a,if a∈us then none else some z2)
theorem Cd (ids us:List Int):(mB ids us).map (·.1)=ids:=by unfold mB;rw[List.map_map];exact List.map_id _
theorem C4 (ids:List Int):mB ids []=tq ids 0:=by unfold mB tq;simp
theorem D4 {ids us:List Int} {i:Nat} {a:Int} (h:ids[i]? = some a) (hu:a∉us):(mB ids us)[i]? = some (a,some z2):=by unfold mB;rw[List.getElem?_map,h];show some (a,if a∈us then none else some z2)=_;rw[if_neg hu]
theorem Dt {ids us:List Int} {i:Nat} {a:Int} (I:ids.Nodup) (h:ids[i]? = some a):(mB ids us).set i (a,none)=mB ids (us++[a]):=by
 have hi:=(List.getElem?_eq_some_iff.1 h).1;refine List.ext_getElem? fun k=>?_;rw[List.getElem?_set];unfold mB;simp only[List.getElem?_map,List.length_map];by_cases e:i=k
 ·subst e
  rw[if_pos rfl,if_pos hi,h];show _=some (a,if a∈us++[a] then none else some z2);rw[if_pos (by simp)]
 ·rw[if_neg e]
  cases hk:ids[k]? with
  | none=>rfl
  | some b=>
    have hb:b≠a:=by
     rintro rfl;rcases Nat.lt_trichotomy i k with q | q | q
     ·exact oA I hk (List.mem_iff_getElem?.2 ⟨i,by rw[List.getElem?_take_of_lt q,h]⟩)
     ·exact e q
     ·exact oA I h (List.mem_iff_getElem?.2 ⟨k,by rw[List.getElem?_take_of_lt q,hk]⟩)
    show some (b,if b∈us then none else some z2)=some (b,if b∈us++[a] then none else some z2);simp[hb]
/-! the parts, thread by thread -/
def mv (ts:List cf) (ps:List bl):List bl:=ts.flatMap fun t=>(ps.find? fun p=>decide (p.thread=t.id)).toList
theorem Co {ts:List cf} (ps:List bl) {n:Nat} (h:ts.length≤n):(mv ts ps).length≤n:=by
 refine Nat.le_trans ?_ h;unfold mv
 induction ts with
 | nil=>simp
 | cons t r I=>
   rw[List.flatMap_cons,List.length_append,List.length_cons];have:=I (by simp at h;omega);have h1:((ps.find? fun p=>decide (p.thread=t.id)).toList).length≤1:=by cases ps.find? _ <;> simp
   omega
theorem nK:∀ {ts:List cf} {ps:List bl},(ps.map bl.thread).Sublist (ts.map cf.id)→(ts.map cf.id).Nodup→mv ts ps=ps
  | [],ps,h,_=>by
    have:ps=[]:=by simpa using h
    subst this;rfl
  | t::r,ps,h,hn=>by
    rw[List.map_cons,List.nodup_cons] at hn
    have key:∀ (q:List bl) (p:bl),p.thread=t.id→mv r (p::q)=mv r q:=by
      intro q p hp
      unfold mv
      rw[List.flatMap_def,List.flatMap_def]
      congr 1
      refine List.map_congr_left fun x hx=>?_
      congr 1
      rw[List.find?_cons_of_neg]
      simp only[decide_eq_true_eq]
      rintro e
      exact hn.1 (by rw[←hp,e];exact List.mem_map.2 ⟨x,hx,rfl⟩)
    show(ps.find? fun p=>decide (p.thread=t.id)).toList++mv r ps=ps
    match ps,h with
    | [],_=>exact nK (ts:=r) (ps:=[]) (List.nil_sublist _) hn.2
    | p::q,h=>
      rw[List.map_cons,List.map_cons] at h
      by_cases e:p.thread=t.id
      · have h2:(q.map bl.thread).Sublist (r.map cf.id):=by
          rw[e] at h
          exact List.cons_sublist_cons.1 h
        rw[List.find?_cons_of_pos (by simpa using e),key q p e,nK h2 hn.2]
        rfl
      · have h2:((p::q).map bl.thread).Sublist (r.map cf.id):=by
          rcases List.sublist_cons_iff.1 h with h | ⟨x,hx,_⟩
          · exact h
          · exact absurd (List.cons.inj hx).1 e
        rw[nK h2 hn.2]
        rw[List.find?_eq_none.2]
        · rfl
        · intro x hx
          simp only[decide_eq_true_eq]
          rintro e2
          exact hn.1 (by rw[←e2];exact h2.subset (List.mem_map.2 ⟨x,hx,rfl⟩))
end Go.Tb
namespace Go.Tb
open Go.Ab
def dp:List JV→fk→fk×Int
 | [],x=>(x,0)
 | j::r,x=>if (dN x j).2≠0 then (x,(dN x j).2) else dp r (dN x j).1
def nameOf (l:List (Int×ByteArray)) (id:Int):ByteArray:=if (bT l id).getD bq=bq then B #[116]++dv id else (bT l id).getD bq
def kB (x:fk) (id:Int):cf:=⟨id,nameOf x.names id⟩
def dW (x:fk) (id:Int):List bl:=if (bT x.evs id).getD []=[] then [] else [⟨id,0,0,(bT x.evs id).getD []⟩]
def x0:fk:=⟨[],[],[]⟩
def iP (s:ByteArray):iV×Int:=
 if 65536 < s.size then (jD,7)
 else match du (ak s) with
  | .no _ e=>(jD,e)
  | .ok v _=>if v.op≠5 then (jD,10) else if (dp v.kids x0).2≠0 then (jD,(dp v.kids x0).2)
    else e7 ((dp v.kids x0).1.ids.map (kB (dp v.kids x0).1)) ((dp v.kids x0).1.ids.flatMap (dW (dp v.kids x0).1))
structure yK (v:JV):Prop where
 len:v.kids.length≤100000
 kids:∀ k∈v.kids,ra k
 tids:∀ k∈v.kids,(aY k bP 3).n≤1000000000000000
 evs:(dp v.kids x0).2=0→(((dp v.kids x0).1.ids.flatMap (dW (dp v.kids x0).1)).map fun p=>p.evs.length).sum≤1000
theorem BD {l:List (Int×List Ev)} {a:Int} {y:List Ev} {p:Int×List Ev} (hp:p∈cH l a y):p=(a,y)∨p∈l:=by
 induction l with
 | nil=>simp[cH] at hp;exact .inl hp
 | cons q r I=>
   simp only[cH] at hp;split at hp
   ·rcases List.mem_cons.1 hp with h | h
    ·exact .inl h
    ·exact .inr (List.mem_cons_of_mem _ h)
   ·rcases List.mem_cons.1 hp with h | h
    ·exact .inr (h▸List.mem_cons_self)
    ·exact(I h).imp id (List.mem_cons_of_mem _)
theorem pU (l:List Int) (id:Int):(eb l id).length≤l.length+1:=by unfold eb;split <;> simp
theorem nL {l:List Int} (h:l.Nodup) (id:Int):(eb l id).Nodup:=by
 unfold eb;split;·exact h
 ·rename_i q
  rw[List.nodup_append];refine⟨h,by simp,fun a I b hb=>?_⟩;simp at hb;subst hb;rintro rfl;exact q (List.any_eq_true.2 ⟨_,I,by simp⟩)
theorem wN {l:List Int} {id a:Int} (h:a∈eb l id):a∈l∨a=id:=by
 unfold eb at h;split at h;·exact .inl h
 ·rcases List.mem_append.1 h with h | h
  ·exact .inl h
  ·exact .inr (by simpa using h)
theorem CG {n:Nat} {x:fk} (h:sR n x) (j:JV):sR (n+1) (dN x j).1:=by
 obtain⟨h1,h2,h3,h4⟩:=h;have same:sR (n+1) x:=⟨h1,h2,by omega,fun p hp=>Nat.le_succ_of_le (h4 p hp)⟩;unfold dN;split;·exact same
 split
 ·split
  ·refine⟨h1,mN h2 _ _,Nat.le_trans (pU _ _) (by omega),fun p hp=>?_⟩
   rcases BD hp with rfl | hp
   ·show(_++[_]).length≤_
    rw[List.length_append];have:((bT x.evs (bo j).1).getD []).length≤n:=by
     unfold bT
     cases q:x.evs.find? fun p=>decide (p.1=(bo j).1) with
     | none=>simp
     | some p=>simpa [q] using h4 p (List.mem_of_find?_eq_some q)
    simp;omega
   ·exact Nat.le_succ_of_le (h4 p hp)
  ·exact same
 split;·exact same
 split;·exact same
 split;·exact same
 ·exact⟨mN h1 _ _,h2,Nat.le_trans (pU _ _) (by omega),fun p hp=>Nat.le_succ_of_le (h4 p hp)⟩
def Eg (x:fk):Prop:=x.ids.Nodup∧∀ a∈x.ids,0≤a∧a≤1000000000000000
theorem zB {j:JV} (h:(bo j).2.2=0):bD j (bO j)=false∧(bo j).1=(aY j bP 3).n:=by
 unfold bo at h ⊢;split at h;·rename_i q;exact absurd h q
 ·rename_i q
  rw[if_neg q]
  cases hb:bD j (bO j) with
  | true=>rw[hb] at h;cases h
  | false=>
    rw[hb] at h;refine⟨rfl,?_⟩;simp only[Bool.false_eq_true,if_false] at h ⊢
    cases I:ib (aY j dz 4).s with
    | none=>rw[I] at h;cases h
    | some f=>
      rw[I] at h;dsimp only at h ⊢;split at h;·cases h
      ·rename_i q2
       rw[if_neg q2];split at h;·rename_i q3;exact absurd h q3
       ·rename_i q3;rw[if_neg q3]
theorem BY {j:JV} (h:bD j (bO j)=false):0≤(aY j bP 3).n:=by unfold bD at h;simp only[Bool.or_eq_false_iff,decide_eq_false_iff_not] at h;omega
theorem Bq {x:fk} (h:Eg x) {j:JV} (hj:(aY j bP 3).n≤1000000000000000):Eg (dN x j).1:=by
 obtain⟨h1,h2⟩:=h;have add:∀ (id:Int),0≤id→id≤1000000000000000→(eb x.ids id).Nodup∧∀ a∈eb x.ids id,0≤a∧a≤1000000000000000:=fun id q1 q2=>⟨nL h1 id,fun a I=>(wN I).elim (h2 a) (fun e=>e▸⟨q1,q2⟩)⟩;unfold dN
 cases hb:bD j (bO j) with
 | true=>exact⟨h1,h2⟩
 | false=>
   have h0:=BY hb;rw[if_neg (by simp)];split
   ·split
    ·rename_i q
     have:=(zB q).2;exact add _ (by omega) (by omega)
    ·exact⟨h1,h2⟩
   split;·exact⟨h1,h2⟩
   split;·exact⟨h1,h2⟩
   split;·exact⟨h1,h2⟩
   ·exact add _ h0 hj
theorem wR (x:fk):∀ ids:List Int,((ids.flatMap (dW x)).map bl.thread).Sublist ((ids.map (kB x)).map cf.id)
 | []=>by simp
 | id::r=>by
   rw[List.flatMap_cons,List.map_append,List.map_cons,List.map_cons];have h:=wR x r;unfold dW at h ⊢;split;·exact List.Sublist.cons _ h
   ·exact List.Sublist.cons_cons _ h
theorem nk (x:fk) (l:List Int) {n:Nat} (h:l.length≤n):(l.flatMap (dW x)).length≤n:=by
 refine Nat.le_trans ?_ h;clear h
 induction l with
 | nil=>simp
 | cons a r I=>
   rw[List.flatMap_cons,List.length_append,List.length_cons];have:(dW x a).length≤1:=by unfold dW;split <;> simp
   omega
theorem DT {x:fk} {id:Int} {p:bl} (h:p∈dW x id):p.serial=0∧p.lost=0∧0 < p.evs.length:=by
 unfold dW at h;split at h;·cases h
 ·rename_i q
  have:p=⟨id,0,0,(bT x.evs id).getD []⟩:=by simpa using h
  subst this;exact⟨rfl,rfl,List.length_pos_iff.2 q⟩
theorem xo {l:List bl} {p:bl} (h:p∈l):p.evs.length≤(l.map fun p=>p.evs.length).sum:=by
 induction l with
 | nil=>cases h
 | cons q r I=>
   rw[List.map_cons,List.sum_cons];rcases List.mem_cons.1 h with rfl | h
   ·omega
   ·have:=I h;omega
theorem EO {x:fk} (hs:((x.ids.flatMap (dW x)).map fun p=>p.evs.length).sum≤1000):sZ (x.ids.map (kB x)) (x.ids.flatMap (dW x)):=by refine⟨wR x x.ids,fun p hp=>?_,by omega⟩;obtain⟨id,_,h⟩:=List.mem_flatMap.1 hp;obtain⟨a,b,c⟩:=DT h;exact⟨a,b,c,Nat.le_trans (xo hp) hs⟩
end Go.Tb
namespace Go.Tb
open Go.Ab
def eR {α:Type} (p:α→α→Bool):List α→List α→Bool
 | [],[]=>true
 | x::r,y::s=>p x y && eR p r s
 | _,_=>false
theorem qx {α:Type} {p:α→α→Bool}:∀ {l m:List α},eR p l m=true→l.length=m.length
 | [],[],_=>rfl
 | x::r,y::s,h=>by simp only[eR,Bool.and_eq_true] at h;simp[qx h.2]
 | [],_::_,h=>by cases h
 | _::_,[],h=>by cases h
theorem qu {α:Type} {p:α→α→Bool} (hp:∀ x y,p x y=true↔x=y):∀ {l m:List α},eR p l m=true↔l=m
 | [],[]=>by simp[eR]
 | x::r,y::s=>by simp[eR,hp,qu hp (l:=r) (m:=s)]
 | [],_::_=>by simp[eR]
 | _::_,[]=>by simp[eR]
def ub (a b:Ev):Bool:=decide (a.time=b.time) && decide (a.kind=b.kind) && decide (a.name=b.name) && decide (a.n=b.n) && decide (a.m=b.m) && decide (a.stack=b.stack)
theorem Ac (a b:Ev):ub a b=true↔a=b:=by
 cases a;cases b;simp only[ub,Bool.and_eq_true,decide_eq_true_eq,Ev.mk.injEq];constructor;·rintro⟨⟨⟨⟨⟨h1,h2⟩,h3⟩,h4⟩,h5⟩,I⟩;exact⟨h1,h2,h3,h4,h5,I⟩
 ·rintro⟨h1,h2,h3,h4,h5,I⟩;exact⟨⟨⟨⟨⟨h1,h2⟩,h3⟩,h4⟩,h5⟩,I⟩
def lf (p q:bl):Bool:=decide (p.thread=q.thread) && decide (p.serial=q.serial) && decide (p.lost=q.lost) && eR ub p.evs q.evs
theorem ye (p q:bl):lf p q=true↔p=q:=by
 cases p;cases q;simp only[lf,Bool.and_eq_true,decide_eq_true_eq,bl.mk.injEq,qu Ac];constructor;·rintro⟨⟨⟨h1,h2⟩,h3⟩,h4⟩;exact⟨h1,h2,h3,h4⟩
 ·rintro⟨h1,h2,h3,h4⟩;exact⟨⟨⟨h1,h2⟩,h3⟩,h4⟩
def ov (a b:iV):Bool:=decide (a.ts=b.ts) && decide (a.ds=b.ds) && eR lf a.ps b.ps
theorem xT (a b:iV):ov a b=true↔a=b:=by
 cases a;cases b;simp only[ov,Bool.and_eq_true,decide_eq_true_eq,iV.mk.injEq,qu ye];constructor;·rintro⟨⟨h1,h2⟩,h3⟩;exact⟨h1,h2,h3⟩
 ·rintro⟨h1,h2,h3⟩;exact⟨⟨h1,h2⟩,h3⟩
end Go.Tb
namespace Go.Ab
end Go.Ab
namespace Go.Tb
open Go.Ab
abbrev bv (b:Bool):D:=.v (.bool b)
def fy (l:List ByteArray):List (ByteArray×Bool):=l.map fun s=>(s,true)
theorem jj (l:List ByteArray):(fy l).map (·.1)=l:=by unfold fy;rw[List.map_map];exact List.map_id' l
theorem tu {l:List ByteArray} (M:l.Nodup) (s:ByteArray):(bT (fy l) s).getD false=l.any (fun x=>decide (x=s)):=by
 cases h:l.any (fun x=>decide (x=s)) with
 | true=>obtain⟨x,I,he⟩:=List.any_eq_true.1 h;have he:x=s:=of_decide_eq_true he;subst he;obtain⟨j,hj⟩:=List.mem_iff_getElem?.1 I;have:=wY (l:=fy l) (by rw[jj];exact M) (j:=j) (p:=(x,true)) (by unfold fy;rw[List.getElem?_map,hj];rfl);rw[this];rfl
 | false=>
   have J:∀ p∈fy l,p.1≠s:=fun p hp he=>by obtain⟨x,I,rfl⟩:=List.mem_map.1 hp;have:=List.any_eq_false.1 h x I;simp at this;exact this he
   rw[qz J];rfl
theorem sI {l:List ByteArray} {s:ByteArray} (h:l.any (fun x=>decide (x=s))=false):cH (fy l) s true=fy (l++[s]):=by
 rw[iW fun p hp he=>by obtain⟨x,I,rfl⟩:=List.mem_map.1 hp;have:=List.any_eq_false.1 h x I;simp at this;exact this he];simp[fy]
theorem qK {l:List ByteArray} {s:ByteArray} (J:l.Nodup) (h:l.any (fun x=>decide (x=s))=false):(l++[s]).Nodup:=by rw[List.nodup_append];refine⟨J,by simp,fun x M y I=>?_⟩;have:=List.any_eq_false.1 h x M;simp at I this;rw[I];exact this
end Go.Tb
namespace Go.Ab
theorem fV {P:Program} {C:Ctx} {n:Nat} {st:St} {o:Oper} {a a':A} (h:Pu P C n st o a) (I:Ab.rW a=a'):Pu P C n st o a':=by subst I;intro G tmps w hs;exact(h G tmps w hs).mono fun J w' ⟨h1,h2⟩=>⟨h1,h2.rW⟩
end Go.Ab
namespace Go.Ab
theorem Ae {P:Program} {C:Ctx} {n:Nat} {ops:Array Oper} {Q:Exit→St→Prop} {l:List Oper} {f:List (Nat×A)} {bx:List (Nat×List A)} (bx':List (Nat×List A)) {lv:List Nat} {gen:Nat} (h:mg bx bx') (k:WO P C n ops Q l ⟨f,bx',lv,gen⟩):WO P C n ops Q l ⟨f,bx,lv,gen⟩:=by intro tmps w ⟨G,hs⟩;exact k tmps w ⟨G,{ hs with box:=fun g c I=>hs.box g c (h.le g c I) }⟩
end Go.Ab
namespace Go.Tb
open Go.Ab
end Go.Tb
namespace Go.Ab
open Go.RowKit
section
variable {P:Program} {C:Ctx} {n:Nat} {Q:Exit→St→Prop} {c:Code}
variable {f:List (Nat×A)} {bx:List (Nat×List A)} {lv:List Nat} {gen:Nat}
theorem C5 (g j:Nat) {cells cells':List A} {g2:Nat} {es:List (List D)} (hb:ah bx g=some cells) (hj:cells[j]? = some (.own g2 es)) (N:cells.set j (.d (.sl es))=cells') (h:W P C n c Q ⟨f,(g,cells')::bx,lv,gen⟩):W P C n c Q ⟨f,bx,lv,gen⟩:=by
 subst N;intro tmps w ⟨G,hs⟩;refine h tmps w ⟨G,hs.oo hb (by simp) fun b cs T h1 h2 h3 i x a J I=>?_⟩;by_cases e:j=i
 ·subst e
  have M:j < cells.length:=(List.getElem?_eq_some_iff.1 hj).1;rw[List.getElem?_set_self M] at I;simp only[Option.some.injEq] at I;subst I;have:=h3 j x _ J hj;cases this with | own _ _ _ hd _ _=>exact .d hd
 ·rw[List.getElem?_set_ne e] at I
  exact h3 i x a J I
end
end Go.Ab
namespace Go.Tb
open Go.Ab
end Go.Tb
namespace Go.Tb
open Go.Ab
def tJ (s:ByteArray):JV:=.mk 4 0 s [] []
def nJ (n:Int):JV:=.mk 3 n bq [] []
def gl (f:Fm) (id:Int) (e:Ev) (k:ByteArray):JV:=
 if k=dz then tJ f.ph else if k=bP then nJ id else if k=bk then tJ e.name else if k=cT then nJ e.time
 else if k=aR then .mk 5 0 bq [] (e.stack.map tJ) else if k=f.n then nJ e.n else nJ e.m
def zR (f:Fm) (e:Ev):Bool:=bif !decide (f.ph=pS) then true else decide (e.n=2)
def oY (k:Int):Option Fm:=match eH.findIdx? fun f=>decide (f.kind=k) with
 | some i=>eH[i]?
 | none=>none
def xz (f:Fm) (id:Int) (e:Ev):JV:=.mk 6 0 bq (dJ f (zR f e)) ((dJ f (zR f e)).map (gl f id e))
theorem AH (f:Fm) (on:Bool):(dJ f on).length≤7:=by
 unfold dJ;repeat' split
 all_goals simp
theorem CF {k:Int} {f:Fm} (h:oY k=some f):∃ i:Nat,idx (eH.findIdx? fun f=>decide (f.kind=k))=(i:Int)∧eH[i]? = some f:=by
 unfold oY at h
 cases hi:eH.findIdx? fun f=>decide (f.kind=k) with
 | none=>rw[hi] at h;cases h
 | some i=>rw[hi] at h;exact⟨i,rfl,h⟩
end Go.Tb
namespace Go.Tb
open Go.Ab
def CW (id:Int) (e:Ev):JV:=match oY e.kind with
 | some f=>xz f id e
 | none=>cG
def FE:List ByteArray:=[dz,bP,bk]
def mJ (t:cf):JV:=.mk 6 0 bq FE [tJ pM,nJ t.id,tJ t.name]
def qj (p:bl):List JV:=p.evs.map (CW p.thread)
def Fa (ts:List cf) (ps:List bl):List JV:=ts.map mJ++ps.flatMap qj
def jM (ts:List cf) (ps:List bl):JV:=.mk 5 0 bq [] (Fa ts ps)
theorem vj:∀ {l:List Ev} {last:Option Int},iO l last=0→∀ e∈l,ct e=0
 | [],_,_,e,h=>by cases h
 | x::r,last,h,e,he=>by
   simp only[iO] at h;split at h;·rename_i q;exact absurd h q
   ·rename_i q
    split at h;·cases h
    ·rcases List.mem_cons.1 he with rfl | he
     ·simpa using q
     ·exact vj h e he
theorem pG:∀ {ps:List bl},eT ps=0→∀ p∈ps,∀ e∈p.evs,ct e=0
 | [],_,p,hp=>by cases hp
 | q::r,h,p,hp=>by
   simp only[eT] at h;split at h;·rename_i h2;exact absurd h h2
   ·rename_i h2
    rcases List.mem_cons.1 hp with rfl | hp
    ·exact vj (by simpa using h2)
    ·exact pG h p hp
theorem ym {k:Int} (h:1≤k∧k < 13):∃ f,oY k=some f:=by
 have:k=1∨k=2∨k=3∨k=4∨k=5∨k=6∨k=7∨k=8∨k=9∨k=10∨k=11∨k=12:=by omega
 rcases this with rfl | rfl | rfl | rfl | rfl | rfl | rfl | rfl | rfl | rfl | rfl | rfl <;> exact⟨_,rfl⟩
theorem vt:∀ (ps:List bl),(ps.flatMap qj).length=(ps.map fun p=>p.evs.length).sum
 | []=>rfl
 | p::r=>by rw[List.flatMap_cons,List.length_append,List.map_cons,List.sum_cons,vt r];simp[qj]
theorem Ao (ps:List bl) (k:Nat):((ps.take k).flatMap qj).length≤(ps.map fun p=>p.evs.length).sum:=by rw[vt];have h:=congrArg (fun x=>(x.map fun p:bl=>p.evs.length).sum) (List.take_append_drop k ps);simp only[List.map_append,List.sum_append] at h;omega
theorem Dh {ts:List cf} {ps:List bl} (h:(e7 ts ps).2=0):fA ts=0∧eT ps=0:=by
 unfold e7 at h;split at h;·rename_i q;exact absurd h q
 ·rename_i q
  split at h;·rename_i q2;exact absurd h q2
  ·rename_i q2;exact⟨by simpa using q,by simpa using q2⟩
theorem Fj {e:Ev} (h:ct e=0) (id:Int):∃ f,oY e.kind=some f∧CW id e=xz f id e∧e.stack.length≤1000000:=by
 have g:=Di h;obtain⟨f,J⟩:=ym g.kind;refine⟨f,J,by unfold CW;rw[J],?_⟩
 cases I:(cN e.kind).name with
 | false=>have:=(zG (g.stack I)).1;omega
 | true=>
   have:(cN e.kind).stack=false:=by
    have k:=g.kind;have:e.kind=1∨e.kind=2∨e.kind=3∨e.kind=4∨e.kind=5∨e.kind=6∨e.kind=7∨e.kind=8∨e.kind=9∨e.kind=10∨e.kind=11∨e.kind=12:=by omega
    rcases this with h | h | h | h | h | h | h | h | h | h | h | h <;> rw[h] at I ⊢ <;> first | rfl | exact absurd I (by decide)
   rw[g.noStack this];simp
end Go.Tb
namespace Go.Ab
section
variable {P:Program} {C:Ctx} {n:Nat} {ops:Array Oper} {c:Nat}
variable {op:Op} {ty:TypeId} {pos:String} {af:Array Edge} {a:A} {d i:Nat} {rest l:List Oper} {f:List (Nat×A)} {Q:St→Prop} {ph:Bool} {dst:Option Nat}
variable {bx0 bx1:List (Nat×List A)} {lv0 lv1:List Nat} {gen0 gen1:Nat}
end
end Go.Ab
namespace Go.Ab
open Go.RowKit
section
variable {P:Program} [cd P] {C:Ctx} {n:Nat} {Q:Exit→St→Prop} {c:Code}
variable {f:List (Nat×A)} {bx:List (Nat×List A)} {lv lv':List Nat} {gen gen':Nat}
omit [cd P] in
theorem Wd.bh {J:Nat} [hnb:NB C J] {ι:Type} (V:ι→List (Nat×A)) (fi:List (Nat×A)) (B:ι→List (Nat×List A)) (bi:List (Nat×List A)) (lv':List Nat) (gen':Nat) (I:ι→Nat) (order:List Nat) (i:ι) (O:jn order gen' J=true)
 (U:mr order f (V i)) (M:mb f fi) (hb:iM order bx (B i)) (N:jZ order bx bi) (hl:pI order lv lv'=true)
 (X:∀ i,Wd P C n c (CQ C n (fun i=>⟨V i++fi,B i++bi,lv',gen'⟩) I (I i) Q) ⟨V i++fi,B i++bi,lv',gen'⟩):Wd P C n (.loop c) Q ⟨f,bx,lv,gen⟩:=
 Wd.conv (st':=⟨V i++fi,B i++bi,lv',gen'⟩) (fun _ _ h=>eI.bL order O U M hb N hl h) (Wd.loop (fun i=>⟨V i++fi,B i++bi,lv',gen'⟩) I X i)
theorem Wd.bt {I:Nat} [hnb:NB C I] {ι:Type} {V:ι→List (Nat×A)} {fi:List (Nat×A)} {B:ι→List (Nat×List A)} {bi:List (Nat×List A)} {J:ι→Nat} {m:Nat} (order:List Nat) (i:ι) (hm:J i < m) (O:jn order gen' I=true)
 (U:mr order f (V i)) (M:mb f fi) (hb:iM order bx (B i)) (N:jZ order bx bi) (hl:pI order lv lv'=true) :
 CQ C n (fun i=>⟨V i++fi,B i++bi,lv',gen'⟩) J m Q .normal ⟨f,bx,lv,gen⟩:=⟨i,hm,fun _ _ h=>eI.bL order O U M hb N hl h⟩
variable {st:St} {y:Code} {id:Nat}
omit [cd P] in
theorem jA (I:lb st=true) (h:Wd P C n y Q st):QN (v8 P C n y Q) .normal st:=⟨I,h⟩
theorem GW (I:lb st=true) (h:Q .normal st):QN Q .normal st:=⟨I,h⟩
theorem tW (I:lb st=true) (h:Q .ret st):QN Q .ret st:=⟨I,h⟩
theorem El (I:lb st=true) (h:Q (.exit id) st):QN Q (.exit id) st:=⟨I,h⟩
omit [cd P] in
theorem Gj (h:Wd P C n y Q st):v8 P C n y Q .normal st:=h
omit [cd P] in
theorem vY (h:Q .ret st):v8 P C n y Q .ret st:=h
omit [cd P] in
theorem DB (h:Q (.exit id) st):v8 P C n y Q (.exit id) st:=h
theorem D8 {ι:Type} {S:ι→St} {I:ι→Nat} {m:Nat} (h:Q (.exit id) st):CQ C n S I m Q (.exit id) st:=h
def z7 (f:List (Nat×A)) (bx:List (Nat×List A)) (gs os:List Nat):List (Nat×A)→Prop
 | []=>True
 | (t,a')::r=>(∃ a,look f t=some a∧dq bx gs os 5 a=a')∧z7 f bx gs os r
theorem z7.look {gs os:List Nat}:∀ {V:List (Nat×A)},z7 f bx gs os V→∀ t a',look V t=some a'→∃ a,Ab.look f t=some a∧dq bx gs os 5 a=a'
 | [],_,t,a',h=>by simp[Ab.look] at h
 | (s,b)::r,⟨h1,h2⟩,t,a',h=>by
   rw[aU] at h;split at h
   ·rename_i e
    subst e;simp only[Option.some.injEq] at h;subst h;exact h1
   ·exact z7.look h2 t a' h
def zX (bx:List (Nat×List A)) (o:List Nat):Nat→List (List A)→Prop
 | _,[]=>True
 | i,c::r=>(∃ c0,ah bx i=some c0∧fG o c0=c)∧zX bx o (i+1) r
theorem zX.get {o:List Nat}:∀ {b:List (List A)} {j:Nat},zX bx o j b→∀ (i:Nat) (c:List A),b[i]? = some c→∃ c0,ah bx (j+i)=some c0∧fG o c0=c
 | [],_,_,i,c,h=>by simp at h
 | I::r,j,⟨h1,h2⟩,i,c,h=>by
   cases i with
   | zero=>simp only[List.getElem?_cons_zero,Option.some.injEq] at h;subst h;exact h1
   | succ i=>simp only[List.getElem?_cons_succ] at h;have:=zX.get h2 i c h;rwa [show j+1+i=j+(i+1) by omega] at this
theorem QR.mk' {b1:List (List A)} {k:Nat} (order:List Nat) (M:order.length=k) (I:nodupB (er b1.length order)=true) (J:(order.all fun g=>lv.any fun h=>Nat.beq h g)=true)
 (hb:zX bx (er b1.length order) 0 b1):QR b1 k ⟨f,bx,lv,gen⟩:=
 QR.mk order M I J fun i c h=>by have:=hb.get i c h;rwa [Nat.zero_add] at this
end
end Go.Ab
namespace Go.Ab
open Go.RowKit
def qF (P:Program) (fid:FuncId):Prop:=
 ∀ (l:Nat) (W:World) (I J b1 o1:Nat) (a:Option Addr) (cap:Nat) (R:World→Prop),cellAt W I J=some (.slice a 0 cap)→cellAt W b1 o1=some (.int .i64 1000)→R W →
   Calls P fid #[.func (.yield l) #[] #[],.pointer (some ⟨I,J,none⟩),.pointer (some ⟨b1,o1,none⟩)] W fun e W'=>(∃ v,e=.returned v)∧R W'
section
variable {P:Program} [cd P] {C:Ctx} [GC P C] {n:Nat} {Q:Exit→St→Prop} {st:St}
omit [cd P] in
theorem Wd.EM {g:Operand} {par:Nat} {assign:Code} {body:Code} {fid:FuncId}
 (hg:av st.f g=some (.clo fid [.rowd [.sl []],.rowd [.v (.int .i64 1000)]])) (hok:iQ P fid) (hit:qF P fid) (h:Q .normal st) :
 Wd P C n (.rangeFunc g #[par] assign body) Q st:=by
 intro tmps ds w ⟨G,hs⟩ ⟨Ds,X,b0,aj⟩;have X:ds=Ds.map uG:=X;subst X;obtain⟨p0,o0,p1,o1,b2,⟨u0,b3,ch⟩,cj⟩:=rX hs hg;obtain⟨a,cap,rfl⟩:=tG ch;refine(wpIn_wide (n:=1)).1 (wpIn_rangeFunc ?_);intro fn _;obtain⟨rec,J⟩:∃ rec:LoopState→Option Code→Loop,rec=fun s pe=>{ state:=s,pending:=pe,fn,tmps:=tmps,params:=#[par],assign:=assign,body,defers:=w.heap.size }:=⟨_,rfl⟩;obtain⟨I,O⟩:∃ I,(w.alloc (.deferred (some []))).alloc (.loop (rec .ready none))=I:=⟨_,rfl⟩;have Z:I.heap[w.heap.size+1]? = some (.loop (rec .ready none)):=by rw[←O];have:=World.alloc_heap_new (w.alloc (.deferred (some []))) (.loop (rec .ready none));rwa [World.size_alloc] at this
 have U:Below w.heap.size w I:=by rw[←O];exact((Below.refl _ w).alloc (Nat.le_refl _) _).alloc (by simp) _
 have cl:I.heap[w.heap.size]? = some (.deferred (some [])):=by rw[←O];exact(Below.heap_alloc _ _ _ (by simp)).trans (World.alloc_heap_new w _)
 have cq:ax C n st G tmps I:=(hs.gK U).2;have c1:w.heap.size≤I.heap.size:=U.size;have a1:∀ {b o u},cellAt w b o=some u→cellAt I b o=some u:=fun {b o u} hu=>by rw[bC (U.block b (cJ hu))];exact hu
 have cx:=hs.fr.size
 refine⟨w.heap.size+1,[{ target:=.collected w.heap.size,args:=#[] }],I,{ target:=.fn (.func fid) #[.pointer (some ⟨p0,o0,none⟩),.pointer (some ⟨p1,o1,none⟩)],args:=#[.func (.yield (w.heap.size+1)) #[] #[]] },I,fid,
  #[.func (.yield (w.heap.size+1)) #[] #[]]++#[.pointer (some ⟨p0,o0,none⟩),.pointer (some ⟨p1,o1,none⟩)],I,?_,?_,?_,?_,fun _=>Nat.le_refl _,?_⟩
 ·rw[←O,J];exact run_enterLoop_outer _ _ _ _ _
 ·have a7:Act.eval ⟨tmps,Ds.map uG⟩ g=.func (.func fid) #[] #[.pointer (some ⟨p0,o0,none⟩),.pointer (some ⟨p1,o1,none⟩)]:=by rw[Act.gO tmps _ []];exact b2
  simp only[resolve,a7];simp[go_sem]
 ·intro f' _;trivial
 ·obtain⟨c6,a8,ad,ai⟩:=hok
  simp only[Sem.run_bind,Sem.run_pure,Result.andThen_ok,invoke,callFunc,run_program,a8,ad,ai,Bool.false_eq_true,if_false]
 refine CallsIn.mono (callsIn_wide.2 (hit (w.heap.size+1) I p0 o0 p1 o1 a cap (fun W'=>W'=I) (a1 b3) (a1 cj) rfl)) ?_;rintro e W3 ⟨⟨v,rfl⟩,rfl⟩;have a6:=run_endLoop (P:=P) Z (by rw[J];simp);rw[J] at a6;refine⟨none,_,a6,?_⟩;have cy:∀ D,W3.heap[D]? = some (Obj.deferred (some []))→D≠w.heap.size+1:=fun D M e=>by rw[e,Z] at M;cases M
 have N:∀ D:Nat,W3.heap[D]? = some (Obj.deferred (some []))→(W3.putObj (w.heap.size+1) (.loop { rec .ready none with state:=.exhausted })).heap[D]? = some (Obj.deferred (some [])):=fun D M=>by rw[World.putObj_heap_other (cy D M)];exact M
 rw[J] at N;refine⟨⟨w.heap.size::Ds,rfl,?_,fun D M=>?_⟩,_,⟨G,cq.oS Z rfl (by omega) _⟩,h⟩
 ·rw[List.nodup_cons]
  refine⟨fun hm=>?_,b0⟩;have:=(Array.getElem?_eq_some_iff.1 (aj _ hm).2).1;omega
 ·rcases List.mem_cons.1 M with rfl | M
  ·exact⟨cx,N _ cl⟩
  ·obtain⟨h1,h2⟩:=aj D M
   exact⟨h1,N D (by rw[U.block D (Array.getElem?_eq_some_iff.1 h2).1];exact h2)⟩
theorem B5 {tmps:Array Value} {w:World} (h:eI C n st tmps w) {gs os:List Nat} {I:List (List A)} (M:nodupB gs=true) (N:nodupB os=true) (O:(os.all fun g=>st.lv.any fun h=>Nat.beq h g)=true) (hb:fm st.bx gs os gs=some I) :
 eI C n ⟨st.f,hJ gs st.gen gs I++st.bx,(List.range os.length).map (I.length+·+st.gen)++st.lv.filter (fun g=>!os.any (Nat.beq g)),I.length+os.length+st.gen⟩ tmps w:=by
 obtain⟨G,hs⟩:=h;obtain⟨_,J⟩:=hs.k9 (gs:=gs) (os:=os) (dQ M) (dQ N) (fun g X=>by obtain⟨y,Z,he⟩:=List.any_eq_true.1 (List.all_eq_true.1 O g X);exact Nat.eq_of_beq_eq_true he▸Z) hb;obtain⟨G4,_,U⟩:=hs.ur hb rfl J;exact⟨G4,U⟩
theorem Wd.EH {g:Operand} {par d id:Nat} {ty:TypeId} {pos:String} {af:Array Edge} {body:Code} {es:List (List D)} {fid:FuncId}
 (Z:av st.f g=some (.clo fid [.rowd [.sl es],.rowd [.v (.int .i64 1000)]])) (hok:iQ P fid) (hit:sg P fid) (U:qF P fid) (X:es.length≤1000) (ad:Nat.blt par n=true) (ai:Nat.blt d n=true)
 (gs os:List Nat) (M:nodupB gs=true) (N:nodupB os=true) (O:(os.all fun g=>st.lv.any fun h=>Nat.beq h g)=true) {V:List (Nat×A)} {I b1:List (List A)} {m k:Nat} (hb:fm st.bx gs os gs=some I) (hm:os.length=m)
 (hV:∀ t a',look V t=some a'→∃ a,look st.f t=some a∧dq st.bx gs os 5 a=a') (aj:(V.all fun x=>!Nat.beq x.1 par)=true) (h0:es=[]→b1=I∧k=m)
 (J:es≠[]→nR P n body ((d,.d (.sl es))::V) I m b1 k) (a1:b1.length=I.length)
 (h:Q .normal ⟨st.f,hJ gs st.gen gs b1++st.bx,(List.range k).map (I.length+·+st.gen)++st.lv.filter (fun g=>!os.any (Nat.beq g)),I.length+k+st.gen⟩) :
 Wd P C n (.rangeFunc g #[par] (.region id #[⟨some d,.assign (.tmp par),ty,pos,af,none⟩] false) body) Q st:=by
 rcases Nat.eq_zero_or_pos es.length with hz | hp
 ·have he:es=[]:=List.length_eq_zero_iff.1 hz
  obtain⟨rfl,rfl⟩:=h0 he;subst he;subst hm;intro tmps ds w hs a6;refine Code.wp_mono ?_ (Wd.EM (Q:=fun e s=>e=.normal∧s=st) Z hok U ⟨rfl,rfl⟩ tmps ds w hs a6);rintro e a w' ⟨hd,a8,a7,rfl,rfl⟩;exact⟨hd,_,B5 a7 M N O hb,h⟩
 ·exact Wd.range Z hok hit hp X ad ai gs os M N O hb hm hV aj (J (fun e=>by rw[e] at hp;cases hp)) a1 h
end
end Go.Ab
namespace Go.Tb
open Go.Ab
def EW {α:Type}:PE α→Prop
 | .ok _ _=>True
 | .no _ w=>w=2∨w=4∨w=10∨w=20
theorem kr {α:Type} {a:Nat}:EW (.no a 10:PE α):=.inr (.inr (.inl rfl))
theorem EW.of {α β:Type} {a:Nat} {w:Int} (h:EW (.no a w:PE α)):EW (.no a w:PE β):=h
section
variable {l:List UInt8}
theorem pq {c:UInt8} {i:Nat}:EW (bG l c i):=by
 unfold bG;split;·trivial
 ·exact kr
theorem xm {x:List UInt8} {i:Nat}:EW (b8 l x i):=by
 cases h:b8 l x i with
 | ok=>trivial
 | no a w=>rw[vT h];exact kr
theorem Em {i:Nat}:EW (dU l i):=by
 rw[xb];split;·trivial
 ·split
  ·trivial
  ·split
   ·trivial
   ·unfold B3
    have:=xm (l:=l) (x:=[117,48,48]) (i:=i)
    cases h:b8 l [117,48,48] i with
    | no a w=>rw[h] at this;exact this
    | ok u j=>
      dsimp only;unfold Bs;split;·exact kr
      ·split
       ·exact kr
       ·unfold Bv
        split;·exact kr
        ·split
         ·exact kr
         ·trivial
theorem qm:∀ {k i:Nat} {acc:List UInt8},EW (cI l k i acc)
 | 0,_,_=>kr
 | k+1,i,acc=>by
   unfold cI;split;·exact kr
   ·split
    ·trivial
    ·split
     ·have:=Em (l:=l) (i:=i+1)
      cases h:dU l (i+1) with
      | no a w=>rw[h] at this;exact this
      | ok c j=>exact qm
     ·exact qm
theorem xc {i:Nat}:EW (dk l i):=by
 unfold dk;have:=pq (l:=l) (c:=34) (i:=i)
 cases h:bG l 34 i with
 | no a w=>rw[h] at this;exact this
 | ok u j=>exact qm
theorem Ea {i:Nat}:EW (dH l i):=by
 unfold dH;dsimp only;generalize (if aq l i=45 then i+1 else i)=i1;by_cases q:bw l i1=i1;·rw[if_pos q];exact kr
 ·rw[if_neg q]
  by_cases c:(fR (if (⟨((l.drop i).take (bw l i1 - i)).toArray⟩:ByteArray)=B #[45,48] then B #[48] else ⟨((l.drop i).take (bw l i1 - i)).toArray⟩)).2=true;·rw[if_pos c];trivial
  ·rw[if_neg c];exact .inl rfl
theorem vV {x:List UInt8} {v:JV} {i:Nat}:EW (match b8 l x i with | .no a w=>.no a w | .ok _ j=>.ok v j):=by
 have:=xm (l:=l) (x:=x) (i:=i)
 cases h:b8 l x i with
 | no a w=>rw[h] at this;exact this
 | ok u j=>trivial
structure Er (l:List UInt8) (k:Nat):Prop where
 v:∀ level i,EW (cA l k level i)
 a:∀ level i,EW (e9 l k level i)
 ag:∀ level i acc,EW (ek l k level i acc)
 o:∀ level i,EW (fc l k level i)
 og:∀ level i keys acc,EW (ec l k level i keys acc)
theorem EA:∀ k,Er l k
 | 0=>⟨fun _ _=>by unfold cA;exact kr,fun _ _=>by unfold e9;exact kr,fun _ _ _=>by unfold ek;exact kr,fun _ _=>by unfold fc;exact kr,fun _ _ _ _=>by unfold ec;exact kr⟩
 | k+1=>by
   have I:=EA k;refine⟨fun level i0=>?_,fun level i0=>?_,fun level i acc=>?_,fun level i0=>?_,fun level i0 keys acc=>?_⟩
   ·rw[xe]
    split;·exact vV
    ·split
     ·exact vV
     ·split
      ·exact vV
      ·split
       ·have J:=xc (l:=l) (i:=az l i0)
        cases M:dk l (az l i0) with
        | no a w=>rw[M] at J;exact J
        | ok t j=>trivial
       ·split
        ·split
         ·exact .inr (.inr (.inr rfl))
         ·split
          ·exact I.a _ _
          ·exact I.o _ _
        ·exact Ea
   ·rw[sh]
    split;·trivial
    ·exact I.ag _ _ _
   ·rw[qf]
    have N:=I.v (level+1) i
    cases M:cA l k (level+1) i with
    | no a w=>rw[M] at N;exact N
    | ok v j=>
      dsimp only;split;·exact I.ag _ _ _
      ·have J:=pq (l:=l) (c:=93) (i:=az l j)
       cases O:bG l 93 (az l j) with
       | no a w=>rw[O] at J;exact J
       | ok u j2=>trivial
   ·rw[rU]
    split;·trivial
    ·exact I.og _ _ _ _
   ·rw[qt]
    have J:=xc (l:=l) (i:=az l i0)
    cases M:dk l (az l i0) with
    | no a w=>rw[M] at J;exact J
    | ok t j=>
      dsimp only;split;·exact .inr (.inl rfl)
      ·have U:=pq (l:=l) (c:=58) (i:=az l j)
       cases O:bG l 58 (az l j) with
       | no a w=>rw[O] at U;exact U
       | ok u j1=>
         dsimp only;have N:=I.v (level+1) j1
         cases Z:cA l k (level+1) j1 with
         | no a w=>rw[Z] at N;exact N
         | ok v j2=>
           dsimp only;split;·exact I.og _ _ _ _
           ·have X:=pq (l:=l) (c:=125) (i:=az l j2)
            cases ad:bG l 125 (az l j2) with
            | no a w=>rw[ad] at X;exact X
            | ok u j3=>trivial
theorem xI:EW (du l):=by
 unfold du;have I:=(EA (l:=l) (3*l.length+1)).v 1 0
 cases J:cA l (3*l.length+1) 1 0 with
 | no a w=>rw[J] at I;exact I
 | ok v j=>dsimp only;split;exact kr;trivial
end
end Go.Tb
namespace Go.Tb
open Go.Ab
theorem sN:∀ l:List JV,(cp l false).length=(l.map fun k=>(aB k).length).sum+l.length
 | []=>rfl
 | x::r=>by rw[dY,List.length_append,List.length_append,sN r,List.map_cons,List.sum_cons,List.length_cons];simp;omega
theorem qa:∀ (ks:List ByteArray) (l:List JV),ks.length=l.length→(l.map fun k=>(aB k).length).sum+2*l.length≤(bm ks l false).length
 | [],[],_=>by simp[bm]
 | s::ks,x::r,h=>by have:=qa ks r (by simpa using h);rw[dy];simp only[List.length_append,List.map_cons,List.sum_cons,List.length_cons];simp;omega
 | [],_::_,h=>by simp at h
 | _::_,[],h=>by simp at h
theorem nz {j:JV} {level:Int} (h:aX j level=0):(j.kids.map fun k=>(aB k).length).sum+j.kids.length≤(aB j).length:=by
  obtain⟨op,n,s,keys,kids⟩:=j
  obtain⟨h1,_⟩:=iZ h
  obtain⟨hf,_⟩:=fZ h1
  show(kids.map fun k=>(aB k).length).sum+kids.length≤(aB (.mk op n s keys kids)).length
  cases kids with
  | nil=>simp
  | cons x r=>
    unfold bN at hf
    simp only[JV.op,JV.n,JV.s,JV.keys,JV.kids] at hf
    by_cases o1:op=1
    · simp[o1] at hf
    by_cases o2:op=2
    · simp[o2] at hf
    by_cases o3:op=3
    · simp[o3] at hf
    by_cases o4:op=4
    · simp[o4] at hf
    by_cases o6:op=6
    · have hkl:keys.length=(x::r).length:=by
        simp[o6] at hf
        first | exact of_decide_eq_true hf.2.2 | exact hf.2.2
      simp only[aB,o1,o2,o3,o4,o6,if_true,if_false]
      cases keys with
      | nil=>simp at hkl
      | cons k ks=>
        have hm:=qa (k::ks) (x::r) hkl
        have hf1:=mw (s:=k) (ks:=ks) (x:=x) (r:=r)
        simp only[show(6:Int)=1↔False from by decide,show(6:Int)=2↔False from by decide,show(6:Int)=3↔False from by decide,show(6:Int)=4↔False from by decide,if_false,List.length_cons,List.length_append] at hm ⊢
        simp at hm ⊢;omega
    · simp only[aB,o1,o2,o3,o4,o6,if_false]
      have hm:=sN (x::r)
      have hf1:=ot (x:=x) (r:=r)
      simp only[List.length_cons,List.length_append] at hm ⊢
      simp at hm ⊢;omega
theorem xw {l:List JV} {k:JV} (h:k∈l):(aB k).length≤(l.map fun k=>(aB k).length).sum:=by
 induction l with
 | nil=>cases h
 | cons x r I=>
   rw[List.map_cons,List.sum_cons];rcases List.mem_cons.1 h with rfl | h
   ·omega
   ·have:=I h;omega
theorem pQ {level:Int}:∀ {l:List JV},b5 l level=0→∀ k∈l,aX k level=0
 | [],_,k,I=>by cases I
 | x::r,h,k,I=>by
   obtain⟨h1,h2⟩:=gk h;rcases List.mem_cons.1 I with rfl | I
   ·exact h1
   ·exact pQ h2 k I
theorem lM {j k:JV} {level:Int} (h:aX j level=0) (I:k∈j.kids):aX k (level+1)=0:=by obtain⟨op,n,s,keys,kids⟩:=j;exact pQ (iZ h).2 k I
theorem sJ:∀ {l:List JV} {x:fk},(dp l x).2=0→∀ k∈l,k.op=6
 | [],_,_,k,I=>by cases I
 | j::r,x,h,k,I=>by
   simp only[dp] at h;split at h;·rename_i q;exact absurd h q
   ·rename_i q
    rcases List.mem_cons.1 I with rfl | I
    ·have q:(dN x k).2=0:=by simpa using q
     unfold dN at q;split at q;·cases q
     ·rename_i q2
      have:bD k (bO k)=false:=by simpa using q2
      unfold bD bO at this;simp only[Bool.or_eq_false_iff] at this;simpa using this.1.1.1
    ·exact sJ h k I
/-! the events that are kept -/
theorem AF (l:List (Int×List Ev)) (a:Int) (e:Ev):jL (cH l a ((bT l a).getD []++[e]))≤jL l+1:=by
 induction l with
 | nil=>simp[cH,qy,jL]
 | cons p r I=>
   rw[gr];simp only[cH];by_cases q:p.1=a;·rw[if_pos q,if_pos q];simp[jL];omega
   ·rw[if_neg q,if_neg q]
    simp only[jL,List.map_cons,List.sum_cons] at I ⊢;omega
theorem xE:∀ (l:List (Int×List Ev)) (L:List Int),L.Nodup→(L.map fun a=>((bT l a).getD []).length).sum≤jL l
 | [],L,_=>by
   have:(L.map fun a=>((bT ([]:List (Int×List Ev)) a).getD []).length).sum=0:=by induction L <;> simp_all[qy]
   rw[this];exact Nat.zero_le _
 | p::r,L,I=>by
   have h1:=xE r L I;have key:∀ L:List Int,L.Nodup→(L.map fun a=>((bT (p::r) a).getD []).length).sum≤(if p.1∈L then p.2.length else 0)+(L.map fun a=>((bT r a).getD []).length).sum:=by
    intro L
    induction L with
    | nil=>intro _;simp
    | cons a t J=>
      intro I;rw[List.nodup_cons] at I;have:=J I.2;rw[List.map_cons,List.map_cons,List.sum_cons,List.sum_cons,gr];by_cases q:p.1=a
      ·rw[if_pos q,if_pos (by rw[q];exact List.mem_cons_self)]
       rw[if_neg (by rw[q];exact I.1)] at this;simp only[Option.getD_some];omega
      ·rw[if_neg q]
       have e:(p.1∈a::t)=(p.1∈t):=by simp[q]
       simp only[e];omega
   have h2:=key L I;have h3:(if p.1∈L then p.2.length else 0)≤p.2.length:=by split <;> omega
   simp only[jL,List.map_cons,List.sum_cons] at h1 ⊢;omega
theorem xd (x:fk):∀ L:List Int,((L.flatMap (dW x)).map fun p=>p.evs.length).sum=(L.map fun a=>((bT x.evs a).getD []).length).sum
 | []=>rfl
 | a::r=>by
   rw[List.flatMap_cons,List.map_append,List.sum_append,List.map_cons,List.sum_cons,xd x r];congr 1;unfold dW;split;·rename_i q;rw[q];rfl
   ·simp
theorem BC (x:fk) (j:JV):jL (dN x j).1.evs≤jL x.evs+1:=by
 unfold dN;repeat' split
 all_goals first | exact AF _ _ _ | exact Nat.le_succ _
theorem yF {x:fk} (h:x.ids.Nodup) (j:JV):(dN x j).1.ids.Nodup:=by
 unfold dN;repeat' split
 all_goals first | exact nL h _ | exact h
theorem ta:∀ (l:List JV) (x:fk),jL (dp l x).1.evs≤jL x.evs+l.length
 | [],x=>Nat.le_refl _
 | j::r,x=>by
   simp only[dp];split;·show jL x.evs≤_;rw[List.length_cons];omega
   ·have h1:=ta r (dN x j).1
    have h2:=BC x j;rw[List.length_cons];omega
theorem pL:∀ (l:List JV) {x:fk},x.ids.Nodup→(dp l x).1.ids.Nodup
 | [],x,h=>h
 | j::r,x,h=>by
   simp only[dp];split;·exact h
   ·exact pL r (yF h j)
theorem CB {v:JV} (J:aX v 1=0) (hp:(aB v).length≤100000) (N:(dp v.kids x0).2=0→v.kids.length≤1000):yK v:=by
 have O:=nz J;refine⟨by omega,fun k hm u hu=>?_,fun k hm=>?_,fun h0=>?_⟩
 ·have h1:=lM J hm
  have h2:=nz h1;have h3:=nz (lM h1 hu);have:=xw hm;have:=xw hu;omega
 ·unfold aY iT
  cases hg:bp k bP with
  | none=>simp[cG,JV.n]
  | some t=>
    by_cases I:t.op=3
    ·simp only[I,if_true,Option.getD_some]
     have h1:=lM (lM J hm) (nD hg);obtain⟨op,n,s,keys,kids⟩:=t;have I:op=3:=I;obtain⟨h2,_⟩:=iZ h1;obtain⟨_,h3,_⟩:=fZ h2
     cases M:eg n with
     | true=>unfold eg at M;simp at M;show n≤_;omega
     | false=>exact absurd (.inr ⟨I,M⟩) h3
    ·simp only[I,if_false];simp[cG,JV.n]
 ·rw[xd]
  have h1:=xE (dp v.kids x0).1.evs (dp v.kids x0).1.ids (pL v.kids (x:=x0) List.nodup_nil);have h2:=ta v.kids x0;have h3:jL x0.evs=0:=rfl;have:=N h0;omega
theorem yd {s:ByteArray} {v:JV} {i:Nat} (h:du (ak s)=.ok v i) (hs:s.size≤3000):yK v:=by
 obtain⟨N,hl,_⟩:=wq h;have hb:(ak s).length=s.size:=Array.length_toList;refine CB N (by omega) fun h0=>?_;have J:=nz N;have h2:2*v.kids.length≤(v.kids.map fun k=>(aB k).length).sum:=by
  have I:∀ k∈v.kids,2≤(aB k).length:=fun k hm=>by have M:=sJ h0 k hm;obtain⟨op,n,t,keys,kids⟩:=k;have M:op=6:=M;subst M;simp[aB]
  clear J h0;generalize v.kids=l at I
  induction l with
  | nil=>simp
  | cons x r O=>have:=I x List.mem_cons_self;have:=O (fun k J=>I k (List.mem_cons_of_mem _ J));rw[List.length_cons,List.map_cons,List.sum_cons];omega
 omega
end Go.Tb
namespace Go.Tb
open Go.Ab
mutual
def jb:JV→Int→Int→Int
 | .mk _ _ s keys kids,level,left=>if level < 1∨left - 1 < 0∨300 < s.size∨40 < keys.length then -1 else if (keys.any fun k=>decide (300 < k.size))=true then -1 else nj kids (level - 1) (left - 1)
def nj:List JV→Int→Int→Int
 | [],_,left=>left
 | j::r,level,left=>if jb j level left < 0 then -1 else nj r level (jb j level left)
end
theorem vG (j:JV) (level left:Int):jb j level left=if level < 1∨left - 1 < 0∨300 < j.s.size∨40 < j.keys.length then -1 else if (j.keys.any fun k=>decide (300 < k.size))=true then -1 else nj j.kids (level - 1) (left - 1):=by cases j;rfl
theorem xy {l:List JV} (h:∀ j∈l,∀ level left:Int,0≤jb j level left→jb j level left≤left - 1):∀ (level left:Int),0≤nj l level left→nj l level left≤left - l.length∧∀ j∈l,∃ n:Int,n≤left∧0≤jb j level n:=by
 induction l with
 | nil=>intro level left h0;simp[nj]
 | cons x r I=>
   intro level left h0;simp only[nj] at h0 ⊢;split at h0;·omega
   ·rename_i q
    rw[if_neg q];have h1:=h x List.mem_cons_self level left (by omega);obtain⟨h2,h3⟩:=I (fun j hj=>h j (List.mem_cons_of_mem _ hj)) level _ h0;refine⟨by rw[List.length_cons];omega,fun j hj=>?_⟩;rcases List.mem_cons.1 hj with rfl | hj
    ·exact⟨left,by omega,by omega⟩
    ·obtain⟨n,J,hp⟩:=h3 j hj
     exact⟨n,by omega,hp⟩
theorem AU:∀ (j:JV) (level left:Int),0≤jb j level left→jb j level left≤left - 1:=by
 refine JV.ind fun j I=>?_;intro level left h;rw[vG] at h ⊢;split at h;·omega
 ·rename_i q
  rw[if_neg q];split at h;·omega
  ·rename_i q2
   rw[if_neg q2];have:=(xy I (level - 1) (left - 1) h).1;omega
theorem ry {j:JV} {level left:Int} (h:0≤jb j level left):(j.kids.length:Int)≤left∧∀ k∈j.kids,∃ n:Int,n≤left∧0≤jb k (level - 1) n:=by
 rw[vG] at h;split at h;·omega
 ·split at h
  ·omega
  ·obtain⟨h1,h2⟩:=xy (fun j _=>AU j) (level - 1) (left - 1) h
   refine⟨by omega,fun k I=>?_⟩;obtain⟨n,J,hp⟩:=h2 k I;exact⟨n,by omega,hp⟩
theorem zA {j:JV} {level left:Int} (h:0≤jb j level left) (hl:left≤1000):ra j:=by intro k I;obtain⟨n,J,hp⟩:=(ry h).2 k I;have:=(ry hp).1;omega
end Go.Tb
