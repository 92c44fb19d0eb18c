import Derived.Test.YtpiaiiopakafhaaGreatDoorQ2
import Derived.Lib.AppendStr
import Derived.Lib.Builder
import Derived.Lib.UnsafeStr
import Derived.Recover
import Derived.RangeFuncLeaves
import Derived.RangeFuncCalls
namespace Go.Ab
open Go.RowKit Go.MapKept
def yJ:A→Option D
 | .d x=>some x
 | .own _ es=>some (.sl es)
 | .fl es=>some (.sl es)
 | _=>none
theorem wb {E:En} {v:Value} {a:A} {x:D} (h:yJ a=some x) (I:aD E v a):aO E.w E.pv v x:=by cases I <;> simp only[yJ,Option.some.injEq] at h <;> first | (cases h;done) | (subst h;assumption)
def tX {α β:Type} (w:World) (pv:Nat→Nat→Prop) (b:Nat) (kf:α→Value) (vf:β→D) (l:List (α×β)):Prop:=∃ I clock,w.heap[b]? = some (.map I clock)∧Go.MapKept.Stamped I clock∧gB w pv kf vf I l
theorem tX.of {α β:Type} {w:World} {pv:Nat→Nat→Prop} {kf:α→Value} {vf:β→D} {b:Nat} {v:Value} {l:List (α×β)} {bs:List (Nat×Nat)} (h:ml w pv (.mp b bs) v (eA kf vf l)):v=.map (some b)∧tX w pv b kf vf l:=by obtain⟨h1,I,clock,h2,h3⟩:=gB.of h;exact⟨h1,I,clock,h2,h3⟩
theorem gB.mono {α β:Type} {w w':World} {pv I:Nat→Nat→Prop} {kf:α→Value} {vf:β→D} {J:Array MapEntry} {l:List (α×β)} (h:∀ b o u,cellAt w b o=some u→¬ pv b o→cellAt w' b o=some u∧¬ I b o) (hm:gB w pv kf vf J l):gB w' I kf vf J l:=
 ⟨hm.1,fun i m p h1 h2=>⟨(hm.2 i m p h1 h2).1,(hm.2 i m p h1 h2).2.1,(hm.2 i m p h1 h2).2.2.mono h⟩⟩
section
variable {P:Program} (T:bF P) {C:Ctx} {n:Nat} {ops:Array Oper} {Q:Exit→St→Prop} {rest:List Oper}
variable {f:List (Nat×A)} {bx:List (Nat×List A)} {lv:List Nat} {gen:Nat} {d:Nat} {ty:TypeId} {pos:String} {af:Array Edge} {dst:Option Nat}
variable {α β:Type} [DecidableEq α] {kf:α→Value} {vf:β→D}
theorem mkMap {t:TypeId} (hd:Nat.blt d n=true) (h:WO P C n ops Q rest ⟨(d,.mp gen [])::f,bx,gen::lv,gen+1⟩):WO P C n ops Q (⟨some d,.makeMap t none,ty,pos,af,none⟩::rest) ⟨f,bx,lv,gen⟩:=by refine WO.step (st:=⟨f,bx,lv,gen⟩) rfl fun tmps w ⟨G,hs⟩=>?_;obtain⟨J,I,M⟩:=hs.ve;refine bZ (v:=.map (some w.heap.size)) (w':=w.alloc (.map #[] 0)) ?_ ⟨_,⟨J,I.put (dst:=some d) (bX (dst:=some d) hd) M⟩,h⟩;unfold execOp;show Sem.run P _ w=.ok _ _;simp[Instr.makeMap,Sem.run_bind,Result.andThen]
omit [DecidableEq α] in
theorem ax.rj {st:St} {G:Gh} {tmps:Array Value} {w:World} (hs:ax C n st G tmps w) {v:Value} {g:Nat} {l:List (α×β)} (O:aD (aA C G st.gen w) v (.mp g (eA kf vf l))) (N:g∈st.lv) :
 ∃ b bs,G.own g=some (.mp b bs)∧v=.map (some b)∧tX w (bc C G) b kf vf l:=by
 obtain⟨r,J⟩:=hs.live g N
 cases O with
 | mp _ _ _ U h1 M=>
 have I:=M r J
 cases r with
 | nil=>exact I.elim
 | zero b=>exact I.elim
 | blk b len cap sz X=>exact I.elim
 | mp b bs=>obtain⟨h2,h3⟩:=tX.of (kf:=kf) (vf:=vf) I;exact⟨b,bs,J,h2,h3⟩
theorem rb (s:Nat) {mt k e:Nat} {td:bM} {m N x:Operand} {g:Nat} {l:List (α×β)} {a:α} {y:β} {xa:A} (hm:av f m=some (.mp g (eA kf vf l))) (hl:look f s=some (.mp g (eA kf vf l))) (O:av f N=some (.d (.v (kf a)))) (hx:av f x=some xa) (a7:yJ xa=some (vf y))
 (ht:ah T.l mt=some td) (a8:td.k=.map k e) (b0:iS P k kf) (U:(lv.any fun h=>Nat.beq h g)=true) (b3:Nat.blt s n=true) (hn:(l.map (·.1)).Nodup) {X:List (Value×List D)} (ch:eA kf vf (cH l a y)=X) {lv':List Nat} (cj:gen::br lv g=lv')
 (h:WO P C n ops Q rest ⟨(s,.mp gen X)::f,bx,lv',gen+1⟩):WO P C n ops Q (⟨none,.mapUpdate mt m N x,ty,pos,af,none⟩::rest) ⟨f,bx,lv,gen⟩:=by
 subst ch;subst cj;refine WO.step (st:=⟨f,bx,lv,gen⟩) rfl fun tmps w ⟨G,hs⟩=>?_;have Z:=hs.av hm;have J:=hs.av O;have cl:=wb a7 (hs.av hx);obtain⟨vs,cq,cx⟩:=hs.frame s _ hl;generalize hv:Act.eval ⟨tmps,[]⟩ m=v at Z;generalize cy:Act.eval ⟨tmps,[]⟩ N=vk at J;obtain⟨b,bs,ad,rfl,me,clock,hb,c1,c6⟩:=hs.rj Z (cQ U);obtain⟨b2,c7,aj,rfl,_⟩:=hs.rj cx (cQ U);obtain⟨rfl,rfl⟩:b2=b∧c7=bs:=by have:=aj.symm.trans ad;simpa using this
 cases J with | d J=>cases J with | v _ hok=>
 obtain⟨ai,I,a1,a6,M⟩:=qW T ht a8 b0 hb c1 c6 hn a hok cl;have h0:(execOp (Act.eval ⟨tmps,[]⟩) ⟨none,.mapUpdate mt m N x,ty,pos,af,none⟩).run P w=.ok .skip { w with heap:=w.heap.setIfInBounds b2 (.map ai I) }:=by unfold execOp;show Sem.run P _ w=.ok _ _;simp only[hv,cy,Sem.run_bind,a1,Result.andThen_ok,Sem.run_pure]
 obtain⟨G',_,df,di⟩:=hs.Ak ad ai I a6 (es:=eA kf vf (cH l a y)) (by rw[M.1];simp[eA]) (fun i m k l' hm O=>by simp only[eA,List.getElem?_map,Option.map_eq_some_iff] at O;obtain⟨p,hp,e⟩:=O;simp only[Prod.mk.injEq] at e;obtain⟨rfl,rfl⟩:=e;exact M.2 i m p hm hp) (br lv g) (fun g' dj=>cP dj);refine gC h0 ⟨_,⟨G',?_⟩,h⟩;have:=df.set (d:=s) (Nat.le_of_ble_eq_true b3) di;rwa [gW cq] at this
theorem lB {mt k e:Nat} {O M:bM} {m N:Operand} {g:Nat} {l:List (α×β)} {a:α} {z:β} {zx:Value} (hm:av f m=some (.mp g (eA kf vf l))) (hk:av f N=some (.d (.v (kf a))))
 (ht:ah T.l mt=some O) (U:O.k=.map k e) (he:ah T.l e=some M) (X:iS P k kf) (Z:(lv.any fun h=>Nat.beq h g)=true) (ad:M.z=[zx]) (ai:lG M.k=true) (hz:∀ w pv,aO w pv zx (vf z)) (hn:(l.map (·.1)).Nodup) {r:D} (hr:vf ((bT l a).getD z)=r) :
 Pu P C n ⟨f,bx,lv,gen⟩ ⟨dst,.lookup mt m N false,ty,pos,af,none⟩ (.d r):=by
 subst hr;refine dG.pu fun G tmps w hs=>?_;have J:=hs.av hm;have I:=hs.av hk;generalize hv:Act.eval ⟨tmps,[]⟩ m=v at J;generalize aj:Act.eval ⟨tmps,[]⟩ N=vk at I;obtain⟨b,bs,a6,rfl,me,clock,hb,a7,a1⟩:=hs.rj J (cQ Z);cases I with | d I=>cases I with | v _ hok=>
 obtain⟨u,h1,h2⟩:=rI (P:=P) T ht U he X ad ai (hz _ _) hb a1 hn a false;refine⟨u,?_,.d h2⟩;unfold execOp;show Sem.run P _ w=.ok _ _;simp only[hv,aj,Sem.run_bind,h1,Result.andThen_ok,Sem.run_pure];rfl
end
structure pd (P:Program) [cd P] (H:Ctx→Prop) (f:FuncId) (args:List A) (r:A) (k:Nat):Prop where
 ok:iQ P f
 calls:∀ (C:Ctx) (vals:Array Value) (w:World),GC P C→C.w0=w→C.pure→H C→(∀ b o,C.x b o→b < w.heap.size)→vals.size=args.length →
  (∀ (i:Nat) (u:Value) (a:A),vals[i]? = some u→args[i]? = some a→aD (aA C G0 0 w) u a) →
  Calls P f vals w fun e w'=>∃ v G',e=.returned v∧ax C 0 ⟨[],[],List.range k,k⟩ G' #[] w'∧aD (aA C G' k w') v r
theorem pd.cX {P:Program} (T:bF P) [cd P] {H:Ctx→Prop} {f:FuncId} {fn:Func} {c:Code} {rs:List RV} {n:Nat} {args:List A} {r:A} (hf:P.funcs[f]? = some fn) (hname:(fn.name == "runtime.NumGoroutine")=false) (hb:fn.body=some c) (hn:fn.ntmps=n)
    (hr:fn.results=(rs.map RV.var).toArray) (hlen:Nat.ble args.length n=true) (h:∀ C,NB C 0→GC P C→H C→(∀ b,¬ C.fp b)→W P C n c (QV T rs r 0) ⟨gw 0 args,[],[],0⟩):pd P H f args r 0:=by
  have hlen:=Nat.le_of_ble_eq_true hlen
  refine⟨⟨fn,hf,hname,by rw[hb];rfl⟩,fun C vals w hG hw hp hH hx hsz hrep=>?_⟩
  subst hw
  refine calls_of_wp hf hb (wp_mono (pA hp.2.2.2 (h C ⟨by rw[hp.2.2.1];rfl⟩ hG hH hp.1 (vals++Array.replicate (fn.ntmps - vals.size) undef) C.w0 ⟨G0,?_⟩)) ?_)
  · refine { size:=by simp[hn];omega,frame:=fun t a ha=>?_,box:=fun g cells hc=>by simp[ah] at hc,gbox:=fun g b hb=>by simp[G0] at hb,inj:=fun g g' b hb=>by simp[G0] at hb,
             live:=fun g hg=>by simp at hg,gown:=fun g r hr=>by simp[G0] at hr,row:=fun g b len cap sz pub hr=>by simp[G0] at hr,mrow:=fun g b bs hr=>by simp[G0] at hr,sub:=fun g b bs c lim hr=>by simp[G0] at hr,gcell:=fun g b hb=>by simp[G0] at hb,xold:=fun b o hb=>⟨hx b o hb,hp.1 b⟩,kold:=fun b o hb=>absurd hb (hp.2.1 b o),lent:=fun i b hb=>by rw[hp.2.2.1] at hb;simp at hb,
             fr:=⟨rfl,rfl,rfl,Nat.le_refl _,fun _ _ _=>rfl,fun _ _ _ hb=>absurd hb (hp.2.1 _ _),dh.refl _⟩ }
    obtain⟨_,h1⟩:=fL args 0 t a ha
    have h2:t < args.length:=(List.getElem?_eq_some_iff.1 (by simpa using h1)).1
    have h3:t < vals.size:=by omega
    have h4:vals[t]? = some vals[t]:=by simp[h3]
    exact⟨vals[t],by rw[Array.getElem?_append_left h3];exact h4,hrep t _ a h4 (by simpa using h1)⟩
  · rintro e ⟨tmps,df⟩ w' ⟨hd,st,⟨G,hs⟩,he,l,order,hl,hno,hol,hnd,hov⟩
    have ho0:order=[]:=List.eq_nil_of_length_eq_zero hol
    subst ho0
    have hmain:∃ v,(results fn tmps).run P w'=.ok v w'∧∃ v_1 G',Ending.returned v=.returned v_1∧ax C 0 ⟨[],[],List.range 0,0⟩ G' #[] w'∧aD (aA C G' 0 w') v_1 r:=by
      obtain⟨vs,hvs,hvl,hvr⟩:=jK T hs rs l hl
      refine⟨_,gh hr hvs,_,G0,rfl,?_,?_⟩
      · exact { size:=rfl,frame:=fun t a ha=>by simp[look] at ha,box:=fun g cells hc=>by simp[ah] at hc,gbox:=fun g b hb=>by simp[G0] at hb,inj:=fun g g' b hb=>by simp[G0] at hb,
                 live:=fun g hg=>by simp at hg,gown:=fun g r hr=>by simp[G0] at hr,row:=fun g b len cap sz pub hr=>by simp[G0] at hr,mrow:=fun g b bs hr=>by simp[G0] at hr,sub:=fun g b bs c lim hr=>by simp[G0] at hr,gcell:=fun g b hb=>by simp[G0] at hb,xold:=hs.xold,kold:=hs.kold,lent:=fun i b hb=>by rw[hp.2.2.1] at hb;simp at hb,fr:=hs.fr }
      · rw[←hno]
        refine aD.norm (order:=[]) (E:=aA C G st.gen w') (E2:=aA C G0 0 w') (fun b o u hu hn=>⟨hu,fun hp=>hn (.inl ((pz C b o).1 hp))⟩) (fun g r' hg=>by simp at hg) (by simp[aA]) (lg hvl hvr)
    cases e with
    | normal=>exact⟨hd.trans hp.2.2.2,hmain⟩
    | ret=>exact⟨hd.trans hp.2.2.2,hmain⟩
    | exit _=>exact he.elim
    | goto _=>exact he.elim
    | panic _=>exact he.elim
    | outgrown=>exact he.elim
section
variable {P:Program} {C:Ctx} {n:Nat}
variable {f:List (Nat×A)} {bx:List (Nat×List A)} {lv:List Nat} {gen:Nat} {d:Nat} {ty:TypeId} {pos:String} {af:Array Edge} {dst:Option Nat}
variable {α β:Type} [DecidableEq α]
end
end Go.Ab
namespace Go.Ab
open Go.RowKit
/-! ### whatever the states are -/
section
variable {P:Program} {ops:Array Oper} {md:Region.Mode} {m:Nat} {S E:Type} (Y:Nat→E→S→Prop) (ef:Nat→E→S→S)
def fq (md:Region.Mode) (ops:Array Oper) (listed:Array Bool):Prop:=
 ∀ j I,ops[j]? = some I→listed.getD j false=true→∀ e∈I.after,Region.binds md e=true→listed.getD e.on false=true
def da (md:Region.Mode) (ops:Array Oper):Nat→Nat→Nat→Bool
 | 0,_,_=>false
 | k+1,j,i=>cB md ops j i || (match ops[j]? with | some o=>o.after.toList.any fun e=>Region.binds md e && da md ops k e.on i | none=>false)
theorem kV {listed:Array Bool} (N:fq md ops listed):∀ (k j i:Nat),da md ops k j i=true→(∀ J,ops[j]? = some J→∀ e∈J.after,Region.binds md e=true→listed.getD e.on false=true)→listed.getD i false=true
 | 0,_,_,h,_=>by simp[da] at h
 | k+1,j,i,h,hj=>by
   simp only[da,Bool.or_eq_true] at h
   cases I:ops[j]? with
   | none=>rw[I] at h;simp[cB,I] at h
   | some J=>
     rcases h with h | h
     ·obtain⟨e,he,hb,heq⟩:=lp I h
      rw[←heq];exact hj J I e he hb
     ·rw[I] at h
      obtain⟨e,he,hb⟩:=List.any_eq_true.1 h;simp only[Bool.and_eq_true] at hb;have O:e∈J.after:=by simpa using he
      have hl:=hj J I e O hb.1;exact kV N k e.on i hb.2 fun o X Z M U=>N e.on o X hl Z M U
def mX (md:Region.Mode) (ops:Array Oper) (m:Nat):Bool:=(List.range ops.size).all fun j=>decide (j < m) || (List.range j).all fun i=>da md ops ops.size j i
theorem nW {j:Nat} (h:mX md ops m=true) (hm:m≤j) {i:Nat} (M:i < j) {listed:Array Bool} (U:fq md ops listed) (hj:j∈Region.ready md ops listed):listed.getD i false=true:=by obtain⟨_,X,I,J⟩:=mem_ready.1 hj;have N:j < ops.size:=(Array.getElem?_eq_some_iff.1 I).1;have h1:=List.all_eq_true.1 h j (by simpa using N);simp only[Bool.or_eq_true,decide_eq_true_eq] at h1;have h2:=List.all_eq_true.1 (h1.resolve_left (by omega)) i (by simpa using M);exact kV U _ j i h2 fun o O e he hb=>by rw[I] at O;cases O;exact J e he hb
theorem fq.add {listed:Array Bool} (N:fq md ops listed) {i:Nat} (hi:i∈Region.ready md ops listed):fq md ops (listed.setIfInBounds i true):=by
 intro j O I hl e he hb;obtain⟨_,U,M,J⟩:=mem_ready.1 hi;by_cases hji:i=j
 ·subst hji
  rw[M] at I;cases I;exact getD_set_true (J e he hb)
 ·rw[getD_set_ne false hji] at hl
  exact getD_set_true (N j O I hl e he hb)
def tg (m:Nat) (md:Region.Mode) (ops:Array Oper) (Q:S→Prop):Nat→Array Bool→S→Prop
 | 0,listed,I=>Split m ops listed∧Q I
 | fuel+1,listed,I=>Region.ready md ops listed≠[]∧∀ i∈Region.ready md ops listed,∃ e,Y i e I∧tg m md ops Q fuel (listed.setIfInBounds i true) (ef i e I)
def oh (i j:Nat):Prop:=∀ e J I,Y i e I→Y j J (ef i e I)→Y j J I∧Y i e (ef j J I)∧ef j J (ef i e I)=ef i e (ef j J I)
variable {Y} {ef}
theorem zj {Q:S→Prop} {i:Nat} {oi:Oper} {e:E} (hw:mX md ops m=true) (b3:i < m) (hi:ops[i]? = some oi) :
 ∀ (fuel:Nat) (listed:Array Bool) (M:S),fq md ops listed →
   (∀ j N,ops[j]? = some N→j≠i→j < m→listed.getD j true=false→(∀ e∈N.after,Region.binds md e=true→e.on≠i)→oh Y ef i j) →
   i∈Region.ready md ops listed→Y i e M→tg Y ef m md ops Q fuel (listed.setIfInBounds i true) (ef i e M)→tg Y ef m md ops Q (fuel+1) listed M:=by
 have O:∀ {listed:Array Bool},i∈Region.ready md ops listed→listed.getD i false=false:=fun I=>eF (mem_ready.1 I).1;intro fuel
 induction fuel with
 | zero=>
   intro listed M hc _ I hy H;refine⟨fun h=>(by rw[h] at I;cases I),fun j hj=>?_⟩;by_cases hji:j=i;·subst hji;exact⟨e,hy,H⟩
   ·exfalso
    obtain⟨⟨_,h1,h2⟩,_⟩:=H;have a1:=(mem_ready.1 hj).1;by_cases U:j < m
    ·have:=h1 j U
     rw[getD_set_ne false (Ne.symm hji)] at this;rw[eF a1] at this;cases this
    ·have:=nW hw (by omega) (show i < j by omega) hc hj
     rw[O I] at this;cases this
 | succ fuel ih=>
   intro listed M hc J I hy H;refine⟨fun h=>(by rw[h] at I;cases I),fun j hj=>?_⟩;by_cases hji:j=i;·subst hji;exact⟨e,hy,H⟩
   ·obtain⟨e',a6,H'⟩:=H.2 j (ready_mono hj hji)
    obtain⟨X,N,a7,ai⟩:=mem_ready.1 hj;have aj:∀ e∈N.after,Region.binds md e=true→e.on≠i:=fun e he hb heq=>by have h1:=ai e he hb;rw[heq,O I] at h1;cases h1
    have U:j < m:=by
     rcases Nat.lt_or_ge j m with h | h
     ·exact h
     ·have:=nW hw h (show i < j by omega) hc hj
      rw[O I] at this;cases this
    obtain⟨s1,s2,s3⟩:=J j N a7 hji U X aj e e' M hy a6;have Z:∀ k ok,ops[k]? = some ok→k≠i→k < m→(listed.setIfInBounds j true).getD k true=false→(∀ e∈ok.after,Region.binds md e=true→e.on≠i)→oh Y ef i k:=fun k ok hk a8 b0 ad b2=>by
     refine J k ok hk a8 b0 ?_ b2;by_cases hjk:j=k;·subst hjk;exact X
     ·rw[getD_set_ne true hjk] at ad;exact ad
    refine⟨e',s1,ih (listed.setIfInBounds j true) _ (hc.add hj) Z (ready_mono I (Ne.symm hji)) s2 ?_⟩;rw[Array.setIfInBounds_comm _ _ hji,←s3];exact H'
def Al (Y:Nat→E→S→Prop) (ef:Nat→E→S→S) (Q:S→Prop):List Oper→Nat→S→Prop
 | [],_,σ=>Q σ
 | _::rest,i,σ=>∃ e,Y i e σ∧Al Y ef Q rest (i+1) (ef i e σ)
theorem xF {Q:S→Prop} (hw:mX md ops m=true)
 (N:∀ i j oi I,ops[i]? = some oi→ops[j]? = some I→i≠j→i < m→j < m→oi.apart ops I=true→(∀ e∈I.after,Region.binds md e=true→e.on≠i)→oh Y ef i j) :
 ∀ (l:List Oper) (k:Nat) (listed:Array Bool) (J:S),k+l.length=m→(∀ j,j < l.length→l[j]? = ops[k+j]?)→fq md ops listed →
 listed.size=ops.size→(∀ j,j < k→listed.getD j false=true)→(∀ j,k≤j→j < ops.size→listed.getD j true=false) →
 mZ md ops l.length k listed=true→Al Y ef Q l k J→tg Y ef m md ops Q l.length listed J
 | [],k,listed,J,hk,_,_,hs,h1,h2,_,h=>⟨⟨hs,fun j hj=>h1 j (by simp at hk;omega),fun j hj M=>h2 j (by simp at hk;omega) M⟩,h⟩
 | o::l,k,listed,J,hk,hl,hc,hs,h1,h2,hB,h=>by
   have h0:ops[k]? = some o:=by simpa using (hl 0 (by simp)).symm
   have ai:k < ops.size:=(Array.getElem?_eq_some_iff.1 h0).1;simp only[List.length_cons,mZ,Bool.and_eq_true] at hB;obtain⟨⟨hr,hf⟩,aj⟩:=hB;have O:k∈Region.ready md ops listed:=by simpa using hr
   obtain⟨e,hy,hK⟩:=h;have U:k < m:=by simp at hk;omega
   refine zj hw U h0 l.length listed J hc (fun j I X Z a1 a6 ad=>N k j o I h0 X (Ne.symm Z) U a1 (Region.free_spec h0 hf j I X Z a6 ad) ad) O hy
    (xF hw N l (k+1) _ _ (by simp at hk;omega) (fun j hj=>by have:=hl (j+1) (by simpa using hj);simpa [Nat.add_assoc,Nat.add_comm 1 j] using this) (hc.add O) (by simpa using hs) (fun j hj=>?_) (fun j hj M=>?_) aj hK)
   ·rcases Nat.lt_succ_iff_lt_or_eq.1 hj with a7 | rfl
    ·exact getD_set_true (h1 j a7)
    ·simp[hs,ai]
   ·rw[getD_set_ne true (by omega)]
    exact h2 j (by omega) M
theorem ng {Sm:S→Act→World→Prop} {Q:S→Prop} {Q':Exit→Act→World→Prop} {t:Nat}
 (M:∀ i e I act w K,Sm I act w→Y i e I→(∀ act w,Sm (ef i e I) act w→K act w)→wpOp P ops Q' i K act w)
 (N:∀ listed I act w,Sm I act w→fq md ops listed→Split m ops listed→Q I→wpAny P md ops Q' t listed act w) :
 ∀ (fuel:Nat) (listed:Array Bool) (I:S) (act:Act) (w:World),Sm I act w→fq md ops listed→tg Y ef m md ops Q fuel listed I→wpAny P md ops Q' (fuel+t) listed act w
 | 0,_,_,_,_,hs,J,h=>by rw[Nat.zero_add];exact N _ _ _ _ hs J h.1 h.2
 | fuel+1,_,_,_,_,hs,J,h=>by rw[Nat.add_right_comm];refine⟨fun h0=>absurd h0 h.1,fun i hi=>?_⟩;obtain⟨e,U,X⟩:=h.2 i hi;exact M i e _ _ _ _ hs U fun act w O=>ng M N fuel _ _ _ _ O (J.add hi) X
theorem mc {Q':Exit→Act→World→Prop} (hw:mX md ops m=true) (O:∀ k,m≤k→∀ o,ops[k]? = some o→∀ e∈o.after,Region.binds md e=true→e.on < k) :
 ∀ (l:List Oper) (k:Nat) (listed:Array Bool) (act:Act) (w:World),m≤k→k+l.length=ops.size→(∀ j,l[j]? = ops[k+j]?)→fq md ops listed→listed.size=ops.size→(∀ j,j < k→listed.getD j false=true)→(∀ j,k≤j→j < ops.size→listed.getD j true=false) →
   dX P ops Q' l act w→wpAny P md ops Q' l.length listed act w
 | [],k,listed,act,w,hm,hk,_,_,hs,h1,h2,h=>by refine⟨?_,h⟩;refine List.eq_nil_iff_forall_not_mem.2 fun j hj=>?_;obtain⟨h3,oj,U,_⟩:=mem_ready.1 hj;have J:=(Array.getElem?_eq_some_iff.1 U).1;have:=h1 j (by simp at hk;omega);rw[eF h3] at this;cases this
 | o::l,k,listed,act,w,hm,hk,hl,hc,hs,h1,h2,h=>by
   have h0:ops[k]? = some o:=by simpa using (hl 0).symm
   have M:k < ops.size:=(Array.getElem?_eq_some_iff.1 h0).1;have I:k∈Region.ready md ops listed:=mem_ready.2 ⟨h2 k (Nat.le_refl _) M,o,h0,fun e he hb=>h1 _ (O k hm o h0 e he hb)⟩;refine⟨fun hn=>(by rw[hn] at I;cases I),fun i hi=>?_⟩;have X:i=k:=by
    obtain⟨h3,oi,ai,_⟩:=mem_ready.1 hi;rcases Nat.lt_trichotomy i k with J | he | Z
    ·have:=h1 i J;rw[eF h3] at this;cases this
    ·exact he
    ·have:=nW hw (by omega) Z hc hi
     rw[eF (h2 k (Nat.le_refl _) M)] at this;cases this
   subst X
   have ih:=fun act w=>mc (Q':=Q') hw O l (i+1) (listed.setIfInBounds i true) act w (by omega) (by simp at hk;omega) (fun j=>by have:=hl (j+1);simpa [Nat.add_assoc,Nat.add_comm 1 j] using this) (hc.add I) (by simpa using hs)
    (fun j hj=>by
     rcases Nat.lt_succ_iff_lt_or_eq.1 hj with J | rfl
     ·exact getD_set_true (h1 j J)
     ·simp[hs,M]) (fun j hj ad=>by rw[getD_set_ne true (by omega)];exact h2 j (by omega) ad)
   simp only[dX] at h;unfold wpOp;simp only[h0];split
   ·rename_i N
    rw[if_pos N] at h;exact .inl (Oper.wp_mono ih h)
   ·rename_i N
    rw[if_neg N] at h;exact ih _ _ h
end
/-! ### one operation that turns the ghost -/
theorem Oper.Dj {P:Program} {o:Oper} {a:Act} {w:World} {K J:Act→World→Prop} {Q Q':Exit→Act→World→Prop} (hp:∀ c a w,¬ Q (.panic c) a w) (M:¬ LetsOut Q) (I:∀ a w,K a w→J a w) (h:o.wp P a w K Q):o.wp P a w J Q':=by
 unfold Oper.wp at *;generalize (execOp a.eval o).run P w=r at *
 cases r with
 | ok n w'=>
   cases n <;> simp only[Oper.upon] at h ⊢ <;> first
    | exact I _ _ h
    | exact Calls.mono h (fun e N he=>by
     cases e with
     | returned v=>exact I _ _ he
     | panicked c=>exact absurd he (hp _ _ _)
     | outgrown=>exact absurd he M)
    | exact Rows.mono h (fun _ _ he=>I _ _ he)
    | exact h
 | halt x w'=>
   cases x <;> simp only[Oper.upon] at h ⊢ <;> first
    | exact absurd h (hp _ _ _)
    | exact h
theorem Oper.tw {P:Program} {o:Oper} {a:Act} {w:World} {K J:Act→World→Prop} {Q Q':Exit→Act→World→Prop} (hp:∀ c a w,Q (.panic c) a w→Q' (.panic c) a w) (M:¬ LetsOut Q) (I:∀ a w,K a w→J a w) (h:o.wp P a w K Q):o.wp P a w J Q':=by
 unfold Oper.wp at *;generalize (execOp a.eval o).run P w=r at *
 cases r with
 | ok n w'=>
   cases n <;> simp only[Oper.upon] at h ⊢ <;> first
    | exact I _ _ h
    | exact Calls.mono h (fun e N he=>by
     cases e with
     | returned v=>exact I _ _ he
     | panicked c=>exact hp _ _ _ he
     | outgrown=>exact absurd he M)
    | exact Rows.mono h (fun _ _ he=>I _ _ he)
    | exact h
 | halt x w'=>
   cases x <;> simp only[Oper.upon] at h ⊢ <;> first
    | exact hp _ _ _ h
    | exact h
end Go.Ab
namespace Go.Ab
open Go.RowKit
structure Au where
 bx0:List (Nat×List A)
 bx1:List (Nat×List A)
 lv0:List Nat
 lv1:List Nat
 gen0:Nat
 gen1:Nat
section
variable {P:Program} {C:Ctx} {n:Nat} (S:Au) {ops:Array Oper} (c:Nat)
abbrev SC:=dK×Bool
def EI (C:Ctx) (n:Nat) (S:Au) (I:SC) (act:Act) (w:World):Prop:=
 act.defers=C.ds∧∃ G,if I.2=true then eD C n S.bx1 S.lv1 S.gen1 I.1 G act.tmps w else eD C n S.bx0 S.lv0 S.gen0 I.1 G act.tmps w
def Ew (P:Program) (C:Ctx) (n:Nat) (S:Au) (ops:Array Oper) (o:Oper) (a:A) (I:dK):Prop:=
 o.guard=none∧∃ p,(∀ t x,look p t=some x→I t=some x∧t∈o.looksAt ops) ∧
  ∀ g,WO P C n ops (fun e st=>e=.normal∧st=St.put ⟨p++g,S.bx1,S.lv1,S.gen1⟩ o.dst a) [o] ⟨p++g,S.bx0,S.lv0,S.gen0⟩
def YC (P:Program) (C:Ctx) (n:Nat) (S:Au) (ops:Array Oper) (c:Nat) (i:Nat) (a:A) (I:SC):Prop:=
 ∃ o,ops[i]? = some o∧eV n o.dst=true∧((i=c∧I.2=false∧Ew P C n S ops o a I.1) ∨
   (i≠c∧(cB .any ops i c=false→YA P C n S.bx0 S.lv0 S.gen0 ops o a I.1)∧(cB .any ops c i=false→YA P C n S.bx1 S.lv1 S.gen1 ops o a I.1) ∧
    (I.2=false→cB .any ops i c=false)∧(I.2=true→cB .any ops c i=false)))
def xA (ops:Array Oper) (c:Nat) (i:Nat) (a:A) (I:SC):SC:=
 match ops[i]? with
 | none=>I
 | some o=>(bQ I.1 o.dst a,if i=c then true else I.2)
variable {S} {c}
theorem xn {o:Oper} {a:A} {J:dK} {dst:Option Nat} {x:A} (hd:∀ d,dst=some d→d∉o.looksAt ops):Ew P C n S ops o a (bQ J dst x)↔Ew P C n S ops o a J:=by
 constructor
 ·rintro⟨h0,p,h1,h2⟩
  exact⟨h0,p,fun t y I=>⟨(fP hd (h1 t y I).2).symm.trans (h1 t y I).1,(h1 t y I).2⟩,h2⟩
 ·rintro⟨h0,p,h1,h2⟩
  exact⟨h0,p,fun t y I=>⟨(fP hd (h1 t y I).2).trans (h1 t y I).1,(h1 t y I).2⟩,h2⟩
theorem yN {j i:Nat} {I:Oper} (hj:ops[j]? = some I) (h:∀ e∈I.after,Region.binds .any e=true→e.on≠i):cB .any ops j i=false:=by
 cases q:cB .any ops j i with
 | false=>rfl
 | true=>obtain⟨e,he,hb,heq⟩:=lp hj q;exact absurd heq (h e he hb)
theorem gV {i:Nat} {o:Oper} (h:ops[i]? = some o) (a:A) (I:SC):xA ops c i a I=(bQ I.1 o.dst a,if i=c then true else I.2):=by unfold xA;rw[h]
theorem F6 {i j:Nat} {O N:Oper} (hi:ops[i]? = some O) (hj:ops[j]? = some N) (a7:i≠j) (a8:O.apart ops N=true) (b0:∀ e∈N.after,Region.binds .any e=true→e.on≠i) :
 oh (YC P C n S ops c) (xA ops c) i j:=by
 obtain⟨Z,a2,a3⟩:=Oper.apart_spec a8;have ad:=yN hj b0;rintro a b ⟨φ,ph⟩ ⟨b2,ai,di,aj⟩ ⟨b3,a6,dj,U⟩;rw[hi] at ai;cases ai;rw[hj] at a6;cases a6;rw[gV hi] at U;rw[gV hi,gV hj,gV hj,gV hi];have M:bQ (bQ φ O.dst a) N.dst b=bQ (bQ φ N.dst b) O.dst a:=lV φ a b a2;simp only at aj U ⊢;rcases aj with ⟨rfl,X,hx⟩ | ⟨J,y0,y1,y2,y3⟩
 ·
  subst X;rcases U with ⟨e,_⟩ | ⟨I,z0,z1,z2,z3⟩
  ·exact absurd e.symm a7
  ·refine⟨⟨N,hj,dj,.inr ⟨I,fun h=>(eC Z).1 (z0 h),fun h=>(eC Z).1 (z1 h),fun _=>ad,fun h=>by cases h⟩⟩,⟨O,hi,di,.inl ⟨rfl,?_,(xn a3).2 hx⟩⟩,?_⟩
   ·rw[if_neg I]
   ·rw[if_pos rfl,if_neg I,M]
    simp
 ·rcases U with ⟨rfl,X,hx⟩ | ⟨I,z0,z1,z2,z3⟩
  ·rw[if_neg J] at X
   subst X;refine⟨⟨N,hj,dj,.inl ⟨rfl,rfl,(xn Z).1 hx⟩⟩,⟨O,hi,di,.inr ⟨J,fun h=>(eC a3).2 (y0 h),fun h=>(eC a3).2 (y1 h),fun h=>?_,fun _=>ad⟩⟩,?_⟩;·rw[if_pos rfl] at h;cases h
   ·rw[if_pos rfl,if_neg J,M]
    simp
  ·rw[if_neg J] at z2 z3
   refine⟨⟨N,hj,dj,.inr ⟨I,fun h=>(eC Z).1 (z0 h),fun h=>(eC Z).1 (z1 h),z2,z3⟩⟩,⟨O,hi,di,.inr ⟨J,fun h=>(eC a3).2 (y0 h),fun h=>(eC a3).2 (y1 h),?_,?_⟩⟩,?_⟩;·rw[if_neg I];exact y2
   ·rw[if_neg I];exact y3
   ·rw[if_neg J,if_neg I,M,if_neg J]
def fa (n:Nat) (I:dK):List (Nat×A):=(List.range n).filterMap fun t=>(I t).map fun a=>(t,a)
theorem lS (I:dK):∀ (l:List Nat) (t:Nat),look (l.filterMap fun t=>(I t).map fun a=>(t,a)) t=if t∈l then I t else none
 | [],t=>rfl
 | s::l,t=>by
   rw[List.filterMap_cons]
   cases hs:I s with
   | none=>
     simp only[Option.map_none];rw[lS I l t];by_cases e:t=s;·subst e;simp[hs]
     ·simp[e]
   | some a=>
     simp only[Option.map_some,aU];by_cases e:s=t;·subst e;simp[hs]
     ·rw[if_neg e,lS I l t]
      simp[Ne.symm e]
theorem qd (p g:List (Nat×A)) (t:Nat):look (p++g) t=match look p t with | some a=>some a | none=>look g t:=by
 induction p with
 | nil=>rfl
 | cons x p I=>
   obtain⟨s,a⟩:=x;rw[List.cons_append,aU,aU];split;·rfl
   ·exact I
theorem FA (i:Nat) (a:A) (σ:SC) (act:Act) (w:World) (K:Act→World→Prop) {Q':Exit→Act→World→Prop} (hs:EI C n S σ act w) (hy:YC P C n S ops c i a σ) (U:∀ act w,EI C n S (xA ops c i a σ) act w→K act w):wpOp P ops Q' i K act w:=by
 obtain⟨tmps,a8⟩:=act;obtain⟨rfl,G,hs⟩:=hs;obtain⟨J,ph⟩:=σ;obtain⟨o,ho,hd,hy⟩:=hy;rw[gV ho] at U;simp only at hs hy U;unfold wpOp;simp only[ho];rcases hy with ⟨rfl,rfl,hg,p,hp,I⟩ | ⟨ai,y0,y1,y2,y3⟩
 ·simp only[Bool.false_eq_true,if_false] at hs
  have hw:Region.wanted o (yielded ops tmps)=true:=by simp[Region.wanted,hg]
  rw[hw,if_pos rfl];refine .inl ?_;have aj:∀ t x,J t=some x→t < n:=fun t x I=>by obtain⟨v,h1,_⟩:=hs.2 t x I;have:=(Array.getElem?_eq_some_iff.1 h1).1;rw[hs.1.size] at this;exact this
  have N:∀ t,look (p++fa n J) t=J t:=fun t=>by
   rw[qd]
   cases q:look p t with
   | some x=>exact(hp t x q).1.symm
   | none=>
     simp only;unfold fa;rw[lS]
     cases e:J t with
     | none=>split <;> rfl
     | some x=>rw[if_pos (List.mem_range.2 (aj t x e))]
  have a1:=hs.kW (f:=p++fa n J) fun t x I=>by rw[←N];exact I
  have h:=I (fa n J) tmps w ⟨G,a1⟩;simp only[dX,hw,if_true] at h;refine Oper.Dj (fun c a w X=>?_) (fun hl=>?_) (fun Z w2 X=>?_) h
  ·obtain⟨_,st',_,he,_⟩:=X
   cases he
  ·obtain⟨_,_,X⟩:=hl
   obtain⟨_,st',_,he,_⟩:=X;cases he
  ·obtain⟨a6,st',⟨G',M⟩,_,rfl⟩:=X
   refine U Z w2 ⟨a6,G',?_⟩;simp only[if_true];show eD C n S.bx1 S.lv1 S.gen1 (bQ J o.dst a) G' Z.tmps w2
   cases ad:o.dst with
   | none=>rw[ad] at M;refine⟨{ M with frame:=fun t a ha=>by simp[look] at ha },fun t x I=>M.frame t x ?_⟩;show look (p++fa n J) t=some x;rw[N];exact I
   | some d=>
     rw[ad] at M;refine⟨{ M with frame:=fun t a ha=>by simp[look] at ha },fun t x I=>M.frame t x ?_⟩;show look ((d,a)::(p++fa n J)) t=some x;rw[aU];simp only[bQ] at I;by_cases e:t=d
     ·subst e
      rw[if_pos rfl] at I ⊢;exact I
     ·rw[if_neg e] at I
      rw[if_neg (Ne.symm e),N];exact I
 ·rw[if_neg ai] at U
  have key:∀ {bx:List (Nat×List A)} {lv:List Nat} {gen:Nat},eD C n bx lv gen J G tmps w→YA P C n bx lv gen ops o a J→(∀ tmps w,eD C n bx lv gen (bQ J o.dst a) G tmps w→K ⟨tmps,C.ds⟩ w) →
   (if Region.wanted o (yielded ops tmps)=true then o.wp P ⟨tmps,C.ds⟩ w K Q'∨(o.asks P ⟨tmps,C.ds⟩ w∧LetsOut Q') else K (Act.put ⟨tmps,C.ds⟩ o.dst undef) w):=by
   intro bx lv gen O a7 hk;obtain⟨_,⟨hw,f,hf,hp⟩ | ⟨hw,rfl⟩⟩:=a7
   ·rw[gm O hw]
    simp only[if_true];refine .inl ?_;have hg:cZ P o ⟨tmps,[]⟩ w fun v w'=>Below w.heap.size w w'∧aD (aA C G gen w') v a:=hp G tmps w (O.kW fun t x I=>(hf t x I).1);refine hg.ds.wp fun v w' ⟨hb,hr⟩=>?_;rw[Act.gI];exact hk _ _ (O.step hb hd hr)
   ·rw[gm O hw]
    simp only[Bool.false_eq_true,if_false];rw[Act.gI];exact hk _ _ (O.step (Below.refl _ _) hd (.tup #[] [] rfl (by simp)))
  cases ph with
  | false=>simp only[Bool.false_eq_true,if_false] at hs;exact key hs (y0 (y2 rfl)) fun tmps w h=>U _ _ ⟨rfl,G,by simpa using h⟩
  | true=>simp only[if_true] at hs;exact key hs (y1 (y3 rfl)) fun tmps w h=>U _ _ ⟨rfl,G,by simpa using h⟩
def CC (P:Program) (C:Ctx) (n:Nat) (S:Au) (ops:Array Oper) (c:Nat) (Q:St→Prop) (l:List Oper) (i:Nat) (f:List (Nat×A)) (ph:Bool):Prop:=
 Al (YC P C n S ops c) (xA ops c) (fun I=>∃ f',(∀ t,look f' t=I.1 t)∧I.2=true∧Q ⟨f',S.bx1,S.lv1,S.gen1⟩) l i (look f,ph)
def fM (m:Nat) (ops:Array Oper):Bool:=Nat.ble m ops.size && mX .any ops m && xX .any ops m && mZ .any ops m 0 (Array.replicate ops.size false)
theorem W.jJ (T:bF P) {id:Nat} {l l1 l2:List Oper} {f:List (Nat×A)} {bx bx1:List (Nat×List A)} {lv lv1:List Nat} {gen gen1:Nat} {Q:Exit→St→Prop} (m c:Nat) (hB:fM m l.toArray=true) (h1:l.take m=l1) (h2:l.drop m=l2)
 (h:CC P C n ⟨bx,bx1,lv,lv1,gen,gen1⟩ l.toArray c (WO P C n l.toArray Q l2) l1 0 f false):W P C n (.region id l.toArray true) Q ⟨f,bx,lv,gen⟩:=by
 subst h1;subst h2;intro tmps w ⟨G,hs⟩;simp only[fM,Bool.and_eq_true] at hB;obtain⟨⟨⟨hm,hw⟩,N⟩,I⟩:=hB;have hm:m≤l.length:=by simpa using Nat.le_of_ble_eq_true hm
 have hb:Below w.heap.size w { w with drawn:=w.drawn+1 }:=(Below.refl _ w).drew;have X:eD C n bx lv gen (look f) G tmps { w with drawn:=w.drawn+1 }:=eD.zn (hs.gK hb).2;have hlen:(l.take m).length=m:=by simp;omega
 refine wp_region_any T.mixed ?_;have O:l.toArray.size=(l.take m).length+(l.drop m).length:=by simp;omega
 rw[O];have U:fq .any l.toArray (Array.replicate ((l.take m).length+(l.drop m).length) false):=fun j oj _ hl _ _ _=>by
  by_cases q:j < (l.take m).length+(l.drop m).length
  ·simp only[Array.getD_eq_getD_getElem?,Array.getElem?_replicate] at hl
   rw[if_pos q] at hl;cases hl
  ·simp only[Array.getD_eq_getD_getElem?,Array.getElem?_replicate] at hl
   rw[if_neg q] at hl;cases hl
 refine ng (m:=m) (Sm:=EI C n ⟨bx,bx1,lv,lv1,gen,gen1⟩) (Y:=YC P C n ⟨bx,bx1,lv,lv1,gen,gen1⟩ l.toArray c) (ef:=xA l.toArray c) (Q:=fun J=>∃ f',(∀ t,look f' t=J.1 t)∧J.2=true∧WO P C n l.toArray Q (l.drop m) ⟨f',bx1,lv1,gen1⟩)
  (fun i e J act w K hs hy hk=>FA i e J act w K hs hy hk) (fun listed J act w hs hc M ⟨f',e1,e2,hq⟩=>?_) _ _ (look f,false) ⟨tmps,C.ds⟩ _ ⟨rfl,G,by simpa using X⟩ U ?_
 ·obtain⟨tmps,a1⟩:=act
  obtain⟨rfl,G,hs⟩:=hs;rw[e2] at hs;simp only[if_true] at hs;refine mc hw (nI N) (l.drop m) m listed ⟨tmps,C.ds⟩ w (Nat.le_refl _) (by simp;omega) (fun j=>by simp[List.getElem?_drop]) hc M.1 M.2.1 M.2.2 ?_;exact hq tmps w ⟨G,hs.kW (fun t a ha=>by rw[←e1];exact ha)⟩
 ·refine xF hw (fun i j oi oj hi hj Z a6 a7 ad ai=>F6 hi hj Z ad ai) (l.take m) 0 _ _ (by rw[hlen];omega) (fun j hj=>?_) U (by simp;omega) (fun j hj=>by omega) (fun j _ hj=>?_) (by rw[hlen];rw[O,hlen] at I;exact I) h
  ·rw[hlen] at hj
   rw[Nat.zero_add];simp[List.getElem?_take,hj]
  ·have aj:j < l.length:=by simpa using hj
   have e:min m l.length+(l.length - m)=l.length:=by omega
   simp[e,aj]
variable {op:Op} {ty:TypeId} {pos:String} {af:Array Edge} {a:A} {d i:Nat} {rest:List Oper} {f:List (Nat×A)} {Q:St→Prop} {o:Oper} {ph:Bool}
theorem CC.GB (h:Q ⟨f,S.bx1,S.lv1,S.gen1⟩):CC P C n S ops c Q [] i f true:=⟨f,fun _=>rfl,rfl,h⟩
theorem YA.qX {bx:List (Nat×List A)} {lv:List Nat} {gen:Nat} (hp:Pu P C n ⟨bU f (slotsOf op),bx,lv,gen⟩ ⟨some d,op,ty,pos,af,none⟩ a) (hd:Nat.blt d n=true):YA P C n bx lv gen ops ⟨some d,op,ty,pos,af,none⟩ a (look f):=
 ⟨hd,.inl ⟨rfl,_,fun t x I=>by obtain⟨h1,h2⟩:=dD I;exact⟨h1,List.mem_append.2 (.inl h2)⟩,hp⟩⟩
theorem Gb (h1:Pu P C n ⟨bU f (slotsOf op),S.bx1,S.lv1,S.gen1⟩ ⟨some d,op,ty,pos,af,none⟩ a) (h0:Pu P C n ⟨bU f (slotsOf op),S.bx0,S.lv0,S.gen0⟩ ⟨some d,op,ty,pos,af,none⟩ a)
 (hi:ops[i]? = some ⟨some d,op,ty,pos,af,none⟩) (J:Nat.beq i c=false) (M:cB .any ops i c=false) (b1:cB .any ops c i=false) (hd:Nat.blt d n=true)
 (h:CC P C n S ops c Q rest (i+1) ((d,a)::f) ph):CC P C n S ops c Q (⟨some d,op,ty,pos,af,none⟩::rest) i f ph:=by
 have I:i≠c:=fun e=>by subst e;simp at J
 refine⟨a,⟨_,hi,hd,.inr ⟨I,fun _=>YA.qX h0 hd,fun _=>YA.qX h1 hd,fun _=>M,fun _=>b1⟩⟩,?_⟩;rw[gV hi];simp only[if_neg I];unfold CC at h;rw[eh] at h;exact h
theorem ES (h0:Pu P C n ⟨bU f (slotsOf op),S.bx0,S.lv0,S.gen0⟩ ⟨some d,op,ty,pos,af,none⟩ a)
 (hi:ops[i]? = some ⟨some d,op,ty,pos,af,none⟩) (J:Nat.beq i c=false) (M:cB .any ops i c=false) (b1:cB .any ops c i=true) (hd:Nat.blt d n=true)
 (h:CC P C n S ops c Q rest (i+1) ((d,a)::f) false):CC P C n S ops c Q (⟨some d,op,ty,pos,af,none⟩::rest) i f false:=by
 have I:i≠c:=fun e=>by subst e;simp at J
 refine⟨a,⟨_,hi,hd,.inr ⟨I,fun _=>YA.qX h0 hd,(fun h=>by rw[b1] at h;cases h),fun _=>M,fun h=>by cases h⟩⟩,?_⟩;rw[gV hi];simp only[if_neg I];unfold CC at h;rw[eh] at h;exact h
theorem Fq (h1:Pu P C n ⟨bU f (slotsOf op),S.bx1,S.lv1,S.gen1⟩ ⟨some d,op,ty,pos,af,none⟩ a)
 (hi:ops[i]? = some ⟨some d,op,ty,pos,af,none⟩) (J:Nat.beq i c=false) (M:cB .any ops i c=true) (b1:cB .any ops c i=false) (hd:Nat.blt d n=true)
 (h:CC P C n S ops c Q rest (i+1) ((d,a)::f) true):CC P C n S ops c Q (⟨some d,op,ty,pos,af,none⟩::rest) i f true:=by
 have I:i≠c:=fun e=>by subst e;simp at J
 refine⟨a,⟨_,hi,hd,.inr ⟨I,(fun h=>by rw[M] at h;cases h),fun _=>YA.qX h1 hd,(fun h=>by cases h),fun _=>b1⟩⟩,?_⟩;rw[gV hi];simp only[if_neg I];unfold CC at h;rw[eh] at h;exact h
theorem GM (J:∀ g,WO P C n ops (fun e st=>e=.normal∧st=⟨(d,a)::(bU f (slotsOf op)++g),S.bx1,S.lv1,S.gen1⟩) [⟨some d,op,ty,pos,af,none⟩] ⟨bU f (slotsOf op)++g,S.bx0,S.lv0,S.gen0⟩)
 (hi:ops[i]? = some ⟨some d,op,ty,pos,af,none⟩) (M:Nat.beq i c=true) (hd:Nat.blt d n=true) (h:CC P C n S ops c Q rest (i+1) ((d,a)::f) true):CC P C n S ops c Q (⟨some d,op,ty,pos,af,none⟩::rest) i f false:=by
 have I:i=c:=Nat.eq_of_beq_eq_true M;refine⟨a,⟨_,hi,hd,.inl ⟨I,rfl,rfl,bU f (slotsOf op),fun t x J=>?_,fun g=>J g⟩⟩,?_⟩
 ·obtain⟨h1,h2⟩:=dD J
  exact⟨h1,List.mem_append.2 (.inl h2)⟩
 ·rw[gV hi]
  simp only[if_pos I];unfold CC at h;rw[eh] at h;exact h
theorem FT (J:∀ g,WO P C n ops (fun e st=>e=.normal∧st=⟨bU f (slotsOf op)++g,S.bx1,S.lv1,S.gen1⟩) [⟨none,op,ty,pos,af,none⟩] ⟨bU f (slotsOf op)++g,S.bx0,S.lv0,S.gen0⟩)
 (hi:ops[i]? = some ⟨none,op,ty,pos,af,none⟩) (M:Nat.beq i c=true) (h:CC P C n S ops c Q rest (i+1) f true):CC P C n S ops c Q (⟨none,op,ty,pos,af,none⟩::rest) i f false:=by
 have I:i=c:=Nat.eq_of_beq_eq_true M;refine⟨.any,⟨_,hi,rfl,.inl ⟨I,rfl,rfl,bU f (slotsOf op),fun t x J=>?_,fun g=>J g⟩⟩,?_⟩
 ·obtain⟨h1,h2⟩:=dD J
  exact⟨h1,List.mem_append.2 (.inl h2)⟩
 ·rw[gV hi]
  simp only[if_pos I];exact h
variable {bx0 bx1:List (Nat×List A)} {lv0 lv1:List Nat} {gen0 gen1:Nat}
theorem CC.nil (h:Q ⟨f,bx1,lv1,gen1⟩):CC P C n ⟨bx0,bx1,lv0,lv1,gen0,gen1⟩ ops c Q [] i f true:=
 CC.GB (S:=⟨bx0,bx1,lv0,lv1,gen0,gen1⟩) h
theorem eY (h1:Pu P C n ⟨bU f (slotsOf op),bx1,lv1,gen1⟩ ⟨some d,op,ty,pos,af,none⟩ a) (h0:Pu P C n ⟨bU f (slotsOf op),bx0,lv0,gen0⟩ ⟨some d,op,ty,pos,af,none⟩ a)
 (hi:ops[i]? = some ⟨some d,op,ty,pos,af,none⟩) (I:Nat.beq i c=false) (J:cB .any ops i c=false) (b1:cB .any ops c i=false) (hd:Nat.blt d n=true)
 (h:CC P C n ⟨bx0,bx1,lv0,lv1,gen0,gen1⟩ ops c Q rest (i+1) ((d,a)::f) ph):CC P C n ⟨bx0,bx1,lv0,lv1,gen0,gen1⟩ ops c Q (⟨some d,op,ty,pos,af,none⟩::rest) i f ph:=
 Gb (S:=⟨bx0,bx1,lv0,lv1,gen0,gen1⟩) h1 h0 hi I J b1 hd h
theorem j6 (h0:Pu P C n ⟨bU f (slotsOf op),bx0,lv0,gen0⟩ ⟨some d,op,ty,pos,af,none⟩ a)
 (hi:ops[i]? = some ⟨some d,op,ty,pos,af,none⟩) (I:Nat.beq i c=false) (J:cB .any ops i c=false) (b1:cB .any ops c i=true) (hd:Nat.blt d n=true)
 (h:CC P C n ⟨bx0,bx1,lv0,lv1,gen0,gen1⟩ ops c Q rest (i+1) ((d,a)::f) false):CC P C n ⟨bx0,bx1,lv0,lv1,gen0,gen1⟩ ops c Q (⟨some d,op,ty,pos,af,none⟩::rest) i f false:=
 ES (S:=⟨bx0,bx1,lv0,lv1,gen0,gen1⟩) h0 hi I J b1 hd h
theorem F5 (h1:Pu P C n ⟨bU f (slotsOf op),bx1,lv1,gen1⟩ ⟨some d,op,ty,pos,af,none⟩ a)
 (hi:ops[i]? = some ⟨some d,op,ty,pos,af,none⟩) (I:Nat.beq i c=false) (J:cB .any ops i c=true) (b1:cB .any ops c i=false) (hd:Nat.blt d n=true)
 (h:CC P C n ⟨bx0,bx1,lv0,lv1,gen0,gen1⟩ ops c Q rest (i+1) ((d,a)::f) true):CC P C n ⟨bx0,bx1,lv0,lv1,gen0,gen1⟩ ops c Q (⟨some d,op,ty,pos,af,none⟩::rest) i f true:=
 Fq (S:=⟨bx0,bx1,lv0,lv1,gen0,gen1⟩) h1 hi I J b1 hd h
theorem Eu (I:∀ g,WO P C n ops (fun e st=>e=.normal∧st=⟨(d,a)::(bU f (slotsOf op)++g),bx1,lv1,gen1⟩) [⟨some d,op,ty,pos,af,none⟩] ⟨bU f (slotsOf op)++g,bx0,lv0,gen0⟩)
 (hi:ops[i]? = some ⟨some d,op,ty,pos,af,none⟩) (J:Nat.beq i c=true) (hd:Nat.blt d n=true) (h:CC P C n ⟨bx0,bx1,lv0,lv1,gen0,gen1⟩ ops c Q rest (i+1) ((d,a)::f) true):CC P C n ⟨bx0,bx1,lv0,lv1,gen0,gen1⟩ ops c Q (⟨some d,op,ty,pos,af,none⟩::rest) i f false:=
 GM (S:=⟨bx0,bx1,lv0,lv1,gen0,gen1⟩) I hi J hd h
theorem xN (I:∀ g,WO P C n ops (fun e st=>e=.normal∧st=⟨bU f (slotsOf op)++g,bx1,lv1,gen1⟩) [⟨none,op,ty,pos,af,none⟩] ⟨bU f (slotsOf op)++g,bx0,lv0,gen0⟩)
 (hi:ops[i]? = some ⟨none,op,ty,pos,af,none⟩) (J:Nat.beq i c=true) (h:CC P C n ⟨bx0,bx1,lv0,lv1,gen0,gen1⟩ ops c Q rest (i+1) f true):CC P C n ⟨bx0,bx1,lv0,lv1,gen0,gen1⟩ ops c Q (⟨none,op,ty,pos,af,none⟩::rest) i f false:=
 FT (S:=⟨bx0,bx1,lv0,lv1,gen0,gen1⟩) I hi J h
end
end Go.Ab
namespace Go.Ab
open Go.RowKit
/-! ### whatever the states are: with paths in place of edges -/
section
variable {P:Program} {ops:Array Oper} {md:Region.Mode} {m:Nat} {S E:Type} {Y:Nat→E→S→Prop} {ef:Nat→E→S→S}
def loose (md:Region.Mode) (ops:Array Oper) (i j:Nat):Prop:=da md ops ops.size i j=false∧da md ops ops.size j i=false
theorem y5 {j i:Nat} {I:Oper} {e:Edge} (hj:ops[j]? = some I) (he:e∈I.after) (hb:Region.binds md e=true) (h:e.on=i):cB md ops j i=true:=by unfold cB;rw[hj];exact List.any_eq_true.2 ⟨e,by simpa using he,by simp[hb,h]⟩
theorem uo {j i:Nat} (h:da md ops ops.size j i=false) (hj:j < ops.size):cB md ops j i=false:=by
 cases q:ops.size with
 | zero=>omega
 | succ k=>rw[q] at h;simp only[da,Bool.or_eq_false_iff] at h;exact h.1
theorem pK {i j:Nat} {listed:Array Bool} (N:fq md ops listed) (hi:i∈Region.ready md ops listed) (hj:listed.getD j true=false):da md ops ops.size i j=false:=by
 obtain⟨_,O,J,I⟩:=mem_ready.1 hi
 cases q:da md ops ops.size i j with
 | false=>rfl
 | true=>
   have:=kV N _ i j q fun o M e he hb=>by rw[J] at M;cases M;exact I e he hb
   rw[eF hj] at this;cases this
theorem yb {Q:S→Prop} {i:Nat} {oi:Oper} {e:E} (hw:mX md ops m=true) (ch:i < m) (hi:ops[i]? = some oi) :
 ∀ (fuel:Nat) (listed:Array Bool) (M:S),fq md ops listed →
   (∀ j oj,ops[j]? = some oj→j≠i→j < m→listed.getD j true=false→da md ops ops.size j i=false→oh Y ef i j) →
   i∈Region.ready md ops listed→Y i e M→tg Y ef m md ops Q fuel (listed.setIfInBounds i true) (ef i e M)→tg Y ef m md ops Q (fuel+1) listed M:=by
 have ad:∀ {listed:Array Bool},i∈Region.ready md ops listed→listed.getD i false=false:=fun I=>eF (mem_ready.1 I).1;intro fuel
 induction fuel with
 | zero=>
   intro listed M N _ I Z H;refine⟨fun h=>(by rw[h] at I;cases I),fun j hj=>?_⟩;by_cases hji:j=i;·subst hji;exact⟨e,Z,H⟩
   ·exfalso
    obtain⟨⟨_,h1,h2⟩,_⟩:=H;have a1:=(mem_ready.1 hj).1;by_cases O:j < m
    ·have:=h1 j O
     rw[getD_set_ne false (Ne.symm hji)] at this;rw[eF a1] at this;cases this
    ·have:=nW hw (by omega) (show i < j by omega) N hj
     rw[ad I] at this;cases this
 | succ fuel ih=>
   intro listed M N J I Z H;refine⟨fun h=>(by rw[h] at I;cases I),fun j hj=>?_⟩;by_cases hji:j=i;·subst hji;exact⟨e,Z,H⟩
   ·obtain⟨e',a6,H'⟩:=H.2 j (ready_mono hj hji)
    obtain⟨U,oj,a7,b3⟩:=mem_ready.1 hj;have aj:da md ops ops.size j i=false:=pK N hj (mem_ready.1 I).1;have O:j < m:=by
     rcases Nat.lt_or_ge j m with h | h
     ·exact h
     ·have:=nW hw h (show i < j by omega) N hj
      rw[ad I] at this;cases this
    obtain⟨s1,s2,s3⟩:=J j oj a7 hji O U aj e e' M Z a6;have X:∀ k ok,ops[k]? = some ok→k≠i→k < m→(listed.setIfInBounds j true).getD k true=false→da md ops ops.size k i=false→oh Y ef i k:=fun k ok hk a8 b0 ai b2=>by
     refine J k ok hk a8 b0 ?_ b2;by_cases hjk:j=k;·subst hjk;exact U
     ·rw[getD_set_ne true hjk] at ai;exact ai
    refine⟨e',s1,ih (listed.setIfInBounds j true) _ (N.add hj) X (ready_mono I (Ne.symm hji)) s2 ?_⟩;rw[Array.setIfInBounds_comm _ _ hji,←s3];exact H'
theorem v7 {Q:S→Prop} (hw:mX md ops m=true)
 (U:∀ i j oi J,ops[i]? = some oi→ops[j]? = some J→i≠j→i < m→j < m→oi.apart ops J=true→loose md ops i j→oh Y ef i j) :
 ∀ (l:List Oper) (k:Nat) (listed:Array Bool) (M:S),k+l.length=m→(∀ j,j < l.length→l[j]? = ops[k+j]?)→fq md ops listed →
 listed.size=ops.size→(∀ j,j < k→listed.getD j false=true)→(∀ j,k≤j→j < ops.size→listed.getD j true=false) →
 mZ md ops l.length k listed=true→Al Y ef Q l k M→tg Y ef m md ops Q l.length listed M
 | [],k,listed,M,hk,_,_,hs,h1,h2,_,h=>⟨⟨hs,fun j hj=>h1 j (by simp at hk;omega),fun j hj N=>h2 j (by simp at hk;omega) N⟩,h⟩
 | o::l,k,listed,M,hk,hl,hc,hs,h1,h2,hB,h=>by
   have h0:ops[k]? = some o:=by simpa using (hl 0 (by simp)).symm
   have aj:k < ops.size:=(Array.getElem?_eq_some_iff.1 h0).1;simp only[List.length_cons,mZ,Bool.and_eq_true] at hB;obtain⟨⟨hr,hf⟩,a1⟩:=hB;have O:k∈Region.ready md ops listed:=by simpa using hr
   obtain⟨e,hy,hK⟩:=h;have X:k < m:=by simp at hk;omega
   refine yb hw X h0 l.length listed M hc (fun j J I Z a6 ad ai=>U k j o J h0 I (Ne.symm Z) X a6 (Region.free_spec h0 hf j J I Z ad fun e he hb heq=>?_) ⟨pK hc O ad,ai⟩) O hy
    (v7 hw U l (k+1) _ _ (by simp at hk;omega) (fun j hj=>by have:=hl (j+1) (by simpa using hj);simpa [Nat.add_assoc,Nat.add_comm 1 j] using this) (hc.add O) (by simpa using hs) (fun j hj=>?_) (fun j hj N=>?_) a1 hK)
   ·have h3:=uo ai (Array.getElem?_eq_some_iff.1 I).1
    rw[y5 I he hb heq] at h3;cases h3
   ·rcases Nat.lt_succ_iff_lt_or_eq.1 hj with a7 | rfl
    ·exact getD_set_true (h1 j a7)
    ·simp[hs,aj]
   ·rw[getD_set_ne true (by omega)]
    exact h2 j (by omega) N
end
/-! ### what a renumbering leaves as it is -/
mutual
theorem so {o o':List Nat} (h:∀ g,pos o g=some g→pos o' g=some g):∀ a,bL o a=a→bL o' a=a
 | .own g es,e=>by
   simp only[bL] at e ⊢
   cases q:pos o g with
   | none=>rw[q] at e;cases e
   | some i=>rw[q] at e;simp only[A.own.injEq,and_true] at e;subst e;rw[h _ q]
 | .ptr g off,e=>by
   simp only[bL] at e ⊢
   cases q:pos o g with
   | none=>rw[q] at e;cases e
   | some i=>rw[q] at e;simp only[A.ptr.injEq,and_true] at e;subst e;rw[h _ q]
 | .xs g es,e=>by
   simp only[bL] at e ⊢
   cases q:pos o g with
   | none=>rw[q] at e;cases e
   | some i=>rw[q] at e;simp only[A.xs.injEq,and_true] at e;subst e;rw[h _ q]
 | .xp g i off l,e=>by
   simp only[bL] at e ⊢
   cases q:pos o g with
   | none=>rw[q] at e;cases e
   | some j=>rw[q] at e;simp only[A.xp.injEq,and_true] at e;subst e;rw[h _ q]
 | .mp g es,e=>by
   simp only[bL] at e ⊢
   cases q:pos o g with
   | none=>rw[q] at e;cases e
   | some i=>rw[q] at e;simp only[A.mp.injEq,and_true] at e;subst e;rw[h _ q]
 | .mq g es,e=>by
   simp only[bL] at e ⊢
   cases q:pos o g with
   | none=>rw[q] at e;cases e
   | some i=>rw[q] at e;simp only[A.mq.injEq,and_true] at e;subst e;rw[h _ q]
 | .mo g es hole I,e=>by
   simp only[bL] at e ⊢
   cases q:pos o g with
   | none=>rw[q] at e;cases e
   | some i=>rw[q] at e;simp only[A.mo.injEq,and_true] at e;subst e;rw[h _ q]
 | .lk g n c v,e=>by
   simp only[bL] at e ⊢
   cases q:pos o g with
   | none=>rw[q] at e;cases e
   | some i=>rw[q] at e;simp only[A.lk.injEq,and_true] at e;subst e;rw[h _ q]
 | .ow g es v,e=>by
   simp only[bL] at e ⊢
   cases q:pos o g with
   | none=>rw[q] at e;cases e
   | some i=>rw[q] at e;simp only[A.ow.injEq,and_true] at e;subst e;rw[h _ q]
 | .sb g n c,e=>by
   simp only[bL] at e ⊢
   cases q:pos o g with
   | none=>rw[q] at e;cases e
   | some i=>rw[q] at e;simp only[A.sb.injEq,and_true] at e;subst e;rw[h _ q]
 | .np g T u,e=>by
   simp only[bL] at e ⊢
   cases q:pos o g with
   | none=>rw[q] at e;cases e
   | some i=>rw[q] at e;simp only[A.np.injEq,and_true] at e;subst e;rw[h _ q]
 | .bf g T s,e=>by
   simp only[bL] at e ⊢
   cases q:pos o g with
   | none=>rw[q] at e;cases e
   | some i=>rw[q] at e;simp only[A.bf.injEq,and_true] at e;subst e;rw[h _ q]
 | .agg l,e=>by simp only[bL,A.agg.injEq] at e ⊢;exact jN h l e
 | .tup l,e=>by simp only[bL,A.tup.injEq] at e ⊢;exact jN h l e
 | .row l,e=>by simp only[bL,A.row.injEq] at e ⊢;exact jN h l e
 | .clo f l,e=>by simp only[bL,A.clo.injEq,true_and] at e ⊢;exact jN h l e
 | .bnd f l,e=>by simp only[bL,A.bnd.injEq,true_and] at e ⊢;exact jN h l e
 | .d _,_=>rfl
 | .ag _,_=>rfl
 | .rowd _,_=>rfl
 | .ni,_=>rfl
 | .fl _,_=>rfl
 | .any,_=>rfl
theorem jN {o o':List Nat} (h:∀ g,pos o g=some g→pos o' g=some g):∀ l,fG o l=l→fG o' l=l
 | [],_=>rfl
 | a::l,e=>by simp only[fG,List.cons.injEq] at e ⊢;exact⟨so h a e.1,jN h l e.2⟩
end
def yE (o o':List Nat):Bool:=(List.range o.length).all fun g=>!(pos o g == some g) || pos o' g == some g
theorem x6 {o o':List Nat} (h:yE o o'=true) (g:Nat) (I:pos o g=some g):pos o' g=some g:=by have J:=(List.getElem?_eq_some_iff.1 (ck I)).1;have:=List.all_eq_true.1 h g (List.mem_range.2 J);simp only[I,beq_self_eq_true,Bool.not_true,Bool.false_or,beq_iff_eq] at this;exact this
end Go.Ab
namespace Go.Ab
open Go.RowKit
def sn:D→D
 | .v x=>bif isNil (.d (.v x)) then .sl [] else .v x
 | .sl es=>.sl es
theorem aO.sn {w:World} {pv:Nat→Nat→Prop} {v:Value} {d:D} (h:aO w pv v d):aO w pv v (Ab.sn d):=by
 cases d with
 | v x=>exact h.mf
 | sl es=>exact h
def oN:A→A
 | .d x=>.d (sn x)
 | .ag l=>.ag (l.map sn)
 | a=>a
theorem aD.oN {E:En} {v:Value} {a:A} (h:aD E v a):aD E v (Ab.oN a):=by
 cases a with
 | d x=>cases h with | d hd=>exact .d hd.sn
 | ag l=>
   cases h with
   | ag vs _ hs hd=>refine .ag vs _ (by simpa using hs) (fun i u x hu I=>?_);rw[List.getElem?_map,Option.map_eq_some_iff] at I;obtain⟨y,J,rfl⟩:=I;exact(hd i u y hu J).sn
 | _=>exact h
section
variable {P:Program} {C:Ctx} {n:Nat} {ops:Array Oper} {Q:Exit→St→Prop} {f:List (Nat×A)} {bx:List (Nat×List A)} {lv:List Nat} {gen:Nat}
end
end Go.Ab
namespace Go.Ab
open Go.RowKit
structure iB where
 bxF:Nat→List (Nat×List A)
 bxT:Nat→List (Nat×List A)
 lv:Nat→List Nat
 gen:Nat→Nat
 ord:Nat→List Nat
 g0:Nat
 z:List A
 cs:List Nat
 al:Nat
 R:List PanicEntry→Prop
def iB.bx (S:iB) (k:Nat) (b:Bool):List (Nat×List A):=bif b then S.bxT k else S.bxF k
abbrev BK (dT:List (List (Nat×List A))) (lvs:List (List Nat)) (gens:List Nat) (cs:List Nat) (al:Nat):iB:=⟨fun _=>[],fun k=>dT.getD k [],fun k=>lvs.getD k [],fun k=>gens.getD k 0,fun _=>[],0,[],cs,al,fun _=>False⟩
abbrev yG (dT:List (List (Nat×List A))) (lvs:List (List Nat)) (gens:List Nat) (cs:List Nat) (al:Nat) (v:Value):iB:=⟨fun _=>[],fun k=>dT.getD k [],fun k=>lvs.getD k [],fun k=>gens.getD k 0,fun _=>[],0,[],cs,al,fun c=>c=[{ v:=v,recovered:=false }]⟩
def fI (S:iB) (ops:Array Oper) (i k:Nat) (b:Bool):Bool:=
 ((List.range S.cs.length).all fun j=>bif Nat.blt j k then !da .any ops ops.size (S.cs.getD j 0) i else !da .any ops ops.size i (S.cs.getD j 0)) &&
 (bif b then !da .any ops ops.size S.al i else (Nat.blt S.al ops.size && !da .any ops ops.size i S.al))
theorem Pu.oN {P:Program} {C:Ctx} {n:Nat} {st:St} {o:Oper} {a a':A} (h:Pu P C n st o a) (e:Ab.oN a=a'):Pu P C n st o a':=fun G tmps w hs=>by subst e;exact(h G tmps w hs).mono fun v w' ⟨h1,h2⟩=>⟨h1,h2.oN⟩
theorem ae {S:iB} {ops:Array Oper} {i k:Nat} {b:Bool} (h:fI S ops i k b=true) (I:fI S ops i k b=false):False:=by rw[h] at I;cases I
section
variable {P:Program} (T:bF P) {C:Ctx} {n:Nat} (S:iB) {ops:Array Oper}
abbrev SD:=dK×Nat×Bool
def EX (C:Ctx) (n:Nat) (S:iB) (J:Bool) (I:SD) (act:Act) (w:World):Prop:=
 (J=true→I.2.2=true)∧act.defers=C.ds∧∃ G,eD C n (S.bx I.2.1 I.2.2) (S.lv I.2.1) (S.gen I.2.1) I.1 G act.tmps w∧(I.2.2=false→∀ t a,I.1 t=some a→bL (S.ord I.2.1) a=a)
def FL (P:Program) (C:Ctx) (n:Nat) (S:iB) (ops:Array Oper) (o:Oper) (a:A) (k:Nat) (b:Bool) (I:dK):Prop:=
 o.guard=none∧∃ p,(∀ t x,look p t=some x→I t=some x∧t∈o.looksAt ops) ∧
  ∀ g,WO P C n ops (fun e st=>(e=.normal∧st=St.put ⟨p++g,S.bx (k+1) b,S.lv (k+1),S.gen (k+1)⟩ o.dst a)∨∃ c,e=.panic c∧S.R c) [o] ⟨p++g,S.bx k b,S.lv k,S.gen k⟩
def YD (P:Program) (T:bF P) (C:Ctx) (n:Nat) (S:iB) (ops:Array Oper) (i:Nat) (a:A) (I:SD):Prop:=
 ∃ o,ops[i]? = some o∧eV n o.dst=true∧I.2.1≤S.cs.length∧fI S ops i I.2.1 I.2.2=true ∧
   ((S.cs[I.2.1]? = some i∧i≠S.al∧(∀ b,fI S ops i I.2.1 b=true→FL P C n S ops o a I.2.1 b I.1)∧(fI S ops i I.2.1 false=true→bL (S.ord (I.2.1+1)) a=a)) ∨
    (i∉S.cs∧i=S.al∧I.2.2=false∧o.guard=none∧a=.ptr S.g0 0∧∃ e d J,o.op=.alloc e∧o.dst=some d∧ah T.l e=some J∧S.z=J.z.map fun v=>A.d (.v v)) ∨
    (i∉S.cs∧i≠S.al∧∀ k b,k≤S.cs.length→fI S ops i k b=true→YA P C n (S.bx k b) (S.lv k) (S.gen k) ops o a I.1∧(b=false→bL (S.ord k) a=a)))
def wT (S:iB) (ops:Array Oper) (i:Nat) (a:A) (I:SD):SD:=
 match ops[i]? with
 | none=>I
 | some o=>(bQ I.1 o.dst a,(if S.cs[I.2.1]? = some i then I.2.1+1 else I.2.1),if i=S.al then true else I.2.2)
variable {T} {S}
theorem pn {o:Oper} {a:A} {k:Nat} {b:Bool} {J:dK} {dst:Option Nat} {x:A} (hd:∀ d,dst=some d→d∉o.looksAt ops):FL P C n S ops o a k b (bQ J dst x)↔FL P C n S ops o a k b J:=by
 constructor
 ·rintro⟨h0,p,h1,h2⟩
  exact⟨h0,p,fun t y I=>⟨(fP hd (h1 t y I).2).symm.trans (h1 t y I).1,(h1 t y I).2⟩,h2⟩
 ·rintro⟨h0,p,h1,h2⟩
  exact⟨h0,p,fun t y I=>⟨(fP hd (h1 t y I).2).trans (h1 t y I).1,(h1 t y I).2⟩,h2⟩
theorem uJ {i k c:Nat} {b:Bool} (h:S.cs[k]? = some c) (hl:loose .any ops i c):fI S ops i (k+1) b=fI S ops i k b:=by
 unfold fI;congr 1;rw[Bool.eq_iff_iff,List.all_eq_true,List.all_eq_true];have I:S.cs.getD k 0=c:=by simp[List.getD_eq_getElem?_getD,h]
 have key:∀ j,(bif Nat.blt j (k+1) then !da .any ops ops.size (S.cs.getD j 0) i else !da .any ops ops.size i (S.cs.getD j 0))=(bif Nat.blt j k then !da .any ops ops.size (S.cs.getD j 0) i else !da .any ops ops.size i (S.cs.getD j 0)):=fun j=>by
  rcases Nat.lt_trichotomy j k with hj | rfl | hj
  ·have h1:Nat.blt j (k+1)=true:=by simp[Nat.blt_eq];omega
   have h2:Nat.blt j k=true:=by simp[Nat.blt_eq];omega
   rw[h1,h2]
  ·have h1:Nat.blt j (j+1)=true:=by simp[Nat.blt_eq]
   have h2:Nat.blt j j=false:=by cases q:Nat.blt j j with | false=>rfl | true=>simp[Nat.blt_eq] at q
   rw[h1,h2,I,hl.1,hl.2];rfl
  ·have h1:Nat.blt j (k+1)=false:=by cases q:Nat.blt j (k+1) with | false=>rfl | true=>simp[Nat.blt_eq] at q;omega
   have h2:Nat.blt j k=false:=by cases q:Nat.blt j k with | false=>rfl | true=>simp[Nat.blt_eq] at q;omega
   rw[h1,h2]
 exact⟨fun h j hj=>by rw[←key];exact h j hj,fun h j hj=>by rw[key];exact h j hj⟩
theorem ri {i k:Nat} (I:S.al < ops.size) (hl:loose .any ops i S.al):fI S ops i k true=fI S ops i k false:=by
 unfold fI;have h:Nat.blt S.al ops.size=true:=by rw[Nat.blt_eq];exact I
 rw[hl.1,hl.2,h];rfl
theorem loose.symm {md:Region.Mode} {i j:Nat} (h:loose md ops i j):loose md ops j i:=⟨h.2,h.1⟩
theorem iF {i:Nat} {o:Oper} (h:ops[i]? = some o) (a:A) (I:SD):wT S ops i a I=(bQ I.1 o.dst a,(if S.cs[I.2.1]? = some i then I.2.1+1 else I.2.1),if i=S.al then true else I.2.2):=by unfold wT;rw[h]
theorem uQ {i k c:Nat} {b:Bool} (h:S.cs[k]? = some c) (hl:loose .any ops i c) (I:fI S ops i (k+1) b=true):fI S ops i k b=true:=by rw[←uJ h hl];exact I
theorem vI {i k c:Nat} {b:Bool} (h:S.cs[k]? = some c) (hl:loose .any ops i c) (I:fI S ops i k b=true):fI S ops i (k+1) b=true:=by rw[uJ h hl];exact I
theorem F8 (c1:∀ k c c',S.cs[k]? = some c→S.cs[k+1]? = some c'→da .any ops ops.size c' c=true) {i j:Nat} {oi oj:Oper} (hi:ops[i]? = some oi) (hj:ops[j]? = some oj) (c6:i≠j) (c7:oi.apart ops oj=true) (hl:loose .any ops i j) :
 oh (YD P T C n S ops) (wT S ops) i j:=by
 obtain⟨a1,a2,a3⟩:=Oper.apart_spec c7;rintro a b ⟨φ,k,ph⟩ ⟨df,b3,di,X,ai,ch⟩ ⟨dt,cl,dj,a8,aj,ad⟩;rw[hi] at b3;cases b3;rw[hj] at cl;cases cl;have O:bQ (bQ φ oi.dst a) oj.dst b=bQ (bQ φ oj.dst b) oi.dst a:=lV φ a b a2;have mem_of:∀ {k c:Nat},S.cs[k]? = some c→c∈S.cs:=fun h=>List.mem_of_getElem? h;have cq:∀ {k c:Nat},S.cs[k]? = some c→k+1≤S.cs.length:=fun h=>(List.getElem?_eq_some_iff.1 h).1;rw[iF hi] at aj ad a8;simp only[iF hi,iF hj];simp only at X ai ch a8 aj ad;rcases ch with ⟨ci,M,xi,fi⟩ | ⟨U,a6,rfl,gi,ei,cx⟩ | ⟨U,M,yi⟩
 ·
  simp only[if_pos ci,if_neg M] at aj ad a8;rcases ad with ⟨Z,_⟩ | ⟨J,N,rfl,gj,ej,b0⟩ | ⟨J,I,yj⟩
  ·exact absurd (c1 k i j ci Z) (by rw[hl.2];simp)
  ·have b2:loose .any ops i S.al:=by rw[←N];exact hl
   have a7:S.al < ops.size:=by rw[←N];exact(Array.getElem?_eq_some_iff.1 hj).1
   have n1:¬ S.cs[k]? = some j:=fun h=>J (mem_of h);refine⟨⟨oj,hj,dj,X,uQ ci hl.symm aj,.inr (.inl ⟨J,N,rfl,gj,ej,b0⟩)⟩,?_,?_⟩
   ·refine⟨oi,hi,di,?_,?_,.inl ⟨?_,M,fun b hb=>(pn a3).2 ?_,?_⟩⟩
    all_goals simp only[if_neg n1]
    ·exact X
    ·rw[if_pos N,ri a7 b2];exact ai
    ·exact ci
    ·simp only[if_neg n1] at hb
     exact xi b hb
    ·exact fi
   ·simp only[if_pos ci,if_neg M,if_pos N,if_neg n1,O]
    have n2:¬ S.cs[k+1]? = some j:=fun h=>J (mem_of h);rw[if_neg n2]
  ·have n1:¬ S.cs[k]? = some j:=fun h=>J (mem_of h)
   have n2:¬ S.cs[k+1]? = some j:=fun h=>J (mem_of h);refine⟨⟨oj,hj,dj,X,uQ ci hl.symm aj,.inr (.inr ⟨J,I,fun k b h1 h2=>⟨(eC a1).1 (yj k b h1 h2).1,(yj k b h1 h2).2⟩⟩)⟩,?_,?_⟩
   ·refine⟨oi,hi,di,?_,?_,.inl ⟨?_,M,fun b hb=>(pn a3).2 ?_,?_⟩⟩
    all_goals simp only[if_neg n1]
    ·exact X
    ·rw[if_neg I];exact ai
    ·exact ci
    ·simp only[if_neg n1] at hb
     exact xi b hb
    ·exact fi
   ·simp only[if_pos ci,if_neg M,if_neg I,if_neg n1,if_neg n2,O]
 ·
  have n1:¬ S.cs[k]? = some i:=fun h=>U (mem_of h);simp only[if_neg n1,if_pos a6] at aj ad a8;have cy:loose .any ops j S.al:=by rw[←a6];exact hl.symm
  have a7:S.al < ops.size:=by rw[←a6];exact(Array.getElem?_eq_some_iff.1 hi).1
  rcases ad with ⟨Z,I,xj,fj⟩ | ⟨_,N,h,_⟩ | ⟨J,I,yj⟩
  ·have n2:¬ S.cs[k+1]? = some i:=fun h=>U (mem_of h)
   refine⟨⟨oj,hj,dj,X,by rw[←ri a7 cy];exact aj,.inl ⟨Z,I,fun b hb=>(pn a1).1 (xj b hb),fj⟩⟩,?_,?_⟩
   ·refine⟨oi,hi,di,?_,?_,.inr (.inl ⟨U,a6,?_,gi,ei,cx⟩)⟩
    all_goals simp only[if_pos Z,if_neg I]
    ·exact cq Z
    ·exact vI Z hl ai
   ·simp only[if_neg n1,if_pos a6,if_pos Z,if_neg I,if_neg n2,O]
  ·exact absurd (a6.trans N.symm) c6
  ·have n3:¬ S.cs[k]? = some j:=fun h=>J (mem_of h)
   refine⟨⟨oj,hj,dj,X,by rw[←ri a7 cy];exact aj,.inr (.inr ⟨J,I,fun k b h1 h2=>⟨(eC a1).1 (yj k b h1 h2).1,(yj k b h1 h2).2⟩⟩)⟩,?_,?_⟩
   ·refine⟨oi,hi,di,?_,?_,.inr (.inl ⟨U,a6,?_,gi,ei,cx⟩)⟩
    all_goals simp only[if_neg n3,if_neg I]
    ·exact X
    ·exact ai
   ·simp only[if_neg n1,if_pos a6,if_neg n3,if_neg I,O]
 ·
  have n1:¬ S.cs[k]? = some i:=fun h=>U (mem_of h);simp only[if_neg n1,if_neg M] at aj ad a8;rcases ad with ⟨Z,I,xj,fj⟩ | ⟨J,N,rfl,gj,ej,b0⟩ | ⟨J,I,yj⟩
  ·have n2:¬ S.cs[k+1]? = some i:=fun h=>U (mem_of h)
   refine⟨⟨oj,hj,dj,X,aj,.inl ⟨Z,I,fun b hb=>(pn a1).1 (xj b hb),fj⟩⟩,?_,?_⟩
   ·refine⟨oi,hi,di,?_,?_,.inr (.inr ⟨U,M,fun k b h1 h2=>⟨(eC a3).2 (yi k b h1 h2).1,(yi k b h1 h2).2⟩⟩)⟩
    all_goals simp only[if_pos Z,if_neg I]
    ·exact cq Z
    ·exact vI Z hl ai
   ·simp only[if_neg n1,if_neg M,if_pos Z,if_neg I,if_neg n2,O]
  ·have n3:¬ S.cs[k]? = some j:=fun h=>J (mem_of h)
   have b2:loose .any ops i S.al:=by rw[←N];exact hl
   have a7:S.al < ops.size:=by rw[←N];exact(Array.getElem?_eq_some_iff.1 hj).1
   refine⟨⟨oj,hj,dj,X,aj,.inr (.inl ⟨J,N,rfl,gj,ej,b0⟩)⟩,?_,?_⟩
   ·refine⟨oi,hi,di,?_,?_,.inr (.inr ⟨U,M,fun k b h1 h2=>⟨(eC a3).2 (yi k b h1 h2).1,(yi k b h1 h2).2⟩⟩)⟩
    all_goals simp only[if_neg n3,if_pos N]
    ·exact X
    ·rw[ri a7 b2];exact ai
   ·simp only[if_neg n1,if_neg M,if_neg n3,if_pos N,O]
  ·have n3:¬ S.cs[k]? = some j:=fun h=>J (mem_of h)
   refine⟨⟨oj,hj,dj,X,aj,.inr (.inr ⟨J,I,fun k b h1 h2=>⟨(eC a1).1 (yj k b h1 h2).1,(yj k b h1 h2).2⟩⟩)⟩,?_,?_⟩
   ·refine⟨oi,hi,di,?_,?_,.inr (.inr ⟨U,M,fun k b h1 h2=>⟨(eC a3).2 (yi k b h1 h2).1,(yi k b h1 h2).2⟩⟩)⟩
    all_goals simp only[if_neg n3,if_neg I]
    ·exact X
    ·exact ai
   ·simp only[if_neg n1,if_neg M,if_neg n3,if_neg I,O]
theorem WO.xK {o:Oper} (U:o.guard=none) {st:St} {I J:Exit→St→Prop} (hl:∀ e st,I e st→e≠.outgrown) (M:∀ e st,I e st→J e st) (h:WO P C n ops I [o] st):WO P C n ops J [o] st:=by
 intro tmps w hs;have hw:Region.wanted o (yielded ops tmps)=true:=by simp[Region.wanted,U]
 have h:=h tmps w hs;simp only[dX,hw,if_true] at h ⊢;refine Oper.tw (fun c a w ⟨h1,st',h2,h3⟩=>⟨h1,st',h2,M _ _ h3⟩) (fun N=>by obtain⟨_,_,O⟩:=N;obtain⟨_,st',_,he⟩:=O;exact hl _ _ he rfl) (fun X Z ⟨h1,st',h2,h3⟩=>⟨h1,st',h2,M _ _ h3⟩) h
theorem WO.E3 {o:Oper} (X:o.guard=none) {st J:St} {G:Gh} {tmps:Array Value} {w:World} {R:List PanicEntry→Prop} {Q':Exit→Act→World→Prop} (Z:∀ c act w,R c→act.defers=C.ds→(∃ st,eI C n st act.tmps w)→Q' (.panic c) act w) (h:WO P C n ops (fun e st=>(e=.normal∧st=J)∨∃ c,e=.panic c∧R c) [o] st) (hs:ax C n st G tmps w) :
 o.wp P ⟨tmps,C.ds⟩ w (fun act w=>act.defers=C.ds∧∃ G,ax C n J G act.tmps w) Q':=by
 have hw:Region.wanted o (yielded ops tmps)=true:=by simp[Region.wanted,X]
 have h:=h tmps w ⟨G,hs⟩;simp only[dX,hw,if_true] at h;refine Oper.tw (fun c a w I=>?_) (fun hl=>?_) (fun ad w2 I=>?_) h
 ·obtain⟨h1,st',h2,he | ⟨N,he,M⟩⟩:=I
  ·cases he.1
  ·cases he
   exact Z c a w M h1 ⟨st',h2⟩
 ·obtain⟨_,_,I⟩:=hl
  obtain⟨_,st',_,he | ⟨N,he,M⟩⟩:=I;·cases he.1
  ·cases he
 ·obtain⟨O,st',⟨G',U⟩,he | ⟨N,he,M⟩⟩:=I
  ·obtain⟨_,rfl⟩:=he
   exact⟨O,G',U⟩
  ·cases he
theorem xq {bx:List (Nat×List A)} {lv:List Nat} {gen:Nat} {I:dK} {G:Gh} {tmps:Array Value} {w:World} (hs:eD C n bx lv gen I G tmps w) (t:Nat) (x:A) (J:I t=some x):t < n:=by obtain⟨v,h1,_⟩:=hs.2 t x J;have:=(Array.getElem?_eq_some_iff.1 h1).1;rw[hs.1.size] at this;exact this
theorem vC {I:dK} {p:List (Nat×A)} (J:∀ t x,I t=some x→t < n) (hp:∀ t x,look p t=some x→I t=some x) (t:Nat):look (p++fa n I) t=I t:=by
 rw[qd]
 cases q:look p t with
 | some x=>exact(hp t x q).symm
 | none=>
   simp only;unfold fa;rw[lS]
   cases e:I t with
   | none=>split <;> rfl
   | some x=>rw[if_pos (List.mem_range.2 (J t x e))]
theorem tN {I:dK} {f:List (Nat×A)} (h:∀ t,look f t=I t) {d:Nat} {a:A} {t:Nat}:look ((d,a)::f) t=bQ I (some d) a t:=by
 rw[aU];simp only[bQ];by_cases e:t=d
 ·subst e
  rw[if_pos rfl,if_pos rfl]
 ·rw[if_neg e,if_neg (Ne.symm e),h]
def Cy (S:iB) (I k:Nat):Prop:=(jn (S.ord k) (S.gen k) I=true∧pos (S.ord k) (S.gen k)=some S.g0)∧iM (S.ord k) ((S.gen k,S.z)::S.bxF k) (S.bxT k)∧pI (S.ord k) (S.lv k) (S.lv k)=true
def rA (S:iB) (I:Nat):Nat→Prop
 | 0=>Cy S I 0
 | k+1=>Cy S I (k+1)∧yE (S.ord k) (S.ord (k+1))=true∧rA S I k
theorem rA.at {I:Nat}:∀ {m:Nat},rA S I m→∀ k,k≤m→Cy S I k
 | 0,h,k,J=>by
   obtain rfl:k=0:=by omega
   exact h
 | m+1,h,k,J=>by
   rcases Nat.lt_or_ge k (m+1) with M | N
   ·exact rA.at h.2.2 k (by omega)
   ·obtain rfl:k=m+1:=by omega
    exact h.1
theorem rA.mono {M:Nat}:∀ {m:Nat},rA S M m→∀ k,k < m→yE (S.ord k) (S.ord (k+1))=true
 | 0,_,k,I=>absurd I (Nat.not_lt_zero _)
 | m+1,h,k,I=>by
   rcases Nat.lt_or_ge k m with J | N
   ·exact rA.mono h.2.2 k J
   ·obtain rfl:k=m:=by omega
    exact h.2.1
theorem E7 {nb:Nat} [hnb:NB C nb] (b0:Bool) (hok:b0=false→rA S nb S.cs.length) (i:Nat) (a:A) (σ:SD) (act:Act) (w:World) (K:Act→World→Prop) {Q':Exit→Act→World→Prop} (hR:∀ c act w,S.R c→act.defers=C.ds→(∃ st,eI C n st act.tmps w)→Q' (.panic c) act w) (hs:EX C n S b0 σ act w) (hy:YD P T C n S ops i a σ) (hK:∀ act w,EX C n S b0 (wT S ops i a σ) act w→K act w):wpOp P ops Q' i K act w:=by
 obtain⟨tmps,dj⟩:=act;obtain⟨ad,rfl,G,hs,X⟩:=hs;obtain⟨O,k,ph⟩:=σ;obtain⟨o,ho,hd,a1,ai,hy⟩:=hy;rw[iF ho] at hK;simp only at hs X a1 ai hy hK ad;unfold wpOp;simp only[ho];rcases hy with ⟨hc,a6,I,hr⟩ | ⟨nc,cj,rfl,hg,rfl,e,d,dt,cq,J,he,hz⟩ | ⟨nc,a6,a7⟩
 ·obtain⟨hg,p,hp,I⟩:=I ph ai
  rw[if_pos hc,if_neg a6] at hK;have hw:Region.wanted o (yielded ops tmps)=true:=by simp[Region.wanted,hg]
  rw[hw,if_pos rfl];refine .inl ?_;have M:=vC (xq hs) (fun t x I=>(hp t x I).1);have a8:=hs.kW (f:=p++fa n O) fun t x I=>by rw[←M];exact I
  refine Oper.wp_mono (fun Z w2 ⟨b2,G',U⟩=>hK Z w2 ⟨ad,b2,G',?_,fun N t x I=>?_⟩) (WO.E3 hg hR (I (fa n O)) a8)
  ·show eD C n (S.bx (k+1) ph) (S.lv (k+1)) (S.gen (k+1)) (bQ O o.dst a) G' Z.tmps w2
   cases J:o.dst with
   | none=>rw[J] at U;refine⟨{ U with frame:=fun t a ha=>by simp[look] at ha },fun t x I=>U.frame t x ?_⟩;show look (p++fa n O) t=some x;rw[M];exact I
   | some d=>rw[J] at U;refine⟨{ U with frame:=fun t a ha=>by simp[look] at ha },fun t x I=>U.frame t x ?_⟩;show look ((d,a)::(p++fa n O)) t=some x;rw[tN M];exact I
  ·simp only at N I
   have b3:b0=false:=by cases b0 with | false=>rfl | true=>rw[ad rfl] at N;cases N
   have hm:=x6 ((hok b3).mono k (List.getElem?_eq_some_iff.1 hc).1)
   cases J:o.dst with
   | none=>rw[J] at I;exact so hm x (X N t x I)
   | some d=>
     rw[J] at I;simp only[bQ] at I;split at I;·cases I;exact hr (by rw[←N];exact ai)
     ·exact so hm x (X N t x I)
 ·have ch:¬ S.cs[k]? = some i:=fun h=>nc (List.mem_of_getElem? h)
  rw[if_neg ch,if_pos cj] at hK;have hw:Region.wanted o (yielded ops tmps)=true:=by simp[Region.wanted,hg]
  rw[hw,if_pos rfl];refine .inl ?_;have b3:b0=false:=by cases b0 with | false=>rfl | true=>cases ad rfl
  obtain⟨⟨hO,cl⟩,cx,cy⟩:=(hok b3).at k a1;have M:∀ t,look (fa n O) t=O t:=vC (p:=[]) (xq hs) (fun t x I=>by simp[look] at I);have a8:=hs.kW (f:=fa n O) fun t x I=>by rw[←M];exact I
  have c1:WO P C n ops (fun e st=>(e=.normal∧st=St.put ⟨fa n O,(S.gen k,S.z)::S.bx k false,S.lv k,S.gen k+1⟩ o.dst (.ptr (S.gen k) 0))∨∃ c,e=.panic c∧False) [o] ⟨fa n O,S.bx k false,S.lv k,S.gen k⟩:=
   WO.alloc T hg hd cq he (WO.nil (.inl ⟨rfl,by rw[hz]⟩))
  refine Oper.wp_mono (fun Z w2 ⟨b2,G',U⟩=>hK Z w2 ⟨fun _=>rfl,b2,l6 (S.ord k) G',?_,fun h=>by cases h⟩) (WO.E3 (R:=fun _=>False) hg (fun _ _ _ h=>h.elim) c1 a8);simp only[jn,Bool.and_eq_true] at hO;obtain⟨⟨c6,c7⟩,df⟩:=hO;rw[J] at U ⊢;have h3:ax C n ⟨(d,.ptr S.g0 0)::fa n O,S.bxT k,S.lv k,S.gen k⟩ (l6 (S.ord k) G') Z.tmps w2:=by
   refine ax.bL (gen':=S.gen k) U (S.ord k) (dQ c6) (Nat.le_of_ble_eq_true c7) (fun i hi=>?_) (fun t x I=>?_) (fun i l' di=>?_) (fun i hi=>?_)
   ·have h4:=oH df i (by rw[←hnb.h];exact hi)
    simpa using h4
   ·rw[aU] at I
    show ∃ a,look ((d,.ptr (S.gen k) 0)::fa n O) t=some a∧bL (S.ord k) a=x;rw[aU];split at I
    ·rename_i e
     rw[if_pos e];cases I;exact⟨_,rfl,by simp only[bL,cl]⟩
    ·rename_i e
     rw[if_neg e];rw[M] at I ⊢;exact⟨x,I,X rfl t x I⟩
   ·exact iM.le cx i l' di
   ·exact sw cy i hi
  refine⟨{ h3 with frame:=fun t a ha=>by simp[look] at ha },fun t x I=>h3.frame t x ?_⟩;show look ((d,_)::fa n O) t=some x;rw[tN M];exact I
 ·have ch:¬ S.cs[k]? = some i:=fun h=>nc (List.mem_of_getElem? h)
  rw[if_neg ch,if_neg a6] at hK;obtain⟨a7,hr⟩:=a7 k ph a1 ai;have aj:ph=false→∀ t x,bQ O o.dst a t=some x→bL (S.ord k) x=x:=fun N t x I=>by
   cases J:o.dst with
   | none=>rw[J] at I;exact X N t x I
   | some d=>
     rw[J] at I;simp only[bQ] at I;split at I;·cases I;exact hr N
     ·exact X N t x I
  obtain⟨_,⟨hw,f,hf,hp⟩ | ⟨hw,rfl⟩⟩:=a7
  ·rw[gm hs hw]
   simp only[if_true];refine .inl ?_;have hg:cZ P o ⟨tmps,[]⟩ w fun v w'=>Below w.heap.size w w'∧aD (aA C G (S.gen k) w') v a:=hp G tmps w (hs.kW fun t x I=>(hf t x I).1);refine hg.ds.wp fun v w' ⟨hb,hr⟩=>?_;rw[Act.gI];exact hK _ _ ⟨ad,rfl,G,hs.step hb hd hr,aj⟩
  ·rw[gm hs hw]
   simp only[Bool.false_eq_true,if_false];rw[Act.gI];exact hK _ _ ⟨ad,rfl,G,hs.step (Below.refl _ _) hd (.tup #[] [] rfl (by simp)),aj⟩
def CD (P:Program) (T:bF P) (C:Ctx) (n:Nat) (S:iB) (ops:Array Oper) (Q:St→Prop) (l:List Oper) (i:Nat) (f:List (Nat×A)) (k:Nat) (b:Bool):Prop:=
 Al (YD P T C n S ops) (wT S ops) (fun I=>∃ f',(∀ t,look f' t=I.1 t)∧I.2=(S.cs.length,true)∧Q ⟨f',S.bxT S.cs.length,S.lv S.cs.length,S.gen S.cs.length⟩) l i (look f,k,b)
def js (ops:Array Oper):List Nat→Bool
 | c::I::r=>da .any ops ops.size I c && js ops (I::r)
 | _=>true
theorem pW {ops:Array Oper}:∀ {cs:List Nat},js ops cs=true→∀ k c I,cs[k]? = some c→cs[k+1]? = some I→da .any ops ops.size I c=true
 | [],_,k,c,I,h,_=>by simp at h
 | [_],_,k,c,I,_,h=>by simp at h
 | x::y::r,h,k,c,I,h1,h2=>by
   simp only[js,Bool.and_eq_true] at h
   cases k with
   | zero=>simp at h1 h2;subst h1;subst h2;exact h.1
   | succ k=>exact pW h.2 k c I (by simpa using h1) (by simpa using h2)
def rC (o:List Nat):List (Nat×A)→Prop
 | []=>True
 | (_,a)::r=>bL o a=a∧rC o r
theorem rC.at {o:List Nat}:∀ {f:List (Nat×A)},rC o f→∀ t a,look f t=some a→bL o a=a
 | [],_,t,a,h=>by simp[look] at h
 | (s,x)::r,hf,t,a,h=>by
   rw[aU] at h;split at h;·cases h;exact hf.1
   ·exact hf.2.at t a h
theorem W.mn (T:bF P) {nb:Nat} [hnb:NB C nb] {id:Nat} {l l1 l2:List Oper} {f:List (Nat×A)} {bx:List (Nat×List A)} {lv:List Nat} {gen:Nat} {Q:Exit→St→Prop} (S:iB) (I:Bool) (m:Nat) (hB:fM m l.toArray=true) (ad:js l.toArray S.cs=true) (h1:l.take m=l1) (h2:l.drop m=l2)
 (hR:∀ c st,S.R c→Q (.panic c) st) (hok:I=false→rA S nb S.cs.length∧rC (S.ord 0) f) (e1:∀ g c,ah (S.bx 0 I) g=some c→ah bx g=some c) (e2:S.lv 0=lv) (e3:Nat.ble gen (S.gen 0)=true)
 (h:CD P T C n S l.toArray (WO P C n l.toArray Q l2) l1 0 f 0 I):W P C n (.region id l.toArray true) Q ⟨f,bx,lv,gen⟩:=by
 subst h1;subst h2;subst e2;intro tmps w ⟨G,hs⟩;have hs:ax C n ⟨f,bx,S.lv 0,S.gen 0⟩ G tmps w:=ax.later hs (g:=S.gen 0) (Nat.le_of_ble_eq_true e3);have hs:ax C n ⟨f,S.bx 0 I,S.lv 0,S.gen 0⟩ G tmps w:={ hs with box:=fun g c J=>hs.box g c (e1 g c J) };simp only[fM,Bool.and_eq_true] at hB;obtain⟨⟨⟨hm,hw⟩,U⟩,M⟩:=hB;have hm:m≤l.length:=by simpa using Nat.le_of_ble_eq_true hm
 have hb:Below w.heap.size w { w with drawn:=w.drawn+1 }:=(Below.refl _ w).drew;have ai:eD C n (S.bx 0 I) (S.lv 0) (S.gen 0) (look f) G tmps { w with drawn:=w.drawn+1 }:=eD.zn (hs.gK hb).2;have hlen:(l.take m).length=m:=by simp;omega
 refine wp_region_any T.mixed ?_;have X:l.toArray.size=(l.take m).length+(l.drop m).length:=by simp;omega
 rw[X];have Z:fq .any l.toArray (Array.replicate ((l.take m).length+(l.drop m).length) false):=fun j oj _ hl _ _ _=>by
  by_cases q:j < (l.take m).length+(l.drop m).length
  ·simp only[Array.getD_eq_getD_getElem?,Array.getElem?_replicate] at hl
   rw[if_pos q] at hl;cases hl
  ·simp only[Array.getD_eq_getD_getElem?,Array.getElem?_replicate] at hl
   rw[if_neg q] at hl;cases hl
 refine ng (m:=m) (Sm:=EX C n S I) (Y:=YD P T C n S l.toArray) (ef:=wT S l.toArray) (Q:=fun N=>∃ f',(∀ t,look f' t=N.1 t)∧N.2=(S.cs.length,true)∧WO P C n l.toArray Q (l.drop m) ⟨f',S.bxT S.cs.length,S.lv S.cs.length,S.gen S.cs.length⟩)
  (fun i e N act w K hs hy hk=>E7 I (fun h=>(hok h).1) i e N act w K (fun c act w J hd ⟨st,hs⟩=>⟨hd,st,hs,hR c st J⟩) hs hy hk) (fun listed N act w hs J O ⟨f',e1,e2,hq⟩=>?_) _ _ (look f,0,I) ⟨tmps,C.ds⟩ _ ⟨fun h=>h,rfl,G,ai,fun h=>(hok h).2.at⟩ Z ?_
 ·obtain⟨tmps,a8⟩:=act
  obtain⟨_,rfl,G,hs,_⟩:=hs;rw[e2] at hs;refine mc hw (nI U) (l.drop m) m listed ⟨tmps,C.ds⟩ w (Nat.le_refl _) (by simp;omega) (fun j=>by simp[List.getElem?_drop]) J O.1 O.2.1 O.2.2 ?_;exact hq tmps w ⟨G,hs.kW (fun t a ha=>by rw[←e1];exact ha)⟩
 ·refine v7 hw (fun i j oi oj hi hj aj b2 b3 a1 a6=>F8 (pW ad) hi hj aj a1 a6) (l.take m) 0 _ _ (by rw[hlen];omega) (fun j hj=>?_) Z (by simp;omega) (fun j hj=>by omega) (fun j _ hj=>?_) (by rw[hlen];rw[X,hlen] at M;exact M) h
  ·rw[hlen] at hj
   rw[Nat.zero_add];simp[List.getElem?_take,hj]
  ·have a7:j < l.length:=by simpa using hj
   have e:min m l.length+(l.length - m)=l.length:=by omega
   simp[e,a7]
variable {op:Op} {ty:TypeId} {pos:String} {af:Array Edge} {a:A} {d i k:Nat} {rest:List Oper} {f:List (Nat×A)} {Q:St→Prop} {b:Bool}
theorem CD.nil (h:Q ⟨f,S.bxT S.cs.length,S.lv S.cs.length,S.gen S.cs.length⟩) (I:Nat.beq k S.cs.length=true):CD P T C n S ops Q [] i f k true:=by have:=Nat.eq_of_beq_eq_true I;subst this;exact⟨f,fun _=>rfl,rfl,h⟩
def wi (p:Nat→Bool→Prop):Nat→Prop
 | 0=>p 0 false∧p 0 true
 | k+1=>p (k+1) false∧p (k+1) true∧wi p k
theorem wi.at {p:Nat→Bool→Prop}:∀ {m:Nat},wi p m→∀ k b,k≤m→p k b
 | 0,h,k,b,I=>by
   obtain rfl:k=0:=by omega
   cases b;·exact h.1
   ·exact h.2
 | m+1,h,k,b,I=>by
   rcases Nat.lt_or_ge k (m+1) with J | M
   ·exact h.2.2.at k b (by omega)
   ·obtain rfl:k=m+1:=by omega
    cases b;·exact h.1
    ·exact h.2.1
def vP (x:Nat) (l:List Nat):Bool:=l.any fun y=>Nat.beq x y
theorem vr {x:Nat} {l:List Nat} (h:vP x l=false):x∉l:=fun hm=>by have:vP x l=true:=List.any_eq_true.2 ⟨x,hm,by simp⟩;rw[h] at this;cases this
theorem r8 (hp:wi (fun k b=>fI S ops i k b=true→Pu P C n ⟨bU f (slotsOf op),S.bx k b,S.lv k,S.gen k⟩ ⟨some d,op,ty,pos,af,none⟩ a∧(b=false→bL (S.ord k) a=a)) S.cs.length)
 (hi:ops[i]? = some ⟨some d,op,ty,pos,af,none⟩) (h1:vP i S.cs=false) (h2:Nat.beq i S.al=false) (h3:(Nat.ble k S.cs.length && fI S ops i k b)=true) (hd:Nat.blt d n=true)
 (h:CD P T C n S ops Q rest (i+1) ((d,a)::f) k b):CD P T C n S ops Q (⟨some d,op,ty,pos,af,none⟩::rest) i f k b:=by
 simp only[Bool.and_eq_true] at h3;have I:=vr h1;have J:i≠S.al:=fun e=>by subst e;simp at h2
 refine⟨a,⟨_,hi,hd,Nat.le_of_ble_eq_true h3.1,h3.2,.inr (.inr ⟨I,J,fun k b M N=>⟨YA.qX (hp.at k b M N).1 hd,(hp.at k b M N).2⟩⟩)⟩,?_⟩;rw[iF hi];simp only[if_neg J,if_neg (fun e=>I (List.mem_of_getElem? e):¬ S.cs[k]? = some i)];unfold CD at h;rw[eh] at h;exact h
theorem bb (h0:Pu P C n ⟨bU f (slotsOf op),S.bx k b,S.lv k,S.gen k⟩ ⟨some d,op,ty,pos,af,none⟩ a) (hp:wi (fun k b=>fI S ops i k b=true→Pu P C n ⟨bU f (slotsOf op),S.bx k b,S.lv k,S.gen k⟩ ⟨some d,op,ty,pos,af,none⟩ a∧(b=false→bL (S.ord k) a=a)) S.cs.length)
 (hi:ops[i]? = some ⟨some d,op,ty,pos,af,none⟩) (h1:vP i S.cs=false) (h2:Nat.beq i S.al=false) (h3:(Nat.ble k S.cs.length && fI S ops i k b)=true) (hd:Nat.blt d n=true)
 (h:CD P T C n S ops Q rest (i+1) ((d,a)::f) k b):CD P T C n S ops Q (⟨some d,op,ty,pos,af,none⟩::rest) i f k b:=r8 hp hi h1 h2 h3 hd h
theorem Et (I:∀ b,fI S ops i k b=true→∀ g,WO P C n ops (fun e st=>e=.normal∧st=⟨bU f (slotsOf op)++g,S.bx (k+1) b,S.lv (k+1),S.gen (k+1)⟩) [⟨none,op,ty,pos,af,none⟩] ⟨bU f (slotsOf op)++g,S.bx k b,S.lv k,S.gen k⟩)
 (hi:ops[i]? = some ⟨none,op,ty,pos,af,none⟩) (h1:S.cs[k]? = some i) (h2:Nat.beq i S.al=false) (h3:fI S ops i k b=true) (h:CD P T C n S ops Q rest (i+1) f (k+1) b):CD P T C n S ops Q (⟨none,op,ty,pos,af,none⟩::rest) i f k b:=by
 have J:i≠S.al:=fun e=>by subst e;simp at h2
 refine⟨.any,⟨_,hi,rfl,Nat.le_of_lt (List.getElem?_eq_some_iff.1 h1).1,h3,.inl ⟨h1,J,fun b hb=>⟨rfl,bU f (slotsOf op),fun t x I=>?_,fun g=>WO.xK rfl (fun e st h=>by rw[h.1];simp) (fun e st h=>.inl h) (I b hb g)⟩,fun _=>rfl⟩⟩,?_⟩
 ·obtain⟨h1,h2⟩:=dD I
  exact⟨h1,List.mem_append.2 (.inl h2)⟩
 ·rw[iF hi]
  simp only[if_neg J,if_pos h1];exact h
theorem uO (I:∀ b,fI S ops i k b=true→∀ g,WO P C n ops (fun e st=>e=.normal∧st=⟨(d,a)::(bU f (slotsOf op)++g),S.bx (k+1) b,S.lv (k+1),S.gen (k+1)⟩) [⟨some d,op,ty,pos,af,none⟩] ⟨bU f (slotsOf op)++g,S.bx k b,S.lv k,S.gen k⟩)
 (hi:ops[i]? = some ⟨some d,op,ty,pos,af,none⟩) (h1:S.cs[k]? = some i) (h2:Nat.beq i S.al=false) (h3:fI S ops i k b=true) (M:fI S ops i k false=true→bL (S.ord (k+1)) a=a) (hd:Nat.blt d n=true) (h:CD P T C n S ops Q rest (i+1) ((d,a)::f) (k+1) b):CD P T C n S ops Q (⟨some d,op,ty,pos,af,none⟩::rest) i f k b:=by
 have J:i≠S.al:=fun e=>by subst e;simp at h2
 refine⟨a,⟨_,hi,hd,Nat.le_of_lt (List.getElem?_eq_some_iff.1 h1).1,h3,.inl ⟨h1,J,fun b hb=>⟨rfl,bU f (slotsOf op),fun t x I=>?_,fun g=>WO.xK rfl (fun e st h=>by rw[h.1];simp) (fun e st h=>.inl h) (I b hb g)⟩,M⟩⟩,?_⟩
 ·obtain⟨h1,h2⟩:=dD I
  exact⟨h1,List.mem_append.2 (.inl h2)⟩
 ·rw[iF hi]
  simp only[if_neg J,if_pos h1];unfold CD at h;rw[eh] at h;exact h
theorem Gz {e:TypeId} {I:bM} (he:ah T.l e=some I) (N:S.z=I.z.map fun v=>A.d (.v v)) (hi:ops[i]? = some ⟨some d,.alloc e,ty,pos,af,none⟩) (h1:vP i S.cs=false) (h2:Nat.beq i S.al=true) (h3:(Nat.ble k S.cs.length && fI S ops i k false)=true) (hd:Nat.blt d n=true)
 (h:CD P T C n S ops Q rest (i+1) ((d,.ptr S.g0 0)::f) k true):CD P T C n S ops Q (⟨some d,.alloc e,ty,pos,af,none⟩::rest) i f k false:=by
 simp only[Bool.and_eq_true] at h3;have J:=vr h1;have M:i=S.al:=Nat.eq_of_beq_eq_true h2;refine⟨.ptr S.g0 0,⟨_,hi,hd,Nat.le_of_ble_eq_true h3.1,h3.2,.inr (.inl ⟨J,M,rfl,rfl,rfl,e,d,I,rfl,rfl,he,N⟩)⟩,?_⟩;rw[iF hi];simp only[if_pos M,if_neg (fun e=>J (List.mem_of_getElem? e):¬ S.cs[k]? = some i)];unfold CD at h;rw[eh] at h;exact h
theorem W.pw (T:bF P) {N:Nat} [hnb:NB C N] {id:Nat} {l l1 l2:List Oper} {f:List (Nat×A)} {bx:List (Nat×List A)} {lv:List Nat} {gen:Nat} {Q:Exit→St→Prop} (dT:List (List (Nat×List A))) (J:List (List Nat)) (I:List Nat) (cs:List Nat) (m:Nat) (hB:fM m l.toArray=true) (M:js l.toArray cs=true) (h1:l.take m=l1) (h2:l.drop m=l2)
 (h:CD P T C n (BK (bx::dT) (lv::J) (gen::I) cs l.length) l.toArray (WO P C n l.toArray Q l2) l1 0 f 0 true):W P C n (.region id l.toArray true) Q ⟨f,bx,lv,gen⟩:=
 W.mn T (BK (bx::dT) (lv::J) (gen::I) cs l.length) true m hB M h1 h2 (fun _ _ h=>h.elim) (fun h=>by cases h) (fun _ _ h=>h) rfl (by show Nat.ble gen gen=true;simp) h
abbrev bot:A:=.d (.v (.agg #[]))
theorem ET {E:En} {v:Value} (h:aD E v bot):False:=by cases h with | d h=>cases h with | v _ h=>exact absurd h (by simp[cu])
theorem Cb {P:Program} {C:Ctx} {n:Nat} {ops:Array Oper} {Q:Exit→St→Prop} {l:List Oper} {st:St} (d:Nat) (h:look st.f d=some bot):WO P C n ops Q l st:=fun _ _ ⟨_,hs⟩=>by obtain⟨v,_,I⟩:=hs.frame d bot h;exact(ET I).elim
theorem W.xD (T:bF P) {N:Nat} [hnb:NB C N] {id:Nat} {l l1 l2:List Oper} {f:List (Nat×A)} {bx:List (Nat×List A)} {lv:List Nat} {gen:Nat} {Q:Exit→St→Prop} (v:Value) (dT:List (List (Nat×List A))) (J:List (List Nat)) (I:List Nat) (cs:List Nat) (m:Nat) (hB:fM m l.toArray=true) (M:js l.toArray cs=true) (h1:l.take m=l1) (h2:l.drop m=l2)
 (O:∀ st,Q (.panic [{ v:=v,recovered:=false }]) st) (h:CD P T C n (yG (bx::dT) (lv::J) (gen::I) cs l.length v) l.toArray (WO P C n l.toArray Q l2) l1 0 f 0 true):W P C n (.region id l.toArray true) Q ⟨f,bx,lv,gen⟩:=
 W.mn T (yG (bx::dT) (lv::J) (gen::I) cs l.length v) true m hB M h1 h2 (fun c st h=>by rw[show c=_ from h];exact O st) (fun h=>by cases h) (fun _ _ h=>h) rfl (by show Nat.ble gen gen=true;simp) h
theorem Gr (I:∀ b,fI S ops i k b=true→∀ g,WO P C n ops (fun e _=>∃ c,e=.panic c∧S.R c) [⟨some d,op,ty,pos,af,none⟩] ⟨bU f (slotsOf op)++g,S.bx k b,S.lv k,S.gen k⟩)
 (hi:ops[i]? = some ⟨some d,op,ty,pos,af,none⟩) (h1:S.cs[k]? = some i) (h2:Nat.beq i S.al=false) (h3:fI S ops i k b=true) (hd:Nat.blt d n=true) (h:CD P T C n S ops Q rest (i+1) ((d,bot)::f) (k+1) b):CD P T C n S ops Q (⟨some d,op,ty,pos,af,none⟩::rest) i f k b:=by
 have J:i≠S.al:=fun e=>by subst e;simp at h2
 refine⟨bot,⟨_,hi,hd,Nat.le_of_lt (List.getElem?_eq_some_iff.1 h1).1,h3,.inl ⟨h1,J,fun b hb=>⟨rfl,bU f (slotsOf op),fun t x I=>?_,fun g=>WO.xK rfl (fun e st ⟨c,h,_⟩=>by rw[h];simp) (fun e st h=>.inr h) (I b hb g)⟩,fun _=>rfl⟩⟩,?_⟩
 ·obtain⟨h1,h2⟩:=dD I
  exact⟨h1,List.mem_append.2 (.inl h2)⟩
 ·rw[iF hi]
  simp only[if_neg J,if_pos h1];unfold CD at h;rw[eh] at h;exact h
theorem FK (t:Nat) (J:look (bU f (slotsOf op)) t=some bot)
 (hi:ops[i]? = some ⟨some d,op,ty,pos,af,none⟩) (h1:S.cs[k]? = some i) (h2:Nat.beq i S.al=false) (h3:fI S ops i k b=true) (hd:Nat.blt d n=true) (h:CD P T C n S ops Q rest (i+1) ((d,bot)::f) (k+1) b):CD P T C n S ops Q (⟨some d,op,ty,pos,af,none⟩::rest) i f k b:=by
 have I:i≠S.al:=fun e=>by subst e;simp at h2
 refine⟨bot,⟨_,hi,hd,Nat.le_of_lt (List.getElem?_eq_some_iff.1 h1).1,h3,.inl ⟨h1,I,fun b hb=>⟨rfl,bU f (slotsOf op),fun t x M=>?_,fun g=>Cb t ?_⟩,fun _=>rfl⟩⟩,?_⟩
 ·obtain⟨h1,h2⟩:=dD M
  exact⟨h1,List.mem_append.2 (.inl h2)⟩
 ·show look (bU f (slotsOf op)++g) t=some bot
  rw[qd,J]
 ·rw[iF hi]
  simp only[if_neg I,if_pos h1];unfold CD at h;rw[eh] at h;exact h
end
end Go.Ab
namespace Go.Ab
theorem sq {e I:Exit} {d:Nat} {a a':A} {f:List (Nat×A)} {bx bx':List (Nat×List A)} {lv lv':List Nat} {gen gen':Nat} (he:e=I) (J:a=a') (hb:bx=bx') (hl:lv=lv') (M:gen=gen') :
 e=I∧(⟨(d,a)::f,bx,lv,gen⟩:St)=⟨(d,a')::f,bx',lv',gen'⟩:=by subst he J hb hl M;exact⟨rfl,rfl⟩
theorem Fw {e I:Exit} {f:List (Nat×A)} {bx bx':List (Nat×List A)} {lv lv':List Nat} {gen gen':Nat} (he:e=I) (hb:bx=bx') (hl:lv=lv') (J:gen=gen') :
 e=I∧(⟨f,bx,lv,gen⟩:St)=⟨f,bx',lv',gen'⟩:=by subst he hb hl J;exact⟨rfl,rfl⟩
end Go.Ab
namespace Go.Ab
open Go.RowKit
def vH (es:List (List D)) (k:Nat):List A:=es.flatten.map A.d++List.replicate k .any
section
variable {C:Ctx} {n:Nat} {st:St} {G:Gh} {tmps:Array Value} {w:World}
theorem nk {sz:Nat}:∀ {es:List (List D)},(∀ (e:List D),e∈es→e.length=sz)→es.flatten.length=es.length*sz
 | [],_=>by simp
 | e::es,h=>by rw[List.flatten_cons,List.length_append,nk (fun x I=>h x (List.mem_cons_of_mem _ I)),h e List.mem_cons_self,List.length_cons,Nat.succ_mul,Nat.add_comm]
theorem ax.FM (h:ax C n st G tmps w) {g b len cap sz:Nat} (hg:G.own g=some (.blk b len cap sz 0)) {es:List (List D)} {v:Value} (hx:fE w (bc C G) (.blk b len cap sz 0) v es) (lv:List Nat) (df:∀ J∈lv,J∈st.lv∧J≠g) :
 ∃ M,ax C n ⟨st.f,(st.gen,vH es (cap*sz - len*sz))::st.bx,lv,st.gen+1⟩ M tmps w∧aD (aA C M (st.gen+1) w) v (.sb st.gen es.length cap):=by
 obtain⟨rfl,hlen,_,hl,hr⟩:=hx;obtain⟨b0,ch,b3,cur,T,U,e3,cj,di,hz,en,_,hone⟩:=h.row g b len cap sz 0 hg;let M:Gh:=⟨fun x=>if x=st.gen then some b else G.box x,fun x=>if x=g then none else G.own x⟩;have e4:=h.gown g _ hg;have c7:b < w.heap.size:=(Array.getElem?_eq_some_iff.1 U).1;have dj:∀ N o,bc C M N o→bc C G N o:=by
  rintro N o (hp | ⟨J,hp⟩ | ⟨J,X,Z,ai,ad,hp,hl'⟩ | ⟨J,b2,bs,lim,hp,hm,hl'⟩);·exact .inl hp
  ·simp only[M] at hp
   split at hp
   ·simp only[Option.some.injEq] at hp
    subst hp;exact .inr (.inr (.inl ⟨g,len,cap,sz,0,hg,Nat.zero_le _⟩))
   ·exact .inr (.inl ⟨J,hp⟩)
  ·simp only[M] at hp
   split at hp;·cases hp
   ·exact .inr (.inr (.inl ⟨J,X,Z,ai,ad,hp,hl'⟩))
  ·simp only[M] at hp
   split at hp;·cases hp
   ·exact .inr (.inr (.inr ⟨J,b2,bs,lim,hp,hm,hl'⟩))
 have hle:(aA C G st.gen w).le (aA C M (st.gen+1) w):=jB h.fr h.fr (fun b o u hu hn=>⟨hu,fun hp=>hn (dj b o hp)⟩) (fun J N O=>by
  simp only[M];rw[if_neg (Nat.ne_of_lt (h.gbox J N O).1)];exact O)
  (fun J r' cl I=>by
   simp only[M] at I;split at I;·cases I
   ·exact I) (Nat.le_succ _) (fun _ _ _ _ _ _ _ _=>rfl) (fun _ _ _ _ _=>⟨rfl,fun _ _=>rfl⟩) (.refl w)
 have cq:=nk hl;have e0:len*sz≤cap*sz:=Nat.mul_le_mul_right _ cj;refine⟨M,{ size:=h.size,frame:=h.dC hle,xold:=h.xold,kold:=h.kold,fr:=h.fr,gcell:=fun J N O=>(by simp only[M] at O;split at O <;> first | (simp only[Option.some.injEq] at O;subst O;exact⟨_,_,_,U⟩) | exact h.gcell J N O),lent:=?_,box:=?_,gbox:=?_,inj:=?_,live:=?_,gown:=?_,row:=?_,mrow:=?_,sub:=?_ },?_⟩
 ·intro J cells hc
  simp only[bR] at hc;split at hc
  ·rename_i e
   simp only[Option.some.injEq] at hc;subst hc;subst e;refine⟨b,cur,T,by simp[M],U,?_,fun i u hu=>hone i u hu,fun i u a hu ha=>?_⟩;·simp only[vH,List.length_append,List.length_map,List.length_replicate,cq,hlen];omega
   ·unfold vH at ha
    rcases Nat.lt_or_ge i es.flatten.length with hi | hi
    ·rw[List.getElem?_append_left (by rw[List.length_map];exact hi),List.getElem?_map,Option.map_eq_some_iff] at ha
     obtain⟨d,hd,rfl⟩:=ha;have dt:i < len*sz:=by rw[←hlen,←cq];exact hi
     have hdiv:i / sz < es.length:=by rw[hlen];exact Nat.div_lt_of_lt_mul (by rw[Nat.mul_comm];exact dt)
     have he:es[i / sz]? = some es[i / sz]:=by simp[hdiv]
     have dx:=hl _ (List.mem_of_getElem? he);have cx:es[i / sz][i % sz]? = some (es[i / sz][i % sz]'(by rw[dx];exact Nat.mod_lt _ hz)):=by simp
     have cy:=l4 hl _ _ _ _ he cx;rw[Nat.div_add_mod' i sz,hd] at cy;obtain⟨u',aj,ed⟩:=hr _ _ _ _ he cx;rw[Nat.div_add_mod' i sz,bH U] at aj;rw[hu] at aj;cases aj;rw[Option.some.inj cy];exact .d (ed.mono hle.cell)
    ·rw[List.getElem?_append_right (by rw[List.length_map];exact hi)] at ha
     have:=List.eq_of_mem_replicate (List.mem_of_getElem? ha);subst this;exact .any _
  ·obtain⟨N,cs,T',h1,h2,h3,h4,h5⟩:=h.box J cells hc
   exact⟨N,cs,T',by simp only[M];rw[if_neg (Nat.ne_of_lt (h.gbox J N h1).1)];exact h1,h2,h3,h4,fun i u a hu ha=>(h5 i u a hu ha).mono hle⟩
 ·intro J N hb
  simp only[M] at hb;split at hb
  ·rename_i e
   simp only[Option.some.injEq] at hb;subst hb;subst e;exact⟨Nat.lt_succ_self _,c7,b0⟩
  ·obtain⟨h1,h2⟩:=h.gbox J N hb
   exact⟨Nat.lt_succ_of_lt h1,h2⟩
 ·intro g1 g2 N h1 h2
  simp only[M] at h1 h2;split at h1 <;> split at h2;·simp_all
  ·simp only[Option.some.injEq] at h1;subst h1;exact absurd h2 (ch g2)
  ·simp only[Option.some.injEq] at h2;subst h2;exact absurd h1 (ch g1)
  ·exact h.inj g1 g2 N h1 h2
 ·intro J cl
  obtain⟨h1,h2⟩:=df J cl;obtain⟨r',I⟩:=h.live J h1;exact⟨r',by simp only[M];rw[if_neg h2];exact I⟩
 ·intro J r' I
  simp only[M] at I;split at I;·cases I
  ·exact Nat.lt_succ_of_lt (h.gown J r' I)
 ·intro J N X Z ai ad I
  simp only[M] at I;split at I;·cases I
  ·rename_i e2
   obtain⟨h4,h5,h6,h7⟩:=h.row J N X Z ai ad I;have a1:N≠b:=fun e=>by subst e;exact e2 (b3 J X Z ai ad I)
   refine⟨h4,fun g2 h2=>?_,fun g2 a6 a7 c1 a8 h2=>?_,h7⟩
   ·simp only[M] at h2
    split at h2;·simp only[Option.some.injEq] at h2;exact a1 h2.symm
    ·exact h5 g2 h2
   ·simp only[M] at h2
    split at h2;·cases h2
    ·exact h6 g2 a6 a7 c1 a8 h2
 ·intro J N bs I
  simp only[M] at I;split at I;·cases I
  ·obtain⟨h4,ei,h5,me,clock,h6⟩:=h.mrow J N bs I
   refine⟨h4,fun g2 h2=>?_,fun g2 c6 h2=>?_,me,clock,h6⟩
   ·simp only[M] at h2
    split at h2;·simp only[Option.some.injEq] at h2;subst h2;rw[U] at h6;cases h6
    ·exact ei g2 h2
   ·simp only[M] at h2
    split at h2;·cases h2
    ·exact h5 g2 c6 h2
 ·intro J N bs c lim I hm
  simp only[M] at I;split at I;·cases I
  ·obtain⟨h4,h5,h6,h7,h8⟩:=h.sub J N bs c lim I hm
   have a1:c≠b:=fun e=>h6 g _ _ _ _ (by rw[e];exact hg);refine⟨h4,fun g2 h2=>?_,fun g2 a6 a7 c1 a8 h2=>?_,fun g2 b2 c6 e1 h2 ej=>?_,h8⟩
   ·simp only[M] at h2
    split at h2;·simp only[Option.some.injEq] at h2;exact a1 h2.symm
    ·exact h5 g2 h2
   ·simp only[M] at h2
    split at h2;·cases h2
    ·exact h6 g2 _ _ _ _ h2
   ·simp only[M] at h2
    split at h2;·cases h2
    ·exact h7 g2 _ _ _ h2 ej
 ·intro i N hb
  have h1:=h.lent i N hb;simp only[M];rw[if_neg (Nat.ne_of_lt (h.gbox i N h1).1)];exact h1
 ·exact .sb _ st.gen es.length cap b (Nat.lt_succ_self _) (by simp[aA,M]) (by rw[hlen];exact⟨cj,di⟩) (by rw[hlen])
end
section
variable {P:Program} (T:bF P) {C:Ctx} {n:Nat} {ops:Array Oper} {Q:Exit→St→Prop} {rest:List Oper}
variable {f:List (Nat×A)} {bx:List (Nat×List A)} {lv:List Nat} {gen:Nat} {d:Nat} {op:Op} {ty:TypeId} {pos:String} {af:Array Edge} {a:A} {dst:Option Nat} {c:Code}
end
end Go.Ab
namespace Go.Ab
section
variable {P:Program} {C:Ctx} {n:Nat} {ops:Array Oper} {Q:Exit→St→Prop} {rest:List Oper}
variable {f:List (Nat×A)} {bx:List (Nat×List A)} {lv:List Nat} {gen:Nat} {d:Nat} {ty:TypeId} {pos:String} {af:Array Edge}
end
end Go.Ab
namespace Go.Ab
open Go.RowKit
mutual
def ga (g:Nat):A→Bool
 | .ptr I _=>!Nat.beq I g
 | .np I _ _=>!Nat.beq I g
 | .sb I _ _=>!Nat.beq I g
 | .lk I _ _ _=>!Nat.beq I g
 | .agg l=>lx g l
 | .tup l=>lx g l
 | .row l=>lx g l
 | .clo _ l=>lx g l
 | .bnd _ l=>lx g l
 | _=>true
def lx (g:Nat):List A→Bool
 | []=>true
 | a::l=>ga g a && lx g l
end
theorem eG {g:Nat}:∀ {l:List A},lx g l=true→∀ a∈l,ga g a=true
 | [],_,a,I=>by cases I
 | b::l,h,a,I=>by
   simp only[lx,Bool.and_eq_true] at h
   cases I with
   | head=>exact h.1
   | tail _ I=>exact eG h.2 a I
theorem aD.forget {E E':En} {g:Nat} (hw:E.w=E'.w) (hc:∀ b o u,cellAt E.w b o=some u→¬ E.pv b o→cellAt E'.w b o=some u∧¬ E'.pv b o) (hold:∀ b,E.old b→E'.old b) (hb:∀ J b,J≠g→E.box J=some b→E'.box J=some b) (U:E'.own=E.own) (O:E'.gen=E.gen)
 {v:Value} {a:A} (h:aD E v a) (ha:ga g a=true):aD E' v a:=by
 have ai:∀ {J},(!Nat.beq J g)=true→J≠g:=fun h e=>by subst e;simp at h
 have X:∀ b o u,cellAt E.w b o=some u→¬ E.pv b o→cellAt E.w b o=some u∧¬ E'.pv b o:=fun b o u h1 h2=>⟨h1,(hc b o u h1 h2).2⟩
 induction h with
 | any x=>exact .any x
 | d hd=>exact .d (hd.mono hc)
 | ag vs l hs hd=>exact .ag vs l hs (fun i u x h1 h2=>(hd i u x h1 h2).mono hc)
 | own x J es hd I hr=>exact .own x J es (hd.mono hc) (by rw[O];exact I) (fun r M=>hr r (by rw[←U];exact M))
 | agg vs l hs hone _ ih=>exact .agg vs l hs hone (fun i u x hu N=>ih i u x hu N (eG (by simpa [ga] using ha) x (List.mem_of_getElem? N)))
 | tup vs l hs _ ih=>exact .tup vs l hs (fun i u x hu N=>ih i u x hu N (eG (by simpa [ga] using ha) x (List.mem_of_getElem? N)))
 | rowd b off l u ad hd=>exact .rowd b off l u (fun j hj=>hc _ _ _ (ad j hj).1 (ad j hj).2) (fun j x N=>(hd j x N).mono hc)
 | row b off l u ad _ ih=>exact .row b off l u (fun j hj=>⟨by rw[←hw];exact(ad j hj).1,hold _ (ad j hj).2.1,(ad j hj).2.2⟩) (fun j x N=>ih j x N (eG (by simpa [ga] using ha) x (List.mem_of_getElem? N)))
 | ptr x J off b I Z hp=>exact .ptr x J off b (by rw[O];exact I) (hb J b (ai (by simpa [ga] using ha)) Z) hp
 | xs x J es I h1 N=>exact .xs x J es (by rw[O];exact I) h1 (fun r M=>hw▸(N r (by rw[←U];exact M)).dd X)
 | xp x J i off l I h1 N=>exact .xp x J i off l (by rw[O];exact I) h1 (fun r M=>hw▸(N r (by rw[←U];exact M)).dd X)
 | mp x J es I h1 N=>exact .mp x J es (by rw[O];exact I) h1 (fun r M=>hw▸(N r (by rw[←U];exact M)).dd X)
 | mq x J es I h1 N=>exact .mq x J es (by rw[O];exact I) h1 (fun r M=>hw▸(N r (by rw[←U];exact M)).dd X)
 | mo x J es hole ob I h1 N=>exact .mo x J es hole ob (by rw[O];exact I) h1 (fun r M=>hw▸(N r (by rw[←U];exact M)).dd X)
 | ni t x=>exact .ni t x
 | fl x es hd aj=>exact .fl x es (hd.mono hc) aj
 | bf x J T s I h1 N=>exact .bf x J T s (by rw[O];exact I) h1 (fun r M=>hw▸N r (by rw[←U];exact M))
 | np x J T b I Z hT u hp=>exact .np x J T b (by rw[O];exact I) (hb J b (ai (by simpa [ga] using ha)) Z) (hw▸hT) u hp
 | sb x J n c b I Z hn hp=>exact .sb x J n c b (by rw[O];exact I) (hb J b (ai (by simpa [ga] using ha)) Z) hn hp
 | fx x u J es ou N I hu a1=>exact .fx x u J es ou (N.mono hc) (by rw[O];exact I) (fun r M=>hw▸(hu r (by rw[←U];exact M)).dd X) a1
 | ol x u g1 E1 J es N a6 a7 I hu=>exact .ol x u g1 E1 J es (N.mono hc) (by rw[O];exact a6) (fun r M=>a7 r (by rw[←U];exact M)) (by rw[O];exact I) (fun r M=>hw▸(hu r (by rw[←U];exact M)).dd X)
 | ow x v J es hd I hr=>exact .ow x v J es (hd.mono hc) (by rw[O];exact I) (fun r M=>hr r (by rw[←U];exact M))
 | lk x J n c b v I Z hn hp=>exact .lk x J n c b v (by rw[O];exact I) (hb J b (ai (by simpa [ga] using ha)) Z) hn hp
 | clo f vs l hs _ ih=>exact .clo f vs l hs (fun i u x hu N=>ih i u x hu N (eG (by simpa [ga] using ha) x (List.mem_of_getElem? N)))
 | bnd f vs l hs _ ih=>exact .bnd f vs l hs (fun i u x hu N=>ih i u x hu N (eG (by simpa [ga] using ha) x (List.mem_of_getElem? N)))
def mu (g:Nat):List Nat→List (Nat×A)→List (Nat×A)
 | _,[]=>[]
 | seen,(s,a)::r=>bif seen.any (Nat.beq s) then mu g seen r else bif ga g a then (s,a)::mu g (s::seen) r else mu g (s::seen) r
theorem ki {g:Nat}:∀ {f:List (Nat×A)} {seen:List Nat} {t:Nat} {a:A},look (mu g seen f) t=some a→look f t=some a∧ga g a=true∧t∉seen
 | [],_,t,a,h=>by simp[mu,look] at h
 | (s,b)::r,seen,t,a,h=>by
   simp only[mu] at h
   cases q:seen.any (Nat.beq s) with
   | true=>
     rw[q] at h;simp only[cond_true] at h;obtain⟨h1,h2,h3⟩:=ki h;have hm:s∈seen:=by obtain⟨y,J,hb⟩:=List.any_eq_true.1 q;rw[Nat.eq_of_beq_eq_true hb];exact J
     refine⟨?_,h2,h3⟩;rw[aU];rw[if_neg (fun e:s=t=>h3 (e▸hm))];exact h1
   | false=>
     rw[q] at h;simp only[cond_false] at h;have hm:s∉seen:=fun hm=>by have:seen.any (Nat.beq s)=true:=List.any_eq_true.2 ⟨s,hm,by simp⟩;rw[q] at this;cases this
     cases q2:ga g b with
     | true=>
       rw[q2] at h;simp only[cond_true] at h;rw[aU] at h;split at h
       ·rename_i e
        subst e;cases h;exact⟨by rw[aU,if_pos rfl],q2,hm⟩
       ·rename_i e
        obtain⟨h1,h2,h3⟩:=ki h;exact⟨by rw[aU,if_neg e];exact h1,h2,fun I=>h3 (List.mem_cons_of_mem _ I)⟩
     | false=>rw[q2] at h;simp only[cond_false] at h;obtain⟨h1,h2,h3⟩:=ki h;exact⟨by rw[aU,if_neg (fun e:s=t=>h3 (e▸List.mem_cons_self))];exact h1,h2,fun I=>h3 (List.mem_cons_of_mem _ I)⟩
def kL (g:Nat):List Nat→List (Nat×List A)→Option (List (Nat×List A))
 | _,[]=>some []
 | seen,(s,c)::r=>bif seen.any (Nat.beq s) then kL g seen r else bif Nat.beq s g then kL g (s::seen) r else bif lx g c then (match kL g (s::seen) r with | some l=>some ((s,c)::l) | none=>none) else none
theorem iD {α:Type} {f:List (Nat×α)} {s t:Nat} {a:α}:ah ((s,a)::f) t=if s=t then some a else ah f t:=by rw[bR]
theorem kb {g:Nat}:∀ {f f':List (Nat×List A)} {seen:List Nat} {t:Nat} {a:List A},kL g seen f=some f'→ah f' t=some a→ah f t=some a∧lx g a=true∧t≠g∧t∉seen
 | [],f',_,t,a,I,h=>by simp[kL] at I;subst I;simp[ah] at h
 | (s,b)::r,f',seen,t,a,I,h=>by
   simp only[kL] at I
   cases q:seen.any (Nat.beq s) with
   | true=>
     rw[q] at I;simp only[cond_true] at I;obtain⟨h1,h2,h3,h4⟩:=kb I h;have hm:s∈seen:=by obtain⟨y,M,hb⟩:=List.any_eq_true.1 q;rw[Nat.eq_of_beq_eq_true hb];exact M
     exact⟨by rw[iD,if_neg (fun e:s=t=>h4 (e▸hm))];exact h1,h2,h3,h4⟩
   | false=>
     rw[q] at I;simp only[cond_false] at I;have hm:s∉seen:=fun hm=>by have:seen.any (Nat.beq s)=true:=List.any_eq_true.2 ⟨s,hm,by simp⟩;rw[q] at this;cases this
     cases q1:Nat.beq s g with
     | true=>rw[q1] at I;simp only[cond_true] at I;obtain⟨h1,h2,h3,h4⟩:=kb I h;exact⟨by rw[iD,if_neg (fun e:s=t=>h4 (e▸List.mem_cons_self))];exact h1,h2,h3,fun J=>h4 (List.mem_cons_of_mem _ J)⟩
     | false=>
       rw[q1] at I;simp only[cond_false] at I
       cases q2:lx g b with
       | false=>rw[q2] at I;cases I
       | true=>
         rw[q2] at I;simp only[cond_true] at I;split at I
         ·rename_i l hl
          simp only[Option.some.injEq] at I;subst I;rw[iD] at h;split at h
          ·rename_i e
           subst e;cases h;exact⟨by rw[iD,if_pos rfl],q2,fun e=>by subst e;simp at q1,hm⟩
          ·rename_i e
           obtain⟨h1,h2,h3,h4⟩:=kb hl h;exact⟨by rw[iD,if_neg e];exact h1,h2,h3,fun J=>h4 (List.mem_cons_of_mem _ J)⟩
         ·cases I
section
variable {P:Program} (T:bF P) {C:Ctx} {n:Nat} {ops:Array Oper} {Q:Exit→St→Prop} {rest:List Oper}
variable {f f':List (Nat×A)} {bx bx':List (Nat×List A)} {lv:List Nat} {gen:Nat} {d:Nat} {op:Op} {ty:TypeId} {pos:String} {af:Array Edge} {a:A} {dst:Option Nat} {c:Code}
end
end Go.Ab
namespace Go.Ab
open Go.RowKit
section
variable {P:Program} (T:bF P) {C:Ctx} {n:Nat} {ops:Array Oper} {Q:Exit→St→Prop} {rest:List Oper}
variable {f:List (Nat×A)} {bx:List (Nat×List A)} {lv:List Nat} {gen:Nat} {d:Nat} {op:Op} {ty:TypeId} {pos:String} {af:Array Edge} {a:A} {dst:Option Nat} {c:Code}
theorem fE.same {w:World} {pv:Nat→Nat→Prop} {r:Row} {v J:Value} {es M:List (List D)} (h:fE w pv r v es) (I:fE w pv r J M):v=J:=by
 cases r with
 | nil=>exact h.1.trans I.1.symm
 | zero b=>exact h.1.trans I.1.symm
 | blk b len cap sz N=>exact h.1.trans I.1.symm
 | mp b bs=>exact h.elim
end
end Go.Ab
namespace Go.Ab
open Go.RowKit
section
variable {P:Program} (T:bF P) {C:Ctx} {n:Nat} {ops:Array Oper} {Q:Exit→St→Prop} {rest:List Oper}
variable {f f':List (Nat×A)} {bx bx':List (Nat×List A)} {lv:List Nat} {gen:Nat} {d:Nat} {op:Op} {ty:TypeId} {pos:String} {af:Array Edge} {a:A} {dst:Option Nat} {c:Code} {o:Oper}
theorem fE.slice {w:World} {pv:Nat→Nat→Prop} {r:Row} {v:Value} {es:List (List D)} (h:fE w pv r v es):∃ a l c,v=.slice a l c:=by
 cases r with
 | nil=>exact⟨_,_,_,h.1⟩
 | zero b=>exact⟨_,_,_,h.1⟩
 | blk b len cap sz I=>exact⟨_,_,_,h.1⟩
 | mp b bs=>exact h.elim
theorem ax.oo {G:Gh} {tmps:Array Value} {w:World} (hs:ax C n ⟨f,bx,lv,gen⟩ G tmps w) {g0:Nat} {cells cells':List A} (hb:ah bx g0=some cells) (hlen:cells'.length=cells.length)
 (J:∀ b cs T,G.box g0=some b→w.heap[b]? = some (.cells cs T (0,0))→(∀ (i:Nat) (x:Value) (a:A),cs[i]? = some x→cells[i]? = some a→aD (aA C G gen w) x a)→∀ (i:Nat) (x:Value) (a:A),cs[i]? = some x→cells'[i]? = some a→aD (aA C G gen w) x a) :
 ax C n ⟨f,(g0,cells')::bx,lv,gen⟩ G tmps w:=by
 refine { hs with box:=fun M l hl=>?_ };simp only[bR] at hl;split at hl
 ·rename_i e
  subst e;simp only[Option.some.injEq] at hl;subst hl;obtain⟨b,cs,I,h1,h2,h3,h4,h5⟩:=hs.box g0 cells hb;exact⟨b,cs,I,h1,h2,by rw[hlen];exact h3,h4,J b cs I h1 h2 h5⟩
 ·exact hs.box M l hl
end
end Go.Ab
namespace Go.Ab
open Go.RowKit Go.MapKept
section
variable {P:Program} (T:bF P) {C:Ctx} {n:Nat} {ops:Array Oper} {Q:Exit→St→Prop} {rest:List Oper}
variable {f:List (Nat×A)} {bx:List (Nat×List A)} {lv:List Nat} {gen:Nat} {d:Nat} {ty:TypeId} {pos:String} {af:Array Edge} {dst:Option Nat}
variable {α β:Type} [DecidableEq α] {kf:α→Value} {vf:β→D}
theorem Dz (gq J:Nat) {mt k e:Nat} {td:bM} {m kx x:Operand} {g:Nat} {U:List A} {l:List (α×β)} {a:α} {y:β} {xa:A} (hm:av f m=some (.mp g (eA kf vf l))) (hq:ah bx gq=some U) (hj:U[J]? = some (.mp g (eA kf vf l)))
 (hk:av f kx=some (.d (.v (kf a)))) (N:av f x=some xa) (c6:yJ xa=some (vf y))
 (ht:ah T.l mt=some td) (c7:td.k=.map k e) (df:iS P k kf) (ai:(lv.any fun h=>Nat.beq h g)=true) (hn:(l.map (·.1)).Nodup) {aj:List (Value×List D)} (di:eA kf vf (cH l a y)=aj) {lv':List Nat} (dj:gen::br lv g=lv') {a1:List A} (dt:U.set J (.mp gen aj)=a1)
 (h:WO P C n ops Q rest ⟨f,(gq,a1)::bx,lv',gen+1⟩):WO P C n ops Q (⟨none,.mapUpdate mt m kx x,ty,pos,af,none⟩::rest) ⟨f,bx,lv,gen⟩:=by
 subst dt;subst di;subst dj;refine WO.step (st:=⟨f,bx,lv,gen⟩) rfl fun tmps w ⟨G,hs⟩=>?_;have a6:=hs.av hm;have M:=hs.av hk;have dx:=wb c6 (hs.av N);generalize hv:Act.eval ⟨tmps,[]⟩ m=v at a6;generalize ed:Act.eval ⟨tmps,[]⟩ kx=vk at M;obtain⟨b,bs,a7,rfl,me,clock,hb,ei,ej⟩:=hs.rj a6 (cQ ai);cases M with | d M=>cases M with | v _ hok=>
 obtain⟨X,I,cj,cl,Z⟩:=qW T ht c7 df hb ei ej hn a hok dx;have h0:(execOp (Act.eval ⟨tmps,[]⟩) ⟨none,.mapUpdate mt m kx x,ty,pos,af,none⟩).run P w=.ok .skip { w with heap:=w.heap.setIfInBounds b (.map X I) }:=by unfold execOp;show Sem.run P _ w=.ok _ _;simp only[hv,ed,Sem.run_bind,cj,Result.andThen_ok,Sem.run_pure]
 obtain⟨b0,ad,T0,p1,p2,p3,p4,p5⟩:=hs.box gq U hq;have en:J < ad.size:=by rw[p3];exact(List.getElem?_eq_some_iff.1 hj).1
 have a8:ad[J]? = some ad[J]:=by simp[en]
 have cx:=p5 J _ _ a8 hj;obtain⟨b2,e0,cy,c1,_⟩:=hs.rj cx (cQ ai);have e2:b2=b∧e0=bs:=by have:=cy.symm.trans a7;simpa using this
 obtain⟨rfl,rfl⟩:=e2;obtain⟨G',e1,e3,e4⟩:=hs.Ak a7 X I cl (es:=eA kf vf (cH l a y)) (by rw[Z.1];simp[eA]) (fun i m k l' hm hk=>by simp only[eA,List.getElem?_map,Option.map_eq_some_iff] at hk;obtain⟨p,hp,e⟩:=hk;simp only[Prod.mk.injEq] at e;obtain⟨rfl,rfl⟩:=e;exact Z.2 i m p hm hp) (br lv g) (fun g' e5=>cP e5);refine gC h0 ⟨_,⟨G',e3.oo hq (by simp) fun b3 ff T3 q1 q2 q3 i x' a' N O=>?_⟩,h⟩;by_cases e:J=i
 ·subst e
  have ch:J < (U.set J (.mp gen (eA kf vf (cH l a y)))).length:=(List.getElem?_eq_some_iff.1 O).1;rw[List.length_set] at ch;rw[List.getElem?_set_self ch] at O;simp only[Option.some.injEq] at O;subst O;rw[e1,p1] at q1;simp only[Option.some.injEq] at q1;subst q1;have e6:b0≠b2:=fun e=>by rw[e,hb] at p2;cases p2
  rw[(heap_set (o':=Obj.map X I) hb).2 b0 e6,p2] at q2;simp only[Option.some.injEq,Obj.cells.injEq] at q2;rw[←q2.1,a8] at N;simp only[Option.some.injEq] at N;subst N;rw[c1];exact e4
 ·rw[List.getElem?_set_ne e] at O
  exact q3 i x' a' N O
end
end Go.Ab
namespace Go.Ab
open Go.RowKit Go.MapKept
section
variable {C:Ctx} {n:Nat} {st:St} {G:Gh} {tmps:Array Value} {w:World}
theorem ax.split (h:ax C n st G tmps w) {g b:Nat} {bs bs':List (Nat×Nat)} (hg:G.own g=some (.mp b bs)) (a7:∀ p∈bs',p∈bs) (r2:Row) (c1:∀ U bs',r2≠.mp U bs')
 (a8:∀ c len cap sz O,r2=.blk c len cap sz O→(c,O)∈bs∧(∀ p∈bs',p.1≠c)∧∃ cur T,w.heap[c]? = some (.cells cur T (0,0))∧cur.size=cap*sz∧len≤cap∧cap≤maxLen∧0 < sz∧0 < len∧O≤len*sz∧eN cur)
 (lv:List Nat) (c6:∀ I∈lv,I∈st.lv∧I≠g) :
 ∃ G':Gh,G'.box=G.box∧G'.own st.gen=some (.mp b bs')∧G'.own (st.gen+1)=some r2∧(aA C G st.gen w).le (aA C G' (st.gen+2) w)∧ax C n { st with lv:=st.gen::(st.gen+1)::lv,gen:=st.gen+2 } G' tmps w:=by
 let M:Nat→Option Row:=fun I=>if I=st.gen then some (.mp b bs') else if I=st.gen+1 then some r2 else if I=g then none else G.own I;have dj:=h.gown g _ hg;have ad:∀ {I c len cap sz O},M I=some (.blk c len cap sz O)→(I=st.gen+1∧r2=.blk c len cap sz O)∨(I≠st.gen∧I≠st.gen+1∧I≠g∧G.own I=some (.blk c len cap sz O)):=by
  intro I c len cap sz O X;simp only[M] at X;split at X;·cases X
  ·split at X
   ·rename_i e;exact .inl ⟨e,Option.some.inj X⟩
   ·split at X
    ·cases X
    ·rename_i e1 e2 N;exact .inr ⟨e1,e2,N,X⟩
 have aj:∀ {I b2 Z},M I=some (.mp b2 Z)→(I=st.gen∧b2=b∧Z=bs')∨(I≠st.gen∧I≠st.gen+1∧I≠g∧G.own I=some (.mp b2 Z)):=by
  intro I b2 Z X;simp only[M] at X;split at X;·rename_i e;simp only[Option.some.injEq,Row.mp.injEq] at X;exact .inl ⟨e,X.1.symm,X.2.symm⟩
  ·split at X
   ·exact absurd (Option.some.inj X) (c1 _ _)
   ·split at X
    ·cases X
    ·rename_i e1 e2 N;exact .inr ⟨e1,e2,N,X⟩
 have c7:∀ U o,bc C ⟨G.box,M⟩ U o→bc C G U o:=by
  rintro U o (hp | hp | ⟨I,cl,cq,df,ch,hp,hl'⟩ | ⟨I,b2,Z,lim,hp,hm,hl'⟩);·exact .inl hp
  ·exact .inr (.inl hp)
  ·rcases ad hp with ⟨_,e⟩ | ⟨_,_,_,e⟩
   ·exact .inr (.inr (.inr ⟨g,b,bs,ch,hg,(a8 _ _ _ _ _ e).1,hl'⟩))
   ·exact .inr (.inr (.inl ⟨I,cl,cq,df,ch,e,hl'⟩))
  ·rcases aj hp with ⟨_,rfl,rfl⟩ | ⟨_,_,_,e⟩
   ·exact .inr (.inr (.inr ⟨g,_,bs,lim,hg,a7 _ hm,hl'⟩))
   ·exact .inr (.inr (.inr ⟨I,b2,Z,lim,e,hm,hl'⟩))
 have hle:(aA C G st.gen w).le (aA C ⟨G.box,M⟩ (st.gen+2) w):=jB h.fr h.fr (fun U o u hu hn=>⟨hu,fun hp=>hn (c7 U o hp)⟩) (fun _ _ h=>h)
  (fun I r' ai J=>by
   simp only[M,if_neg (Nat.ne_of_lt ai),if_neg (Nat.ne_of_lt (Nat.lt_succ_of_lt ai))] at J;split at J;·cases J
   ·exact J) (by omega) (fun _ _ _ _ _ _ _ _=>rfl) (fun _ _ _ _ _=>⟨rfl,fun _ _=>rfl⟩) (.refl w)
 refine⟨⟨G.box,M⟩,rfl,by simp[M],by simp[M],hle,{ size:=h.size,frame:=h.dC hle,inj:=h.inj,xold:=h.xold,kold:=h.kold,lent:=h.lent,fr:=h.fr,gcell:=h.gcell,box:=?_,gbox:=?_,live:=?_,gown:=?_,row:=?_,mrow:=?_,sub:=?_ }⟩
 ·intro I cells hc
  obtain⟨U,cs,T',h1,h2,h3,h4,h5⟩:=h.box I cells hc;exact⟨U,cs,T',h1,h2,h3,h4,fun i u a hu ha=>(h5 i u a hu ha).mono hle⟩
 ·intro I U hb
  obtain⟨h1,h2,h3⟩:=h.gbox I U hb;exact⟨by simp only;omega,h2,h3⟩
 ·intro I ai
  rcases List.mem_cons.1 ai with rfl | ai
  ·exact⟨_,by simp[M];rfl⟩
  ·rcases List.mem_cons.1 ai with rfl | ai
   ·exact⟨_,by simp[M];rfl⟩
   ·obtain⟨h1,h2⟩:=c6 I ai
    obtain⟨r',J⟩:=h.live I h1;have:=h.gown I r' J;exact⟨r',by simp only[M];rw[if_neg (by omega),if_neg (by omega),if_neg h2];exact J⟩
 ·intro I r' J
  simp only[M] at J;split at J;·simp only;omega
  ·split at J
   ·simp only;omega
   ·split at J
    ·cases J
    ·have:=h.gown I r' J;simp only;omega
 ·intro I U len cap sz O J
  rcases ad J with ⟨e0,e⟩ | ⟨_,e1,e2,e⟩
  ·obtain⟨q1,q2,q3⟩:=a8 _ _ _ _ _ e
   obtain⟨s1,s2,s3,_⟩:=h.sub g b bs U O hg q1;refine⟨s1,s2,fun g2 cx cy di cj h2=>?_,q3⟩;rcases ad h2 with ⟨N,_⟩ | ⟨_,_,_,N⟩
   ·omega
   ·exact absurd N (s3 _ _ _ _ _)
  ·obtain⟨s1,s2,s3,s4⟩:=h.row I U len cap sz O e
   refine⟨s1,s2,fun g2 cx cy di cj h2=>?_,s4⟩;rcases ad h2 with ⟨_,N⟩ | ⟨_,_,_,N⟩
   ·exact absurd e ((h.sub g b bs U cj hg (a8 _ _ _ _ _ N).1).2.2.1 _ _ _ _ _)
   ·exact s3 _ _ _ _ _ N
 ·intro I U Z J
  rcases aj J with ⟨e0,rfl,rfl⟩ | ⟨e0,e1,e2,e⟩
  ·obtain⟨s1,s2,s3,s4⟩:=h.mrow g _ bs hg
   refine⟨s1,s2,fun g2 a1 h2=>?_,s4⟩;rcases aj h2 with ⟨N,_⟩ | ⟨_,_,e4,N⟩
   ·omega
   ·exact absurd (s3 g2 a1 N) e4
  ·obtain⟨s1,s2,s3,s4⟩:=h.mrow I U Z e
   refine⟨s1,s2,fun g2 a1 h2=>?_,s4⟩;rcases aj h2 with ⟨_,rfl,_⟩ | ⟨_,_,_,N⟩
   ·exact absurd (s3 g bs hg).symm e2
   ·exact s3 g2 a1 N
 ·intro I U Z c lim J hm
  rcases aj J with ⟨e0,rfl,rfl⟩ | ⟨e0,e1,e2,e⟩
  ·obtain⟨s1,s2,s3,s4,s5⟩:=h.sub g _ bs c lim hg (a7 _ hm)
   refine⟨s1,s2,fun g2 len cap sz O h2=>?_,fun g2 b3 a1 a6 h2 b0=>?_,s5⟩
   ·rcases ad h2 with ⟨_,N⟩ | ⟨_,_,_,N⟩
    ·exact(a8 _ _ _ _ _ N).2.1 _ hm rfl
    ·exact s3 _ _ _ _ _ N
   ·rcases aj h2 with ⟨N,rfl,rfl⟩ | ⟨_,_,e4,N⟩
    ·exact⟨by omega,(s4 g _ bs a6 hg (a7 _ b0)).2⟩
    ·exact absurd (s4 g2 b3 a1 a6 N b0).1 e4
  ·obtain⟨s1,s2,s3,s4,s5⟩:=h.sub I U Z c lim e hm
   refine⟨s1,s2,fun g2 len cap sz O h2=>?_,fun g2 b3 a1 a6 h2 b0=>?_,s5⟩
   ·rcases ad h2 with ⟨_,N⟩ | ⟨_,_,_,N⟩
    ·exact e2 ((s4 g b bs O hg (a8 _ _ _ _ _ N).1).1).symm
    ·exact s3 _ _ _ _ _ N
   ·rcases aj h2 with ⟨_,rfl,rfl⟩ | ⟨_,_,_,N⟩
    ·exact absurd ((s4 g _ bs a6 hg (a7 _ b0)).1).symm e2
    ·exact s4 g2 b3 a1 a6 N b0
theorem ax.join (h:ax C n st G tmps w) {g g2 b:Nat} {bs bs':List (Nat×Nat)} (hg:G.own g=some (.mp b bs)) {r2:Row} (ai:G.own g2=some r2) (hq:g2≠g) (c6:∀ p∈bs',p∈bs∨∃ len cap sz,r2=.blk p.1 len cap sz p.2) (me:Array MapEntry) (clock:Nat)
 (lv:List Nat) (ff:∀ I∈lv,I∈st.lv∧I≠g∧I≠g2) :
 ∃ G':Gh,G'.box=G.box∧G'.own st.gen=some (.mp b bs')∧(aA C G st.gen w).le (aA C G' (st.gen+1) { w with heap:=w.heap.setIfInBounds b (.map me clock) })∧ax C n { st with lv:=st.gen::lv,gen:=st.gen+1 } G' tmps { w with heap:=w.heap.setIfInBounds b (.map me clock) }:=by
 obtain⟨dj,fj,cx,ht,fo,c7⟩:=h.mrow g b bs hg;obtain⟨ej,a6⟩:=heap_set (o':=Obj.map me clock) c7;let N:Nat→Option Row:=fun I=>if I=st.gen then some (.mp b bs') else if I=g then none else if I=g2 then none else G.own I;generalize dt:({ w with heap:=w.heap.setIfInBounds b (.map me clock) }:World)=w';have e1:w'.heap=w.heap.setIfInBounds b (.map me clock):=by rw[←dt]
 have e2:w'.os=w.os:=by rw[←dt]
 have e3:w'.tape=w.tape:=by rw[←dt]
 have e4:w'.output=w.output:=by rw[←dt]
 rw[←e1] at ej a6;have e5:w'.heap.size=w.heap.size:=by rw[e1];simp
 have ei:∀ o,Ab.cellAt w b o=none:=fun o=>by simp[Ab.cellAt,World.cell?,c7]
 have dx:∀ J o u,Ab.cellAt w J o=some u→Ab.cellAt w' J o=some u:=fun J o u hu=>by
  have aj:J≠b:=fun e=>by subst e;rw[ei] at hu;cases hu
  rw[bC (a6 J aj)];exact hu
 have a8:∀ {c:Nat} {cs:Array Value} {T:TypeId} {f:Nat×Nat},w.heap[c]? = some (.cells cs T f)→w'.heap[c]? = some (.cells cs T f):=fun {c cs T f} hc=>by rw[a6 c (fun e=>by rw[e,c7] at hc;cases hc)];exact hc
 have en:dh w w':=fun J cs T f h=>⟨cs,f,a8 h⟩;have hv:=h.gown g _ hg;have gq:=h.gown g2 _ ai;have a7:∀ {I r'},N I=some r'→I≠st.gen→G.own I=some r'∧I≠g∧I≠g2:=by
  intro I r' O aj;simp only[N,if_neg aj] at O;split at O;·cases O
  ·split at O
   ·cases O
   ·rename_i e1 e2;exact⟨O,e1,e2⟩
 have e0:∀ {r'},N st.gen=some r'→r'=.mp b bs':=fun {r'} O=>by simpa [N] using O.symm
 have b0:∀ {I c len cap sz Z},N I=some (.blk c len cap sz Z)→I≠st.gen∧I≠g∧I≠g2∧G.own I=some (.blk c len cap sz Z):=fun {I c len cap sz Z} O=>by
  have aj:I≠st.gen:=fun e=>by subst e;cases e0 O
  obtain⟨q1,q2,q3⟩:=a7 O aj;exact⟨aj,q2,q3,q1⟩
 have ch:∀ {I b2 U},N I=some (.mp b2 U)→(I=st.gen∧b2=b∧U=bs')∨(I≠st.gen∧I≠g∧I≠g2∧G.own I=some (.mp b2 U)):=fun {I b2 U} O=>by
  by_cases e:I=st.gen
  ·subst e
   have:=e0 O;simp only[Row.mp.injEq] at this;exact .inl ⟨rfl,this.1,this.2⟩
  ·obtain⟨q1,q2,q3⟩:=a7 O e
   exact .inr ⟨e,q2,q3,q1⟩
 have df:∀ {c lim},(c,lim)∈bs'→C.gF c lim∧(∀ I,G.box I≠some c)∧(∀ I len cap sz Z,G.own I=some (.blk c len cap sz Z)→I=g2∧Z=lim)∧(∀ I b3 X ad,G.own I=some (.mp b3 X)→(c,ad)∈X→I=g∧ad=lim∧(c,lim)∈bs)∧∃ cur T,w.heap[c]? = some (.cells cur T (0,0))∧lim≤cur.size∧eN cur:=by
  intro c lim hm;rcases c6 _ hm with hm | ⟨len,cap,sz,O⟩
  ·obtain⟨s1,s2,s3,s4,s5⟩:=h.sub g b bs c lim hg hm
   exact⟨s1,s2,fun I len cap sz Z O=>absurd O (s3 _ _ _ _ _),fun I b3 X ad O ed=>⟨(s4 I b3 X ad O ed).1,(s4 I b3 X ad O ed).2,hm⟩,s5⟩
  ·rw[O] at ai
   obtain⟨s1,s2,s3,cur,T,s4,s5,s6,s7,s8,s9,hx,fs⟩:=h.row g2 c len cap sz lim ai;refine⟨s1,s2,fun I cj cl cy cq M=>?_,fun I b3 X ad M ed=>absurd ai ((h.sub I b3 X c ad M ed).2.2.1 _ _ _ _ _),cur,T,s4,?_,fs⟩
   ·have:=s3 I cj cl cy cq M
    subst this;rw[ai] at M;simp only[Option.some.injEq,Row.blk.injEq] at M;exact⟨rfl,M.2.2.2.2.symm⟩
   ·have:len*sz≤cap*sz:=Nat.mul_le_mul_right _ s6
    omega
 have ft:∀ J o,bc C ⟨G.box,N⟩ J o→bc C G J o:=by
  rintro J o (hp | hp | ⟨I,cj,cl,cy,cq,hp,hl'⟩ | ⟨I,b2,U,lim,hp,hm,hl'⟩);·exact .inl hp
  ·exact .inr (.inl hp)
  ·exact .inr (.inr (.inl ⟨I,cj,cl,cy,cq,(b0 hp).2.2.2,hl'⟩))
  ·rcases ch hp with ⟨_,rfl,rfl⟩ | ⟨_,_,_,e⟩
   ·rcases c6 _ hm with hm | ⟨len,cap,sz,O⟩
    ·exact .inr (.inr (.inr ⟨g,_,bs,lim,hg,hm,hl'⟩))
    ·rw[O] at ai;exact .inr (.inr (.inl ⟨g2,len,cap,sz,lim,ai,hl'⟩))
   ·exact .inr (.inr (.inr ⟨I,b2,U,lim,e,hm,hl'⟩))
 have e6:Fr C w':=⟨e2.trans h.fr.os,e3.trans h.fr.tape,e4.trans h.fr.output,by rw[e5];exact h.fr.size,fun J h1 h2=>by rw[a6 J (fun e=>by subst e;exact dj.1.elim (fun hm=>by omega) h2)];exact h.fr.block J h1 h2,fun J o u hk hu=>dx J o u (h.fr.cells J o u hk hu),h.fr.ty.trans en⟩
 have hle:(aA C G st.gen w).le (aA C ⟨G.box,N⟩ (st.gen+1) w'):=jB h.fr e6 (fun J o u hu hn=>⟨dx J o u hu,fun hp=>hn (ft J o hp)⟩) (fun _ _ h=>h)
  (fun I r' a1 M=>(a7 M (Nat.ne_of_lt a1)).1) (Nat.le_succ _) (fun I J cj cl cy cq a1 M=>by
   obtain⟨_,_,_,cur,T,q1,_⟩:=h.row I J cj cl cy cq (a7 M (Nat.ne_of_lt a1)).1;rw[q1];exact a8 q1) (fun I J U a1 M=>by
   obtain⟨q1,q2,q3⟩:=a7 M (Nat.ne_of_lt a1);refine⟨a6 J (fun e=>by subst e;exact q2 (cx I U q1)),fun p hp=>?_⟩;obtain⟨_,_,_,_,cur,T,q4,_⟩:=h.sub I J U p.1 p.2 q1 hp;rw[q4];exact a8 q4) en
 refine⟨⟨G.box,N⟩,rfl,by simp[N],hle,{ size:=h.size,frame:=h.dC hle,inj:=h.inj,xold:=h.xold,kold:=h.kold,lent:=h.lent,fr:=e6,gcell:=fun I J gb=>kD en (h.gcell I J gb),box:=?_,gbox:=?_,live:=?_,gown:=?_,row:=?_,mrow:=?_,sub:=?_ }⟩
 ·intro I cells hc
  obtain⟨J,cs,T',h1,h2,h3,h4,h5⟩:=h.box I cells hc;exact⟨J,cs,T',h1,a8 h2,h3,h4,fun i u a hu ha=>(h5 i u a hu ha).mono hle⟩
 ·intro I J hb
  obtain⟨h1,h2,h3⟩:=h.gbox I J hb;exact⟨Nat.lt_succ_of_lt h1,by rw[e5];exact h2,h3⟩
 ·intro I a1
  rcases List.mem_cons.1 a1 with rfl | a1
  ·exact⟨_,by simp[N];rfl⟩
  ·obtain⟨h1,h2,h3⟩:=ff I a1
   obtain⟨r',M⟩:=h.live I h1;exact⟨r',by simp only[N,if_neg (Nat.ne_of_lt (h.gown I r' M)),if_neg h2,if_neg h3];exact M⟩
 ·intro I r' M
  by_cases e:I=st.gen;·simp only;omega
  ·exact Nat.lt_succ_of_lt (h.gown I r' (a7 M e).1)
 ·intro I J len cap sz Z M
  obtain⟨_,_,_,e⟩:=b0 M;obtain⟨s1,s2,s3,cur,T,s4,s5⟩:=h.row I J len cap sz Z e;exact⟨s1,s2,fun g3 hf hh hy ho h2=>s3 _ _ _ _ _ (b0 h2).2.2.2,cur,T,a8 s4,s5⟩
 ·intro I J U M
  rcases ch M with ⟨n0,rfl,rfl⟩ | ⟨n0,n1,n2,e⟩
  ·refine⟨dj,fj,fun g3 X h2=>?_,me,clock,ej⟩
   rcases ch h2 with ⟨q,_⟩ | ⟨_,q2,_,q3⟩
   ·omega
   ·exact absurd (cx g3 X q3) q2
  ·obtain⟨s1,s2,s3,gi,gj,s4⟩:=h.mrow I J U e
   have aj:J≠b:=fun e=>by subst e;exact n1 (cx I U (by assumption))
   refine⟨s1,s2,fun g3 X h2=>?_,gi,gj,by rw[a6 J aj];exact s4⟩;rcases ch h2 with ⟨_,q,_⟩ | ⟨_,_,_,q3⟩
   ·exact absurd q aj
   ·exact s3 g3 X q3
 ·intro I J U c lim M hm
  rcases ch M with ⟨n0,rfl,rfl⟩ | ⟨n0,n1,n2,e⟩
  ·obtain⟨s1,s2,s3,s4,cur,T,s5,s6⟩:=df hm
   refine⟨s1,s2,fun g3 len cap sz Z h2=>?_,fun g3 b3 X di h2 c1=>?_,cur,T,a8 s5,s6⟩
   ·obtain⟨_,_,q3,q4⟩:=b0 h2
    exact q3 (s3 _ _ _ _ _ q4).1
   ·rcases ch h2 with ⟨q,rfl,rfl⟩ | ⟨_,q2,_,q3⟩
    ·refine⟨by omega,?_⟩
     obtain⟨_,_,t3,t4,_⟩:=df c1;rcases c6 _ hm with q4 | ⟨len,cap,sz,q4⟩
     ·exact((t4 g _ bs lim hg q4).2.1).symm
     ·rw[q4] at ai
      exact((t3 g2 len cap sz lim ai).2).symm
    ·exact absurd (s4 g3 b3 X di q3 c1).1 q2
  ·obtain⟨s1,s2,s3,s4,cur,T,s5,s6⟩:=h.sub I J U c lim e hm
   refine⟨s1,s2,fun g3 len cap sz Z h2=>s3 _ _ _ _ _ (b0 h2).2.2.2,fun g3 b3 X di h2 c1=>?_,cur,T,a8 s5,s6⟩;rcases ch h2 with ⟨_,rfl,rfl⟩ | ⟨_,_,_,q3⟩
   ·exact absurd ((df c1).2.2.2.1 I J U lim e hm).1 n1
   ·exact s4 g3 b3 X di q3 c1
end
end Go.Ab
namespace Go.Ab
open Go.RowKit Go.MapKept
def fS {α γ:Type} (kf:α→Value) (fn:γ→List D) (l:List (α×List γ)):List (Value×List (List D)):=l.map fun p=>(kf p.1,p.2.map fn)
section
variable {α γ:Type} {kf:α→Value} {fn:γ→List D}
theorem wQ {l:List (α×List γ)} {i:Nat} {k:Value} {x:List (List D)} (h:(fS kf fn l)[i]? = some (k,x)):∃ p,l[i]? = some p∧k=kf p.1∧x=p.2.map fn:=by simp only[fS,List.getElem?_map,Option.map_eq_some_iff] at h;obtain⟨p,hp,e⟩:=h;simp only[Prod.mk.injEq] at e;exact⟨p,hp,e.1.symm,e.2.symm⟩
theorem uk {l:List (α×List γ)} {k:Value} {x:List (List D)} (h:(k,x)∈fS kf fn l):∃ p∈l,k=kf p.1∧x=p.2.map fn:=by obtain⟨i,hi⟩:=List.mem_iff_getElem?.1 h;obtain⟨p,hp,e⟩:=wQ hi;exact⟨p,List.mem_of_getElem? hp,e⟩
structure nZ (w:World) (pv:Nat→Nat→Prop) (b:Nat) (bs:List (Nat×Nat)) (kf:α→Value) (fn:γ→List D) (l:List (α×List γ)) (hole:Option Value) (me:Array MapEntry) (clock:Nat) (ps:Value→Option Nat):Prop where
 hb:w.heap[b]? = some (.map me clock)
 st:Stamped me clock
 mi:gB w pv kf (fun x:List γ=>D.sl (x.map fn)) me l
 inj:∀ p p':α×List γ,∀ c,p∈l→p'∈l→hole≠some (kf p.1)→hole≠some (kf p'.1)→ps (kf p.1)=some c→ps (kf p'.1)=some c→kf p.1=kf p'.1
 at_:∀ (i:Nat) (m:MapEntry) (p:α×List γ),me[i]? = some m→l[i]? = some p→hole≠some (kf p.1)→mS w (ps (kf p.1)) bs m.val (p.2.map fn)
theorem nZ.of {w:World} {pv:Nat→Nat→Prop} {b:Nat} {bs:List (Nat×Nat)} {v:Value} {l:List (α×List γ)} {hole:Option Value} (h:kM w pv (.mp b bs) v (fS kf fn l) hole):v=.map (some b)∧∃ I clock ps,nZ w pv b bs kf fn l hole I clock ps:=by
 obtain⟨h1,I,clock,h2,h3,h4,ps,h5,J⟩:=h;refine⟨h1,I,clock,ps,h2,h3,⟨by rw[h4];simp[fS],fun i m p hm hp=>?_⟩,fun p M c hp N q1 q2 q3 q4=>?_,fun i m p hm hp O=>?_⟩
 ·obtain⟨q1,q2,q3,_⟩:=J i m (kf p.1) (p.2.map fn) hm (by simp[fS,hp])
  exact⟨q1,q2,q3⟩
 ·exact h5 _ _ (p.2.map fn) (M.2.map fn) c (List.mem_map.2 ⟨p,hp,rfl⟩) (List.mem_map.2 ⟨M,N,rfl⟩) q1 q2 q3 q4
 ·exact(J i m (kf p.1) (p.2.map fn) hm (by simp[fS,hp])).2.2.2 O
theorem nZ.to {w:World} {pv:Nat→Nat→Prop} {b:Nat} {bs:List (Nat×Nat)} {l:List (α×List γ)} {hole:Option Value} {J:Array MapEntry} {clock:Nat} {ps:Value→Option Nat} (h:nZ w pv b bs kf fn l hole J clock ps):kM w pv (.mp b bs) (.map (some b)) (fS kf fn l) hole:=by
 refine⟨rfl,J,clock,h.hb,h.st,by rw[h.mi.1];simp[fS],ps,fun k U x X c I M q1 q2 q3 q4=>?_,fun i m k x hm I=>?_⟩
 ·obtain⟨p,hp,rfl,rfl⟩:=uk I
  obtain⟨O,N,rfl,rfl⟩:=uk M;exact h.inj p O c hp N q1 q2 q3 q4
 ·obtain⟨p,hp,rfl,rfl⟩:=wQ I
  obtain⟨q1,q2,q3⟩:=h.mi.2 i m p hm hp;exact⟨q1,q2,q3,h.at_ i m p hm hp⟩
theorem mS.mono {w w':World} {bs bs':List (Nat×Nat)} {o:Option Nat} {v:Value} {l:List (List D)} (h:mS w o bs v l) (I:∀ c lim,o=some c→(c,lim)∈bs→(c,lim)∈bs'∧w'.heap[c]? = w.heap[c]?):mS w' o bs' v l:=by
 cases o with
 | none=>exact h
 | some c=>obtain⟨cap,sz,cur,T,J,a2,a3,a4,a5,M,N,O,a9⟩:=h;obtain⟨q1,q2⟩:=I c _ rfl a2;exact⟨cap,sz,cur,T,J,q1,a3,a4,a5,M,N,by rw[q2];exact O,a9⟩
end
section
variable {P:Program} (T:bF P) {C:Ctx} {n:Nat} {ops:Array Oper} {Q:Exit→St→Prop} {rest:List Oper}
variable {f:List (Nat×A)} {bx:List (Nat×List A)} {lv:List Nat} {gen:Nat} {d:Nat} {ty:TypeId} {pos:String} {af:Array Edge} {dst:Option Nat} {c:Code}
variable {α γ:Type} [DecidableEq α] {kf:α→Value} {fn:γ→List D}
omit [DecidableEq α] in
theorem ax.Cn {st:St} {G:Gh} {tmps:Array Value} {w:World} (hs:ax C n st G tmps w) {v:Value} {g:Nat} {l:List (α×List γ)} {hole:Option Value} {U:Option Nat} (X:aD (aA C G st.gen w) v (.mo g (fS kf fn l) hole U)) (O:g∈st.lv) :
 ∃ b bs M clock ps,G.own g=some (.mp b bs)∧v=.map (some b)∧nZ w (bc C G) b bs kf fn l hole M clock ps:=by
 obtain⟨r,J⟩:=hs.live g O
 cases X with
 | mo _ _ _ _ _ Z h1 N=>
 have I:=N r J
 cases r with
 | nil=>exact I.elim
 | zero b=>exact I.elim
 | blk b len cap sz ad=>exact I.elim
 | mp b bs=>obtain⟨h2,M,clock,ps,h3⟩:=nZ.of I;exact⟨b,bs,M,clock,ps,J,h2,h3⟩
theorem FF {t:TypeId} (hd:Nat.blt d n=true) (h:WO P C n ops Q rest ⟨(d,.mo gen [] none none)::f,bx,gen::lv,gen+1⟩):WO P C n ops Q (⟨some d,.makeMap t none,ty,pos,af,none⟩::rest) ⟨f,bx,lv,gen⟩:=by
 refine WO.step (st:=⟨f,bx,lv,gen⟩) rfl fun tmps w ⟨G,hs⟩=>?_;obtain⟨U,N,J⟩:=hs.ve;refine bZ (v:=.map (some w.heap.size)) (w':=w.alloc (.map #[] 0)) ?_ ⟨_,⟨U,N.put (dst:=some d) (bX (dst:=some d) hd) ?_⟩,h⟩
 ·unfold execOp
  show Sem.run P _ w=.ok _ _;simp[Instr.makeMap,Sem.run_bind,Result.andThen]
 ·cases J with
  | mp _ _ _ O h1 M=>
  refine .mo _ _ _ _ _ O ⟨h1,fun b hb=>by cases hb⟩ (fun r J=>?_);have I:=M r J
  cases r with
  | nil=>exact I.elim
  | zero b=>exact I.elim
  | blk b len cap sz ad=>exact I.elim
  | mp b bs=>obtain⟨q1,X,clock,q2,q3,q4,_⟩:=I;exact⟨q1,X,clock,q2,q3,q4,fun _=>none,fun _ _ _ _ _ h=>(by cases h),fun i m k x hm Z=>(by simp at Z)⟩
theorem W.Ez (gq I:Nat) {g:Nat} {Z:List A} {es:List (Value×List (List D))} {hole:Option Value} (hq:ah bx gq=some Z) (hj:Z[I]? = some (.mo g es hole none)) (ad:(lv.any fun h=>Nat.beq h g)=true)
 (h:∀ b,W P C n c Q ⟨f,(gq,Z.set I (.mo g es hole (some b)))::bx,lv,gen⟩):W P C n c Q ⟨f,bx,lv,gen⟩:=by
 intro tmps w ⟨G,hs⟩;obtain⟨r,ai⟩:=hs.live g (cQ ad);obtain⟨b0,J,T0,p1,p2,p3,p4,p5⟩:=hs.box gq Z hq;have aj:I < J.size:=by rw[p3];exact(List.getElem?_eq_some_iff.1 hj).1
 have M:J[I]? = some J[I]:=by simp[aj]
 have N:=p5 I _ _ M hj;generalize hv:J[I]=v at N M
 cases N with
 | mo _ _ _ _ _ a1 h1 O=>
 have hx:=O r ai
 cases r with
 | nil=>exact hx.elim
 | zero b=>exact hx.elim
 | blk b len cap sz a8=>exact hx.elim
 | mp b bs=>
   have a6:v=.map (some b):=hx.1;refine h b tmps w ⟨G,hs.oo hq (by simp) fun b3 b2 T3 q1 q2 q3 i x' a' U X=>?_⟩;by_cases e:I=i
   ·subst e
    rw[List.getElem?_set_self (List.getElem?_eq_some_iff.1 hj).1] at X;simp only[Option.some.injEq] at X;subst X;rw[p1] at q1;cases q1;rw[p2] at q2;cases q2;rw[M] at U;cases U;exact .mo _ _ _ _ _ a1 ⟨h1.1,fun b' a7=>by cases a7;exact a6⟩ O
   ·rw[List.getElem?_set_ne e] at X
    exact q3 i x' a' U X
theorem pV {w:World} {pv:Nat→Nat→Prop} {β:Type} {vf:β→D} {mt k e:Nat} {O I:bM} (ht:ah T.l mt=some O) (U:O.k=.map k e) (he:ah T.l e=some I) (M:iS P k kf) {zx:Value} (X:I.z=[zx]) (Z:lG I.k=true) {b:Nat} {N:Array MapEntry} {clock:Nat}
 (hb:w.heap[b]? = some (.map N clock)) {l:List (α×β)} (h:gB w pv kf vf N l) (hn:(l.map (·.1)).Nodup) (a:α) :
 ∃ v,(Instr.lookup mt (.map (some b)) (kf a) false).run P w=.ok v w∧((bT l a=none∧(∀ p∈l,p.1≠a)∧v=zx)∨∃ (j:Nat) (m:MapEntry) (p:α×β),N[j]? = some m∧l[j]? = some p∧p.1=a∧v=m.val∧bT l a=some p.2∧aO w pv v (vf p.2)):=by
 obtain⟨d,hd,hk⟩:=M.ty;have hm:=T.ue ht U;rcases h.find M hn a with ⟨h1,h2,h3⟩ | ⟨j,en,p,h1,h2,h3,h4,h5,h6,h7⟩
 ·obtain⟨i,J,hi,_,_,ad,ai,_,_,aj⟩:=T.info he
  have a1:J=zx:=by rw[X] at ai;cases hke:I.k <;> rw[hke] at Z aj <;> cases J <;> simp_all[Value.cells,lG]
  subst a1;refine⟨J,?_,.inl ⟨h3,h2,rfl⟩⟩;unfold Instr.lookup;simp only[Sem.run_bind,run_underlying hm,Result.andThen_ok,Go.MapKept.run_getObj_map hb,Sem.run_pure,run_checkKey hd (hk a),h1];have:(zeroValue e).run P w=.ok J w:=by simp[zeroValue,typeInfo,Sem.run_bind,run_program,hi,ad,Result.andThen]
  simp only[this,Result.andThen_ok];rfl
 ·refine⟨en.val,?_,.inr ⟨j,en,p,h2,h3,h4,rfl,h6,h7⟩⟩
  unfold Instr.lookup;simp only[Sem.run_bind,run_underlying hm,Result.andThen_ok,Go.MapKept.run_getObj_map hb,Sem.run_pure,run_checkKey hd (hk a),h1];rfl
theorem B7 {mt k e:Nat} {U N:bM} {m O:Operand} {g:Nat} {l:List (α×List γ)} {a:α} {ob:Option Nat} (hm:av f m=some (.mo g (fS kf fn l) none ob)) (hk:av f O=some (.d (.v (kf a))))
 (ht:ah T.l mt=some U) (X:U.k=.map k e) (he:ah T.l e=some N) (Z:iS P k kf) (ad:(lv.any fun h=>Nat.beq h g)=true) (ai:N.z=[.slice none 0 0]) (aj:lG N.k=true) (hn:(l.map (·.1)).Nodup) {r:List (List D)} (hr:((bT l a).getD []).map fn=r) :
 Pu P C n ⟨f,bx,lv,gen⟩ ⟨dst,.lookup mt m O false,ty,pos,af,none⟩ (.d (.sl r)):=by
 subst hr;refine dG.pu fun G tmps w hs=>?_;have J:=hs.av hm;have I:=hs.av hk;generalize hv:Act.eval ⟨tmps,[]⟩ m=v at J;generalize a1:Act.eval ⟨tmps,[]⟩ O=vk at I;obtain⟨b,bs,me,clock,ps,a6,rfl,M⟩:=hs.Cn J (cQ ad);cases I with | d I=>cases I with | v _ hok=>
 obtain⟨u,h1,h2⟩:=pV (P:=P) T ht X he Z ai aj M.hb M.mi hn a;refine⟨u,?_,?_⟩
 ·unfold execOp
  show Sem.run P _ w=.ok _ _;simp only[hv,a1,Sem.run_bind,h1,Result.andThen_ok,Sem.run_pure];rfl
 ·rcases h2 with ⟨q1,_,rfl⟩ | ⟨j,mm,p,_,_,_,_,q1,q2⟩
  ·rw[q1];exact .d .nil
  ·rw[q1];exact .d q2
theorem rk (I J:Nat) {t:TypeId} {p:Operand} {g b:Nat} {M:List A} {es:List (Value×List (List D))} {hole:Option Value} (hp:av f p=some (.ptr I J)) (O:ah bx I=some M) (hj:M[J]? = some (.mo g es hole (some b)))
 (N:iU T f bx (.load t p)=some (.mo g es hole (some b))):Pu P C n ⟨f,bx,lv,gen⟩ ⟨dst,.load t p,ty,pos,af,none⟩ (.d (.v (.map (some b)))):=by
 intro G tmps w hs;refine(Pu.ev (P:=P) (C:=C) (n:=n) (st:=⟨f,bx,lv,gen⟩) T N G tmps w hs).mono fun v w' ⟨h1,h2⟩=>⟨h1,?_⟩
 cases h2 with
 | mo _ _ _ _ _ _ h3 _=>rw[h3.2 b rfl];exact .d (.v _ rfl)
end
end Go.Ab
namespace Go.Ab
open Go.RowKit Go.MapKept
theorem aO.GX {w:World} {pv:Nat→Nat→Prop} {v:Value} {es:List (List D)} (h:aO w pv v (.sl es)):∃ s,∀ (e:List D),e∈es→e.length=s:=by
 cases h with
 | nil=>exact⟨0,by simp⟩
 | emp=>exact⟨0,by simp⟩
 | sl b off len cap sz _ u hl I hm hs hu J=>exact⟨sz,fun e he=>by obtain⟨i,hi⟩:=List.mem_iff_getElem?.1 he;exact hs i e hi⟩
section
variable {P:Program} (T:bF P) {C:Ctx} {n:Nat} {ops:Array Oper} {Q:Exit→St→Prop} {rest:List Oper}
variable {f:List (Nat×A)} {bx:List (Nat×List A)} {lv:List Nat} {gen:Nat} {d:Nat} {ty:TypeId} {pos:String} {af:Array Edge} {dst:Option Nat} {c:Code}
variable {α γ:Type} [DecidableEq α] {kf:α→Value} {fn:γ→List D}
theorem A0 (gq M:Nat) {mt k e:Nat} {td ed:bM} {m kx:Operand} {g b:Nat} {cq:List A} {l:List (α×List γ)} {a:α} (hd:Nat.blt d n=true) (hm:av f m=some (.d (.v (.map (some b))))) (X:ah bx gq=some cq) (hj:cq[M]? = some (.mo g (fS kf fn l) none (some b)))
 (hk:av f kx=some (.d (.v (kf a)))) (ht:ah T.l mt=some td) (c6:td.k=.map k e) (he:ah T.l e=some ed) (c7:iS P k kf) (df:(lv.any fun h=>Nat.beq h g)=true) (di:ed.z=[.slice none 0 0]) (dj:lG ed.k=true) (hn:(l.map (·.1)).Nodup)
 {x:List (List D)} (hx:((bT l a).getD []).map fn=x) {lv':List Nat} (dt:gen::(gen+1)::br lv g=lv') {a7:List A} (dx:cq.set M (.mo gen (fS kf fn l) (some (kf a)) (some b))=a7)
 (h:WO P C n ops Q rest ⟨(d,.own (gen+1) x)::f,(gq,a7)::bx,lv',gen+2⟩):WO P C n ops Q (⟨some d,.lookup mt m kx false,ty,pos,af,none⟩::rest) ⟨f,bx,lv,gen⟩:=by
 subst dx;subst dt;subst hx;refine WO.step (st:=⟨f,bx,lv,gen⟩) rfl fun tmps w ⟨G,hs⟩=>?_;have ad:=hs.av hm;have ai:=hs.av hk;generalize hv:Act.eval ⟨tmps,[]⟩ m=v at ad;generalize ei:Act.eval ⟨tmps,[]⟩ kx=vk at ai;cases ad with | d ad=>cases ad with | v _ ho=>
 cases ai with | d ai=>cases ai with | v _ hok=>
 obtain⟨b0,Z,T0,p1,p2,p3,p4,p5⟩:=hs.box gq cq X;have ej:M < Z.size:=by rw[p3];exact(List.getElem?_eq_some_iff.1 hj).1
 have a8:Z[M]? = some Z[M]:=by simp[ej]
 have U:=p5 M _ _ a8 hj;have b2:Z[M]=.map (some b):=by generalize Z[M]=y at U;cases U with | mo _ _ _ _ _ _ h1 _=>exact h1.2 b rfl
 rw[b2] at U;obtain⟨b',bs,me,clock,ps,en,ch,I⟩:=hs.Cn U (cQ df);simp only[Value.map.injEq,Option.some.injEq] at ch;subst ch;obtain⟨u,h1,h2⟩:=pV (P:=P) T ht c6 he c7 di dj I.hb I.mi hn a;have h0:(execOp (Act.eval ⟨tmps,[]⟩) ⟨some d,.lookup mt m kx false,ty,pos,af,none⟩).run P w=.ok (.value u) w:=by unfold execOp;show Sem.run P _ w=.ok _ _;simp only[hv,ei,Sem.run_bind,h1,Result.andThen_ok,Sem.run_pure]
 have key:∀ (x:List (List D)) (r2:Row) (bs':List (Nat×Nat)),(∀ p∈bs',p∈bs)→(∀ b' bs',r2≠.mp b' bs') →
  (∀ c len cap sz a1,r2=.blk c len cap sz a1→(c,a1)∈bs∧(∀ p∈bs',p.1≠c)∧∃ cur T,w.heap[c]? = some (.cells cur T (0,0))∧cur.size=cap*sz∧len≤cap∧cap≤maxLen∧0 < sz∧0 < len∧a1≤len*sz∧eN cur) →
  (∀ (i:Nat) (O:MapEntry) (p:α×List γ),me[i]? = some O→l[i]? = some p→some (kf a)≠some (kf p.1)→mS w (ps (kf p.1)) bs' O.val (p.2.map fn)) →
  aO w (bc C G) u (.sl x)→(∃ s,(∀ (e:List D),e∈x→e.length=s)∧rD r2 u x.length s) →
  ∃ J,ax C n ⟨(d,.own (gen+1) x)::f,(gq,cq.set M (.mo gen (fS kf fn l) (some (kf a)) (some b)))::bx,gen::(gen+1)::br lv g,gen+2⟩ J (Act.put ⟨tmps,[]⟩ (some d) u).tmps w:=by
  intro x r2 bs' cx e0 e3 e4 e5 cy;obtain⟨J,e6,ff,fj,hle,fo⟩:=hs.split en cx r2 e0 e3 (br lv g) (fun g' fs=>cP fs);have c1:nZ w (bc C J) b bs' kf fn l (some (kf a)) me clock ps:=⟨I.hb,I.st,I.mi.mono fun b o u hu hp=>hle.cell b o u hu hp,fun p p' c hp ft _ _ q3 q4=>I.inj p p' c hp ft (by simp) (by simp) q3 q4,e4⟩;have gb:=fo.oo (f:=f) (bx:=bx) (lv:=gen::(gen+1)::br lv g) (gen:=gen+2) X (cells':=cq.set M (.mo gen (fS kf fn l) (some (kf a)) (some b))) (by simp) fun b3 hy T3 q1 q2 q3 i x' a' a6 ha=>by
   by_cases e:M=i
   ·subst e
    rw[List.getElem?_set_self (List.getElem?_eq_some_iff.1 hj).1] at ha;simp only[Option.some.injEq] at ha;subst ha;rw[e6,p1] at q1;cases q1;rw[p2] at q2;cases q2;rw[a8,b2] at a6;cases a6;exact .mo _ _ _ _ _ (by simp[aA]) ⟨rfl,fun b' gi=>by cases gi;rfl⟩ (fun r hr=>by have:J.own gen=some r:=hr;rw[ff] at this;cases this;exact c1.to)
   ·rw[List.getElem?_set_ne e] at ha
    exact q3 i x' a' a6 ha
  refine⟨J,gb.put (dst:=some d) (bX (dst:=some d) hd) (.own _ _ x (e5.mono fun b o u hu hp=>hle.cell b o u hu hp) (by simp[aA]) (fun r hr=>?_))⟩;have:J.own (gen+1)=some r:=hr;rw[fj] at this;cases this;exact cy
 refine bZ h0 ?_;rcases h2 with ⟨q1,q2,rfl⟩ | ⟨j,O,p,q1,q2,q3,q4,q5,q6⟩
 ·obtain⟨J,N⟩:=key [] .nil bs (fun _ h=>h) (fun _ _ h=>by cases h) (fun _ _ _ _ _ h=>by cases h) (fun i O p hm hp _=>I.at_ i O p hm hp (by simp)) .nil ⟨0,by simp,rfl,rfl⟩
  refine⟨_,⟨J,N⟩,?_⟩;rw[q1] at h;exact h
 ·subst q3;subst q4
  have aj:=I.at_ j O p q1 q2 (by simp);rw[q5] at h;obtain⟨s,cj⟩:=q6.GX
  cases hps:ps (kf p.1) with
  | none=>
    rw[hps] at aj;rcases aj with ⟨t1,t2⟩ | ⟨c,off,t1⟩
    ·obtain⟨J,N⟩:=key (p.2.map fn) .nil bs (fun _ h=>h) (fun _ _ h=>by cases h) (fun _ _ _ _ _ h=>by cases h) (fun i O p hm hp _=>I.at_ i O p hm hp (by simp)) q6 ⟨s,cj,t1,by rw[t2];rfl⟩
     exact⟨_,⟨J,N⟩,h⟩
    ·obtain⟨J,N⟩:=key (p.2.map fn) (.zero c) bs (fun _ h=>h) (fun _ _ h=>by cases h) (fun _ _ _ _ _ h=>by cases h) (fun i O p hm hp _=>I.at_ i O p hm hp (by simp)) q6 ⟨s,cj,off,t1⟩
     exact⟨_,⟨J,N⟩,h⟩
  | some c=>
    rw[hps] at aj;obtain⟨cap,sz,cur,T1,t1,t2,t3,t4,t5,t6,t7,t8,t9,t10⟩:=aj
    obtain⟨J,N⟩:=key (p.2.map fn) (.blk c (p.2.map fn).length cap sz ((p.2.map fn).length*sz)) (bs.filter fun q=>!Nat.beq q.1 c) (fun q X=>(List.mem_filter.1 X).1) (fun _ _ h=>by cases h)
     (fun c' hf hg hz hh h=>by simp only[Row.blk.injEq] at h;obtain⟨rfl,rfl,rfl,rfl,rfl⟩:=h;exact⟨t2,fun q X e=>by have:=(List.mem_filter.1 X).2;rw[e] at this;simp at this,cur,T1,t8,t9,t6,t7,t4,t5,Nat.le_refl _,t10⟩)
     (fun i m2 p2 gj cl hc=>(I.at_ i m2 p2 gj cl (by simp)).mono fun c' lim e1 e2=>⟨List.mem_filter.2 ⟨e2,by
      have:c'≠c:=fun e=>by subst e;have:=I.inj p p2 c' (List.mem_of_getElem? q2) (List.mem_of_getElem? cl) (by simp) (by simp) hps e1;exact hc (by rw[this])
      cases X:Nat.beq c' c with
      | false=>rfl
      | true=>exact absurd (Nat.eq_of_beq_eq_true X) this⟩,rfl⟩) q6 ⟨sz,t3,t1,rfl,rfl,rfl⟩
    exact⟨_,⟨J,N⟩,h⟩
theorem pF {w:World} {pv:Nat→Nat→Prop} {β:Type} {vf:β→D} {mt k e:Nat} {td:bM} (ht:ah T.l mt=some td) (b0:td.k=.map k e) (U:iS P k kf) {b:Nat} {N:Array MapEntry} {clock:Nat} (hb:w.heap[b]? = some (.map N clock)) {l:List (α×β)}
 (Z:Stamped N clock) (h:gB w pv kf vf N l) (X:(l.map (·.1)).Nodup) (a:α) (ad:cu (kf a)=true) {v:Value} {y:β} (hv:aO w pv v (vf y)) :
 ∃ O M,(Instr.mapUpdate mt (.map (some b)) (kf a) v).run P w=.ok () { w with heap:=w.heap.setIfInBounds b (.map O M) }∧Stamped O M∧gB w pv kf vf O (cH l a y) ∧
   ∀ (i:Nat) (m:MapEntry) (p:α×β),O[i]? = some m→(cH l a y)[i]? = some p→(p=(a,y)∧m.val=v)∨(p.1≠a∧∃ m0,N[i]? = some m0∧l[i]? = some p∧m0.val=m.val):=by
 obtain⟨d,hd,hk⟩:=U.ty;have hm:=T.ue ht b0;rcases h.find U X a with ⟨h1,h2,_⟩ | ⟨j,en,p,h1,h2,h3,h4,h5,_,_⟩
 ·refine⟨N.push ⟨kf a,v,clock⟩,clock+1,?_,stamped_push Z (fun x hx=>?_),?_,?_⟩
  ·unfold Instr.mapUpdate
   simp only[Sem.run_bind,run_underlying hm,Result.andThen_ok,Go.MapKept.run_getObj_map hb,run_checkKey hd (hk a),h1];exact Go.MapKept.run_setObj_map _ hb
  ·obtain⟨i,hi⟩:=List.mem_iff_getElem?.1 hx
   have ai:N[i]? = some x:=by simpa using hi
   have J:i < l.length:=by rw[←h.1];exact(Array.getElem?_eq_some_iff.1 ai).1
   rw[(h.2 i x l[i] ai (by simp[J])).1];exact fun e=>h2 l[i] (by simp) (U.inj _ _ e)
  ·rw[iW h2]
   refine⟨by simp[h.1],fun i m p hm hp=>?_⟩;rw[Array.getElem?_push] at hm;split at hm
   ·rename_i hi
    rw[List.getElem?_append_right (by rw[hi,h.1];exact Nat.le_refl _)] at hp;have:i - l.length=0:=by rw[hi,h.1];omega
    rw[this] at hp;simp only[List.getElem?_cons_zero,Option.some.injEq] at hp;simp only[Option.some.injEq] at hm;subst hm;subst hp;exact⟨rfl,ad,hv⟩
   ·have J:i < l.length:=by rw[←h.1];exact(Array.getElem?_eq_some_iff.1 hm).1
    rw[List.getElem?_append_left J] at hp;exact h.2 i m p hm hp
  ·rw[iW h2]
   intro i m p hm hp;rw[Array.getElem?_push] at hm;split at hm
   ·rename_i hi
    rw[List.getElem?_append_right (by rw[hi,h.1];exact Nat.le_refl _)] at hp;have:i - l.length=0:=by rw[hi,h.1];omega
    rw[this] at hp;simp only[List.getElem?_cons_zero,Option.some.injEq] at hp;simp only[Option.some.injEq] at hm;subst hm;subst hp;exact .inl ⟨rfl,rfl⟩
   ·have J:i < l.length:=by rw[←h.1];exact(Array.getElem?_eq_some_iff.1 hm).1
    rw[List.getElem?_append_left J] at hp;exact .inr ⟨h2 p (List.mem_of_getElem? hp),m,hm,hp,rfl⟩
 ·refine⟨N.modify j fun e=>{ e with key:=kf a,val:=v },clock,?_,stamped_modify Z j _ (fun _ _=>rfl) (fun e _ he=>by rw[h2] at he;cases he;exact h5.symm),?_,?_⟩
  ·unfold Instr.mapUpdate
   simp only[Sem.run_bind,run_underlying hm,Result.andThen_ok,Go.MapKept.run_getObj_map hb,run_checkKey hd (hk a),h1,h2,Option.map_some,Option.getD_some,h5,run_keyThatStays (hk a)];exact Go.MapKept.run_setObj_map _ hb
  ·subst h4
   rw[r7 X h3];refine⟨by simp[h.1],fun i m q hm I=>?_⟩;rw[Array.getElem?_modify] at hm;rw[List.getElem?_set] at I;by_cases hij:j=i
   ·subst hij
    rw[if_pos rfl] at hm I;rw[h2] at hm;rw[if_pos (List.getElem?_eq_some_iff.1 h3).1] at I;simp only[Option.map_some,Option.some.injEq] at hm I;subst hm;subst I;exact⟨rfl,ad,hv⟩
   ·rw[if_neg hij] at hm I
    exact h.2 i m q hm I
  ·subst h4
   rw[r7 X h3];intro i m q hm I;rw[Array.getElem?_modify] at hm;rw[List.getElem?_set] at I;by_cases hij:j=i
   ·subst hij
    rw[if_pos rfl] at hm I;rw[h2] at hm;rw[if_pos (List.getElem?_eq_some_iff.1 h3).1] at I;simp only[Option.map_some,Option.some.injEq] at hm I;subst hm;subst I;exact .inl ⟨rfl,rfl⟩
   ·rw[if_neg hij] at hm I
    refine .inr ⟨fun e=>hij ?_,m,hm,I,rfl⟩;have h6:(l.map (·.1))[j]? = some p.1:=by simp[h3]
    have h7:(l.map (·.1))[i]? = some p.1:=by simp[I,e]
    obtain⟨aj,a1⟩:=List.getElem?_eq_some_iff.1 h6;obtain⟨a6,a7⟩:=List.getElem?_eq_some_iff.1 h7;have a8:=List.pairwise_iff_getElem.1 X;rcases Nat.lt_trichotomy j i with J | heq | b2
    ·exact absurd (a1.trans a7.symm) (a8 j i aj a6 J)
    ·exact heq
    ·exact absurd (a7.trans a1.symm) (a8 i j a6 aj b2)
open Classical in
theorem DV (gq U:Nat) {mt k e:Nat} {td:bM} {m kx x:Operand} {g g2 b:Nat} {cq:List A} {l:List (α×List γ)} {a:α} {y:List γ} (hm:av f m=some (.d (.v (.map (some b))))) (hq:ah bx gq=some cq) (hj:cq[U]? = some (.mo g (fS kf fn l) (some (kf a)) (some b)))
 (hk:av f kx=some (.d (.v (kf a)))) (hx:av f x=some (.own g2 (y.map fn))) (ht:ah T.l mt=some td) (gj:td.k=.map k e) (M:iS P k kf) (hf:(lv.any fun h=>Nat.beq h g)=true) (e5:(lv.any fun h=>Nat.beq h g2)=true) (hg:Nat.beq g2 g=false) (hn:(l.map (·.1)).Nodup)
 {lv':List Nat} (hh:gen::br (br lv g) g2=lv') {di:List A} (ho:cq.set U (.mo gen (fS kf fn (cH l a y)) none none)=di)
 (h:WO P C n ops Q rest ⟨f,(gq,di)::bx,lv',gen+1⟩):WO P C n ops Q (⟨none,.mapUpdate mt m kx x,ty,pos,af,none⟩::rest) ⟨f,bx,lv,gen⟩:=by
 subst ho;subst hh;refine WO.step (st:=⟨f,bx,lv,gen⟩) rfl fun tmps w ⟨G,hs⟩=>?_;have b2:=hs.av hm;have ch:=hs.av hk;have dj:=hs.av hx;generalize hv:Act.eval ⟨tmps,[]⟩ m=v at b2;generalize hy:Act.eval ⟨tmps,[]⟩ kx=vk at ch;generalize hA:Act.eval ⟨tmps,[]⟩ x=vx at dj;cases b2 with | d b2=>cases b2 with | v _ hT=>
 cases ch with | d ch=>cases ch with | v _ hok=>
 obtain⟨r2,aj⟩:=hs.live g2 (cQ e5)
 cases dj with
 | own _ _ _ hD hS hE=>
 obtain⟨s,hF,a1⟩:=hE r2 aj;have hG:g2≠g:=fun e=>by subst e;simp at hg
 obtain⟨b0,a6,T0,p1,p2,p3,p4,p5⟩:=hs.box gq cq hq;have hH:U < a6.size:=by rw[p3];exact(List.getElem?_eq_some_iff.1 hj).1
 have dt:a6[U]? = some a6[U]:=by simp[hH]
 have ad:=p5 U _ _ dt hj;have dx:a6[U]=.map (some b):=by generalize a6[U]=y at ad;cases ad with | mo _ _ _ _ _ _ h1 _=>exact h1.2 b rfl
 rw[dx] at ad;obtain⟨b',bs,me,clock,ps,ed,ei,N⟩:=hs.Cn ad (cQ hf);simp only[Value.map.injEq,Option.some.injEq] at ei;subst ei;obtain⟨J,I,e6,fj,cl,ej⟩:=pF (P:=P) T (y:=y) ht gj M N.hb N.st N.mi hn a hok hD;have h0:(execOp (Act.eval ⟨tmps,[]⟩) ⟨none,.mapUpdate mt m kx x,ty,pos,af,none⟩).run P w=.ok .skip { w with heap:=w.heap.setIfInBounds b (.map J I) }:=by unfold execOp;show Sem.run P _ w=.ok _ _;simp only[hv,hy,hA,Sem.run_bind,e6,Result.andThen_ok,Sem.run_pure]
 obtain⟨fo,fs⟩:=heap_set (o':=Obj.map J I) N.hb;obtain⟨bs',oc,ft,gb,en⟩:∃ (bs':List (Nat×Nat)) (oc:Option Nat),(∀ p∈bs,p∈bs')∧(∀ p∈bs',p∈bs∨∃ len cap sz,r2=.blk p.1 len cap sz p.2)∧(mS w oc bs' vx (y.map fn)∧∀ c,oc=some c→∃ len cap sz Z,r2=.blk c len cap sz Z):=by
  cases r2 with
  | nil=>exact⟨bs,none,fun _ h=>h,fun _ h=>.inl h,.inl ⟨a1.1,List.eq_nil_of_length_eq_zero a1.2⟩,fun c X=>by cases X⟩
  | zero c=>exact⟨bs,none,fun _ h=>h,fun _ h=>.inl h,.inr ⟨c,a1⟩,fun c X=>by cases X⟩
  | mp _ _=>exact a1.elim
  | blk c len cap sz Z=>
    obtain⟨t1,t2,t3,t4⟩:=a1;obtain⟨_,_,_,cur,T1,u1,u2,u3,u4,u5,u6,u7,u8⟩:=hs.row g2 c len cap sz Z aj;refine⟨(c,Z)::bs,some c,fun p hp=>List.mem_cons_of_mem _ hp,fun p hp=>?_,⟨cap,sz,cur,T1,by rw[t1,t2],?_,fun e he=>(hF e he).trans t3,u5,by omega,by omega,u4,u1,u2,u8⟩,fun c' hI=>by cases hI;exact⟨len,cap,sz,Z,rfl⟩⟩
    ·rcases List.mem_cons.1 hp with rfl | hp
     ·exact .inr ⟨len,cap,sz,rfl⟩
     ·exact .inl hp
    ·rw[t2,←t4];exact List.mem_cons_self
 obtain⟨G',hK,hL,hle,hM⟩:=hs.join ed aj hG gb J I (br (br lv g) g2) (fun g' hN=>by obtain⟨t1,t2⟩:=cP hN;obtain⟨t3,t4⟩:=cP t1;exact⟨t3,t4,t2⟩);have a7:∀ {c:Nat} {cs:Array Value} {T:TypeId} {ff:Nat×Nat},w.heap[c]? = some (.cells cs T ff)→(w.heap.setIfInBounds b (.map J I))[c]? = w.heap[c]?:=fun {c cs T ff} X=>fs c (fun e=>by rw[e,N.hb] at X;cases X);have cx:∀ {o:Option Nat} {v:Value} {z:List (List D)} {cy c1:List (Nat×Nat)},mS w o cy v z→(∀ p∈cy,p∈c1)→mS { w with heap:=w.heap.setIfInBounds b (.map J I) } o c1 v z:=fun {o v z cy c1} hz hO=>by
  cases o with
  | none=>exact hz
  | some c=>obtain⟨cap,sz,cur,T1,t1,t2,t3,t4,t5,t6,t7,t8,t9⟩:=hz;exact⟨cap,sz,cur,T1,t1,hO _ t2,t3,t4,t5,t6,t7,(a7 t8).trans t8,t9⟩
 have a8:∀ (p:α×List γ) (c:Nat),p∈l→p.1≠a→ps (kf p.1)=some c→∃ lim,(c,lim)∈bs:=fun p c hp cj X=>by
  obtain⟨i,hi⟩:=List.mem_iff_getElem?.1 hp;have c6:i < me.size:=by rw[N.mi.1];exact(List.getElem?_eq_some_iff.1 hi).1
  have:=N.at_ i me[i] p (by simp[c6]) hi (fun e=>cj (M.inj _ _ (Option.some.inj e)).symm);rw[X] at this;obtain⟨cap,sz,cur,T1,t1,t2,_⟩:=this;exact⟨_,t2⟩
 have ai:∀ p∈cH l a y,p.1≠a→p∈l:=fun p hp cj=>by
  obtain⟨i,hi⟩:=List.mem_iff_getElem?.1 hp;have c6:i < J.size:=by rw[cl.1];exact(List.getElem?_eq_some_iff.1 hi).1
  rcases ej i J[i] p (by simp[c6]) hi with ⟨e,_⟩ | ⟨_,m0,_,e,_⟩
  ·rw[e] at cj;exact absurd rfl cj
  ·exact List.mem_of_getElem? e
 have c7:∀ (c:Nat),oc=some c→∀ lim,(c,lim)∉bs:=fun c X lim hm=>by obtain⟨len,cap,sz,Z,e⟩:=en.2 c X;rw[e] at aj;exact(hs.sub g b bs c lim ed hm).2.2.1 _ _ _ _ _ aj
 have gi:nZ { w with heap:=w.heap.setIfInBounds b (.map J I) } (bc C G') b bs' kf fn (cH l a y) none J I (fun k=>if k=kf a then oc else ps k):=by
  refine⟨fo,fj,cl.mono fun b o u hu hp=>hle.cell b o u hu hp,fun p p' c hp e0 _ _ q3 q4=>?_,fun i mm p hP hp _=>?_⟩
  ·by_cases e1:p.1=a
   ·by_cases O:p'.1=a
    ·rw[e1,O]
    ·rw[e1,if_pos rfl] at q3
     rw[if_neg (fun e=>O (M.inj _ _ e))] at q4;obtain⟨lim,hm⟩:=a8 p' c (ai p' e0 O) O q4;exact absurd hm (c7 c q3 lim)
   ·rw[if_neg (fun e=>e1 (M.inj _ _ e))] at q3
    by_cases O:p'.1=a
    ·rw[O,if_pos rfl] at q4
     obtain⟨lim,hm⟩:=a8 p c (ai p hp e1) e1 q3;exact absurd hm (c7 c q4 lim)
    ·rw[if_neg (fun e=>O (M.inj _ _ e))] at q4
     exact N.inj p p' c (ai p hp e1) (ai p' e0 O) (fun e=>e1 (M.inj _ _ (Option.some.inj e)).symm) (fun e=>O (M.inj _ _ (Option.some.inj e)).symm) q3 q4
  ·rcases ej i mm p hP hp with ⟨e,O⟩ | ⟨e,m0,O,e3,e4⟩
   ·rw[e,O]
    simp only[if_true];exact cx en.1 (fun _ h=>h)
   ·rw[if_neg (fun e'=>e (M.inj _ _ e')),←e4]
    exact cx (N.at_ i m0 p O e3 (fun e'=>e (M.inj _ _ (Option.some.inj e')).symm)) ft
 refine gC h0 ⟨_,⟨G',hM.oo (f:=f) (bx:=bx) (lv:=gen::br (br lv g) g2) (gen:=gen+1) hq (by simp) fun b3 hV T3 q1 q2 q3 i x' a' df ha=>?_⟩,h⟩;by_cases e:U=i
 ·subst e
  have hQ:U < cq.length:=(List.getElem?_eq_some_iff.1 hj).1;rw[List.getElem?_set_self hQ] at ha;simp only[Option.some.injEq] at ha;subst ha;rw[hK,p1] at q1;cases q1;rw[show({ w with heap:=w.heap.setIfInBounds b (.map J I) }:World).heap[b0]? = w.heap[b0]? from a7 p2,p2] at q2;cases q2;rw[dt,dx] at df;cases df;exact .mo _ _ _ _ _ (by simp[aA]) ⟨rfl,fun b' hR=>by cases hR⟩ (fun r hr=>by have:G'.own gen=some r:=hr;rw[hL] at this;cases this;exact gi.to)
 ·rw[List.getElem?_set_ne e] at ha
  exact q3 i x' a' df ha
end
end Go.Ab
namespace Go.Ab
end Go.Ab
namespace Go.Ab
open Go.RowKit
def bd (c:UInt8):List D:=[.v (.int .u8 c.toNat)]
def nN (s:ByteArray):List (List D):=s.data.toList.map bd
theorem rT (s:ByteArray):(nN s).length=s.size:=by rw[nN,List.length_map,Array.length_toList];rfl
theorem rS {s:ByteArray}:∀ (e:List D),e∈nN s→e.length=1:=by intro e he;obtain⟨c,_,rfl⟩:=List.mem_map.1 he;rfl
theorem Ai {arr:Array Value} {s:ByteArray} {w:World} {pv:Nat→Nat→Prop} (h:∀ (i:Nat) (c:UInt8),s.data[i]? = some c→arr[i]? = some (.int .u8 c.toNat)) :
 ∀ (i j:Nat) (e:List D) (d:D),(nN s)[i]? = some e→e[j]? = some d→∃ u,arr[i*1+j]? = some u∧aO w pv u d:=by
 intro i j e d hi hj;simp only[nN,List.getElem?_map,Option.map_eq_some_iff] at hi;obtain⟨c,I,rfl⟩:=hi
 match j with
 | 0=>simp[bd] at hj;subst hj;refine⟨_,by rw[Nat.mul_one,Nat.add_zero];exact h i c (by simpa using I),.v _ ?_⟩;have:=c.toNat_lt;simp[cu,IntKind.min,IntKind.max,IntKind.signed,IntKind.bits];omega
 | j+1=>simp[bd] at hj
theorem eS {s:ByteArray} {i:Nat} {c:UInt8} (h:s.data[i]? = some c):(Lib.strCells s)[i]? = some (.int .u8 c.toNat):=by simp only[Lib.strCells,List.getElem?_map,Array.getElem?_toList,h,Option.map_some]
theorem jg (s:ByteArray):∀ u∈Lib.strCells s,u.oneCell'=true:=fun u hu=>by
 obtain⟨i,hi⟩:=List.mem_iff_getElem?.1 hu;have hj:i < s.data.size:=by have:=(List.getElem?_eq_some_iff.1 hi).1;rw[Lib.strCells_length] at this;exact this
 have I:s.data[i]? = some s.data[i]:=by simp[hj]
 rw[eS I] at hi;rw[←Option.some.inj hi];rfl
theorem vu:∀ u∈(Value.int IntKind.u8 0).cells.toList,u.oneCell'=true:=fun u hu=>by simp[Value.cells] at hu;subst hu;rfl
theorem oO (a b:ByteArray):Lib.strCells (a++b)=Lib.strCells a++Lib.strCells b:=by simp[Lib.strCells]
theorem vJ (a b:ByteArray):(a++b).size=a.size+b.size:=by simp[ByteArray.size_append]
theorem tZ {E:En} {v:Value} {g T:Nat} {s:ByteArray} (h:aD E v (.xs g (nN s))) (I:v=.slice none 0 0∨∃ b n c cs f,v=.slice (some ⟨b,0,none⟩) n c∧0 < n∧E.w.heap[b]? = some (.cells cs T f)):aD E v (.bf g T s):=by
 cases h with
 | xs _ _ _ X h1 h=>
 refine .bf v g T s X h1 fun r Z=>?_;have J:=h r Z
 cases r with
 | nil=>exact⟨J.1,by rw[←rT,J.2];rfl⟩
 | zero b=>
   obtain⟨h2,h3⟩:=J;rcases I with I | ⟨b',n,c,cs,f,I,hn,_⟩
   ·rw[I] at h2;cases h2
   ·rw[I] at h2;simp only[Value.slice.injEq] at h2;omega
 | mp b bs=>exact J.elim
 | blk b len cap sz ad=>
   obtain⟨h2,h3,h4,h5,h6⟩:=J;rcases I with I | ⟨b',n,c,cs,f,I,hn,M⟩
   ·rw[I] at h2;cases h2
   ·rw[I] at h2
    simp only[Value.slice.injEq,Option.some.injEq,Addr.mk.injEq,and_true] at h2;obtain⟨rfl,rfl,rfl⟩:=h2;have N:sz=1:=by
     have h0:0 < (nN s).length:=by omega
     rw[←h5 _ (List.getElem_mem h0),rS _ (List.getElem_mem h0)]
    subst N;refine⟨I,by rw[←rT];exact h3,rfl,h4,⟨cs,f,M⟩,fun i O hc=>?_⟩;obtain⟨u,U,h8⟩:=h6 i 0 (bd O) (.v (.int .u8 O.toNat)) (by simp only[nN,List.getElem?_map,Array.getElem?_toList,hc,Option.map_some]) rfl;cases h8;rw[Nat.mul_one,Nat.add_zero] at U;exact U
structure qB (P:Program) (w:World) (A:Array TypeId) (ty:TypeId) (x2:Value) (m:ByteArray) (T:TypeId):Prop where
 emp:m.size=0→(Builtin.append_ A ty #[.slice none 0 0,x2]).run P w=.ok (.slice none 0 0) w
 new:0 < m.size→(Builtin.append_ A ty #[.slice none 0 0,x2]).run P w=.ok (.slice (some ⟨w.heap.size,0,none⟩) m.size (grownCap w m.size 0 T))
  (w.drew.alloc (.cells ((Lib.strCells m).toArray++Builtin.zeroCells (Value.int .u8 0).cells (grownCap w m.size 0 T - m.size)) T))
 room:∀ (b n cap:Nat) (cur:Array Value),w.heap[b]? = some (.cells cur T (0,0))→n+m.size≤cap→n+m.size≤cur.size →
  (Builtin.append_ A ty #[.slice (some ⟨b,0,none⟩) n cap,x2]).run P w=.ok (.slice (some ⟨b,0,none⟩) (n+m.size) cap) (w.setRow b (cur.toList.take n++Lib.strCells m++cur.toList.drop (n+m.size)).toArray)
 grow:∀ (b n cap:Nat) (olds:List Value),olds.length=n→(∀ j u,olds[j]? = some u→w.cell? ((⟨b,0,none⟩:Addr).add j)=some u)→cap < n+m.size→n+m.size≤140737488355328 →
  (Builtin.append_ A ty #[.slice (some ⟨b,0,none⟩) n cap,x2]).run P w=.ok (.slice (some ⟨w.heap.size,0,none⟩) (n+m.size) (grownCap w (n+m.size) cap T))
   (w.drew.alloc (.cells (olds.toArray++(Lib.strCells m).toArray++Builtin.zeroCells (Value.int .u8 0).cells (grownCap w (n+m.size) cap T - (n+m.size))) T))
theorem qB.string {P:Program} {w:World} {t u ty T:TypeId} {i:TypeInfo} (I:P.underlying t=some (.slice T)) (hu:P.underlying u=some .string) (hi:P.info? T=some i) (N:i.zero=some (.int .u8 0)) (hs:i.size=1) (hb:i.bytes=1) {m:ByteArray} (hm:m.size≤140737488355328) :
 qB P w #[t,u] ty (.string m) m T:=by
 refine⟨fun h0=>?_,fun h0=>?_,fun b n cap cur X h1 h2=>Lib.run_append_room_string (P:=P) w t u ty T i I hu hi hs b n cap cur X m h1 h2,fun b n cap M ho J h1 h2=>?_⟩
 ·have O:=Lib.run_firstCells_string (P:=P) w 1 m
  rw[h0] at O;simp[Builtin.append_,run_underlying I,run_underlying hu,sizeOf,typeInfo,hi,hs,Builtin.lenOf,h0,O]
 ·have U:=run_append_nil_string (P:=P) w t u ty T i (.int .u8 0) I hu hi N m h0 (by omega) (by rw[hb];omega)
  have Z:(m.data.map fun b=>Value.int .u8 b.toNat)=(Lib.strCells m).toArray:=by apply Array.ext';simp[Lib.strCells]
  rw[Z] at U;exact U
 ·exact Lib.run_append_grow_string (P:=P) w t u ty T i (.int .u8 0) I hu hi N ⟨b,0,none⟩ n cap M (by rw[hs];omega) J m h1 (by omega) (by rw[hb];exact growslice_fits (by omega) (by omega))
theorem qB.one {P:Program} {w:World} {t ty T:TypeId} {i:TypeInfo} (N:P.underlying t=some (.slice T)) (hi:P.info? T=some i) (U:i.zero=some (.int .u8 0)) (hs:i.size=1) (hb:i.bytes=1) {a:Addr} {c:Nat} {m:ByteArray} (hm:0 < m.size) (Z:m.size≤140737488355328)
 (I:∀ j u,(Lib.strCells m)[j]? = some u→w.cell? (a.add j)=some u):qB P w #[t,t] ty (.slice (some a) m.size c) m T:=by
 have hl:(Lib.strCells m).length=m.size*i.size:=by rw[Lib.strCells_length,hs,Nat.mul_one]
 refine⟨fun h0=>by omega,fun h0=>?_,fun b n cap cur X h1 h2=>?_,fun b n cap O ho J h1 h2=>?_⟩
 ·have M:=run_append_nil (P:=P) w t ty T i (.int .u8 0) N hi U a m.size c (Lib.strCells m) hl I h0 (by omega) (by rw[hb];omega)
  exact M
 ·have M:=run_append_room (P:=P) w t ty T i N hi b n cap cur X a m.size c (Lib.strCells m) hl I (Lib.strCells_oneCell m) h1 (by rw[hs,Nat.mul_one,Lib.strCells_length];exact h2)
  rw[hs,Nat.mul_one,Lib.strCells_length] at M;exact M
 ·exact run_append_grow (P:=P) w t ty T i (.int .u8 0) N hi U ⟨b,0,none⟩ n cap O (by rw[hs];omega) J a m.size c (Lib.strCells m) hl I h1 (by omega) (growslice_fits (by omega) (by rw[hb];omega))
section
variable {P:Program} {C:Ctx} {n:Nat} {st:St} {G:Gh} {tmps:Array Value} {w:World}
theorem rK (h:ax C n st G tmps w) {g:Nat} {r:Row} (hg:G.own g=some r) {v:Value} {T:Nat} {s:ByteArray} (hv:v.oneCell'=true) (hx:vQ w r v T s) {A:Array TypeId} {ty:TypeId} {x2:Value} {m:ByteArray} (ha:qB P w A ty x2 m T)
    (hb:s.size+m.size≤140737488355328) :
    ∃ v' w',(Builtin.append_ A ty #[v,x2]).run P w=.ok v' w'∧∃ G':Gh,G'.box=G.box∧ax C n { st with lv:=st.gen::br st.lv g,gen:=st.gen+1 } G' tmps w'∧aD (aA C G' (st.gen+1) w') v' (.bf st.gen T (s++m)):=by
  have hlen:(nN (s++m)).length=s.size+m.size:=by rw[rT,vJ]
  have hmx:s.size+m.size≤maxLen:=by simp only[maxLen];omega
  have hlv:∀ g'∈br st.lv g,g'∈st.lv∧g'≠g:=fun g' hg'=>cP hg'
  have newB:∀ (cap:Nat) (arr:Array Value),eN arr→arr.size=cap→s.size+m.size≤cap→cap≤maxLen→0 < s.size+m.size→(∃ rest,arr.toList=Lib.strCells (s++m)++rest) →
      ∃ G':Gh,G'.box=G.box∧ax C n { st with lv:=st.gen::br st.lv g,gen:=st.gen+1 } G' tmps (w.drew.alloc (.cells arr T)) ∧
        aD (aA C G' (st.gen+1) (w.drew.alloc (.cells arr T))) (.slice (some ⟨w.heap.size,0,none⟩) (s.size+m.size) cap) (.bf st.gen T (s++m)):=by
    intro cap arr h1c h1 h2 h3 h4 ⟨rest,h5⟩
    have hb':Below w.heap.size w (w.drew.alloc (.cells arr T)):=((Below.refl _ w).drew).alloc (Nat.le_refl _) _
    have hblk:(w.drew.alloc (.cells arr T)).heap[w.heap.size]? = some (.cells arr T (0,0)):=heap_alloc_new w.drew _
    obtain⟨G',hG,hs',hr'⟩:=(h.newRow true hb' hblk (cap:=cap) (sz:=1) (es:=nN (s++m)) (by rw[h1,Nat.mul_one]) h1c (by rw[hlen];exact h2) h3 Nat.one_pos (by rw[hlen];exact h4) rS
      (Ai fun i c hc=>by
        have:=eS hc
        rw[←Array.getElem?_toList,h5,List.getElem?_append_left (by rw[List.getElem?_eq_some_iff] at this;exact this.1)]
        exact this) (fun x=>x=g) (br st.lv g) hlv).xg
    rw[hlen] at hr'
    exact⟨G',hG,hs',tZ hr' (.inr ⟨_,_,_,arr,(0,0),rfl,h4,hblk⟩)⟩
  cases r with
  | zero b=>exact hx.elim
  | mp b bs=>exact hx.elim
  | nil=>
    obtain⟨rfl,hs0⟩:=hx
    have e0:s++m=m:=by
      have:s=ByteArray.empty:=by
        apply ByteArray.ext
        exact Array.eq_empty_of_size_eq_zero hs0
      rw[this];simp
    by_cases hm:m.size=0
    · refine⟨_,w,ha.emp hm,?_⟩
      obtain⟨G',hG,hs',hr'⟩:=(h.lN (m:=true) hg (es:=nN (s++m)) (v:=.slice none 0 0) ⟨rfl,rfl,List.eq_nil_of_length_eq_zero (by rw[hlen];omega)⟩ (br st.lv g) hlv).xg
      exact⟨G',hG,hs',tZ hr' (.inl rfl)⟩
    · have hge:=grownCap_ge w m.size 0 T
      have hcm:=grownCap_le_maxLen w m.size 0 T (by omega)
      refine⟨_,_,ha.new (by omega),?_⟩
      have:=newB (grownCap w m.size 0 T) ((Lib.strCells m).toArray++Builtin.zeroCells (Value.int .u8 0).cells (grownCap w m.size 0 T - m.size)) (by have:=ns (l1:=[]) (k:=grownCap w m.size 0 T - m.size) (by simp) (jg m) vu;exact eN.mem fun u hu=>this.of u (by simpa using hu)) (by
        have hz1:(Value.int IntKind.u8 0).cells.size=1:=rfl
        simp only[Array.size_append,List.size_toArray,size_zeroCells,hz1,Lib.strCells_length]
        omega) (by omega) hcm (by omega) ⟨_,by rw[e0];simp;rfl⟩
      rw[show s.size+m.size=m.size by omega] at this
      exact this
  | blk b len cap sz pub=>
    obtain⟨rfl,h2,rfl,rfl,⟨cs,f,hT⟩,h6⟩:=hx
    obtain⟨hmine,hnb,huniq,cur,T',hcur,hcs,hlc,hcm,_,hpos,_,hone⟩:=h.row g b len cap 1 0 hg
    rw[hcur] at hT
    simp only[Option.some.injEq,Obj.cells.injEq] at hT
    obtain⟨rfl,rfl,rfl⟩:=hT
    subst h2
    have htk:cur.toList.take s.size=Lib.strCells s:=by
      apply List.ext_getElem?
      intro t
      rw[List.getElem?_take]
      split
      · rename_i hlt
        have hc:s.data[t]? = some (s.data[t]'hlt):=Array.getElem?_eq_getElem hlt
        have h7:=h6 t _ hc
        rw[bH hcur] at h7
        rw[eS hc]
        simpa using h7
      · rename_i hge
        rw[List.getElem?_eq_none (by rw[Lib.strCells_length];omega)]
    by_cases hroom:s.size+m.size≤cap
    · have hfit:s.size+m.size≤cur.size:=by omega
      refine⟨_,_,ha.room b s.size cap cur hcur hroom hfit,?_⟩
      obtain⟨G',hG,hs',hr'⟩:=(h.oV true (g:=g) (b:=b) (len:=s.size) (cap:=cap) (sz:=1) (arr:=(cur.toList.take s.size++Lib.strCells m++cur.toList.drop (s.size+m.size)).toArray) (es:=nN (s++m)) (by simpa [fB] using hg) hcur (by simp[Lib.strCells_length];omega) (jQ hone (jg m)) (fun t ht=>by simp[fB] at ht) (by omega) (by omega) rS
        (Ai fun i c hc=>by
          have:=eS hc
          rw[List.getElem?_toArray,htk,←oO,List.getElem?_append_left (by rw[List.getElem?_eq_some_iff] at this;exact this.1)]
          exact this) (br st.lv g) hlv).xg
      rw[hlen] at hr'
      exact⟨G',hG,hs',tZ hr' (.inr ⟨b,_,_,_,(0,0),rfl,by omega,setRow_heap w b cur _ _ (0,0) hcur⟩)⟩
    · have hge:=grownCap_ge w (s.size+m.size) cap T'
      have hcm':=grownCap_le_maxLen w (s.size+m.size) cap T' (by omega)
      refine⟨_,_,ha.grow b s.size cap (Lib.strCells s) (Lib.strCells_length s) (fun j u hj=>?_) (by omega) hb,?_⟩
      · have hj':j < s.data.size:=by have:=(List.getElem?_eq_some_iff.1 hj).1;rw[Lib.strCells_length] at this;exact this
        have hc:s.data[j]? = some s.data[j]:=by simp[hj']
        rw[eS hc] at hj
        have h7:=h6 j _ hc
        rw[Option.some.inj hj] at h7
        unfold Addr.add
        split
        · rename_i e;subst e;simpa [cellAt] using h7
        · simpa [cellAt] using h7
      · exact newB (grownCap w (s.size+m.size) cap T') _ (by have:=ns (k:=grownCap w (s.size+m.size) cap T' - (s.size+m.size)) (jg s) (jg m) vu;exact eN.mem fun u hu=>this.of u (by simpa using hu)) (by
          have hz1:(Value.int IntKind.u8 0).cells.size=1:=rfl
          simp only[Array.size_append,List.size_toArray,size_zeroCells,hz1,Lib.strCells_length]
          omega) (by omega) hcm' (by omega) ⟨_,by rw[oO];simp[List.append_assoc];rfl⟩
end
end Go.Ab
namespace Go.Ab
open Go.RowKit
section
variable {P:Program} (T:bF P) {C:Ctx} {n:Nat} {ops:Array Oper} {Q:Exit→St→Prop} {rest:List Oper}
variable {f:List (Nat×A)} {bx:List (Nat×List A)} {lv:List Nat} {gen:Nat} {d:Nat} {ty:TypeId} {pos:String} {af:Array Edge} {dst:Option Nat}
theorem ux {o:Oper} {act:Act} {x y:Operand} {t u:Nat} (J:o.op=.call ⟨.builtin .append,#[x,y],#[t,u]⟩) {w w':World} {I:Value}
 (h:(Builtin.append_ #[t,u] o.type #[act.eval x,act.eval y]).run P w=.ok I w'):(execOp act.eval o).run P w=.ok (.value I) w':=by
 unfold execOp;rw[J];show Sem.run P (do let d ←resolve act.eval ⟨.builtin .append,#[x,y],#[t,u]⟩ o.type;invoke d.target d.args) w=_;simp only[resolve,invoke,builtin,Sem.run_bind,Sem.run_pure,Result.andThen_ok,List.map_toArray,List.map_cons,List.map_nil,h]
def uh (d:bM):Bool:=(Nat.beq d.n 1 && Nat.beq d.b 1 && oM d.z [.int .u8 0]) && (match d.k with | .int _=>true | _=>false)
theorem bF.byte {e:Nat} {d:bM} (h:ah T.l e=some d) (hb:uh d=true):∃ i,P.info? e=some i∧i.zero=some (.int .u8 0)∧i.size=1∧i.bytes=1:=by
 simp only[uh,Bool.and_eq_true] at hb;obtain⟨i,z,hi,h1,h2,M,I,_,_,N⟩:=T.info h;have U:=Nat.eq_of_beq_eq_true hb.1.1.1;have X:=Nat.eq_of_beq_eq_true hb.1.1.2;have O:=oW hb.1.2;have J:=hb.2;refine⟨i,hi,?_,by omega,by omega⟩;rw[M];rw[O] at I;cases hkd:d.k <;> rw[hkd] at J N <;> first | (cases J;done) | skip
 cases z <;> simp_all[Value.cells]
theorem yM {x y:Operand} {t u e:Nat} {U X Z:bM} {g:Nat} {s m:ByteArray} (hx:av f x=some (.bf g e s)) (hy:av f y=some (.d (.v (.string m)))) (ht:ah T.l t=some U) (hk:U.k=.slice e) (hu:ah T.l u=some X) (ad:X.k=.str) (he:ah T.l e=some Z) (ai:uh Z=true)
 (aj:(lv.any fun h=>Nat.beq h g)=true) (hd:Nat.blt d n=true) (hb:s.size+m.size≤140737488355328) {r:ByteArray} (M:s++m=r) {lv':List Nat} (a1:gen::br lv g=lv')
 (h:WO P C n ops Q rest ⟨(d,.bf gen e r)::f,bx,lv',gen+1⟩):WO P C n ops Q (⟨some d,.call ⟨.builtin .append,#[x,y],#[t,u]⟩,ty,pos,af,none⟩::rest) ⟨f,bx,lv,gen⟩:=by
 subst M;subst a1;refine WO.step (st:=⟨f,bx,lv,gen⟩) rfl fun tmps w ⟨G,hs⟩=>?_;have M:=hs.av hx;have I:=hs.av hy;obtain⟨r,N⟩:=hs.live g (cQ aj);generalize hv:Act.eval ⟨tmps,[]⟩ x=v at M;generalize a6:Act.eval ⟨tmps,[]⟩ y=v2 at I
 cases M with
 | bf _ _ _ _ ch h1 O=>
 cases I with | d I=>cases I with | v _ _=>
 obtain⟨i,hi,hz,a7,a8⟩:=T.byte he ai;have b0:P.underlying u=some .string:=T.im hu ad;obtain⟨v',w',J,G',_,b2,b3⟩:=rK (ty:=ty) hs N h1 (O r N) (qB.string (P:=P) (w:=w) (ty:=ty) (T.fh ht hk) b0 hi hz a7 a8 (m:=m) (by omega)) hb;rw[←hv,←a6] at J;exact bZ (ux rfl J) ⟨_,⟨G',b2.put (dst:=some d) (bX (dst:=some d) hd) b3⟩,h⟩
theorem wB {x y:Operand} {t e:Nat} {td ed:bM} {g:Nat} {s:ByteArray} {c:Int} (hx:av f x=some (.bf g e s)) (hy:av f y=some (.d (.sl [[.v (.int .u8 c)]]))) (ht:ah T.l t=some td) (hk:td.k=.slice e) (he:ah T.l e=some ed) (a8:uh ed=true)
 (b3:(lv.any fun h=>Nat.beq h g)=true) (hd:Nat.blt d n=true) (m:ByteArray) (hm:m.size=1) (ch:∀ b,m.data[0]? = some b→(b.toNat:Int)=c) (hb:s.size+1≤140737488355328) {r:ByteArray} (N:s++m=r) {lv':List Nat} (cj:gen::br lv g=lv')
 (h:WO P C n ops Q rest ⟨(d,.bf gen e r)::f,bx,lv',gen+1⟩):WO P C n ops Q (⟨some d,.call ⟨.builtin .append,#[x,y],#[t,t]⟩,ty,pos,af,none⟩::rest) ⟨f,bx,lv,gen⟩:=by
 subst N;subst cj;refine WO.step (st:=⟨f,bx,lv,gen⟩) rfl fun tmps w ⟨G,hs⟩=>?_;have N:=hs.av hx;have I:=hs.av hy;obtain⟨r,U⟩:=hs.live g (cQ b3);generalize hv:Act.eval ⟨tmps,[]⟩ x=v at N;generalize cl:Act.eval ⟨tmps,[]⟩ y=v2 at I
 cases N with
 | bf _ _ _ _ dt h1 a1=>
 cases I with | d I=>cases I with
 | sl b2 J dj a6 cq _ u2 X dx ei cx cy I=>
 simp only[List.length_cons,List.length_nil,Nat.zero_add] at X;subst X;have a7:cq=1:=by have:=cx 0 _ rfl;simpa using this.symm
 subst a7;have Z:=(cy 0 0 (by omega) (by omega)).1;have ad:=I 0 0 _ _ rfl rfl;obtain⟨b0,ai⟩:∃ b0,m.data[0]? = some b0:=⟨m.data[0]'(by have:m.data.size=1:=hm;omega),by have:m.data.size=1:=hm;simp[this]⟩;have O:∀ j q,(Lib.strCells m)[j]? = some q→w.cell? ((⟨b2,J,none⟩:Addr).add j)=some q:=by
  intro j q hq;have hj:j=0:=by have:=(List.getElem?_eq_some_iff.1 hq).1;rw[Lib.strCells_length,hm] at this;omega
  subst hj;rw[eS ai,ch b0 ai] at hq;generalize u2 0 0=z at Z ad;cases ad;cases hq;have c1:w.cell? ⟨b2,J+0*1+0,none⟩=some (.int .u8 c):=Z;simpa [Addr.add] using c1
 obtain⟨i,hi,hz,c6,c7⟩:=T.byte he a8;have aj:=qB.one (P:=P) (w:=w) (ty:=ty) (c:=a6) (T.fh ht hk) hi hz c6 c7 (a:=⟨b2,J,none⟩) (m:=m) (by omega) (by omega) O;rw[hm] at aj;obtain⟨v',w',M,G',_,df,di⟩:=rK (ty:=ty) hs U h1 (a1 r U) aj (by rw[hm];exact hb);rw[←hv,←cl] at M;exact bZ (ux rfl M) ⟨_,⟨G',df.put (dst:=some d) (bX (dst:=some d) hd) di⟩,h⟩
theorem AA (k:Nat) {e:TypeId} {ed:bM} (he:ah T.l e=some ed) (hz:oM ed.z [.pointer none,.slice none 0 0]=true) (hd:Nat.blt d n=true)
 (h:WO P C n ops Q rest ⟨(d,.ptr gen 0)::f,(gen,[.np gen e false,.bf (gen+1) k .empty])::bx,(gen+1)::lv,gen+2⟩):WO P C n ops Q (⟨some d,.alloc e,ty,pos,af,none⟩::rest) ⟨f,bx,lv,gen⟩:=by
 refine WO.step (st:=⟨f,bx,lv,gen⟩) rfl fun tmps w ⟨G,hs⟩=>?_;obtain⟨i,z,hi,_,_,aj,X,_,_,_⟩:=T.info he;rw[oW hz] at X;have N:z.cells=#[.pointer none,.slice none 0 0]:=by apply Array.ext';simpa using X
 obtain⟨G1,hle,a1,a6⟩:=hs.oX z.cells e [.any,.any] (by rw[N];rfl) (fun i u hu=>by
  rw[N] at hu
  match i with
  | 0=>simp at hu;subst hu;rfl
  | 1=>simp at hu;subst hu;rfl
  | i+2=>simp at hu) (fun i u a hu O=>by
  match i with
  | 0=>simp at O;subst O;exact .any _
  | 1=>simp at O;subst O;exact .any _
  | i+2=>simp at O)
 have J:(w.alloc (.cells z.cells e)).heap[w.heap.size]? = some (.cells z.cells e (0,0)):=heap_alloc_new w _;have a7:G1.box gen=some w.heap.size:=by
  cases a6 with
  | ptr _ _ _ b hg hb hx=>simp only[Value.pointer.injEq,Option.some.injEq,Addr.mk.injEq,and_true] at hx;rw[hx];exact hb
 obtain⟨G2,a8,Z,b0⟩:=(a1.my true (gen::lv |>.tail) (fun _ h=>h)).xg;have I:G2.box gen=some w.heap.size:=by rw[a8];exact a7
 have b2:=tZ (T:=k) (s:=.empty) (g:=gen+1) b0 (.inl rfl);have ad:=ax.xB (i:=1) (a':=.bf (gen+1) k .empty) Z Z rfl rfl (cells:=[.any,.any]) (g0:=gen) (by simp[ah]) (v:=.slice none 0 0) (fun b cs T' hb M=>by rw[I] at hb;cases hb;rw[J] at M;simp only[Option.some.injEq,Obj.cells.injEq] at M;rw[←M.1,N];rfl) (fun _ _=>rfl) b2;have ai:=ax.xB (i:=0) (a':=.np gen e false) ad ad rfl rfl (cells:=[.any,.bf (gen+1) k .empty]) (g0:=gen) (by simp[ah]) (v:=.pointer none) (fun b cs T' hb M=>by rw[I] at hb;cases hb;rw[J] at M;simp only[Option.some.injEq,Obj.cells.injEq] at M;rw[←M.1,N];rfl) (fun _ _=>rfl) (.np _ gen e w.heap.size (by simp[aA];omega) I ⟨_,_,J⟩ false rfl);have b3:ax C n ⟨f,(gen,[.np gen e false,.bf (gen+1) k .empty])::bx,(gen+1)::lv,gen+2⟩ G2 tmps (w.alloc (.cells z.cells e)):=by
  refine { ai with box:=fun g' c U=>?_ };refine ai.box g' c ?_;simp only[bR] at U ⊢;split;·rename_i e1;rw[if_pos e1] at U;exact U
  ·rename_i e1;rw[if_neg e1] at U;exact U
 refine bZ (v:=.pointer (some ⟨w.heap.size,0,none⟩)) (w':=w.alloc (.cells z.cells e)) ?_ ⟨_,⟨G2,b3.put (dst:=some d) (bX (dst:=some d) hd) (.ptr _ gen 0 w.heap.size (by simp[aA]) I rfl)⟩,h⟩;unfold execOp;show Sem.run P _ w=_;simp only[Instr.alloc,zeroValue,typeInfo,hi,aj,newVar,newRow,Sem.run_bind,run_program,run_newObj,Result.andThen_ok,Sem.run_pure];rfl
end
structure kP (P:Program) (e:TypeId) (f:FuncId):Prop where
 used:∀ (b:Nat) (w:World),w.cell? ⟨b,0,none⟩=some (.pointer (some ⟨b,0,none⟩))→Calls P f #[.pointer (some ⟨b,0,none⟩)] w fun e w'=>e=.returned (.tuple #[])∧w'=w
 fresh:∀ (b:Nat) (w:World),w.cell? ⟨b,0,none⟩=some (.pointer none)→w.shape? b=some (e,2)→w.frozen? ⟨b,0,none⟩=false →
  Calls P f #[.pointer (some ⟨b,0,none⟩)] w fun e w'=>e=.returned (.tuple #[])∧w'=w.setCell ⟨b,0,none⟩ (.pointer (some ⟨b,0,none⟩))
theorem wz {w:World} {b o:Nat} {cs:Array Value} {T:TypeId} {fr:Nat×Nat} (h:w.heap[b]? = some (.cells cs T fr)) (v:Value):w.setCell ⟨b,o,none⟩ v=w.setRow b (cs.setIfInBounds o v):=by
 have I:=(Array.getElem?_eq_some_iff.1 h).1;have e:w.heap.modify b (fun | .cells c elem frozen=>Obj.cells (c.setIfInBounds o v) elem frozen | o=>o)=w.heap.modify b (fun | .cells _ elem frozen=>Obj.cells (cs.setIfInBounds o v) elem frozen | o=>o):=by
  apply Array.ext_getElem?;intro k;simp only[Array.getElem?_modify];by_cases hk:b=k;·subst hk;simp only[if_pos rfl,h,Option.map_some]
  ·simp only[if_neg hk]
 exact congrArg (fun h=>({ w with heap:=h }:World)) e
theorem kP.BS {P:Program} [cd P] {e:TypeId} {f:FuncId} (hok:iQ P f) (h:kP P e f) (u:Bool) (a:A) (m:Nat):bz P f [.ptr 0 0] [[.np 0 e u,a]] m (.tup []) [[.np 0 e true,a]] m:=by
 refine⟨hok,rfl,fun C G M w hG hw b2 _ _ hs J a6=>?_⟩;obtain⟨b,cs,T',h1,h2,h3,h4,h5⟩:=hs.box 0 [.np 0 e u,a] (by simp[dT,ah]);have hv:M=#[.pointer (some ⟨b,0,none⟩)]:=by
  apply Array.ext_getElem?;intro i
  match i with
  | 0=>
    have h0:M[0]? = some (M[0]'(by simp at J;omega)):=by simp at J;simp[J]
    have:=a6 0 _ _ h0 rfl;rw[h0];generalize M[0]'(by simp at J;omega)=z at this
    cases this with
    | ptr _ _ _ N hg hb hx=>
      have O:N=b:=by have:=(hb:G.box 0=some N).symm.trans h1;simpa using this
      subst O;rw[hx];rfl
  | i+1=>simp at J;simp[J]
 have ai:cs[0]? = some (cs[0]'(by simp at h3;omega)):=by simp at h3;simp[h3]
 have aj:=h5 0 _ _ ai rfl;have I:w.cell? ⟨b,0,none⟩=some (cs[0]'(by simp at h3;omega)):=by have:=bH h2 0;rw[ai] at this;exact this
 have a7:aD (aA C G (1+m) w) (.pointer (some ⟨b,0,none⟩)) (.np 0 e true)∧((u=true∧cs[0]'(by simp at h3;omega)=.pointer (some ⟨b,0,none⟩))∨(u=false∧cs[0]'(by simp at h3;omega)=.pointer none∧T'=e)):=by
  generalize cs[0]'(by simp at h3;omega)=z at aj
  cases aj with
  | np _ _ _ N hg hb hT _ hx=>
    have O:N=b:=by have:=(hb:G.box 0=some N).symm.trans h1;simpa using this
    subst O;refine⟨.np _ 0 e N hg hb hT true rfl,?_⟩;obtain⟨cs',f',hT⟩:=hT;have U:w.heap[N]? = some (.cells cs' e f'):=hT;rw[h2] at U;simp only[Option.some.injEq,Obj.cells.injEq] at U
    cases u with
    | true=>exact .inl ⟨rfl,hx⟩
    | false=>exact .inr ⟨rfl,hx,U.2.1⟩
 obtain⟨a8,ad⟩:=a7;subst hv;rcases ad with ⟨rfl,hz⟩ | ⟨rfl,hz,rfl⟩
 ·rw[hz] at I
  refine(h.used b w I).mono ?_;rintro e' w' ⟨rfl,rfl⟩;exact⟨_,G,rfl,hs,.tup #[] [] rfl (by simp)⟩
 ·rw[hz] at I
  refine(h.fresh b w I (by simp only[World.shape?,h2];simp at h3;rw[h3]) (by simp[World.frozen?,h2])).mono ?_;rintro e' w' ⟨rfl,rfl⟩;rw[wz h2];have a1:=hs.store (g:=0) (b:=b) (cs:=cs) (cs':=cs.setIfInBounds 0 (.pointer (some ⟨b,0,none⟩))) (T:=T') (cells:=[.np 0 T' false,a]) (cells':=[.np 0 T' true,a]) (by simp[dT,ah]) h1 h2 ⟨by simpa using h3,fun i u hu=>by
   rw[Array.getElem?_setIfInBounds] at hu;split at hu
   ·split at hu
    ·simp only[Option.some.injEq] at hu;subst hu;rfl
    ·cases hu
   ·exact h4 i u hu,fun i u y hu X=>by
   rw[Array.getElem?_setIfInBounds] at hu
   match i with
   | 0=>simp at X;subst X;simp at h3;simp[h3] at hu;subst hu;exact a8
   | 1=>simp at X;subst X;simp at hu;exact h5 1 u _ hu rfl
   | i+2=>simp at X⟩
  refine⟨_,G,rfl,?_,.tup #[] [] rfl (by simp)⟩;refine { a1 with box:=fun g' c Z=>?_ };refine a1.box g' c ?_;simp only[dT,bR] at Z ⊢;split;·rename_i O;rw[if_pos O] at Z;exact Z
  ·rename_i O;rw[if_neg O] at Z;simp[ah] at Z
def nn:A→A
 | .d (.v x)=>.d (.v x)
 | _=>.any
def lL (f:List (Nat×A)):List (Nat×A):=f.map fun p=>(p.1,nn p.2)
theorem nB:∀ (f:List (Nat×A)) (t:Nat),look (lL f) t=(look f t).map nn
 | [],t=>rfl
 | (s,a)::r,t=>by
   simp only[lL,List.map_cons];rw[aU,aU];split;·rfl
   ·exact nB r t
theorem ax.end_ {C:Ctx} [hN:NB C 0] {n:Nat} {st:St} {G:Gh} {tmps:Array Value} {w w':World} (h:ax C n st G tmps w) (hb:Below C.w0.heap.size w w') (M:w.heap.size≤w'.heap.size):ax C n ⟨lL st.f,[],[],st.gen⟩ G0 tmps w' where
 size:=h.size
 frame:=fun t a N=>by
  rw[nB] at N;obtain⟨a',O,rfl⟩:=Option.map_eq_some_iff.1 N;obtain⟨v,U,I⟩:=h.frame t a' O;refine⟨v,U,?_⟩;unfold nn;split;·cases I with | d I=>cases I with | v _ X=>exact .d (.v _ X)
  ·exact .any _
 box:=fun g cells Z=>by simp[ah] at Z
 gbox:=fun g b hb=>by simp[G0] at hb
 inj:=fun g g' b hb=>by simp[G0] at hb
 live:=fun g hg=>by simp at hg
 gown:=fun g r I=>by simp[G0] at I
 row:=fun g b len cap sz ad I=>by simp[G0] at I
 mrow:=fun g b bs I=>by simp[G0] at I
 sub:=fun g b bs c lim I=>by simp[G0] at I
 gcell:=fun g b hb=>by simp[G0] at hb
 xold:=h.xold
 kold:=h.kold
 lent:=fun i b hb=>by have:=hN.h;rw[List.length_eq_zero_iff.1 this] at hb;simp at hb
 fr:=⟨hb.os.trans h.fr.os,hb.tape.trans h.fr.tape,hb.output.trans h.fr.output,Nat.le_trans h.fr.size M,fun b h1 h2=>(hb.block b h1).trans (h.fr.block b h1 h2),fun b o u h1 h2=>by
  have J:=cJ h2;rw[bC (hb.block b J)];exact h.fr.cells b o u h1 h2,fun b cs T f h1=>by
  have J:=(Array.getElem?_eq_some_iff.1 h1).1;rw[hb.block b J];exact h.fr.ty b cs T f h1⟩
def qq (P:Program) (T e:TypeId) (f:FuncId):Prop:=
 ∀ (B b:Nat) (l:List UInt8) (w:World),Lib.IsBuilder T e B b (Lib.byteCells l) w→B≤w.heap.size→Calls P f #[.pointer (some ⟨b,0,none⟩)] w fun q w'=>q=.returned (.string ⟨l.toArray⟩)∧Below B w w'
section
variable {P:Program} {C:Ctx} {n:Nat} {ops:Array Oper} {Q:Exit→St→Prop} {rest:List Oper}
variable {f:List (Nat×A)} {bx:List (Nat×List A)} {lv:List Nat} {gen:Nat} {d:Nat} {ty:TypeId} {pos:String} {af:Array Edge}
theorem EY [NB C 0] (cy:∀ b,¬ C.fp b) {x y:Operand} {O:Array TypeId} {fid:FuncId} {g g2:Nat} {T e:TypeId} {u:Bool} {s:ByteArray} (hx:av f x=some (.clo fid [])) (hy:av f y=some (.ptr g 0)) (hb:ah bx g=some [.np g T u,.bf g2 e s])
 (c1:(lv.any fun h=>Nat.beq h g2)=true) (hok:iQ P fid) (cj:qq P T e fid) (c6:s.size≤maxLen) (hd:Nat.blt d n=true)
 (h:WO P C n ops Q rest ⟨(d,.d (.v (.string s)))::lL f,[],[],gen⟩):WO P C n ops Q (⟨some d,.call ⟨.value x,#[y],O⟩,ty,pos,af,none⟩::rest) ⟨f,bx,lv,gen⟩:=by
 refine WO.step (st:=⟨f,bx,lv,gen⟩) rfl fun tmps w ⟨G,hs⟩=>?_;obtain⟨fn,c7,ai,aj⟩:=hok;have a7:=hs.av hx;generalize hv:Act.eval ⟨tmps,[]⟩ x=v at a7
 cases a7 with
 | clo _ vs _ df e3=>
 have di:vs=#[]:=Array.eq_empty_of_size_eq_zero (by simpa using df);subst di;have a8:=hs.av hy;generalize dj:Act.eval ⟨tmps,[]⟩ y=vy at a8;obtain⟨b,cs,T',h1,h2,h3,h4,h5⟩:=hs.box g _ hb;have dt:vy=.pointer (some ⟨b,0,none⟩):=by
  cases a8 with
  | ptr _ _ _ b0 hg U I=>exact la U I b h1
 subst dt;have cl:(execOp (Act.eval ⟨tmps,[]⟩) ⟨some d,.call ⟨.value x,#[y],O⟩,ty,pos,af,none⟩).run P w=.ok (.enter fid #[.pointer (some ⟨b,0,none⟩)]) w:=by unfold execOp;show Sem.run P (do let d ←resolve (Act.eval ⟨tmps,[]⟩) ⟨.value x,#[y],O⟩ ty;invoke d.target d.args) w=_;simp only[resolve,hv,dj,Deferred.ofValue,Sem.run_bind,Sem.run_pure,Result.andThen_ok,invoke,callFunc,run_program,c7,ai,aj,Bool.false_eq_true,if_false,Array.empty_append,Array.append_empty,List.map_toArray,List.map_cons,List.map_nil]
 simp at h3;obtain⟨p,q,X⟩:∃ p q,cs=#[p,q]:=⟨cs[0],cs[1],by apply Array.ext_getElem?;intro i;match i with | 0=>simp[h3] | 1=>simp[h3] | i+2=>simp[h3]⟩;subst X;have hp:=h5 0 p _ rfl rfl;have hq:=h5 1 q _ rfl rfl;obtain⟨r,b3⟩:=hs.live g2 (cQ c1);have gF:∀ {b lim},C.gF b lim→C.w0.heap.size≤b:=fun hm=>hm.1.resolve_right (cy _);have Z:T'=T∧(p=.pointer none∨p=.pointer (some ⟨b,0,none⟩)):=by
  cases hp with
  | np _ _ _ b0 hg U hT _ I=>
    have e1:b0=b:=by have:=(U:G.box g=some b0).symm.trans h1;simpa using this
    subst e1;obtain⟨cs',f',hT⟩:=hT;have J:w.heap[b0]? = some (.cells cs' T f'):=hT;rw[h2] at J;simp only[Option.some.injEq,Obj.cells.injEq] at J;refine⟨J.2.1,?_⟩
    cases u with
    | true=>exact .inr I
    | false=>exact .inl I
 obtain⟨rfl,Z⟩:=Z;have M:w.ownsRow C.w0.heap.size e 1 q (Lib.byteCells s.data.toList).length (Lib.byteCells s.data.toList)∧q.ownBlock≠some b:=by
  cases hq with
  | bf _ _ _ _ hg e4 cq=>
  have I:=cq r b3
  cases r with
  | zero b=>exact I.elim
  | mp b bs=>exact I.elim
  | nil=>obtain⟨rfl,h0⟩:=I;have e0:s.data.toList=[]:=List.eq_nil_of_length_eq_zero (by simpa using h0);rw[e0];exact⟨World.ownsRow_nil w _ e 1,by simp[Value.ownBlock]⟩
  | blk b2 len cap sz e5=>
    obtain⟨rfl,h6,rfl,rfl,⟨cs',f',hT⟩,h8⟩:=I;obtain⟨a1,dx,en,cur,T2,N,X,ed,ei,_,e2,_⟩:=hs.row g2 b2 len cap 1 0 b3;have J:w.heap[b2]? = some (.cells cs' e f'):=hT;rw[N] at J;simp only[Option.some.injEq,Obj.cells.injEq] at J;obtain⟨_,rfl,_⟩:=J;have hlen:(Lib.byteCells s.data.toList).length=len:=by rw[Lib.byteCells_length,Array.length_toList];exact h6
    rw[hlen];refine⟨⟨by simpa using hlen,.inr ⟨b2,cap,cur,rfl,gF a1,N,ed,ei,X,?_⟩⟩,?_⟩
    ·rw[Nat.mul_one]
     apply List.ext_getElem?;intro t;rw[List.getElem?_take];have es:(Lib.byteCells s.data.toList)=Lib.strCells s:=(Lib.strCells_eq s).symm;split
     ·rename_i ch
      have hc:s.data[t]? = some (s.data[t]'(by rw[←h6] at ch;exact ch)):=Array.getElem?_eq_getElem _;have h7:=h8 t _ hc;have ej:cur[t]? = _:=(bH N t).symm.trans h7;rw[es,eS hc,Array.getElem?_toList,ej]
     ·rename_i e6
      rw[List.getElem?_eq_none (by rw[hlen];omega)]
    ·simp only[Value.ownBlock]
     intro e1;simp only[Option.some.injEq] at e1;exact dx g (e1▸h1)
 have cx:∀ p,p=Value.pointer none∨p=.pointer (some ⟨b,0,none⟩)→w.heap[b]? = some (.cells #[p,q] T' (0,0))→Lib.IsBuilder T' e C.w0.heap.size b (Lib.byteCells s.data.toList) w:=by
  rintro p (rfl | rfl) hh;·exact .inl ⟨gF (hs.gbox g b h1).2.2,q,hh,M.1,M.2⟩
  ·exact .inr ⟨gF (hs.gbox g b h1).2.2,q,hh,M.1,M.2⟩
 unfold cZ;have a6:(execOp (Act.eval { tmps:=tmps,defers:=[] }) ⟨some d,.call ⟨.value x,#[y],O⟩,ty,pos,af,none⟩).run P w=.ok (.enter fid #[.pointer (some ⟨b,0,none⟩)]) w:=cl;rw[a6];refine(cj C.w0.heap.size b s.data.toList w (cx p Z h2) hs.fr.size).mono ?_;rintro e' w' ⟨rfl,ad⟩;refine⟨_,rfl,⟨(d,.d (.v (.string s)))::lL f,[],[],gen⟩,⟨G0,?_⟩,h⟩;have:=(hs.end_ ad ad.size).put (dst:=some d) (bX (dst:=some d) hd) (v:=.string ⟨s.data.toList.toArray⟩) (a:=.d (.v (.string s))) (.d (by
  have:(⟨s.data.toList.toArray⟩:ByteArray)=s:=by apply ByteArray.ext;simp
  rw[this];exact .v _ (by simp[cu,c6])))
 exact this
end
end Go.Ab
namespace Go.Ab
theorem pd.BS {P:Program} [cd P] {H:Ctx→Prop} {f:FuncId} {args:List A} {r:A} {k:Nat} (h:pd P H f args r k) (M:∀ C,H C):ay P f args r k:=
 ⟨h.ok,fun C I w N hw hp O J U=>h.calls C I w N hw hp (M C) O J U⟩
end Go.Ab
namespace Go.Ab
open Go.RowKit
abbrev eX (v:Value):Exit:=.panic [{ v:=v,recovered:=false }]
section
variable {C:Ctx} {n:Nat} {st:St}
theorem ax.zl {G:Gh} {tmps:Array Value} {w w':World} (h:ax C n st G tmps w) {gs os:List Nat} (h1:Fr (dP C G w gs os) w'):Fr C w':=by
 have U:∀ {b},eu G gs b→C.gF b 0∧b < w.heap.size:=by rintro b ⟨g,_,N⟩;exact⟨(h.gbox g b N).2.2,(h.gbox g b N).2.1⟩
 have X:∀ {b lim},dA G os b lim→C.gF b lim∧b < w.heap.size∧(∀ g',G.box g'≠some b):=by rintro b lim ⟨g,_,r,N,ad⟩;obtain⟨h1,h2,h3,_⟩:=h.rowAt N ad;exact⟨h1,h3,h2⟩
 have ai:∀ {b},(eu G gs b∨∃ lim,dA G os b lim)→C.w0.heap.size≤b∨C.fp b:=by
  rintro b (hl | ⟨lim,hl⟩);·exact(U hl).1.1
  ·exact(X hl).1.1
 have I:∀ {b},b < w.heap.size→¬ (eu G gs b∨∃ lim,dA G os b lim)→w'.heap[b]? = w.heap[b]?:=fun J O=>h1.block _ J O;refine⟨h1.os.trans h.fr.os,h1.tape.trans h.fr.tape,h1.output.trans h.fr.output,Nat.le_trans h.fr.size h1.size,fun b J O=>?_,fun b o u Z hu=>?_,h.fr.ty.trans h1.ty⟩
 ·rw[I (Nat.lt_of_lt_of_le J h.fr.size) (fun hl=>(ai hl).elim (fun h=>by omega) O)]
  exact h.fr.block b J O
 ·have M:=h.fr.cells b o u Z hu
  by_cases hl:eu G gs b∨∃ lim,dA G os b lim
  ·rcases hl with hl | ⟨lim,hl⟩
   ·exact absurd ((U hl).1.2 o Z) (Nat.not_lt_zero _)
   ·exact h1.cells b o u ⟨lim,hl,(X hl).1.2 o Z⟩ M
  ·rw[bC (I (cJ M) hl)]
   exact M
theorem ax.left {G:Gh} {tmps:Array Value} {w w':World} (h:ax C n st G tmps w) (J:Fr C w') (hs:w.heap.size≤w'.heap.size) (M:dh w w'):ax C n ⟨[],[],[],st.gen⟩ ⟨G.box,fun _=>none⟩ tmps w':=
 { size:=h.size,frame:=fun t a N=>by simp[look] at N,box:=fun g cells O=>by simp[ah] at O,gbox:=fun g b hb=>⟨(h.gbox g b hb).1,Nat.lt_of_lt_of_le (h.gbox g b hb).2.1 hs,(h.gbox g b hb).2.2⟩,
   inj:=h.inj,live:=fun g U=>by simp at U,gown:=fun g r I=>by simp at I,row:=fun g b len cap sz X I=>by simp at I,mrow:=fun g b bs I=>by simp at I,sub:=fun g b bs c lim I=>by simp at I,gcell:=fun g b hb=>kD M (h.gcell g b hb),xold:=h.xold,kold:=h.kold,lent:=h.lent,fr:=J }
end
structure gx (P:Program) [cd P] (f:FuncId) (args:List A) (b0:List (List A)) (m:Nat) (v:Value):Prop where
 ok:iQ P f
 calls:∀ (C:Ctx) (G:Gh) (vals:Array Value) (w:World),GC P C→C.w0=w→C.bx.length=b0.length→C.ds=[]→(m=0→∀ b,C.fp b→∃ i:Nat,C.bx[i]? = some b) →
  ax C 0 ⟨[],dT 0 b0,(List.range m).map (b0.length+·),b0.length+m⟩ G #[] w→vals.size=args.length →
  (∀ (i:Nat) (u:Value) (a:A),vals[i]? = some u→args[i]? = some a→aD (aA C G (b0.length+m) w) u a) →
  Calls P f vals w fun e w'=>e=.panicked [{ v:=v,recovered:=false }]∧Fr C w'
def QP (v:Value):Exit→St→Prop:=fun e _=>e=eX v
theorem gx.CS {P:Program} [cd P] {f:FuncId} {fn:Func} {c:Code} {n:Nat} {args:List A} {J:List (List A)} {m:Nat} {v:Value} (U:P.funcs[f]? = some fn) (M:(fn.name == "runtime.NumGoroutine")=false)
 (hb:fn.body=some c) (hn:fn.ntmps=n) (hlen:Nat.ble args.length n=true)
 (h:∀ C,NB C J.length→GC P C→(m=0→∀ b,C.fp b→∃ i:Nat,C.bx[i]? = some b)→(∀ i b:Nat,C.bx[i]? = some b→b < C.w0.heap.size)→W P C n c (QP v) ⟨gw 0 args,dT 0 J,(List.range m).map (J.length+·),J.length+m⟩):gx P f args J m v:=by
 have hlen:=Nat.le_of_ble_eq_true hlen;refine⟨⟨fn,U,M,by rw[hb];rfl⟩,fun C G I w hG hw X N Z hs ai O=>?_⟩;subst hw;refine calls_of_wp U hb (wp_mono (pA N (h C ⟨X⟩ hG Z (fun i b hb=>(hs.gbox i b (hs.lent i b hb)).2.1) (I++Array.replicate (fn.ntmps - I.size) undef) C.w0 ⟨G,?_⟩)) ?_)
 ·refine { hs with size:=by simp[hn];omega,frame:=fun t a ha=>?_ }
  obtain⟨_,h1⟩:=fL args 0 t a ha;have h2:t < args.length:=(List.getElem?_eq_some_iff.1 (by simpa using h1)).1;have h3:t < I.size:=by omega
  have h4:I[t]? = some I[t]:=by simp[h3]
  exact⟨I[t],by rw[Array.getElem?_append_left h3];exact h4,O t _ a h4 (by simpa using h1)⟩
 ·rintro e ⟨tmps,df⟩ w' ⟨hd,st,⟨G1,ad⟩,he⟩
  have he:e=eX v:=he;subst he;exact⟨hd.trans N,rfl,ad.fr⟩
theorem gx.aZ {P:Program} [cd P] {f:FuncId} {fn:Func} {c:Code} {n:Nat} {args:List A} {I:List (List A)} {m:Nat} {v:Value} (M:P.funcs[f]? = some fn) (J:(fn.name == "runtime.NumGoroutine")=false)
 (hb:fn.body=some c) (N:fn.ntmps=n) (hlen:Nat.ble args.length n=true)
 (h:∀ C,NB C I.length→GC P C→W P C n c (QP v) ⟨gw 0 args,dT 0 I,(List.range m).map (I.length+·),I.length+m⟩):gx P f args I m v:=
 gx.CS M J hb N hlen fun C hC O _ _=>h C hC O
inductive Out where
 | ret (r:A) (b1:List (List A)) (k:Nat)
 | fu (v:Value)
def cL (P:Program) [cd P] (f:FuncId) (args:List A) (I:List (List A)) (m:Nat):Out→Prop
 | .ret r b1 k=>bz P f args I m r b1 k
 | .fu v=>gx P f args I m v
def QX {P:Program} (T:bF P) (rs:List RV):Out→Exit→St→Prop
 | .ret r b1 k=>b7 T rs r b1 k
 | .fu v=>QP v
def Out.len:Out→Nat→Bool
 | .ret _ b1 _,n=>Nat.beq b1.length n
 | .fu _,_=>true
theorem cL.cX {P:Program} (T:bF P) [cd P] {f:FuncId} {fn:Func} {c:Code} {rs:List RV} {n:Nat} {args:List A} {J:List (List A)} {m:Nat} {x:Out} (M:P.funcs[f]? = some fn) (I:(fn.name == "runtime.NumGoroutine")=false)
 (hb:fn.body=some c) (N:fn.ntmps=n) (U:fn.results=(rs.map RV.var).toArray) (hlen:Nat.ble args.length n=true) (O:x.len J.length=true)
 (h:∀ C,NB C J.length→GC P C→W P C n c (QX T rs x) ⟨gw 0 args,dT 0 J,(List.range m).map (J.length+·),J.length+m⟩):cL P f args J m x:=by
 cases x with
 | ret r b1 k=>exact bz.cX T M I hb N U hlen (Nat.eq_of_beq_eq_true O) h
 | fu v=>exact gx.aZ M I hb N hlen h
theorem cL.tT {P:Program} (T:bF P) [cd P] {f:FuncId} {fn:Func} {c:Code} {rs:List RV} {n:Nat} {args:List A} {J:List (List A)} {m:Nat} {x:Out} (M:P.funcs[f]? = some fn) (I:(fn.name == "runtime.NumGoroutine")=false)
 (hb:fn.body=some c) (N:fn.ntmps=n) (U:fn.results=(rs.map RV.var).toArray) (hlen:Nat.ble args.length n=true) (O:x.len J.length=true)
 (h:∀ C,NB C J.length→GC P C→(m=0→∀ b,C.fp b→∃ i:Nat,C.bx[i]? = some b)→(∀ i b:Nat,C.bx[i]? = some b→b < C.w0.heap.size)→W P C n c (QX T rs x) ⟨gw 0 args,dT 0 J,(List.range m).map (J.length+·),J.length+m⟩):cL P f args J m x:=by
 cases x with
 | ret r b1 k=>exact bz.tT T M I hb N U hlen (Nat.eq_of_beq_eq_true O) h
 | fu v=>exact gx.CS M I hb N hlen h
theorem cL.ret {P:Program} [cd P] {f:FuncId} {args:List A} {I:List (List A)} {m:Nat} {x:Out} {r:A} {b1:List (List A)} {k:Nat} (h:cL P f args I m x) (J:x=.ret r b1 k):bz P f args I m r b1 k:=by subst J;exact h
theorem cL.fu {P:Program} [cd P] {f:FuncId} {args:List A} {I:List (List A)} {m:Nat} {x:Out} {v:Value} (h:cL P f args I m x) (J:x=.fu v):gx P f args I m v:=by subst J;exact h
section
variable {P:Program} {C:Ctx} {n:Nat} {ops:Array Oper} {Q:Exit→St→Prop} {rest:List Oper} {st:St} {o:Oper}
theorem WO.Dy (M:o.guard=none) {x:Operand} (N:o.op=.panic x) {t:TypeId} {y:Value} (O:av st.f x=some (.d (.v (.iface t y)))) (h:∀ st',Q (eX (.iface t y)) st'):WO P C n ops Q (o::rest) st:=by
 intro tmps w ⟨G,hs⟩;simp only[dX,Region.wanted,M,if_true];have I:=hs.av O;have U:Act.eval ⟨tmps,C.ds⟩ x=.iface t y:=by rw[Act.gO tmps C.ds []];generalize Act.eval ⟨tmps,[]⟩ x=v at I ⊢;cases I with | d I=>cases I;rfl
 unfold Oper.wp;have J:(execOp (Act.eval ⟨tmps,C.ds⟩) o).run P w=.halt (.panic (.iface t y)) w:=by unfold execOp;rw[N];simp[U,Instr.panic,goPanic]
 rw[J];exact⟨rfl,st,⟨G,hs⟩,h st⟩
theorem WO.ca [cd P] [GC P C] (U:o.guard=none) {x:Operand} {xs:Array Operand} {O:Array TypeId} (ho:o.op=.call ⟨.value x,xs,O⟩) {fid:FuncId} {caps I:List A} (hx:av st.f x=some (.clo fid caps))
 (a6:jm st.f xs.toList=some I) (gs os:List Nat) (a7:nodupB gs=true) (a8:nodupB os=true) (b2:(os.all fun g=>st.lv.any fun h=>Nat.beq h g)=true) {args:List A} {b0:List (List A)} {v:Value} {m:Nat}
 (hf:gx P fid args b0 m v) (X:(I++caps).map (dq st.bx gs os 5)=args) (hb:fm st.bx gs os gs=some b0) (hm:os.length=m)
 (h:∀ st',Q (eX v) st'):WO P C n ops Q (o::rest) st:=by
 subst hm;subst X;intro tmps w ⟨G,hs⟩;simp only[dX,Region.wanted,U,if_true];obtain⟨fn,b3,M,N⟩:=hf.ok;have Z:=hs.av hx;rw[←Act.gO tmps C.ds []] at Z;generalize hv:Act.eval ⟨tmps,C.ds⟩ x=v' at Z
 cases Z with
 | clo _ vs _ ch hcd=>
 obtain⟨h1,h2⟩:=iz hs xs.toList I a6;rw[←Act.gO tmps C.ds []] at h2;have ad:(execOp (Act.eval ⟨tmps,C.ds⟩) o).run P w=.ok (.enter fid (xs.map (Act.eval ⟨tmps,C.ds⟩)++vs)) w:=by unfold execOp;rw[ho];show Sem.run P (do let d ←resolve (Act.eval ⟨tmps,C.ds⟩) ⟨.value x,xs,O⟩ o.type;invoke d.target d.args) w=_;simp only[resolve,hv,Deferred.ofValue,Sem.run_bind,Sem.run_pure,Result.andThen_ok,invoke,callFunc,run_program,b3,M,N,Bool.false_eq_true,if_false,Array.empty_append]
 obtain⟨hlen,ai⟩:=hs.k9 (gs:=gs) (os:=os) (dQ a7) (dQ a8) (fun g U=>by obtain⟨y,J,he⟩:=List.any_eq_true.1 (List.all_eq_true.1 b2 g U);exact Nat.eq_of_beq_eq_true he▸J) hb;have c1:=(gy hb).1;unfold Oper.wp;rw[ad];refine(hf.calls (dP C G w gs os) (fO G gs os) _ w (GC.qL hs) rfl hlen rfl (qi rfl) ai (by simp at h1;simp[ch,h1]) (fun i u a hu ha=>?_)).mono fun e w' ⟨he,h3⟩=>?_
 ·simp only[List.getElem?_map,Option.map_eq_some_iff] at ha
  obtain⟨y,J,rfl⟩:=ha;refine aD.k9 hs gs os (by omega) 5 u y ?_;simp only[Array.getElem?_append] at hu;split at hu
  ·rename_i cj
   simp only[Array.size_map] at cj;have aj:i < I.length:=by simp at h1;omega
   rw[List.getElem?_append_left aj] at J;obtain⟨z,hz,cl⟩:=h2 i y J;simp only[Array.getElem?_map,Option.map_eq_some_iff] at hu;obtain⟨z',cq,rfl⟩:=hu;have:z=z':=by simp at hz;rw[cq] at hz;exact(Option.some.inj hz).symm
   subst this;exact cl
  ·rename_i cx
   simp only[Array.size_map] at cx hu;have a1:I.length≤i:=by simp at h1;omega
   rw[List.getElem?_append_right a1] at J;refine hcd (i - xs.size) u y hu ?_;have:xs.size=I.length:=by simpa using h1
   rw[this];exact J
 ·subst he
  have cy:=hs.zl h3;exact⟨rfl,_,⟨_,hs.left cy h3.size h3.ty⟩,h _⟩
end
section
variable {P:Program} {C:Ctx} {n:Nat} {ops:Array Oper} {Q:Exit→St→Prop} {rest:List Oper} {c:Code}
variable {f:List (Nat×A)} {bx:List (Nat×List A)} {lv:List Nat} {gen:Nat} {d:Nat} {op:Op} {ty:TypeId} {pos:String} {af:Array Edge} {a:A} {dst:Option Nat}
theorem E8 {x:Operand} {t:TypeId} {y:Value} (I:av f x=some (.d (.v (.iface t y)))) (h:∀ st',Q (eX (.iface t y)) st'):WO P C n ops Q (⟨dst,.panic x,ty,pos,af,none⟩::rest) ⟨f,bx,lv,gen⟩:=
 WO.Dy (st:=⟨f,bx,lv,gen⟩) rfl rfl I h
theorem ca [cd P] [GC P C] {x:Operand} {xs:Array Operand} {M:Array TypeId} {fid:FuncId} {caps I args:List A} {N:List (List A)} {v:Value} {m:Nat} (gs os:List Nat) (hx:av f x=some (.clo fid caps)) (O:jm f xs.toList=some I)
 (J:(I++caps).map (dq bx gs os 5)=args) (hb:fm bx gs os gs=some N) (hm:os.length=m) (hf:gx P fid args N m v)
 (U:nodupB gs=true) (X:nodupB os=true) (Z:(os.all fun g=>lv.any fun h=>Nat.beq h g)=true) (h:∀ st',Q (eX v) st') :
 WO P C n ops Q (⟨dst,.call ⟨.value x,xs,M⟩,ty,pos,af,none⟩::rest) ⟨f,bx,lv,gen⟩:=
 WO.ca (st:=⟨f,bx,lv,gen⟩) rfl rfl hx O gs os U X Z hf J hb hm h
theorem uL {w:World} {pv:Nat→Nat→Prop} {a b:Value} (h:aO w pv a (.v b)):a=b:=by cases h;rfl
theorem DE (T:bF P) {t:Nat} {x:Operand} {I:bM} {l:List Value} (N:ah T.l t=some I) (O:I.k.agg=true) (U:av f x=some (.ag (l.map D.v))):Pu P C n ⟨f,bx,lv,gen⟩ ⟨dst,.makeInterface t x,ty,pos,af,none⟩ (.d (.v (.iface t (.agg l.toArray)))):=by
 refine dG.pu fun G tmps w hs=>?_;have J:=hs.av U;generalize X:Act.eval ⟨tmps,[]⟩ x=v at J
 cases J with
 | ag vs _ M h=>
 have e:vs=l.toArray:=by
  apply Array.ext;·simpa using M
  ·intro i h1 h2
   have h3:i < l.length:=by simpa using h2
   have:=uL (h i vs[i] (.v l[i]) (by simp[h1]) (by simp[h3]));simpa using this
 subst e;refine⟨_,?_,.d (.v _ rfl)⟩;obtain⟨u,hu,Z⟩:∃ u,P.underlying t=some u∧(match u with | .interface _=>false | _=>true)=true:=by
  have:=T.isAgg N w;unfold isAgg at this
  cases hu:P.underlying t with
  | none=>simp[underlying,hu] at this
  | some u=>refine⟨u,rfl,?_⟩;cases u <;> first | rfl | (simp[underlying,hu,O] at this)
 unfold execOp;simp only[X,Instr.makeInterface,Sem.run_bind,run_underlying hu,Result.andThen_ok,Sem.run_pure];cases u <;> simp_all
end
end Go.Ab
namespace Go.Ab
open Go.RowKit
section
variable {P:Program} {C:Ctx} {n:Nat} {Q:Exit→St→Prop} {st:St} {v:Value}
theorem b4 {y:Code} (h:Q (eX v) st):QS P C n y Q (eX v) st:=h
theorem fz {id:Nat} (h:Q (eX v) st):QB id Q (eX v) st:=h
theorem jt {I:Nat→St→Prop} {m:Nat} (h:Q (eX v) st):QL I m Q (eX v) st:=h
theorem cg {T:bF P} {rs:List RV} {x:Out} (h:x=.fu v):QX T rs x (eX v) st:=by subst h;rfl
theorem cV {T:bF P} {rs:List RV} {x:Out} {r:A} {b1:List (List A)} {k:Nat} {e:Exit} (h:x=.ret r b1 k) (I:b7 T rs r b1 k e st):QX T rs x e st:=by subst h;exact I
theorem F4 {S:St} (h:Q (eX v) st):QC C n S Q (eX v) st:=h
end
end Go.Ab
namespace Go.Tb
open Go.Ab
@[reducible] def gJ (t:Nat) (a:Nat) (w:Int):Value:=.iface t (.agg #[.int .i64 (a:Int),.int .i64 w])
@[reducible] def eB (s:ByteArray) (i:Nat):List A:=[.d (cs s),.d (.v (.int .i64 (i:Int)))]
def gH {α:Type} (t:Nat) (s:ByteArray) (r:α→A):PE α→Out
 | .ok x i=>.ret (r x) [eB s i] 0
 | .no a w=>.fu (gJ t a w)
theorem fv {α:Type} (t:Nat) (s:ByteArray) (r:α→A) (x:PE α):(gH t s r x).len 1=true:=by cases x <;> rfl
theorem aV {α:Type} {t:Nat} {s:ByteArray} {r:α→A} {x:PE α} {y:α} {i:Nat} (h:x=.ok y i):gH t s r x=.ret (r y) [eB s i] 0:=by subst h;rfl
theorem aN {α:Type} {t:Nat} {s:ByteArray} {r:α→A} {x:PE α} {a:Nat} {w:Int} (h:x=.no a w):gH t s r x=.fu (gJ t a w):=by subst h;rfl
end Go.Tb
namespace Go.Ab
open Go.RowKit
def lE (I:Nat):List (Nat×List A)→List (Nat×List A)
 | []=>[]
 | (g,c)::r=>bif Nat.blt g I then (g,c.map nn)::lE I r else lE I r
theorem nA {I:Nat}:∀ {bx:List (Nat×List A)} {g:Nat} {c:List A},ah (lE I bx) g=some c→g < I∧∃ c0,ah bx g=some c0∧c=c0.map nn
 | [],g,c,h=>by simp[lE,ah] at h
 | (g0,c0)::r,g,c,h=>by
   unfold lE at h
   cases hb:Nat.blt g0 I with
   | true=>
     rw[hb] at h;have J:g0 < I:=Nat.blt_eq.mp hb;simp only[cond_true,ah] at h ⊢
     cases he:Nat.beq g0 g with
     | true=>rw[he] at h;simp only[cond_true,Option.some.injEq] at h ⊢;have e:g0=g:=Nat.eq_of_beq_eq_true he;subst e;exact⟨J,c0,rfl,h.symm⟩
     | false=>rw[he] at h;simp only[cond_false] at h ⊢;exact nA h
   | false=>
     rw[hb] at h;have J:¬ g0 < I:=fun q=>by rw[Nat.blt_eq.mpr q] at hb;cases hb
     simp only[cond_false] at h;obtain⟨h1,h2⟩:=nA h;refine⟨h1,?_⟩;have e:Nat.beq g0 g=false:=by
      cases q:Nat.beq g0 g with
      | false=>rfl
      | true=>have:=Nat.eq_of_beq_eq_true q;omega
     simp only[ah,e,cond_false];exact h2
theorem qn {E E':En} {v:Value} {a:A} (h:aD E v a):aD E' v (nn a):=by
 unfold nn;split;·cases h with | d I=>cases I with | v _ J=>exact .d (.v _ J)
 ·exact .any _
theorem ax.Gw {C:Ctx} {n M:Nat} {st:St} {G:Gh} {tmps:Array Value} {w w':World} (h:ax C n st G tmps w) (U:C.bx.length=M) (X:∀ i b:Nat,C.bx[i]? = some b→b < C.w0.heap.size) (hb:Below C.w0.heap.size w w') (Z:w.heap.size≤w'.heap.size) :
 ax C n ⟨lL st.f,lE M st.bx,[],st.gen⟩ ⟨fun g=>if g < M then G.box g else none,fun _=>none⟩ tmps w' where
 size:=h.size
 frame:=fun t a O=>by rw[nB] at O;obtain⟨a',ad,rfl⟩:=Option.map_eq_some_iff.1 O;obtain⟨v,hv,N⟩:=h.frame t a' ad;exact⟨v,hv,qn N⟩
 box:=fun g cells hc=>by
  obtain⟨I,c0,h0,rfl⟩:=nA hc;obtain⟨b,cs,T,h1,h2,h3,h4,h5⟩:=h.box g c0 h0;have ai:C.bx[g]? = some b:=by have hl:C.bx[g]? = some (C.bx[g]'(by omega)):=List.getElem?_eq_getElem _;have:=h.lent g _ hl;rw[h1] at this;rw[hl,←this]
  have J:=X g b ai;refine⟨b,cs,T,by simp[I,h1],by rw[hb.block b J];exact h2,by simpa using h3,h4,fun i u a hu O=>?_⟩;rw[List.getElem?_map] at O;obtain⟨a0,aj,rfl⟩:=Option.map_eq_some_iff.1 O;exact qn (h5 i u a0 hu aj)
 gbox:=fun g b I=>by
  have I:(if g < M then G.box g else none)=some b:=I;split at I
  ·obtain⟨q1,q2,q3⟩:=h.gbox g b I
   exact⟨q1,Nat.lt_of_lt_of_le q2 Z,q3⟩
  ·cases I
 inj:=fun g g' b h1 h2=>by
  have h1:(if g < M then G.box g else none)=some b:=h1;have h2:(if g' < M then G.box g' else none)=some b:=h2;split at h1
  ·split at h2
   ·exact h.inj g g' b h1 h2
   ·cases h2
  ·cases h1
 live:=fun g I=>by simp at I
 gown:=fun g r N=>by simp at N
 row:=fun g b len cap sz a1 N=>by simp at N
 mrow:=fun g b bs N=>by simp at N
 sub:=fun g b bs c lim N=>by simp at N
 gcell:=fun g b I=>by
  have I:(if g < M then G.box g else none)=some b:=I;split at I
  ·rename_i J
   have hl:g < C.bx.length:=by rw[U];exact J
   have h1:=h.lent g C.bx[g] (by simp[hl]);rw[I] at h1;simp only[Option.some.injEq] at h1;obtain⟨cs,T,f,h2⟩:=h.gcell g b I;exact⟨cs,T,f,by rw[hb.block b (X g b (by rw[h1];simp[hl]))];exact h2⟩
  ·cases I
 xold:=h.xold
 kold:=h.kold
 lent:=fun i b hb=>by
  have hi:i < M:=by rw[←U];exact(List.getElem?_eq_some_iff.1 hb).1
  show(if i < M then G.box i else none)=some b;rw[if_pos hi];exact h.lent i b hb
 fr:=⟨hb.os.trans h.fr.os,hb.tape.trans h.fr.tape,hb.output.trans h.fr.output,Nat.le_trans h.fr.size Z,fun b h1 h2=>(hb.block b h1).trans (h.fr.block b h1 h2),fun b o u h1 h2=>by
  have J:=cJ h2;rw[bC (hb.block b J)];exact h.fr.cells b o u h1 h2,fun b cs T f h1=>by
  have J:=(Array.getElem?_eq_some_iff.1 h1).1;rw[hb.block b J];exact h.fr.ty b cs T f h1⟩
section
variable {P:Program} {C:Ctx} {n:Nat} {ops:Array Oper} {Q:Exit→St→Prop} {rest:List Oper}
variable {f:List (Nat×A)} {bx:List (Nat×List A)} {lv:List Nat} {gen:Nat} {d:Nat} {ty:TypeId} {pos:String} {af:Array Edge}
theorem C6 {X:Nat} [hN:NB C X] (cj:∀ b,C.fp b→∃ i:Nat,C.bx[i]? = some b) (dt:∀ i b:Nat,C.bx[i]? = some b→b < C.w0.heap.size) {x y:Operand} {O:Array TypeId} {fid:FuncId} {g g2:Nat} {T e:TypeId} {u:Bool} {s:ByteArray} (hx:av f x=some (.clo fid [])) (hy:av f y=some (.ptr g 0)) (hb:ah bx g=some [.np g T u,.bf g2 e s])
 (dx:(lv.any fun h=>Nat.beq h g2)=true) (hok:iQ P fid) (c6:qq P T e fid) (ed:s.size≤maxLen) (hd:Nat.blt d n=true) (cl:Nat.ble X g=true)
 (h:WO P C n ops Q rest ⟨(d,.d (.v (.string s)))::lL f,lE X bx,[],gen⟩):WO P C n ops Q (⟨some d,.call ⟨.value x,#[y],O⟩,ty,pos,af,none⟩::rest) ⟨f,bx,lv,gen⟩:=by
 refine WO.step (st:=⟨f,bx,lv,gen⟩) rfl fun tmps w ⟨G,hs⟩=>?_;obtain⟨fn,ei,a6,a7⟩:=hok;have cq:=hs.av hx;generalize hv:Act.eval ⟨tmps,[]⟩ x=v at cq
 cases cq with
 | clo _ vs _ ej fs=>
 have en:vs=#[]:=Array.eq_empty_of_size_eq_zero (by simpa using ej);subst en;have cx:=hs.av hy;generalize e2:Act.eval ⟨tmps,[]⟩ y=vy at cx;obtain⟨b,cs,T',h1,h2,h3,h4,h5⟩:=hs.box g _ hb;have e3:vy=.pointer (some ⟨b,0,none⟩):=by
  cases cx with
  | ptr _ _ _ b0 hg Z I=>exact la Z I b h1
 subst e3;have c7:(execOp (Act.eval ⟨tmps,[]⟩) ⟨some d,.call ⟨.value x,#[y],O⟩,ty,pos,af,none⟩).run P w=.ok (.enter fid #[.pointer (some ⟨b,0,none⟩)]) w:=by unfold execOp;show Sem.run P (do let d ←resolve (Act.eval ⟨tmps,[]⟩) ⟨.value x,#[y],O⟩ ty;invoke d.target d.args) w=_;simp only[resolve,hv,e2,Deferred.ofValue,Sem.run_bind,Sem.run_pure,Result.andThen_ok,invoke,callFunc,run_program,ei,a6,a7,Bool.false_eq_true,if_false,Array.empty_append,Array.append_empty,List.map_toArray,List.map_cons,List.map_nil]
 simp at h3;obtain⟨p,q,ad⟩:∃ p q,cs=#[p,q]:=⟨cs[0],cs[1],by apply Array.ext_getElem?;intro i;match i with | 0=>simp[h3] | 1=>simp[h3] | i+2=>simp[h3]⟩;subst ad;have hp:=h5 0 p _ rfl rfl;have hq:=h5 1 q _ rfl rfl;obtain⟨r,cy⟩:=hs.live g2 (cQ dx);have df:C.bx.length=X:=hN.h;have a8:∀ {b lim},C.gF b lim→(∀ g',G.box g'≠some b)→C.w0.heap.size≤b:=fun hm e4=>hm.1.resolve_right fun hf=>by obtain⟨i,hi⟩:=cj _ hf;exact e4 i (hs.lent i _ hi)
 have U:C.w0.heap.size≤b:=(hs.gbox g b h1).2.2.1.resolve_right fun hf=>by obtain⟨i,hi⟩:=cj _ hf;have e:=hs.inj _ _ _ (hs.lent i _ hi) h1;have ai:i < C.bx.length:=(List.getElem?_eq_some_iff.1 hi).1;have:=Nat.le_of_ble_eq_true cl;omega
 have aj:T'=T∧(p=.pointer none∨p=.pointer (some ⟨b,0,none⟩)):=by
  cases hp with
  | np _ _ _ b0 hg Z hT _ I=>
    have e1:b0=b:=by have:=(Z:G.box g=some b0).symm.trans h1;simpa using this
    subst e1;obtain⟨cs',f',hT⟩:=hT;have J:w.heap[b0]? = some (.cells cs' T f'):=hT;rw[h2] at J;simp only[Option.some.injEq,Obj.cells.injEq] at J;refine⟨J.2.1,?_⟩
    cases u with
    | true=>exact .inr I
    | false=>exact .inl I
 obtain⟨rfl,aj⟩:=aj;have M:w.ownsRow C.w0.heap.size e 1 q (Lib.byteCells s.data.toList).length (Lib.byteCells s.data.toList)∧q.ownBlock≠some b:=by
  cases hq with
  | bf _ _ _ _ hg ft di=>
  have I:=di r cy
  cases r with
  | zero b=>exact I.elim
  | mp b bs=>exact I.elim
  | nil=>obtain⟨rfl,h0⟩:=I;have e0:s.data.toList=[]:=List.eq_nil_of_length_eq_zero (by simpa using h0);rw[e0];exact⟨World.ownsRow_nil w _ e 1,by simp[Value.ownBlock]⟩
  | blk b2 len cap sz gb=>
    obtain⟨rfl,h6,rfl,rfl,⟨cs',f',hT⟩,h8⟩:=I;obtain⟨b3,c1,fj,cur,T2,N,ad,e5,e6,_,fo,_⟩:=hs.row g2 b2 len cap 1 0 cy;have J:w.heap[b2]? = some (.cells cs' e f'):=hT;rw[N] at J;simp only[Option.some.injEq,Obj.cells.injEq] at J;obtain⟨_,rfl,_⟩:=J;have hlen:(Lib.byteCells s.data.toList).length=len:=by rw[Lib.byteCells_length,Array.length_toList];exact h6
    rw[hlen];refine⟨⟨by simpa using hlen,.inr ⟨b2,cap,cur,rfl,a8 b3 c1,N,e5,e6,ad,?_⟩⟩,?_⟩
    ·rw[Nat.mul_one]
     apply List.ext_getElem?;intro t;rw[List.getElem?_take];have es:(Lib.byteCells s.data.toList)=Lib.strCells s:=(Lib.strCells_eq s).symm;split
     ·rename_i ai
      have hc:s.data[t]? = some (s.data[t]'(by rw[←h6] at ai;exact ai)):=Array.getElem?_eq_getElem _;have h7:=h8 t _ hc;have ff:cur[t]? = _:=(bH N t).symm.trans h7;rw[es,eS hc,Array.getElem?_toList,ff]
     ·rename_i cl
      rw[List.getElem?_eq_none (by rw[hlen];omega)]
    ·simp only[Value.ownBlock]
     intro e1;simp only[Option.some.injEq] at e1;exact c1 g (e1▸h1)
 have dj:∀ p,p=Value.pointer none∨p=.pointer (some ⟨b,0,none⟩)→w.heap[b]? = some (.cells #[p,q] T' (0,0))→Lib.IsBuilder T' e C.w0.heap.size b (Lib.byteCells s.data.toList) w:=by
  rintro p (rfl | rfl) hh;·exact .inl ⟨U,q,hh,M.1,M.2⟩
  ·exact .inr ⟨U,q,hh,M.1,M.2⟩
 unfold cZ;have ch:(execOp (Act.eval { tmps:=tmps,defers:=[] }) ⟨some d,.call ⟨.value x,#[y],O⟩,ty,pos,af,none⟩).run P w=.ok (.enter fid #[.pointer (some ⟨b,0,none⟩)]) w:=c7;rw[ch];refine(c6 C.w0.heap.size b s.data.toList w (dj p aj h2) hs.fr.size).mono ?_;rintro e' w' ⟨rfl,a1⟩;refine⟨_,rfl,⟨(d,.d (.v (.string s)))::lL f,lE X bx,[],gen⟩,⟨⟨fun g=>if g < X then G.box g else none,fun _=>none⟩,?_⟩,h⟩;have:=(hs.Gw df dt a1 a1.size).put (dst:=some d) (bX (dst:=some d) hd) (v:=.string ⟨s.data.toList.toArray⟩) (a:=.d (.v (.string s))) (.d (by
  have:(⟨s.data.toList.toArray⟩:ByteArray)=s:=by apply ByteArray.ext;simp
  rw[this];exact .v _ (by simp[cu,ed])))
 exact this
end
end Go.Ab
namespace Go.Ab
open Go.RowKit
section
variable {P:Program} {C:Ctx} {n:Nat}
theorem W.BB (T:bF P) {J:Nat} [hnb:NB C J] {id:Nat} {l l1 l2:List Oper} {f:List (Nat×A)} {bx:List (Nat×List A)} {lv:List Nat} {gen:Nat} {Q:Exit→St→Prop} (v:Value) (cs:List Nat) (m:Nat) (hB:fM m l.toArray=true) (I:js l.toArray cs=true) (h1:l.take m=l1) (h2:l.drop m=l2)
 (M:∀ st,Q (eX v) st) (h:CD P T C n (yG (bx::List.replicate cs.length bx) (lv::List.replicate cs.length lv) (gen::List.replicate cs.length gen) cs l.length v) l.toArray (WO P C n l.toArray Q l2) l1 0 f 0 true):W P C n (.region id l.toArray true) Q ⟨f,bx,lv,gen⟩:=
 W.xD T v _ _ _ _ m hB I h1 h2 M h
theorem W.Cj (T:bF P) {J:Nat} [hnb:NB C J] {id:Nat} {l l1 l2:List Oper} {f:List (Nat×A)} {bx:List (Nat×List A)} {lv:List Nat} {gen:Nat} {Q:Exit→St→Prop} (v:Value) (lv1:List Nat) (gen1:Nat) (bx1:List (Nat×List A)) (cs:List Nat) (m:Nat) (hB:fM m l.toArray=true) (I:js l.toArray cs=true) (h1:l.take m=l1) (h2:l.drop m=l2)
 (M:∀ st,Q (eX v) st) (h:CD P T C n (yG (bx::List.replicate cs.length bx1) (lv::List.replicate cs.length lv1) (gen::List.replicate cs.length gen1) cs l.length v) l.toArray (WO P C n l.toArray Q l2) l1 0 f 0 true):W P C n (.region id l.toArray true) Q ⟨f,bx,lv,gen⟩:=
 W.xD T v _ _ _ _ m hB I h1 h2 M h
theorem W.qH (T:bF P) {N:Nat} [hnb:NB C N] {id:Nat} {l l1 l2:List Oper} {f:List (Nat×A)} {bx:List (Nat×List A)} {lv:List Nat} {gen:Nat} {Q:Exit→St→Prop} (F:List (Nat×List A)→List (List (Nat×List A))) (J:List (List Nat)) (I:List Nat) (cs:List Nat) (m:Nat) (hB:fM m l.toArray=true) (M:js l.toArray cs=true) (h1:l.take m=l1) (h2:l.drop m=l2)
 (h:CD P T C n (BK (bx::F bx) (lv::J) (gen::I) cs l.length) l.toArray (WO P C n l.toArray Q l2) l1 0 f 0 true):W P C n (.region id l.toArray true) Q ⟨f,bx,lv,gen⟩:=
 W.pw T (F bx) J I cs m hB M h1 h2 h
end
end Go.Ab
namespace Go.Ab
open Go.RowKit
/-! ### a code whose end is told at once -/
def W' (P:Program) (C:Ctx) (n:Nat) (c:Code) (B:Exit→Act→World→Prop) (st:St):Prop:=∀ tmps w,eI C n st tmps w→c.wp P B ⟨tmps,C.ds⟩ w
def oL (P:Program) (C:Ctx) (n:Nat) (ops:Array Oper) (B:Exit→Act→World→Prop) (l:List Oper) (st:St):Prop:=∀ tmps w,eI C n st tmps w→dX P ops B l ⟨tmps,C.ds⟩ w
def Gm (P:Program) (C:Ctx) (n:Nat) (y:Code) (B:Exit→Act→World→Prop):Exit→St→Prop
 | .normal,st=>W' P C n y B st
 | e,st=>∀ tmps w,eI C n st tmps w→B e ⟨tmps,C.ds⟩ w
section
variable {P:Program} {C:Ctx} {n:Nat} {ops:Array Oper} {B:Exit→Act→World→Prop} {st:St} {o:Oper} {rest:List Oper} {a:A}
theorem W'.seq {x y:Code} (h:W P C n x (Gm P C n y B) st):W' P C n (.seq x y) B st:=by intro tmps w hs;refine wp_seq (wp_mono (h tmps w hs) ?_);rintro e ⟨t,M⟩ w' ⟨hd,st',I,J⟩;simp only at hd;subst hd;cases e <;> simp only[Gm] at J <;> simp only[Exit.then];all_goals exact J t w' I
theorem W'.zE {id:Nat} {l:List Oper} {y:Code} (h:oL P C n l.toArray (Exit.then (y.wp P B) B) l st):W' P C n (.seq (.region id l.toArray false) y) B st:=by intro tmps w hs;refine wp_seq (wp_region ?_);have:=n9 (P:=P) (Q:=Exit.then (y.wp P B) B) (ops:=l.toArray) l 0 (by simp) ⟨tmps,C.ds⟩ w (h tmps w hs);rw[List.range_eq_range'];simpa using this
theorem oL.pu (I:o.guard=none) (hd:eV n o.dst=true) (hp:Pu P C n st o a) (h:oL P C n ops B rest (st.put o.dst a)):oL P C n ops B (o::rest) st:=by intro tmps w ⟨G,hs⟩;simp only[dX,Region.wanted,I,if_true];refine(cZ.ds (hp G tmps w hs)).wp fun v w' ⟨hb,hr⟩=>?_;rw[Act.gI];exact h _ _ ⟨G,(hs.gK hb).2.put (bX hd) hr⟩
abbrev pp (b:Nat):Value:=.pointer (some ⟨b,0,none⟩)
abbrev pJ (fid:FuncId) (b0 b1 b2:Nat):Deferred:=⟨.fn (.func fid) #[pp b0,pp b1,pp b2],#[]⟩
theorem oL.defer (hg:o.guard=none) (N:o.dst=none) {x:Operand} {X:Array TypeId} {fid:FuncId} (ho:o.op=.defer ⟨.value x,#[],X⟩) (hx:av st.f x=some (.clo fid [.ptr 0 0,.ptr 1 0,.ptr 2 0]))
 (h:∀ I b1 J tmps w G,ax C n st G tmps w→G.box 0=some I→G.box 1=some b1→G.box 2=some J→dX P ops B rest ⟨tmps,pJ fid I b1 J::C.ds⟩ w):oL P C n ops B (o::rest) st:=by
 intro tmps w ⟨G,hs⟩;simp only[dX,Region.wanted,hg,if_true];have O:=hs.av hx;rw[←Act.gO tmps C.ds []] at O;generalize hv:Act.eval ⟨tmps,C.ds⟩ x=v at O
 cases O with
 | clo _ vs _ M hcd=>
 have M:vs.size=3:=M;obtain⟨v0,v1,v2,rfl⟩:∃ v0 v1 v2,vs=#[v0,v1,v2]:=⟨vs[0],vs[1],vs[2],by
  apply Array.ext;·simpa using M
  ·intro i h1 h2
   match i with
   | 0=>rfl
   | 1=>rfl
   | 2=>rfl
   | i+3=>simp at h2;omega⟩
 have r0:=hcd 0 v0 _ rfl rfl;have r1:=hcd 1 v1 _ rfl rfl;have r2:=hcd 2 v2 _ rfl rfl
 cases r0 with
 | ptr _ _ _ I _ Z e0=>
 cases r1 with
 | ptr _ _ _ b1 _ ad e1=>
 cases r2 with
 | ptr _ _ _ J _ ai e2=>
 subst e0;subst e1;subst e2;have U:(execOp (Act.eval ⟨tmps,C.ds⟩) o).run P w=.ok (.defer (pJ fid I b1 J)) w:=by unfold execOp;rw[ho];simp only[resolve,hv,Deferred.ofValue,Sem.run_bind,Sem.run_pure,Result.andThen_ok,List.map_toArray,List.map_nil,Array.append_empty]
 unfold Oper.wp;rw[U,Oper.upon_defer];rw[N];exact h I b1 J tmps w G hs Z ad ai
theorem ax.vo {G:Gh} {tmps:Array Value} {w:World} {bs:List Nat} {ds:List Deferred} (hs:ax C n st G tmps w) (h:∀ (i b:Nat),bs[i]? = some b→G.box i=some b):ax { C with bx:=bs,ds:=ds } n st G tmps w:=
 { size:=hs.size,frame:=hs.frame,box:=hs.box,gbox:=hs.gbox,inj:=hs.inj,live:=hs.live,gown:=hs.gown,row:=hs.row,mrow:=hs.mrow,sub:=hs.sub,gcell:=hs.gcell,xold:=hs.xold,kold:=hs.kold,lent:=h,
   fr:=⟨hs.fr.os,hs.fr.tape,hs.fr.output,hs.fr.size,hs.fr.block,hs.fr.cells,hs.fr.ty⟩ }
theorem GC.vo [cd P] (h:GC P C) {bs:List Nat} {ds:List Deferred}:GC P { C with bx:=bs,ds:=ds }:=⟨h.h⟩
theorem sC {c:Code} {Q:Exit→St→Prop} {tmps:Array Value} {w:World} (hs:eI C n st tmps w) (hW:W P C n c Q st) (hB:∀ e a w',lift C n Q e a w'→B e a w'):c.wp P B ⟨tmps,C.ds⟩ w:=wp_mono (hW tmps w hs) hB
/-! ### a callee panics: the other boxes stay -/
def y8:A→A
 | .ptr g o=>.ptr g o
 | _=>.any
def uV (f:List (Nat×A)):List (Nat×A):=f.map fun p=>(p.1,y8 p.2)
theorem AS (f:List (Nat×A)) (t:Nat):look (uV f) t=(look f t).map y8:=by
 induction f with
 | nil=>rfl
 | cons p r I=>obtain⟨s,a⟩:=p;unfold uV at I ⊢;rw[List.map_cons,aU,aU,I];split <;> rfl
theorem BX {E E':En} {v:Value} {a:A} (I:E'.gen=E.gen) (hb:E'.box=E.box) (h:aD E v a):aD E' v (y8 a):=by
 unfold y8;split;·cases h with
  | ptr _ g off b h1 h2 h3=>exact .ptr _ _ _ b (I▸h1) (by rw[hb];exact h2) h3
 ·exact .any _
def lY (gs:List Nat):List (Nat×List A)→List (Nat×List A)
 | []=>[]
 | (g,c)::r=>bif gs.any (Nat.beq g) then lY gs r else (g,c.map nn)::lY gs r
theorem mV {gs:List Nat}:∀ {bx:List (Nat×List A)} {g:Nat} {c:List A},ah (lY gs bx) g=some c→gs.any (Nat.beq g)=false∧∃ c0,ah bx g=some c0∧c=c0.map nn
 | [],g,c,h=>by simp[lY,ah] at h
 | (g0,c0)::r,g,c,h=>by
   unfold lY at h
   cases hb:gs.any (Nat.beq g0) with
   | false=>
     rw[hb] at h;simp only[cond_false,ah] at h ⊢
     cases he:Nat.beq g0 g with
     | true=>rw[he] at h;simp only[cond_true,Option.some.injEq] at h ⊢;have e:g0=g:=Nat.eq_of_beq_eq_true he;subst e;exact⟨hb,c0,rfl,h.symm⟩
     | false=>rw[he] at h;simp only[cond_false] at h ⊢;exact mV h
   | true=>
     rw[hb] at h;simp only[cond_true] at h;obtain⟨h1,h2⟩:=mV h;refine⟨h1,?_⟩;have e:Nat.beq g0 g=false:=by
      cases q:Nat.beq g0 g with
      | false=>rfl
      | true=>have e:g0=g:=Nat.eq_of_beq_eq_true q;subst e;rw[hb] at h1;cases h1
     simp only[ah,e,cond_false];exact h2
theorem ax.Gi {G:Gh} {tmps:Array Value} {w w':World} (h:ax C n st G tmps w) {gs os:List Nat} (h1:Fr (dP C G w gs os) w'):ax C n ⟨uV st.f,lY gs st.bx,[],st.gen⟩ ⟨G.box,fun _=>none⟩ tmps w':=
 { size:=h.size
   frame:=fun t a M=>by rw[AS] at M;obtain⟨a',O,rfl⟩:=Option.map_eq_some_iff.1 M;obtain⟨v,hv,I⟩:=h.frame t a' O;exact⟨v,hv,BX (E:=aA C G st.gen w) rfl rfl I⟩
   box:=fun g cells hc=>by
    obtain⟨J,c0,h0,rfl⟩:=mV hc;obtain⟨b,cs,T,q1,q2,q3,q4,q5⟩:=h.box g c0 h0;have U:b < w.heap.size:=(h.gbox g b q1).2.1;have hn:¬ (eu G gs b∨∃ lim,dA G os b lim):=by
     rintro(⟨X,N,Z⟩ | ⟨lim,X,N,r,I,hra⟩)
     ·have e:=h.inj _ _ _ Z q1
      subst e;have:=List.any_eq_false.1 J X N;simp at this
     ·exact(h.rowAt I hra).2.1 g q1
    refine⟨b,cs,T,q1,(h1.block b U hn).trans q2,by simpa using q3,q4,fun i u a hu M=>?_⟩;rw[List.getElem?_map] at M;obtain⟨a0,ad,rfl⟩:=Option.map_eq_some_iff.1 M;exact qn (q5 i u a0 hu ad)
   gbox:=fun g b J=>⟨(h.gbox g b J).1,Nat.lt_of_lt_of_le (h.gbox g b J).2.1 h1.size,(h.gbox g b J).2.2⟩
   inj:=h.inj,live:=fun g J=>by simp at J,gown:=fun g r I=>by simp at I,row:=fun g b len cap sz ai I=>by simp at I,mrow:=fun g b bs I=>by simp at I,sub:=fun g b bs c lim I=>by simp at I,gcell:=fun g b hb=>kD h1.ty (h.gcell g b hb),xold:=h.xold,kold:=h.kold,lent:=h.lent,fr:=h.zl h1 }
end
section
variable {P:Program} {C:Ctx} {n:Nat} {ops:Array Oper} {Q:Exit→St→Prop} {rest:List Oper} {st:St} {o:Oper}
theorem WO.nY [cd P] [GC P C] (U:o.guard=none) {x:Operand} {xs:Array Operand} {O:Array TypeId} (ho:o.op=.call ⟨.value x,xs,O⟩) {fid:FuncId} {caps I:List A} (hx:av st.f x=some (.clo fid caps))
 (a6:jm st.f xs.toList=some I) (gs os:List Nat) (a7:nodupB gs=true) (a8:nodupB os=true) (b2:(os.all fun g=>st.lv.any fun h=>Nat.beq h g)=true) {args:List A} {b0:List (List A)} {v:Value} {m:Nat}
 (hf:gx P fid args b0 m v) (X:(I++caps).map (dq st.bx gs os 5)=args) (hb:fm st.bx gs os gs=some b0) (hm:os.length=m)
 (h:Q (eX v) ⟨uV st.f,lY gs st.bx,[],st.gen⟩):WO P C n ops Q (o::rest) st:=by
 subst hm;subst X;intro tmps w ⟨G,hs⟩;simp only[dX,Region.wanted,U,if_true];obtain⟨fn,b3,M,N⟩:=hf.ok;have Z:=hs.av hx;rw[←Act.gO tmps C.ds []] at Z;generalize hv:Act.eval ⟨tmps,C.ds⟩ x=v' at Z
 cases Z with
 | clo _ vs _ ch hcd=>
 obtain⟨h1,h2⟩:=iz hs xs.toList I a6;rw[←Act.gO tmps C.ds []] at h2;have ad:(execOp (Act.eval ⟨tmps,C.ds⟩) o).run P w=.ok (.enter fid (xs.map (Act.eval ⟨tmps,C.ds⟩)++vs)) w:=by unfold execOp;rw[ho];show Sem.run P (do let d ←resolve (Act.eval ⟨tmps,C.ds⟩) ⟨.value x,xs,O⟩ o.type;invoke d.target d.args) w=_;simp only[resolve,hv,Deferred.ofValue,Sem.run_bind,Sem.run_pure,Result.andThen_ok,invoke,callFunc,run_program,b3,M,N,Bool.false_eq_true,if_false,Array.empty_append]
 obtain⟨hlen,ai⟩:=hs.k9 (gs:=gs) (os:=os) (dQ a7) (dQ a8) (fun g U=>by obtain⟨y,J,he⟩:=List.any_eq_true.1 (List.all_eq_true.1 b2 g U);exact Nat.eq_of_beq_eq_true he▸J) hb;have cy:=(gy hb).1;unfold Oper.wp;rw[ad];refine(hf.calls (dP C G w gs os) (fO G gs os) _ w (GC.qL hs) rfl hlen rfl (qi rfl) ai (by simp at h1;simp[ch,h1]) (fun i u a hu ha=>?_)).mono fun e w' ⟨he,h3⟩=>?_
 ·simp only[List.getElem?_map,Option.map_eq_some_iff] at ha
  obtain⟨y,J,rfl⟩:=ha;refine aD.k9 hs gs os (by omega) 5 u y ?_;simp only[Array.getElem?_append] at hu;split at hu
  ·rename_i cj
   simp only[Array.size_map] at cj;have aj:i < I.length:=by simp at h1;omega
   rw[List.getElem?_append_left aj] at J;obtain⟨z,hz,cl⟩:=h2 i y J;simp only[Array.getElem?_map,Option.map_eq_some_iff] at hu;obtain⟨z',cq,rfl⟩:=hu;have:z=z':=by simp at hz;rw[cq] at hz;exact(Option.some.inj hz).symm
   subst this;exact cl
  ·rename_i cx
   simp only[Array.size_map] at cx hu;have a1:I.length≤i:=by simp at h1;omega
   rw[List.getElem?_append_right a1] at J;refine hcd (i - xs.size) u y hu ?_;have:xs.size=I.length:=by simpa using h1
   rw[this];exact J
 ·subst he
  exact⟨rfl,_,⟨_,hs.Gi h3⟩,h⟩
end
section
variable {P:Program} {C:Ctx} {n:Nat} {ops:Array Oper} {Q:Exit→St→Prop} {rest:List Oper}
variable {f:List (Nat×A)} {bx:List (Nat×List A)} {lv:List Nat} {gen:Nat} {op:Op} {ty:TypeId} {pos:String} {af:Array Edge} {dst:Option Nat}
theorem nY [cd P] [GC P C] {x:Operand} {xs:Array Operand} {M:Array TypeId} {fid:FuncId} {caps I args:List A} {N:List (List A)} {v:Value} {m:Nat} (gs os:List Nat) (hx:av f x=some (.clo fid caps)) (O:jm f xs.toList=some I)
 (J:(I++caps).map (dq bx gs os 5)=args) (hb:fm bx gs os gs=some N) (hm:os.length=m) (hf:gx P fid args N m v)
 (U:nodupB gs=true) (X:nodupB os=true) (Z:(os.all fun g=>lv.any fun h=>Nat.beq h g)=true) (h:Q (eX v) ⟨uV f,lY gs bx,[],gen⟩) :
 WO P C n ops Q (⟨dst,.call ⟨.value x,xs,M⟩,ty,pos,af,none⟩::rest) ⟨f,bx,lv,gen⟩:=
 WO.nY (st:=⟨f,bx,lv,gen⟩) rfl rfl hx O gs os U X Z hf J hb hm h
theorem EE {t t':Nat} {x:Operand} (M:av f x=some (.d (.v .nilIface))) (hB:j9 P t=true) :
 Pu P C n ⟨f,bx,lv,gen⟩ ⟨dst,.binOp .neq t x (.const .nilIface) t',ty,pos,af,none⟩ (.d (.v (.bool false))):=by
 obtain⟨ms,hu⟩:=j8 hB;refine dG.pu fun G tmps w hs=>?_;have I:=hs.av M;generalize J:Act.eval ⟨tmps,[]⟩ x=vx at I;cases I with | d I=>cases I with | v _ _=>
 refine⟨.bool false,?_,.d (.v _ rfl)⟩;unfold execOp;show Sem.run P _ w=_;have he:(Act.eval ⟨tmps,[]⟩ (Operand.const Value.nilIface))=Value.nilIface:=rfl;simp only[J,he,eqGuard,binOp];simp[sG w hu];rfl
theorem FY {t t' u:Nat} {v:Value} {x:Operand} (M:av f x=some (.d (.v (.iface u v)))) (hB:j9 P t=true) :
 Pu P C n ⟨f,bx,lv,gen⟩ ⟨dst,.binOp .neq t x (.const .nilIface) t',ty,pos,af,none⟩ (.d (.v (.bool true))):=by
 obtain⟨ms,hu⟩:=j8 hB;refine dG.pu fun G tmps w hs=>?_;have I:=hs.av M;generalize J:Act.eval ⟨tmps,[]⟩ x=vx at I;cases I with | d I=>cases I with | v _ _=>
 refine⟨.bool true,?_,.d (.v _ rfl)⟩;unfold execOp;show Sem.run P _ w=_;have he:(Act.eval ⟨tmps,[]⟩ (Operand.const Value.nilIface))=Value.nilIface:=rfl;simp only[J,he,eqGuard,binOp];simp[wg w hu];rfl
theorem AO (T:bF P) {x:Operand} {t i:Nat} {M:bM} {l:List Value} (U:ah T.l t=some M) (X:M.k.agg=true) (N:∀ v∈l,cu v=true) (I:av f x=some (.d (.v (.iface t (.agg l.toArray))))):Pu P C n ⟨f,bx,lv,gen⟩ ⟨dst,.typeAssert x i t true,ty,pos,af,none⟩ (.tup [.ag (l.map D.v),.d (.v (.bool true))]):=by
 refine dG.pu fun G tmps w hs=>?_;have J:=hs.av I;generalize Z:Act.eval ⟨tmps,[]⟩ x=v at J
 cases J with
 | d J=>
 have hok:cu (.iface t (.agg l.toArray))=true:=by cases J with | v _ h=>exact h
 have J:=uL J;subst J;obtain⟨u,hu,ad⟩:∃ u,P.underlying t=some u∧(match u with | .interface _=>false | _=>true)=true:=by
  have:=T.isAgg U w;unfold isAgg at this
  cases hu:P.underlying t with
  | none=>simp[underlying,hu] at this
  | some u=>refine⟨u,rfl,?_⟩;cases u <;> first | rfl | (simp[underlying,hu,X] at this)
 refine⟨.tuple #[.agg l.toArray,.bool true],?_,?_⟩
 ·unfold execOp
  simp only[Z,Instr.typeAssert,Sem.run_bind,run_underlying hu,Result.andThen_ok,Sem.run_pure];cases u <;> simp_all
 ·refine .tup _ _ rfl fun k u x hu I=>?_
  match k with
  | 0=>
    simp at hu I;subst hu;subst I;refine .ag _ _ (by simp) fun k u x hu I=>?_;simp only[List.getElem?_map,Option.map_eq_some_iff] at I;obtain⟨y,O,rfl⟩:=I;have hu:l[k]? = some u:=by simpa using hu
    rw[hu] at O;cases O;exact .v _ (N u (List.mem_of_getElem? hu))
  | 1=>simp at hu I;subst hu;subst I;exact .d (.v _ rfl)
  | k+2=>simp at hu
end
/-! ### the end of a function whose results are cells -/
theorem Cm {P:Program} (T:bF P) {C:Ctx} {n:Nat} {st:St} {G:Gh} {tmps:Array Value} {w:World} {fn:Func} {rs:List RV} {r:A} {l:List A} (hs:ax C n st G tmps w) (J:C.bx=[]) (I:fn.results=(rs.map RV.var).toArray) (hl:jz T st.f st.bx rs=some l) (M:norm [] (aI l)=r) :
 ∃ v,(results fn tmps).run P w=.ok v w∧∃ v1 N,Ending.returned v=.returned v1∧ax C 0 ⟨[],[],List.range 0,0⟩ N #[] w∧aD (aA C N 0 w) v1 r:=by
 obtain⟨vs,O,U,X⟩:=jK T hs rs l hl;refine⟨_,gh I O,_,⟨fun _=>none,fun _=>none⟩,rfl,?_,?_⟩
 ·exact { size:=rfl,frame:=fun t a ha=>by simp[look] at ha,box:=fun g cells hc=>by simp[ah] at hc,gbox:=fun g b hb=>by simp at hb,inj:=fun g g' b hb=>by simp at hb,
          live:=fun g Z=>by simp at Z,gown:=fun g r I=>by simp at I,row:=fun g b len cap sz ad I=>by simp at I,mrow:=fun g b bs I=>by simp at I,sub:=fun g b bs c lim I=>by simp at I,gcell:=fun g b hb=>by simp at hb,xold:=hs.xold,kold:=hs.kold,lent:=fun i b hb=>by rw[J] at hb;simp at hb,fr:=hs.fr }
 ·rw[←M]
  refine aD.norm (order:=[]) (E:=aA C G st.gen w) (E2:=aA C ⟨fun _=>none,fun _=>none⟩ 0 w) (fun b o u hu hn=>⟨hu,fun hp=>hn ?_⟩) (fun g r' Z ai=>?_) (by simp[aA]) (lg U X)
  ·rcases(hp:bc C ⟨fun _=>none,fun _=>none⟩ b o) with hp | ⟨g,hp⟩ | ⟨g,len,cap,sz,ad,hp,hle⟩ | ⟨g,b',bs,lim,hp,_⟩
   ·exact Or.inl hp
   ·cases hp
   ·cases hp
   ·cases hp
  ·cases ai
theorem oL.Bf {P:Program} {C:Ctx} {n:Nat} {ops:Array Oper} {B:Exit→Act→World→Prop} {y:Code} {f:List (Nat×A)} {bx:List (Nat×List A)} {lv:List Nat} {gen:Nat} {ty:TypeId} {pos:String} {af:Array Edge} {x:Operand} {M:Array TypeId} {fid:FuncId} (N:av f x=some (.clo fid [.ptr 0 0,.ptr 1 0,.ptr 2 0]))
 (h:∀ I b1 J tmps w G,ax C n ⟨f,bx,lv,gen⟩ G tmps w→G.box 0=some I→G.box 1=some b1→G.box 2=some J→y.wp P B ⟨tmps,pJ fid I b1 J::C.ds⟩ w):oL P C n ops (Exit.then (y.wp P B) B) [⟨none,.defer ⟨.value x,#[],M⟩,ty,pos,af,none⟩] ⟨f,bx,lv,gen⟩:=
 oL.defer (st:=⟨f,bx,lv,gen⟩) rfl rfl rfl N fun I b1 J tmps w G hs O U X=>h I b1 J tmps w G hs O U X
theorem rN {P:Program} (T:bF P) {C:Ctx} {n:Nat} {M:St} {G2 O:Gh} {I:Array Value} {w2 N:World} {ai aj:List Deferred} {b0 b1 b2:Nat} {fn:Func} {rs:List RV} {r:A} {l:List A} {U s1 s2 gen':Nat} {bx':List (Nat×List A)} (ad:C.bx=[])
 (X:ax { C with bx:=[b0,b1,b2],ds:=ai } n M G2 I w2) (k0:look M.f U=some (.ptr 0 0)) (k1:look M.f s1=some (.ptr 1 0)) (k2:look M.f s2=some (.ptr 2 0))
 (Z:ax { C with bx:=[b0,b1,b2],ds:=aj } 0 ⟨[],bx',[],gen'⟩ O #[] N) (hr:fn.results=(rs.map RV.var).toArray) (hl:jz T [(U,.ptr 0 0),(s1,.ptr 1 0),(s2,.ptr 2 0)] bx' rs=some l) (a1:norm [] (aI l)=r) :
 ∃ v,(results fn I).run P N=.ok v N∧∃ v1 O,Ending.returned v=.returned v1∧ax C 0 ⟨[],[],List.range 0,0⟩ O #[] N∧aD (aA C O 0 N) v1 r:=by
 have key:∀ (i b s:Nat),[b0,b1,b2][i]? = some b→look M.f s=some (.ptr i 0)→∃ v,I[s]? = some v∧aD (aA C O gen' N) v (.ptr i 0):=by
  intro i b s hb hk;obtain⟨v,hv,hr⟩:=X.frame s _ hk;refine⟨v,hv,?_⟩
  cases hr with
  | ptr _ _ _ b' _ h1 h2=>
    have e:b'=b:=by have h3:=X.lent i b hb;have h1:G2.box i=some b':=h1;rw[h3] at h1;exact(Option.some.inj h1).symm
    subst e;have h4:=Z.lent i b' hb;exact .ptr _ _ _ b' (Z.gbox i b' h4).1 h4 h2
 have a6:ax C n ⟨[(U,.ptr 0 0),(s1,.ptr 1 0),(s2,.ptr 2 0)],bx',[],gen'⟩ O I N:=by
  have h5:=Z.vo (bs:=C.bx) (ds:=C.ds) (fun i b hb=>by rw[ad] at hb;simp at hb);exact { h5 with
   size:=X.size
   frame:=fun t a J=>by
    have J:look [(U,A.ptr 0 0),(s1,A.ptr 1 0),(s2,A.ptr 2 0)] t=some a:=J;rw[aU,aU,aU] at J;split at J
    ·rename_i e
     cases J;exact e▸key 0 b0 U rfl k0
    ·split at J
     ·rename_i e
      cases J;exact e▸key 1 b1 s1 rfl k1
     ·split at J
      ·rename_i e
       cases J;exact e▸key 2 b2 s2 rfl k2
      ·simp[look] at J }
 exact Cm T a6 ad hr hl a1
theorem ay.Gf {P:Program} [cd P] {f:FuncId} {fn:Func} {c:Code} {n:Nat} {args:List A} {r:A} (O:P.funcs[f]? = some fn) (M:(fn.name == "runtime.NumGoroutine")=false) (hb:fn.body=some c) (X:fn.ntmps=n)
 (hlen:Nat.ble args.length n=true) (h:∀ C,NB C 0→GC P C→C.bx=[]→C.ds=[] →
  W' P C n c (bodyPostD P fn fun e w'=>∃ v U,e=.returned v∧ax C 0 ⟨[],[],List.range 0,0⟩ U #[] w'∧aD (aA C U 0 w') v r) ⟨gw 0 args,[],[],0⟩):ay P f args r 0:=by
 have hlen:=Nat.le_of_ble_eq_true hlen;refine⟨⟨fn,O,M,by rw[hb];rfl⟩,fun C I w Z hw hp hx ad N=>?_⟩;subst hw;refine calls_of_wp_defers O hb (pA hp.2.2.2 (h C ⟨by rw[hp.2.2.1];rfl⟩ Z hp.2.2.1 hp.2.2.2 (I++Array.replicate (fn.ntmps - I.size) undef) C.w0 ⟨G0,?_⟩))
 refine { size:=by simp[X];omega,frame:=fun t a ha=>?_,box:=fun g cells hc=>by simp[ah] at hc,gbox:=fun g b hb=>by simp[G0] at hb,inj:=fun g g' b hb=>by simp[G0] at hb,
          live:=fun g hg=>by simp at hg,gown:=fun g r J=>by simp[G0] at J,row:=fun g b len cap sz ai J=>by simp[G0] at J,mrow:=fun g b bs J=>by simp[G0] at J,sub:=fun g b bs c lim J=>by simp[G0] at J,gcell:=fun g b hb=>by simp[G0] at hb,xold:=fun b o hb=>⟨hx b o hb,hp.1 b⟩,kold:=fun b o hb=>absurd hb (hp.2.1 b o),lent:=fun i b hb=>by rw[hp.2.2.1] at hb;simp at hb,
          fr:=⟨rfl,rfl,rfl,Nat.le_refl _,fun _ _ _=>rfl,fun _ _ _ hb=>absurd hb (hp.2.1 _ _),dh.refl _⟩ }
 obtain⟨_,h1⟩:=fL args 0 t a ha;have h2:t < args.length:=(List.getElem?_eq_some_iff.1 (by simpa using h1)).1;have h3:t < I.size:=by omega
 have h4:I[t]? = some I[t]:=by simp[h3]
 exact⟨I[t],by rw[Array.getElem?_append_left h3];exact h4,N t _ a h4 (by simpa using h1)⟩
/-! ### a deferred closure that asks for the panic's value -/
section
variable {P:Program} {ops:Array Oper} {Q:Exit→Act→List Frame→World→Prop} {rest:List Nat} {i:Nat} {a:Act} {cs:List Frame} {w:World} {o:Oper}
theorem om {I:Array Value} {ds:List Deferred} {d:Nat} (N:ops[i]? = some o) (O:o.guard=none) (M:o.op=.call ⟨.builtin .recover,#[],#[]⟩) (hd:o.dst=some d)
 (h:match recoverD cs with | some (v,cs')=>wpOpsS P ops Q rest ⟨I.setIfInBounds d v,ds⟩ cs' w | none=>wpOpsS P ops Q rest ⟨I.setIfInBounds d .nilIface,ds⟩ cs w):wpOpsS P ops Q (i::rest) ⟨I,ds⟩ cs w:=by
 simp only[wpOpsS,N,Region.wanted,O,if_true];have J:(execOp (Act.eval ⟨I,ds⟩) o).run P w=.ok .recover w:=by unfold execOp;rw[M];simp[resolve,invoke,builtin,Sem.run_bind,Sem.run_pure]
 rw[J,hd];exact h
theorem sH {I:Array Value} {ds:List Deferred} {d d0:Nat} {v:Value} (N:ops[i]? = some o) (O:o.guard=none) (M:o.op=.assign (.tmp d0)) (hd:o.dst=some d) (U:I[d0]? = some v) (h:wpOpsS P ops Q rest ⟨I.setIfInBounds d v,ds⟩ cs w):wpOpsS P ops Q (i::rest) ⟨I,ds⟩ cs w:=by
 simp only[wpOpsS,N,Region.wanted,O,if_true];have he:Act.eval ⟨I,ds⟩ (.tmp d0)=v:=by show I.getD d0 undef=v;rw[Array.getD_eq_getD_getElem?,U];rfl
 have J:(execOp (Act.eval ⟨I,ds⟩) o).run P w=.ok (.value v) w:=by unfold execOp;rw[M,←he];rfl
 rw[J];show Oper.upon P o ⟨I,ds⟩ (fun a' w'=>wpOpsS P ops Q rest a' cs w') (fun e a' w'=>Q e a' cs w') (.ok (.value v) w);rw[Oper.upon_value,hd];exact h
theorem u9 (h:Q .normal a cs w):wpOpsS P ops Q [] a cs w:=h
end
end Go.Ab
namespace Go.Ab
open Go.RowKit
def uc:Obj→Bool
 | .cells ..=>true
 | .map ..=>true
 | _=>false
theorem yu {w:World} {b o:Nat} {u:Value} (h:cellAt w b o=some u):∃ cs T f,w.heap[b]? = some (.cells cs T f)∧cs[o]? = some u:=by
 unfold cellAt World.cell? at h
 cases hb:w.heap[b]? with
 | none=>simp[hb] at h
 | some x=>cases x <;> simp_all
section
variable {C:Ctx} {n:Nat} {st:St} {G:Gh} {tmps:Array Value} {w:World}
theorem ax.agree (h:ax C n st G tmps w) {w':World} (e1:w'.os=w.os) (e2:w'.tape=w.tape) (e3:w'.output=w.output) (U:w.heap.size≤w'.heap.size)
 (J:∀ (b:Nat) (o:Obj),w.heap[b]? = some o→uc o=true→w'.heap[b]? = some o) (hold:∀ b,b < C.w0.heap.size→¬ C.fp b→w'.heap[b]? = w.heap[b]?):ax C n st G tmps w':=by
 have M:∀ {b o:Nat} {u:Value},Ab.cellAt w b o=some u→Ab.cellAt w' b o=some u:=fun {b o u} hu=>by obtain⟨cs,T,f,h1,h2⟩:=yu hu;rw[bH (J b _ h1 rfl)];exact h2
 have N:dh w w':=fun b cs T f h=>⟨cs,f,J b _ h rfl⟩;have X:Fr C w':=⟨e1.trans h.fr.os,e2.trans h.fr.tape,e3.trans h.fr.output,Nat.le_trans h.fr.size U,fun b h1 h2=>(hold b h1 h2).trans (h.fr.block b h1 h2),fun b o u Z hu=>M (h.fr.cells b o u Z hu),h.fr.ty.trans N⟩;have hle:(aA C G st.gen w).le (aA C G st.gen w'):=jB h.fr X (fun b o u hu hn=>⟨M hu,hn⟩) (fun _ _ h=>h) (fun _ _ _ h=>h) (Nat.le_refl _) (fun g b len cap sz O _ I=>by
  obtain⟨_,_,_,cur,T,h3,_⟩:=h.row g b len cap sz O I;rw[h3];exact J b _ h3 rfl) (fun g b bs _ I=>⟨by
   obtain⟨_,_,_,me,clock,h3⟩:=h.mrow g b bs I;rw[h3];exact J b _ h3 rfl,fun p hp=>by
   obtain⟨_,_,_,_,cur,T,h3,_⟩:=h.sub g b bs p.1 p.2 I hp;rw[h3];exact J p.1 _ h3 rfl⟩) N
 refine { size:=h.size,frame:=h.dC hle,inj:=h.inj,live:=h.live,gown:=h.gown,xold:=h.xold,kold:=h.kold,lent:=h.lent,fr:=X,gcell:=fun g b hb=>kD N (h.gcell g b hb),box:=?_,gbox:=?_,row:=?_,mrow:=?_,sub:=?_ }
 ·intro g cells hc
  obtain⟨b,cs,T,h1,h2,h3,h4,h5⟩:=h.box g cells hc;exact⟨b,cs,T,h1,J b _ h2 rfl,h3,h4,fun i u a hu ha=>(h5 i u a hu ha).mono hle⟩
 ·intro g b hb
  obtain⟨h1,h2,h3⟩:=h.gbox g b hb;exact⟨h1,Nat.lt_of_lt_of_le h2 U,h3⟩
 ·intro g b len cap sz O I
  obtain⟨h1,h2,h3,cur,T,h4,h5⟩:=h.row g b len cap sz O I;exact⟨h1,h2,h3,cur,T,J b _ h4 rfl,h5⟩
 ·intro g b bs I
  obtain⟨h1,h2,h3,me,clock,h4⟩:=h.mrow g b bs I;exact⟨h1,h2,h3,me,clock,J b _ h4 rfl⟩
 ·intro g b bs c lim I hm
  obtain⟨h1,h2,h3,h4,cur,T,h5,h6⟩:=h.sub g b bs c lim I hm;exact⟨h1,h2,h3,h4,cur,T,J c _ h5 rfl,h6⟩
/-! ### the walk begun anew in the world that is -/
def sB (G:Gh) (b:Nat):Prop:=(∃ g,G.box g=some b)∨∃ g r lim,G.own g=some r∧r.nh b lim
def pY (C:Ctx) (G:Gh) (w:World) (ds:List Deferred):Ctx:={ w0:=w,fp:=sB G,x:=C.x,keep:=C.keep,bx:=[],ds:=ds }
theorem ax.ia (h:ax C n st G tmps w) {b:Nat} (J:sB G b):C.w0.heap.size≤b∨C.fp b:=by
 rcases J with ⟨g,I⟩ | ⟨g,r,lim,I,M⟩
 ·exact(h.gbox g b I).2.2.1
 ·exact(h.rowAt I M).1.1
theorem ax.FJ (h:ax C n st G tmps w) (ds:List Deferred):ax (pY C G w ds) n st G tmps w:=by
 have O:Fr (pY C G w ds) w:=⟨rfl,rfl,rfl,Nat.le_refl _,fun _ _ _=>rfl,fun _ _ _ _ h=>h,.refl w⟩;have hle:(aA C G st.gen w).le (aA (pY C G w ds) G st.gen w):=⟨fun b o u hu X=>⟨hu,X⟩,fun b o u hu U=>⟨hu,cJ hu,fun J=>(h.ia J).elim (fun h1=>by have:=U.1;omega) U.2⟩,fun _ _ h=>h,fun _ _ _ h=>h,Nat.le_refl _,fun _ _ _ _ _ _ _ _=>rfl,fun _ _ _ _ _=>⟨rfl,fun _ _=>rfl⟩,dh.refl _⟩;refine { size:=h.size,frame:=fun t a N=>?_,inj:=h.inj,live:=h.live,gown:=h.gown,xold:=?_,kold:=?_,lent:=fun i b hb=>(by simp[pY] at hb),fr:=O,gcell:=h.gcell,box:=?_,gbox:=?_,row:=?_,mrow:=?_,sub:=?_ }
 ·obtain⟨v,h1,h2⟩:=h.frame t a N
  exact⟨v,h1,h2.mono hle⟩
 ·intro g cells J
  obtain⟨b,cs,T,h1,h2,h3,h4,h5⟩:=h.box g cells J;exact⟨b,cs,T,h1,h2,h3,h4,fun i u a hu N=>(h5 i u a hu N).mono hle⟩
 ·intro g b hb
  obtain⟨h1,h2,h3⟩:=h.gbox g b hb;exact⟨h1,h2,.inr (.inl ⟨g,hb⟩),h3.2⟩
 ·intro g b len cap sz M I
  obtain⟨h1,h2⟩:=h.row g b len cap sz M I;exact⟨⟨.inr (.inr ⟨g,_,M,I,rfl,rfl⟩),h1.2⟩,h2⟩
 ·intro g b bs I
  obtain⟨h1,h2⟩:=h.mrow g b bs I;exact⟨⟨.inr (.inr ⟨g,_,0,I,Or.inl ⟨rfl,rfl⟩⟩),h1.2⟩,h2⟩
 ·intro g b bs c lim I hm
  obtain⟨h1,h2⟩:=h.sub g b bs c lim I hm;exact⟨⟨.inr (.inr ⟨g,_,lim,I,Or.inr hm⟩),h1.2⟩,h2⟩
 ·intro b o Z
  obtain⟨h1,h2⟩:=h.xold b o Z;exact⟨Nat.lt_of_lt_of_le h1 h.fr.size,fun J=>(h.ia J).elim (fun h3=>by omega) h2⟩
 ·intro b o hk
  exact Nat.lt_of_lt_of_le (h.kold b o hk) h.fr.size
theorem ax.Bx {P:Program} [cd P] [hC:GC P C] (h:ax C n st G tmps w) (ds:List Deferred):GC P (pY C G w ds):=by
 obtain⟨W,h1,h2,h3⟩:=hC.h;refine⟨W,h1,Nat.le_trans h2 h.fr.size,fun b hb=>⟨(h.fr.block b (Nat.lt_of_lt_of_le hb h2) (h3 b hb).2).trans (h3 b hb).1,fun I=>?_⟩⟩;rcases h.ia I with h4 | h4
 ·omega
 ·exact(h3 b hb).2 h4
mutual
def jS:A→Bool
 | .row _=>false
 | .agg l=>kp l
 | .tup l=>kp l
 | .clo _ l=>kp l
 | .bnd _ l=>kp l
 | _=>true
def kp:List A→Bool
 | []=>true
 | a::l=>jS a && kp l
end
theorem ir:∀ {l:List A},kp l=true→∀ a∈l,jS a=true
 | [],_,_,h=>by cases h
 | b::l,h,a,I=>by
   simp only[kp,Bool.and_eq_true] at h
   cases I with
   | head=>exact h.1
   | tail _ I=>exact ir h.2 a I
def lb (st:St):Bool:=st.f.all (fun x=>jS x.2) && st.bx.all (fun x=>kp x.2)
theorem aD.EK {E E':En} (hw:E.w=E'.w) (hp:E.pv=E'.pv) (X:E.box=E'.box) (O:E.own=E'.own) (Z:E.gen=E'.gen) {v:Value} {a:A} (h:aD E v a) (N:jS a=true):aD E' v a:=by
 obtain⟨w',b3,ad,a8,b0,gen'⟩:=E';obtain⟨w0,a1,b2,ai,aj,gen0⟩:=E;simp only at hw hp X O Z;subst hw;subst hp;subst X;subst O;subst Z
 induction h with
 | any x=>exact .any x
 | d hd=>exact .d hd
 | ag vs l hs hd=>exact .ag vs l hs hd
 | own x g es hd J hr=>exact .own x g es hd J hr
 | agg vs l hs hone _ M=>exact .agg vs l hs hone (fun i u x hu I=>M i u x hu I (ir (by simpa [jS] using N) x (List.mem_of_getElem? I)))
 | tup vs l hs _ M=>exact .tup vs l hs (fun i u x hu I=>M i u x hu I (ir (by simpa [jS] using N) x (List.mem_of_getElem? I)))
 | rowd b off l u U hd=>exact .rowd b off l u U hd
 | row b off l u U _ _=>simp[jS] at N
 | ptr x g off b J hb hp=>exact .ptr x g off b J hb hp
 | xs x g es J h1 I=>exact .xs x g es J h1 I
 | xp x g i off l J h1 I=>exact .xp x g i off l J h1 I
 | mp x g es J h1 I=>exact .mp x g es J h1 I
 | mq x g es J h1 I=>exact .mq x g es J h1 I
 | mo x g es hole ob J h1 I=>exact .mo x g es hole ob J h1 I
 | ni t x=>exact .ni t x
 | fl x es hd U=>exact .fl x es hd U
 | bf x g T s J h1 I=>exact .bf x g T s J h1 I
 | np x g T b J hb hT u I=>exact .np (E:=⟨w0,a1,ad,ai,aj,gen0⟩) x g T b J hb hT u I
 | sb x g n c b J hb hn I=>exact .sb x g n c b J hb hn I
 | fx x u g es ou I J hu O=>exact .fx x u g es ou I J hu O
 | ol x u g' E' g es I a6 a7 J hu=>exact .ol x u g' E' g es I a6 a7 J hu
 | ow x v g es hd J hr=>exact .ow x v g es hd J hr
 | lk x g n c b v J hb hn I=>exact .lk x g n c b v J hb hn I
 | clo f vs l hs _ M=>exact .clo f vs l hs (fun i u x hu I=>M i u x hu I (ir (by simpa [jS] using N) x (List.mem_of_getElem? I)))
 | bnd f vs l hs _ M=>exact .bnd f vs l hs (fun i u x hu I=>M i u x hu I (ir (by simpa [jS] using N) x (List.mem_of_getElem? I)))
theorem sQ {f:List (Nat×A)} {t:Nat} {a:A} (h:look f t=some a):(t,a)∈f:=by
 induction f with
 | nil=>simp[look] at h
 | cons x r I=>
   obtain⟨s,b⟩:=x;rw[aU] at h;split at h;·rename_i e;cases h;subst e;exact List.mem_cons_self
   ·exact List.mem_cons_of_mem _ (I h)
theorem ax.FN (h:ax C n st G tmps w) (ad:C.bx=[]) {ds:List Deferred} {st':St} {O:Gh} {N:Array Value} {w':World} (I:ax (pY C G w ds) n st' O N w') (U:lb st'=true):ax C n st' O N w':=by
 simp only[lb,Bool.and_eq_true,List.all_eq_true] at U;have hm:∀ {b lim},(pY C G w ds).gF b lim→C.gF b lim:=fun {b lim} hm=>⟨hm.1.elim (fun h1=>.inl (Nat.le_trans h.fr.size h1)) h.ia,hm.2⟩;have X:∀ {v a},aD (aA (pY C G w ds) O st'.gen w') v a→jS a=true→aD (aA C O st'.gen w') v a:=fun J M=>aD.EK (E:=aA (pY C G w ds) O st'.gen w') (E':=aA C O st'.gen w') rfl rfl rfl rfl rfl J M;refine { size:=I.size,frame:=fun t a M=>?_,inj:=I.inj,live:=I.live,gown:=I.gown,xold:=h.xold,kold:=h.kold,lent:=fun i b hb=>(by rw[ad] at hb;simp at hb),gcell:=I.gcell,fr:=?_,box:=?_,gbox:=?_,row:=?_,mrow:=?_,sub:=?_ }
 ·obtain⟨v,h1,h2⟩:=I.frame t a M
  exact⟨v,h1,X h2 (U.1 _ (sQ M))⟩
 ·intro g cells Z
  obtain⟨b,cs,T,h1,h2,h3,h4,h5⟩:=I.box g cells Z;exact⟨b,cs,T,h1,h2,h3,h4,fun i u a hu M=>X (h5 i u a hu M) (ir (U.2 _ (oE Z)) a (List.mem_of_getElem? M))⟩
 ·intro g b hb
  obtain⟨h1,h2,h3⟩:=I.gbox g b hb;exact⟨h1,h2,hm h3⟩
 ·intro g b len cap sz ai J
  obtain⟨h1,h2⟩:=I.row g b len cap sz ai J;exact⟨hm h1,h2⟩
 ·intro g b bs J
  obtain⟨h1,h2⟩:=I.mrow g b bs J;exact⟨hm h1,h2⟩
 ·intro g b bs c lim J aj
  obtain⟨h1,h2⟩:=I.sub g b bs c lim J aj;exact⟨hm h1,h2⟩
 ·refine⟨I.fr.os.trans h.fr.os,I.fr.tape.trans h.fr.tape,I.fr.output.trans h.fr.output,Nat.le_trans h.fr.size I.fr.size,fun b h1 h2=>?_,fun b o u hk hu=>I.fr.cells b o u hk (h.fr.cells b o u hk hu),h.fr.ty.trans I.fr.ty⟩
  exact(I.fr.block b (Nat.lt_of_lt_of_le h1 h.fr.size) (fun Z=>(h.ia Z).elim (fun h3=>by omega) h2)).trans (h.fr.block b h1 h2)
end
/-! ### walks over which marks may stand on the deferred calls -/
abbrev uG (D:Nat):Deferred:=⟨.collected D,#[]⟩
def ss (J:Nat) (ds:List Deferred) (w:World):Prop:=∃ I:List Nat,ds=I.map uG∧I.Nodup∧∀ D∈I,J≤D∧w.heap[D]? = some (Obj.deferred (some []))
def CP (C:Ctx) (n:Nat) (Q:Exit→St→Prop):Exit→Act→World→Prop:=fun e a w=>ss C.w0.heap.size a.defers w∧∃ st,eI C n st a.tmps w∧Q e st
def Wd (P:Program) (C:Ctx) (n:Nat) (c:Code) (Q:Exit→St→Prop) (st:St):Prop:=∀ tmps ds w,eI C n st tmps w→ss C.w0.heap.size ds w→c.wp P (CP C n Q) ⟨tmps,ds⟩ w
def v8 (P:Program) (C:Ctx) (n:Nat) (y:Code) (Q:Exit→St→Prop):Exit→St→Prop
 | .normal,s=>Wd P C n y Q s
 | e,s=>Q e s
def QN (Q:Exit→St→Prop):Exit→St→Prop:=fun e s=>lb s=true∧Q e s
def CQ {ι:Type} (C:Ctx) (n:Nat) (S:ι→St) (I:ι→Nat) (m:Nat) (Q:Exit→St→Prop):Exit→St→Prop
 | .normal,s=>∃ j,I j < m∧∀ (tmps:Array Value) (w:World),eI C n s tmps w→eI C n (S j) tmps w
 | e,s=>Q e s
section
variable {P:Program} [cd P] {C:Ctx} {n:Nat} {Q:Exit→St→Prop} {st:St}
theorem ss.kept {I:Nat} {ds:List Deferred} {w w':World} (h:ss I ds w) (M:∀ D:Nat,w.heap[D]? = some (Obj.deferred (some []))→w'.heap[D]? = some (Obj.deferred (some []))):ss I ds w':=
 let ⟨Ds,h1,h2,h3⟩:=h;⟨Ds,h1,h2,fun D J=>⟨(h3 D J).1,M D (h3 D J).2⟩⟩
theorem ax.Az {G:Gh} {tmps:Array Value} {w:World} (h:ax C n st G tmps w) {D:Nat} {o:Obj} (J:w.heap[D]? = some o) (M:uc o=false):¬ sB G D:=by
 rintro(⟨g,I⟩ | ⟨g,r,lim,I,N⟩)
 ·obtain⟨cs,T,f,h2⟩:=h.gcell g D I
  rw[J] at h2;cases h2;cases M
 ·cases r with
  | nil=>exact N.elim
  | zero _=>exact N.elim
  | blk b len cap sz O=>obtain⟨rfl,rfl⟩:=N;obtain⟨_,_,_,cur,T,h4,_⟩:=h.row g b len cap sz lim I;rw[J] at h4;cases h4;cases M
  | mp b bs=>
    rcases N with ⟨rfl,rfl⟩ | hm
    ·obtain⟨_,_,_,U,clock,h4⟩:=h.mrow g b bs I
     rw[J] at h4;cases h4;cases M
    ·obtain⟨_,_,_,_,cur,T,h4,_⟩:=h.sub g b bs D lim I hm
     rw[J] at h4;cases h4;cases M
end
end Go.Ab
namespace Go.Ab
open Go.RowKit
section
variable {P:Program} [cd P] {C:Ctx} {n:Nat} {Q:Exit→St→Prop} {st st':St} {c:Code}
theorem Wd.EP [GC P C] (N:C.bx=[]) (h:∀ J,NB J 0→GC P J→W P J n c (QN Q) st):Wd P C n c Q st:=by intro tmps ds w ⟨G,hs⟩ O;refine wp_mono (h (pY C G w ds) ⟨rfl⟩ (hs.Bx ds) tmps w ⟨G,hs.FJ ds⟩) ?_;rintro e ⟨t,d⟩ w' ⟨hd,st',⟨X,I⟩,U,Z⟩;have hd:d=ds:=hd;subst hd;refine⟨O.kept fun D M=>?_,st',⟨X,hs.FN N I U⟩,Z⟩;exact(I.fr.block D (Array.getElem?_eq_some_iff.1 M).1 (hs.Az M rfl)).trans M
omit [cd P] in
theorem Wd.seq {x y:Code} (h:Wd P C n x (v8 P C n y Q) st):Wd P C n (.seq x y) Q st:=by
 intro tmps ds w hs M;refine wp_seq (wp_mono (h tmps ds w hs M) ?_);rintro e ⟨t,d⟩ w' ⟨hd,st',I,J⟩;cases e <;> simp only[v8] at J <;> simp only[Exit.then];·exact J t d w' I hd
 all_goals exact⟨hd,st',I,J⟩
theorem Wd.gP [GC P C] (J:C.bx=[]) {x y:Code} (h:∀ I,NB I 0→GC P I→W P I n x (QN (v8 P C n y Q)) st):Wd P C n (.seq x y) Q st:=Wd.seq (Wd.EP J h)
omit [cd P] in
theorem Wd.block {id:Nat} (h:Wd P C n c (QB id Q) st):Wd P C n (.block id c) Q st:=by
 intro tmps ds w hs M;refine wp_block (wp_mono (h tmps ds w hs M) ?_);rintro e ⟨t,d⟩ w' ⟨hd,st',J,I⟩;cases e <;> simp only[QB] at I <;> simp only[Exit.inBlock];case exit i=>
  split;·rename_i e;rw[if_pos e] at I;exact⟨hd,st',J,I⟩
  ·rename_i e;rw[if_neg e] at I;exact⟨hd,st',J,I⟩
 all_goals exact⟨hd,st',J,I⟩
omit [cd P] in
theorem Wd.conv (hle:∀ (tmps:Array Value) (w:World),eI C n st tmps w→eI C n st' tmps w) (h:Wd P C n c Q st'):Wd P C n c Q st:=
 fun tmps ds w hs I=>h tmps ds w (hle tmps w hs) I
omit [cd P] in
theorem Wd.loop {ι:Type} (S:ι→St) (X:ι→Nat) (hr:∀ i,Wd P C n c (CQ C n S X (X i) Q) (S i)) (i:ι):Wd P C n (.loop c) Q (S i):=by
 intro tmps ds w hs U b k cs
 have key:∀ (m:Nat) (i:ι) (tmps:Array Value) (ds:List Deferred) (w:World),X i=m→eI C n (S i) tmps w→ss C.w0.heap.size ds w →
  ∃ e a' w',CP C n Q e a' w'∧Arrives P (lone (b.at ⟨tmps,ds⟩ (.code c::.inLoop c::k)) cs w) b k cs e a' w':=by
  intro m
  induction m using Nat.strongRecOn with
  | _ m ih=>
    intro i tmps ds w hm hs U;obtain⟨e,⟨t1,d1⟩,O,⟨hd,M,J,N⟩,I⟩:=hr i tmps ds w hs U b (.inLoop c::k) cs;simp only at hd
    cases e with
    | normal=>obtain⟨j,ad,ai⟩:=N;obtain⟨e2,a2,w2,aj,Z⟩:=ih (X j) (hm▸ad) j t1 d1 O rfl (ai t1 O J) hd;exact⟨e2,a2,w2,aj,.of_steps (Steps.trans I (.one step_inLoop)) Z⟩
    | exit id=>exact⟨_,⟨t1,d1⟩,O,⟨hd,M,J,N⟩,.pass (x:=.inLoop c) rfl (fun _ _=>.inl (by simp)) I⟩
    | goto l=>exact⟨_,⟨t1,d1⟩,O,⟨hd,M,J,N⟩,.pass (x:=.inLoop c) rfl (fun _ _=>.inl (by simp)) I⟩
    | ret=>exact⟨_,⟨t1,d1⟩,O,⟨hd,M,J,N⟩,.pass (x:=.inLoop c) rfl (fun _ _=>.inl (by simp)) I⟩
    | panic ch=>exact⟨_,⟨t1,d1⟩,O,⟨hd,M,J,N⟩,.pass (x:=.inLoop c) rfl (fun _ _=>.inl (by simp)) I⟩
    | outgrown=>exact⟨_,⟨t1,d1⟩,O,⟨hd,M,J,N⟩,.pass (x:=.inLoop c) rfl (fun _ _=>.inl (by simp)) I⟩
 obtain⟨e,a',w',N,I⟩:=key _ i tmps ds w rfl hs U;exact⟨e,a',w',N,.of_steps (.one step_loop) I⟩
theorem ax.oS {G:Gh} {tmps:Array Value} {w:World} (h:ax C n st G tmps w) {r:Nat} {o:Obj} (J:w.heap[r]? = some o) (M:uc o=false) (N:C.w0.heap.size≤r) (o':Obj):ax C n st G tmps (w.putObj r o'):=
 h.agree rfl rfl rfl (by simp) (fun b x hb I=>by rw[World.putObj_heap_other (fun e=>by subst e;rw[J] at hb;cases hb;rw[M] at I;cases I)];exact hb) (fun b hb _=>World.putObj_heap_other (by omega))
theorem ax.drew {G:Gh} {tmps:Array Value} {w:World} (h:ax C n st G tmps w):ax C n st G tmps w.drew:=
 h.agree rfl rfl rfl (Nat.le_refl _) (fun _ _ hb _=>hb) (fun _ _ _=>rfl)
omit [cd P] in
theorem sM {fn:Func} {tmps:Array Value} {R:Ending→World→Prop} {m:Nat}:∀ (I:List Nat) (w:World) (st:St) (G:Gh),ax C n st G tmps w→I.Nodup→(∀ D∈I,C.w0.heap.size≤D∧w.heap[D]? = some (Obj.deferred (some []))) →
 (∀ w' G,ax C n st G tmps w'→∃ v,(results fn tmps).run P w'=.ok v w'∧R (.returned v) w')→LeavesInM Fence.wide m P fn tmps R (I.map uG) .returning w
 | [],w,st,G,hs,_,_,h=>h w G hs
 | D::I,w,st,G,hs,hn,hD,h=>by obtain⟨h1,h2⟩:=hD D (by simp);rw[List.nodup_cons] at hn;refine⟨by simp,.inl ⟨D,_,rfl,run_takeDeferred h2,sM I _ st G (hs.oS h2 rfl h1 _) hn.2 (fun E J=>?_) h⟩⟩;obtain⟨h3,h4⟩:=hD E (by simp[J]);exact⟨h3,by rw[World.putObj_heap_other (fun e=>hn.1 (by rw[←e];exact J))];exact h4⟩
theorem ay.FX (T:bF P) {f:FuncId} {fn:Func} {c:Code} {rs:List RV} {n:Nat} {args:List A} {r:A} (X:P.funcs[f]? = some fn) (N:(fn.name == "runtime.NumGoroutine")=false) (hb:fn.body=some c) (hn:fn.ntmps=n)
 (J:fn.results=(rs.map RV.var).toArray) (hlen:Nat.ble args.length n=true)
 (h:∀ C,C.bx=[]→GC P C→Wd P C n c (fun e st=>(match e with | .normal=>True | .ret=>True | _=>False)∧∃ l,jz T st.f st.bx rs=some l∧norm [] (aI l)=r) ⟨gw 0 args,[],[],0⟩):ay P f args r 0:=by
 have hlen:=Nat.le_of_ble_eq_true hlen;refine⟨⟨fn,X,N,by rw[hb];rfl⟩,fun C I w hG hw hp hx a6 U=>?_⟩;subst hw;refine callsIn_wide.1 (callsIn_of_wp_marks (F:=Fence.wide) (n:=0) X hb trivial ?_ rfl);refine wpIn_wide.2 ?_;refine wp_mono (h C hp.2.2.1 hG (I++Array.replicate (fn.ntmps - I.size) undef) [] C.w0 ⟨G0,?_⟩ ⟨[],rfl,List.nodup_nil,fun D hD=>by cases hD⟩) ?_
 ·refine { size:=by simp[hn];omega,frame:=fun t a ha=>?_,box:=fun g cells hc=>by simp[ah] at hc,gbox:=fun g b hb=>by simp[G0] at hb,inj:=fun g g' b hb=>by simp[G0] at hb,gcell:=fun g b hb=>by simp[G0] at hb,
           live:=fun g hg=>by simp at hg,gown:=fun g r J=>by simp[G0] at J,row:=fun g b len cap sz a7 J=>by simp[G0] at J,mrow:=fun g b bs J=>by simp[G0] at J,sub:=fun g b bs c lim J=>by simp[G0] at J,xold:=fun b o hb=>⟨hx b o hb,hp.1 b⟩,kold:=fun b o hb=>absurd hb (hp.2.1 b o),lent:=fun i b hb=>by rw[hp.2.2.1] at hb;simp at hb,
           fr:=⟨rfl,rfl,rfl,Nat.le_refl _,fun _ _ _=>rfl,fun _ _ _ hb=>absurd hb (hp.2.1 _ _),dh.refl _⟩ }
  obtain⟨_,h1⟩:=fL args 0 t a ha;have h2:t < args.length:=(List.getElem?_eq_some_iff.1 (by simpa using h1)).1;have h3:t < I.size:=by omega
  have h4:I[t]? = some I[t]:=by simp[h3]
  exact⟨I[t],by rw[Array.getElem?_append_left h3];exact h4,U t _ a h4 (by simpa using h1)⟩
 ·rintro e ⟨tmps,df⟩ w' ⟨⟨Z,hd,ad,ai⟩,st,⟨G,hs⟩,he,l,hl,aj⟩
  simp only at hd;subst hd
  have M:LeavesInM Fence.wide 0 P fn tmps (fun e w'=>∃ v O,e=.returned v∧ax C 0 ⟨[],[],List.range 0,0⟩ O #[] w'∧aD (aA C O 0 w') v r) (Z.map uG) .returning w':=
   sM Z w' st G hs ad ai fun w2 G2 a1=>by obtain⟨v,h1,v1,O,h2,h3,h4⟩:=Cm T a1 hp.2.2.1 J hl aj;exact⟨v,h1,v1,O,h2,h3,h4⟩
  cases e with
  | normal=>exact M
  | ret=>exact M
  | exit _=>exact he.elim
  | goto _=>exact he.elim
  | panic _=>exact he.elim
  | outgrown=>exact he.elim
end
/-! ### a range over slices.Chunk's iterator, where there is one chunk -/
def nR (P:Program) [cd P] (n:Nat) (body:Code) (V:List (Nat×A)) (I:List (List A)) (m:Nat) (b1:List (List A)) (k:Nat):Prop:=
 ∀ (C:Ctx) (G:Gh) (tmps:Array Value) (w:World) (l q:Nat),GC P C→C.w0=w→C.bx.length=I.length→C.ds=[]→ax C n ⟨V,dT 0 I,(List.range m).map (I.length+·),I.length+m⟩ G tmps w →
   body.wpIn (Fence.wide.inRound l) q P (fun e _ w'=>e=.normal∧∃ J,ax C 0 ⟨[],dT 0 b1,(List.range k).map (I.length+·),I.length+k⟩ J #[] w') ⟨tmps,[]⟩ w
def sg (P:Program) (fid:FuncId):Prop:=
 ∀ (l:Nat) (W:World) (I J b1 o1:Nat) (a:Addr) (len cap:Nat) (R:World→Prop),cellAt W I J=some (.slice (some a) len cap)→cellAt W b1 o1=some (.int .i64 1000)→0 < len→len≤1000→len≤cap→cap≤maxLen →
   YieldAt Fence.wide 0 P l #[.slice (some a) len len] W.drew (fun e W'=>e=.returned (.bool true)∧(∃ a' M,cellAt W' I J=some (.slice a' len M))∧cellAt W' b1 o1=some (.int .i64 1000)∧R W') →
   Calls P fid #[.func (.yield l) #[] #[],.pointer (some ⟨I,J,none⟩),.pointer (some ⟨b1,o1,none⟩)] W fun e W'=>(∃ v,e=.returned v)∧R W'
end Go.Ab
namespace Go.Ab
open Go.RowKit
theorem zT {w:World} {pv:Nat→Nat→Prop} {v:Value} {es:List (List D)} (h:aO w pv v (.sl es)) (hp:0 < es.length):∃ (a:Addr) (cap:Nat),v=.slice (some a) es.length cap∧es.length≤cap∧cap≤maxLen∧aO w pv (.slice (some a) es.length es.length) (.sl es):=by
 cases h with
 | nil=>simp at hp
 | emp a cap hm=>simp at hp
 | sl b off len cap sz _ u hl I hm hs hu J=>subst hl;exact⟨_,cap,rfl,I,hm,.sl b off es.length es.length sz es u rfl (Nat.le_refl _) (by omega) hs hu J⟩
theorem tG {w:World} {pv:Nat→Nat→Prop} {v:Value} {es:List (List D)} (h:aO w pv v (.sl es)):∃ (a:Option Addr) (cap:Nat),v=.slice a es.length cap:=by
 cases h with
 | nil=>exact⟨_,_,rfl⟩
 | emp a cap hm=>exact⟨_,_,rfl⟩
 | sl b off len cap sz _ u hl I hm hs hu J=>subst hl;exact⟨_,_,rfl⟩
theorem rX {C:Ctx} {n:Nat} {st:St} {G:Gh} {tmps:Array Value} {w:World} (hs:ax C n st G tmps w) {g:Operand} {fid:FuncId} {es:List (List D)} {x:Value} (hg:av st.f g=some (.clo fid [.rowd [.sl es],.rowd [.v x]])) :
 ∃ J M b1 o1,Act.eval ⟨tmps,[]⟩ g=.func (.func fid) #[] #[.pointer (some ⟨J,M,none⟩),.pointer (some ⟨b1,o1,none⟩)]∧(∃ u,cellAt w J M=some u∧aO w (bc C G) u (.sl es))∧cellAt w b1 o1=some x:=by
 have N:=hs.av hg;generalize Act.eval ⟨tmps,[]⟩ g=v at N
 cases N with
 | clo _ vs _ I hcd=>
 have I:vs.size=2:=I;obtain⟨v0,v1,rfl⟩:∃ v0 v1,vs=#[v0,v1]:=⟨vs[0],vs[1],by
  apply Array.ext;·simpa using I
  ·intro i h1 h2
   match i with
   | 0=>rfl
   | 1=>rfl
   | i+2=>simp at h2;omega⟩
 have r0:=hcd 0 v0 _ rfl rfl;have r1:=hcd 1 v1 _ rfl rfl
 cases r0 with
 | rowd J M _ u0 O U=>
 cases r1 with
 | rowd b1 o1 _ u1 X Z=>
 refine⟨J,M,b1,o1,rfl,⟨u0 0,?_,U 0 _ rfl⟩,?_⟩
 ·have h1:=(O 0 (by simp)).1
  rw[Nat.add_zero] at h1;exact h1
 ·have h1:=(X 0 (by simp)).1
  have h2:=Z 0 _ rfl;generalize u1 0=y at h1 h2;rw[Nat.add_zero] at h1;cases h2 with | v _ _=>exact h1
section
variable {P:Program} [cd P] {C:Ctx} [GC P C] {n:Nat} {Q:Exit→St→Prop} {st:St}
theorem Wd.range {g:Operand} {par d id:Nat} {ty:TypeId} {pos:String} {af:Array Edge} {body:Code} {es:List (List D)} {fid:FuncId}
 (hg:av st.f g=some (.clo fid [.rowd [.sl es],.rowd [.v (.int .i64 1000)]])) (hok:iQ P fid) (hit:sg P fid) (dj:0 < es.length) (e4:es.length≤1000) (dt:Nat.blt par n=true) (dx:Nat.blt d n=true)
 (gs os:List Nat) (gb:nodupB gs=true) (gi:nodupB os=true) (gj:(os.all fun g=>st.lv.any fun h=>Nat.beq h g)=true) {V:List (Nat×A)} {N b1:List (List A)} {m k:Nat} (hb:fm st.bx gs os gs=some N) (hm:os.length=m)
 (hV:∀ t a',look V t=some a'→∃ a,look st.f t=some a∧dq st.bx gs os 5 a=a') (gq:(V.all fun x=>!Nat.beq x.1 par)=true)
 (df:nR P n body ((d,.d (.sl es))::V) N m b1 k) (ha:b1.length=N.length)
 (h:Q .normal ⟨st.f,hJ gs st.gen gs b1++st.bx,(List.range k).map (N.length+·+st.gen)++st.lv.filter (fun g=>!os.any (Nat.beq g)),N.length+k+st.gen⟩) :
 Wd P C n (.rangeFunc g #[par] (.region id #[⟨some d,.assign (.tmp par),ty,pos,af,none⟩] false) body) Q st:=by
 subst hm;intro tmps ds w ⟨G,hs⟩ ⟨Ds,ch,hc,ed⟩;have ch:ds=Ds.map uG:=ch;subst ch;have dt:=Nat.le_of_ble_eq_true dt;have dx:=Nat.le_of_ble_eq_true dx;obtain⟨p0,o0,p1,o1,ei,⟨u0,hf,hh⟩,hk⟩:=rX hs hg;obtain⟨a,cap,rfl,hq,hr,ht⟩:=zT hh dj;refine(wpIn_wide (n:=1)).1 (wpIn_rangeFunc ?_);intro fn _;obtain⟨rec,J⟩:∃ rec:LoopState→Option Code→Loop,rec=fun s pe=>{ state:=s,pending:=pe,fn,tmps:=tmps,params:=#[par],assign:=.region id #[⟨some d,.assign (.tmp par),ty,pos,af,none⟩] false,body,defers:=w.heap.size }:=⟨_,rfl⟩;obtain⟨I,ai⟩:∃ I,(w.alloc (.deferred (some []))).alloc (.loop (rec .ready none))=I:=⟨_,rfl⟩;have cj:I.heap[w.heap.size+1]? = some (.loop (rec .ready none)):=by rw[←ai];have:=World.alloc_heap_new (w.alloc (.deferred (some []))) (.loop (rec .ready none));rwa [World.size_alloc] at this
 have aj:Below w.heap.size w I:=by rw[←ai];exact((Below.refl _ w).alloc (Nat.le_refl _) _).alloc (by simp) _
 have hz:I.heap[w.heap.size]? = some (.deferred (some [])):=by rw[←ai];exact(Below.heap_alloc _ _ _ (by simp)).trans (World.alloc_heap_new w _)
 have hA:ax C n st G tmps I:=(hs.gK aj).2;have h6:w.heap.size≤I.heap.size:=aj.size;have cl:∀ {b o u},cellAt w b o=some u→cellAt I b o=some u:=fun {b o u} hu=>by rw[bC (aj.block b (cJ hu))];exact hu
 have hE:=hs.fr.size
 refine⟨w.heap.size+1,[{ target:=.collected w.heap.size,args:=#[] }],I,{ target:=.fn (.func fid) #[.pointer (some ⟨p0,o0,none⟩),.pointer (some ⟨p1,o1,none⟩)],args:=#[.func (.yield (w.heap.size+1)) #[] #[]] },I,fid,
  #[.func (.yield (w.heap.size+1)) #[] #[]]++#[.pointer (some ⟨p0,o0,none⟩),.pointer (some ⟨p1,o1,none⟩)],I,?_,?_,?_,?_,fun _=>Nat.le_refl _,?_⟩
 ·rw[←ai,J];exact run_enterLoop_outer _ _ _ _ _
 ·have e5:Act.eval ⟨tmps,Ds.map uG⟩ g=.func (.func fid) #[] #[.pointer (some ⟨p0,o0,none⟩),.pointer (some ⟨p1,o1,none⟩)]:=by rw[Act.gO tmps _ []];exact ei
  simp only[resolve,e5];simp[go_sem]
 ·intro f' _;trivial
 ·obtain⟨h8,e6,cq,cx⟩:=hok
  simp only[Sem.run_bind,Sem.run_pure,Result.andThen_ok,invoke,callFunc,run_program,e6,cq,cx,Bool.false_eq_true,if_false]
 refine CallsIn.mono (callsIn_wide.2 (hit (w.heap.size+1) I p0 o0 p1 o1 a es.length cap
  (fun W'=>∃ G',ax C n ⟨st.f,hJ gs st.gen gs b1++st.bx,(List.range k).map (N.length+·+st.gen)++st.lv.filter (fun g=>!os.any (Nat.beq g)),N.length+k+st.gen⟩ G' tmps W' ∧
   W'.heap[w.heap.size+1]? = some (.loop (rec .ready none))∧∀ D:Nat,D≠w.heap.size+1→I.heap[D]? = some (Obj.deferred (some []))→W'.heap[D]? = some (Obj.deferred (some [])))
  (cl hf) (cl hk) dj e4 hq hr ?_)) ?_
 ·
  have hF:ax C n st G tmps I.drew:=hA.drew;have cy:I.drew.heap[w.heap.size+1]? = some (.loop (rec .ready none)):=cj;have hy:=run_yield (P:=P) (args:=#[.slice (some a) es.length es.length]) cy (by rw[J];rfl);rw[J] at hy;refine⟨fn,_,_,body,hy,roundIn_of_wpIn trivial ?_⟩;generalize a1:I.drew.putObj (w.heap.size+1) (.loop { rec .ready none with state:=.busy })=O;have ej:=run_beginRound (P:=P) cy (by rw[J]);rw[a1] at ej;have ff:w.heap.size+1 < I.heap.size:=(Array.getElem?_eq_some_iff.1 cj).1;have hG:O.heap[w.heap.size+1]? = some (.loop { rec .ready none with state:=.busy }):=by rw[←a1];exact World.putObj_heap_same ff
  have a6:∀ b,b≠w.heap.size+1→O.heap[b]? = I.heap[b]?:=fun b hb=>by rw[←a1,World.putObj_heap_other hb];rfl
  have X:ax C n st G tmps O:=by rw[←a1];exact hF.oS cy rfl (by omega) _
  have fj:∀ {b o u},cellAt w b o=some u→cellAt O b o=some u:=fun {b o u} hu=>by have:=cl hu;rw[bC (a6 b (fun e=>by have:=cJ hu;omega))];exact this
  obtain⟨hlen,fo⟩:=X.k9 (gs:=gs) (os:=os) (dQ gb) (dQ gi) (fun g hg=>by obtain⟨y,hy,he⟩:=List.any_eq_true.1 (List.all_eq_true.1 gj g hg);exact Nat.eq_of_beq_eq_true he▸hy) hb;obtain⟨h9,ih⟩:=gy hb;have a7:tmps.size=n:=hs.size;obtain⟨tm,a8⟩:∃ tm,(tmps.setIfInBounds par (.slice (some a) es.length es.length)).setIfInBounds d (.slice (some a) es.length es.length)=tm:=⟨_,rfl⟩;have di:ax (dP C G O gs os) n ⟨(d,.d (.sl es))::V,dT 0 N,(List.range os.length).map (N.length+·),N.length+os.length⟩ (fO G gs os) tm O:=by
   refine { fo with size:=by rw[←a8];simp[a7],frame:=fun t x hx=>?_ };rw[aU] at hx;split at hx
   ·rename_i e
    subst e;cases hx;refine⟨.slice (some a) es.length es.length,by rw[←a8,Array.getElem?_setIfInBounds_self_of_lt (by simp[a7];omega)],.d (ht.mono fun b o u hu hn=>⟨fj hu,fun hp=>hn (xk hp)⟩)⟩
   ·rename_i e
    obtain⟨y,hH,rfl⟩:=hV t x hx;have U:t≠par:=fun e2=>by subst e2;have:=List.all_eq_true.1 gq _ (sQ hx);simp at this
    obtain⟨v,hv,hI⟩:=X.frame t y hH;exact⟨v,by rw[←a8,Array.getElem?_setIfInBounds_ne e,Array.getElem?_setIfInBounds_ne (Ne.symm U)];exact hv,aD.k9 X gs os (by show _≤N.length+os.length;omega) 5 v y hI⟩
  have fs:=df (dP C G O gs os) (fO G gs os) tm O (w.heap.size+1) 0 (GC.qL X) rfl hlen rfl di;have hw:∀ (ops:Array Oper) (t:Array Value),Region.wanted ⟨some d,.assign (.tmp par),ty,pos,af,none⟩ (yielded ops t)=true:=fun _ _=>rfl;have hK:(tmps.setIfInBounds par (.slice (some a) es.length es.length))[par]? = some (.slice (some a) es.length es.length):=Array.getElem?_setIfInBounds_self_of_lt (by omega);have e0:(Array.foldl (fun (t:Array Value) (x:Nat×Value)=>t.setIfInBounds x.1 x.2) tmps ((#[par]:Array Nat).zip #[Value.slice (some a) es.length es.length]))=tmps.setIfInBounds par (.slice (some a) es.length es.length):=by simp
  show(Code.region _ _ _).wpIn _ _ P _ ⟨Array.foldl (fun (t:Array Value) (x:Nat×Value)=>t.setIfInBounds x.1 x.2) tmps ((#[par]:Array Nat).zip #[Value.slice (some a) es.length es.length]),[]⟩ _;rw[e0];refine wpIn_region ?_;show wpOpsIn _ _ P #[_] _ [0] _ _;simp only[wpOpsIn,List.getElem?_toArray,List.getElem?_cons_zero,hw,if_true];refine⟨fun _ _=>trivial,?_⟩;have hex:Sem.run P (Oper.semAt (Fence.wide.inRound (w.heap.size+1)).round (Act.eval ⟨tmps.setIfInBounds par (.slice (some a) es.length es.length),[]⟩) ⟨some d,.assign (.tmp par),ty,pos,af,none⟩) I.drew=.ok (.value (.slice (some a) es.length es.length)) I.drew:=by
   rw[Oper.semAt_eq _ _ _ (fun c h=>by cases h)];show Sem.run P (execOp _ _) _=_;simp only[execOp,Act.eval];have hL:(tmps.setIfInBounds par (Value.slice (some a) es.length es.length)).getD par undef=.slice (some a) es.length es.length:=by rw[Array.getD_eq_getD_getElem?,hK];rfl
   rw[hL];rfl
  rw[hex];show ∃ h7,_;refine⟨O,ej,?_⟩;have hM:(Act.put ⟨tmps.setIfInBounds par (.slice (some a) es.length es.length),[]⟩ (some d) (.slice (some a) es.length es.length))=⟨tm,[]⟩:=by rw[←a8];rfl
  show body.wpIn _ _ P _ (Act.put ⟨tmps.setIfInBounds par (.slice (some a) es.length es.length),[]⟩ (some d) (.slice (some a) es.length es.length)) O;rw[hM];refine wpIn_mono fs ?_;rintro e a3 W3 ⟨rfl,G3,b2⟩;obtain⟨G4,_,hN⟩:=X.ur hb ha b2;have b3:∀ {b:Nat} {o:Obj},O.heap[b]? = some o→uc o=false→W3.heap[b]? = some o:=fun {b o} c1 ho=>by
   refine(b2.fr.block b (Array.getElem?_eq_some_iff.1 c1).1 (fun hl=>X.Az c1 ho ?_)).trans c1;rcases hl with ⟨g',_,hO⟩ | ⟨lim,g',_,r,hP,hQ⟩
   ·exact .inl ⟨g',hO⟩
   ·exact .inr ⟨g',r,lim,hP,hQ⟩
  have c6:=b3 hG rfl;have hR:=run_endRound (P:=P) none c6;refine⟨_,_,hR,rfl,?_⟩;have en:=hN.oS c6 rfl (by omega) (.loop { { rec .ready none with state:=LoopState.busy } with state:=if (none:Option Code).isNone then .ready else .done,pending:=none });obtain⟨q0,r0,q1,r1,Z,⟨u2,hS,hT⟩,hX⟩:=rX en (g:=g) (fid:=fid) (es:=es) (x:=.int .i64 1000) hg;rw[ei] at Z;simp only[Value.func.injEq,true_and] at Z;have c7:=congrArg Array.toList Z;simp only[List.cons.injEq,Value.pointer.injEq,Option.some.injEq,Addr.mk.injEq,and_true] at c7;obtain⟨⟨rfl,rfl⟩,rfl,rfl⟩:=c7;obtain⟨a2,ft,rfl⟩:=tG hT;refine⟨⟨a2,ft,hS⟩,hX,G4,en,?_,fun D U M=>?_⟩
  ·rw[J]
   exact World.putObj_heap_same (Array.getElem?_eq_some_iff.1 c6).1
  ·rw[World.putObj_heap_other U]
   exact b3 (by rw[a6 D U];exact M) rfl
 ·rintro e W3 ⟨⟨v,rfl⟩,G',b2,e1,hY⟩
  have e3:=run_endLoop (P:=P) e1 (by rw[J];simp);rw[J] at e3;refine⟨none,_,e3,?_⟩;have U:∀ D,I.heap[D]? = some (Obj.deferred (some []))→D≠w.heap.size+1:=fun D M e=>by rw[e,cj] at M;cases M
  have ad:∀ D:Nat,I.heap[D]? = some (Obj.deferred (some []))→(W3.putObj (w.heap.size+1) (.loop { rec .ready none with state:=.exhausted })).heap[D]? = some (Obj.deferred (some [])):=fun D M=>by rw[World.putObj_heap_other (U D M)];exact hY D (U D M) M
  rw[J] at ad;refine⟨⟨w.heap.size::Ds,rfl,?_,fun D M=>?_⟩,_,⟨G',b2.oS e1 rfl (by omega) _⟩,h⟩
  ·rw[List.nodup_cons]
   refine⟨fun hm=>?_,hc⟩;have:=(Array.getElem?_eq_some_iff.1 (ed _ hm).2).1;omega
  ·rcases List.mem_cons.1 M with rfl | M
   ·exact⟨hE,ad _ hz⟩
   ·obtain⟨h1,h2⟩:=ed D M
    exact⟨h1,ad D (by rw[aj.block D (Array.getElem?_eq_some_iff.1 h2).1];exact h2)⟩
end
end Go.Ab
namespace Go.Ab
open Go.RowKit
def mH (o:Oper):Bool:=match o.op with | .defer _=>false | _=>true
section
variable {P:Program} {n:Nat}
theorem vp {q:Nat} {row:String} {args:Array Value} {w:World} {R:Value→World→Prop} (h:Rows P row args w R):RowsIn Fence.wide q P row args w R:=
 fun c cs _=>let ⟨v,w',r,s⟩:=h c cs;⟨v,w',r,stepsIn_wide.2 s⟩
theorem yS {o:Oper} {a:Act} {w:World} {next next':Act→World→Prop} {Q Q':Exit→Act→World→Prop} (h:o.wp P a w next Q) (I:∀ a w,next a w→next' a w) (J:∀ e a w,Q e a w→Q' e a w):o.wp P a w next' Q':=by
 unfold Oper.wp at h ⊢;generalize (execOp a.eval o).run P w=res at h ⊢
 cases res with
 | ok x w'=>
   cases x <;> simp only[Oper.upon] at h ⊢;case value v=>exact I _ _ h
   case skip=>exact I _ _ h
   case defer d=>exact I _ _ h
   case enter f args=>
    refine h.mono fun e M he=>?_
    cases e with
    | returned v=>exact I _ _ he
    | panicked c=>exact J _ _ _ he
    | outgrown=>exact let ⟨a,w,h⟩:=he;⟨a,w,J _ _ _ h⟩
   case row row args=>exact h.mono fun v M he=>I _ _ he
 | halt x w'=>cases x <;> simp only[Oper.upon] at h ⊢;exact J _ _ _ h
theorem nH {ops:Array Oper} {Q Q':Exit→Act→World→Prop} (I:∀ e a w,Q e a w→Q' e a w):∀ (l:List Oper) (a:Act) (w:World),dX P ops Q l a w→dX P ops Q' l a w
 | [],_,_,h=>I _ _ _ h
 | o::l,a,w,h=>by
   simp only[dX] at h ⊢;split
   ·rename_i hw
    rw[if_pos hw] at h;exact yS h (fun a w=>nH I l a w) I
   ·rename_i hw
    rw[if_neg hw] at h;exact nH I l _ _ h
theorem DK {r q:Nat} {o:Oper} {a:Act} {w:World} {next next':Act→World→Prop} {Q:Exit→Act→World→Prop} (M:mH o=true) (h:o.wp P a w next Q) (I:∀ a w,next a w→next' a w):o.wpIn (Fence.wide.inRound r) q P a w next' Q:=by
 refine⟨fun _ _=>trivial,?_⟩;rw[Oper.semAt_eq _ _ _ (fun c O=>by simp[mH,O] at M)];unfold Oper.wp at h;generalize (execOp a.eval o).run P w=res at h ⊢
 cases res with
 | ok x w'=>
   cases x <;> simp only[Oper.upon] at h <;> simp only[Oper.uponIn];case value v=>exact I _ _ h
   case skip=>exact I _ _ h
   case defer d=>exact I _ _ h
   case enter f args=>
    refine⟨fun J=>(by cases J),CallsIn.inRound r ((callsIn_wide.2 h).mono fun e N he=>?_)⟩
    cases e with
    | returned v=>exact I _ _ he
    | panicked c=>exact he
    | outgrown=>exact he
   case row row args=>exact⟨fun J=>(by cases J),(vp (h.mono fun v N he=>I _ _ he):RowsIn Fence.wide (q - 1) P row args w' _)⟩
 | halt x w'=>cases x <;> simp only[Oper.upon] at h <;> simp only[Oper.uponIn];exact h
theorem uY {r q:Nat} {ops:Array Oper} {Q:Exit→Act→World→Prop}:∀ (l:List Oper) (k:Nat),(∀ j:Nat,l[j]? = ops[k+j]?)→(l.all mH=true)→∀ (a:Act) (w:World),dX P ops Q l a w→wpOpsIn (Fence.wide.inRound r) q P ops Q (List.range' k l.length) a w
 | [],k,_,_,a,w,h=>by simpa [wpOpsIn,dX] using h
 | o::l,k,hl,hd,a,w,h=>by
   have h0:ops[k]? = some o:=by simpa using (hl 0).symm
   simp only[List.all_cons,Bool.and_eq_true] at hd;simp only[List.length_cons,List.range'_succ,wpOpsIn,h0];simp only[dX] at h;have I:=fun a w=>uY (r:=r) (q:=q) (Q:=Q) l (k+1) (fun j=>by have:=hl (j+1);simpa [Nat.add_assoc,Nat.add_comm 1 j] using this) hd.2 a w;split
   ·rename_i hw
    rw[if_pos hw] at h;exact DK hd.1 h I
   ·rename_i hw
    rw[if_neg hw] at h;exact⟨fun _ _=>trivial,I _ _ h⟩
end
def QR (b1:List (List A)) (k:Nat) (st:St):Prop:=∃ order,order.length=k∧nodupB (er b1.length order)=true∧(∀ g∈order,g∈st.lv)∧∀ (i:Nat) (c:List A),b1[i]? = some c→∃ c0,ah st.bx i=some c0∧fG (er b1.length order) c0=c
theorem QR.mk {b1:List (List A)} {k:Nat} {st:St} (order:List Nat) (M:order.length=k) (I:nodupB (er b1.length order)=true) (J:(order.all fun g=>st.lv.any fun h=>Nat.beq h g)=true)
 (hb:∀ (i:Nat) (c:List A),b1[i]? = some c→∃ c0,ah st.bx i=some c0∧fG (er b1.length order) c0=c):QR b1 k st:=
 ⟨order,M,I,fun g N=>by obtain⟨x,O,he⟩:=List.any_eq_true.1 (List.all_eq_true.1 J g N);exact Nat.eq_of_beq_eq_true he▸O,hb⟩
section
variable {P:Program} [cd P] {n:Nat}
theorem QR.xg {C:Ctx} {st:St} {G:Gh} {tmps:Array Value} {w:World} {I b1:List (List A)} {k:Nat} (hs:ax C n st G tmps w) (hq:QR b1 k st) (O:C.bx.length=I.length) (J:b1.length=I.length) :
 ∃ G',ax C 0 ⟨[],dT 0 b1,(List.range k).map (I.length+·),I.length+k⟩ G' #[] w:=by
 obtain⟨order,U,X,Z,ad⟩:=hq;have aj:(er b1.length order).length=I.length+k:=by simp[er,U,J]
 have M:∀ i,i < C.bx.length→(er b1.length order)[i]? = some i:=fun i hi=>by unfold er;rw[List.getElem?_append_left (by simp;omega),List.getElem?_range (by omega)]
 refine⟨l6 (er b1.length order) G,ax.xG (hs.bL (f':=[]) (bx':=dT 0 b1) (lv':=(List.range k).map (I.length+·)) (gen':=I.length+k) (er b1.length order) (dQ X) (by omega) M (fun t a ha=>by simp[look] at ha) (fun i c hc=>?_) (fun i hi=>?_)) rfl⟩
 ·obtain⟨_,h1⟩:=mP b1 0 i c hc
  simp only[Nat.sub_zero] at h1;obtain⟨c0,h2,h3⟩:=ad i c h1;have ai:i < b1.length:=(List.getElem?_eq_some_iff.1 h1).1;exact⟨i,c0,M i (by rw[O,←J];exact ai),h2,by rw[←fQ];exact h3⟩
 ·obtain⟨j,hj,rfl⟩:=List.mem_map.1 hi
  have hj:j < k:=by simpa using hj
  have N:j < order.length:=by omega
  refine⟨order[j],?_,Z _ (List.getElem_mem N)⟩;unfold er;rw[List.getElem?_append_right (by simp;omega)];simp[J,N]
theorem nR.GS {id i1 i2:Nat} {l1 l2:List Oper} {V:List (Nat×A)} {I b1:List (List A)} {m k:Nat} (U:b1.length=I.length) (X:l1.all mH=true) (Z:l2.all mH=true)
 (h:∀ C,NB C I.length→GC P C→WO P C n l1.toArray (fun e s=>e=.normal∧WO P C n l2.toArray (fun e s=>e=.normal∧QR b1 k s) l2 s) l1 ⟨V,dT 0 I,(List.range m).map (I.length+·),I.length+m⟩) :
 nR P n (.block id (.seq (.region i1 l1.toArray false) (.region i2 l2.toArray false))) V I m b1 k:=by
 intro C G tmps w l q hG hw N J hs;refine wpIn_block (wpIn_seq (wpIn_region ?_));have h1:=h C ⟨N⟩ hG tmps w ⟨G,hs⟩;rw[J] at h1;have h2:dX P l1.toArray (Exit.then ((Code.region i2 l2.toArray false).wpIn (Fence.wide.inRound l) q P (Exit.inBlock id fun e _ w'=>e=.normal∧∃ M,ax C 0 ⟨[],dT 0 b1,(List.range k).map (I.length+·),I.length+k⟩ M #[] w')) (Exit.inBlock id fun e _ w'=>e=.normal∧∃ M,ax C 0 ⟨[],dT 0 b1,(List.range k).map (I.length+·),I.length+k⟩ M #[] w')) l1 ⟨tmps,[]⟩ w:=by
  refine nH (fun e a w' O=>?_) l1 _ _ h1;obtain⟨hd,st,⟨G2,ad⟩,rfl,ai⟩:=O;obtain⟨tm,d⟩:=a;have hd:d=C.ds:=hd;rw[J] at hd;subst hd;refine wpIn_region ?_;have h3:=ai tm w' ⟨G2,ad⟩;rw[J] at h3;have h4:dX P l2.toArray (Exit.inBlock id fun e _ w'=>e=.normal∧∃ M,ax C 0 ⟨[],dT 0 b1,(List.range k).map (I.length+·),I.length+k⟩ M #[] w') l2 ⟨tm,[]⟩ w':=by refine nH (fun e a w3 O=>?_) l2 _ _ h3;obtain⟨_,a6,⟨G3,aj⟩,rfl,a1⟩:=O;exact⟨rfl,a1.xg aj N U⟩
  have:=uY (P:=P) (r:=l) (q:=q) l2 0 (by simp) Z _ _ h4;rw[show List.range l2.toArray.size=List.range' 0 l2.length by simp[List.range_eq_range']];exact this
 have:=uY (P:=P) (r:=l) (q:=q) l1 0 (by simp) X _ _ h2;rw[show List.range l1.toArray.size=List.range' 0 l1.length by simp[List.range_eq_range']];exact this
end
section
variable {P:Program} (T:bF P) {C:Ctx} {n:Nat} {Q:Exit→St→Prop} {c:Code}
variable {f f':List (Nat×A)} {bx bx':List (Nat×List A)} {lv:List Nat} {gen:Nat}
theorem xu [hnb:NB C 0] (s:Nat) {g:Nat} {l:List D} (hl:look f s=some (.ptr g 0)) (hb:ah bx g=some (l.map .d)) (a6:Nat.blt s n=true) (hf:mu g [] f=f') (a7:kL g [] bx=some bx')
 (h:W P C n c Q ⟨(s,.rowd l)::f',bx',lv,gen⟩):W P C n c Q ⟨f,bx,lv,gen⟩:=by
 subst hf;intro tmps w ⟨G,hs⟩;obtain⟨v,hv,O⟩:=hs.frame _ _ hl;obtain⟨b,cs,T',U,hw,h3,h4,h5⟩:=hs.box _ _ hb
 cases O with
 | ptr _ _ _ b' cj Z hx=>
 have Z:G.box g=some b':=Z;rw[U] at Z;cases Z;let M:Gh:=⟨fun x=>if x=g then none else G.box x,G.own⟩;have a8:∀ b' o,bc C M b' o→bc C G b' o:=by
  rintro b' o (hp | ⟨I,hp⟩ | hp);·exact .inl hp
  ·simp only[M] at hp
   split at hp;·cases hp
   ·exact .inr (.inl ⟨I,hp⟩)
  ·exact .inr (.inr hp)
 have a1:∀ o,¬ bc C M b o:=by
  rintro o (hp | ⟨I,hp⟩ | ⟨I,len,cap,sz,ad,hp,_⟩ | ⟨I,N,bs,lim,hp,hm,_⟩)
  rotate_right
  ·exact(hs.sub I N bs b lim hp hm).2.1 g U
  ·have:=hs.xold b o hp
   rcases(hs.gbox g b U).2.2.1 with hm | hm
   ·omega
   ·exact this.2 hm
  ·simp only[M] at hp
   split at hp;·cases hp
   ·rename_i e;exact e (hs.inj I g b hp U)
  ·exact(hs.row I b len cap sz ad hp).2.1 g U
 have X:∀ {v:Value} {a:A},aD (aA C G gen w) v a→ga g a=true→aD (aA C M gen w) v a:=fun h ha=>aD.forget (E:=aA C G gen w) (E':=aA C M gen w) rfl (fun b o u hu hn=>⟨hu,fun hp=>hn (a8 b o hp)⟩) (fun b h=>h) (fun I b b0 hb=>by show(if I=g then none else G.box I)=some b;rw[if_neg b0];exact hb) rfl rfl h ha;have b3:ax C n ⟨mu g [] f,bx',lv,gen⟩ M tmps w:=by
  refine { size:=hs.size,frame:=?_,box:=?_,gbox:=?_,inj:=?_,live:=hs.live,gown:=hs.gown,row:=?_,mrow:=?_,sub:=?_,gcell:=fun I N J=>(by simp only[M] at J;split at J <;> first | (cases J;done) | exact hs.gcell I N J),xold:=hs.xold,kold:=hs.kold,lent:=?_,fr:=hs.fr }
  ·intro t a ha
   obtain⟨h1,h2,_⟩:=ki ha;obtain⟨v,hv,O⟩:=hs.frame t a h1;exact⟨v,hv,X O h2⟩
  ·intro I cells hc
   obtain⟨h1,h2,h6,_⟩:=kb a7 hc;obtain⟨N,ch,T2,p1,p2,p3,p4,p5⟩:=hs.box I cells h1;exact⟨N,ch,T2,by simp only[M];rw[if_neg h6];exact p1,p2,p3,p4,fun i u a hu ha=>X (p5 i u a hu ha) (eG h2 a (List.mem_of_getElem? ha))⟩
  ·intro I N J
   simp only[M] at J;split at J;·cases J
   ·exact hs.gbox I N J
  ·intro g1 g2 N h1 h2
   simp only[M] at h1 h2;split at h1;·cases h1
   ·split at h2
    ·cases h2
    ·exact hs.inj g1 g2 N h1 h2
  ·intro I N len cap sz ad O
   obtain⟨p1,p2,p3⟩:=hs.row I N len cap sz ad O;refine⟨p1,fun g2 h2=>?_,p3⟩;simp only[M] at h2;split at h2;·cases h2
   ·exact p2 g2 h2
  ·intro I N bs O
   obtain⟨p1,p2,p3⟩:=hs.mrow I N bs O;refine⟨p1,fun g2 h2=>?_,p3⟩;simp only[M] at h2;split at h2;·cases h2
   ·exact p2 g2 h2
  ·intro I N bs c lim O hm
   obtain⟨p1,p2,p3⟩:=hs.sub I N bs c lim O hm;refine⟨p1,fun g2 h2=>?_,p3⟩;simp only[M] at h2;split at h2;·cases h2
   ·exact p2 g2 h2
  ·intro i N J
   have:=hnb.h;have hi:=(List.getElem?_eq_some_iff.1 J).1;omega
 have aj:aD (aA C M gen w) v (.rowd l):=by
  rw[hx];refine .rowd b 0 l (fun j=>cs[j]?.getD default) (fun j hj=>?_) (fun j x hx=>?_)
  ·have ai:j < cs.size:=by rw[h3];simpa using hj
   have e1:cs[j]? = some cs[j]:=by simp[ai]
   refine⟨?_,a1 _⟩;show cellAt w b (0+j)=_;rw[Nat.zero_add,bH hw,e1];rfl
  ·have ai:j < cs.size:=by rw[h3];simpa using (List.getElem?_eq_some_iff.1 hx).1
   have e1:cs[j]? = some cs[j]:=by simp[ai]
   have:=X (h5 j _ (.d x) e1 (by simp[hx])) rfl;rw[e1];show aO w _ cs[j] x;generalize cs[j]=u at this;cases this with | d hd=>exact hd
 refine h tmps w ⟨M,?_⟩;have:=b3.set (d:=s) (Nat.le_of_ble_eq_true a6) aj;rwa [gW hv] at this
end
end Go.Ab
namespace Go.Ab
open Go.RowKit Go.MapKept
theorem aD.DX {E E':En} {g:Nat} (hw:E.w=E'.w) (hc:∀ b o u,cellAt E.w b o=some u→¬ E.pv b o→cellAt E'.w b o=some u∧¬ E'.pv b o) (hold:∀ b,E.old b→E'.old b) (hb:∀ J b,J≠g→E.box J=some b→E'.box J=some b) (U:∀ J r,J < E.gen→E'.own J=some r→E.own J=some r) (O:E.gen≤E'.gen)
 {v:Value} {a:A} (h:aD E v a) (ha:ga g a=true):aD E' v a:=by
 have ai:∀ {J},(!Nat.beq J g)=true→J≠g:=fun h e=>by subst e;simp at h
 have X:∀ b o u,cellAt E.w b o=some u→¬ E.pv b o→cellAt E.w b o=some u∧¬ E'.pv b o:=fun b o u h1 h2=>⟨h1,(hc b o u h1 h2).2⟩
 induction h with
 | any x=>exact .any x
 | d hd=>exact .d (hd.mono hc)
 | ag vs l hs hd=>exact .ag vs l hs (fun i u x h1 h2=>(hd i u x h1 h2).mono hc)
 | own x J es hd I hr=>exact .own x J es (hd.mono hc) (Nat.lt_of_lt_of_le I O) (fun r M=>hr r (U _ r I M))
 | agg vs l hs hone _ ih=>exact .agg vs l hs hone (fun i u x hu N=>ih i u x hu N (eG (by simpa [ga] using ha) x (List.mem_of_getElem? N)))
 | tup vs l hs _ ih=>exact .tup vs l hs (fun i u x hu N=>ih i u x hu N (eG (by simpa [ga] using ha) x (List.mem_of_getElem? N)))
 | rowd b off l u ad hd=>exact .rowd b off l u (fun j hj=>hc _ _ _ (ad j hj).1 (ad j hj).2) (fun j x N=>(hd j x N).mono hc)
 | row b off l u ad _ ih=>exact .row b off l u (fun j hj=>⟨by rw[←hw];exact(ad j hj).1,hold _ (ad j hj).2.1,(ad j hj).2.2⟩) (fun j x N=>ih j x N (eG (by simpa [ga] using ha) x (List.mem_of_getElem? N)))
 | ptr x J off b I Z hp=>exact .ptr x J off b (Nat.lt_of_lt_of_le I O) (hb J b (ai (by simpa [ga] using ha)) Z) hp
 | xs x J es I h1 N=>exact .xs x J es (Nat.lt_of_lt_of_le I O) h1 (fun r M=>hw▸(N r (U _ r I M)).dd X)
 | xp x J i off l I h1 N=>exact .xp x J i off l (Nat.lt_of_lt_of_le I O) h1 (fun r M=>hw▸(N r (U _ r I M)).dd X)
 | mp x J es I h1 N=>exact .mp x J es (Nat.lt_of_lt_of_le I O) h1 (fun r M=>hw▸(N r (U _ r I M)).dd X)
 | mq x J es I h1 N=>exact .mq x J es (Nat.lt_of_lt_of_le I O) h1 (fun r M=>hw▸(N r (U _ r I M)).dd X)
 | mo x J es hole ob I h1 N=>exact .mo x J es hole ob (Nat.lt_of_lt_of_le I O) h1 (fun r M=>hw▸(N r (U _ r I M)).dd X)
 | ni t x=>exact .ni t x
 | fl x es hd a1=>exact .fl x es (hd.mono hc) a1
 | bf x J T s I h1 N=>exact .bf x J T s (Nat.lt_of_lt_of_le I O) h1 (fun r M=>hw▸N r (U _ r I M))
 | np x J T b I Z hT u hp=>exact .np x J T b (Nat.lt_of_lt_of_le I O) (hb J b (ai (by simpa [ga] using ha)) Z) (hw▸hT) u hp
 | sb x J n c b I Z hn hp=>exact .sb x J n c b (Nat.lt_of_lt_of_le I O) (hb J b (ai (by simpa [ga] using ha)) Z) hn hp
 | fx x u J es ou N I hu a6=>exact .fx x u J es ou (N.mono hc) (Nat.lt_of_lt_of_le I O) (fun r M=>hw▸(hu r (U _ r I M)).dd X) a6
 | ol x u g1 E1 J es N aj a7 I hu=>exact .ol x u g1 E1 J es (N.mono hc) (Nat.lt_of_lt_of_le aj O) (fun r M=>a7 r (U _ r aj M)) (Nat.lt_of_lt_of_le I O) (fun r M=>hw▸(hu r (U _ r I M)).dd X)
 | ow x v J es hd I hr=>exact .ow x v J es (hd.mono hc) (Nat.lt_of_lt_of_le I O) (fun r M=>hr r (U _ r I M))
 | lk x J n c b v I Z hn hp=>exact .lk x J n c b v (Nat.lt_of_lt_of_le I O) (hb J b (ai (by simpa [ga] using ha)) Z) hn hp
 | clo f vs l hs _ ih=>exact .clo f vs l hs (fun i u x hu N=>ih i u x hu N (eG (by simpa [ga] using ha) x (List.mem_of_getElem? N)))
 | bnd f vs l hs _ ih=>exact .bnd f vs l hs (fun i u x hu N=>ih i u x hu N (eG (by simpa [ga] using ha) x (List.mem_of_getElem? N)))
section
variable {C:Ctx} {n:Nat} {G:Gh} {tmps:Array Value} {w:World}
variable {f:List (Nat×A)} {bx bx':List (Nat×List A)} {lv:List Nat} {gen:Nat}
theorem ax.FB (hs:ax C n ⟨f,bx,lv,gen⟩ G tmps w) (c7:C.bx=[]) {g b:Nat} {l:List D} (Z:G.box g=some b) (hb:ah bx g=some (l.map .d)) (ch:0 < l.length) (df:kL g [] bx=some bx') :
 ∃ N cs T,w.heap[b]? = some (.cells cs T (0,0))∧cs.size=l.length∧eN cs∧(∀ (j:Nat) (u:Value) (d:D),cs[j]? = some u→l[j]? = some d→aO w (bc C N) u d)∧N.own gen=some (.blk b 1 1 l.length 0)∧(∀ I,I≠gen→N.own I=G.own I) ∧
   (∀ b' o,bc C N b' o→bc C G b' o)∧ax C n ⟨mu g [] f,bx',gen::lv,gen+1⟩ N tmps w:=by
 obtain⟨b0,cs,T',a7,hw,h3,h4,h5⟩:=hs.box _ _ hb;rw[Z] at a7;cases a7;simp only[List.length_map] at h3;let M:Nat→Option Row:=fun I=>if I=gen then some (.blk b 1 1 l.length 0) else G.own I;let N:Gh:=⟨fun x=>if x=g then none else G.box x,M⟩;have ad:∀ {I c len cap sz ai},M I=some (.blk c len cap sz ai)→(I=gen∧c=b∧len=1∧cap=1∧sz=l.length∧ai=0)∨(I≠gen∧G.own I=some (.blk c len cap sz ai)):=by
  intro I c len cap sz ai J;simp only[M] at J;split at J
  ·rename_i e
   simp only[Option.some.injEq,Row.blk.injEq] at J;exact .inl ⟨e,J.1.symm,J.2.1.symm,J.2.2.1.symm,J.2.2.2.1.symm,J.2.2.2.2.symm⟩
  ·rename_i e;exact .inr ⟨e,J⟩
 have a1:∀ {I O aj},M I=some (.mp O aj)→G.own I=some (.mp O aj):=by
  intro I O aj J;simp only[M] at J;split at J;·cases J
  ·exact J
 have a8:∀ b' o,bc C N b' o→bc C G b' o:=by
  rintro b' o (hp | ⟨I,hp⟩ | ⟨I,cj,cl,di,cq,hp,hl'⟩ | ⟨I,O,aj,lim,hp,hm,hl'⟩);·exact .inl hp
  ·simp only[N] at hp
   split at hp;·cases hp
   ·exact .inr (.inl ⟨I,hp⟩)
  ·rcases ad hp with ⟨_,rfl,_⟩ | ⟨_,e⟩
   ·exact .inr (.inl ⟨g,Z⟩)
   ·exact .inr (.inr (.inl ⟨I,cj,cl,di,cq,e,hl'⟩))
  ·exact .inr (.inr (.inr ⟨I,O,aj,lim,a1 hp,hm,hl'⟩))
 have a6:∀ {v:Value} {a:A},aD (aA C G gen w) v a→ga g a=true→aD (aA C N (gen+1) w) v a:=fun h ha=>
  aD.DX (E:=aA C G gen w) (E':=aA C N (gen+1) w) rfl (fun b o u hu hn=>⟨hu,fun hp=>hn (a8 b o hp)⟩) (fun b h=>h) (fun I b dj hb=>by show(if I=g then none else G.box I)=some b;rw[if_neg dj];exact hb)
   (fun I r X J=>by have J:M I=some r:=J;have X:I < gen:=X;simp only[M,if_neg (Nat.ne_of_lt X)] at J;exact J) (Nat.le_succ gen) h ha
 refine⟨N,cs,T',hw,h3,h4,fun j u d hu hd=>?_,by simp[N,M],fun I X=>by simp[N,M,X],a8,?_⟩
 ·have:=a6 (h5 j u (.d d) hu (by simp[hd])) rfl
  cases this with | d hd=>exact hd
 ·refine { size:=hs.size,frame:=?_,box:=?_,gbox:=?_,inj:=?_,live:=?_,gown:=?_,row:=?_,mrow:=?_,sub:=?_,gcell:=fun I O U=>(by simp only[N] at U;split at U <;> first | (cases U;done) | exact hs.gcell I O U),xold:=hs.xold,kold:=hs.kold,lent:=?_,fr:=hs.fr }
  ·intro t a ha
   obtain⟨h1,h2,_⟩:=ki ha;obtain⟨v,hv,J⟩:=hs.frame t a h1;exact⟨v,hv,a6 J h2⟩
  ·intro I cells hc
   obtain⟨h1,h2,h6,_⟩:=kb df hc;obtain⟨O,dt,T2,p1,p2,p3,p4,p5⟩:=hs.box I cells h1;exact⟨O,dt,T2,by simp only[N];rw[if_neg h6];exact p1,p2,p3,p4,fun i u a hu ha=>a6 (p5 i u a hu ha) (eG h2 a (List.mem_of_getElem? ha))⟩
  ·intro I O U
   simp only[N] at U;split at U;·cases U
   ·obtain⟨q1,q2⟩:=hs.gbox I O U
    exact⟨Nat.lt_succ_of_lt q1,q2⟩
  ·intro g1 g2 O h1 h2
   simp only[N] at h1 h2;split at h1;·cases h1
   ·split at h2
    ·cases h2
    ·exact hs.inj g1 g2 O h1 h2
  ·intro I X
   rcases List.mem_cons.1 X with rfl | X
   ·exact⟨_,by simp[N,M];rfl⟩
   ·obtain⟨r,J⟩:=hs.live I X
    exact⟨r,by simp only[N,M,if_neg (Nat.ne_of_lt (hs.gown I r J))];exact J⟩
  ·intro I r J
   have J:M I=some r:=J;simp only[M] at J;split at J;·simp only;omega
   ·exact Nat.lt_succ_of_lt (hs.gown I r J)
  ·intro I O len cap sz ai J
   rcases ad J with ⟨e,rfl,rfl,rfl,rfl,rfl⟩ | ⟨e,J⟩
   ·refine⟨(hs.gbox g _ Z).2.2,fun g2 h2=>?_,fun g2 cx cy dx c1 h2=>?_,cs,T',hw,by rw[h3];simp,Nat.le_refl _,by simp[maxLen],ch,by decide,Nat.zero_le _,h4⟩
    ·simp only[N] at h2
     split at h2;·cases h2
     ·rename_i e2;exact e2 (hs.inj _ _ _ h2 Z)
    ·rcases ad h2 with ⟨e2,_⟩ | ⟨_,e2⟩
     ·rw[e,e2]
     ·exact absurd Z ((hs.row _ _ _ _ _ _ e2).2.1 g)
   ·obtain⟨p1,p2,p3,p4⟩:=hs.row I O len cap sz ai J
    refine⟨p1,fun g2 h2=>?_,fun g2 cx cy dx c1 h2=>?_,p4⟩
    ·simp only[N] at h2
     split at h2;·cases h2
     ·exact p2 g2 h2
    ·rcases ad h2 with ⟨_,rfl,_⟩ | ⟨_,e2⟩
     ·exact absurd Z (p2 g)
     ·exact p3 _ _ _ _ _ e2
  ·intro I O bs J
   obtain⟨p1,p2,p3,p4⟩:=hs.mrow I O bs (a1 J);refine⟨p1,fun g2 h2=>?_,fun g2 aj h2=>p3 g2 aj (a1 h2),p4⟩;simp only[N] at h2;split at h2;·cases h2
   ·exact p2 g2 h2
  ·intro I O bs c lim J hm
   obtain⟨p1,p2,p3,p4,p5⟩:=hs.sub I O bs c lim (a1 J) hm;refine⟨p1,fun g2 h2=>?_,fun g2 len cap sz ai h2=>?_,fun g2 b3 ed c6 h2 ei=>p4 g2 b3 ed c6 (a1 h2) ei,p5⟩
   ·simp only[N] at h2
    split at h2;·cases h2
    ·exact p2 g2 h2
   ·rcases ad h2 with ⟨_,rfl,_⟩ | ⟨_,e2⟩
    ·exact p2 g Z
    ·exact p3 _ _ _ _ _ e2
  ·intro i O U
   rw[c7] at U;simp at U
end
end Go.Ab
namespace Go.Ab
open Go.RowKit Go.MapKept
def iA {α:Type} (kf:α→Value) (l:List (α×Option (List D))):List (Value×Option (List D)):=l.map fun p=>(kf p.1,p.2)
theorem zy {α:Type} {kf:α→Value} {l:List (α×Option (List D))} {i:Nat} {k:Value} {o:Option (List D)} (h:(iA kf l)[i]? = some (k,o)):∃ a,l[i]? = some (a,o)∧k=kf a:=by simp only[iA,List.getElem?_map,Option.map_eq_some_iff] at h;obtain⟨p,hp,e⟩:=h;simp only[Prod.mk.injEq] at e;exact⟨p.1,by rw[←e.2];exact hp,e.1.symm⟩
theorem w5 {α:Type} {kf:α→Value} {l:List (α×Option (List D))} {k:Value} {o:Option (List D)} (h:(k,o)∈iA kf l):∃ a,(a,o)∈l∧k=kf a:=by obtain⟨i,hi⟩:=List.mem_iff_getElem?.1 h;obtain⟨a,I,e⟩:=zy hi;exact⟨a,List.mem_of_getElem? I,e⟩
structure nX {α:Type} (w:World) (pv:Nat→Nat→Prop) (b:Nat) (bs:List (Nat×Nat)) (kf:α→Value) (l:List (α×Option (List D))) (me:Array MapEntry) (clock:Nat) (ps:Value→Nat) (l2:List (α×Value)):Prop where
 hb:w.heap[b]? = some (.map me clock)
 st:Stamped me clock
 mi:gB w pv kf D.v me l2
 ln:l2.length=l.length
 ks:∀ (i:Nat) (p:α×Value) (q:α×Option (List D)),l2[i]? = some p→l[i]? = some q→p.1=q.1
 inj:∀ (a a':α) (x x':List D),(a,some x)∈l→(a',some x')∈l→ps (kf a)=ps (kf a')→kf a=kf a'
 at_:∀ (i:Nat) (m:MapEntry) (a:α) (x:List D),me[i]? = some m→l[i]? = some (a,some x)→m.val=.pointer (some ⟨ps (kf a),0,none⟩)∧(ps (kf a),0)∈bs ∧
  ∃ cur T,w.heap[ps (kf a)]? = some (.cells cur T (0,0))∧cur.size=x.length∧eN cur∧∀ (j:Nat) (u:Value) (d:D),cur[j]? = some u→x[j]? = some d→aO w pv u d
theorem nX.of {α:Type} {kf:α→Value} {w:World} {pv:Nat→Nat→Prop} {b:Nat} {bs:List (Nat×Nat)} {v:Value} {l:List (α×Option (List D))} (h:mW w pv (.mp b bs) v (iA kf l)):v=.map (some b)∧∃ I clock ps l2,nX w pv b bs kf l I clock ps l2:=by
 obtain⟨h1,I,clock,h2,h3,h4,ps,h5,N⟩:=h;have J:I.size=l.length:=by rw[h4];simp[iA]
 refine⟨h1,I,clock,ps,(l.zip I.toList).map fun p=>(p.1.1,p.2.val),h2,h3,⟨by simp[J],fun i m p hm hp=>?_⟩,by simp[J],fun i p q hp U=>?_,fun a a' x X q1 q2 q3=>?_,fun i m a x hm Z=>?_⟩
 ·have O:i < l.length:=by rw[←J];exact(Array.getElem?_eq_some_iff.1 hm).1
  have hl:l[i]? = some l[i]:=by simp[O]
  have M:(l.zip I.toList)[i]? = some (l[i],m):=by rw[List.getElem?_zip_eq_some];exact⟨hl,by simpa using hm⟩
  rw[List.getElem?_map,M] at hp;simp only[Option.map_some,Option.some.injEq] at hp;subst hp;obtain⟨q1,q2,q3,_⟩:=N i m (kf l[i].1) l[i].2 hm (by simp[iA,hl]);exact⟨q1,q2,.v _ q3⟩
 ·rw[List.getElem?_map,Option.map_eq_some_iff] at hp
  obtain⟨z,M,rfl⟩:=hp;rw[List.getElem?_zip_eq_some] at M;rw[U] at M;exact congrArg Prod.fst (Option.some.inj M.1).symm
 ·exact h5 _ _ x X (List.mem_map.2 ⟨_,q1,rfl⟩) (List.mem_map.2 ⟨_,q2,rfl⟩) q3
 ·exact(N i m (kf a) (some x) hm (by simp[iA,Z])).2.2.2 x rfl
theorem nX.to {α:Type} {kf:α→Value} {w:World} {pv:Nat→Nat→Prop} {b:Nat} {bs:List (Nat×Nat)} {l:List (α×Option (List D))} {M:Array MapEntry} {clock:Nat} {ps:Value→Nat} {l2:List (α×Value)} (h:nX w pv b bs kf l M clock ps l2):mW w pv (.mp b bs) (.map (some b)) (iA kf l):=by
 refine⟨rfl,M,clock,h.hb,h.st,by rw[h.mi.1,h.ln];simp[iA],ps,fun k k' x U q1 q2 q3=>?_,fun i m k o hm X=>?_⟩
 ·obtain⟨a,I,rfl⟩:=w5 q1
  obtain⟨a',N,rfl⟩:=w5 q2;exact h.inj a a' x U I N q3
 ·obtain⟨a,I,rfl⟩:=zy X
  have O:i < l2.length:=by rw[h.ln];exact(List.getElem?_eq_some_iff.1 I).1
  have J:l2[i]? = some l2[i]:=by simp[O]
  obtain⟨q1,q2,q3⟩:=h.mi.2 i m _ hm J;have e:=h.ks i _ _ J I;rw[e] at q1 q2;refine⟨q1,q2,?_,fun x Z=>?_⟩
  ·generalize m.val=y at q3
   cases q3 with | v _ hok=>exact hok
  ·subst Z
   exact h.at_ i m a x hm I
section
variable {P:Program} (T:bF P) {C:Ctx} {n:Nat} {ops:Array Oper} {Q:Exit→St→Prop} {rest:List Oper}
variable {f f':List (Nat×A)} {bx bx':List (Nat×List A)} {lv:List Nat} {gen:Nat} {d:Nat} {ty:TypeId} {pos:String} {af:Array Edge} {dst:Option Nat} {c:Code}
variable {α:Type} [DecidableEq α] {kf:α→Value}
omit [DecidableEq α] in
theorem ax.yf {st:St} {G:Gh} {tmps:Array Value} {w:World} (hs:ax C n st G tmps w) {v:Value} {g:Nat} {l:List (α×Option (List D))} (U:aD (aA C G st.gen w) v (.mq g (iA kf l))) (O:g∈st.lv) :
 ∃ b bs M clock ps l2,G.own g=some (.mp b bs)∧v=.map (some b)∧nX w (bc C G) b bs kf l M clock ps l2:=by
 obtain⟨r,J⟩:=hs.live g O
 cases U with
 | mq _ _ _ X h1 N=>
 have I:=N r J
 cases r with
 | nil=>exact I.elim
 | zero b=>exact I.elim
 | blk b len cap sz Z=>exact I.elim
 | mp b bs=>obtain⟨h2,M,clock,ps,l2,h3⟩:=nX.of I;exact⟨b,bs,M,clock,ps,l2,J,h2,h3⟩
theorem Ff {t:TypeId} (hd:Nat.blt d n=true) (h:WO P C n ops Q rest ⟨(d,.mq gen [])::f,bx,gen::lv,gen+1⟩):WO P C n ops Q (⟨some d,.makeMap t none,ty,pos,af,none⟩::rest) ⟨f,bx,lv,gen⟩:=by
 refine WO.step (st:=⟨f,bx,lv,gen⟩) rfl fun tmps w ⟨G,hs⟩=>?_;obtain⟨U,N,J⟩:=hs.ve;refine bZ (v:=.map (some w.heap.size)) (w':=w.alloc (.map #[] 0)) ?_ ⟨_,⟨U,N.put (dst:=some d) (bX (dst:=some d) hd) ?_⟩,h⟩
 ·unfold execOp
  show Sem.run P _ w=.ok _ _;simp[Instr.makeMap,Sem.run_bind,Result.andThen]
 ·cases J with
  | mp _ _ _ O h1 M=>
  refine .mq _ _ _ O h1 (fun r J=>?_);have I:=M r J
  cases r with
  | nil=>exact I.elim
  | zero b=>exact I.elim
  | blk b len cap sz ad=>exact I.elim
  | mp b bs=>obtain⟨q1,X,clock,q2,q3,q4,_⟩:=I;exact⟨q1,X,clock,q2,q3,q4,fun _=>0,fun _ _ _ _ h=>(by cases h),fun i m k x hm Z=>(by simp at Z)⟩
open Classical in
theorem Dg [hnb:NB C 0] (s:Nat) {mt k e:Nat} {td:bM} {m kx x:Operand} {g gb:Nat} {l:List (α×Option (List D))} {a:α} {y:List D} (hm:av f m=some (.mq g (iA kf l))) (hl:look f s=some (.mq g (iA kf l))) (hk:av f kx=some (.d (.v (kf a)))) (hx:av f x=some (.ptr gb 0)) (hb:ah bx gb=some (y.map .d)) (hy:Nat.blt 0 y.length=true)
 (ht:ah T.l mt=some td) (gi:td.k=.map k e) (df:iS P k kf) (di:(lv.any fun h=>Nat.beq h g)=true) (gj:Nat.blt s n=true) (hn:(l.map (·.1)).Nodup) (b0:a∉l.map (·.1)) (hf:mu gb [] f=f') (gq:kL gb [] bx=some bx')
 {dj:List (Value×Option (List D))} (ha:iA kf (l++[(a,some y)])=dj) {lv':List Nat} (hg:(gen+1)::br lv g=lv')
 (h:WO P C n ops Q rest ⟨(s,.mq (gen+1) dj)::f',bx',lv',gen+2⟩):WO P C n ops Q (⟨none,.mapUpdate mt m kx x,ty,pos,af,none⟩::rest) ⟨f,bx,lv,gen⟩:=by
 subst ha;subst hg;subst hf;refine WO.step (st:=⟨f,bx,lv,gen⟩) rfl fun tmps w ⟨G,hs⟩=>?_;have hh:C.bx=[]:=List.eq_nil_of_length_eq_zero hnb.h;have dt:=hs.av hm;have ai:=hs.av hk;have dx:=hs.av hx;obtain⟨vs,ho,hz⟩:=hs.frame s _ hl;generalize hv:Act.eval ⟨tmps,[]⟩ m=v at dt;generalize hA:Act.eval ⟨tmps,[]⟩ kx=vk at ai;generalize hD:Act.eval ⟨tmps,[]⟩ x=vx at dx;obtain⟨b,bs,me,clock,ps,l2,aj,rfl,I⟩:=hs.yf dt (cQ di);obtain⟨O,N,_,_,_,_,e4,rfl,_⟩:=hs.yf hz (cQ di);obtain⟨rfl,rfl⟩:O=b∧N=bs:=by have:=e4.symm.trans aj;simpa using this
 cases ai with | d ai=>cases ai with | v _ hok=>
 cases dx with
 | ptr _ _ _ c hN a6 ed=>
 have a6:G.box gb=some c:=a6;have a7:l2.map (·.1)=l.map (·.1):=by
  refine List.ext_getElem? fun i=>?_;rw[List.getElem?_map,List.getElem?_map];rcases Nat.lt_or_ge i l2.length with hi | hi
  ·have h1:l2[i]? = some l2[i]:=by simp[hi]
   have hE:i < l.length:=by rw[←I.ln];exact hi
   have h2:l[i]? = some l[i]:=by simp[hE]
   rw[h1,h2];simp only[Option.map_some,I.ks i _ _ h1 h2]
  ·rw[List.getElem?_eq_none hi,List.getElem?_eq_none (by rw[←I.ln];exact hi)]
   rfl
 have cy:∀ p∈l2,p.1≠a:=fun p hp e=>b0 (by rw[←a7,←e];exact List.mem_map.2 ⟨p,hp,rfl⟩);obtain⟨M,J,e5,e6,U,b3⟩:=pF (P:=P) T (y:=vx) (vf:=D.v) ht gi df I.hb I.st I.mi (by rw[a7];exact hn) a hok (v:=vx) (.v _ (by rw[ed];rfl));have h0:(execOp (Act.eval ⟨tmps,[]⟩) ⟨none,.mapUpdate mt m kx x,ty,pos,af,none⟩).run P w=.ok .skip { w with heap:=w.heap.setIfInBounds O (.map M J) }:=by unfold execOp;show Sem.run P _ w=.ok _ _;simp only[hv,hA,hD,Sem.run_bind,e5,Result.andThen_ok,Sem.run_pure]
 rw[iW cy] at U b3;have ch:=hs.gown g _ aj;obtain⟨G1,cs,T1,c1,c2,c3,c4,c5,c6,c7,hF⟩:=hs.FB hh a6 hb (Nat.le_of_ble_eq_true hy) gq;have fj:G1.own g=some (.mp O N):=by rw[c6 g (Nat.ne_of_lt ch)];exact aj
 obtain⟨G',hO,hG,hle,hH⟩:=hF.join (g:=g) (g2:=gen) (bs':=(c,0)::N) fj c5 (Ne.symm (Nat.ne_of_lt ch)) (fun p hp=>by
  rcases List.mem_cons.1 hp with rfl | hp
  ·exact .inr ⟨_,_,_,rfl⟩
  ·exact .inl hp) M J (br lv g) (fun g' hI=>by
  obtain⟨t1,t2⟩:=cP hI;obtain⟨r,hr⟩:=hs.live g' t1;have:=hs.gown g' r hr;exact⟨List.mem_cons_of_mem _ t1,t2,by simp only at this;omega⟩)
 obtain⟨fo,fs⟩:=heap_set (o':=Obj.map M J) I.hb;have X:∀ {c:Nat} {cs:Array Value} {T:TypeId} {ff:Nat×Nat},w.heap[c]? = some (.cells cs T ff)→(w.heap.setIfInBounds O (.map M J))[c]? = some (.cells cs T ff):=fun {c cs T ff} hc=>by rw[fs c (fun e=>by rw[e,I.hb] at hc;cases hc)];exact hc
 have cj:∀ {v:Value} {d:D},aO w (bc C G1) v d→aO { w with heap:=w.heap.setIfInBounds O (.map M J) } (bc C G') v d:=fun hd=>hd.mono fun b o u hu hp=>hle.cell b o u hu hp;have cl:∀ {v:Value} {d:D},aO w (bc C G) v d→aO { w with heap:=w.heap.setIfInBounds O (.map M J) } (bc C G') v d:=fun hd=>cj (hd.mono fun b o u hu hp=>⟨hu,fun hK=>hp (c7 b o hK)⟩);have a8:∀ lim,(c,lim)∉N:=fun lim hm=>(hs.sub g O N c lim aj hm).2.1 gb a6;have ei:∀ (a':α) (x':List D),(a',some x')∈l→(ps (kf a'),0)∈N:=fun a' x' hm=>by
  obtain⟨i,hi⟩:=List.mem_iff_getElem?.1 hm;have hL:i < me.size:=by rw[I.mi.1,I.ln];exact(List.getElem?_eq_some_iff.1 hi).1
  exact(I.at_ i me[i] a' x' (by simp[hL]) hi).2.1
 have Z:∀ (a':α) (o:Option (List D)),(a',o)∈l→kf a'≠kf a:=fun a' o hm e=>b0 (by rw[←df.inj _ _ e];exact List.mem_map.2 ⟨_,hm,rfl⟩);have ft:nX { w with heap:=w.heap.setIfInBounds O (.map M J) } (bc C G') O ((c,0)::N) kf (l++[(a,some y)]) M J (fun k=>if k=kf a then c else ps k) (l2++[(a,vx)]):=by
  refine⟨fo,e6,⟨U.1,fun i m p hm hp=>?_⟩,by simp[I.ln],fun i p q hp hq=>?_,fun a1 a2 x1 x2 q1 q2 q3=>?_,fun i mm a1 x1 cq hp=>?_⟩
  ·obtain⟨q1,q2,q3⟩:=U.2 i m p hm hp
   exact⟨q1,q2,cl q3⟩
  ·rcases Nat.lt_or_ge i l2.length with hi | hi
   ·rw[List.getElem?_append_left hi] at hp
    rw[List.getElem?_append_left (by rw[←I.ln];exact hi)] at hq;exact I.ks i p q hp hq
   ·rw[List.getElem?_append_right hi] at hp
    rw[List.getElem?_append_right (by rw[←I.ln];exact hi),←I.ln] at hq;generalize i - l2.length=j at hp hq
    cases j with
    | zero=>simp only[List.getElem?_cons_zero,Option.some.injEq] at hp hq;subst hp;subst hq;rfl
    | succ j=>simp at hp
  ·rcases List.mem_append.1 q1 with q1 | q1 <;> rcases List.mem_append.1 q2 with q2 | q2
   ·rw[if_neg (Z _ _ q1),if_neg (Z _ _ q2)] at q3
    exact I.inj a1 a2 x1 x2 q1 q2 q3
   ·simp only[List.mem_singleton,Prod.mk.injEq] at q2
    rw[if_neg (Z _ _ q1),q2.1,if_pos rfl] at q3;exact absurd (q3▸ei a1 x1 q1) (a8 0)
   ·simp only[List.mem_singleton,Prod.mk.injEq] at q1
    rw[if_neg (Z _ _ q2),q1.1,if_pos rfl] at q3;exact absurd (q3▸ei a2 x2 q2) (a8 0)
   ·simp only[List.mem_singleton,Prod.mk.injEq] at q1 q2
    rw[q1.1,q2.1]
  ·rcases Nat.lt_or_ge i l.length with hi | hi
   ·rw[List.getElem?_append_left hi] at hp
    have ad:i < l2.length:=by rw[I.ln];exact hi
    have cx:(l2++[(a,vx)])[i]? = some l2[i]:=by rw[List.getElem?_append_left ad];simp[ad]
    have ej:=I.ks i _ _ (by simp[ad]:l2[i]? = some l2[i]) hp;rcases b3 i mm _ cq cx with ⟨e,_⟩ | ⟨_,m0,e1,e2,e3⟩
    ·have hM:a1=a:=by rw[e] at ej;exact ej.symm
     exact absurd (List.mem_map.2 ⟨_,List.mem_of_getElem? hp,hM⟩) b0
    ·obtain⟨r1,r2,cur,T2,r3,r4,r5,r6⟩:=I.at_ i m0 a1 x1 e1 hp
     rw[if_neg (Z _ _ (List.mem_of_getElem? hp))];exact⟨e3▸r1,List.mem_cons_of_mem _ r2,cur,T2,X r3,r4,r5,fun j u d hu hd=>cl (r6 j u d hu hd)⟩
   ·rw[List.getElem?_append_right hi] at hp
    have ad:l2.length≤i:=by rw[I.ln];exact hi
    have en:i < (l2++[(a,vx)]).length:=by rw[←U.1];exact(Array.getElem?_eq_some_iff.1 cq).1
    have e0:i=l.length:=by rw[List.length_append,I.ln] at en;simp at en;omega
    subst e0;simp only[Nat.sub_self,List.getElem?_cons_zero,Option.some.injEq,Prod.mk.injEq] at hp;obtain⟨rfl,rfl⟩:=hp;have cx:(l2++[(a,vx)])[l.length]? = some (a,vx):=by rw[List.getElem?_append_right ad,I.ln];simp
    rw[if_pos rfl];refine⟨?_,List.mem_cons_self,cs,T1,X c1,c2,c3,fun j u d hu hd=>cj (c4 j u d hu hd)⟩;rcases b3 _ mm _ cq cx with ⟨_,e2⟩ | ⟨e,_⟩
    ·rw[e2,ed]
    ·exact absurd rfl e
 refine gC h0 ⟨_,⟨G',?_⟩,h⟩;have:=hH.set (d:=s) (Nat.le_of_ble_eq_true gj) (v:=.map (some O)) (a:=.mq (gen+1) (iA kf (l++[(a,some y)]))) (.mq _ _ _ (by simp[aA]) rfl (fun r hr=>by have:G'.own (gen+1)=some r:=hr;rw[hG] at this;cases this;exact ft.to));rwa [gW ho] at this
end
end Go.Ab
namespace Go.Ab
open Go.RowKit Go.MapKept
theorem BE {α β:Type} [DecidableEq α] {l:List (α×β)} {i:Nat} {a:α} {v:β} (I:(l.map (·.1)).Nodup) (h:l[i]? = some (a,v)):bT l a=some v:=by
 induction l generalizing i with
 | nil=>simp at h
 | cons p r J=>
   rw[List.map_cons,List.nodup_cons] at I;rw[gr]
   cases i with
   | zero=>simp only[List.getElem?_cons_zero,Option.some.injEq] at h;subst h;rw[if_pos rfl]
   | succ i=>simp only[List.getElem?_cons_succ] at h;have:p.1≠a:=fun e=>I.1 (by rw[e];exact List.mem_map.2 ⟨_,List.mem_of_getElem? h,rfl⟩);rw[if_neg this];exact J I.2 h
section
variable {P:Program} (T:bF P) {C:Ctx} {n:Nat} {ops:Array Oper} {Q:Exit→St→Prop} {rest:List Oper}
variable {f f':List (Nat×A)} {bx bx':List (Nat×List A)} {lv:List Nat} {gen:Nat} {d:Nat} {ty:TypeId} {pos:String} {af:Array Edge} {dst:Option Nat} {c:Code}
variable {α:Type} [DecidableEq α] {kf:α→Value}
theorem Cc (s i:Nat) {mt k e:Nat} {td ed:bM} {m kx:Operand} {g:Nat} {l:List (α×Option (List D))} {a:α} {y:List D} {zx:Value} (hd:Nat.blt d n=true) (hm:av f m=some (.mq g (iA kf l))) (hl:look f s=some (.mq g (iA kf l))) (hk:av f kx=some (.d (.v (kf a)))) (hy:Nat.blt 0 y.length=true)
 (ht:ah T.l mt=some td) (e4:td.k=.map k e) (he:ah T.l e=some ed) (b3:iS P k kf) (ch:(lv.any fun h=>Nat.beq h g)=true) (e5:ed.z=[zx]) (e6:lG ed.k=true) (ff:cu zx=true) (fj:Nat.blt s n=true) (hn:(l.map (·.1)).Nodup) (hi:l[i]? = some (a,some y))
 {cj:List (Value×Option (List D))} (fo:iA kf (l.set i (a,none))=cj) {lv':List Nat} (fs:gen::br lv g=lv')
 (h:WO P C n ops Q rest ⟨(d,.tup [.ptr (gen+2) 0,.d (.v (.bool true))])::(s,.mq gen cj)::f,(gen+2,y.map .d)::bx,lv',gen+3⟩):WO P C n ops Q (⟨some d,.lookup mt m kx true,ty,pos,af,none⟩::rest) ⟨f,bx,lv,gen⟩:=by
 subst fo;subst fs;refine WO.step (st:=⟨f,bx,lv,gen⟩) rfl fun tmps w ⟨G,hs⟩=>?_;have cl:=hs.av hm;have U:=hs.av hk;obtain⟨vs,ft,gb⟩:=hs.frame s _ hl;generalize hv:Act.eval ⟨tmps,[]⟩ m=v at cl;generalize gi:Act.eval ⟨tmps,[]⟩ kx=vk at U;obtain⟨b,bs,O,clock,ps,l2,cq,rfl,I⟩:=hs.yf cl (cQ ch);obtain⟨b2,ad,_,_,_,_,ei,rfl,_⟩:=hs.yf gb (cQ ch);obtain⟨rfl,rfl⟩:b2=b∧ad=bs:=by have:=ei.symm.trans cq;simpa using this
 cases U with | d U=>cases U with | v _ hok=>
 have ej:=Nat.le_of_ble_eq_true hy;have X:l2.map (·.1)=l.map (·.1):=by
  refine List.ext_getElem? fun i=>?_;rw[List.getElem?_map,List.getElem?_map];rcases Nat.lt_or_ge i l2.length with hi | hi
  ·have h1:l2[i]? = some l2[i]:=by simp[hi]
   have gj:i < l.length:=by rw[←I.ln];exact hi
   have h2:l[i]? = some l[i]:=by simp[gj]
   rw[h1,h2];simp only[Option.map_some,I.ks i _ _ h1 h2]
  ·rw[List.getElem?_eq_none hi,List.getElem?_eq_none (by rw[←I.ln];exact hi)]
   rfl
 have gq:=(List.getElem?_eq_some_iff.1 hi).1;have ai:i < l2.length:=by rw[I.ln];exact gq
 have en:i < O.size:=by rw[I.mi.1];exact ai
 have aj:O[i]? = some O[i]:=by simp[en]
 have N:l2[i]? = some l2[i]:=by simp[ai]
 obtain⟨r1,r2,cur,T1,r3,r4,r5,r6⟩:=I.at_ i O[i] a y aj hi;obtain⟨q1,q2,q3⟩:=I.mi.2 i O[i] l2[i] aj N;have cx:l2[i].1=a:=I.ks i _ _ N hi;have e0:l2[i].2=.pointer (some ⟨ps (kf a),0,none⟩):=by rw[←r1];generalize O[i].val=z at q3;generalize l2[i].2=z2 at q3;cases q3;rfl
 have e1:bT l2 a=some (.pointer (some ⟨ps (kf a),0,none⟩)):=BE (i:=i) (by rw[X];exact hn) (by rw[N,←e0,←cx]);obtain⟨u,h1,h2⟩:=rI (P:=P) (vf:=D.v) (z:=zx) T ht e4 he b3 e5 e6 (.v _ ff) I.hb I.mi (by rw[X];exact hn) a true;rw[e1] at h1 h2;simp only[Option.getD_some] at h2;have hu:u=.pointer (some ⟨ps (kf a),0,none⟩):=by cases h2;rfl
 subst hu;generalize ha:ps (kf a)=c at *;have h0:(execOp (Act.eval ⟨tmps,[]⟩) ⟨some d,.lookup mt m kx true,ty,pos,af,none⟩).run P w=.ok (.value (.tuple #[.pointer (some ⟨c,0,none⟩),.bool true])) w:=by unfold execOp;show Sem.run P _ w=.ok _ _;simp only[hv,gi,Sem.run_bind,h1,Result.andThen_ok,Sem.run_pure];rfl
 obtain⟨G1,hH,hc,hf,hle,hg⟩:=hs.split cq (bs':=ad.filter fun q=>!Nat.beq q.1 c) (fun q J=>(List.mem_filter.1 J).1) (.blk c 1 1 y.length 0) (fun _ _ h=>by cases h) (fun c' len cap sz hI h=>by simp only[Row.blk.injEq] at h;obtain⟨rfl,rfl,rfl,rfl,rfl⟩:=h;exact⟨r2,fun q J e=>by have:=(List.mem_filter.1 J).2;rw[e] at this;simp at this,cur,T1,r3,by rw[r4];simp,Nat.le_refl _,by simp[maxLen],ej,by decide,Nat.zero_le _,r5⟩) (br lv g) (fun Z M=>cP M);have a6:∀ {a':α} {x:List D},(a',some x)∈l.set i (a,none)→(a',some x)∈l∧a'≠a:=fun {a' x} hm=>by
  obtain⟨j,hj⟩:=List.mem_iff_getElem?.1 hm;rw[List.getElem?_set] at hj;split at hj;·simp at hj
  ·rename_i hh
   refine⟨List.mem_of_getElem? hj,fun e=>hh ?_⟩;have cy:=List.pairwise_iff_getElem.1 hn;have h6:(l.map (·.1))[i]? = some a:=by simp[hi]
   have h7:(l.map (·.1))[j]? = some a:=by simp[hj,e]
   obtain⟨c1,c6⟩:=List.getElem?_eq_some_iff.1 h6;obtain⟨c7,df⟩:=List.getElem?_eq_some_iff.1 h7;rcases Nat.lt_trichotomy i j with ho | heq | hz
   ·exact absurd (c6.trans df.symm) (cy i j c1 c7 ho)
   ·exact heq
   ·exact absurd (df.trans c6.symm) (cy j i c7 c1 hz)
 have e2:nX w (bc C G1) b2 (ad.filter fun q=>!Nat.beq q.1 c) kf (l.set i (a,none)) O clock ps l2:=by
  refine⟨I.hb,I.st,I.mi.mono fun b o u hu hp=>hle.cell b o u hu hp,by rw[I.ln];simp,fun j p q hp J=>?_,fun a1 a2 x1 x2 m1 m2 m3=>I.inj a1 a2 x1 x2 (a6 m1).1 (a6 m2).1 m3,fun j mm a1 x1 hA hp=>?_⟩
  ·rw[List.getElem?_set] at J
   split at J
   ·rename_i e
    subst e;simp only[Option.some.injEq] at J;subst J;rw[N] at hp;cases hp;exact cx
   ·exact I.ks j p q hp J
  ·have di:=a6 (List.mem_of_getElem? hp)
   have hD:l[j]? = some (a1,some x1):=by
    rw[List.getElem?_set] at hp;split at hp;·simp at hp
    ·exact hp
   obtain⟨t1,t2,e3,T2,t3,t4,t5,t6⟩:=I.at_ j mm a1 x1 hA hD;refine⟨t1,List.mem_filter.2 ⟨t2,?_⟩,e3,T2,t3,t4,t5,fun j u d hu hd=>(t6 j u d hu hd).mono fun b o u hu hp=>hle.cell b o u hu hp⟩
   cases J:Nat.beq (ps (kf a1)) c with
   | false=>rfl
   | true=>have e:=Nat.eq_of_beq_eq_true J;exact absurd (b3.inj _ _ (I.inj a1 a x1 y di.1 (List.mem_of_getElem? hi) (by rw[e,ha]))) di.2
 have dj:=hg.set (d:=s) (Nat.le_of_ble_eq_true fj) (v:=.map (some b2)) (a:=.mq gen (iA kf (l.set i (a,none)))) (.mq _ _ _ (by simp[aA]) rfl (fun r hr=>by have:G1.own gen=some r:=hr;rw[hc] at this;cases this;exact e2.to));rw[gW ft] at dj;have a7:∀ Z∈gen::br lv g,Z∈gen::(gen+1)::br lv g∧Z≠gen+1:=fun Z M=>by
  rcases List.mem_cons.1 M with rfl | M
  ·exact⟨List.mem_cons_self,by omega⟩
  ·obtain⟨t1,t2⟩:=cP M
   obtain⟨r,hr⟩:=hs.live Z t1;have:=hs.gown Z r hr;simp only at this;exact⟨List.mem_cons_of_mem _ (List.mem_cons_of_mem _ M),by omega⟩
 obtain⟨G2,dt,hE⟩:=dj.FM (g:=gen+1) (b:=c) (len:=1) (cap:=1) (sz:=y.length) hf (es:=[y]) (v:=.slice (some ⟨c,0,none⟩) 1 1) ⟨rfl,rfl,rfl,by simp,fun i j e d he hd=>by
  cases i with
  | zero=>
    simp only[List.getElem?_cons_zero,Option.some.injEq] at he;subst he;have hF:j < cur.size:=by rw[r4];exact(List.getElem?_eq_some_iff.1 hd).1
    have dx:cur[j]? = some cur[j]:=by simp[hF]
    refine⟨cur[j],?_,(r6 j _ d dx hd).mono fun b o u hu hp=>hle.cell b o u hu hp⟩;rw[Nat.zero_mul,Nat.zero_add,bH r3,dx]
  | succ i=>simp at he⟩ (gen::br lv g) a7
 have hG:vH [y] (1*y.length - 1*y.length)=y.map .d:=by simp[vH]
 rw[hG] at dt;refine bZ h0 ⟨_,⟨G2,dt.put (dst:=some d) (bX (dst:=some d) hd) (.tup _ _ rfl (fun j u x hu hx=>?_))⟩,h⟩
 match j with
 | 0=>
   simp at hu hx;subst hu;subst hx
   cases hE with
   | sb _ _ _ _ b0 hK a8 hL hp=>
   simp only[Value.slice.injEq,Option.some.injEq,Addr.mk.injEq] at hp;refine .ptr _ _ _ c (by show gen+2 < gen+3;omega) ?_ rfl;have a8:G2.box (gen+2)=some b0:=a8;show G2.box (gen+2)=some c;rw[a8,hp.1.1]
 | 1=>simp at hu hx;subst hu;subst hx;exact .d (.v _ rfl)
 | j+2=>simp at hx
end
end Go.Ab
namespace Go.Tb
open Go.Ab
structure cf where
 id:Int
 name:ByteArray
deriving DecidableEq
@[reducible] def cf.c (t:cf):List D:=[ci t.id,cs t.name,ci 0]
def eQ (p:Int×Int):List D:=[ci p.1,ci p.2]
def dS:List (Int×Int):=[(0,0)]
@[reducible] def mA (ts:List cf):List D:=[.sl (ts.map cf.c),.sl (dS.map eQ),.sl []]
def Gl (ts:List cf):Prop:=(∀ t∈ts,0≤t.id∧t.id≤1000000000000000∧bE t.name=0)∧(ts.map cf.id).Nodup
structure bl where
 thread:Int
 serial:Int
 lost:Int
 evs:List Ev
@[reducible] def bl.c (p:bl):List D:=[ci p.thread,ci p.serial,ci p.lost,.sl (p.evs.map Ev.c)]
theorem rJ {α β:Type} {f:α→β} {l:List α} (h:(l.map f).Nodup) (k:Nat):((l.take k).map f).Nodup:=by rw[List.map_take];exact h.sublist (List.take_sublist _ _)
theorem mU {α β:Type} {f:α→β} {l:List α} (h:(l.map f).Nodup) {k:Nat} {x:α} (X:l[k]? = some x):f x∉(l.take k).map f:=by
 intro hm;obtain⟨y,Z,e⟩:=List.mem_map.1 hm;obtain⟨i,hi⟩:=List.mem_iff_getElem?.1 Z;have I:i < k:=by have:=(List.getElem?_eq_some_iff.1 hi).1;simp at this;omega
 rw[List.getElem?_take_of_lt I] at hi;have J:=List.pairwise_iff_getElem.1 h;have h6:(l.map f)[i]? = some (f y):=by simp[hi]
 have h7:(l.map f)[k]? = some (f x):=by simp[X]
 obtain⟨M,N⟩:=List.getElem?_eq_some_iff.1 h6;obtain⟨O,U⟩:=List.getElem?_eq_some_iff.1 h7;exact J i k M O I (by rw[N,U,e])
abbrev zk (b:Bool):D:=.v (.bool b)
def iK {α:Type} (l:List (α)) (f:α→Int):List (Int×Bool):=l.map fun t=>(f t,true)
theorem nt {α:Type} (l:List α) (f:α→Int):(iK l f).map (·.1)=l.map f:=by unfold iK;rw[List.map_map];rfl
end Go.Tb
namespace Go.Tb
open Go.Ab
@[reducible] def z2:List D:=[ci 0,ci 0]
def tq (ids:List Int) (k:Nat):List (Int×Option (List D)):=(ids.take k).map (fun a=>(a,none))++(ids.drop k).map (fun a=>(a,some z2))
def oT (ids:List Int) (k:Nat):List (Int×Option (List D)):=(ids.take k).map (fun a=>(a,some z2))
theorem uT (ids:List Int) (k:Nat):(oT ids k).map (·.1)=ids.take k:=by unfold oT;rw[List.map_map];exact List.map_id _
theorem B6 {ids:List Int} {k:Nat} {a:Int} (h:ids[k]? = some a):oT ids k++[(a,some z2)]=oT ids (k+1):=by unfold oT;rw[List.take_add_one,h,List.map_append];rfl
theorem Da {ids:List Int} {k:Nat} (h:k=ids.length):oT ids k=tq ids 0:=by subst h;unfold oT tq;rw[List.take_length,List.take_zero,List.drop_zero];rfl
theorem oA {l:List Int} (h:l.Nodup) {k:Nat} {x:Int} (I:l[k]? = some x):x∉l.take k:=by have:=mU (f:=id) (by rw[List.map_id];exact h) I;rwa [List.map_id] at this
end Go.Tb
namespace Go.Ab
open Go.RowKit
section
variable {P:Program} {C:Ctx} {n:Nat} {f:List (Nat×A)} {bx:List (Nat×List A)} {lv:List Nat} {gen:Nat} {ty:TypeId} {pos:String} {af:Array Edge} {dst:Option Nat}
theorem yU {x:Operand} {g j off:Nat} {l:List D} (X:av f x=some (.xp g j off l)) (N:(lv.any fun h=>Nat.beq h g)=true) :
 Pu P C n ⟨f,bx,lv,gen⟩ ⟨dst,.nilCheck x,ty,pos,af,none⟩ (.xp g j off l):=by
 refine dG.pu fun G tmps w hs=>?_;have J:=hs.av X;obtain⟨r,O⟩:=hs.live g (cQ N);generalize Z:Act.eval ⟨tmps,[]⟩ x=v at J;have U:=J
 cases J with
 | xp _ _ _ _ _ ad h1 M=>
 have I:=M r O
 cases r with
 | nil=>exact I.elim
 | zero b=>exact I.elim
 | mp b bs=>exact I.elim
 | blk b len cap sz ai=>obtain⟨rfl,h2,h3,h4⟩:=I;refine⟨.pointer (some ⟨b,j*sz+off,none⟩),?_,U⟩;unfold execOp;show Sem.run P _ w=.ok _ w;simp only[Z,Sem.run_bind,Result.andThen_ok,Sem.run_pure]
end
end Go.Ab
namespace Go.Tb
open Go.Ab
def CM (l:List Ev):Nat→List Ev | 0=>l | _=>[]
def Gq (l:List Ev):Nat→D | 0=>.v (.slice none 0 0) | _=>.sl (l.map Ev.c)
def yR (last:Option Int) (t:Int):Bool:=match last with | some u=>decide (t < u) | none=>false
def iO:List Ev→Option Int→Int
 | [],_=>0
 | e::r,last=>if ct e≠0 then ct e else if yR last e.time=true then 11 else iO r (some e.time)
def eT:List bl→Int
 | []=>0
 | p::r=>if iO p.evs none≠0 then iO p.evs none else eT r
structure iV where
 ts:List cf
 ds:List (Int×Int)
 ps:List bl
@[reducible] def iV.c (l:iV):List D:=[.sl (l.ts.map cf.c),.sl (l.ds.map eQ),.sl [],.sl (l.ps.map bl.c)]
def jD:iV:=⟨[],[],[]⟩
end Go.Tb
namespace Go.Tb
open Go.Ab
structure GY where
 l:iV
 n:Nat
 e:Int
/-! what a line that is accepted holds -/
/-! the events thread by thread -/
def xM (x:tO):Prop:=x.2.map (·.1)=x.1∧x.1.Nodup∧∀ p∈x.2,p.2≠[]
theorem Cq {l:List (Int×List Ev)} {a:Int} {y:List Ev} {p:Int×List Ev} (hp:p∈cH l a y):p=(a,y)∨p∈l:=by
 induction l with
 | nil=>simp[cH] at hp;exact .inl hp
 | cons q r I=>
   simp only[cH] at hp;split at hp
   ·rcases List.mem_cons.1 hp with h | h
    ·exact .inl h
    ·exact .inr (List.mem_cons_of_mem _ h)
   ·rcases List.mem_cons.1 hp with h | h
    ·exact .inr (h▸List.mem_cons_self)
    ·exact(I h).imp id (List.mem_cons_of_mem _)
theorem A7 {l:List (Int×List Ev)} {a:Int} {y:List Ev}:(cH l a y).map (·.1)=if a∈l.map (·.1) then l.map (·.1) else l.map (·.1)++[a]:=by
 induction l with
 | nil=>simp[cH]
 | cons p r I=>
   simp only[cH];by_cases h:p.1=a
   ·rw[if_pos h,if_pos (by simp[h])]
    simp[h]
   ·rw[if_neg h,List.map_cons,I]
    by_cases q:a∈r.map (·.1);·rw[if_pos q,if_pos (by rw[List.map_cons];exact List.mem_cons_of_mem _ q)];rfl
    ·rw[if_neg q,if_neg (by rw[List.map_cons,List.mem_cons];rintro(e | e);exact h e.symm;exact q e)];rfl
theorem yh {l:List (Int×List Ev)} (h:∀ p∈l,p.2≠[]) (a:Int):(bT l a).getD []=[]↔a∉l.map (·.1):=by
 induction l with
 | nil=>simp[qy]
 | cons p r I=>
   rw[gr,List.map_cons,List.mem_cons];by_cases q:p.1=a
   ·rw[if_pos q]
    have:=h p List.mem_cons_self;simp[this,q]
   ·rw[if_neg q,I (fun p hp=>h p (List.mem_cons_of_mem _ hp))]
    constructor
    ·rintro h1 (e | e)
     ·exact q e.symm
     ·exact h1 e
    ·exact fun h1 e=>h1 (.inr e)
theorem xM.add {x:tO} (h:xM x) (I:Int) (e:Ev):xM (yC x I e):=by
 obtain⟨h1,h2,h3⟩:=h;unfold yC;split;·exact⟨h1,h2,h3⟩
 ·have hm:=yh h3 I
  refine⟨?_,?_,fun p hp=>?_⟩
  ·simp only
   rw[A7,h1];by_cases q:(bT x.2 I).getD []=[];·rw[if_neg (by rw[←h1];exact hm.1 q),if_pos q]
   ·rw[if_pos (Decidable.byContradiction fun q2=>q (hm.2 (by rw[h1];exact q2))),if_neg q]
  ·simp only
   split
   ·rename_i q
    have:=hm.1 q;rw[h1] at this;rw[List.nodup_append];exact⟨h2,by simp,fun a J b hb=>by simp at hb;subst hb;rintro rfl;exact this J⟩
   ·exact h2
  ·rcases Cq hp with rfl | hp
   ·simp
   ·exact h3 p hp
def jL (m:List (Int×List Ev)):Nat:=(m.map fun p=>p.2.length).sum
end Go.Tb
namespace Go.Tb
open Go.Ab
structure fk where
 ids:List Int
 names:List (Int×ByteArray)
 evs:List (Int×List Ev)
def eb (ids:List Int) (id:Int):List Int:=if (ids.any fun x=>decide (id=x))=true then ids else ids++[id]
def FH (x:fk) (id:Int) (e:Ev):fk:=⟨eb x.ids id,x.names,cH x.evs id ((bT x.evs id).getD []++[e])⟩
def EN (x:fk) (id:Int) (name:ByteArray):fk:=⟨eb x.ids id,cH x.names id name,x.evs⟩
def tV:List ByteArray:=[dz,bP,bk]
def dN (x:fk) (j:JV):fk×Int:=
 if bD j (bO j)=true then (x,10)
 else if (aY j dz 4).s≠pM then (if (bo j).2.2=0 then (FH x (bo j).1 (bo j).2.1,0) else (x,(bo j).2.2))
 else if (bif (bD j (bO j) || cw j bk 4) then true else !gN j tV)=true then (x,10)
 else if bE (aY j bk 4).s≠0 then (x,bE (aY j bk 4).s)
 else if (bT x.names (aY j bP 3).n).getD bq≠bq then (x,4)
 else (EN x (aY j bP 3).n (aY j bk 4).s,0)
def sR (n:Nat) (x:fk):Prop:=(x.names.map (·.1)).Nodup∧(x.evs.map (·.1)).Nodup∧x.ids.length≤n∧∀ p∈x.evs,p.2.length≤n
end Go.Tb
