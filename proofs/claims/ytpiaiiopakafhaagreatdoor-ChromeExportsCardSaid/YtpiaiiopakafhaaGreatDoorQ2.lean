import Derived.Test.YtpiaiiopakafhaaGreatDoorQ1
import Derived.Laws.Cover3
import Derived.Lib.Bytealg
import Derived.Laws.Externs
import Derived.Lib.LaidTab
import Derived.Lib.SmallJoins
import Derived.Lib.AppendIntMem
import Derived.MapKept
import Derived.Laws.Slices
namespace Go.Ab
open Go.RowKit
variable {w w':World}{tmps:Array Value}{pv:Nat→Nat→Prop}{x y:Operand}{t g i k e m j id b off gen d gen' clock sz J mt g2 t' cap d0:Nat}{P:Program}{Q':Exit→Act→World→Prop}{lv' lv gs order os:List Nat}{bs:List (Nat×Nat)}{parts:Array (Nat×Operand)}{fid:FuncId}{xs:Array Operand}{o:Oper}{fn:Func}{dst:Option Nat}{ops:Array Oper}{α ι H β:Type}{hole:Option Value}{R:Value→World→Prop}{want:Bool}{listed:Array Bool}{T ty:TypeId}{l1 l2:List Oper}{ids:List Int}{act:Act}
variable {es es2:List (List D)}{f:List (Nat×A)}{G:Gh}{a a':A}{st st':St}{l:List D}{args cells cq' caps cq cells' X:List A}{E E':En}{Q:Exit→St→Prop}{b1 I:List (List A)}{C:Ctx}
variable {rs:List RV}
variable {td ed:cV}
def fu:Nat->List (List A)->List (Nat×List A)
 |_,[]=>[]
 |k,c::r=>(k,c)::fu (k+1) r
theorem oz:∀(l:List (List A))(k g:Nat)(c:List A),bh (fu k l) g=some c->k<=g∧l[g-k]?=some c
 |[],_,_,_,h=>by simp[fu,bh]at h
 |b::l,k,g,c,h=>by
   simp only[fu,cZ]at h;split at h;·grind
   ·rename_i e
    obtain⟨h1,h2⟩:=oz l (k+1) g c h;grind
theorem zE:∀(l:List (List A))(k i:Nat)(c:List A),l[i]?=some c->bh (fu k l) (k+i)=some c
 |[],_,_,_,h=>by simp at h
 |b::l,k,i,c,h=>by
   simp only[fu,cZ]
   cases i with
   |zero=>simpa using h
   |succ i=>rw[if_neg (by omega)];have:=zE l (k+1) i c (by simpa using h);grind
structure cU(P:Program)[dw P](f:FuncId)(args:List A)(b0:List (List A))(m:Nat)(r:A)(b1:List (List A))(k:Nat):Prop where
 ok:kB P f
 len:b1.length=b0.length
 calls:∀(C:Ctx)(G:Gh)(vals:Array Value)(w:World),GC P C->C.w0=w->C.bx.length=b0.length->C.ds=[]->(m=0->∀b,C.fp b->∃i:Nat,C.bx[i]?=some b)->
  bq C 0 ⟨[],fu 0 b0,(List.range m).map (b0.length+·),b0.length+m⟩ G #[] w->vals.size=args.length->
  (∀(i:Nat)(u:Value)(a:A),vals[i]?=some u->args[i]?=some a->bK (bu C G (b0.length+m) w) u a)->
  Calls P f vals w fun e w'=>∃v G',e=.returned v∧bq C 0 ⟨[],fu 0 b1,(List.range k).map (b0.length+·),b0.length+k⟩ G' #[] w'∧bK (bu C G' (b0.length+k) w') v r
theorem bq.w5{n bx}{I:Array Value}(h:bq C n ⟨[],bx,lv,gen⟩ G tmps w)(hs:I.size=J):
 bq C J ⟨[],bx,lv,gen⟩ G I w:=
 {h with size:=hs,frame:=fun t a M=>by simp[look]at M}
section
variable(T:cG P)
def fa(I:Nat)(order:List Nat):List Nat:=List.range I++order
def dr(rs:List RV)(r:A)(b1:List (List A))(k:Nat):Exit->St->Prop:=fun e st=>
 (match e with|.normal=>True|.ret=>True|_=>False)∧∃l order,lP T st.f st.bx rs=some l∧cT (fa b1.length order) (bM l)=r∧order.length=k∧nodupB (fa b1.length order)=true∧(∀g∈order,g∈st.lv)∧
  ∀(i:Nat)(c:List A),b1[i]?=some c->∃c0,bh st.bx i=some c0∧iF (fa b1.length order) c0=c
theorem cU.x8[dw P]{f c n}{J:List (List A)}{r}(hf:P.funcs[f]?=some fn)(X:(fn.name== "runtime.NumGoroutine")=false)(hb:fn.body=some c)(hn:fn.ntmps=n)(hr:fn.results=(rs.map RV.var).toArray)(hlen:Nat.ble args.length n=true)(M:b1.length=J.length)(h:∀C,NB C J.length->GC P C->(m=0->∀b,C.fp b->∃i:Nat,C.bx[i]?=some b)->(∀i b:Nat,C.bx[i]?=some b->b<C.w0.heap.size)->W P C n c (dr T rs r b1 k) ⟨iX 0 args,fu 0 J,(List.range m).map (J.length+·),J.length+m⟩):cU P f args J m r b1 k:=by
 have hlen:=κ hlen;refine⟨⟨fn,hf,X,by rw[hb];rfl⟩,M,fun C G I w hG hw ad O a6 hs cq a1=>?_⟩;subst hw;refine calls_of_wp hf hb (wp_mono (ru O (h C ⟨ad⟩ hG a6 (fun i b hb=>(hs.gbox i b (hs.lent i b hb)).2.1) (I++Array.replicate (fn.ntmps-I.size) undef) C.w0 ⟨G,?_⟩)) ?_)
 ·refine{hs with size:=by simp[hn];omega,frame:=fun t a ha=>?_}
  obtain⟨_,h1⟩:=gX args 0 t a ha;have h2:t<args.length:=(δ.1 (by simpa using h1)).1;have h3:t<I.size:=by omega
  have h4:I[t]?=some I[t]:=by simp[h3]
  exact⟨I[t],by rw[Array.getElem?_append_left h3];exact h4,a1 t _ a h4 (by simpa using h1)⟩
 ·rintro e ⟨tmps,df⟩ w' ⟨hd,st,⟨G,hs⟩,he,l,order,hl,a7,a8,b2,b3,b4⟩
  have cl:(fa b1.length order).length=J.length+k:=by simp[fa,a8,M]
  have U:∀i,i<C.bx.length->(fa b1.length order)[i]?=some i:=fun i hi=>by unfold fa;rw[Ω (by simp;omega),List.getElem?_range (by omega)]
  have N:∃v,(results fn tmps).run P w'=.ok v w'∧∃ai G',Ending.returned v=.returned ai∧bq C 0 ⟨[],fu 0 b1,(List.range k).map (J.length+·),J.length+k⟩ G' #[] w'∧bK (bu C G' (J.length+k) w') ai r:=by
   obtain⟨vs,b5,b6,ch⟩:=kW T hs rs l hl;refine⟨_,iq hr b5,_,om (fa b1.length order) G,rfl,?_,?_⟩
   ·refine bq.w5 (hs.cT (f':=[]) (bx':=fu 0 b1) (lv':=(List.range k).map (J.length+·)) (gen':=J.length+k) (fa b1.length order) (eX b2) (by omega) U (fun t a ha=>by simp[look]at ha) (fun i c hc=>?_) (fun i hi=>?_)) Z
    ·obtain⟨_,h1⟩:=oz b1 0 i c hc
     simp only[Nat.sub_zero]at h1;obtain⟨c0,h2,h3⟩:=b4 i c h1;have cj:i<b1.length:=(δ.1 h1).1;exact⟨i,c0,U i (by rw[ad,←M];exact cj),h2,by rw[<-iw];exact h3⟩
    ·obtain⟨j,hj,rfl⟩:=R'.1 hi
     have hj:j<k:=by simpa using hj
     have aj:j<order.length:=by omega
     refine⟨order[j],?_,b3 _ (List.getElem_mem aj)⟩;unfold fa;rw[Θ (by simp;omega)];simp[M,aj]
   ·rw[<-a7]
    refine bK.cT (gen:=st.gen) (by omega) (l7 b6 ch)
  cases e with
  |normal=>exact⟨hd.trans O,N⟩
  |ret=>exact⟨hd.trans O,N⟩
  |exit _=>exact he.elim
  |goto _=>exact he.elim
  |panic _=>exact he.elim
  |outgrown=>exact he.elim
theorem cU.dY[dw P]{f c n r}(N:P.funcs[f]?=some fn)(J:(fn.name== "runtime.NumGoroutine")=false)(hb:fn.body=some c)(O:fn.ntmps=n)(U:fn.results=(rs.map RV.var).toArray)(hlen:Nat.ble args.length n=true)(M:b1.length=I.length)(h:∀C,NB C I.length->GC P C->W P C n c (dr T rs r b1 k) ⟨iX 0 args,fu 0 I,(List.range m).map (I.length+·),I.length+m⟩):cU P f args I m r b1 k:=
 cU.x8 T N J hb O U hlen M fun C hC X _ _=>h C hC X
theorem dr.ret{r e l}(order:List Nat)(he:match e with|.normal=>True|.ret=>True|_=>False)(hl:lP T st.f st.bx rs=some l)(M:order.length=k)(I:nodupB (fa b1.length order)=true)(J:(order.all fun g=>st.lv.any fun h=>Nat.beq h g)=true)(hb:∀(i:Nat)(c:List A),b1[i]?=some c->∃c0,bh st.bx i=some c0∧iF (fa b1.length order) c0=c)(N:cT (fa b1.length order) (bM l)=r):dr T rs r b1 k e st:=
 ⟨he,l,order,hl,N,M,I,fun g O=>by obtain⟨x,U,he⟩:=F'.1 (I'.1 J g O);exact Γ he▸U,hb⟩
end
/-! the caller's side -/
def eI(bx:List (Nat×List A))(gs os:List Nat):Nat->A->A
 |0,_=>.any
 |_+1,.d x=>.d x
 |_+1,.ag l=>.ag l
 |_+1,.own g es=>match pos os g with
   |some i=>.own (gs.length+i) es
   |none=>.d (.sl es)
 |k+1,.agg l=>my (l.map (eI bx gs os k))
 |_+1,.tup _=>.any
 |_+1,.rowd l=>.rowd l
 |k+1,.row l=>.row (l.map (eI bx gs os k))
 |k+1,.ptr g off=>match pos gs g with
   |some i=>.ptr i off
   |none=>match bh bx g with
     |some cells=>.row ((cells.drop off).map (eI bx gs os k))
     |none=>.any
 |_+1,.xs g es=>match pos os g with
   |some i=>.xs (gs.length+i) es
   |none=>.any
 |_+1,.xp _ _ _ _=>.any
 |_+1,.mp g es=>match pos os g with
   |some i=>.mp (gs.length+i) es
   |none=>.any
 |_+1,.gi g I=>match pos os g with
   |some i=>.gi (gs.length+i) I
   |none=>.any
 |_+1,.mq g es=>match pos os g with
   |some i=>.mq (gs.length+i) es
   |none=>.any
 |_+1,.mo g es h J=>match pos os g with
   |some i=>.mo (gs.length+i) es h J
   |none=>.any
 |k+1,.clo f l=>.clo f (l.map (eI bx gs os k))
 |k+1,.bnd f l=>.bnd f (l.map (eI bx gs os k))
 |_+1,.ni=>.ni
 |_+1,.fl es=>.fl es
 |_+1,.bf g T s=>match pos os g with
   |some i=>.bf (gs.length+i) T s
   |none=>.any
 |_+1,.np g T u=>match pos gs g with
   |some i=>.np i T u
   |none=>.any
 |_+1,.lk _ _ _ _=>.any
 |_+1,.fx _ _ _=>.any
 |_+1,.ol _ _ _ _=>.any
 |_+1,.ow _ _ _=>.any
 |_+1,.sb g n c=>match pos gs g with
   |some i=>.sb i n c
   |none=>.any
 |_+1,.any=>.any
def gF(bx:List (Nat×List A))(gs os:List Nat):List Nat->Option (List (List A))
 |[]=>some []
 |g::r=>match bh bx g,gF bx gs os r with
   |some c,some l=>some (c.map (eI bx gs os 5)::l)
   |_,_=>none
mutual
def back(gs:List Nat)(m:Nat):A->A
 |.own g es=>.own (g+m) es
 |.agg l=>.agg (nB gs m l)
 |.tup l=>.tup (nB gs m l)
 |.clo f l=>.clo f (nB gs m l)
 |.bnd f l=>.bnd f (nB gs m l)
 |.ptr i off=>match gs[i]?with
   |some g=>.ptr g off
   |none=>.any
 |.xs g es=>.xs (g+m) es
 |.xp g i off l=>.xp (g+m) i off l
 |.mp g es=>.mp (g+m) es
 |.gi g I=>.gi (g+m) I
 |.mq g es=>.mq (g+m) es
 |.mo g es h J=>.mo (g+m) es h J
 |.row _=>.any
 |.d x=>.d x
 |.ag l=>.ag l
 |.rowd l=>.rowd l
 |.fl es=>.fl es
 |.bf g T s=>.bf (g+m) T s
 |.np i T u=>match gs[i]?with
   |some g=>.np g T u
   |none=>.any
 |.lk _ _ _ _=>.any
 |.fx _ _ _=>.any
 |.ol _ _ _ _=>.any
 |.ow _ _ _=>.any
 |.sb i n c=>match gs[i]?with
   |some g=>.sb g n c
   |none=>.any
 |.ni=>.ni
 |.any=>.any
def nB(gs:List Nat)(m:Nat):List A->List A
 |[]=>[]
 |a::l=>back gs m a::nB gs m l
end
theorem ka(gs m):∀l:List A,nB gs m l=l.map (back gs m)
 |[]=>rfl
 |a::l=>by simp[nB,ka gs m l]
def jJ(gs:List Nat)(m:Nat):List Nat->List (List A)->List (Nat×List A)
 |g::r,c::l=>(g,nB gs m c)::jJ gs m r l
 |_,_=>[]
theorem sw:∀{r:List Nat}{l:List (List A)}{g:Nat}{c:List A},bh (jJ gs m r l) g=some c->∃(i:Nat)(c0:List A),r[i]?=some g∧l[i]?=some c0∧nB gs m c0=c
 |[],_,g,c,h=>by simp[jJ,bh]at h
 |_::_,[],g,c,h=>by simp[jJ,bh]at h
 |g0::r,c0::l,g,c,h=>by
   simp only[jJ,cZ]at h;split at h
   ·rename_i e
    subst e;simp only[Option.some.injEq]at h;exact⟨0,c0,rfl,rfl,h⟩
   ·obtain⟨i,I,h1,h2,h3⟩:=sw h
    exact⟨i+1,I,by simpa using h1,by simpa using h2,h3⟩
section
variable{n:Nat}{rest:List Oper}
def gg(G:Gh)(gs:List Nat)(b:Nat):Prop:=∃g∈gs,G.box g=some b
def fy(G:Gh)(os:List Nat)(b lim:Nat):Prop:=∃g∈os,∃r,G.own g=some r∧r.qF b lim
theorem bq.rowAt{n}(h:bq C n st G tmps w){lim}{r:Row}(X:G.own g=some r)(O:r.qF b lim):
 C.jF b lim∧(∀M,G.box M≠some b)∧b<w.heap.size∧
  (∀M N I,G.own M=some N->N.qF b I->M=g∧I=lim):=by
 have inj:∀N I,G.own g=some N->N.qF b I->(∀b1 bs,r≠.mp b1 bs)->I=lim:=by
  intro N I h1 h2 b3;rw[X]at h1;cases h1
  cases r with
  |nil=>exact O.elim
  |zero _=>exact O.elim
  |blk b1 len cap sz a8=>exact h2.2.trans O.2.symm
  |mp b1 bs=>exact absurd rfl (b3 b1 bs)
 have key:∀M N I,G.own M=some N->N.qF b I->M=g∧I=lim:=by
  intro M N I ad J
  cases r with
  |nil=>exact O.elim
  |zero _=>exact O.elim
  |blk b1 len cap sz a8=>
    obtain⟨rfl,rfl⟩:=O;obtain⟨_,_,h3,cur,T,h4,_⟩:=h.row g b1 len cap sz lim X
    cases N with
    |nil=>exact J.elim
    |zero _=>exact J.elim
    |blk b2 a1 a6 b0 a7=>have b4:=J;obtain⟨rfl,rfl⟩:=J;grind
    |mp b2 U=>
      rcases J with⟨rfl,rfl⟩|aj
      ·obtain⟨_,_,_,me,clock,h5⟩:=h.mrow M _ U ad
       grind
      ·exact absurd X ((h.sub M b2 U _ I ad aj).2.2.1 g _ _ _ _)
  |mp b1 ai=>
    rcases O with⟨rfl,rfl⟩|hm
    ·obtain⟨_,_,h3,me,clock,h4⟩:=h.mrow g _ ai X
     cases N with
     |nil=>exact J.elim
     |zero _=>exact J.elim
     |blk b2 a1 a6 b0 a7=>obtain⟨rfl,rfl⟩:=J;obtain⟨_,_,_,cur,T,h5,_⟩:=h.row M b2 _ _ _ _ ad;grind
     |mp b2 U=>
       rcases J with⟨rfl,rfl⟩|aj
       ·grind
       ·obtain⟨_,_,_,_,cur,T,h5,_⟩:=h.sub M b2 U _ I ad aj
        grind
    ·obtain⟨_,_,h3,h4,cur,T,h5,_⟩:=h.sub g b1 ai b lim X hm
     cases N with
     |nil=>exact J.elim
     |zero _=>exact J.elim
     |blk b2 a1 a6 b0 a7=>obtain⟨rfl,rfl⟩:=J;grind
     |mp b2 U=>
       rcases J with⟨rfl,rfl⟩|aj
       ·obtain⟨_,_,_,me,clock,h6⟩:=h.mrow M _ U ad
        grind
       ·grind
 cases r with
 |nil=>exact O.elim
 |zero _=>exact O.elim
 |blk b1 len cap sz a8=>obtain⟨rfl,rfl⟩:=O;obtain⟨h1,h2,h3,cur,T,h4,_⟩:=h.row g b1 len cap sz lim X;grind
 |mp b1 ai=>
   rcases O with⟨rfl,rfl⟩|hm
   ·obtain⟨h1,h2,h3,me,clock,h4⟩:=h.mrow g _ ai X
    grind
   ·obtain⟨h1,h2,_,_,cur,T,h5,_⟩:=h.sub g b1 ai b lim X hm
    grind
theorem bq.GQ{n}(h:bq C n st G tmps w){lim o}{r:Row}{u}(J:G.own g=some r)(I:r.qF b lim)(hu:cellAt w b o=some u)(hle:lim<=o):cf C G b o:=by
 cases r with
 |nil=>exact I.elim
 |zero _=>exact I.elim
 |blk b1 len cap sz M=>obtain⟨rfl,rfl⟩:=I;exact .inr (.inr (.inl ⟨g,len,cap,sz,lim,J,hle⟩))
 |mp b1 bs=>
   rcases I with⟨rfl,rfl⟩|hm
   ·obtain⟨_,_,_,N,clock,h4⟩:=h.mrow g _ bs J
    simp[cellAt,World.cell?,h4]at hu
   ·exact .inr (.inr (.inr ⟨g,b1,bs,lim,J,hm,hle⟩))
def fJ(C:Ctx)(G:Gh)(w:World)(gs os:List Nat):Ctx:=
 {w0:=w,fp:=fun b=>gg G gs b∨∃lim,fy G os b lim,x:=fun b o=>cf C G b o∧¬(gg G gs b∨∃lim,fy G os b lim),
   keep:=fun b o=>∃lim,fy G os b lim∧o<lim,bx:=gs.map fun g=>(G.box g).getD 0}
theorem qW(hm:os.length=m):m=0->∀b,(fJ C G w gs os).fp b->∃i:Nat,(fJ C G w gs os).bx[i]?=some b:=by
 rintro rfl b (⟨g,I,hb⟩|⟨lim,g,I,_⟩)
 ·obtain⟨i,hi⟩:=ψ.1 I
  exact⟨i,by show(gs.map _)[i]?=_;rw[τ,hi];simp[hb]⟩
 ·grind
def iy(G:Gh)(gs os:List Nat):Gh:=⟨fun i=>(gs[i]?).bind G.box,fun i=>if i<gs.length then none else(os[i-gs.length]?).bind G.own⟩
theorem GC.r9[dw P][hC:GC P C]{n}(hs:bq C n st G tmps w):GC P (fJ C G w gs os):=by
 obtain⟨W',N,I,J⟩:=hC.h;refine⟨W',N,Y' I hs.fr.size,fun b hb=>⟨(hs.fr.block b (ρ hb I) (J b hb).2).trans (J b hb).1,?_⟩⟩;rintro(⟨g,_,M⟩|⟨_,g,_,r,M,hr⟩)
 ·rcases(hs.gbox g b M).2.2.1 with h|h
  ·omega
  ·grind
 ·rcases(hs.rowAt M hr).1.1 with h|h
  ·omega
  ·grind
theorem BC{o}(h:cf (fJ C G w gs os) (iy G gs os) b o):cf C G b o:=by
 rcases h with h|⟨g,h⟩|⟨g,len,cap,sz,I,h,hle⟩|⟨g,J,bs,lim,h,hm,hle⟩
 ·exact h.1
 ·obtain⟨g0,_,h0⟩:=ξ.1 h
  exact Or.inr (Or.inl ⟨g0,h0⟩)
 ·simp only[iy]at h
  split at h;·grind
  ·obtain⟨g0,_,h0⟩:=ξ.1 h
   exact Or.inr (Or.inr (.inl ⟨g0,len,cap,sz,I,h0,hle⟩))
 ·simp only[iy]at h
  split at h;·grind
  ·obtain⟨g0,_,h0⟩:=ξ.1 h
   exact Or.inr (Or.inr (.inr ⟨g0,J,bs,lim,h0,hm,hle⟩))
theorem sS{o}(h:cf C G b o)(I:¬(gg G gs b∨∃lim,fy G os b lim)){J}:cf (fJ C G w gs os) J b o:=Or.inl ⟨h,I⟩
theorem bK.mc(h:bq C n st G tmps w)(gs os:List Nat)(b5:gs.length+os.length<=gen'):
 ∀(k:Nat)(v:Value)(a:A),bK (bu C G st.gen w) v a->bK (bu (fJ C G w gs os) (iy G gs os) gen' w) v (eI st.bx gs os k a):=by
 have X:∀b o u,cellAt w b o=some u->¬cf C G b o->cellAt w b o=some u∧¬cf (fJ C G w gs os) (iy G gs os) b o:=fun b o u h1 h2=>⟨h1,fun hp=>h2 (BC hp)⟩;have hold:∀b,(∃g∈gs,G.box g=some b)∨(∃lim,fy G os b lim)->C.w0.heap.size<=b∨C.fp b:=by
  rintro b (⟨g,_,hg⟩|⟨lim,g,_,r,hg,hr⟩);·exact(h.gbox g b hg).2.2.1
  ·exact(h.rowAt hg hr).1.1
 intro k
 induction k with
 |zero=>intro v a _;exact .any v
 |succ k ih=>
   intro v a hr
   have a7:∀(l:List A)(vs:Array Value),(∀(i:Nat)(u:Value)(x:A),vs[i]?=some u->l[i]?=some x->bK (bu C G st.gen w) u x)->
    ∀(i:Nat)(u:Value)(x:A),vs[i]?=some u->(l.map (eI st.bx gs os k))[i]?=some x->bK (bu (fJ C G w gs os) (iy G gs os) gen' w) u x:=by
    grind
   cases hr with
   |any=>exact .any _
   |d hd=>exact .d (hd.mono X)
   |ag vs l hs hd=>exact .ag vs l hs (fun i u x h1 h2=>(hd i u x h1 h2).mono X)
   |own _ g es hd _ N=>
     simp only[eI];split
     ·rename_i i hp
      have hi:=dA hp;have O:=(δ.1 hi).1;refine .own _ _ es (hd.mono X) (by simp only[bu];omega) (fun r M=>N r ?_);have J:(if gs.length+i<gs.length then none else(os[gs.length+i-gs.length]?).bind G.own)=some r:=M;rw[if_neg (by omega),Nat.add_sub_cancel_left,hi]at J;exact J
     ·exact .d (hd.mono X)
   |agg vs l hs hone hd=>exact mP (by simp[hs]) hone (a7 l vs hd)
   |tup vs l hs hd=>exact .any _
   |rowd b off l u a6 hd=>exact .rowd b off l u (fun j hj=>X _ _ _ (a6 j hj).1 (a6 j hj).2) (fun j x N=>(hd j x N).mono X)
   |row b off l u a6 hd=>
     refine .row b off _ u (fun j hj=>?_) (fun j x N=>?_)
     ·have:=a6 j (by simpa using hj)
      refine⟨this.1,⟨ea this.1,fun hl=>?_⟩,this.2.2⟩;have h1:=hold b hl;have h2:=this.2.1;simp only[bu]at h2;grind
     ·grind
   |xs _ g es aj h1 N=>
     simp only[eI];split
     ·rename_i i hp
      have hi:=dA hp;have O:=(δ.1 hi).1;refine .xs _ _ es (by simp only[bu];omega) h1 (fun r M=>?_);have J:(if gs.length+i<gs.length then none else(os[gs.length+i-gs.length]?).bind G.own)=some r:=M;rw[if_neg (by omega),Nat.add_sub_cancel_left,hi]at J;exact(N r J).ek X
     ·exact .any _
   |xp=>exact .any _
   |ni t x=>exact .ni t x
   |fl _ es hd a8=>exact .fl _ es (hd.mono X) a8
   |bf _ g T s aj h1 N=>
     simp only[eI];split
     ·rename_i i hp
      have hi:=dA hp;have O:=(δ.1 hi).1;refine .bf _ _ T s (by simp only[bu];omega) h1 (fun r M=>?_);have J:(if gs.length+i<gs.length then none else(os[gs.length+i-gs.length]?).bind G.own)=some r:=M;rw[if_neg (by omega),Nat.add_sub_cancel_left,hi]at J;exact N r J
     ·exact .any _
   |gi _ g I aj N=>
     simp only[eI];split
     ·rename_i i hp
      have hi:=dA hp;have O:=(δ.1 hi).1;refine .gi _ _ I (by simp only[bu];omega) (fun r M=>?_);have J:(if gs.length+i<gs.length then none else(os[gs.length+i-gs.length]?).bind G.own)=some r:=M;rw[if_neg (by omega),Nat.add_sub_cancel_left,hi]at J;exact(N r J).ek X
     ·exact .any _
   |mp _ g es aj h1 N=>
     simp only[eI];split
     ·rename_i i hp
      have hi:=dA hp;have O:=(δ.1 hi).1;refine .mp _ _ es (by simp only[bu];omega) h1 (fun r M=>?_);have J:(if gs.length+i<gs.length then none else(os[gs.length+i-gs.length]?).bind G.own)=some r:=M;rw[if_neg (by omega),Nat.add_sub_cancel_left,hi]at J;exact(N r J).ek X
     ·exact .any _
   |mq _ g es aj h1 N=>
     simp only[eI];split
     ·rename_i i hp
      have hi:=dA hp;have O:=(δ.1 hi).1;refine .mq _ _ es (by simp only[bu];omega) h1 (fun r M=>?_);have J:(if gs.length+i<gs.length then none else(os[gs.length+i-gs.length]?).bind G.own)=some r:=M;rw[if_neg (by omega),Nat.add_sub_cancel_left,hi]at J;exact(N r J).ek X
     ·exact .any _
   |mo _ g es hole ob aj h1 N=>
     simp only[eI];split
     ·rename_i i hp
      have hi:=dA hp;have O:=(δ.1 hi).1;refine .mo _ _ es hole ob (by simp only[bu];omega) h1 (fun r M=>?_);have J:(if gs.length+i<gs.length then none else(os[gs.length+i-gs.length]?).bind G.own)=some r:=M;rw[if_neg (by omega),Nat.add_sub_cancel_left,hi]at J;exact(N r J).ek X
     ·exact .any _
   |np _ g T b0 hg ad hT u ai=>
     simp only[eI];split
     ·rename_i i a1
      have hi:=dA a1;have O:=(δ.1 hi).1;refine .np _ i T b0 (by simp only[bu];omega) ?_ (by exact hT) u ai;show(gs[i]?).bind G.box=some b0;rw[hi];exact ad
     ·exact .any _
   |lk=>exact .any _
   |fx=>exact .any _
   |ol=>exact .any _
   |ow=>exact .any _
   |sb _ g n c b0 hg ad hn ai=>
     simp only[eI];split
     ·rename_i i a1
      have hi:=dA a1;have O:=(δ.1 hi).1;refine .sb _ i n c b0 (by simp only[bu];omega) ?_ hn ai;show(gs[i]?).bind G.box=some b0;rw[hi];exact ad
     ·exact .any _
   |ptr _ g off b0 hg ad ai=>
     have hp:=oO ad ai;simp only[eI];split
     ·rename_i i a1
      have hi:=dA a1;have O:=(δ.1 hi).1;refine .ptr _ i off b0 (by simp only[bu];omega) ?_ ai;show(gs[i]?).bind G.box=some b0;rw[hi];exact ad
     ·rename_i b6
      split
      ·rename_i cells hb
       obtain⟨b,cs,T',h1,h2,h3,h4,h5⟩:=h.box g cells hb;rw[hp b h1];refine .row b off _ (fun j=>cs[off+j]?.getD default) (fun j hj=>?_) (fun j x N=>?_)
       ·have b2:off+j<cs.size:=by simp at hj;omega
        have e:cs[off+j]?=some cs[off+j]:=by simp[b2]
        refine⟨by show cellAt w b (off+j)=_;rw[cP h2,e];rfl,⟨(θ.1 h2).1,?_⟩,by rw[e];exact h4 _ _ e⟩;rintro(⟨g',b3,b4⟩|⟨lim,g',b3,r,M,hra⟩)
        ·have e:=h.inj g g' b h1 b4
         subst e;have:∀{l:List Nat},pos l g=none->g∉l:=by
          intro l
          induction l with
          |nil=>intro _ hm;cases hm
          |cons y l ch=>
            intro U hm;simp only[pos]at U
            cases e:Nat.beq y g with
            |true=>rw[e]at U;simp at U
            |false=>
              rw[e]at U;simp only[cond_false]at U;split at U;·grind
              ·rename_i cj
               rcases N'.1 hm with rfl|hm
               ·simp at e
               ·grind
         grind
        ·exact(h.rowAt M hra).2.1 g h1
       ·grind
      ·exact .any _
   |clo f vs l hs hd=>exact .clo f vs _ (by simp[hs]) (a7 l vs hd)
   |bnd f vs l hs hd=>exact .bnd f vs _ (by simp[hs]) (a7 l vs hd)
theorem iO{bx}:∀{r:List Nat}{l:List (List A)},gF bx gs os r=some l->l.length=r.length∧∀(i g:Nat),r[i]?=some g->∃c,bh bx g=some c∧l[i]?=some (c.map (eI bx gs os 5))
 |[],l,h=>by simp only[gF,Option.some.injEq]at h;subst h;simp
 |g0::r,l,h=>by
   simp only[gF]at h;split at h
   ·rename_i c l' I hl
    simp only[Option.some.injEq]at h;subst h;obtain⟨h1,h2⟩:=iO hl;grind
   ·grind
theorem pc{l:List Nat}(I:l.Nodup)(h1:l[i]?=some g)(h2:l[j]?=some g):i=j:=by grind[List.getElem?_eq_some_iff,List.pairwise_iff_getElem]
theorem bq.mc(h:bq C n st G tmps w){b0:List (List A)}(b6:gs.Nodup)(ai:os.Nodup)(ch:∀g∈os,g∈st.lv)(hb:gF st.bx gs os gs=some b0):
 (fJ C G w gs os).bx.length=b0.length∧bq (fJ C G w gs os) 0 ⟨[],fu 0 b0,(List.range os.length).map (b0.length+·),b0.length+os.length⟩ (iy G gs os) #[] w:=by
 obtain⟨hl,aj⟩:=iO hb;refine⟨by simp[fJ,hl],?_⟩;have I:∀{g r},(iy G gs os).own g=some r->gs.length<=g∧∃g0,os[g-gs.length]?=some g0∧G.own g0=some r:=by
  intro g r M;simp only[iy]at M;split at M;·cases M
  ·exact⟨by omega,ξ.1 M⟩
 refine{size:=rfl,frame:=fun t a ha=>by simp[look]at ha,box:=fun i l' hc=>?_,gbox:=fun i b a1=>?_,inj:=fun i j b h1 h2=>?_,live:=fun i hi=>?_,gown:=fun i r M=>?_,
          row:=fun i b len cap sz a7 M=>?_,mrow:=fun i b bs M=>?_,sub:=fun i b bs c lim M a6=>?_,gcell:=fun i b a1=>(let⟨g,_,h2⟩:=ξ.1 a1;h.gcell g b h2),xold:=fun b o hx=>⟨vG h hx.1,hx.2⟩,kold:=fun b o hk=>?_,lent:=fun i b hi=>?_,fr:=⟨rfl,rfl,rfl,χ _,fun _ _ _=>rfl,fun _ _ _ _ h=>h,.refl w⟩}
 ·obtain⟨_,h1⟩:=oz b0 0 i l' hc
  simp only[Nat.sub_zero]at h1;have J:i<gs.length:=by rw[<-hl];exact(δ.1 h1).1
  have a8:gs[i]?=some gs[i]:=by simp[J]
  obtain⟨c,h2,h3⟩:=aj i _ a8;rw[h1]at h3;simp only[Option.some.injEq]at h3;subst h3;obtain⟨b,cs,T,h4,h5,X,h7,h8⟩:=h.box _ c h2;refine⟨b,cs,T,by simp[iy,a8,h4],h5,by simpa using X,h7,fun j u a hu ha=>?_⟩;rw[τ,ν]at ha;obtain⟨y,hy,rfl⟩:=ha;exact bK.mc h gs os (gen':=b0.length+os.length) (by omega) 5 u y (h8 j u y hu hy)
 ·obtain⟨g,h1,h2⟩:=ξ.1 a1
  have J:i<gs.length:=(δ.1 h1).1;refine⟨by show i<b0.length+os.length;omega,(h.gbox g b h2).2.1,.inr (.inl ⟨g,ζ h1,h2⟩),?_⟩;rintro o ⟨lim,⟨g',_,r,N,O⟩,_⟩;exact absurd h2 ((h.rowAt N O).2.1 g)
 ·obtain⟨g1,h3,h4⟩:=ξ.1 h1
  obtain⟨g2,h5,X⟩:=ξ.1 h2;have e:=h.inj g1 g2 b h4 X;subst e;exact pc b6 h3 h5
 ·obtain⟨j,hj,rfl⟩:=R'.1 hi
  have hj:j<os.length:=by simpa using hj
  obtain⟨r,M⟩:=h.live _ (ch _ (List.getElem_mem hj));refine⟨r,?_⟩;simp only[iy];rw[if_neg (by omega),hl,Nat.add_sub_cancel_left];simp[hj,M]
 ·obtain⟨h1,g0,h2,h3⟩:=I M
  have:=(δ.1 h2).1;simp only;omega
 ·obtain⟨h1,g0,h2,h3⟩:=I M
  obtain⟨h4,h5,X,h7⟩:=h.row g0 b len cap sz a7 h3;have hm:=ζ h2;refine⟨⟨.inr (.inr ⟨_,g0,hm,_,h3,rfl,rfl⟩),?_⟩,fun j hj=>?_,fun j b2 b3 cj b4 hj=>?_,h7⟩
  ·rintro o ⟨lim,⟨g',_,r',N,O⟩,J⟩
   have e:=(h.rowAt h3 ⟨rfl,rfl⟩).2.2.2 g' r' lim N O;rw[e.2]at J;exact J
  ·obtain⟨g2,_,h8⟩:=ξ.1 hj
   exact h5 g2 h8
  ·obtain⟨h9,g2,ad,U⟩:=I hj
   have e:=X g2 b2 b3 cj b4 U;subst e;have:=pc ai ad h2;omega
 ·obtain⟨h1,g0,h2,h3⟩:=I M
  obtain⟨h4,h5,X,h7⟩:=h.mrow g0 b bs h3;have hm:=ζ h2;refine⟨⟨.inr (.inr ⟨_,g0,hm,_,h3,Or.inl ⟨rfl,rfl⟩⟩),?_⟩,fun j hj=>?_,fun j bs' hj=>?_,h7⟩
  ·rintro o ⟨lim,⟨g',_,r',N,O⟩,J⟩
   have e:=(h.rowAt h3 (Or.inl ⟨rfl,rfl⟩)).2.2.2 g' r' lim N O;rw[e.2]at J;exact J
  ·obtain⟨g2,_,h8⟩:=ξ.1 hj
   exact h5 g2 h8
  ·obtain⟨h9,g2,ad,U⟩:=I hj
   have e:=X g2 bs' U;subst e;have:=pc ai ad h2;omega
 ·obtain⟨h1,g0,h2,h3⟩:=I M
  obtain⟨h4,h5,X,h7,h8⟩:=h.sub g0 b bs c lim h3 a6;have hm:=ζ h2;refine⟨⟨.inr (.inr ⟨_,g0,hm,_,h3,Or.inr a6⟩),?_⟩,fun j hj=>?_,fun j len cap sz a7 hj=>?_,fun j b' bs' cq hj cl=>?_,h8⟩
  ·rintro o ⟨b5,⟨g',_,r',N,O⟩,J⟩
   have e:=(h.rowAt h3 (Or.inr a6)).2.2.2 g' r' b5 N O;rw[e.2]at J;exact J
  ·obtain⟨g2,_,h9⟩:=ξ.1 hj
   exact h5 g2 h9
  ·obtain⟨_,g2,_,U⟩:=I hj
   exact X g2 _ _ _ _ U
  ·obtain⟨h9,g2,ad,U⟩:=I hj
   obtain⟨e,e0⟩:=h7 g2 _ _ _ U cl;subst e;have:=pc ai ad h2;exact⟨by omega,e0⟩
 ·obtain⟨lim,⟨g',_,r',N,O⟩,_⟩:=hk
  exact(h.rowAt N O).2.2.1
 ·simp only[fJ,τ,ν]at hi
  obtain⟨g,hg,rfl⟩:=hi;obtain⟨c,h2,_⟩:=aj i g hg;obtain⟨b,_,_,h4,_⟩:=h.box _ c h2;simp[iy,hg,h4]
theorem aT{E2:En}(hc:∀b o u,cellAt E.w b o=some u->¬E.pv b o->cellAt E2.w b o=some u∧¬E2.pv b o)(ho:∀g r,g<E.gen->E2.own (g+m)=some r->E.own g=some r)(hg:E.gen+m<=E2.gen)(hb:∀(i g b:Nat),gs[i]?=some g->E.box i=some b->g<E2.gen∧E2.box g=some b)(hw:E2.w=E.w){v}(h:bK E v a):bK E2 v (back gs m a):=by
 have ad:∀b o u,cellAt E.w b o=some u->¬E.pv b o->cellAt E.w b o=some u∧¬E2.pv b o:=fun b o u h1 h2=>⟨h1,(hc b o u h1 h2).2⟩
 induction h with
 |any x=>exact .any x
 |d hd=>exact .d (hd.mono hc)
 |ag vs l hs hd=>exact .ag vs l hs (fun i u x h1 h2=>(hd i u x h1 h2).mono hc)
 |own x g es hd J hr=>exact .own x _ es (hd.mono hc) (by omega) (fun r M=>hr r (ho g r J M))
 |agg vs l hs hone _ ih=>simp only[Ab.back,ka];refine .agg vs _ (by simp[hs]) hone (fun i u x hu N=>?_);grind
 |tup vs l hs _ ih=>simp only[Ab.back,ka];refine .tup vs _ (by simp[hs]) (fun i u x hu N=>?_);grind
 |rowd b off l u ai hd=>exact .rowd b off l u (fun j hj=>hc _ _ _ (ai j hj).1 (ai j hj).2) (fun j x N=>(hd j x N).mono hc)
 |row b off l u ai _ _=>exact .any _
 |np x i T X J O hT u hp=>
   simp only[Ab.back];split
   ·rename_i g U
    exact .np x g T X (hb i g X U O).1 (hb i g X U O).2 (hw▸hT) u hp
   ·exact .any _
 |lk=>exact .any _
 |fx=>exact .any _
 |ol=>exact .any _
 |ow=>exact .any _
 |sb x i n c X J O hn hp=>
   simp only[Ab.back];split
   ·rename_i g U
    exact .sb x g n c X (hb i g X U O).1 (hb i g X U O).2 hn hp
   ·exact .any _
 |ptr x i off X J O hp=>
   simp only[Ab.back];split
   ·rename_i g U
    exact .ptr x g off X (hb i g X U O).1 (hb i g X U O).2 hp
   ·exact .any _
 |xs x g es J h1 N=>exact .xs x _ es (by omega) h1 (fun r M=>hw▸(N r (ho g r J M)).ek ad)
 |xp x g i off l J h1 N=>exact .xp x _ i off l (by omega) h1 (fun r M=>hw▸(N r (ho g r J M)).ek ad)
 |ni t x=>exact .ni t x
 |fl x es hd aj=>exact .fl x es (hd.mono hc) aj
 |bf x g T s J h1 N=>exact .bf x _ T s (by omega) h1 (fun r M=>hw▸N r (ho g r J M))
 |mp x g es J h1 N=>exact .mp x _ es (by omega) h1 (fun r M=>hw▸(N r (ho g r J M)).ek ad)
 |gi x g I J N=>exact .gi x _ I (by omega) (fun r M=>hw▸(N r (ho g r J M)).ek ad)
 |mq x g es J h1 N=>exact .mq x _ es (by omega) h1 (fun r M=>hw▸(N r (ho g r J M)).ek ad)
 |mo x g es hole ob J h1 N=>exact .mo x _ es hole ob (by omega) h1 (fun r M=>hw▸(N r (ho g r J M)).ek ad)
 |clo f vs l hs _ ih=>simp only[Ab.back,ka];refine .clo f vs _ (by simp[hs]) (fun i u x hu N=>?_);grind
 |bnd f vs l hs _ ih=>simp only[Ab.back,ka];refine .bnd f vs _ (by simp[hs]) (fun i u x hu N=>?_);grind
theorem bq.uX (h:bq C n st G tmps w) {b0:List (List A)} (hb:gF st.bx gs os gs=some b0) (hl1:b1.length=b0.length) {G1} (h1:bq (fJ C G w gs os) 0 ⟨[],fu 0 b1,(List.range k).map (b0.length+·),b0.length+k⟩ G1 #[] w'):
    ∃ G2,(∀ v a,bK (bu (fJ C G w gs os) G1 (b0.length+k) w') v a→bK (bu C G2 (b0.length+k+st.gen) w') v (back gs st.gen a)) ∧
      bq C n ⟨st.f,jJ gs st.gen gs b1++st.bx,(List.range k).map (b0.length+·+st.gen)++st.lv.filter (fun g=>!os.any (Nat.beq g)),b0.length+k+st.gen⟩ G2 tmps w':=by
  obtain⟨hl,hget⟩:=iO hb
  have memos:∀ g,os.any (Nat.beq g)=true↔g∈os:=by
    intro g
    rw[F']
    exact⟨fun ⟨x,hx,he⟩=>Γ he▸hx,fun hg=>⟨g,hg,Nat.beq_refl g⟩⟩
  let own2:Nat→Option Row:=fun g=>if g < st.gen then (if os.any (Nat.beq g) then none else G.own g) else G1.own (g - st.gen)
  let G2:Gh:=⟨G.box,own2⟩
  have hLb:∀ {b},gg G gs b→C.jF b 0∧b < w.heap.size:=by
    rintro b ⟨g,_,hg⟩
    exact⟨(h.gbox g b hg).2.2,(h.gbox g b hg).2.1⟩
  have hLr:∀ {b lim},fy G os b lim→C.jF b lim∧b < w.heap.size∧(∀ g',G.box g'≠some b):=by
    rintro b lim ⟨g,_,r,hg,hra⟩
    obtain⟨h1,h2,h3,_⟩:=h.rowAt hg hra
    exact⟨h1,h3,h2⟩
  have hLm:∀ {b},(gg G gs b∨∃ lim,fy G os b lim)→C.w0.heap.size≤b∨C.fp b:=by
    rintro b (hl | ⟨lim,hl⟩)
    · exact(hLb hl).1.1
    · exact(hLr hl).1.1
  have hG1:∀ {i g:Nat} {b:Nat},gs[i]? = some g→G.box g=some b→G1.box i=some b:=by
    intro i g b hi hg
    refine h1.lent i b ?_
    simp[fJ,hi,hg]
  have old2:∀ {g r},own2 g=some r→(g < st.gen∧g∉os∧G.own g=some r)∨(st.gen≤g∧G1.own (g - st.gen)=some r):=by
    intro g r hr
    simp only[own2] at hr
    split at hr
    · rename_i hlt
      split at hr
      · cases hr
      · rename_i hno
        exact .inl ⟨hlt,fun hm=>hno ((memos g).2 hm),hr⟩
    · exact .inr ⟨by omega,hr⟩
  have hstay:∀ {b},b < w.heap.size→¬ (gg G gs b∨∃ lim,fy G os b lim)→w'.heap[b]? = w.heap[b]?:=fun hlt hn=>h1.fr.block _ hlt hn
  have hnotrow:∀ {g b lim r},G.own g=some r→r.qF b lim→g∉os→¬ (gg G gs b∨∃ lim,fy G os b lim):=by
    rintro g b lim r hg hra hno (⟨g',_,hb'⟩ | ⟨lim',g',hg',r',hr',hra'⟩)
    · exact(h.rowAt hg hra).2.1 g' hb'
    · have e:=(h.rowAt hg hra).2.2.2 g' r' lim' hr' hra'
      exact hno (e.1▸hg')
  have hnotbox:∀ {g b},G.box g=some b→g∉gs→¬ (gg G gs b∨∃ lim,fy G os b lim):=by
    rintro g b hg hno (⟨g',hg',hb'⟩ | ⟨lim,hl⟩)
    · have e:=h.inj g g' b hg hb'
      subst e
      exact hno hg'
    · exact(hLr hl).2.2 g hg
  have hnew:∀ {g b lim r},G1.own g=some r→r.qF b lim→C.jF b lim∧(∀ g',G.box g'≠some b)∧(w.heap.size≤b∨∃ lim',fy G os b lim'∧lim'≤lim):=by
    intro g b lim r hg hra
    obtain⟨⟨hm,hk⟩,hnb,_⟩:=h1.rowAt hg hra
    have hm':w.heap.size≤b∨(gg G gs b∨∃ lim,fy G os b lim):=hm
    rcases hm' with hm | hm | ⟨lim',hm⟩
    · refine⟨⟨.inl (Y' h.fr.size hm),fun o ho=>?_⟩,fun g' hg'=>?_,.inl hm⟩
      · have:=h.kold b o ho
        have:=h.fr.size
        omega
      · have:=(h.gbox g' b hg').2.1
        omega
    · obtain⟨g0,hg0,hb0⟩:=hm
      obtain⟨i,hi⟩:=ψ.1 hg0
      exact absurd (hG1 hi hb0) (hnb i)
    · have hlim:lim'≤lim:=by
        rcases Nat.lt_or_ge lim lim' with hlt | hge
        · exact absurd (hk lim ⟨lim',hm,hlt⟩) (Nat.lt_irrefl _)
        · exact hge
      obtain⟨q1,q2,q3⟩:=hLr hm
      exact⟨⟨q1.1,fun o ho=>ρ (q1.2 o ho) hlim⟩,q3,.inr ⟨lim',hm,hlim⟩⟩
  have hfr:Fr C w':=by
    refine⟨h1.fr.os.trans h.fr.os,h1.fr.tape.trans h.fr.tape,h1.fr.output.trans h.fr.output,Y' h.fr.size h1.fr.size,fun b hlt hn=>?_,fun b o u hk hu=>?_,h.fr.ty.trans h1.fr.ty⟩
    · rw[hstay (ρ hlt h.fr.size) (fun hl=>(hLm hl).elim (fun h=>by omega) hn)]
      exact h.fr.block b hlt hn
    · have hu':=h.fr.cells b o u hk hu
      by_cases hl:gg G gs b∨∃ lim,fy G os b lim
      · rcases hl with hl | ⟨lim,hl⟩
        · exact absurd ((hLb hl).1.2 o hk) (Nat.not_lt_zero _)
        · exact h1.fr.cells b o u ⟨lim,hl,(hLr hl).1.2 o hk⟩ hu'
      · rw[cL (hstay (ea hu') hl)]
        exact hu'
  have hpv2:∀ {b o},cf C G2 b o→cf (fJ C G w gs os) G1 b o:=by
    rintro b o (hp | ⟨g,hp⟩ | ⟨g,len,cap,sz,pub,hp,hle⟩ | ⟨g,b',bs,lim,hp,hm,hle⟩)
    · refine sS (.inl hp) (fun hl=>?_)
      obtain⟨h2,h3⟩:=h.xold b o hp
      exact(hLm hl).elim (fun h=>by omega) h3
    · by_cases hg:g∈gs
      · obtain⟨i,hi⟩:=ψ.1 hg
        exact .inr (.inl ⟨i,hG1 hi hp⟩)
      · exact sS (G:=G) (.inr (.inl ⟨g,hp⟩)) (hnotbox hp hg)
    · rcases old2 hp with ⟨_,h3,h4⟩ | ⟨_,h3⟩
      · exact sS (.inr (.inr (.inl ⟨g,len,cap,sz,pub,h4,hle⟩))) (hnotrow h4 ⟨rfl,rfl⟩ h3)
      · exact .inr (.inr (.inl ⟨_,len,cap,sz,pub,h3,hle⟩))
    · rcases old2 hp with ⟨_,h3,h4⟩ | ⟨_,h3⟩
      · exact sS (.inr (.inr (.inr ⟨g,b',bs,lim,h4,hm,hle⟩))) (hnotrow h4 (Or.inr hm) h3)
      · exact .inr (.inr (.inr ⟨_,b',bs,lim,h3,hm,hle⟩))
  have hback:∀ v a,bK (bu (fJ C G w gs os) G1 (b0.length+k) w') v a→bK (bu C G2 (b0.length+k+st.gen) w') v (back gs st.gen a):=by
    intro v a hr
    refine aT (E:=bu (fJ C G w gs os) G1 (b0.length+k) w') (E2:=bu C G2 (b0.length+k+st.gen) w') (fun b o u hu hn=>⟨hu,fun hp=>hn (hpv2 hp)⟩) (fun g r hg hr'=>?_) (by simp[bu]) (fun i g b hi hb1=>?_) Z hr
    · have hr2:own2 (g+st.gen)=some r:=hr'
      rcases old2 hr2 with ⟨h3,_⟩ | ⟨_,h3⟩
      · omega
      · rw[Nat.add_sub_cancel] at h3
        exact h3
    · obtain⟨c,h2,_⟩:=hget i g hi
      obtain⟨b',_,_,h4,_⟩:=h.box _ c h2
      have h5:=hG1 hi h4
      have h6:G1.box i=some b:=hb1
      rw[h5] at h6
      simp only[Option.some.injEq] at h6
      subst h6
      have:=(h.gbox g b' h4).1
      exact⟨by simp only[bu];omega,h4⟩
  have hle:(bu C G st.gen w).le (bu C G2 (b0.length+k+st.gen) w'):=by
    refine l5 h.fr hfr (fun b o u hu hn=>⟨?_,fun hp=>?_⟩) (fun _ _ h=>h) (fun g r hg hr=>?_) (by omega) (fun g b len cap sz pub hg hr=>?_) (fun g b bs hg hr=>?_) h1.fr.ty
    · by_cases hl:gg G gs b∨∃ lim,fy G os b lim
      · rcases hl with ⟨g,_,hg⟩ | ⟨lim,hl⟩
        · exact absurd (.inr (.inl ⟨g,hg⟩)) hn
        · refine h1.fr.cells b o u ⟨lim,hl,?_⟩ hu
          obtain⟨g,_,r,hg,hra⟩:=hl
          exact Nat.lt_of_not_le fun hle=>hn (h.GQ hg hra hu hle)
      · rw[cL (hstay (ea hu) hl)]
        exact hu
    · rcases hp with hp | ⟨g,hp⟩ | ⟨g,len,cap,sz,pub,hp,hle⟩ | ⟨g,b',bs,lim0,hp,hm,hle⟩
      · exact hn (.inl hp)
      · exact hn (.inr (.inl ⟨g,hp⟩))
      · rcases old2 hp with ⟨_,_,h4⟩ | ⟨_,h3⟩
        · exact hn (.inr (.inr (.inl ⟨g,len,cap,sz,pub,h4,hle⟩)))
        · have hlt:=ea hu
          rcases(hnew h3 ⟨rfl,rfl⟩).2.2 with h5 | ⟨lim,hl,hlim⟩
          · omega
          · obtain⟨g0,_,r0,hg0,hra⟩:=hl
            exact hn (h.GQ hg0 hra hu (by omega))
      · rcases old2 hp with ⟨_,_,h4⟩ | ⟨_,h3⟩
        · exact hn (.inr (.inr (.inr ⟨g,b',bs,lim0,h4,hm,hle⟩)))
        · have hlt:=ea hu
          rcases(hnew h3 (Or.inr hm)).2.2 with h5 | ⟨lim,hl,hlim⟩
          · omega
          · obtain⟨g0,_,r0,hg0,hra⟩:=hl
            exact hn (h.GQ hg0 hra hu (by omega))
    · have hr2:own2 g=some r:=hr
      rcases old2 hr2 with ⟨_,_,h3⟩ | ⟨h3,_⟩
      · exact h3
      · omega
    · have hr2:own2 g=some (.blk b len cap sz pub):=hr
      rcases old2 hr2 with ⟨_,h3,h4⟩ | ⟨h3,_⟩
      · exact hstay (h.rowAt h4 ⟨rfl,rfl⟩).2.2.1 (hnotrow h4 ⟨rfl,rfl⟩ h3)
      · omega
    · have hr2:own2 g=some (.mp b bs):=hr
      rcases old2 hr2 with ⟨_,h3,h4⟩ | ⟨h3,_⟩
      · exact⟨fun c hc=>by subst hc;exact hstay (h.rowAt (b:=c) (lim:=0) h4 (Or.inl ⟨rfl,rfl⟩)).2.2.1 (hnotrow (b:=c) (lim:=0) h4 (Or.inl ⟨rfl,rfl⟩) h3),fun p hp=>hstay (h.rowAt (lim:=p.2) h4 (Or.inr hp)).2.2.1 (hnotrow (lim:=p.2) h4 (Or.inr hp) h3)⟩
      · omega
  refine⟨G2,hback,{ size:=h.size,frame:=h.fz hle,inj:=h.inj,xold:=h.xold,kold:=h.kold,lent:=h.lent,fr:=hfr,gcell:=fun g b hb'=>ny h1.fr.ty (h.gcell g b hb'),box:=?_,gbox:=?_,live:=?_,gown:=?_,row:=?_,mrow:=?_,sub:=?_ }⟩
  · intro g cells hc
    by_cases hg:g∈gs
    · have hz:∃ c,bh (jJ gs st.gen gs b1) g=some c:=by
        clear hback hle hpv2
        have:∀ (r:List Nat) (l:List (List A)),l.length=r.length→g∈r→∃ c,bh (jJ gs st.gen r l) g=some c:=by
          intro r
          induction r with
          | nil=>intro l _ hm;cases hm
          | cons x r ih=>
            intro l hl hm
            cases l with
            | nil=>simp at hl
            | cons c l=>
              simp only[jJ,cZ]
              by_cases e:x=g
              · rw[if_pos e];exact⟨_,rfl⟩
              · rw[if_neg e]
                exact ih l (by simpa using hl) ((N'.1 hm).resolve_left (fun h=>e h.symm))
        exact this gs b1 (by omega) hg
      obtain⟨c,hz⟩:=hz
      have hcc:c=cells:=by
        rcases lO hc with h2 | h2
        · rw[h2] at hz;exact(J' hz).symm
        · have:bh (jJ gs st.gen gs b1++st.bx) g=some c:=by
            clear hc hback hle
            revert hz
            generalize jJ gs st.gen gs b1=z
            intro hz
            induction z with
            | nil=>simp[bh] at hz
            | cons x z ih=>
              obtain⟨s,y⟩:=x
              rw[cZ] at hz
              rw[List.cons_append,cZ]
              split
              · rename_i e;rw[if_pos e] at hz;exact hz
              · rename_i e;rw[if_neg e] at hz;exact ih hz
          rw[this] at hc
          exact J' hc
      subst hcc
      obtain⟨i,c0,h2,h3,rfl⟩:=sw hz
      obtain⟨b,cs,T,h4,h5,h6,h7,h8⟩:=h1.box i c0 (by have:=zE b1 0 i c0 h3;simpa using this)
      obtain⟨c2,h9,_⟩:=hget i g h2
      obtain⟨b',_,_,h10,_⟩:=h.box g c2 h9
      have e:b'=b:=by
        have:=hG1 h2 h10
        rw[h4] at this
        exact(J' this).symm
      subst e
      refine⟨b',cs,T,h10,h5,by rw[ka,η];exact h6,h7,fun j u a hu ha=>?_⟩
      rw[ka,τ,ν] at ha
      obtain⟨y,hy,rfl⟩:=ha
      exact hback u y (h8 j u y hu hy)
    · have hc2:bh st.bx g=some cells:=by
        rcases lO hc with h2 | h2
        · obtain⟨i,c0,h3,_⟩:=sw h2
          exact absurd (ζ h3) hg
        · exact h2
      obtain⟨b,cs,T,h4,h5,h6,h7,h8⟩:=h.box g cells hc2
      refine⟨b,cs,T,h4,by rw[hstay (θ.1 h5).1 (hnotbox h4 hg)];exact h5,h6,h7,fun j u a hu ha=>(h8 j u a hu ha).mono hle⟩
  · intro g b hgb
    obtain⟨h2,h3,h4⟩:=h.gbox g b hgb
    exact⟨by simp only;omega,ρ h3 h1.fr.size,h4⟩
  · intro g hg
    rcases D'.1 hg with hg | hg
    · obtain⟨j,hj,rfl⟩:=R'.1 hg
      obtain⟨r,hr⟩:=h1.live (b0.length+j) (R'.2 ⟨j,hj,rfl⟩)
      refine⟨r,?_⟩
      simp only[G2,own2]
      rw[if_neg (by omega),Nat.add_sub_cancel]
      exact hr
    · obtain⟨h2,h3⟩:=List.mem_filter.1 hg
      obtain⟨r,hr⟩:=h.live g h2
      refine⟨r,?_⟩
      simp only[G2,own2]
      rw[if_pos (h.gown g r hr),if_neg (by cases e:os.any (Nat.beq g) with | true=>rw[e] at h3;cases h3 | false=>simp)]
      exact hr
  · intro g r hr
    rcases old2 hr with ⟨h2,_⟩ | ⟨h2,h3⟩
    · simp only;omega
    · have:=h1.gown _ r h3
      simp only at this ⊢
      omega
  · intro g b len cap sz pub hr
    rcases old2 hr with ⟨h2,h3,h4⟩ | ⟨h2,h3⟩
    · obtain⟨h5,h6,h7,cur,T,h8,h9⟩:=h.row g b len cap sz pub h4
      refine⟨h5,h6,fun g' len' cap' sz' pub' hr'=>?_,cur,T,by rw[hstay (θ.1 h8).1 (hnotrow h4 ⟨rfl,rfl⟩ h3)];exact h8,h9⟩
      rcases old2 hr' with ⟨_,_,h10⟩ | ⟨_,h10⟩
      · exact h7 g' len' cap' sz' pub' h10
      · rcases(hnew h10 ⟨rfl,rfl⟩).2.2 with h11 | ⟨lim,h11,_⟩
        · have:=(θ.1 h8).1
          omega
        · exact absurd (.inr ⟨lim,h11⟩) (hnotrow h4 ⟨rfl,rfl⟩ h3)
    · obtain⟨h5,h6,h7,h8⟩:=h1.row _ b len cap sz pub h3
      refine⟨(hnew h3 ⟨rfl,rfl⟩).1,(hnew h3 ⟨rfl,rfl⟩).2.1,fun g' len' cap' sz' pub' hr'=>?_,h8⟩
      rcases old2 hr' with ⟨_,h10,h12⟩ | ⟨_,h10⟩
      · rcases(hnew h3 ⟨rfl,rfl⟩).2.2 with h11 | ⟨lim,h11,_⟩
        · have:=(h.rowAt h12 ⟨rfl,rfl⟩).2.2.1
          omega
        · exact absurd (.inr ⟨lim,h11⟩) (hnotrow h12 ⟨rfl,rfl⟩ h10)
      · have:=h7 _ len' cap' sz' pub' h10
        omega
  · intro g b bs hr
    rcases old2 hr with ⟨h2,h3,h4⟩ | ⟨h2,h3⟩
    · obtain⟨h5,h6,h7,me,clock,h8⟩:=h.mrow g b bs h4
      have hnr:=hnotrow h4 (Or.inl ⟨rfl,rfl⟩) h3
      refine⟨h5,h6,fun g' bs' hr'=>?_,me,clock,by rw[hstay (θ.1 h8).1 hnr];exact h8⟩
      rcases old2 hr' with ⟨_,_,h10⟩ | ⟨_,h10⟩
      · exact h7 g' bs' h10
      · rcases(hnew h10 (Or.inl ⟨rfl,rfl⟩)).2.2 with h11 | ⟨lim,h11,_⟩
        · have:=(θ.1 h8).1
          omega
        · exact absurd (.inr ⟨lim,h11⟩) hnr
    · obtain⟨h5,h6,h7,h8⟩:=h1.mrow _ b bs h3
      have hn:=hnew h3 (Or.inl ⟨rfl,rfl⟩)
      refine⟨hn.1,hn.2.1,fun g' bs' hr'=>?_,h8⟩
      rcases old2 hr' with ⟨_,h10,h12⟩ | ⟨_,h10⟩
      · rcases hn.2.2 with h11 | ⟨lim,h11,_⟩
        · have:=(h.rowAt h12 (Or.inl ⟨rfl,rfl⟩)).2.2.1
          omega
        · exact absurd (.inr ⟨lim,h11⟩) (hnotrow h12 (Or.inl ⟨rfl,rfl⟩) h10)
      · have:=h7 _ _ h10
        omega
  · intro g b bs c lim hr hm
    rcases old2 hr with ⟨h2,h3,h4⟩ | ⟨h2,h3⟩
    · obtain⟨h5,h6,h7,h8,cur,T,h9,h10⟩:=h.sub g b bs c lim h4 hm
      have hcl:=(θ.1 h9).1
      have hnr:=hnotrow h4 (Or.inr hm) h3
      refine⟨h5,h6,fun g' len cap sz pub hr'=>?_,fun g' b' bs' lim' hr' hm'=>?_,cur,T,by rw[hstay hcl hnr];exact h9,h10⟩
      · rcases old2 hr' with ⟨_,_,h11⟩ | ⟨_,h11⟩
        · exact h7 g' _ _ _ _ h11
        · rcases(hnew h11 ⟨rfl,rfl⟩).2.2 with h12 | ⟨lim2,h12,_⟩
          · omega
          · exact hnr (.inr ⟨lim2,h12⟩)
      · rcases old2 hr' with ⟨_,_,h11⟩ | ⟨_,h11⟩
        · exact h8 g' _ _ _ h11 hm'
        · rcases(hnew h11 (Or.inr hm')).2.2 with h12 | ⟨lim2,h12,_⟩
          · omega
          · exact absurd (.inr ⟨lim2,h12⟩) hnr
    · obtain⟨h5,h6,h7,h8,h9⟩:=h1.sub _ b bs c lim h3 hm
      have hn:=hnew h3 (Or.inr hm)
      refine⟨hn.1,hn.2.1,fun g' len cap sz pub hr'=>?_,fun g' b' bs' lim' hr' hm'=>?_,h9⟩
      · rcases old2 hr' with ⟨_,h10,h12⟩ | ⟨_,h10⟩
        · rcases hn.2.2 with h11 | ⟨lim2,h11,_⟩
          · have:=(h.rowAt h12 ⟨rfl,rfl⟩).2.2.1
            omega
          · exact absurd (.inr ⟨lim2,h11⟩) (hnotrow h12 ⟨rfl,rfl⟩ h10)
        · exact h7 _ _ _ _ _ h10
      · rcases old2 hr' with ⟨_,h10,h12⟩ | ⟨_,h10⟩
        · rcases hn.2.2 with h11 | ⟨lim2,h11,_⟩
          · have:=(h.rowAt h12 (Or.inr hm')).2.2.1
            omega
          · exact absurd (.inr ⟨lim2,h11⟩) (hnotrow h12 (Or.inr hm') h10)
        · have:=h8 _ _ _ _ h10 hm'
          omega
theorem WO.bT[dw P][GC P C](hg:o.guard=none)(hd:fY n o.dst=true){X}(ho:o.op=.call ⟨.value x,xs,X⟩){I}(hx:av st.f x=some (.clo fid caps))(a7:kJ st.f xs.toList=some I)(gs os:List Nat)(a8:nodupB gs=true)(b2:nodupB os=true)(b3:(os.all fun g=>st.lv.any fun h=>Nat.beq h g)=true){M:List (List A)}{r}(hf:cU P fid args M m r b1 k)(ad:(I++caps).map (eI st.bx gs os 5)=args)(hb:gF st.bx gs os gs=some M)(hm:os.length=m)(h:WO P C n ops Q rest (St.put ⟨st.f,jJ gs st.gen gs b1++st.bx,(List.range k).map (M.length+·+st.gen)++st.lv.filter (fun g=>!os.any (Nat.beq g)),M.length+k+st.gen⟩ o.dst (back gs st.gen r))):WO P C n ops Q (o::rest) st:=by
 subst hm;subst ad;refine WO.step hg fun tmps w⟨G,hs⟩=>?_;obtain⟨fn,b4,N,O⟩:=hf.ok;have hr:=hs.av hx;generalize hv:Act.eval ⟨tmps,[]⟩ x=v at hr
 cases hr with
 |clo _ vs _ b5 hcd=>
 obtain⟨h1,h2⟩:=jM hs xs.toList I a7;have ai:(execOp (Act.eval ⟨tmps,[]⟩) o).run P w=.ok (.enter fid (xs.map (Act.eval ⟨tmps,[]⟩)++vs)) w:=by unfold execOp;rw[ho];show Sem.run P (do let d←resolve (Act.eval ⟨tmps,[]⟩) ⟨.value x,xs,X⟩ o.type;invoke d.target d.args) w=_;simp only[resolve,hv,Deferred.ofValue,Sem.run_bind,Sem.run_pure,Result.andThen_ok,invoke,callFunc,run_program,b4,N,O,L',if_false,Array.empty_append]
 obtain⟨hlen,aj⟩:=hs.mc (gs:=gs) (os:=os) (eX a8) (eX b2) (fun g hg=>by obtain⟨y,J,he⟩:=F'.1 (I'.1 b3 g hg);exact Γ he▸J) hb;have cy:=(iO hb).1;unfold et;have U:(execOp (Act.eval {tmps:=tmps,defers:=[]}) o).run P w=.ok (.enter fid (xs.map (Act.eval ⟨tmps,[]⟩)++vs)) w:=ai;rw[U];refine(hf.calls (fJ C G w gs os) (iy G gs os) _ w (GC.r9 hs) rfl hlen rfl (qW rfl) aj (by simp at h1;simp[b5,h1]) (fun i u a hu ha=>?_)).mono fun e w'⟨v,G',he,h3,h4⟩=>?_
 ·simp only[τ,ν]at ha
  obtain⟨y,J,rfl⟩:=ha;refine bK.mc hs gs os (by omega) 5 u y ?_;simp only[Array.getElem?_append]at hu;split at hu
  ·rename_i b6
   simp only[Array.size_map]at b6;have a1:i<I.length:=by simp at h1;omega
   rw[Ω a1]at J;obtain⟨z,hz,ch⟩:=h2 i y J;simp only[Array.getElem?_map,ν]at hu;obtain⟨z',cj,rfl⟩:=hu;have:z=z':=by simp at hz;rw[cj]at hz;exact(J' hz).symm
   subst this;exact ch
  ·rename_i cl
   simp only[Array.size_map]at cl hu;have a6:I.length<=i:=by simp at h1;omega
   rw[Θ a6]at J;refine hcd (i-xs.size) u y hu ?_;have:xs.size=I.length:=by simpa using h1
   rw[this];exact J
 ·obtain⟨G2,cq,cx⟩:=hs.uX hb hf.len h3
  exact⟨v,he,_,⟨G2,cx.put (dp hd) (cq v r h4)⟩,h⟩
end
section
variable{n:Nat}{rest:List Oper}{c:Code}
variable{bx:List (Nat×List A)}{op:Op}{pos:String}{af:Array Edge}
theorem bq.Hv(h:bq C n st G tmps w)(hb:bh st.bx g=some cells)(hl:cells'.length=cells.length)(M:∀(i:Nat)(u:Value)(a a':A),cells[i]?=some a->cells'[i]?=some a'->bK (bu C G st.gen w) u a->bK (bu C G st.gen w) u a'):bq C n {st with bx:=(g,cells')::st.bx} G tmps w:=by
 refine{h with box:=fun J c I=>?_};simp only[cZ]at I;split at I
 ·rename_i e
  subst e;simp only[Option.some.injEq]at I;subst I;obtain⟨b,cs,T,h1,h2,h3,h4,h5⟩:=h.box g cells hb;grind
 ·exact h.box J c I
def isNil:A->Bool
 |.d (.v (.slice none 0 0))=>true
 |_=>false
theorem Gc(h:isNil a=true):a=.d (.v (.slice none 0 0)):=by grind[isNil]
theorem fv.fh(h:fv C n st tmps w)(hb:bh st.bx g=some cells)(hj:cells[j]?=some (.d (.v (.slice none 0 0)))):
 fv C n ⟨st.f,(g,cells.set j (.own st.gen []))::st.bx,st.gen::st.lv,st.gen+1⟩ tmps w:=by
 obtain⟨G,h⟩:=h;obtain⟨⟨N,_,hs,O⟩⟩:=h.pT false st.lv (fun _ h=>h);refine⟨N,bq.Hv (st:={st with lv:=st.gen::st.lv,gen:=st.gen+1}) hs hb (by simp) (fun i u a a' J I M=>?_)⟩;rw[List.getElem?_set]at I;split at I
 ·rename_i e
  subst e;rw[hj]at J;simp only[Option.some.injEq]at J;subst J;split at I
  ·simp only[Option.some.injEq]at I
   subst I;cases M with|d M=>cases M;exact O
  ·grind
 ·grind
theorem fh(g j)(hb:bh bx g=some cells)(hj:cells[j]?=some (.d (.v (.slice none 0 0))))(I:cells.set j (.own gen [])=cells')(h:W P C n c Q ⟨f,(g,cells')::bx,gen::lv,gen+1⟩):W P C n c Q ⟨f,bx,lv,gen⟩:=by subst I;exact fun tmps w hs=>h tmps w (hs.fh hb hj)
theorem bT[dw P][GC P C]{O J r U bx'}(gs os:List Nat)(hx:av f x=some (.clo fid caps))(X:kJ f xs.toList=some J)(M:(J++caps).map (eI bx gs os 5)=args)(hb:gF bx gs os gs=some I)(hm:os.length=m)(hf:cU P fid args I m r b1 k)(ad:nodupB gs=true)(ai:nodupB os=true)(aj:(os.all fun g=>lv.any fun h=>Nat.beq h g)=true)(hd:Nat.blt d n=true)(hr:back gs gen r=U)(a1:jJ gs gen gs b1++bx=bx')(a6:(List.range k).map (I.length+·+gen)++lv.filter (fun g=>!os.any (Nat.beq g))=lv')(N:I.length+k+gen=gen')(h:WO P C n ops Q rest ⟨(d,U)::f,bx',lv',gen'⟩):
 WO P C n ops Q (⟨some d,.call ⟨.value x,xs,O⟩,ty,pos,af,none⟩::rest) ⟨f,bx,lv,gen⟩:=by
 subst hr;subst a1;subst a6;subst N;exact WO.bT (st:=⟨f,bx,lv,gen⟩) rfl hd rfl hx X gs os ad ai aj hf M hb hm h
def zt(order:List Nat)(bx:List (Nat×List A)):Nat->List (List A)->Prop
 |_,[]=>True
 |i,c::r=>(match bh bx i with|some c0=>some (iF order c0)|none=>none)=some c∧zt order bx (i+1) r
theorem zt.get{bx}:∀{l:List (List A)}{k:Nat},zt order bx k l->∀(i:Nat)(c:List A),l[i]?=some c->∃c0,bh bx (k+i)=some c0∧iF order c0=c
 |[],_,_,i,c,h=>by simp at h
 |b::l,k,hh,i,c,h=>by
   cases i with
   |zero=>simp at h;subst h;have:=hh.1;grind
   |succ i=>have:=zt.get hh.2 i c (by simpa using h);grind
theorem an(T:cG P){r e l}(order:List Nat)(he:match e with|.normal=>True|.ret=>True|_=>False)(hl:lP T f bx rs=some l)(M:order.length=k)(I:nodupB (fa b1.length order)=true)(J:(order.all fun g=>lv.any fun h=>Nat.beq h g)=true)(hb:zt (fa b1.length order) bx 0 b1)(N:cT (fa b1.length order) (bM l)=r):dr T rs r b1 k e ⟨f,bx,lv,gen⟩:=
 dr.ret (st:=⟨f,bx,lv,gen⟩) T order he hl M I J (fun i c O=>by have:=hb.get i c O;simpa using this) N
end
abbrev Bt:=Nat->Option (List A)
def gK(β:Bt):Option (Nat×List A)->Bt
 |some (g,c)=>fun h=>if h=g then some c else β h
 |none=>β
def lS(o:Oper):Bool:=match o.op with|.alloc _=>true|.box _ _=>true|_=>false
def Ln(o:Oper):Bool:=match o.op with|.store _ _ _=>true|_=>false
def oo(o:Oper):Option Nat:=match o.op with|.store _ (.tmp d) _=>some d|_=>none
def eL:List Oper->Nat->Nat
 |[],_=>0
 |_::_,0=>0
 |o::r,i+1=>(bif lS o then 1 else 0)+eL r i
theorem xu:∀(l:List Oper){i j:Nat},i<=j->eL l i<=eL l j
 |[],i,j,_=>by simp[eL]
 |o::r,0,j,_=>by simp[eL]
 |o::r,i+1,0,h=>by omega
 |o::r,i+1,j+1,h=>by have:=xu r (i:=i) (j:=j) (by omega);simp only[eL];omega
theorem tY:∀{l:List Oper}{i:Nat}{o:Oper},l[i]?=some o->lS o=true->eL l (i+1)=eL l i+1
 |[],i,o,h,_=>by simp at h
 |x::r,0,o,h,hn=>by simp at h;subst h;cases r<;>simp[eL,hn]
 |x::r,i+1,o,h,hn=>by have:=tY (l:=r) (i:=i) (by simpa using h) hn;grind[eL]
theorem xQ{l:List Oper}(h:l[i]?=some o)(I:lS o=true)(J:i<j):eL l i<eL l j:=by have h1:=tY h I;have h2:=xu l (i:=i+1) (j:=j) (by omega);omega
section
variable(T:cG P){n:Nat}{bx:List (Nat×List A)}{r:Nat}{md:Region.Mode}
abbrev Sg:=fq×Bt
structure jK(C:Ctx)(n:Nat)(bx:List (Nat×List A))(lv:List Nat)(gen r:Nat)(σ:Sg)(G:Gh)(tmps:Array Value)(w:World):Prop where
 s:bq C n ⟨[],bx,lv,gen+r⟩ G tmps w
 f:∀t a,σ.1 t=some a->∃v,tmps[t]?=some v∧bK (bu C G (gen+r) w) v a
 b:∀g cells,σ.2 g=some cells->gen<=g∧∃b cs T,G.box g=some b∧w.heap[b]?=some (.cells cs T (0,0))∧cs.size=cells.length∧
   (∀(i:Nat)(u:Value),cs[i]?=some u->u.oneCell'=true)∧∀(i:Nat)(u:Value)(a:A),cs[i]?=some u->cells[i]?=some a->bK (bu C G (gen+r) w) u a
 n:∀g,gen<=g->σ.2 g=none->G.box g=none
 o:∀g,gen<=g->∀c,bh bx g≠some c
theorem jK.lV{I:Sg}(h:jK C n bx lv gen r I G tmps w){bn}(J:∀t a,look f t=some a->I.1 t=some a)(hb:∀g c,bh bn g=some c->I.2 g=some c):
 bq C n ⟨f,bn++bx,lv,gen+r⟩ G tmps w:=
 {h.s with frame:=fun t a M=>h.f t a (J t a M),box:=fun g c N=>(lO N).elim (fun h1=>(h.b g c (hb g c h1)).2) (h.s.box g c)}
theorem jK.ez(h:bq C n ⟨f,bx,lv,gen⟩ G tmps w):jK C n bx lv gen r (look f,fun _=>none) G tmps w:=by
 have h2:bq C n ⟨f,bx,lv,gen+r⟩ G tmps w:=bq.later (st:=⟨f,bx,lv,gen⟩) h (Nat.le_add_right _ _);refine⟨{h2 with frame:=fun t a J=>by simp[look]at J},h2.frame,(fun g c I=>nomatch I),fun g M _=>?_,fun g M c I=>?_⟩;rotate_left
 ·obtain⟨b,_,_,h1,_⟩:=h.box g c I
  have:=(h.gbox g b h1).1;grind
 cases hb:G.box g with
 |none=>rfl
 |some b=>have:=(h.gbox g b hb).1;simp only at this;omega
theorem jK.step{M:Sg}(h:jK C n bx lv gen r M G tmps w)(hb:Below w.heap.size w w')(hd:fY n dst=true){v}(O:bK (bu C G (gen+r) w') v a):
 jK C n bx lv gen r (cH M.1 dst a,M.2) G (Act.put ⟨tmps,[]⟩ dst v).tmps w':=by
 obtain⟨hle,hs⟩:=h.s.ij hb
 have N:∀g cells,M.2 g=some cells->gen<=g∧∃b cs T,G.box g=some b∧w'.heap[b]?=some (.cells cs T (0,0))∧cs.size=cells.length∧
  (∀(i:Nat)(u:Value),cs[i]?=some u->u.oneCell'=true)∧∀(i:Nat)(u:Value)(a:A),cs[i]?=some u->cells[i]?=some a->bK (bu C G (gen+r) w') u a:=by
  intro g cells U;obtain⟨h0,b,cs,T,h1,h2,h3,h4,h5⟩:=h.b g cells U;exact⟨h0,b,cs,T,h1,by rw[hb.block b (h.s.gbox g b h1).2.1];exact h2,h3,h4,fun i u a hu J=>(h5 i u a hu J).mono hle⟩
 cases dst with
 |none=>exact⟨hs,fun t a J=>let⟨v,h1,h2⟩:=h.f t a J;⟨v,h1,h2.mono hle⟩,N,h.n,h.o⟩
 |some d=>
   refine⟨{hs with size:=by have:=hs.size;simpa[Act.put]using this,frame:=fun t a J=>by simp[look]at J},fun t b I=>?_,N,h.n,h.o⟩;simp only[cH]at I;split at I
   ·rename_i e
    subst e;simp only[Option.some.injEq]at I;subst I;exact⟨v,by simp[Act.put,Array.getElem?_setIfInBounds,hs.size,dp hd],O⟩
   ·rename_i e
    obtain⟨u,h1,h2⟩:=h.f t b I;exact⟨u,by simp only[Act.put];rw[Array.getElem?_setIfInBounds_ne (Ne.symm e)];exact h1,h2.mono hle⟩
theorem jK.sM{σ:Sg}(h:jK C n bx lv gen r σ G tmps w)(hg:gen<=g)(a8:g<gen+r)(hn:σ.2 g=none)(cs T cells)(b0:dT (bu C G (gen+r) w) cs cells)(hd:d<n):∃O,jK C n bx lv gen r (cH σ.1 (some d) (.ptr g 0),gK σ.2 (some (g,cells))) O (tmps.setIfInBounds d (.pointer (some ⟨w.heap.size,0,none⟩))) (w.alloc (.cells cs T)):=by
 obtain⟨hs,h1,b2⟩:=b0;have b3:=h.n g hg hn;have hb:Below w.heap.size w (w.alloc (.cells cs T)):=(Below.refl _ w).alloc (χ _) _;let O:Gh:=⟨fun I=>if I=g then some w.heap.size else G.box I,G.own⟩;have b4:w.heap.size<(w.alloc (.cells cs T)).heap.size:=by simp
 have a6:∀{I b},G.box I=some b->O.box I=some b:=by intro I b J;simp only[O];rw[if_neg (by rintro rfl;rw[b3]at J;cases J)];exact J
 have hle:(bu C G (gen+r) w).le (bu C O (gen+r) (w.alloc (.cells cs T))):=by
  refine⟨fun b o u hu ai=>?_,fun b o u hu ho=>?_,fun I b J=>a6 J,fun _ _ _ h=>h,χ _,fun g b len cap sz U _ X=>hb.block b (by obtain⟨_,_,_,cur,T,h3,_⟩:=h.s.row g b len cap sz U X;exact(θ.1 h3).1),fun I b bs _ X=>have hl:=h.s.BE X;⟨fun c hc=>hb.block c (hl.1 c hc),fun p hp=>hb.block p.1 (hl.2 p hp)⟩,.below hb⟩
  ·have ad:=ea hu
   refine⟨by show cellAt (w.alloc _) b o=_;rw[cL (hb.block b ad)];exact hu,fun hp=>ai ?_⟩;rcases hp with hp|⟨I,hp⟩|hp
   ·exact .inl hp
   ·simp only[O]at hp
    split at hp
    ·simp only[Option.some.injEq]at hp
     have:b<w.heap.size:=ad;omega
    ·exact .inr (.inl ⟨I,hp⟩)
   ·exact .inr (.inr hp)
  ·have ad:=ea hu
   exact⟨by show cellAt (w.alloc _) b o=_;rw[cL (hb.block b ad)];exact hu,ho⟩
 have a7:∀I b len cap sz U,G.own I=some (.blk b len cap sz U)->b<w.heap.size:=fun I b len cap sz U X=>by obtain⟨_,_,_,cur,T',h4,_⟩:=h.s.row I b len cap sz U X;exact(θ.1 h4).1
 refine⟨O,{s:={size:=(by have:=h.s.size;simpa using this),frame:=(fun t a ha=>by simp[look]at ha),xold:=h.s.xold,kold:=h.s.kold,lent:=(fun i b hb=>a6 (h.s.lent i b hb)),fr:=h.s.fr.below hb,live:=h.s.live,gown:=h.s.gown,box:=fun I c hc=>?_,gbox:=fun I b J=>?_,inj:=fun g1 g2 b aj a1=>?_,row:=fun I b len cap sz U X=>?_,mrow:=fun I b bs X=>?_,sub:=fun I b bs c lim X hm=>?_,gcell:=fun I b J=>(by simp only[O]at J;split at J<;>first|(simp only[Option.some.injEq]at J;subst J;exact⟨_,_,_,heap_alloc_new w _⟩)|exact ny (.below hb) (h.s.gcell I b J))},f:=fun t a ha=>?_,b:=fun I c hc=>?_,n:=fun I b5 ai=>?_,o:=h.o}⟩
 ·obtain⟨b,cs',T',N,h2,h3,h4,h5⟩:=h.s.box I c hc
  exact⟨b,cs',T',a6 N,by rw[hb.block b (h.s.gbox I b N).2.1];exact h2,h3,h4,fun i u a hu ha=>(h5 i u a hu ha).mono hle⟩
 ·simp only[O]at J
  split at J
  ·rename_i e
   subst e;simp only[Option.some.injEq]at J;subst J;exact⟨a8,b4,.inl h.s.fr.size,fun o ho=>absurd (h.s.kold _ o ho) (by have:=h.s.fr.size;omega)⟩
  ·obtain⟨h6,h7,h8⟩:=h.s.gbox I b J
   exact⟨h6,by simp;omega,h8⟩
 ·simp only[O]at aj a1
  split at aj<;>split at a1;·simp_all
  ·simp only[Option.some.injEq]at aj;have:=(h.s.gbox g2 b a1).2.1;omega
  ·simp only[Option.some.injEq]at a1;have:=(h.s.gbox g1 b aj).2.1;omega
  ·exact h.s.inj g1 g2 b aj a1
 ·obtain⟨N,h2,h3,cur,T',h4,h5⟩:=h.s.row I b len cap sz U X
  refine⟨N,fun g2 M=>?_,h3,cur,T',by rw[hb.block b (a7 I b len cap sz U X)];exact h4,h5⟩;simp only[O]at M;split at M;·simp only[Option.some.injEq]at M;have:=a7 I b len cap sz U X;omega
  ·exact h2 g2 M
 ·obtain⟨N,h2,h3,me,clock,h4⟩:=h.s.mrow I b bs X
  have ad:=(θ.1 h4).1;refine⟨N,fun g2 M=>?_,h3,me,clock,by rw[hb.block b ad];exact h4⟩;simp only[O]at M;split at M;·simp only[Option.some.injEq]at M;omega
  ·exact h2 g2 M
 ·obtain⟨N,h2,h3,h4,cur,T',h5,h6⟩:=h.s.sub I b bs c lim X hm
  have ad:=(θ.1 h5).1;refine⟨N,fun g2 M=>?_,h3,h4,cur,T',by rw[hb.block c ad];exact h5,h6⟩;simp only[O]at M;split at M;·simp only[Option.some.injEq]at M;omega
  ·exact h2 g2 M
 ·simp only[cH]at ha
  split at ha
  ·rename_i e
   subst e;simp only[Option.some.injEq]at ha;subst ha;exact⟨_,by have:=h.s.size;simp[Array.getElem?_setIfInBounds,this,hd],.ptr _ g 0 w.heap.size (by simp[bu];omega) (by simp[bu,O]) rfl⟩
  ·rename_i e
   obtain⟨u,h6,h7⟩:=h.f t a ha;exact⟨u,by rw[Array.getElem?_setIfInBounds_ne (Ne.symm e)];exact h6,h7.mono hle⟩
 ·simp only[gK]at hc
  split at hc
  ·rename_i e
   subst e;simp only[Option.some.injEq]at hc;subst hc;exact⟨hg,w.heap.size,cs,T,by simp[O],heap_alloc_new w _,hs,h1,fun i u a hu ha=>(b2 i u a hu ha).mono hle⟩
  ·obtain⟨h0,b,cs',T',N,h2,h3,h4,h5⟩:=h.b I c hc
   exact⟨h0,b,cs',T',a6 N,by rw[hb.block b (h.s.gbox I b N).2.1];exact h2,h3,h4,fun i u a hu ha=>(h5 i u a hu ha).mono hle⟩
 ·simp only[gK]at ai
  split at ai;·cases ai
  ·rename_i e
   simp only[O];rw[if_neg e];exact h.n I b5 ai
theorem jK.store{σ:Sg}{G:Gh}{tmps:Array Value}{w:World}(h:jK C n bx lv gen r σ G tmps w){g b:Nat}{cs cs':Array Value}{T:TypeId}{cells cells':List A}(hb:σ.2 g=some cells)(N:G.box g=some b)(hw:w.heap[b]?=some (.cells cs T (0,0)))
 (M:dT (bu C G (gen+r) w) cs' cells'):jK C n bx lv gen r (σ.1,gK σ.2 (some (g,cells'))) G tmps (w.setRow b cs'):=by
 have a6:=(h.b g cells hb).1;have a7:w.heap[b]?≠none:=by rw[hw];simp
 have hm:=(h.s.gbox g b N).2.2;have a8:Fr C (w.setRow b cs'):=⟨h.s.fr.os,h.s.fr.tape,h.s.fr.output,by rw[size_setRow];exact h.s.fr.size,fun I h1 h2=>by
  rw[setRow_other w b I cs' (fun e=>by subst e;exact hm.1.elim (fun hm=>by omega) h2)];exact h.s.fr.block I h1 h2,fun I o u hk hu=>by
  rw[cL (setRow_other w b I cs' (fun e=>by subst e;exact absurd (hm.2 o hk) (Nat.not_lt_zero _)))];exact h.s.fr.cells I o u hk hu,h.s.fr.ty.trans (.setRow w b cs')⟩
 have hle:(bu C G (gen+r) w).le (bu C G (gen+r) (w.setRow b cs')):=by
  refine l5 (st:=⟨[],bx,lv,gen+r⟩) h.s.fr a8 (fun I o u hu hn=>⟨?_,hn⟩) (fun _ _ h=>h) (fun _ _ _ h=>h) (χ _) (fun J I len cap sz ad _ M=>?_) (fun J I bs _ M=>⟨?_,fun p hp=>?_⟩) (.setRow w b cs')
  ·have:I≠b:=fun e=>hn (.inr (.inl ⟨g,by rw[e];exact N⟩))
   rw[cL (setRow_other w b I cs' this)];grind
  ·have:I≠b:=fun e=>(h.s.row J I len cap sz ad M).2.1 g (by rw[e];exact N)
   exact setRow_other w b I cs' this
  ·intro c U;subst U;exact setRow_other w b c cs' (fun e=>(h.s.mrow J c bs M).2.1 g (by rw[e];exact N))
  ·exact setRow_other w b p.1 cs' (fun e=>(h.s.sub J I bs p.1 p.2 M hp).2.1 g (by rw[e];exact N))
 refine{s:={size:=h.s.size,frame:=fun t a X=>by simp[look]at X,inj:=h.s.inj,xold:=h.s.xold,kold:=h.s.kold,lent:=h.s.lent,fr:=a8,live:=h.s.live,gown:=h.s.gown,box:=fun J c U=>?_,gbox:=fun J I ai=>?_,row:=fun J I len cap sz ad ai=>?_,mrow:=fun J I bs M=>?_,sub:=fun J I bs c lim M hm=>?_,gcell:=fun J I a7=>ny (.setRow w b cs') (h.s.gcell J I a7)},f:=fun t a X=>let⟨v,h1,h2⟩:=h.f t a X;⟨v,h1,h2.mono hle⟩,b:=fun J c U=>?_,n:=fun J b0 aj=>?_,o:=h.o}
 ·obtain⟨I,a1,T',h1,h2,h3,h4,h5⟩:=h.s.box J c U
  by_cases e:I=b
  ·subst e
   have e2:=h.s.inj J g I h1 N;subst e2;exact absurd U (h.o J a6 c)
  ·exact⟨I,a1,T',h1,by rw[setRow_other w b I cs' e];exact h2,h3,h4,fun i u a hu X=>(h5 i u a hu X).mono hle⟩
 ·obtain⟨h1,h2,h3⟩:=h.s.gbox J I ai
  simp_all
 ·obtain⟨h1,h2,h3,cur,T',h4,h5⟩:=h.s.row J I len cap sz ad ai
  have O:I≠b:=fun e=>h2 g (by rw[e];exact N);exact⟨h1,h2,h3,cur,T',by rw[setRow_other w b I cs' O];exact h4,h5⟩
 ·obtain⟨h1,h2,h3,me,clock,h4⟩:=h.s.mrow J I bs M
  have O:I≠b:=fun e=>h2 g (by rw[e];exact N);exact⟨h1,h2,h3,me,clock,by rw[setRow_other w b I cs' O];exact h4⟩
 ·obtain⟨h1,h2,h3,h4,cur,T',h5,h6⟩:=h.s.sub J I bs c lim M hm
  have O:c≠b:=fun e=>h2 g (by rw[e];exact N);exact⟨h1,h2,h3,h4,cur,T',by rw[setRow_other w b c cs' O];exact h5,h6⟩
 ·simp only[gK]at U
  split at U
  ·rename_i e
   subst e;simp only[Option.some.injEq]at U;subst U;exact⟨a6,b,cs',T,N,setRow_heap w b cs cs' T (0,0) hw,M.1,M.2.1,fun i u a hu X=>(M.2.2 i u a hu X).mono hle⟩
  ·rename_i e
   obtain⟨h0,I,a1,T',h1,h2,h3,h4,h5⟩:=h.b J c U;have O:I≠b:=fun e'=>e (h.s.inj J g b (e'▸h1) N);exact⟨h0,I,a1,T',h1,by rw[setRow_other w b I cs' O];exact h2,h3,h4,fun i u a hu X=>(h5 i u a hu X).mono hle⟩
 ·simp only[gK]at aj
  split at aj;·grind
  ·exact h.n J b0 aj
def YE(P:Program)(T:cG P)(C:Ctx)(n:Nat)(bx:List (Nat×List A))(lv:List Nat)(gen r:Nat)(ops:Array Oper)(i:Nat)(o:Oper)(a:A)(u:Option (Nat×List A))(I:Sg):Prop:=
 fY n o.dst=true∧
  ((lS o=false∧u=none∧YA P C n bx lv (gen+r) ops o a I.1)∨
   (lS o=true∧o.guard=none∧I.2 (gen+eL ops.toList i)=none∧eL ops.toList i<r∧a=.ptr (gen+eL ops.toList i) 0∧∃d cells,o.dst=some d∧u=some (gen+eL ops.toList i,cells)∧
    ((∃e M,o.op=.alloc e∧bh T.l e=some M∧cells=M.z.map fun v=>A.d (.v v))∨
     (∃e x f y,o.op=.box e x∧(∀t z,look f t=some z->I.1 t=some z∧t∈o.looksAt ops)∧av f x=some y∧cellsOf bx y=some cells)))∨
   (Ln o=true∧o.guard=none∧o.dst=none∧a=.any∧∃t J y k ok f z cells cs,o.op=.store t (.tmp J) y∧ops[k]?=some ok∧lS ok=true∧ok.dst=some J∧(∀t z,look f t=some z->I.1 t=some z∧t∈o.looksAt ops)∧
    I.1 J=some (.ptr (gen+eL ops.toList k) 0)∧av f y=some z∧cellsOf bx z=some cs∧eW T t=cs.length∧cs.length≠0∧cs.length<=cells.length∧I.2 (gen+eL ops.toList k)=some cells∧
    u=some (gen+eL ops.toList k,setAt cells 0 cs)))
def sv(ops:Array Oper)(x y:Oper):Prop:=x.apart ops y=true∧∀d,oo x=some d->oo y≠some d
theorem rL{I t}(h:o.op=.store t (.tmp I) y):I∈o.looksAt ops:=by unfold Oper.looksAt;rw[h];exact D'.2 (.inl (by simp[Op.operands]))
section
variable{T}
theorem YE.name{c}{J:Sg}(hi:ops[i]?=some o)(h:YE P T C n bx lv gen r ops i o a (some (g,c)) J):
 ∃k ok I,ops[k]?=some ok∧lS ok=true∧ok.dst=some I∧g=gen+eL ops.toList k∧((k=i)∨(oo o=some I∧I∈o.looksAt ops)):=by
 rcases h with⟨_,⟨_,h,_⟩|⟨h1,_,_,_,_,d,cells,h2,h3,_⟩|⟨h1,_,_,_,t,I,y,k,ok,f,z,cells,cs,h2,h3,h4,h5,_,_,_,_,_,_,_,_,M⟩⟩;·grind
 ·grind
 ·grind[Option.some.injEq,Prod.mk.injEq,oo,rL]
theorem IK{I o'}(U:ops[k]?=some o)(J:ops[I]?=some o')(X:lS o=true)(M:lS o'=true)(h:eL ops.toList k=eL ops.toList I):k=I:=by
 rcases Nat.lt_trichotomy k I with N|he|O
 ·have:=xQ (l:=ops.toList) (by simpa using U) X N;omega
 ·grind
 ·have:=xQ (l:=ops.toList) (by simpa using J) M O;omega
theorem ue{M N b O c c'}{σ U:Sg}(hi:ops[i]?=some M)(hj:ops[j]?=some N)(ai:i≠j)(X:sv ops M N)(h:YE P T C n bx lv gen r ops i M a (some (g,c)) σ)(h':YE P T C n bx lv gen r ops j N b (some (O,c')) U):g≠O:=by
 rintro rfl;obtain⟨k,ok,dx,h1,h2,h3,h4,h5⟩:=YE.name hi h;obtain⟨k',aj,a6,I,ad,J,a7,a8⟩:=YE.name hj h';have e:k=k':=IK h1 I h2 ad (by omega);subst e;rw[h1]at I;simp only[Option.some.injEq]at I;subst I;rw[h3]at J;simp only[Option.some.injEq]at J;subst J;obtain⟨ha,hs⟩:=X;obtain⟨a1,a2,a3⟩:=Oper.apart_spec ha;grind
theorem gS{I:fq}{x}(hd:∀d,dst=some d->d∉o.looksAt ops)(J:t∈o.looksAt ops):cH I dst x t=I t:=by
 cases dst with
 |none=>rfl
 |some e=>grind[cH]
theorem JY{J M:Oper}{b u v}{I O:Sg}(hi:ops[i]?=some J)(hj:ops[j]?=some M)(ad:i≠j)(U:sv ops J M)(h:YE P T C n bx lv gen r ops i J a u I)(ai:YE P T C n bx lv gen r ops j M b v O):
 YE P T C n bx lv gen r ops i J a u (cH I.1 M.dst b,gK I.2 v):=by
 obtain⟨a1,a2,a3⟩:=Oper.apart_spec U.1;have X:∀{g c},u=some (g,c)->gK I.2 v g=I.2 g:=by
  intro g c hu
  cases v with
  |none=>rfl
  |some x=>grind[ue,gK]
 obtain⟨h0,h|h|h⟩:=id h;·exact⟨h0,.inl ⟨h.1,h.2.1,(eN a3).2 h.2.2⟩⟩
 ·obtain⟨h1,h2,h3,h4,h5,d,cells,h6,h7,h8⟩:=h
  refine⟨h0,.inr (.inl ⟨h1,h2,(X h7).trans h3,h4,h5,d,cells,h6,h7,h8.imp id ?_⟩)⟩;grind[gS]
 ·obtain⟨h1,h2,h3,h4,t,dx,y,k,ok,f,z,cells,cs,g1,g2,g3,g4,g5,g6,g7,g8,g9,g10,g11,g12,g13⟩:=h
  exact⟨h0,.inr (.inr ⟨h1,h2,h3,h4,t,dx,y,k,ok,f,z,cells,cs,g1,g2,g3,g4,fun t z N=>⟨(gS a3 (g5 t z N).2).trans (g5 t z N).1,(g5 t z N).2⟩,
   (gS a3 (rL g1)).trans g6,g7,g8,g9,g10,g11,(X g13).trans g12,g13⟩)⟩
theorem Kz{J M:Oper}{b u v}{I U:Sg}(hi:ops[i]?=some J)(hj:ops[j]?=some M)(ad:i≠j)(X:sv ops J M)(ai:YE P T C n bx lv gen r ops i J a u U)(h:YE P T C n bx lv gen r ops j M b v (cH I.1 J.dst a,gK I.2 u)):YE P T C n bx lv gen r ops j M b v I:=by
 obtain⟨N,a2,a3⟩:=Oper.apart_spec X.1;have hv:∀{g c},v=some (g,c)->gK I.2 u g=I.2 g:=by
  intro g c hu
  cases u with
  |none=>rfl
  |some x=>grind[ue,gK]
 obtain⟨h0,h|h|h⟩:=id h;·exact⟨h0,.inl ⟨h.1,h.2.1,(eN N).1 h.2.2⟩⟩
 ·obtain⟨h1,h2,h3,h4,h5,d,cells,h6,h7,h8⟩:=h
  refine⟨h0,.inr (.inl ⟨h1,h2,(hv h7).symm.trans h3,h4,h5,d,cells,h6,h7,h8.imp id ?_⟩)⟩;grind[gS]
 ·obtain⟨h1,h2,h3,h4,t,dx,y,k,ok,f,z,cells,cs,g1,g2,g3,g4,g5,g6,g7,g8,g9,g10,g11,g12,g13⟩:=h
  exact⟨h0,.inr (.inr ⟨h1,h2,h3,h4,t,dx,y,k,ok,f,z,cells,cs,g1,g2,g3,g4,fun t z O=>⟨(gS N (g5 t z O).2).symm.trans (g5 t z O).1,(g5 t z O).2⟩,
   (gS N (rL g1)).symm.trans g6,g7,g8,g9,g10,g11,(hv g13).symm.trans g12,g13⟩)⟩
theorem EB{β:Bt}{u v}(h:∀g c I J,u=some (g,c)->v=some (I,J)->g≠I):gK (gK β u) v=gK (gK β v) u:=by
 cases u with
 |none=>rfl
 |some x=>
   cases v with
   |none=>rfl
   |some y=>grind[gK]
end
def qE(P:Program)(T:cG P)(C:Ctx)(n:Nat)(bx:List (Nat×List A))(lv:List Nat)(gen r:Nat)(ops:Array Oper)(i:Nat)(K:Sg->Prop)(I:Sg):Prop:=
 match ops[i]?with
 |none=>K I
 |some o=>∃a u,YE P T C n bx lv gen r ops i o a u I∧K (cH I.1 o.dst a,gK I.2 u)
theorem H0{I:Sg}{K J:Sg->Prop}(h:∀I,K I->J I)(M:qE P T C n bx lv gen r ops i K I):qE P T C n bx lv gen r ops i J I:=by grind[qE]
theorem J1{I N:Oper}{u}(hi:ops[i]?=some I)(hj:ops[j]?=some N)(U:i≠j)(O:sv ops I N){K:Sg->Prop}{M:Sg}(X:YE P T C n bx lv gen r ops i I a u M)(h:qE P T C n bx lv gen r ops j K (cH M.1 I.dst a,gK M.2 u)):qE P T C n bx lv gen r ops j (fun J=>YE P T C n bx lv gen r ops i I a u J∧K (cH J.1 I.dst a,gK J.2 u)) M:=by
 obtain⟨a1,a2,a3⟩:=Oper.apart_spec O.1;unfold qE at*;simp only[hj]at h⊢;grind[Kz,JY,ld,gK,EB,ue]
def Split(m:Nat)(ops:Array Oper)(listed:Array Bool):Prop:=listed.size=ops.size∧(∀j,j<m->listed.getD j false=true)∧∀j,m<=j->j<ops.size->listed.getD j true=false
def DL(P:Program)(T:cG P)(C:Ctx)(n:Nat)(bx:List (Nat×List A))(lv:List Nat)(gen r m:Nat)(md:Region.Mode)(ops:Array Oper)(Q:Sg->Prop):Nat->Array Bool->Sg->Prop
 |0,listed,I=>Split m ops listed∧Q I
 |fuel+1,listed,I=>Region.ready md ops listed≠[]∧∀i∈Region.ready md ops listed,qE P T C n bx lv gen r ops i (DL P T C n bx lv gen r m md ops Q fuel (listed.setIfInBounds i true)) I
def cX(md:Region.Mode)(ops:Array Oper)(j i:Nat):Bool:=
 match ops[j]?with
 |some o=>o.after.toList.any fun e=>Nat.beq e.on i&&Region.binds md e
 |none=>false
theorem oq{I:Oper}(hj:ops[j]?=some I)(h:cX md ops j i=true):∃e∈I.after,Region.binds md e=true∧e.on=i:=by unfold cX at h;rw[hj]at h;obtain⟨e,he,hb⟩:=List.any_eq_true.1 h;simp only[Bool.and_eq_true]at hb;grind[Nat.eq_of_beq_eq_true]
theorem mg(h:listed.getD i true=false):listed.getD i false=false:=by grind
def vt(md:Region.Mode)(ops:Array Oper)(m:Nat):Bool:=(List.range ops.size).all fun j=>decide (j<m)||(List.range j).all fun i=>cX md ops j i
def CY:List Nat->Bool
 |[]=>true
 |a::r=>!(r.any (Nat.beq a))&&CY r
def kY(l:List Oper):Bool:=CY (l.filterMap oo)
theorem waits(h:vt md ops m=true)(hm:m<=j)(I:i<j)(hj:j∈Region.ready md ops listed):listed.getD i false=true:=by obtain⟨_,O,J,N⟩:=mem_ready.1 hj;have M:j<ops.size:=(θ.1 J).1;have h1:=I'.1 h j (by simpa using M);simp only[Bool.or_eq_true,Δ]at h1;have h2:=I'.1 (h1.resolve_left (by omega)) i (by simpa using I);grind[oq]
theorem By:∀{l:List Oper}(_:kY l=true){i j:Nat}{J I:Oper}(_:l[i]?=some J)(_:l[j]?=some I)(_:i<j){d:Nat}(_:oo J=some d),oo I≠some d
 |[],_,i,j,J,I,h,_,_,_,_=>by simp at h
 |z::l,h,0,j+1,J,I,hi,hj,_,d,hd=>by simp at hi;subst hi;intro he;simp only[kY,List.filterMap_cons,hd,CY,μ,Bool.not_eq_true']at h;have h1:(l.filterMap oo).any (Nat.beq d)=true:=F'.2 ⟨d,List.mem_filterMap.2 ⟨I,ζ (by simpa using hj),he⟩,Nat.beq_refl d⟩;grind
 |z::l,h,i+1,j+1,J,I,hi,hj,hij,d,hd=>by
   refine By (l:=l) ?_ (i:=i) (j:=j) (by simpa using hi) (by simpa using hj) (by omega) hd;simp only[kY,List.filterMap_cons]at h⊢
   cases M:oo z with
   |none=>simpa only[M]using h
   |some e=>simp only[M,CY,μ]at h;grind
 |z::l,_,i,0,J,I,_,_,hij,_,_=>by omega
theorem Ge{l:List Oper}(h:kY l=true){I J}(hi:l[i]?=some I)(hj:l[j]?=some J)(M:i≠j)(d)(hd:oo I=some d):oo J≠some d:=by grind[Nat.lt_or_ge,By]
theorem D9{Q:Sg->Prop}{M:Oper}{u}(hone:kY (ops.toList.take m)=true)(hw:vt md ops m=true)(b0:i<m)(hi:ops[i]?=some M):
 ∀(fuel:Nat)(listed:Array Bool)(I:Sg),
   (∀j N,ops[j]?=some N->j≠i->listed.getD j true=false->(∀e∈N.after,Region.binds md e=true->e.on≠i)->M.apart ops N=true)->
   i∈Region.ready md ops listed->YE P T C n bx lv gen r ops i M a u I->
   DL P T C n bx lv gen r m md ops Q fuel (listed.setIfInBounds i true) (cH I.1 M.dst a,gK I.2 u)->DL P T C n bx lv gen r m md ops Q (fuel+1) listed I:=by
 have take:∀{K:Sg->Prop}{I:Sg},YE P T C n bx lv gen r ops i M a u I->K (cH I.1 M.dst a,gK I.2 u)->qE P T C n bx lv gen r ops i K I:=by intro K I U hk;unfold qE;simp only[hi];exact⟨a,u,U,hk⟩
 have X:∀{listed:Array Bool},i∈Region.ready md ops listed->listed.getD i false=false:=by intro listed J;exact mg (mem_ready.1 J).1
 intro fuel
 induction fuel with
 |zero=>
   intro listed I _ J U H;refine⟨fun h=>(by rw[h]at J;cases J),fun j hj=>?_⟩;by_cases hji:j=i;·subst hji;exact take U H
   ·exfalso
    obtain⟨⟨_,h1,h2⟩,_⟩:=H;have b2:=(mem_ready.1 hj).1;by_cases ad:j<m
    ·have:=h1 j ad
     rw[getD_set_ne false (Ne.symm hji)]at this;rw[mg b2]at this;cases this
    ·have:=waits hw (by omega) (show i<j by omega) hj
     rw[X J]at this;cases this
 |succ fuel ih=>
   intro listed I O J U H;refine⟨fun h=>(by rw[h]at J;cases J),fun j hj=>?_⟩;by_cases hji:j=i;·subst hji;exact take U H
   ·have h1:=H.2 j (ready_mono hj hji)
    obtain⟨ai,N,aj,a7⟩:=mem_ready.1 hj;have a8:∀e∈N.after,Region.binds md e=true->e.on≠i:=fun e he hb heq=>by have h1:=a7 e he hb;rw[heq,X J]at h1;cases h1
    have ad:j<m:=by
     rcases Nat.lt_or_ge j m with h|h
     ·exact h
     ·have:=waits hw h (show i<j by omega) hj
      rw[X J]at this;cases this
    have b3:sv ops M N:=by
     refine⟨O j N aj hji ai a8,Ge (i:=i) (j:=j) hone ?_ ?_ (Ne.symm hji)⟩;·rw[List.getElem?_take,if_pos b0];simpa using hi
     ·rw[List.getElem?_take,if_pos ad];simpa using aj
    have h2:=J1 T hi aj (Ne.symm hji) b3 U h1
    have a1:∀k ok,ops[k]?=some ok->k≠i->(listed.setIfInBounds j true).getD k true=false->
     (∀e∈ok.after,Region.binds md e=true->e.on≠i)->M.apart ops ok=true:=fun k ok hk b4 a6 b5=>by
     refine O k ok hk b4 ?_ b5;by_cases hjk:j=k;·subst hjk;exact ai
     ·rw[getD_set_ne true hjk]at a6;exact a6
    refine H0 T (fun b6 h3=>ih (listed.setIfInBounds j true) b6 a1 (ready_mono J (Ne.symm hji)) h3.1 ?_) h2;rw[Array.setIfInBounds_comm _ _ hji];exact h3.2
def JS(P:Program)(T:cG P)(C:Ctx)(n:Nat)(bx:List (Nat×List A))(lv:List Nat)(gen r:Nat)(ops:Array Oper)(Q:Sg->Prop):List Oper->Nat->Sg->Prop
 |[],_,σ=>Q σ
 |o::rest,i,σ=>∃a u,YE P T C n bx lv gen r ops i o a u σ∧JS P T C n bx lv gen r ops Q rest (i+1) (cH σ.1 o.dst a,gK σ.2 u)
def rz(md:Region.Mode)(ops:Array Oper):Nat->Nat->Array Bool->Bool
 |0,_,_=>true
 |t+1,k,listed=>(Region.ready md ops listed).contains k&&Region.free md ops listed k&&rz md ops t (k+1) (listed.setIfInBounds k true)
theorem BY{Q:Sg->Prop}(hone:kY (ops.toList.take m)=true)(hw:vt md ops m=true):∀(l:List Oper)(k:Nat)(listed:Array Bool)(I:Sg),k+l.length=m->(∀j,j<l.length->l[j]?=ops[k+j]?)->
 listed.size=ops.size->(∀j,j<k->listed.getD j false=true)->(∀j,k<=j->j<ops.size->listed.getD j true=false)->
 rz md ops l.length k listed=true->JS P T C n bx lv gen r ops Q l k I->DL P T C n bx lv gen r m md ops Q l.length listed I
 |[],k,listed,I,hk,_,hs,h1,h2,_,h=>⟨⟨hs,fun j hj=>h1 j (by simp at hk;omega),fun j hj J=>h2 j (by simp at hk;omega) J⟩,h⟩
 |o::l,k,listed,I,hk,hl,hs,h1,h2,hB,h=>by
   have h0:ops[k]?=some o:=by simpa using(hl 0 (by simp)).symm
   have ad:k<ops.size:=(θ.1 h0).1;simp only[Ξ,rz,μ]at hB;obtain⟨⟨U,X⟩,M⟩:=hB;obtain⟨a,u,hy,hK⟩:=h;have N:k<m:=by simp at hk;omega
   refine D9 T hone hw N h0 l.length listed I (Region.free_spec h0 X) (by simpa using U) hy
    (BY hone hw l (k+1) _ _ (by simp at hk;omega) (fun j hj=>by have:=hl (j+1) (by simpa using hj);simpa[Nat.add_assoc,Nat.add_comm 1 j]using this) (by simpa using hs) (fun j hj=>?_) (fun j hj J=>?_) M hK)
   ·rcases Nat.lt_succ_iff_lt_or_eq.1 hj with O|rfl
    ·exact getD_set_true (h1 j O)
    ·simp_all
   ·rw[getD_set_ne true (by omega)]
    grind
theorem CK{i:Nat}{σ:Sg}{K:Sg->Prop}{K':Act->World->Prop}{Q':Exit->Act->World->Prop}{G:Gh}{tmps:Array Value}{w:World}(hs:jK C n bx lv gen r σ G tmps w)
 (h:∀σ G tmps w,jK C n bx lv gen r σ G tmps w->K σ->K' ⟨tmps,C.ds⟩ w)(hh:qE P T C n bx lv gen r ops i K σ):wpOp P ops Q' i K' ⟨tmps,C.ds⟩ w:=by
 unfold qE at hh;unfold wpOp;split;·rename_i ho;simp only[ho]at hh;exact h _ _ _ _ hs hh
 ·rename_i o ho
  simp only[ho]at hh;obtain⟨a,u,⟨hd,J⟩,X⟩:=hh;have M:fm C n bx lv (gen+r) σ.1 G tmps w:=⟨hs.s,hs.f⟩;rcases J with⟨_,rfl,_,J⟩|⟨_,a6,ad,hr,rfl,d,cells,I,rfl,J⟩|⟨_,a6,I,rfl,t,dx,y,k,ok,f,z,cells,cs,O,hok,df,di,hf,N,a7,ch,ai,hz,hle,aj,rfl⟩
  ·rcases J with⟨hw,f,hf,hp⟩|⟨hw,rfl⟩
   ·rw[hZ M hw]
    simp only[if_true];refine .inl ?_;have hg:et P o ⟨tmps,[]⟩ w fun v w'=>Below w.heap.size w w'∧bK (bu C G (gen+r) w') v a:=hp G tmps w (M.lV fun t x N=>(hf t x N).1);refine hg.ds.wp fun v w'⟨hb,hr⟩=>?_;rw[Act.iP];exact h _ _ _ _ (hs.step hb hd hr) X
   ·rw[hZ M hw]
    simp only[L',if_false];rw[Act.iP];exact h _ _ _ _ (hs.step (Below.refl _ _) hd (.tup #[] [] rfl (by simp))) X
  ·have a8:Region.wanted o (yielded ops tmps)=true:=by simp[Region.wanted,a6]
   rw[a8];simp only[if_true];refine .inl ?_;rw[I]at X;have b5:d<n:=dp hd d I;rcases J with⟨e,dt,O,he,rfl⟩|⟨e,x,f,y,O,hf,a7,hc⟩
   ·obtain⟨i',zz,hi,_,_,cj,b2,dj,cl,_⟩:=T.info he
    have b3:∀(i:Nat)(u:Value),zz.cells[i]?=some u->dy u=true:=fun i u hu=>by
     have:u∈dt.z:=by rw[<-b2,ψ];exact⟨i,by simpa using hu⟩
     exact I'.1 cl u this
    obtain⟨G',U⟩:=hs.sM (Nat.le_add_right _ _) (by omega) ad zz.cells e (dt.z.map fun v=>.d (.v v)) ⟨by rw[η,←b2];simp,fun i u hu=>nR (b3 i u hu),fun i u a hu ha=>by
     simp only[τ,ν]at ha;obtain⟨y,J,rfl⟩:=ha;rw[<-b2]at J;have:y=u:=by simp at J;rw[hu]at J;exact(J' J).symm
     subst this;exact .d (.v _ (b3 i y hu))⟩ b5
    refine(dE (v:=.pointer (some ⟨w.heap.size,0,none⟩)) (w':=w.alloc (.cells zz.cells e)) (R:=fun v w'=>v=.pointer (some ⟨w.heap.size,0,none⟩)∧w'=w.alloc (.cells zz.cells e)) ?_ ⟨rfl,rfl⟩:et P o ⟨tmps,[]⟩ w _).ds.wp ?_
    ·unfold execOp
     rw[O];show Sem.run P _ w=_;simp only[Instr.alloc,zeroValue,typeInfo,hi,cj,newVar,newRow,Sem.run_bind,run_program,run_newObj,Result.andThen_ok,Sem.run_pure];rfl
    ·rintro v w' ⟨rfl,rfl⟩
     rw[I];exact h _ G' _ _ U X
   ·have cq:=kI (M.lV fun t x N=>(hf t x N).1) hc (bq.av (M.lV fun t x N=>(hf t x N).1) a7)
    obtain⟨G',U⟩:=hs.sM (Nat.le_add_right _ _) (by omega) ad (Act.eval ⟨tmps,[]⟩ x).cells e cells cq b5;refine(dE (v:=.pointer (some ⟨w.heap.size,0,none⟩)) (w':=w.alloc (.cells (Act.eval ⟨tmps,[]⟩ x).cells e)) (R:=fun v w'=>v=.pointer (some ⟨w.heap.size,0,none⟩)∧w'=w.alloc (.cells (Act.eval ⟨tmps,[]⟩ x).cells e)) ?_ ⟨rfl,rfl⟩:et P o ⟨tmps,[]⟩ w _).ds.wp ?_
    ·unfold execOp
     rw[O];show Sem.run P _ w=_;simp only[Instr.box,newVar,newRow,Sem.run_bind,run_newObj,Result.andThen_ok,Sem.run_pure];rfl
    ·rintro v w' ⟨rfl,rfl⟩
     rw[I];exact h _ G' _ _ U X
  ·have a8:Region.wanted o (yielded ops tmps)=true:=by simp[Region.wanted,a6]
   rw[a8];simp only[if_true];refine .inl ?_;rw[I]at X;obtain⟨_,b,cur,T',h1,h2,h3,h4,h5⟩:=hs.b _ cells aj;obtain⟨v,cx,cy⟩:=hs.f dx _ N;have hv:Act.eval ⟨tmps,[]⟩ (.tmp dx)=.pointer (some ⟨b,0,none⟩):=by
    have e:Act.eval ⟨tmps,[]⟩ (.tmp dx)=v:=by simp[Act.eval,cx]
    rw[e]
    cases cy with
    |ptr _ _ _ b0 _ c1 c6=>exact oO c1 c6 b h1
   have hG:=M.lV (f:=f) fun t x N=>(hf t x N).1;have a1:=kI hG ch (bq.av hG a7);have b6:=run_storeCells_at P b 0 T' (Act.eval ⟨tmps,[]⟩ y).cells.toList 0 cur w h2 (by have:=a1.1;simp at this⊢;omega) (fun v hv=>by obtain⟨i,hi⟩:=ψ.1 hv;exact a1.2.1 i v (by simpa using hi));obtain⟨dt,b4,c7⟩:∃d,bh T.l t=some d∧d.n=cs.length:=by
    unfold eW at ai;split at ai;·rename_i d b4;exact⟨d,b4,ai⟩
    ·exact absurd ai.symm hz
   have U:=hs.store aj h1 h2 (ay (off:=0) ⟨h3,h4,h5⟩ a1 (by omega));refine(kp (R:=fun v w'=>v=undef∧w'=w.setRow b (cur.toList.take 0++(Act.eval ⟨tmps,[]⟩ y).cells.toList++cur.toList.drop (0+(Act.eval ⟨tmps,[]⟩ y).cells.toList.length)).toArray) ?_ ⟨rfl,rfl⟩:et P o ⟨tmps,[]⟩ w _).ds.wp ?_
   ·unfold execOp
    rw[O];show Sem.run P _ w=_;simp only[hv,Instr.storeAt,Instr.sureAddr,storeVar,Sem.run_bind,Sem.run_pure,Result.andThen_ok,T.sizeOf b4];rw[if_neg (by rw[c7];simp;exact a1.1)];simp only[Nat.add_zero]at b6;simp only[b6,Result.andThen_ok]
   ·rintro v w' ⟨rfl,rfl⟩
    rw[I];exact h _ G _ _ U X
theorem vb{Q:Sg->Prop}(J:∀listed I G tmps w,jK C n bx lv gen r I G tmps w->Split m ops listed->Q I->wpAny P md ops Q' t listed ⟨tmps,C.ds⟩ w):
 ∀(fuel:Nat)(listed:Array Bool)(I:Sg)(G:Gh)(tmps:Array Value)(w:World),jK C n bx lv gen r I G tmps w->DL P T C n bx lv gen r m md ops Q fuel listed I->wpAny P md ops Q' (fuel+t) listed ⟨tmps,C.ds⟩ w
 |0,_,_,_,_,_,hs,h=>by rw[Nat.zero_add];exact J _ _ _ _ _ hs h.1 h.2
 |fuel+1,_,_,_,_,_,hs,h=>by rw[Nat.add_right_comm];exact⟨fun h0=>absurd h0 h.1,fun i hi=>CK T hs (fun I G tmps w M=>vb J fuel _ I G tmps w M) (h.2 i hi)⟩
theorem uZ{Q':Exit->Act->World->Prop}(hw:vt md ops m=true)(J:∀k,m<=k->∀o,ops[k]?=some o->∀e∈o.after,Region.binds md e=true->e.on<k):
 ∀(l:List Oper)(k:Nat)(listed:Array Bool)(act:Act)(w:World),m<=k->k+l.length=ops.size->(∀j,l[j]?=ops[k+j]?)->listed.size=ops.size->(∀j,j<k->listed.getD j false=true)->(∀j,k<=j->j<ops.size->listed.getD j true=false)->
   fO P ops Q' l act w->wpAny P md ops Q' l.length listed act w
 |[],k,listed,act,w,hm,hk,_,hs,h1,h2,h=>by refine⟨?_,h⟩;refine List.eq_nil_iff_forall_not_mem.2 fun j hj=>?_;obtain⟨h3,oj,ai,_⟩:=mem_ready.1 hj;grind
 |o::l,k,listed,act,w,hm,hk,hl,hs,h1,h2,h=>by
   have h0:ops[k]?=some o:=by simpa using(hl 0).symm
   have M:k<ops.size:=(θ.1 h0).1;have I:k∈Region.ready md ops listed:=mem_ready.2 ⟨h2 k (χ _) M,o,h0,fun e he hb=>h1 _ (J k hm o h0 e he hb)⟩;refine⟨fun hn=>(by rw[hn]at I;cases I),fun i hi=>?_⟩;have O:i=k:=by
    obtain⟨h3,oi,aj,_⟩:=mem_ready.1 hi;rcases Nat.lt_trichotomy i k with N|he|U
    ·grind
    ·grind
    ·have:=waits hw (by omega) U hi
     grind
   subst O
   have ih:=fun act w=>uZ (Q':=Q') hw J l (i+1) (listed.setIfInBounds i true) act w (by omega) (by simp at hk;omega) (fun j=>by have:=hl (j+1);simpa[Nat.add_assoc,Nat.add_comm 1 j]using this) (by simpa using hs)
    (fun j hj=>by
     rcases Nat.lt_succ_iff_lt_or_eq.1 hj with N|rfl
     ·exact getD_set_true (h1 j N)
     ·simp[hs,M]) (fun j hj X=>by rw[getD_set_ne true (by omega)];exact h2 j (by omega) X)
   simp only[fO]at h;unfold wpOp;simp only[h0];split
   ·rename_i ad
    rw[if_pos ad]at h;exact .inl (Oper.wp_mono ih h)
   ·grind
def B5(md:Region.Mode)(ops:Array Oper)(m:Nat):Bool:=(List.range ops.size).all fun k=>decide (k<m)||match ops[k]?with|some o=>o.after.toList.all fun e=>!Region.binds md e||decide (e.on<k)|none=>true
theorem nI(h:B5 md ops m=true):∀k,m<=k->∀o,ops[k]?=some o->∀e∈o.after,Region.binds md e=true->e.on<k:=by intro k hm o J e he hb;have I:=(θ.1 J).1;have h1:=I'.1 h k (by simpa using I);grind
def CE(P:Program)(T:cG P)(C:Ctx)(n:Nat)(bx:List (Nat×List A))(lv:List Nat)(gen r:Nat)(ops:Array Oper)(Q:St->Prop)(l:List Oper)(i:Nat)(f:List (Nat×A))(bn:List (Nat×List A)):Prop:=
 JS P T C n bx lv gen r ops (fun J=>∃f' I,(∀t,look f' t=J.1 t)∧(∀g,bh I g=J.2 g)∧Q ⟨f',I++bx,lv,gen+r⟩) l i (look f,bh bn)
def xh(m r:Nat)(ops:Array Oper):Bool:=
 Nat.ble m ops.size&&kY (ops.toList.take m)&&vt .any ops m&&B5 .any ops m&&rz .any ops m 0 (Array.replicate ops.size false)&&Nat.beq (eL ops.toList m) r
theorem W.Bp{l:List Oper}(m r)(hB:xh m r l.toArray=true)(h1:l.take m=l1)(h2:l.drop m=l2)(h:CE P T C n bx lv gen r l.toArray (WO P C n l.toArray Q l2) l1 0 f []):W P C n (.region id l.toArray true) Q ⟨f,bx,lv,gen⟩:=by
 subst h1;subst h2;intro tmps w ⟨G,hs⟩;simp only[xh,μ]at hB;obtain⟨⟨⟨⟨⟨hm,hone⟩,hw⟩,N⟩,I⟩,hr⟩:=hB;have hm:m<=l.length:=by simpa using κ hm
 have hb:Below w.heap.size w {w with drawn:=w.drawn+1}:=(Below.refl _ w).drew;have X:jK C n bx lv gen r (look f,fun _=>none) G tmps {w with drawn:=w.drawn+1}:=jK.ez (hs.ij hb).2;have hlen:(l.take m).length=m:=by simp;omega
 refine wp_region_any T.mixed ?_;have O:l.toArray.size=(l.take m).length+(l.drop m).length:=by simp;omega
 rw[O];refine vb T (m:=m) (Q:=fun U=>∃f' J,(∀t,look f' t=U.1 t)∧(∀g,bh J g=U.2 g)∧WO P C n l.toArray Q (l.drop m) ⟨f',J++bx,lv,gen+r⟩) (fun listed U G tmps w hs M⟨f',J,e1,e2,hq⟩=>?_) _ _ _ G _ _ X ?_
 ·refine uZ hw (nI N) (l.drop m) m listed ⟨tmps,C.ds⟩ w (χ _) (by simp;omega) (fun j=>by simp[List.getElem?_drop]) M.1 M.2.1 M.2.2 ?_
  exact hq tmps w ⟨G,hs.lV (fun t a ha=>by rw[<-e1];exact ha) (fun g c hc=>by rw[<-e2];exact hc)⟩
 ·refine BY T hone hw (l.take m) 0 _ _ (by rw[hlen];omega) (fun j hj=>?_) (by simp;omega) (fun j hj=>by omega) (fun j _ hj=>?_) (by rw[hlen];rw[O,hlen]at I;exact I) h
  ·grind
  ·simp_all
variable{T}
variable{op:Op}{pos:String}{af:Array Edge}{rest:List Oper}{bn:List (Nat×List A)}{Q:St→Prop}
theorem aM(h:Q ⟨f,bn++bx,lv,gen+r⟩):CE P T C n bx lv gen r ops Q [] i f bn:=⟨f,bn,fun _=>rfl,fun _=>rfl,h⟩
theorem uB(I:lS ⟨some d,op,ty,pos,af,none⟩=false)(hp:Pu P C n ⟨dk f (slotsOf op),bx,lv,gen+r⟩ ⟨some d,op,ty,pos,af,none⟩ a)(hd:Nat.blt d n=true)(h:CE P T C n bx lv gen r ops Q rest (i+1) ((d,a)::f) bn):
 CE P T C n bx lv gen r ops Q (⟨some d,op,ty,pos,af,none⟩::rest) i f bn:=by
 unfold CE at*;rw[fg]at h;refine⟨a,none,⟨hd,.inl ⟨I,rfl,hd,.inl ⟨rfl,_,fun t x J=>?_,hp⟩⟩⟩,h⟩;obtain⟨h1,h2⟩:=fA J;exact⟨h1,D'.2 (.inl h2)⟩
theorem xr{c}:bh ((g,c)::bn)=gK (bh bn) (some (g,c)):=by funext t;grind[cZ,gK]
theorem Bj{e}{I:cV}{l}(c:Nat)(J:Nat.beq (eL ops.toList i) c=true)(N:Nat.blt c r=true)(M:bh bn (gen+c)=none)(he:bh T.l e=some I)(hl:(I.z.map fun v=>A.d (.v v))=l)(hd:Nat.blt d n=true)(h:CE P T C n bx lv gen r ops Q rest (i+1) ((d,.ptr (gen+c) 0)::f) ((gen+c,l)::bn)):CE P T C n bx lv gen r ops Q (⟨some d,.alloc e,ty,pos,af,none⟩::rest) i f bn:=by
 unfold CE at*;rw[fg,xr]at h;have J:=Γ J;subst J;subst hl;exact⟨_,_,⟨hd,.inr (.inl ⟨rfl,rfl,M,κ N,rfl,d,_,rfl,rfl,.inl ⟨e,I,rfl,he,rfl⟩⟩)⟩,h⟩
theorem IX{t I}{ok:Oper}{z}{cs:List A}(k c:Nat)(hx:look f I=some (.ptr (gen+c) 0))(hk:ops[k]?=some ok)(M:lS ok=true)(N:ok.dst=some I)(J:Nat.beq (eL ops.toList k) c=true)(hb:bh bn (gen+c)=some cells)(O:av (dk f (slotsOf (.store t (.tmp I) y))) y=some z)(hc:cellsOf bx z=some cs)(U:eW T t=cs.length)(X:Nat.blt 0 cs.length=true)(hle:Nat.ble cs.length cells.length=true)(hs:setAt cells 0 cs=cells')(h:CE P T C n bx lv gen r ops Q rest (i+1) f ((gen+c,cells')::bn)):CE P T C n bx lv gen r ops Q (⟨none,.store t (.tmp I) y,ty,pos,af,none⟩::rest) i f bn:=by
 unfold CE at*;rw[xr]at h;have J:=Γ J;subst hs;subst J;have X:=κ X;refine⟨.any,_,⟨rfl,.inr (.inr ⟨rfl,rfl,rfl,rfl,t,I,y,k,ok,_,z,cells,cs,rfl,hk,M,N,fun t' z' ad=>?_,hx,O,hc,U,by omega,κ hle,hb,rfl⟩)⟩,h⟩;obtain⟨h1,h2⟩:=fA ad;exact⟨h1,D'.2 (.inl h2)⟩
end
section
variable(T:cG P){n:Nat}{rest:List Oper}{c:Code}
variable{bx:List (Nat×List A)}{pos:String}{af:Array Edge}
theorem Lm{k:IntKind}{p q:Int}(O:av f x=some (.d (.v (.int k p))))(U:av f y=some (.d (.v (.int k q))))(X:q≠0)(ho:dy (.int k (p.tmod q))=true):
 Pu P C n ⟨f,bx,lv,gen⟩ ⟨dst,.binOp .rem t x y t',ty,pos,af,none⟩ (.d (.v (.int k (p.tmod q)))):=by
 refine aq fun G tmps w hs=>?_;have I:=hs.av O;have J:=hs.av U;generalize M:Act.eval ⟨tmps,[]⟩ x=vx at I;generalize N:Act.eval ⟨tmps,[]⟩ y=vy at J;cases I with|d I=>cases I with|v _ _=>
 cases J with|d J=>cases J with|v _ _=>
 refine⟨_,?_,.d (.v _ ho)⟩;unfold execOp;show Sem.run P _ w=_;simp[M,N,eqGuard,binOp,Op.intDiv,X];rfl
theorem JZ{k:IntKind}{p q:Int}(O:av f x=some (.d (.v (.int k p))))(U:av f y=some (.d (.v (.int k q))))(X:q≠0)(ho:dy (.int k (k.wrap (p.tdiv q)))=true):
 Pu P C n ⟨f,bx,lv,gen⟩ ⟨dst,.binOp .quo t x y t',ty,pos,af,none⟩ (.d (.v (.int k (k.wrap (p.tdiv q))))):=by
 refine aq fun G tmps w hs=>?_;have I:=hs.av O;have J:=hs.av U;generalize M:Act.eval ⟨tmps,[]⟩ x=vx at I;generalize N:Act.eval ⟨tmps,[]⟩ y=vy at J;cases I with|d I=>cases I with|v _ _=>
 cases J with|d J=>cases J with|v _ _=>
 refine⟨_,?_,.d (.v _ ho)⟩;unfold execOp;show Sem.run P _ w=_;simp[M,N,eqGuard,binOp,Op.intDiv,X];rfl
theorem eY{p q:ByteArray}(O:av f x=some (.d (.v (.string p))))(U:av f y=some (.d (.v (.string q))))(hb:p.size+q.size<=9223372036854775807):
 Pu P C n ⟨f,bx,lv,gen⟩ ⟨dst,.binOp .add t x y t',ty,pos,af,none⟩ (.d (.v (.string (p++q)))):=by
 refine aq fun G tmps w hs=>?_;have I:=hs.av O;have J:=hs.av U;generalize M:Act.eval ⟨tmps,[]⟩ x=vx at I;generalize N:Act.eval ⟨tmps,[]⟩ y=vy at J;cases I with|d I=>cases I with|v _ _=>
 cases J with|d J=>cases J with|v _ _=>
 refine⟨_,?_,.d (.v _ ?_)⟩
 ·unfold execOp
  show Sem.run P _ w=_;have:¬((p.size+q.size:Nat):Int)>IntKind.i64.max:=by simp[IntKind.max,IntKind.signed,IntKind.bits];omega
  simp only[M,N,eqGuard,binOp,Op.stringOp,if_neg this];simp;rfl
 ·simp[dy,maxLen,ByteArray.size_append]
  omega
end
def uL:List A->Option (List D)
 |[]=>some []
 |.d x::l=>match uL l with
   |some r=>some (x::r)
   |none=>none
 |_::_=>none
def Hu{P:Program}(T:cG P)(f:List (Nat×A))(bx:List (Nat×List A))(op:Op):Option A:=
 match kA T f bx op with
 |some a=>some a
 |none=>match op with
   |.load t x=>match bh T.l t with
     |some td=>bif td.k.agg then match av f x with
       |some (.rowd l)=>bif Nat.beq l.length td.n then some (.ag l)else none
       |some (.ptr g 0)=>match bh bx g with
         |some cells=>match uL cells with
           |some l=>bif Nat.beq l.length td.n then some (.ag l)else none
           |none=>none
         |none=>none
       |_=>none
       else none
     |none=>none
   |_=>none
def runK{P:Program}(T:cG P)(n:Nat):Nat->List Oper->List (Nat×A)->List (Nat×List A)->Option (List Oper×List (Nat×A))
 |0,l,f,_=>some (l,f)
 |k+1,⟨some d,op,_,_,_,none⟩::r,f,bx=>match Hu T f bx op with
   |some a=>bif Nat.blt d n then runK T n k r ((d,a)::f) bx else none
   |none=>none
 |_+1,_,_,_=>none
theorem Am:∀{l:List A}{r:List D},uL l=some r->l=r.map A.d
 |[],r,h=>by simp only[uL,Option.some.injEq]at h;subst h;rfl
 |a::l,r,h=>by
   cases a with
   |d x=>
     simp only[uL]at h
     cases hl:uL l with
     |none=>rw[hl]at h;cases h
     |some I=>rw[hl]at h;cases h;rw[Am hl];rfl
   |_=>simp[uL]at h
section
variable(T:cG P){n:Nat}{bx:List (Nat×List A)}
theorem Jn{op pos af}(he:Hu T f bx op=some a):Pu P C n ⟨f,bx,lv,gen⟩ ⟨dst,op,ty,pos,af,none⟩ a:=by
 unfold Hu at he;split at he
 ·rename_i a' h1
  cases he;exact ev T h1
 ·split at he
  ·rename_i t x
   split at he
   ·rename_i td N
    cases I:td.k.agg with
    |false=>rw[I]at he;cases he
    |true=>
      rw[I]at he;simp only[cond_true]at he;split at he
      ·rename_i J M
       cases hl:Nat.beq J.length td.n with
       |false=>rw[hl]at he;cases he
       |true=>rw[hl]at he;cases he;exact cS T N I M (Γ hl)
      ·rename_i g M
       split at he
       ·rename_i cells hb
        split at he
        ·rename_i J O
         cases hl:Nat.beq J.length td.n with
         |false=>rw[hl]at he;cases he
         |true=>rw[hl]at he;cases he;exact cR T N I M (by rw[<-Am O];exact hb) (Γ hl)
        ·cases he
       ·cases he
      ·cases he
   ·cases he
  ·cases he
theorem FY:∀(k:Nat){l r:List Oper}{f f':List (Nat×A)},runK T n k l f bx=some (r,f')->WO P C n ops Q r ⟨f',bx,lv,gen⟩->WO P C n ops Q l ⟨f,bx,lv,gen⟩
 |0,l,r,f,f',h,q=>by grind[runK,Option.some.injEq,Prod.mk.injEq]
 |k+1,l,r,f,f',h,q=>by
   cases l with
   |nil=>simp[runK]at h
   |cons o l'=>
   obtain⟨dst,op,ty,pos,af,I⟩:=o
   cases dst with
   |none=>simp[runK]at h
   |some d=>
   cases I with
   |some g=>simp[runK]at h
   |none=>
   simp only[runK]at h
   cases he:Hu T f bx op with
   |none=>rw[he]at h;cases h
   |some a=>
     rw[he]at h
     cases hd:Nat.blt d n with
     |false=>rw[hd]at h;cases h
     |true=>rw[hd]at h;exact pu (Jn T he) hd (FY k h q)
theorem JB(k){l:List Oper}{f'}(h:runK T n k l f bx=some ([],f'))(q:Q .normal ⟨f',bx,lv,gen⟩):W P C n (.region id l.toArray false) Q ⟨f,bx,lv,gen⟩:=ab (FY T k h (ae q))
theorem Lq(k){l:List Oper}{c f'}(h:runK T n k l f bx=some ([],f'))(q:W P C n c Q ⟨f',bx,lv,gen⟩):W P C n (.seq (.region id l.toArray false) c) Q ⟨f,bx,lv,gen⟩:=aa (JB T k h (qs q))
end
abbrev gP(v:Value):Exit:=.panic [{v:=v,recovered:=false}]
section
variable{n:Nat}
theorem bq.Ec(h:bq C n st G tmps w)(h1:Fr (fJ C G w gs os) w'):Fr C w':=by
 have N:∀{b},gg G gs b->C.jF b 0∧b<w.heap.size:=by rintro b ⟨g,_,U⟩;exact⟨(h.gbox g b U).2.2,(h.gbox g b U).2.1⟩
 have O:∀{b lim},fy G os b lim->C.jF b lim∧b<w.heap.size∧(∀g',G.box g'≠some b):=by rintro b lim ⟨g,_,r,U,aj⟩;grind[bq.rowAt]
 have ad:∀{b},(gg G gs b∨∃lim,fy G os b lim)->C.w0.heap.size<=b∨C.fp b:=by
  rintro b (hl|⟨lim,hl⟩);·exact(N hl).1.1
  ·exact(O hl).1.1
 have J:∀{b},b<w.heap.size->¬(gg G gs b∨∃lim,fy G os b lim)->w'.heap[b]?=w.heap[b]?:=fun I M=>h1.block _ I M;refine⟨h1.os.trans h.fr.os,h1.tape.trans h.fr.tape,h1.output.trans h.fr.output,Y' h.fr.size h1.size,fun b I M=>?_,fun b o u X hu=>?_,h.fr.ty.trans h1.ty⟩
 ·rw[J (ρ I h.fr.size) (fun hl=>(ad hl).elim (fun h=>by omega) M)]
  exact h.fr.block b I M
 ·have ai:=h.fr.cells b o u X hu
  by_cases hl:gg G gs b∨∃lim,fy G os b lim
  ·rcases hl with hl|⟨lim,hl⟩
   ·exact absurd ((N hl).1.2 o X) (Nat.not_lt_zero _)
   ·exact h1.cells b o u ⟨lim,hl,(O hl).1.2 o X⟩ ai
  ·grind[cL,ea]
theorem bq.left(h:bq C n st G tmps w)(J:Fr C w')(hs:w.heap.size<=w'.heap.size)(M:eZ w w'):bq C n ⟨[],[],[],st.gen⟩ ⟨G.box,fun _=>none⟩ tmps w':=
 {size:=h.size,frame:=fun t a N=>by simp[look]at N,box:=fun g cells O=>by simp[bh]at O,gbox:=fun g b hb=>⟨(h.gbox g b hb).1,ρ (h.gbox g b hb).2.1 hs,(h.gbox g b hb).2.2⟩,
   inj:=h.inj,live:=fun g U=>by simp at U,gown:=fun g r I=>by simp at I,row:=fun g b len cap sz X I=>by simp at I,mrow:=fun g b bs I=>by simp at I,sub:=fun g b bs c lim I=>by simp at I,gcell:=fun g b hb=>ny M (h.gcell g b hb),xold:=h.xold,kold:=h.kold,lent:=h.lent,fr:=J}
end
structure jB(P:Program)[dw P](f:FuncId)(args:List A)(b0:List (List A))(m:Nat)(v:Value):Prop where
 ok:kB P f
 calls:∀(C:Ctx)(G:Gh)(vals:Array Value)(w:World),GC P C->C.w0=w->C.bx.length=b0.length->C.ds=[]->(m=0->∀b,C.fp b->∃i:Nat,C.bx[i]?=some b)->
  bq C 0 ⟨[],fu 0 b0,(List.range m).map (b0.length+·),b0.length+m⟩ G #[] w->vals.size=args.length->
  (∀(i:Nat)(u:Value)(a:A),vals[i]?=some u->args[i]?=some a->bK (bu C G (b0.length+m) w) u a)->
  Calls P f vals w fun e w'=>e=.panicked [{v:=v,recovered:=false}]∧Fr C w'
def QP(v:Value):Exit->St->Prop:=fun e _=>e=gP v
theorem jB.Hq[dw P]{f c n}{J:List (List A)}{v}(O:P.funcs[f]?=some fn)(M:(fn.name== "runtime.NumGoroutine")=false)(hb:fn.body=some c)(hn:fn.ntmps=n)(hlen:Nat.ble args.length n=true)(h:∀C,NB C J.length->GC P C->(m=0->∀b,C.fp b->∃i:Nat,C.bx[i]?=some b)->(∀i b:Nat,C.bx[i]?=some b->b<C.w0.heap.size)->W P C n c (QP v) ⟨iX 0 args,fu 0 J,(List.range m).map (J.length+·),J.length+m⟩):jB P f args J m v:=by
 have hlen:=κ hlen;refine⟨⟨fn,O,M,by rw[hb];rfl⟩,fun C G I w hG hw U N X hs aj ai=>?_⟩;subst hw;refine calls_of_wp O hb (wp_mono (ru N (h C ⟨U⟩ hG X (fun i b hb=>(hs.gbox i b (hs.lent i b hb)).2.1) (I++Array.replicate (fn.ntmps-I.size) undef) C.w0 ⟨G,?_⟩)) ?_)
 ·refine{hs with size:=by simp[hn];omega,frame:=fun t a ha=>?_}
  obtain⟨_,h1⟩:=gX args 0 t a ha;have h2:t<args.length:=(δ.1 (by simpa using h1)).1;have h3:t<I.size:=by omega
  have h4:I[t]?=some I[t]:=by simp[h3]
  grind
 ·rintro e ⟨tmps,df⟩ w' ⟨hd,st,⟨G1,ad⟩,he⟩
  have he:e=gP v:=he;subst he;exact⟨hd.trans N,rfl,ad.fr⟩
theorem jB.bW[dw P]{f c n v}(M:P.funcs[f]?=some fn)(J:(fn.name== "runtime.NumGoroutine")=false)(hb:fn.body=some c)(N:fn.ntmps=n)(hlen:Nat.ble args.length n=true)(h:∀C,NB C I.length->GC P C->W P C n c (QP v) ⟨iX 0 args,fu 0 I,(List.range m).map (I.length+·),I.length+m⟩):jB P f args I m v:=
 jB.Hq M J hb N hlen fun C hC O _ _=>h C hC O
inductive Out where
 |ret (r:A) (b1:List (List A)) (k:Nat)
 |ib (v:Value)
def dX(P:Program)[dw P](f:FuncId)(args:List A)(I:List (List A))(m:Nat):Out->Prop
 |.ret r b1 k=>cU P f args I m r b1 k
 |.ib v=>jB P f args I m v
def QX{P:Program}(T:cG P)(rs:List RV):Out->Exit->St->Prop
 |.ret r b1 k=>dr T rs r b1 k
 |.ib v=>QP v
def Out.len:Out->Nat->Bool
 |.ret _ b1 _,n=>Nat.beq b1.length n
 |.ib _,_=>true
theorem dX.dY(T:cG P)[dw P]{f c n}{J:List (List A)}{x:Out}(M:P.funcs[f]?=some fn)(I:(fn.name== "runtime.NumGoroutine")=false)(hb:fn.body=some c)(N:fn.ntmps=n)(U:fn.results=(rs.map RV.var).toArray)(hlen:Nat.ble args.length n=true)(O:x.len J.length=true)(h:∀C,NB C J.length->GC P C->W P C n c (QX T rs x) ⟨iX 0 args,fu 0 J,(List.range m).map (J.length+·),J.length+m⟩):dX P f args J m x:=by
 cases x with
 |ret r b1 k=>exact cU.dY T M I hb N U hlen (Γ O) h
 |ib v=>exact jB.bW M I hb N hlen h
theorem dX.x8(T:cG P)[dw P]{f c n}{J:List (List A)}{x:Out}(M:P.funcs[f]?=some fn)(I:(fn.name== "runtime.NumGoroutine")=false)(hb:fn.body=some c)(N:fn.ntmps=n)(U:fn.results=(rs.map RV.var).toArray)(hlen:Nat.ble args.length n=true)(O:x.len J.length=true)(h:∀C,NB C J.length->GC P C->(m=0->∀b,C.fp b->∃i:Nat,C.bx[i]?=some b)->(∀i b:Nat,C.bx[i]?=some b->b<C.w0.heap.size)->W P C n c (QX T rs x) ⟨iX 0 args,fu 0 J,(List.range m).map (J.length+·),J.length+m⟩):dX P f args J m x:=by
 cases x with
 |ret r b1 k=>exact cU.x8 T M I hb N U hlen (Γ O) h
 |ib v=>exact jB.Hq M I hb N hlen h
theorem dX.ret[dw P]{f}{x:Out}{r}(h:dX P f args I m x)(J:x=.ret r b1 k):cU P f args I m r b1 k:=by subst J;exact h
theorem dX.ib[dw P]{f}{x:Out}{v}(h:dX P f args I m x)(J:x=.ib v):jB P f args I m v:=by subst J;exact h
section
variable{n:Nat}{rest:List Oper}
theorem WO.IU(M:o.guard=none)(N:o.op=.panic x){t y}(O:av st.f x=some (.d (.v (.iface t y))))(h:∀st',Q (gP (.iface t y)) st'):WO P C n ops Q (o::rest) st:=by
 intro tmps w ⟨G,hs⟩;simp only[fO,Region.wanted,M,if_true];have I:=hs.av O;have U:Act.eval ⟨tmps,C.ds⟩ x=.iface t y:=by rw[Act.jN tmps C.ds []];generalize Act.eval ⟨tmps,[]⟩ x=v at I⊢;cases I with|d I=>cases I;rfl
 unfold Oper.wp;have J:(execOp (Act.eval ⟨tmps,C.ds⟩) o).run P w=.halt (.panic (.iface t y)) w:=by unfold execOp;rw[N];simp[U,Instr.panic,goPanic]
 rw[J];exact⟨rfl,st,⟨G,hs⟩,h st⟩
theorem WO.dC[dw P][GC P C](O:o.guard=none){N}(ho:o.op=.call ⟨.value x,xs,N⟩){I}(hx:av st.f x=some (.clo fid caps))(aj:kJ st.f xs.toList=some I)(gs os:List Nat)(a1:nodupB gs=true)(a6:nodupB os=true)(a7:(os.all fun g=>st.lv.any fun h=>Nat.beq h g)=true){b0 v}(hf:jB P fid args b0 m v)(U:(I++caps).map (eI st.bx gs os 5)=args)(hb:gF st.bx gs os gs=some b0)(hm:os.length=m)(h:∀st',Q (gP v) st'):WO P C n ops Q (o::rest) st:=by
 subst hm;subst U;intro tmps w ⟨G,hs⟩;simp only[fO,Region.wanted,O,if_true];obtain⟨fn,a8,J,M⟩:=hf.ok;have X:=hs.av hx;rw[<-Act.jN tmps C.ds []]at X;generalize hv:Act.eval ⟨tmps,C.ds⟩ x=v' at X
 cases X with
 |clo _ vs _ b2 hcd=>
 obtain⟨h1,h2⟩:=jM hs xs.toList I aj;rw[<-Act.jN tmps C.ds []]at h2;have ad:(execOp (Act.eval ⟨tmps,C.ds⟩) o).run P w=.ok (.enter fid (xs.map (Act.eval ⟨tmps,C.ds⟩)++vs)) w:=by unfold execOp;rw[ho];show Sem.run P (do let d←resolve (Act.eval ⟨tmps,C.ds⟩) ⟨.value x,xs,N⟩ o.type;invoke d.target d.args) w=_;simp only[resolve,hv,Deferred.ofValue,Sem.run_bind,Sem.run_pure,Result.andThen_ok,invoke,callFunc,run_program,a8,J,M,L',if_false,Array.empty_append]
 obtain⟨hlen,ai⟩:=hs.mc (gs:=gs) (os:=os) (eX a1) (eX a6) (fun g O=>by obtain⟨y,hy,he⟩:=F'.1 (I'.1 a7 g O);exact Γ he▸hy) hb;have b4:=(iO hb).1;unfold Oper.wp;rw[ad];refine(hf.calls (fJ C G w gs os) (iy G gs os) _ w (GC.r9 hs) rfl hlen rfl (qW rfl) ai (by simp at h1;simp[b2,h1]) (fun i u a hu ha=>?_)).mono fun e w'⟨he,h3⟩=>?_
 ·simp only[τ,ν]at ha
  obtain⟨y,hy,rfl⟩:=ha;refine bK.mc hs gs os (by omega) 5 u y ?_;grind
 ·subst he
  have b3:=hs.Ec h3;exact⟨rfl,_,⟨_,hs.left b3 h3.size h3.ty⟩,h _⟩
end
section
variable{n:Nat}{rest:List Oper}{c:Code}
variable{bx:List (Nat×List A)}{op:Op}{pos:String}{af:Array Edge}
theorem Jb{t y}(I:av f x=some (.d (.v (.iface t y))))(h:∀st',Q (gP (.iface t y)) st'):WO P C n ops Q (⟨dst,.panic x,ty,pos,af,none⟩::rest) ⟨f,bx,lv,gen⟩:=
 WO.IU (st:=⟨f,bx,lv,gen⟩) rfl rfl I h
theorem dC[dw P][GC P C]{M I N v}(gs os:List Nat)(hx:av f x=some (.clo fid caps))(O:kJ f xs.toList=some I)(J:(I++caps).map (eI bx gs os 5)=args)(hb:gF bx gs os gs=some N)(hm:os.length=m)(hf:jB P fid args N m v)(U:nodupB gs=true)(X:nodupB os=true)(ad:(os.all fun g=>lv.any fun h=>Nat.beq h g)=true)(h:∀st',Q (gP v) st'):
 WO P C n ops Q (⟨dst,.call ⟨.value x,xs,M⟩,ty,pos,af,none⟩::rest) ⟨f,bx,lv,gen⟩:=
 WO.dC (st:=⟨f,bx,lv,gen⟩) rfl rfl hx O gs os U X ad hf J hb hm h
theorem yv{a b}(h:bN w pv a (.v b)):a=b:=by cases h;rfl
theorem Ir(T:cG P){l:List Value}(J:bh T.l t=some td)(M:td.k.agg=true)(N:av f x=some (.ag (l.map D.v))):Pu P C n ⟨f,bx,lv,gen⟩ ⟨dst,.makeInterface t x,ty,pos,af,none⟩ (.d (.v (.iface t (.agg l.toArray)))):=by
 refine aq fun G tmps w hs=>?_;have I:=hs.av N;generalize O:Act.eval ⟨tmps,[]⟩ x=v at I
 cases I with
 |ag vs _ U h=>
 have e:vs=l.toArray:=by
  apply Array.ext;·grind
  ·intro i h1 h2
   have h3:i<l.length:=by simpa using h2
   have:=yv (h i vs[i] (.v l[i]) (by simp[h1]) (by simp[h3]));grind
 subst e;refine⟨_,?_,.d (.v _ rfl)⟩;obtain⟨u,hu,X⟩:∃u,P.underlying t=some u∧(match u with|.interface _=>false|_=>true)=true:=by
  have:=T.isAgg J w;unfold isAgg at this
  cases hu:P.underlying t with
  |none=>simp[underlying,hu]at this
  |some u=>refine⟨u,rfl,?_⟩;cases u<;>first|rfl|(simp[underlying,hu,M]at this)
 unfold execOp;simp only[O,Instr.makeInterface,Sem.run_bind,run_underlying hu,Result.andThen_ok,Sem.run_pure];cases u<;>simp_all
end
structure pj(P:Program)[dw P](f:FuncId)(args:List A)(b0:List (List A))(m:Nat)(S:A->List (List A)->Prop)(k:Nat):Prop where
 ok:kB P f
 calls:∀(C:Ctx)(G:Gh)(vals:Array Value)(w:World),GC P C->C.w0=w->C.bx.length=b0.length->C.ds=[]->(m=0->∀b,C.fp b->∃i:Nat,C.bx[i]?=some b)->
  bq C 0 ⟨[],fu 0 b0,(List.range m).map (b0.length+·),b0.length+m⟩ G #[] w->vals.size=args.length->
  (∀(i:Nat)(u:Value)(a:A),vals[i]?=some u->args[i]?=some a->bK (bu C G (b0.length+m) w) u a)->
  Calls P f vals w fun e w'=>∃r b1,S r b1∧b1.length=b0.length∧∃v G',e=.returned v∧bq C 0 ⟨[],fu 0 b1,(List.range k).map (b0.length+·),b0.length+k⟩ G' #[] w'∧bK (bu C G' (b0.length+k) w') v r
section
variable(T:cG P)
def Fb(rs:List RV)(I:Nat)(S:A->List (List A)->Prop)(k:Nat):Exit->St->Prop:=fun e st=>∃r b1,S r b1∧b1.length=I∧dr T rs r b1 k e st
theorem pj.dY[dw P]{f c n S}(hf:P.funcs[f]?=some fn)(X:(fn.name== "runtime.NumGoroutine")=false)(hb:fn.body=some c)(hn:fn.ntmps=n)(hr:fn.results=(rs.map RV.var).toArray)(hlen:Nat.ble args.length n=true)(h:∀C,NB C I.length->GC P C->W P C n c (Fb T rs I.length S k) ⟨iX 0 args,fu 0 I,(List.range m).map (I.length+·),I.length+m⟩):pj P f args I m S k:=by
 have hlen:=κ hlen;refine⟨⟨fn,hf,X,by rw[hb];rfl⟩,fun C G J w hG hw ad O cl hs cq a1=>?_⟩;subst hw;refine calls_of_wp hf hb (wp_mono (ru O (h C ⟨ad⟩ hG (J++Array.replicate (fn.ntmps-J.size) undef) C.w0 ⟨G,?_⟩)) ?_)
 ·refine{hs with size:=by simp[hn];omega,frame:=fun t a ha=>?_}
  obtain⟨_,h1⟩:=gX args 0 t a ha;have h2:t<args.length:=(δ.1 (by simpa using h1)).1;have h3:t<J.size:=by omega
  have h4:J[t]?=some J[t]:=by simp[h3]
  exact⟨J[t],by rw[Array.getElem?_append_left h3];exact h4,a1 t _ a h4 (by simpa using h1)⟩
 ·rintro e ⟨tmps,df⟩ w' ⟨hd,st,⟨G,hs⟩,r,b1,hS,M,he,l,order,hl,a6,a7,a8,b2,b3⟩
  have cj:(fa b1.length order).length=I.length+k:=by simp[fa,a7,M]
  have U:∀i,i<C.bx.length->(fa b1.length order)[i]?=some i:=fun i hi=>by unfold fa;rw[Ω (by simp;omega),List.getElem?_range (by omega)]
  have N:∃v,(results fn tmps).run P w'=.ok v w'∧∃r b1,S r b1∧b1.length=I.length∧∃ai G',Ending.returned v=.returned ai∧bq C 0 ⟨[],fu 0 b1,(List.range k).map (I.length+·),I.length+k⟩ G' #[] w'∧bK (bu C G' (I.length+k) w') ai r:=by
   obtain⟨vs,b4,b5,b6⟩:=kW T hs rs l hl;refine⟨_,iq hr b4,r,b1,hS,M,_,om (fa b1.length order) G,rfl,?_,?_⟩
   ·refine bq.w5 (hs.cT (f':=[]) (bx':=fu 0 b1) (lv':=(List.range k).map (I.length+·)) (gen':=I.length+k) (fa b1.length order) (eX a8) (by omega) U (fun t a ha=>by simp[look]at ha) (fun i c hc=>?_) (fun i hi=>?_)) Z
    ·obtain⟨_,h1⟩:=oz b1 0 i c hc
     simp only[Nat.sub_zero]at h1;obtain⟨c0,h2,h3⟩:=b3 i c h1;have ch:i<b1.length:=(δ.1 h1).1;exact⟨i,c0,U i (by rw[ad,←M];exact ch),h2,by rw[<-iw];exact h3⟩
    ·obtain⟨j,hj,rfl⟩:=R'.1 hi
     have hj:j<k:=by simpa using hj
     have aj:j<order.length:=by omega
     refine⟨order[j],?_,b2 _ (List.getElem_mem aj)⟩;unfold fa;rw[Θ (by simp;omega)];simp[M,aj]
   ·rw[<-a6]
    refine bK.cT (gen:=st.gen) (by omega) (l7 b5 b6)
  cases e with
  |normal=>exact⟨hd.trans O,N⟩
  |ret=>exact⟨hd.trans O,N⟩
  |exit _=>exact he.elim
  |goto _=>exact he.elim
  |panic _=>exact he.elim
  |outgrown=>exact he.elim
end
section
variable{n:Nat}{rest:List Oper}
theorem WO.yd[dw P][GC P C](X:o.guard=none)(hd:fY n o.dst=true){U}(ho:o.op=.call ⟨.value x,xs,U⟩){I}(hx:av st.f x=some (.clo fid caps))(a7:kJ st.f xs.toList=some I)(gs os:List Nat)(a8:nodupB gs=true)(b2:nodupB os=true)(b3:(os.all fun g=>st.lv.any fun h=>Nat.beq h g)=true){M:List (List A)}{S}(hf:pj P fid args M m S k)(ad:(I++caps).map (eI st.bx gs os 5)=args)(hb:gF st.bx gs os gs=some M)(hm:os.length=m)(h:∀r b1,S r b1->WO P C n ops Q rest (St.put ⟨st.f,jJ gs st.gen gs b1++st.bx,(List.range k).map (M.length+·+st.gen)++st.lv.filter (fun g=>!os.any (Nat.beq g)),M.length+k+st.gen⟩ o.dst (back gs st.gen r))):WO P C n ops Q (o::rest) st:=by
 subst hm;subst ad;refine WO.step X fun tmps w⟨G,hs⟩=>?_;obtain⟨fn,b4,N,O⟩:=hf.ok;have hr:=hs.av hx;generalize hv:Act.eval ⟨tmps,[]⟩ x=v at hr
 cases hr with
 |clo _ vs _ b5 hcd=>
 obtain⟨h1,h2⟩:=jM hs xs.toList I a7;have ai:(execOp (Act.eval ⟨tmps,[]⟩) o).run P w=.ok (.enter fid (xs.map (Act.eval ⟨tmps,[]⟩)++vs)) w:=by unfold execOp;rw[ho];show Sem.run P (do let d←resolve (Act.eval ⟨tmps,[]⟩) ⟨.value x,xs,U⟩ o.type;invoke d.target d.args) w=_;simp only[resolve,hv,Deferred.ofValue,Sem.run_bind,Sem.run_pure,Result.andThen_ok,invoke,callFunc,run_program,b4,N,O,L',if_false,Array.empty_append]
 obtain⟨hlen,aj⟩:=hs.mc (gs:=gs) (os:=os) (eX a8) (eX b2) (fun g X=>by obtain⟨y,J,he⟩:=F'.1 (I'.1 b3 g X);exact Γ he▸J) hb;have cy:=(iO hb).1;unfold et;rw[ai];refine(hf.calls (fJ C G w gs os) (iy G gs os) _ w (GC.r9 hs) rfl hlen rfl (qW rfl) aj (by simp at h1;simp[b5,h1]) (fun i u a hu ha=>?_)).mono fun e w'⟨r,b1,hS,hbl1,v,G',he,h3,h4⟩=>?_
 ·simp only[τ,ν]at ha
  obtain⟨y,J,rfl⟩:=ha;refine bK.mc hs gs os (by omega) 5 u y ?_;simp only[Array.getElem?_append]at hu;split at hu
  ·rename_i b6
   simp only[Array.size_map]at b6;have a1:i<I.length:=by simp at h1;omega
   rw[Ω a1]at J;obtain⟨z,hz,ch⟩:=h2 i y J;simp only[Array.getElem?_map,ν]at hu;obtain⟨z',cj,rfl⟩:=hu;have:z=z':=by simp at hz;rw[cj]at hz;exact(J' hz).symm
   subst this;exact ch
  ·rename_i cl
   simp only[Array.size_map]at cl hu;have a6:I.length<=i:=by simp at h1;omega
   rw[Θ a6]at J;refine hcd (i-xs.size) u y hu ?_;have:xs.size=I.length:=by simpa using h1
   rw[this];exact J
 ·obtain⟨G2,cq,cx⟩:=hs.uX hb hbl1 h3
  exact⟨v,he,_,⟨G2,cx.put (dp hd) (cq v r h4)⟩,h r b1 hS⟩
end
theorem Fb.ret{T:cG P}{I S e}(r)(b1:List (List A))(J:S r b1)(hb:b1.length=I)(h:dr T rs r b1 k e st):Fb T rs I S k e st:=⟨r,b1,J,hb,h⟩
section
variable{n:Nat}{rest:List Oper}
variable{bx:List (Nat×List A)}{pos:String}{af:Array Edge}
theorem yd[dw P][GC P C]{O J}{R:ι->A}{B:ι->List (List A)}{U:ι->Prop}{X:ι->A}{bx':ι->List (Nat×List A)}(gs os:List Nat)(hx:av f x=some (.clo fid caps))(ad:kJ f xs.toList=some J)(M:(J++caps).map (eI bx gs os 5)=args)(hb:gF bx gs os gs=some I)(hm:os.length=m)(hf:pj P fid args I m (fun r b1=>∃x,U x∧r=R x∧b1=B x) k)(ai:nodupB gs=true)(aj:nodupB os=true)(a1:(os.all fun g=>lv.any fun h=>Nat.beq h g)=true)(hd:Nat.blt d n=true)(hr:∀x,back gs gen (R x)=X x)(a6:∀x,jJ gs gen gs (B x)++bx=bx' x)(a7:(List.range k).map (I.length+·+gen)++lv.filter (fun g=>!os.any (Nat.beq g))=lv')(N:I.length+k+gen=gen')(h:∀x,U x->WO P C n ops Q rest ⟨(d,X x)::f,bx' x,lv',gen'⟩):
 WO P C n ops Q (⟨some d,.call ⟨.value x,xs,O⟩,ty,pos,af,none⟩::rest) ⟨f,bx,lv,gen⟩:=by
 subst a7;subst N;refine WO.yd (st:=⟨f,bx,lv,gen⟩) rfl hd rfl hx ad gs os ai aj a1 hf M hb hm ?_;rintro _ _ ⟨x,hS,rfl,rfl⟩;have h:=h x hS;rw[<-hr x,←a6 x]at h;exact h
end
end Go.Ab
namespace Go.Tb
open Go.Ab
variable {l:List UInt8}{i k u:Nat}{α:Type}{level id a:Int}{x:Value}
variable {l1:List (Value×List (List D))}
abbrev ci(n:Int):D:=.v (.int .i64 n)
abbrev cs(s:ByteArray):D:=.v (.string s)
structure yD where
 kind:Int
 n:Int
 s:ByteArray
 deriving DecidableEq
@[reducible] def yD.c(x:yD):List D:=[ci x.kind,ci x.n,cs x.s]
structure zI where
 name:ByteArray
 type:Int
 deriving DecidableEq
@[reducible] def zI.c(x:zI):List D:=[cs x.name,ci x.type]
inductive Ex where
 |mk (op:Int) (name:ByteArray) (v:yD) (kids:List Ex)
def Ex.op:Ex->Int|.mk a _ _ _=>a
def Ex.name:Ex->ByteArray|.mk _ a _ _=>a
def Ex.v:Ex->yD|.mk _ _ a _=>a
def Ex.kids:Ex->List Ex|.mk _ _ _ a=>a
mutual
def Ex.kc:Ex->List (List D)
 |.mk _ _ _ kids=>Ex.vp kids
def Ex.vp:List Ex->List (List D)
 |[]=>[]
 |e::r=>[ci e.op,cs e.name,ci e.v.kind,ci e.v.n,cs e.v.s,.sl (Ex.kc e)]::Ex.vp r
end
@[reducible] def Ex.c(e:Ex):List D:=[ci e.op,cs e.name,ci e.v.kind,ci e.v.n,cs e.v.s,.sl e.kc]
theorem Ex.r7:∀l,Ex.vp l=l.map Ex.c
 |[]=>rfl
 |e::r=>by simp[Ex.vp,Ex.r7 r]
theorem Ex.qD(e:Ex):e.kc=e.kids.map Ex.c:=by cases e;simp[Ex.kc,Ex.kids,Ex.r7]
theorem Ex.bG(e:Ex):e.kc.length=e.kids.length:=by simp[Ex.qD]
structure Hw where
 e:Ex
 name:ByteArray
@[reducible] def Hw.c(x:Hw):List D:=[ci x.e.op,cs x.e.name,ci x.e.v.kind,ci x.e.v.n,cs x.e.v.s,.sl x.e.kc,cs x.name]
structure Hy where
 fn:ByteArray
 col:ByteArray
 name:ByteArray
@[reducible] def Hy.c(x:Hy):List D:=[cs x.fn,cs x.col,cs x.name]
structure Hr where
 col:ByteArray
 desc:Bool
@[reducible] def Hr.c(x:Hr):List D:=[cs x.col,.v (.bool x.desc)]
@[reducible] def sc(s:ByteArray):List D:=[cs s]
structure Hh where
 op:Int
 cond:Ex
 items:List Hw
 cols:List ByteArray
 aggs:List Hy
 sorts:List Hr
 n:Int
 table:ByteArray
@[reducible] def Hh.c(x:Hh):List D:=[ci x.op,ci x.cond.op,cs x.cond.name,ci x.cond.v.kind,ci x.cond.v.n,cs x.cond.v.s,.sl x.cond.kc,
 .sl (x.items.map Hw.c),.sl (x.cols.map sc),.sl (x.aggs.map Hy.c),.sl (x.sorts.map Hr.c),ci x.n,cs x.table]
structure Jj where
 cols:List zI
 rows:List (List yD)
@[reducible] def rc(r:List yD):List D:=[.sl (r.map yD.c)]
@[reducible] def Jj.c(x:Jj):List D:=[.sl (x.cols.map zI.c),.sl (x.rows.map rc)]
structure K7 where
 name:ByteArray
 table:Jj
@[reducible] def K7.c(x:K7):List D:=[cs x.name,.sl (x.table.cols.map zI.c),.sl (x.table.rows.map rc)]
structure Lh where
 from_:ByteArray
 steps:List Hh
@[reducible] def Lh.c(x:Lh):List D:=[cs x.from_,.sl (x.steps.map Hh.c)]
@[reducible] def ic(k:Int):List D:=[ci k]
/- ### typed data out of a reading -/
section
variable{P:Program}{T:cG P}
theorem xl{f:α->List D}{t}:∀{es:List (List D)},(∀x∈es,de T t x)->(∀x,x∈es->de T t x->∃a,x=f a)->∃l:List α,es=l.map f
 |[],_,_=>⟨[],rfl⟩
 |x::r,h,hf=>by obtain⟨a,J⟩:=hf x (by simp) (h x (by simp));obtain⟨l,hl⟩:=xl (fun y I=>h y (by simp[I])) (fun y I=>hf y (by simp[I])) (es:=r);exact⟨a::l,by rw[J,hl];rfl⟩
theorem uT{t a b J M N O l}(h:de T t l)(U:cY T t=.st [(J,a,N),(M,b,O)]):∃p q,l=p++q∧de T a p∧de T b q:=by
 obtain⟨ps,rfl,hl,I⟩:=h.CP U
 match ps,hl with
 |[p,q],_=>exact⟨p,q,by simp,I 0 _ _ _ p rfl rfl,I 1 _ _ _ q rfl rfl⟩
theorem zg{t a b c J M N O U X l}(h:de T t l)(hk:cY T t=.st [(J,a,O),(M,b,U),(N,c,X)]):∃p q r,l=p++(q++r)∧de T a p∧de T b q∧de T c r:=by
 obtain⟨ps,rfl,hl,I⟩:=h.CP hk
 match ps,hl with
 |[p,q,r],_=>exact⟨p,q,r,by simp,I 0 _ _ _ p rfl rfl,I 1 _ _ _ q rfl rfl,I 2 _ _ _ r rfl rfl⟩
theorem zJ{t a b c d J M N O U X nc nd l}(h:de T t l)(hk:cY T t=.st [(J,a,U),(M,b,X),(N,c,nc),(O,d,nd)]):
 ∃p q r s,l=p++(q++(r++s))∧de T a p∧de T b q∧de T c r∧de T d s:=by
 obtain⟨ps,rfl,hl,I⟩:=h.CP hk
 match ps,hl with
 |[p,q,r,s],_=>exact⟨p,q,r,s,by simp,I 0 _ _ _ p rfl rfl,I 1 _ _ _ q rfl rfl,I 2 _ _ _ r rfl rfl,I 3 _ _ _ s rfl rfl⟩
variable{tv tk ti ts tc tcs te teo tes:Nat}{o1 o2 o3 o4 o5 o6 o7 o8:Nat}{n1 n2 n3 n4 n5 n6 n7 n8:String}{l:List D}
theorem fF(h:de T ti l)(I:cY T ti=.int .i64):∃n,l=[ci n]:=let⟨n,h,_⟩:=h.toInt I;⟨n,h⟩
theorem uR(h:de T ts l)(I:cY T ts=.str):∃n,l=[cs n]:=let⟨n,h,_⟩:=h.toStr I;⟨n,h⟩
theorem nS{f:α->List D}{t e}(h:de T t l)(I:cY T t=.slice e)(J:∀x,de T e x->∃a,x=f a):∃r:List α,l=[.sl (r.map f)]:=by obtain⟨es,rfl,h1,_⟩:=h.toSlice I;obtain⟨r,rfl⟩:=xl h1 (fun x _ M=>J x M);grind
end
def Still(caps:List A):Prop:=(∀bx k,caps.map (conv bx (k+2))=caps)∧lR caps=true
def idx(o:Option Nat):Int:=match o with|some i=>i|none=>-1
theorem iM{l:List α}{p:α->Bool}:decide (0<=idx (l.findIdx? p))=l.any p:=by
 cases h:l.findIdx? p with
 |none=>have:=List.findIdx?_eq_none_iff.1 h;simp only[idx];grind
 |some i=>obtain⟨hi,hp,_⟩:=List.findIdx?_eq_some_iff_getElem.1 h;simp only[idx];grind
def c8{α:Type}(p:α->Bool)(l:List α)(k:Nat):Prop:=∀j x,j<k->l[j]?=some x->p x=false
theorem c8.zero{p:α->Bool}{l}:c8 p l 0:=fun _ _ h=>by omega
theorem c8.step{p:α->Bool}{l:List α}{x:α}(h:c8 p l k)(M:l[k]?=some x)(hp:p x=false):c8 p l (k+1):=by
 intro j y hj J;rcases Nat.lt_succ_iff_lt_or_eq.1 hj with I|rfl
 ·exact h j y I J
 ·grind
theorem c8.found{p:α->Bool}{l:List α}{x:α}(h:c8 p l k)(M:l[k]?=some x)(hp:p x=true):l.findIdx? p=some k:=by rw[List.findIdx?_eq_some_iff_getElem];obtain⟨I,J⟩:=δ.1 M;refine⟨I,by rw[J];exact hp,fun j hj=>?_⟩;rw[h j (l[j]) hj (by simp)];simp
theorem c8.end_{p:α->Bool}{l:List α}(h:c8 p l k)(I:k=l.length):l.findIdx? p=none:=by rw[List.findIdx?_eq_none_iff];intro x J;obtain⟨j,hj⟩:=ψ.1 J;exact h j x (by rw[I];exact(δ.1 hj).1) hj
def fits(k w:Int):Bool:=decide (k=w)||decide (k=0)
def eK(n:Int):Bool:=decide (-1000000000000000<=n)&&decide (n<=1000000000000000)
abbrev B(l:Array UInt8):ByteArray:=⟨l⟩
def words:List ByteArray:=[B #[97,110,100],B #[111,114],B #[110,111,116],B #[110,117,108,108],B #[116,114,117,101],B #[102,97,108,115,101]]
def lower(b:UInt8):Bool:=decide (97<=b.toNat)&&decide (b.toNat<=122)
def bg(s:ByteArray):List UInt8:=s.data.toList
def marks:List UInt8:=[95,46,58,47,60,62,36,42,126,45]
def gA(b:UInt8):Bool:=lower b||(decide (65<=b.toNat)&&decide (b.toNat<=90))||(decide (48<=b.toNat)&&decide (b.toNat<=57))||marks.any fun c=>decide (c=b)
def cw(s:ByteArray):Int:=if s=B #[]∨40<s.size∨(bg s).all gA=false then 3 else 0
theorem kb{s}(h:dy (.string s)=true):(bg s).length<=maxLen:=by simpa[dy,bg]using h
theorem bo(s:ByteArray):(bg s).length=s.size:=by simp[bg]
theorem ns(c):∀l:List UInt8,(0<=Lib.indexByte l c)↔c∈l
 |[]=>by simp[Lib.indexByte]
 |b::l=>by have I:=ns c l;have h1:=Lib.indexByte_ge l c;simp only[Lib.indexByte,N'];grind
theorem x5(l:List UInt8)(c):decide (0<=Lib.indexByte l c)=l.any fun x=>decide (x=c):=by rw[Bool.eq_iff_iff];simp[ns]
theorem rC(c):∀l:List UInt8,Lib.indexByte l c<=l.length
 |[]=>by simp[Lib.indexByte]
 |b::l=>by have I:=rC c l;simp only[Lib.indexByte,Ξ];grind
theorem yF{s}(h:dy (.string s)=true)(c):dy (.int .i64 (Lib.indexByte (bg s) c))=true:=by
 have h1:=Lib.indexByte_ge (bg s) c;have h2:=rC c (bg s);have h3:=kb h;have h4:maxLen=9223372036854775807:=rfl;simp only[dy,μ,Δ];refine⟨?_,?_⟩;·show-9223372036854775808<=_;omega
 ·show _<=9223372036854775807;omega
theorem pF{s}:s=B #[]↔bg s=[]:=by
 constructor;·rintro rfl;rfl
 ·intro hb
  have:s.data=#[]:=by simpa[bg]using hb
  cases s;simp_all[B]
theorem sr{α:Type}{l:List α}{k:Nat}(h:k<l.length):∃x,l[k]?=some x∧l.drop k=x::l.drop (k+1):=⟨l[k],by simp[h],List.drop_eq_getElem_cons h⟩
theorem dropEnd{α:Type}{l:List α}{k:Nat}(h:l.length<=k):l.drop k=[]:=List.drop_eq_nil_of_le h
theorem cW{P C n st o}{k:IntKind}{x y:Int}(h:Pu P C n st o (.d (.v (.int k x))))(e:x=y):Pu P C n st o (.d (.v (.int k y))):=e▸h
section
variable{P:Program}{C:Ctx}{n:Nat}{Q:Exit→St→Prop}{c:Code}{f:List (Nat×A)}{bx:List (Nat×List A)}{lv:List Nat}{gen:Nat}
theorem pQ{g j:Nat}{cells:List A}{es:List (List D)}(hb:bh bx g=some cells)(I:cells[j]?=some (.d (.sl es)))(h:es.length<=maxLen->W P C n c Q ⟨f,bx,lv,gen⟩):W P C n c Q ⟨f,bx,lv,gen⟩:=by
 intro tmps w ⟨G,hs⟩;obtain⟨b,cs,T,h1,h2,h3,h4,h5⟩:=hs.box g cells hb;have hj:j<cs.size:=by rw[h3];exact(δ.1 I).1
 have:=h5 j cs[j] _ (by simp[hj]) I;generalize cs[j]=u at this;cases this with|d hd=>exact h hd.len.choose_spec.choose_spec.2 tmps w ⟨G,hs⟩
end
mutual
def deep:Ex->Int->Int->Int
 |.mk op name v kids,level,left=>if level<1∨left-1<0∨300<name.size∨300<v.s.size then-1 else Hj kids level (left-1)
def Hj:List Ex->Int->Int->Int
 |[],_,left=>left
 |k::r,level,left=>if deep k (level-1) left<0 then-1 else Hj r level (deep k (level-1) left)
end
def small(e:Ex):Bool:=decide (0<=deep e 40 300)
def both(a b w:Int):Bool:=fits a w&&fits b w
theorem wrap_zero{x:Int}(h0:0<=x)(h1:x<18446744073709551616):(IntKind.i64.wrap x=0)↔x=0:=by simp only[IntKind.wrap,IntKind.signed,IntKind.bits];grind
/-! tables -/
end Go.Tb
namespace Go.Ab
open Go.RowKit
variable {w w':World}{tmps:Array Value}{pv:Nat→Nat→Prop}{x y:Operand}{t g i k e m j id b off gen d gen' clock sz J mt g2 t' cap d0:Nat}{P:Program}{Q':Exit→Act→World→Prop}{lv' lv gs order os:List Nat}{bs:List (Nat×Nat)}{parts:Array (Nat×Operand)}{fid:FuncId}{xs:Array Operand}{o:Oper}{fn:Func}{dst:Option Nat}{ops:Array Oper}{α ι H β:Type}{hole:Option Value}{R:Value→World→Prop}{want:Bool}{listed:Array Bool}{T ty:TypeId}{l1 l2:List Oper}{ids:List Int}{act:Act}
variable {es es2:List (List D)}{f:List (Nat×A)}{G:Gh}{a a':A}{st st':St}{l:List D}{args cells cq' caps cq cells' X:List A}{E E':En}{Q:Exit→St→Prop}{b1 I:List (List A)}{C:Ctx}
variable {rs:List RV}
variable {td ed:cV}
end Go.Ab
namespace Go.Tb
open Go.Ab
variable {l:List UInt8}{i k u:Nat}{α:Type}{level id a:Int}{x:Value}
variable {l1:List (Value×List (List D))}
def KG:List zI->Nat->List zI->Bool
 |_,_,[]=>false
 |all,k,c::r=>(all.take k).any (fun x=>decide (x.name=c.name))||KG all (k+1) r
end Go.Tb
namespace Go.Ab
open Go.RowKit
variable {w w':World}{tmps:Array Value}{pv:Nat→Nat→Prop}{x y:Operand}{t g i k e m j id b off gen d gen' clock sz J mt g2 t' cap d0:Nat}{P:Program}{Q':Exit→Act→World→Prop}{lv' lv gs order os:List Nat}{bs:List (Nat×Nat)}{parts:Array (Nat×Operand)}{fid:FuncId}{xs:Array Operand}{o:Oper}{fn:Func}{dst:Option Nat}{ops:Array Oper}{α ι H β:Type}{hole:Option Value}{R:Value→World→Prop}{want:Bool}{listed:Array Bool}{T ty:TypeId}{l1 l2:List Oper}{ids:List Int}{act:Act}
variable {es es2:List (List D)}{f:List (Nat×A)}{G:Gh}{a a':A}{st st':St}{l:List D}{args cells cq' caps cq cells' X:List A}{E E':En}{Q:Exit→St→Prop}{b1 I:List (List A)}{C:Ctx}
variable {rs:List RV}
variable {td ed:cV}
section
variable(T:cG P){n:Nat}{rest:List Oper}{c:Code}
variable{bx:List (Nat×List A)}{pos:String}{af:Array Edge}
theorem uJ{fn:α->List D}{l l2:List α}{I:cV}{b}(O:av f x=some (.own g (l.map fn)))(U:av f y=some b)(J:jI b=some (l2.map fn))(X:bh T.l t=some td)(hk:td.k=.slice e)(he:bh T.l e=some I)(M:(lv.any fun h=>Nat.beq h g)=true)(hz:Nat.blt 0 I.n=true)(N:Nat.blt 0 I.b=true)(hd:Nat.blt d n=true)(hl:∀a,(fn a).length=I.n)(hb:(l.length+l2.length)*I.b<=140737488355328)(h:WO P C n ops Q rest ⟨(d,.own gen ((l++l2).map fn))::f,bx,gen::bR lv g,gen+1⟩):WO P C n ops Q (⟨some d,.call ⟨.builtin .append,#[x,y],#[t,t]⟩,ty,pos,af,none⟩::rest) ⟨f,bx,lv,gen⟩:=by
 grind[List.any_eq_true,Nat.eq_of_beq_eq_true,wT]
theorem DY{len}{I:cV}(N:bh T.l t=some td)(O:td.k=.slice e)(he:bh T.l e=some I)(J:nv f 0 parts.toList=some es)(hlen:es.length=len)(U:Nat.blt 0 I.n=true)(M:Nat.ble (len*I.n) 16777216=true)(hl:qo I.n es=true)(hd:Nat.blt d n=true)(h:WO P C n ops Q rest ⟨(d,.own gen es)::f,bx,gen::lv,gen+1⟩):WO P C n ops Q (⟨some d,.buildSlice t len parts,ty,pos,af,none⟩::rest) ⟨f,bx,lv,gen⟩:=
 aG (st:=⟨f,bx,lv,gen⟩) T rfl hd rfl N O he J hlen U M (ki hl) h
end
def uY(bx:List (Nat×List A)):List Nat->List (Nat×List A)
 |[]=>[]
 |g::r=>match bh bx g with
   |some c=>(g,c)::uY bx r
   |none=>uY bx r
section
variable{n:Nat}{c:Code}
variable{f' fi:List (Nat×A)}{bx bx' bi:List (Nat×List A)}
def QC(C:Ctx)(n:Nat)(S:St)(Q:Exit->St->Prop):Exit->St->Prop
 |.normal,st=>∀(tmps:Array Value)(w:World),fv C n st tmps w->fv C n S tmps w
 |e,st=>Q e st
theorem W.nl(V ts B bs lv' gen')(h:W P C n c (QC C n ⟨V++dk f ts,B++uY bx bs,lv',gen'⟩ Q) ⟨f,bx,lv,gen⟩)(I:Q .normal ⟨V++dk f ts,B++uY bx bs,lv',gen'⟩):W P C n c Q ⟨f,bx,lv,gen⟩:=
 fun tmps w hs=>wp_mono (h tmps w hs) fun e act w⟨hd,st',hs,he⟩=>by
  cases e with
  |normal=>exact⟨hd,_,he _ _ hs,I⟩
  |_=>exact⟨hd,st',hs,he⟩
theorem dL{I}[hnb:NB C I](order)(N:lT order gen' I=true)(O:pA order f f')(J:py f fi)(hb:kR order bx bx')(M:ml order bx bi)(hl:tR order lv lv'=true):
 QC C n ⟨f'++fi,bx'++bi,lv',gen'⟩ Q .normal ⟨f,bx,lv,gen⟩:=fun _ _ h=>fv.cT order N O J hb M hl h
theorem KJ{S}(h:Q .ret st):QC C n S Q .ret st:=h
end
end Go.Ab
namespace Go.Tb
open Go.Ab
end Go.Tb
namespace Go.Ab
open Go.RowKit
variable {w w':World}{tmps:Array Value}{pv:Nat→Nat→Prop}{x y:Operand}{t g i k e m j id b off gen d gen' clock sz J mt g2 t' cap d0:Nat}{P:Program}{Q':Exit→Act→World→Prop}{lv' lv gs order os:List Nat}{bs:List (Nat×Nat)}{parts:Array (Nat×Operand)}{fid:FuncId}{xs:Array Operand}{o:Oper}{fn:Func}{dst:Option Nat}{ops:Array Oper}{α ι H β:Type}{hole:Option Value}{R:Value→World→Prop}{want:Bool}{listed:Array Bool}{T ty:TypeId}{l1 l2:List Oper}{ids:List Int}{act:Act}
variable {es es2:List (List D)}{f:List (Nat×A)}{G:Gh}{a a':A}{st st':St}{l:List D}{args cells cq' caps cq cells' X:List A}{E E':En}{Q:Exit→St→Prop}{b1 I:List (List A)}{C:Ctx}
variable {rs:List RV}
variable {td ed:cV}
mutual
def pH:D->D
 |.v x=>bif isNil (.d (.v x))then .sl []else .v x
 |.sl es=>.sl (vR es)
def sR:List D->List D
 |[]=>[]
 |x::r=>pH x::sR r
def vR:List (List D)->List (List D)
 |[]=>[]
 |x::r=>sR x::vR r
end
theorem mX:∀l,sR l=l.map pH
 |[]=>rfl
 |x::r=>by simp[sR,mX r]
theorem vI:∀l,vR l=l.map sR
 |[]=>rfl
 |x::r=>by simp[vR,vI r]
theorem bN.pH{v d}(h:bN w pv v d):bN w pv v (Ab.pH d):=by
 induction h with
 |v x I=>
   simp only[Ab.pH]
   cases J:isNil (.d (.v x))with
   |true=>have:=Gc J;simp only[A.d.injEq,D.v.injEq]at this;subst this;exact .nil
   |false=>exact .v x I
 |nil=>exact .nil
 |emp a cap hm=>exact .emp a cap hm
 |sl b off len cap sz es u hl M hm hs hu _ N=>
   simp only[Ab.pH,vI];refine .sl b off len cap sz _ u (by simpa using hl) M hm (fun i e he=>?_) hu (fun i j e d he hd=>?_);·grind[Option.map_eq_some_iff,mX,List.length_map]
   ·grind[Option.map_eq_some_iff,mX]
def wq:A->A
 |.d x=>.d (pH x)
 |.ag l=>.ag (sR l)
 |a=>a
theorem bK.wq{v}(h:bK E v a):bK E v (Ab.wq a):=by
 cases h with
 |d hd=>exact .d hd.pH
 |ag vs l hs hd=>refine .ag vs _ (by rw[mX];simpa using hs) (fun i u x hu M=>?_);rw[mX,τ,ν]at M;obtain⟨y,hy,rfl⟩:=M;exact(hd i u y hu hy).pH
 |any=>exact .any _
 |ni t x=>exact .ni t x
 |fl _ es hd ad=>exact .fl _ es hd ad
 |own _ g es hd J N=>exact .own _ g es hd J N
 |agg vs l hs O hd=>exact .agg vs l hs O hd
 |tup vs l hs hd=>exact .tup vs l hs hd
 |rowd b off l u U hd=>exact .rowd b off l u U hd
 |row b off l u U hd=>exact .row b off l u U hd
 |ptr _ g off b J hb hp=>exact .ptr _ g off b J hb hp
 |xs _ g es J h1 M=>exact .xs _ g es J h1 M
 |xp _ g i off l J h1 M=>exact .xp _ g i off l J h1 M
 |mp _ g es J h1 M=>exact .mp _ g es J h1 M
 |mq _ g es J h1 M=>exact .mq _ g es J h1 M
 |mo _ g es hole ob J h1 M=>exact .mo _ g es hole ob J h1 M
 |bf _ g T s J h1 M=>exact .bf _ g T s J h1 M
 |np _ g T b J hb hT u M=>exact .np _ g T b J hb hT u M
 |sb _ g n c b J hb X M=>exact .sb _ g n c b J hb X M
 |fx _ u g es ou M J hu O=>exact .fx _ u g es ou M J hu O
 |ol _ u g' E' g es M ai aj J hu=>exact .ol _ u g' E' g es M ai aj J hu
 |ow _ v g es hd J N=>exact .ow _ v g es hd J N
 |gi _ g I J N=>exact .gi _ g I J N
 |lk _ g n c b v J hb X M=>exact .lk _ g n c b v J hb X M
 |clo f vs l hs hd=>exact .clo f vs l hs hd
 |bnd f vs l hs hd=>exact .bnd f vs l hs hd
theorem kQ{n}(h:Pu P C n st o a)(I:Ab.wq a=a'):Pu P C n st o a':=by subst I;intro G tmps w hs;exact(h G tmps w hs).mono fun J w'⟨h1,h2⟩=>⟨h1,h2.wq⟩
end Go.Ab
namespace Go.Tb
open Go.Ab
variable {l:List UInt8}{i k u:Nat}{α:Type}{level id a:Int}{x:Value}
variable {l1:List (Value×List (List D))}
end Go.Tb
namespace Go.Ab
open Go.RowKit
variable {w w':World}{tmps:Array Value}{pv:Nat→Nat→Prop}{x y:Operand}{t g i k e m j id b off gen d gen' clock sz J mt g2 t' cap d0:Nat}{P:Program}{Q':Exit→Act→World→Prop}{lv' lv gs order os:List Nat}{bs:List (Nat×Nat)}{parts:Array (Nat×Operand)}{fid:FuncId}{xs:Array Operand}{o:Oper}{fn:Func}{dst:Option Nat}{ops:Array Oper}{α ι H β:Type}{hole:Option Value}{R:Value→World→Prop}{want:Bool}{listed:Array Bool}{T ty:TypeId}{l1 l2:List Oper}{ids:List Int}{act:Act}
variable {es es2:List (List D)}{f:List (Nat×A)}{G:Gh}{a a':A}{st st':St}{l:List D}{args cells cq' caps cq cells' X:List A}{E E':En}{Q:Exit→St→Prop}{b1 I:List (List A)}{C:Ctx}
variable {rs:List RV}
variable {td ed:cV}
def mC(P:Program)[dw P](w:World):Prop:=∃W:World,(W.ShapedOpen P∧dw.met P W)∧W.heap.size<=w.heap.size∧∀b,b<W.heap.size->w.heap[b]?=W.heap[b]?
theorem mC.cell[dw P](h:mC P w)(I:∀W:World,W.ShapedOpen P->∃m,W.cell? ⟨b,0,none⟩=some (.int .i64 m)):∃m,w.cell? ⟨b,0,none⟩=some (.int .i64 m):=by obtain⟨W,h1,_,h3⟩:=h;grind[W,ea,cL]
theorem bm.FD[dw P]{f r}(ok:kB P f)(h:∀(w:World)(I:Array Value)(E:En),E.w=w->mC P w->I.size=args.length->(∀(i:Nat)(u:Value)(a:A),I[i]?=some u->args[i]?=some a->bK E u a)->
  Calls P f I w fun e w'=>∃v,e=.returned v∧Below w.heap.size w w'∧∀E':En,E'.w=w'->(∀b o,E'.pv b o->b<w.heap.size)->bK E' v r):
 bm P f args r 0:=by
 refine⟨ok,fun C I w X hw hp N O M=>?_⟩;have hu:mC P w:=by obtain⟨W,h1,h2,h3⟩:=X.h;rw[hw]at h2 h3;exact⟨W,h1,h2,fun b hb=>(h3 b hb).1⟩
 refine(h w I (bu C G0 0 w) Z hu O M).mono fun e w'⟨v,h1,hb,J⟩=>⟨v,G0,h1,?_,J _ Z (fun b o U=>N b o ((sF C b o).1 U))⟩;subst hw
 exact{size:=rfl,frame:=fun t a ha=>by simp[look]at ha,box:=fun g cells hc=>by simp[bh]at hc,gbox:=fun g b hb=>by simp[G0]at hb,inj:=fun g g' b hb=>by simp[G0]at hb,
         live:=fun g hg=>by simp at hg,gown:=fun g r J=>by simp[G0]at J,row:=fun g b len cap sz ad J=>by simp[G0]at J,mrow:=fun g b bs J=>by simp[G0]at J,sub:=fun g b bs c lim J=>by simp[G0]at J,gcell:=fun g b hb=>by simp[G0]at hb,xold:=fun b o hb=>⟨N b o hb,hp.1 b⟩,kold:=fun b o hb=>absurd hb (hp.2.1 b o),
         lent:=fun i b hb=>by rw[hp.2.2.1]at hb;simp at hb,fr:=⟨hb.os,hb.tape,hb.output,hb.size,fun b h1 _=>hb.block b h1,fun _ _ _ hb=>absurd hb (hp.2.1 _ _),.below hb⟩}
theorem HU{xs:List Value}{I:Array Value}(N:I.size=(xs.map fun x=>A.d (.v x)).length)(hr:∀(i:Nat)(u:Value)(a:A),I[i]?=some u->(xs.map fun x=>A.d (.v x))[i]?=some a->bK E u a):I=xs.toArray∧∀x∈xs,dy x=true:=by
 have O:∀(i:Nat)(u x:Value),I[i]?=some u->xs[i]?=some x->u=x∧dy x=true:=by intro i u x U J;have:=hr i u (.d (.v x)) U (by simp[J]);cases this with|d hd=>cases hd with|v _ ho=>exact⟨rfl,ho⟩
 have M:I.size=xs.length:=by simpa using N
 refine⟨Array.ext (by simpa using M) (fun i h1 h2=>?_),fun x J=>?_⟩
 ·have X:i<xs.length:=by simpa using h2
  have:=(O i I[i] xs[i] (by simp[h1]) (by simp[X])).1;grind
 ·obtain⟨i,hi,rfl⟩:=List.mem_iff_getElem.1 J
  exact(O i (I[i]'(by omega)) xs[i] (by simp[M,hi]) (by simp[hi])).2
theorem bm.xJ[dw P]{f}{xs:List Value}{r}(ok:kB P f)(h:∀(w:World),mC P w->(∀x∈xs,dy x=true)->Calls P f xs.toArray w fun e w'=>∃v,e=.returned v∧Below w.heap.size w w'∧∀E':En,E'.w=w'->(∀b o,E'.pv b o->b<w.heap.size)->bK E' v r):
 bm P f (xs.map fun x=>.d (.v x)) r 0:=by
 refine bm.FD ok fun w J E _ hu I M=>?_;obtain⟨e,N⟩:=HU I M;grind
theorem mC.var[dw P](h:mC P w):∃W:World,dw.met P W∧∀name cs,W.var? P name=some cs->w.var? P name=some cs:=by
 obtain⟨W,h1,_,h3⟩:=h;refine⟨W,h1.2,fun name cs I=>?_⟩;unfold World.var? at I⊢
 cases J:P.globalNamed name with
 |none=>rw[J]at I;simp at I
 |some g=>grind
def qa(P:Program)(W:World):Prop:=
 W.var? P "internal/strconv.uint64pow10" =some (Lib.pow10Tab.map fun z=>Value.int .u64 z).toArray∧(∃t p,W.var? P "strconv.ErrSyntax" =some #[.iface t p])∧∃t p,W.var? P "strconv.ErrRange" =some #[.iface t p]
theorem mC.num[dw P](hm:∀W,dw.met P W->qa P W)(h:mC P w):qa P w:=by obtain⟨W,h1,h2⟩:=h.var;obtain⟨h3,⟨t,p,h4⟩,t',I,h5⟩:=hm W h1;exact⟨h2 _ _ h3,⟨t,p,h2 _ _ h4⟩,t',I,h2 _ _ h5⟩
theorem wx{x y b}(J:bK E x a)(hb:bK E y b):bK E (.tuple #[x,y]) (.tup [a,b]):=
 .tup _ _ rfl (fun i u z hu I=>by
  match i,hu,I with
  |0,hu,I=>simp only[List.getElem?_toArray,List.getElem?_cons_zero,Option.some.injEq]at hu I;subst hu;subst I;exact J
  |1,hu,I=>simp only[List.getElem?_toArray,List.getElem?_cons_succ,List.getElem?_cons_zero,Option.some.injEq]at hu I;subst hu;subst I;exact hb
  |i+2,hu,I=>simp at I)
section
variable{n:Nat}
variable{bx:List (Nat×List A)}{pos:String}{af:Array Edge}
theorem xt(w){t ms}(hu:P.underlying t=some (.interface ms)):(Op.equal t .nilIface .nilIface).run P w=.ok true w:=by
 have h:∀d:Nat,(Op.equalIn (d+1) t .nilIface .nilIface).run P w=.ok true w:=fun d=>by simp[Op.equalIn,run_underlying hu]
 exact h 9999
theorem Ah(w){t u v ms}(hu:P.underlying t=some (.interface ms)):(Op.equal t (.iface u v) .nilIface).run P w=.ok false w:=by
 have h:∀d:Nat,(Op.equalIn (d+1) t (.iface u v) .nilIface).run P w=.ok false w:=fun d=>by simp[Op.equalIn,run_underlying hu]
 exact h 9999
def mR(P:Program)(t:TypeId):Bool:=match P.underlying t with|some (.interface _)=>true|_=>false
theorem mY{t}(h:mR P t=true):∃ms,P.underlying t=some (.interface ms):=by grind[mR]
theorem K4(M:av f x=some (.d (.v .nilIface)))(hB:mR P t=true):
 Pu P C n ⟨f,bx,lv,gen⟩ ⟨dst,.binOp .eql t x (.const .nilIface) t',ty,pos,af,none⟩ (.d (.v (.bool true))):=by
 obtain⟨ms,hu⟩:=mY hB;refine aq fun G tmps w hs=>?_;have I:=hs.av M;generalize J:Act.eval ⟨tmps,[]⟩ x=vx at I;cases I with|d I=>cases I with|v _ _=>
 refine⟨.bool true,?_,.d (.v _ Z)⟩;unfold execOp;show Sem.run P _ w=_;have he:(Act.eval ⟨tmps,[]⟩ (Operand.const Value.nilIface))=Value.nilIface:=rfl;simp only[J,he,eqGuard,binOp];simp[xt w hu];rfl
theorem JJ(M:av f x=some .ni)(hB:mR P t=true):
 Pu P C n ⟨f,bx,lv,gen⟩ ⟨dst,.binOp .eql t x (.const .nilIface) t',ty,pos,af,none⟩ (.d (.v (.bool false))):=by
 obtain⟨ms,hu⟩:=mY hB;refine aq fun G tmps w hs=>?_;have I:=hs.av M;generalize J:Act.eval ⟨tmps,[]⟩ x=vx at I;cases I with|ni t2 N=>
 refine⟨.bool false,?_,.d (.v _ Z)⟩;unfold execOp;show Sem.run P _ w=_;have he:(Act.eval ⟨tmps,[]⟩ (Operand.const Value.nilIface))=Value.nilIface:=rfl;simp only[J,he,eqGuard,binOp];simp[Ah w hu];rfl
end
theorem vV(cur:Array Value)(c:List Value)(p i)(h:p+c.length<=cur.size):
 (cur.toList.take p++c++cur.toList.drop (p+c.length)).toArray[i]?=if p<=i∧i<p+c.length then c[i-p]?else cur[i]?:=by
 grind
theorem AB(cur:Array Value)(c:List Value)(p)(h:p+c.length<=cur.size):(cur.toList.take p++c++cur.toList.drop (p+c.length)).toArray.size=cur.size:=by grind
def mb(e:List D)(off:Nat)(cs:List D):List D:=e.take off++cs++e.drop (off+cs.length)
theorem Gp{e cs:List D}(h:off+cs.length<=e.length):(mb e off cs).length=e.length:=by simp[mb];omega
theorem G7{e cs:List D}(h:off+cs.length<=e.length):(mb e off cs)[i]?=if off<=i∧i<off+cs.length then cs[i-off]?else e[i]?:=by
 have I:(e.take off).length=off:=by simp;omega
 grind[mb]
theorem fN{v}(h:tmps[d]?=some v):tmps.setIfInBounds d v=tmps:=by grind
section
variable{n:Nat}
theorem gW.len(hs:bq C n st G tmps w){r}(J:G.own g=some r){v}(h:gW w pv r v es):
 ∃a cap,v=.slice a es.length cap∧es.length<=cap∧es.length<=maxLen:=by
 cases r with
 |nil=>obtain⟨rfl,rfl⟩:=h;exact⟨none,0,rfl,χ _,by simp⟩
 |zero b=>obtain⟨rfl,rfl⟩:=h;exact⟨_,0,rfl,χ _,by simp⟩
 |mp b bs=>exact h.elim
 |blk b len cap sz I=>obtain⟨rfl,h2,_⟩:=h;obtain⟨_,_,_,_,_,_,_,h3,h4,_⟩:=hs.row g b len cap sz I J;exact⟨_,cap,by rw[h2],by omega,by omega⟩
theorem bq.IS(h:bq C n st G tmps w){r}(hg:G.own g=some r){v}(hx:gW w (cf C G) r v es)(lv)(a7:∀J∈lv,J∈st.lv∧J≠g):
 nt false C n st G tmps lv es v w w:=by
 cases r with
 |mp b bs=>exact hx.elim
 |nil=>obtain⟨rfl,rfl⟩:=hx;exact h.pq (m:=false) hg ⟨.nil,0,by simp,rfl,rfl⟩ lv a7
 |zero b=>obtain⟨rfl,rfl⟩:=hx;exact h.pq (m:=false) hg ⟨.emp _ 0 (by simp),0,by simp,0,rfl⟩ lv a7
 |blk b len cap sz c1=>
   obtain⟨rfl,hlen,rfl,hl,hr⟩:=hx;obtain⟨O,b5,cl,cur,T,aj,b6,a8,b0,hz,b4,_,hone⟩:=h.row g b len cap sz 0 hg;let M:Nat->Option Row:=fun J=>if J=st.gen then some (.blk b len cap sz (len*sz))else if J=g then none else G.own J;have c6:=h.gown g _ hg;have ch:∀N o,cf C ⟨G.box,M⟩ N o->cf C G N o:=by
    rintro N o (hp|hp|⟨J,U,X,a1,ad,hp,a6⟩|⟨J,b2,bs,lim,hp,hm,a6⟩);·exact .inl hp
    ·exact .inr (.inl hp)
    ·simp only[M]at hp
     split at hp
     ·simp only[Option.some.injEq,Row.blk.injEq]at hp
      obtain⟨rfl,rfl,rfl,rfl,rfl⟩:=hp;exact .inr (.inr (.inl ⟨g,len,cap,sz,0,hg,ς _⟩))
     ·split at hp
      ·grind
      ·exact .inr (.inr (.inl ⟨J,U,X,a1,ad,hp,a6⟩))
    ·simp only[M]at hp
     split at hp;·grind
     ·split at hp
      ·grind
      ·exact .inr (.inr (.inr ⟨J,b2,bs,lim,hp,hm,a6⟩))
   have hle:(bu C G st.gen w).le (bu C ⟨G.box,M⟩ (st.gen+1) w):=l5 h.fr h.fr (fun b o u hu hn=>⟨hu,fun hp=>hn (ch b o hp)⟩) (fun _ _ h=>h)
    (fun J r' ai I=>by
     simp only[M,if_neg (X' ai)]at I;split at I;·cases I
     ·exact I) (Nat.le_succ _) (fun _ _ _ _ _ _ _ _=>rfl) (fun _ _ _ _ _=>⟨fun _ _=>rfl,fun _ _=>rfl⟩) (.refl w)
   refine⟨⟨⟨G.box,M⟩,rfl,{size:=h.size,frame:=h.fz hle,inj:=h.inj,xold:=h.xold,kold:=h.kold,lent:=h.lent,fr:=h.fr,gcell:=h.gcell,box:=?_,gbox:=?_,live:=?_,gown:=?_,row:=?_,mrow:=?_,sub:=?_},?_⟩⟩
   ·intro J cells hc
    obtain⟨b,cs,T,h1,h2,h3,h4,h5⟩:=h.box J cells hc;exact⟨b,cs,T,h1,h2,h3,h4,fun i u a hu ha=>(h5 i u a hu ha).mono hle⟩
   ·intro J b hb
    obtain⟨h1,h2⟩:=h.gbox J b hb;grind
   ·intro J ai
    rcases N'.1 ai with rfl|ai
    ·grind
    ·obtain⟨h1,h2⟩:=a7 J ai
     obtain⟨r',I⟩:=h.live J h1;grind
   ·intro J r' I
    simp only[M]at I;split at I;·grind
    ·split at I
     ·grind
     ·exact Z' (h.gown J r' I)
   ·intro J N U X a1 ad I
    simp only[M]at I;split at I
    ·rename_i e
     simp only[Option.some.injEq,Row.blk.injEq]at I;obtain⟨rfl,rfl,rfl,rfl,rfl⟩:=I;refine⟨⟨O.1,fun o ho=>absurd (O.2 o ho) (Nat.not_lt_zero _)⟩,b5,fun g2 cq cx c7 cy h2=>?_,cur,T,aj,b6,a8,b0,hz,b4,χ _,hone⟩;grind
    ·split at I
     ·grind
     ·rename_i e1 e2
      obtain⟨h4,h5,h6,h7⟩:=h.row J N U X a1 ad I;grind
   ·intro J N bs I
    have un:∀g2 N bs,M g2=some (.mp N bs)->G.own g2=some (.mp N bs):=by grind
    obtain⟨h4,df,h5,h6⟩:=h.mrow J N bs (un _ _ _ I);grind
   ·intro J N bs c lim I hm
    have un:∀g2 N bs,M g2=some (.mp N bs)->G.own g2=some (.mp N bs):=by grind
    obtain⟨h4,h5,h6,h7,h8⟩:=h.sub J N bs c lim (un _ _ _ I) hm;grind
   ·subst hlen
    refine .own _ _ es (au aj a8 b0 hl (fun t ht hp=>?_) (fun i j e d hi hj=>?_)) (by simp[bu]) (fun r' I=>?_)
    ·rcases(hp:cf C ⟨G.box,M⟩ b t)with hp|⟨J,hp⟩|⟨J,U,X,a1,ad,hp,a6⟩|⟨J,N,bs,lim,hp,cj,_⟩
     rotate_right
     ·simp only[M]at hp
      split at hp;·grind
      ·split at hp
       ·grind
       ·exact(h.sub J N bs b lim hp cj).2.2.1 g _ _ _ _ hg
     ·have:=h.xold _ _ hp;rcases O.1 with hm|hm
      ·omega
      ·grind
     ·grind
     ·grind
    ·obtain⟨u,h1,h2⟩:=hr i j e d hi hj
     rw[cP aj]at h1;exact⟨u,h1,h2.mono hle.cell⟩
    ·have b3:M st.gen=some r':=I
     simp only[M,if_true,Option.some.injEq]at b3;subst b3;exact⟨sz,hl,rfl,rfl,rfl,rfl⟩
theorem bq.Lj(h:bq C n st G tmps w){len}(hg:G.own g=some (.blk b len cap sz 0)){v}(X:gW w (cf C G) (.blk b len cap sz 0) v es){e cs:List D}(he:es[j]?=some e){I:Array Value}(hc:dT (bu C G st.gen w) I (cs.map .d))(hle:off+cs.length<=e.length)(lv)(aj:∀g'∈lv,g'∈st.lv∧g'≠g):
 ∃cur T,w.heap[b]?=some (.cells cur T (0,0))∧(j*sz+off)+I.toList.length<=cur.size∧
   nt true C n st G tmps lv (es.set j (mb e off cs)) v w (w.setRow b (cur.toList.take (j*sz+off)++I.toList++cur.toList.drop ((j*sz+off)+I.toList.length)).toArray):=by
 obtain⟨rfl,hlen,_,hl,hr⟩:=X;obtain⟨a8,b3,b0,cur,T,N,a1,b4,b5,hz,b2,_,hone⟩:=h.row g b len cap sz 0 hg;have hj:j<len:=by rw[<-hlen];exact(δ.1 he).1
 have a6:e.length=sz:=hl e (ζ he);have O:I.toList.length=cs.length:=by have:=hc.1;simpa using this
 have J:(j*sz+off)+I.toList.length<=cur.size:=by rw[O,a1];have h1:(j+1)*sz<=cap*sz:=Nat.mul_le_mul_right _ (by omega);rw[Nat.succ_mul]at h1;omega
 refine⟨cur,T,N,J,?_⟩;have ai:(es.set j (mb e off cs)).length=len:=by rw[List.length_set];exact hlen
 have:=h.tu true (g:=g) (b:=b) (len:=len) (cap:=cap) (sz:=sz) (es:=es.set j (mb e off cs)) (by simpa[iB]using hg) N (AB cur I.toList _ J) (mH hone fun u hu=>by obtain⟨i,hi⟩:=ψ.1 hu;exact hc.2.1 i u (by simpa using hi)) (fun t ht=>by simp[iB]at ht) (by omega) (by omega) (fun x X=>?_) (fun i k x d hi M=>?_) lv aj
 ·rw[ai]at this
  exact this
 ·rcases List.mem_or_eq_of_mem_set X with X|rfl
  ·exact hl x X
  ·rw[Gp hle];exact a6
 ·rw[List.getElem?_set]at hi
  have U:∀i k u,cellAt w b (i*sz+k)=some u->cur[i*sz+k]?=some u:=fun i k u hu=>by rw[cP N]at hu;exact hu
  by_cases hij:j=i
  ·subst hij
   rw[if_pos rfl,if_pos (by omega)]at hi;simp only[Option.some.injEq]at hi;subst hi;rw[G7 hle]at M;rw[vV cur I.toList _ _ J,O];by_cases hin:off<=k∧k<off+cs.length
   ·rw[if_pos hin]at M
    rw[if_pos (by omega)];have e1:j*sz+k-(j*sz+off)=k-off:=by omega
    rw[e1];have ad:k-off<I.size:=by have:=(δ.1 M).1;simp at O;omega
    have hu:I[k-off]?=some I[k-off]:=by simp[ad]
    have h3:=hc.2.2 (k-off) _ (.d d) hu (by rw[τ,M];rfl);revert h3 hu;generalize I[k-off]=u;intro hu h3
    cases h3 with
    |d h3=>exact⟨_,by rw[Array.getElem?_toList];exact hu,h3⟩
   ·rw[if_neg hin]at M
    rw[if_neg (by omega)];obtain⟨u,h1,h2⟩:=hr j k e d he M;exact⟨u,U j k u h1,h2⟩
  ·rw[if_neg hij]at hi
   obtain⟨u,h1,h2⟩:=hr i k x d hi M;have b6:i<len:=by rw[<-hlen];exact(δ.1 hi).1
   have ch:k<sz:=by rw[<-hl x (ζ hi)];exact(δ.1 M).1
   rw[vV cur I.toList _ _ J,O,if_neg];·exact⟨u,U i k u h1,h2⟩
   ·rintro⟨h3,h4⟩
    rcases Nat.lt_or_gt_of_ne hij with ad|a7
    ·have:(j+1)*sz<=i*sz:=Nat.mul_le_mul_right _ ad
     rw[Nat.succ_mul]at this;omega
    ·have:(i+1)*sz<=j*sz:=Nat.mul_le_mul_right _ a7
     rw[Nat.succ_mul]at this;omega
end
section
variable(T:cG P){n:Nat}{rest:List Oper}
theorem WO.Ix(hg:o.guard=none)(hd:fY n o.dst=true){I:cV}(ho:o.op=.call ⟨.builtin .append,#[x,y],#[t,t]⟩)(ht:bh T.l t=some td)(hk:td.k=.slice e)(he:bh T.l e=some I)(hx:av st.f x=some (.xs g es))(U:g∈st.lv){b}(hy:av st.f y=some b)(X:jI b=some es2)(hz:Nat.blt 0 I.n=true)(ad:Nat.blt 0 I.b=true)(hl:∀(x:List D),x∈es++es2->x.length=I.n)(hb:(es.length+es2.length)*I.b<=140737488355328)(h:WO P C n ops Q rest (St.put {st with lv:=st.gen::bR st.lv g,gen:=st.gen+1} o.dst (.xs st.gen (es++es2)))):WO P C n ops Q (o::rest) st:=by
 refine WO.step hg fun tmps w⟨G,hs⟩=>?_;have hr:=hs.av hx;have ai:=jv X (hs.av hy);obtain⟨r,J⟩:=hs.live g U;generalize hv:Act.eval ⟨tmps,[]⟩ x=v at hr
 cases hr with
 |xs _ _ _ a6 h1 O=>
 have N:=O r J;obtain⟨a,cap,h2,h3,_⟩:=gW.len hs J N;obtain⟨v',w',M,⟨G',_,aj,a1⟩⟩:=tD T true hs ht hk he ⟨a,cap,h2,h3⟩ ai (.own g r J ⟨h1,N⟩) hl (κ hz) (κ ad) hb o.type;rw[<-hv]at M;exact dE (pI ho M) ⟨_,⟨G',aj.put (dp hd) a1⟩,h⟩
theorem W.KI{c}(hl:look st.f d=some (.d (.v (.slice none 0 0))))(hd:Nat.blt d n=true)(h:W P C n c Q (St.set {st with lv:=st.gen::st.lv,gen:=st.gen+1} d (.xs st.gen []))):W P C n c Q st:=by
 intro tmps w ⟨G,hs⟩;obtain⟨v,N,I⟩:=hs.frame _ _ hl;cases I with|d I=>cases I with|v _ _=>
 obtain⟨⟨O,_,J,M⟩⟩:=hs.pT true st.lv (fun _ h=>h);refine h tmps w ⟨O,?_⟩;have:=J.set (d:=d) (κ hd) M;rwa[fN N]at this
theorem aV{c}(hl:look st.f d=some (.xs g es))(M:g∈st.lv)(hd:Nat.blt d n=true)(h:W P C n c Q (St.set {st with lv:=st.gen::bR st.lv g,gen:=st.gen+1} d (.own st.gen es))):W P C n c Q st:=by
 intro tmps w ⟨G,hs⟩;obtain⟨v,X,hr⟩:=hs.frame _ _ hl;obtain⟨r,I⟩:=hs.live g M
 cases hr with
 |xs _ _ _ ad h1 J=>
 obtain⟨⟨G',_,N,O⟩⟩:=hs.IS I (J r I) (bR st.lv g) (fun g' U=>cQ U);refine h tmps w ⟨G',?_⟩;have:=N.set (d:=d) (κ hd) O;rwa[fN X]at this
theorem Pu.yo(O:o.op=.call ⟨.builtin .len,#[x],#[t]⟩)(U:bh T.l t=some td)(X:td.k=.slice e)(hx:av st.f x=some (.xs g es))(M:g∈st.lv):
 Pu P C n st o (.d (.v (.int .i64 es.length))):=by
 refine aq fun G tmps w hs=>?_;have N:=hs.av hx;obtain⟨r,I⟩:=hs.live g M;generalize hv:Act.eval ⟨tmps,[]⟩ x=v at N
 cases N with
 |xs _ _ _ ad h1 J=>
 obtain⟨a,cap,h2,_,hlen⟩:=gW.len hs I (J r I);refine⟨.int .i64 es.length,?_,.d (.v _ ?_)⟩
 ·unfold execOp
  rw[O];show Sem.run P (do let d←resolve (Act.eval ⟨tmps,[]⟩) ⟨.builtin .len,#[x],#[t]⟩ o.type;invoke d.target d.args) w=_;simp only[resolve,List.map_toArray,U',List.map_nil,hv,h2,Sem.run_bind,Sem.run_pure,Result.andThen_ok,invoke,builtin,Builtin.len_];simp[run_underlying (T.gN U X),goInt];rfl
 ·simp only[maxLen]at hlen
  simp[dy,IntKind.min,IntKind.max,IntKind.signed,IntKind.bits];omega
theorem Pu.ox{X}(ho:o.op=.indexAddr t x X){N:cV}(ht:bh T.l t=some td)(hk:td.k=.slice e)(he:bh T.l e=some N)(hx:av st.f x=some (.xs g es))(ai:g∈st.lv){k:IntKind}{i:Int}(hi:av st.f X=some (.d (.v (.int k i))))(h0:0<=i)(hl:es[i.toNat]?=some l)(hlen:l.length=N.n):Pu P C n st o (.xp g i.toNat 0 l):=by
 refine aq fun G tmps w hs=>?_;have hu:=T.gN ht hk;have O:=hs.av hx;have I:=hs.av hi;obtain⟨r,U⟩:=hs.live g ai;generalize aj:Act.eval ⟨tmps,[]⟩ X=vi at I;cases I with|d I=>cases I with|v _ _=>
 have J:i.toNat<es.length:=(δ.1 hl).1;generalize a1:Act.eval ⟨tmps,[]⟩ x=vx at O
 cases O with
 |xs _ _ _ a6 h1 ad=>
 have M:=ad r U
 cases r with
 |nil=>obtain⟨_,h2⟩:=M;rw[h2]at J;simp at J
 |zero b=>obtain⟨_,h2⟩:=M;rw[h2]at J;simp at J
 |mp b bs=>exact M.elim
 |blk b len cap sz a7=>
   obtain⟨rfl,h2,h3,h4,h5⟩:=M;have a8:sz=N.n:=by rw[<-h4 _ (ζ hl),hlen]
   subst a8;refine⟨.pointer (some ⟨b,i.toNat*N.n,none⟩),?_,.xp _ g _ 0 l a6 rfl (fun r' b0=>?_)⟩
   ·unfold execOp
    rw[ho];show Sem.run P _ w=.ok _ w;have b2:0<=i∧i<(len:Int):=⟨h0,by omega⟩;simp only[aj,a1,Instr.indexAt,asIntOf,Sem.run_bind,Sem.run_pure,Result.andThen_ok,run_underlying hu,b2,and_self,if_true,T.sizeOf he];unfold Addr.add;grind
   ·have e2:r'=.blk b len cap N.n a7:=J' ((b0:G.own g=some r').symm.trans U)
    subst e2;refine⟨rfl,by omega,by rw[Nat.zero_add];exact hlen,fun j d hj=>?_⟩;grind
theorem Pu.kC(ho:o.op=.fieldAddr t x i){I O}(hf:qP T t i=some (I,O))(U:eW T O=m+1)(hx:av st.f x=some (.xp g j off l))(X:g∈st.lv)(hle:I<=l.length):
 Pu P C n st o (.xp g j (off+I) (l.drop I)):=by
 refine aq fun G tmps w hs=>?_;have hr:=hs.av hx;obtain⟨r,M⟩:=hs.live g X;generalize hv:Act.eval ⟨tmps,[]⟩ x=v at hr
 cases hr with
 |xp _ _ _ _ _ ad h1 N=>
 have J:=N r M
 cases r with
 |nil=>exact J.elim
 |zero b=>exact J.elim
 |mp b bs=>exact J.elim
 |blk b len cap sz ai=>
   obtain⟨rfl,h2,h3,h4⟩:=J;have a1:(Instr.fieldAt t (.pointer (some ⟨b,j*sz+off,none⟩)) i).run P w=.ok (.pointer (some ⟨b,j*sz+(off+I),none⟩)) w:=by have:=mz T hf U b (j*sz+off) w;grind
   refine⟨.pointer (some ⟨b,j*sz+(off+I),none⟩),?_,.xp _ g j (off+I) (l.drop I) ad Z (fun r' aj=>?_)⟩
   ·unfold execOp
    rw[ho];show Sem.run P _ w=.ok _ w;simp_all
   ·have e2:r'=.blk b len cap sz ai:=J' ((aj:G.own g=some r').symm.trans M)
    subst e2;refine⟨rfl,h2,by simp;omega,fun k d hk=>?_⟩;grind
theorem Pu.sL(ho:o.op=.load t x)(hx:av st.f x=some (.xp g j off l))(U:g∈st.lv)(ha:mw T t l=some a):Pu P C n st o a:=by
 refine aq fun G tmps w hs=>?_;have X:=hs.av hx;obtain⟨r,ad⟩:=hs.live g U;generalize hv:Act.eval ⟨tmps,[]⟩ x=v at X
 cases X with
 |xp _ _ _ _ _ aj h1 N=>
 have I:=N r ad
 cases r with
 |nil=>exact I.elim
 |zero b=>exact I.elim
 |mp b bs=>exact I.elim
 |blk b len cap sz a1=>
   obtain⟨rfl,h2,h3,h4⟩:=I;have M:∀k,k<l.length->∃u,cellAt w b (j*sz+off+k)=some u:=fun k J=>by obtain⟨u,h5,_⟩:=h4 k l[k] (by simp[J]);exact⟨u,h5⟩
   have key:=nE (E:=bu C G st.gen w) T (t:=t) (a:=a) (b:=b) (off:=j*sz+off) (l:=l) (u:=fun k=>(cellAt w b (j*sz+off+k)).getD default)
    (fun k J=>by obtain⟨u,hu⟩:=M k J;show cellAt w b _=_;rw[hu];rfl) (fun k y J=>by obtain⟨u,h5,O⟩:=h4 k y J;have ai:cellAt w b (j*sz+off+k)=some u:=h5;rw[ai];exact O) ha
   obtain⟨v,h5,O⟩:=key;refine⟨v,?_,O⟩;rw[mA ho];simp_all
theorem Az(hs:bq C n st G tmps w){t}(ho:o.op=.store t x y)(hx:av st.f x=some (.xp g j off l))(b2:g∈st.lv){v}(hv:bK (bu C G st.gen w) v (.xs g es)){e:List D}(he:es[j]?=some e)(cl:off+l.length=e.length)(ha:av st.f y=some a){cs:List D}(hc:BA a=some cs)(I:eW T t=cs.length)(hz:cs.length≠0)(hle:cs.length<=l.length):
 ∃w',(execOp (Act.eval ⟨tmps,[]⟩) o).run P w=.ok .skip w'∧nt true C n st G tmps (bR st.lv g) (es.set j (mb e off cs)) v w w'∧∀N X,G.box X=some N->w'.heap[N]?=w.heap[N]?:=by
 obtain⟨r,J⟩:=hs.live g b2;have aj:=hs.av hx;generalize b3:Act.eval ⟨tmps,[]⟩ x=vx at aj
 cases hv with
 |xs _ _ _ _ _ a7=>
 cases aj with
 |xp _ _ _ _ _ _ _ ad=>
 have a1:=a7 r J;have M:=ad r J
 cases r with
 |nil=>exact M.elim
 |zero b=>exact M.elim
 |mp b bs=>exact M.elim
 |blk b len cap sz b4=>
   have b5:b4=0:=a1.2.2.1;subst b5;obtain⟨rfl,_,_,_⟩:=M;have O:=Bz hc (hs.av ha);obtain⟨cur,T',a8,b0,ai⟩:=hs.Lj J a1 he (off:=off) O (by omega) (bR st.lv g) (fun X b6=>cQ b6);have a6:=run_storeCells_at P b (j*sz+off) T' (Act.eval ⟨tmps,[]⟩ y).cells.toList 0 cur w a8 (by simpa using b0) (fun u hu=>by obtain⟨i,hi⟩:=ψ.1 hu;exact O.2.1 i u (by simpa using hi));obtain⟨d,U,ch⟩:∃d,bh T.l t=some d∧d.n=cs.length:=by
    unfold eW at I;split at I;·rename_i d U;exact⟨d,U,I⟩
    ·exact absurd I.symm hz
   refine⟨_,?_,ai,fun N X cj=>setRow_other w b N _ (fun e=>(hs.row g b len cap sz 0 J).2.1 X (e▸cj))⟩;unfold execOp;rw[ho];show Sem.run P _ w=_;simp only[b3,Instr.storeAt,Instr.sureAddr,storeVar,Sem.run_bind,Sem.run_pure,Result.andThen_ok,T.sizeOf U];rw[if_neg (by rw[ch];have:=O.1;simp at this⊢;exact this)];simp only[Nat.add_zero]at a6;simp only[a6,Result.andThen_ok]
theorem WO.vv(s:Nat)(hg:o.guard=none)(hd:fY n o.dst=true){t}(ho:o.op=.store t x y)(hx:av st.f x=some (.xp g j off l))(M:g∈st.lv)(hl:look st.f s=some (.xs g es))(N:Nat.blt s n=true){e:List D}(he:es[j]?=some e)(I:off+l.length=e.length)(ha:av st.f y=some a){cs:List D}(hc:BA a=some cs)(O:eW T t=cs.length)(hz:Nat.blt 0 cs.length=true)(hle:cs.length<=l.length)(h:WO P C n ops Q rest (St.put (St.set {st with lv:=st.gen::bR st.lv g,gen:=st.gen+1} s (.xs st.gen (es.set j (mb e off cs)))) o.dst .any)):WO P C n ops Q (o::rest) st:=by
 refine WO.step hg fun tmps w⟨G,hs⟩=>?_;obtain⟨v,hv,hr⟩:=hs.frame s _ hl;obtain⟨w',J,⟨G',_,U,X⟩,_⟩:=Az (P:=P) T hs ho hx M hr he I ha hc O (by have:=κ hz;omega) hle;refine kp J ⟨_,⟨G',bq.put ?_ (dp hd) (.any _)⟩,h⟩;have:=U.set (d:=s) (κ N) X;rwa[fN hv]at this
theorem bq.Bc{M:Gh}(hs:bq C n st G tmps w)(I:bq C n st' M tmps w')(N:st'.bx=st.bx)(X:M.box=G.box){g0}(hb:bh st.bx g0=some cells){v}(hold:∀b cs T,G.box g0=some b->w.heap[b]?=some (.cells cs T (0,0))->cs[i]?=some v)(O:∀b,G.box g0=some b->w'.heap[b]?=w.heap[b]?)(hr:bK (bu C M st'.gen w') v a'):
 bq C n {st' with bx:=(g0,cells.set i a')::st'.bx} M tmps w':=by
 refine{I with box:=fun U c J=>?_};simp only[cZ]at J;split at J
 ·rename_i e
  subst e;simp only[Option.some.injEq]at J;subst J;obtain⟨b,cs,T,h1,h2,h3,h4,h5⟩:=I.box g0 cells (by rw[N];exact hb);grind
 ·exact I.box U c J
end
section
variable{n:Nat}{c:Code}{bx:List (Nat×List A)}
theorem bN.elem{v}(h:bN w pv v (.sl es)){e:List D}{x}(he:es[k]?=some e)(I:e[j]?=some (.v x)):dy x=true:=by
 cases h with
 |nil=>simp at he
 |emp=>simp at he
 |sl b off len cap sz es u hl N hm hs hu J=>have:=J k j e _ he I;generalize u k j=y at this;cases this with|v _ M=>exact M
theorem W.elem(t){e:List D}{x}(hl:look f t=some a)(I:jI a=some es)(he:es[k]?=some e)(J:e[j]?=some (.v x))(h:dy x=true->W P C n c Q ⟨f,bx,lv,gen⟩):W P C n c Q ⟨f,bx,lv,gen⟩:=by intro tmps w ⟨G,hs⟩;obtain⟨v,N,M⟩:=hs.frame t a hl;exact h ((jv I M).elem he J) tmps w ⟨G,hs⟩
theorem jl(g j)(hb:bh bx g=some cells)(hj:cells[j]?=some (.d (.v (.slice none 0 0))))(N:cells.set j (.d (.sl []))=cells')(h:W P C n c Q ⟨f,(g,cells')::bx,lv,gen⟩):W P C n c Q ⟨f,bx,lv,gen⟩:=by
 subst N;intro tmps w ⟨G,hs⟩;refine h tmps w ⟨G,bq.Hv hs hb (by simp) (fun i u a a' J I M=>?_)⟩;rw[List.getElem?_set]at I;split at I
 ·rename_i e
  subst e;rw[hj]at J;simp only[Option.some.injEq]at J;subst J;split at I
  ·simp only[Option.some.injEq]at I
   subst I;cases M with|d M=>cases M with|v _ _=>exact .d .nil
  ·grind
 ·grind
end
theorem bm.KZ[dw P]{f xs ys r}(h:bm P f (xs++.d (.sl [])::ys) r k):bm P f (xs++.d (.v (.slice none 0 0))::ys) r k:=
 ⟨h.ok,fun C M w X hw hp hx N J=>h.calls C M w X hw hp hx (by simpa using N) (fun i u a hu I=>by
  by_cases e:i=xs.length
  ·subst e
   have h1:=J xs.length u (.d (.v (.slice none 0 0))) hu (by simp);simp at I;subst I;cases h1 with|d hd=>cases hd with|v _ _=>exact .d .nil
  ·refine J i u a hu ?_
   rw[List.getElem?_append]at I⊢;split;·rename_i O;rw[if_pos O]at I;exact I
   ·rename_i U
    rw[if_neg U]at I;obtain⟨j,hj⟩:∃j,i-xs.length=j+1:=⟨i-xs.length-1,by omega⟩;rw[hj]at I⊢;simpa using I)⟩
section
variable(T:cG P){n:Nat}{rest:List Oper}
variable{bx:List (Nat×List A)}{op:Op}{pos:String}{af:Array Edge}{c:Code}
theorem er(h:(lv.any fun h=>Nat.beq h g)=true):g∈lv:=by grind[List.any_eq_true,Nat.eq_of_beq_eq_true]
theorem zZ{I:cV}{b}(U:av f x=some (.xs g es))(X:av f y=some b)(J:jI b=some es2)(ht:bh T.l t=some td)(hk:td.k=.slice e)(he:bh T.l e=some I)(M:(lv.any fun h=>Nat.beq h g)=true)(hz:Nat.blt 0 I.n=true)(N:Nat.blt 0 I.b=true)(hd:Nat.blt d n=true){r}(hr:es++es2=r)(hl:∀(x:List D),x∈es++es2->x.length=I.n)(hb:(es.length+es2.length)*I.b<=140737488355328)(O:gen::bR lv g=lv')(h:WO P C n ops Q rest ⟨(d,.xs gen r)::f,bx,lv',gen+1⟩):WO P C n ops Q (⟨some d,.call ⟨.builtin .append,#[x,y],#[t,t]⟩,ty,pos,af,none⟩::rest) ⟨f,bx,lv,gen⟩:=by
 subst hr;subst O;exact WO.Ix (st:=⟨f,bx,lv,gen⟩) T rfl hd rfl ht hk he U (er M) X J hz N hl hb h
theorem yo(J:av f x=some (.xs g es))(M:bh T.l t=some td)(N:td.k=.slice e)(I:(lv.any fun h=>Nat.beq h g)=true):
 Pu P C n ⟨f,bx,lv,gen⟩ ⟨dst,.call ⟨.builtin .len,#[x],#[t]⟩,ty,pos,af,none⟩ (.d (.v (.int .i64 es.length))):=
 Pu.yo (st:=⟨f,bx,lv,gen⟩) T rfl M N J (er I)
theorem ox{I}{J:cV}{k:IntKind}{i:Int}(N:av f x=some (.xs g es))(hi:av f I=some (.d (.v (.int k i))))(O:bh T.l t=some td)(U:td.k=.slice e)(he:bh T.l e=some J)(M:(lv.any fun h=>Nat.beq h g)=true)(h0:0<=i)(hl:es[i.toNat]?=some l)(hlen:l.length=J.n):
 Pu P C n ⟨f,bx,lv,gen⟩ ⟨dst,.indexAddr t x I,ty,pos,af,none⟩ (.xp g i.toNat 0 l):=
 Pu.ox (st:=⟨f,bx,lv,gen⟩) T rfl O U he N (er M) hi h0 hl hlen
theorem kC{I}(U:av f x=some (.xp g j off l))(X:qP T t i=some (I,J))(M:eW T J=m+1)(N:(lv.any fun h=>Nat.beq h g)=true)(hle:Nat.ble I l.length=true){l'}(O:l.drop I=l'):
 Pu P C n ⟨f,bx,lv,gen⟩ ⟨dst,.fieldAddr t x i,ty,pos,af,none⟩ (.xp g j (off+I) l'):=
 O▸Pu.kC (st:=⟨f,bx,lv,gen⟩) T rfl X M U (er N) (κ hle)
theorem sL(J:av f x=some (.xp g j off l))(I:(lv.any fun h=>Nat.beq h g)=true)(M:mw T t l=some a):
 Pu P C n ⟨f,bx,lv,gen⟩ ⟨dst,.load t x,ty,pos,af,none⟩ a:=
 Pu.sL (st:=⟨f,bx,lv,gen⟩) T rfl J (er I) M
theorem vv(s:Nat){t}{e:List D}{cs:List D}(hx:av f x=some (.xp g j off l))(hl:look f s=some (.xs g es))(ha:av f y=some a)(hc:BA a=some cs)(he:es[j]?=some e)(J:off+l.length=e.length)(M:(lv.any fun h=>Nat.beq h g)=true)(N:Nat.blt s n=true)(O:eW T t=cs.length)(hz:Nat.blt 0 cs.length=true)(hle:Nat.ble cs.length l.length=true){I}(U:es.set j (mb e off cs)=I)(X:gen::bR lv g=lv')(h:WO P C n ops Q rest ⟨(s,.xs gen I)::f,bx,lv',gen+1⟩):WO P C n ops Q (⟨none,.store t x y,ty,pos,af,none⟩::rest) ⟨f,bx,lv,gen⟩:=by
 subst U;subst X;exact WO.vv (st:=⟨f,bx,lv,gen⟩) T s rfl rfl rfl hx (er M) hl N he J ha hc O hz (κ hle) h
theorem IM(s:Nat)(hl:look f s=some (.xs g es))(I:(lv.any fun h=>Nat.beq h g)=true)(J:Nat.blt s n=true)(M:gen::bR lv g=lv')(h:W P C n c Q ⟨(s,.own gen es)::f,bx,lv',gen+1⟩):W P C n c Q ⟨f,bx,lv,gen⟩:=by
 subst M;exact aV (st:=⟨f,bx,lv,gen⟩) hl (er I) J h
theorem iR(s:Nat){l}(hl:look f s=some a)(I:Nat.blt s n=true)(J:Ab.wq a=a')(h:WO P C n ops Q l ⟨(s,a')::f,bx,lv,gen⟩):WO P C n ops Q l ⟨f,bx,lv,gen⟩:=by subst J;intro tmps w ⟨G,hs⟩;obtain⟨v,M,N⟩:=hs.frame s _ hl;refine h tmps w ⟨G,?_⟩;have:=hs.set (d:=s) (κ I) N.wq;rwa[fN M]at this
theorem bq.cellAt(hs:bq C n st G tmps w){g0}(hb:bh st.bx g0=some cells){x}(hi:cells[i]?=some x):
 ∃v,bK (bu C G st.gen w) v x∧∀b cs I,G.box g0=some b->w.heap[b]?=some (.cells cs I (0,0))->cs[i]?=some v:=by
 obtain⟨b,cs,I,h1,h2,h3,_,h5⟩:=hs.box g0 cells hb;have J:i<cs.size:=by rw[h3];exact(δ.1 hi).1
 have M:cs[i]?=some cs[i]:=by simp[J]
 grind
theorem IN {len} (ht:bh T.l t=some td) (hk:td.k=.slice e) (he:bh T.l e=some ed) (hes:nv f 0 parts.toList=some es) (hlen:es.length=len) (hz:Nat.blt 0 ed.n=true) (hsm:Nat.ble (len*ed.n) 16777216=true) (hl:qo ed.n es=true) (hpos:Nat.blt 0 len=true):Pu P C n ⟨f,bx,lv,gen⟩ ⟨dst,.buildSlice t len parts,ty,pos,af,none⟩ (.fl es):=by
  have hz:=κ hz
  have hsm:=κ hsm
  have hpos:=κ hpos
  have hl:=ki hl
  intro G tmps w hs
  obtain⟨cs',hrun,hcsz,_,hget⟩:=ly T (tmps:=tmps) hs ht hk he hes hlen hz hsm hl hpos
  have hb:Below w.heap.size w (w.alloc (.cells cs' e)):=(Below.refl _ w).alloc (χ _) _
  obtain⟨hle,hs'⟩:=hs.ij hb
  refine dE (v:=.slice (some ⟨w.heap.size,0,none⟩) len len) (w':=w.alloc (.cells cs' e)) ?_ ⟨hb,.fl _ _ ?_ ⟨_,by rw[hlen]⟩⟩
  · unfold execOp
    simp_all
  · have:=au (w:=w.alloc (.cells cs' e)) (pv:=cf C G) (b:=w.heap.size) (cap:=len) (sz:=ed.n) (es:=es) (heap_alloc_new w _) (by omega) (by simp only[maxLen];have:len≤len*ed.n:=Nat.le_mul_of_pos_right _ hz;omega) hl
      (fun t _ hp=>by have:=vG hs hp;omega) (fun k j e' d hk hj=>by obtain⟨u,h1,h2⟩:=hget k j e' d hk hj;exact⟨u,h1,h2.mono hle.cell⟩)
    rw[hlen] at this
    exact this
theorem AM(h:bq C n st G tmps w){M:cV}(ht:bh T.l t=some td)(hk:td.k=.slice e)(he:bh T.l e=some M){v v2}(hv:bN w (cf C G) v (.sl es))(cy:∃a,v=.slice a es.length es.length)(c1:bN w (cf C G) v2 (.sl es2))(a1:0<es2.length)(hl:∀(x:List D),x∈es++es2->x.length=M.n)(hz:0<M.n)(c6:0<M.b)(hb:(es.length+es2.length)*M.b<=140737488355328)(ty)(ad:0<es.length):
 ∃v' w',(Builtin.append_ #[t,t] ty #[v,v2]).run P w=.ok v' w'∧nt false C n st G tmps st.lv (es++es2) v' w w':=by
 have hu:=T.gN ht hk;obtain⟨i,z,hi,a6,c7,df,a7,di,dj,_⟩:=T.info he;have gd:es.length+es2.length<=140737488355328:=Y' (Nat.le_mul_of_pos_right _ c6) hb;have gj:es.length+es2.length<=maxLen:=by simp only[maxLen];omega
 have dt:∀(x:List D),x∈es->x.length=M.n:=fun x hx=>hl x (D'.2 (.inl hx));have dx:∀(x:List D),x∈es2->x.length=M.n:=fun x hx=>hl x (D'.2 (.inr hx));have J:∀(b off:Nat)(l:List Value),(∀(t:Nat)(u:Value),l[t]?=some u->cellAt w b (off+t)=some u)->∀j u,l[j]?=some u->w.cell? ((⟨b,off,none⟩:Addr).add j)=some u:=by
  intro b off l hc j u hj;have:=hc j u hj;unfold Addr.add;split;·rename_i e;subst e;simpa[cellAt]using this
  ·exact this
 cases c1 with
 |nil=>simp at a1
 |emp=>simp at a1
 |sl b2 N b6 ai ec _ u2 U ei ch ej en e2=>
 cases hv with
 |nil=>simp at ad
 |emp=>simp at ad
 |sl b1 O cj cl e3 _ u1 X e4 cq e5 e6 ff=>
 obtain⟨a,ha⟩:=cy;simp only[Value.slice.injEq]at ha;obtain⟨_,_,cx⟩:=ha;obtain⟨_,_,_,news,a8,b0,fj⟩:=(bN.sl b2 N b6 ai ec es2 u2 U ei ch ej en e2).flat dx;obtain⟨_,_,_,I,aj,b3,fo⟩:=(bN.sl b1 O cj cl e3 es u1 X e4 cq e5 e6 ff).flat dt;subst X;subst U;subst cx
 have hr:=run_append_grow (P:=P) w t ty e i z hu hi df ⟨b1,O,none⟩ es.length es.length I (by rw[aj,a6]) (J b1 O I fun t u hu=>(b3 t u hu).1) ⟨b2,N,none⟩ es2.length ai news (by rw[a8,a6]) (J b2 N news fun t u hu=>(b0 t u hu).1) (by omega) (by omega)
  (growslice_fits (by omega) (by rw[c7];exact hb))
 refine⟨_,_,hr,?_⟩;have b4:=grownCap_ge w (es.length+es2.length) es.length e;have b5:=grownCap_le_maxLen w (es.length+es2.length) es.length e (by omega);have fs:z.cells.size=M.n:=by rw[<-di,←a7];simp
 have e0:(es++es2).length=es.length+es2.length:=by simp
 have ft:∀arr,Below w.heap.size w (w.drew.alloc (.cells arr e)):=fun arr=>((Below.refl _ w).drew).alloc (χ _) _;generalize grownCap w (es.length+es2.length) es.length e=cap at b4 b5⊢;rw[<-e0];refine h.newRow false (ft _) (heap_alloc_new w.drew _) ?_ ?_ (by rw[e0];exact b4) b5 hz (by omega) hl ?_ (fun _=>False) st.lv fun g' gb=>⟨gb,fun h=>h⟩
 ·simp only[Array.size_append,List.size_toArray,size_zeroCells,aj,a8,fs,←Nat.add_mul]
  congr 1;rw[e0];omega
 ·have e1:∀k,I.toArray++news.toArray++Builtin.zeroCells z.cells k=(I++news++(Builtin.zeroCells z.cells k).toList).toArray:=fun k=>by simp
  rw[e1];exact rv (fun u hu=>by obtain⟨j,hj⟩:=ψ.1 hu;exact(b3 j u hj).2.2) (fun u hu=>by obtain⟨j,hj⟩:=ψ.1 hu;exact(b0 j u hj).2.2) (EI a7 dj)
 ·have e1:∀k,I.toArray++news.toArray++Builtin.zeroCells z.cells k=(I++news++(Builtin.zeroCells z.cells k).toList).toArray:=fun k=>by simp
  rw[e1];exact sX rfl aj hl fo fj
theorem za{I:cV}{b}(hx:av f x=some (.fl es))(hy:av f y=some b)(N:jI b=some es2)(ht:bh T.l t=some td)(hk:td.k=.slice e)(he:bh T.l e=some I)(hz:Nat.blt 0 I.n=true)(O:Nat.blt 0 I.b=true)(hd:Nat.blt d n=true)(hp:Nat.blt 0 es.length=true)(U:Nat.blt 0 es2.length=true){r}(M:es++es2=r)(hl:∀(x:List D),x∈es++es2->x.length=I.n)(hb:(es.length+es2.length)*I.b<=140737488355328)(h:WO P C n ops Q rest ⟨(d,.own gen r)::f,bx,gen::lv,gen+1⟩):WO P C n ops Q (⟨some d,.call ⟨.builtin .append,#[x,y],#[t,t]⟩,ty,pos,af,none⟩::rest) ⟨f,bx,lv,gen⟩:=by
 subst M;refine WO.step (st:=⟨f,bx,lv,gen⟩) rfl fun tmps w⟨G,hs⟩=>?_;have M:=hs.av hx;have X:=jv N (hs.av hy);generalize hv:Act.eval ⟨tmps,[]⟩ x=v at M
 cases M with
 |fl _ _ ad ai=>
 obtain⟨v',w',J,⟨G',_,aj,a1⟩⟩:=AM T hs ht hk he ad ai X (κ U) hl (κ hz) (κ O) hb ty (κ hp);rw[<-hv]at J;exact dE (pI rfl J) ⟨_,⟨G',aj.put (dst:=some d) (dp (dst:=some d) hd) a1⟩,h⟩
theorem ji{I:cV}{b}(U:av f x=some (.own g es))(X:av f y=some b)(J:jI b=some es2)(ht:bh T.l t=some td)(hk:td.k=.slice e)(he:bh T.l e=some I)(M:(lv.any fun h=>Nat.beq h g)=true)(hz:Nat.blt 0 I.n=true)(N:Nat.blt 0 I.b=true)(hd:Nat.blt d n=true){r}(hr:es++es2=r)(hl:qo I.n (es++es2)=true)(hb:Nat.ble ((es.length+es2.length)*I.b) 140737488355328=true)(O:gen::bR lv g=lv')(h:WO P C n ops Q rest ⟨(d,.own gen r)::f,bx,lv',gen+1⟩):WO P C n ops Q (⟨some d,.call ⟨.builtin .append,#[x,y],#[t,t]⟩,ty,pos,af,none⟩::rest) ⟨f,bx,lv,gen⟩:=by
 grind[wT,er,ki,Nat.le_of_ble_eq_true]
end
open Go.MapKept
section
variable[DecidableEq α]
def dm:List (α×β)->α->β->List (α×β)
 |[],a,b=>[(a,b)]
 |p::r,a,b=>if p.1=a then(a,b)::r else p::dm r a b
def cC(l:List (α×β))(a:α):Option β:=(l.find? fun p=>decide (p.1=a)).map (·.2)
theorem rr(a:α):cC ([]:List (α×β)) a=none:=rfl
theorem fG(p:α×β)(r)(a:α):cC (p::r) a=if p.1=a then some p.2 else cC r a:=by unfold cC;grind
theorem Ew(l)(a a':α)(b:β):cC (dm l a b) a'=if a=a' then some b else cC l a':=by
 induction l with
 |nil=>simp only[dm,fG,rr]
 |cons p r I=>grind[dm,fG]
theorem DF(l:List (α×β))(a:α)(b:β):∀x,x∈(dm l a b).map (·.1)↔x=a∨x∈l.map (·.1):=by
 induction l with
 |nil=>intro x;simp[dm]
 |cons p r I=>intro x;simp only[dm];grind
theorem qq{l:List (α×β)}(h:(l.map (·.1)).Nodup)(a:α)(b:β):((dm l a b).map (·.1)).Nodup:=by
 induction l with
 |nil=>simp[dm]
 |cons p r I=>grind[List.nodup_cons,dm,DF]
theorem iS{l}{a:α}(h:∀p∈l,p.1≠a)(b:β):dm l a b=l++[(a,b)]:=by
 induction l with
 |nil=>rfl
 |cons p r I=>simp only[dm];rw[if_neg (h p (by simp)),I (fun q J=>h q (by simp[J]))];rfl
theorem qT{l:List (α×β)}{a:α}(h:∀p∈l,p.1≠a):cC l a=none:=by
 induction l with
 |nil=>rfl
 |cons p r I=>rw[fG,if_neg (h p (by simp)),I (fun q J=>h q (by simp[J]))]
theorem wD{l:List (α×β)}(I:(l.map (·.1)).Nodup){p:α×β}(h:l[j]?=some p)(b:β):dm l p.1 b=l.set j (p.1,b):=by
 induction l generalizing j with
 |nil=>simp at h
 |cons q r J=>
   rw[U',List.nodup_cons]at I
   cases j with
   |zero=>simp at h;subst h;simp[dm]
   |succ j=>grind[List.mem_map_of_mem,List.mem_of_getElem?,dm]
theorem wQ{l:List (α×β)}(I:(l.map (·.1)).Nodup){p:α×β}(h:l[j]?=some p):cC l p.1=some p.2:=by
 induction l generalizing j with
 |nil=>simp at h
 |cons q r J=>rw[U',List.nodup_cons]at I;rw[fG];grind
def eP(kf:α->Value)(vf:β->D)(l:List (α×β)):List (Value×List D):=l.map fun p=>(kf p.1,[vf p.2])
end
structure lN(P:Program)(k:TypeId){α:Type}(kf:α->Value):Prop where
 ty:∃d,P.underlying k=some d∧∀a,IsKey d (kf a)
 inj:∀a b,kf a=kf b->a=b
abbrev ik(n:Int):Value:=.int .i64 n
abbrev sk(s:ByteArray):Value:=.string s
theorem iZ{k}(h:P.underlying k=some (.int .i64)):lN P k ik:=⟨⟨_,h,fun _=>rfl⟩,fun _ _ h=>by cases h;rfl⟩
theorem vW{k}(h:P.underlying k=some .string):lN P k sk:=⟨⟨_,h,fun _=>trivial⟩,fun _ _ h=>by cases h;rfl⟩
def jE{α β:Type}(w:World)(pv:Nat->Nat->Prop)(kf:α->Value)(vf:β->D)(I:Array MapEntry)(l:List (α×β)):Prop:=
 I.size=l.length∧∀(i:Nat)(m:MapEntry)(p:α×β),I[i]?=some m->l[i]?=some p->m.key=kf p.1∧dy (kf p.1)=true∧bN w pv m.val (vf p.2)
theorem jE.of{kf:α->Value}{vf:β->D}{v l}(h:oH w pv (.mp (some b) bs) v (eP kf vf l)):v=.map (some b)∧∃I clock,w.heap[b]?=some (.map I clock)∧Go.MapKept.Stamped I clock∧jE w pv kf vf I l:=by obtain⟨h1,I,clock,h2,J,h3,h4⟩:=h;refine⟨h1,I,clock,h2,J,by rw[h3];simp[eP],fun i m p hm hp=>?_⟩;obtain⟨h5,M,N⟩:=h4 i m (kf p.1) [vf p.2] hm (by simp[eP,hp]);exact⟨h5,M,N⟩
theorem jE.to{kf:α->Value}{vf:β->D}{I l}(h1:w.heap[b]?=some (.map I clock))(J:Go.MapKept.Stamped I clock)(h:jE w pv kf vf I l):oH w pv (.mp (some b) bs) (.map (some b)) (eP kf vf l):=by refine⟨rfl,I,clock,h1,J,by rw[h.1];simp[eP],fun i m k l' hm M=>?_⟩;simp only[eP,τ,ν]at M;obtain⟨p,hp,e⟩:=M;simp only[Prod.mk.injEq]at e;obtain⟨rfl,rfl⟩:=e;obtain⟨h5,N,O⟩:=h.2 i m p hm hp;exact⟨h5,N,O⟩
open Go.RowKit Go.MapKept
section
variable{n:Nat}
theorem bq.EY(h:bq C n st G tmps w):∃X,bq C n {st with lv:=st.gen::st.lv,gen:=st.gen+1} X tmps (w.alloc (.map #[] 0))∧
 bK (bu C X (st.gen+1) (w.alloc (.map #[] 0))) (.map (some w.heap.size)) (.mp st.gen []):=by
 let J:Nat->Option Row:=fun g=>if g=st.gen then some (.mp (some w.heap.size) [])else G.own g;have hb:Below w.heap.size w (w.alloc (.map #[] 0)):=(Below.refl _ w).alloc (χ _) _;have N:(w.alloc (.map #[] 0)).heap[w.heap.size]?=some (.map #[] 0):=heap_alloc_new w _
 obtain⟨_,ad⟩:=h.grow hb J (st.gen+1) (st.gen::st.lv) (Nat.le_succ _) (fun g r M I=>by simpa[J,X' M]using I)
  (fun g r I=>by
   simp only[J]at I;split at I;·omega
   ·exact Z' (h.gown g r I))
  (fun g M=>by
   rcases N'.1 M with rfl|M
   ·exact⟨_,by simp[J];rfl⟩
   ·obtain⟨r,I⟩:=h.live g M
    exact⟨r,by simp only[J,if_neg (X' (h.gown g r I))];exact I⟩)
  (fun g b len cap sz ai M I=>by
   simp only[J]at I;split at I;·cases I
   ·exact absurd (h.gown g _ I) (by omega))
  (fun g b bs M I=>by
   simp only[J]at I;split at I
   ·simp only[Option.some.injEq,Row.mp.injEq]at I
    obtain⟨rfl,rfl⟩:=I;refine⟨χ _,fun g' bs' O=>?_,#[],0,N⟩;simp only[J]at O;split at O;·omega
    ·have:=(h.BE O).1 _ Z
     omega
   ·exact absurd (h.gown g _ I) (by omega))
  (fun g b bs c lim M I hm=>by
   simp only[J]at I;split at I
   ·simp only[Option.some.injEq,Row.mp.injEq]at I
    obtain⟨_,rfl⟩:=I;cases hm
   ·exact absurd (h.gown g _ I) (by omega))
 refine⟨⟨G.box,J⟩,ad,.mp _ _ _ (by simp[bu]) Z (fun r I=>?_)⟩;have U:J st.gen=some r:=I;simp only[J,if_true,Option.some.injEq]at U;subst U;exact⟨rfl,#[],0,N,Go.MapKept.stamped_empty 0,rfl,by simp⟩
theorem bq.Ez(h:bq C n st G tmps w)(hg:G.own g=some (.mp (some b) bs))(me:Array MapEntry)(clock)(dx:Stamped me clock){es:List (Value×List D)}(ec:me.size=es.length)(dt:∀(i:Nat)(m:MapEntry)(k:Value)(l:List D),me[i]?=some m->es[i]?=some (k,l)->m.key=k∧dy k=true∧yK w (cf C G) m.val l)(lv)(ed:∀I∈lv,I∈st.lv∧I≠g):
 ∃G':Gh,G'.box=G.box∧bq C n {st with lv:=st.gen::lv,gen:=st.gen+1} G' tmps {w with heap:=w.heap.setIfInBounds b (.map me clock)}∧
   bK (bu C G' (st.gen+1) {w with heap:=w.heap.setIfInBounds b (.map me clock)}) (.map (some b)) (.mp st.gen es):=by
 obtain⟨cj,c7,b5,fs,ei,a6⟩:=h.mrow g b bs hg;have cy:∀I len cap sz c1,G.own I≠some (.blk b len cap sz c1):=fun I len cap sz c1 e=>by obtain⟨_,_,_,cur,T,h4,_⟩:=h.row I b len cap sz c1 e;rw[a6]at h4;cases h4
 obtain⟨b6,O⟩:=heap_set (o':=Obj.map me clock) a6;let N:Nat->Option Row:=fun I=>if I=st.gen then some (.mp (some b) bs)else if I=g then none else G.own I;generalize cl:({w with heap:=w.heap.setIfInBounds b (.map me clock)}:World)=w';have e1:w'.heap=w.heap.setIfInBounds b (.map me clock):=by rw[<-cl]
 have e2:w'.os=w.os:=by rw[<-cl]
 have e3:w'.tape=w.tape:=by rw[<-cl]
 have e4:w'.output=w.output:=by rw[<-cl]
 rw[<-e1]at b6 O;have df:w'.heap.size=w.heap.size:=by rw[e1];simp
 have cx:∀o,Ab.cellAt w b o=none:=fun o=>by simp[Ab.cellAt,World.cell?,a6]
 have cq:∀M o u,Ab.cellAt w M o=some u->Ab.cellAt w' M o=some u:=fun M o u hu=>by
  have X:M≠b:=fun e=>by subst e;rw[cx]at hu;cases hu
  rw[cL (O M X)];exact hu
 have c6:eZ w w':=fun M cs T f h=>⟨cs,f,by rw[O M (fun e=>by rw[e,a6]at h;cases h)];exact h⟩;have ft:=h.gown g _ hg;have ej:∀M o,cf C ⟨G.box,N⟩ M o->cf C G M o:=by
  rintro M o (hp|hp|⟨I,a7,a8,b4,b0,hp,hl'⟩|⟨I,b2,ad,lim,hp,hm,hl'⟩);·exact .inl hp
  ·exact .inr (.inl hp)
  ·simp only[N]at hp
   split at hp;·cases hp
   ·split at hp
    ·cases hp
    ·exact .inr (.inr (.inl ⟨I,a7,a8,b4,b0,hp,hl'⟩))
  ·simp only[N]at hp
   split at hp
   ·simp only[Option.some.injEq,Row.mp.injEq]at hp
    obtain⟨rfl,rfl⟩:=hp;exact .inr (.inr (.inr ⟨g,_,bs,lim,hg,hm,hl'⟩))
   ·split at hp
    ·cases hp
    ·exact .inr (.inr (.inr ⟨I,b2,ad,lim,hp,hm,hl'⟩))
 have di:Fr C w':=⟨e2.trans h.fr.os,e3.trans h.fr.tape,e4.trans h.fr.output,by rw[df];exact h.fr.size,fun M h1 h2=>by rw[O M (fun e=>by subst e;exact cj.1.elim (fun hm=>by omega) h2)];exact h.fr.block M h1 h2,fun M o u hk hu=>cq M o u (h.fr.cells M o u hk hu),h.fr.ty.trans c6⟩;have hold:∀I r',I<st.gen->N I=some r'->G.own I=some r'∧I≠g:=fun I r' U J=>by
  simp only[N,if_neg (X' U)]at J;split at J;·cases J
  ·rename_i X;exact⟨J,X⟩
 have hle:(bu C G st.gen w).le (bu C ⟨G.box,N⟩ (st.gen+1) w'):=l5 h.fr di (fun M o u hu hn=>⟨cq M o u hu,fun hp=>hn (ej M o hp)⟩) (fun _ _ h=>h)
  (fun I r' U J=>(hold I r' U J).1) (Nat.le_succ _) (fun I M a7 a8 b4 b0 U J=>O M (fun e=>by subst e;exact cy _ _ _ _ _ (hold I _ U J).1)) (fun I M bs' U J=>by obtain⟨h1,h2⟩:=hold I _ U J;refine⟨fun c hc=>by subst hc;exact O c (fun e=>by subst e;exact h2 (b5 I bs' h1)),fun p hp=>O p.1 (fun e=>?_)⟩;obtain⟨_,_,_,_,cur,T,h3,_⟩:=h.sub I M bs' p.1 p.2 h1 hp;rw[e,a6]at h3;cases h3) c6
 refine⟨⟨G.box,N⟩,rfl,{size:=h.size,frame:=h.fz hle,inj:=h.inj,xold:=h.xold,kold:=h.kold,lent:=h.lent,fr:=di,gcell:=fun I M en=>ny c6 (h.gcell I M en),box:=?_,gbox:=?_,live:=?_,gown:=?_,row:=?_,mrow:=?_,sub:=?_},?_⟩
 ·intro I cells hc
  obtain⟨M,cs,T',h1,h2,h3,h4,h5⟩:=h.box I cells hc;have:M≠b:=fun e=>c7 I (by rw[<-e];exact h1);exact⟨M,cs,T',h1,by rw[O M this];exact h2,h3,h4,fun i u a hu ha=>(h5 i u a hu ha).mono hle⟩
 ·intro I M hb
  obtain⟨h1,h2,h3⟩:=h.gbox I M hb;exact⟨Z' h1,by rw[df];exact h2,h3⟩
 ·intro I U
  rcases N'.1 U with rfl|U
  ·exact⟨_,by simp[N];rfl⟩
  ·obtain⟨h1,h2⟩:=ed I U
   obtain⟨r',J⟩:=h.live I h1;exact⟨r',by simp only[N,if_neg (X' (h.gown I r' J)),if_neg h2];exact J⟩
 ·intro I r' J
  simp only[N]at J;split at J;·simp only;omega
  ·split at J
   ·cases J
   ·exact Z' (h.gown I r' J)
 ·intro I M a7 a8 b4 b0 J
  have un:∀g2 ai aj b3 a1,N g2=some (.blk M ai aj b3 a1)->G.own g2=some (.blk M ai aj b3 a1):=by
   intro g2 ai aj b3 a1 h2;simp only[N]at h2;split at h2;·cases h2
   ·split at h2
    ·cases h2
    ·exact h2
  obtain⟨h4,h5,h6,ch,T2,h7,h8⟩:=h.row I M a7 a8 b4 b0 (un I a7 a8 b4 b0 J);have X:M≠b:=fun e=>by subst e;exact cy _ _ _ _ _ (un I a7 a8 b4 b0 J)
  exact⟨h4,h5,fun g2 ai aj b3 a1 h2=>h6 g2 ai aj b3 a1 (un g2 ai aj b3 a1 h2),ch,T2,by rw[O M X];exact h7,h8⟩
 ·intro I M bs' J
  simp only[N]at J;split at J
  ·rename_i e
   simp only[Option.some.injEq,Row.mp.injEq]at J;obtain⟨rfl,rfl⟩:=J;refine⟨cj,c7,fun g2 ad h2=>?_,me,clock,b6⟩;simp only[N]at h2;split at h2;·omega
   ·split at h2
    ·cases h2
    ·rename_i e1 e2;exact absurd (b5 g2 ad h2) e2
  ·split at J
   ·cases J
   ·rename_i e1 e2
    obtain⟨h4,h5,h6,e0,e5,h7⟩:=h.mrow I M bs' J;have X:M≠b:=fun e=>by subst e;exact e2 (b5 I bs' J)
    refine⟨h4,h5,fun g2 ad h2=>?_,e0,e5,by rw[O M X];exact h7⟩;simp only[N]at h2;split at h2;·simp only[Option.some.injEq,Row.mp.injEq]at h2;exact absurd h2.1.symm X
    ·split at h2
     ·cases h2
     ·exact h6 g2 ad h2
 ·intro I M bs' c lim J hm
  have un:∀g2 b2 ad,N g2=some (.mp b2 ad)->∃g3,G.own g3=some (.mp b2 ad)∧((g2=st.gen∧g3=g)∨(g2≠st.gen∧g2≠g∧g3=g2)):=by
   intro g2 b2 ad h2;simp only[N]at h2;split at h2;·rename_i e;simp only[Option.some.injEq,Row.mp.injEq]at h2;obtain⟨rfl,rfl⟩:=h2;exact⟨g,hg,.inl ⟨e,rfl⟩⟩
   ·split at h2
    ·cases h2
    ·rename_i e1 e2;exact⟨g2,h2,.inr ⟨e1,e2,rfl⟩⟩
  obtain⟨g3,h3,gb⟩:=un I _ _ J;obtain⟨h4,h5,h6,h7,ch,T2,h8,h9⟩:=h.sub g3 M bs' c lim h3 hm;have X:c≠b:=fun e=>by subst e;rw[a6]at h8;cases h8
  refine⟨h4,h5,fun g2 ai aj b3 a1 h2=>?_,fun g2 b2 ad fj h2 e6=>?_,ch,T2,by rw[O c X];exact h8,h9⟩
  ·simp only[N]at h2
   split at h2;·cases h2
   ·split at h2
    ·cases h2
    ·exact h6 g2 _ _ _ _ h2
  ·obtain⟨g5,ff,fo⟩:=un g2 _ _ h2
   have:=h7 g5 _ _ _ ff e6;omega
 ·refine .mp _ _ _ (by simp[bu]) Z (fun r hr=>?_)
  have dj:N st.gen=some r:=hr;simp only[N,if_true,Option.some.injEq]at dj;subst dj;refine⟨rfl,me,clock,b6,dx,ec,fun i m k l hm hk=>?_⟩;obtain⟨h1,h2,h3⟩:=dt i m k l hm hk;exact⟨h1,h2,h3.mono hle.cell⟩
end
section
variable(T:cG P)
theorem cG.ya{d:cV}(h:bh T.l t=some d)(I:d.k=.map k e):P.underlying t=some (.map k e):=by have:=T.kd h;rw[I]at this;simp only[qu]at this;grind
def oY:Kd->Bool
 |.st _=>false
 |_=>true
variable[DecidableEq α]{kf:α→Value}{vf:β→D}
theorem jE.find{k}(M:lN P k kf){J:Array MapEntry}{l:List (α×β)}(h:jE w pv kf vf J l)(U:(l.map (·.1)).Nodup)(a:α):
 ((Instr.findKey k (kf a) J.toList).run P w=.ok none w∧(∀p∈l,p.1≠a)∧cC l a=none)∨
   ∃j e p,(Instr.findKey k (kf a) J.toList).run P w=.ok (some (j,e.val)) w∧J[j]?=some e∧l[j]?=some p∧p.1=a∧e.key=kf a∧cC l a=some p.2∧bN w pv e.val (vf p.2):=by
 obtain⟨d,hd,X⟩:=M.ty;have O:∀x∈J.toList,IsKey d x.key:=by
  intro x hx;obtain⟨i,hi⟩:=ψ.1 hx;have N:J[i]?=some x:=by simpa using hi
  have I:i<l.length:=by rw[<-h.1];exact(θ.1 N).1
  rw[(h.2 i x l[i] N (by simp[I])).1];grind
 rcases findNow_spec (X a) J.toList 0 O with⟨h1,h2⟩|⟨j,e,h1,h2,h3⟩
 ·refine .inl ⟨run_findKey hd h1,?_,?_⟩
  ·intro p hp e
   obtain⟨i,hi⟩:=ψ.1 hp;have I:i<J.size:=by rw[h.1];exact(δ.1 hi).1
   have:=(h.2 i J[i] p (by simp[I]) hi).1;grind
  ·refine qT fun p hp e=>?_
   obtain⟨i,hi⟩:=ψ.1 hp;have I:i<J.size:=by rw[h.1];exact(δ.1 hi).1
   have:=(h.2 i J[i] p (by simp[I]) hi).1;grind
 ·have hj:J[j]?=some e:=by simpa using h2
  have I:j<l.length:=by rw[<-h.1];exact(θ.1 hj).1
  obtain⟨h4,h5,h6⟩:=h.2 j e l[j] hj (by simp[I]);have h7:(l[j]).1=a:=M.inj _ _ (h4.symm.trans h3);refine .inr ⟨j,e,l[j],?_,hj,by simp[I],h7,h3,?_,h6⟩
  ·have:=run_findKey (P:=P) (w:=w) hd h1
   grind
  ·have:=wQ U (j:=j) (p:=l[j]) (by simp[I])
   grind
theorem wb(ht:bh T.l mt=some td)(ad:td.k=.map k e)(M:lN P k kf){J}(hb:w.heap[b]?=some (.map J clock)){l:List (α×β)}(U:Stamped J clock)(h:jE w pv kf vf J l)(hn:(l.map (·.1)).Nodup)(a:α)(ai:dy (kf a)=true){v}{y:β}(hv:bN w pv v (vf y)):
 ∃N I,(Instr.mapUpdate mt (.map (some b)) (kf a) v).run P w=.ok () {w with heap:=w.heap.setIfInBounds b (.map N I)}∧Stamped N I∧jE w pv kf vf N (dm l a y):=by
 obtain⟨d,hd,hk⟩:=M.ty;have hm:=T.ya ht ad;rcases h.find M hn a with⟨h1,h2,_⟩|⟨j,en,p,h1,h2,h3,h4,h5,_,_⟩
 ·refine⟨J.push ⟨kf a,v,clock⟩,clock+1,?_,stamped_push U (fun x hx=>?_),?_⟩
  ·unfold Instr.mapUpdate
   simp only[Sem.run_bind,run_underlying hm,Result.andThen_ok,Go.MapKept.run_getObj_map hb,run_checkKey hd (hk a),h1];exact Go.MapKept.run_setObj_map _ hb
  ·obtain⟨i,hi⟩:=ψ.1 hx
   have X:J[i]?=some x:=by simpa using hi
   have O:i<l.length:=by rw[<-h.1];exact(θ.1 X).1
   rw[(h.2 i x l[i] X (by simp[O])).1];exact fun e=>h2 l[i] (by simp) (M.inj _ _ e)
  ·rw[iS h2]
   refine⟨by simp[h.1],fun i m p hm hp=>?_⟩;rw[Array.getElem?_push]at hm;split at hm
   ·rename_i hi
    rw[Θ (by rw[hi,h.1];exact χ _)]at hp;grind
   ·have O:i<l.length:=by rw[<-h.1];exact(θ.1 hm).1
    rw[Ω O]at hp;exact h.2 i m p hm hp
 ·refine⟨J.modify j fun e=>{e with key:=kf a,val:=v},clock,?_,stamped_modify U j _ (fun _ _=>rfl) (fun e _ he=>by rw[h2]at he;cases he;exact h5.symm),?_⟩
  ·unfold Instr.mapUpdate
   simp only[Sem.run_bind,run_underlying hm,Result.andThen_ok,Go.MapKept.run_getObj_map hb,run_checkKey hd (hk a),h1,h2,Option.map_some,Option.getD_some,h5,run_keyThatStays (hk a)];exact Go.MapKept.run_setObj_map _ hb
  ·subst h4
   rw[wD hn h3];refine⟨by simp[h.1],fun i m q hm hq=>?_⟩;rw[Array.getElem?_modify]at hm;rw[List.getElem?_set]at hq;by_cases hij:j=i;·grind
   ·rw[if_neg hij]at hm hq
    exact h.2 i m q hm hq
theorem vY{I:cV}(ht:bh T.l mt=some td)(N:td.k=.map k e)(he:bh T.l e=some I)(M:lN P k kf){z:β}{zx}(O:I.z=[zx])(U:oY I.k=true)(hz:bN w pv zx (vf z)){X}(hb:w.heap[b]?=some (.map X clock)){l:List (α×β)}(h:jE w pv kf vf X l)(hn:(l.map (·.1)).Nodup)(a:α)(ok):
 ∃v,(Instr.lookup mt (.map (some b)) (kf a) ok).run P w=.ok (if ok then .tuple #[v,.bool (cC l a).isSome]else v) w∧bN w pv v (vf ((cC l a).getD z)):=by
 obtain⟨d,hd,hk⟩:=M.ty;have hm:=T.ya ht N;rcases h.find M hn a with⟨h1,h2,h3⟩|⟨j,en,p,h1,h2,h3,h4,h5,h6,h7⟩
 ·obtain⟨i,J,hi,_,_,ad,ai,_,_,aj⟩:=T.info he
  have a1:J=zx:=by rw[O]at ai;cases hke:I.k<;>rw[hke]at U aj<;>cases J<;>simp_all[Value.cells,oY]
  subst a1;refine⟨J,?_,by rw[h3];exact hz⟩;unfold Instr.lookup;simp only[Sem.run_bind,run_underlying hm,Result.andThen_ok,Go.MapKept.run_getObj_map hb,Sem.run_pure,run_checkKey hd (hk a),h1,h3,Option.isSome_none];have:(zeroValue e).run P w=.ok J w:=by simp[zeroValue,typeInfo,Sem.run_bind,run_program,hi,ad,Result.andThen]
  simp_all
 ·refine⟨en.val,?_,by rw[h6];exact h7⟩
  unfold Instr.lookup;simp only[Sem.run_bind,run_underlying hm,Result.andThen_ok,Go.MapKept.run_getObj_map hb,Sem.run_pure,run_checkKey hd (hk a),h1,h6,Option.isSome_some]
end
def B6:A->Option D
 |.d x=>some x
 |.own _ es=>some (.sl es)
 |.fl es=>some (.sl es)
 |_=>none
theorem Aj{v x}(h:B6 a=some x)(I:bK E v a):bN E.w E.pv v x:=by cases I<;>simp only[B6,Option.some.injEq]at h<;>first|(cases h;done)|(subst h;assumption)
def yb{α β:Type}(w:World)(pv:Nat->Nat->Prop)(b:Nat)(kf:α->Value)(vf:β->D)(l:List (α×β)):Prop:=∃I clock,w.heap[b]?=some (.map I clock)∧Go.MapKept.Stamped I clock∧jE w pv kf vf I l
theorem yb.of{kf:α->Value}{vf:β->D}{v l}(h:oH w pv (.mp (some b) bs) v (eP kf vf l)):v=.map (some b)∧yb w pv b kf vf l:=by obtain⟨h1,I,clock,h2,h3⟩:=jE.of h;exact⟨h1,I,clock,h2,h3⟩
theorem jE.mono{I}{kf:α->Value}{vf:β->D}{J l}(h:∀b o u,cellAt w b o=some u->¬pv b o->cellAt w' b o=some u∧¬I b o)(hm:jE w pv kf vf J l):jE w' I kf vf J l:=
 ⟨hm.1,fun i m p h1 h2=>⟨(hm.2 i m p h1 h2).1,(hm.2 i m p h1 h2).2.1,(hm.2 i m p h1 h2).2.2.mono h⟩⟩
section
variable(T:cG P){n:Nat}{rest:List Oper}
variable{bx:List (Nat×List A)}{pos:String}{af:Array Edge}
variable[DecidableEq α]{kf:α→Value}{vf:β→D}
theorem mkMap{t}(hd:Nat.blt d n=true)(h:WO P C n ops Q rest ⟨(d,.mp gen [])::f,bx,gen::lv,gen+1⟩):WO P C n ops Q (⟨some d,.makeMap t none,ty,pos,af,none⟩::rest) ⟨f,bx,lv,gen⟩:=by refine WO.step (st:=⟨f,bx,lv,gen⟩) rfl fun tmps w⟨G,hs⟩=>?_;obtain⟨J,I,M⟩:=hs.EY;refine dE (v:=.map (some w.heap.size)) (w':=w.alloc (.map #[] 0)) ?_ ⟨_,⟨J,I.put (dst:=some d) (dp (dst:=some d) hd) M⟩,h⟩;unfold execOp;show Sem.run P _ w=.ok _ _;simp[Instr.makeMap,Sem.run_bind,Result.andThen]
omit [DecidableEq α] in
theorem bq.sK(hs:bq C n st G tmps w){v l}(O:bK (bu C G st.gen w) v (.mp g (eP kf vf l)))(N:g∈st.lv):
 ∃b bs,G.own g=some (.mp (some b) bs)∧v=.map (some b)∧yb w (cf C G) b kf vf l:=by
 obtain⟨r,J⟩:=hs.live g N
 cases O with
 |mp _ _ _ U h1 M=>
 have I:=M r J
 cases r with
 |nil=>exact I.elim
 |zero b=>exact I.elim
 |blk b len cap sz X=>exact I.elim
 |mp b bs=>
   cases b with
   |none=>exact I.elim
   |some b=>
   obtain⟨h2,h3⟩:=yb.of (kf:=kf) (vf:=vf) I;exact⟨b,bs,J,h2,h3⟩
theorem rK(s:Nat){m N}{l:List (α×β)}{a:α}{y:β}{xa}(hm:av f m=some (.mp g (eP kf vf l)))(hl:look f s=some (.mp g (eP kf vf l)))(O:av f N=some (.d (.v (kf a))))(hx:av f x=some xa)(a7:B6 xa=some (vf y))(ht:bh T.l mt=some td)(a8:td.k=.map k e)(b0:lN P k kf)(U:(lv.any fun h=>Nat.beq h g)=true)(b3:Nat.blt s n=true)(hn:(l.map (·.1)).Nodup){X}(b4:eP kf vf (dm l a y)=X)(b5:gen::bR lv g=lv')(h:WO P C n ops Q rest ⟨(s,.mp gen X)::f,bx,lv',gen+1⟩):WO P C n ops Q (⟨none,.mapUpdate mt m N x,ty,pos,af,none⟩::rest) ⟨f,bx,lv,gen⟩:=by
 subst b4;subst b5;refine WO.step (st:=⟨f,bx,lv,gen⟩) rfl fun tmps w⟨G,hs⟩=>?_;have ad:=hs.av hm;have J:=hs.av O;have b6:=Aj a7 (hs.av hx);obtain⟨vs,ch,cj⟩:=hs.frame s _ hl;generalize hv:Act.eval ⟨tmps,[]⟩ m=v at ad;generalize df:Act.eval ⟨tmps,[]⟩ N=vk at J;obtain⟨b,bs,ai,rfl,me,clock,hb,cl,cq⟩:=hs.sK ad (er U);obtain⟨b2,cx,a1,rfl,_⟩:=hs.sK cj (er U);obtain⟨rfl,rfl⟩:b2=b∧cx=bs:=by have:=a1.symm.trans ai;simpa using this
 cases J with|d J=>cases J with|v _ hok=>
 obtain⟨aj,I,c7,a6,M⟩:=wb T ht a8 b0 hb cl cq hn a hok b6;have h0:(execOp (Act.eval ⟨tmps,[]⟩) ⟨none,.mapUpdate mt m N x,ty,pos,af,none⟩).run P w=.ok .skip {w with heap:=w.heap.setIfInBounds b2 (.map aj I)}:=by unfold execOp;simp_all
 obtain⟨G',_,cy,c1⟩:=hs.Ez ai aj I a6 (es:=eP kf vf (dm l a y)) (by rw[M.1];simp[eP]) (fun i m k l' hm O=>by simp only[eP,τ,ν]at O;obtain⟨p,hp,e⟩:=O;simp only[Prod.mk.injEq]at e;obtain⟨rfl,rfl⟩:=e;exact M.2 i m p hm hp) (bR lv g) (fun g' c6=>cQ c6);refine kp h0 ⟨_,⟨G',?_⟩,h⟩;have:=cy.set (d:=s) (κ b3) c1;rwa[fN ch]at this
theorem nY{M:cV}{m N}{l:List (α×β)}{a:α}{z:β}{zx}(hm:av f m=some (.mp g (eP kf vf l)))(hk:av f N=some (.d (.v (kf a))))(ht:bh T.l mt=some td)(O:td.k=.map k e)(he:bh T.l e=some M)(U:lN P k kf)(X:(lv.any fun h=>Nat.beq h g)=true)(ad:M.z=[zx])(ai:oY M.k=true)(hz:∀w pv,bN w pv zx (vf z))(hn:(l.map (·.1)).Nodup){r}(hr:vf ((cC l a).getD z)=r):
 Pu P C n ⟨f,bx,lv,gen⟩ ⟨dst,.lookup mt m N false,ty,pos,af,none⟩ (.d r):=by
 subst hr;refine aq fun G tmps w hs=>?_;have J:=hs.av hm;have I:=hs.av hk;generalize hv:Act.eval ⟨tmps,[]⟩ m=v at J;generalize aj:Act.eval ⟨tmps,[]⟩ N=vk at I;obtain⟨b,bs,a6,rfl,me,clock,hb,a7,a1⟩:=hs.sK J (er X);cases I with|d I=>cases I with|v _ hok=>
 obtain⟨u,h1,h2⟩:=vY (P:=P) T ht O he U ad ai (hz _ _) hb a1 hn a false;refine⟨u,?_,.d h2⟩;unfold execOp;show Sem.run P _ w=.ok _ _;simp only[hv,aj,Sem.run_bind,h1,Result.andThen_ok,Sem.run_pure];rfl
end
structure sP(P:Program)[dw P](H:Ctx->Prop)(f:FuncId)(args:List A)(r:A)(k:Nat):Prop where
 ok:kB P f
 calls:∀(C:Ctx)(vals:Array Value)(w:World),GC P C->C.w0=w->C.pure->H C->(∀b o,C.x b o->b<w.heap.size)->vals.size=args.length->
  (∀(i:Nat)(u:Value)(a:A),vals[i]?=some u->args[i]?=some a->bK (bu C G0 0 w) u a)->
  Calls P f vals w fun e w'=>∃v G',e=.returned v∧bq C 0 ⟨[],[],List.range k,k⟩ G' #[] w'∧bK (bu C G' k w') v r
theorem sP.dY (T:cG P) [dw P] {H f c n r} (hf:P.funcs[f]? = some fn) (hname:(fn.name == "runtime.NumGoroutine")=false) (hb:fn.body=some c) (hn:fn.ntmps=n) (hr:fn.results=(rs.map RV.var).toArray) (hlen:Nat.ble args.length n=true) (h:∀ C,NB C 0→GC P C→H C→(∀ b,¬ C.fp b)→W P C n c (QV T rs r 0) ⟨iX 0 args,[],[],0⟩):sP P H f args r 0:=by
  have hlen:=κ hlen
  refine⟨⟨fn,hf,hname,by rw[hb];rfl⟩,fun C vals w hG hw hp hH hx hsz hrep=>?_⟩
  subst hw
  refine calls_of_wp hf hb (wp_mono (ru hp.2.2.2 (h C ⟨by rw[hp.2.2.1];rfl⟩ hG hH hp.1 (vals++Array.replicate (fn.ntmps - vals.size) undef) C.w0 ⟨G0,?_⟩)) ?_)
  · refine { size:=by simp[hn];omega,frame:=fun t a ha=>?_,box:=fun g cells hc=>by simp[bh] at hc,gbox:=fun g b hb=>by simp[G0] at hb,inj:=fun g g' b hb=>by simp[G0] at hb,
             live:=fun g hg=>by simp at hg,gown:=fun g r hr=>by simp[G0] at hr,row:=fun g b len cap sz pub hr=>by simp[G0] at hr,mrow:=fun g b bs hr=>by simp[G0] at hr,sub:=fun g b bs c lim hr=>by simp[G0] at hr,gcell:=fun g b hb=>by simp[G0] at hb,xold:=fun b o hb=>⟨hx b o hb,hp.1 b⟩,kold:=fun b o hb=>absurd hb (hp.2.1 b o),lent:=fun i b hb=>by rw[hp.2.2.1] at hb;simp at hb,
             fr:=⟨rfl,rfl,rfl,χ _,fun _ _ _=>rfl,fun _ _ _ hb=>absurd hb (hp.2.1 _ _),eZ.refl _⟩ }
    obtain⟨_,h1⟩:=gX args 0 t a ha
    have h2:t < args.length:=(δ.1 (by simpa using h1)).1
    have h3:t < vals.size:=by omega
    have h4:vals[t]? = some vals[t]:=by simp[h3]
    exact⟨vals[t],by rw[Array.getElem?_append_left h3];exact h4,hrep t _ a h4 (by simpa using h1)⟩
  · rintro e ⟨tmps,df⟩ w' ⟨hd,st,⟨G,hs⟩,he,l,order,hl,hno,hol,hnd,hov⟩
    have ho0:order=[]:=A' hol
    subst ho0
    have hmain:∃ v,(results fn tmps).run P w'=.ok v w'∧∃ v_1 G',Ending.returned v=.returned v_1∧bq C 0 ⟨[],[],List.range 0,0⟩ G' #[] w'∧bK (bu C G' 0 w') v_1 r:=by
      obtain⟨vs,hvs,hvl,hvr⟩:=kW T hs rs l hl
      refine⟨_,iq hr hvs,_,G0,rfl,?_,?_⟩
      · exact { size:=rfl,frame:=fun t a ha=>by simp[look] at ha,box:=fun g cells hc=>by simp[bh] at hc,gbox:=fun g b hb=>by simp[G0] at hb,inj:=fun g g' b hb=>by simp[G0] at hb,
                 live:=fun g hg=>by simp at hg,gown:=fun g r hr=>by simp[G0] at hr,row:=fun g b len cap sz pub hr=>by simp[G0] at hr,mrow:=fun g b bs hr=>by simp[G0] at hr,sub:=fun g b bs c lim hr=>by simp[G0] at hr,gcell:=fun g b hb=>by simp[G0] at hb,xold:=hs.xold,kold:=hs.kold,lent:=fun i b hb=>by rw[hp.2.2.1] at hb;simp at hb,fr:=hs.fr }
      · rw[←hno]
        refine aA (order:=[]) (E:=bu C G st.gen w') (E2:=bu C G0 0 w') (fun b o u hu hn=>⟨hu,fun hp=>hn (.inl ((sF C b o).1 hp))⟩) (fun g r' hg=>by simp at hg) (by simp[bu]) (l7 hvl hvr)
    cases e with
    | normal=>exact⟨hd.trans hp.2.2.2,hmain⟩
    | ret=>exact⟨hd.trans hp.2.2.2,hmain⟩
    | exit _=>exact he.elim
    | goto _=>exact he.elim
    | panic _=>exact he.elim
    | outgrown=>exact he.elim
section
/-! ### whatever the states are -/
variable {w w':World}{tmps:Array Value}{pv:Nat→Nat→Prop}{x y:Operand}{t g i k e m j id b off gen d gen' clock sz J mt g2 t' cap d0:Nat}{P:Program}{Q':Exit→Act→World→Prop}{lv' lv gs order os:List Nat}{bs:List (Nat×Nat)}{parts:Array (Nat×Operand)}{fid:FuncId}{xs:Array Operand}{o:Oper}{fn:Func}{dst:Option Nat}{ops:Array Oper}{α ι H β:Type}{hole:Option Value}{R:Value→World→Prop}{want:Bool}{listed:Array Bool}{T ty:TypeId}{l1 l2:List Oper}{ids:List Int}{act:Act}
variable {es es2:List (List D)}{f:List (Nat×A)}{G:Gh}{a a':A}{st st':St}{l:List D}{args cells cq' caps cq cells' X:List A}{E E':En}{Q:Exit→St→Prop}{b1 I:List (List A)}{C:Ctx}
variable {rs:List RV}
variable {td ed:cV}
section
variable{md:Region.Mode}{S E:Type}(Y:Nat→E→S→Prop)(ef:Nat→E→S→S)
def gU(md:Region.Mode)(ops:Array Oper)(listed:Array Bool):Prop:=
 ∀j I,ops[j]?=some I->listed.getD j false=true->∀e∈I.after,Region.binds md e=true->listed.getD e.on false=true
def eO(md:Region.Mode)(ops:Array Oper):Nat->Nat->Nat->Bool
 |0,_,_=>false
 |k+1,j,i=>cX md ops j i||(match ops[j]?with|some o=>o.after.toList.any fun e=>Region.binds md e&&eO md ops k e.on i|none=>false)
theorem oI(M:gU md ops listed):∀(k j i:Nat),eO md ops k j i=true->(∀I,ops[j]?=some I->∀e∈I.after,Region.binds md e=true->listed.getD e.on false=true)->listed.getD i false=true
 |0,_,_,h,_=>by simp[eO]at h
 |k+1,j,i,h,hj=>by
   simp only[eO,Bool.or_eq_true]at h
   cases hoj:ops[j]?with
   |none=>grind[cX]
   |some I=>
     rcases h with h|h
     ·grind[oq]
     ·rw[hoj]at h
      obtain⟨e,he,hb⟩:=F'.1 h;simp only[μ]at hb;have N:e∈I.after:=by simpa using he
      have hl:=hj I hoj e N hb.1;exact oI M k e.on i hb.2 fun o U X J O=>M e.on o U hl X J O
def ri(md:Region.Mode)(ops:Array Oper)(m:Nat):Bool:=(List.range ops.size).all fun j=>decide (j<m)||(List.range j).all fun i=>eO md ops ops.size j i
theorem sD(h:ri md ops m=true)(hm:m<=j)(I:i<j)(O:gU md ops listed)(hj:j∈Region.ready md ops listed):listed.getD i false=true:=by obtain⟨_,U,J,N⟩:=mem_ready.1 hj;have M:j<ops.size:=(θ.1 J).1;have h1:=I'.1 h j (by simpa using M);simp only[Bool.or_eq_true,Δ]at h1;have h2:=I'.1 (h1.resolve_left (by omega)) i (by simpa using I);grind[oI]
theorem gU.add(N:gU md ops listed)(hi:i∈Region.ready md ops listed):gU md ops (listed.setIfInBounds i true):=by
 intro j O I hl e he hb;obtain⟨_,U,M,J⟩:=mem_ready.1 hi;by_cases hji:i=j
 ·subst hji
  rw[M]at I;cases I;exact getD_set_true (J e he hb)
 ·rw[getD_set_ne false hji]at hl
  exact getD_set_true (N j O I hl e he hb)
def xc(m:Nat)(md:Region.Mode)(ops:Array Oper)(Q:S->Prop):Nat->Array Bool->S->Prop
 |0,listed,I=>Split m ops listed∧Q I
 |fuel+1,listed,I=>Region.ready md ops listed≠[]∧∀i∈Region.ready md ops listed,∃e,Y i e I∧xc m md ops Q fuel (listed.setIfInBounds i true) (ef i e I)
def qx(i j:Nat):Prop:=∀e J I,Y i e I->Y j J (ef i e I)->Y j J I∧Y i e (ef j J I)∧ef j J (ef i e I)=ef i e (ef j J I)
variable{Y}{ef}
theorem DV{Q:S->Prop}{oi}{e:E}(hw:ri md ops m=true)(b4:i<m)(hi:ops[i]?=some oi):
 ∀(fuel:Nat)(listed:Array Bool)(M:S),gU md ops listed->
   (∀j N,ops[j]?=some N->j≠i->j<m->listed.getD j true=false->(∀e∈N.after,Region.binds md e=true->e.on≠i)->qx Y ef i j)->
   i∈Region.ready md ops listed->Y i e M->xc Y ef m md ops Q fuel (listed.setIfInBounds i true) (ef i e M)->xc Y ef m md ops Q (fuel+1) listed M:=by
 have O:∀{listed:Array Bool},i∈Region.ready md ops listed->listed.getD i false=false:=fun I=>mg (mem_ready.1 I).1;intro fuel
 induction fuel with
 |zero=>
   intro listed M hc _ I hy H;refine⟨fun h=>(by rw[h]at I;cases I),fun j hj=>?_⟩;by_cases hji:j=i;·subst hji;exact⟨e,hy,H⟩
   ·exfalso
    obtain⟨⟨_,h1,h2⟩,_⟩:=H;have a6:=(mem_ready.1 hj).1;by_cases U:j<m
    ·have:=h1 j U
     rw[getD_set_ne false (Ne.symm hji)]at this;rw[mg a6]at this;cases this
    ·have:=sD hw (by omega) (show i<j by omega) hc hj
     rw[O I]at this;cases this
 |succ fuel ih=>
   intro listed M hc J I hy H;refine⟨fun h=>(by rw[h]at I;cases I),fun j hj=>?_⟩;by_cases hji:j=i;·subst hji;exact⟨e,hy,H⟩
   ·obtain⟨e',a7,H'⟩:=H.2 j (ready_mono hj hji)
    obtain⟨X,N,a8,aj⟩:=mem_ready.1 hj;have a1:∀e∈N.after,Region.binds md e=true->e.on≠i:=fun e he hb heq=>by have h1:=aj e he hb;rw[heq,O I]at h1;cases h1
    have U:j<m:=by
     rcases Nat.lt_or_ge j m with h|h
     ·exact h
     ·have:=sD hw h (show i<j by omega) hc hj
      rw[O I]at this;cases this
    obtain⟨s1,s2,s3⟩:=J j N a8 hji U X a1 e e' M hy a7;have ad:∀k ok,ops[k]?=some ok->k≠i->k<m->(listed.setIfInBounds j true).getD k true=false->(∀e∈ok.after,Region.binds md e=true->e.on≠i)->qx Y ef i k:=fun k ok hk b0 b2 ai b3=>by
     refine J k ok hk b0 b2 ?_ b3;by_cases hjk:j=k;·subst hjk;exact X
     ·rw[getD_set_ne true hjk]at ai;exact ai
    refine⟨e',s1,ih (listed.setIfInBounds j true) _ (hc.add hj) ad (ready_mono I (Ne.symm hji)) s2 ?_⟩;rw[Array.setIfInBounds_comm _ _ hji,←s3];exact H'
def BW(Y:Nat->E->S->Prop)(ef:Nat->E->S->S)(Q:S->Prop):List Oper->Nat->S->Prop
 |[],_,σ=>Q σ
 |_::rest,i,σ=>∃e,Y i e σ∧BW Y ef Q rest (i+1) (ef i e σ)
theorem wv{Q:S->Prop}(hw:ri md ops m=true)(M:∀i j oi I,ops[i]?=some oi->ops[j]?=some I->i≠j->i<m->j<m->oi.apart ops I=true->(∀e∈I.after,Region.binds md e=true->e.on≠i)->qx Y ef i j):
 ∀(l:List Oper)(k:Nat)(listed:Array Bool)(J:S),k+l.length=m->(∀j,j<l.length->l[j]?=ops[k+j]?)->gU md ops listed->
 listed.size=ops.size->(∀j,j<k->listed.getD j false=true)->(∀j,k<=j->j<ops.size->listed.getD j true=false)->
 rz md ops l.length k listed=true->BW Y ef Q l k J->xc Y ef m md ops Q l.length listed J
 |[],k,listed,J,hk,_,_,hs,h1,h2,_,h=>⟨⟨hs,fun j hj=>h1 j (by simp at hk;omega),fun j hj N=>h2 j (by simp at hk;omega) N⟩,h⟩
 |o::l,k,listed,J,hk,hl,hc,hs,h1,h2,hB,h=>by
   have h0:ops[k]?=some o:=by simpa using(hl 0 (by simp)).symm
   have a8:k<ops.size:=(θ.1 h0).1;simp only[Ξ,rz,μ]at hB;obtain⟨⟨hr,hf⟩,aj⟩:=hB;have O:k∈Region.ready md ops listed:=by simpa using hr
   obtain⟨e,hy,hK⟩:=h;have U:k<m:=by simp at hk;omega
   refine DV hw U h0 l.length listed J hc (fun j I X ad a1 a6 ai=>M k j o I h0 X (Ne.symm ad) U a1 (Region.free_spec h0 hf j I X ad a6 ai) ai) O hy
    (wv hw M l (k+1) _ _ (by simp at hk;omega) (fun j hj=>by have:=hl (j+1) (by simpa using hj);simpa[Nat.add_assoc,Nat.add_comm 1 j]using this) (hc.add O) (by simpa using hs) (fun j hj=>?_) (fun j hj N=>?_) aj hK)
   ·rcases Nat.lt_succ_iff_lt_or_eq.1 hj with a7|rfl
    ·exact getD_set_true (h1 j a7)
    ·simp_all
   ·rw[getD_set_ne true (by omega)]
    grind
theorem nD{Sm:S->Act->World->Prop}{Q:S->Prop}(M:∀i e I act w K,Sm I act w->Y i e I->(∀act w,Sm (ef i e I) act w->K act w)->wpOp P ops Q' i K act w)(N:∀listed I act w,Sm I act w->gU md ops listed->Split m ops listed->Q I->wpAny P md ops Q' t listed act w):
 ∀(fuel:Nat)(listed:Array Bool)(I:S)(act:Act)(w:World),Sm I act w->gU md ops listed->xc Y ef m md ops Q fuel listed I->wpAny P md ops Q' (fuel+t) listed act w
 |0,_,_,_,_,hs,J,h=>by rw[Nat.zero_add];exact N _ _ _ _ hs J h.1 h.2
 |fuel+1,_,_,_,_,hs,J,h=>by rw[Nat.add_right_comm];refine⟨fun h0=>absurd h0 h.1,fun i hi=>?_⟩;obtain⟨e,U,X⟩:=h.2 i hi;exact M i e _ _ _ _ hs U fun act w O=>nD M N fuel _ _ _ _ O (J.add hi) X
theorem mD{Q':Exit->Act->World->Prop}(hw:ri md ops m=true)(J:∀k,m<=k->∀o,ops[k]?=some o->∀e∈o.after,Region.binds md e=true->e.on<k):
 ∀(l:List Oper)(k:Nat)(listed:Array Bool)(act:Act)(w:World),m<=k->k+l.length=ops.size->(∀j,l[j]?=ops[k+j]?)->gU md ops listed->listed.size=ops.size->(∀j,j<k->listed.getD j false=true)->(∀j,k<=j->j<ops.size->listed.getD j true=false)->
   fO P ops Q' l act w->wpAny P md ops Q' l.length listed act w
 |[],k,listed,act,w,hm,hk,_,_,hs,h1,h2,h=>by refine⟨?_,h⟩;refine List.eq_nil_iff_forall_not_mem.2 fun j hj=>?_;obtain⟨h3,oj,ai,_⟩:=mem_ready.1 hj;grind
 |o::l,k,listed,act,w,hm,hk,hl,hc,hs,h1,h2,h=>by
   have h0:ops[k]?=some o:=by simpa using(hl 0).symm
   have M:k<ops.size:=(θ.1 h0).1;have I:k∈Region.ready md ops listed:=mem_ready.2 ⟨h2 k (χ _) M,o,h0,fun e he hb=>h1 _ (J k hm o h0 e he hb)⟩;refine⟨fun hn=>(by rw[hn]at I;cases I),fun i hi=>?_⟩;have O:i=k:=by
    obtain⟨h3,oi,aj,_⟩:=mem_ready.1 hi;rcases Nat.lt_trichotomy i k with N|he|U
    ·grind
    ·grind
    ·have:=sD hw (by omega) U hc hi
     grind
   subst O
   have ih:=fun act w=>mD (Q':=Q') hw J l (i+1) (listed.setIfInBounds i true) act w (by omega) (by simp at hk;omega) (fun j=>by have:=hl (j+1);simpa[Nat.add_assoc,Nat.add_comm 1 j]using this) (hc.add I) (by simpa using hs)
    (fun j hj=>by
     rcases Nat.lt_succ_iff_lt_or_eq.1 hj with N|rfl
     ·exact getD_set_true (h1 j N)
     ·simp[hs,M]) (fun j hj X=>by rw[getD_set_ne true (by omega)];exact h2 j (by omega) X)
   simp only[fO]at h;unfold wpOp;simp only[h0];split
   ·rename_i ad
    rw[if_pos ad]at h;exact .inl (Oper.wp_mono ih h)
   ·grind
end
/-! ### one operation that turns the ghost -/
theorem Oper.Bl{a K J Q}(hp:∀c a w,¬Q (.panic c) a w)(hL:¬LetsOut Q)(I:∀a w,K a w->J a w)(h:o.wp P a w K Q):o.wp P a w J Q':=by
 unfold Oper.wp at*;generalize(execOp a.eval o).run P w=r at*
 cases r with
 |ok n w'=>
   cases n<;>simp only[Oper.upon]at h⊢<;>first
    |exact I _ _ h
    |exact Calls.mono h (fun e M he=>by
     cases e with
     |returned v=>exact I _ _ he
     |panicked c=>exact absurd he (hp _ _ _)
     |outgrown=>exact absurd he hL)
    |exact Rows.mono h (fun _ _ he=>I _ _ he)
    |exact h
 |halt x w'=>
   cases x<;>simp only[Oper.upon]at h⊢<;>first
    |exact absurd h (hp _ _ _)
    |exact h
theorem Oper.xn{a K J Q}(hp:∀c a w,Q (.panic c) a w->Q' (.panic c) a w)(hL:¬LetsOut Q)(I:∀a w,K a w->J a w)(h:o.wp P a w K Q):o.wp P a w J Q':=by
 unfold Oper.wp at*;generalize(execOp a.eval o).run P w=r at*
 cases r with
 |ok n w'=>
   cases n<;>simp only[Oper.upon]at h⊢<;>first
    |exact I _ _ h
    |exact Calls.mono h (fun e M he=>by
     cases e with
     |returned v=>exact I _ _ he
     |panicked c=>exact hp _ _ _ he
     |outgrown=>exact absurd he hL)
    |exact Rows.mono h (fun _ _ he=>I _ _ he)
    |exact h
 |halt x w'=>
   cases x<;>simp only[Oper.upon]at h⊢<;>first
    |exact hp _ _ _ h
    |exact h
end
structure DO where
 bx0:List (Nat×List A)
 bx1:List (Nat×List A)
 lv0:List Nat
 lv1:List Nat
 gen0:Nat
 gen1:Nat
section
variable{n:Nat}(S:DO)(c:Nat)
abbrev SC:=fq×Bool
def Ks(C:Ctx)(n:Nat)(S:DO)(I:SC)(act:Act)(w:World):Prop:=
 act.defers=C.ds∧∃G,if I.2=true then fm C n S.bx1 S.lv1 S.gen1 I.1 G act.tmps w else fm C n S.bx0 S.lv0 S.gen0 I.1 G act.tmps w
def Kr(P:Program)(C:Ctx)(n:Nat)(S:DO)(ops:Array Oper)(o:Oper)(a:A)(I:fq):Prop:=
 o.guard=none∧∃p,(∀t x,look p t=some x->I t=some x∧t∈o.looksAt ops)∧
  ∀g,WO P C n ops (fun e st=>e=.normal∧st=St.put ⟨p++g,S.bx1,S.lv1,S.gen1⟩ o.dst a) [o] ⟨p++g,S.bx0,S.lv0,S.gen0⟩
def YC(P:Program)(C:Ctx)(n:Nat)(S:DO)(ops:Array Oper)(c:Nat)(i:Nat)(a:A)(I:SC):Prop:=
 ∃o,ops[i]?=some o∧fY n o.dst=true∧((i=c∧I.2=false∧Kr P C n S ops o a I.1)∨
   (i≠c∧(cX .any ops i c=false->YA P C n S.bx0 S.lv0 S.gen0 ops o a I.1)∧(cX .any ops c i=false->YA P C n S.bx1 S.lv1 S.gen1 ops o a I.1)∧
    (I.2=false->cX .any ops i c=false)∧(I.2=true->cX .any ops c i=false)))
def tV(ops:Array Oper)(c:Nat)(i:Nat)(a:A)(I:SC):SC:=
 match ops[i]?with
 |none=>I
 |some o=>(cH I.1 o.dst a,if i=c then true else I.2)
variable{S}{c}
theorem BS{J:fq}{x}(hd:∀d,dst=some d->d∉o.looksAt ops):Kr P C n S ops o a (cH J dst x)↔Kr P C n S ops o a J:=by
 constructor
 ·rintro⟨h0,p,h1,h2⟩
  exact⟨h0,p,fun t y I=>⟨(gS hd (h1 t y I).2).symm.trans (h1 t y I).1,(h1 t y I).2⟩,h2⟩
 ·rintro⟨h0,p,h1,h2⟩
  exact⟨h0,p,fun t y I=>⟨(gS hd (h1 t y I).2).trans (h1 t y I).1,(h1 t y I).2⟩,h2⟩
theorem vr{I:Oper}(hj:ops[j]?=some I)(h:∀e∈I.after,Region.binds .any e=true->e.on≠i):cX .any ops j i=false:=by grind[cX,oq]
theorem ga(h:ops[i]?=some o)(a)(I:SC):tV ops c i a I=(cH I.1 o.dst a,if i=c then true else I.2):=by unfold tV;rw[h]
theorem KE{J I:Oper}(hi:ops[i]?=some J)(hj:ops[j]?=some I)(b2:i≠j)(a7:J.apart ops I=true)(a8:∀e∈I.after,Region.binds .any e=true->e.on≠i):
 qx (YC P C n S ops c) (tV ops c) i j:=by
 obtain⟨U,a2,a3⟩:=Oper.apart_spec a7;have ad:=vr hj a8;rintro a b ⟨φ,ph⟩ ⟨b3,ai,di,aj⟩ ⟨b4,a6,dj,M⟩;rw[hi]at ai;cases ai;rw[hj]at a6;cases a6;rw[ga hi]at M;rw[ga hi,ga hj,ga hj,ga hi];have b0:cH (cH φ J.dst a) I.dst b=cH (cH φ I.dst b) J.dst a:=ld φ a b a2;simp only at aj M⊢;rcases aj with⟨rfl,N,hx⟩|⟨O,y0,y1,y2,y3⟩
 ·
  subst N;rcases M with⟨e,_⟩|⟨X,z0,z1,z2,z3⟩
  ·grind
  ·refine⟨⟨I,hj,dj,.inr ⟨X,fun h=>(eN U).1 (z0 h),fun h=>(eN U).1 (z1 h),fun _=>ad,fun h=>by cases h⟩⟩,⟨J,hi,di,.inl ⟨rfl,?_,(BS a3).2 hx⟩⟩,?_⟩
   ·grind
   ·grind
 ·rcases M with⟨rfl,N,hx⟩|⟨X,z0,z1,z2,z3⟩
  ·rw[if_neg O]at N
   subst N;refine⟨⟨I,hj,dj,.inl ⟨rfl,rfl,(BS U).1 hx⟩⟩,⟨J,hi,di,.inr ⟨O,fun h=>(eN a3).2 (y0 h),fun h=>(eN a3).2 (y1 h),fun h=>?_,fun _=>ad⟩⟩,?_⟩;·grind
   ·grind
  ·rw[if_neg O]at z2 z3
   refine⟨⟨I,hj,dj,.inr ⟨X,fun h=>(eN U).1 (z0 h),fun h=>(eN U).1 (z1 h),z2,z3⟩⟩,⟨J,hi,di,.inr ⟨O,fun h=>(eN a3).2 (y0 h),fun h=>(eN a3).2 (y1 h),?_,?_⟩⟩,?_⟩;·grind
   ·grind
   ·grind
def fR(n:Nat)(I:fq):List (Nat×A):=(List.range n).filterMap fun t=>(I t).map fun a=>(t,a)
theorem mV(I:fq):∀(l:List Nat)(t:Nat),look (l.filterMap fun t=>(I t).map fun a=>(t,a)) t=if t∈l then I t else none
 |[],t=>rfl
 |s::l,t=>by
   rw[List.filterMap_cons]
   cases hs:I s with
   |none=>simp only[Option.map_none];rw[mV I l t];grind
   |some a=>
     simp only[Option.map_some,ct];by_cases e:s=t;·grind
     ·rw[if_neg e,mV I l t]
      grind
theorem qM(p g t):look (p++g) t=match look p t with|some a=>some a|none=>look g t:=by
 induction p with
 |nil=>rfl
 |cons x p I=>grind[ct]
theorem JI(i a)(σ:SC)(act w K)(hs:Ks C n S σ act w)(hy:YC P C n S ops c i a σ)(U:∀act w,Ks C n S (tV ops c i a σ) act w->K act w):wpOp P ops Q' i K act w:=by
 obtain⟨tmps,b0⟩:=act;obtain⟨rfl,G,hs⟩:=hs;obtain⟨I,ph⟩:=σ;obtain⟨o,ho,hd,hy⟩:=hy;rw[ga ho]at U;simp only at hs hy U;unfold wpOp;simp only[ho];rcases hy with⟨rfl,rfl,hg,p,hp,J⟩|⟨aj,y0,y1,y2,y3⟩
 ·simp only[L',if_false]at hs
  have hw:Region.wanted o (yielded ops tmps)=true:=by simp[Region.wanted,hg]
  rw[hw,if_pos rfl];refine .inl ?_;have a1:∀t x,I t=some x->t<n:=fun t x J=>by obtain⟨v,h1,_⟩:=hs.2 t x J;have:=(θ.1 h1).1;rw[hs.1.size]at this;grind
  have O:∀t,look (p++fR n I) t=I t:=fun t=>by
   rw[qM]
   cases q:look p t with
   |some x=>exact(hp t x q).1.symm
   |none=>
     simp only;unfold fR;rw[mV]
     cases e:I t with
     |none=>split<;>rfl
     |some x=>rw[if_pos (List.mem_range.2 (a1 t x e))]
  have a6:=hs.lV (f:=p++fR n I) fun t x J=>by rw[<-O];exact J
  have h:=J (fR n I) tmps w ⟨G,a6⟩;simp only[fO,hw,if_true]at h;refine Oper.Bl (fun c a w X=>?_) (fun hl=>?_) (fun ad w2 X=>?_) h
  ·obtain⟨_,st',_,he,_⟩:=X
   grind
  ·obtain⟨_,_,X⟩:=hl
   obtain⟨_,st',_,he,_⟩:=X;grind
  ·obtain⟨a7,st',⟨G',M⟩,_,rfl⟩:=X
   refine U ad w2 ⟨a7,G',?_⟩;simp only[if_true];show fm C n S.bx1 S.lv1 S.gen1 (cH I o.dst a) G' ad.tmps w2
   cases ai:o.dst with
   |none=>rw[ai]at M;refine⟨{M with frame:=fun t a ha=>by simp[look]at ha},fun t x J=>M.frame t x ?_⟩;show look (p++fR n I) t=some x;rw[O];exact J
   |some d=>rw[ai]at M;refine⟨{M with frame:=fun t a ha=>by simp[look]at ha},fun t x J=>M.frame t x ?_⟩;show look ((d,a)::(p++fR n I)) t=some x;grind[ct,cH]
 ·rw[if_neg aj]at U
  have key:∀{bx:List (Nat×List A)}{lv:List Nat}{gen:Nat},fm C n bx lv gen I G tmps w->YA P C n bx lv gen ops o a I->(∀tmps w,fm C n bx lv gen (cH I o.dst a) G tmps w->K ⟨tmps,C.ds⟩ w)->
   (if Region.wanted o (yielded ops tmps)=true then o.wp P ⟨tmps,C.ds⟩ w K Q'∨(o.asks P ⟨tmps,C.ds⟩ w∧LetsOut Q')else K (Act.put ⟨tmps,C.ds⟩ o.dst undef) w):=by
   intro bx lv gen N a8 hk;obtain⟨_,⟨hw,f,hf,hp⟩|⟨hw,rfl⟩⟩:=a8
   ·rw[hZ N hw]
    simp only[if_true];refine .inl ?_;have hg:et P o ⟨tmps,[]⟩ w fun v w'=>Below w.heap.size w w'∧bK (bu C G gen w') v a:=hp G tmps w (N.lV fun t x J=>(hf t x J).1);refine hg.ds.wp fun v w'⟨hb,hr⟩=>?_;rw[Act.iP];exact hk _ _ (N.step hb hd hr)
   ·rw[hZ N hw]
    simp only[L',if_false];rw[Act.iP];exact hk _ _ (N.step (Below.refl _ _) hd (.tup #[] [] rfl (by simp)))
  cases ph with
  |false=>simp only[L',if_false]at hs;exact key hs (y0 (y2 rfl)) fun tmps w h=>U _ _ ⟨rfl,G,by simpa using h⟩
  |true=>simp only[if_true]at hs;exact key hs (y1 (y3 rfl)) fun tmps w h=>U _ _ ⟨rfl,G,by simpa using h⟩
def CC(P:Program)(C:Ctx)(n:Nat)(S:DO)(ops:Array Oper)(c:Nat)(Q:St->Prop)(l:List Oper)(i:Nat)(f:List (Nat×A))(ph:Bool):Prop:=
 BW (YC P C n S ops c) (tV ops c) (fun I=>∃f',(∀t,look f' t=I.1 t)∧I.2=true∧Q ⟨f',S.bx1,S.lv1,S.gen1⟩) l i (look f,ph)
def gh(m:Nat)(ops:Array Oper):Bool:=Nat.ble m ops.size&&ri .any ops m&&B5 .any ops m&&rz .any ops m 0 (Array.replicate ops.size false)
theorem W.wU(T:cG P){l:List Oper}{bx bx1 lv1 gen1}(m c)(hB:gh m l.toArray=true)(h1:l.take m=l1)(h2:l.drop m=l2)(h:CC P C n ⟨bx,bx1,lv,lv1,gen,gen1⟩ l.toArray c (WO P C n l.toArray Q l2) l1 0 f false):W P C n (.region id l.toArray true) Q ⟨f,bx,lv,gen⟩:=by
 subst h1;subst h2;intro tmps w ⟨G,hs⟩;simp only[gh,μ]at hB;obtain⟨⟨⟨hm,hw⟩,N⟩,I⟩:=hB;have hm:m<=l.length:=by simpa using κ hm
 have hb:Below w.heap.size w {w with drawn:=w.drawn+1}:=(Below.refl _ w).drew;have X:fm C n bx lv gen (look f) G tmps {w with drawn:=w.drawn+1}:=fm.ez (hs.ij hb).2;have hlen:(l.take m).length=m:=by simp;omega
 refine wp_region_any T.mixed ?_;have O:l.toArray.size=(l.take m).length+(l.drop m).length:=by simp;omega
 rw[O];have U:gU .any l.toArray (Array.replicate ((l.take m).length+(l.drop m).length) false):=fun j oj _ hl _ _ _=>by
  by_cases q:j<(l.take m).length+(l.drop m).length;·simp_all
  ·grind
 refine nD (m:=m) (Sm:=Ks C n ⟨bx,bx1,lv,lv1,gen,gen1⟩) (Y:=YC P C n ⟨bx,bx1,lv,lv1,gen,gen1⟩ l.toArray c) (ef:=tV l.toArray c) (Q:=fun J=>∃f',(∀t,look f' t=J.1 t)∧J.2=true∧WO P C n l.toArray Q (l.drop m) ⟨f',bx1,lv1,gen1⟩)
  (fun i e J act w K hs hy hk=>JI i e J act w K hs hy hk) (fun listed J act w hs hc M⟨f',e1,e2,hq⟩=>?_) _ _ (look f,false) ⟨tmps,C.ds⟩ _ ⟨rfl,G,by simpa using X⟩ U ?_
 ·obtain⟨tmps,a1⟩:=act
  obtain⟨rfl,G,hs⟩:=hs;rw[e2]at hs;simp only[if_true]at hs;refine mD hw (nI N) (l.drop m) m listed ⟨tmps,C.ds⟩ w (χ _) (by simp;omega) (fun j=>by simp[List.getElem?_drop]) hc M.1 M.2.1 M.2.2 ?_;exact hq tmps w ⟨G,hs.lV (fun t a ha=>by rw[<-e1];exact ha)⟩
 ·refine wv hw (fun i j oi oj hi hj ad a6 a7 ai aj=>KE hi hj ad ai aj) (l.take m) 0 _ _ (by rw[hlen];omega) (fun j hj=>?_) U (by simp;omega) (fun j hj=>by omega) (fun j _ hj=>?_) (by rw[hlen];rw[O,hlen]at I;exact I) h
  ·grind
  ·simp_all
variable{op:Op}{pos:String}{af:Array Edge}{rest:List Oper}{Q:St→Prop}{ph:Bool}
theorem CC.LJ(h:Q ⟨f,S.bx1,S.lv1,S.gen1⟩):CC P C n S ops c Q [] i f true:=⟨f,fun _=>rfl,rfl,h⟩
theorem YA.pw{bx}(hp:Pu P C n ⟨dk f (slotsOf op),bx,lv,gen⟩ ⟨some d,op,ty,pos,af,none⟩ a)(hd:Nat.blt d n=true):YA P C n bx lv gen ops ⟨some d,op,ty,pos,af,none⟩ a (look f):=
 ⟨hd,.inl ⟨rfl,_,fun t x I=>by obtain⟨h1,h2⟩:=fA I;exact⟨h1,D'.2 (.inl h2)⟩,hp⟩⟩
theorem KM(h1:Pu P C n ⟨dk f (slotsOf op),S.bx1,S.lv1,S.gen1⟩ ⟨some d,op,ty,pos,af,none⟩ a)(h0:Pu P C n ⟨dk f (slotsOf op),S.bx0,S.lv0,S.gen0⟩ ⟨some d,op,ty,pos,af,none⟩ a)(hi:ops[i]?=some ⟨some d,op,ty,pos,af,none⟩)(J:Nat.beq i c=false)(M:cX .any ops i c=false)(b1:cX .any ops c i=false)(hd:Nat.blt d n=true)(h:CC P C n S ops c Q rest (i+1) ((d,a)::f) ph):CC P C n S ops c Q (⟨some d,op,ty,pos,af,none⟩::rest) i f ph:=by
 have I:i≠c:=fun e=>by subst e;simp at J
 refine⟨a,⟨_,hi,hd,.inr ⟨I,fun _=>YA.pw h0 hd,fun _=>YA.pw h1 hd,fun _=>M,fun _=>b1⟩⟩,?_⟩;rw[ga hi];grind[CC,fg]
theorem Ji(h0:Pu P C n ⟨dk f (slotsOf op),S.bx0,S.lv0,S.gen0⟩ ⟨some d,op,ty,pos,af,none⟩ a)(hi:ops[i]?=some ⟨some d,op,ty,pos,af,none⟩)(J:Nat.beq i c=false)(M:cX .any ops i c=false)(b1:cX .any ops c i=true)(hd:Nat.blt d n=true)(h:CC P C n S ops c Q rest (i+1) ((d,a)::f) false):CC P C n S ops c Q (⟨some d,op,ty,pos,af,none⟩::rest) i f false:=by
 have I:i≠c:=fun e=>by subst e;simp at J
 refine⟨a,⟨_,hi,hd,.inr ⟨I,fun _=>YA.pw h0 hd,(fun h=>by rw[b1]at h;cases h),fun _=>M,fun h=>by cases h⟩⟩,?_⟩;rw[ga hi];grind[CC,fg]
theorem Ke(h1:Pu P C n ⟨dk f (slotsOf op),S.bx1,S.lv1,S.gen1⟩ ⟨some d,op,ty,pos,af,none⟩ a)(hi:ops[i]?=some ⟨some d,op,ty,pos,af,none⟩)(J:Nat.beq i c=false)(M:cX .any ops i c=true)(b1:cX .any ops c i=false)(hd:Nat.blt d n=true)(h:CC P C n S ops c Q rest (i+1) ((d,a)::f) true):CC P C n S ops c Q (⟨some d,op,ty,pos,af,none⟩::rest) i f true:=by
 have I:i≠c:=fun e=>by subst e;simp at J
 refine⟨a,⟨_,hi,hd,.inr ⟨I,(fun h=>by rw[M]at h;cases h),fun _=>YA.pw h1 hd,(fun h=>by cases h),fun _=>b1⟩⟩,?_⟩;rw[ga hi];grind[CC,fg]
theorem Ls(I:∀g,WO P C n ops (fun e st=>e=.normal∧st=⟨(d,a)::(dk f (slotsOf op)++g),S.bx1,S.lv1,S.gen1⟩) [⟨some d,op,ty,pos,af,none⟩] ⟨dk f (slotsOf op)++g,S.bx0,S.lv0,S.gen0⟩)(hi:ops[i]?=some ⟨some d,op,ty,pos,af,none⟩)(M:Nat.beq i c=true)(hd:Nat.blt d n=true)(h:CC P C n S ops c Q rest (i+1) ((d,a)::f) true):CC P C n S ops c Q (⟨some d,op,ty,pos,af,none⟩::rest) i f false:=by
 have J:i=c:=Γ M;refine⟨a,⟨_,hi,hd,.inl ⟨J,rfl,rfl,dk f (slotsOf op),fun t x I=>?_,fun g=>I g⟩⟩,?_⟩
 ·obtain⟨h1,h2⟩:=fA I
  exact⟨h1,D'.2 (.inl h2)⟩
 ·rw[ga hi]
  grind[CC,fg]
variable{bx0 bx1:List (Nat×List A)}{lv0 lv1:List Nat}{gen0 gen1:Nat}
theorem aI(h:Q ⟨f,bx1,lv1,gen1⟩):CC P C n ⟨bx0,bx1,lv0,lv1,gen0,gen1⟩ ops c Q [] i f true:=
 CC.LJ (S:=⟨bx0,bx1,lv0,lv1,gen0,gen1⟩) h
theorem gT(h1:Pu P C n ⟨dk f (slotsOf op),bx1,lv1,gen1⟩ ⟨some d,op,ty,pos,af,none⟩ a)(h0:Pu P C n ⟨dk f (slotsOf op),bx0,lv0,gen0⟩ ⟨some d,op,ty,pos,af,none⟩ a)(hi:ops[i]?=some ⟨some d,op,ty,pos,af,none⟩)(I:Nat.beq i c=false)(J:cX .any ops i c=false)(b1:cX .any ops c i=false)(hd:Nat.blt d n=true)(h:CC P C n ⟨bx0,bx1,lv0,lv1,gen0,gen1⟩ ops c Q rest (i+1) ((d,a)::f) ph):CC P C n ⟨bx0,bx1,lv0,lv1,gen0,gen1⟩ ops c Q (⟨some d,op,ty,pos,af,none⟩::rest) i f ph:=
 KM (S:=⟨bx0,bx1,lv0,lv1,gen0,gen1⟩) h1 h0 hi I J b1 hd h
theorem sU(h0:Pu P C n ⟨dk f (slotsOf op),bx0,lv0,gen0⟩ ⟨some d,op,ty,pos,af,none⟩ a)(hi:ops[i]?=some ⟨some d,op,ty,pos,af,none⟩)(I:Nat.beq i c=false)(J:cX .any ops i c=false)(b1:cX .any ops c i=true)(hd:Nat.blt d n=true)(h:CC P C n ⟨bx0,bx1,lv0,lv1,gen0,gen1⟩ ops c Q rest (i+1) ((d,a)::f) false):CC P C n ⟨bx0,bx1,lv0,lv1,gen0,gen1⟩ ops c Q (⟨some d,op,ty,pos,af,none⟩::rest) i f false:=
 Ji (S:=⟨bx0,bx1,lv0,lv1,gen0,gen1⟩) h0 hi I J b1 hd h
theorem KV(h1:Pu P C n ⟨dk f (slotsOf op),bx1,lv1,gen1⟩ ⟨some d,op,ty,pos,af,none⟩ a)(hi:ops[i]?=some ⟨some d,op,ty,pos,af,none⟩)(I:Nat.beq i c=false)(J:cX .any ops i c=true)(b1:cX .any ops c i=false)(hd:Nat.blt d n=true)(h:CC P C n ⟨bx0,bx1,lv0,lv1,gen0,gen1⟩ ops c Q rest (i+1) ((d,a)::f) true):CC P C n ⟨bx0,bx1,lv0,lv1,gen0,gen1⟩ ops c Q (⟨some d,op,ty,pos,af,none⟩::rest) i f true:=
 Ke (S:=⟨bx0,bx1,lv0,lv1,gen0,gen1⟩) h1 hi I J b1 hd h
theorem Ky(I:∀g,WO P C n ops (fun e st=>e=.normal∧st=⟨(d,a)::(dk f (slotsOf op)++g),bx1,lv1,gen1⟩) [⟨some d,op,ty,pos,af,none⟩] ⟨dk f (slotsOf op)++g,bx0,lv0,gen0⟩)(hi:ops[i]?=some ⟨some d,op,ty,pos,af,none⟩)(J:Nat.beq i c=true)(hd:Nat.blt d n=true)(h:CC P C n ⟨bx0,bx1,lv0,lv1,gen0,gen1⟩ ops c Q rest (i+1) ((d,a)::f) true):CC P C n ⟨bx0,bx1,lv0,lv1,gen0,gen1⟩ ops c Q (⟨some d,op,ty,pos,af,none⟩::rest) i f false:=
 Ls (S:=⟨bx0,bx1,lv0,lv1,gen0,gen1⟩) I hi J hd h
end
section
/-! ### whatever the states are: with paths in place of edges -/
variable {w w':World}{tmps:Array Value}{pv:Nat→Nat→Prop}{x y:Operand}{t g i k e m j id b off gen d gen' clock sz J mt g2 t' cap d0:Nat}{P:Program}{Q':Exit→Act→World→Prop}{lv' lv gs order os:List Nat}{bs:List (Nat×Nat)}{parts:Array (Nat×Operand)}{fid:FuncId}{xs:Array Operand}{o:Oper}{fn:Func}{dst:Option Nat}{ops:Array Oper}{α ι H β:Type}{hole:Option Value}{R:Value→World→Prop}{want:Bool}{listed:Array Bool}{T ty:TypeId}{l1 l2:List Oper}{ids:List Int}{act:Act}
variable {es es2:List (List D)}{f:List (Nat×A)}{G:Gh}{a a':A}{st st':St}{l:List D}{args cells cq' caps cq cells' X:List A}{E E':En}{Q:Exit→St→Prop}{b1 I:List (List A)}{C:Ctx}
variable {rs:List RV}
variable {td ed:cV}
section
variable{md:Region.Mode}{S E:Type}{Y:Nat→E→S→Prop}{ef:Nat→E→S→S}
def loose(md:Region.Mode)(ops:Array Oper)(i j:Nat):Prop:=eO md ops ops.size i j=false∧eO md ops ops.size j i=false
theorem CN{I:Oper}{e:Edge}(hj:ops[j]?=some I)(he:e∈I.after)(hb:Region.binds md e=true)(h:e.on=i):cX md ops j i=true:=by unfold cX;rw[hj];exact F'.2 ⟨e,by simpa using he,by simp[hb,h]⟩
theorem zw(h:eO md ops ops.size j i=false)(hj:j<ops.size):cX md ops j i=false:=by
 cases q:ops.size with
 |zero=>omega
 |succ k=>grind[eO,Bool.or_eq_false_iff]
theorem tC(M:gU md ops listed)(hi:i∈Region.ready md ops listed)(hj:listed.getD j true=false):eO md ops ops.size i j=false:=by obtain⟨_,N,J,I⟩:=mem_ready.1 hi;grind[eO,oI,mg]
theorem C8{Q:S->Prop}{oi}{e:E}(hw:ri md ops m=true)(b2:i<m)(hi:ops[i]?=some oi):
 ∀(fuel:Nat)(listed:Array Bool)(M:S),gU md ops listed->
   (∀j U,ops[j]?=some U->j≠i->j<m->listed.getD j true=false->eO md ops ops.size j i=false->qx Y ef i j)->
   i∈Region.ready md ops listed->Y i e M->xc Y ef m md ops Q fuel (listed.setIfInBounds i true) (ef i e M)->xc Y ef m md ops Q (fuel+1) listed M:=by
 have b3:∀{listed:Array Bool},i∈Region.ready md ops listed->listed.getD i false=false:=fun I=>mg (mem_ready.1 I).1;intro fuel
 induction fuel with
 |zero=>
   intro listed M X _ I hy H;refine⟨fun h=>(by rw[h]at I;cases I),fun j hj=>?_⟩;by_cases hji:j=i;·grind
   ·exfalso
    obtain⟨⟨_,h1,h2⟩,_⟩:=H;have b4:=(mem_ready.1 hj).1;by_cases N:j<m
    ·have:=h1 j N
     rw[getD_set_ne false (Ne.symm hji)]at this;grind
    ·grind[sD]
 |succ fuel ih=>
   intro listed M X J I hy H;refine⟨fun h=>(by rw[h]at I;cases I),fun j hj=>?_⟩;by_cases hji:j=i;·grind
   ·obtain⟨e',aj,H'⟩:=H.2 j (ready_mono hj hji)
    obtain⟨ad,U,a1,b0⟩:=mem_ready.1 hj;have ai:eO md ops ops.size j i=false:=tC X hj (mem_ready.1 I).1;have N:j<m:=by grind[Nat.lt_or_ge,sD]
    obtain⟨s1,s2,s3⟩:=J j U a1 hji N ad ai e e' M hy aj;have O:∀k ok,ops[k]?=some ok->k≠i->k<m->(listed.setIfInBounds j true).getD k true=false->eO md ops ops.size k i=false->qx Y ef i k:=fun k ok hk a6 a7 b5 a8=>by
     refine J k ok hk a6 a7 ?_ a8;by_cases hjk:j=k;·grind
     ·simp_all
    refine⟨e',s1,ih (listed.setIfInBounds j true) _ (X.add hj) O (ready_mono I (Ne.symm hji)) s2 ?_⟩;grind[Array.setIfInBounds_comm]
theorem Ad{Q:S->Prop}(hw:ri md ops m=true)(O:∀i j oi I,ops[i]?=some oi->ops[j]?=some I->i≠j->i<m->j<m->oi.apart ops I=true->loose md ops i j->qx Y ef i j):
 ∀(l:List Oper)(k:Nat)(listed:Array Bool)(J:S),k+l.length=m->(∀j,j<l.length->l[j]?=ops[k+j]?)->gU md ops listed->
 listed.size=ops.size->(∀j,j<k->listed.getD j false=true)->(∀j,k<=j->j<ops.size->listed.getD j true=false)->
 rz md ops l.length k listed=true->BW Y ef Q l k J->xc Y ef m md ops Q l.length listed J
 |[],k,listed,J,hk,_,_,hs,h1,h2,_,h=>⟨⟨hs,fun j hj=>h1 j (by simp at hk;omega),fun j hj U=>h2 j (by simp at hk;omega) U⟩,h⟩
 |o::l,k,listed,J,hk,hl,hc,hs,h1,h2,hB,h=>by
   have h0:ops[k]?=some o:=by simpa using(hl 0 (by simp)).symm
   have a8:k<ops.size:=(θ.1 h0).1;simp only[Ξ,rz,μ]at hB;obtain⟨⟨hr,hf⟩,a1⟩:=hB;have M:k∈Region.ready md ops listed:=by simpa using hr
   obtain⟨e,hy,hK⟩:=h;have X:k<m:=by simp at hk;omega
   refine C8 hw X h0 l.length listed J hc (fun j I N ad a6 ai aj=>O k j o I h0 N (Ne.symm ad) X a6 (Region.free_spec h0 hf j I N ad ai fun e he hb heq=>?_) ⟨tC hc M ai,aj⟩) M hy
    (Ad hw O l (k+1) _ _ (by simp at hk;omega) (fun j hj=>by have:=hl (j+1) (by simpa using hj);simpa[Nat.add_assoc,Nat.add_comm 1 j]using this) (hc.add M) (by simpa using hs) (fun j hj=>?_) (fun j hj U=>?_) a1 hK)
   ·have h3:=zw aj (θ.1 N).1
    grind[CN]
   ·rcases Nat.lt_succ_iff_lt_or_eq.1 hj with a7|rfl
    ·exact getD_set_true (h1 j a7)
    ·simp_all
   ·rw[getD_set_ne true (by omega)]
    grind
end
/-! ### what a renumbering leaves as it is -/
mutual
theorem wV{o o'}(h:∀g,pos o g=some g->pos o' g=some g):∀a,cT o a=a->cT o' a=a
 |.own g es,e=>by grind[cT,pos]
 |.ptr g off,e=>by grind[cT,pos]
 |.xs g es,e=>by grind[cT,pos]
 |.xp g i off l,e=>by grind[cT,pos]
 |.mp g es,e=>by grind[cT,pos]
 |.mq g es,e=>by grind[cT,pos]
 |.mo g es hole J,e=>by grind[cT,pos]
 |.lk g n c v,e=>by grind[cT,pos]
 |.gi g I,e=>by grind[cT,pos]
 |.ow g es v,e=>by grind[cT,pos]
 |.sb g n c,e=>by grind[cT,pos]
 |.np g T u,e=>by grind[cT,pos]
 |.bf g T s,e=>by grind[cT,pos]
 |.agg l,e=>by simp only[cT,A.agg.injEq]at e⊢;exact lZ h l e
 |.tup l,e=>by simp only[cT,A.tup.injEq]at e⊢;exact lZ h l e
 |.row l,e=>by simp only[cT,A.row.injEq]at e⊢;exact lZ h l e
 |.clo f l,e=>by simp only[cT,A.clo.injEq,true_and]at e⊢;exact lZ h l e
 |.bnd f l,e=>by simp only[cT,A.bnd.injEq,true_and]at e⊢;exact lZ h l e
 |.d _,_=>rfl
 |.ag _,_=>rfl
 |.rowd _,_=>rfl
 |.ni,_=>rfl
 |.fl _,_=>rfl
 |.any,_=>rfl
theorem lZ{o o'}(h:∀g,pos o g=some g->pos o' g=some g):∀l,iF o l=l->iF o' l=l
 |[],_=>rfl
 |a::l,e=>by simp only[iF,List.cons.injEq]at e⊢;exact⟨wV h a e.1,lZ h l e.2⟩
end
def CT(o o':List Nat):Bool:=(List.range o.length).all fun g=>!(pos o g==some g)||pos o' g==some g
theorem De{o o'}(h:CT o o'=true)(g)(J:pos o g=some g):pos o' g=some g:=by have I:=(δ.1 (dA J)).1;have:=I'.1 h g (List.mem_range.2 I);grind
end
def wz:D->D
 |.v x=>bif isNil (.d (.v x))then .sl []else .v x
 |.sl es=>.sl es
theorem bN.wz{v d}(h:bN w pv v d):bN w pv v (Ab.wz d):=by
 cases d with
 |v x=>exact h.pH
 |sl es=>exact h
def sE:A->A
 |.d x=>.d (wz x)
 |.ag l=>.ag (l.map wz)
 |a=>a
theorem bK.sE{v}(h:bK E v a):bK E v (Ab.sE a):=by
 cases a with
 |d x=>cases h with|d hd=>exact .d hd.wz
 |ag l=>
   cases h with
   |ag vs _ hs hd=>refine .ag vs _ (by simpa using hs) (fun i u x hu I=>?_);rw[τ,ν]at I;obtain⟨y,J,rfl⟩:=I;exact(hd i u y hu J).wz
 |_=>exact h
structure kz where
 bxF:Nat->List (Nat×List A)
 bxT:Nat->List (Nat×List A)
 lv:Nat->List Nat
 gen:Nat->Nat
 ord:Nat->List Nat
 g0:Nat
 z:List A
 cs:List Nat
 al:Nat
 R:List PanicEntry->Prop
def kz.bx(S:kz)(k:Nat)(b:Bool):List (Nat×List A):=bif b then S.bxT k else S.bxF k
abbrev GP(fu:List (List (Nat×List A)))(lvs:List (List Nat))(gens:List Nat)(cs:List Nat)(al:Nat):kz:=⟨fun _=>[],fun k=>fu.getD k [],fun k=>lvs.getD k [],fun k=>gens.getD k 0,fun _=>[],0,[],cs,al,fun _=>False⟩
abbrev C0(fu:List (List (Nat×List A)))(lvs:List (List Nat))(gens:List Nat)(cs:List Nat)(al:Nat)(v:Value):kz:=⟨fun _=>[],fun k=>fu.getD k [],fun k=>lvs.getD k [],fun k=>gens.getD k 0,fun _=>[],0,[],cs,al,fun c=>c=[{v:=v,recovered:=false}]⟩
def iK(S:kz)(ops:Array Oper)(i k:Nat)(b:Bool):Bool:=
 ((List.range S.cs.length).all fun j=>bif Nat.blt j k then !eO .any ops ops.size (S.cs.getD j 0) i else !eO .any ops ops.size i (S.cs.getD j 0))&&
 (bif b then !eO .any ops ops.size S.al i else(Nat.blt S.al ops.size&&!eO .any ops ops.size i S.al))
theorem Pu.sE{n}(h:Pu P C n st o a)(e:Ab.sE a=a'):Pu P C n st o a':=fun G tmps w hs=>by subst e;exact(h G tmps w hs).mono fun v w'⟨h1,h2⟩=>⟨h1,h2.sE⟩
theorem ba{S:kz}{b}{p:Prop}(h:iK S ops i k b=true)(I:iK S ops i k b=false:=by kernel_rfl):p:=by rw[h]at I;cases I
section
variable(T:cG P){n:Nat}(S:kz)
abbrev SD:=fq×Nat×Bool
def Jg(C:Ctx)(n:Nat)(S:kz)(J:Bool)(I:SD)(act:Act)(w:World):Prop:=
 (J=true->I.2.2=true)∧act.defers=C.ds∧∃G,fm C n (S.bx I.2.1 I.2.2) (S.lv I.2.1) (S.gen I.2.1) I.1 G act.tmps w∧(I.2.2=false->∀t a,I.1 t=some a->cT (S.ord I.2.1) a=a)
def J5(P:Program)(C:Ctx)(n:Nat)(S:kz)(ops:Array Oper)(o:Oper)(a:A)(k:Nat)(b:Bool)(I:fq):Prop:=
 o.guard=none∧∃p,(∀t x,look p t=some x->I t=some x∧t∈o.looksAt ops)∧
  ∀g,WO P C n ops (fun e st=>(e=.normal∧st=St.put ⟨p++g,S.bx (k+1) b,S.lv (k+1),S.gen (k+1)⟩ o.dst a)∨∃c,e=.panic c∧S.R c) [o] ⟨p++g,S.bx k b,S.lv k,S.gen k⟩
def YD(P:Program)(T:cG P)(C:Ctx)(n:Nat)(S:kz)(ops:Array Oper)(i:Nat)(a:A)(I:SD):Prop:=
 ∃o,ops[i]?=some o∧fY n o.dst=true∧I.2.1<=S.cs.length∧iK S ops i I.2.1 I.2.2=true∧
   ((S.cs[I.2.1]?=some i∧i≠S.al∧(∀b,iK S ops i I.2.1 b=true->J5 P C n S ops o a I.2.1 b I.1)∧(iK S ops i I.2.1 false=true->cT (S.ord (I.2.1+1)) a=a))∨
    (i∉S.cs∧i=S.al∧I.2.2=false∧o.guard=none∧a=.ptr S.g0 0∧∃e d J,o.op=.alloc e∧o.dst=some d∧bh T.l e=some J∧S.z=J.z.map fun v=>A.d (.v v))∨
    (i∉S.cs∧i≠S.al∧∀k b,k<=S.cs.length->iK S ops i k b=true->YA P C n (S.bx k b) (S.lv k) (S.gen k) ops o a I.1∧(b=false->cT (S.ord k) a=a)))
def Bo(S:kz)(ops:Array Oper)(i:Nat)(a:A)(I:SD):SD:=
 match ops[i]?with
 |none=>I
 |some o=>(cH I.1 o.dst a,(if S.cs[I.2.1]?=some i then I.2.1+1 else I.2.1),if i=S.al then true else I.2.2)
variable{T}{S}
theorem sW{b}{J:fq}{x}(hd:∀d,dst=some d->d∉o.looksAt ops):J5 P C n S ops o a k b (cH J dst x)↔J5 P C n S ops o a k b J:=by
 constructor
 ·rintro⟨h0,p,h1,h2⟩
  exact⟨h0,p,fun t y I=>⟨(gS hd (h1 t y I).2).symm.trans (h1 t y I).1,(h1 t y I).2⟩,h2⟩
 ·rintro⟨h0,p,h1,h2⟩
  exact⟨h0,p,fun t y I=>⟨(gS hd (h1 t y I).2).trans (h1 t y I).1,(h1 t y I).2⟩,h2⟩
theorem zk{c b}(h:S.cs[k]?=some c)(hl:loose .any ops i c):iK S ops i (k+1) b=iK S ops i k b:=by
 unfold iK;congr 1;rw[Bool.eq_iff_iff,I',I'];have I:S.cs.getD k 0=c:=by simp[List.getD_eq_getElem?_getD,h]
 have key:∀j,(bif Nat.blt j (k+1)then !eO .any ops ops.size (S.cs.getD j 0) i else !eO .any ops ops.size i (S.cs.getD j 0))=(bif Nat.blt j k then !eO .any ops ops.size (S.cs.getD j 0) i else !eO .any ops ops.size i (S.cs.getD j 0)):=fun j=>by
  rcases Nat.lt_trichotomy j k with hj|rfl|hj
  ·grind[Nat.blt,Nat.blt_eq]
  ·have h1:Nat.blt j (j+1)=true:=by simp[Nat.blt_eq]
   have h2:Nat.blt j j=false:=by cases q:Nat.blt j j with|false=>rfl|true=>simp[Nat.blt_eq]at q
   rw[h1,h2,I,hl.1,hl.2];rfl
  ·grind[Nat.blt,Nat.blt_eq]
 grind
theorem wk(I:S.al<ops.size)(hl:loose .any ops i S.al):iK S ops i k true=iK S ops i k false:=by
 unfold iK;have h:Nat.blt S.al ops.size=true:=by rw[Nat.blt_eq];exact I
 rw[hl.1,hl.2,h];rfl
theorem loose.symm{md:Region.Mode}(h:loose md ops i j):loose md ops j i:=⟨h.2,h.1⟩
theorem kL(h:ops[i]?=some o)(a)(I:SD):Bo S ops i a I=(cH I.1 o.dst a,(if S.cs[I.2.1]?=some i then I.2.1+1 else I.2.1),if i=S.al then true else I.2.2):=by unfold Bo;rw[h]
theorem yM{c b}(h:S.cs[k]?=some c)(hl:loose .any ops i c)(I:iK S ops i (k+1) b=true):iK S ops i k b=true:=by rw[<-zk h hl];exact I
theorem yY{c b}(h:S.cs[k]?=some c)(hl:loose .any ops i c)(I:iK S ops i k b=true):iK S ops i (k+1) b=true:=by rw[zk h hl];exact I
theorem KR(cq:∀k c c',S.cs[k]?=some c->S.cs[k+1]?=some c'->eO .any ops ops.size c' c=true){oi oj:Oper}(hi:ops[i]?=some oi)(hj:ops[j]?=some oj)(cx:i≠j)(cy:oi.apart ops oj=true)(hl:loose .any ops i j):
 qx (YD P T C n S ops) (Bo S ops) i j:=by
 obtain⟨a1,a2,a3⟩:=Oper.apart_spec cy;rintro a b ⟨φ,k,ph⟩ ⟨c1,b3,di,X,ai,b4⟩ ⟨c6,b5,dj,a8,aj,ad⟩;rw[hi]at b3;cases b3;rw[hj]at b5;cases b5;have O:cH (cH φ oi.dst a) oj.dst b=cH (cH φ oj.dst b) oi.dst a:=ld φ a b a2;have mem_of:∀{k c:Nat},S.cs[k]?=some c->c∈S.cs:=fun h=>ζ h;have b6:∀{k c:Nat},S.cs[k]?=some c->k+1<=S.cs.length:=fun h=>(δ.1 h).1;rw[kL hi]at aj ad a8;simp only[kL hi,kL hj];simp only at X ai b4 a8 aj ad;rcases b4 with⟨ci,M,xi,fi⟩|⟨U,a6,rfl,gi,ei,ch⟩|⟨U,M,yi⟩
 ·
  simp only[if_pos ci,if_neg M]at aj ad a8;rcases ad with⟨cj,_⟩|⟨J,N,rfl,gj,ej,b0⟩|⟨J,I,yj⟩
  ·exact absurd (cq k i j ci cj) (by rw[hl.2];simp)
  ·have b2:loose .any ops i S.al:=by rw[<-N];exact hl
   have a7:S.al<ops.size:=by rw[<-N];exact(θ.1 hj).1
   have n1:¬S.cs[k]?=some j:=fun h=>J (mem_of h);refine⟨⟨oj,hj,dj,X,yM ci hl.symm aj,.inr (.inl ⟨J,N,rfl,gj,ej,b0⟩)⟩,?_,?_⟩
   ·refine⟨oi,hi,di,?_,?_,.inl ⟨?_,M,fun b hb=>(sW a3).2 ?_,?_⟩⟩
    all_goals simp only[if_neg n1]
    ·exact X
    ·rw[if_pos N,wk a7 b2];exact ai
    ·exact ci
    ·simp only[if_neg n1]at hb
     exact xi b hb
    ·exact fi
   ·simp only[if_pos ci,if_neg M,if_pos N,if_neg n1,O]
    have n2:¬S.cs[k+1]?=some j:=fun h=>J (mem_of h);rw[if_neg n2]
  ·have n1:¬S.cs[k]?=some j:=fun h=>J (mem_of h)
   have n2:¬S.cs[k+1]?=some j:=fun h=>J (mem_of h);refine⟨⟨oj,hj,dj,X,yM ci hl.symm aj,.inr (.inr ⟨J,I,fun k b h1 h2=>⟨(eN a1).1 (yj k b h1 h2).1,(yj k b h1 h2).2⟩⟩)⟩,?_,?_⟩
   ·refine⟨oi,hi,di,?_,?_,.inl ⟨?_,M,fun b hb=>(sW a3).2 ?_,?_⟩⟩
    all_goals simp only[if_neg n1]
    ·exact X
    ·rw[if_neg I];exact ai
    ·exact ci
    ·simp only[if_neg n1]at hb
     exact xi b hb
    ·exact fi
   ·simp only[if_pos ci,if_neg M,if_neg I,if_neg n1,if_neg n2,O]
 ·
  have n1:¬S.cs[k]?=some i:=fun h=>U (mem_of h);simp only[if_neg n1,if_pos a6]at aj ad a8;have cl:loose .any ops j S.al:=by rw[<-a6];exact hl.symm
  have a7:S.al<ops.size:=by rw[<-a6];exact(θ.1 hi).1
  rcases ad with⟨cj,I,xj,fj⟩|⟨_,N,h,_⟩|⟨J,I,yj⟩
  ·have n2:¬S.cs[k+1]?=some i:=fun h=>U (mem_of h)
   refine⟨⟨oj,hj,dj,X,by rw[<-wk a7 cl];exact aj,.inl ⟨cj,I,fun b hb=>(sW a1).1 (xj b hb),fj⟩⟩,?_,?_⟩
   ·refine⟨oi,hi,di,?_,?_,.inr (.inl ⟨U,a6,?_,gi,ei,ch⟩)⟩
    all_goals simp only[if_pos cj,if_neg I]
    ·exact b6 cj
    ·exact yY cj hl ai
   ·simp only[if_neg n1,if_pos a6,if_pos cj,if_neg I,if_neg n2,O]
  ·exact absurd (a6.trans N.symm) cx
  ·have n3:¬S.cs[k]?=some j:=fun h=>J (mem_of h)
   refine⟨⟨oj,hj,dj,X,by rw[<-wk a7 cl];exact aj,.inr (.inr ⟨J,I,fun k b h1 h2=>⟨(eN a1).1 (yj k b h1 h2).1,(yj k b h1 h2).2⟩⟩)⟩,?_,?_⟩
   ·refine⟨oi,hi,di,?_,?_,.inr (.inl ⟨U,a6,?_,gi,ei,ch⟩)⟩
    all_goals simp only[if_neg n3,if_neg I]
    ·exact X
    ·exact ai
   ·simp only[if_neg n1,if_pos a6,if_neg n3,if_neg I,O]
 ·
  have n1:¬S.cs[k]?=some i:=fun h=>U (mem_of h);simp only[if_neg n1,if_neg M]at aj ad a8;rcases ad with⟨cj,I,xj,fj⟩|⟨J,N,rfl,gj,ej,b0⟩|⟨J,I,yj⟩
  ·have n2:¬S.cs[k+1]?=some i:=fun h=>U (mem_of h)
   refine⟨⟨oj,hj,dj,X,aj,.inl ⟨cj,I,fun b hb=>(sW a1).1 (xj b hb),fj⟩⟩,?_,?_⟩
   ·refine⟨oi,hi,di,?_,?_,.inr (.inr ⟨U,M,fun k b h1 h2=>⟨(eN a3).2 (yi k b h1 h2).1,(yi k b h1 h2).2⟩⟩)⟩
    all_goals simp only[if_pos cj,if_neg I]
    ·exact b6 cj
    ·exact yY cj hl ai
   ·simp only[if_neg n1,if_neg M,if_pos cj,if_neg I,if_neg n2,O]
  ·have n3:¬S.cs[k]?=some j:=fun h=>J (mem_of h)
   have b2:loose .any ops i S.al:=by rw[<-N];exact hl
   have a7:S.al<ops.size:=by rw[<-N];exact(θ.1 hj).1
   refine⟨⟨oj,hj,dj,X,aj,.inr (.inl ⟨J,N,rfl,gj,ej,b0⟩)⟩,?_,?_⟩
   ·refine⟨oi,hi,di,?_,?_,.inr (.inr ⟨U,M,fun k b h1 h2=>⟨(eN a3).2 (yi k b h1 h2).1,(yi k b h1 h2).2⟩⟩)⟩
    all_goals simp only[if_neg n3,if_pos N]
    ·exact X
    ·rw[wk a7 b2];exact ai
   ·simp only[if_neg n1,if_neg M,if_neg n3,if_pos N,O]
  ·have n3:¬S.cs[k]?=some j:=fun h=>J (mem_of h)
   refine⟨⟨oj,hj,dj,X,aj,.inr (.inr ⟨J,I,fun k b h1 h2=>⟨(eN a1).1 (yj k b h1 h2).1,(yj k b h1 h2).2⟩⟩)⟩,?_,?_⟩
   ·refine⟨oi,hi,di,?_,?_,.inr (.inr ⟨U,M,fun k b h1 h2=>⟨(eN a3).2 (yi k b h1 h2).1,(yi k b h1 h2).2⟩⟩)⟩
    all_goals simp only[if_neg n3,if_neg I]
    ·exact X
    ·exact ai
   ·simp only[if_neg n1,if_neg M,if_neg n3,if_neg I,O]
theorem WO.Cj(U:o.guard=none){I J}(hl:∀e st,I e st->e≠.outgrown)(M:∀e st,I e st->J e st)(h:WO P C n ops I [o] st):WO P C n ops J [o] st:=by
 intro tmps w hs;have hw:Region.wanted o (yielded ops tmps)=true:=by simp[Region.wanted,U]
 have h:=h tmps w hs;simp only[fO,hw,if_true]at h⊢;refine Oper.xn (fun c a w⟨h1,st',h2,h3⟩=>⟨h1,st',h2,M _ _ h3⟩) (fun N=>by obtain⟨_,_,O⟩:=N;obtain⟨_,st',_,he⟩:=O;exact hl _ _ he Z) (fun X w2⟨h1,st',h2,h3⟩=>⟨h1,st',h2,M _ _ h3⟩) h
theorem WO.Jz(O:o.guard=none){J:St}{R:List PanicEntry->Prop}(hR:∀c act w,R c->act.defers=C.ds->(∃st,fv C n st act.tmps w)->Q' (.panic c) act w)(h:WO P C n ops (fun e st=>(e=.normal∧st=J)∨∃c,e=.panic c∧R c) [o] st)(hs:bq C n st G tmps w):
 o.wp P ⟨tmps,C.ds⟩ w (fun act w=>act.defers=C.ds∧∃G,bq C n J G act.tmps w) Q':=by
 have hw:Region.wanted o (yielded ops tmps)=true:=by simp[Region.wanted,O]
 have h:=h tmps w ⟨G,hs⟩;simp only[fO,hw,if_true]at h;refine Oper.xn (fun c a w I=>?_) (fun hl=>?_) (fun U w2 I=>?_) h
 ·obtain⟨h1,st',h2,he|⟨M,he,N⟩⟩:=I
  ·grind
  ·grind
 ·obtain⟨_,_,I⟩:=hl
  obtain⟨_,st',_,he|⟨M,he,N⟩⟩:=I;·grind
  ·grind
 ·obtain⟨X,st',⟨G',ad⟩,he|⟨M,he,N⟩⟩:=I
  ·grind
  ·grind
theorem Bu{bx}{I:fq}(hs:fm C n bx lv gen I G tmps w)(t x)(J:I t=some x):t<n:=by obtain⟨v,h1,_⟩:=hs.2 t x J;have:=(θ.1 h1).1;rw[hs.1.size]at this;grind
theorem Ai{I:fq}{p}(J:∀t x,I t=some x->t<n)(hp:∀t x,look p t=some x->I t=some x)(t):look (p++fR n I) t=I t:=by
 rw[qM]
 cases q:look p t with
 |some x=>exact(hp t x q).symm
 |none=>
   simp only;unfold fR;rw[mV]
   cases e:I t with
   |none=>split<;>rfl
   |some x=>rw[if_pos (List.mem_range.2 (J t x e))]
theorem xU{I:fq}(h:∀t,look f t=I t):look ((d,a)::f) t=cH I (some d) a t:=by grind[ct,cH]
def FH(S:kz)(I k:Nat):Prop:=(lT (S.ord k) (S.gen k) I=true∧pos (S.ord k) (S.gen k)=some S.g0)∧kR (S.ord k) ((S.gen k,S.z)::S.bxF k) (S.bxT k)∧tR (S.ord k) (S.lv k) (S.lv k)=true
def uV(S:kz)(I:Nat):Nat->Prop
 |0=>FH S I 0
 |k+1=>FH S I (k+1)∧CT (S.ord k) (S.ord (k+1))=true∧uV S I k
theorem uV.at{I}:∀{m:Nat},uV S I m->∀k,k<=m->FH S I k
 |0,h,k,J=>by
   obtain rfl:k=0:=by omega
   exact h
 |m+1,h,k,J=>by
   rcases Nat.lt_or_ge k (m+1)with M|N
   ·exact uV.at h.2.2 k (by omega)
   ·obtain rfl:k=m+1:=by omega
    exact h.1
theorem uV.mono{M}:∀{m:Nat},uV S M m->∀k,k<m->CT (S.ord k) (S.ord (k+1))=true
 |0,_,k,I=>absurd I (Nat.not_lt_zero _)
 |m+1,h,k,I=>by
   rcases Nat.lt_or_ge k m with J|N
   ·exact uV.mono h.2.2 k J
   ·obtain rfl:k=m:=by omega
    exact h.2.1
theorem JP{nb:Nat}[hnb:NB C nb](b0:Bool)(hok:b0=false->uV S nb S.cs.length)(i:Nat)(a:A)(σ:SD)(act:Act)(w:World)(K:Act->World->Prop)(hR:∀c act w,S.R c->act.defers=C.ds->(∃st,fv C n st act.tmps w)->Q' (.panic c) act w)(hs:Jg C n S b0 σ act w)(hy:YD P T C n S ops i a σ)(hK:∀act w,Jg C n S b0 (Bo S ops i a σ) act w->K act w):wpOp P ops Q' i K act w:=by
 obtain⟨tmps,df⟩:=act;obtain⟨ai,rfl,G,hs,X⟩:=hs;obtain⟨O,k,ph⟩:=σ;obtain⟨o,ho,hd,a6,aj,hy⟩:=hy;rw[kL ho]at hK;simp only at hs X a6 aj hy hK ai;unfold wpOp;simp only[ho];rcases hy with⟨hc,a7,I,hr⟩|⟨nc,b6,rfl,hg,rfl,e,d,dt,cj,J,he,hz⟩|⟨nc,a7,a8⟩
 ·obtain⟨hg,p,hp,I⟩:=I ph aj
  rw[if_pos hc,if_neg a7]at hK;have hw:Region.wanted o (yielded ops tmps)=true:=by simp[Region.wanted,hg]
  rw[hw,if_pos rfl];refine .inl ?_;have M:=Ai (Bu hs) (fun t x I=>(hp t x I).1);have b2:=hs.lV (f:=p++fR n O) fun t x I=>by rw[<-M];exact I
  refine Oper.wp_mono (fun ad w2⟨b3,G',U⟩=>hK ad w2 ⟨ai,b3,G',?_,fun N t x I=>?_⟩) (WO.Jz hg hR (I (fR n O)) b2)
  ·show fm C n (S.bx (k+1) ph) (S.lv (k+1)) (S.gen (k+1)) (cH O o.dst a) G' ad.tmps w2
   cases J:o.dst with
   |none=>rw[J]at U;refine⟨{U with frame:=fun t a ha=>by simp[look]at ha},fun t x I=>U.frame t x ?_⟩;show look (p++fR n O) t=some x;rw[M];exact I
   |some d=>rw[J]at U;refine⟨{U with frame:=fun t a ha=>by simp[look]at ha},fun t x I=>U.frame t x ?_⟩;show look ((d,a)::(p++fR n O)) t=some x;rw[xU M];exact I
  ·simp only at N I
   have b4:b0=false:=by cases b0 with|false=>rfl|true=>rw[ai rfl]at N;cases N
   have hm:=De ((hok b4).mono k (δ.1 hc).1)
   cases J:o.dst with
   |none=>rw[J]at I;exact wV hm x (X N t x I)
   |some d=>
     rw[J]at I;simp only[cH]at I;split at I;·cases I;exact hr (by rw[<-N];exact aj)
     ·exact wV hm x (X N t x I)
 ·have b5:¬S.cs[k]?=some i:=fun h=>nc (ζ h)
  rw[if_neg b5,if_pos b6]at hK;have hw:Region.wanted o (yielded ops tmps)=true:=by simp[Region.wanted,hg]
  rw[hw,if_pos rfl];refine .inl ?_;have b4:b0=false:=by cases b0 with|false=>rfl|true=>cases ai rfl
  obtain⟨⟨hO,ch⟩,cl,cq⟩:=(hok b4).at k a6;have M:∀t,look (fR n O) t=O t:=Ai (p:=[]) (Bu hs) (fun t x I=>by simp[look]at I);have b2:=hs.lV (f:=fR n O) fun t x I=>by rw[<-M];exact I
  have cx:WO P C n ops (fun e st=>(e=.normal∧st=St.put ⟨fR n O,(S.gen k,S.z)::S.bx k false,S.lv k,S.gen k+1⟩ o.dst (.ptr (S.gen k) 0))∨∃c,e=.panic c∧False) [o] ⟨fR n O,S.bx k false,S.lv k,S.gen k⟩:=
   WO.alloc T hg hd cj he (ae (.inl ⟨rfl,by rw[hz]⟩))
  refine Oper.wp_mono (fun ad w2⟨b3,G',U⟩=>hK ad w2 ⟨fun _=>rfl,b3,om (S.ord k) G',?_,fun h=>by cases h⟩) (WO.Jz (R:=fun _=>False) hg (fun _ _ _ h=>h.elim) cx b2);simp only[lT,μ]at hO;obtain⟨⟨cy,c1⟩,c6⟩:=hO;rw[J]at U⊢;have h3:bq C n ⟨(d,.ptr S.g0 0)::fR n O,S.bxT k,S.lv k,S.gen k⟩ (om (S.ord k) G') ad.tmps w2:=by
   refine bq.cT (gen':=S.gen k) U (S.ord k) (eX cy) (κ c1) (fun i hi=>?_) (fun t x I=>?_) (fun i l' c7=>?_) (fun i hi=>?_)
   ·have h4:=rI c6 i (by rw[<-hnb.h];exact hi)
    simpa using h4
   ·rw[ct]at I
    show ∃a,look ((d,.ptr (S.gen k) 0)::fR n O) t=some a∧cT (S.ord k) a=x;rw[ct];split at I
    ·rename_i e
     rw[if_pos e];cases I;exact⟨_,rfl,by simp only[cT,ch]⟩
    ·rename_i e
     rw[if_neg e];rw[M]at I⊢;exact⟨x,I,X rfl t x I⟩
   ·exact kR.le cl i l' c7
   ·exact wE cq i hi
  refine⟨{h3 with frame:=fun t a ha=>by simp[look]at ha},fun t x I=>h3.frame t x ?_⟩;show look ((d,_)::fR n O) t=some x;rw[xU M];exact I
 ·have b5:¬S.cs[k]?=some i:=fun h=>nc (ζ h)
  rw[if_neg b5,if_neg a7]at hK;obtain⟨a8,hr⟩:=a8 k ph a6 aj;have a1:ph=false->∀t x,cH O o.dst a t=some x->cT (S.ord k) x=x:=fun N t x I=>by
   cases J:o.dst with
   |none=>rw[J]at I;exact X N t x I
   |some d=>
     rw[J]at I;simp only[cH]at I;split at I;·cases I;exact hr N
     ·exact X N t x I
  obtain⟨_,⟨hw,f,hf,hp⟩|⟨hw,rfl⟩⟩:=a8
  ·rw[hZ hs hw]
   simp only[if_true];refine .inl ?_;have hg:et P o ⟨tmps,[]⟩ w fun v w'=>Below w.heap.size w w'∧bK (bu C G (S.gen k) w') v a:=hp G tmps w (hs.lV fun t x I=>(hf t x I).1);refine hg.ds.wp fun v w'⟨hb,hr⟩=>?_;rw[Act.iP];exact hK _ _ ⟨ai,rfl,G,hs.step hb hd hr,a1⟩
  ·rw[hZ hs hw]
   simp only[L',if_false];rw[Act.iP];exact hK _ _ ⟨ai,rfl,G,hs.step (Below.refl _ _) hd (.tup #[] [] rfl (by simp)),a1⟩
def CD(P:Program)(T:cG P)(C:Ctx)(n:Nat)(S:kz)(ops:Array Oper)(Q:St->Prop)(l:List Oper)(i:Nat)(f:List (Nat×A))(k:Nat)(b:Bool):Prop:=
 BW (YD P T C n S ops) (Bo S ops) (fun I=>∃f',(∀t,look f' t=I.1 t)∧I.2=(S.cs.length,true)∧Q ⟨f',S.bxT S.cs.length,S.lv S.cs.length,S.gen S.cs.length⟩) l i (look f,k,b)
def lI(ops:Array Oper):List Nat->Bool
 |c::I::r=>eO .any ops ops.size I c&&lI ops (I::r)
 |_=>true
theorem tF:∀{cs:List Nat},lI ops cs=true->∀k c I,cs[k]?=some c->cs[k+1]?=some I->eO .any ops ops.size I c=true
 |[],_,k,c,I,h,_=>by simp at h
 |[_],_,k,c,I,_,h=>by simp at h
 |x::y::r,h,k,c,I,h1,h2=>by
   simp only[lI,μ]at h
   cases k with
   |zero=>grind
   |succ k=>exact tF h.2 k c I (by simpa using h1) (by simpa using h2)
def vu(o:List Nat):List (Nat×A)->Prop
 |[]=>True
 |(_,a)::r=>cT o a=a∧vu o r
theorem vu.at{o}:∀{f:List (Nat×A)},vu o f->∀t a,look f t=some a->cT o a=a
 |[],_,t,a,h=>by simp[look]at h
 |(s,x)::r,hf,t,a,h=>by
   rw[ct]at h;split at h;·cases h;exact hf.1
   ·exact hf.2.at t a h
theorem W.pK(T:cG P){nb}[hnb:NB C nb]{l:List Oper}{bx}(S:kz)(I:Bool)(m:Nat)(hB:gh m l.toArray=true)(ai:lI l.toArray S.cs=true)(h1:l.take m=l1)(h2:l.drop m=l2)(hR:∀c st,S.R c->Q (.panic c) st)(hok:I=false->uV S nb S.cs.length∧vu (S.ord 0) f)(e1:∀g c,bh (S.bx 0 I) g=some c->bh bx g=some c)(e2:S.lv 0=lv)(e3:Nat.ble gen (S.gen 0)=true)(h:CD P T C n S l.toArray (WO P C n l.toArray Q l2) l1 0 f 0 I):W P C n (.region id l.toArray true) Q ⟨f,bx,lv,gen⟩:=by
 subst h1;subst h2;subst e2;intro tmps w ⟨G,hs⟩;have hs:bq C n ⟨f,bx,S.lv 0,S.gen 0⟩ G tmps w:=bq.later hs (g:=S.gen 0) (κ e3);have hs:bq C n ⟨f,S.bx 0 I,S.lv 0,S.gen 0⟩ G tmps w:={hs with box:=fun g c J=>hs.box g c (e1 g c J)};simp only[gh,μ]at hB;obtain⟨⟨⟨hm,hw⟩,U⟩,M⟩:=hB;have hm:m<=l.length:=by simpa using κ hm
 have hb:Below w.heap.size w {w with drawn:=w.drawn+1}:=(Below.refl _ w).drew;have aj:fm C n (S.bx 0 I) (S.lv 0) (S.gen 0) (look f) G tmps {w with drawn:=w.drawn+1}:=fm.ez (hs.ij hb).2;have hlen:(l.take m).length=m:=by simp;omega
 refine wp_region_any T.mixed ?_;have X:l.toArray.size=(l.take m).length+(l.drop m).length:=by simp;omega
 rw[X];have ad:gU .any l.toArray (Array.replicate ((l.take m).length+(l.drop m).length) false):=fun j oj _ hl _ _ _=>by
  by_cases q:j<(l.take m).length+(l.drop m).length
  ·simp only[Array.getD_eq_getD_getElem?,Array.getElem?_replicate]at hl
   rw[if_pos q]at hl;cases hl
  ·simp only[Array.getD_eq_getD_getElem?,Array.getElem?_replicate]at hl
   rw[if_neg q]at hl;cases hl
 refine nD (m:=m) (Sm:=Jg C n S I) (Y:=YD P T C n S l.toArray) (ef:=Bo S l.toArray) (Q:=fun N=>∃f',(∀t,look f' t=N.1 t)∧N.2=(S.cs.length,true)∧WO P C n l.toArray Q (l.drop m) ⟨f',S.bxT S.cs.length,S.lv S.cs.length,S.gen S.cs.length⟩)
  (fun i e N act w K hs hy hk=>JP I (fun h=>(hok h).1) i e N act w K (fun c act w J hd⟨st,hs⟩=>⟨hd,st,hs,hR c st J⟩) hs hy hk) (fun listed N act w hs J O⟨f',e1,e2,hq⟩=>?_) _ _ (look f,0,I) ⟨tmps,C.ds⟩ _ ⟨fun h=>h,rfl,G,aj,fun h=>(hok h).2.at⟩ ad ?_
 ·obtain⟨tmps,b2⟩:=act
  obtain⟨_,rfl,G,hs,_⟩:=hs;rw[e2]at hs;refine mD hw (nI U) (l.drop m) m listed ⟨tmps,C.ds⟩ w (χ _) (by simp;omega) (fun j=>by simp[List.getElem?_drop]) J O.1 O.2.1 O.2.2 ?_;exact hq tmps w ⟨G,hs.lV (fun t a ha=>by rw[<-e1];exact ha)⟩
 ·refine Ad hw (fun i j oi oj hi hj a1 b3 b4 a6 a7=>KR (tF ai) hi hj a1 a6 a7) (l.take m) 0 _ _ (by rw[hlen];omega) (fun j hj=>?_) ad (by simp;omega) (fun j hj=>by omega) (fun j _ hj=>?_) (by rw[hlen];rw[X,hlen]at M;exact M) h
  ·rw[hlen]at hj
   rw[Nat.zero_add];simp[List.getElem?_take,hj]
  ·have a8:j<l.length:=by simpa using hj
   have e:min m l.length+(l.length-m)=l.length:=by omega
   simp[e,a8]
variable{op:Op}{pos:String}{af:Array Edge}{rest:List Oper}{Q:St→Prop}{b:Bool}
theorem ar(h:Q ⟨f,S.bxT S.cs.length,S.lv S.cs.length,S.gen S.cs.length⟩)(I:Nat.beq k S.cs.length=true):CD P T C n S ops Q [] i f k true:=by have:=Γ I;subst this;exact⟨f,fun _=>rfl,rfl,h⟩
def Ao(p:Nat->Bool->Prop):Nat->Prop
 |0=>p 0 false∧p 0 true
 |k+1=>p (k+1) false∧p (k+1) true∧Ao p k
theorem Ao.at{p}:∀{m:Nat},Ao p m->∀k b,k<=m->p k b
 |0,h,k,b,I=>by
   obtain rfl:k=0:=by omega
   cases b;·exact h.1
   ·exact h.2
 |m+1,h,k,b,I=>by
   rcases Nat.lt_or_ge k (m+1)with J|M
   ·exact h.2.2.at k b (by omega)
   ·obtain rfl:k=m+1:=by omega
    cases b;·exact h.1
    ·exact h.2.1
def zo(x:Nat)(l:List Nat):Bool:=l.any fun y=>Nat.beq x y
theorem zy{x l}(h:zo x l=false):x∉l:=fun hm=>by have:zo x l=true:=F'.2 ⟨x,hm,by simp⟩;grind
theorem wO(hp:Ao (fun k b=>iK S ops i k b=true->Pu P C n ⟨dk f (slotsOf op),S.bx k b,S.lv k,S.gen k⟩ ⟨some d,op,ty,pos,af,none⟩ a∧(b=false->cT (S.ord k) a=a)) S.cs.length)(hi:ops[i]?=some ⟨some d,op,ty,pos,af,none⟩)(h1:zo i S.cs=false)(h2:Nat.beq i S.al=false)(h3:(Nat.ble k S.cs.length&&iK S ops i k b)=true)(hd:Nat.blt d n=true)(h:CD P T C n S ops Q rest (i+1) ((d,a)::f) k b):CD P T C n S ops Q (⟨some d,op,ty,pos,af,none⟩::rest) i f k b:=by
 simp only[μ]at h3;have I:=zy h1;have J:i≠S.al:=fun e=>by subst e;simp at h2
 refine⟨a,⟨_,hi,hd,κ h3.1,h3.2,.inr (.inr ⟨I,J,fun k b M N=>⟨YA.pw (hp.at k b M N).1 hd,(hp.at k b M N).2⟩⟩)⟩,?_⟩;rw[kL hi];simp only[if_neg J,if_neg (fun e=>I (ζ e):¬S.cs[k]?=some i)];grind[CD,fg]
theorem bL(h0:Pu P C n ⟨dk f (slotsOf op),S.bx k b,S.lv k,S.gen k⟩ ⟨some d,op,ty,pos,af,none⟩ a)(hp:Ao (fun k b=>iK S ops i k b=true->Pu P C n ⟨dk f (slotsOf op),S.bx k b,S.lv k,S.gen k⟩ ⟨some d,op,ty,pos,af,none⟩ a∧(b=false->cT (S.ord k) a=a)) S.cs.length)(hi:ops[i]?=some ⟨some d,op,ty,pos,af,none⟩)(h1:zo i S.cs=false)(h2:Nat.beq i S.al=false)(h3:(Nat.ble k S.cs.length&&iK S ops i k b)=true)(hd:Nat.blt d n=true)(h:CD P T C n S ops Q rest (i+1) ((d,a)::f) k b):CD P T C n S ops Q (⟨some d,op,ty,pos,af,none⟩::rest) i f k b:=wO hp hi h1 h2 h3 hd h
theorem Kn(I:∀b,iK S ops i k b=true->∀g,WO P C n ops (fun e st=>e=.normal∧st=⟨dk f (slotsOf op)++g,S.bx (k+1) b,S.lv (k+1),S.gen (k+1)⟩) [⟨none,op,ty,pos,af,none⟩] ⟨dk f (slotsOf op)++g,S.bx k b,S.lv k,S.gen k⟩)(hi:ops[i]?=some ⟨none,op,ty,pos,af,none⟩)(h1:S.cs[k]?=some i)(h2:Nat.beq i S.al=false)(h3:iK S ops i k b=true)(h:CD P T C n S ops Q rest (i+1) f (k+1) b):CD P T C n S ops Q (⟨none,op,ty,pos,af,none⟩::rest) i f k b:=by
 have J:i≠S.al:=fun e=>by subst e;simp at h2
 refine⟨.any,⟨_,hi,rfl,Nat.le_of_lt (δ.1 h1).1,h3,.inl ⟨h1,J,fun b hb=>⟨rfl,dk f (slotsOf op),fun t x I=>?_,fun g=>WO.Cj Z (fun e st h=>by rw[h.1];simp) (fun e st h=>.inl h) (I b hb g)⟩,fun _=>rfl⟩⟩,?_⟩
 ·obtain⟨h1,h2⟩:=fA I
  exact⟨h1,D'.2 (.inl h2)⟩
 ·rw[kL hi]
  simp only[if_neg J,if_pos h1];exact h
theorem zp(I:∀b,iK S ops i k b=true->∀g,WO P C n ops (fun e st=>e=.normal∧st=⟨(d,a)::(dk f (slotsOf op)++g),S.bx (k+1) b,S.lv (k+1),S.gen (k+1)⟩) [⟨some d,op,ty,pos,af,none⟩] ⟨dk f (slotsOf op)++g,S.bx k b,S.lv k,S.gen k⟩)(hi:ops[i]?=some ⟨some d,op,ty,pos,af,none⟩)(h1:S.cs[k]?=some i)(h2:Nat.beq i S.al=false)(h3:iK S ops i k b=true)(J:iK S ops i k false=true->cT (S.ord (k+1)) a=a)(hd:Nat.blt d n=true)(h:CD P T C n S ops Q rest (i+1) ((d,a)::f) (k+1) b):CD P T C n S ops Q (⟨some d,op,ty,pos,af,none⟩::rest) i f k b:=by
 have M:i≠S.al:=fun e=>by subst e;simp at h2
 refine⟨a,⟨_,hi,hd,Nat.le_of_lt (δ.1 h1).1,h3,.inl ⟨h1,M,fun b hb=>⟨rfl,dk f (slotsOf op),fun t x I=>?_,fun g=>WO.Cj Z (fun e st h=>by rw[h.1];simp) (fun e st h=>.inl h) (I b hb g)⟩,J⟩⟩,?_⟩
 ·obtain⟨h1,h2⟩:=fA I
  exact⟨h1,D'.2 (.inl h2)⟩
 ·rw[kL hi]
  grind[CD,fg]
theorem LH{e}{I:cV}(he:bh T.l e=some I)(N:S.z=I.z.map fun v=>A.d (.v v))(hi:ops[i]?=some ⟨some d,.alloc e,ty,pos,af,none⟩)(h1:zo i S.cs=false)(h2:Nat.beq i S.al=true)(h3:(Nat.ble k S.cs.length&&iK S ops i k false)=true)(hd:Nat.blt d n=true)(h:CD P T C n S ops Q rest (i+1) ((d,.ptr S.g0 0)::f) k true):CD P T C n S ops Q (⟨some d,.alloc e,ty,pos,af,none⟩::rest) i f k false:=by
 simp only[μ]at h3;have J:=zy h1;have M:i=S.al:=Γ h2;refine⟨.ptr S.g0 0,⟨_,hi,hd,κ h3.1,h3.2,.inr (.inl ⟨J,M,rfl,rfl,rfl,e,d,I,rfl,rfl,he,N⟩)⟩,?_⟩;rw[kL hi];simp only[if_pos M,if_neg (fun e=>J (ζ e):¬S.cs[k]?=some i)];grind[CD,fg]
theorem W.ko(T:cG P){N:Nat}[hnb:NB C N]{id:Nat}{l l1 l2:List Oper}{f:List (Nat×A)}{bx:List (Nat×List A)}{lv:List Nat}{gen:Nat}{Q:Exit->St->Prop}(fu:List (List (Nat×List A)))(J:List (List Nat))(I:List Nat)(cs:List Nat)(m:Nat)(hB:gh m l.toArray=true)(M:lI l.toArray cs=true)(h1:l.take m=l1)(h2:l.drop m=l2)
 (h:CD P T C n (GP (bx::fu) (lv::J) (gen::I) cs l.length) l.toArray (WO P C n l.toArray Q l2) l1 0 f 0 true):W P C n (.region id l.toArray true) Q ⟨f,bx,lv,gen⟩:=
 W.pK T (GP (bx::fu) (lv::J) (gen::I) cs l.length) true m hB M h1 h2 (fun _ _ h=>h.elim) (fun h=>by cases h) (fun _ _ h=>h) rfl (by show Nat.ble gen gen=true;simp) h
abbrev bot:A:=.d (.v (.agg #[]))
theorem Kh{v}(h:bK E v bot):False:=by cases h with|d h=>cases h with|v _ h=>exact absurd h (by simp[dy])
theorem GJ{P:Program}{C:Ctx}{n:Nat}{ops:Array Oper}{Q:Exit->St->Prop}{l:List Oper}{st:St}(d:Nat)(h:look st.f d=some bot):WO P C n ops Q l st:=fun _ _⟨_,hs⟩=>by obtain⟨v,_,I⟩:=hs.frame d bot h;grind[Kh]
theorem W.Bb(T:cG P){N:Nat}[hnb:NB C N]{id:Nat}{l l1 l2:List Oper}{f:List (Nat×A)}{bx:List (Nat×List A)}{lv:List Nat}{gen:Nat}{Q:Exit->St->Prop}(v:Value)(fu:List (List (Nat×List A)))(J:List (List Nat))(I:List Nat)(cs:List Nat)(m:Nat)(hB:gh m l.toArray=true)(M:lI l.toArray cs=true)(h1:l.take m=l1)(h2:l.drop m=l2)
 (O:∀st,Q (.panic [{v:=v,recovered:=false}]) st)(h:CD P T C n (C0 (bx::fu) (lv::J) (gen::I) cs l.length v) l.toArray (WO P C n l.toArray Q l2) l1 0 f 0 true):W P C n (.region id l.toArray true) Q ⟨f,bx,lv,gen⟩:=
 W.pK T (C0 (bx::fu) (lv::J) (gen::I) cs l.length v) true m hB M h1 h2 (fun c st h=>by rw[show c=_ from h];exact O st) (fun h=>by cases h) (fun _ _ h=>h) rfl (by show Nat.ble gen gen=true;simp) h
theorem K6(I:∀b,iK S ops i k b=true->∀g,WO P C n ops (fun e _=>∃c,e=.panic c∧S.R c) [⟨some d,op,ty,pos,af,none⟩] ⟨dk f (slotsOf op)++g,S.bx k b,S.lv k,S.gen k⟩)(hi:ops[i]?=some ⟨some d,op,ty,pos,af,none⟩)(h1:S.cs[k]?=some i)(h2:Nat.beq i S.al=false)(h3:iK S ops i k b=true)(hd:Nat.blt d n=true)(h:CD P T C n S ops Q rest (i+1) ((d,bot)::f) (k+1) b):CD P T C n S ops Q (⟨some d,op,ty,pos,af,none⟩::rest) i f k b:=by
 have J:i≠S.al:=fun e=>by subst e;simp at h2
 refine⟨bot,⟨_,hi,hd,Nat.le_of_lt (δ.1 h1).1,h3,.inl ⟨h1,J,fun b hb=>⟨rfl,dk f (slotsOf op),fun t x I=>?_,fun g=>WO.Cj Z (fun e st⟨c,h,_⟩=>by rw[h];simp) (fun e st h=>.inr h) (I b hb g)⟩,fun _=>rfl⟩⟩,?_⟩
 ·obtain⟨h1,h2⟩:=fA I
  exact⟨h1,D'.2 (.inl h2)⟩
 ·rw[kL hi]
  grind[CD,fg]
theorem Jm(t:Nat)(I:look (dk f (slotsOf op)) t=some bot)
 (hi:ops[i]?=some ⟨some d,op,ty,pos,af,none⟩)(h1:S.cs[k]?=some i)(h2:Nat.beq i S.al=false)(h3:iK S ops i k b=true)(hd:Nat.blt d n=true)(h:CD P T C n S ops Q rest (i+1) ((d,bot)::f) (k+1) b):CD P T C n S ops Q (⟨some d,op,ty,pos,af,none⟩::rest) i f k b:=by
 have J:i≠S.al:=fun e=>by subst e;simp at h2
 refine⟨bot,⟨_,hi,hd,Nat.le_of_lt (δ.1 h1).1,h3,.inl ⟨h1,J,fun b hb=>⟨rfl,dk f (slotsOf op),fun t x M=>?_,fun g=>GJ t ?_⟩,fun _=>rfl⟩⟩,?_⟩
 ·obtain⟨h1,h2⟩:=fA M
  exact⟨h1,D'.2 (.inl h2)⟩
 ·show look (dk f (slotsOf op)++g) t=some bot
  rw[qM,I]
 ·rw[kL hi]
  grind[CD,fg]
end
theorem wY{e I:Exit}{bx bx':List (Nat×List A)}(he:e=I)(J:a=a')(hb:bx=bx')(hl:lv=lv')(M:gen=gen'):
 e=I∧(⟨(d,a)::f,bx,lv,gen⟩:St)=⟨(d,a')::f,bx',lv',gen'⟩:=by subst he J hb hl M;exact⟨rfl,rfl⟩
theorem JC{e I:Exit}{bx bx':List (Nat×List A)}(he:e=I)(hb:bx=bx')(hl:lv=lv')(J:gen=gen'):
 e=I∧(⟨f,bx,lv,gen⟩:St)=⟨f,bx',lv',gen'⟩:=by subst he hb hl J;exact⟨rfl,rfl⟩
def zU(es:List (List D))(k:Nat):List A:=es.flatten.map A.d++List.replicate k .any
section
variable{n:Nat}
theorem qI:∀{es:List (List D)},(∀(e:List D),e∈es->e.length=sz)->es.flatten.length=es.length*sz
 |[],_=>by simp
 |e::es,h=>by rw[List.flatten_cons,υ,qI (fun x I=>h x (ω _ I)),h e Ψ,Ξ,Nat.succ_mul,Nat.add_comm]
theorem bq.JK(h:bq C n st G tmps w){len}(hg:G.own g=some (.blk b len cap sz 0)){v}(hx:gW w (cf C G) (.blk b len cap sz 0) v es)(lv)(b4:∀J∈lv,J∈st.lv∧J≠g):
 ∃N,bq C n ⟨st.f,(st.gen,zU es (cap*sz-len*sz))::st.bx,lv,st.gen+1⟩ N tmps w∧bK (bu C N (st.gen+1) w) v (.sb st.gen es.length cap):=by
 obtain⟨rfl,hlen,_,hl,hr⟩:=hx;obtain⟨cq,c7,cx,cur,T,U,df,a6,b5,hz,cy,_,hone⟩:=h.row g b len cap sz 0 hg;let N:Gh:=⟨fun x=>if x=st.gen then some b else G.box x,fun x=>if x=g then none else G.own x⟩;have di:=h.gown g _ hg;have c1:b<w.heap.size:=(θ.1 U).1;have b6:∀M o,cf C N M o->cf C G M o:=by
  rintro M o (hp|⟨J,hp⟩|⟨J,X,ad,aj,ai,hp,hl'⟩|⟨J,b2,bs,lim,hp,hm,hl'⟩);·exact .inl hp
  ·simp only[N]at hp
   split at hp
   ·simp only[Option.some.injEq]at hp
    subst hp;exact .inr (.inr (.inl ⟨g,len,cap,sz,0,hg,ς _⟩))
   ·exact .inr (.inl ⟨J,hp⟩)
  ·simp only[N]at hp
   split at hp;·grind
   ·exact .inr (.inr (.inl ⟨J,X,ad,aj,ai,hp,hl'⟩))
  ·simp only[N]at hp
   split at hp;·grind
   ·exact .inr (.inr (.inr ⟨J,b2,bs,lim,hp,hm,hl'⟩))
 have hle:(bu C G st.gen w).le (bu C N (st.gen+1) w):=l5 h.fr h.fr (fun b o u hu hn=>⟨hu,fun hp=>hn (b6 b o hp)⟩) (fun J M O=>by
  simp only[N];rw[if_neg (X' (h.gbox J M O).1)];exact O)
  (fun J r' a7 I=>by
   simp only[N]at I;split at I;·cases I
   ·exact I) (Nat.le_succ _) (fun _ _ _ _ _ _ _ _=>rfl) (fun _ _ _ _ _=>⟨fun _ _=>rfl,fun _ _=>rfl⟩) (.refl w)
 have a8:=qI hl;have c6:len*sz<=cap*sz:=Nat.mul_le_mul_right _ a6;refine⟨N,{size:=h.size,frame:=h.fz hle,xold:=h.xold,kold:=h.kold,fr:=h.fr,gcell:=fun J M O=>(by simp only[N]at O;split at O<;>first|(simp only[Option.some.injEq]at O;subst O;exact⟨_,_,_,U⟩)|exact h.gcell J M O),lent:=?_,box:=?_,gbox:=?_,inj:=?_,live:=?_,gown:=?_,row:=?_,mrow:=?_,sub:=?_},?_⟩
 ·intro J cells hc
  simp only[cZ]at hc;split at hc
  ·rename_i e
   simp only[Option.some.injEq]at hc;subst hc;subst e;refine⟨b,cur,T,by simp[N],U,?_,fun i u hu=>hone i u hu,fun i u a hu ha=>?_⟩;·simp only[zU,υ,η,List.length_replicate,a8,hlen];omega
   ·unfold zU at ha
    rcases Nat.lt_or_ge i es.flatten.length with hi|hi
    ·rw[Ω (by rw[η];exact hi),τ,ν]at ha
     obtain⟨d,hd,rfl⟩:=ha;have ch:i<len*sz:=by rw[<-hlen,←a8];exact hi
     have hdiv:i/sz<es.length:=by rw[hlen];exact Nat.div_lt_of_lt_mul (by rw[Nat.mul_comm];exact ch)
     have he:es[i/sz]?=some es[i/sz]:=by simp[hdiv]
     have cj:=hl _ (ζ he);have b0:es[i/sz][i%sz]?=some (es[i/sz][i%sz]'(by rw[cj];exact Nat.mod_lt _ hz)):=by simp
     have b3:=pD hl _ _ _ _ he b0;rw[Nat.div_add_mod' i sz,hd]at b3;obtain⟨u',a1,cl⟩:=hr _ _ _ _ he b0;rw[Nat.div_add_mod' i sz,cP U]at a1;rw[hu]at a1;cases a1;rw[J' b3];exact .d (cl.mono hle.cell)
    ·rw[Θ (by rw[η];exact hi)]at ha
     have:=List.eq_of_mem_replicate (ζ ha);subst this;exact .any _
  ·obtain⟨M,cs,T',h1,h2,h3,h4,h5⟩:=h.box J cells hc
   exact⟨M,cs,T',by simp only[N];rw[if_neg (X' (h.gbox J M h1).1)];exact h1,h2,h3,h4,fun i u a hu ha=>(h5 i u a hu ha).mono hle⟩
 ·intro J M hb
  simp only[N]at hb;split at hb;·grind
  ·obtain⟨h1,h2⟩:=h.gbox J M hb
   grind
 ·intro g1 g2 M h1 h2
  simp only[N]at h1 h2;split at h1<;>split at h2;·grind
  ·grind
  ·grind
  ·exact h.inj g1 g2 M h1 h2
 ·intro J a7
  obtain⟨h1,h2⟩:=b4 J a7;obtain⟨r',I⟩:=h.live J h1;grind
 ·intro J r' I
  simp only[N]at I;split at I;·grind
  ·exact Z' (h.gown J r' I)
 ·intro J M X ad aj ai I
  simp only[N]at I;split at I;·grind
  ·rename_i e2
   obtain⟨h4,h5,h6,h7⟩:=h.row J M X ad aj ai I;grind
 ·intro J M bs I
  simp only[N]at I;split at I;·grind
  ·obtain⟨h4,dj,h5,me,clock,h6⟩:=h.mrow J M bs I
   grind
 ·intro J M bs c lim I hm
  simp only[N]at I;split at I;·grind
  ·obtain⟨h4,h5,h6,h7,h8⟩:=h.sub J M bs c lim I hm
   grind
 ·intro i M hb
  have h1:=h.lent i M hb;simp only[N];rw[if_neg (X' (h.gbox i M h1).1)];grind
 ·exact .sb _ st.gen es.length cap b (Nat.lt_succ_self _) (by simp[bu,N]) (by rw[hlen];exact⟨a6,b5⟩) (by rw[hlen])
end
mutual
def jd(g:Nat):A->Bool
 |.ptr I _=>!Nat.beq I g
 |.np I _ _=>!Nat.beq I g
 |.sb I _ _=>!Nat.beq I g
 |.lk I _ _ _=>!Nat.beq I g
 |.agg l=>oB g l
 |.tup l=>oB g l
 |.row l=>oB g l
 |.clo _ l=>oB g l
 |.bnd _ l=>oB g l
 |_=>true
def oB(g:Nat):List A->Bool
 |[]=>true
 |a::l=>jd g a&&oB g l
end
theorem gz:∀{l:List A},oB g l=true->∀a∈l,jd g a=true
 |[],_,a,I=>by cases I
 |b::l,h,a,I=>by
   simp only[oB,μ]at h
   cases I with
   |head=>exact h.1
   |tail _ I=>exact gz h.2 a I
theorem aL(hw:E.w=E'.w)(hc:∀b o u,cellAt E.w b o=some u->¬E.pv b o->cellAt E'.w b o=some u∧¬E'.pv b o)(hold:∀b,E.old b->E'.old b)(hb:∀M b,M≠g->E.box M=some b->E'.box M=some b)(ho:E'.own=E.own)(U:E'.gen=E.gen){v}(h:bK E v a)(ha:jd g a=true):bK E' v a:=by
 have aj:∀{M},(!Nat.beq M g)=true->M≠g:=fun h e=>by subst e;simp at h
 have X:∀b o u,cellAt E.w b o=some u->¬E.pv b o->cellAt E.w b o=some u∧¬E'.pv b o:=fun b o u h1 h2=>⟨h1,(hc b o u h1 h2).2⟩
 induction h with
 |any x=>exact .any x
 |d hd=>exact .d (hd.mono hc)
 |ag vs l hs hd=>exact .ag vs l hs (fun i u x h1 h2=>(hd i u x h1 h2).mono hc)
 |own x M es hd J hr=>exact .own x M es (hd.mono hc) (by rw[U];exact J) (fun r N=>hr r (by rw[<-ho];exact N))
 |agg vs l hs hone _ ih=>exact .agg vs l hs hone (fun i u x hu O=>ih i u x hu O (gz (by simpa[jd]using ha) x (ζ O)))
 |tup vs l hs _ ih=>exact .tup vs l hs (fun i u x hu O=>ih i u x hu O (gz (by simpa[jd]using ha) x (ζ O)))
 |rowd b off l u ai hd=>exact .rowd b off l u (fun j hj=>hc _ _ _ (ai j hj).1 (ai j hj).2) (fun j x O=>(hd j x O).mono hc)
 |row b off l u ai _ ih=>exact .row b off l u (fun j hj=>⟨by rw[<-hw];exact(ai j hj).1,hold _ (ai j hj).2.1,(ai j hj).2.2⟩) (fun j x O=>ih j x O (gz (by simpa[jd]using ha) x (ζ O)))
 |ptr x M off b J ad hp=>exact .ptr x M off b (by rw[U];exact J) (hb M b (aj (by simpa[jd]using ha)) ad) hp
 |xs x M es J h1 O=>exact .xs x M es (by rw[U];exact J) h1 (fun r N=>hw▸(O r (by rw[<-ho];exact N)).ek X)
 |xp x M i off l J h1 O=>exact .xp x M i off l (by rw[U];exact J) h1 (fun r N=>hw▸(O r (by rw[<-ho];exact N)).ek X)
 |mp x M es J h1 O=>exact .mp x M es (by rw[U];exact J) h1 (fun r N=>hw▸(O r (by rw[<-ho];exact N)).ek X)
 |mq x M es J h1 O=>exact .mq x M es (by rw[U];exact J) h1 (fun r N=>hw▸(O r (by rw[<-ho];exact N)).ek X)
 |mo x M es hole ob J h1 O=>exact .mo x M es hole ob (by rw[U];exact J) h1 (fun r N=>hw▸(O r (by rw[<-ho];exact N)).ek X)
 |ni t x=>exact .ni t x
 |fl x es hd a1=>exact .fl x es (hd.mono hc) a1
 |bf x M T s J h1 O=>exact .bf x M T s (by rw[U];exact J) h1 (fun r N=>hw▸O r (by rw[<-ho];exact N))
 |np x M T b J ad hT u hp=>exact .np x M T b (by rw[U];exact J) (hb M b (aj (by simpa[jd]using ha)) ad) (hw▸hT) u hp
 |sb x M n c b J ad hn hp=>exact .sb x M n c b (by rw[U];exact J) (hb M b (aj (by simpa[jd]using ha)) ad) hn hp
 |fx x u M es ou O J hu a6=>exact .fx x u M es ou (O.mono hc) (by rw[U];exact J) (fun r N=>hw▸(hu r (by rw[<-ho];exact N)).ek X) a6
 |ol x u g1 E1 M es O a7 a8 J hu=>exact .ol x u g1 E1 M es (O.mono hc) (by rw[U];exact a7) (fun r N=>a8 r (by rw[<-ho];exact N)) (by rw[U];exact J) (fun r N=>hw▸(hu r (by rw[<-ho];exact N)).ek X)
 |gi x M I J O=>exact .gi x M I (by rw[U];exact J) (fun r N=>hw▸(O r (by rw[<-ho];exact N)).ek X)
 |ow x v M es hd J hr=>exact .ow x v M es (hd.mono hc) (by rw[U];exact J) (fun r N=>hr r (by rw[<-ho];exact N))
 |lk x M n c b v J ad hn hp=>exact .lk x M n c b v (by rw[U];exact J) (hb M b (aj (by simpa[jd]using ha)) ad) hn hp
 |clo f vs l hs _ ih=>exact .clo f vs l hs (fun i u x hu O=>ih i u x hu O (gz (by simpa[jd]using ha) x (ζ O)))
 |bnd f vs l hs _ ih=>exact .bnd f vs l hs (fun i u x hu O=>ih i u x hu O (gz (by simpa[jd]using ha) x (ζ O)))
def lB(g:Nat):List Nat->List (Nat×A)->List (Nat×A)
 |_,[]=>[]
 |seen,(s,a)::r=>bif seen.any (Nat.beq s)then lB g seen r else bif jd g a then(s,a)::lB g (s::seen) r else lB g (s::seen) r
theorem mN:∀{f:List (Nat×A)}{seen:List Nat}{t:Nat}{a:A},look (lB g seen f) t=some a->look f t=some a∧jd g a=true∧t∉seen
 |[],_,t,a,h=>by simp[lB,look]at h
 |(s,b)::r,seen,t,a,h=>by
   simp only[lB]at h
   cases q:seen.any (Nat.beq s)with
   |true=>rw[q]at h;simp only[cond_true]at h;obtain⟨h1,h2,h3⟩:=mN h;grind[List.any_eq_true,Nat.eq_of_beq_eq_true,ct]
   |false=>
     rw[q]at h;simp only[cond_false]at h;have hm:s∉seen:=fun hm=>by have:seen.any (Nat.beq s)=true:=F'.2 ⟨s,hm,by simp⟩;grind
     cases q2:jd g b with
     |true=>
       rw[q2]at h;simp only[cond_true]at h;rw[ct]at h;split at h;·grind[ct]
       ·rename_i e
        obtain⟨h1,h2,h3⟩:=mN h;grind[ct,List.mem_cons_of_mem]
     |false=>rw[q2]at h;simp only[cond_false]at h;obtain⟨h1,h2,h3⟩:=mN h;grind[ct,List.mem_cons_self,List.mem_cons_of_mem]
def lQ(g:Nat):List Nat->List (Nat×List A)->Option (List (Nat×List A))
 |_,[]=>some []
 |seen,(s,c)::r=>bif seen.any (Nat.beq s)then lQ g seen r else bif Nat.beq s g then lQ g (s::seen) r else bif oB g c then(match lQ g (s::seen) r with|some l=>some ((s,c)::l)|none=>none)else none
theorem kG{f s}{a:α}:bh ((s,a)::f) t=if s=t then some a else bh f t:=by rw[cZ]
theorem mT:∀{f f':List (Nat×List A)}{seen:List Nat}{t:Nat}{a:List A},lQ g seen f=some f'->bh f' t=some a->bh f t=some a∧oB g a=true∧t≠g∧t∉seen
 |[],f',_,t,a,I,h=>by simp[lQ]at I;subst I;simp[bh]at h
 |(s,b)::r,f',seen,t,a,I,h=>by
   simp only[lQ]at I
   cases q:seen.any (Nat.beq s)with
   |true=>rw[q]at I;simp only[cond_true]at I;obtain⟨h1,h2,h3,h4⟩:=mT I h;grind[List.any_eq_true,Nat.eq_of_beq_eq_true,kG]
   |false=>
     rw[q]at I;simp only[cond_false]at I;have hm:s∉seen:=fun hm=>by have:seen.any (Nat.beq s)=true:=F'.2 ⟨s,hm,by simp⟩;grind
     cases q1:Nat.beq s g with
     |true=>rw[q1]at I;simp only[cond_true]at I;obtain⟨h1,h2,h3,h4⟩:=mT I h;grind[kG,List.mem_cons_self,List.mem_cons_of_mem]
     |false=>
       rw[q1]at I;simp only[cond_false]at I
       cases q2:oB g b with
       |false=>rw[q2]at I;cases I
       |true=>
         rw[q2]at I;simp only[cond_true]at I;split at I
         ·rename_i l hl
          simp only[Option.some.injEq]at I;subst I;rw[kG]at h;split at h
          ·rename_i e
           subst e;cases h;exact⟨by rw[kG,if_pos rfl],q2,fun e=>by subst e;simp at q1,hm⟩
          ·rename_i e
           obtain⟨h1,h2,h3,h4⟩:=mT hl h;grind[kG,List.mem_cons_of_mem]
         ·grind
section
variable(T:cG P){n:Nat}{rest:List Oper}
variable{bx:List (Nat×List A)}{op:Op}{pos:String}{af:Array Edge}{c:Code}
theorem gW.same{r v J M}(h:gW w pv r v es)(I:gW w pv r J M):v=J:=by
 cases r with
 |nil=>exact h.1.trans I.1.symm
 |zero b=>exact h.1.trans I.1.symm
 |blk b len cap sz N=>exact h.1.trans I.1.symm
 |mp b bs=>exact h.elim
end
def pO(f:List (Nat×A)):Option Operand->Option Int
 |none=>some 0
 |some x=>match av f x with|some (.d (.v (.int _ v)))=>some v|_=>none
def Dz(f:List (Nat×A))(len:Nat):Option Operand->Option Int
 |none=>some (len:Int)
 |some x=>match av f x with|some (.d (.v (.int _ v)))=>some v|_=>none
theorem bN.sub {v} (h:bN w pv v (.sl es)) (hij:i≤j) (hj:j≤es.length) (hsz:∀ e∈es,e.length=sz):
    ∃ a cap,v=.slice a es.length cap∧es.length≤cap∧bN w pv (sliced a i j cap sz) (.sl ((es.take j).drop i)):=by
  cases h with
  | nil=>
    have e1:j=0:=by simpa using hj
    subst e1
    have e2:i=0:=by omega
    subst e2
    exact⟨none,0,rfl,χ _,.nil⟩
  | emp a cap hm=>
    have e1:j=0:=by simpa using hj
    subst e1
    have e2:i=0:=by omega
    subst e2
    refine⟨some a,cap,rfl,ς _,?_⟩
    simp only[sliced,List.take_zero,List.drop_zero,Nat.sub_zero]
    split
    · exact .emp a cap hm
    · exact .emp _ cap hm
  | sl b off len cap sz' es u hl hc hm hs hu hr=>
    refine⟨_,cap,by rw[hl],by omega,?_⟩
    rcases Nat.eq_or_lt_of_le hij with e | hlt
    · subst e
      rw[show(es.take i).drop i=[] from List.drop_eq_nil_of_le (List.length_take_le _ _)]
      simp only[sliced,Nat.sub_self]
      split
      · exact .emp _ _ (by omega)
      · exact .emp _ _ (by omega)
    · have e:sz'=sz:=by
        obtain⟨x,hx⟩:∃ x,es[0]? = some x:=⟨es[0]'(by omega),by simp⟩
        grind
      subst e
      have hne:cap≠i:=by omega
      have ha:∀ (k:Nat) (x:List D),((es.take j).drop i)[k]? = some x→es[i+k]? = some x∧k < j - i:=fun k x hk=>by
        grind
      simp only[sliced,if_neg hne,Option.map_some]
      rw[show(Addr.add ⟨b,off,none⟩ (i*sz'))=⟨b,off+i*sz',none⟩ from by simp[Addr.add]]
      refine .sl b (off+i*sz') (j - i) (cap - i) sz' _ (fun k c=>u (i+k) c) ?_ (by omega) (by omega) (fun k x hk=>hs _ x (ha k x hk).1) (fun k c hk hc'=>?_) (fun k c x d hk hd=>hr _ c x d (ha k x hk).1 hd)
      · grind
      · grind
section
variable(T:cG P){n:Nat}
variable{bx:List (Nat×List A)}{pos:String}{af:Array Edge}
theorem Dk (b) {lo hi:Option Operand} {len} {i j:Int} (hs:bq C n ⟨f,bx,lv,gen⟩ G tmps w) (hlo:pO f lo=some i) (hhi:Dz f len hi=some j) (h0:0≤i) (hij:i≤j) (hj:j≤len) (hc:len≤cap):
    (Instr.sliceBounds b len cap (lo.map (Act.eval ⟨tmps,[]⟩)) (hi.map (Act.eval ⟨tmps,[]⟩)) none).run P w=.ok (i.toNat,j.toNat,cap) w:=by
  have ev:∀ (x:Operand) (v:Int),(match av f x with | some (.d (.v (.int _ v)))=>some v | _=>none)=some v→∃ k,Act.eval ⟨tmps,[]⟩ x=.int k v:=fun x v h=>by
    split at h
    · rename_i k v' hav
      simp only[Option.some.injEq] at h
      subst h
      have hr:=hs.av hav
      generalize Act.eval ⟨tmps,[]⟩ x=y at hr
      cases hr with | d hr=>cases hr with | v _ _=>exact⟨k,rfl⟩
    · grind
  have ehj:(j.toNat:Int)=j:=Int.toNat_of_nonneg (by omega)
  have hh:((match hi.map (Act.eval ⟨tmps,[]⟩) with | some v=>Instr.sliceBound v cap (if b then .sliceAcap else .sliceAlen) | none=>pure len:Sem Nat)).run P w=.ok j.toNat w:=by
    cases hi with
    | none=>
      simp only[Dz,Option.some.injEq] at hhi
      subst hhi
      simp
    | some x=>
      obtain⟨k,e⟩:=ev x j hhi
      simp only[Option.map_some,e]
      exact run_sliceBound w k j cap _ (by omega) (by omega)
  have hl:((match lo.map (Act.eval ⟨tmps,[]⟩) with | some v=>Instr.sliceBound v j.toNat (if (none:Option Value).isSome then .slice3C else .sliceB) | none=>pure 0:Sem Nat)).run P w=.ok i.toNat w:=by
    cases lo with
    | none=>
      simp only[pO,Option.some.injEq] at hlo
      subst hlo
      simp
    | some x=>
      obtain⟨k,e⟩:=ev x i hlo
      simp only[Option.map_some,e]
      exact run_sliceBound w k i j.toNat _ (by omega) (by omega)
  unfold Instr.sliceBounds
  cases hi with
  | none=>
    cases lo with
    | none=>
      simp_all
    | some x=>
      simp_all
  | some y=>
    cases lo with
    | none=>
      simp_all
    | some x=>
      simp_all
theorem vo{fn:α->List D}{lo hi}{M:cV}{l r:List α}{i j:Int}(hx:av f x=some a)(U:jI a=some (l.map fn))(ht:bh T.l t=some td)(hk:td.k=.slice e)(he:bh T.l e=some M)(hn:∀x,(fn x).length=M.n)(X:pO f lo=some i)(ad:Dz f l.length hi=some j)(h0:0<=i)(ai:i<=j)(hj:j<=(l.length:Int))(hr:(l.take j.toNat).drop i.toNat=r):
 Pu P C n ⟨f,bx,lv,gen⟩ ⟨dst,.slice t x lo hi none,ty,pos,af,none⟩ (.d (.sl (r.map fn))):=by
 subst hr;refine aq fun G tmps w hs=>?_;have aj:=jv U (hs.av hx);obtain⟨a',cap,hv,I,J⟩:=aj.sub (i:=i.toNat) (j:=j.toNat) (sz:=M.n) (by omega) (by rw[η];omega) (fun y hy=>by obtain⟨z,_,rfl⟩:=R'.1 hy;exact hn z);rw[η]at hv I;have hu:=T.gN ht hk;have N:P.elem t=e:=by simp[Program.elem,hu]
 have O:P.underlying t=some (.slice (P.elem t)):=by rw[N];exact hu
 refine⟨sliced a' i.toNat j.toNat cap M.n,?_,.d (by rw[<-List.map_take,←List.map_drop]at J;exact J)⟩;unfold execOp;show Sem.run P _ w=_;simp only[Sem.run_bind,run_sliceAt_slice w t _ _ _ _ O,hv,run_slice_any w t a' l.length cap O,Option.map_none,Dk (P:=P) true hs X ad h0 ai hj I,Result.andThen_ok,N,T.sizeOf he];rfl
end
section
variable(T:cG P){n:Nat}{rest:List Oper}
variable{f':List (Nat×A)}{bx bx':List (Nat×List A)}{op:Op}{pos:String}{af:Array Edge}{c:Code}
theorem gW.slice{r v}(h:gW w pv r v es):∃a l c,v=.slice a l c:=by
 cases r with
 |nil=>exact⟨_,_,_,h.1⟩
 |zero b=>exact⟨_,_,_,h.1⟩
 |blk b len cap sz I=>exact⟨_,_,_,h.1⟩
 |mp b bs=>exact h.elim
theorem bq.fZ(hs:bq C n ⟨f,bx,lv,gen⟩ G tmps w){g0}(hb:bh bx g0=some cells)(hlen:cells'.length=cells.length)(J:∀b cs T,G.box g0=some b->w.heap[b]?=some (.cells cs T (0,0))->(∀(i:Nat)(x:Value)(a:A),cs[i]?=some x->cells[i]?=some a->bK (bu C G gen w) x a)->∀(i:Nat)(x:Value)(a:A),cs[i]?=some x->cells'[i]?=some a->bK (bu C G gen w) x a):
 bq C n ⟨f,(g0,cells')::bx,lv,gen⟩ G tmps w:=by
 refine{hs with box:=fun I l hl=>?_};simp only[cZ]at hl;split at hl
 ·rename_i e
  subst e;simp only[Option.some.injEq]at hl;subst hl;obtain⟨b,cs,M,h1,h2,h3,h4,h5⟩:=hs.box g0 cells hb;grind
 ·exact hs.box I l hl
end
section
variable(T:cG P){n:Nat}{rest:List Oper}
variable{bx:List (Nat×List A)}{pos:String}{af:Array Edge}
variable[DecidableEq α]{kf:α→Value}{vf:β→D}
theorem HE(gq M){m U}{l:List (α×β)}{a:α}{y:β}{xa}(hm:av f m=some (.mp g (eP kf vf l)))(hq:bh bx gq=some X)(hj:X[M]?=some (.mp g (eP kf vf l)))(hk:av f U=some (.d (.v (kf a))))(hx:av f x=some xa)(b5:B6 xa=some (vf y))(ht:bh T.l mt=some td)(b6:td.k=.map k e)(ch:lN P k kf)(ad:(lv.any fun h=>Nat.beq h g)=true)(hn:(l.map (·.1)).Nodup){ai}(cj:eP kf vf (dm l a y)=ai)(cl:gen::bR lv g=lv')(cx:X.set M (.mp gen ai)=cq')(h:WO P C n ops Q rest ⟨f,(gq,cq')::bx,lv',gen+1⟩):WO P C n ops Q (⟨none,.mapUpdate mt m U x,ty,pos,af,none⟩::rest) ⟨f,bx,lv,gen⟩:=by
 subst cx;subst cj;subst cl;refine WO.step (st:=⟨f,bx,lv,gen⟩) rfl fun tmps w⟨G,hs⟩=>?_;have aj:=hs.av hm;have J:=hs.av hk;have cy:=Aj b5 (hs.av hx);generalize hv:Act.eval ⟨tmps,[]⟩ m=v at aj;generalize ed:Act.eval ⟨tmps,[]⟩ U=vk at J;obtain⟨b,bs,a1,rfl,me,clock,hb,c1,c6⟩:=hs.sK aj (er ad);cases J with|d J=>cases J with|v _ hok=>
 obtain⟨a6,I,dx,a7,N⟩:=wb T ht b6 ch hb c1 c6 hn a hok cy;have h0:(execOp (Act.eval ⟨tmps,[]⟩) ⟨none,.mapUpdate mt m U x,ty,pos,af,none⟩).run P w=.ok .skip {w with heap:=w.heap.setIfInBounds b (.map a6 I)}:=by unfold execOp;simp_all
 obtain⟨b0,O,T0,p1,p2,p3,p4,p5⟩:=hs.box gq X hq;have c7:M<O.size:=by rw[p3];exact(δ.1 hj).1
 have df:O[M]?=some O[M]:=by simp[c7]
 have a8:=p5 M _ _ df hj;obtain⟨b2,di,b4,ec,_⟩:=hs.sK a8 (er ad);have e2:b2=b∧di=bs:=by have:=b4.symm.trans a1;simpa using this
 obtain⟨rfl,rfl⟩:=e2;obtain⟨G',ei,dj,ej⟩:=hs.Ez a1 a6 I a7 (es:=eP kf vf (dm l a y)) (by rw[N.1];simp[eP]) (fun i m k l' hm hk=>by simp only[eP,τ,ν]at hk;obtain⟨p,hp,e⟩:=hk;simp only[Prod.mk.injEq]at e;obtain⟨rfl,rfl⟩:=e;exact N.2 i m p hm hp) (bR lv g) (fun g' dt=>cQ dt);refine kp h0 ⟨_,⟨G',dj.fZ hq (by simp) fun b3 en T3 q1 q2 q3 i x' a' hx ha=>?_⟩,h⟩;grind
end
section
variable{n:Nat}
theorem bq.split(h:bq C n st G tmps w){b bs'}(hg:G.own g=some (.mp b bs))(a8:∀p∈bs',p∈bs)(r2)(cx:∀U bs',r2≠.mp U bs')(b0:∀c len cap sz O,r2=.blk c len cap sz O->(c,O)∈bs∧(∀p∈bs',p.1≠c)∧∃cur T,w.heap[c]?=some (.cells cur T (0,0))∧cur.size=cap*sz∧len<=cap∧cap<=maxLen∧0<sz∧0<len∧O<=len*sz∧fV cur)(lv)(cy:∀I∈lv,I∈st.lv∧I≠g):
 ∃G':Gh,G'.box=G.box∧G'.own st.gen=some (.mp b bs')∧G'.own (st.gen+1)=some r2∧(bu C G st.gen w).le (bu C G' (st.gen+2) w)∧bq C n {st with lv:=st.gen::(st.gen+1)::lv,gen:=st.gen+2} G' tmps w:=by
 let M:Nat->Option Row:=fun I=>if I=st.gen then some (.mp b bs')else if I=st.gen+1 then some r2 else if I=g then none else G.own I;have df:=h.gown g _ hg;have ai:∀{I c len cap sz O},M I=some (.blk c len cap sz O)->(I=st.gen+1∧r2=.blk c len cap sz O)∨(I≠st.gen∧I≠st.gen+1∧I≠g∧G.own I=some (.blk c len cap sz O)):=by
  intro I c len cap sz O X;simp only[M]at X;split at X;·cases X
  ·split at X
   ·rename_i e;exact .inl ⟨e,J' X⟩
   ·split at X
    ·cases X
    ·rename_i e1 e2 N;exact .inr ⟨e1,e2,N,X⟩
 have a1:∀{I b2 ad},M I=some (.mp b2 ad)->(I=st.gen∧b2=b∧ad=bs')∨(I≠st.gen∧I≠st.gen+1∧I≠g∧G.own I=some (.mp b2 ad)):=by
  intro I b2 ad X;simp only[M]at X;split at X;·rename_i e;simp only[Option.some.injEq,Row.mp.injEq]at X;exact .inl ⟨e,X.1.symm,X.2.symm⟩
  ·split at X
   ·exact absurd (J' X) (cx _ _)
   ·split at X
    ·cases X
    ·rename_i e1 e2 N;exact .inr ⟨e1,e2,N,X⟩
 have c1:∀U o,cf C ⟨G.box,M⟩ U o->cf C G U o:=by
  rintro U o (hp|hp|⟨I,ch,cj,c6,b5,hp,hl'⟩|⟨I,b2,ad,lim,hp,hm,hl'⟩);·exact .inl hp
  ·exact .inr (.inl hp)
  ·rcases ai hp with⟨_,e⟩|⟨_,_,_,e⟩
   ·exact .inr (.inr (.inr ⟨g,b,bs,b5,hg,(b0 _ _ _ _ _ e).1,hl'⟩))
   ·exact .inr (.inr (.inl ⟨I,ch,cj,c6,b5,e,hl'⟩))
  ·rcases a1 hp with⟨_,rfl,rfl⟩|⟨_,_,_,e⟩
   ·exact .inr (.inr (.inr ⟨g,_,bs,lim,hg,a8 _ hm,hl'⟩))
   ·exact .inr (.inr (.inr ⟨I,b2,ad,lim,e,hm,hl'⟩))
 have hle:(bu C G st.gen w).le (bu C ⟨G.box,M⟩ (st.gen+2) w):=l5 h.fr h.fr (fun U o u hu hn=>⟨hu,fun hp=>hn (c1 U o hp)⟩) (fun _ _ h=>h)
  (fun I r' aj J=>by
   simp only[M,if_neg (X' aj),if_neg (X' (Z' aj))]at J;split at J;·cases J
   ·exact J) (by omega) (fun _ _ _ _ _ _ _ _=>rfl) (fun _ _ _ _ _=>⟨fun _ _=>rfl,fun _ _=>rfl⟩) (.refl w)
 refine⟨⟨G.box,M⟩,rfl,by simp[M],by simp[M],hle,{size:=h.size,frame:=h.fz hle,inj:=h.inj,xold:=h.xold,kold:=h.kold,lent:=h.lent,fr:=h.fr,gcell:=h.gcell,box:=?_,gbox:=?_,live:=?_,gown:=?_,row:=?_,mrow:=?_,sub:=?_}⟩
 ·intro I cells hc
  obtain⟨U,cs,T',h1,h2,h3,h4,h5⟩:=h.box I cells hc;exact⟨U,cs,T',h1,h2,h3,h4,fun i u a hu ha=>(h5 i u a hu ha).mono hle⟩
 ·intro I U hb
  obtain⟨h1,h2,h3⟩:=h.gbox I U hb;exact⟨by simp only;omega,h2,h3⟩
 ·intro I aj
  rcases N'.1 aj with rfl|aj
  ·exact⟨_,by simp[M];rfl⟩
  ·rcases N'.1 aj with rfl|aj
   ·exact⟨_,by simp[M];rfl⟩
   ·obtain⟨h1,h2⟩:=cy I aj
    obtain⟨r',J⟩:=h.live I h1;have:=h.gown I r' J;exact⟨r',by simp only[M];rw[if_neg (by omega),if_neg (by omega),if_neg h2];exact J⟩
 ·intro I r' J
  simp only[M]at J;split at J;·simp only;omega
  ·split at J
   ·simp only;omega
   ·split at J
    ·cases J
    ·have:=h.gown I r' J;simp only;omega
 ·intro I U len cap sz O J
  rcases ai J with⟨e0,e⟩|⟨_,e1,e2,e⟩
  ·obtain⟨q1,q2,q3⟩:=b0 _ _ _ _ _ e
   obtain⟨s1,s2,s3,_⟩:=h.sub g b bs U O hg q1;refine⟨s1,s2,fun g2 cl cq c7 b6 h2=>?_,q3⟩;rcases ai h2 with⟨N,_⟩|⟨_,_,_,N⟩
   ·omega
   ·exact absurd N (s3 _ _ _ _ _)
  ·obtain⟨s1,s2,s3,s4⟩:=h.row I U len cap sz O e
   refine⟨s1,s2,fun g2 cl cq c7 b6 h2=>?_,s4⟩;rcases ai h2 with⟨_,N⟩|⟨_,_,_,N⟩
   ·exact absurd e ((h.sub g b bs U b6 hg (b0 _ _ _ _ _ N).1).2.2.1 _ _ _ _ _)
   ·exact s3 _ _ _ _ _ N
 ·intro I U ad J
  rcases a1 J with⟨e0,rfl,rfl⟩|⟨e0,e1,e2,e⟩
  ·obtain⟨s1,s2,s3,s4⟩:=h.mrow g _ bs hg
   refine⟨s1,s2,fun g2 a6 h2=>?_,s4⟩;rcases a1 h2 with⟨N,_⟩|⟨_,_,e4,N⟩
   ·omega
   ·exact absurd (s3 g2 a6 N) e4
  ·obtain⟨s1,s2,s3,s4⟩:=h.mrow I U ad e
   refine⟨s1,s2,fun g2 a6 h2=>?_,s4⟩;rcases a1 h2 with⟨_,rfl,_⟩|⟨_,_,_,N⟩
   ·exact absurd (s3 g bs hg).symm e2
   ·exact s3 g2 a6 N
 ·intro I U ad c lim J hm
  rcases a1 J with⟨e0,rfl,rfl⟩|⟨e0,e1,e2,e⟩
  ·obtain⟨s1,s2,s3,s4,s5⟩:=h.sub g _ bs c lim hg (a8 _ hm)
   refine⟨s1,s2,fun g2 len cap sz O h2=>?_,fun g2 b3 a6 a7 h2 b4=>?_,s5⟩
   ·rcases ai h2 with⟨_,N⟩|⟨_,_,_,N⟩
    ·exact(b0 _ _ _ _ _ N).2.1 _ hm Z
    ·exact s3 _ _ _ _ _ N
   ·rcases a1 h2 with⟨N,rfl,rfl⟩|⟨_,_,e4,N⟩
    ·exact⟨by omega,(s4 g _ bs a7 hg (a8 _ b4)).2⟩
    ·exact absurd (s4 g2 b3 a6 a7 N b4).1 e4
  ·obtain⟨s1,s2,s3,s4,s5⟩:=h.sub I U ad c lim e hm
   refine⟨s1,s2,fun g2 len cap sz O h2=>?_,fun g2 b3 a6 a7 h2 b4=>?_,s5⟩
   ·rcases ai h2 with⟨_,N⟩|⟨_,_,_,N⟩
    ·exact e2 ((s4 g b bs O hg (b0 _ _ _ _ _ N).1).1).symm
    ·exact s3 _ _ _ _ _ N
   ·rcases a1 h2 with⟨_,rfl,rfl⟩|⟨_,_,_,N⟩
    ·exact absurd ((s4 g _ bs a7 hg (a8 _ b4)).1).symm e2
    ·exact s4 g2 b3 a6 a7 N b4
theorem bq.join(h:bq C n st G tmps w){b bs'}(hg:G.own g=some (.mp b bs)){r2}(aj:G.own g2=some r2)(gq:g2≠g)(cx:∀p∈bs',p∈bs∨∃len cap sz,r2=.blk p.1 len cap sz p.2)(a8:∀c,b≠some c->w'.heap[c]?=w.heap[c]?)(ej:∀c,b=some c->∃me clock,w'.heap[c]?=some (.map me clock))(ed:w'.heap.size=w.heap.size)(e2:w'.os=w.os)(e3:w'.tape=w.tape)(e4:w'.output=w.output)(lv)(en:∀I∈lv,I∈st.lv∧I≠g∧I≠g2):
 ∃G':Gh,G'.box=G.box∧G'.own st.gen=some (.mp b bs')∧(bu C G st.gen w).le (bu C G' (st.gen+1) w')∧bq C n {st with lv:=st.gen::lv,gen:=st.gen+1} G' tmps w':=by
 let N:Nat->Option Row:=fun I=>if I=st.gen then some (.mp b bs')else if I=g then none else if I=g2 then none else G.own I;have e0:∀{c:Nat}{cs:Array Value}{T:TypeId}{f:Nat×Nat},w.heap[c]?=some (.cells cs T f)->b≠some c:=fun{c cs T f} hc e=>by subst e;obtain⟨_,_,_,e5,di,cy⟩:=h.mrow g c bs hg;rw[cy]at hc;cases hc
 have b0:∀{c:Nat}{cs:Array Value}{T:TypeId}{f:Nat×Nat},w.heap[c]?=some (.cells cs T f)->w'.heap[c]?=some (.cells cs T f):=fun{c cs T f} hc=>by rw[a8 c (e0 hc)];exact hc
 have c7:∀J o u,Ab.cellAt w J o=some u->Ab.cellAt w' J o=some u:=fun J o u hu=>by
  have a1:b≠some J:=fun e=>by subst e;obtain⟨_,_,_,e5,di,cy⟩:=h.mrow g J bs hg;simp[Ab.cellAt,World.cell?,cy]at hu
  rw[cL (a8 J a1)];exact hu
 have dj:eZ w w':=fun J cs T f h=>⟨cs,f,b0 h⟩;have hf:=h.gown g _ hg;have gb:=h.gown g2 _ aj;have a7:∀{I r'},N I=some r'->I≠st.gen->G.own I=some r'∧I≠g∧I≠g2:=by
  intro I r' O a1;simp only[N,if_neg a1]at O;split at O;·cases O
  ·split at O
   ·cases O
   ·rename_i e1 e2;exact⟨O,e1,e2⟩
 have dt:∀{r'},N st.gen=some r'->r'=.mp b bs':=fun{r'} O=>by simpa[N]using O.symm
 have b4:∀{I c len cap sz ad},N I=some (.blk c len cap sz ad)->I≠st.gen∧I≠g∧I≠g2∧G.own I=some (.blk c len cap sz ad):=fun{I c len cap sz ad} O=>by
  have a1:I≠st.gen:=fun e=>by subst e;cases dt O
  obtain⟨q1,q2,q3⟩:=a7 O a1;exact⟨a1,q2,q3,q1⟩
 have b5:∀{I b2 U},N I=some (.mp b2 U)->(I=st.gen∧b2=b∧U=bs')∨(I≠st.gen∧I≠g∧I≠g2∧G.own I=some (.mp b2 U)):=fun{I b2 U} O=>by
  by_cases e:I=st.gen
  ·subst e
   have:=dt O;simp only[Row.mp.injEq]at this;exact .inl ⟨rfl,this.1,this.2⟩
  ·obtain⟨q1,q2,q3⟩:=a7 O e
   exact .inr ⟨e,q2,q3,q1⟩
 have c1:∀{c lim},(c,lim)∈bs'->C.jF c lim∧(∀I,G.box I≠some c)∧(∀I len cap sz ad,G.own I=some (.blk c len cap sz ad)->I=g2∧ad=lim)∧(∀I b3 X ai,G.own I=some (.mp b3 X)->(c,ai)∈X->I=g∧ai=lim∧(c,lim)∈bs)∧∃cur T,w.heap[c]?=some (.cells cur T (0,0))∧lim<=cur.size∧fV cur:=by
  intro c lim hm;rcases cx _ hm with hm|⟨len,cap,sz,O⟩
  ·obtain⟨s1,s2,s3,s4,s5⟩:=h.sub g b bs c lim hg hm
   exact⟨s1,s2,fun I len cap sz ad O=>absurd O (s3 _ _ _ _ _),fun I b3 X ai O df=>⟨(s4 I b3 X ai O df).1,(s4 I b3 X ai O df).2,hm⟩,s5⟩
  ·rw[O]at aj
   obtain⟨s1,s2,s3,cur,T,s4,s5,s6,s7,s8,s9,hh,e6⟩:=h.row g2 c len cap sz lim aj;refine⟨s1,s2,fun I b6 ch cl cj M=>?_,fun I b3 X ai M df=>absurd aj ((h.sub I b3 X c ai M df).2.2.1 _ _ _ _ _),cur,T,s4,?_,e6⟩
   ·have:=s3 I b6 ch cl cj M
    subst this;rw[aj]at M;simp only[Option.some.injEq,Row.blk.injEq]at M;exact⟨rfl,M.2.2.2.2.symm⟩
   ·have:len*sz<=cap*sz:=Nat.mul_le_mul_right _ s6
    omega
 have ff:∀J o,cf C ⟨G.box,N⟩ J o->cf C G J o:=by
  rintro J o (hp|hp|⟨I,b6,ch,cl,cj,hp,hl'⟩|⟨I,b2,U,lim,hp,hm,hl'⟩);·exact .inl hp
  ·exact .inr (.inl hp)
  ·exact .inr (.inr (.inl ⟨I,b6,ch,cl,cj,(b4 hp).2.2.2,hl'⟩))
  ·rcases b5 hp with⟨_,rfl,rfl⟩|⟨_,_,_,e⟩
   ·rcases cx _ hm with hm|⟨len,cap,sz,O⟩
    ·exact .inr (.inr (.inr ⟨g,_,bs,lim,hg,hm,hl'⟩))
    ·rw[O]at aj;exact .inr (.inr (.inl ⟨g2,len,cap,sz,lim,aj,hl'⟩))
   ·exact .inr (.inr (.inr ⟨I,b2,U,lim,e,hm,hl'⟩))
 have ei:Fr C w':=⟨e2.trans h.fr.os,e3.trans h.fr.tape,e4.trans h.fr.output,by rw[ed];exact h.fr.size,fun J h1 h2=>by rw[a8 J (fun e=>by subst e;exact(h.mrow g J bs hg).1.1.elim (fun hm=>by omega) h2)];exact h.fr.block J h1 h2,fun J o u hk hu=>c7 J o u (h.fr.cells J o u hk hu),h.fr.ty.trans dj⟩
 have hle:(bu C G st.gen w).le (bu C ⟨G.box,N⟩ (st.gen+1) w'):=l5 h.fr ei (fun J o u hu hn=>⟨c7 J o u hu,fun hp=>hn (ff J o hp)⟩) (fun _ _ h=>h)
  (fun I r' a6 M=>(a7 M (X' a6)).1) (Nat.le_succ _) (fun I J b6 ch cl cj a6 M=>by
   obtain⟨_,_,_,cur,T,q1,_⟩:=h.row I J b6 ch cl cj (a7 M (X' a6)).1;rw[q1];exact b0 q1) (fun I J U a6 M=>by
   obtain⟨q1,q2,q3⟩:=a7 M (X' a6);refine⟨fun c hc=>by subst hc;exact a8 c (fun e=>by subst e;exact q2 ((h.mrow g c bs hg).2.2.1 I U q1)),fun p hp=>?_⟩;obtain⟨_,_,_,_,cur,T,q4,_⟩:=h.sub I J U p.1 p.2 q1 hp;rw[q4];exact b0 q4) dj
 refine⟨⟨G.box,N⟩,rfl,by simp[N],hle,{size:=h.size,frame:=h.fz hle,inj:=h.inj,xold:=h.xold,kold:=h.kold,lent:=h.lent,fr:=ei,gcell:=fun I J fj=>ny dj (h.gcell I J fj),box:=?_,gbox:=?_,live:=?_,gown:=?_,row:=?_,mrow:=?_,sub:=?_}⟩
 ·intro I cells hc
  obtain⟨J,cs,T',h1,h2,h3,h4,h5⟩:=h.box I cells hc;exact⟨J,cs,T',h1,b0 h2,h3,h4,fun i u a hu ha=>(h5 i u a hu ha).mono hle⟩
 ·intro I J hb
  obtain⟨h1,h2,h3⟩:=h.gbox I J hb;exact⟨Z' h1,by rw[ed];exact h2,h3⟩
 ·intro I a6
  rcases N'.1 a6 with rfl|a6
  ·exact⟨_,by simp[N];rfl⟩
  ·obtain⟨h1,h2,h3⟩:=en I a6
   obtain⟨r',M⟩:=h.live I h1;exact⟨r',by simp only[N,if_neg (X' (h.gown I r' M)),if_neg h2,if_neg h3];exact M⟩
 ·intro I r' M
  by_cases e:I=st.gen;·simp only;omega
  ·exact Z' (h.gown I r' (a7 M e).1)
 ·intro I J len cap sz ad M
  obtain⟨_,_,_,e⟩:=b4 M;obtain⟨s1,s2,s3,cur,T,s4,s5⟩:=h.row I J len cap sz ad e;exact⟨s1,s2,fun g3 gd gj ho gm h2=>s3 _ _ _ _ _ (b4 h2).2.2.2,cur,T,b0 s4,s5⟩
 ·intro I J U M
  rcases b5 M with⟨n0,rfl,rfl⟩|⟨n0,n1,n2,e⟩
  ·obtain⟨dx,fo,ec,_⟩:=h.mrow g J bs hg
   refine⟨dx,fo,fun g3 X h2=>?_,ej J rfl⟩;rcases b5 h2 with⟨q,_⟩|⟨_,q2,_,q3⟩
   ·omega
   ·exact absurd (ec g3 X q3) q2
  ·obtain⟨s1,s2,s3,fs,ft,s4⟩:=h.mrow I J U e
   have a1:b≠some J:=fun e=>by subst e;exact n1 ((h.mrow g J bs hg).2.2.1 I U (by assumption))
   refine⟨s1,s2,fun g3 X h2=>?_,fs,ft,by rw[a8 J a1];exact s4⟩;rcases b5 h2 with⟨_,q,_⟩|⟨_,_,_,q3⟩
   ·exact absurd q.symm a1
   ·exact s3 g3 X q3
 ·intro I J U c lim M hm
  rcases b5 M with⟨n0,rfl,rfl⟩|⟨n0,n1,n2,e⟩
  ·obtain⟨s1,s2,s3,s4,cur,T,s5,s6⟩:=c1 hm
   refine⟨s1,s2,fun g3 len cap sz ad h2=>?_,fun g3 b3 X c6 h2 cq=>?_,cur,T,b0 s5,s6⟩
   ·obtain⟨_,_,q3,q4⟩:=b4 h2
    exact q3 (s3 _ _ _ _ _ q4).1
   ·rcases b5 h2 with⟨q,rfl,rfl⟩|⟨_,q2,_,q3⟩
    ·refine⟨by omega,?_⟩
     obtain⟨_,_,t3,t4,_⟩:=c1 cq;rcases cx _ hm with q4|⟨len,cap,sz,q4⟩
     ·exact((t4 g _ bs lim hg q4).2.1).symm
     ·rw[q4]at aj
      exact((t3 g2 len cap sz lim aj).2).symm
    ·exact absurd (s4 g3 b3 X c6 q3 cq).1 q2
  ·obtain⟨s1,s2,s3,s4,cur,T,s5,s6⟩:=h.sub I J U c lim e hm
   refine⟨s1,s2,fun g3 len cap sz ad h2=>s3 _ _ _ _ _ (b4 h2).2.2.2,fun g3 b3 X c6 h2 cq=>?_,cur,T,b0 s5,s6⟩;rcases b5 h2 with⟨_,rfl,rfl⟩|⟨_,_,_,q3⟩
   ·exact absurd ((c1 cq).2.2.2.1 I J U lim e hm).1 n1
   ·exact s4 g3 b3 X c6 q3 cq
end
end Go.Ab
