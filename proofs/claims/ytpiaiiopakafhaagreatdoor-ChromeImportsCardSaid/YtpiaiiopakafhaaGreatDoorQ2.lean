import Derived.Test.YtpiaiiopakafhaaGreatDoorQ1
import Derived.Laws.Cover3
import Derived.Lib.Bytealg
import Derived.Laws.Externs
import Derived.Lib.LaidTab
import Derived.Lib.SmallJoins
import Derived.Lib.AppendIntMem
import Derived.MapKept
import Derived.Lib.AppendStr
import Derived.Lib.Builder
import Derived.Lib.UnsafeStr
import Derived.Laws.Slices
namespace Go.Ab
open Go.RowKit
variable {w w':World}{tmps:Array Value}{pv:Nat→Nat→Prop}{x y:Operand}{t g i k e m j b id off d clock sz gen' cap mt t' g2 d0:Nat}{P:Program}{Q':Exit→Act→World→Prop}{fid:FuncId}{lv' lv gs order os:List Nat}{bs:List (Nat×Nat)}{o:Oper}{xs:Array Operand}{fn:Func}{parts:Array (Nat×Operand)}{α ι β:Type}{dst:Option Nat}{hole:Option Value}{R:Value→World→Prop}{ops:Array Oper}{want:Bool}{listed:Array Bool}{T ty:TypeId}{act:Act}
variable {es es2:List (List D)}{f:List (Nat×A)}{G:Gh}{a a':A}{st st':St}{l:List D}{E E':En}{args cells cells' caps:List A}{Q:Exit→St→Prop}{b1:List (List A)}{C:Ctx}
variable {rs:List RV}
variable {I td J ed M N:cY}
def fQ:Nat->List (List A)->List (Nat×List A)
 |_,[]=>[]
 |k,c::r=>(k,c)::fQ (k+1) r
theorem qX:∀(l:List (List A))(k g:Nat)(c:List A),bk (fQ k l) g=some c->k<=g∧l[g-k]?=some c
 |[],_,_,_,h=>by simp[fQ,bk]at h
 |b::l,k,g,c,h=>by
   simp only[fQ,du]at h;split at h;·grind
   ·rename_i e
    obtain⟨h1,h2⟩:=qX l (k+1) g c h;grind
theorem zL:∀(l:List (List A))(k i:Nat)(c:List A),l[i]?=some c->bk (fQ k l) (k+i)=some c
 |[],_,_,_,h=>by simp at h
 |b::l,k,i,c,h=>by
   simp only[fQ,du]
   cases i with
   |zero=>simpa using h
   |succ i=>rw[if_neg (by omega)];have:=zL l (k+1) i c (by simpa using h);grind
structure bU(P:Program)[dG P](f:FuncId)(args:List A)(b0:List (List A))(m:Nat)(r:A)(b1:List (List A))(k:Nat):Prop where
 ok:lx P f
 len:b1.length=b0.length
 calls:∀(C:Ctx)(G:Gh)(vals:Array Value)(w:World),GC P C->C.w0=w->C.bx.length=b0.length->C.ds=[]->(m=0->∀b,C.fp b->∃i:Nat,C.bx[i]?=some b)->
  bq C 0 ⟨[],fQ 0 b0,(List.range m).map (b0.length+·),b0.length+m⟩ G #[] w->vals.size=args.length->
  (∀(i:Nat)(u:Value)(a:A),vals[i]?=some u->args[i]?=some a->bG (br C G (b0.length+m) w) u a)->
  Calls P f vals w fun e w'=>∃v G',e=.returned v∧bq C 0 ⟨[],fQ 0 b1,(List.range k).map (b0.length+·),b0.length+k⟩ G' #[] w'∧bG (br C G' (b0.length+k) w') v r
theorem bq.B0{n J bx gen}{I:Array Value}(h:bq C n ⟨[],bx,lv,gen⟩ G tmps w)(hs:I.size=J):
 bq C J ⟨[],bx,lv,gen⟩ G I w:=
 {h with size:=hs,frame:=fun t a M=>by simp[look]at M}
section
variable(T:cT P)
def gp(I:Nat)(order:List Nat):List Nat:=List.range I++order
def cf(rs:List RV)(r:A)(b1:List (List A))(k:Nat):Exit->St->Prop:=fun e st=>
 (match e with|.normal=>True|.ret=>True|_=>False)∧∃l order,lY T st.f st.bx rs=some l∧cV (gp b1.length order) (bO l)=r∧order.length=k∧nodupB (gp b1.length order)=true∧(∀g∈order,g∈st.lv)∧
  ∀(i:Nat)(c:List A),b1[i]?=some c->∃c0,bk st.bx i=some c0∧ia (gp b1.length order) c0=c
theorem bU.yA[dG P]{f c n}{J:List (List A)}{r}(hf:P.funcs[f]?=some fn)(X:(fn.name== "runtime.NumGoroutine")=false)(hb:fn.body=some c)(hn:fn.ntmps=n)(hr:fn.results=(rs.map RV.var).toArray)(hlen:Nat.ble args.length n=true)(M:b1.length=J.length)(h:∀C,NB C J.length->GC P C->(m=0->∀b,C.fp b->∃i:Nat,C.bx[i]?=some b)->(∀i b:Nat,C.bx[i]?=some b->b<C.w0.heap.size)->W P C n c (cf T rs r b1 k) ⟨jL 0 args,fQ 0 J,(List.range m).map (J.length+·),J.length+m⟩):bU P f args J m r b1 k:=by
 have hlen:=κ hlen;refine⟨⟨fn,hf,X,by rw[hb];rfl⟩,M,fun C G I w hG hw ad O a1 hs cy ar=>?_⟩;subst hw;refine calls_of_wp hf hb (wp_mono (tN O (h C ⟨ad⟩ hG a1 (fun i b hb=>(hs.gbox i b (hs.lent i b hb)).2.1) (I++Array.replicate (fn.ntmps-I.size) undef) C.w0 ⟨G,?_⟩)) ?_)
 ·refine{hs with size:=by simp[hn];omega,frame:=fun t a ha=>?_}
  obtain⟨_,h1⟩:=jb args 0 t a ha;have h2:t<args.length:=(δ.1 (by simpa using h1)).1;have h3:t<I.size:=by omega
  have h4:I[t]?=some I[t]:=by simp[h3]
  exact⟨I[t],by rw[Array.getElem?_append_left h3];exact h4,ar t _ a h4 (by simpa using h1)⟩
 ·rintro e ⟨tmps,df⟩ w' ⟨hd,st,⟨G,hs⟩,he,l,order,hl,a6,a7,a8,b2,b3⟩
  have cx:(gp b1.length order).length=J.length+k:=by simp[gp,a7,M]
  have U:∀i,i<C.bx.length->(gp b1.length order)[i]?=some i:=fun i hi=>by unfold gp;rw[y' (by simp;omega),List.getElem?_range (by omega)]
  have N:∃v,(results fn tmps).run P w'=.ok v w'∧∃ai G',Ending.returned v=.returned ai∧bq C 0 ⟨[],fQ 0 b1,(List.range k).map (J.length+·),J.length+k⟩ G' #[] w'∧bG (br C G' (J.length+k) w') ai r:=by
   obtain⟨vs,ch,cj,cl⟩:=mI T hs rs l hl;refine⟨_,js hr ch,_,qc (gp b1.length order) G,rfl,?_,?_⟩
   ·refine bq.B0 (hs.cV (f':=[]) (bx':=fQ 0 b1) (lv':=(List.range k).map (J.length+·)) (gen':=J.length+k) (gp b1.length order) (fM a8) (by omega) U (fun t a ha=>by simp[look]at ha) (fun i c hc=>?_) (fun i hi=>?_)) Z
    ·obtain⟨_,h1⟩:=qX b1 0 i c hc
     simp only[Nat.sub_zero]at h1;obtain⟨c0,h2,h3⟩:=b3 i c h1;have cq:i<b1.length:=(δ.1 h1).1;exact⟨i,c0,U i (by rw[ad,←M];exact cq),h2,by rw[<-iN];exact h3⟩
    ·obtain⟨j,hj,rfl⟩:=A'.1 hi
     have hj:j<k:=by simpa using hj
     have aj:j<order.length:=by omega
     refine⟨order[j],?_,b2 _ (List.getElem_mem aj)⟩;unfold gp;rw[Ω (by simp;omega)];simp[M,aj]
   ·rw[<-a6]
    refine bG.cV (gen:=st.gen) (by omega) (oR cj cl)
  cases e with
  |normal=>exact⟨hd.trans O,N⟩
  |ret=>exact⟨hd.trans O,N⟩
  |exit _=>exact he.elim
  |goto _=>exact he.elim
  |panic _=>exact he.elim
  |outgrown=>exact he.elim
theorem bU.dk[dG P]{f c n}{I:List (List A)}{r}(N:P.funcs[f]?=some fn)(J:(fn.name== "runtime.NumGoroutine")=false)(hb:fn.body=some c)(O:fn.ntmps=n)(U:fn.results=(rs.map RV.var).toArray)(hlen:Nat.ble args.length n=true)(M:b1.length=I.length)(h:∀C,NB C I.length->GC P C->W P C n c (cf T rs r b1 k) ⟨jL 0 args,fQ 0 I,(List.range m).map (I.length+·),I.length+m⟩):bU P f args I m r b1 k:=
 bU.yA T N J hb O U hlen M fun C hC X _ _=>h C hC X
theorem cf.ret{r e l}(order:List Nat)(he:match e with|.normal=>True|.ret=>True|_=>False)(hl:lY T st.f st.bx rs=some l)(M:order.length=k)(I:nodupB (gp b1.length order)=true)(J:(order.all fun g=>st.lv.any fun h=>Nat.beq h g)=true)(hb:∀(i:Nat)(c:List A),b1[i]?=some c->∃c0,bk st.bx i=some c0∧ia (gp b1.length order) c0=c)(N:cV (gp b1.length order) (bO l)=r):cf T rs r b1 k e st:=
 ⟨he,l,order,hl,N,M,I,fun g O=>by obtain⟨x,U,he⟩:=L'.1 (M'.1 J g O);exact Θ he▸U,hb⟩
end
/-! the caller's side -/
def eV(bx:List (Nat×List A))(gs os:List Nat):Nat->A->A
 |0,_=>.any
 |_+1,.d x=>.d x
 |_+1,.ag l=>.ag l
 |_+1,.own g es=>match pos os g with
   |some i=>.own (gs.length+i) es
   |none=>.d (.sl es)
 |k+1,.agg l=>mY (l.map (eV bx gs os k))
 |_+1,.tup _=>.any
 |_+1,.rowd l=>.rowd l
 |k+1,.row l=>.row (l.map (eV bx gs os k))
 |k+1,.ptr g off=>match pos gs g with
   |some i=>.ptr i off
   |none=>match bk bx g with
     |some cells=>.row ((cells.drop off).map (eV bx gs os k))
     |none=>.any
 |_+1,.xs g es=>match pos os g with
   |some i=>.xs (gs.length+i) es
   |none=>.any
 |_+1,.xp _ _ _ _=>.any
 |_+1,.mp g es=>match pos os g with
   |some i=>.mp (gs.length+i) es
   |none=>.any
 |_+1,.gi g I=>match pos os g with
   |some i=>.gi (gs.length+i) I
   |none=>.any
 |_+1,.mq g es=>match pos os g with
   |some i=>.mq (gs.length+i) es
   |none=>.any
 |_+1,.mo g es h J=>match pos os g with
   |some i=>.mo (gs.length+i) es h J
   |none=>.any
 |k+1,.clo f l=>.clo f (l.map (eV bx gs os k))
 |k+1,.bnd f l=>.bnd f (l.map (eV bx gs os k))
 |_+1,.ni=>.ni
 |_+1,.fl es=>.fl es
 |_+1,.bf g T s=>match pos os g with
   |some i=>.bf (gs.length+i) T s
   |none=>.any
 |_+1,.np g T u=>match pos gs g with
   |some i=>.np i T u
   |none=>.any
 |_+1,.lk _ _ _ _=>.any
 |_+1,.fx _ _ _=>.any
 |_+1,.ol _ _ _ _=>.any
 |_+1,.ow _ _ _=>.any
 |_+1,.sb g n c=>match pos gs g with
   |some i=>.sb i n c
   |none=>.any
 |_+1,.any=>.any
def iH(bx:List (Nat×List A))(gs os:List Nat):List Nat->Option (List (List A))
 |[]=>some []
 |g::r=>match bk bx g,iH bx gs os r with
   |some c,some l=>some (c.map (eV bx gs os 5)::l)
   |_,_=>none
mutual
def back(gs:List Nat)(m:Nat):A->A
 |.own g es=>.own (g+m) es
 |.agg l=>.agg (nT gs m l)
 |.tup l=>.tup (nT gs m l)
 |.clo f l=>.clo f (nT gs m l)
 |.bnd f l=>.bnd f (nT gs m l)
 |.ptr i off=>match gs[i]?with
   |some g=>.ptr g off
   |none=>.any
 |.xs g es=>.xs (g+m) es
 |.xp g i off l=>.xp (g+m) i off l
 |.mp g es=>.mp (g+m) es
 |.gi g I=>.gi (g+m) I
 |.mq g es=>.mq (g+m) es
 |.mo g es h J=>.mo (g+m) es h J
 |.row _=>.any
 |.d x=>.d x
 |.ag l=>.ag l
 |.rowd l=>.rowd l
 |.fl es=>.fl es
 |.bf g T s=>.bf (g+m) T s
 |.np i T u=>match gs[i]?with
   |some g=>.np g T u
   |none=>.any
 |.lk _ _ _ _=>.any
 |.fx _ _ _=>.any
 |.ol _ _ _ _=>.any
 |.ow _ _ _=>.any
 |.sb i n c=>match gs[i]?with
   |some g=>.sb g n c
   |none=>.any
 |.ni=>.ni
 |.any=>.any
def nT(gs:List Nat)(m:Nat):List A->List A
 |[]=>[]
 |a::l=>back gs m a::nT gs m l
end
theorem kG(gs m):∀l:List A,nT gs m l=l.map (back gs m)
 |[]=>rfl
 |a::l=>by simp[nT,kG gs m l]
def ky(gs:List Nat)(m:Nat):List Nat->List (List A)->List (Nat×List A)
 |g::r,c::l=>(g,nT gs m c)::ky gs m r l
 |_,_=>[]
theorem sP:∀{r:List Nat}{l:List (List A)}{g:Nat}{c:List A},bk (ky gs m r l) g=some c->∃(i:Nat)(c0:List A),r[i]?=some g∧l[i]?=some c0∧nT gs m c0=c
 |[],_,g,c,h=>by simp[ky,bk]at h
 |_::_,[],g,c,h=>by simp[ky,bk]at h
 |g0::r,c0::l,g,c,h=>by
   simp only[ky,du]at h;split at h
   ·rename_i e
    subst e;simp only[Option.some.injEq]at h;exact⟨0,c0,rfl,rfl,h⟩
   ·obtain⟨i,I,h1,h2,h3⟩:=sP h
    exact⟨i+1,I,by simpa using h1,by simpa using h2,h3⟩
section
variable{n:Nat}{rest:List Oper}
def gu(G:Gh)(gs:List Nat)(b:Nat):Prop:=∃g∈gs,G.box g=some b
def fk(G:Gh)(os:List Nat)(b lim:Nat):Prop:=∃g∈os,∃r,G.own g=some r∧r.ru b lim
theorem bq.rowAt{n}(h:bq C n st G tmps w){lim}{r:Row}(X:G.own g=some r)(O:r.ru b lim):
 C.jX b lim∧(∀M,G.box M≠some b)∧b<w.heap.size∧
  (∀M N I,G.own M=some N->N.ru b I->M=g∧I=lim):=by
 have inj:∀N I,G.own g=some N->N.ru b I->(∀b1 bs,r≠.mp b1 bs)->I=lim:=by
  intro N I h1 h2 b0;rw[X]at h1;cases h1
  cases r with
  |nil=>exact O.elim
  |zero _=>exact O.elim
  |blk b1 len cap sz a7=>exact h2.2.trans O.2.symm
  |mp b1 bs=>exact absurd rfl (b0 b1 bs)
 have key:∀M N I,G.own M=some N->N.ru b I->M=g∧I=lim:=by
  intro M N I ad J
  cases r with
  |nil=>exact O.elim
  |zero _=>exact O.elim
  |blk b1 len cap sz a7=>
    obtain⟨rfl,rfl⟩:=O;obtain⟨_,_,h3,cur,T,h4,_⟩:=h.row g b1 len cap sz lim X
    cases N with
    |nil=>exact J.elim
    |zero _=>exact J.elim
    |blk b2 ar a1 a8 a6=>have b3:=J;obtain⟨rfl,rfl⟩:=J;grind
    |mp b2 U=>
      rcases J with⟨rfl,rfl⟩|aj
      ·obtain⟨_,_,_,me,clock,h5⟩:=h.mrow M _ U ad
       grind
      ·exact absurd X ((h.sub M b2 U _ I ad aj).2.2.1 g _ _ _ _)
  |mp b1 ai=>
    rcases O with⟨rfl,rfl⟩|hm
    ·obtain⟨_,_,h3,me,clock,h4⟩:=h.mrow g _ ai X
     cases N with
     |nil=>exact J.elim
     |zero _=>exact J.elim
     |blk b2 ar a1 a8 a6=>obtain⟨rfl,rfl⟩:=J;obtain⟨_,_,_,cur,T,h5,_⟩:=h.row M b2 _ _ _ _ ad;grind
     |mp b2 U=>
       rcases J with⟨rfl,rfl⟩|aj
       ·grind
       ·obtain⟨_,_,_,_,cur,T,h5,_⟩:=h.sub M b2 U _ I ad aj
        grind
    ·obtain⟨_,_,h3,h4,cur,T,h5,_⟩:=h.sub g b1 ai b lim X hm
     cases N with
     |nil=>exact J.elim
     |zero _=>exact J.elim
     |blk b2 ar a1 a8 a6=>obtain⟨rfl,rfl⟩:=J;grind
     |mp b2 U=>
       rcases J with⟨rfl,rfl⟩|aj
       ·obtain⟨_,_,_,me,clock,h6⟩:=h.mrow M _ U ad
        grind
       ·grind
 cases r with
 |nil=>exact O.elim
 |zero _=>exact O.elim
 |blk b1 len cap sz a7=>obtain⟨rfl,rfl⟩:=O;obtain⟨h1,h2,h3,cur,T,h4,_⟩:=h.row g b1 len cap sz lim X;grind
 |mp b1 ai=>
   rcases O with⟨rfl,rfl⟩|hm
   ·obtain⟨h1,h2,h3,me,clock,h4⟩:=h.mrow g _ ai X
    grind
   ·obtain⟨h1,h2,_,_,cur,T,h5,_⟩:=h.sub g b1 ai b lim X hm
    grind
theorem bq.FW{n}(h:bq C n st G tmps w){lim o}{r:Row}{u}(J:G.own g=some r)(I:r.ru b lim)(hu:cellAt w b o=some u)(hle:lim<=o):cr C G b o:=by
 cases r with
 |nil=>exact I.elim
 |zero _=>exact I.elim
 |blk b1 len cap sz M=>obtain⟨rfl,rfl⟩:=I;exact .inr (.inr (.inl ⟨g,len,cap,sz,lim,J,hle⟩))
 |mp b1 bs=>
   rcases I with⟨rfl,rfl⟩|hm
   ·obtain⟨_,_,_,N,clock,h4⟩:=h.mrow g _ bs J
    simp[cellAt,World.cell?,h4]at hu
   ·exact .inr (.inr (.inr ⟨g,b1,bs,lim,J,hm,hle⟩))
def fH(C:Ctx)(G:Gh)(w:World)(gs os:List Nat):Ctx:=
 {w0:=w,fp:=fun b=>gu G gs b∨∃lim,fk G os b lim,x:=fun b o=>cr C G b o∧¬(gu G gs b∨∃lim,fk G os b lim),
   keep:=fun b o=>∃lim,fk G os b lim∧o<lim,bx:=gs.map fun g=>(G.box g).getD 0}
theorem uH(hm:os.length=m):m=0->∀b,(fH C G w gs os).fp b->∃i:Nat,(fH C G w gs os).bx[i]?=some b:=by
 rintro rfl b (⟨g,I,hb⟩|⟨lim,g,I,_⟩)
 ·obtain⟨i,hi⟩:=Γ.1 I
  exact⟨i,by show(gs.map _)[i]?=_;rw[τ,hi];simp[hb]⟩
 ·grind
def iY(G:Gh)(gs os:List Nat):Gh:=⟨fun i=>(gs[i]?).bind G.box,fun i=>if i<gs.length then none else(os[i-gs.length]?).bind G.own⟩
theorem GC.wm[dG P][hC:GC P C]{n}(hs:bq C n st G tmps w):GC P (fH C G w gs os):=by
 obtain⟨W',N,I,J⟩:=hC.h;refine⟨W',N,B' I hs.fr.size,fun b hb=>⟨(hs.fr.block b (ψ hb I) (J b hb).2).trans (J b hb).1,?_⟩⟩;rintro(⟨g,_,M⟩|⟨_,g,_,r,M,hr⟩)
 ·rcases(hs.gbox g b M).2.2.1 with h|h
  ·omega
  ·grind
 ·rcases(hs.rowAt M hr).1.1 with h|h
  ·omega
  ·grind
theorem BA{o}(h:cr (fH C G w gs os) (iY G gs os) b o):cr C G b o:=by
 rcases h with h|⟨g,h⟩|⟨g,len,cap,sz,I,h,hle⟩|⟨g,J,bs,lim,h,hm,hle⟩
 ·exact h.1
 ·obtain⟨g0,_,h0⟩:=ξ.1 h
  exact Or.inr (Or.inl ⟨g0,h0⟩)
 ·simp only[iY]at h
  split at h;·grind
  ·obtain⟨g0,_,h0⟩:=ξ.1 h
   exact Or.inr (Or.inr (.inl ⟨g0,len,cap,sz,I,h0,hle⟩))
 ·simp only[iY]at h
  split at h;·grind
  ·obtain⟨g0,_,h0⟩:=ξ.1 h
   exact Or.inr (Or.inr (.inr ⟨g0,J,bs,lim,h0,hm,hle⟩))
theorem sX{o}(h:cr C G b o)(I:¬(gu G gs b∨∃lim,fk G os b lim)){J}:cr (fH C G w gs os) J b o:=Or.inl ⟨h,I⟩
theorem bG.oK(h:bq C n st G tmps w)(gs os:List Nat)(ch:gs.length+os.length<=gen'):
 ∀(k:Nat)(v:Value)(a:A),bG (br C G st.gen w) v a->bG (br (fH C G w gs os) (iY G gs os) gen' w) v (eV st.bx gs os k a):=by
 have X:∀b o u,cellAt w b o=some u->¬cr C G b o->cellAt w b o=some u∧¬cr (fH C G w gs os) (iY G gs os) b o:=fun b o u h1 h2=>⟨h1,fun hp=>h2 (BA hp)⟩;have hold:∀b,(∃g∈gs,G.box g=some b)∨(∃lim,fk G os b lim)->C.w0.heap.size<=b∨C.fp b:=by
  rintro b (⟨g,_,hg⟩|⟨lim,g,_,r,hg,hr⟩);·exact(h.gbox g b hg).2.2.1
  ·exact(h.rowAt hg hr).1.1
 intro k
 induction k with
 |zero=>intro v a _;exact .any v
 |succ k ih=>
   intro v a hr
   have a6:∀(l:List A)(vs:Array Value),(∀(i:Nat)(u:Value)(x:A),vs[i]?=some u->l[i]?=some x->bG (br C G st.gen w) u x)->
    ∀(i:Nat)(u:Value)(x:A),vs[i]?=some u->(l.map (eV st.bx gs os k))[i]?=some x->bG (br (fH C G w gs os) (iY G gs os) gen' w) u x:=by
    grind
   cases hr with
   |any=>exact .any _
   |d hd=>exact .d (hd.mono X)
   |ag vs l hs hd=>exact .ag vs l hs (fun i u x h1 h2=>(hd i u x h1 h2).mono X)
   |own _ g es hd _ N=>
     simp only[eV];split
     ·rename_i i hp
      have hi:=dC hp;have O:=(δ.1 hi).1;refine .own _ _ es (hd.mono X) (by simp only[br];omega) (fun r M=>N r ?_);have J:(if gs.length+i<gs.length then none else(os[gs.length+i-gs.length]?).bind G.own)=some r:=M;rw[if_neg (by omega),Nat.add_sub_cancel_left,hi]at J;exact J
     ·exact .d (hd.mono X)
   |agg vs l hs hone hd=>exact nv (by simp[hs]) hone (a6 l vs hd)
   |tup vs l hs hd=>exact .any _
   |rowd b off l u a1 hd=>exact .rowd b off l u (fun j hj=>X _ _ _ (a1 j hj).1 (a1 j hj).2) (fun j x N=>(hd j x N).mono X)
   |row b off l u a1 hd=>
     refine .row b off _ u (fun j hj=>?_) (fun j x N=>?_)
     ·have:=a1 j (by simpa using hj)
      refine⟨this.1,⟨eh this.1,fun hl=>?_⟩,this.2.2⟩;have h1:=hold b hl;have h2:=this.2.1;simp only[br]at h2;grind
     ·grind
   |xs _ g es aj h1 N=>
     simp only[eV];split
     ·rename_i i hp
      have hi:=dC hp;have O:=(δ.1 hi).1;refine .xs _ _ es (by simp only[br];omega) h1 (fun r M=>?_);have J:(if gs.length+i<gs.length then none else(os[gs.length+i-gs.length]?).bind G.own)=some r:=M;rw[if_neg (by omega),Nat.add_sub_cancel_left,hi]at J;exact(N r J).eu X
     ·exact .any _
   |xp=>exact .any _
   |ni t x=>exact .ni t x
   |fl _ es hd a7=>exact .fl _ es (hd.mono X) a7
   |bf _ g T s aj h1 N=>
     simp only[eV];split
     ·rename_i i hp
      have hi:=dC hp;have O:=(δ.1 hi).1;refine .bf _ _ T s (by simp only[br];omega) h1 (fun r M=>?_);have J:(if gs.length+i<gs.length then none else(os[gs.length+i-gs.length]?).bind G.own)=some r:=M;rw[if_neg (by omega),Nat.add_sub_cancel_left,hi]at J;exact N r J
     ·exact .any _
   |gi _ g I aj N=>
     simp only[eV];split
     ·rename_i i hp
      have hi:=dC hp;have O:=(δ.1 hi).1;refine .gi _ _ I (by simp only[br];omega) (fun r M=>?_);have J:(if gs.length+i<gs.length then none else(os[gs.length+i-gs.length]?).bind G.own)=some r:=M;rw[if_neg (by omega),Nat.add_sub_cancel_left,hi]at J;exact(N r J).eu X
     ·exact .any _
   |mp _ g es aj h1 N=>
     simp only[eV];split
     ·rename_i i hp
      have hi:=dC hp;have O:=(δ.1 hi).1;refine .mp _ _ es (by simp only[br];omega) h1 (fun r M=>?_);have J:(if gs.length+i<gs.length then none else(os[gs.length+i-gs.length]?).bind G.own)=some r:=M;rw[if_neg (by omega),Nat.add_sub_cancel_left,hi]at J;exact(N r J).eu X
     ·exact .any _
   |mq _ g es aj h1 N=>
     simp only[eV];split
     ·rename_i i hp
      have hi:=dC hp;have O:=(δ.1 hi).1;refine .mq _ _ es (by simp only[br];omega) h1 (fun r M=>?_);have J:(if gs.length+i<gs.length then none else(os[gs.length+i-gs.length]?).bind G.own)=some r:=M;rw[if_neg (by omega),Nat.add_sub_cancel_left,hi]at J;exact(N r J).eu X
     ·exact .any _
   |mo _ g es hole ob aj h1 N=>
     simp only[eV];split
     ·rename_i i hp
      have hi:=dC hp;have O:=(δ.1 hi).1;refine .mo _ _ es hole ob (by simp only[br];omega) h1 (fun r M=>?_);have J:(if gs.length+i<gs.length then none else(os[gs.length+i-gs.length]?).bind G.own)=some r:=M;rw[if_neg (by omega),Nat.add_sub_cancel_left,hi]at J;exact(N r J).eu X
     ·exact .any _
   |np _ g T b0 hg ad hT u ai=>
     simp only[eV];split
     ·rename_i i ar
      have hi:=dC ar;have O:=(δ.1 hi).1;refine .np _ i T b0 (by simp only[br];omega) ?_ (by exact hT) u ai;show(gs[i]?).bind G.box=some b0;rw[hi];exact ad
     ·exact .any _
   |lk=>exact .any _
   |fx=>exact .any _
   |ol=>exact .any _
   |ow=>exact .any _
   |sb _ g n c b0 hg ad hn ai=>
     simp only[eV];split
     ·rename_i i ar
      have hi:=dC ar;have O:=(δ.1 hi).1;refine .sb _ i n c b0 (by simp only[br];omega) ?_ hn ai;show(gs[i]?).bind G.box=some b0;rw[hi];exact ad
     ·exact .any _
   |ptr _ g off b0 hg ad ai=>
     have hp:=oF ad ai;simp only[eV];split
     ·rename_i i ar
      have hi:=dC ar;have O:=(δ.1 hi).1;refine .ptr _ i off b0 (by simp only[br];omega) ?_ ai;show(gs[i]?).bind G.box=some b0;rw[hi];exact ad
     ·rename_i cj
      split
      ·rename_i cells hb
       obtain⟨b,cs,T',h1,h2,h3,h4,h5⟩:=h.box g cells hb;rw[hp b h1];refine .row b off _ (fun j=>cs[off+j]?.getD default) (fun j hj=>?_) (fun j x N=>?_)
       ·have a8:off+j<cs.size:=by simp at hj;omega
        have e:cs[off+j]?=some cs[off+j]:=by simp[a8]
        refine⟨by show cellAt w b (off+j)=_;rw[cU h2,e];rfl,⟨(θ.1 h2).1,?_⟩,by rw[e];exact h4 _ _ e⟩;rintro(⟨g',b2,b3⟩|⟨lim,g',b2,r,M,hra⟩)
        ·have e:=h.inj g g' b h1 b3
         subst e;have:∀{l:List Nat},pos l g=none->g∉l:=by
          intro l
          induction l with
          |nil=>intro _ hm;cases hm
          |cons y l cl=>
            intro U hm;simp only[pos]at U
            cases e:Nat.beq y g with
            |true=>rw[e]at U;simp at U
            |false=>
              rw[e]at U;simp only[cond_false]at U;split at U;·grind
              ·rename_i cq
               rcases C'.1 hm with rfl|hm
               ·simp at e
               ·grind
         grind
        ·exact(h.rowAt M hra).2.1 g h1
       ·grind
      ·exact .any _
   |clo f vs l hs hd=>exact .clo f vs _ (by simp[hs]) (a6 l vs hd)
   |bnd f vs l hs hd=>exact .bnd f vs _ (by simp[hs]) (a6 l vs hd)
theorem jG{bx}:∀{r:List Nat}{l:List (List A)},iH bx gs os r=some l->l.length=r.length∧∀(i g:Nat),r[i]?=some g->∃c,bk bx g=some c∧l[i]?=some (c.map (eV bx gs os 5))
 |[],l,h=>by simp only[iH,Option.some.injEq]at h;subst h;simp
 |g0::r,l,h=>by
   simp only[iH]at h;split at h
   ·rename_i c l' I hl
    simp only[Option.some.injEq]at h;subst h;obtain⟨h1,h2⟩:=jG hl;grind
   ·grind
theorem pT{l:List Nat}(I:l.Nodup)(h1:l[i]?=some g)(h2:l[j]?=some g):i=j:=by grind[List.getElem?_eq_some_iff,List.pairwise_iff_getElem]
theorem bq.oK(h:bq C n st G tmps w){b0:List (List A)}(cj:gs.Nodup)(ai:os.Nodup)(cl:∀g∈os,g∈st.lv)(hb:iH st.bx gs os gs=some b0):
 (fH C G w gs os).bx.length=b0.length∧bq (fH C G w gs os) 0 ⟨[],fQ 0 b0,(List.range os.length).map (b0.length+·),b0.length+os.length⟩ (iY G gs os) #[] w:=by
 obtain⟨hl,aj⟩:=jG hb;refine⟨by simp[fH,hl],?_⟩;have I:∀{g r},(iY G gs os).own g=some r->gs.length<=g∧∃g0,os[g-gs.length]?=some g0∧G.own g0=some r:=by
  intro g r M;simp only[iY]at M;split at M;·cases M
  ·exact⟨by omega,ξ.1 M⟩
 refine{size:=rfl,frame:=fun t a ha=>by simp[look]at ha,box:=fun i l' hc=>?_,gbox:=fun i b ar=>?_,inj:=fun i j b h1 h2=>?_,live:=fun i hi=>?_,gown:=fun i r M=>?_,
          row:=fun i b len cap sz a6 M=>?_,mrow:=fun i b bs M=>?_,sub:=fun i b bs c lim M a1=>?_,gcell:=fun i b ar=>(let⟨g,_,h2⟩:=ξ.1 ar;h.gcell g b h2),xold:=fun b o hx=>⟨vT h hx.1,hx.2⟩,kold:=fun b o hk=>?_,lent:=fun i b hi=>?_,fr:=⟨rfl,rfl,rfl,ω _,fun _ _ _=>rfl,fun _ _ _ _ h=>h,.refl w⟩}
 ·obtain⟨_,h1⟩:=qX b0 0 i l' hc
  simp only[Nat.sub_zero]at h1;have J:i<gs.length:=by rw[<-hl];exact(δ.1 h1).1
  have a7:gs[i]?=some gs[i]:=by simp[J]
  obtain⟨c,h2,h3⟩:=aj i _ a7;rw[h1]at h3;simp only[Option.some.injEq]at h3;subst h3;obtain⟨b,cs,T,h4,h5,X,h7,h8⟩:=h.box _ c h2;refine⟨b,cs,T,by simp[iY,a7,h4],h5,by simpa using X,h7,fun j u a hu ha=>?_⟩;rw[τ,χ]at ha;obtain⟨y,hy,rfl⟩:=ha;exact bG.oK h gs os (gen':=b0.length+os.length) (by omega) 5 u y (h8 j u y hu hy)
 ·obtain⟨g,h1,h2⟩:=ξ.1 ar
  have J:i<gs.length:=(δ.1 h1).1;refine⟨by show i<b0.length+os.length;omega,(h.gbox g b h2).2.1,.inr (.inl ⟨g,ζ h1,h2⟩),?_⟩;rintro o ⟨lim,⟨g',_,r,N,O⟩,_⟩;exact absurd h2 ((h.rowAt N O).2.1 g)
 ·obtain⟨g1,h3,h4⟩:=ξ.1 h1
  obtain⟨g2,h5,X⟩:=ξ.1 h2;have e:=h.inj g1 g2 b h4 X;subst e;exact pT cj h3 h5
 ·obtain⟨j,hj,rfl⟩:=A'.1 hi
  have hj:j<os.length:=by simpa using hj
  obtain⟨r,M⟩:=h.live _ (cl _ (List.getElem_mem hj));refine⟨r,?_⟩;simp only[iY];rw[if_neg (by omega),hl,Nat.add_sub_cancel_left];simp[hj,M]
 ·obtain⟨h1,g0,h2,h3⟩:=I M
  have:=(δ.1 h2).1;simp only;omega
 ·obtain⟨h1,g0,h2,h3⟩:=I M
  obtain⟨h4,h5,X,h7⟩:=h.row g0 b len cap sz a6 h3;have hm:=ζ h2;refine⟨⟨.inr (.inr ⟨_,g0,hm,_,h3,rfl,rfl⟩),?_⟩,fun j hj=>?_,fun j a8 b2 cq b3 hj=>?_,h7⟩
  ·rintro o ⟨lim,⟨g',_,r',N,O⟩,J⟩
   have e:=(h.rowAt h3 ⟨rfl,rfl⟩).2.2.2 g' r' lim N O;rw[e.2]at J;exact J
  ·obtain⟨g2,_,h8⟩:=ξ.1 hj
   exact h5 g2 h8
  ·obtain⟨h9,g2,ad,U⟩:=I hj
   have e:=X g2 a8 b2 cq b3 U;subst e;have:=pT ai ad h2;omega
 ·obtain⟨h1,g0,h2,h3⟩:=I M
  obtain⟨h4,h5,X,h7⟩:=h.mrow g0 b bs h3;have hm:=ζ h2;refine⟨⟨.inr (.inr ⟨_,g0,hm,_,h3,Or.inl ⟨rfl,rfl⟩⟩),?_⟩,fun j hj=>?_,fun j bs' hj=>?_,h7⟩
  ·rintro o ⟨lim,⟨g',_,r',N,O⟩,J⟩
   have e:=(h.rowAt h3 (Or.inl ⟨rfl,rfl⟩)).2.2.2 g' r' lim N O;rw[e.2]at J;exact J
  ·obtain⟨g2,_,h8⟩:=ξ.1 hj
   exact h5 g2 h8
  ·obtain⟨h9,g2,ad,U⟩:=I hj
   have e:=X g2 bs' U;subst e;have:=pT ai ad h2;omega
 ·obtain⟨h1,g0,h2,h3⟩:=I M
  obtain⟨h4,h5,X,h7,h8⟩:=h.sub g0 b bs c lim h3 a1;have hm:=ζ h2;refine⟨⟨.inr (.inr ⟨_,g0,hm,_,h3,Or.inr a1⟩),?_⟩,fun j hj=>?_,fun j len cap sz a6 hj=>?_,fun j b' bs' cy hj cx=>?_,h8⟩
  ·rintro o ⟨ch,⟨g',_,r',N,O⟩,J⟩
   have e:=(h.rowAt h3 (Or.inr a1)).2.2.2 g' r' ch N O;rw[e.2]at J;exact J
  ·obtain⟨g2,_,h9⟩:=ξ.1 hj
   exact h5 g2 h9
  ·obtain⟨_,g2,_,U⟩:=I hj
   exact X g2 _ _ _ _ U
  ·obtain⟨h9,g2,ad,U⟩:=I hj
   obtain⟨e,e0⟩:=h7 g2 _ _ _ U cx;subst e;have:=pT ai ad h2;exact⟨by omega,e0⟩
 ·obtain⟨lim,⟨g',_,r',N,O⟩,_⟩:=hk
  exact(h.rowAt N O).2.2.1
 ·simp only[fH,τ,χ]at hi
  obtain⟨g,hg,rfl⟩:=hi;obtain⟨c,h2,_⟩:=aj i g hg;obtain⟨b,_,_,h4,_⟩:=h.box _ c h2;simp[iY,hg,h4]
theorem aU{E2:En}(hc:∀b o u,cellAt E.w b o=some u->¬E.pv b o->cellAt E2.w b o=some u∧¬E2.pv b o)(ho:∀g r,g<E.gen->E2.own (g+m)=some r->E.own g=some r)(hg:E.gen+m<=E2.gen)(hb:∀(i g b:Nat),gs[i]?=some g->E.box i=some b->g<E2.gen∧E2.box g=some b)(hw:E2.w=E.w){v}(h:bG E v a):bG E2 v (back gs m a):=by
 have ad:∀b o u,cellAt E.w b o=some u->¬E.pv b o->cellAt E.w b o=some u∧¬E2.pv b o:=fun b o u h1 h2=>⟨h1,(hc b o u h1 h2).2⟩
 induction h with
 |any x=>exact .any x
 |d hd=>exact .d (hd.mono hc)
 |ag vs l hs hd=>exact .ag vs l hs (fun i u x h1 h2=>(hd i u x h1 h2).mono hc)
 |own x g es hd J hr=>exact .own x _ es (hd.mono hc) (by omega) (fun r M=>hr r (ho g r J M))
 |agg vs l hs hone _ ih=>simp only[Ab.back,kG];refine .agg vs _ (by simp[hs]) hone (fun i u x hu N=>?_);grind
 |tup vs l hs _ ih=>simp only[Ab.back,kG];refine .tup vs _ (by simp[hs]) (fun i u x hu N=>?_);grind
 |rowd b off l u ai hd=>exact .rowd b off l u (fun j hj=>hc _ _ _ (ai j hj).1 (ai j hj).2) (fun j x N=>(hd j x N).mono hc)
 |row b off l u ai _ _=>exact .any _
 |np x i T X J O hT u hp=>
   simp only[Ab.back];split
   ·rename_i g U
    exact .np x g T X (hb i g X U O).1 (hb i g X U O).2 (hw▸hT) u hp
   ·exact .any _
 |lk=>exact .any _
 |fx=>exact .any _
 |ol=>exact .any _
 |ow=>exact .any _
 |sb x i n c X J O hn hp=>
   simp only[Ab.back];split
   ·rename_i g U
    exact .sb x g n c X (hb i g X U O).1 (hb i g X U O).2 hn hp
   ·exact .any _
 |ptr x i off X J O hp=>
   simp only[Ab.back];split
   ·rename_i g U
    exact .ptr x g off X (hb i g X U O).1 (hb i g X U O).2 hp
   ·exact .any _
 |xs x g es J h1 N=>exact .xs x _ es (by omega) h1 (fun r M=>hw▸(N r (ho g r J M)).eu ad)
 |xp x g i off l J h1 N=>exact .xp x _ i off l (by omega) h1 (fun r M=>hw▸(N r (ho g r J M)).eu ad)
 |ni t x=>exact .ni t x
 |fl x es hd aj=>exact .fl x es (hd.mono hc) aj
 |bf x g T s J h1 N=>exact .bf x _ T s (by omega) h1 (fun r M=>hw▸N r (ho g r J M))
 |mp x g es J h1 N=>exact .mp x _ es (by omega) h1 (fun r M=>hw▸(N r (ho g r J M)).eu ad)
 |gi x g I J N=>exact .gi x _ I (by omega) (fun r M=>hw▸(N r (ho g r J M)).eu ad)
 |mq x g es J h1 N=>exact .mq x _ es (by omega) h1 (fun r M=>hw▸(N r (ho g r J M)).eu ad)
 |mo x g es hole ob J h1 N=>exact .mo x _ es hole ob (by omega) h1 (fun r M=>hw▸(N r (ho g r J M)).eu ad)
 |clo f vs l hs _ ih=>simp only[Ab.back,kG];refine .clo f vs _ (by simp[hs]) (fun i u x hu N=>?_);grind
 |bnd f vs l hs _ ih=>simp only[Ab.back,kG];refine .bnd f vs _ (by simp[hs]) (fun i u x hu N=>?_);grind
theorem bq.zZ (h:bq C n st G tmps w) {b0:List (List A)} (hb:iH st.bx gs os gs=some b0) (hl1:b1.length=b0.length) {G1} (h1:bq (fH C G w gs os) 0 ⟨[],fQ 0 b1,(List.range k).map (b0.length+·),b0.length+k⟩ G1 #[] w'):
    ∃ G2,(∀ v a,bG (br (fH C G w gs os) G1 (b0.length+k) w') v a→bG (br C G2 (b0.length+k+st.gen) w') v (back gs st.gen a)) ∧
      bq C n ⟨st.f,ky gs st.gen gs b1++st.bx,(List.range k).map (b0.length+·+st.gen)++st.lv.filter (fun g=>!os.any (Nat.beq g)),b0.length+k+st.gen⟩ G2 tmps w':=by
  obtain⟨hl,hget⟩:=jG hb
  have memos:∀ g,os.any (Nat.beq g)=true↔g∈os:=by
    intro g
    rw[L']
    exact⟨fun ⟨x,hx,he⟩=>Θ he▸hx,fun hg=>⟨g,hg,Nat.beq_refl g⟩⟩
  let own2:Nat→Option Row:=fun g=>if g < st.gen then (if os.any (Nat.beq g) then none else G.own g) else G1.own (g - st.gen)
  let G2:Gh:=⟨G.box,own2⟩
  have hLb:∀ {b},gu G gs b→C.jX b 0∧b < w.heap.size:=by
    rintro b ⟨g,_,hg⟩
    exact⟨(h.gbox g b hg).2.2,(h.gbox g b hg).2.1⟩
  have hLr:∀ {b lim},fk G os b lim→C.jX b lim∧b < w.heap.size∧(∀ g',G.box g'≠some b):=by
    rintro b lim ⟨g,_,r,hg,hra⟩
    obtain⟨h1,h2,h3,_⟩:=h.rowAt hg hra
    exact⟨h1,h3,h2⟩
  have hLm:∀ {b},(gu G gs b∨∃ lim,fk G os b lim)→C.w0.heap.size≤b∨C.fp b:=by
    rintro b (hl | ⟨lim,hl⟩)
    · exact(hLb hl).1.1
    · exact(hLr hl).1.1
  have hG1:∀ {i g:Nat} {b:Nat},gs[i]? = some g→G.box g=some b→G1.box i=some b:=by
    intro i g b hi hg
    refine h1.lent i b ?_
    simp[fH,hi,hg]
  have old2:∀ {g r},own2 g=some r→(g < st.gen∧g∉os∧G.own g=some r)∨(st.gen≤g∧G1.own (g - st.gen)=some r):=by
    intro g r hr
    simp only[own2] at hr
    split at hr
    · rename_i hlt
      split at hr
      · cases hr
      · rename_i hno
        exact .inl ⟨hlt,fun hm=>hno ((memos g).2 hm),hr⟩
    · exact .inr ⟨by omega,hr⟩
  have hstay:∀ {b},b < w.heap.size→¬ (gu G gs b∨∃ lim,fk G os b lim)→w'.heap[b]? = w.heap[b]?:=fun hlt hn=>h1.fr.block _ hlt hn
  have hnotrow:∀ {g b lim r},G.own g=some r→r.ru b lim→g∉os→¬ (gu G gs b∨∃ lim,fk G os b lim):=by
    rintro g b lim r hg hra hno (⟨g',_,hb'⟩ | ⟨lim',g',hg',r',hr',hra'⟩)
    · exact(h.rowAt hg hra).2.1 g' hb'
    · have e:=(h.rowAt hg hra).2.2.2 g' r' lim' hr' hra'
      exact hno (e.1▸hg')
  have hnotbox:∀ {g b},G.box g=some b→g∉gs→¬ (gu G gs b∨∃ lim,fk G os b lim):=by
    rintro g b hg hno (⟨g',hg',hb'⟩ | ⟨lim,hl⟩)
    · have e:=h.inj g g' b hg hb'
      subst e
      exact hno hg'
    · exact(hLr hl).2.2 g hg
  have hnew:∀ {g b lim r},G1.own g=some r→r.ru b lim→C.jX b lim∧(∀ g',G.box g'≠some b)∧(w.heap.size≤b∨∃ lim',fk G os b lim'∧lim'≤lim):=by
    intro g b lim r hg hra
    obtain⟨⟨hm,hk⟩,hnb,_⟩:=h1.rowAt hg hra
    have hm':w.heap.size≤b∨(gu G gs b∨∃ lim,fk G os b lim):=hm
    rcases hm' with hm | hm | ⟨lim',hm⟩
    · refine⟨⟨.inl (B' h.fr.size hm),fun o ho=>?_⟩,fun g' hg'=>?_,.inl hm⟩
      · have:=h.kold b o ho
        have:=h.fr.size
        omega
      · have:=(h.gbox g' b hg').2.1
        omega
    · obtain⟨g0,hg0,hb0⟩:=hm
      obtain⟨i,hi⟩:=Γ.1 hg0
      exact absurd (hG1 hi hb0) (hnb i)
    · have hlim:lim'≤lim:=by
        rcases V' lim lim' with hlt | hge
        · exact absurd (hk lim ⟨lim',hm,hlt⟩) (Nat.lt_irrefl _)
        · exact hge
      obtain⟨q1,q2,q3⟩:=hLr hm
      exact⟨⟨q1.1,fun o ho=>ψ (q1.2 o ho) hlim⟩,q3,.inr ⟨lim',hm,hlim⟩⟩
  have hfr:Fr C w':=by
    refine⟨h1.fr.os.trans h.fr.os,h1.fr.tape.trans h.fr.tape,h1.fr.output.trans h.fr.output,B' h.fr.size h1.fr.size,fun b hlt hn=>?_,fun b o u hk hu=>?_,h.fr.ty.trans h1.fr.ty⟩
    · rw[hstay (ψ hlt h.fr.size) (fun hl=>(hLm hl).elim (fun h=>by omega) hn)]
      exact h.fr.block b hlt hn
    · have hu':=h.fr.cells b o u hk hu
      by_cases hl:gu G gs b∨∃ lim,fk G os b lim
      · rcases hl with hl | ⟨lim,hl⟩
        · exact absurd ((hLb hl).1.2 o hk) (Nat.not_lt_zero _)
        · exact h1.fr.cells b o u ⟨lim,hl,(hLr hl).1.2 o hk⟩ hu'
      · rw[cS (hstay (eh hu') hl)]
        exact hu'
  have hpv2:∀ {b o},cr C G2 b o→cr (fH C G w gs os) G1 b o:=by
    rintro b o (hp | ⟨g,hp⟩ | ⟨g,len,cap,sz,pub,hp,hle⟩ | ⟨g,b',bs,lim,hp,hm,hle⟩)
    · refine sX (.inl hp) (fun hl=>?_)
      obtain⟨h2,h3⟩:=h.xold b o hp
      exact(hLm hl).elim (fun h=>by omega) h3
    · by_cases hg:g∈gs
      · obtain⟨i,hi⟩:=Γ.1 hg
        exact .inr (.inl ⟨i,hG1 hi hp⟩)
      · exact sX (G:=G) (.inr (.inl ⟨g,hp⟩)) (hnotbox hp hg)
    · rcases old2 hp with ⟨_,h3,h4⟩ | ⟨_,h3⟩
      · exact sX (.inr (.inr (.inl ⟨g,len,cap,sz,pub,h4,hle⟩))) (hnotrow h4 ⟨rfl,rfl⟩ h3)
      · exact .inr (.inr (.inl ⟨_,len,cap,sz,pub,h3,hle⟩))
    · rcases old2 hp with ⟨_,h3,h4⟩ | ⟨_,h3⟩
      · exact sX (.inr (.inr (.inr ⟨g,b',bs,lim,h4,hm,hle⟩))) (hnotrow h4 (Or.inr hm) h3)
      · exact .inr (.inr (.inr ⟨_,b',bs,lim,h3,hm,hle⟩))
  have hback:∀ v a,bG (br (fH C G w gs os) G1 (b0.length+k) w') v a→bG (br C G2 (b0.length+k+st.gen) w') v (back gs st.gen a):=by
    intro v a hr
    refine aU (E:=br (fH C G w gs os) G1 (b0.length+k) w') (E2:=br C G2 (b0.length+k+st.gen) w') (fun b o u hu hn=>⟨hu,fun hp=>hn (hpv2 hp)⟩) (fun g r hg hr'=>?_) (by simp[br]) (fun i g b hi hb1=>?_) Z hr
    · have hr2:own2 (g+st.gen)=some r:=hr'
      rcases old2 hr2 with ⟨h3,_⟩ | ⟨_,h3⟩
      · omega
      · rw[Nat.add_sub_cancel] at h3
        exact h3
    · obtain⟨c,h2,_⟩:=hget i g hi
      obtain⟨b',_,_,h4,_⟩:=h.box _ c h2
      have h5:=hG1 hi h4
      have h6:G1.box i=some b:=hb1
      rw[h5] at h6
      simp only[Option.some.injEq] at h6
      subst h6
      have:=(h.gbox g b' h4).1
      exact⟨by simp only[br];omega,h4⟩
  have hle:(br C G st.gen w).le (br C G2 (b0.length+k+st.gen) w'):=by
    refine mA h.fr hfr (fun b o u hu hn=>⟨?_,fun hp=>?_⟩) (fun _ _ h=>h) (fun g r hg hr=>?_) (by omega) (fun g b len cap sz pub hg hr=>?_) (fun g b bs hg hr=>?_) h1.fr.ty
    · by_cases hl:gu G gs b∨∃ lim,fk G os b lim
      · rcases hl with ⟨g,_,hg⟩ | ⟨lim,hl⟩
        · exact absurd (.inr (.inl ⟨g,hg⟩)) hn
        · refine h1.fr.cells b o u ⟨lim,hl,?_⟩ hu
          obtain⟨g,_,r,hg,hra⟩:=hl
          exact Nat.lt_of_not_le fun hle=>hn (h.FW hg hra hu hle)
      · rw[cS (hstay (eh hu) hl)]
        exact hu
    · rcases hp with hp | ⟨g,hp⟩ | ⟨g,len,cap,sz,pub,hp,hle⟩ | ⟨g,b',bs,lim0,hp,hm,hle⟩
      · exact hn (.inl hp)
      · exact hn (.inr (.inl ⟨g,hp⟩))
      · rcases old2 hp with ⟨_,_,h4⟩ | ⟨_,h3⟩
        · exact hn (.inr (.inr (.inl ⟨g,len,cap,sz,pub,h4,hle⟩)))
        · have hlt:=eh hu
          rcases(hnew h3 ⟨rfl,rfl⟩).2.2 with h5 | ⟨lim,hl,hlim⟩
          · omega
          · obtain⟨g0,_,r0,hg0,hra⟩:=hl
            exact hn (h.FW hg0 hra hu (by omega))
      · rcases old2 hp with ⟨_,_,h4⟩ | ⟨_,h3⟩
        · exact hn (.inr (.inr (.inr ⟨g,b',bs,lim0,h4,hm,hle⟩)))
        · have hlt:=eh hu
          rcases(hnew h3 (Or.inr hm)).2.2 with h5 | ⟨lim,hl,hlim⟩
          · omega
          · obtain⟨g0,_,r0,hg0,hra⟩:=hl
            exact hn (h.FW hg0 hra hu (by omega))
    · have hr2:own2 g=some r:=hr
      rcases old2 hr2 with ⟨_,_,h3⟩ | ⟨h3,_⟩
      · exact h3
      · omega
    · have hr2:own2 g=some (.blk b len cap sz pub):=hr
      rcases old2 hr2 with ⟨_,h3,h4⟩ | ⟨h3,_⟩
      · exact hstay (h.rowAt h4 ⟨rfl,rfl⟩).2.2.1 (hnotrow h4 ⟨rfl,rfl⟩ h3)
      · omega
    · have hr2:own2 g=some (.mp b bs):=hr
      rcases old2 hr2 with ⟨_,h3,h4⟩ | ⟨h3,_⟩
      · exact⟨fun c hc=>by subst hc;exact hstay (h.rowAt (b:=c) (lim:=0) h4 (Or.inl ⟨rfl,rfl⟩)).2.2.1 (hnotrow (b:=c) (lim:=0) h4 (Or.inl ⟨rfl,rfl⟩) h3),fun p hp=>hstay (h.rowAt (lim:=p.2) h4 (Or.inr hp)).2.2.1 (hnotrow (lim:=p.2) h4 (Or.inr hp) h3)⟩
      · omega
  refine⟨G2,hback,{ size:=h.size,frame:=h.e9 hle,inj:=h.inj,xold:=h.xold,kold:=h.kold,lent:=h.lent,fr:=hfr,gcell:=fun g b hb'=>nE h1.fr.ty (h.gcell g b hb'),box:=?_,gbox:=?_,live:=?_,gown:=?_,row:=?_,mrow:=?_,sub:=?_ }⟩
  · intro g cells hc
    by_cases hg:g∈gs
    · have hz:∃ c,bk (ky gs st.gen gs b1) g=some c:=by
        clear hback hle hpv2
        have:∀ (r:List Nat) (l:List (List A)),l.length=r.length→g∈r→∃ c,bk (ky gs st.gen r l) g=some c:=by
          intro r
          induction r with
          | nil=>intro l _ hm;cases hm
          | cons x r ih=>
            intro l hl hm
            cases l with
            | nil=>simp at hl
            | cons c l=>
              simp only[ky,du]
              by_cases e:x=g
              · rw[if_pos e];exact⟨_,rfl⟩
              · rw[if_neg e]
                exact ih l (by simpa using hl) ((C'.1 hm).resolve_left (fun h=>e h.symm))
        exact this gs b1 (by omega) hg
      obtain⟨c,hz⟩:=hz
      have hcc:c=cells:=by
        rcases l3 hc with h2 | h2
        · rw[h2] at hz;exact(P' hz).symm
        · have:bk (ky gs st.gen gs b1++st.bx) g=some c:=by
            clear hc hback hle
            revert hz
            generalize ky gs st.gen gs b1=z
            intro hz
            induction z with
            | nil=>simp[bk] at hz
            | cons x z ih=>
              obtain⟨s,y⟩:=x
              rw[du] at hz
              rw[List.cons_append,du]
              split
              · rename_i e;rw[if_pos e] at hz;exact hz
              · rename_i e;rw[if_neg e] at hz;exact ih hz
          rw[this] at hc
          exact P' hc
      subst hcc
      obtain⟨i,c0,h2,h3,rfl⟩:=sP hz
      obtain⟨b,cs,T,h4,h5,h6,h7,h8⟩:=h1.box i c0 (by have:=zL b1 0 i c0 h3;simpa using this)
      obtain⟨c2,h9,_⟩:=hget i g h2
      obtain⟨b',_,_,h10,_⟩:=h.box g c2 h9
      have e:b'=b:=by
        have:=hG1 h2 h10
        rw[h4] at this
        exact(P' this).symm
      subst e
      refine⟨b',cs,T,h10,h5,by rw[kG,η];exact h6,h7,fun j u a hu ha=>?_⟩
      rw[kG,τ,χ] at ha
      obtain⟨y,hy,rfl⟩:=ha
      exact hback u y (h8 j u y hu hy)
    · have hc2:bk st.bx g=some cells:=by
        rcases l3 hc with h2 | h2
        · obtain⟨i,c0,h3,_⟩:=sP h2
          exact absurd (ζ h3) hg
        · exact h2
      obtain⟨b,cs,T,h4,h5,h6,h7,h8⟩:=h.box g cells hc2
      refine⟨b,cs,T,h4,by rw[hstay (θ.1 h5).1 (hnotbox h4 hg)];exact h5,h6,h7,fun j u a hu ha=>(h8 j u a hu ha).mono hle⟩
  · intro g b hgb
    obtain⟨h2,h3,h4⟩:=h.gbox g b hgb
    exact⟨by simp only;omega,ψ h3 h1.fr.size,h4⟩
  · intro g hg
    rcases F'.1 hg with hg | hg
    · obtain⟨j,hj,rfl⟩:=A'.1 hg
      obtain⟨r,hr⟩:=h1.live (b0.length+j) (A'.2 ⟨j,hj,rfl⟩)
      refine⟨r,?_⟩
      simp only[G2,own2]
      rw[if_neg (by omega),Nat.add_sub_cancel]
      exact hr
    · obtain⟨h2,h3⟩:=List.mem_filter.1 hg
      obtain⟨r,hr⟩:=h.live g h2
      refine⟨r,?_⟩
      simp only[G2,own2]
      rw[if_pos (h.gown g r hr),if_neg (by cases e:os.any (Nat.beq g) with | true=>rw[e] at h3;cases h3 | false=>simp)]
      exact hr
  · intro g r hr
    rcases old2 hr with ⟨h2,_⟩ | ⟨h2,h3⟩
    · simp only;omega
    · have:=h1.gown _ r h3
      simp only at this ⊢
      omega
  · intro g b len cap sz pub hr
    rcases old2 hr with ⟨h2,h3,h4⟩ | ⟨h2,h3⟩
    · obtain⟨h5,h6,h7,cur,T,h8,h9⟩:=h.row g b len cap sz pub h4
      refine⟨h5,h6,fun g' len' cap' sz' pub' hr'=>?_,cur,T,by rw[hstay (θ.1 h8).1 (hnotrow h4 ⟨rfl,rfl⟩ h3)];exact h8,h9⟩
      rcases old2 hr' with ⟨_,_,h10⟩ | ⟨_,h10⟩
      · exact h7 g' len' cap' sz' pub' h10
      · rcases(hnew h10 ⟨rfl,rfl⟩).2.2 with h11 | ⟨lim,h11,_⟩
        · have:=(θ.1 h8).1
          omega
        · exact absurd (.inr ⟨lim,h11⟩) (hnotrow h4 ⟨rfl,rfl⟩ h3)
    · obtain⟨h5,h6,h7,h8⟩:=h1.row _ b len cap sz pub h3
      refine⟨(hnew h3 ⟨rfl,rfl⟩).1,(hnew h3 ⟨rfl,rfl⟩).2.1,fun g' len' cap' sz' pub' hr'=>?_,h8⟩
      rcases old2 hr' with ⟨_,h10,h12⟩ | ⟨_,h10⟩
      · rcases(hnew h3 ⟨rfl,rfl⟩).2.2 with h11 | ⟨lim,h11,_⟩
        · have:=(h.rowAt h12 ⟨rfl,rfl⟩).2.2.1
          omega
        · exact absurd (.inr ⟨lim,h11⟩) (hnotrow h12 ⟨rfl,rfl⟩ h10)
      · have:=h7 _ len' cap' sz' pub' h10
        omega
  · intro g b bs hr
    rcases old2 hr with ⟨h2,h3,h4⟩ | ⟨h2,h3⟩
    · obtain⟨h5,h6,h7,me,clock,h8⟩:=h.mrow g b bs h4
      have hnr:=hnotrow h4 (Or.inl ⟨rfl,rfl⟩) h3
      refine⟨h5,h6,fun g' bs' hr'=>?_,me,clock,by rw[hstay (θ.1 h8).1 hnr];exact h8⟩
      rcases old2 hr' with ⟨_,_,h10⟩ | ⟨_,h10⟩
      · exact h7 g' bs' h10
      · rcases(hnew h10 (Or.inl ⟨rfl,rfl⟩)).2.2 with h11 | ⟨lim,h11,_⟩
        · have:=(θ.1 h8).1
          omega
        · exact absurd (.inr ⟨lim,h11⟩) hnr
    · obtain⟨h5,h6,h7,h8⟩:=h1.mrow _ b bs h3
      have hn:=hnew h3 (Or.inl ⟨rfl,rfl⟩)
      refine⟨hn.1,hn.2.1,fun g' bs' hr'=>?_,h8⟩
      rcases old2 hr' with ⟨_,h10,h12⟩ | ⟨_,h10⟩
      · rcases hn.2.2 with h11 | ⟨lim,h11,_⟩
        · have:=(h.rowAt h12 (Or.inl ⟨rfl,rfl⟩)).2.2.1
          omega
        · exact absurd (.inr ⟨lim,h11⟩) (hnotrow h12 (Or.inl ⟨rfl,rfl⟩) h10)
      · have:=h7 _ _ h10
        omega
  · intro g b bs c lim hr hm
    rcases old2 hr with ⟨h2,h3,h4⟩ | ⟨h2,h3⟩
    · obtain⟨h5,h6,h7,h8,cur,T,h9,h10⟩:=h.sub g b bs c lim h4 hm
      have hcl:=(θ.1 h9).1
      have hnr:=hnotrow h4 (Or.inr hm) h3
      refine⟨h5,h6,fun g' len cap sz pub hr'=>?_,fun g' b' bs' lim' hr' hm'=>?_,cur,T,by rw[hstay hcl hnr];exact h9,h10⟩
      · rcases old2 hr' with ⟨_,_,h11⟩ | ⟨_,h11⟩
        · exact h7 g' _ _ _ _ h11
        · rcases(hnew h11 ⟨rfl,rfl⟩).2.2 with h12 | ⟨lim2,h12,_⟩
          · omega
          · exact hnr (.inr ⟨lim2,h12⟩)
      · rcases old2 hr' with ⟨_,_,h11⟩ | ⟨_,h11⟩
        · exact h8 g' _ _ _ h11 hm'
        · rcases(hnew h11 (Or.inr hm')).2.2 with h12 | ⟨lim2,h12,_⟩
          · omega
          · exact absurd (.inr ⟨lim2,h12⟩) hnr
    · obtain⟨h5,h6,h7,h8,h9⟩:=h1.sub _ b bs c lim h3 hm
      have hn:=hnew h3 (Or.inr hm)
      refine⟨hn.1,hn.2.1,fun g' len cap sz pub hr'=>?_,fun g' b' bs' lim' hr' hm'=>?_,h9⟩
      · rcases old2 hr' with ⟨_,h10,h12⟩ | ⟨_,h10⟩
        · rcases hn.2.2 with h11 | ⟨lim2,h11,_⟩
          · have:=(h.rowAt h12 ⟨rfl,rfl⟩).2.2.1
            omega
          · exact absurd (.inr ⟨lim2,h11⟩) (hnotrow h12 ⟨rfl,rfl⟩ h10)
        · exact h7 _ _ _ _ _ h10
      · rcases old2 hr' with ⟨_,h10,h12⟩ | ⟨_,h10⟩
        · rcases hn.2.2 with h11 | ⟨lim2,h11,_⟩
          · have:=(h.rowAt h12 (Or.inr hm')).2.2.1
            omega
          · exact absurd (.inr ⟨lim2,h11⟩) (hnotrow h12 (Or.inr hm') h10)
        · have:=h8 _ _ _ _ h10 hm'
          omega
theorem WO.bu[dG P][GC P C](hg:o.guard=none)(hd:gZ n o.dst=true){X}(ho:o.op=.call ⟨.value x,xs,X⟩){I}(hx:av st.f x=some (.clo fid caps))(a6:l7 st.f xs.toList=some I)(gs os:List Nat)(a7:nodupB gs=true)(a8:nodupB os=true)(b2:(os.all fun g=>st.lv.any fun h=>Nat.beq h g)=true){M:List (List A)}{r}(hf:bU P fid args M m r b1 k)(ad:(I++caps).map (eV st.bx gs os 5)=args)(hb:iH st.bx gs os gs=some M)(hm:os.length=m)(h:WO P C n ops Q rest (St.put ⟨st.f,ky gs st.gen gs b1++st.bx,(List.range k).map (M.length+·+st.gen)++st.lv.filter (fun g=>!os.any (Nat.beq g)),M.length+k+st.gen⟩ o.dst (back gs st.gen r))):WO P C n ops Q (o::rest) st:=by
 subst hm;subst ad;refine WO.step hg fun tmps w⟨G,hs⟩=>?_;obtain⟨fn,b3,N,O⟩:=hf.ok;have hr:=hs.av hx;generalize hv:Act.eval ⟨tmps,[]⟩ x=v at hr
 cases hr with
 |clo _ vs _ ch hcd=>
 obtain⟨h1,h2⟩:=kS hs xs.toList I a6;have ai:(execOp (Act.eval ⟨tmps,[]⟩) o).run P w=.ok (.enter fid (xs.map (Act.eval ⟨tmps,[]⟩)++vs)) w:=by unfold execOp;rw[ho];show Sem.run P (do let d←resolve (Act.eval ⟨tmps,[]⟩) ⟨.value x,xs,X⟩ o.type;invoke d.target d.args) w=_;simp only[resolve,hv,Deferred.ofValue,Sem.run_bind,Sem.run_pure,Result.andThen_ok,invoke,callFunc,run_program,b3,N,O,N',if_false,Array.empty_append]
 obtain⟨hlen,aj⟩:=hs.oK (gs:=gs) (os:=os) (fM a7) (fM a8) (fun g hg=>by obtain⟨y,J,he⟩:=L'.1 (M'.1 b2 g hg);exact Θ he▸J) hb;have c6:=(jG hb).1;unfold eB;have U:(execOp (Act.eval {tmps:=tmps,defers:=[]}) o).run P w=.ok (.enter fid (xs.map (Act.eval ⟨tmps,[]⟩)++vs)) w:=ai;rw[U];refine(hf.calls (fH C G w gs os) (iY G gs os) _ w (GC.wm hs) rfl hlen rfl (uH rfl) aj (by simp at h1;simp[ch,h1]) (fun i u a hu ha=>?_)).mono fun e w'⟨v,G',he,h3,h4⟩=>?_
 ·simp only[τ,χ]at ha
  obtain⟨y,J,rfl⟩:=ha;refine bG.oK hs gs os (by omega) 5 u y ?_;simp only[Array.getElem?_append]at hu;split at hu
  ·rename_i cj
   simp only[Array.size_map]at cj;have ar:i<I.length:=by simp at h1;omega
   rw[y' ar]at J;obtain⟨z,hz,cl⟩:=h2 i y J;simp only[Array.getElem?_map,χ]at hu;obtain⟨z',cq,rfl⟩:=hu;have:z=z':=by simp at hz;rw[cq]at hz;exact(P' hz).symm
   subst this;exact cl
  ·rename_i cx
   simp only[Array.size_map]at cx hu;have a1:I.length<=i:=by simp at h1;omega
   rw[Ω a1]at J;refine hcd (i-xs.size) u y hu ?_;have:xs.size=I.length:=by simpa using h1
   rw[this];exact J
 ·obtain⟨G2,cy,c1⟩:=hs.zZ hb hf.len h3
  exact⟨v,he,_,⟨G2,c1.put (dp hd) (cy v r h4)⟩,h⟩
end
section
variable{n:Nat}{rest:List Oper}{c:Code}
variable{bx:List (Nat×List A)}{gen:Nat}{op:Op}{pos:String}{af:Array Edge}
theorem bq.HU(h:bq C n st G tmps w)(hb:bk st.bx g=some cells)(hl:cells'.length=cells.length)(M:∀(i:Nat)(u:Value)(a a':A),cells[i]?=some a->cells'[i]?=some a'->bG (br C G st.gen w) u a->bG (br C G st.gen w) u a'):bq C n {st with bx:=(g,cells')::st.bx} G tmps w:=by
 refine{h with box:=fun J c I=>?_};simp only[du]at I;split at I
 ·rename_i e
  subst e;simp only[Option.some.injEq]at I;subst I;obtain⟨b,cs,T,h1,h2,h3,h4,h5⟩:=h.box g cells hb;grind
 ·exact h.box J c I
def isNil:A->Bool
 |.d (.v (.slice none 0 0))=>true
 |_=>false
theorem HG(h:isNil a=true):a=.d (.v (.slice none 0 0)):=by grind[isNil]
theorem gA.ey(h:gA C n st tmps w)(hb:bk st.bx g=some cells)(hj:cells[j]?=some (.d (.v (.slice none 0 0)))):
 gA C n ⟨st.f,(g,cells.set j (.own st.gen []))::st.bx,st.gen::st.lv,st.gen+1⟩ tmps w:=by
 obtain⟨G,h⟩:=h;obtain⟨⟨N,_,hs,O⟩⟩:=h.oy false st.lv (fun _ h=>h);refine⟨N,bq.HU (st:={st with lv:=st.gen::st.lv,gen:=st.gen+1}) hs hb (by simp) (fun i u a a' J I M=>?_)⟩;rw[List.getElem?_set]at I;split at I
 ·rename_i e
  subst e;rw[hj]at J;simp only[Option.some.injEq]at J;subst J;split at I
  ·simp only[Option.some.injEq]at I
   subst I;cases M with|d M=>cases M;exact O
  ·grind
 ·grind
theorem ey(g j)(hb:bk bx g=some cells)(hj:cells[j]?=some (.d (.v (.slice none 0 0))))(I:cells.set j (.own gen [])=cells')(h:W P C n c Q ⟨f,(g,cells')::bx,gen::lv,gen+1⟩):W P C n c Q ⟨f,bx,lv,gen⟩:=by subst I;exact fun tmps w hs=>h tmps w (hs.ey hb hj)
theorem bu[dG P][GC P C]{O J}{I:List (List A)}{r U bx'}(gs os:List Nat)(hx:av f x=some (.clo fid caps))(X:l7 f xs.toList=some J)(M:(J++caps).map (eV bx gs os 5)=args)(hb:iH bx gs os gs=some I)(hm:os.length=m)(hf:bU P fid args I m r b1 k)(ad:nodupB gs=true)(ai:nodupB os=true)(aj:(os.all fun g=>lv.any fun h=>Nat.beq h g)=true)(hd:Nat.blt d n=true)(hr:back gs gen r=U)(ar:ky gs gen gs b1++bx=bx')(a1:(List.range k).map (I.length+·+gen)++lv.filter (fun g=>!os.any (Nat.beq g))=lv')(N:I.length+k+gen=gen')(h:WO P C n ops Q rest ⟨(d,U)::f,bx',lv',gen'⟩):
 WO P C n ops Q (⟨some d,.call ⟨.value x,xs,O⟩,ty,pos,af,none⟩::rest) ⟨f,bx,lv,gen⟩:=by
 subst hr;subst ar;subst a1;subst N;exact WO.bu (st:=⟨f,bx,lv,gen⟩) rfl hd rfl hx X gs os ad ai aj hf M hb hm h
def yQ(order:List Nat)(bx:List (Nat×List A)):Nat->List (List A)->Prop
 |_,[]=>True
 |i,c::r=>(match bk bx i with|some c0=>some (ia order c0)|none=>none)=some c∧yQ order bx (i+1) r
theorem yQ.get{bx}:∀{l:List (List A)}{k:Nat},yQ order bx k l->∀(i:Nat)(c:List A),l[i]?=some c->∃c0,bk bx (k+i)=some c0∧ia order c0=c
 |[],_,_,i,c,h=>by simp at h
 |b::l,k,hh,i,c,h=>by
   cases i with
   |zero=>simp at h;subst h;have:=hh.1;grind
   |succ i=>have:=yQ.get hh.2 i c (by simpa using h);grind
theorem ak(T:cT P){r e l}(order:List Nat)(he:match e with|.normal=>True|.ret=>True|_=>False)(hl:lY T f bx rs=some l)(M:order.length=k)(I:nodupB (gp b1.length order)=true)(J:(order.all fun g=>lv.any fun h=>Nat.beq h g)=true)(hb:yQ (gp b1.length order) bx 0 b1)(N:cV (gp b1.length order) (bO l)=r):cf T rs r b1 k e ⟨f,bx,lv,gen⟩:=
 cf.ret (st:=⟨f,bx,lv,gen⟩) T order he hl M I J (fun i c O=>by have:=hb.get i c O;simpa using this) N
end
abbrev Bt:=Nat->Option (List A)
def gN(β:Bt):Option (Nat×List A)->Bt
 |some (g,c)=>fun h=>if h=g then some c else β h
 |none=>β
def lW(o:Oper):Bool:=match o.op with|.alloc _=>true|.box _ _=>true|_=>false
def L4(o:Oper):Bool:=match o.op with|.store _ _ _=>true|_=>false
def oO(o:Oper):Option Nat:=match o.op with|.store _ (.tmp d) _=>some d|_=>none
def eP:List Oper->Nat->Nat
 |[],_=>0
 |_::_,0=>0
 |o::r,i+1=>(bif lW o then 1 else 0)+eP r i
theorem yv:∀(l:List Oper){i j:Nat},i<=j->eP l i<=eP l j
 |[],i,j,_=>by simp[eP]
 |o::r,0,j,_=>by simp[eP]
 |o::r,i+1,0,h=>by omega
 |o::r,i+1,j+1,h=>by have:=yv r (i:=i) (j:=j) (by omega);simp only[eP];omega
theorem ux:∀{l:List Oper}{i:Nat}{o:Oper},l[i]?=some o->lW o=true->eP l (i+1)=eP l i+1
 |[],i,o,h,_=>by simp at h
 |x::r,0,o,h,hn=>by simp at h;subst h;cases r<;>simp[eP,hn]
 |x::r,i+1,o,h,hn=>by have:=ux (l:=r) (i:=i) (by simpa using h) hn;grind[eP]
theorem x8{l:List Oper}(h:l[i]?=some o)(I:lW o=true)(J:i<j):eP l i<eP l j:=by have h1:=ux h I;have h2:=yv l (i:=i+1) (j:=j) (by omega);omega
section
variable(T:cT P){n:Nat}{bx:List (Nat×List A)}{gen r:Nat}{md:Region.Mode}
abbrev Sg:=fB×Bt
structure jR(C:Ctx)(n:Nat)(bx:List (Nat×List A))(lv:List Nat)(gen r:Nat)(σ:Sg)(G:Gh)(tmps:Array Value)(w:World):Prop where
 s:bq C n ⟨[],bx,lv,gen+r⟩ G tmps w
 f:∀t a,σ.1 t=some a->∃v,tmps[t]?=some v∧bG (br C G (gen+r) w) v a
 b:∀g cells,σ.2 g=some cells->gen<=g∧∃b cs T,G.box g=some b∧w.heap[b]?=some (.cells cs T (0,0))∧cs.size=cells.length∧
   (∀(i:Nat)(u:Value),cs[i]?=some u->u.oneCell'=true)∧∀(i:Nat)(u:Value)(a:A),cs[i]?=some u->cells[i]?=some a->bG (br C G (gen+r) w) u a
 n:∀g,gen<=g->σ.2 g=none->G.box g=none
 o:∀g,gen<=g->∀c,bk bx g≠some c
theorem jR.oT{I:Sg}(h:jR C n bx lv gen r I G tmps w){bn}(J:∀t a,look f t=some a->I.1 t=some a)(hb:∀g c,bk bn g=some c->I.2 g=some c):
 bq C n ⟨f,bn++bx,lv,gen+r⟩ G tmps w:=
 {h.s with frame:=fun t a M=>h.f t a (J t a M),box:=fun g c N=>(l3 N).elim (fun h1=>(h.b g c (hb g c h1)).2) (h.s.box g c)}
theorem jR.DJ(h:bq C n ⟨f,bx,lv,gen⟩ G tmps w):jR C n bx lv gen r (look f,fun _=>none) G tmps w:=by
 have h2:bq C n ⟨f,bx,lv,gen+r⟩ G tmps w:=bq.later (st:=⟨f,bx,lv,gen⟩) h (Nat.le_add_right _ _);refine⟨{h2 with frame:=fun t a J=>by simp[look]at J},h2.frame,(fun g c I=>nomatch I),fun g M _=>?_,fun g M c I=>?_⟩;rotate_left
 ·obtain⟨b,_,_,h1,_⟩:=h.box g c I
  have:=(h.gbox g b h1).1;grind
 cases hb:G.box g with
 |none=>rfl
 |some b=>have:=(h.gbox g b hb).1;simp only at this;omega
theorem jR.step{M:Sg}(h:jR C n bx lv gen r M G tmps w)(hb:Below w.heap.size w w')(hd:gZ n dst=true){v}(O:bG (br C G (gen+r) w') v a):
 jR C n bx lv gen r (dd M.1 dst a,M.2) G (Act.put ⟨tmps,[]⟩ dst v).tmps w':=by
 obtain⟨hle,hs⟩:=h.s.je hb
 have N:∀g cells,M.2 g=some cells->gen<=g∧∃b cs T,G.box g=some b∧w'.heap[b]?=some (.cells cs T (0,0))∧cs.size=cells.length∧
  (∀(i:Nat)(u:Value),cs[i]?=some u->u.oneCell'=true)∧∀(i:Nat)(u:Value)(a:A),cs[i]?=some u->cells[i]?=some a->bG (br C G (gen+r) w') u a:=by
  intro g cells U;obtain⟨h0,b,cs,T,h1,h2,h3,h4,h5⟩:=h.b g cells U;exact⟨h0,b,cs,T,h1,by rw[hb.block b (h.s.gbox g b h1).2.1];exact h2,h3,h4,fun i u a hu J=>(h5 i u a hu J).mono hle⟩
 cases dst with
 |none=>exact⟨hs,fun t a J=>let⟨v,h1,h2⟩:=h.f t a J;⟨v,h1,h2.mono hle⟩,N,h.n,h.o⟩
 |some d=>
   refine⟨{hs with size:=by have:=hs.size;simpa[Act.put]using this,frame:=fun t a J=>by simp[look]at J},fun t b I=>?_,N,h.n,h.o⟩;simp only[dd]at I;split at I
   ·rename_i e
    subst e;simp only[Option.some.injEq]at I;subst I;exact⟨v,by simp[Act.put,Array.getElem?_setIfInBounds,hs.size,dp hd],O⟩
   ·rename_i e
    obtain⟨u,h1,h2⟩:=h.f t b I;exact⟨u,by simp only[Act.put];rw[Array.getElem?_setIfInBounds_ne (Ne.symm e)];exact h1,h2.mono hle⟩
theorem jR.tj{σ:Sg}(h:jR C n bx lv gen r σ G tmps w)(hg:gen<=g)(a7:g<gen+r)(hn:σ.2 g=none)(cs T cells)(a8:dZ (br C G (gen+r) w) cs cells)(hd:d<n):∃O,jR C n bx lv gen r (dd σ.1 (some d) (.ptr g 0),gN σ.2 (some (g,cells))) O (tmps.setIfInBounds d (.pointer (some ⟨w.heap.size,0,none⟩))) (w.alloc (.cells cs T)):=by
 obtain⟨hs,h1,b0⟩:=a8;have b2:=h.n g hg hn;have hb:Below w.heap.size w (w.alloc (.cells cs T)):=(Below.refl _ w).alloc (ω _) _;let O:Gh:=⟨fun I=>if I=g then some w.heap.size else G.box I,G.own⟩;have b3:w.heap.size<(w.alloc (.cells cs T)).heap.size:=by simp
 have a1:∀{I b},G.box I=some b->O.box I=some b:=by intro I b J;simp only[O];rw[if_neg (by rintro rfl;rw[b2]at J;cases J)];exact J
 have hle:(br C G (gen+r) w).le (br C O (gen+r) (w.alloc (.cells cs T))):=by
  refine⟨fun b o u hu ai=>?_,fun b o u hu ho=>?_,fun I b J=>a1 J,fun _ _ _ h=>h,ω _,fun g b len cap sz U _ X=>hb.block b (by obtain⟨_,_,_,cur,T,h3,_⟩:=h.s.row g b len cap sz U X;exact(θ.1 h3).1),fun I b bs _ X=>have hl:=h.s.BO X;⟨fun c hc=>hb.block c (hl.1 c hc),fun p hp=>hb.block p.1 (hl.2 p hp)⟩,.below hb⟩
  ·have ad:=eh hu
   refine⟨by show cellAt (w.alloc _) b o=_;rw[cS (hb.block b ad)];exact hu,fun hp=>ai ?_⟩;rcases hp with hp|⟨I,hp⟩|hp
   ·exact .inl hp
   ·simp only[O]at hp
    split at hp
    ·simp only[Option.some.injEq]at hp
     have:b<w.heap.size:=ad;omega
    ·exact .inr (.inl ⟨I,hp⟩)
   ·exact .inr (.inr hp)
  ·have ad:=eh hu
   exact⟨by show cellAt (w.alloc _) b o=_;rw[cS (hb.block b ad)];exact hu,ho⟩
 have a6:∀I b len cap sz U,G.own I=some (.blk b len cap sz U)->b<w.heap.size:=fun I b len cap sz U X=>by obtain⟨_,_,_,cur,T',h4,_⟩:=h.s.row I b len cap sz U X;exact(θ.1 h4).1
 refine⟨O,{s:={size:=(by have:=h.s.size;simpa using this),frame:=(fun t a ha=>by simp[look]at ha),xold:=h.s.xold,kold:=h.s.kold,lent:=(fun i b hb=>a1 (h.s.lent i b hb)),fr:=h.s.fr.below hb,live:=h.s.live,gown:=h.s.gown,box:=fun I c hc=>?_,gbox:=fun I b J=>?_,inj:=fun g1 g2 b aj ar=>?_,row:=fun I b len cap sz U X=>?_,mrow:=fun I b bs X=>?_,sub:=fun I b bs c lim X hm=>?_,gcell:=fun I b J=>(by simp only[O]at J;split at J<;>first|(simp only[Option.some.injEq]at J;subst J;exact⟨_,_,_,heap_alloc_new w _⟩)|exact nE (.below hb) (h.s.gcell I b J))},f:=fun t a ha=>?_,b:=fun I c hc=>?_,n:=fun I ch ai=>?_,o:=h.o}⟩
 ·obtain⟨b,cs',T',N,h2,h3,h4,h5⟩:=h.s.box I c hc
  exact⟨b,cs',T',a1 N,by rw[hb.block b (h.s.gbox I b N).2.1];exact h2,h3,h4,fun i u a hu ha=>(h5 i u a hu ha).mono hle⟩
 ·simp only[O]at J
  split at J
  ·rename_i e
   subst e;simp only[Option.some.injEq]at J;subst J;exact⟨a7,b3,.inl h.s.fr.size,fun o ho=>absurd (h.s.kold _ o ho) (by have:=h.s.fr.size;omega)⟩
  ·obtain⟨h6,h7,h8⟩:=h.s.gbox I b J
   exact⟨h6,by simp;omega,h8⟩
 ·simp only[O]at aj ar
  split at aj<;>split at ar;·simp_all
  ·simp only[Option.some.injEq]at aj;have:=(h.s.gbox g2 b ar).2.1;omega
  ·simp only[Option.some.injEq]at ar;have:=(h.s.gbox g1 b aj).2.1;omega
  ·exact h.s.inj g1 g2 b aj ar
 ·obtain⟨N,h2,h3,cur,T',h4,h5⟩:=h.s.row I b len cap sz U X
  refine⟨N,fun g2 M=>?_,h3,cur,T',by rw[hb.block b (a6 I b len cap sz U X)];exact h4,h5⟩;simp only[O]at M;split at M;·simp only[Option.some.injEq]at M;have:=a6 I b len cap sz U X;omega
  ·exact h2 g2 M
 ·obtain⟨N,h2,h3,me,clock,h4⟩:=h.s.mrow I b bs X
  have ad:=(θ.1 h4).1;refine⟨N,fun g2 M=>?_,h3,me,clock,by rw[hb.block b ad];exact h4⟩;simp only[O]at M;split at M;·simp only[Option.some.injEq]at M;omega
  ·exact h2 g2 M
 ·obtain⟨N,h2,h3,h4,cur,T',h5,h6⟩:=h.s.sub I b bs c lim X hm
  have ad:=(θ.1 h5).1;refine⟨N,fun g2 M=>?_,h3,h4,cur,T',by rw[hb.block c ad];exact h5,h6⟩;simp only[O]at M;split at M;·simp only[Option.some.injEq]at M;omega
  ·exact h2 g2 M
 ·simp only[dd]at ha
  split at ha
  ·rename_i e
   subst e;simp only[Option.some.injEq]at ha;subst ha;exact⟨_,by have:=h.s.size;simp[Array.getElem?_setIfInBounds,this,hd],.ptr _ g 0 w.heap.size (by simp[br];omega) (by simp[br,O]) rfl⟩
  ·rename_i e
   obtain⟨u,h6,h7⟩:=h.f t a ha;exact⟨u,by rw[Array.getElem?_setIfInBounds_ne (Ne.symm e)];exact h6,h7.mono hle⟩
 ·simp only[gN]at hc
  split at hc
  ·rename_i e
   subst e;simp only[Option.some.injEq]at hc;subst hc;exact⟨hg,w.heap.size,cs,T,by simp[O],heap_alloc_new w _,hs,h1,fun i u a hu ha=>(b0 i u a hu ha).mono hle⟩
  ·obtain⟨h0,b,cs',T',N,h2,h3,h4,h5⟩:=h.b I c hc
   exact⟨h0,b,cs',T',a1 N,by rw[hb.block b (h.s.gbox I b N).2.1];exact h2,h3,h4,fun i u a hu ha=>(h5 i u a hu ha).mono hle⟩
 ·simp only[gN]at ai
  split at ai;·cases ai
  ·rename_i e
   simp only[O];rw[if_neg e];exact h.n I ch ai
theorem jR.store{σ:Sg}{G:Gh}{tmps:Array Value}{w:World}(h:jR C n bx lv gen r σ G tmps w){g b:Nat}{cs cs':Array Value}{T:TypeId}{cells cells':List A}(hb:σ.2 g=some cells)(N:G.box g=some b)(hw:w.heap[b]?=some (.cells cs T (0,0)))
 (M:dZ (br C G (gen+r) w) cs' cells'):jR C n bx lv gen r (σ.1,gN σ.2 (some (g,cells'))) G tmps (w.setRow b cs'):=by
 have a1:=(h.b g cells hb).1;have a6:w.heap[b]?≠none:=by rw[hw];simp
 have hm:=(h.s.gbox g b N).2.2;have a7:Fr C (w.setRow b cs'):=⟨h.s.fr.os,h.s.fr.tape,h.s.fr.output,by rw[size_setRow];exact h.s.fr.size,fun I h1 h2=>by
  rw[setRow_other w b I cs' (fun e=>by subst e;exact hm.1.elim (fun hm=>by omega) h2)];exact h.s.fr.block I h1 h2,fun I o u hk hu=>by
  rw[cS (setRow_other w b I cs' (fun e=>by subst e;exact absurd (hm.2 o hk) (Nat.not_lt_zero _)))];exact h.s.fr.cells I o u hk hu,h.s.fr.ty.trans (.setRow w b cs')⟩
 have hle:(br C G (gen+r) w).le (br C G (gen+r) (w.setRow b cs')):=by
  refine mA (st:=⟨[],bx,lv,gen+r⟩) h.s.fr a7 (fun I o u hu hn=>⟨?_,hn⟩) (fun _ _ h=>h) (fun _ _ _ h=>h) (ω _) (fun J I len cap sz ad _ M=>?_) (fun J I bs _ M=>⟨?_,fun p hp=>?_⟩) (.setRow w b cs')
  ·have:I≠b:=fun e=>hn (.inr (.inl ⟨g,by rw[e];exact N⟩))
   rw[cS (setRow_other w b I cs' this)];grind
  ·have:I≠b:=fun e=>(h.s.row J I len cap sz ad M).2.1 g (by rw[e];exact N)
   exact setRow_other w b I cs' this
  ·intro c U;subst U;exact setRow_other w b c cs' (fun e=>(h.s.mrow J c bs M).2.1 g (by rw[e];exact N))
  ·exact setRow_other w b p.1 cs' (fun e=>(h.s.sub J I bs p.1 p.2 M hp).2.1 g (by rw[e];exact N))
 refine{s:={size:=h.s.size,frame:=fun t a X=>by simp[look]at X,inj:=h.s.inj,xold:=h.s.xold,kold:=h.s.kold,lent:=h.s.lent,fr:=a7,live:=h.s.live,gown:=h.s.gown,box:=fun J c U=>?_,gbox:=fun J I ai=>?_,row:=fun J I len cap sz ad ai=>?_,mrow:=fun J I bs M=>?_,sub:=fun J I bs c lim M hm=>?_,gcell:=fun J I a6=>nE (.setRow w b cs') (h.s.gcell J I a6)},f:=fun t a X=>let⟨v,h1,h2⟩:=h.f t a X;⟨v,h1,h2.mono hle⟩,b:=fun J c U=>?_,n:=fun J a8 aj=>?_,o:=h.o}
 ·obtain⟨I,ar,T',h1,h2,h3,h4,h5⟩:=h.s.box J c U
  by_cases e:I=b
  ·subst e
   have e2:=h.s.inj J g I h1 N;subst e2;exact absurd U (h.o J a1 c)
  ·exact⟨I,ar,T',h1,by rw[setRow_other w b I cs' e];exact h2,h3,h4,fun i u a hu X=>(h5 i u a hu X).mono hle⟩
 ·obtain⟨h1,h2,h3⟩:=h.s.gbox J I ai
  simp_all
 ·obtain⟨h1,h2,h3,cur,T',h4,h5⟩:=h.s.row J I len cap sz ad ai
  have O:I≠b:=fun e=>h2 g (by rw[e];exact N);exact⟨h1,h2,h3,cur,T',by rw[setRow_other w b I cs' O];exact h4,h5⟩
 ·obtain⟨h1,h2,h3,me,clock,h4⟩:=h.s.mrow J I bs M
  have O:I≠b:=fun e=>h2 g (by rw[e];exact N);exact⟨h1,h2,h3,me,clock,by rw[setRow_other w b I cs' O];exact h4⟩
 ·obtain⟨h1,h2,h3,h4,cur,T',h5,h6⟩:=h.s.sub J I bs c lim M hm
  have O:c≠b:=fun e=>h2 g (by rw[e];exact N);exact⟨h1,h2,h3,h4,cur,T',by rw[setRow_other w b c cs' O];exact h5,h6⟩
 ·simp only[gN]at U
  split at U
  ·rename_i e
   subst e;simp only[Option.some.injEq]at U;subst U;exact⟨a1,b,cs',T,N,setRow_heap w b cs cs' T (0,0) hw,M.1,M.2.1,fun i u a hu X=>(M.2.2 i u a hu X).mono hle⟩
  ·rename_i e
   obtain⟨h0,I,ar,T',h1,h2,h3,h4,h5⟩:=h.b J c U;have O:I≠b:=fun e'=>e (h.s.inj J g b (e'▸h1) N);exact⟨h0,I,ar,T',h1,by rw[setRow_other w b I cs' O];exact h2,h3,h4,fun i u a hu X=>(h5 i u a hu X).mono hle⟩
 ·simp only[gN]at aj
  split at aj;·grind
  ·exact h.n J a8 aj
def YE(P:Program)(T:cT P)(C:Ctx)(n:Nat)(bx:List (Nat×List A))(lv:List Nat)(gen r:Nat)(ops:Array Oper)(i:Nat)(o:Oper)(a:A)(u:Option (Nat×List A))(I:Sg):Prop:=
 gZ n o.dst=true∧
  ((lW o=false∧u=none∧YA P C n bx lv (gen+r) ops o a I.1)∨
   (lW o=true∧o.guard=none∧I.2 (gen+eP ops.toList i)=none∧eP ops.toList i<r∧a=.ptr (gen+eP ops.toList i) 0∧∃d cells,o.dst=some d∧u=some (gen+eP ops.toList i,cells)∧
    ((∃e M,o.op=.alloc e∧bk T.l e=some M∧cells=M.z.map fun v=>A.d (.v v))∨
     (∃e x f y,o.op=.box e x∧(∀t z,look f t=some z->I.1 t=some z∧t∈o.looksAt ops)∧av f x=some y∧cellsOf bx y=some cells)))∨
   (L4 o=true∧o.guard=none∧o.dst=none∧a=.any∧∃t J y k ok f z cells cs,o.op=.store t (.tmp J) y∧ops[k]?=some ok∧lW ok=true∧ok.dst=some J∧(∀t z,look f t=some z->I.1 t=some z∧t∈o.looksAt ops)∧
    I.1 J=some (.ptr (gen+eP ops.toList k) 0)∧av f y=some z∧cellsOf bx z=some cs∧eT T t=cs.length∧cs.length≠0∧cs.length<=cells.length∧I.2 (gen+eP ops.toList k)=some cells∧
    u=some (gen+eP ops.toList k,setAt cells 0 cs)))
def rT(ops:Array Oper)(x y:Oper):Prop:=x.apart ops y=true∧∀d,oO x=some d->oO y≠some d
theorem rS{I t}(h:o.op=.store t (.tmp I) y):I∈o.looksAt ops:=by unfold Oper.looksAt;rw[h];exact F'.2 (.inl (by simp[Op.operands]))
section
variable{T}
theorem YE.name{c}{J:Sg}(hi:ops[i]?=some o)(h:YE P T C n bx lv gen r ops i o a (some (g,c)) J):
 ∃k ok I,ops[k]?=some ok∧lW ok=true∧ok.dst=some I∧g=gen+eP ops.toList k∧((k=i)∨(oO o=some I∧I∈o.looksAt ops)):=by
 rcases h with⟨_,⟨_,h,_⟩|⟨h1,_,_,_,_,d,cells,h2,h3,_⟩|⟨h1,_,_,_,t,I,y,k,ok,f,z,cells,cs,h2,h3,h4,h5,_,_,_,_,_,_,_,_,M⟩⟩;·grind
 ·grind
 ·grind[Option.some.injEq,Prod.mk.injEq,oO,rS]
theorem Ic{I o'}(U:ops[k]?=some o)(J:ops[I]?=some o')(X:lW o=true)(M:lW o'=true)(h:eP ops.toList k=eP ops.toList I):k=I:=by
 rcases Nat.lt_trichotomy k I with N|he|O
 ·have:=x8 (l:=ops.toList) (by simpa using U) X N;omega
 ·grind
 ·have:=x8 (l:=ops.toList) (by simpa using J) M O;omega
theorem vh{M N b O c c'}{σ U:Sg}(hi:ops[i]?=some M)(hj:ops[j]?=some N)(ai:i≠j)(X:rT ops M N)(h:YE P T C n bx lv gen r ops i M a (some (g,c)) σ)(h':YE P T C n bx lv gen r ops j N b (some (O,c')) U):g≠O:=by
 rintro rfl;obtain⟨k,ok,dx,h1,h2,h3,h4,h5⟩:=YE.name hi h;obtain⟨k',aj,ar,I,ad,J,a6,a7⟩:=YE.name hj h';have e:k=k':=Ic h1 I h2 ad (by omega);subst e;rw[h1]at I;simp only[Option.some.injEq]at I;subst I;rw[h3]at J;simp only[Option.some.injEq]at J;subst J;obtain⟨ha,hs⟩:=X;obtain⟨a1,a2,a3⟩:=Oper.apart_spec ha;grind
theorem jj{I:fB}{x}(hd:∀d,dst=some d->d∉o.looksAt ops)(J:t∈o.looksAt ops):dd I dst x t=I t:=by
 cases dst with
 |none=>rfl
 |some e=>grind[dd]
theorem J2{J M:Oper}{b u v}{I O:Sg}(hi:ops[i]?=some J)(hj:ops[j]?=some M)(ad:i≠j)(U:rT ops J M)(h:YE P T C n bx lv gen r ops i J a u I)(ai:YE P T C n bx lv gen r ops j M b v O):
 YE P T C n bx lv gen r ops i J a u (dd I.1 M.dst b,gN I.2 v):=by
 obtain⟨a1,a2,a3⟩:=Oper.apart_spec U.1;have X:∀{g c},u=some (g,c)->gN I.2 v g=I.2 g:=by
  intro g c hu
  cases v with
  |none=>rfl
  |some x=>grind[vh,gN]
 obtain⟨h0,h|h|h⟩:=id h;·exact⟨h0,.inl ⟨h.1,h.2.1,(gO a3).2 h.2.2⟩⟩
 ·obtain⟨h1,h2,h3,h4,h5,d,cells,h6,h7,h8⟩:=h
  refine⟨h0,.inr (.inl ⟨h1,h2,(X h7).trans h3,h4,h5,d,cells,h6,h7,h8.imp id ?_⟩)⟩;grind[jj]
 ·obtain⟨h1,h2,h3,h4,t,dx,y,k,ok,f,z,cells,cs,g1,g2,g3,g4,g5,g6,g7,g8,g9,g10,g11,g12,g13⟩:=h
  exact⟨h0,.inr (.inr ⟨h1,h2,h3,h4,t,dx,y,k,ok,f,z,cells,cs,g1,g2,g3,g4,fun t z N=>⟨(jj a3 (g5 t z N).2).trans (g5 t z N).1,(g5 t z N).2⟩,
   (jj a3 (rS g1)).trans g6,g7,g8,g9,g10,g11,(X g13).trans g12,g13⟩)⟩
theorem Kz{J M:Oper}{b u v}{I U:Sg}(hi:ops[i]?=some J)(hj:ops[j]?=some M)(ad:i≠j)(X:rT ops J M)(ai:YE P T C n bx lv gen r ops i J a u U)(h:YE P T C n bx lv gen r ops j M b v (dd I.1 J.dst a,gN I.2 u)):YE P T C n bx lv gen r ops j M b v I:=by
 obtain⟨N,a2,a3⟩:=Oper.apart_spec X.1;have hv:∀{g c},v=some (g,c)->gN I.2 u g=I.2 g:=by
  intro g c hu
  cases u with
  |none=>rfl
  |some x=>grind[vh,gN]
 obtain⟨h0,h|h|h⟩:=id h;·exact⟨h0,.inl ⟨h.1,h.2.1,(gO N).1 h.2.2⟩⟩
 ·obtain⟨h1,h2,h3,h4,h5,d,cells,h6,h7,h8⟩:=h
  refine⟨h0,.inr (.inl ⟨h1,h2,(hv h7).symm.trans h3,h4,h5,d,cells,h6,h7,h8.imp id ?_⟩)⟩;grind[jj]
 ·obtain⟨h1,h2,h3,h4,t,dx,y,k,ok,f,z,cells,cs,g1,g2,g3,g4,g5,g6,g7,g8,g9,g10,g11,g12,g13⟩:=h
  exact⟨h0,.inr (.inr ⟨h1,h2,h3,h4,t,dx,y,k,ok,f,z,cells,cs,g1,g2,g3,g4,fun t z O=>⟨(jj N (g5 t z O).2).symm.trans (g5 t z O).1,(g5 t z O).2⟩,
   (jj N (rS g1)).symm.trans g6,g7,g8,g9,g10,g11,(hv g13).symm.trans g12,g13⟩)⟩
theorem FH{β:Bt}{u v}(h:∀g c I J,u=some (g,c)->v=some (I,J)->g≠I):gN (gN β u) v=gN (gN β v) u:=by
 cases u with
 |none=>rfl
 |some x=>
   cases v with
   |none=>rfl
   |some y=>grind[gN]
end
def qE(P:Program)(T:cT P)(C:Ctx)(n:Nat)(bx:List (Nat×List A))(lv:List Nat)(gen r:Nat)(ops:Array Oper)(i:Nat)(K:Sg->Prop)(I:Sg):Prop:=
 match ops[i]?with
 |none=>K I
 |some o=>∃a u,YE P T C n bx lv gen r ops i o a u I∧K (dd I.1 o.dst a,gN I.2 u)
theorem IE{I:Sg}{K J:Sg->Prop}(h:∀I,K I->J I)(M:qE P T C n bx lv gen r ops i K I):qE P T C n bx lv gen r ops i J I:=by grind[qE]
theorem J7{I N:Oper}{u}(hi:ops[i]?=some I)(hj:ops[j]?=some N)(U:i≠j)(O:rT ops I N){K:Sg->Prop}{M:Sg}(X:YE P T C n bx lv gen r ops i I a u M)(h:qE P T C n bx lv gen r ops j K (dd M.1 I.dst a,gN M.2 u)):qE P T C n bx lv gen r ops j (fun J=>YE P T C n bx lv gen r ops i I a u J∧K (dd J.1 I.dst a,gN J.2 u)) M:=by
 obtain⟨a1,a2,a3⟩:=Oper.apart_spec O.1;unfold qE at*;simp only[hj]at h⊢;grind[Kz,J2,pL,gN,FH,vh]
def Split(m:Nat)(ops:Array Oper)(listed:Array Bool):Prop:=listed.size=ops.size∧(∀j,j<m->listed.getD j false=true)∧∀j,m<=j->j<ops.size->listed.getD j true=false
def Fv(P:Program)(T:cT P)(C:Ctx)(n:Nat)(bx:List (Nat×List A))(lv:List Nat)(gen r m:Nat)(md:Region.Mode)(ops:Array Oper)(Q:Sg->Prop):Nat->Array Bool->Sg->Prop
 |0,listed,I=>Split m ops listed∧Q I
 |fuel+1,listed,I=>Region.ready md ops listed≠[]∧∀i∈Region.ready md ops listed,qE P T C n bx lv gen r ops i (Fv P T C n bx lv gen r m md ops Q fuel (listed.setIfInBounds i true)) I
def dY(md:Region.Mode)(ops:Array Oper)(j i:Nat):Bool:=
 match ops[j]?with
 |some o=>o.after.toList.any fun e=>Nat.beq e.on i&&Region.binds md e
 |none=>false
theorem pg{I:Oper}(hj:ops[j]?=some I)(h:dY md ops j i=true):∃e∈I.after,Region.binds md e=true∧e.on=i:=by unfold dY at h;rw[hj]at h;obtain⟨e,he,hb⟩:=List.any_eq_true.1 h;simp only[Bool.and_eq_true]at hb;grind[Nat.eq_of_beq_eq_true]
theorem mx(h:listed.getD i true=false):listed.getD i false=false:=by grind
def vI(md:Region.Mode)(ops:Array Oper)(m:Nat):Bool:=(List.range ops.size).all fun j=>decide (j<m)||(List.range j).all fun i=>dY md ops j i
def De:List Nat->Bool
 |[]=>true
 |a::r=>!(r.any (Nat.beq a))&&De r
def lA(l:List Oper):Bool:=De (l.filterMap oO)
theorem waits(h:vI md ops m=true)(hm:m<=j)(I:i<j)(hj:j∈Region.ready md ops listed):listed.getD i false=true:=by obtain⟨_,O,J,N⟩:=mem_ready.1 hj;have M:j<ops.size:=(θ.1 J).1;have h1:=M'.1 h j (by simpa using M);simp only[Bool.or_eq_true,Δ]at h1;have h2:=M'.1 (h1.resolve_left (by omega)) i (by simpa using I);grind[pg]
theorem Bv:∀{l:List Oper}(_:lA l=true){i j:Nat}{J I:Oper}(_:l[i]?=some J)(_:l[j]?=some I)(_:i<j){d:Nat}(_:oO J=some d),oO I≠some d
 |[],_,i,j,J,I,h,_,_,_,_=>by simp at h
 |z::l,h,0,j+1,J,I,hi,hj,_,d,hd=>by simp at hi;subst hi;intro he;simp only[lA,List.filterMap_cons,hd,De,ρ,Bool.not_eq_true']at h;have h1:(l.filterMap oO).any (Nat.beq d)=true:=L'.2 ⟨d,List.mem_filterMap.2 ⟨I,ζ (by simpa using hj),he⟩,Nat.beq_refl d⟩;grind
 |z::l,h,i+1,j+1,J,I,hi,hj,hij,d,hd=>by
   refine Bv (l:=l) ?_ (i:=i) (j:=j) (by simpa using hi) (by simpa using hj) (by omega) hd;simp only[lA,List.filterMap_cons]at h⊢
   cases M:oO z with
   |none=>simpa only[M]using h
   |some e=>simp only[M,De,ρ]at h;grind
 |z::l,_,i,0,J,I,_,_,hij,_,_=>by omega
theorem FU{l:List Oper}(h:lA l=true){I J}(hi:l[i]?=some I)(hj:l[j]?=some J)(M:i≠j)(d)(hd:oO I=some d):oO J≠some d:=by grind[Nat.lt_or_ge,Bv]
theorem D5{Q:Sg->Prop}{M:Oper}{u}(hone:lA (ops.toList.take m)=true)(hw:vI md ops m=true)(a8:i<m)(hi:ops[i]?=some M):
 ∀(fuel:Nat)(listed:Array Bool)(I:Sg),
   (∀j N,ops[j]?=some N->j≠i->listed.getD j true=false->(∀e∈N.after,Region.binds md e=true->e.on≠i)->M.apart ops N=true)->
   i∈Region.ready md ops listed->YE P T C n bx lv gen r ops i M a u I->
   Fv P T C n bx lv gen r m md ops Q fuel (listed.setIfInBounds i true) (dd I.1 M.dst a,gN I.2 u)->Fv P T C n bx lv gen r m md ops Q (fuel+1) listed I:=by
 have take:∀{K:Sg->Prop}{I:Sg},YE P T C n bx lv gen r ops i M a u I->K (dd I.1 M.dst a,gN I.2 u)->qE P T C n bx lv gen r ops i K I:=by intro K I U hk;unfold qE;simp only[hi];exact⟨a,u,U,hk⟩
 have X:∀{listed:Array Bool},i∈Region.ready md ops listed->listed.getD i false=false:=by intro listed J;exact mx (mem_ready.1 J).1
 intro fuel
 induction fuel with
 |zero=>
   intro listed I _ J U H;refine⟨fun h=>(by rw[h]at J;cases J),fun j hj=>?_⟩;by_cases hji:j=i;·subst hji;exact take U H
   ·exfalso
    obtain⟨⟨_,h1,h2⟩,_⟩:=H;have b0:=(mem_ready.1 hj).1;by_cases ad:j<m
    ·have:=h1 j ad
     rw[getD_set_ne false (Ne.symm hji)]at this;rw[mx b0]at this;cases this
    ·have:=waits hw (by omega) (show i<j by omega) hj
     rw[X J]at this;cases this
 |succ fuel ih=>
   intro listed I O J U H;refine⟨fun h=>(by rw[h]at J;cases J),fun j hj=>?_⟩;by_cases hji:j=i;·subst hji;exact take U H
   ·have h1:=H.2 j (ready_mono hj hji)
    obtain⟨ai,N,aj,a6⟩:=mem_ready.1 hj;have a7:∀e∈N.after,Region.binds md e=true->e.on≠i:=fun e he hb heq=>by have h1:=a6 e he hb;rw[heq,X J]at h1;cases h1
    have ad:j<m:=by
     rcases V' j m with h|h
     ·exact h
     ·have:=waits hw h (show i<j by omega) hj
      rw[X J]at this;cases this
    have b2:rT ops M N:=by
     refine⟨O j N aj hji ai a7,FU (i:=i) (j:=j) hone ?_ ?_ (Ne.symm hji)⟩;·rw[List.getElem?_take,if_pos a8];simpa using hi
     ·rw[List.getElem?_take,if_pos ad];simpa using aj
    have h2:=J7 T hi aj (Ne.symm hji) b2 U h1
    have ar:∀k ok,ops[k]?=some ok->k≠i->(listed.setIfInBounds j true).getD k true=false->
     (∀e∈ok.after,Region.binds md e=true->e.on≠i)->M.apart ops ok=true:=fun k ok hk b3 a1 ch=>by
     refine O k ok hk b3 ?_ ch;by_cases hjk:j=k;·subst hjk;exact ai
     ·rw[getD_set_ne true hjk]at a1;exact a1
    refine IE T (fun cj h3=>ih (listed.setIfInBounds j true) cj ar (ready_mono J (Ne.symm hji)) h3.1 ?_) h2;rw[Array.setIfInBounds_comm _ _ hji];exact h3.2
def Km(P:Program)(T:cT P)(C:Ctx)(n:Nat)(bx:List (Nat×List A))(lv:List Nat)(gen r:Nat)(ops:Array Oper)(Q:Sg->Prop):List Oper->Nat->Sg->Prop
 |[],_,σ=>Q σ
 |o::rest,i,σ=>∃a u,YE P T C n bx lv gen r ops i o a u σ∧Km P T C n bx lv gen r ops Q rest (i+1) (dd σ.1 o.dst a,gN σ.2 u)
def rr(md:Region.Mode)(ops:Array Oper):Nat->Nat->Array Bool->Bool
 |0,_,_=>true
 |t+1,k,listed=>(Region.ready md ops listed).contains k&&Region.free md ops listed k&&rr md ops t (k+1) (listed.setIfInBounds k true)
theorem BK{Q:Sg->Prop}(hone:lA (ops.toList.take m)=true)(hw:vI md ops m=true):∀(l:List Oper)(k:Nat)(listed:Array Bool)(I:Sg),k+l.length=m->(∀j,j<l.length->l[j]?=ops[k+j]?)->
 listed.size=ops.size->(∀j,j<k->listed.getD j false=true)->(∀j,k<=j->j<ops.size->listed.getD j true=false)->
 rr md ops l.length k listed=true->Km P T C n bx lv gen r ops Q l k I->Fv P T C n bx lv gen r m md ops Q l.length listed I
 |[],k,listed,I,hk,_,hs,h1,h2,_,h=>⟨⟨hs,fun j hj=>h1 j (by simp at hk;omega),fun j hj J=>h2 j (by simp at hk;omega) J⟩,h⟩
 |o::l,k,listed,I,hk,hl,hs,h1,h2,hB,h=>by
   have h0:ops[k]?=some o:=by simpa using(hl 0 (by simp)).symm
   have ad:k<ops.size:=(θ.1 h0).1;simp only[Ξ,rr,ρ]at hB;obtain⟨⟨U,X⟩,M⟩:=hB;obtain⟨a,u,hy,hK⟩:=h;have N:k<m:=by simp at hk;omega
   refine D5 T hone hw N h0 l.length listed I (Region.free_spec h0 X) (by simpa using U) hy
    (BK hone hw l (k+1) _ _ (by simp at hk;omega) (fun j hj=>by have:=hl (j+1) (by simpa using hj);simpa[Nat.add_assoc,Nat.add_comm 1 j]using this) (by simpa using hs) (fun j hj=>?_) (fun j hj J=>?_) M hK)
   ·rcases Nat.lt_succ_iff_lt_or_eq.1 hj with O|rfl
    ·exact getD_set_true (h1 j O)
    ·simp_all
   ·rw[getD_set_ne true (by omega)]
    grind
theorem Cz{i:Nat}{σ:Sg}{K:Sg->Prop}{K':Act->World->Prop}{Q':Exit->Act->World->Prop}{G:Gh}{tmps:Array Value}{w:World}(hs:jR C n bx lv gen r σ G tmps w)
 (h:∀σ G tmps w,jR C n bx lv gen r σ G tmps w->K σ->K' ⟨tmps,C.ds⟩ w)(hh:qE P T C n bx lv gen r ops i K σ):wpOp P ops Q' i K' ⟨tmps,C.ds⟩ w:=by
 unfold qE at hh;unfold wpOp;split;·rename_i ho;simp only[ho]at hh;exact h _ _ _ _ hs hh
 ·rename_i o ho
  simp only[ho]at hh;obtain⟨a,u,⟨hd,J⟩,X⟩:=hh;have M:gH C n bx lv (gen+r) σ.1 G tmps w:=⟨hs.s,hs.f⟩;rcases J with⟨_,rfl,_,J⟩|⟨_,a1,ad,hr,rfl,d,cells,I,rfl,J⟩|⟨_,a1,I,rfl,t,dx,y,k,ok,f,z,cells,cs,O,hok,dj,ed,hf,N,a6,cl,ai,hz,hle,aj,rfl⟩
  ·rcases J with⟨hw,f,hf,hp⟩|⟨hw,rfl⟩
   ·rw[jE M hw]
    simp only[if_true];refine .inl ?_;have hg:eB P o ⟨tmps,[]⟩ w fun v w'=>Below w.heap.size w w'∧bG (br C G (gen+r) w') v a:=hp G tmps w (M.oT fun t x N=>(hf t x N).1);refine hg.ds.wp fun v w'⟨hb,hr⟩=>?_;rw[Act.j6];exact h _ _ _ _ (hs.step hb hd hr) X
   ·rw[jE M hw]
    simp only[N',if_false];rw[Act.j6];exact h _ _ _ _ (hs.step (Below.refl _ _) hd (.tup #[] [] rfl (by simp))) X
  ·have a7:Region.wanted o (yielded ops tmps)=true:=by simp[Region.wanted,a1]
   rw[a7];simp only[if_true];refine .inl ?_;rw[I]at X;have ch:d<n:=dp hd d I;rcases J with⟨e,dt,O,he,rfl⟩|⟨e,x,f,y,O,hf,a6,hc⟩
   ·obtain⟨i',zz,hi,_,_,cq,a8,ei,cx,_⟩:=T.info he
    have b2:∀(i:Nat)(u:Value),zz.cells[i]?=some u->dn u=true:=fun i u hu=>by
     have:u∈dt.z:=by rw[<-a8,Γ];exact⟨i,by simpa using hu⟩
     exact M'.1 cx u this
    obtain⟨G',U⟩:=hs.tj (Nat.le_add_right _ _) (by omega) ad zz.cells e (dt.z.map fun v=>.d (.v v)) ⟨by rw[η,←a8];simp,fun i u hu=>ot (b2 i u hu),fun i u a hu ha=>by
     simp only[τ,χ]at ha;obtain⟨y,J,rfl⟩:=ha;rw[<-a8]at J;have:y=u:=by simp at J;rw[hu]at J;exact(P' J).symm
     subst this;exact .d (.v _ (b2 i y hu))⟩ ch
    refine(dw (v:=.pointer (some ⟨w.heap.size,0,none⟩)) (w':=w.alloc (.cells zz.cells e)) (R:=fun v w'=>v=.pointer (some ⟨w.heap.size,0,none⟩)∧w'=w.alloc (.cells zz.cells e)) ?_ ⟨rfl,rfl⟩:eB P o ⟨tmps,[]⟩ w _).ds.wp ?_
    ·unfold execOp
     rw[O];show Sem.run P _ w=_;simp only[Instr.alloc,zeroValue,typeInfo,hi,cq,newVar,newRow,Sem.run_bind,run_program,run_newObj,Result.andThen_ok,Sem.run_pure];rfl
    ·rintro v w' ⟨rfl,rfl⟩
     rw[I];exact h _ G' _ _ U X
   ·have cy:=lj (M.oT fun t x N=>(hf t x N).1) hc (bq.av (M.oT fun t x N=>(hf t x N).1) a6)
    obtain⟨G',U⟩:=hs.tj (Nat.le_add_right _ _) (by omega) ad (Act.eval ⟨tmps,[]⟩ x).cells e cells cy ch;refine(dw (v:=.pointer (some ⟨w.heap.size,0,none⟩)) (w':=w.alloc (.cells (Act.eval ⟨tmps,[]⟩ x).cells e)) (R:=fun v w'=>v=.pointer (some ⟨w.heap.size,0,none⟩)∧w'=w.alloc (.cells (Act.eval ⟨tmps,[]⟩ x).cells e)) ?_ ⟨rfl,rfl⟩:eB P o ⟨tmps,[]⟩ w _).ds.wp ?_
    ·unfold execOp
     rw[O];show Sem.run P _ w=_;simp only[Instr.box,newVar,newRow,Sem.run_bind,run_newObj,Result.andThen_ok,Sem.run_pure];rfl
    ·rintro v w' ⟨rfl,rfl⟩
     rw[I];exact h _ G' _ _ U X
  ·have a7:Region.wanted o (yielded ops tmps)=true:=by simp[Region.wanted,a1]
   rw[a7];simp only[if_true];refine .inl ?_;rw[I]at X;obtain⟨_,b,cur,T',h1,h2,h3,h4,h5⟩:=hs.b _ cells aj;obtain⟨v,c1,c6⟩:=hs.f dx _ N;have hv:Act.eval ⟨tmps,[]⟩ (.tmp dx)=.pointer (some ⟨b,0,none⟩):=by
    have e:Act.eval ⟨tmps,[]⟩ (.tmp dx)=v:=by simp[Act.eval,c1]
    rw[e]
    cases c6 with
    |ptr _ _ _ b0 _ c7 df=>exact oF c7 df b h1
   have hG:=M.oT (f:=f) fun t x N=>(hf t x N).1;have ar:=lj hG cl (bq.av hG a6);have cj:=run_storeCells_at P b 0 T' (Act.eval ⟨tmps,[]⟩ y).cells.toList 0 cur w h2 (by have:=ar.1;simp at this⊢;omega) (fun v hv=>by obtain⟨i,hi⟩:=Γ.1 hv;exact ar.2.1 i v (by simpa using hi));obtain⟨dt,b3,di⟩:∃d,bk T.l t=some d∧d.n=cs.length:=by
    unfold eT at ai;split at ai;·rename_i d b3;exact⟨d,b3,ai⟩
    ·exact absurd ai.symm hz
   have U:=hs.store aj h1 h2 (aA (off:=0) ⟨h3,h4,h5⟩ ar (by omega));refine(jN (R:=fun v w'=>v=undef∧w'=w.setRow b (cur.toList.take 0++(Act.eval ⟨tmps,[]⟩ y).cells.toList++cur.toList.drop (0+(Act.eval ⟨tmps,[]⟩ y).cells.toList.length)).toArray) ?_ ⟨rfl,rfl⟩:eB P o ⟨tmps,[]⟩ w _).ds.wp ?_
   ·unfold execOp
    rw[O];show Sem.run P _ w=_;simp only[hv,Instr.storeAt,Instr.sureAddr,storeVar,Sem.run_bind,Sem.run_pure,Result.andThen_ok,T.sizeOf b3];rw[if_neg (by rw[di];simp;exact ar.1)];simp only[Nat.add_zero]at cj;simp only[cj,Result.andThen_ok]
   ·rintro v w' ⟨rfl,rfl⟩
    rw[I];exact h _ G _ _ U X
theorem vW{Q:Sg->Prop}(J:∀listed I G tmps w,jR C n bx lv gen r I G tmps w->Split m ops listed->Q I->wpAny P md ops Q' t listed ⟨tmps,C.ds⟩ w):
 ∀(fuel:Nat)(listed:Array Bool)(I:Sg)(G:Gh)(tmps:Array Value)(w:World),jR C n bx lv gen r I G tmps w->Fv P T C n bx lv gen r m md ops Q fuel listed I->wpAny P md ops Q' (fuel+t) listed ⟨tmps,C.ds⟩ w
 |0,_,_,_,_,_,hs,h=>by rw[Nat.zero_add];exact J _ _ _ _ _ hs h.1 h.2
 |fuel+1,_,_,_,_,_,hs,h=>by rw[Nat.add_right_comm];exact⟨fun h0=>absurd h0 h.1,fun i hi=>Cz T hs (fun I G tmps w M=>vW J fuel _ I G tmps w M) (h.2 i hi)⟩
theorem v8{Q':Exit->Act->World->Prop}(hw:vI md ops m=true)(J:∀k,m<=k->∀o,ops[k]?=some o->∀e∈o.after,Region.binds md e=true->e.on<k):
 ∀(l:List Oper)(k:Nat)(listed:Array Bool)(act:Act)(w:World),m<=k->k+l.length=ops.size->(∀j,l[j]?=ops[k+j]?)->listed.size=ops.size->(∀j,j<k->listed.getD j false=true)->(∀j,k<=j->j<ops.size->listed.getD j true=false)->
   fW P ops Q' l act w->wpAny P md ops Q' l.length listed act w
 |[],k,listed,act,w,hm,hk,_,hs,h1,h2,h=>by refine⟨?_,h⟩;refine List.eq_nil_iff_forall_not_mem.2 fun j hj=>?_;obtain⟨h3,oj,ai,_⟩:=mem_ready.1 hj;grind
 |o::l,k,listed,act,w,hm,hk,hl,hs,h1,h2,h=>by
   have h0:ops[k]?=some o:=by simpa using(hl 0).symm
   have M:k<ops.size:=(θ.1 h0).1;have I:k∈Region.ready md ops listed:=mem_ready.2 ⟨h2 k (ω _) M,o,h0,fun e he hb=>h1 _ (J k hm o h0 e he hb)⟩;refine⟨fun hn=>(by rw[hn]at I;cases I),fun i hi=>?_⟩;have O:i=k:=by
    obtain⟨h3,oi,aj,_⟩:=mem_ready.1 hi;rcases Nat.lt_trichotomy i k with N|he|U
    ·grind
    ·grind
    ·have:=waits hw (by omega) U hi
     grind
   subst O
   have ih:=fun act w=>v8 (Q':=Q') hw J l (i+1) (listed.setIfInBounds i true) act w (by omega) (by simp at hk;omega) (fun j=>by have:=hl (j+1);simpa[Nat.add_assoc,Nat.add_comm 1 j]using this) (by simpa using hs)
    (fun j hj=>by
     rcases Nat.lt_succ_iff_lt_or_eq.1 hj with N|rfl
     ·exact getD_set_true (h1 j N)
     ·simp[hs,M]) (fun j hj X=>by rw[getD_set_ne true (by omega)];exact h2 j (by omega) X)
   simp only[fW]at h;unfold wpOp;simp only[h0];split
   ·rename_i ad
    rw[if_pos ad]at h;exact .inl (Oper.wp_mono ih h)
   ·grind
def CV(md:Region.Mode)(ops:Array Oper)(m:Nat):Bool:=(List.range ops.size).all fun k=>decide (k<m)||match ops[k]?with|some o=>o.after.toList.all fun e=>!Region.binds md e||decide (e.on<k)|none=>true
theorem rp(h:CV md ops m=true):∀k,m<=k->∀o,ops[k]?=some o->∀e∈o.after,Region.binds md e=true->e.on<k:=by intro k hm o J e he hb;have I:=(θ.1 J).1;have h1:=M'.1 h k (by simpa using I);grind
def CE(P:Program)(T:cT P)(C:Ctx)(n:Nat)(bx:List (Nat×List A))(lv:List Nat)(gen r:Nat)(ops:Array Oper)(Q:St->Prop)(l:List Oper)(i:Nat)(f:List (Nat×A))(bn:List (Nat×List A)):Prop:=
 Km P T C n bx lv gen r ops (fun J=>∃f' I,(∀t,look f' t=J.1 t)∧(∀g,bk I g=J.2 g)∧Q ⟨f',I++bx,lv,gen+r⟩) l i (look f,bk bn)
def yq(m r:Nat)(ops:Array Oper):Bool:=
 Nat.ble m ops.size&&lA (ops.toList.take m)&&vI .any ops m&&CV .any ops m&&rr .any ops m 0 (Array.replicate ops.size false)&&Nat.beq (eP ops.toList m) r
theorem W.qp{l l1 l2:List Oper}(m r)(hB:yq m r l.toArray=true)(h1:l.take m=l1)(h2:l.drop m=l2)(h:CE P T C n bx lv gen r l.toArray (WO P C n l.toArray Q l2) l1 0 f []):W P C n (.region id l.toArray true) Q ⟨f,bx,lv,gen⟩:=by
 subst h1;subst h2;intro tmps w ⟨G,hs⟩;simp only[yq,ρ]at hB;obtain⟨⟨⟨⟨⟨hm,hone⟩,hw⟩,N⟩,I⟩,hr⟩:=hB;have hm:m<=l.length:=by simpa using κ hm
 have hb:Below w.heap.size w {w with drawn:=w.drawn+1}:=(Below.refl _ w).drew;have X:jR C n bx lv gen r (look f,fun _=>none) G tmps {w with drawn:=w.drawn+1}:=jR.DJ (hs.je hb).2;have hlen:(l.take m).length=m:=by simp;omega
 refine wp_region_any T.mixed ?_;have O:l.toArray.size=(l.take m).length+(l.drop m).length:=by simp;omega
 rw[O];refine vW T (m:=m) (Q:=fun U=>∃f' J,(∀t,look f' t=U.1 t)∧(∀g,bk J g=U.2 g)∧WO P C n l.toArray Q (l.drop m) ⟨f',J++bx,lv,gen+r⟩) (fun listed U G tmps w hs M⟨f',J,e1,e2,hq⟩=>?_) _ _ _ G _ _ X ?_
 ·refine v8 hw (rp N) (l.drop m) m listed ⟨tmps,C.ds⟩ w (ω _) (by simp;omega) (fun j=>by simp[List.getElem?_drop]) M.1 M.2.1 M.2.2 ?_
  exact hq tmps w ⟨G,hs.oT (fun t a ha=>by rw[<-e1];exact ha) (fun g c hc=>by rw[<-e2];exact hc)⟩
 ·refine BK T hone hw (l.take m) 0 _ _ (by rw[hlen];omega) (fun j hj=>?_) (by simp;omega) (fun j hj=>by omega) (fun j _ hj=>?_) (by rw[hlen];rw[O,hlen]at I;exact I) h
  ·grind
  ·simp_all
variable{T}
variable{op:Op}{pos:String}{af:Array Edge}{rest:List Oper}{bn:List (Nat×List A)}{Q:St→Prop}
theorem aF(h:Q ⟨f,bn++bx,lv,gen+r⟩):CE P T C n bx lv gen r ops Q [] i f bn:=⟨f,bn,fun _=>rfl,fun _=>rfl,h⟩
theorem gf(I:lW ⟨some d,op,ty,pos,af,none⟩=false)(hp:Pu P C n ⟨dm f (slotsOf op),bx,lv,gen+r⟩ ⟨some d,op,ty,pos,af,none⟩ a)(hd:Nat.blt d n=true)(h:CE P T C n bx lv gen r ops Q rest (i+1) ((d,a)::f) bn):
 CE P T C n bx lv gen r ops Q (⟨some d,op,ty,pos,af,none⟩::rest) i f bn:=by
 unfold CE at*;rw[gl]at h;refine⟨a,none,⟨hd,.inl ⟨I,rfl,hd,.inl ⟨rfl,_,fun t x J=>?_,hp⟩⟩⟩,h⟩;obtain⟨h1,h2⟩:=fq J;exact⟨h1,F'.2 (.inl h2)⟩
theorem xB{c}:bk ((g,c)::bn)=gN (bk bn) (some (g,c)):=by funext t;grind[du,gN]
theorem tA{e l}(c:Nat)(J:Nat.beq (eP ops.toList i) c=true)(N:Nat.blt c r=true)(M:bk bn (gen+c)=none)(he:bk T.l e=some I)(hl:(I.z.map fun v=>A.d (.v v))=l)(hd:Nat.blt d n=true)(h:CE P T C n bx lv gen r ops Q rest (i+1) ((d,.ptr (gen+c) 0)::f) ((gen+c,l)::bn)):CE P T C n bx lv gen r ops Q (⟨some d,.alloc e,ty,pos,af,none⟩::rest) i f bn:=by
 unfold CE at*;rw[gl,xB]at h;have J:=Θ J;subst J;subst hl;exact⟨_,_,⟨hd,.inr (.inl ⟨rfl,rfl,M,κ N,rfl,d,_,rfl,rfl,.inl ⟨e,I,rfl,he,rfl⟩⟩)⟩,h⟩
theorem wW{t I}{ok:Oper}{z}{cs:List A}(k c:Nat)(hx:look f I=some (.ptr (gen+c) 0))(hk:ops[k]?=some ok)(M:lW ok=true)(N:ok.dst=some I)(J:Nat.beq (eP ops.toList k) c=true)(hb:bk bn (gen+c)=some cells)(O:av (dm f (slotsOf (.store t (.tmp I) y))) y=some z)(hc:cellsOf bx z=some cs)(U:eT T t=cs.length)(X:Nat.blt 0 cs.length=true)(hle:Nat.ble cs.length cells.length=true)(hs:setAt cells 0 cs=cells')(h:CE P T C n bx lv gen r ops Q rest (i+1) f ((gen+c,cells')::bn)):CE P T C n bx lv gen r ops Q (⟨none,.store t (.tmp I) y,ty,pos,af,none⟩::rest) i f bn:=by
 unfold CE at*;rw[xB]at h;have J:=Θ J;subst hs;subst J;have X:=κ X;refine⟨.any,_,⟨rfl,.inr (.inr ⟨rfl,rfl,rfl,rfl,t,I,y,k,ok,_,z,cells,cs,rfl,hk,M,N,fun t' z' ad=>?_,hx,O,hc,U,by omega,κ hle,hb,rfl⟩)⟩,h⟩;obtain⟨h1,h2⟩:=fq ad;exact⟨h1,F'.2 (.inl h2)⟩
end
section
variable(T:cT P){n:Nat}{rest:List Oper}{c:Code}
variable{bx:List (Nat×List A)}{gen:Nat}{pos:String}{af:Array Edge}
theorem LN{k:IntKind}{p q:Int}(O:av f x=some (.d (.v (.int k p))))(U:av f y=some (.d (.v (.int k q))))(X:q≠0)(ho:dn (.int k (p.tmod q))=true):
 Pu P C n ⟨f,bx,lv,gen⟩ ⟨dst,.binOp .rem t x y t',ty,pos,af,none⟩ (.d (.v (.int k (p.tmod q)))):=by
 refine aq fun G tmps w hs=>?_;have I:=hs.av O;have J:=hs.av U;generalize M:Act.eval ⟨tmps,[]⟩ x=vx at I;generalize N:Act.eval ⟨tmps,[]⟩ y=vy at J;cases I with|d I=>cases I with|v _ _=>
 cases J with|d J=>cases J with|v _ _=>
 refine⟨_,?_,.d (.v _ ho)⟩;unfold execOp;show Sem.run P _ w=_;simp[M,N,eqGuard,binOp,Op.intDiv,X];rfl
theorem JT{k:IntKind}{p q:Int}(O:av f x=some (.d (.v (.int k p))))(U:av f y=some (.d (.v (.int k q))))(X:q≠0)(ho:dn (.int k (k.wrap (p.tdiv q)))=true):
 Pu P C n ⟨f,bx,lv,gen⟩ ⟨dst,.binOp .quo t x y t',ty,pos,af,none⟩ (.d (.v (.int k (k.wrap (p.tdiv q))))):=by
 refine aq fun G tmps w hs=>?_;have I:=hs.av O;have J:=hs.av U;generalize M:Act.eval ⟨tmps,[]⟩ x=vx at I;generalize N:Act.eval ⟨tmps,[]⟩ y=vy at J;cases I with|d I=>cases I with|v _ _=>
 cases J with|d J=>cases J with|v _ _=>
 refine⟨_,?_,.d (.v _ ho)⟩;unfold execOp;show Sem.run P _ w=_;simp[M,N,eqGuard,binOp,Op.intDiv,X];rfl
theorem oQ{p q:ByteArray}(O:av f x=some (.d (.v (.string p))))(U:av f y=some (.d (.v (.string q))))(hb:p.size+q.size<=9223372036854775807):
 Pu P C n ⟨f,bx,lv,gen⟩ ⟨dst,.binOp .add t x y t',ty,pos,af,none⟩ (.d (.v (.string (p++q)))):=by
 refine aq fun G tmps w hs=>?_;have I:=hs.av O;have J:=hs.av U;generalize M:Act.eval ⟨tmps,[]⟩ x=vx at I;generalize N:Act.eval ⟨tmps,[]⟩ y=vy at J;cases I with|d I=>cases I with|v _ _=>
 cases J with|d J=>cases J with|v _ _=>
 refine⟨_,?_,.d (.v _ ?_)⟩
 ·unfold execOp
  show Sem.run P _ w=_;have:¬((p.size+q.size:Nat):Int)>IntKind.i64.max:=by simp[IntKind.max,IntKind.signed,IntKind.bits];omega
  simp only[M,N,eqGuard,binOp,Op.stringOp,if_neg this];simp;rfl
 ·simp[dn,maxLen,ByteArray.size_append]
  omega
end
def uL:List A->Option (List D)
 |[]=>some []
 |.d x::l=>match uL l with
   |some r=>some (x::r)
   |none=>none
 |_::_=>none
def fv{P:Program}(T:cT P)(f:List (Nat×A))(bx:List (Nat×List A))(op:Op):Option A:=
 match kX T f bx op with
 |some a=>some a
 |none=>match op with
   |.load t x=>match bk T.l t with
     |some I=>bif I.k.agg then match av f x with
       |some (.rowd l)=>bif Nat.beq l.length I.n then some (.ag l)else none
       |some (.ptr g 0)=>match bk bx g with
         |some cells=>match uL cells with
           |some l=>bif Nat.beq l.length I.n then some (.ag l)else none
           |none=>none
         |none=>none
       |_=>none
       else none
     |none=>none
   |_=>none
def runK{P:Program}(T:cT P)(n:Nat):Nat->List Oper->List (Nat×A)->List (Nat×List A)->Option (List Oper×List (Nat×A))
 |0,l,f,_=>some (l,f)
 |k+1,⟨some d,op,_,_,_,none⟩::r,f,bx=>match fv T f bx op with
   |some a=>bif Nat.blt d n then runK T n k r ((d,a)::f) bx else none
   |none=>none
 |_+1,_,_,_=>none
theorem AS:∀{l:List A}{r:List D},uL l=some r->l=r.map A.d
 |[],r,h=>by simp only[uL,Option.some.injEq]at h;subst h;rfl
 |a::l,r,h=>by
   cases a with
   |d x=>
     simp only[uL]at h
     cases hl:uL l with
     |none=>rw[hl]at h;cases h
     |some I=>rw[hl]at h;cases h;rw[AS hl];rfl
   |_=>simp[uL]at h
section
variable(T:cT P){n:Nat}{bx:List (Nat×List A)}{gen:Nat}
theorem KY{op pos af}(he:fv T f bx op=some a):Pu P C n ⟨f,bx,lv,gen⟩ ⟨dst,op,ty,pos,af,none⟩ a:=by
 unfold fv at he;split at he
 ·rename_i a' h1
  cases he;exact ev T h1
 ·split at he
  ·rename_i t x
   split at he
   ·rename_i J O
    cases I:J.k.agg with
    |false=>rw[I]at he;cases he
    |true=>
      rw[I]at he;simp only[cond_true]at he;split at he
      ·rename_i M N
       cases hl:Nat.beq M.length J.n with
       |false=>rw[hl]at he;cases he
       |true=>rw[hl]at he;cases he;exact eH T O I N (Θ hl)
      ·rename_i g N
       split at he
       ·rename_i cells hb
        split at he
        ·rename_i M U
         cases hl:Nat.beq M.length J.n with
         |false=>rw[hl]at he;cases he
         |true=>rw[hl]at he;cases he;exact eI T O I N (by rw[<-AS U];exact hb) (Θ hl)
        ·cases he
       ·cases he
      ·cases he
   ·cases he
  ·cases he
theorem Hr:∀(k:Nat){l r:List Oper}{f f':List (Nat×A)},runK T n k l f bx=some (r,f')->WO P C n ops Q r ⟨f',bx,lv,gen⟩->WO P C n ops Q l ⟨f,bx,lv,gen⟩
 |0,l,r,f,f',h,q=>by grind[runK,Option.some.injEq,Prod.mk.injEq]
 |k+1,l,r,f,f',h,q=>by
   cases l with
   |nil=>simp[runK]at h
   |cons o l'=>
   obtain⟨dst,op,ty,pos,af,I⟩:=o
   cases dst with
   |none=>simp[runK]at h
   |some d=>
   cases I with
   |some g=>simp[runK]at h
   |none=>
   simp only[runK]at h
   cases he:fv T f bx op with
   |none=>rw[he]at h;cases h
   |some a=>
     rw[he]at h
     cases hd:Nat.blt d n with
     |false=>rw[hd]at h;cases h
     |true=>rw[hd]at h;exact pu (KY T he) hd (Hr k h q)
theorem JK(k){l:List Oper}{f'}(h:runK T n k l f bx=some ([],f'))(q:Q .normal ⟨f',bx,lv,gen⟩):W P C n (.region id l.toArray false) Q ⟨f,bx,lv,gen⟩:=aa (Hr T k h (ab q))
theorem LK(k){l:List Oper}{c f'}(h:runK T n k l f bx=some ([],f'))(q:W P C n c Q ⟨f',bx,lv,gen⟩):W P C n (.seq (.region id l.toArray false) c) Q ⟨f,bx,lv,gen⟩:=ae (JK T k h (qs q))
end
abbrev hU(v:Value):Exit:=.panic [{v:=v,recovered:=false}]
section
variable{n:Nat}
theorem bq.FA(h:bq C n st G tmps w)(h1:Fr (fH C G w gs os) w'):Fr C w':=by
 have N:∀{b},gu G gs b->C.jX b 0∧b<w.heap.size:=by rintro b ⟨g,_,U⟩;exact⟨(h.gbox g b U).2.2,(h.gbox g b U).2.1⟩
 have O:∀{b lim},fk G os b lim->C.jX b lim∧b<w.heap.size∧(∀g',G.box g'≠some b):=by rintro b lim ⟨g,_,r,U,aj⟩;grind[bq.rowAt]
 have ad:∀{b},(gu G gs b∨∃lim,fk G os b lim)->C.w0.heap.size<=b∨C.fp b:=by
  rintro b (hl|⟨lim,hl⟩);·exact(N hl).1.1
  ·exact(O hl).1.1
 have J:∀{b},b<w.heap.size->¬(gu G gs b∨∃lim,fk G os b lim)->w'.heap[b]?=w.heap[b]?:=fun I M=>h1.block _ I M;refine⟨h1.os.trans h.fr.os,h1.tape.trans h.fr.tape,h1.output.trans h.fr.output,B' h.fr.size h1.size,fun b I M=>?_,fun b o u X hu=>?_,h.fr.ty.trans h1.ty⟩
 ·rw[J (ψ I h.fr.size) (fun hl=>(ad hl).elim (fun h=>by omega) M)]
  exact h.fr.block b I M
 ·have ai:=h.fr.cells b o u X hu
  by_cases hl:gu G gs b∨∃lim,fk G os b lim
  ·rcases hl with hl|⟨lim,hl⟩
   ·exact absurd ((N hl).1.2 o X) (Nat.not_lt_zero _)
   ·exact h1.cells b o u ⟨lim,hl,(O hl).1.2 o X⟩ ai
  ·grind[cS,eh]
theorem bq.left(h:bq C n st G tmps w)(J:Fr C w')(hs:w.heap.size<=w'.heap.size)(M:eW w w'):bq C n ⟨[],[],[],st.gen⟩ ⟨G.box,fun _=>none⟩ tmps w':=
 {size:=h.size,frame:=fun t a N=>by simp[look]at N,box:=fun g cells O=>by simp[bk]at O,gbox:=fun g b hb=>⟨(h.gbox g b hb).1,ψ (h.gbox g b hb).2.1 hs,(h.gbox g b hb).2.2⟩,
   inj:=h.inj,live:=fun g U=>by simp at U,gown:=fun g r I=>by simp at I,row:=fun g b len cap sz X I=>by simp at I,mrow:=fun g b bs I=>by simp at I,sub:=fun g b bs c lim I=>by simp at I,gcell:=fun g b hb=>nE M (h.gcell g b hb),xold:=h.xold,kold:=h.kold,lent:=h.lent,fr:=J}
end
structure jW(P:Program)[dG P](f:FuncId)(args:List A)(b0:List (List A))(m:Nat)(v:Value):Prop where
 ok:lx P f
 calls:∀(C:Ctx)(G:Gh)(vals:Array Value)(w:World),GC P C->C.w0=w->C.bx.length=b0.length->C.ds=[]->(m=0->∀b,C.fp b->∃i:Nat,C.bx[i]?=some b)->
  bq C 0 ⟨[],fQ 0 b0,(List.range m).map (b0.length+·),b0.length+m⟩ G #[] w->vals.size=args.length->
  (∀(i:Nat)(u:Value)(a:A),vals[i]?=some u->args[i]?=some a->bG (br C G (b0.length+m) w) u a)->
  Calls P f vals w fun e w'=>e=.panicked [{v:=v,recovered:=false}]∧Fr C w'
def QP(v:Value):Exit->St->Prop:=fun e _=>e=hU v
theorem jW.H4[dG P]{f c n}{J:List (List A)}{v}(O:P.funcs[f]?=some fn)(M:(fn.name== "runtime.NumGoroutine")=false)(hb:fn.body=some c)(hn:fn.ntmps=n)(hlen:Nat.ble args.length n=true)(h:∀C,NB C J.length->GC P C->(m=0->∀b,C.fp b->∃i:Nat,C.bx[i]?=some b)->(∀i b:Nat,C.bx[i]?=some b->b<C.w0.heap.size)->W P C n c (QP v) ⟨jL 0 args,fQ 0 J,(List.range m).map (J.length+·),J.length+m⟩):jW P f args J m v:=by
 have hlen:=κ hlen;refine⟨⟨fn,O,M,by rw[hb];rfl⟩,fun C G I w hG hw U N X hs aj ai=>?_⟩;subst hw;refine calls_of_wp O hb (wp_mono (tN N (h C ⟨U⟩ hG X (fun i b hb=>(hs.gbox i b (hs.lent i b hb)).2.1) (I++Array.replicate (fn.ntmps-I.size) undef) C.w0 ⟨G,?_⟩)) ?_)
 ·refine{hs with size:=by simp[hn];omega,frame:=fun t a ha=>?_}
  obtain⟨_,h1⟩:=jb args 0 t a ha;have h2:t<args.length:=(δ.1 (by simpa using h1)).1;have h3:t<I.size:=by omega
  have h4:I[t]?=some I[t]:=by simp[h3]
  grind
 ·rintro e ⟨tmps,df⟩ w' ⟨hd,st,⟨G1,ad⟩,he⟩
  have he:e=hU v:=he;subst he;exact⟨hd.trans N,rfl,ad.fr⟩
theorem jW.b6[dG P]{f c n}{I:List (List A)}{v}(M:P.funcs[f]?=some fn)(J:(fn.name== "runtime.NumGoroutine")=false)(hb:fn.body=some c)(N:fn.ntmps=n)(hlen:Nat.ble args.length n=true)(h:∀C,NB C I.length->GC P C->W P C n c (QP v) ⟨jL 0 args,fQ 0 I,(List.range m).map (I.length+·),I.length+m⟩):jW P f args I m v:=
 jW.H4 M J hb N hlen fun C hC O _ _=>h C hC O
inductive Out where
 |ret (r:A) (b1:List (List A)) (k:Nat)
 |iM (v:Value)
def eo(P:Program)[dG P](f:FuncId)(args:List A)(I:List (List A))(m:Nat):Out->Prop
 |.ret r b1 k=>bU P f args I m r b1 k
 |.iM v=>jW P f args I m v
def QX{P:Program}(T:cT P)(rs:List RV):Out->Exit->St->Prop
 |.ret r b1 k=>cf T rs r b1 k
 |.iM v=>QP v
def Out.len:Out→Nat→Bool
 | .ret _ b1 _,n=>Nat.beq b1.length n
 | .iM _,_=>true
theorem eo.dk {P:Program} (T:cT P) [dG P] {f:FuncId} {fn:Func} {c:Code} {rs:List RV} {n:Nat} {args:List A} {J:List (List A)} {m:Nat} {x:Out} (M:P.funcs[f]? = some fn) (I:(fn.name == "runtime.NumGoroutine")=false)
 (hb:fn.body=some c) (N:fn.ntmps=n) (U:fn.results=(rs.map RV.var).toArray) (hlen:Nat.ble args.length n=true) (O:x.len J.length=true)
 (h:∀ C,NB C J.length→GC P C→W P C n c (QX T rs x) ⟨jL 0 args,fQ 0 J,(List.range m).map (J.length+·),J.length+m⟩):eo P f args J m x:=by
 cases x with
 | ret r b1 k=>exact bU.dk T M I hb N U hlen (Θ O) h
 | iM v=>exact jW.b6 M I hb N hlen h
theorem eo.yA {P:Program} (T:cT P) [dG P] {f:FuncId} {fn:Func} {c:Code} {rs:List RV} {n:Nat} {args:List A} {J:List (List A)} {m:Nat} {x:Out} (M:P.funcs[f]? = some fn) (I:(fn.name == "runtime.NumGoroutine")=false)
 (hb:fn.body=some c) (N:fn.ntmps=n) (U:fn.results=(rs.map RV.var).toArray) (hlen:Nat.ble args.length n=true) (O:x.len J.length=true)
 (h:∀ C,NB C J.length→GC P C→(m=0→∀ b,C.fp b→∃ i:Nat,C.bx[i]? = some b)→(∀ i b:Nat,C.bx[i]? = some b→b < C.w0.heap.size)→W P C n c (QX T rs x) ⟨jL 0 args,fQ 0 J,(List.range m).map (J.length+·),J.length+m⟩):eo P f args J m x:=by
 cases x with
 | ret r b1 k=>exact bU.yA T M I hb N U hlen (Θ O) h
 | iM v=>exact jW.H4 M I hb N hlen h
theorem eo.ret[dG P]{f I}{x:Out}{r}(h:eo P f args I m x)(J:x=.ret r b1 k):bU P f args I m r b1 k:=by subst J;exact h
theorem eo.iM[dG P]{f I}{x:Out}{v}(h:eo P f args I m x)(J:x=.iM v):jW P f args I m v:=by subst J;exact h
section
variable{n:Nat}{rest:List Oper}
theorem WO.IY(M:o.guard=none)(N:o.op=.panic x){t y}(O:av st.f x=some (.d (.v (.iface t y))))(h:∀st',Q (hU (.iface t y)) st'):WO P C n ops Q (o::rest) st:=by
 intro tmps w ⟨G,hs⟩;simp only[fW,Region.wanted,M,if_true];have I:=hs.av O;have U:Act.eval ⟨tmps,C.ds⟩ x=.iface t y:=by rw[Act.j8 tmps C.ds []];generalize Act.eval ⟨tmps,[]⟩ x=v at I⊢;cases I with|d I=>cases I;rfl
 unfold Oper.wp;have J:(execOp (Act.eval ⟨tmps,C.ds⟩) o).run P w=.halt (.panic (.iface t y)) w:=by unfold execOp;rw[N];simp[U,Instr.panic,goPanic]
 rw[J];exact⟨rfl,st,⟨G,hs⟩,h st⟩
theorem WO.dI[dG P][GC P C](O:o.guard=none){N}(ho:o.op=.call ⟨.value x,xs,N⟩){I}(hx:av st.f x=some (.clo fid caps))(aj:l7 st.f xs.toList=some I)(gs os:List Nat)(ar:nodupB gs=true)(a1:nodupB os=true)(a6:(os.all fun g=>st.lv.any fun h=>Nat.beq h g)=true){b0 v}(hf:jW P fid args b0 m v)(U:(I++caps).map (eV st.bx gs os 5)=args)(hb:iH st.bx gs os gs=some b0)(hm:os.length=m)(h:∀st',Q (hU v) st'):WO P C n ops Q (o::rest) st:=by
 subst hm;subst U;intro tmps w ⟨G,hs⟩;simp only[fW,Region.wanted,O,if_true];obtain⟨fn,a7,J,M⟩:=hf.ok;have X:=hs.av hx;rw[<-Act.j8 tmps C.ds []]at X;generalize hv:Act.eval ⟨tmps,C.ds⟩ x=v' at X
 cases X with
 |clo _ vs _ a8 hcd=>
 obtain⟨h1,h2⟩:=kS hs xs.toList I aj;rw[<-Act.j8 tmps C.ds []]at h2;have ad:(execOp (Act.eval ⟨tmps,C.ds⟩) o).run P w=.ok (.enter fid (xs.map (Act.eval ⟨tmps,C.ds⟩)++vs)) w:=by unfold execOp;rw[ho];show Sem.run P (do let d←resolve (Act.eval ⟨tmps,C.ds⟩) ⟨.value x,xs,N⟩ o.type;invoke d.target d.args) w=_;simp only[resolve,hv,Deferred.ofValue,Sem.run_bind,Sem.run_pure,Result.andThen_ok,invoke,callFunc,run_program,a7,J,M,N',if_false,Array.empty_append]
 obtain⟨hlen,ai⟩:=hs.oK (gs:=gs) (os:=os) (fM ar) (fM a1) (fun g O=>by obtain⟨y,hy,he⟩:=L'.1 (M'.1 a6 g O);exact Θ he▸hy) hb;have b3:=(jG hb).1;unfold Oper.wp;rw[ad];refine(hf.calls (fH C G w gs os) (iY G gs os) _ w (GC.wm hs) rfl hlen rfl (uH rfl) ai (by simp at h1;simp[a8,h1]) (fun i u a hu ha=>?_)).mono fun e w'⟨he,h3⟩=>?_
 ·simp only[τ,χ]at ha
  obtain⟨y,hy,rfl⟩:=ha;refine bG.oK hs gs os (by omega) 5 u y ?_;grind
 ·subst he
  have b2:=hs.FA h3;exact⟨rfl,_,⟨_,hs.left b2 h3.size h3.ty⟩,h _⟩
end
section
variable{n:Nat}{rest:List Oper}{c:Code}
variable{bx:List (Nat×List A)}{gen:Nat}{op:Op}{pos:String}{af:Array Edge}
theorem Kh{t y}(I:av f x=some (.d (.v (.iface t y))))(h:∀st',Q (hU (.iface t y)) st'):WO P C n ops Q (⟨dst,.panic x,ty,pos,af,none⟩::rest) ⟨f,bx,lv,gen⟩:=
 WO.IY (st:=⟨f,bx,lv,gen⟩) rfl rfl I h
theorem dI[dG P][GC P C]{M I N v}(gs os:List Nat)(hx:av f x=some (.clo fid caps))(O:l7 f xs.toList=some I)(J:(I++caps).map (eV bx gs os 5)=args)(hb:iH bx gs os gs=some N)(hm:os.length=m)(hf:jW P fid args N m v)(U:nodupB gs=true)(X:nodupB os=true)(ad:(os.all fun g=>lv.any fun h=>Nat.beq h g)=true)(h:∀st',Q (hU v) st'):
 WO P C n ops Q (⟨dst,.call ⟨.value x,xs,M⟩,ty,pos,af,none⟩::rest) ⟨f,bx,lv,gen⟩:=
 WO.dI (st:=⟨f,bx,lv,gen⟩) rfl rfl hx O gs os U X ad hf J hb hm h
theorem uP{a b}(h:b7 w pv a (.v b)):a=b:=by cases h;rfl
theorem Jd(T:cT P){l:List Value}(M:bk T.l t=some I)(N:I.k.agg=true)(O:av f x=some (.ag (l.map D.v))):Pu P C n ⟨f,bx,lv,gen⟩ ⟨dst,.makeInterface t x,ty,pos,af,none⟩ (.d (.v (.iface t (.agg l.toArray)))):=by
 refine aq fun G tmps w hs=>?_;have J:=hs.av O;generalize U:Act.eval ⟨tmps,[]⟩ x=v at J
 cases J with
 |ag vs _ X h=>
 have e:vs=l.toArray:=by
  apply Array.ext;·grind
  ·intro i h1 h2
   have h3:i<l.length:=by simpa using h2
   have:=uP (h i vs[i] (.v l[i]) (by simp[h1]) (by simp[h3]));grind
 subst e;refine⟨_,?_,.d (.v _ rfl)⟩;obtain⟨u,hu,ad⟩:∃u,P.underlying t=some u∧(match u with|.interface _=>false|_=>true)=true:=by
  have:=T.isAgg M w;unfold isAgg at this
  cases hu:P.underlying t with
  |none=>simp[underlying,hu]at this
  |some u=>refine⟨u,rfl,?_⟩;cases u<;>first|rfl|(simp[underlying,hu,N]at this)
 unfold execOp;simp only[U,Instr.makeInterface,Sem.run_bind,run_underlying hu,Result.andThen_ok,Sem.run_pure];cases u<;>simp_all
end
end Go.Ab
namespace Go.Tb
open Go.Ab
variable {l x:List UInt8}{i k u:Nat}{level id a:Int}{α β:Type}{ids:List Int}
abbrev ci(n:Int):D:=.v (.int .i64 n)
abbrev cs(s:ByteArray):D:=.v (.string s)
structure yX where
 kind:Int
 n:Int
 s:ByteArray
 deriving DecidableEq
@[reducible] def yX.c (x:yX):List D:=[ci x.kind,ci x.n,cs x.s]
structure z8 where
 name:ByteArray
 type:Int
 deriving DecidableEq
@[reducible] def z8.c (x:z8):List D:=[cs x.name,ci x.type]
inductive Ex where
 |mk (op:Int) (name:ByteArray) (v:yX) (kids:List Ex)
def Ex.op:Ex→Int | .mk a _ _ _=>a
def Ex.name:Ex->ByteArray|.mk _ a _ _=>a
def Ex.v:Ex->yX|.mk _ _ a _=>a
def Ex.kids:Ex->List Ex|.mk _ _ _ a=>a
mutual
def Ex.kc:Ex->List (List D)
 |.mk _ _ _ kids=>Ex.vp kids
def Ex.vp:List Ex→List (List D)
 | []=>[]
 | e::r=>[ci e.op,cs e.name,ci e.v.kind,ci e.v.n,cs e.v.s,.sl (Ex.kc e)]::Ex.vp r
end
@[reducible] def Ex.c (e:Ex):List D:=[ci e.op,cs e.name,ci e.v.kind,ci e.v.n,cs e.v.s,.sl e.kc]
theorem Ex.sG:∀ l,Ex.vp l=l.map Ex.c
 | []=>rfl
 | e::r=>by simp[Ex.vp,Ex.sG r]
theorem Ex.px (e:Ex):e.kc=e.kids.map Ex.c:=by cases e;simp[Ex.kc,Ex.kids,Ex.sG]
theorem Ex.bE(e:Ex):e.kc.length=e.kids.length:=by simp[Ex.px]
theorem Ex.ind{p:Ex->Prop}(h:∀e,(∀k∈e.kids,p k)->p e):∀e,p e:=by
 intro e
 induction hn:_root_.SizeOf.sizeOf e using Nat.strongRecOn generalizing e with
 |_ m I=>
   subst hn;refine h e fun k J=>I (_root_.SizeOf.sizeOf k) ?_ k rfl
   cases e with
   |mk op name v kids=>have:=List.sizeOf_lt_of_mem (show k∈kids from J);grind
structure H2 where
 e:Ex
 name:ByteArray
@[reducible] def H2.c (x:H2):List D:=[ci x.e.op,cs x.e.name,ci x.e.v.kind,ci x.e.v.n,cs x.e.v.s,.sl x.e.kc,cs x.name]
structure HR where
 fn:ByteArray
 col:ByteArray
 name:ByteArray
@[reducible] def HR.c (x:HR):List D:=[cs x.fn,cs x.col,cs x.name]
structure HY where
 col:ByteArray
 desc:Bool
@[reducible] def HY.c (x:HY):List D:=[cs x.col,.v (.bool x.desc)]
@[reducible] def sc(s:ByteArray):List D:=[cs s]
structure HZ where
 op:Int
 cond:Ex
 items:List H2
 cols:List ByteArray
 aggs:List HR
 sorts:List HY
 n:Int
 table:ByteArray
@[reducible] def HZ.c (x:HZ):List D:=[ci x.op,ci x.cond.op,cs x.cond.name,ci x.cond.v.kind,ci x.cond.v.n,cs x.cond.v.s,.sl x.cond.kc,
 .sl (x.items.map H2.c),.sl (x.cols.map sc),.sl (x.aggs.map HR.c),.sl (x.sorts.map HY.c),ci x.n,cs x.table]
structure KT where
 cols:List z8
 rows:List (List yX)
@[reducible] def rc (r:List yX):List D:=[.sl (r.map yX.c)]
@[reducible] def KT.c (x:KT):List D:=[.sl (x.cols.map z8.c),.sl (x.rows.map rc)]
structure LA where
 name:ByteArray
 table:KT
@[reducible] def LA.c (x:LA):List D:=[cs x.name,.sl (x.table.cols.map z8.c),.sl (x.table.rows.map rc)]
structure LB where
 from_:ByteArray
 steps:List HZ
@[reducible] def LB.c (x:LB):List D:=[cs x.from_,.sl (x.steps.map HZ.c)]
@[reducible] def ic(k:Int):List D:=[ci k]
/- ### typed data out of a reading -/
section
variable{P:Program}{T:cT P}
variable{tv tk ti ts tc tcs te teo tes:Nat}{o1 o2 o3 o4 o5 o6 o7 o8:Nat}{n1 n2 n3 n4 n5 n6 n7 n8:String}{l:List D}
theorem FV(h:im T ts l)(I:fD T ts=.str):∃n,l=[cs n]:=let⟨n,h,_⟩:=h.toStr I;⟨n,h⟩
end
def Still(caps:List A):Prop:=(∀bx k,caps.map (conv bx (k+2))=caps)∧l6 caps=true
def idx(o:Option Nat):Int:=match o with|some i=>i|none=>-1
theorem mf{l:List α}{p:α->Bool}:decide (0<=idx (l.findIdx? p))=l.any p:=by
 cases h:l.findIdx? p with
 |none=>have:=List.findIdx?_eq_none_iff.1 h;simp only[idx];grind
 |some i=>obtain⟨hi,hp,_⟩:=List.findIdx?_eq_some_iff_getElem.1 h;simp only[idx];grind
def cX{α:Type}(p:α->Bool)(l:List α)(k:Nat):Prop:=∀j x,j<k->l[j]?=some x->p x=false
theorem cX.zero{p:α->Bool}{l}:cX p l 0:=fun _ _ h=>by omega
theorem cX.step{p:α->Bool}{l:List α}{x:α}(h:cX p l k)(M:l[k]?=some x)(hp:p x=false):cX p l (k+1):=by
 intro j y hj J;rcases Nat.lt_succ_iff_lt_or_eq.1 hj with I|rfl
 ·exact h j y I J
 ·grind
theorem cX.found{p:α->Bool}{l:List α}{x:α}(h:cX p l k)(M:l[k]?=some x)(hp:p x=true):l.findIdx? p=some k:=by rw[List.findIdx?_eq_some_iff_getElem];obtain⟨I,J⟩:=δ.1 M;refine⟨I,by rw[J];exact hp,fun j hj=>?_⟩;rw[h j (l[j]) hj (by simp)];simp
theorem cX.end_{p:α->Bool}{l:List α}(h:cX p l k)(I:k=l.length):l.findIdx? p=none:=by rw[List.findIdx?_eq_none_iff];intro x J;obtain⟨j,hj⟩:=Γ.1 J;exact h j x (by rw[I];exact(δ.1 hj).1) hj
def fu(n:Int):Bool:=decide (-1000000000000000<=n)&&decide (n<=1000000000000000)
abbrev B(l:Array UInt8):ByteArray:=⟨l⟩
def words:List ByteArray:=[B #[97,110,100],B #[111,114],B #[110,111,116],B #[110,117,108,108],B #[116,114,117,101],B #[102,97,108,115,101]]
def lower(b:UInt8):Bool:=decide (97<=b.toNat)&&decide (b.toNat<=122)
def aX(s:ByteArray):List UInt8:=s.data.toList
def marks:List UInt8:=[95,46,58,47,60,62,36,42,126,45]
def iX(b:UInt8):Bool:=lower b||(decide (65<=b.toNat)&&decide (b.toNat<=90))||(decide (48<=b.toNat)&&decide (b.toNat<=57))||marks.any fun c=>decide (c=b)
def cO(s:ByteArray):Int:=if s=B #[]∨40<s.size∨(aX s).all iX=false then 3 else 0
theorem kC{s}(h:dn (.string s)=true):(aX s).length<=maxLen:=by simpa[dn,aX]using h
theorem bh(s:ByteArray):(aX s).length=s.size:=by simp[aX]
theorem nG(c):∀l:List UInt8,(0<=Lib.indexByte l c)↔c∈l
 |[]=>by simp[Lib.indexByte]
 |b::l=>by have I:=nG c l;have h1:=Lib.indexByte_ge l c;simp only[Lib.indexByte,C'];grind
theorem yw(l:List UInt8)(c):decide (0<=Lib.indexByte l c)=l.any fun x=>decide (x=c):=by rw[Bool.eq_iff_iff];simp[nG]
theorem rM(c):∀l:List UInt8,Lib.indexByte l c<=l.length
 |[]=>by simp[Lib.indexByte]
 |b::l=>by have I:=rM c l;simp only[Lib.indexByte,Ξ];grind
theorem AV{s}(h:dn (.string s)=true)(c):dn (.int .i64 (Lib.indexByte (aX s) c))=true:=by
 have h1:=Lib.indexByte_ge (aX s) c;have h2:=rM c (aX s);have h3:=kC h;have h4:maxLen=9223372036854775807:=rfl;simp only[dn,ρ,Δ];refine⟨?_,?_⟩;·show-9223372036854775808<=_;omega
 ·show _<=9223372036854775807;omega
theorem qh{s}:s=B #[]↔aX s=[]:=by
 constructor;·rintro rfl;rfl
 ·intro hb
  have:s.data=#[]:=by simpa[aX]using hb
  cases s;simp_all[B]
theorem CM{α:Type}{l:List α}{k:Nat}(h:k<l.length):∃x,l[k]?=some x∧l.drop k=x::l.drop (k+1):=⟨l[k],by simp[h],List.drop_eq_getElem_cons h⟩
theorem dropEnd{α:Type}{l:List α}{k:Nat}(h:l.length<=k):l.drop k=[]:=List.drop_eq_nil_of_le h
theorem b5{P C n st o}{k:IntKind}{x y}(h:Pu P C n st o (.d (.v (.int k x))))(e:x=y):Pu P C n st o (.d (.v (.int k y))):=e▸h
section
variable{P:Program}{C:Ctx}{n:Nat}{Q:Exit→St→Prop}{c:Code}{f:List (Nat×A)}{bx:List (Nat×List A)}{lv:List Nat}{gen:Nat}
theorem qC{g j:Nat}{cells:List A}{es:List (List D)}(hb:bk bx g=some cells)(I:cells[j]?=some (.d (.sl es)))(h:es.length<=maxLen->W P C n c Q ⟨f,bx,lv,gen⟩):W P C n c Q ⟨f,bx,lv,gen⟩:=by
 intro tmps w ⟨G,hs⟩;obtain⟨b,cs,T,h1,h2,h3,h4,h5⟩:=hs.box g cells hb;have hj:j<cs.size:=by rw[h3];exact(δ.1 I).1
 have:=h5 j cs[j] _ (by simp[hj]) I;generalize cs[j]=u at this;cases this with|d hd=>exact h hd.len.choose_spec.choose_spec.2 tmps w ⟨G,hs⟩
end
mutual
def deep:Ex->Int->Int->Int
 |.mk op name v kids,level,left=>if level<1∨left-1<0∨300<name.size∨300<v.s.size then-1 else HV kids level (left-1)
def HV:List Ex->Int->Int->Int
 |[],_,left=>left
 |k::r,level,left=>if deep k (level-1) left<0 then-1 else HV r level (deep k (level-1) left)
end
def small(e:Ex):Bool:=decide (0<=deep e 40 300)
theorem wrap_zero{x}(h0:0<=x)(h1:x<18446744073709551616):(IntKind.i64.wrap x=0)↔x=0:=by simp only[IntKind.wrap,IntKind.signed,IntKind.bits];grind
/-! tables -/
end Go.Tb
namespace Go.Ab
open Go.RowKit
variable {w w':World}{tmps:Array Value}{pv:Nat→Nat→Prop}{x y:Operand}{t g i k e m j b id off d clock sz gen' cap mt t' g2 d0:Nat}{P:Program}{Q':Exit→Act→World→Prop}{fid:FuncId}{lv' lv gs order os:List Nat}{bs:List (Nat×Nat)}{o:Oper}{xs:Array Operand}{fn:Func}{parts:Array (Nat×Operand)}{α ι β:Type}{dst:Option Nat}{hole:Option Value}{R:Value→World→Prop}{ops:Array Oper}{want:Bool}{listed:Array Bool}{T ty:TypeId}{act:Act}
variable {es es2:List (List D)}{f:List (Nat×A)}{G:Gh}{a a':A}{st st':St}{l:List D}{E E':En}{args cells cells' caps:List A}{Q:Exit→St→Prop}{b1:List (List A)}{C:Ctx}
variable {rs:List RV}
variable {I td J ed M N:cY}
end Go.Ab
namespace Go.Tb
open Go.Ab
variable {l x:List UInt8}{i k u:Nat}{level id a:Int}{α β:Type}{ids:List Int}
def Lm:List z8->Nat->List z8->Bool
 |_,_,[]=>false
 |all,k,c::r=>(all.take k).any (fun x=>decide (x.name=c.name))||Lm all (k+1) r
end Go.Tb
namespace Go.Ab
open Go.RowKit
variable {w w':World}{tmps:Array Value}{pv:Nat→Nat→Prop}{x y:Operand}{t g i k e m j b id off d clock sz gen' cap mt t' g2 d0:Nat}{P:Program}{Q':Exit→Act→World→Prop}{fid:FuncId}{lv' lv gs order os:List Nat}{bs:List (Nat×Nat)}{o:Oper}{xs:Array Operand}{fn:Func}{parts:Array (Nat×Operand)}{α ι β:Type}{dst:Option Nat}{hole:Option Value}{R:Value→World→Prop}{ops:Array Oper}{want:Bool}{listed:Array Bool}{T ty:TypeId}{act:Act}
variable {es es2:List (List D)}{f:List (Nat×A)}{G:Gh}{a a':A}{st st':St}{l:List D}{E E':En}{args cells cells' caps:List A}{Q:Exit→St→Prop}{b1:List (List A)}{C:Ctx}
variable {rs:List RV}
variable {I td J ed M N:cY}
section
variable(T:cT P){n:Nat}{rest:List Oper}{c:Code}
variable{bx:List (Nat×List A)}{gen:Nat}{pos:String}{af:Array Edge}
theorem zn{α:Type}{fn:α->List D}{l l2:List α}{x y:Operand}{t e:Nat}{J I:cY}{g:Nat}{b:A}(U:av f x=some (.own g (l.map fn)))(X:av f y=some b)(M:iU b=some (l2.map fn))(ht:bk T.l t=some J)(hk:J.k=.slice e)
 (he:bk T.l e=some I)(N:(lv.any fun h=>Nat.beq h g)=true)(hz:Nat.blt 0 I.n=true)(O:Nat.blt 0 I.b=true)(hd:Nat.blt d n=true)(hl:∀a,(fn a).length=I.n)(hb:(l.length+l2.length)*I.b<=140737488355328)
 (h:WO P C n ops Q rest ⟨(d,.own gen ((l++l2).map fn))::f,bx,gen::cu lv g,gen+1⟩):WO P C n ops Q (⟨some d,.call ⟨.builtin .append,#[x,y],#[t,t]⟩,ty,pos,af,none⟩::rest) ⟨f,bx,lv,gen⟩:=by
 grind[List.any_eq_true,Nat.eq_of_beq_eq_true,xk]
end
def vJ(bx:List (Nat×List A)):List Nat->List (Nat×List A)
 |[]=>[]
 |g::r=>match bk bx g with
   |some c=>(g,c)::vJ bx r
   |none=>vJ bx r
section
variable{n:Nat}{c:Code}
variable{f' fi:List (Nat×A)}{bx bx' bi:List (Nat×List A)}{gen:Nat}
def QC(C:Ctx)(n:Nat)(S:St)(Q:Exit->St->Prop):Exit->St->Prop
 |.normal,st=>∀(tmps:Array Value)(w:World),gA C n st tmps w->gA C n S tmps w
 |e,st=>Q e st
theorem W.kV(V ts B bs lv' gen')(h:W P C n c (QC C n ⟨V++dm f ts,B++vJ bx bs,lv',gen'⟩ Q) ⟨f,bx,lv,gen⟩)(I:Q .normal ⟨V++dm f ts,B++vJ bx bs,lv',gen'⟩):W P C n c Q ⟨f,bx,lv,gen⟩:=
 fun tmps w hs=>wp_mono (h tmps w hs) fun e act w⟨hd,st',hs,he⟩=>by
  cases e with
  |normal=>exact⟨hd,_,he _ _ hs,I⟩
  |_=>exact⟨hd,st',hs,he⟩
theorem cZ{I}[hnb:NB C I](order)(N:lV order gen' I=true)(O:qg order f f')(J:qb f fi)(hb:kL order bx bx')(M:mT order bx bi)(hl:uo order lv lv'=true):
 QC C n ⟨f'++fi,bx'++bi,lv',gen'⟩ Q .normal ⟨f,bx,lv,gen⟩:=fun _ _ h=>gA.cV order N O J hb M hl h
theorem K7{S}(h:Q .ret st):QC C n S Q .ret st:=h
end
end Go.Ab
namespace Go.Tb
open Go.Ab
end Go.Tb
namespace Go.Ab
open Go.RowKit
variable {w w':World}{tmps:Array Value}{pv:Nat→Nat→Prop}{x y:Operand}{t g i k e m j b id off d clock sz gen' cap mt t' g2 d0:Nat}{P:Program}{Q':Exit→Act→World→Prop}{fid:FuncId}{lv' lv gs order os:List Nat}{bs:List (Nat×Nat)}{o:Oper}{xs:Array Operand}{fn:Func}{parts:Array (Nat×Operand)}{α ι β:Type}{dst:Option Nat}{hole:Option Value}{R:Value→World→Prop}{ops:Array Oper}{want:Bool}{listed:Array Bool}{T ty:TypeId}{act:Act}
variable {es es2:List (List D)}{f:List (Nat×A)}{G:Gh}{a a':A}{st st':St}{l:List D}{E E':En}{args cells cells' caps:List A}{Q:Exit→St→Prop}{b1:List (List A)}{C:Ctx}
variable {rs:List RV}
variable {I td J ed M N:cY}
mutual
def qi:D->D
 |.v x=>bif isNil (.d (.v x))then .sl []else .v x
 |.sl es=>.sl (wC es)
def tS:List D->List D
 |[]=>[]
 |x::r=>qi x::tS r
def wC:List (List D)->List (List D)
 |[]=>[]
 |x::r=>tS x::wC r
end
theorem nl:∀l,tS l=l.map qi
 |[]=>rfl
 |x::r=>by simp[tS,nl r]
theorem wc:∀l,wC l=l.map tS
 |[]=>rfl
 |x::r=>by simp[wC,wc r]
theorem b7.qi{w:World}{pv:Nat->Nat->Prop}{v:Value}{d:D}(h:b7 w pv v d):b7 w pv v (Ab.qi d):=by
 induction h with
 |v x I=>
   simp only[Ab.qi]
   cases J:isNil (.d (.v x))with
   |true=>have:=HG J;simp only[A.d.injEq,D.v.injEq]at this;subst this;exact .nil
   |false=>exact .v x I
 |nil=>exact .nil
 |emp a cap hm=>exact .emp a cap hm
 |sl b off len cap sz es u hl M hm hs hu _ N=>
   simp only[Ab.qi,wc];refine .sl b off len cap sz _ u (by simpa using hl) M hm (fun i e he=>?_) hu (fun i j e d he hd=>?_);·grind[Option.map_eq_some_iff,nl,List.length_map]
   ·grind[Option.map_eq_some_iff,nl]
def pX:A->A
 |.d x=>.d (qi x)
 |.ag l=>.ag (tS l)
 |a=>a
theorem bG.pX{v}(h:bG E v a):bG E v (Ab.pX a):=by
 cases h with
 |d hd=>exact .d hd.qi
 |ag vs l hs hd=>refine .ag vs _ (by rw[nl];simpa using hs) (fun i u x hu M=>?_);rw[nl,τ,χ]at M;obtain⟨y,hy,rfl⟩:=M;exact(hd i u y hu hy).qi
 |any=>exact .any _
 |ni t x=>exact .ni t x
 |fl _ es hd ad=>exact .fl _ es hd ad
 |own _ g es hd J N=>exact .own _ g es hd J N
 |agg vs l hs O hd=>exact .agg vs l hs O hd
 |tup vs l hs hd=>exact .tup vs l hs hd
 |rowd b off l u U hd=>exact .rowd b off l u U hd
 |row b off l u U hd=>exact .row b off l u U hd
 |ptr _ g off b J hb hp=>exact .ptr _ g off b J hb hp
 |xs _ g es J h1 M=>exact .xs _ g es J h1 M
 |xp _ g i off l J h1 M=>exact .xp _ g i off l J h1 M
 |mp _ g es J h1 M=>exact .mp _ g es J h1 M
 |mq _ g es J h1 M=>exact .mq _ g es J h1 M
 |mo _ g es hole ob J h1 M=>exact .mo _ g es hole ob J h1 M
 |bf _ g T s J h1 M=>exact .bf _ g T s J h1 M
 |np _ g T b J hb hT u M=>exact .np _ g T b J hb hT u M
 |sb _ g n c b J hb X M=>exact .sb _ g n c b J hb X M
 |fx _ u g es ou M J hu O=>exact .fx _ u g es ou M J hu O
 |ol _ u g' E' g es M ai aj J hu=>exact .ol _ u g' E' g es M ai aj J hu
 |ow _ v g es hd J N=>exact .ow _ v g es hd J N
 |gi _ g I J N=>exact .gi _ g I J N
 |lk _ g n c b v J hb X M=>exact .lk _ g n c b v J hb X M
 |clo f vs l hs hd=>exact .clo f vs l hs hd
 |bnd f vs l hs hd=>exact .bnd f vs l hs hd
theorem bp.pX[dG P]{f r}(h:bp P f (args.map Ab.pX) r k):bp P f args r k:=
 ⟨h.ok,fun C I w O hw hp U M J=>h.calls C I w O hw hp U (by simpa using M) (fun i u a hu N=>by rw[τ,χ]at N;obtain⟨y,X,rfl⟩:=N;exact(J i u y hu X).pX)⟩
theorem gX{n}(h:Pu P C n st o a)(I:Ab.pX a=a'):Pu P C n st o a':=by subst I;intro G tmps w hs;exact(h G tmps w hs).mono fun J w'⟨h1,h2⟩=>⟨h1,h2.pX⟩
end Go.Ab
namespace Go.Tb
open Go.Ab
variable {l x:List UInt8}{i k u:Nat}{level id a:Int}{α β:Type}{ids:List Int}
end Go.Tb
namespace Go.Ab
open Go.RowKit
variable {w w':World}{tmps:Array Value}{pv:Nat→Nat→Prop}{x y:Operand}{t g i k e m j b id off d clock sz gen' cap mt t' g2 d0:Nat}{P:Program}{Q':Exit→Act→World→Prop}{fid:FuncId}{lv' lv gs order os:List Nat}{bs:List (Nat×Nat)}{o:Oper}{xs:Array Operand}{fn:Func}{parts:Array (Nat×Operand)}{α ι β:Type}{dst:Option Nat}{hole:Option Value}{R:Value→World→Prop}{ops:Array Oper}{want:Bool}{listed:Array Bool}{T ty:TypeId}{act:Act}
variable {es es2:List (List D)}{f:List (Nat×A)}{G:Gh}{a a':A}{st st':St}{l:List D}{E E':En}{args cells cells' caps:List A}{Q:Exit→St→Prop}{b1:List (List A)}{C:Ctx}
variable {rs:List RV}
variable {I td J ed M N:cY}
def ng(P:Program)[dG P](w:World):Prop:=∃W:World,(W.ShapedOpen P∧dG.met P W)∧W.heap.size<=w.heap.size∧∀b,b<W.heap.size->w.heap[b]?=W.heap[b]?
theorem ng.cell[dG P](h:ng P w)(I:∀W:World,W.ShapedOpen P->∃m,W.cell? ⟨b,0,none⟩=some (.int .i64 m)):∃m,w.cell? ⟨b,0,none⟩=some (.int .i64 m):=by obtain⟨W,h1,_,h3⟩:=h;grind[W,eh,cS]
theorem bp.Gr[dG P]{f r}(ok:lx P f)(h:∀(w:World)(I:Array Value)(E:En),E.w=w->ng P w->I.size=args.length->(∀(i:Nat)(u:Value)(a:A),I[i]?=some u->args[i]?=some a->bG E u a)->
  Calls P f I w fun e w'=>∃v,e=.returned v∧Below w.heap.size w w'∧∀E':En,E'.w=w'->(∀b o,E'.pv b o->b<w.heap.size)->bG E' v r):
 bp P f args r 0:=by
 refine⟨ok,fun C I w X hw hp N O M=>?_⟩;have hu:ng P w:=by obtain⟨W,h1,h2,h3⟩:=X.h;rw[hw]at h2 h3;exact⟨W,h1,h2,fun b hb=>(h3 b hb).1⟩
 refine(h w I (br C G0 0 w) Z hu O M).mono fun e w'⟨v,h1,hb,J⟩=>⟨v,G0,h1,?_,J _ Z (fun b o U=>N b o ((tV C b o).1 U))⟩;subst hw
 exact{size:=rfl,frame:=fun t a ha=>by simp[look]at ha,box:=fun g cells hc=>by simp[bk]at hc,gbox:=fun g b hb=>by simp[G0]at hb,inj:=fun g g' b hb=>by simp[G0]at hb,
         live:=fun g hg=>by simp at hg,gown:=fun g r J=>by simp[G0]at J,row:=fun g b len cap sz ad J=>by simp[G0]at J,mrow:=fun g b bs J=>by simp[G0]at J,sub:=fun g b bs c lim J=>by simp[G0]at J,gcell:=fun g b hb=>by simp[G0]at hb,xold:=fun b o hb=>⟨N b o hb,hp.1 b⟩,kold:=fun b o hb=>absurd hb (hp.2.1 b o),
         lent:=fun i b hb=>by rw[hp.2.2.1]at hb;simp at hb,fr:=⟨hb.os,hb.tape,hb.output,hb.size,fun b h1 _=>hb.block b h1,fun _ _ _ hb=>absurd hb (hp.2.1 _ _),.below hb⟩}
theorem Ie{xs:List Value}{I:Array Value}(N:I.size=(xs.map fun x=>A.d (.v x)).length)(hr:∀(i:Nat)(u:Value)(a:A),I[i]?=some u->(xs.map fun x=>A.d (.v x))[i]?=some a->bG E u a):I=xs.toArray∧∀x∈xs,dn x=true:=by
 have O:∀(i:Nat)(u x:Value),I[i]?=some u->xs[i]?=some x->u=x∧dn x=true:=by intro i u x U J;have:=hr i u (.d (.v x)) U (by simp[J]);cases this with|d hd=>cases hd with|v _ ho=>exact⟨rfl,ho⟩
 have M:I.size=xs.length:=by simpa using N
 refine⟨Array.ext (by simpa using M) (fun i h1 h2=>?_),fun x J=>?_⟩
 ·have X:i<xs.length:=by simpa using h2
  have:=(O i I[i] xs[i] (by simp[h1]) (by simp[X])).1;grind
 ·obtain⟨i,hi,rfl⟩:=List.mem_iff_getElem.1 J
  exact(O i (I[i]'(by omega)) xs[i] (by simp[M,hi]) (by simp[hi])).2
theorem bp.xZ[dG P]{f}{xs:List Value}{r}(ok:lx P f)(h:∀(w:World),ng P w->(∀x∈xs,dn x=true)->Calls P f xs.toArray w fun e w'=>∃v,e=.returned v∧Below w.heap.size w w'∧∀E':En,E'.w=w'->(∀b o,E'.pv b o->b<w.heap.size)->bG E' v r):
 bp P f (xs.map fun x=>.d (.v x)) r 0:=by
 refine bp.Gr ok fun w J E _ hu I M=>?_;obtain⟨e,N⟩:=Ie I M;grind
theorem ng.var[dG P](h:ng P w):∃W:World,dG.met P W∧∀name cs,W.var? P name=some cs->w.var? P name=some cs:=by
 obtain⟨W,h1,_,h3⟩:=h;refine⟨W,h1.2,fun name cs I=>?_⟩;unfold World.var? at I⊢
 cases J:P.globalNamed name with
 |none=>rw[J]at I;simp at I
 |some g=>grind
def qq(P:Program)(W:World):Prop:=
 W.var? P "internal/strconv.uint64pow10" =some (Lib.pow10Tab.map fun z=>Value.int .u64 z).toArray∧(∃t p,W.var? P "strconv.ErrSyntax" =some #[.iface t p])∧∃t p,W.var? P "strconv.ErrRange" =some #[.iface t p]
theorem ng.num[dG P](hm:∀W,dG.met P W->qq P W)(h:ng P w):qq P w:=by obtain⟨W,h1,h2⟩:=h.var;obtain⟨h3,⟨t,p,h4⟩,t',I,h5⟩:=hm W h1;exact⟨h2 _ _ h3,⟨t,p,h2 _ _ h4⟩,t',I,h2 _ _ h5⟩
theorem xf{x y b}(J:bG E x a)(hb:bG E y b):bG E (.tuple #[x,y]) (.tup [a,b]):=
 .tup _ _ rfl (fun i u z hu I=>by
  match i,hu,I with
  |0,hu,I=>simp only[List.getElem?_toArray,List.getElem?_cons_zero,Option.some.injEq]at hu I;subst hu;subst I;exact J
  |1,hu,I=>simp only[List.getElem?_toArray,List.getElem?_cons_succ,List.getElem?_cons_zero,Option.some.injEq]at hu I;subst hu;subst I;exact hb
  |i+2,hu,I=>simp at I)
section
variable{n:Nat}
variable{bx:List (Nat×List A)}{gen:Nat}{pos:String}{af:Array Edge}
theorem xv(w){t ms}(hu:P.underlying t=some (.interface ms)):(Op.equal t .nilIface .nilIface).run P w=.ok true w:=by
 have h:∀d:Nat,(Op.equalIn (d+1) t .nilIface .nilIface).run P w=.ok true w:=fun d=>by simp[Op.equalIn,run_underlying hu]
 exact h 9999
theorem AO(w){t u v ms}(hu:P.underlying t=some (.interface ms)):(Op.equal t (.iface u v) .nilIface).run P w=.ok false w:=by
 have h:∀d:Nat,(Op.equalIn (d+1) t (.iface u v) .nilIface).run P w=.ok false w:=fun d=>by simp[Op.equalIn,run_underlying hu]
 exact h 9999
def ns(P:Program)(t:TypeId):Bool:=match P.underlying t with|some (.interface _)=>true|_=>false
theorem nz{t}(h:ns P t=true):∃ms,P.underlying t=some (.interface ms):=by grind[ns]
theorem Ls(M:av f x=some (.d (.v .nilIface)))(hB:ns P t=true):
 Pu P C n ⟨f,bx,lv,gen⟩ ⟨dst,.binOp .eql t x (.const .nilIface) t',ty,pos,af,none⟩ (.d (.v (.bool true))):=by
 obtain⟨ms,hu⟩:=nz hB;refine aq fun G tmps w hs=>?_;have I:=hs.av M;generalize J:Act.eval ⟨tmps,[]⟩ x=vx at I;cases I with|d I=>cases I with|v _ _=>
 refine⟨.bool true,?_,.d (.v _ Z)⟩;unfold execOp;show Sem.run P _ w=_;have he:(Act.eval ⟨tmps,[]⟩ (Operand.const Value.nilIface))=Value.nilIface:=rfl;simp only[J,he,eqGuard,binOp];simp[xv w hu];rfl
theorem KS(M:av f x=some .ni)(hB:ns P t=true):
 Pu P C n ⟨f,bx,lv,gen⟩ ⟨dst,.binOp .eql t x (.const .nilIface) t',ty,pos,af,none⟩ (.d (.v (.bool false))):=by
 obtain⟨ms,hu⟩:=nz hB;refine aq fun G tmps w hs=>?_;have I:=hs.av M;generalize J:Act.eval ⟨tmps,[]⟩ x=vx at I;cases I with|ni t2 N=>
 refine⟨.bool false,?_,.d (.v _ Z)⟩;unfold execOp;show Sem.run P _ w=_;have he:(Act.eval ⟨tmps,[]⟩ (Operand.const Value.nilIface))=Value.nilIface:=rfl;simp only[J,he,eqGuard,binOp];simp[AO w hu];rfl
end
theorem wq(cur:Array Value)(c:List Value)(p i)(h:p+c.length<=cur.size):
 (cur.toList.take p++c++cur.toList.drop (p+c.length)).toArray[i]?=if p<=i∧i<p+c.length then c[i-p]?else cur[i]?:=by
 grind
theorem Be(cur:Array Value)(c:List Value)(p)(h:p+c.length<=cur.size):(cur.toList.take p++c++cur.toList.drop (p+c.length)).toArray.size=cur.size:=by grind
def nR(e:List D)(off:Nat)(cs:List D):List D:=e.take off++cs++e.drop (off+cs.length)
theorem Hq{e cs:List D}(h:off+cs.length<=e.length):(nR e off cs).length=e.length:=by simp[nR];omega
theorem Ge{e cs:List D}(h:off+cs.length<=e.length):(nR e off cs)[i]?=if off<=i∧i<off+cs.length then cs[i-off]?else e[i]?:=by
 have I:(e.take off).length=off:=by simp;omega
 grind[nR]
theorem gh{v}(h:tmps[d]?=some v):tmps.setIfInBounds d v=tmps:=by grind
section
variable{n:Nat}
theorem iT.len (hs:bq C n st G tmps w) {g:Nat} {r:Row} (J:G.own g=some r) {pv:Nat→Nat→Prop} {v:Value} {es:List (List D)} (h:iT w pv r v es) :
 ∃ a cap,v=.slice a es.length cap∧es.length≤cap∧es.length≤maxLen:=by
 cases r with
 | nil=>obtain⟨rfl,rfl⟩:=h;exact⟨none,0,rfl,ω _,by simp⟩
 | zero b=>obtain⟨rfl,rfl⟩:=h;exact⟨_,0,rfl,ω _,by simp⟩
 | mp b bs=>exact h.elim
 | blk b len cap sz I=>obtain⟨rfl,h2,_⟩:=h;obtain⟨_,_,_,_,_,_,_,h3,h4,_⟩:=hs.row g b len cap sz I J;exact⟨_,cap,by rw[h2],by omega,by omega⟩
theorem bq.Ji(h:bq C n st G tmps w){r}(hg:G.own g=some r){v}(hx:iT w (cr C G) r v es)(lv)(a6:∀J∈lv,J∈st.lv∧J≠g):
 nD false C n st G tmps lv es v w w:=by
 cases r with
 |mp b bs=>exact hx.elim
 |nil=>obtain⟨rfl,rfl⟩:=hx;exact h.pA (m:=false) hg ⟨.nil,0,by simp,rfl,rfl⟩ lv a6
 |zero b=>obtain⟨rfl,rfl⟩:=hx;exact h.pA (m:=false) hg ⟨.emp _ 0 (by simp),0,by simp,0,rfl⟩ lv a6
 |blk b len cap sz c7=>
   obtain⟨rfl,hlen,rfl,hl,hr⟩:=hx;obtain⟨O,ch,cx,cur,T,aj,cj,a7,a8,hz,b3,_,hone⟩:=h.row g b len cap sz 0 hg;let M:Nat->Option Row:=fun J=>if J=st.gen then some (.blk b len cap sz (len*sz))else if J=g then none else G.own J;have df:=h.gown g _ hg;have cl:∀N o,cr C ⟨G.box,M⟩ N o->cr C G N o:=by
    rintro N o (hp|hp|⟨J,U,X,ar,ad,hp,a1⟩|⟨J,b2,bs,lim,hp,hm,a1⟩);·exact .inl hp
    ·exact .inr (.inl hp)
    ·simp only[M]at hp
     split at hp
     ·simp only[Option.some.injEq,Row.blk.injEq]at hp
      obtain⟨rfl,rfl,rfl,rfl,rfl⟩:=hp;exact .inr (.inr (.inl ⟨g,len,cap,sz,0,hg,ς _⟩))
     ·split at hp
      ·grind
      ·exact .inr (.inr (.inl ⟨J,U,X,ar,ad,hp,a1⟩))
    ·simp only[M]at hp
     split at hp;·grind
     ·split at hp
      ·grind
      ·exact .inr (.inr (.inr ⟨J,b2,bs,lim,hp,hm,a1⟩))
   have hle:(br C G st.gen w).le (br C ⟨G.box,M⟩ (st.gen+1) w):=mA h.fr h.fr (fun b o u hu hn=>⟨hu,fun hp=>hn (cl b o hp)⟩) (fun _ _ h=>h)
    (fun J r' ai I=>by
     simp only[M,if_neg (U' ai)]at I;split at I;·cases I
     ·exact I) (Nat.le_succ _) (fun _ _ _ _ _ _ _ _=>rfl) (fun _ _ _ _ _=>⟨fun _ _=>rfl,fun _ _=>rfl⟩) (.refl w)
   refine⟨⟨⟨G.box,M⟩,rfl,{size:=h.size,frame:=h.e9 hle,inj:=h.inj,xold:=h.xold,kold:=h.kold,lent:=h.lent,fr:=h.fr,gcell:=h.gcell,box:=?_,gbox:=?_,live:=?_,gown:=?_,row:=?_,mrow:=?_,sub:=?_},?_⟩⟩
   ·intro J cells hc
    obtain⟨b,cs,T,h1,h2,h3,h4,h5⟩:=h.box J cells hc;exact⟨b,cs,T,h1,h2,h3,h4,fun i u a hu ha=>(h5 i u a hu ha).mono hle⟩
   ·intro J b hb
    obtain⟨h1,h2⟩:=h.gbox J b hb;grind
   ·intro J ai
    rcases C'.1 ai with rfl|ai
    ·grind
    ·obtain⟨h1,h2⟩:=a6 J ai
     obtain⟨r',I⟩:=h.live J h1;grind
   ·intro J r' I
    simp only[M]at I;split at I;·grind
    ·split at I
     ·grind
     ·exact Y' (h.gown J r' I)
   ·intro J N U X ar ad I
    simp only[M]at I;split at I
    ·rename_i e
     simp only[Option.some.injEq,Row.blk.injEq]at I;obtain⟨rfl,rfl,rfl,rfl,rfl⟩:=I;refine⟨⟨O.1,fun o ho=>absurd (O.2 o ho) (Nat.not_lt_zero _)⟩,ch,fun g2 cy c1 di c6 h2=>?_,cur,T,aj,cj,a7,a8,hz,b3,ω _,hone⟩;grind
    ·split at I
     ·grind
     ·rename_i e1 e2
      obtain⟨h4,h5,h6,h7⟩:=h.row J N U X ar ad I;grind
   ·intro J N bs I
    have un:∀g2 N bs,M g2=some (.mp N bs)->G.own g2=some (.mp N bs):=by grind
    obtain⟨h4,dj,h5,h6⟩:=h.mrow J N bs (un _ _ _ I);grind
   ·intro J N bs c lim I hm
    have un:∀g2 N bs,M g2=some (.mp N bs)->G.own g2=some (.mp N bs):=by grind
    obtain⟨h4,h5,h6,h7,h8⟩:=h.sub J N bs c lim (un _ _ _ I) hm;grind
   ·subst hlen
    refine .own _ _ es (aw aj a7 a8 hl (fun t ht hp=>?_) (fun i j e d hi hj=>?_)) (by simp[br]) (fun r' I=>?_)
    ·rcases(hp:cr C ⟨G.box,M⟩ b t)with hp|⟨J,hp⟩|⟨J,U,X,ar,ad,hp,a1⟩|⟨J,N,bs,lim,hp,cq,_⟩
     rotate_right
     ·simp only[M]at hp
      split at hp;·grind
      ·split at hp
       ·grind
       ·exact(h.sub J N bs b lim hp cq).2.2.1 g _ _ _ _ hg
     ·have:=h.xold _ _ hp;rcases O.1 with hm|hm
      ·omega
      ·grind
     ·grind
     ·grind
    ·obtain⟨u,h1,h2⟩:=hr i j e d hi hj
     rw[cU aj]at h1;exact⟨u,h1,h2.mono hle.cell⟩
    ·have b0:M st.gen=some r':=I
     simp only[M,if_true,Option.some.injEq]at b0;subst b0;exact⟨sz,hl,rfl,rfl,rfl,rfl⟩
theorem bq.LI(h:bq C n st G tmps w){len}(hg:G.own g=some (.blk b len cap sz 0)){v}(X:iT w (cr C G) (.blk b len cap sz 0) v es){e cs:List D}(he:es[j]?=some e){I:Array Value}(hc:dZ (br C G st.gen w) I (cs.map .d))(hle:off+cs.length<=e.length)(lv)(aj:∀g'∈lv,g'∈st.lv∧g'≠g):
 ∃cur T,w.heap[b]?=some (.cells cur T (0,0))∧(j*sz+off)+I.toList.length<=cur.size∧
   nD true C n st G tmps lv (es.set j (nR e off cs)) v w (w.setRow b (cur.toList.take (j*sz+off)++I.toList++cur.toList.drop ((j*sz+off)+I.toList.length)).toArray):=by
 obtain⟨rfl,hlen,_,hl,hr⟩:=X;obtain⟨a7,b2,a8,cur,T,N,ar,b3,ch,hz,b0,_,hone⟩:=h.row g b len cap sz 0 hg;have hj:j<len:=by rw[<-hlen];exact(δ.1 he).1
 have a1:e.length=sz:=hl e (ζ he);have O:I.toList.length=cs.length:=by have:=hc.1;simpa using this
 have J:(j*sz+off)+I.toList.length<=cur.size:=by rw[O,ar];have h1:(j+1)*sz<=cap*sz:=Nat.mul_le_mul_right _ (by omega);rw[Nat.succ_mul]at h1;omega
 refine⟨cur,T,N,J,?_⟩;have ai:(es.set j (nR e off cs)).length=len:=by rw[List.length_set];exact hlen
 have:=h.sY true (g:=g) (b:=b) (len:=len) (cap:=cap) (sz:=sz) (es:=es.set j (nR e off cs)) (by simpa[iO]using hg) N (Be cur I.toList _ J) (mP hone fun u hu=>by obtain⟨i,hi⟩:=Γ.1 hu;exact hc.2.1 i u (by simpa using hi)) (fun t ht=>by simp[iO]at ht) (by omega) (by omega) (fun x X=>?_) (fun i k x d hi M=>?_) lv aj
 ·rw[ai]at this
  exact this
 ·rcases List.mem_or_eq_of_mem_set X with X|rfl
  ·exact hl x X
  ·rw[Hq hle];exact a1
 ·rw[List.getElem?_set]at hi
  have U:∀i k u,cellAt w b (i*sz+k)=some u->cur[i*sz+k]?=some u:=fun i k u hu=>by rw[cU N]at hu;exact hu
  by_cases hij:j=i
  ·subst hij
   rw[if_pos rfl,if_pos (by omega)]at hi;simp only[Option.some.injEq]at hi;subst hi;rw[Ge hle]at M;rw[wq cur I.toList _ _ J,O];by_cases hin:off<=k∧k<off+cs.length
   ·rw[if_pos hin]at M
    rw[if_pos (by omega)];have e1:j*sz+k-(j*sz+off)=k-off:=by omega
    rw[e1];have ad:k-off<I.size:=by have:=(δ.1 M).1;simp at O;omega
    have hu:I[k-off]?=some I[k-off]:=by simp[ad]
    have h3:=hc.2.2 (k-off) _ (.d d) hu (by rw[τ,M];rfl);revert h3 hu;generalize I[k-off]=u;intro hu h3
    cases h3 with
    |d h3=>exact⟨_,by rw[Array.getElem?_toList];exact hu,h3⟩
   ·rw[if_neg hin]at M
    rw[if_neg (by omega)];obtain⟨u,h1,h2⟩:=hr j k e d he M;exact⟨u,U j k u h1,h2⟩
  ·rw[if_neg hij]at hi
   obtain⟨u,h1,h2⟩:=hr i k x d hi M;have cj:i<len:=by rw[<-hlen];exact(δ.1 hi).1
   have cl:k<sz:=by rw[<-hl x (ζ hi)];exact(δ.1 M).1
   rw[wq cur I.toList _ _ J,O,if_neg];·exact⟨u,U i k u h1,h2⟩
   ·rintro⟨h3,h4⟩
    rcases Nat.lt_or_gt_of_ne hij with ad|a6
    ·have:(j+1)*sz<=i*sz:=Nat.mul_le_mul_right _ ad
     rw[Nat.succ_mul]at this;omega
    ·have:(i+1)*sz<=j*sz:=Nat.mul_le_mul_right _ a6
     rw[Nat.succ_mul]at this;omega
end
section
variable(T:cT P){n:Nat}{rest:List Oper}
theorem WO.Jg (hg:o.guard=none) (hd:gZ n o.dst=true) {x y:Operand} {t e:Nat} {U I:cY} (ho:o.op=.call ⟨.builtin .append,#[x,y],#[t,t]⟩) (ht:bk T.l t=some U) (hk:U.k=.slice e) (he:bk T.l e=some I)
 {g:Nat} {es es2:List (List D)} (hx:av st.f x=some (.xs g es)) (X:g∈st.lv) {b:A} (hy:av st.f y=some b) (ad:iU b=some es2) (hz:Nat.blt 0 I.n=true) (ai:Nat.blt 0 I.b=true)
 (hl:∀ (x:List D),x∈es++es2→x.length=I.n) (hb:(es.length+es2.length)*I.b≤140737488355328)
 (h:WO P C n ops Q rest (St.put { st with lv:=st.gen::cu st.lv g,gen:=st.gen+1 } o.dst (.xs st.gen (es++es2)))):WO P C n ops Q (o::rest) st:=by
 refine WO.step hg fun tmps w ⟨G,hs⟩=>?_;have hr:=hs.av hx;have aj:=ji ad (hs.av hy);obtain⟨r,J⟩:=hs.live g X;generalize hv:Act.eval ⟨tmps,[]⟩ x=v at hr
 cases hr with
 | xs _ _ _ a6 h1 O=>
 have N:=O r J;obtain⟨a,cap,h2,h3,_⟩:=iT.len hs J N;obtain⟨v',w',M,⟨G',_,ar,a1⟩⟩:=qe T true hs ht hk he ⟨a,cap,h2,h3⟩ aj (.own g r J ⟨h1,N⟩) hl (κ hz) (κ ai) hb o.type;rw[←hv] at M;exact dw (nh ho M) ⟨_,⟨G',ar.put (dp hd) a1⟩,h⟩
theorem W.yJ{c}(hl:look st.f d=some (.d (.v (.slice none 0 0))))(hd:Nat.blt d n=true)(h:W P C n c Q (St.set {st with lv:=st.gen::st.lv,gen:=st.gen+1} d (.xs st.gen []))):W P C n c Q st:=by
 intro tmps w ⟨G,hs⟩;obtain⟨v,N,I⟩:=hs.frame _ _ hl;cases I with|d I=>cases I with|v _ _=>
 obtain⟨⟨O,_,J,M⟩⟩:=hs.oy true st.lv (fun _ h=>h);refine h tmps w ⟨O,?_⟩;have:=J.set (d:=d) (κ hd) M;rwa[gh N]at this
theorem aS{c}(hl:look st.f d=some (.xs g es))(M:g∈st.lv)(hd:Nat.blt d n=true)(h:W P C n c Q (St.set {st with lv:=st.gen::cu st.lv g,gen:=st.gen+1} d (.own st.gen es))):W P C n c Q st:=by
 intro tmps w ⟨G,hs⟩;obtain⟨v,X,hr⟩:=hs.frame _ _ hl;obtain⟨r,I⟩:=hs.live g M
 cases hr with
 |xs _ _ _ ad h1 J=>
 obtain⟨⟨G',_,N,O⟩⟩:=hs.Ji I (J r I) (cu st.lv g) (fun g' U=>dH U);refine h tmps w ⟨G',?_⟩;have:=N.set (d:=d) (κ hd) O;rwa[gh X]at this
theorem Pu.Ar {x:Operand} {t e:Nat} {M:cY} (U:o.op=.call ⟨.builtin .len,#[x],#[t]⟩) (X:bk T.l t=some M) (hk:M.k=.slice e) {g:Nat} {es:List (List D)} (hx:av st.f x=some (.xs g es)) (N:g∈st.lv) :
 Pu P C n st o (.d (.v (.int .i64 es.length))):=by
 refine aq fun G tmps w hs=>?_;have O:=hs.av hx;obtain⟨r,I⟩:=hs.live g N;generalize hv:Act.eval ⟨tmps,[]⟩ x=v at O
 cases O with
 | xs _ _ _ ad h1 J=>
 obtain⟨a,cap,h2,_,hlen⟩:=iT.len hs I (J r I);refine⟨.int .i64 es.length,?_,.d (.v _ ?_)⟩
 ·unfold execOp
  rw[U];show Sem.run P (do let d ←resolve (Act.eval ⟨tmps,[]⟩) ⟨.builtin .len,#[x],#[t]⟩ o.type;invoke d.target d.args) w=_;simp only[resolve,List.map_toArray,J',List.map_nil,hv,h2,Sem.run_bind,Sem.run_pure,Result.andThen_ok,invoke,builtin,Builtin.len_];simp[run_underlying (T.gD X hk),goInt];rfl
 ·simp only[maxLen] at hlen
  simp[dn,IntKind.min,IntKind.max,IntKind.signed,IntKind.bits];omega
theorem Pu.gB{X}(ho:o.op=.indexAddr t x X)(ht:bk T.l t=some td)(hk:td.k=.slice e)(he:bk T.l e=some N)(hx:av st.f x=some (.xs g es))(ai:g∈st.lv){k:IntKind}{i:Int}(hi:av st.f X=some (.d (.v (.int k i))))(h0:0<=i)(hl:es[i.toNat]?=some l)(hlen:l.length=N.n):Pu P C n st o (.xp g i.toNat 0 l):=by
 refine aq fun G tmps w hs=>?_;have hu:=T.gD ht hk;have O:=hs.av hx;have I:=hs.av hi;obtain⟨r,U⟩:=hs.live g ai;generalize aj:Act.eval ⟨tmps,[]⟩ X=vi at I;cases I with|d I=>cases I with|v _ _=>
 have J:i.toNat<es.length:=(δ.1 hl).1;generalize ar:Act.eval ⟨tmps,[]⟩ x=vx at O
 cases O with
 |xs _ _ _ a1 h1 ad=>
 have M:=ad r U
 cases r with
 |nil=>obtain⟨_,h2⟩:=M;rw[h2]at J;simp at J
 |zero b=>obtain⟨_,h2⟩:=M;rw[h2]at J;simp at J
 |mp b bs=>exact M.elim
 |blk b len cap sz a6=>
   obtain⟨rfl,h2,h3,h4,h5⟩:=M;have a7:sz=N.n:=by rw[<-h4 _ (ζ hl),hlen]
   subst a7;refine⟨.pointer (some ⟨b,i.toNat*N.n,none⟩),?_,.xp _ g _ 0 l a1 rfl (fun r' a8=>?_)⟩
   ·unfold execOp
    rw[ho];show Sem.run P _ w=.ok _ w;have b0:0<=i∧i<(len:Int):=⟨h0,by omega⟩;simp only[aj,ar,Instr.indexAt,asIntOf,Sem.run_bind,Sem.run_pure,Result.andThen_ok,run_underlying hu,b0,and_self,if_true,T.sizeOf he];unfold Addr.add;grind
   ·have e2:r'=.blk b len cap N.n a6:=P' ((a8:G.own g=some r').symm.trans U)
    subst e2;refine⟨rfl,by omega,by rw[Nat.zero_add];exact hlen,fun j d hj=>?_⟩;grind
theorem Pu.jx(ho:o.op=.fieldAddr t x i){I O}(hf:ry T t i=some (I,O))(U:eT T O=m+1)(hx:av st.f x=some (.xp g j off l))(X:g∈st.lv)(hle:I<=l.length):
 Pu P C n st o (.xp g j (off+I) (l.drop I)):=by
 refine aq fun G tmps w hs=>?_;have hr:=hs.av hx;obtain⟨r,M⟩:=hs.live g X;generalize hv:Act.eval ⟨tmps,[]⟩ x=v at hr
 cases hr with
 |xp _ _ _ _ _ ad h1 N=>
 have J:=N r M
 cases r with
 |nil=>exact J.elim
 |zero b=>exact J.elim
 |mp b bs=>exact J.elim
 |blk b len cap sz ai=>
   obtain⟨rfl,h2,h3,h4⟩:=J;have ar:(Instr.fieldAt t (.pointer (some ⟨b,j*sz+off,none⟩)) i).run P w=.ok (.pointer (some ⟨b,j*sz+(off+I),none⟩)) w:=by have:=mN T hf U b (j*sz+off) w;grind
   refine⟨.pointer (some ⟨b,j*sz+(off+I),none⟩),?_,.xp _ g j (off+I) (l.drop I) ad Z (fun r' aj=>?_)⟩
   ·unfold execOp
    rw[ho];show Sem.run P _ w=.ok _ w;simp_all
   ·have e2:r'=.blk b len cap sz ai:=P' ((aj:G.own g=some r').symm.trans M)
    subst e2;refine⟨rfl,h2,by simp;omega,fun k d hk=>?_⟩;grind
theorem Pu.jT(ho:o.op=.load t x)(hx:av st.f x=some (.xp g j off l))(U:g∈st.lv)(ha:fU T t l=some a):Pu P C n st o a:=by
 refine aq fun G tmps w hs=>?_;have X:=hs.av hx;obtain⟨r,ad⟩:=hs.live g U;generalize hv:Act.eval ⟨tmps,[]⟩ x=v at X
 cases X with
 |xp _ _ _ _ _ aj h1 N=>
 have I:=N r ad
 cases r with
 |nil=>exact I.elim
 |zero b=>exact I.elim
 |mp b bs=>exact I.elim
 |blk b len cap sz ar=>
   obtain⟨rfl,h2,h3,h4⟩:=I;have M:∀k,k<l.length->∃u,cellAt w b (j*sz+off+k)=some u:=fun k J=>by obtain⟨u,h5,_⟩:=h4 k l[k] (by simp[J]);exact⟨u,h5⟩
   have key:=om (E:=br C G st.gen w) T (t:=t) (a:=a) (b:=b) (off:=j*sz+off) (l:=l) (u:=fun k=>(cellAt w b (j*sz+off+k)).getD default)
    (fun k J=>by obtain⟨u,hu⟩:=M k J;show cellAt w b _=_;rw[hu];rfl) (fun k y J=>by obtain⟨u,h5,O⟩:=h4 k y J;have ai:cellAt w b (j*sz+off+k)=some u:=h5;rw[ai];exact O) ha
   obtain⟨v,h5,O⟩:=key;refine⟨v,?_,O⟩;rw[nf ho];simp_all
theorem Ba(hs:bq C n st G tmps w){t}(ho:o.op=.store t x y)(hx:av st.f x=some (.xp g j off l))(b0:g∈st.lv){v}(hv:bG (br C G st.gen w) v (.xs g es)){e:List D}(he:es[j]?=some e)(cx:off+l.length=e.length)(ha:av st.f y=some a){cs:List D}(hc:Ci a=some cs)(I:eT T t=cs.length)(hz:cs.length≠0)(hle:cs.length<=l.length):
 ∃w',(execOp (Act.eval ⟨tmps,[]⟩) o).run P w=.ok .skip w'∧nD true C n st G tmps (cu st.lv g) (es.set j (nR e off cs)) v w w'∧∀N X,G.box X=some N->w'.heap[N]?=w.heap[N]?:=by
 obtain⟨r,J⟩:=hs.live g b0;have aj:=hs.av hx;generalize b2:Act.eval ⟨tmps,[]⟩ x=vx at aj
 cases hv with
 |xs _ _ _ _ _ a6=>
 cases aj with
 |xp _ _ _ _ _ _ _ ad=>
 have ar:=a6 r J;have M:=ad r J
 cases r with
 |nil=>exact M.elim
 |zero b=>exact M.elim
 |mp b bs=>exact M.elim
 |blk b len cap sz b3=>
   have ch:b3=0:=ar.2.2.1;subst ch;obtain⟨rfl,_,_,_⟩:=M;have O:=B9 hc (hs.av ha);obtain⟨cur,T',a7,a8,ai⟩:=hs.LI J ar he (off:=off) O (by omega) (cu st.lv g) (fun X cj=>dH cj);have a1:=run_storeCells_at P b (j*sz+off) T' (Act.eval ⟨tmps,[]⟩ y).cells.toList 0 cur w a7 (by simpa using a8) (fun u hu=>by obtain⟨i,hi⟩:=Γ.1 hu;exact O.2.1 i u (by simpa using hi));obtain⟨d,U,cl⟩:∃d,bk T.l t=some d∧d.n=cs.length:=by
    unfold eT at I;split at I;·rename_i d U;exact⟨d,U,I⟩
    ·exact absurd I.symm hz
   refine⟨_,?_,ai,fun N X cq=>setRow_other w b N _ (fun e=>(hs.row g b len cap sz 0 J).2.1 X (e▸cq))⟩;unfold execOp;rw[ho];show Sem.run P _ w=_;simp only[b2,Instr.storeAt,Instr.sureAddr,storeVar,Sem.run_bind,Sem.run_pure,Result.andThen_ok,T.sizeOf U];rw[if_neg (by rw[cl];have:=O.1;simp at this⊢;exact this)];simp only[Nat.add_zero]at a1;simp only[a1,Result.andThen_ok]
theorem WO.qy(s:Nat)(hg:o.guard=none)(hd:gZ n o.dst=true){t}(ho:o.op=.store t x y)(hx:av st.f x=some (.xp g j off l))(M:g∈st.lv)(hl:look st.f s=some (.xs g es))(N:Nat.blt s n=true){e:List D}(he:es[j]?=some e)(I:off+l.length=e.length)(ha:av st.f y=some a){cs:List D}(hc:Ci a=some cs)(O:eT T t=cs.length)(hz:Nat.blt 0 cs.length=true)(hle:cs.length<=l.length)(h:WO P C n ops Q rest (St.put (St.set {st with lv:=st.gen::cu st.lv g,gen:=st.gen+1} s (.xs st.gen (es.set j (nR e off cs)))) o.dst .any)):WO P C n ops Q (o::rest) st:=by
 refine WO.step hg fun tmps w⟨G,hs⟩=>?_;obtain⟨v,hv,hr⟩:=hs.frame s _ hl;obtain⟨w',J,⟨G',_,U,X⟩,_⟩:=Ba (P:=P) T hs ho hx M hr he I ha hc O (by have:=κ hz;omega) hle;refine jN J ⟨_,⟨G',bq.put ?_ (dp hd) (.any _)⟩,h⟩;have:=U.set (d:=s) (κ N) X;rwa[gh hv]at this
theorem bq.Bz{M:Gh}(hs:bq C n st G tmps w)(I:bq C n st' M tmps w')(N:st'.bx=st.bx)(X:M.box=G.box){g0}(hb:bk st.bx g0=some cells){v}(hold:∀b cs T,G.box g0=some b->w.heap[b]?=some (.cells cs T (0,0))->cs[i]?=some v)(O:∀b,G.box g0=some b->w'.heap[b]?=w.heap[b]?)(hr:bG (br C M st'.gen w') v a'):
 bq C n {st' with bx:=(g0,cells.set i a')::st'.bx} M tmps w':=by
 refine{I with box:=fun U c J=>?_};simp only[du]at J;split at J
 ·rename_i e
  subst e;simp only[Option.some.injEq]at J;subst J;obtain⟨b,cs,T,h1,h2,h3,h4,h5⟩:=I.box g0 cells (by rw[N];exact hb);grind
 ·exact I.box U c J
end
section
variable{n:Nat}{c:Code}{bx:List (Nat×List A)}{gen:Nat}
theorem b7.elem{v}(h:b7 w pv v (.sl es)){e:List D}{x}(he:es[k]?=some e)(I:e[j]?=some (.v x)):dn x=true:=by
 cases h with
 |nil=>simp at he
 |emp=>simp at he
 |sl b off len cap sz es u hl N hm hs hu J=>have:=J k j e _ he I;generalize u k j=y at this;cases this with|v _ M=>exact M
theorem W.elem(t){e:List D}{x}(hl:look f t=some a)(I:iU a=some es)(he:es[k]?=some e)(J:e[j]?=some (.v x))(h:dn x=true->W P C n c Q ⟨f,bx,lv,gen⟩):W P C n c Q ⟨f,bx,lv,gen⟩:=by intro tmps w ⟨G,hs⟩;obtain⟨v,N,M⟩:=hs.frame t a hl;exact h ((ji I M).elem he J) tmps w ⟨G,hs⟩
theorem bJ(g j)(hb:bk bx g=some cells)(hj:cells[j]?=some (.d (.v (.slice none 0 0))))(N:cells.set j (.d (.sl []))=cells')(h:W P C n c Q ⟨f,(g,cells')::bx,lv,gen⟩):W P C n c Q ⟨f,bx,lv,gen⟩:=by
 subst N;intro tmps w ⟨G,hs⟩;refine h tmps w ⟨G,bq.HU hs hb (by simp) (fun i u a a' J I M=>?_)⟩;rw[List.getElem?_set]at I;split at I
 ·rename_i e
  subst e;rw[hj]at J;simp only[Option.some.injEq]at J;subst J;split at I
  ·simp only[Option.some.injEq]at I
   subst I;cases M with|d M=>cases M with|v _ _=>exact .d .nil
  ·grind
 ·grind
end
section
variable(T:cT P){n:Nat}{rest:List Oper}
variable{bx:List (Nat×List A)}{gen:Nat}{op:Op}{pos:String}{af:Array Edge}{c:Code}
theorem dU(h:(lv.any fun h=>Nat.beq h g)=true):g∈lv:=by grind[List.any_eq_true,Nat.eq_of_beq_eq_true]
theorem mr{b}(X:av f x=some (.xs g es))(hy:av f y=some b)(M:iU b=some es2)(ht:bk T.l t=some J)(hk:J.k=.slice e)(he:bk T.l e=some I)(N:(lv.any fun h=>Nat.beq h g)=true)(hz:Nat.blt 0 I.n=true)(O:Nat.blt 0 I.b=true)(hd:Nat.blt d n=true){r}(hr:es++es2=r)(hl:∀(x:List D),x∈es++es2->x.length=I.n)(hb:(es.length+es2.length)*I.b<=140737488355328)(U:gen::cu lv g=lv')(h:WO P C n ops Q rest ⟨(d,.xs gen r)::f,bx,lv',gen+1⟩):WO P C n ops Q (⟨some d,.call ⟨.builtin .append,#[x,y],#[t,t]⟩,ty,pos,af,none⟩::rest) ⟨f,bx,lv,gen⟩:=by
 subst hr;subst U;exact WO.Jg (st:=⟨f,bx,lv,gen⟩) T rfl hd rfl ht hk he X (dU N) hy M hz O hl hb h
theorem Ar(M:av f x=some (.xs g es))(N:bk T.l t=some I)(O:I.k=.slice e)(J:(lv.any fun h=>Nat.beq h g)=true):
 Pu P C n ⟨f,bx,lv,gen⟩ ⟨dst,.call ⟨.builtin .len,#[x],#[t]⟩,ty,pos,af,none⟩ (.d (.v (.int .i64 es.length))):=
 Pu.Ar (st:=⟨f,bx,lv,gen⟩) T rfl N O M (dU J)
theorem gB{I}{k:IntKind}{i:Int}(O:av f x=some (.xs g es))(hi:av f I=some (.d (.v (.int k i))))(U:bk T.l t=some J)(X:J.k=.slice e)(he:bk T.l e=some M)(N:(lv.any fun h=>Nat.beq h g)=true)(h0:0<=i)(hl:es[i.toNat]?=some l)(hlen:l.length=M.n):
 Pu P C n ⟨f,bx,lv,gen⟩ ⟨dst,.indexAddr t x I,ty,pos,af,none⟩ (.xp g i.toNat 0 l):=
 Pu.gB (st:=⟨f,bx,lv,gen⟩) T rfl U X he O (dU N) hi h0 hl hlen
theorem jx{I J}(U:av f x=some (.xp g j off l))(X:ry T t i=some (I,J))(M:eT T J=m+1)(N:(lv.any fun h=>Nat.beq h g)=true)(hle:Nat.ble I l.length=true){l'}(O:l.drop I=l'):
 Pu P C n ⟨f,bx,lv,gen⟩ ⟨dst,.fieldAddr t x i,ty,pos,af,none⟩ (.xp g j (off+I) l'):=
 O▸Pu.jx (st:=⟨f,bx,lv,gen⟩) T rfl X M U (dU N) (κ hle)
theorem jT(J:av f x=some (.xp g j off l))(I:(lv.any fun h=>Nat.beq h g)=true)(M:fU T t l=some a):
 Pu P C n ⟨f,bx,lv,gen⟩ ⟨dst,.load t x,ty,pos,af,none⟩ a:=
 Pu.jT (st:=⟨f,bx,lv,gen⟩) T rfl J (dU I) M
theorem qy(s:Nat){t}{e:List D}{cs:List D}(hx:av f x=some (.xp g j off l))(hl:look f s=some (.xs g es))(ha:av f y=some a)(hc:Ci a=some cs)(he:es[j]?=some e)(J:off+l.length=e.length)(M:(lv.any fun h=>Nat.beq h g)=true)(N:Nat.blt s n=true)(O:eT T t=cs.length)(hz:Nat.blt 0 cs.length=true)(hle:Nat.ble cs.length l.length=true){I}(U:es.set j (nR e off cs)=I)(X:gen::cu lv g=lv')(h:WO P C n ops Q rest ⟨(s,.xs gen I)::f,bx,lv',gen+1⟩):WO P C n ops Q (⟨none,.store t x y,ty,pos,af,none⟩::rest) ⟨f,bx,lv,gen⟩:=by
 subst U;subst X;exact WO.qy (st:=⟨f,bx,lv,gen⟩) T s rfl rfl rfl hx (dU M) hl N he J ha hc O hz (κ hle) h
theorem BN(s:Nat)(hl:look f s=some (.xs g es))(I:(lv.any fun h=>Nat.beq h g)=true)(J:Nat.blt s n=true)(M:gen::cu lv g=lv')(h:W P C n c Q ⟨(s,.own gen es)::f,bx,lv',gen+1⟩):W P C n c Q ⟨f,bx,lv,gen⟩:=by
 subst M;exact aS (st:=⟨f,bx,lv,gen⟩) hl (dU I) J h
theorem gx(s:Nat){l}(hl:look f s=some a)(I:Nat.blt s n=true)(J:Ab.pX a=a')(h:WO P C n ops Q l ⟨(s,a')::f,bx,lv,gen⟩):WO P C n ops Q l ⟨f,bx,lv,gen⟩:=by subst J;intro tmps w ⟨G,hs⟩;obtain⟨v,M,N⟩:=hs.frame s _ hl;refine h tmps w ⟨G,?_⟩;have:=hs.set (d:=s) (κ I) N.pX;rwa[gh M]at this
theorem bq.cellAt(hs:bq C n st G tmps w){g0}(hb:bk st.bx g0=some cells){x}(hi:cells[i]?=some x):
 ∃v,bG (br C G st.gen w) v x∧∀b cs I,G.box g0=some b->w.heap[b]?=some (.cells cs I (0,0))->cs[i]?=some v:=by
 obtain⟨b,cs,I,h1,h2,h3,_,h5⟩:=hs.box g0 cells hb;have J:i<cs.size:=by rw[h3];exact(δ.1 hi).1
 have M:cs[i]?=some cs[i]:=by simp[J]
 grind
theorem Ir {len} (ht:bk T.l t=some td) (hk:td.k=.slice e) (he:bk T.l e=some ed) (hes:sx f 0 parts.toList=some es) (hlen:es.length=len) (hz:Nat.blt 0 ed.n=true) (hsm:Nat.ble (len*ed.n) 16777216=true) (hl:tw ed.n es=true) (hpos:Nat.blt 0 len=true):Pu P C n ⟨f,bx,lv,gen⟩ ⟨dst,.buildSlice t len parts,ty,pos,af,none⟩ (.fl es):=by
  have hz:=κ hz
  have hsm:=κ hsm
  have hpos:=κ hpos
  have hl:=lK hl
  intro G tmps w hs
  obtain⟨cs',hrun,hcsz,_,hget⟩:=pF T (tmps:=tmps) hs ht hk he hes hlen hz hsm hl hpos
  have hb:Below w.heap.size w (w.alloc (.cells cs' e)):=(Below.refl _ w).alloc (ω _) _
  obtain⟨hle,hs'⟩:=hs.je hb
  refine dw (v:=.slice (some ⟨w.heap.size,0,none⟩) len len) (w':=w.alloc (.cells cs' e)) ?_ ⟨hb,.fl _ _ ?_ ⟨_,by rw[hlen]⟩⟩
  · unfold execOp
    simp_all
  · have:=aw (w:=w.alloc (.cells cs' e)) (pv:=cr C G) (b:=w.heap.size) (cap:=len) (sz:=ed.n) (es:=es) (heap_alloc_new w _) (by omega) (by simp only[maxLen];have:len≤len*ed.n:=Nat.le_mul_of_pos_right _ hz;omega) hl
      (fun t _ hp=>by have:=vT hs hp;omega) (fun k j e' d hk hj=>by obtain⟨u,h1,h2⟩:=hget k j e' d hk hj;exact⟨u,h1,h2.mono hle.cell⟩)
    rw[hlen] at this
    exact this
theorem Bo(h:bq C n st G tmps w)(ht:bk T.l t=some td)(hk:td.k=.slice e)(he:bk T.l e=some M){v v2}(hv:b7 w (cr C G) v (.sl es))(c6:∃a,v=.slice a es.length es.length)(c7:b7 w (cr C G) v2 (.sl es2))(ar:0<es2.length)(hl:∀(x:List D),x∈es++es2->x.length=M.n)(hz:0<M.n)(df:0<M.b)(hb:(es.length+es2.length)*M.b<=140737488355328)(ty)(ad:0<es.length):
 ∃v' w',(Builtin.append_ #[t,t] ty #[v,v2]).run P w=.ok v' w'∧nD false C n st G tmps st.lv (es++es2) v' w w':=by
 have hu:=T.gD ht hk;obtain⟨i,z,hi,a1,di,dj,a6,dt,dx,_⟩:=T.info he;have gq:es.length+es2.length<=140737488355328:=B' (Nat.le_mul_of_pos_right _ df) hb;have hf:es.length+es2.length<=maxLen:=by simp only[maxLen];omega
 have ei:∀(x:List D),x∈es->x.length=M.n:=fun x hx=>hl x (F'.2 (.inl hx));have ej:∀(x:List D),x∈es2->x.length=M.n:=fun x hx=>hl x (F'.2 (.inr hx));have J:∀(b off:Nat)(l:List Value),(∀(t:Nat)(u:Value),l[t]?=some u->cellAt w b (off+t)=some u)->∀j u,l[j]?=some u->w.cell? ((⟨b,off,none⟩:Addr).add j)=some u:=by
  intro b off l hc j u hj;have:=hc j u hj;unfold Addr.add;split;·rename_i e;subst e;simpa[cellAt]using this
  ·exact this
 cases c7 with
 |nil=>simp at ar
 |emp=>simp at ar
 |sl b2 N cj ai en _ u2 U er cl e2 e3 e4=>
 cases hv with
 |nil=>simp at ad
 |emp=>simp at ad
 |sl b1 O cq cx e5 _ u1 X e6 cy ff fj fo=>
 obtain⟨a,ha⟩:=c6;simp only[Value.slice.injEq]at ha;obtain⟨_,_,c1⟩:=ha;obtain⟨_,_,_,news,a7,a8,fs⟩:=(b7.sl b2 N cj ai en es2 u2 U er cl e2 e3 e4).flat ej;obtain⟨_,_,_,I,aj,b0,ft⟩:=(b7.sl b1 O cq cx e5 es u1 X e6 cy ff fj fo).flat ei;subst X;subst U;subst c1
 have hr:=run_append_grow (P:=P) w t ty e i z hu hi dj ⟨b1,O,none⟩ es.length es.length I (by rw[aj,a1]) (J b1 O I fun t u hu=>(b0 t u hu).1) ⟨b2,N,none⟩ es2.length ai news (by rw[a7,a1]) (J b2 N news fun t u hu=>(a8 t u hu).1) (by omega) (by omega)
  (growslice_fits (by omega) (by rw[di];exact hb))
 refine⟨_,_,hr,?_⟩;have b3:=grownCap_ge w (es.length+es2.length) es.length e;have ch:=grownCap_le_maxLen w (es.length+es2.length) es.length e (by omega);have gb:z.cells.size=M.n:=by rw[<-dt,←a6];simp
 have e0:(es++es2).length=es.length+es2.length:=by simp
 have gd:∀arr,Below w.heap.size w (w.drew.alloc (.cells arr e)):=fun arr=>((Below.refl _ w).drew).alloc (ω _) _;generalize grownCap w (es.length+es2.length) es.length e=cap at b3 ch⊢;rw[<-e0];refine h.newRow false (gd _) (heap_alloc_new w.drew _) ?_ ?_ (by rw[e0];exact b3) ch hz (by omega) hl ?_ (fun _=>False) st.lv fun g' gj=>⟨gj,fun h=>h⟩
 ·simp only[Array.size_append,List.size_toArray,size_zeroCells,aj,a7,gb,←Nat.add_mul]
  congr 1;rw[e0];omega
 ·have e1:∀k,I.toArray++news.toArray++Builtin.zeroCells z.cells k=(I++news++(Builtin.zeroCells z.cells k).toList).toArray:=fun k=>by simp
  rw[e1];exact rh (fun u hu=>by obtain⟨j,hj⟩:=Γ.1 hu;exact(b0 j u hj).2.2) (fun u hu=>by obtain⟨j,hj⟩:=Γ.1 hu;exact(a8 j u hj).2.2) (EI a6 dx)
 ·have e1:∀k,I.toArray++news.toArray++Builtin.zeroCells z.cells k=(I++news++(Builtin.zeroCells z.cells k).toList).toArray:=fun k=>by simp
  rw[e1];exact tQ rfl aj hl ft fs
theorem zU{b}(hx:av f x=some (.fl es))(hy:av f y=some b)(O:iU b=some es2)(ht:bk T.l t=some N)(hk:N.k=.slice e)(he:bk T.l e=some I)(hz:Nat.blt 0 I.n=true)(U:Nat.blt 0 I.b=true)(hd:Nat.blt d n=true)(hp:Nat.blt 0 es.length=true)(X:Nat.blt 0 es2.length=true){r}(M:es++es2=r)(hl:∀(x:List D),x∈es++es2->x.length=I.n)(hb:(es.length+es2.length)*I.b<=140737488355328)(h:WO P C n ops Q rest ⟨(d,.own gen r)::f,bx,gen::lv,gen+1⟩):WO P C n ops Q (⟨some d,.call ⟨.builtin .append,#[x,y],#[t,t]⟩,ty,pos,af,none⟩::rest) ⟨f,bx,lv,gen⟩:=by
 subst M;refine WO.step (st:=⟨f,bx,lv,gen⟩) rfl fun tmps w⟨G,hs⟩=>?_;have M:=hs.av hx;have ad:=ji O (hs.av hy);generalize hv:Act.eval ⟨tmps,[]⟩ x=v at M
 cases M with
 |fl _ _ ai aj=>
 obtain⟨v',w',J,⟨G',_,ar,a1⟩⟩:=Bo T hs ht hk he ai aj ad (κ X) hl (κ hz) (κ U) hb ty (κ hp);rw[<-hv]at J;exact dw (nh rfl J) ⟨_,⟨G',ar.put (dst:=some d) (dp (dst:=some d) hd) a1⟩,h⟩
theorem jz{b}(X:av f x=some (.own g es))(hy:av f y=some b)(M:iU b=some es2)(ht:bk T.l t=some J)(hk:J.k=.slice e)(he:bk T.l e=some I)(N:(lv.any fun h=>Nat.beq h g)=true)(hz:Nat.blt 0 I.n=true)(O:Nat.blt 0 I.b=true)(hd:Nat.blt d n=true){r}(hr:es++es2=r)(hl:tw I.n (es++es2)=true)(hb:Nat.ble ((es.length+es2.length)*I.b) 140737488355328=true)(U:gen::cu lv g=lv')(h:WO P C n ops Q rest ⟨(d,.own gen r)::f,bx,lv',gen+1⟩):WO P C n ops Q (⟨some d,.call ⟨.builtin .append,#[x,y],#[t,t]⟩,ty,pos,af,none⟩::rest) ⟨f,bx,lv,gen⟩:=by
 grind[xk,dU,lK,Nat.le_of_ble_eq_true]
end
open Go.MapKept
section
variable[DecidableEq α]
def dN:List (α×β)->α->β->List (α×β)
 |[],a,b=>[(a,b)]
 |p::r,a,b=>if p.1=a then(a,b)::r else p::dN r a b
def cC(l:List (α×β))(a:α):Option β:=(l.find? fun p=>decide (p.1=a)).map (·.2)
theorem rz(a:α):cC ([]:List (α×β)) a=none:=rfl
theorem iz(p:α×β)(r)(a:α):cC (p::r) a=if p.1=a then some p.2 else cC r a:=by unfold cC;grind
theorem xY(l)(a a':α)(b:β):cC (dN l a b) a'=if a=a' then some b else cC l a':=by
 induction l with
 |nil=>simp only[dN,iz,rz]
 |cons p r I=>grind[dN,iz]
theorem xP(l:List (α×β))(a:α)(b:β):∀x,x∈(dN l a b).map (·.1)↔x=a∨x∈l.map (·.1):=by
 induction l with
 |nil=>intro x;simp[dN]
 |cons p r I=>intro x;simp only[dN];grind
theorem qS{l:List (α×β)}(h:(l.map (·.1)).Nodup)(a:α)(b:β):((dN l a b).map (·.1)).Nodup:=by
 induction l with
 |nil=>simp[dN]
 |cons p r I=>grind[List.nodup_cons,dN,xP]
theorem lB{l}{a:α}(h:∀p∈l,p.1≠a)(b:β):dN l a b=l++[(a,b)]:=by
 induction l with
 |nil=>rfl
 |cons p r I=>simp only[dN];rw[if_neg (h p (by simp)),I (fun q J=>h q (by simp[J]))];rfl
theorem qZ{l:List (α×β)}{a:α}(h:∀p∈l,p.1≠a):cC l a=none:=by
 induction l with
 |nil=>rfl
 |cons p r I=>rw[iz,if_neg (h p (by simp)),I (fun q J=>h q (by simp[J]))]
theorem xo{l:List (α×β)}(I:(l.map (·.1)).Nodup){p:α×β}(h:l[j]?=some p)(b:β):dN l p.1 b=l.set j (p.1,b):=by
 induction l generalizing j with
 |nil=>simp at h
 |cons q r J=>
   rw[J',List.nodup_cons]at I
   cases j with
   |zero=>simp at h;subst h;simp[dN]
   |succ j=>grind[List.mem_map_of_mem,List.mem_of_getElem?,dN]
theorem BL{l:List (α×β)}(I:(l.map (·.1)).Nodup){p:α×β}(h:l[j]?=some p):cC l p.1=some p.2:=by
 induction l generalizing j with
 |nil=>simp at h
 |cons q r J=>rw[J',List.nodup_cons]at I;rw[iz];grind
def gy(kf:α->Value)(vf:β->D)(l:List (α×β)):List (Value×List D):=l.map fun p=>(kf p.1,[vf p.2])
end
structure lC(P:Program)(k:TypeId){α:Type}(kf:α->Value):Prop where
 ty:∃d,P.underlying k=some d∧∀a,IsKey d (kf a)
 inj:∀a b,kf a=kf b->a=b
abbrev ik(n:Int):Value:=.int .i64 n
abbrev sk(s:ByteArray):Value:=.string s
theorem jr{k}(h:P.underlying k=some (.int .i64)):lC P k ik:=⟨⟨_,h,fun _=>rfl⟩,fun _ _ h=>by cases h;rfl⟩
theorem vL{k}(h:P.underlying k=some .string):lC P k sk:=⟨⟨_,h,fun _=>trivial⟩,fun _ _ h=>by cases h;rfl⟩
def jH{α β:Type}(w:World)(pv:Nat->Nat->Prop)(kf:α->Value)(vf:β->D)(I:Array MapEntry)(l:List (α×β)):Prop:=
 I.size=l.length∧∀(i:Nat)(m:MapEntry)(p:α×β),I[i]?=some m->l[i]?=some p->m.key=kf p.1∧dn (kf p.1)=true∧b7 w pv m.val (vf p.2)
theorem jH.of{kf:α->Value}{vf:β->D}{v l}(h:qa w pv (.mp (some b) bs) v (gy kf vf l)):v=.map (some b)∧∃I clock,w.heap[b]?=some (.map I clock)∧Go.MapKept.Stamped I clock∧jH w pv kf vf I l:=by obtain⟨h1,I,clock,h2,J,h3,h4⟩:=h;refine⟨h1,I,clock,h2,J,by rw[h3];simp[gy],fun i m p hm hp=>?_⟩;obtain⟨h5,M,N⟩:=h4 i m (kf p.1) [vf p.2] hm (by simp[gy,hp]);exact⟨h5,M,N⟩
theorem jH.to{kf:α->Value}{vf:β->D}{I l}(h1:w.heap[b]?=some (.map I clock))(J:Go.MapKept.Stamped I clock)(h:jH w pv kf vf I l):qa w pv (.mp (some b) bs) (.map (some b)) (gy kf vf l):=by refine⟨rfl,I,clock,h1,J,by rw[h.1];simp[gy],fun i m k l' hm M=>?_⟩;simp only[gy,τ,χ]at M;obtain⟨p,hp,e⟩:=M;simp only[Prod.mk.injEq]at e;obtain⟨rfl,rfl⟩:=e;obtain⟨h5,N,O⟩:=h.2 i m p hm hp;exact⟨h5,N,O⟩
open Go.RowKit Go.MapKept
section
variable{n:Nat}
theorem bq.yY(h:bq C n st G tmps w):∃X,bq C n {st with lv:=st.gen::st.lv,gen:=st.gen+1} X tmps (w.alloc (.map #[] 0))∧
 bG (br C X (st.gen+1) (w.alloc (.map #[] 0))) (.map (some w.heap.size)) (.mp st.gen []):=by
 let J:Nat->Option Row:=fun g=>if g=st.gen then some (.mp (some w.heap.size) [])else G.own g;have hb:Below w.heap.size w (w.alloc (.map #[] 0)):=(Below.refl _ w).alloc (ω _) _;have N:(w.alloc (.map #[] 0)).heap[w.heap.size]?=some (.map #[] 0):=heap_alloc_new w _
 obtain⟨_,ad⟩:=h.grow hb J (st.gen+1) (st.gen::st.lv) (Nat.le_succ _) (fun g r M I=>by simpa[J,U' M]using I)
  (fun g r I=>by
   simp only[J]at I;split at I;·omega
   ·exact Y' (h.gown g r I))
  (fun g M=>by
   rcases C'.1 M with rfl|M
   ·exact⟨_,by simp[J];rfl⟩
   ·obtain⟨r,I⟩:=h.live g M
    exact⟨r,by simp only[J,if_neg (U' (h.gown g r I))];exact I⟩)
  (fun g b len cap sz ai M I=>by
   simp only[J]at I;split at I;·cases I
   ·exact absurd (h.gown g _ I) (by omega))
  (fun g b bs M I=>by
   simp only[J]at I;split at I
   ·simp only[Option.some.injEq,Row.mp.injEq]at I
    obtain⟨rfl,rfl⟩:=I;refine⟨ω _,fun g' bs' O=>?_,#[],0,N⟩;simp only[J]at O;split at O;·omega
    ·have:=(h.BO O).1 _ Z
     omega
   ·exact absurd (h.gown g _ I) (by omega))
  (fun g b bs c lim M I hm=>by
   simp only[J]at I;split at I
   ·simp only[Option.some.injEq,Row.mp.injEq]at I
    obtain⟨_,rfl⟩:=I;cases hm
   ·exact absurd (h.gown g _ I) (by omega))
 refine⟨⟨G.box,J⟩,ad,.mp _ _ _ (by simp[br]) Z (fun r I=>?_)⟩;have U:J st.gen=some r:=I;simp only[J,if_true,Option.some.injEq]at U;subst U;exact⟨rfl,#[],0,N,Go.MapKept.stamped_empty 0,rfl,by simp⟩
theorem bq.FN(h:bq C n st G tmps w)(hg:G.own g=some (.mp (some b) bs))(me:Array MapEntry)(clock)(ei:Stamped me clock){es:List (Value×List D)}(ej:me.size=es.length)(ed:∀(i:Nat)(m:MapEntry)(k:Value)(l:List D),me[i]?=some m->es[i]?=some (k,l)->m.key=k∧dn k=true∧z6 w (cr C G) m.val l)(lv)(en:∀I∈lv,I∈st.lv∧I≠g):
 ∃G':Gh,G'.box=G.box∧bq C n {st with lv:=st.gen::lv,gen:=st.gen+1} G' tmps {w with heap:=w.heap.setIfInBounds b (.map me clock)}∧
   bG (br C G' (st.gen+1) {w with heap:=w.heap.setIfInBounds b (.map me clock)}) (.map (some b)) (.mp st.gen es):=by
 obtain⟨cq,di,ch,gb,er,a1⟩:=h.mrow g b bs hg;have c6:∀I len cap sz c7,G.own I≠some (.blk b len cap sz c7):=fun I len cap sz c7 e=>by obtain⟨_,_,_,cur,T,h4,_⟩:=h.row I b len cap sz c7 e;rw[a1]at h4;cases h4
 obtain⟨cj,O⟩:=heap_set (o':=Obj.map me clock) a1;let N:Nat->Option Row:=fun I=>if I=st.gen then some (.mp (some b) bs)else if I=g then none else G.own I;generalize cx:({w with heap:=w.heap.setIfInBounds b (.map me clock)}:World)=w';have e1:w'.heap=w.heap.setIfInBounds b (.map me clock):=by rw[<-cx]
 have e2:w'.os=w.os:=by rw[<-cx]
 have e3:w'.tape=w.tape:=by rw[<-cx]
 have e4:w'.output=w.output:=by rw[<-cx]
 rw[<-e1]at cj O;have dj:w'.heap.size=w.heap.size:=by rw[e1];simp
 have c1:∀o,Ab.cellAt w b o=none:=fun o=>by simp[Ab.cellAt,World.cell?,a1]
 have cy:∀M o u,Ab.cellAt w M o=some u->Ab.cellAt w' M o=some u:=fun M o u hu=>by
  have X:M≠b:=fun e=>by subst e;rw[c1]at hu;cases hu
  rw[cS (O M X)];exact hu
 have df:eW w w':=fun M cs T f h=>⟨cs,f,by rw[O M (fun e=>by rw[e,a1]at h;cases h)];exact h⟩;have gd:=h.gown g _ hg;have e0:∀M o,cr C ⟨G.box,N⟩ M o->cr C G M o:=by
  rintro M o (hp|hp|⟨I,a6,a7,b3,a8,hp,hl'⟩|⟨I,b2,ad,lim,hp,hm,hl'⟩);·exact .inl hp
  ·exact .inr (.inl hp)
  ·simp only[N]at hp
   split at hp;·cases hp
   ·split at hp
    ·cases hp
    ·exact .inr (.inr (.inl ⟨I,a6,a7,b3,a8,hp,hl'⟩))
  ·simp only[N]at hp
   split at hp
   ·simp only[Option.some.injEq,Row.mp.injEq]at hp
    obtain⟨rfl,rfl⟩:=hp;exact .inr (.inr (.inr ⟨g,_,bs,lim,hg,hm,hl'⟩))
   ·split at hp
    ·cases hp
    ·exact .inr (.inr (.inr ⟨I,b2,ad,lim,hp,hm,hl'⟩))
 have dt:Fr C w':=⟨e2.trans h.fr.os,e3.trans h.fr.tape,e4.trans h.fr.output,by rw[dj];exact h.fr.size,fun M h1 h2=>by rw[O M (fun e=>by subst e;exact cq.1.elim (fun hm=>by omega) h2)];exact h.fr.block M h1 h2,fun M o u hk hu=>cy M o u (h.fr.cells M o u hk hu),h.fr.ty.trans df⟩;have hold:∀I r',I<st.gen->N I=some r'->G.own I=some r'∧I≠g:=fun I r' U J=>by
  simp only[N,if_neg (U' U)]at J;split at J;·cases J
  ·rename_i X;exact⟨J,X⟩
 have hle:(br C G st.gen w).le (br C ⟨G.box,N⟩ (st.gen+1) w'):=mA h.fr dt (fun M o u hu hn=>⟨cy M o u hu,fun hp=>hn (e0 M o hp)⟩) (fun _ _ h=>h)
  (fun I r' U J=>(hold I r' U J).1) (Nat.le_succ _) (fun I M a6 a7 b3 a8 U J=>O M (fun e=>by subst e;exact c6 _ _ _ _ _ (hold I _ U J).1)) (fun I M bs' U J=>by obtain⟨h1,h2⟩:=hold I _ U J;refine⟨fun c hc=>by subst hc;exact O c (fun e=>by subst e;exact h2 (ch I bs' h1)),fun p hp=>O p.1 (fun e=>?_)⟩;obtain⟨_,_,_,_,cur,T,h3,_⟩:=h.sub I M bs' p.1 p.2 h1 hp;rw[e,a1]at h3;cases h3) df
 refine⟨⟨G.box,N⟩,rfl,{size:=h.size,frame:=h.e9 hle,inj:=h.inj,xold:=h.xold,kold:=h.kold,lent:=h.lent,fr:=dt,gcell:=fun I M e5=>nE df (h.gcell I M e5),box:=?_,gbox:=?_,live:=?_,gown:=?_,row:=?_,mrow:=?_,sub:=?_},?_⟩
 ·intro I cells hc
  obtain⟨M,cs,T',h1,h2,h3,h4,h5⟩:=h.box I cells hc;have:M≠b:=fun e=>di I (by rw[<-e];exact h1);exact⟨M,cs,T',h1,by rw[O M this];exact h2,h3,h4,fun i u a hu ha=>(h5 i u a hu ha).mono hle⟩
 ·intro I M hb
  obtain⟨h1,h2,h3⟩:=h.gbox I M hb;exact⟨Y' h1,by rw[dj];exact h2,h3⟩
 ·intro I U
  rcases C'.1 U with rfl|U
  ·exact⟨_,by simp[N];rfl⟩
  ·obtain⟨h1,h2⟩:=en I U
   obtain⟨r',J⟩:=h.live I h1;exact⟨r',by simp only[N,if_neg (U' (h.gown I r' J)),if_neg h2];exact J⟩
 ·intro I r' J
  simp only[N]at J;split at J;·simp only;omega
  ·split at J
   ·cases J
   ·exact Y' (h.gown I r' J)
 ·intro I M a6 a7 b3 a8 J
  have un:∀g2 ai aj b0 ar,N g2=some (.blk M ai aj b0 ar)->G.own g2=some (.blk M ai aj b0 ar):=by
   intro g2 ai aj b0 ar h2;simp only[N]at h2;split at h2;·cases h2
   ·split at h2
    ·cases h2
    ·exact h2
  obtain⟨h4,h5,h6,cl,T2,h7,h8⟩:=h.row I M a6 a7 b3 a8 (un I a6 a7 b3 a8 J);have X:M≠b:=fun e=>by subst e;exact c6 _ _ _ _ _ (un I a6 a7 b3 a8 J)
  exact⟨h4,h5,fun g2 ai aj b0 ar h2=>h6 g2 ai aj b0 ar (un g2 ai aj b0 ar h2),cl,T2,by rw[O M X];exact h7,h8⟩
 ·intro I M bs' J
  simp only[N]at J;split at J
  ·rename_i e
   simp only[Option.some.injEq,Row.mp.injEq]at J;obtain⟨rfl,rfl⟩:=J;refine⟨cq,di,fun g2 ad h2=>?_,me,clock,cj⟩;simp only[N]at h2;split at h2;·omega
   ·split at h2
    ·cases h2
    ·rename_i e1 e2;exact absurd (ch g2 ad h2) e2
  ·split at J
   ·cases J
   ·rename_i e1 e2
    obtain⟨h4,h5,h6,e6,ff,h7⟩:=h.mrow I M bs' J;have X:M≠b:=fun e=>by subst e;exact e2 (ch I bs' J)
    refine⟨h4,h5,fun g2 ad h2=>?_,e6,ff,by rw[O M X];exact h7⟩;simp only[N]at h2;split at h2;·simp only[Option.some.injEq,Row.mp.injEq]at h2;exact absurd h2.1.symm X
    ·split at h2
     ·cases h2
     ·exact h6 g2 ad h2
 ·intro I M bs' c lim J hm
  have un:∀g2 b2 ad,N g2=some (.mp b2 ad)->∃g3,G.own g3=some (.mp b2 ad)∧((g2=st.gen∧g3=g)∨(g2≠st.gen∧g2≠g∧g3=g2)):=by
   intro g2 b2 ad h2;simp only[N]at h2;split at h2;·rename_i e;simp only[Option.some.injEq,Row.mp.injEq]at h2;obtain⟨rfl,rfl⟩:=h2;exact⟨g,hg,.inl ⟨e,rfl⟩⟩
   ·split at h2
    ·cases h2
    ·rename_i e1 e2;exact⟨g2,h2,.inr ⟨e1,e2,rfl⟩⟩
  obtain⟨g3,h3,gj⟩:=un I _ _ J;obtain⟨h4,h5,h6,h7,cl,T2,h8,h9⟩:=h.sub g3 M bs' c lim h3 hm;have X:c≠b:=fun e=>by subst e;rw[a1]at h8;cases h8
  refine⟨h4,h5,fun g2 ai aj b0 ar h2=>?_,fun g2 b2 ad fs h2 fj=>?_,cl,T2,by rw[O c X];exact h8,h9⟩
  ·simp only[N]at h2
   split at h2;·cases h2
   ·split at h2
    ·cases h2
    ·exact h6 g2 _ _ _ _ h2
  ·obtain⟨g5,fo,ft⟩:=un g2 _ _ h2
   have:=h7 g5 _ _ _ fo fj;omega
 ·refine .mp _ _ _ (by simp[br]) Z (fun r hr=>?_)
  have dx:N st.gen=some r:=hr;simp only[N,if_true,Option.some.injEq]at dx;subst dx;refine⟨rfl,me,clock,cj,ei,ej,fun i m k l hm hk=>?_⟩;obtain⟨h1,h2,h3⟩:=ed i m k l hm hk;exact⟨h1,h2,h3.mono hle.cell⟩
end
section
variable(T:cT P)
theorem cT.yB{d:cY}(h:bk T.l t=some d)(I:d.k=.map k e):P.underlying t=some (.map k e):=by have:=T.kd h;rw[I]at this;simp only[rv]at this;grind
def pq:Kd->Bool
 |.st _=>false
 |_=>true
variable[DecidableEq α]{kf:α→Value}{vf:β→D}
theorem jH.find{k}(M:lC P k kf){J:Array MapEntry}{l:List (α×β)}(h:jH w pv kf vf J l)(U:(l.map (·.1)).Nodup)(a:α):
 ((Instr.findKey k (kf a) J.toList).run P w=.ok none w∧(∀p∈l,p.1≠a)∧cC l a=none)∨
   ∃j e p,(Instr.findKey k (kf a) J.toList).run P w=.ok (some (j,e.val)) w∧J[j]?=some e∧l[j]?=some p∧p.1=a∧e.key=kf a∧cC l a=some p.2∧b7 w pv e.val (vf p.2):=by
 obtain⟨d,hd,X⟩:=M.ty;have O:∀x∈J.toList,IsKey d x.key:=by
  intro x hx;obtain⟨i,hi⟩:=Γ.1 hx;have N:J[i]?=some x:=by simpa using hi
  have I:i<l.length:=by rw[<-h.1];exact(θ.1 N).1
  rw[(h.2 i x l[i] N (by simp[I])).1];grind
 rcases findNow_spec (X a) J.toList 0 O with⟨h1,h2⟩|⟨j,e,h1,h2,h3⟩
 ·refine .inl ⟨run_findKey hd h1,?_,?_⟩
  ·intro p hp e
   obtain⟨i,hi⟩:=Γ.1 hp;have I:i<J.size:=by rw[h.1];exact(δ.1 hi).1
   have:=(h.2 i J[i] p (by simp[I]) hi).1;grind
  ·refine qZ fun p hp e=>?_
   obtain⟨i,hi⟩:=Γ.1 hp;have I:i<J.size:=by rw[h.1];exact(δ.1 hi).1
   have:=(h.2 i J[i] p (by simp[I]) hi).1;grind
 ·have hj:J[j]?=some e:=by simpa using h2
  have I:j<l.length:=by rw[<-h.1];exact(θ.1 hj).1
  obtain⟨h4,h5,h6⟩:=h.2 j e l[j] hj (by simp[I]);have h7:(l[j]).1=a:=M.inj _ _ (h4.symm.trans h3);refine .inr ⟨j,e,l[j],?_,hj,by simp[I],h7,h3,?_,h6⟩
  ·have:=run_findKey (P:=P) (w:=w) hd h1
   grind
  ·have:=BL U (j:=j) (p:=l[j]) (by simp[I])
   grind
theorem wk(ht:bk T.l mt=some td)(ad:td.k=.map k e)(M:lC P k kf){J}(hb:w.heap[b]?=some (.map J clock)){l:List (α×β)}(U:Stamped J clock)(h:jH w pv kf vf J l)(hn:(l.map (·.1)).Nodup)(a:α)(ai:dn (kf a)=true){v}{y:β}(hv:b7 w pv v (vf y)):
 ∃N I,(Instr.mapUpdate mt (.map (some b)) (kf a) v).run P w=.ok () {w with heap:=w.heap.setIfInBounds b (.map N I)}∧Stamped N I∧jH w pv kf vf N (dN l a y):=by
 obtain⟨d,hd,hk⟩:=M.ty;have hm:=T.yB ht ad;rcases h.find M hn a with⟨h1,h2,_⟩|⟨j,en,p,h1,h2,h3,h4,h5,_,_⟩
 ·refine⟨J.push ⟨kf a,v,clock⟩,clock+1,?_,stamped_push U (fun x hx=>?_),?_⟩
  ·unfold Instr.mapUpdate
   simp only[Sem.run_bind,run_underlying hm,Result.andThen_ok,Go.MapKept.run_getObj_map hb,run_checkKey hd (hk a),h1];exact Go.MapKept.run_setObj_map _ hb
  ·obtain⟨i,hi⟩:=Γ.1 hx
   have X:J[i]?=some x:=by simpa using hi
   have O:i<l.length:=by rw[<-h.1];exact(θ.1 X).1
   rw[(h.2 i x l[i] X (by simp[O])).1];exact fun e=>h2 l[i] (by simp) (M.inj _ _ e)
  ·rw[lB h2]
   refine⟨by simp[h.1],fun i m p hm hp=>?_⟩;rw[Array.getElem?_push]at hm;split at hm
   ·rename_i hi
    rw[Ω (by rw[hi,h.1];exact ω _)]at hp;grind
   ·have O:i<l.length:=by rw[<-h.1];exact(θ.1 hm).1
    rw[y' O]at hp;exact h.2 i m p hm hp
 ·refine⟨J.modify j fun e=>{e with key:=kf a,val:=v},clock,?_,stamped_modify U j _ (fun _ _=>rfl) (fun e _ he=>by rw[h2]at he;cases he;exact h5.symm),?_⟩
  ·unfold Instr.mapUpdate
   simp only[Sem.run_bind,run_underlying hm,Result.andThen_ok,Go.MapKept.run_getObj_map hb,run_checkKey hd (hk a),h1,h2,Option.map_some,Option.getD_some,h5,run_keyThatStays (hk a)];exact Go.MapKept.run_setObj_map _ hb
  ·subst h4
   rw[xo hn h3];refine⟨by simp[h.1],fun i m q hm hq=>?_⟩;rw[Array.getElem?_modify]at hm;rw[List.getElem?_set]at hq;by_cases hij:j=i;·grind
   ·rw[if_neg hij]at hm hq
    exact h.2 i m q hm hq
theorem vE(ht:bk T.l mt=some N)(O:N.k=.map k e)(he:bk T.l e=some I)(M:lC P k kf){z:β}{zx}(U:I.z=[zx])(X:pq I.k=true)(hz:b7 w pv zx (vf z)){me}(hb:w.heap[b]?=some (.map me clock)){l:List (α×β)}(h:jH w pv kf vf me l)(hn:(l.map (·.1)).Nodup)(a:α)(ok):
 ∃v,(Instr.lookup mt (.map (some b)) (kf a) ok).run P w=.ok (if ok then .tuple #[v,.bool (cC l a).isSome]else v) w∧b7 w pv v (vf ((cC l a).getD z)):=by
 obtain⟨d,hd,hk⟩:=M.ty;have hm:=T.yB ht O;rcases h.find M hn a with⟨h1,h2,h3⟩|⟨j,en,p,h1,h2,h3,h4,h5,h6,h7⟩
 ·obtain⟨i,J,hi,_,_,ad,ai,_,_,aj⟩:=T.info he
  have ar:J=zx:=by rw[U]at ai;cases hke:I.k<;>rw[hke]at X aj<;>cases J<;>simp_all[Value.cells,pq]
  subst ar;refine⟨J,?_,by rw[h3];exact hz⟩;unfold Instr.lookup;simp only[Sem.run_bind,run_underlying hm,Result.andThen_ok,Go.MapKept.run_getObj_map hb,Sem.run_pure,run_checkKey hd (hk a),h1,h3,Option.isSome_none];have:(zeroValue e).run P w=.ok J w:=by simp[zeroValue,typeInfo,Sem.run_bind,run_program,hi,ad,Result.andThen]
  simp_all
 ·refine⟨en.val,?_,by rw[h6];exact h7⟩
  unfold Instr.lookup;simp only[Sem.run_bind,run_underlying hm,Result.andThen_ok,Go.MapKept.run_getObj_map hb,Sem.run_pure,run_checkKey hd (hk a),h1,h6,Option.isSome_some]
end
def Cv:A->Option D
 |.d x=>some x
 |.own _ es=>some (.sl es)
 |.fl es=>some (.sl es)
 |_=>none
theorem Ay{v x}(h:Cv a=some x)(I:bG E v a):b7 E.w E.pv v x:=by cases I<;>simp only[Cv,Option.some.injEq]at h<;>first|(cases h;done)|(subst h;assumption)
def yL{α β:Type}(w:World)(pv:Nat->Nat->Prop)(b:Nat)(kf:α->Value)(vf:β->D)(l:List (α×β)):Prop:=∃I clock,w.heap[b]?=some (.map I clock)∧Go.MapKept.Stamped I clock∧jH w pv kf vf I l
theorem yL.of{kf:α->Value}{vf:β->D}{v l}(h:qa w pv (.mp (some b) bs) v (gy kf vf l)):v=.map (some b)∧yL w pv b kf vf l:=by obtain⟨h1,I,clock,h2,h3⟩:=jH.of h;exact⟨h1,I,clock,h2,h3⟩
theorem jH.mono{I}{kf:α->Value}{vf:β->D}{J l}(h:∀b o u,cellAt w b o=some u->¬pv b o->cellAt w' b o=some u∧¬I b o)(hm:jH w pv kf vf J l):jH w' I kf vf J l:=
 ⟨hm.1,fun i m p h1 h2=>⟨(hm.2 i m p h1 h2).1,(hm.2 i m p h1 h2).2.1,(hm.2 i m p h1 h2).2.2.mono h⟩⟩
section
variable(T:cT P){n:Nat}{rest:List Oper}
variable{bx:List (Nat×List A)}{gen:Nat}{pos:String}{af:Array Edge}
variable[DecidableEq α]{kf:α→Value}{vf:β→D}
theorem mkMap{t}(hd:Nat.blt d n=true)(h:WO P C n ops Q rest ⟨(d,.mp gen [])::f,bx,gen::lv,gen+1⟩):WO P C n ops Q (⟨some d,.makeMap t none,ty,pos,af,none⟩::rest) ⟨f,bx,lv,gen⟩:=by refine WO.step (st:=⟨f,bx,lv,gen⟩) rfl fun tmps w⟨G,hs⟩=>?_;obtain⟨J,I,M⟩:=hs.yY;refine dw (v:=.map (some w.heap.size)) (w':=w.alloc (.map #[] 0)) ?_ ⟨_,⟨J,I.put (dst:=some d) (dp (dst:=some d) hd) M⟩,h⟩;unfold execOp;show Sem.run P _ w=.ok _ _;simp[Instr.makeMap,Sem.run_bind,Result.andThen]
omit [DecidableEq α] in
theorem bq.vV(hs:bq C n st G tmps w){v l}(O:bG (br C G st.gen w) v (.mp g (gy kf vf l)))(N:g∈st.lv):
 ∃b bs,G.own g=some (.mp (some b) bs)∧v=.map (some b)∧yL w (cr C G) b kf vf l:=by
 obtain⟨r,J⟩:=hs.live g N
 cases O with
 |mp _ _ _ U h1 M=>
 have I:=M r J
 cases r with
 |nil=>exact I.elim
 |zero b=>exact I.elim
 |blk b len cap sz X=>exact I.elim
 |mp b bs=>
   cases b with
   |none=>exact I.elim
   |some b=>
   obtain⟨h2,h3⟩:=yL.of (kf:=kf) (vf:=vf) I;exact⟨b,bs,J,h2,h3⟩
theorem wb(s:Nat){m N}{l:List (α×β)}{a:α}{y:β}{xa}(hm:av f m=some (.mp g (gy kf vf l)))(hl:look f s=some (.mp g (gy kf vf l)))(O:av f N=some (.d (.v (kf a))))(hx:av f x=some xa)(a6:Cv xa=some (vf y))(ht:bk T.l mt=some td)(a7:td.k=.map k e)(a8:lC P k kf)(U:(lv.any fun h=>Nat.beq h g)=true)(b0:Nat.blt s n=true)(hn:(l.map (·.1)).Nodup){X}(b3:gy kf vf (dN l a y)=X)(ch:gen::cu lv g=lv')(h:WO P C n ops Q rest ⟨(s,.mp gen X)::f,bx,lv',gen+1⟩):WO P C n ops Q (⟨none,.mapUpdate mt m N x,ty,pos,af,none⟩::rest) ⟨f,bx,lv,gen⟩:=by
 subst b3;subst ch;refine WO.step (st:=⟨f,bx,lv,gen⟩) rfl fun tmps w⟨G,hs⟩=>?_;have ad:=hs.av hm;have J:=hs.av O;have cj:=Ay a6 (hs.av hx);obtain⟨vs,cl,cq⟩:=hs.frame s _ hl;generalize hv:Act.eval ⟨tmps,[]⟩ m=v at ad;generalize dj:Act.eval ⟨tmps,[]⟩ N=vk at J;obtain⟨b,bs,ai,rfl,me,clock,hb,cx,cy⟩:=hs.vV ad (dU U);obtain⟨b2,c1,ar,rfl,_⟩:=hs.vV cq (dU U);obtain⟨rfl,rfl⟩:b2=b∧c1=bs:=by have:=ar.symm.trans ai;simpa using this
 cases J with|d J=>cases J with|v _ hok=>
 obtain⟨aj,I,di,a1,M⟩:=wk T ht a7 a8 hb cx cy hn a hok cj;have h0:(execOp (Act.eval ⟨tmps,[]⟩) ⟨none,.mapUpdate mt m N x,ty,pos,af,none⟩).run P w=.ok .skip {w with heap:=w.heap.setIfInBounds b2 (.map aj I)}:=by unfold execOp;simp_all
 obtain⟨G',_,c6,c7⟩:=hs.FN ai aj I a1 (es:=gy kf vf (dN l a y)) (by rw[M.1];simp[gy]) (fun i m k l' hm O=>by simp only[gy,τ,χ]at O;obtain⟨p,hp,e⟩:=O;simp only[Prod.mk.injEq]at e;obtain⟨rfl,rfl⟩:=e;exact M.2 i m p hm hp) (cu lv g) (fun g' df=>dH df);refine jN h0 ⟨_,⟨G',?_⟩,h⟩;have:=c6.set (d:=s) (κ b0) c7;rwa[gh cl]at this
theorem oV{O:cY}{m N}{l:List (α×β)}{a:α}{z:β}{zx}(hm:av f m=some (.mp g (gy kf vf l)))(hk:av f N=some (.d (.v (kf a))))(ht:bk T.l mt=some O)(U:O.k=.map k e)(he:bk T.l e=some M)(X:lC P k kf)(ad:(lv.any fun h=>Nat.beq h g)=true)(ai:M.z=[zx])(aj:pq M.k=true)(hz:∀w pv,b7 w pv zx (vf z))(hn:(l.map (·.1)).Nodup){r}(hr:vf ((cC l a).getD z)=r):
 Pu P C n ⟨f,bx,lv,gen⟩ ⟨dst,.lookup mt m N false,ty,pos,af,none⟩ (.d r):=by
 subst hr;refine aq fun G tmps w hs=>?_;have J:=hs.av hm;have I:=hs.av hk;generalize hv:Act.eval ⟨tmps,[]⟩ m=v at J;generalize ar:Act.eval ⟨tmps,[]⟩ N=vk at I;obtain⟨b,bs,a6,rfl,me,clock,hb,a7,a1⟩:=hs.vV J (dU ad);cases I with|d I=>cases I with|v _ hok=>
 obtain⟨u,h1,h2⟩:=vE (P:=P) T ht U he X ai aj (hz _ _) hb a1 hn a false;refine⟨u,?_,.d h2⟩;unfold execOp;show Sem.run P _ w=.ok _ _;simp only[hv,ar,Sem.run_bind,h1,Result.andThen_ok,Sem.run_pure];rfl
end
structure tO(P:Program)[dG P](H:Ctx->Prop)(f:FuncId)(args:List A)(r:A)(k:Nat):Prop where
 ok:lx P f
 calls:∀(C:Ctx)(vals:Array Value)(w:World),GC P C->C.w0=w->C.pure->H C->(∀b o,C.x b o->b<w.heap.size)->vals.size=args.length->
  (∀(i:Nat)(u:Value)(a:A),vals[i]?=some u->args[i]?=some a->bG (br C G0 0 w) u a)->
  Calls P f vals w fun e w'=>∃v G',e=.returned v∧bq C 0 ⟨[],[],List.range k,k⟩ G' #[] w'∧bG (br C G' k w') v r
theorem tO.dk (T:cT P) [dG P] {H f c n r} (hf:P.funcs[f]? = some fn) (hname:(fn.name == "runtime.NumGoroutine")=false) (hb:fn.body=some c) (hn:fn.ntmps=n) (hr:fn.results=(rs.map RV.var).toArray) (hlen:Nat.ble args.length n=true) (h:∀ C,NB C 0→GC P C→H C→(∀ b,¬ C.fp b)→W P C n c (QV T rs r 0) ⟨jL 0 args,[],[],0⟩):tO P H f args r 0:=by
  have hlen:=κ hlen
  refine⟨⟨fn,hf,hname,by rw[hb];rfl⟩,fun C vals w hG hw hp hH hx hsz hrep=>?_⟩
  subst hw
  refine calls_of_wp hf hb (wp_mono (tN hp.2.2.2 (h C ⟨by rw[hp.2.2.1];rfl⟩ hG hH hp.1 (vals++Array.replicate (fn.ntmps - vals.size) undef) C.w0 ⟨G0,?_⟩)) ?_)
  · refine { size:=by simp[hn];omega,frame:=fun t a ha=>?_,box:=fun g cells hc=>by simp[bk] at hc,gbox:=fun g b hb=>by simp[G0] at hb,inj:=fun g g' b hb=>by simp[G0] at hb,
             live:=fun g hg=>by simp at hg,gown:=fun g r hr=>by simp[G0] at hr,row:=fun g b len cap sz pub hr=>by simp[G0] at hr,mrow:=fun g b bs hr=>by simp[G0] at hr,sub:=fun g b bs c lim hr=>by simp[G0] at hr,gcell:=fun g b hb=>by simp[G0] at hb,xold:=fun b o hb=>⟨hx b o hb,hp.1 b⟩,kold:=fun b o hb=>absurd hb (hp.2.1 b o),lent:=fun i b hb=>by rw[hp.2.2.1] at hb;simp at hb,
             fr:=⟨rfl,rfl,rfl,ω _,fun _ _ _=>rfl,fun _ _ _ hb=>absurd hb (hp.2.1 _ _),eW.refl _⟩ }
    obtain⟨_,h1⟩:=jb args 0 t a ha
    have h2:t < args.length:=(δ.1 (by simpa using h1)).1
    have h3:t < vals.size:=by omega
    have h4:vals[t]? = some vals[t]:=by simp[h3]
    exact⟨vals[t],by rw[Array.getElem?_append_left h3];exact h4,hrep t _ a h4 (by simpa using h1)⟩
  · rintro e ⟨tmps,df⟩ w' ⟨hd,st,⟨G,hs⟩,he,l,order,hl,hno,hol,hnd,hov⟩
    have ho0:order=[]:=O' hol
    subst ho0
    have hmain:∃ v,(results fn tmps).run P w'=.ok v w'∧∃ v_1 G',Ending.returned v=.returned v_1∧bq C 0 ⟨[],[],List.range 0,0⟩ G' #[] w'∧bG (br C G' 0 w') v_1 r:=by
      obtain⟨vs,hvs,hvl,hvr⟩:=mI T hs rs l hl
      refine⟨_,js hr hvs,_,G0,rfl,?_,?_⟩
      · exact { size:=rfl,frame:=fun t a ha=>by simp[look] at ha,box:=fun g cells hc=>by simp[bk] at hc,gbox:=fun g b hb=>by simp[G0] at hb,inj:=fun g g' b hb=>by simp[G0] at hb,
                 live:=fun g hg=>by simp at hg,gown:=fun g r hr=>by simp[G0] at hr,row:=fun g b len cap sz pub hr=>by simp[G0] at hr,mrow:=fun g b bs hr=>by simp[G0] at hr,sub:=fun g b bs c lim hr=>by simp[G0] at hr,gcell:=fun g b hb=>by simp[G0] at hb,xold:=hs.xold,kold:=hs.kold,lent:=fun i b hb=>by rw[hp.2.2.1] at hb;simp at hb,fr:=hs.fr }
      · rw[←hno]
        refine aE (order:=[]) (E:=br C G st.gen w') (E2:=br C G0 0 w') (fun b o u hu hn=>⟨hu,fun hp=>hn (.inl ((tV C b o).1 hp))⟩) (fun g r' hg=>by simp at hg) (by simp[br]) (oR hvl hvr)
    cases e with
    | normal=>exact⟨hd.trans hp.2.2.2,hmain⟩
    | ret=>exact⟨hd.trans hp.2.2.2,hmain⟩
    | exit _=>exact he.elim
    | goto _=>exact he.elim
    | panic _=>exact he.elim
    | outgrown=>exact he.elim
def bd(c:UInt8):List D:=[.v (.int .u8 c.toNat)]
def rN(s:ByteArray):List (List D):=s.data.toList.map bd
theorem wV(s:ByteArray):(rN s).length=s.size:=by rw[rN,η,Array.length_toList];rfl
theorem wT{s}:∀(e:List D),e∈rN s->e.length=1:=by intro e he;obtain⟨c,_,rfl⟩:=A'.1 he;rfl
theorem EP{arr:Array Value}{s:ByteArray}(h:∀(i:Nat)(c:UInt8),s.data[i]?=some c->arr[i]?=some (.int .u8 c.toNat)):
 ∀(i j:Nat)(e:List D)(d:D),(rN s)[i]?=some e->e[j]?=some d->∃u,arr[i*1+j]?=some u∧b7 w pv u d:=by
 intro i j e d hi hj;simp only[rN,τ,χ]at hi;obtain⟨c,I,rfl⟩:=hi
 match j with
 |0=>simp[bd]at hj;subst hj;refine⟨_,by rw[Nat.mul_one,Nat.add_zero];exact h i c (by simpa using I),.v _ ?_⟩;have:=c.toNat_lt;simp[dn,IntKind.min,IntKind.max,IntKind.signed,IntKind.bits];omega
 |j+1=>simp[bd]at hj
theorem gT{s:ByteArray}{c:UInt8}(h:s.data[i]?=some c):(Lib.strCells s)[i]?=some (.int .u8 c.toNat):=by simp only[Lib.strCells,τ,Array.getElem?_toList,h,Option.map_some]
theorem l9(s):∀u∈Lib.strCells s,u.oneCell'=true:=fun u hu=>by
 obtain⟨i,hi⟩:=Γ.1 hu;have hj:i<s.data.size:=by have:=(δ.1 hi).1;rw[Lib.strCells_length]at this;exact this
 have I:s.data[i]?=some s.data[i]:=by simp[hj]
 rw[gT I]at hi;rw[<-P' hi];rfl
theorem zY:∀u∈(Value.int IntKind.u8 0).cells.toList,u.oneCell'=true:=fun u hu=>by simp[Value.cells]at hu;subst hu;rfl
theorem sv(a b):Lib.strCells (a++b)=Lib.strCells a++Lib.strCells b:=by simp[Lib.strCells]
theorem Ah(a b:ByteArray):(a++b).size=a.size+b.size:=by simp[ByteArray.size_append]
theorem yE{v T s}(h:bG E v (.xs g (rN s)))(I:v=.slice none 0 0∨∃b n c cs f,v=.slice (some ⟨b,0,none⟩) n c∧0<n∧E.w.heap[b]?=some (.cells cs T f)):bG E v (.bf g T s):=by
 cases h with
 |xs _ _ _ U h1 h=>
 refine .bf v g T s U h1 fun r X=>?_;have J:=h r X
 cases r with
 |nil=>exact⟨J.1,by rw[<-wV,J.2];rfl⟩
 |zero b=>obtain⟨h2,h3⟩:=J;grind
 |mp b bs=>exact J.elim
 |blk b len cap sz ad=>
   obtain⟨h2,h3,h4,h5,h6⟩:=J;rcases I with I|⟨b',n,c,cs,f,I,hn,M⟩
   ·grind
   ·rw[I]at h2
    simp only[Value.slice.injEq,Option.some.injEq,Addr.mk.injEq,and_true]at h2;obtain⟨rfl,rfl,rfl⟩:=h2;have N:sz=1:=by
     have h0:0<(rN s).length:=by omega
     rw[<-h5 _ (List.getElem_mem h0),wT _ (List.getElem_mem h0)]
    subst N;refine⟨I,by rw[<-wV];exact h3,rfl,h4,⟨cs,f,M⟩,fun i O hc=>?_⟩;obtain⟨u,h7,h8⟩:=h6 i 0 (bd O) (.v (.int .u8 O.toNat)) (by simp only[rN,τ,Array.getElem?_toList,hc,Option.map_some]) rfl;cases h8;grind
structure uZ(P:Program)(w:World)(A:Array TypeId)(ty:TypeId)(x2:Value)(m:ByteArray)(T:TypeId):Prop where
 emp:m.size=0->(Builtin.append_ A ty #[.slice none 0 0,x2]).run P w=.ok (.slice none 0 0) w
 new:0<m.size->(Builtin.append_ A ty #[.slice none 0 0,x2]).run P w=.ok (.slice (some ⟨w.heap.size,0,none⟩) m.size (grownCap w m.size 0 T))
  (w.drew.alloc (.cells ((Lib.strCells m).toArray++Builtin.zeroCells (Value.int .u8 0).cells (grownCap w m.size 0 T-m.size)) T))
 room:∀(b n cap:Nat)(cur:Array Value),w.heap[b]?=some (.cells cur T (0,0))->n+m.size<=cap->n+m.size<=cur.size->
  (Builtin.append_ A ty #[.slice (some ⟨b,0,none⟩) n cap,x2]).run P w=.ok (.slice (some ⟨b,0,none⟩) (n+m.size) cap) (w.setRow b (cur.toList.take n++Lib.strCells m++cur.toList.drop (n+m.size)).toArray)
 grow:∀(b n cap:Nat)(olds:List Value),olds.length=n->(∀j u,olds[j]?=some u->w.cell? ((⟨b,0,none⟩:Addr).add j)=some u)->cap<n+m.size->n+m.size<=140737488355328->
  (Builtin.append_ A ty #[.slice (some ⟨b,0,none⟩) n cap,x2]).run P w=.ok (.slice (some ⟨w.heap.size,0,none⟩) (n+m.size) (grownCap w (n+m.size) cap T))
   (w.drew.alloc (.cells (olds.toArray++(Lib.strCells m).toArray++Builtin.zeroCells (Value.int .u8 0).cells (grownCap w (n+m.size) cap T-(n+m.size))) T))
theorem uZ.string{t u}{i:TypeInfo}(I:P.underlying t=some (.slice T))(hu:P.underlying u=some .string)(hi:P.info? T=some i)(N:i.zero=some (.int .u8 0))(hs:i.size=1)(hb:i.bytes=1){m:ByteArray}(hm:m.size<=140737488355328):
 uZ P w #[t,u] ty (.string m) m T:=by
 refine⟨fun h0=>?_,fun h0=>?_,fun b n cap cur U h1 h2=>Lib.run_append_room_string (P:=P) w t u ty T i I hu hi hs b n cap cur U m h1 h2,fun b n cap M X J h1 h2=>?_⟩
 ·have O:=Lib.run_firstCells_string (P:=P) w 1 m
  rw[h0]at O;simp[Builtin.append_,run_underlying I,run_underlying hu,sizeOf,typeInfo,hi,hs,Builtin.lenOf,h0,O]
 ·have hr:=run_append_nil_string (P:=P) w t u ty T i (.int .u8 0) I hu hi N m h0 (by omega) (by rw[hb];omega)
  have e1:(m.data.map fun b=>Value.int .u8 b.toNat)=(Lib.strCells m).toArray:=by apply Array.ext';simp[Lib.strCells]
  grind
 ·exact Lib.run_append_grow_string (P:=P) w t u ty T i (.int .u8 0) I hu hi N ⟨b,0,none⟩ n cap M (by rw[hs];omega) J m h1 (by omega) (by rw[hb];exact growslice_fits (by omega) (by omega))
theorem uZ.one{t}{i:TypeInfo}(M:P.underlying t=some (.slice T))(hi:P.info? T=some i)(O:i.zero=some (.int .u8 0))(hs:i.size=1)(hb:i.bytes=1){a:Addr}{c}{m:ByteArray}(hm:0<m.size)(ad:m.size<=140737488355328)(I:∀j u,(Lib.strCells m)[j]?=some u->w.cell? (a.add j)=some u):uZ P w #[t,t] ty (.slice (some a) m.size c) m T:=by
 have hl:(Lib.strCells m).length=m.size*i.size:=by rw[Lib.strCells_length,hs,Nat.mul_one]
 refine⟨fun h0=>by omega,fun h0=>?_,fun b n cap cur U h1 h2=>?_,fun b n cap N ho J h1 h2=>?_⟩
 ·have X:=run_append_nil (P:=P) w t ty T i (.int .u8 0) M hi O a m.size c (Lib.strCells m) hl I h0 (by omega) (by rw[hb];omega)
  grind
 ·have X:=run_append_room (P:=P) w t ty T i M hi b n cap cur U a m.size c (Lib.strCells m) hl I (Lib.strCells_oneCell m) h1 (by rw[hs,Nat.mul_one,Lib.strCells_length];exact h2)
  grind
 ·exact run_append_grow (P:=P) w t ty T i (.int .u8 0) M hi O ⟨b,0,none⟩ n cap N (by rw[hs];omega) J a m.size c (Lib.strCells m) hl I h1 (by omega) (growslice_fits (by omega) (by rw[hb];omega))
section
variable{n:Nat}
theorem wD (h:bq C n st G tmps w) {r} (hg:G.own g=some r) {v:Value} {T} {s:ByteArray} (hv:v.oneCell'=true) (hx:Ap w r v T s) {A x2} {m:ByteArray} (ha:uZ P w A ty x2 m T) (hb:s.size+m.size≤140737488355328):
    ∃ v' w',(Builtin.append_ A ty #[v,x2]).run P w=.ok v' w'∧∃ G':Gh,G'.box=G.box∧bq C n { st with lv:=st.gen::cu st.lv g,gen:=st.gen+1 } G' tmps w'∧bG (br C G' (st.gen+1) w') v' (.bf st.gen T (s++m)):=by
  have hlen:(rN (s++m)).length=s.size+m.size:=by rw[wV,Ah]
  have hmx:s.size+m.size≤maxLen:=by simp only[maxLen];omega
  have hlv:∀ g'∈cu st.lv g,g'∈st.lv∧g'≠g:=fun g' hg'=>dH hg'
  have newB:∀ (cap:Nat) (arr:Array Value),gG arr→arr.size=cap→s.size+m.size≤cap→cap≤maxLen→0 < s.size+m.size→(∃ rest,arr.toList=Lib.strCells (s++m)++rest) →
      ∃ G':Gh,G'.box=G.box∧bq C n { st with lv:=st.gen::cu st.lv g,gen:=st.gen+1 } G' tmps (w.drew.alloc (.cells arr T)) ∧
        bG (br C G' (st.gen+1) (w.drew.alloc (.cells arr T))) (.slice (some ⟨w.heap.size,0,none⟩) (s.size+m.size) cap) (.bf st.gen T (s++m)):=by
    intro cap arr h1c h1 h2 h3 h4 ⟨rest,h5⟩
    have hb':Below w.heap.size w (w.drew.alloc (.cells arr T)):=((Below.refl _ w).drew).alloc (ω _) _
    have hblk:(w.drew.alloc (.cells arr T)).heap[w.heap.size]? = some (.cells arr T (0,0)):=heap_alloc_new w.drew _
    obtain⟨G',hG,hs',hr'⟩:=(h.newRow true hb' hblk (cap:=cap) (sz:=1) (es:=rN (s++m)) (by rw[h1,Nat.mul_one]) h1c (by rw[hlen];exact h2) h3 Nat.one_pos (by rw[hlen];exact h4) wT
      (EP fun i c hc=>by
        have:=gT hc
        rw[←Array.getElem?_toList,h5,y' (by rw[δ] at this;exact this.1)]
        exact this) (fun x=>x=g) (cu st.lv g) hlv).Cj
    rw[hlen] at hr'
    exact⟨G',hG,hs',yE hr' (.inr ⟨_,_,_,arr,(0,0),rfl,h4,hblk⟩)⟩
  cases r with
  | zero b=>exact hx.elim
  | mp b bs=>exact hx.elim
  | nil=>
    obtain⟨rfl,hs0⟩:=hx
    have e0:s++m=m:=by
      have:s=ByteArray.empty:=by
        apply ByteArray.ext
        exact Array.eq_empty_of_size_eq_zero hs0
      rw[this];simp
    by_cases hm:m.size=0
    · refine⟨_,w,ha.emp hm,?_⟩
      obtain⟨G',hG,hs',hr'⟩:=(h.pA (m:=true) hg (es:=rN (s++m)) (v:=.slice none 0 0) ⟨rfl,rfl,O' (by rw[hlen];omega)⟩ (cu st.lv g) hlv).Cj
      exact⟨G',hG,hs',yE hr' (.inl Z)⟩
    · have hge:=grownCap_ge w m.size 0 T
      have hcm:=grownCap_le_maxLen w m.size 0 T (by omega)
      refine⟨_,_,ha.new (by omega),?_⟩
      have:=newB (grownCap w m.size 0 T) ((Lib.strCells m).toArray++Builtin.zeroCells (Value.int .u8 0).cells (grownCap w m.size 0 T - m.size)) (by have:=rh (l1:=[]) (k:=grownCap w m.size 0 T - m.size) (by simp) (l9 m) zY;exact aC fun u hu=>this.of u (by simpa using hu)) (by
        have hz1:(Value.int IntKind.u8 0).cells.size=1:=rfl
        simp only[Array.size_append,List.size_toArray,size_zeroCells,hz1,Lib.strCells_length]
        omega) (by omega) hcm (by omega) ⟨_,by rw[e0];simp;rfl⟩
      rw[show s.size+m.size=m.size by omega] at this
      exact this
  | blk b len cap sz pub=>
    obtain⟨rfl,h2,rfl,rfl,⟨cs,f,hT⟩,h6⟩:=hx
    obtain⟨hmine,hnb,huniq,cur,T',hcur,hcs,hlc,hcm,_,hpos,_,hone⟩:=h.row g b len cap 1 0 hg
    rw[hcur] at hT
    simp only[Option.some.injEq,Obj.cells.injEq] at hT
    obtain⟨rfl,rfl,rfl⟩:=hT
    subst h2
    have htk:cur.toList.take s.size=Lib.strCells s:=by
      apply List.ext_getElem?
      intro t
      rw[List.getElem?_take]
      split
      · rename_i hlt
        have hc:s.data[t]? = some (s.data[t]'hlt):=Array.getElem?_eq_getElem hlt
        have h7:=h6 t _ hc
        rw[cU hcur] at h7
        rw[gT hc]
        simpa using h7
      · rename_i hge
        rw[List.getElem?_eq_none (by rw[Lib.strCells_length];omega)]
    by_cases hroom:s.size+m.size≤cap
    · have hfit:s.size+m.size≤cur.size:=by omega
      refine⟨_,_,ha.room b s.size cap cur hcur hroom hfit,?_⟩
      obtain⟨G',hG,hs',hr'⟩:=(h.sY true (g:=g) (b:=b) (len:=s.size) (cap:=cap) (sz:=1) (arr:=(cur.toList.take s.size++Lib.strCells m++cur.toList.drop (s.size+m.size)).toArray) (es:=rN (s++m)) (by simpa [iO] using hg) hcur (by simp[Lib.strCells_length];omega) (mP hone (l9 m)) (fun t ht=>by simp[iO] at ht) (by omega) (by omega) wT
        (EP fun i c hc=>by
          have:=gT hc
          rw[List.getElem?_toArray,htk,←sv,y' (by rw[δ] at this;exact this.1)]
          exact this) (cu st.lv g) hlv).Cj
      rw[hlen] at hr'
      exact⟨G',hG,hs',yE hr' (.inr ⟨b,_,_,_,(0,0),rfl,by omega,setRow_heap w b cur _ _ (0,0) hcur⟩)⟩
    · have hge:=grownCap_ge w (s.size+m.size) cap T'
      have hcm':=grownCap_le_maxLen w (s.size+m.size) cap T' (by omega)
      refine⟨_,_,ha.grow b s.size cap (Lib.strCells s) (Lib.strCells_length s) (fun j u hj=>?_) (by omega) hb,?_⟩
      · have hj':j < s.data.size:=by have:=(δ.1 hj).1;rw[Lib.strCells_length] at this;exact this
        have hc:s.data[j]? = some s.data[j]:=by simp[hj']
        rw[gT hc] at hj
        have h7:=h6 j _ hc
        rw[P' hj] at h7
        unfold Addr.add
        split
        · rename_i e;subst e;simpa [cellAt] using h7
        · simpa [cellAt] using h7
      · exact newB (grownCap w (s.size+m.size) cap T') _ (by have:=rh (k:=grownCap w (s.size+m.size) cap T' - (s.size+m.size)) (l9 s) (l9 m) zY;exact aC fun u hu=>this.of u (by simpa using hu)) (by
          have hz1:(Value.int IntKind.u8 0).cells.size=1:=rfl
          simp only[Array.size_append,List.size_toArray,size_zeroCells,hz1,Lib.strCells_length]
          omega) (by omega) hcm' (by omega) ⟨_,by rw[sv];simp[R'];rfl⟩
end
section
variable(T:cT P){n:Nat}{rest:List Oper}
variable{bx:List (Nat×List A)}{gen:Nat}{pos:String}{af:Array Edge}
theorem zG{u}(J:o.op=.call ⟨.builtin .append,#[x,y],#[t,u]⟩){I}(h:(Builtin.append_ #[t,u] o.type #[act.eval x,act.eval y]).run P w=.ok I w'):(execOp act.eval o).run P w=.ok (.value I) w':=by
 unfold execOp;rw[J];show Sem.run P (do let d←resolve act.eval ⟨.builtin .append,#[x,y],#[t,u]⟩ o.type;invoke d.target d.args) w=_;simp only[resolve,invoke,builtin,Sem.run_bind,Sem.run_pure,Result.andThen_ok,List.map_toArray,J',List.map_nil,h]
def yK(d:cY):Bool:=(Nat.beq d.n 1&&Nat.beq d.b 1&&rR d.z [.int .u8 0])&&(match d.k with|.int _=>true|_=>false)
theorem cT.byte{d:cY}(h:bk T.l e=some d)(hb:yK d=true):∃i,P.info? e=some i∧i.zero=some (.int .u8 0)∧i.size=1∧i.bytes=1:=by
 simp only[yK,ρ]at hb;obtain⟨i,z,hi,h1,h2,M,I,_,_,N⟩:=T.info h;have U:=Θ hb.1.1.1;have X:=Θ hb.1.1.2;have O:=tz hb.1.2;have J:=hb.2;refine⟨i,hi,?_,by omega,by omega⟩;rw[M];rw[O]at I;cases hkd:d.k<;>rw[hkd]at J N<;>first|(cases J;done)|skip
 cases z<;>simp_all[Value.cells]
theorem C0{u}{U X:cY}{s m:ByteArray}(hx:av f x=some (.bf g e s))(hy:av f y=some (.d (.v (.string m))))(ht:bk T.l t=some U)(hk:U.k=.slice e)(hu:bk T.l u=some X)(ad:X.k=.str)(he:bk T.l e=some ed)(ai:yK ed=true)(aj:(lv.any fun h=>Nat.beq h g)=true)(hd:Nat.blt d n=true)(hb:s.size+m.size<=140737488355328){r}(M:s++m=r)(ar:gen::cu lv g=lv')(h:WO P C n ops Q rest ⟨(d,.bf gen e r)::f,bx,lv',gen+1⟩):WO P C n ops Q (⟨some d,.call ⟨.builtin .append,#[x,y],#[t,u]⟩,ty,pos,af,none⟩::rest) ⟨f,bx,lv,gen⟩:=by
 subst M;subst ar;refine WO.step (st:=⟨f,bx,lv,gen⟩) rfl fun tmps w⟨G,hs⟩=>?_;have M:=hs.av hx;have I:=hs.av hy;obtain⟨r,N⟩:=hs.live g (dU aj);generalize hv:Act.eval ⟨tmps,[]⟩ x=v at M;generalize a1:Act.eval ⟨tmps,[]⟩ y=v2 at I
 cases M with
 |bf _ _ _ _ b3 h1 O=>
 cases I with|d I=>cases I with|v _ _=>
 obtain⟨i,hi,hz,a6,a7⟩:=T.byte he ai;have a8:P.underlying u=some .string:=T.kO hu ad;obtain⟨v',w',J,G',_,b0,b2⟩:=wD (ty:=ty) hs N h1 (O r N) (uZ.string (P:=P) (w:=w) (ty:=ty) (T.gD ht hk) a8 hi hz a6 a7 (m:=m) (by omega)) hb;rw[<-hv,←a1]at J;exact dw (zG rfl J) ⟨_,⟨G',b0.put (dst:=some d) (dp (dst:=some d) hd) b2⟩,h⟩
theorem Bk{s:ByteArray}{c}(hx:av f x=some (.bf g e s))(hy:av f y=some (.d (.sl [[.v (.int .u8 c)]])))(ht:bk T.l t=some td)(hk:td.k=.slice e)(he:bk T.l e=some ed)(a8:yK ed=true)(b3:(lv.any fun h=>Nat.beq h g)=true)(hd:Nat.blt d n=true)(m:ByteArray)(hm:m.size=1)(ch:∀b,m.data[0]?=some b->(b.toNat:Int)=c)(hb:s.size+1<=140737488355328){r}(N:s++m=r)(cj:gen::cu lv g=lv')(h:WO P C n ops Q rest ⟨(d,.bf gen e r)::f,bx,lv',gen+1⟩):WO P C n ops Q (⟨some d,.call ⟨.builtin .append,#[x,y],#[t,t]⟩,ty,pos,af,none⟩::rest) ⟨f,bx,lv,gen⟩:=by
 subst N;subst cj;refine WO.step (st:=⟨f,bx,lv,gen⟩) rfl fun tmps w⟨G,hs⟩=>?_;have N:=hs.av hx;have I:=hs.av hy;obtain⟨r,U⟩:=hs.live g (dU b3);generalize hv:Act.eval ⟨tmps,[]⟩ x=v at N;generalize cl:Act.eval ⟨tmps,[]⟩ y=v2 at I
 cases N with
 |bf _ _ _ _ dt h1 a1=>
 cases I with|d I=>cases I with
 |sl b2 J dj a6 cq _ u2 X dx ei cx cy I=>
 simp only[Ξ,List.length_nil,Nat.zero_add]at X;subst X;have a7:cq=1:=by have:=cx 0 _ rfl;simpa using this.symm
 subst a7;have ad:=(cy 0 0 (by omega) (by omega)).1;have ai:=I 0 0 _ _ rfl rfl;obtain⟨b0,aj⟩:∃b0,m.data[0]?=some b0:=⟨m.data[0]'(by have:m.data.size=1:=hm;omega),by have:m.data.size=1:=hm;simp[this]⟩;have O:∀j q,(Lib.strCells m)[j]?=some q->w.cell? ((⟨b2,J,none⟩:Addr).add j)=some q:=by
  intro j q hq;have hj:j=0:=by have:=(δ.1 hq).1;rw[Lib.strCells_length,hm]at this;omega
  subst hj;rw[gT aj,ch b0 aj]at hq;generalize u2 0 0=z at ad ai;cases ai;cases hq;have c1:w.cell? ⟨b2,J+0*1+0,none⟩=some (.int .u8 c):=ad;simpa[Addr.add]using c1
 obtain⟨i,hi,hz,c6,c7⟩:=T.byte he a8;have ar:=uZ.one (P:=P) (w:=w) (ty:=ty) (c:=a6) (T.gD ht hk) hi hz c6 c7 (a:=⟨b2,J,none⟩) (m:=m) (by omega) (by omega) O;rw[hm]at ar;obtain⟨v',w',M,G',_,df,di⟩:=wD (ty:=ty) hs U h1 (a1 r U) ar (by rw[hm];exact hb);rw[<-hv,←cl]at M;exact dw (zG rfl M) ⟨_,⟨G',df.put (dst:=some d) (dp (dst:=some d) hd) di⟩,h⟩
theorem EM(k:Nat){e}(he:bk T.l e=some ed)(hz:rR ed.z [.pointer none,.slice none 0 0]=true)(hd:Nat.blt d n=true)(h:WO P C n ops Q rest ⟨(d,.ptr gen 0)::f,(gen,[.np gen e false,.bf (gen+1) k .empty])::bx,(gen+1)::lv,gen+2⟩):WO P C n ops Q (⟨some d,.alloc e,ty,pos,af,none⟩::rest) ⟨f,bx,lv,gen⟩:=by
 refine WO.step (st:=⟨f,bx,lv,gen⟩) Z fun tmps w⟨G,hs⟩=>?_;obtain⟨i,z,hi,_,_,aj,U,_,_,_⟩:=T.info he;rw[tz hz]at U;have N:z.cells=#[.pointer none,.slice none 0 0]:=by apply Array.ext';simpa using U
 obtain⟨G1,hle,ar,a1⟩:=hs.tj z.cells e [.any,.any] (by rw[N];rfl) (fun i u hu=>by
  rw[N]at hu
  match i with
  |0=>simp at hu;subst hu;rfl
  |1=>simp at hu;subst hu;rfl
  |i+2=>simp at hu) (fun i u a hu O=>by
  match i with
  |0=>simp at O;subst O;exact .any _
  |1=>simp at O;subst O;exact .any _
  |i+2=>simp at O)
 have J:(w.alloc (.cells z.cells e)).heap[w.heap.size]?=some (.cells z.cells e (0,0)):=heap_alloc_new w _;have a6:G1.box gen=some w.heap.size:=by
  cases a1 with
  |ptr _ _ _ b hg hb hx=>simp only[Value.pointer.injEq,Option.some.injEq,Addr.mk.injEq,and_true]at hx;rw[hx];exact hb
 obtain⟨G2,a7,X,a8⟩:=(ar.oy true (gen::lv |>.tail) (fun _ h=>h)).Cj;have I:G2.box gen=some w.heap.size:=by rw[a7];exact a6
 have b0:=yE (T:=k) (s:=.empty) (g:=gen+1) a8 (.inl Z);have ad:=bq.Bz (i:=1) (a':=.bf (gen+1) k .empty) X X Z Z (cells:=[.any,.any]) (g0:=gen) (by simp[bk]) (v:=.slice none 0 0) (fun b cs T' hb M=>by rw[I]at hb;cases hb;rw[J]at M;simp only[Option.some.injEq,Obj.cells.injEq]at M;rw[<-M.1,N];rfl) (fun _ _=>rfl) b0;have ai:=bq.Bz (i:=0) (a':=.np gen e false) ad ad Z Z (cells:=[.any,.bf (gen+1) k .empty]) (g0:=gen) (by simp[bk]) (v:=.pointer none) (fun b cs T' hb M=>by rw[I]at hb;cases hb;rw[J]at M;simp only[Option.some.injEq,Obj.cells.injEq]at M;rw[<-M.1,N];rfl) (fun _ _=>rfl) (.np _ gen e w.heap.size (by simp[br];omega) I ⟨_,_,J⟩ false Z);have b2:bq C n ⟨f,(gen,[.np gen e false,.bf (gen+1) k .empty])::bx,(gen+1)::lv,gen+2⟩ G2 tmps (w.alloc (.cells z.cells e)):=by refine{ai with box:=fun g' c hc=>?_};refine ai.box g' c ?_;grind[du]
 refine dw (v:=.pointer (some ⟨w.heap.size,0,none⟩)) (w':=w.alloc (.cells z.cells e)) ?_ ⟨_,⟨G2,b2.put (dst:=some d) (dp (dst:=some d) hd) (.ptr _ gen 0 w.heap.size (by simp[br]) I Z)⟩,h⟩;unfold execOp;show Sem.run P _ w=_;simp only[Instr.alloc,zeroValue,typeInfo,hi,aj,newVar,newRow,Sem.run_bind,run_program,run_newObj,Result.andThen_ok,Sem.run_pure];rfl
end
structure nY(P:Program)(e:TypeId)(f:FuncId):Prop where
 used:∀(b:Nat)(w:World),w.cell? ⟨b,0,none⟩=some (.pointer (some ⟨b,0,none⟩))->Calls P f #[.pointer (some ⟨b,0,none⟩)] w fun e w'=>e=.returned (.tuple #[])∧w'=w
 fresh:∀(b:Nat)(w:World),w.cell? ⟨b,0,none⟩=some (.pointer none)->w.shape? b=some (e,2)->w.frozen? ⟨b,0,none⟩=false->
  Calls P f #[.pointer (some ⟨b,0,none⟩)] w fun e w'=>e=.returned (.tuple #[])∧w'=w.setCell ⟨b,0,none⟩ (.pointer (some ⟨b,0,none⟩))
theorem Bb{o}{cs:Array Value}{fr}(h:w.heap[b]?=some (.cells cs T fr))(v):w.setCell ⟨b,o,none⟩ v=w.setRow b (cs.setIfInBounds o v):=by
 have I:=(θ.1 h).1;have e:w.heap.modify b (fun|.cells c elem frozen=>Obj.cells (c.setIfInBounds o v) elem frozen|o=>o)=w.heap.modify b (fun|.cells _ elem frozen=>Obj.cells (cs.setIfInBounds o v) elem frozen|o=>o):=by grind
 exact congrArg (fun h=>({w with heap:=h}:World)) e
theorem nY.GK[dG P]{e f}(hok:lx P f)(h:nY P e f)(u a m):bU P f [.ptr 0 0] [[.np 0 e u,a]] m (.tup []) [[.np 0 e true,a]] m:=by
 refine⟨hok,rfl,fun C G M w hG hw a8 _ _ hs J a1=>?_⟩;obtain⟨b,cs,T',h1,h2,h3,h4,h5⟩:=hs.box 0 [.np 0 e u,a] (by simp[fQ,bk]);have hv:M=#[.pointer (some ⟨b,0,none⟩)]:=by
  apply Array.ext_getElem?;intro i
  match i with
  |0=>
    have h0:M[0]?=some (M[0]'(by simp at J;omega)):=by simp at J;simp[J]
    have:=a1 0 _ _ h0 rfl;rw[h0];generalize M[0]'(by simp at J;omega)=z at this
    cases this with
    |ptr _ _ _ N hg hb hx=>
      have O:N=b:=by have:=(hb:G.box 0=some N).symm.trans h1;simpa using this
      subst O;rw[hx];rfl
  |i+1=>simp at J;simp[J]
 have ai:cs[0]?=some (cs[0]'(by simp at h3;omega)):=by simp at h3;simp[h3]
 have aj:=h5 0 _ _ ai rfl;have I:w.cell? ⟨b,0,none⟩=some (cs[0]'(by simp at h3;omega)):=by have:=cU h2 0;rw[ai]at this;exact this
 have a6:bG (br C G (1+m) w) (.pointer (some ⟨b,0,none⟩)) (.np 0 e true)∧((u=true∧cs[0]'(by simp at h3;omega)=.pointer (some ⟨b,0,none⟩))∨(u=false∧cs[0]'(by simp at h3;omega)=.pointer none∧T'=e)):=by
  generalize cs[0]'(by simp at h3;omega)=z at aj
  cases aj with
  |np _ _ _ N hg hb hT _ hx=>
    have O:N=b:=by have:=(hb:G.box 0=some N).symm.trans h1;simpa using this
    subst O;refine⟨.np _ 0 e N hg hb hT true rfl,?_⟩;obtain⟨cs',f',hT⟩:=hT;have U:w.heap[N]?=some (.cells cs' e f'):=hT;rw[h2]at U;simp only[Option.some.injEq,Obj.cells.injEq]at U
    cases u with
    |true=>exact .inl ⟨rfl,hx⟩
    |false=>exact .inr ⟨rfl,hx,U.2.1⟩
 obtain⟨a7,ad⟩:=a6;subst hv;rcases ad with⟨rfl,hz⟩|⟨rfl,hz,rfl⟩
 ·rw[hz]at I
  refine(h.used b w I).mono ?_;rintro e' w' ⟨rfl,rfl⟩;exact⟨_,G,rfl,hs,.tup #[] [] Z (by simp)⟩
 ·rw[hz]at I
  refine(h.fresh b w I (by simp only[World.shape?,h2];simp at h3;rw[h3]) (by simp[World.frozen?,h2])).mono ?_;rintro e' w' ⟨rfl,rfl⟩;rw[Bb h2];have ar:=hs.store (g:=0) (b:=b) (cs:=cs) (cs':=cs.setIfInBounds 0 (.pointer (some ⟨b,0,none⟩))) (T:=T') (cells:=[.np 0 T' false,a]) (cells':=[.np 0 T' true,a]) (by simp[fQ,bk]) h1 h2 ⟨by simpa using h3,fun i u hu=>by
   rw[Array.getElem?_setIfInBounds]at hu;split at hu
   ·split at hu
    ·simp only[Option.some.injEq]at hu;subst hu;rfl
    ·cases hu
   ·exact h4 i u hu,fun i u y hu X=>by
   rw[Array.getElem?_setIfInBounds]at hu
   match i with
   |0=>simp at X;subst X;simp at h3;simp[h3]at hu;subst hu;exact a7
   |1=>simp at X;subst X;simp at hu;exact h5 1 u _ hu rfl
   |i+2=>simp at X⟩
  refine⟨_,G,rfl,?_,.tup #[] [] Z (by simp)⟩;refine{ar with box:=fun g' c hc=>?_};refine ar.box g' c ?_;simp only[fQ,du]at hc⊢;split;·rename_i O;rw[if_pos O]at hc;exact hc
  ·rename_i O;rw[if_neg O]at hc;simp[bk]at hc
def rH:A->A
 |.d (.v x)=>.d (.v x)
 |_=>.any
def pD(f:List (Nat×A)):List (Nat×A):=f.map fun p=>(p.1,rH p.2)
theorem rf:∀(f:List (Nat×A))(t:Nat),look (pD f) t=(look f t).map rH
 |[],t=>rfl
 |(s,a)::r,t=>by
   simp only[pD,J'];rw[cv,cv];split;·rfl
   ·exact rf r t
theorem bq.end_[hN:NB C 0]{n}(h:bq C n st G tmps w)(hb:Below C.w0.heap.size w w')(M:w.heap.size<=w'.heap.size):bq C n ⟨pD st.f,[],[],st.gen⟩ G0 tmps w' where
 size:=h.size
 frame:=fun t a N=>by
  rw[rf]at N;obtain⟨a',O,rfl⟩:=χ.1 N;obtain⟨v,U,I⟩:=h.frame t a' O;refine⟨v,U,?_⟩;unfold rH;split;·cases I with|d I=>cases I with|v _ X=>exact .d (.v _ X)
  ·exact .any _
 box:=fun g cells hc=>by simp[bk]at hc
 gbox:=fun g b hb=>by simp[G0]at hb
 inj:=fun g g' b hb=>by simp[G0]at hb
 live:=fun g hg=>by simp at hg
 gown:=fun g r I=>by simp[G0]at I
 row:=fun g b len cap sz ad I=>by simp[G0]at I
 mrow:=fun g b bs I=>by simp[G0]at I
 sub:=fun g b bs c lim I=>by simp[G0]at I
 gcell:=fun g b hb=>by simp[G0]at hb
 xold:=h.xold
 kold:=h.kold
 lent:=fun i b hb=>by have:=hN.h;rw[List.length_eq_zero_iff.1 this]at hb;simp at hb
 fr:=⟨hb.os.trans h.fr.os,hb.tape.trans h.fr.tape,hb.output.trans h.fr.output,B' h.fr.size M,fun b h1 h2=>(hb.block b h1).trans (h.fr.block b h1 h2),fun b o u h1 h2=>by
  have J:=eh h2;rw[cS (hb.block b J)];exact h.fr.cells b o u h1 h2,fun b cs T f h1=>by
  have J:=(θ.1 h1).1;rw[hb.block b J];exact h.fr.ty b cs T f h1⟩
def uC(P:Program)(T e:TypeId)(f:FuncId):Prop:=
 ∀(B b:Nat)(l:List UInt8)(w:World),Lib.IsBuilder T e B b (Lib.byteCells l) w->B<=w.heap.size->Calls P f #[.pointer (some ⟨b,0,none⟩)] w fun q w'=>q=.returned (.string ⟨l.toArray⟩)∧Below B w w'
section
variable{n:Nat}{rest:List Oper}
variable{bx:List (Nat×List A)}{gen:Nat}{pos:String}{af:Array Edge}
theorem Kr[NB C 0](cy:∀b,¬C.fp b){N e u}{s:ByteArray}(hx:av f x=some (.clo fid []))(hy:av f y=some (.ptr g 0))(hb:bk bx g=some [.np g T u,.bf g2 e s])(c1:(lv.any fun h=>Nat.beq h g2)=true)(hok:lx P fid)(cj:uC P T e fid)(c6:s.size<=maxLen)(hd:Nat.blt d n=true)(h:WO P C n ops Q rest ⟨(d,.d (.v (.string s)))::pD f,[],[],gen⟩):WO P C n ops Q (⟨some d,.call ⟨.value x,#[y],N⟩,ty,pos,af,none⟩::rest) ⟨f,bx,lv,gen⟩:=by
 refine WO.step (st:=⟨f,bx,lv,gen⟩) Z fun tmps w⟨G,hs⟩=>?_;obtain⟨fn,c7,aj,ar⟩:=hok;have a7:=hs.av hx;generalize hv:Act.eval ⟨tmps,[]⟩ x=v at a7
 cases a7 with
 |clo _ vs _ df er=>
 have di:vs=#[]:=Array.eq_empty_of_size_eq_zero (by simpa using df);subst di;have a8:=hs.av hy;generalize dj:Act.eval ⟨tmps,[]⟩ y=vy at a8;obtain⟨b,cs,T',h1,h2,h3,h4,h5⟩:=hs.box g _ hb;have dt:vy=.pointer (some ⟨b,0,none⟩):=by
  cases a8 with
  |ptr _ _ _ b0 hg U I=>exact oF U I b h1
 subst dt;have cl:(execOp (Act.eval ⟨tmps,[]⟩) ⟨some d,.call ⟨.value x,#[y],N⟩,ty,pos,af,none⟩).run P w=.ok (.enter fid #[.pointer (some ⟨b,0,none⟩)]) w:=by unfold execOp;show Sem.run P (do let d←resolve (Act.eval ⟨tmps,[]⟩) ⟨.value x,#[y],N⟩ ty;invoke d.target d.args) w=_;simp only[resolve,hv,dj,Deferred.ofValue,Sem.run_bind,Sem.run_pure,Result.andThen_ok,invoke,callFunc,run_program,c7,aj,ar,N',if_false,Array.empty_append,Array.append_empty,List.map_toArray,J',List.map_nil]
 simp at h3;obtain⟨p,q,X⟩:∃p q,cs=#[p,q]:=⟨cs[0],cs[1],by apply Array.ext_getElem?;intro i;match i with|0=>simp[h3]|1=>simp[h3]|i+2=>simp[h3]⟩;subst X;have hp:=h5 0 p _ rfl rfl;have hq:=h5 1 q _ rfl rfl;obtain⟨r,b3⟩:=hs.live g2 (dU c1);have jX:∀{b lim},C.jX b lim->C.w0.heap.size<=b:=fun hm=>hm.1.resolve_right (cy _);have ad:T'=T∧(p=.pointer none∨p=.pointer (some ⟨b,0,none⟩)):=by
  cases hp with
  |np _ _ _ b0 hg U hT _ I=>
    have e1:b0=b:=by have:=(U:G.box g=some b0).symm.trans h1;simpa using this
    subst e1;obtain⟨cs',f',hT⟩:=hT;have O:w.heap[b0]?=some (.cells cs' T f'):=hT;grind
 obtain⟨rfl,ad⟩:=ad;have J:w.ownsRow C.w0.heap.size e 1 q (Lib.byteCells s.data.toList).length (Lib.byteCells s.data.toList)∧q.ownBlock≠some b:=by
  cases hq with
  |bf _ _ _ _ hg e2 cq=>
  have I:=cq r b3
  cases r with
  |zero b=>exact I.elim
  |mp b bs=>exact I.elim
  |nil=>obtain⟨rfl,h0⟩:=I;have e0:s.data.toList=[]:=O' (by simpa using h0);rw[e0];exact⟨World.ownsRow_nil w _ e 1,by simp[Value.ownBlock]⟩
  |blk b2 len cap sz e3=>
    obtain⟨rfl,h6,rfl,rfl,⟨cs',f',hT⟩,h8⟩:=I;obtain⟨a1,e4,ej,cur,T2,M,X,dx,ed,_,en,_⟩:=hs.row g2 b2 len cap 1 0 b3;have O:w.heap[b2]?=some (.cells cs' e f'):=hT;rw[M]at O;simp only[Option.some.injEq,Obj.cells.injEq]at O;obtain⟨_,rfl,_⟩:=O;have hlen:(Lib.byteCells s.data.toList).length=len:=by rw[Lib.byteCells_length,Array.length_toList];exact h6
    rw[hlen];refine⟨⟨by simpa using hlen,.inr ⟨b2,cap,cur,rfl,jX a1,M,dx,ed,X,?_⟩⟩,?_⟩
    ·rw[Nat.mul_one]
     apply List.ext_getElem?;intro t;rw[List.getElem?_take];have es:(Lib.byteCells s.data.toList)=Lib.strCells s:=(Lib.strCells_eq s).symm;split
     ·rename_i ch
      have hc:s.data[t]?=some (s.data[t]'(by rw[<-h6]at ch;exact ch)):=Array.getElem?_eq_getElem _;have h7:=h8 t _ hc;have ei:cur[t]?=_:=(cU M t).symm.trans h7;rw[es,gT hc,Array.getElem?_toList,ei]
     ·grind
    ·simp only[Value.ownBlock]
     grind
 have cx:∀p,p=Value.pointer none∨p=.pointer (some ⟨b,0,none⟩)->w.heap[b]?=some (.cells #[p,q] T' (0,0))->Lib.IsBuilder T' e C.w0.heap.size b (Lib.byteCells s.data.toList) w:=by
  rintro p (rfl|rfl) hh;·exact .inl ⟨jX (hs.gbox g b h1).2.2,q,hh,J.1,J.2⟩
  ·exact .inr ⟨jX (hs.gbox g b h1).2.2,q,hh,J.1,J.2⟩
 unfold eB;have a6:(execOp (Act.eval {tmps:=tmps,defers:=[]}) ⟨some d,.call ⟨.value x,#[y],N⟩,ty,pos,af,none⟩).run P w=.ok (.enter fid #[.pointer (some ⟨b,0,none⟩)]) w:=cl;rw[a6];refine(cj C.w0.heap.size b s.data.toList w (cx p ad h2) hs.fr.size).mono ?_;rintro e' w' ⟨rfl,ai⟩;refine⟨_,rfl,⟨(d,.d (.v (.string s)))::pD f,[],[],gen⟩,⟨G0,?_⟩,h⟩;have:=(hs.end_ ai ai.size).put (dst:=some d) (dp (dst:=some d) hd) (v:=.string ⟨s.data.toList.toArray⟩) (a:=.d (.v (.string s))) (.d (by
  have:(⟨s.data.toList.toArray⟩:ByteArray)=s:=by apply ByteArray.ext;simp
  rw[this];exact .v _ (by simp[dn,c6])))
 exact this
end
theorem tO.GK{P:Program}[dG P]{H:Ctx->Prop}{f:FuncId}{args:List A}{r:A}{k:Nat}(h:tO P H f args r k)(M:∀C,H C):bp P f args r k:=
 ⟨h.ok,fun C I w N hw hp O J U=>h.calls C I w N hw hp (M C) O J U⟩
def KI(f:List (Nat×A)):Option Operand->Option Int
 |none=>some 0
 |some x=>match av f x with|some (.d (.v (.int _ v)))=>some v|_=>none
def J6(f:List (Nat×A))(len:Nat):Option Operand->Option Int
 |none=>some (len:Int)
 |some x=>match av f x with|some (.d (.v (.int _ v)))=>some v|_=>none
theorem b7.sub {v} (h:b7 w pv v (.sl es)) (hij:i≤j) (hj:j≤es.length) (hsz:∀ e∈es,e.length=sz):
    ∃ a cap,v=.slice a es.length cap∧es.length≤cap∧b7 w pv (sliced a i j cap sz) (.sl ((es.take j).drop i)):=by
  cases h with
  | nil=>
    have e1:j=0:=by simpa using hj
    subst e1
    have e2:i=0:=by omega
    subst e2
    exact⟨none,0,rfl,ω _,.nil⟩
  | emp a cap hm=>
    have e1:j=0:=by simpa using hj
    subst e1
    have e2:i=0:=by omega
    subst e2
    refine⟨some a,cap,rfl,ς _,?_⟩
    simp only[sliced,List.take_zero,List.drop_zero,Nat.sub_zero]
    split
    · exact .emp a cap hm
    · exact .emp _ cap hm
  | sl b off len cap sz' es u hl hc hm hs hu hr=>
    refine⟨_,cap,by rw[hl],by omega,?_⟩
    rcases Nat.eq_or_lt_of_le hij with e | hlt
    · subst e
      rw[show(es.take i).drop i=[] from List.drop_eq_nil_of_le (List.length_take_le _ _)]
      simp only[sliced,Nat.sub_self]
      split
      · exact .emp _ _ (by omega)
      · exact .emp _ _ (by omega)
    · have e:sz'=sz:=by
        obtain⟨x,hx⟩:∃ x,es[0]? = some x:=⟨es[0]'(by omega),by simp⟩
        grind
      subst e
      have hne:cap≠i:=by omega
      have ha:∀ (k:Nat) (x:List D),((es.take j).drop i)[k]? = some x→es[i+k]? = some x∧k < j - i:=fun k x hk=>by
        grind
      simp only[sliced,if_neg hne,Option.map_some]
      rw[show(Addr.add ⟨b,off,none⟩ (i*sz'))=⟨b,off+i*sz',none⟩ from by simp[Addr.add]]
      refine .sl b (off+i*sz') (j - i) (cap - i) sz' _ (fun k c=>u (i+k) c) ?_ (by omega) (by omega) (fun k x hk=>hs _ x (ha k x hk).1) (fun k c hk hc'=>?_) (fun k c x d hk hd=>hr _ c x d (ha k x hk).1 hd)
      · grind
      · grind
section
variable(T:cT P){n:Nat}
variable{bx:List (Nat×List A)}{gen:Nat}{pos:String}{af:Array Edge}
theorem Dc (b) {lo hi:Option Operand} {len} {i j:Int} (hs:bq C n ⟨f,bx,lv,gen⟩ G tmps w) (hlo:KI f lo=some i) (hhi:J6 f len hi=some j) (h0:0≤i) (hij:i≤j) (hj:j≤len) (hc:len≤cap):
    (Instr.sliceBounds b len cap (lo.map (Act.eval ⟨tmps,[]⟩)) (hi.map (Act.eval ⟨tmps,[]⟩)) none).run P w=.ok (i.toNat,j.toNat,cap) w:=by
  have ev:∀ (x:Operand) (v:Int),(match av f x with | some (.d (.v (.int _ v)))=>some v | _=>none)=some v→∃ k,Act.eval ⟨tmps,[]⟩ x=.int k v:=fun x v h=>by
    split at h
    · rename_i k v' hav
      simp only[Option.some.injEq] at h
      subst h
      have hr:=hs.av hav
      generalize Act.eval ⟨tmps,[]⟩ x=y at hr
      cases hr with | d hr=>cases hr with | v _ _=>exact⟨k,rfl⟩
    · grind
  have ehj:(j.toNat:Int)=j:=Int.toNat_of_nonneg (by omega)
  have hh:((match hi.map (Act.eval ⟨tmps,[]⟩) with | some v=>Instr.sliceBound v cap (if b then .sliceAcap else .sliceAlen) | none=>pure len:Sem Nat)).run P w=.ok j.toNat w:=by
    cases hi with
    | none=>
      simp only[J6,Option.some.injEq] at hhi
      subst hhi
      simp
    | some x=>
      obtain⟨k,e⟩:=ev x j hhi
      simp only[Option.map_some,e]
      exact run_sliceBound w k j cap _ (by omega) (by omega)
  have hl:((match lo.map (Act.eval ⟨tmps,[]⟩) with | some v=>Instr.sliceBound v j.toNat (if (none:Option Value).isSome then .slice3C else .sliceB) | none=>pure 0:Sem Nat)).run P w=.ok i.toNat w:=by
    cases lo with
    | none=>
      simp only[KI,Option.some.injEq] at hlo
      subst hlo
      simp
    | some x=>
      obtain⟨k,e⟩:=ev x i hlo
      simp only[Option.map_some,e]
      exact run_sliceBound w k i j.toNat _ (by omega) (by omega)
  unfold Instr.sliceBounds
  cases hi with
  | none=>
    cases lo with
    | none=>
      simp_all
    | some x=>
      simp_all
  | some y=>
    cases lo with
    | none=>
      simp_all
    | some x=>
      simp_all
theorem qD{fn:α->List D}{lo hi}{U:cY}{l r:List α}{i j:Int}(hx:av f x=some a)(X:iU a=some (l.map fn))(ht:bk T.l t=some U)(hk:U.k=.slice e)(he:bk T.l e=some M)(hn:∀x,(fn x).length=M.n)(ad:KI f lo=some i)(ai:J6 f l.length hi=some j)(h0:0<=i)(aj:i<=j)(hj:j<=(l.length:Int))(hr:(l.take j.toNat).drop i.toNat=r):
 Pu P C n ⟨f,bx,lv,gen⟩ ⟨dst,.slice t x lo hi none,ty,pos,af,none⟩ (.d (.sl (r.map fn))):=by
 subst hr;refine aq fun G tmps w hs=>?_;have ar:=ji X (hs.av hx);obtain⟨a',cap,hv,I,J⟩:=ar.sub (i:=i.toNat) (j:=j.toNat) (sz:=M.n) (by omega) (by rw[η];omega) (fun y hy=>by obtain⟨z,_,rfl⟩:=A'.1 hy;exact hn z);rw[η]at hv I;have hu:=T.gD ht hk;have N:P.elem t=e:=by simp[Program.elem,hu]
 have O:P.underlying t=some (.slice (P.elem t)):=by rw[N];exact hu
 refine⟨sliced a' i.toNat j.toNat cap M.n,?_,.d (by rw[<-List.map_take,←List.map_drop]at J;exact J)⟩;unfold execOp;show Sem.run P _ w=_;simp only[Sem.run_bind,run_sliceAt_slice w t _ _ _ _ O,hv,run_slice_any w t a' l.length cap O,Option.map_none,Dc (P:=P) true hs ad ai h0 aj hj I,Result.andThen_ok,N,T.sizeOf he];rfl
end
section
/-! ### whatever the states are -/
variable {w w':World}{tmps:Array Value}{pv:Nat→Nat→Prop}{x y:Operand}{t g i k e m j b id off d clock sz gen' cap mt t' g2 d0:Nat}{P:Program}{Q':Exit→Act→World→Prop}{fid:FuncId}{lv' lv gs order os:List Nat}{bs:List (Nat×Nat)}{o:Oper}{xs:Array Operand}{fn:Func}{parts:Array (Nat×Operand)}{α ι β:Type}{dst:Option Nat}{hole:Option Value}{R:Value→World→Prop}{ops:Array Oper}{want:Bool}{listed:Array Bool}{T ty:TypeId}{act:Act}
variable {es es2:List (List D)}{f:List (Nat×A)}{G:Gh}{a a':A}{st st':St}{l:List D}{E E':En}{args cells cells' caps:List A}{Q:Exit→St→Prop}{b1:List (List A)}{C:Ctx}
variable {rs:List RV}
variable {I td J ed M N:cY}
section
variable{md:Region.Mode}{S E:Type}(Y:Nat→E→S→Prop)(ef:Nat→E→S→S)
def iE(md:Region.Mode)(ops:Array Oper)(listed:Array Bool):Prop:=
 ∀j I,ops[j]?=some I->listed.getD j false=true->∀e∈I.after,Region.binds md e=true->listed.getD e.on false=true
def eR(md:Region.Mode)(ops:Array Oper):Nat->Nat->Nat->Bool
 |0,_,_=>false
 |k+1,j,i=>dY md ops j i||(match ops[j]?with|some o=>o.after.toList.any fun e=>Region.binds md e&&eR md ops k e.on i|none=>false)
theorem oZ(M:iE md ops listed):∀(k j i:Nat),eR md ops k j i=true->(∀I,ops[j]?=some I->∀e∈I.after,Region.binds md e=true->listed.getD e.on false=true)->listed.getD i false=true
 |0,_,_,h,_=>by simp[eR]at h
 |k+1,j,i,h,hj=>by
   simp only[eR,Bool.or_eq_true]at h
   cases hoj:ops[j]?with
   |none=>grind[dY]
   |some I=>
     rcases h with h|h
     ·grind[pg]
     ·rw[hoj]at h
      obtain⟨e,he,hb⟩:=L'.1 h;simp only[ρ]at hb;have N:e∈I.after:=by simpa using he
      have hl:=hj I hoj e N hb.1;exact oZ M k e.on i hb.2 fun o U X J O=>M e.on o U hl X J O
def qP(md:Region.Mode)(ops:Array Oper)(m:Nat):Bool:=(List.range ops.size).all fun j=>decide (j<m)||(List.range j).all fun i=>eR md ops ops.size j i
theorem sn(h:qP md ops m=true)(hm:m<=j)(I:i<j)(O:iE md ops listed)(hj:j∈Region.ready md ops listed):listed.getD i false=true:=by obtain⟨_,U,J,N⟩:=mem_ready.1 hj;have M:j<ops.size:=(θ.1 J).1;have h1:=M'.1 h j (by simpa using M);simp only[Bool.or_eq_true,Δ]at h1;have h2:=M'.1 (h1.resolve_left (by omega)) i (by simpa using I);grind[oZ]
theorem iE.add(N:iE md ops listed)(hi:i∈Region.ready md ops listed):iE md ops (listed.setIfInBounds i true):=by
 intro j O I hl e he hb;obtain⟨_,U,M,J⟩:=mem_ready.1 hi;by_cases hji:i=j
 ·subst hji
  rw[M]at I;cases I;exact getD_set_true (J e he hb)
 ·rw[getD_set_ne false hji]at hl
  exact getD_set_true (N j O I hl e he hb)
def xO(m:Nat)(md:Region.Mode)(ops:Array Oper)(Q:S->Prop):Nat->Array Bool->S->Prop
 |0,listed,I=>Split m ops listed∧Q I
 |fuel+1,listed,I=>Region.ready md ops listed≠[]∧∀i∈Region.ready md ops listed,∃e,Y i e I∧xO m md ops Q fuel (listed.setIfInBounds i true) (ef i e I)
def sK(i j:Nat):Prop:=∀e J I,Y i e I->Y j J (ef i e I)->Y j J I∧Y i e (ef j J I)∧ef j J (ef i e I)=ef i e (ef j J I)
variable{Y}{ef}
theorem Fz{Q:S->Prop}{oi}{e:E}(hw:qP md ops m=true)(b3:i<m)(hi:ops[i]?=some oi):
 ∀(fuel:Nat)(listed:Array Bool)(M:S),iE md ops listed->
   (∀j N,ops[j]?=some N->j≠i->j<m->listed.getD j true=false->(∀e∈N.after,Region.binds md e=true->e.on≠i)->sK Y ef i j)->
   i∈Region.ready md ops listed->Y i e M->xO Y ef m md ops Q fuel (listed.setIfInBounds i true) (ef i e M)->xO Y ef m md ops Q (fuel+1) listed M:=by
 have O:∀{listed:Array Bool},i∈Region.ready md ops listed->listed.getD i false=false:=fun I=>mx (mem_ready.1 I).1;intro fuel
 induction fuel with
 |zero=>
   intro listed M hc _ I hy H;refine⟨fun h=>(by rw[h]at I;cases I),fun j hj=>?_⟩;by_cases hji:j=i;·subst hji;exact⟨e,hy,H⟩
   ·exfalso
    obtain⟨⟨_,h1,h2⟩,_⟩:=H;have a1:=(mem_ready.1 hj).1;by_cases U:j<m
    ·have:=h1 j U
     rw[getD_set_ne false (Ne.symm hji)]at this;rw[mx a1]at this;cases this
    ·have:=sn hw (by omega) (show i<j by omega) hc hj
     rw[O I]at this;cases this
 |succ fuel ih=>
   intro listed M hc J I hy H;refine⟨fun h=>(by rw[h]at I;cases I),fun j hj=>?_⟩;by_cases hji:j=i;·subst hji;exact⟨e,hy,H⟩
   ·obtain⟨e',a6,H'⟩:=H.2 j (ready_mono hj hji)
    obtain⟨X,N,a7,aj⟩:=mem_ready.1 hj;have ar:∀e∈N.after,Region.binds md e=true->e.on≠i:=fun e he hb heq=>by have h1:=aj e he hb;rw[heq,O I]at h1;cases h1
    have U:j<m:=by
     rcases V' j m with h|h
     ·exact h
     ·have:=sn hw h (show i<j by omega) hc hj
      rw[O I]at this;cases this
    obtain⟨s1,s2,s3⟩:=J j N a7 hji U X ar e e' M hy a6;have ad:∀k ok,ops[k]?=some ok->k≠i->k<m->(listed.setIfInBounds j true).getD k true=false->(∀e∈ok.after,Region.binds md e=true->e.on≠i)->sK Y ef i k:=fun k ok hk a8 b0 ai b2=>by
     refine J k ok hk a8 b0 ?_ b2;by_cases hjk:j=k;·subst hjk;exact X
     ·rw[getD_set_ne true hjk]at ai;exact ai
    refine⟨e',s1,ih (listed.setIfInBounds j true) _ (hc.add hj) ad (ready_mono I (Ne.symm hji)) s2 ?_⟩;rw[Array.setIfInBounds_comm _ _ hji,←s3];exact H'
def E4(Y:Nat->E->S->Prop)(ef:Nat->E->S->S)(Q:S->Prop):List Oper->Nat->S->Prop
 |[],_,σ=>Q σ
 |_::rest,i,σ=>∃e,Y i e σ∧E4 Y ef Q rest (i+1) (ef i e σ)
theorem BI{Q:S->Prop}(hw:qP md ops m=true)(M:∀i j oi I,ops[i]?=some oi->ops[j]?=some I->i≠j->i<m->j<m->oi.apart ops I=true->(∀e∈I.after,Region.binds md e=true->e.on≠i)->sK Y ef i j):
 ∀(l:List Oper)(k:Nat)(listed:Array Bool)(J:S),k+l.length=m->(∀j,j<l.length->l[j]?=ops[k+j]?)->iE md ops listed->
 listed.size=ops.size->(∀j,j<k->listed.getD j false=true)->(∀j,k<=j->j<ops.size->listed.getD j true=false)->
 rr md ops l.length k listed=true->E4 Y ef Q l k J->xO Y ef m md ops Q l.length listed J
 |[],k,listed,J,hk,_,_,hs,h1,h2,_,h=>⟨⟨hs,fun j hj=>h1 j (by simp at hk;omega),fun j hj N=>h2 j (by simp at hk;omega) N⟩,h⟩
 |o::l,k,listed,J,hk,hl,hc,hs,h1,h2,hB,h=>by
   have h0:ops[k]?=some o:=by simpa using(hl 0 (by simp)).symm
   have a7:k<ops.size:=(θ.1 h0).1;simp only[Ξ,rr,ρ]at hB;obtain⟨⟨hr,hf⟩,aj⟩:=hB;have O:k∈Region.ready md ops listed:=by simpa using hr
   obtain⟨e,hy,hK⟩:=h;have U:k<m:=by simp at hk;omega
   refine Fz hw U h0 l.length listed J hc (fun j I X ad ar a1 ai=>M k j o I h0 X (Ne.symm ad) U ar (Region.free_spec h0 hf j I X ad a1 ai) ai) O hy
    (BI hw M l (k+1) _ _ (by simp at hk;omega) (fun j hj=>by have:=hl (j+1) (by simpa using hj);simpa[Nat.add_assoc,Nat.add_comm 1 j]using this) (hc.add O) (by simpa using hs) (fun j hj=>?_) (fun j hj N=>?_) aj hK)
   ·rcases Nat.lt_succ_iff_lt_or_eq.1 hj with a6|rfl
    ·exact getD_set_true (h1 j a6)
    ·simp_all
   ·rw[getD_set_ne true (by omega)]
    grind
theorem qN{Sm:S->Act->World->Prop}{Q:S->Prop}(M:∀i e I act w K,Sm I act w->Y i e I->(∀act w,Sm (ef i e I) act w->K act w)->wpOp P ops Q' i K act w)(N:∀listed I act w,Sm I act w->iE md ops listed->Split m ops listed->Q I->wpAny P md ops Q' t listed act w):
 ∀(fuel:Nat)(listed:Array Bool)(I:S)(act:Act)(w:World),Sm I act w->iE md ops listed->xO Y ef m md ops Q fuel listed I->wpAny P md ops Q' (fuel+t) listed act w
 |0,_,_,_,_,hs,J,h=>by rw[Nat.zero_add];exact N _ _ _ _ hs J h.1 h.2
 |fuel+1,_,_,_,_,hs,J,h=>by rw[Nat.add_right_comm];refine⟨fun h0=>absurd h0 h.1,fun i hi=>?_⟩;obtain⟨e,U,X⟩:=h.2 i hi;exact M i e _ _ _ _ hs U fun act w O=>qN M N fuel _ _ _ _ O (J.add hi) X
theorem qj{Q':Exit->Act->World->Prop}(hw:qP md ops m=true)(J:∀k,m<=k->∀o,ops[k]?=some o->∀e∈o.after,Region.binds md e=true->e.on<k):
 ∀(l:List Oper)(k:Nat)(listed:Array Bool)(act:Act)(w:World),m<=k->k+l.length=ops.size->(∀j,l[j]?=ops[k+j]?)->iE md ops listed->listed.size=ops.size->(∀j,j<k->listed.getD j false=true)->(∀j,k<=j->j<ops.size->listed.getD j true=false)->
   fW P ops Q' l act w->wpAny P md ops Q' l.length listed act w
 |[],k,listed,act,w,hm,hk,_,_,hs,h1,h2,h=>by refine⟨?_,h⟩;refine List.eq_nil_iff_forall_not_mem.2 fun j hj=>?_;obtain⟨h3,oj,ai,_⟩:=mem_ready.1 hj;grind
 |o::l,k,listed,act,w,hm,hk,hl,hc,hs,h1,h2,h=>by
   have h0:ops[k]?=some o:=by simpa using(hl 0).symm
   have M:k<ops.size:=(θ.1 h0).1;have I:k∈Region.ready md ops listed:=mem_ready.2 ⟨h2 k (ω _) M,o,h0,fun e he hb=>h1 _ (J k hm o h0 e he hb)⟩;refine⟨fun hn=>(by rw[hn]at I;cases I),fun i hi=>?_⟩;have O:i=k:=by
    obtain⟨h3,oi,aj,_⟩:=mem_ready.1 hi;rcases Nat.lt_trichotomy i k with N|he|U
    ·grind
    ·grind
    ·have:=sn hw (by omega) U hc hi
     grind
   subst O
   have ih:=fun act w=>qj (Q':=Q') hw J l (i+1) (listed.setIfInBounds i true) act w (by omega) (by simp at hk;omega) (fun j=>by have:=hl (j+1);simpa[Nat.add_assoc,Nat.add_comm 1 j]using this) (hc.add I) (by simpa using hs)
    (fun j hj=>by
     rcases Nat.lt_succ_iff_lt_or_eq.1 hj with N|rfl
     ·exact getD_set_true (h1 j N)
     ·simp[hs,M]) (fun j hj X=>by rw[getD_set_ne true (by omega)];exact h2 j (by omega) X)
   simp only[fW]at h;unfold wpOp;simp only[h0];split
   ·rename_i ad
    rw[if_pos ad]at h;exact .inl (Oper.wp_mono ih h)
   ·grind
end
/-! ### one operation that turns the ghost -/
theorem Oper.IV{a K J Q}(hp:∀c a w,¬Q (.panic c) a w)(M:¬LetsOut Q)(I:∀a w,K a w->J a w)(h:o.wp P a w K Q):o.wp P a w J Q':=by
 unfold Oper.wp at*;generalize(execOp a.eval o).run P w=r at*
 cases r with
 |ok n w'=>
   cases n<;>simp only[Oper.upon]at h⊢<;>first
    |exact I _ _ h
    |exact Calls.mono h (fun e N he=>by
     cases e with
     |returned v=>exact I _ _ he
     |panicked c=>exact absurd he (hp _ _ _)
     |outgrown=>exact absurd he M)
    |exact Rows.mono h (fun _ _ he=>I _ _ he)
    |exact h
 |halt x w'=>
   cases x<;>simp only[Oper.upon]at h⊢<;>first
    |exact absurd h (hp _ _ _)
    |exact h
theorem Oper.yp{a K J Q}(hp:∀c a w,Q (.panic c) a w->Q' (.panic c) a w)(M:¬LetsOut Q)(I:∀a w,K a w->J a w)(h:o.wp P a w K Q):o.wp P a w J Q':=by
 unfold Oper.wp at*;generalize(execOp a.eval o).run P w=r at*
 cases r with
 |ok n w'=>
   cases n<;>simp only[Oper.upon]at h⊢<;>first
    |exact I _ _ h
    |exact Calls.mono h (fun e N he=>by
     cases e with
     |returned v=>exact I _ _ he
     |panicked c=>exact hp _ _ _ he
     |outgrown=>exact absurd he M)
    |exact Rows.mono h (fun _ _ he=>I _ _ he)
    |exact h
 |halt x w'=>
   cases x<;>simp only[Oper.upon]at h⊢<;>first
    |exact hp _ _ _ h
    |exact h
end
structure FF where
 bx0:List (Nat×List A)
 bx1:List (Nat×List A)
 lv0:List Nat
 lv1:List Nat
 gen0:Nat
 gen1:Nat
section
variable{n:Nat}(S:FF)(c:Nat)
abbrev SC:=fB×Bool
def Kf(C:Ctx)(n:Nat)(S:FF)(I:SC)(act:Act)(w:World):Prop:=
 act.defers=C.ds∧∃G,if I.2=true then gH C n S.bx1 S.lv1 S.gen1 I.1 G act.tmps w else gH C n S.bx0 S.lv0 S.gen0 I.1 G act.tmps w
def Kl(P:Program)(C:Ctx)(n:Nat)(S:FF)(ops:Array Oper)(o:Oper)(a:A)(I:fB):Prop:=
 o.guard=none∧∃p,(∀t x,look p t=some x->I t=some x∧t∈o.looksAt ops)∧
  ∀g,WO P C n ops (fun e st=>e=.normal∧st=St.put ⟨p++g,S.bx1,S.lv1,S.gen1⟩ o.dst a) [o] ⟨p++g,S.bx0,S.lv0,S.gen0⟩
def YC(P:Program)(C:Ctx)(n:Nat)(S:FF)(ops:Array Oper)(c:Nat)(i:Nat)(a:A)(I:SC):Prop:=
 ∃o,ops[i]?=some o∧gZ n o.dst=true∧((i=c∧I.2=false∧Kl P C n S ops o a I.1)∨
   (i≠c∧(dY .any ops i c=false->YA P C n S.bx0 S.lv0 S.gen0 ops o a I.1)∧(dY .any ops c i=false->YA P C n S.bx1 S.lv1 S.gen1 ops o a I.1)∧
    (I.2=false->dY .any ops i c=false)∧(I.2=true->dY .any ops c i=false)))
def B3(ops:Array Oper)(c:Nat)(i:Nat)(a:A)(I:SC):SC:=
 match ops[i]?with
 |none=>I
 |some o=>(dd I.1 o.dst a,if i=c then true else I.2)
variable{S}{c}
theorem BR{J:fB}{x}(hd:∀d,dst=some d->d∉o.looksAt ops):Kl P C n S ops o a (dd J dst x)↔Kl P C n S ops o a J:=by
 constructor
 ·rintro⟨h0,p,h1,h2⟩
  exact⟨h0,p,fun t y I=>⟨(jj hd (h1 t y I).2).symm.trans (h1 t y I).1,(h1 t y I).2⟩,h2⟩
 ·rintro⟨h0,p,h1,h2⟩
  exact⟨h0,p,fun t y I=>⟨(jj hd (h1 t y I).2).trans (h1 t y I).1,(h1 t y I).2⟩,h2⟩
theorem CA{I:Oper}(hj:ops[j]?=some I)(h:∀e∈I.after,Region.binds .any e=true->e.on≠i):dY .any ops j i=false:=by grind[dY,pg]
theorem kH(h:ops[i]?=some o)(a)(I:SC):B3 ops c i a I=(dd I.1 o.dst a,if i=c then true else I.2):=by unfold B3;rw[h]
theorem Li{J I:Oper}(hi:ops[i]?=some J)(hj:ops[j]?=some I)(b0:i≠j)(a6:J.apart ops I=true)(a7:∀e∈I.after,Region.binds .any e=true->e.on≠i):
 sK (YC P C n S ops c) (B3 ops c) i j:=by
 obtain⟨U,a2,a3⟩:=Oper.apart_spec a6;have ad:=CA hj a7;rintro a b ⟨φ,ph⟩ ⟨b2,ai,di,aj⟩ ⟨b3,ar,dj,M⟩;rw[hi]at ai;cases ai;rw[hj]at ar;cases ar;rw[kH hi]at M;rw[kH hi,kH hj,kH hj,kH hi];have a8:dd (dd φ J.dst a) I.dst b=dd (dd φ I.dst b) J.dst a:=pL φ a b a2;simp only at aj M⊢;rcases aj with⟨rfl,N,hx⟩|⟨O,y0,y1,y2,y3⟩
 ·
  subst N;rcases M with⟨e,_⟩|⟨X,z0,z1,z2,z3⟩
  ·grind
  ·refine⟨⟨I,hj,dj,.inr ⟨X,fun h=>(gO U).1 (z0 h),fun h=>(gO U).1 (z1 h),fun _=>ad,fun h=>by cases h⟩⟩,⟨J,hi,di,.inl ⟨rfl,?_,(BR a3).2 hx⟩⟩,?_⟩
   ·grind
   ·grind
 ·rcases M with⟨rfl,N,hx⟩|⟨X,z0,z1,z2,z3⟩
  ·rw[if_neg O]at N
   subst N;refine⟨⟨I,hj,dj,.inl ⟨rfl,rfl,(BR U).1 hx⟩⟩,⟨J,hi,di,.inr ⟨O,fun h=>(gO a3).2 (y0 h),fun h=>(gO a3).2 (y1 h),fun h=>?_,fun _=>ad⟩⟩,?_⟩;·grind
   ·grind
  ·rw[if_neg O]at z2 z3
   refine⟨⟨I,hj,dj,.inr ⟨X,fun h=>(gO U).1 (z0 h),fun h=>(gO U).1 (z1 h),z2,z3⟩⟩,⟨J,hi,di,.inr ⟨O,fun h=>(gO a3).2 (y0 h),fun h=>(gO a3).2 (y1 h),?_,?_⟩⟩,?_⟩;·grind
   ·grind
   ·grind
def ir(n:Nat)(I:fB):List (Nat×A):=(List.range n).filterMap fun t=>(I t).map fun a=>(t,a)
theorem pt(I:fB):∀(l:List Nat)(t:Nat),look (l.filterMap fun t=>(I t).map fun a=>(t,a)) t=if t∈l then I t else none
 |[],t=>rfl
 |s::l,t=>by
   rw[List.filterMap_cons]
   cases hs:I s with
   |none=>simp only[Option.map_none];rw[pt I l t];grind
   |some a=>
     simp only[Option.map_some,cv];by_cases e:s=t;·grind
     ·rw[if_neg e,pt I l t]
      grind
theorem uJ(p g:List (Nat×A))(t:Nat):look (p++g) t=match look p t with|some a=>some a|none=>look g t:=by
 induction p with
 |nil=>rfl
 |cons x p I=>grind[cv]
theorem Kc(i a)(σ:SC)(act w K)(hs:Kf C n S σ act w)(hy:YC P C n S ops c i a σ)(U:∀act w,Kf C n S (B3 ops c i a σ) act w->K act w):wpOp P ops Q' i K act w:=by
 obtain⟨tmps,a8⟩:=act;obtain⟨rfl,G,hs⟩:=hs;obtain⟨I,ph⟩:=σ;obtain⟨o,ho,hd,hy⟩:=hy;rw[kH ho]at U;simp only at hs hy U;unfold wpOp;simp only[ho];rcases hy with⟨rfl,rfl,hg,p,hp,J⟩|⟨aj,y0,y1,y2,y3⟩
 ·simp only[N',if_false]at hs
  have hw:Region.wanted o (yielded ops tmps)=true:=by simp[Region.wanted,hg]
  rw[hw,if_pos rfl];refine .inl ?_;have ar:∀t x,I t=some x->t<n:=fun t x J=>by obtain⟨v,h1,_⟩:=hs.2 t x J;have:=(θ.1 h1).1;rw[hs.1.size]at this;grind
  have O:∀t,look (p++ir n I) t=I t:=fun t=>by
   rw[uJ]
   cases q:look p t with
   |some x=>exact(hp t x q).1.symm
   |none=>
     simp only;unfold ir;rw[pt]
     cases e:I t with
     |none=>split<;>rfl
     |some x=>rw[if_pos (List.mem_range.2 (ar t x e))]
  have a1:=hs.oT (f:=p++ir n I) fun t x J=>by rw[<-O];exact J
  have h:=J (ir n I) tmps w ⟨G,a1⟩;simp only[fW,hw,if_true]at h;refine Oper.IV (fun c a w X=>?_) (fun hl=>?_) (fun ad w2 X=>?_) h
  ·obtain⟨_,st',_,he,_⟩:=X
   grind
  ·obtain⟨_,_,X⟩:=hl
   obtain⟨_,st',_,he,_⟩:=X;grind
  ·obtain⟨a6,st',⟨G',M⟩,_,rfl⟩:=X
   refine U ad w2 ⟨a6,G',?_⟩;simp only[if_true];show gH C n S.bx1 S.lv1 S.gen1 (dd I o.dst a) G' ad.tmps w2
   cases ai:o.dst with
   |none=>rw[ai]at M;refine⟨{M with frame:=fun t a ha=>by simp[look]at ha},fun t x J=>M.frame t x ?_⟩;show look (p++ir n I) t=some x;rw[O];exact J
   |some d=>rw[ai]at M;refine⟨{M with frame:=fun t a ha=>by simp[look]at ha},fun t x J=>M.frame t x ?_⟩;show look ((d,a)::(p++ir n I)) t=some x;grind[cv,dd]
 ·rw[if_neg aj]at U
  have key:∀{bx:List (Nat×List A)}{lv:List Nat}{gen:Nat},gH C n bx lv gen I G tmps w->YA P C n bx lv gen ops o a I->(∀tmps w,gH C n bx lv gen (dd I o.dst a) G tmps w->K ⟨tmps,C.ds⟩ w)->
   (if Region.wanted o (yielded ops tmps)=true then o.wp P ⟨tmps,C.ds⟩ w K Q'∨(o.asks P ⟨tmps,C.ds⟩ w∧LetsOut Q')else K (Act.put ⟨tmps,C.ds⟩ o.dst undef) w):=by
   intro bx lv gen N a7 hk;obtain⟨_,⟨hw,f,hf,hp⟩|⟨hw,rfl⟩⟩:=a7
   ·rw[jE N hw]
    simp only[if_true];refine .inl ?_;have hg:eB P o ⟨tmps,[]⟩ w fun v w'=>Below w.heap.size w w'∧bG (br C G gen w') v a:=hp G tmps w (N.oT fun t x J=>(hf t x J).1);refine hg.ds.wp fun v w'⟨hb,hr⟩=>?_;rw[Act.j6];exact hk _ _ (N.step hb hd hr)
   ·rw[jE N hw]
    simp only[N',if_false];rw[Act.j6];exact hk _ _ (N.step (Below.refl _ _) hd (.tup #[] [] rfl (by simp)))
  cases ph with
  |false=>simp only[N',if_false]at hs;exact key hs (y0 (y2 rfl)) fun tmps w h=>U _ _ ⟨rfl,G,by simpa using h⟩
  |true=>simp only[if_true]at hs;exact key hs (y1 (y3 rfl)) fun tmps w h=>U _ _ ⟨rfl,G,by simpa using h⟩
def CC(P:Program)(C:Ctx)(n:Nat)(S:FF)(ops:Array Oper)(c:Nat)(Q:St->Prop)(l:List Oper)(i:Nat)(f:List (Nat×A))(ph:Bool):Prop:=
 E4 (YC P C n S ops c) (B3 ops c) (fun I=>∃f',(∀t,look f' t=I.1 t)∧I.2=true∧Q ⟨f',S.bx1,S.lv1,S.gen1⟩) l i (look f,ph)
def jc(m:Nat)(ops:Array Oper):Bool:=Nat.ble m ops.size&&qP .any ops m&&CV .any ops m&&rr .any ops m 0 (Array.replicate ops.size false)
theorem W.fb(T:cT P){l l1 l2:List Oper}{bx bx1 lv1 gen gen1}(m c)(hB:jc m l.toArray=true)(h1:l.take m=l1)(h2:l.drop m=l2)(h:CC P C n ⟨bx,bx1,lv,lv1,gen,gen1⟩ l.toArray c (WO P C n l.toArray Q l2) l1 0 f false):W P C n (.region id l.toArray true) Q ⟨f,bx,lv,gen⟩:=by
 subst h1;subst h2;intro tmps w ⟨G,hs⟩;simp only[jc,ρ]at hB;obtain⟨⟨⟨hm,hw⟩,N⟩,I⟩:=hB;have hm:m<=l.length:=by simpa using κ hm
 have hb:Below w.heap.size w {w with drawn:=w.drawn+1}:=(Below.refl _ w).drew;have X:gH C n bx lv gen (look f) G tmps {w with drawn:=w.drawn+1}:=gH.DJ (hs.je hb).2;have hlen:(l.take m).length=m:=by simp;omega
 refine wp_region_any T.mixed ?_;have O:l.toArray.size=(l.take m).length+(l.drop m).length:=by simp;omega
 rw[O];have U:iE .any l.toArray (Array.replicate ((l.take m).length+(l.drop m).length) false):=fun j oj _ hl _ _ _=>by
  by_cases q:j<(l.take m).length+(l.drop m).length;·simp_all
  ·grind
 refine qN (m:=m) (Sm:=Kf C n ⟨bx,bx1,lv,lv1,gen,gen1⟩) (Y:=YC P C n ⟨bx,bx1,lv,lv1,gen,gen1⟩ l.toArray c) (ef:=B3 l.toArray c) (Q:=fun J=>∃f',(∀t,look f' t=J.1 t)∧J.2=true∧WO P C n l.toArray Q (l.drop m) ⟨f',bx1,lv1,gen1⟩)
  (fun i e J act w K hs hy hk=>Kc i e J act w K hs hy hk) (fun listed J act w hs hc M⟨f',e1,e2,hq⟩=>?_) _ _ (look f,false) ⟨tmps,C.ds⟩ _ ⟨rfl,G,by simpa using X⟩ U ?_
 ·obtain⟨tmps,ar⟩:=act
  obtain⟨rfl,G,hs⟩:=hs;rw[e2]at hs;simp only[if_true]at hs;refine qj hw (rp N) (l.drop m) m listed ⟨tmps,C.ds⟩ w (ω _) (by simp;omega) (fun j=>by simp[List.getElem?_drop]) hc M.1 M.2.1 M.2.2 ?_;exact hq tmps w ⟨G,hs.oT (fun t a ha=>by rw[<-e1];exact ha)⟩
 ·refine BI hw (fun i j oi oj hi hj ad a1 a6 ai aj=>Li hi hj ad ai aj) (l.take m) 0 _ _ (by rw[hlen];omega) (fun j hj=>?_) U (by simp;omega) (fun j hj=>by omega) (fun j _ hj=>?_) (by rw[hlen];rw[O,hlen]at I;exact I) h
  ·grind
  ·simp_all
variable{op:Op}{pos:String}{af:Array Edge}{rest:List Oper}{Q:St→Prop}{ph:Bool}
theorem CC.LV(h:Q ⟨f,S.bx1,S.lv1,S.gen1⟩):CC P C n S ops c Q [] i f true:=⟨f,fun _=>rfl,rfl,h⟩
theorem YA.vB{bx gen}(hp:Pu P C n ⟨dm f (slotsOf op),bx,lv,gen⟩ ⟨some d,op,ty,pos,af,none⟩ a)(hd:Nat.blt d n=true):YA P C n bx lv gen ops ⟨some d,op,ty,pos,af,none⟩ a (look f):=
 ⟨hd,.inl ⟨rfl,_,fun t x I=>by obtain⟨h1,h2⟩:=fq I;exact⟨h1,F'.2 (.inl h2)⟩,hp⟩⟩
theorem Lt(h1:Pu P C n ⟨dm f (slotsOf op),S.bx1,S.lv1,S.gen1⟩ ⟨some d,op,ty,pos,af,none⟩ a)(h0:Pu P C n ⟨dm f (slotsOf op),S.bx0,S.lv0,S.gen0⟩ ⟨some d,op,ty,pos,af,none⟩ a)(hi:ops[i]?=some ⟨some d,op,ty,pos,af,none⟩)(J:Nat.beq i c=false)(M:dY .any ops i c=false)(b1:dY .any ops c i=false)(hd:Nat.blt d n=true)(h:CC P C n S ops c Q rest (i+1) ((d,a)::f) ph):CC P C n S ops c Q (⟨some d,op,ty,pos,af,none⟩::rest) i f ph:=by
 have I:i≠c:=fun e=>by subst e;simp at J
 refine⟨a,⟨_,hi,hd,.inr ⟨I,fun _=>YA.vB h0 hd,fun _=>YA.vB h1 hd,fun _=>M,fun _=>b1⟩⟩,?_⟩;rw[kH hi];grind[CC,gl]
theorem JP(h0:Pu P C n ⟨dm f (slotsOf op),S.bx0,S.lv0,S.gen0⟩ ⟨some d,op,ty,pos,af,none⟩ a)(hi:ops[i]?=some ⟨some d,op,ty,pos,af,none⟩)(J:Nat.beq i c=false)(M:dY .any ops i c=false)(b1:dY .any ops c i=true)(hd:Nat.blt d n=true)(h:CC P C n S ops c Q rest (i+1) ((d,a)::f) false):CC P C n S ops c Q (⟨some d,op,ty,pos,af,none⟩::rest) i f false:=by
 have I:i≠c:=fun e=>by subst e;simp at J
 refine⟨a,⟨_,hi,hd,.inr ⟨I,fun _=>YA.vB h0 hd,(fun h=>by rw[b1]at h;cases h),fun _=>M,fun h=>by cases h⟩⟩,?_⟩;rw[kH hi];grind[CC,gl]
theorem KD(h1:Pu P C n ⟨dm f (slotsOf op),S.bx1,S.lv1,S.gen1⟩ ⟨some d,op,ty,pos,af,none⟩ a)(hi:ops[i]?=some ⟨some d,op,ty,pos,af,none⟩)(J:Nat.beq i c=false)(M:dY .any ops i c=true)(b1:dY .any ops c i=false)(hd:Nat.blt d n=true)(h:CC P C n S ops c Q rest (i+1) ((d,a)::f) true):CC P C n S ops c Q (⟨some d,op,ty,pos,af,none⟩::rest) i f true:=by
 have I:i≠c:=fun e=>by subst e;simp at J
 refine⟨a,⟨_,hi,hd,.inr ⟨I,(fun h=>by rw[M]at h;cases h),fun _=>YA.vB h1 hd,(fun h=>by cases h),fun _=>b1⟩⟩,?_⟩;rw[kH hi];grind[CC,gl]
theorem L1(I:∀g,WO P C n ops (fun e st=>e=.normal∧st=⟨(d,a)::(dm f (slotsOf op)++g),S.bx1,S.lv1,S.gen1⟩) [⟨some d,op,ty,pos,af,none⟩] ⟨dm f (slotsOf op)++g,S.bx0,S.lv0,S.gen0⟩)(hi:ops[i]?=some ⟨some d,op,ty,pos,af,none⟩)(M:Nat.beq i c=true)(hd:Nat.blt d n=true)(h:CC P C n S ops c Q rest (i+1) ((d,a)::f) true):CC P C n S ops c Q (⟨some d,op,ty,pos,af,none⟩::rest) i f false:=by
 have J:i=c:=Θ M;refine⟨a,⟨_,hi,hd,.inl ⟨J,rfl,rfl,dm f (slotsOf op),fun t x I=>?_,fun g=>I g⟩⟩,?_⟩
 ·obtain⟨h1,h2⟩:=fq I
  exact⟨h1,F'.2 (.inl h2)⟩
 ·rw[kH hi]
  grind[CC,gl]
theorem Lh(J:∀g,WO P C n ops (fun e st=>e=.normal∧st=⟨dm f (slotsOf op)++g,S.bx1,S.lv1,S.gen1⟩) [⟨none,op,ty,pos,af,none⟩] ⟨dm f (slotsOf op)++g,S.bx0,S.lv0,S.gen0⟩)(hi:ops[i]?=some ⟨none,op,ty,pos,af,none⟩)(M:Nat.beq i c=true)(h:CC P C n S ops c Q rest (i+1) f true):CC P C n S ops c Q (⟨none,op,ty,pos,af,none⟩::rest) i f false:=by
 have I:i=c:=Θ M;refine⟨.any,⟨_,hi,rfl,.inl ⟨I,rfl,rfl,dm f (slotsOf op),fun t x J=>?_,fun g=>J g⟩⟩,?_⟩
 ·obtain⟨h1,h2⟩:=fq J
  exact⟨h1,F'.2 (.inl h2)⟩
 ·rw[kH hi]
  simp only[if_pos I];exact h
variable{bx0 bx1:List (Nat×List A)}{lv0 lv1:List Nat}{gen0 gen1:Nat}
theorem au(h:Q ⟨f,bx1,lv1,gen1⟩):CC P C n ⟨bx0,bx1,lv0,lv1,gen0,gen1⟩ ops c Q [] i f true:=
 CC.LV (S:=⟨bx0,bx1,lv0,lv1,gen0,gen1⟩) h
theorem cd(h1:Pu P C n ⟨dm f (slotsOf op),bx1,lv1,gen1⟩ ⟨some d,op,ty,pos,af,none⟩ a)(h0:Pu P C n ⟨dm f (slotsOf op),bx0,lv0,gen0⟩ ⟨some d,op,ty,pos,af,none⟩ a)(hi:ops[i]?=some ⟨some d,op,ty,pos,af,none⟩)(I:Nat.beq i c=false)(J:dY .any ops i c=false)(b1:dY .any ops c i=false)(hd:Nat.blt d n=true)(h:CC P C n ⟨bx0,bx1,lv0,lv1,gen0,gen1⟩ ops c Q rest (i+1) ((d,a)::f) ph):CC P C n ⟨bx0,bx1,lv0,lv1,gen0,gen1⟩ ops c Q (⟨some d,op,ty,pos,af,none⟩::rest) i f ph:=
 Lt (S:=⟨bx0,bx1,lv0,lv1,gen0,gen1⟩) h1 h0 hi I J b1 hd h
theorem eJ(h0:Pu P C n ⟨dm f (slotsOf op),bx0,lv0,gen0⟩ ⟨some d,op,ty,pos,af,none⟩ a)(hi:ops[i]?=some ⟨some d,op,ty,pos,af,none⟩)(I:Nat.beq i c=false)(J:dY .any ops i c=false)(b1:dY .any ops c i=true)(hd:Nat.blt d n=true)(h:CC P C n ⟨bx0,bx1,lv0,lv1,gen0,gen1⟩ ops c Q rest (i+1) ((d,a)::f) false):CC P C n ⟨bx0,bx1,lv0,lv1,gen0,gen1⟩ ops c Q (⟨some d,op,ty,pos,af,none⟩::rest) i f false:=
 JP (S:=⟨bx0,bx1,lv0,lv1,gen0,gen1⟩) h0 hi I J b1 hd h
theorem nV(h1:Pu P C n ⟨dm f (slotsOf op),bx1,lv1,gen1⟩ ⟨some d,op,ty,pos,af,none⟩ a)(hi:ops[i]?=some ⟨some d,op,ty,pos,af,none⟩)(I:Nat.beq i c=false)(J:dY .any ops i c=true)(b1:dY .any ops c i=false)(hd:Nat.blt d n=true)(h:CC P C n ⟨bx0,bx1,lv0,lv1,gen0,gen1⟩ ops c Q rest (i+1) ((d,a)::f) true):CC P C n ⟨bx0,bx1,lv0,lv1,gen0,gen1⟩ ops c Q (⟨some d,op,ty,pos,af,none⟩::rest) i f true:=
 KD (S:=⟨bx0,bx1,lv0,lv1,gen0,gen1⟩) h1 hi I J b1 hd h
theorem qu(I:∀g,WO P C n ops (fun e st=>e=.normal∧st=⟨(d,a)::(dm f (slotsOf op)++g),bx1,lv1,gen1⟩) [⟨some d,op,ty,pos,af,none⟩] ⟨dm f (slotsOf op)++g,bx0,lv0,gen0⟩)(hi:ops[i]?=some ⟨some d,op,ty,pos,af,none⟩)(J:Nat.beq i c=true)(hd:Nat.blt d n=true)(h:CC P C n ⟨bx0,bx1,lv0,lv1,gen0,gen1⟩ ops c Q rest (i+1) ((d,a)::f) true):CC P C n ⟨bx0,bx1,lv0,lv1,gen0,gen1⟩ ops c Q (⟨some d,op,ty,pos,af,none⟩::rest) i f false:=
 L1 (S:=⟨bx0,bx1,lv0,lv1,gen0,gen1⟩) I hi J hd h
theorem wP(I:∀g,WO P C n ops (fun e st=>e=.normal∧st=⟨dm f (slotsOf op)++g,bx1,lv1,gen1⟩) [⟨none,op,ty,pos,af,none⟩] ⟨dm f (slotsOf op)++g,bx0,lv0,gen0⟩)(hi:ops[i]?=some ⟨none,op,ty,pos,af,none⟩)(J:Nat.beq i c=true)(h:CC P C n ⟨bx0,bx1,lv0,lv1,gen0,gen1⟩ ops c Q rest (i+1) f true):CC P C n ⟨bx0,bx1,lv0,lv1,gen0,gen1⟩ ops c Q (⟨none,op,ty,pos,af,none⟩::rest) i f false:=
 Lh (S:=⟨bx0,bx1,lv0,lv1,gen0,gen1⟩) I hi J h
end
section
/-! ### whatever the states are: with paths in place of edges -/
variable {w w':World}{tmps:Array Value}{pv:Nat→Nat→Prop}{x y:Operand}{t g i k e m j b id off d clock sz gen' cap mt t' g2 d0:Nat}{P:Program}{Q':Exit→Act→World→Prop}{fid:FuncId}{lv' lv gs order os:List Nat}{bs:List (Nat×Nat)}{o:Oper}{xs:Array Operand}{fn:Func}{parts:Array (Nat×Operand)}{α ι β:Type}{dst:Option Nat}{hole:Option Value}{R:Value→World→Prop}{ops:Array Oper}{want:Bool}{listed:Array Bool}{T ty:TypeId}{act:Act}
variable {es es2:List (List D)}{f:List (Nat×A)}{G:Gh}{a a':A}{st st':St}{l:List D}{E E':En}{args cells cells' caps:List A}{Q:Exit→St→Prop}{b1:List (List A)}{C:Ctx}
variable {rs:List RV}
variable {I td J ed M N:cY}
section
variable{md:Region.Mode}{S E:Type}{Y:Nat→E→S→Prop}{ef:Nat→E→S→S}
def loose(md:Region.Mode)(ops:Array Oper)(i j:Nat):Prop:=eR md ops ops.size i j=false∧eR md ops ops.size j i=false
theorem DG{I:Oper}{e:Edge}(hj:ops[j]?=some I)(he:e∈I.after)(hb:Region.binds md e=true)(h:e.on=i):dY md ops j i=true:=by unfold dY;rw[hj];exact L'.2 ⟨e,by simpa using he,by simp[hb,h]⟩
theorem z7(h:eR md ops ops.size j i=false)(hj:j<ops.size):dY md ops j i=false:=by
 cases q:ops.size with
 |zero=>omega
 |succ k=>grind[eR,Bool.or_eq_false_iff]
theorem tZ(M:iE md ops listed)(hi:i∈Region.ready md ops listed)(hj:listed.getD j true=false):eR md ops ops.size i j=false:=by obtain⟨_,N,J,I⟩:=mem_ready.1 hi;grind[eR,oZ,mx]
theorem Dq{Q:S->Prop}{oi}{e:E}(hw:qP md ops m=true)(b0:i<m)(hi:ops[i]?=some oi):
 ∀(fuel:Nat)(listed:Array Bool)(M:S),iE md ops listed->
   (∀j U,ops[j]?=some U->j≠i->j<m->listed.getD j true=false->eR md ops ops.size j i=false->sK Y ef i j)->
   i∈Region.ready md ops listed->Y i e M->xO Y ef m md ops Q fuel (listed.setIfInBounds i true) (ef i e M)->xO Y ef m md ops Q (fuel+1) listed M:=by
 have b2:∀{listed:Array Bool},i∈Region.ready md ops listed->listed.getD i false=false:=fun I=>mx (mem_ready.1 I).1;intro fuel
 induction fuel with
 |zero=>
   intro listed M X _ I hy H;refine⟨fun h=>(by rw[h]at I;cases I),fun j hj=>?_⟩;by_cases hji:j=i;·grind
   ·exfalso
    obtain⟨⟨_,h1,h2⟩,_⟩:=H;have b3:=(mem_ready.1 hj).1;by_cases N:j<m
    ·have:=h1 j N
     rw[getD_set_ne false (Ne.symm hji)]at this;grind
    ·grind[sn]
 |succ fuel ih=>
   intro listed M X J I hy H;refine⟨fun h=>(by rw[h]at I;cases I),fun j hj=>?_⟩;by_cases hji:j=i;·grind
   ·obtain⟨e',aj,H'⟩:=H.2 j (ready_mono hj hji)
    obtain⟨ad,U,ar,a8⟩:=mem_ready.1 hj;have ai:eR md ops ops.size j i=false:=tZ X hj (mem_ready.1 I).1;have N:j<m:=by grind[Nat.lt_or_ge,sn]
    obtain⟨s1,s2,s3⟩:=J j U ar hji N ad ai e e' M hy aj;have O:∀k ok,ops[k]?=some ok->k≠i->k<m->(listed.setIfInBounds j true).getD k true=false->eR md ops ops.size k i=false->sK Y ef i k:=fun k ok hk a1 a6 ch a7=>by
     refine J k ok hk a1 a6 ?_ a7;by_cases hjk:j=k;·grind
     ·simp_all
    refine⟨e',s1,ih (listed.setIfInBounds j true) _ (X.add hj) O (ready_mono I (Ne.symm hji)) s2 ?_⟩;grind[Array.setIfInBounds_comm]
theorem yP{Q:S->Prop}(hw:qP md ops m=true)(O:∀i j oi I,ops[i]?=some oi->ops[j]?=some I->i≠j->i<m->j<m->oi.apart ops I=true->loose md ops i j->sK Y ef i j):
 ∀(l:List Oper)(k:Nat)(listed:Array Bool)(J:S),k+l.length=m->(∀j,j<l.length->l[j]?=ops[k+j]?)->iE md ops listed->
 listed.size=ops.size->(∀j,j<k->listed.getD j false=true)->(∀j,k<=j->j<ops.size->listed.getD j true=false)->
 rr md ops l.length k listed=true->E4 Y ef Q l k J->xO Y ef m md ops Q l.length listed J
 |[],k,listed,J,hk,_,_,hs,h1,h2,_,h=>⟨⟨hs,fun j hj=>h1 j (by simp at hk;omega),fun j hj U=>h2 j (by simp at hk;omega) U⟩,h⟩
 |o::l,k,listed,J,hk,hl,hc,hs,h1,h2,hB,h=>by
   have h0:ops[k]?=some o:=by simpa using(hl 0 (by simp)).symm
   have a7:k<ops.size:=(θ.1 h0).1;simp only[Ξ,rr,ρ]at hB;obtain⟨⟨hr,hf⟩,ar⟩:=hB;have M:k∈Region.ready md ops listed:=by simpa using hr
   obtain⟨e,hy,hK⟩:=h;have X:k<m:=by simp at hk;omega
   refine Dq hw X h0 l.length listed J hc (fun j I N ad a1 ai aj=>O k j o I h0 N (Ne.symm ad) X a1 (Region.free_spec h0 hf j I N ad ai fun e he hb heq=>?_) ⟨tZ hc M ai,aj⟩) M hy
    (yP hw O l (k+1) _ _ (by simp at hk;omega) (fun j hj=>by have:=hl (j+1) (by simpa using hj);simpa[Nat.add_assoc,Nat.add_comm 1 j]using this) (hc.add M) (by simpa using hs) (fun j hj=>?_) (fun j hj U=>?_) ar hK)
   ·have h3:=z7 aj (θ.1 N).1
    grind[DG]
   ·rcases Nat.lt_succ_iff_lt_or_eq.1 hj with a6|rfl
    ·exact getD_set_true (h1 j a6)
    ·simp_all
   ·rw[getD_set_ne true (by omega)]
    grind
end
/-! ### what a renumbering leaves as it is -/
mutual
theorem xq{o o'}(h:∀g,pos o g=some g->pos o' g=some g):∀a,cV o a=a->cV o' a=a
 |.own g es,e=>by grind[cV,pos]
 |.ptr g off,e=>by grind[cV,pos]
 |.xs g es,e=>by grind[cV,pos]
 |.xp g i off l,e=>by grind[cV,pos]
 |.mp g es,e=>by grind[cV,pos]
 |.mq g es,e=>by grind[cV,pos]
 |.mo g es hole J,e=>by grind[cV,pos]
 |.lk g n c v,e=>by grind[cV,pos]
 |.gi g I,e=>by grind[cV,pos]
 |.ow g es v,e=>by grind[cV,pos]
 |.sb g n c,e=>by grind[cV,pos]
 |.np g T u,e=>by grind[cV,pos]
 |.bf g T s,e=>by grind[cV,pos]
 |.agg l,e=>by simp only[cV,A.agg.injEq]at e⊢;exact mz h l e
 |.tup l,e=>by simp only[cV,A.tup.injEq]at e⊢;exact mz h l e
 |.row l,e=>by simp only[cV,A.row.injEq]at e⊢;exact mz h l e
 |.clo f l,e=>by simp only[cV,A.clo.injEq,true_and]at e⊢;exact mz h l e
 |.bnd f l,e=>by simp only[cV,A.bnd.injEq,true_and]at e⊢;exact mz h l e
 |.d _,_=>rfl
 |.ag _,_=>rfl
 |.rowd _,_=>rfl
 |.ni,_=>rfl
 |.fl _,_=>rfl
 |.any,_=>rfl
theorem mz{o o'}(h:∀g,pos o g=some g->pos o' g=some g):∀l,ia o l=l->ia o' l=l
 |[],_=>rfl
 |a::l,e=>by simp only[ia,List.cons.injEq]at e⊢;exact⟨xq h a e.1,mz h l e.2⟩
end
def CZ(o o':List Nat):Bool:=(List.range o.length).all fun g=>!(pos o g==some g)||pos o' g==some g
theorem C1{o o'}(h:CZ o o'=true)(g)(J:pos o g=some g):pos o' g=some g:=by have I:=(δ.1 (dC J)).1;have:=M'.1 h g (List.mem_range.2 I);grind
end
def xe:D->D
 |.v x=>bif isNil (.d (.v x))then .sl []else .v x
 |.sl es=>.sl es
theorem b7.xe{v d}(h:b7 w pv v d):b7 w pv v (Ab.xe d):=by
 cases d with
 |v x=>exact h.qi
 |sl es=>exact h
def oD:A->A
 |.d x=>.d (xe x)
 |.ag l=>.ag (l.map xe)
 |a=>a
theorem bG.oD{v}(h:bG E v a):bG E v (Ab.oD a):=by
 cases a with
 |d x=>cases h with|d hd=>exact .d hd.xe
 |ag l=>
   cases h with
   |ag vs _ hs hd=>refine .ag vs _ (by simpa using hs) (fun i u x hu I=>?_);rw[τ,χ]at I;obtain⟨y,J,rfl⟩:=I;exact(hd i u y hu J).xe
 |_=>exact h
section
variable{n:Nat}{bx:List (Nat×List A)}{gen:Nat}
theorem mH(s:Nat){l}(hl:look f s=some a)(I:Nat.blt s n=true)(J:Ab.oD a=a')(h:WO P C n ops Q l ⟨(s,a')::f,bx,lv,gen⟩):WO P C n ops Q l ⟨f,bx,lv,gen⟩:=by subst J;intro tmps w ⟨G,hs⟩;obtain⟨v,M,N⟩:=hs.frame s _ hl;refine h tmps w ⟨G,?_⟩;have:=hs.set (d:=s) (κ I) N.oD;rwa[gh M]at this
end
structure kW where
 bxF:Nat->List (Nat×List A)
 bxT:Nat->List (Nat×List A)
 lv:Nat->List Nat
 gen:Nat->Nat
 ord:Nat->List Nat
 g0:Nat
 z:List A
 cs:List Nat
 al:Nat
 R:List PanicEntry->Prop
def kW.bx (S:kW) (k:Nat) (b:Bool):List (Nat×List A):=bif b then S.bxT k else S.bxF k
abbrev GF(fQ:List (List (Nat×List A)))(lvs:List (List Nat))(gens:List Nat)(cs:List Nat)(al:Nat):kW:=⟨fun _=>[],fun k=>fQ.getD k [],fun k=>lvs.getD k [],fun k=>gens.getD k 0,fun _=>[],0,[],cs,al,fun _=>False⟩
abbrev CO(fQ:List (List (Nat×List A)))(lvs:List (List Nat))(gens:List Nat)(cs:List Nat)(al:Nat)(v:Value):kW:=⟨fun _=>[],fun k=>fQ.getD k [],fun k=>lvs.getD k [],fun k=>gens.getD k 0,fun _=>[],0,[],cs,al,fun c=>c=[{v:=v,recovered:=false}]⟩
def jh(S:kW)(ops:Array Oper)(i k:Nat)(b:Bool):Bool:=
 ((List.range S.cs.length).all fun j=>bif Nat.blt j k then !eR .any ops ops.size (S.cs.getD j 0) i else !eR .any ops ops.size i (S.cs.getD j 0))&&
 (bif b then !eR .any ops ops.size S.al i else(Nat.blt S.al ops.size&&!eR .any ops ops.size i S.al))
theorem Pu.oD{n}(h:Pu P C n st o a)(e:Ab.oD a=a'):Pu P C n st o a':=fun G tmps w hs=>by subst e;exact(h G tmps w hs).mono fun v w'⟨h1,h2⟩=>⟨h1,h2.oD⟩
theorem bc{S:kW}{b}{p:Prop}(h:jh S ops i k b=true)(I:jh S ops i k b=false:=by kernel_rfl):p:=by rw[h]at I;cases I
section
variable(T:cT P){n:Nat}(S:kW)
abbrev SD:=fB×Nat×Bool
def KL (C:Ctx) (n:Nat) (S:kW) (J:Bool) (I:SD) (act:Act) (w:World):Prop:=
 (J=true→I.2.2=true)∧act.defers=C.ds∧∃ G,gH C n (S.bx I.2.1 I.2.2) (S.lv I.2.1) (S.gen I.2.1) I.1 G act.tmps w∧(I.2.2=false→∀ t a,I.1 t=some a→cV (S.ord I.2.1) a=a)
def Ki (P:Program) (C:Ctx) (n:Nat) (S:kW) (ops:Array Oper) (o:Oper) (a:A) (k:Nat) (b:Bool) (I:fB):Prop:=
 o.guard=none∧∃ p,(∀ t x,look p t=some x→I t=some x∧t∈o.looksAt ops) ∧
  ∀ g,WO P C n ops (fun e st=>(e=.normal∧st=St.put ⟨p++g,S.bx (k+1) b,S.lv (k+1),S.gen (k+1)⟩ o.dst a)∨∃ c,e=.panic c∧S.R c) [o] ⟨p++g,S.bx k b,S.lv k,S.gen k⟩
def YD (P:Program) (T:cT P) (C:Ctx) (n:Nat) (S:kW) (ops:Array Oper) (i:Nat) (a:A) (I:SD):Prop:=
 ∃ o,ops[i]? = some o∧gZ n o.dst=true∧I.2.1≤S.cs.length∧jh S ops i I.2.1 I.2.2=true ∧
   ((S.cs[I.2.1]? = some i∧i≠S.al∧(∀ b,jh S ops i I.2.1 b=true→Ki P C n S ops o a I.2.1 b I.1)∧(jh S ops i I.2.1 false=true→cV (S.ord (I.2.1+1)) a=a)) ∨
    (i∉S.cs∧i=S.al∧I.2.2=false∧o.guard=none∧a=.ptr S.g0 0∧∃ e d J,o.op=.alloc e∧o.dst=some d∧bk T.l e=some J∧S.z=J.z.map fun v=>A.d (.v v)) ∨
    (i∉S.cs∧i≠S.al∧∀ k b,k≤S.cs.length→jh S ops i k b=true→YA P C n (S.bx k b) (S.lv k) (S.gen k) ops o a I.1∧(b=false→cV (S.ord k) a=a)))
def BQ(S:kW)(ops:Array Oper)(i:Nat)(a:A)(I:SD):SD:=
 match ops[i]?with
 |none=>I
 |some o=>(dd I.1 o.dst a,(if S.cs[I.2.1]?=some i then I.2.1+1 else I.2.1),if i=S.al then true else I.2.2)
variable{T}{S}
theorem tT{o:Oper}{a:A}{k:Nat}{b:Bool}{J:fB}{dst:Option Nat}{x:A}(hd:∀d,dst=some d->d∉o.looksAt ops):Ki P C n S ops o a k b (dd J dst x)↔Ki P C n S ops o a k b J:=by
 constructor
 ·rintro⟨h0,p,h1,h2⟩
  exact⟨h0,p,fun t y I=>⟨(jj hd (h1 t y I).2).symm.trans (h1 t y I).1,(h1 t y I).2⟩,h2⟩
 ·rintro⟨h0,p,h1,h2⟩
  exact⟨h0,p,fun t y I=>⟨(jj hd (h1 t y I).2).trans (h1 t y I).1,(h1 t y I).2⟩,h2⟩
theorem zH{c b}(h:S.cs[k]?=some c)(hl:loose .any ops i c):jh S ops i (k+1) b=jh S ops i k b:=by
 unfold jh;congr 1;rw[Bool.eq_iff_iff,M',M'];have I:S.cs.getD k 0=c:=by simp[List.getD_eq_getElem?_getD,h]
 have key:∀j,(bif Nat.blt j (k+1)then !eR .any ops ops.size (S.cs.getD j 0) i else !eR .any ops ops.size i (S.cs.getD j 0))=(bif Nat.blt j k then !eR .any ops ops.size (S.cs.getD j 0) i else !eR .any ops ops.size i (S.cs.getD j 0)):=fun j=>by
  rcases Nat.lt_trichotomy j k with hj|rfl|hj
  ·grind[Nat.blt,Nat.blt_eq]
  ·have h1:Nat.blt j (j+1)=true:=by simp[Nat.blt_eq]
   have h2:Nat.blt j j=false:=by cases q:Nat.blt j j with|false=>rfl|true=>simp[Nat.blt_eq]at q
   rw[h1,h2,I,hl.1,hl.2];rfl
  ·grind[Nat.blt,Nat.blt_eq]
 grind
theorem wx(I:S.al<ops.size)(hl:loose .any ops i S.al):jh S ops i k true=jh S ops i k false:=by
 unfold jh;have h:Nat.blt S.al ops.size=true:=by rw[Nat.blt_eq];exact I
 rw[hl.1,hl.2,h];rfl
theorem loose.symm{md:Region.Mode}(h:loose md ops i j):loose md ops j i:=⟨h.2,h.1⟩
theorem la(h:ops[i]?=some o)(a)(I:SD):BQ S ops i a I=(dd I.1 o.dst a,(if S.cs[I.2.1]?=some i then I.2.1+1 else I.2.1),if i=S.al then true else I.2.2):=by unfold BQ;rw[h]
theorem AN{c b}(h:S.cs[k]?=some c)(hl:loose .any ops i c)(I:jh S ops i (k+1) b=true):jh S ops i k b=true:=by rw[<-zH h hl];exact I
theorem zh{c b}(h:S.cs[k]?=some c)(hl:loose .any ops i c)(I:jh S ops i k b=true):jh S ops i (k+1) b=true:=by rw[zH h hl];exact I
theorem Lv(cy:∀k c c',S.cs[k]?=some c->S.cs[k+1]?=some c'->eR .any ops ops.size c' c=true){i j:Nat}{oi oj:Oper}(hi:ops[i]?=some oi)(hj:ops[j]?=some oj)(c1:i≠j)(c6:oi.apart ops oj=true)(hl:loose .any ops i j):
 sK (YD P T C n S ops) (BQ S ops) i j:=by
 obtain⟨a1,a2,a3⟩:=Oper.apart_spec c6;rintro a b ⟨φ,k,ph⟩ ⟨c7,b2,di,X,ai,b3⟩ ⟨df,ch,dj,a7,aj,ad⟩;rw[hi]at b2;cases b2;rw[hj]at ch;cases ch;have O:dd (dd φ oi.dst a) oj.dst b=dd (dd φ oj.dst b) oi.dst a:=pL φ a b a2;have mem_of:∀{k c:Nat},S.cs[k]?=some c->c∈S.cs:=fun h=>ζ h;have cl:∀{k c:Nat},S.cs[k]?=some c->k+1<=S.cs.length:=fun h=>(δ.1 h).1;rw[la hi]at aj ad a7;simp only[la hi,la hj];simp only at X ai b3 a7 aj ad;rcases b3 with⟨ci,M,xi,fi⟩|⟨U,ar,rfl,gi,ei,cq⟩|⟨U,M,yi⟩
 ·
  simp only[if_pos ci,if_neg M]at aj ad a7;rcases ad with⟨cj,_⟩|⟨J,N,rfl,gj,ej,a8⟩|⟨J,I,yj⟩
  ·exact absurd (cy k i j ci cj) (by rw[hl.2];simp)
  ·have b0:loose .any ops i S.al:=by rw[<-N];exact hl
   have a6:S.al<ops.size:=by rw[<-N];exact(θ.1 hj).1
   have n1:¬S.cs[k]?=some j:=fun h=>J (mem_of h);refine⟨⟨oj,hj,dj,X,AN ci hl.symm aj,.inr (.inl ⟨J,N,rfl,gj,ej,a8⟩)⟩,?_,?_⟩
   ·refine⟨oi,hi,di,?_,?_,.inl ⟨?_,M,fun b hb=>(tT a3).2 ?_,?_⟩⟩
    all_goals simp only[if_neg n1]
    ·exact X
    ·rw[if_pos N,wx a6 b0];exact ai
    ·exact ci
    ·simp only[if_neg n1]at hb
     exact xi b hb
    ·exact fi
   ·simp only[if_pos ci,if_neg M,if_pos N,if_neg n1,O]
    have n2:¬S.cs[k+1]?=some j:=fun h=>J (mem_of h);rw[if_neg n2]
  ·have n1:¬S.cs[k]?=some j:=fun h=>J (mem_of h)
   have n2:¬S.cs[k+1]?=some j:=fun h=>J (mem_of h);refine⟨⟨oj,hj,dj,X,AN ci hl.symm aj,.inr (.inr ⟨J,I,fun k b h1 h2=>⟨(gO a1).1 (yj k b h1 h2).1,(yj k b h1 h2).2⟩⟩)⟩,?_,?_⟩
   ·refine⟨oi,hi,di,?_,?_,.inl ⟨?_,M,fun b hb=>(tT a3).2 ?_,?_⟩⟩
    all_goals simp only[if_neg n1]
    ·exact X
    ·rw[if_neg I];exact ai
    ·exact ci
    ·simp only[if_neg n1]at hb
     exact xi b hb
    ·exact fi
   ·simp only[if_pos ci,if_neg M,if_neg I,if_neg n1,if_neg n2,O]
 ·
  have n1:¬S.cs[k]?=some i:=fun h=>U (mem_of h);simp only[if_neg n1,if_pos ar]at aj ad a7;have cx:loose .any ops j S.al:=by rw[<-ar];exact hl.symm
  have a6:S.al<ops.size:=by rw[<-ar];exact(θ.1 hi).1
  rcases ad with⟨cj,I,xj,fj⟩|⟨_,N,h,_⟩|⟨J,I,yj⟩
  ·have n2:¬S.cs[k+1]?=some i:=fun h=>U (mem_of h)
   refine⟨⟨oj,hj,dj,X,by rw[<-wx a6 cx];exact aj,.inl ⟨cj,I,fun b hb=>(tT a1).1 (xj b hb),fj⟩⟩,?_,?_⟩
   ·refine⟨oi,hi,di,?_,?_,.inr (.inl ⟨U,ar,?_,gi,ei,cq⟩)⟩
    all_goals simp only[if_pos cj,if_neg I]
    ·exact cl cj
    ·exact zh cj hl ai
   ·simp only[if_neg n1,if_pos ar,if_pos cj,if_neg I,if_neg n2,O]
  ·exact absurd (ar.trans N.symm) c1
  ·have n3:¬S.cs[k]?=some j:=fun h=>J (mem_of h)
   refine⟨⟨oj,hj,dj,X,by rw[<-wx a6 cx];exact aj,.inr (.inr ⟨J,I,fun k b h1 h2=>⟨(gO a1).1 (yj k b h1 h2).1,(yj k b h1 h2).2⟩⟩)⟩,?_,?_⟩
   ·refine⟨oi,hi,di,?_,?_,.inr (.inl ⟨U,ar,?_,gi,ei,cq⟩)⟩
    all_goals simp only[if_neg n3,if_neg I]
    ·exact X
    ·exact ai
   ·simp only[if_neg n1,if_pos ar,if_neg n3,if_neg I,O]
 ·
  have n1:¬S.cs[k]?=some i:=fun h=>U (mem_of h);simp only[if_neg n1,if_neg M]at aj ad a7;rcases ad with⟨cj,I,xj,fj⟩|⟨J,N,rfl,gj,ej,a8⟩|⟨J,I,yj⟩
  ·have n2:¬S.cs[k+1]?=some i:=fun h=>U (mem_of h)
   refine⟨⟨oj,hj,dj,X,aj,.inl ⟨cj,I,fun b hb=>(tT a1).1 (xj b hb),fj⟩⟩,?_,?_⟩
   ·refine⟨oi,hi,di,?_,?_,.inr (.inr ⟨U,M,fun k b h1 h2=>⟨(gO a3).2 (yi k b h1 h2).1,(yi k b h1 h2).2⟩⟩)⟩
    all_goals simp only[if_pos cj,if_neg I]
    ·exact cl cj
    ·exact zh cj hl ai
   ·simp only[if_neg n1,if_neg M,if_pos cj,if_neg I,if_neg n2,O]
  ·have n3:¬S.cs[k]?=some j:=fun h=>J (mem_of h)
   have b0:loose .any ops i S.al:=by rw[<-N];exact hl
   have a6:S.al<ops.size:=by rw[<-N];exact(θ.1 hj).1
   refine⟨⟨oj,hj,dj,X,aj,.inr (.inl ⟨J,N,rfl,gj,ej,a8⟩)⟩,?_,?_⟩
   ·refine⟨oi,hi,di,?_,?_,.inr (.inr ⟨U,M,fun k b h1 h2=>⟨(gO a3).2 (yi k b h1 h2).1,(yi k b h1 h2).2⟩⟩)⟩
    all_goals simp only[if_neg n3,if_pos N]
    ·exact X
    ·rw[wx a6 b0];exact ai
   ·simp only[if_neg n1,if_neg M,if_neg n3,if_pos N,O]
  ·have n3:¬S.cs[k]?=some j:=fun h=>J (mem_of h)
   refine⟨⟨oj,hj,dj,X,aj,.inr (.inr ⟨J,I,fun k b h1 h2=>⟨(gO a1).1 (yj k b h1 h2).1,(yj k b h1 h2).2⟩⟩)⟩,?_,?_⟩
   ·refine⟨oi,hi,di,?_,?_,.inr (.inr ⟨U,M,fun k b h1 h2=>⟨(gO a3).2 (yi k b h1 h2).1,(yi k b h1 h2).2⟩⟩)⟩
    all_goals simp only[if_neg n3,if_neg I]
    ·exact X
    ·exact ai
   ·simp only[if_neg n1,if_neg M,if_neg n3,if_neg I,O]
theorem WO.C9(U:o.guard=none){I J}(hl:∀e st,I e st->e≠.outgrown)(M:∀e st,I e st->J e st)(h:WO P C n ops I [o] st):WO P C n ops J [o] st:=by
 intro tmps w hs;have hw:Region.wanted o (yielded ops tmps)=true:=by simp[Region.wanted,U]
 have h:=h tmps w hs;simp only[fW,hw,if_true]at h⊢;refine Oper.yp (fun c a w⟨h1,st',h2,h3⟩=>⟨h1,st',h2,M _ _ h3⟩) (fun N=>by obtain⟨_,_,O⟩:=N;obtain⟨_,st',_,he⟩:=O;exact hl _ _ he Z) (fun X w2⟨h1,st',h2,h3⟩=>⟨h1,st',h2,M _ _ h3⟩) h
theorem WO.JH(O:o.guard=none){J:St}{R:List PanicEntry->Prop}(hR:∀c act w,R c->act.defers=C.ds->(∃st,gA C n st act.tmps w)->Q' (.panic c) act w)(h:WO P C n ops (fun e st=>(e=.normal∧st=J)∨∃c,e=.panic c∧R c) [o] st)(hs:bq C n st G tmps w):
 o.wp P ⟨tmps,C.ds⟩ w (fun act w=>act.defers=C.ds∧∃G,bq C n J G act.tmps w) Q':=by
 have hw:Region.wanted o (yielded ops tmps)=true:=by simp[Region.wanted,O]
 have h:=h tmps w ⟨G,hs⟩;simp only[fW,hw,if_true]at h;refine Oper.yp (fun c a w I=>?_) (fun hl=>?_) (fun U w2 I=>?_) h
 ·obtain⟨h1,st',h2,he|⟨M,he,N⟩⟩:=I
  ·grind
  ·grind
 ·obtain⟨_,_,I⟩:=hl
  obtain⟨_,st',_,he|⟨M,he,N⟩⟩:=I;·grind
  ·grind
 ·obtain⟨X,st',⟨G',ad⟩,he|⟨M,he,N⟩⟩:=I
  ·grind
  ·grind
theorem BU{bx gen}{I:fB}(hs:gH C n bx lv gen I G tmps w)(t x)(J:I t=some x):t<n:=by obtain⟨v,h1,_⟩:=hs.2 t x J;have:=(θ.1 h1).1;rw[hs.1.size]at this;grind
theorem y5{I:fB}{p}(J:∀t x,I t=some x->t<n)(hp:∀t x,look p t=some x->I t=some x)(t):look (p++ir n I) t=I t:=by
 rw[uJ]
 cases q:look p t with
 |some x=>exact(hp t x q).symm
 |none=>
   simp only;unfold ir;rw[pt]
   cases e:I t with
   |none=>split<;>rfl
   |some x=>rw[if_pos (List.mem_range.2 (J t x e))]
theorem xV{I:fB}(h:∀t,look f t=I t):look ((d,a)::f) t=dd I (some d) a t:=by grind[cv,dd]
def HF(S:kW)(I k:Nat):Prop:=(lV (S.ord k) (S.gen k) I=true∧pos (S.ord k) (S.gen k)=some S.g0)∧kL (S.ord k) ((S.gen k,S.z)::S.bxF k) (S.bxT k)∧uo (S.ord k) (S.lv k) (S.lv k)=true
def wj(S:kW)(I:Nat):Nat->Prop
 |0=>HF S I 0
 |k+1=>HF S I (k+1)∧CZ (S.ord k) (S.ord (k+1))=true∧wj S I k
theorem wj.at{I}:∀{m:Nat},wj S I m->∀k,k<=m->HF S I k
 |0,h,k,J=>by
   obtain rfl:k=0:=by omega
   exact h
 |m+1,h,k,J=>by
   rcases V' k (m+1)with M|N
   ·exact wj.at h.2.2 k (by omega)
   ·obtain rfl:k=m+1:=by omega
    exact h.1
theorem wj.mono{M}:∀{m:Nat},wj S M m->∀k,k<m->CZ (S.ord k) (S.ord (k+1))=true
 |0,_,k,I=>absurd I (Nat.not_lt_zero _)
 |m+1,h,k,I=>by
   rcases V' k m with J|N
   ·exact wj.mono h.2.2 k J
   ·obtain rfl:k=m:=by omega
    exact h.2.1
theorem KG {nb:Nat} [hnb:NB C nb] (b0:Bool) (hok:b0=false→wj S nb S.cs.length) (i:Nat) (a:A) (σ:SD) (act:Act) (w:World) (K:Act→World→Prop) {Q':Exit→Act→World→Prop} (hR:∀ c act w,S.R c→act.defers=C.ds→(∃ st,gA C n st act.tmps w)→Q' (.panic c) act w) (hs:KL C n S b0 σ act w) (hy:YD P T C n S ops i a σ) (hK:∀ act w,KL C n S b0 (BQ S ops i a σ) act w→K act w):wpOp P ops Q' i K act w:=by
 obtain⟨tmps,dj⟩:=act;obtain⟨ai,rfl,G,hs,X⟩:=hs;obtain⟨O,k,ph⟩:=σ;obtain⟨o,ho,hd,a1,aj,hy⟩:=hy;rw[la ho] at hK;simp only at hs X a1 aj hy hK ai;unfold wpOp;simp only[ho];rcases hy with ⟨hc,a6,I,hr⟩ | ⟨nc,cj,rfl,hg,rfl,e,d,dt,cq,J,he,hz⟩ | ⟨nc,a6,a7⟩
 ·obtain⟨hg,p,hp,I⟩:=I ph aj
  rw[if_pos hc,if_neg a6] at hK;have hw:Region.wanted o (yielded ops tmps)=true:=by simp[Region.wanted,hg]
  rw[hw,if_pos rfl];refine .inl ?_;have M:=y5 (BU hs) (fun t x I=>(hp t x I).1);have a8:=hs.oT (f:=p++ir n O) fun t x I=>by rw[←M];exact I
  refine Oper.wp_mono (fun ad w2 ⟨b2,G',U⟩=>hK ad w2 ⟨ai,b2,G',?_,fun N t x I=>?_⟩) (WO.JH hg hR (I (ir n O)) a8)
  ·show gH C n (S.bx (k+1) ph) (S.lv (k+1)) (S.gen (k+1)) (dd O o.dst a) G' ad.tmps w2
   cases J:o.dst with
   | none=>rw[J] at U;refine⟨{ U with frame:=fun t a ha=>by simp[look] at ha },fun t x I=>U.frame t x ?_⟩;show look (p++ir n O) t=some x;rw[M];exact I
   | some d=>rw[J] at U;refine⟨{ U with frame:=fun t a ha=>by simp[look] at ha },fun t x I=>U.frame t x ?_⟩;show look ((d,a)::(p++ir n O)) t=some x;rw[xV M];exact I
  ·simp only at N I
   have b3:b0=false:=by cases b0 with | false=>rfl | true=>rw[ai rfl] at N;cases N
   have hm:=C1 ((hok b3).mono k (δ.1 hc).1)
   cases J:o.dst with
   | none=>rw[J] at I;exact xq hm x (X N t x I)
   | some d=>
     rw[J] at I;simp only[dd] at I;split at I;·cases I;exact hr (by rw[←N];exact aj)
     ·exact xq hm x (X N t x I)
 ·have ch:¬ S.cs[k]? = some i:=fun h=>nc (ζ h)
  rw[if_neg ch,if_pos cj] at hK;have hw:Region.wanted o (yielded ops tmps)=true:=by simp[Region.wanted,hg]
  rw[hw,if_pos rfl];refine .inl ?_;have b3:b0=false:=by cases b0 with | false=>rfl | true=>cases ai rfl
  obtain⟨⟨hO,cl⟩,cx,cy⟩:=(hok b3).at k a1;have M:∀ t,look (ir n O) t=O t:=y5 (p:=[]) (BU hs) (fun t x I=>by simp[look] at I);have a8:=hs.oT (f:=ir n O) fun t x I=>by rw[←M];exact I
  have c1:WO P C n ops (fun e st=>(e=.normal∧st=St.put ⟨ir n O,(S.gen k,S.z)::S.bx k false,S.lv k,S.gen k+1⟩ o.dst (.ptr (S.gen k) 0))∨∃ c,e=.panic c∧False) [o] ⟨ir n O,S.bx k false,S.lv k,S.gen k⟩:=
   WO.alloc T hg hd cq he (ab (.inl ⟨rfl,by rw[hz]⟩))
  refine Oper.wp_mono (fun ad w2 ⟨b2,G',U⟩=>hK ad w2 ⟨fun _=>rfl,b2,qc (S.ord k) G',?_,fun h=>by cases h⟩) (WO.JH (R:=fun _=>False) hg (fun _ _ _ h=>h.elim) c1 a8);simp only[lV,ρ] at hO;obtain⟨⟨c6,c7⟩,df⟩:=hO;rw[J] at U ⊢;have h3:bq C n ⟨(d,.ptr S.g0 0)::ir n O,S.bxT k,S.lv k,S.gen k⟩ (qc (S.ord k) G') ad.tmps w2:=by
   refine bq.cV (gen':=S.gen k) U (S.ord k) (fM c6) (κ c7) (fun i hi=>?_) (fun t x I=>?_) (fun i l' di=>?_) (fun i hi=>?_)
   ·have h4:=ss df i (by rw[←hnb.h];exact hi)
    simpa using h4
   ·rw[cv] at I
    show ∃ a,look ((d,.ptr (S.gen k) 0)::ir n O) t=some a∧cV (S.ord k) a=x;rw[cv];split at I
    ·rename_i e
     rw[if_pos e];cases I;exact⟨_,rfl,by simp only[cV,cl]⟩
    ·rename_i e
     rw[if_neg e];rw[M] at I ⊢;exact⟨x,I,X rfl t x I⟩
   ·exact kL.le cx i l' di
   ·exact wK cy i hi
  refine⟨{ h3 with frame:=fun t a ha=>by simp[look] at ha },fun t x I=>h3.frame t x ?_⟩;show look ((d,_)::ir n O) t=some x;rw[xV M];exact I
 ·have ch:¬ S.cs[k]? = some i:=fun h=>nc (ζ h)
  rw[if_neg ch,if_neg a6] at hK;obtain⟨a7,hr⟩:=a7 k ph a1 aj;have ar:ph=false→∀ t x,dd O o.dst a t=some x→cV (S.ord k) x=x:=fun N t x I=>by
   cases J:o.dst with
   | none=>rw[J] at I;exact X N t x I
   | some d=>
     rw[J] at I;simp only[dd] at I;split at I;·cases I;exact hr N
     ·exact X N t x I
  obtain⟨_,⟨hw,f,hf,hp⟩ | ⟨hw,rfl⟩⟩:=a7
  ·rw[jE hs hw]
   simp only[if_true];refine .inl ?_;have hg:eB P o ⟨tmps,[]⟩ w fun v w'=>Below w.heap.size w w'∧bG (br C G (S.gen k) w') v a:=hp G tmps w (hs.oT fun t x I=>(hf t x I).1);refine hg.ds.wp fun v w' ⟨hb,hr⟩=>?_;rw[Act.j6];exact hK _ _ ⟨ai,rfl,G,hs.step hb hd hr,ar⟩
  ·rw[jE hs hw]
   simp only[N',if_false];rw[Act.j6];exact hK _ _ ⟨ai,rfl,G,hs.step (Below.refl _ _) hd (.tup #[] [] rfl (by simp)),ar⟩
def CD(P:Program)(T:cT P)(C:Ctx)(n:Nat)(S:kW)(ops:Array Oper)(Q:St->Prop)(l:List Oper)(i:Nat)(f:List (Nat×A))(k:Nat)(b:Bool):Prop:=
 E4 (YD P T C n S ops) (BQ S ops) (fun I=>∃f',(∀t,look f' t=I.1 t)∧I.2=(S.cs.length,true)∧Q ⟨f',S.bxT S.cs.length,S.lv S.cs.length,S.gen S.cs.length⟩) l i (look f,k,b)
def mb(ops:Array Oper):List Nat->Bool
 |c::I::r=>eR .any ops ops.size I c&&mb ops (I::r)
 |_=>true
theorem ub:∀{cs:List Nat},mb ops cs=true->∀k c I,cs[k]?=some c->cs[k+1]?=some I->eR .any ops ops.size I c=true
 |[],_,k,c,I,h,_=>by simp at h
 |[_],_,k,c,I,_,h=>by simp at h
 |x::y::r,h,k,c,I,h1,h2=>by
   simp only[mb,ρ]at h
   cases k with
   |zero=>grind
   |succ k=>exact ub h.2 k c I (by simpa using h1) (by simpa using h2)
def wa(o:List Nat):List (Nat×A)->Prop
 |[]=>True
 |(_,a)::r=>cV o a=a∧wa o r
theorem wa.at{o}:∀{f:List (Nat×A)},wa o f->∀t a,look f t=some a->cV o a=a
 |[],_,t,a,h=>by simp[look]at h
 |(s,x)::r,hf,t,a,h=>by
   rw[cv]at h;split at h;·cases h;exact hf.1
   ·exact hf.2.at t a h
theorem W.pZ (T:cT P) {nb:Nat} [hnb:NB C nb] {id:Nat} {l l1 l2:List Oper} {f:List (Nat×A)} {bx:List (Nat×List A)} {lv:List Nat} {gen:Nat} {Q:Exit→St→Prop} (S:kW) (I:Bool) (m:Nat) (hB:jc m l.toArray=true) (ai:mb l.toArray S.cs=true) (h1:l.take m=l1) (h2:l.drop m=l2)
 (hR:∀ c st,S.R c→Q (.panic c) st) (hok:I=false→wj S nb S.cs.length∧wa (S.ord 0) f) (e1:∀ g c,bk (S.bx 0 I) g=some c→bk bx g=some c) (e2:S.lv 0=lv) (e3:Nat.ble gen (S.gen 0)=true)
 (h:CD P T C n S l.toArray (WO P C n l.toArray Q l2) l1 0 f 0 I):W P C n (.region id l.toArray true) Q ⟨f,bx,lv,gen⟩:=by
 subst h1;subst h2;subst e2;intro tmps w ⟨G,hs⟩;have hs:bq C n ⟨f,bx,S.lv 0,S.gen 0⟩ G tmps w:=bq.later hs (g:=S.gen 0) (κ e3);have hs:bq C n ⟨f,S.bx 0 I,S.lv 0,S.gen 0⟩ G tmps w:={ hs with box:=fun g c J=>hs.box g c (e1 g c J) };simp only[jc,ρ] at hB;obtain⟨⟨⟨hm,hw⟩,U⟩,M⟩:=hB;have hm:m≤l.length:=by simpa using κ hm
 have hb:Below w.heap.size w { w with drawn:=w.drawn+1 }:=(Below.refl _ w).drew;have aj:gH C n (S.bx 0 I) (S.lv 0) (S.gen 0) (look f) G tmps { w with drawn:=w.drawn+1 }:=gH.DJ (hs.je hb).2;have hlen:(l.take m).length=m:=by simp;omega
 refine wp_region_any T.mixed ?_;have X:l.toArray.size=(l.take m).length+(l.drop m).length:=by simp;omega
 rw[X];have ad:iE .any l.toArray (Array.replicate ((l.take m).length+(l.drop m).length) false):=fun j oj _ hl _ _ _=>by
  by_cases q:j < (l.take m).length+(l.drop m).length
  ·simp only[Array.getD_eq_getD_getElem?,Array.getElem?_replicate] at hl
   rw[if_pos q] at hl;cases hl
  ·simp only[Array.getD_eq_getD_getElem?,Array.getElem?_replicate] at hl
   rw[if_neg q] at hl;cases hl
 refine qN (m:=m) (Sm:=KL C n S I) (Y:=YD P T C n S l.toArray) (ef:=BQ S l.toArray) (Q:=fun N=>∃ f',(∀ t,look f' t=N.1 t)∧N.2=(S.cs.length,true)∧WO P C n l.toArray Q (l.drop m) ⟨f',S.bxT S.cs.length,S.lv S.cs.length,S.gen S.cs.length⟩)
  (fun i e N act w K hs hy hk=>KG I (fun h=>(hok h).1) i e N act w K (fun c act w J hd ⟨st,hs⟩=>⟨hd,st,hs,hR c st J⟩) hs hy hk) (fun listed N act w hs J O ⟨f',e1,e2,hq⟩=>?_) _ _ (look f,0,I) ⟨tmps,C.ds⟩ _ ⟨fun h=>h,rfl,G,aj,fun h=>(hok h).2.at⟩ ad ?_
 ·obtain⟨tmps,a8⟩:=act
  obtain⟨_,rfl,G,hs,_⟩:=hs;rw[e2] at hs;refine qj hw (rp U) (l.drop m) m listed ⟨tmps,C.ds⟩ w (ω _) (by simp;omega) (fun j=>by simp[List.getElem?_drop]) J O.1 O.2.1 O.2.2 ?_;exact hq tmps w ⟨G,hs.oT (fun t a ha=>by rw[←e1];exact ha)⟩
 ·refine yP hw (fun i j oi oj hi hj ar b2 b3 a1 a6=>Lv (ub ai) hi hj ar a1 a6) (l.take m) 0 _ _ (by rw[hlen];omega) (fun j hj=>?_) ad (by simp;omega) (fun j hj=>by omega) (fun j _ hj=>?_) (by rw[hlen];rw[X,hlen] at M;exact M) h
  ·rw[hlen] at hj
   rw[Nat.zero_add];simp[List.getElem?_take,hj]
  ·have a7:j < l.length:=by simpa using hj
   have e:min m l.length+(l.length - m)=l.length:=by omega
   simp[e,a7]
variable{op:Op}{pos:String}{af:Array Edge}{rest:List Oper}{Q:St→Prop}{b:Bool}
theorem ax(h:Q ⟨f,S.bxT S.cs.length,S.lv S.cs.length,S.gen S.cs.length⟩)(I:Nat.beq k S.cs.length=true):CD P T C n S ops Q [] i f k true:=by have:=Θ I;subst this;exact⟨f,fun _=>rfl,rfl,h⟩
def zt(p:Nat->Bool->Prop):Nat->Prop
 |0=>p 0 false∧p 0 true
 |k+1=>p (k+1) false∧p (k+1) true∧zt p k
theorem zt.at{p}:∀{m:Nat},zt p m->∀k b,k<=m->p k b
 |0,h,k,b,I=>by
   obtain rfl:k=0:=by omega
   cases b;·exact h.1
   ·exact h.2
 |m+1,h,k,b,I=>by
   rcases V' k (m+1)with J|M
   ·exact h.2.2.at k b (by omega)
   ·obtain rfl:k=m+1:=by omega
    cases b;·exact h.1
    ·exact h.2.1
def Aw(x:Nat)(l:List Nat):Bool:=l.any fun y=>Nat.beq x y
theorem yM{x l}(h:Aw x l=false):x∉l:=fun hm=>by have:Aw x l=true:=L'.2 ⟨x,hm,by simp⟩;grind
theorem w8 (hp:zt (fun k b=>jh S ops i k b=true→Pu P C n ⟨dm f (slotsOf op),S.bx k b,S.lv k,S.gen k⟩ ⟨some d,op,ty,pos,af,none⟩ a∧(b=false→cV (S.ord k) a=a)) S.cs.length)
 (hi:ops[i]? = some ⟨some d,op,ty,pos,af,none⟩) (h1:Aw i S.cs=false) (h2:Nat.beq i S.al=false) (h3:(Nat.ble k S.cs.length && jh S ops i k b)=true) (hd:Nat.blt d n=true)
 (h:CD P T C n S ops Q rest (i+1) ((d,a)::f) k b):CD P T C n S ops Q (⟨some d,op,ty,pos,af,none⟩::rest) i f k b:=by
 simp only[ρ] at h3;have I:=yM h1;have J:i≠S.al:=fun e=>by subst e;simp at h2
 refine⟨a,⟨_,hi,hd,κ h3.1,h3.2,.inr (.inr ⟨I,J,fun k b M N=>⟨YA.vB (hp.at k b M N).1 hd,(hp.at k b M N).2⟩⟩)⟩,?_⟩;rw[la hi];simp only[if_neg J,if_neg (fun e=>I (ζ e):¬ S.cs[k]? = some i)];grind[CD,gl]
theorem bQ (h0:Pu P C n ⟨dm f (slotsOf op),S.bx k b,S.lv k,S.gen k⟩ ⟨some d,op,ty,pos,af,none⟩ a) (hp:zt (fun k b=>jh S ops i k b=true→Pu P C n ⟨dm f (slotsOf op),S.bx k b,S.lv k,S.gen k⟩ ⟨some d,op,ty,pos,af,none⟩ a∧(b=false→cV (S.ord k) a=a)) S.cs.length)
 (hi:ops[i]? = some ⟨some d,op,ty,pos,af,none⟩) (h1:Aw i S.cs=false) (h2:Nat.beq i S.al=false) (h3:(Nat.ble k S.cs.length && jh S ops i k b)=true) (hd:Nat.blt d n=true)
 (h:CD P T C n S ops Q rest (i+1) ((d,a)::f) k b):CD P T C n S ops Q (⟨some d,op,ty,pos,af,none⟩::rest) i f k b:=w8 hp hi h1 h2 h3 hd h
theorem Kt (I:∀ b,jh S ops i k b=true→∀ g,WO P C n ops (fun e st=>e=.normal∧st=⟨dm f (slotsOf op)++g,S.bx (k+1) b,S.lv (k+1),S.gen (k+1)⟩) [⟨none,op,ty,pos,af,none⟩] ⟨dm f (slotsOf op)++g,S.bx k b,S.lv k,S.gen k⟩)
 (hi:ops[i]? = some ⟨none,op,ty,pos,af,none⟩) (h1:S.cs[k]? = some i) (h2:Nat.beq i S.al=false) (h3:jh S ops i k b=true) (h:CD P T C n S ops Q rest (i+1) f (k+1) b):CD P T C n S ops Q (⟨none,op,ty,pos,af,none⟩::rest) i f k b:=by
 have J:i≠S.al:=fun e=>by subst e;simp at h2
 refine⟨.any,⟨_,hi,rfl,Nat.le_of_lt (δ.1 h1).1,h3,.inl ⟨h1,J,fun b hb=>⟨rfl,dm f (slotsOf op),fun t x I=>?_,fun g=>WO.C9 Z (fun e st h=>by rw[h.1];simp) (fun e st h=>.inl h) (I b hb g)⟩,fun _=>rfl⟩⟩,?_⟩
 ·obtain⟨h1,h2⟩:=fq I
  exact⟨h1,F'.2 (.inl h2)⟩
 ·rw[la hi]
  simp only[if_neg J,if_pos h1];exact h
theorem AM (I:∀ b,jh S ops i k b=true→∀ g,WO P C n ops (fun e st=>e=.normal∧st=⟨(d,a)::(dm f (slotsOf op)++g),S.bx (k+1) b,S.lv (k+1),S.gen (k+1)⟩) [⟨some d,op,ty,pos,af,none⟩] ⟨dm f (slotsOf op)++g,S.bx k b,S.lv k,S.gen k⟩)
 (hi:ops[i]? = some ⟨some d,op,ty,pos,af,none⟩) (h1:S.cs[k]? = some i) (h2:Nat.beq i S.al=false) (h3:jh S ops i k b=true) (J:jh S ops i k false=true→cV (S.ord (k+1)) a=a) (hd:Nat.blt d n=true) (h:CD P T C n S ops Q rest (i+1) ((d,a)::f) (k+1) b):CD P T C n S ops Q (⟨some d,op,ty,pos,af,none⟩::rest) i f k b:=by
 have M:i≠S.al:=fun e=>by subst e;simp at h2
 refine⟨a,⟨_,hi,hd,Nat.le_of_lt (δ.1 h1).1,h3,.inl ⟨h1,M,fun b hb=>⟨rfl,dm f (slotsOf op),fun t x I=>?_,fun g=>WO.C9 Z (fun e st h=>by rw[h.1];simp) (fun e st h=>.inl h) (I b hb g)⟩,J⟩⟩,?_⟩
 ·obtain⟨h1,h2⟩:=fq I
  exact⟨h1,F'.2 (.inl h2)⟩
 ·rw[la hi]
  grind[CD,gl]
theorem LU{e:TypeId}{I:cY}(he:bk T.l e=some I)(N:S.z=I.z.map fun v=>A.d (.v v))(hi:ops[i]?=some ⟨some d,.alloc e,ty,pos,af,none⟩)(h1:Aw i S.cs=false)(h2:Nat.beq i S.al=true)(h3:(Nat.ble k S.cs.length&&jh S ops i k false)=true)(hd:Nat.blt d n=true)
 (h:CD P T C n S ops Q rest (i+1) ((d,.ptr S.g0 0)::f) k true):CD P T C n S ops Q (⟨some d,.alloc e,ty,pos,af,none⟩::rest) i f k false:=by
 simp only[ρ]at h3;have J:=yM h1;have M:i=S.al:=Θ h2;refine⟨.ptr S.g0 0,⟨_,hi,hd,κ h3.1,h3.2,.inr (.inl ⟨J,M,rfl,rfl,rfl,e,d,I,rfl,rfl,he,N⟩)⟩,?_⟩;rw[la hi];simp only[if_pos M,if_neg (fun e=>J (ζ e):¬S.cs[k]?=some i)];grind[CD,gl]
theorem W.ox(T:cT P){N:Nat}[hnb:NB C N]{id:Nat}{l l1 l2:List Oper}{f:List (Nat×A)}{bx:List (Nat×List A)}{lv:List Nat}{gen:Nat}{Q:Exit->St->Prop}(fQ:List (List (Nat×List A)))(J:List (List Nat))(I:List Nat)(cs:List Nat)(m:Nat)(hB:jc m l.toArray=true)(M:mb l.toArray cs=true)(h1:l.take m=l1)(h2:l.drop m=l2)
 (h:CD P T C n (GF (bx::fQ) (lv::J) (gen::I) cs l.length) l.toArray (WO P C n l.toArray Q l2) l1 0 f 0 true):W P C n (.region id l.toArray true) Q ⟨f,bx,lv,gen⟩:=
 W.pZ T (GF (bx::fQ) (lv::J) (gen::I) cs l.length) true m hB M h1 h2 (fun _ _ h=>h.elim) (fun h=>by cases h) (fun _ _ h=>h) rfl (by show Nat.ble gen gen=true;simp) h
abbrev bot:A:=.d (.v (.agg #[]))
theorem J9{v}(h:bG E v bot):False:=by cases h with|d h=>cases h with|v _ h=>exact absurd h (by simp[dn])
theorem Ga{P:Program}{C:Ctx}{n:Nat}{ops:Array Oper}{Q:Exit->St->Prop}{l:List Oper}{st:St}(d:Nat)(h:look st.f d=some bot):WO P C n ops Q l st:=fun _ _⟨_,hs⟩=>by obtain⟨v,_,I⟩:=hs.frame d bot h;grind[J9]
theorem W.Bu(T:cT P){N:Nat}[hnb:NB C N]{id:Nat}{l l1 l2:List Oper}{f:List (Nat×A)}{bx:List (Nat×List A)}{lv:List Nat}{gen:Nat}{Q:Exit->St->Prop}(v:Value)(fQ:List (List (Nat×List A)))(J:List (List Nat))(I:List Nat)(cs:List Nat)(m:Nat)(hB:jc m l.toArray=true)(M:mb l.toArray cs=true)(h1:l.take m=l1)(h2:l.drop m=l2)
 (O:∀st,Q (.panic [{v:=v,recovered:=false}]) st)(h:CD P T C n (CO (bx::fQ) (lv::J) (gen::I) cs l.length v) l.toArray (WO P C n l.toArray Q l2) l1 0 f 0 true):W P C n (.region id l.toArray true) Q ⟨f,bx,lv,gen⟩:=
 W.pZ T (CO (bx::fQ) (lv::J) (gen::I) cs l.length v) true m hB M h1 h2 (fun c st h=>by rw[show c=_ from h];exact O st) (fun h=>by cases h) (fun _ _ h=>h) rfl (by show Nat.ble gen gen=true;simp) h
theorem LC (I:∀ b,jh S ops i k b=true→∀ g,WO P C n ops (fun e _=>∃ c,e=.panic c∧S.R c) [⟨some d,op,ty,pos,af,none⟩] ⟨dm f (slotsOf op)++g,S.bx k b,S.lv k,S.gen k⟩)
 (hi:ops[i]? = some ⟨some d,op,ty,pos,af,none⟩) (h1:S.cs[k]? = some i) (h2:Nat.beq i S.al=false) (h3:jh S ops i k b=true) (hd:Nat.blt d n=true) (h:CD P T C n S ops Q rest (i+1) ((d,bot)::f) (k+1) b):CD P T C n S ops Q (⟨some d,op,ty,pos,af,none⟩::rest) i f k b:=by
 have J:i≠S.al:=fun e=>by subst e;simp at h2
 refine⟨bot,⟨_,hi,hd,Nat.le_of_lt (δ.1 h1).1,h3,.inl ⟨h1,J,fun b hb=>⟨rfl,dm f (slotsOf op),fun t x I=>?_,fun g=>WO.C9 Z (fun e st ⟨c,h,_⟩=>by rw[h];simp) (fun e st h=>.inr h) (I b hb g)⟩,fun _=>rfl⟩⟩,?_⟩
 ·obtain⟨h1,h2⟩:=fq I
  exact⟨h1,F'.2 (.inl h2)⟩
 ·rw[la hi]
  grind[CD,gl]
theorem KE(t:Nat)(I:look (dm f (slotsOf op)) t=some bot)
 (hi:ops[i]?=some ⟨some d,op,ty,pos,af,none⟩)(h1:S.cs[k]?=some i)(h2:Nat.beq i S.al=false)(h3:jh S ops i k b=true)(hd:Nat.blt d n=true)(h:CD P T C n S ops Q rest (i+1) ((d,bot)::f) (k+1) b):CD P T C n S ops Q (⟨some d,op,ty,pos,af,none⟩::rest) i f k b:=by
 have J:i≠S.al:=fun e=>by subst e;simp at h2
 refine⟨bot,⟨_,hi,hd,Nat.le_of_lt (δ.1 h1).1,h3,.inl ⟨h1,J,fun b hb=>⟨rfl,dm f (slotsOf op),fun t x M=>?_,fun g=>Ga t ?_⟩,fun _=>rfl⟩⟩,?_⟩
 ·obtain⟨h1,h2⟩:=fq M
  exact⟨h1,F'.2 (.inl h2)⟩
 ·show look (dm f (slotsOf op)++g) t=some bot
  rw[uJ,I]
 ·rw[la hi]
  grind[CD,gl]
end
theorem w4{e I:Exit}{bx bx':List (Nat×List A)}{gen:Nat}(he:e=I)(J:a=a')(hb:bx=bx')(hl:lv=lv')(M:gen=gen'):
 e=I∧(⟨(d,a)::f,bx,lv,gen⟩:St)=⟨(d,a')::f,bx',lv',gen'⟩:=by subst he J hb hl M;exact⟨rfl,rfl⟩
theorem JW{e I:Exit}{bx bx':List (Nat×List A)}{gen:Nat}(he:e=I)(hb:bx=bx')(hl:lv=lv')(J:gen=gen'):
 e=I∧(⟨f,bx,lv,gen⟩:St)=⟨f,bx',lv',gen'⟩:=by subst he hb hl J;exact⟨rfl,rfl⟩
def qM(es:List (List D))(k:Nat):List A:=es.flatten.map A.d++List.replicate k .any
section
variable{n:Nat}
theorem oS:∀{es:List (List D)},(∀(e:List D),e∈es->e.length=sz)->es.flatten.length=es.length*sz
 |[],_=>by simp
 |e::es,h=>by rw[List.flatten_cons,ν,oS (fun x I=>h x (q' _ I)),h e D',Ξ,Nat.succ_mul,Nat.add_comm]
theorem bq.E3(h:bq C n st G tmps w){len}(hg:G.own g=some (.blk b len cap sz 0)){v}(hx:iT w (cr C G) (.blk b len cap sz 0) v es)(lv)(b3:∀J∈lv,J∈st.lv∧J≠g):
 ∃N,bq C n ⟨st.f,(st.gen,qM es (cap*sz-len*sz))::st.bx,lv,st.gen+1⟩ N tmps w∧bG (br C N (st.gen+1) w) v (.sb st.gen es.length cap):=by
 obtain⟨rfl,hlen,_,hl,hr⟩:=hx;obtain⟨cy,di,c1,cur,T,U,dj,a1,ch,hz,c6,_,hone⟩:=h.row g b len cap sz 0 hg;let N:Gh:=⟨fun x=>if x=st.gen then some b else G.box x,fun x=>if x=g then none else G.own x⟩;have dt:=h.gown g _ hg;have c7:b<w.heap.size:=(θ.1 U).1;have cj:∀M o,cr C N M o->cr C G M o:=by
  rintro M o (hp|⟨J,hp⟩|⟨J,X,ad,aj,ai,hp,hl'⟩|⟨J,b2,bs,lim,hp,hm,hl'⟩);·exact .inl hp
  ·simp only[N]at hp
   split at hp
   ·simp only[Option.some.injEq]at hp
    subst hp;exact .inr (.inr (.inl ⟨g,len,cap,sz,0,hg,ς _⟩))
   ·exact .inr (.inl ⟨J,hp⟩)
  ·simp only[N]at hp
   split at hp;·grind
   ·exact .inr (.inr (.inl ⟨J,X,ad,aj,ai,hp,hl'⟩))
  ·simp only[N]at hp
   split at hp;·grind
   ·exact .inr (.inr (.inr ⟨J,b2,bs,lim,hp,hm,hl'⟩))
 have hle:(br C G st.gen w).le (br C N (st.gen+1) w):=mA h.fr h.fr (fun b o u hu hn=>⟨hu,fun hp=>hn (cj b o hp)⟩) (fun J M O=>by
  simp only[N];rw[if_neg (U' (h.gbox J M O).1)];exact O)
  (fun J r' a6 I=>by
   simp only[N]at I;split at I;·cases I
   ·exact I) (Nat.le_succ _) (fun _ _ _ _ _ _ _ _=>rfl) (fun _ _ _ _ _=>⟨fun _ _=>rfl,fun _ _=>rfl⟩) (.refl w)
 have a7:=oS hl;have df:len*sz<=cap*sz:=Nat.mul_le_mul_right _ a1;refine⟨N,{size:=h.size,frame:=h.e9 hle,xold:=h.xold,kold:=h.kold,fr:=h.fr,gcell:=fun J M O=>(by simp only[N]at O;split at O<;>first|(simp only[Option.some.injEq]at O;subst O;exact⟨_,_,_,U⟩)|exact h.gcell J M O),lent:=?_,box:=?_,gbox:=?_,inj:=?_,live:=?_,gown:=?_,row:=?_,mrow:=?_,sub:=?_},?_⟩
 ·intro J cells hc
  simp only[du]at hc;split at hc
  ·rename_i e
   simp only[Option.some.injEq]at hc;subst hc;subst e;refine⟨b,cur,T,by simp[N],U,?_,fun i u hu=>hone i u hu,fun i u a hu ha=>?_⟩;·simp only[qM,ν,η,List.length_replicate,a7,hlen];omega
   ·unfold qM at ha
    rcases V' i es.flatten.length with hi|hi
    ·rw[y' (by rw[η];exact hi),τ,χ]at ha
     obtain⟨d,hd,rfl⟩:=ha;have cl:i<len*sz:=by rw[<-hlen,←a7];exact hi
     have hdiv:i/sz<es.length:=by rw[hlen];exact Nat.div_lt_of_lt_mul (by rw[Nat.mul_comm];exact cl)
     have he:es[i/sz]?=some es[i/sz]:=by simp[hdiv]
     have cq:=hl _ (ζ he);have a8:es[i/sz][i%sz]?=some (es[i/sz][i%sz]'(by rw[cq];exact Nat.mod_lt _ hz)):=by simp
     have b0:=mU hl _ _ _ _ he a8;rw[Nat.div_add_mod' i sz,hd]at b0;obtain⟨u',ar,cx⟩:=hr _ _ _ _ he a8;rw[Nat.div_add_mod' i sz,cU U]at ar;rw[hu]at ar;cases ar;rw[P' b0];exact .d (cx.mono hle.cell)
    ·rw[Ω (by rw[η];exact hi)]at ha
     have:=List.eq_of_mem_replicate (ζ ha);subst this;exact .any _
  ·obtain⟨M,cs,T',h1,h2,h3,h4,h5⟩:=h.box J cells hc
   exact⟨M,cs,T',by simp only[N];rw[if_neg (U' (h.gbox J M h1).1)];exact h1,h2,h3,h4,fun i u a hu ha=>(h5 i u a hu ha).mono hle⟩
 ·intro J M hb
  simp only[N]at hb;split at hb;·grind
  ·obtain⟨h1,h2⟩:=h.gbox J M hb
   grind
 ·intro g1 g2 M h1 h2
  simp only[N]at h1 h2;split at h1<;>split at h2;·grind
  ·grind
  ·grind
  ·exact h.inj g1 g2 M h1 h2
 ·intro J a6
  obtain⟨h1,h2⟩:=b3 J a6;obtain⟨r',I⟩:=h.live J h1;grind
 ·intro J r' I
  simp only[N]at I;split at I;·grind
  ·exact Y' (h.gown J r' I)
 ·intro J M X ad aj ai I
  simp only[N]at I;split at I;·grind
  ·rename_i e2
   obtain⟨h4,h5,h6,h7⟩:=h.row J M X ad aj ai I;grind
 ·intro J M bs I
  simp only[N]at I;split at I;·grind
  ·obtain⟨h4,dx,h5,me,clock,h6⟩:=h.mrow J M bs I
   grind
 ·intro J M bs c lim I hm
  simp only[N]at I;split at I;·grind
  ·obtain⟨h4,h5,h6,h7,h8⟩:=h.sub J M bs c lim I hm
   grind
 ·intro i M hb
  have h1:=h.lent i M hb;simp only[N];rw[if_neg (U' (h.gbox i M h1).1)];grind
 ·exact .sb _ st.gen es.length cap b (Nat.lt_succ_self _) (by simp[br,N]) (by rw[hlen];exact⟨a1,ch⟩) (by rw[hlen])
end
section
variable(T:cT P){n:Nat}{rest:List Oper}
variable{bx:List (Nat×List A)}{gen:Nat}{op:Op}{pos:String}{af:Array Edge}{c:Code}
theorem L3(s:Nat)(hl:look f s=some (.xs g es))(N:(lv.any fun h=>Nat.beq h g)=true)(O:Nat.blt s n=true)(hp:0<es.length)(U:cu lv g=lv')(h:∀cap k,W P C n c Q ⟨(s,.sb gen es.length cap)::f,(gen,qM es k)::bx,lv',gen+1⟩):W P C n c Q ⟨f,bx,lv,gen⟩:=by
 subst U;intro tmps w ⟨G,hs⟩;obtain⟨v,hv,hr⟩:=hs.frame _ _ hl;obtain⟨r,J⟩:=hs.live g (dU N)
 cases hr with
 |xs _ _ _ ar h1 M=>
 have I:=M r J
 cases r with
 |nil=>obtain⟨_,rfl⟩:=I;simp at hp
 |zero b=>obtain⟨_,rfl⟩:=I;simp at hp
 |mp b bs=>exact I.elim
 |blk b len cap sz X=>obtain rfl:X=0:=I.2.2.1;obtain⟨G',ad,ai⟩:=hs.E3 J I (cu lv g) (fun g' aj=>dH aj);refine h cap (cap*sz-len*sz) tmps w ⟨G',?_⟩;have:=ad.set (d:=s) (κ O) ai;rwa[gh hv]at this
theorem Lu(M:av f x=some (.sb g m cap))(N:bk T.l t=some I)(O:I.k=.slice e):
 Pu P C n ⟨f,bx,lv,gen⟩ ⟨dst,.call ⟨.builtin .len,#[x],#[t]⟩,ty,pos,af,none⟩ (.d (.v (.int .i64 m))):=by
 refine aq fun G tmps w hs=>?_;have J:=hs.av M;generalize U:Act.eval ⟨tmps,[]⟩ x=v at J
 cases J with
 |sb _ _ _ _ b ad hb X h2=>
 refine⟨.int .i64 m,?_,.d (.v _ ?_)⟩
 ·unfold execOp
  show Sem.run P (do let d←resolve (Act.eval ⟨tmps,[]⟩) ⟨.builtin .len,#[x],#[t]⟩ ty;invoke d.target d.args) w=_;simp only[resolve,List.map_toArray,J',List.map_nil,U,h2,Sem.run_bind,Sem.run_pure,Result.andThen_ok,invoke,builtin,Builtin.len_];simp[run_underlying (T.gD N O),goInt];rfl
 ·obtain⟨h3,h4⟩:=X
  simp only[maxLen]at h4;simp[dn,IntKind.min,IntKind.max,IntKind.signed,IntKind.bits];omega
theorem mE{M}{O:cY}{k:IntKind}{i:Int}(hx:av f x=some (.sb g m cap))(hi:av f M=some (.d (.v (.int k i))))(ht:bk T.l t=some O)(hk:O.k=.slice e)(he:bk T.l e=some N)(h0:0<=i)(aj:i.toNat<m)(ho:i.toNat*N.n=off):Pu P C n ⟨f,bx,lv,gen⟩ ⟨dst,.indexAddr t x M,ty,pos,af,none⟩ (.ptr g off):=by
 subst ho;refine aq fun G tmps w hs=>?_;have hu:=T.gD ht hk;have J:=hs.av hx;have I:=hs.av hi;generalize U:Act.eval ⟨tmps,[]⟩ M=vi at I;cases I with|d I=>cases I with|v _ _=>
 generalize X:Act.eval ⟨tmps,[]⟩ x=vx at J
 cases J with
 |sb _ _ _ _ b ad hb hn h2=>
 refine⟨.pointer (some ⟨b,i.toNat*N.n,none⟩),?_,.ptr _ g _ b ad hb rfl⟩;unfold execOp;show Sem.run P _ w=.ok _ w;have ai:0<=i∧i<(m:Int):=⟨h0,by omega⟩;simp only[U,X,h2,Instr.indexAt,asIntOf,Sem.run_bind,Sem.run_pure,Result.andThen_ok,run_underlying hu,ai,and_self,if_true,T.sizeOf he];unfold Addr.add;grind
end
end Go.Ab
