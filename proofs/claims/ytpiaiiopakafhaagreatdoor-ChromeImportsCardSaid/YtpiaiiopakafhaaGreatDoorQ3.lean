import Derived.Test.YtpiaiiopakafhaaGreatDoorQ2
import Derived.Lib.LaidU8
import Derived.LaidLaws
import Derived.HandedShaped
import Derived.Lay
import Derived.Lib.AtoiAllCases
import Derived.Lib.ItoaNum
import Derived.Lib.SplitLaws
import Derived.Lib.Join
import Derived.Recover
import Derived.RangeFuncLeaves
import Derived.RangeFuncCalls
import Derived.Laws.BytesString
import Derived.Laws.Cells
namespace Go.Ab
open Go.RowKit
variable {w w':World}{tmps:Array Value}{pv:Nat→Nat→Prop}{x y:Operand}{t g i k e m j b id off d clock sz gen' cap mt t' g2 d0:Nat}{P:Program}{Q':Exit→Act→World→Prop}{fid:FuncId}{lv' lv gs order os:List Nat}{bs:List (Nat×Nat)}{o:Oper}{xs:Array Operand}{fn:Func}{parts:Array (Nat×Operand)}{α ι β:Type}{dst:Option Nat}{hole:Option Value}{R:Value→World→Prop}{ops:Array Oper}{want:Bool}{listed:Array Bool}{T ty:TypeId}{act:Act}
variable {es es2:List (List D)}{f:List (Nat×A)}{G:Gh}{a a':A}{st st':St}{l:List D}{E E':En}{args cells cells' caps:List A}{Q:Exit→St→Prop}{b1:List (List A)}{C:Ctx}
variable {rs:List RV}
variable {I td J ed M N:cY}
mutual
def jl(g:Nat):A->Bool
 |.ptr I _=>!Nat.beq I g
 |.np I _ _=>!Nat.beq I g
 |.sb I _ _=>!Nat.beq I g
 |.lk I _ _ _=>!Nat.beq I g
 |.agg l=>oN g l
 |.tup l=>oN g l
 |.row l=>oN g l
 |.clo _ l=>oN g l
 |.bnd _ l=>oN g l
 |_=>true
def oN(g:Nat):List A->Bool
 |[]=>true
 |a::l=>jl g a&&oN g l
end
theorem gn:∀{l:List A},oN g l=true->∀a∈l,jl g a=true
 |[],_,a,I=>by cases I
 |b::l,h,a,I=>by
   simp only[oN,ρ]at h
   cases I with
   |head=>exact h.1
   |tail _ I=>exact gn h.2 a I
theorem aI(hw:E.w=E'.w)(hc:∀b o u,cellAt E.w b o=some u->¬E.pv b o->cellAt E'.w b o=some u∧¬E'.pv b o)(hold:∀b,E.old b->E'.old b)(hb:∀M b,M≠g->E.box M=some b->E'.box M=some b)(ho:E'.own=E.own)(U:E'.gen=E.gen){v}(h:bG E v a)(ha:jl g a=true):bG E' v a:=by
 have aj:∀{M},(!Nat.beq M g)=true->M≠g:=fun h e=>by subst e;simp at h
 have X:∀b o u,cellAt E.w b o=some u->¬E.pv b o->cellAt E.w b o=some u∧¬E'.pv b o:=fun b o u h1 h2=>⟨h1,(hc b o u h1 h2).2⟩
 induction h with
 |any x=>exact .any x
 |d hd=>exact .d (hd.mono hc)
 |ag vs l hs hd=>exact .ag vs l hs (fun i u x h1 h2=>(hd i u x h1 h2).mono hc)
 |own x M es hd J hr=>exact .own x M es (hd.mono hc) (by rw[U];exact J) (fun r N=>hr r (by rw[<-ho];exact N))
 |agg vs l hs hone _ ih=>exact .agg vs l hs hone (fun i u x hu O=>ih i u x hu O (gn (by simpa[jl]using ha) x (ζ O)))
 |tup vs l hs _ ih=>exact .tup vs l hs (fun i u x hu O=>ih i u x hu O (gn (by simpa[jl]using ha) x (ζ O)))
 |rowd b off l u ai hd=>exact .rowd b off l u (fun j hj=>hc _ _ _ (ai j hj).1 (ai j hj).2) (fun j x O=>(hd j x O).mono hc)
 |row b off l u ai _ ih=>exact .row b off l u (fun j hj=>⟨by rw[<-hw];exact(ai j hj).1,hold _ (ai j hj).2.1,(ai j hj).2.2⟩) (fun j x O=>ih j x O (gn (by simpa[jl]using ha) x (ζ O)))
 |ptr x M off b J ad hp=>exact .ptr x M off b (by rw[U];exact J) (hb M b (aj (by simpa[jl]using ha)) ad) hp
 |xs x M es J h1 O=>exact .xs x M es (by rw[U];exact J) h1 (fun r N=>hw▸(O r (by rw[<-ho];exact N)).eu X)
 |xp x M i off l J h1 O=>exact .xp x M i off l (by rw[U];exact J) h1 (fun r N=>hw▸(O r (by rw[<-ho];exact N)).eu X)
 |mp x M es J h1 O=>exact .mp x M es (by rw[U];exact J) h1 (fun r N=>hw▸(O r (by rw[<-ho];exact N)).eu X)
 |mq x M es J h1 O=>exact .mq x M es (by rw[U];exact J) h1 (fun r N=>hw▸(O r (by rw[<-ho];exact N)).eu X)
 |mo x M es hole ob J h1 O=>exact .mo x M es hole ob (by rw[U];exact J) h1 (fun r N=>hw▸(O r (by rw[<-ho];exact N)).eu X)
 |ni t x=>exact .ni t x
 |fl x es hd ar=>exact .fl x es (hd.mono hc) ar
 |bf x M T s J h1 O=>exact .bf x M T s (by rw[U];exact J) h1 (fun r N=>hw▸O r (by rw[<-ho];exact N))
 |np x M T b J ad hT u hp=>exact .np x M T b (by rw[U];exact J) (hb M b (aj (by simpa[jl]using ha)) ad) (hw▸hT) u hp
 |sb x M n c b J ad hn hp=>exact .sb x M n c b (by rw[U];exact J) (hb M b (aj (by simpa[jl]using ha)) ad) hn hp
 |fx x u M es ou O J hu a1=>exact .fx x u M es ou (O.mono hc) (by rw[U];exact J) (fun r N=>hw▸(hu r (by rw[<-ho];exact N)).eu X) a1
 |ol x u g1 E1 M es O a6 a7 J hu=>exact .ol x u g1 E1 M es (O.mono hc) (by rw[U];exact a6) (fun r N=>a7 r (by rw[<-ho];exact N)) (by rw[U];exact J) (fun r N=>hw▸(hu r (by rw[<-ho];exact N)).eu X)
 |gi x M I J O=>exact .gi x M I (by rw[U];exact J) (fun r N=>hw▸(O r (by rw[<-ho];exact N)).eu X)
 |ow x v M es hd J hr=>exact .ow x v M es (hd.mono hc) (by rw[U];exact J) (fun r N=>hr r (by rw[<-ho];exact N))
 |lk x M n c b v J ad hn hp=>exact .lk x M n c b v (by rw[U];exact J) (hb M b (aj (by simpa[jl]using ha)) ad) hn hp
 |clo f vs l hs _ ih=>exact .clo f vs l hs (fun i u x hu O=>ih i u x hu O (gn (by simpa[jl]using ha) x (ζ O)))
 |bnd f vs l hs _ ih=>exact .bnd f vs l hs (fun i u x hu O=>ih i u x hu O (gn (by simpa[jl]using ha) x (ζ O)))
def nQ(g:Nat):List Nat->List (Nat×A)->List (Nat×A)
 |_,[]=>[]
 |seen,(s,a)::r=>bif seen.any (Nat.beq s)then nQ g seen r else bif jl g a then(s,a)::nQ g (s::seen) r else nQ g (s::seen) r
theorem lG:∀{f:List (Nat×A)}{seen:List Nat}{t:Nat}{a:A},look (nQ g seen f) t=some a->look f t=some a∧jl g a=true∧t∉seen
 |[],_,t,a,h=>by simp[nQ,look]at h
 |(s,b)::r,seen,t,a,h=>by
   simp only[nQ]at h
   cases q:seen.any (Nat.beq s)with
   |true=>rw[q]at h;simp only[cond_true]at h;obtain⟨h1,h2,h3⟩:=lG h;grind[List.any_eq_true,Nat.eq_of_beq_eq_true,cv]
   |false=>
     rw[q]at h;simp only[cond_false]at h;have hm:s∉seen:=fun hm=>by have:seen.any (Nat.beq s)=true:=L'.2 ⟨s,hm,by simp⟩;grind
     cases q2:jl g b with
     |true=>
       rw[q2]at h;simp only[cond_true]at h;rw[cv]at h;split at h;·grind[cv]
       ·rename_i e
        obtain⟨h1,h2,h3⟩:=lG h;grind[cv,List.mem_cons_of_mem]
     |false=>rw[q2]at h;simp only[cond_false]at h;obtain⟨h1,h2,h3⟩:=lG h;grind[cv,List.mem_cons_self,List.mem_cons_of_mem]
def mM(g:Nat):List Nat->List (Nat×List A)->Option (List (Nat×List A))
 |_,[]=>some []
 |seen,(s,c)::r=>bif seen.any (Nat.beq s)then mM g seen r else bif Nat.beq s g then mM g (s::seen) r else bif oN g c then(match mM g (s::seen) r with|some l=>some ((s,c)::l)|none=>none)else none
theorem lh{f s}{a:α}:bk ((s,a)::f) t=if s=t then some a else bk f t:=by rw[du]
theorem lQ:∀{f f':List (Nat×List A)}{seen:List Nat}{t:Nat}{a:List A},mM g seen f=some f'->bk f' t=some a->bk f t=some a∧oN g a=true∧t≠g∧t∉seen
 |[],f',_,t,a,I,h=>by simp[mM]at I;subst I;simp[bk]at h
 |(s,b)::r,f',seen,t,a,I,h=>by
   simp only[mM]at I
   cases q:seen.any (Nat.beq s)with
   |true=>rw[q]at I;simp only[cond_true]at I;obtain⟨h1,h2,h3,h4⟩:=lQ I h;grind[List.any_eq_true,Nat.eq_of_beq_eq_true,lh]
   |false=>
     rw[q]at I;simp only[cond_false]at I;have hm:s∉seen:=fun hm=>by have:seen.any (Nat.beq s)=true:=L'.2 ⟨s,hm,by simp⟩;grind
     cases q1:Nat.beq s g with
     |true=>rw[q1]at I;simp only[cond_true]at I;obtain⟨h1,h2,h3,h4⟩:=lQ I h;grind[lh,List.mem_cons_self,List.mem_cons_of_mem]
     |false=>
       rw[q1]at I;simp only[cond_false]at I
       cases q2:oN g b with
       |false=>rw[q2]at I;cases I
       |true=>
         rw[q2]at I;simp only[cond_true]at I;split at I
         ·rename_i l hl
          simp only[Option.some.injEq]at I;subst I;rw[lh]at h;split at h
          ·rename_i e
           subst e;cases h;exact⟨by rw[lh,if_pos rfl],q2,fun e=>by subst e;simp at q1,hm⟩
          ·rename_i e
           obtain⟨h1,h2,h3,h4⟩:=lQ hl h;grind[lh,List.mem_cons_of_mem]
         ·grind
section
variable(T:cT P){n:Nat}{rest:List Oper}
variable{f':List (Nat×A)}{bx bx':List (Nat×List A)}{gen:Nat}{op:Op}{pos:String}{af:Array Edge}{c:Code}
theorem Hs[hnb:NB C 0](s:Nat)(hl:look f s=some (.sb g m cap))(hb:bk bx g=some (qM es k))(a8:Nat.blt s n=true)(hm:es.length=m)(ai:∀(x:List D),x∈es->x.length=sz)(hf:nQ g [] f=f')(b0:mM g [] bx=some bx')(h:W P C n c Q ⟨(s,.d (.sl es))::f',bx',lv,gen⟩):W P C n c Q ⟨f,bx,lv,gen⟩:=by
 subst hf;subst hm;intro tmps w ⟨G,hs⟩;obtain⟨v,hv,O⟩:=hs.frame _ _ hl;obtain⟨b,cs,T',U,hw,h3,h4,h5⟩:=hs.box _ _ hb
 cases O with
 |sb _ _ _ _ b' cy ad hn hx=>
 have ad:G.box g=some b':=ad;rw[U]at ad;cases ad;let J:Gh:=⟨fun x=>if x=g then none else G.box x,G.own⟩;have b3:∀b' o,cr C J b' o->cr C G b' o:=by
  rintro b' o (hp|⟨I,hp⟩|hp);·exact .inl hp
  ·simp only[J]at hp
   split at hp;·cases hp
   ·exact .inr (.inl ⟨I,hp⟩)
  ·exact .inr (.inr hp)
 have a7:∀o,¬cr C J b o:=by
  rintro o (hp|⟨I,hp⟩|⟨I,len,cap,sz,aj,hp,_⟩|⟨I,N,bs,lim,hp,hm,_⟩)
  rotate_right
  ·exact(hs.sub I N bs b lim hp hm).2.1 g U
  ·have:=hs.xold b o hp
   rcases(hs.gbox g b U).2.2.1 with hm|hm
   ·omega
   ·exact this.2 hm
  ·simp only[J]at hp
   split at hp;·cases hp
   ·rename_i e;exact e (hs.inj I g b hp U)
  ·exact(hs.row I b len cap sz aj hp).2.1 g U
 have X:∀{v:Value}{a:A},bG (br C G gen w) v a->jl g a=true->bG (br C J gen w) v a:=fun h ha=>aI (E:=br C G gen w) (E':=br C J gen w) Z (fun b o u hu hn=>⟨hu,fun hp=>hn (b3 b o hp)⟩) (fun b h=>h) (fun I b ch hb=>by show(if I=g then none else G.box I)=some b;rw[if_neg ch];exact hb) Z Z h ha;have cj:bq C n ⟨nQ g [] f,bx',lv,gen⟩ J tmps w:=by
  refine{size:=hs.size,frame:=?_,box:=?_,gbox:=?_,inj:=?_,live:=hs.live,gown:=hs.gown,row:=?_,mrow:=?_,sub:=?_,gcell:=fun I N M=>(by simp only[J]at M;split at M<;>first|(cases M;done)|exact hs.gcell I N M),xold:=hs.xold,kold:=hs.kold,lent:=?_,fr:=hs.fr}
  ·intro t a ha
   obtain⟨h1,h2,_⟩:=lG ha;obtain⟨v,hv,O⟩:=hs.frame t a h1;exact⟨v,hv,X O h2⟩
  ·intro I cells hc
   obtain⟨h1,h2,h6,_⟩:=lQ b0 hc;obtain⟨N,cl,T2,p1,p2,p3,p4,p5⟩:=hs.box I cells h1;exact⟨N,cl,T2,by simp only[J];rw[if_neg h6];exact p1,p2,p3,p4,fun i u a hu ha=>X (p5 i u a hu ha) (gn h2 a (ζ ha))⟩
  ·intro I N M
   simp only[J]at M;split at M;·cases M
   ·exact hs.gbox I N M
  ·intro g1 g2 N h1 h2
   simp only[J]at h1 h2;split at h1;·cases h1
   ·split at h2
    ·cases h2
    ·exact hs.inj g1 g2 N h1 h2
  ·intro I N len cap sz aj O
   obtain⟨p1,p2,p3⟩:=hs.row I N len cap sz aj O;refine⟨p1,fun g2 h2=>?_,p3⟩;simp only[J]at h2;split at h2;·cases h2
   ·exact p2 g2 h2
  ·intro I N bs O
   obtain⟨p1,p2,p3⟩:=hs.mrow I N bs O;refine⟨p1,fun g2 h2=>?_,p3⟩;simp only[J]at h2;split at h2;·cases h2
   ·exact p2 g2 h2
  ·intro I N bs c lim O hm
   obtain⟨p1,p2,p3⟩:=hs.sub I N bs c lim O hm;refine⟨p1,fun g2 h2=>?_,p3⟩;simp only[J]at h2;split at h2;·cases h2
   ·exact p2 g2 h2
  ·intro i N M
   have:=hnb.h;have hi:=(δ.1 M).1;omega
 have ar:bG (br C J gen w) v (.d (.sl es)):=by
  rw[hx];have c1:=oS ai;have a1:∀i j(e:List D)(y:D),es[i]?=some e->e[j]?=some y->∃u,cs[i*sz+j]?=some u∧b7 w (cr C J) u y:=fun i j e y hi hj=>by
   have a6:=mU ai i j e y hi hj;have cq:i*sz+j<es.flatten.length:=(δ.1 a6).1;have hc:(qM es k)[i*sz+j]?=some (.d y):=by unfold qM;rw[y' (by rw[η];exact cq),τ,a6];rfl
   have cx:i*sz+j<cs.size:=by rw[h3];exact(δ.1 hc).1
   have e1:cs[i*sz+j]?=some cs[i*sz+j]:=by simp[cx]
   have:=X (h5 _ _ _ e1 hc) rfl;generalize cs[i*sz+j]=u at this e1;cases this with|d hd=>exact⟨u,e1,hd⟩
  exact .d<|aw hw hn.1 hn.2 ai (fun t _=>a7 t) a1
 refine h tmps w ⟨J,?_⟩;have:=cj.set (d:=s) (κ a8) ar;rwa[gh hv]at this
end
section
variable(T:cT P){n:Nat}{rest:List Oper}
variable{bx:List (Nat×List A)}{gen:Nat}{op:Op}{pos:String}{af:Array Edge}{c:Code}
theorem iT.same{r v J M}(h:iT w pv r v es)(I:iT w pv r J M):v=J:=by
 cases r with
 |nil=>exact h.1.trans I.1.symm
 |zero b=>exact h.1.trans I.1.symm
 |blk b len cap sz N=>exact h.1.trans I.1.symm
 |mp b bs=>exact h.elim
end
section
variable(T:cT P){n:Nat}{rest:List Oper}
variable{f':List (Nat×A)}{bx bx':List (Nat×List A)}{gen:Nat}{op:Op}{pos:String}{af:Array Edge}{c:Code}
theorem iT.slice{r v}(h:iT w pv r v es):∃a l c,v=.slice a l c:=by
 cases r with
 |nil=>exact⟨_,_,_,h.1⟩
 |zero b=>exact⟨_,_,_,h.1⟩
 |blk b len cap sz I=>exact⟨_,_,_,h.1⟩
 |mp b bs=>exact h.elim
theorem bq.lg(hs:bq C n ⟨f,bx,lv,gen⟩ G tmps w){g0}(hb:bk bx g0=some cells)(hlen:cells'.length=cells.length)(J:∀b cs T,G.box g0=some b->w.heap[b]?=some (.cells cs T (0,0))->(∀(i:Nat)(x:Value)(a:A),cs[i]?=some x->cells[i]?=some a->bG (br C G gen w) x a)->∀(i:Nat)(x:Value)(a:A),cs[i]?=some x->cells'[i]?=some a->bG (br C G gen w) x a):
 bq C n ⟨f,(g0,cells')::bx,lv,gen⟩ G tmps w:=by
 refine{hs with box:=fun I l hl=>?_};simp only[du]at hl;split at hl
 ·rename_i e
  subst e;simp only[Option.some.injEq]at hl;subst hl;obtain⟨b,cs,M,h1,h2,h3,h4,h5⟩:=hs.box g0 cells hb;grind
 ·exact hs.box I l hl
end
open Go.RowKit Go.MapKept
section
variable(T:cT P){n:Nat}{rest:List Oper}
variable{bx:List (Nat×List A)}{gen:Nat}{pos:String}{af:Array Edge}
variable[DecidableEq α]{kf:α→Value}{vf:β→D}
theorem Ju(gq M){m U}{X:List A}{l:List (α×β)}{a:α}{y:β}{xa}(hm:av f m=some (.mp g (gy kf vf l)))(hq:bk bx gq=some X)(hj:X[M]?=some (.mp g (gy kf vf l)))(hk:av f U=some (.d (.v (kf a))))(hx:av f x=some xa)(cj:Cv xa=some (vf y))(ht:bk T.l mt=some td)(cl:td.k=.map k e)(cx:lC P k kf)(ad:(lv.any fun h=>Nat.beq h g)=true)(hn:(l.map (·.1)).Nodup){ai}(cy:gy kf vf (dN l a y)=ai)(c1:gen::cu lv g=lv'){aj}(c6:X.set M (.mp gen ai)=aj)(h:WO P C n ops Q rest ⟨f,(gq,aj)::bx,lv',gen+1⟩):WO P C n ops Q (⟨none,.mapUpdate mt m U x,ty,pos,af,none⟩::rest) ⟨f,bx,lv,gen⟩:=by
 subst c6;subst cy;subst c1;refine WO.step (st:=⟨f,bx,lv,gen⟩) rfl fun tmps w⟨G,hs⟩=>?_;have ar:=hs.av hm;have J:=hs.av hk;have c7:=Ay cj (hs.av hx);generalize hv:Act.eval ⟨tmps,[]⟩ m=v at ar;generalize er:Act.eval ⟨tmps,[]⟩ U=vk at J;obtain⟨b,bs,a1,rfl,me,clock,hb,df,di⟩:=hs.vV ar (dU ad);cases J with|d J=>cases J with|v _ hok=>
 obtain⟨a6,I,ej,a7,N⟩:=wk T ht cl cx hb df di hn a hok c7;have h0:(execOp (Act.eval ⟨tmps,[]⟩) ⟨none,.mapUpdate mt m U x,ty,pos,af,none⟩).run P w=.ok .skip {w with heap:=w.heap.setIfInBounds b (.map a6 I)}:=by unfold execOp;simp_all
 obtain⟨b0,O,T0,p1,p2,p3,p4,p5⟩:=hs.box gq X hq;have dj:M<O.size:=by rw[p3];exact(δ.1 hj).1
 have dt:O[M]?=some O[M]:=by simp[dj]
 have a8:=p5 M _ _ dt hj;obtain⟨b2,dx,ch,en,_⟩:=hs.vV a8 (dU ad);have e2:b2=b∧dx=bs:=by have:=ch.symm.trans a1;simpa using this
 obtain⟨rfl,rfl⟩:=e2;obtain⟨G',e0,ed,e1⟩:=hs.FN a1 a6 I a7 (es:=gy kf vf (dN l a y)) (by rw[N.1];simp[gy]) (fun i m k l' hm hk=>by simp only[gy,τ,χ]at hk;obtain⟨p,hp,e⟩:=hk;simp only[Prod.mk.injEq]at e;obtain⟨rfl,rfl⟩:=e;exact N.2 i m p hm hp) (cu lv g) (fun g' ei=>dH ei);refine jN h0 ⟨_,⟨G',ed.lg hq (by simp) fun b3 e3 T3 q1 q2 q3 i x' a' hx ha=>?_⟩,h⟩;grind
end
section
variable{n:Nat}
theorem bq.split(h:bq C n st G tmps w){b bs'}(hg:G.own g=some (.mp b bs))(a7:∀p∈bs',p∈bs)(r2)(c1:∀U bs',r2≠.mp U bs')(a8:∀c len cap sz O,r2=.blk c len cap sz O->(c,O)∈bs∧(∀p∈bs',p.1≠c)∧∃cur T,w.heap[c]?=some (.cells cur T (0,0))∧cur.size=cap*sz∧len<=cap∧cap<=maxLen∧0<sz∧0<len∧O<=len*sz∧gG cur)(lv)(c6:∀I∈lv,I∈st.lv∧I≠g):
 ∃G':Gh,G'.box=G.box∧G'.own st.gen=some (.mp b bs')∧G'.own (st.gen+1)=some r2∧(br C G st.gen w).le (br C G' (st.gen+2) w)∧bq C n {st with lv:=st.gen::(st.gen+1)::lv,gen:=st.gen+2} G' tmps w:=by
 let M:Nat->Option Row:=fun I=>if I=st.gen then some (.mp b bs')else if I=st.gen+1 then some r2 else if I=g then none else G.own I;have dj:=h.gown g _ hg;have ai:∀{I c len cap sz O},M I=some (.blk c len cap sz O)->(I=st.gen+1∧r2=.blk c len cap sz O)∨(I≠st.gen∧I≠st.gen+1∧I≠g∧G.own I=some (.blk c len cap sz O)):=by
  intro I c len cap sz O X;simp only[M]at X;split at X;·cases X
  ·split at X
   ·rename_i e;exact .inl ⟨e,P' X⟩
   ·split at X
    ·cases X
    ·rename_i e1 e2 N;exact .inr ⟨e1,e2,N,X⟩
 have ar:∀{I b2 ad},M I=some (.mp b2 ad)->(I=st.gen∧b2=b∧ad=bs')∨(I≠st.gen∧I≠st.gen+1∧I≠g∧G.own I=some (.mp b2 ad)):=by
  intro I b2 ad X;simp only[M]at X;split at X;·rename_i e;simp only[Option.some.injEq,Row.mp.injEq]at X;exact .inl ⟨e,X.1.symm,X.2.symm⟩
  ·split at X
   ·exact absurd (P' X) (c1 _ _)
   ·split at X
    ·cases X
    ·rename_i e1 e2 N;exact .inr ⟨e1,e2,N,X⟩
 have c7:∀U o,cr C ⟨G.box,M⟩ U o->cr C G U o:=by
  rintro U o (hp|hp|⟨I,cl,cq,df,ch,hp,hl'⟩|⟨I,b2,ad,lim,hp,hm,hl'⟩);·exact .inl hp
  ·exact .inr (.inl hp)
  ·rcases ai hp with⟨_,e⟩|⟨_,_,_,e⟩
   ·exact .inr (.inr (.inr ⟨g,b,bs,ch,hg,(a8 _ _ _ _ _ e).1,hl'⟩))
   ·exact .inr (.inr (.inl ⟨I,cl,cq,df,ch,e,hl'⟩))
  ·rcases ar hp with⟨_,rfl,rfl⟩|⟨_,_,_,e⟩
   ·exact .inr (.inr (.inr ⟨g,_,bs,lim,hg,a7 _ hm,hl'⟩))
   ·exact .inr (.inr (.inr ⟨I,b2,ad,lim,e,hm,hl'⟩))
 have hle:(br C G st.gen w).le (br C ⟨G.box,M⟩ (st.gen+2) w):=mA h.fr h.fr (fun U o u hu hn=>⟨hu,fun hp=>hn (c7 U o hp)⟩) (fun _ _ h=>h)
  (fun I r' aj J=>by
   simp only[M,if_neg (U' aj),if_neg (U' (Y' aj))]at J;split at J;·cases J
   ·exact J) (by omega) (fun _ _ _ _ _ _ _ _=>rfl) (fun _ _ _ _ _=>⟨fun _ _=>rfl,fun _ _=>rfl⟩) (.refl w)
 refine⟨⟨G.box,M⟩,rfl,by simp[M],by simp[M],hle,{size:=h.size,frame:=h.e9 hle,inj:=h.inj,xold:=h.xold,kold:=h.kold,lent:=h.lent,fr:=h.fr,gcell:=h.gcell,box:=?_,gbox:=?_,live:=?_,gown:=?_,row:=?_,mrow:=?_,sub:=?_}⟩
 ·intro I cells hc
  obtain⟨U,cs,T',h1,h2,h3,h4,h5⟩:=h.box I cells hc;exact⟨U,cs,T',h1,h2,h3,h4,fun i u a hu ha=>(h5 i u a hu ha).mono hle⟩
 ·intro I U hb
  obtain⟨h1,h2,h3⟩:=h.gbox I U hb;exact⟨by simp only;omega,h2,h3⟩
 ·intro I aj
  rcases C'.1 aj with rfl|aj
  ·exact⟨_,by simp[M];rfl⟩
  ·rcases C'.1 aj with rfl|aj
   ·exact⟨_,by simp[M];rfl⟩
   ·obtain⟨h1,h2⟩:=c6 I aj
    obtain⟨r',J⟩:=h.live I h1;have:=h.gown I r' J;exact⟨r',by simp only[M];rw[if_neg (by omega),if_neg (by omega),if_neg h2];exact J⟩
 ·intro I r' J
  simp only[M]at J;split at J;·simp only;omega
  ·split at J
   ·simp only;omega
   ·split at J
    ·cases J
    ·have:=h.gown I r' J;simp only;omega
 ·intro I U len cap sz O J
  rcases ai J with⟨e0,e⟩|⟨_,e1,e2,e⟩
  ·obtain⟨q1,q2,q3⟩:=a8 _ _ _ _ _ e
   obtain⟨s1,s2,s3,_⟩:=h.sub g b bs U O hg q1;refine⟨s1,s2,fun g2 cx cy di cj h2=>?_,q3⟩;rcases ai h2 with⟨N,_⟩|⟨_,_,_,N⟩
   ·omega
   ·exact absurd N (s3 _ _ _ _ _)
  ·obtain⟨s1,s2,s3,s4⟩:=h.row I U len cap sz O e
   refine⟨s1,s2,fun g2 cx cy di cj h2=>?_,s4⟩;rcases ai h2 with⟨_,N⟩|⟨_,_,_,N⟩
   ·exact absurd e ((h.sub g b bs U cj hg (a8 _ _ _ _ _ N).1).2.2.1 _ _ _ _ _)
   ·exact s3 _ _ _ _ _ N
 ·intro I U ad J
  rcases ar J with⟨e0,rfl,rfl⟩|⟨e0,e1,e2,e⟩
  ·obtain⟨s1,s2,s3,s4⟩:=h.mrow g _ bs hg
   refine⟨s1,s2,fun g2 a1 h2=>?_,s4⟩;rcases ar h2 with⟨N,_⟩|⟨_,_,e4,N⟩
   ·omega
   ·exact absurd (s3 g2 a1 N) e4
  ·obtain⟨s1,s2,s3,s4⟩:=h.mrow I U ad e
   refine⟨s1,s2,fun g2 a1 h2=>?_,s4⟩;rcases ar h2 with⟨_,rfl,_⟩|⟨_,_,_,N⟩
   ·exact absurd (s3 g bs hg).symm e2
   ·exact s3 g2 a1 N
 ·intro I U ad c lim J hm
  rcases ar J with⟨e0,rfl,rfl⟩|⟨e0,e1,e2,e⟩
  ·obtain⟨s1,s2,s3,s4,s5⟩:=h.sub g _ bs c lim hg (a7 _ hm)
   refine⟨s1,s2,fun g2 len cap sz O h2=>?_,fun g2 b3 a1 a6 h2 b0=>?_,s5⟩
   ·rcases ai h2 with⟨_,N⟩|⟨_,_,_,N⟩
    ·exact(a8 _ _ _ _ _ N).2.1 _ hm Z
    ·exact s3 _ _ _ _ _ N
   ·rcases ar h2 with⟨N,rfl,rfl⟩|⟨_,_,e4,N⟩
    ·exact⟨by omega,(s4 g _ bs a6 hg (a7 _ b0)).2⟩
    ·exact absurd (s4 g2 b3 a1 a6 N b0).1 e4
  ·obtain⟨s1,s2,s3,s4,s5⟩:=h.sub I U ad c lim e hm
   refine⟨s1,s2,fun g2 len cap sz O h2=>?_,fun g2 b3 a1 a6 h2 b0=>?_,s5⟩
   ·rcases ai h2 with⟨_,N⟩|⟨_,_,_,N⟩
    ·exact e2 ((s4 g b bs O hg (a8 _ _ _ _ _ N).1).1).symm
    ·exact s3 _ _ _ _ _ N
   ·rcases ar h2 with⟨_,rfl,rfl⟩|⟨_,_,_,N⟩
    ·exact absurd ((s4 g _ bs a6 hg (a7 _ b0)).1).symm e2
    ·exact s4 g2 b3 a1 a6 N b0
theorem bq.join(h:bq C n st G tmps w){b bs'}(hg:G.own g=some (.mp b bs)){r2}(aj:G.own g2=some r2)(ho:g2≠g)(c1:∀p∈bs',p∈bs∨∃len cap sz,r2=.blk p.1 len cap sz p.2)(a7:∀c,b≠some c->w'.heap[c]?=w.heap[c]?)(e0:∀c,b=some c->∃me clock,w'.heap[c]?=some (.map me clock))(en:w'.heap.size=w.heap.size)(e2:w'.os=w.os)(e3:w'.tape=w.tape)(e4:w'.output=w.output)(lv)(e5:∀I∈lv,I∈st.lv∧I≠g∧I≠g2):
 ∃G':Gh,G'.box=G.box∧G'.own st.gen=some (.mp b bs')∧(br C G st.gen w).le (br C G' (st.gen+1) w')∧bq C n {st with lv:=st.gen::lv,gen:=st.gen+1} G' tmps w':=by
 let N:Nat->Option Row:=fun I=>if I=st.gen then some (.mp b bs')else if I=g then none else if I=g2 then none else G.own I;have e6:∀{c:Nat}{cs:Array Value}{T:TypeId}{f:Nat×Nat},w.heap[c]?=some (.cells cs T f)->b≠some c:=fun{c cs T f} hc e=>by subst e;obtain⟨_,_,_,ff,dt,c6⟩:=h.mrow g c bs hg;rw[c6]at hc;cases hc
 have a8:∀{c:Nat}{cs:Array Value}{T:TypeId}{f:Nat×Nat},w.heap[c]?=some (.cells cs T f)->w'.heap[c]?=some (.cells cs T f):=fun{c cs T f} hc=>by rw[a7 c (e6 hc)];exact hc
 have di:∀J o u,Ab.cellAt w J o=some u->Ab.cellAt w' J o=some u:=fun J o u hu=>by
  have ar:b≠some J:=fun e=>by subst e;obtain⟨_,_,_,ff,dt,c6⟩:=h.mrow g J bs hg;simp[Ab.cellAt,World.cell?,c6]at hu
  rw[cS (a7 J ar)];exact hu
 have dx:eW w w':=fun J cs T f h=>⟨cs,f,a8 h⟩;have hq:=h.gown g _ hg;have gj:=h.gown g2 _ aj;have a6:∀{I r'},N I=some r'->I≠st.gen->G.own I=some r'∧I≠g∧I≠g2:=by
  intro I r' O ar;simp only[N,if_neg ar]at O;split at O;·cases O
  ·split at O
   ·cases O
   ·rename_i e1 e2;exact⟨O,e1,e2⟩
 have ed:∀{r'},N st.gen=some r'->r'=.mp b bs':=fun{r'} O=>by simpa[N]using O.symm
 have b0:∀{I c len cap sz ad},N I=some (.blk c len cap sz ad)->I≠st.gen∧I≠g∧I≠g2∧G.own I=some (.blk c len cap sz ad):=fun{I c len cap sz ad} O=>by
  have ar:I≠st.gen:=fun e=>by subst e;cases ed O
  obtain⟨q1,q2,q3⟩:=a6 O ar;exact⟨ar,q2,q3,q1⟩
 have ch:∀{I b2 U},N I=some (.mp b2 U)->(I=st.gen∧b2=b∧U=bs')∨(I≠st.gen∧I≠g∧I≠g2∧G.own I=some (.mp b2 U)):=fun{I b2 U} O=>by
  by_cases e:I=st.gen
  ·subst e
   have:=ed O;simp only[Row.mp.injEq]at this;exact .inl ⟨rfl,this.1,this.2⟩
  ·obtain⟨q1,q2,q3⟩:=a6 O e
   exact .inr ⟨e,q2,q3,q1⟩
 have c7:∀{c lim},(c,lim)∈bs'->C.jX c lim∧(∀I,G.box I≠some c)∧(∀I len cap sz ad,G.own I=some (.blk c len cap sz ad)->I=g2∧ad=lim)∧(∀I b3 X ai,G.own I=some (.mp b3 X)->(c,ai)∈X->I=g∧ai=lim∧(c,lim)∈bs)∧∃cur T,w.heap[c]?=some (.cells cur T (0,0))∧lim<=cur.size∧gG cur:=by
  intro c lim hm;rcases c1 _ hm with hm|⟨len,cap,sz,O⟩
  ·obtain⟨s1,s2,s3,s4,s5⟩:=h.sub g b bs c lim hg hm
   exact⟨s1,s2,fun I len cap sz ad O=>absurd O (s3 _ _ _ _ _),fun I b3 X ai O dj=>⟨(s4 I b3 X ai O dj).1,(s4 I b3 X ai O dj).2,hm⟩,s5⟩
  ·rw[O]at aj
   obtain⟨s1,s2,s3,cur,T,s4,s5,s6,s7,s8,s9,ht,fj⟩:=h.row g2 c len cap sz lim aj;refine⟨s1,s2,fun I cj cl cx cq M=>?_,fun I b3 X ai M dj=>absurd aj ((h.sub I b3 X c ai M dj).2.2.1 _ _ _ _ _),cur,T,s4,?_,fj⟩
   ·have:=s3 I cj cl cx cq M
    subst this;rw[aj]at M;simp only[Option.some.injEq,Row.blk.injEq]at M;exact⟨rfl,M.2.2.2.2.symm⟩
   ·have:len*sz<=cap*sz:=Nat.mul_le_mul_right _ s6
    omega
 have fo:∀J o,cr C ⟨G.box,N⟩ J o->cr C G J o:=by
  rintro J o (hp|hp|⟨I,cj,cl,cx,cq,hp,hl'⟩|⟨I,b2,U,lim,hp,hm,hl'⟩);·exact .inl hp
  ·exact .inr (.inl hp)
  ·exact .inr (.inr (.inl ⟨I,cj,cl,cx,cq,(b0 hp).2.2.2,hl'⟩))
  ·rcases ch hp with⟨_,rfl,rfl⟩|⟨_,_,_,e⟩
   ·rcases c1 _ hm with hm|⟨len,cap,sz,O⟩
    ·exact .inr (.inr (.inr ⟨g,_,bs,lim,hg,hm,hl'⟩))
    ·rw[O]at aj;exact .inr (.inr (.inl ⟨g2,len,cap,sz,lim,aj,hl'⟩))
   ·exact .inr (.inr (.inr ⟨I,b2,U,lim,e,hm,hl'⟩))
 have er:Fr C w':=⟨e2.trans h.fr.os,e3.trans h.fr.tape,e4.trans h.fr.output,by rw[en];exact h.fr.size,fun J h1 h2=>by rw[a7 J (fun e=>by subst e;exact(h.mrow g J bs hg).1.1.elim (fun hm=>by omega) h2)];exact h.fr.block J h1 h2,fun J o u hk hu=>di J o u (h.fr.cells J o u hk hu),h.fr.ty.trans dx⟩
 have hle:(br C G st.gen w).le (br C ⟨G.box,N⟩ (st.gen+1) w'):=mA h.fr er (fun J o u hu hn=>⟨di J o u hu,fun hp=>hn (fo J o hp)⟩) (fun _ _ h=>h)
  (fun I r' a1 M=>(a6 M (U' a1)).1) (Nat.le_succ _) (fun I J cj cl cx cq a1 M=>by
   obtain⟨_,_,_,cur,T,q1,_⟩:=h.row I J cj cl cx cq (a6 M (U' a1)).1;rw[q1];exact a8 q1) (fun I J U a1 M=>by
   obtain⟨q1,q2,q3⟩:=a6 M (U' a1);refine⟨fun c hc=>by subst hc;exact a7 c (fun e=>by subst e;exact q2 ((h.mrow g c bs hg).2.2.1 I U q1)),fun p hp=>?_⟩;obtain⟨_,_,_,_,cur,T,q4,_⟩:=h.sub I J U p.1 p.2 q1 hp;rw[q4];exact a8 q4) dx
 refine⟨⟨G.box,N⟩,rfl,by simp[N],hle,{size:=h.size,frame:=h.e9 hle,inj:=h.inj,xold:=h.xold,kold:=h.kold,lent:=h.lent,fr:=er,gcell:=fun I J fs=>nE dx (h.gcell I J fs),box:=?_,gbox:=?_,live:=?_,gown:=?_,row:=?_,mrow:=?_,sub:=?_}⟩
 ·intro I cells hc
  obtain⟨J,cs,T',h1,h2,h3,h4,h5⟩:=h.box I cells hc;exact⟨J,cs,T',h1,a8 h2,h3,h4,fun i u a hu ha=>(h5 i u a hu ha).mono hle⟩
 ·intro I J hb
  obtain⟨h1,h2,h3⟩:=h.gbox I J hb;exact⟨Y' h1,by rw[en];exact h2,h3⟩
 ·intro I a1
  rcases C'.1 a1 with rfl|a1
  ·exact⟨_,by simp[N];rfl⟩
  ·obtain⟨h1,h2,h3⟩:=e5 I a1
   obtain⟨r',M⟩:=h.live I h1;exact⟨r',by simp only[N,if_neg (U' (h.gown I r' M)),if_neg h2,if_neg h3];exact M⟩
 ·intro I r' M
  by_cases e:I=st.gen;·simp only;omega
  ·exact Y' (h.gown I r' (a6 M e).1)
 ·intro I J len cap sz ad M
  obtain⟨_,_,_,e⟩:=b0 M;obtain⟨s1,s2,s3,cur,T,s4,s5⟩:=h.row I J len cap sz ad e;exact⟨s1,s2,fun g3 gq hf hv hh h2=>s3 _ _ _ _ _ (b0 h2).2.2.2,cur,T,a8 s4,s5⟩
 ·intro I J U M
  rcases ch M with⟨n0,rfl,rfl⟩|⟨n0,n1,n2,e⟩
  ·obtain⟨ei,ft,ej,_⟩:=h.mrow g J bs hg
   refine⟨ei,ft,fun g3 X h2=>?_,e0 J rfl⟩;rcases ch h2 with⟨q,_⟩|⟨_,q2,_,q3⟩
   ·omega
   ·exact absurd (ej g3 X q3) q2
  ·obtain⟨s1,s2,s3,gb,gd,s4⟩:=h.mrow I J U e
   have ar:b≠some J:=fun e=>by subst e;exact n1 ((h.mrow g J bs hg).2.2.1 I U (by assumption))
   refine⟨s1,s2,fun g3 X h2=>?_,gb,gd,by rw[a7 J ar];exact s4⟩;rcases ch h2 with⟨_,q,_⟩|⟨_,_,_,q3⟩
   ·exact absurd q.symm ar
   ·exact s3 g3 X q3
 ·intro I J U c lim M hm
  rcases ch M with⟨n0,rfl,rfl⟩|⟨n0,n1,n2,e⟩
  ·obtain⟨s1,s2,s3,s4,cur,T,s5,s6⟩:=c7 hm
   refine⟨s1,s2,fun g3 len cap sz ad h2=>?_,fun g3 b3 X df h2 cy=>?_,cur,T,a8 s5,s6⟩
   ·obtain⟨_,_,q3,q4⟩:=b0 h2
    exact q3 (s3 _ _ _ _ _ q4).1
   ·rcases ch h2 with⟨q,rfl,rfl⟩|⟨_,q2,_,q3⟩
    ·refine⟨by omega,?_⟩
     obtain⟨_,_,t3,t4,_⟩:=c7 cy;rcases c1 _ hm with q4|⟨len,cap,sz,q4⟩
     ·exact((t4 g _ bs lim hg q4).2.1).symm
     ·rw[q4]at aj
      exact((t3 g2 len cap sz lim aj).2).symm
    ·exact absurd (s4 g3 b3 X df q3 cy).1 q2
  ·obtain⟨s1,s2,s3,s4,cur,T,s5,s6⟩:=h.sub I J U c lim e hm
   refine⟨s1,s2,fun g3 len cap sz ad h2=>s3 _ _ _ _ _ (b0 h2).2.2.2,fun g3 b3 X df h2 cy=>?_,cur,T,a8 s5,s6⟩;rcases ch h2 with⟨_,rfl,rfl⟩|⟨_,_,_,q3⟩
   ·exact absurd ((c7 cy).2.2.2.1 I J U lim e hm).1 n1
   ·exact s4 g3 b3 X df q3 cy
end
def jk{α γ:Type}(kf:α->Value)(fn:γ->List D)(l:List (α×List γ)):List (Value×List (List D)):=l.map fun p=>(kf p.1,p.2.map fn)
section
variable{γ:Type}{kf:α→Value}{fn:γ→List D}
theorem Cc{l:List (α×List γ)}{i:Nat}{k:Value}{x:List (List D)}(h:(jk kf fn l)[i]?=some (k,x)):∃p,l[i]?=some p∧k=kf p.1∧x=p.2.map fn:=by grind[jk,Option.map_eq_some_iff,Prod.mk.injEq]
theorem zD{l k x}(h:(k,x)∈jk kf fn l):∃p∈l,k=kf p.1∧x=p.2.map fn:=by obtain⟨i,hi⟩:=Γ.1 h;obtain⟨p,hp,e⟩:=Cc hi;grind
structure sB(w:World)(pv:Nat->Nat->Prop)(b:Nat)(bs:List (Nat×Nat))(kf:α->Value)(fn:γ->List D)(l:List (α×List γ))(hole:Option Value)(me:Array MapEntry)(clock:Nat)(ps:Value->Option Nat):Prop where
 hb:w.heap[b]?=some (.map me clock)
 st:Stamped me clock
 mi:jH w pv kf (fun x:List γ=>D.sl (x.map fn)) me l
 inj:∀p p':α×List γ,∀c,p∈l->p'∈l->hole≠some (kf p.1)->hole≠some (kf p'.1)->ps (kf p.1)=some c->ps (kf p'.1)=some c->kf p.1=kf p'.1
 at_:∀(i:Nat)(m:MapEntry)(p:α×List γ),me[i]?=some m->l[i]?=some p->hole≠some (kf p.1)->nH w (ps (kf p.1)) bs m.val (p.2.map fn)
theorem sB.of{v l}(h:od w pv (.mp (some b) bs) v (jk kf fn l) hole):v=.map (some b)∧∃I clock ps,sB w pv b bs kf fn l hole I clock ps:=by
 obtain⟨h1,I,clock,h2,h3,h4,ps,h5,J⟩:=h;refine⟨h1,I,clock,ps,h2,h3,⟨by rw[h4];simp[jk],fun i m p hm hp=>?_⟩,fun p M c hp N q1 q2 q3 q4=>?_,fun i m p hm hp O=>?_⟩
 ·obtain⟨q1,q2,q3,_⟩:=J i m (kf p.1) (p.2.map fn) hm (by simp[jk,hp])
  grind
 ·exact h5 _ _ (p.2.map fn) (M.2.map fn) c (A'.2 ⟨p,hp,rfl⟩) (A'.2 ⟨M,N,rfl⟩) q1 q2 q3 q4
 ·exact(J i m (kf p.1) (p.2.map fn) hm (by simp[jk,hp])).2.2.2 O
theorem sB.to{l J ps}(h:sB w pv b bs kf fn l hole J clock ps):od w pv (.mp (some b) bs) (.map (some b)) (jk kf fn l) hole:=by
 refine⟨rfl,J,clock,h.hb,h.st,by rw[h.mi.1];simp[jk],ps,fun k U x X c I M q1 q2 q3 q4=>?_,fun i m k x hm I=>?_⟩
 ·obtain⟨p,hp,rfl,rfl⟩:=zD I
  obtain⟨O,N,rfl,rfl⟩:=zD M;exact h.inj p O c hp N q1 q2 q3 q4
 ·obtain⟨p,hp,rfl,rfl⟩:=Cc I
  obtain⟨q1,q2,q3⟩:=h.mi.2 i m p hm hp;exact⟨q1,q2,q3,h.at_ i m p hm hp⟩
theorem nH.mono{bs' o v l}(h:nH w o bs v l)(I:∀c lim,o=some c->(c,lim)∈bs->(c,lim)∈bs'∧w'.heap[c]?=w.heap[c]?):nH w' o bs' v l:=by
 cases o with
 |none=>exact h
 |some c=>obtain⟨cap,sz,cur,T,J,a2,a3,a4,a5,M,N,O,a9⟩:=h;obtain⟨q1,q2⟩:=I c _ rfl a2;exact⟨cap,sz,cur,T,J,q1,a3,a4,a5,M,N,by rw[q2];exact O,a9⟩
end
section
variable(T:cT P){n:Nat}{rest:List Oper}
variable{bx:List (Nat×List A)}{gen:Nat}{pos:String}{af:Array Edge}{c:Code}
variable{γ:Type}[DecidableEq α]{kf:α→Value}{fn:γ→List D}
omit [DecidableEq α] in
theorem bq.Gq(hs:bq C n st G tmps w){v l U}(X:bG (br C G st.gen w) v (.mo g (jk kf fn l) hole U))(O:g∈st.lv):
 ∃b bs M clock ps,G.own g=some (.mp (some b) bs)∧v=.map (some b)∧sB w (cr C G) b bs kf fn l hole M clock ps:=by
 obtain⟨r,J⟩:=hs.live g O
 cases X with
 |mo _ _ _ _ _ ad h1 N=>
 have I:=N r J
 cases r with
 |nil=>exact I.elim
 |zero b=>exact I.elim
 |blk b len cap sz ai=>exact I.elim
 |mp b bs=>
   cases b with
   |none=>exact I.elim
   |some b=>
   obtain⟨h2,M,clock,ps,h3⟩:=sB.of I;exact⟨b,bs,M,clock,ps,J,h2,h3⟩
theorem KV{t}(hd:Nat.blt d n=true)(h:WO P C n ops Q rest ⟨(d,.mo gen [] none none)::f,bx,gen::lv,gen+1⟩):WO P C n ops Q (⟨some d,.makeMap t none,ty,pos,af,none⟩::rest) ⟨f,bx,lv,gen⟩:=by
 refine WO.step (st:=⟨f,bx,lv,gen⟩) Z fun tmps w⟨G,hs⟩=>?_;obtain⟨U,N,J⟩:=hs.yY;refine dw (v:=.map (some w.heap.size)) (w':=w.alloc (.map #[] 0)) ?_ ⟨_,⟨U,N.put (dst:=some d) (dp (dst:=some d) hd) ?_⟩,h⟩
 ·unfold execOp
  show Sem.run P _ w=.ok _ _;simp[Instr.makeMap,Sem.run_bind,Result.andThen]
 ·cases J with
  |mp _ _ _ O h1 M=>
  refine .mo _ _ _ _ _ O ⟨h1,fun b hb=>by cases hb⟩ (fun r J=>?_);have I:=M r J
  cases r with
  |nil=>exact I.elim
  |zero b=>exact I.elim
  |blk b len cap sz ad=>exact I.elim
  |mp b bs=>
    cases b with
    |none=>exact I.elim
    |some b=>
    obtain⟨q1,X,clock,q2,q3,q4,_⟩:=I;exact⟨q1,X,clock,q2,q3,q4,fun _=>none,fun _ _ _ _ _ h=>(by cases h),fun i m k x hm hk=>(by simp at hk)⟩
theorem W.J0(gq I){X:List A}{es}(hq:bk bx gq=some X)(hj:X[I]?=some (.mo g es hole none))(ai:(lv.any fun h=>Nat.beq h g)=true)(h:∀b,W P C n c Q ⟨f,(gq,X.set I (.mo g es hole (some b)))::bx,lv,gen⟩):W P C n c Q ⟨f,bx,lv,gen⟩:=by
 intro tmps w ⟨G,hs⟩;obtain⟨r,aj⟩:=hs.live g (dU ai);obtain⟨b0,J,T0,p1,p2,p3,p4,p5⟩:=hs.box gq X hq;have ar:I<J.size:=by rw[p3];exact(δ.1 hj).1
 have M:J[I]?=some J[I]:=by simp[ar]
 have N:=p5 I _ _ M hj;generalize hv:J[I]=v at N M
 cases N with
 |mo _ _ _ _ _ a1 h1 O=>
 have U:=O r aj
 cases r with
 |nil=>exact U.elim
 |zero b=>exact U.elim
 |blk b len cap sz a8=>exact U.elim
 |mp b bs=>
   cases b with
   |none=>exact U.elim
   |some b=>
   have a6:v=.map (some b):=U.1;refine h b tmps w ⟨G,hs.lg hq (by simp) fun b3 b2 T3 q1 q2 q3 i x' a' ad ha=>?_⟩;by_cases e:I=i
   ·subst e
    rw[List.getElem?_set_self (δ.1 hj).1]at ha;simp only[Option.some.injEq]at ha;subst ha;rw[p1]at q1;cases q1;rw[p2]at q2;cases q2;rw[M]at ad;cases ad;exact .mo _ _ _ _ _ a1 ⟨h1.1,fun b' a7=>by cases a7;exact a6⟩ O
   ·grind
theorem uz{vf:β->D}{O:cY}(ht:bk T.l mt=some O)(U:O.k=.map k e)(he:bk T.l e=some I)(M:lC P k kf){zx}(X:I.z=[zx])(ad:pq I.k=true){N:Array MapEntry}(hb:w.heap[b]?=some (.map N clock)){l:List (α×β)}(h:jH w pv kf vf N l)(hn:(l.map (·.1)).Nodup)(a:α):
 ∃v,(Instr.lookup mt (.map (some b)) (kf a) false).run P w=.ok v w∧((cC l a=none∧(∀p∈l,p.1≠a)∧v=zx)∨∃(j:Nat)(m:MapEntry)(p:α×β),N[j]?=some m∧l[j]?=some p∧p.1=a∧v=m.val∧cC l a=some p.2∧b7 w pv v (vf p.2)):=by
 obtain⟨d,hd,hk⟩:=M.ty;have hm:=T.yB ht U;rcases h.find M hn a with⟨h1,h2,h3⟩|⟨j,en,p,h1,h2,h3,h4,h5,h6,h7⟩
 ·obtain⟨i,J,hi,_,_,ai,aj,_,_,ar⟩:=T.info he
  have a1:J=zx:=by rw[X]at aj;cases hke:I.k<;>rw[hke]at ad ar<;>cases J<;>simp_all[Value.cells,pq]
  subst a1;refine⟨J,?_,.inl ⟨h3,h2,rfl⟩⟩;unfold Instr.lookup;simp only[Sem.run_bind,run_underlying hm,Result.andThen_ok,Go.MapKept.run_getObj_map hb,Sem.run_pure,run_checkKey hd (hk a),h1];have:(zeroValue e).run P w=.ok J w:=by simp[zeroValue,typeInfo,Sem.run_bind,run_program,hi,ai,Result.andThen]
  simp_all
 ·refine⟨en.val,?_,.inr ⟨j,en,p,h2,h3,h4,rfl,h6,h7⟩⟩
  unfold Instr.lookup;simp only[Sem.run_bind,run_underlying hm,Result.andThen_ok,Go.MapKept.run_getObj_map hb,Sem.run_pure,run_checkKey hd (hk a),h1];rfl
theorem HA{U:cY}{m O}{l:List (α×List γ)}{a:α}{ob}(hm:av f m=some (.mo g (jk kf fn l) none ob))(hk:av f O=some (.d (.v (kf a))))(ht:bk T.l mt=some U)(X:U.k=.map k e)(he:bk T.l e=some N)(ad:lC P k kf)(ai:(lv.any fun h=>Nat.beq h g)=true)(aj:N.z=[.slice none 0 0])(ar:pq N.k=true)(hn:(l.map (·.1)).Nodup){r}(hr:((cC l a).getD []).map fn=r):
 Pu P C n ⟨f,bx,lv,gen⟩ ⟨dst,.lookup mt m O false,ty,pos,af,none⟩ (.d (.sl r)):=by
 subst hr;refine aq fun G tmps w hs=>?_;have J:=hs.av hm;have I:=hs.av hk;generalize hv:Act.eval ⟨tmps,[]⟩ m=v at J;generalize a1:Act.eval ⟨tmps,[]⟩ O=vk at I;obtain⟨b,bs,me,clock,ps,a6,rfl,M⟩:=hs.Gq J (dU ai);cases I with|d I=>cases I with|v _ hok=>
 obtain⟨u,h1,h2⟩:=uz (P:=P) T ht X he ad aj ar M.hb M.mi hn a;refine⟨u,?_,?_⟩
 ·unfold execOp
  show Sem.run P _ w=.ok _ _;simp only[hv,a1,Sem.run_bind,h1,Result.andThen_ok,Sem.run_pure];rfl
 ·rcases h2 with⟨q1,_,rfl⟩|⟨j,mm,p,_,_,_,_,q1,q2⟩
  ·rw[q1];exact .d .nil
  ·rw[q1];exact .d q2
theorem wi(I J){t p}{M:List A}{es}(hp:av f p=some (.ptr I J))(O:bk bx I=some M)(hj:M[J]?=some (.mo g es hole (some b)))(N:kX T f bx (.load t p)=some (.mo g es hole (some b))):Pu P C n ⟨f,bx,lv,gen⟩ ⟨dst,.load t p,ty,pos,af,none⟩ (.d (.v (.map (some b)))):=by
 intro G tmps w hs;refine(Pu.ev (P:=P) (C:=C) (n:=n) (st:=⟨f,bx,lv,gen⟩) T N G tmps w hs).mono fun v w'⟨h1,h2⟩=>⟨h1,?_⟩
 cases h2 with
 |mo _ _ _ _ _ _ h3 _=>rw[h3.2 b rfl];exact .d (.v _ rfl)
end
theorem b7.LF{v}(h:b7 w pv v (.sl es)):∃s,∀(e:List D),e∈es->e.length=s:=by
 cases h with
 |nil=>exact⟨0,by simp⟩
 |emp=>exact⟨0,by simp⟩
 |sl b off len cap sz _ u hl I hm hs hu J=>exact⟨sz,fun e he=>by obtain⟨i,hi⟩:=Γ.1 he;exact hs i e hi⟩
section
variable(T:cT P){n:Nat}{rest:List Oper}
variable{bx:List (Nat×List A)}{gen:Nat}{pos:String}{af:Array Edge}{c:Code}
variable{γ:Type}[DecidableEq α]{kf:α→Value}{fn:γ→List D}
theorem Gb(gq M:Nat){m kx}{cq:List A}{l:List (α×List γ)}{a:α}(hd:Nat.blt d n=true)(hm:av f m=some (.d (.v (.map (some b)))))(X:bk bx gq=some cq)(hj:cq[M]?=some (.mo g (jk kf fn l) none (some b)))(hk:av f kx=some (.d (.v (kf a))))(ht:bk T.l mt=some td)(c1:td.k=.map k e)(he:bk T.l e=some ed)(c6:lC P k kf)(c7:(lv.any fun h=>Nat.beq h g)=true)(df:ed.z=[.slice none 0 0])(di:pq ed.k=true)(hn:(l.map (·.1)).Nodup){x}(hx:((cC l a).getD []).map fn=x)(dj:gen::(gen+1)::cu lv g=lv'){a6}(dt:cq.set M (.mo gen (jk kf fn l) (some (kf a)) (some b))=a6)(h:WO P C n ops Q rest ⟨(d,.own (gen+1) x)::f,(gq,a6)::bx,lv',gen+2⟩):WO P C n ops Q (⟨some d,.lookup mt m kx false,ty,pos,af,none⟩::rest) ⟨f,bx,lv,gen⟩:=by
 subst dt;subst dj;subst hx;refine WO.step (st:=⟨f,bx,lv,gen⟩) rfl fun tmps w⟨G,hs⟩=>?_;have ai:=hs.av hm;have aj:=hs.av hk;generalize hv:Act.eval ⟨tmps,[]⟩ m=v at ai;generalize dx:Act.eval ⟨tmps,[]⟩ kx=vk at aj;cases ai with|d ai=>cases ai with|v _ hg=>
 cases aj with|d aj=>cases aj with|v _ hok=>
 obtain⟨b0,ad,T0,p1,p2,p3,p4,p5⟩:=hs.box gq cq X;have ei:M<ad.size:=by rw[p3];exact(δ.1 hj).1
 have a7:ad[M]?=some ad[M]:=by simp[ei]
 have U:=p5 M _ _ a7 hj;have a8:ad[M]=.map (some b):=by generalize ad[M]=y at U;cases U with|mo _ _ _ _ _ _ h1 _=>exact h1.2 b Z
 rw[a8]at U;obtain⟨b',bs,me,clock,ps,ej,b2,I⟩:=hs.Gq U (dU c7);simp only[Value.map.injEq,Option.some.injEq]at b2;subst b2;obtain⟨u,h1,h2⟩:=uz (P:=P) T ht c1 he c6 df di I.hb I.mi hn a;have h0:(execOp (Act.eval ⟨tmps,[]⟩) ⟨some d,.lookup mt m kx false,ty,pos,af,none⟩).run P w=.ok (.value u) w:=by unfold execOp;show Sem.run P _ w=.ok _ _;simp only[hv,dx,Sem.run_bind,h1,Result.andThen_ok,Sem.run_pure]
 have key:∀(x:List (List D))(r2:Row)(bs':List (Nat×Nat)),(∀p∈bs',p∈bs)->(∀b' bs',r2≠.mp b' bs')->
  (∀c len cap sz a1,r2=.blk c len cap sz a1->(c,a1)∈bs∧(∀p∈bs',p.1≠c)∧∃cur T,w.heap[c]?=some (.cells cur T (0,0))∧cur.size=cap*sz∧len<=cap∧cap<=maxLen∧0<sz∧0<len∧a1<=len*sz∧gG cur)->
  (∀(i:Nat)(O:MapEntry)(p:α×List γ),me[i]?=some O->l[i]?=some p->some (kf a)≠some (kf p.1)->nH w (ps (kf p.1)) bs' O.val (p.2.map fn))->
  b7 w (cr C G) u (.sl x)->(∃s,(∀(e:List D),e∈x->e.length=s)∧tC r2 u x.length s)->
  ∃J,bq C n ⟨(d,.own (gen+1) x)::f,(gq,cq.set M (.mo gen (jk kf fn l) (some (kf a)) (some b)))::bx,gen::(gen+1)::cu lv g,gen+2⟩ J (Act.put ⟨tmps,[]⟩ (some d) u).tmps w:=by
  intro x r2 bs' cx en er e0 e3 gd;obtain⟨J,e4,e5,hh,hle,e6⟩:=hs.split ej cx r2 en er (cu lv g) (fun g' ff=>dH ff);have cy:sB w (cr C J) b bs' kf fn l (some (kf a)) me clock ps:=⟨I.hb,I.st,I.mi.mono fun b o u hu hp=>hle.cell b o u hu hp,fun p p' c hp fj _ _ q3 q4=>I.inj p p' c hp fj (by simp) (by simp) q3 q4,e0⟩;have fo:=e6.lg (f:=f) (bx:=bx) (lv:=gen::(gen+1)::cu lv g) (gen:=gen+2) X (cells':=cq.set M (.mo gen (jk kf fn l) (some (kf a)) (some b))) (by simp) fun b3 ho T3 q1 q2 q3 i x' a' ch ha=>by
   by_cases e:M=i
   ·subst e
    rw[List.getElem?_set_self (δ.1 hj).1]at ha;simp only[Option.some.injEq]at ha;subst ha;rw[e4,p1]at q1;cases q1;rw[p2]at q2;cases q2;rw[a7,a8]at ch;cases ch;exact .mo _ _ _ _ _ (by simp[br]) ⟨rfl,fun b' fs=>by cases fs;rfl⟩ (fun r hr=>by have:J.own gen=some r:=hr;rw[e5]at this;cases this;exact cy.to)
   ·grind
  refine⟨J,fo.put (dst:=some d) (dp (dst:=some d) hd) (.own _ _ x (e3.mono fun b o u hu hp=>hle.cell b o u hu hp) (by simp[br]) (fun r hr=>?_))⟩;have:J.own (gen+1)=some r:=hr;grind
 refine dw h0 ?_;rcases h2 with⟨q1,q2,rfl⟩|⟨j,O,p,q1,q2,q3,q4,q5,q6⟩
 ·obtain⟨J,N⟩:=key [] .nil bs (fun _ h=>h) (fun _ _ h=>by cases h) (fun _ _ _ _ _ h=>by cases h) (fun i O p hm hp _=>I.at_ i O p hm hp (by simp)) .nil ⟨0,by simp,rfl,rfl⟩
  refine⟨_,⟨J,N⟩,?_⟩;grind
 ·subst q3;subst q4
  have ar:=I.at_ j O p q1 q2 (by simp);rw[q5]at h;obtain⟨s,cj⟩:=q6.LF
  cases hps:ps (kf p.1)with
  |none=>
    rw[hps]at ar;rcases ar with⟨t1,t2⟩|⟨c,off,t1⟩
    ·obtain⟨J,N⟩:=key (p.2.map fn) .nil bs (fun _ h=>h) (fun _ _ h=>by cases h) (fun _ _ _ _ _ h=>by cases h) (fun i O p hm hp _=>I.at_ i O p hm hp (by simp)) q6 ⟨s,cj,t1,by rw[t2];rfl⟩
     exact⟨_,⟨J,N⟩,h⟩
    ·obtain⟨J,N⟩:=key (p.2.map fn) (.zero c) bs (fun _ h=>h) (fun _ _ h=>by cases h) (fun _ _ _ _ _ h=>by cases h) (fun i O p hm hp _=>I.at_ i O p hm hp (by simp)) q6 ⟨s,cj,off,t1⟩
     exact⟨_,⟨J,N⟩,h⟩
  |some c=>
    rw[hps]at ar;obtain⟨cap,sz,cur,T1,t1,t2,t3,t4,t5,t6,t7,t8,t9,t10⟩:=ar
    obtain⟨J,N⟩:=key (p.2.map fn) (.blk c (p.2.map fn).length cap sz ((p.2.map fn).length*sz)) (bs.filter fun q=>!Nat.beq q.1 c) (fun q X=>(List.mem_filter.1 X).1) (fun _ _ h=>by cases h)
     (fun c' gj hc hy hf h=>by simp only[Row.blk.injEq]at h;obtain⟨rfl,rfl,rfl,rfl,rfl⟩:=h;exact⟨t2,fun q X e=>by have:=(List.mem_filter.1 X).2;rw[e]at this;simp at this,cur,T1,t8,t9,t6,t7,t4,t5,ω _,t10⟩)
     (fun i m2 p2 ft cl gb=>(I.at_ i m2 p2 ft cl (by simp)).mono fun c' lim e1 e2=>⟨List.mem_filter.2 ⟨e2,by
      have:c'≠c:=fun e=>by subst e;have:=I.inj p p2 c' (ζ q2) (ζ cl) (by simp) (by simp) hps e1;exact gb (by rw[this])
      cases X:Nat.beq c' c with
      |false=>rfl
      |true=>exact absurd (Θ X) this⟩,rfl⟩) q6 ⟨sz,t3,t1,rfl,rfl,rfl⟩
    exact⟨_,⟨J,N⟩,h⟩
theorem uh{vf:β->D}(ht:bk T.l mt=some td)(aj:td.k=.map k e)(U:lC P k kf){M}(hb:w.heap[b]?=some (.map M clock)){l:List (α×β)}(ad:Stamped M clock)(h:jH w pv kf vf M l)(X:(l.map (·.1)).Nodup)(a:α)(ar:dn (kf a)=true){v}{y:β}(hv:b7 w pv v (vf y)):
 ∃N I,(Instr.mapUpdate mt (.map (some b)) (kf a) v).run P w=.ok () {w with heap:=w.heap.setIfInBounds b (.map N I)}∧Stamped N I∧jH w pv kf vf N (dN l a y)∧
   ∀(i:Nat)(m:MapEntry)(p:α×β),N[i]?=some m->(dN l a y)[i]?=some p->(p=(a,y)∧m.val=v)∨(p.1≠a∧∃m0,M[i]?=some m0∧l[i]?=some p∧m0.val=m.val):=by
 obtain⟨d,hd,hk⟩:=U.ty;have hm:=T.yB ht aj;rcases h.find U X a with⟨h1,h2,_⟩|⟨j,en,p,h1,h2,h3,h4,h5,_,_⟩
 ·refine⟨M.push ⟨kf a,v,clock⟩,clock+1,?_,stamped_push ad (fun x hx=>?_),?_,?_⟩
  ·unfold Instr.mapUpdate
   simp only[Sem.run_bind,run_underlying hm,Result.andThen_ok,Go.MapKept.run_getObj_map hb,run_checkKey hd (hk a),h1];exact Go.MapKept.run_setObj_map _ hb
  ·obtain⟨i,hi⟩:=Γ.1 hx
   have ai:M[i]?=some x:=by simpa using hi
   have O:i<l.length:=by rw[<-h.1];exact(θ.1 ai).1
   rw[(h.2 i x l[i] ai (by simp[O])).1];exact fun e=>h2 l[i] (by simp) (U.inj _ _ e)
  ·rw[lB h2]
   refine⟨by simp[h.1],fun i m p hm hp=>?_⟩;rw[Array.getElem?_push]at hm;split at hm
   ·rename_i hi
    rw[Ω (by rw[hi,h.1];exact ω _)]at hp;grind
   ·have O:i<l.length:=by rw[<-h.1];exact(θ.1 hm).1
    rw[y' O]at hp;exact h.2 i m p hm hp
  ·rw[lB h2]
   intro i m p hm hp;rw[Array.getElem?_push]at hm;split at hm
   ·rename_i hi
    rw[Ω (by rw[hi,h.1];exact ω _)]at hp;grind
   ·have O:i<l.length:=by rw[<-h.1];exact(θ.1 hm).1
    grind
 ·refine⟨M.modify j fun e=>{e with key:=kf a,val:=v},clock,?_,stamped_modify ad j _ (fun _ _=>rfl) (fun e _ he=>by rw[h2]at he;cases he;exact h5.symm),?_,?_⟩
  ·unfold Instr.mapUpdate
   simp only[Sem.run_bind,run_underlying hm,Result.andThen_ok,Go.MapKept.run_getObj_map hb,run_checkKey hd (hk a),h1,h2,Option.map_some,Option.getD_some,h5,run_keyThatStays (hk a)];exact Go.MapKept.run_setObj_map _ hb
  ·subst h4
   rw[xo X h3];refine⟨by simp[h.1],fun i m q hm J=>?_⟩;rw[Array.getElem?_modify]at hm;rw[List.getElem?_set]at J;by_cases hij:j=i;·grind
   ·rw[if_neg hij]at hm J
    exact h.2 i m q hm J
  ·subst h4
   rw[xo X h3];intro i m q hm J;rw[Array.getElem?_modify]at hm;rw[List.getElem?_set]at J;by_cases hij:j=i;·grind
   ·rw[if_neg hij]at hm J
    refine .inr ⟨fun e=>hij ?_,m,hm,J,rfl⟩;have h6:(l.map (·.1))[j]?=some p.1:=by simp[h3]
    have h7:(l.map (·.1))[i]?=some p.1:=by simp[J,e]
    obtain⟨a1,a6⟩:=δ.1 h6;obtain⟨a7,a8⟩:=δ.1 h7;have b0:=Z'.1 X;grind
open Classical in
theorem IS(gq X:Nat){m kx}{cq:List A}{l:List (α×List γ)}{a:α}{y:List γ}(hm:av f m=some (.d (.v (.map (some b)))))(hq:bk bx gq=some cq)(hj:cq[X]?=some (.mo g (jk kf fn l) (some (kf a)) (some b)))(hk:av f kx=some (.d (.v (kf a))))(hx:av f x=some (.own g2 (y.map fn)))(ht:bk T.l mt=some td)(gd:td.k=.map k e)(M:lC P k kf)(gj:(lv.any fun h=>Nat.beq h g)=true)(e6:(lv.any fun h=>Nat.beq h g2)=true)(hf:Nat.beq g2 g=false)(hn:(l.map (·.1)).Nodup)(hg:gen::cu (cu lv g) g2=lv'){dt}(hh:cq.set X (.mo gen (jk kf fn (dN l a y)) none none)=dt)(h:WO P C n ops Q rest ⟨f,(gq,dt)::bx,lv',gen+1⟩):WO P C n ops Q (⟨none,.mapUpdate mt m kx x,ty,pos,af,none⟩::rest) ⟨f,bx,lv,gen⟩:=by
 subst hh;subst hg;refine WO.step (st:=⟨f,bx,lv,gen⟩) rfl fun tmps w⟨G,hs⟩=>?_;have b2:=hs.av hm;have ch:=hs.av hk;have dx:=hs.av hx;generalize hv:Act.eval ⟨tmps,[]⟩ m=v at b2;generalize ho:Act.eval ⟨tmps,[]⟩ kx=vk at ch;generalize hy:Act.eval ⟨tmps,[]⟩ x=vx at dx;cases b2 with|d b2=>cases b2 with|v _ hR=>
 cases ch with|d ch=>cases ch with|v _ hok=>
 obtain⟨r2,ar⟩:=hs.live g2 (dU e6)
 cases dx with
 |own _ _ _ hA hQ hD=>
 obtain⟨s,hE,a1⟩:=hD r2 ar;have hF:g2≠g:=fun e=>by subst e;simp at hf
 obtain⟨b0,a6,T0,p1,p2,p3,p4,p5⟩:=hs.box gq cq hq;have hG:X<a6.size:=by rw[p3];exact(δ.1 hj).1
 have ed:a6[X]?=some a6[X]:=by simp[hG]
 have ai:=p5 X _ _ ed hj;have ei:a6[X]=.map (some b):=by generalize a6[X]=y at ai;cases ai with|mo _ _ _ _ _ _ h1 _=>exact h1.2 b Z
 rw[ei]at ai;obtain⟨b',bs,me,clock,ps,ej,en,N⟩:=hs.Gq ai (dU gj);simp only[Value.map.injEq,Option.some.injEq]at en;subst en;obtain⟨J,I,fj,fo,cl,er⟩:=uh (P:=P) T (y:=y) ht gd M N.hb N.st N.mi hn a hok hA;have h0:(execOp (Act.eval ⟨tmps,[]⟩) ⟨none,.mapUpdate mt m kx x,ty,pos,af,none⟩).run P w=.ok .skip {w with heap:=w.heap.setIfInBounds b (.map J I)}:=by unfold execOp;show Sem.run P _ w=.ok _ _;simp only[hv,ho,hy,Sem.run_bind,fj,Result.andThen_ok,Sem.run_pure]
 obtain⟨cx,cy⟩:=heap_set (o':=Obj.map J I) N.hb;obtain⟨bs',oc,fs,ft,e0⟩:∃(bs':List (Nat×Nat))(oc:Option Nat),(∀p∈bs,p∈bs')∧(∀p∈bs',p∈bs∨∃len cap sz,r2=.blk p.1 len cap sz p.2)∧(nH w oc bs' vx (y.map fn)∧∀c,oc=some c->∃len cap sz ad,r2=.blk c len cap sz ad):=by
  cases r2 with
  |nil=>exact⟨bs,none,fun _ h=>h,fun _ h=>.inl h,.inl ⟨a1.1,O' a1.2⟩,fun c O=>by cases O⟩
  |zero c=>exact⟨bs,none,fun _ h=>h,fun _ h=>.inl h,.inr ⟨c,a1⟩,fun c O=>by cases O⟩
  |mp _ _=>exact a1.elim
  |blk c len cap sz ad=>
    obtain⟨t1,t2,t3,t4⟩:=a1;obtain⟨_,_,_,cur,T1,u1,u2,u3,u4,u5,u6,u7,u8⟩:=hs.row g2 c len cap sz ad ar;refine⟨(c,ad)::bs,some c,fun p hp=>q' _ hp,fun p hp=>?_,⟨cap,sz,cur,T1,by rw[t1,t2],?_,fun e he=>(hE e he).trans t3,u5,by omega,by omega,u4,u1,u2,u8⟩,fun c' hH=>by cases hH;exact⟨len,cap,sz,ad,rfl⟩⟩
    ·rcases C'.1 hp with rfl|hp
     ·exact .inr ⟨len,cap,sz,rfl⟩
     ·exact .inl hp
    ·rw[t2,←t4];exact D'
 obtain⟨G',hI,hJ,hle,hK⟩:=hs.join (w':={w with heap:=w.heap.setIfInBounds b (.map J I)}) ej ar hF ft (fun c O=>cy c (fun e=>O (by rw[e]))) (fun c O=>⟨J,I,by cases O;exact cx⟩) (by simp) rfl rfl rfl (cu (cu lv g) g2) (fun g' hL=>by obtain⟨t1,t2⟩:=dH hL;obtain⟨t3,t4⟩:=dH t1;exact⟨t3,t4,t2⟩);have a7:∀{c:Nat}{cs:Array Value}{T:TypeId}{ff:Nat×Nat},w.heap[c]?=some (.cells cs T ff)->(w.heap.setIfInBounds b (.map J I))[c]?=w.heap[c]?:=fun{c cs T ff} O=>cy c (fun e=>by rw[e,N.hb]at O;cases O);have c1:∀{o:Option Nat}{v:Value}{z:List (List D)}{c6 c7:List (Nat×Nat)},nH w o c6 v z->(∀p∈c6,p∈c7)->nH {w with heap:=w.heap.setIfInBounds b (.map J I)} o c7 v z:=fun{o v z c6 c7} hz hM=>by
  cases o with
  |none=>exact hz
  |some c=>obtain⟨cap,sz,cur,T1,t1,t2,t3,t4,t5,t6,t7,t8,t9⟩:=hz;exact⟨cap,sz,cur,T1,t1,hM _ t2,t3,t4,t5,t6,t7,(a7 t8).trans t8,t9⟩
 have a8:∀(p:α×List γ)(c:Nat),p∈l->p.1≠a->ps (kf p.1)=some c->∃lim,(c,lim)∈bs:=fun p c hp cj O=>by
  obtain⟨i,hi⟩:=Γ.1 hp;have df:i<me.size:=by rw[N.mi.1];exact(δ.1 hi).1
  have:=N.at_ i me[i] p (by simp[df]) hi (fun e=>cj (M.inj _ _ (P' e)).symm);rw[O]at this;obtain⟨cap,sz,cur,T1,t1,t2,_⟩:=this;exact⟨_,t2⟩
 have aj:∀p∈dN l a y,p.1≠a->p∈l:=fun p hp cj=>by
  obtain⟨i,hi⟩:=Γ.1 hp;have df:i<J.size:=by rw[cl.1];exact(δ.1 hi).1
  rcases er i J[i] p (by simp[df]) hi with⟨e,_⟩|⟨_,m0,_,e,_⟩
  ·rw[e]at cj;exact absurd rfl cj
  ·exact ζ e
 have di:∀(c:Nat),oc=some c->∀lim,(c,lim)∉bs:=fun c O lim hm=>by obtain⟨len,cap,sz,ad,e⟩:=e0.2 c O;rw[e]at ar;exact(hs.sub g b bs c lim ej hm).2.2.1 _ _ _ _ _ ar
 have gb:sB {w with heap:=w.heap.setIfInBounds b (.map J I)} (cr C G') b bs' kf fn (dN l a y) none J I (fun k=>if k=kf a then oc else ps k):=by
  refine⟨cx,fo,cl.mono fun b o u hu hp=>hle.cell b o u hu hp,fun p p' c hp e5 _ _ q3 q4=>?_,fun i mm p hN hp _=>?_⟩
  ·by_cases e1:p.1=a
   ·by_cases U:p'.1=a
    ·rw[e1,U]
    ·rw[e1,if_pos rfl]at q3
     rw[if_neg (fun e=>U (M.inj _ _ e))]at q4;obtain⟨lim,hm⟩:=a8 p' c (aj p' e5 U) U q4;exact absurd hm (di c q3 lim)
   ·rw[if_neg (fun e=>e1 (M.inj _ _ e))]at q3
    by_cases U:p'.1=a
    ·rw[U,if_pos rfl]at q4
     obtain⟨lim,hm⟩:=a8 p c (aj p hp e1) e1 q3;exact absurd hm (di c q4 lim)
    ·rw[if_neg (fun e=>U (M.inj _ _ e))]at q4
     exact N.inj p p' c (aj p hp e1) (aj p' e5 U) (fun e=>e1 (M.inj _ _ (P' e)).symm) (fun e=>U (M.inj _ _ (P' e)).symm) q3 q4
  ·rcases er i mm p hN hp with⟨e,U⟩|⟨e,m0,U,e3,e4⟩
   ·rw[e,U]
    simp only[if_true];exact c1 e0.1 (fun _ h=>h)
   ·rw[if_neg (fun e'=>e (M.inj _ _ e')),←e4]
    exact c1 (N.at_ i m0 p U e3 (fun e'=>e (M.inj _ _ (P' e')).symm)) fs
 refine jN h0 ⟨_,⟨G',hK.lg (f:=f) (bx:=bx) (lv:=gen::cu (cu lv g) g2) (gen:=gen+1) hq (by simp) fun b3 hS T3 q1 q2 q3 i x' a' dj ha=>?_⟩,h⟩;by_cases e:X=i
 ·subst e
  have hO:X<cq.length:=(δ.1 hj).1;rw[List.getElem?_set_self hO]at ha;simp only[Option.some.injEq]at ha;subst ha;rw[hI,p1]at q1;cases q1;rw[show({w with heap:=w.heap.setIfInBounds b (.map J I)}:World).heap[b0]?=w.heap[b0]?from a7 p2,p2]at q2;cases q2;rw[ed,ei]at dj;cases dj;exact .mo _ _ _ _ _ (by simp[br]) ⟨rfl,fun b' hP=>by cases hP⟩ (fun r hr=>by have:G'.own gen=some r:=hr;rw[hJ]at this;cases this;exact gb.to)
 ·rw[List.getElem?_set_ne e]at ha
  exact q3 i x' a' dj ha
end
section
variable{n:Nat}{c:Code}{rest:List Oper}
variable{f':List (Nat×A)}{bx:List (Nat×List A)}{gen:Nat}
theorem bq.JQ(hs:bq C n ⟨f,bx,lv,gen⟩ G tmps w)(s s2:Nat)(hl:look f s=some (.own g es))(M:Nat.blt s n=true)(I:Nat.blt s2 n=true):
 ∃v,dn v=true∧bq C n ⟨(s,.d (.v v))::(s2,.ow g es v)::f,bx,lv,gen⟩ G tmps w:=by
 obtain⟨v,U,X⟩:=hs.frame s _ hl
 cases X with
 |own _ _ _ hd hg J=>
 have hok:dn v=true:=by cases hd<;>rfl
 have N:s2<tmps.size:=by rw[hs.size];exact κ I
 have O:tmps[s2]?=some tmps[s2]:=by simp[N]
 refine⟨v,hok,?_⟩;have h1:=hs.set (d:=s2) (κ I) (v:=tmps[s2]) (a:=.ow g es v) (.ow _ v g es hd hg J);rw[gh O]at h1;have h2:=h1.set (d:=s) (κ M) (v:=v) (a:=.d (.v v)) (.d (.v v hok));rwa[gh U]at h2
theorem Io(s s2:Nat)(hl:look f s=some (.own g es))(J:Nat.blt s n=true)(I:Nat.blt s2 n=true)(h:∀v,dn v=true->WO P C n ops Q rest ⟨(s,.d (.v v))::(s2,.ow g es v)::f,bx,lv,gen⟩):WO P C n ops Q rest ⟨f,bx,lv,gen⟩:=by
 intro tmps w ⟨G,hs⟩;obtain⟨v,M,h1⟩:=hs.JQ s s2 hl J I;exact h v M tmps w ⟨G,h1⟩
theorem KJ(s2:Nat)(I:Nat.blt s2 n=true)(h:W P C n c Q ⟨(s2,.ow gen [] (.slice none 0 0))::f,bx,gen::lv,gen+1⟩):W P C n c Q ⟨f,bx,lv,gen⟩:=by
 intro tmps w ⟨G,hs⟩;obtain⟨⟨N,_,O,J⟩⟩:=hs.oy false lv (fun _ h=>h);refine h tmps w ⟨N,?_⟩;have U:s2<tmps.size:=by rw[hs.size];exact κ I
 have X:tmps[s2]?=some tmps[s2]:=by simp[U]
 have J:bG (br C N (gen+1) w) (.slice none 0 0) (.own gen []):=J
 cases J with
 |own _ _ _ hd hg M=>
 have h1:=O.set (d:=s2) (κ I) (v:=tmps[s2]) (a:=.ow gen [] (.slice none 0 0)) (.ow _ _ gen [] hd hg M);rwa[gh X]at h1
end
def za{γ:Type}(fn:γ->List D)(l:List (Value×List γ))(hole:Option Nat)(w:World)(pv:Nat->Nat->Prop)(bs:List (Nat×Nat)):Prop:=
 ∃ps:Nat->Option Nat,(∀i j c,i<l.length->j<l.length->hole≠some i->hole≠some j->ps i=some c->ps j=some c->i=j)∧
   ∀(i:Nat)(p:Value×List γ),l[i]?=some p->b7 w pv p.1 (.sl (p.2.map fn))∧(hole≠some i->nH w (ps i) bs p.1 (p.2.map fn))
theorem za.mono{γ:Type}{fn:γ->List D}{l hole I}(J:∀b o u,cellAt w b o=some u->¬pv b o->cellAt w' b o=some u∧¬I b o)(hb:∀p∈bs,w'.heap[p.1]?=w.heap[p.1]?)(h:za fn l hole w pv bs):za fn l hole w' I bs:=by obtain⟨ps,h1,h2⟩:=h;exact⟨ps,h1,fun i p hp=>⟨(h2 i p hp).1.mono J,fun M=>((h2 i p hp).2 M).mono fun c lim _ hm=>⟨hm,hb _ hm⟩⟩⟩
def kj{γ:Type}(fn:γ->List D)(l:List (Value×List γ))(hole:Option Nat):Iv:=⟨fun w pv bs _=>za fn l hole w pv bs,za.mono⟩
section
variable{n:Nat}
theorem bq.Ks(h:bq C n st G tmps w):∃N:Gh,N.box=G.box∧N.own st.gen=some (.mp none [])∧(br C G st.gen w).le (br C N (st.gen+1) w)∧bq C n {st with lv:=st.gen::st.lv,gen:=st.gen+1} N tmps w:=by
 let J:Nat->Option Row:=fun g=>if g=st.gen then some (.mp none [])else G.own g;have old:∀{g r},J g=some r->g≠st.gen->G.own g=some r:=fun{g r} I O=>by simpa only[J,if_neg O]using I
 have ge:∀{g r},J g=some r->st.gen<=g->r=.mp none []:=fun{g r} I U=>by
  by_cases e:g=st.gen;·grind
  ·have:=h.gown g r (old I e);omega
 obtain⟨q1,q2⟩:=h.grow (w':=w) (.refl _ w) J (st.gen+1) (st.gen::st.lv) (Nat.le_succ _) (fun g r M I=>old I (U' M)) (fun g r I=>by
  by_cases e:g=st.gen;·omega
  ·exact Y' (h.gown g r (old I e)))
  (fun g M=>by
   rcases C'.1 M with rfl|M
   ·exact⟨_,by simp[J];rfl⟩
   ·obtain⟨r,I⟩:=h.live g M
    exact⟨r,by simp only[J,if_neg (U' (h.gown g r I))];exact I⟩)
  (fun g b len cap sz X M I=>by cases ge I M) (fun g b bs M I=>by cases ge I M) (fun g b bs c lim M I hm=>by cases ge I M;cases hm)
 grind
end
section
variable{n:Nat}{c:Code}{rest:List Oper}
variable{bx:List (Nat×List A)}{gen:Nat}
variable{γ:Type}{fn:γ→List D}
theorem KQ(fn:γ->List D)(O J){M I:List A}(hq:bk bx O=some M)(U:M.set J (.gi gen (kj fn [] none))=I)(h:W P C n c Q ⟨f,(O,I)::bx,gen::lv,gen+1⟩):W P C n c Q ⟨f,bx,lv,gen⟩:=by
 subst U;intro tmps w ⟨G,hs⟩;obtain⟨X,ai,ho,hle,ad⟩:=hs.Ks;refine h tmps w ⟨X,ad.lg (f:=f) (bx:=bx) (lv:=gen::lv) (gen:=gen+1) hq (by simp) fun b cs T _ _ q3 i x a hx N=>?_⟩;by_cases e:J=i
 ·subst e
  by_cases hlt:J<M.length
  ·rw[List.getElem?_set_self hlt]at N
   simp only[Option.some.injEq]at N;subst N;refine .gi _ _ _ (by simp[br]) fun r hr=>?_;have:X.own gen=some r:=hr;rw[ho]at this;cases this;exact⟨fun _=>none,fun i j c hi=>by simp at hi,fun i p hp=>by simp at hp⟩
  ·grind
 ·grind
theorem bq.yD(hs:bq C n ⟨f,bx,lv,gen⟩ G tmps w){gq J:Nat}{X:List A}{I:Iv}(hq:bk bx gq=some X)(hj:X[J]?=some (.gi g I))(ai:(lv.any fun h=>Nat.beq h g)=true):
 ∃bs x,G.own g=some (.mp none bs)∧I.P w (cr C G) bs x:=by
 obtain⟨r,U⟩:=hs.live g (dU ai);obtain⟨b0,M,T0,p1,p2,p3,p4,p5⟩:=hs.box gq X hq;have aj:J<M.size:=by rw[p3];exact(δ.1 hj).1
 have N:=p5 J M[J] _ (by simp[aj]) hj;generalize M[J]=x at N
 cases N with
 |gi _ _ _ ar ad=>
 have O:=ad r U
 cases r with
 |nil=>exact O.elim
 |zero b=>exact O.elim
 |blk b len cap sz a1=>exact O.elim
 |mp b bs=>
   cases b with
   |some b=>exact O.elim
   |none=>exact⟨bs,_,U,O⟩
theorem Ey(O I:Nat){M J:List A}{l:List (Value×List γ)}(U:bk bx O=some M)(hj:M[I]?=some (.gi g (kj fn l none)))(X:(lv.any fun h=>Nat.beq h g)=true)(ad:M.set I (.gi g (kj fn (l++[(.slice none 0 0,[])]) none))=J)(h:W P C n c Q ⟨f,(O,J)::bx,lv,gen⟩):W P C n c Q ⟨f,bx,lv,gen⟩:=by
 subst ad;intro tmps w ⟨G,hs⟩;obtain⟨bs,_,ai,ps,h1,h2⟩:=hs.yD U hj X;refine h tmps w ⟨G,hs.lg U (by simp) fun b cs T _ _ q3 i x a hx N=>?_⟩;by_cases e:I=i
 ·subst e
  rw[List.getElem?_set_self (δ.1 hj).1]at N;simp only[Option.some.injEq]at N;subst N
  cases q3 I x _ hx hj with
  |gi _ _ _ aj _=>
  refine .gi _ _ _ aj fun r hr=>?_;have:G.own g=some r:=hr;rw[ai]at this;cases this;refine⟨fun i=>if i<l.length then ps i else none,fun i j c _ _ _ _ hi hj=>?_,fun i p hp=>?_⟩;·grind
  ·dsimp only
   split
   ·rename_i ar
    rw[y' ar]at hp;exact h2 i p hp
   ·rename_i a1
    rw[Ω (by omega)]at hp;have:i-l.length=0:=by grind
    rw[this]at hp;simp only[List.getElem?_cons_zero,Option.some.injEq]at hp;subst hp;exact⟨.nil,fun _=>.inl ⟨rfl,rfl⟩⟩
 ·grind
theorem vX(N O i:Nat){I:List A}{l:List (Value×List γ)}{hole:Option Nat}{v:Value}{es:List γ}{r:List (List D)}(U:bk bx N=some I)(hj:I[O]?=some (.gi g (kj fn l hole)))(J:(lv.any fun h=>Nat.beq h g)=true)(hi:l[i]?=some (v,es))(X:es.map fn=r)(h:Pu P C n ⟨f,bx,lv,gen⟩ o (.d (.v v))):Pu P C n ⟨f,bx,lv,gen⟩ o (.d (.sl r)):=by
 subst X;intro G tmps w hs;refine(h G tmps w hs).mono fun v' w'⟨h1,h2⟩=>⟨h1,?_⟩;cases h2 with|d h2=>cases h2 with|v _ _=>
 obtain⟨_,M⟩:=hs.je h1;obtain⟨bs,_,_,ps,_,h4⟩:=M.yD U hj J;exact .d (h4 i _ hi).1
theorem Lk(U I:Nat){N:List A}{v}(hq:bk bx U=some N)(hj:N[I]?=some (.ow g es v))(h:Pu P C n ⟨f,bx,lv,gen⟩ o (.d (.v v))):Pu P C n ⟨f,bx,lv,gen⟩ o (.own g es):=by
 intro G tmps w hs;refine(h G tmps w hs).mono fun v' w'⟨h1,h2⟩=>⟨h1,?_⟩;cases h2 with|d h2=>cases h2 with|v _ _=>
 obtain⟨_,X⟩:=hs.je h1;obtain⟨b0,J,T0,p1,p2,p3,p4,p5⟩:=X.box U N hq;have ad:I<J.size:=by rw[p3];exact(δ.1 hj).1
 have M:=p5 I J[I] _ (by simp[ad]) hj;generalize J[I]=x at M
 cases M with
 |ow _ _ _ _ hd hg O=>exact .own _ g es hd hg O
theorem Jk(gq O U i:Nat){X ai:List A}{l:List (Value×List γ)}{v:Value}{es:List γ}(M:bk bx gq=some X)(hj:X[O]?=some (.gi g (kj fn l none)))(a7:(lv.any fun h=>Nat.beq h g)=true)(hi:l[i]?=some (v,es))(a8:Nat.beq O U=false)(b0:gen::(gen+1)::cu lv g=lv')(b2:(X.set O (.gi gen (kj fn l (some i)))).set U (.ow (gen+1) (es.map fn) v)=ai)(h:W P C n c Q ⟨f,(gq,ai)::bx,lv',gen+2⟩):W P C n c Q ⟨f,bx,lv,gen⟩:=by
 subst b2;subst b0;intro tmps w ⟨G,hs⟩;obtain⟨bs,_,b3,ps,ar,N⟩:=hs.yD M hj a7;have di:O≠U:=fun e=>by subst e;simp at a8
 have dj:i<l.length:=(δ.1 hi).1;obtain⟨hd,I⟩:=N i _ hi;have I:=I (by simp);obtain⟨s,aj⟩:=hd.LF
 have key:∀(r2:Row)(bs':List (Nat×Nat)),(∀p∈bs',p∈bs)->(∀b' bs',r2≠.mp b' bs')->
  (∀c len cap sz ad,r2=.blk c len cap sz ad->(c,ad)∈bs∧(∀p∈bs',p.1≠c)∧∃cur T,w.heap[c]?=some (.cells cur T (0,0))∧cur.size=cap*sz∧len<=cap∧cap<=maxLen∧0<sz∧0<len∧ad<=len*sz∧gG cur)->
  (∀(k:Nat)(p:Value×List γ),l[k]?=some p->k≠i->nH w (ps k) bs' p.1 (p.2.map fn))->
  (∃s,(∀(e:List D),e∈es.map fn->e.length=s)∧tC r2 v (es.map fn).length s)->gA C n ⟨f,(gq,(X.set O (.gi gen (kj fn l (some i)))).set U (.ow (gen+1) (es.map fn) v))::bx,gen::(gen+1)::cu lv g,gen+2⟩ tmps w:=by
  intro r2 bs' a1 ch cj a6 c1;obtain⟨G',dt,cl,dx,hle,cx⟩:=hs.split b3 a1 r2 ch cj (cu lv g) (fun g' cy=>dH cy);refine⟨G',cx.lg (f:=f) (bx:=bx) (lv:=gen::(gen+1)::cu lv g) (gen:=gen+2) M (by simp) fun b cs T _ _ q3 k x a hx J=>?_⟩;by_cases e2:U=k
  ·subst e2
   by_cases hlt:U<X.length
   ·rw[List.getElem?_set_self (by simpa using hlt)]at J
    simp only[Option.some.injEq]at J;subst J;refine .ow _ _ _ _ (hd.mono fun b o u hu hp=>hle.cell b o u hu hp) (by simp[br]) fun r hr=>?_;have:G'.own (gen+1)=some r:=hr;grind
   ·grind
  ·rw[List.getElem?_set_ne e2]at J
   by_cases e:O=k
   ·subst e
    rw[List.getElem?_set_self (δ.1 hj).1]at J;simp only[Option.some.injEq]at J;subst J;refine .gi _ _ _ (by simp[br]) fun r hr=>?_;have:G'.own gen=some r:=hr;rw[cl]at this;cases this;exact⟨ps,fun a b c J hb h1 h2=>ar a b c J hb (by simp) (by simp),fun k p hp=>⟨(N k p hp).1.mono fun b o u hu hp=>hle.cell b o u hu hp,fun hh=>a6 k p hp (fun e=>hh (by rw[e]))⟩⟩
   ·grind
 cases hps:ps i with
 |none=>
   rw[hps]at I;rcases I with⟨t1,t2⟩|⟨c,off,t1⟩
   ·exact h tmps w (key .nil bs (fun _ h=>h) (fun _ _ h=>by cases h) (fun _ _ _ _ _ h=>by cases h) (fun k p hp _=>(N k p hp).2 (by simp)) ⟨s,aj,t1,by rw[show(es.map fn).length=0 from by rw[t2];rfl]⟩)
   ·exact h tmps w (key (.zero c) bs (fun _ h=>h) (fun _ _ h=>by cases h) (fun _ _ _ _ _ h=>by cases h) (fun k p hp _=>(N k p hp).2 (by simp)) ⟨s,aj,off,t1⟩)
 |some c=>
   rw[hps]at I;obtain⟨cap,sz,cur,T1,t1,t2,t3,t4,t5,t6,t7,t8,t9,t10⟩:=I
   refine h tmps w (key (.blk c (es.map fn).length cap sz ((es.map fn).length*sz)) (bs.filter fun q=>!Nat.beq q.1 c) (fun q M=>(List.mem_filter.1 M).1) (fun _ _ h=>by cases h)
    (fun c' c6 c7 ed df h=>by simp only[Row.blk.injEq]at h;obtain⟨rfl,rfl,rfl,rfl,rfl⟩:=h;exact⟨t2,fun q M e=>by have:=(List.mem_filter.1 M).2;rw[e]at this;simp at this,cur,T1,t8,t9,t6,t7,t4,t5,ω _,t10⟩)
    (fun k p hp hk=>((N k p hp).2 (by simp)).mono fun c' lim e1 e2=>⟨List.mem_filter.2 ⟨e2,?_⟩,rfl⟩) ⟨sz,t3,t1,rfl,rfl,rfl⟩)
   have:c'≠c:=fun e=>by grind
   cases M:Nat.beq c' c with
   |false=>rfl
   |true=>exact absurd (Θ M) this
theorem Kj(gq jq s i:Nat){cq ad:List A}{l l':List (Value×List γ)}{v:Value}{es:List γ}{ai:List (List D)}(hq:bk bx gq=some cq)(hj:cq[jq]?=some (.gi g (kj fn l (some i))))(hl:look f s=some (.ow g2 ai v))(b2:es.map fn=ai)(b3:(lv.any fun h=>Nat.beq h g)=true)(a1:(lv.any fun h=>Nat.beq h g2)=true)(ch:Nat.beq g2 g=false)(cj:l.set i (v,es)=l')(cl:gen::cu (cu lv g) g2=lv')(cx:cq.set jq (.gi gen (kj fn l' none))=ad)(h:W P C n c Q ⟨f,(gq,ad)::bx,lv',gen+1⟩):W P C n c Q ⟨f,bx,lv,gen⟩:=by
 subst cx;subst cl;subst cj;subst b2;intro tmps w ⟨G,hs⟩;obtain⟨bs,_,aj,ps,a6,ar⟩:=hs.yD hq hj b3;have cy:g2≠g:=fun e=>by subst e;simp at ch
 obtain⟨r2,M⟩:=hs.live g2 (dU a1);obtain⟨x,hx,hr⟩:=hs.frame s _ hl
 cases hr with
 |ow _ _ _ _ hd ed a7=>
 obtain⟨ej,c1,N⟩:=a7 r2 M;obtain⟨bs',X,a8,b0,c6,c7⟩:∃(bs':List (Nat×Nat))(X:Option Nat),(∀p∈bs,p∈bs')∧(∀p∈bs',p∈bs∨∃len cap sz,r2=.blk p.1 len cap sz p.2)∧nH w X bs' v (es.map fn)∧∀c,X=some c->∃len cap sz I,r2=.blk c len cap sz I:=by
  cases r2 with
  |nil=>exact⟨bs,none,fun _ h=>h,fun _ h=>.inl h,.inl ⟨N.1,O' N.2⟩,fun c J=>by cases J⟩
  |zero c=>exact⟨bs,none,fun _ h=>h,fun _ h=>.inl h,.inr ⟨c,N⟩,fun c J=>by cases J⟩
  |mp _ _=>exact N.elim
  |blk c len cap sz I=>
    obtain⟨t1,t2,t3,t4⟩:=N;obtain⟨_,_,_,cur,T1,u1,u2,u3,u4,u5,u6,u7,u8⟩:=hs.row g2 c len cap sz I M;refine⟨(c,I)::bs,some c,fun p hp=>q' _ hp,fun p hp=>?_,⟨cap,sz,cur,T1,by rw[t1,t2],?_,fun e he=>(c1 e he).trans t3,u5,by omega,by omega,u4,u1,u2,u8⟩,fun c' df=>by cases df;exact⟨len,cap,sz,I,rfl⟩⟩;·grind
    ·grind
 obtain⟨G',en,di,hle,dj⟩:=hs.join (w':=w) aj M cy b0 (fun _ _=>rfl) (fun c J=>by cases J) rfl rfl rfl rfl (cu (cu lv g) g2) (fun g' dt=>by obtain⟨t1,t2⟩:=dH dt;obtain⟨t3,t4⟩:=dH t1;exact⟨t3,t4,t2⟩);have ei:∀(c:Nat),X=some c->∀lim,(c,lim)∉bs:=fun c J lim hm=>by obtain⟨len,cap,sz,I,e⟩:=c7 c J;rw[e]at M;exact(hs.sub g none bs c lim aj hm).2.2.1 _ _ _ _ _ M
 have er:∀(k c:Nat),k<l.length->k≠i->ps k=some c->∃lim,(c,lim)∈bs:=fun k c hk dx J=>by have:=(ar k l[k] (by simp[hk])).2 (fun e=>dx (P' e).symm);rw[J]at this;obtain⟨cap,sz,cur,T1,t1,t2,_⟩:=this;grind
 refine h tmps w ⟨G',dj.lg (f:=f) (bx:=bx) (lv:=gen::cu (cu lv g) g2) (gen:=gen+1) hq (by simp) fun b cs T _ _ q3 k x a hx O=>?_⟩;by_cases e:jq=k
 ·subst e
  rw[List.getElem?_set_self (δ.1 hj).1]at O;simp only[Option.some.injEq]at O;subst O;refine .gi _ _ _ (by simp[br]) fun r hr=>?_;have:G'.own gen=some r:=hr;rw[di]at this;cases this;refine⟨fun k=>if k=i then X else ps k,fun a b c O hb _ _ h1 h2=>?_,fun k p hp=>?_⟩
  ·simp only[List.length_set]at O hb
   dsimp only at h1 h2;split at h1;·grind
   ·rename_i U
    split at h2;·grind
    ·rename_i e2
     exact a6 a b c O hb (fun e=>U (P' e).symm) (fun e=>e2 (P' e).symm) h1 h2
  ·by_cases U:k=i
   ·subst U
    have hk:k<l.length:=by have:=(δ.1 hp).1;simpa using this
    rw[List.getElem?_set_self hk]at hp;simp only[Option.some.injEq]at hp;subst hp;simp only[if_true];exact⟨hd.mono fun b o u hu hp=>hle.cell b o u hu hp,fun _=>c6⟩
   ·rw[List.getElem?_set_ne (Ne.symm U)]at hp
    obtain⟨t1,t2⟩:=ar k p hp;simp only[if_neg U];exact⟨t1.mono fun b o u hu hp=>hle.cell b o u hu hp,fun _=>(t2 (fun e=>U (P' e).symm)).mono fun c lim _ hm=>⟨a8 _ hm,rfl⟩⟩
 ·grind
end
section
variable{P:Program}{C:Ctx}{n:Nat}{Q:Exit→St→Prop}{c:Code}{f:List (Nat×A)}{bx:List (Nat×List A)}{lv:List Nat}{gen:Nat}
theorem Jv(M N){O J:List A}(X:bk bx M=some O)(U:O.set N .any=J)(h:W P C n c Q ⟨f,(M,J)::bx,lv,gen⟩):W P C n c Q ⟨f,bx,lv,gen⟩:=by
 subst U;intro tmps w ⟨G,hs⟩;refine h tmps w ⟨G,hs.lg X (by simp) fun b cs T _ _ q3 i x a hx I=>?_⟩;by_cases e:N=i
 ·subst e
  rw[List.getElem?_set]at I;split at I
  ·split at I
   ·simp only[Option.some.injEq]at I
    subst I;exact .any x
   ·grind
  ·grind
 ·grind
end
section
variable{n:Nat}{bx:List (Nat×List A)}{gen:Nat}{pos:String}{af:Array Edge}
theorem IU[dG P][GC P C]{z J d2 val}(hx:av f x=some (.clo fid []))(hy:av f y=some (.xs g es))(hz:av f z=some (.d d2))(b0:(lv.any fun h=>Nat.beq h g)=true)(hf:bp P fid [.d (.sl es),.d d2] (.d (.v val)) 0):Pu P C n ⟨f,bx,lv,gen⟩ ⟨dst,.call ⟨.value x,#[y,z],J⟩,ty,pos,af,none⟩ (.d (.v val)):=by
 intro G tmps w hs;obtain⟨fn,b3,O,U⟩:=hf.ok;have hr:=hs.av hx;generalize hv:Act.eval ⟨tmps,[]⟩ x=v at hr
 cases hr with
 |clo _ vs _ ch hd=>
 have cj:vs=#[]:=Array.eq_empty_of_size_eq_zero (by simpa using ch);subst cj;have ad:=hs.av hy;have ai:=hs.av hz;have a7:(execOp (Act.eval ⟨tmps,[]⟩) ⟨dst,.call ⟨.value x,#[y,z],J⟩,ty,pos,af,none⟩).run P w=.ok (.enter fid #[Act.eval ⟨tmps,[]⟩ y,Act.eval ⟨tmps,[]⟩ z]) w:=by unfold execOp;show Sem.run P (do let d←resolve (Act.eval ⟨tmps,[]⟩) ⟨.value x,#[y,z],J⟩ ty;invoke d.target d.args) w=_;simp only[resolve,hv,Deferred.ofValue,Sem.run_bind,Sem.run_pure,Result.andThen_ok,invoke,callFunc,run_program,b3,O,U,N',if_false,Array.empty_append];simp
 unfold eB;have X:(execOp (Act.eval {tmps:=tmps,defers:=[]}) ⟨dst,.call ⟨.value x,#[y,z],J⟩,ty,pos,af,none⟩).run P w=.ok (.enter fid #[Act.eval ⟨tmps,[]⟩ y,Act.eval ⟨tmps,[]⟩ z]) w:=a7;rw[X];let N:Ctx:={w0:=w,fp:=fun _=>False,x:=fun _ _=>False};have cl:GC P N:=by obtain⟨W,h1,h2,h3⟩:=GC.at_ (P:=P) hs.fr;exact⟨W,h1,h2,fun b hb=>⟨h3 b hb,fun h=>h⟩⟩
 have aj:∀b o,¬cr N G0 b o:=by
  rintro b o (hp|⟨g',hp⟩|⟨g',len,cap,sz,ar,hp,_⟩|⟨g',b2,bs,lim,hp,_⟩);·grind
  ·cases hp
  ·cases hp
  ·cases hp
 have a1:∀{v:Value}{y:D},b7 w (cr C G) v y->b7 w (cr N G0) v y:=fun h=>h.mono fun b o u h1 _=>⟨h1,aj b o⟩;refine(hf.calls N #[Act.eval ⟨tmps,[]⟩ y,Act.eval ⟨tmps,[]⟩ z] w cl Z ⟨fun _ h=>h,fun _ _ h=>h,rfl,rfl⟩ (fun b o h=>h.elim) (by simp) (fun i u a hu I=>?_)).mono fun e w'⟨v,G',he,h3,h4⟩=>⟨v,he,Fr.toBelow (C:=C) (G:=G) (w:=w) (w':=w') ⟨h3.fr.os,h3.fr.tape,h3.fr.output,h3.fr.size,h3.fr.block,fun b o u hk _=>hk.elim,h3.fr.ty⟩,?_⟩;·match i,hu,I with
  |0,hu,I=>
    simp only[List.getElem?_cons_zero,Option.some.injEq]at I;have hu:Act.eval ⟨tmps,[]⟩ y=u:=by simpa using hu
    subst I;rw[hu]at ad;obtain⟨r,a6⟩:=hs.live g (dU b0)
    cases ad with
    |xs _ _ _ cq h1 a8=>
    have M:=a8 r a6;refine .d ?_
    cases r with
    |nil=>obtain⟨rfl,rfl⟩:=M;exact .nil
    |zero b=>obtain⟨rfl,rfl⟩:=M;exact .emp _ 0 (ς _)
    |mp b bs=>exact M.elim
    |blk b len cap sz ar=>
      obtain⟨rfl,h3,_,h5,h6⟩:=M;obtain⟨_,_,_,cur,T,q1,q2,q3,q4,_⟩:=hs.row g b len cap sz ar a6;have:=aw (pv:=cr N G0) (es:=es) (cap:=cap) (sz:=sz) q1 (by rw[h3];exact q3) q4 h5 (fun t _=>aj b t) (fun i j e y hi hj=>by obtain⟨u,hu,hd⟩:=h6 i j e y hi hj;have hu:cellAt w b _=some u:=hu;rw[cU q1]at hu;exact⟨u,hu,a1 hd⟩);rwa[h3]at this
  |1,hu,I=>
    simp only[List.getElem?_cons_succ,List.getElem?_cons_zero,Option.some.injEq]at I;have hu:Act.eval ⟨tmps,[]⟩ z=u:=by simpa using hu
    subst I;rw[hu]at ai;cases ai with|d hd=>exact .d (a1 hd)
  |i+2,hu,I=>simp at I
 ·cases h4 with|d hd=>cases hd with|v _ hok=>exact .d (.v _ hok)
end
theorem W.gen {P:Program} {C:Ctx} {n:Nat} {c:Code} {Q:Exit→St→Prop} {f:List (Nat×A)} {bx:List (Nat×List A)} {lv:List Nat} {gen:Nat} (g:Nat) (h:Nat.ble gen g=true) (hW:W P C n c Q ⟨f,bx,lv,g⟩):W P C n c Q ⟨f,bx,lv,gen⟩:=
 fun tmps w ⟨G,hs⟩=>hW tmps w ⟨G,bq.later hs (g:=g) (κ h)⟩
open Go
variable {H:Type} {enc:TypeId×Value→H}
theorem pk{a:Assume}{C:Checked}{os:Os}{f:FuncId}{s:ChangeSpec}{conds:List PathCond}{apart fresh handsOn again:Bool}{X:World->Array Value->Prop}(hX:∀(w w':World)(args:Array Value),w.heap=w'.heap->X w args->X w' args)(own:ownKnob C.prog.godebug=none)(started:os.Started)(J:C.prog.inits.idxOf? f=none)(U:C.prog.funcs[f]?=some fn)(witness:∃(w:World)(tape:Tape)(i:Input),w.os=os∧(w.forCall tape i).Shaped C.prog∧i.vars=[]∧Input.okWide C.prog (w.forCall tape i) .any w.heap.size f i∧
  ((s.pre enc C.prog fn conds apart (w.forCall tape i).memory i.args∧X (w.forCall tape i).memory i.args)∧sizedMet enc C.prog fn (OpenSpec.ofChange s) apart (w.forCall tape i).memory i.args)∧a.holds C.prog (lone (Frame.enter C.prog f i.args .normal) [] (w.forCall tape i)))(I:∀(W:World)(base:Nat)(args:Array Value)(ds gs:List (DataW H))(before:List MemPlace),
  (∀(j:Nat) t v,fn.params[j]?=some t->args[j]?=some v->Value.okWide C.prog W .any base t v)->
  DataW.Whole enc C.prog fn.params.toList s.vars apart W args.toList ds gs before->
  W.ShapedOpen C.prog->X W args->
  Calls C.prog f args W fun e W'=>∃v,e=.returned v∧s.post enc C.prog fn apart fresh handsOn again W args v W'):
 ReturnsInHanded a C os f .any (fun w args=>(s.pre enc C.prog fn conds apart w args∧X w args)∧sizedMet enc C.prog fn (OpenSpec.ofChange s) apart w args) (s.post enc C.prog fn apart fresh handsOn again):=by
 refine returnsInHanded_of_calls own started J witness ?_;intro w tape i _ ad _ hok M ai;obtain⟨_,_,_,aj,N,_,_,_,_,O⟩:=hok;have e:aj=fn:=P' (N.symm.trans U);subst e;obtain⟨⟨⟨ds,gs,before,hw,hc⟩,hx⟩,hz⟩:=M;have ar:=DataW.Whole.of_heap (w':=w.forCall tape i) (by rfl) hw;refine(I (w.forCall tape i) w.heap.size i.args ds gs before O ar ad (hX _ _ _ (by rfl) hx)).mono fun e W'⟨v,he,hp⟩=>?_;subst he;exact ChangeSpec.post_blind hp
theorem y9{C:Checked}{os:Os}{f}{s:ChangeSpec}{conds apart laid}(modest:Bool)(args:Array Value)(fuel:Nat)(M:((World.laidAll C.prog os laid).forCall (fun _ _=>0) ⟨#[],args,[]⟩).variablesZipB C.prog=true)(N:(((World.laidAll C.prog os laid).forCall (fun _ _=>0) ⟨#[],args,[]⟩).heap.toList.drop C.prog.globals.size).take ((begin C.prog (fun _ _=>0) default).world.heap.size-C.prog.globals.size)=
  (begin C.prog (fun _ _=>0) default).world.heap.toList.drop C.prog.globals.size)(O:(World.holding C.prog os ⟨#[],#[],[]⟩).layFits C.prog laid []=true)(hi:(World.holding C.prog os ⟨#[],#[],[]⟩).layIfaces C.prog laid (World.laidAll C.prog os laid)=true)(hok:Input.okWideB C.prog ((World.laidAll C.prog os laid).forCall (fun _ _=>0) ⟨#[],args,[]⟩) f ⟨#[],args,[]⟩=true)(I:s.preB enc C.prog fn conds apart ((World.laidAll C.prog os laid).forCall (fun _ _=>0) ⟨#[],args,[]⟩).memory args fuel=true)(J:s.sizedB enc C.prog fn apart ((World.laidAll C.prog os laid).forCall (fun _ _=>0) ⟨#[],args,[]⟩).memory args fuel=true):
 ∃(w:World)(tape:Tape)(i:Input),w.os=os∧(w.forCall tape i).Shaped C.prog∧i.vars=[]∧Input.okWide C.prog (w.forCall tape i) .any w.heap.size f i∧
   ((s.pre enc C.prog fn conds apart (w.forCall tape i).memory i.args∧laidMet C.prog laid (w.forCall tape i).memory)∧sizedMet enc C.prog fn (OpenSpec.ofChange s) apart (w.forCall tape i).memory i.args)∧({modest:=modest}:Assume).holds C.prog (lone (Frame.enter C.prog f i.args .normal) [] (w.forCall tape i)):=
 ⟨World.laidAll C.prog os laid,fun _ _=>0,⟨#[],args,[]⟩,World.laidAll_os _ _ _,World.shaped_of_ZipB M N,(Input.okWide_of_okWideB (base:=0) hok).1,(Input.okWide_of_okWideB hok).2,⟨⟨ChangeSpec.pre_of_preB I,laidMet_laidAll args O hi⟩,sizedMet_of_sizedB J⟩,by simp only[Assume.holds];exact⟨by simp,by simp,fun _=>Modest.zero,by simp,by simp⟩⟩
theorem ym{W:World}{l}(h:laidMet P l W){n nm}{d:DataW Unit}(hm:(n,.iface nm d)∈l){ti}(I:((P.globalNamed n).bind fun g=>(P.globals[g]?).map (·.type))=some ti)(hi:ns P ti=true):∃t p,W.var? P n=some #[.iface t p]:=by
 obtain⟨ms,hi⟩:=nz hi;obtain⟨g,t,cs,fuel,p,h1,h2,h3,h4⟩:=Lib.laidMet.reads h hm;rw[h1]at I;simp only[Option.bind_some]at I;rw[h2]at I;simp only[Option.some.injEq]at I;subst I;obtain⟨f1,u,v,J,_⟩:=iface_of_trod hi h4;refine⟨u,v,h3.trans ?_⟩;rw[show cs=#[.iface u v]from by rw[<-Array.toArray_toList (xs:=cs),J]]
theorem I8{W:World}{l}(h:laidMet P l W){n}{k:IntKind}{J:List Int}{d:DataW Unit}(hm:(n,d)∈l)(hd:d=Lib.tabData k J){t e}(I:((P.globalNamed n).bind fun g=>(P.globals[g]?).map (·.type))=some t)(O:P.underlying t=some (.array m e))(he:P.underlying e=some (.int k))(M:P.cellsOf e=1)(N:P.cellsOf t=m):
 W.var? P n=some (J.map fun z=>Value.int k z).toArray:=by
 subst hd;obtain⟨g,t',cs,fuel,p,h1,h2,h3,h4⟩:=Lib.laidMet.reads h hm;rw[h1]at I;simp only[Option.bind_some]at I;rw[h2]at I;simp only[Option.some.injEq]at I;subst I;rw[h3,←Lib.cells_of_tab O he M N h4]
theorem E5{W l}(h:laidMet P l W){d:DataW Unit}(h1:("internal/strconv.uint64pow10",d)∈l)(hd:d=Lib.tabData .u64 Lib.pow10Tab){t e}(O:((P.globalNamed "internal/strconv.uint64pow10").bind fun g=>(P.globals[g]?).map (·.type))=some t)(U:P.underlying t=some (.array m e))(he:P.underlying e=some (.int .u64))(I:P.cellsOf e=1)(J:P.cellsOf t=m){nm nm'}{d1 d2:DataW Unit}(h2:("strconv.ErrSyntax",.iface nm d1)∈l)(h3:("strconv.ErrRange",.iface nm' d2)∈l){ti}(M:((P.globalNamed "strconv.ErrSyntax").bind fun g=>(P.globals[g]?).map (·.type))=some ti)(N:((P.globalNamed "strconv.ErrRange").bind fun g=>(P.globals[g]?).map (·.type))=some ti)(hi:ns P ti=true):qq P W:=
 ⟨I8 h h1 hd O U he I J,ym h h2 M hi,ym h h3 N hi⟩
end Go.Ab
namespace Go.Tb
open Go.Ab
variable {l x:List UInt8}{i k u:Nat}{level id a:Int}{α β:Type}{ids:List Int}
theorem xt{P C n st o x y}(h:Pu P C n st o (.d (.v (.string x))))(e:x=y):Pu P C n st o (.d (.v (.string y))):=e▸h
def eZ(u:Nat):List UInt8:=Lib.decDigits u
theorem fG(h:u<10):eZ u=[UInt8.ofNat (48+u)]:=by unfold eZ;rw[Lib.decDigits,dif_pos h]
theorem iG(h:¬u<10):eZ u=eZ (u/10)++[UInt8.ofNat (48+u%10)]:=by unfold eZ;rw[Lib.decDigits,dif_neg h]
theorem mv{p:Nat->Prop}(h1:∀u,u<10->p u)(h2:∀u,¬u<10->p (u/10)->p u):∀u,p u:=by
 intro u
 induction u using Nat.strongRecOn with
 |_ u I=>grind
theorem oB{d}(h:d<10):(UInt8.ofNat (48+d)).toNat=48+d:=by grind[UInt8.toNat_ofNat']
def cF(b:UInt8):Bool:=decide (48<=b.toNat)&&decide (b.toNat<=57)
theorem kz:∀u,∀b∈eZ u,cF b=true:=by
 refine mv (fun u h b hb=>?_) (fun u h I b hb=>?_)
 ·rw[fG h]at hb
  simp only[List.mem_singleton]at hb;subst hb;simp only[cF,oB h,ρ,Δ];omega
 ·rw[iG h]at hb
  rcases F'.1 hb with hb|hb
  ·grind
  ·simp only[List.mem_singleton]at hb
   subst hb;simp only[cF,oB (Nat.mod_lt u (show 0<10 by decide)),ρ,Δ];omega
theorem kb(u):eZ u≠[]:=by
 by_cases h:u<10;·grind[fG]
 ·rw[iG h];simp
def eF(n:Nat)(l:List UInt8):Nat:=l.foldl (fun n b=>if cF b then 10*n+(b.toNat-48)else n) n
theorem uj(n a b):eF n (a++b)=eF (eF n a) b:=List.foldl_append ..
theorem yl:∀u,eF 0 (eZ u)=u:=by
 refine mv (fun u h=>?_) (fun u h I=>?_);·grind[fG,kz,UInt8.ofNat,eF,oB]
 ·have h0:=kz u (UInt8.ofNat (48+u%10)) (by rw[iG h];simp)
  grind[iG,uj,eF,oB,Nat.mod_lt]
theorem mw:∀u k,u<10^(k+1)->(eZ u).length<=k+1:=by
 refine mv (fun u h k _=>?_) (fun u h J k I=>?_);·grind[fG]
 ·rw[iG h]
  simp only[ν,Φ]
  match k,I with
  |0,I=>simp at I;omega
  |k+1,I=>grind
def dh(n:Int):ByteArray:=⟨(Lib.itoa n).toArray⟩
theorem gF{n:Int}(h:n<0):Lib.itoa n=45::eZ n.natAbs:=by unfold Lib.itoa eZ;rw[if_pos h]
theorem fZ{n:Int}(h:0<=n):Lib.itoa n=eZ n.toNat:=by unfold Lib.itoa eZ;rw[if_neg (by omega)]
theorem iA(n):(dh n).data.toList=Lib.itoa n:=rfl
theorem FZ{n:Int}(h:n.natAbs<10^16):(Lib.itoa n).length<=17:=by
 rcases Int.lt_or_le n 0 with I|I
 ·rw[gF I,Ξ]
  have:=mw n.natAbs 15 h;omega
 ·rw[fZ I]
  have:=mw n.toNat 15 (by omega);omega
/-! what strconv.Atoi says of a numeral -/
theorem yS:∀(u:Nat),u<18446744073709551616->∀(l:List UInt8),Lib.parseUint10 0 (eZ u++l)=Lib.parseUint10 u l:=by
 refine mv (fun u h hu l=>?_) (fun u h I hu l=>?_)
 ·rw[fG h]
  have h1:=oB h;simp only[List.singleton_append,Lib.parseUint10,h1];grind
 ·rw[iG h,R',I (by omega)]
  have h1:=oB (Nat.mod_lt u (show 0<10 by decide));simp only[List.singleton_append,Lib.parseUint10,h1];grind
theorem pw(h:u<18446744073709551616):Lib.parseMag (eZ u)=.ok u:=by unfold Lib.parseMag;rw[if_neg (kb u)];have:=yS u h [];rw[List.append_nil]at this;exact this
theorem Fg{n}(h0:-9223372036854775808<=n)(h1:n<=9223372036854775807):Lib.atoiAll (Lib.itoa n)=.ok n:=by
 rcases Int.lt_or_le n 0 with I|I
 ·rw[gF I,Lib.atoiAll_minus,pw (by omega)]
  simp only[Lib.signed];grind
 ·rw[fZ I]
  obtain⟨c,r,M⟩:∃c r,eZ n.toNat=c::r:=by
   cases hd:eZ n.toNat with
   |nil=>exact absurd hd (kb _)
   |cons c r=>exact⟨c,r,rfl⟩
  have J:=kz n.toNat c (by rw[M];simp);simp only[cF,ρ,Δ]at J;have hm:=pw (u:=n.toNat) (by omega);rw[M]at hm⊢;rw[Lib.atoiAll_plain c r (by omega) (by omega),hm];simp only[Lib.signless];grind
def fY(s:ByteArray):Int×Bool:=
 match Lib.atoiAll s.data.toList with
 |.ok v=>if fu v=true∧dh v=s then(v,true)else(0,false)
 |_=>(0,false)
theorem rF{n}(h:fu n=true):fY (dh n)=(n,true):=by have I:=h;simp only[fu,ρ,Δ]at I;grind[fY,iA,Fg]
theorem xz{s v}(h:fY s=(v,true)):fu v=true∧s=dh v:=by unfold fY at h;grind
theorem xU{s}(h:∀v,fu v=true->s≠dh v):fY s=(0,false):=by grind[fY,xz,Prod.mk.injEq]
def H5(l:List UInt8):ByteArray:=⟨l.toArray⟩
structure Ev where
 time:Int
 kind:Int
 name:ByteArray
 n:Int
 m:Int
 stack:List ByteArray
@[reducible] def yb(l:List ByteArray):List (List D):=l.map sc
@[reducible] def Ev.c (e:Ev):List D:=[ci e.time,ci e.kind,cs e.name,ci e.n,ci e.m,.sl (yb e.stack)]
structure ye where
 word:ByteArray
 name:Bool
 n:Bool
 m:Bool
 stack:Bool
 least:Int
 most:Int
 mLeast:Int
 mMost:Int
@[reducible] def ye.c (f:ye):List D:=[cs f.word,.v (.bool f.name),.v (.bool f.n),.v (.bool f.m),.v (.bool f.stack),ci f.least,ci f.most,ci f.mLeast,ci f.mMost]
def zP:ye:=⟨B #[],false,false,false,false,0,0,0,0⟩
def wN:List ye:=[zP,
 ⟨B #[98,101,103,105,110],true,false,false,false,0,0,0,0⟩,
 ⟨B #[101,110,100],false,false,false,false,0,0,0,0⟩,
 ⟨B #[109,97,114,107],true,false,false,false,0,0,0,0⟩,
 ⟨B #[99,111,117,110,116],true,true,false,false,-1000000000000000,1000000000000000,0,0⟩,
 ⟨B #[115,97,109,112,108,101],false,true,false,true,1,1000000000000,0,0⟩,
 ⟨B #[115,101,110,100],false,true,false,false,0,1000000000000000,0,0⟩,
 ⟨B #[114,101,99,118],false,true,false,false,0,1000000000000000,0,0⟩,
 ⟨B #[114,117,110],false,true,false,false,0,63,0,0⟩,
 ⟨B #[115,116,111,112],false,true,true,false,0,3,0,1000000000000000⟩,
 ⟨B #[119,97,107,101],false,true,false,false,0,1000000000000000,0,0⟩,
 ⟨B #[97,108,108,111,99],false,true,true,true,0,1000000000000000,1,1000000000000⟩,
 ⟨B #[102,114,101,101],false,true,false,false,0,1000000000000000,0,0⟩]
def eD(k:Int):ye:=if k<1∨13<=k then zP else wN.getD k.toNat zP
def mS(k:Int):Bool:=decide (1<=k)&&decide (k<13)
def eG(l:List ByteArray):Int:=if 32<l.length then 7 else if l.any (fun s=>decide (cO s≠0))then 3 else 0
def nw(f:ye)(e:Ev):Int:=if f.name then cO e.name else eG e.stack
def dJ(e:Ev):Int:=
 if e.time<0∨1000000000000<e.time then 2
 else if mS e.kind=false∨((eD e.kind).name=false∧e.name≠B #[])∨((eD e.kind).n=false∧e.n≠0)∨((eD e.kind).m=false∧e.m≠0)∨((eD e.kind).stack=false∧0<e.stack.length)then 1
 else if nw (eD e.kind) e≠0 then nw (eD e.kind) e
 else if(eD e.kind).n=true∧(e.n<(eD e.kind).least∨(eD e.kind).most<e.n)then 2
 else if e.kind=9∧e.n≠2∧e.m≠0 then 1
 else if(eD e.kind).m=true∧(e.m<(eD e.kind).mLeast∨(eD e.kind).mMost<e.m)∧(e.kind≠9∨e.n=2)then 2
 else 0
/-! the reference's way -/
def pb(k:Int):Bool:=decide (k=1)||decide (k=3)||decide (k=4)
def yC(k:Int):Bool:=decide (4<=k)
def yH(k:Int):Bool:=decide (k=9)||decide (k=11)
def lH(k:Int):Bool:=decide (k=5)||decide (k=11)
def within(n lo hi:Int):Int:=if n<lo∨hi<n then 2 else 0
def kt(e:Ev):Int:=
 if e.kind=1∨e.kind=2∨e.kind=3 then 0
 else if e.kind=4 then within e.n (-1000000000000000) 1000000000000000
 else if e.kind=5 then within e.n 1 1000000000000
 else if e.kind=8 then within e.n 0 63
 else if e.kind=9 then
  if within e.n 0 3=0∧e.n=2 then within e.m 0 1000000000000000
  else if within e.n 0 3=0∧e.m≠0 then 1 else within e.n 0 3
 else if within e.n 0 1000000000000000=0∧e.kind=11 then within e.m 1 1000000000000
 else within e.n 0 1000000000000000
def jy(e:Ev):Int:=
 if e.time<0∨1000000000000<e.time then 2
 else if e.kind<1∨12<e.kind then 1
 else if(pb e.kind=false∧e.name≠B #[])∨(yC e.kind=false∧e.n≠0)∨(yH e.kind=false∧e.m≠0)∨(lH e.kind=false∧0<e.stack.length)then 1
 else if lH e.kind=true∧eG e.stack≠0 then eG e.stack
 else if lH e.kind=false∧pb e.kind=true∧cO e.name≠0 then cO e.name
 else kt e
theorem kinds{k:Int}(h1:1<=k)(h2:k<13):k=1∨k=2∨k=3∨k=4∨k=5∨k=6∨k=7∨k=8∨k=9∨k=10∨k=11∨k=12:=by omega
theorem Ct:eG []=0:=rfl
theorem EC (e:Ev):jy e=dJ e:=by
 unfold jy dJ;by_cases ht:e.time < 0∨1000000000000 < e.time;·rw[if_pos ht,if_pos ht]
 rw[if_neg ht,if_neg ht];by_cases hk:1≤e.kind∧e.kind < 13
 ·rw[if_neg (by omega)]
  have I:∀ l:List ByteArray,¬ 0 < l.length→l=[]:=fun l h=>O' (by omega)
  rcases kinds hk.1 hk.2 with h | h | h | h | h | h | h | h | h | h | h | h <;>
   simp only[h,pb,yC,yH,lH,kt,within,mS,eD,nw] <;> simp[wN,zP] <;> grind[Ct]
 ·have:mS e.kind=false:=by simp[mS];omega
  rw[if_pos (by omega),if_pos (.inl this)]
structure Tk where
 kind:Int
 s:ByteArray
 n:Int
 at_:Nat
 nx:Nat
abbrev E0:ByteArray:=B #[]
@[reducible] def Tk.c (t:Tk):List D:=[ci t.kind,cs (if t.kind=3 then E0 else t.s),ci t.n,ci (t.at_:Int)]
def Lp(k:Int):Int:=if k=0 then 0 else if k=1 then 5 else k-1
@[reducible] def Tk.r (t:Tk):List D:=[ci (Lp t.kind),cs t.s,ci (t.at_:Int),ci (t.nx:Int)]
def Jx(b:UInt8):Bool:=decide (97<=b.toNat)&&decide (b.toNat<=122)
abbrev Lb(k:Nat):Tk:=⟨0,E0,0,k,0⟩
def Tk.stops(t:Tk):Bool:=decide (t.kind=0)||decide (t.kind=1)
def Tk.ok(t:Tk):Bool:=
 (!decide (t.kind=2)||(match aX t.s with|c::_=>Jx c|[]=>false))&&(!decide (t.kind=5)||(match aX t.s with|c::_=>!Jx c|[]=>false))&&
 (!decide (t.kind=3)||decide ((fY t.s).2=true∧t.n=(fY t.s).1))&&decide (0<=t.kind)&&decide (t.kind<=5)
structure Wf(l:List Tk):Prop where
 ne:l≠[]
 last:∀(i:Nat) t,l[i]?=some t->(t.stops=true↔i+1=l.length)
 ok:∀t∈l,t.ok=true
abbrev PS:=Nat×Bool
abbrev Pr(α:Type):=PS->α×PS
abbrev L6:Tk:=Lb 0
def Ma(t:Tk)(x:ByteArray):Bool:=(decide (t.kind=5)||decide (t.kind=2))&&decide (t.s=x)
section
variable(L:List Tk)
def HO(st:PS):Tk:=(L[st.1]?).getD L6
def Md(x:ByteArray)(st:PS):Bool:=!st.2&&Ma (HO L st) x
abbrev Mf(st:PS):PS:=(st.1+1,st.2)
abbrev Ln(st:PS):PS:=(st.1,true)
def kK(x:ByteArray)(st:PS):PS:=if Md L x st then Mf st else Ln st
/-! ### what readers do -/
structure pa{α:Type}(f:Pr α):Prop where
 mono:∀st,st.1<=(f st).2.1
 lt:∀st,st.1<L.length->(f st).2.1<L.length
 bad:∀st,st.2=true->(f st).2=st
variable{L}
theorem KX{st:PS}{t:Tk}(h:L[st.1]?=some t):HO L st=t:=by unfold HO;rw[h];rfl
theorem Wf.more(hw:Wf L){st:PS}(h:st.1<L.length)(hs:(HO L st).stops=false):st.1+1<L.length:=by
 have e:L[st.1]?=some (L[st.1]'h):=by simp
 rw[KX e]at hs;have:=hw.last _ _ e;grind
end
section
variable(L:List Tk)
variable{L}
/-! ### steps and queries -/
theorem pa.seq{f:Pr α}{h:Pr β}(I:pa L f)(J:pa L h):pa L (fun st=>h (f st).2)where
 mono st:=B' (I.mono st) (J.mono _)
 lt st hl:=J.lt _ (I.lt st hl)
 bad st hb:=by have h1:=I.bad st hb;have h2:=J.bad (f st).2 (by rw[h1];exact hb);grind
theorem pa.map{f:Pr α}{h:Pr β}(I:pa L f)(e:∀st,(h st).2=(f st).2):pa L h where
 mono st:=by rw[e];exact I.mono st
 lt st hl:=by rw[e];exact I.lt st hl
 bad st hb:=by rw[e];exact I.bad st hb
end
theorem Bj(s:ByteArray)(i j):aX (s.extract i j)=((aX s).take j).drop i:=by grind[aX,ByteArray.data_extract,Array.toList_extract,List.extract_eq_drop_take',List.drop_take]
/-! ### the functions -/
section
/-! ### the same as by places -/
variable {l x:List UInt8}{i k u:Nat}{level id a:Int}{α β:Type}{ids:List Int}
theorem KB{b}(h:aX b=l):b=H5 l:=by subst h;unfold H5 aX;simp
end
theorem zN:∀(n:Nat)(l:List UInt8),l.length=n->l≠[]->(∀b∈l,cF b=true)->(1<l.length->l.head?≠some 48)->eZ (eF 0 l)=l∧(l.head?≠some 48->0<eF 0 l):=by
 intro n
 induction n with
 |zero=>intro l h0 h1;exact absurd (List.length_eq_zero_iff.1 h0) h1
 |succ n N=>
   intro l hl h1 hd O;obtain⟨l',b,rfl⟩:∃l' b,l=l'++[b]:=⟨l.dropLast,l.getLast h1,(List.dropLast_concat_getLast h1).symm⟩;have hb:=hd b (by simp);have ad:48<=b.toNat∧b.toNat<=57:=by simpa[cF]using hb
   have M:eF 0 (l'++[b])=10*eF 0 l'+(b.toNat-48):=by rw[uj];simp[eF,hb]
   have I:UInt8.ofNat (48+(b.toNat-48))=b:=UInt8.toNat_inj.1 (by rw[UInt8.toNat_ofNat'];omega);by_cases q:l'=[]
   ·subst q
    have U:eF 0 ([]++[b])=b.toNat-48:=by rw[M];simp[eF]
    rw[U];refine⟨by rw[fG (by omega),I];rfl,fun h=>?_⟩;have:b≠48:=fun e=>h (by rw[e];rfl);have h2:b.toNat≠48:=fun e=>this (UInt8.toNat_inj.1 e);omega
   ·have X:(l'++[b]).head?=l'.head?:=by cases l' with|nil=>exact absurd Z q|cons x r=>rfl
    have hlen:l'.length=n:=by simpa using hl
    have ai:0<l'.length:=List.length_pos_iff.2 q;have J:l'.head?≠some 48:=by rw[<-X];exact O (by simp;omega)
    obtain⟨i1,i2⟩:=N l' hlen q (fun x hx=>hd x (by simp[hx])) (fun _=>J);have i3:=i2 J;rw[M];refine⟨?_,fun _=>by omega⟩;rw[iG (by omega),show(10*eF 0 l'+(b.toNat-48))/10=eF 0 l' by omega,show(10*eF 0 l'+(b.toNat-48))%10=b.toNat-48 by omega,i1,I]
theorem DO:∀u,u≠0->(eZ u).head?≠some 48:=by
 refine mv (fun u h h0=>?_) (fun u h I h0=>?_)
 ·rw[fG h]
  intro e;simp only[List.head?_cons,Option.some.injEq]at e;have:=congrArg UInt8.toNat e;grind[UInt8.toNat_ofNat']
 ·rw[iG h]
  have:=I (by omega)
  cases q:eZ (u/10)with
  |nil=>exact absurd q (kb _)
  |cons x r=>rw[q]at this;exact this
theorem EO{s}(J:aX s≠[])(hd:∀b∈aX s,cF b=true):
 fY s=if 16<(aX s).length∨(1<(aX s).length∧(aX s).head?=some 48)∨1000000000000000<eF 0 (aX s)then(0,false)else((eF 0 (aX s):Int),true):=by
 by_cases q:16<(aX s).length∨(1<(aX s).length∧(aX s).head?=some 48)∨1000000000000000<eF 0 (aX s)
 ·rw[if_pos q]
  refine xU fun v M e=>?_;have O:-1000000000000000<=v∧v<=1000000000000000:=by simpa[fu]using M
  have I:aX s=Lib.itoa v:=by rw[e];rfl
  rcases Int.lt_or_le v 0 with h|h
  ·rw[gF h]at I
   have:=hd 45 (by rw[I];simp);exact absurd this (by decide)
  ·rw[fZ h]at I
   rcases q with q|⟨q,q2⟩|q
   ·have:=mw v.toNat 15 (by have:(10:Nat)^(15+1)=10000000000000000:=(by decide);omega)
    grind
   ·grind[fG,DO]
   ·grind[yl]
 ·rw[if_neg q]
  have N:1<(aX s).length->(aX s).head?≠some 48:=fun h1 h2=>q (.inr (.inl ⟨h1,h2⟩));have h3:=(zN _ (aX s) Z J hd N).1;have h4:eF 0 (aX s)<=1000000000000000:=by omega
  have e:s=dh (eF 0 (aX s):Int):=by rw[<-ofL_bs' s];grind[dh,H5,fZ,aX,eZ,eF]
  conv=>lhs;rw[e]
  grind[rF,fu]
 where
  ofL_bs' (s:ByteArray):H5 (aX s)=s:=(KB rfl).symm
inductive JV where
 |mk (op n:Int) (s:ByteArray) (keys:List ByteArray) (kids:List JV)
def JV.op:JV→Int | .mk a _ _ _ _=>a
def JV.n:JV→Int | .mk _ a _ _ _=>a
def JV.s:JV→ByteArray | .mk _ _ a _ _=>a
def JV.keys:JV->List ByteArray|.mk _ _ _ a _=>a
def JV.kids:JV->List JV|.mk _ _ _ _ a=>a
mutual
def JV.kc:JV->List (List D)
 |.mk _ _ _ _ kids=>JV.vp kids
def JV.vp:List JV→List (List D)
 | []=>[]
 | e::r=>[ci e.op,ci e.n,cs e.s,.sl (e.keys.map sc),.sl (JV.kc e)]::JV.vp r
end
@[reducible] def JV.c (e:JV):List D:=[ci e.op,ci e.n,cs e.s,.sl (e.keys.map sc),.sl e.kc]
theorem JV.sG:∀ l,JV.vp l=l.map JV.c
 | []=>rfl
 | e::r=>by simp[JV.vp,JV.sG r]
theorem JV.px (e:JV):e.kc=e.kids.map JV.c:=by cases e;simp[JV.kc,JV.kids,JV.sG]
theorem JV.bE(e:JV):e.kc.length=e.kids.length:=by simp[JV.px]
theorem JV.sN {e:JV} {i:Nat} {k:JV} (h:e.kids[i]? = some k):e.kc[i]? = some k.c:=by rw[JV.px];exact bF h
theorem aH{p:JV->Prop}(h:∀e,(∀k∈e.kids,p k)->p e):∀e,p e:=by
 intro e
 induction hn:_root_.SizeOf.sizeOf e using Nat.strongRecOn generalizing e with
 |_ m I=>
   subst hn;refine h e fun k J=>I (_root_.SizeOf.sizeOf k) ?_ k rfl
   cases e with
   |mk op n s keys kids=>have:=List.sizeOf_lt_of_mem (show k∈kids from J);grind
/-! equality -/
mutual
def KA:JV->JV->Bool
 |.mk a b c d e,.mk a' b' c' d' e'=>decide (a=a')&&(decide (b=b')&&(decide (c=c')&&(decide (d=d')&&uD e e')))
def uD:List JV->List JV->Bool
 |[],[]=>true
 |x::l,y::m=>KA x y&&uD l m
 |_,_=>false
end
mutual
theorem BE:∀(a b:JV),KA a b=true↔a=b
 |.mk a b c d e,.mk a' b' c' d' e'=>by simp only[KA,ρ,Δ,JV.mk.injEq,Av e e']
theorem Av:∀(l m:List JV),uD l m=true↔l=m
 |[],[]=>by simp[uD]
 |x::l,y::m=>by simp only[uD,ρ,BE x y,Av l m,List.cons.injEq]
 |[],_::_=>by simp[uD]
 |_::_,[]=>by simp[uD]
end
instance:DecidableEq JV:=fun a b=>decidable_of_iff _ (BE a b)
/-! checking -/
def known(b:UInt8):Bool:=decide (b.toNat=9)||(decide (b.toNat=10)||(decide (32<=b.toNat)&&decide (b.toNat<=126)))
def dT(s:ByteArray):Bool:=(aX s).all known
def cR:JV:=.mk 0 0 (B #[]) [] []
def dc (j:JV):Bool:=
 if j.op=1 then decide (j.n=0) && (decide (j.s=B #[]) && decide (j.keys.length+j.kids.length=0))
 else if j.op=2∨j.op=3 then decide (j.s=B #[]) && decide (j.keys.length+j.kids.length=0)
 else if j.op=4 then decide (j.n=0) && decide (j.keys.length+j.kids.length=0)
 else if j.op=5 then decide (j.n=0) && (decide (j.s=B #[]) && decide (j.keys.length=0))
 else if j.op=6 then decide (j.n=0) && (decide (j.s=B #[]) && decide (j.keys.length=j.kids.length))
 else false
def fP(seen:List ByteArray):List ByteArray->Bool
 |[]=>false
 |s::r=>if seen.any (fun x=>decide (x=s))then true else fP (seen++[s]) r
def dO (j:JV) (level:Int):Int:=
 if dc j=false then 1
 else if (j.op=2∧j.n≠0∧j.n≠1)∨(j.op=3∧fu j.n=false) then 2
 else if dT j.s=false∨(j.keys.any fun s=>!dT s)=true then 10
 else if fP [] j.keys=true then 4
 else if 5≤j.op∧16 < level then 20
 else 0
mutual
def ck:JV->Int->Int
 |.mk op n s keys kids,level=>if dO (.mk op n s keys kids) level≠0 then dO (.mk op n s keys kids) level else dz kids (level+1)
def dz:List JV->Int->Int
 |[],_=>0
 |k::r,level=>if ck k level≠0 then ck k level else dz r level
end
/-! printing -/
def ea(b:UInt8):List UInt8:=if b=34∨b=92 then[92,b]else if b=10 then[92,110]else if b=9 then[92,116]else[b]
def eg(l:List UInt8):List UInt8:=34::(l.flatMap ea++[34])
def kN:List UInt8:=[110,117,108,108]
def jn:List UInt8:=[116,114,117,101]
def il:List UInt8:=[102,97,108,115,101]
mutual
def bD:JV->List UInt8
 |.mk op n s keys kids=>
   if op=1 then kN else if op=2 then(if n=1 then jn else il)else if op=3 then aX (dh n)else if op=4 then eg (aX s)
   else if op=6 then 123::(cK keys kids true++[125])else 91::(dR kids true++[93])
def dR:List JV->Bool->List UInt8
 |[],_=>[]
 |k::r,first=>(if first then[]else[44])++bD k++dR r false
def cK:List ByteArray->List JV->Bool->List UInt8
 |s::keys,k::r,first=>(if first then[]else[44])++eg (aX s)++[58]++bD k++cK keys r false
 |_,_,_=>[]
end
def cM (j:JV) (key:ByteArray):Option JV:=
 if j.op=6 then (match j.keys.findIdx? fun x=>decide (key=x) with | some i=>j.kids[i]? | none=>none) else none
/-! parsing: 'no at why' is a fault -/
inductive PE(α:Type)where
 |ok (x:α) (i:Nat)
 |no (at_:Nat) (why:Int)
def jS(b:UInt8):Bool:=decide (b.toNat=32)||(decide (b.toNat=9)||(decide (b.toNat=10)||decide (b.toNat=13)))
def bb(l:List UInt8)(i:Nat):UInt8:=l.getD i 0
def nW(l:List UInt8):Nat->Nat->Nat
 |0,i=>i
 |k+1,i=>if i<l.length∧jS (bb l i)=true then nW l k (i+1)else i
def bg(l:List UInt8)(i:Nat):Nat:=nW l (l.length-i) i
def cn(l:List UInt8)(c:UInt8)(i:Nat):PE Unit:=if i<l.length∧bb l i=c then .ok () (i+1)else .no i 10
def bX(l:List UInt8):List UInt8->Nat->PE Unit
 |[],i=>.ok () i
 |c::r,i=>match cn l c i with
   |.ok _ j=>bX l r j
   |.no a w=>.no a w
def gC(c:UInt8):Option Nat:=
 if 48<=c.toNat∧c.toNat<=57 then some (c.toNat-48)else if 97<=(c|||32).toNat∧(c|||32).toNat<=102 then some ((c|||32).toNat-97+10)else none
def dL(l:List UInt8)(i:Nat):PE UInt8:=
 if bb l i=34∨bb l i=92∨bb l i=47 then .ok (bb l i) (i+1)
 else if bb l i=110 then .ok 10 (i+1)
 else if bb l i=116 then .ok 9 (i+1)
 else match bX l [117,48,48] i with
  |.no a w=>.no a w
  |.ok _ j=>match gC (bb l j)with
    |none=>.no j 10
    |some high=>if high=1∨7<high then .no j 10 else match gC (bb l (j+1))with
      |none=>.no (j+1) 10
      |some low=>if known (UInt8.ofNat (16*high+low))=false then .no (j+1) 10 else .ok (UInt8.ofNat (16*high+low)) (j+2)
def dE(l:List UInt8):Nat->Nat->List UInt8->PE (List UInt8)
 |0,i,_=>.no i 10
 |k+1,i,acc=>
   if(bb l i).toNat<32∨126<(bb l i).toNat then .no i 10
   else if bb l i=34 then .ok acc (i+1)
   else if bb l i=92 then(match dL l (i+1)with
    |.no a w=>.no a w
    |.ok c j=>dE l k j (acc++[c]))
   else dE l k (i+1) (acc++[bb l i])
def cL(l:List UInt8)(i:Nat):PE (List UInt8):=match cn l 34 i with
 |.no a w=>.no a w
 |.ok _ j=>dE l (l.length+1-j) j []
def gS(l:List UInt8):Nat->Nat->Nat
 |0,i=>i
 |k+1,i=>if i<l.length∧cF (bb l i)=true then gS l k (i+1)else i
def cc(l:List UInt8)(i:Nat):Nat:=if bb l i=48 then i+1 else gS l (l.length-i) i
def e7(l:List UInt8)(i:Nat):PE JV:=
 let i1:=if bb l i=45 then i+1 else i
 let i2:=cc l i1
 if i2=i1 then .no i1 10 else
 let t:ByteArray:=⟨((l.drop i).take (i2-i)).toArray⟩
 let u:=if t=B #[45,48]then B #[48]else t
 if(fY u).2=true then .ok (.mk 3 (fY u).1 (B #[]) [] []) i2 else .no i 2
def bytesOf(l:List UInt8):ByteArray:=⟨l.toArray⟩
mutual
def dA(l:List UInt8):Nat->Int->Nat->PE JV
 |0,_,i=>.no i 10
 |k+1,level,i0=>
   let i:=bg l i0
   let c:=bb l i
   if c=110 then(match bX l kN i with|.no a w=>.no a w|.ok _ j=>.ok (.mk 1 0 (B #[]) [] []) j)
   else if c=116 then(match bX l jn i with|.no a w=>.no a w|.ok _ j=>.ok (.mk 2 1 (B #[]) [] []) j)
   else if c=102 then(match bX l il i with|.no a w=>.no a w|.ok _ j=>.ok (.mk 2 0 (B #[]) [] []) j)
   else if c=34 then(match cL l i with|.no a w=>.no a w|.ok t j=>.ok (.mk 4 0 (bytesOf t) [] []) j)
   else if c=91∨c=123 then
    if 16<level then .no i 20
    else if c=91 then ie l k level (i+1)else ib l k level (i+1)
   else e7 l i
def ie(l:List UInt8):Nat->Int->Nat->PE JV
 |0,_,i=>.no i 10
 |k+1,level,i0=>
   let i:=bg l i0
   if bb l i=93 then .ok (.mk 5 0 (B #[]) [] []) (i+1)else fI l k level i []
def fI(l:List UInt8):Nat->Int->Nat->List JV->PE JV
 |0,_,i,_=>.no i 10
 |k+1,level,i,acc=>match dA l k (level+1) i with
   |.no a w=>.no a w
   |.ok v j=>
     let j1:=bg l j
     if bb l j1=44 then fI l k level (j1+1) (acc++[v])
     else match cn l 93 j1 with|.no a w=>.no a w|.ok _ j2=>.ok (.mk 5 0 (B #[]) [] (acc++[v])) j2
def ib(l:List UInt8):Nat->Int->Nat->PE JV
 |0,_,i=>.no i 10
 |k+1,level,i0=>
   let i:=bg l i0
   if bb l i=125 then .ok (.mk 6 0 (B #[]) [] []) (i+1)else fJ l k level i [] []
def fJ(l:List UInt8):Nat->Int->Nat->List ByteArray->List JV->PE JV
 |0,_,i,_,_=>.no i 10
 |k+1,level,i0,keys,acc=>
   let i:=bg l i0
   match cL l i with
   |.no a w=>.no a w
   |.ok t j=>
     if keys.any (fun x=>decide (x=bytesOf t))then .no i 4 else
     match cn l 58 (bg l j)with
     |.no a w=>.no a w
     |.ok _ j1=>match dA l k (level+1) j1 with
       |.no a w=>.no a w
       |.ok v j2=>
         let j3:=bg l j2
         if bb l j3=44 then fJ l k level (j3+1) (keys++[bytesOf t]) (acc++[v])
         else match cn l 125 j3 with|.no a w=>.no a w|.ok _ j4=>.ok (.mk 6 0 (B #[]) (keys++[bytesOf t]) (acc++[v])) j4
end
def eb(l:List UInt8):PE JV:=match dA l (3*l.length+1) 1 0 with
 |.no a w=>.no a w
 |.ok j i=>if bg l i<l.length then .no (bg l i) 10 else .ok j 0
variable {e:Ev}
theorem DK{l:List ByteArray}(h:eG l=0):l.length<=32∧∀s∈l,cO s=0:=by unfold eG at h;grind
structure Good(e:Ev):Prop where
 time:0<=e.time∧e.time<=1000000000000
 kind:1<=e.kind∧e.kind<13
 noName:(eD e.kind).name=false->e.name=B #[]
 noN:(eD e.kind).n=false->e.n=0
 noM:(eD e.kind).m=false->e.m=0
 noStack:(eD e.kind).stack=false->e.stack=[]
 name:(eD e.kind).name=true->cO e.name=0
 stack:(eD e.kind).name=false->eG e.stack=0
 n:(eD e.kind).n=true->(eD e.kind).least<=e.n∧e.n<=(eD e.kind).most
 stop:e.kind=9->e.n≠2->e.m=0
 m:(eD e.kind).m=true->(e.kind≠9∨e.n=2)->(eD e.kind).mLeast<=e.m∧e.m<=(eD e.kind).mMost
theorem Ja(h:dJ e=0):Good e:=by
 unfold dJ at h;split at h;·simp at h
 split at h;·simp at h
 split at h;·rename_i h3;exact absurd h h3
 split at h;·simp at h
 split at h;·simp at h
 split at h;·simp at h
 rename_i h1 h2 h3 h4 h5 h6;simp only[not_or]at h1 h2;obtain⟨J,M,N,O,U⟩:=h2;have X:1<=e.kind∧e.kind<13:=by simp[mS]at J;exact J
 have I:nw (eD e.kind) e=0:=by simpa using h3
 unfold nw at I;refine⟨by omega,X,fun q=>by simp[q]at M;exact M,fun q=>by simp[q]at N;exact N,fun q=>by simp[q]at O;exact O,fun q=>by simp[q]at U;exact U,fun q=>by simpa[q]using I,fun q=>by simpa[q]using I,fun q=>by simp only[q,true_and,not_or]at h4;omega,fun q1 q2=>by simp only[q1,true_and,not_and]at h5;have:=h5 q2;simpa using this,fun q1 q2=>?_⟩;grind
theorem Az{n}:fu n=true↔-1000000000000000<=n∧n<=1000000000000000:=by simp[fu]
theorem Co{n}(h:fu n=true):(dh n).size<=17:=by have h1:=Az.1 h;have h2:=FZ (n:=n) (by have:(10:Nat)^16=10000000000000000:=(by decide);omega);have h3:(dh n).size=(Lib.itoa n).length:=Array.length_toList.symm;omega
structure HX where
 at_:Int
 cpu:Int
 word:ByteArray
 l:List Int
 e:Int
deriving DecidableEq
def HX.res(x:HX):A:=.tup [.d (ci x.at_),.d (ci x.cpu),.d (.v (.string x.word)),.d (.sl (x.l.map ic)),.d (ci x.e)]
abbrev yk:=List Int×List (Int×List Ev)
def Cw(x:yk)(th:Int)(e:Ev):yk:=
 if th=0 then x else(if((cC x.2 th).getD [])=[]then x.1++[th]else x.1,dN x.2 th ((cC x.2 th).getD []++[e]))
def sC(n:Nat)(x:yk):Prop:=(x.2.map (·.1)).Nodup∧x.1.length<=n∧∀p∈x.2,p.2.length<=n
theorem sC.get{n}{x:yk}(h:sC n x)(th):((cC x.2 th).getD []).length<=n:=by
 unfold cC
 cases q:x.2.find? fun p=>decide (p.1=th)with
 |none=>simp
 |some p=>simpa[q]using h.2.2 p (List.mem_of_find?_eq_some q)
theorem sC.add {n} {x:yk} (h:sC n x) (th) (e:Ev):sC (n+1) (Cw x th e):=by
  unfold Cw
  split
  · exact⟨h.1,Nat.le_succ_of_le h.2.1,fun p hp=>Nat.le_succ_of_le (h.2.2 p hp)⟩
  · refine⟨qS h.1 _ _,?_,fun p hp=>?_⟩
    · have:=h.2.1
      grind
    · have key:∀ {l:List (Int×List Ev)} {y:List Ev},p∈dN l th y→p=(th,y)∨p∈l:=by
        intro l
        induction l with
        | nil=>intro y hp;simp[dN] at hp;exact .inl hp
        | cons q r ih=>
          intro y hp
          simp only[dN] at hp
          grind
      rcases key hp with rfl | hp
      · have:=h.get th
        grind
      · exact Nat.le_succ_of_le (h.2.2 p hp)
theorem sC.mono{n m}{x:yk}(h:sC n x)(I:n<=m):sC m x:=⟨h.1,B' h.2.1 I,fun p hp=>B' (h.2.2 p hp) I⟩
section
/-! a text from a position on -/
variable {l x:List UInt8}{i k u:Nat}{level id a:Int}{α β:Type}{ids:List Int}
variable {j:JV}
theorem dS{l:List UInt8}{i:Nat}{a:UInt8}{r:List UInt8}(h:l.drop i=a::r):i<l.length∧bb l i=a∧l.drop (i+1)=r:=by grind[Nat.lt_or_ge,List.drop_eq_nil_of_le,List.drop_eq_getElem_cons,bb,List.getElem?_eq_getElem]
theorem sj{r}(h:l.drop i=x++r):l.drop (i+x.length)=r:=by rw[<-List.drop_drop,h,List.drop_append_of_le_length (ω _),List.drop_length,List.nil_append]
theorem lE(h:l.length<=i):bb l i=0:=by unfold bb;grind
theorem jD{l:List UInt8}{i:Nat}:bb l i=(l.drop i).headD 0:=by grind[Nat.lt_or_ge,List.drop_eq_getElem_cons,bb,List.getElem?_eq_getElem,lE,List.drop_eq_nil_of_le]
/-! white space -/
theorem CU(h:jS (bb l i)=false):∀k,nW l k i=i
 |0=>rfl
 |k+1=>by simp only[nW];rw[if_neg (by simp[h])]
theorem eK(h:jS (bb l i)=false):bg l i=i:=CU h _
theorem zS(l):∀(k i:Nat),i<=nW l k i
 |0,_=>ω _
 |k+1,i=>by
   simp only[nW];split;·exact B' (Nat.le_succ i) (zS l k (i+1))
   ·grind
theorem zM(l:List UInt8):∀(k i:Nat),i<=l.length->nW l k i<=l.length
 |0,_,h=>h
 |k+1,i,h=>by
   simp only[nW];split;·rename_i q;exact zM l k (i+1) q.1
   ·grind
theorem cE(l i):i<=bg l i:=zS l _ i
theorem cA(h:i<=l.length):bg l i<=l.length:=zM l _ i h
theorem Eo(h:l.length<=i):bg l i=i:=by refine eK ?_;rw[lE h];rfl
theorem mj(h:i<l.length)(hw:jS (bb l i)=true):bg l i=bg l (i+1):=by unfold bg;obtain⟨k,I⟩:∃k,l.length-i=k+1:=⟨l.length-i-1,by omega⟩;grind[nW]
/-! words and texts -/
theorem oE{a r}(h:l.drop i=a::r):cn l a i=.ok () (i+1):=by grind[dS,cn]
theorem rD:∀{x:List UInt8}{i:Nat}{r:List UInt8},l.drop i=x++r->bX l x i=.ok () (i+x.length)
 |[],i,r,_=>rfl
 |a::x,i,r,h=>by obtain⟨h1,h2,h3⟩:=dS h;simp only[bX,oE h];rw[rD h3,Ξ];congr 1;omega
theorem A5{b:UInt8}(h:known b=true):b=9∨b=10∨(32<=b.toNat∧b.toNat<=126):=by
 unfold known at h;simp only[Bool.or_eq_true,ρ,Δ]at h;rcases h with h|h|h
 ·exact .inl (UInt8.toNat_inj.1 h)
 ·exact .inr (.inl (UInt8.toNat_inj.1 h))
 ·grind
theorem yd{l:List UInt8}:∀{t:List UInt8}{k i:Nat}{acc r:List UInt8},(∀b∈t,known b=true)->l.drop i=t.flatMap ea++34::r->t.length+1<=k->dE l k i acc=.ok (acc++t) (i+(t.flatMap ea).length+1)
 |[],k,i,acc,r,_,h,hk=>by obtain⟨k,rfl⟩:∃J,k=J+1:=⟨k-1,by simp at hk;omega⟩;obtain⟨h1,h2,h3⟩:=dS (show l.drop i=34::r from h);unfold dE;simp_all
 |b::t,k,i,acc,r,hp,h,hk=>by
   obtain⟨k,rfl⟩:∃J,k=J+1:=⟨k-1,by simp at hk;omega⟩;have hb:=A5 (hp b (D' ..));have X:=fun N M O=>yd (l:=l) (t:=t) (k:=k) (i:=N) (acc:=M) (r:=r) (fun x U=>hp x (q' _ U)) O (by simp at hk;omega);have e:(b::t).flatMap ea=ea b++t.flatMap ea:=rfl;rw[e,R']at h;have I:∀(c d:UInt8),ea b=[92,c]->(∀j,bb l j=c->dL l j=.ok d (j+1))->d=b->dE l (k+1) i acc=.ok (acc++b::t) (i+((b::t).flatMap ea).length+1):=by intro c d he hj hd;subst hd;rw[he]at h;obtain⟨h1,h2,h3⟩:=dS (show l.drop i=92::(c::(t.flatMap ea++34::r))from h);obtain⟨h4,h5,h6⟩:=dS h3;unfold dE;rw[h2,if_neg (by decide),if_neg (by decide),if_pos rfl,hj _ h5];grind
   by_cases q1:b=34∨b=92
   ·refine I b b (by unfold ea;rw[if_pos q1]) (fun j hj=>?_) Z
    unfold dL;grind
   by_cases q2:b=10
   ·refine I 110 10 (by unfold ea;rw[if_neg q1,if_pos q2]) (fun j hj=>?_) q2.symm
    grind[dL]
   by_cases q3:b=9
   ·refine I 116 9 (by unfold ea;rw[if_neg q1,if_neg q2,if_pos q3]) (fun j hj=>?_) q3.symm
    grind[dL]
   have he:ea b=[b]:=by unfold ea;rw[if_neg q1,if_neg q2,if_neg q3]
   have hr:32<=b.toNat∧b.toNat<=126:=by grind
   rw[he]at h;obtain⟨h1,h2,h3⟩:=dS (show l.drop i=b::(t.flatMap ea++34::r)from h);unfold dE;grind
theorem AG{l:List UInt8}{t:List UInt8}{i:Nat}{r:List UInt8}(hp:∀b∈t,known b=true)(h:l.drop i=eg t++r):cL l i=.ok t (i+(eg t).length):=by
 have I:l.drop i=34::(t.flatMap ea++34::r):=by rw[h];simp[eg]
 obtain⟨h1,h2,h3⟩:=dS I;unfold cL;rw[oE I];dsimp only;have hlen:t.length<=(t.flatMap ea).length:=by
  clear h I h3
  induction t with
  |nil=>simp
  |cons a t J=>grind[ea,List.mem_cons_of_mem,List.length_append,List.length_cons]
 have hl:(l.drop (i+1)).length=l.length-(i+1):=List.length_drop ..;rw[h3]at hl;simp only[ν,Ξ]at hl;rw[yd hp h3 (by omega)];grind[eg]
end
variable {j:JV}
theorem mV(s):bytesOf (aX s)=s:=by cases s;rfl
theorem iw(l):aX (bytesOf l)=l:=by simp[aX,bytesOf]
/-! numbers -/
theorem FB:∀u,(eZ u).headD 0=48->u=0:=by
 refine mv (fun u h I=>?_) (fun u h M I=>?_)
 ·rw[fG h]at I
  have h1:(UInt8.ofNat (48+u)).toNat=48:=by simp_all
  grind[UInt8.toNat_ofNat']
 ·rw[iG h]at I
  have J:=kb (u/10);have:(eZ (u/10)).headD 0=48:=by
   cases hd:eZ (u/10)with
   |nil=>exact absurd hd J
   |cons a r=>rw[hd]at I;exact I
  grind
theorem B2:∀{x:List UInt8}{k i:Nat}{r:List UInt8},l.drop i=x++r->(∀b∈x,cF b=true)->cF (r.headD 0)=false->x.length<=k->gS l k i=i+x.length
 |[],k,i,r,h,_,hr,_=>by
   have I:bb l i=r.headD 0:=by rw[jD,h];rfl
   cases k with
   |zero=>rfl
   |succ k=>simp only[gS];rw[if_neg (by rw[I,hr];simp)];rfl
 |a::x,k,i,r,h,hd,hr,hk=>by obtain⟨k,rfl⟩:∃J,k=J+1:=⟨k-1,by simp at hk;omega⟩;obtain⟨h1,h2,h3⟩:=dS h;simp only[gS];rw[if_pos ⟨h1,by rw[h2];exact hd a (D' ..)⟩,B2 h3 (fun b hb=>hd b (q' _ hb)) hr (by simp at hk;omega),Ξ];omega
theorem Dm:cF ((eZ u).headD 0)=true:=by
 cases hd:eZ u with
 |nil=>exact absurd hd (kb u)
 |cons a r=>exact kz u a (by rw[hd];exact D' ..)
theorem zu{r:List UInt8}(h:l.drop i=eZ u++r)(I:cF (r.headD 0)=false):cc l i=i+(eZ u).length:=by
 have J:bb l i=(eZ u).headD 0:=by
  rw[jD,h]
  cases hd:eZ u with
  |nil=>exact absurd hd (kb u)
  |cons a x=>rfl
 grind[cc,bb,FB,fG,B2,kz,List.length_drop]
theorem A7{b}(h:cF b=true):b≠45:=by rintro rfl;exact absurd h (by decide)
theorem Ii{n}{r:List UInt8}(I:fu n=true)(h:l.drop i=aX (dh n)++r)(J:cF (r.headD 0)=false):e7 l i=.ok (.mk 3 n (B #[]) [] []) (i+(aX (dh n)).length):=by
 have hb:aX (dh n)=Lib.itoa n:=iA n;have key:∀i1 i2,(if bb l i=45 then i+1 else i)=i1->cc l i1=i2->i2≠i1->i2=i+(aX (dh n)).length->e7 l i=.ok (.mk 3 n (B #[]) [] []) (i+(aX (dh n)).length):=by
  intro i1 i2 h1 h2 h3 h4;unfold e7;rw[h1];dsimp only;rw[h2,if_neg h3];have M:(⟨((l.drop i).take (i2-i)).toArray⟩:ByteArray)=dh n:=by rw[h4,Nat.add_sub_cancel_left,h,List.take_append_of_le_length (ω _),List.take_length];exact mV (dh n)
  have N:¬dh n=B #[45,48]:=fun q=>by
   have h5:=rF I;rw[q]at h5;exact absurd h5 (by
    have:fY (B #[45,48])=(0,false):=by decide+kernel
    rw[this];simp)
  grind[rF]
 rcases Int.lt_or_le n 0 with h0|h0
 ·rw[hb,gF h0]at h
  obtain⟨h1,h2,h3⟩:=dS (show l.drop i=45::(eZ n.natAbs++r)from h);grind[zu,List.length_pos_iff,kb,gF,List.length_cons]
 ·rw[hb,fZ h0]at h
  have hd:=zu h J;have hp:=List.length_pos_iff.2 (kb n.toNat);have O:bb l i=(eZ n.toNat).headD 0:=by
   rw[jD,h]
   cases hd:eZ n.toNat with
   |nil=>exact absurd hd (kb _)
   |cons a x=>rfl
  grind[A7,Dm,fZ]
/-! what a valid node is -/
theorem jA(h:dO j level=0):dc j=true∧¬((j.op=2∧j.n≠0∧j.n≠1)∨(j.op=3∧fu j.n=false))∧dT j.s=true∧(∀s∈j.keys,dT s=true)∧fP [] j.keys=false∧(5<=j.op->level<=16):=by
 unfold dO at h;split at h;·grind
 ·grind
theorem uk{s}(h:dT s=true):∀b∈aX s,known b=true:=M'.1 h
theorem nZ{a:List α}{b:List β}(h:a.length+b.length=0):a=[]∧b=[]:=⟨List.length_eq_zero_iff.1 (by omega),List.length_eq_zero_iff.1 (by omega)⟩
/-! the first byte of a printed value -/
theorem uv(j:JV)(level)(h:ck j level=0):∃a r,bD j=a::r∧jS a=false:=by
 obtain⟨op,n,s,keys,kids⟩:=j;simp only[bD];split;·exact⟨_,_,rfl,by decide⟩
 ·split
  ·split
   ·exact⟨_,_,rfl,by decide⟩
   ·exact⟨_,_,rfl,by decide⟩
  ·split
   ·rcases Int.lt_or_le n 0 with h0|h0
    ·exact⟨45,eZ n.natAbs,by rw[show aX (dh n)=Lib.itoa n from iA n,gF h0],by decide⟩
    ·rw[show aX (dh n)=Lib.itoa n from iA n,fZ h0]
     cases hd:eZ n.toNat with
     |nil=>exact absurd hd (kb _)
     |cons a r=>refine⟨a,r,rfl,?_⟩;have h1:=kz n.toNat a (by rw[hd];exact D' ..);unfold cF at h1;simp only[ρ,Δ]at h1;unfold jS;grind
   ·split
    ·exact⟨34,_,rfl,by decide⟩
    ·split
     ·exact⟨123,_,rfl,by decide⟩
     ·exact⟨91,_,rfl,by decide⟩
theorem gK(x:JV)(r first):dR (x::r) first=(if first then[]else[44])++bD x++dR r false:=by simp[dR]
theorem fL(s keys)(x:JV)(r first):cK (s::keys) (x::r) first=(if first then[]else[44])++eg (aX s)++[58]++bD x++cK keys r false:=by simp[cK]
theorem rX{seen:List ByteArray}{s r}:fP seen (s::r)=false↔seen.any (fun x=>decide (x=s))=false∧fP (seen++[s]) r=false:=by simp only[fP];cases seen.any (fun x=>decide (x=s))<;>simp
theorem jt{k:JV}{r}(h:dz (k::r) level=0):ck k level=0∧dz r level=0:=by grind[dz]
theorem lF{op n s keys kids}(h:ck (.mk op n s keys kids) level=0):dO (.mk op n s keys kids) level=0∧dz kids (level+1)=0:=by grind[ck]
theorem CG(op n s)(keys:List ByteArray)(kids:List JV):dc (.mk op n s keys kids)=
 (if op=1 then decide (n=0)&&(decide (s=B #[])&&decide (keys.length+kids.length=0))
 else if op=2∨op=3 then decide (s=B #[])&&decide (keys.length+kids.length=0)
 else if op=4 then decide (n=0)&&decide (keys.length+kids.length=0)
 else if op=5 then decide (n=0)&&(decide (s=B #[])&&decide (keys.length=0))
 else if op=6 then decide (n=0)&&(decide (s=B #[])&&decide (keys.length=kids.length))
 else false):=rfl
def Gt(v:JV):Prop:=∀(level:Int),ck v level=0->∀(l:List UInt8)(i k:Nat)(r:List UInt8),l.drop i=bD v++r->cF (r.headD 0)=false->3*(bD v).length+1<=k->dA l k level i=.ok v (i+(bD v).length)
theorem wu{r}:∀(kids:List JV),(∀x∈kids,Gt x)->dz kids (level+1)=0->kids≠[]->∀(i k:Nat)(acc:List JV),l.drop i=dR kids true++93::r->3*((dR kids true).length+1)<=k->
 fI l k level i acc=.ok (.mk 5 0 (B #[]) [] (acc++kids)) (i+(dR kids true).length+1)
 |[],_,_,hne,_,_,_,_,_=>absurd rfl hne
 |x::kids,hb,hc,_,i,k,acc,h,hk=>by
   obtain⟨J,M⟩:=jt hc;rw[gK]at h hk⊢;simp only[if_true,List.nil_append,R']at h;simp only[if_true,List.nil_append,ν]at hk⊢;obtain⟨k,rfl⟩:∃N,k=N+1:=⟨k-1,by omega⟩;have hd:cF ((dR kids false++93::r).headD 0)=false:=by
    cases kids with
    |nil=>rfl
    |cons y kids=>rw[gK];rfl
   have O:=hb x (D' ..) (level+1) J l i k _ h hd (by omega);have h2:=sj h;unfold fI;rw[O];dsimp only
   cases kids with
   |nil=>have I:l.drop (i+(bD x).length)=93::r:=h2;obtain⟨h3,h4,h5⟩:=dS I;rw[eK (by rw[h4];decide),h4,if_neg (by decide),oE I];simp[dR]
   |cons y kids=>
     have e:dR (y::kids) false=44::dR (y::kids) true:=by rw[gK,gK];simp
     rw[e]at h2 hk⊢;obtain⟨h3,h4,h5⟩:=dS (show l.drop (i+(bD x).length)=44::(dR (y::kids) true++93::r)from h2);rw[eK (by rw[h4];decide),h4,if_pos rfl];have:=wu (y::kids) (fun z U=>hb z (q' _ U)) M (by simp) (i+(bD x).length+1) k (acc++[x]) h5 (by simp only[Ξ]at hk;omega);rw[this];simp only[R',List.cons_append,List.nil_append,Ξ,PE.ok.injEq,true_and];omega
theorem su{r}:∀(keys:List ByteArray)(kids:List JV),keys.length=kids.length->(∀s∈keys,dT s=true)->(∀x∈kids,Gt x)->dz kids (level+1)=0->kids≠[]->
 ∀(i k:Nat)(seen:List ByteArray)(acc:List JV),fP seen keys=false->l.drop i=cK keys kids true++125::r->3*((cK keys kids true).length+1)<=k->
 fJ l k level i seen acc=.ok (.mk 6 0 (B #[]) (seen++keys) (acc++kids)) (i+(cK keys kids true).length+1)
 |_,[],_,_,_,_,hne,_,_,_,_,_,_,_=>absurd rfl hne
 |[],_::_,hl,_,_,_,_,_,_,_,_,_,_,_=>by simp at hl
 |s::keys,x::kids,hl,hp,hb,hc,_,i,k,seen,acc,hr,h,hk=>by
   obtain⟨N,O⟩:=jt hc;obtain⟨U,X⟩:=rX.1 hr;rw[fL]at h hk⊢;simp only[if_true,List.nil_append,R',List.cons_append]at h;simp only[if_true,List.nil_append,ν,Ξ,List.length_nil]at hk⊢;obtain⟨k,rfl⟩:∃k',k=k'+1:=⟨k-1,by omega⟩;have hq:bb l i=34:=by rw[jD,h];rfl
   have ht:=AG (uk (hp s (D' ..))) h;have h2:=sj h;obtain⟨h3,h4,h5⟩:=dS h2;have hd:cF ((cK keys kids false++125::r).headD 0)=false:=by
    cases keys with
    |nil=>simp[cK];decide
    |cons t keys=>
      cases kids with
      |nil=>simp[cK];decide
      |cons y kids=>rw[fL];rfl
   have hv:=hb x (D' ..) (level+1) N l _ k _ h5 hd (by omega);have J:=sj h5;unfold fJ;dsimp only;rw[eK (by rw[hq];decide),ht];dsimp only;rw[mV,if_neg (by rw[U];simp),eK (by rw[h4];decide),oE h2];dsimp only;rw[hv];dsimp only
   cases kids with
   |nil=>
     have ad:keys=[]:=List.length_eq_zero_iff.1 (by simpa using hl);subst ad;have h7:l.drop (i+(eg (aX s)).length+1+(bD x).length)=125::r:=by rw[J];rfl
     obtain⟨h8,I,_⟩:=dS h7;rw[eK (by rw[I];decide),I,if_neg (by decide),oE h7];simp[cK];omega
   |cons y kids=>
     cases keys with
     |nil=>simp at hl
     |cons t keys=>
       have e:cK (t::keys) (y::kids) false=44::cK (t::keys) (y::kids) true:=by rw[fL,fL];simp
       rw[e]at J hk⊢;obtain⟨h8,I,ai⟩:=dS (show l.drop (i+(eg (aX s)).length+1+(bD x).length)=44::(cK (t::keys) (y::kids) true++125::r)from J);rw[eK (by rw[I];decide),I,if_pos rfl];have:=su (t::keys) (y::kids) (by simpa using hl) (fun z M=>hp z (q' _ M)) (fun z M=>hb z (q' _ M)) O (by simp) _ k (seen++[s]) (acc++[x]) X ai (by simp only[Ξ]at hk;omega);rw[this];simp only[R',List.cons_append,List.nil_append,Ξ,PE.ok.injEq,true_and];omega
theorem back:∀ v,Gt v:=by
  refine aH fun v ih=>?_
  obtain⟨op,n,s,keys,kids⟩:=v
  intro level hc l i k r h hr hk
  obtain⟨hn,hcs⟩:=lF hc
  obtain⟨hf,hrange,hpl,hkeys,hrep,hlev⟩:=jA hn
  simp only[JV.op,JV.n,JV.s,JV.keys] at hrange hpl hkeys hrep hlev
  obtain⟨k,rfl⟩:∃ k',k=k'+1:=⟨k - 1,by omega⟩
  obtain⟨a,q,hpa,hws⟩:=uv _ level hc
  have hhere:bb l i=a:=by rw[jD,h,hpa];rfl
  have hskip:bg l i=i:=eK (by rw[hhere];exact hws)
  unfold dA
  dsimp only
  rw[hskip]
  rw[CG] at hf
  by_cases o1:op=1
  · subst o1
    rw[if_pos rfl] at hf
    simp only[ρ,Δ] at hf
    obtain⟨rfl,rfl,hz⟩:=hf
    obtain⟨rfl,rfl⟩:=nZ hz
    have hp:bD (.mk 1 0 (B #[]) [] [])=kN:=by simp[bD]
    rw[hp] at h ⊢
    rw[(dS (show l.drop i=110::([117,108,108]++r) from h)).2.1,if_pos rfl,rD h]
  by_cases o2:op=2
  · subst o2
    rw[if_neg (show ¬ (2:Int)=1 by decide),if_pos (.inl rfl)] at hf
    simp only[ρ,Δ] at hf
    obtain⟨rfl,hz⟩:=hf
    obtain⟨rfl,rfl⟩:=nZ hz
    by_cases n1:n=1
    · subst n1
      have hp:bD (.mk 2 1 (B #[]) [] [])=jn:=by simp[bD]
      rw[hp] at h ⊢
      rw[(dS (show l.drop i=116::([114,117,101]++r) from h)).2.1,if_neg (by decide),if_pos rfl,rD h]
    · have n0:n=0:=by
        by_cases z:n=0
        · exact z
        · exact absurd (.inl ⟨rfl,z,n1⟩) hrange
      subst n0
      have hp:bD (.mk 2 0 (B #[]) [] [])=il:=by simp[bD]
      rw[hp] at h ⊢
      rw[(dS (show l.drop i=102::([97,108,115,101]++r) from h)).2.1,if_neg (by decide),if_neg (by decide),if_pos rfl,rD h]
  by_cases o3:op=3
  · subst o3
    rw[if_neg (show ¬ (3:Int)=1 by decide),if_pos (.inr rfl)] at hf
    simp only[ρ,Δ] at hf
    obtain⟨rfl,hz⟩:=hf
    obtain⟨rfl,rfl⟩:=nZ hz
    have hin:fu n=true:=by
      by_cases z:fu n=true
      · exact z
      · exact absurd (.inr ⟨rfl,by simpa using z⟩) hrange
    have hp:bD (.mk 3 n (B #[]) [] [])=aX (dh n):=by simp[bD]
    rw[hp] at h hpa ⊢
    have hnum:=Ii hin h hr
    have ha:cF a=true∨a=45:=by
      have hb:aX (dh n)=Lib.itoa n:=iA n
      rw[hb] at hpa
      rcases Int.lt_or_le n 0 with h0 | h0
      · rw[gF h0] at hpa;injection hpa with h1 _;exact .inr h1.symm
      · rw[fZ h0] at hpa
        exact .inl (kz n.toNat a (by rw[hpa];exact D' ..))
    have hne:a≠110∧a≠116∧a≠102∧a≠34∧a≠91∧a≠123:=by
      rcases ha with ha | ha
      · refine⟨?_,?_,?_,?_,?_,?_⟩ <;> (rintro rfl;exact absurd ha (by decide))
      · subst ha;decide
    rw[hhere,if_neg hne.1,if_neg hne.2.1,if_neg hne.2.2.1,if_neg hne.2.2.2.1,if_neg (by rintro(z | z);exact hne.2.2.2.2.1 z;exact hne.2.2.2.2.2 z),hnum]
  by_cases o4:op=4
  · subst o4
    rw[if_neg (by decide),if_neg (by decide),if_pos rfl] at hf
    simp only[ρ,Δ] at hf
    obtain⟨rfl,hz⟩:=hf
    obtain⟨rfl,rfl⟩:=nZ hz
    have hp:bD (.mk 4 0 s [] [])=eg (aX s):=by simp[bD]
    rw[hp] at h ⊢
    have ht:=AG (uk hpl) h
    rw[show bb l i=34 by rw[jD,h];rfl,if_neg (by decide),if_neg (by decide),if_neg (by decide),if_pos rfl,ht]
    dsimp only
    rw[mV]
  by_cases o5:op=5
  · subst o5
    rw[if_neg (by decide),if_neg (by decide),if_neg (by decide),if_pos rfl] at hf
    simp only[ρ,Δ] at hf
    obtain⟨rfl,rfl,hz⟩:=hf
    have hkz:=List.length_eq_zero_iff.1 hz
    subst hkz
    have hp:bD (.mk 5 0 (B #[]) [] kids)=91::(dR kids true++[93]):=by simp[bD]
    rw[hp] at h hk ⊢
    simp only[Ξ,ν,List.length_nil] at hk ⊢
    have hl:=hlev (by decide)
    obtain⟨h1,h2,h3⟩:=dS (show l.drop i=91::(dR kids true++[93]++r) by rw[h];simp)
    rw[h2,if_neg (by decide),if_neg (by decide),if_neg (by decide),if_neg (by decide),if_pos (.inl rfl),if_neg (by omega),if_pos rfl]
    obtain⟨k,rfl⟩:∃ k',k=k'+1:=⟨k - 1,by omega⟩
    unfold ie
    dsimp only
    cases kids with
    | nil=>
      obtain⟨h4,h5,h6⟩:=dS (show l.drop (i+1)=93::r by rw[h3];rfl)
      rw[eK (by rw[h5];decide),h5,if_pos rfl]
      simp[dR]
    | cons x kids=>
      obtain⟨hc1,hc2⟩:=jt hcs
      obtain⟨b,t,hb,hbw⟩:=uv x (level+1) hc1
      have hh:bb l (i+1)=b:=by rw[jD,h3,gK];simp[hb]
      have hb93:b≠93:=by
        rintro rfl
        have:=ih x (D' ..) (level+1) hc1 (bD x) 0 (3*(bD x).length+1) [] (by simp) Z (ω _)
        rw[hb] at this
        simp only[dA] at this
        rw[eK (by show jS 93=false;decide)] at this
        simp[bb,e7,cc,gS,cF] at this
      rw[eK (by rw[hh];exact hbw),hh,if_neg hb93]
      have h3':l.drop (i+1)=dR (x::kids) true++93::r:=by rw[h3];simp
      rw[wu (x::kids) (fun z hz=>ih z hz) hcs (by simp) (i+1) k [] h3' (by omega)]
      simp only[List.nil_append,PE.ok.injEq,true_and]
      omega
  by_cases o6:op=6
  · subst o6
    rw[if_neg (by decide),if_neg (by decide),if_neg (by decide),if_neg (by decide),if_pos rfl] at hf
    simp only[ρ,Δ] at hf
    obtain⟨rfl,rfl,hz⟩:=hf
    have hp:bD (.mk 6 0 (B #[]) keys kids)=123::(cK keys kids true++[125]):=by simp[bD]
    rw[hp] at h hk ⊢
    simp only[Ξ,ν,List.length_nil] at hk ⊢
    have hl:=hlev (by decide)
    obtain⟨h1,h2,h3⟩:=dS (show l.drop i=123::(cK keys kids true++[125]++r) by rw[h];simp)
    rw[h2,if_neg (by decide),if_neg (by decide),if_neg (by decide),if_neg (by decide),if_pos (.inr rfl),if_neg (by omega),if_neg (by decide)]
    obtain⟨k,rfl⟩:∃ k',k=k'+1:=⟨k - 1,by omega⟩
    unfold ib
    dsimp only
    cases kids with
    | nil=>
      have hkz:=List.length_eq_zero_iff.1 hz
      subst hkz
      obtain⟨h4,h5,h6⟩:=dS (show l.drop (i+1)=125::r by rw[h3];simp[cK])
      rw[eK (by rw[h5];decide),h5,if_pos rfl]
      simp[cK]
    | cons x kids=>
      cases keys with
      | nil=>simp at hz
      | cons t keys=>
        have hh:bb l (i+1)=34:=by rw[jD,h3,fL];simp[eg]
        rw[eK (by rw[hh];decide),hh,if_neg (by decide)]
        have h3':l.drop (i+1)=cK (t::keys) (x::kids) true++125::r:=by rw[h3];simp
        rw[su (t::keys) (x::kids) hz hkeys (fun z hz=>ih z hz) hcs (by simp) (i+1) k [] [] hrep h3' (by omega)]
        simp only[List.nil_append,PE.ok.injEq,true_and]
        omega
  · rw[if_neg o1,if_neg (show ¬ (op=2∨op=3) by rintro(z | z);exact o2 z;exact o3 z),if_neg o4,if_neg o5,if_neg o6] at hf
    cases hf
section
/-! positions -/
variable {l x:List UInt8}{i k u:Nat}{level id a:Int}{α β:Type}{ids:List Int}
variable {j:JV}
def Bd{α:Type}(l:List UInt8)(i:Nat):PE α->Prop
 |.ok _ j=>i<j∧j<=l.length
 |.no a _=>i<=a∧a<=l.length
theorem jP{c}(h:i<=l.length):Bd l i (cn l c i):=by
 unfold cn;split;·rename_i q;exact⟨Nat.lt_succ_self _,q.1⟩
 ·exact⟨ω _,h⟩
theorem kv{l:List UInt8}:∀{x:List UInt8}{i:Nat},i<=l.length->(match bX l x i with|.ok _ j=>j=i+x.length∧j<=l.length|.no a _=>i<=a∧a<=l.length)
 |[],i,h=>⟨rfl,h⟩
 |c::x,i,h=>by
   simp only[bX];have h1:=jP (c:=c) h
   cases I:cn l c i with
   |no a w=>rw[I]at h1;exact h1
   |ok u j=>
     have hj:j=i+1∧i<l.length:=by grind[cn]
     have J:=kv (l:=l) (x:=x) (i:=j) (by omega);grind
theorem zQ:∀{x:List UInt8}{i a:Nat}{w:Int},bX l x i=.no a w->w=10
 |[],i,a,w,h=>by cases h
 |c::x,i,a,w,h=>by
   simp only[bX]at h
   cases ht:cn l c i with
   |no a' w'=>grind[cn]
   |ok u j=>rw[ht]at h;exact zQ h
theorem b8(h:bb l i≠0):i<l.length:=by grind[Nat.lt_or_ge,lE]
theorem tF{n}(h:gC (bb l i)=some n):i<l.length:=b8 fun q=>by rw[q,show gC 0=none by decide]at h;cases h
theorem tI(h:i<=l.length):Bd l i (dL l i):=by
 unfold dL;split
 ·rename_i q
  exact⟨Nat.lt_succ_self _,b8 fun z=>by rw[z]at q;revert q;decide⟩
 ·split
  ·rename_i q;exact⟨Nat.lt_succ_self _,b8 (by rw[q];decide)⟩
  ·split
   ·rename_i q;exact⟨Nat.lt_succ_self _,b8 (by rw[q];decide)⟩
   ·have hw:=kv (l:=l) (x:=[117,48,48]) h
    revert hw
    cases bX l [117,48,48] i with
    |no a w=>exact fun hw=>hw
    |ok u j=>
      rintro⟨h1,h2⟩;have h1:j=i+3:=h1;dsimp only;split;·exact⟨by omega,h2⟩
      ·rename_i high I
       have:=tF I;split;·exact⟨by omega,h2⟩
       ·split
        ·exact⟨by omega,by omega⟩
        ·rename_i low hl
         have:=tF hl;split;·exact⟨by omega,by omega⟩
         ·exact⟨by omega,by omega⟩
theorem sR{l:List UInt8}:∀{k i:Nat}{acc:List UInt8},i<=l.length->Bd l i (dE l k i acc)
 |0,i,_,h=>⟨ω _,h⟩
 |k+1,i,acc,h=>by
   unfold dE;split;·exact⟨ω _,h⟩
   ·rename_i M
    have I:i<l.length:=b8 fun z=>M (by rw[z];left;decide);split;·exact⟨Nat.lt_succ_self _,I⟩
    ·split
     ·have he:=tI (l:=l) (i:=i+1) I
      revert he
      cases dL l (i+1)with
      |no a w=>rintro⟨h1,h2⟩;exact⟨by omega,h2⟩
      |ok c j=>
        rintro⟨h1,h2⟩;have J:=sR (l:=l) (k:=k) (i:=j) (acc:=acc++[c]) h2;dsimp only;revert J
        cases dE l k j (acc++[c])with
        |no a w=>rintro⟨h3,h4⟩;exact⟨by omega,h4⟩
        |ok t j2=>rintro⟨h3,h4⟩;exact⟨by omega,h4⟩
     ·have J:=sR (l:=l) (k:=k) (i:=i+1) (acc:=acc++[bb l i]) I
      revert J
      cases dE l k (i+1) (acc++[bb l i])with
      |no a w=>rintro⟨h3,h4⟩;exact⟨by omega,h4⟩
      |ok t j2=>rintro⟨h3,h4⟩;exact⟨by omega,h4⟩
theorem Bd.mono{I}(h:I<=i):∀{x:PE α},Bd l i x->Bd l I x
 |.ok _ _,⟨h1,h2⟩=>⟨Nat.lt_of_le_of_lt h h1,h2⟩
 |.no _ _,⟨h1,h2⟩=>⟨B' h h1,h2⟩
theorem iC(h:i<=l.length):Bd l i (cL l i):=by
 unfold cL;have h1:=jP (c:=34) h;revert h1
 cases cn l 34 i with
 |no a w=>exact fun h1=>h1
 |ok u j=>rintro⟨h1,h2⟩;exact(sR h2).mono (Nat.le_of_lt h1)
theorem wO{l:List UInt8}:∀{k i:Nat},i<=l.length->i<=gS l k i∧gS l k i<=l.length
 |0,i,h=>⟨ω _,h⟩
 |k+1,i,h=>by
   simp only[gS];split
   ·rename_i q
    have:=wO (l:=l) (k:=k) (i:=i+1) q.1;grind
   ·grind
theorem lu(h:i<=l.length):i<=cc l i∧cc l i<=l.length:=by
 unfold cc;split
 ·rename_i q
  exact⟨Nat.le_succ _,b8 (by rw[q];decide)⟩
 ·exact wO h
theorem KO{c:Prop}[Decidable c]{a b:PE α}(I:Bd l i a)(hb:Bd l i b):Bd l i (if c then a else b):=by split<;>assumption
theorem Jf(h:i<=l.length):Bd l i (e7 l i):=by
 unfold e7;dsimp only;have h1:i<=(if bb l i=45 then i+1 else i)∧(if bb l i=45 then i+1 else i)<=l.length:=by
  split;·rename_i q;exact⟨Nat.le_succ _,b8 (by rw[q];decide)⟩
  ·grind
 generalize(if bb l i=45 then i+1 else i)=i1 at h1⊢;have h2:=lu (l:=l) h1.2;by_cases q:cc l i1=i1;·rw[if_pos q];exact h1
 ·rw[if_neg q]
  exact KO ⟨by omega,h2.2⟩ ⟨ω _,h⟩
structure Lr(l:List UInt8)(k:Nat):Prop where
 v:∀level i,i<=l.length->Bd l i (dA l k level i)
 a:∀level i,i<=l.length->Bd l i (ie l k level i)
 ag:∀level i acc,i<=l.length->Bd l i (fI l k level i acc)
 o:∀level i,i<=l.length->Bd l i (ib l k level i)
 og:∀level i keys acc,i<=l.length->Bd l i (fJ l k level i keys acc)
theorem vm{v:JV}(I:x≠[])(h:i<=l.length):Bd l i (match bX l x i with|.no a w=>.no a w|.ok _ j=>.ok v j):=by
 have hw:=kv (l:=l) (x:=x) h;have:=List.length_pos_iff.2 I;revert hw
 cases bX l x i with
 |no a w=>exact fun hw=>hw
 |ok u j=>rintro⟨h1,h2⟩;exact⟨by omega,h2⟩
theorem mQ(l):∀k,Lr l k
 |0=>⟨fun _ _ h=>by unfold dA;exact⟨ω _,h⟩,fun _ _ h=>by unfold ie;exact⟨ω _,h⟩,fun _ _ _ h=>by unfold fI;exact⟨ω _,h⟩,fun _ _ h=>by unfold ib;exact⟨ω _,h⟩,fun _ _ _ _ h=>by unfold fJ;exact⟨ω _,h⟩⟩
 |k+1=>by
   have J:=mQ l k;refine⟨fun level i0 h=>?_,fun level i0 h=>?_,fun level i acc h=>?_,fun level i0 h=>?_,fun level i0 keys acc h=>?_⟩
   ·have M:=cE l i0
    have hle:=cA h;unfold dA;dsimp only;refine Bd.mono M ?_;generalize bg l i0=i at hle⊢;split;·exact vm (by decide) hle
    ·split
     ·exact vm (by decide) hle
     ·split
      ·exact vm (by decide) hle
      ·split
       ·have I:=iC (l:=l) hle
        revert I
        cases cL l i with
        |no a w=>exact fun I=>I
        |ok t j=>exact fun I=>I
       ·split
        ·rename_i q
         have O:i<l.length:=b8 fun z=>by rw[z]at q;revert q;decide
         split;·exact⟨ω _,hle⟩
         ·split
          ·exact(J.a _ _ O).mono (Nat.le_succ _)
          ·exact(J.o _ _ O).mono (Nat.le_succ _)
        ·exact Jf hle
   ·have M:=cE l i0
    have hle:=cA h;unfold ie;dsimp only;refine Bd.mono M ?_;generalize bg l i0=i at hle⊢;split;·rename_i q;exact⟨Nat.lt_succ_self _,b8 (by rw[q];decide)⟩
    ·exact J.ag _ _ _ hle
   ·unfold fI
    have N:=J.v (level+1) i h;revert N
    cases dA l k (level+1) i with
    |no a w=>exact fun N=>N
    |ok v j=>
      rintro⟨h1,h2⟩;dsimp only;have M:=cE l j;have hle:=cA h2;split
      ·rename_i q
       exact(J.ag _ _ _ (b8 (by rw[q];decide))).mono (by omega)
      ·have I:=jP (c:=93) hle
       revert I
       cases cn l 93 (bg l j)with
       |no a w=>exact fun I=>Bd.mono (x:=(PE.no a w:PE JV)) (by omega) I
       |ok u j2=>exact fun I=>Bd.mono (x:=(PE.ok (JV.mk 5 0 (B #[]) [] (acc++[v])) j2)) (by omega) I
   ·have M:=cE l i0
    have hle:=cA h;unfold ib;dsimp only;refine Bd.mono M ?_;generalize bg l i0=i at hle⊢;split;·rename_i q;exact⟨Nat.lt_succ_self _,b8 (by rw[q];decide)⟩
    ·exact J.og _ _ _ _ hle
   ·have M:=cE l i0
    have hle:=cA h;unfold fJ;dsimp only;refine Bd.mono M ?_;generalize bg l i0=i at hle⊢;have I:=iC (l:=l) hle;revert I
    cases cL l i with
    |no a w=>exact fun I=>I
    |ok t j=>
      rintro⟨h1,h2⟩;dsimp only;split;·exact⟨ω _,hle⟩
      ·have aj:=cE l j
       have U:=cA h2;have ad:=jP (c:=58) U;revert ad
       cases cn l 58 (bg l j)with
       |no a w=>exact fun I=>Bd.mono (x:=(PE.no a w:PE JV)) (by omega) I
       |ok u j1=>
         rintro⟨h3,h4⟩;dsimp only;have N:=J.v (level+1) j1 h4;revert N
         cases dA l k (level+1) j1 with
         |no a w=>exact fun I=>Bd.mono (x:=(PE.no a w:PE JV)) (by omega) I
         |ok v j2=>
           rintro⟨h5,h6⟩;dsimp only;have ar:=cE l j2;have X:=cA h6;split
           ·rename_i q
            exact(J.og _ _ _ _ (b8 (by rw[q];decide))).mono (by omega)
           ·have ai:=jP (c:=125) X
            revert ai
            cases cn l 125 (bg l j2)with
            |no a w=>exact fun I=>Bd.mono (x:=(PE.no a w:PE JV)) (by omega) I
            |ok u j3=>exact fun I=>Bd.mono (x:=(PE.ok (JV.mk 6 0 (B #[]) (keys++[bytesOf t]) (acc++[v])) j3)) (by omega) I
/-! fuel -/
structure Fu(l:List UInt8)(k:Nat):Prop where
 v:∀level i,i<=l.length->3*(l.length-i)+1<=k->dA l (k+1) level i=dA l k level i
 a:∀level i,i<=l.length->3*(l.length-i)+3<=k->ie l (k+1) level i=ie l k level i
 ag:∀level i acc,i<=l.length->3*(l.length-i)+2<=k->fI l (k+1) level i acc=fI l k level i acc
 o:∀level i,i<=l.length->3*(l.length-i)+3<=k->ib l (k+1) level i=ib l k level i
 og:∀level i keys acc,i<=l.length->3*(l.length-i)+2<=k->fJ l (k+1) level i keys acc=fJ l k level i keys acc
theorem fuel(l):∀k,Fu l k
 |0=>⟨fun _ _ _ h=>by omega,fun _ _ _ h=>by omega,fun _ _ _ _ h=>by omega,fun _ _ _ h=>by omega,fun _ _ _ _ _ h=>by omega⟩
 |k+1=>by
   have J:=fuel l k;have bd:=mQ l k;refine⟨fun level i0 h N=>?_,fun level i0 h N=>?_,fun level i acc h N=>?_,fun level i0 h N=>?_,fun level i0 keys acc h N=>?_⟩
   ·have M:=cE l i0
    have hle:=cA h;rw[dA,dA];try dsimp only
    generalize bg l i0=i at M hle⊢;by_cases q:bb l i=91∨bb l i=123
    ·have I:i<l.length:=b8 fun z=>by rw[z]at q;revert q;decide
     rw[J.a level (i+1) I (by omega),J.o level (i+1) I (by omega)]
    ·grind
   ·have M:=cE l i0
    have hle:=cA h;rw[ie,ie];try dsimp only
    rw[J.ag level _ [] hle (by omega)]
   ·rw[fI,fI,J.v (level+1) i h (by omega)]
    have O:=bd.v (level+1) i h;revert O
    cases dA l k (level+1) i with
    |no a w=>exact fun _=>rfl
    |ok v j=>
      rintro⟨h1,h2⟩;try dsimp only
      have M:=cE l j;by_cases q:bb l (bg l j)=44
      ·have I:bg l j<l.length:=b8 (by rw[q];decide)
       rw[if_pos q,if_pos q,J.ag level _ _ I (by omega)]
      ·grind
   ·have M:=cE l i0
    have hle:=cA h;rw[ib,ib];try dsimp only
    rw[J.og level _ [] [] hle (by omega)]
   ·have M:=cE l i0
    have hle:=cA h;rw[fJ,fJ];try dsimp only
    generalize bg l i0=i at M hle⊢;have X:=iC (l:=l) hle;revert X
    cases cL l i with
    |no a w=>exact fun _=>rfl
    |ok t j=>
      rintro⟨h1,h2⟩;try dsimp only
      have ad:=cE l j;have U:=jP (c:=58) (cA h2);revert U
      cases cn l 58 (bg l j)with
      |no a w=>exact fun _=>rfl
      |ok u j1=>
        rintro⟨h3,h4⟩;try dsimp only
        rw[J.v (level+1) j1 h4 (by omega)];have O:=bd.v (level+1) j1 h4;revert O
        cases dA l k (level+1) j1 with
        |no a w=>exact fun _=>rfl
        |ok v j2=>
          rintro⟨h5,h6⟩;try dsimp only
          have ai:=cE l j2;by_cases q:bb l (bg l j2)=44
          ·have I:bg l j2<l.length:=b8 (by rw[q];decide)
           rw[if_pos q,if_pos q,J.og level _ _ _ I (by omega)]
          ·grind
theorem xK(h:i<=l.length)(I:3*(l.length-i)+1<=k):∀d,dA l (k+d) level i=dA l k level i
 |0=>rfl
 |d+1=>by rw[<-Nat.add_assoc,(fuel l (k+d)).v level i h (by omega),xK h I d]
end
abbrev bv(b:Bool):D:=.v (.bool b)
def ja(l:List ByteArray):List (ByteArray×Bool):=l.map fun s=>(s,true)
theorem l5(l):(ja l).map (·.1)=l:=by unfold ja;rw[List.map_map];exact List.map_id' l
theorem xu{l:List ByteArray}(J:l.Nodup)(s:ByteArray):(cC (ja l) s).getD false=l.any (fun x=>decide (x=s)):=by
 cases h:l.any (fun x=>decide (x=s))with
 |true=>obtain⟨x,I,he⟩:=List.any_eq_true.1 h;have he:x=s:=of_decide_eq_true he;subst he;obtain⟨j,hj⟩:=List.mem_iff_getElem?.1 I;grind[BL,ja,l5]
 |false=>grind[ja,List.any_eq_false,qZ]
theorem yc{l:List ByteArray}{s:ByteArray}(h:l.any (fun x=>decide (x=s))=false):dN (ja l) s true=ja (l++[s]):=by grind[lB,List.any_eq_false,ja]
theorem vv{l:List ByteArray}{s}(I:l.Nodup)(h:l.any (fun x=>decide (x=s))=false):(l++[s]).Nodup:=by grind
structure Fm where
 ph:ByteArray
 kind:Int
 name:Bool
 n:ByteArray
 m:ByteArray
 st:Bool
@[reducible] def Fm.c (f:Fm):List D:=[cs f.ph,ci f.kind,.v (.bool f.name),cs f.n,cs f.m,.v (.bool f.st)]
def e8:ByteArray:=B #[112,104]
def de:ByteArray:=B #[116,105,100]
def cb:ByteArray:=B #[110,97,109,101]
def eA:ByteArray:=B #[116,115]
def cg:ByteArray:=B #[115,116,97,99,107]
def dy:ByteArray:=B #[119,101,105,103,104,116]
def gV:ByteArray:=B #[105,100]
def ee:ByteArray:=B #[115,105,122,101]
def gQ:ByteArray:=B #[118,97,108,117,101]
def kD:ByteArray:=B #[99,112,117]
def ec:ByteArray:=B #[115,116,97,116,101]
def kr:ByteArray:=B #[111,110]
def gU:ByteArray:=B #[119,97,107,101,115]
def cw:ByteArray:=B #[]
def pP:ByteArray:=B #[80]
def pN:ByteArray:=B #[78]
def pS:ByteArray:=B #[83]
def pM:ByteArray:=B #[77]
def hZ:List Fm:=[⟨B #[66],1,true,cw,cw,false⟩,⟨B #[69],2,false,cw,cw,false⟩,⟨B #[105],3,true,cw,cw,false⟩,⟨B #[67],4,true,gQ,cw,false⟩,
 ⟨pP,5,false,dy,cw,true⟩,⟨B #[115],6,false,gV,cw,false⟩,⟨B #[102],7,false,gV,cw,false⟩,⟨B #[82],8,false,kD,cw,false⟩,
 ⟨pS,9,false,ec,kr,false⟩,⟨B #[87],10,false,gU,cw,false⟩,⟨pN,11,false,gV,ee,true⟩,⟨B #[68],12,false,gV,cw,false⟩]
def fz(f:Fm)(on:Bool):List ByteArray:=
 if f.ph=pP then e8::de::(if f.name then[cb]else[])++[eA,cg,dy]
 else if f.ph=pN then e8::de::(if f.name then[cb]else[])++[eA,gV,ee,cg]
 else e8::de::(if f.name then[cb]else[])++[eA]++(if f.n≠cw then[f.n]else[])++(if f.m≠cw∧on=true then[f.m]else[])
def lZ(j:JV)(key:ByteArray)(op:Int):Option JV:=match cM j key with
 |some v=>if v.op=op then some v else none
 |none=>none
def cm(j:JV)(key:ByteArray)(op:Int):JV:=(lZ j key op).getD cR
def dD(j:JV)(key:ByteArray)(op:Int):Bool:=(lZ j key op).isNone
def iB(j:JV)(l:List ByteArray):Bool:=decide (j.keys.length=l.length)&&!l.any fun k=>!j.keys.any fun x=>decide (k=x)
def r8(j:JV):List ByteArray:=(cm j cg 5).kids.map JV.s
def cQ(j:JV)(bad:Bool):Bool:=(((bad||dD j de 3)||decide ((cm j de 3).n<0))||dD j e8 4)
def ep(l:List JV):Bool:=l.any fun k=>!decide (k.op=4)
theorem F2{key op}(h:(bif !(cM j key).isSome then true else !decide (((cM j key).getD cR).op=op))=true):dD j key op=true∧cm j key op=cR:=by grind[lZ,cM,dD,cm]
theorem IQ{key op}(h:(bif !(cM j key).isSome then true else !decide (((cM j key).getD cR).op=op))=false):dD j key op=false∧cm j key op=(cM j key).getD cR:=by grind[cM,lZ,dD,cm]
structure y8(l m:List UInt8)(n:Nat):Prop where
 ll:n<=l.length
 lm:n<=m.length
 tk:m.take n=l.take n
def Gd(m:List UInt8)(n p:Nat):Prop:=p<n∨(p=n∧m.length=n)
section
variable{m:List UInt8}{n:Nat}
theorem aT(H:y8 l m n){p:Nat}(h:p<n):bb m p=bb l p:=by
 have e:(m.take n)[p]?=(l.take n)[p]?:=by rw[H.tk]
 grind[bb]
theorem Gd.down{p q}(h:Gd m n p)(J:q<=p):Gd m n q:=by
 rcases h with h|⟨h,I⟩
 ·exact .inl (by omega)
 ·rcases V' q n with h1|h1
  ·exact .inl h1
  ·exact .inr ⟨by omega,I⟩
theorem Gd.le{p}(h:Gd m n p):p<=n:=by rcases h with h|⟨h,_⟩<;>omega
theorem y8.stop{f:UInt8->Bool}(J:f 0=false)(H:y8 l m n){p:Nat}(I:Gd m n p)(h:f (bb l p)=false):f (bb m p)=false:=by
 rcases I with I|⟨rfl,I⟩
 ·grind[aT]
 ·grind[lE]
/-! white space -/
/-! results -/
def Loc{α:Type}(m:List UInt8)(n:Nat)(r I:PE α):Prop:=match r with
 |.ok x j=>Gd m n j->I=.ok x j
 |.no a w=>((w=10∧Gd m n a)∨(w=20∧a<n))->I=.no a w
def EB{α:Type}(j:Nat):PE α->Prop
 |.ok _ p=>j<=p
 |.no a _=>j<=a
theorem EB.mono{j}{r:PE α}(h:EB i r)(hj:j<=i):EB j r:=by
 cases r with
 |ok x p=>exact B' hj h
 |no a w=>exact B' hj h
theorem Loc.Mh{j}{r J:PE α}(hb:EB j r)(h:Gd m n j->Loc m n r J):Loc m n r J:=by
 cases r with
 |ok x p=>exact fun I=>h (I.down hb) I
 |no a w=>
   intro M;refine h ?_ M;rcases M with⟨_,I⟩|⟨_,I⟩
   ·exact I.down hb
   ·exact .inl (Nat.lt_of_le_of_lt hb I)
theorem mB{c j}{u:Unit}(h:cn l c i=.ok u j):j=i+1∧i<l.length:=by grind[cn]
theorem Gz(h:i<=l.length):EB i (bX l x i):=by
 have hw:=kv (l:=l) (x:=x) h
 cases I:bX l x i with
 |ok u j=>rw[I]at hw;exact(by have:=hw.1;show i<=j;omega)
 |no a w=>rw[I]at hw;exact hw.1
/-! escapes -/
def sa(l:List UInt8)(high:Nat)(j:Nat):PE UInt8:=match gC (bb l j)with
 |none=>.no j 10
 |some low=>if known (UInt8.ofNat (16*high+low))=false then .no j 10 else .ok (UInt8.ofNat (16*high+low)) (j+1)
def pW(l:List UInt8)(j:Nat):PE UInt8:=match gC (bb l j)with
 |none=>.no j 10
 |some high=>if high=1∨7<high then .no j 10 else sa l high (j+1)
def Ak(l:List UInt8)(i:Nat):PE UInt8:=match bX l [117,48,48] i with
 |.no a w=>.no a w
 |.ok _ j=>pW l j
theorem sS(l i):dL l i=if bb l i=34∨bb l i=92∨bb l i=47 then .ok (bb l i) (i+1)else if bb l i=110 then .ok 10 (i+1)else if bb l i=116 then .ok 9 (i+1)else Ak l i:=rfl
/-! texts -/
/-! numbers -/
theorem zK(l):∀(k i p:Nat),i<=p->p<gS l k i->cF (bb l p)=true
 |0,i,p,h,I=>by unfold gS at I;omega
 |k+1,i,p,h,I=>by
   unfold gS at I;split at I
   ·rename_i q
    rcases Nat.eq_or_lt_of_le h with e|e
    ·grind
    ·exact zK l k (i+1) p e I
   ·omega
theorem x7(l:List UInt8):∀(k i j:Nat),i<=j->(∀p,i<=p->p<j->cF (bb l p)=true)->cF (bb l j)=false->l.length-i<=k->gS l k i=j
 |0,i,j,h,hw,hj,J=>by
   unfold gS;rcases Nat.eq_or_lt_of_le h with e|e
   ·grind
   ·have:=hw i (ω _) e
    grind[lE]
 |k+1,i,j,h,hw,hj,J=>by
   unfold gS;rcases Nat.eq_or_lt_of_le h with e|e
   ·grind
   ·have hi:=hw i (ω _) e
    have I:i<l.length:=b8 fun z=>by rw[z]at hi;exact absurd hi (by decide)
    rw[if_pos ⟨I,hi⟩];exact x7 l k (i+1) j e (fun p h1 h2=>hw p (by omega) h2) hj (by omega)
theorem y8.cut(H:y8 l m n){j}(hj:j<=n):(m.drop i).take (j-i)=(l.drop i).take (j-i):=by
 rcases V' i j with h|h
 ·rw[List.take_drop,List.take_drop,show i+(j-i)=j by omega]
  have e:∀a:List UInt8,a.take j=(a.take n).take j:=fun a=>by rw[List.take_take,Nat.min_eq_left hj]
  rw[e m,e l,H.tk]
 ·rw[show j-i=0 by omega];simp
end
theorem w7(l k level i0):dA l (k+1) level i0=
 if bb l (bg l i0)=110 then(match bX l kN (bg l i0)with|.no a w=>.no a w|.ok _ j=>.ok (.mk 1 0 (B #[]) [] []) j)
 else if bb l (bg l i0)=116 then(match bX l jn (bg l i0)with|.no a w=>.no a w|.ok _ j=>.ok (.mk 2 1 (B #[]) [] []) j)
 else if bb l (bg l i0)=102 then(match bX l il (bg l i0)with|.no a w=>.no a w|.ok _ j=>.ok (.mk 2 0 (B #[]) [] []) j)
 else if bb l (bg l i0)=34 then(match cL l (bg l i0)with|.no a w=>.no a w|.ok t j=>.ok (.mk 4 0 (bytesOf t) [] []) j)
 else if bb l (bg l i0)=91∨bb l (bg l i0)=123 then
  if 16<level then .no (bg l i0) 20
  else if bb l (bg l i0)=91 then ie l k level (bg l i0+1)else ib l k level (bg l i0+1)
 else e7 l (bg l i0):=by rw[dA]<;>rfl
theorem tW(l k level i0):ie l (k+1) level i0=
 if bb l (bg l i0)=93 then .ok (.mk 5 0 (B #[]) [] []) (bg l i0+1)else fI l k level (bg l i0) []:=by rw[ie]
theorem rm(l k level i acc):fI l (k+1) level i acc=
 match dA l k (level+1) i with
 |.no a w=>.no a w
 |.ok v j=>
   if bb l (bg l j)=44 then fI l k level (bg l j+1) (acc++[v])
   else match cn l 93 (bg l j)with|.no a w=>.no a w|.ok _ j2=>.ok (.mk 5 0 (B #[]) [] (acc++[v])) j2:=by rw[fI]<;>rfl
theorem tR(l k level i0):ib l (k+1) level i0=
 if bb l (bg l i0)=125 then .ok (.mk 6 0 (B #[]) [] []) (bg l i0+1)else fJ l k level (bg l i0) [] []:=by rw[ib]
theorem rl(l k level i0)(keys:List ByteArray)(acc):fJ l (k+1) level i0 keys acc=
 match cL l (bg l i0)with
 |.no a w=>.no a w
 |.ok t j=>
   if keys.any (fun x=>decide (x=bytesOf t))then .no (bg l i0) 4 else
   match cn l 58 (bg l j)with
   |.no a w=>.no a w
   |.ok _ j1=>match dA l k (level+1) j1 with
     |.no a w=>.no a w
     |.ok v j2=>
       if bb l (bg l j2)=44 then fJ l k level (bg l j2+1) (keys++[bytesOf t]) (acc++[v])
       else match cn l 125 (bg l j2)with|.no a w=>.no a w|.ok _ j4=>.ok (.mk 6 0 (B #[]) (keys++[bytesOf t]) (acc++[v])) j4:=by rw[fJ]<;>rfl
section
variable{m:List UInt8}{n:Nat}
structure Lo(l m:List UInt8)(n k:Nat):Prop where
 v:∀level i,i<=l.length->Loc m n (dA l k level i) (dA m k level i)
 a:∀level i,i<=l.length->Loc m n (ie l k level i) (ie m k level i)
 ag:∀level i acc,i<=l.length->Loc m n (fI l k level i acc) (fI m k level i acc)
 o:∀level i,i<=l.length->Loc m n (ib l k level i) (ib m k level i)
 og:∀level i keys acc,i<=l.length->Loc m n (fJ l k level i keys acc) (fJ m k level i keys acc)
end
/-! the nesting's fault stands at a byte -/
structure Dp(l:List UInt8)(k:Nat):Prop where
 v:∀level i a,dA l k level i=.no a 20->a<l.length
 a:∀level i a,ie l k level i=.no a 20->a<l.length
 ag:∀level i acc a,fI l k level i acc=.no a 20->a<l.length
 o:∀level i a,ib l k level i=.no a 20->a<l.length
 og:∀level i keys acc a,fJ l k level i keys acc=.no a 20->a<l.length
def Ly{α:Type}:PE α->Prop
 |.ok _ _=>True
 |.no _ w=>w≠20
theorem Ly.not{r:PE α}{a}(h:Ly r)(e:r=.no a 20):False:=by subst e;exact h rfl
/-! the whole text -/
theorem zy(I:3*l.length+1<=k):eb l=match dA l k 1 0 with
 |.no a w=>.no a w
 |.ok j i=>if bg l i<l.length then .no (bg l i) 10 else .ok j 0:=by
 unfold eb;obtain⟨d,rfl⟩:∃d,k=3*l.length+1+d:=⟨k-(3*l.length+1),by omega⟩
 rw[xK (ς _) (by omega) d]<;>
  grind
theorem F0{a w}(h:eb l=.no a w):a<=l.length:=by
 rw[zy (ω _)]at h;have hb:=(mQ l (3*l.length+1)).v 1 0 (ς _)
 cases I:dA l (3*l.length+1) 1 0 with
 |no a' w'=>rw[I]at h hb;injection h with h1 _;subst h1;exact hb.2
 |ok v j=>grind
section
theorem Dl{c:UInt8}(h:¬(c.toNat<32∨126<c.toNat)):known c=true:=by grind[known]
theorem CJ{j c}(h:dL l i=.ok c j):known c=true:=by
 rw[sS]at h;split at h
 ·rename_i q
  injection h with h1 _;subst h1;rcases q with q|q|q<;>rw[q]<;>decide
 ·split at h
  ·injection h with h1 _;subst h1;decide
  ·split at h
   ·injection h with h1 _;subst h1;decide
   ·unfold Ak at h
    grind[bX,pW,sa]
theorem GX(c):(ea c).length<=2:=by grind[ea]
theorem rP:∀(k i:Nat)(acc t:List UInt8)(j:Nat),(∀b∈acc,known b=true)->dE l k i acc=.ok t j->(∀b∈t,known b=true)∧(t.flatMap ea).length+i+1<=(acc.flatMap ea).length+j
 |0,i,acc,t,j,_,h=>by unfold dE at h;cases h
 |k+1,i,acc,t,j,hk,h=>by
   unfold dE at h;split at h;·grind
   ·rename_i q1
    split at h;·grind
    ·rename_i q2
     split at h
     ·rename_i q3
      have I:i<l.length:=b8 (by rw[q3];decide)
      cases he:dL l (i+1)with
      |no a w=>rw[he]at h;cases h
      |ok c p=>
        rw[he]at h;have hb:=tI (l:=l) (i:=i+1) I;rw[he]at hb;obtain⟨h1,h2⟩:=rP k p _ t j (fun b hb=>by
         rcases F'.1 hb with hb|hb
         ·exact hk b hb
         ·obtain rfl:b=c:=by simpa using hb
          exact CJ he) h
        refine⟨h1,?_⟩;rw[List.flatMap_append,ν]at h2;have h3:([c].flatMap ea).length<=2:=by simpa using GX c
        have:=hb.1;omega
     ·rename_i q3
      obtain⟨h1,h2⟩:=rP k (i+1) _ t j (fun b hb=>by
       rcases F'.1 hb with hb|hb
       ·exact hk b hb
       ·obtain rfl:b=bb l i:=by simpa using hb
        exact Dl q1) h
      refine⟨h1,?_⟩;rw[List.flatMap_append,ν]at h2;have h3:([bb l i].flatMap ea).length=1:=by have J:¬(bb l i=34∨bb l i=92):=fun e=>e.elim q2 q3;have M:¬bb l i=10:=fun e=>q1 (.inl (by rw[e];decide));have N:¬bb l i=9:=fun e=>q1 (.inl (by rw[e];decide));grind[ea]
      omega
theorem zq{j t}(h:cL l i=.ok t j):(∀b∈t,known b=true)∧(eg t).length+i<=j:=by
 unfold cL at h
 cases I:cn l 34 i with
 |no a w=>rw[I]at h;cases h
 |ok u p=>rw[I]at h;obtain⟨h1,h2⟩:=rP _ p [] t j (fun b hb=>by cases hb) h;obtain⟨e,_⟩:=mB I;grind[eg,ea]
theorem I3{j}{v:JV}(hi:i<=l.length)(h:e7 l i=.ok v j):∃n,v=.mk 3 n (B #[]) [] []∧fu n=true∧(aX (dh n)).length+i<=j:=by
 unfold e7 at h;dsimp only at h;have h1:i<=(if bb l i=45 then i+1 else i)∧(if bb l i=45 then i+1 else i)<=l.length:=by
  split;·rename_i q;exact⟨Nat.le_succ _,b8 (by rw[q];decide)⟩
  ·grind
 generalize(if bb l i=45 then i+1 else i)=i1 at h1 h;have h2:=lu (l:=l) h1.2;by_cases q:cc l i1=i1;·grind
 ·rw[if_neg q]at h
  generalize hu:(if(⟨((l.drop i).take (cc l i1-i)).toArray⟩:ByteArray)=B #[45,48]then B #[48]else⟨((l.drop i).take (cc l i1-i)).toArray⟩)=u at h;have I:u.size<=cc l i1-i:=by
   subst hu;have e:(⟨((l.drop i).take (cc l i1-i)).toArray⟩:ByteArray).size<=cc l i1-i:=by show(((l.drop i).take (cc l i1-i)).toArray).size<=_;grind
   split
   ·rename_i q
    rw[q]at e;exact B' (by decide) e
   ·grind
  grind[xz,fY,bh]
theorem jJ{op n s keys kids}(h1:dc (.mk op n s keys kids)=true)(h2:¬((op=2∧n≠0∧n≠1)∨(op=3∧fu n=false)))(h3:dT s=true)(h4:∀x∈keys,dT x=true)(h5:fP [] keys=false)(I:¬(5<=op∧16<level)):dO (.mk op n s keys kids) level=0:=by
 have e:(keys.any fun s=>!dT s)=false:=by grind
 unfold dO;rw[if_neg (by rw[h1];decide),if_neg (by simpa only[JV.op,JV.n]using h2),if_neg (by simp only[JV.s,JV.keys];rw[h3,e];decide),if_neg (by simp only[JV.keys];rw[h5];decide),if_neg (by simpa only[JV.op]using I)]
theorem jd{op n s keys kids}(h:dO (.mk op n s keys kids) level=0)(I:dz kids (level+1)=0):ck (.mk op n s keys kids) level=0:=by grind[ck]
theorem nS{x:JV}{r}(h:ck x level=0)(I:dz r level=0):dz (x::r) level=0:=by grind[dz]
theorem gI:dz [] level=0:=by unfold dz;rfl
theorem iy:dT (B #[])=true:=by decide
theorem nF{t}(h:∀b∈t,known b=true):dT (bytesOf t)=true:=by grind[dT,iw]
theorem so{x:JV}{r}:(dR (x::r) false).length=(dR (x::r) true).length+1:=by grind[gK]
theorem qK{s ks}{x:JV}{r}:(cK (s::ks) (x::r) false).length=(cK (s::ks) (x::r) true).length+1:=by grind[fL]
theorem xc{v w:JV}{j}(hi:i<=l.length)(h:(match bX l x i with|.no a w=>.no a w|.ok _ j=>.ok v j:PE JV)=.ok w j):w=v∧j=i+x.length:=by grind[kv]
structure Vd(l:List UInt8)(k:Nat):Prop where
 v:∀level i v j,i<=l.length->dA l k level i=.ok v j->ck v level=0∧(bD v).length+i<=j
 a:∀level i v j,i<=l.length->level<=16->ie l k level i=.ok v j->ck v level=0∧(bD v).length+i<=j+1
 ag:∀level i acc v j,i<=l.length->level<=16->fI l k level i acc=.ok v j->∃x r,v=.mk 5 0 (B #[]) [] (acc++x::r)∧dz (x::r) (level+1)=0∧(dR (x::r) true).length+1+i<=j
 o:∀level i v j,i<=l.length->level<=16->ib l k level i=.ok v j->ck v level=0∧(bD v).length+i<=j+1
 og:∀level i keys acc v j,i<=l.length->level<=16->fJ l k level i keys acc=.ok v j->∃s ks x r,v=.mk 6 0 (B #[]) (keys++s::ks) (acc++x::r)∧ks.length=r.length∧(∀s'∈s::ks,dT s'=true)∧fP keys (s::ks)=false∧dz (x::r) (level+1)=0∧(cK (s::ks) (x::r) true).length+1+i<=j
theorem EV:∀k,Vd l k
 |0=>by
   refine⟨fun _ _ _ _ _ h=>?_,fun _ _ _ _ _ _ h=>?_,fun _ _ _ _ _ _ _ h=>?_,fun _ _ _ _ _ _ h=>?_,fun _ _ _ _ _ _ _ _ h=>?_⟩;·unfold dA at h;cases h
   ·unfold ie at h;cases h
   ·unfold fI at h;cases h
   ·unfold ib at h;cases h
   ·unfold fJ at h;cases h
 |k+1=>by
   have J:=EV k;have bd:=mQ l k;refine⟨fun level i0 v j h0 h=>?_,fun level i0 v j h0 hl h=>?_,fun level i acc v j h0 hl h=>?_,fun level i0 v j h0 hl h=>?_,fun level i0 keys acc v j h0 hl h=>?_⟩
   ·have X:=cE l i0
    have hle:=cA h0;rw[w7]at h;split at h
    ·obtain⟨rfl,rfl⟩:=xc hle h
     exact⟨jd (jJ (by simp[dc,JV.op,JV.n,JV.s,JV.keys,JV.kids]) (by omega) iy (by simp) (by simp[fP]) (by omega)) gI,by simp[bD,kN];omega⟩
    ·split at h
     ·obtain⟨rfl,rfl⟩:=xc hle h
      exact⟨jd (jJ (by simp[dc,JV.op,JV.n,JV.s,JV.keys,JV.kids]) (by omega) iy (by simp) (by simp[fP]) (by omega)) gI,by simp[bD,jn];omega⟩
     ·split at h
      ·obtain⟨rfl,rfl⟩:=xc hle h
       exact⟨jd (jJ (by simp[dc,JV.op,JV.n,JV.s,JV.keys,JV.kids]) (by omega) iy (by simp) (by simp[fP]) (by omega)) gI,by simp[bD,il];omega⟩
      ·split at h
       ·cases I:cL l (bg l i0)with
        |no a w=>rw[I]at h;cases h
        |ok t p=>rw[I]at h;injection h with h1 h2;subst h1;subst h2;obtain⟨h3,h4⟩:=zq I;exact⟨jd (jJ (by simp[dc,JV.op,JV.n,JV.s,JV.keys,JV.kids]) (by omega) (nF h3) (by simp) (by simp[fP]) (by omega)) gI,by simp[bD,iw];omega⟩
       ·split at h
        ·rename_i q
         have ad:bg l i0<l.length:=b8 fun z=>by rw[z]at q;revert q;decide
         split at h;·grind
         ·split at h
          ·obtain⟨h1,h2⟩:=J.a _ _ _ _ ad (by omega) h
           grind
          ·obtain⟨h1,h2⟩:=J.o _ _ _ _ ad (by omega) h
           grind
        ·obtain⟨n,rfl,h1,h2⟩:=I3 hle h
         exact⟨jd (jJ (by simp[dc,JV.op,JV.n,JV.s,JV.keys,JV.kids]) (by simp[h1]) iy (by simp) (by simp[fP]) (by omega)) gI,by rw[show bD (.mk 3 n (B #[]) [] [])=aX (dh n) by simp[bD]];omega⟩
   ·have X:=cE l i0
    have hle:=cA h0;rw[tW]at h;split at h
    ·injection h with h1 h2
     subst h1;subst h2;exact⟨jd (jJ (by simp[dc,JV.op,JV.n,JV.s,JV.keys,JV.kids]) (by omega) iy (by simp) (by simp[fP]) (by omega)) gI,by simp[bD,dR];omega⟩
    ·obtain⟨x,r,rfl,h1,h2⟩:=J.ag _ _ _ _ _ hle hl h
     refine⟨jd (jJ (by simp[dc,JV.op,JV.n,JV.s,JV.keys,JV.kids]) (by omega) iy (by simp) (by simp[fP]) (by omega)) h1,?_⟩;simp[bD];omega
   ·rw[rm]at h
    have hb:=bd.v (level+1) i h0
    cases M:dA l k (level+1) i with
    |no a w=>rw[M]at h;cases h
    |ok v1 j1=>
      rw[M]at h hb;obtain⟨h1,h2⟩:=J.v _ _ _ _ h0 M;have X:=cE l j1;have hle:=cA hb.2;dsimp only at h;split at h
      ·rename_i q
       obtain⟨x,r,rfl,h3,h4⟩:=J.ag _ _ _ _ _ (b8 (by rw[q];decide)) hl h;refine⟨v1,x::r,by simp,nS h1 h3,?_⟩;have e:=so (x:=x) (r:=r);rw[gK];grind
      ·cases I:cn l 93 (bg l j1)with
       |no a w=>rw[I]at h;cases h
       |ok u j2=>rw[I]at h;injection h with h3 h4;subst h3;subst h4;obtain⟨e,_⟩:=mB I;refine⟨v1,[],rfl,nS h1 gI,?_⟩;rw[gK];simp only[if_true,List.nil_append,ν];simp[dR];omega
   ·have X:=cE l i0
    have hle:=cA h0;rw[tR]at h;split at h
    ·injection h with h1 h2
     subst h1;subst h2;exact⟨jd (jJ (by simp[dc,JV.op,JV.n,JV.s,JV.keys,JV.kids]) (by omega) iy (by simp) (by simp[fP]) (by omega)) gI,by simp[bD,cK];omega⟩
    ·obtain⟨s,ks,x,r,rfl,h1,h2,h3,h4,h5⟩:=J.og _ _ _ _ _ _ hle hl h
     refine⟨jd (jJ (by simp[dc,JV.op,JV.n,JV.s,JV.keys,JV.kids,h1]) (by omega) iy h2 h3 (by omega)) h4,?_⟩;simp[bD];omega
   ·rw[rl]at h
    have X:=cE l i0;have hle:=cA h0;have ai:=iC (l:=l) hle
    cases I:cL l (bg l i0)with
    |no a w=>rw[I]at h;cases h
    |ok t p=>
      rw[I]at h ai;obtain⟨aj,a6⟩:=zq I;dsimp only at h;split at h;·grind
      ·rename_i q4
       have q4:keys.any (fun x=>decide (x=bytesOf t))=false:=(Bool.not_eq_true _).mp q4;have a7:=cE l p;have ar:=cA ai.2
       cases O:cn l 58 (bg l p)with
       |no a w=>rw[O]at h;cases h
       |ok u j1=>
         rw[O]at h;obtain⟨e1,e2⟩:=mB O;dsimp only at h;have hb:=bd.v (level+1) j1 (by omega)
         cases M:dA l k (level+1) j1 with
         |no a w=>rw[M]at h;cases h
         |ok v1 j2=>
           rw[M]at h hb;obtain⟨h1,h2⟩:=J.v _ _ _ _ (by omega) M;have a8:=cE l j2;have a1:=cA hb.2;dsimp only at h;split at h
           ·rename_i q
            obtain⟨s,ks,x,r,rfl,h3,h4,h5,h6,h7⟩:=J.og _ _ _ _ _ _ (b8 (by rw[q];decide)) hl h;refine⟨bytesOf t,s::ks,v1,x::r,by simp,by simp[h3],?_,rX.2 ⟨q4,h5⟩,nS h1 h6,?_⟩
            ·intro s' N
             rcases C'.1 N with rfl|N
             ·exact nF aj
             ·grind
            ·have e:=qK (s:=s) (ks:=ks) (x:=x) (r:=r)
             rw[fL,iw];grind
           ·cases U:cn l 125 (bg l j2)with
            |no a w=>rw[U]at h;cases h
            |ok u j3=>
              rw[U]at h;injection h with h3 h4;subst h3;subst h4;obtain⟨e,_⟩:=mB U;refine⟨bytesOf t,[],v1,[],rfl,rfl,?_,rX.2 ⟨q4,by simp[fP]⟩,nS h1 gI,?_⟩
              ·intro s' N
               obtain rfl:s'=bytesOf t:=by simpa using N
               exact nF aj
              ·rw[fL,iw]
               simp only[if_true,List.nil_append,ν,Ξ,List.length_nil];simp[cK];omega
theorem qd{v:JV}(h:eb l=.ok v i):ck v 1=0∧(bD v).length<=l.length∧i=0:=by
 rw[zy (ω _)]at h;have hb:=(mQ l (3*l.length+1)).v 1 0 (ς _)
 cases I:dA l (3*l.length+1) 1 0 with
 |no a' w'=>rw[I]at h;cases h
 |ok J j=>
   rw[I]at h hb;dsimp only at h;split at h;·grind
   ·injection h with h1 h2
    subst h1;obtain⟨h3,h4⟩:=(EV _).v _ _ _ _ (ς _) I;exact⟨h3,by have:=hb.2;omega,h2.symm⟩
end
def EW{α:Type}:PE α->Prop
 |.ok _ _=>True
 |.no _ w=>w=2∨w=4∨w=10∨w=20
theorem nt{a}:EW (.no a 10:PE α):=.inr (.inr (.inl rfl))
theorem EW.of{a w}(h:EW (.no a w:PE α)):EW (.no a w:PE β):=h
section
theorem oq{c}:EW (cn l c i):=by
 unfold cn;split;·trivial
 ·exact nt
theorem ov:EW (bX l x i):=by
 cases h:bX l x i with
 |ok=>trivial
 |no a w=>rw[zQ h];exact nt
theorem EY:EW (dL l i):=by
 rw[sS];split;·trivial
 ·split
  ·trivial
  ·split
   ·trivial
   ·unfold Ak
    have:=ov (l:=l) (x:=[117,48,48]) (i:=i)
    cases h:bX l [117,48,48] i with
    |no a w=>rw[h]at this;exact this
    |ok u j=>
      dsimp only;unfold pW;split;·exact nt
      ·split
       ·exact nt
       ·unfold sa
        split;·exact nt
        ·split
         ·exact nt
         ·trivial
theorem uO:∀{k i:Nat}{acc:List UInt8},EW (dE l k i acc)
 |0,_,_=>nt
 |k+1,i,acc=>by
   unfold dE;split;·exact nt
   ·split
    ·trivial
    ·split
     ·have:=EY (l:=l) (i:=i+1)
      cases h:dL l (i+1)with
      |no a w=>rw[h]at this;exact this
      |ok c j=>exact uO
     ·exact uO
theorem sV:EW (cL l i):=by
 unfold cL;have:=oq (l:=l) (c:=34) (i:=i)
 cases h:cn l 34 i with
 |no a w=>rw[h]at this;exact this
 |ok u j=>exact uO
theorem E7:EW (e7 l i):=by
 unfold e7;dsimp only;generalize(if bb l i=45 then i+1 else i)=i1;by_cases q:cc l i1=i1;·grind[nt]
 ·rw[if_neg q]
  by_cases c:(fY (if(⟨((l.drop i).take (cc l i1-i)).toArray⟩:ByteArray)=B #[45,48]then B #[48]else⟨((l.drop i).take (cc l i1-i)).toArray⟩)).2=true;·rw[if_pos c];trivial
  ·rw[if_neg c];exact .inl rfl
theorem yU{v:JV}:EW (match bX l x i with|.no a w=>.no a w|.ok _ j=>.ok v j):=by
 have:=ov (l:=l) (x:=x) (i:=i)
 cases h:bX l x i with
 |no a w=>rw[h]at this;exact this
 |ok u j=>trivial
structure Er(l:List UInt8)(k:Nat):Prop where
 v:∀level i,EW (dA l k level i)
 a:∀level i,EW (ie l k level i)
 ag:∀level i acc,EW (fI l k level i acc)
 o:∀level i,EW (ib l k level i)
 og:∀level i keys acc,EW (fJ l k level i keys acc)
theorem C8:∀k,Er l k
 |0=>⟨fun _ _=>by unfold dA;exact nt,fun _ _=>by unfold ie;exact nt,fun _ _ _=>by unfold fI;exact nt,fun _ _=>by unfold ib;exact nt,fun _ _ _ _=>by unfold fJ;exact nt⟩
 |k+1=>by
   have I:=C8 k;refine⟨fun level i0=>?_,fun level i0=>?_,fun level i acc=>?_,fun level i0=>?_,fun level i0 keys acc=>?_⟩
   ·rw[w7]
    split;·exact yU
    ·split
     ·exact yU
     ·split
      ·exact yU
      ·split
       ·have J:=sV (l:=l) (i:=bg l i0)
        cases M:cL l (bg l i0)with
        |no a w=>rw[M]at J;exact J
        |ok t j=>trivial
       ·split
        ·split
         ·exact .inr (.inr (.inr Z))
         ·split
          ·exact I.a _ _
          ·exact I.o _ _
        ·exact E7
   ·rw[tW]
    split;·trivial
    ·exact I.ag _ _ _
   ·rw[rm]
    have N:=I.v (level+1) i
    cases M:dA l k (level+1) i with
    |no a w=>rw[M]at N;exact N
    |ok v j=>
      dsimp only;split;·exact I.ag _ _ _
      ·have J:=oq (l:=l) (c:=93) (i:=bg l j)
       cases O:cn l 93 (bg l j)with
       |no a w=>rw[O]at J;exact J
       |ok u j2=>trivial
   ·rw[tR]
    split;·trivial
    ·exact I.og _ _ _ _
   ·rw[rl]
    have J:=sV (l:=l) (i:=bg l i0)
    cases M:cL l (bg l i0)with
    |no a w=>rw[M]at J;exact J
    |ok t j=>
      dsimp only;split;·exact .inr (.inl rfl)
      ·have U:=oq (l:=l) (c:=58) (i:=bg l j)
       cases O:cn l 58 (bg l j)with
       |no a w=>rw[O]at U;exact U
       |ok u j1=>
         dsimp only;have N:=I.v (level+1) j1
         cases ad:dA l k (level+1) j1 with
         |no a w=>rw[ad]at N;exact N
         |ok v j2=>
           dsimp only;split;·exact I.og _ _ _ _
           ·have X:=oq (l:=l) (c:=125) (i:=bg l j2)
            cases ai:cn l 125 (bg l j2)with
            |no a w=>rw[ai]at X;exact X
            |ok u j3=>trivial
theorem qI:EW (eb l):=by
 unfold eb;have I:=(C8 (l:=l) (3*l.length+1)).v 1 0
 cases J:dA l (3*l.length+1) 1 0 with
 |no a w=>rw[J]at I;exact I
 |ok v j=>dsimp only;split;exact nt;trivial
end
variable {f:Fm}
def ku:Ev:=⟨0,0,cw,0,0,[]⟩
def BV(j:JV):Int:=(cm j eA 3).n
def gr(j:JV)(b:Bool):Bool:=b||dD j eA 3
def pO(j:JV)(f:Fm):ByteArray:=if f.name=true then(cm j cb 4).s else cw
def fK(j:JV)(f:Fm)(b:Bool):Bool:=if f.name=true then b||dD j cb 4 else b
def nO(j:JV)(f:Fm):Int:=if f.n=cw then 0 else(cm j f.n 3).n
def jM(j:JV)(f:Fm)(b:Bool):Bool:=if f.n=cw then b else b||dD j f.n 3
def iS(j:JV)(f:Fm):Bool:=bif !decide (f.ph=pS)then true else decide (nO j f=2)
def wG(f:Fm)(on:Bool):Bool:=bif !decide (f.m=cw)then on else false
def mO(j:JV)(f:Fm)(on:Bool):Int:=if wG f on=true then(cm j f.m 3).n else 0
def mC(j:JV)(f:Fm)(on:Bool)(b:Bool):Bool:=if wG f on=true then b||dD j f.m 3 else b
def Eh(j:JV)(f:Fm):List ByteArray:=if f.st=true then r8 j else[]
def uU(j:JV)(f:Fm)(b:Bool):Bool:=if f.st=true then(b||dD j cg 5)||ep (cm j cg 5).kids else b
def nC(j:JV)(f:Fm):Ev:=⟨BV j,f.kind,pO j f,nO j f,mO j f (iS j f),Eh j f⟩
def w9(j:JV)(f:Fm)(b:Bool):Bool:=uU j f (mC j f (iS j f) (jM j f (fK j f (gr j b))))
def lb(ph:ByteArray):Option Fm:=match hZ.findIdx? fun f=>decide (f.ph=ph)with
 |some i=>hZ[i]?
 |none=>none
def da(j:JV):Bool:=!decide (j.op=6)
def cH(j:JV):Int×Ev×Int:=
 if ck j 1≠0 then(0,ku,ck j 1)
 else if cQ j (da j)=true then(0,ku,10)
 else match lb (cm j e8 4).s with
  |none=>(0,ku,10)
  |some f=>if(bif w9 j f (cQ j (da j))then true else !iB j (fz f (iS j f)))=true then(0,ku,10)
    else if dJ (nC j f)≠0 then(0,ku,dJ (nC j f))else((cm j de 3).n,nC j f,0)
def gk(j:JV):Bool:=
 bif !decide (j.op=6)then true else bif !(cM j e8).isSome then true else bif !(cM j de).isSome then true else bif !decide (((cM j e8).getD cR).op=4)then true
  else bif !decide (((cM j de).getD cR).op=3)then true else bif decide (((cM j de).getD cR).n<0)then true else decide (1000000000000000<((cM j de).getD cR).n)
def cP(j:JV):ByteArray:=if gk j=true then cw else((cM j e8).getD cR).s
def cB(j:JV):Int:=if gk j=true then 0 else((cM j de).getD cR).n
def zT:ByteArray:=B #[66,69,105,67,80,115,102,82,83,87,78,68]
def fa(ph:ByteArray):Int:=match hZ.findIdx? fun f=>decide (f.ph=ph)with
 |some i=>(i:Int)+1
 |none=>0
def fh(k:Int)(b:Bool):List ByteArray:=
 if k=1∨k=3 then[cb,eA]
 else if k=2 then[eA]
 else if k=4 then[cb,eA,gQ]
 else if k=5 then[eA,cg,dy]
 else if k=8 then[eA,kD]
 else if k=9 then(if b=true then[eA,ec,kr]else[eA,ec])
 else if k=10 then[eA,gU]
 else if k=11 then[eA,gV,ee,cg]
 else[eA,gV]
def iF(j:JV):List ByteArray×Bool:=if j.op≠5 then([],false)else if ep j.kids=true then([],false)else(j.kids.map JV.s,true)
def fe(e:Ev)(key:ByteArray)(v:JV):Ev×Bool:=
 if key=cb then({e with name:=v.s},decide (v.op=4))
 else if key=cg then({e with stack:=(iF v).1},(iF v).2)
 else if key=eA then({e with time:=v.n},decide (v.op=3))
 else if key=kr∨key=ee then({e with m:=v.n},decide (v.op=3))
 else({e with n:=v.n},decide (v.op=3))
def dW(j:JV):List ByteArray->Ev->Option Ev
 |[],e=>some e
 |k::r,e=>match cM j k with
   |none=>none
   |some v=>if(fe e k v).2=true then dW j r (fe e k v).1 else none
def eL(j:JV):Bool:=bif decide (((cM j ec).getD cR).op=3)then decide (((cM j ec).getD cR).n=2)else false
def xR(k:Int):Ev:=⟨0,k,cw,0,0,[]⟩
def dX(j:JV):Int×Ev×Int:=
 if ck j 1≠0 then(0,ku,ck j 1)
 else if(bif gk j then true else decide (fa (cP j)=0))=true then(0,ku,10)
 else if j.keys.length≠(fh (fa (cP j)) (eL j)).length+2 then(0,ku,10)
 else match dW j (fh (fa (cP j)) (eL j)) (xR (fa (cP j)))with
  |none=>(0,ku,10)
  |some e=>if dJ e≠0 then(0,ku,dJ e)else(cB j,e,0)
theorem Eg(k b):(fh k b).length<=4:=by grind[fh]
theorem I7{x r}(h:(bif !(cM j x).isSome then true else !(fe e x ((cM j x).getD cR)).2)=true):dW j (x::r) e=none:=by unfold dW;grind
theorem IT{x r}(h:(bif !(cM j x).isSome then true else !(fe e x ((cM j x).getD cR)).2)=false):dW j (x::r) e=dW j r (fe e x ((cM j x).getD cR)).1:=by grind[cM,dW,fe]
def uw(j:JV):Prop:=∀v∈j.kids,v.kids.length<=1000000000
theorem rA{v:JV}{key}(h:cM j key=some v):v∈j.kids:=by unfold cM at h;grind
theorem uw.get(h:uw j)(key):((cM j key).getD cR).kids.length<=1000000000:=by
 cases hg:cM j key with
 |none=>simp[cR,JV.kids]
 |some v=>exact h v (rA hg)
theorem uw.val(h:uw j)(key op):(cm j key op).kids.length<=1000000000:=by
 unfold cm lZ
 cases hg:cM j key with
 |none=>simp[cR,JV.kids]
 |some v=>
   show((if v.op=op then some v else none).getD cR).kids.length<=_;split;·exact h v (rA hg)
   ·simp[cR,JV.kids]
theorem Gn(e:Ev)(v:JV):fe e cb v=({e with name:=v.s},decide (v.op=4)):=if_pos rfl
theorem Ee(e:Ev)(v:JV):fe e cg v=({e with stack:=(iF v).1},(iF v).2):=by unfold fe;rw[if_neg (by decide+kernel),if_pos rfl]
theorem Ka(e:Ev)(v:JV):fe e eA v=({e with time:=v.n},decide (v.op=3)):=by unfold fe;rw[if_neg (by decide+kernel),if_neg (by decide+kernel),if_pos rfl]
theorem KH(e:Ev)(v:JV):fe e kr v=({e with m:=v.n},decide (v.op=3)):=by unfold fe;rw[if_neg (by decide+kernel),if_neg (by decide+kernel),if_neg (by decide+kernel),if_pos (.inl rfl)]
theorem Hd(e:Ev)(v:JV):fe e ee v=({e with m:=v.n},decide (v.op=3)):=by unfold fe;rw[if_neg (by decide+kernel),if_neg (by decide+kernel),if_neg (by decide+kernel),if_pos (.inr rfl)]
theorem Lf{k}(h:k≠cb∧k≠cg∧k≠eA∧¬(k=kr∨k=ee))(e:Ev)(v:JV):fe e k v=({e with n:=v.n},decide (v.op=3)):=by grind[fe]
theorem oW{k r op}{g:JV->Ev}(h:∀v,fe e k v=(g v,decide (v.op=op))):dW j (k::r) e=if dD j k op=true then none else dW j r (g (cm j k op)):=by unfold dD cm lZ;rw[dW];grind
theorem EH{r}:dW j (cg::r) e=if(dD j cg 5||ep (cm j cg 5).kids)=true then none else dW j r {e with stack:=r8 j}:=by
 unfold r8 dD cm lZ;rw[dW]
 cases cM j cg with
 |none=>rfl
 |some v=>show(if(fe e cg v).2=true then dW j r (fe e cg v).1 else none)=if((if v.op=5 then some v else none).isNone||ep ((if v.op=5 then some v else none).getD cR).kids)=true then none else dW j r {e with stack:=((if v.op=5 then some v else none).getD cR).kids.map JV.s};grind[Ee,iF,ep,pa.map,JV.s,dW]
theorem Hj{r}:dW j (cb::r) e=if dD j cb 4=true then none else dW j r {e with name:=(cm j cb 4).s}:=oW (g:=fun v=>{e with name:=v.s}) (Gn e)
theorem KZ{r}:dW j (eA::r) e=if dD j eA 3=true then none else dW j r {e with time:=(cm j eA 3).n}:=oW (g:=fun v=>{e with time:=v.n}) (Ka e)
theorem Kp{r}:dW j (kr::r) e=if dD j kr 3=true then none else dW j r {e with m:=(cm j kr 3).n}:=oW (g:=fun v=>{e with m:=v.n}) (KH e)
theorem FY{r}:dW j (ee::r) e=if dD j ee 3=true then none else dW j r {e with m:=(cm j ee 3).n}:=oW (g:=fun v=>{e with m:=v.n}) (Hd e)
theorem tK{k}(h:k≠cb∧k≠cg∧k≠eA∧¬(k=kr∨k=ee)){r}:dW j (k::r) e=if dD j k 3=true then none else dW j r {e with n:=(cm j k 3).n}:=oW (g:=fun v=>{e with n:=v.n}) (Lf h e)
theorem Ew{r}:dW j (gQ::r) e=if dD j gQ 3=true then none else dW j r {e with n:=(cm j gQ 3).n}:=tK (by decide+kernel)
theorem Df{r}:dW j (dy::r) e=if dD j dy 3=true then none else dW j r {e with n:=(cm j dy 3).n}:=tK (by decide+kernel)
theorem JM{r}:dW j (gV::r) e=if dD j gV 3=true then none else dW j r {e with n:=(cm j gV 3).n}:=tK (by decide+kernel)
theorem H9{r}:dW j (kD::r) e=if dD j kD 3=true then none else dW j r {e with n:=(cm j kD 3).n}:=tK (by decide+kernel)
theorem DS{r}:dW j (ec::r) e=if dD j ec 3=true then none else dW j r {e with n:=(cm j ec 3).n}:=tK (by decide+kernel)
theorem DL{r}:dW j (gU::r) e=if dD j gU 3=true then none else dW j r {e with n:=(cm j gU 3).n}:=tK (by decide+kernel)
theorem IL:dW j [] e=some e:=rfl
theorem vr(j:JV):eL j=decide ((cm j ec 3).n=2):=by grind[eL,cm,lZ,cM,ec,JV.n,cR]
theorem keys_eq(j:JV)(I:f∈hZ):fz f (iS j f)=e8::de::fh f.kind (eL j):=by
 rw[vr];simp only[hZ,C',List.not_mem_nil,or_false]at I;rcases I with rfl|rfl|rfl|rfl|rfl|rfl|rfl|rfl|rfl|rfl|rfl|rfl
 case inr.inr.inr.inr.inr.inr.inr.inr.inl=>
  have J:iS j ⟨pS,9,false,ec,kr,false⟩=decide ((cm j ec 3).n=2):=by unfold iS nO;rw[if_neg (by decide+kernel),decide_eq_true rfl];rfl
  rw[J];cases decide ((cm j ec 3).n=2)<;>decide+kernel
 all_goals(first|rfl|skip)
theorem BP(j:JV)(I:f∈hZ):dW j (fh f.kind (eL j)) (xR f.kind)=if w9 j f false=true then none else some (nC j f):=by
 rw[vr];have n1:¬gQ=cw:=by decide+kernel
 have n2:¬dy=cw:=by decide+kernel
 have n3:¬gV=cw:=by decide+kernel
 have n4:¬kD=cw:=by decide+kernel
 have n5:¬ec=cw:=by decide+kernel
 have n6:¬kr=cw:=by decide+kernel
 have n7:¬gU=cw:=by decide+kernel
 have n8:¬ee=cw:=by decide+kernel
 have p1:¬B #[66]=pS:=by decide+kernel
 have p2:¬B #[69]=pS:=by decide+kernel
 have p3:¬B #[105]=pS:=by decide+kernel
 have p4:¬B #[67]=pS:=by decide+kernel
 have p5:¬pP=pS:=by decide+kernel
 have p6:¬B #[115]=pS:=by decide+kernel
 have p7:¬B #[102]=pS:=by decide+kernel
 have p8:¬B #[82]=pS:=by decide+kernel
 have N:¬B #[87]=pS:=by decide+kernel
 have J:¬pN=pS:=by decide+kernel
 have M:¬B #[68]=pS:=by decide+kernel
 simp only[hZ,C',List.not_mem_nil,or_false]at I
 by_cases q:(cm j ec 3).n=2<;>rcases I with rfl|rfl|rfl|rfl|rfl|rfl|rfl|rfl|rfl|rfl|rfl|rfl<;>
  simp[q,fh,Hj,KZ,Kp,FY,Ew,Df,JM,H9,DS,DL,EH,IL,xR,w9,uU,mC,jM,fK,gr,wG,nC,BV,pO,nO,mO,Eh,iS,n1,n2,n3,n4,n5,n6,n7,n8,p1,p2,p3,p4,p5,p6,p7,p8,N,J,M]
 all_goals grind
theorem BM(hl:j.keys.length=j.kids.length)(I:j.op=6)(k):(j.keys.any fun x=>decide (k=x))=(cM j k).isSome:=by grind[cM,List.findIdx?_eq_none_iff,List.any_eq_false,List.findIdx?_eq_some_iff_getElem,List.any_eq_true,List.getElem_mem]
theorem nU{k op}(h:dD j k op=false):(cM j k).isSome=true:=by grind[dD,lZ,cM]
theorem checked (h:ck j level=0):(j.op=6→j.keys.length=j.kids.length)∧∀ v∈j.kids,v.op=3→fu v.n=true:=by
  obtain⟨op,n,s,keys,kids⟩:=j
  obtain⟨h1,h2⟩:=lF h
  obtain⟨hf,_⟩:=jA h1
  constructor
  · grind[dc,JV.op,JV.keys,JV.kids,JV.n,JV.s]
  · have key:∀ (l:List JV),dz l (level+1)=0→∀ v∈l,v.op=3→fu v.n=true:=by
      intro l
      induction l with
      | nil=>intro _ v hv;cases hv
      | cons x r ih=>
        intro hc v hv ho
        obtain⟨c1,c2⟩:=jt hc
        rcases C'.1 hv with rfl | hv
        · obtain⟨op,n,s,keys,kids⟩:=v
          obtain⟨c3,_⟩:=lF c1
          obtain⟨_,c4,_⟩:=jA c3
          grind
        · grind
    exact key kids h2
theorem head_eq(h:ck j level=0):gk j=cQ j (da j):=by
 have M:∀v,cM j de=some v->v.op=3->v.n<=1000000000000000:=fun v I J=>by have:=(checked h).2 v (rA I) J;grind[fu]
 grind[gk,cQ,da,dD,cm,lZ,cM]
theorem zE(h:cQ j (da j)=false)(I:ck j level=0):cP j=(cm j e8 4).s∧cB j=(cm j de 3).n:=by
 have J:gk j=false:=by rw[head_eq I,h]
 unfold cP cB;grind[cQ,Bool.or_eq_false_iff,dD,cM,cR,cm,lZ]
theorem F1{ph}(h:lb ph=some f):f∈hZ∧fa ph=f.kind∧f.ph=ph:=by
 unfold lb at h
 cases hi:hZ.findIdx? fun f=>decide (f.ph=ph)with
 |none=>rw[hi]at h;cases h
 |some i=>
   rw[hi]at h;have h:hZ[i]?=some f:=h;refine⟨ζ h,?_,?_⟩
   ·unfold fa
    rw[hi];have key:∀(i:Nat)(f:Fm),hZ[i]?=some f->(i:Int)+1=f.kind:=by
     intro i f I
     match i,I with
     |0,I=>cases I;rfl
     |1,I=>cases I;rfl
     |2,I=>cases I;rfl
     |3,I=>cases I;rfl
     |4,I=>cases I;rfl
     |5,I=>cases I;rfl
     |6,I=>cases I;rfl
     |7,I=>cases I;rfl
     |8,I=>cases I;rfl
     |9,I=>cases I;rfl
     |10,I=>cases I;rfl
     |11,I=>cases I;rfl
     |i+12,I=>simp[hZ]at I
    grind
   ·obtain⟨h1,h2,_⟩:=List.findIdx?_eq_some_iff_getElem.1 hi
    grind
theorem DR{ph}(h:lb ph=none):fa ph=0:=by grind[lb,fa,List.findIdx?_eq_some_iff_getElem,hZ,List.getElem?_eq_getElem]
theorem F9(h:f∈hZ):¬f.kind=0:=by simp only[hZ,C',List.not_mem_nil,or_false]at h;rcases h with rfl|rfl|rfl|rfl|rfl|rfl|rfl|rfl|rfl|rfl|rfl|rfl<;>decide
theorem zX:∀{l:List ByteArray}{e J:Ev},dW j l e=some J->∀k∈l,(cM j k).isSome=true
 |[],_,_,_,k,I=>by cases I
 |x::r,e,J,h,k,I=>by
   rw[dW]at h
   cases M:cM j x with
   |none=>rw[M]at h;cases h
   |some v=>
     rw[M]at h;have h:(if(fe e x v).2=true then dW j r (fe e x v).1 else none)=some J:=h;split at h
     ·rcases C'.1 I with rfl|I
      ·grind
      ·exact zX h k I
     ·grind
theorem GB(j:JV):dX j=cH j:=by
 unfold dX cH;by_cases hc:ck j 1=0
 ·rw[if_neg (fun h=>h hc:¬ck j 1≠0),if_neg (fun h=>h hc:¬ck j 1≠0),head_eq hc]
  cases hb:cQ j (da j)with
  |true=>rfl
  |false=>
    obtain⟨N,O⟩:=zE hb hc;rw[N,O,if_neg (by simp:¬false=true)]
    cases I:lb (cm j e8 4).s with
    |none=>rw[DR I];rfl
    |some f=>
      obtain⟨hm,J,_⟩:=F1 I;rw[J,if_neg (by simpa using F9 hm),BP j hm];have M:j.op=6:=by grind[cQ,da,Bool.or_eq_false_iff]
      have hl:=(checked hc).1 M;have ai:(cM j e8).isSome=true:=by grind[cQ,Bool.or_eq_false_iff,nU]
      have U:(cM j de).isSome=true:=by grind[cQ,Bool.or_eq_false_iff,nU]
      cases he:w9 j f false with
      |true=>grind
      |false=>
        have X:dW j (fh f.kind (eL j)) (xR f.kind)=some (nC j f):=by rw[BP j hm,he];rfl
        have hh:iB j (fz f (iS j f))=decide (j.keys.length=(fh f.kind (eL j)).length+2):=by
         rw[keys_eq j hm];unfold iB;have ad:((e8::de::fh f.kind (eL j)).any fun k=>!j.keys.any fun x=>decide (k=x))=false:=by rw[List.any_eq_false];intro k J;rw[BM hl M];grind[zX]
         grind
        grind
 ·grind
def tJ(s:ByteArray):JV:=.mk 4 0 s [] []
def nJ(n:Int):JV:=.mk 3 n cw [] []
def ju(f:Fm)(id:Int)(e:Ev)(k:ByteArray):JV:=
 if k=e8 then tJ f.ph else if k=de then nJ id else if k=cb then tJ e.name else if k=eA then nJ e.time
 else if k=cg then .mk 5 0 cw [] (e.stack.map tJ)else if k=f.n then nJ e.n else nJ e.m
def Ff(f:Fm)(e:Ev):Bool:=bif !decide (f.ph=pS)then true else decide (e.n=2)
def tf(k:Int):Option Fm:=match hZ.findIdx? fun f=>decide (f.kind=k)with
 |some i=>hZ[i]?
 |none=>none
def BY(f:Fm)(id:Int)(e:Ev):JV:=.mk 6 0 cw (fz f (Ff f e)) ((fz f (Ff f e)).map (ju f id e))
theorem Em(f:Fm)(on):(fz f on).length<=7:=by grind[fz]
theorem Hk{k}(h:tf k=some f):∃i:Nat,idx (hZ.findIdx? fun f=>decide (f.kind=k))=(i:Int)∧hZ[i]?=some f:=by
 unfold tf at h
 cases hi:hZ.findIdx? fun f=>decide (f.kind=k)with
 |none=>rw[hi]at h;cases h
 |some i=>rw[hi]at h;exact⟨i,rfl,h⟩
end Go.Tb
namespace Go.Ab
open Go.RowKit
variable {w w':World}{tmps:Array Value}{pv:Nat→Nat→Prop}{x y:Operand}{t g i k e m j b id off d clock sz gen' cap mt t' g2 d0:Nat}{P:Program}{Q':Exit→Act→World→Prop}{fid:FuncId}{lv' lv gs order os:List Nat}{bs:List (Nat×Nat)}{o:Oper}{xs:Array Operand}{fn:Func}{parts:Array (Nat×Operand)}{α ι β:Type}{dst:Option Nat}{hole:Option Value}{R:Value→World→Prop}{ops:Array Oper}{want:Bool}{listed:Array Bool}{T ty:TypeId}{act:Act}
variable {es es2:List (List D)}{f:List (Nat×A)}{G:Gh}{a a':A}{st st':St}{l:List D}{E E':En}{args cells cells' caps:List A}{Q:Exit→St→Prop}{b1:List (List A)}{C:Ctx}
variable {rs:List RV}
variable {I td J ed M N:cY}
section
variable{n:Nat}{v:Value}
theorem dr{y}(h:Q (hU v) st):QS P C n y Q (hU v) st:=h
theorem iP(h:Q (hU v) st):QB id Q (hU v) st:=h
theorem ma{I}(h:Q (hU v) st):QL I m Q (hU v) st:=h
theorem dQ{T:cT P}{x:Out}(h:x=.iM v):QX T rs x (hU v) st:=by subst h;rfl
theorem eE{T:cT P}{x:Out}{r e}(h:x=.ret r b1 k)(I:cf T rs r b1 k e st):QX T rs x e st:=by subst h;exact I
theorem La{S}(h:Q (hU v) st):QC C n S Q (hU v) st:=h
end
end Go.Ab
namespace Go.Tb
open Go.Ab
@[reducible] def j0(t:Nat)(a:Nat)(w:Int):Value:=.iface t (.agg #[.int .i64 (a:Int),.int .i64 w])
@[reducible] def gw(s:ByteArray)(i:Nat):List A:=[.d (cs s),.d (.v (.int .i64 (i:Int)))]
def jI{α:Type}(t:Nat)(s:ByteArray)(r:α->A):PE α->Out
 |.ok x i=>.ret (r x) [gw s i] 0
 |.no a w=>.iM (j0 t a w)
theorem iL{α:Type}(t:Nat)(s:ByteArray)(r:α->A)(x:PE α):(jI t s r x).len 1=true:=by cases x<;>rfl
theorem cp{α:Type}{t:Nat}{s:ByteArray}{r:α->A}{x:PE α}{y:α}{i:Nat}(h:x=.ok y i):jI t s r x=.ret (r y) [gw s i] 0:=by subst h;rfl
theorem b9{α:Type}{t:Nat}{s:ByteArray}{r:α->A}{x:PE α}{a:Nat}{w:Int}(h:x=.no a w):jI t s r x=.iM (j0 t a w):=by subst h;rfl
end Go.Tb
namespace Go.Ab
open Go.RowKit
variable {w w':World}{tmps:Array Value}{pv:Nat→Nat→Prop}{x y:Operand}{t g i k e m j b id off d clock sz gen' cap mt t' g2 d0:Nat}{P:Program}{Q':Exit→Act→World→Prop}{fid:FuncId}{lv' lv gs order os:List Nat}{bs:List (Nat×Nat)}{o:Oper}{xs:Array Operand}{fn:Func}{parts:Array (Nat×Operand)}{α ι β:Type}{dst:Option Nat}{hole:Option Value}{R:Value→World→Prop}{ops:Array Oper}{want:Bool}{listed:Array Bool}{T ty:TypeId}{act:Act}
variable {es es2:List (List D)}{f:List (Nat×A)}{G:Gh}{a a':A}{st st':St}{l:List D}{E E':En}{args cells cells' caps:List A}{Q:Exit→St→Prop}{b1:List (List A)}{C:Ctx}
variable {rs:List RV}
variable {I td J ed M N:cY}
def py(I:Nat):List (Nat×List A)->List (Nat×List A)
 |[]=>[]
 |(g,c)::r=>bif Nat.blt g I then(g,c.map rH)::py I r else py I r
theorem qT{I}:∀{bx:List (Nat×List A)}{g:Nat}{c:List A},bk (py I bx) g=some c->g<I∧∃c0,bk bx g=some c0∧c=c0.map rH
 |[],g,c,h=>by simp[py,bk]at h
 |(g0,c0)::r,g,c,h=>by
   unfold py at h
   cases hb:Nat.blt g0 I with
   |true=>
     rw[hb]at h;have J:g0<I:=Nat.blt_eq.mp hb;simp only[cond_true,bk]at h⊢
     cases he:Nat.beq g0 g with
     |true=>grind[Option.some.injEq,Nat.eq_of_beq_eq_true]
     |false=>rw[he]at h;simp only[cond_false]at h⊢;exact qT h
   |false=>
     rw[hb]at h;have J:¬g0<I:=fun q=>by rw[Nat.blt_eq.mpr q]at hb;cases hb
     simp only[cond_false]at h;obtain⟨h1,h2⟩:=qT h;grind[Nat.beq,Nat.eq_of_beq_eq_true,bk]
theorem uN{v}(h:bG E v a):bG E' v (rH a):=by
 unfold rH;split;·cases h with|d I=>cases I with|v _ J=>exact .d (.v _ J)
 ·exact .any _
theorem bq.L8{C:Ctx}{n M:Nat}{st:St}{G:Gh}{tmps:Array Value}{w w':World}(h:bq C n st G tmps w)(O:C.bx.length=M)(U:∀i b:Nat,C.bx[i]?=some b->b<C.w0.heap.size)(hb:Below C.w0.heap.size w w')(ad:w.heap.size<=w'.heap.size):
 bq C n ⟨pD st.f,py M st.bx,[],st.gen⟩ ⟨fun g=>if g<M then G.box g else none,fun _=>none⟩ tmps w' where
 size:=h.size
 frame:=fun t a X=>by rw[rf]at X;obtain⟨a',ai,rfl⟩:=χ.1 X;obtain⟨v,hv,N⟩:=h.frame t a' ai;grind[uN]
 box:=fun g cells hc=>by
  obtain⟨I,c0,h0,rfl⟩:=qT hc;obtain⟨b,cs,T,h1,h2,h3,h4,h5⟩:=h.box g c0 h0;have aj:C.bx[g]?=some b:=by have hl:C.bx[g]?=some (C.bx[g]'(by omega)):=X' _;have:=h.lent g _ hl;grind
  have J:=U g b aj;refine⟨b,cs,T,by simp[I,h1],by rw[hb.block b J];exact h2,by simpa using h3,h4,fun i u a hu X=>?_⟩;grind[Option.map_eq_some_iff,uN]
 gbox:=fun g b I=>by
  have I:(if g<M then G.box g else none)=some b:=I;split at I
  ·obtain⟨q1,q2,q3⟩:=h.gbox g b I
   grind
  ·grind
 inj:=fun g g' b h1 h2=>by
  have h1:(if g<M then G.box g else none)=some b:=h1;have h2:(if g'<M then G.box g' else none)=some b:=h2;split at h1
  ·split at h2
   ·exact h.inj g g' b h1 h2
   ·grind
  ·grind
 live:=fun g I=>by simp at I
 gown:=fun g r N=>by simp at N
 row:=fun g b len cap sz ar N=>by simp at N
 mrow:=fun g b bs N=>by simp at N
 sub:=fun g b bs c lim N=>by simp at N
 gcell:=fun g b I=>by
  have I:(if g<M then G.box g else none)=some b:=I;split at I
  ·rename_i J
   have hl:g<C.bx.length:=by rw[O];exact J
   have h1:=h.lent g C.bx[g] (by simp[hl]);rw[I]at h1;simp only[Option.some.injEq]at h1;obtain⟨cs,T,f,h2⟩:=h.gcell g b I;exact⟨cs,T,f,by rw[hb.block b (U g b (by rw[h1];simp[hl]))];exact h2⟩
  ·grind
 xold:=h.xold
 kold:=h.kold
 lent:=fun i b hb=>by
  have hi:i<M:=by rw[<-O];exact(δ.1 hb).1
  show(if i<M then G.box i else none)=some b;rw[if_pos hi];exact h.lent i b hb
 fr:=⟨hb.os.trans h.fr.os,hb.tape.trans h.fr.tape,hb.output.trans h.fr.output,B' h.fr.size ad,fun b h1 h2=>(hb.block b h1).trans (h.fr.block b h1 h2),fun b o u h1 h2=>by
  have J:=eh h2;rw[cS (hb.block b J)];exact h.fr.cells b o u h1 h2,fun b cs T f h1=>by
  have J:=(θ.1 h1).1;rw[hb.block b J];exact h.fr.ty b cs T f h1⟩
section
variable{n:Nat}{rest:List Oper}
variable{bx:List (Nat×List A)}{gen:Nat}{pos:String}{af:Array Edge}
theorem Iz{X}[hN:NB C X](cj:∀b,C.fp b->∃i:Nat,C.bx[i]?=some b)(dt:∀i b:Nat,C.bx[i]?=some b->b<C.w0.heap.size){O e u}{s:ByteArray}(hx:av f x=some (.clo fid []))(hy:av f y=some (.ptr g 0))(hb:bk bx g=some [.np g T u,.bf g2 e s])(dx:(lv.any fun h=>Nat.beq h g2)=true)(hok:lx P fid)(c6:uC P T e fid)(ed:s.size<=maxLen)(hd:Nat.blt d n=true)(cl:Nat.ble X g=true)(h:WO P C n ops Q rest ⟨(d,.d (.v (.string s)))::pD f,py X bx,[],gen⟩):WO P C n ops Q (⟨some d,.call ⟨.value x,#[y],O⟩,ty,pos,af,none⟩::rest) ⟨f,bx,lv,gen⟩:=by
 refine WO.step (st:=⟨f,bx,lv,gen⟩) Z fun tmps w⟨G,hs⟩=>?_;obtain⟨fn,ei,a6,a7⟩:=hok;have cq:=hs.av hx;generalize hv:Act.eval ⟨tmps,[]⟩ x=v at cq
 cases cq with
 |clo _ vs _ ej fo=>
 have en:vs=#[]:=Array.eq_empty_of_size_eq_zero (by simpa using ej);subst en;have cx:=hs.av hy;generalize er:Act.eval ⟨tmps,[]⟩ y=vy at cx;obtain⟨b,cs,T',h1,h2,h3,h4,h5⟩:=hs.box g _ hb;have e2:vy=.pointer (some ⟨b,0,none⟩):=by
  cases cx with
  |ptr _ _ _ b0 hg ad I=>exact oF ad I b h1
 subst e2;have c7:(execOp (Act.eval ⟨tmps,[]⟩) ⟨some d,.call ⟨.value x,#[y],O⟩,ty,pos,af,none⟩).run P w=.ok (.enter fid #[.pointer (some ⟨b,0,none⟩)]) w:=by unfold execOp;show Sem.run P (do let d←resolve (Act.eval ⟨tmps,[]⟩) ⟨.value x,#[y],O⟩ ty;invoke d.target d.args) w=_;simp only[resolve,hv,er,Deferred.ofValue,Sem.run_bind,Sem.run_pure,Result.andThen_ok,invoke,callFunc,run_program,ei,a6,a7,N',if_false,Array.empty_append,Array.append_empty,List.map_toArray,J',List.map_nil]
 simp at h3;obtain⟨p,q,ai⟩:∃p q,cs=#[p,q]:=⟨cs[0],cs[1],by apply Array.ext_getElem?;intro i;match i with|0=>simp[h3]|1=>simp[h3]|i+2=>simp[h3]⟩;subst ai;have hp:=h5 0 p _ rfl rfl;have hq:=h5 1 q _ rfl rfl;obtain⟨r,cy⟩:=hs.live g2 (dU dx);have df:C.bx.length=X:=hN.h;have a8:∀{b lim},C.jX b lim->(∀g',G.box g'≠some b)->C.w0.heap.size<=b:=fun hm e3=>hm.1.resolve_right fun hf=>by obtain⟨i,hi⟩:=cj _ hf;exact e3 i (hs.lent i _ hi)
 have U:C.w0.heap.size<=b:=(hs.gbox g b h1).2.2.1.resolve_right fun hf=>by obtain⟨i,hi⟩:=cj _ hf;have e:=hs.inj _ _ _ (hs.lent i _ hi) h1;have aj:i<C.bx.length:=(δ.1 hi).1;have:=κ cl;omega
 have ar:T'=T∧(p=.pointer none∨p=.pointer (some ⟨b,0,none⟩)):=by
  cases hp with
  |np _ _ _ b0 hg ad hT _ I=>
    have e1:b0=b:=by have:=(ad:G.box g=some b0).symm.trans h1;simpa using this
    subst e1;obtain⟨cs',f',hT⟩:=hT;have J:w.heap[b0]?=some (.cells cs' T f'):=hT;rw[h2]at J;simp only[Option.some.injEq,Obj.cells.injEq]at J;refine⟨J.2.1,?_⟩
    cases u with
    |true=>exact .inr I
    |false=>exact .inl I
 obtain⟨rfl,ar⟩:=ar;have M:w.ownsRow C.w0.heap.size e 1 q (Lib.byteCells s.data.toList).length (Lib.byteCells s.data.toList)∧q.ownBlock≠some b:=by
  cases hq with
  |bf _ _ _ _ hg fs di=>
  have I:=di r cy
  cases r with
  |zero b=>exact I.elim
  |mp b bs=>exact I.elim
  |nil=>obtain⟨rfl,h0⟩:=I;have e0:s.data.toList=[]:=O' (by simpa using h0);rw[e0];exact⟨World.ownsRow_nil w _ e 1,by simp[Value.ownBlock]⟩
  |blk b2 len cap sz ft=>
    obtain⟨rfl,h6,rfl,rfl,⟨cs',f',hT⟩,h8⟩:=I;obtain⟨b3,c1,ff,cur,T2,N,ai,e4,e5,_,fj,_⟩:=hs.row g2 b2 len cap 1 0 cy;have J:w.heap[b2]?=some (.cells cs' e f'):=hT;rw[N]at J;simp only[Option.some.injEq,Obj.cells.injEq]at J;obtain⟨_,rfl,_⟩:=J;have hlen:(Lib.byteCells s.data.toList).length=len:=by rw[Lib.byteCells_length,Array.length_toList];exact h6
    rw[hlen];refine⟨⟨by simpa using hlen,.inr ⟨b2,cap,cur,rfl,a8 b3 c1,N,e4,e5,ai,?_⟩⟩,?_⟩
    ·rw[Nat.mul_one]
     apply List.ext_getElem?;intro t;rw[List.getElem?_take];have es:(Lib.byteCells s.data.toList)=Lib.strCells s:=(Lib.strCells_eq s).symm;split
     ·rename_i aj
      have hc:s.data[t]?=some (s.data[t]'(by rw[<-h6]at aj;exact aj)):=Array.getElem?_eq_getElem _;have h7:=h8 t _ hc;have e6:cur[t]?=_:=(cU N t).symm.trans h7;rw[es,gT hc,Array.getElem?_toList,e6]
     ·rename_i cl
      rw[List.getElem?_eq_none (by rw[hlen];omega)]
    ·simp only[Value.ownBlock]
     intro e1;simp only[Option.some.injEq]at e1;exact c1 g (e1▸h1)
 have dj:∀p,p=Value.pointer none∨p=.pointer (some ⟨b,0,none⟩)->w.heap[b]?=some (.cells #[p,q] T' (0,0))->Lib.IsBuilder T' e C.w0.heap.size b (Lib.byteCells s.data.toList) w:=by
  rintro p (rfl|rfl) hh;·exact .inl ⟨U,q,hh,M.1,M.2⟩
  ·exact .inr ⟨U,q,hh,M.1,M.2⟩
 unfold eB;have ch:(execOp (Act.eval {tmps:=tmps,defers:=[]}) ⟨some d,.call ⟨.value x,#[y],O⟩,ty,pos,af,none⟩).run P w=.ok (.enter fid #[.pointer (some ⟨b,0,none⟩)]) w:=c7;rw[ch];refine(c6 C.w0.heap.size b s.data.toList w (dj p ar h2) hs.fr.size).mono ?_;rintro e' w' ⟨rfl,a1⟩;refine⟨_,rfl,⟨(d,.d (.v (.string s)))::pD f,py X bx,[],gen⟩,⟨⟨fun g=>if g<X then G.box g else none,fun _=>none⟩,?_⟩,h⟩;have:=(hs.L8 df dt a1 a1.size).put (dst:=some d) (dp (dst:=some d) hd) (v:=.string ⟨s.data.toList.toArray⟩) (a:=.d (.v (.string s))) (.d (by
  have:(⟨s.data.toList.toArray⟩:ByteArray)=s:=by apply ByteArray.ext;simp
  rw[this];exact .v _ (by simp[dn,ed])))
 exact this
end
section
variable{n:Nat}
theorem W.Hu(T:cT P){J}[hnb:NB C J]{l l1 l2:List Oper}{bx gen}(v)(cs:List Nat)(m)(hB:jc m l.toArray=true)(I:mb l.toArray cs=true)(h1:l.take m=l1)(h2:l.drop m=l2)(M:∀st,Q (hU v) st)(h:CD P T C n (CO (bx::List.replicate cs.length bx) (lv::List.replicate cs.length lv) (gen::List.replicate cs.length gen) cs l.length v) l.toArray (WO P C n l.toArray Q l2) l1 0 f 0 true):W P C n (.region id l.toArray true) Q ⟨f,bx,lv,gen⟩:=
 W.Bu T v _ _ _ _ m hB I h1 h2 M h
theorem W.Ha(T:cT P){J}[hnb:NB C J]{l l1 l2:List Oper}{bx gen}(v lv1 gen1 bx1)(cs:List Nat)(m)(hB:jc m l.toArray=true)(I:mb l.toArray cs=true)(h1:l.take m=l1)(h2:l.drop m=l2)(M:∀st,Q (hU v) st)(h:CD P T C n (CO (bx::List.replicate cs.length bx1) (lv::List.replicate cs.length lv1) (gen::List.replicate cs.length gen1) cs l.length v) l.toArray (WO P C n l.toArray Q l2) l1 0 f 0 true):W P C n (.region id l.toArray true) Q ⟨f,bx,lv,gen⟩:=
 W.Bu T v _ _ _ _ m hB I h1 h2 M h
theorem W.uQ(T:cT P){N}[hnb:NB C N]{l l1 l2:List Oper}{bx gen}(F:List (Nat×List A)->List (List (Nat×List A)))(J:List (List Nat))(I:List Nat)(cs:List Nat)(m:Nat)(hB:jc m l.toArray=true)(M:mb l.toArray cs=true)(h1:l.take m=l1)(h2:l.drop m=l2)(h:CD P T C n (GF (bx::F bx) (lv::J) (gen::I) cs l.length) l.toArray (WO P C n l.toArray Q l2) l1 0 f 0 true):W P C n (.region id l.toArray true) Q ⟨f,bx,lv,gen⟩:=
 W.ox T (F bx) J I cs m hB M h1 h2 h
end
section
/-! ### a code whose end is told at once -/
variable {w w':World}{tmps:Array Value}{pv:Nat→Nat→Prop}{x y:Operand}{t g i k e m j b id off d clock sz gen' cap mt t' g2 d0:Nat}{P:Program}{Q':Exit→Act→World→Prop}{fid:FuncId}{lv' lv gs order os:List Nat}{bs:List (Nat×Nat)}{o:Oper}{xs:Array Operand}{fn:Func}{parts:Array (Nat×Operand)}{α ι β:Type}{dst:Option Nat}{hole:Option Value}{R:Value→World→Prop}{ops:Array Oper}{want:Bool}{listed:Array Bool}{T ty:TypeId}{act:Act}
variable {es es2:List (List D)}{f:List (Nat×A)}{G:Gh}{a a':A}{st st':St}{l:List D}{E E':En}{args cells cells' caps:List A}{Q:Exit→St→Prop}{b1:List (List A)}{C:Ctx}
variable {rs:List RV}
variable {I td J ed M N:cY}
def W'(P:Program)(C:Ctx)(n:Nat)(c:Code)(B:Exit->Act->World->Prop)(st:St):Prop:=∀tmps w,gA C n st tmps w->c.wp P B ⟨tmps,C.ds⟩ w
def sI(P:Program)(C:Ctx)(n:Nat)(ops:Array Oper)(B:Exit->Act->World->Prop)(l:List Oper)(st:St):Prop:=∀tmps w,gA C n st tmps w->fW P ops B l ⟨tmps,C.ds⟩ w
def Lz(P:Program)(C:Ctx)(n:Nat)(y:Code)(B:Exit->Act->World->Prop):Exit->St->Prop
 |.normal,st=>W' P C n y B st
 |e,st=>∀tmps w,gA C n st tmps w->B e ⟨tmps,C.ds⟩ w
section
variable{n:Nat}{B:Exit→Act→World→Prop}{rest:List Oper}
theorem aO{x y}(h:W P C n x (Lz P C n y B) st):W' P C n (.seq x y) B st:=by intro tmps w hs;refine wp_seq (wp_mono (h tmps w hs) ?_);rintro e ⟨t,M⟩ w' ⟨hd,st',I,J⟩;simp only at hd;subst hd;cases e<;>simp only[Lz]at J<;>simp only[Exit.then];all_goals exact J t w' I
theorem W'.Fx{l:List Oper}{y:Code}(h:sI P C n l.toArray (Exit.then (y.wp P B) B) l st):W' P C n (.seq (.region id l.toArray false) y) B st:=by intro tmps w hs;refine wp_seq (wp_region ?_);have:=sF (P:=P) (Q:=Exit.then (y.wp P B) B) (ops:=l.toArray) l 0 (by simp) ⟨tmps,C.ds⟩ w (h tmps w hs);grind[List.range_eq_range']
theorem sI.pu(I:o.guard=none)(hd:gZ n o.dst=true)(hp:Pu P C n st o a)(h:sI P C n ops B rest (st.put o.dst a)):sI P C n ops B (o::rest) st:=by intro tmps w ⟨G,hs⟩;simp only[fW,Region.wanted,I,if_true];refine(eB.ds (hp G tmps w hs)).wp fun v w'⟨hb,hr⟩=>?_;rw[Act.j6];exact h _ _ ⟨G,(hs.je hb).2.put (dp hd) hr⟩
abbrev pp(b:Nat):Value:=.pointer (some ⟨b,0,none⟩)
abbrev uy(fid:FuncId)(b0 b1 b2:Nat):Deferred:=⟨.fn (.func fid) #[pp b0,pp b1,pp b2],#[]⟩
theorem aN(hg:o.guard=none)(N:o.dst=none){X}(ho:o.op=.defer ⟨.value x,#[],X⟩)(hx:av st.f x=some (.clo fid [.ptr 0 0,.ptr 1 0,.ptr 2 0]))(h:∀I b1 J tmps w G,bq C n st G tmps w->G.box 0=some I->G.box 1=some b1->G.box 2=some J->fW P ops B rest ⟨tmps,uy fid I b1 J::C.ds⟩ w):sI P C n ops B (o::rest) st:=by
 intro tmps w ⟨G,hs⟩;simp only[fW,Region.wanted,hg,if_true];have O:=hs.av hx;rw[<-Act.j8 tmps C.ds []]at O;generalize hv:Act.eval ⟨tmps,C.ds⟩ x=v at O
 cases O with
 |clo _ vs _ M hcd=>
 have M:vs.size=3:=M;obtain⟨v0,v1,v2,rfl⟩:∃v0 v1 v2,vs=#[v0,v1,v2]:=⟨vs[0],vs[1],vs[2],by
  apply Array.ext;·simpa using M
  ·intro i h1 h2
   match i with
   |0=>rfl
   |1=>rfl
   |2=>rfl
   |i+3=>simp at h2;omega⟩
 have r0:=hcd 0 v0 _ Z rfl;have r1:=hcd 1 v1 _ Z rfl;have r2:=hcd 2 v2 _ Z Z
 cases r0 with
 |ptr _ _ _ I _ ad e0=>
 cases r1 with
 |ptr _ _ _ b1 _ ai e1=>
 cases r2 with
 |ptr _ _ _ J _ aj e2=>
 subst e0;subst e1;subst e2;have U:(execOp (Act.eval ⟨tmps,C.ds⟩) o).run P w=.ok (.defer (uy fid I b1 J)) w:=by unfold execOp;rw[ho];simp only[resolve,hv,Deferred.ofValue,Sem.run_bind,Sem.run_pure,Result.andThen_ok,List.map_toArray,List.map_nil,Array.append_empty]
 unfold Oper.wp;rw[U,Oper.upon_defer];rw[N];exact h I b1 J tmps w G hs ad ai aj
theorem bq.AA{bs:List Nat}{ds}(hs:bq C n st G tmps w)(h:∀(i b:Nat),bs[i]?=some b->G.box i=some b):bq {C with bx:=bs,ds:=ds} n st G tmps w:=
 {size:=hs.size,frame:=hs.frame,box:=hs.box,gbox:=hs.gbox,inj:=hs.inj,live:=hs.live,gown:=hs.gown,row:=hs.row,mrow:=hs.mrow,sub:=hs.sub,gcell:=hs.gcell,xold:=hs.xold,kold:=hs.kold,lent:=h,
   fr:=⟨hs.fr.os,hs.fr.tape,hs.fr.output,hs.fr.size,hs.fr.block,hs.fr.cells,hs.fr.ty⟩}
theorem GC.AA[dG P](h:GC P C){bs ds}:GC P {C with bx:=bs,ds:=ds}:=⟨h.h⟩
theorem wL{c:Code}(hs:gA C n st tmps w)(hW:W P C n c Q st)(hB:∀e a w',lift C n Q e a w'->B e a w'):c.wp P B ⟨tmps,C.ds⟩ w:=wp_mono (hW tmps w hs) hB
/-! ### a callee panics: the other boxes stay -/
def CP:A->A
 |.ptr g o=>.ptr g o
 |_=>.any
def AQ(f:List (Nat×A)):List (Nat×A):=f.map fun p=>(p.1,CP p.2)
theorem DY(f:List (Nat×A))(t:Nat):look (AQ f) t=(look f t).map CP:=by
 induction f with
 |nil=>rfl
 |cons p r I=>grind[AQ,cv]
theorem GL{v}(I:E'.gen=E.gen)(hb:E'.box=E.box)(h:bG E v a):bG E' v (CP a):=by
 unfold CP;split;·cases h with
  |ptr _ g off b h1 h2 h3=>exact .ptr _ _ _ b (I▸h1) (by rw[hb];exact h2) h3
 ·exact .any _
def pH(gs:List Nat):List (Nat×List A)->List (Nat×List A)
 |[]=>[]
 |(g,c)::r=>bif gs.any (Nat.beq g)then pH gs r else(g,c.map rH)::pH gs r
theorem rk:∀{bx:List (Nat×List A)}{g:Nat}{c:List A},bk (pH gs bx) g=some c->gs.any (Nat.beq g)=false∧∃c0,bk bx g=some c0∧c=c0.map rH
 |[],g,c,h=>by simp[pH,bk]at h
 |(g0,c0)::r,g,c,h=>by
   unfold pH at h
   cases hb:gs.any (Nat.beq g0)with
   |false=>
     rw[hb]at h;simp only[cond_false,bk]at h⊢
     cases he:Nat.beq g0 g with
     |true=>grind[Option.some.injEq,Nat.eq_of_beq_eq_true]
     |false=>rw[he]at h;simp only[cond_false]at h⊢;exact rk h
   |true=>rw[hb]at h;simp only[cond_true]at h;obtain⟨h1,h2⟩:=rk h;grind[Nat.beq,Nat.eq_of_beq_eq_true,bk]
theorem bq.K5 (h:bq C n st G tmps w) (h1:Fr (fH C G w gs os) w'):bq C n ⟨AQ st.f,pH gs st.bx,[],st.gen⟩ ⟨G.box,fun _=>none⟩ tmps w':=
 { size:=h.size
   frame:=fun t a M=>by rw[DY] at M;obtain⟨a',O,rfl⟩:=χ.1 M;obtain⟨v,hv,I⟩:=h.frame t a' O;exact⟨v,hv,GL (E:=br C G st.gen w) rfl rfl I⟩
   box:=fun g cells hc=>by
    obtain⟨J,c0,h0,rfl⟩:=rk hc;obtain⟨b,cs,T,q1,q2,q3,q4,q5⟩:=h.box g c0 h0;have U:b < w.heap.size:=(h.gbox g b q1).2.1;have hn:¬ (gu G gs b∨∃ lim,fk G os b lim):=by
     rintro(⟨X,N,ad⟩ | ⟨lim,X,N,r,I,hra⟩)
     ·have e:=h.inj _ _ _ ad q1
      subst e;have:=List.any_eq_false.1 J X N;simp at this
     ·exact(h.rowAt I hra).2.1 g q1
    refine⟨b,cs,T,q1,(h1.block b U hn).trans q2,by simpa using q3,q4,fun i u a hu M=>?_⟩;rw[τ] at M;obtain⟨a0,ai,rfl⟩:=χ.1 M;exact uN (q5 i u a0 hu ai)
   gbox:=fun g b J=>⟨(h.gbox g b J).1,ψ (h.gbox g b J).2.1 h1.size,(h.gbox g b J).2.2⟩
   inj:=h.inj,live:=fun g J=>by simp at J,gown:=fun g r I=>by simp at I,row:=fun g b len cap sz aj I=>by simp at I,mrow:=fun g b bs I=>by simp at I,sub:=fun g b bs c lim I=>by simp at I,gcell:=fun g b hb=>nE h1.ty (h.gcell g b hb),xold:=h.xold,kold:=h.kold,lent:=h.lent,fr:=h.FA h1 }
end
section
variable{n:Nat}{rest:List Oper}
theorem WO.sH[dG P][GC P C](O:o.guard=none){N}(ho:o.op=.call ⟨.value x,xs,N⟩){I}(hx:av st.f x=some (.clo fid caps))(ar:l7 st.f xs.toList=some I)(gs os:List Nat)(a1:nodupB gs=true)(a6:nodupB os=true)(a7:(os.all fun g=>st.lv.any fun h=>Nat.beq h g)=true){b0 v}(hf:jW P fid args b0 m v)(U:(I++caps).map (eV st.bx gs os 5)=args)(hb:iH st.bx gs os gs=some b0)(hm:os.length=m)(h:Q (hU v) ⟨AQ st.f,pH gs st.bx,[],st.gen⟩):WO P C n ops Q (o::rest) st:=by
 subst hm;subst U;intro tmps w ⟨G,hs⟩;simp only[fW,Region.wanted,O,if_true];obtain⟨fn,a8,J,M⟩:=hf.ok;have X:=hs.av hx;rw[<-Act.j8 tmps C.ds []]at X;generalize hv:Act.eval ⟨tmps,C.ds⟩ x=v' at X
 cases X with
 |clo _ vs _ b2 hcd=>
 obtain⟨h1,h2⟩:=kS hs xs.toList I ar;rw[<-Act.j8 tmps C.ds []]at h2;have ad:(execOp (Act.eval ⟨tmps,C.ds⟩) o).run P w=.ok (.enter fid (xs.map (Act.eval ⟨tmps,C.ds⟩)++vs)) w:=by unfold execOp;rw[ho];show Sem.run P (do let d←resolve (Act.eval ⟨tmps,C.ds⟩) ⟨.value x,xs,N⟩ o.type;invoke d.target d.args) w=_;simp only[resolve,hv,Deferred.ofValue,Sem.run_bind,Sem.run_pure,Result.andThen_ok,invoke,callFunc,run_program,a8,J,M,N',if_false,Array.empty_append]
 obtain⟨hlen,ai⟩:=hs.oK (gs:=gs) (os:=os) (fM a1) (fM a6) (fun g O=>by obtain⟨y,hy,he⟩:=L'.1 (M'.1 a7 g O);exact Θ he▸hy) hb;have ch:=(jG hb).1;unfold Oper.wp;rw[ad];refine(hf.calls (fH C G w gs os) (iY G gs os) _ w (GC.wm hs) rfl hlen rfl (uH rfl) ai (by simp at h1;simp[b2,h1]) (fun i u a hu ha=>?_)).mono fun e w'⟨he,h3⟩=>?_
 ·simp only[τ,χ]at ha
  obtain⟨y,hy,rfl⟩:=ha;refine bG.oK hs gs os (by omega) 5 u y ?_;simp only[Array.getElem?_append]at hu;split at hu
  ·rename_i b3
   simp only[Array.size_map]at b3;have aj:i<I.length:=by simp at h1;omega
   rw[y' aj]at hy;grind
  ·grind
 ·subst he
  exact⟨rfl,_,⟨_,hs.K5 h3⟩,h⟩
end
section
variable{n:Nat}{rest:List Oper}
variable{bx:List (Nat×List A)}{gen:Nat}{op:Op}{pos:String}{af:Array Edge}
theorem sH[dG P][GC P C]{M I N v}(gs os:List Nat)(hx:av f x=some (.clo fid caps))(O:l7 f xs.toList=some I)(J:(I++caps).map (eV bx gs os 5)=args)(hb:iH bx gs os gs=some N)(hm:os.length=m)(hf:jW P fid args N m v)(U:nodupB gs=true)(X:nodupB os=true)(ad:(os.all fun g=>lv.any fun h=>Nat.beq h g)=true)(h:Q (hU v) ⟨AQ f,pH gs bx,[],gen⟩):
 WO P C n ops Q (⟨dst,.call ⟨.value x,xs,M⟩,ty,pos,af,none⟩::rest) ⟨f,bx,lv,gen⟩:=
 WO.sH (st:=⟨f,bx,lv,gen⟩) rfl rfl hx O gs os U X ad hf J hb hm h
theorem JF(M:av f x=some (.d (.v .nilIface)))(hB:ns P t=true):
 Pu P C n ⟨f,bx,lv,gen⟩ ⟨dst,.binOp .neq t x (.const .nilIface) t',ty,pos,af,none⟩ (.d (.v (.bool false))):=by
 obtain⟨ms,hu⟩:=nz hB;refine aq fun G tmps w hs=>?_;have I:=hs.av M;generalize J:Act.eval ⟨tmps,[]⟩ x=vx at I;cases I with|d I=>cases I with|v _ _=>
 refine⟨.bool false,?_,.d (.v _ Z)⟩;unfold execOp;show Sem.run P _ w=_;have he:(Act.eval ⟨tmps,[]⟩ (Operand.const Value.nilIface))=Value.nilIface:=rfl;simp only[J,he,eqGuard,binOp];simp[xv w hu];rfl
theorem Lc{u v}(M:av f x=some (.d (.v (.iface u v))))(hB:ns P t=true):
 Pu P C n ⟨f,bx,lv,gen⟩ ⟨dst,.binOp .neq t x (.const .nilIface) t',ty,pos,af,none⟩ (.d (.v (.bool true))):=by
 obtain⟨ms,hu⟩:=nz hB;refine aq fun G tmps w hs=>?_;have I:=hs.av M;generalize J:Act.eval ⟨tmps,[]⟩ x=vx at I;cases I with|d I=>cases I with|v _ _=>
 refine⟨.bool true,?_,.d (.v _ Z)⟩;unfold execOp;show Sem.run P _ w=_;have he:(Act.eval ⟨tmps,[]⟩ (Operand.const Value.nilIface))=Value.nilIface:=rfl;simp only[J,he,eqGuard,binOp];simp[AO w hu];rfl
theorem Fo(T:cT P){l:List Value}(U:bk T.l t=some M)(X:M.k.agg=true)(N:∀v∈l,dn v=true)(I:av f x=some (.d (.v (.iface t (.agg l.toArray))))):Pu P C n ⟨f,bx,lv,gen⟩ ⟨dst,.typeAssert x i t true,ty,pos,af,none⟩ (.tup [.ag (l.map D.v),.d (.v (.bool true))]):=by
 refine aq fun G tmps w hs=>?_;have J:=hs.av I;generalize hv:Act.eval ⟨tmps,[]⟩ x=v at J
 cases J with
 |d J=>
 have hok:dn (.iface t (.agg l.toArray))=true:=by cases J with|v _ h=>exact h
 have J:=uP J;subst J;obtain⟨u,hu,ad⟩:∃u,P.underlying t=some u∧(match u with|.interface _=>false|_=>true)=true:=by
  have:=T.isAgg U w;unfold isAgg at this
  cases hu:P.underlying t with
  |none=>simp[underlying,hu]at this
  |some u=>refine⟨u,rfl,?_⟩;cases u<;>first|rfl|(simp[underlying,hu,X]at this)
 refine⟨.tuple #[.agg l.toArray,.bool true],?_,?_⟩
 ·unfold execOp
  simp only[hv,Instr.typeAssert,Sem.run_bind,run_underlying hu,Result.andThen_ok,Sem.run_pure];cases u<;>simp_all
 ·refine .tup _ _ Z fun k u x hu I=>?_
  match k with
  |0=>
    simp at hu I;subst hu;subst I;refine .ag _ _ (by simp) fun k u x hu I=>?_;simp only[τ,χ]at I;obtain⟨y,O,rfl⟩:=I;have hu:l[k]?=some u:=by simpa using hu
    rw[hu]at O;cases O;exact .v _ (N u (ζ hu))
  |1=>simp at hu I;subst hu;subst I;exact .d (.v _ rfl)
  |k+2=>simp at hu
end
/-! ### the end of a function whose results are cells -/
theorem He(T:cT P){n r l}(hs:bq C n st G tmps w)(J:C.bx=[])(I:fn.results=(rs.map RV.var).toArray)(hl:lY T st.f st.bx rs=some l)(M:norm [] (bO l)=r):
 ∃v,(results fn tmps).run P w=.ok v w∧∃v1 N,Ending.returned v=.returned v1∧bq C 0 ⟨[],[],List.range 0,0⟩ N #[] w∧bG (br C N 0 w) v1 r:=by
 obtain⟨vs,O,U,X⟩:=mI T hs rs l hl;refine⟨_,js I O,_,⟨fun _=>none,fun _=>none⟩,rfl,?_,?_⟩
 ·exact{size:=rfl,frame:=fun t a ha=>by simp[look]at ha,box:=fun g cells hc=>by simp[bk]at hc,gbox:=fun g b hb=>by simp at hb,inj:=fun g g' b hb=>by simp at hb,
          live:=fun g hg=>by simp at hg,gown:=fun g r I=>by simp at I,row:=fun g b len cap sz ad I=>by simp at I,mrow:=fun g b bs I=>by simp at I,sub:=fun g b bs c lim I=>by simp at I,gcell:=fun g b hb=>by simp at hb,xold:=hs.xold,kold:=hs.kold,lent:=fun i b hb=>by rw[J]at hb;simp at hb,fr:=hs.fr}
 ·rw[<-M]
  refine aE (order:=[]) (E:=br C G st.gen w) (E2:=br C ⟨fun _=>none,fun _=>none⟩ 0 w) (fun b o u hu hn=>⟨hu,fun hp=>hn ?_⟩) (fun g r' hg ai=>?_) (by simp[br]) (oR U X)
  ·rcases(hp:cr C ⟨fun _=>none,fun _=>none⟩ b o)with hp|⟨g,hp⟩|⟨g,len,cap,sz,ad,hp,hle⟩|⟨g,b',bs,lim,hp,_⟩
   ·exact Or.inl hp
   ·cases hp
   ·cases hp
   ·cases hp
  ·cases ai
theorem sI.F5{n B}{y:Code}{bx gen pos af M}(N:av f x=some (.clo fid [.ptr 0 0,.ptr 1 0,.ptr 2 0]))(h:∀I b1 J tmps w G,bq C n ⟨f,bx,lv,gen⟩ G tmps w->G.box 0=some I->G.box 1=some b1->G.box 2=some J->y.wp P B ⟨tmps,uy fid I b1 J::C.ds⟩ w):sI P C n ops (Exit.then (y.wp P B) B) [⟨none,.defer ⟨.value x,#[],M⟩,ty,pos,af,none⟩] ⟨f,bx,lv,gen⟩:=
 aN (st:=⟨f,bx,lv,gen⟩) rfl rfl rfl N fun I b1 J tmps w G hs O U X=>h I b1 J tmps w G hs O U X
theorem vZ(T:cT P){n}{M:St}{G2 O I w2 N aj ar b0 b1 b2 r l U s1 s2 bx'}(ai:C.bx=[])(X:bq {C with bx:=[b0,b1,b2],ds:=aj} n M G2 I w2)(k0:look M.f U=some (.ptr 0 0))(k1:look M.f s1=some (.ptr 1 0))(k2:look M.f s2=some (.ptr 2 0))(ad:bq {C with bx:=[b0,b1,b2],ds:=ar} 0 ⟨[],bx',[],gen'⟩ O #[] N)(hr:fn.results=(rs.map RV.var).toArray)(hl:lY T [(U,.ptr 0 0),(s1,.ptr 1 0),(s2,.ptr 2 0)] bx' rs=some l)(a1:norm [] (bO l)=r):
 ∃v,(results fn I).run P N=.ok v N∧∃v1 O,Ending.returned v=.returned v1∧bq C 0 ⟨[],[],List.range 0,0⟩ O #[] N∧bG (br C O 0 N) v1 r:=by
 have key:∀(i b s:Nat),[b0,b1,b2][i]?=some b->look M.f s=some (.ptr i 0)->∃v,I[s]?=some v∧bG (br C O gen' N) v (.ptr i 0):=by
  intro i b s hb hk;obtain⟨v,hv,hr⟩:=X.frame s _ hk;refine⟨v,hv,?_⟩
  cases hr with
  |ptr _ _ _ b' _ h1 h2=>
    have e:b'=b:=by have h3:=X.lent i b hb;have h1:G2.box i=some b':=h1;grind
    subst e;have h4:=ad.lent i b' hb;exact .ptr _ _ _ b' (ad.gbox i b' h4).1 h4 h2
 have a6:bq C n ⟨[(U,.ptr 0 0),(s1,.ptr 1 0),(s2,.ptr 2 0)],bx',[],gen'⟩ O I N:=by
  have h5:=ad.AA (bs:=C.bx) (ds:=C.ds) (fun i b hb=>by rw[ai]at hb;simp at hb);exact{h5 with
   size:=X.size
   frame:=fun t a J=>by
    have J:look [(U,A.ptr 0 0),(s1,A.ptr 1 0),(s2,A.ptr 2 0)] t=some a:=J;rw[cv,cv,cv]at J;split at J
    ·rename_i e
     cases J;exact e▸key 0 b0 U rfl k0
    ·split at J
     ·rename_i e
      cases J;exact e▸key 1 b1 s1 rfl k1
     ·split at J
      ·rename_i e
       cases J;exact e▸key 2 b2 s2 rfl k2
      ·simp[look]at J}
 exact He T a6 ai hr hl a1
theorem bp.Lj[dG P]{f c n r}(O:P.funcs[f]?=some fn)(M:(fn.name== "runtime.NumGoroutine")=false)(hb:fn.body=some c)(X:fn.ntmps=n)(hlen:Nat.ble args.length n=true)(h:∀C,NB C 0->GC P C->C.bx=[]->C.ds=[]->
  W' P C n c (bodyPostD P fn fun e w'=>∃v U,e=.returned v∧bq C 0 ⟨[],[],List.range 0,0⟩ U #[] w'∧bG (br C U 0 w') v r) ⟨jL 0 args,[],[],0⟩):bp P f args r 0:=by
 have hlen:=κ hlen;refine⟨⟨fn,O,M,by rw[hb];rfl⟩,fun C I w hG hw hp hx ad N=>?_⟩;subst hw;refine calls_of_wp_defers O hb (tN hp.2.2.2 (h C ⟨by rw[hp.2.2.1];rfl⟩ hG hp.2.2.1 hp.2.2.2 (I++Array.replicate (fn.ntmps-I.size) undef) C.w0 ⟨G0,?_⟩))
 refine{size:=by simp[X];omega,frame:=fun t a ha=>?_,box:=fun g cells hc=>by simp[bk]at hc,gbox:=fun g b hb=>by simp[G0]at hb,inj:=fun g g' b hb=>by simp[G0]at hb,
          live:=fun g hg=>by simp at hg,gown:=fun g r J=>by simp[G0]at J,row:=fun g b len cap sz ai J=>by simp[G0]at J,mrow:=fun g b bs J=>by simp[G0]at J,sub:=fun g b bs c lim J=>by simp[G0]at J,gcell:=fun g b hb=>by simp[G0]at hb,xold:=fun b o hb=>⟨hx b o hb,hp.1 b⟩,kold:=fun b o hb=>absurd hb (hp.2.1 b o),lent:=fun i b hb=>by rw[hp.2.2.1]at hb;simp at hb,
          fr:=⟨rfl,rfl,rfl,ω _,fun _ _ _=>rfl,fun _ _ _ hb=>absurd hb (hp.2.1 _ _),eW.refl _⟩}
 obtain⟨_,h1⟩:=jb args 0 t a ha;have h2:t<args.length:=(δ.1 (by simpa using h1)).1;have h3:t<I.size:=by omega
 have h4:I[t]?=some I[t]:=by simp[h3]
 exact⟨I[t],by rw[Array.getElem?_append_left h3];exact h4,N t _ a h4 (by simpa using h1)⟩
/-! ### a deferred closure that asks for the panic's value -/
section
variable{Q:Exit→Act→List Frame→World→Prop}{rest:List Nat}{a:Act}{cs:List Frame}
theorem sM{I:Array Value}{ds}(N:ops[i]?=some o)(O:o.guard=none)(M:o.op=.call ⟨.builtin .recover,#[],#[]⟩)(hd:o.dst=some d)(h:match recoverD cs with|some (v,cs')=>wpOpsS P ops Q rest ⟨I.setIfInBounds d v,ds⟩ cs' w|none=>wpOpsS P ops Q rest ⟨I.setIfInBounds d .nilIface,ds⟩ cs w):wpOpsS P ops Q (i::rest) ⟨I,ds⟩ cs w:=by
 simp only[wpOpsS,N,Region.wanted,O,if_true];have J:(execOp (Act.eval ⟨I,ds⟩) o).run P w=.ok .recover w:=by unfold execOp;rw[M];simp[resolve,invoke,builtin,Sem.run_bind,Sem.run_pure]
 rw[J,hd];exact h
theorem xM{I:Array Value}{ds v}(M:ops[i]?=some o)(N:o.guard=none)(O:o.op=.assign (.tmp d0))(hd:o.dst=some d)(U:I[d0]?=some v)(h:wpOpsS P ops Q rest ⟨I.setIfInBounds d v,ds⟩ cs w):wpOpsS P ops Q (i::rest) ⟨I,ds⟩ cs w:=by
 simp only[wpOpsS,M,Region.wanted,N,if_true];have he:Act.eval ⟨I,ds⟩ (.tmp d0)=v:=by show I.getD d0 undef=v;simp_all
 have J:(execOp (Act.eval ⟨I,ds⟩) o).run P w=.ok (.value v) w:=by unfold execOp;simp_all
 rw[J];show Oper.upon P o ⟨I,ds⟩ (fun a' w'=>wpOpsS P ops Q rest a' cs w') (fun e a' w'=>Q e a' cs w') (.ok (.value v) w);rw[Oper.upon_value,hd];exact h
theorem Au(h:Q .normal a cs w):wpOpsS P ops Q [] a cs w:=h
end
end
def yz:Obj->Bool
 |.cells ..=>true
 |.map ..=>true
 |_=>false
theorem Cq{o u}(h:cellAt w b o=some u):∃cs T f,w.heap[b]?=some (.cells cs T f)∧cs[o]?=some u:=by unfold cellAt World.cell? at h;grind
section
variable{n:Nat}
theorem bq.agree(h:bq C n st G tmps w)(e1:w'.os=w.os)(e2:w'.tape=w.tape)(e3:w'.output=w.output)(ad:w.heap.size<=w'.heap.size)(J:∀(b:Nat)(o:Obj),w.heap[b]?=some o->yz o=true->w'.heap[b]?=some o)(hold:∀b,b<C.w0.heap.size->¬C.fp b->w'.heap[b]?=w.heap[b]?):bq C n st G tmps w':=by
 have M:∀{b o:Nat}{u:Value},Ab.cellAt w b o=some u->Ab.cellAt w' b o=some u:=fun{b o u} hu=>by obtain⟨cs,T,f,h1,h2⟩:=Cq hu;rw[cU (J b _ h1 Z)];exact h2
 have N:eW w w':=fun b cs T f h=>⟨cs,f,J b _ h rfl⟩;have U:Fr C w':=⟨e1.trans h.fr.os,e2.trans h.fr.tape,e3.trans h.fr.output,B' h.fr.size ad,fun b h1 h2=>(hold b h1 h2).trans (h.fr.block b h1 h2),fun b o u ai hu=>M (h.fr.cells b o u ai hu),h.fr.ty.trans N⟩;have hle:(br C G st.gen w).le (br C G st.gen w'):=mA h.fr U (fun b o u hu hn=>⟨M hu,hn⟩) (fun _ _ h=>h) (fun _ _ _ h=>h) (ω _) (fun g b len cap sz O _ I=>by
  obtain⟨_,_,_,cur,T,h3,_⟩:=h.row g b len cap sz O I;rw[h3];exact J b _ h3 rfl) (fun g b bs _ I=>⟨fun c X=>by
   subst X;obtain⟨_,_,_,me,clock,h3⟩:=h.mrow g c bs I;rw[h3];exact J c _ h3 rfl,fun p hp=>by
   obtain⟨_,_,_,_,cur,T,h3,_⟩:=h.sub g b bs p.1 p.2 I hp;rw[h3];exact J p.1 _ h3 rfl⟩) N
 refine{size:=h.size,frame:=h.e9 hle,inj:=h.inj,live:=h.live,gown:=h.gown,xold:=h.xold,kold:=h.kold,lent:=h.lent,fr:=U,gcell:=fun g b hb=>nE N (h.gcell g b hb),box:=?_,gbox:=?_,row:=?_,mrow:=?_,sub:=?_}
 ·intro g cells X
  obtain⟨b,cs,T,h1,h2,h3,h4,h5⟩:=h.box g cells X;exact⟨b,cs,T,h1,J b _ h2 rfl,h3,h4,fun i u a hu ha=>(h5 i u a hu ha).mono hle⟩
 ·intro g b hb
  obtain⟨h1,h2,h3⟩:=h.gbox g b hb;grind
 ·intro g b len cap sz O I
  obtain⟨h1,h2,h3,cur,T,h4,h5⟩:=h.row g b len cap sz O I;exact⟨h1,h2,h3,cur,T,J b _ h4 rfl,h5⟩
 ·intro g b bs I
  obtain⟨h1,h2,h3,me,clock,h4⟩:=h.mrow g b bs I;exact⟨h1,h2,h3,me,clock,J b _ h4 rfl⟩
 ·intro g b bs c lim I hm
  obtain⟨h1,h2,h3,h4,cur,T,h5,h6⟩:=h.sub g b bs c lim I hm;exact⟨h1,h2,h3,h4,cur,T,J c _ h5 rfl,h6⟩
/-! ### the walk begun anew in the world that is -/
def xn(G:Gh)(b:Nat):Prop:=(∃g,G.box g=some b)∨∃g r lim,G.own g=some r∧r.ru b lim
def uc(C:Ctx)(G:Gh)(w:World)(ds:List Deferred):Ctx:={w0:=w,fp:=xn G,x:=C.x,keep:=C.keep,bx:=[],ds:=ds}
theorem bq.kI(h:bq C n st G tmps w)(J:xn G b):C.w0.heap.size<=b∨C.fp b:=by
 rcases J with⟨g,I⟩|⟨g,r,lim,I,M⟩
 ·exact(h.gbox g b I).2.2.1
 ·exact(h.rowAt I M).1.1
theorem bq.JS(h:bq C n st G tmps w)(ds):bq (uc C G w ds) n st G tmps w:=by
 have O:Fr (uc C G w ds) w:=⟨rfl,rfl,rfl,ω _,fun _ _ _=>rfl,fun _ _ _ _ h=>h,.refl w⟩;have hle:(br C G st.gen w).le (br (uc C G w ds) G st.gen w):=⟨fun b o u hu X=>⟨hu,X⟩,fun b o u hu U=>⟨hu,eh hu,fun J=>(h.kI J).elim (fun h1=>by have:=U.1;omega) U.2⟩,fun _ _ h=>h,fun _ _ _ h=>h,ω _,fun _ _ _ _ _ _ _ _=>rfl,fun _ _ _ _ _=>⟨fun _ _=>rfl,fun _ _=>rfl⟩,eW.refl _⟩;refine{size:=h.size,frame:=fun t a N=>?_,inj:=h.inj,live:=h.live,gown:=h.gown,xold:=?_,kold:=?_,lent:=fun i b hb=>(by simp[uc]at hb),fr:=O,gcell:=h.gcell,box:=?_,gbox:=?_,row:=?_,mrow:=?_,sub:=?_}
 ·obtain⟨v,h1,h2⟩:=h.frame t a N
  exact⟨v,h1,h2.mono hle⟩
 ·intro g cells J
  obtain⟨b,cs,T,h1,h2,h3,h4,h5⟩:=h.box g cells J;exact⟨b,cs,T,h1,h2,h3,h4,fun i u a hu N=>(h5 i u a hu N).mono hle⟩
 ·intro g b hb
  obtain⟨h1,h2,h3⟩:=h.gbox g b hb;exact⟨h1,h2,.inr (.inl ⟨g,hb⟩),h3.2⟩
 ·intro g b len cap sz M I
  obtain⟨h1,h2⟩:=h.row g b len cap sz M I;exact⟨⟨.inr (.inr ⟨g,_,M,I,rfl,rfl⟩),h1.2⟩,h2⟩
 ·intro g b bs I
  obtain⟨h1,h2⟩:=h.mrow g b bs I;exact⟨⟨.inr (.inr ⟨g,_,0,I,Or.inl ⟨rfl,rfl⟩⟩),h1.2⟩,h2⟩
 ·intro g b bs c lim I hm
  obtain⟨h1,h2⟩:=h.sub g b bs c lim I hm;exact⟨⟨.inr (.inr ⟨g,_,lim,I,Or.inr hm⟩),h1.2⟩,h2⟩
 ·intro b o hx
  obtain⟨h1,h2⟩:=h.xold b o hx;exact⟨ψ h1 h.fr.size,fun J=>(h.kI J).elim (fun h3=>by omega) h2⟩
 ·intro b o hk
  exact ψ (h.kold b o hk) h.fr.size
theorem bq.Gp[dG P][hC:GC P C](h:bq C n st G tmps w)(ds):GC P (uc C G w ds):=by
 obtain⟨W,h1,h2,h3⟩:=hC.h;refine⟨W,h1,B' h2 h.fr.size,fun b hb=>⟨(h.fr.block b (ψ hb h2) (h3 b hb).2).trans (h3 b hb).1,fun I=>?_⟩⟩;rcases h.kI I with h4|h4
 ·omega
 ·grind
mutual
def mW:A->Bool
 |.row _=>false
 |.agg l=>nu l
 |.tup l=>nu l
 |.clo _ l=>nu l
 |.bnd _ l=>nu l
 |_=>true
def nu:List A->Bool
 |[]=>true
 |a::l=>mW a&&nu l
end
theorem kQ:∀{l:List A},nu l=true->∀a∈l,mW a=true
 |[],_,_,h=>by cases h
 |b::l,h,a,I=>by
   simp only[nu,ρ]at h
   cases I with
   |head=>exact h.1
   |tail _ I=>exact kQ h.2 a I
def pj(st:St):Bool:=st.f.all (fun x=>mW x.2)&&st.bx.all (fun x=>nu x.2)
theorem bG.JB(hw:E.w=E'.w)(hp:E.pv=E'.pv)(ad:E.box=E'.box)(X:E.own=E'.own)(ai:E.gen=E'.gen){v}(h:bG E v a)(O:mW a=true):bG E' v a:=by
 obtain⟨w',ch,aj,b0,b2,gen'⟩:=E';obtain⟨w0,a6,b3,ar,a1,gen0⟩:=E;simp only at hw hp ad X ai;subst hw;subst hp;subst ad;subst X;subst ai
 induction h with
 |any x=>exact .any x
 |d hd=>exact .d hd
 |ag vs l hs hd=>exact .ag vs l hs hd
 |own x g es hd M U=>exact .own x g es hd M U
 |agg vs l hs hone _ N=>exact .agg vs l hs hone (fun i u x hu J=>N i u x hu J (kQ (by simpa[mW]using O) x (ζ J)))
 |tup vs l hs _ N=>exact .tup vs l hs (fun i u x hu J=>N i u x hu J (kQ (by simpa[mW]using O) x (ζ J)))
 |rowd b off l u hc hd=>exact .rowd b off l u hc hd
 |row b off l u hc _ _=>simp[mW]at O
 |ptr x g off b M hb hp=>exact .ptr x g off b M hb hp
 |xs x g es M h1 J=>exact .xs x g es M h1 J
 |xp x g i off l M h1 J=>exact .xp x g i off l M h1 J
 |mp x g es M h1 J=>exact .mp x g es M h1 J
 |mq x g es M h1 J=>exact .mq x g es M h1 J
 |mo x g es hole ob M h1 J=>exact .mo x g es hole ob M h1 J
 |ni t x=>exact .ni t x
 |fl x es hd hc=>exact .fl x es hd hc
 |bf x g T s M h1 J=>exact .bf x g T s M h1 J
 |np x g T b M hb hT u J=>exact .np (E:=⟨w0,a6,aj,ar,a1,gen0⟩) x g T b M hb hT u J
 |sb x g n c b M hb hn J=>exact .sb x g n c b M hb hn J
 |fx x u g es ou J M hu X=>exact .fx x u g es ou J M hu X
 |ol x u g' E' g es J a7 a8 M hu=>exact .ol x u g' E' g es J a7 a8 M hu
 |ow x v g es hd M U=>exact .ow x v g es hd M U
 |gi x g I M U=>exact .gi x g I M U
 |lk x g n c b v M hb hn J=>exact .lk x g n c b v M hb hn J
 |clo f vs l hs _ N=>exact .clo f vs l hs (fun i u x hu J=>N i u x hu J (kQ (by simpa[mW]using O) x (ζ J)))
 |bnd f vs l hs _ N=>exact .bnd f vs l hs (fun i u x hu J=>N i u x hu J (kQ (by simpa[mW]using O) x (ζ J)))
theorem yr(h:look f t=some a):(t,a)∈f:=by
 induction f with
 |nil=>simp[look]at h
 |cons x r I=>grind[cv,List.mem_cons_self,List.mem_cons_of_mem]
theorem bq.KK(h:bq C n st G tmps w)(ad:C.bx=[]){ds O N}(I:bq (uc C G w ds) n st' O N w')(U:pj st'=true):bq C n st' O N w':=by
 simp only[pj,ρ,M']at U;have hm:∀{b lim},(uc C G w ds).jX b lim->C.jX b lim:=fun{b lim} hm=>⟨hm.1.elim (fun h1=>.inl (B' h.fr.size h1)) h.kI,hm.2⟩;have X:∀{v a},bG (br (uc C G w ds) O st'.gen w') v a->mW a=true->bG (br C O st'.gen w') v a:=fun J M=>bG.JB (E:=br (uc C G w ds) O st'.gen w') (E':=br C O st'.gen w') rfl rfl rfl rfl rfl J M;refine{size:=I.size,frame:=fun t a M=>?_,inj:=I.inj,live:=I.live,gown:=I.gown,xold:=h.xold,kold:=h.kold,lent:=fun i b hb=>(by rw[ad]at hb;simp at hb),gcell:=I.gcell,fr:=?_,box:=?_,gbox:=?_,row:=?_,mrow:=?_,sub:=?_}
 ·obtain⟨v,h1,h2⟩:=I.frame t a M
  exact⟨v,h1,X h2 (U.1 _ (yr M))⟩
 ·intro g cells hc
  obtain⟨b,cs,T,h1,h2,h3,h4,h5⟩:=I.box g cells hc;exact⟨b,cs,T,h1,h2,h3,h4,fun i u a hu M=>X (h5 i u a hu M) (kQ (U.2 _ (sh hc)) a (ζ M))⟩
 ·intro g b hb
  obtain⟨h1,h2,h3⟩:=I.gbox g b hb;grind
 ·intro g b len cap sz ai J
  obtain⟨h1,h2⟩:=I.row g b len cap sz ai J;grind
 ·intro g b bs J
  obtain⟨h1,h2⟩:=I.mrow g b bs J;grind
 ·intro g b bs c lim J aj
  obtain⟨h1,h2⟩:=I.sub g b bs c lim J aj;grind
 ·refine⟨I.fr.os.trans h.fr.os,I.fr.tape.trans h.fr.tape,I.fr.output.trans h.fr.output,B' h.fr.size I.fr.size,fun b h1 h2=>?_,fun b o u hk hu=>I.fr.cells b o u hk (h.fr.cells b o u hk hu),h.fr.ty.trans I.fr.ty⟩
  exact(I.fr.block b (ψ h1 h.fr.size) (fun hc=>(h.kI hc).elim (fun h3=>by omega) h2)).trans (h.fr.block b h1 h2)
end
/-! ### walks over which marks may stand on the deferred calls -/
abbrev Aq(D:Nat):Deferred:=⟨.collected D,#[]⟩
def wU(J:Nat)(ds:List Deferred)(w:World):Prop:=∃I:List Nat,ds=I.map Aq∧I.Nodup∧∀D∈I,J<=D∧w.heap[D]?=some (Obj.deferred (some []))
def HJ(C:Ctx)(n:Nat)(Q:Exit->St->Prop):Exit->Act->World->Prop:=fun e a w=>wU C.w0.heap.size a.defers w∧∃st,gA C n st a.tmps w∧Q e st
def Wd(P:Program)(C:Ctx)(n:Nat)(c:Code)(Q:Exit->St->Prop)(st:St):Prop:=∀tmps ds w,gA C n st tmps w->wU C.w0.heap.size ds w->c.wp P (HJ C n Q) ⟨tmps,ds⟩ w
def zw(P:Program)(C:Ctx)(n:Nat)(y:Code)(Q:Exit->St->Prop):Exit->St->Prop
 |.normal,s=>Wd P C n y Q s
 |e,s=>Q e s
def QN(Q:Exit->St->Prop):Exit->St->Prop:=fun e s=>pj s=true∧Q e s
def HK{ι:Type}(C:Ctx)(n:Nat)(S:ι->St)(I:ι->Nat)(m:Nat)(Q:Exit->St->Prop):Exit->St->Prop
 |.normal,s=>∃j,I j<m∧∀(tmps:Array Value)(w:World),gA C n s tmps w->gA C n (S j) tmps w
 |e,s=>Q e s
section
variable[dG P]{n:Nat}
theorem wU.kept{I ds}(h:wU I ds w)(M:∀D:Nat,w.heap[D]?=some (Obj.deferred (some []))->w'.heap[D]?=some (Obj.deferred (some []))):wU I ds w':=
 let⟨Ds,h1,h2,h3⟩:=h;⟨Ds,h1,h2,fun D J=>⟨(h3 D J).1,M D (h3 D J).2⟩⟩
theorem bq.DV(h:bq C n st G tmps w){D}{o:Obj}(J:w.heap[D]?=some o)(M:yz o=false):¬xn G D:=by
 rintro(⟨g,I⟩|⟨g,r,lim,I,N⟩)
 ·obtain⟨cs,T,f,h2⟩:=h.gcell g D I
  rw[J]at h2;cases h2;cases M
 ·cases r with
  |nil=>exact N.elim
  |zero _=>exact N.elim
  |blk b len cap sz O=>obtain⟨rfl,rfl⟩:=N;obtain⟨_,_,_,cur,T,h4,_⟩:=h.row g b len cap sz lim I;rw[J]at h4;cases h4;cases M
  |mp b bs=>
    rcases N with⟨rfl,rfl⟩|hm
    ·obtain⟨_,_,_,U,clock,h4⟩:=h.mrow g _ bs I
     rw[J]at h4;cases h4;cases M
    ·obtain⟨_,_,_,_,cur,T,h4,_⟩:=h.sub g b bs D lim I hm
     rw[J]at h4;cases h4;cases M
end
section
variable[dG P]{n:Nat}{c:Code}
theorem Wd.JN[GC P C](N:C.bx=[])(h:∀J,NB J 0->GC P J->W P J n c (QN Q) st):Wd P C n c Q st:=by intro tmps ds w ⟨G,hs⟩ O;refine wp_mono (h (uc C G w ds) ⟨rfl⟩ (hs.Gp ds) tmps w ⟨G,hs.JS ds⟩) ?_;rintro e ⟨t,d⟩ w' ⟨hd,st',⟨X,I⟩,U,hq⟩;have hd:d=ds:=hd;subst hd;refine⟨O.kept fun D M=>?_,st',⟨X,hs.KK N I U⟩,hq⟩;exact(I.fr.block D (θ.1 M).1 (hs.DV M rfl)).trans M
omit [dG P] in
theorem aK{x y}(h:Wd P C n x (zw P C n y Q) st):Wd P C n (.seq x y) Q st:=by
 intro tmps ds w hs M;refine wp_seq (wp_mono (h tmps ds w hs M) ?_);rintro e ⟨t,d⟩ w' ⟨hd,st',I,J⟩;cases e<;>simp only[zw]at J<;>simp only[Exit.then];·exact J t d w' I hd
 all_goals exact⟨hd,st',I,J⟩
theorem Wd.ki[GC P C](J:C.bx=[]){x y}(h:∀I,NB I 0->GC P I->W P I n x (QN (zw P C n y Q)) st):Wd P C n (.seq x y) Q st:=aK (Wd.JN J h)
omit [dG P] in
theorem Wd.block(h:Wd P C n c (QB id Q) st):Wd P C n (.block id c) Q st:=by
 intro tmps ds w hs M;refine wp_block (wp_mono (h tmps ds w hs M) ?_);rintro e ⟨t,d⟩ w' ⟨hd,st',J,I⟩;cases e<;>simp only[QB]at I<;>simp only[Exit.inBlock];case exit i=>
  split;·rename_i e;rw[if_pos e]at I;exact⟨hd,st',J,I⟩
  ·rename_i e;rw[if_neg e]at I;exact⟨hd,st',J,I⟩
 all_goals exact⟨hd,st',J,I⟩
omit [dG P] in
theorem Wd.conv(hle:∀(tmps:Array Value)(w:World),gA C n st tmps w->gA C n st' tmps w)(h:Wd P C n c Q st'):Wd P C n c Q st:=
 fun tmps ds w hs I=>h tmps ds w (hle tmps w hs) I
omit [dG P] in
theorem Wd.loop(S:ι->St)(X:ι->Nat)(hr:∀i,Wd P C n c (HK C n S X (X i) Q) (S i))(i:ι):Wd P C n (.loop c) Q (S i):=by
 intro tmps ds w hs U b k cs
 have key:∀(m:Nat)(i:ι)(tmps:Array Value)(ds:List Deferred)(w:World),X i=m->gA C n (S i) tmps w->wU C.w0.heap.size ds w->
  ∃e a' w',HJ C n Q e a' w'∧Arrives P (lone (b.at ⟨tmps,ds⟩ (.code c::.inLoop c::k)) cs w) b k cs e a' w':=by
  intro m
  induction m using Nat.strongRecOn with
  |_ m ih=>
    intro i tmps ds w hm hs U;obtain⟨e,⟨t1,d1⟩,O,⟨hd,M,J,N⟩,I⟩:=hr i tmps ds w hs U b (.inLoop c::k) cs;simp only at hd
    cases e with
    |normal=>obtain⟨j,ai,aj⟩:=N;obtain⟨e2,a2,w2,ar,ad⟩:=ih (X j) (hm▸ai) j t1 d1 O rfl (aj t1 O J) hd;exact⟨e2,a2,w2,ar,.of_steps (Steps.trans I (.one step_inLoop)) ad⟩
    |exit id=>exact⟨_,⟨t1,d1⟩,O,⟨hd,M,J,N⟩,.pass (x:=.inLoop c) rfl (fun _ _=>.inl (by simp)) I⟩
    |goto l=>exact⟨_,⟨t1,d1⟩,O,⟨hd,M,J,N⟩,.pass (x:=.inLoop c) rfl (fun _ _=>.inl (by simp)) I⟩
    |ret=>exact⟨_,⟨t1,d1⟩,O,⟨hd,M,J,N⟩,.pass (x:=.inLoop c) rfl (fun _ _=>.inl (by simp)) I⟩
    |panic ch=>exact⟨_,⟨t1,d1⟩,O,⟨hd,M,J,N⟩,.pass (x:=.inLoop c) rfl (fun _ _=>.inl (by simp)) I⟩
    |outgrown=>exact⟨_,⟨t1,d1⟩,O,⟨hd,M,J,N⟩,.pass (x:=.inLoop c) rfl (fun _ _=>.inl (by simp)) I⟩
 obtain⟨e,a',w',N,I⟩:=key _ i tmps ds w rfl hs U;exact⟨e,a',w',N,.of_steps (.one step_loop) I⟩
theorem bq.sg(h:bq C n st G tmps w){r}{o:Obj}(J:w.heap[r]?=some o)(M:yz o=false)(N:C.w0.heap.size<=r)(o':Obj):bq C n st G tmps (w.putObj r o'):=
 h.agree rfl rfl rfl (by simp) (fun b x hb I=>by rw[World.putObj_heap_other (fun e=>by subst e;rw[J]at hb;cases hb;rw[M]at I;cases I)];exact hb) (fun b hb _=>World.putObj_heap_other (by omega))
theorem bq.drew(h:bq C n st G tmps w):bq C n st G tmps w.drew:=
 h.agree rfl rfl rfl (ω _) (fun _ _ hb _=>hb) (fun _ _ _=>rfl)
omit [dG P] in
theorem xS{R:Ending->World->Prop}:∀(I:List Nat)(w:World)(st:St)(G:Gh),bq C n st G tmps w->I.Nodup->(∀D∈I,C.w0.heap.size<=D∧w.heap[D]?=some (Obj.deferred (some [])))->
 (∀w' G,bq C n st G tmps w'->∃v,(results fn tmps).run P w'=.ok v w'∧R (.returned v) w')->LeavesInM Fence.wide m P fn tmps R (I.map Aq) .returning w
 |[],w,st,G,hs,_,_,h=>h w G hs
 |D::I,w,st,G,hs,hn,hD,h=>by obtain⟨h1,h2⟩:=hD D (by simp);rw[List.nodup_cons]at hn;refine⟨by simp,.inl ⟨D,_,rfl,run_takeDeferred h2,xS I _ st G (hs.sg h2 rfl h1 _) hn.2 (fun E J=>?_) h⟩⟩;obtain⟨h3,h4⟩:=hD E (by simp[J]);exact⟨h3,by rw[World.putObj_heap_other (fun e=>hn.1 (by rw[<-e];exact J))];exact h4⟩
theorem bp.Lq(T:cT P){f c n r}(X:P.funcs[f]?=some fn)(N:(fn.name== "runtime.NumGoroutine")=false)(hb:fn.body=some c)(hn:fn.ntmps=n)(J:fn.results=(rs.map RV.var).toArray)(hlen:Nat.ble args.length n=true)(h:∀C,C.bx=[]->GC P C->Wd P C n c (fun e st=>(match e with|.normal=>True|.ret=>True|_=>False)∧∃l,lY T st.f st.bx rs=some l∧norm [] (bO l)=r) ⟨jL 0 args,[],[],0⟩):bp P f args r 0:=by
 have hlen:=κ hlen;refine⟨⟨fn,X,N,by rw[hb];rfl⟩,fun C I w hG hw hp hx a1 U=>?_⟩;subst hw;refine callsIn_wide.1 (callsIn_of_wp_marks (F:=Fence.wide) (n:=0) X hb trivial ?_ Z);refine wpIn_wide.2<|wp_mono (h C hp.2.2.1 hG (I++Array.replicate (fn.ntmps-I.size) undef) [] C.w0 ⟨G0,?_⟩ ⟨[],rfl,List.nodup_nil,fun D hD=>by cases hD⟩) ?_
 ·refine{size:=by simp[hn];omega,frame:=fun t a ha=>?_,box:=fun g cells hc=>by simp[bk]at hc,gbox:=fun g b hb=>by simp[G0]at hb,inj:=fun g g' b hb=>by simp[G0]at hb,gcell:=fun g b hb=>by simp[G0]at hb,
           live:=fun g hg=>by simp at hg,gown:=fun g r J=>by simp[G0]at J,row:=fun g b len cap sz a6 J=>by simp[G0]at J,mrow:=fun g b bs J=>by simp[G0]at J,sub:=fun g b bs c lim J=>by simp[G0]at J,xold:=fun b o hb=>⟨hx b o hb,hp.1 b⟩,kold:=fun b o hb=>absurd hb (hp.2.1 b o),lent:=fun i b hb=>by rw[hp.2.2.1]at hb;simp at hb,
           fr:=⟨rfl,rfl,rfl,ω _,fun _ _ _=>rfl,fun _ _ _ hb=>absurd hb (hp.2.1 _ _),eW.refl _⟩}
  obtain⟨_,h1⟩:=jb args 0 t a ha;have h2:t<args.length:=(δ.1 (by simpa using h1)).1;have h3:t<I.size:=by omega
  have h4:I[t]?=some I[t]:=by simp[h3]
  exact⟨I[t],by rw[Array.getElem?_append_left h3];exact h4,U t _ a h4 (by simpa using h1)⟩
 ·rintro e ⟨tmps,df⟩ w' ⟨⟨Ds,hd,ad,ai⟩,st,⟨G,hs⟩,he,l,hl,aj⟩
  simp only at hd;subst hd
  have M:LeavesInM Fence.wide 0 P fn tmps (fun e w'=>∃v O,e=.returned v∧bq C 0 ⟨[],[],List.range 0,0⟩ O #[] w'∧bG (br C O 0 w') v r) (Ds.map Aq) .returning w':=
   xS Ds w' st G hs ad ai fun w2 G2 ar=>by obtain⟨v,h1,v1,O,h2,h3,h4⟩:=He T ar hp.2.2.1 J hl aj;exact⟨v,h1,v1,O,h2,h3,h4⟩
  cases e with
  |normal=>exact M
  |ret=>exact M
  |exit _=>exact he.elim
  |goto _=>exact he.elim
  |panic _=>exact he.elim
  |outgrown=>exact he.elim
end
/-! ### a range over slices.Chunk's iterator, where there is one chunk -/
def rY(P:Program)[dG P](n:Nat)(body:Code)(V:List (Nat×A))(I:List (List A))(m:Nat)(b1:List (List A))(k:Nat):Prop:=
 ∀(C:Ctx)(G:Gh)(tmps:Array Value)(w:World)(l q:Nat),GC P C->C.w0=w->C.bx.length=I.length->C.ds=[]->bq C n ⟨V,fQ 0 I,(List.range m).map (I.length+·),I.length+m⟩ G tmps w->
   body.wpIn (Fence.wide.inRound l) q P (fun e _ w'=>e=.normal∧∃J,bq C 0 ⟨[],fQ 0 b1,(List.range k).map (I.length+·),I.length+k⟩ J #[] w') ⟨tmps,[]⟩ w
def wM(P:Program)(fid:FuncId):Prop:=
 ∀(l:Nat)(W:World)(I J b1 o1:Nat)(a:Addr)(len cap:Nat)(R:World->Prop),cellAt W I J=some (.slice (some a) len cap)->cellAt W b1 o1=some (.int .i64 1000)->0<len->len<=1000->len<=cap->cap<=maxLen->
   YieldAt Fence.wide 0 P l #[.slice (some a) len len] W.drew (fun e W'=>e=.returned (.bool true)∧(∃a' M,cellAt W' I J=some (.slice a' len M))∧cellAt W' b1 o1=some (.int .i64 1000)∧R W')->
   Calls P fid #[.func (.yield l) #[] #[],.pointer (some ⟨I,J,none⟩),.pointer (some ⟨b1,o1,none⟩)] W fun e W'=>(∃v,e=.returned v)∧R W'
theorem E9{v}(h:b7 w pv v (.sl es))(hp:0<es.length):∃(a:Addr)(cap:Nat),v=.slice (some a) es.length cap∧es.length<=cap∧cap<=maxLen∧b7 w pv (.slice (some a) es.length es.length) (.sl es):=by
 cases h with
 |nil=>simp at hp
 |emp a cap hm=>simp at hp
 |sl b off len cap sz _ u hl I hm hs hu J=>subst hl;exact⟨_,cap,rfl,I,hm,.sl b off es.length es.length sz es u rfl (ω _) (by omega) hs hu J⟩
theorem xr{v}(h:b7 w pv v (.sl es)):∃(a:Option Addr)(cap:Nat),v=.slice a es.length cap:=by
 cases h with
 |nil=>exact⟨_,_,rfl⟩
 |emp a cap hm=>exact⟨_,_,rfl⟩
 |sl b off len cap sz _ u hl I hm hs hu J=>subst hl;exact⟨_,_,rfl⟩
theorem xh{n}(hs:bq C n st G tmps w){g x}(hg:av st.f g=some (.clo fid [.rowd [.sl es],.rowd [.v x]])):
 ∃J M b1 o1,Act.eval ⟨tmps,[]⟩ g=.func (.func fid) #[] #[.pointer (some ⟨J,M,none⟩),.pointer (some ⟨b1,o1,none⟩)]∧(∃u,cellAt w J M=some u∧b7 w (cr C G) u (.sl es))∧cellAt w b1 o1=some x:=by
 have N:=hs.av hg;generalize Act.eval ⟨tmps,[]⟩ g=v at N
 cases N with
 |clo _ vs _ I hcd=>
 have I:vs.size=2:=I;obtain⟨v0,v1,rfl⟩:∃v0 v1,vs=#[v0,v1]:=⟨vs[0],vs[1],by
  apply Array.ext;·simpa using I
  ·intro i h1 h2
   match i with
   |0=>rfl
   |1=>rfl
   |i+2=>simp at h2;omega⟩
 have r0:=hcd 0 v0 _ Z rfl;have r1:=hcd 1 v1 _ Z Z
 cases r0 with
 |rowd J M _ u0 O U=>
 cases r1 with
 |rowd b1 o1 _ u1 X ad=>
 refine⟨J,M,b1,o1,rfl,⟨u0 0,?_,U 0 _ rfl⟩,?_⟩
 ·have h1:=(O 0 (by simp)).1
  rw[Nat.add_zero]at h1;exact h1
 ·have h1:=(X 0 (by simp)).1
  have h2:=ad 0 _ rfl;generalize u1 0=y at h1 h2;rw[Nat.add_zero]at h1;cases h2 with|v _ _=>exact h1
section
variable[dG P][GC P C]{n:Nat}
theorem aV{g par pos af body}(hg:av st.f g=some (.clo fid [.rowd [.sl es],.rowd [.v (.int .i64 1000)]]))(hok:lx P fid)(hit:wM P fid)(dj:0<es.length)(e3:es.length<=1000)(dt:Nat.blt par n=true)(dx:Nat.blt d n=true)(gs os:List Nat)(ft:nodupB gs=true)(gb:nodupB os=true)(gd:(os.all fun g=>st.lv.any fun h=>Nat.beq h g)=true){V:List (Nat×A)}{N:List (List A)}(hb:iH st.bx gs os gs=some N)(hm:os.length=m)(hV:∀t a',look V t=some a'->∃a,look st.f t=some a∧eV st.bx gs os 5 a=a')(gj:(V.all fun x=>!Nat.beq x.1 par)=true)(df:rY P n body ((d,.d (.sl es))::V) N m b1 k)(gq:b1.length=N.length)(h:Q .normal ⟨st.f,ky gs st.gen gs b1++st.bx,(List.range k).map (N.length+·+st.gen)++st.lv.filter (fun g=>!os.any (Nat.beq g)),N.length+k+st.gen⟩):
 Wd P C n (.rangeFunc g #[par] (.region id #[⟨some d,.assign (.tmp par),ty,pos,af,none⟩] false) body) Q st:=by
 subst hm;intro tmps ds w ⟨G,hs⟩ ⟨Ds,ch,ha,ed⟩;have ch:ds=Ds.map Aq:=ch;subst ch;have dt:=κ dt;have dx:=κ dx;obtain⟨p0,o0,p1,o1,ei,⟨u0,hc,hf⟩,hh⟩:=xh hs hg;obtain⟨a,cap,rfl,hk,hq,hr⟩:=E9 hf dj;refine(wpIn_wide (n:=1)).1 (wpIn_rangeFunc ?_);intro fn _;obtain⟨rec,J⟩:∃rec:LoopState->Option Code->Loop,rec=fun s pe=>{state:=s,pending:=pe,fn,tmps:=tmps,params:=#[par],assign:=.region id #[⟨some d,.assign (.tmp par),ty,pos,af,none⟩] false,body,defers:=w.heap.size}:=⟨_,rfl⟩;obtain⟨I,aj⟩:∃I,(w.alloc (.deferred (some []))).alloc (.loop (rec .ready none))=I:=⟨_,rfl⟩;have cj:I.heap[w.heap.size+1]?=some (.loop (rec .ready none)):=by rw[<-aj];have:=World.alloc_heap_new (w.alloc (.deferred (some []))) (.loop (rec .ready none));rwa[World.size_alloc]at this
 have ar:Below w.heap.size w I:=by rw[<-aj];exact((Below.refl _ w).alloc (ω _) _).alloc (by simp) _
 have ht:I.heap[w.heap.size]?=some (.deferred (some [])):=by rw[<-aj];exact(Below.heap_alloc _ _ _ (by simp)).trans (World.alloc_heap_new w _)
 have hz:bq C n st G tmps I:=(hs.je ar).2;have hX:w.heap.size<=I.heap.size:=ar.size;have cl:∀{b o u},cellAt w b o=some u->cellAt I b o=some u:=fun{b o u} hu=>by rw[cS (ar.block b (eh hu))];exact hu
 have hA:=hs.fr.size
 refine⟨w.heap.size+1,[{target:=.collected w.heap.size,args:=#[]}],I,{target:=.fn (.func fid) #[.pointer (some ⟨p0,o0,none⟩),.pointer (some ⟨p1,o1,none⟩)],args:=#[.func (.yield (w.heap.size+1)) #[] #[]]},I,fid,
  #[.func (.yield (w.heap.size+1)) #[] #[]]++#[.pointer (some ⟨p0,o0,none⟩),.pointer (some ⟨p1,o1,none⟩)],I,?_,?_,?_,?_,fun _=>ω _,?_⟩
 ·rw[<-aj,J];exact run_enterLoop_outer _ _ _ _ _
 ·have e4:Act.eval ⟨tmps,Ds.map Aq⟩ g=.func (.func fid) #[] #[.pointer (some ⟨p0,o0,none⟩),.pointer (some ⟨p1,o1,none⟩)]:=by rw[Act.j8 tmps _ []];exact ei
  simp only[resolve,e4];simp[go_sem]
 ·intro f' _;trivial
 ·obtain⟨h6,e5,cq,cx⟩:=hok
  simp only[Sem.run_bind,Sem.run_pure,Result.andThen_ok,invoke,callFunc,run_program,e5,cq,cx,N',if_false]
 refine CallsIn.mono (callsIn_wide.2 (hit (w.heap.size+1) I p0 o0 p1 o1 a es.length cap
  (fun W'=>∃G',bq C n ⟨st.f,ky gs st.gen gs b1++st.bx,(List.range k).map (N.length+·+st.gen)++st.lv.filter (fun g=>!os.any (Nat.beq g)),N.length+k+st.gen⟩ G' tmps W'∧
   W'.heap[w.heap.size+1]?=some (.loop (rec .ready none))∧∀D:Nat,D≠w.heap.size+1->I.heap[D]?=some (Obj.deferred (some []))->W'.heap[D]?=some (Obj.deferred (some [])))
  (cl hc) (cl hh) dj e3 hk hq ?_)) ?_
 ·
  have hE:bq C n st G tmps I.drew:=hz.drew;have cy:I.drew.heap[w.heap.size+1]?=some (.loop (rec .ready none)):=cj;have hy:=run_yield (P:=P) (args:=#[.slice (some a) es.length es.length]) cy (by rw[J];rfl);rw[J]at hy;refine⟨fn,_,_,body,hy,roundIn_of_wpIn trivial ?_⟩;generalize a1:I.drew.putObj (w.heap.size+1) (.loop {rec .ready none with state:=.busy})=O;have ej:=run_beginRound (P:=P) cy (by rw[J]);rw[a1]at ej;have e6:w.heap.size+1<I.heap.size:=(θ.1 cj).1;have hF:O.heap[w.heap.size+1]?=some (.loop {rec .ready none with state:=.busy}):=by rw[<-a1];exact World.putObj_heap_same e6
  have a6:∀b,b≠w.heap.size+1->O.heap[b]?=I.heap[b]?:=fun b hb=>by rw[<-a1,World.putObj_heap_other hb];rfl
  have X:bq C n st G tmps O:=by rw[<-a1];exact hE.sg cy Z (by omega) _
  have ff:∀{b o u},cellAt w b o=some u->cellAt O b o=some u:=fun{b o u} hu=>by have:=cl hu;rw[cS (a6 b (fun e=>by have:=eh hu;omega))];exact this
  obtain⟨hlen,fj⟩:=X.oK (gs:=gs) (os:=os) (fM ft) (fM gb) (fun g hg=>by obtain⟨y,hy,he⟩:=L'.1 (M'.1 gd g hg);exact Θ he▸hy) hb;obtain⟨h7,h8⟩:=jG hb;have a7:tmps.size=n:=hs.size;obtain⟨tm,a8⟩:∃tm,(tmps.setIfInBounds par (.slice (some a) es.length es.length)).setIfInBounds d (.slice (some a) es.length es.length)=tm:=⟨_,rfl⟩;have di:bq (fH C G O gs os) n ⟨(d,.d (.sl es))::V,fQ 0 N,(List.range os.length).map (N.length+·),N.length+os.length⟩ (iY G gs os) tm O:=by
   refine{fj with size:=by rw[<-a8];simp[a7],frame:=fun t x hx=>?_};rw[cv]at hx;split at hx
   ·rename_i e
    subst e;cases hx;refine⟨.slice (some a) es.length es.length,by rw[<-a8,Array.getElem?_setIfInBounds_self_of_lt (by simp[a7];omega)],.d (hr.mono fun b o u hu hn=>⟨ff hu,fun hp=>hn (BA hp)⟩)⟩
   ·rename_i e
    obtain⟨y,hG,rfl⟩:=hV t x hx;have U:t≠par:=fun e2=>by subst e2;have:=M'.1 gj _ (yr hx);simp at this
    obtain⟨v,hv,hH⟩:=X.frame t y hG;exact⟨v,by rw[<-a8,Array.getElem?_setIfInBounds_ne e,Array.getElem?_setIfInBounds_ne (Ne.symm U)];exact hv,bG.oK X gs os (by show _<=N.length+os.length;omega) 5 v y hH⟩
  have fo:=df (fH C G O gs os) (iY G gs os) tm O (w.heap.size+1) 0 (GC.wm X) Z hlen Z di;have hw:∀(ops:Array Oper)(t:Array Value),Region.wanted ⟨some d,.assign (.tmp par),ty,pos,af,none⟩ (yielded ops t)=true:=fun _ _=>rfl;have hI:(tmps.setIfInBounds par (.slice (some a) es.length es.length))[par]?=some (.slice (some a) es.length es.length):=Array.getElem?_setIfInBounds_self_of_lt (by omega);have e0:(Array.foldl (fun(t:Array Value)(x:Nat×Value)=>t.setIfInBounds x.1 x.2) tmps ((#[par]:Array Nat).zip #[Value.slice (some a) es.length es.length]))=tmps.setIfInBounds par (.slice (some a) es.length es.length):=by simp
  show(Code.region _ _ _).wpIn _ _ P _ ⟨Array.foldl (fun(t:Array Value)(x:Nat×Value)=>t.setIfInBounds x.1 x.2) tmps ((#[par]:Array Nat).zip #[Value.slice (some a) es.length es.length]),[]⟩ _;rw[e0];refine wpIn_region ?_;show wpOpsIn _ _ P #[_] _ [0] _ _;simp only[wpOpsIn,List.getElem?_toArray,List.getElem?_cons_zero,hw,if_true];refine⟨fun _ _=>trivial,?_⟩;have hex:Sem.run P (Oper.semAt (Fence.wide.inRound (w.heap.size+1)).round (Act.eval ⟨tmps.setIfInBounds par (.slice (some a) es.length es.length),[]⟩) ⟨some d,.assign (.tmp par),ty,pos,af,none⟩) I.drew=.ok (.value (.slice (some a) es.length es.length)) I.drew:=by
   rw[Oper.semAt_eq _ _ _ (fun c h=>by cases h)];show Sem.run P (execOp _ _) _=_;simp only[execOp,Act.eval];have hJ:(tmps.setIfInBounds par (Value.slice (some a) es.length es.length)).getD par undef=.slice (some a) es.length es.length:=by rw[Array.getD_eq_getD_getElem?,hI];rfl
   rw[hJ];rfl
  rw[hex];show ∃hY,_;refine⟨O,ej,?_⟩;have hK:(Act.put ⟨tmps.setIfInBounds par (.slice (some a) es.length es.length),[]⟩ (some d) (.slice (some a) es.length es.length))=⟨tm,[]⟩:=by rw[<-a8];rfl
  show body.wpIn _ _ P _ (Act.put ⟨tmps.setIfInBounds par (.slice (some a) es.length es.length),[]⟩ (some d) (.slice (some a) es.length es.length)) O;rw[hK];refine wpIn_mono fo ?_;rintro e a3 W3 ⟨rfl,G3,b2⟩;obtain⟨G4,_,hL⟩:=X.zZ hb gq b2;have b3:∀{b:Nat}{o:Obj},O.heap[b]?=some o->yz o=false->W3.heap[b]?=some o:=fun{b o} c1 ho=>by
   refine(b2.fr.block b (θ.1 c1).1 (fun hl=>X.DV c1 ho ?_)).trans c1;rcases hl with⟨g',_,hM⟩|⟨lim,g',_,r,hN,hO⟩
   ·exact .inl ⟨g',hM⟩
   ·exact .inr ⟨g',r,lim,hN,hO⟩
  have c6:=b3 hF rfl;have hP:=run_endRound (P:=P) none c6;refine⟨_,_,hP,rfl,?_⟩;have en:=hL.sg c6 Z (by omega) (.loop {{rec .ready none with state:=LoopState.busy}with state:=if(none:Option Code).isNone then .ready else .done,pending:=none});obtain⟨q0,r0,q1,r1,ad,⟨u2,hQ,hR⟩,hS⟩:=xh en (g:=g) (fid:=fid) (es:=es) (x:=.int .i64 1000) hg;rw[ei]at ad;simp only[Value.func.injEq,true_and]at ad;have c7:=congrArg Array.toList ad;simp only[List.cons.injEq,Value.pointer.injEq,Option.some.injEq,Addr.mk.injEq,and_true]at c7;obtain⟨⟨rfl,rfl⟩,rfl,rfl⟩:=c7;obtain⟨a2,fs,rfl⟩:=xr hR;refine⟨⟨a2,fs,hQ⟩,hS,G4,en,?_,fun D U M=>?_⟩
  ·rw[J]
   exact World.putObj_heap_same (θ.1 c6).1
  ·rw[World.putObj_heap_other U]
   exact b3 (by rw[a6 D U];exact M) Z
 ·rintro e W3 ⟨⟨v,rfl⟩,G',b2,er,hT⟩
  have e1:=run_endLoop (P:=P) er (by rw[J];simp);rw[J]at e1;refine⟨none,_,e1,?_⟩;have U:∀D,I.heap[D]?=some (Obj.deferred (some []))->D≠w.heap.size+1:=fun D M e=>by rw[e,cj]at M;cases M
  have ai:∀D:Nat,I.heap[D]?=some (Obj.deferred (some []))->(W3.putObj (w.heap.size+1) (.loop {rec .ready none with state:=.exhausted})).heap[D]?=some (Obj.deferred (some [])):=fun D M=>by rw[World.putObj_heap_other (U D M)];exact hT D (U D M) M
  rw[J]at ai;refine⟨⟨w.heap.size::Ds,rfl,?_,fun D M=>?_⟩,_,⟨G',b2.sg er rfl (by omega) _⟩,h⟩
  ·rw[List.nodup_cons]
   refine⟨fun hm=>?_,ha⟩;have:=(θ.1 (ed _ hm).2).1;omega
  ·rcases C'.1 M with rfl|M
   ·exact⟨hA,ai _ ht⟩
   ·obtain⟨h1,h2⟩:=ed D M
    exact⟨h1,ai D (by rw[ar.block D (θ.1 h2).1];exact h2)⟩
end
def qt(o:Oper):Bool:=match o.op with|.defer _=>false|_=>true
section
variable{n:Nat}
theorem zF{q row args}(h:Rows P row args w R):RowsIn Fence.wide q P row args w R:=
 fun c cs _=>let⟨v,w',r,s⟩:=h c cs;⟨v,w',r,stepsIn_wide.2 s⟩
theorem Cp{a next next' Q}(h:o.wp P a w next Q)(I:∀a w,next a w->next' a w)(J:∀e a w,Q e a w->Q' e a w):o.wp P a w next' Q':=by
 unfold Oper.wp at h⊢;generalize(execOp a.eval o).run P w=res at h⊢
 cases res with
 |ok x w'=>
   cases x<;>simp only[Oper.upon]at h⊢;case value v=>exact I _ _ h
   case skip=>exact I _ _ h
   case defer d=>exact I _ _ h
   case enter f args=>
    refine h.mono fun e M he=>?_
    cases e with
    |returned v=>exact I _ _ he
    |panicked c=>exact J _ _ _ he
    |outgrown=>exact let⟨a,w,h⟩:=he;⟨a,w,J _ _ _ h⟩
   case row row args=>exact h.mono fun v M he=>I _ _ he
 |halt x w'=>cases x<;>simp only[Oper.upon]at h⊢;grind
theorem qR{Q}(I:∀e a w,Q e a w->Q' e a w):∀(l:List Oper)(a:Act)(w:World),fW P ops Q l a w->fW P ops Q' l a w
 |[],_,_,h=>I _ _ _ h
 |o::l,a,w,h=>by
   simp only[fW]at h⊢;split
   ·rename_i hw
    rw[if_pos hw]at h;exact Cp h (fun a w=>qR I l a w) I
   ·rename_i hw
    rw[if_neg hw]at h;exact qR I l _ _ h
theorem I1{r q a next next' Q}(M:qt o=true)(h:o.wp P a w next Q)(I:∀a w,next a w->next' a w):o.wpIn (Fence.wide.inRound r) q P a w next' Q:=by
 refine⟨fun _ _=>trivial,?_⟩;rw[Oper.semAt_eq _ _ _ (fun c O=>by simp[qt,O]at M)];unfold Oper.wp at h;generalize(execOp a.eval o).run P w=res at h⊢
 cases res with
 |ok x w'=>
   cases x<;>simp only[Oper.upon]at h<;>simp only[Oper.uponIn];case value v=>exact I _ _ h
   case skip=>exact I _ _ h
   case defer d=>exact I _ _ h
   case enter f args=>refine⟨fun J=>(by cases J),CallsIn.inRound r ((callsIn_wide.2 h).mono fun e N he=>?_)⟩;grind
   case row row args=>exact⟨fun J=>(by cases J),(zF (h.mono fun v N he=>I _ _ he):RowsIn Fence.wide (q-1) P row args w' _)⟩
 |halt x w'=>cases x<;>simp only[Oper.upon]at h<;>simp only[Oper.uponIn];grind
theorem Aj{r q Q}:∀(l:List Oper)(k:Nat),(∀j:Nat,l[j]?=ops[k+j]?)->(l.all qt=true)->∀(a:Act)(w:World),fW P ops Q l a w->wpOpsIn (Fence.wide.inRound r) q P ops Q (List.range' k l.length) a w
 |[],k,_,_,a,w,h=>by simpa[wpOpsIn,fW]using h
 |o::l,k,hl,hd,a,w,h=>by
   have h0:ops[k]?=some o:=by simpa using(hl 0).symm
   simp only[List.all_cons,ρ]at hd;simp only[Ξ,List.range'_succ,wpOpsIn,h0];simp only[fW]at h;have I:=fun a w=>Aj (r:=r) (q:=q) (Q:=Q) l (k+1) (fun j=>by have:=hl (j+1);simpa[Nat.add_assoc,Nat.add_comm 1 j]using this) hd.2 a w;split;·grind[I1]
   ·rename_i hw
    rw[if_neg hw]at h;exact⟨fun _ _=>trivial,I _ _ h⟩
end
def QR(b1:List (List A))(k:Nat)(st:St):Prop:=∃order,order.length=k∧nodupB (gp b1.length order)=true∧(∀g∈order,g∈st.lv)∧∀(i:Nat)(c:List A),b1[i]?=some c->∃c0,bk st.bx i=some c0∧ia (gp b1.length order) c0=c
theorem QR.mk(order:List Nat)(M:order.length=k)(I:nodupB (gp b1.length order)=true)(J:(order.all fun g=>st.lv.any fun h=>Nat.beq h g)=true)(hb:∀(i:Nat)(c:List A),b1[i]?=some c->∃c0,bk st.bx i=some c0∧ia (gp b1.length order) c0=c):QR b1 k st:=
 ⟨order,M,I,fun g N=>by obtain⟨x,O,he⟩:=L'.1 (M'.1 J g N);exact Θ he▸O,hb⟩
section
variable[dG P]{n:Nat}
theorem QR.Cj{I:List (List A)}(hs:bq C n st G tmps w)(hq:QR b1 k st)(O:C.bx.length=I.length)(J:b1.length=I.length):
 ∃G',bq C 0 ⟨[],fQ 0 b1,(List.range k).map (I.length+·),I.length+k⟩ G' #[] w:=by
 obtain⟨order,U,X,ad,ai⟩:=hq;have ar:(gp b1.length order).length=I.length+k:=by simp[gp,U,J]
 have M:∀i,i<C.bx.length->(gp b1.length order)[i]?=some i:=fun i hi=>by unfold gp;rw[y' (by simp;omega),List.getElem?_range (by omega)]
 refine⟨qc (gp b1.length order) G,bq.B0 (hs.cV (f':=[]) (bx':=fQ 0 b1) (lv':=(List.range k).map (I.length+·)) (gen':=I.length+k) (gp b1.length order) (fM X) (by omega) M (fun t a ha=>by simp[look]at ha) (fun i c hc=>?_) (fun i hi=>?_)) rfl⟩
 ·obtain⟨_,h1⟩:=qX b1 0 i c hc
  simp only[Nat.sub_zero]at h1;obtain⟨c0,h2,h3⟩:=ai i c h1;have aj:i<b1.length:=(δ.1 h1).1;exact⟨i,c0,M i (by rw[O,←J];exact aj),h2,by rw[<-iN];exact h3⟩
 ·obtain⟨j,hj,rfl⟩:=A'.1 hi
  have hj:j<k:=by simpa using hj
  have N:j<order.length:=by omega
  refine⟨order[j],?_,ad _ (List.getElem_mem N)⟩;unfold gp;rw[Ω (by simp;omega)];simp[J,N]
theorem rY.Mb{i1 i2}{l1 l2:List Oper}{V}{I:List (List A)}(U:b1.length=I.length)(X:l1.all qt=true)(ad:l2.all qt=true)(h:∀C,NB C I.length->GC P C->WO P C n l1.toArray (fun e s=>e=.normal∧WO P C n l2.toArray (fun e s=>e=.normal∧QR b1 k s) l2 s) l1 ⟨V,fQ 0 I,(List.range m).map (I.length+·),I.length+m⟩):
 rY P n (.block id (.seq (.region i1 l1.toArray false) (.region i2 l2.toArray false))) V I m b1 k:=by
 intro C G tmps w l q hG hw N J hs;refine wpIn_block (wpIn_seq (wpIn_region ?_));have h1:=h C ⟨N⟩ hG tmps w ⟨G,hs⟩;rw[J]at h1;have h2:fW P l1.toArray (Exit.then ((Code.region i2 l2.toArray false).wpIn (Fence.wide.inRound l) q P (Exit.inBlock id fun e _ w'=>e=.normal∧∃M,bq C 0 ⟨[],fQ 0 b1,(List.range k).map (I.length+·),I.length+k⟩ M #[] w')) (Exit.inBlock id fun e _ w'=>e=.normal∧∃M,bq C 0 ⟨[],fQ 0 b1,(List.range k).map (I.length+·),I.length+k⟩ M #[] w')) l1 ⟨tmps,[]⟩ w:=by
  refine qR (fun e a w' O=>?_) l1 _ _ h1;obtain⟨hd,st,⟨G2,ai⟩,rfl,aj⟩:=O;obtain⟨tm,d⟩:=a;have hd:d=C.ds:=hd;rw[J]at hd;subst hd;refine wpIn_region ?_;have h3:=aj tm w' ⟨G2,ai⟩;rw[J]at h3;have h4:fW P l2.toArray (Exit.inBlock id fun e _ w'=>e=.normal∧∃M,bq C 0 ⟨[],fQ 0 b1,(List.range k).map (I.length+·),I.length+k⟩ M #[] w') l2 ⟨tm,[]⟩ w':=by refine qR (fun e a w3 O=>?_) l2 _ _ h3;obtain⟨_,a6,⟨G3,ar⟩,rfl,a1⟩:=O;exact⟨rfl,a1.Cj ar N U⟩
  have:=Aj (P:=P) (r:=l) (q:=q) l2 0 (by simp) ad _ _ h4;rw[show List.range l2.toArray.size=List.range' 0 l2.length by simp[List.range_eq_range']];exact this
 have:=Aj (P:=P) (r:=l) (q:=q) l1 0 (by simp) X _ _ h2;rw[show List.range l1.toArray.size=List.range' 0 l1.length by simp[List.range_eq_range']];exact this
end
section
variable(T:cT P){n:Nat}{c:Code}
variable{f':List (Nat×A)}{bx bx':List (Nat×List A)}{gen:Nat}
theorem BW[hnb:NB C 0](s:Nat)(hl:look f s=some (.ptr g 0))(hb:bk bx g=some (l.map .d))(a6:Nat.blt s n=true)(hf:nQ g [] f=f')(a7:mM g [] bx=some bx')(h:W P C n c Q ⟨(s,.rowd l)::f',bx',lv,gen⟩):W P C n c Q ⟨f,bx,lv,gen⟩:=by
 subst hf;intro tmps w ⟨G,hs⟩;obtain⟨v,hv,O⟩:=hs.frame _ _ hl;obtain⟨b,cs,T',U,hw,h3,h4,h5⟩:=hs.box _ _ hb
 cases O with
 |ptr _ _ _ b' cj ad hx=>
 have ad:G.box g=some b':=ad;rw[U]at ad;cases ad;let M:Gh:=⟨fun x=>if x=g then none else G.box x,G.own⟩;have a8:∀b' o,cr C M b' o->cr C G b' o:=by
  rintro b' o (hp|⟨I,hp⟩|hp);·exact .inl hp
  ·simp only[M]at hp
   split at hp;·cases hp
   ·exact .inr (.inl ⟨I,hp⟩)
  ·exact .inr (.inr hp)
 have a1:∀o,¬cr C M b o:=by
  rintro o (hp|⟨I,hp⟩|⟨I,len,cap,sz,ai,hp,_⟩|⟨I,N,bs,lim,hp,hm,_⟩)
  rotate_right
  ·exact(hs.sub I N bs b lim hp hm).2.1 g U
  ·have:=hs.xold b o hp
   rcases(hs.gbox g b U).2.2.1 with hm|hm
   ·omega
   ·exact this.2 hm
  ·simp only[M]at hp
   split at hp;·cases hp
   ·rename_i e;exact e (hs.inj I g b hp U)
  ·exact(hs.row I b len cap sz ai hp).2.1 g U
 have X:∀{v:Value}{a:A},bG (br C G gen w) v a->jl g a=true->bG (br C M gen w) v a:=fun h ha=>aI (E:=br C G gen w) (E':=br C M gen w) Z (fun b o u hu hn=>⟨hu,fun hp=>hn (a8 b o hp)⟩) (fun b h=>h) (fun I b b0 hb=>by show(if I=g then none else G.box I)=some b;rw[if_neg b0];exact hb) Z Z h ha;have b3:bq C n ⟨nQ g [] f,bx',lv,gen⟩ M tmps w:=by
  refine{size:=hs.size,frame:=?_,box:=?_,gbox:=?_,inj:=?_,live:=hs.live,gown:=hs.gown,row:=?_,mrow:=?_,sub:=?_,gcell:=fun I N J=>(by simp only[M]at J;split at J<;>first|(cases J;done)|exact hs.gcell I N J),xold:=hs.xold,kold:=hs.kold,lent:=?_,fr:=hs.fr}
  ·intro t a ha
   obtain⟨h1,h2,_⟩:=lG ha;obtain⟨v,hv,O⟩:=hs.frame t a h1;exact⟨v,hv,X O h2⟩
  ·intro I cells hc
   obtain⟨h1,h2,h6,_⟩:=lQ a7 hc;obtain⟨N,ch,T2,p1,p2,p3,p4,p5⟩:=hs.box I cells h1;exact⟨N,ch,T2,by simp only[M];rw[if_neg h6];exact p1,p2,p3,p4,fun i u a hu ha=>X (p5 i u a hu ha) (gn h2 a (ζ ha))⟩
  ·intro I N J
   simp only[M]at J;split at J;·cases J
   ·exact hs.gbox I N J
  ·intro g1 g2 N h1 h2
   simp only[M]at h1 h2;split at h1;·cases h1
   ·split at h2
    ·cases h2
    ·exact hs.inj g1 g2 N h1 h2
  ·intro I N len cap sz ai O
   obtain⟨p1,p2,p3⟩:=hs.row I N len cap sz ai O;refine⟨p1,fun g2 h2=>?_,p3⟩;simp only[M]at h2;split at h2;·cases h2
   ·exact p2 g2 h2
  ·intro I N bs O
   obtain⟨p1,p2,p3⟩:=hs.mrow I N bs O;refine⟨p1,fun g2 h2=>?_,p3⟩;simp only[M]at h2;split at h2;·cases h2
   ·exact p2 g2 h2
  ·intro I N bs c lim O hm
   obtain⟨p1,p2,p3⟩:=hs.sub I N bs c lim O hm;refine⟨p1,fun g2 h2=>?_,p3⟩;simp only[M]at h2;split at h2;·cases h2
   ·exact p2 g2 h2
  ·intro i N J
   have:=hnb.h;have hi:=(δ.1 J).1;omega
 have ar:bG (br C M gen w) v (.rowd l):=by
  rw[hx];refine .rowd b 0 l (fun j=>cs[j]?.getD default) (fun j hj=>?_) (fun j x hx=>?_)
  ·have aj:j<cs.size:=by rw[h3];simpa using hj
   have e1:cs[j]?=some cs[j]:=by simp[aj]
   refine⟨?_,a1 _⟩;show cellAt w b (0+j)=_;rw[Nat.zero_add,cU hw,e1];rfl
  ·have aj:j<cs.size:=by rw[h3];simpa using(δ.1 hx).1
   have e1:cs[j]?=some cs[j]:=by simp[aj]
   have:=X (h5 j _ (.d x) e1 (by simp[hx])) rfl;rw[e1];show b7 w _ cs[j] x;generalize cs[j]=u at this;cases this with|d hd=>exact hd
 refine h tmps w ⟨M,?_⟩;have:=b3.set (d:=s) (κ a6) ar;rwa[gh hv]at this
end
open Go.RowKit Go.MapKept
theorem bG.IX(hw:E.w=E'.w)(hc:∀b o u,cellAt E.w b o=some u->¬E.pv b o->cellAt E'.w b o=some u∧¬E'.pv b o)(hold:∀b,E.old b->E'.old b)(hb:∀M b,M≠g->E.box M=some b->E'.box M=some b)(ho:∀M r,M<E.gen->E'.own M=some r->E.own M=some r)(U:E.gen<=E'.gen){v}(h:bG E v a)(ha:jl g a=true):bG E' v a:=by
 have aj:∀{M},(!Nat.beq M g)=true->M≠g:=fun h e=>by subst e;simp at h
 have X:∀b o u,cellAt E.w b o=some u->¬E.pv b o->cellAt E.w b o=some u∧¬E'.pv b o:=fun b o u h1 h2=>⟨h1,(hc b o u h1 h2).2⟩
 induction h with
 |any x=>exact .any x
 |d hd=>exact .d (hd.mono hc)
 |ag vs l hs hd=>exact .ag vs l hs (fun i u x h1 h2=>(hd i u x h1 h2).mono hc)
 |own x M es hd J hr=>exact .own x M es (hd.mono hc) (ψ J U) (fun r N=>hr r (ho _ r J N))
 |agg vs l hs hone _ ih=>exact .agg vs l hs hone (fun i u x hu O=>ih i u x hu O (gn (by simpa[jl]using ha) x (ζ O)))
 |tup vs l hs _ ih=>exact .tup vs l hs (fun i u x hu O=>ih i u x hu O (gn (by simpa[jl]using ha) x (ζ O)))
 |rowd b off l u ai hd=>exact .rowd b off l u (fun j hj=>hc _ _ _ (ai j hj).1 (ai j hj).2) (fun j x O=>(hd j x O).mono hc)
 |row b off l u ai _ ih=>exact .row b off l u (fun j hj=>⟨by rw[<-hw];exact(ai j hj).1,hold _ (ai j hj).2.1,(ai j hj).2.2⟩) (fun j x O=>ih j x O (gn (by simpa[jl]using ha) x (ζ O)))
 |ptr x M off b J ad hp=>exact .ptr x M off b (ψ J U) (hb M b (aj (by simpa[jl]using ha)) ad) hp
 |xs x M es J h1 O=>exact .xs x M es (ψ J U) h1 (fun r N=>hw▸(O r (ho _ r J N)).eu X)
 |xp x M i off l J h1 O=>exact .xp x M i off l (ψ J U) h1 (fun r N=>hw▸(O r (ho _ r J N)).eu X)
 |mp x M es J h1 O=>exact .mp x M es (ψ J U) h1 (fun r N=>hw▸(O r (ho _ r J N)).eu X)
 |mq x M es J h1 O=>exact .mq x M es (ψ J U) h1 (fun r N=>hw▸(O r (ho _ r J N)).eu X)
 |mo x M es hole ob J h1 O=>exact .mo x M es hole ob (ψ J U) h1 (fun r N=>hw▸(O r (ho _ r J N)).eu X)
 |ni t x=>exact .ni t x
 |fl x es hd a1=>exact .fl x es (hd.mono hc) a1
 |bf x M T s J h1 O=>exact .bf x M T s (ψ J U) h1 (fun r N=>hw▸O r (ho _ r J N))
 |np x M T b J ad hT u hp=>exact .np x M T b (ψ J U) (hb M b (aj (by simpa[jl]using ha)) ad) (hw▸hT) u hp
 |sb x M n c b J ad hn hp=>exact .sb x M n c b (ψ J U) (hb M b (aj (by simpa[jl]using ha)) ad) hn hp
 |fx x u M es ou O J hu a6=>exact .fx x u M es ou (O.mono hc) (ψ J U) (fun r N=>hw▸(hu r (ho _ r J N)).eu X) a6
 |ol x u g1 E1 M es O ar a7 J hu=>exact .ol x u g1 E1 M es (O.mono hc) (ψ ar U) (fun r N=>a7 r (ho _ r ar N)) (ψ J U) (fun r N=>hw▸(hu r (ho _ r J N)).eu X)
 |gi x M I J O=>exact .gi x M I (ψ J U) (fun r N=>hw▸(O r (ho _ r J N)).eu X)
 |ow x v M es hd J hr=>exact .ow x v M es (hd.mono hc) (ψ J U) (fun r N=>hr r (ho _ r J N))
 |lk x M n c b v J ad hn hp=>exact .lk x M n c b v (ψ J U) (hb M b (aj (by simpa[jl]using ha)) ad) hn hp
 |clo f vs l hs _ ih=>exact .clo f vs l hs (fun i u x hu O=>ih i u x hu O (gn (by simpa[jl]using ha) x (ζ O)))
 |bnd f vs l hs _ ih=>exact .bnd f vs l hs (fun i u x hu O=>ih i u x hu O (gn (by simpa[jl]using ha) x (ζ O)))
section
variable{n:Nat}
variable{bx bx':List (Nat×List A)}{gen:Nat}
theorem bq.Kb(hs:bq C n ⟨f,bx,lv,gen⟩ G tmps w)(c7:C.bx=[])(ad:G.box g=some b)(hb:bk bx g=some (l.map .d))(ch:0<l.length)(df:mM g [] bx=some bx'):
 ∃N cs T,w.heap[b]?=some (.cells cs T (0,0))∧cs.size=l.length∧gG cs∧(∀(j:Nat)(u:Value)(d:D),cs[j]?=some u->l[j]?=some d->b7 w (cr C N) u d)∧N.own gen=some (.blk b 1 1 l.length 0)∧(∀I,I≠gen->N.own I=G.own I)∧
   (∀b' o,cr C N b' o->cr C G b' o)∧bq C n ⟨nQ g [] f,bx',gen::lv,gen+1⟩ N tmps w:=by
 obtain⟨b0,cs,T',a7,hw,h3,h4,h5⟩:=hs.box _ _ hb;rw[ad]at a7;cases a7;simp only[η]at h3;let M:Nat->Option Row:=fun I=>if I=gen then some (.blk b 1 1 l.length 0)else G.own I;let N:Gh:=⟨fun x=>if x=g then none else G.box x,M⟩;have ai:∀{I c len cap sz aj},M I=some (.blk c len cap sz aj)->(I=gen∧c=b∧len=1∧cap=1∧sz=l.length∧aj=0)∨(I≠gen∧G.own I=some (.blk c len cap sz aj)):=by
  intro I c len cap sz aj J;simp only[M]at J;split at J
  ·rename_i e
   simp only[Option.some.injEq,Row.blk.injEq]at J;exact .inl ⟨e,J.1.symm,J.2.1.symm,J.2.2.1.symm,J.2.2.2.1.symm,J.2.2.2.2.symm⟩
  ·rename_i e;exact .inr ⟨e,J⟩
 have a1:∀{I O ar},M I=some (.mp O ar)->G.own I=some (.mp O ar):=by
  intro I O ar J;simp only[M]at J;split at J;·cases J
  ·exact J
 have a8:∀b' o,cr C N b' o->cr C G b' o:=by
  rintro b' o (hp|⟨I,hp⟩|⟨I,cj,cl,di,cq,hp,hl'⟩|⟨I,O,ar,lim,hp,hm,hl'⟩);·exact .inl hp
  ·simp only[N]at hp
   split at hp;·cases hp
   ·exact .inr (.inl ⟨I,hp⟩)
  ·rcases ai hp with⟨_,rfl,_⟩|⟨_,e⟩
   ·exact .inr (.inl ⟨g,ad⟩)
   ·exact .inr (.inr (.inl ⟨I,cj,cl,di,cq,e,hl'⟩))
  ·exact .inr (.inr (.inr ⟨I,O,ar,lim,a1 hp,hm,hl'⟩))
 have a6:∀{v:Value}{a:A},bG (br C G gen w) v a->jl g a=true->bG (br C N (gen+1) w) v a:=fun h ha=>
  bG.IX (E:=br C G gen w) (E':=br C N (gen+1) w) rfl (fun b o u hu hn=>⟨hu,fun hp=>hn (a8 b o hp)⟩) (fun b h=>h) (fun I b dj hb=>by show(if I=g then none else G.box I)=some b;rw[if_neg dj];exact hb)
   (fun I r X J=>by have J:M I=some r:=J;have X:I<gen:=X;simp only[M,if_neg (U' X)]at J;exact J) (Nat.le_succ gen) h ha
 refine⟨N,cs,T',hw,h3,h4,fun j u d hu hd=>?_,by simp[N,M],fun I X=>by simp[N,M,X],a8,?_⟩
 ·have:=a6 (h5 j u (.d d) hu (by simp[hd])) Z
  cases this with|d hd=>exact hd
 ·refine{size:=hs.size,frame:=?_,box:=?_,gbox:=?_,inj:=?_,live:=?_,gown:=?_,row:=?_,mrow:=?_,sub:=?_,gcell:=fun I O U=>(by simp only[N]at U;split at U<;>first|(cases U;done)|exact hs.gcell I O U),xold:=hs.xold,kold:=hs.kold,lent:=?_,fr:=hs.fr}
  ·intro t a ha
   obtain⟨h1,h2,_⟩:=lG ha;obtain⟨v,hv,J⟩:=hs.frame t a h1;exact⟨v,hv,a6 J h2⟩
  ·intro I cells hc
   obtain⟨h1,h2,h6,_⟩:=lQ df hc;obtain⟨O,dt,T2,p1,p2,p3,p4,p5⟩:=hs.box I cells h1;exact⟨O,dt,T2,by simp only[N];rw[if_neg h6];exact p1,p2,p3,p4,fun i u a hu ha=>a6 (p5 i u a hu ha) (gn h2 a (ζ ha))⟩
  ·intro I O U
   simp only[N]at U;split at U;·cases U
   ·obtain⟨q1,q2⟩:=hs.gbox I O U
    exact⟨Y' q1,q2⟩
  ·intro g1 g2 O h1 h2
   simp only[N]at h1 h2;split at h1;·cases h1
   ·split at h2
    ·cases h2
    ·exact hs.inj g1 g2 O h1 h2
  ·intro I X
   rcases C'.1 X with rfl|X
   ·exact⟨_,by simp[N,M];rfl⟩
   ·obtain⟨r,J⟩:=hs.live I X
    exact⟨r,by simp only[N,M,if_neg (U' (hs.gown I r J))];exact J⟩
  ·intro I r J
   have J:M I=some r:=J;simp only[M]at J;split at J;·simp only;omega
   ·exact Y' (hs.gown I r J)
  ·intro I O len cap sz aj J
   rcases ai J with⟨e,rfl,rfl,rfl,rfl,rfl⟩|⟨e,J⟩
   ·refine⟨(hs.gbox g _ ad).2.2,fun g2 h2=>?_,fun g2 cx cy dx c1 h2=>?_,cs,T',hw,by rw[h3];simp,ω _,by simp[maxLen],ch,by decide,ς _,h4⟩
    ·simp only[N]at h2
     split at h2;·cases h2
     ·rename_i e2;exact e2 (hs.inj _ _ _ h2 ad)
    ·rcases ai h2 with⟨e2,_⟩|⟨_,e2⟩
     ·rw[e,e2]
     ·exact absurd ad ((hs.row _ _ _ _ _ _ e2).2.1 g)
   ·obtain⟨p1,p2,p3,p4⟩:=hs.row I O len cap sz aj J
    refine⟨p1,fun g2 h2=>?_,fun g2 cx cy dx c1 h2=>?_,p4⟩
    ·simp only[N]at h2
     split at h2;·cases h2
     ·exact p2 g2 h2
    ·rcases ai h2 with⟨_,rfl,_⟩|⟨_,e2⟩
     ·exact absurd ad (p2 g)
     ·exact p3 _ _ _ _ _ e2
  ·intro I O bs J
   obtain⟨p1,p2,p3,p4⟩:=hs.mrow I O bs (a1 J);refine⟨p1,fun g2 h2=>?_,fun g2 ar h2=>p3 g2 ar (a1 h2),p4⟩;simp only[N]at h2;split at h2;·cases h2
   ·exact p2 g2 h2
  ·intro I O bs c lim J hm
   obtain⟨p1,p2,p3,p4,p5⟩:=hs.sub I O bs c lim (a1 J) hm;refine⟨p1,fun g2 h2=>?_,fun g2 len cap sz aj h2=>?_,fun g2 b3 ed c6 h2 ei=>p4 g2 b3 ed c6 (a1 h2) ei,p5⟩
   ·simp only[N]at h2
    split at h2;·cases h2
    ·exact p2 g2 h2
   ·rcases ai h2 with⟨_,rfl,_⟩|⟨_,e2⟩
    ·exact p2 g ad
    ·exact p3 _ _ _ _ _ e2
  ·intro i O U
   rw[c7]at U;simp at U
end
def kU{α:Type}(kf:α->Value)(l:List (α×Option (List D))):List (Value×Option (List D)):=l.map fun p=>(kf p.1,p.2)
theorem EX{α:Type}{kf:α->Value}{l:List (α×Option (List D))}{i:Nat}{k:Value}{o:Option (List D)}(h:(kU kf l)[i]?=some (k,o)):∃a,l[i]?=some (a,o)∧k=kf a:=by grind[kU,Option.map_eq_some_iff,Prod.mk.injEq]
theorem B8{kf:α->Value}{l k o}(h:(k,o)∈kU kf l):∃a,(a,o)∈l∧k=kf a:=by obtain⟨i,hi⟩:=Γ.1 h;obtain⟨a,I,e⟩:=EX hi;grind
structure r9{α:Type}(w:World)(pv:Nat->Nat->Prop)(b:Nat)(bs:List (Nat×Nat))(kf:α->Value)(l:List (α×Option (List D)))(me:Array MapEntry)(clock:Nat)(ps:Value->Nat)(l2:List (α×Value)):Prop where
 hb:w.heap[b]?=some (.map me clock)
 st:Stamped me clock
 mi:jH w pv kf D.v me l2
 ln:l2.length=l.length
 ks:∀(i:Nat)(p:α×Value)(q:α×Option (List D)),l2[i]?=some p->l[i]?=some q->p.1=q.1
 inj:∀(a a':α)(x x':List D),(a,some x)∈l->(a',some x')∈l->ps (kf a)=ps (kf a')->kf a=kf a'
 at_:∀(i:Nat)(m:MapEntry)(a:α)(x:List D),me[i]?=some m->l[i]?=some (a,some x)->m.val=.pointer (some ⟨ps (kf a),0,none⟩)∧(ps (kf a),0)∈bs∧
  ∃cur T,w.heap[ps (kf a)]?=some (.cells cur T (0,0))∧cur.size=x.length∧gG cur∧∀(j:Nat)(u:Value)(d:D),cur[j]?=some u->x[j]?=some d->b7 w pv u d
theorem r9.of{kf:α->Value}{v l}(h:rj w pv (.mp (some b) bs) v (kU kf l)):v=.map (some b)∧∃I clock ps l2,r9 w pv b bs kf l I clock ps l2:=by
 obtain⟨h1,I,clock,h2,h3,h4,ps,h5,N⟩:=h;have J:I.size=l.length:=by rw[h4];simp[kU]
 refine⟨h1,I,clock,ps,(l.zip I.toList).map fun p=>(p.1.1,p.2.val),h2,h3,⟨by simp[J],fun i m p hm hp=>?_⟩,by simp[J],fun i p q hp U=>?_,fun a a' x X q1 q2 q3=>?_,fun i m a x hm hx=>?_⟩
 ·have O:i<l.length:=by rw[<-J];exact(θ.1 hm).1
  have hl:l[i]?=some l[i]:=by simp[O]
  have M:(l.zip I.toList)[i]?=some (l[i],m):=by rw[List.getElem?_zip_eq_some];exact⟨hl,by simpa using hm⟩
  rw[τ,M]at hp;simp only[Option.map_some,Option.some.injEq]at hp;subst hp;obtain⟨q1,q2,q3,_⟩:=N i m (kf l[i].1) l[i].2 hm (by simp[kU,hl]);exact⟨q1,q2,.v _ q3⟩
 ·rw[τ,χ]at hp
  obtain⟨z,M,rfl⟩:=hp;rw[List.getElem?_zip_eq_some]at M;rw[U]at M;exact congrArg Prod.fst (P' M.1).symm
 ·exact h5 _ _ x X (A'.2 ⟨_,q1,rfl⟩) (A'.2 ⟨_,q2,rfl⟩) q3
 ·exact(N i m (kf a) (some x) hm (by simp[kU,hx])).2.2.2 x Z
theorem r9.to{kf:α->Value}{l M ps l2}(h:r9 w pv b bs kf l M clock ps l2):rj w pv (.mp (some b) bs) (.map (some b)) (kU kf l):=by
 refine⟨rfl,M,clock,h.hb,h.st,by rw[h.mi.1,h.ln];simp[kU],ps,fun k k' x U q1 q2 q3=>?_,fun i m k o hm X=>?_⟩
 ·obtain⟨a,I,rfl⟩:=B8 q1
  obtain⟨a',N,rfl⟩:=B8 q2;exact h.inj a a' x U I N q3
 ·obtain⟨a,I,rfl⟩:=EX X
  have O:i<l2.length:=by rw[h.ln];exact(δ.1 I).1
  have J:l2[i]?=some l2[i]:=by simp[O]
  obtain⟨q1,q2,q3⟩:=h.mi.2 i m _ hm J;have e:=h.ks i _ _ J I;rw[e]at q1 q2;refine⟨q1,q2,?_,fun x hx=>?_⟩
  ·generalize m.val=y at q3
   cases q3 with|v _ hok=>exact hok
  ·subst hx
   exact h.at_ i m a x hm I
section
variable(T:cT P){n:Nat}{rest:List Oper}
variable{f':List (Nat×A)}{bx bx':List (Nat×List A)}{gen:Nat}{pos:String}{af:Array Edge}{c:Code}
variable[DecidableEq α]{kf:α→Value}
omit [DecidableEq α] in
theorem bq.DC(hs:bq C n st G tmps w){v l}(U:bG (br C G st.gen w) v (.mq g (kU kf l)))(O:g∈st.lv):
 ∃b bs M clock ps l2,G.own g=some (.mp (some b) bs)∧v=.map (some b)∧r9 w (cr C G) b bs kf l M clock ps l2:=by
 obtain⟨r,J⟩:=hs.live g O
 cases U with
 |mq _ _ _ X h1 N=>
 have I:=N r J
 cases r with
 |nil=>exact I.elim
 |zero b=>exact I.elim
 |blk b len cap sz ad=>exact I.elim
 |mp b bs=>
   cases b with
   |none=>exact I.elim
   |some b=>
   obtain⟨h2,M,clock,ps,l2,h3⟩:=r9.of I;exact⟨b,bs,M,clock,ps,l2,J,h2,h3⟩
theorem K1{t}(hd:Nat.blt d n=true)(h:WO P C n ops Q rest ⟨(d,.mq gen [])::f,bx,gen::lv,gen+1⟩):WO P C n ops Q (⟨some d,.makeMap t none,ty,pos,af,none⟩::rest) ⟨f,bx,lv,gen⟩:=by
 refine WO.step (st:=⟨f,bx,lv,gen⟩) Z fun tmps w⟨G,hs⟩=>?_;obtain⟨U,N,J⟩:=hs.yY;refine dw (v:=.map (some w.heap.size)) (w':=w.alloc (.map #[] 0)) ?_ ⟨_,⟨U,N.put (dst:=some d) (dp (dst:=some d) hd) ?_⟩,h⟩
 ·unfold execOp
  show Sem.run P _ w=.ok _ _;simp[Instr.makeMap,Sem.run_bind,Result.andThen]
 ·cases J with
  |mp _ _ _ O h1 M=>
  refine .mq _ _ _ O h1 (fun r J=>?_);have I:=M r J
  cases r with
  |nil=>exact I.elim
  |zero b=>exact I.elim
  |blk b len cap sz ad=>exact I.elim
  |mp b bs=>
    cases b with
    |none=>exact I.elim
    |some b=>
    obtain⟨q1,X,clock,q2,q3,q4,_⟩:=I;exact⟨q1,X,clock,q2,q3,q4,fun _=>0,fun _ _ _ _ h=>(by cases h),fun i m k x hm hk=>(by simp at hk)⟩
open Classical in
theorem H7[hnb:NB C 0](s:Nat){m kx gb}{l:List (α×Option (List D))}{a:α}{y:List D}(hm:av f m=some (.mq g (kU kf l)))(hl:look f s=some (.mq g (kU kf l)))(hk:av f kx=some (.d (.v (kf a))))(hx:av f x=some (.ptr gb 0))(hb:bk bx gb=some (y.map .d))(hy:Nat.blt 0 y.length=true)(ht:bk T.l mt=some td)(ft:td.k=.map k e)(dj:lC P k kf)(dt:(lv.any fun h=>Nat.beq h g)=true)(gd:Nat.blt s n=true)(hn:(l.map (·.1)).Nodup)(b0:a∉l.map (·.1))(hf:nQ gb [] f=f')(gj:mM gb [] bx=some bx'){dx}(gq:kU kf (l++[(a,some y)])=dx)(ha:(gen+1)::cu lv g=lv')(h:WO P C n ops Q rest ⟨(s,.mq (gen+1) dx)::f',bx',lv',gen+2⟩):WO P C n ops Q (⟨none,.mapUpdate mt m kx x,ty,pos,af,none⟩::rest) ⟨f,bx,lv,gen⟩:=by
 subst gq;subst ha;subst hf;refine WO.step (st:=⟨f,bx,lv,gen⟩) rfl fun tmps w⟨G,hs⟩=>?_;have hg:C.bx=[]:=O' hnb.h;have ed:=hs.av hm;have aj:=hs.av hk;have ei:=hs.av hx;obtain⟨vs,hh,ho⟩:=hs.frame s _ hl;generalize hv:Act.eval ⟨tmps,[]⟩ m=v at ed;generalize hz:Act.eval ⟨tmps,[]⟩ kx=vk at aj;generalize hA:Act.eval ⟨tmps,[]⟩ x=vx at ei;obtain⟨b,bs,me,clock,ps,l2,ar,rfl,I⟩:=hs.DC ed (dU dt);obtain⟨N,O,_,_,_,_,e5,rfl,_⟩:=hs.DC ho (dU dt);obtain⟨rfl,rfl⟩:N=b∧O=bs:=by have:=e5.symm.trans ar;simpa using this
 cases aj with|d aj=>cases aj with|v _ hok=>
 cases ei with
 |ptr _ _ _ c hL a6 ej=>
 have a6:G.box gb=some c:=a6;have a7:l2.map (·.1)=l.map (·.1):=by
  refine List.ext_getElem? fun i=>?_;rw[τ,τ];rcases V' i l2.length with hi|hi
  ·have h1:l2[i]?=some l2[i]:=by simp[hi]
   have hD:i<l.length:=by rw[<-I.ln];exact hi
   have h2:l[i]?=some l[i]:=by simp[hD]
   rw[h1,h2];simp only[Option.map_some,I.ks i _ _ h1 h2]
  ·rw[List.getElem?_eq_none hi,List.getElem?_eq_none (by rw[<-I.ln];exact hi)]
   rfl
 have di:∀p∈l2,p.1≠a:=fun p hp e=>b0 (by rw[<-a7,←e];exact A'.2 ⟨p,hp,rfl⟩);obtain⟨M,J,e6,fj,U,b3⟩:=uh (P:=P) T (y:=vx) (vf:=D.v) ht ft dj I.hb I.st I.mi (by rw[a7];exact hn) a hok (v:=vx) (.v _ (by rw[ej];rfl));have h0:(execOp (Act.eval ⟨tmps,[]⟩) ⟨none,.mapUpdate mt m kx x,ty,pos,af,none⟩).run P w=.ok .skip {w with heap:=w.heap.setIfInBounds N (.map M J)}:=by unfold execOp;show Sem.run P _ w=.ok _ _;simp only[hv,hz,hA,Sem.run_bind,e6,Result.andThen_ok,Sem.run_pure]
 rw[lB di]at U b3;have ch:=hs.gown g _ ar;obtain⟨G1,cs,T1,c1,c2,c3,c4,c5,c6,c7,hE⟩:=hs.Kb hg a6 hb (κ hy) gj;have fo:G1.own g=some (.mp N O):=by rw[c6 g (U' ch)];exact ar
 obtain⟨cj,cl⟩:=heap_set (o':=Obj.map M J) I.hb;obtain⟨G',hM,hF,hle,hG⟩:=hE.join (w':={w with heap:=w.heap.setIfInBounds N (.map M J)}) (g:=g) (g2:=gen) (bs':=(c,0)::O) fo c5 (Ne.symm (U' ch)) (fun p hp=>by
  rcases C'.1 hp with rfl|hp
  ·exact .inr ⟨_,_,_,rfl⟩
  ·exact .inl hp) (fun c hc=>cl c (fun e=>hc (by rw[e]))) (fun c hc=>⟨M,J,by cases hc;exact cj⟩) (by simp) Z Z Z (cu lv g) (fun g' hH=>by
  obtain⟨t1,t2⟩:=dH hH;obtain⟨r,hr⟩:=hs.live g' t1;have:=hs.gown g' r hr;exact⟨q' _ t1,t2,by simp only at this;omega⟩)
 have X:∀{c:Nat}{cs:Array Value}{T:TypeId}{ff:Nat×Nat},w.heap[c]?=some (.cells cs T ff)->(w.heap.setIfInBounds N (.map M J))[c]?=some (.cells cs T ff):=fun{c cs T ff} hc=>by rw[cl c (fun e=>by rw[e,I.hb]at hc;cases hc)];exact hc
 have cq:∀{v:Value}{d:D},b7 w (cr C G1) v d->b7 {w with heap:=w.heap.setIfInBounds N (.map M J)} (cr C G') v d:=fun hd=>hd.mono fun b o u hu hp=>hle.cell b o u hu hp;have cx:∀{v:Value}{d:D},b7 w (cr C G) v d->b7 {w with heap:=w.heap.setIfInBounds N (.map M J)} (cr C G') v d:=fun hd=>cq (hd.mono fun b o u hu hp=>⟨hu,fun hI=>hp (c7 b o hI)⟩);have a8:∀lim,(c,lim)∉O:=fun lim hm=>(hs.sub g N O c lim ar hm).2.1 gb a6;have en:∀(a':α)(x':List D),(a',some x')∈l->(ps (kf a'),0)∈O:=fun a' x' hm=>by
  obtain⟨i,hi⟩:=Γ.1 hm;have hJ:i<me.size:=by rw[I.mi.1,I.ln];exact(δ.1 hi).1
  exact(I.at_ i me[i] a' x' (by simp[hJ]) hi).2.1
 have ad:∀(a':α)(o:Option (List D)),(a',o)∈l->kf a'≠kf a:=fun a' o hm e=>b0 (by rw[<-dj.inj _ _ e];exact A'.2 ⟨_,hm,rfl⟩);have fs:r9 {w with heap:=w.heap.setIfInBounds N (.map M J)} (cr C G') N ((c,0)::O) kf (l++[(a,some y)]) M J (fun k=>if k=kf a then c else ps k) (l2++[(a,vx)]):=by
  refine⟨cj,fj,⟨U.1,fun i m p hm hp=>?_⟩,by simp[I.ln],fun i p q hp hq=>?_,fun a1 a2 x1 x2 q1 q2 q3=>?_,fun i mm a1 x1 cy hp=>?_⟩
  ·obtain⟨q1,q2,q3⟩:=U.2 i m p hm hp
   exact⟨q1,q2,cx q3⟩
  ·rcases V' i l2.length with hi|hi
   ·rw[y' hi]at hp
    rw[y' (by rw[<-I.ln];exact hi)]at hq;exact I.ks i p q hp hq
   ·rw[Ω hi]at hp
    rw[Ω (by rw[<-I.ln];exact hi),←I.ln]at hq;generalize i-l2.length=j at hp hq
    cases j with
    |zero=>simp only[List.getElem?_cons_zero,Option.some.injEq]at hp hq;subst hp;subst hq;rfl
    |succ j=>simp at hp
  ·rcases F'.1 q1 with q1|q1<;>rcases F'.1 q2 with q2|q2
   ·rw[if_neg (ad _ _ q1),if_neg (ad _ _ q2)]at q3
    exact I.inj a1 a2 x1 x2 q1 q2 q3
   ·simp only[List.mem_singleton,Prod.mk.injEq]at q2
    rw[if_neg (ad _ _ q1),q2.1,if_pos rfl]at q3;exact absurd (q3▸en a1 x1 q1) (a8 0)
   ·simp only[List.mem_singleton,Prod.mk.injEq]at q1
    rw[if_neg (ad _ _ q2),q1.1,if_pos rfl]at q3;exact absurd (q3▸en a2 x2 q2) (a8 0)
   ·simp only[List.mem_singleton,Prod.mk.injEq]at q1 q2
    rw[q1.1,q2.1]
  ·rcases V' i l.length with hi|hi
   ·rw[y' hi]at hp
    have ai:i<l2.length:=by rw[I.ln];exact hi
    have df:(l2++[(a,vx)])[i]?=some l2[i]:=by rw[y' ai];simp[ai]
    have er:=I.ks i _ _ (by simp[ai]:l2[i]?=some l2[i]) hp;rcases b3 i mm _ cy df with⟨e,_⟩|⟨_,m0,e1,e2,e3⟩
    ·have hK:a1=a:=by rw[e]at er;exact er.symm
     exact absurd (A'.2 ⟨_,ζ hp,hK⟩) b0
    ·obtain⟨r1,r2,cur,T2,r3,r4,r5,r6⟩:=I.at_ i m0 a1 x1 e1 hp
     rw[if_neg (ad _ _ (ζ hp))];exact⟨e3▸r1,q' _ r2,cur,T2,X r3,r4,r5,fun j u d hu hd=>cx (r6 j u d hu hd)⟩
   ·rw[Ω hi]at hp
    have ai:l2.length<=i:=by rw[I.ln];exact hi
    have e4:i<(l2++[(a,vx)]).length:=by rw[<-U.1];exact(θ.1 cy).1
    have e0:i=l.length:=by rw[ν,I.ln]at e4;simp at e4;omega
    subst e0;simp only[Nat.sub_self,List.getElem?_cons_zero,Option.some.injEq,Prod.mk.injEq]at hp;obtain⟨rfl,rfl⟩:=hp;have df:(l2++[(a,vx)])[l.length]?=some (a,vx):=by rw[Ω ai,I.ln];simp
    rw[if_pos rfl];refine⟨?_,D',cs,T1,X c1,c2,c3,fun j u d hu hd=>cq (c4 j u d hu hd)⟩;rcases b3 _ mm _ cy df with⟨_,e2⟩|⟨e,_⟩
    ·rw[e2,ej]
    ·exact absurd Z e
 refine jN h0 ⟨_,⟨G',?_⟩,h⟩;have:=hG.set (d:=s) (κ gd) (v:=.map (some N)) (a:=.mq (gen+1) (kU kf (l++[(a,some y)]))) (.mq _ _ _ (by simp[br]) Z (fun r hr=>by have:G'.own (gen+1)=some r:=hr;rw[hF]at this;cases this;exact fs.to));rwa[gh hh]at this
end
theorem GO[DecidableEq α]{l:List (α×β)}{a:α}{v:β}(I:(l.map (·.1)).Nodup)(h:l[i]?=some (a,v)):cC l a=some v:=by
 induction l generalizing i with
 |nil=>simp at h
 |cons p r J=>rw[J',List.nodup_cons]at I;rw[iz];grind
section
variable(T:cT P){n:Nat}{rest:List Oper}
variable{f':List (Nat×A)}{bx bx':List (Nat×List A)}{gen:Nat}{pos:String}{af:Array Edge}{c:Code}
variable[DecidableEq α]{kf:α→Value}
theorem FR(s i:Nat){m kx}{l:List (α×Option (List D))}{a:α}{y:List D}{zx}(hd:Nat.blt d n=true)(hm:av f m=some (.mq g (kU kf l)))(hl:look f s=some (.mq g (kU kf l)))(hk:av f kx=some (.d (.v (kf a))))(hy:Nat.blt 0 y.length=true)(ht:bk T.l mt=some td)(e2:td.k=.map k e)(he:bk T.l e=some ed)(a8:lC P k kf)(b3:(lv.any fun h=>Nat.beq h g)=true)(e3:ed.z=[zx])(e4:pq ed.k=true)(e5:dn zx=true)(e6:Nat.blt s n=true)(hn:(l.map (·.1)).Nodup)(hi:l[i]?=some (a,some y)){ch}(ff:kU kf (l.set i (a,none))=ch)(fj:gen::cu lv g=lv')(h:WO P C n ops Q rest ⟨(d,.tup [.ptr (gen+2) 0,.d (.v (.bool true))])::(s,.mq gen ch)::f,(gen+2,y.map .d)::bx,lv',gen+3⟩):WO P C n ops Q (⟨some d,.lookup mt m kx true,ty,pos,af,none⟩::rest) ⟨f,bx,lv,gen⟩:=by
 subst ff;subst fj;refine WO.step (st:=⟨f,bx,lv,gen⟩) rfl fun tmps w⟨G,hs⟩=>?_;have cj:=hs.av hm;have U:=hs.av hk;obtain⟨vs,fo,fs⟩:=hs.frame s _ hl;generalize hv:Act.eval ⟨tmps,[]⟩ m=v at cj;generalize ft:Act.eval ⟨tmps,[]⟩ kx=vk at U;obtain⟨b,bs,O,clock,ps,l2,cl,rfl,I⟩:=hs.DC cj (dU b3);obtain⟨b2,ad,_,_,_,_,dx,rfl,_⟩:=hs.DC fs (dU b3);obtain⟨rfl,rfl⟩:b2=b∧ad=bs:=by have:=dx.symm.trans cl;simpa using this
 cases U with|d U=>cases U with|v _ hok=>
 have ei:=κ hy;have X:l2.map (·.1)=l.map (·.1):=by
  refine List.ext_getElem? fun i=>?_;rw[τ,τ];rcases V' i l2.length with hi|hi
  ·have h1:l2[i]?=some l2[i]:=by simp[hi]
   have gb:i<l.length:=by rw[<-I.ln];exact hi
   have h2:l[i]?=some l[i]:=by simp[gb]
   rw[h1,h2];simp only[Option.map_some,I.ks i _ _ h1 h2]
  ·rw[List.getElem?_eq_none hi,List.getElem?_eq_none (by rw[<-I.ln];exact hi)]
   rfl
 have gd:=(δ.1 hi).1;have ai:i<l2.length:=by rw[I.ln];exact gd
 have ej:i<O.size:=by rw[I.mi.1];exact ai
 have aj:O[i]?=some O[i]:=by simp[ej]
 have N:l2[i]?=some l2[i]:=by simp[ai]
 obtain⟨r1,r2,cur,T1,r3,r4,r5,r6⟩:=I.at_ i O[i] a y aj hi;obtain⟨q1,q2,q3⟩:=I.mi.2 i O[i] l2[i] aj N;have cq:l2[i].1=a:=I.ks i _ _ N hi;have en:l2[i].2=.pointer (some ⟨ps (kf a),0,none⟩):=by rw[<-r1];generalize O[i].val=z at q3;generalize l2[i].2=z2 at q3;cases q3;rfl
 have er:cC l2 a=some (.pointer (some ⟨ps (kf a),0,none⟩)):=GO (i:=i) (by rw[X];exact hn) (by rw[N,←en,←cq]);obtain⟨u,h1,h2⟩:=vE (P:=P) (vf:=D.v) (z:=zx) T ht e2 he a8 e3 e4 (.v _ e5) I.hb I.mi (by rw[X];exact hn) a true;rw[er]at h1 h2;simp only[Option.getD_some]at h2;have hu:u=.pointer (some ⟨ps (kf a),0,none⟩):=by cases h2;rfl
 subst hu;generalize gj:ps (kf a)=c at*;have h0:(execOp (Act.eval ⟨tmps,[]⟩) ⟨some d,.lookup mt m kx true,ty,pos,af,none⟩).run P w=.ok (.value (.tuple #[.pointer (some ⟨c,0,none⟩),.bool true])) w:=by unfold execOp;show Sem.run P _ w=.ok _ _;simp only[hv,ft,Sem.run_bind,h1,Result.andThen_ok,Sem.run_pure];rfl
 obtain⟨G1,hF,gq,ha,hle,hc⟩:=hs.split cl (bs':=ad.filter fun q=>!Nat.beq q.1 c) (fun q J=>(List.mem_filter.1 J).1) (.blk c 1 1 y.length 0) (fun _ _ h=>by cases h) (fun c' len cap sz hG h=>by simp only[Row.blk.injEq]at h;obtain⟨rfl,rfl,rfl,rfl,rfl⟩:=h;exact⟨r2,fun q J e=>by have:=(List.mem_filter.1 J).2;rw[e]at this;simp at this,cur,T1,r3,by rw[r4];simp,ω _,by simp[maxLen],ei,by decide,ς _,r5⟩) (cu lv g) (fun g' M=>dH M);have ar:∀{a':α}{x:List D},(a',some x)∈l.set i (a,none)->(a',some x)∈l∧a'≠a:=fun{a' x} hm=>by
  obtain⟨j,hj⟩:=Γ.1 hm;rw[List.getElem?_set]at hj;split at hj;·simp at hj
  ·rename_i hf
   refine⟨ζ hj,fun e=>hf ?_⟩;have cx:=Z'.1 hn;have h6:(l.map (·.1))[i]?=some a:=by simp[hi]
   have h7:(l.map (·.1))[j]?=some a:=by simp[hj,e]
   obtain⟨cy,c1⟩:=δ.1 h6;obtain⟨c6,c7⟩:=δ.1 h7;rcases Nat.lt_trichotomy i j with hg|heq|hh
   ·exact absurd (c1.trans c7.symm) (cx i j cy c6 hg)
   ·exact heq
   ·exact absurd (c7.trans c1.symm) (cx j i c6 cy hh)
 have e0:r9 w (cr C G1) b2 (ad.filter fun q=>!Nat.beq q.1 c) kf (l.set i (a,none)) O clock ps l2:=by
  refine⟨I.hb,I.st,I.mi.mono fun b o u hu hp=>hle.cell b o u hu hp,by rw[I.ln];simp,fun j p q hp J=>?_,fun a1 a2 x1 x2 m1 m2 m3=>I.inj a1 a2 x1 x2 (ar m1).1 (ar m2).1 m3,fun j mm a1 x1 ho hp=>?_⟩
  ·rw[List.getElem?_set]at J
   split at J
   ·rename_i e
    subst e;simp only[Option.some.injEq]at J;subst J;rw[N]at hp;cases hp;exact cq
   ·exact I.ks j p q hp J
  ·have df:=ar (ζ hp)
   have hz:l[j]?=some (a1,some x1):=by
    rw[List.getElem?_set]at hp;split at hp;·simp at hp
    ·exact hp
   obtain⟨t1,t2,e1,T2,t3,t4,t5,t6⟩:=I.at_ j mm a1 x1 ho hz;refine⟨t1,List.mem_filter.2 ⟨t2,?_⟩,e1,T2,t3,t4,t5,fun j u d hu hd=>(t6 j u d hu hd).mono fun b o u hu hp=>hle.cell b o u hu hp⟩
   cases J:Nat.beq (ps (kf a1)) c with
   |false=>rfl
   |true=>have e:=Θ J;exact absurd (a8.inj _ _ (I.inj a1 a x1 y df.1 (ζ hi) (by rw[e,gj]))) df.2
 have di:=hc.set (d:=s) (κ e6) (v:=.map (some b2)) (a:=.mq gen (kU kf (l.set i (a,none)))) (.mq _ _ _ (by simp[br]) Z (fun r hr=>by have:G1.own gen=some r:=hr;rw[gq]at this;cases this;exact e0.to));rw[gh fo]at di;have a6:∀g'∈gen::cu lv g,g'∈gen::(gen+1)::cu lv g∧g'≠gen+1:=fun g' M=>by
  rcases C'.1 M with rfl|M
  ·exact⟨D',by omega⟩
  ·obtain⟨t1,t2⟩:=dH M
   obtain⟨r,hr⟩:=hs.live g' t1;have:=hs.gown g' r hr;simp only at this;exact⟨q' _ (q' _ M),by omega⟩
 obtain⟨G2,dj,hA⟩:=di.E3 (g:=gen+1) (b:=c) (len:=1) (cap:=1) (sz:=y.length) ha (es:=[y]) (v:=.slice (some ⟨c,0,none⟩) 1 1) ⟨rfl,rfl,rfl,by simp,fun i j e d he hd=>by
  cases i with
  |zero=>
    simp only[List.getElem?_cons_zero,Option.some.injEq]at he;subst he;have hD:j<cur.size:=by rw[r4];exact(δ.1 hd).1
    have dt:cur[j]?=some cur[j]:=by simp[hD]
    refine⟨cur[j],?_,(r6 j _ d dt hd).mono fun b o u hu hp=>hle.cell b o u hu hp⟩;rw[Nat.zero_mul,Nat.zero_add,cU r3,dt]
  |succ i=>simp at he⟩ (gen::cu lv g) a6
 have hE:qM [y] (1*y.length-1*y.length)=y.map .d:=by simp[qM]
 rw[hE]at dj;refine dw h0 ⟨_,⟨G2,dj.put (dst:=some d) (dp (dst:=some d) hd) (.tup _ _ rfl (fun j u x hu hx=>?_))⟩,h⟩
 match j with
 |0=>
   simp at hu hx;subst hu;subst hx
   cases hA with
   |sb _ _ _ _ b0 hH a7 hI hp=>
   simp only[Value.slice.injEq,Option.some.injEq,Addr.mk.injEq]at hp;refine .ptr _ _ _ c (by show gen+2<gen+3;omega) ?_ rfl;have a7:G2.box (gen+2)=some b0:=a7;show G2.box (gen+2)=some c;rw[a7,hp.1.1]
 |1=>simp at hu hx;subst hu;subst hx;exact .d (.v _ rfl)
 |j+2=>simp at hx
end
section
variable[dG P]{n:Nat}{c:Code}
variable{bx:List (Nat×List A)}{gen:Nat}
omit [dG P] in
theorem Wd.bY{J}[hnb:NB C J](V:ι->List (Nat×A))(fi)(B:ι->List (Nat×List A))(bi lv' gen')(I:ι->Nat)(order)(i:ι)(O:lV order gen' J=true)(U:qg order f (V i))(M:qb f fi)(hb:kL order bx (B i))(N:mT order bx bi)(hl:uo order lv lv'=true)(X:∀i,Wd P C n c (HK C n (fun i=>⟨V i++fi,B i++bi,lv',gen'⟩) I (I i) Q) ⟨V i++fi,B i++bi,lv',gen'⟩):Wd P C n (.loop c) Q ⟨f,bx,lv,gen⟩:=
 Wd.conv (st':=⟨V i++fi,B i++bi,lv',gen'⟩) (fun _ _ h=>gA.cV order O U M hb N hl h) (Wd.loop (fun i=>⟨V i++fi,B i++bi,lv',gen'⟩) I X i)
theorem Wd.bZ{I}[hnb:NB C I]{V:ι->List (Nat×A)}{fi}{B:ι->List (Nat×List A)}{bi}{J:ι->Nat}(order)(i:ι)(hm:J i<m)(O:lV order gen' I=true)(U:qg order f (V i))(M:qb f fi)(hb:kL order bx (B i))(N:mT order bx bi)(hl:uo order lv lv'=true):
 HK C n (fun i=>⟨V i++fi,B i++bi,lv',gen'⟩) J m Q .normal ⟨f,bx,lv,gen⟩:=⟨i,hm,fun _ _ h=>gA.cV order O U M hb N hl h⟩
variable{y:Code}
omit [dG P] in
theorem ml(I:pj st=true)(h:Wd P C n y Q st):QN (zw P C n y Q) .normal st:=⟨I,h⟩
theorem Mc(I:pj st=true)(h:Q .normal st):QN Q .normal st:=⟨I,h⟩
theorem yG(I:pj st=true)(h:Q .ret st):QN Q .ret st:=⟨I,h⟩
theorem KR(I:pj st=true)(h:Q (.exit id) st):QN Q (.exit id) st:=⟨I,h⟩
omit [dG P] in
theorem LG(h:Wd P C n y Q st):zw P C n y Q .normal st:=h
omit [dG P] in
theorem zA(h:Q .ret st):zw P C n y Q .ret st:=h
omit [dG P] in
theorem Jb(h:Q (.exit id) st):zw P C n y Q (.exit id) st:=h
theorem IB{S:ι->St}{I:ι->Nat}(h:Q (.exit id) st):HK C n S I m Q (.exit id) st:=h
def Ea(f:List (Nat×A))(bx:List (Nat×List A))(gs os:List Nat):List (Nat×A)->Prop
 |[]=>True
 |(t,a')::r=>(∃a,look f t=some a∧eV bx gs os 5 a=a')∧Ea f bx gs os r
theorem aL:∀{V:List (Nat×A)},Ea f bx gs os V->∀t a',look V t=some a'->∃a,Ab.look f t=some a∧eV bx gs os 5 a=a'
 |[],_,t,a',h=>by simp[Ab.look]at h
 |(s,b)::r,⟨h1,h2⟩,t,a',h=>by
   rw[cv]at h;split at h;·grind
   ·exact aL h2 t a' h
def EF(bx:List (Nat×List A))(o:List Nat):Nat->List (List A)->Prop
 |_,[]=>True
 |i,c::r=>(∃c0,bk bx i=some c0∧ia o c0=c)∧EF bx o (i+1) r
theorem EF.get{o}:∀{b:List (List A)}{j:Nat},EF bx o j b->∀(i:Nat)(c:List A),b[i]?=some c->∃c0,bk bx (j+i)=some c0∧ia o c0=c
 |[],_,_,i,c,h=>by simp at h
 |I::r,j,⟨h1,h2⟩,i,c,h=>by
   cases i with
   |zero=>grind
   |succ i=>simp only[List.getElem?_cons_succ]at h;have:=EF.get h2 i c h;grind
theorem QR.mk'(order:List Nat)(M:order.length=k)(I:nodupB (gp b1.length order)=true)(J:(order.all fun g=>lv.any fun h=>Nat.beq h g)=true)(hb:EF bx (gp b1.length order) 0 b1):QR b1 k ⟨f,bx,lv,gen⟩:=
 QR.mk order M I J fun i c h=>by have:=hb.get i c h;grind
end
def vd(P:Program)(fid:FuncId):Prop:=
 ∀(l:Nat)(W:World)(I J b1 o1:Nat)(a:Option Addr)(cap:Nat)(R:World->Prop),cellAt W I J=some (.slice a 0 cap)->cellAt W b1 o1=some (.int .i64 1000)->R W->
   Calls P fid #[.func (.yield l) #[] #[],.pointer (some ⟨I,J,none⟩),.pointer (some ⟨b1,o1,none⟩)] W fun e W'=>(∃v,e=.returned v)∧R W'
section
variable[dG P][GC P C]{n:Nat}
omit [dG P] in
theorem Wd.Kv{g par assign body}(hg:av st.f g=some (.clo fid [.rowd [.sl []],.rowd [.v (.int .i64 1000)]]))(hok:lx P fid)(hit:vd P fid)(h:Q .normal st):
 Wd P C n (.rangeFunc g #[par] assign body) Q st:=by
 intro tmps ds w ⟨G,hs⟩ ⟨Ds,U,cx,a8⟩;have U:ds=Ds.map Aq:=U;subst U;obtain⟨p0,o0,p1,o1,b0,⟨u0,b2,b3⟩,ch⟩:=xh hs hg;obtain⟨a,cap,rfl⟩:=xr b3;refine(wpIn_wide (n:=1)).1 (wpIn_rangeFunc ?_);intro fn _;obtain⟨rec,J⟩:∃rec:LoopState->Option Code->Loop,rec=fun s pe=>{state:=s,pending:=pe,fn,tmps:=tmps,params:=#[par],assign:=assign,body,defers:=w.heap.size}:=⟨_,rfl⟩;obtain⟨I,N⟩:∃I,(w.alloc (.deferred (some []))).alloc (.loop (rec .ready none))=I:=⟨_,rfl⟩;have X:I.heap[w.heap.size+1]?=some (.loop (rec .ready none)):=by rw[<-N];have:=World.alloc_heap_new (w.alloc (.deferred (some []))) (.loop (rec .ready none));rwa[World.size_alloc]at this
 have O:Below w.heap.size w I:=by rw[<-N];exact((Below.refl _ w).alloc (ω _) _).alloc (by simp) _
 have cy:I.heap[w.heap.size]?=some (.deferred (some [])):=by rw[<-N];exact(Below.heap_alloc _ _ _ (by simp)).trans (World.alloc_heap_new w _)
 have cj:bq C n st G tmps I:=(hs.je O).2;have cq:w.heap.size<=I.heap.size:=O.size;have ar:∀{b o u},cellAt w b o=some u->cellAt I b o=some u:=fun{b o u} hu=>by rw[cS (O.block b (eh hu))];exact hu
 have c1:=hs.fr.size
 refine⟨w.heap.size+1,[{target:=.collected w.heap.size,args:=#[]}],I,{target:=.fn (.func fid) #[.pointer (some ⟨p0,o0,none⟩),.pointer (some ⟨p1,o1,none⟩)],args:=#[.func (.yield (w.heap.size+1)) #[] #[]]},I,fid,
  #[.func (.yield (w.heap.size+1)) #[] #[]]++#[.pointer (some ⟨p0,o0,none⟩),.pointer (some ⟨p1,o1,none⟩)],I,?_,?_,?_,?_,fun _=>ω _,?_⟩
 ·rw[<-N,J];exact run_enterLoop_outer _ _ _ _ _
 ·have a6:Act.eval ⟨tmps,Ds.map Aq⟩ g=.func (.func fid) #[] #[.pointer (some ⟨p0,o0,none⟩),.pointer (some ⟨p1,o1,none⟩)]:=by rw[Act.j8 tmps _ []];exact b0
  simp only[resolve,a6];simp[go_sem]
 ·intro f' _;trivial
 ·obtain⟨c6,a7,ad,ai⟩:=hok
  simp only[Sem.run_bind,Sem.run_pure,Result.andThen_ok,invoke,callFunc,run_program,a7,ad,ai,N',if_false]
 refine CallsIn.mono (callsIn_wide.2 (hit (w.heap.size+1) I p0 o0 p1 o1 a cap (fun W'=>W'=I) (ar b2) (ar ch) Z)) ?_;rintro e W3 ⟨⟨v,rfl⟩,rfl⟩;have a1:=run_endLoop (P:=P) X (by rw[J];simp);rw[J]at a1;refine⟨none,_,a1,?_⟩;have cl:∀D,W3.heap[D]?=some (Obj.deferred (some []))->D≠w.heap.size+1:=fun D M e=>by rw[e,X]at M;cases M
 have aj:∀D:Nat,W3.heap[D]?=some (Obj.deferred (some []))->(W3.putObj (w.heap.size+1) (.loop {rec .ready none with state:=.exhausted})).heap[D]?=some (Obj.deferred (some [])):=fun D M=>by rw[World.putObj_heap_other (cl D M)];exact M
 rw[J]at aj;refine⟨⟨w.heap.size::Ds,rfl,?_,fun D M=>?_⟩,_,⟨G,cj.sg X rfl (by omega) _⟩,h⟩;·grind
 ·rcases C'.1 M with rfl|M
  ·grind
  ·obtain⟨h1,h2⟩:=a8 D M
   exact⟨h1,aj D (by rw[O.block D (θ.1 h2).1];exact h2)⟩
theorem GW(h:gA C n st tmps w){I:List (List A)}(M:nodupB gs=true)(N:nodupB os=true)(O:(os.all fun g=>st.lv.any fun h=>Nat.beq h g)=true)(hb:iH st.bx gs os gs=some I):
 gA C n ⟨st.f,ky gs st.gen gs I++st.bx,(List.range os.length).map (I.length+·+st.gen)++st.lv.filter (fun g=>!os.any (Nat.beq g)),I.length+os.length+st.gen⟩ tmps w:=by
 obtain⟨G,hs⟩:=h;obtain⟨_,J⟩:=hs.oK (gs:=gs) (os:=os) (fM M) (fM N) (fun g X=>by obtain⟨y,hy,he⟩:=L'.1 (M'.1 O g X);exact Θ he▸hy) hb;obtain⟨G4,_,U⟩:=hs.zZ hb rfl J;exact⟨G4,U⟩
theorem Wd.JD{g par pos af body}(hg:av st.f g=some (.clo fid [.rowd [.sl es],.rowd [.v (.int .i64 1000)]]))(hok:lx P fid)(hit:wM P fid)(U:vd P fid)(X:es.length<=1000)(ad:Nat.blt par n=true)(ai:Nat.blt d n=true)(gs os:List Nat)(M:nodupB gs=true)(N:nodupB os=true)(O:(os.all fun g=>st.lv.any fun h=>Nat.beq h g)=true){V:List (Nat×A)}{I:List (List A)}(hb:iH st.bx gs os gs=some I)(hm:os.length=m)(hV:∀t a',look V t=some a'->∃a,look st.f t=some a∧eV st.bx gs os 5 a=a')(aj:(V.all fun x=>!Nat.beq x.1 par)=true)(h0:es=[]->b1=I∧k=m)(J:es≠[]->rY P n body ((d,.d (.sl es))::V) I m b1 k)(ar:b1.length=I.length)(h:Q .normal ⟨st.f,ky gs st.gen gs b1++st.bx,(List.range k).map (I.length+·+st.gen)++st.lv.filter (fun g=>!os.any (Nat.beq g)),I.length+k+st.gen⟩):
 Wd P C n (.rangeFunc g #[par] (.region id #[⟨some d,.assign (.tmp par),ty,pos,af,none⟩] false) body) Q st:=by
 rcases Nat.eq_zero_or_pos es.length with hz|hp
 ·have he:es=[]:=List.length_eq_zero_iff.1 hz
  obtain⟨rfl,rfl⟩:=h0 he;subst he;subst hm;intro tmps ds w hs a1;refine Code.wp_mono ?_ (Wd.Kv (Q:=fun e s=>e=.normal∧s=st) hg hok U ⟨rfl,rfl⟩ tmps ds w hs a1);rintro e a w' ⟨hd,a7,a6,rfl,rfl⟩;exact⟨hd,_,GW a6 M N O hb,h⟩
 ·exact aV hg hok hit hp X ad ai gs os M N O hb hm hV aj (J (fun e=>by rw[e]at hp;cases hp)) ar h
end
section
variable{n:Nat}{bx:List (Nat×List A)}{gen:Nat}{pos:String}{af:Array Edge}
def wI(P:Program)(t u:TypeId):Bool:=match P.underlying t,P.underlying u with
 |some (.slice e),some .string=>(match P.underlying e with|some (.int .u8)=>true|_=>false)
 |_,_=>false
theorem CQ{t u}(h:wI P t u=true):∃e,P.underlying t=some (.slice e)∧P.underlying u=some .string∧P.underlying e=some (.int .u8):=by grind[wI]
theorem wB{u}{c:Int}{s}(U:av f x=some (.d (.sl [[.v (.int .u8 c)]])))(hB:wI P t u=true)(hs:ByteArray.empty.push (UInt8.ofNat c.toNat)=s):Pu P C n ⟨f,bx,lv,gen⟩ ⟨dst,.convert t u x,ty,pos,af,none⟩ (.d (.v (.string s))):=by
 subst hs;obtain⟨e,h1,h2,h3⟩:=CQ hB;refine aq fun G tmps w hs=>?_;have M:=hs.av U;generalize N:Act.eval ⟨tmps,[]⟩ x=vx at M;cases M with|d M=>
 cases M with
 |sl b off len cap sz es X hl hc hm O hu hr=>
 have hlen:len=1:=by simpa using hl.symm
 subst hlen;have hz:sz=1:=by have:=O 0 [.v (.int .u8 c)] rfl;simpa using this.symm
 subst hz;have I:=(hu 0 0 (by decide) (by decide)).1;have J:=hr 0 0 [.v (.int .u8 c)] (.v (.int .u8 c)) rfl rfl;have J:X 0 0=.int .u8 c:=uP J;rw[J]at I;have hl:(loadCells ⟨b,off,none⟩ 1).run P w=.ok ([c].map (Value.int .u8)).toArray w:=run_loadCells_list w ⟨b,off,none⟩ [.int .u8 c] fun j v hj=>by
  match j with
  |0=>
    simp at hj;subst hj;have I:cellAt w b off=some (.int .u8 c):=by simpa using(show cellAt w b (off+0*1+0)=some (.int .u8 c)from I)
    exact I
  |j+1=>simp at hj
 refine⟨.string (ByteArray.empty.push (UInt8.ofNat c.toNat)),?_,.d (.v _ (by simp[dn,maxLen]))⟩;show Sem.run P (execOp _ _) w=.ok _ w;unfold execOp;simp only[N,convert,Sem.run_bind,run_underlying h1,run_underlying h2,Result.andThen_ok,run_underlying h3];have hb:=run_bytesToString (P:=P) w ⟨b,off,none⟩ 1 cap [c] hl;simp_all
end
end Go.Ab
namespace Go.Tb
open Go.Ab
variable {l x:List UInt8}{i k u:Nat}{level id a:Int}{α β:Type}{ids:List Int}
variable {j:JV}
variable {e:Ev}
structure ca where
 id:Int
 name:ByteArray
deriving DecidableEq
@[reducible] def ca.c (t:ca):List D:=[ci t.id,cs t.name,ci 0]
def dv(p:Int×Int):List D:=[ci p.1,ci p.2]
def dV:List (Int×Int):=[(0,0)]
@[reducible] def jf (ts:List ca):List D:=[.sl (ts.map ca.c),.sl (dV.map dv),.sl []]
def Lx(ts:List ca):Prop:=(∀t∈ts,0<=t.id∧t.id<=1000000000000000∧cO t.name=0)∧(ts.map ca.id).Nodup
structure bP where
 thread:Int
 serial:Int
 lost:Int
 evs:List Ev
@[reducible] def bP.c (p:bP):List D:=[ci p.thread,ci p.serial,ci p.lost,.sl (p.evs.map Ev.c)]
theorem vD{f:α->β}{l:List α}(h:(l.map f).Nodup)(k):((l.take k).map f).Nodup:=by grind
theorem ly{α β:Type}{f:α->β}{l:List α}(h:(l.map f).Nodup){k:Nat}{x:α}(I:l[k]?=some x):f x∉(l.take k).map f:=by grind[List.mem_iff_getElem?,List.getElem?_eq_some_iff,List.getElem?_take_of_lt,List.pairwise_iff_getElem,pa.map]
abbrev FL(b:Bool):D:=.v (.bool b)
def lq{α:Type}(l:List (α))(f:α->Int):List (Int×Bool):=l.map fun t=>(f t,true)
theorem rC(l:List α)(f:α->Int):(lq l f).map (·.1)=l.map f:=by unfold lq;rw[List.map_map];rfl
@[reducible] def z2:List D:=[ci 0,ci 0]
def tq(ids:List Int)(k:Nat):List (Int×Option (List D)):=(ids.take k).map (fun a=>(a,none))++(ids.drop k).map (fun a=>(a,some z2))
def rZ(ids:List Int)(k:Nat):List (Int×Option (List D)):=(ids.take k).map (fun a=>(a,some z2))
theorem zI(ids:List Int)(k):(rZ ids k).map (·.1)=ids.take k:=by unfold rZ;rw[List.map_map];exact List.map_id _
theorem G9{ids:List Int}{k:Nat}{a:Int}(h:ids[k]?=some a):rZ ids k++[(a,some z2)]=rZ ids (k+1):=by grind[rZ,List.take_add_one]
theorem IK{ids:List Int}{k:Nat}(h:k=ids.length):rZ ids k=tq ids 0:=by subst h;unfold rZ tq;grind
theorem sd{l:List Int}(h:l.Nodup){k:Nat}{x:Int}(I:l[k]?=some x):x∉l.take k:=by have:=ly (f:=id) (by rw[List.map_id];exact h) I;grind
end Go.Tb
namespace Go.Ab
open Go.RowKit
variable {w w':World}{tmps:Array Value}{pv:Nat→Nat→Prop}{x y:Operand}{t g i k e m j b id off d clock sz gen' cap mt t' g2 d0:Nat}{P:Program}{Q':Exit→Act→World→Prop}{fid:FuncId}{lv' lv gs order os:List Nat}{bs:List (Nat×Nat)}{o:Oper}{xs:Array Operand}{fn:Func}{parts:Array (Nat×Operand)}{α ι β:Type}{dst:Option Nat}{hole:Option Value}{R:Value→World→Prop}{ops:Array Oper}{want:Bool}{listed:Array Bool}{T ty:TypeId}{act:Act}
variable {es es2:List (List D)}{f:List (Nat×A)}{G:Gh}{a a':A}{st st':St}{l:List D}{E E':En}{args cells cells' caps:List A}{Q:Exit→St→Prop}{b1:List (List A)}{C:Ctx}
variable {rs:List RV}
variable {I td J ed M N:cY}
section
variable{n:Nat}{bx:List (Nat×List A)}{gen:Nat}{pos:String}{af:Array Edge}
theorem CK(X:av f x=some (.xp g j off l))(N:(lv.any fun h=>Nat.beq h g)=true):
 Pu P C n ⟨f,bx,lv,gen⟩ ⟨dst,.nilCheck x,ty,pos,af,none⟩ (.xp g j off l):=by
 refine aq fun G tmps w hs=>?_;have J:=hs.av X;obtain⟨r,O⟩:=hs.live g (dU N);generalize hv:Act.eval ⟨tmps,[]⟩ x=v at J;have U:=J
 cases J with
 |xp _ _ _ _ _ ad h1 M=>
 have I:=M r O
 cases r with
 |nil=>exact I.elim
 |zero b=>exact I.elim
 |mp b bs=>exact I.elim
 |blk b len cap sz ai=>obtain⟨rfl,h2,h3,h4⟩:=I;refine⟨.pointer (some ⟨b,j*sz+off,none⟩),?_,U⟩;unfold execOp;simp_all
end
end Go.Ab
namespace Go.Tb
open Go.Ab
def HL(l:List Ev):Nat->List Ev|0=>l|_=>[]
def LH(l:List Ev):Nat->D|0=>.v (.slice none 0 0)|_=>.sl (l.map Ev.c)
def vO(last:Option Int)(t:Int):Bool:=match last with|some u=>decide (t<u)|none=>false
def iv:List Ev->Option Int->Int
 |[],_=>0
 |e::r,last=>if dJ e≠0 then dJ e else if vO last e.time=true then 11 else iv r (some e.time)
def fC:List bP->Int
 |[]=>0
 |p::r=>if iv p.evs none≠0 then iv p.evs none else fC r
structure kp where
 ts:List ca
 ds:List (Int×Int)
 ps:List bP
@[reducible] def kp.c(l:kp):List D:=[.sl (l.ts.map ca.c),.sl (l.ds.map dv),.sl [],.sl (l.ps.map bP.c)]
def gm:kp:=⟨[],[],[]⟩
variable {l x:List UInt8}{i k u:Nat}{level id a:Int}{α β:Type}{ids:List Int}
variable {j:JV}
variable {e:Ev}
structure Mg where
 l:kp
 n:Nat
 e:Int
/-! what a line that is accepted holds -/
/-! the events thread by thread -/
def Db(x:yk):Prop:=x.2.map (·.1)=x.1∧x.1.Nodup∧∀p∈x.2,p.2≠[]
theorem GS{l:List (Int×List Ev)}{y:List Ev}{p:Int×List Ev}(hp:p∈dN l a y):p=(a,y)∨p∈l:=by
 induction l with
 |nil=>simp[dN]at hp;exact .inl hp
 |cons q r I=>simp only[dN]at hp;grind
theorem FO{l:List (Int×List Ev)}{y}:(dN l a y).map (·.1)=if a∈l.map (·.1)then l.map (·.1)else l.map (·.1)++[a]:=by
 induction l with
 |nil=>simp[dN]
 |cons p r I=>simp only[dN];grind
theorem Cx{l:List (Int×List Ev)}(h:∀p∈l,p.2≠[])(a):(cC l a).getD []=[]↔a∉l.map (·.1):=by
 induction l with
 |nil=>simp[rz]
 |cons p r I=>rw[iz,J',C'];grind
theorem Db.add{x:yk}(h:Db x)(th:Int)(e:Ev):Db (Cw x th e):=by
 obtain⟨h1,h2,h3⟩:=h;unfold Cw;split;·exact⟨h1,h2,h3⟩
 ·have hm:=Cx h3 th
  refine⟨?_,?_,fun p hp=>?_⟩;·grind[FO,cC]
  ·grind
  ·rcases GS hp with rfl|hp
   ·simp
   ·grind
def oU(m:List (Int×List Ev)):Nat:=(m.map fun p=>p.2.length).sum
end Go.Tb
