import Derived.Test.YtpiaiiopakafhaaGreatDoorQ2
import Derived.Lib.AppendStr
import Derived.Lib.Builder
import Derived.Lib.UnsafeStr
import Derived.Lib.LaidU8
import Derived.LaidLaws
import Derived.HandedShaped
import Derived.Lay
import Derived.Lib.AtoiAllCases
import Derived.Lib.ItoaNum
import Derived.Lib.SplitLaws
import Derived.Lib.Join
import Derived.Recover
import Derived.RangeFuncLeaves
import Derived.RangeFuncCalls
namespace Go.Ab
open Go.RowKit Go.MapKept
variable {w w':World}{tmps:Array Value}{pv:Nat→Nat→Prop}{x y:Operand}{t g i k e m j id b off gen d gen' clock sz J mt g2 t' cap d0:Nat}{P:Program}{Q':Exit→Act→World→Prop}{lv' lv gs order os:List Nat}{bs:List (Nat×Nat)}{parts:Array (Nat×Operand)}{fid:FuncId}{xs:Array Operand}{o:Oper}{fn:Func}{dst:Option Nat}{ops:Array Oper}{α ι H β:Type}{hole:Option Value}{R:Value→World→Prop}{want:Bool}{listed:Array Bool}{T ty:TypeId}{l1 l2:List Oper}{ids:List Int}{act:Act}
variable {es es2:List (List D)}{f:List (Nat×A)}{G:Gh}{a a':A}{st st':St}{l:List D}{args cells cq' caps cq cells' X:List A}{E E':En}{Q:Exit→St→Prop}{b1 I:List (List A)}{C:Ctx}
variable {rs:List RV}
variable {td ed:cV}
def iU{α γ:Type}(kf:α->Value)(fn:γ->List D)(l:List (α×List γ)):List (Value×List (List D)):=l.map fun p=>(kf p.1,p.2.map fn)
section
variable{γ:Type}{kf:α→Value}{fn:γ→List D}
theorem BN{l:List (α×List γ)}{k x}(h:(iU kf fn l)[i]?=some (k,x)):∃p,l[i]?=some p∧k=kf p.1∧x=p.2.map fn:=by grind[iU,Option.map_eq_some_iff,Prod.mk.injEq]
theorem Ag{l k x}(h:(k,x)∈iU kf fn l):∃p∈l,k=kf p.1∧x=p.2.map fn:=by obtain⟨i,hi⟩:=ψ.1 h;obtain⟨p,hp,e⟩:=BN hi;grind
structure r8(w:World)(pv:Nat->Nat->Prop)(b:Nat)(bs:List (Nat×Nat))(kf:α->Value)(fn:γ->List D)(l:List (α×List γ))(hole:Option Value)(me:Array MapEntry)(clock:Nat)(ps:Value->Option Nat):Prop where
 hb:w.heap[b]?=some (.map me clock)
 st:Stamped me clock
 mi:jE w pv kf (fun x:List γ=>D.sl (x.map fn)) me l
 inj:∀p p':α×List γ,∀c,p∈l->p'∈l->hole≠some (kf p.1)->hole≠some (kf p'.1)->ps (kf p.1)=some c->ps (kf p'.1)=some c->kf p.1=kf p'.1
 at_:∀(i:Nat)(m:MapEntry)(p:α×List γ),me[i]?=some m->l[i]?=some p->hole≠some (kf p.1)->nn w (ps (kf p.1)) bs m.val (p.2.map fn)
theorem r8.of{v l}(h:nK w pv (.mp (some b) bs) v (iU kf fn l) hole):v=.map (some b)∧∃I clock ps,r8 w pv b bs kf fn l hole I clock ps:=by
 obtain⟨h1,I,clock,h2,h3,h4,ps,h5,J⟩:=h;refine⟨h1,I,clock,ps,h2,h3,⟨by rw[h4];simp[iU],fun i m p hm hp=>?_⟩,fun p M c hp N q1 q2 q3 q4=>?_,fun i m p hm hp O=>?_⟩
 ·obtain⟨q1,q2,q3,_⟩:=J i m (kf p.1) (p.2.map fn) hm (by simp[iU,hp])
  grind
 ·exact h5 _ _ (p.2.map fn) (M.2.map fn) c (R'.2 ⟨p,hp,rfl⟩) (R'.2 ⟨M,N,rfl⟩) q1 q2 q3 q4
 ·exact(J i m (kf p.1) (p.2.map fn) hm (by simp[iU,hp])).2.2.2 O
theorem r8.to{l J ps}(h:r8 w pv b bs kf fn l hole J clock ps):nK w pv (.mp (some b) bs) (.map (some b)) (iU kf fn l) hole:=by
 refine⟨rfl,J,clock,h.hb,h.st,by rw[h.mi.1];simp[iU],ps,fun k U x X c I M q1 q2 q3 q4=>?_,fun i m k x hm I=>?_⟩
 ·obtain⟨p,hp,rfl,rfl⟩:=Ag I
  obtain⟨O,N,rfl,rfl⟩:=Ag M;exact h.inj p O c hp N q1 q2 q3 q4
 ·obtain⟨p,hp,rfl,rfl⟩:=BN I
  obtain⟨q1,q2,q3⟩:=h.mi.2 i m p hm hp;exact⟨q1,q2,q3,h.at_ i m p hm hp⟩
theorem nn.mono{bs' o v l}(h:nn w o bs v l)(I:∀c lim,o=some c->(c,lim)∈bs->(c,lim)∈bs'∧w'.heap[c]?=w.heap[c]?):nn w' o bs' v l:=by
 cases o with
 |none=>exact h
 |some c=>obtain⟨cap,sz,cur,T,J,a2,a3,a4,a5,M,N,O,a9⟩:=h;obtain⟨q1,q2⟩:=I c _ rfl a2;exact⟨cap,sz,cur,T,J,q1,a3,a4,a5,M,N,by rw[q2];exact O,a9⟩
end
section
variable(T:cG P){n:Nat}{rest:List Oper}
variable{bx:List (Nat×List A)}{pos:String}{af:Array Edge}{c:Code}
variable{γ:Type}[DecidableEq α]{kf:α→Value}{fn:γ→List D}
omit [DecidableEq α] in
theorem bq.FB(hs:bq C n st G tmps w){v l U}(X:bK (bu C G st.gen w) v (.mo g (iU kf fn l) hole U))(O:g∈st.lv):
 ∃b bs M clock ps,G.own g=some (.mp (some b) bs)∧v=.map (some b)∧r8 w (cf C G) b bs kf fn l hole M clock ps:=by
 obtain⟨r,J⟩:=hs.live g O
 cases X with
 |mo _ _ _ _ _ ad h1 N=>
 have I:=N r J
 cases r with
 |nil=>exact I.elim
 |zero b=>exact I.elim
 |blk b len cap sz ai=>exact I.elim
 |mp b bs=>
   cases b with
   |none=>exact I.elim
   |some b=>
   obtain⟨h2,M,clock,ps,h3⟩:=r8.of I;exact⟨b,bs,M,clock,ps,J,h2,h3⟩
theorem Ju{t}(hd:Nat.blt d n=true)(h:WO P C n ops Q rest ⟨(d,.mo gen [] none none)::f,bx,gen::lv,gen+1⟩):WO P C n ops Q (⟨some d,.makeMap t none,ty,pos,af,none⟩::rest) ⟨f,bx,lv,gen⟩:=by
 refine WO.step (st:=⟨f,bx,lv,gen⟩) Z fun tmps w⟨G,hs⟩=>?_;obtain⟨U,N,J⟩:=hs.EY;refine dE (v:=.map (some w.heap.size)) (w':=w.alloc (.map #[] 0)) ?_ ⟨_,⟨U,N.put (dst:=some d) (dp (dst:=some d) hd) ?_⟩,h⟩
 ·unfold execOp
  show Sem.run P _ w=.ok _ _;simp[Instr.makeMap,Sem.run_bind,Result.andThen]
 ·cases J with
  |mp _ _ _ O h1 M=>
  refine .mo _ _ _ _ _ O ⟨h1,fun b hb=>by cases hb⟩ (fun r J=>?_);have I:=M r J
  cases r with
  |nil=>exact I.elim
  |zero b=>exact I.elim
  |blk b len cap sz ad=>exact I.elim
  |mp b bs=>
    cases b with
    |none=>exact I.elim
    |some b=>
    obtain⟨q1,X,clock,q2,q3,q4,_⟩:=I;exact⟨q1,X,clock,q2,q3,q4,fun _=>none,fun _ _ _ _ _ h=>(by cases h),fun i m k x hm hk=>(by simp at hk)⟩
theorem W.JD(gq I){es}(hq:bh bx gq=some X)(hj:X[I]?=some (.mo g es hole none))(ai:(lv.any fun h=>Nat.beq h g)=true)(h:∀b,W P C n c Q ⟨f,(gq,X.set I (.mo g es hole (some b)))::bx,lv,gen⟩):W P C n c Q ⟨f,bx,lv,gen⟩:=by
 intro tmps w ⟨G,hs⟩;obtain⟨r,aj⟩:=hs.live g (er ai);obtain⟨b0,J,T0,p1,p2,p3,p4,p5⟩:=hs.box gq X hq;have a1:I<J.size:=by rw[p3];exact(δ.1 hj).1
 have M:J[I]?=some J[I]:=by simp[a1]
 have N:=p5 I _ _ M hj;generalize hv:J[I]=v at N M
 cases N with
 |mo _ _ _ _ _ a6 h1 O=>
 have U:=O r aj
 cases r with
 |nil=>exact U.elim
 |zero b=>exact U.elim
 |blk b len cap sz b2=>exact U.elim
 |mp b bs=>
   cases b with
   |none=>exact U.elim
   |some b=>
   have a7:v=.map (some b):=U.1;refine h b tmps w ⟨G,hs.fZ hq (by simp) fun b3 b4 T3 q1 q2 q3 i x' a' ad ha=>?_⟩;by_cases e:I=i
   ·subst e
    rw[C' (δ.1 hj).1]at ha;simp only[Option.some.injEq]at ha;subst ha;rw[p1]at q1;cases q1;rw[p2]at q2;cases q2;rw[M]at ad;cases ad;exact .mo _ _ _ _ _ a6 ⟨h1.1,fun b' a8=>by cases a8;exact a7⟩ O
   ·grind
theorem ua{vf:β->D}{I:cV}(ht:bh T.l mt=some td)(O:td.k=.map k e)(he:bh T.l e=some I)(M:lN P k kf){zx}(U:I.z=[zx])(X:oY I.k=true){N:Array MapEntry}(hb:w.heap[b]?=some (.map N clock)){l:List (α×β)}(h:jE w pv kf vf N l)(hn:(l.map (·.1)).Nodup)(a:α):
 ∃v,(Instr.lookup mt (.map (some b)) (kf a) false).run P w=.ok v w∧((cC l a=none∧(∀p∈l,p.1≠a)∧v=zx)∨∃(j:Nat)(m:MapEntry)(p:α×β),N[j]?=some m∧l[j]?=some p∧p.1=a∧v=m.val∧cC l a=some p.2∧bN w pv v (vf p.2)):=by
 obtain⟨d,hd,hk⟩:=M.ty;have hm:=T.ya ht O;rcases h.find M hn a with⟨h1,h2,h3⟩|⟨j,en,p,h1,h2,h3,h4,h5,h6,h7⟩
 ·obtain⟨i,J,hi,_,_,ad,ai,_,_,aj⟩:=T.info he
  have a1:J=zx:=by rw[U]at ai;cases hke:I.k<;>rw[hke]at X aj<;>cases J<;>simp_all[Value.cells,oY]
  subst a1;refine⟨J,?_,.inl ⟨h3,h2,rfl⟩⟩;unfold Instr.lookup;simp only[Sem.run_bind,run_underlying hm,Result.andThen_ok,Go.MapKept.run_getObj_map hb,Sem.run_pure,run_checkKey hd (hk a),h1];have:(zeroValue e).run P w=.ok J w:=by simp[zeroValue,typeInfo,Sem.run_bind,run_program,hi,ad,Result.andThen]
  simp_all
 ·refine⟨en.val,?_,.inr ⟨j,en,p,h2,h3,h4,rfl,h6,h7⟩⟩
  unfold Instr.lookup;simp only[Sem.run_bind,run_underlying hm,Result.andThen_ok,Go.MapKept.run_getObj_map hb,Sem.run_pure,run_checkKey hd (hk a),h1];rfl
theorem FZ{N:cV}{m O}{l:List (α×List γ)}{a:α}{ob}(hm:av f m=some (.mo g (iU kf fn l) none ob))(hk:av f O=some (.d (.v (kf a))))(ht:bh T.l mt=some td)(U:td.k=.map k e)(he:bh T.l e=some N)(X:lN P k kf)(ad:(lv.any fun h=>Nat.beq h g)=true)(ai:N.z=[.slice none 0 0])(aj:oY N.k=true)(hn:(l.map (·.1)).Nodup){r}(hr:((cC l a).getD []).map fn=r):
 Pu P C n ⟨f,bx,lv,gen⟩ ⟨dst,.lookup mt m O false,ty,pos,af,none⟩ (.d (.sl r)):=by
 subst hr;refine aq fun G tmps w hs=>?_;have J:=hs.av hm;have I:=hs.av hk;generalize hv:Act.eval ⟨tmps,[]⟩ m=v at J;generalize a1:Act.eval ⟨tmps,[]⟩ O=vk at I;obtain⟨b,bs,me,clock,ps,a6,rfl,M⟩:=hs.FB J (er ad);cases I with|d I=>cases I with|v _ hok=>
 obtain⟨u,h1,h2⟩:=ua (P:=P) T ht U he X ai aj M.hb M.mi hn a;refine⟨u,?_,?_⟩
 ·unfold execOp
  show Sem.run P _ w=.ok _ _;simp only[hv,a1,Sem.run_bind,h1,Result.andThen_ok,Sem.run_pure];rfl
 ·rcases h2 with⟨q1,_,rfl⟩|⟨j,mm,p,_,_,_,_,q1,q2⟩
  ·rw[q1];exact .d .nil
  ·rw[q1];exact .d q2
theorem vZ(I J){t p}{M:List A}{es}(hp:av f p=some (.ptr I J))(O:bh bx I=some M)(hj:M[J]?=some (.mo g es hole (some b)))(N:kA T f bx (.load t p)=some (.mo g es hole (some b))):Pu P C n ⟨f,bx,lv,gen⟩ ⟨dst,.load t p,ty,pos,af,none⟩ (.d (.v (.map (some b)))):=by
 intro G tmps w hs;refine(Pu.ev (P:=P) (C:=C) (n:=n) (st:=⟨f,bx,lv,gen⟩) T N G tmps w hs).mono fun v w'⟨h1,h2⟩=>⟨h1,?_⟩
 cases h2 with
 |mo _ _ _ _ _ _ h3 _=>rw[h3.2 b rfl];exact .d (.v _ rfl)
end
theorem bN.K9{v}(h:bN w pv v (.sl es)):∃s,∀(e:List D),e∈es->e.length=s:=by
 cases h with
 |nil=>exact⟨0,by simp⟩
 |emp=>exact⟨0,by simp⟩
 |sl b off len cap sz _ u hl I hm hs hu J=>exact⟨sz,fun e he=>by obtain⟨i,hi⟩:=ψ.1 he;exact hs i e hi⟩
section
variable(T:cG P){n:Nat}{rest:List Oper}
variable{bx:List (Nat×List A)}{pos:String}{af:Array Edge}{c:Code}
variable{γ:Type}[DecidableEq α]{kf:α→Value}{fn:γ→List D}
theorem GS(gq M:Nat){m kx}{l:List (α×List γ)}{a:α}(hd:Nat.blt d n=true)(hm:av f m=some (.d (.v (.map (some b)))))(X:bh bx gq=some cq)(hj:cq[M]?=some (.mo g (iU kf fn l) none (some b)))(hk:av f kx=some (.d (.v (kf a))))(ht:bh T.l mt=some td)(cl:td.k=.map k e)(he:bh T.l e=some ed)(cx:lN P k kf)(cy:(lv.any fun h=>Nat.beq h g)=true)(c1:ed.z=[.slice none 0 0])(c6:oY ed.k=true)(hn:(l.map (·.1)).Nodup){x}(hx:((cC l a).getD []).map fn=x)(c7:gen::(gen+1)::bR lv g=lv')(df:cq.set M (.mo gen (iU kf fn l) (some (kf a)) (some b))=cq')(h:WO P C n ops Q rest ⟨(d,.own (gen+1) x)::f,(gq,cq')::bx,lv',gen+2⟩):WO P C n ops Q (⟨some d,.lookup mt m kx false,ty,pos,af,none⟩::rest) ⟨f,bx,lv,gen⟩:=by
 subst df;subst c7;subst hx;refine WO.step (st:=⟨f,bx,lv,gen⟩) rfl fun tmps w⟨G,hs⟩=>?_;have ai:=hs.av hm;have aj:=hs.av hk;generalize hv:Act.eval ⟨tmps,[]⟩ m=v at ai;generalize di:Act.eval ⟨tmps,[]⟩ kx=vk at aj;cases ai with|d ai=>cases ai with|v _ gj=>
 cases aj with|d aj=>cases aj with|v _ hok=>
 obtain⟨b0,ad,T0,p1,p2,p3,p4,p5⟩:=hs.box gq cq X;have dj:M<ad.size:=by rw[p3];exact(δ.1 hj).1
 have a7:ad[M]?=some ad[M]:=by simp[dj]
 have U:=p5 M _ _ a7 hj;have a8:ad[M]=.map (some b):=by generalize ad[M]=y at U;cases U with|mo _ _ _ _ _ _ h1 _=>exact h1.2 b Z
 rw[a8]at U;obtain⟨b',bs,me,clock,ps,dt,b2,I⟩:=hs.FB U (er cy);simp only[Value.map.injEq,Option.some.injEq]at b2;subst b2;obtain⟨u,h1,h2⟩:=ua (P:=P) T ht cl he cx c1 c6 I.hb I.mi hn a;have h0:(execOp (Act.eval ⟨tmps,[]⟩) ⟨some d,.lookup mt m kx false,ty,pos,af,none⟩).run P w=.ok (.value u) w:=by unfold execOp;show Sem.run P _ w=.ok _ _;simp only[hv,di,Sem.run_bind,h1,Result.andThen_ok,Sem.run_pure]
 have key:∀(x:List (List D))(r2:Row)(bs':List (Nat×Nat)),(∀p∈bs',p∈bs)->(∀b' bs',r2≠.mp b' bs')->
  (∀c len cap sz a6,r2=.blk c len cap sz a6->(c,a6)∈bs∧(∀p∈bs',p.1≠c)∧∃cur T,w.heap[c]?=some (.cells cur T (0,0))∧cur.size=cap*sz∧len<=cap∧cap<=maxLen∧0<sz∧0<len∧a6<=len*sz∧fV cur)->
  (∀(i:Nat)(O:MapEntry)(p:α×List γ),me[i]?=some O->l[i]?=some p->some (kf a)≠some (kf p.1)->nn w (ps (kf p.1)) bs' O.val (p.2.map fn))->
  bN w (cf C G) u (.sl x)->(∃s,(∀(e:List D),e∈x->e.length=s)∧sI r2 u x.length s)->
  ∃J,bq C n ⟨(d,.own (gen+1) x)::f,(gq,cq.set M (.mo gen (iU kf fn l) (some (kf a)) (some b)))::bx,gen::(gen+1)::bR lv g,gen+2⟩ J (Act.put ⟨tmps,[]⟩ (some d) u).tmps w:=by
  intro x r2 bs' ch dx ec ei ej fs;obtain⟨J,en,e0,gm,hle,e3⟩:=hs.split dt ch r2 dx ec (bR lv g) (fun g' e4=>cQ e4);have cj:r8 w (cf C J) b bs' kf fn l (some (kf a)) me clock ps:=⟨I.hb,I.st,I.mi.mono fun b o u hu hp=>hle.cell b o u hu hp,fun p p' c hp e5 _ _ q3 q4=>I.inj p p' c hp e5 (by simp) (by simp) q3 q4,ei⟩;have e6:=e3.fZ (f:=f) (bx:=bx) (lv:=gen::(gen+1)::bR lv g) (gen:=gen+2) X (cells':=cq.set M (.mo gen (iU kf fn l) (some (kf a)) (some b))) (by simp) fun b3 hc T3 q1 q2 q3 i x' a' b4 ha=>by
   by_cases e:M=i
   ·subst e
    rw[C' (δ.1 hj).1]at ha;simp only[Option.some.injEq]at ha;subst ha;rw[en,p1]at q1;cases q1;rw[p2]at q2;cases q2;rw[a7,a8]at b4;cases b4;exact .mo _ _ _ _ _ (by simp[bu]) ⟨rfl,fun b' ff=>by cases ff;rfl⟩ (fun r hr=>by have:J.own gen=some r:=hr;rw[e0]at this;cases this;exact cj.to)
   ·grind
  refine⟨J,e6.put (dst:=some d) (dp (dst:=some d) hd) (.own _ _ x (ej.mono fun b o u hu hp=>hle.cell b o u hu hp) (by simp[bu]) (fun r hr=>?_))⟩;have:J.own (gen+1)=some r:=hr;grind
 refine dE h0 ?_;rcases h2 with⟨q1,q2,rfl⟩|⟨j,O,p,q1,q2,q3,q4,q5,q6⟩
 ·obtain⟨J,N⟩:=key [] .nil bs (fun _ h=>h) (fun _ _ h=>by cases h) (fun _ _ _ _ _ h=>by cases h) (fun i O p hm hp _=>I.at_ i O p hm hp (by simp)) .nil ⟨0,by simp,rfl,rfl⟩
  refine⟨_,⟨J,N⟩,?_⟩;grind
 ·subst q3;subst q4
  have a1:=I.at_ j O p q1 q2 (by simp);rw[q5]at h;obtain⟨s,b5⟩:=q6.K9
  cases hps:ps (kf p.1)with
  |none=>
    rw[hps]at a1;rcases a1 with⟨t1,t2⟩|⟨c,off,t1⟩
    ·obtain⟨J,N⟩:=key (p.2.map fn) .nil bs (fun _ h=>h) (fun _ _ h=>by cases h) (fun _ _ _ _ _ h=>by cases h) (fun i O p hm hp _=>I.at_ i O p hm hp (by simp)) q6 ⟨s,b5,t1,by rw[t2];rfl⟩
     exact⟨_,⟨J,N⟩,h⟩
    ·obtain⟨J,N⟩:=key (p.2.map fn) (.zero c) bs (fun _ h=>h) (fun _ _ h=>by cases h) (fun _ _ _ _ _ h=>by cases h) (fun i O p hm hp _=>I.at_ i O p hm hp (by simp)) q6 ⟨s,b5,off,t1⟩
     exact⟨_,⟨J,N⟩,h⟩
  |some c=>
    rw[hps]at a1;obtain⟨cap,sz,cur,T1,t1,t2,t3,t4,t5,t6,t7,t8,t9,t10⟩:=a1
    obtain⟨J,N⟩:=key (p.2.map fn) (.blk c (p.2.map fn).length cap sz ((p.2.map fn).length*sz)) (bs.filter fun q=>!Nat.beq q.1 c) (fun q X=>(List.mem_filter.1 X).1) (fun _ _ h=>by cases h)
     (fun c' ft gb hf gd h=>by simp only[Row.blk.injEq]at h;obtain⟨rfl,rfl,rfl,rfl,rfl⟩:=h;exact⟨t2,fun q X e=>by have:=(List.mem_filter.1 X).2;rw[e]at this;simp at this,cur,T1,t8,t9,t6,t7,t4,t5,χ _,t10⟩)
     (fun i m2 p2 fj b6 fo=>(I.at_ i m2 p2 fj b6 (by simp)).mono fun c' lim e1 e2=>⟨List.mem_filter.2 ⟨e2,by
      have:c'≠c:=fun e=>by subst e;have:=I.inj p p2 c' (ζ q2) (ζ b6) (by simp) (by simp) hps e1;exact fo (by rw[this])
      cases X:Nat.beq c' c with
      |false=>rfl
      |true=>exact absurd (Γ X) this⟩,rfl⟩) q6 ⟨sz,t3,t1,rfl,rfl,rfl⟩
    exact⟨_,⟨J,N⟩,h⟩
theorem AS{vf:β->D}(ht:bh T.l mt=some td)(aj:td.k=.map k e)(U:lN P k kf){M}(hb:w.heap[b]?=some (.map M clock)){l:List (α×β)}(ad:Stamped M clock)(h:jE w pv kf vf M l)(X:(l.map (·.1)).Nodup)(a:α)(a1:dy (kf a)=true){v}{y:β}(hv:bN w pv v (vf y)):
 ∃N I,(Instr.mapUpdate mt (.map (some b)) (kf a) v).run P w=.ok () {w with heap:=w.heap.setIfInBounds b (.map N I)}∧Stamped N I∧jE w pv kf vf N (dm l a y)∧
   ∀(i:Nat)(m:MapEntry)(p:α×β),N[i]?=some m->(dm l a y)[i]?=some p->(p=(a,y)∧m.val=v)∨(p.1≠a∧∃m0,M[i]?=some m0∧l[i]?=some p∧m0.val=m.val):=by
 obtain⟨d,hd,hk⟩:=U.ty;have hm:=T.ya ht aj;rcases h.find U X a with⟨h1,h2,_⟩|⟨j,en,p,h1,h2,h3,h4,h5,_,_⟩
 ·refine⟨M.push ⟨kf a,v,clock⟩,clock+1,?_,stamped_push ad (fun x hx=>?_),?_,?_⟩
  ·unfold Instr.mapUpdate
   simp only[Sem.run_bind,run_underlying hm,Result.andThen_ok,Go.MapKept.run_getObj_map hb,run_checkKey hd (hk a),h1];exact Go.MapKept.run_setObj_map _ hb
  ·obtain⟨i,hi⟩:=ψ.1 hx
   have ai:M[i]?=some x:=by simpa using hi
   have O:i<l.length:=by rw[<-h.1];exact(θ.1 ai).1
   rw[(h.2 i x l[i] ai (by simp[O])).1];exact fun e=>h2 l[i] (by simp) (U.inj _ _ e)
  ·rw[iS h2]
   refine⟨by simp[h.1],fun i m p hm hp=>?_⟩;rw[Array.getElem?_push]at hm;split at hm
   ·rename_i hi
    rw[Θ (by rw[hi,h.1];exact χ _)]at hp;grind
   ·have O:i<l.length:=by rw[<-h.1];exact(θ.1 hm).1
    rw[Ω O]at hp;exact h.2 i m p hm hp
  ·rw[iS h2]
   intro i m p hm hp;rw[Array.getElem?_push]at hm;split at hm
   ·rename_i hi
    rw[Θ (by rw[hi,h.1];exact χ _)]at hp;grind
   ·have O:i<l.length:=by rw[<-h.1];exact(θ.1 hm).1
    grind
 ·refine⟨M.modify j fun e=>{e with key:=kf a,val:=v},clock,?_,stamped_modify ad j _ (fun _ _=>rfl) (fun e _ he=>by rw[h2]at he;cases he;exact h5.symm),?_,?_⟩
  ·unfold Instr.mapUpdate
   simp only[Sem.run_bind,run_underlying hm,Result.andThen_ok,Go.MapKept.run_getObj_map hb,run_checkKey hd (hk a),h1,h2,Option.map_some,Option.getD_some,h5,run_keyThatStays (hk a)];exact Go.MapKept.run_setObj_map _ hb
  ·subst h4
   rw[wD X h3];refine⟨by simp[h.1],fun i m q hm J=>?_⟩;rw[Array.getElem?_modify]at hm;rw[List.getElem?_set]at J;by_cases hij:j=i;·grind
   ·rw[if_neg hij]at hm J
    exact h.2 i m q hm J
  ·subst h4
   rw[wD X h3];intro i m q hm J;rw[Array.getElem?_modify]at hm;rw[List.getElem?_set]at J;by_cases hij:j=i;·grind
   ·rw[if_neg hij]at hm J
    refine .inr ⟨fun e=>hij ?_,m,hm,J,rfl⟩;have h6:(l.map (·.1))[j]?=some p.1:=by simp[h3]
    have h7:(l.map (·.1))[i]?=some p.1:=by simp[J,e]
    obtain⟨a6,a7⟩:=δ.1 h6;obtain⟨a8,b0⟩:=δ.1 h7;have b2:=List.pairwise_iff_getElem.1 X;grind
open Classical in
theorem Ia(gq X:Nat){m kx}{l:List (α×List γ)}{a:α}{y:List γ}(hm:av f m=some (.d (.v (.map (some b)))))(hq:bh bx gq=some cq)(hj:cq[X]?=some (.mo g (iU kf fn l) (some (kf a)) (some b)))(hk:av f kx=some (.d (.v (kf a))))(hx:av f x=some (.own g2 (y.map fn)))(ht:bh T.l mt=some td)(fs:td.k=.map k e)(M:lN P k kf)(ft:(lv.any fun h=>Nat.beq h g)=true)(en:(lv.any fun h=>Nat.beq h g2)=true)(gb:Nat.beq g2 g=false)(hn:(l.map (·.1)).Nodup)(gd:gen::bR (bR lv g) g2=lv')(gj:cq.set X (.mo gen (iU kf fn (dm l a y)) none none)=cq')(h:WO P C n ops Q rest ⟨f,(gq,cq')::bx,lv',gen+1⟩):WO P C n ops Q (⟨none,.mapUpdate mt m kx x,ty,pos,af,none⟩::rest) ⟨f,bx,lv,gen⟩:=by
 subst gj;subst gd;refine WO.step (st:=⟨f,bx,lv,gen⟩) rfl fun tmps w⟨G,hs⟩=>?_;have b4:=hs.av hm;have b5:=hs.av hk;have di:=hs.av hx;generalize hv:Act.eval ⟨tmps,[]⟩ m=v at b4;generalize gm:Act.eval ⟨tmps,[]⟩ kx=vk at b5;generalize hf:Act.eval ⟨tmps,[]⟩ x=vx at di;cases b4 with|d b4=>cases b4 with|v _ hO=>
 cases b5 with|d b5=>cases b5 with|v _ hok=>
 obtain⟨r2,a1⟩:=hs.live g2 (er en)
 cases di with
 |own _ _ _ hg hN hh=>
 obtain⟨s,ho,a6⟩:=hh r2 a1;have hy:g2≠g:=fun e=>by subst e;simp at gb
 obtain⟨b0,a7,T0,p1,p2,p3,p4,p5⟩:=hs.box gq cq hq;have hA:X<a7.size:=by rw[p3];exact(δ.1 hj).1
 have dj:a7[X]?=some a7[X]:=by simp[hA]
 have ai:=p5 X _ _ dj hj;have dt:a7[X]=.map (some b):=by generalize a7[X]=y at ai;cases ai with|mo _ _ _ _ _ _ h1 _=>exact h1.2 b Z
 rw[dt]at ai;obtain⟨b',bs,me,clock,ps,dx,ec,N⟩:=hs.FB ai (er ft);simp only[Value.map.injEq,Option.some.injEq]at ec;subst ec;obtain⟨J,I,e0,e5,ch,ed⟩:=AS (P:=P) T (y:=y) ht fs M N.hb N.st N.mi hn a hok hg;have h0:(execOp (Act.eval ⟨tmps,[]⟩) ⟨none,.mapUpdate mt m kx x,ty,pos,af,none⟩).run P w=.ok .skip {w with heap:=w.heap.setIfInBounds b (.map J I)}:=by unfold execOp;show Sem.run P _ w=.ok _ _;simp only[hv,gm,hf,Sem.run_bind,e0,Result.andThen_ok,Sem.run_pure]
 obtain⟨cj,cl⟩:=heap_set (o':=Obj.map J I) N.hb;obtain⟨bs',oc,e6,fj,ei⟩:∃(bs':List (Nat×Nat))(oc:Option Nat),(∀p∈bs,p∈bs')∧(∀p∈bs',p∈bs∨∃len cap sz,r2=.blk p.1 len cap sz p.2)∧(nn w oc bs' vx (y.map fn)∧∀c,oc=some c->∃len cap sz ad,r2=.blk c len cap sz ad):=by
  cases r2 with
  |nil=>exact⟨bs,none,fun _ h=>h,fun _ h=>.inl h,.inl ⟨a6.1,A' a6.2⟩,fun c O=>by cases O⟩
  |zero c=>exact⟨bs,none,fun _ h=>h,fun _ h=>.inl h,.inr ⟨c,a6⟩,fun c O=>by cases O⟩
  |mp _ _=>exact a6.elim
  |blk c len cap sz ad=>
    obtain⟨t1,t2,t3,t4⟩:=a6;obtain⟨_,_,_,cur,T1,u1,u2,u3,u4,u5,u6,u7,u8⟩:=hs.row g2 c len cap sz ad a1;refine⟨(c,ad)::bs,some c,fun p hp=>ω _ hp,fun p hp=>?_,⟨cap,sz,cur,T1,by rw[t1,t2],?_,fun e he=>(ho e he).trans t3,u5,by omega,by omega,u4,u1,u2,u8⟩,fun c' hD=>by cases hD;exact⟨len,cap,sz,ad,rfl⟩⟩
    ·rcases N'.1 hp with rfl|hp
     ·exact .inr ⟨len,cap,sz,rfl⟩
     ·exact .inl hp
    ·rw[t2,←t4];exact Ψ
 obtain⟨G',hE,hF,hle,hG⟩:=hs.join (w':={w with heap:=w.heap.setIfInBounds b (.map J I)}) dx a1 hy fj (fun c O=>cl c (fun e=>O (by rw[e]))) (fun c O=>⟨J,I,by cases O;exact cj⟩) (by simp) rfl rfl rfl (bR (bR lv g) g2) (fun g' hH=>by obtain⟨t1,t2⟩:=cQ hH;obtain⟨t3,t4⟩:=cQ t1;exact⟨t3,t4,t2⟩);have a8:∀{c:Nat}{cs:Array Value}{T:TypeId}{ff:Nat×Nat},w.heap[c]?=some (.cells cs T ff)->(w.heap.setIfInBounds b (.map J I))[c]?=w.heap[c]?:=fun{c cs T ff} O=>cl c (fun e=>by rw[e,N.hb]at O;cases O);have cx:∀{o:Option Nat}{v:Value}{z:List (List D)}{cy c1:List (Nat×Nat)},nn w o cy v z->(∀p∈cy,p∈c1)->nn {w with heap:=w.heap.setIfInBounds b (.map J I)} o c1 v z:=fun{o v z cy c1} hz hI=>by
  cases o with
  |none=>exact hz
  |some c=>obtain⟨cap,sz,cur,T1,t1,t2,t3,t4,t5,t6,t7,t8,t9⟩:=hz;exact⟨cap,sz,cur,T1,t1,hI _ t2,t3,t4,t5,t6,t7,(a8 t8).trans t8,t9⟩
 have b2:∀(p:α×List γ)(c:Nat),p∈l->p.1≠a->ps (kf p.1)=some c->∃lim,(c,lim)∈bs:=fun p c hp b6 O=>by
  obtain⟨i,hi⟩:=ψ.1 hp;have c6:i<me.size:=by rw[N.mi.1];exact(δ.1 hi).1
  have:=N.at_ i me[i] p (by simp[c6]) hi (fun e=>b6 (M.inj _ _ (J' e)).symm);rw[O]at this;obtain⟨cap,sz,cur,T1,t1,t2,_⟩:=this;exact⟨_,t2⟩
 have aj:∀p∈dm l a y,p.1≠a->p∈l:=fun p hp b6=>by
  obtain⟨i,hi⟩:=ψ.1 hp;have c6:i<J.size:=by rw[ch.1];exact(δ.1 hi).1
  rcases ed i J[i] p (by simp[c6]) hi with⟨e,_⟩|⟨_,m0,_,e,_⟩
  ·rw[e]at b6;exact absurd rfl b6
  ·exact ζ e
 have c7:∀(c:Nat),oc=some c->∀lim,(c,lim)∉bs:=fun c O lim hm=>by obtain⟨len,cap,sz,ad,e⟩:=ei.2 c O;rw[e]at a1;exact(hs.sub g b bs c lim dx hm).2.2.1 _ _ _ _ _ a1
 have fo:r8 {w with heap:=w.heap.setIfInBounds b (.map J I)} (cf C G') b bs' kf fn (dm l a y) none J I (fun k=>if k=kf a then oc else ps k):=by
  refine⟨cj,e5,ch.mono fun b o u hu hp=>hle.cell b o u hu hp,fun p p' c hp ej _ _ q3 q4=>?_,fun i mm p hJ hp _=>?_⟩
  ·by_cases e1:p.1=a
   ·by_cases U:p'.1=a
    ·rw[e1,U]
    ·rw[e1,if_pos rfl]at q3
     rw[if_neg (fun e=>U (M.inj _ _ e))]at q4;obtain⟨lim,hm⟩:=b2 p' c (aj p' ej U) U q4;exact absurd hm (c7 c q3 lim)
   ·rw[if_neg (fun e=>e1 (M.inj _ _ e))]at q3
    by_cases U:p'.1=a
    ·rw[U,if_pos rfl]at q4
     obtain⟨lim,hm⟩:=b2 p c (aj p hp e1) e1 q3;exact absurd hm (c7 c q4 lim)
    ·rw[if_neg (fun e=>U (M.inj _ _ e))]at q4
     exact N.inj p p' c (aj p hp e1) (aj p' ej U) (fun e=>e1 (M.inj _ _ (J' e)).symm) (fun e=>U (M.inj _ _ (J' e)).symm) q3 q4
  ·rcases ed i mm p hJ hp with⟨e,U⟩|⟨e,m0,U,e3,e4⟩
   ·rw[e,U]
    simp only[if_true];exact cx ei.1 (fun _ h=>h)
   ·rw[if_neg (fun e'=>e (M.inj _ _ e')),←e4]
    exact cx (N.at_ i m0 p U e3 (fun e'=>e (M.inj _ _ (J' e')).symm)) e6
 refine kp h0 ⟨_,⟨G',hG.fZ (f:=f) (bx:=bx) (lv:=gen::bR (bR lv g) g2) (gen:=gen+1) hq (by simp) fun b3 hP T3 q1 q2 q3 i x' a' df ha=>?_⟩,h⟩;by_cases e:X=i
 ·subst e
  have hK:X<cq.length:=(δ.1 hj).1;rw[C' hK]at ha;simp only[Option.some.injEq]at ha;subst ha;rw[hE,p1]at q1;cases q1;rw[show({w with heap:=w.heap.setIfInBounds b (.map J I)}:World).heap[b0]?=w.heap[b0]?from a8 p2,p2]at q2;cases q2;rw[dj,dt]at df;cases df;exact .mo _ _ _ _ _ (by simp[bu]) ⟨rfl,fun b' hM=>by cases hM⟩ (fun r hr=>by have:G'.own gen=some r:=hr;rw[hF]at this;cases this;exact fo.to)
 ·rw[List.getElem?_set_ne e]at ha
  exact q3 i x' a' df ha
end
open Go.RowKit
def bd(c:UInt8):List D:=[.v (.int .u8 c.toNat)]
def rB(s:ByteArray):List (List D):=s.data.toList.map bd
theorem wm(s:ByteArray):(rB s).length=s.size:=by rw[rB,η,Array.length_toList];rfl
theorem wH{s}:∀(e:List D),e∈rB s->e.length=1:=by intro e he;obtain⟨c,_,rfl⟩:=R'.1 he;rfl
theorem E3{arr:Array Value}{s:ByteArray}(h:∀(i:Nat)(c:UInt8),s.data[i]?=some c->arr[i]?=some (.int .u8 c.toNat)):
 ∀(i j:Nat)(e:List D)(d:D),(rB s)[i]?=some e->e[j]?=some d->∃u,arr[i*1+j]?=some u∧bN w pv u d:=by
 intro i j e d hi hj;simp only[rB,τ,ν]at hi;obtain⟨c,I,rfl⟩:=hi
 match j with
 |0=>simp[bd]at hj;subst hj;refine⟨_,by rw[Nat.mul_one,Nat.add_zero];exact h i c (by simpa using I),.v _ ?_⟩;have:=c.toNat_lt;simp[dy,IntKind.min,IntKind.max,IntKind.signed,IntKind.bits];omega
 |j+1=>simp[bd]at hj
theorem gH{s:ByteArray}{c:UInt8}(h:s.data[i]?=some c):(Lib.strCells s)[i]?=some (.int .u8 c.toNat):=by simp only[Lib.strCells,τ,Array.getElem?_toList,h,Option.map_some]
theorem lH(s):∀u∈Lib.strCells s,u.oneCell'=true:=fun u hu=>by
 obtain⟨i,hi⟩:=ψ.1 hu;have hj:i<s.data.size:=by have:=(δ.1 hi).1;rw[Lib.strCells_length]at this;exact this
 have I:s.data[i]?=some s.data[i]:=by simp[hj]
 rw[gH I]at hi;rw[<-J' hi];rfl
theorem yO:∀u∈(Value.int IntKind.u8 0).cells.toList,u.oneCell'=true:=fun u hu=>by simp[Value.cells]at hu;subst hu;rfl
theorem sg(a b):Lib.strCells (a++b)=Lib.strCells a++Lib.strCells b:=by simp[Lib.strCells]
theorem rl(a b:ByteArray):(a++b).size=a.size+b.size:=by simp[ByteArray.size_append]
theorem yg{v T s}(h:bK E v (.xs g (rB s)))(I:v=.slice none 0 0∨∃b n c cs f,v=.slice (some ⟨b,0,none⟩) n c∧0<n∧E.w.heap[b]?=some (.cells cs T f)):bK E v (.bf g T s):=by
 cases h with
 |xs _ _ _ U h1 h=>
 refine .bf v g T s U h1 fun r X=>?_;have J:=h r X
 cases r with
 |nil=>exact⟨J.1,by rw[<-wm,J.2];rfl⟩
 |zero b=>obtain⟨h2,h3⟩:=J;grind
 |mp b bs=>exact J.elim
 |blk b len cap sz ad=>
   obtain⟨h2,h3,h4,h5,h6⟩:=J;rcases I with I|⟨b',n,c,cs,f,I,hn,M⟩
   ·grind
   ·rw[I]at h2
    simp only[Value.slice.injEq,Option.some.injEq,Addr.mk.injEq,and_true]at h2;obtain⟨rfl,rfl,rfl⟩:=h2;have N:sz=1:=by
     have h0:0<(rB s).length:=by omega
     rw[<-h5 _ (List.getElem_mem h0),wH _ (List.getElem_mem h0)]
    subst N;refine⟨I,by rw[<-wm];exact h3,rfl,h4,⟨cs,f,M⟩,fun i O hc=>?_⟩;obtain⟨u,h7,h8⟩:=h6 i 0 (bd O) (.v (.int .u8 O.toNat)) (by simp only[rB,τ,Array.getElem?_toList,hc,Option.map_some]) rfl;cases h8;grind
structure uN(P:Program)(w:World)(A:Array TypeId)(ty:TypeId)(x2:Value)(m:ByteArray)(T:TypeId):Prop where
 emp:m.size=0->(Builtin.append_ A ty #[.slice none 0 0,x2]).run P w=.ok (.slice none 0 0) w
 new:0<m.size->(Builtin.append_ A ty #[.slice none 0 0,x2]).run P w=.ok (.slice (some ⟨w.heap.size,0,none⟩) m.size (grownCap w m.size 0 T))
  (w.drew.alloc (.cells ((Lib.strCells m).toArray++Builtin.zeroCells (Value.int .u8 0).cells (grownCap w m.size 0 T-m.size)) T))
 room:∀(b n cap:Nat)(cur:Array Value),w.heap[b]?=some (.cells cur T (0,0))->n+m.size<=cap->n+m.size<=cur.size->
  (Builtin.append_ A ty #[.slice (some ⟨b,0,none⟩) n cap,x2]).run P w=.ok (.slice (some ⟨b,0,none⟩) (n+m.size) cap) (w.setRow b (cur.toList.take n++Lib.strCells m++cur.toList.drop (n+m.size)).toArray)
 grow:∀(b n cap:Nat)(olds:List Value),olds.length=n->(∀j u,olds[j]?=some u->w.cell? ((⟨b,0,none⟩:Addr).add j)=some u)->cap<n+m.size->n+m.size<=140737488355328->
  (Builtin.append_ A ty #[.slice (some ⟨b,0,none⟩) n cap,x2]).run P w=.ok (.slice (some ⟨w.heap.size,0,none⟩) (n+m.size) (grownCap w (n+m.size) cap T))
   (w.drew.alloc (.cells (olds.toArray++(Lib.strCells m).toArray++Builtin.zeroCells (Value.int .u8 0).cells (grownCap w (n+m.size) cap T-(n+m.size))) T))
theorem uN.string{t u}{i:TypeInfo}(I:P.underlying t=some (.slice T))(hu:P.underlying u=some .string)(hi:P.info? T=some i)(N:i.zero=some (.int .u8 0))(hs:i.size=1)(hb:i.bytes=1){m:ByteArray}(hm:m.size<=140737488355328):
 uN P w #[t,u] ty (.string m) m T:=by
 refine⟨fun h0=>?_,fun h0=>?_,fun b n cap cur U h1 h2=>Lib.run_append_room_string (P:=P) w t u ty T i I hu hi hs b n cap cur U m h1 h2,fun b n cap M X J h1 h2=>?_⟩
 ·have O:=Lib.run_firstCells_string (P:=P) w 1 m
  rw[h0]at O;simp[Builtin.append_,run_underlying I,run_underlying hu,sizeOf,typeInfo,hi,hs,Builtin.lenOf,h0,O]
 ·have hr:=run_append_nil_string (P:=P) w t u ty T i (.int .u8 0) I hu hi N m h0 (by omega) (by rw[hb];omega)
  have e1:(m.data.map fun b=>Value.int .u8 b.toNat)=(Lib.strCells m).toArray:=by apply Array.ext';simp[Lib.strCells]
  grind
 ·exact Lib.run_append_grow_string (P:=P) w t u ty T i (.int .u8 0) I hu hi N ⟨b,0,none⟩ n cap M (by rw[hs];omega) J m h1 (by omega) (by rw[hb];exact growslice_fits (by omega) (by omega))
theorem uN.one{t}{i:TypeInfo}(M:P.underlying t=some (.slice T))(hi:P.info? T=some i)(O:i.zero=some (.int .u8 0))(hs:i.size=1)(hb:i.bytes=1){a:Addr}{c}{m:ByteArray}(hm:0<m.size)(ad:m.size<=140737488355328)(I:∀j u,(Lib.strCells m)[j]?=some u->w.cell? (a.add j)=some u):uN P w #[t,t] ty (.slice (some a) m.size c) m T:=by
 have hl:(Lib.strCells m).length=m.size*i.size:=by rw[Lib.strCells_length,hs,Nat.mul_one]
 refine⟨fun h0=>by omega,fun h0=>?_,fun b n cap cur U h1 h2=>?_,fun b n cap N ho J h1 h2=>?_⟩
 ·have X:=run_append_nil (P:=P) w t ty T i (.int .u8 0) M hi O a m.size c (Lib.strCells m) hl I h0 (by omega) (by rw[hb];omega)
  grind
 ·have X:=run_append_room (P:=P) w t ty T i M hi b n cap cur U a m.size c (Lib.strCells m) hl I (Lib.strCells_oneCell m) h1 (by rw[hs,Nat.mul_one,Lib.strCells_length];exact h2)
  grind
 ·exact run_append_grow (P:=P) w t ty T i (.int .u8 0) M hi O ⟨b,0,none⟩ n cap N (by rw[hs];omega) J a m.size c (Lib.strCells m) hl I h1 (by omega) (growslice_fits (by omega) (by rw[hb];omega))
section
variable{n:Nat}
theorem vq (h:bq C n st G tmps w) {r} (hg:G.own g=some r) {v:Value} {T} {s:ByteArray} (hv:v.oneCell'=true) (hx:Al w r v T s) {A x2} {m:ByteArray} (ha:uN P w A ty x2 m T) (hb:s.size+m.size≤140737488355328):
    ∃ v' w',(Builtin.append_ A ty #[v,x2]).run P w=.ok v' w'∧∃ G':Gh,G'.box=G.box∧bq C n { st with lv:=st.gen::bR st.lv g,gen:=st.gen+1 } G' tmps w'∧bK (bu C G' (st.gen+1) w') v' (.bf st.gen T (s++m)):=by
  have hlen:(rB (s++m)).length=s.size+m.size:=by rw[wm,rl]
  have hmx:s.size+m.size≤maxLen:=by simp only[maxLen];omega
  have hlv:∀ g'∈bR st.lv g,g'∈st.lv∧g'≠g:=fun g' hg'=>cQ hg'
  have newB:∀ (cap:Nat) (arr:Array Value),fV arr→arr.size=cap→s.size+m.size≤cap→cap≤maxLen→0 < s.size+m.size→(∃ rest,arr.toList=Lib.strCells (s++m)++rest) →
      ∃ G':Gh,G'.box=G.box∧bq C n { st with lv:=st.gen::bR st.lv g,gen:=st.gen+1 } G' tmps (w.drew.alloc (.cells arr T)) ∧
        bK (bu C G' (st.gen+1) (w.drew.alloc (.cells arr T))) (.slice (some ⟨w.heap.size,0,none⟩) (s.size+m.size) cap) (.bf st.gen T (s++m)):=by
    intro cap arr h1c h1 h2 h3 h4 ⟨rest,h5⟩
    have hb':Below w.heap.size w (w.drew.alloc (.cells arr T)):=((Below.refl _ w).drew).alloc (χ _) _
    have hblk:(w.drew.alloc (.cells arr T)).heap[w.heap.size]? = some (.cells arr T (0,0)):=heap_alloc_new w.drew _
    obtain⟨G',hG,hs',hr'⟩:=(h.newRow true hb' hblk (cap:=cap) (sz:=1) (es:=rB (s++m)) (by rw[h1,Nat.mul_one]) h1c (by rw[hlen];exact h2) h3 Nat.one_pos (by rw[hlen];exact h4) wH
      (E3 fun i c hc=>by
        have:=gH hc
        rw[←Array.getElem?_toList,h5,Ω (by rw[δ] at this;exact this.1)]
        exact this) (fun x=>x=g) (bR st.lv g) hlv).B2
    rw[hlen] at hr'
    exact⟨G',hG,hs',yg hr' (.inr ⟨_,_,_,arr,(0,0),rfl,h4,hblk⟩)⟩
  cases r with
  | zero b=>exact hx.elim
  | mp b bs=>exact hx.elim
  | nil=>
    obtain⟨rfl,hs0⟩:=hx
    have e0:s++m=m:=by
      have:s=ByteArray.empty:=by
        apply ByteArray.ext
        exact Array.eq_empty_of_size_eq_zero hs0
      rw[this];simp
    by_cases hm:m.size=0
    · refine⟨_,w,ha.emp hm,?_⟩
      obtain⟨G',hG,hs',hr'⟩:=(h.pq (m:=true) hg (es:=rB (s++m)) (v:=.slice none 0 0) ⟨rfl,rfl,A' (by rw[hlen];omega)⟩ (bR st.lv g) hlv).B2
      exact⟨G',hG,hs',yg hr' (.inl Z)⟩
    · have hge:=grownCap_ge w m.size 0 T
      have hcm:=grownCap_le_maxLen w m.size 0 T (by omega)
      refine⟨_,_,ha.new (by omega),?_⟩
      have:=newB (grownCap w m.size 0 T) ((Lib.strCells m).toArray++Builtin.zeroCells (Value.int .u8 0).cells (grownCap w m.size 0 T - m.size)) (by have:=rv (l1:=[]) (k:=grownCap w m.size 0 T - m.size) (by simp) (lH m) yO;exact aB fun u hu=>this.of u (by simpa using hu)) (by
        have hz1:(Value.int IntKind.u8 0).cells.size=1:=rfl
        simp only[Array.size_append,List.size_toArray,size_zeroCells,hz1,Lib.strCells_length]
        omega) (by omega) hcm (by omega) ⟨_,by rw[e0];simp;rfl⟩
      rw[show s.size+m.size=m.size by omega] at this
      exact this
  | blk b len cap sz pub=>
    obtain⟨rfl,h2,rfl,rfl,⟨cs,f,hT⟩,h6⟩:=hx
    obtain⟨hmine,hnb,huniq,cur,T',hcur,hcs,hlc,hcm,_,hpos,_,hone⟩:=h.row g b len cap 1 0 hg
    rw[hcur] at hT
    simp only[Option.some.injEq,Obj.cells.injEq] at hT
    obtain⟨rfl,rfl,rfl⟩:=hT
    subst h2
    have htk:cur.toList.take s.size=Lib.strCells s:=by
      apply List.ext_getElem?
      intro t
      rw[List.getElem?_take]
      split
      · rename_i hlt
        have hc:s.data[t]? = some (s.data[t]'hlt):=Array.getElem?_eq_getElem hlt
        have h7:=h6 t _ hc
        rw[cP hcur] at h7
        rw[gH hc]
        simpa using h7
      · rename_i hge
        rw[List.getElem?_eq_none (by rw[Lib.strCells_length];omega)]
    by_cases hroom:s.size+m.size≤cap
    · have hfit:s.size+m.size≤cur.size:=by omega
      refine⟨_,_,ha.room b s.size cap cur hcur hroom hfit,?_⟩
      obtain⟨G',hG,hs',hr'⟩:=(h.tu true (g:=g) (b:=b) (len:=s.size) (cap:=cap) (sz:=1) (arr:=(cur.toList.take s.size++Lib.strCells m++cur.toList.drop (s.size+m.size)).toArray) (es:=rB (s++m)) (by simpa [iB] using hg) hcur (by simp[Lib.strCells_length];omega) (mH hone (lH m)) (fun t ht=>by simp[iB] at ht) (by omega) (by omega) wH
        (E3 fun i c hc=>by
          have:=gH hc
          rw[List.getElem?_toArray,htk,←sg,Ω (by rw[δ] at this;exact this.1)]
          exact this) (bR st.lv g) hlv).B2
      rw[hlen] at hr'
      exact⟨G',hG,hs',yg hr' (.inr ⟨b,_,_,_,(0,0),rfl,by omega,setRow_heap w b cur _ _ (0,0) hcur⟩)⟩
    · have hge:=grownCap_ge w (s.size+m.size) cap T'
      have hcm':=grownCap_le_maxLen w (s.size+m.size) cap T' (by omega)
      refine⟨_,_,ha.grow b s.size cap (Lib.strCells s) (Lib.strCells_length s) (fun j u hj=>?_) (by omega) hb,?_⟩
      · have hj':j < s.data.size:=by have:=(δ.1 hj).1;rw[Lib.strCells_length] at this;exact this
        have hc:s.data[j]? = some s.data[j]:=by simp[hj']
        rw[gH hc] at hj
        have h7:=h6 j _ hc
        rw[J' hj] at h7
        unfold Addr.add
        split
        · rename_i e;subst e;simpa [cellAt] using h7
        · simpa [cellAt] using h7
      · exact newB (grownCap w (s.size+m.size) cap T') _ (by have:=rv (k:=grownCap w (s.size+m.size) cap T' - (s.size+m.size)) (lH s) (lH m) yO;exact aB fun u hu=>this.of u (by simpa using hu)) (by
          have hz1:(Value.int IntKind.u8 0).cells.size=1:=rfl
          simp only[Array.size_append,List.size_toArray,size_zeroCells,hz1,Lib.strCells_length]
          omega) (by omega) hcm' (by omega) ⟨_,by rw[sg];simp[M'];rfl⟩
end
section
variable(T:cG P){n:Nat}{rest:List Oper}
variable{bx:List (Nat×List A)}{pos:String}{af:Array Edge}
theorem yy{u}(J:o.op=.call ⟨.builtin .append,#[x,y],#[t,u]⟩){I}(h:(Builtin.append_ #[t,u] o.type #[act.eval x,act.eval y]).run P w=.ok I w'):(execOp act.eval o).run P w=.ok (.value I) w':=by
 unfold execOp;rw[J];show Sem.run P (do let d←resolve act.eval ⟨.builtin .append,#[x,y],#[t,u]⟩ o.type;invoke d.target d.args) w=_;simp only[resolve,invoke,builtin,Sem.run_bind,Sem.run_pure,Result.andThen_ok,List.map_toArray,U',List.map_nil,h]
def ym(d:cV):Bool:=(Nat.beq d.n 1&&Nat.beq d.b 1&&rV d.z [.int .u8 0])&&(match d.k with|.int _=>true|_=>false)
theorem cG.byte{d:cV}(h:bh T.l e=some d)(hb:ym d=true):∃i,P.info? e=some i∧i.zero=some (.int .u8 0)∧i.size=1∧i.bytes=1:=by
 simp only[ym,μ]at hb;obtain⟨i,z,hi,h1,h2,M,I,_,_,N⟩:=T.info h;have U:=Γ hb.1.1.1;have X:=Γ hb.1.1.2;have O:=sT hb.1.2;have J:=hb.2;refine⟨i,hi,?_,by omega,by omega⟩;rw[M];rw[O]at I;cases hkd:d.k<;>rw[hkd]at J N<;>first|(cases J;done)|skip
 cases z<;>simp_all[Value.cells]
theorem Cw{u}{U X:cV}{s m:ByteArray}(hx:av f x=some (.bf g e s))(hy:av f y=some (.d (.v (.string m))))(ht:bh T.l t=some td)(hk:td.k=.slice e)(hu:bh T.l u=some U)(ad:U.k=.str)(he:bh T.l e=some X)(ai:ym X=true)(aj:(lv.any fun h=>Nat.beq h g)=true)(hd:Nat.blt d n=true)(hb:s.size+m.size<=140737488355328){r}(M:s++m=r)(a1:gen::bR lv g=lv')(h:WO P C n ops Q rest ⟨(d,.bf gen e r)::f,bx,lv',gen+1⟩):WO P C n ops Q (⟨some d,.call ⟨.builtin .append,#[x,y],#[t,u]⟩,ty,pos,af,none⟩::rest) ⟨f,bx,lv,gen⟩:=by
 subst M;subst a1;refine WO.step (st:=⟨f,bx,lv,gen⟩) rfl fun tmps w⟨G,hs⟩=>?_;have M:=hs.av hx;have I:=hs.av hy;obtain⟨r,N⟩:=hs.live g (er aj);generalize hv:Act.eval ⟨tmps,[]⟩ x=v at M;generalize a6:Act.eval ⟨tmps,[]⟩ y=v2 at I
 cases M with
 |bf _ _ _ _ b4 h1 O=>
 cases I with|d I=>cases I with|v _ _=>
 obtain⟨i,hi,hz,a7,a8⟩:=T.byte he ai;have b0:P.underlying u=some .string:=T.kr hu ad;obtain⟨v',w',J,G',_,b2,b3⟩:=vq (ty:=ty) hs N h1 (O r N) (uN.string (P:=P) (w:=w) (ty:=ty) (T.gN ht hk) b0 hi hz a7 a8 (m:=m) (by omega)) hb;rw[<-hv,←a6]at J;exact dE (yy rfl J) ⟨_,⟨G',b2.put (dst:=some d) (dp (dst:=some d) hd) b3⟩,h⟩
theorem Ay{s:ByteArray}{c:Int}(hx:av f x=some (.bf g e s))(hy:av f y=some (.d (.sl [[.v (.int .u8 c)]])))(ht:bh T.l t=some td)(hk:td.k=.slice e)(he:bh T.l e=some ed)(b3:ym ed=true)(b4:(lv.any fun h=>Nat.beq h g)=true)(hd:Nat.blt d n=true)(m:ByteArray)(hm:m.size=1)(b5:∀b,m.data[0]?=some b->(b.toNat:Int)=c)(hb:s.size+1<=140737488355328){r}(N:s++m=r)(b6:gen::bR lv g=lv')(h:WO P C n ops Q rest ⟨(d,.bf gen e r)::f,bx,lv',gen+1⟩):WO P C n ops Q (⟨some d,.call ⟨.builtin .append,#[x,y],#[t,t]⟩,ty,pos,af,none⟩::rest) ⟨f,bx,lv,gen⟩:=by
 subst N;subst b6;refine WO.step (st:=⟨f,bx,lv,gen⟩) rfl fun tmps w⟨G,hs⟩=>?_;have N:=hs.av hx;have I:=hs.av hy;obtain⟨r,U⟩:=hs.live g (er b4);generalize hv:Act.eval ⟨tmps,[]⟩ x=v at N;generalize ch:Act.eval ⟨tmps,[]⟩ y=v2 at I
 cases N with
 |bf _ _ _ _ di h1 a6=>
 cases I with|d I=>cases I with
 |sl b2 J df a7 cj _ u2 X dj dt cl cq I=>
 simp only[Ξ,List.length_nil,Nat.zero_add]at X;subst X;have a8:cj=1:=by have:=cl 0 _ rfl;simpa using this.symm
 subst a8;have ad:=(cq 0 0 (by omega) (by omega)).1;have ai:=I 0 0 _ _ rfl rfl;obtain⟨b0,aj⟩:∃b0,m.data[0]?=some b0:=⟨m.data[0]'(by have:m.data.size=1:=hm;omega),by have:m.data.size=1:=hm;simp[this]⟩;have O:∀j q,(Lib.strCells m)[j]?=some q->w.cell? ((⟨b2,J,none⟩:Addr).add j)=some q:=by
  intro j q hq;have hj:j=0:=by have:=(δ.1 hq).1;rw[Lib.strCells_length,hm]at this;omega
  subst hj;rw[gH aj,b5 b0 aj]at hq;generalize u2 0 0=z at ad ai;cases ai;cases hq;have cx:w.cell? ⟨b2,J+0*1+0,none⟩=some (.int .u8 c):=ad;simpa[Addr.add]using cx
 obtain⟨i,hi,hz,cy,c1⟩:=T.byte he b3;have a1:=uN.one (P:=P) (w:=w) (ty:=ty) (c:=a7) (T.gN ht hk) hi hz cy c1 (a:=⟨b2,J,none⟩) (m:=m) (by omega) (by omega) O;rw[hm]at a1;obtain⟨v',w',M,G',_,c6,c7⟩:=vq (ty:=ty) hs U h1 (a6 r U) a1 (by rw[hm];exact hb);rw[<-hv,←ch]at M;exact dE (yy rfl M) ⟨_,⟨G',c6.put (dst:=some d) (dp (dst:=some d) hd) c7⟩,h⟩
theorem DJ(k:Nat){e}(he:bh T.l e=some ed)(hz:rV ed.z [.pointer none,.slice none 0 0]=true)(hd:Nat.blt d n=true)(h:WO P C n ops Q rest ⟨(d,.ptr gen 0)::f,(gen,[.np gen e false,.bf (gen+1) k .empty])::bx,(gen+1)::lv,gen+2⟩):WO P C n ops Q (⟨some d,.alloc e,ty,pos,af,none⟩::rest) ⟨f,bx,lv,gen⟩:=by
 refine WO.step (st:=⟨f,bx,lv,gen⟩) Z fun tmps w⟨G,hs⟩=>?_;obtain⟨i,z,hi,_,_,aj,U,_,_,_⟩:=T.info he;rw[sT hz]at U;have N:z.cells=#[.pointer none,.slice none 0 0]:=by apply Array.ext';simpa using U
 obtain⟨G1,hle,a1,a6⟩:=hs.sM z.cells e [.any,.any] (by rw[N];rfl) (fun i u hu=>by
  rw[N]at hu
  match i with
  |0=>simp at hu;subst hu;rfl
  |1=>simp at hu;subst hu;rfl
  |i+2=>simp at hu) (fun i u a hu O=>by
  match i with
  |0=>simp at O;subst O;exact .any _
  |1=>simp at O;subst O;exact .any _
  |i+2=>simp at O)
 have J:(w.alloc (.cells z.cells e)).heap[w.heap.size]?=some (.cells z.cells e (0,0)):=heap_alloc_new w _;have a7:G1.box gen=some w.heap.size:=by
  cases a6 with
  |ptr _ _ _ b hg hb hx=>simp only[Value.pointer.injEq,Option.some.injEq,Addr.mk.injEq,and_true]at hx;rw[hx];exact hb
 obtain⟨G2,a8,X,b0⟩:=(a1.pT true (gen::lv |>.tail) (fun _ h=>h)).B2;have I:G2.box gen=some w.heap.size:=by rw[a8];exact a7
 have b2:=yg (T:=k) (s:=.empty) (g:=gen+1) b0 (.inl Z);have ad:=bq.Bc (i:=1) (a':=.bf (gen+1) k .empty) X X Z Z (cells:=[.any,.any]) (g0:=gen) (by simp[bh]) (v:=.slice none 0 0) (fun b cs T' hb M=>by rw[I]at hb;cases hb;rw[J]at M;simp only[Option.some.injEq,Obj.cells.injEq]at M;rw[<-M.1,N];rfl) (fun _ _=>rfl) b2;have ai:=bq.Bc (i:=0) (a':=.np gen e false) ad ad Z Z (cells:=[.any,.bf (gen+1) k .empty]) (g0:=gen) (by simp[bh]) (v:=.pointer none) (fun b cs T' hb M=>by rw[I]at hb;cases hb;rw[J]at M;simp only[Option.some.injEq,Obj.cells.injEq]at M;rw[<-M.1,N];rfl) (fun _ _=>rfl) (.np _ gen e w.heap.size (by simp[bu];omega) I ⟨_,_,J⟩ false Z);have b3:bq C n ⟨f,(gen,[.np gen e false,.bf (gen+1) k .empty])::bx,(gen+1)::lv,gen+2⟩ G2 tmps (w.alloc (.cells z.cells e)):=by refine{ai with box:=fun g' c hc=>?_};refine ai.box g' c ?_;grind[cZ]
 refine dE (v:=.pointer (some ⟨w.heap.size,0,none⟩)) (w':=w.alloc (.cells z.cells e)) ?_ ⟨_,⟨G2,b3.put (dst:=some d) (dp (dst:=some d) hd) (.ptr _ gen 0 w.heap.size (by simp[bu]) I Z)⟩,h⟩;unfold execOp;show Sem.run P _ w=_;simp only[Instr.alloc,zeroValue,typeInfo,hi,aj,newVar,newRow,Sem.run_bind,run_program,run_newObj,Result.andThen_ok,Sem.run_pure];rfl
end
structure nG(P:Program)(e:TypeId)(f:FuncId):Prop where
 used:∀(b:Nat)(w:World),w.cell? ⟨b,0,none⟩=some (.pointer (some ⟨b,0,none⟩))->Calls P f #[.pointer (some ⟨b,0,none⟩)] w fun e w'=>e=.returned (.tuple #[])∧w'=w
 fresh:∀(b:Nat)(w:World),w.cell? ⟨b,0,none⟩=some (.pointer none)->w.shape? b=some (e,2)->w.frozen? ⟨b,0,none⟩=false->
  Calls P f #[.pointer (some ⟨b,0,none⟩)] w fun e w'=>e=.returned (.tuple #[])∧w'=w.setCell ⟨b,0,none⟩ (.pointer (some ⟨b,0,none⟩))
theorem AG{o}{cs:Array Value}{fr}(h:w.heap[b]?=some (.cells cs T fr))(v):w.setCell ⟨b,o,none⟩ v=w.setRow b (cs.setIfInBounds o v):=by
 have I:=(θ.1 h).1;have e:w.heap.modify b (fun|.cells c elem frozen=>Obj.cells (c.setIfInBounds o v) elem frozen|o=>o)=w.heap.modify b (fun|.cells _ elem frozen=>Obj.cells (cs.setIfInBounds o v) elem frozen|o=>o):=by grind
 exact congrArg (fun h=>({w with heap:=h}:World)) e
theorem nG.FU[dw P]{e f}(hok:kB P f)(h:nG P e f)(u a m):cU P f [.ptr 0 0] [[.np 0 e u,a]] m (.tup []) [[.np 0 e true,a]] m:=by
 refine⟨hok,rfl,fun C G M w hG hw b2 _ _ hs J a6=>?_⟩;obtain⟨b,cs,T',h1,h2,h3,h4,h5⟩:=hs.box 0 [.np 0 e u,a] (by simp[fu,bh]);have hv:M=#[.pointer (some ⟨b,0,none⟩)]:=by
  apply Array.ext_getElem?;intro i
  match i with
  |0=>
    have h0:M[0]?=some (M[0]'(by simp at J;omega)):=by simp at J;simp[J]
    have:=a6 0 _ _ h0 rfl;rw[h0];generalize M[0]'(by simp at J;omega)=z at this
    cases this with
    |ptr _ _ _ N hg hb hx=>
      have O:N=b:=by have:=(hb:G.box 0=some N).symm.trans h1;simpa using this
      subst O;rw[hx];rfl
  |i+1=>simp at J;simp[J]
 have ai:cs[0]?=some (cs[0]'(by simp at h3;omega)):=by simp at h3;simp[h3]
 have aj:=h5 0 _ _ ai rfl;have I:w.cell? ⟨b,0,none⟩=some (cs[0]'(by simp at h3;omega)):=by have:=cP h2 0;rw[ai]at this;exact this
 have a7:bK (bu C G (1+m) w) (.pointer (some ⟨b,0,none⟩)) (.np 0 e true)∧((u=true∧cs[0]'(by simp at h3;omega)=.pointer (some ⟨b,0,none⟩))∨(u=false∧cs[0]'(by simp at h3;omega)=.pointer none∧T'=e)):=by
  generalize cs[0]'(by simp at h3;omega)=z at aj
  cases aj with
  |np _ _ _ N hg hb hT _ hx=>
    have O:N=b:=by have:=(hb:G.box 0=some N).symm.trans h1;simpa using this
    subst O;refine⟨.np _ 0 e N hg hb hT true rfl,?_⟩;obtain⟨cs',f',hT⟩:=hT;have U:w.heap[N]?=some (.cells cs' e f'):=hT;rw[h2]at U;simp only[Option.some.injEq,Obj.cells.injEq]at U
    cases u with
    |true=>exact .inl ⟨rfl,hx⟩
    |false=>exact .inr ⟨rfl,hx,U.2.1⟩
 obtain⟨a8,ad⟩:=a7;subst hv;rcases ad with⟨rfl,hz⟩|⟨rfl,hz,rfl⟩
 ·rw[hz]at I
  refine(h.used b w I).mono ?_;rintro e' w' ⟨rfl,rfl⟩;exact⟨_,G,rfl,hs,.tup #[] [] Z (by simp)⟩
 ·rw[hz]at I
  refine(h.fresh b w I (by simp only[World.shape?,h2];simp at h3;rw[h3]) (by simp[World.frozen?,h2])).mono ?_;rintro e' w' ⟨rfl,rfl⟩;rw[AG h2];have a1:=hs.store (g:=0) (b:=b) (cs:=cs) (cs':=cs.setIfInBounds 0 (.pointer (some ⟨b,0,none⟩))) (T:=T') (cells:=[.np 0 T' false,a]) (cells':=[.np 0 T' true,a]) (by simp[fu,bh]) h1 h2 ⟨by simpa using h3,fun i u hu=>by
   rw[Array.getElem?_setIfInBounds]at hu;split at hu
   ·split at hu
    ·simp only[Option.some.injEq]at hu;subst hu;rfl
    ·cases hu
   ·exact h4 i u hu,fun i u y hu X=>by
   rw[Array.getElem?_setIfInBounds]at hu
   match i with
   |0=>simp at X;subst X;simp at h3;simp[h3]at hu;subst hu;exact a8
   |1=>simp at X;subst X;simp at hu;exact h5 1 u _ hu rfl
   |i+2=>simp at X⟩
  refine⟨_,G,rfl,?_,.tup #[] [] Z (by simp)⟩;refine{a1 with box:=fun g' c hc=>?_};refine a1.box g' c ?_;simp only[fu,cZ]at hc⊢;split;·rename_i O;rw[if_pos O]at hc;exact hc
  ·rename_i O;rw[if_neg O]at hc;simp[bh]at hc
def qt:A->A
 |.d (.v x)=>.d (.v x)
 |_=>.any
def o9(f:List (Nat×A)):List (Nat×A):=f.map fun p=>(p.1,qt p.2)
theorem qK:∀(f:List (Nat×A))(t:Nat),look (o9 f) t=(look f t).map qt
 |[],t=>rfl
 |(s,a)::r,t=>by
   simp only[o9,U'];rw[ct,ct];split;·rfl
   ·exact qK r t
theorem bq.end_[hN:NB C 0]{n}(h:bq C n st G tmps w)(hb:Below C.w0.heap.size w w')(M:w.heap.size<=w'.heap.size):bq C n ⟨o9 st.f,[],[],st.gen⟩ G0 tmps w' where
 size:=h.size
 frame:=fun t a N=>by
  rw[qK]at N;obtain⟨a',O,rfl⟩:=ν.1 N;obtain⟨v,U,I⟩:=h.frame t a' O;refine⟨v,U,?_⟩;unfold qt;split;·cases I with|d I=>cases I with|v _ X=>exact .d (.v _ X)
  ·exact .any _
 box:=fun g cells hc=>by simp[bh]at hc
 gbox:=fun g b hb=>by simp[G0]at hb
 inj:=fun g g' b hb=>by simp[G0]at hb
 live:=fun g hg=>by simp at hg
 gown:=fun g r I=>by simp[G0]at I
 row:=fun g b len cap sz ad I=>by simp[G0]at I
 mrow:=fun g b bs I=>by simp[G0]at I
 sub:=fun g b bs c lim I=>by simp[G0]at I
 gcell:=fun g b hb=>by simp[G0]at hb
 xold:=h.xold
 kold:=h.kold
 lent:=fun i b hb=>by have:=hN.h;rw[List.length_eq_zero_iff.1 this]at hb;simp at hb
 fr:=⟨hb.os.trans h.fr.os,hb.tape.trans h.fr.tape,hb.output.trans h.fr.output,Y' h.fr.size M,fun b h1 h2=>(hb.block b h1).trans (h.fr.block b h1 h2),fun b o u h1 h2=>by
  have J:=ea h2;rw[cL (hb.block b J)];exact h.fr.cells b o u h1 h2,fun b cs T f h1=>by
  have J:=(θ.1 h1).1;rw[hb.block b J];exact h.fr.ty b cs T f h1⟩
def uM(P:Program)(T e:TypeId)(f:FuncId):Prop:=
 ∀(B b:Nat)(l:List UInt8)(w:World),Lib.IsBuilder T e B b (Lib.byteCells l) w->B<=w.heap.size->Calls P f #[.pointer (some ⟨b,0,none⟩)] w fun q w'=>q=.returned (.string ⟨l.toArray⟩)∧Below B w w'
section
variable{n:Nat}{rest:List Oper}
variable{bx:List (Nat×List A)}{pos:String}{af:Array Edge}
theorem Kx[NB C 0](cq:∀b,¬C.fp b){N e u}{s:ByteArray}(hx:av f x=some (.clo fid []))(hy:av f y=some (.ptr g 0))(hb:bh bx g=some [.np g T u,.bf g2 e s])(cx:(lv.any fun h=>Nat.beq h g2)=true)(hok:kB P fid)(b6:uM P T e fid)(cy:s.size<=maxLen)(hd:Nat.blt d n=true)(h:WO P C n ops Q rest ⟨(d,.d (.v (.string s)))::o9 f,[],[],gen⟩):WO P C n ops Q (⟨some d,.call ⟨.value x,#[y],N⟩,ty,pos,af,none⟩::rest) ⟨f,bx,lv,gen⟩:=by
 refine WO.step (st:=⟨f,bx,lv,gen⟩) Z fun tmps w⟨G,hs⟩=>?_;obtain⟨fn,c1,aj,a1⟩:=hok;have a8:=hs.av hx;generalize hv:Act.eval ⟨tmps,[]⟩ x=v at a8
 cases a8 with
 |clo _ vs _ c6 ei=>
 have c7:vs=#[]:=Array.eq_empty_of_size_eq_zero (by simpa using c6);subst c7;have b3:=hs.av hy;generalize df:Act.eval ⟨tmps,[]⟩ y=vy at b3;obtain⟨b,cs,T',h1,h2,h3,h4,h5⟩:=hs.box g _ hb;have di:vy=.pointer (some ⟨b,0,none⟩):=by
  cases b3 with
  |ptr _ _ _ b0 hg U I=>exact oO U I b h1
 subst di;have ch:(execOp (Act.eval ⟨tmps,[]⟩) ⟨some d,.call ⟨.value x,#[y],N⟩,ty,pos,af,none⟩).run P w=.ok (.enter fid #[.pointer (some ⟨b,0,none⟩)]) w:=by unfold execOp;show Sem.run P (do let d←resolve (Act.eval ⟨tmps,[]⟩) ⟨.value x,#[y],N⟩ ty;invoke d.target d.args) w=_;simp only[resolve,hv,df,Deferred.ofValue,Sem.run_bind,Sem.run_pure,Result.andThen_ok,invoke,callFunc,run_program,c1,aj,a1,L',if_false,Array.empty_append,Array.append_empty,List.map_toArray,U',List.map_nil]
 simp at h3;obtain⟨p,q,X⟩:∃p q,cs=#[p,q]:=⟨cs[0],cs[1],by apply Array.ext_getElem?;intro i;match i with|0=>simp[h3]|1=>simp[h3]|i+2=>simp[h3]⟩;subst X;have hp:=h5 0 p _ rfl rfl;have hq:=h5 1 q _ rfl rfl;obtain⟨r,b4⟩:=hs.live g2 (er cx);have jF:∀{b lim},C.jF b lim->C.w0.heap.size<=b:=fun hm=>hm.1.resolve_right (cq _);have ad:T'=T∧(p=.pointer none∨p=.pointer (some ⟨b,0,none⟩)):=by
  cases hp with
  |np _ _ _ b0 hg U hT _ I=>
    have e1:b0=b:=by have:=(U:G.box g=some b0).symm.trans h1;simpa using this
    subst e1;obtain⟨cs',f',hT⟩:=hT;have O:w.heap[b0]?=some (.cells cs' T f'):=hT;grind
 obtain⟨rfl,ad⟩:=ad;have J:w.ownsRow C.w0.heap.size e 1 q (Lib.byteCells s.data.toList).length (Lib.byteCells s.data.toList)∧q.ownBlock≠some b:=by
  cases hq with
  |bf _ _ _ _ hg ej cj=>
  have I:=cj r b4
  cases r with
  |zero b=>exact I.elim
  |mp b bs=>exact I.elim
  |nil=>obtain⟨rfl,h0⟩:=I;have e0:s.data.toList=[]:=A' (by simpa using h0);rw[e0];exact⟨World.ownsRow_nil w _ e 1,by simp[Value.ownBlock]⟩
  |blk b2 len cap sz en=>
    obtain⟨rfl,h6,rfl,rfl,⟨cs',f',hT⟩,h8⟩:=I;obtain⟨a6,e2,ec,cur,T2,M,X,dj,dt,_,ed,_⟩:=hs.row g2 b2 len cap 1 0 b4;have O:w.heap[b2]?=some (.cells cs' e f'):=hT;rw[M]at O;simp only[Option.some.injEq,Obj.cells.injEq]at O;obtain⟨_,rfl,_⟩:=O;have hlen:(Lib.byteCells s.data.toList).length=len:=by rw[Lib.byteCells_length,Array.length_toList];exact h6
    rw[hlen];refine⟨⟨by simpa using hlen,.inr ⟨b2,cap,cur,rfl,jF a6,M,dj,dt,X,?_⟩⟩,?_⟩
    ·rw[Nat.mul_one]
     apply List.ext_getElem?;intro t;rw[List.getElem?_take];have es:(Lib.byteCells s.data.toList)=Lib.strCells s:=(Lib.strCells_eq s).symm;split
     ·rename_i b5
      have hc:s.data[t]?=some (s.data[t]'(by rw[<-h6]at b5;exact b5)):=Array.getElem?_eq_getElem _;have h7:=h8 t _ hc;have dx:cur[t]?=_:=(cP M t).symm.trans h7;rw[es,gH hc,Array.getElem?_toList,dx]
     ·grind
    ·simp only[Value.ownBlock]
     grind
 have cl:∀p,p=Value.pointer none∨p=.pointer (some ⟨b,0,none⟩)->w.heap[b]?=some (.cells #[p,q] T' (0,0))->Lib.IsBuilder T' e C.w0.heap.size b (Lib.byteCells s.data.toList) w:=by
  rintro p (rfl|rfl) hh;·exact .inl ⟨jF (hs.gbox g b h1).2.2,q,hh,J.1,J.2⟩
  ·exact .inr ⟨jF (hs.gbox g b h1).2.2,q,hh,J.1,J.2⟩
 unfold et;have a7:(execOp (Act.eval {tmps:=tmps,defers:=[]}) ⟨some d,.call ⟨.value x,#[y],N⟩,ty,pos,af,none⟩).run P w=.ok (.enter fid #[.pointer (some ⟨b,0,none⟩)]) w:=ch;rw[a7];refine(b6 C.w0.heap.size b s.data.toList w (cl p ad h2) hs.fr.size).mono ?_;rintro e' w' ⟨rfl,ai⟩;refine⟨_,rfl,⟨(d,.d (.v (.string s)))::o9 f,[],[],gen⟩,⟨G0,?_⟩,h⟩;have:=(hs.end_ ai ai.size).put (dst:=some d) (dp (dst:=some d) hd) (v:=.string ⟨s.data.toList.toArray⟩) (a:=.d (.v (.string s))) (.d (by
  have:(⟨s.data.toList.toArray⟩:ByteArray)=s:=by apply ByteArray.ext;simp
  rw[this];exact .v _ (by simp[dy,cy])))
 exact this
end
theorem sP.FU{P:Program}[dw P]{H:Ctx->Prop}{f:FuncId}{args:List A}{r:A}{k:Nat}(h:sP P H f args r k)(M:∀C,H C):bm P f args r k:=
 ⟨h.ok,fun C I w N hw hp O J U=>h.calls C I w N hw hp (M C) O J U⟩
section
variable{n:Nat}{c:Code}{rest:List Oper}
variable{f':List (Nat×A)}{bx:List (Nat×List A)}
theorem bq.Kj(hs:bq C n ⟨f,bx,lv,gen⟩ G tmps w)(s s2:Nat)(hl:look f s=some (.own g es))(M:Nat.blt s n=true)(I:Nat.blt s2 n=true):
 ∃v,dy v=true∧bq C n ⟨(s,.d (.v v))::(s2,.ow g es v)::f,bx,lv,gen⟩ G tmps w:=by
 obtain⟨v,U,X⟩:=hs.frame s _ hl
 cases X with
 |own _ _ _ hd hg J=>
 have hok:dy v=true:=by cases hd<;>rfl
 have N:s2<tmps.size:=by rw[hs.size];exact κ I
 have O:tmps[s2]?=some tmps[s2]:=by simp[N]
 refine⟨v,hok,?_⟩;have h1:=hs.set (d:=s2) (κ I) (v:=tmps[s2]) (a:=.ow g es v) (.ow _ v g es hd hg J);rw[fN O]at h1;have h2:=h1.set (d:=s) (κ M) (v:=v) (a:=.d (.v v)) (.d (.v v hok));rwa[fN U]at h2
theorem Bs(s s2:Nat)(hl:look f s=some (.own g es))(J:Nat.blt s n=true)(I:Nat.blt s2 n=true)(h:∀v,dy v=true->WO P C n ops Q rest ⟨(s,.d (.v v))::(s2,.ow g es v)::f,bx,lv,gen⟩):WO P C n ops Q rest ⟨f,bx,lv,gen⟩:=by
 intro tmps w ⟨G,hs⟩;obtain⟨v,M,h1⟩:=hs.Kj s s2 hl J I;exact h v M tmps w ⟨G,h1⟩
end
def Au{γ:Type}(fn:γ->List D)(l:List (Value×List γ))(hole:Option Nat)(w:World)(pv:Nat->Nat->Prop)(bs:List (Nat×Nat)):Prop:=
 ∃ps:Nat->Option Nat,(∀i j c,i<l.length->j<l.length->hole≠some i->hole≠some j->ps i=some c->ps j=some c->i=j)∧
   ∀(i:Nat)(p:Value×List γ),l[i]?=some p->bN w pv p.1 (.sl (p.2.map fn))∧(hole≠some i->nn w (ps i) bs p.1 (p.2.map fn))
theorem Au.mono{γ:Type}{fn:γ->List D}{l hole I}(J:∀b o u,cellAt w b o=some u->¬pv b o->cellAt w' b o=some u∧¬I b o)(hb:∀p∈bs,w'.heap[p.1]?=w.heap[p.1]?)(h:Au fn l hole w pv bs):Au fn l hole w' I bs:=by obtain⟨ps,h1,h2⟩:=h;exact⟨ps,h1,fun i p hp=>⟨(h2 i p hp).1.mono J,fun M=>((h2 i p hp).2 M).mono fun c lim _ hm=>⟨hm,hb _ hm⟩⟩⟩
def gG{γ:Type}(fn:γ->List D)(l:List (Value×List γ))(hole:Option Nat):Iv:=⟨fun w pv bs _=>Au fn l hole w pv bs,Au.mono⟩
section
variable{n:Nat}
theorem bq.yt(h:bq C n st G tmps w):∃N:Gh,N.box=G.box∧N.own st.gen=some (.mp none [])∧(bu C G st.gen w).le (bu C N (st.gen+1) w)∧bq C n {st with lv:=st.gen::st.lv,gen:=st.gen+1} N tmps w:=by
 let J:Nat->Option Row:=fun g=>if g=st.gen then some (.mp none [])else G.own g;have old:∀{g r},J g=some r->g≠st.gen->G.own g=some r:=fun{g r} I O=>by simpa only[J,if_neg O]using I
 have ge:∀{g r},J g=some r->st.gen<=g->r=.mp none []:=fun{g r} I U=>by
  by_cases e:g=st.gen;·grind
  ·have:=h.gown g r (old I e);omega
 obtain⟨q1,q2⟩:=h.grow (w':=w) (.refl _ w) J (st.gen+1) (st.gen::st.lv) (Nat.le_succ _) (fun g r M I=>old I (X' M)) (fun g r I=>by
  by_cases e:g=st.gen;·omega
  ·exact Z' (h.gown g r (old I e)))
  (fun g M=>by
   rcases N'.1 M with rfl|M
   ·exact⟨_,by simp[J];rfl⟩
   ·obtain⟨r,I⟩:=h.live g M
    exact⟨r,by simp only[J,if_neg (X' (h.gown g r I))];exact I⟩)
  (fun g b len cap sz X M I=>by cases ge I M) (fun g b bs M I=>by cases ge I M) (fun g b bs c lim M I hm=>by cases ge I M;cases hm)
 grind
end
section
variable{n:Nat}{c:Code}{rest:List Oper}
variable{bx:List (Nat×List A)}
variable{γ:Type}{fn:γ→List D}
theorem Fa(fn:γ->List D)(N I){J:List A}(hq:bh bx N=some J)(O:J.set I (.gi gen (gG fn [] none))=cq')(h:W P C n c Q ⟨f,(N,cq')::bx,gen::lv,gen+1⟩):W P C n c Q ⟨f,bx,lv,gen⟩:=by
 subst O;intro tmps w ⟨G,hs⟩;obtain⟨U,ad,ho,hle,X⟩:=hs.yt;refine h tmps w ⟨U,X.fZ (f:=f) (bx:=bx) (lv:=gen::lv) (gen:=gen+1) hq (by simp) fun b cs T _ _ q3 i x a hx M=>?_⟩;by_cases e:I=i
 ·subst e
  by_cases hlt:I<J.length
  ·rw[C' hlt]at M
   simp only[Option.some.injEq]at M;subst M;refine .gi _ _ _ (by simp[bu]) fun r hr=>?_;have:U.own gen=some r:=hr;rw[ho]at this;cases this;exact⟨fun _=>none,fun i j c hi=>by simp at hi,fun i p hp=>by simp at hp⟩
  ·grind
 ·grind
theorem bq.ku(hs:bq C n ⟨f,bx,lv,gen⟩ G tmps w){gq}{I:Iv}(hq:bh bx gq=some X)(hj:X[J]?=some (.gi g I))(ai:(lv.any fun h=>Nat.beq h g)=true):
 ∃bs x,G.own g=some (.mp none bs)∧I.P w (cf C G) bs x:=by
 obtain⟨r,U⟩:=hs.live g (er ai);obtain⟨b0,M,T0,p1,p2,p3,p4,p5⟩:=hs.box gq X hq;have aj:J<M.size:=by rw[p3];exact(δ.1 hj).1
 have N:=p5 J M[J] _ (by simp[aj]) hj;generalize M[J]=x at N
 cases N with
 |gi _ _ _ a1 ad=>
 have O:=ad r U
 cases r with
 |nil=>exact O.elim
 |zero b=>exact O.elim
 |blk b len cap sz a6=>exact O.elim
 |mp b bs=>
   cases b with
   |some b=>exact O.elim
   |none=>exact⟨bs,_,U,O⟩
theorem Ep(N I){J:List A}{l}(O:bh bx N=some J)(hj:J[I]?=some (.gi g (gG fn l none)))(U:(lv.any fun h=>Nat.beq h g)=true)(X:J.set I (.gi g (gG fn (l++[(.slice none 0 0,[])]) none))=cq')(h:W P C n c Q ⟨f,(N,cq')::bx,lv,gen⟩):W P C n c Q ⟨f,bx,lv,gen⟩:=by
 subst X;intro tmps w ⟨G,hs⟩;obtain⟨bs,_,ad,ps,h1,h2⟩:=hs.ku O hj U;refine h tmps w ⟨G,hs.fZ O (by simp) fun b cs T _ _ q3 i x a hx M=>?_⟩;by_cases e:I=i
 ·subst e
  rw[C' (δ.1 hj).1]at M;simp only[Option.some.injEq]at M;subst M
  cases q3 I x _ hx hj with
  |gi _ _ _ ai _=>
  refine .gi _ _ _ ai fun r hr=>?_;have:G.own g=some r:=hr;rw[ad]at this;cases this;refine⟨fun i=>if i<l.length then ps i else none,fun i j c _ _ _ _ hi hj=>?_,fun i p hp=>?_⟩;·grind
  ·dsimp only
   split
   ·rename_i aj
    rw[Ω aj]at hp;exact h2 i p hp
   ·rename_i a1
    rw[Θ (by omega)]at hp;have:i-l.length=0:=by grind
    rw[this]at hp;simp only[List.getElem?_cons_zero,Option.some.injEq]at hp;subst hp;exact⟨.nil,fun _=>.inl ⟨rfl,rfl⟩⟩
 ·grind
theorem Hg(N O i:Nat){I:List A}{l:List (Value×List γ)}{hole v}{es:List γ}{r}(U:bh bx N=some I)(hj:I[O]?=some (.gi g (gG fn l hole)))(J:(lv.any fun h=>Nat.beq h g)=true)(hi:l[i]?=some (v,es))(X:es.map fn=r)(h:Pu P C n ⟨f,bx,lv,gen⟩ o (.d (.v v))):Pu P C n ⟨f,bx,lv,gen⟩ o (.d (.sl r)):=by
 subst X;intro G tmps w hs;refine(h G tmps w hs).mono fun v' w'⟨h1,h2⟩=>⟨h1,?_⟩;cases h2 with|d h2=>cases h2 with|v _ _=>
 obtain⟨_,M⟩:=hs.ij h1;obtain⟨bs,_,_,ps,_,h4⟩:=M.ku U hj J;exact .d (h4 i _ hi).1
theorem Hz(U I:Nat){N:List A}{v}(hq:bh bx U=some N)(hj:N[I]?=some (.ow g es v))(h:Pu P C n ⟨f,bx,lv,gen⟩ o (.d (.v v))):Pu P C n ⟨f,bx,lv,gen⟩ o (.own g es):=by
 intro G tmps w hs;refine(h G tmps w hs).mono fun v' w'⟨h1,h2⟩=>⟨h1,?_⟩;cases h2 with|d h2=>cases h2 with|v _ _=>
 obtain⟨_,X⟩:=hs.ij h1;obtain⟨b0,J,T0,p1,p2,p3,p4,p5⟩:=X.box U N hq;have ad:I<J.size:=by rw[p3];exact(δ.1 hj).1
 have M:=p5 I J[I] _ (by simp[ad]) hj;generalize J[I]=x at M
 cases M with
 |ow _ _ _ _ hd hg O=>exact .own _ g es hd hg O
theorem BI(gq O U i:Nat){l:List (Value×List γ)}{v}{es:List γ}(M:bh bx gq=some X)(hj:X[O]?=some (.gi g (gG fn l none)))(a7:(lv.any fun h=>Nat.beq h g)=true)(hi:l[i]?=some (v,es))(a8:Nat.beq O U=false)(b0:gen::(gen+1)::bR lv g=lv')(b2:(X.set O (.gi gen (gG fn l (some i)))).set U (.ow (gen+1) (es.map fn) v)=cq')(h:W P C n c Q ⟨f,(gq,cq')::bx,lv',gen+2⟩):W P C n c Q ⟨f,bx,lv,gen⟩:=by
 subst b2;subst b0;intro tmps w ⟨G,hs⟩;obtain⟨bs,_,b3,ps,aj,N⟩:=hs.ku M hj a7;have c6:O≠U:=fun e=>by subst e;simp at a8
 have c7:i<l.length:=(δ.1 hi).1;obtain⟨hd,I⟩:=N i _ hi;have I:=I (by simp);obtain⟨s,ai⟩:=hd.K9
 have key:∀(r2:Row)(bs':List (Nat×Nat)),(∀p∈bs',p∈bs)->(∀b' bs',r2≠.mp b' bs')->
  (∀c len cap sz ad,r2=.blk c len cap sz ad->(c,ad)∈bs∧(∀p∈bs',p.1≠c)∧∃cur T,w.heap[c]?=some (.cells cur T (0,0))∧cur.size=cap*sz∧len<=cap∧cap<=maxLen∧0<sz∧0<len∧ad<=len*sz∧fV cur)->
  (∀(k:Nat)(p:Value×List γ),l[k]?=some p->k≠i->nn w (ps k) bs' p.1 (p.2.map fn))->
  (∃s,(∀(e:List D),e∈es.map fn->e.length=s)∧sI r2 v (es.map fn).length s)->fv C n ⟨f,(gq,(X.set O (.gi gen (gG fn l (some i)))).set U (.ow (gen+1) (es.map fn) v))::bx,gen::(gen+1)::bR lv g,gen+2⟩ tmps w:=by
  intro r2 bs' a1 b4 b5 a6 cl;obtain⟨G',df,b6,di,hle,ch⟩:=hs.split b3 a1 r2 b4 b5 (bR lv g) (fun g' cj=>cQ cj);refine⟨G',ch.fZ (f:=f) (bx:=bx) (lv:=gen::(gen+1)::bR lv g) (gen:=gen+2) M (by simp) fun b cs T _ _ q3 k x a hx J=>?_⟩;by_cases e2:U=k
  ·subst e2
   by_cases hlt:U<X.length
   ·rw[C' (by simpa using hlt)]at J
    simp only[Option.some.injEq]at J;subst J;refine .ow _ _ _ _ (hd.mono fun b o u hu hp=>hle.cell b o u hu hp) (by simp[bu]) fun r hr=>?_;have:G'.own (gen+1)=some r:=hr;grind
   ·grind
  ·rw[List.getElem?_set_ne e2]at J
   by_cases e:O=k
   ·subst e
    rw[C' (δ.1 hj).1]at J;simp only[Option.some.injEq]at J;subst J;refine .gi _ _ _ (by simp[bu]) fun r hr=>?_;have:G'.own gen=some r:=hr;rw[b6]at this;cases this;exact⟨ps,fun a b c J hb h1 h2=>aj a b c J hb (by simp) (by simp),fun k p hp=>⟨(N k p hp).1.mono fun b o u hu hp=>hle.cell b o u hu hp,fun hh=>a6 k p hp (fun e=>hh (by rw[e]))⟩⟩
   ·grind
 cases hps:ps i with
 |none=>
   rw[hps]at I;rcases I with⟨t1,t2⟩|⟨c,off,t1⟩
   ·exact h tmps w (key .nil bs (fun _ h=>h) (fun _ _ h=>by cases h) (fun _ _ _ _ _ h=>by cases h) (fun k p hp _=>(N k p hp).2 (by simp)) ⟨s,ai,t1,by rw[show(es.map fn).length=0 from by rw[t2];rfl]⟩)
   ·exact h tmps w (key (.zero c) bs (fun _ h=>h) (fun _ _ h=>by cases h) (fun _ _ _ _ _ h=>by cases h) (fun k p hp _=>(N k p hp).2 (by simp)) ⟨s,ai,off,t1⟩)
 |some c=>
   rw[hps]at I;obtain⟨cap,sz,cur,T1,t1,t2,t3,t4,t5,t6,t7,t8,t9,t10⟩:=I
   refine h tmps w (key (.blk c (es.map fn).length cap sz ((es.map fn).length*sz)) (bs.filter fun q=>!Nat.beq q.1 c) (fun q M=>(List.mem_filter.1 M).1) (fun _ _ h=>by cases h)
    (fun c' cx cy dj c1 h=>by simp only[Row.blk.injEq]at h;obtain⟨rfl,rfl,rfl,rfl,rfl⟩:=h;exact⟨t2,fun q M e=>by have:=(List.mem_filter.1 M).2;rw[e]at this;simp at this,cur,T1,t8,t9,t6,t7,t4,t5,χ _,t10⟩)
    (fun k p hp hk=>((N k p hp).2 (by simp)).mono fun c' lim e1 e2=>⟨List.mem_filter.2 ⟨e2,?_⟩,rfl⟩) ⟨sz,t3,t1,rfl,rfl,rfl⟩)
   have:c'≠c:=fun e=>by grind
   cases M:Nat.beq c' c with
   |false=>rfl
   |true=>exact absurd (Γ M) this
theorem Fe(gq jq s i:Nat){l l':List (Value×List γ)}{v}{es:List γ}{ad}(hq:bh bx gq=some cq)(hj:cq[jq]?=some (.gi g (gG fn l (some i))))(hl:look f s=some (.ow g2 ad v))(b2:es.map fn=ad)(b3:(lv.any fun h=>Nat.beq h g)=true)(a1:(lv.any fun h=>Nat.beq h g2)=true)(b4:Nat.beq g2 g=false)(b5:l.set i (v,es)=l')(b6:gen::bR (bR lv g) g2=lv')(ch:cq.set jq (.gi gen (gG fn l' none))=cq')(h:W P C n c Q ⟨f,(gq,cq')::bx,lv',gen+1⟩):W P C n c Q ⟨f,bx,lv,gen⟩:=by
 subst ch;subst b6;subst b5;subst b2;intro tmps w ⟨G,hs⟩;obtain⟨bs,_,ai,ps,a6,aj⟩:=hs.ku hq hj b3;have cj:g2≠g:=fun e=>by subst e;simp at b4
 obtain⟨r2,M⟩:=hs.live g2 (er a1);obtain⟨x,hx,hr⟩:=hs.frame s _ hl
 cases hr with
 |ow _ _ _ _ hd dj a7=>
 obtain⟨dx,cl,N⟩:=a7 r2 M;obtain⟨bs',X,a8,b0,cx,cy⟩:∃(bs':List (Nat×Nat))(X:Option Nat),(∀p∈bs,p∈bs')∧(∀p∈bs',p∈bs∨∃len cap sz,r2=.blk p.1 len cap sz p.2)∧nn w X bs' v (es.map fn)∧∀c,X=some c->∃len cap sz I,r2=.blk c len cap sz I:=by
  cases r2 with
  |nil=>exact⟨bs,none,fun _ h=>h,fun _ h=>.inl h,.inl ⟨N.1,A' N.2⟩,fun c J=>by cases J⟩
  |zero c=>exact⟨bs,none,fun _ h=>h,fun _ h=>.inl h,.inr ⟨c,N⟩,fun c J=>by cases J⟩
  |mp _ _=>exact N.elim
  |blk c len cap sz I=>
    obtain⟨t1,t2,t3,t4⟩:=N;obtain⟨_,_,_,cur,T1,u1,u2,u3,u4,u5,u6,u7,u8⟩:=hs.row g2 c len cap sz I M;refine⟨(c,I)::bs,some c,fun p hp=>ω _ hp,fun p hp=>?_,⟨cap,sz,cur,T1,by rw[t1,t2],?_,fun e he=>(cl e he).trans t3,u5,by omega,by omega,u4,u1,u2,u8⟩,fun c' c1=>by cases c1;exact⟨len,cap,sz,I,rfl⟩⟩;·grind
    ·grind
 obtain⟨G',ec,c6,hle,c7⟩:=hs.join (w':=w) ai M cj b0 (fun _ _=>rfl) (fun c J=>by cases J) rfl rfl rfl rfl (bR (bR lv g) g2) (fun g' df=>by obtain⟨t1,t2⟩:=cQ df;obtain⟨t3,t4⟩:=cQ t1;exact⟨t3,t4,t2⟩);have dt:∀(c:Nat),X=some c->∀lim,(c,lim)∉bs:=fun c J lim hm=>by obtain⟨len,cap,sz,I,e⟩:=cy c J;rw[e]at M;exact(hs.sub g none bs c lim ai hm).2.2.1 _ _ _ _ _ M
 have ed:∀(k c:Nat),k<l.length->k≠i->ps k=some c->∃lim,(c,lim)∈bs:=fun k c hk di J=>by have:=(aj k l[k] (by simp[hk])).2 (fun e=>di (J' e).symm);rw[J]at this;obtain⟨cap,sz,cur,T1,t1,t2,_⟩:=this;grind
 refine h tmps w ⟨G',c7.fZ (f:=f) (bx:=bx) (lv:=gen::bR (bR lv g) g2) (gen:=gen+1) hq (by simp) fun b cs T _ _ q3 k x a hx O=>?_⟩;by_cases e:jq=k
 ·subst e
  rw[C' (δ.1 hj).1]at O;simp only[Option.some.injEq]at O;subst O;refine .gi _ _ _ (by simp[bu]) fun r hr=>?_;have:G'.own gen=some r:=hr;rw[c6]at this;cases this;refine⟨fun k=>if k=i then X else ps k,fun a b c O hb _ _ h1 h2=>?_,fun k p hp=>?_⟩
  ·simp only[List.length_set]at O hb
   dsimp only at h1 h2;split at h1;·grind
   ·rename_i U
    split at h2;·grind
    ·rename_i e2
     exact a6 a b c O hb (fun e=>U (J' e).symm) (fun e=>e2 (J' e).symm) h1 h2
  ·by_cases U:k=i
   ·subst U
    have hk:k<l.length:=by have:=(δ.1 hp).1;simpa using this
    rw[C' hk]at hp;simp only[Option.some.injEq]at hp;subst hp;simp only[if_true];exact⟨hd.mono fun b o u hu hp=>hle.cell b o u hu hp,fun _=>cx⟩
   ·rw[List.getElem?_set_ne (Ne.symm U)]at hp
    obtain⟨t1,t2⟩:=aj k p hp;simp only[if_neg U];exact⟨t1.mono fun b o u hu hp=>hle.cell b o u hu hp,fun _=>(t2 (fun e=>U (J' e).symm)).mono fun c lim _ hm=>⟨a8 _ hm,rfl⟩⟩
 ·grind
end
section
variable{P:Program}{C:Ctx}{n:Nat}{Q:Exit→St→Prop}{c:Code}{f:List (Nat×A)}{bx:List (Nat×List A)}{lv:List Nat}{gen:Nat}
theorem l6(J M:Nat){N cq':List A}(U:bh bx J=some N)(O:N.set M .any=cq')(h:W P C n c Q ⟨f,(J,cq')::bx,lv,gen⟩):W P C n c Q ⟨f,bx,lv,gen⟩:=by
 subst O;intro tmps w ⟨G,hs⟩;refine h tmps w ⟨G,hs.fZ U (by simp) fun b cs T _ _ q3 i x a X I=>?_⟩;by_cases e:M=i
 ·subst e
  rw[List.getElem?_set]at I;split at I
  ·split at I
   ·simp only[Option.some.injEq]at I
    subst I;exact .any x
   ·grind
  ·grind
 ·grind
end
structure wA(ι:Type)where
 ok:ι->Prop
 bx0:List (Nat×List A)
 bx1:ι->List (Nat×List A)
 lv0:List Nat
 lv1:List Nat
 gen0:Nat
 gen1:Nat
 d:Nat
 a:ι->A
section
variable{n:Nat}(S:wA ι)(c:Nat)
def I7(C:Ctx)(n:Nat)(S:wA ι)(I:SC)(act:Act)(w:World):Prop:=
 act.defers=C.ds∧if I.2=true then I.1 S.d=some .any∧∃x,S.ok x∧∃G,fm C n (S.bx1 x) S.lv1 S.gen1 (cH I.1 (some S.d) (S.a x)) G act.tmps w else ∃G,fm C n S.bx0 S.lv0 S.gen0 I.1 G act.tmps w
def Jd(P:Program)(C:Ctx)(n:Nat)(S:wA ι)(ops:Array Oper)(o:Oper)(I:fq):Prop:=
 o.guard=none∧∃p,(∀t x,look p t=some x->I t=some x∧t∈o.looksAt ops)∧
  ∀g,WO P C n ops (fun e st=>e=.normal∧∃x,S.ok x∧st=⟨(S.d,S.a x)::(p++g),S.bx1 x,S.lv1,S.gen1⟩) [o] ⟨p++g,S.bx0,S.lv0,S.gen0⟩
def YX(P:Program)(C:Ctx)(n:Nat)(S:wA ι)(ops:Array Oper)(c:Nat)(i:Nat)(a:A)(I:SC):Prop:=
 ∃o,ops[i]?=some o∧fY n o.dst=true∧((i=c∧I.2=false∧o.dst=some S.d∧a=.any∧Jd P C n S ops o I.1)∨
   (i≠c∧o.dst≠some S.d∧(cX .any ops i c=false->YA P C n S.bx0 S.lv0 S.gen0 ops o a I.1)∧(cX .any ops c i=false->∀x,S.ok x->YA P C n (S.bx1 x) S.lv1 S.gen1 ops o a I.1)∧
    (I.2=false->cX .any ops i c=false)∧(I.2=true->cX .any ops c i=false)))
variable{S}{c}
theorem Bg{J:fq}{x}(hd:∀d,dst=some d->d∉o.looksAt ops):Jd P C n S ops o (cH J dst x)↔Jd P C n S ops o J:=by
 constructor
 ·rintro⟨h0,p,h1,h2⟩
  exact⟨h0,p,fun t y I=>⟨(gS hd (h1 t y I).2).symm.trans (h1 t y I).1,(h1 t y I).2⟩,h2⟩
 ·rintro⟨h0,p,h1,h2⟩
  exact⟨h0,p,fun t y I=>⟨(gS hd (h1 t y I).2).trans (h1 t y I).1,(h1 t y I).2⟩,h2⟩
theorem K2{M J:Oper}(hi:ops[i]?=some M)(hj:ops[j]?=some J)(b5:i≠j)(a8:M.apart ops J=true)(b0:∀e∈J.after,Region.binds .any e=true->e.on≠i):
 qx (YX P C n S ops c) (tV ops c) i j:=by
 obtain⟨X,a2,a3⟩:=Oper.apart_spec a8;have ai:=vr hj b0;rintro a b ⟨φ,ph⟩ ⟨b6,aj,di,a6⟩ ⟨ch,a7,dj,N⟩;rw[hi]at aj;cases aj;rw[hj]at a7;cases a7;rw[ga hi]at N;rw[ga hi,ga hj,ga hj,ga hi];have b4:cH (cH φ M.dst a) J.dst b=cH (cH φ J.dst b) M.dst a:=ld φ a b a2;simp only at a6 N⊢;rcases a6 with⟨rfl,O,b2,ha,I⟩|⟨U,ni,y0,y1,y2,y3⟩
 ·subst O
  rcases N with⟨e,_⟩|⟨ad,nj,z0,z1,z2,z3⟩
  ·grind
  ·refine⟨⟨J,hj,dj,.inr ⟨ad,nj,fun h=>(eN X).1 (z0 h),fun h x I=>(eN X).1 (z1 h x I),fun _=>ai,fun h=>by cases h⟩⟩,⟨M,hi,di,.inl ⟨rfl,?_,b2,ha,(Bg a3).2 I⟩⟩,?_⟩
   ·grind
   ·grind
 ·rcases N with⟨rfl,O,b3,hb,I⟩|⟨ad,nj,z0,z1,z2,z3⟩
  ·rw[if_neg U]at O
   subst O;refine⟨⟨J,hj,dj,.inl ⟨rfl,rfl,b3,hb,(Bg X).1 I⟩⟩,⟨M,hi,di,.inr ⟨U,ni,fun h=>(eN a3).2 (y0 h),fun h x I=>(eN a3).2 (y1 h x I),fun h=>?_,fun _=>ai⟩⟩,?_⟩;·grind
   ·grind
  ·rw[if_neg U]at z2 z3
   refine⟨⟨J,hj,dj,.inr ⟨ad,nj,fun h=>(eN X).1 (z0 h),fun h x I=>(eN X).1 (z1 h x I),z2,z3⟩⟩,⟨M,hi,di,.inr ⟨U,ni,fun h=>(eN a3).2 (y0 h),fun h x I=>(eN a3).2 (y1 h x I),?_,?_⟩⟩,?_⟩;·grind
   ·grind
   ·grind
theorem Jl(i a)(σ:SC)(act w K)(hs:I7 C n S σ act w)(I:YX P C n S ops c i a σ)(N:∀act w,I7 C n S (tV ops c i a σ) act w->K act w):wpOp P ops Q' i K act w:=by
 obtain⟨tmps,ch⟩:=act;obtain⟨rfl,hs⟩:=hs;obtain⟨J,ph⟩:=σ;obtain⟨o,ho,hd,I⟩:=I;rw[ga ho]at N;simp only at hs I N;unfold wpOp;simp only[ho];rcases I with⟨rfl,rfl,a6,rfl,hg,p,hp,M⟩|⟨a8,b0,y0,y1,y2,y3⟩
 ·simp only[L',if_false]at hs
  obtain⟨G,hs⟩:=hs;have hw:Region.wanted o (yielded ops tmps)=true:=by simp[Region.wanted,hg]
  rw[hw,if_pos rfl];refine .inl ?_;have b2:∀t x,J t=some x->t<n:=fun t x M=>by obtain⟨v,h1,_⟩:=hs.2 t x M;have:=(θ.1 h1).1;rw[hs.1.size]at this;grind
  have ai:∀t,look (p++fR n J) t=J t:=fun t=>by
   rw[qM]
   cases q:look p t with
   |some x=>exact(hp t x q).1.symm
   |none=>
     simp only;unfold fR;rw[mV]
     cases e:J t with
     |none=>split<;>rfl
     |some x=>rw[if_pos (List.mem_range.2 (b2 t x e))]
  have b3:=hs.lV (f:=p++fR n J) fun t x M=>by rw[<-ai];exact M
  have h:=M (fR n J) tmps w ⟨G,b3⟩;simp only[fO,hw,if_true]at h;refine Oper.Bl (fun c a w O=>?_) (fun hl=>?_) (fun a7 w2 O=>?_) h
  ·obtain⟨_,st',_,he,_⟩:=O
   grind
  ·obtain⟨_,_,O⟩:=hl
   obtain⟨_,st',_,he,_⟩:=O;grind
  ·obtain⟨b4,st',⟨G',aj⟩,_,x,hok,rfl⟩:=O
   refine N a7 w2 ⟨b4,?_⟩;simp only[if_true];refine⟨by rw[a6];simp[cH],x,hok,G',?_⟩;refine⟨{aj with frame:=fun t a ha=>by simp[look]at ha},fun t y I=>aj.frame t y ?_⟩;grind[look,fR,ct,cH]
 ·rw[if_neg a8]at N
  have key:∀{bx:List (Nat×List A)}{lv:List Nat}{gen:Nat}{U:fq}{G:Gh},fm C n bx lv gen U G tmps w->fm C n bx lv gen J G tmps w->YA P C n bx lv gen ops o a J->(∀tmps w,fm C n bx lv gen (cH U o.dst a) G tmps w->K ⟨tmps,C.ds⟩ w)->
   (if Region.wanted o (yielded ops tmps)=true then o.wp P ⟨tmps,C.ds⟩ w K Q'∨(o.asks P ⟨tmps,C.ds⟩ w∧LetsOut Q')else K (Act.put ⟨tmps,C.ds⟩ o.dst undef) w):=by
   intro bx lv gen U G X ad b5 hk;obtain⟨_,⟨hw,f,hf,hp⟩|⟨hw,rfl⟩⟩:=b5
   ·rw[hZ ad hw]
    simp only[if_true];refine .inl ?_;have hg:et P o ⟨tmps,[]⟩ w fun v w'=>Below w.heap.size w w'∧bK (bu C G gen w') v a:=hp G tmps w (ad.lV fun t x M=>(hf t x M).1);refine hg.ds.wp fun v w'⟨hb,hr⟩=>?_;rw[Act.iP];exact hk _ _ (X.step hb hd hr)
   ·rw[hZ ad hw]
    simp only[L',if_false];rw[Act.iP];exact hk _ _ (X.step (Below.refl _ _) hd (.tup #[] [] rfl (by simp)))
  cases ph with
  |false=>simp only[L',if_false]at hs;obtain⟨G,hs⟩:=hs;exact key hs hs (y0 (y2 rfl)) fun tmps w h=>N _ _ ⟨rfl,by simp only[L',if_false];exact⟨G,h⟩⟩
  |true=>
    simp only[if_true]at hs;obtain⟨a1,x,hok,G,hs⟩:=hs;have b6:fm C n (S.bx1 x) S.lv1 S.gen1 J G tmps w:=by
     refine⟨hs.1,fun t y I=>?_⟩;by_cases e:t=S.d
     ·subst e
      rw[a1]at I;cases I;obtain⟨v,h1,_⟩:=hs.2 S.d (S.a x) (by simp[cH]);exact⟨v,h1,.any v⟩
     ·exact hs.2 t y (by simp only[cH];rw[if_neg e];exact I)
    refine key hs b6 (y1 (y3 Z) x hok) fun tmps w h=>N _ _ ⟨rfl,?_⟩;simp only[if_true];refine⟨by rw[<-a1];cases hdo:o.dst with|none=>rfl|some e=>simp only[cH];rw[if_neg (fun q=>b0 (by rw[hdo,q]))],x,hok,G,?_⟩;grind[ld]
def CX(P:Program)(C:Ctx)(n:Nat)(S:wA ι)(ops:Array Oper)(c:Nat)(Q:ι->St->Prop)(l:List Oper)(i:Nat)(f:List (Nat×A))(ph:Bool):Prop:=
 BW (YX P C n S ops c) (tV ops c) (fun I=>∃f',(∀t,look f' t=I.1 t)∧I.2=true∧∀x,S.ok x->Q x ⟨(S.d,S.a x)::f',S.bx1 x,S.lv1,S.gen1⟩) l i (look f,ph)
theorem W.HP(T:cG P){l:List Oper}{bx}(S:wA ι)(m c)(ad:S.bx0=bx)(ai:S.lv0=lv)(X:S.gen0=gen)(hB:gh m l.toArray=true)(h1:l.take m=l1)(h2:l.drop m=l2)(h:CX P C n S l.toArray c (fun _=>WO P C n l.toArray Q l2) l1 0 f false):W P C n (.region id l.toArray true) Q ⟨f,bx,lv,gen⟩:=by
 subst h1;subst h2;subst ad;subst ai;subst X;intro tmps w ⟨G,hs⟩;simp only[gh,μ]at hB;obtain⟨⟨⟨hm,hw⟩,N⟩,I⟩:=hB;have hm:m<=l.length:=by simpa using κ hm
 have hb:Below w.heap.size w {w with drawn:=w.drawn+1}:=(Below.refl _ w).drew;have aj:fm C n S.bx0 S.lv0 S.gen0 (look f) G tmps {w with drawn:=w.drawn+1}:=fm.ez (hs.ij hb).2;have hlen:(l.take m).length=m:=by simp;omega
 refine wp_region_any T.mixed ?_;have O:l.toArray.size=(l.take m).length+(l.drop m).length:=by simp;omega
 rw[O];have U:gU .any l.toArray (Array.replicate ((l.take m).length+(l.drop m).length) false):=fun j oj _ hl _ _ _=>by
  by_cases q:j<(l.take m).length+(l.drop m).length;·simp_all
  ·grind
 refine nD (m:=m) (Sm:=I7 C n S) (Y:=YX P C n S l.toArray c) (ef:=tV l.toArray c) (Q:=fun J=>∃f',(∀t,look f' t=J.1 t)∧J.2=true∧∀x,S.ok x->WO P C n l.toArray Q (l.drop m) ⟨(S.d,S.a x)::f',S.bx1 x,S.lv1,S.gen1⟩)
  (fun i e J act w K hs hy hk=>Jl i e J act w K hs hy hk) (fun listed J act w hs hc M⟨f',e1,e2,hq⟩=>?_) _ _ (look f,false) ⟨tmps,C.ds⟩ _ ⟨rfl,by simp only[L',if_false];exact⟨G,aj⟩⟩ U ?_
 ·obtain⟨tmps,a8⟩:=act
  obtain⟨rfl,hs⟩:=hs;rw[e2]at hs;simp only[if_true]at hs;obtain⟨_,x,hok,G,hs⟩:=hs;refine mD hw (nI N) (l.drop m) m listed ⟨tmps,C.ds⟩ w (χ _) (by simp;omega) (fun j=>by simp[List.getElem?_drop]) hc M.1 M.2.1 M.2.2 ?_;refine hq x hok tmps w ⟨G,hs.lV (fun t a ha=>?_)⟩;grind[ct,cH]
 ·refine wv hw (fun i j oi oj hi hj a1 b0 b2 a6 a7=>K2 hi hj a1 a6 a7) (l.take m) 0 _ _ (by rw[hlen];omega) (fun j hj=>?_) U (by simp;omega) (fun j hj=>by omega) (fun j _ hj=>?_) (by rw[hlen];rw[O,hlen]at I;exact I) h
  ·grind
  ·simp_all
theorem W.Ae(T:cG P){l:List Oper}{bx}(ok:ι->Prop)(B:ι->List (Nat×List A))(lv1 gen1 d)(a:ι->A)(m c)(hB:gh m l.toArray=true)(h1:l.take m=l1)(h2:l.drop m=l2)(h:CX P C n ⟨ok,bx,fun x=>B x++bx,lv,lv1,gen,gen1,d,a⟩ l.toArray c (fun _=>WO P C n l.toArray Q l2) l1 0 f false):W P C n (.region id l.toArray true) Q ⟨f,bx,lv,gen⟩:=
 W.HP T ⟨ok,bx,fun x=>B x++bx,lv,lv1,gen,gen1,d,a⟩ m c rfl rfl rfl hB h1 h2 h
variable{op:Op}{pos:String}{af:Array Edge}{rest:List Oper}{Q:ι→St→Prop}{ph:Bool}
theorem CX.nil(h:∀x,S.ok x->Q x ⟨(S.d,S.a x)::f,S.bx1 x,S.lv1,S.gen1⟩):CX P C n S ops c Q [] i f true:=⟨f,fun _=>rfl,rfl,h⟩
theorem oF(h1:∀x,S.ok x->Pu P C n ⟨dk f (slotsOf op),S.bx1 x,S.lv1,S.gen1⟩ ⟨some d,op,ty,pos,af,none⟩ a)(h0:Pu P C n ⟨dk f (slotsOf op),S.bx0,S.lv0,S.gen0⟩ ⟨some d,op,ty,pos,af,none⟩ a)(hi:ops[i]?=some ⟨some d,op,ty,pos,af,none⟩)(M:Nat.beq i c=false)(N:cX .any ops i c=false)(b1:cX .any ops c i=false)(hd:Nat.blt d n=true)(I:Nat.beq d S.d=false)(h:CX P C n S ops c Q rest (i+1) ((d,a)::f) ph):CX P C n S ops c Q (⟨some d,op,ty,pos,af,none⟩::rest) i f ph:=by
 have J:i≠c:=fun e=>by subst e;simp at M
 refine⟨a,⟨_,hi,hd,.inr ⟨J,fun e=>by cases e;simp at I,fun _=>YA.pw h0 hd,fun _ x O=>YA.pw (h1 x O) hd,fun _=>N,fun _=>b1⟩⟩,?_⟩;rw[ga hi];grind[CX,fg]
theorem yl(h0:Pu P C n ⟨dk f (slotsOf op),S.bx0,S.lv0,S.gen0⟩ ⟨some d,op,ty,pos,af,none⟩ a)(hi:ops[i]?=some ⟨some d,op,ty,pos,af,none⟩)(M:Nat.beq i c=false)(N:cX .any ops i c=false)(b1:cX .any ops c i=true)(hd:Nat.blt d n=true)(I:Nat.beq d S.d=false)(h:CX P C n S ops c Q rest (i+1) ((d,a)::f) false):CX P C n S ops c Q (⟨some d,op,ty,pos,af,none⟩::rest) i f false:=by
 have J:i≠c:=fun e=>by subst e;simp at M
 refine⟨a,⟨_,hi,hd,.inr ⟨J,fun e=>by cases e;simp at I,fun _=>YA.pw h0 hd,(fun h=>by rw[b1]at h;cases h),fun _=>N,fun h=>by cases h⟩⟩,?_⟩;rw[ga hi];grind[CX,fg]
theorem Lf(I:∀g,WO P C n ops (fun e st=>e=.normal∧∃x,S.ok x∧st=⟨(S.d,S.a x)::(dk f (slotsOf op)++g),S.bx1 x,S.lv1,S.gen1⟩) [⟨some S.d,op,ty,pos,af,none⟩] ⟨dk f (slotsOf op)++g,S.bx0,S.lv0,S.gen0⟩)(hi:ops[i]?=some ⟨some S.d,op,ty,pos,af,none⟩)(M:Nat.beq i c=true)(hd:Nat.blt S.d n=true)(h:CX P C n S ops c Q rest (i+1) ((S.d,.any)::f) true):CX P C n S ops c Q (⟨some S.d,op,ty,pos,af,none⟩::rest) i f false:=by
 have J:i=c:=Γ M;refine⟨.any,⟨_,hi,hd,.inl ⟨J,rfl,rfl,rfl,rfl,dk f (slotsOf op),fun t x I=>?_,fun g=>I g⟩⟩,?_⟩
 ·obtain⟨h1,h2⟩:=fA I
  exact⟨h1,D'.2 (.inl h2)⟩
 ·rw[ga hi]
  grind[CX,fg]
end
open Go
variable {H:Type} {enc:TypeId×Value→H}
theorem oP{a:Assume}{C:Checked}{os:Os}{f:FuncId}{s:ChangeSpec}{conds:List PathCond}{apart fresh handsOn again:Bool}{X:World->Array Value->Prop}(hX:∀(w w':World)(args:Array Value),w.heap=w'.heap->X w args->X w' args)(own:ownKnob C.prog.godebug=none)(started:os.Started)(J:C.prog.inits.idxOf? f=none)(U:C.prog.funcs[f]?=some fn)(witness:∃(w:World)(tape:Tape)(i:Input),w.os=os∧(w.forCall tape i).Shaped C.prog∧i.vars=[]∧Input.okWide C.prog (w.forCall tape i) .any w.heap.size f i∧
  ((s.pre enc C.prog fn conds apart (w.forCall tape i).memory i.args∧X (w.forCall tape i).memory i.args)∧sizedMet enc C.prog fn (OpenSpec.ofChange s) apart (w.forCall tape i).memory i.args)∧a.holds C.prog (lone (Frame.enter C.prog f i.args .normal) [] (w.forCall tape i)))(I:∀(W:World)(base:Nat)(args:Array Value)(ds gs:List (DataW H))(before:List MemPlace),
  (∀(j:Nat) t v,fn.params[j]?=some t->args[j]?=some v->Value.okWide C.prog W .any base t v)->
  DataW.Whole enc C.prog fn.params.toList s.vars apart W args.toList ds gs before->
  W.ShapedOpen C.prog->X W args->(DataW.weightsEach C.prog (fn.params.toList++s.plain.varTypes C.prog) (ds++gs)).all (·<=reachBytes)=true->
  Calls C.prog f args W fun e W'=>∃v,e=.returned v∧s.post enc C.prog fn apart fresh handsOn again W args v W'):
 ReturnsInHanded a C os f .any (fun w args=>(s.pre enc C.prog fn conds apart w args∧X w args)∧sizedMet enc C.prog fn (OpenSpec.ofChange s) apart w args) (s.post enc C.prog fn apart fresh handsOn again):=by
 refine returnsInHanded_of_calls own started J witness ?_;intro w tape i _ ad _ hok M ai;obtain⟨_,_,_,aj,N,_,_,_,_,O⟩:=hok;have e:aj=fn:=J' (N.symm.trans U);subst e;obtain⟨⟨⟨ds,gs,before,hw,hc⟩,hx⟩,hz⟩:=M;have a1:=DataW.Whole.of_heap (w':=w.forCall tape i) (by rfl) hw;refine(I (w.forCall tape i) w.heap.size i.args ds gs before O a1 ad (hX _ _ _ (by rfl) hx) (hz.weights hw)).mono fun e W'⟨v,he,hp⟩=>?_;subst he;exact ChangeSpec.post_blind hp
theorem D2{s:ChangeSpec}{apart W args ds gs before}(I:s.vars=[])(hW:DataW.Whole enc P fn.params.toList s.vars apart W args ds gs before)(J:(DataW.weightsEach P (fn.params.toList++s.plain.varTypes P) (ds++gs)).all (·<=reachBytes)=true):∀n∈DataW.weightsEach P fn.params.toList ds,n<=reachBytes:=by
 obtain⟨_,_,_,M,_⟩:=hW;rw[I]at M;obtain⟨rfl,_⟩:=ChangeShapes.trodVars_none M;have e:s.plain.varTypes P=[]:=by simp[ChangeSpec.plain,DataSpec.varTypes,I]
 rw[e,List.append_nil,List.append_nil]at J;exact fun n N=>by simpa using I'.1 J n N
theorem yq{C:Checked}{os:Os}{f}{s:ChangeSpec}{conds apart laid}(modest:Bool)(args:Array Value)(fuel:Nat)(M:((World.laidAll C.prog os laid).forCall (fun _ _=>0) ⟨#[],args,[]⟩).variablesZipB C.prog=true)(N:(((World.laidAll C.prog os laid).forCall (fun _ _=>0) ⟨#[],args,[]⟩).heap.toList.drop C.prog.globals.size).take ((begin C.prog (fun _ _=>0) default).world.heap.size-C.prog.globals.size)=
  (begin C.prog (fun _ _=>0) default).world.heap.toList.drop C.prog.globals.size)(O:(World.holding C.prog os ⟨#[],#[],[]⟩).layFits C.prog laid []=true)(hi:(World.holding C.prog os ⟨#[],#[],[]⟩).layIfaces C.prog laid (World.laidAll C.prog os laid)=true)(hok:Input.okWideB C.prog ((World.laidAll C.prog os laid).forCall (fun _ _=>0) ⟨#[],args,[]⟩) f ⟨#[],args,[]⟩=true)(I:s.preB enc C.prog fn conds apart ((World.laidAll C.prog os laid).forCall (fun _ _=>0) ⟨#[],args,[]⟩).memory args fuel=true)(J:s.sizedB enc C.prog fn apart ((World.laidAll C.prog os laid).forCall (fun _ _=>0) ⟨#[],args,[]⟩).memory args fuel=true):
 ∃(w:World)(tape:Tape)(i:Input),w.os=os∧(w.forCall tape i).Shaped C.prog∧i.vars=[]∧Input.okWide C.prog (w.forCall tape i) .any w.heap.size f i∧
   ((s.pre enc C.prog fn conds apart (w.forCall tape i).memory i.args∧laidMet C.prog laid (w.forCall tape i).memory)∧sizedMet enc C.prog fn (OpenSpec.ofChange s) apart (w.forCall tape i).memory i.args)∧({modest:=modest}:Assume).holds C.prog (lone (Frame.enter C.prog f i.args .normal) [] (w.forCall tape i)):=
 ⟨World.laidAll C.prog os laid,fun _ _=>0,⟨#[],args,[]⟩,World.laidAll_os _ _ _,World.shaped_of_ZipB M N,(Input.okWide_of_okWideB (base:=0) hok).1,(Input.okWide_of_okWideB hok).2,⟨⟨ChangeSpec.pre_of_preB I,laidMet_laidAll args O hi⟩,sizedMet_of_sizedB J⟩,by simp only[Assume.holds];exact⟨by simp,by simp,fun _=>Modest.zero,by simp,by simp⟩⟩
theorem w9{W:World}{l}(h:laidMet P l W){n nm}{d:DataW Unit}(hm:(n,.iface nm d)∈l){ti}(I:((P.globalNamed n).bind fun g=>(P.globals[g]?).map (·.type))=some ti)(hi:mR P ti=true):∃t p,W.var? P n=some #[.iface t p]:=by
 obtain⟨ms,hi⟩:=mY hi;obtain⟨g,t,cs,fuel,p,h1,h2,h3,h4⟩:=Lib.laidMet.reads h hm;rw[h1]at I;simp only[Option.bind_some]at I;rw[h2]at I;simp only[Option.some.injEq]at I;subst I;obtain⟨f1,u,v,J,_⟩:=iface_of_trod hi h4;refine⟨u,v,h3.trans ?_⟩;rw[show cs=#[.iface u v]from by rw[<-Array.toArray_toList (xs:=cs),J]]
theorem Ik{W:World}{l}(h:laidMet P l W){n}{k:IntKind}{J:List Int}{d:DataW Unit}(hm:(n,d)∈l)(hd:d=Lib.tabData k J){t e}(I:((P.globalNamed n).bind fun g=>(P.globals[g]?).map (·.type))=some t)(O:P.underlying t=some (.array m e))(he:P.underlying e=some (.int k))(M:P.cellsOf e=1)(N:P.cellsOf t=m):
 W.var? P n=some (J.map fun z=>Value.int k z).toArray:=by
 subst hd;obtain⟨g,t',cs,fuel,p,h1,h2,h3,h4⟩:=Lib.laidMet.reads h hm;rw[h1]at I;simp only[Option.bind_some]at I;rw[h2]at I;simp only[Option.some.injEq]at I;subst I;rw[h3,←Lib.cells_of_tab O he M N h4]
theorem Dx{W l}(h:laidMet P l W){d:DataW Unit}(h1:("internal/strconv.uint64pow10",d)∈l)(hd:d=Lib.tabData .u64 Lib.pow10Tab){t e}(O:((P.globalNamed "internal/strconv.uint64pow10").bind fun g=>(P.globals[g]?).map (·.type))=some t)(U:P.underlying t=some (.array m e))(he:P.underlying e=some (.int .u64))(I:P.cellsOf e=1)(J:P.cellsOf t=m){nm nm'}{d1 d2:DataW Unit}(h2:("strconv.ErrSyntax",.iface nm d1)∈l)(h3:("strconv.ErrRange",.iface nm' d2)∈l){ti}(M:((P.globalNamed "strconv.ErrSyntax").bind fun g=>(P.globals[g]?).map (·.type))=some ti)(N:((P.globalNamed "strconv.ErrRange").bind fun g=>(P.globals[g]?).map (·.type))=some ti)(hi:mR P ti=true):qa P W:=
 ⟨Ik h h1 hd O U he I J,w9 h h2 M hi,w9 h h3 N hi⟩
end Go.Ab
namespace Go.Tb
open Go.Ab
variable {l:List UInt8}{i k u:Nat}{α:Type}{level id a:Int}{x:Value}
variable {l1:List (Value×List (List D))}
theorem jm{P C n st o x y}(h:Pu P C n st o (.d (.v (.string x))))(e:x=y):Pu P C n st o (.d (.v (.string y))):=e▸h
def fU(u:Nat):List UInt8:=Lib.decDigits u
theorem jy(h:u<10):fU u=[UInt8.ofNat (48+u)]:=by unfold fU;rw[Lib.decDigits,dif_pos h]
theorem kZ(h:¬u<10):fU u=fU (u/10)++[UInt8.ofNat (48+u%10)]:=by unfold fU;rw[Lib.decDigits,dif_neg h]
theorem qh{p:Nat->Prop}(h1:∀u,u<10->p u)(h2:∀u,¬u<10->p (u/10)->p u):∀u,p u:=by
 intro u
 induction u using Nat.strongRecOn with
 |_ u I=>grind
theorem sG{d}(h:d<10):(UInt8.ofNat (48+d)).toNat=48+d:=by grind[UInt8.toNat_ofNat']
def eS(b:UInt8):Bool:=decide (48<=b.toNat)&&decide (b.toNat<=57)
theorem oN:∀u,∀b∈fU u,eS b=true:=by
 refine qh (fun u h b hb=>?_) (fun u h I b hb=>?_)
 ·rw[jy h]at hb
  simp only[List.mem_singleton]at hb;subst hb;simp only[eS,sG h,μ,Δ];omega
 ·rw[kZ h]at hb
  rcases D'.1 hb with hb|hb
  ·grind
  ·simp only[List.mem_singleton]at hb
   subst hb;simp only[eS,sG (Nat.mod_lt u (show 0<10 by decide)),μ,Δ];omega
theorem kj(u):fU u≠[]:=by
 by_cases h:u<10;·grind[jy]
 ·rw[kZ h];simp
theorem qL:∀u k,u<10^(k+1)->(fU u).length<=k+1:=by
 refine qh (fun u h k _=>?_) (fun u h J k I=>?_);·grind[jy]
 ·rw[kZ h]
  simp only[υ,List.length_singleton]
  match k,I with
  |0,I=>simp at I;omega
  |k+1,I=>grind
def eg(n:Int):ByteArray:=⟨(Lib.itoa n).toArray⟩
theorem iT{n:Int}(h:n<0):Lib.itoa n=45::fU n.natAbs:=by unfold Lib.itoa fU;rw[if_pos h]
theorem iu{n:Int}(h:0<=n):Lib.itoa n=fU n.toNat:=by unfold Lib.itoa fU;rw[if_neg (by omega)]
theorem ia(n):(eg n).data.toList=Lib.itoa n:=rfl
theorem GH{n:Int}(h:n.natAbs<10^16):(Lib.itoa n).length<=17:=by
 rcases Int.lt_or_le n 0 with I|I
 ·rw[iT I,Ξ]
  have:=qL n.natAbs 15 h;omega
 ·rw[iu I]
  have:=qL n.toNat 15 (by omega);omega
/-! what strconv.Atoi says of a numeral -/
theorem zD:∀(u:Nat),u<18446744073709551616->∀(l:List UInt8),Lib.parseUint10 0 (fU u++l)=Lib.parseUint10 u l:=by
 refine qh (fun u h hu l=>?_) (fun u h I hu l=>?_)
 ·rw[jy h]
  have h1:=sG h;simp only[List.singleton_append,Lib.parseUint10,h1];grind
 ·rw[kZ h,M',I (by omega)]
  have h1:=sG (Nat.mod_lt u (show 0<10 by decide));simp only[List.singleton_append,Lib.parseUint10,h1];grind
theorem oX(h:u<18446744073709551616):Lib.parseMag (fU u)=.ok u:=by unfold Lib.parseMag;rw[if_neg (kj u)];have:=zD u h [];rw[List.append_nil]at this;exact this
theorem DB{n:Int}(h0:-9223372036854775808<=n)(h1:n<=9223372036854775807):Lib.atoiAll (Lib.itoa n)=.ok n:=by
 rcases Int.lt_or_le n 0 with I|I
 ·rw[iT I,Lib.atoiAll_minus,oX (by omega)]
  simp only[Lib.signed];grind
 ·rw[iu I]
  obtain⟨c,r,M⟩:∃c r,fU n.toNat=c::r:=by
   cases hd:fU n.toNat with
   |nil=>exact absurd hd (kj _)
   |cons c r=>exact⟨c,r,rfl⟩
  have J:=oN n.toNat c (by rw[M];simp);simp only[eS,μ,Δ]at J;have hm:=oX (u:=n.toNat) (by omega);rw[M]at hm⊢;rw[Lib.atoiAll_plain c r (by omega) (by omega),hm];simp only[Lib.signless];grind
def jR(s:ByteArray):Int×Bool:=
 match Lib.atoiAll s.data.toList with
 |.ok v=>if eK v=true∧eg v=s then(v,true)else(0,false)
 |_=>(0,false)
theorem yr{n:Int}(h:eK n=true):jR (eg n)=(n,true):=by have I:=h;simp only[eK,μ,Δ]at I;grind[jR,ia,DB]
structure Ev where
 time:Int
 kind:Int
 name:ByteArray
 n:Int
 m:Int
 stack:List ByteArray
@[reducible] def xG(l:List ByteArray):List (List D):=l.map sc
@[reducible] def Ev.c(e:Ev):List D:=[ci e.time,ci e.kind,cs e.name,ci e.n,ci e.m,.sl (xG e.stack)]
structure xH where
 word:ByteArray
 name:Bool
 n:Bool
 m:Bool
 stack:Bool
 least:Int
 most:Int
 mLeast:Int
 mMost:Int
@[reducible] def xH.c(f:xH):List D:=[cs f.word,.v (.bool f.name),.v (.bool f.n),.v (.bool f.m),.v (.bool f.stack),ci f.least,ci f.most,ci f.mLeast,ci f.mMost]
def Af:xH:=⟨B #[],false,false,false,false,0,0,0,0⟩
def wP:List xH:=[Af,
 ⟨B #[98,101,103,105,110],true,false,false,false,0,0,0,0⟩,
 ⟨B #[101,110,100],false,false,false,false,0,0,0,0⟩,
 ⟨B #[109,97,114,107],true,false,false,false,0,0,0,0⟩,
 ⟨B #[99,111,117,110,116],true,true,false,false,-1000000000000000,1000000000000000,0,0⟩,
 ⟨B #[115,97,109,112,108,101],false,true,false,true,1,1000000000000,0,0⟩,
 ⟨B #[115,101,110,100],false,true,false,false,0,1000000000000000,0,0⟩,
 ⟨B #[114,101,99,118],false,true,false,false,0,1000000000000000,0,0⟩,
 ⟨B #[114,117,110],false,true,false,false,0,63,0,0⟩,
 ⟨B #[115,116,111,112],false,true,true,false,0,3,0,1000000000000000⟩,
 ⟨B #[119,97,107,101],false,true,false,false,0,1000000000000000,0,0⟩,
 ⟨B #[97,108,108,111,99],false,true,true,true,0,1000000000000000,1,1000000000000⟩,
 ⟨B #[102,114,101,101],false,true,false,false,0,1000000000000000,0,0⟩]
def dh(k:Int):xH:=if k<1∨13<=k then Af else wP.getD k.toNat Af
def mI(k:Int):Bool:=decide (1<=k)&&decide (k<13)
def eC(l:List ByteArray):Int:=if 32<l.length then 7 else if l.any (fun s=>decide (cw s≠0))then 3 else 0
def mZ(f:xH)(e:Ev):Int:=if f.name then cw e.name else eC e.stack
def dq(e:Ev):Int:=
 if e.time<0∨1000000000000<e.time then 2
 else if mI e.kind=false∨((dh e.kind).name=false∧e.name≠B #[])∨((dh e.kind).n=false∧e.n≠0)∨((dh e.kind).m=false∧e.m≠0)∨((dh e.kind).stack=false∧0<e.stack.length)then 1
 else if mZ (dh e.kind) e≠0 then mZ (dh e.kind) e
 else if(dh e.kind).n=true∧(e.n<(dh e.kind).least∨(dh e.kind).most<e.n)then 2
 else if e.kind=9∧e.n≠2∧e.m≠0 then 1
 else if(dh e.kind).m=true∧(e.m<(dh e.kind).mLeast∨(dh e.kind).mMost<e.m)∧(e.kind≠9∨e.n=2)then 2
 else 0
/-! the reference's way -/
def oK(k:Int):Bool:=decide (k=1)||decide (k=3)||decide (k=4)
def yk(k:Int):Bool:=decide (4<=k)
def x9(k:Int):Bool:=decide (k=9)||decide (k=11)
def lh(k:Int):Bool:=decide (k=5)||decide (k=11)
def within(n lo hi:Int):Int:=if n<lo∨hi<n then 2 else 0
def jV(e:Ev):Int:=
 if e.kind=1∨e.kind=2∨e.kind=3 then 0
 else if e.kind=4 then within e.n (-1000000000000000) 1000000000000000
 else if e.kind=5 then within e.n 1 1000000000000
 else if e.kind=8 then within e.n 0 63
 else if e.kind=9 then
  if within e.n 0 3=0∧e.n=2 then within e.m 0 1000000000000000
  else if within e.n 0 3=0∧e.m≠0 then 1 else within e.n 0 3
 else if within e.n 0 1000000000000000=0∧e.kind=11 then within e.m 1 1000000000000
 else within e.n 0 1000000000000000
def jn(e:Ev):Int:=
 if e.time<0∨1000000000000<e.time then 2
 else if e.kind<1∨12<e.kind then 1
 else if(oK e.kind=false∧e.name≠B #[])∨(yk e.kind=false∧e.n≠0)∨(x9 e.kind=false∧e.m≠0)∨(lh e.kind=false∧0<e.stack.length)then 1
 else if lh e.kind=true∧eC e.stack≠0 then eC e.stack
 else if lh e.kind=false∧oK e.kind=true∧cw e.name≠0 then cw e.name
 else jV e
theorem kinds{k:Int}(h1:1<=k)(h2:k<13):k=1∨k=2∨k=3∨k=4∨k=5∨k=6∨k=7∨k=8∨k=9∨k=10∨k=11∨k=12:=by omega
theorem Cd:eC []=0:=rfl
theorem ET(e:Ev):jn e=dq e:=by
 unfold jn dq;by_cases ht:e.time<0∨1000000000000<e.time;·rw[if_pos ht,if_pos ht]
 rw[if_neg ht,if_neg ht];by_cases hk:1<=e.kind∧e.kind<13
 ·rw[if_neg (by omega)]
  have I:∀l:List ByteArray,¬0<l.length->l=[]:=fun l h=>A' (by omega)
  rcases kinds hk.1 hk.2 with h|h|h|h|h|h|h|h|h|h|h|h<;>
   simp only[h,oK,yk,x9,lh,jV,within,mI,dh,mZ]<;>simp[wP,Af]<;>grind[Cd]
 ·have:mI e.kind=false:=by simp[mI];omega
  rw[if_pos (by omega),if_pos (.inl this)]
structure Tk where
 kind:Int
 s:ByteArray
 n:Int
 at_:Nat
 nx:Nat
abbrev E0:ByteArray:=B #[]
@[reducible] def Tk.c(t:Tk):List D:=[ci t.kind,cs (if t.kind=3 then E0 else t.s),ci t.n,ci (t.at_:Int)]
def KQ(k:Int):Int:=if k=0 then 0 else if k=1 then 5 else k-1
@[reducible] def Tk.r(t:Tk):List D:=[ci (KQ t.kind),cs t.s,ci (t.at_:Int),ci (t.nx:Int)]
def JQ(b:UInt8):Bool:=decide (97<=b.toNat)&&decide (b.toNat<=122)
abbrev K3(k:Nat):Tk:=⟨0,E0,0,k,0⟩
def Tk.stops(t:Tk):Bool:=decide (t.kind=0)||decide (t.kind=1)
def Tk.ok(t:Tk):Bool:=
 (!decide (t.kind=2)||(match bg t.s with|c::_=>JQ c|[]=>false))&&(!decide (t.kind=5)||(match bg t.s with|c::_=>!JQ c|[]=>false))&&
 (!decide (t.kind=3)||decide ((jR t.s).2=true∧t.n=(jR t.s).1))&&decide (0<=t.kind)&&decide (t.kind<=5)
structure Wf(l:List Tk):Prop where
 ne:l≠[]
 last:∀(i:Nat) t,l[i]?=some t->(t.stops=true↔i+1=l.length)
 ok:∀t∈l,t.ok=true
abbrev PS:=Nat×Bool
abbrev Pr(α:Type):=PS->α×PS
abbrev Lv:Tk:=K3 0
section
variable(L:List Tk)
def Km(st:PS):Tk:=(L[st.1]?).getD Lv
/-! ### what readers do -/
structure oy{α:Type}(f:Pr α):Prop where
 mono:∀st,st.1<=(f st).2.1
 lt:∀st,st.1<L.length->(f st).2.1<L.length
 bad:∀st,st.2=true->(f st).2=st
variable{L}
theorem Jf{st:PS}{t:Tk}(h:L[st.1]?=some t):Km L st=t:=by unfold Km;rw[h];rfl
theorem Wf.more(hw:Wf L){st:PS}(h:st.1<L.length)(hs:(Km L st).stops=false):st.1+1<L.length:=by
 have e:L[st.1]?=some (L[st.1]'h):=by simp
 rw[Jf e]at hs;have:=hw.last _ _ e;grind
end
section
variable(L:List Tk)
variable{L}
/-! ### steps and queries -/
theorem oy.seq{β:Type}{f:Pr α}{h:Pr β}(I:oy L f)(J:oy L h):oy L (fun st=>h (f st).2)where
 mono st:=Y' (I.mono st) (J.mono _)
 lt st hl:=J.lt _ (I.lt st hl)
 bad st hb:=by have h1:=I.bad st hb;have h2:=J.bad (f st).2 (by rw[h1];exact hb);grind
theorem oy.map{β:Type}{f:Pr α}{h:Pr β}(I:oy L f)(e:∀st,(h st).2=(f st).2):oy L h where
 mono st:=by rw[e];exact I.mono st
 lt st hl:=by rw[e];exact I.lt st hl
 bad st hb:=by rw[e];exact I.bad st hb
end
theorem tP(s:ByteArray)(i j):bg (s.extract i j)=((bg s).take j).drop i:=by grind[bg,ByteArray.data_extract,Array.toList_extract,List.extract_eq_drop_take',List.drop_take]
/-! ### the functions -/
/-! ### the same as by places -/
inductive JV where
 |mk (op n:Int) (s:ByteArray) (keys:List ByteArray) (kids:List JV)
def JV.op:JV->Int|.mk a _ _ _ _=>a
def JV.n:JV->Int|.mk _ a _ _ _=>a
def JV.s:JV->ByteArray|.mk _ _ a _ _=>a
def JV.keys:JV->List ByteArray|.mk _ _ _ a _=>a
def JV.kids:JV->List JV|.mk _ _ _ _ a=>a
mutual
def JV.kc:JV->List (List D)
 |.mk _ _ _ _ kids=>JV.vp kids
def JV.vp:List JV->List (List D)
 |[]=>[]
 |e::r=>[ci e.op,ci e.n,cs e.s,.sl (e.keys.map sc),.sl (JV.kc e)]::JV.vp r
end
@[reducible] def JV.c(e:JV):List D:=[ci e.op,ci e.n,cs e.s,.sl (e.keys.map sc),.sl e.kc]
theorem JV.r7:∀l,JV.vp l=l.map JV.c
 |[]=>rfl
 |e::r=>by simp[JV.vp,JV.r7 r]
theorem JV.qD(e:JV):e.kc=e.kids.map JV.c:=by cases e;simp[JV.kc,JV.kids,JV.r7]
theorem JV.bG(e:JV):e.kc.length=e.kids.length:=by simp[JV.qD]
theorem JV.DX{e:JV}{k:JV}(h:e.kids[i]?=some k):e.kc[i]?=some k.c:=by rw[JV.qD];exact bC h
theorem aD{p:JV->Prop}(h:∀e,(∀k∈e.kids,p k)->p e):∀e,p e:=by
 intro e
 induction hn:_root_.SizeOf.sizeOf e using Nat.strongRecOn generalizing e with
 |_ m I=>
   subst hn;refine h e fun k J=>I (_root_.SizeOf.sizeOf k) ?_ k rfl
   cases e with
   |mk op n s keys kids=>have:=List.sizeOf_lt_of_mem (show k∈kids from J);grind
/-! equality -/
mutual
def J3:JV->JV->Bool
 |.mk a b c d e,.mk a' b' c' d' e'=>decide (a=a')&&(decide (b=b')&&(decide (c=c')&&(decide (d=d')&&uF e e')))
def uF:List JV->List JV->Bool
 |[],[]=>true
 |x::l,y::m=>J3 x y&&uF l m
 |_,_=>false
end
mutual
theorem Be:∀(a b:JV),J3 a b=true↔a=b
 |.mk a b c d e,.mk a' b' c' d' e'=>by simp only[J3,μ,Δ,JV.mk.injEq,yZ e e']
theorem yZ:∀(l m:List JV),uF l m=true↔l=m
 |[],[]=>by simp[uF]
 |x::l,y::m=>by simp only[uF,μ,Be x y,yZ l m,List.cons.injEq]
 |[],_::_=>by simp[uF]
 |_::_,[]=>by simp[uF]
end
instance:DecidableEq JV:=fun a b=>decidable_of_iff _ (Be a b)
/-! checking -/
def known(b:UInt8):Bool:=decide (b.toNat=9)||(decide (b.toNat=10)||(decide (32<=b.toNat)&&decide (b.toNat<=126)))
def da(s:ByteArray):Bool:=(bg s).all known
def gf:JV:=.mk 0 0 (B #[]) [] []
def dJ(j:JV):Bool:=
 if j.op=1 then decide (j.n=0)&&(decide (j.s=B #[])&&decide (j.keys.length+j.kids.length=0))
 else if j.op=2∨j.op=3 then decide (j.s=B #[])&&decide (j.keys.length+j.kids.length=0)
 else if j.op=4 then decide (j.n=0)&&decide (j.keys.length+j.kids.length=0)
 else if j.op=5 then decide (j.n=0)&&(decide (j.s=B #[])&&decide (j.keys.length=0))
 else if j.op=6 then decide (j.n=0)&&(decide (j.s=B #[])&&decide (j.keys.length=j.kids.length))
 else false
def gV(seen:List ByteArray):List ByteArray->Bool
 |[]=>false
 |s::r=>if seen.any (fun x=>decide (x=s))then true else gV (seen++[s]) r
def dH(j:JV)(level:Int):Int:=
 if dJ j=false then 1
 else if(j.op=2∧j.n≠0∧j.n≠1)∨(j.op=3∧eK j.n=false)then 2
 else if da j.s=false∨(j.keys.any fun s=>!da s)=true then 10
 else if gV [] j.keys=true then 4
 else if 5<=j.op∧16<level then 20
 else 0
mutual
def b8:JV->Int->Int
 |.mk op n s keys kids,level=>if dH (.mk op n s keys kids) level≠0 then dH (.mk op n s keys kids) level else dn kids (level+1)
def dn:List JV->Int->Int
 |[],_=>0
 |k::r,level=>if b8 k level≠0 then b8 k level else dn r level
end
/-! printing -/
def dN(b:UInt8):List UInt8:=if b=34∨b=92 then[92,b]else if b=10 then[92,110]else if b=9 then[92,116]else[b]
def cI(l:List UInt8):List UInt8:=34::(l.flatMap dN++[34])
def qn:List UInt8:=[110,117,108,108]
def mx:List UInt8:=[116,114,117,101]
def kK:List UInt8:=[102,97,108,115,101]
mutual
def bp:JV->List UInt8
 |.mk op n s keys kids=>
   if op=1 then qn else if op=2 then(if n=1 then mx else kK)else if op=3 then bg (eg n)else if op=4 then cI (bg s)
   else if op=6 then 123::(cv keys kids true++[125])else 91::(dI kids true++[93])
def dI:List JV->Bool->List UInt8
 |[],_=>[]
 |k::r,first=>(if first then[]else[44])++bp k++dI r false
def cv:List ByteArray->List JV->Bool->List UInt8
 |s::keys,k::r,first=>(if first then[]else[44])++cI (bg s)++[58]++bp k++cv keys r false
 |_,_,_=>[]
end
def e9(j:JV)(key:ByteArray):Option JV:=
 if j.op=6 then(match j.keys.findIdx? fun x=>decide (key=x)with|some i=>j.kids[i]?|none=>none)else none
/-! parsing: 'no at why' is a fault -/
inductive PE(α:Type)where
 |ok (x:α) (i:Nat)
 |no (at_:Nat) (why:Int)
def kX(b:UInt8):Bool:=decide (b.toNat=32)||(decide (b.toNat=9)||(decide (b.toNat=10)||decide (b.toNat=13)))
def bz(l:List UInt8)(i:Nat):UInt8:=l.getD i 0
def nQ(l:List UInt8):Nat->Nat->Nat
 |0,i=>i
 |k+1,i=>if i<l.length∧kX (bz l i)=true then nQ l k (i+1)else i
def bA(l:List UInt8)(i:Nat):Nat:=nQ l (l.length-i) i
def dc(l:List UInt8)(c:UInt8)(i:Nat):PE Unit:=if i<l.length∧bz l i=c then .ok () (i+1)else .no i 10
def dR(l:List UInt8):List UInt8->Nat->PE Unit
 |[],i=>.ok () i
 |c::r,i=>match dc l c i with
   |.ok _ j=>dR l r j
   |.no a w=>.no a w
def lM(c:UInt8):Option Nat:=
 if 48<=c.toNat∧c.toNat<=57 then some (c.toNat-48)else if 97<=(c|||32).toNat∧(c|||32).toNat<=102 then some ((c|||32).toNat-97+10)else none
def gl(l:List UInt8)(i:Nat):PE UInt8:=
 if bz l i=34∨bz l i=92∨bz l i=47 then .ok (bz l i) (i+1)
 else if bz l i=110 then .ok 10 (i+1)
 else if bz l i=116 then .ok 9 (i+1)
 else match dR l [117,48,48] i with
  |.no a w=>.no a w
  |.ok _ j=>match lM (bz l j)with
    |none=>.no j 10
    |some high=>if high=1∨7<high then .no j 10 else match lM (bz l (j+1))with
      |none=>.no (j+1) 10
      |some low=>if known (UInt8.ofNat (16*high+low))=false then .no (j+1) 10 else .ok (UInt8.ofNat (16*high+low)) (j+2)
def eE(l:List UInt8):Nat->Nat->List UInt8->PE (List UInt8)
 |0,i,_=>.no i 10
 |k+1,i,acc=>
   if(bz l i).toNat<32∨126<(bz l i).toNat then .no i 10
   else if bz l i=34 then .ok acc (i+1)
   else if bz l i=92 then(match gl l (i+1)with
    |.no a w=>.no a w
    |.ok c j=>eE l k j (acc++[c]))
   else eE l k (i+1) (acc++[bz l i])
def fL(l:List UInt8)(i:Nat):PE (List UInt8):=match dc l 34 i with
 |.no a w=>.no a w
 |.ok _ j=>eE l (l.length+1-j) j []
def jT(l:List UInt8):Nat->Nat->Nat
 |0,i=>i
 |k+1,i=>if i<l.length∧eS (bz l i)=true then jT l k (i+1)else i
def dd(l:List UInt8)(i:Nat):Nat:=if bz l i=48 then i+1 else jT l (l.length-i) i
def fM(l:List UInt8)(i:Nat):PE JV:=
 let i1:=if bz l i=45 then i+1 else i
 let i2:=dd l i1
 if i2=i1 then .no i1 10 else
 let t:ByteArray:=⟨((l.drop i).take (i2-i)).toArray⟩
 let u:=if t=B #[45,48]then B #[48]else t
 if(jR u).2=true then .ok (.mk 3 (jR u).1 (B #[]) [] []) i2 else .no i 2
def bytesOf(l:List UInt8):ByteArray:=⟨l.toArray⟩
mutual
def dW(l:List UInt8):Nat->Int->Nat->PE JV
 |0,_,i=>.no i 10
 |k+1,level,i0=>
   let i:=bA l i0
   let c:=bz l i
   if c=110 then(match dR l qn i with|.no a w=>.no a w|.ok _ j=>.ok (.mk 1 0 (B #[]) [] []) j)
   else if c=116 then(match dR l mx i with|.no a w=>.no a w|.ok _ j=>.ok (.mk 2 1 (B #[]) [] []) j)
   else if c=102 then(match dR l kK i with|.no a w=>.no a w|.ok _ j=>.ok (.mk 2 0 (B #[]) [] []) j)
   else if c=34 then(match fL l i with|.no a w=>.no a w|.ok t j=>.ok (.mk 4 0 (bytesOf t) [] []) j)
   else if c=91∨c=123 then
    if 16<level then .no i 20
    else if c=91 then im l k level (i+1)else iv l k level (i+1)
   else fM l i
def im(l:List UInt8):Nat->Int->Nat->PE JV
 |0,_,i=>.no i 10
 |k+1,level,i0=>
   let i:=bA l i0
   if bz l i=93 then .ok (.mk 5 0 (B #[]) [] []) (i+1)else gu l k level i []
def gu(l:List UInt8):Nat->Int->Nat->List JV->PE JV
 |0,_,i,_=>.no i 10
 |k+1,level,i,acc=>match dW l k (level+1) i with
   |.no a w=>.no a w
   |.ok v j=>
     let j1:=bA l j
     if bz l j1=44 then gu l k level (j1+1) (acc++[v])
     else match dc l 93 j1 with|.no a w=>.no a w|.ok _ j2=>.ok (.mk 5 0 (B #[]) [] (acc++[v])) j2
def iv(l:List UInt8):Nat->Int->Nat->PE JV
 |0,_,i=>.no i 10
 |k+1,level,i0=>
   let i:=bA l i0
   if bz l i=125 then .ok (.mk 6 0 (B #[]) [] []) (i+1)else gp l k level i [] []
def gp(l:List UInt8):Nat->Int->Nat->List ByteArray->List JV->PE JV
 |0,_,i,_,_=>.no i 10
 |k+1,level,i0,keys,acc=>
   let i:=bA l i0
   match fL l i with
   |.no a w=>.no a w
   |.ok t j=>
     if keys.any (fun x=>decide (x=bytesOf t))then .no i 4 else
     match dc l 58 (bA l j)with
     |.no a w=>.no a w
     |.ok _ j1=>match dW l k (level+1) j1 with
       |.no a w=>.no a w
       |.ok v j2=>
         let j3:=bA l j2
         if bz l j3=44 then gp l k level (j3+1) (keys++[bytesOf t]) (acc++[v])
         else match dc l 125 j3 with|.no a w=>.no a w|.ok _ j4=>.ok (.mk 6 0 (B #[]) (keys++[bytesOf t]) (acc++[v])) j4
end
def ep(l:List UInt8):PE JV:=match dW l (3*l.length+1) 1 0 with
 |.no a w=>.no a w
 |.ok j i=>if bA l i<l.length then .no (bA l i) 10 else .ok j 0
section
/-! a text from a position on -/
variable {l:List UInt8}{i k u:Nat}{α:Type}{level id a:Int}{x:Value}
variable {l1:List (Value×List (List D))}
variable {j:JV}
theorem dG{a r}(h:l.drop i=a::r):i<l.length∧bz l i=a∧l.drop (i+1)=r:=by grind[Nat.lt_or_ge,List.drop_eq_nil_of_le,List.drop_eq_getElem_cons,bz,List.getElem?_eq_getElem]
theorem mU{x r:List UInt8}(h:l.drop i=x++r):l.drop (i+x.length)=r:=by rw[<-List.drop_drop,h,List.drop_append_of_le_length (χ _),List.drop_length,List.nil_append]
theorem oE(h:l.length<=i):bz l i=0:=by unfold bz;grind
theorem js:bz l i=(l.drop i).headD 0:=by grind[Nat.lt_or_ge,List.drop_eq_getElem_cons,bz,List.getElem?_eq_getElem,oE,List.drop_eq_nil_of_le]
/-! white space -/
theorem C5(h:kX (bz l i)=false):∀k,nQ l k i=i
 |0=>rfl
 |k+1=>by simp only[nQ];rw[if_neg (by simp[h])]
theorem e8(h:kX (bz l i)=false):bA l i=i:=C5 h _
theorem zY(l):∀(k i:Nat),i<=nQ l k i
 |0,_=>χ _
 |k+1,i=>by
   simp only[nQ];split;·exact Y' (Nat.le_succ i) (zY l k (i+1))
   ·grind
theorem zd(l:List UInt8):∀(k i:Nat),i<=l.length->nQ l k i<=l.length
 |0,_,h=>h
 |k+1,i,h=>by
   simp only[nQ];split;·rename_i q;exact zd l k (i+1) q.1
   ·grind
theorem ew(l i):i<=bA l i:=zY l _ i
theorem eH(h:i<=l.length):bA l i<=l.length:=zd l _ i h
theorem xT(h:l.length<=i):bA l i=i:=by refine e8 ?_;rw[oE h];rfl
theorem wg(h:i<l.length)(hw:kX (bz l i)=true):bA l i=bA l (i+1):=by unfold bA;obtain⟨k,I⟩:∃k,l.length-i=k+1:=⟨l.length-i-1,by omega⟩;grind[nQ]
theorem tG{x r:List UInt8}:∀{i:Nat},l.drop i=x++r->(∀b∈x,kX b=true)->bA l i=bA l (i+x.length):=by
 induction x with
 |nil=>intro i _ _;rfl
 |cons a x I=>intro i h hw;obtain⟨h1,h2,h3⟩:=dG h;rw[wg h1 (by rw[h2];exact hw a (Ψ ..)),I h3 (fun b hb=>hw b (ω _ hb)),Ξ];congr 1;omega
/-! words and texts -/
theorem nW{a r}(h:l.drop i=a::r):dc l a i=.ok () (i+1):=by grind[dG,dc]
theorem qS:∀{x:List UInt8}{i:Nat}{r:List UInt8},l.drop i=x++r->dR l x i=.ok () (i+x.length)
 |[],i,r,_=>rfl
 |a::x,i,r,h=>by obtain⟨h1,h2,h3⟩:=dG h;simp only[dR,nW h];rw[qS h3,Ξ];congr 1;omega
theorem AA{b:UInt8}(h:known b=true):b=9∨b=10∨(32<=b.toNat∧b.toNat<=126):=by
 unfold known at h;simp only[Bool.or_eq_true,μ,Δ]at h;rcases h with h|h|h
 ·exact .inl (UInt8.toNat_inj.1 h)
 ·exact .inr (.inl (UInt8.toNat_inj.1 h))
 ·grind
theorem xZ{l:List UInt8}:∀{t:List UInt8}{k i:Nat}{acc r:List UInt8},(∀b∈t,known b=true)->l.drop i=t.flatMap dN++34::r->t.length+1<=k->eE l k i acc=.ok (acc++t) (i+(t.flatMap dN).length+1)
 |[],k,i,acc,r,_,h,hk=>by obtain⟨k,rfl⟩:∃J,k=J+1:=⟨k-1,by simp at hk;omega⟩;obtain⟨h1,h2,h3⟩:=dG (show l.drop i=34::r from h);unfold eE;simp_all
 |b::t,k,i,acc,r,hp,h,hk=>by
   obtain⟨k,rfl⟩:∃J,k=J+1:=⟨k-1,by simp at hk;omega⟩;have hb:=AA (hp b (Ψ ..));have X:=fun N M O=>xZ (l:=l) (t:=t) (k:=k) (i:=N) (acc:=M) (r:=r) (fun x U=>hp x (ω _ U)) O (by simp at hk;omega);have e:(b::t).flatMap dN=dN b++t.flatMap dN:=rfl;rw[e,M']at h;have I:∀(c d:UInt8),dN b=[92,c]->(∀j,bz l j=c->gl l j=.ok d (j+1))->d=b->eE l (k+1) i acc=.ok (acc++b::t) (i+((b::t).flatMap dN).length+1):=by intro c d he hj hd;subst hd;rw[he]at h;obtain⟨h1,h2,h3⟩:=dG (show l.drop i=92::(c::(t.flatMap dN++34::r))from h);obtain⟨h4,h5,h6⟩:=dG h3;unfold eE;rw[h2,if_neg (by decide),if_neg (by decide),if_pos rfl,hj _ h5];grind
   by_cases q1:b=34∨b=92
   ·refine I b b (by unfold dN;rw[if_pos q1]) (fun j hj=>?_) Z
    unfold gl;grind
   by_cases q2:b=10
   ·refine I 110 10 (by unfold dN;rw[if_neg q1,if_pos q2]) (fun j hj=>?_) q2.symm
    grind[gl]
   by_cases q3:b=9
   ·refine I 116 9 (by unfold dN;rw[if_neg q1,if_neg q2,if_pos q3]) (fun j hj=>?_) q3.symm
    grind[gl]
   have he:dN b=[b]:=by unfold dN;rw[if_neg q1,if_neg q2,if_neg q3]
   have hr:32<=b.toNat∧b.toNat<=126:=by grind
   rw[he]at h;obtain⟨h1,h2,h3⟩:=dG (show l.drop i=b::(t.flatMap dN++34::r)from h);unfold eE;grind
theorem z6{t r}(hp:∀b∈t,known b=true)(h:l.drop i=cI t++r):fL l i=.ok t (i+(cI t).length):=by
 have I:l.drop i=34::(t.flatMap dN++34::r):=by rw[h];simp[cI]
 obtain⟨h1,h2,h3⟩:=dG I;unfold fL;rw[nW I];dsimp only;have hlen:t.length<=(t.flatMap dN).length:=by
  clear h I h3
  induction t with
  |nil=>simp
  |cons a t J=>grind[dN,List.mem_cons_of_mem,List.length_append,List.length_cons]
 have hl:(l.drop (i+1)).length=l.length-(i+1):=List.length_drop ..;rw[h3]at hl;simp only[υ,Ξ]at hl;rw[xZ hp h3 (by omega)];grind[cI]
end
variable {j:JV}
theorem mh(s):bytesOf (bg s)=s:=by cases s;rfl
theorem dU(l):bg (bytesOf l)=l:=by simp[bg,bytesOf]
/-! numbers -/
theorem DE:∀u,(fU u).headD 0=48->u=0:=by
 refine qh (fun u h I=>?_) (fun u h M I=>?_)
 ·rw[jy h]at I
  have h1:(UInt8.ofNat (48+u)).toNat=48:=by simp_all
  grind[UInt8.toNat_ofNat']
 ·rw[kZ h]at I
  have J:=kj (u/10);have:(fU (u/10)).headD 0=48:=by
   cases hd:fU (u/10)with
   |nil=>exact absurd hd J
   |cons a r=>rw[hd]at I;exact I
  grind
theorem B1:∀{x:List UInt8}{k i:Nat}{r:List UInt8},l.drop i=x++r->(∀b∈x,eS b=true)->eS (r.headD 0)=false->x.length<=k->jT l k i=i+x.length
 |[],k,i,r,h,_,hr,_=>by
   have I:bz l i=r.headD 0:=by rw[js,h];rfl
   cases k with
   |zero=>rfl
   |succ k=>simp only[jT];rw[if_neg (by rw[I,hr];simp)];rfl
 |a::x,k,i,r,h,hd,hr,hk=>by obtain⟨k,rfl⟩:∃J,k=J+1:=⟨k-1,by simp at hk;omega⟩;obtain⟨h1,h2,h3⟩:=dG h;simp only[jT];rw[if_pos ⟨h1,by rw[h2];exact hd a (Ψ ..)⟩,B1 h3 (fun b hb=>hd b (ω _ hb)) hr (by simp at hk;omega),Ξ];omega
theorem Cy:eS ((fU u).headD 0)=true:=by
 cases hd:fU u with
 |nil=>exact absurd hd (kj u)
 |cons a r=>exact oN u a (by rw[hd];exact Ψ ..)
theorem Av{r:List UInt8}(h:l.drop i=fU u++r)(I:eS (r.headD 0)=false):dd l i=i+(fU u).length:=by
 have J:bz l i=(fU u).headD 0:=by
  rw[js,h]
  cases hd:fU u with
  |nil=>exact absurd hd (kj u)
  |cons a x=>rfl
 grind[dd,bz,DE,jy,B1,oN,List.length_drop]
theorem AU{b}(h:eS b=true):b≠45:=by rintro rfl;exact absurd h (by decide)
theorem H9{n:Int}{r:List UInt8}(I:eK n=true)(h:l.drop i=bg (eg n)++r)(J:eS (r.headD 0)=false):fM l i=.ok (.mk 3 n (B #[]) [] []) (i+(bg (eg n)).length):=by
 have hb:bg (eg n)=Lib.itoa n:=ia n;have key:∀i1 i2,(if bz l i=45 then i+1 else i)=i1->dd l i1=i2->i2≠i1->i2=i+(bg (eg n)).length->fM l i=.ok (.mk 3 n (B #[]) [] []) (i+(bg (eg n)).length):=by
  intro i1 i2 h1 h2 h3 h4;unfold fM;rw[h1];dsimp only;rw[h2,if_neg h3];have M:(⟨((l.drop i).take (i2-i)).toArray⟩:ByteArray)=eg n:=by rw[h4,Nat.add_sub_cancel_left,h,List.take_append_of_le_length (χ _),List.take_length];exact mh (eg n)
  have N:¬eg n=B #[45,48]:=fun q=>by
   have h5:=yr I;rw[q]at h5;exact absurd h5 (by
    have:jR (B #[45,48])=(0,false):=by decide+kernel
    rw[this];simp)
  grind[yr]
 rcases Int.lt_or_le n 0 with h0|h0
 ·rw[hb,iT h0]at h
  obtain⟨h1,h2,h3⟩:=dG (show l.drop i=45::(fU n.natAbs++r)from h);grind[Av,List.length_pos_iff,kj,iT,List.length_cons]
 ·rw[hb,iu h0]at h
  have hd:=Av h J;have hp:=List.length_pos_iff.2 (kj n.toNat);have O:bz l i=(fU n.toNat).headD 0:=by
   rw[js,h]
   cases hd:fU n.toNat with
   |nil=>exact absurd hd (kj _)
   |cons a x=>rfl
  grind[AU,Cy,iu]
/-! what a valid node is -/
theorem jh(h:dH j level=0):dJ j=true∧¬((j.op=2∧j.n≠0∧j.n≠1)∨(j.op=3∧eK j.n=false))∧da j.s=true∧(∀s∈j.keys,da s=true)∧gV [] j.keys=false∧(5<=j.op->level<=16):=by
 unfold dH at h;split at h;·grind
 ·grind
theorem tE{s}(h:da s=true):∀b∈bg s,known b=true:=I'.1 h
theorem nP{β:Type}{a:List α}{b:List β}(h:a.length+b.length=0):a=[]∧b=[]:=⟨List.length_eq_zero_iff.1 (by omega),List.length_eq_zero_iff.1 (by omega)⟩
/-! the first byte of a printed value -/
theorem tZ(j:JV)(level)(h:b8 j level=0):∃a r,bp j=a::r∧kX a=false:=by
 obtain⟨op,n,s,keys,kids⟩:=j;simp only[bp];split;·exact⟨_,_,rfl,by decide⟩
 ·split
  ·split
   ·exact⟨_,_,rfl,by decide⟩
   ·exact⟨_,_,rfl,by decide⟩
  ·split
   ·rcases Int.lt_or_le n 0 with h0|h0
    ·exact⟨45,fU n.natAbs,by rw[show bg (eg n)=Lib.itoa n from ia n,iT h0],by decide⟩
    ·rw[show bg (eg n)=Lib.itoa n from ia n,iu h0]
     cases hd:fU n.toNat with
     |nil=>exact absurd hd (kj _)
     |cons a r=>refine⟨a,r,rfl,?_⟩;have h1:=oN n.toNat a (by rw[hd];exact Ψ ..);unfold eS at h1;simp only[μ,Δ]at h1;unfold kX;grind
   ·split
    ·exact⟨34,_,rfl,by decide⟩
    ·split
     ·exact⟨123,_,rfl,by decide⟩
     ·exact⟨91,_,rfl,by decide⟩
theorem gZ(x:JV)(r first):dI (x::r) first=(if first then[]else[44])++bp x++dI r false:=by simp[dI]
theorem eQ(s keys)(x:JV)(r first):cv (s::keys) (x::r) first=(if first then[]else[44])++cI (bg s)++[58]++bp x++cv keys r false:=by simp[cv]
theorem EZ{seen:List ByteArray}{s r}:gV seen (s::r)=false↔seen.any (fun x=>decide (x=s))=false∧gV (seen++[s]) r=false:=by simp only[gV];cases seen.any (fun x=>decide (x=s))<;>simp
theorem jf{k:JV}{r}(h:dn (k::r) level=0):b8 k level=0∧dn r level=0:=by grind[dn]
theorem lu{op n:Int}{s keys kids}(h:b8 (.mk op n s keys kids) level=0):dH (.mk op n s keys kids) level=0∧dn kids (level+1)=0:=by grind[b8]
theorem CI(op n s)(keys:List ByteArray)(kids:List JV):dJ (.mk op n s keys kids)=
 (if op=1 then decide (n=0)&&(decide (s=B #[])&&decide (keys.length+kids.length=0))
 else if op=2∨op=3 then decide (s=B #[])&&decide (keys.length+kids.length=0)
 else if op=4 then decide (n=0)&&decide (keys.length+kids.length=0)
 else if op=5 then decide (n=0)&&(decide (s=B #[])&&decide (keys.length=0))
 else if op=6 then decide (n=0)&&(decide (s=B #[])&&decide (keys.length=kids.length))
 else false):=rfl
def Fw(v:JV):Prop:=∀(level:Int),b8 v level=0->∀(l:List UInt8)(i k:Nat)(r:List UInt8),l.drop i=bp v++r->eS (r.headD 0)=false->3*(bp v).length+1<=k->dW l k level i=.ok v (i+(bp v).length)
theorem vh{r}:∀(kids:List JV),(∀x∈kids,Fw x)->dn kids (level+1)=0->kids≠[]->∀(i k:Nat)(acc:List JV),l.drop i=dI kids true++93::r->3*((dI kids true).length+1)<=k->
 gu l k level i acc=.ok (.mk 5 0 (B #[]) [] (acc++kids)) (i+(dI kids true).length+1)
 |[],_,_,hne,_,_,_,_,_=>absurd rfl hne
 |x::kids,hb,hc,_,i,k,acc,h,hk=>by
   obtain⟨J,M⟩:=jf hc;rw[gZ]at h hk⊢;simp only[if_true,List.nil_append,M']at h;simp only[if_true,List.nil_append,υ]at hk⊢;obtain⟨k,rfl⟩:∃N,k=N+1:=⟨k-1,by omega⟩;have hd:eS ((dI kids false++93::r).headD 0)=false:=by
    cases kids with
    |nil=>rfl
    |cons y kids=>rw[gZ];rfl
   have O:=hb x (Ψ ..) (level+1) J l i k _ h hd (by omega);have h2:=mU h;unfold gu;rw[O];dsimp only
   cases kids with
   |nil=>have I:l.drop (i+(bp x).length)=93::r:=h2;obtain⟨h3,h4,h5⟩:=dG I;rw[e8 (by rw[h4];decide),h4,if_neg (by decide),nW I];simp[dI]
   |cons y kids=>
     have e:dI (y::kids) false=44::dI (y::kids) true:=by rw[gZ,gZ];simp
     rw[e]at h2 hk⊢;obtain⟨h3,h4,h5⟩:=dG (show l.drop (i+(bp x).length)=44::(dI (y::kids) true++93::r)from h2);rw[e8 (by rw[h4];decide),h4,if_pos rfl];have:=vh (y::kids) (fun z U=>hb z (ω _ U)) M (by simp) (i+(bp x).length+1) k (acc++[x]) h5 (by simp only[Ξ]at hk;omega);rw[this];simp only[M',List.cons_append,List.nil_append,Ξ,PE.ok.injEq,true_and];omega
theorem rO{r}:∀(keys:List ByteArray)(kids:List JV),keys.length=kids.length->(∀s∈keys,da s=true)->(∀x∈kids,Fw x)->dn kids (level+1)=0->kids≠[]->
 ∀(i k:Nat)(seen:List ByteArray)(acc:List JV),gV seen keys=false->l.drop i=cv keys kids true++125::r->3*((cv keys kids true).length+1)<=k->
 gp l k level i seen acc=.ok (.mk 6 0 (B #[]) (seen++keys) (acc++kids)) (i+(cv keys kids true).length+1)
 |_,[],_,_,_,_,hne,_,_,_,_,_,_,_=>absurd rfl hne
 |[],_::_,hl,_,_,_,_,_,_,_,_,_,_,_=>by simp at hl
 |s::keys,x::kids,hl,hp,hb,hc,_,i,k,seen,acc,hr,h,hk=>by
   obtain⟨N,O⟩:=jf hc;obtain⟨U,X⟩:=EZ.1 hr;rw[eQ]at h hk⊢;simp only[if_true,List.nil_append,M',List.cons_append]at h;simp only[if_true,List.nil_append,υ,Ξ,List.length_nil]at hk⊢;obtain⟨k,rfl⟩:∃k',k=k'+1:=⟨k-1,by omega⟩;have hq:bz l i=34:=by rw[js,h];rfl
   have ht:=z6 (tE (hp s (Ψ ..))) h;have h2:=mU h;obtain⟨h3,h4,h5⟩:=dG h2;have hd:eS ((cv keys kids false++125::r).headD 0)=false:=by
    cases keys with
    |nil=>simp[cv];decide
    |cons t keys=>
      cases kids with
      |nil=>simp[cv];decide
      |cons y kids=>rw[eQ];rfl
   have hv:=hb x (Ψ ..) (level+1) N l _ k _ h5 hd (by omega);have J:=mU h5;unfold gp;dsimp only;rw[e8 (by rw[hq];decide),ht];dsimp only;rw[mh,if_neg (by rw[U];simp),e8 (by rw[h4];decide),nW h2];dsimp only;rw[hv];dsimp only
   cases kids with
   |nil=>
     have ad:keys=[]:=List.length_eq_zero_iff.1 (by simpa using hl);subst ad;have h7:l.drop (i+(cI (bg s)).length+1+(bp x).length)=125::r:=by rw[J];rfl
     obtain⟨h8,I,_⟩:=dG h7;rw[e8 (by rw[I];decide),I,if_neg (by decide),nW h7];simp[cv];omega
   |cons y kids=>
     cases keys with
     |nil=>simp at hl
     |cons t keys=>
       have e:cv (t::keys) (y::kids) false=44::cv (t::keys) (y::kids) true:=by rw[eQ,eQ];simp
       rw[e]at J hk⊢;obtain⟨h8,I,ai⟩:=dG (show l.drop (i+(cI (bg s)).length+1+(bp x).length)=44::(cv (t::keys) (y::kids) true++125::r)from J);rw[e8 (by rw[I];decide),I,if_pos rfl];have:=rO (t::keys) (y::kids) (by simpa using hl) (fun z M=>hp z (ω _ M)) (fun z M=>hb z (ω _ M)) O (by simp) _ k (seen++[s]) (acc++[x]) X ai (by simp only[Ξ]at hk;omega);rw[this];simp only[M',List.cons_append,List.nil_append,Ξ,PE.ok.injEq,true_and];omega
theorem back:∀ v,Fw v:=by
  refine aD fun v ih=>?_
  obtain⟨op,n,s,keys,kids⟩:=v
  intro level hc l i k r h hr hk
  obtain⟨hn,hcs⟩:=lu hc
  obtain⟨hf,hrange,hpl,hkeys,hrep,hlev⟩:=jh hn
  simp only[JV.op,JV.n,JV.s,JV.keys] at hrange hpl hkeys hrep hlev
  obtain⟨k,rfl⟩:∃ k',k=k'+1:=⟨k - 1,by omega⟩
  obtain⟨a,q,hpa,hws⟩:=tZ _ level hc
  have hhere:bz l i=a:=by rw[js,h,hpa];rfl
  have hskip:bA l i=i:=e8 (by rw[hhere];exact hws)
  unfold dW
  dsimp only
  rw[hskip]
  rw[CI] at hf
  by_cases o1:op=1
  · subst o1
    rw[if_pos rfl] at hf
    simp only[μ,Δ] at hf
    obtain⟨rfl,rfl,hz⟩:=hf
    obtain⟨rfl,rfl⟩:=nP hz
    have hp:bp (.mk 1 0 (B #[]) [] [])=qn:=by simp[bp]
    rw[hp] at h ⊢
    rw[(dG (show l.drop i=110::([117,108,108]++r) from h)).2.1,if_pos rfl,qS h]
  by_cases o2:op=2
  · subst o2
    rw[if_neg (show ¬ (2:Int)=1 by decide),if_pos (.inl rfl)] at hf
    simp only[μ,Δ] at hf
    obtain⟨rfl,hz⟩:=hf
    obtain⟨rfl,rfl⟩:=nP hz
    by_cases n1:n=1
    · subst n1
      have hp:bp (.mk 2 1 (B #[]) [] [])=mx:=by simp[bp]
      rw[hp] at h ⊢
      rw[(dG (show l.drop i=116::([114,117,101]++r) from h)).2.1,if_neg (by decide),if_pos rfl,qS h]
    · have n0:n=0:=by
        by_cases z:n=0
        · exact z
        · exact absurd (.inl ⟨rfl,z,n1⟩) hrange
      subst n0
      have hp:bp (.mk 2 0 (B #[]) [] [])=kK:=by simp[bp]
      rw[hp] at h ⊢
      rw[(dG (show l.drop i=102::([97,108,115,101]++r) from h)).2.1,if_neg (by decide),if_neg (by decide),if_pos rfl,qS h]
  by_cases o3:op=3
  · subst o3
    rw[if_neg (show ¬ (3:Int)=1 by decide),if_pos (.inr rfl)] at hf
    simp only[μ,Δ] at hf
    obtain⟨rfl,hz⟩:=hf
    obtain⟨rfl,rfl⟩:=nP hz
    have hin:eK n=true:=by
      by_cases z:eK n=true
      · exact z
      · exact absurd (.inr ⟨rfl,by simpa using z⟩) hrange
    have hp:bp (.mk 3 n (B #[]) [] [])=bg (eg n):=by simp[bp]
    rw[hp] at h hpa ⊢
    have hnum:=H9 hin h hr
    have ha:eS a=true∨a=45:=by
      have hb:bg (eg n)=Lib.itoa n:=ia n
      rw[hb] at hpa
      rcases Int.lt_or_le n 0 with h0 | h0
      · rw[iT h0] at hpa;injection hpa with h1 _;exact .inr h1.symm
      · rw[iu h0] at hpa
        exact .inl (oN n.toNat a (by rw[hpa];exact Ψ ..))
    have hne:a≠110∧a≠116∧a≠102∧a≠34∧a≠91∧a≠123:=by
      rcases ha with ha | ha
      · refine⟨?_,?_,?_,?_,?_,?_⟩ <;> (rintro rfl;exact absurd ha (by decide))
      · subst ha;decide
    rw[hhere,if_neg hne.1,if_neg hne.2.1,if_neg hne.2.2.1,if_neg hne.2.2.2.1,if_neg (by rintro(z | z);exact hne.2.2.2.2.1 z;exact hne.2.2.2.2.2 z),hnum]
  by_cases o4:op=4
  · subst o4
    rw[if_neg (by decide),if_neg (by decide),if_pos rfl] at hf
    simp only[μ,Δ] at hf
    obtain⟨rfl,hz⟩:=hf
    obtain⟨rfl,rfl⟩:=nP hz
    have hp:bp (.mk 4 0 s [] [])=cI (bg s):=by simp[bp]
    rw[hp] at h ⊢
    have ht:=z6 (tE hpl) h
    rw[show bz l i=34 by rw[js,h];rfl,if_neg (by decide),if_neg (by decide),if_neg (by decide),if_pos rfl,ht]
    dsimp only
    rw[mh]
  by_cases o5:op=5
  · subst o5
    rw[if_neg (by decide),if_neg (by decide),if_neg (by decide),if_pos rfl] at hf
    simp only[μ,Δ] at hf
    obtain⟨rfl,rfl,hz⟩:=hf
    have hkz:=List.length_eq_zero_iff.1 hz
    subst hkz
    have hp:bp (.mk 5 0 (B #[]) [] kids)=91::(dI kids true++[93]):=by simp[bp]
    rw[hp] at h hk ⊢
    simp only[Ξ,υ,List.length_nil] at hk ⊢
    have hl:=hlev (by decide)
    obtain⟨h1,h2,h3⟩:=dG (show l.drop i=91::(dI kids true++[93]++r) by rw[h];simp)
    rw[h2,if_neg (by decide),if_neg (by decide),if_neg (by decide),if_neg (by decide),if_pos (.inl rfl),if_neg (by omega),if_pos rfl]
    obtain⟨k,rfl⟩:∃ k',k=k'+1:=⟨k - 1,by omega⟩
    unfold im
    dsimp only
    cases kids with
    | nil=>
      obtain⟨h4,h5,h6⟩:=dG (show l.drop (i+1)=93::r by rw[h3];rfl)
      rw[e8 (by rw[h5];decide),h5,if_pos rfl]
      simp[dI]
    | cons x kids=>
      obtain⟨hc1,hc2⟩:=jf hcs
      obtain⟨b,t,hb,hbw⟩:=tZ x (level+1) hc1
      have hh:bz l (i+1)=b:=by rw[js,h3,gZ];simp[hb]
      have hb93:b≠93:=by
        rintro rfl
        have:=ih x (Ψ ..) (level+1) hc1 (bp x) 0 (3*(bp x).length+1) [] (by simp) Z (χ _)
        rw[hb] at this
        simp only[dW] at this
        rw[e8 (by show kX 93=false;decide)] at this
        simp[bz,fM,dd,jT,eS] at this
      rw[e8 (by rw[hh];exact hbw),hh,if_neg hb93]
      have h3':l.drop (i+1)=dI (x::kids) true++93::r:=by rw[h3];simp
      rw[vh (x::kids) (fun z hz=>ih z hz) hcs (by simp) (i+1) k [] h3' (by omega)]
      simp only[List.nil_append,PE.ok.injEq,true_and]
      omega
  by_cases o6:op=6
  · subst o6
    rw[if_neg (by decide),if_neg (by decide),if_neg (by decide),if_neg (by decide),if_pos rfl] at hf
    simp only[μ,Δ] at hf
    obtain⟨rfl,rfl,hz⟩:=hf
    have hp:bp (.mk 6 0 (B #[]) keys kids)=123::(cv keys kids true++[125]):=by simp[bp]
    rw[hp] at h hk ⊢
    simp only[Ξ,υ,List.length_nil] at hk ⊢
    have hl:=hlev (by decide)
    obtain⟨h1,h2,h3⟩:=dG (show l.drop i=123::(cv keys kids true++[125]++r) by rw[h];simp)
    rw[h2,if_neg (by decide),if_neg (by decide),if_neg (by decide),if_neg (by decide),if_pos (.inr rfl),if_neg (by omega),if_neg (by decide)]
    obtain⟨k,rfl⟩:∃ k',k=k'+1:=⟨k - 1,by omega⟩
    unfold iv
    dsimp only
    cases kids with
    | nil=>
      have hkz:=List.length_eq_zero_iff.1 hz
      subst hkz
      obtain⟨h4,h5,h6⟩:=dG (show l.drop (i+1)=125::r by rw[h3];simp[cv])
      rw[e8 (by rw[h5];decide),h5,if_pos rfl]
      simp[cv]
    | cons x kids=>
      cases keys with
      | nil=>simp at hz
      | cons t keys=>
        have hh:bz l (i+1)=34:=by rw[js,h3,eQ];simp[cI]
        rw[e8 (by rw[hh];decide),hh,if_neg (by decide)]
        have h3':l.drop (i+1)=cv (t::keys) (x::kids) true++125::r:=by rw[h3];simp
        rw[rO (t::keys) (x::kids) hz hkeys (fun z hz=>ih z hz) hcs (by simp) (i+1) k [] [] hrep h3' (by omega)]
        simp only[List.nil_append,PE.ok.injEq,true_and]
        omega
  · rw[if_neg o1,if_neg (show ¬ (op=2∨op=3) by rintro(z | z);exact o2 z;exact o3 z),if_neg o4,if_neg o5,if_neg o6] at hf
    cases hf
theorem ry{v:JV}(h:b8 v 1=0){x y}(N:∀b∈x,kX b=true)(I:∀b∈y,kX b=true):ep (x++bp v++y)=.ok v 0:=by
 have hd:∀b,kX b=true->eS b=false:=by intro b hb;unfold kX at hb;simp only[Bool.or_eq_true,Δ]at hb;unfold eS;simp only[Bool.and_eq_false_iff,S'];omega
 have J:eS (y.headD 0)=false:=by
  cases y with
  |nil=>rfl
  |cons a y=>exact hd a (I a (Ψ ..))
 obtain⟨l,hl⟩:∃l,x++bp v++y=l:=⟨_,rfl⟩;have h0:l.drop 0=x++(bp v++y):=by rw[<-hl];simp
 have h1:l.drop x.length=bp v++y:=by have:=mU h0;rwa[Nat.zero_add]at this
 have hlen:l.length=x.length+(bp v).length+y.length:=by rw[<-hl];simp;omega
 have hs:=tG h0 N;rw[Nat.zero_add]at hs;have hb:=back v 1 h l x.length (3*l.length+1) y h1 J (by omega);have e:dW l (3*l.length+1) 1 0=dW l (3*l.length+1) 1 x.length:=by unfold dW;rw[hs]
 rw[hl];unfold ep;rw[e,hb];dsimp only;have h2:=mU h1;have M:bA l (x.length+(bp v).length)=l.length:=by
  have h3:l.drop (x.length+(bp v).length)=y++[]:=by rw[h2];simp
  rw[tG h3 I,show x.length+(bp v).length+y.length=l.length by omega];exact xT (χ _)
 rw[M,if_neg (Nat.lt_irrefl _)]
section
/-! positions -/
variable {l:List UInt8}{i k u:Nat}{α:Type}{level id a:Int}{x:Value}
variable {l1:List (Value×List (List D))}
variable {j:JV}
def Bd{α:Type}(l:List UInt8)(i:Nat):PE α->Prop
 |.ok _ j=>i<j∧j<=l.length
 |.no a _=>i<=a∧a<=l.length
theorem ke{c}(h:i<=l.length):Bd l i (dc l c i):=by
 unfold dc;split;·rename_i q;exact⟨Nat.lt_succ_self _,q.1⟩
 ·exact⟨χ _,h⟩
theorem rq{l:List UInt8}:∀{x:List UInt8}{i:Nat},i<=l.length->(match dR l x i with|.ok _ j=>j=i+x.length∧j<=l.length|.no a _=>i<=a∧a<=l.length)
 |[],i,h=>⟨rfl,h⟩
 |c::x,i,h=>by
   simp only[dR];have h1:=ke (c:=c) h
   cases I:dc l c i with
   |no a w=>rw[I]at h1;exact h1
   |ok u j=>
     have hj:j=i+1∧i<l.length:=by grind[dc]
     have J:=rq (l:=l) (x:=x) (i:=j) (by omega);grind
theorem zF:∀{x:List UInt8}{i a:Nat}{w:Int},dR l x i=.no a w->w=10
 |[],i,a,w,h=>by cases h
 |c::x,i,a,w,h=>by
   simp only[dR]at h
   cases ht:dc l c i with
   |no a' w'=>grind[dc]
   |ok u j=>rw[ht]at h;exact zF h
theorem eo(h:bz l i≠0):i<l.length:=by grind[Nat.lt_or_ge,oE]
theorem BJ{n}(h:lM (bz l i)=some n):i<l.length:=eo fun q=>by rw[q,show lM 0=none by decide]at h;cases h
theorem Bh(h:i<=l.length):Bd l i (gl l i):=by
 unfold gl;split
 ·rename_i q
  exact⟨Nat.lt_succ_self _,eo fun z=>by rw[z]at q;revert q;decide⟩
 ·split
  ·rename_i q;exact⟨Nat.lt_succ_self _,eo (by rw[q];decide)⟩
  ·split
   ·rename_i q;exact⟨Nat.lt_succ_self _,eo (by rw[q];decide)⟩
   ·have hw:=rq (l:=l) (x:=[117,48,48]) h
    revert hw
    cases dR l [117,48,48] i with
    |no a w=>exact fun hw=>hw
    |ok u j=>
      rintro⟨h1,h2⟩;have h1:j=i+3:=h1;dsimp only;split;·exact⟨by omega,h2⟩
      ·rename_i high I
       have:=BJ I;split;·exact⟨by omega,h2⟩
       ·split
        ·exact⟨by omega,by omega⟩
        ·rename_i low hl
         have:=BJ hl;split;·exact⟨by omega,by omega⟩
         ·exact⟨by omega,by omega⟩
theorem sC{l:List UInt8}:∀{k i:Nat}{acc:List UInt8},i<=l.length->Bd l i (eE l k i acc)
 |0,i,_,h=>⟨χ _,h⟩
 |k+1,i,acc,h=>by
   unfold eE;split;·exact⟨χ _,h⟩
   ·rename_i M
    have I:i<l.length:=eo fun z=>M (by rw[z];left;decide);split;·exact⟨Nat.lt_succ_self _,I⟩
    ·split
     ·have he:=Bh (l:=l) (i:=i+1) I
      revert he
      cases gl l (i+1)with
      |no a w=>rintro⟨h1,h2⟩;exact⟨by omega,h2⟩
      |ok c j=>
        rintro⟨h1,h2⟩;have J:=sC (l:=l) (k:=k) (i:=j) (acc:=acc++[c]) h2;dsimp only;revert J
        cases eE l k j (acc++[c])with
        |no a w=>rintro⟨h3,h4⟩;exact⟨by omega,h4⟩
        |ok t j2=>rintro⟨h3,h4⟩;exact⟨by omega,h4⟩
     ·have J:=sC (l:=l) (k:=k) (i:=i+1) (acc:=acc++[bz l i]) I
      revert J
      cases eE l k (i+1) (acc++[bz l i])with
      |no a w=>rintro⟨h3,h4⟩;exact⟨by omega,h4⟩
      |ok t j2=>rintro⟨h3,h4⟩;exact⟨by omega,h4⟩
theorem Bd.mono{I}(h:I<=i):∀{x:PE α},Bd l i x->Bd l I x
 |.ok _ _,⟨h1,h2⟩=>⟨Nat.lt_of_le_of_lt h h1,h2⟩
 |.no _ _,⟨h1,h2⟩=>⟨Y' h h1,h2⟩
theorem qv(h:i<=l.length):Bd l i (fL l i):=by
 unfold fL;have h1:=ke (c:=34) h;revert h1
 cases dc l 34 i with
 |no a w=>exact fun h1=>h1
 |ok u j=>rintro⟨h1,h2⟩;exact(sC h2).mono (Nat.le_of_lt h1)
theorem BP{l:List UInt8}:∀{k i:Nat},i<=l.length->i<=jT l k i∧jT l k i<=l.length
 |0,i,h=>⟨χ _,h⟩
 |k+1,i,h=>by
   simp only[jT];split
   ·rename_i q
    have:=BP (l:=l) (k:=k) (i:=i+1) q.1;grind
   ·grind
theorem ug(h:i<=l.length):i<=dd l i∧dd l i<=l.length:=by
 unfold dd;split
 ·rename_i q
  exact⟨Nat.le_succ _,eo (by rw[q];decide)⟩
 ·exact BP h
theorem IY{c:Prop}[Decidable c]{a b:PE α}(I:Bd l i a)(hb:Bd l i b):Bd l i (if c then a else b):=by split<;>assumption
theorem IF(h:i<=l.length):Bd l i (fM l i):=by
 unfold fM;dsimp only;have h1:i<=(if bz l i=45 then i+1 else i)∧(if bz l i=45 then i+1 else i)<=l.length:=by
  split;·rename_i q;exact⟨Nat.le_succ _,eo (by rw[q];decide)⟩
  ·grind
 generalize(if bz l i=45 then i+1 else i)=i1 at h1⊢;have h2:=ug (l:=l) h1.2;by_cases q:dd l i1=i1;·rw[if_pos q];exact h1
 ·rw[if_neg q]
  exact IY ⟨by omega,h2.2⟩ ⟨χ _,h⟩
structure KL(l:List UInt8)(k:Nat):Prop where
 v:∀level i,i<=l.length->Bd l i (dW l k level i)
 a:∀level i,i<=l.length->Bd l i (im l k level i)
 ag:∀level i acc,i<=l.length->Bd l i (gu l k level i acc)
 o:∀level i,i<=l.length->Bd l i (iv l k level i)
 og:∀level i keys acc,i<=l.length->Bd l i (gp l k level i keys acc)
theorem uv{x}{v:JV}(I:x≠[])(h:i<=l.length):Bd l i (match dR l x i with|.no a w=>.no a w|.ok _ j=>.ok v j):=by
 have hw:=rq (l:=l) (x:=x) h;have:=List.length_pos_iff.2 I;revert hw
 cases dR l x i with
 |no a w=>exact fun hw=>hw
 |ok u j=>rintro⟨h1,h2⟩;exact⟨by omega,h2⟩
theorem sQ(l):∀k,KL l k
 |0=>⟨fun _ _ h=>by unfold dW;exact⟨χ _,h⟩,fun _ _ h=>by unfold im;exact⟨χ _,h⟩,fun _ _ _ h=>by unfold gu;exact⟨χ _,h⟩,fun _ _ h=>by unfold iv;exact⟨χ _,h⟩,fun _ _ _ _ h=>by unfold gp;exact⟨χ _,h⟩⟩
 |k+1=>by
   have J:=sQ l k;refine⟨fun level i0 h=>?_,fun level i0 h=>?_,fun level i acc h=>?_,fun level i0 h=>?_,fun level i0 keys acc h=>?_⟩
   ·have M:=ew l i0
    have hle:=eH h;unfold dW;dsimp only;refine Bd.mono M ?_;generalize bA l i0=i at hle⊢;split;·exact uv (by decide) hle
    ·split
     ·exact uv (by decide) hle
     ·split
      ·exact uv (by decide) hle
      ·split
       ·have I:=qv (l:=l) hle
        revert I
        cases fL l i with
        |no a w=>exact fun I=>I
        |ok t j=>exact fun I=>I
       ·split
        ·rename_i q
         have O:i<l.length:=eo fun z=>by rw[z]at q;revert q;decide
         split;·exact⟨χ _,hle⟩
         ·split
          ·exact(J.a _ _ O).mono (Nat.le_succ _)
          ·exact(J.o _ _ O).mono (Nat.le_succ _)
        ·exact IF hle
   ·have M:=ew l i0
    have hle:=eH h;unfold im;dsimp only;refine Bd.mono M ?_;generalize bA l i0=i at hle⊢;split;·rename_i q;exact⟨Nat.lt_succ_self _,eo (by rw[q];decide)⟩
    ·exact J.ag _ _ _ hle
   ·unfold gu
    have N:=J.v (level+1) i h;revert N
    cases dW l k (level+1) i with
    |no a w=>exact fun N=>N
    |ok v j=>
      rintro⟨h1,h2⟩;dsimp only;have M:=ew l j;have hle:=eH h2;split
      ·rename_i q
       exact(J.ag _ _ _ (eo (by rw[q];decide))).mono (by omega)
      ·have I:=ke (c:=93) hle
       revert I
       cases dc l 93 (bA l j)with
       |no a w=>exact fun I=>Bd.mono (x:=(PE.no a w:PE JV)) (by omega) I
       |ok u j2=>exact fun I=>Bd.mono (x:=(PE.ok (JV.mk 5 0 (B #[]) [] (acc++[v])) j2)) (by omega) I
   ·have M:=ew l i0
    have hle:=eH h;unfold iv;dsimp only;refine Bd.mono M ?_;generalize bA l i0=i at hle⊢;split;·rename_i q;exact⟨Nat.lt_succ_self _,eo (by rw[q];decide)⟩
    ·exact J.og _ _ _ _ hle
   ·have M:=ew l i0
    have hle:=eH h;unfold gp;dsimp only;refine Bd.mono M ?_;generalize bA l i0=i at hle⊢;have I:=qv (l:=l) hle;revert I
    cases fL l i with
    |no a w=>exact fun I=>I
    |ok t j=>
      rintro⟨h1,h2⟩;dsimp only;split;·exact⟨χ _,hle⟩
      ·have aj:=ew l j
       have U:=eH h2;have ad:=ke (c:=58) U;revert ad
       cases dc l 58 (bA l j)with
       |no a w=>exact fun I=>Bd.mono (x:=(PE.no a w:PE JV)) (by omega) I
       |ok u j1=>
         rintro⟨h3,h4⟩;dsimp only;have N:=J.v (level+1) j1 h4;revert N
         cases dW l k (level+1) j1 with
         |no a w=>exact fun I=>Bd.mono (x:=(PE.no a w:PE JV)) (by omega) I
         |ok v j2=>
           rintro⟨h5,h6⟩;dsimp only;have a1:=ew l j2;have X:=eH h6;split
           ·rename_i q
            exact(J.og _ _ _ _ (eo (by rw[q];decide))).mono (by omega)
           ·have ai:=ke (c:=125) X
            revert ai
            cases dc l 125 (bA l j2)with
            |no a w=>exact fun I=>Bd.mono (x:=(PE.no a w:PE JV)) (by omega) I
            |ok u j3=>exact fun I=>Bd.mono (x:=(PE.ok (JV.mk 6 0 (B #[]) (keys++[bytesOf t]) (acc++[v])) j3)) (by omega) I
/-! fuel -/
structure Fu(l:List UInt8)(k:Nat):Prop where
 v:∀level i,i<=l.length->3*(l.length-i)+1<=k->dW l (k+1) level i=dW l k level i
 a:∀level i,i<=l.length->3*(l.length-i)+3<=k->im l (k+1) level i=im l k level i
 ag:∀level i acc,i<=l.length->3*(l.length-i)+2<=k->gu l (k+1) level i acc=gu l k level i acc
 o:∀level i,i<=l.length->3*(l.length-i)+3<=k->iv l (k+1) level i=iv l k level i
 og:∀level i keys acc,i<=l.length->3*(l.length-i)+2<=k->gp l (k+1) level i keys acc=gp l k level i keys acc
theorem fuel(l):∀k,Fu l k
 |0=>⟨fun _ _ _ h=>by omega,fun _ _ _ h=>by omega,fun _ _ _ _ h=>by omega,fun _ _ _ h=>by omega,fun _ _ _ _ _ h=>by omega⟩
 |k+1=>by
   have J:=fuel l k;have bd:=sQ l k;refine⟨fun level i0 h N=>?_,fun level i0 h N=>?_,fun level i acc h N=>?_,fun level i0 h N=>?_,fun level i0 keys acc h N=>?_⟩
   ·have M:=ew l i0
    have hle:=eH h;rw[dW,dW];try dsimp only
    generalize bA l i0=i at M hle⊢;by_cases q:bz l i=91∨bz l i=123
    ·have I:i<l.length:=eo fun z=>by rw[z]at q;revert q;decide
     rw[J.a level (i+1) I (by omega),J.o level (i+1) I (by omega)]
    ·grind
   ·have M:=ew l i0
    have hle:=eH h;rw[im,im];try dsimp only
    rw[J.ag level _ [] hle (by omega)]
   ·rw[gu,gu,J.v (level+1) i h (by omega)]
    have O:=bd.v (level+1) i h;revert O
    cases dW l k (level+1) i with
    |no a w=>exact fun _=>rfl
    |ok v j=>
      rintro⟨h1,h2⟩;try dsimp only
      have M:=ew l j;by_cases q:bz l (bA l j)=44
      ·have I:bA l j<l.length:=eo (by rw[q];decide)
       rw[if_pos q,if_pos q,J.ag level _ _ I (by omega)]
      ·grind
   ·have M:=ew l i0
    have hle:=eH h;rw[iv,iv];try dsimp only
    rw[J.og level _ [] [] hle (by omega)]
   ·have M:=ew l i0
    have hle:=eH h;rw[gp,gp];try dsimp only
    generalize bA l i0=i at M hle⊢;have X:=qv (l:=l) hle;revert X
    cases fL l i with
    |no a w=>exact fun _=>rfl
    |ok t j=>
      rintro⟨h1,h2⟩;try dsimp only
      have ad:=ew l j;have U:=ke (c:=58) (eH h2);revert U
      cases dc l 58 (bA l j)with
      |no a w=>exact fun _=>rfl
      |ok u j1=>
        rintro⟨h3,h4⟩;try dsimp only
        rw[J.v (level+1) j1 h4 (by omega)];have O:=bd.v (level+1) j1 h4;revert O
        cases dW l k (level+1) j1 with
        |no a w=>exact fun _=>rfl
        |ok v j2=>
          rintro⟨h5,h6⟩;try dsimp only
          have ai:=ew l j2;by_cases q:bz l (bA l j2)=44
          ·have I:bA l j2<l.length:=eo (by rw[q];decide)
           rw[if_pos q,if_pos q,J.og level _ _ _ I (by omega)]
          ·grind
theorem xe(h:i<=l.length)(I:3*(l.length-i)+1<=k):∀d,dW l (k+d) level i=dW l k level i
 |0=>rfl
 |d+1=>by rw[<-Nat.add_assoc,(fuel l (k+d)).v level i h (by omega),xe h I d]
end
structure Fm where
 ph:ByteArray
 kind:Int
 name:Bool
 n:ByteArray
 m:ByteArray
 st:Bool
@[reducible] def Fm.c(f:Fm):List D:=[cs f.ph,ci f.kind,.v (.bool f.name),cs f.n,cs f.m,.v (.bool f.st)]
def dZ:ByteArray:=B #[112,104]
def cF:ByteArray:=B #[116,105,100]
def cm:ByteArray:=B #[110,97,109,101]
def dO:ByteArray:=B #[116,115]
def bY:ByteArray:=B #[115,116,97,99,107]
def dS:ByteArray:=B #[119,101,105,103,104,116]
def iE:ByteArray:=B #[105,100]
def eF:ByteArray:=B #[115,105,122,101]
def ja:ByteArray:=B #[118,97,108,117,101]
def mf:ByteArray:=B #[99,112,117]
def iJ:ByteArray:=B #[115,116,97,116,101]
def lW:ByteArray:=B #[111,110]
def jc:ByteArray:=B #[119,97,107,101,115]
def cn:ByteArray:=B #[]
def pP:ByteArray:=B #[80]
def pN:ByteArray:=B #[78]
def pS:ByteArray:=B #[83]
def pM:ByteArray:=B #[77]
def gC:List Fm:=[⟨B #[66],1,true,cn,cn,false⟩,⟨B #[69],2,false,cn,cn,false⟩,⟨B #[105],3,true,cn,cn,false⟩,⟨B #[67],4,true,ja,cn,false⟩,
 ⟨pP,5,false,dS,cn,true⟩,⟨B #[115],6,false,iE,cn,false⟩,⟨B #[102],7,false,iE,cn,false⟩,⟨B #[82],8,false,mf,cn,false⟩,
 ⟨pS,9,false,iJ,lW,false⟩,⟨B #[87],10,false,jc,cn,false⟩,⟨pN,11,false,iE,eF,true⟩,⟨B #[68],12,false,iE,cn,false⟩]
def cM(f:Fm)(on:Bool):List ByteArray:=
 if f.ph=pP then dZ::cF::(if f.name then[cm]else[])++[dO,bY,dS]
 else if f.ph=pN then dZ::cF::(if f.name then[cm]else[])++[dO,iE,eF,bY]
 else dZ::cF::(if f.name then[cm]else[])++[dO]++(if f.n≠cn then[f.n]else[])++(if f.m≠cn∧on=true then[f.m]else[])
def oC(j:JV)(key:ByteArray)(op:Int):Option JV:=match e9 j key with
 |some v=>if v.op=op then some v else none
 |none=>none
def cK(j:JV)(key:ByteArray)(op:Int):JV:=(oC j key op).getD gf
def fk(j:JV)(key:ByteArray)(op:Int):Bool:=(oC j key op).isNone
def iG(j:JV)(l:List ByteArray):Bool:=decide (j.keys.length=l.length)&&!l.any fun k=>!j.keys.any fun x=>decide (k=x)
def vj(j:JV):List ByteArray:=(cK j bY 5).kids.map JV.s
def db(j:JV)(bad:Bool):Bool:=(((bad||fk j cF 3)||decide ((cK j cF 3).n<0))||fk j dZ 4)
def jC(l:List JV):Bool:=l.any fun k=>!decide (k.op=4)
theorem Hd{key}{op:Int}(h:(bif !(e9 j key).isSome then true else !decide (((e9 j key).getD gf).op=op))=true):fk j key op=true∧cK j key op=gf:=by grind[oC,e9,fk,cK]
theorem Ie{key}{op:Int}(h:(bif !(e9 j key).isSome then true else !decide (((e9 j key).getD gf).op=op))=false):fk j key op=false∧cK j key op=(e9 j key).getD gf:=by grind[e9,oC,fk,cK]
structure zX(l m:List UInt8)(n:Nat):Prop where
 ll:n<=l.length
 lm:n<=m.length
 tk:m.take n=l.take n
def Gd(m:List UInt8)(n p:Nat):Prop:=p<n∨(p=n∧m.length=n)
section
variable{m:List UInt8}{n:Nat}
theorem aW(H:zX l m n){p}(h:p<n):bz m p=bz l p:=by
 have e:(m.take n)[p]?=(l.take n)[p]?:=by rw[H.tk]
 grind[bz]
theorem Gd.le{p}(h:Gd m n p):p<=n:=by rcases h with h|⟨h,_⟩<;>omega
theorem zX.stop{f:UInt8->Bool}(J:f 0=false)(H:zX l m n){p:Nat}(I:Gd m n p)(h:f (bz l p)=false):f (bz m p)=false:=by
 rcases I with I|⟨rfl,I⟩
 ·grind[aW]
 ·grind[oE]
/-! white space -/
/-! results -/
def Loc{α:Type}(m:List UInt8)(n:Nat)(r I:PE α):Prop:=match r with
 |.ok x j=>Gd m n j->I=.ok x j
 |.no a w=>((w=10∧Gd m n a)∨(w=20∧a<n))->I=.no a w
def JL{α:Type}(j:Nat):PE α->Prop
 |.ok _ p=>j<=p
 |.no a _=>j<=a
theorem JL.mono{j}{r:PE α}(h:JL i r)(hj:j<=i):JL j r:=by
 cases r with
 |ok x p=>exact Y' hj h
 |no a w=>exact Y' hj h
theorem F2{c j}{u:Unit}(h:dc l c i=.ok u j):j=i+1∧i<l.length:=by grind[dc]
/-! escapes -/
def Jx(l:List UInt8)(high:Nat)(j:Nat):PE UInt8:=match lM (bz l j)with
 |none=>.no j 10
 |some low=>if known (UInt8.ofNat (16*high+low))=false then .no j 10 else .ok (UInt8.ofNat (16*high+low)) (j+1)
def Kl(l:List UInt8)(j:Nat):PE UInt8:=match lM (bz l j)with
 |none=>.no j 10
 |some high=>if high=1∨7<high then .no j 10 else Jx l high (j+1)
def IZ(l:List UInt8)(i:Nat):PE UInt8:=match dR l [117,48,48] i with
 |.no a w=>.no a w
 |.ok _ j=>Kl l j
theorem HR(l i):gl l i=if bz l i=34∨bz l i=92∨bz l i=47 then .ok (bz l i) (i+1)else if bz l i=110 then .ok 10 (i+1)else if bz l i=116 then .ok 9 (i+1)else IZ l i:=rfl
/-! texts -/
/-! numbers -/
theorem zX.cut(H:zX l m n){j}(hj:j<=n):(m.drop i).take (j-i)=(l.drop i).take (j-i):=by
 rcases Nat.lt_or_ge i j with h|h
 ·rw[List.take_drop,List.take_drop,show i+(j-i)=j by omega]
  have e:∀a:List UInt8,a.take j=(a.take n).take j:=fun a=>by rw[List.take_take,Nat.min_eq_left hj]
  rw[e m,e l,H.tk]
 ·rw[show j-i=0 by omega];simp
end
theorem ID(l k level i0):dW l (k+1) level i0=
 if bz l (bA l i0)=110 then(match dR l qn (bA l i0)with|.no a w=>.no a w|.ok _ j=>.ok (.mk 1 0 (B #[]) [] []) j)
 else if bz l (bA l i0)=116 then(match dR l mx (bA l i0)with|.no a w=>.no a w|.ok _ j=>.ok (.mk 2 1 (B #[]) [] []) j)
 else if bz l (bA l i0)=102 then(match dR l kK (bA l i0)with|.no a w=>.no a w|.ok _ j=>.ok (.mk 2 0 (B #[]) [] []) j)
 else if bz l (bA l i0)=34 then(match fL l (bA l i0)with|.no a w=>.no a w|.ok t j=>.ok (.mk 4 0 (bytesOf t) [] []) j)
 else if bz l (bA l i0)=91∨bz l (bA l i0)=123 then
  if 16<level then .no (bA l i0) 20
  else if bz l (bA l i0)=91 then im l k level (bA l i0+1)else iv l k level (bA l i0+1)
 else fM l (bA l i0):=by rw[dW]<;>rfl
theorem A8(l k level i0):im l (k+1) level i0=
 if bz l (bA l i0)=93 then .ok (.mk 5 0 (B #[]) [] []) (bA l i0+1)else gu l k level (bA l i0) []:=by rw[im]
theorem y8(l k level i acc):gu l (k+1) level i acc=
 match dW l k (level+1) i with
 |.no a w=>.no a w
 |.ok v j=>
   if bz l (bA l j)=44 then gu l k level (bA l j+1) (acc++[v])
   else match dc l 93 (bA l j)with|.no a w=>.no a w|.ok _ j2=>.ok (.mk 5 0 (B #[]) [] (acc++[v])) j2:=by rw[gu]<;>rfl
theorem B3(l k level i0):iv l (k+1) level i0=
 if bz l (bA l i0)=125 then .ok (.mk 6 0 (B #[]) [] []) (bA l i0+1)else gp l k level (bA l i0) [] []:=by rw[iv]
theorem yw(l k level i0)(keys:List ByteArray)(acc):gp l (k+1) level i0 keys acc=
 match fL l (bA l i0)with
 |.no a w=>.no a w
 |.ok t j=>
   if keys.any (fun x=>decide (x=bytesOf t))then .no (bA l i0) 4 else
   match dc l 58 (bA l j)with
   |.no a w=>.no a w
   |.ok _ j1=>match dW l k (level+1) j1 with
     |.no a w=>.no a w
     |.ok v j2=>
       if bz l (bA l j2)=44 then gp l k level (bA l j2+1) (keys++[bytesOf t]) (acc++[v])
       else match dc l 125 (bA l j2)with|.no a w=>.no a w|.ok _ j4=>.ok (.mk 6 0 (B #[]) (keys++[bytesOf t]) (acc++[v])) j4:=by rw[gp]<;>rfl
section
variable{m:List UInt8}{n:Nat}
structure Lo(l m:List UInt8)(n k:Nat):Prop where
 v:∀level i,i<=l.length->Loc m n (dW l k level i) (dW m k level i)
 a:∀level i,i<=l.length->Loc m n (im l k level i) (im m k level i)
 ag:∀level i acc,i<=l.length->Loc m n (gu l k level i acc) (gu m k level i acc)
 o:∀level i,i<=l.length->Loc m n (iv l k level i) (iv m k level i)
 og:∀level i keys acc,i<=l.length->Loc m n (gp l k level i keys acc) (gp m k level i keys acc)
end
/-! the nesting's fault stands at a byte -/
structure Dp(l:List UInt8)(k:Nat):Prop where
 v:∀level i a,dW l k level i=.no a 20->a<l.length
 a:∀level i a,im l k level i=.no a 20->a<l.length
 ag:∀level i acc a,gu l k level i acc=.no a 20->a<l.length
 o:∀level i a,iv l k level i=.no a 20->a<l.length
 og:∀level i keys acc a,gp l k level i keys acc=.no a 20->a<l.length
def La{α:Type}:PE α->Prop
 |.ok _ _=>True
 |.no _ w=>w≠20
theorem La.not{r:PE α}{a}(h:La r)(e:r=.no a 20):False:=by subst e;exact h rfl
/-! the whole text -/
theorem F6(I:3*l.length+1<=k):ep l=match dW l k 1 0 with
 |.no a w=>.no a w
 |.ok j i=>if bA l i<l.length then .no (bA l i) 10 else .ok j 0:=by
 unfold ep;obtain⟨d,rfl⟩:∃d,k=3*l.length+1+d:=⟨k-(3*l.length+1),by omega⟩
 rw[xe (ς _) (by omega) d]<;>
  grind
theorem FI{a}{w:Int}(h:ep l=.no a w):a<=l.length:=by
 rw[F6 (χ _)]at h;have hb:=(sQ l (3*l.length+1)).v 1 0 (ς _)
 cases I:dW l (3*l.length+1) 1 0 with
 |no a' w'=>rw[I]at h hb;injection h with h1 _;subst h1;exact hb.2
 |ok v j=>grind
section
theorem rj{op n:Int}{s keys kids}(h1:dJ (.mk op n s keys kids)=true)(h2:¬((op=2∧n≠0∧n≠1)∨(op=3∧eK n=false)))(h3:da s=true)(h4:∀x∈keys,da x=true)(h5:gV [] keys=false)(I:¬(5<=op∧16<level)):dH (.mk op n s keys kids) level=0:=by
 have e:(keys.any fun s=>!da s)=false:=by grind
 unfold dH;rw[if_neg (by rw[h1];decide),if_neg (by simpa only[JV.op,JV.n]using h2),if_neg (by simp only[JV.s,JV.keys];rw[h3,e];decide),if_neg (by simp only[JV.keys];rw[h5];decide),if_neg (by simpa only[JV.op]using I)]
theorem oW{op n:Int}{s keys kids}(h:dH (.mk op n s keys kids) level=0)(I:dn kids (level+1)=0):b8 (.mk op n s keys kids) level=0:=by grind[b8]
theorem CL{x:JV}{r}(h:b8 x level=0)(I:dn r level=0):dn (x::r) level=0:=by grind[dn]
theorem pL:dn [] level=0:=by unfold dn;rfl
theorem mu:da (B #[])=true:=by decide
theorem yx{x:JV}{r}:(dI (x::r) false).length=(dI (x::r) true).length+1:=by grind[gZ]
theorem wF{s ks}{x:JV}{r}:(cv (s::ks) (x::r) false).length=(cv (s::ks) (x::r) true).length+1:=by grind[eQ]
structure Vd(l:List UInt8)(k:Nat):Prop where
 v:∀level i v j,i<=l.length->dW l k level i=.ok v j->b8 v level=0∧(bp v).length+i<=j
 a:∀level i v j,i<=l.length->level<=16->im l k level i=.ok v j->b8 v level=0∧(bp v).length+i<=j+1
 ag:∀level i acc v j,i<=l.length->level<=16->gu l k level i acc=.ok v j->∃x r,v=.mk 5 0 (B #[]) [] (acc++x::r)∧dn (x::r) (level+1)=0∧(dI (x::r) true).length+1+i<=j
 o:∀level i v j,i<=l.length->level<=16->iv l k level i=.ok v j->b8 v level=0∧(bp v).length+i<=j+1
 og:∀level i keys acc v j,i<=l.length->level<=16->gp l k level i keys acc=.ok v j->∃s ks x r,v=.mk 6 0 (B #[]) (keys++s::ks) (acc++x::r)∧ks.length=r.length∧(∀s'∈s::ks,da s'=true)∧gV keys (s::ks)=false∧dn (x::r) (level+1)=0∧(cv (s::ks) (x::r) true).length+1+i<=j
end
abbrev bv(b:Bool):D:=.v (.bool b)
def iH(l:List ByteArray):List (ByteArray×Bool):=l.map fun s=>(s,true)
theorem lC(l):(iH l).map (·.1)=l:=by unfold iH;rw[List.map_map];exact List.map_id' l
theorem xb{l:List ByteArray}(J:l.Nodup)(s):(cC (iH l) s).getD false=l.any (fun x=>decide (x=s)):=by
 cases h:l.any (fun x=>decide (x=s))with
 |true=>obtain⟨x,I,he⟩:=F'.1 h;have he:x=s:=B' he;subst he;obtain⟨j,hj⟩:=ψ.1 I;grind[wQ,iH,lC]
 |false=>grind[iH,List.any_eq_false,qT]
theorem xE{l:List ByteArray}{s}(h:l.any (fun x=>decide (x=s))=false):dm (iH l) s true=iH (l++[s]):=by grind[iS,List.any_eq_false,iH]
theorem vP{l:List ByteArray}{s}(I:l.Nodup)(h:l.any (fun x=>decide (x=s))=false):(l++[s]).Nodup:=by grind
def EW{α:Type}:PE α->Prop
 |.ok _ _=>True
 |.no _ w=>w=2∨w=4∨w=10∨w=20
theorem nh{a}:EW (.no a 10:PE α):=.inr (.inr (.inl rfl))
theorem EW.of{β:Type}{a}{w:Int}(h:EW (.no a w:PE α)):EW (.no a w:PE β):=h
section
theorem ta{c}:EW (dc l c i):=by
 unfold dc;split;·trivial
 ·exact nh
theorem Bi{x}:EW (dR l x i):=by
 cases h:dR l x i with
 |ok=>trivial
 |no a w=>rw[zF h];exact nh
theorem Kw:EW (gl l i):=by
 rw[HR];split;·trivial
 ·split
  ·trivial
  ·split
   ·trivial
   ·unfold IZ
    have:=Bi (l:=l) (x:=[117,48,48]) (i:=i)
    cases h:dR l [117,48,48] i with
    |no a w=>rw[h]at this;exact this
    |ok u j=>
      dsimp only;unfold Kl;split;·exact nh
      ·split
       ·exact nh
       ·unfold Jx
        split;·exact nh
        ·split
         ·exact nh
         ·trivial
theorem uD:∀{k i:Nat}{acc:List UInt8},EW (eE l k i acc)
 |0,_,_=>nh
 |k+1,i,acc=>by
   unfold eE;split;·exact nh
   ·split
    ·trivial
    ·split
     ·have:=Kw (l:=l) (i:=i+1)
      cases h:gl l (i+1)with
      |no a w=>rw[h]at this;exact this
      |ok c j=>exact uD
     ·exact uD
theorem Br:EW (fL l i):=by
 unfold fL;have:=ta (l:=l) (c:=34) (i:=i)
 cases h:dc l 34 i with
 |no a w=>rw[h]at this;exact this
 |ok u j=>exact uD
theorem I6:EW (fM l i):=by
 unfold fM;dsimp only;generalize(if bz l i=45 then i+1 else i)=i1;by_cases q:dd l i1=i1;·grind[nh]
 ·rw[if_neg q]
  by_cases c:(jR (if(⟨((l.drop i).take (dd l i1-i)).toArray⟩:ByteArray)=B #[45,48]then B #[48]else⟨((l.drop i).take (dd l i1-i)).toArray⟩)).2=true;·rw[if_pos c];trivial
  ·rw[if_neg c];exact .inl rfl
theorem zi{x}{v:JV}:EW (match dR l x i with|.no a w=>.no a w|.ok _ j=>.ok v j):=by
 have:=Bi (l:=l) (x:=x) (i:=i)
 cases h:dR l x i with
 |no a w=>rw[h]at this;exact this
 |ok u j=>trivial
structure Er(l:List UInt8)(k:Nat):Prop where
 v:∀level i,EW (dW l k level i)
 a:∀level i,EW (im l k level i)
 ag:∀level i acc,EW (gu l k level i acc)
 o:∀level i,EW (iv l k level i)
 og:∀level i keys acc,EW (gp l k level i keys acc)
theorem I8:∀k,Er l k
 |0=>⟨fun _ _=>by unfold dW;exact nh,fun _ _=>by unfold im;exact nh,fun _ _ _=>by unfold gu;exact nh,fun _ _=>by unfold iv;exact nh,fun _ _ _ _=>by unfold gp;exact nh⟩
 |k+1=>by
   have I:=I8 k;refine⟨fun level i0=>?_,fun level i0=>?_,fun level i acc=>?_,fun level i0=>?_,fun level i0 keys acc=>?_⟩
   ·rw[ID]
    split;·exact zi
    ·split
     ·exact zi
     ·split
      ·exact zi
      ·split
       ·have J:=Br (l:=l) (i:=bA l i0)
        cases M:fL l (bA l i0)with
        |no a w=>rw[M]at J;exact J
        |ok t j=>trivial
       ·split
        ·split
         ·exact .inr (.inr (.inr Z))
         ·split
          ·exact I.a _ _
          ·exact I.o _ _
        ·exact I6
   ·rw[A8]
    split;·trivial
    ·exact I.ag _ _ _
   ·rw[y8]
    have N:=I.v (level+1) i
    cases M:dW l k (level+1) i with
    |no a w=>rw[M]at N;exact N
    |ok v j=>
      dsimp only;split;·exact I.ag _ _ _
      ·have J:=ta (l:=l) (c:=93) (i:=bA l j)
       cases O:dc l 93 (bA l j)with
       |no a w=>rw[O]at J;exact J
       |ok u j2=>trivial
   ·rw[B3]
    split;·trivial
    ·exact I.og _ _ _ _
   ·rw[yw]
    have J:=Br (l:=l) (i:=bA l i0)
    cases M:fL l (bA l i0)with
    |no a w=>rw[M]at J;exact J
    |ok t j=>
      dsimp only;split;·exact .inr (.inl rfl)
      ·have U:=ta (l:=l) (c:=58) (i:=bA l j)
       cases O:dc l 58 (bA l j)with
       |no a w=>rw[O]at U;exact U
       |ok u j1=>
         dsimp only;have N:=I.v (level+1) j1
         cases ad:dW l k (level+1) j1 with
         |no a w=>rw[ad]at N;exact N
         |ok v j2=>
           dsimp only;split;·exact I.og _ _ _ _
           ·have X:=ta (l:=l) (c:=125) (i:=bA l j2)
            cases ai:dc l 125 (bA l j2)with
            |no a w=>rw[ai]at X;exact X
            |ok u j3=>trivial
theorem Bq:EW (ep l):=by
 unfold ep;have I:=(I8 (l:=l) (3*l.length+1)).v 1 0
 cases J:dW l (3*l.length+1) 1 0 with
 |no a w=>rw[J]at I;exact I
 |ok v j=>dsimp only;split;exact nh;trivial
end
variable {l2:List (Value×List Ev)}{e:Ev}
section
variable{P:Program}{T:cG P}{l:List D}
theorem Gr{t a b c d e g J M N O U og X nb nc nd ne ng}(h:de T t l)(hk:cY T t=.st [(J,a,X),(M,b,nb),(N,c,nc),(O,d,nd),(U,e,ne),(og,g,ng)]):
 ∃p q r s u v,l=p++(q++(r++(s++(u++v))))∧de T a p∧de T b q∧de T c r∧de T d s∧de T e u∧de T g v:=by
 obtain⟨ps,rfl,hl,I⟩:=h.CP hk
 match ps,hl with
 |[p,q,r,s,u,v],_=>exact⟨p,q,r,s,u,v,by simp,I 0 _ _ _ p rfl rfl,I 1 _ _ _ q rfl rfl,I 2 _ _ _ r rfl rfl,I 3 _ _ _ s rfl rfl,I 4 _ _ _ u rfl rfl,I 5 _ _ _ v rfl rfl⟩
variable{te ti tk ts tsl o1 o2 o3 o4 o5 o6:Nat}{n1 n2 n3 n4 n5 n6:String}
theorem CV(h:de T te l)(he:cY T te=.st [(o1,ti,n1),(o2,tk,n2),(o3,ts,n3),(o4,ti,n4),(o5,ti,n5),(o6,tsl,n6)])(hi:cY T ti=.int .i64)(I:cY T tk=.int .i64)(hs:cY T ts=.str)(hl:cY T tsl=.slice ts):∃x:Ev,l=x.c:=by obtain⟨p,q,r,s,u,v,rfl,h1,h2,h3,h4,h5,J⟩:=Gr h he;obtain⟨a,rfl⟩:=fF h1 hi;obtain⟨b,rfl⟩:=fF h2 I;obtain⟨c,rfl⟩:=uR h3 hs;obtain⟨d,rfl⟩:=fF h4 hi;obtain⟨e,rfl⟩:=fF h5 hi;obtain⟨f,rfl⟩:=nS (f:=sc) J hl (fun x M=>uR M hs);exact⟨⟨a,b,c,d,e,f⟩,rfl⟩
end
theorem xR{l:List ByteArray}(h:eC l=0):l.length<=32∧∀s∈l,cw s=0:=by unfold eC at h;grind
structure Good(e:Ev):Prop where
 time:0<=e.time∧e.time<=1000000000000
 kind:1<=e.kind∧e.kind<13
 noName:(dh e.kind).name=false->e.name=B #[]
 noN:(dh e.kind).n=false->e.n=0
 noM:(dh e.kind).m=false->e.m=0
 noStack:(dh e.kind).stack=false->e.stack=[]
 name:(dh e.kind).name=true->cw e.name=0
 stack:(dh e.kind).name=false->eC e.stack=0
 n:(dh e.kind).n=true->(dh e.kind).least<=e.n∧e.n<=(dh e.kind).most
 stop:e.kind=9->e.n≠2->e.m=0
 m:(dh e.kind).m=true->(e.kind≠9∨e.n=2)->(dh e.kind).mLeast<=e.m∧e.m<=(dh e.kind).mMost
theorem qe(h:dq e=0):Good e:=by
 unfold dq at h;split at h;·simp at h
 split at h;·simp at h
 split at h;·rename_i h3;exact absurd h h3
 split at h;·simp at h
 split at h;·simp at h
 split at h;·simp at h
 rename_i h1 h2 h3 h4 h5 h6;simp only[not_or]at h1 h2;obtain⟨J,M,N,O,U⟩:=h2;have X:1<=e.kind∧e.kind<13:=by simp[mI]at J;exact J
 have I:mZ (dh e.kind) e=0:=by simpa using h3
 unfold mZ at I;refine⟨by omega,X,fun q=>by simp[q]at M;exact M,fun q=>by simp[q]at N;exact N,fun q=>by simp[q]at O;exact O,fun q=>by simp[q]at U;exact U,fun q=>by simpa[q]using I,fun q=>by simpa[q]using I,fun q=>by simp only[q,true_and,not_or]at h4;omega,fun q1 q2=>by simp only[q1,true_and,not_and]at h5;have:=h5 q2;simpa using this,fun q1 q2=>?_⟩;grind
theorem wa{k:Int}(h:1<=k∧k<13):-1000000000000000<=(dh k).least∧(dh k).most<=1000000000000000∧0<=(dh k).mLeast∧(dh k).mMost<=1000000000000000∧(dh k).word.size<=6:=by rcases kinds h.1 h.2 with h|h|h|h|h|h|h|h|h|h|h|h<;>subst h<;>decide
theorem Good.Le(g:Good e):eK e.n=true:=by
 have hb:=wa g.kind
 cases h:(dh e.kind).n with
 |false=>rw[g.noN h];decide
 |true=>have:=g.n h;simp only[eK,μ,Δ];omega
theorem Good.Ld(g:Good e):eK e.m=true:=by
 have hb:=wa g.kind
 cases h:(dh e.kind).m with
 |false=>rw[g.noM h];decide
 |true=>
   by_cases q:e.kind≠9∨e.n=2;·have:=g.m h q;simp only[eK,μ,Δ];omega
   ·simp only[not_or,Decidable.not_not]at q
    rw[g.stop q.1 q.2];decide
theorem zb{n:Int}:eK n=true↔-1000000000000000<=n∧n<=1000000000000000:=by simp[eK]
theorem Cp{n:Int}(h:eK n=true):(eg n).size<=17:=by have h1:=zb.1 h;have h2:=GH (n:=n) (by have:(10:Nat)^16=10000000000000000:=(by decide);omega);have h3:(eg n).size=(Lib.itoa n).length:=Array.length_toList.symm;omega
theorem Good.E8(g:Good e):eK e.time=true:=by rw[zb];have:=g.time;omega
structure Hm where
 at_:Int
 cpu:Int
 word:ByteArray
 l:List Int
 e:Int
deriving DecidableEq
def Hm.res(x:Hm):A:=.tup [.d (ci x.at_),.d (ci x.cpu),.d (.v (.string x.word)),.d (.sl (x.l.map ic)),.d (ci x.e)]
abbrev xO:=List Int×List (Int×List Ev)
def Dm(x:xO)(th:Int)(e:Ev):xO:=
 if th=0 then x else(if((cC x.2 th).getD [])=[]then x.1++[th]else x.1,dm x.2 th ((cC x.2 th).getD []++[e]))
def rS(n:Nat)(x:xO):Prop:=(x.2.map (·.1)).Nodup∧x.1.length<=n∧∀p∈x.2,p.2.length<=n
theorem rS.get{n}{x:xO}(h:rS n x)(th):((cC x.2 th).getD []).length<=n:=by
 unfold cC
 cases q:x.2.find? fun p=>decide (p.1=th)with
 |none=>simp
 |some p=>simpa[q]using h.2.2 p (List.mem_of_find?_eq_some q)
theorem rS.add {n} {x:xO} (h:rS n x) (th) (e:Ev):rS (n+1) (Dm x th e):=by
  unfold Dm
  split
  · exact⟨h.1,Nat.le_succ_of_le h.2.1,fun p hp=>Nat.le_succ_of_le (h.2.2 p hp)⟩
  · refine⟨qq h.1 _ _,?_,fun p hp=>?_⟩
    · have:=h.2.1
      grind
    · have key:∀ {l:List (Int×List Ev)} {y:List Ev},p∈dm l th y→p=(th,y)∨p∈l:=by
        intro l
        induction l with
        | nil=>intro y hp;simp[dm] at hp;exact .inl hp
        | cons q r ih=>
          intro y hp
          simp only[dm] at hp
          grind
      rcases key hp with rfl | hp
      · have:=h.get th
        grind
      · exact Nat.le_succ_of_le (h.2.2 p hp)
theorem rS.mono{n m}{x:xO}(h:rS n x)(I:n<=m):rS m x:=⟨h.1,Y' h.2.1 I,fun p hp=>Y' (h.2.2 p hp) I⟩
variable {f:Fm}
def rR:Ev:=⟨0,0,cn,0,0,[]⟩
def zm(j:JV):Int:=(cK j dO 3).n
def fS(j:JV)(b:Bool):Bool:=b||fk j dO 3
def nC(j:JV)(f:Fm):ByteArray:=if f.name=true then(cK j cm 4).s else cn
def fI(j:JV)(f:Fm)(b:Bool):Bool:=if f.name=true then b||fk j cm 4 else b
def nO(j:JV)(f:Fm):Int:=if f.n=cn then 0 else(cK j f.n 3).n
def jb(j:JV)(f:Fm)(b:Bool):Bool:=if f.n=cn then b else b||fk j f.n 3
def jk(j:JV)(f:Fm):Bool:=bif !decide (f.ph=pS)then true else decide (nO j f=2)
def pJ(f:Fm)(on:Bool):Bool:=bif !decide (f.m=cn)then on else false
def mO(j:JV)(f:Fm)(on:Bool):Int:=if pJ f on=true then(cK j f.m 3).n else 0
def lJ(j:JV)(f:Fm)(on:Bool)(b:Bool):Bool:=if pJ f on=true then b||fk j f.m 3 else b
def BM(j:JV)(f:Fm):List ByteArray:=if f.st=true then vj j else[]
def sd(j:JV)(f:Fm)(b:Bool):Bool:=if f.st=true then(b||fk j bY 5)||jC (cK j bY 5).kids else b
def ov(j:JV)(f:Fm):Ev:=⟨zm j,f.kind,nC j f,nO j f,mO j f (jk j f),BM j f⟩
def yT(j:JV)(f:Fm)(b:Bool):Bool:=sd j f (lJ j f (jk j f) (jb j f (fI j f (fS j b))))
def mK(ph:ByteArray):Option Fm:=match gC.findIdx? fun f=>decide (f.ph=ph)with
 |some i=>gC[i]?
 |none=>none
def dv(j:JV):Bool:=!decide (j.op=6)
def cN(j:JV):Int×Ev×Int:=
 if b8 j 1≠0 then(0,rR,b8 j 1)
 else if db j (dv j)=true then(0,rR,10)
 else match mK (cK j dZ 4).s with
  |none=>(0,rR,10)
  |some f=>if(bif yT j f (db j (dv j))then true else !iG j (cM f (jk j f)))=true then(0,rR,10)
    else if dq (ov j f)≠0 then(0,rR,dq (ov j f))else((cK j cF 3).n,ov j f,0)
def tj(j:JV):Bool:=
 bif !decide (j.op=6)then true else bif !(e9 j dZ).isSome then true else bif !(e9 j cF).isSome then true else bif !decide (((e9 j dZ).getD gf).op=4)then true
  else bif !decide (((e9 j cF).getD gf).op=3)then true else bif decide (((e9 j cF).getD gf).n<0)then true else decide (1000000000000000<((e9 j cF).getD gf).n)
def ma:ByteArray:=B #[66,69,105,67,80,115,102,82,83,87,78,68]
def gM(k:Int)(b:Bool):List ByteArray:=
 if k=1∨k=3 then[cm,dO]
 else if k=2 then[dO]
 else if k=4 then[cm,dO,ja]
 else if k=5 then[dO,bY,dS]
 else if k=8 then[dO,mf]
 else if k=9 then(if b=true then[dO,iJ,lW]else[dO,iJ])
 else if k=10 then[dO,jc]
 else if k=11 then[dO,iE,eF,bY]
 else[dO,iE]
def zq(j:JV):Prop:=∀v∈j.kids,v.kids.length<=1000000000
theorem uj{v:JV}{key}(h:e9 j key=some v):v∈j.kids:=by unfold e9 at h;grind
theorem zq.get(h:zq j)(key):((e9 j key).getD gf).kids.length<=1000000000:=by
 cases hg:e9 j key with
 |none=>simp[gf,JV.kids]
 |some v=>exact h v (uj hg)
theorem zq.val(h:zq j)(key op):(cK j key op).kids.length<=1000000000:=by
 unfold cK oC
 cases hg:e9 j key with
 |none=>simp[gf,JV.kids]
 |some v=>
   show((if v.op=op then some v else none).getD gf).kids.length<=_;split;·exact h v (uj hg)
   ·simp[gf,JV.kids]
theorem checked (h:b8 j level=0):(j.op=6→j.keys.length=j.kids.length)∧∀ v∈j.kids,v.op=3→eK v.n=true:=by
  obtain⟨op,n,s,keys,kids⟩:=j
  obtain⟨h1,h2⟩:=lu h
  obtain⟨hf,_⟩:=jh h1
  constructor
  · grind[dJ,JV.op,JV.keys,JV.kids,JV.n,JV.s]
  · have key:∀ (l:List JV),dn l (level+1)=0→∀ v∈l,v.op=3→eK v.n=true:=by
      intro l
      induction l with
      | nil=>intro _ v hv;cases hv
      | cons x r ih=>
        intro hc v hv ho
        obtain⟨c1,c2⟩:=jf hc
        rcases N'.1 hv with rfl | hv
        · obtain⟨op,n,s,keys,kids⟩:=v
          obtain⟨c3,_⟩:=lu c1
          obtain⟨_,c4,_⟩:=jh c3
          grind
        · grind
    exact key kids h2
def tJ(s:ByteArray):JV:=.mk 4 0 s [] []
def nJ(n:Int):JV:=.mk 3 n cn [] []
def ee(f:Fm)(id:Int)(e:Ev)(k:ByteArray):JV:=
 if k=dZ then tJ f.ph else if k=cF then nJ id else if k=cm then tJ e.name else if k=dO then nJ e.time
 else if k=bY then .mk 5 0 cn [] (e.stack.map tJ)else if k=f.n then nJ e.n else nJ e.m
def ju(f:Fm)(e:Ev):Bool:=bif !decide (f.ph=pS)then true else decide (e.n=2)
def jD(k:Int):Option Fm:=match gC.findIdx? fun f=>decide (f.kind=k)with
 |some i=>gC[i]?
 |none=>none
def fP(f:Fm)(id:Int)(e:Ev):JV:=.mk 6 0 cn (cM f (ju f e)) ((cM f (ju f e)).map (ee f id e))
theorem xk(f:Fm)(on):(cM f on).length<=7:=by grind[cM]
theorem GZ{k:Int}(h:jD k=some f):∃i:Nat,idx (gC.findIdx? fun f=>decide (f.kind=k))=(i:Int)∧gC[i]?=some f:=by
 unfold jD at h
 cases hi:gC.findIdx? fun f=>decide (f.kind=k)with
 |none=>rw[hi]at h;cases h
 |some i=>rw[hi]at h;exact⟨i,rfl,h⟩
def kg(e:Ev)(k:ByteArray):JV:=if k=cm then tJ e.name else if k=bY then .mk 5 0 cn [] (e.stack.map tJ)else if k=dO then nJ e.time else if k=lW∨k=eF then nJ e.m else nJ e.n
def Cv(ph:ByteArray)(id:Int)(e:Ev):JV:=.mk 6 0 cn ([dZ,cF]++gM e.kind (decide (e.n=2))) ([tJ ph,nJ id]++(gM e.kind (decide (e.n=2))).map (kg e))
theorem II(h:gC[i]?=some f)(J:e.kind=f.kind)(id):Cv f.ph id e=fP f id e:=by
 have hi:i<12:=(δ.1 h).1;unfold Cv fP;rw[J];have h2:cM f (ju f e)=[dZ,cF]++gM f.kind (decide (e.n=2)):=by
  unfold ju;generalize decide (e.n=2)=b;revert h b
  match i,hi with
  |0,_|1,_|2,_|3,_|4,_|5,_|6,_|7,_|8,_|9,_|10,_|11,_=>intro h b;cases h;cases b<;>decide+kernel
  |i+12,h=>omega
 rw[h2];congr 1;rw[y'];have h3:∀w∈gM f.kind (decide (e.n=2)),kg e w=ee f id e w:=by
  generalize decide (e.n=2)=b;have hd:∀w∈gM f.kind b,w≠dZ∧w≠cF∧(w=cm∨w=bY∨w=dO∨((w=lW∨w=eF)∧w≠f.n)∨(w≠lW∧w≠eF∧w=f.n)):=by
   revert h b
   match i,hi with
   |0,_|1,_|2,_|3,_|4,_|5,_|6,_|7,_|8,_|9,_|10,_|11,_=>intro h b;cases h;cases b<;>decide+kernel
   |i+12,h=>omega
  intro w hw;obtain⟨q1,q2,q3⟩:=hd w hw;have I:cm≠bY:=by decide+kernel
  have a2:cm≠dO:=by decide+kernel
  have a3:bY≠dO:=by decide+kernel
  unfold kg ee;rw[if_neg q1,if_neg q2];rcases q3 with rfl|rfl|rfl|q|q
  ·simp
  ·simp[I.symm,a3]
  ·simp[a2.symm,a3.symm]
  ·by_cases w1:w=cm
   ·simp[w1]
   ·by_cases w2:w=bY
    ·subst w2;simp[I.symm,a3]
    ·by_cases w3:w=dO
     ·subst w3;simp[a2.symm,a3.symm]
     ·simp[w1,w2,w3,q]
  ·by_cases w1:w=cm
   ·simp[w1]
   ·by_cases w2:w=bY
    ·subst w2;simp[I.symm,a3]
    ·by_cases w3:w=dO
     ·subst w3;simp[a2.symm,a3.symm]
     ·rw[if_neg w1,if_neg w2,if_neg w3,if_neg (by rintro(r|r);exact q.1 r;exact q.2.1 r),if_neg w1,if_neg w3,if_neg w2,if_pos q.2.2]
 rw[List.map_congr_left h3];rfl
theorem Cg{k:Int}(h:jD k=some f):∃i:Nat,gC[i]?=some f∧i<12∧k=(i:Int)+1∧k=f.kind:=by
 unfold jD at h
 cases hi:gC.findIdx? fun f=>decide (f.kind=k)with
 |none=>rw[hi]at h;cases h
 |some i=>
   rw[hi]at h;obtain⟨h1,h2,_⟩:=List.findIdx?_eq_some_iff_getElem.1 hi;have h:gC[i]?=some f:=h;have e:gC[i]=f:=(δ.1 h).2;rw[e]at h2;have I:f.kind=k:=by simpa using h2
   have hl:i<12:=h1;have:∀j:Fin 12,(gC[j.1]?.map Fm.kind)=some ((j.1:Int)+1):=by decide+kernel
   have h3:=this ⟨i,hl⟩;rw[h]at h3;exact⟨i,h,hl,by rw[<-I];exact J' h3,I.symm⟩
end Go.Tb
namespace Go.Ab
open Go.RowKit
variable {w w':World}{tmps:Array Value}{pv:Nat→Nat→Prop}{x y:Operand}{t g i k e m j id b off gen d gen' clock sz J mt g2 t' cap d0:Nat}{P:Program}{Q':Exit→Act→World→Prop}{lv' lv gs order os:List Nat}{bs:List (Nat×Nat)}{parts:Array (Nat×Operand)}{fid:FuncId}{xs:Array Operand}{o:Oper}{fn:Func}{dst:Option Nat}{ops:Array Oper}{α ι H β:Type}{hole:Option Value}{R:Value→World→Prop}{want:Bool}{listed:Array Bool}{T ty:TypeId}{l1 l2:List Oper}{ids:List Int}{act:Act}
variable {es es2:List (List D)}{f:List (Nat×A)}{G:Gh}{a a':A}{st st':St}{l:List D}{args cells cq' caps cq cells' X:List A}{E E':En}{Q:Exit→St→Prop}{b1 I:List (List A)}{C:Ctx}
variable {rs:List RV}
variable {td ed:cV}
section
variable{n:Nat}{v:Value}
theorem du{y}(h:Q (gP v) st):QS P C n y Q (gP v) st:=h
theorem iD(h:Q (gP v) st):QB id Q (gP v) st:=h
theorem lG{I}(h:Q (gP v) st):QL I m Q (gP v) st:=h
theorem dK{T:cG P}{x:Out}(h:x=.ib v):QX T rs x (gP v) st:=by subst h;rfl
theorem eA{T:cG P}{x:Out}{r e}(h:x=.ret r b1 k)(I:dr T rs r b1 k e st):QX T rs x e st:=by subst h;exact I
theorem KP{S}(h:Q (gP v) st):QC C n S Q (gP v) st:=h
end
end Go.Ab
namespace Go.Tb
open Go.Ab
@[reducible] def jL(t:Nat)(a:Nat)(w:Int):Value:=.iface t (.agg #[.int .i64 (a:Int),.int .i64 w])
@[reducible] def gn(s:ByteArray)(i:Nat):List A:=[.d (cs s),.d (.v (.int .i64 (i:Int)))]
def jA{α:Type}(t:Nat)(s:ByteArray)(r:α->A):PE α->Out
 |.ok x i=>.ret (r x) [gn s i] 0
 |.no a w=>.ib (jL t a w)
theorem ig{α:Type}(t:Nat)(s:ByteArray)(r:α->A)(x:PE α):(jA t s r x).len 1=true:=by cases x<;>rfl
theorem cp{α:Type}{t:Nat}{s:ByteArray}{r:α->A}{x:PE α}{y:α}{i:Nat}(h:x=.ok y i):jA t s r x=.ret (r y) [gn s i] 0:=by subst h;rfl
theorem cb{α:Type}{t:Nat}{s:ByteArray}{r:α->A}{x:PE α}{a:Nat}{w:Int}(h:x=.no a w):jA t s r x=.ib (jL t a w):=by subst h;rfl
end Go.Tb
namespace Go.Ab
open Go.RowKit
variable {w w':World}{tmps:Array Value}{pv:Nat→Nat→Prop}{x y:Operand}{t g i k e m j id b off gen d gen' clock sz J mt g2 t' cap d0:Nat}{P:Program}{Q':Exit→Act→World→Prop}{lv' lv gs order os:List Nat}{bs:List (Nat×Nat)}{parts:Array (Nat×Operand)}{fid:FuncId}{xs:Array Operand}{o:Oper}{fn:Func}{dst:Option Nat}{ops:Array Oper}{α ι H β:Type}{hole:Option Value}{R:Value→World→Prop}{want:Bool}{listed:Array Bool}{T ty:TypeId}{l1 l2:List Oper}{ids:List Int}{act:Act}
variable {es es2:List (List D)}{f:List (Nat×A)}{G:Gh}{a a':A}{st st':St}{l:List D}{args cells cq' caps cq cells' X:List A}{E E':En}{Q:Exit→St→Prop}{b1 I:List (List A)}{C:Ctx}
variable {rs:List RV}
variable {td ed:cV}
def oQ(I:Nat):List (Nat×List A)->List (Nat×List A)
 |[]=>[]
 |(g,c)::r=>bif Nat.blt g I then(g,c.map qt)::oQ I r else oQ I r
theorem qY{I}:∀{bx:List (Nat×List A)}{g:Nat}{c:List A},bh (oQ I bx) g=some c->g<I∧∃c0,bh bx g=some c0∧c=c0.map qt
 |[],g,c,h=>by simp[oQ,bh]at h
 |(g0,c0)::r,g,c,h=>by
   unfold oQ at h
   cases hb:Nat.blt g0 I with
   |true=>
     rw[hb]at h;have J:g0<I:=Nat.blt_eq.mp hb;simp only[cond_true,bh]at h⊢
     cases he:Nat.beq g0 g with
     |true=>grind[Option.some.injEq,Nat.eq_of_beq_eq_true]
     |false=>rw[he]at h;simp only[cond_false]at h⊢;exact qY h
   |false=>
     rw[hb]at h;have J:¬g0<I:=fun q=>by rw[Nat.blt_eq.mpr q]at hb;cases hb
     simp only[cond_false]at h;obtain⟨h1,h2⟩:=qY h;grind[Nat.beq,Nat.eq_of_beq_eq_true,bh]
theorem uf{v}(h:bK E v a):bK E' v (qt a):=by
 unfold qt;split;·cases h with|d I=>cases I with|v _ J=>exact .d (.v _ J)
 ·exact .any _
theorem bq.LB{n M}(h:bq C n st G tmps w)(O:C.bx.length=M)(U:∀i b:Nat,C.bx[i]?=some b->b<C.w0.heap.size)(hb:Below C.w0.heap.size w w')(ad:w.heap.size<=w'.heap.size):
 bq C n ⟨o9 st.f,oQ M st.bx,[],st.gen⟩ ⟨fun g=>if g<M then G.box g else none,fun _=>none⟩ tmps w' where
 size:=h.size
 frame:=fun t a X=>by rw[qK]at X;obtain⟨a',ai,rfl⟩:=ν.1 X;obtain⟨v,hv,N⟩:=h.frame t a' ai;grind[uf]
 box:=fun g cells hc=>by
  obtain⟨I,c0,h0,rfl⟩:=qY hc;obtain⟨b,cs,T,h1,h2,h3,h4,h5⟩:=h.box g c0 h0;have aj:C.bx[g]?=some b:=by have hl:C.bx[g]?=some (C.bx[g]'(by omega)):=List.getElem?_eq_getElem _;have:=h.lent g _ hl;grind
  have J:=U g b aj;refine⟨b,cs,T,by simp[I,h1],by rw[hb.block b J];exact h2,by simpa using h3,h4,fun i u a hu X=>?_⟩;grind[Option.map_eq_some_iff,uf]
 gbox:=fun g b I=>by
  have I:(if g<M then G.box g else none)=some b:=I;split at I
  ·obtain⟨q1,q2,q3⟩:=h.gbox g b I
   grind
  ·grind
 inj:=fun g g' b h1 h2=>by
  have h1:(if g<M then G.box g else none)=some b:=h1;have h2:(if g'<M then G.box g' else none)=some b:=h2;split at h1
  ·split at h2
   ·exact h.inj g g' b h1 h2
   ·grind
  ·grind
 live:=fun g I=>by simp at I
 gown:=fun g r N=>by simp at N
 row:=fun g b len cap sz a1 N=>by simp at N
 mrow:=fun g b bs N=>by simp at N
 sub:=fun g b bs c lim N=>by simp at N
 gcell:=fun g b I=>by
  have I:(if g<M then G.box g else none)=some b:=I;split at I
  ·rename_i J
   have hl:g<C.bx.length:=by rw[O];exact J
   have h1:=h.lent g C.bx[g] (by simp[hl]);rw[I]at h1;simp only[Option.some.injEq]at h1;obtain⟨cs,T,f,h2⟩:=h.gcell g b I;exact⟨cs,T,f,by rw[hb.block b (U g b (by rw[h1];simp[hl]))];exact h2⟩
  ·grind
 xold:=h.xold
 kold:=h.kold
 lent:=fun i b hb=>by
  have hi:i<M:=by rw[<-O];exact(δ.1 hb).1
  show(if i<M then G.box i else none)=some b;rw[if_pos hi];exact h.lent i b hb
 fr:=⟨hb.os.trans h.fr.os,hb.tape.trans h.fr.tape,hb.output.trans h.fr.output,Y' h.fr.size ad,fun b h1 h2=>(hb.block b h1).trans (h.fr.block b h1 h2),fun b o u h1 h2=>by
  have J:=ea h2;rw[cL (hb.block b J)];exact h.fr.cells b o u h1 h2,fun b cs T f h1=>by
  have J:=(θ.1 h1).1;rw[hb.block b J];exact h.fr.ty b cs T f h1⟩
section
variable{n:Nat}{rest:List Oper}
variable{bx:List (Nat×List A)}{pos:String}{af:Array Edge}
theorem IL{X}[hN:NB C X](b6:∀b,C.fp b->∃i:Nat,C.bx[i]?=some b)(di:∀i b:Nat,C.bx[i]?=some b->b<C.w0.heap.size){O e u}{s:ByteArray}(hx:av f x=some (.clo fid []))(hy:av f y=some (.ptr g 0))(hb:bh bx g=some [.np g T u,.bf g2 e s])(dj:(lv.any fun h=>Nat.beq h g2)=true)(hok:kB P fid)(cy:uM P T e fid)(dt:s.size<=maxLen)(hd:Nat.blt d n=true)(ch:Nat.ble X g=true)(h:WO P C n ops Q rest ⟨(d,.d (.v (.string s)))::o9 f,oQ X bx,[],gen⟩):WO P C n ops Q (⟨some d,.call ⟨.value x,#[y],O⟩,ty,pos,af,none⟩::rest) ⟨f,bx,lv,gen⟩:=by
 refine WO.step (st:=⟨f,bx,lv,gen⟩) Z fun tmps w⟨G,hs⟩=>?_;obtain⟨fn,dx,a7,a8⟩:=hok;have cj:=hs.av hx;generalize hv:Act.eval ⟨tmps,[]⟩ x=v at cj
 cases cj with
 |clo _ vs _ ec ff=>
 have ed:vs=#[]:=Array.eq_empty_of_size_eq_zero (by simpa using ec);subst ed;have cl:=hs.av hy;generalize ei:Act.eval ⟨tmps,[]⟩ y=vy at cl;obtain⟨b,cs,T',h1,h2,h3,h4,h5⟩:=hs.box g _ hb;have ej:vy=.pointer (some ⟨b,0,none⟩):=by
  cases cl with
  |ptr _ _ _ b0 hg ad I=>exact oO ad I b h1
 subst ej;have c1:(execOp (Act.eval ⟨tmps,[]⟩) ⟨some d,.call ⟨.value x,#[y],O⟩,ty,pos,af,none⟩).run P w=.ok (.enter fid #[.pointer (some ⟨b,0,none⟩)]) w:=by unfold execOp;show Sem.run P (do let d←resolve (Act.eval ⟨tmps,[]⟩) ⟨.value x,#[y],O⟩ ty;invoke d.target d.args) w=_;simp only[resolve,hv,ei,Deferred.ofValue,Sem.run_bind,Sem.run_pure,Result.andThen_ok,invoke,callFunc,run_program,dx,a7,a8,L',if_false,Array.empty_append,Array.append_empty,List.map_toArray,U',List.map_nil]
 simp at h3;obtain⟨p,q,ai⟩:∃p q,cs=#[p,q]:=⟨cs[0],cs[1],by apply Array.ext_getElem?;intro i;match i with|0=>simp[h3]|1=>simp[h3]|i+2=>simp[h3]⟩;subst ai;have hp:=h5 0 p _ rfl rfl;have hq:=h5 1 q _ rfl rfl;obtain⟨r,cq⟩:=hs.live g2 (er dj);have c6:C.bx.length=X:=hN.h;have b3:∀{b lim},C.jF b lim->(∀g',G.box g'≠some b)->C.w0.heap.size<=b:=fun hm en=>hm.1.resolve_right fun hf=>by obtain⟨i,hi⟩:=b6 _ hf;exact en i (hs.lent i _ hi)
 have U:C.w0.heap.size<=b:=(hs.gbox g b h1).2.2.1.resolve_right fun hf=>by obtain⟨i,hi⟩:=b6 _ hf;have e:=hs.inj _ _ _ (hs.lent i _ hi) h1;have aj:i<C.bx.length:=(δ.1 hi).1;have:=κ ch;omega
 have a1:T'=T∧(p=.pointer none∨p=.pointer (some ⟨b,0,none⟩)):=by
  cases hp with
  |np _ _ _ b0 hg ad hT _ I=>
    have e1:b0=b:=by have:=(ad:G.box g=some b0).symm.trans h1;simpa using this
    subst e1;obtain⟨cs',f',hT⟩:=hT;have J:w.heap[b0]?=some (.cells cs' T f'):=hT;rw[h2]at J;simp only[Option.some.injEq,Obj.cells.injEq]at J;refine⟨J.2.1,?_⟩
    cases u with
    |true=>exact .inr I
    |false=>exact .inl I
 obtain⟨rfl,a1⟩:=a1;have M:w.ownsRow C.w0.heap.size e 1 q (Lib.byteCells s.data.toList).length (Lib.byteCells s.data.toList)∧q.ownBlock≠some b:=by
  cases hq with
  |bf _ _ _ _ hg fj c7=>
  have I:=c7 r cq
  cases r with
  |zero b=>exact I.elim
  |mp b bs=>exact I.elim
  |nil=>obtain⟨rfl,h0⟩:=I;have e0:s.data.toList=[]:=A' (by simpa using h0);rw[e0];exact⟨World.ownsRow_nil w _ e 1,by simp[Value.ownBlock]⟩
  |blk b2 len cap sz fo=>
    obtain⟨rfl,h6,rfl,rfl,⟨cs',f',hT⟩,h8⟩:=I;obtain⟨b4,cx,e5,cur,T2,N,ai,e2,e3,_,e6,_⟩:=hs.row g2 b2 len cap 1 0 cq;have J:w.heap[b2]?=some (.cells cs' e f'):=hT;rw[N]at J;simp only[Option.some.injEq,Obj.cells.injEq]at J;obtain⟨_,rfl,_⟩:=J;have hlen:(Lib.byteCells s.data.toList).length=len:=by rw[Lib.byteCells_length,Array.length_toList];exact h6
    rw[hlen];refine⟨⟨by simpa using hlen,.inr ⟨b2,cap,cur,rfl,b3 b4 cx,N,e2,e3,ai,?_⟩⟩,?_⟩
    ·rw[Nat.mul_one]
     apply List.ext_getElem?;intro t;rw[List.getElem?_take];have es:(Lib.byteCells s.data.toList)=Lib.strCells s:=(Lib.strCells_eq s).symm;split
     ·rename_i aj
      have hc:s.data[t]?=some (s.data[t]'(by rw[<-h6]at aj;exact aj)):=Array.getElem?_eq_getElem _;have h7:=h8 t _ hc;have e4:cur[t]?=_:=(cP N t).symm.trans h7;rw[es,gH hc,Array.getElem?_toList,e4]
     ·rename_i ch
      rw[List.getElem?_eq_none (by rw[hlen];omega)]
    ·simp only[Value.ownBlock]
     intro e1;simp only[Option.some.injEq]at e1;exact cx g (e1▸h1)
 have df:∀p,p=Value.pointer none∨p=.pointer (some ⟨b,0,none⟩)->w.heap[b]?=some (.cells #[p,q] T' (0,0))->Lib.IsBuilder T' e C.w0.heap.size b (Lib.byteCells s.data.toList) w:=by
  rintro p (rfl|rfl) hh;·exact .inl ⟨U,q,hh,M.1,M.2⟩
  ·exact .inr ⟨U,q,hh,M.1,M.2⟩
 unfold et;have b5:(execOp (Act.eval {tmps:=tmps,defers:=[]}) ⟨some d,.call ⟨.value x,#[y],O⟩,ty,pos,af,none⟩).run P w=.ok (.enter fid #[.pointer (some ⟨b,0,none⟩)]) w:=c1;rw[b5];refine(cy C.w0.heap.size b s.data.toList w (df p a1 h2) hs.fr.size).mono ?_;rintro e' w' ⟨rfl,a6⟩;refine⟨_,rfl,⟨(d,.d (.v (.string s)))::o9 f,oQ X bx,[],gen⟩,⟨⟨fun g=>if g<X then G.box g else none,fun _=>none⟩,?_⟩,h⟩;have:=(hs.LB c6 di a6 a6.size).put (dst:=some d) (dp (dst:=some d) hd) (v:=.string ⟨s.data.toList.toArray⟩) (a:=.d (.v (.string s))) (.d (by
  have:(⟨s.data.toList.toArray⟩:ByteArray)=s:=by apply ByteArray.ext;simp
  rw[this];exact .v _ (by simp[dy,dt])))
 exact this
end
section
variable{n:Nat}
theorem W.G6(T:cG P)[hnb:NB C J]{l:List Oper}{bx}(v)(cs:List Nat)(m)(hB:gh m l.toArray=true)(I:lI l.toArray cs=true)(h1:l.take m=l1)(h2:l.drop m=l2)(M:∀st,Q (gP v) st)(h:CD P T C n (C0 (bx::List.replicate cs.length bx) (lv::List.replicate cs.length lv) (gen::List.replicate cs.length gen) cs l.length v) l.toArray (WO P C n l.toArray Q l2) l1 0 f 0 true):W P C n (.region id l.toArray true) Q ⟨f,bx,lv,gen⟩:=
 W.Bb T v _ _ _ _ m hB I h1 h2 M h
theorem W.FA(T:cG P)[hnb:NB C J]{l:List Oper}{bx}(v lv1 gen1 bx1)(cs:List Nat)(m)(hB:gh m l.toArray=true)(I:lI l.toArray cs=true)(h1:l.take m=l1)(h2:l.drop m=l2)(M:∀st,Q (gP v) st)(h:CD P T C n (C0 (bx::List.replicate cs.length bx1) (lv::List.replicate cs.length lv1) (gen::List.replicate cs.length gen1) cs l.length v) l.toArray (WO P C n l.toArray Q l2) l1 0 f 0 true):W P C n (.region id l.toArray true) Q ⟨f,bx,lv,gen⟩:=
 W.Bb T v _ _ _ _ m hB I h1 h2 M h
theorem W.uw(T:cG P){N}[hnb:NB C N]{l:List Oper}{bx}(F:List (Nat×List A)->List (List (Nat×List A)))(J:List (List Nat))(I:List Nat)(cs:List Nat)(m:Nat)(hB:gh m l.toArray=true)(M:lI l.toArray cs=true)(h1:l.take m=l1)(h2:l.drop m=l2)(h:CD P T C n (GP (bx::F bx) (lv::J) (gen::I) cs l.length) l.toArray (WO P C n l.toArray Q l2) l1 0 f 0 true):W P C n (.region id l.toArray true) Q ⟨f,bx,lv,gen⟩:=
 W.ko T (F bx) J I cs m hB M h1 h2 h
end
section
/-! ### a code whose end is told at once -/
variable {w w':World}{tmps:Array Value}{pv:Nat→Nat→Prop}{x y:Operand}{t g i k e m j id b off gen d gen' clock sz J mt g2 t' cap d0:Nat}{P:Program}{Q':Exit→Act→World→Prop}{lv' lv gs order os:List Nat}{bs:List (Nat×Nat)}{parts:Array (Nat×Operand)}{fid:FuncId}{xs:Array Operand}{o:Oper}{fn:Func}{dst:Option Nat}{ops:Array Oper}{α ι H β:Type}{hole:Option Value}{R:Value→World→Prop}{want:Bool}{listed:Array Bool}{T ty:TypeId}{l1 l2:List Oper}{ids:List Int}{act:Act}
variable {es es2:List (List D)}{f:List (Nat×A)}{G:Gh}{a a':A}{st st':St}{l:List D}{args cells cq' caps cq cells' X:List A}{E E':En}{Q:Exit→St→Prop}{b1 I:List (List A)}{C:Ctx}
variable {rs:List RV}
variable {td ed:cV}
def W'(P:Program)(C:Ctx)(n:Nat)(c:Code)(B:Exit->Act->World->Prop)(st:St):Prop:=∀tmps w,fv C n st tmps w->c.wp P B ⟨tmps,C.ds⟩ w
def rP(P:Program)(C:Ctx)(n:Nat)(ops:Array Oper)(B:Exit->Act->World->Prop)(l:List Oper)(st:St):Prop:=∀tmps w,fv C n st tmps w->fO P ops B l ⟨tmps,C.ds⟩ w
def K5(P:Program)(C:Ctx)(n:Nat)(y:Code)(B:Exit->Act->World->Prop):Exit->St->Prop
 |.normal,st=>W' P C n y B st
 |e,st=>∀tmps w,fv C n st tmps w->B e ⟨tmps,C.ds⟩ w
section
variable{n:Nat}{B:Exit→Act→World→Prop}{rest:List Oper}
theorem aO{x y}(h:W P C n x (K5 P C n y B) st):W' P C n (.seq x y) B st:=by intro tmps w hs;refine wp_seq (wp_mono (h tmps w hs) ?_);rintro e ⟨t,M⟩ w' ⟨hd,st',I,J⟩;simp only at hd;subst hd;cases e<;>simp only[K5]at J<;>simp only[Exit.then];all_goals exact J t w' I
theorem W'.Fh{l:List Oper}{y:Code}(h:rP P C n l.toArray (Exit.then (y.wp P B) B) l st):W' P C n (.seq (.region id l.toArray false) y) B st:=by intro tmps w hs;refine wp_seq (wp_region ?_);have:=sa (P:=P) (Q:=Exit.then (y.wp P B) B) (ops:=l.toArray) l 0 (by simp) ⟨tmps,C.ds⟩ w (h tmps w hs);grind[List.range_eq_range']
theorem rP.pu(I:o.guard=none)(hd:fY n o.dst=true)(hp:Pu P C n st o a)(h:rP P C n ops B rest (st.put o.dst a)):rP P C n ops B (o::rest) st:=by intro tmps w ⟨G,hs⟩;simp only[fO,Region.wanted,I,if_true];refine(et.ds (hp G tmps w hs)).wp fun v w'⟨hb,hr⟩=>?_;rw[Act.iP];exact h _ _ ⟨G,(hs.ij hb).2.put (dp hd) hr⟩
abbrev pp(b:Nat):Value:=.pointer (some ⟨b,0,none⟩)
abbrev tK(fid:FuncId)(b0 b1 b2:Nat):Deferred:=⟨.fn (.func fid) #[pp b0,pp b1,pp b2],#[]⟩
theorem aS(hg:o.guard=none)(N:o.dst=none){X}(ho:o.op=.defer ⟨.value x,#[],X⟩)(hx:av st.f x=some (.clo fid [.ptr 0 0,.ptr 1 0,.ptr 2 0]))(h:∀I b1 J tmps w G,bq C n st G tmps w->G.box 0=some I->G.box 1=some b1->G.box 2=some J->fO P ops B rest ⟨tmps,tK fid I b1 J::C.ds⟩ w):rP P C n ops B (o::rest) st:=by
 intro tmps w ⟨G,hs⟩;simp only[fO,Region.wanted,hg,if_true];have O:=hs.av hx;rw[<-Act.jN tmps C.ds []]at O;generalize hv:Act.eval ⟨tmps,C.ds⟩ x=v at O
 cases O with
 |clo _ vs _ M hcd=>
 have M:vs.size=3:=M;obtain⟨v0,v1,v2,rfl⟩:∃v0 v1 v2,vs=#[v0,v1,v2]:=⟨vs[0],vs[1],vs[2],by
  apply Array.ext;·simpa using M
  ·intro i h1 h2
   match i with
   |0=>rfl
   |1=>rfl
   |2=>rfl
   |i+3=>simp at h2;omega⟩
 have r0:=hcd 0 v0 _ Z rfl;have r1:=hcd 1 v1 _ Z rfl;have r2:=hcd 2 v2 _ Z Z
 cases r0 with
 |ptr _ _ _ I _ ad e0=>
 cases r1 with
 |ptr _ _ _ b1 _ ai e1=>
 cases r2 with
 |ptr _ _ _ J _ aj e2=>
 subst e0;subst e1;subst e2;have U:(execOp (Act.eval ⟨tmps,C.ds⟩) o).run P w=.ok (.defer (tK fid I b1 J)) w:=by unfold execOp;rw[ho];simp only[resolve,hv,Deferred.ofValue,Sem.run_bind,Sem.run_pure,Result.andThen_ok,List.map_toArray,List.map_nil,Array.append_empty]
 unfold Oper.wp;rw[U,Oper.upon_defer];rw[N];exact h I b1 J tmps w G hs ad ai aj
theorem bq.ze{bs:List Nat}{ds}(hs:bq C n st G tmps w)(h:∀(i b:Nat),bs[i]?=some b->G.box i=some b):bq {C with bx:=bs,ds:=ds} n st G tmps w:=
 {size:=hs.size,frame:=hs.frame,box:=hs.box,gbox:=hs.gbox,inj:=hs.inj,live:=hs.live,gown:=hs.gown,row:=hs.row,mrow:=hs.mrow,sub:=hs.sub,gcell:=hs.gcell,xold:=hs.xold,kold:=hs.kold,lent:=h,
   fr:=⟨hs.fr.os,hs.fr.tape,hs.fr.output,hs.fr.size,hs.fr.block,hs.fr.cells,hs.fr.ty⟩}
theorem GC.ze[dw P](h:GC P C){bs ds}:GC P {C with bx:=bs,ds:=ds}:=⟨h.h⟩
theorem wy{c:Code}(hs:fv C n st tmps w)(hW:W P C n c Q st)(hB:∀e a w',lift C n Q e a w'->B e a w'):c.wp P B ⟨tmps,C.ds⟩ w:=wp_mono (hW tmps w hs) hB
/-! ### a callee panics: the other boxes stay -/
def Cs:A->A
 |.ptr g o=>.ptr g o
 |_=>.any
def yu(f:List (Nat×A)):List (Nat×A):=f.map fun p=>(p.1,Cs p.2)
theorem ED(f t):look (yu f) t=(look f t).map Cs:=by
 induction f with
 |nil=>rfl
 |cons p r I=>grind[yu,ct]
theorem F7{v}(I:E'.gen=E.gen)(hb:E'.box=E.box)(h:bK E v a):bK E' v (Cs a):=by
 unfold Cs;split;·cases h with
  |ptr _ g off b h1 h2 h3=>exact .ptr _ _ _ b (I▸h1) (by rw[hb];exact h2) h3
 ·exact .any _
def pr(gs:List Nat):List (Nat×List A)->List (Nat×List A)
 |[]=>[]
 |(g,c)::r=>bif gs.any (Nat.beq g)then pr gs r else(g,c.map qt)::pr gs r
theorem qH:∀{bx:List (Nat×List A)}{g:Nat}{c:List A},bh (pr gs bx) g=some c->gs.any (Nat.beq g)=false∧∃c0,bh bx g=some c0∧c=c0.map qt
 |[],g,c,h=>by simp[pr,bh]at h
 |(g0,c0)::r,g,c,h=>by
   unfold pr at h
   cases hb:gs.any (Nat.beq g0)with
   |false=>
     rw[hb]at h;simp only[cond_false,bh]at h⊢
     cases he:Nat.beq g0 g with
     |true=>grind[Option.some.injEq,Nat.eq_of_beq_eq_true]
     |false=>rw[he]at h;simp only[cond_false]at h⊢;exact qH h
   |true=>rw[hb]at h;simp only[cond_true]at h;obtain⟨h1,h2⟩:=qH h;grind[Nat.beq,Nat.eq_of_beq_eq_true,bh]
theorem bq.KT (h:bq C n st G tmps w) (h1:Fr (fJ C G w gs os) w'):bq C n ⟨yu st.f,pr gs st.bx,[],st.gen⟩ ⟨G.box,fun _=>none⟩ tmps w':=
 { size:=h.size
   frame:=fun t a M=>by rw[ED] at M;obtain⟨a',O,rfl⟩:=ν.1 M;obtain⟨v,hv,I⟩:=h.frame t a' O;exact⟨v,hv,F7 (E:=bu C G st.gen w) rfl rfl I⟩
   box:=fun g cells hc=>by
    obtain⟨J,c0,h0,rfl⟩:=qH hc;obtain⟨b,cs,T,q1,q2,q3,q4,q5⟩:=h.box g c0 h0;have U:b < w.heap.size:=(h.gbox g b q1).2.1;have hn:¬ (gg G gs b∨∃ lim,fy G os b lim):=by
     rintro(⟨X,N,ad⟩ | ⟨lim,X,N,r,I,hra⟩)
     ·have e:=h.inj _ _ _ ad q1
      subst e;have:=List.any_eq_false.1 J X N;simp at this
     ·exact(h.rowAt I hra).2.1 g q1
    refine⟨b,cs,T,q1,(h1.block b U hn).trans q2,by simpa using q3,q4,fun i u a hu M=>?_⟩;rw[τ] at M;obtain⟨a0,ai,rfl⟩:=ν.1 M;exact uf (q5 i u a0 hu ai)
   gbox:=fun g b J=>⟨(h.gbox g b J).1,ρ (h.gbox g b J).2.1 h1.size,(h.gbox g b J).2.2⟩
   inj:=h.inj,live:=fun g J=>by simp at J,gown:=fun g r I=>by simp at I,row:=fun g b len cap sz aj I=>by simp at I,mrow:=fun g b bs I=>by simp at I,sub:=fun g b bs c lim I=>by simp at I,gcell:=fun g b hb=>ny h1.ty (h.gcell g b hb),xold:=h.xold,kold:=h.kold,lent:=h.lent,fr:=h.Ec h1 }
end
section
variable{n:Nat}{rest:List Oper}
theorem WO.rQ[dw P][GC P C](O:o.guard=none){N}(ho:o.op=.call ⟨.value x,xs,N⟩){I}(hx:av st.f x=some (.clo fid caps))(a1:kJ st.f xs.toList=some I)(gs os:List Nat)(a6:nodupB gs=true)(a7:nodupB os=true)(a8:(os.all fun g=>st.lv.any fun h=>Nat.beq h g)=true){b0 v}(hf:jB P fid args b0 m v)(U:(I++caps).map (eI st.bx gs os 5)=args)(hb:gF st.bx gs os gs=some b0)(hm:os.length=m)(h:Q (gP v) ⟨yu st.f,pr gs st.bx,[],st.gen⟩):WO P C n ops Q (o::rest) st:=by
 subst hm;subst U;intro tmps w ⟨G,hs⟩;simp only[fO,Region.wanted,O,if_true];obtain⟨fn,b2,J,M⟩:=hf.ok;have X:=hs.av hx;rw[<-Act.jN tmps C.ds []]at X;generalize hv:Act.eval ⟨tmps,C.ds⟩ x=v' at X
 cases X with
 |clo _ vs _ b3 hcd=>
 obtain⟨h1,h2⟩:=jM hs xs.toList I a1;rw[<-Act.jN tmps C.ds []]at h2;have ad:(execOp (Act.eval ⟨tmps,C.ds⟩) o).run P w=.ok (.enter fid (xs.map (Act.eval ⟨tmps,C.ds⟩)++vs)) w:=by unfold execOp;rw[ho];show Sem.run P (do let d←resolve (Act.eval ⟨tmps,C.ds⟩) ⟨.value x,xs,N⟩ o.type;invoke d.target d.args) w=_;simp only[resolve,hv,Deferred.ofValue,Sem.run_bind,Sem.run_pure,Result.andThen_ok,invoke,callFunc,run_program,b2,J,M,L',if_false,Array.empty_append]
 obtain⟨hlen,ai⟩:=hs.mc (gs:=gs) (os:=os) (eX a6) (eX a7) (fun g O=>by obtain⟨y,hy,he⟩:=F'.1 (I'.1 a8 g O);exact Γ he▸hy) hb;have b5:=(iO hb).1;unfold Oper.wp;rw[ad];refine(hf.calls (fJ C G w gs os) (iy G gs os) _ w (GC.r9 hs) rfl hlen rfl (qW rfl) ai (by simp at h1;simp[b3,h1]) (fun i u a hu ha=>?_)).mono fun e w'⟨he,h3⟩=>?_
 ·simp only[τ,ν]at ha
  obtain⟨y,hy,rfl⟩:=ha;refine bK.mc hs gs os (by omega) 5 u y ?_;simp only[Array.getElem?_append]at hu;split at hu
  ·rename_i b4
   simp only[Array.size_map]at b4;have aj:i<I.length:=by simp at h1;omega
   rw[Ω aj]at hy;grind
  ·grind
 ·subst he
  exact⟨rfl,_,⟨_,hs.KT h3⟩,h⟩
end
section
variable{n:Nat}{rest:List Oper}
variable{bx:List (Nat×List A)}{op:Op}{pos:String}{af:Array Edge}
theorem rQ[dw P][GC P C]{M I N v}(gs os:List Nat)(hx:av f x=some (.clo fid caps))(O:kJ f xs.toList=some I)(J:(I++caps).map (eI bx gs os 5)=args)(hb:gF bx gs os gs=some N)(hm:os.length=m)(hf:jB P fid args N m v)(U:nodupB gs=true)(X:nodupB os=true)(ad:(os.all fun g=>lv.any fun h=>Nat.beq h g)=true)(h:Q (gP v) ⟨yu f,pr gs bx,[],gen⟩):
 WO P C n ops Q (⟨dst,.call ⟨.value x,xs,M⟩,ty,pos,af,none⟩::rest) ⟨f,bx,lv,gen⟩:=
 WO.rQ (st:=⟨f,bx,lv,gen⟩) rfl rfl hx O gs os U X ad hf J hb hm h
theorem Kc(M:av f x=some (.d (.v .nilIface)))(hB:mR P t=true):
 Pu P C n ⟨f,bx,lv,gen⟩ ⟨dst,.binOp .neq t x (.const .nilIface) t',ty,pos,af,none⟩ (.d (.v (.bool false))):=by
 obtain⟨ms,hu⟩:=mY hB;refine aq fun G tmps w hs=>?_;have I:=hs.av M;generalize J:Act.eval ⟨tmps,[]⟩ x=vx at I;cases I with|d I=>cases I with|v _ _=>
 refine⟨.bool false,?_,.d (.v _ Z)⟩;unfold execOp;show Sem.run P _ w=_;have he:(Act.eval ⟨tmps,[]⟩ (Operand.const Value.nilIface))=Value.nilIface:=rfl;simp only[J,he,eqGuard,binOp];simp[xt w hu];rfl
theorem KD{u v}(M:av f x=some (.d (.v (.iface u v))))(hB:mR P t=true):
 Pu P C n ⟨f,bx,lv,gen⟩ ⟨dst,.binOp .neq t x (.const .nilIface) t',ty,pos,af,none⟩ (.d (.v (.bool true))):=by
 obtain⟨ms,hu⟩:=mY hB;refine aq fun G tmps w hs=>?_;have I:=hs.av M;generalize J:Act.eval ⟨tmps,[]⟩ x=vx at I;cases I with|d I=>cases I with|v _ _=>
 refine⟨.bool true,?_,.d (.v _ Z)⟩;unfold execOp;show Sem.run P _ w=_;have he:(Act.eval ⟨tmps,[]⟩ (Operand.const Value.nilIface))=Value.nilIface:=rfl;simp only[J,he,eqGuard,binOp];simp[Ah w hu];rfl
theorem Fp(T:cG P){l:List Value}(O:bh T.l t=some td)(U:td.k.agg=true)(M:∀v∈l,dy v=true)(I:av f x=some (.d (.v (.iface t (.agg l.toArray))))):Pu P C n ⟨f,bx,lv,gen⟩ ⟨dst,.typeAssert x i t true,ty,pos,af,none⟩ (.tup [.ag (l.map D.v),.d (.v (.bool true))]):=by
 refine aq fun G tmps w hs=>?_;have J:=hs.av I;generalize X:Act.eval ⟨tmps,[]⟩ x=v at J
 cases J with
 |d J=>
 have hok:dy (.iface t (.agg l.toArray))=true:=by cases J with|v _ h=>exact h
 have J:=yv J;subst J;obtain⟨u,hu,ad⟩:∃u,P.underlying t=some u∧(match u with|.interface _=>false|_=>true)=true:=by
  have:=T.isAgg O w;unfold isAgg at this
  cases hu:P.underlying t with
  |none=>simp[underlying,hu]at this
  |some u=>refine⟨u,rfl,?_⟩;cases u<;>first|rfl|(simp[underlying,hu,U]at this)
 refine⟨.tuple #[.agg l.toArray,.bool true],?_,?_⟩
 ·unfold execOp
  simp only[X,Instr.typeAssert,Sem.run_bind,run_underlying hu,Result.andThen_ok,Sem.run_pure];cases u<;>simp_all
 ·refine .tup _ _ Z fun k u x hu I=>?_
  match k with
  |0=>
    simp at hu I;subst hu;subst I;refine .ag _ _ (by simp) fun k u x hu I=>?_;simp only[τ,ν]at I;obtain⟨y,N,rfl⟩:=I;have hu:l[k]?=some u:=by simpa using hu
    rw[hu]at N;cases N;exact .v _ (M u (ζ hu))
  |1=>simp at hu I;subst hu;subst I;exact .d (.v _ rfl)
  |k+2=>simp at hu
end
/-! ### the end of a function whose results are cells -/
theorem GU(T:cG P){n r l}(hs:bq C n st G tmps w)(J:C.bx=[])(I:fn.results=(rs.map RV.var).toArray)(hl:lP T st.f st.bx rs=some l)(M:norm [] (bM l)=r):
 ∃v,(results fn tmps).run P w=.ok v w∧∃v1 N,Ending.returned v=.returned v1∧bq C 0 ⟨[],[],List.range 0,0⟩ N #[] w∧bK (bu C N 0 w) v1 r:=by
 obtain⟨vs,O,U,X⟩:=kW T hs rs l hl;refine⟨_,iq I O,_,⟨fun _=>none,fun _=>none⟩,rfl,?_,?_⟩
 ·exact{size:=rfl,frame:=fun t a ha=>by simp[look]at ha,box:=fun g cells hc=>by simp[bh]at hc,gbox:=fun g b hb=>by simp at hb,inj:=fun g g' b hb=>by simp at hb,
          live:=fun g hg=>by simp at hg,gown:=fun g r I=>by simp at I,row:=fun g b len cap sz ad I=>by simp at I,mrow:=fun g b bs I=>by simp at I,sub:=fun g b bs c lim I=>by simp at I,gcell:=fun g b hb=>by simp at hb,xold:=hs.xold,kold:=hs.kold,lent:=fun i b hb=>by rw[J]at hb;simp at hb,fr:=hs.fr}
 ·rw[<-M]
  refine aA (order:=[]) (E:=bu C G st.gen w) (E2:=bu C ⟨fun _=>none,fun _=>none⟩ 0 w) (fun b o u hu hn=>⟨hu,fun hp=>hn ?_⟩) (fun g r' hg ai=>?_) (by simp[bu]) (l7 U X)
  ·rcases(hp:cf C ⟨fun _=>none,fun _=>none⟩ b o)with hp|⟨g,hp⟩|⟨g,len,cap,sz,ad,hp,hle⟩|⟨g,b',bs,lim,hp,_⟩
   ·exact Or.inl hp
   ·cases hp
   ·cases hp
   ·cases hp
  ·cases ai
theorem rP.G9{n B}{y:Code}{bx pos af M}(N:av f x=some (.clo fid [.ptr 0 0,.ptr 1 0,.ptr 2 0]))(h:∀I b1 J tmps w G,bq C n ⟨f,bx,lv,gen⟩ G tmps w->G.box 0=some I->G.box 1=some b1->G.box 2=some J->y.wp P B ⟨tmps,tK fid I b1 J::C.ds⟩ w):rP P C n ops (Exit.then (y.wp P B) B) [⟨none,.defer ⟨.value x,#[],M⟩,ty,pos,af,none⟩] ⟨f,bx,lv,gen⟩:=
 aS (st:=⟨f,bx,lv,gen⟩) rfl rfl rfl N fun I b1 J tmps w G hs O U X=>h I b1 J tmps w G hs O U X
theorem vn(T:cG P){n}{M:St}{G2 O I w2 N aj a1 b0 b1 b2 r l U s1 s2 bx'}(ai:C.bx=[])(X:bq {C with bx:=[b0,b1,b2],ds:=aj} n M G2 I w2)(k0:look M.f U=some (.ptr 0 0))(k1:look M.f s1=some (.ptr 1 0))(k2:look M.f s2=some (.ptr 2 0))(ad:bq {C with bx:=[b0,b1,b2],ds:=a1} 0 ⟨[],bx',[],gen'⟩ O #[] N)(hr:fn.results=(rs.map RV.var).toArray)(hl:lP T [(U,.ptr 0 0),(s1,.ptr 1 0),(s2,.ptr 2 0)] bx' rs=some l)(a6:norm [] (bM l)=r):
 ∃v,(results fn I).run P N=.ok v N∧∃v1 O,Ending.returned v=.returned v1∧bq C 0 ⟨[],[],List.range 0,0⟩ O #[] N∧bK (bu C O 0 N) v1 r:=by
 have key:∀(i b s:Nat),[b0,b1,b2][i]?=some b->look M.f s=some (.ptr i 0)->∃v,I[s]?=some v∧bK (bu C O gen' N) v (.ptr i 0):=by
  intro i b s hb hk;obtain⟨v,hv,hr⟩:=X.frame s _ hk;refine⟨v,hv,?_⟩
  cases hr with
  |ptr _ _ _ b' _ h1 h2=>
    have e:b'=b:=by have h3:=X.lent i b hb;have h1:G2.box i=some b':=h1;grind
    subst e;have h4:=ad.lent i b' hb;exact .ptr _ _ _ b' (ad.gbox i b' h4).1 h4 h2
 have a7:bq C n ⟨[(U,.ptr 0 0),(s1,.ptr 1 0),(s2,.ptr 2 0)],bx',[],gen'⟩ O I N:=by
  have h5:=ad.ze (bs:=C.bx) (ds:=C.ds) (fun i b hb=>by rw[ai]at hb;simp at hb);exact{h5 with
   size:=X.size
   frame:=fun t a J=>by
    have J:look [(U,A.ptr 0 0),(s1,A.ptr 1 0),(s2,A.ptr 2 0)] t=some a:=J;rw[ct,ct,ct]at J;split at J
    ·rename_i e
     cases J;exact e▸key 0 b0 U rfl k0
    ·split at J
     ·rename_i e
      cases J;exact e▸key 1 b1 s1 rfl k1
     ·split at J
      ·rename_i e
       cases J;exact e▸key 2 b2 s2 rfl k2
      ·simp[look]at J}
 exact GU T a7 ai hr hl a6
theorem bm.KK[dw P]{f c n r}(O:P.funcs[f]?=some fn)(M:(fn.name== "runtime.NumGoroutine")=false)(hb:fn.body=some c)(X:fn.ntmps=n)(hlen:Nat.ble args.length n=true)(h:∀C,NB C 0->GC P C->C.bx=[]->C.ds=[]->
  W' P C n c (bodyPostD P fn fun e w'=>∃v U,e=.returned v∧bq C 0 ⟨[],[],List.range 0,0⟩ U #[] w'∧bK (bu C U 0 w') v r) ⟨iX 0 args,[],[],0⟩):bm P f args r 0:=by
 have hlen:=κ hlen;refine⟨⟨fn,O,M,by rw[hb];rfl⟩,fun C I w hG hw hp hx ad N=>?_⟩;subst hw;refine calls_of_wp_defers O hb (ru hp.2.2.2 (h C ⟨by rw[hp.2.2.1];rfl⟩ hG hp.2.2.1 hp.2.2.2 (I++Array.replicate (fn.ntmps-I.size) undef) C.w0 ⟨G0,?_⟩))
 refine{size:=by simp[X];omega,frame:=fun t a ha=>?_,box:=fun g cells hc=>by simp[bh]at hc,gbox:=fun g b hb=>by simp[G0]at hb,inj:=fun g g' b hb=>by simp[G0]at hb,
          live:=fun g hg=>by simp at hg,gown:=fun g r J=>by simp[G0]at J,row:=fun g b len cap sz ai J=>by simp[G0]at J,mrow:=fun g b bs J=>by simp[G0]at J,sub:=fun g b bs c lim J=>by simp[G0]at J,gcell:=fun g b hb=>by simp[G0]at hb,xold:=fun b o hb=>⟨hx b o hb,hp.1 b⟩,kold:=fun b o hb=>absurd hb (hp.2.1 b o),lent:=fun i b hb=>by rw[hp.2.2.1]at hb;simp at hb,
          fr:=⟨rfl,rfl,rfl,χ _,fun _ _ _=>rfl,fun _ _ _ hb=>absurd hb (hp.2.1 _ _),eZ.refl _⟩}
 obtain⟨_,h1⟩:=gX args 0 t a ha;have h2:t<args.length:=(δ.1 (by simpa using h1)).1;have h3:t<I.size:=by omega
 have h4:I[t]?=some I[t]:=by simp[h3]
 exact⟨I[t],by rw[Array.getElem?_append_left h3];exact h4,N t _ a h4 (by simpa using h1)⟩
/-! ### a deferred closure that asks for the panic's value -/
section
variable{Q:Exit→Act→List Frame→World→Prop}{rest:List Nat}{a:Act}{cs:List Frame}
theorem rZ{I:Array Value}{ds}(N:ops[i]?=some o)(O:o.guard=none)(M:o.op=.call ⟨.builtin .recover,#[],#[]⟩)(hd:o.dst=some d)(h:match recoverD cs with|some (v,cs')=>wpOpsS P ops Q rest ⟨I.setIfInBounds d v,ds⟩ cs' w|none=>wpOpsS P ops Q rest ⟨I.setIfInBounds d .nilIface,ds⟩ cs w):wpOpsS P ops Q (i::rest) ⟨I,ds⟩ cs w:=by
 simp only[wpOpsS,N,Region.wanted,O,if_true];have J:(execOp (Act.eval ⟨I,ds⟩) o).run P w=.ok .recover w:=by unfold execOp;rw[M];simp[resolve,invoke,builtin,Sem.run_bind,Sem.run_pure]
 rw[J,hd];exact h
theorem xy{I:Array Value}{ds v}(M:ops[i]?=some o)(N:o.guard=none)(O:o.op=.assign (.tmp d0))(hd:o.dst=some d)(U:I[d0]?=some v)(h:wpOpsS P ops Q rest ⟨I.setIfInBounds d v,ds⟩ cs w):wpOpsS P ops Q (i::rest) ⟨I,ds⟩ cs w:=by
 simp only[wpOpsS,M,Region.wanted,N,if_true];have he:Act.eval ⟨I,ds⟩ (.tmp d0)=v:=by show I.getD d0 undef=v;simp_all
 have J:(execOp (Act.eval ⟨I,ds⟩) o).run P w=.ok (.value v) w:=by unfold execOp;simp_all
 rw[J];show Oper.upon P o ⟨I,ds⟩ (fun a' w'=>wpOpsS P ops Q rest a' cs w') (fun e a' w'=>Q e a' cs w') (.ok (.value v) w);rw[Oper.upon_value,hd];exact h
theorem An(h:Q .normal a cs w):wpOpsS P ops Q [] a cs w:=h
end
end
def x7:Obj->Bool
 |.cells ..=>true
 |.map ..=>true
 |_=>false
theorem CA{o u}(h:cellAt w b o=some u):∃cs T f,w.heap[b]?=some (.cells cs T f)∧cs[o]?=some u:=by unfold cellAt World.cell? at h;grind
section
variable{n:Nat}
theorem bq.agree(h:bq C n st G tmps w)(e1:w'.os=w.os)(e2:w'.tape=w.tape)(e3:w'.output=w.output)(ad:w.heap.size<=w'.heap.size)(J:∀(b:Nat)(o:Obj),w.heap[b]?=some o->x7 o=true->w'.heap[b]?=some o)(hold:∀b,b<C.w0.heap.size->¬C.fp b->w'.heap[b]?=w.heap[b]?):bq C n st G tmps w':=by
 have M:∀{b o:Nat}{u:Value},Ab.cellAt w b o=some u->Ab.cellAt w' b o=some u:=fun{b o u} hu=>by obtain⟨cs,T,f,h1,h2⟩:=CA hu;rw[cP (J b _ h1 Z)];exact h2
 have N:eZ w w':=fun b cs T f h=>⟨cs,f,J b _ h rfl⟩;have U:Fr C w':=⟨e1.trans h.fr.os,e2.trans h.fr.tape,e3.trans h.fr.output,Y' h.fr.size ad,fun b h1 h2=>(hold b h1 h2).trans (h.fr.block b h1 h2),fun b o u ai hu=>M (h.fr.cells b o u ai hu),h.fr.ty.trans N⟩;have hle:(bu C G st.gen w).le (bu C G st.gen w'):=l5 h.fr U (fun b o u hu hn=>⟨M hu,hn⟩) (fun _ _ h=>h) (fun _ _ _ h=>h) (χ _) (fun g b len cap sz O _ I=>by
  obtain⟨_,_,_,cur,T,h3,_⟩:=h.row g b len cap sz O I;rw[h3];exact J b _ h3 rfl) (fun g b bs _ I=>⟨fun c X=>by
   subst X;obtain⟨_,_,_,me,clock,h3⟩:=h.mrow g c bs I;rw[h3];exact J c _ h3 rfl,fun p hp=>by
   obtain⟨_,_,_,_,cur,T,h3,_⟩:=h.sub g b bs p.1 p.2 I hp;rw[h3];exact J p.1 _ h3 rfl⟩) N
 refine{size:=h.size,frame:=h.fz hle,inj:=h.inj,live:=h.live,gown:=h.gown,xold:=h.xold,kold:=h.kold,lent:=h.lent,fr:=U,gcell:=fun g b hb=>ny N (h.gcell g b hb),box:=?_,gbox:=?_,row:=?_,mrow:=?_,sub:=?_}
 ·intro g cells X
  obtain⟨b,cs,T,h1,h2,h3,h4,h5⟩:=h.box g cells X;exact⟨b,cs,T,h1,J b _ h2 rfl,h3,h4,fun i u a hu ha=>(h5 i u a hu ha).mono hle⟩
 ·intro g b hb
  obtain⟨h1,h2,h3⟩:=h.gbox g b hb;grind
 ·intro g b len cap sz O I
  obtain⟨h1,h2,h3,cur,T,h4,h5⟩:=h.row g b len cap sz O I;exact⟨h1,h2,h3,cur,T,J b _ h4 rfl,h5⟩
 ·intro g b bs I
  obtain⟨h1,h2,h3,me,clock,h4⟩:=h.mrow g b bs I;exact⟨h1,h2,h3,me,clock,J b _ h4 rfl⟩
 ·intro g b bs c lim I hm
  obtain⟨h1,h2,h3,h4,cur,T,h5,h6⟩:=h.sub g b bs c lim I hm;exact⟨h1,h2,h3,h4,cur,T,J c _ h5 rfl,h6⟩
/-! ### the walk begun anew in the world that is -/
def wo(G:Gh)(b:Nat):Prop:=(∃g,G.box g=some b)∨∃g r lim,G.own g=some r∧r.qF b lim
def tW(C:Ctx)(G:Gh)(w:World)(ds:List Deferred):Ctx:={w0:=w,fp:=wo G,x:=C.x,keep:=C.keep,bx:=[],ds:=ds}
theorem bq.j9(h:bq C n st G tmps w)(J:wo G b):C.w0.heap.size<=b∨C.fp b:=by
 rcases J with⟨g,I⟩|⟨g,r,lim,I,M⟩
 ·exact(h.gbox g b I).2.2.1
 ·exact(h.rowAt I M).1.1
theorem bq.Jy(h:bq C n st G tmps w)(ds):bq (tW C G w ds) n st G tmps w:=by
 have O:Fr (tW C G w ds) w:=⟨rfl,rfl,rfl,χ _,fun _ _ _=>rfl,fun _ _ _ _ h=>h,.refl w⟩;have hle:(bu C G st.gen w).le (bu (tW C G w ds) G st.gen w):=⟨fun b o u hu X=>⟨hu,X⟩,fun b o u hu U=>⟨hu,ea hu,fun J=>(h.j9 J).elim (fun h1=>by have:=U.1;omega) U.2⟩,fun _ _ h=>h,fun _ _ _ h=>h,χ _,fun _ _ _ _ _ _ _ _=>rfl,fun _ _ _ _ _=>⟨fun _ _=>rfl,fun _ _=>rfl⟩,eZ.refl _⟩;refine{size:=h.size,frame:=fun t a N=>?_,inj:=h.inj,live:=h.live,gown:=h.gown,xold:=?_,kold:=?_,lent:=fun i b hb=>(by simp[tW]at hb),fr:=O,gcell:=h.gcell,box:=?_,gbox:=?_,row:=?_,mrow:=?_,sub:=?_}
 ·obtain⟨v,h1,h2⟩:=h.frame t a N
  exact⟨v,h1,h2.mono hle⟩
 ·intro g cells J
  obtain⟨b,cs,T,h1,h2,h3,h4,h5⟩:=h.box g cells J;exact⟨b,cs,T,h1,h2,h3,h4,fun i u a hu N=>(h5 i u a hu N).mono hle⟩
 ·intro g b hb
  obtain⟨h1,h2,h3⟩:=h.gbox g b hb;exact⟨h1,h2,.inr (.inl ⟨g,hb⟩),h3.2⟩
 ·intro g b len cap sz M I
  obtain⟨h1,h2⟩:=h.row g b len cap sz M I;exact⟨⟨.inr (.inr ⟨g,_,M,I,rfl,rfl⟩),h1.2⟩,h2⟩
 ·intro g b bs I
  obtain⟨h1,h2⟩:=h.mrow g b bs I;exact⟨⟨.inr (.inr ⟨g,_,0,I,Or.inl ⟨rfl,rfl⟩⟩),h1.2⟩,h2⟩
 ·intro g b bs c lim I hm
  obtain⟨h1,h2⟩:=h.sub g b bs c lim I hm;exact⟨⟨.inr (.inr ⟨g,_,lim,I,Or.inr hm⟩),h1.2⟩,h2⟩
 ·intro b o hx
  obtain⟨h1,h2⟩:=h.xold b o hx;exact⟨ρ h1 h.fr.size,fun J=>(h.j9 J).elim (fun h3=>by omega) h2⟩
 ·intro b o hk
  exact ρ (h.kold b o hk) h.fr.size
theorem bq.GG[dw P][hC:GC P C](h:bq C n st G tmps w)(ds):GC P (tW C G w ds):=by
 obtain⟨W,h1,h2,h3⟩:=hC.h;refine⟨W,h1,Y' h2 h.fr.size,fun b hb=>⟨(h.fr.block b (ρ hb h2) (h3 b hb).2).trans (h3 b hb).1,fun I=>?_⟩⟩;rcases h.j9 I with h4|h4
 ·omega
 ·grind
mutual
def mv:A->Bool
 |.row _=>false
 |.agg l=>mQ l
 |.tup l=>mQ l
 |.clo _ l=>mQ l
 |.bnd _ l=>mQ l
 |_=>true
def mQ:List A->Bool
 |[]=>true
 |a::l=>mv a&&mQ l
end
theorem kt:∀{l:List A},mQ l=true->∀a∈l,mv a=true
 |[],_,_,h=>by cases h
 |b::l,h,a,I=>by
   simp only[mQ,μ]at h
   cases I with
   |head=>exact h.1
   |tail _ I=>exact kt h.2 a I
def oM(st:St):Bool:=st.f.all (fun x=>mv x.2)&&st.bx.all (fun x=>mQ x.2)
theorem bK.I2(hw:E.w=E'.w)(hp:E.pv=E'.pv)(ad:E.box=E'.box)(X:E.own=E'.own)(ai:E.gen=E'.gen){v}(h:bK E v a)(O:mv a=true):bK E' v a:=by
 obtain⟨w',b5,aj,b2,b3,gen'⟩:=E';obtain⟨w0,a7,b4,a1,a6,gen0⟩:=E;simp only at hw hp ad X ai;subst hw;subst hp;subst ad;subst X;subst ai
 induction h with
 |any x=>exact .any x
 |d hd=>exact .d hd
 |ag vs l hs hd=>exact .ag vs l hs hd
 |own x g es hd M U=>exact .own x g es hd M U
 |agg vs l hs hone _ N=>exact .agg vs l hs hone (fun i u x hu J=>N i u x hu J (kt (by simpa[mv]using O) x (ζ J)))
 |tup vs l hs _ N=>exact .tup vs l hs (fun i u x hu J=>N i u x hu J (kt (by simpa[mv]using O) x (ζ J)))
 |rowd b off l u hc hd=>exact .rowd b off l u hc hd
 |row b off l u hc _ _=>simp[mv]at O
 |ptr x g off b M hb hp=>exact .ptr x g off b M hb hp
 |xs x g es M h1 J=>exact .xs x g es M h1 J
 |xp x g i off l M h1 J=>exact .xp x g i off l M h1 J
 |mp x g es M h1 J=>exact .mp x g es M h1 J
 |mq x g es M h1 J=>exact .mq x g es M h1 J
 |mo x g es hole ob M h1 J=>exact .mo x g es hole ob M h1 J
 |ni t x=>exact .ni t x
 |fl x es hd hc=>exact .fl x es hd hc
 |bf x g T s M h1 J=>exact .bf x g T s M h1 J
 |np x g T b M hb hT u J=>exact .np (E:=⟨w0,a7,aj,a1,a6,gen0⟩) x g T b M hb hT u J
 |sb x g n c b M hb hn J=>exact .sb x g n c b M hb hn J
 |fx x u g es ou J M hu X=>exact .fx x u g es ou J M hu X
 |ol x u g' E' g es J a8 b0 M hu=>exact .ol x u g' E' g es J a8 b0 M hu
 |ow x v g es hd M U=>exact .ow x v g es hd M U
 |gi x g I M U=>exact .gi x g I M U
 |lk x g n c b v M hb hn J=>exact .lk x g n c b v M hb hn J
 |clo f vs l hs _ N=>exact .clo f vs l hs (fun i u x hu J=>N i u x hu J (kt (by simpa[mv]using O) x (ζ J)))
 |bnd f vs l hs _ N=>exact .bnd f vs l hs (fun i u x hu J=>N i u x hu J (kt (by simpa[mv]using O) x (ζ J)))
theorem xd(h:look f t=some a):(t,a)∈f:=by
 induction f with
 |nil=>simp[look]at h
 |cons x r I=>grind[ct,List.mem_cons_self,List.mem_cons_of_mem]
theorem bq.I0(h:bq C n st G tmps w)(ad:C.bx=[]){ds O N}(I:bq (tW C G w ds) n st' O N w')(U:oM st'=true):bq C n st' O N w':=by
 simp only[oM,μ,I']at U;have hm:∀{b lim},(tW C G w ds).jF b lim->C.jF b lim:=fun{b lim} hm=>⟨hm.1.elim (fun h1=>.inl (Y' h.fr.size h1)) h.j9,hm.2⟩;have X:∀{v a},bK (bu (tW C G w ds) O st'.gen w') v a->mv a=true->bK (bu C O st'.gen w') v a:=fun J M=>bK.I2 (E:=bu (tW C G w ds) O st'.gen w') (E':=bu C O st'.gen w') rfl rfl rfl rfl rfl J M;refine{size:=I.size,frame:=fun t a M=>?_,inj:=I.inj,live:=I.live,gown:=I.gown,xold:=h.xold,kold:=h.kold,lent:=fun i b hb=>(by rw[ad]at hb;simp at hb),gcell:=I.gcell,fr:=?_,box:=?_,gbox:=?_,row:=?_,mrow:=?_,sub:=?_}
 ·obtain⟨v,h1,h2⟩:=I.frame t a M
  exact⟨v,h1,X h2 (U.1 _ (xd M))⟩
 ·intro g cells hc
  obtain⟨b,cs,T,h1,h2,h3,h4,h5⟩:=I.box g cells hc;exact⟨b,cs,T,h1,h2,h3,h4,fun i u a hu M=>X (h5 i u a hu M) (kt (U.2 _ (ss hc)) a (ζ M))⟩
 ·intro g b hb
  obtain⟨h1,h2,h3⟩:=I.gbox g b hb;grind
 ·intro g b len cap sz ai J
  obtain⟨h1,h2⟩:=I.row g b len cap sz ai J;grind
 ·intro g b bs J
  obtain⟨h1,h2⟩:=I.mrow g b bs J;grind
 ·intro g b bs c lim J aj
  obtain⟨h1,h2⟩:=I.sub g b bs c lim J aj;grind
 ·refine⟨I.fr.os.trans h.fr.os,I.fr.tape.trans h.fr.tape,I.fr.output.trans h.fr.output,Y' h.fr.size I.fr.size,fun b h1 h2=>?_,fun b o u hk hu=>I.fr.cells b o u hk (h.fr.cells b o u hk hu),h.fr.ty.trans I.fr.ty⟩
  exact(I.fr.block b (ρ h1 h.fr.size) (fun hc=>(h.j9 hc).elim (fun h3=>by omega) h2)).trans (h.fr.block b h1 h2)
end
/-! ### walks over which marks may stand on the deferred calls -/
abbrev Aw(D:Nat):Deferred:=⟨.collected D,#[]⟩
def wR(J:Nat)(ds:List Deferred)(w:World):Prop:=∃I:List Nat,ds=I.map Aw∧I.Nodup∧∀D∈I,J<=D∧w.heap[D]?=some (Obj.deferred (some []))
def Hl(C:Ctx)(n:Nat)(Q:Exit->St->Prop):Exit->Act->World->Prop:=fun e a w=>wR C.w0.heap.size a.defers w∧∃st,fv C n st a.tmps w∧Q e st
def Wd(P:Program)(C:Ctx)(n:Nat)(c:Code)(Q:Exit->St->Prop)(st:St):Prop:=∀tmps ds w,fv C n st tmps w->wR C.w0.heap.size ds w->c.wp P (Hl C n Q) ⟨tmps,ds⟩ w
def yC(P:Program)(C:Ctx)(n:Nat)(y:Code)(Q:Exit->St->Prop):Exit->St->Prop
 |.normal,s=>Wd P C n y Q s
 |e,s=>Q e s
def QN(Q:Exit->St->Prop):Exit->St->Prop:=fun e s=>oM s=true∧Q e s
def Hx{ι:Type}(C:Ctx)(n:Nat)(S:ι->St)(I:ι->Nat)(m:Nat)(Q:Exit->St->Prop):Exit->St->Prop
 |.normal,s=>∃j,I j<m∧∀(tmps:Array Value)(w:World),fv C n s tmps w->fv C n (S j) tmps w
 |e,s=>Q e s
section
variable[dw P]{n:Nat}
theorem wR.kept{I ds}(h:wR I ds w)(M:∀D:Nat,w.heap[D]?=some (Obj.deferred (some []))->w'.heap[D]?=some (Obj.deferred (some []))):wR I ds w':=
 let⟨Ds,h1,h2,h3⟩:=h;⟨Ds,h1,h2,fun D J=>⟨(h3 D J).1,M D (h3 D J).2⟩⟩
theorem bq.DS(h:bq C n st G tmps w){D}{o:Obj}(J:w.heap[D]?=some o)(M:x7 o=false):¬wo G D:=by
 rintro(⟨g,I⟩|⟨g,r,lim,I,N⟩)
 ·obtain⟨cs,T,f,h2⟩:=h.gcell g D I
  rw[J]at h2;cases h2;cases M
 ·cases r with
  |nil=>exact N.elim
  |zero _=>exact N.elim
  |blk b len cap sz O=>obtain⟨rfl,rfl⟩:=N;obtain⟨_,_,_,cur,T,h4,_⟩:=h.row g b len cap sz lim I;rw[J]at h4;cases h4;cases M
  |mp b bs=>
    rcases N with⟨rfl,rfl⟩|hm
    ·obtain⟨_,_,_,U,clock,h4⟩:=h.mrow g _ bs I
     rw[J]at h4;cases h4;cases M
    ·obtain⟨_,_,_,_,cur,T,h4,_⟩:=h.sub g b bs D lim I hm
     rw[J]at h4;cases h4;cases M
end
section
variable[dw P]{n:Nat}{c:Code}
theorem Wd.Jk[GC P C](N:C.bx=[])(h:∀J,NB J 0->GC P J->W P J n c (QN Q) st):Wd P C n c Q st:=by intro tmps ds w ⟨G,hs⟩ O;refine wp_mono (h (tW C G w ds) ⟨rfl⟩ (hs.GG ds) tmps w ⟨G,hs.Jy ds⟩) ?_;rintro e ⟨t,d⟩ w' ⟨hd,st',⟨X,I⟩,U,hq⟩;have hd:d=ds:=hd;subst hd;refine⟨O.kept fun D M=>?_,st',⟨X,hs.I0 N I U⟩,hq⟩;exact(I.fr.block D (θ.1 M).1 (hs.DS M rfl)).trans M
omit [dw P] in
theorem aH{x y}(h:Wd P C n x (yC P C n y Q) st):Wd P C n (.seq x y) Q st:=by
 intro tmps ds w hs M;refine wp_seq (wp_mono (h tmps ds w hs M) ?_);rintro e ⟨t,d⟩ w' ⟨hd,st',I,J⟩;cases e<;>simp only[yC]at J<;>simp only[Exit.then];·exact J t d w' I hd
 all_goals exact⟨hd,st',I,J⟩
theorem Wd.jS[GC P C](J:C.bx=[]){x y}(h:∀I,NB I 0->GC P I->W P I n x (QN (yC P C n y Q)) st):Wd P C n (.seq x y) Q st:=aH (Wd.Jk J h)
omit [dw P] in
theorem Wd.block(h:Wd P C n c (QB id Q) st):Wd P C n (.block id c) Q st:=by
 intro tmps ds w hs M;refine wp_block (wp_mono (h tmps ds w hs M) ?_);rintro e ⟨t,d⟩ w' ⟨hd,st',J,I⟩;cases e<;>simp only[QB]at I<;>simp only[Exit.inBlock];case exit i=>
  split;·rename_i e;rw[if_pos e]at I;exact⟨hd,st',J,I⟩
  ·rename_i e;rw[if_neg e]at I;exact⟨hd,st',J,I⟩
 all_goals exact⟨hd,st',J,I⟩
omit [dw P] in
theorem Wd.conv(hle:∀(tmps:Array Value)(w:World),fv C n st tmps w->fv C n st' tmps w)(h:Wd P C n c Q st'):Wd P C n c Q st:=
 fun tmps ds w hs I=>h tmps ds w (hle tmps w hs) I
omit [dw P] in
theorem Wd.loop(S:ι->St)(X:ι->Nat)(hr:∀i,Wd P C n c (Hx C n S X (X i) Q) (S i))(i:ι):Wd P C n (.loop c) Q (S i):=by
 intro tmps ds w hs U b k cs
 have key:∀(m:Nat)(i:ι)(tmps:Array Value)(ds:List Deferred)(w:World),X i=m->fv C n (S i) tmps w->wR C.w0.heap.size ds w->
  ∃e a' w',Hl C n Q e a' w'∧Arrives P (lone (b.at ⟨tmps,ds⟩ (.code c::.inLoop c::k)) cs w) b k cs e a' w':=by
  intro m
  induction m using Nat.strongRecOn with
  |_ m ih=>
    intro i tmps ds w hm hs U;obtain⟨e,⟨t1,d1⟩,O,⟨hd,M,J,N⟩,I⟩:=hr i tmps ds w hs U b (.inLoop c::k) cs;simp only at hd
    cases e with
    |normal=>obtain⟨j,ai,aj⟩:=N;obtain⟨e2,a2,w2,a1,ad⟩:=ih (X j) (hm▸ai) j t1 d1 O rfl (aj t1 O J) hd;exact⟨e2,a2,w2,a1,.of_steps (Steps.trans I (.one step_inLoop)) ad⟩
    |exit id=>exact⟨_,⟨t1,d1⟩,O,⟨hd,M,J,N⟩,.pass (x:=.inLoop c) rfl (fun _ _=>.inl (by simp)) I⟩
    |goto l=>exact⟨_,⟨t1,d1⟩,O,⟨hd,M,J,N⟩,.pass (x:=.inLoop c) rfl (fun _ _=>.inl (by simp)) I⟩
    |ret=>exact⟨_,⟨t1,d1⟩,O,⟨hd,M,J,N⟩,.pass (x:=.inLoop c) rfl (fun _ _=>.inl (by simp)) I⟩
    |panic ch=>exact⟨_,⟨t1,d1⟩,O,⟨hd,M,J,N⟩,.pass (x:=.inLoop c) rfl (fun _ _=>.inl (by simp)) I⟩
    |outgrown=>exact⟨_,⟨t1,d1⟩,O,⟨hd,M,J,N⟩,.pass (x:=.inLoop c) rfl (fun _ _=>.inl (by simp)) I⟩
 obtain⟨e,a',w',N,I⟩:=key _ i tmps ds w rfl hs U;exact⟨e,a',w',N,.of_steps (.one step_loop) I⟩
theorem bq.rM(h:bq C n st G tmps w){r}{o:Obj}(J:w.heap[r]?=some o)(M:x7 o=false)(N:C.w0.heap.size<=r)(o':Obj):bq C n st G tmps (w.putObj r o'):=
 h.agree rfl rfl rfl (by simp) (fun b x hb I=>by rw[World.putObj_heap_other (fun e=>by subst e;rw[J]at hb;cases hb;rw[M]at I;cases I)];exact hb) (fun b hb _=>World.putObj_heap_other (by omega))
theorem bq.drew(h:bq C n st G tmps w):bq C n st G tmps w.drew:=
 h.agree rfl rfl rfl (χ _) (fun _ _ hb _=>hb) (fun _ _ _=>rfl)
omit [dw P] in
theorem xL{R:Ending->World->Prop}:∀(I:List Nat)(w:World)(st:St)(G:Gh),bq C n st G tmps w->I.Nodup->(∀D∈I,C.w0.heap.size<=D∧w.heap[D]?=some (Obj.deferred (some [])))->
 (∀w' G,bq C n st G tmps w'->∃v,(results fn tmps).run P w'=.ok v w'∧R (.returned v) w')->LeavesInM Fence.wide m P fn tmps R (I.map Aw) .returning w
 |[],w,st,G,hs,_,_,h=>h w G hs
 |D::I,w,st,G,hs,hn,hD,h=>by obtain⟨h1,h2⟩:=hD D (by simp);rw[List.nodup_cons]at hn;refine⟨by simp,.inl ⟨D,_,rfl,run_takeDeferred h2,xL I _ st G (hs.rM h2 rfl h1 _) hn.2 (fun E J=>?_) h⟩⟩;obtain⟨h3,h4⟩:=hD E (by simp[J]);exact⟨h3,by rw[World.putObj_heap_other (fun e=>hn.1 (by rw[<-e];exact J))];exact h4⟩
theorem bm.KH(T:cG P){f c n r}(X:P.funcs[f]?=some fn)(N:(fn.name== "runtime.NumGoroutine")=false)(hb:fn.body=some c)(hn:fn.ntmps=n)(J:fn.results=(rs.map RV.var).toArray)(hlen:Nat.ble args.length n=true)(h:∀C,C.bx=[]->GC P C->Wd P C n c (fun e st=>(match e with|.normal=>True|.ret=>True|_=>False)∧∃l,lP T st.f st.bx rs=some l∧norm [] (bM l)=r) ⟨iX 0 args,[],[],0⟩):bm P f args r 0:=by
 have hlen:=κ hlen;refine⟨⟨fn,X,N,by rw[hb];rfl⟩,fun C I w hG hw hp hx a6 U=>?_⟩;subst hw;refine callsIn_wide.1 (callsIn_of_wp_marks (F:=Fence.wide) (n:=0) X hb trivial ?_ Z);refine wpIn_wide.2<|wp_mono (h C hp.2.2.1 hG (I++Array.replicate (fn.ntmps-I.size) undef) [] C.w0 ⟨G0,?_⟩ ⟨[],rfl,List.nodup_nil,fun D hD=>by cases hD⟩) ?_
 ·refine{size:=by simp[hn];omega,frame:=fun t a ha=>?_,box:=fun g cells hc=>by simp[bh]at hc,gbox:=fun g b hb=>by simp[G0]at hb,inj:=fun g g' b hb=>by simp[G0]at hb,gcell:=fun g b hb=>by simp[G0]at hb,
           live:=fun g hg=>by simp at hg,gown:=fun g r J=>by simp[G0]at J,row:=fun g b len cap sz a7 J=>by simp[G0]at J,mrow:=fun g b bs J=>by simp[G0]at J,sub:=fun g b bs c lim J=>by simp[G0]at J,xold:=fun b o hb=>⟨hx b o hb,hp.1 b⟩,kold:=fun b o hb=>absurd hb (hp.2.1 b o),lent:=fun i b hb=>by rw[hp.2.2.1]at hb;simp at hb,
           fr:=⟨rfl,rfl,rfl,χ _,fun _ _ _=>rfl,fun _ _ _ hb=>absurd hb (hp.2.1 _ _),eZ.refl _⟩}
  obtain⟨_,h1⟩:=gX args 0 t a ha;have h2:t<args.length:=(δ.1 (by simpa using h1)).1;have h3:t<I.size:=by omega
  have h4:I[t]?=some I[t]:=by simp[h3]
  exact⟨I[t],by rw[Array.getElem?_append_left h3];exact h4,U t _ a h4 (by simpa using h1)⟩
 ·rintro e ⟨tmps,df⟩ w' ⟨⟨Ds,hd,ad,ai⟩,st,⟨G,hs⟩,he,l,hl,aj⟩
  simp only at hd;subst hd
  have M:LeavesInM Fence.wide 0 P fn tmps (fun e w'=>∃v O,e=.returned v∧bq C 0 ⟨[],[],List.range 0,0⟩ O #[] w'∧bK (bu C O 0 w') v r) (Ds.map Aw) .returning w':=
   xL Ds w' st G hs ad ai fun w2 G2 a1=>by obtain⟨v,h1,v1,O,h2,h3,h4⟩:=GU T a1 hp.2.2.1 J hl aj;exact⟨v,h1,v1,O,h2,h3,h4⟩
  cases e with
  |normal=>exact M
  |ret=>exact M
  |exit _=>exact he.elim
  |goto _=>exact he.elim
  |panic _=>exact he.elim
  |outgrown=>exact he.elim
end
/-! ### a range over slices.Chunk's iterator, where there is one chunk -/
def rH(P:Program)[dw P](n:Nat)(body:Code)(V:List (Nat×A))(I:List (List A))(m:Nat)(b1:List (List A))(k:Nat):Prop:=
 ∀(C:Ctx)(G:Gh)(tmps:Array Value)(w:World)(l q:Nat),GC P C->C.w0=w->C.bx.length=I.length->C.ds=[]->bq C n ⟨V,fu 0 I,(List.range m).map (I.length+·),I.length+m⟩ G tmps w->
   body.wpIn (Fence.wide.inRound l) q P (fun e _ w'=>e=.normal∧∃J,bq C 0 ⟨[],fu 0 b1,(List.range k).map (I.length+·),I.length+k⟩ J #[] w') ⟨tmps,[]⟩ w
def wu(P:Program)(fid:FuncId):Prop:=
 ∀(l:Nat)(W:World)(I J b1 o1:Nat)(a:Addr)(len cap:Nat)(R:World->Prop),cellAt W I J=some (.slice (some a) len cap)->cellAt W b1 o1=some (.int .i64 1000)->0<len->len<=1000->len<=cap->cap<=maxLen->
   YieldAt Fence.wide 0 P l #[.slice (some a) len len] W.drew (fun e W'=>e=.returned (.bool true)∧(∃a' M,cellAt W' I J=some (.slice a' len M))∧cellAt W' b1 o1=some (.int .i64 1000)∧R W')->
   Calls P fid #[.func (.yield l) #[] #[],.pointer (some ⟨I,J,none⟩),.pointer (some ⟨b1,o1,none⟩)] W fun e W'=>(∃v,e=.returned v)∧R W'
theorem DZ{v}(h:bN w pv v (.sl es))(hp:0<es.length):∃(a:Addr)(cap:Nat),v=.slice (some a) es.length cap∧es.length<=cap∧cap<=maxLen∧bN w pv (.slice (some a) es.length es.length) (.sl es):=by
 cases h with
 |nil=>simp at hp
 |emp a cap hm=>simp at hp
 |sl b off len cap sz _ u hl I hm hs hu J=>subst hl;exact⟨_,cap,rfl,I,hm,.sl b off es.length es.length sz es u rfl (χ _) (by omega) hs hu J⟩
theorem xB{v}(h:bN w pv v (.sl es)):∃(a:Option Addr)(cap:Nat),v=.slice a es.length cap:=by
 cases h with
 |nil=>exact⟨_,_,rfl⟩
 |emp a cap hm=>exact⟨_,_,rfl⟩
 |sl b off len cap sz _ u hl I hm hs hu J=>subst hl;exact⟨_,_,rfl⟩
theorem wS{n}(hs:bq C n st G tmps w){g x}(hg:av st.f g=some (.clo fid [.rowd [.sl es],.rowd [.v x]])):
 ∃J M b1 o1,Act.eval ⟨tmps,[]⟩ g=.func (.func fid) #[] #[.pointer (some ⟨J,M,none⟩),.pointer (some ⟨b1,o1,none⟩)]∧(∃u,cellAt w J M=some u∧bN w (cf C G) u (.sl es))∧cellAt w b1 o1=some x:=by
 have N:=hs.av hg;generalize Act.eval ⟨tmps,[]⟩ g=v at N
 cases N with
 |clo _ vs _ I hcd=>
 have I:vs.size=2:=I;obtain⟨v0,v1,rfl⟩:∃v0 v1,vs=#[v0,v1]:=⟨vs[0],vs[1],by
  apply Array.ext;·simpa using I
  ·intro i h1 h2
   match i with
   |0=>rfl
   |1=>rfl
   |i+2=>simp at h2;omega⟩
 have r0:=hcd 0 v0 _ Z rfl;have r1:=hcd 1 v1 _ Z Z
 cases r0 with
 |rowd J M _ u0 O U=>
 cases r1 with
 |rowd b1 o1 _ u1 X ad=>
 refine⟨J,M,b1,o1,rfl,⟨u0 0,?_,U 0 _ rfl⟩,?_⟩
 ·have h1:=(O 0 (by simp)).1
  rw[Nat.add_zero]at h1;exact h1
 ·have h1:=(X 0 (by simp)).1
  have h2:=ad 0 _ rfl;generalize u1 0=y at h1 h2;rw[Nat.add_zero]at h1;cases h2 with|v _ _=>exact h1
section
variable[dw P][GC P C]{n:Nat}
theorem aU{g par pos af body}(hg:av st.f g=some (.clo fid [.rowd [.sl es],.rowd [.v (.int .i64 1000)]]))(hok:kB P fid)(hit:wu P fid)(df:0<es.length)(en:es.length<=1000)(di:Nat.blt par n=true)(dj:Nat.blt d n=true)(gs os:List Nat)(fo:nodupB gs=true)(fs:nodupB os=true)(ft:(os.all fun g=>st.lv.any fun h=>Nat.beq h g)=true){V:List (Nat×A)}{N:List (List A)}(hb:gF st.bx gs os gs=some N)(hm:os.length=m)(hV:∀t a',look V t=some a'->∃a,look st.f t=some a∧eI st.bx gs os 5 a=a')(gb:(V.all fun x=>!Nat.beq x.1 par)=true)(c6:rH P n body ((d,.d (.sl es))::V) N m b1 k)(gd:b1.length=N.length)(h:Q .normal ⟨st.f,jJ gs st.gen gs b1++st.bx,(List.range k).map (N.length+·+st.gen)++st.lv.filter (fun g=>!os.any (Nat.beq g)),N.length+k+st.gen⟩):
 Wd P C n (.rangeFunc g #[par] (.region id #[⟨some d,.assign (.tmp par),ty,pos,af,none⟩] false) body) Q st:=by
 subst hm;intro tmps ds w ⟨G,hs⟩ ⟨Ds,b5,gj,dt⟩;have b5:ds=Ds.map Aw:=b5;subst b5;have di:=κ di;have dj:=κ dj;obtain⟨p0,o0,p1,o1,dx,⟨u0,gm,gq⟩,ha⟩:=wS hs hg;obtain⟨a,cap,rfl,hc,hf,hh⟩:=DZ gq df;refine(wpIn_wide (n:=1)).1 (wpIn_rangeFunc ?_);intro fn _;obtain⟨rec,J⟩:∃rec:LoopState->Option Code->Loop,rec=fun s pe=>{state:=s,pending:=pe,fn,tmps:=tmps,params:=#[par],assign:=.region id #[⟨some d,.assign (.tmp par),ty,pos,af,none⟩] false,body,defers:=w.heap.size}:=⟨_,rfl⟩;obtain⟨I,aj⟩:∃I,(w.alloc (.deferred (some []))).alloc (.loop (rec .ready none))=I:=⟨_,rfl⟩;have b6:I.heap[w.heap.size+1]?=some (.loop (rec .ready none)):=by rw[<-aj];have:=World.alloc_heap_new (w.alloc (.deferred (some []))) (.loop (rec .ready none));rwa[World.size_alloc]at this
 have a1:Below w.heap.size w I:=by rw[<-aj];exact((Below.refl _ w).alloc (χ _) _).alloc (by simp) _
 have hk:I.heap[w.heap.size]?=some (.deferred (some [])):=by rw[<-aj];exact(Below.heap_alloc _ _ _ (by simp)).trans (World.alloc_heap_new w _)
 have hq:bq C n st G tmps I:=(hs.ij a1).2;have hS:w.heap.size<=I.heap.size:=a1.size;have ch:∀{b o u},cellAt w b o=some u->cellAt I b o=some u:=fun{b o u} hu=>by rw[cL (a1.block b (ea hu))];exact hu
 have hr:=hs.fr.size
 refine⟨w.heap.size+1,[{target:=.collected w.heap.size,args:=#[]}],I,{target:=.fn (.func fid) #[.pointer (some ⟨p0,o0,none⟩),.pointer (some ⟨p1,o1,none⟩)],args:=#[.func (.yield (w.heap.size+1)) #[] #[]]},I,fid,
  #[.func (.yield (w.heap.size+1)) #[] #[]]++#[.pointer (some ⟨p0,o0,none⟩),.pointer (some ⟨p1,o1,none⟩)],I,?_,?_,?_,?_,fun _=>χ _,?_⟩
 ·rw[<-aj,J];exact run_enterLoop_outer _ _ _ _ _
 ·have e1:Act.eval ⟨tmps,Ds.map Aw⟩ g=.func (.func fid) #[] #[.pointer (some ⟨p0,o0,none⟩),.pointer (some ⟨p1,o1,none⟩)]:=by rw[Act.jN tmps _ []];exact dx
  simp only[resolve,e1];simp[go_sem]
 ·intro f' _;trivial
 ·obtain⟨hU,e3,cj,cl⟩:=hok
  simp only[Sem.run_bind,Sem.run_pure,Result.andThen_ok,invoke,callFunc,run_program,e3,cj,cl,L',if_false]
 refine CallsIn.mono (callsIn_wide.2 (hit (w.heap.size+1) I p0 o0 p1 o1 a es.length cap
  (fun W'=>∃G',bq C n ⟨st.f,jJ gs st.gen gs b1++st.bx,(List.range k).map (N.length+·+st.gen)++st.lv.filter (fun g=>!os.any (Nat.beq g)),N.length+k+st.gen⟩ G' tmps W'∧
   W'.heap[w.heap.size+1]?=some (.loop (rec .ready none))∧∀D:Nat,D≠w.heap.size+1->I.heap[D]?=some (Obj.deferred (some []))->W'.heap[D]?=some (Obj.deferred (some [])))
  (ch gm) (ch ha) df en hc hf ?_)) ?_
 ·
  have ht:bq C n st G tmps I.drew:=hq.drew;have cq:I.drew.heap[w.heap.size+1]?=some (.loop (rec .ready none)):=b6;have hy:=run_yield (P:=P) (args:=#[.slice (some a) es.length es.length]) cq (by rw[J];rfl);rw[J]at hy;refine⟨fn,_,_,body,hy,roundIn_of_wpIn trivial ?_⟩;generalize a6:I.drew.putObj (w.heap.size+1) (.loop {rec .ready none with state:=.busy})=O;have ec:=run_beginRound (P:=P) cq (by rw[J]);rw[a6]at ec;have e4:w.heap.size+1<I.heap.size:=(θ.1 b6).1;have hz:O.heap[w.heap.size+1]?=some (.loop {rec .ready none with state:=.busy}):=by rw[<-a6];exact World.putObj_heap_same e4
  have a7:∀b,b≠w.heap.size+1->O.heap[b]?=I.heap[b]?:=fun b hb=>by rw[<-a6,World.putObj_heap_other hb];rfl
  have X:bq C n st G tmps O:=by rw[<-a6];exact ht.rM cq Z (by omega) _
  have e5:∀{b o u},cellAt w b o=some u->cellAt O b o=some u:=fun{b o u} hu=>by have:=ch hu;rw[cL (a7 b (fun e=>by have:=ea hu;omega))];exact this
  obtain⟨hlen,e6⟩:=X.mc (gs:=gs) (os:=os) (eX fo) (eX fs) (fun g hg=>by obtain⟨y,hy,he⟩:=F'.1 (I'.1 ft g hg);exact Γ he▸hy) hb;obtain⟨hX,hY⟩:=iO hb;have a8:tmps.size=n:=hs.size;obtain⟨tm,b2⟩:∃tm,(tmps.setIfInBounds par (.slice (some a) es.length es.length)).setIfInBounds d (.slice (some a) es.length es.length)=tm:=⟨_,rfl⟩;have c7:bq (fJ C G O gs os) n ⟨(d,.d (.sl es))::V,fu 0 N,(List.range os.length).map (N.length+·),N.length+os.length⟩ (iy G gs os) tm O:=by
   refine{e6 with size:=by rw[<-b2];simp[a8],frame:=fun t x hx=>?_};rw[ct]at hx;split at hx
   ·rename_i e
    subst e;cases hx;refine⟨.slice (some a) es.length es.length,by rw[<-b2,Array.getElem?_setIfInBounds_self_of_lt (by simp[a8];omega)],.d (hh.mono fun b o u hu hn=>⟨e5 hu,fun hp=>hn (BC hp)⟩)⟩
   ·rename_i e
    obtain⟨y,hA,rfl⟩:=hV t x hx;have U:t≠par:=fun e2=>by subst e2;have:=I'.1 gb _ (xd hx);simp at this
    obtain⟨v,hv,hE⟩:=X.frame t y hA;exact⟨v,by rw[<-b2,Array.getElem?_setIfInBounds_ne e,Array.getElem?_setIfInBounds_ne (Ne.symm U)];exact hv,bK.mc X gs os (by show _<=N.length+os.length;omega) 5 v y hE⟩
  have ff:=c6 (fJ C G O gs os) (iy G gs os) tm O (w.heap.size+1) 0 (GC.r9 X) Z hlen Z c7;have hw:∀(ops:Array Oper)(t:Array Value),Region.wanted ⟨some d,.assign (.tmp par),ty,pos,af,none⟩ (yielded ops t)=true:=fun _ _=>rfl;have hF:(tmps.setIfInBounds par (.slice (some a) es.length es.length))[par]?=some (.slice (some a) es.length es.length):=Array.getElem?_setIfInBounds_self_of_lt (by omega);have e0:(Array.foldl (fun(t:Array Value)(x:Nat×Value)=>t.setIfInBounds x.1 x.2) tmps ((#[par]:Array Nat).zip #[Value.slice (some a) es.length es.length]))=tmps.setIfInBounds par (.slice (some a) es.length es.length):=by simp
  show(Code.region _ _ _).wpIn _ _ P _ ⟨Array.foldl (fun(t:Array Value)(x:Nat×Value)=>t.setIfInBounds x.1 x.2) tmps ((#[par]:Array Nat).zip #[Value.slice (some a) es.length es.length]),[]⟩ _;rw[e0];refine wpIn_region ?_;show wpOpsIn _ _ P #[_] _ [0] _ _;simp only[wpOpsIn,List.getElem?_toArray,List.getElem?_cons_zero,hw,if_true];refine⟨fun _ _=>trivial,?_⟩;have hex:Sem.run P (Oper.semAt (Fence.wide.inRound (w.heap.size+1)).round (Act.eval ⟨tmps.setIfInBounds par (.slice (some a) es.length es.length),[]⟩) ⟨some d,.assign (.tmp par),ty,pos,af,none⟩) I.drew=.ok (.value (.slice (some a) es.length es.length)) I.drew:=by
   rw[Oper.semAt_eq _ _ _ (fun c h=>by cases h)];show Sem.run P (execOp _ _) _=_;simp only[execOp,Act.eval];have hG:(tmps.setIfInBounds par (Value.slice (some a) es.length es.length)).getD par undef=.slice (some a) es.length es.length:=by rw[Array.getD_eq_getD_getElem?,hF];rfl
   rw[hG];rfl
  rw[hex];show ∃hT,_;refine⟨O,ec,?_⟩;have hH:(Act.put ⟨tmps.setIfInBounds par (.slice (some a) es.length es.length),[]⟩ (some d) (.slice (some a) es.length es.length))=⟨tm,[]⟩:=by rw[<-b2];rfl
  show body.wpIn _ _ P _ (Act.put ⟨tmps.setIfInBounds par (.slice (some a) es.length es.length),[]⟩ (some d) (.slice (some a) es.length es.length)) O;rw[hH];refine wpIn_mono ff ?_;rintro e a3 W3 ⟨rfl,G3,b3⟩;obtain⟨G4,_,hI⟩:=X.uX hb gd b3;have b4:∀{b:Nat}{o:Obj},O.heap[b]?=some o->x7 o=false->W3.heap[b]?=some o:=fun{b o} cx ho=>by
   refine(b3.fr.block b (θ.1 cx).1 (fun hl=>X.DS cx ho ?_)).trans cx;rcases hl with⟨g',_,hJ⟩|⟨lim,g',_,r,hK,hM⟩
   ·exact .inl ⟨g',hJ⟩
   ·exact .inr ⟨g',r,lim,hK,hM⟩
  have cy:=b4 hz rfl;have hN:=run_endRound (P:=P) none cy;refine⟨_,_,hN,rfl,?_⟩;have ed:=hI.rM cy Z (by omega) (.loop {{rec .ready none with state:=LoopState.busy}with state:=if(none:Option Code).isNone then .ready else .done,pending:=none});obtain⟨q0,r0,q1,r1,ad,⟨u2,hO,hP⟩,hQ⟩:=wS ed (g:=g) (fid:=fid) (es:=es) (x:=.int .i64 1000) hg;rw[dx]at ad;simp only[Value.func.injEq,true_and]at ad;have c1:=congrArg Array.toList ad;simp only[List.cons.injEq,Value.pointer.injEq,Option.some.injEq,Addr.mk.injEq,and_true]at c1;obtain⟨⟨rfl,rfl⟩,rfl,rfl⟩:=c1;obtain⟨a2,fj,rfl⟩:=xB hP;refine⟨⟨a2,fj,hO⟩,hQ,G4,ed,?_,fun D U M=>?_⟩
  ·rw[J]
   exact World.putObj_heap_same (θ.1 cy).1
  ·rw[World.putObj_heap_other U]
   exact b4 (by rw[a7 D U];exact M) Z
 ·rintro e W3 ⟨⟨v,rfl⟩,G',b3,ei,hR⟩
  have ej:=run_endLoop (P:=P) ei (by rw[J];simp);rw[J]at ej;refine⟨none,_,ej,?_⟩;have U:∀D,I.heap[D]?=some (Obj.deferred (some []))->D≠w.heap.size+1:=fun D M e=>by rw[e,b6]at M;cases M
  have ai:∀D:Nat,I.heap[D]?=some (Obj.deferred (some []))->(W3.putObj (w.heap.size+1) (.loop {rec .ready none with state:=.exhausted})).heap[D]?=some (Obj.deferred (some [])):=fun D M=>by rw[World.putObj_heap_other (U D M)];exact hR D (U D M) M
  rw[J]at ai;refine⟨⟨w.heap.size::Ds,rfl,?_,fun D M=>?_⟩,_,⟨G',b3.rM ei rfl (by omega) _⟩,h⟩
  ·rw[List.nodup_cons]
   refine⟨fun hm=>?_,gj⟩;have:=(θ.1 (dt _ hm).2).1;omega
  ·rcases N'.1 M with rfl|M
   ·exact⟨hr,ai _ hk⟩
   ·obtain⟨h1,h2⟩:=dt D M
    exact⟨h1,ai D (by rw[a1.block D (θ.1 h2).1];exact h2)⟩
end
def pZ(o:Oper):Bool:=match o.op with|.defer _=>false|_=>true
section
variable{n:Nat}
theorem zu{q row args}(h:Rows P row args w R):RowsIn Fence.wide q P row args w R:=
 fun c cs _=>let⟨v,w',r,s⟩:=h c cs;⟨v,w',r,stepsIn_wide.2 s⟩
theorem CB{a next next' Q}(h:o.wp P a w next Q)(I:∀a w,next a w->next' a w)(J:∀e a w,Q e a w->Q' e a w):o.wp P a w next' Q':=by
 unfold Oper.wp at h⊢;generalize(execOp a.eval o).run P w=res at h⊢
 cases res with
 |ok x w'=>
   cases x<;>simp only[Oper.upon]at h⊢;case value v=>exact I _ _ h
   case skip=>exact I _ _ h
   case defer d=>exact I _ _ h
   case enter f args=>
    refine h.mono fun e M he=>?_
    cases e with
    |returned v=>exact I _ _ he
    |panicked c=>exact J _ _ _ he
    |outgrown=>exact let⟨a,w,h⟩:=he;⟨a,w,J _ _ _ h⟩
   case row row args=>exact h.mono fun v M he=>I _ _ he
 |halt x w'=>cases x<;>simp only[Oper.upon]at h⊢;grind
theorem qz{Q}(I:∀e a w,Q e a w->Q' e a w):∀(l:List Oper)(a:Act)(w:World),fO P ops Q l a w->fO P ops Q' l a w
 |[],_,_,h=>I _ _ _ h
 |o::l,a,w,h=>by
   simp only[fO]at h⊢;split
   ·rename_i hw
    rw[if_pos hw]at h;exact CB h (fun a w=>qz I l a w) I
   ·rename_i hw
    rw[if_neg hw]at h;exact qz I l _ _ h
theorem HZ{r q a next next' Q}(M:pZ o=true)(h:o.wp P a w next Q)(I:∀a w,next a w->next' a w):o.wpIn (Fence.wide.inRound r) q P a w next' Q:=by
 refine⟨fun _ _=>trivial,?_⟩;rw[Oper.semAt_eq _ _ _ (fun c O=>by simp[pZ,O]at M)];unfold Oper.wp at h;generalize(execOp a.eval o).run P w=res at h⊢
 cases res with
 |ok x w'=>
   cases x<;>simp only[Oper.upon]at h<;>simp only[Oper.uponIn];case value v=>exact I _ _ h
   case skip=>exact I _ _ h
   case defer d=>exact I _ _ h
   case enter f args=>refine⟨fun J=>(by cases J),CallsIn.inRound r ((callsIn_wide.2 h).mono fun e N he=>?_)⟩;grind
   case row row args=>exact⟨fun J=>(by cases J),(zu (h.mono fun v N he=>I _ _ he):RowsIn Fence.wide (q-1) P row args w' _)⟩
 |halt x w'=>cases x<;>simp only[Oper.upon]at h<;>simp only[Oper.uponIn];grind
theorem yX{r q Q}:∀(l:List Oper)(k:Nat),(∀j:Nat,l[j]?=ops[k+j]?)->(l.all pZ=true)->∀(a:Act)(w:World),fO P ops Q l a w->wpOpsIn (Fence.wide.inRound r) q P ops Q (List.range' k l.length) a w
 |[],k,_,_,a,w,h=>by simpa[wpOpsIn,fO]using h
 |o::l,k,hl,hd,a,w,h=>by
   have h0:ops[k]?=some o:=by simpa using(hl 0).symm
   simp only[List.all_cons,μ]at hd;simp only[Ξ,List.range'_succ,wpOpsIn,h0];simp only[fO]at h;have I:=fun a w=>yX (r:=r) (q:=q) (Q:=Q) l (k+1) (fun j=>by have:=hl (j+1);simpa[Nat.add_assoc,Nat.add_comm 1 j]using this) hd.2 a w;split;·grind[HZ]
   ·rename_i hw
    rw[if_neg hw]at h;exact⟨fun _ _=>trivial,I _ _ h⟩
end
def QR(b1:List (List A))(k:Nat)(st:St):Prop:=∃order,order.length=k∧nodupB (fa b1.length order)=true∧(∀g∈order,g∈st.lv)∧∀(i:Nat)(c:List A),b1[i]?=some c->∃c0,bh st.bx i=some c0∧iF (fa b1.length order) c0=c
theorem QR.mk(order:List Nat)(M:order.length=k)(I:nodupB (fa b1.length order)=true)(J:(order.all fun g=>st.lv.any fun h=>Nat.beq h g)=true)(hb:∀(i:Nat)(c:List A),b1[i]?=some c->∃c0,bh st.bx i=some c0∧iF (fa b1.length order) c0=c):QR b1 k st:=
 ⟨order,M,I,fun g N=>by obtain⟨x,O,he⟩:=F'.1 (I'.1 J g N);exact Γ he▸O,hb⟩
section
variable[dw P]{n:Nat}
theorem QR.B2(hs:bq C n st G tmps w)(hq:QR b1 k st)(O:C.bx.length=I.length)(J:b1.length=I.length):
 ∃G',bq C 0 ⟨[],fu 0 b1,(List.range k).map (I.length+·),I.length+k⟩ G' #[] w:=by
 obtain⟨order,U,X,ad,ai⟩:=hq;have a1:(fa b1.length order).length=I.length+k:=by simp[fa,U,J]
 have M:∀i,i<C.bx.length->(fa b1.length order)[i]?=some i:=fun i hi=>by unfold fa;rw[Ω (by simp;omega),List.getElem?_range (by omega)]
 refine⟨om (fa b1.length order) G,bq.w5 (hs.cT (f':=[]) (bx':=fu 0 b1) (lv':=(List.range k).map (I.length+·)) (gen':=I.length+k) (fa b1.length order) (eX X) (by omega) M (fun t a ha=>by simp[look]at ha) (fun i c hc=>?_) (fun i hi=>?_)) rfl⟩
 ·obtain⟨_,h1⟩:=oz b1 0 i c hc
  simp only[Nat.sub_zero]at h1;obtain⟨c0,h2,h3⟩:=ai i c h1;have aj:i<b1.length:=(δ.1 h1).1;exact⟨i,c0,M i (by rw[O,←J];exact aj),h2,by rw[<-iw];exact h3⟩
 ·obtain⟨j,hj,rfl⟩:=R'.1 hi
  have hj:j<k:=by simpa using hj
  have N:j<order.length:=by omega
  refine⟨order[j],?_,ad _ (List.getElem_mem N)⟩;unfold fa;rw[Θ (by simp;omega)];simp[J,N]
theorem rH.LN{i1 i2 V}(U:b1.length=I.length)(X:l1.all pZ=true)(ad:l2.all pZ=true)(h:∀C,NB C I.length->GC P C->WO P C n l1.toArray (fun e s=>e=.normal∧WO P C n l2.toArray (fun e s=>e=.normal∧QR b1 k s) l2 s) l1 ⟨V,fu 0 I,(List.range m).map (I.length+·),I.length+m⟩):
 rH P n (.block id (.seq (.region i1 l1.toArray false) (.region i2 l2.toArray false))) V I m b1 k:=by
 intro C G tmps w l q hG hw N J hs;refine wpIn_block (wpIn_seq (wpIn_region ?_));have h1:=h C ⟨N⟩ hG tmps w ⟨G,hs⟩;rw[J]at h1;have h2:fO P l1.toArray (Exit.then ((Code.region i2 l2.toArray false).wpIn (Fence.wide.inRound l) q P (Exit.inBlock id fun e _ w'=>e=.normal∧∃M,bq C 0 ⟨[],fu 0 b1,(List.range k).map (I.length+·),I.length+k⟩ M #[] w')) (Exit.inBlock id fun e _ w'=>e=.normal∧∃M,bq C 0 ⟨[],fu 0 b1,(List.range k).map (I.length+·),I.length+k⟩ M #[] w')) l1 ⟨tmps,[]⟩ w:=by
  refine qz (fun e a w' O=>?_) l1 _ _ h1;obtain⟨hd,st,⟨G2,ai⟩,rfl,aj⟩:=O;obtain⟨tm,d⟩:=a;have hd:d=C.ds:=hd;rw[J]at hd;subst hd;refine wpIn_region ?_;have h3:=aj tm w' ⟨G2,ai⟩;rw[J]at h3;have h4:fO P l2.toArray (Exit.inBlock id fun e _ w'=>e=.normal∧∃M,bq C 0 ⟨[],fu 0 b1,(List.range k).map (I.length+·),I.length+k⟩ M #[] w') l2 ⟨tm,[]⟩ w':=by refine qz (fun e a w3 O=>?_) l2 _ _ h3;obtain⟨_,a7,⟨G3,a1⟩,rfl,a6⟩:=O;exact⟨rfl,a6.B2 a1 N U⟩
  have:=yX (P:=P) (r:=l) (q:=q) l2 0 (by simp) ad _ _ h4;rw[show List.range l2.toArray.size=List.range' 0 l2.length by simp[List.range_eq_range']];exact this
 have:=yX (P:=P) (r:=l) (q:=q) l1 0 (by simp) X _ _ h2;rw[show List.range l1.toArray.size=List.range' 0 l1.length by simp[List.range_eq_range']];exact this
end
section
variable(T:cG P){n:Nat}{c:Code}
variable{f':List (Nat×A)}{bx bx':List (Nat×List A)}
theorem BK[hnb:NB C 0](s:Nat)(hl:look f s=some (.ptr g 0))(hb:bh bx g=some (l.map .d))(a7:Nat.blt s n=true)(hf:lB g [] f=f')(a8:lQ g [] bx=some bx')(h:W P C n c Q ⟨(s,.rowd l)::f',bx',lv,gen⟩):W P C n c Q ⟨f,bx,lv,gen⟩:=by
 subst hf;intro tmps w ⟨G,hs⟩;obtain⟨v,hv,O⟩:=hs.frame _ _ hl;obtain⟨b,cs,T',U,hw,h3,h4,h5⟩:=hs.box _ _ hb
 cases O with
 |ptr _ _ _ b' b6 ad hx=>
 have ad:G.box g=some b':=ad;rw[U]at ad;cases ad;let M:Gh:=⟨fun x=>if x=g then none else G.box x,G.own⟩;have b0:∀b' o,cf C M b' o->cf C G b' o:=by
  rintro b' o (hp|⟨I,hp⟩|hp);·exact .inl hp
  ·simp only[M]at hp
   split at hp;·cases hp
   ·exact .inr (.inl ⟨I,hp⟩)
  ·exact .inr (.inr hp)
 have a6:∀o,¬cf C M b o:=by
  rintro o (hp|⟨I,hp⟩|⟨I,len,cap,sz,ai,hp,_⟩|⟨I,N,bs,lim,hp,hm,_⟩)
  rotate_right
  ·exact(hs.sub I N bs b lim hp hm).2.1 g U
  ·have:=hs.xold b o hp
   rcases(hs.gbox g b U).2.2.1 with hm|hm
   ·omega
   ·exact this.2 hm
  ·simp only[M]at hp
   split at hp;·cases hp
   ·rename_i e;exact e (hs.inj I g b hp U)
  ·exact(hs.row I b len cap sz ai hp).2.1 g U
 have X:∀{v:Value}{a:A},bK (bu C G gen w) v a->jd g a=true->bK (bu C M gen w) v a:=fun h ha=>aL (E:=bu C G gen w) (E':=bu C M gen w) Z (fun b o u hu hn=>⟨hu,fun hp=>hn (b0 b o hp)⟩) (fun b h=>h) (fun I b b3 hb=>by show(if I=g then none else G.box I)=some b;rw[if_neg b3];exact hb) Z Z h ha;have b4:bq C n ⟨lB g [] f,bx',lv,gen⟩ M tmps w:=by
  refine{size:=hs.size,frame:=?_,box:=?_,gbox:=?_,inj:=?_,live:=hs.live,gown:=hs.gown,row:=?_,mrow:=?_,sub:=?_,gcell:=fun I N J=>(by simp only[M]at J;split at J<;>first|(cases J;done)|exact hs.gcell I N J),xold:=hs.xold,kold:=hs.kold,lent:=?_,fr:=hs.fr}
  ·intro t a ha
   obtain⟨h1,h2,_⟩:=mN ha;obtain⟨v,hv,O⟩:=hs.frame t a h1;exact⟨v,hv,X O h2⟩
  ·intro I cells hc
   obtain⟨h1,h2,h6,_⟩:=mT a8 hc;obtain⟨N,b5,T2,p1,p2,p3,p4,p5⟩:=hs.box I cells h1;exact⟨N,b5,T2,by simp only[M];rw[if_neg h6];exact p1,p2,p3,p4,fun i u a hu ha=>X (p5 i u a hu ha) (gz h2 a (ζ ha))⟩
  ·intro I N J
   simp only[M]at J;split at J;·cases J
   ·exact hs.gbox I N J
  ·intro g1 g2 N h1 h2
   simp only[M]at h1 h2;split at h1;·cases h1
   ·split at h2
    ·cases h2
    ·exact hs.inj g1 g2 N h1 h2
  ·intro I N len cap sz ai O
   obtain⟨p1,p2,p3⟩:=hs.row I N len cap sz ai O;refine⟨p1,fun g2 h2=>?_,p3⟩;simp only[M]at h2;split at h2;·cases h2
   ·exact p2 g2 h2
  ·intro I N bs O
   obtain⟨p1,p2,p3⟩:=hs.mrow I N bs O;refine⟨p1,fun g2 h2=>?_,p3⟩;simp only[M]at h2;split at h2;·cases h2
   ·exact p2 g2 h2
  ·intro I N bs c lim O hm
   obtain⟨p1,p2,p3⟩:=hs.sub I N bs c lim O hm;refine⟨p1,fun g2 h2=>?_,p3⟩;simp only[M]at h2;split at h2;·cases h2
   ·exact p2 g2 h2
  ·intro i N J
   have:=hnb.h;have hi:=(δ.1 J).1;omega
 have a1:bK (bu C M gen w) v (.rowd l):=by
  rw[hx];refine .rowd b 0 l (fun j=>cs[j]?.getD default) (fun j hj=>?_) (fun j x hx=>?_)
  ·have aj:j<cs.size:=by rw[h3];simpa using hj
   have e1:cs[j]?=some cs[j]:=by simp[aj]
   refine⟨?_,a6 _⟩;show cellAt w b (0+j)=_;rw[Nat.zero_add,cP hw,e1];rfl
  ·have aj:j<cs.size:=by rw[h3];simpa using(δ.1 hx).1
   have e1:cs[j]?=some cs[j]:=by simp[aj]
   have:=X (h5 j _ (.d x) e1 (by simp[hx])) rfl;rw[e1];show bN w _ cs[j] x;generalize cs[j]=u at this;cases this with|d hd=>exact hd
 refine h tmps w ⟨M,?_⟩;have:=b4.set (d:=s) (κ a7) a1;rwa[fN hv]at this
end
open Go.RowKit Go.MapKept
theorem bK.Ib(hw:E.w=E'.w)(hc:∀b o u,cellAt E.w b o=some u->¬E.pv b o->cellAt E'.w b o=some u∧¬E'.pv b o)(hold:∀b,E.old b->E'.old b)(hb:∀M b,M≠g->E.box M=some b->E'.box M=some b)(ho:∀M r,M<E.gen->E'.own M=some r->E.own M=some r)(U:E.gen<=E'.gen){v}(h:bK E v a)(ha:jd g a=true):bK E' v a:=by
 have aj:∀{M},(!Nat.beq M g)=true->M≠g:=fun h e=>by subst e;simp at h
 have X:∀b o u,cellAt E.w b o=some u->¬E.pv b o->cellAt E.w b o=some u∧¬E'.pv b o:=fun b o u h1 h2=>⟨h1,(hc b o u h1 h2).2⟩
 induction h with
 |any x=>exact .any x
 |d hd=>exact .d (hd.mono hc)
 |ag vs l hs hd=>exact .ag vs l hs (fun i u x h1 h2=>(hd i u x h1 h2).mono hc)
 |own x M es hd J hr=>exact .own x M es (hd.mono hc) (ρ J U) (fun r N=>hr r (ho _ r J N))
 |agg vs l hs hone _ ih=>exact .agg vs l hs hone (fun i u x hu O=>ih i u x hu O (gz (by simpa[jd]using ha) x (ζ O)))
 |tup vs l hs _ ih=>exact .tup vs l hs (fun i u x hu O=>ih i u x hu O (gz (by simpa[jd]using ha) x (ζ O)))
 |rowd b off l u ai hd=>exact .rowd b off l u (fun j hj=>hc _ _ _ (ai j hj).1 (ai j hj).2) (fun j x O=>(hd j x O).mono hc)
 |row b off l u ai _ ih=>exact .row b off l u (fun j hj=>⟨by rw[<-hw];exact(ai j hj).1,hold _ (ai j hj).2.1,(ai j hj).2.2⟩) (fun j x O=>ih j x O (gz (by simpa[jd]using ha) x (ζ O)))
 |ptr x M off b J ad hp=>exact .ptr x M off b (ρ J U) (hb M b (aj (by simpa[jd]using ha)) ad) hp
 |xs x M es J h1 O=>exact .xs x M es (ρ J U) h1 (fun r N=>hw▸(O r (ho _ r J N)).ek X)
 |xp x M i off l J h1 O=>exact .xp x M i off l (ρ J U) h1 (fun r N=>hw▸(O r (ho _ r J N)).ek X)
 |mp x M es J h1 O=>exact .mp x M es (ρ J U) h1 (fun r N=>hw▸(O r (ho _ r J N)).ek X)
 |mq x M es J h1 O=>exact .mq x M es (ρ J U) h1 (fun r N=>hw▸(O r (ho _ r J N)).ek X)
 |mo x M es hole ob J h1 O=>exact .mo x M es hole ob (ρ J U) h1 (fun r N=>hw▸(O r (ho _ r J N)).ek X)
 |ni t x=>exact .ni t x
 |fl x es hd a6=>exact .fl x es (hd.mono hc) a6
 |bf x M T s J h1 O=>exact .bf x M T s (ρ J U) h1 (fun r N=>hw▸O r (ho _ r J N))
 |np x M T b J ad hT u hp=>exact .np x M T b (ρ J U) (hb M b (aj (by simpa[jd]using ha)) ad) (hw▸hT) u hp
 |sb x M n c b J ad hn hp=>exact .sb x M n c b (ρ J U) (hb M b (aj (by simpa[jd]using ha)) ad) hn hp
 |fx x u M es ou O J hu a7=>exact .fx x u M es ou (O.mono hc) (ρ J U) (fun r N=>hw▸(hu r (ho _ r J N)).ek X) a7
 |ol x u g1 E1 M es O a1 a8 J hu=>exact .ol x u g1 E1 M es (O.mono hc) (ρ a1 U) (fun r N=>a8 r (ho _ r a1 N)) (ρ J U) (fun r N=>hw▸(hu r (ho _ r J N)).ek X)
 |gi x M I J O=>exact .gi x M I (ρ J U) (fun r N=>hw▸(O r (ho _ r J N)).ek X)
 |ow x v M es hd J hr=>exact .ow x v M es (hd.mono hc) (ρ J U) (fun r N=>hr r (ho _ r J N))
 |lk x M n c b v J ad hn hp=>exact .lk x M n c b v (ρ J U) (hb M b (aj (by simpa[jd]using ha)) ad) hn hp
 |clo f vs l hs _ ih=>exact .clo f vs l hs (fun i u x hu O=>ih i u x hu O (gz (by simpa[jd]using ha) x (ζ O)))
 |bnd f vs l hs _ ih=>exact .bnd f vs l hs (fun i u x hu O=>ih i u x hu O (gz (by simpa[jd]using ha) x (ζ O)))
section
variable{n:Nat}
variable{bx bx':List (Nat×List A)}
theorem bq.E4(hs:bq C n ⟨f,bx,lv,gen⟩ G tmps w)(c1:C.bx=[])(ad:G.box g=some b)(hb:bh bx g=some (l.map .d))(b5:0<l.length)(c6:lQ g [] bx=some bx'):
 ∃N cs T,w.heap[b]?=some (.cells cs T (0,0))∧cs.size=l.length∧fV cs∧(∀(j:Nat)(u:Value)(d:D),cs[j]?=some u->l[j]?=some d->bN w (cf C N) u d)∧N.own gen=some (.blk b 1 1 l.length 0)∧(∀I,I≠gen->N.own I=G.own I)∧
   (∀b' o,cf C N b' o->cf C G b' o)∧bq C n ⟨lB g [] f,bx',gen::lv,gen+1⟩ N tmps w:=by
 obtain⟨b0,cs,T',a8,hw,h3,h4,h5⟩:=hs.box _ _ hb;rw[ad]at a8;cases a8;simp only[η]at h3;let M:Nat->Option Row:=fun I=>if I=gen then some (.blk b 1 1 l.length 0)else G.own I;let N:Gh:=⟨fun x=>if x=g then none else G.box x,M⟩;have ai:∀{I c len cap sz aj},M I=some (.blk c len cap sz aj)->(I=gen∧c=b∧len=1∧cap=1∧sz=l.length∧aj=0)∨(I≠gen∧G.own I=some (.blk c len cap sz aj)):=by
  intro I c len cap sz aj J;simp only[M]at J;split at J
  ·rename_i e
   simp only[Option.some.injEq,Row.blk.injEq]at J;exact .inl ⟨e,J.1.symm,J.2.1.symm,J.2.2.1.symm,J.2.2.2.1.symm,J.2.2.2.2.symm⟩
  ·rename_i e;exact .inr ⟨e,J⟩
 have a6:∀{I O a1},M I=some (.mp O a1)->G.own I=some (.mp O a1):=by
  intro I O a1 J;simp only[M]at J;split at J;·cases J
  ·exact J
 have b4:∀b' o,cf C N b' o->cf C G b' o:=by
  rintro b' o (hp|⟨I,hp⟩|⟨I,b6,ch,c7,cj,hp,hl'⟩|⟨I,O,a1,lim,hp,hm,hl'⟩);·exact .inl hp
  ·simp only[N]at hp
   split at hp;·cases hp
   ·exact .inr (.inl ⟨I,hp⟩)
  ·rcases ai hp with⟨_,rfl,_⟩|⟨_,e⟩
   ·exact .inr (.inl ⟨g,ad⟩)
   ·exact .inr (.inr (.inl ⟨I,b6,ch,c7,cj,e,hl'⟩))
  ·exact .inr (.inr (.inr ⟨I,O,a1,lim,a6 hp,hm,hl'⟩))
 have a7:∀{v:Value}{a:A},bK (bu C G gen w) v a->jd g a=true->bK (bu C N (gen+1) w) v a:=fun h ha=>
  bK.Ib (E:=bu C G gen w) (E':=bu C N (gen+1) w) rfl (fun b o u hu hn=>⟨hu,fun hp=>hn (b4 b o hp)⟩) (fun b h=>h) (fun I b df hb=>by show(if I=g then none else G.box I)=some b;rw[if_neg df];exact hb)
   (fun I r X J=>by have J:M I=some r:=J;have X:I<gen:=X;simp only[M,if_neg (X' X)]at J;exact J) (Nat.le_succ gen) h ha
 refine⟨N,cs,T',hw,h3,h4,fun j u d hu hd=>?_,by simp[N,M],fun I X=>by simp[N,M,X],b4,?_⟩
 ·have:=a7 (h5 j u (.d d) hu (by simp[hd])) Z
  cases this with|d hd=>exact hd
 ·refine{size:=hs.size,frame:=?_,box:=?_,gbox:=?_,inj:=?_,live:=?_,gown:=?_,row:=?_,mrow:=?_,sub:=?_,gcell:=fun I O U=>(by simp only[N]at U;split at U<;>first|(cases U;done)|exact hs.gcell I O U),xold:=hs.xold,kold:=hs.kold,lent:=?_,fr:=hs.fr}
  ·intro t a ha
   obtain⟨h1,h2,_⟩:=mN ha;obtain⟨v,hv,J⟩:=hs.frame t a h1;exact⟨v,hv,a7 J h2⟩
  ·intro I cells hc
   obtain⟨h1,h2,h6,_⟩:=mT c6 hc;obtain⟨O,di,T2,p1,p2,p3,p4,p5⟩:=hs.box I cells h1;exact⟨O,di,T2,by simp only[N];rw[if_neg h6];exact p1,p2,p3,p4,fun i u a hu ha=>a7 (p5 i u a hu ha) (gz h2 a (ζ ha))⟩
  ·intro I O U
   simp only[N]at U;split at U;·cases U
   ·obtain⟨q1,q2⟩:=hs.gbox I O U
    exact⟨Z' q1,q2⟩
  ·intro g1 g2 O h1 h2
   simp only[N]at h1 h2;split at h1;·cases h1
   ·split at h2
    ·cases h2
    ·exact hs.inj g1 g2 O h1 h2
  ·intro I X
   rcases N'.1 X with rfl|X
   ·exact⟨_,by simp[N,M];rfl⟩
   ·obtain⟨r,J⟩:=hs.live I X
    exact⟨r,by simp only[N,M,if_neg (X' (hs.gown I r J))];exact J⟩
  ·intro I r J
   have J:M I=some r:=J;simp only[M]at J;split at J;·simp only;omega
   ·exact Z' (hs.gown I r J)
  ·intro I O len cap sz aj J
   rcases ai J with⟨e,rfl,rfl,rfl,rfl,rfl⟩|⟨e,J⟩
   ·refine⟨(hs.gbox g _ ad).2.2,fun g2 h2=>?_,fun g2 cl cq dj cx h2=>?_,cs,T',hw,by rw[h3];simp,χ _,by simp[maxLen],b5,by decide,ς _,h4⟩
    ·simp only[N]at h2
     split at h2;·cases h2
     ·rename_i e2;exact e2 (hs.inj _ _ _ h2 ad)
    ·rcases ai h2 with⟨e2,_⟩|⟨_,e2⟩
     ·rw[e,e2]
     ·exact absurd ad ((hs.row _ _ _ _ _ _ e2).2.1 g)
   ·obtain⟨p1,p2,p3,p4⟩:=hs.row I O len cap sz aj J
    refine⟨p1,fun g2 h2=>?_,fun g2 cl cq dj cx h2=>?_,p4⟩
    ·simp only[N]at h2
     split at h2;·cases h2
     ·exact p2 g2 h2
    ·rcases ai h2 with⟨_,rfl,_⟩|⟨_,e2⟩
     ·exact absurd ad (p2 g)
     ·exact p3 _ _ _ _ _ e2
  ·intro I O bs J
   obtain⟨p1,p2,p3,p4⟩:=hs.mrow I O bs (a6 J);refine⟨p1,fun g2 h2=>?_,fun g2 a1 h2=>p3 g2 a1 (a6 h2),p4⟩;simp only[N]at h2;split at h2;·cases h2
   ·exact p2 g2 h2
  ·intro I O bs c lim J hm
   obtain⟨p1,p2,p3,p4,p5⟩:=hs.sub I O bs c lim (a6 J) hm;refine⟨p1,fun g2 h2=>?_,fun g2 len cap sz aj h2=>?_,fun g2 b3 dt cy h2 dx=>p4 g2 b3 dt cy (a6 h2) dx,p5⟩
   ·simp only[N]at h2
    split at h2;·cases h2
    ·exact p2 g2 h2
   ·rcases ai h2 with⟨_,rfl,_⟩|⟨_,e2⟩
    ·exact p2 g ad
    ·exact p3 _ _ _ _ _ e2
  ·intro i O U
   rw[c1]at U;simp at U
end
def vK{α:Type}(kf:α->Value)(l:List (α×Option (List D))):List (Value×Option (List D)):=l.map fun p=>(kf p.1,p.2)
theorem Ei{kf:α->Value}{l:List (α×Option (List D))}{k o}(h:(vK kf l)[i]?=some (k,o)):∃a,l[i]?=some (a,o)∧k=kf a:=by grind[vK,Option.map_eq_some_iff,Prod.mk.injEq]
theorem BQ{kf:α->Value}{l k o}(h:(k,o)∈vK kf l):∃a,(a,o)∈l∧k=kf a:=by obtain⟨i,hi⟩:=ψ.1 h;obtain⟨a,I,e⟩:=Ei hi;grind
structure C6{α:Type}(w:World)(pv:Nat->Nat->Prop)(b:Nat)(bs:List (Nat×Nat))(kf:α->Value)(l:List (α×Option (List D)))(me:Array MapEntry)(clock:Nat)(ps:Value->Nat)(l2:List (α×Value)):Prop where
 hb:w.heap[b]?=some (.map me clock)
 st:Stamped me clock
 mi:jE w pv kf D.v me l2
 ln:l2.length=l.length
 ks:∀(i:Nat)(p:α×Value)(q:α×Option (List D)),l2[i]?=some p->l[i]?=some q->p.1=q.1
 inj:∀(a a':α)(x x':List D),(a,some x)∈l->(a',some x')∈l->ps (kf a)=ps (kf a')->kf a=kf a'
 at_:∀(i:Nat)(m:MapEntry)(a:α)(x:List D),me[i]?=some m->l[i]?=some (a,some x)->m.val=.pointer (some ⟨ps (kf a),0,none⟩)∧(ps (kf a),0)∈bs∧
  ∃cur T,w.heap[ps (kf a)]?=some (.cells cur T (0,0))∧cur.size=x.length∧fV cur∧∀(j:Nat)(u:Value)(d:D),cur[j]?=some u->x[j]?=some d->bN w pv u d
theorem C6.of{kf:α->Value}{v l}(h:qf w pv (.mp (some b) bs) v (vK kf l)):v=.map (some b)∧∃I clock ps l2,C6 w pv b bs kf l I clock ps l2:=by
 obtain⟨h1,I,clock,h2,h3,h4,ps,h5,N⟩:=h;have J:I.size=l.length:=by rw[h4];simp[vK]
 refine⟨h1,I,clock,ps,(l.zip I.toList).map fun p=>(p.1.1,p.2.val),h2,h3,⟨by simp[J],fun i m p hm hp=>?_⟩,by simp[J],fun i p q hp U=>?_,fun a a' x X q1 q2 q3=>?_,fun i m a x hm hx=>?_⟩
 ·have O:i<l.length:=by rw[<-J];exact(θ.1 hm).1
  have hl:l[i]?=some l[i]:=by simp[O]
  have M:(l.zip I.toList)[i]?=some (l[i],m):=by rw[List.getElem?_zip_eq_some];exact⟨hl,by simpa using hm⟩
  rw[τ,M]at hp;simp only[Option.map_some,Option.some.injEq]at hp;subst hp;obtain⟨q1,q2,q3,_⟩:=N i m (kf l[i].1) l[i].2 hm (by simp[vK,hl]);exact⟨q1,q2,.v _ q3⟩
 ·rw[τ,ν]at hp
  obtain⟨z,M,rfl⟩:=hp;rw[List.getElem?_zip_eq_some]at M;rw[U]at M;exact congrArg Prod.fst (J' M.1).symm
 ·exact h5 _ _ x X (R'.2 ⟨_,q1,rfl⟩) (R'.2 ⟨_,q2,rfl⟩) q3
 ·exact(N i m (kf a) (some x) hm (by simp[vK,hx])).2.2.2 x Z
theorem C6.to{kf:α->Value}{l M ps l2}(h:C6 w pv b bs kf l M clock ps l2):qf w pv (.mp (some b) bs) (.map (some b)) (vK kf l):=by
 refine⟨rfl,M,clock,h.hb,h.st,by rw[h.mi.1,h.ln];simp[vK],ps,fun k k' x U q1 q2 q3=>?_,fun i m k o hm X=>?_⟩
 ·obtain⟨a,I,rfl⟩:=BQ q1
  obtain⟨a',N,rfl⟩:=BQ q2;exact h.inj a a' x U I N q3
 ·obtain⟨a,I,rfl⟩:=Ei X
  have O:i<l2.length:=by rw[h.ln];exact(δ.1 I).1
  have J:l2[i]?=some l2[i]:=by simp[O]
  obtain⟨q1,q2,q3⟩:=h.mi.2 i m _ hm J;have e:=h.ks i _ _ J I;rw[e]at q1 q2;refine⟨q1,q2,?_,fun x hx=>?_⟩
  ·generalize m.val=y at q3
   cases q3 with|v _ hok=>exact hok
  ·subst hx
   exact h.at_ i m a x hm I
def Ar(l:List (Nat×List D))(hole:Option Nat)(w:World)(pv:Nat->Nat->Prop)(bs:List (Nat×Nat)):Prop:=
 (∀(i j:Nat)(p q:Nat×List D),l[i]?=some p->l[j]?=some q->p.1=q.1->i=j)∧
  ∀(i:Nat)(p:Nat×List D),l[i]?=some p->hole≠some i->(p.1,0)∈bs∧0<p.2.length∧∃cur T,w.heap[p.1]?=some (.cells cur T (0,0))∧cur.size=p.2.length∧fV cur∧∀(j:Nat)(u:Value)(d:D),cur[j]?=some u->p.2[j]?=some d->bN w pv u d
theorem Ar.mono{l hole I}(J:∀b o u,cellAt w b o=some u->¬pv b o->cellAt w' b o=some u∧¬I b o)(hb:∀p∈bs,w'.heap[p.1]?=w.heap[p.1]?)(h:Ar l hole w pv bs):Ar l hole w' I bs:=
 ⟨h.1,fun i p hp M=>let⟨h1,h2,cur,T,h3,h4,h5,h6⟩:=h.2 i p hp M;⟨h1,h2,cur,T,(hb _ h1).trans h3,h4,h5,fun j u d hu hd=>(h6 j u d hu hd).mono J⟩⟩
def lK(l:List (Nat×List D))(hole:Option Nat):Iv:=⟨fun w pv bs _=>Ar l hole w pv bs,Ar.mono⟩
section
variable{n:Nat}{cd:Code}
variable{f':List (Nat×A)}{bx bx':List (Nat×List A)}
theorem Kv(N I){J:List A}(hq:bh bx N=some J)(O:J.set I (.gi gen (lK [] none))=cq')(h:W P C n cd Q ⟨f,(N,cq')::bx,gen::lv,gen+1⟩):W P C n cd Q ⟨f,bx,lv,gen⟩:=by
 subst O;intro tmps w ⟨G,hs⟩;obtain⟨U,ad,ho,hle,X⟩:=hs.yt;refine h tmps w ⟨U,X.fZ (f:=f) (bx:=bx) (lv:=gen::lv) (gen:=gen+1) hq (by simp) fun b cs T _ _ q3 i x a hx M=>?_⟩;by_cases e:I=i
 ·subst e
  by_cases hlt:I<J.length
  ·rw[C' hlt]at M
   simp only[Option.some.injEq]at M;subst M;refine .gi _ _ _ (by simp[bu]) fun r hr=>?_;have:U.own gen=some r:=hr;rw[ho]at this;cases this;exact⟨fun i j p q hi=>by simp at hi,fun i p hp=>by simp at hp⟩
  ·grind
 ·grind
theorem fv.KB[hnb:NB C 0](hs:fv C n ⟨f,bx,lv,gen⟩ tmps w)(gq jq s:Nat){l}{y:List D}(hl:look f s=some (.ptr J 0))(hq:bh bx gq=some cq)(hj:cq[jq]?=some (.gi g (lK l none)))(hb:bh bx J=some (y.map .d))(hy:Nat.blt 0 y.length=true)(b0:(lv.any fun h=>Nat.beq h g)=true)(b2:Nat.blt s n=true)(hf:lB J [] f=f')(b3:lQ J [] bx=some bx')(b4:bh bx' gq=some cq)(b5:(gen+1)::bR lv g=lv'):
 ∃c,fv C n ⟨(s,.d (.v (.pointer (some ⟨c,0,none⟩))))::f',(gq,cq.set jq (.gi (gen+1) (lK (l++[(c,y)]) none)))::bx',lv',gen+2⟩ tmps w:=by
 subst b5;subst hf;obtain⟨G,hs⟩:=hs;have b6:C.bx=[]:=A' hnb.h;obtain⟨bs,_,N,a6,ai⟩:=hs.ku hq hj b0;obtain⟨x,hx,O⟩:=hs.frame s _ hl
 cases O with
 |ptr _ _ _ c dj M ch=>
 have M:G.box J=some c:=M;have U:=hs.gown g _ N;obtain⟨G1,cs,T1,c1,c2,c3,c4,c5,c6,c7,cj⟩:=hs.E4 b6 M hb (κ hy) b3;have a7:G1.own g=some (.mp none bs):=by rw[c6 g (X' U)];exact N
 have ad:∀lim,(c,lim)∉bs:=fun lim hm=>(hs.sub g none bs c lim N hm).2.1 J M;obtain⟨G',dt,cl,hle,cx⟩:=cj.join (w':=w) (g:=g) (g2:=gen) (bs':=(c,0)::bs) a7 c5 (Ne.symm (X' U)) (fun p hp=>by
  rcases N'.1 hp with rfl|hp
  ·exact .inr ⟨_,_,_,rfl⟩
  ·exact .inl hp) (fun _ _=>rfl) (fun c hc=>by cases hc) Z Z Z Z (bR lv g) (fun g' cy=>by
  obtain⟨t1,t2⟩:=cQ cy;obtain⟨r,O⟩:=hs.live g' t1;have:=hs.gown g' r O;exact⟨ω _ t1,t2,by simp only at this;omega⟩)
 have X:∀{v:Value}{d:D},bN w (cf C G1) v d->bN w (cf C G') v d:=fun hd=>hd.mono fun b o u hu hp=>hle.cell b o u hu hp;have a8:∀{v:Value}{d:D},bN w (cf C G) v d->bN w (cf C G') v d:=fun hd=>X (hd.mono fun b o u hu hp=>⟨hu,fun df=>hp (c7 b o df)⟩);have aj:=cx.set (d:=s) (κ b2) (v:=x) (a:=.d (.v (.pointer (some ⟨c,0,none⟩)))) (by rw[ch];exact .d (.v _ Z));rw[fN hx]at aj;refine⟨c,G',aj.fZ (f:=(s,.d (.v (.pointer (some ⟨c,0,none⟩))))::lB J [] f) (bx:=bx') (lv:=(gen+1)::bR lv g) (gen:=gen+2) b4 (by simp) fun b cs' T _ _ q3 k x' a di ha=>?_⟩;by_cases e:jq=k
 ·subst e
  rw[C' (δ.1 hj).1]at ha;simp only[Option.some.injEq]at ha;subst ha;refine .gi _ _ _ (by simp[bu]) fun r O=>?_;have:G'.own (gen+1)=some r:=O;rw[cl]at this;cases this;have a1:∀{i:Nat}{p:Nat×List D},l[i]?=some p->p.1≠c:=fun hi e=>ad 0 (e▸(ai _ _ hi (by simp)).1);refine⟨fun i j p q hi I e=>?_,fun i p hp _=>?_⟩
  ·rcases Nat.lt_or_ge i l.length with h1|h1<;>rcases Nat.lt_or_ge j l.length with h2|h2
   ·rw[Ω h1]at hi;rw[Ω h2]at I;exact a6 i j p q hi I e
   ·rw[Ω h1]at hi;rw[Θ h2]at I
    have:=a1 hi;grind
   ·rw[Θ h1]at hi;rw[Ω h2]at I
    have:=a1 I;grind
   ·rw[Θ h1]at hi;rw[Θ h2]at I
    grind
  ·rcases Nat.lt_or_ge i l.length with h1|h1
   ·rw[Ω h1]at hp
    obtain⟨q1,q2,cur,T,q4,q5,q6,q7⟩:=ai i p hp (by simp);exact⟨ω _ q1,q2,cur,T,q4,q5,q6,fun j u d hu hd=>a8 (q7 j u d hu hd)⟩
   ·rw[Θ h1]at hp
    have e0:i-l.length=0:=by grind
    rw[e0]at hp;simp only[List.getElem?_cons_zero,Option.some.injEq]at hp;subst hp;exact⟨Ψ,κ hy,cs,T1,c1,c2,c3,fun j u d hu hd=>X (c4 j u d hu hd)⟩
 ·rw[List.getElem?_set_ne e]at ha
  exact q3 k x' a di ha
theorem Kt[hnb:NB C 0]{rest}(I N s:Nat){J:List A}{M l}{y:List D}(hl:look f s=some (.ptr M 0))(hq:bh bx I=some J)(hj:J[N]?=some (.gi g (lK l none)))(hb:bh bx M=some (y.map .d))(hy:Nat.blt 0 y.length=true)(O:(lv.any fun h=>Nat.beq h g)=true)(U:Nat.blt s n=true)(hf:lB M [] f=f')(X:lQ M [] bx=some bx')(ad:bh bx' I=some J)(ai:(gen+1)::bR lv g=lv')(h:∀c,WO P C n ops Q rest ⟨(s,.d (.v (.pointer (some ⟨c,0,none⟩))))::f',(I,J.set N (.gi (gen+1) (lK (l++[(c,y)]) none)))::bx',lv',gen+2⟩):WO P C n ops Q rest ⟨f,bx,lv,gen⟩:=
 fun tmps w hs=>let⟨c,hs'⟩:=fv.KB hs I N s hl hq hj hb hy O U hf X ad ai;h c tmps w hs'
theorem Jt(gq jq s s2 i:Nat){c}{l:List (Nat×List D)}{y:List D}(hl:look f s=some (.d (.v (.pointer (some ⟨c,0,none⟩)))))(N:bh bx gq=some cq)(hj:cq[jq]?=some (.gi g (lK l none)))(b3:(lv.any fun h=>Nat.beq h g)=true)(hi:l[i]?=some (c,y))(b4:Nat.blt s n=true)(U:Nat.blt s2 n=true)(df:Nat.beq s s2=false)(b5:gen::bR lv g=lv')(h:W P C n cd Q ⟨(s2,.lk (gen+2) 0 0 (.slice (some ⟨c,0,none⟩) 0 0))::(s,.ptr (gen+2) 0)::f,(gen+2,y.map .d)::(gq,cq.set jq (.gi gen (lK l (some i))))::bx,lv',gen+3⟩):W P C n cd Q ⟨f,bx,lv,gen⟩:=by
 subst b5;intro tmps w ⟨G,hs⟩;obtain⟨bs,_,b6,X,aj⟩:=hs.ku N hj b3;obtain⟨r2,ad,cur,T1,r3,r4,r5,r6⟩:=aj i _ hi (by simp);simp only at r2 ad r3 r4 r5 r6;obtain⟨x,hx,J⟩:=hs.frame s _ hl;cases J with|d J=>cases J with|v _ hok=>
 have b2:s2<tmps.size:=by rw[hs.size];exact κ U
 have ch:tmps[s2]?=some tmps[s2]:=by simp[b2]
 obtain⟨G1,di,cj,cl,hle,cx⟩:=hs.split b6 (bs':=bs.filter fun q=>!Nat.beq q.1 c) (fun q N=>(List.mem_filter.1 N).1) (.blk c 1 1 y.length 0) (fun _ _ h=>by cases h) (fun c' len cap sz dj h=>by simp only[Row.blk.injEq]at h;obtain⟨rfl,rfl,rfl,rfl,rfl⟩:=h;exact⟨r2,fun q N e=>by have:=(List.mem_filter.1 N).2;rw[e]at this;simp at this,cur,T1,r3,by rw[r4];simp,χ _,by simp[maxLen],ad,by decide,ς _,r5⟩) (bR lv g) (fun O I=>cQ I);have ai:∀O∈gen::bR lv g,O∈gen::(gen+1)::bR lv g∧O≠gen+1:=fun O I=>by
  rcases N'.1 I with rfl|I
  ·exact⟨Ψ,by omega⟩
  ·obtain⟨t1,t2⟩:=cQ I
   obtain⟨r,J⟩:=hs.live O t1;have:=hs.gown O r J;simp only at this;exact⟨ω _ (ω _ I),by omega⟩
 have cy:bq C n ⟨f,(gq,cq.set jq (.gi gen (lK l (some i))))::bx,gen::(gen+1)::bR lv g,gen+2⟩ G1 tmps w:=cx.fZ (f:=f) (bx:=bx) (lv:=gen::(gen+1)::bR lv g) (gen:=gen+2) N (by simp) fun b cs T _ _ q3 k x a hx ha=>by
  by_cases e:jq=k
  ·subst e
   rw[C' (δ.1 hj).1]at ha;simp only[Option.some.injEq]at ha;subst ha;refine .gi _ _ _ (by simp[bu]) fun r J=>?_;have:G1.own gen=some r:=J;rw[cj]at this;cases this;refine⟨X,fun k p hp hk=>?_⟩;obtain⟨q1,q2,cur,T,q4,q5,q6,q7⟩:=aj k p hp (by simp);refine⟨List.mem_filter.2 ⟨q1,?_⟩,q2,cur,T,q4,q5,q6,fun j u d hu hd=>(q7 j u d hu hd).mono fun b o u hu hp=>hle.cell b o u hu hp⟩
   cases hb:Nat.beq p.1 c with
   |false=>rfl
   |true=>have e:=Γ hb;exact absurd (congrArg some (X i k _ _ hi hp e.symm)) hk
  ·rw[List.getElem?_set_ne e]at ha
   exact q3 k x a hx ha
 obtain⟨G2,a1,c1⟩:=cy.JK (g:=gen+1) (b:=c) (len:=1) (cap:=1) (sz:=y.length) cl (es:=[y]) (v:=.slice (some ⟨c,0,none⟩) 1 1) ⟨rfl,rfl,rfl,by simp,fun i j e d he hd=>by
  cases i with
  |zero=>
    simp only[List.getElem?_cons_zero,Option.some.injEq]at he;subst he;have c6:j<cur.size:=by rw[r4];exact(δ.1 hd).1
    have a6:cur[j]?=some cur[j]:=by simp[c6]
    refine⟨cur[j],?_,(r6 j _ d a6 hd).mono fun b o u hu hp=>hle.cell b o u hu hp⟩;rw[Nat.zero_mul,Nat.zero_add,cP r3,a6]
  |succ i=>simp at he⟩ (gen::bR lv g) ai
 have c7:zU [y] (1*y.length-1*y.length)=y.map .d:=by simp[zU]
 rw[c7]at a1
 cases c1 with
 |sb _ _ _ _ b0 dt M dx hp=>
 simp only[Value.slice.injEq,Option.some.injEq,Addr.mk.injEq]at hp;have M:G2.box (gen+2)=some b0:=M;have ec:c=b0:=hp.1.1;subst ec;have a7:=a1.set (d:=s) (κ b4) (v:=.pointer (some ⟨c,0,none⟩)) (a:=.ptr (gen+2) 0) (.ptr _ _ _ c (by show gen+2<gen+3;omega) M rfl);rw[fN hx]at a7;have a8:=a7.set (d:=s2) (κ U) (v:=tmps[s2]) (a:=.lk (gen+2) 0 0 (.slice (some ⟨c,0,none⟩) 0 0)) (.lk _ _ _ _ c _ (by show gen+2<gen+3;omega) M ⟨χ _,ς _⟩ rfl);rw[fN ch]at a8;exact h tmps w ⟨G2,a8⟩
theorem Ih[hnb:NB C 0](gq jq s2 i:Nat){c}{l l':List (Nat×List D)}{y y0:List D}(hl:look f s2=some (.lk J 0 0 (.slice (some ⟨c,0,none⟩) 0 0)))(hq:bh bx gq=some cq)(hj:cq[jq]?=some (.gi g (lK l (some i))))(hi:l[i]?=some (c,y0))(hb:bh bx J=some (y.map .d))(hy:Nat.blt 0 y.length=true)(a7:(lv.any fun h=>Nat.beq h g)=true)(hf:lB J [] f=f')(a8:lQ J [] bx=some bx')(b2:bh bx' gq=some cq)(b3:(gen+1)::bR lv g=lv')(b4:l.set i (c,y)=l')(h:W P C n cd Q ⟨f',(gq,cq.set jq (.gi (gen+1) (lK l' none)))::bx',lv',gen+2⟩):W P C n cd Q ⟨f,bx,lv,gen⟩:=by
 subst b3;subst hf;subst b4;intro tmps w ⟨G,hs⟩;have b5:C.bx=[]:=A' hnb.h;obtain⟨bs,_,ad,aj,b6⟩:=hs.ku hq hj a7;obtain⟨x,hx,M⟩:=hs.frame s2 _ hl
 cases M with
 |lk _ _ _ _ b0 _ dj N dt ai=>
 simp only[Value.slice.injEq,Option.some.injEq,Addr.mk.injEq]at ai;have ec:c=b0:=ai.1.1;subst ec;have N:G.box J=some c:=N;have O:=hs.gown g _ ad;obtain⟨G1,cs,T1,c1,c2,c3,c4,c5,c6,c7,ch⟩:=hs.E4 b5 N hb (κ hy) a8;have a1:G1.own g=some (.mp none bs):=by rw[c6 g (X' O)];exact ad
 obtain⟨G',dx,cj,hle,cl⟩:=ch.join (w':=w) (g:=g) (g2:=gen) (bs':=(c,0)::bs) a1 c5 (Ne.symm (X' O)) (fun p hp=>by
  rcases N'.1 hp with rfl|hp
  ·exact .inr ⟨_,_,_,rfl⟩
  ·exact .inl hp) (fun _ _=>rfl) (fun c hc=>by cases hc) Z Z Z Z (bR lv g) (fun g' cx=>by
  obtain⟨t1,t2⟩:=cQ cx;obtain⟨r,M⟩:=hs.live g' t1;have:=hs.gown g' r M;exact⟨ω _ t1,t2,by simp only at this;omega⟩)
 have U:∀{v:Value}{d:D},bN w (cf C G1) v d->bN w (cf C G') v d:=fun hd=>hd.mono fun b o u hu hp=>hle.cell b o u hu hp;have a6:∀{v:Value}{d:D},bN w (cf C G) v d->bN w (cf C G') v d:=fun hd=>U (hd.mono fun b o u hu hp=>⟨hu,fun cy=>hp (c7 b o cy)⟩);refine h tmps w ⟨G',cl.fZ (f:=lB J [] f) (bx:=bx') (lv:=(gen+1)::bR lv g) (gen:=gen+2) b2 (by simp) fun b cs' T _ _ q3 k x' a df I=>?_⟩;by_cases e:jq=k
 ·subst e
  rw[C' (δ.1 hj).1]at I;simp only[Option.some.injEq]at I;subst I;refine .gi _ _ _ (by simp[bu]) fun r M=>?_;have:G'.own (gen+1)=some r:=M;rw[cj]at this;cases this;have di:i<l.length:=(δ.1 hi).1;have X:∀{k:Nat}{p:Nat×List D},(l.set i (c,y))[k]?=some p->∃q,l[k]?=some q∧q.1=p.1∧(k≠i->q=p)∧(k=i->p=(c,y)):=fun{k p} hk=>by
   by_cases e:i=k
   ·subst e
    rw[C' di]at hk;simp only[Option.some.injEq]at hk;subst hk;exact⟨_,hi,rfl,fun q=>absurd rfl q,fun _=>rfl⟩
   ·rw[List.getElem?_set_ne e]at hk
    exact⟨_,hk,rfl,fun _=>rfl,fun q=>absurd q.symm e⟩
  refine⟨fun a b p q I hb e=>?_,fun k p hp _=>?_⟩
  ·obtain⟨p1,t1,t2,_⟩:=X I
   obtain⟨q1,t3,t4,_⟩:=X hb;exact aj a b p1 q1 t1 t3 (t2.trans (e.trans t4.symm))
  ·obtain⟨q,t1,t2,t3,t4⟩:=X hp
   by_cases e1:k=i
   ·have:=t4 e1
    subst this;exact⟨Ψ,κ hy,cs,T1,c1,c2,c3,fun j u d hu hd=>U (c4 j u d hu hd)⟩
   ·have:=t3 e1
    subst this;obtain⟨q1,q2,cur,T,q4,q5,q6,q7⟩:=b6 k _ t1 (fun q=>e1 (J' q).symm);exact⟨ω _ q1,q2,cur,T,q4,q5,q6,fun j u d hu hd=>a6 (q7 j u d hu hd)⟩
 ·rw[List.getElem?_set_ne e]at I
  exact q3 k x' a df I
end
def xo(w:World)(pv:Nat->Nat->Prop)(I:Option Nat)(bs:List (Nat×Nat))(v:Value)(es:List (List D)):Prop:=
 match I with
 |none=>(v=.slice none 0 0∨∃b,v=.slice (some ⟨b,0,none⟩) 0 0)∧es=[]
 |some b=>∃cap sz cur T,v=.slice (some ⟨b,0,none⟩) es.length cap∧(b,0)∈bs∧(∀(e:List D),e∈es->e.length=sz)∧w.heap[b]?=some (.cells cur T (0,0))∧cur.size=cap*sz∧es.length<=cap∧cap<=maxLen∧0<sz∧0<es.length∧fV cur∧
  ∀(i j:Nat)(e:List D)(d:D),es[i]?=some e->e[j]?=some d->∃u,cellAt w b (i*sz+j)=some u∧bN w pv u d
def XP(l:List (Value×List (List D)))(hole:Option Nat)(w:World)(pv:Nat->Nat->Prop)(bs:List (Nat×Nat)):Prop:=
 ∃ps:Nat->Option Nat,(∀i j c,i<l.length->j<l.length->hole≠some i->hole≠some j->ps i=some c->ps j=some c->i=j)∧
   ∀(i:Nat)(p:Value×List (List D)),l[i]?=some p->hole≠some i->xo w pv (ps i) bs p.1 p.2
theorem xo.mono{J I bs' v}(hr:∀{u:Value}{d:D},bN w pv u d->bN w' J u d)(hb:∀c,I=some c->(c,0)∈bs->(c,0)∈bs'∧w'.heap[c]?=w.heap[c]?)(h:xo w pv I bs v es):xo w' J I bs' v es:=by
 cases I with
 |none=>exact h
 |some b=>obtain⟨cap,sz,cur,T,h1,h2,h3,h4,h5,N,O,U,X,M,ad⟩:=h;obtain⟨q1,q2⟩:=hb b rfl h2;refine⟨cap,sz,cur,T,h1,q1,h3,q2.trans h4,h5,N,O,U,X,M,fun i j e d he hd=>?_⟩;grind[cL]
theorem XP.mono{l hole I}(J:∀b o u,cellAt w b o=some u->¬pv b o->cellAt w' b o=some u∧¬I b o)(hb:∀p∈bs,w'.heap[p.1]?=w.heap[p.1]?)(h:XP l hole w pv bs):XP l hole w' I bs:=by obtain⟨ps,h1,h2⟩:=h;exact⟨ps,h1,fun i p hp M=>(h2 i p hp M).mono (fun hd=>hd.mono J) fun c _ hm=>⟨hm,hb _ hm⟩⟩
def xI(l:List (Value×List (List D)))(hole:Option Nat):Iv:=⟨fun w pv bs _=>XP l hole w pv bs,XP.mono⟩
section
variable{n:Nat}{cd:Code}
variable{f':List (Nat×A)}{bx bx':List (Nat×List A)}
theorem LI(N I){J:List A}(hq:bh bx N=some J)(O:J.set I (.gi gen (xI [] none))=cq')(h:W P C n cd Q ⟨f,(N,cq')::bx,gen::lv,gen+1⟩):W P C n cd Q ⟨f,bx,lv,gen⟩:=by
 subst O;intro tmps w ⟨G,hs⟩;obtain⟨U,ad,ho,hle,X⟩:=hs.yt;refine h tmps w ⟨U,X.fZ (f:=f) (bx:=bx) (lv:=gen::lv) (gen:=gen+1) hq (by simp) fun b cs T _ _ q3 i x a hx M=>?_⟩;by_cases e:I=i
 ·subst e
  by_cases hlt:I<J.length
  ·rw[C' hlt]at M
   simp only[Option.some.injEq]at M;subst M;refine .gi _ _ _ (by simp[bu]) fun r hr=>?_;have:U.own gen=some r:=hr;rw[ho]at this;cases this;exact⟨fun _=>none,fun i j c hi=>by simp at hi,fun i p hp=>by simp at hp⟩
  ·grind
 ·grind
theorem Lx(N J){M:List A}{l}(O:bh bx N=some M)(hj:M[J]?=some (.gi g (xI l none)))(U:(lv.any fun h=>Nat.beq h g)=true)(X:M.set J (.gi g (xI (l++[(.slice none 0 0,[])]) none))=cq')(h:W P C n cd Q ⟨f,(N,cq')::bx,lv,gen⟩):W P C n cd Q ⟨f,bx,lv,gen⟩:=by
 subst X;intro tmps w ⟨G,hs⟩;obtain⟨bs,_,ad,ps,h1,h2⟩:=hs.ku O hj U;refine h tmps w ⟨G,hs.fZ O (by simp) fun b cs T _ _ q3 i x a hx I=>?_⟩;by_cases e:J=i
 ·subst e
  rw[C' (δ.1 hj).1]at I;simp only[Option.some.injEq]at I;subst I
  cases q3 J x _ hx hj with
  |gi _ _ _ ai _=>
  refine .gi _ _ _ ai fun r hr=>?_;have:G.own g=some r:=hr;rw[ad]at this;cases this;refine⟨fun i=>if i<l.length then ps i else none,fun i j c _ _ _ _ hi hj=>?_,fun i p hp hh=>?_⟩;·grind
  ·dsimp only
   split
   ·rename_i aj
    rw[Ω aj]at hp;exact h2 i p hp hh
   ·rename_i a1
    rw[Θ (by omega)]at hp;have:i-l.length=0:=by grind
    rw[this]at hp;simp only[List.getElem?_cons_zero,Option.some.injEq]at hp;subst hp;exact⟨.inl rfl,rfl⟩
 ·rw[List.getElem?_set_ne e]at I
  exact q3 i x a hx I
theorem HD(gq jq s i:Nat){l:List (Value×List (List D))}{v}(hl:look f s=some (.d (.v v)))(I:bh bx gq=some cq)(hj:cq[jq]?=some (.gi g (xI l none)))(a8:(lv.any fun h=>Nat.beq h g)=true)(hi:l[i]?=some (v,es))(b0:Nat.blt s n=true)(b2:gen::(gen+1)::bR lv g=lv')(b3:cq.set jq (.gi gen (xI l (some i)))=cq')(h:W P C n cd Q ⟨(s,.xs (gen+1) es)::f,(gq,cq')::bx,lv',gen+2⟩):W P C n cd Q ⟨f,bx,lv,gen⟩:=by
 subst b3;subst b2;intro tmps w ⟨G,hs⟩;obtain⟨bs,_,b4,ps,X,N⟩:=hs.ku I hj a8;have b5:i<l.length:=(δ.1 hi).1;have O:xo w (cf C G) (ps i) bs v es:=N i _ hi (by simp);obtain⟨x,hx,J⟩:=hs.frame s _ hl;cases J with|d J=>cases J with|v _ hok=>
 have key:∀(r2:Row)(bs':List (Nat×Nat)),(∀p∈bs',p∈bs)->(∀b' bs',r2≠.mp b' bs')->
  (∀c len cap sz ad,r2=.blk c len cap sz ad->(c,ad)∈bs∧(∀p∈bs',p.1≠c)∧∃cur T,w.heap[c]?=some (.cells cur T (0,0))∧cur.size=cap*sz∧len<=cap∧cap<=maxLen∧0<sz∧0<len∧ad<=len*sz∧fV cur)->
  (∀(k:Nat)(p:Value×List (List D)),l[k]?=some p->k≠i->xo w (cf C G) (ps k) bs' p.1 p.2)->
  (∀ai,(∀{u:Value}{d:D},bN w (cf C G) u d->bN w ai u d)->gW w ai r2 v es)->v.oneCell'=true->fv C n ⟨(s,.xs (gen+1) es)::f,(gq,cq.set jq (.gi gen (xI l (some i))))::bx,gen::(gen+1)::bR lv g,gen+2⟩ tmps w:=by
  intro r2 bs' a1 b6 ch a6 a7 cj;obtain⟨G',dj,cl,cx,hle,cy⟩:=hs.split b4 a1 r2 b6 ch (bR lv g) (fun g' c1=>cQ c1);have U:∀{u:Value}{d:D},bN w (cf C G) u d->bN w (cf C G') u d:=fun hd=>hd.mono fun b o u hu hp=>hle.cell b o u hu hp;have aj:=cy.set (d:=s) (κ b0) (v:=v) (a:=.xs (gen+1) es) (.xs _ _ _ (by simp[bu]) cj fun r J=>by have:G'.own (gen+1)=some r:=J;rw[cx]at this;cases this;exact a7 _ U);rw[fN hx]at aj;refine⟨G',aj.fZ (f:=(s,.xs (gen+1) es)::f) (bx:=bx) (lv:=gen::(gen+1)::bR lv g) (gen:=gen+2) I (by simp) fun b cs T _ _ q3 k x a hx M=>?_⟩;by_cases e:jq=k
  ·subst e
   rw[C' (δ.1 hj).1]at M;simp only[Option.some.injEq]at M;subst M;refine .gi _ _ _ (by simp[bu]) fun r J=>?_;have:G'.own gen=some r:=J;rw[cl]at this;cases this;exact⟨ps,fun a b c M hb h1 h2=>X a b c M hb (by simp) (by simp),fun k p hp hh=>(a6 k p hp (fun e=>hh (by rw[e]))).mono U fun c _ hm=>⟨hm,rfl⟩⟩
  ·rw[List.getElem?_set_ne e]at M
   exact q3 k x a hx M
 cases hps:ps i with
 |none=>
   rw[hps]at O;obtain⟨t1,rfl⟩:=O;rcases t1 with t1|⟨c,t1⟩
   ·exact h tmps w (key .nil bs (fun _ h=>h) (fun _ _ h=>by cases h) (fun _ _ _ _ _ h=>by cases h) (fun k p hp _=>N k p hp (by simp)) (fun _ _=>⟨t1,rfl⟩) (by rw[t1];rfl))
   ·exact h tmps w (key (.zero c) bs (fun _ h=>h) (fun _ _ h=>by cases h) (fun _ _ _ _ _ h=>by cases h) (fun k p hp _=>N k p hp (by simp)) (fun _ _=>⟨t1,rfl⟩) (by rw[t1];rfl))
 |some c=>
   rw[hps]at O;obtain⟨cap,sz,cur,T1,t1,t2,t3,t4,t5,t6,t7,t8,t9,t10,t11⟩:=O
   refine h tmps w (key (.blk c es.length cap sz 0) (bs.filter fun q=>!Nat.beq q.1 c) (fun q I=>(List.mem_filter.1 I).1) (fun _ _ h=>by cases h)
    (fun c' c7 df dt di h=>by simp only[Row.blk.injEq]at h;obtain⟨rfl,rfl,rfl,rfl,rfl⟩:=h;exact⟨t2,fun q I e=>by have:=(List.mem_filter.1 I).2;rw[e]at this;simp at this,cur,T1,t4,t5,t6,t7,t8,t9,ς _,t10⟩)
    (fun k p hp hk=>(N k p hp (by simp)).mono (fun hd=>hd) fun c' e1 e2=>⟨List.mem_filter.2 ⟨e2,?_⟩,rfl⟩)
    (fun ai hm=>⟨t1,rfl,rfl,t3,fun i j e d he hd=>let⟨u,q1,q2⟩:=t11 i j e d he hd;⟨u,q1,hm q2⟩⟩) (by rw[t1];rfl))
   have c6:k<l.length:=(δ.1 hp).1;have:c'≠c:=fun e=>hk (X k i c c6 b5 (by simp) (by simp) (e▸e1) hps)
   cases I:Nat.beq c' c with
   |false=>rfl
   |true=>exact absurd (Γ I) this
theorem fv.LG(hs:fv C n ⟨f,bx,lv,gen⟩ tmps w)(gq jq s i:Nat){l:List (Value×List (List D))}(hl:look f s=some (.xs g2 es))(hq:bh bx gq=some cq)(hj:cq[jq]?=some (.gi g (xI l (some i))))(b6:(lv.any fun h=>Nat.beq h g)=true)(b0:(lv.any fun h=>Nat.beq h g2)=true)(ch:Nat.beq g2 g=false)(cj:Nat.blt s n=true)(cl:gen::bR (bR lv g) g2=lv'):∃v,fv C n ⟨(s,.d (.v v))::f,(gq,cq.set jq (.gi gen (xI (l.set i (v,es)) none)))::bx,lv',gen+1⟩ tmps w:=by
 subst cl;obtain⟨G,hs⟩:=hs;obtain⟨bs,_,a1,ps,b2,a6⟩:=hs.ku hq hj b6;have cx:g2≠g:=fun e=>by subst e;simp at ch
 obtain⟨r2,O⟩:=hs.live g2 (er b0);obtain⟨v,hx,hr⟩:=hs.frame s _ hl
 cases hr with
 |xs _ _ _ dj dt b3=>
 have I:gW w (cf C G) r2 v es:=b3 r2 O;obtain⟨bs',X,b4,b5,ad,cy⟩:∃(bs':List (Nat×Nat))(X:Option Nat),(∀p∈bs,p∈bs')∧(∀p∈bs',p∈bs∨∃len cap sz,r2=.blk p.1 len cap sz p.2)∧xo w (cf C G) X bs' v es∧∀c,X=some c->∃len cap sz ai,r2=.blk c len cap sz ai:=by
  cases r2 with
  |nil=>exact⟨bs,none,fun _ h=>h,fun _ h=>.inl h,⟨.inl I.1,I.2⟩,fun c J=>by cases J⟩
  |zero c=>exact⟨bs,none,fun _ h=>h,fun _ h=>.inl h,⟨.inr ⟨c,I.1⟩,I.2⟩,fun c J=>by cases J⟩
  |mp _ _=>exact I.elim
  |blk c len cap sz ai=>
    obtain⟨t1,t2,t3,t4,t5⟩:=I;subst t3;obtain⟨_,_,_,cur,T1,u1,u2,u3,u4,u5,u6,u7,u8⟩:=hs.row g2 c len cap sz 0 O;refine⟨(c,0)::bs,some c,fun p hp=>ω _ hp,fun p hp=>?_,⟨cap,sz,cur,T1,by rw[t1,t2],Ψ,t4,u1,u2,by omega,u4,u5,by omega,u8,t5⟩,fun c' c1=>by cases c1;exact⟨len,cap,sz,0,rfl⟩⟩;rcases N'.1 hp with rfl|hp
    ·exact .inr ⟨len,cap,sz,rfl⟩
    ·exact .inl hp
 obtain⟨G',dx,c6,hle,c7⟩:=hs.join (w':=w) a1 O cx b5 (fun _ _=>rfl) (fun c J=>by cases J) rfl rfl rfl rfl (bR (bR lv g) g2) (fun g' df=>by obtain⟨t1,t2⟩:=cQ df;obtain⟨t3,t4⟩:=cQ t1;exact⟨t3,t4,t2⟩);have U:∀{u:Value}{d:D},bN w (cf C G) u d->bN w (cf C G') u d:=fun hd=>hd.mono fun b o u hu hp=>hle.cell b o u hu hp;have aj:∀(c:Nat),X=some c->∀lim,(c,lim)∉bs:=fun c J lim hm=>by obtain⟨len,cap,sz,ai,e⟩:=cy c J;rw[e]at O;exact(hs.sub g none bs c lim a1 hm).2.2.1 _ _ _ _ _ O
 have a7:∀(k c:Nat),k<l.length->k≠i->ps k=some c->(c,0)∈bs:=fun k c hk di J=>by have:=a6 k l[k] (by simp[hk]) (fun e=>di (J' e).symm);rw[J]at this;obtain⟨cap,sz,cur,T1,t1,t2,_⟩:=this;exact t2
 have hok:dy v=true:=by
  rcases X with _|c
  ·obtain⟨t1|⟨b,t1⟩,_⟩:=ad<;>rw[t1]<;>rfl
  ·obtain⟨_,_,_,_,t1,_⟩:=ad;rw[t1];rfl
 have a8:=c7.set (d:=s) (κ cj) (v:=v) (a:=.d (.v v)) (.d (.v _ hok));rw[fN hx]at a8;refine⟨v,G',a8.fZ (f:=(s,.d (.v v))::f) (bx:=bx) (lv:=gen::bR (bR lv g) g2) (gen:=gen+1) hq (by simp) fun b cs T _ _ q3 k x a hx M=>?_⟩;by_cases e:jq=k
 ·subst e
  rw[C' (δ.1 hj).1]at M;simp only[Option.some.injEq]at M;subst M;refine .gi _ _ _ (by simp[bu]) fun r hr=>?_;have:G'.own gen=some r:=hr;rw[c6]at this;cases this;refine⟨fun k=>if k=i then X else ps k,fun a b c M hb _ _ h1 h2=>?_,fun k p hp hh=>?_⟩
  ·simp only[List.length_set]at M hb
   dsimp only at h1 h2;split at h1
   ·rename_i N
    split at h2;·rename_i e2;exact N.trans e2.symm
    ·rename_i e2;exact absurd (a7 b c hb e2 h2) (aj c h1 0)
   ·rename_i N
    split at h2;·exact absurd (a7 a c M N h1) (aj c h2 0)
    ·rename_i e2
     exact b2 a b c M hb (fun e=>N (J' e).symm) (fun e=>e2 (J' e).symm) h1 h2
  ·by_cases N:k=i
   ·subst N
    have hk:k<l.length:=by have:=(δ.1 hp).1;simpa using this
    rw[C' hk]at hp;simp only[Option.some.injEq]at hp;subst hp;simp only[if_true];exact ad.mono U fun c _ hm=>⟨hm,rfl⟩
   ·rw[List.getElem?_set_ne (Ne.symm N)]at hp
    simp only[if_neg N];exact(a6 k p hp (fun e=>N (J' e).symm)).mono U fun c _ hm=>⟨b4 _ hm,rfl⟩
 ·rw[List.getElem?_set_ne e]at M
  exact q3 k x a hx M
theorem K1{rest}(I J s i:Nat){M:List A}{l:List (Value×List (List D))}(hl:look f s=some (.xs g2 es))(hq:bh bx I=some M)(hj:M[J]?=some (.gi g (xI l (some i))))(O:(lv.any fun h=>Nat.beq h g)=true)(N:(lv.any fun h=>Nat.beq h g2)=true)(U:Nat.beq g2 g=false)(X:Nat.blt s n=true)(ad:gen::bR (bR lv g) g2=lv')(h:∀v,WO P C n ops Q rest ⟨(s,.d (.v v))::f,(I,M.set J (.gi gen (xI (l.set i (v,es)) none)))::bx,lv',gen+1⟩):WO P C n ops Q rest ⟨f,bx,lv,gen⟩:=
 fun tmps w hs=>let⟨v,hs'⟩:=fv.LG hs I J s i hl hq hj O N U X ad;h v tmps w hs'
theorem Lt(I J s i:Nat){l l1:List (Value×List (List D))}{v}(hl:look f s=some (.d (.v v)))(hq:bh bx I=some X)(hj:X[J]?=some (.gi g (xI l none)))(M:(lv.any fun h=>Nat.beq h g)=true)(ad:l1=l∨l1=l++[(.slice none 0 0,[])])(hi:l1[i]?=some (v,es))(O:Nat.blt s n=true)(U:gen::(gen+1)::bR lv g=lv')(h:W P C n cd Q ⟨(s,.xs (gen+1) es)::f,(I,X.set J (.gi gen (xI l1 (some i))))::bx,lv',gen+2⟩):W P C n cd Q ⟨f,bx,lv,gen⟩:=by
 rcases ad with rfl|rfl
 ·exact HD I J s i hl hq hj M hi O U Z h
 ·have ai:=(δ.1 hj).1
  refine Lx I J hq hj M Z (HD I J s i hl (by rw[cZ,if_pos rfl]) (by rw[C' ai]) M hi O U Z ?_);rw[List.set_set];intro tmps w ⟨G,hs⟩;refine h tmps w ⟨G,{hs with box:=fun g' cells N=>hs.box g' cells ?_}⟩;simp only[cZ]at N⊢;by_cases e:I=g';·rw[if_pos e]at N⊢;exact N
  ·rw[if_neg e]at N⊢;rw[if_neg e];exact N
end
section
variable{n:Nat}
theorem bq.KU(h:bq C n st G tmps w)(g g2 lv)(M:∀x∈lv,x∈st.lv∧x≠g∧x≠g2):
 (bu C G st.gen w).le (bu C ⟨G.box,fun x=>if x=g∨x=g2 then none else G.own x⟩ st.gen w)∧bq C n {st with lv:=lv} ⟨G.box,fun x=>if x=g∨x=g2 then none else G.own x⟩ tmps w:=by
 have old:∀{x r},(if x=g∨x=g2 then none else G.own x)=some r->G.own x=some r:=fun{x r} I=>by grind
 exact h.grow (w':=w) (.refl _ w) _ st.gen lv (χ _) (fun x r _ I=>old I) (fun x r I=>h.gown x r (old I)) (fun x N=>by
  obtain⟨h1,h2,h3⟩:=M x N;obtain⟨r,I⟩:=h.live x h1;exact⟨r,by rw[if_neg (by rintro(e|e);exact h2 e;exact h3 e)];exact I⟩)
  (fun x b len cap sz O J I=>absurd (h.gown x _ (old I)) (Nat.not_lt.2 J)) (fun x b bs J I=>absurd (h.gown x _ (old I)) (Nat.not_lt.2 J)) (fun x b bs c lim J I hm=>absurd (h.gown x _ (old I)) (Nat.not_lt.2 J))
theorem bq.bare(h:bq C n st G tmps w){J}(O:G.own g=some (.mp J bs))(g2){c lim}(hm:(c,lim)∈bs)(o):¬cf C ⟨G.box,fun x=>if x=g∨x=g2 then none else G.own x⟩ c o:=by
 have old:∀{x r},(if x=g∨x=g2 then none else G.own x)=some r->x≠g∧G.own x=some r:=fun{x r} hr=>by grind
 obtain⟨I,a1,a6,N,cur,T,U,_⟩:=h.sub g J bs c lim O hm;rintro(hp|⟨M,hp⟩|⟨M,X,ad,a7,ai,hp,hl'⟩|⟨M,b',bs',aj,hp,a8,_⟩)
 ·have:=h.xold _ _ hp
  rcases I.1 with hm|hm
  ·omega
  ·grind
 ·grind
 ·grind
 ·grind
end
def K8{γ:Type}(fn:γ->List D)(l2:List (Value×List γ))(d I:D):Prop:=I=d∨∃(k:Nat)(es:List γ)(raw:Value),l2[k]?=some (raw,es)∧d=.v raw∧I=.sl (es.map fn)
def Bm{γ:Type}(fn:γ->List D)(l2:List (Value×List γ))(es I:List (List D)):Prop:=
 I.length=es.length∧∀(j:Nat)(e J:List D),es[j]?=some e->I[j]?=some J->J.length=e.length∧∀(q:Nat)(d M:D),e[q]?=some d->J[q]?=some M->K8 fn l2 d M
section
variable{n:Nat}{cd:Code}
variable{f':List (Nat×A)}{bx bx':List (Nat×List A)}
variable{γ:Type}{kf:α→Value}{fn:γ→List D}
theorem KC(gq jq X s:Nat){l:List (Value×List (List D))}{l2}{ks:List (α×D)}{ks':List (α×D)}(hl:look f s=some (.mp J (eP kf (fun d:D=>d) ks)))(hq:bh bx gq=some cq)(hj:cq[jq]?=some (.gi g (xI l none)))(b4:cq[X]?=some (.gi g2 (gG fn l2 none)))(b5:(lv.any fun h=>Nat.beq h g)=true)(a7:(lv.any fun h=>Nat.beq h g2)=true)(b6:(lv.any fun h=>Nat.beq h J)=true)(ai:Nat.beq J g=false)(a8:Nat.beq J g2=false)(ch:Nat.blt s n=true)(hlen:ks'.length=ks.length)(hk:∀(i:Nat)(p p':α×D),ks[i]?=some p->ks'[i]?=some p'->p'.1=p.1∧∃(j:Nat)(v:Value)(es I:List (List D)),l[j]?=some (v,es)∧p.2=.v v∧p'.2=.sl I∧Bm fn l2 es I)(cj:bR (bR lv g) g2=lv')(h:W P C n cd Q ⟨(s,.mp J (eP kf (fun d:D=>d) ks'))::f,(gq,(cq.set jq .any).set X .any)::bx,lv',gen⟩):W P C n cd Q ⟨f,bx,lv,gen⟩:=by
 subst cj;intro tmps w ⟨G,hs⟩;obtain⟨bs,_,cl,ps,dt,cx⟩:=hs.ku hq hj b5;obtain⟨ec,_,dx,ed,dj,b0⟩:=hs.ku hq b4 a7;obtain⟨x,hx,hr⟩:=hs.frame s _ hl;obtain⟨rm,aj⟩:=hs.live J (er b6);have cy:J≠g:=fun e=>by subst e;simp at ai
 have b2:J≠g2:=fun e=>by subst e;simp at a8
 obtain⟨hle,c1⟩:=hs.KU g g2 (bR (bR lv g) g2) (fun x hx=>by obtain⟨t1,t2⟩:=cQ hx;obtain⟨t3,t4⟩:=cQ t1;exact⟨t3,t4,t2⟩);have ad:∀{u:Value}{d:D},bN w (cf C G) u d->bN w (cf C ⟨G.box,fun x=>if x=g∨x=g2 then none else G.own x⟩) u d:=fun hd=>hd.mono fun b o u hu hp=>hle.cell b o u hu hp;have c6:∀{u:Value}{d d':D},bN w (cf C G) u d->K8 fn l2 d d'->bN w (cf C ⟨G.box,fun x=>if x=g∨x=g2 then none else G.own x⟩) u d':=fun{u d d'} hd he=>by
  rcases he with rfl|⟨k,es,raw,q1,rfl,rfl⟩
  ·exact ad hd
  ·cases hd
   exact ad (b0 k _ q1).1
 have c7:∀{j:Nat}{v:Value}{es I:List (List D)},l[j]?=some (v,es)->Bm fn l2 es I->bN w (cf C ⟨G.box,fun x=>if x=g∨x=g2 then none else G.own x⟩) v (.sl I):=fun{j v es I} hj he=>by
  have h1:xo w (cf C G) (ps j) bs v es:=cx j _ hj (by simp);obtain⟨M,he⟩:=he
  cases hps:ps j with
  |none=>
    rw[hps]at h1;obtain⟨h2,rfl⟩:=h1;have:I=[]:=A' M;subst this;rcases h2 with rfl|⟨b,rfl⟩
    ·exact .nil
    ·exact .emp _ _ (by simp)
  |some b=>
    rw[hps]at h1;obtain⟨cap,sz,cur,T,t1,t2,t3,t4,t5,t6,t7,t8,t9,t10,t11⟩:=h1;subst t1;have df:∀(e:List D),e∈I->e.length=sz:=fun e hm=>by
     obtain⟨i,hi⟩:=ψ.1 hm;have N:i<es.length:=by rw[<-M];exact(δ.1 hi).1
     have h2:es[i]?=some es[i]:=by simp[N]
     rw[(he i _ _ h2 hi).1];exact t3 _ (List.getElem_mem N)
    rw[<-M];refine au t4 (by omega) t7 df (fun t ht hp=>hs.bare cl g2 t2 t hp) (fun i k e' d' hi hd=>?_);have N:i<es.length:=by rw[<-M];exact(δ.1 hi).1
    have h2:es[i]?=some es[i]:=by simp[N]
    obtain⟨q1,q2⟩:=he i _ _ h2 hi;have di:k<es[i].length:=by rw[<-q1];exact(δ.1 hd).1
    have h3:es[i][k]?=some es[i][k]:=by simp[di]
    obtain⟨u,r1,r2⟩:=t11 i k _ _ h2 h3;rw[cP t4]at r1;exact⟨u,r1,c6 r2 (q2 k _ _ h3 hd)⟩
 cases hr with
 |mp _ _ _ ai h1 b3=>
 have U:oH w (cf C G) rm x (eP kf (fun d:D=>d) ks):=b3 rm aj;have a1:=c1.set (d:=s) (κ ch) (v:=x) (a:=.mp J (eP kf (fun d:D=>d) ks')) (.mp _ _ _ ai h1 fun r hr=>by
  have hr:(if J=g∨J=g2 then none else G.own J)=some r:=hr;rw[if_neg (by rintro(e|e);exact cy e;exact b2 e),aj]at hr;cases hr
  cases rm with
  |nil=>exact U.elim
  |zero b=>exact U.elim
  |blk b len cap sz ei=>exact U.elim
  |mp b ej=>
  cases b with
  |none=>exact U.elim
  |some b=>
  obtain⟨r1,me,clock,r2,r3,r4,r5⟩:=U;refine⟨r1,me,clock,r2,r3,by rw[r4];simp[eP,hlen],fun i m k lk hm hp=>?_⟩;simp only[eP,τ,ν]at hp;obtain⟨p',a6,e⟩:=hp;simp only[Prod.mk.injEq]at e;obtain⟨rfl,rfl⟩:=e;have N:i<ks.length:=by rw[<-hlen];exact(δ.1 a6).1
  have h2:ks[i]?=some ks[i]:=by simp[N]
  obtain⟨q1,j,v,es,I,q2,q3,q4,q5⟩:=hk i _ _ h2 a6;obtain⟨t1,t2,t3⟩:=r5 i m (kf ks[i].1) [ks[i].2] hm (by simp[eP,N]);rw[q1];refine⟨t1,t2,?_⟩;have t3:bN w (cf C G) m.val ks[i].2:=t3;rw[q3]at t3;show bN w _ m.val p'.2;rw[q4];generalize m.val=z at t3;cases t3;exact c7 q2 q5)
 rw[fN hx]at a1;refine h tmps w ⟨_,a1.fZ (f:=(s,.mp J (eP kf (fun d:D=>d) ks'))::f) (bx:=bx) (lv:=bR (bR lv g) g2) (gen:=gen) hq (by simp) fun b cs T _ _ q3 k x a hx O=>?_⟩;by_cases e2:X=k
 ·subst e2
  by_cases hlt:X<cq.length
  ·rw[C' (by simpa using hlt)]at O
   simp only[Option.some.injEq]at O;subst O;exact .any _
  ·grind
 ·rw[List.getElem?_set_ne e2]at O
  by_cases e:jq=k
  ·subst e
   rw[C' (δ.1 hj).1]at O;simp only[Option.some.injEq]at O;subst O;exact .any _
  ·rw[List.getElem?_set_ne e]at O
   exact q3 k x a hx O
end
section
variable[dw P]{n:Nat}{c:Code}
variable{bx:List (Nat×List A)}
omit [dw P] in
theorem Wd.ca[hnb:NB C J](V:ι->List (Nat×A))(fi)(B:ι->List (Nat×List A))(bi lv' gen')(I:ι->Nat)(order)(i:ι)(O:lT order gen' J=true)(U:pA order f (V i))(M:py f fi)(hb:kR order bx (B i))(N:ml order bx bi)(hl:tR order lv lv'=true)(X:∀i,Wd P C n c (Hx C n (fun i=>⟨V i++fi,B i++bi,lv',gen'⟩) I (I i) Q) ⟨V i++fi,B i++bi,lv',gen'⟩):Wd P C n (.loop c) Q ⟨f,bx,lv,gen⟩:=
 Wd.conv (st':=⟨V i++fi,B i++bi,lv',gen'⟩) (fun _ _ h=>fv.cT order O U M hb N hl h) (Wd.loop (fun i=>⟨V i++fi,B i++bi,lv',gen'⟩) I X i)
theorem Wd.cg{I}[hnb:NB C I]{V:ι->List (Nat×A)}{fi}{B:ι->List (Nat×List A)}{bi}{J:ι->Nat}(order)(i:ι)(hm:J i<m)(O:lT order gen' I=true)(U:pA order f (V i))(M:py f fi)(hb:kR order bx (B i))(N:ml order bx bi)(hl:tR order lv lv'=true):
 Hx C n (fun i=>⟨V i++fi,B i++bi,lv',gen'⟩) J m Q .normal ⟨f,bx,lv,gen⟩:=⟨i,hm,fun _ _ h=>fv.cT order O U M hb N hl h⟩
variable{y:Code}
omit [dw P] in
theorem lX(I:oM st=true)(h:Wd P C n y Q st):QN (yC P C n y Q) .normal st:=⟨I,h⟩
theorem LO(I:oM st=true)(h:Q .normal st):QN Q .normal st:=⟨I,h⟩
theorem yc(I:oM st=true)(h:Q .ret st):QN Q .ret st:=⟨I,h⟩
theorem JU(I:oM st=true)(h:Q (.exit id) st):QN Q (.exit id) st:=⟨I,h⟩
omit [dw P] in
theorem Lb(h:Wd P C n y Q st):yC P C n y Q .normal st:=h
omit [dw P] in
theorem yH(h:Q .ret st):yC P C n y Q .ret st:=h
omit [dw P] in
theorem Iy(h:Q (.exit id) st):yC P C n y Q (.exit id) st:=h
theorem Is{S:ι->St}{I:ι->Nat}(h:Q (.exit id) st):Hx C n S I m Q (.exit id) st:=h
def Es(f:List (Nat×A))(bx:List (Nat×List A))(gs os:List Nat):List (Nat×A)->Prop
 |[]=>True
 |(t,a')::r=>(∃a,look f t=some a∧eI bx gs os 5 a=a')∧Es f bx gs os r
theorem aJ:∀{V:List (Nat×A)},Es f bx gs os V->∀t a',look V t=some a'->∃a,Ab.look f t=some a∧eI bx gs os 5 a=a'
 |[],_,t,a',h=>by simp[Ab.look]at h
 |(s,b)::r,⟨h1,h2⟩,t,a',h=>by
   rw[ct]at h;split at h;·grind
   ·exact aJ h2 t a' h
def Dy(bx:List (Nat×List A))(o:List Nat):Nat->List (List A)->Prop
 |_,[]=>True
 |i,c::r=>(∃c0,bh bx i=some c0∧iF o c0=c)∧Dy bx o (i+1) r
theorem Dy.get{o}:∀{b:List (List A)}{j:Nat},Dy bx o j b->∀(i:Nat)(c:List A),b[i]?=some c->∃c0,bh bx (j+i)=some c0∧iF o c0=c
 |[],_,_,i,c,h=>by simp at h
 |I::r,j,⟨h1,h2⟩,i,c,h=>by
   cases i with
   |zero=>grind
   |succ i=>simp only[List.getElem?_cons_succ]at h;have:=Dy.get h2 i c h;grind
theorem QR.mk'(order:List Nat)(M:order.length=k)(I:nodupB (fa b1.length order)=true)(J:(order.all fun g=>lv.any fun h=>Nat.beq h g)=true)(hb:Dy bx (fa b1.length order) 0 b1):QR b1 k ⟨f,bx,lv,gen⟩:=
 QR.mk order M I J fun i c h=>by have:=hb.get i c h;grind
end
def uA(P:Program)(fid:FuncId):Prop:=
 ∀(l:Nat)(W:World)(I J b1 o1:Nat)(a:Option Addr)(cap:Nat)(R:World->Prop),cellAt W I J=some (.slice a 0 cap)->cellAt W b1 o1=some (.int .i64 1000)->R W->
   Calls P fid #[.func (.yield l) #[] #[],.pointer (some ⟨I,J,none⟩),.pointer (some ⟨b1,o1,none⟩)] W fun e W'=>(∃v,e=.returned v)∧R W'
section
variable[dw P][GC P C]{n:Nat}
omit [dw P] in
theorem Wd.Ja{g par assign body}(hg:av st.f g=some (.clo fid [.rowd [.sl []],.rowd [.v (.int .i64 1000)]]))(hok:kB P fid)(hit:uA P fid)(h:Q .normal st):
 Wd P C n (.rangeFunc g #[par] assign body) Q st:=by
 intro tmps ds w ⟨G,hs⟩ ⟨Ds,U,cl,b0⟩;have U:ds=Ds.map Aw:=U;subst U;obtain⟨p0,o0,p1,o1,b2,⟨u0,b3,b4⟩,b5⟩:=wS hs hg;obtain⟨a,cap,rfl⟩:=xB b4;refine(wpIn_wide (n:=1)).1 (wpIn_rangeFunc ?_);intro fn _;obtain⟨rec,J⟩:∃rec:LoopState->Option Code->Loop,rec=fun s pe=>{state:=s,pending:=pe,fn,tmps:=tmps,params:=#[par],assign:=assign,body,defers:=w.heap.size}:=⟨_,rfl⟩;obtain⟨I,N⟩:∃I,(w.alloc (.deferred (some []))).alloc (.loop (rec .ready none))=I:=⟨_,rfl⟩;have X:I.heap[w.heap.size+1]?=some (.loop (rec .ready none)):=by rw[<-N];have:=World.alloc_heap_new (w.alloc (.deferred (some []))) (.loop (rec .ready none));rwa[World.size_alloc]at this
 have O:Below w.heap.size w I:=by rw[<-N];exact((Below.refl _ w).alloc (χ _) _).alloc (by simp) _
 have cq:I.heap[w.heap.size]?=some (.deferred (some [])):=by rw[<-N];exact(Below.heap_alloc _ _ _ (by simp)).trans (World.alloc_heap_new w _)
 have b6:bq C n st G tmps I:=(hs.ij O).2;have cj:w.heap.size<=I.heap.size:=O.size;have a1:∀{b o u},cellAt w b o=some u->cellAt I b o=some u:=fun{b o u} hu=>by rw[cL (O.block b (ea hu))];exact hu
 have cx:=hs.fr.size
 refine⟨w.heap.size+1,[{target:=.collected w.heap.size,args:=#[]}],I,{target:=.fn (.func fid) #[.pointer (some ⟨p0,o0,none⟩),.pointer (some ⟨p1,o1,none⟩)],args:=#[.func (.yield (w.heap.size+1)) #[] #[]]},I,fid,
  #[.func (.yield (w.heap.size+1)) #[] #[]]++#[.pointer (some ⟨p0,o0,none⟩),.pointer (some ⟨p1,o1,none⟩)],I,?_,?_,?_,?_,fun _=>χ _,?_⟩
 ·rw[<-N,J];exact run_enterLoop_outer _ _ _ _ _
 ·have a7:Act.eval ⟨tmps,Ds.map Aw⟩ g=.func (.func fid) #[] #[.pointer (some ⟨p0,o0,none⟩),.pointer (some ⟨p1,o1,none⟩)]:=by rw[Act.jN tmps _ []];exact b2
  simp only[resolve,a7];simp[go_sem]
 ·intro f' _;trivial
 ·obtain⟨cy,a8,ad,ai⟩:=hok
  simp only[Sem.run_bind,Sem.run_pure,Result.andThen_ok,invoke,callFunc,run_program,a8,ad,ai,L',if_false]
 refine CallsIn.mono (callsIn_wide.2 (hit (w.heap.size+1) I p0 o0 p1 o1 a cap (fun W'=>W'=I) (a1 b3) (a1 b5) Z)) ?_;rintro e W3 ⟨⟨v,rfl⟩,rfl⟩;have a6:=run_endLoop (P:=P) X (by rw[J];simp);rw[J]at a6;refine⟨none,_,a6,?_⟩;have ch:∀D,W3.heap[D]?=some (Obj.deferred (some []))->D≠w.heap.size+1:=fun D M e=>by rw[e,X]at M;cases M
 have aj:∀D:Nat,W3.heap[D]?=some (Obj.deferred (some []))->(W3.putObj (w.heap.size+1) (.loop {rec .ready none with state:=.exhausted})).heap[D]?=some (Obj.deferred (some [])):=fun D M=>by rw[World.putObj_heap_other (ch D M)];exact M
 rw[J]at aj;refine⟨⟨w.heap.size::Ds,rfl,?_,fun D M=>?_⟩,_,⟨G,b6.rM X rfl (by omega) _⟩,h⟩;·grind
 ·rcases N'.1 M with rfl|M
  ·grind
  ·obtain⟨h1,h2⟩:=b0 D M
   exact⟨h1,aj D (by rw[O.block D (θ.1 h2).1];exact h2)⟩
theorem GL(h:fv C n st tmps w)(M:nodupB gs=true)(N:nodupB os=true)(O:(os.all fun g=>st.lv.any fun h=>Nat.beq h g)=true)(hb:gF st.bx gs os gs=some I):
 fv C n ⟨st.f,jJ gs st.gen gs I++st.bx,(List.range os.length).map (I.length+·+st.gen)++st.lv.filter (fun g=>!os.any (Nat.beq g)),I.length+os.length+st.gen⟩ tmps w:=by
 obtain⟨G,hs⟩:=h;obtain⟨_,J⟩:=hs.mc (gs:=gs) (os:=os) (eX M) (eX N) (fun g X=>by obtain⟨y,hy,he⟩:=F'.1 (I'.1 O g X);exact Γ he▸hy) hb;obtain⟨G4,_,U⟩:=hs.uX hb rfl J;exact⟨G4,U⟩
theorem Wd.J2{g par pos af body}(hg:av st.f g=some (.clo fid [.rowd [.sl es],.rowd [.v (.int .i64 1000)]]))(hok:kB P fid)(hit:wu P fid)(U:uA P fid)(X:es.length<=1000)(ad:Nat.blt par n=true)(ai:Nat.blt d n=true)(gs os:List Nat)(M:nodupB gs=true)(N:nodupB os=true)(O:(os.all fun g=>st.lv.any fun h=>Nat.beq h g)=true){V:List (Nat×A)}(hb:gF st.bx gs os gs=some I)(hm:os.length=m)(hV:∀t a',look V t=some a'->∃a,look st.f t=some a∧eI st.bx gs os 5 a=a')(aj:(V.all fun x=>!Nat.beq x.1 par)=true)(h0:es=[]->b1=I∧k=m)(J:es≠[]->rH P n body ((d,.d (.sl es))::V) I m b1 k)(a1:b1.length=I.length)(h:Q .normal ⟨st.f,jJ gs st.gen gs b1++st.bx,(List.range k).map (I.length+·+st.gen)++st.lv.filter (fun g=>!os.any (Nat.beq g)),I.length+k+st.gen⟩):
 Wd P C n (.rangeFunc g #[par] (.region id #[⟨some d,.assign (.tmp par),ty,pos,af,none⟩] false) body) Q st:=by
 rcases Nat.eq_zero_or_pos es.length with hz|hp
 ·have he:es=[]:=List.length_eq_zero_iff.1 hz
  obtain⟨rfl,rfl⟩:=h0 he;subst he;subst hm;intro tmps ds w hs a6;refine Code.wp_mono ?_ (Wd.Ja (Q:=fun e s=>e=.normal∧s=st) hg hok U ⟨rfl,rfl⟩ tmps ds w hs a6);rintro e a w' ⟨hd,a8,a7,rfl,rfl⟩;exact⟨hd,_,GL a7 M N O hb,h⟩
 ·exact aU hg hok hit hp X ad ai gs os M N O hb hm hV aj (J (fun e=>by rw[e]at hp;cases hp)) a1 h
end
end Go.Ab
