import Derived.Test.YtpiaiiopakafhaaGreatDoorQ2
import Derived.Lib.AppendStr
import Derived.Lib.Builder
import Derived.Lib.UnsafeStr
import Derived.Recover
import Derived.RangeFuncLeaves
import Derived.RangeFuncCalls
namespace Go.Ab
open Go.RowKit Go.MapKept
def gW {α γ:Type} (kf:α→Value) (fn:γ→List D) (l:List (α×List γ)):List (Value×List (List D)):=l.map fun p=>(kf p.1,p.2.map fn)
section
variable {α γ:Type} {kf:α→Value} {fn:γ→List D}
theorem zM {l:List (α×List γ)} {i:Nat} {k:Value} {x:List (List D)} (h:(gW kf fn l)[i]? = some (k,x)):∃ p,l[i]? = some p∧k=kf p.1∧x=p.2.map fn:=by grind[gW,Option.map_eq_some_iff,Prod.mk.injEq]
theorem yS {l:List (α×List γ)} {k:Value} {x:List (List D)} (h:(k,x)∈gW kf fn l):∃ p∈l,k=kf p.1∧x=p.2.map fn:=by obtain⟨i,hi⟩:=List.mem_iff_getElem?.1 h;obtain⟨p,hp,e⟩:=zM hi;grind
structure qJ (w:World) (pv:Nat→Nat→Prop) (b:Nat) (bs:List (Nat×Nat)) (kf:α→Value) (fn:γ→List D) (l:List (α×List γ)) (hole:Option Value) (me:Array MapEntry) (clock:Nat) (ps:Value→Option Nat):Prop where
 hb:w.heap[b]? = some (.map me clock)
 st:Stamped me clock
 mi:iB w pv kf (fun x:List γ=>D.sl (x.map fn)) me l
 inj:∀ p p':α×List γ,∀ c,p∈l→p'∈l→hole≠some (kf p.1)→hole≠some (kf p'.1)→ps (kf p.1)=some c→ps (kf p'.1)=some c→kf p.1=kf p'.1
 at_:∀ (i:Nat) (m:MapEntry) (p:α×List γ),me[i]? = some m→l[i]? = some p→hole≠some (kf p.1)→lW w (ps (kf p.1)) bs m.val (p.2.map fn)
theorem qJ.of {w:World} {pv:Nat→Nat→Prop} {b:Nat} {bs:List (Nat×Nat)} {v:Value} {l:List (α×List γ)} {hole:Option Value} (h:mh w pv (.mp (some b) bs) v (gW kf fn l) hole):v=.map (some b)∧∃ I clock ps,qJ w pv b bs kf fn l hole I clock ps:=by
 obtain⟨h1,I,clock,h2,h3,h4,ps,h5,J⟩:=h;refine⟨h1,I,clock,ps,h2,h3,⟨by rw[h4];simp[gW],fun i m p hm hp=>?_⟩,fun p M c hp N q1 q2 q3 q4=>?_,fun i m p hm hp O=>?_⟩
 ·obtain⟨q1,q2,q3,_⟩:=J i m (kf p.1) (p.2.map fn) hm (by simp[gW,hp])
  grind
 ·exact h5 _ _ (p.2.map fn) (M.2.map fn) c (List.mem_map.2 ⟨p,hp,rfl⟩) (List.mem_map.2 ⟨M,N,rfl⟩) q1 q2 q3 q4
 ·exact(J i m (kf p.1) (p.2.map fn) hm (by simp[gW,hp])).2.2.2 O
theorem qJ.to {w:World} {pv:Nat→Nat→Prop} {b:Nat} {bs:List (Nat×Nat)} {l:List (α×List γ)} {hole:Option Value} {J:Array MapEntry} {clock:Nat} {ps:Value→Option Nat} (h:qJ w pv b bs kf fn l hole J clock ps):mh w pv (.mp (some b) bs) (.map (some b)) (gW kf fn l) hole:=by
 refine⟨rfl,J,clock,h.hb,h.st,by rw[h.mi.1];simp[gW],ps,fun k U x X c I M q1 q2 q3 q4=>?_,fun i m k x hm I=>?_⟩
 ·obtain⟨p,hp,rfl,rfl⟩:=yS I
  obtain⟨O,N,rfl,rfl⟩:=yS M;exact h.inj p O c hp N q1 q2 q3 q4
 ·obtain⟨p,hp,rfl,rfl⟩:=zM I
  obtain⟨q1,q2,q3⟩:=h.mi.2 i m p hm hp;exact⟨q1,q2,q3,h.at_ i m p hm hp⟩
theorem lW.mono {w w':World} {bs bs':List (Nat×Nat)} {o:Option Nat} {v:Value} {l:List (List D)} (h:lW w o bs v l) (I:∀ c lim,o=some c→(c,lim)∈bs→(c,lim)∈bs'∧w'.heap[c]? = w.heap[c]?):lW w' o bs' v l:=by
 cases o with
 | none=>exact h
 | some c=>obtain⟨cap,sz,cur,T,J,a2,a3,a4,a5,M,N,O,a9⟩:=h;obtain⟨q1,q2⟩:=I c _ rfl a2;exact⟨cap,sz,cur,T,J,q1,a3,a4,a5,M,N,by rw[q2];exact O,a9⟩
end
section
variable {P:Program} (T:cn P) {C:Ctx} {n:Nat} {ops:Array Oper} {Q:Exit→St→Prop} {rest:List Oper}
variable {f:List (Nat×A)} {bx:List (Nat×List A)} {lv:List Nat} {gen:Nat} {d:Nat} {ty:TypeId} {pos:String} {af:Array Edge} {dst:Option Nat} {c:Code}
variable {α γ:Type} [DecidableEq α] {kf:α→Value} {fn:γ→List D}
omit [DecidableEq α] in
theorem bg.EJ {st:St} {G:Gh} {tmps:Array Value} {w:World} (hs:bg C n st G tmps w) {v:Value} {g:Nat} {l:List (α×List γ)} {hole:Option Value} {U:Option Nat} (X:bu (bj C G st.gen w) v (.mo g (gW kf fn l) hole U)) (O:g∈st.lv) :
 ∃ b bs M clock ps,G.own g=some (.mp (some b) bs)∧v=.map (some b)∧qJ w (bM C G) b bs kf fn l hole M clock ps:=by
 obtain⟨r,J⟩:=hs.live g O
 cases X with
 | mo _ _ _ _ _ ad h1 N=>
 have I:=N r J
 cases r with
 | nil=>exact I.elim
 | zero b=>exact I.elim
 | blk b len cap sz ai=>exact I.elim
 | mp b bs=>
   cases b with
   | none=>exact I.elim
   | some b=>
   obtain⟨h2,M,clock,ps,h3⟩:=qJ.of I;exact⟨b,bs,M,clock,ps,J,h2,h3⟩
theorem GV {t:TypeId} (hd:Nat.blt d n=true) (h:WO P C n ops Q rest ⟨(d,.mo gen [] none none)::f,bx,gen::lv,gen+1⟩):WO P C n ops Q (⟨some d,.makeMap t none,ty,pos,af,none⟩::rest) ⟨f,bx,lv,gen⟩:=by
 refine WO.step (st:=⟨f,bx,lv,gen⟩) rfl fun tmps w ⟨G,hs⟩=>?_;obtain⟨U,N,J⟩:=hs.w9;refine cL (v:=.map (some w.heap.size)) (w':=w.alloc (.map #[] 0)) ?_ ⟨_,⟨U,N.put (dst:=some d) (cJ (dst:=some d) hd) ?_⟩,h⟩
 ·unfold execOp
  show Sem.run P _ w=.ok _ _;simp[Instr.makeMap,Sem.run_bind,Result.andThen]
 ·cases J with
  | mp _ _ _ O h1 M=>
  refine .mo _ _ _ _ _ O ⟨h1,fun b hb=>by cases hb⟩ (fun r J=>?_);have I:=M r J
  cases r with
  | nil=>exact I.elim
  | zero b=>exact I.elim
  | blk b len cap sz ad=>exact I.elim
  | mp b bs=>
    cases b with
    | none=>exact I.elim
    | some b=>
    obtain⟨q1,X,clock,q2,q3,q4,_⟩:=I;exact⟨q1,X,clock,q2,q3,q4,fun _=>none,fun _ _ _ _ _ h=>(by cases h),fun i m k x hm hk=>(by simp at hk)⟩
theorem W.H2 (gq I:Nat) {g:Nat} {X:List A} {es:List (Value×List (List D))} {hole:Option Value} (hq:aY bx gq=some X) (hj:X[I]? = some (.mo g es hole none)) (ai:(lv.any fun h=>Nat.beq h g)=true)
 (h:∀ b,W P C n c Q ⟨f,(gq,X.set I (.mo g es hole (some b)))::bx,lv,gen⟩):W P C n c Q ⟨f,bx,lv,gen⟩:=by
 intro tmps w ⟨G,hs⟩;obtain⟨r,aj⟩:=hs.live g (dw ai);obtain⟨b0,J,T0,p1,p2,p3,p4,p5⟩:=hs.box gq X hq;have a1:I < J.size:=by rw[p3];exact(List.getElem?_eq_some_iff.1 hj).1
 have M:J[I]? = some J[I]:=by simp[a1]
 have N:=p5 I _ _ M hj;generalize hv:J[I]=v at N M
 cases N with
 | mo _ _ _ _ _ a6 h1 O=>
 have U:=O r aj
 cases r with
 | nil=>exact U.elim
 | zero b=>exact U.elim
 | blk b len cap sz b2=>exact U.elim
 | mp b bs=>
   cases b with
   | none=>exact U.elim
   | some b=>
   have a7:v=.map (some b):=U.1;refine h b tmps w ⟨G,hs.fw hq (by simp) fun b3 b4 T3 q1 q2 q3 i x' a' ad ha=>?_⟩;by_cases e:I=i
   ·subst e
    rw[List.getElem?_set_self (List.getElem?_eq_some_iff.1 hj).1] at ha;simp only[Option.some.injEq] at ha;subst ha;rw[p1] at q1;cases q1;rw[p2] at q2;cases q2;rw[M] at ad;cases ad;exact .mo _ _ _ _ _ a6 ⟨h1.1,fun b' a8=>by cases a8;exact a7⟩ O
   ·grind
theorem sq {w:World} {pv:Nat→Nat→Prop} {β:Type} {vf:β→D} {mt k e:Nat} {td I:cI} (ht:aY T.l mt=some td) (O:td.k=.map k e) (he:aY T.l e=some I) (M:jG P k kf) {zx:Value} (U:I.z=[zx]) (X:mj I.k=true) {b:Nat} {N:Array MapEntry} {clock:Nat}
 (hb:w.heap[b]? = some (.map N clock)) {l:List (α×β)} (h:iB w pv kf vf N l) (hn:(l.map (·.1)).Nodup) (a:α) :
 ∃ v,(Instr.lookup mt (.map (some b)) (kf a) false).run P w=.ok v w∧((cb l a=none∧(∀ p∈l,p.1≠a)∧v=zx)∨∃ (j:Nat) (m:MapEntry) (p:α×β),N[j]? = some m∧l[j]? = some p∧p.1=a∧v=m.val∧cb l a=some p.2∧bE w pv v (vf p.2)):=by
 obtain⟨d,hd,hk⟩:=M.ty;have hm:=T.wU ht O;rcases h.find M hn a with ⟨h1,h2,h3⟩ | ⟨j,en,p,h1,h2,h3,h4,h5,h6,h7⟩
 ·obtain⟨i,J,hi,_,_,ad,ai,_,_,aj⟩:=T.info he
  have a1:J=zx:=by rw[U] at ai;cases hke:I.k <;> rw[hke] at X aj <;> cases J <;> simp_all[Value.cells,mj]
  subst a1;refine⟨J,?_,.inl ⟨h3,h2,rfl⟩⟩;unfold Instr.lookup;simp only[Sem.run_bind,run_underlying hm,Result.andThen_ok,Go.MapKept.run_getObj_map hb,Sem.run_pure,run_checkKey hd (hk a),h1];have:(zeroValue e).run P w=.ok J w:=by simp[zeroValue,typeInfo,Sem.run_bind,run_program,hi,ad,Result.andThen]
  simp_all
 ·refine⟨en.val,?_,.inr ⟨j,en,p,h2,h3,h4,rfl,h6,h7⟩⟩
  unfold Instr.lookup;simp only[Sem.run_bind,run_underlying hm,Result.andThen_ok,Go.MapKept.run_getObj_map hb,Sem.run_pure,run_checkKey hd (hk a),h1];rfl
theorem DI {mt k e:Nat} {td N:cI} {m O:Operand} {g:Nat} {l:List (α×List γ)} {a:α} {ob:Option Nat} (hm:av f m=some (.mo g (gW kf fn l) none ob)) (hk:av f O=some (.d (.v (kf a))))
 (ht:aY T.l mt=some td) (U:td.k=.map k e) (he:aY T.l e=some N) (X:jG P k kf) (ad:(lv.any fun h=>Nat.beq h g)=true) (ai:N.z=[.slice none 0 0]) (aj:mj N.k=true) (hn:(l.map (·.1)).Nodup) {r:List (List D)} (hr:((cb l a).getD []).map fn=r) :
 Pu P C n ⟨f,bx,lv,gen⟩ ⟨dst,.lookup mt m O false,ty,pos,af,none⟩ (.d (.sl r)):=by
 subst hr;refine ao fun G tmps w hs=>?_;have J:=hs.av hm;have I:=hs.av hk;generalize hv:Act.eval ⟨tmps,[]⟩ m=v at J;generalize a1:Act.eval ⟨tmps,[]⟩ O=vk at I;obtain⟨b,bs,me,clock,ps,a6,rfl,M⟩:=hs.EJ J (dw ad);cases I with | d I=>cases I with | v _ hok=>
 obtain⟨u,h1,h2⟩:=sq (P:=P) T ht U he X ai aj M.hb M.mi hn a;refine⟨u,?_,?_⟩
 ·unfold execOp
  show Sem.run P _ w=.ok _ _;simp only[hv,a1,Sem.run_bind,h1,Result.andThen_ok,Sem.run_pure];rfl
 ·rcases h2 with ⟨q1,_,rfl⟩ | ⟨j,mm,p,_,_,_,_,q1,q2⟩
  ·rw[q1];exact .d .nil
  ·rw[q1];exact .d q2
theorem tC (I J:Nat) {t:TypeId} {p:Operand} {g b:Nat} {M:List A} {es:List (Value×List (List D))} {hole:Option Value} (hp:av f p=some (.ptr I J)) (O:aY bx I=some M) (hj:M[J]? = some (.mo g es hole (some b)))
 (N:jH T f bx (.load t p)=some (.mo g es hole (some b))):Pu P C n ⟨f,bx,lv,gen⟩ ⟨dst,.load t p,ty,pos,af,none⟩ (.d (.v (.map (some b)))):=by
 intro G tmps w hs;refine(Pu.ev (P:=P) (C:=C) (n:=n) (st:=⟨f,bx,lv,gen⟩) T N G tmps w hs).mono fun v w' ⟨h1,h2⟩=>⟨h1,?_⟩
 cases h2 with
 | mo _ _ _ _ _ _ h3 _=>rw[h3.2 b rfl];exact .d (.v _ rfl)
end
end Go.Ab
namespace Go.Ab
open Go.RowKit Go.MapKept
theorem bE.I2 {w:World} {pv:Nat→Nat→Prop} {v:Value} {es:List (List D)} (h:bE w pv v (.sl es)):∃ s,∀ (e:List D),e∈es→e.length=s:=by
 cases h with
 | nil=>exact⟨0,by simp⟩
 | emp=>exact⟨0,by simp⟩
 | sl b off len cap sz _ u hl I hm hs hu J=>exact⟨sz,fun e he=>by obtain⟨i,hi⟩:=List.mem_iff_getElem?.1 he;exact hs i e hi⟩
section
variable {P:Program} (T:cn P) {C:Ctx} {n:Nat} {ops:Array Oper} {Q:Exit→St→Prop} {rest:List Oper}
variable {f:List (Nat×A)} {bx:List (Nat×List A)} {lv:List Nat} {gen:Nat} {d:Nat} {ty:TypeId} {pos:String} {af:Array Edge} {dst:Option Nat} {c:Code}
variable {α γ:Type} [DecidableEq α] {kf:α→Value} {fn:γ→List D}
theorem DG (gq M:Nat) {mt k e:Nat} {td ed:cI} {m kx:Operand} {g b:Nat} {cq:List A} {l:List (α×List γ)} {a:α} (hd:Nat.blt d n=true) (hm:av f m=some (.d (.v (.map (some b))))) (X:aY bx gq=some cq) (hj:cq[M]? = some (.mo g (gW kf fn l) none (some b)))
 (hk:av f kx=some (.d (.v (kf a)))) (ht:aY T.l mt=some td) (cx:td.k=.map k e) (he:aY T.l e=some ed) (cy:jG P k kf) (c1:(lv.any fun h=>Nat.beq h g)=true) (c6:ed.z=[.slice none 0 0]) (c7:mj ed.k=true) (hn:(l.map (·.1)).Nodup)
 {x:List (List D)} (hx:((cb l a).getD []).map fn=x) {lv':List Nat} (df:gen::(gen+1)::bD lv g=lv') {a7:List A} (di:cq.set M (.mo gen (gW kf fn l) (some (kf a)) (some b))=a7)
 (h:WO P C n ops Q rest ⟨(d,.own (gen+1) x)::f,(gq,a7)::bx,lv',gen+2⟩):WO P C n ops Q (⟨some d,.lookup mt m kx false,ty,pos,af,none⟩::rest) ⟨f,bx,lv,gen⟩:=by
 subst di;subst df;subst hx;refine WO.step (st:=⟨f,bx,lv,gen⟩) rfl fun tmps w ⟨G,hs⟩=>?_;have ai:=hs.av hm;have aj:=hs.av hk;generalize hv:Act.eval ⟨tmps,[]⟩ m=v at ai;generalize dj:Act.eval ⟨tmps,[]⟩ kx=vk at aj;cases ai with | d ai=>cases ai with | v _ gm=>
 cases aj with | d aj=>cases aj with | v _ hok=>
 obtain⟨b0,ad,T0,p1,p2,p3,p4,p5⟩:=hs.box gq cq X;have dt:M < ad.size:=by rw[p3];exact(List.getElem?_eq_some_iff.1 hj).1
 have a8:ad[M]? = some ad[M]:=by simp[dt]
 have U:=p5 M _ _ a8 hj;have b2:ad[M]=.map (some b):=by generalize ad[M]=y at U;cases U with | mo _ _ _ _ _ _ h1 _=>exact h1.2 b rfl
 rw[b2] at U;obtain⟨b',bs,me,clock,ps,dx,b4,I⟩:=hs.EJ U (dw c1);simp only[Value.map.injEq,Option.some.injEq] at b4;subst b4;obtain⟨u,h1,h2⟩:=sq (P:=P) T ht cx he cy c6 c7 I.hb I.mi hn a;have h0:(execOp (Act.eval ⟨tmps,[]⟩) ⟨some d,.lookup mt m kx false,ty,pos,af,none⟩).run P w=.ok (.value u) w:=by unfold execOp;show Sem.run P _ w=.ok _ _;simp only[hv,dj,Sem.run_bind,h1,Result.andThen_ok,Sem.run_pure]
 have key:∀ (x:List (List D)) (r2:Row) (bs':List (Nat×Nat)),(∀ p∈bs',p∈bs)→(∀ b' bs',r2≠.mp b' bs') →
  (∀ c len cap sz a6,r2=.blk c len cap sz a6→(c,a6)∈bs∧(∀ p∈bs',p.1≠c)∧∃ cur T,w.heap[c]? = some (.cells cur T (0,0))∧cur.size=cap*sz∧len≤cap∧cap≤maxLen∧0 < sz∧0 < len∧a6≤len*sz∧fe cur) →
  (∀ (i:Nat) (O:MapEntry) (p:α×List γ),me[i]? = some O→l[i]? = some p→some (kf a)≠some (kf p.1)→lW w (ps (kf p.1)) bs' O.val (p.2.map fn)) →
  bE w (bM C G) u (.sl x)→(∃ s,(∀ (e:List D),e∈x→e.length=s)∧rP r2 u x.length s) →
  ∃ J,bg C n ⟨(d,.own (gen+1) x)::f,(gq,cq.set M (.mo gen (gW kf fn l) (some (kf a)) (some b)))::bx,gen::(gen+1)::bD lv g,gen+2⟩ J (Act.put ⟨tmps,[]⟩ (some d) u).tmps w:=by
  intro x r2 bs' cj ec ei ej en ft;obtain⟨J,e0,e3,hc,hle,e4⟩:=hs.split dx cj r2 ec ei (bD lv g) (fun g' e5=>cf e5);have cl:qJ w (bM C J) b bs' kf fn l (some (kf a)) me clock ps:=⟨I.hb,I.st,I.mi.mono fun b o u hu hp=>hle.cell b o u hu hp,fun p p' c hp e6 _ _ q3 q4=>I.inj p p' c hp e6 (by simp) (by simp) q3 q4,ej⟩;have ff:=e4.fw (f:=f) (bx:=bx) (lv:=gen::(gen+1)::bD lv g) (gen:=gen+2) X (cells':=cq.set M (.mo gen (gW kf fn l) (some (kf a)) (some b))) (by simp) fun b3 hf T3 q1 q2 q3 i x' a' b5 ha=>by
   by_cases e:M=i
   ·subst e
    rw[List.getElem?_set_self (List.getElem?_eq_some_iff.1 hj).1] at ha;simp only[Option.some.injEq] at ha;subst ha;rw[e0,p1] at q1;cases q1;rw[p2] at q2;cases q2;rw[a8,b2] at b5;cases b5;exact .mo _ _ _ _ _ (by simp[bj]) ⟨rfl,fun b' fj=>by cases fj;rfl⟩ (fun r hr=>by have:J.own gen=some r:=hr;rw[e3] at this;cases this;exact cl.to)
   ·grind
  refine⟨J,ff.put (dst:=some d) (cJ (dst:=some d) hd) (.own _ _ x (en.mono fun b o u hu hp=>hle.cell b o u hu hp) (by simp[bj]) (fun r hr=>?_))⟩;have:J.own (gen+1)=some r:=hr;grind
 refine cL h0 ?_;rcases h2 with ⟨q1,q2,rfl⟩ | ⟨j,O,p,q1,q2,q3,q4,q5,q6⟩
 ·obtain⟨J,N⟩:=key [] .nil bs (fun _ h=>h) (fun _ _ h=>by cases h) (fun _ _ _ _ _ h=>by cases h) (fun i O p hm hp _=>I.at_ i O p hm hp (by simp)) .nil ⟨0,by simp,rfl,rfl⟩
  refine⟨_,⟨J,N⟩,?_⟩;grind
 ·subst q3;subst q4
  have a1:=I.at_ j O p q1 q2 (by simp);rw[q5] at h;obtain⟨s,b6⟩:=q6.I2
  cases hps:ps (kf p.1) with
  | none=>
    rw[hps] at a1;rcases a1 with ⟨t1,t2⟩ | ⟨c,off,t1⟩
    ·obtain⟨J,N⟩:=key (p.2.map fn) .nil bs (fun _ h=>h) (fun _ _ h=>by cases h) (fun _ _ _ _ _ h=>by cases h) (fun i O p hm hp _=>I.at_ i O p hm hp (by simp)) q6 ⟨s,b6,t1,by rw[t2];rfl⟩
     exact⟨_,⟨J,N⟩,h⟩
    ·obtain⟨J,N⟩:=key (p.2.map fn) (.zero c) bs (fun _ h=>h) (fun _ _ h=>by cases h) (fun _ _ _ _ _ h=>by cases h) (fun i O p hm hp _=>I.at_ i O p hm hp (by simp)) q6 ⟨s,b6,off,t1⟩
     exact⟨_,⟨J,N⟩,h⟩
  | some c=>
    rw[hps] at a1;obtain⟨cap,sz,cur,T1,t1,t2,t3,t4,t5,t6,t7,t8,t9,t10⟩:=a1
    obtain⟨J,N⟩:=key (p.2.map fn) (.blk c (p.2.map fn).length cap sz ((p.2.map fn).length*sz)) (bs.filter fun q=>!Nat.beq q.1 c) (fun q X=>(List.mem_filter.1 X).1) (fun _ _ h=>by cases h)
     (fun c' gb gd hg gj h=>by simp only[Row.blk.injEq] at h;obtain⟨rfl,rfl,rfl,rfl,rfl⟩:=h;exact⟨t2,fun q X e=>by have:=(List.mem_filter.1 X).2;rw[e] at this;simp at this,cur,T1,t8,t9,t6,t7,t4,t5,Nat.le_refl _,t10⟩)
     (fun i m2 p2 fo ch fs=>(I.at_ i m2 p2 fo ch (by simp)).mono fun c' lim e1 e2=>⟨List.mem_filter.2 ⟨e2,by
      have:c'≠c:=fun e=>by subst e;have:=I.inj p p2 c' (List.mem_of_getElem? q2) (List.mem_of_getElem? ch) (by simp) (by simp) hps e1;exact fs (by rw[this])
      cases X:Nat.beq c' c with
      | false=>rfl
      | true=>exact absurd (Nat.eq_of_beq_eq_true X) this⟩,rfl⟩) q6 ⟨sz,t3,t1,rfl,rfl,rfl⟩
    exact⟨_,⟨J,N⟩,h⟩
theorem sa {w:World} {pv:Nat→Nat→Prop} {β:Type} {vf:β→D} {mt k e:Nat} {td:cI} (ht:aY T.l mt=some td) (aj:td.k=.map k e) (U:jG P k kf) {b:Nat} {M:Array MapEntry} {clock:Nat} (hb:w.heap[b]? = some (.map M clock)) {l:List (α×β)}
 (ad:Stamped M clock) (h:iB w pv kf vf M l) (X:(l.map (·.1)).Nodup) (a:α) (a1:dd (kf a)=true) {v:Value} {y:β} (hv:bE w pv v (vf y)) :
 ∃ N I,(Instr.mapUpdate mt (.map (some b)) (kf a) v).run P w=.ok () { w with heap:=w.heap.setIfInBounds b (.map N I) }∧Stamped N I∧iB w pv kf vf N (dp l a y) ∧
   ∀ (i:Nat) (m:MapEntry) (p:α×β),N[i]? = some m→(dp l a y)[i]? = some p→(p=(a,y)∧m.val=v)∨(p.1≠a∧∃ m0,M[i]? = some m0∧l[i]? = some p∧m0.val=m.val):=by
 obtain⟨d,hd,hk⟩:=U.ty;have hm:=T.wU ht aj;rcases h.find U X a with ⟨h1,h2,_⟩ | ⟨j,en,p,h1,h2,h3,h4,h5,_,_⟩
 ·refine⟨M.push ⟨kf a,v,clock⟩,clock+1,?_,stamped_push ad (fun x hx=>?_),?_,?_⟩
  ·unfold Instr.mapUpdate
   simp only[Sem.run_bind,run_underlying hm,Result.andThen_ok,Go.MapKept.run_getObj_map hb,run_checkKey hd (hk a),h1];exact Go.MapKept.run_setObj_map _ hb
  ·obtain⟨i,hi⟩:=List.mem_iff_getElem?.1 hx
   have ai:M[i]? = some x:=by simpa using hi
   have O:i < l.length:=by rw[←h.1];exact(Array.getElem?_eq_some_iff.1 ai).1
   rw[(h.2 i x l[i] ai (by simp[O])).1];exact fun e=>h2 l[i] (by simp) (U.inj _ _ e)
  ·rw[iF h2]
   refine⟨by simp[h.1],fun i m p hm hp=>?_⟩;rw[Array.getElem?_push] at hm;split at hm
   ·rename_i hi
    rw[List.getElem?_append_right (by rw[hi,h.1];exact Nat.le_refl _)] at hp;grind
   ·have O:i < l.length:=by rw[←h.1];exact(Array.getElem?_eq_some_iff.1 hm).1
    rw[List.getElem?_append_left O] at hp;exact h.2 i m p hm hp
  ·rw[iF h2]
   intro i m p hm hp;rw[Array.getElem?_push] at hm;split at hm
   ·rename_i hi
    rw[List.getElem?_append_right (by rw[hi,h.1];exact Nat.le_refl _)] at hp;grind
   ·have O:i < l.length:=by rw[←h.1];exact(Array.getElem?_eq_some_iff.1 hm).1
    grind
 ·refine⟨M.modify j fun e=>{ e with key:=kf a,val:=v },clock,?_,stamped_modify ad j _ (fun _ _=>rfl) (fun e _ he=>by rw[h2] at he;cases he;exact h5.symm),?_,?_⟩
  ·unfold Instr.mapUpdate
   simp only[Sem.run_bind,run_underlying hm,Result.andThen_ok,Go.MapKept.run_getObj_map hb,run_checkKey hd (hk a),h1,h2,Option.map_some,Option.getD_some,h5,run_keyThatStays (hk a)];exact Go.MapKept.run_setObj_map _ hb
  ·subst h4
   rw[vE X h3];refine⟨by simp[h.1],fun i m q hm J=>?_⟩;rw[Array.getElem?_modify] at hm;rw[List.getElem?_set] at J;by_cases hij:j=i;·grind
   ·rw[if_neg hij] at hm J
    exact h.2 i m q hm J
  ·subst h4
   rw[vE X h3];intro i m q hm J;rw[Array.getElem?_modify] at hm;rw[List.getElem?_set] at J;by_cases hij:j=i;·grind
   ·rw[if_neg hij] at hm J
    refine .inr ⟨fun e=>hij ?_,m,hm,J,rfl⟩;have h6:(l.map (·.1))[j]? = some p.1:=by simp[h3]
    have h7:(l.map (·.1))[i]? = some p.1:=by simp[J,e]
    obtain⟨a6,a7⟩:=List.getElem?_eq_some_iff.1 h6;obtain⟨a8,b0⟩:=List.getElem?_eq_some_iff.1 h7;have b2:=List.pairwise_iff_getElem.1 X;grind
open Classical in
theorem Fz (gq X:Nat) {mt k e:Nat} {td:cI} {m kx x:Operand} {g g2 b:Nat} {cq:List A} {l:List (α×List γ)} {a:α} {y:List γ} (hm:av f m=some (.d (.v (.map (some b))))) (hq:aY bx gq=some cq) (hj:cq[X]? = some (.mo g (gW kf fn l) (some (kf a)) (some b)))
 (hk:av f kx=some (.d (.v (kf a)))) (hx:av f x=some (.own g2 (y.map fn))) (ht:aY T.l mt=some td) (ft:td.k=.map k e) (M:jG P k kf) (gb:(lv.any fun h=>Nat.beq h g)=true) (e0:(lv.any fun h=>Nat.beq h g2)=true) (gd:Nat.beq g2 g=false) (hn:(l.map (·.1)).Nodup)
 {lv':List Nat} (gj:gen::bD (bD lv g) g2=lv') {di:List A} (gm:cq.set X (.mo gen (gW kf fn (dp l a y)) none none)=di)
 (h:WO P C n ops Q rest ⟨f,(gq,di)::bx,lv',gen+1⟩):WO P C n ops Q (⟨none,.mapUpdate mt m kx x,ty,pos,af,none⟩::rest) ⟨f,bx,lv,gen⟩:=by
 subst gm;subst gj;refine WO.step (st:=⟨f,bx,lv,gen⟩) rfl fun tmps w ⟨G,hs⟩=>?_;have b4:=hs.av hm;have b5:=hs.av hk;have dj:=hs.av hx;generalize hv:Act.eval ⟨tmps,[]⟩ m=v at b4;generalize hf:Act.eval ⟨tmps,[]⟩ kx=vk at b5;generalize hg:Act.eval ⟨tmps,[]⟩ x=vx at dj;cases b4 with | d b4=>cases b4 with | v _ hP=>
 cases b5 with | d b5=>cases b5 with | v _ hok=>
 obtain⟨r2,a1⟩:=hs.live g2 (dw e0)
 cases dj with
 | own _ _ _ hh hO ho=>
 obtain⟨s,hy,a6⟩:=ho r2 a1;have hA:g2≠g:=fun e=>by subst e;simp at gd
 obtain⟨b0,a7,T0,p1,p2,p3,p4,p5⟩:=hs.box gq cq hq;have hD:X < a7.size:=by rw[p3];exact(List.getElem?_eq_some_iff.1 hj).1
 have dt:a7[X]? = some a7[X]:=by simp[hD]
 have ai:=p5 X _ _ dt hj;have dx:a7[X]=.map (some b):=by generalize a7[X]=y at ai;cases ai with | mo _ _ _ _ _ _ h1 _=>exact h1.2 b rfl
 rw[dx] at ai;obtain⟨b',bs,me,clock,ps,ec,ed,N⟩:=hs.EJ ai (dw gb);simp only[Value.map.injEq,Option.some.injEq] at ed;subst ed;obtain⟨J,I,e5,e6,ch,ei⟩:=sa (P:=P) T (y:=y) ht ft M N.hb N.st N.mi hn a hok hh;have h0:(execOp (Act.eval ⟨tmps,[]⟩) ⟨none,.mapUpdate mt m kx x,ty,pos,af,none⟩).run P w=.ok .skip { w with heap:=w.heap.setIfInBounds b (.map J I) }:=by unfold execOp;show Sem.run P _ w=.ok _ _;simp only[hv,hf,hg,Sem.run_bind,e5,Result.andThen_ok,Sem.run_pure]
 obtain⟨cj,cl⟩:=heap_set (o':=Obj.map J I) N.hb;obtain⟨bs',oc,fj,fo,ej⟩:∃ (bs':List (Nat×Nat)) (oc:Option Nat),(∀ p∈bs,p∈bs')∧(∀ p∈bs',p∈bs∨∃ len cap sz,r2=.blk p.1 len cap sz p.2)∧(lW w oc bs' vx (y.map fn)∧∀ c,oc=some c→∃ len cap sz ad,r2=.blk c len cap sz ad):=by
  cases r2 with
  | nil=>exact⟨bs,none,fun _ h=>h,fun _ h=>.inl h,.inl ⟨a6.1,List.eq_nil_of_length_eq_zero a6.2⟩,fun c O=>by cases O⟩
  | zero c=>exact⟨bs,none,fun _ h=>h,fun _ h=>.inl h,.inr ⟨c,a6⟩,fun c O=>by cases O⟩
  | mp _ _=>exact a6.elim
  | blk c len cap sz ad=>
    obtain⟨t1,t2,t3,t4⟩:=a6;obtain⟨_,_,_,cur,T1,u1,u2,u3,u4,u5,u6,u7,u8⟩:=hs.row g2 c len cap sz ad a1;refine⟨(c,ad)::bs,some c,fun p hp=>List.mem_cons_of_mem _ hp,fun p hp=>?_,⟨cap,sz,cur,T1,by rw[t1,t2],?_,fun e he=>(hy e he).trans t3,u5,by omega,by omega,u4,u1,u2,u8⟩,fun c' hE=>by cases hE;exact⟨len,cap,sz,ad,rfl⟩⟩
    ·rcases List.mem_cons.1 hp with rfl | hp
     ·exact .inr ⟨len,cap,sz,rfl⟩
     ·exact .inl hp
    ·rw[t2,←t4];exact List.mem_cons_self
 obtain⟨G',hF,hG,hle,hH⟩:=hs.join (w':={ w with heap:=w.heap.setIfInBounds b (.map J I) }) ec a1 hA fo (fun c O=>cl c (fun e=>O (by rw[e]))) (fun c O=>⟨J,I,by cases O;exact cj⟩) (by simp) rfl rfl rfl (bD (bD lv g) g2) (fun g' hI=>by obtain⟨t1,t2⟩:=cf hI;obtain⟨t3,t4⟩:=cf t1;exact⟨t3,t4,t2⟩);have a8:∀ {c:Nat} {cs:Array Value} {T:TypeId} {ff:Nat×Nat},w.heap[c]? = some (.cells cs T ff)→(w.heap.setIfInBounds b (.map J I))[c]? = w.heap[c]?:=fun {c cs T ff} O=>cl c (fun e=>by rw[e,N.hb] at O;cases O);have cx:∀ {o:Option Nat} {v:Value} {z:List (List D)} {cy c1:List (Nat×Nat)},lW w o cy v z→(∀ p∈cy,p∈c1)→lW { w with heap:=w.heap.setIfInBounds b (.map J I) } o c1 v z:=fun {o v z cy c1} hz hJ=>by
  cases o with
  | none=>exact hz
  | some c=>obtain⟨cap,sz,cur,T1,t1,t2,t3,t4,t5,t6,t7,t8,t9⟩:=hz;exact⟨cap,sz,cur,T1,t1,hJ _ t2,t3,t4,t5,t6,t7,(a8 t8).trans t8,t9⟩
 have b2:∀ (p:α×List γ) (c:Nat),p∈l→p.1≠a→ps (kf p.1)=some c→∃ lim,(c,lim)∈bs:=fun p c hp b6 O=>by
  obtain⟨i,hi⟩:=List.mem_iff_getElem?.1 hp;have c6:i < me.size:=by rw[N.mi.1];exact(List.getElem?_eq_some_iff.1 hi).1
  have:=N.at_ i me[i] p (by simp[c6]) hi (fun e=>b6 (M.inj _ _ (Option.some.inj e)).symm);rw[O] at this;obtain⟨cap,sz,cur,T1,t1,t2,_⟩:=this;exact⟨_,t2⟩
 have aj:∀ p∈dp l a y,p.1≠a→p∈l:=fun p hp b6=>by
  obtain⟨i,hi⟩:=List.mem_iff_getElem?.1 hp;have c6:i < J.size:=by rw[ch.1];exact(List.getElem?_eq_some_iff.1 hi).1
  rcases ei i J[i] p (by simp[c6]) hi with ⟨e,_⟩ | ⟨_,m0,_,e,_⟩
  ·rw[e] at b6;exact absurd rfl b6
  ·exact List.mem_of_getElem? e
 have c7:∀ (c:Nat),oc=some c→∀ lim,(c,lim)∉bs:=fun c O lim hm=>by obtain⟨len,cap,sz,ad,e⟩:=ej.2 c O;rw[e] at a1;exact(hs.sub g b bs c lim ec hm).2.2.1 _ _ _ _ _ a1
 have fs:qJ { w with heap:=w.heap.setIfInBounds b (.map J I) } (bM C G') b bs' kf fn (dp l a y) none J I (fun k=>if k=kf a then oc else ps k):=by
  refine⟨cj,e6,ch.mono fun b o u hu hp=>hle.cell b o u hu hp,fun p p' c hp en _ _ q3 q4=>?_,fun i mm p hK hp _=>?_⟩
  ·by_cases e1:p.1=a
   ·by_cases U:p'.1=a
    ·rw[e1,U]
    ·rw[e1,if_pos rfl] at q3
     rw[if_neg (fun e=>U (M.inj _ _ e))] at q4;obtain⟨lim,hm⟩:=b2 p' c (aj p' en U) U q4;exact absurd hm (c7 c q3 lim)
   ·rw[if_neg (fun e=>e1 (M.inj _ _ e))] at q3
    by_cases U:p'.1=a
    ·rw[U,if_pos rfl] at q4
     obtain⟨lim,hm⟩:=b2 p c (aj p hp e1) e1 q3;exact absurd hm (c7 c q4 lim)
    ·rw[if_neg (fun e=>U (M.inj _ _ e))] at q4
     exact N.inj p p' c (aj p hp e1) (aj p' en U) (fun e=>e1 (M.inj _ _ (Option.some.inj e)).symm) (fun e=>U (M.inj _ _ (Option.some.inj e)).symm) q3 q4
  ·rcases ei i mm p hK hp with ⟨e,U⟩ | ⟨e,m0,U,e3,e4⟩
   ·rw[e,U]
    simp only[if_true];exact cx ej.1 (fun _ h=>h)
   ·rw[if_neg (fun e'=>e (M.inj _ _ e')),←e4]
    exact cx (N.at_ i m0 p U e3 (fun e'=>e (M.inj _ _ (Option.some.inj e')).symm)) fj
 refine iE h0 ⟨_,⟨G',hH.fw (f:=f) (bx:=bx) (lv:=gen::bD (bD lv g) g2) (gen:=gen+1) hq (by simp) fun b3 hQ T3 q1 q2 q3 i x' a' df ha=>?_⟩,h⟩;by_cases e:X=i
 ·subst e
  have hM:X < cq.length:=(List.getElem?_eq_some_iff.1 hj).1;rw[List.getElem?_set_self hM] at ha;simp only[Option.some.injEq] at ha;subst ha;rw[hF,p1] at q1;cases q1;rw[show({ w with heap:=w.heap.setIfInBounds b (.map J I) }:World).heap[b0]? = w.heap[b0]? from a8 p2,p2] at q2;cases q2;rw[dt,dx] at df;cases df;exact .mo _ _ _ _ _ (by simp[bj]) ⟨rfl,fun b' hN=>by cases hN⟩ (fun r hr=>by have:G'.own gen=some r:=hr;rw[hG] at this;cases this;exact fs.to)
 ·rw[List.getElem?_set_ne e] at ha
  exact q3 i x' a' df ha
end
end Go.Ab
namespace Go.Ab
end Go.Ab
namespace Go.Ab
open Go.RowKit
def bd (c:UInt8):List D:=[.v (.int .u8 c.toNat)]
def qg (s:ByteArray):List (List D):=s.data.toList.map bd
theorem vl (s:ByteArray):(qg s).length=s.size:=by rw[qg,List.length_map,Array.length_toList];rfl
theorem uN {s:ByteArray}:∀ (e:List D),e∈qg s→e.length=1:=by intro e he;obtain⟨c,_,rfl⟩:=List.mem_map.1 he;rfl
theorem BM {arr:Array Value} {s:ByteArray} {w:World} {pv:Nat→Nat→Prop} (h:∀ (i:Nat) (c:UInt8),s.data[i]? = some c→arr[i]? = some (.int .u8 c.toNat)) :
 ∀ (i j:Nat) (e:List D) (d:D),(qg s)[i]? = some e→e[j]? = some d→∃ u,arr[i*1+j]? = some u∧bE w pv u d:=by
 intro i j e d hi hj;simp only[qg,List.getElem?_map,Option.map_eq_some_iff] at hi;obtain⟨c,I,rfl⟩:=hi
 match j with
 | 0=>simp[bd] at hj;subst hj;refine⟨_,by rw[Nat.mul_one,Nat.add_zero];exact h i c (by simpa using I),.v _ ?_⟩;have:=c.toNat_lt;simp[dd,IntKind.min,IntKind.max,IntKind.signed,IntKind.bits];omega
 | j+1=>simp[bd] at hj
theorem fS {s:ByteArray} {i:Nat} {c:UInt8} (h:s.data[i]? = some c):(Lib.strCells s)[i]? = some (.int .u8 c.toNat):=by simp only[Lib.strCells,List.getElem?_map,Array.getElem?_toList,h,Option.map_some]
theorem kD (s:ByteArray):∀ u∈Lib.strCells s,u.oneCell'=true:=fun u hu=>by
 obtain⟨i,hi⟩:=List.mem_iff_getElem?.1 hu;have hj:i < s.data.size:=by have:=(List.getElem?_eq_some_iff.1 hi).1;rw[Lib.strCells_length] at this;exact this
 have I:s.data[i]? = some s.data[i]:=by simp[hj]
 rw[fS I] at hi;rw[←Option.some.inj hi];rfl
theorem yw:∀ u∈(Value.int IntKind.u8 0).cells.toList,u.oneCell'=true:=fun u hu=>by simp[Value.cells] at hu;subst hu;rfl
theorem rf (a b:ByteArray):Lib.strCells (a++b)=Lib.strCells a++Lib.strCells b:=by simp[Lib.strCells]
theorem x8 (a b:ByteArray):(a++b).size=a.size+b.size:=by simp[ByteArray.size_append]
theorem wR {E:En} {v:Value} {g T:Nat} {s:ByteArray} (h:bu E v (.xs g (qg s))) (I:v=.slice none 0 0∨∃ b n c cs f,v=.slice (some ⟨b,0,none⟩) n c∧0 < n∧E.w.heap[b]? = some (.cells cs T f)):bu E v (.bf g T s):=by
 cases h with
 | xs _ _ _ U h1 h=>
 refine .bf v g T s U h1 fun r X=>?_;have J:=h r X
 cases r with
 | nil=>exact⟨J.1,by rw[←vl,J.2];rfl⟩
 | zero b=>obtain⟨h2,h3⟩:=J;grind
 | mp b bs=>exact J.elim
 | blk b len cap sz ad=>
   obtain⟨h2,h3,h4,h5,h6⟩:=J;rcases I with I | ⟨b',n,c,cs,f,I,hn,M⟩
   ·grind
   ·rw[I] at h2
    simp only[Value.slice.injEq,Option.some.injEq,Addr.mk.injEq,and_true] at h2;obtain⟨rfl,rfl,rfl⟩:=h2;have N:sz=1:=by
     have h0:0 < (qg s).length:=by omega
     rw[←h5 _ (List.getElem_mem h0),uN _ (List.getElem_mem h0)]
    subst N;refine⟨I,by rw[←vl];exact h3,rfl,h4,⟨cs,f,M⟩,fun i O hc=>?_⟩;obtain⟨u,h7,h8⟩:=h6 i 0 (bd O) (.v (.int .u8 O.toNat)) (by simp only[qg,List.getElem?_map,Array.getElem?_toList,hc,Option.map_some]) rfl;cases h8;grind
structure sK (P:Program) (w:World) (A:Array TypeId) (ty:TypeId) (x2:Value) (m:ByteArray) (T:TypeId):Prop where
 emp:m.size=0→(Builtin.append_ A ty #[.slice none 0 0,x2]).run P w=.ok (.slice none 0 0) w
 new:0 < m.size→(Builtin.append_ A ty #[.slice none 0 0,x2]).run P w=.ok (.slice (some ⟨w.heap.size,0,none⟩) m.size (grownCap w m.size 0 T))
  (w.drew.alloc (.cells ((Lib.strCells m).toArray++Builtin.zeroCells (Value.int .u8 0).cells (grownCap w m.size 0 T - m.size)) T))
 room:∀ (b n cap:Nat) (cur:Array Value),w.heap[b]? = some (.cells cur T (0,0))→n+m.size≤cap→n+m.size≤cur.size →
  (Builtin.append_ A ty #[.slice (some ⟨b,0,none⟩) n cap,x2]).run P w=.ok (.slice (some ⟨b,0,none⟩) (n+m.size) cap) (w.setRow b (cur.toList.take n++Lib.strCells m++cur.toList.drop (n+m.size)).toArray)
 grow:∀ (b n cap:Nat) (olds:List Value),olds.length=n→(∀ j u,olds[j]? = some u→w.cell? ((⟨b,0,none⟩:Addr).add j)=some u)→cap < n+m.size→n+m.size≤140737488355328 →
  (Builtin.append_ A ty #[.slice (some ⟨b,0,none⟩) n cap,x2]).run P w=.ok (.slice (some ⟨w.heap.size,0,none⟩) (n+m.size) (grownCap w (n+m.size) cap T))
   (w.drew.alloc (.cells (olds.toArray++(Lib.strCells m).toArray++Builtin.zeroCells (Value.int .u8 0).cells (grownCap w (n+m.size) cap T - (n+m.size))) T))
theorem sK.string {P:Program} {w:World} {t u ty T:TypeId} {i:TypeInfo} (I:P.underlying t=some (.slice T)) (hu:P.underlying u=some .string) (hi:P.info? T=some i) (N:i.zero=some (.int .u8 0)) (hs:i.size=1) (hb:i.bytes=1) {m:ByteArray} (hm:m.size≤140737488355328) :
 sK P w #[t,u] ty (.string m) m T:=by
 refine⟨fun h0=>?_,fun h0=>?_,fun b n cap cur U h1 h2=>Lib.run_append_room_string (P:=P) w t u ty T i I hu hi hs b n cap cur U m h1 h2,fun b n cap M X J h1 h2=>?_⟩
 ·have O:=Lib.run_firstCells_string (P:=P) w 1 m
  rw[h0] at O;simp[Builtin.append_,run_underlying I,run_underlying hu,sizeOf,typeInfo,hi,hs,Builtin.lenOf,h0,O]
 ·have hr:=run_append_nil_string (P:=P) w t u ty T i (.int .u8 0) I hu hi N m h0 (by omega) (by rw[hb];omega)
  have e1:(m.data.map fun b=>Value.int .u8 b.toNat)=(Lib.strCells m).toArray:=by apply Array.ext';simp[Lib.strCells]
  grind
 ·exact Lib.run_append_grow_string (P:=P) w t u ty T i (.int .u8 0) I hu hi N ⟨b,0,none⟩ n cap M (by rw[hs];omega) J m h1 (by omega) (by rw[hb];exact growslice_fits (by omega) (by omega))
theorem sK.one {P:Program} {w:World} {t ty T:TypeId} {i:TypeInfo} (M:P.underlying t=some (.slice T)) (hi:P.info? T=some i) (O:i.zero=some (.int .u8 0)) (hs:i.size=1) (hb:i.bytes=1) {a:Addr} {c:Nat} {m:ByteArray} (hm:0 < m.size) (ad:m.size≤140737488355328)
 (I:∀ j u,(Lib.strCells m)[j]? = some u→w.cell? (a.add j)=some u):sK P w #[t,t] ty (.slice (some a) m.size c) m T:=by
 have hl:(Lib.strCells m).length=m.size*i.size:=by rw[Lib.strCells_length,hs,Nat.mul_one]
 refine⟨fun h0=>by omega,fun h0=>?_,fun b n cap cur U h1 h2=>?_,fun b n cap N ho J h1 h2=>?_⟩
 ·have X:=run_append_nil (P:=P) w t ty T i (.int .u8 0) M hi O a m.size c (Lib.strCells m) hl I h0 (by omega) (by rw[hb];omega)
  grind
 ·have X:=run_append_room (P:=P) w t ty T i M hi b n cap cur U a m.size c (Lib.strCells m) hl I (Lib.strCells_oneCell m) h1 (by rw[hs,Nat.mul_one,Lib.strCells_length];exact h2)
  grind
 ·exact run_append_grow (P:=P) w t ty T i (.int .u8 0) M hi O ⟨b,0,none⟩ n cap N (by rw[hs];omega) J a m.size c (Lib.strCells m) hl I h1 (by omega) (growslice_fits (by omega) (by rw[hb];omega))
section
variable {P:Program} {C:Ctx} {n:Nat} {st:St} {G:Gh} {tmps:Array Value} {w:World}
theorem uD (h:bg C n st G tmps w) {g:Nat} {r:Row} (hg:G.own g=some r) {v:Value} {T:Nat} {s:ByteArray} (hv:v.oneCell'=true) (hx:yU w r v T s) {A:Array TypeId} {ty:TypeId} {x2:Value} {m:ByteArray} (ha:sK P w A ty x2 m T)
    (hb:s.size+m.size≤140737488355328) :
    ∃ v' w',(Builtin.append_ A ty #[v,x2]).run P w=.ok v' w'∧∃ G':Gh,G'.box=G.box∧bg C n { st with lv:=st.gen::bD st.lv g,gen:=st.gen+1 } G' tmps w'∧bu (bj C G' (st.gen+1) w') v' (.bf st.gen T (s++m)):=by
  have hlen:(qg (s++m)).length=s.size+m.size:=by rw[vl,x8]
  have hmx:s.size+m.size≤maxLen:=by simp only[maxLen];omega
  have hlv:∀ g'∈bD st.lv g,g'∈st.lv∧g'≠g:=fun g' hg'=>cf hg'
  have newB:∀ (cap:Nat) (arr:Array Value),fe arr→arr.size=cap→s.size+m.size≤cap→cap≤maxLen→0 < s.size+m.size→(∃ rest,arr.toList=Lib.strCells (s++m)++rest) →
      ∃ G':Gh,G'.box=G.box∧bg C n { st with lv:=st.gen::bD st.lv g,gen:=st.gen+1 } G' tmps (w.drew.alloc (.cells arr T)) ∧
        bu (bj C G' (st.gen+1) (w.drew.alloc (.cells arr T))) (.slice (some ⟨w.heap.size,0,none⟩) (s.size+m.size) cap) (.bf st.gen T (s++m)):=by
    intro cap arr h1c h1 h2 h3 h4 ⟨rest,h5⟩
    have hb':Below w.heap.size w (w.drew.alloc (.cells arr T)):=((Below.refl _ w).drew).alloc (Nat.le_refl _) _
    have hblk:(w.drew.alloc (.cells arr T)).heap[w.heap.size]? = some (.cells arr T (0,0)):=heap_alloc_new w.drew _
    obtain⟨G',hG,hs',hr'⟩:=(h.newRow true hb' hblk (cap:=cap) (sz:=1) (es:=qg (s++m)) (by rw[h1,Nat.mul_one]) h1c (by rw[hlen];exact h2) h3 Nat.one_pos (by rw[hlen];exact h4) uN
      (BM fun i c hc=>by
        have:=fS hc
        rw[←Array.getElem?_toList,h5,List.getElem?_append_left (by rw[List.getElem?_eq_some_iff] at this;exact this.1)]
        exact this) (fun x=>x=g) (bD st.lv g) hlv).zH
    rw[hlen] at hr'
    exact⟨G',hG,hs',wR hr' (.inr ⟨_,_,_,arr,(0,0),rfl,h4,hblk⟩)⟩
  cases r with
  | zero b=>exact hx.elim
  | mp b bs=>exact hx.elim
  | nil=>
    obtain⟨rfl,hs0⟩:=hx
    have e0:s++m=m:=by
      have:s=ByteArray.empty:=by
        apply ByteArray.ext
        exact Array.eq_empty_of_size_eq_zero hs0
      rw[this];simp
    by_cases hm:m.size=0
    · refine⟨_,w,ha.emp hm,?_⟩
      obtain⟨G',hG,hs',hr'⟩:=(h.nA (m:=true) hg (es:=qg (s++m)) (v:=.slice none 0 0) ⟨rfl,rfl,List.eq_nil_of_length_eq_zero (by rw[hlen];omega)⟩ (bD st.lv g) hlv).zH
      exact⟨G',hG,hs',wR hr' (.inl rfl)⟩
    · have hge:=grownCap_ge w m.size 0 T
      have hcm:=grownCap_le_maxLen w m.size 0 T (by omega)
      refine⟨_,_,ha.new (by omega),?_⟩
      have:=newB (grownCap w m.size 0 T) ((Lib.strCells m).toArray++Builtin.zeroCells (Value.int .u8 0).cells (grownCap w m.size 0 T - m.size)) (by have:=pD (l1:=[]) (k:=grownCap w m.size 0 T - m.size) (by simp) (kD m) yw;exact fe.mem fun u hu=>this.of u (by simpa using hu)) (by
        have hz1:(Value.int IntKind.u8 0).cells.size=1:=rfl
        simp only[Array.size_append,List.size_toArray,size_zeroCells,hz1,Lib.strCells_length]
        omega) (by omega) hcm (by omega) ⟨_,by rw[e0];simp;rfl⟩
      rw[show s.size+m.size=m.size by omega] at this
      exact this
  | blk b len cap sz pub=>
    obtain⟨rfl,h2,rfl,rfl,⟨cs,f,hT⟩,h6⟩:=hx
    obtain⟨hmine,hnb,huniq,cur,T',hcur,hcs,hlc,hcm,_,hpos,_,hone⟩:=h.row g b len cap 1 0 hg
    rw[hcur] at hT
    simp only[Option.some.injEq,Obj.cells.injEq] at hT
    obtain⟨rfl,rfl,rfl⟩:=hT
    subst h2
    have htk:cur.toList.take s.size=Lib.strCells s:=by
      apply List.ext_getElem?
      intro t
      rw[List.getElem?_take]
      split
      · rename_i hlt
        have hc:s.data[t]? = some (s.data[t]'hlt):=Array.getElem?_eq_getElem hlt
        have h7:=h6 t _ hc
        rw[cz hcur] at h7
        rw[fS hc]
        simpa using h7
      · rename_i hge
        rw[List.getElem?_eq_none (by rw[Lib.strCells_length];omega)]
    by_cases hroom:s.size+m.size≤cap
    · have hfit:s.size+m.size≤cur.size:=by omega
      refine⟨_,_,ha.room b s.size cap cur hcur hroom hfit,?_⟩
      obtain⟨G',hG,hs',hr'⟩:=(h.rJ true (g:=g) (b:=b) (len:=s.size) (cap:=cap) (sz:=1) (arr:=(cur.toList.take s.size++Lib.strCells m++cur.toList.drop (s.size+m.size)).toArray) (es:=qg (s++m)) (by simpa [gI] using hg) hcur (by simp[Lib.strCells_length];omega) (lx hone (kD m)) (fun t ht=>by simp[gI] at ht) (by omega) (by omega) uN
        (BM fun i c hc=>by
          have:=fS hc
          rw[List.getElem?_toArray,htk,←rf,List.getElem?_append_left (by rw[List.getElem?_eq_some_iff] at this;exact this.1)]
          exact this) (bD st.lv g) hlv).zH
      rw[hlen] at hr'
      exact⟨G',hG,hs',wR hr' (.inr ⟨b,_,_,_,(0,0),rfl,by omega,setRow_heap w b cur _ _ (0,0) hcur⟩)⟩
    · have hge:=grownCap_ge w (s.size+m.size) cap T'
      have hcm':=grownCap_le_maxLen w (s.size+m.size) cap T' (by omega)
      refine⟨_,_,ha.grow b s.size cap (Lib.strCells s) (Lib.strCells_length s) (fun j u hj=>?_) (by omega) hb,?_⟩
      · have hj':j < s.data.size:=by have:=(List.getElem?_eq_some_iff.1 hj).1;rw[Lib.strCells_length] at this;exact this
        have hc:s.data[j]? = some s.data[j]:=by simp[hj']
        rw[fS hc] at hj
        have h7:=h6 j _ hc
        rw[Option.some.inj hj] at h7
        unfold Addr.add
        split
        · rename_i e;subst e;simpa [cellAt] using h7
        · simpa [cellAt] using h7
      · exact newB (grownCap w (s.size+m.size) cap T') _ (by have:=pD (k:=grownCap w (s.size+m.size) cap T' - (s.size+m.size)) (kD s) (kD m) yw;exact fe.mem fun u hu=>this.of u (by simpa using hu)) (by
          have hz1:(Value.int IntKind.u8 0).cells.size=1:=rfl
          simp only[Array.size_append,List.size_toArray,size_zeroCells,hz1,Lib.strCells_length]
          omega) (by omega) hcm' (by omega) ⟨_,by rw[rf];simp[List.append_assoc];rfl⟩
end
end Go.Ab
namespace Go.Ab
open Go.RowKit
section
variable {P:Program} (T:cn P) {C:Ctx} {n:Nat} {ops:Array Oper} {Q:Exit→St→Prop} {rest:List Oper}
variable {f:List (Nat×A)} {bx:List (Nat×List A)} {lv:List Nat} {gen:Nat} {d:Nat} {ty:TypeId} {pos:String} {af:Array Edge} {dst:Option Nat}
theorem xb {o:Oper} {act:Act} {x y:Operand} {t u:Nat} (J:o.op=.call ⟨.builtin .append,#[x,y],#[t,u]⟩) {w w':World} {I:Value}
 (h:(Builtin.append_ #[t,u] o.type #[act.eval x,act.eval y]).run P w=.ok I w'):(execOp act.eval o).run P w=.ok (.value I) w':=by
 unfold execOp;rw[J];show Sem.run P (do let d ←resolve act.eval ⟨.builtin .append,#[x,y],#[t,u]⟩ o.type;invoke d.target d.args) w=_;simp only[resolve,invoke,builtin,Sem.run_bind,Sem.run_pure,Result.andThen_ok,List.map_toArray,List.map_cons,List.map_nil,h]
def wO (d:cI):Bool:=(Nat.beq d.n 1 && Nat.beq d.b 1 && qU d.z [.int .u8 0]) && (match d.k with | .int _=>true | _=>false)
theorem cn.byte {e:Nat} {d:cI} (h:aY T.l e=some d) (hb:wO d=true):∃ i,P.info? e=some i∧i.zero=some (.int .u8 0)∧i.size=1∧i.bytes=1:=by
 simp only[wO,Bool.and_eq_true] at hb;obtain⟨i,z,hi,h1,h2,M,I,_,_,N⟩:=T.info h;have U:=Nat.eq_of_beq_eq_true hb.1.1.1;have X:=Nat.eq_of_beq_eq_true hb.1.1.2;have O:=rE hb.1.2;have J:=hb.2;refine⟨i,hi,?_,by omega,by omega⟩;rw[M];rw[O] at I;cases hkd:d.k <;> rw[hkd] at J N <;> first | (cases J;done) | skip
 cases z <;> simp_all[Value.cells]
theorem Bv {x y:Operand} {t u e:Nat} {td U X:cI} {g:Nat} {s m:ByteArray} (hx:av f x=some (.bf g e s)) (hy:av f y=some (.d (.v (.string m)))) (ht:aY T.l t=some td) (hk:td.k=.slice e) (hu:aY T.l u=some U) (ad:U.k=.str) (he:aY T.l e=some X) (ai:wO X=true)
 (aj:(lv.any fun h=>Nat.beq h g)=true) (hd:Nat.blt d n=true) (hb:s.size+m.size≤140737488355328) {r:ByteArray} (M:s++m=r) {lv':List Nat} (a1:gen::bD lv g=lv')
 (h:WO P C n ops Q rest ⟨(d,.bf gen e r)::f,bx,lv',gen+1⟩):WO P C n ops Q (⟨some d,.call ⟨.builtin .append,#[x,y],#[t,u]⟩,ty,pos,af,none⟩::rest) ⟨f,bx,lv,gen⟩:=by
 subst M;subst a1;refine WO.step (st:=⟨f,bx,lv,gen⟩) rfl fun tmps w ⟨G,hs⟩=>?_;have M:=hs.av hx;have I:=hs.av hy;obtain⟨r,N⟩:=hs.live g (dw aj);generalize hv:Act.eval ⟨tmps,[]⟩ x=v at M;generalize a6:Act.eval ⟨tmps,[]⟩ y=v2 at I
 cases M with
 | bf _ _ _ _ b4 h1 O=>
 cases I with | d I=>cases I with | v _ _=>
 obtain⟨i,hi,hz,a7,a8⟩:=T.byte he ai;have b0:P.underlying u=some .string:=T.jB hu ad;obtain⟨v',w',J,G',_,b2,b3⟩:=uD (ty:=ty) hs N h1 (O r N) (sK.string (P:=P) (w:=w) (ty:=ty) (T.gv ht hk) b0 hi hz a7 a8 (m:=m) (by omega)) hb;rw[←hv,←a6] at J;exact cL (xb rfl J) ⟨_,⟨G',b2.put (dst:=some d) (cJ (dst:=some d) hd) b3⟩,h⟩
theorem ze {x y:Operand} {t e:Nat} {td ed:cI} {g:Nat} {s:ByteArray} {c:Int} (hx:av f x=some (.bf g e s)) (hy:av f y=some (.d (.sl [[.v (.int .u8 c)]]))) (ht:aY T.l t=some td) (hk:td.k=.slice e) (he:aY T.l e=some ed) (b3:wO ed=true)
 (b4:(lv.any fun h=>Nat.beq h g)=true) (hd:Nat.blt d n=true) (m:ByteArray) (hm:m.size=1) (b5:∀ b,m.data[0]? = some b→(b.toNat:Int)=c) (hb:s.size+1≤140737488355328) {r:ByteArray} (N:s++m=r) {lv':List Nat} (b6:gen::bD lv g=lv')
 (h:WO P C n ops Q rest ⟨(d,.bf gen e r)::f,bx,lv',gen+1⟩):WO P C n ops Q (⟨some d,.call ⟨.builtin .append,#[x,y],#[t,t]⟩,ty,pos,af,none⟩::rest) ⟨f,bx,lv,gen⟩:=by
 subst N;subst b6;refine WO.step (st:=⟨f,bx,lv,gen⟩) rfl fun tmps w ⟨G,hs⟩=>?_;have N:=hs.av hx;have I:=hs.av hy;obtain⟨r,U⟩:=hs.live g (dw b4);generalize hv:Act.eval ⟨tmps,[]⟩ x=v at N;generalize ch:Act.eval ⟨tmps,[]⟩ y=v2 at I
 cases N with
 | bf _ _ _ _ di h1 a6=>
 cases I with | d I=>cases I with
 | sl b2 J df a7 cj _ u2 X dj dt cl cq I=>
 simp only[List.length_cons,List.length_nil,Nat.zero_add] at X;subst X;have a8:cj=1:=by have:=cl 0 _ rfl;simpa using this.symm
 subst a8;have ad:=(cq 0 0 (by omega) (by omega)).1;have ai:=I 0 0 _ _ rfl rfl;obtain⟨b0,aj⟩:∃ b0,m.data[0]? = some b0:=⟨m.data[0]'(by have:m.data.size=1:=hm;omega),by have:m.data.size=1:=hm;simp[this]⟩;have O:∀ j q,(Lib.strCells m)[j]? = some q→w.cell? ((⟨b2,J,none⟩:Addr).add j)=some q:=by
  intro j q hq;have hj:j=0:=by have:=(List.getElem?_eq_some_iff.1 hq).1;rw[Lib.strCells_length,hm] at this;omega
  subst hj;rw[fS aj,b5 b0 aj] at hq;generalize u2 0 0=z at ad ai;cases ai;cases hq;have cx:w.cell? ⟨b2,J+0*1+0,none⟩=some (.int .u8 c):=ad;simpa [Addr.add] using cx
 obtain⟨i,hi,hz,cy,c1⟩:=T.byte he b3;have a1:=sK.one (P:=P) (w:=w) (ty:=ty) (c:=a7) (T.gv ht hk) hi hz cy c1 (a:=⟨b2,J,none⟩) (m:=m) (by omega) (by omega) O;rw[hm] at a1;obtain⟨v',w',M,G',_,c6,c7⟩:=uD (ty:=ty) hs U h1 (a6 r U) a1 (by rw[hm];exact hb);rw[←hv,←ch] at M;exact cL (xb rfl M) ⟨_,⟨G',c6.put (dst:=some d) (cJ (dst:=some d) hd) c7⟩,h⟩
theorem Cb (k:Nat) {e:TypeId} {ed:cI} (he:aY T.l e=some ed) (hz:qU ed.z [.pointer none,.slice none 0 0]=true) (hd:Nat.blt d n=true)
 (h:WO P C n ops Q rest ⟨(d,.ptr gen 0)::f,(gen,[.np gen e false,.bf (gen+1) k .empty])::bx,(gen+1)::lv,gen+2⟩):WO P C n ops Q (⟨some d,.alloc e,ty,pos,af,none⟩::rest) ⟨f,bx,lv,gen⟩:=by
 refine WO.step (st:=⟨f,bx,lv,gen⟩) rfl fun tmps w ⟨G,hs⟩=>?_;obtain⟨i,z,hi,_,_,aj,U,_,_,_⟩:=T.info he;rw[rE hz] at U;have N:z.cells=#[.pointer none,.slice none 0 0]:=by apply Array.ext';simpa using U
 obtain⟨G1,hle,a1,a6⟩:=hs.rF z.cells e [.any,.any] (by rw[N];rfl) (fun i u hu=>by
  rw[N] at hu
  match i with
  | 0=>simp at hu;subst hu;rfl
  | 1=>simp at hu;subst hu;rfl
  | i+2=>simp at hu) (fun i u a hu O=>by
  match i with
  | 0=>simp at O;subst O;exact .any _
  | 1=>simp at O;subst O;exact .any _
  | i+2=>simp at O)
 have J:(w.alloc (.cells z.cells e)).heap[w.heap.size]? = some (.cells z.cells e (0,0)):=heap_alloc_new w _;have a7:G1.box gen=some w.heap.size:=by
  cases a6 with
  | ptr _ _ _ b hg hb hx=>simp only[Value.pointer.injEq,Option.some.injEq,Addr.mk.injEq,and_true] at hx;rw[hx];exact hb
 obtain⟨G2,a8,X,b0⟩:=(a1.oG true (gen::lv |>.tail) (fun _ h=>h)).zH;have I:G2.box gen=some w.heap.size:=by rw[a8];exact a7
 have b2:=wR (T:=k) (s:=.empty) (g:=gen+1) b0 (.inl rfl);have ad:=bg.zD (i:=1) (a':=.bf (gen+1) k .empty) X X rfl rfl (cells:=[.any,.any]) (g0:=gen) (by simp[aY]) (v:=.slice none 0 0) (fun b cs T' hb M=>by rw[I] at hb;cases hb;rw[J] at M;simp only[Option.some.injEq,Obj.cells.injEq] at M;rw[←M.1,N];rfl) (fun _ _=>rfl) b2;have ai:=bg.zD (i:=0) (a':=.np gen e false) ad ad rfl rfl (cells:=[.any,.bf (gen+1) k .empty]) (g0:=gen) (by simp[aY]) (v:=.pointer none) (fun b cs T' hb M=>by rw[I] at hb;cases hb;rw[J] at M;simp only[Option.some.injEq,Obj.cells.injEq] at M;rw[←M.1,N];rfl) (fun _ _=>rfl) (.np _ gen e w.heap.size (by simp[bj];omega) I ⟨_,_,J⟩ false rfl);have b3:bg C n ⟨f,(gen,[.np gen e false,.bf (gen+1) k .empty])::bx,(gen+1)::lv,gen+2⟩ G2 tmps (w.alloc (.cells z.cells e)):=by refine { ai with box:=fun g' c hc=>?_ };refine ai.box g' c ?_;grind[cM]
 refine cL (v:=.pointer (some ⟨w.heap.size,0,none⟩)) (w':=w.alloc (.cells z.cells e)) ?_ ⟨_,⟨G2,b3.put (dst:=some d) (cJ (dst:=some d) hd) (.ptr _ gen 0 w.heap.size (by simp[bj]) I rfl)⟩,h⟩;unfold execOp;show Sem.run P _ w=_;simp only[Instr.alloc,zeroValue,typeInfo,hi,aj,newVar,newRow,Sem.run_bind,run_program,run_newObj,Result.andThen_ok,Sem.run_pure];rfl
end
structure mv (P:Program) (e:TypeId) (f:FuncId):Prop where
 used:∀ (b:Nat) (w:World),w.cell? ⟨b,0,none⟩=some (.pointer (some ⟨b,0,none⟩))→Calls P f #[.pointer (some ⟨b,0,none⟩)] w fun e w'=>e=.returned (.tuple #[])∧w'=w
 fresh:∀ (b:Nat) (w:World),w.cell? ⟨b,0,none⟩=some (.pointer none)→w.shape? b=some (e,2)→w.frozen? ⟨b,0,none⟩=false →
  Calls P f #[.pointer (some ⟨b,0,none⟩)] w fun e w'=>e=.returned (.tuple #[])∧w'=w.setCell ⟨b,0,none⟩ (.pointer (some ⟨b,0,none⟩))
theorem zk {w:World} {b o:Nat} {cs:Array Value} {T:TypeId} {fr:Nat×Nat} (h:w.heap[b]? = some (.cells cs T fr)) (v:Value):w.setCell ⟨b,o,none⟩ v=w.setRow b (cs.setIfInBounds o v):=by
 have I:=(Array.getElem?_eq_some_iff.1 h).1;have e:w.heap.modify b (fun | .cells c elem frozen=>Obj.cells (c.setIfInBounds o v) elem frozen | o=>o)=w.heap.modify b (fun | .cells _ elem frozen=>Obj.cells (cs.setIfInBounds o v) elem frozen | o=>o):=by grind
 exact congrArg (fun h=>({ w with heap:=h }:World)) e
theorem mv.DL {P:Program} [db P] {e:TypeId} {f:FuncId} (hok:jF P f) (h:mv P e f) (u:Bool) (a:A) (m:Nat):cm P f [.ptr 0 0] [[.np 0 e u,a]] m (.tup []) [[.np 0 e true,a]] m:=by
 refine⟨hok,rfl,fun C G M w hG hw b2 _ _ hs J a6=>?_⟩;obtain⟨b,cs,T',h1,h2,h3,h4,h5⟩:=hs.box 0 [.np 0 e u,a] (by simp[ey,aY]);have hv:M=#[.pointer (some ⟨b,0,none⟩)]:=by
  apply Array.ext_getElem?;intro i
  match i with
  | 0=>
    have h0:M[0]? = some (M[0]'(by simp at J;omega)):=by simp at J;simp[J]
    have:=a6 0 _ _ h0 rfl;rw[h0];generalize M[0]'(by simp at J;omega)=z at this
    cases this with
    | ptr _ _ _ N hg hb hx=>
      have O:N=b:=by have:=(hb:G.box 0=some N).symm.trans h1;simpa using this
      subst O;rw[hx];rfl
  | i+1=>simp at J;simp[J]
 have ai:cs[0]? = some (cs[0]'(by simp at h3;omega)):=by simp at h3;simp[h3]
 have aj:=h5 0 _ _ ai rfl;have I:w.cell? ⟨b,0,none⟩=some (cs[0]'(by simp at h3;omega)):=by have:=cz h2 0;rw[ai] at this;exact this
 have a7:bu (bj C G (1+m) w) (.pointer (some ⟨b,0,none⟩)) (.np 0 e true)∧((u=true∧cs[0]'(by simp at h3;omega)=.pointer (some ⟨b,0,none⟩))∨(u=false∧cs[0]'(by simp at h3;omega)=.pointer none∧T'=e)):=by
  generalize cs[0]'(by simp at h3;omega)=z at aj
  cases aj with
  | np _ _ _ N hg hb hT _ hx=>
    have O:N=b:=by have:=(hb:G.box 0=some N).symm.trans h1;simpa using this
    subst O;refine⟨.np _ 0 e N hg hb hT true rfl,?_⟩;obtain⟨cs',f',hT⟩:=hT;have U:w.heap[N]? = some (.cells cs' e f'):=hT;rw[h2] at U;simp only[Option.some.injEq,Obj.cells.injEq] at U
    cases u with
    | true=>exact .inl ⟨rfl,hx⟩
    | false=>exact .inr ⟨rfl,hx,U.2.1⟩
 obtain⟨a8,ad⟩:=a7;subst hv;rcases ad with ⟨rfl,hz⟩ | ⟨rfl,hz,rfl⟩
 ·rw[hz] at I
  refine(h.used b w I).mono ?_;rintro e' w' ⟨rfl,rfl⟩;exact⟨_,G,rfl,hs,.tup #[] [] rfl (by simp)⟩
 ·rw[hz] at I
  refine(h.fresh b w I (by simp only[World.shape?,h2];simp at h3;rw[h3]) (by simp[World.frozen?,h2])).mono ?_;rintro e' w' ⟨rfl,rfl⟩;rw[zk h2];have a1:=hs.store (g:=0) (b:=b) (cs:=cs) (cs':=cs.setIfInBounds 0 (.pointer (some ⟨b,0,none⟩))) (T:=T') (cells:=[.np 0 T' false,a]) (cells':=[.np 0 T' true,a]) (by simp[ey,aY]) h1 h2 ⟨by simpa using h3,fun i u hu=>by
   rw[Array.getElem?_setIfInBounds] at hu;split at hu
   ·split at hu
    ·simp only[Option.some.injEq] at hu;subst hu;rfl
    ·cases hu
   ·exact h4 i u hu,fun i u y hu X=>by
   rw[Array.getElem?_setIfInBounds] at hu
   match i with
   | 0=>simp at X;subst X;simp at h3;simp[h3] at hu;subst hu;exact a8
   | 1=>simp at X;subst X;simp at hu;exact h5 1 u _ hu rfl
   | i+2=>simp at X⟩
  refine⟨_,G,rfl,?_,.tup #[] [] rfl (by simp)⟩;refine { a1 with box:=fun g' c hc=>?_ };refine a1.box g' c ?_;simp only[ey,cM] at hc ⊢;split;·rename_i O;rw[if_pos O] at hc;exact hc
  ·rename_i O;rw[if_neg O] at hc;simp[aY] at hc
def pq:A→A
 | .d (.v x)=>.d (.v x)
 | _=>.any
def nE (f:List (Nat×A)):List (Nat×A):=f.map fun p=>(p.1,pq p.2)
theorem oU:∀ (f:List (Nat×A)) (t:Nat),look (nE f) t=(look f t).map pq
 | [],t=>rfl
 | (s,a)::r,t=>by
   simp only[nE,List.map_cons];rw[bU,bU];split;·rfl
   ·exact oU r t
theorem bg.end_ {C:Ctx} [hN:NB C 0] {n:Nat} {st:St} {G:Gh} {tmps:Array Value} {w w':World} (h:bg C n st G tmps w) (hb:Below C.w0.heap.size w w') (M:w.heap.size≤w'.heap.size):bg C n ⟨nE st.f,[],[],st.gen⟩ G0 tmps w' where
 size:=h.size
 frame:=fun t a N=>by
  rw[oU] at N;obtain⟨a',O,rfl⟩:=Option.map_eq_some_iff.1 N;obtain⟨v,U,I⟩:=h.frame t a' O;refine⟨v,U,?_⟩;unfold pq;split;·cases I with | d I=>cases I with | v _ X=>exact .d (.v _ X)
  ·exact .any _
 box:=fun g cells hc=>by simp[aY] at hc
 gbox:=fun g b hb=>by simp[G0] at hb
 inj:=fun g g' b hb=>by simp[G0] at hb
 live:=fun g hg=>by simp at hg
 gown:=fun g r I=>by simp[G0] at I
 row:=fun g b len cap sz ad I=>by simp[G0] at I
 mrow:=fun g b bs I=>by simp[G0] at I
 sub:=fun g b bs c lim I=>by simp[G0] at I
 gcell:=fun g b hb=>by simp[G0] at hb
 xold:=h.xold
 kold:=h.kold
 lent:=fun i b hb=>by have:=hN.h;rw[List.length_eq_zero_iff.1 this] at hb;simp at hb
 fr:=⟨hb.os.trans h.fr.os,hb.tape.trans h.fr.tape,hb.output.trans h.fr.output,Nat.le_trans h.fr.size M,fun b h1 h2=>(hb.block b h1).trans (h.fr.block b h1 h2),fun b o u h1 h2=>by
  have J:=dF h2;rw[cw (hb.block b J)];exact h.fr.cells b o u h1 h2,fun b cs T f h1=>by
  have J:=(Array.getElem?_eq_some_iff.1 h1).1;rw[hb.block b J];exact h.fr.ty b cs T f h1⟩
def sw (P:Program) (T e:TypeId) (f:FuncId):Prop:=
 ∀ (B b:Nat) (l:List UInt8) (w:World),Lib.IsBuilder T e B b (Lib.byteCells l) w→B≤w.heap.size→Calls P f #[.pointer (some ⟨b,0,none⟩)] w fun q w'=>q=.returned (.string ⟨l.toArray⟩)∧Below B w w'
section
variable {P:Program} {C:Ctx} {n:Nat} {ops:Array Oper} {Q:Exit→St→Prop} {rest:List Oper}
variable {f:List (Nat×A)} {bx:List (Nat×List A)} {lv:List Nat} {gen:Nat} {d:Nat} {ty:TypeId} {pos:String} {af:Array Edge}
theorem Hh [NB C 0] (cq:∀ b,¬ C.fp b) {x y:Operand} {N:Array TypeId} {fid:FuncId} {g g2:Nat} {T e:TypeId} {u:Bool} {s:ByteArray} (hx:av f x=some (.clo fid [])) (hy:av f y=some (.ptr g 0)) (hb:aY bx g=some [.np g T u,.bf g2 e s])
 (cx:(lv.any fun h=>Nat.beq h g2)=true) (hok:jF P fid) (b6:sw P T e fid) (cy:s.size≤maxLen) (hd:Nat.blt d n=true)
 (h:WO P C n ops Q rest ⟨(d,.d (.v (.string s)))::nE f,[],[],gen⟩):WO P C n ops Q (⟨some d,.call ⟨.value x,#[y],N⟩,ty,pos,af,none⟩::rest) ⟨f,bx,lv,gen⟩:=by
 refine WO.step (st:=⟨f,bx,lv,gen⟩) rfl fun tmps w ⟨G,hs⟩=>?_;obtain⟨fn,c1,aj,a1⟩:=hok;have a8:=hs.av hx;generalize hv:Act.eval ⟨tmps,[]⟩ x=v at a8
 cases a8 with
 | clo _ vs _ c6 ei=>
 have c7:vs=#[]:=Array.eq_empty_of_size_eq_zero (by simpa using c6);subst c7;have b3:=hs.av hy;generalize df:Act.eval ⟨tmps,[]⟩ y=vy at b3;obtain⟨b,cs,T',h1,h2,h3,h4,h5⟩:=hs.box g _ hb;have di:vy=.pointer (some ⟨b,0,none⟩):=by
  cases b3 with
  | ptr _ _ _ b0 hg U I=>exact mH U I b h1
 subst di;have ch:(execOp (Act.eval ⟨tmps,[]⟩) ⟨some d,.call ⟨.value x,#[y],N⟩,ty,pos,af,none⟩).run P w=.ok (.enter fid #[.pointer (some ⟨b,0,none⟩)]) w:=by unfold execOp;show Sem.run P (do let d ←resolve (Act.eval ⟨tmps,[]⟩) ⟨.value x,#[y],N⟩ ty;invoke d.target d.args) w=_;simp only[resolve,hv,df,Deferred.ofValue,Sem.run_bind,Sem.run_pure,Result.andThen_ok,invoke,callFunc,run_program,c1,aj,a1,Bool.false_eq_true,if_false,Array.empty_append,Array.append_empty,List.map_toArray,List.map_cons,List.map_nil]
 simp at h3;obtain⟨p,q,X⟩:∃ p q,cs=#[p,q]:=⟨cs[0],cs[1],by apply Array.ext_getElem?;intro i;match i with | 0=>simp[h3] | 1=>simp[h3] | i+2=>simp[h3]⟩;subst X;have hp:=h5 0 p _ rfl rfl;have hq:=h5 1 q _ rfl rfl;obtain⟨r,b4⟩:=hs.live g2 (dw cx);have iJ:∀ {b lim},C.iJ b lim→C.w0.heap.size≤b:=fun hm=>hm.1.resolve_right (cq _);have ad:T'=T∧(p=.pointer none∨p=.pointer (some ⟨b,0,none⟩)):=by
  cases hp with
  | np _ _ _ b0 hg U hT _ I=>
    have e1:b0=b:=by have:=(U:G.box g=some b0).symm.trans h1;simpa using this
    subst e1;obtain⟨cs',f',hT⟩:=hT;have O:w.heap[b0]? = some (.cells cs' T f'):=hT;grind
 obtain⟨rfl,ad⟩:=ad;have J:w.ownsRow C.w0.heap.size e 1 q (Lib.byteCells s.data.toList).length (Lib.byteCells s.data.toList)∧q.ownBlock≠some b:=by
  cases hq with
  | bf _ _ _ _ hg ej cj=>
  have I:=cj r b4
  cases r with
  | zero b=>exact I.elim
  | mp b bs=>exact I.elim
  | nil=>obtain⟨rfl,h0⟩:=I;have e0:s.data.toList=[]:=List.eq_nil_of_length_eq_zero (by simpa using h0);rw[e0];exact⟨World.ownsRow_nil w _ e 1,by simp[Value.ownBlock]⟩
  | blk b2 len cap sz en=>
    obtain⟨rfl,h6,rfl,rfl,⟨cs',f',hT⟩,h8⟩:=I;obtain⟨a6,e2,ec,cur,T2,M,X,dj,dt,_,ed,_⟩:=hs.row g2 b2 len cap 1 0 b4;have O:w.heap[b2]? = some (.cells cs' e f'):=hT;rw[M] at O;simp only[Option.some.injEq,Obj.cells.injEq] at O;obtain⟨_,rfl,_⟩:=O;have hlen:(Lib.byteCells s.data.toList).length=len:=by rw[Lib.byteCells_length,Array.length_toList];exact h6
    rw[hlen];refine⟨⟨by simpa using hlen,.inr ⟨b2,cap,cur,rfl,iJ a6,M,dj,dt,X,?_⟩⟩,?_⟩
    ·rw[Nat.mul_one]
     apply List.ext_getElem?;intro t;rw[List.getElem?_take];have es:(Lib.byteCells s.data.toList)=Lib.strCells s:=(Lib.strCells_eq s).symm;split
     ·rename_i b5
      have hc:s.data[t]? = some (s.data[t]'(by rw[←h6] at b5;exact b5)):=Array.getElem?_eq_getElem _;have h7:=h8 t _ hc;have dx:cur[t]? = _:=(cz M t).symm.trans h7;rw[es,fS hc,Array.getElem?_toList,dx]
     ·grind
    ·simp only[Value.ownBlock]
     grind
 have cl:∀ p,p=Value.pointer none∨p=.pointer (some ⟨b,0,none⟩)→w.heap[b]? = some (.cells #[p,q] T' (0,0))→Lib.IsBuilder T' e C.w0.heap.size b (Lib.byteCells s.data.toList) w:=by
  rintro p (rfl | rfl) hh;·exact .inl ⟨iJ (hs.gbox g b h1).2.2,q,hh,J.1,J.2⟩
  ·exact .inr ⟨iJ (hs.gbox g b h1).2.2,q,hh,J.1,J.2⟩
 unfold dR;have a7:(execOp (Act.eval { tmps:=tmps,defers:=[] }) ⟨some d,.call ⟨.value x,#[y],N⟩,ty,pos,af,none⟩).run P w=.ok (.enter fid #[.pointer (some ⟨b,0,none⟩)]) w:=ch;rw[a7];refine(b6 C.w0.heap.size b s.data.toList w (cl p ad h2) hs.fr.size).mono ?_;rintro e' w' ⟨rfl,ai⟩;refine⟨_,rfl,⟨(d,.d (.v (.string s)))::nE f,[],[],gen⟩,⟨G0,?_⟩,h⟩;have:=(hs.end_ ai ai.size).put (dst:=some d) (cJ (dst:=some d) hd) (v:=.string ⟨s.data.toList.toArray⟩) (a:=.d (.v (.string s))) (.d (by
  have:(⟨s.data.toList.toArray⟩:ByteArray)=s:=by apply ByteArray.ext;simp
  rw[this];exact .v _ (by simp[dd,cy])))
 exact this
end
end Go.Ab
namespace Go.Ab
theorem rn.DL {P:Program} [db P] {H:Ctx→Prop} {f:FuncId} {args:List A} {r:A} {k:Nat} (h:rn P H f args r k) (M:∀ C,H C):bq P f args r k:=
 ⟨h.ok,fun C I w N hw hp O J U=>h.calls C I w N hw hp (M C) O J U⟩
end Go.Ab
namespace Go.Ab
open Go.RowKit
abbrev fV (v:Value):Exit:=.panic [{ v:=v,recovered:=false }]
section
variable {C:Ctx} {n:Nat} {st:St}
theorem bg.Db {G:Gh} {tmps:Array Value} {w w':World} (h:bg C n st G tmps w) {gs os:List Nat} (h1:Fr (eO C G w gs os) w'):Fr C w':=by
 have N:∀ {b},fB G gs b→C.iJ b 0∧b < w.heap.size:=by rintro b ⟨g,_,U⟩;exact⟨(h.gbox g b U).2.2,(h.gbox g b U).2.1⟩
 have O:∀ {b lim},eE G os b lim→C.iJ b lim∧b < w.heap.size∧(∀ g',G.box g'≠some b):=by rintro b lim ⟨g,_,r,U,aj⟩;grind[bg.rowAt]
 have ad:∀ {b},(fB G gs b∨∃ lim,eE G os b lim)→C.w0.heap.size≤b∨C.fp b:=by
  rintro b (hl | ⟨lim,hl⟩);·exact(N hl).1.1
  ·exact(O hl).1.1
 have J:∀ {b},b < w.heap.size→¬ (fB G gs b∨∃ lim,eE G os b lim)→w'.heap[b]? = w.heap[b]?:=fun I M=>h1.block _ I M;refine⟨h1.os.trans h.fr.os,h1.tape.trans h.fr.tape,h1.output.trans h.fr.output,Nat.le_trans h.fr.size h1.size,fun b I M=>?_,fun b o u X hu=>?_,h.fr.ty.trans h1.ty⟩
 ·rw[J (Nat.lt_of_lt_of_le I h.fr.size) (fun hl=>(ad hl).elim (fun h=>by omega) M)]
  exact h.fr.block b I M
 ·have ai:=h.fr.cells b o u X hu
  by_cases hl:fB G gs b∨∃ lim,eE G os b lim
  ·rcases hl with hl | ⟨lim,hl⟩
   ·exact absurd ((N hl).1.2 o X) (Nat.not_lt_zero _)
   ·exact h1.cells b o u ⟨lim,hl,(O hl).1.2 o X⟩ ai
  ·grind[cw,dF]
theorem bg.left {G:Gh} {tmps:Array Value} {w w':World} (h:bg C n st G tmps w) (J:Fr C w') (hs:w.heap.size≤w'.heap.size) (M:ek w w'):bg C n ⟨[],[],[],st.gen⟩ ⟨G.box,fun _=>none⟩ tmps w':=
 { size:=h.size,frame:=fun t a N=>by simp[look] at N,box:=fun g cells O=>by simp[aY] at O,gbox:=fun g b hb=>⟨(h.gbox g b hb).1,Nat.lt_of_lt_of_le (h.gbox g b hb).2.1 hs,(h.gbox g b hb).2.2⟩,
   inj:=h.inj,live:=fun g U=>by simp at U,gown:=fun g r I=>by simp at I,row:=fun g b len cap sz X I=>by simp at I,mrow:=fun g b bs I=>by simp at I,sub:=fun g b bs c lim I=>by simp at I,gcell:=fun g b hb=>lX M (h.gcell g b hb),xold:=h.xold,kold:=h.kold,lent:=h.lent,fr:=J }
end
structure iv (P:Program) [db P] (f:FuncId) (args:List A) (b0:List (List A)) (m:Nat) (v:Value):Prop where
 ok:jF P f
 calls:∀ (C:Ctx) (G:Gh) (vals:Array Value) (w:World),GC P C→C.w0=w→C.bx.length=b0.length→C.ds=[]→(m=0→∀ b,C.fp b→∃ i:Nat,C.bx[i]? = some b) →
  bg C 0 ⟨[],ey 0 b0,(List.range m).map (b0.length+·),b0.length+m⟩ G #[] w→vals.size=args.length →
  (∀ (i:Nat) (u:Value) (a:A),vals[i]? = some u→args[i]? = some a→bu (bj C G (b0.length+m) w) u a) →
  Calls P f vals w fun e w'=>e=.panicked [{ v:=v,recovered:=false }]∧Fr C w'
def QP (v:Value):Exit→St→Prop:=fun e _=>e=fV v
theorem iv.E9 {P:Program} [db P] {f:FuncId} {fn:Func} {c:Code} {n:Nat} {args:List A} {J:List (List A)} {m:Nat} {v:Value} (O:P.funcs[f]? = some fn) (M:(fn.name == "runtime.NumGoroutine")=false)
 (hb:fn.body=some c) (hn:fn.ntmps=n) (hlen:Nat.ble args.length n=true)
 (h:∀ C,NB C J.length→GC P C→(m=0→∀ b,C.fp b→∃ i:Nat,C.bx[i]? = some b)→(∀ i b:Nat,C.bx[i]? = some b→b < C.w0.heap.size)→W P C n c (QP v) ⟨hU 0 args,ey 0 J,(List.range m).map (J.length+·),J.length+m⟩):iv P f args J m v:=by
 have hlen:=Nat.le_of_ble_eq_true hlen;refine⟨⟨fn,O,M,by rw[hb];rfl⟩,fun C G I w hG hw U N X hs aj ai=>?_⟩;subst hw;refine calls_of_wp O hb (wp_mono (qd N (h C ⟨U⟩ hG X (fun i b hb=>(hs.gbox i b (hs.lent i b hb)).2.1) (I++Array.replicate (fn.ntmps - I.size) undef) C.w0 ⟨G,?_⟩)) ?_)
 ·refine { hs with size:=by simp[hn];omega,frame:=fun t a ha=>?_ }
  obtain⟨_,h1⟩:=gl args 0 t a ha;have h2:t < args.length:=(List.getElem?_eq_some_iff.1 (by simpa using h1)).1;have h3:t < I.size:=by omega
  have h4:I[t]? = some I[t]:=by simp[h3]
  grind
 ·rintro e ⟨tmps,df⟩ w' ⟨hd,st,⟨G1,ad⟩,he⟩
  have he:e=fV v:=he;subst he;exact⟨hd.trans N,rfl,ad.fr⟩
theorem iv.bZ {P:Program} [db P] {f:FuncId} {fn:Func} {c:Code} {n:Nat} {args:List A} {I:List (List A)} {m:Nat} {v:Value} (M:P.funcs[f]? = some fn) (J:(fn.name == "runtime.NumGoroutine")=false)
 (hb:fn.body=some c) (N:fn.ntmps=n) (hlen:Nat.ble args.length n=true)
 (h:∀ C,NB C I.length→GC P C→W P C n c (QP v) ⟨hU 0 args,ey 0 I,(List.range m).map (I.length+·),I.length+m⟩):iv P f args I m v:=
 iv.E9 M J hb N hlen fun C hC O _ _=>h C hC O
inductive Out where
 | ret (r:A) (b1:List (List A)) (k:Nat)
 | gG (v:Value)
def dH (P:Program) [db P] (f:FuncId) (args:List A) (I:List (List A)) (m:Nat):Out→Prop
 | .ret r b1 k=>cm P f args I m r b1 k
 | .gG v=>iv P f args I m v
def QX {P:Program} (T:cn P) (rs:List RV):Out→Exit→St→Prop
 | .ret r b1 k=>cR T rs r b1 k
 | .gG v=>QP v
def Out.len:Out→Nat→Bool
 | .ret _ b1 _,n=>Nat.beq b1.length n
 | .gG _,_=>true
theorem dH.dQ {P:Program} (T:cn P) [db P] {f:FuncId} {fn:Func} {c:Code} {rs:List RV} {n:Nat} {args:List A} {J:List (List A)} {m:Nat} {x:Out} (M:P.funcs[f]? = some fn) (I:(fn.name == "runtime.NumGoroutine")=false)
 (hb:fn.body=some c) (N:fn.ntmps=n) (U:fn.results=(rs.map RV.var).toArray) (hlen:Nat.ble args.length n=true) (O:x.len J.length=true)
 (h:∀ C,NB C J.length→GC P C→W P C n c (QX T rs x) ⟨hU 0 args,ey 0 J,(List.range m).map (J.length+·),J.length+m⟩):dH P f args J m x:=by
 cases x with
 | ret r b1 k=>exact cm.dQ T M I hb N U hlen (Nat.eq_of_beq_eq_true O) h
 | gG v=>exact iv.bZ M I hb N hlen h
theorem dH.wX {P:Program} (T:cn P) [db P] {f:FuncId} {fn:Func} {c:Code} {rs:List RV} {n:Nat} {args:List A} {J:List (List A)} {m:Nat} {x:Out} (M:P.funcs[f]? = some fn) (I:(fn.name == "runtime.NumGoroutine")=false)
 (hb:fn.body=some c) (N:fn.ntmps=n) (U:fn.results=(rs.map RV.var).toArray) (hlen:Nat.ble args.length n=true) (O:x.len J.length=true)
 (h:∀ C,NB C J.length→GC P C→(m=0→∀ b,C.fp b→∃ i:Nat,C.bx[i]? = some b)→(∀ i b:Nat,C.bx[i]? = some b→b < C.w0.heap.size)→W P C n c (QX T rs x) ⟨hU 0 args,ey 0 J,(List.range m).map (J.length+·),J.length+m⟩):dH P f args J m x:=by
 cases x with
 | ret r b1 k=>exact cm.wX T M I hb N U hlen (Nat.eq_of_beq_eq_true O) h
 | gG v=>exact iv.E9 M I hb N hlen h
theorem dH.ret {P:Program} [db P] {f:FuncId} {args:List A} {I:List (List A)} {m:Nat} {x:Out} {r:A} {b1:List (List A)} {k:Nat} (h:dH P f args I m x) (J:x=.ret r b1 k):cm P f args I m r b1 k:=by subst J;exact h
theorem dH.gG {P:Program} [db P] {f:FuncId} {args:List A} {I:List (List A)} {m:Nat} {x:Out} {v:Value} (h:dH P f args I m x) (J:x=.gG v):iv P f args I m v:=by subst J;exact h
section
variable {P:Program} {C:Ctx} {n:Nat} {ops:Array Oper} {Q:Exit→St→Prop} {rest:List Oper} {st:St} {o:Oper}
theorem WO.FZ (M:o.guard=none) {x:Operand} (N:o.op=.panic x) {t:TypeId} {y:Value} (O:av st.f x=some (.d (.v (.iface t y)))) (h:∀ st',Q (fV (.iface t y)) st'):WO P C n ops Q (o::rest) st:=by
 intro tmps w ⟨G,hs⟩;simp only[eX,Region.wanted,M,if_true];have I:=hs.av O;have U:Act.eval ⟨tmps,C.ds⟩ x=.iface t y:=by rw[Act.iR tmps C.ds []];generalize Act.eval ⟨tmps,[]⟩ x=v at I ⊢;cases I with | d I=>cases I;rfl
 unfold Oper.wp;have J:(execOp (Act.eval ⟨tmps,C.ds⟩) o).run P w=.halt (.panic (.iface t y)) w:=by unfold execOp;rw[N];simp[U,Instr.panic,goPanic]
 rw[J];exact⟨rfl,st,⟨G,hs⟩,h st⟩
theorem WO.dk [db P] [GC P C] (O:o.guard=none) {x:Operand} {xs:Array Operand} {N:Array TypeId} (ho:o.op=.call ⟨.value x,xs,N⟩) {fid:FuncId} {caps I:List A} (hx:av st.f x=some (.clo fid caps))
 (aj:jV st.f xs.toList=some I) (gs os:List Nat) (a1:nodupB gs=true) (a6:nodupB os=true) (a7:(os.all fun g=>st.lv.any fun h=>Nat.beq h g)=true) {args:List A} {b0:List (List A)} {v:Value} {m:Nat}
 (hf:iv P fid args b0 m v) (U:(I++caps).map (dU st.bx gs os 5)=args) (hb:fQ st.bx gs os gs=some b0) (hm:os.length=m)
 (h:∀ st',Q (fV v) st'):WO P C n ops Q (o::rest) st:=by
 subst hm;subst U;intro tmps w ⟨G,hs⟩;simp only[eX,Region.wanted,O,if_true];obtain⟨fn,a8,J,M⟩:=hf.ok;have X:=hs.av hx;rw[←Act.iR tmps C.ds []] at X;generalize hv:Act.eval ⟨tmps,C.ds⟩ x=v' at X
 cases X with
 | clo _ vs _ b2 hcd=>
 obtain⟨h1,h2⟩:=iS hs xs.toList I aj;rw[←Act.iR tmps C.ds []] at h2;have ad:(execOp (Act.eval ⟨tmps,C.ds⟩) o).run P w=.ok (.enter fid (xs.map (Act.eval ⟨tmps,C.ds⟩)++vs)) w:=by unfold execOp;rw[ho];show Sem.run P (do let d ←resolve (Act.eval ⟨tmps,C.ds⟩) ⟨.value x,xs,N⟩ o.type;invoke d.target d.args) w=_;simp only[resolve,hv,Deferred.ofValue,Sem.run_bind,Sem.run_pure,Result.andThen_ok,invoke,callFunc,run_program,a8,J,M,Bool.false_eq_true,if_false,Array.empty_append]
 obtain⟨hlen,ai⟩:=hs.kV (gs:=gs) (os:=os) (eb a1) (eb a6) (fun g O=>by obtain⟨y,hy,he⟩:=List.any_eq_true.1 (List.all_eq_true.1 a7 g O);exact Nat.eq_of_beq_eq_true he▸hy) hb;have b4:=(gS hb).1;unfold Oper.wp;rw[ad];refine(hf.calls (eO C G w gs os) (gK G gs os) _ w (GC.qn hs) rfl hlen rfl (pz rfl) ai (by simp at h1;simp[b2,h1]) (fun i u a hu ha=>?_)).mono fun e w' ⟨he,h3⟩=>?_
 ·simp only[List.getElem?_map,Option.map_eq_some_iff] at ha
  obtain⟨y,hy,rfl⟩:=ha;refine bu.kV hs gs os (by omega) 5 u y ?_;grind
 ·subst he
  have b3:=hs.Db h3;exact⟨rfl,_,⟨_,hs.left b3 h3.size h3.ty⟩,h _⟩
end
section
variable {P:Program} {C:Ctx} {n:Nat} {ops:Array Oper} {Q:Exit→St→Prop} {rest:List Oper} {c:Code}
variable {f:List (Nat×A)} {bx:List (Nat×List A)} {lv:List Nat} {gen:Nat} {d:Nat} {op:Op} {ty:TypeId} {pos:String} {af:Array Edge} {a:A} {dst:Option Nat}
theorem Hp {x:Operand} {t:TypeId} {y:Value} (I:av f x=some (.d (.v (.iface t y)))) (h:∀ st',Q (fV (.iface t y)) st'):WO P C n ops Q (⟨dst,.panic x,ty,pos,af,none⟩::rest) ⟨f,bx,lv,gen⟩:=
 WO.FZ (st:=⟨f,bx,lv,gen⟩) rfl rfl I h
theorem dk [db P] [GC P C] {x:Operand} {xs:Array Operand} {M:Array TypeId} {fid:FuncId} {caps I args:List A} {N:List (List A)} {v:Value} {m:Nat} (gs os:List Nat) (hx:av f x=some (.clo fid caps)) (O:jV f xs.toList=some I)
 (J:(I++caps).map (dU bx gs os 5)=args) (hb:fQ bx gs os gs=some N) (hm:os.length=m) (hf:iv P fid args N m v)
 (U:nodupB gs=true) (X:nodupB os=true) (ad:(os.all fun g=>lv.any fun h=>Nat.beq h g)=true) (h:∀ st',Q (fV v) st') :
 WO P C n ops Q (⟨dst,.call ⟨.value x,xs,M⟩,ty,pos,af,none⟩::rest) ⟨f,bx,lv,gen⟩:=
 WO.dk (st:=⟨f,bx,lv,gen⟩) rfl rfl hx O gs os U X ad hf J hb hm h
theorem xz {w:World} {pv:Nat→Nat→Prop} {a b:Value} (h:bE w pv a (.v b)):a=b:=by cases h;rfl
theorem F1 (T:cn P) {t:Nat} {x:Operand} {td:cI} {l:List Value} (J:aY T.l t=some td) (M:td.k.agg=true) (N:av f x=some (.ag (l.map D.v))):Pu P C n ⟨f,bx,lv,gen⟩ ⟨dst,.makeInterface t x,ty,pos,af,none⟩ (.d (.v (.iface t (.agg l.toArray)))):=by
 refine ao fun G tmps w hs=>?_;have I:=hs.av N;generalize O:Act.eval ⟨tmps,[]⟩ x=v at I
 cases I with
 | ag vs _ U h=>
 have e:vs=l.toArray:=by
  apply Array.ext;·grind
  ·intro i h1 h2
   have h3:i < l.length:=by simpa using h2
   have:=xz (h i vs[i] (.v l[i]) (by simp[h1]) (by simp[h3]));grind
 subst e;refine⟨_,?_,.d (.v _ rfl)⟩;obtain⟨u,hu,X⟩:∃ u,P.underlying t=some u∧(match u with | .interface _=>false | _=>true)=true:=by
  have:=T.isAgg J w;unfold isAgg at this
  cases hu:P.underlying t with
  | none=>simp[underlying,hu] at this
  | some u=>refine⟨u,rfl,?_⟩;cases u <;> first | rfl | (simp[underlying,hu,M] at this)
 unfold execOp;simp only[O,Instr.makeInterface,Sem.run_bind,run_underlying hu,Result.andThen_ok,Sem.run_pure];cases u <;> simp_all
end
end Go.Ab
namespace Go.Tb
open Go.Ab
structure Tk where
 kind:Int
 s:ByteArray
 n:Int
 at_:Nat
 nx:Nat
abbrev E0:ByteArray:=B #[]
@[reducible] def Tk.c (t:Tk):List D:=[ci t.kind,cs (if t.kind=3 then E0 else t.s),ci t.n,ci (t.at_:Int)]
def Iq (k:Int):Int:=if k=0 then 0 else if k=1 then 5 else k - 1
@[reducible] def Tk.r (t:Tk):List D:=[ci (Iq t.kind),cs t.s,ci (t.at_:Int),ci (t.nx:Int)]
def H4 (b:UInt8):Bool:=decide (97≤b.toNat) && decide (b.toNat≤122)
abbrev IH (k:Nat):Tk:=⟨0,E0,0,k,0⟩
def Tk.stops (t:Tk):Bool:=decide (t.kind=0) || decide (t.kind=1)
def Tk.ok (t:Tk):Bool:=
 (!decide (t.kind=2) || (match bc t.s with | c::_=>H4 c | []=>false)) && (!decide (t.kind=5) || (match bc t.s with | c::_=>!H4 c | []=>false)) &&
 (!decide (t.kind=3) || decide ((gV t.s).2=true∧t.n=(gV t.s).1)) && decide (0≤t.kind) && decide (t.kind≤5)
structure Wf (l:List Tk):Prop where
 ne:l≠[]
 last:∀ (i:Nat) t,l[i]? = some t→(t.stops=true↔i+1=l.length)
 ok:∀ t∈l,t.ok=true
abbrev PS:=Nat×Bool
abbrev Pr (α:Type):=PS→α×PS
abbrev Jb:Tk:=IH 0
section
variable (L:List Tk)
def HP (st:PS):Tk:=(L[st.1]?).getD Jb
/-! ### what readers do -/
structure px {α:Type} (f:Pr α):Prop where
 mono:∀ st,st.1≤(f st).2.1
 lt:∀ st,st.1 < L.length→(f st).2.1 < L.length
 bad:∀ st,st.2=true→(f st).2=st
variable {L}
theorem GZ {st:PS} {t:Tk} (h:L[st.1]? = some t):HP L st=t:=by unfold HP;rw[h];rfl
theorem Wf.more (hw:Wf L) {st:PS} (h:st.1 < L.length) (hs:(HP L st).stops=false):st.1+1 < L.length:=by
 have e:L[st.1]? = some (L[st.1]'h):=by simp
 rw[GZ e] at hs;have:=hw.last _ _ e;grind
end
section
variable (L:List Tk)
variable {L}
/-! ### steps and queries -/
theorem px.seq {α β:Type} {f:Pr α} {h:Pr β} (I:px L f) (J:px L h):px L (fun st=>h (f st).2) where
 mono st:=Nat.le_trans (I.mono st) (J.mono _)
 lt st hl:=J.lt _ (I.lt st hl)
 bad st hb:=by have h1:=I.bad st hb;have h2:=J.bad (f st).2 (by rw[h1];exact hb);grind
theorem px.map {α β:Type} {f:Pr α} {h:Pr β} (I:px L f) (e:∀ st,(h st).2=(f st).2):px L h where
 mono st:=by rw[e];exact I.mono st
 lt st hl:=by rw[e];exact I.lt st hl
 bad st hb:=by rw[e];exact I.bad st hb
end
theorem yX (s:ByteArray) (i j:Nat):bc (s.extract i j)=((bc s).take j).drop i:=by grind[bc,ByteArray.data_extract,Array.toList_extract,List.extract_eq_drop_take',List.drop_take]
/-! ### the functions -/
/-! ### the same as by places -/
end Go.Tb
namespace Go.Tb
open Go.Ab
inductive JV where
 | mk (op n:Int) (s:ByteArray) (keys:List ByteArray) (kids:List JV)
def JV.op:JV→Int | .mk a _ _ _ _=>a
def JV.n:JV→Int | .mk _ a _ _ _=>a
def JV.s:JV→ByteArray | .mk _ _ a _ _=>a
def JV.keys:JV→List ByteArray | .mk _ _ _ a _=>a
def JV.kids:JV→List JV | .mk _ _ _ _ a=>a
mutual
def JV.kc:JV→List (List D)
 | .mk _ _ _ _ kids=>JV.tV kids
def JV.tV:List JV→List (List D)
 | []=>[]
 | e::r=>[ci e.op,ci e.n,cs e.s,.sl (e.keys.map sc),.sl (JV.kc e)]::JV.tV r
end
@[reducible] def JV.c (e:JV):List D:=[ci e.op,ci e.n,cs e.s,.sl (e.keys.map sc),.sl e.kc]
theorem JV.ri:∀ l,JV.tV l=l.map JV.c
 | []=>rfl
 | e::r=>by simp[JV.tV,JV.ri r]
theorem JV.oP (e:JV):e.kc=e.kids.map JV.c:=by cases e;simp[JV.kc,JV.kids,JV.ri]
theorem JV.bA (e:JV):e.kc.length=e.kids.length:=by simp[JV.oP]
theorem JV.CF {e:JV} {i:Nat} {k:JV} (h:e.kids[i]? = some k):e.kc[i]? = some k.c:=by rw[JV.oP];exact bN h
theorem aI {p:JV→Prop} (h:∀ e,(∀ k∈e.kids,p k)→p e):∀ e,p e:=by
 intro e
 induction hn:_root_.SizeOf.sizeOf e using Nat.strongRecOn generalizing e with
 | _ m I=>
   subst hn;refine h e fun k J=>I (_root_.SizeOf.sizeOf k) ?_ k rfl
   cases e with
   | mk op n s keys kids=>have:=List.sizeOf_lt_of_mem (show k∈kids from J);grind
/-! equality -/
mutual
def GG:JV→JV→Bool
 | .mk a b c d e,.mk a' b' c' d' e'=>decide (a=a') && (decide (b=b') && (decide (c=c') && (decide (d=d') && sP e e')))
def sP:List JV→List JV→Bool
 | [],[]=>true
 | x::l,y::m=>GG x y && sP l m
 | _,_=>false
end
mutual
theorem Aa:∀ (a b:JV),GG a b=true↔a=b
 | .mk a b c d e,.mk a' b' c' d' e'=>by simp only[GG,Bool.and_eq_true,decide_eq_true_eq,JV.mk.injEq,x5 e e']
theorem x5:∀ (l m:List JV),sP l m=true↔l=m
 | [],[]=>by simp[sP]
 | x::l,y::m=>by simp only[sP,Bool.and_eq_true,Aa x y,x5 l m,List.cons.injEq]
 | [],_::_=>by simp[sP]
 | _::_,[]=>by simp[sP]
end
instance:DecidableEq JV:=fun a b=>decidable_of_iff _ (Aa a b)
/-! checking -/
def known (b:UInt8):Bool:=decide (b.toNat=9) || (decide (b.toNat=10) || (decide (32≤b.toNat) && decide (b.toNat≤126)))
def eR (s:ByteArray):Bool:=(bc s).all known
def fH:JV:=.mk 0 0 (B #[]) [] []
def dy (j:JV):Bool:=
 if j.op=1 then decide (j.n=0) && (decide (j.s=B #[]) && decide (j.keys.length+j.kids.length=0))
 else if j.op=2∨j.op=3 then decide (j.s=B #[]) && decide (j.keys.length+j.kids.length=0)
 else if j.op=4 then decide (j.n=0) && decide (j.keys.length+j.kids.length=0)
 else if j.op=5 then decide (j.n=0) && (decide (j.s=B #[]) && decide (j.keys.length=0))
 else if j.op=6 then decide (j.n=0) && (decide (j.s=B #[]) && decide (j.keys.length=j.kids.length))
 else false
def gz (seen:List ByteArray):List ByteArray→Bool
 | []=>false
 | s::r=>if seen.any (fun x=>decide (x=s)) then true else gz (seen++[s]) r
def fN (j:JV) (level:Int):Int:=
 if dy j=false then 1
 else if (j.op=2∧j.n≠0∧j.n≠1)∨(j.op=3∧eQ j.n=false) then 2
 else if eR j.s=false∨(j.keys.any fun s=>!eR s)=true then 10
 else if gz [] j.keys=true then 4
 else if 5≤j.op∧16 < level then 20
 else 0
mutual
def cv:JV→Int→Int
 | .mk op n s keys kids,level=>if fN (.mk op n s keys kids) level≠0 then fN (.mk op n s keys kids) level else dM kids (level+1)
def dM:List JV→Int→Int
 | [],_=>0
 | k::r,level=>if cv k level≠0 then cv k level else dM r level
end
/-! printing -/
def dz (b:UInt8):List UInt8:=if b=34∨b=92 then [92,b] else if b=10 then [92,110] else if b=9 then [92,116] else [b]
def dh (l:List UInt8):List UInt8:=34::(l.flatMap dz++[34])
def nR:List UInt8:=[110,117,108,108]
def kL:List UInt8:=[116,114,117,101]
def jn:List UInt8:=[102,97,108,115,101]
mutual
def bt:JV→List UInt8
 | .mk op n s keys kids=>
   if op=1 then nR else if op=2 then (if n=1 then kL else jn) else if op=3 then bc (dZ n) else if op=4 then dh (bc s)
   else if op=6 then 123::(bY keys kids true++[125]) else 91::(da kids true++[93])
def da:List JV→Bool→List UInt8
 | [],_=>[]
 | k::r,first=>(if first then [] else [44])++bt k++da r false
def bY:List ByteArray→List JV→Bool→List UInt8
 | s::keys,k::r,first=>(if first then [] else [44])++dh (bc s)++[58]++bt k++bY keys r false
 | _,_,_=>[]
end
def fg (j:JV) (key:ByteArray):Option JV:=
 if j.op=6 then (match j.keys.findIdx? fun x=>decide (key=x) with | some i=>j.kids[i]? | none=>none) else none
/-! parsing: 'no at why' is a fault -/
inductive PE (α:Type) where
 | ok (x:α) (i:Nat)
 | no (at_:Nat) (why:Int)
def n9 (b:UInt8):Bool:=decide (b.toNat=32) || (decide (b.toNat=9) || (decide (b.toNat=10) || decide (b.toNat=13)))
def bh (l:List UInt8) (i:Nat):UInt8:=l.getD i 0
def mg (l:List UInt8):Nat→Nat→Nat
 | 0,i=>i
 | k+1,i=>if i < l.length∧n9 (bh l i)=true then mg l k (i+1) else i
def bp (l:List UInt8) (i:Nat):Nat:=mg l (l.length - i) i
def cF (l:List UInt8) (c:UInt8) (i:Nat):PE Unit:=if i < l.length∧bh l i=c then .ok () (i+1) else .no i 10
def du (l:List UInt8):List UInt8→Nat→PE Unit
 | [],i=>.ok () i
 | c::r,i=>match cF l c i with
   | .ok _ j=>du l r j
   | .no a w=>.no a w
def kz (c:UInt8):Option Nat:=
 if 48≤c.toNat∧c.toNat≤57 then some (c.toNat - 48) else if 97≤(c ||| 32).toNat∧(c ||| 32).toNat≤102 then some ((c ||| 32).toNat - 97+10) else none
def fc (l:List UInt8) (i:Nat):PE UInt8:=
 if bh l i=34∨bh l i=92∨bh l i=47 then .ok (bh l i) (i+1)
 else if bh l i=110 then .ok 10 (i+1)
 else if bh l i=116 then .ok 9 (i+1)
 else match du l [117,48,48] i with
  | .no a w=>.no a w
  | .ok _ j=>match kz (bh l j) with
    | none=>.no j 10
    | some high=>if high=1∨7 < high then .no j 10 else match kz (bh l (j+1)) with
      | none=>.no (j+1) 10
      | some low=>if known (UInt8.ofNat (16*high+low))=false then .no (j+1) 10 else .ok (UInt8.ofNat (16*high+low)) (j+2)
def dG (l:List UInt8):Nat→Nat→List UInt8→PE (List UInt8)
 | 0,i,_=>.no i 10
 | k+1,i,acc=>
   if (bh l i).toNat < 32∨126 < (bh l i).toNat then .no i 10
   else if bh l i=34 then .ok acc (i+1)
   else if bh l i=92 then (match fc l (i+1) with
    | .no a w=>.no a w
    | .ok c j=>dG l k j (acc++[c]))
   else dG l k (i+1) (acc++[bh l i])
def ee (l:List UInt8) (i:Nat):PE (List UInt8):=match cF l 34 i with
 | .no a w=>.no a w
 | .ok _ j=>dG l (l.length+1 - j) j []
def iW (l:List UInt8):Nat→Nat→Nat
 | 0,i=>i
 | k+1,i=>if i < l.length∧eH (bh l i)=true then iW l k (i+1) else i
def cA (l:List UInt8) (i:Nat):Nat:=if bh l i=48 then i+1 else iW l (l.length - i) i
def eK (l:List UInt8) (i:Nat):PE JV:=
 let i1:=if bh l i=45 then i+1 else i
 let i2:=cA l i1
 if i2=i1 then .no i1 10 else
 let t:ByteArray:=⟨((l.drop i).take (i2 - i)).toArray⟩
 let u:=if t=B #[45,48] then B #[48] else t
 if (gV u).2=true then .ok (.mk 3 (gV u).1 (B #[]) [] []) i2 else .no i 2
def bytesOf (l:List UInt8):ByteArray:=⟨l.toArray⟩
mutual
def dB (l:List UInt8):Nat→Int→Nat→PE JV
 | 0,_,i=>.no i 10
 | k+1,level,i0=>
   let i:=bp l i0
   let c:=bh l i
   if c=110 then (match du l nR i with | .no a w=>.no a w | .ok _ j=>.ok (.mk 1 0 (B #[]) [] []) j)
   else if c=116 then (match du l kL i with | .no a w=>.no a w | .ok _ j=>.ok (.mk 2 1 (B #[]) [] []) j)
   else if c=102 then (match du l jn i with | .no a w=>.no a w | .ok _ j=>.ok (.mk 2 0 (B #[]) [] []) j)
   else if c=34 then (match ee l i with | .no a w=>.no a w | .ok t j=>.ok (.mk 4 0 (bytesOf t) [] []) j)
   else if c=91∨c=123 then
    if 16 < level then .no i 20
    else if c=91 then gh l k level (i+1) else gg l k level (i+1)
   else eK l i
def gh (l:List UInt8):Nat→Int→Nat→PE JV
 | 0,_,i=>.no i 10
 | k+1,level,i0=>
   let i:=bp l i0
   if bh l i=93 then .ok (.mk 5 0 (B #[]) [] []) (i+1) else fk l k level i []
def fk (l:List UInt8):Nat→Int→Nat→List JV→PE JV
 | 0,_,i,_=>.no i 10
 | k+1,level,i,acc=>match dB l k (level+1) i with
   | .no a w=>.no a w
   | .ok v j=>
     let j1:=bp l j
     if bh l j1=44 then fk l k level (j1+1) (acc++[v])
     else match cF l 93 j1 with | .no a w=>.no a w | .ok _ j2=>.ok (.mk 5 0 (B #[]) [] (acc++[v])) j2
def gg (l:List UInt8):Nat→Int→Nat→PE JV
 | 0,_,i=>.no i 10
 | k+1,level,i0=>
   let i:=bp l i0
   if bh l i=125 then .ok (.mk 6 0 (B #[]) [] []) (i+1) else fz l k level i [] []
def fz (l:List UInt8):Nat→Int→Nat→List ByteArray→List JV→PE JV
 | 0,_,i,_,_=>.no i 10
 | k+1,level,i0,keys,acc=>
   let i:=bp l i0
   match ee l i with
   | .no a w=>.no a w
   | .ok t j=>
     if keys.any (fun x=>decide (x=bytesOf t)) then .no i 4 else
     match cF l 58 (bp l j) with
     | .no a w=>.no a w
     | .ok _ j1=>match dB l k (level+1) j1 with
       | .no a w=>.no a w
       | .ok v j2=>
         let j3:=bp l j2
         if bh l j3=44 then fz l k level (j3+1) (keys++[bytesOf t]) (acc++[v])
         else match cF l 125 j3 with | .no a w=>.no a w | .ok _ j4=>.ok (.mk 6 0 (B #[]) (keys++[bytesOf t]) (acc++[v])) j4
end
def er (l:List UInt8):PE JV:=match dB l (3*l.length+1) 1 0 with
 | .no a w=>.no a w
 | .ok j i=>if bp l i < l.length then .no (bp l i) 10 else .ok j 0
end Go.Tb
namespace Go.Tb
open Go.Ab
/-! a text from a position on -/
theorem dv {l:List UInt8} {i:Nat} {a:UInt8} {r:List UInt8} (h:l.drop i=a::r):i < l.length∧bh l i=a∧l.drop (i+1)=r:=by grind[Nat.lt_or_ge,List.drop_eq_nil_of_le,List.drop_eq_getElem_cons,bh,List.getElem?_eq_getElem]
theorem qR {l x r:List UInt8} {i:Nat} (h:l.drop i=x++r):l.drop (i+x.length)=r:=by rw[←List.drop_drop,h,List.drop_append_of_le_length (Nat.le_refl _),List.drop_length,List.nil_append]
theorem nk {l:List UInt8} {i:Nat} (h:l.length≤i):bh l i=0:=by unfold bh;grind
theorem im {l:List UInt8} {i:Nat}:bh l i=(l.drop i).headD 0:=by grind[Nat.lt_or_ge,List.drop_eq_getElem_cons,bh,List.getElem?_eq_getElem,nk,List.drop_eq_nil_of_le]
/-! white space -/
theorem AU {l:List UInt8} {i:Nat} (h:n9 (bh l i)=false):∀ k,mg l k i=i
 | 0=>rfl
 | k+1=>by simp only[mg];rw[if_neg (by simp[h])]
theorem eh {l:List UInt8} {i:Nat} (h:n9 (bh l i)=false):bp l i=i:=AU h _
theorem xN (l:List UInt8):∀ (k i:Nat),i≤mg l k i
 | 0,_=>Nat.le_refl _
 | k+1,i=>by
   simp only[mg];split;·exact Nat.le_trans (Nat.le_succ i) (xN l k (i+1))
   ·grind
theorem yT (l:List UInt8):∀ (k i:Nat),i≤l.length→mg l k i≤l.length
 | 0,_,h=>h
 | k+1,i,h=>by
   simp only[mg];split;·rename_i q;exact yT l k (i+1) q.1
   ·grind
theorem cT (l:List UInt8) (i:Nat):i≤bp l i:=xN l _ i
theorem cZ {l:List UInt8} {i:Nat} (h:i≤l.length):bp l i≤l.length:=yT l _ i h
theorem BW {l:List UInt8} {i:Nat} (h:l.length≤i):bp l i=i:=by refine eh ?_;rw[nk h];rfl
theorem Bs {l:List UInt8} {i:Nat} (h:i < l.length) (hw:n9 (bh l i)=true):bp l i=bp l (i+1):=by unfold bp;obtain⟨k,I⟩:∃ k,l.length - i=k+1:=⟨l.length - i - 1,by omega⟩;grind[mg]
/-! words and texts -/
theorem mI {l:List UInt8} {i:Nat} {a:UInt8} {r:List UInt8} (h:l.drop i=a::r):cF l a i=.ok () (i+1):=by grind[dv,cF]
theorem p9 {l:List UInt8}:∀ {x:List UInt8} {i:Nat} {r:List UInt8},l.drop i=x++r→du l x i=.ok () (i+x.length)
 | [],i,r,_=>rfl
 | a::x,i,r,h=>by obtain⟨h1,h2,h3⟩:=dv h;simp only[du,mI h];rw[p9 h3,List.length_cons];congr 1;omega
theorem yY {b:UInt8} (h:known b=true):b=9∨b=10∨(32≤b.toNat∧b.toNat≤126):=by
 unfold known at h;simp only[Bool.or_eq_true,Bool.and_eq_true,decide_eq_true_eq] at h;rcases h with h | h | h
 ·exact .inl (UInt8.toNat_inj.1 h)
 ·exact .inr (.inl (UInt8.toNat_inj.1 h))
 ·grind
theorem vV {l:List UInt8}:∀ {t:List UInt8} {k i:Nat} {acc r:List UInt8},(∀ b∈t,known b=true)→l.drop i=t.flatMap dz++34::r→t.length+1≤k→dG l k i acc=.ok (acc++t) (i+(t.flatMap dz).length+1)
 | [],k,i,acc,r,_,h,hk=>by obtain⟨k,rfl⟩:∃ J,k=J+1:=⟨k - 1,by simp at hk;omega⟩;obtain⟨h1,h2,h3⟩:=dv (show l.drop i=34::r from h);unfold dG;simp_all
 | b::t,k,i,acc,r,hp,h,hk=>by
   obtain⟨k,rfl⟩:∃ J,k=J+1:=⟨k - 1,by simp at hk;omega⟩;have hb:=yY (hp b (List.mem_cons_self ..));have X:=fun N M O=>vV (l:=l) (t:=t) (k:=k) (i:=N) (acc:=M) (r:=r) (fun x U=>hp x (List.mem_cons_of_mem _ U)) O (by simp at hk;omega);have e:(b::t).flatMap dz=dz b++t.flatMap dz:=rfl;rw[e,List.append_assoc] at h;have I:∀ (c d:UInt8),dz b=[92,c]→(∀ j,bh l j=c→fc l j=.ok d (j+1))→d=b→dG l (k+1) i acc=.ok (acc++b::t) (i+((b::t).flatMap dz).length+1):=by intro c d he hj hd;subst hd;rw[he] at h;obtain⟨h1,h2,h3⟩:=dv (show l.drop i=92::(c::(t.flatMap dz++34::r)) from h);obtain⟨h4,h5,h6⟩:=dv h3;unfold dG;rw[h2,if_neg (by decide),if_neg (by decide),if_pos rfl,hj _ h5];grind
   by_cases q1:b=34∨b=92
   ·refine I b b (by unfold dz;rw[if_pos q1]) (fun j hj=>?_) rfl
    unfold fc;grind
   by_cases q2:b=10
   ·refine I 110 10 (by unfold dz;rw[if_neg q1,if_pos q2]) (fun j hj=>?_) q2.symm
    grind[fc]
   by_cases q3:b=9
   ·refine I 116 9 (by unfold dz;rw[if_neg q1,if_neg q2,if_pos q3]) (fun j hj=>?_) q3.symm
    grind[fc]
   have he:dz b=[b]:=by unfold dz;rw[if_neg q1,if_neg q2,if_neg q3]
   have hr:32≤b.toNat∧b.toNat≤126:=by grind
   rw[he] at h;obtain⟨h1,h2,h3⟩:=dv (show l.drop i=b::(t.flatMap dz++34::r) from h);unfold dG;grind
theorem yN {l:List UInt8} {t:List UInt8} {i:Nat} {r:List UInt8} (hp:∀ b∈t,known b=true) (h:l.drop i=dh t++r):ee l i=.ok t (i+(dh t).length):=by
 have I:l.drop i=34::(t.flatMap dz++34::r):=by rw[h];simp[dh]
 obtain⟨h1,h2,h3⟩:=dv I;unfold ee;rw[mI I];dsimp only;have hlen:t.length≤(t.flatMap dz).length:=by
  clear h I h3
  induction t with
  | nil=>simp
  | cons a t J=>grind[dz,List.mem_cons_of_mem,List.length_append,List.length_cons]
 have hl:(l.drop (i+1)).length=l.length - (i+1):=List.length_drop ..;rw[h3] at hl;simp only[List.length_append,List.length_cons] at hl;rw[vV hp h3 (by omega)];grind[dh]
theorem lz (s:ByteArray):bytesOf (bc s)=s:=by cases s;rfl
theorem iQ (l:List UInt8):bc (bytesOf l)=l:=by simp[bc,bytesOf]
/-! numbers -/
theorem C9:∀ u,(fa u).headD 0=48→u=0:=by
 refine pL (fun u h I=>?_) (fun u h M I=>?_)
 ·rw[jt h] at I
  have h1:(UInt8.ofNat (48+u)).toNat=48:=by simp_all
  grind[UInt8.toNat_ofNat']
 ·rw[mS h] at I
  have J:=jy (u / 10);have:(fa (u / 10)).headD 0=48:=by
   cases hd:fa (u / 10) with
   | nil=>exact absurd hd J
   | cons a r=>rw[hd] at I;exact I
  grind
theorem zJ {l:List UInt8}:∀ {x:List UInt8} {k i:Nat} {r:List UInt8},l.drop i=x++r→(∀ b∈x,eH b=true)→eH (r.headD 0)=false→x.length≤k→iW l k i=i+x.length
 | [],k,i,r,h,_,hr,_=>by
   have I:bh l i=r.headD 0:=by rw[im,h];rfl
   cases k with
   | zero=>rfl
   | succ k=>simp only[iW];rw[if_neg (by rw[I,hr];simp)];rfl
 | a::x,k,i,r,h,hd,hr,hk=>by obtain⟨k,rfl⟩:∃ J,k=J+1:=⟨k - 1,by simp at hk;omega⟩;obtain⟨h1,h2,h3⟩:=dv h;simp only[iW];rw[if_pos ⟨h1,by rw[h2];exact hd a (List.mem_cons_self ..)⟩,zJ h3 (fun b hb=>hd b (List.mem_cons_of_mem _ hb)) hr (by simp at hk;omega),List.length_cons];omega
theorem AZ {u:Nat}:eH ((fa u).headD 0)=true:=by
 cases hd:fa u with
 | nil=>exact absurd hd (jy u)
 | cons a r=>exact nn u a (by rw[hd];exact List.mem_cons_self ..)
theorem yv {l:List UInt8} {u i:Nat} {r:List UInt8} (h:l.drop i=fa u++r) (I:eH (r.headD 0)=false):cA l i=i+(fa u).length:=by
 have J:bh l i=(fa u).headD 0:=by
  rw[im,h]
  cases hd:fa u with
  | nil=>exact absurd hd (jy u)
  | cons a x=>rfl
 grind[cA,bh,C9,jt,zJ,nn,List.length_drop]
theorem zt {b:UInt8} (h:eH b=true):b≠45:=by rintro rfl;exact absurd h (by decide)
theorem Gl {l:List UInt8} {n:Int} {i:Nat} {r:List UInt8} (I:eQ n=true) (h:l.drop i=bc (dZ n)++r) (J:eH (r.headD 0)=false):eK l i=.ok (.mk 3 n (B #[]) [] []) (i+(bc (dZ n)).length):=by
 have hb:bc (dZ n)=Lib.itoa n:=lD n;have key:∀ i1 i2,(if bh l i=45 then i+1 else i)=i1→cA l i1=i2→i2≠i1→i2=i+(bc (dZ n)).length→eK l i=.ok (.mk 3 n (B #[]) [] []) (i+(bc (dZ n)).length):=by
  intro i1 i2 h1 h2 h3 h4;unfold eK;rw[h1];dsimp only;rw[h2,if_neg h3];have M:(⟨((l.drop i).take (i2 - i)).toArray⟩:ByteArray)=dZ n:=by rw[h4,Nat.add_sub_cancel_left,h,List.take_append_of_le_length (Nat.le_refl _),List.take_length];exact lz (dZ n)
  have N:¬ dZ n=B #[45,48]:=fun q=>by
   have h5:=yn I;rw[q] at h5;exact absurd h5 (by
    have:gV (B #[45,48])=(0,false):=by decide +kernel
    rw[this];simp)
  grind[yn]
 rcases Int.lt_or_le n 0 with h0 | h0
 ·rw[hb,kb h0] at h
  obtain⟨h1,h2,h3⟩:=dv (show l.drop i=45::(fa n.natAbs++r) from h);grind[yv,List.length_pos_iff,jy,kb,List.length_cons]
 ·rw[hb,ke h0] at h
  have hd:=yv h J;have hp:=List.length_pos_iff.2 (jy n.toNat);have O:bh l i=(fa n.toNat).headD 0:=by
   rw[im,h]
   cases hd:fa n.toNat with
   | nil=>exact absurd hd (jy _)
   | cons a x=>rfl
  grind[zt,AZ,ke]
/-! what a valid node is -/
theorem ie {j:JV} {level:Int} (h:fN j level=0):dy j=true∧¬ ((j.op=2∧j.n≠0∧j.n≠1)∨(j.op=3∧eQ j.n=false))∧eR j.s=true∧(∀ s∈j.keys,eR s=true)∧gz [] j.keys=false∧(5≤j.op→level≤16):=by
 unfold fN at h;split at h;·grind
 ·grind
theorem rU {s:ByteArray} (h:eR s=true):∀ b∈bc s,known b=true:=List.all_eq_true.1 h
theorem mb {α β:Type} {a:List α} {b:List β} (h:a.length+b.length=0):a=[]∧b=[]:=⟨List.length_eq_zero_iff.1 (by omega),List.length_eq_zero_iff.1 (by omega)⟩
/-! the first byte of a printed value -/
theorem rW (j:JV) (level:Int) (h:cv j level=0):∃ a r,bt j=a::r∧n9 a=false:=by
 obtain⟨op,n,s,keys,kids⟩:=j;simp only[bt];split;·exact⟨_,_,rfl,by decide⟩
 ·split
  ·split
   ·exact⟨_,_,rfl,by decide⟩
   ·exact⟨_,_,rfl,by decide⟩
  ·split
   ·rcases Int.lt_or_le n 0 with h0 | h0
    ·exact⟨45,fa n.natAbs,by rw[show bc (dZ n)=Lib.itoa n from lD n,kb h0],by decide⟩
    ·rw[show bc (dZ n)=Lib.itoa n from lD n,ke h0]
     cases hd:fa n.toNat with
     | nil=>exact absurd hd (jy _)
     | cons a r=>refine⟨a,r,rfl,?_⟩;have h1:=nn n.toNat a (by rw[hd];exact List.mem_cons_self ..);unfold eH at h1;simp only[Bool.and_eq_true,decide_eq_true_eq] at h1;unfold n9;grind
   ·split
    ·exact⟨34,_,rfl,by decide⟩
    ·split
     ·exact⟨123,_,rfl,by decide⟩
     ·exact⟨91,_,rfl,by decide⟩
theorem fh (x:JV) (r:List JV) (first:Bool):da (x::r) first=(if first then [] else [44])++bt x++da r false:=by simp[da]
theorem dE (s:ByteArray) (keys:List ByteArray) (x:JV) (r:List JV) (first:Bool):bY (s::keys) (x::r) first=(if first then [] else [44])++dh (bc s)++[58]++bt x++bY keys r false:=by simp[bY]
theorem qX {seen:List ByteArray} {s:ByteArray} {r:List ByteArray}:gz seen (s::r)=false↔seen.any (fun x=>decide (x=s))=false∧gz (seen++[s]) r=false:=by simp only[gz];cases seen.any (fun x=>decide (x=s)) <;> simp
theorem ia {k:JV} {r:List JV} {level:Int} (h:dM (k::r) level=0):cv k level=0∧dM r level=0:=by grind[dM]
theorem ko {op n:Int} {s:ByteArray} {keys:List ByteArray} {kids:List JV} {level:Int} (h:cv (.mk op n s keys kids) level=0):fN (.mk op n s keys kids) level=0∧dM kids (level+1)=0:=by grind[cv]
theorem A3 (op n:Int) (s:ByteArray) (keys:List ByteArray) (kids:List JV):dy (.mk op n s keys kids) =
 (if op=1 then decide (n=0) && (decide (s=B #[]) && decide (keys.length+kids.length=0))
 else if op=2∨op=3 then decide (s=B #[]) && decide (keys.length+kids.length=0)
 else if op=4 then decide (n=0) && decide (keys.length+kids.length=0)
 else if op=5 then decide (n=0) && (decide (s=B #[]) && decide (keys.length=0))
 else if op=6 then decide (n=0) && (decide (s=B #[]) && decide (keys.length=kids.length))
 else false):=rfl
def DO (v:JV):Prop:=∀ (level:Int),cv v level=0→∀ (l:List UInt8) (i k:Nat) (r:List UInt8),l.drop i=bt v++r→eH (r.headD 0)=false→3*(bt v).length+1≤k→dB l k level i=.ok v (i+(bt v).length)
theorem uC {level:Int} {l:List UInt8} {r:List UInt8}:∀ (kids:List JV),(∀ x∈kids,DO x)→dM kids (level+1)=0→kids≠[]→∀ (i k:Nat) (acc:List JV),l.drop i=da kids true++93::r→3*((da kids true).length+1)≤k →
 fk l k level i acc=.ok (.mk 5 0 (B #[]) [] (acc++kids)) (i+(da kids true).length+1)
 | [],_,_,hne,_,_,_,_,_=>absurd rfl hne
 | x::kids,hb,hc,_,i,k,acc,h,hk=>by
   obtain⟨J,M⟩:=ia hc;rw[fh] at h hk ⊢;simp only[if_true,List.nil_append,List.append_assoc] at h;simp only[if_true,List.nil_append,List.length_append] at hk ⊢;obtain⟨k,rfl⟩:∃ N,k=N+1:=⟨k - 1,by omega⟩;have hd:eH ((da kids false++93::r).headD 0)=false:=by
    cases kids with
    | nil=>rfl
    | cons y kids=>rw[fh];rfl
   have O:=hb x (List.mem_cons_self ..) (level+1) J l i k _ h hd (by omega);have h2:=qR h;unfold fk;rw[O];dsimp only
   cases kids with
   | nil=>have I:l.drop (i+(bt x).length)=93::r:=h2;obtain⟨h3,h4,h5⟩:=dv I;rw[eh (by rw[h4];decide),h4,if_neg (by decide),mI I];simp[da]
   | cons y kids=>
     have e:da (y::kids) false=44::da (y::kids) true:=by rw[fh,fh];simp
     rw[e] at h2 hk ⊢;obtain⟨h3,h4,h5⟩:=dv (show l.drop (i+(bt x).length)=44::(da (y::kids) true++93::r) from h2);rw[eh (by rw[h4];decide),h4,if_pos rfl];have:=uC (y::kids) (fun z U=>hb z (List.mem_cons_of_mem _ U)) M (by simp) (i+(bt x).length+1) k (acc++[x]) h5 (by simp only[List.length_cons] at hk;omega);rw[this];simp only[List.append_assoc,List.cons_append,List.nil_append,List.length_cons,PE.ok.injEq,true_and];omega
theorem qx {level:Int} {l:List UInt8} {r:List UInt8}:∀ (keys:List ByteArray) (kids:List JV),keys.length=kids.length→(∀ s∈keys,eR s=true)→(∀ x∈kids,DO x)→dM kids (level+1)=0→kids≠[] →
 ∀ (i k:Nat) (seen:List ByteArray) (acc:List JV),gz seen keys=false→l.drop i=bY keys kids true++125::r→3*((bY keys kids true).length+1)≤k →
 fz l k level i seen acc=.ok (.mk 6 0 (B #[]) (seen++keys) (acc++kids)) (i+(bY keys kids true).length+1)
 | _,[],_,_,_,_,hne,_,_,_,_,_,_,_=>absurd rfl hne
 | [],_::_,hl,_,_,_,_,_,_,_,_,_,_,_=>by simp at hl
 | s::keys,x::kids,hl,hp,hb,hc,_,i,k,seen,acc,hr,h,hk=>by
   obtain⟨N,O⟩:=ia hc;obtain⟨U,X⟩:=qX.1 hr;rw[dE] at h hk ⊢;simp only[if_true,List.nil_append,List.append_assoc,List.cons_append] at h;simp only[if_true,List.nil_append,List.length_append,List.length_cons,List.length_nil] at hk ⊢;obtain⟨k,rfl⟩:∃ k',k=k'+1:=⟨k - 1,by omega⟩;have hq:bh l i=34:=by rw[im,h];rfl
   have ht:=yN (rU (hp s (List.mem_cons_self ..))) h;have h2:=qR h;obtain⟨h3,h4,h5⟩:=dv h2;have hd:eH ((bY keys kids false++125::r).headD 0)=false:=by
    cases keys with
    | nil=>simp[bY];decide
    | cons t keys=>
      cases kids with
      | nil=>simp[bY];decide
      | cons y kids=>rw[dE];rfl
   have hv:=hb x (List.mem_cons_self ..) (level+1) N l _ k _ h5 hd (by omega);have J:=qR h5;unfold fz;dsimp only;rw[eh (by rw[hq];decide),ht];dsimp only;rw[lz,if_neg (by rw[U];simp),eh (by rw[h4];decide),mI h2];dsimp only;rw[hv];dsimp only
   cases kids with
   | nil=>
     have ad:keys=[]:=List.length_eq_zero_iff.1 (by simpa using hl);subst ad;have h7:l.drop (i+(dh (bc s)).length+1+(bt x).length)=125::r:=by rw[J];rfl
     obtain⟨h8,I,_⟩:=dv h7;rw[eh (by rw[I];decide),I,if_neg (by decide),mI h7];simp[bY];omega
   | cons y kids=>
     cases keys with
     | nil=>simp at hl
     | cons t keys=>
       have e:bY (t::keys) (y::kids) false=44::bY (t::keys) (y::kids) true:=by rw[dE,dE];simp
       rw[e] at J hk ⊢;obtain⟨h8,I,ai⟩:=dv (show l.drop (i+(dh (bc s)).length+1+(bt x).length)=44::(bY (t::keys) (y::kids) true++125::r) from J);rw[eh (by rw[I];decide),I,if_pos rfl];have:=qx (t::keys) (y::kids) (by simpa using hl) (fun z M=>hp z (List.mem_cons_of_mem _ M)) (fun z M=>hb z (List.mem_cons_of_mem _ M)) O (by simp) _ k (seen++[s]) (acc++[x]) X ai (by simp only[List.length_cons] at hk;omega);rw[this];simp only[List.append_assoc,List.cons_append,List.nil_append,List.length_cons,PE.ok.injEq,true_and];omega
theorem back:∀ v,DO v:=by
  refine aI fun v ih=>?_
  obtain⟨op,n,s,keys,kids⟩:=v
  intro level hc l i k r h hr hk
  obtain⟨hn,hcs⟩:=ko hc
  obtain⟨hf,hrange,hpl,hkeys,hrep,hlev⟩:=ie hn
  simp only[JV.op,JV.n,JV.s,JV.keys] at hrange hpl hkeys hrep hlev
  obtain⟨k,rfl⟩:∃ k',k=k'+1:=⟨k - 1,by omega⟩
  obtain⟨a,q,hpa,hws⟩:=rW _ level hc
  have hhere:bh l i=a:=by rw[im,h,hpa];rfl
  have hskip:bp l i=i:=eh (by rw[hhere];exact hws)
  unfold dB
  dsimp only
  rw[hskip]
  rw[A3] at hf
  by_cases o1:op=1
  · subst o1
    rw[if_pos rfl] at hf
    simp only[Bool.and_eq_true,decide_eq_true_eq] at hf
    obtain⟨rfl,rfl,hz⟩:=hf
    obtain⟨rfl,rfl⟩:=mb hz
    have hp:bt (.mk 1 0 (B #[]) [] [])=nR:=by simp[bt]
    rw[hp] at h ⊢
    rw[(dv (show l.drop i=110::([117,108,108]++r) from h)).2.1,if_pos rfl,p9 h]
  by_cases o2:op=2
  · subst o2
    rw[if_neg (show ¬ (2:Int)=1 by decide),if_pos (.inl rfl)] at hf
    simp only[Bool.and_eq_true,decide_eq_true_eq] at hf
    obtain⟨rfl,hz⟩:=hf
    obtain⟨rfl,rfl⟩:=mb hz
    by_cases n1:n=1
    · subst n1
      have hp:bt (.mk 2 1 (B #[]) [] [])=kL:=by simp[bt]
      rw[hp] at h ⊢
      rw[(dv (show l.drop i=116::([114,117,101]++r) from h)).2.1,if_neg (by decide),if_pos rfl,p9 h]
    · have n0:n=0:=by
        by_cases z:n=0
        · exact z
        · exact absurd (.inl ⟨rfl,z,n1⟩) hrange
      subst n0
      have hp:bt (.mk 2 0 (B #[]) [] [])=jn:=by simp[bt]
      rw[hp] at h ⊢
      rw[(dv (show l.drop i=102::([97,108,115,101]++r) from h)).2.1,if_neg (by decide),if_neg (by decide),if_pos rfl,p9 h]
  by_cases o3:op=3
  · subst o3
    rw[if_neg (show ¬ (3:Int)=1 by decide),if_pos (.inr rfl)] at hf
    simp only[Bool.and_eq_true,decide_eq_true_eq] at hf
    obtain⟨rfl,hz⟩:=hf
    obtain⟨rfl,rfl⟩:=mb hz
    have hin:eQ n=true:=by
      by_cases z:eQ n=true
      · exact z
      · exact absurd (.inr ⟨rfl,by simpa using z⟩) hrange
    have hp:bt (.mk 3 n (B #[]) [] [])=bc (dZ n):=by simp[bt]
    rw[hp] at h hpa ⊢
    have hnum:=Gl hin h hr
    have ha:eH a=true∨a=45:=by
      have hb:bc (dZ n)=Lib.itoa n:=lD n
      rw[hb] at hpa
      rcases Int.lt_or_le n 0 with h0 | h0
      · rw[kb h0] at hpa;injection hpa with h1 _;exact .inr h1.symm
      · rw[ke h0] at hpa
        exact .inl (nn n.toNat a (by rw[hpa];exact List.mem_cons_self ..))
    have hne:a≠110∧a≠116∧a≠102∧a≠34∧a≠91∧a≠123:=by
      rcases ha with ha | ha
      · refine⟨?_,?_,?_,?_,?_,?_⟩ <;> (rintro rfl;exact absurd ha (by decide))
      · subst ha;decide
    rw[hhere,if_neg hne.1,if_neg hne.2.1,if_neg hne.2.2.1,if_neg hne.2.2.2.1,if_neg (by rintro(z | z);exact hne.2.2.2.2.1 z;exact hne.2.2.2.2.2 z),hnum]
  by_cases o4:op=4
  · subst o4
    rw[if_neg (by decide),if_neg (by decide),if_pos rfl] at hf
    simp only[Bool.and_eq_true,decide_eq_true_eq] at hf
    obtain⟨rfl,hz⟩:=hf
    obtain⟨rfl,rfl⟩:=mb hz
    have hp:bt (.mk 4 0 s [] [])=dh (bc s):=by simp[bt]
    rw[hp] at h ⊢
    have ht:=yN (rU hpl) h
    rw[show bh l i=34 by rw[im,h];rfl,if_neg (by decide),if_neg (by decide),if_neg (by decide),if_pos rfl,ht]
    dsimp only
    rw[lz]
  by_cases o5:op=5
  · subst o5
    rw[if_neg (by decide),if_neg (by decide),if_neg (by decide),if_pos rfl] at hf
    simp only[Bool.and_eq_true,decide_eq_true_eq] at hf
    obtain⟨rfl,rfl,hz⟩:=hf
    have hkz:=List.length_eq_zero_iff.1 hz
    subst hkz
    have hp:bt (.mk 5 0 (B #[]) [] kids)=91::(da kids true++[93]):=by simp[bt]
    rw[hp] at h hk ⊢
    simp only[List.length_cons,List.length_append,List.length_nil] at hk ⊢
    have hl:=hlev (by decide)
    obtain⟨h1,h2,h3⟩:=dv (show l.drop i=91::(da kids true++[93]++r) by rw[h];simp)
    rw[h2,if_neg (by decide),if_neg (by decide),if_neg (by decide),if_neg (by decide),if_pos (.inl rfl),if_neg (by omega),if_pos rfl]
    obtain⟨k,rfl⟩:∃ k',k=k'+1:=⟨k - 1,by omega⟩
    unfold gh
    dsimp only
    cases kids with
    | nil=>
      obtain⟨h4,h5,h6⟩:=dv (show l.drop (i+1)=93::r by rw[h3];rfl)
      rw[eh (by rw[h5];decide),h5,if_pos rfl]
      simp[da]
    | cons x kids=>
      obtain⟨hc1,hc2⟩:=ia hcs
      obtain⟨b,t,hb,hbw⟩:=rW x (level+1) hc1
      have hh:bh l (i+1)=b:=by rw[im,h3,fh];simp[hb]
      have hb93:b≠93:=by
        rintro rfl
        have:=ih x (List.mem_cons_self ..) (level+1) hc1 (bt x) 0 (3*(bt x).length+1) [] (by simp) rfl (Nat.le_refl _)
        rw[hb] at this
        simp only[dB] at this
        rw[eh (by show n9 93=false;decide)] at this
        simp[bh,eK,cA,iW,eH] at this
      rw[eh (by rw[hh];exact hbw),hh,if_neg hb93]
      have h3':l.drop (i+1)=da (x::kids) true++93::r:=by rw[h3];simp
      rw[uC (x::kids) (fun z hz=>ih z hz) hcs (by simp) (i+1) k [] h3' (by omega)]
      simp only[List.nil_append,PE.ok.injEq,true_and]
      omega
  by_cases o6:op=6
  · subst o6
    rw[if_neg (by decide),if_neg (by decide),if_neg (by decide),if_neg (by decide),if_pos rfl] at hf
    simp only[Bool.and_eq_true,decide_eq_true_eq] at hf
    obtain⟨rfl,rfl,hz⟩:=hf
    have hp:bt (.mk 6 0 (B #[]) keys kids)=123::(bY keys kids true++[125]):=by simp[bt]
    rw[hp] at h hk ⊢
    simp only[List.length_cons,List.length_append,List.length_nil] at hk ⊢
    have hl:=hlev (by decide)
    obtain⟨h1,h2,h3⟩:=dv (show l.drop i=123::(bY keys kids true++[125]++r) by rw[h];simp)
    rw[h2,if_neg (by decide),if_neg (by decide),if_neg (by decide),if_neg (by decide),if_pos (.inr rfl),if_neg (by omega),if_neg (by decide)]
    obtain⟨k,rfl⟩:∃ k',k=k'+1:=⟨k - 1,by omega⟩
    unfold gg
    dsimp only
    cases kids with
    | nil=>
      have hkz:=List.length_eq_zero_iff.1 hz
      subst hkz
      obtain⟨h4,h5,h6⟩:=dv (show l.drop (i+1)=125::r by rw[h3];simp[bY])
      rw[eh (by rw[h5];decide),h5,if_pos rfl]
      simp[bY]
    | cons x kids=>
      cases keys with
      | nil=>simp at hz
      | cons t keys=>
        have hh:bh l (i+1)=34:=by rw[im,h3,dE];simp[dh]
        rw[eh (by rw[hh];decide),hh,if_neg (by decide)]
        have h3':l.drop (i+1)=bY (t::keys) (x::kids) true++125::r:=by rw[h3];simp
        rw[qx (t::keys) (x::kids) hz hkeys (fun z hz=>ih z hz) hcs (by simp) (i+1) k [] [] hrep h3' (by omega)]
        simp only[List.nil_append,PE.ok.injEq,true_and]
        omega
  · rw[if_neg o1,if_neg (show ¬ (op=2∨op=3) by rintro(z | z);exact o2 z;exact o3 z),if_neg o4,if_neg o5,if_neg o6] at hf
    cases hf
/-! positions -/
def Bd {α:Type} (l:List UInt8) (i:Nat):PE α→Prop
 | .ok _ j=>i < j∧j≤l.length
 | .no a _=>i≤a∧a≤l.length
theorem jf {l:List UInt8} {c:UInt8} {i:Nat} (h:i≤l.length):Bd l i (cF l c i):=by
 unfold cF;split;·rename_i q;exact⟨Nat.lt_succ_self _,q.1⟩
 ·exact⟨Nat.le_refl _,h⟩
theorem mF {l:List UInt8}:∀ {x:List UInt8} {i:Nat},i≤l.length→(match du l x i with | .ok _ j=>j=i+x.length∧j≤l.length | .no a _=>i≤a∧a≤l.length)
 | [],i,h=>⟨rfl,h⟩
 | c::x,i,h=>by
   simp only[du];have h1:=jf (c:=c) h
   cases I:cF l c i with
   | no a w=>rw[I] at h1;exact h1
   | ok u j=>
     have hj:j=i+1∧i < l.length:=by grind[cF]
     have J:=mF (l:=l) (x:=x) (i:=j) (by omega);grind
theorem xg {l:List UInt8}:∀ {x:List UInt8} {i a:Nat} {w:Int},du l x i=.no a w→w=10
 | [],i,a,w,h=>by cases h
 | c::x,i,a,w,h=>by
   simp only[du] at h
   cases ht:cF l c i with
   | no a' w'=>grind[cF]
   | ok u j=>rw[ht] at h;exact xg h
theorem de {l:List UInt8} {i:Nat} (h:bh l i≠0):i < l.length:=by grind[Nat.lt_or_ge,nk]
theorem Ao {l:List UInt8} {i n:Nat} (h:kz (bh l i)=some n):i < l.length:=de fun q=>by rw[q,show kz 0=none by decide] at h;cases h
theorem vC {l:List UInt8} {i:Nat} (h:i≤l.length):Bd l i (fc l i):=by
 unfold fc;split
 ·rename_i q
  exact⟨Nat.lt_succ_self _,de fun z=>by rw[z] at q;revert q;decide⟩
 ·split
  ·rename_i q;exact⟨Nat.lt_succ_self _,de (by rw[q];decide)⟩
  ·split
   ·rename_i q;exact⟨Nat.lt_succ_self _,de (by rw[q];decide)⟩
   ·have hw:=mF (l:=l) (x:=[117,48,48]) h
    revert hw
    cases du l [117,48,48] i with
    | no a w=>exact fun hw=>hw
    | ok u j=>
      rintro⟨h1,h2⟩;have h1:j=i+3:=h1;dsimp only;split;·exact⟨by omega,h2⟩
      ·rename_i high I
       have:=Ao I;split;·exact⟨by omega,h2⟩
       ·split
        ·exact⟨by omega,by omega⟩
        ·rename_i low hl
         have:=Ao hl;split;·exact⟨by omega,by omega⟩
         ·exact⟨by omega,by omega⟩
theorem qv {l:List UInt8}:∀ {k i:Nat} {acc:List UInt8},i≤l.length→Bd l i (dG l k i acc)
 | 0,i,_,h=>⟨Nat.le_refl _,h⟩
 | k+1,i,acc,h=>by
   unfold dG;split;·exact⟨Nat.le_refl _,h⟩
   ·rename_i M
    have I:i < l.length:=de fun z=>M (by rw[z];left;decide);split;·exact⟨Nat.lt_succ_self _,I⟩
    ·split
     ·have he:=vC (l:=l) (i:=i+1) I
      revert he
      cases fc l (i+1) with
      | no a w=>rintro⟨h1,h2⟩;exact⟨by omega,h2⟩
      | ok c j=>
        rintro⟨h1,h2⟩;have J:=qv (l:=l) (k:=k) (i:=j) (acc:=acc++[c]) h2;dsimp only;revert J
        cases dG l k j (acc++[c]) with
        | no a w=>rintro⟨h3,h4⟩;exact⟨by omega,h4⟩
        | ok t j2=>rintro⟨h3,h4⟩;exact⟨by omega,h4⟩
     ·have J:=qv (l:=l) (k:=k) (i:=i+1) (acc:=acc++[bh l i]) I
      revert J
      cases dG l k (i+1) (acc++[bh l i]) with
      | no a w=>rintro⟨h3,h4⟩;exact⟨by omega,h4⟩
      | ok t j2=>rintro⟨h3,h4⟩;exact⟨by omega,h4⟩
theorem Bd.mono {α:Type} {l:List UInt8} {i I:Nat} (h:I≤i):∀ {x:PE α},Bd l i x→Bd l I x
 | .ok _ _,⟨h1,h2⟩=>⟨Nat.lt_of_le_of_lt h h1,h2⟩
 | .no _ _,⟨h1,h2⟩=>⟨Nat.le_trans h h1,h2⟩
theorem mY {l:List UInt8} {i:Nat} (h:i≤l.length):Bd l i (ee l i):=by
 unfold ee;have h1:=jf (c:=34) h;revert h1
 cases cF l 34 i with
 | no a w=>exact fun h1=>h1
 | ok u j=>rintro⟨h1,h2⟩;exact(qv h2).mono (Nat.le_of_lt h1)
theorem Ap {l:List UInt8}:∀ {k i:Nat},i≤l.length→i≤iW l k i∧iW l k i≤l.length
 | 0,i,h=>⟨Nat.le_refl _,h⟩
 | k+1,i,h=>by
   simp only[iW];split
   ·rename_i q
    have:=Ap (l:=l) (k:=k) (i:=i+1) q.1;grind
   ·grind
theorem pO {l:List UInt8} {i:Nat} (h:i≤l.length):i≤cA l i∧cA l i≤l.length:=by
 unfold cA;split
 ·rename_i q
  exact⟨Nat.le_succ _,de (by rw[q];decide)⟩
 ·exact Ap h
theorem GJ {α:Type} {l:List UInt8} {i:Nat} {c:Prop} [Decidable c] {a b:PE α} (I:Bd l i a) (hb:Bd l i b):Bd l i (if c then a else b):=by split <;> assumption
theorem Fw {l:List UInt8} {i:Nat} (h:i≤l.length):Bd l i (eK l i):=by
 unfold eK;dsimp only;have h1:i≤(if bh l i=45 then i+1 else i)∧(if bh l i=45 then i+1 else i)≤l.length:=by
  split;·rename_i q;exact⟨Nat.le_succ _,de (by rw[q];decide)⟩
  ·grind
 generalize (if bh l i=45 then i+1 else i)=i1 at h1 ⊢;have h2:=pO (l:=l) h1.2;by_cases q:cA l i1=i1;·rw[if_pos q];exact h1
 ·rw[if_neg q]
  exact GJ ⟨by omega,h2.2⟩ ⟨Nat.le_refl _,h⟩
structure IQ (l:List UInt8) (k:Nat):Prop where
 v:∀ level i,i≤l.length→Bd l i (dB l k level i)
 a:∀ level i,i≤l.length→Bd l i (gh l k level i)
 ag:∀ level i acc,i≤l.length→Bd l i (fk l k level i acc)
 o:∀ level i,i≤l.length→Bd l i (gg l k level i)
 og:∀ level i keys acc,i≤l.length→Bd l i (fz l k level i keys acc)
theorem sW {l x:List UInt8} {i:Nat} {v:JV} (I:x≠[]) (h:i≤l.length):Bd l i (match du l x i with | .no a w=>.no a w | .ok _ j=>.ok v j):=by
 have hw:=mF (l:=l) (x:=x) h;have:=List.length_pos_iff.2 I;revert hw
 cases du l x i with
 | no a w=>exact fun hw=>hw
 | ok u j=>rintro⟨h1,h2⟩;exact⟨by omega,h2⟩
theorem nz (l:List UInt8):∀ k,IQ l k
 | 0=>⟨fun _ _ h=>by unfold dB;exact⟨Nat.le_refl _,h⟩,fun _ _ h=>by unfold gh;exact⟨Nat.le_refl _,h⟩,fun _ _ _ h=>by unfold fk;exact⟨Nat.le_refl _,h⟩,fun _ _ h=>by unfold gg;exact⟨Nat.le_refl _,h⟩,fun _ _ _ _ h=>by unfold fz;exact⟨Nat.le_refl _,h⟩⟩
 | k+1=>by
   have J:=nz l k;refine⟨fun level i0 h=>?_,fun level i0 h=>?_,fun level i acc h=>?_,fun level i0 h=>?_,fun level i0 keys acc h=>?_⟩
   ·have M:=cT l i0
    have hle:=cZ h;unfold dB;dsimp only;refine Bd.mono M ?_;generalize bp l i0=i at hle ⊢;split;·exact sW (by decide) hle
    ·split
     ·exact sW (by decide) hle
     ·split
      ·exact sW (by decide) hle
      ·split
       ·have I:=mY (l:=l) hle
        revert I
        cases ee l i with
        | no a w=>exact fun I=>I
        | ok t j=>exact fun I=>I
       ·split
        ·rename_i q
         have O:i < l.length:=de fun z=>by rw[z] at q;revert q;decide
         split;·exact⟨Nat.le_refl _,hle⟩
         ·split
          ·exact(J.a _ _ O).mono (Nat.le_succ _)
          ·exact(J.o _ _ O).mono (Nat.le_succ _)
        ·exact Fw hle
   ·have M:=cT l i0
    have hle:=cZ h;unfold gh;dsimp only;refine Bd.mono M ?_;generalize bp l i0=i at hle ⊢;split;·rename_i q;exact⟨Nat.lt_succ_self _,de (by rw[q];decide)⟩
    ·exact J.ag _ _ _ hle
   ·unfold fk
    have N:=J.v (level+1) i h;revert N
    cases dB l k (level+1) i with
    | no a w=>exact fun N=>N
    | ok v j=>
      rintro⟨h1,h2⟩;dsimp only;have M:=cT l j;have hle:=cZ h2;split
      ·rename_i q
       exact(J.ag _ _ _ (de (by rw[q];decide))).mono (by omega)
      ·have I:=jf (c:=93) hle
       revert I
       cases cF l 93 (bp l j) with
       | no a w=>exact fun I=>Bd.mono (x:=(PE.no a w:PE JV)) (by omega) I
       | ok u j2=>exact fun I=>Bd.mono (x:=(PE.ok (JV.mk 5 0 (B #[]) [] (acc++[v])) j2)) (by omega) I
   ·have M:=cT l i0
    have hle:=cZ h;unfold gg;dsimp only;refine Bd.mono M ?_;generalize bp l i0=i at hle ⊢;split;·rename_i q;exact⟨Nat.lt_succ_self _,de (by rw[q];decide)⟩
    ·exact J.og _ _ _ _ hle
   ·have M:=cT l i0
    have hle:=cZ h;unfold fz;dsimp only;refine Bd.mono M ?_;generalize bp l i0=i at hle ⊢;have I:=mY (l:=l) hle;revert I
    cases ee l i with
    | no a w=>exact fun I=>I
    | ok t j=>
      rintro⟨h1,h2⟩;dsimp only;split;·exact⟨Nat.le_refl _,hle⟩
      ·have aj:=cT l j
       have U:=cZ h2;have ad:=jf (c:=58) U;revert ad
       cases cF l 58 (bp l j) with
       | no a w=>exact fun I=>Bd.mono (x:=(PE.no a w:PE JV)) (by omega) I
       | ok u j1=>
         rintro⟨h3,h4⟩;dsimp only;have N:=J.v (level+1) j1 h4;revert N
         cases dB l k (level+1) j1 with
         | no a w=>exact fun I=>Bd.mono (x:=(PE.no a w:PE JV)) (by omega) I
         | ok v j2=>
           rintro⟨h5,h6⟩;dsimp only;have a1:=cT l j2;have X:=cZ h6;split
           ·rename_i q
            exact(J.og _ _ _ _ (de (by rw[q];decide))).mono (by omega)
           ·have ai:=jf (c:=125) X
            revert ai
            cases cF l 125 (bp l j2) with
            | no a w=>exact fun I=>Bd.mono (x:=(PE.no a w:PE JV)) (by omega) I
            | ok u j3=>exact fun I=>Bd.mono (x:=(PE.ok (JV.mk 6 0 (B #[]) (keys++[bytesOf t]) (acc++[v])) j3)) (by omega) I
/-! fuel -/
structure Fu (l:List UInt8) (k:Nat):Prop where
 v:∀ level i,i≤l.length→3*(l.length - i)+1≤k→dB l (k+1) level i=dB l k level i
 a:∀ level i,i≤l.length→3*(l.length - i)+3≤k→gh l (k+1) level i=gh l k level i
 ag:∀ level i acc,i≤l.length→3*(l.length - i)+2≤k→fk l (k+1) level i acc=fk l k level i acc
 o:∀ level i,i≤l.length→3*(l.length - i)+3≤k→gg l (k+1) level i=gg l k level i
 og:∀ level i keys acc,i≤l.length→3*(l.length - i)+2≤k→fz l (k+1) level i keys acc=fz l k level i keys acc
theorem fuel (l:List UInt8):∀ k,Fu l k
 | 0=>⟨fun _ _ _ h=>by omega,fun _ _ _ h=>by omega,fun _ _ _ _ h=>by omega,fun _ _ _ h=>by omega,fun _ _ _ _ _ h=>by omega⟩
 | k+1=>by
   have J:=fuel l k;have bd:=nz l k;refine⟨fun level i0 h N=>?_,fun level i0 h N=>?_,fun level i acc h N=>?_,fun level i0 h N=>?_,fun level i0 keys acc h N=>?_⟩
   ·have M:=cT l i0
    have hle:=cZ h;rw[dB,dB];try dsimp only
    generalize bp l i0=i at M hle ⊢;by_cases q:bh l i=91∨bh l i=123
    ·have I:i < l.length:=de fun z=>by rw[z] at q;revert q;decide
     rw[J.a level (i+1) I (by omega),J.o level (i+1) I (by omega)]
    ·grind
   ·have M:=cT l i0
    have hle:=cZ h;rw[gh,gh];try dsimp only
    rw[J.ag level _ [] hle (by omega)]
   ·rw[fk,fk,J.v (level+1) i h (by omega)]
    have O:=bd.v (level+1) i h;revert O
    cases dB l k (level+1) i with
    | no a w=>exact fun _=>rfl
    | ok v j=>
      rintro⟨h1,h2⟩;try dsimp only
      have M:=cT l j;by_cases q:bh l (bp l j)=44
      ·have I:bp l j < l.length:=de (by rw[q];decide)
       rw[if_pos q,if_pos q,J.ag level _ _ I (by omega)]
      ·grind
   ·have M:=cT l i0
    have hle:=cZ h;rw[gg,gg];try dsimp only
    rw[J.og level _ [] [] hle (by omega)]
   ·have M:=cT l i0
    have hle:=cZ h;rw[fz,fz];try dsimp only
    generalize bp l i0=i at M hle ⊢;have X:=mY (l:=l) hle;revert X
    cases ee l i with
    | no a w=>exact fun _=>rfl
    | ok t j=>
      rintro⟨h1,h2⟩;try dsimp only
      have ad:=cT l j;have U:=jf (c:=58) (cZ h2);revert U
      cases cF l 58 (bp l j) with
      | no a w=>exact fun _=>rfl
      | ok u j1=>
        rintro⟨h3,h4⟩;try dsimp only
        rw[J.v (level+1) j1 h4 (by omega)];have O:=bd.v (level+1) j1 h4;revert O
        cases dB l k (level+1) j1 with
        | no a w=>exact fun _=>rfl
        | ok v j2=>
          rintro⟨h5,h6⟩;try dsimp only
          have ai:=cT l j2;by_cases q:bh l (bp l j2)=44
          ·have I:bp l j2 < l.length:=de (by rw[q];decide)
           rw[if_pos q,if_pos q,J.og level _ _ _ I (by omega)]
          ·grind
theorem wy {l:List UInt8} {level:Int} {i k:Nat} (h:i≤l.length) (I:3*(l.length - i)+1≤k):∀ d,dB l (k+d) level i=dB l k level i
 | 0=>rfl
 | d+1=>by rw[←Nat.add_assoc,(fuel l (k+d)).v level i h (by omega),wy h I d]
end Go.Tb
namespace Go.Ab
open Go.RowKit
section
variable {P:Program} {C:Ctx} {n:Nat} {Q:Exit→St→Prop} {st:St} {v:Value}
theorem cW {y:Code} (h:Q (fV v) st):QS P C n y Q (fV v) st:=h
theorem gL {id:Nat} (h:Q (fV v) st):QB id Q (fV v) st:=h
theorem kt {I:Nat→St→Prop} {m:Nat} (h:Q (fV v) st):QL I m Q (fV v) st:=h
theorem dr {T:cn P} {rs:List RV} {x:Out} (h:x=.gG v):QX T rs x (fV v) st:=by subst h;rfl
theorem dS {T:cn P} {rs:List RV} {x:Out} {r:A} {b1:List (List A)} {k:Nat} {e:Exit} (h:x=.ret r b1 k) (I:cR T rs r b1 k e st):QX T rs x e st:=by subst h;exact I
theorem IX {S:St} (h:Q (fV v) st):QC C n S Q (fV v) st:=h
end
end Go.Ab
namespace Go.Tb
open Go.Ab
@[reducible] def iN (t:Nat) (a:Nat) (w:Int):Value:=.iface t (.agg #[.int .i64 (a:Int),.int .i64 w])
@[reducible] def fG (s:ByteArray) (i:Nat):List A:=[.d (cs s),.d (.v (.int .i64 (i:Int)))]
def iz {α:Type} (t:Nat) (s:ByteArray) (r:α→A):PE α→Out
 | .ok x i=>.ret (r x) [fG s i] 0
 | .no a w=>.gG (iN t a w)
theorem gx {α:Type} (t:Nat) (s:ByteArray) (r:α→A) (x:PE α):(iz t s r x).len 1=true:=by cases x <;> rfl
theorem bQ {α:Type} {t:Nat} {s:ByteArray} {r:α→A} {x:PE α} {y:α} {i:Nat} (h:x=.ok y i):iz t s r x=.ret (r y) [fG s i] 0:=by subst h;rfl
theorem bO {α:Type} {t:Nat} {s:ByteArray} {r:α→A} {x:PE α} {a:Nat} {w:Int} (h:x=.no a w):iz t s r x=.gG (iN t a w):=by subst h;rfl
end Go.Tb
namespace Go.Ab
open Go.RowKit
def nH (I:Nat):List (Nat×List A)→List (Nat×List A)
 | []=>[]
 | (g,c)::r=>bif Nat.blt g I then (g,c.map pq)::nH I r else nH I r
theorem pG {I:Nat}:∀ {bx:List (Nat×List A)} {g:Nat} {c:List A},aY (nH I bx) g=some c→g < I∧∃ c0,aY bx g=some c0∧c=c0.map pq
 | [],g,c,h=>by simp[nH,aY] at h
 | (g0,c0)::r,g,c,h=>by
   unfold nH at h
   cases hb:Nat.blt g0 I with
   | true=>
     rw[hb] at h;have J:g0 < I:=Nat.blt_eq.mp hb;simp only[cond_true,aY] at h ⊢
     cases he:Nat.beq g0 g with
     | true=>grind[Option.some.injEq,Nat.eq_of_beq_eq_true]
     | false=>rw[he] at h;simp only[cond_false] at h ⊢;exact pG h
   | false=>
     rw[hb] at h;have J:¬ g0 < I:=fun q=>by rw[Nat.blt_eq.mpr q] at hb;cases hb
     simp only[cond_false] at h;obtain⟨h1,h2⟩:=pG h;grind[Nat.beq,Nat.eq_of_beq_eq_true,aY]
theorem sQ {E E':En} {v:Value} {a:A} (h:bu E v a):bu E' v (pq a):=by
 unfold pq;split;·cases h with | d I=>cases I with | v _ J=>exact .d (.v _ J)
 ·exact .any _
theorem bg.Js {C:Ctx} {n M:Nat} {st:St} {G:Gh} {tmps:Array Value} {w w':World} (h:bg C n st G tmps w) (O:C.bx.length=M) (U:∀ i b:Nat,C.bx[i]? = some b→b < C.w0.heap.size) (hb:Below C.w0.heap.size w w') (ad:w.heap.size≤w'.heap.size) :
 bg C n ⟨nE st.f,nH M st.bx,[],st.gen⟩ ⟨fun g=>if g < M then G.box g else none,fun _=>none⟩ tmps w' where
 size:=h.size
 frame:=fun t a X=>by rw[oU] at X;obtain⟨a',ai,rfl⟩:=Option.map_eq_some_iff.1 X;obtain⟨v,hv,N⟩:=h.frame t a' ai;grind[sQ]
 box:=fun g cells hc=>by
  obtain⟨I,c0,h0,rfl⟩:=pG hc;obtain⟨b,cs,T,h1,h2,h3,h4,h5⟩:=h.box g c0 h0;have aj:C.bx[g]? = some b:=by have hl:C.bx[g]? = some (C.bx[g]'(by omega)):=List.getElem?_eq_getElem _;have:=h.lent g _ hl;grind
  have J:=U g b aj;refine⟨b,cs,T,by simp[I,h1],by rw[hb.block b J];exact h2,by simpa using h3,h4,fun i u a hu X=>?_⟩;grind[Option.map_eq_some_iff,sQ]
 gbox:=fun g b I=>by
  have I:(if g < M then G.box g else none)=some b:=I;split at I
  ·obtain⟨q1,q2,q3⟩:=h.gbox g b I
   grind
  ·grind
 inj:=fun g g' b h1 h2=>by
  have h1:(if g < M then G.box g else none)=some b:=h1;have h2:(if g' < M then G.box g' else none)=some b:=h2;split at h1
  ·split at h2
   ·exact h.inj g g' b h1 h2
   ·grind
  ·grind
 live:=fun g I=>by simp at I
 gown:=fun g r N=>by simp at N
 row:=fun g b len cap sz a1 N=>by simp at N
 mrow:=fun g b bs N=>by simp at N
 sub:=fun g b bs c lim N=>by simp at N
 gcell:=fun g b I=>by
  have I:(if g < M then G.box g else none)=some b:=I;split at I
  ·rename_i J
   have hl:g < C.bx.length:=by rw[O];exact J
   have h1:=h.lent g C.bx[g] (by simp[hl]);rw[I] at h1;simp only[Option.some.injEq] at h1;obtain⟨cs,T,f,h2⟩:=h.gcell g b I;exact⟨cs,T,f,by rw[hb.block b (U g b (by rw[h1];simp[hl]))];exact h2⟩
  ·grind
 xold:=h.xold
 kold:=h.kold
 lent:=fun i b hb=>by
  have hi:i < M:=by rw[←O];exact(List.getElem?_eq_some_iff.1 hb).1
  show(if i < M then G.box i else none)=some b;rw[if_pos hi];exact h.lent i b hb
 fr:=⟨hb.os.trans h.fr.os,hb.tape.trans h.fr.tape,hb.output.trans h.fr.output,Nat.le_trans h.fr.size ad,fun b h1 h2=>(hb.block b h1).trans (h.fr.block b h1 h2),fun b o u h1 h2=>by
  have J:=dF h2;rw[cw (hb.block b J)];exact h.fr.cells b o u h1 h2,fun b cs T f h1=>by
  have J:=(Array.getElem?_eq_some_iff.1 h1).1;rw[hb.block b J];exact h.fr.ty b cs T f h1⟩
section
variable {P:Program} {C:Ctx} {n:Nat} {ops:Array Oper} {Q:Exit→St→Prop} {rest:List Oper}
variable {f:List (Nat×A)} {bx:List (Nat×List A)} {lv:List Nat} {gen:Nat} {d:Nat} {ty:TypeId} {pos:String} {af:Array Edge}
theorem FO {X:Nat} [hN:NB C X] (b6:∀ b,C.fp b→∃ i:Nat,C.bx[i]? = some b) (di:∀ i b:Nat,C.bx[i]? = some b→b < C.w0.heap.size) {x y:Operand} {O:Array TypeId} {fid:FuncId} {g g2:Nat} {T e:TypeId} {u:Bool} {s:ByteArray} (hx:av f x=some (.clo fid [])) (hy:av f y=some (.ptr g 0)) (hb:aY bx g=some [.np g T u,.bf g2 e s])
 (dj:(lv.any fun h=>Nat.beq h g2)=true) (hok:jF P fid) (cy:sw P T e fid) (dt:s.size≤maxLen) (hd:Nat.blt d n=true) (ch:Nat.ble X g=true)
 (h:WO P C n ops Q rest ⟨(d,.d (.v (.string s)))::nE f,nH X bx,[],gen⟩):WO P C n ops Q (⟨some d,.call ⟨.value x,#[y],O⟩,ty,pos,af,none⟩::rest) ⟨f,bx,lv,gen⟩:=by
 refine WO.step (st:=⟨f,bx,lv,gen⟩) rfl fun tmps w ⟨G,hs⟩=>?_;obtain⟨fn,dx,a7,a8⟩:=hok;have cj:=hs.av hx;generalize hv:Act.eval ⟨tmps,[]⟩ x=v at cj
 cases cj with
 | clo _ vs _ ec ff=>
 have ed:vs=#[]:=Array.eq_empty_of_size_eq_zero (by simpa using ec);subst ed;have cl:=hs.av hy;generalize ei:Act.eval ⟨tmps,[]⟩ y=vy at cl;obtain⟨b,cs,T',h1,h2,h3,h4,h5⟩:=hs.box g _ hb;have ej:vy=.pointer (some ⟨b,0,none⟩):=by
  cases cl with
  | ptr _ _ _ b0 hg ad I=>exact mH ad I b h1
 subst ej;have c1:(execOp (Act.eval ⟨tmps,[]⟩) ⟨some d,.call ⟨.value x,#[y],O⟩,ty,pos,af,none⟩).run P w=.ok (.enter fid #[.pointer (some ⟨b,0,none⟩)]) w:=by unfold execOp;show Sem.run P (do let d ←resolve (Act.eval ⟨tmps,[]⟩) ⟨.value x,#[y],O⟩ ty;invoke d.target d.args) w=_;simp only[resolve,hv,ei,Deferred.ofValue,Sem.run_bind,Sem.run_pure,Result.andThen_ok,invoke,callFunc,run_program,dx,a7,a8,Bool.false_eq_true,if_false,Array.empty_append,Array.append_empty,List.map_toArray,List.map_cons,List.map_nil]
 simp at h3;obtain⟨p,q,ai⟩:∃ p q,cs=#[p,q]:=⟨cs[0],cs[1],by apply Array.ext_getElem?;intro i;match i with | 0=>simp[h3] | 1=>simp[h3] | i+2=>simp[h3]⟩;subst ai;have hp:=h5 0 p _ rfl rfl;have hq:=h5 1 q _ rfl rfl;obtain⟨r,cq⟩:=hs.live g2 (dw dj);have c6:C.bx.length=X:=hN.h;have b3:∀ {b lim},C.iJ b lim→(∀ g',G.box g'≠some b)→C.w0.heap.size≤b:=fun hm en=>hm.1.resolve_right fun hf=>by obtain⟨i,hi⟩:=b6 _ hf;exact en i (hs.lent i _ hi)
 have U:C.w0.heap.size≤b:=(hs.gbox g b h1).2.2.1.resolve_right fun hf=>by obtain⟨i,hi⟩:=b6 _ hf;have e:=hs.inj _ _ _ (hs.lent i _ hi) h1;have aj:i < C.bx.length:=(List.getElem?_eq_some_iff.1 hi).1;have:=Nat.le_of_ble_eq_true ch;omega
 have a1:T'=T∧(p=.pointer none∨p=.pointer (some ⟨b,0,none⟩)):=by
  cases hp with
  | np _ _ _ b0 hg ad hT _ I=>
    have e1:b0=b:=by have:=(ad:G.box g=some b0).symm.trans h1;simpa using this
    subst e1;obtain⟨cs',f',hT⟩:=hT;have J:w.heap[b0]? = some (.cells cs' T f'):=hT;rw[h2] at J;simp only[Option.some.injEq,Obj.cells.injEq] at J;refine⟨J.2.1,?_⟩
    cases u with
    | true=>exact .inr I
    | false=>exact .inl I
 obtain⟨rfl,a1⟩:=a1;have M:w.ownsRow C.w0.heap.size e 1 q (Lib.byteCells s.data.toList).length (Lib.byteCells s.data.toList)∧q.ownBlock≠some b:=by
  cases hq with
  | bf _ _ _ _ hg fj c7=>
  have I:=c7 r cq
  cases r with
  | zero b=>exact I.elim
  | mp b bs=>exact I.elim
  | nil=>obtain⟨rfl,h0⟩:=I;have e0:s.data.toList=[]:=List.eq_nil_of_length_eq_zero (by simpa using h0);rw[e0];exact⟨World.ownsRow_nil w _ e 1,by simp[Value.ownBlock]⟩
  | blk b2 len cap sz fo=>
    obtain⟨rfl,h6,rfl,rfl,⟨cs',f',hT⟩,h8⟩:=I;obtain⟨b4,cx,e5,cur,T2,N,ai,e2,e3,_,e6,_⟩:=hs.row g2 b2 len cap 1 0 cq;have J:w.heap[b2]? = some (.cells cs' e f'):=hT;rw[N] at J;simp only[Option.some.injEq,Obj.cells.injEq] at J;obtain⟨_,rfl,_⟩:=J;have hlen:(Lib.byteCells s.data.toList).length=len:=by rw[Lib.byteCells_length,Array.length_toList];exact h6
    rw[hlen];refine⟨⟨by simpa using hlen,.inr ⟨b2,cap,cur,rfl,b3 b4 cx,N,e2,e3,ai,?_⟩⟩,?_⟩
    ·rw[Nat.mul_one]
     apply List.ext_getElem?;intro t;rw[List.getElem?_take];have es:(Lib.byteCells s.data.toList)=Lib.strCells s:=(Lib.strCells_eq s).symm;split
     ·rename_i aj
      have hc:s.data[t]? = some (s.data[t]'(by rw[←h6] at aj;exact aj)):=Array.getElem?_eq_getElem _;have h7:=h8 t _ hc;have e4:cur[t]? = _:=(cz N t).symm.trans h7;rw[es,fS hc,Array.getElem?_toList,e4]
     ·rename_i ch
      rw[List.getElem?_eq_none (by rw[hlen];omega)]
    ·simp only[Value.ownBlock]
     intro e1;simp only[Option.some.injEq] at e1;exact cx g (e1▸h1)
 have df:∀ p,p=Value.pointer none∨p=.pointer (some ⟨b,0,none⟩)→w.heap[b]? = some (.cells #[p,q] T' (0,0))→Lib.IsBuilder T' e C.w0.heap.size b (Lib.byteCells s.data.toList) w:=by
  rintro p (rfl | rfl) hh;·exact .inl ⟨U,q,hh,M.1,M.2⟩
  ·exact .inr ⟨U,q,hh,M.1,M.2⟩
 unfold dR;have b5:(execOp (Act.eval { tmps:=tmps,defers:=[] }) ⟨some d,.call ⟨.value x,#[y],O⟩,ty,pos,af,none⟩).run P w=.ok (.enter fid #[.pointer (some ⟨b,0,none⟩)]) w:=c1;rw[b5];refine(cy C.w0.heap.size b s.data.toList w (df p a1 h2) hs.fr.size).mono ?_;rintro e' w' ⟨rfl,a6⟩;refine⟨_,rfl,⟨(d,.d (.v (.string s)))::nE f,nH X bx,[],gen⟩,⟨⟨fun g=>if g < X then G.box g else none,fun _=>none⟩,?_⟩,h⟩;have:=(hs.Js c6 di a6 a6.size).put (dst:=some d) (cJ (dst:=some d) hd) (v:=.string ⟨s.data.toList.toArray⟩) (a:=.d (.v (.string s))) (.d (by
  have:(⟨s.data.toList.toArray⟩:ByteArray)=s:=by apply ByteArray.ext;simp
  rw[this];exact .v _ (by simp[dd,dt])))
 exact this
end
section
variable {P:Program} {C:Ctx} {n:Nat}
theorem W.DZ (T:cn P) {J:Nat} [hnb:NB C J] {id:Nat} {l l1 l2:List Oper} {f:List (Nat×A)} {bx:List (Nat×List A)} {lv:List Nat} {gen:Nat} {Q:Exit→St→Prop} (v:Value) (cs:List Nat) (m:Nat) (hB:fE m l.toArray=true) (I:ky l.toArray cs=true) (h1:l.take m=l1) (h2:l.drop m=l2)
 (M:∀ st,Q (fV v) st) (h:CD P T C n (Bn (bx::List.replicate cs.length bx) (lv::List.replicate cs.length lv) (gen::List.replicate cs.length gen) cs l.length v) l.toArray (WO P C n l.toArray Q l2) l1 0 f 0 true):W P C n (.region id l.toArray true) Q ⟨f,bx,lv,gen⟩:=
 W.zW T v _ _ _ _ m hB I h1 h2 M h
theorem W.DV (T:cn P) {J:Nat} [hnb:NB C J] {id:Nat} {l l1 l2:List Oper} {f:List (Nat×A)} {bx:List (Nat×List A)} {lv:List Nat} {gen:Nat} {Q:Exit→St→Prop} (v:Value) (lv1:List Nat) (gen1:Nat) (bx1:List (Nat×List A)) (cs:List Nat) (m:Nat) (hB:fE m l.toArray=true) (I:ky l.toArray cs=true) (h1:l.take m=l1) (h2:l.drop m=l2)
 (M:∀ st,Q (fV v) st) (h:CD P T C n (Bn (bx::List.replicate cs.length bx1) (lv::List.replicate cs.length lv1) (gen::List.replicate cs.length gen1) cs l.length v) l.toArray (WO P C n l.toArray Q l2) l1 0 f 0 true):W P C n (.region id l.toArray true) Q ⟨f,bx,lv,gen⟩:=
 W.zW T v _ _ _ _ m hB I h1 h2 M h
theorem W.sM (T:cn P) {N:Nat} [hnb:NB C N] {id:Nat} {l l1 l2:List Oper} {f:List (Nat×A)} {bx:List (Nat×List A)} {lv:List Nat} {gen:Nat} {Q:Exit→St→Prop} (F:List (Nat×List A)→List (List (Nat×List A))) (J:List (List Nat)) (I:List Nat) (cs:List Nat) (m:Nat) (hB:fE m l.toArray=true) (M:ky l.toArray cs=true) (h1:l.take m=l1) (h2:l.drop m=l2)
 (h:CD P T C n (ER (bx::F bx) (lv::J) (gen::I) cs l.length) l.toArray (WO P C n l.toArray Q l2) l1 0 f 0 true):W P C n (.region id l.toArray true) Q ⟨f,bx,lv,gen⟩:=
 W.rB T (F bx) J I cs m hB M h1 h2 h
end
/-! ### a code whose end is told at once -/
def W' (P:Program) (C:Ctx) (n:Nat) (c:Code) (B:Exit→Act→World→Prop) (st:St):Prop:=∀ tmps w,ez C n st tmps w→c.wp P B ⟨tmps,C.ds⟩ w
def q9 (P:Program) (C:Ctx) (n:Nat) (ops:Array Oper) (B:Exit→Act→World→Prop) (l:List Oper) (st:St):Prop:=∀ tmps w,ez C n st tmps w→eX P ops B l ⟨tmps,C.ds⟩ w
def I7 (P:Program) (C:Ctx) (n:Nat) (y:Code) (B:Exit→Act→World→Prop):Exit→St→Prop
 | .normal,st=>W' P C n y B st
 | e,st=>∀ tmps w,ez C n st tmps w→B e ⟨tmps,C.ds⟩ w
section
variable {P:Program} {C:Ctx} {n:Nat} {ops:Array Oper} {B:Exit→Act→World→Prop} {st:St} {o:Oper} {rest:List Oper} {a:A}
theorem aN {x y:Code} (h:W P C n x (I7 P C n y B) st):W' P C n (.seq x y) B st:=by intro tmps w hs;refine wp_seq (wp_mono (h tmps w hs) ?_);rintro e ⟨t,M⟩ w' ⟨hd,st',I,J⟩;simp only at hd;subst hd;cases e <;> simp only[I7] at J <;> simp only[Exit.then];all_goals exact J t w' I
theorem W'.CI {id:Nat} {l:List Oper} {y:Code} (h:q9 P C n l.toArray (Exit.then (y.wp P B) B) l st):W' P C n (.seq (.region id l.toArray false) y) B st:=by intro tmps w hs;refine wp_seq (wp_region ?_);have:=qK (P:=P) (Q:=Exit.then (y.wp P B) B) (ops:=l.toArray) l 0 (by simp) ⟨tmps,C.ds⟩ w (h tmps w hs);grind[List.range_eq_range']
theorem q9.pu (I:o.guard=none) (hd:e7 n o.dst=true) (hp:Pu P C n st o a) (h:q9 P C n ops B rest (st.put o.dst a)):q9 P C n ops B (o::rest) st:=by intro tmps w ⟨G,hs⟩;simp only[eX,Region.wanted,I,if_true];refine(dR.ds (hp G tmps w hs)).wp fun v w' ⟨hb,hr⟩=>?_;rw[Act.gP];exact h _ _ ⟨G,(hs.gF hb).2.put (cJ hd) hr⟩
abbrev pp (b:Nat):Value:=.pointer (some ⟨b,0,none⟩)
abbrev su (fid:FuncId) (b0 b1 b2:Nat):Deferred:=⟨.fn (.func fid) #[pp b0,pp b1,pp b2],#[]⟩
theorem aR (hg:o.guard=none) (N:o.dst=none) {x:Operand} {X:Array TypeId} {fid:FuncId} (ho:o.op=.defer ⟨.value x,#[],X⟩) (hx:av st.f x=some (.clo fid [.ptr 0 0,.ptr 1 0,.ptr 2 0]))
 (h:∀ I b1 J tmps w G,bg C n st G tmps w→G.box 0=some I→G.box 1=some b1→G.box 2=some J→eX P ops B rest ⟨tmps,su fid I b1 J::C.ds⟩ w):q9 P C n ops B (o::rest) st:=by
 intro tmps w ⟨G,hs⟩;simp only[eX,Region.wanted,hg,if_true];have O:=hs.av hx;rw[←Act.iR tmps C.ds []] at O;generalize hv:Act.eval ⟨tmps,C.ds⟩ x=v at O
 cases O with
 | clo _ vs _ M hcd=>
 have M:vs.size=3:=M;obtain⟨v0,v1,v2,rfl⟩:∃ v0 v1 v2,vs=#[v0,v1,v2]:=⟨vs[0],vs[1],vs[2],by
  apply Array.ext;·simpa using M
  ·intro i h1 h2
   match i with
   | 0=>rfl
   | 1=>rfl
   | 2=>rfl
   | i+3=>simp at h2;omega⟩
 have r0:=hcd 0 v0 _ rfl rfl;have r1:=hcd 1 v1 _ rfl rfl;have r2:=hcd 2 v2 _ rfl rfl
 cases r0 with
 | ptr _ _ _ I _ ad e0=>
 cases r1 with
 | ptr _ _ _ b1 _ ai e1=>
 cases r2 with
 | ptr _ _ _ J _ aj e2=>
 subst e0;subst e1;subst e2;have U:(execOp (Act.eval ⟨tmps,C.ds⟩) o).run P w=.ok (.defer (su fid I b1 J)) w:=by unfold execOp;rw[ho];simp only[resolve,hv,Deferred.ofValue,Sem.run_bind,Sem.run_pure,Result.andThen_ok,List.map_toArray,List.map_nil,Array.append_empty]
 unfold Oper.wp;rw[U,Oper.upon_defer];rw[N];exact h I b1 J tmps w G hs ad ai aj
theorem bg.xJ {G:Gh} {tmps:Array Value} {w:World} {bs:List Nat} {ds:List Deferred} (hs:bg C n st G tmps w) (h:∀ (i b:Nat),bs[i]? = some b→G.box i=some b):bg { C with bx:=bs,ds:=ds } n st G tmps w:=
 { size:=hs.size,frame:=hs.frame,box:=hs.box,gbox:=hs.gbox,inj:=hs.inj,live:=hs.live,gown:=hs.gown,row:=hs.row,mrow:=hs.mrow,sub:=hs.sub,gcell:=hs.gcell,xold:=hs.xold,kold:=hs.kold,lent:=h,
   fr:=⟨hs.fr.os,hs.fr.tape,hs.fr.output,hs.fr.size,hs.fr.block,hs.fr.cells,hs.fr.ty⟩ }
theorem GC.xJ [db P] (h:GC P C) {bs:List Nat} {ds:List Deferred}:GC P { C with bx:=bs,ds:=ds }:=⟨h.h⟩
theorem uV {c:Code} {Q:Exit→St→Prop} {tmps:Array Value} {w:World} (hs:ez C n st tmps w) (hW:W P C n c Q st) (hB:∀ e a w',lift C n Q e a w'→B e a w'):c.wp P B ⟨tmps,C.ds⟩ w:=wp_mono (hW tmps w hs) hB
/-! ### a callee panics: the other boxes stay -/
def Bo:A→A
 | .ptr g o=>.ptr g o
 | _=>.any
def yQ (f:List (Nat×A)):List (Nat×A):=f.map fun p=>(p.1,Bo p.2)
theorem CQ (f:List (Nat×A)) (t:Nat):look (yQ f) t=(look f t).map Bo:=by
 induction f with
 | nil=>rfl
 | cons p r I=>grind[yQ,bU]
theorem DC {E E':En} {v:Value} {a:A} (I:E'.gen=E.gen) (hb:E'.box=E.box) (h:bu E v a):bu E' v (Bo a):=by
 unfold Bo;split;·cases h with
  | ptr _ g off b h1 h2 h3=>exact .ptr _ _ _ b (I▸h1) (by rw[hb];exact h2) h3
 ·exact .any _
def nt (gs:List Nat):List (Nat×List A)→List (Nat×List A)
 | []=>[]
 | (g,c)::r=>bif gs.any (Nat.beq g) then nt gs r else (g,c.map pq)::nt gs r
theorem pI {gs:List Nat}:∀ {bx:List (Nat×List A)} {g:Nat} {c:List A},aY (nt gs bx) g=some c→gs.any (Nat.beq g)=false∧∃ c0,aY bx g=some c0∧c=c0.map pq
 | [],g,c,h=>by simp[nt,aY] at h
 | (g0,c0)::r,g,c,h=>by
   unfold nt at h
   cases hb:gs.any (Nat.beq g0) with
   | false=>
     rw[hb] at h;simp only[cond_false,aY] at h ⊢
     cases he:Nat.beq g0 g with
     | true=>grind[Option.some.injEq,Nat.eq_of_beq_eq_true]
     | false=>rw[he] at h;simp only[cond_false] at h ⊢;exact pI h
   | true=>rw[hb] at h;simp only[cond_true] at h;obtain⟨h1,h2⟩:=pI h;grind[Nat.beq,Nat.eq_of_beq_eq_true,aY]
theorem bg.IT {G:Gh} {tmps:Array Value} {w w':World} (h:bg C n st G tmps w) {gs os:List Nat} (h1:Fr (eO C G w gs os) w'):bg C n ⟨yQ st.f,nt gs st.bx,[],st.gen⟩ ⟨G.box,fun _=>none⟩ tmps w':=
 { size:=h.size
   frame:=fun t a M=>by rw[CQ] at M;obtain⟨a',O,rfl⟩:=Option.map_eq_some_iff.1 M;obtain⟨v,hv,I⟩:=h.frame t a' O;exact⟨v,hv,DC (E:=bj C G st.gen w) rfl rfl I⟩
   box:=fun g cells hc=>by
    obtain⟨J,c0,h0,rfl⟩:=pI hc;obtain⟨b,cs,T,q1,q2,q3,q4,q5⟩:=h.box g c0 h0;have U:b < w.heap.size:=(h.gbox g b q1).2.1;have hn:¬ (fB G gs b∨∃ lim,eE G os b lim):=by
     rintro(⟨X,N,ad⟩ | ⟨lim,X,N,r,I,hra⟩)
     ·have e:=h.inj _ _ _ ad q1
      subst e;have:=List.any_eq_false.1 J X N;simp at this
     ·exact(h.rowAt I hra).2.1 g q1
    refine⟨b,cs,T,q1,(h1.block b U hn).trans q2,by simpa using q3,q4,fun i u a hu M=>?_⟩;rw[List.getElem?_map] at M;obtain⟨a0,ai,rfl⟩:=Option.map_eq_some_iff.1 M;exact sQ (q5 i u a0 hu ai)
   gbox:=fun g b J=>⟨(h.gbox g b J).1,Nat.lt_of_lt_of_le (h.gbox g b J).2.1 h1.size,(h.gbox g b J).2.2⟩
   inj:=h.inj,live:=fun g J=>by simp at J,gown:=fun g r I=>by simp at I,row:=fun g b len cap sz aj I=>by simp at I,mrow:=fun g b bs I=>by simp at I,sub:=fun g b bs c lim I=>by simp at I,gcell:=fun g b hb=>lX h1.ty (h.gcell g b hb),xold:=h.xold,kold:=h.kold,lent:=h.lent,fr:=h.Db h1 }
end
section
variable {P:Program} {C:Ctx} {n:Nat} {ops:Array Oper} {Q:Exit→St→Prop} {rest:List Oper} {st:St} {o:Oper}
theorem WO.qZ [db P] [GC P C] (O:o.guard=none) {x:Operand} {xs:Array Operand} {N:Array TypeId} (ho:o.op=.call ⟨.value x,xs,N⟩) {fid:FuncId} {caps I:List A} (hx:av st.f x=some (.clo fid caps))
 (a1:jV st.f xs.toList=some I) (gs os:List Nat) (a6:nodupB gs=true) (a7:nodupB os=true) (a8:(os.all fun g=>st.lv.any fun h=>Nat.beq h g)=true) {args:List A} {b0:List (List A)} {v:Value} {m:Nat}
 (hf:iv P fid args b0 m v) (U:(I++caps).map (dU st.bx gs os 5)=args) (hb:fQ st.bx gs os gs=some b0) (hm:os.length=m)
 (h:Q (fV v) ⟨yQ st.f,nt gs st.bx,[],st.gen⟩):WO P C n ops Q (o::rest) st:=by
 subst hm;subst U;intro tmps w ⟨G,hs⟩;simp only[eX,Region.wanted,O,if_true];obtain⟨fn,b2,J,M⟩:=hf.ok;have X:=hs.av hx;rw[←Act.iR tmps C.ds []] at X;generalize hv:Act.eval ⟨tmps,C.ds⟩ x=v' at X
 cases X with
 | clo _ vs _ b3 hcd=>
 obtain⟨h1,h2⟩:=iS hs xs.toList I a1;rw[←Act.iR tmps C.ds []] at h2;have ad:(execOp (Act.eval ⟨tmps,C.ds⟩) o).run P w=.ok (.enter fid (xs.map (Act.eval ⟨tmps,C.ds⟩)++vs)) w:=by unfold execOp;rw[ho];show Sem.run P (do let d ←resolve (Act.eval ⟨tmps,C.ds⟩) ⟨.value x,xs,N⟩ o.type;invoke d.target d.args) w=_;simp only[resolve,hv,Deferred.ofValue,Sem.run_bind,Sem.run_pure,Result.andThen_ok,invoke,callFunc,run_program,b2,J,M,Bool.false_eq_true,if_false,Array.empty_append]
 obtain⟨hlen,ai⟩:=hs.kV (gs:=gs) (os:=os) (eb a6) (eb a7) (fun g O=>by obtain⟨y,hy,he⟩:=List.any_eq_true.1 (List.all_eq_true.1 a8 g O);exact Nat.eq_of_beq_eq_true he▸hy) hb;have b5:=(gS hb).1;unfold Oper.wp;rw[ad];refine(hf.calls (eO C G w gs os) (gK G gs os) _ w (GC.qn hs) rfl hlen rfl (pz rfl) ai (by simp at h1;simp[b3,h1]) (fun i u a hu ha=>?_)).mono fun e w' ⟨he,h3⟩=>?_
 ·simp only[List.getElem?_map,Option.map_eq_some_iff] at ha
  obtain⟨y,hy,rfl⟩:=ha;refine bu.kV hs gs os (by omega) 5 u y ?_;simp only[Array.getElem?_append] at hu;split at hu
  ·rename_i b4
   simp only[Array.size_map] at b4;have aj:i < I.length:=by simp at h1;omega
   rw[List.getElem?_append_left aj] at hy;grind
  ·grind
 ·subst he
  exact⟨rfl,_,⟨_,hs.IT h3⟩,h⟩
end
section
variable {P:Program} {C:Ctx} {n:Nat} {ops:Array Oper} {Q:Exit→St→Prop} {rest:List Oper}
variable {f:List (Nat×A)} {bx:List (Nat×List A)} {lv:List Nat} {gen:Nat} {op:Op} {ty:TypeId} {pos:String} {af:Array Edge} {dst:Option Nat}
theorem qZ [db P] [GC P C] {x:Operand} {xs:Array Operand} {M:Array TypeId} {fid:FuncId} {caps I args:List A} {N:List (List A)} {v:Value} {m:Nat} (gs os:List Nat) (hx:av f x=some (.clo fid caps)) (O:jV f xs.toList=some I)
 (J:(I++caps).map (dU bx gs os 5)=args) (hb:fQ bx gs os gs=some N) (hm:os.length=m) (hf:iv P fid args N m v)
 (U:nodupB gs=true) (X:nodupB os=true) (ad:(os.all fun g=>lv.any fun h=>Nat.beq h g)=true) (h:Q (fV v) ⟨yQ f,nt gs bx,[],gen⟩) :
 WO P C n ops Q (⟨dst,.call ⟨.value x,xs,M⟩,ty,pos,af,none⟩::rest) ⟨f,bx,lv,gen⟩:=
 WO.qZ (st:=⟨f,bx,lv,gen⟩) rfl rfl hx O gs os U X ad hf J hb hm h
theorem GN {t t':Nat} {x:Operand} (M:av f x=some (.d (.v .nilIface))) (hB:lG P t=true) :
 Pu P C n ⟨f,bx,lv,gen⟩ ⟨dst,.binOp .neq t x (.const .nilIface) t',ty,pos,af,none⟩ (.d (.v (.bool false))):=by
 obtain⟨ms,hu⟩:=lL hB;refine ao fun G tmps w hs=>?_;have I:=hs.av M;generalize J:Act.eval ⟨tmps,[]⟩ x=vx at I;cases I with | d I=>cases I with | v _ _=>
 refine⟨.bool false,?_,.d (.v _ rfl)⟩;unfold execOp;show Sem.run P _ w=_;have he:(Act.eval ⟨tmps,[]⟩ (Operand.const Value.nilIface))=Value.nilIface:=rfl;simp only[J,he,eqGuard,binOp];simp[wu w hu];rfl
theorem IU {t t' u:Nat} {v:Value} {x:Operand} (M:av f x=some (.d (.v (.iface u v)))) (hB:lG P t=true) :
 Pu P C n ⟨f,bx,lv,gen⟩ ⟨dst,.binOp .neq t x (.const .nilIface) t',ty,pos,af,none⟩ (.d (.v (.bool true))):=by
 obtain⟨ms,hu⟩:=lL hB;refine ao fun G tmps w hs=>?_;have I:=hs.av M;generalize J:Act.eval ⟨tmps,[]⟩ x=vx at I;cases I with | d I=>cases I with | v _ _=>
 refine⟨.bool true,?_,.d (.v _ rfl)⟩;unfold execOp;show Sem.run P _ w=_;have he:(Act.eval ⟨tmps,[]⟩ (Operand.const Value.nilIface))=Value.nilIface:=rfl;simp only[J,he,eqGuard,binOp];simp[yR w hu];rfl
theorem BQ (T:cn P) {x:Operand} {t i:Nat} {td:cI} {l:List Value} (O:aY T.l t=some td) (U:td.k.agg=true) (M:∀ v∈l,dd v=true) (I:av f x=some (.d (.v (.iface t (.agg l.toArray))))):Pu P C n ⟨f,bx,lv,gen⟩ ⟨dst,.typeAssert x i t true,ty,pos,af,none⟩ (.tup [.ag (l.map D.v),.d (.v (.bool true))]):=by
 refine ao fun G tmps w hs=>?_;have J:=hs.av I;generalize X:Act.eval ⟨tmps,[]⟩ x=v at J
 cases J with
 | d J=>
 have hok:dd (.iface t (.agg l.toArray))=true:=by cases J with | v _ h=>exact h
 have J:=xz J;subst J;obtain⟨u,hu,ad⟩:∃ u,P.underlying t=some u∧(match u with | .interface _=>false | _=>true)=true:=by
  have:=T.isAgg O w;unfold isAgg at this
  cases hu:P.underlying t with
  | none=>simp[underlying,hu] at this
  | some u=>refine⟨u,rfl,?_⟩;cases u <;> first | rfl | (simp[underlying,hu,U] at this)
 refine⟨.tuple #[.agg l.toArray,.bool true],?_,?_⟩
 ·unfold execOp
  simp only[X,Instr.typeAssert,Sem.run_bind,run_underlying hu,Result.andThen_ok,Sem.run_pure];cases u <;> simp_all
 ·refine .tup _ _ rfl fun k u x hu I=>?_
  match k with
  | 0=>
    simp at hu I;subst hu;subst I;refine .ag _ _ (by simp) fun k u x hu I=>?_;simp only[List.getElem?_map,Option.map_eq_some_iff] at I;obtain⟨y,N,rfl⟩:=I;have hu:l[k]? = some u:=by simpa using hu
    rw[hu] at N;cases N;exact .v _ (M u (List.mem_of_getElem? hu))
  | 1=>simp at hu I;subst hu;subst I;exact .d (.v _ rfl)
  | k+2=>simp at hu
end
/-! ### the end of a function whose results are cells -/
theorem D1 {P:Program} (T:cn P) {C:Ctx} {n:Nat} {st:St} {G:Gh} {tmps:Array Value} {w:World} {fn:Func} {rs:List RV} {r:A} {l:List A} (hs:bg C n st G tmps w) (J:C.bx=[]) (I:fn.results=(rs.map RV.var).toArray) (hl:kQ T st.f st.bx rs=some l) (M:norm [] (bW l)=r) :
 ∃ v,(results fn tmps).run P w=.ok v w∧∃ v1 N,Ending.returned v=.returned v1∧bg C 0 ⟨[],[],List.range 0,0⟩ N #[] w∧bu (bj C N 0 w) v1 r:=by
 obtain⟨vs,O,U,X⟩:=j9 T hs rs l hl;refine⟨_,gE I O,_,⟨fun _=>none,fun _=>none⟩,rfl,?_,?_⟩
 ·exact { size:=rfl,frame:=fun t a ha=>by simp[look] at ha,box:=fun g cells hc=>by simp[aY] at hc,gbox:=fun g b hb=>by simp at hb,inj:=fun g g' b hb=>by simp at hb,
          live:=fun g hg=>by simp at hg,gown:=fun g r I=>by simp at I,row:=fun g b len cap sz ad I=>by simp at I,mrow:=fun g b bs I=>by simp at I,sub:=fun g b bs c lim I=>by simp at I,gcell:=fun g b hb=>by simp at hb,xold:=hs.xold,kold:=hs.kold,lent:=fun i b hb=>by rw[J] at hb;simp at hb,fr:=hs.fr }
 ·rw[←M]
  refine aB (order:=[]) (E:=bj C G st.gen w) (E2:=bj C ⟨fun _=>none,fun _=>none⟩ 0 w) (fun b o u hu hn=>⟨hu,fun hp=>hn ?_⟩) (fun g r' hg ai=>?_) (by simp[bj]) (kU U X)
  ·rcases(hp:bM C ⟨fun _=>none,fun _=>none⟩ b o) with hp | ⟨g,hp⟩ | ⟨g,len,cap,sz,ad,hp,hle⟩ | ⟨g,b',bs,lim,hp,_⟩
   ·exact Or.inl hp
   ·cases hp
   ·cases hp
   ·cases hp
  ·cases ai
theorem q9.Dv {P:Program} {C:Ctx} {n:Nat} {ops:Array Oper} {B:Exit→Act→World→Prop} {y:Code} {f:List (Nat×A)} {bx:List (Nat×List A)} {lv:List Nat} {gen:Nat} {ty:TypeId} {pos:String} {af:Array Edge} {x:Operand} {M:Array TypeId} {fid:FuncId} (N:av f x=some (.clo fid [.ptr 0 0,.ptr 1 0,.ptr 2 0]))
 (h:∀ I b1 J tmps w G,bg C n ⟨f,bx,lv,gen⟩ G tmps w→G.box 0=some I→G.box 1=some b1→G.box 2=some J→y.wp P B ⟨tmps,su fid I b1 J::C.ds⟩ w):q9 P C n ops (Exit.then (y.wp P B) B) [⟨none,.defer ⟨.value x,#[],M⟩,ty,pos,af,none⟩] ⟨f,bx,lv,gen⟩:=
 aR (st:=⟨f,bx,lv,gen⟩) rfl rfl rfl N fun I b1 J tmps w G hs O U X=>h I b1 J tmps w G hs O U X
theorem tY {P:Program} (T:cn P) {C:Ctx} {n:Nat} {M:St} {G2 O:Gh} {I:Array Value} {w2 N:World} {aj a1:List Deferred} {b0 b1 b2:Nat} {fn:Func} {rs:List RV} {r:A} {l:List A} {U s1 s2 gen':Nat} {bx':List (Nat×List A)} (ai:C.bx=[])
 (X:bg { C with bx:=[b0,b1,b2],ds:=aj } n M G2 I w2) (k0:look M.f U=some (.ptr 0 0)) (k1:look M.f s1=some (.ptr 1 0)) (k2:look M.f s2=some (.ptr 2 0))
 (ad:bg { C with bx:=[b0,b1,b2],ds:=a1 } 0 ⟨[],bx',[],gen'⟩ O #[] N) (hr:fn.results=(rs.map RV.var).toArray) (hl:kQ T [(U,.ptr 0 0),(s1,.ptr 1 0),(s2,.ptr 2 0)] bx' rs=some l) (a6:norm [] (bW l)=r) :
 ∃ v,(results fn I).run P N=.ok v N∧∃ v1 O,Ending.returned v=.returned v1∧bg C 0 ⟨[],[],List.range 0,0⟩ O #[] N∧bu (bj C O 0 N) v1 r:=by
 have key:∀ (i b s:Nat),[b0,b1,b2][i]? = some b→look M.f s=some (.ptr i 0)→∃ v,I[s]? = some v∧bu (bj C O gen' N) v (.ptr i 0):=by
  intro i b s hb hk;obtain⟨v,hv,hr⟩:=X.frame s _ hk;refine⟨v,hv,?_⟩
  cases hr with
  | ptr _ _ _ b' _ h1 h2=>
    have e:b'=b:=by have h3:=X.lent i b hb;have h1:G2.box i=some b':=h1;grind
    subst e;have h4:=ad.lent i b' hb;exact .ptr _ _ _ b' (ad.gbox i b' h4).1 h4 h2
 have a7:bg C n ⟨[(U,.ptr 0 0),(s1,.ptr 1 0),(s2,.ptr 2 0)],bx',[],gen'⟩ O I N:=by
  have h5:=ad.xJ (bs:=C.bx) (ds:=C.ds) (fun i b hb=>by rw[ai] at hb;simp at hb);exact { h5 with
   size:=X.size
   frame:=fun t a J=>by
    have J:look [(U,A.ptr 0 0),(s1,A.ptr 1 0),(s2,A.ptr 2 0)] t=some a:=J;rw[bU,bU,bU] at J;split at J
    ·rename_i e
     cases J;exact e▸key 0 b0 U rfl k0
    ·split at J
     ·rename_i e
      cases J;exact e▸key 1 b1 s1 rfl k1
     ·split at J
      ·rename_i e
       cases J;exact e▸key 2 b2 s2 rfl k2
      ·simp[look] at J }
 exact D1 T a7 ai hr hl a6
theorem bq.Ix {P:Program} [db P] {f:FuncId} {fn:Func} {c:Code} {n:Nat} {args:List A} {r:A} (O:P.funcs[f]? = some fn) (M:(fn.name == "runtime.NumGoroutine")=false) (hb:fn.body=some c) (X:fn.ntmps=n)
 (hlen:Nat.ble args.length n=true) (h:∀ C,NB C 0→GC P C→C.bx=[]→C.ds=[] →
  W' P C n c (bodyPostD P fn fun e w'=>∃ v U,e=.returned v∧bg C 0 ⟨[],[],List.range 0,0⟩ U #[] w'∧bu (bj C U 0 w') v r) ⟨hU 0 args,[],[],0⟩):bq P f args r 0:=by
 have hlen:=Nat.le_of_ble_eq_true hlen;refine⟨⟨fn,O,M,by rw[hb];rfl⟩,fun C I w hG hw hp hx ad N=>?_⟩;subst hw;refine calls_of_wp_defers O hb (qd hp.2.2.2 (h C ⟨by rw[hp.2.2.1];rfl⟩ hG hp.2.2.1 hp.2.2.2 (I++Array.replicate (fn.ntmps - I.size) undef) C.w0 ⟨G0,?_⟩))
 refine { size:=by simp[X];omega,frame:=fun t a ha=>?_,box:=fun g cells hc=>by simp[aY] at hc,gbox:=fun g b hb=>by simp[G0] at hb,inj:=fun g g' b hb=>by simp[G0] at hb,
          live:=fun g hg=>by simp at hg,gown:=fun g r J=>by simp[G0] at J,row:=fun g b len cap sz ai J=>by simp[G0] at J,mrow:=fun g b bs J=>by simp[G0] at J,sub:=fun g b bs c lim J=>by simp[G0] at J,gcell:=fun g b hb=>by simp[G0] at hb,xold:=fun b o hb=>⟨hx b o hb,hp.1 b⟩,kold:=fun b o hb=>absurd hb (hp.2.1 b o),lent:=fun i b hb=>by rw[hp.2.2.1] at hb;simp at hb,
          fr:=⟨rfl,rfl,rfl,Nat.le_refl _,fun _ _ _=>rfl,fun _ _ _ hb=>absurd hb (hp.2.1 _ _),ek.refl _⟩ }
 obtain⟨_,h1⟩:=gl args 0 t a ha;have h2:t < args.length:=(List.getElem?_eq_some_iff.1 (by simpa using h1)).1;have h3:t < I.size:=by omega
 have h4:I[t]? = some I[t]:=by simp[h3]
 exact⟨I[t],by rw[Array.getElem?_append_left h3];exact h4,N t _ a h4 (by simpa using h1)⟩
/-! ### a deferred closure that asks for the panic's value -/
section
variable {P:Program} {ops:Array Oper} {Q:Exit→Act→List Frame→World→Prop} {rest:List Nat} {i:Nat} {a:Act} {cs:List Frame} {w:World} {o:Oper}
theorem qp {I:Array Value} {ds:List Deferred} {d:Nat} (N:ops[i]? = some o) (O:o.guard=none) (M:o.op=.call ⟨.builtin .recover,#[],#[]⟩) (hd:o.dst=some d)
 (h:match recoverD cs with | some (v,cs')=>wpOpsS P ops Q rest ⟨I.setIfInBounds d v,ds⟩ cs' w | none=>wpOpsS P ops Q rest ⟨I.setIfInBounds d .nilIface,ds⟩ cs w):wpOpsS P ops Q (i::rest) ⟨I,ds⟩ cs w:=by
 simp only[wpOpsS,N,Region.wanted,O,if_true];have J:(execOp (Act.eval ⟨I,ds⟩) o).run P w=.ok .recover w:=by unfold execOp;rw[M];simp[resolve,invoke,builtin,Sem.run_bind,Sem.run_pure]
 rw[J,hd];exact h
theorem wo {I:Array Value} {ds:List Deferred} {d d0:Nat} {v:Value} (M:ops[i]? = some o) (N:o.guard=none) (O:o.op=.assign (.tmp d0)) (hd:o.dst=some d) (U:I[d0]? = some v) (h:wpOpsS P ops Q rest ⟨I.setIfInBounds d v,ds⟩ cs w):wpOpsS P ops Q (i::rest) ⟨I,ds⟩ cs w:=by
 simp only[wpOpsS,M,Region.wanted,N,if_true];have he:Act.eval ⟨I,ds⟩ (.tmp d0)=v:=by show I.getD d0 undef=v;simp_all
 have J:(execOp (Act.eval ⟨I,ds⟩) o).run P w=.ok (.value v) w:=by unfold execOp;simp_all
 rw[J];show Oper.upon P o ⟨I,ds⟩ (fun a' w'=>wpOpsS P ops Q rest a' cs w') (fun e a' w'=>Q e a' cs w') (.ok (.value v) w);rw[Oper.upon_value,hd];exact h
theorem yq (h:Q .normal a cs w):wpOpsS P ops Q [] a cs w:=h
end
end Go.Ab
namespace Go.Ab
open Go.RowKit
def wY:Obj→Bool
 | .cells ..=>true
 | .map ..=>true
 | _=>false
theorem AI {w:World} {b o:Nat} {u:Value} (h:cellAt w b o=some u):∃ cs T f,w.heap[b]? = some (.cells cs T f)∧cs[o]? = some u:=by unfold cellAt World.cell? at h;grind
section
variable {C:Ctx} {n:Nat} {st:St} {G:Gh} {tmps:Array Value} {w:World}
theorem bg.agree (h:bg C n st G tmps w) {w':World} (e1:w'.os=w.os) (e2:w'.tape=w.tape) (e3:w'.output=w.output) (ad:w.heap.size≤w'.heap.size)
 (J:∀ (b:Nat) (o:Obj),w.heap[b]? = some o→wY o=true→w'.heap[b]? = some o) (hold:∀ b,b < C.w0.heap.size→¬ C.fp b→w'.heap[b]? = w.heap[b]?):bg C n st G tmps w':=by
 have M:∀ {b o:Nat} {u:Value},Ab.cellAt w b o=some u→Ab.cellAt w' b o=some u:=fun {b o u} hu=>by obtain⟨cs,T,f,h1,h2⟩:=AI hu;rw[cz (J b _ h1 rfl)];exact h2
 have N:ek w w':=fun b cs T f h=>⟨cs,f,J b _ h rfl⟩;have U:Fr C w':=⟨e1.trans h.fr.os,e2.trans h.fr.tape,e3.trans h.fr.output,Nat.le_trans h.fr.size ad,fun b h1 h2=>(hold b h1 h2).trans (h.fr.block b h1 h2),fun b o u ai hu=>M (h.fr.cells b o u ai hu),h.fr.ty.trans N⟩;have hle:(bj C G st.gen w).le (bj C G st.gen w'):=k9 h.fr U (fun b o u hu hn=>⟨M hu,hn⟩) (fun _ _ h=>h) (fun _ _ _ h=>h) (Nat.le_refl _) (fun g b len cap sz O _ I=>by
  obtain⟨_,_,_,cur,T,h3,_⟩:=h.row g b len cap sz O I;rw[h3];exact J b _ h3 rfl) (fun g b bs _ I=>⟨fun c X=>by
   subst X;obtain⟨_,_,_,me,clock,h3⟩:=h.mrow g c bs I;rw[h3];exact J c _ h3 rfl,fun p hp=>by
   obtain⟨_,_,_,_,cur,T,h3,_⟩:=h.sub g b bs p.1 p.2 I hp;rw[h3];exact J p.1 _ h3 rfl⟩) N
 refine { size:=h.size,frame:=h.eA hle,inj:=h.inj,live:=h.live,gown:=h.gown,xold:=h.xold,kold:=h.kold,lent:=h.lent,fr:=U,gcell:=fun g b hb=>lX N (h.gcell g b hb),box:=?_,gbox:=?_,row:=?_,mrow:=?_,sub:=?_ }
 ·intro g cells X
  obtain⟨b,cs,T,h1,h2,h3,h4,h5⟩:=h.box g cells X;exact⟨b,cs,T,h1,J b _ h2 rfl,h3,h4,fun i u a hu ha=>(h5 i u a hu ha).mono hle⟩
 ·intro g b hb
  obtain⟨h1,h2,h3⟩:=h.gbox g b hb;grind
 ·intro g b len cap sz O I
  obtain⟨h1,h2,h3,cur,T,h4,h5⟩:=h.row g b len cap sz O I;exact⟨h1,h2,h3,cur,T,J b _ h4 rfl,h5⟩
 ·intro g b bs I
  obtain⟨h1,h2,h3,me,clock,h4⟩:=h.mrow g b bs I;exact⟨h1,h2,h3,me,clock,J b _ h4 rfl⟩
 ·intro g b bs c lim I hm
  obtain⟨h1,h2,h3,h4,cur,T,h5,h6⟩:=h.sub g b bs c lim I hm;exact⟨h1,h2,h3,h4,cur,T,J c _ h5 rfl,h6⟩
/-! ### the walk begun anew in the world that is -/
def uP (G:Gh) (b:Nat):Prop:=(∃ g,G.box g=some b)∨∃ g r lim,G.own g=some r∧r.pV b lim
def rY (C:Ctx) (G:Gh) (w:World) (ds:List Deferred):Ctx:={ w0:=w,fp:=uP G,x:=C.x,keep:=C.keep,bx:=[],ds:=ds }
theorem bg.jd (h:bg C n st G tmps w) {b:Nat} (J:uP G b):C.w0.heap.size≤b∨C.fp b:=by
 rcases J with ⟨g,I⟩ | ⟨g,r,lim,I,M⟩
 ·exact(h.gbox g b I).2.2.1
 ·exact(h.rowAt I M).1.1
theorem bg.GP (h:bg C n st G tmps w) (ds:List Deferred):bg (rY C G w ds) n st G tmps w:=by
 have O:Fr (rY C G w ds) w:=⟨rfl,rfl,rfl,Nat.le_refl _,fun _ _ _=>rfl,fun _ _ _ _ h=>h,.refl w⟩;have hle:(bj C G st.gen w).le (bj (rY C G w ds) G st.gen w):=⟨fun b o u hu X=>⟨hu,X⟩,fun b o u hu U=>⟨hu,dF hu,fun J=>(h.jd J).elim (fun h1=>by have:=U.1;omega) U.2⟩,fun _ _ h=>h,fun _ _ _ h=>h,Nat.le_refl _,fun _ _ _ _ _ _ _ _=>rfl,fun _ _ _ _ _=>⟨fun _ _=>rfl,fun _ _=>rfl⟩,ek.refl _⟩;refine { size:=h.size,frame:=fun t a N=>?_,inj:=h.inj,live:=h.live,gown:=h.gown,xold:=?_,kold:=?_,lent:=fun i b hb=>(by simp[rY] at hb),fr:=O,gcell:=h.gcell,box:=?_,gbox:=?_,row:=?_,mrow:=?_,sub:=?_ }
 ·obtain⟨v,h1,h2⟩:=h.frame t a N
  exact⟨v,h1,h2.mono hle⟩
 ·intro g cells J
  obtain⟨b,cs,T,h1,h2,h3,h4,h5⟩:=h.box g cells J;exact⟨b,cs,T,h1,h2,h3,h4,fun i u a hu N=>(h5 i u a hu N).mono hle⟩
 ·intro g b hb
  obtain⟨h1,h2,h3⟩:=h.gbox g b hb;exact⟨h1,h2,.inr (.inl ⟨g,hb⟩),h3.2⟩
 ·intro g b len cap sz M I
  obtain⟨h1,h2⟩:=h.row g b len cap sz M I;exact⟨⟨.inr (.inr ⟨g,_,M,I,rfl,rfl⟩),h1.2⟩,h2⟩
 ·intro g b bs I
  obtain⟨h1,h2⟩:=h.mrow g b bs I;exact⟨⟨.inr (.inr ⟨g,_,0,I,Or.inl ⟨rfl,rfl⟩⟩),h1.2⟩,h2⟩
 ·intro g b bs c lim I hm
  obtain⟨h1,h2⟩:=h.sub g b bs c lim I hm;exact⟨⟨.inr (.inr ⟨g,_,lim,I,Or.inr hm⟩),h1.2⟩,h2⟩
 ·intro b o hx
  obtain⟨h1,h2⟩:=h.xold b o hx;exact⟨Nat.lt_of_lt_of_le h1 h.fr.size,fun J=>(h.jd J).elim (fun h3=>by omega) h2⟩
 ·intro b o hk
  exact Nat.lt_of_lt_of_le (h.kold b o hk) h.fr.size
theorem bg.DU {P:Program} [db P] [hC:GC P C] (h:bg C n st G tmps w) (ds:List Deferred):GC P (rY C G w ds):=by
 obtain⟨W,h1,h2,h3⟩:=hC.h;refine⟨W,h1,Nat.le_trans h2 h.fr.size,fun b hb=>⟨(h.fr.block b (Nat.lt_of_lt_of_le hb h2) (h3 b hb).2).trans (h3 b hb).1,fun I=>?_⟩⟩;rcases h.jd I with h4 | h4
 ·omega
 ·grind
mutual
def lf:A→Bool
 | .row _=>false
 | .agg l=>lO l
 | .tup l=>lO l
 | .clo _ l=>lO l
 | .bnd _ l=>lO l
 | _=>true
def lO:List A→Bool
 | []=>true
 | a::l=>lf a && lO l
end
theorem ju:∀ {l:List A},lO l=true→∀ a∈l,lf a=true
 | [],_,_,h=>by cases h
 | b::l,h,a,I=>by
   simp only[lO,Bool.and_eq_true] at h
   cases I with
   | head=>exact h.1
   | tail _ I=>exact ju h.2 a I
def mV (st:St):Bool:=st.f.all (fun x=>lf x.2) && st.bx.all (fun x=>lO x.2)
theorem bu.Ig {E E':En} (hw:E.w=E'.w) (hp:E.pv=E'.pv) (ad:E.box=E'.box) (X:E.own=E'.own) (ai:E.gen=E'.gen) {v:Value} {a:A} (h:bu E v a) (O:lf a=true):bu E' v a:=by
 obtain⟨w',b5,aj,b2,b3,gen'⟩:=E';obtain⟨w0,a7,b4,a1,a6,gen0⟩:=E;simp only at hw hp ad X ai;subst hw;subst hp;subst ad;subst X;subst ai
 induction h with
 | any x=>exact .any x
 | d hd=>exact .d hd
 | ag vs l hs hd=>exact .ag vs l hs hd
 | own x g es hd M U=>exact .own x g es hd M U
 | agg vs l hs hone _ N=>exact .agg vs l hs hone (fun i u x hu J=>N i u x hu J (ju (by simpa [lf] using O) x (List.mem_of_getElem? J)))
 | tup vs l hs _ N=>exact .tup vs l hs (fun i u x hu J=>N i u x hu J (ju (by simpa [lf] using O) x (List.mem_of_getElem? J)))
 | rowd b off l u hc hd=>exact .rowd b off l u hc hd
 | row b off l u hc _ _=>simp[lf] at O
 | ptr x g off b M hb hp=>exact .ptr x g off b M hb hp
 | xs x g es M h1 J=>exact .xs x g es M h1 J
 | xp x g i off l M h1 J=>exact .xp x g i off l M h1 J
 | mp x g es M h1 J=>exact .mp x g es M h1 J
 | mq x g es M h1 J=>exact .mq x g es M h1 J
 | mo x g es hole ob M h1 J=>exact .mo x g es hole ob M h1 J
 | ni t x=>exact .ni t x
 | fl x es hd hc=>exact .fl x es hd hc
 | bf x g T s M h1 J=>exact .bf x g T s M h1 J
 | np x g T b M hb hT u J=>exact .np (E:=⟨w0,a7,aj,a1,a6,gen0⟩) x g T b M hb hT u J
 | sb x g n c b M hb hn J=>exact .sb x g n c b M hb hn J
 | fx x u g es ou J M hu X=>exact .fx x u g es ou J M hu X
 | ol x u g' E' g es J a8 b0 M hu=>exact .ol x u g' E' g es J a8 b0 M hu
 | ow x v g es hd M U=>exact .ow x v g es hd M U
 | gi x g I M U=>exact .gi x g I M U
 | lk x g n c b v M hb hn J=>exact .lk x g n c b v M hb hn J
 | clo f vs l hs _ N=>exact .clo f vs l hs (fun i u x hu J=>N i u x hu J (ju (by simpa [lf] using O) x (List.mem_of_getElem? J)))
 | bnd f vs l hs _ N=>exact .bnd f vs l hs (fun i u x hu J=>N i u x hu J (ju (by simpa [lf] using O) x (List.mem_of_getElem? J)))
theorem wK {f:List (Nat×A)} {t:Nat} {a:A} (h:look f t=some a):(t,a)∈f:=by
 induction f with
 | nil=>simp[look] at h
 | cons x r I=>grind[bU,List.mem_cons_self,List.mem_cons_of_mem]
theorem bg.HO (h:bg C n st G tmps w) (ad:C.bx=[]) {ds:List Deferred} {st':St} {O:Gh} {N:Array Value} {w':World} (I:bg (rY C G w ds) n st' O N w') (U:mV st'=true):bg C n st' O N w':=by
 simp only[mV,Bool.and_eq_true,List.all_eq_true] at U;have hm:∀ {b lim},(rY C G w ds).iJ b lim→C.iJ b lim:=fun {b lim} hm=>⟨hm.1.elim (fun h1=>.inl (Nat.le_trans h.fr.size h1)) h.jd,hm.2⟩;have X:∀ {v a},bu (bj (rY C G w ds) O st'.gen w') v a→lf a=true→bu (bj C O st'.gen w') v a:=fun J M=>bu.Ig (E:=bj (rY C G w ds) O st'.gen w') (E':=bj C O st'.gen w') rfl rfl rfl rfl rfl J M;refine { size:=I.size,frame:=fun t a M=>?_,inj:=I.inj,live:=I.live,gown:=I.gown,xold:=h.xold,kold:=h.kold,lent:=fun i b hb=>(by rw[ad] at hb;simp at hb),gcell:=I.gcell,fr:=?_,box:=?_,gbox:=?_,row:=?_,mrow:=?_,sub:=?_ }
 ·obtain⟨v,h1,h2⟩:=I.frame t a M
  exact⟨v,h1,X h2 (U.1 _ (wK M))⟩
 ·intro g cells hc
  obtain⟨b,cs,T,h1,h2,h3,h4,h5⟩:=I.box g cells hc;exact⟨b,cs,T,h1,h2,h3,h4,fun i u a hu M=>X (h5 i u a hu M) (ju (U.2 _ (qQ hc)) a (List.mem_of_getElem? M))⟩
 ·intro g b hb
  obtain⟨h1,h2,h3⟩:=I.gbox g b hb;grind
 ·intro g b len cap sz ai J
  obtain⟨h1,h2⟩:=I.row g b len cap sz ai J;grind
 ·intro g b bs J
  obtain⟨h1,h2⟩:=I.mrow g b bs J;grind
 ·intro g b bs c lim J aj
  obtain⟨h1,h2⟩:=I.sub g b bs c lim J aj;grind
 ·refine⟨I.fr.os.trans h.fr.os,I.fr.tape.trans h.fr.tape,I.fr.output.trans h.fr.output,Nat.le_trans h.fr.size I.fr.size,fun b h1 h2=>?_,fun b o u hk hu=>I.fr.cells b o u hk (h.fr.cells b o u hk hu),h.fr.ty.trans I.fr.ty⟩
  exact(I.fr.block b (Nat.lt_of_lt_of_le h1 h.fr.size) (fun hc=>(h.jd hc).elim (fun h3=>by omega) h2)).trans (h.fr.block b h1 h2)
end
/-! ### walks over which marks may stand on the deferred calls -/
abbrev xy (D:Nat):Deferred:=⟨.collected D,#[]⟩
def vh (J:Nat) (ds:List Deferred) (w:World):Prop:=∃ I:List Nat,ds=I.map xy∧I.Nodup∧∀ D∈I,J≤D∧w.heap[D]? = some (Obj.deferred (some []))
def E5 (C:Ctx) (n:Nat) (Q:Exit→St→Prop):Exit→Act→World→Prop:=fun e a w=>vh C.w0.heap.size a.defers w∧∃ st,ez C n st a.tmps w∧Q e st
def Wd (P:Program) (C:Ctx) (n:Nat) (c:Code) (Q:Exit→St→Prop) (st:St):Prop:=∀ tmps ds w,ez C n st tmps w→vh C.w0.heap.size ds w→c.wp P (E5 C n Q) ⟨tmps,ds⟩ w
def xm (P:Program) (C:Ctx) (n:Nat) (y:Code) (Q:Exit→St→Prop):Exit→St→Prop
 | .normal,s=>Wd P C n y Q s
 | e,s=>Q e s
def QN (Q:Exit→St→Prop):Exit→St→Prop:=fun e s=>mV s=true∧Q e s
def Fc {ι:Type} (C:Ctx) (n:Nat) (S:ι→St) (I:ι→Nat) (m:Nat) (Q:Exit→St→Prop):Exit→St→Prop
 | .normal,s=>∃ j,I j < m∧∀ (tmps:Array Value) (w:World),ez C n s tmps w→ez C n (S j) tmps w
 | e,s=>Q e s
section
variable {P:Program} [db P] {C:Ctx} {n:Nat} {Q:Exit→St→Prop} {st:St}
theorem vh.kept {I:Nat} {ds:List Deferred} {w w':World} (h:vh I ds w) (M:∀ D:Nat,w.heap[D]? = some (Obj.deferred (some []))→w'.heap[D]? = some (Obj.deferred (some []))):vh I ds w':=
 let ⟨Ds,h1,h2,h3⟩:=h;⟨Ds,h1,h2,fun D J=>⟨(h3 D J).1,M D (h3 D J).2⟩⟩
theorem bg.BZ {G:Gh} {tmps:Array Value} {w:World} (h:bg C n st G tmps w) {D:Nat} {o:Obj} (J:w.heap[D]? = some o) (M:wY o=false):¬ uP G D:=by
 rintro(⟨g,I⟩ | ⟨g,r,lim,I,N⟩)
 ·obtain⟨cs,T,f,h2⟩:=h.gcell g D I
  rw[J] at h2;cases h2;cases M
 ·cases r with
  | nil=>exact N.elim
  | zero _=>exact N.elim
  | blk b len cap sz O=>obtain⟨rfl,rfl⟩:=N;obtain⟨_,_,_,cur,T,h4,_⟩:=h.row g b len cap sz lim I;rw[J] at h4;cases h4;cases M
  | mp b bs=>
    rcases N with ⟨rfl,rfl⟩ | hm
    ·obtain⟨_,_,_,U,clock,h4⟩:=h.mrow g _ bs I
     rw[J] at h4;cases h4;cases M
    ·obtain⟨_,_,_,_,cur,T,h4,_⟩:=h.sub g b bs D lim I hm
     rw[J] at h4;cases h4;cases M
end
end Go.Ab
namespace Go.Ab
open Go.RowKit
section
variable {P:Program} [db P] {C:Ctx} {n:Nat} {Q:Exit→St→Prop} {st st':St} {c:Code}
theorem Wd.GF [GC P C] (N:C.bx=[]) (h:∀ J,NB J 0→GC P J→W P J n c (QN Q) st):Wd P C n c Q st:=by intro tmps ds w ⟨G,hs⟩ O;refine wp_mono (h (rY C G w ds) ⟨rfl⟩ (hs.DU ds) tmps w ⟨G,hs.GP ds⟩) ?_;rintro e ⟨t,d⟩ w' ⟨hd,st',⟨X,I⟩,U,hq⟩;have hd:d=ds:=hd;subst hd;refine⟨O.kept fun D M=>?_,st',⟨X,hs.HO N I U⟩,hq⟩;exact(I.fr.block D (Array.getElem?_eq_some_iff.1 M).1 (hs.BZ M rfl)).trans M
omit [db P] in
theorem aH {x y:Code} (h:Wd P C n x (xm P C n y Q) st):Wd P C n (.seq x y) Q st:=by
 intro tmps ds w hs M;refine wp_seq (wp_mono (h tmps ds w hs M) ?_);rintro e ⟨t,d⟩ w' ⟨hd,st',I,J⟩;cases e <;> simp only[xm] at J <;> simp only[Exit.then];·exact J t d w' I hd
 all_goals exact⟨hd,st',I,J⟩
theorem Wd.iY [GC P C] (J:C.bx=[]) {x y:Code} (h:∀ I,NB I 0→GC P I→W P I n x (QN (xm P C n y Q)) st):Wd P C n (.seq x y) Q st:=aH (Wd.GF J h)
omit [db P] in
theorem Wd.block {id:Nat} (h:Wd P C n c (QB id Q) st):Wd P C n (.block id c) Q st:=by
 intro tmps ds w hs M;refine wp_block (wp_mono (h tmps ds w hs M) ?_);rintro e ⟨t,d⟩ w' ⟨hd,st',J,I⟩;cases e <;> simp only[QB] at I <;> simp only[Exit.inBlock];case exit i=>
  split;·rename_i e;rw[if_pos e] at I;exact⟨hd,st',J,I⟩
  ·rename_i e;rw[if_neg e] at I;exact⟨hd,st',J,I⟩
 all_goals exact⟨hd,st',J,I⟩
omit [db P] in
theorem Wd.conv (hle:∀ (tmps:Array Value) (w:World),ez C n st tmps w→ez C n st' tmps w) (h:Wd P C n c Q st'):Wd P C n c Q st:=
 fun tmps ds w hs I=>h tmps ds w (hle tmps w hs) I
omit [db P] in
theorem Wd.loop {ι:Type} (S:ι→St) (X:ι→Nat) (hr:∀ i,Wd P C n c (Fc C n S X (X i) Q) (S i)) (i:ι):Wd P C n (.loop c) Q (S i):=by
 intro tmps ds w hs U b k cs
 have key:∀ (m:Nat) (i:ι) (tmps:Array Value) (ds:List Deferred) (w:World),X i=m→ez C n (S i) tmps w→vh C.w0.heap.size ds w →
  ∃ e a' w',E5 C n Q e a' w'∧Arrives P (lone (b.at ⟨tmps,ds⟩ (.code c::.inLoop c::k)) cs w) b k cs e a' w':=by
  intro m
  induction m using Nat.strongRecOn with
  | _ m ih=>
    intro i tmps ds w hm hs U;obtain⟨e,⟨t1,d1⟩,O,⟨hd,M,J,N⟩,I⟩:=hr i tmps ds w hs U b (.inLoop c::k) cs;simp only at hd
    cases e with
    | normal=>obtain⟨j,ai,aj⟩:=N;obtain⟨e2,a2,w2,a1,ad⟩:=ih (X j) (hm▸ai) j t1 d1 O rfl (aj t1 O J) hd;exact⟨e2,a2,w2,a1,.of_steps (Steps.trans I (.one step_inLoop)) ad⟩
    | exit id=>exact⟨_,⟨t1,d1⟩,O,⟨hd,M,J,N⟩,.pass (x:=.inLoop c) rfl (fun _ _=>.inl (by simp)) I⟩
    | goto l=>exact⟨_,⟨t1,d1⟩,O,⟨hd,M,J,N⟩,.pass (x:=.inLoop c) rfl (fun _ _=>.inl (by simp)) I⟩
    | ret=>exact⟨_,⟨t1,d1⟩,O,⟨hd,M,J,N⟩,.pass (x:=.inLoop c) rfl (fun _ _=>.inl (by simp)) I⟩
    | panic ch=>exact⟨_,⟨t1,d1⟩,O,⟨hd,M,J,N⟩,.pass (x:=.inLoop c) rfl (fun _ _=>.inl (by simp)) I⟩
    | outgrown=>exact⟨_,⟨t1,d1⟩,O,⟨hd,M,J,N⟩,.pass (x:=.inLoop c) rfl (fun _ _=>.inl (by simp)) I⟩
 obtain⟨e,a',w',N,I⟩:=key _ i tmps ds w rfl hs U;exact⟨e,a',w',N,.of_steps (.one step_loop) I⟩
theorem bg.re {G:Gh} {tmps:Array Value} {w:World} (h:bg C n st G tmps w) {r:Nat} {o:Obj} (J:w.heap[r]? = some o) (M:wY o=false) (N:C.w0.heap.size≤r) (o':Obj):bg C n st G tmps (w.putObj r o'):=
 h.agree rfl rfl rfl (by simp) (fun b x hb I=>by rw[World.putObj_heap_other (fun e=>by subst e;rw[J] at hb;cases hb;rw[M] at I;cases I)];exact hb) (fun b hb _=>World.putObj_heap_other (by omega))
theorem bg.drew {G:Gh} {tmps:Array Value} {w:World} (h:bg C n st G tmps w):bg C n st G tmps w.drew:=
 h.agree rfl rfl rfl (Nat.le_refl _) (fun _ _ hb _=>hb) (fun _ _ _=>rfl)
omit [db P] in
theorem wA {fn:Func} {tmps:Array Value} {R:Ending→World→Prop} {m:Nat}:∀ (I:List Nat) (w:World) (st:St) (G:Gh),bg C n st G tmps w→I.Nodup→(∀ D∈I,C.w0.heap.size≤D∧w.heap[D]? = some (Obj.deferred (some []))) →
 (∀ w' G,bg C n st G tmps w'→∃ v,(results fn tmps).run P w'=.ok v w'∧R (.returned v) w')→LeavesInM Fence.wide m P fn tmps R (I.map xy) .returning w
 | [],w,st,G,hs,_,_,h=>h w G hs
 | D::I,w,st,G,hs,hn,hD,h=>by obtain⟨h1,h2⟩:=hD D (by simp);rw[List.nodup_cons] at hn;refine⟨by simp,.inl ⟨D,_,rfl,run_takeDeferred h2,wA I _ st G (hs.re h2 rfl h1 _) hn.2 (fun E J=>?_) h⟩⟩;obtain⟨h3,h4⟩:=hD E (by simp[J]);exact⟨h3,by rw[World.putObj_heap_other (fun e=>hn.1 (by rw[←e];exact J))];exact h4⟩
theorem bq.IM (T:cn P) {f:FuncId} {fn:Func} {c:Code} {rs:List RV} {n:Nat} {args:List A} {r:A} (X:P.funcs[f]? = some fn) (N:(fn.name == "runtime.NumGoroutine")=false) (hb:fn.body=some c) (hn:fn.ntmps=n)
 (J:fn.results=(rs.map RV.var).toArray) (hlen:Nat.ble args.length n=true)
 (h:∀ C,C.bx=[]→GC P C→Wd P C n c (fun e st=>(match e with | .normal=>True | .ret=>True | _=>False)∧∃ l,kQ T st.f st.bx rs=some l∧norm [] (bW l)=r) ⟨hU 0 args,[],[],0⟩):bq P f args r 0:=by
 have hlen:=Nat.le_of_ble_eq_true hlen;refine⟨⟨fn,X,N,by rw[hb];rfl⟩,fun C I w hG hw hp hx a6 U=>?_⟩;subst hw;refine callsIn_wide.1 (callsIn_of_wp_marks (F:=Fence.wide) (n:=0) X hb trivial ?_ rfl);refine wpIn_wide.2 ?_;refine wp_mono (h C hp.2.2.1 hG (I++Array.replicate (fn.ntmps - I.size) undef) [] C.w0 ⟨G0,?_⟩ ⟨[],rfl,List.nodup_nil,fun D hD=>by cases hD⟩) ?_
 ·refine { size:=by simp[hn];omega,frame:=fun t a ha=>?_,box:=fun g cells hc=>by simp[aY] at hc,gbox:=fun g b hb=>by simp[G0] at hb,inj:=fun g g' b hb=>by simp[G0] at hb,gcell:=fun g b hb=>by simp[G0] at hb,
           live:=fun g hg=>by simp at hg,gown:=fun g r J=>by simp[G0] at J,row:=fun g b len cap sz a7 J=>by simp[G0] at J,mrow:=fun g b bs J=>by simp[G0] at J,sub:=fun g b bs c lim J=>by simp[G0] at J,xold:=fun b o hb=>⟨hx b o hb,hp.1 b⟩,kold:=fun b o hb=>absurd hb (hp.2.1 b o),lent:=fun i b hb=>by rw[hp.2.2.1] at hb;simp at hb,
           fr:=⟨rfl,rfl,rfl,Nat.le_refl _,fun _ _ _=>rfl,fun _ _ _ hb=>absurd hb (hp.2.1 _ _),ek.refl _⟩ }
  obtain⟨_,h1⟩:=gl args 0 t a ha;have h2:t < args.length:=(List.getElem?_eq_some_iff.1 (by simpa using h1)).1;have h3:t < I.size:=by omega
  have h4:I[t]? = some I[t]:=by simp[h3]
  exact⟨I[t],by rw[Array.getElem?_append_left h3];exact h4,U t _ a h4 (by simpa using h1)⟩
 ·rintro e ⟨tmps,df⟩ w' ⟨⟨Ds,hd,ad,ai⟩,st,⟨G,hs⟩,he,l,hl,aj⟩
  simp only at hd;subst hd
  have M:LeavesInM Fence.wide 0 P fn tmps (fun e w'=>∃ v O,e=.returned v∧bg C 0 ⟨[],[],List.range 0,0⟩ O #[] w'∧bu (bj C O 0 w') v r) (Ds.map xy) .returning w':=
   wA Ds w' st G hs ad ai fun w2 G2 a1=>by obtain⟨v,h1,v1,O,h2,h3,h4⟩:=D1 T a1 hp.2.2.1 J hl aj;exact⟨v,h1,v1,O,h2,h3,h4⟩
  cases e with
  | normal=>exact M
  | ret=>exact M
  | exit _=>exact he.elim
  | goto _=>exact he.elim
  | panic _=>exact he.elim
  | outgrown=>exact he.elim
end
/-! ### a range over slices.Chunk's iterator, where there is one chunk -/
def qS (P:Program) [db P] (n:Nat) (body:Code) (V:List (Nat×A)) (I:List (List A)) (m:Nat) (b1:List (List A)) (k:Nat):Prop:=
 ∀ (C:Ctx) (G:Gh) (tmps:Array Value) (w:World) (l q:Nat),GC P C→C.w0=w→C.bx.length=I.length→C.ds=[]→bg C n ⟨V,ey 0 I,(List.range m).map (I.length+·),I.length+m⟩ G tmps w →
   body.wpIn (Fence.wide.inRound l) q P (fun e _ w'=>e=.normal∧∃ J,bg C 0 ⟨[],ey 0 b1,(List.range k).map (I.length+·),I.length+k⟩ J #[] w') ⟨tmps,[]⟩ w
def vj (P:Program) (fid:FuncId):Prop:=
 ∀ (l:Nat) (W:World) (I J b1 o1:Nat) (a:Addr) (len cap:Nat) (R:World→Prop),cellAt W I J=some (.slice (some a) len cap)→cellAt W b1 o1=some (.int .i64 1000)→0 < len→len≤1000→len≤cap→cap≤maxLen →
   YieldAt Fence.wide 0 P l #[.slice (some a) len len] W.drew (fun e W'=>e=.returned (.bool true)∧(∃ a' M,cellAt W' I J=some (.slice a' len M))∧cellAt W' b1 o1=some (.int .i64 1000)∧R W') →
   Calls P fid #[.func (.yield l) #[] #[],.pointer (some ⟨I,J,none⟩),.pointer (some ⟨b1,o1,none⟩)] W fun e W'=>(∃ v,e=.returned v)∧R W'
theorem BY {w:World} {pv:Nat→Nat→Prop} {v:Value} {es:List (List D)} (h:bE w pv v (.sl es)) (hp:0 < es.length):∃ (a:Addr) (cap:Nat),v=.slice (some a) es.length cap∧es.length≤cap∧cap≤maxLen∧bE w pv (.slice (some a) es.length es.length) (.sl es):=by
 cases h with
 | nil=>simp at hp
 | emp a cap hm=>simp at hp
 | sl b off len cap sz _ u hl I hm hs hu J=>subst hl;exact⟨_,cap,rfl,I,hm,.sl b off es.length es.length sz es u rfl (Nat.le_refl _) (by omega) hs hu J⟩
theorem wm {w:World} {pv:Nat→Nat→Prop} {v:Value} {es:List (List D)} (h:bE w pv v (.sl es)):∃ (a:Option Addr) (cap:Nat),v=.slice a es.length cap:=by
 cases h with
 | nil=>exact⟨_,_,rfl⟩
 | emp a cap hm=>exact⟨_,_,rfl⟩
 | sl b off len cap sz _ u hl I hm hs hu J=>subst hl;exact⟨_,_,rfl⟩
theorem uT {C:Ctx} {n:Nat} {st:St} {G:Gh} {tmps:Array Value} {w:World} (hs:bg C n st G tmps w) {g:Operand} {fid:FuncId} {es:List (List D)} {x:Value} (hg:av st.f g=some (.clo fid [.rowd [.sl es],.rowd [.v x]])) :
 ∃ J M b1 o1,Act.eval ⟨tmps,[]⟩ g=.func (.func fid) #[] #[.pointer (some ⟨J,M,none⟩),.pointer (some ⟨b1,o1,none⟩)]∧(∃ u,cellAt w J M=some u∧bE w (bM C G) u (.sl es))∧cellAt w b1 o1=some x:=by
 have N:=hs.av hg;generalize Act.eval ⟨tmps,[]⟩ g=v at N
 cases N with
 | clo _ vs _ I hcd=>
 have I:vs.size=2:=I;obtain⟨v0,v1,rfl⟩:∃ v0 v1,vs=#[v0,v1]:=⟨vs[0],vs[1],by
  apply Array.ext;·simpa using I
  ·intro i h1 h2
   match i with
   | 0=>rfl
   | 1=>rfl
   | i+2=>simp at h2;omega⟩
 have r0:=hcd 0 v0 _ rfl rfl;have r1:=hcd 1 v1 _ rfl rfl
 cases r0 with
 | rowd J M _ u0 O U=>
 cases r1 with
 | rowd b1 o1 _ u1 X ad=>
 refine⟨J,M,b1,o1,rfl,⟨u0 0,?_,U 0 _ rfl⟩,?_⟩
 ·have h1:=(O 0 (by simp)).1
  rw[Nat.add_zero] at h1;exact h1
 ·have h1:=(X 0 (by simp)).1
  have h2:=ad 0 _ rfl;generalize u1 0=y at h1 h2;rw[Nat.add_zero] at h1;cases h2 with | v _ _=>exact h1
section
variable {P:Program} [db P] {C:Ctx} [GC P C] {n:Nat} {Q:Exit→St→Prop} {st:St}
theorem aW {g:Operand} {par d id:Nat} {ty:TypeId} {pos:String} {af:Array Edge} {body:Code} {es:List (List D)} {fid:FuncId}
 (hg:av st.f g=some (.clo fid [.rowd [.sl es],.rowd [.v (.int .i64 1000)]])) (hok:jF P fid) (hit:vj P fid) (df:0 < es.length) (en:es.length≤1000) (di:Nat.blt par n=true) (dj:Nat.blt d n=true)
 (gs os:List Nat) (fo:nodupB gs=true) (fs:nodupB os=true) (ft:(os.all fun g=>st.lv.any fun h=>Nat.beq h g)=true) {V:List (Nat×A)} {N b1:List (List A)} {m k:Nat} (hb:fQ st.bx gs os gs=some N) (hm:os.length=m)
 (hV:∀ t a',look V t=some a'→∃ a,look st.f t=some a∧dU st.bx gs os 5 a=a') (gb:(V.all fun x=>!Nat.beq x.1 par)=true)
 (c6:qS P n body ((d,.d (.sl es))::V) N m b1 k) (gd:b1.length=N.length)
 (h:Q .normal ⟨st.f,iw gs st.gen gs b1++st.bx,(List.range k).map (N.length+·+st.gen)++st.lv.filter (fun g=>!os.any (Nat.beq g)),N.length+k+st.gen⟩) :
 Wd P C n (.rangeFunc g #[par] (.region id #[⟨some d,.assign (.tmp par),ty,pos,af,none⟩] false) body) Q st:=by
 subst hm;intro tmps ds w ⟨G,hs⟩ ⟨Ds,b5,gj,dt⟩;have b5:ds=Ds.map xy:=b5;subst b5;have di:=Nat.le_of_ble_eq_true di;have dj:=Nat.le_of_ble_eq_true dj;obtain⟨p0,o0,p1,o1,dx,⟨u0,gm,gq⟩,ha⟩:=uT hs hg;obtain⟨a,cap,rfl,hc,hf,hh⟩:=BY gq df;refine(wpIn_wide (n:=1)).1 (wpIn_rangeFunc ?_);intro fn _;obtain⟨rec,J⟩:∃ rec:LoopState→Option Code→Loop,rec=fun s pe=>{ state:=s,pending:=pe,fn,tmps:=tmps,params:=#[par],assign:=.region id #[⟨some d,.assign (.tmp par),ty,pos,af,none⟩] false,body,defers:=w.heap.size }:=⟨_,rfl⟩;obtain⟨I,aj⟩:∃ I,(w.alloc (.deferred (some []))).alloc (.loop (rec .ready none))=I:=⟨_,rfl⟩;have b6:I.heap[w.heap.size+1]? = some (.loop (rec .ready none)):=by rw[←aj];have:=World.alloc_heap_new (w.alloc (.deferred (some []))) (.loop (rec .ready none));rwa [World.size_alloc] at this
 have a1:Below w.heap.size w I:=by rw[←aj];exact((Below.refl _ w).alloc (Nat.le_refl _) _).alloc (by simp) _
 have hk:I.heap[w.heap.size]? = some (.deferred (some [])):=by rw[←aj];exact(Below.heap_alloc _ _ _ (by simp)).trans (World.alloc_heap_new w _)
 have hq:bg C n st G tmps I:=(hs.gF a1).2;have hS:w.heap.size≤I.heap.size:=a1.size;have ch:∀ {b o u},cellAt w b o=some u→cellAt I b o=some u:=fun {b o u} hu=>by rw[cw (a1.block b (dF hu))];exact hu
 have hr:=hs.fr.size
 refine⟨w.heap.size+1,[{ target:=.collected w.heap.size,args:=#[] }],I,{ target:=.fn (.func fid) #[.pointer (some ⟨p0,o0,none⟩),.pointer (some ⟨p1,o1,none⟩)],args:=#[.func (.yield (w.heap.size+1)) #[] #[]] },I,fid,
  #[.func (.yield (w.heap.size+1)) #[] #[]]++#[.pointer (some ⟨p0,o0,none⟩),.pointer (some ⟨p1,o1,none⟩)],I,?_,?_,?_,?_,fun _=>Nat.le_refl _,?_⟩
 ·rw[←aj,J];exact run_enterLoop_outer _ _ _ _ _
 ·have e1:Act.eval ⟨tmps,Ds.map xy⟩ g=.func (.func fid) #[] #[.pointer (some ⟨p0,o0,none⟩),.pointer (some ⟨p1,o1,none⟩)]:=by rw[Act.iR tmps _ []];exact dx
  simp only[resolve,e1];simp[go_sem]
 ·intro f' _;trivial
 ·obtain⟨hX,e3,cj,cl⟩:=hok
  simp only[Sem.run_bind,Sem.run_pure,Result.andThen_ok,invoke,callFunc,run_program,e3,cj,cl,Bool.false_eq_true,if_false]
 refine CallsIn.mono (callsIn_wide.2 (hit (w.heap.size+1) I p0 o0 p1 o1 a es.length cap
  (fun W'=>∃ G',bg C n ⟨st.f,iw gs st.gen gs b1++st.bx,(List.range k).map (N.length+·+st.gen)++st.lv.filter (fun g=>!os.any (Nat.beq g)),N.length+k+st.gen⟩ G' tmps W' ∧
   W'.heap[w.heap.size+1]? = some (.loop (rec .ready none))∧∀ D:Nat,D≠w.heap.size+1→I.heap[D]? = some (Obj.deferred (some []))→W'.heap[D]? = some (Obj.deferred (some [])))
  (ch gm) (ch ha) df en hc hf ?_)) ?_
 ·
  have ht:bg C n st G tmps I.drew:=hq.drew;have cq:I.drew.heap[w.heap.size+1]? = some (.loop (rec .ready none)):=b6;have hy:=run_yield (P:=P) (args:=#[.slice (some a) es.length es.length]) cq (by rw[J];rfl);rw[J] at hy;refine⟨fn,_,_,body,hy,roundIn_of_wpIn trivial ?_⟩;generalize a6:I.drew.putObj (w.heap.size+1) (.loop { rec .ready none with state:=.busy })=O;have ec:=run_beginRound (P:=P) cq (by rw[J]);rw[a6] at ec;have e4:w.heap.size+1 < I.heap.size:=(Array.getElem?_eq_some_iff.1 b6).1;have hz:O.heap[w.heap.size+1]? = some (.loop { rec .ready none with state:=.busy }):=by rw[←a6];exact World.putObj_heap_same e4
  have a7:∀ b,b≠w.heap.size+1→O.heap[b]? = I.heap[b]?:=fun b hb=>by rw[←a6,World.putObj_heap_other hb];rfl
  have X:bg C n st G tmps O:=by rw[←a6];exact ht.re cq rfl (by omega) _
  have e5:∀ {b o u},cellAt w b o=some u→cellAt O b o=some u:=fun {b o u} hu=>by have:=ch hu;rw[cw (a7 b (fun e=>by have:=dF hu;omega))];exact this
  obtain⟨hlen,e6⟩:=X.kV (gs:=gs) (os:=os) (eb fo) (eb fs) (fun g hg=>by obtain⟨y,hy,he⟩:=List.any_eq_true.1 (List.all_eq_true.1 ft g hg);exact Nat.eq_of_beq_eq_true he▸hy) hb;obtain⟨hY,h6⟩:=gS hb;have a8:tmps.size=n:=hs.size;obtain⟨tm,b2⟩:∃ tm,(tmps.setIfInBounds par (.slice (some a) es.length es.length)).setIfInBounds d (.slice (some a) es.length es.length)=tm:=⟨_,rfl⟩;have c7:bg (eO C G O gs os) n ⟨(d,.d (.sl es))::V,ey 0 N,(List.range os.length).map (N.length+·),N.length+os.length⟩ (gK G gs os) tm O:=by
   refine { e6 with size:=by rw[←b2];simp[a8],frame:=fun t x hx=>?_ };rw[bU] at hx;split at hx
   ·rename_i e
    subst e;cases hx;refine⟨.slice (some a) es.length es.length,by rw[←b2,Array.getElem?_setIfInBounds_self_of_lt (by simp[a8];omega)],.d (hh.mono fun b o u hu hn=>⟨e5 hu,fun hp=>hn (zR hp)⟩)⟩
   ·rename_i e
    obtain⟨y,hA,rfl⟩:=hV t x hx;have U:t≠par:=fun e2=>by subst e2;have:=List.all_eq_true.1 gb _ (wK hx);simp at this
    obtain⟨v,hv,hE⟩:=X.frame t y hA;exact⟨v,by rw[←b2,Array.getElem?_setIfInBounds_ne e,Array.getElem?_setIfInBounds_ne (Ne.symm U)];exact hv,bu.kV X gs os (by show _≤N.length+os.length;omega) 5 v y hE⟩
  have ff:=c6 (eO C G O gs os) (gK G gs os) tm O (w.heap.size+1) 0 (GC.qn X) rfl hlen rfl c7;have hw:∀ (ops:Array Oper) (t:Array Value),Region.wanted ⟨some d,.assign (.tmp par),ty,pos,af,none⟩ (yielded ops t)=true:=fun _ _=>rfl;have hF:(tmps.setIfInBounds par (.slice (some a) es.length es.length))[par]? = some (.slice (some a) es.length es.length):=Array.getElem?_setIfInBounds_self_of_lt (by omega);have e0:(Array.foldl (fun (t:Array Value) (x:Nat×Value)=>t.setIfInBounds x.1 x.2) tmps ((#[par]:Array Nat).zip #[Value.slice (some a) es.length es.length]))=tmps.setIfInBounds par (.slice (some a) es.length es.length):=by simp
  show(Code.region _ _ _).wpIn _ _ P _ ⟨Array.foldl (fun (t:Array Value) (x:Nat×Value)=>t.setIfInBounds x.1 x.2) tmps ((#[par]:Array Nat).zip #[Value.slice (some a) es.length es.length]),[]⟩ _;rw[e0];refine wpIn_region ?_;show wpOpsIn _ _ P #[_] _ [0] _ _;simp only[wpOpsIn,List.getElem?_toArray,List.getElem?_cons_zero,hw,if_true];refine⟨fun _ _=>trivial,?_⟩;have hex:Sem.run P (Oper.semAt (Fence.wide.inRound (w.heap.size+1)).round (Act.eval ⟨tmps.setIfInBounds par (.slice (some a) es.length es.length),[]⟩) ⟨some d,.assign (.tmp par),ty,pos,af,none⟩) I.drew=.ok (.value (.slice (some a) es.length es.length)) I.drew:=by
   rw[Oper.semAt_eq _ _ _ (fun c h=>by cases h)];show Sem.run P (execOp _ _) _=_;simp only[execOp,Act.eval];have hG:(tmps.setIfInBounds par (Value.slice (some a) es.length es.length)).getD par undef=.slice (some a) es.length es.length:=by rw[Array.getD_eq_getD_getElem?,hF];rfl
   rw[hG];rfl
  rw[hex];show ∃ hT,_;refine⟨O,ec,?_⟩;have hH:(Act.put ⟨tmps.setIfInBounds par (.slice (some a) es.length es.length),[]⟩ (some d) (.slice (some a) es.length es.length))=⟨tm,[]⟩:=by rw[←b2];rfl
  show body.wpIn _ _ P _ (Act.put ⟨tmps.setIfInBounds par (.slice (some a) es.length es.length),[]⟩ (some d) (.slice (some a) es.length es.length)) O;rw[hH];refine wpIn_mono ff ?_;rintro e a3 W3 ⟨rfl,G3,b3⟩;obtain⟨G4,_,hI⟩:=X.uz hb gd b3;have b4:∀ {b:Nat} {o:Obj},O.heap[b]? = some o→wY o=false→W3.heap[b]? = some o:=fun {b o} cx ho=>by
   refine(b3.fr.block b (Array.getElem?_eq_some_iff.1 cx).1 (fun hl=>X.BZ cx ho ?_)).trans cx;rcases hl with ⟨g',_,hJ⟩ | ⟨lim,g',_,r,hK,hM⟩
   ·exact .inl ⟨g',hJ⟩
   ·exact .inr ⟨g',r,lim,hK,hM⟩
  have cy:=b4 hz rfl;have hN:=run_endRound (P:=P) none cy;refine⟨_,_,hN,rfl,?_⟩;have ed:=hI.re cy rfl (by omega) (.loop { { rec .ready none with state:=LoopState.busy } with state:=if (none:Option Code).isNone then .ready else .done,pending:=none });obtain⟨q0,r0,q1,r1,ad,⟨u2,hO,hP⟩,hQ⟩:=uT ed (g:=g) (fid:=fid) (es:=es) (x:=.int .i64 1000) hg;rw[dx] at ad;simp only[Value.func.injEq,true_and] at ad;have c1:=congrArg Array.toList ad;simp only[List.cons.injEq,Value.pointer.injEq,Option.some.injEq,Addr.mk.injEq,and_true] at c1;obtain⟨⟨rfl,rfl⟩,rfl,rfl⟩:=c1;obtain⟨a2,fj,rfl⟩:=wm hP;refine⟨⟨a2,fj,hO⟩,hQ,G4,ed,?_,fun D U M=>?_⟩
  ·rw[J]
   exact World.putObj_heap_same (Array.getElem?_eq_some_iff.1 cy).1
  ·rw[World.putObj_heap_other U]
   exact b4 (by rw[a7 D U];exact M) rfl
 ·rintro e W3 ⟨⟨v,rfl⟩,G',b3,ei,hR⟩
  have ej:=run_endLoop (P:=P) ei (by rw[J];simp);rw[J] at ej;refine⟨none,_,ej,?_⟩;have U:∀ D,I.heap[D]? = some (Obj.deferred (some []))→D≠w.heap.size+1:=fun D M e=>by rw[e,b6] at M;cases M
  have ai:∀ D:Nat,I.heap[D]? = some (Obj.deferred (some []))→(W3.putObj (w.heap.size+1) (.loop { rec .ready none with state:=.exhausted })).heap[D]? = some (Obj.deferred (some [])):=fun D M=>by rw[World.putObj_heap_other (U D M)];exact hR D (U D M) M
  rw[J] at ai;refine⟨⟨w.heap.size::Ds,rfl,?_,fun D M=>?_⟩,_,⟨G',b3.re ei rfl (by omega) _⟩,h⟩
  ·rw[List.nodup_cons]
   refine⟨fun hm=>?_,gj⟩;have:=(Array.getElem?_eq_some_iff.1 (dt _ hm).2).1;omega
  ·rcases List.mem_cons.1 M with rfl | M
   ·exact⟨hr,ai _ hk⟩
   ·obtain⟨h1,h2⟩:=dt D M
    exact⟨h1,ai D (by rw[a1.block D (Array.getElem?_eq_some_iff.1 h2).1];exact h2)⟩
end
def oK (o:Oper):Bool:=match o.op with | .defer _=>false | _=>true
section
variable {P:Program} {n:Nat}
theorem xB {q:Nat} {row:String} {args:Array Value} {w:World} {R:Value→World→Prop} (h:Rows P row args w R):RowsIn Fence.wide q P row args w R:=
 fun c cs _=>let ⟨v,w',r,s⟩:=h c cs;⟨v,w',r,stepsIn_wide.2 s⟩
theorem Bg {o:Oper} {a:Act} {w:World} {next next':Act→World→Prop} {Q Q':Exit→Act→World→Prop} (h:o.wp P a w next Q) (I:∀ a w,next a w→next' a w) (J:∀ e a w,Q e a w→Q' e a w):o.wp P a w next' Q':=by
 unfold Oper.wp at h ⊢;generalize (execOp a.eval o).run P w=res at h ⊢
 cases res with
 | ok x w'=>
   cases x <;> simp only[Oper.upon] at h ⊢;case value v=>exact I _ _ h
   case skip=>exact I _ _ h
   case defer d=>exact I _ _ h
   case enter f args=>
    refine h.mono fun e M he=>?_
    cases e with
    | returned v=>exact I _ _ he
    | panicked c=>exact J _ _ _ he
    | outgrown=>exact let ⟨a,w,h⟩:=he;⟨a,w,J _ _ _ h⟩
   case row row args=>exact h.mono fun v M he=>I _ _ he
 | halt x w'=>cases x <;> simp only[Oper.upon] at h ⊢;grind
theorem pf {ops:Array Oper} {Q Q':Exit→Act→World→Prop} (I:∀ e a w,Q e a w→Q' e a w):∀ (l:List Oper) (a:Act) (w:World),eX P ops Q l a w→eX P ops Q' l a w
 | [],_,_,h=>I _ _ _ h
 | o::l,a,w,h=>by
   simp only[eX] at h ⊢;split
   ·rename_i hw
    rw[if_pos hw] at h;exact Bg h (fun a w=>pf I l a w) I
   ·rename_i hw
    rw[if_neg hw] at h;exact pf I l _ _ h
theorem FD {r q:Nat} {o:Oper} {a:Act} {w:World} {next next':Act→World→Prop} {Q:Exit→Act→World→Prop} (M:oK o=true) (h:o.wp P a w next Q) (I:∀ a w,next a w→next' a w):o.wpIn (Fence.wide.inRound r) q P a w next' Q:=by
 refine⟨fun _ _=>trivial,?_⟩;rw[Oper.semAt_eq _ _ _ (fun c O=>by simp[oK,O] at M)];unfold Oper.wp at h;generalize (execOp a.eval o).run P w=res at h ⊢
 cases res with
 | ok x w'=>
   cases x <;> simp only[Oper.upon] at h <;> simp only[Oper.uponIn];case value v=>exact I _ _ h
   case skip=>exact I _ _ h
   case defer d=>exact I _ _ h
   case enter f args=>refine⟨fun J=>(by cases J),CallsIn.inRound r ((callsIn_wide.2 h).mono fun e N he=>?_)⟩;grind
   case row row args=>exact⟨fun J=>(by cases J),(xB (h.mono fun v N he=>I _ _ he):RowsIn Fence.wide (q - 1) P row args w' _)⟩
 | halt x w'=>cases x <;> simp only[Oper.upon] at h <;> simp only[Oper.uponIn];grind
theorem yt {r q:Nat} {ops:Array Oper} {Q:Exit→Act→World→Prop}:∀ (l:List Oper) (k:Nat),(∀ j:Nat,l[j]? = ops[k+j]?)→(l.all oK=true)→∀ (a:Act) (w:World),eX P ops Q l a w→wpOpsIn (Fence.wide.inRound r) q P ops Q (List.range' k l.length) a w
 | [],k,_,_,a,w,h=>by simpa [wpOpsIn,eX] using h
 | o::l,k,hl,hd,a,w,h=>by
   have h0:ops[k]? = some o:=by simpa using (hl 0).symm
   simp only[List.all_cons,Bool.and_eq_true] at hd;simp only[List.length_cons,List.range'_succ,wpOpsIn,h0];simp only[eX] at h;have I:=fun a w=>yt (r:=r) (q:=q) (Q:=Q) l (k+1) (fun j=>by have:=hl (j+1);simpa [Nat.add_assoc,Nat.add_comm 1 j] using this) hd.2 a w;split;·grind[FD]
   ·rename_i hw
    rw[if_neg hw] at h;exact⟨fun _ _=>trivial,I _ _ h⟩
end
def QR (b1:List (List A)) (k:Nat) (st:St):Prop:=∃ order,order.length=k∧nodupB (eo b1.length order)=true∧(∀ g∈order,g∈st.lv)∧∀ (i:Nat) (c:List A),b1[i]? = some c→∃ c0,aY st.bx i=some c0∧gM (eo b1.length order) c0=c
theorem QR.mk {b1:List (List A)} {k:Nat} {st:St} (order:List Nat) (M:order.length=k) (I:nodupB (eo b1.length order)=true) (J:(order.all fun g=>st.lv.any fun h=>Nat.beq h g)=true)
 (hb:∀ (i:Nat) (c:List A),b1[i]? = some c→∃ c0,aY st.bx i=some c0∧gM (eo b1.length order) c0=c):QR b1 k st:=
 ⟨order,M,I,fun g N=>by obtain⟨x,O,he⟩:=List.any_eq_true.1 (List.all_eq_true.1 J g N);exact Nat.eq_of_beq_eq_true he▸O,hb⟩
section
variable {P:Program} [db P] {n:Nat}
theorem QR.zH {C:Ctx} {st:St} {G:Gh} {tmps:Array Value} {w:World} {I b1:List (List A)} {k:Nat} (hs:bg C n st G tmps w) (hq:QR b1 k st) (O:C.bx.length=I.length) (J:b1.length=I.length) :
 ∃ G',bg C 0 ⟨[],ey 0 b1,(List.range k).map (I.length+·),I.length+k⟩ G' #[] w:=by
 obtain⟨order,U,X,ad,ai⟩:=hq;have a1:(eo b1.length order).length=I.length+k:=by simp[eo,U,J]
 have M:∀ i,i < C.bx.length→(eo b1.length order)[i]? = some i:=fun i hi=>by unfold eo;rw[List.getElem?_append_left (by simp;omega),List.getElem?_range (by omega)]
 refine⟨mA (eo b1.length order) G,bg.vt (hs.cD (f':=[]) (bx':=ey 0 b1) (lv':=(List.range k).map (I.length+·)) (gen':=I.length+k) (eo b1.length order) (eb X) (by omega) M (fun t a ha=>by simp[look] at ha) (fun i c hc=>?_) (fun i hi=>?_)) rfl⟩
 ·obtain⟨_,h1⟩:=mU b1 0 i c hc
  simp only[Nat.sub_zero] at h1;obtain⟨c0,h2,h3⟩:=ai i c h1;have aj:i < b1.length:=(List.getElem?_eq_some_iff.1 h1).1;exact⟨i,c0,M i (by rw[O,←J];exact aj),h2,by rw[←gB];exact h3⟩
 ·obtain⟨j,hj,rfl⟩:=List.mem_map.1 hi
  have hj:j < k:=by simpa using hj
  have N:j < order.length:=by omega
  refine⟨order[j],?_,ad _ (List.getElem_mem N)⟩;unfold eo;rw[List.getElem?_append_right (by simp;omega)];simp[J,N]
theorem qS.JK {id i1 i2:Nat} {l1 l2:List Oper} {V:List (Nat×A)} {I b1:List (List A)} {m k:Nat} (U:b1.length=I.length) (X:l1.all oK=true) (ad:l2.all oK=true)
 (h:∀ C,NB C I.length→GC P C→WO P C n l1.toArray (fun e s=>e=.normal∧WO P C n l2.toArray (fun e s=>e=.normal∧QR b1 k s) l2 s) l1 ⟨V,ey 0 I,(List.range m).map (I.length+·),I.length+m⟩) :
 qS P n (.block id (.seq (.region i1 l1.toArray false) (.region i2 l2.toArray false))) V I m b1 k:=by
 intro C G tmps w l q hG hw N J hs;refine wpIn_block (wpIn_seq (wpIn_region ?_));have h1:=h C ⟨N⟩ hG tmps w ⟨G,hs⟩;rw[J] at h1;have h2:eX P l1.toArray (Exit.then ((Code.region i2 l2.toArray false).wpIn (Fence.wide.inRound l) q P (Exit.inBlock id fun e _ w'=>e=.normal∧∃ M,bg C 0 ⟨[],ey 0 b1,(List.range k).map (I.length+·),I.length+k⟩ M #[] w')) (Exit.inBlock id fun e _ w'=>e=.normal∧∃ M,bg C 0 ⟨[],ey 0 b1,(List.range k).map (I.length+·),I.length+k⟩ M #[] w')) l1 ⟨tmps,[]⟩ w:=by
  refine pf (fun e a w' O=>?_) l1 _ _ h1;obtain⟨hd,st,⟨G2,ai⟩,rfl,aj⟩:=O;obtain⟨tm,d⟩:=a;have hd:d=C.ds:=hd;rw[J] at hd;subst hd;refine wpIn_region ?_;have h3:=aj tm w' ⟨G2,ai⟩;rw[J] at h3;have h4:eX P l2.toArray (Exit.inBlock id fun e _ w'=>e=.normal∧∃ M,bg C 0 ⟨[],ey 0 b1,(List.range k).map (I.length+·),I.length+k⟩ M #[] w') l2 ⟨tm,[]⟩ w':=by refine pf (fun e a w3 O=>?_) l2 _ _ h3;obtain⟨_,a7,⟨G3,a1⟩,rfl,a6⟩:=O;exact⟨rfl,a6.zH a1 N U⟩
  have:=yt (P:=P) (r:=l) (q:=q) l2 0 (by simp) ad _ _ h4;rw[show List.range l2.toArray.size=List.range' 0 l2.length by simp[List.range_eq_range']];exact this
 have:=yt (P:=P) (r:=l) (q:=q) l1 0 (by simp) X _ _ h2;rw[show List.range l1.toArray.size=List.range' 0 l1.length by simp[List.range_eq_range']];exact this
end
section
variable {P:Program} (T:cn P) {C:Ctx} {n:Nat} {Q:Exit→St→Prop} {c:Code}
variable {f f':List (Nat×A)} {bx bx':List (Nat×List A)} {lv:List Nat} {gen:Nat}
theorem zw [hnb:NB C 0] (s:Nat) {g:Nat} {l:List D} (hl:look f s=some (.ptr g 0)) (hb:aY bx g=some (l.map .d)) (a7:Nat.blt s n=true) (hf:j8 g [] f=f') (a8:j0 g [] bx=some bx')
 (h:W P C n c Q ⟨(s,.rowd l)::f',bx',lv,gen⟩):W P C n c Q ⟨f,bx,lv,gen⟩:=by
 subst hf;intro tmps w ⟨G,hs⟩;obtain⟨v,hv,O⟩:=hs.frame _ _ hl;obtain⟨b,cs,T',U,hw,h3,h4,h5⟩:=hs.box _ _ hb
 cases O with
 | ptr _ _ _ b' b6 ad hx=>
 have ad:G.box g=some b':=ad;rw[U] at ad;cases ad;let M:Gh:=⟨fun x=>if x=g then none else G.box x,G.own⟩;have b0:∀ b' o,bM C M b' o→bM C G b' o:=by
  rintro b' o (hp | ⟨I,hp⟩ | hp);·exact .inl hp
  ·simp only[M] at hp
   split at hp;·cases hp
   ·exact .inr (.inl ⟨I,hp⟩)
  ·exact .inr (.inr hp)
 have a6:∀ o,¬ bM C M b o:=by
  rintro o (hp | ⟨I,hp⟩ | ⟨I,len,cap,sz,ai,hp,_⟩ | ⟨I,N,bs,lim,hp,hm,_⟩)
  rotate_right
  ·exact(hs.sub I N bs b lim hp hm).2.1 g U
  ·have:=hs.xold b o hp
   rcases(hs.gbox g b U).2.2.1 with hm | hm
   ·omega
   ·exact this.2 hm
  ·simp only[M] at hp
   split at hp;·cases hp
   ·rename_i e;exact e (hs.inj I g b hp U)
  ·exact(hs.row I b len cap sz ai hp).2.1 g U
 have X:∀ {v:Value} {a:A},bu (bj C G gen w) v a→il g a=true→bu (bj C M gen w) v a:=fun h ha=>aL (E:=bj C G gen w) (E':=bj C M gen w) rfl (fun b o u hu hn=>⟨hu,fun hp=>hn (b0 b o hp)⟩) (fun b h=>h) (fun I b b3 hb=>by show(if I=g then none else G.box I)=some b;rw[if_neg b3];exact hb) rfl rfl h ha;have b4:bg C n ⟨j8 g [] f,bx',lv,gen⟩ M tmps w:=by
  refine { size:=hs.size,frame:=?_,box:=?_,gbox:=?_,inj:=?_,live:=hs.live,gown:=hs.gown,row:=?_,mrow:=?_,sub:=?_,gcell:=fun I N J=>(by simp only[M] at J;split at J <;> first | (cases J;done) | exact hs.gcell I N J),xold:=hs.xold,kold:=hs.kold,lent:=?_,fr:=hs.fr }
  ·intro t a ha
   obtain⟨h1,h2,_⟩:=lE ha;obtain⟨v,hv,O⟩:=hs.frame t a h1;exact⟨v,hv,X O h2⟩
  ·intro I cells hc
   obtain⟨h1,h2,h6,_⟩:=lF a8 hc;obtain⟨N,b5,T2,p1,p2,p3,p4,p5⟩:=hs.box I cells h1;exact⟨N,b5,T2,by simp only[M];rw[if_neg h6];exact p1,p2,p3,p4,fun i u a hu ha=>X (p5 i u a hu ha) (fJ h2 a (List.mem_of_getElem? ha))⟩
  ·intro I N J
   simp only[M] at J;split at J;·cases J
   ·exact hs.gbox I N J
  ·intro g1 g2 N h1 h2
   simp only[M] at h1 h2;split at h1;·cases h1
   ·split at h2
    ·cases h2
    ·exact hs.inj g1 g2 N h1 h2
  ·intro I N len cap sz ai O
   obtain⟨p1,p2,p3⟩:=hs.row I N len cap sz ai O;refine⟨p1,fun g2 h2=>?_,p3⟩;simp only[M] at h2;split at h2;·cases h2
   ·exact p2 g2 h2
  ·intro I N bs O
   obtain⟨p1,p2,p3⟩:=hs.mrow I N bs O;refine⟨p1,fun g2 h2=>?_,p3⟩;simp only[M] at h2;split at h2;·cases h2
   ·exact p2 g2 h2
  ·intro I N bs c lim O hm
   obtain⟨p1,p2,p3⟩:=hs.sub I N bs c lim O hm;refine⟨p1,fun g2 h2=>?_,p3⟩;simp only[M] at h2;split at h2;·cases h2
   ·exact p2 g2 h2
  ·intro i N J
   have:=hnb.h;have hi:=(List.getElem?_eq_some_iff.1 J).1;omega
 have a1:bu (bj C M gen w) v (.rowd l):=by
  rw[hx];refine .rowd b 0 l (fun j=>cs[j]?.getD default) (fun j hj=>?_) (fun j x hx=>?_)
  ·have aj:j < cs.size:=by rw[h3];simpa using hj
   have e1:cs[j]? = some cs[j]:=by simp[aj]
   refine⟨?_,a6 _⟩;show cellAt w b (0+j)=_;rw[Nat.zero_add,cz hw,e1];rfl
  ·have aj:j < cs.size:=by rw[h3];simpa using (List.getElem?_eq_some_iff.1 hx).1
   have e1:cs[j]? = some cs[j]:=by simp[aj]
   have:=X (h5 j _ (.d x) e1 (by simp[hx])) rfl;rw[e1];show bE w _ cs[j] x;generalize cs[j]=u at this;cases this with | d hd=>exact hd
 refine h tmps w ⟨M,?_⟩;have:=b4.set (d:=s) (Nat.le_of_ble_eq_true a7) a1;rwa [eM hv] at this
end
end Go.Ab
namespace Go.Ab
open Go.RowKit Go.MapKept
theorem bu.FA {E E':En} {g:Nat} (hw:E.w=E'.w) (hc:∀ b o u,cellAt E.w b o=some u→¬ E.pv b o→cellAt E'.w b o=some u∧¬ E'.pv b o) (hold:∀ b,E.old b→E'.old b) (hb:∀ M b,M≠g→E.box M=some b→E'.box M=some b) (ho:∀ M r,M < E.gen→E'.own M=some r→E.own M=some r) (U:E.gen≤E'.gen)
 {v:Value} {a:A} (h:bu E v a) (ha:il g a=true):bu E' v a:=by
 have aj:∀ {M},(!Nat.beq M g)=true→M≠g:=fun h e=>by subst e;simp at h
 have X:∀ b o u,cellAt E.w b o=some u→¬ E.pv b o→cellAt E.w b o=some u∧¬ E'.pv b o:=fun b o u h1 h2=>⟨h1,(hc b o u h1 h2).2⟩
 induction h with
 | any x=>exact .any x
 | d hd=>exact .d (hd.mono hc)
 | ag vs l hs hd=>exact .ag vs l hs (fun i u x h1 h2=>(hd i u x h1 h2).mono hc)
 | own x M es hd J hr=>exact .own x M es (hd.mono hc) (Nat.lt_of_lt_of_le J U) (fun r N=>hr r (ho _ r J N))
 | agg vs l hs hone _ ih=>exact .agg vs l hs hone (fun i u x hu O=>ih i u x hu O (fJ (by simpa [il] using ha) x (List.mem_of_getElem? O)))
 | tup vs l hs _ ih=>exact .tup vs l hs (fun i u x hu O=>ih i u x hu O (fJ (by simpa [il] using ha) x (List.mem_of_getElem? O)))
 | rowd b off l u ai hd=>exact .rowd b off l u (fun j hj=>hc _ _ _ (ai j hj).1 (ai j hj).2) (fun j x O=>(hd j x O).mono hc)
 | row b off l u ai _ ih=>exact .row b off l u (fun j hj=>⟨by rw[←hw];exact(ai j hj).1,hold _ (ai j hj).2.1,(ai j hj).2.2⟩) (fun j x O=>ih j x O (fJ (by simpa [il] using ha) x (List.mem_of_getElem? O)))
 | ptr x M off b J ad hp=>exact .ptr x M off b (Nat.lt_of_lt_of_le J U) (hb M b (aj (by simpa [il] using ha)) ad) hp
 | xs x M es J h1 O=>exact .xs x M es (Nat.lt_of_lt_of_le J U) h1 (fun r N=>hw▸(O r (ho _ r J N)).dK X)
 | xp x M i off l J h1 O=>exact .xp x M i off l (Nat.lt_of_lt_of_le J U) h1 (fun r N=>hw▸(O r (ho _ r J N)).dK X)
 | mp x M es J h1 O=>exact .mp x M es (Nat.lt_of_lt_of_le J U) h1 (fun r N=>hw▸(O r (ho _ r J N)).dK X)
 | mq x M es J h1 O=>exact .mq x M es (Nat.lt_of_lt_of_le J U) h1 (fun r N=>hw▸(O r (ho _ r J N)).dK X)
 | mo x M es hole ob J h1 O=>exact .mo x M es hole ob (Nat.lt_of_lt_of_le J U) h1 (fun r N=>hw▸(O r (ho _ r J N)).dK X)
 | ni t x=>exact .ni t x
 | fl x es hd a6=>exact .fl x es (hd.mono hc) a6
 | bf x M T s J h1 O=>exact .bf x M T s (Nat.lt_of_lt_of_le J U) h1 (fun r N=>hw▸O r (ho _ r J N))
 | np x M T b J ad hT u hp=>exact .np x M T b (Nat.lt_of_lt_of_le J U) (hb M b (aj (by simpa [il] using ha)) ad) (hw▸hT) u hp
 | sb x M n c b J ad hn hp=>exact .sb x M n c b (Nat.lt_of_lt_of_le J U) (hb M b (aj (by simpa [il] using ha)) ad) hn hp
 | fx x u M es ou O J hu a7=>exact .fx x u M es ou (O.mono hc) (Nat.lt_of_lt_of_le J U) (fun r N=>hw▸(hu r (ho _ r J N)).dK X) a7
 | ol x u g1 E1 M es O a1 a8 J hu=>exact .ol x u g1 E1 M es (O.mono hc) (Nat.lt_of_lt_of_le a1 U) (fun r N=>a8 r (ho _ r a1 N)) (Nat.lt_of_lt_of_le J U) (fun r N=>hw▸(hu r (ho _ r J N)).dK X)
 | gi x M I J O=>exact .gi x M I (Nat.lt_of_lt_of_le J U) (fun r N=>hw▸(O r (ho _ r J N)).dK X)
 | ow x v M es hd J hr=>exact .ow x v M es (hd.mono hc) (Nat.lt_of_lt_of_le J U) (fun r N=>hr r (ho _ r J N))
 | lk x M n c b v J ad hn hp=>exact .lk x M n c b v (Nat.lt_of_lt_of_le J U) (hb M b (aj (by simpa [il] using ha)) ad) hn hp
 | clo f vs l hs _ ih=>exact .clo f vs l hs (fun i u x hu O=>ih i u x hu O (fJ (by simpa [il] using ha) x (List.mem_of_getElem? O)))
 | bnd f vs l hs _ ih=>exact .bnd f vs l hs (fun i u x hu O=>ih i u x hu O (fJ (by simpa [il] using ha) x (List.mem_of_getElem? O)))
section
variable {C:Ctx} {n:Nat} {G:Gh} {tmps:Array Value} {w:World}
variable {f:List (Nat×A)} {bx bx':List (Nat×List A)} {lv:List Nat} {gen:Nat}
theorem bg.xd (hs:bg C n ⟨f,bx,lv,gen⟩ G tmps w) (c1:C.bx=[]) {g b:Nat} {l:List D} (ad:G.box g=some b) (hb:aY bx g=some (l.map .d)) (b5:0 < l.length) (c6:j0 g [] bx=some bx') :
 ∃ N cs T,w.heap[b]? = some (.cells cs T (0,0))∧cs.size=l.length∧fe cs∧(∀ (j:Nat) (u:Value) (d:D),cs[j]? = some u→l[j]? = some d→bE w (bM C N) u d)∧N.own gen=some (.blk b 1 1 l.length 0)∧(∀ I,I≠gen→N.own I=G.own I) ∧
   (∀ b' o,bM C N b' o→bM C G b' o)∧bg C n ⟨j8 g [] f,bx',gen::lv,gen+1⟩ N tmps w:=by
 obtain⟨b0,cs,T',a8,hw,h3,h4,h5⟩:=hs.box _ _ hb;rw[ad] at a8;cases a8;simp only[List.length_map] at h3;let M:Nat→Option Row:=fun I=>if I=gen then some (.blk b 1 1 l.length 0) else G.own I;let N:Gh:=⟨fun x=>if x=g then none else G.box x,M⟩;have ai:∀ {I c len cap sz aj},M I=some (.blk c len cap sz aj)→(I=gen∧c=b∧len=1∧cap=1∧sz=l.length∧aj=0)∨(I≠gen∧G.own I=some (.blk c len cap sz aj)):=by
  intro I c len cap sz aj J;simp only[M] at J;split at J
  ·rename_i e
   simp only[Option.some.injEq,Row.blk.injEq] at J;exact .inl ⟨e,J.1.symm,J.2.1.symm,J.2.2.1.symm,J.2.2.2.1.symm,J.2.2.2.2.symm⟩
  ·rename_i e;exact .inr ⟨e,J⟩
 have a6:∀ {I O a1},M I=some (.mp O a1)→G.own I=some (.mp O a1):=by
  intro I O a1 J;simp only[M] at J;split at J;·cases J
  ·exact J
 have b4:∀ b' o,bM C N b' o→bM C G b' o:=by
  rintro b' o (hp | ⟨I,hp⟩ | ⟨I,b6,ch,c7,cj,hp,hl'⟩ | ⟨I,O,a1,lim,hp,hm,hl'⟩);·exact .inl hp
  ·simp only[N] at hp
   split at hp;·cases hp
   ·exact .inr (.inl ⟨I,hp⟩)
  ·rcases ai hp with ⟨_,rfl,_⟩ | ⟨_,e⟩
   ·exact .inr (.inl ⟨g,ad⟩)
   ·exact .inr (.inr (.inl ⟨I,b6,ch,c7,cj,e,hl'⟩))
  ·exact .inr (.inr (.inr ⟨I,O,a1,lim,a6 hp,hm,hl'⟩))
 have a7:∀ {v:Value} {a:A},bu (bj C G gen w) v a→il g a=true→bu (bj C N (gen+1) w) v a:=fun h ha=>
  bu.FA (E:=bj C G gen w) (E':=bj C N (gen+1) w) rfl (fun b o u hu hn=>⟨hu,fun hp=>hn (b4 b o hp)⟩) (fun b h=>h) (fun I b df hb=>by show(if I=g then none else G.box I)=some b;rw[if_neg df];exact hb)
   (fun I r X J=>by have J:M I=some r:=J;have X:I < gen:=X;simp only[M,if_neg (Nat.ne_of_lt X)] at J;exact J) (Nat.le_succ gen) h ha
 refine⟨N,cs,T',hw,h3,h4,fun j u d hu hd=>?_,by simp[N,M],fun I X=>by simp[N,M,X],b4,?_⟩
 ·have:=a7 (h5 j u (.d d) hu (by simp[hd])) rfl
  cases this with | d hd=>exact hd
 ·refine { size:=hs.size,frame:=?_,box:=?_,gbox:=?_,inj:=?_,live:=?_,gown:=?_,row:=?_,mrow:=?_,sub:=?_,gcell:=fun I O U=>(by simp only[N] at U;split at U <;> first | (cases U;done) | exact hs.gcell I O U),xold:=hs.xold,kold:=hs.kold,lent:=?_,fr:=hs.fr }
  ·intro t a ha
   obtain⟨h1,h2,_⟩:=lE ha;obtain⟨v,hv,J⟩:=hs.frame t a h1;exact⟨v,hv,a7 J h2⟩
  ·intro I cells hc
   obtain⟨h1,h2,h6,_⟩:=lF c6 hc;obtain⟨O,di,T2,p1,p2,p3,p4,p5⟩:=hs.box I cells h1;exact⟨O,di,T2,by simp only[N];rw[if_neg h6];exact p1,p2,p3,p4,fun i u a hu ha=>a7 (p5 i u a hu ha) (fJ h2 a (List.mem_of_getElem? ha))⟩
  ·intro I O U
   simp only[N] at U;split at U;·cases U
   ·obtain⟨q1,q2⟩:=hs.gbox I O U
    exact⟨Nat.lt_succ_of_lt q1,q2⟩
  ·intro g1 g2 O h1 h2
   simp only[N] at h1 h2;split at h1;·cases h1
   ·split at h2
    ·cases h2
    ·exact hs.inj g1 g2 O h1 h2
  ·intro I X
   rcases List.mem_cons.1 X with rfl | X
   ·exact⟨_,by simp[N,M];rfl⟩
   ·obtain⟨r,J⟩:=hs.live I X
    exact⟨r,by simp only[N,M,if_neg (Nat.ne_of_lt (hs.gown I r J))];exact J⟩
  ·intro I r J
   have J:M I=some r:=J;simp only[M] at J;split at J;·simp only;omega
   ·exact Nat.lt_succ_of_lt (hs.gown I r J)
  ·intro I O len cap sz aj J
   rcases ai J with ⟨e,rfl,rfl,rfl,rfl,rfl⟩ | ⟨e,J⟩
   ·refine⟨(hs.gbox g _ ad).2.2,fun g2 h2=>?_,fun g2 cl cq dj cx h2=>?_,cs,T',hw,by rw[h3];simp,Nat.le_refl _,by simp[maxLen],b5,by decide,Nat.zero_le _,h4⟩
    ·simp only[N] at h2
     split at h2;·cases h2
     ·rename_i e2;exact e2 (hs.inj _ _ _ h2 ad)
    ·rcases ai h2 with ⟨e2,_⟩ | ⟨_,e2⟩
     ·rw[e,e2]
     ·exact absurd ad ((hs.row _ _ _ _ _ _ e2).2.1 g)
   ·obtain⟨p1,p2,p3,p4⟩:=hs.row I O len cap sz aj J
    refine⟨p1,fun g2 h2=>?_,fun g2 cl cq dj cx h2=>?_,p4⟩
    ·simp only[N] at h2
     split at h2;·cases h2
     ·exact p2 g2 h2
    ·rcases ai h2 with ⟨_,rfl,_⟩ | ⟨_,e2⟩
     ·exact absurd ad (p2 g)
     ·exact p3 _ _ _ _ _ e2
  ·intro I O bs J
   obtain⟨p1,p2,p3,p4⟩:=hs.mrow I O bs (a6 J);refine⟨p1,fun g2 h2=>?_,fun g2 a1 h2=>p3 g2 a1 (a6 h2),p4⟩;simp only[N] at h2;split at h2;·cases h2
   ·exact p2 g2 h2
  ·intro I O bs c lim J hm
   obtain⟨p1,p2,p3,p4,p5⟩:=hs.sub I O bs c lim (a6 J) hm;refine⟨p1,fun g2 h2=>?_,fun g2 len cap sz aj h2=>?_,fun g2 b3 dt cy h2 dx=>p4 g2 b3 dt cy (a6 h2) dx,p5⟩
   ·simp only[N] at h2
    split at h2;·cases h2
    ·exact p2 g2 h2
   ·rcases ai h2 with ⟨_,rfl,_⟩ | ⟨_,e2⟩
    ·exact p2 g ad
    ·exact p3 _ _ _ _ _ e2
  ·intro i O U
   rw[c1] at U;simp at U
end
def jD {α:Type} (kf:α→Value) (l:List (α×Option (List D))):List (Value×Option (List D)):=l.map fun p=>(kf p.1,p.2)
theorem CN {α:Type} {kf:α→Value} {l:List (α×Option (List D))} {i:Nat} {k:Value} {o:Option (List D)} (h:(jD kf l)[i]? = some (k,o)):∃ a,l[i]? = some (a,o)∧k=kf a:=by grind[jD,Option.map_eq_some_iff,Prod.mk.injEq]
theorem zY {α:Type} {kf:α→Value} {l:List (α×Option (List D))} {k:Value} {o:Option (List D)} (h:(k,o)∈jD kf l):∃ a,(a,o)∈l∧k=kf a:=by obtain⟨i,hi⟩:=List.mem_iff_getElem?.1 h;obtain⟨a,I,e⟩:=CN hi;grind
structure qH {α:Type} (w:World) (pv:Nat→Nat→Prop) (b:Nat) (bs:List (Nat×Nat)) (kf:α→Value) (l:List (α×Option (List D))) (me:Array MapEntry) (clock:Nat) (ps:Value→Nat) (l2:List (α×Value)):Prop where
 hb:w.heap[b]? = some (.map me clock)
 st:Stamped me clock
 mi:iB w pv kf D.v me l2
 ln:l2.length=l.length
 ks:∀ (i:Nat) (p:α×Value) (q:α×Option (List D)),l2[i]? = some p→l[i]? = some q→p.1=q.1
 inj:∀ (a a':α) (x x':List D),(a,some x)∈l→(a',some x')∈l→ps (kf a)=ps (kf a')→kf a=kf a'
 at_:∀ (i:Nat) (m:MapEntry) (a:α) (x:List D),me[i]? = some m→l[i]? = some (a,some x)→m.val=.pointer (some ⟨ps (kf a),0,none⟩)∧(ps (kf a),0)∈bs ∧
  ∃ cur T,w.heap[ps (kf a)]? = some (.cells cur T (0,0))∧cur.size=x.length∧fe cur∧∀ (j:Nat) (u:Value) (d:D),cur[j]? = some u→x[j]? = some d→bE w pv u d
theorem qH.of {α:Type} {kf:α→Value} {w:World} {pv:Nat→Nat→Prop} {b:Nat} {bs:List (Nat×Nat)} {v:Value} {l:List (α×Option (List D))} (h:pb w pv (.mp (some b) bs) v (jD kf l)):v=.map (some b)∧∃ I clock ps l2,qH w pv b bs kf l I clock ps l2:=by
 obtain⟨h1,I,clock,h2,h3,h4,ps,h5,N⟩:=h;have J:I.size=l.length:=by rw[h4];simp[jD]
 refine⟨h1,I,clock,ps,(l.zip I.toList).map fun p=>(p.1.1,p.2.val),h2,h3,⟨by simp[J],fun i m p hm hp=>?_⟩,by simp[J],fun i p q hp U=>?_,fun a a' x X q1 q2 q3=>?_,fun i m a x hm hx=>?_⟩
 ·have O:i < l.length:=by rw[←J];exact(Array.getElem?_eq_some_iff.1 hm).1
  have hl:l[i]? = some l[i]:=by simp[O]
  have M:(l.zip I.toList)[i]? = some (l[i],m):=by rw[List.getElem?_zip_eq_some];exact⟨hl,by simpa using hm⟩
  rw[List.getElem?_map,M] at hp;simp only[Option.map_some,Option.some.injEq] at hp;subst hp;obtain⟨q1,q2,q3,_⟩:=N i m (kf l[i].1) l[i].2 hm (by simp[jD,hl]);exact⟨q1,q2,.v _ q3⟩
 ·rw[List.getElem?_map,Option.map_eq_some_iff] at hp
  obtain⟨z,M,rfl⟩:=hp;rw[List.getElem?_zip_eq_some] at M;rw[U] at M;exact congrArg Prod.fst (Option.some.inj M.1).symm
 ·exact h5 _ _ x X (List.mem_map.2 ⟨_,q1,rfl⟩) (List.mem_map.2 ⟨_,q2,rfl⟩) q3
 ·exact(N i m (kf a) (some x) hm (by simp[jD,hx])).2.2.2 x rfl
theorem qH.to {α:Type} {kf:α→Value} {w:World} {pv:Nat→Nat→Prop} {b:Nat} {bs:List (Nat×Nat)} {l:List (α×Option (List D))} {M:Array MapEntry} {clock:Nat} {ps:Value→Nat} {l2:List (α×Value)} (h:qH w pv b bs kf l M clock ps l2):pb w pv (.mp (some b) bs) (.map (some b)) (jD kf l):=by
 refine⟨rfl,M,clock,h.hb,h.st,by rw[h.mi.1,h.ln];simp[jD],ps,fun k k' x U q1 q2 q3=>?_,fun i m k o hm X=>?_⟩
 ·obtain⟨a,I,rfl⟩:=zY q1
  obtain⟨a',N,rfl⟩:=zY q2;exact h.inj a a' x U I N q3
 ·obtain⟨a,I,rfl⟩:=CN X
  have O:i < l2.length:=by rw[h.ln];exact(List.getElem?_eq_some_iff.1 I).1
  have J:l2[i]? = some l2[i]:=by simp[O]
  obtain⟨q1,q2,q3⟩:=h.mi.2 i m _ hm J;have e:=h.ks i _ _ J I;rw[e] at q1 q2;refine⟨q1,q2,?_,fun x hx=>?_⟩
  ·generalize m.val=y at q3
   cases q3 with | v _ hok=>exact hok
  ·subst hx
   exact h.at_ i m a x hm I
section
variable {P:Program} (T:cn P) {C:Ctx} {n:Nat} {ops:Array Oper} {Q:Exit→St→Prop} {rest:List Oper}
variable {f f':List (Nat×A)} {bx bx':List (Nat×List A)} {lv:List Nat} {gen:Nat} {d:Nat} {ty:TypeId} {pos:String} {af:Array Edge} {dst:Option Nat} {c:Code}
variable {α:Type} [DecidableEq α] {kf:α→Value}
omit [DecidableEq α] in
theorem bg.Bl {st:St} {G:Gh} {tmps:Array Value} {w:World} (hs:bg C n st G tmps w) {v:Value} {g:Nat} {l:List (α×Option (List D))} (U:bu (bj C G st.gen w) v (.mq g (jD kf l))) (O:g∈st.lv) :
 ∃ b bs M clock ps l2,G.own g=some (.mp (some b) bs)∧v=.map (some b)∧qH w (bM C G) b bs kf l M clock ps l2:=by
 obtain⟨r,J⟩:=hs.live g O
 cases U with
 | mq _ _ _ X h1 N=>
 have I:=N r J
 cases r with
 | nil=>exact I.elim
 | zero b=>exact I.elim
 | blk b len cap sz ad=>exact I.elim
 | mp b bs=>
   cases b with
   | none=>exact I.elim
   | some b=>
   obtain⟨h2,M,clock,ps,l2,h3⟩:=qH.of I;exact⟨b,bs,M,clock,ps,l2,J,h2,h3⟩
theorem Ib {t:TypeId} (hd:Nat.blt d n=true) (h:WO P C n ops Q rest ⟨(d,.mq gen [])::f,bx,gen::lv,gen+1⟩):WO P C n ops Q (⟨some d,.makeMap t none,ty,pos,af,none⟩::rest) ⟨f,bx,lv,gen⟩:=by
 refine WO.step (st:=⟨f,bx,lv,gen⟩) rfl fun tmps w ⟨G,hs⟩=>?_;obtain⟨U,N,J⟩:=hs.w9;refine cL (v:=.map (some w.heap.size)) (w':=w.alloc (.map #[] 0)) ?_ ⟨_,⟨U,N.put (dst:=some d) (cJ (dst:=some d) hd) ?_⟩,h⟩
 ·unfold execOp
  show Sem.run P _ w=.ok _ _;simp[Instr.makeMap,Sem.run_bind,Result.andThen]
 ·cases J with
  | mp _ _ _ O h1 M=>
  refine .mq _ _ _ O h1 (fun r J=>?_);have I:=M r J
  cases r with
  | nil=>exact I.elim
  | zero b=>exact I.elim
  | blk b len cap sz ad=>exact I.elim
  | mp b bs=>
    cases b with
    | none=>exact I.elim
    | some b=>
    obtain⟨q1,X,clock,q2,q3,q4,_⟩:=I;exact⟨q1,X,clock,q2,q3,q4,fun _=>0,fun _ _ _ _ h=>(by cases h),fun i m k x hm hk=>(by simp at hk)⟩
open Classical in
theorem Fy [hnb:NB C 0] (s:Nat) {mt k e:Nat} {td:cI} {m kx x:Operand} {g gb:Nat} {l:List (α×Option (List D))} {a:α} {y:List D} (hm:av f m=some (.mq g (jD kf l))) (hl:look f s=some (.mq g (jD kf l))) (hk:av f kx=some (.d (.v (kf a)))) (hx:av f x=some (.ptr gb 0)) (hb:aY bx gb=some (y.map .d)) (hy:Nat.blt 0 y.length=true)
 (ht:aY T.l mt=some td) (fo:td.k=.map k e) (df:jG P k kf) (di:(lv.any fun h=>Nat.beq h g)=true) (fs:Nat.blt s n=true) (hn:(l.map (·.1)).Nodup) (b3:a∉l.map (·.1)) (hf:j8 gb [] f=f') (ft:j0 gb [] bx=some bx')
 {dj:List (Value×Option (List D))} (gd:jD kf (l++[(a,some y)])=dj) {lv':List Nat} (gj:(gen+1)::bD lv g=lv')
 (h:WO P C n ops Q rest ⟨(s,.mq (gen+1) dj)::f',bx',lv',gen+2⟩):WO P C n ops Q (⟨none,.mapUpdate mt m kx x,ty,pos,af,none⟩::rest) ⟨f,bx,lv,gen⟩:=by
 subst gd;subst gj;subst hf;refine WO.step (st:=⟨f,bx,lv,gen⟩) rfl fun tmps w ⟨G,hs⟩=>?_;have gm:C.bx=[]:=List.eq_nil_of_length_eq_zero hnb.h;have dt:=hs.av hm;have aj:=hs.av hk;have dx:=hs.av hx;obtain⟨vs,gq,ha⟩:=hs.frame s _ hl;generalize hv:Act.eval ⟨tmps,[]⟩ m=v at dt;generalize hg:Act.eval ⟨tmps,[]⟩ kx=vk at aj;generalize hh:Act.eval ⟨tmps,[]⟩ x=vx at dx;obtain⟨b,bs,me,clock,ps,l2,a6,rfl,I⟩:=hs.Bl dt (dw di);obtain⟨N,O,_,_,_,_,en,rfl,_⟩:=hs.Bl ha (dw di);obtain⟨rfl,rfl⟩:N=b∧O=bs:=by have:=en.symm.trans a6;simpa using this
 cases aj with | d aj=>cases aj with | v _ hok=>
 cases dx with
 | ptr _ _ _ c hI a7 ec=>
 have a7:G.box gb=some c:=a7;have a8:l2.map (·.1)=l.map (·.1):=by
  refine List.ext_getElem? fun i=>?_;rw[List.getElem?_map,List.getElem?_map];rcases Nat.lt_or_ge i l2.length with hi | hi
  ·have h1:l2[i]? = some l2[i]:=by simp[hi]
   have ho:i < l.length:=by rw[←I.ln];exact hi
   have h2:l[i]? = some l[i]:=by simp[ho]
   rw[h1,h2];simp only[Option.map_some,I.ks i _ _ h1 h2]
  ·rw[List.getElem?_eq_none hi,List.getElem?_eq_none (by rw[←I.ln];exact hi)]
   rfl
 have cy:∀ p∈l2,p.1≠a:=fun p hp e=>b3 (by rw[←a8,←e];exact List.mem_map.2 ⟨p,hp,rfl⟩);obtain⟨M,J,e4,e5,U,b4⟩:=sa (P:=P) T (y:=vx) (vf:=D.v) ht fo df I.hb I.st I.mi (by rw[a8];exact hn) a hok (v:=vx) (.v _ (by rw[ec];rfl));have h0:(execOp (Act.eval ⟨tmps,[]⟩) ⟨none,.mapUpdate mt m kx x,ty,pos,af,none⟩).run P w=.ok .skip { w with heap:=w.heap.setIfInBounds N (.map M J) }:=by unfold execOp;show Sem.run P _ w=.ok _ _;simp only[hv,hg,hh,Sem.run_bind,e4,Result.andThen_ok,Sem.run_pure]
 rw[iF cy] at U b4;have b5:=hs.gown g _ a6;obtain⟨G1,cs,T1,c1,c2,c3,c4,c5,c6,c7,hz⟩:=hs.xd gm a7 hb (Nat.le_of_ble_eq_true hy) ft;have e6:G1.own g=some (.mp N O):=by rw[c6 g (Nat.ne_of_lt b5)];exact a6
 obtain⟨b6,ch⟩:=heap_set (o':=Obj.map M J) I.hb;obtain⟨G',hJ,hA,hle,hD⟩:=hz.join (w':={ w with heap:=w.heap.setIfInBounds N (.map M J) }) (g:=g) (g2:=gen) (bs':=(c,0)::O) e6 c5 (Ne.symm (Nat.ne_of_lt b5)) (fun p hp=>by
  rcases List.mem_cons.1 hp with rfl | hp
  ·exact .inr ⟨_,_,_,rfl⟩
  ·exact .inl hp) (fun c hc=>ch c (fun e=>hc (by rw[e]))) (fun c hc=>⟨M,J,by cases hc;exact b6⟩) (by simp) rfl rfl rfl (bD lv g) (fun g' hE=>by
  obtain⟨t1,t2⟩:=cf hE;obtain⟨r,hr⟩:=hs.live g' t1;have:=hs.gown g' r hr;exact⟨List.mem_cons_of_mem _ t1,t2,by simp only at this;omega⟩)
 have X:∀ {c:Nat} {cs:Array Value} {T:TypeId} {ff:Nat×Nat},w.heap[c]? = some (.cells cs T ff)→(w.heap.setIfInBounds N (.map M J))[c]? = some (.cells cs T ff):=fun {c cs T ff} hc=>by rw[ch c (fun e=>by rw[e,I.hb] at hc;cases hc)];exact hc
 have cj:∀ {v:Value} {d:D},bE w (bM C G1) v d→bE { w with heap:=w.heap.setIfInBounds N (.map M J) } (bM C G') v d:=fun hd=>hd.mono fun b o u hu hp=>hle.cell b o u hu hp;have cl:∀ {v:Value} {d:D},bE w (bM C G) v d→bE { w with heap:=w.heap.setIfInBounds N (.map M J) } (bM C G') v d:=fun hd=>cj (hd.mono fun b o u hu hp=>⟨hu,fun hF=>hp (c7 b o hF)⟩);have b0:∀ lim,(c,lim)∉O:=fun lim hm=>(hs.sub g N O c lim a6 hm).2.1 gb a7;have ed:∀ (a':α) (x':List D),(a',some x')∈l→(ps (kf a'),0)∈O:=fun a' x' hm=>by
  obtain⟨i,hi⟩:=List.mem_iff_getElem?.1 hm;have hG:i < me.size:=by rw[I.mi.1,I.ln];exact(List.getElem?_eq_some_iff.1 hi).1
  exact(I.at_ i me[i] a' x' (by simp[hG]) hi).2.1
 have ad:∀ (a':α) (o:Option (List D)),(a',o)∈l→kf a'≠kf a:=fun a' o hm e=>b3 (by rw[←df.inj _ _ e];exact List.mem_map.2 ⟨_,hm,rfl⟩);have fj:qH { w with heap:=w.heap.setIfInBounds N (.map M J) } (bM C G') N ((c,0)::O) kf (l++[(a,some y)]) M J (fun k=>if k=kf a then c else ps k) (l2++[(a,vx)]):=by
  refine⟨b6,e5,⟨U.1,fun i m p hm hp=>?_⟩,by simp[I.ln],fun i p q hp hq=>?_,fun a1 a2 x1 x2 q1 q2 q3=>?_,fun i mm a1 x1 cq hp=>?_⟩
  ·obtain⟨q1,q2,q3⟩:=U.2 i m p hm hp
   exact⟨q1,q2,cl q3⟩
  ·rcases Nat.lt_or_ge i l2.length with hi | hi
   ·rw[List.getElem?_append_left hi] at hp
    rw[List.getElem?_append_left (by rw[←I.ln];exact hi)] at hq;exact I.ks i p q hp hq
   ·rw[List.getElem?_append_right hi] at hp
    rw[List.getElem?_append_right (by rw[←I.ln];exact hi),←I.ln] at hq;generalize i - l2.length=j at hp hq
    cases j with
    | zero=>simp only[List.getElem?_cons_zero,Option.some.injEq] at hp hq;subst hp;subst hq;rfl
    | succ j=>simp at hp
  ·rcases List.mem_append.1 q1 with q1 | q1 <;> rcases List.mem_append.1 q2 with q2 | q2
   ·rw[if_neg (ad _ _ q1),if_neg (ad _ _ q2)] at q3
    exact I.inj a1 a2 x1 x2 q1 q2 q3
   ·simp only[List.mem_singleton,Prod.mk.injEq] at q2
    rw[if_neg (ad _ _ q1),q2.1,if_pos rfl] at q3;exact absurd (q3▸ed a1 x1 q1) (b0 0)
   ·simp only[List.mem_singleton,Prod.mk.injEq] at q1
    rw[if_neg (ad _ _ q2),q1.1,if_pos rfl] at q3;exact absurd (q3▸ed a2 x2 q2) (b0 0)
   ·simp only[List.mem_singleton,Prod.mk.injEq] at q1 q2
    rw[q1.1,q2.1]
  ·rcases Nat.lt_or_ge i l.length with hi | hi
   ·rw[List.getElem?_append_left hi] at hp
    have ai:i < l2.length:=by rw[I.ln];exact hi
    have cx:(l2++[(a,vx)])[i]? = some l2[i]:=by rw[List.getElem?_append_left ai];simp[ai]
    have ei:=I.ks i _ _ (by simp[ai]:l2[i]? = some l2[i]) hp;rcases b4 i mm _ cq cx with ⟨e,_⟩ | ⟨_,m0,e1,e2,e3⟩
    ·have hH:a1=a:=by rw[e] at ei;exact ei.symm
     exact absurd (List.mem_map.2 ⟨_,List.mem_of_getElem? hp,hH⟩) b3
    ·obtain⟨r1,r2,cur,T2,r3,r4,r5,r6⟩:=I.at_ i m0 a1 x1 e1 hp
     rw[if_neg (ad _ _ (List.mem_of_getElem? hp))];exact⟨e3▸r1,List.mem_cons_of_mem _ r2,cur,T2,X r3,r4,r5,fun j u d hu hd=>cl (r6 j u d hu hd)⟩
   ·rw[List.getElem?_append_right hi] at hp
    have ai:l2.length≤i:=by rw[I.ln];exact hi
    have ej:i < (l2++[(a,vx)]).length:=by rw[←U.1];exact(Array.getElem?_eq_some_iff.1 cq).1
    have e0:i=l.length:=by rw[List.length_append,I.ln] at ej;simp at ej;omega
    subst e0;simp only[Nat.sub_self,List.getElem?_cons_zero,Option.some.injEq,Prod.mk.injEq] at hp;obtain⟨rfl,rfl⟩:=hp;have cx:(l2++[(a,vx)])[l.length]? = some (a,vx):=by rw[List.getElem?_append_right ai,I.ln];simp
    rw[if_pos rfl];refine⟨?_,List.mem_cons_self,cs,T1,X c1,c2,c3,fun j u d hu hd=>cj (c4 j u d hu hd)⟩;rcases b4 _ mm _ cq cx with ⟨_,e2⟩ | ⟨e,_⟩
    ·rw[e2,ec]
    ·exact absurd rfl e
 refine iE h0 ⟨_,⟨G',?_⟩,h⟩;have:=hD.set (d:=s) (Nat.le_of_ble_eq_true fs) (v:=.map (some N)) (a:=.mq (gen+1) (jD kf (l++[(a,some y)]))) (.mq _ _ _ (by simp[bj]) rfl (fun r hr=>by have:G'.own (gen+1)=some r:=hr;rw[hA] at this;cases this;exact fj.to));rwa [eM gq] at this
end
theorem Dr {α β:Type} [DecidableEq α] {l:List (α×β)} {i:Nat} {a:α} {v:β} (I:(l.map (·.1)).Nodup) (h:l[i]? = some (a,v)):cb l a=some v:=by
 induction l generalizing i with
 | nil=>simp at h
 | cons p r J=>rw[List.map_cons,List.nodup_cons] at I;rw[eW];grind
section
variable {P:Program} (T:cn P) {C:Ctx} {n:Nat} {ops:Array Oper} {Q:Exit→St→Prop} {rest:List Oper}
variable {f f':List (Nat×A)} {bx bx':List (Nat×List A)} {lv:List Nat} {gen:Nat} {d:Nat} {ty:TypeId} {pos:String} {af:Array Edge} {dst:Option Nat} {c:Code}
variable {α:Type} [DecidableEq α] {kf:α→Value}
theorem DN (s i:Nat) {mt k e:Nat} {td ed:cI} {m kx:Operand} {g:Nat} {l:List (α×Option (List D))} {a:α} {y:List D} {zx:Value} (hd:Nat.blt d n=true) (hm:av f m=some (.mq g (jD kf l))) (hl:look f s=some (.mq g (jD kf l))) (hk:av f kx=some (.d (.v (kf a)))) (hy:Nat.blt 0 y.length=true)
 (ht:aY T.l mt=some td) (e0:td.k=.map k e) (he:aY T.l e=some ed) (b3:jG P k kf) (b4:(lv.any fun h=>Nat.beq h g)=true) (e1:ed.z=[zx]) (e2:mj ed.k=true) (e3:dd zx=true) (e4:Nat.blt s n=true) (hn:(l.map (·.1)).Nodup) (hi:l[i]? = some (a,some y))
 {b5:List (Value×Option (List D))} (e5:jD kf (l.set i (a,none))=b5) {lv':List Nat} (e6:gen::bD lv g=lv')
 (h:WO P C n ops Q rest ⟨(d,.tup [.ptr (gen+2) 0,.d (.v (.bool true))])::(s,.mq gen b5)::f,(gen+2,y.map .d)::bx,lv',gen+3⟩):WO P C n ops Q (⟨some d,.lookup mt m kx true,ty,pos,af,none⟩::rest) ⟨f,bx,lv,gen⟩:=by
 subst e5;subst e6;refine WO.step (st:=⟨f,bx,lv,gen⟩) rfl fun tmps w ⟨G,hs⟩=>?_;have b6:=hs.av hm;have U:=hs.av hk;obtain⟨vs,ff,fj⟩:=hs.frame s _ hl;generalize hv:Act.eval ⟨tmps,[]⟩ m=v at b6;generalize fo:Act.eval ⟨tmps,[]⟩ kx=vk at U;obtain⟨b,bs,O,clock,ps,l2,ch,rfl,I⟩:=hs.Bl b6 (dw b4);obtain⟨b2,ad,_,_,_,_,dj,rfl,_⟩:=hs.Bl fj (dw b4);obtain⟨rfl,rfl⟩:b2=b∧ad=bs:=by have:=dj.symm.trans ch;simpa using this
 cases U with | d U=>cases U with | v _ hok=>
 have dt:=Nat.le_of_ble_eq_true hy;have X:l2.map (·.1)=l.map (·.1):=by
  refine List.ext_getElem? fun i=>?_;rw[List.getElem?_map,List.getElem?_map];rcases Nat.lt_or_ge i l2.length with hi | hi
  ·have h1:l2[i]? = some l2[i]:=by simp[hi]
   have fs:i < l.length:=by rw[←I.ln];exact hi
   have h2:l[i]? = some l[i]:=by simp[fs]
   rw[h1,h2];simp only[Option.map_some,I.ks i _ _ h1 h2]
  ·rw[List.getElem?_eq_none hi,List.getElem?_eq_none (by rw[←I.ln];exact hi)]
   rfl
 have ft:=(List.getElem?_eq_some_iff.1 hi).1;have ai:i < l2.length:=by rw[I.ln];exact ft
 have dx:i < O.size:=by rw[I.mi.1];exact ai
 have aj:O[i]? = some O[i]:=by simp[dx]
 have N:l2[i]? = some l2[i]:=by simp[ai]
 obtain⟨r1,r2,cur,T1,r3,r4,r5,r6⟩:=I.at_ i O[i] a y aj hi;obtain⟨q1,q2,q3⟩:=I.mi.2 i O[i] l2[i] aj N;have cj:l2[i].1=a:=I.ks i _ _ N hi;have ec:l2[i].2=.pointer (some ⟨ps (kf a),0,none⟩):=by rw[←r1];generalize O[i].val=z at q3;generalize l2[i].2=z2 at q3;cases q3;rfl
 have ei:cb l2 a=some (.pointer (some ⟨ps (kf a),0,none⟩)):=Dr (i:=i) (by rw[X];exact hn) (by rw[N,←ec,←cj]);obtain⟨u,h1,h2⟩:=oZ (P:=P) (vf:=D.v) (z:=zx) T ht e0 he b3 e1 e2 (.v _ e3) I.hb I.mi (by rw[X];exact hn) a true;rw[ei] at h1 h2;simp only[Option.getD_some] at h2;have hu:u=.pointer (some ⟨ps (kf a),0,none⟩):=by cases h2;rfl
 subst hu;generalize gb:ps (kf a)=c at *;have h0:(execOp (Act.eval ⟨tmps,[]⟩) ⟨some d,.lookup mt m kx true,ty,pos,af,none⟩).run P w=.ok (.value (.tuple #[.pointer (some ⟨c,0,none⟩),.bool true])) w:=by unfold execOp;show Sem.run P _ w=.ok _ _;simp only[hv,fo,Sem.run_bind,h1,Result.andThen_ok,Sem.run_pure];rfl
 obtain⟨G1,hA,gd,gj,hle,gm⟩:=hs.split ch (bs':=ad.filter fun q=>!Nat.beq q.1 c) (fun q J=>(List.mem_filter.1 J).1) (.blk c 1 1 y.length 0) (fun _ _ h=>by cases h) (fun c' len cap sz hD h=>by simp only[Row.blk.injEq] at h;obtain⟨rfl,rfl,rfl,rfl,rfl⟩:=h;exact⟨r2,fun q J e=>by have:=(List.mem_filter.1 J).2;rw[e] at this;simp at this,cur,T1,r3,by rw[r4];simp,Nat.le_refl _,by simp[maxLen],dt,by decide,Nat.zero_le _,r5⟩) (bD lv g) (fun g' M=>cf M);have a6:∀ {a':α} {x:List D},(a',some x)∈l.set i (a,none)→(a',some x)∈l∧a'≠a:=fun {a' x} hm=>by
  obtain⟨j,hj⟩:=List.mem_iff_getElem?.1 hm;rw[List.getElem?_set] at hj;split at hj;·simp at hj
  ·rename_i gq
   refine⟨List.mem_of_getElem? hj,fun e=>gq ?_⟩;have cl:=List.pairwise_iff_getElem.1 hn;have h6:(l.map (·.1))[i]? = some a:=by simp[hi]
   have h7:(l.map (·.1))[j]? = some a:=by simp[hj,e]
   obtain⟨cq,cx⟩:=List.getElem?_eq_some_iff.1 h6;obtain⟨cy,c1⟩:=List.getElem?_eq_some_iff.1 h7;rcases Nat.lt_trichotomy i j with ha | heq | hc
   ·exact absurd (cx.trans c1.symm) (cl i j cq cy ha)
   ·exact heq
   ·exact absurd (c1.trans cx.symm) (cl j i cy cq hc)
 have ej:qH w (bM C G1) b2 (ad.filter fun q=>!Nat.beq q.1 c) kf (l.set i (a,none)) O clock ps l2:=by
  refine⟨I.hb,I.st,I.mi.mono fun b o u hu hp=>hle.cell b o u hu hp,by rw[I.ln];simp,fun j p q hp J=>?_,fun a1 a2 x1 x2 m1 m2 m3=>I.inj a1 a2 x1 x2 (a6 m1).1 (a6 m2).1 m3,fun j mm a1 x1 hf hp=>?_⟩
  ·rw[List.getElem?_set] at J
   split at J
   ·rename_i e
    subst e;simp only[Option.some.injEq] at J;subst J;rw[N] at hp;cases hp;exact cj
   ·exact I.ks j p q hp J
  ·have c6:=a6 (List.mem_of_getElem? hp)
   have hg:l[j]? = some (a1,some x1):=by
    rw[List.getElem?_set] at hp;split at hp;·simp at hp
    ·exact hp
   obtain⟨t1,t2,en,T2,t3,t4,t5,t6⟩:=I.at_ j mm a1 x1 hf hg;refine⟨t1,List.mem_filter.2 ⟨t2,?_⟩,en,T2,t3,t4,t5,fun j u d hu hd=>(t6 j u d hu hd).mono fun b o u hu hp=>hle.cell b o u hu hp⟩
   cases J:Nat.beq (ps (kf a1)) c with
   | false=>rfl
   | true=>have e:=Nat.eq_of_beq_eq_true J;exact absurd (b3.inj _ _ (I.inj a1 a x1 y c6.1 (List.mem_of_getElem? hi) (by rw[e,gb]))) c6.2
 have c7:=gm.set (d:=s) (Nat.le_of_ble_eq_true e4) (v:=.map (some b2)) (a:=.mq gen (jD kf (l.set i (a,none)))) (.mq _ _ _ (by simp[bj]) rfl (fun r hr=>by have:G1.own gen=some r:=hr;rw[gd] at this;cases this;exact ej.to));rw[eM ff] at c7;have a7:∀ g'∈gen::bD lv g,g'∈gen::(gen+1)::bD lv g∧g'≠gen+1:=fun g' M=>by
  rcases List.mem_cons.1 M with rfl | M
  ·exact⟨List.mem_cons_self,by omega⟩
  ·obtain⟨t1,t2⟩:=cf M
   obtain⟨r,hr⟩:=hs.live g' t1;have:=hs.gown g' r hr;simp only at this;exact⟨List.mem_cons_of_mem _ (List.mem_cons_of_mem _ M),by omega⟩
 obtain⟨G2,df,hh⟩:=c7.C1 (g:=gen+1) (b:=c) (len:=1) (cap:=1) (sz:=y.length) gj (es:=[y]) (v:=.slice (some ⟨c,0,none⟩) 1 1) ⟨rfl,rfl,rfl,by simp,fun i j e d he hd=>by
  cases i with
  | zero=>
    simp only[List.getElem?_cons_zero,Option.some.injEq] at he;subst he;have ho:j < cur.size:=by rw[r4];exact(List.getElem?_eq_some_iff.1 hd).1
    have di:cur[j]? = some cur[j]:=by simp[ho]
    refine⟨cur[j],?_,(r6 j _ d di hd).mono fun b o u hu hp=>hle.cell b o u hu hp⟩;rw[Nat.zero_mul,Nat.zero_add,cz r3,di]
  | succ i=>simp at he⟩ (gen::bD lv g) a7
 have hz:sR [y] (1*y.length - 1*y.length)=y.map .d:=by simp[sR]
 rw[hz] at df;refine cL h0 ⟨_,⟨G2,df.put (dst:=some d) (cJ (dst:=some d) hd) (.tup _ _ rfl (fun j u x hu hx=>?_))⟩,h⟩
 match j with
 | 0=>
   simp at hu hx;subst hu;subst hx
   cases hh with
   | sb _ _ _ _ b0 hE a8 hF hp=>
   simp only[Value.slice.injEq,Option.some.injEq,Addr.mk.injEq] at hp;refine .ptr _ _ _ c (by show gen+2 < gen+3;omega) ?_ rfl;have a8:G2.box (gen+2)=some b0:=a8;show G2.box (gen+2)=some c;rw[a8,hp.1.1]
 | 1=>simp at hu hx;subst hu;subst hx;exact .d (.v _ rfl)
 | j+2=>simp at hx
end
end Go.Ab
namespace Go.Tb
open Go.Ab
structure dc where
 id:Int
 name:ByteArray
deriving DecidableEq
@[reducible] def dc.c (t:dc):List D:=[ci t.id,cs t.name,ci 0]
def dC (p:Int×Int):List D:=[ci p.1,ci p.2]
def ep:List (Int×Int):=[(0,0)]
@[reducible] def oE (ts:List dc):List D:=[.sl (ts.map dc.c),.sl (ep.map dC),.sl []]
def IY (ts:List dc):Prop:=(∀ t∈ts,0≤t.id∧t.id≤1000000000000000∧cY t.name=0)∧(ts.map dc.id).Nodup
structure bw where
 thread:Int
 serial:Int
 lost:Int
 evs:List Ev
@[reducible] def bw.c (p:bw):List D:=[ci p.thread,ci p.serial,ci p.lost,.sl (p.evs.map Ev.c)]
theorem um {α β:Type} {f:α→β} {l:List α} (h:(l.map f).Nodup) (k:Nat):((l.take k).map f).Nodup:=by grind
theorem pj {α β:Type} {f:α→β} {l:List α} (h:(l.map f).Nodup) {k:Nat} {x:α} (I:l[k]? = some x):f x∉(l.take k).map f:=by grind[List.mem_iff_getElem?,List.getElem?_eq_some_iff,List.getElem?_take_of_lt,List.pairwise_iff_getElem,px.map]
abbrev rZ (b:Bool):D:=.v (.bool b)
def hZ {α:Type} (l:List (α)) (f:α→Int):List (Int×Bool):=l.map fun t=>(f t,true)
theorem ku {α:Type} (l:List α) (f:α→Int):(hZ l f).map (·.1)=l.map f:=by unfold hZ;rw[List.map_map];rfl
end Go.Tb
namespace Go.Tb
open Go.Ab
@[reducible] def z2:List D:=[ci 0,ci 0]
def tq (ids:List Int) (k:Nat):List (Int×Option (List D)):=(ids.take k).map (fun a=>(a,none))++(ids.drop k).map (fun a=>(a,some z2))
def qG (ids:List Int) (k:Nat):List (Int×Option (List D)):=(ids.take k).map (fun a=>(a,some z2))
theorem x6 (ids:List Int) (k:Nat):(qG ids k).map (·.1)=ids.take k:=by unfold qG;rw[List.map_map];exact List.map_id _
theorem EG {ids:List Int} {k:Nat} {a:Int} (h:ids[k]? = some a):qG ids k++[(a,some z2)]=qG ids (k+1):=by grind[qG,List.take_add_one]
theorem Fp {ids:List Int} {k:Nat} (h:k=ids.length):qG ids k=tq ids 0:=by subst h;unfold qG tq;grind
theorem nM {l:List Int} (h:l.Nodup) {k:Nat} {x:Int} (I:l[k]? = some x):x∉l.take k:=by have:=pj (f:=id) (by rw[List.map_id];exact h) I;grind
end Go.Tb
namespace Go.Ab
open Go.RowKit
section
variable {P:Program} {C:Ctx} {n:Nat} {f:List (Nat×A)} {bx:List (Nat×List A)} {lv:List Nat} {gen:Nat} {ty:TypeId} {pos:String} {af:Array Edge} {dst:Option Nat}
theorem qq {x:Operand} {g j off:Nat} {l:List D} (X:av f x=some (.xp g j off l)) (N:(lv.any fun h=>Nat.beq h g)=true) :
 Pu P C n ⟨f,bx,lv,gen⟩ ⟨dst,.nilCheck x,ty,pos,af,none⟩ (.xp g j off l):=by
 refine ao fun G tmps w hs=>?_;have J:=hs.av X;obtain⟨r,O⟩:=hs.live g (dw N);generalize hv:Act.eval ⟨tmps,[]⟩ x=v at J;have U:=J
 cases J with
 | xp _ _ _ _ _ ad h1 M=>
 have I:=M r O
 cases r with
 | nil=>exact I.elim
 | zero b=>exact I.elim
 | mp b bs=>exact I.elim
 | blk b len cap sz ai=>obtain⟨rfl,h2,h3,h4⟩:=I;refine⟨.pointer (some ⟨b,j*sz+off,none⟩),?_,U⟩;unfold execOp;simp_all
end
end Go.Ab
namespace Go.Tb
open Go.Ab
def v8 (l:List Ev):Nat→List Ev | 0=>l | _=>[]
def I5 (l:List Ev):Nat→D | 0=>.v (.slice none 0 0) | _=>.sl (l.map Ev.c)
def A8 (last:Option Int) (t:Int):Bool:=match last with | some u=>decide (t < u) | none=>false
def iU:List Ev→Option Int→Int
 | [],_=>0
 | e::r,last=>if dN e≠0 then dN e else if A8 last e.time=true then 11 else iU r (some e.time)
def fT:List bw→Int
 | []=>0
 | p::r=>if iU p.evs none≠0 then iU p.evs none else fT r
structure jJ where
 ts:List dc
 ds:List (Int×Int)
 ps:List bw
@[reducible] def jJ.c (l:jJ):List D:=[.sl (l.ts.map dc.c),.sl (l.ds.map dC),.sl [],.sl (l.ps.map bw.c)]
def kY:jJ:=⟨[],[],[]⟩
end Go.Tb
namespace Go.Tb
open Go.Ab
structure JP where
 l:jJ
 n:Nat
 e:Int
/-! what a line that is accepted holds -/
/-! the events thread by thread -/
def AJ (x:wB):Prop:=x.2.map (·.1)=x.1∧x.1.Nodup∧∀ p∈x.2,p.2≠[]
theorem Dq {l:List (Int×List Ev)} {a:Int} {y:List Ev} {p:Int×List Ev} (hp:p∈dp l a y):p=(a,y)∨p∈l:=by
 induction l with
 | nil=>simp[dp] at hp;exact .inl hp
 | cons q r I=>simp only[dp] at hp;grind
theorem Di {l:List (Int×List Ev)} {a:Int} {y:List Ev}:(dp l a y).map (·.1)=if a∈l.map (·.1) then l.map (·.1) else l.map (·.1)++[a]:=by
 induction l with
 | nil=>simp[dp]
 | cons p r I=>simp only[dp];grind
theorem Bq {l:List (Int×List Ev)} (h:∀ p∈l,p.2≠[]) (a:Int):(cb l a).getD []=[]↔a∉l.map (·.1):=by
 induction l with
 | nil=>simp[tj]
 | cons p r I=>rw[eW,List.map_cons,List.mem_cons];grind
theorem AJ.add {x:wB} (h:AJ x) (th:Int) (e:Ev):AJ (BC x th e):=by
 obtain⟨h1,h2,h3⟩:=h;unfold BC;split;·exact⟨h1,h2,h3⟩
 ·have hm:=Bq h3 th
  refine⟨?_,?_,fun p hp=>?_⟩;·grind[Di,cb]
  ·grind
  ·rcases Dq hp with rfl | hp
   ·simp
   ·grind
def mC (m:List (Int×List Ev)):Nat:=(m.map fun p=>p.2.length).sum
def oQ (t:dc):Int:=if t.id < 0∨1000000000000000 < t.id then 2 else cY t.name
def pr:List dc→List Int→Int
 | [],_=>0
 | t::r,seen=>if oQ t≠0 then oQ t else if (seen.any fun x=>decide (x=t.id))=true then 4 else pr r (seen++[t.id])
def gJ (ts:List dc):Int:=if ts=[] then 8 else if 64 < ts.length then 7 else pr ts []
theorem yC:∀ (ts:List dc) (seen:List Int),pr ts seen=0→seen.Nodup→(∀ t∈ts,0≤t.id∧t.id≤1000000000000000∧cY t.name=0)∧(seen++ts.map dc.id).Nodup
 | [],seen,_,hn=>⟨by simp,by simpa using hn⟩
 | t::r,seen,h,hn=>by
   simp only[pr] at h;split at h;·grind
   ·rename_i q
    split at h;·grind
    ·rename_i q2
     have hm:t.id∉seen:=by simpa using q2
     obtain⟨h1,h2⟩:=yC r (seen++[t.id]) h (by rw[List.nodup_append];exact⟨hn,by simp,fun a I b hb=>by simp at hb;subst hb;rintro rfl;exact hm I⟩);grind[oQ]
theorem xD {ts:List dc} (h:gJ ts=0):IY ts∧ts≠[]∧ts.length≤64:=by
 unfold gJ at h;split at h;·grind
 ·rename_i q
  split at h;·grind
  ·obtain⟨h1,h2⟩:=yC ts [] h List.nodup_nil
   exact⟨⟨h1,by simpa using h2⟩,q,by omega⟩
def uk (ts:List dc) (ps:List bw):Prop:=(ps.map bw.thread).Sublist (ts.map dc.id)∧(∀ p∈ps,p.serial=0∧p.lost=0∧0 < p.evs.length∧p.evs.length≤1000)∧(ps.map fun p=>p.evs.length).sum≤20000
def fY (ts:List dc) (ps:List bw):jJ×Int:=if gJ ts≠0 then (kY,gJ ts) else if fT ps≠0 then (kY,fT ps) else (⟨ts,ep,ps⟩,0)
theorem qI {α:Type} {f:α→Int}:∀ (l:List α) (a:Int),(cb (hZ l f) a).getD false=(l.map f).any fun x=>decide (x=a)
 | [],a=>rfl
 | x::r,a=>by
   show(cb ((f x,true)::hZ r f) a).getD false=_;rw[eW];by_cases e:f x=a;·grind
   ·rw[if_neg e,qI r a];simp[e]
theorem xG {α:Type} {f:α→Int} {l:List α} {k:Nat} {x:α} (hm:¬ ((l.take k).map f).any (fun y=>decide (y=f x))=true) (I:l[k]? = some x):dp (hZ (l.take k) f) (f x) true=hZ (l.take (k+1)) f:=by
 rw[iF]
 ·unfold hZ
  rw[List.take_add_one,I,List.map_append];rfl
 ·intro p hp e
  apply hm;rw[List.any_eq_true];have:p.1∈(hZ (l.take k) f).map (·.1):=List.mem_map.2 ⟨p,hp,rfl⟩;rw[ku] at this;exact⟨p.1,this,by simpa using e⟩
/-! the map of the threads' ends, when some packets were read -/
def oL (ids us:List Int):List (Int×Option (List D)):=ids.map fun a=>(a,if a∈us then none else some z2)
theorem Eb (ids us:List Int):(oL ids us).map (·.1)=ids:=by unfold oL;rw[List.map_map];exact List.map_id _
theorem FE (ids:List Int):oL ids []=tq ids 0:=by unfold oL tq;simp
theorem FV {ids us:List Int} {i:Nat} {a:Int} (h:ids[i]? = some a) (hu:a∉us):(oL ids us)[i]? = some (a,some z2):=by unfold oL;grind
theorem Gi {ids us:List Int} {i:Nat} {a:Int} (I:ids.Nodup) (h:ids[i]? = some a):(oL ids us).set i (a,none)=oL ids (us++[a]):=by
 have hi:=(List.getElem?_eq_some_iff.1 h).1;refine List.ext_getElem? fun k=>?_;rw[List.getElem?_set];unfold oL;simp only[List.getElem?_map,List.length_map];by_cases e:i=k;·grind
 ·rw[if_neg e]
  cases hk:ids[k]? with
  | none=>rfl
  | some b=>
    have hb:b≠a:=by
     rintro rfl;rcases Nat.lt_trichotomy i k with q | q | q
     ·exact nM I hk (List.mem_iff_getElem?.2 ⟨i,by rw[List.getElem?_take_of_lt q,h]⟩)
     ·grind
     ·exact nM I h (List.mem_iff_getElem?.2 ⟨k,by rw[List.getElem?_take_of_lt q,hk]⟩)
    grind
/-! the parts, thread by thread -/
def nS (ts:List dc) (ps:List bw):List bw:=ts.flatMap fun t=>(ps.find? fun p=>decide (p.thread=t.id)).toList
theorem D0 {ts:List dc} (ps:List bw) {n:Nat} (h:ts.length≤n):(nS ts ps).length≤n:=by
 refine Nat.le_trans ?_ h;unfold nS
 induction ts with
 | nil=>simp
 | cons t r I=>grind
theorem qa:∀ {ts:List dc} {ps:List bw},(ps.map bw.thread).Sublist (ts.map dc.id)→(ts.map dc.id).Nodup→nS ts ps=ps
  | [],ps,h,_=>by
    have:ps=[]:=by simpa using h
    subst this;rfl
  | t::r,ps,h,hn=>by
    rw[List.map_cons,List.nodup_cons] at hn
    have key:∀ (q:List bw) (p:bw),p.thread=t.id→nS r (p::q)=nS r q:=by
      intro q p hp
      unfold nS
      rw[List.flatMap_def,List.flatMap_def]
      congr 1
      refine List.map_congr_left fun x hx=>?_
      congr 1
      rw[List.find?_cons_of_neg]
      simp only[decide_eq_true_eq]
      rintro e
      exact hn.1 (by rw[←hp,e];exact List.mem_map.2 ⟨x,hx,rfl⟩)
    show(ps.find? fun p=>decide (p.thread=t.id)).toList++nS r ps=ps
    match ps,h with
    | [],_=>exact qa (ts:=r) (ps:=[]) (List.nil_sublist _) hn.2
    | p::q,h=>
      rw[List.map_cons,List.map_cons] at h
      by_cases e:p.thread=t.id
      · have h2:(q.map bw.thread).Sublist (r.map dc.id):=by
          rw[e] at h
          exact List.cons_sublist_cons.1 h
        rw[List.find?_cons_of_pos (by simpa using e),key q p e,qa h2 hn.2]
        rfl
      · have h2:((p::q).map bw.thread).Sublist (r.map dc.id):=by
          rcases List.sublist_cons_iff.1 h with h | ⟨x,hx,_⟩
          · exact h
          · exact absurd (List.cons.inj hx).1 e
        rw[qa h2 hn.2]
        rw[List.find?_eq_none.2]
        · rfl
        · intro x hx
          simp only[decide_eq_true_eq]
          rintro e2
          exact hn.1 (by rw[←e2];exact h2.subset (List.mem_map.2 ⟨x,hx,rfl⟩))
structure Fm where
 ph:ByteArray
 kind:Int
 name:Bool
 n:ByteArray
 m:ByteArray
 st:Bool
@[reducible] def Fm.c (f:Fm):List D:=[cs f.ph,ci f.kind,.v (.bool f.name),cs f.n,cs f.m,.v (.bool f.st)]
def eT:ByteArray:=B #[112,104]
def cU:ByteArray:=B #[116,105,100]
def cP:ByteArray:=B #[110,97,109,101]
def ij:ByteArray:=B #[116,115]
def ct:ByteArray:=B #[115,116,97,99,107]
def fW:ByteArray:=B #[119,101,105,103,104,116]
def lQ:ByteArray:=B #[105,100]
def jb:ByteArray:=B #[115,105,122,101]
def HG:ByteArray:=B #[118,97,108,117,101]
def Jw:ByteArray:=B #[99,112,117]
def GU:ByteArray:=B #[115,116,97,116,101]
def JE:ByteArray:=B #[111,110]
def H3:ByteArray:=B #[119,97,107,101,115]
def cC:ByteArray:=B #[]
def pP:ByteArray:=B #[80]
def pN:ByteArray:=B #[78]
def pS:ByteArray:=B #[83]
def pM:ByteArray:=B #[77]
def jC:List Fm:=[⟨B #[66],1,true,cC,cC,false⟩,⟨B #[69],2,false,cC,cC,false⟩,⟨B #[105],3,true,cC,cC,false⟩,⟨B #[67],4,true,HG,cC,false⟩,
 ⟨pP,5,false,fW,cC,true⟩,⟨B #[115],6,false,lQ,cC,false⟩,⟨B #[102],7,false,lQ,cC,false⟩,⟨B #[82],8,false,Jw,cC,false⟩,
 ⟨pS,9,false,GU,JE,false⟩,⟨B #[87],10,false,H3,cC,false⟩,⟨pN,11,false,lQ,jb,true⟩,⟨B #[68],12,false,lQ,cC,false⟩]
def dA (f:Fm) (on:Bool):List ByteArray:=
 if f.ph=pP then eT::cU::(if f.name then [cP] else [])++[ij,ct,fW]
 else if f.ph=pN then eT::cU::(if f.name then [cP] else [])++[ij,lQ,jb,ct]
 else eT::cU::(if f.name then [cP] else [])++[ij]++(if f.n≠cC then [f.n] else [])++(if f.m≠cC∧on=true then [f.m] else [])
def ve (j:JV) (key:ByteArray) (op:Int):Option JV:=match fg j key with
 | some v=>if v.op=op then some v else none
 | none=>none
def cH (j:JV) (key:ByteArray) (op:Int):JV:=(ve j key op).getD fH
def fK (j:JV) (key:ByteArray) (op:Int):Bool:=(ve j key op).isNone
def kj (j:JV) (l:List ByteArray):Bool:=decide (j.keys.length=l.length) && !l.any fun k=>!j.keys.any fun x=>decide (k=x)
def xX (j:JV):List ByteArray:=(cH j ct 5).kids.map JV.s
def cS (j:JV) (bad:Bool):Bool:=(((bad || fK j cU 3) || decide ((cH j cU 3).n < 0)) || fK j eT 4)
def jh (l:List JV):Bool:=l.any fun k=>!decide (k.op=4)
theorem DJ {j:JV} {key:ByteArray} {op:Int} (h:(bif !(fg j key).isSome then true else !decide (((fg j key).getD fH).op=op))=true):fK j key op=true∧cH j key op=fH:=by grind[ve,fg,fK,cH]
theorem Gs {j:JV} {key:ByteArray} {op:Int} (h:(bif !(fg j key).isSome then true else !decide (((fg j key).getD fH).op=op))=false):fK j key op=false∧cH j key op=(fg j key).getD fH:=by grind[fg,ve,fK,cH]
def qW:Ev:=⟨0,0,cC,0,0,[]⟩
def BF (j:JV):Int:=(cH j ij 3).n
def fF (j:JV) (b:Bool):Bool:=b || fK j ij 3
def pg (j:JV) (f:Fm):ByteArray:=if f.name=true then (cH j cP 4).s else cC
def e9 (j:JV) (f:Fm) (b:Bool):Bool:=if f.name=true then b || fK j cP 4 else b
def nO (j:JV) (f:Fm):Int:=if f.n=cC then 0 else (cH j f.n 3).n
def iV (j:JV) (f:Fm) (b:Bool):Bool:=if f.n=cC then b else b || fK j f.n 3
def iM (j:JV) (f:Fm):Bool:=bif !decide (f.ph=pS) then true else decide (nO j f=2)
def vF (f:Fm) (on:Bool):Bool:=bif !decide (f.m=cC) then on else false
def mO (j:JV) (f:Fm) (on:Bool):Int:=if vF f on=true then (cH j f.m 3).n else 0
def lR (j:JV) (f:Fm) (on:Bool) (b:Bool):Bool:=if vF f on=true then b || fK j f.m 3 else b
def Fg (j:JV) (f:Fm):List ByteArray:=if f.st=true then xX j else []
def vm (j:JV) (f:Fm) (b:Bool):Bool:=if f.st=true then (b || fK j ct 5) || jh (cH j ct 5).kids else b
def oR (j:JV) (f:Fm):Ev:=⟨BF j,f.kind,pg j f,nO j f,mO j f (iM j f),Fg j f⟩
def Ek (j:JV) (f:Fm) (b:Bool):Bool:=vm j f (lR j f (iM j f) (iV j f (e9 j f (fF j b))))
def oF (ph:ByteArray):Option Fm:=match jC.findIdx? fun f=>decide (f.ph=ph) with
 | some i=>jC[i]?
 | none=>none
def dm (j:JV):Bool:=!decide (j.op=6)
def cE (j:JV):Int×Ev×Int:=
 if cv j 1≠0 then (0,qW,cv j 1)
 else if cS j (dm j)=true then (0,qW,10)
 else match oF (cH j eT 4).s with
  | none=>(0,qW,10)
  | some f=>if (bif Ek j f (cS j (dm j)) then true else !kj j (dA f (iM j f)))=true then (0,qW,10)
    else if dN (oR j f)≠0 then (0,qW,dN (oR j f)) else ((cH j cU 3).n,oR j f,0)
def rq (j:JV):Bool:=
 bif !decide (j.op=6) then true else bif !(fg j eT).isSome then true else bif !(fg j cU).isSome then true else bif !decide (((fg j eT).getD fH).op=4) then true
  else bif !decide (((fg j cU).getD fH).op=3) then true else bif decide (((fg j cU).getD fH).n < 0) then true else decide (1000000000000000 < ((fg j cU).getD fH).n)
def yI (j:JV):Prop:=∀ v∈j.kids,v.kids.length≤1000000000
theorem sG {j v:JV} {key:ByteArray} (h:fg j key=some v):v∈j.kids:=by unfold fg at h;grind
theorem yI.get {j:JV} (h:yI j) (key:ByteArray):((fg j key).getD fH).kids.length≤1000000000:=by
 cases hg:fg j key with
 | none=>simp[fH,JV.kids]
 | some v=>exact h v (sG hg)
theorem yI.val {j:JV} (h:yI j) (key:ByteArray) (op:Int):(cH j key op).kids.length≤1000000000:=by
 unfold cH ve
 cases hg:fg j key with
 | none=>simp[fH,JV.kids]
 | some v=>
   show((if v.op=op then some v else none).getD fH).kids.length≤_;split;·exact h v (sG hg)
   ·simp[fH,JV.kids]
structure yG (l m:List UInt8) (n:Nat):Prop where
 ll:n≤l.length
 lm:n≤m.length
 tk:m.take n=l.take n
def Gd (m:List UInt8) (n p:Nat):Prop:=p < n∨(p=n∧m.length=n)
section
variable {l m:List UInt8} {n:Nat}
theorem aS (H:yG l m n) {p:Nat} (h:p < n):bh m p=bh l p:=by
 have e:(m.take n)[p]? = (l.take n)[p]?:=by rw[H.tk]
 grind[bh]
theorem Gd.le {p:Nat} (h:Gd m n p):p≤n:=by rcases h with h | ⟨h,_⟩ <;> omega
theorem yG.stop {f:UInt8→Bool} (J:f 0=false) (H:yG l m n) {p:Nat} (I:Gd m n p) (h:f (bh l p)=false):f (bh m p)=false:=by
 rcases I with I | ⟨rfl,I⟩
 ·grind[aS]
 ·grind[nk]
/-! white space -/
/-! results -/
def Loc {α:Type} (m:List UInt8) (n:Nat) (r I:PE α):Prop:=match r with
 | .ok x j=>Gd m n j→I=.ok x j
 | .no a w=>((w=10∧Gd m n a)∨(w=20∧a < n))→I=.no a w
def Hf {α:Type} (j:Nat):PE α→Prop
 | .ok _ p=>j≤p
 | .no a _=>j≤a
theorem Hf.mono {α:Type} {i j:Nat} {r:PE α} (h:Hf i r) (hj:j≤i):Hf j r:=by
 cases r with
 | ok x p=>exact Nat.le_trans hj h
 | no a w=>exact Nat.le_trans hj h
theorem mE {c:UInt8} {i j:Nat} {u:Unit} (h:cF l c i=.ok u j):j=i+1∧i < l.length:=by grind[cF]
/-! escapes -/
def D8 (l:List UInt8) (high:Nat) (j:Nat):PE UInt8:=match kz (bh l j) with
 | none=>.no j 10
 | some low=>if known (UInt8.ofNat (16*high+low))=false then .no j 10 else .ok (UInt8.ofNat (16*high+low)) (j+1)
def D7 (l:List UInt8) (j:Nat):PE UInt8:=match kz (bh l j) with
 | none=>.no j 10
 | some high=>if high=1∨7 < high then .no j 10 else D8 l high (j+1)
def DH (l:List UInt8) (i:Nat):PE UInt8:=match du l [117,48,48] i with
 | .no a w=>.no a w
 | .ok _ j=>D7 l j
theorem zK (l:List UInt8) (i:Nat):fc l i=if bh l i=34∨bh l i=92∨bh l i=47 then .ok (bh l i) (i+1) else if bh l i=110 then .ok 10 (i+1) else if bh l i=116 then .ok 9 (i+1) else DH l i:=rfl
/-! texts -/
/-! numbers -/
theorem yG.cut (H:yG l m n) {i j:Nat} (hj:j≤n):(m.drop i).take (j - i)=(l.drop i).take (j - i):=by
 rcases Nat.lt_or_ge i j with h | h
 ·rw[List.take_drop,List.take_drop,show i+(j - i)=j by omega]
  have e:∀ a:List UInt8,a.take j=(a.take n).take j:=fun a=>by rw[List.take_take,Nat.min_eq_left hj]
  rw[e m,e l,H.tk]
 ·rw[show j - i=0 by omega];simp
end
theorem Ac (l:List UInt8) (k:Nat) (level:Int) (i0:Nat):dB l (k+1) level i0 =
 if bh l (bp l i0)=110 then (match du l nR (bp l i0) with | .no a w=>.no a w | .ok _ j=>.ok (.mk 1 0 (B #[]) [] []) j)
 else if bh l (bp l i0)=116 then (match du l kL (bp l i0) with | .no a w=>.no a w | .ok _ j=>.ok (.mk 2 1 (B #[]) [] []) j)
 else if bh l (bp l i0)=102 then (match du l jn (bp l i0) with | .no a w=>.no a w | .ok _ j=>.ok (.mk 2 0 (B #[]) [] []) j)
 else if bh l (bp l i0)=34 then (match ee l (bp l i0) with | .no a w=>.no a w | .ok t j=>.ok (.mk 4 0 (bytesOf t) [] []) j)
 else if bh l (bp l i0)=91∨bh l (bp l i0)=123 then
  if 16 < level then .no (bp l i0) 20
  else if bh l (bp l i0)=91 then gh l k level (bp l i0+1) else gg l k level (bp l i0+1)
 else eK l (bp l i0):=by rw[dB] <;> rfl
theorem vr (l:List UInt8) (k:Nat) (level:Int) (i0:Nat):gh l (k+1) level i0 =
 if bh l (bp l i0)=93 then .ok (.mk 5 0 (B #[]) [] []) (bp l i0+1) else fk l k level (bp l i0) []:=by rw[gh]
theorem sx (l:List UInt8) (k:Nat) (level:Int) (i:Nat) (acc:List JV):fk l (k+1) level i acc =
 match dB l k (level+1) i with
 | .no a w=>.no a w
 | .ok v j=>
   if bh l (bp l j)=44 then fk l k level (bp l j+1) (acc++[v])
   else match cF l 93 (bp l j) with | .no a w=>.no a w | .ok _ j2=>.ok (.mk 5 0 (B #[]) [] (acc++[v])) j2:=by rw[fk] <;> rfl
theorem vB (l:List UInt8) (k:Nat) (level:Int) (i0:Nat):gg l (k+1) level i0 =
 if bh l (bp l i0)=125 then .ok (.mk 6 0 (B #[]) [] []) (bp l i0+1) else fz l k level (bp l i0) [] []:=by rw[gg]
theorem sA (l:List UInt8) (k:Nat) (level:Int) (i0:Nat) (keys:List ByteArray) (acc:List JV):fz l (k+1) level i0 keys acc =
 match ee l (bp l i0) with
 | .no a w=>.no a w
 | .ok t j=>
   if keys.any (fun x=>decide (x=bytesOf t)) then .no (bp l i0) 4 else
   match cF l 58 (bp l j) with
   | .no a w=>.no a w
   | .ok _ j1=>match dB l k (level+1) j1 with
     | .no a w=>.no a w
     | .ok v j2=>
       if bh l (bp l j2)=44 then fz l k level (bp l j2+1) (keys++[bytesOf t]) (acc++[v])
       else match cF l 125 (bp l j2) with | .no a w=>.no a w | .ok _ j4=>.ok (.mk 6 0 (B #[]) (keys++[bytesOf t]) (acc++[v])) j4:=by rw[fz] <;> rfl
section
variable {l m:List UInt8} {n:Nat}
structure Lo (l m:List UInt8) (n k:Nat):Prop where
 v:∀ level i,i≤l.length→Loc m n (dB l k level i) (dB m k level i)
 a:∀ level i,i≤l.length→Loc m n (gh l k level i) (gh m k level i)
 ag:∀ level i acc,i≤l.length→Loc m n (fk l k level i acc) (fk m k level i acc)
 o:∀ level i,i≤l.length→Loc m n (gg l k level i) (gg m k level i)
 og:∀ level i keys acc,i≤l.length→Loc m n (fz l k level i keys acc) (fz m k level i keys acc)
end
/-! the nesting's fault stands at a byte -/
structure Dp (l:List UInt8) (k:Nat):Prop where
 v:∀ level i a,dB l k level i=.no a 20→a < l.length
 a:∀ level i a,gh l k level i=.no a 20→a < l.length
 ag:∀ level i acc a,fk l k level i acc=.no a 20→a < l.length
 o:∀ level i a,gg l k level i=.no a 20→a < l.length
 og:∀ level i keys acc a,fz l k level i keys acc=.no a 20→a < l.length
def I6 {α:Type}:PE α→Prop
 | .ok _ _=>True
 | .no _ w=>w≠20
theorem I6.not {α:Type} {r:PE α} {a:Nat} (h:I6 r) (e:r=.no a 20):False:=by subst e;exact h rfl
/-! the whole text -/
theorem xl {l:List UInt8} {k:Nat} (I:3*l.length+1≤k):er l=match dB l k 1 0 with
 | .no a w=>.no a w
 | .ok j i=>if bp l i < l.length then .no (bp l i) 10 else .ok j 0:=by
 unfold er;obtain⟨d,rfl⟩:∃ d,k=3*l.length+1+d:=⟨k - (3*l.length+1),by omega⟩
 rw[wy (Nat.zero_le _) (by omega) d] <;>
  grind
theorem Dx {l:List UInt8} {a:Nat} {w:Int} (h:er l=.no a w):a≤l.length:=by
 rw[xl (Nat.le_refl _)] at h;have hb:=(nz l (3*l.length+1)).v 1 0 (Nat.zero_le _)
 cases I:dB l (3*l.length+1) 1 0 with
 | no a' w'=>rw[I] at h hb;injection h with h1 _;subst h1;exact hb.2
 | ok v j=>grind
section
variable {l:List UInt8}
theorem AO {c:UInt8} (h:¬ (c.toNat < 32∨126 < c.toNat)):known c=true:=by grind[known]
theorem A6 {i j:Nat} {c:UInt8} (h:fc l i=.ok c j):known c=true:=by
 rw[zK] at h;split at h
 ·rename_i q
  injection h with h1 _;subst h1;rcases q with q | q | q <;> rw[q] <;> decide
 ·split at h
  ·injection h with h1 _;subst h1;decide
  ·split at h
   ·injection h with h1 _;subst h1;decide
   ·unfold DH at h
    grind[du,D7,D8]
theorem Dj (c:UInt8):(dz c).length≤2:=by grind[dz]
theorem qm:∀ (k i:Nat) (acc t:List UInt8) (j:Nat),(∀ b∈acc,known b=true)→dG l k i acc=.ok t j→(∀ b∈t,known b=true)∧(t.flatMap dz).length+i+1≤(acc.flatMap dz).length+j
 | 0,i,acc,t,j,_,h=>by unfold dG at h;cases h
 | k+1,i,acc,t,j,hk,h=>by
   unfold dG at h;split at h;·grind
   ·rename_i q1
    split at h;·grind
    ·rename_i q2
     split at h
     ·rename_i q3
      have I:i < l.length:=de (by rw[q3];decide)
      cases he:fc l (i+1) with
      | no a w=>rw[he] at h;cases h
      | ok c p=>
        rw[he] at h;have hb:=vC (l:=l) (i:=i+1) I;rw[he] at hb;obtain⟨h1,h2⟩:=qm k p _ t j (fun b hb=>by
         rcases List.mem_append.1 hb with hb | hb
         ·exact hk b hb
         ·obtain rfl:b=c:=by simpa using hb
          exact A6 he) h
        refine⟨h1,?_⟩;rw[List.flatMap_append,List.length_append] at h2;have h3:([c].flatMap dz).length≤2:=by simpa using Dj c
        have:=hb.1;omega
     ·rename_i q3
      obtain⟨h1,h2⟩:=qm k (i+1) _ t j (fun b hb=>by
       rcases List.mem_append.1 hb with hb | hb
       ·exact hk b hb
       ·obtain rfl:b=bh l i:=by simpa using hb
        exact AO q1) h
      refine⟨h1,?_⟩;rw[List.flatMap_append,List.length_append] at h2;have h3:([bh l i].flatMap dz).length=1:=by have J:¬ (bh l i=34∨bh l i=92):=fun e=>e.elim q2 q3;have M:¬ bh l i=10:=fun e=>q1 (.inl (by rw[e];decide));have N:¬ bh l i=9:=fun e=>q1 (.inl (by rw[e];decide));grind[dz]
      omega
theorem yV {i j:Nat} {t:List UInt8} (h:ee l i=.ok t j):(∀ b∈t,known b=true)∧(dh t).length+i≤j:=by
 unfold ee at h
 cases I:cF l 34 i with
 | no a w=>rw[I] at h;cases h
 | ok u p=>rw[I] at h;obtain⟨h1,h2⟩:=qm _ p [] t j (fun b hb=>by cases hb) h;obtain⟨e,_⟩:=mE I;grind[dh,dz]
theorem Gj {i j:Nat} {v:JV} (hi:i≤l.length) (h:eK l i=.ok v j):∃ n,v=.mk 3 n (B #[]) [] []∧eQ n=true∧(bc (dZ n)).length+i≤j:=by
 unfold eK at h;dsimp only at h;have h1:i≤(if bh l i=45 then i+1 else i)∧(if bh l i=45 then i+1 else i)≤l.length:=by
  split;·rename_i q;exact⟨Nat.le_succ _,de (by rw[q];decide)⟩
  ·grind
 generalize (if bh l i=45 then i+1 else i)=i1 at h1 h;have h2:=pO (l:=l) h1.2;by_cases q:cA l i1=i1;·grind
 ·rw[if_neg q] at h
  generalize hu:(if (⟨((l.drop i).take (cA l i1 - i)).toArray⟩:ByteArray)=B #[45,48] then B #[48] else ⟨((l.drop i).take (cA l i1 - i)).toArray⟩)=u at h;have I:u.size≤cA l i1 - i:=by
   subst hu;have e:(⟨((l.drop i).take (cA l i1 - i)).toArray⟩:ByteArray).size≤cA l i1 - i:=by show(((l.drop i).take (cA l i1 - i)).toArray).size≤_;grind
   split
   ·rename_i q
    rw[q] at e;exact Nat.le_trans (by decide) e
   ·grind
  grind[Cz,gV,bk]
theorem iH {op n:Int} {s:ByteArray} {keys:List ByteArray} {kids:List JV} {level:Int} (h1:dy (.mk op n s keys kids)=true) (h2:¬ ((op=2∧n≠0∧n≠1)∨(op=3∧eQ n=false))) (h3:eR s=true) (h4:∀ x∈keys,eR x=true) (h5:gz [] keys=false) (I:¬ (5≤op∧16 < level)):fN (.mk op n s keys kids) level=0:=by
 have e:(keys.any fun s=>!eR s)=false:=by grind
 unfold fN;rw[if_neg (by rw[h1];decide),if_neg (by simpa only[JV.op,JV.n] using h2),if_neg (by simp only[JV.s,JV.keys];rw[h3,e];decide),if_neg (by simp only[JV.keys];rw[h5];decide),if_neg (by simpa only[JV.op] using I)]
theorem gO {op n:Int} {s:ByteArray} {keys:List ByteArray} {kids:List JV} {level:Int} (h:fN (.mk op n s keys kids) level=0) (I:dM kids (level+1)=0):cv (.mk op n s keys kids) level=0:=by grind[cv]
theorem mw {x:JV} {r:List JV} {level:Int} (h:cv x level=0) (I:dM r level=0):dM (x::r) level=0:=by grind[dM]
theorem fM {level:Int}:dM [] level=0:=by unfold dM;rfl
theorem fO:eR (B #[])=true:=by decide
theorem lU {t:List UInt8} (h:∀ b∈t,known b=true):eR (bytesOf t)=true:=by grind[eR,iQ]
theorem qL {x:JV} {r:List JV}:(da (x::r) false).length=(da (x::r) true).length+1:=by grind[fh]
theorem ov {s:ByteArray} {ks:List ByteArray} {x:JV} {r:List JV}:(bY (s::ks) (x::r) false).length=(bY (s::ks) (x::r) true).length+1:=by grind[dE]
theorem uU {x:List UInt8} {v w:JV} {i j:Nat} (hi:i≤l.length) (h:(match du l x i with | .no a w=>.no a w | .ok _ j=>.ok v j:PE JV)=.ok w j):w=v∧j=i+x.length:=by grind[mF]
structure Vd (l:List UInt8) (k:Nat):Prop where
 v:∀ level i v j,i≤l.length→dB l k level i=.ok v j→cv v level=0∧(bt v).length+i≤j
 a:∀ level i v j,i≤l.length→level≤16→gh l k level i=.ok v j→cv v level=0∧(bt v).length+i≤j+1
 ag:∀ level i acc v j,i≤l.length→level≤16→fk l k level i acc=.ok v j→∃ x r,v=.mk 5 0 (B #[]) [] (acc++x::r)∧dM (x::r) (level+1)=0∧(da (x::r) true).length+1+i≤j
 o:∀ level i v j,i≤l.length→level≤16→gg l k level i=.ok v j→cv v level=0∧(bt v).length+i≤j+1
 og:∀ level i keys acc v j,i≤l.length→level≤16→fz l k level i keys acc=.ok v j→∃ s ks x r,v=.mk 6 0 (B #[]) (keys++s::ks) (acc++x::r)∧ks.length=r.length∧(∀ s'∈s::ks,eR s'=true)∧gz keys (s::ks)=false∧dM (x::r) (level+1)=0∧(bY (s::ks) (x::r) true).length+1+i≤j
theorem BV:∀ k,Vd l k
 | 0=>by
   refine⟨fun _ _ _ _ _ h=>?_,fun _ _ _ _ _ _ h=>?_,fun _ _ _ _ _ _ _ h=>?_,fun _ _ _ _ _ _ h=>?_,fun _ _ _ _ _ _ _ _ h=>?_⟩;·unfold dB at h;cases h
   ·unfold gh at h;cases h
   ·unfold fk at h;cases h
   ·unfold gg at h;cases h
   ·unfold fz at h;cases h
 | k+1=>by
   have J:=BV k;have bd:=nz l k;refine⟨fun level i0 v j h0 h=>?_,fun level i0 v j h0 hl h=>?_,fun level i acc v j h0 hl h=>?_,fun level i0 v j h0 hl h=>?_,fun level i0 keys acc v j h0 hl h=>?_⟩
   ·have X:=cT l i0
    have hle:=cZ h0;rw[Ac] at h;split at h
    ·obtain⟨rfl,rfl⟩:=uU hle h
     exact⟨gO (iH (by simp[dy,JV.op,JV.n,JV.s,JV.keys,JV.kids]) (by omega) fO (by simp) (by simp[gz]) (by omega)) fM,by simp[bt,nR];omega⟩
    ·split at h
     ·obtain⟨rfl,rfl⟩:=uU hle h
      exact⟨gO (iH (by simp[dy,JV.op,JV.n,JV.s,JV.keys,JV.kids]) (by omega) fO (by simp) (by simp[gz]) (by omega)) fM,by simp[bt,kL];omega⟩
     ·split at h
      ·obtain⟨rfl,rfl⟩:=uU hle h
       exact⟨gO (iH (by simp[dy,JV.op,JV.n,JV.s,JV.keys,JV.kids]) (by omega) fO (by simp) (by simp[gz]) (by omega)) fM,by simp[bt,jn];omega⟩
      ·split at h
       ·cases I:ee l (bp l i0) with
        | no a w=>rw[I] at h;cases h
        | ok t p=>rw[I] at h;injection h with h1 h2;subst h1;subst h2;obtain⟨h3,h4⟩:=yV I;exact⟨gO (iH (by simp[dy,JV.op,JV.n,JV.s,JV.keys,JV.kids]) (by omega) (lU h3) (by simp) (by simp[gz]) (by omega)) fM,by simp[bt,iQ];omega⟩
       ·split at h
        ·rename_i q
         have ad:bp l i0 < l.length:=de fun z=>by rw[z] at q;revert q;decide
         split at h;·grind
         ·split at h
          ·obtain⟨h1,h2⟩:=J.a _ _ _ _ ad (by omega) h
           grind
          ·obtain⟨h1,h2⟩:=J.o _ _ _ _ ad (by omega) h
           grind
        ·obtain⟨n,rfl,h1,h2⟩:=Gj hle h
         exact⟨gO (iH (by simp[dy,JV.op,JV.n,JV.s,JV.keys,JV.kids]) (by simp[h1]) fO (by simp) (by simp[gz]) (by omega)) fM,by rw[show bt (.mk 3 n (B #[]) [] [])=bc (dZ n) by simp[bt]];omega⟩
   ·have X:=cT l i0
    have hle:=cZ h0;rw[vr] at h;split at h
    ·injection h with h1 h2
     subst h1;subst h2;exact⟨gO (iH (by simp[dy,JV.op,JV.n,JV.s,JV.keys,JV.kids]) (by omega) fO (by simp) (by simp[gz]) (by omega)) fM,by simp[bt,da];omega⟩
    ·obtain⟨x,r,rfl,h1,h2⟩:=J.ag _ _ _ _ _ hle hl h
     refine⟨gO (iH (by simp[dy,JV.op,JV.n,JV.s,JV.keys,JV.kids]) (by omega) fO (by simp) (by simp[gz]) (by omega)) h1,?_⟩;simp[bt];omega
   ·rw[sx] at h
    have hb:=bd.v (level+1) i h0
    cases M:dB l k (level+1) i with
    | no a w=>rw[M] at h;cases h
    | ok v1 j1=>
      rw[M] at h hb;obtain⟨h1,h2⟩:=J.v _ _ _ _ h0 M;have X:=cT l j1;have hle:=cZ hb.2;dsimp only at h;split at h
      ·rename_i q
       obtain⟨x,r,rfl,h3,h4⟩:=J.ag _ _ _ _ _ (de (by rw[q];decide)) hl h;refine⟨v1,x::r,by simp,mw h1 h3,?_⟩;have e:=qL (x:=x) (r:=r);rw[fh];grind
      ·cases I:cF l 93 (bp l j1) with
       | no a w=>rw[I] at h;cases h
       | ok u j2=>rw[I] at h;injection h with h3 h4;subst h3;subst h4;obtain⟨e,_⟩:=mE I;refine⟨v1,[],rfl,mw h1 fM,?_⟩;rw[fh];simp only[if_true,List.nil_append,List.length_append];simp[da];omega
   ·have X:=cT l i0
    have hle:=cZ h0;rw[vB] at h;split at h
    ·injection h with h1 h2
     subst h1;subst h2;exact⟨gO (iH (by simp[dy,JV.op,JV.n,JV.s,JV.keys,JV.kids]) (by omega) fO (by simp) (by simp[gz]) (by omega)) fM,by simp[bt,bY];omega⟩
    ·obtain⟨s,ks,x,r,rfl,h1,h2,h3,h4,h5⟩:=J.og _ _ _ _ _ _ hle hl h
     refine⟨gO (iH (by simp[dy,JV.op,JV.n,JV.s,JV.keys,JV.kids,h1]) (by omega) fO h2 h3 (by omega)) h4,?_⟩;simp[bt];omega
   ·rw[sA] at h
    have X:=cT l i0;have hle:=cZ h0;have ai:=mY (l:=l) hle
    cases I:ee l (bp l i0) with
    | no a w=>rw[I] at h;cases h
    | ok t p=>
      rw[I] at h ai;obtain⟨aj,a7⟩:=yV I;dsimp only at h;split at h;·grind
      ·rename_i q4
       have q4:keys.any (fun x=>decide (x=bytesOf t))=false:=(Bool.not_eq_true _).mp q4;have a8:=cT l p;have a1:=cZ ai.2
       cases O:cF l 58 (bp l p) with
       | no a w=>rw[O] at h;cases h
       | ok u j1=>
         rw[O] at h;obtain⟨e1,e2⟩:=mE O;dsimp only at h;have hb:=bd.v (level+1) j1 (by omega)
         cases M:dB l k (level+1) j1 with
         | no a w=>rw[M] at h;cases h
         | ok v1 j2=>
           rw[M] at h hb;obtain⟨h1,h2⟩:=J.v _ _ _ _ (by omega) M;have b0:=cT l j2;have a6:=cZ hb.2;dsimp only at h;split at h
           ·rename_i q
            obtain⟨s,ks,x,r,rfl,h3,h4,h5,h6,h7⟩:=J.og _ _ _ _ _ _ (de (by rw[q];decide)) hl h;refine⟨bytesOf t,s::ks,v1,x::r,by simp,by simp[h3],?_,qX.2 ⟨q4,h5⟩,mw h1 h6,?_⟩
            ·intro s' N
             rcases List.mem_cons.1 N with rfl | N
             ·exact lU aj
             ·grind
            ·have e:=ov (s:=s) (ks:=ks) (x:=x) (r:=r)
             rw[dE,iQ];grind
           ·cases U:cF l 125 (bp l j2) with
            | no a w=>rw[U] at h;cases h
            | ok u j3=>
              rw[U] at h;injection h with h3 h4;subst h3;subst h4;obtain⟨e,_⟩:=mE U;refine⟨bytesOf t,[],v1,[],rfl,rfl,?_,qX.2 ⟨q4,by simp[gz]⟩,mw h1 fM,?_⟩
              ·intro s' N
               obtain rfl:s'=bytesOf t:=by simpa using N
               exact lU aj
              ·rw[dE,iQ]
               simp only[if_true,List.nil_append,List.length_append,List.length_cons,List.length_nil];simp[bY];omega
theorem zo {v:JV} {i:Nat} (h:er l=.ok v i):cv v 1=0∧(bt v).length≤l.length∧i=0:=by
 rw[xl (Nat.le_refl _)] at h;have hb:=(nz l (3*l.length+1)).v 1 0 (Nat.zero_le _)
 cases I:dB l (3*l.length+1) 1 0 with
 | no a' w'=>rw[I] at h;cases h
 | ok J j=>
   rw[I] at h hb;dsimp only at h;split at h;·grind
   ·injection h with h1 h2
    subst h1;obtain⟨h3,h4⟩:=(BV _).v _ _ _ _ (Nat.zero_le _) I;exact⟨h3,by have:=hb.2;omega,h2.symm⟩
end
theorem checked {j:JV} {level:Int} (h:cv j level=0):(j.op=6→j.keys.length=j.kids.length)∧∀ v∈j.kids,v.op=3→eQ v.n=true:=by
  obtain⟨op,n,s,keys,kids⟩:=j
  obtain⟨h1,h2⟩:=ko h
  obtain⟨hf,_⟩:=ie h1
  constructor
  · grind[dy,JV.op,JV.keys,JV.kids,JV.n,JV.s]
  · have key:∀ (l:List JV),dM l (level+1)=0→∀ v∈l,v.op=3→eQ v.n=true:=by
      intro l
      induction l with
      | nil=>intro _ v hv;cases hv
      | cons x r ih=>
        intro hc v hv ho
        obtain⟨c1,c2⟩:=ia hc
        rcases List.mem_cons.1 hv with rfl | hv
        · obtain⟨op,n,s,keys,kids⟩:=v
          obtain⟨c3,_⟩:=ko c1
          obtain⟨_,c4,_⟩:=ie c3
          grind
        · grind
    exact key kids h2
structure gC where
 ids:List Int
 names:List (Int×ByteArray)
 evs:List (Int×List Ev)
def fu (ids:List Int) (id:Int):List Int:=if (ids.any fun x=>decide (id=x))=true then ids else ids++[id]
def HQ (x:gC) (id:Int) (e:Ev):gC:=⟨fu x.ids id,x.names,dp x.evs id ((cb x.evs id).getD []++[e])⟩
def HE (x:gC) (id:Int) (name:ByteArray):gC:=⟨fu x.ids id,dp x.names id name,x.evs⟩
def wV:List ByteArray:=[eT,cU,cP]
def eV (x:gC) (j:JV):gC×Int:=
 if cS j (dm j)=true then (x,10)
 else if (cH j eT 4).s≠pM then (if (cE j).2.2=0 then (HQ x (cE j).1 (cE j).2.1,0) else (x,(cE j).2.2))
 else if (bif (cS j (dm j) || fK j cP 4) then true else !kj j wV)=true then (x,10)
 else if cY (cH j cP 4).s≠0 then (x,cY (cH j cP 4).s)
 else if (cb x.names (cH j cU 3).n).getD cC≠cC then (x,4)
 else (HE x (cH j cU 3).n (cH j cP 4).s,0)
def vW (n:Nat) (x:gC):Prop:=(x.names.map (·.1)).Nodup∧(x.evs.map (·.1)).Nodup∧x.ids.length≤n∧∀ p∈x.evs,p.2.length≤n
def eg:List JV→gC→gC×Int
 | [],x=>(x,0)
 | j::r,x=>if (eV x j).2≠0 then (x,(eV x j).2) else eg r (eV x j).1
def nameOf (l:List (Int×ByteArray)) (id:Int):ByteArray:=if (cb l id).getD cC=cC then B #[116]++dZ id else (cb l id).getD cC
def lZ (x:gC) (id:Int):dc:=⟨id,nameOf x.names id⟩
def fm (x:gC) (id:Int):List bw:=if (cb x.evs id).getD []=[] then [] else [⟨id,0,0,(cb x.evs id).getD []⟩]
def x0:gC:=⟨[],[],[]⟩
def j7 (s:ByteArray):jJ×Int:=
 if 65536 < s.size then (kY,7)
 else match er (bc s) with
  | .no _ e=>(kY,e)
  | .ok v _=>if v.op≠5 then (kY,10) else if (eg v.kids x0).2≠0 then (kY,(eg v.kids x0).2)
    else fY ((eg v.kids x0).1.ids.map (lZ (eg v.kids x0).1)) ((eg v.kids x0).1.ids.flatMap (fm (eg v.kids x0).1))
structure BB (v:JV):Prop where
 len:v.kids.length≤100000
 kids:∀ k∈v.kids,yI k
 tids:∀ k∈v.kids,(cH k cU 3).n≤1000000000000000
 evs:(eg v.kids x0).2=0→(((eg v.kids x0).1.ids.flatMap (fm (eg v.kids x0).1)).map fun p=>p.evs.length).sum≤1000
theorem Eo {l:List (Int×List Ev)} {a:Int} {y:List Ev} {p:Int×List Ev} (hp:p∈dp l a y):p=(a,y)∨p∈l:=by
 induction l with
 | nil=>simp[dp] at hp;exact .inl hp
 | cons q r I=>simp only[dp] at hp;grind
theorem r9 (l:List Int) (id:Int):(fu l id).length≤l.length+1:=by grind[fu]
theorem qf {l:List Int} (h:l.Nodup) (id:Int):(fu l id).Nodup:=by unfold fu;grind
theorem y5 {l:List Int} {id a:Int} (h:a∈fu l id):a∈l∨a=id:=by unfold fu at h;grind
theorem DT {n:Nat} {x:gC} (h:vW n x) (j:JV):vW (n+1) (eV x j).1:=by
 obtain⟨h1,h2,h3,h4⟩:=h;have same:vW (n+1) x:=⟨h1,h2,by omega,fun p hp=>Nat.le_succ_of_le (h4 p hp)⟩;unfold eV;split;·grind
 split
 ·split
  ·refine⟨h1,oV h2 _ _,Nat.le_trans (r9 _ _) (by omega),fun p hp=>?_⟩
   rcases Eo hp with rfl | hp
   ·show(_++[_]).length≤_
    rw[List.length_append];have:((cb x.evs (cE j).1).getD []).length≤n:=by
     unfold cb
     cases q:x.evs.find? fun p=>decide (p.1=(cE j).1) with
     | none=>simp
     | some p=>simpa [q] using h4 p (List.mem_of_find?_eq_some q)
    grind
   ·grind
  ·grind
 split;·grind
 split;·grind
 split;·grind
 ·exact⟨oV h1 _ _,h2,Nat.le_trans (r9 _ _) (by omega),fun p hp=>Nat.le_succ_of_le (h4 p hp)⟩
def HL (x:gC):Prop:=x.ids.Nodup∧∀ a∈x.ids,0≤a∧a≤1000000000000000
theorem B3 {j:JV} (h:(cE j).2.2=0):cS j (dm j)=false∧(cE j).1=(cH j cU 3).n:=by unfold cE at h ⊢;grind
theorem DP {j:JV} (h:cS j (dm j)=false):0≤(cH j cU 3).n:=by unfold cS at h;grind
theorem Et {x:gC} (h:HL x) {j:JV} (hj:(cH j cU 3).n≤1000000000000000):HL (eV x j).1:=by
 obtain⟨h1,h2⟩:=h;have add:∀ (id:Int),0≤id→id≤1000000000000000→(fu x.ids id).Nodup∧∀ a∈fu x.ids id,0≤a∧a≤1000000000000000:=fun id q1 q2=>⟨qf h1 id,fun a I=>(y5 I).elim (h2 a) (fun e=>e▸⟨q1,q2⟩)⟩;unfold eV
 cases hb:cS j (dm j) with
 | true=>exact⟨h1,h2⟩
 | false=>
   have h0:=DP hb;rw[if_neg (by simp)];split
   ·split
    ·rename_i q
     have:=(B3 q).2;exact add _ (by omega) (by omega)
    ·exact⟨h1,h2⟩
   split;·exact⟨h1,h2⟩
   split;·exact⟨h1,h2⟩
   split;·exact⟨h1,h2⟩
   ·exact add _ h0 hj
theorem zA (x:gC):∀ ids:List Int,((ids.flatMap (fm x)).map bw.thread).Sublist ((ids.map (lZ x)).map dc.id)
 | []=>by simp
 | id::r=>by
   rw[List.flatMap_cons,List.map_append,List.map_cons,List.map_cons];have h:=zA x r;unfold fm at h ⊢;split;·grind
   ·exact List.Sublist.cons_cons _ h
theorem pZ (x:gC) (l:List Int) {n:Nat} (h:l.length≤n):(l.flatMap (fm x)).length≤n:=by
 refine Nat.le_trans ?_ h;clear h
 induction l with
 | nil=>simp
 | cons a r I=>grind[List.length_append,List.length_cons,fm]
theorem FF {x:gC} {id:Int} {p:bw} (h:p∈fm x id):p.serial=0∧p.lost=0∧0 < p.evs.length:=by unfold fm at h;grind
theorem z7 {l:List bw} {p:bw} (h:p∈l):p.evs.length≤(l.map fun p=>p.evs.length).sum:=by
 induction l with
 | nil=>cases h
 | cons q r I=>grind
theorem GL {x:gC} (hs:((x.ids.flatMap (fm x)).map fun p=>p.evs.length).sum≤1000):uk (x.ids.map (lZ x)) (x.ids.flatMap (fm x)):=by refine⟨zA x x.ids,fun p hp=>?_,by omega⟩;obtain⟨id,_,h⟩:=List.mem_flatMap.1 hp;obtain⟨a,b,c⟩:=FF h;exact⟨a,b,c,Nat.le_trans (z7 hp) hs⟩
def fL {α:Type} (p:α→α→Bool):List α→List α→Bool
 | [],[]=>true
 | x::r,y::s=>p x y && fL p r s
 | _,_=>false
theorem sY {α:Type} {p:α→α→Bool}:∀ {l m:List α},fL p l m=true→l.length=m.length
 | [],[],_=>rfl
 | x::r,y::s,h=>by simp only[fL,Bool.and_eq_true] at h;simp[sY h.2]
 | [],_::_,h=>by cases h
 | _::_,[],h=>by cases h
theorem pK {α:Type} {p:α→α→Bool} (hp:∀ x y,p x y=true↔x=y):∀ {l m:List α},fL p l m=true↔l=m
 | [],[]=>by simp[fL]
 | x::r,y::s=>by simp[fL,hp,pK hp (l:=r) (m:=s)]
 | [],_::_=>by simp[fL]
 | _::_,[]=>by simp[fL]
def wP (a b:Ev):Bool:=decide (a.time=b.time) && decide (a.kind=b.kind) && decide (a.name=b.name) && decide (a.n=b.n) && decide (a.m=b.m) && decide (a.stack=b.stack)
theorem Cv (a b:Ev):wP a b=true↔a=b:=by cases a;cases b;simp only[wP,Bool.and_eq_true,decide_eq_true_eq,Ev.mk.injEq];grind
def kM (p q:bw):Bool:=decide (p.thread=q.thread) && decide (p.serial=q.serial) && decide (p.lost=q.lost) && fL wP p.evs q.evs
theorem tP (p q:bw):kM p q=true↔p=q:=by cases p;cases q;simp only[kM,Bool.and_eq_true,decide_eq_true_eq,bw.mk.injEq,pK Cv];grind
def qM (a b:jJ):Bool:=decide (a.ts=b.ts) && decide (a.ds=b.ds) && fL kM a.ps b.ps
theorem Bj (a b:jJ):qM a b=true↔a=b:=by cases a;cases b;simp only[qM,Bool.and_eq_true,decide_eq_true_eq,jJ.mk.injEq,pK tP];grind
structure GT where
 id:Int
 name:ByteArray
 dom:Int
deriving DecidableEq
@[reducible] def GT.c (t:GT):List D:=[ci t.id,cs t.name,ci t.dom]
structure Sn where
 a:Int
 ata:Int
 b:Int
 lo:Int
 hi:Int
deriving DecidableEq
@[reducible] def Sn.c (s:Sn):List D:=[ci s.a,ci s.ata,ci s.b,ci s.lo,ci s.hi]
@[reducible] def sd (ts:List GT) (ds:List (Int×Int)) (sn:List Sn):List D:=[.sl (ts.map GT.c),.sl (ds.map dC),.sl (sn.map Sn.c)]
structure fb where
 ts:List GT
 ds:List (Int×Int)
 sn:List Sn
 ps:List bw
@[reducible] def fb.c (l:fb):List D:=[.sl (l.ts.map GT.c),.sl (l.ds.map dC),.sl (l.sn.map Sn.c),.sl (l.ps.map bw.c)]
def wW:fb:=⟨[],[],[],[]⟩
/-! heads -/
def jW (t:GT):Int:=if t.id < 0∨1000000000000000 < t.id∨t.dom < 0∨8≤t.dom then 2 else cY t.name
def gw:List GT→List Int→Int
 | [],_=>0
 | t::r,seen=>if jW t≠0 then jW t else if (seen.any fun x=>decide (x=t.id))=true then 4 else gw r (seen++[t.id])
def xC (d:Int×Int):Bool:=decide (d.1 < 0∨8≤d.1∨d.2 < 0∨10000 < d.2)
def kX (ds:List (Int×Int)) (a:Int):Bool:=ds.any fun d=>decide (d.1=a)
def kA:List (Int×Int)→List (Int×Int)→Int
 | [],_=>0
 | d::r,seen=>if xC d=true then 2 else if kX seen d.1=true then 4 else kA r (seen++[d])
def CZ (n:Int):Bool:=decide (0≤n) && decide (n≤1000000000000)
def fX (ds:List (Int×Int)) (x:Sn):Int:=
 if kX ds x.a=false∨kX ds x.b=false then 5 else if x.a=x.b then 1 else if CZ x.ata=false∨CZ x.lo=false∨CZ x.hi=false∨x.hi < x.lo then 2 else 0
def oB (ds:List (Int×Int)):List Sn→Int
 | []=>0
 | x::r=>if fX ds x≠0 then fX ds x else oB ds r
def eI (ds:List (Int×Int)) (sn:List Sn):Int:=
 if ds=[] then 8 else if 8 < ds.length∨200 < sn.length then 7 else if ds.head?≠some (0,0) then 10 else if kA ds []≠0 then kA ds [] else oB ds sn
def mK (ds:List (Int×Int)) (ts:List GT):Bool:=ts.all fun t=>kX ds t.dom
def eB (ts:List GT) (ds:List (Int×Int)) (sn:List Sn):Int:=
 if ts=[] then 8 else if 64 < ts.length then 7 else if gw ts []≠0 then gw ts [] else if eI ds sn≠0 then eI ds sn else if mK ds ts=false then 5 else 0
/-! packets -/
def jl (n:Int):Bool:=decide (n < 0) || decide (1000000000000000 < n)
def dT (p:bw):Int:=
 if jl p.thread=true∨jl p.serial=true∨jl p.lost=true then 2 else if p.serial < p.lost∨1000000000000000 < IntKind.i64.wrap (p.serial+p.evs.length) then 2
 else if p.evs=[] then 8 else if 1000 < p.evs.length then 7 else iU p.evs none
def IV (p:bw):Int:=match p.evs with | []=>0 | e::_=>e.time
def nL (p:bw):Int:=match p.evs.getLast? with | none=>0 | some e=>e.time
def jv (ps:List bw) (th:Int):Int×Int:=match (ps.filter fun p=>decide (p.thread=th)).getLast? with | none=>(0,0) | some p=>(p.serial+p.evs.length,nL p)
def nw (t:Int×Int) (p:bw):Bool:=decide (p.serial - p.lost=t.1) && decide (t.2≤IV p)
def gH (ids:List Int):List bw→List bw→Int
 | _,[]=>0
 | I,p::r=>if dT p≠0 then dT p else if p.thread∉ids then 5 else if nw (jv I p.thread) p=false then 11 else gH ids (I++[p]) r
theorem gy {p:bw} (h:dT p=0):(0≤p.thread∧p.thread≤1000000000000000)∧(0≤p.serial∧p.serial≤1000000000000000)∧(0≤p.lost∧p.lost≤p.serial)∧p.evs≠[]∧p.evs.length≤1000∧iU p.evs none=0:=by
 unfold dT jl at h;split at h;·cases h
 ·rename_i h1
  split at h;·cases h
  ·rename_i h2
   split at h;·cases h
   ·split at h
    ·cases h
    ·rename_i h3 h4
     simp at h1 h2;exact⟨by omega,by omega,by omega,h3,by omega,h⟩
theorem uJ (ps:List bw) (p:bw) (th:Int):jv (ps++[p]) th=if p.thread=th then (p.serial+p.evs.length,nL p) else jv ps th:=by
 unfold jv;rw[List.filter_append];by_cases e:p.thread=th;·simp[e]
 ·simp[e]
/-! the parts -/
def mR (own:List bw) (p:bw):List bw:=
 if 0 < p.lost then own++[p] else match own.getLast? with
  | none=>[p]
  | some q=>own.dropLast++[⟨q.thread,q.serial,q.lost,q.evs++p.evs⟩]
def cp (th:Int) (ps:List bw):List bw:=(ps.filter fun p=>decide (p.thread=th)).foldl mR []
theorem jL (th:Int) (ps:List bw) (p:bw):cp th (ps++[p])=if p.thread=th then mR (cp th ps) p else cp th ps:=by
 unfold cp;rw[List.filter_append];by_cases e:p.thread=th;·simp[e,List.foldl_append]
 ·simp[e]
def gX (ts:List GT) (ds:List (Int×Int)) (sn:List Sn) (ps:List bw):fb×Int:=
 if eB ts ds sn≠0 then (wW,eB ts ds sn) else if gH (ts.map GT.id) [] ps≠0 then (wW,gH (ts.map GT.id) [] ps) else (⟨ts,ds,sn,ts.flatMap fun t=>cp t.id ps⟩,0)
def pc (a b:fb):Bool:=decide (a.ts=b.ts) && decide (a.ds=b.ds) && decide (a.sn=b.sn) && fL kM a.ps b.ps
theorem vI (a b:fb):pc a b=true↔a=b:=by
 cases a;cases b;simp only[pc,Bool.and_eq_true,decide_eq_true_eq,fb.mk.injEq,pK tP];constructor;·rintro⟨⟨⟨h1,h2⟩,h3⟩,h4⟩;exact⟨h1,h2,h3,h4⟩
 ·rintro⟨h1,h2,h3,h4⟩;exact⟨⟨⟨h1,h2⟩,h3⟩,h4⟩
def ja (l:fb):Int:=if (gX l.ts l.ds l.sn l.ps).2=0∧pc (gX l.ts l.ds l.sn l.ps).1 l=false then 10 else (gX l.ts l.ds l.sn l.ps).2
end Go.Tb
namespace Go.Ab
open Go.RowKit
section
variable {P:Program} {C:Ctx} {n:Nat} {Q:Exit→St→Prop} {c:Code} {ops:Array Oper} {rest:List Oper} {o:Oper}
variable {f f':List (Nat×A)} {bx:List (Nat×List A)} {lv:List Nat} {gen:Nat}
theorem bg.Ia {G:Gh} {tmps:Array Value} {w:World} (hs:bg C n ⟨f,bx,lv,gen⟩ G tmps w) (s s2:Nat) {g:Nat} {es:List (List D)} (hl:look f s=some (.own g es)) (M:Nat.blt s n=true) (I:Nat.blt s2 n=true) :
 ∃ v,dd v=true∧bg C n ⟨(s,.d (.v v))::(s2,.ow g es v)::f,bx,lv,gen⟩ G tmps w:=by
 obtain⟨v,U,X⟩:=hs.frame s _ hl
 cases X with
 | own _ _ _ hd hg J=>
 have hok:dd v=true:=by cases hd <;> rfl
 have N:s2 < tmps.size:=by rw[hs.size];exact Nat.le_of_ble_eq_true I
 have O:tmps[s2]? = some tmps[s2]:=by simp[N]
 refine⟨v,hok,?_⟩;have h1:=hs.set (d:=s2) (Nat.le_of_ble_eq_true I) (v:=tmps[s2]) (a:=.ow g es v) (.ow _ v g es hd hg J);rw[eM O] at h1;have h2:=h1.set (d:=s) (Nat.le_of_ble_eq_true M) (v:=v) (a:=.d (.v v)) (.d (.v v hok));rwa [eM U] at h2
theorem Gz (s s2:Nat) {g:Nat} {es:List (List D)} (hl:look f s=some (.own g es)) (J:Nat.blt s n=true) (I:Nat.blt s2 n=true)
 (h:∀ v,dd v=true→WO P C n ops Q rest ⟨(s,.d (.v v))::(s2,.ow g es v)::f,bx,lv,gen⟩):WO P C n ops Q rest ⟨f,bx,lv,gen⟩:=by
 intro tmps w ⟨G,hs⟩;obtain⟨v,M,h1⟩:=hs.Ia s s2 hl J I;exact h v M tmps w ⟨G,h1⟩
end
end Go.Ab
namespace Go.Ab
open Go.RowKit Go.MapKept
def xn {γ:Type} (fn:γ→List D) (l:List (Value×List γ)) (hole:Option Nat) (w:World) (pv:Nat→Nat→Prop) (bs:List (Nat×Nat)):Prop:=
 ∃ ps:Nat→Option Nat,(∀ i j c,i < l.length→j < l.length→hole≠some i→hole≠some j→ps i=some c→ps j=some c→i=j) ∧
   ∀ (i:Nat) (p:Value×List γ),l[i]? = some p→bE w pv p.1 (.sl (p.2.map fn))∧(hole≠some i→lW w (ps i) bs p.1 (p.2.map fn))
theorem xn.mono {γ:Type} {fn:γ→List D} {l:List (Value×List γ)} {hole:Option Nat} {w w':World} {pv I:Nat→Nat→Prop} {bs:List (Nat×Nat)} (J:∀ b o u,cellAt w b o=some u→¬ pv b o→cellAt w' b o=some u∧¬ I b o) (hb:∀ p∈bs,w'.heap[p.1]? = w.heap[p.1]?) (h:xn fn l hole w pv bs):xn fn l hole w' I bs:=by obtain⟨ps,h1,h2⟩:=h;exact⟨ps,h1,fun i p hp=>⟨(h2 i p hp).1.mono J,fun M=>((h2 i p hp).2 M).mono fun c lim _ hm=>⟨hm,hb _ hm⟩⟩⟩
def iT {γ:Type} (fn:γ→List D) (l:List (Value×List γ)) (hole:Option Nat):Iv:=⟨fun w pv bs _=>xn fn l hole w pv bs,xn.mono⟩
section
variable {C:Ctx} {n:Nat} {st:St} {G:Gh} {tmps:Array Value} {w:World}
theorem bg.yp (h:bg C n st G tmps w):∃ N:Gh,N.box=G.box∧N.own st.gen=some (.mp none [])∧(bj C G st.gen w).le (bj C N (st.gen+1) w)∧bg C n { st with lv:=st.gen::st.lv,gen:=st.gen+1 } N tmps w:=by
 let J:Nat→Option Row:=fun g=>if g=st.gen then some (.mp none []) else G.own g;have old:∀ {g r},J g=some r→g≠st.gen→G.own g=some r:=fun {g r} I O=>by simpa only[J,if_neg O] using I
 have ge:∀ {g r},J g=some r→st.gen≤g→r=.mp none []:=fun {g r} I U=>by
  by_cases e:g=st.gen;·grind
  ·have:=h.gown g r (old I e);omega
 obtain⟨q1,q2⟩:=h.grow (w':=w) (.refl _ w) J (st.gen+1) (st.gen::st.lv) (Nat.le_succ _) (fun g r M I=>old I (Nat.ne_of_lt M)) (fun g r I=>by
  by_cases e:g=st.gen;·omega
  ·exact Nat.lt_succ_of_lt (h.gown g r (old I e)))
  (fun g M=>by
   rcases List.mem_cons.1 M with rfl | M
   ·exact⟨_,by simp[J];rfl⟩
   ·obtain⟨r,I⟩:=h.live g M
    exact⟨r,by simp only[J,if_neg (Nat.ne_of_lt (h.gown g r I))];exact I⟩)
  (fun g b len cap sz X M I=>by cases ge I M) (fun g b bs M I=>by cases ge I M) (fun g b bs c lim M I hm=>by cases ge I M;cases hm)
 grind
end
section
variable {P:Program} {C:Ctx} {n:Nat} {Q:Exit→St→Prop} {c:Code} {ops:Array Oper} {rest:List Oper} {o:Oper}
variable {f:List (Nat×A)} {bx:List (Nat×List A)} {lv:List Nat} {gen:Nat}
variable {γ:Type} {fn:γ→List D}
theorem H5 (fn:γ→List D) (O J:Nat) {M I:List A} (hq:aY bx O=some M) (U:M.set J (.gi gen (iT fn [] none))=I) (h:W P C n c Q ⟨f,(O,I)::bx,gen::lv,gen+1⟩):W P C n c Q ⟨f,bx,lv,gen⟩:=by
 subst U;intro tmps w ⟨G,hs⟩;obtain⟨X,ai,ho,hle,ad⟩:=hs.yp;refine h tmps w ⟨X,ad.fw (f:=f) (bx:=bx) (lv:=gen::lv) (gen:=gen+1) hq (by simp) fun b cs T _ _ q3 i x a hx N=>?_⟩;by_cases e:J=i
 ·subst e
  by_cases hlt:J < M.length
  ·rw[List.getElem?_set_self hlt] at N
   simp only[Option.some.injEq] at N;subst N;refine .gi _ _ _ (by simp[bj]) fun r hr=>?_;have:X.own gen=some r:=hr;rw[ho] at this;cases this;exact⟨fun _=>none,fun i j c hi=>by simp at hi,fun i p hp=>by simp at hp⟩
  ·grind
 ·grind
theorem bg.j6 {G:Gh} {tmps:Array Value} {w:World} (hs:bg C n ⟨f,bx,lv,gen⟩ G tmps w) {gq J:Nat} {X:List A} {g:Nat} {I:Iv} (hq:aY bx gq=some X) (hj:X[J]? = some (.gi g I)) (ai:(lv.any fun h=>Nat.beq h g)=true) :
 ∃ bs x,G.own g=some (.mp none bs)∧I.P w (bM C G) bs x:=by
 obtain⟨r,U⟩:=hs.live g (dw ai);obtain⟨b0,M,T0,p1,p2,p3,p4,p5⟩:=hs.box gq X hq;have aj:J < M.size:=by rw[p3];exact(List.getElem?_eq_some_iff.1 hj).1
 have N:=p5 J M[J] _ (by simp[aj]) hj;generalize M[J]=x at N
 cases N with
 | gi _ _ _ a1 ad=>
 have O:=ad r U
 cases r with
 | nil=>exact O.elim
 | zero b=>exact O.elim
 | blk b len cap sz a6=>exact O.elim
 | mp b bs=>
   cases b with
   | some b=>exact O.elim
   | none=>exact⟨bs,_,U,O⟩
theorem HB (O I:Nat) {M J:List A} {g:Nat} {l:List (Value×List γ)} (U:aY bx O=some M) (hj:M[I]? = some (.gi g (iT fn l none))) (X:(lv.any fun h=>Nat.beq h g)=true) (ad:M.set I (.gi g (iT fn (l++[(.slice none 0 0,[])]) none))=J)
 (h:W P C n c Q ⟨f,(O,J)::bx,lv,gen⟩):W P C n c Q ⟨f,bx,lv,gen⟩:=by
 subst ad;intro tmps w ⟨G,hs⟩;obtain⟨bs,_,ai,ps,h1,h2⟩:=hs.j6 U hj X;refine h tmps w ⟨G,hs.fw U (by simp) fun b cs T _ _ q3 i x a hx N=>?_⟩;by_cases e:I=i
 ·subst e
  rw[List.getElem?_set_self (List.getElem?_eq_some_iff.1 hj).1] at N;simp only[Option.some.injEq] at N;subst N
  cases q3 I x _ hx hj with
  | gi _ _ _ aj _=>
  refine .gi _ _ _ aj fun r hr=>?_;have:G.own g=some r:=hr;rw[ai] at this;cases this;refine⟨fun i=>if i < l.length then ps i else none,fun i j c _ _ _ _ hi hj=>?_,fun i p hp=>?_⟩;·grind
  ·dsimp only
   split
   ·rename_i a1
    rw[List.getElem?_append_left a1] at hp;exact h2 i p hp
   ·rename_i a6
    rw[List.getElem?_append_right (by omega)] at hp;have:i - l.length=0:=by grind
    rw[this] at hp;simp only[List.getElem?_cons_zero,Option.some.injEq] at hp;subst hp;exact⟨.nil,fun _=>.inl ⟨rfl,rfl⟩⟩
 ·grind
theorem Iz (N O i:Nat) {I:List A} {g:Nat} {l:List (Value×List γ)} {hole:Option Nat} {v:Value} {es:List γ} {r:List (List D)} (U:aY bx N=some I) (hj:I[O]? = some (.gi g (iT fn l hole))) (J:(lv.any fun h=>Nat.beq h g)=true) (hi:l[i]? = some (v,es)) (X:es.map fn=r)
 (h:Pu P C n ⟨f,bx,lv,gen⟩ o (.d (.v v))):Pu P C n ⟨f,bx,lv,gen⟩ o (.d (.sl r)):=by
 subst X;intro G tmps w hs;refine(h G tmps w hs).mono fun v' w' ⟨h1,h2⟩=>⟨h1,?_⟩;cases h2 with | d h2=>cases h2 with | v _ _=>
 obtain⟨_,M⟩:=hs.gF h1;obtain⟨bs,_,_,ps,_,h4⟩:=M.j6 U hj J;exact .d (h4 i _ hi).1
theorem Is (U I:Nat) {N:List A} {g:Nat} {es:List (List D)} {v:Value} (hq:aY bx U=some N) (hj:N[I]? = some (.ow g es v)) (h:Pu P C n ⟨f,bx,lv,gen⟩ o (.d (.v v))):Pu P C n ⟨f,bx,lv,gen⟩ o (.own g es):=by
 intro G tmps w hs;refine(h G tmps w hs).mono fun v' w' ⟨h1,h2⟩=>⟨h1,?_⟩;cases h2 with | d h2=>cases h2 with | v _ _=>
 obtain⟨_,X⟩:=hs.gF h1;obtain⟨b0,J,T0,p1,p2,p3,p4,p5⟩:=X.box U N hq;have ad:I < J.size:=by rw[p3];exact(List.getElem?_eq_some_iff.1 hj).1
 have M:=p5 I J[I] _ (by simp[ad]) hj;generalize J[I]=x at M
 cases M with
 | ow _ _ _ _ hd hg O=>exact .own _ g es hd hg O
theorem Fq (gq O U i:Nat) {X ai:List A} {g:Nat} {l:List (Value×List γ)} {v:Value} {es:List γ} (M:aY bx gq=some X) (hj:X[O]? = some (.gi g (iT fn l none))) (a8:(lv.any fun h=>Nat.beq h g)=true) (hi:l[i]? = some (v,es)) (b0:Nat.beq O U=false) {lv':List Nat} (b2:gen::(gen+1)::bD lv g=lv')
 (b3:(X.set O (.gi gen (iT fn l (some i)))).set U (.ow (gen+1) (es.map fn) v)=ai) (h:W P C n c Q ⟨f,(gq,ai)::bx,lv',gen+2⟩):W P C n c Q ⟨f,bx,lv,gen⟩:=by
 subst b3;subst b2;intro tmps w ⟨G,hs⟩;obtain⟨bs,_,b4,ps,a1,N⟩:=hs.j6 M hj a8;have c7:O≠U:=fun e=>by subst e;simp at b0
 have df:i < l.length:=(List.getElem?_eq_some_iff.1 hi).1;obtain⟨hd,I⟩:=N i _ hi;have I:=I (by simp);obtain⟨s,aj⟩:=hd.I2
 have key:∀ (r2:Row) (bs':List (Nat×Nat)),(∀ p∈bs',p∈bs)→(∀ b' bs',r2≠.mp b' bs') →
  (∀ c len cap sz ad,r2=.blk c len cap sz ad→(c,ad)∈bs∧(∀ p∈bs',p.1≠c)∧∃ cur T,w.heap[c]? = some (.cells cur T (0,0))∧cur.size=cap*sz∧len≤cap∧cap≤maxLen∧0 < sz∧0 < len∧ad≤len*sz∧fe cur) →
  (∀ (k:Nat) (p:Value×List γ),l[k]? = some p→k≠i→lW w (ps k) bs' p.1 (p.2.map fn)) →
  (∃ s,(∀ (e:List D),e∈es.map fn→e.length=s)∧rP r2 v (es.map fn).length s)→ez C n ⟨f,(gq,(X.set O (.gi gen (iT fn l (some i)))).set U (.ow (gen+1) (es.map fn) v))::bx,gen::(gen+1)::bD lv g,gen+2⟩ tmps w:=by
  intro r2 bs' a6 b5 b6 a7 cx;obtain⟨G',di,ch,dj,hle,cj⟩:=hs.split b4 a6 r2 b5 b6 (bD lv g) (fun g' cl=>cf cl);refine⟨G',cj.fw (f:=f) (bx:=bx) (lv:=gen::(gen+1)::bD lv g) (gen:=gen+2) M (by simp) fun b cs T _ _ q3 k x a hx J=>?_⟩;by_cases e2:U=k
  ·subst e2
   by_cases hlt:U < X.length
   ·rw[List.getElem?_set_self (by simpa using hlt)] at J
    simp only[Option.some.injEq] at J;subst J;refine .ow _ _ _ _ (hd.mono fun b o u hu hp=>hle.cell b o u hu hp) (by simp[bj]) fun r hr=>?_;have:G'.own (gen+1)=some r:=hr;grind
   ·grind
  ·rw[List.getElem?_set_ne e2] at J
   by_cases e:O=k
   ·subst e
    rw[List.getElem?_set_self (List.getElem?_eq_some_iff.1 hj).1] at J;simp only[Option.some.injEq] at J;subst J;refine .gi _ _ _ (by simp[bj]) fun r hr=>?_;have:G'.own gen=some r:=hr;rw[ch] at this;cases this;exact⟨ps,fun a b c J hb h1 h2=>a1 a b c J hb (by simp) (by simp),fun k p hp=>⟨(N k p hp).1.mono fun b o u hu hp=>hle.cell b o u hu hp,fun hh=>a7 k p hp (fun e=>hh (by rw[e]))⟩⟩
   ·grind
 cases hps:ps i with
 | none=>
   rw[hps] at I;rcases I with ⟨t1,t2⟩ | ⟨c,off,t1⟩
   ·exact h tmps w (key .nil bs (fun _ h=>h) (fun _ _ h=>by cases h) (fun _ _ _ _ _ h=>by cases h) (fun k p hp _=>(N k p hp).2 (by simp)) ⟨s,aj,t1,by rw[show(es.map fn).length=0 from by rw[t2];rfl]⟩)
   ·exact h tmps w (key (.zero c) bs (fun _ h=>h) (fun _ _ h=>by cases h) (fun _ _ _ _ _ h=>by cases h) (fun k p hp _=>(N k p hp).2 (by simp)) ⟨s,aj,off,t1⟩)
 | some c=>
   rw[hps] at I;obtain⟨cap,sz,cur,T1,t1,t2,t3,t4,t5,t6,t7,t8,t9,t10⟩:=I
   refine h tmps w (key (.blk c (es.map fn).length cap sz ((es.map fn).length*sz)) (bs.filter fun q=>!Nat.beq q.1 c) (fun q M=>(List.mem_filter.1 M).1) (fun _ _ h=>by cases h)
    (fun c' cy c1 dt c6 h=>by simp only[Row.blk.injEq] at h;obtain⟨rfl,rfl,rfl,rfl,rfl⟩:=h;exact⟨t2,fun q M e=>by have:=(List.mem_filter.1 M).2;rw[e] at this;simp at this,cur,T1,t8,t9,t6,t7,t4,t5,Nat.le_refl _,t10⟩)
    (fun k p hp hk=>((N k p hp).2 (by simp)).mono fun c' lim e1 e2=>⟨List.mem_filter.2 ⟨e2,?_⟩,rfl⟩) ⟨sz,t3,t1,rfl,rfl,rfl⟩)
   have:c'≠c:=fun e=>by grind
   cases M:Nat.beq c' c with
   | false=>rfl
   | true=>exact absurd (Nat.eq_of_beq_eq_true M) this
theorem HV (gq jq s i:Nat) {cq ad:List A} {g g2:Nat} {l l':List (Value×List γ)} {v:Value} {es:List γ} {ai:List (List D)} (hq:aY bx gq=some cq) (hj:cq[jq]? = some (.gi g (iT fn l (some i)))) (hl:look f s=some (.ow g2 ai v)) (b3:es.map fn=ai) (b4:(lv.any fun h=>Nat.beq h g)=true) (a6:(lv.any fun h=>Nat.beq h g2)=true) (b5:Nat.beq g2 g=false)
 (b6:l.set i (v,es)=l') {lv':List Nat} (ch:gen::bD (bD lv g) g2=lv') (cj:cq.set jq (.gi gen (iT fn l' none))=ad) (h:W P C n c Q ⟨f,(gq,ad)::bx,lv',gen+1⟩):W P C n c Q ⟨f,bx,lv,gen⟩:=by
 subst cj;subst ch;subst b6;subst b3;intro tmps w ⟨G,hs⟩;obtain⟨bs,_,aj,ps,a7,a1⟩:=hs.j6 hq hj b4;have cl:g2≠g:=fun e=>by subst e;simp at b5
 obtain⟨r2,M⟩:=hs.live g2 (dw a6);obtain⟨x,hx,hr⟩:=hs.frame s _ hl
 cases hr with
 | ow _ _ _ _ hd dt a8=>
 obtain⟨ec,cx,N⟩:=a8 r2 M;obtain⟨bs',X,b0,b2,cy,c1⟩:∃ (bs':List (Nat×Nat)) (X:Option Nat),(∀ p∈bs,p∈bs')∧(∀ p∈bs',p∈bs∨∃ len cap sz,r2=.blk p.1 len cap sz p.2)∧lW w X bs' v (es.map fn)∧∀ c,X=some c→∃ len cap sz I,r2=.blk c len cap sz I:=by
  cases r2 with
  | nil=>exact⟨bs,none,fun _ h=>h,fun _ h=>.inl h,.inl ⟨N.1,List.eq_nil_of_length_eq_zero N.2⟩,fun c J=>by cases J⟩
  | zero c=>exact⟨bs,none,fun _ h=>h,fun _ h=>.inl h,.inr ⟨c,N⟩,fun c J=>by cases J⟩
  | mp _ _=>exact N.elim
  | blk c len cap sz I=>
    obtain⟨t1,t2,t3,t4⟩:=N;obtain⟨_,_,_,cur,T1,u1,u2,u3,u4,u5,u6,u7,u8⟩:=hs.row g2 c len cap sz I M;refine⟨(c,I)::bs,some c,fun p hp=>List.mem_cons_of_mem _ hp,fun p hp=>?_,⟨cap,sz,cur,T1,by rw[t1,t2],?_,fun e he=>(cx e he).trans t3,u5,by omega,by omega,u4,u1,u2,u8⟩,fun c' c6=>by cases c6;exact⟨len,cap,sz,I,rfl⟩⟩;·grind
    ·grind
 obtain⟨G',ed,c7,hle,df⟩:=hs.join (w':=w) aj M cl b2 (fun _ _=>rfl) (fun c J=>by cases J) rfl rfl rfl rfl (bD (bD lv g) g2) (fun g' di=>by obtain⟨t1,t2⟩:=cf di;obtain⟨t3,t4⟩:=cf t1;exact⟨t3,t4,t2⟩);have dx:∀ (c:Nat),X=some c→∀ lim,(c,lim)∉bs:=fun c J lim hm=>by obtain⟨len,cap,sz,I,e⟩:=c1 c J;rw[e] at M;exact(hs.sub g none bs c lim aj hm).2.2.1 _ _ _ _ _ M
 have ei:∀ (k c:Nat),k < l.length→k≠i→ps k=some c→∃ lim,(c,lim)∈bs:=fun k c hk dj J=>by have:=(a1 k l[k] (by simp[hk])).2 (fun e=>dj (Option.some.inj e).symm);rw[J] at this;obtain⟨cap,sz,cur,T1,t1,t2,_⟩:=this;grind
 refine h tmps w ⟨G',df.fw (f:=f) (bx:=bx) (lv:=gen::bD (bD lv g) g2) (gen:=gen+1) hq (by simp) fun b cs T _ _ q3 k x a hx O=>?_⟩;by_cases e:jq=k
 ·subst e
  rw[List.getElem?_set_self (List.getElem?_eq_some_iff.1 hj).1] at O;simp only[Option.some.injEq] at O;subst O;refine .gi _ _ _ (by simp[bj]) fun r hr=>?_;have:G'.own gen=some r:=hr;rw[c7] at this;cases this;refine⟨fun k=>if k=i then X else ps k,fun a b c O hb _ _ h1 h2=>?_,fun k p hp=>?_⟩
  ·simp only[List.length_set] at O hb
   dsimp only at h1 h2;split at h1;·grind
   ·rename_i U
    split at h2;·grind
    ·rename_i e2
     exact a7 a b c O hb (fun e=>U (Option.some.inj e).symm) (fun e=>e2 (Option.some.inj e).symm) h1 h2
  ·by_cases U:k=i
   ·subst U
    have hk:k < l.length:=by have:=(List.getElem?_eq_some_iff.1 hp).1;simpa using this
    rw[List.getElem?_set_self hk] at hp;simp only[Option.some.injEq] at hp;subst hp;simp only[if_true];exact⟨hd.mono fun b o u hu hp=>hle.cell b o u hu hp,fun _=>cy⟩
   ·rw[List.getElem?_set_ne (Ne.symm U)] at hp
    obtain⟨t1,t2⟩:=a1 k p hp;simp only[if_neg U];exact⟨t1.mono fun b o u hu hp=>hle.cell b o u hu hp,fun _=>(t2 (fun e=>U (Option.some.inj e).symm)).mono fun c lim _ hm=>⟨b0 _ hm,rfl⟩⟩
 ·grind
end
end Go.Ab
namespace Go.Ab
section
variable {P:Program} {C:Ctx} {n:Nat} {Q:Exit→St→Prop} {c:Code} {f:List (Nat×A)} {bx:List (Nat×List A)} {lv:List Nat} {gen:Nat}
theorem zy (M N:Nat) {O J:List A} (X:aY bx M=some O) (U:O.set N .any=J) (h:W P C n c Q ⟨f,(M,J)::bx,lv,gen⟩):W P C n c Q ⟨f,bx,lv,gen⟩:=by
 subst U;intro tmps w ⟨G,hs⟩;refine h tmps w ⟨G,hs.fw X (by simp) fun b cs T _ _ q3 i x a hx I=>?_⟩;by_cases e:N=i
 ·subst e
  rw[List.getElem?_set] at I;split at I
  ·split at I
   ·simp only[Option.some.injEq] at I
    subst I;exact .any x
   ·grind
  ·grind
 ·grind
end
end Go.Ab
namespace Go.Ab
open Go.RowKit Go.MapKept
def yO (l:List (Nat×List D)) (hole:Option Nat) (w:World) (pv:Nat→Nat→Prop) (bs:List (Nat×Nat)):Prop:=
 (∀ (i j:Nat) (p q:Nat×List D),l[i]? = some p→l[j]? = some q→p.1=q.1→i=j) ∧
  ∀ (i:Nat) (p:Nat×List D),l[i]? = some p→hole≠some i→(p.1,0)∈bs∧0 < p.2.length∧∃ cur T,w.heap[p.1]? = some (.cells cur T (0,0))∧cur.size=p.2.length∧fe cur∧∀ (j:Nat) (u:Value) (d:D),cur[j]? = some u→p.2[j]? = some d→bE w pv u d
theorem yO.mono {l:List (Nat×List D)} {hole:Option Nat} {w w':World} {pv I:Nat→Nat→Prop} {bs:List (Nat×Nat)} (J:∀ b o u,cellAt w b o=some u→¬ pv b o→cellAt w' b o=some u∧¬ I b o) (hb:∀ p∈bs,w'.heap[p.1]? = w.heap[p.1]?) (h:yO l hole w pv bs):yO l hole w' I bs:=
 ⟨h.1,fun i p hp M=>let ⟨h1,h2,cur,T,h3,h4,h5,h6⟩:=h.2 i p hp M;⟨h1,h2,cur,T,(hb _ h1).trans h3,h4,h5,fun j u d hu hd=>(h6 j u d hu hd).mono J⟩⟩
def kB (l:List (Nat×List D)) (hole:Option Nat):Iv:=⟨fun w pv bs _=>yO l hole w pv bs,yO.mono⟩
section
variable {P:Program} {C:Ctx} {n:Nat} {Q:Exit→St→Prop} {cd:Code}
variable {f f':List (Nat×A)} {bx bx':List (Nat×List A)} {lv:List Nat} {gen:Nat}
theorem G7 (O J:Nat) {M I:List A} (hq:aY bx O=some M) (U:M.set J (.gi gen (kB [] none))=I) (h:W P C n cd Q ⟨f,(O,I)::bx,gen::lv,gen+1⟩):W P C n cd Q ⟨f,bx,lv,gen⟩:=by
 subst U;intro tmps w ⟨G,hs⟩;obtain⟨X,ai,ho,hle,ad⟩:=hs.yp;refine h tmps w ⟨X,ad.fw (f:=f) (bx:=bx) (lv:=gen::lv) (gen:=gen+1) hq (by simp) fun b cs T _ _ q3 i x a hx N=>?_⟩;by_cases e:J=i
 ·subst e
  by_cases hlt:J < M.length
  ·rw[List.getElem?_set_self hlt] at N
   simp only[Option.some.injEq] at N;subst N;refine .gi _ _ _ (by simp[bj]) fun r hr=>?_;have:X.own gen=some r:=hr;rw[ho] at this;cases this;exact⟨fun i j p q hi=>by simp at hi,fun i p hp=>by simp at hp⟩
  ·grind
 ·grind
theorem ez.IG [hnb:NB C 0] {tmps:Array Value} {w:World} (hs:ez C n ⟨f,bx,lv,gen⟩ tmps w) (gq jq s:Nat) {cq:List A} {g J:Nat} {l:List (Nat×List D)} {y:List D} (hl:look f s=some (.ptr J 0)) (hq:aY bx gq=some cq) (hj:cq[jq]? = some (.gi g (kB l none))) (hb:aY bx J=some (y.map .d)) (hy:Nat.blt 0 y.length=true)
 (b0:(lv.any fun h=>Nat.beq h g)=true) (b2:Nat.blt s n=true) (hf:j8 J [] f=f') (b3:j0 J [] bx=some bx') (b4:aY bx' gq=some cq) {lv':List Nat} (b5:(gen+1)::bD lv g=lv') :
 ∃ c,ez C n ⟨(s,.d (.v (.pointer (some ⟨c,0,none⟩))))::f',(gq,cq.set jq (.gi (gen+1) (kB (l++[(c,y)]) none)))::bx',lv',gen+2⟩ tmps w:=by
 subst b5;subst hf;obtain⟨G,hs⟩:=hs;have b6:C.bx=[]:=List.eq_nil_of_length_eq_zero hnb.h;obtain⟨bs,_,N,a6,ai⟩:=hs.j6 hq hj b0;obtain⟨x,hx,O⟩:=hs.frame s _ hl
 cases O with
 | ptr _ _ _ c dj M ch=>
 have M:G.box J=some c:=M;have U:=hs.gown g _ N;obtain⟨G1,cs,T1,c1,c2,c3,c4,c5,c6,c7,cj⟩:=hs.xd b6 M hb (Nat.le_of_ble_eq_true hy) b3;have a7:G1.own g=some (.mp none bs):=by rw[c6 g (Nat.ne_of_lt U)];exact N
 have ad:∀ lim,(c,lim)∉bs:=fun lim hm=>(hs.sub g none bs c lim N hm).2.1 J M;obtain⟨G',dt,cl,hle,cx⟩:=cj.join (w':=w) (g:=g) (g2:=gen) (bs':=(c,0)::bs) a7 c5 (Ne.symm (Nat.ne_of_lt U)) (fun p hp=>by
  rcases List.mem_cons.1 hp with rfl | hp
  ·exact .inr ⟨_,_,_,rfl⟩
  ·exact .inl hp) (fun _ _=>rfl) (fun c hc=>by cases hc) rfl rfl rfl rfl (bD lv g) (fun g' cy=>by
  obtain⟨t1,t2⟩:=cf cy;obtain⟨r,O⟩:=hs.live g' t1;have:=hs.gown g' r O;exact⟨List.mem_cons_of_mem _ t1,t2,by simp only at this;omega⟩)
 have X:∀ {v:Value} {d:D},bE w (bM C G1) v d→bE w (bM C G') v d:=fun hd=>hd.mono fun b o u hu hp=>hle.cell b o u hu hp;have a8:∀ {v:Value} {d:D},bE w (bM C G) v d→bE w (bM C G') v d:=fun hd=>X (hd.mono fun b o u hu hp=>⟨hu,fun df=>hp (c7 b o df)⟩);have aj:=cx.set (d:=s) (Nat.le_of_ble_eq_true b2) (v:=x) (a:=.d (.v (.pointer (some ⟨c,0,none⟩)))) (by rw[ch];exact .d (.v _ rfl));rw[eM hx] at aj;refine⟨c,G',aj.fw (f:=(s,.d (.v (.pointer (some ⟨c,0,none⟩))))::j8 J [] f) (bx:=bx') (lv:=(gen+1)::bD lv g) (gen:=gen+2) b4 (by simp) fun b cs' T _ _ q3 k x' a di ha=>?_⟩;by_cases e:jq=k
 ·subst e
  rw[List.getElem?_set_self (List.getElem?_eq_some_iff.1 hj).1] at ha;simp only[Option.some.injEq] at ha;subst ha;refine .gi _ _ _ (by simp[bj]) fun r O=>?_;have:G'.own (gen+1)=some r:=O;rw[cl] at this;cases this;have a1:∀ {i:Nat} {p:Nat×List D},l[i]? = some p→p.1≠c:=fun hi e=>ad 0 (e▸(ai _ _ hi (by simp)).1);refine⟨fun i j p q hi I e=>?_,fun i p hp _=>?_⟩
  ·rcases Nat.lt_or_ge i l.length with h1 | h1 <;> rcases Nat.lt_or_ge j l.length with h2 | h2
   ·rw[List.getElem?_append_left h1] at hi;rw[List.getElem?_append_left h2] at I;exact a6 i j p q hi I e
   ·rw[List.getElem?_append_left h1] at hi;rw[List.getElem?_append_right h2] at I
    have:=a1 hi;grind
   ·rw[List.getElem?_append_right h1] at hi;rw[List.getElem?_append_left h2] at I
    have:=a1 I;grind
   ·rw[List.getElem?_append_right h1] at hi;rw[List.getElem?_append_right h2] at I
    grind
  ·rcases Nat.lt_or_ge i l.length with h1 | h1
   ·rw[List.getElem?_append_left h1] at hp
    obtain⟨q1,q2,cur,T,q4,q5,q6,q7⟩:=ai i p hp (by simp);exact⟨List.mem_cons_of_mem _ q1,q2,cur,T,q4,q5,q6,fun j u d hu hd=>a8 (q7 j u d hu hd)⟩
   ·rw[List.getElem?_append_right h1] at hp
    have e0:i - l.length=0:=by grind
    rw[e0] at hp;simp only[List.getElem?_cons_zero,Option.some.injEq] at hp;subst hp;exact⟨List.mem_cons_self,Nat.le_of_ble_eq_true hy,cs,T1,c1,c2,c3,fun j u d hu hd=>X (c4 j u d hu hd)⟩
 ·rw[List.getElem?_set_ne e] at ha
  exact q3 k x' a di ha
theorem H7 [hnb:NB C 0] {ops:Array Oper} {rest:List Oper} (I N s:Nat) {J:List A} {g M:Nat} {l:List (Nat×List D)} {y:List D} (hl:look f s=some (.ptr M 0)) (hq:aY bx I=some J) (hj:J[N]? = some (.gi g (kB l none))) (hb:aY bx M=some (y.map .d)) (hy:Nat.blt 0 y.length=true)
 (O:(lv.any fun h=>Nat.beq h g)=true) (U:Nat.blt s n=true) (hf:j8 M [] f=f') (X:j0 M [] bx=some bx') (ad:aY bx' I=some J) {lv':List Nat} (ai:(gen+1)::bD lv g=lv')
 (h:∀ c,WO P C n ops Q rest ⟨(s,.d (.v (.pointer (some ⟨c,0,none⟩))))::f',(I,J.set N (.gi (gen+1) (kB (l++[(c,y)]) none)))::bx',lv',gen+2⟩):WO P C n ops Q rest ⟨f,bx,lv,gen⟩:=
 fun tmps w hs=>let ⟨c,hs'⟩:=ez.IG hs I N s hl hq hj hb hy O U hf X ad ai;h c tmps w hs'
theorem HI (gq jq s s2 i:Nat) {cq:List A} {g c:Nat} {l:List (Nat×List D)} {y:List D} (hl:look f s=some (.d (.v (.pointer (some ⟨c,0,none⟩))))) (N:aY bx gq=some cq) (hj:cq[jq]? = some (.gi g (kB l none))) (b3:(lv.any fun h=>Nat.beq h g)=true) (hi:l[i]? = some (c,y))
 (b4:Nat.blt s n=true) (U:Nat.blt s2 n=true) (df:Nat.beq s s2=false) {lv':List Nat} (b5:gen::bD lv g=lv')
 (h:W P C n cd Q ⟨(s2,.lk (gen+2) 0 0 (.slice (some ⟨c,0,none⟩) 0 0))::(s,.ptr (gen+2) 0)::f,(gen+2,y.map .d)::(gq,cq.set jq (.gi gen (kB l (some i))))::bx,lv',gen+3⟩):W P C n cd Q ⟨f,bx,lv,gen⟩:=by
 subst b5;intro tmps w ⟨G,hs⟩;obtain⟨bs,_,b6,X,aj⟩:=hs.j6 N hj b3;obtain⟨r2,ad,cur,T1,r3,r4,r5,r6⟩:=aj i _ hi (by simp);simp only at r2 ad r3 r4 r5 r6;obtain⟨x,hx,J⟩:=hs.frame s _ hl;cases J with | d J=>cases J with | v _ hok=>
 have b2:s2 < tmps.size:=by rw[hs.size];exact Nat.le_of_ble_eq_true U
 have ch:tmps[s2]? = some tmps[s2]:=by simp[b2]
 obtain⟨G1,di,cj,cl,hle,cx⟩:=hs.split b6 (bs':=bs.filter fun q=>!Nat.beq q.1 c) (fun q N=>(List.mem_filter.1 N).1) (.blk c 1 1 y.length 0) (fun _ _ h=>by cases h) (fun c' len cap sz dj h=>by simp only[Row.blk.injEq] at h;obtain⟨rfl,rfl,rfl,rfl,rfl⟩:=h;exact⟨r2,fun q N e=>by have:=(List.mem_filter.1 N).2;rw[e] at this;simp at this,cur,T1,r3,by rw[r4];simp,Nat.le_refl _,by simp[maxLen],ad,by decide,Nat.zero_le _,r5⟩) (bD lv g) (fun O I=>cf I);have ai:∀ O∈gen::bD lv g,O∈gen::(gen+1)::bD lv g∧O≠gen+1:=fun O I=>by
  rcases List.mem_cons.1 I with rfl | I
  ·exact⟨List.mem_cons_self,by omega⟩
  ·obtain⟨t1,t2⟩:=cf I
   obtain⟨r,J⟩:=hs.live O t1;have:=hs.gown O r J;simp only at this;exact⟨List.mem_cons_of_mem _ (List.mem_cons_of_mem _ I),by omega⟩
 have cy:bg C n ⟨f,(gq,cq.set jq (.gi gen (kB l (some i))))::bx,gen::(gen+1)::bD lv g,gen+2⟩ G1 tmps w:=cx.fw (f:=f) (bx:=bx) (lv:=gen::(gen+1)::bD lv g) (gen:=gen+2) N (by simp) fun b cs T _ _ q3 k x a hx ha=>by
  by_cases e:jq=k
  ·subst e
   rw[List.getElem?_set_self (List.getElem?_eq_some_iff.1 hj).1] at ha;simp only[Option.some.injEq] at ha;subst ha;refine .gi _ _ _ (by simp[bj]) fun r J=>?_;have:G1.own gen=some r:=J;rw[cj] at this;cases this;refine⟨X,fun k p hp hk=>?_⟩;obtain⟨q1,q2,cur,T,q4,q5,q6,q7⟩:=aj k p hp (by simp);refine⟨List.mem_filter.2 ⟨q1,?_⟩,q2,cur,T,q4,q5,q6,fun j u d hu hd=>(q7 j u d hu hd).mono fun b o u hu hp=>hle.cell b o u hu hp⟩
   cases hb:Nat.beq p.1 c with
   | false=>rfl
   | true=>have e:=Nat.eq_of_beq_eq_true hb;exact absurd (congrArg some (X i k _ _ hi hp e.symm)) hk
  ·rw[List.getElem?_set_ne e] at ha
   exact q3 k x a hx ha
 obtain⟨G2,a1,c1⟩:=cy.C1 (g:=gen+1) (b:=c) (len:=1) (cap:=1) (sz:=y.length) cl (es:=[y]) (v:=.slice (some ⟨c,0,none⟩) 1 1) ⟨rfl,rfl,rfl,by simp,fun i j e d he hd=>by
  cases i with
  | zero=>
    simp only[List.getElem?_cons_zero,Option.some.injEq] at he;subst he;have c6:j < cur.size:=by rw[r4];exact(List.getElem?_eq_some_iff.1 hd).1
    have a6:cur[j]? = some cur[j]:=by simp[c6]
    refine⟨cur[j],?_,(r6 j _ d a6 hd).mono fun b o u hu hp=>hle.cell b o u hu hp⟩;rw[Nat.zero_mul,Nat.zero_add,cz r3,a6]
  | succ i=>simp at he⟩ (gen::bD lv g) ai
 have c7:sR [y] (1*y.length - 1*y.length)=y.map .d:=by simp[sR]
 rw[c7] at a1
 cases c1 with
 | sb _ _ _ _ b0 dt M dx hp=>
 simp only[Value.slice.injEq,Option.some.injEq,Addr.mk.injEq] at hp;have M:G2.box (gen+2)=some b0:=M;have ec:c=b0:=hp.1.1;subst ec;have a7:=a1.set (d:=s) (Nat.le_of_ble_eq_true b4) (v:=.pointer (some ⟨c,0,none⟩)) (a:=.ptr (gen+2) 0) (.ptr _ _ _ c (by show gen+2 < gen+3;omega) M rfl);rw[eM hx] at a7;have a8:=a7.set (d:=s2) (Nat.le_of_ble_eq_true U) (v:=tmps[s2]) (a:=.lk (gen+2) 0 0 (.slice (some ⟨c,0,none⟩) 0 0)) (.lk _ _ _ _ c _ (by show gen+2 < gen+3;omega) M ⟨Nat.le_refl _,Nat.zero_le _⟩ rfl);rw[eM ch] at a8;exact h tmps w ⟨G2,a8⟩
theorem Fx [hnb:NB C 0] (gq jq s2 i:Nat) {cq:List A} {g J c:Nat} {l l':List (Nat×List D)} {y y0:List D} (hl:look f s2=some (.lk J 0 0 (.slice (some ⟨c,0,none⟩) 0 0))) (hq:aY bx gq=some cq) (hj:cq[jq]? = some (.gi g (kB l (some i)))) (hi:l[i]? = some (c,y0)) (hb:aY bx J=some (y.map .d)) (hy:Nat.blt 0 y.length=true)
 (a7:(lv.any fun h=>Nat.beq h g)=true) (hf:j8 J [] f=f') (a8:j0 J [] bx=some bx') (b2:aY bx' gq=some cq) {lv':List Nat} (b3:(gen+1)::bD lv g=lv') (b4:l.set i (c,y)=l')
 (h:W P C n cd Q ⟨f',(gq,cq.set jq (.gi (gen+1) (kB l' none)))::bx',lv',gen+2⟩):W P C n cd Q ⟨f,bx,lv,gen⟩:=by
 subst b3;subst hf;subst b4;intro tmps w ⟨G,hs⟩;have b5:C.bx=[]:=List.eq_nil_of_length_eq_zero hnb.h;obtain⟨bs,_,ad,aj,b6⟩:=hs.j6 hq hj a7;obtain⟨x,hx,M⟩:=hs.frame s2 _ hl
 cases M with
 | lk _ _ _ _ b0 _ dj N dt ai=>
 simp only[Value.slice.injEq,Option.some.injEq,Addr.mk.injEq] at ai;have ec:c=b0:=ai.1.1;subst ec;have N:G.box J=some c:=N;have O:=hs.gown g _ ad;obtain⟨G1,cs,T1,c1,c2,c3,c4,c5,c6,c7,ch⟩:=hs.xd b5 N hb (Nat.le_of_ble_eq_true hy) a8;have a1:G1.own g=some (.mp none bs):=by rw[c6 g (Nat.ne_of_lt O)];exact ad
 obtain⟨G',dx,cj,hle,cl⟩:=ch.join (w':=w) (g:=g) (g2:=gen) (bs':=(c,0)::bs) a1 c5 (Ne.symm (Nat.ne_of_lt O)) (fun p hp=>by
  rcases List.mem_cons.1 hp with rfl | hp
  ·exact .inr ⟨_,_,_,rfl⟩
  ·exact .inl hp) (fun _ _=>rfl) (fun c hc=>by cases hc) rfl rfl rfl rfl (bD lv g) (fun g' cx=>by
  obtain⟨t1,t2⟩:=cf cx;obtain⟨r,M⟩:=hs.live g' t1;have:=hs.gown g' r M;exact⟨List.mem_cons_of_mem _ t1,t2,by simp only at this;omega⟩)
 have U:∀ {v:Value} {d:D},bE w (bM C G1) v d→bE w (bM C G') v d:=fun hd=>hd.mono fun b o u hu hp=>hle.cell b o u hu hp;have a6:∀ {v:Value} {d:D},bE w (bM C G) v d→bE w (bM C G') v d:=fun hd=>U (hd.mono fun b o u hu hp=>⟨hu,fun cy=>hp (c7 b o cy)⟩);refine h tmps w ⟨G',cl.fw (f:=j8 J [] f) (bx:=bx') (lv:=(gen+1)::bD lv g) (gen:=gen+2) b2 (by simp) fun b cs' T _ _ q3 k x' a df I=>?_⟩;by_cases e:jq=k
 ·subst e
  rw[List.getElem?_set_self (List.getElem?_eq_some_iff.1 hj).1] at I;simp only[Option.some.injEq] at I;subst I;refine .gi _ _ _ (by simp[bj]) fun r M=>?_;have:G'.own (gen+1)=some r:=M;rw[cj] at this;cases this;have di:i < l.length:=(List.getElem?_eq_some_iff.1 hi).1;have X:∀ {k:Nat} {p:Nat×List D},(l.set i (c,y))[k]? = some p→∃ q,l[k]? = some q∧q.1=p.1∧(k≠i→q=p)∧(k=i→p=(c,y)):=fun {k p} hk=>by
   by_cases e:i=k
   ·subst e
    rw[List.getElem?_set_self di] at hk;simp only[Option.some.injEq] at hk;subst hk;exact⟨_,hi,rfl,fun q=>absurd rfl q,fun _=>rfl⟩
   ·rw[List.getElem?_set_ne e] at hk
    exact⟨_,hk,rfl,fun _=>rfl,fun q=>absurd q.symm e⟩
  refine⟨fun a b p q I hb e=>?_,fun k p hp _=>?_⟩
  ·obtain⟨p1,t1,t2,_⟩:=X I
   obtain⟨q1,t3,t4,_⟩:=X hb;exact aj a b p1 q1 t1 t3 (t2.trans (e.trans t4.symm))
  ·obtain⟨q,t1,t2,t3,t4⟩:=X hp
   by_cases e1:k=i
   ·have:=t4 e1
    subst this;exact⟨List.mem_cons_self,Nat.le_of_ble_eq_true hy,cs,T1,c1,c2,c3,fun j u d hu hd=>U (c4 j u d hu hd)⟩
   ·have:=t3 e1
    subst this;obtain⟨q1,q2,cur,T,q4,q5,q6,q7⟩:=b6 k _ t1 (fun q=>e1 (Option.some.inj q).symm);exact⟨List.mem_cons_of_mem _ q1,q2,cur,T,q4,q5,q6,fun j u d hu hd=>a6 (q7 j u d hu hd)⟩
 ·rw[List.getElem?_set_ne e] at I
  exact q3 k x' a df I
end
end Go.Ab
namespace Go.Ab
open Go.RowKit Go.MapKept
section
variable {P:Program} (T:cn P) {C:Ctx} {n:Nat} {f:List (Nat×A)} {bx:List (Nat×List A)} {lv:List Nat} {gen:Nat} {ty:TypeId} {pos:String} {af:Array Edge} {dst:Option Nat}
variable {α β:Type} [DecidableEq α] {kf:α→Value} {vf:β→D}
theorem F5 {mt k e:Nat} {td N:cI} {m O:Operand} {g:Nat} {l:List (α×β)} {a:α} {z:β} {zx:Value} (hm:av f m=some (.mp g (dO kf vf l))) (hk:av f O=some (.d (.v (kf a))))
 (ht:aY T.l mt=some td) (U:td.k=.map k e) (he:aY T.l e=some N) (X:jG P k kf) (ad:(lv.any fun h=>Nat.beq h g)=true) (ai:N.z=[zx]) (aj:mj N.k=true) (hz:∀ w pv,bE w pv zx (vf z)) (hn:(l.map (·.1)).Nodup) {r:D} (hr:vf ((cb l a).getD z)=r) {q:Bool} (hq:(cb l a).isSome=q) :
 Pu P C n ⟨f,bx,lv,gen⟩ ⟨dst,.lookup mt m O true,ty,pos,af,none⟩ (.tup [.d r,.d (.v (.bool q))]):=by
 subst hr;subst hq;refine ao fun G tmps w hs=>?_;have M:=hs.av hm;have I:=hs.av hk;generalize hv:Act.eval ⟨tmps,[]⟩ m=v at M;generalize a1:Act.eval ⟨tmps,[]⟩ O=vk at I;obtain⟨b,bs,a7,rfl,me,clock,hb,a8,a6⟩:=hs.rC M (dw ad);cases I with | d I=>cases I with | v _ hok=>
 obtain⟨u,h1,h2⟩:=oZ (P:=P) T ht U he X ai aj (hz _ _) hb a6 hn a true;refine⟨.tuple #[u,.bool (cb l a).isSome],?_,.tup _ _ rfl (fun i u x hu J=>?_)⟩
 ·unfold execOp
  show Sem.run P _ w=.ok _ _;simp only[hv,a1,Sem.run_bind,h1,Result.andThen_ok,Sem.run_pure];rfl
 ·match i with
  | 0=>simp at hu J;subst hu;subst J;exact .d h2
  | 1=>simp at hu J;subst hu;subst J;exact .d (.v _ rfl)
  | i+2=>simp at J
end
end Go.Ab
namespace Go.Tb
open Go.Ab
abbrev nu:D→D:=fun d=>d
def qF (c:Nat):D:=.v (.pointer (some ⟨c,0,none⟩))
def jT (ids:List Int) (l:List (Nat×List D)):List (Int×D):=(ids.zip l).map fun p=>(p.1,qF p.2.1)
theorem sD {ids:List Int} {l:List (Nat×List D)} (h:ids.length≤l.length):(jT ids l).map (·.1)=ids:=by unfold jT;rw[List.map_map];show(ids.zip l).map Prod.fst=ids;exact List.map_fst_zip h
theorem vu:∀ {ids:List Int} {l:List (Nat×List D)} {i:Nat} {a:Int} {p:Nat×List D},ids.Nodup→ids[i]? = some a→l[i]? = some p→cb (jT ids l) a=some (qF p.1)
 | [],_,i,a,p,_,h,_=>by simp at h
 | _::_,[],i,a,p,_,_,h=>by simp at h
 | b::ids,q::l,i,a,p,hn,h1,h2=>by
   show cb ((b,qF q.1)::jT ids l) a=_;rw[eW]
   cases i with
   | zero=>simp only[List.getElem?_cons_zero,Option.some.injEq] at h1 h2;rw[if_pos h1,h2]
   | succ i=>rw[List.nodup_cons] at hn;simp only[List.getElem?_cons_succ] at h1 h2;rw[if_neg (fun e:b=a=>hn.1 (by rw[e];exact List.mem_of_getElem? h1))];exact vu hn.2 h1 h2
theorem Ea {ids:List Int} {l:List (Nat×List D)} {a:Int} (h:a∉ids):cb (jT ids l) a=none:=by
 unfold jT
 induction ids generalizing l with
 | nil=>rfl
 | cons b ids I=>
   cases l with
   | nil=>rfl
   | cons q l=>show cb ((b,qF q.1)::((ids.zip l).map fun p=>(p.1,qF p.2.1))) a=_;rw[eW,if_neg (fun e:b=a=>h (by rw[e];exact List.mem_cons_self))];exact I (fun q=>h (List.mem_cons_of_mem _ q))
theorem Gm {ids:List Int} {l:List (Nat×List D)} {k:Nat} {a:Int} (c:Nat) (y:List D) (I:ids.Nodup) (hl:l.length=k) (h:ids[k]? = some a):dp (jT (ids.take k) l) a (qF c)=jT (ids.take (k+1)) (l++[(c,y)]):=by
 rw[iF]
 ·unfold jT
  rw[List.take_add_one,h,List.zip_append (by rw[List.length_take];have:=(List.getElem?_eq_some_iff.1 h).1;omega),List.map_append];rfl
 ·intro p hp e
  have h1:p.1∈(jT (ids.take k) l).map (·.1):=List.mem_map.2 ⟨p,hp,rfl⟩;rw[sD (by rw[List.length_take];omega),e] at h1;exact nM I h h1
def Ef (I:List bw) (a:Int):List D:=[ci (jv I a).1,ci (jv I a).2]
def lr (ids:List Int) (l:List (Nat×List D)) (I:List bw):Prop:=l.length=ids.length∧∀ (i:Nat) (a:Int),ids[i]? = some a→∃ c,l[i]? = some (c,Ef I a)
theorem aK {ids:List Int} {l:List (Nat×List D)} (h:l.length=ids.length) (I:∀ p∈l,p.2=z2):lr ids l []:=by
 refine⟨h,fun i a hi=>?_⟩;have hl:i < l.length:=by rw[h];exact(List.getElem?_eq_some_iff.1 hi).1
 refine⟨l[i].1,?_⟩;have h1:l[i]? = some l[i]:=by simp[hl]
 rw[h1];have h2:=I l[i] (List.getElem_mem hl);show some l[i]=some (l[i].1,z2);rw[←h2]
theorem lr.step {ids:List Int} {l:List (Nat×List D)} {I:List bw} (h:lr ids l I) (J:ids.Nodup) {p:bw} {i c:Nat} {y:List D} (hi:ids[i]? = some p.thread) (hl:l[i]? = some (c,y)) :
 lr ids (l.set i (c,[ci (p.serial+p.evs.length),ci (nL p)])) (I++[p]):=by
 refine⟨by rw[List.length_set];exact h.1,fun j a hj=>?_⟩;by_cases e:i=j
 ·subst e
  rw[hi] at hj;cases hj;refine⟨c,?_⟩;rw[List.getElem?_set_self (List.getElem?_eq_some_iff.1 hl).1];unfold Ef;rw[uJ,if_pos rfl]
 ·obtain⟨M,h2⟩:=h.2 j a hj
  refine⟨M,?_⟩;rw[List.getElem?_set_ne e,h2];unfold Ef;rw[uJ,if_neg];rintro rfl;exact e ((List.getElem?_inj (List.getElem?_eq_some_iff.1 hi).1 J).1 (hi.trans hj.symm))
theorem aM {l:List (Nat×List D)} {i c:Nat} {y I:List D} (hl:l[i]? = some (c,I)):(l.set i (c,y)).map (·.1)=l.map (·.1):=by
 rw[List.map_set];refine List.ext_getElem? fun j=>?_;rw[List.getElem?_set];split
 ·rename_i e
  subst e;rw[List.getElem?_map,hl];split;·rfl
  ·rename_i q;rw[List.length_map] at q;exact absurd (List.getElem?_eq_some_iff.1 hl).1 q
 ·rfl
theorem Cj {l I:List (Nat×List D)} (h:l.map (·.1)=I.map (·.1)) {i c:Nat} {y:List D} (hl:l[i]? = some (c,y)):∃ J,I[i]? = some (c,J):=by
 have h1:(I.map (·.1))[i]? = some c:=by rw[←h,List.getElem?_map,hl];rfl
 rw[List.getElem?_map,Option.map_eq_some_iff] at h1;obtain⟨p,hp,rfl⟩:=h1;exact⟨p.2,hp⟩
end Go.Tb
