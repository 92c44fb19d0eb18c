import Derived.Test.YtpiaiiopakafhaaGreatDoorQ3
namespace Go.Ab
theorem jG {P:Program} {C:Ctx} {n:Nat} {st:St} {o:Oper} {a a':A} (h:Pu P C n st o a) (I:Ab.sn a=a'):Pu P C n st o a':=by subst I;intro G tmps w hs;exact(h G tmps w hs).mono fun J w' ⟨h1,h2⟩=>⟨h1,h2.sn⟩
end Go.Ab
namespace Go.Ab
theorem Al {P:Program} {C:Ctx} {n:Nat} {ops:Array Oper} {Q:Exit→St→Prop} {l:List Oper} {f:List (Nat×A)} {bx:List (Nat×List A)} (bx':List (Nat×List A)) {lv:List Nat} {gen:Nat} (h:lS bx bx') (k:WO P C n ops Q l ⟨f,bx',lv,gen⟩):WO P C n ops Q l ⟨f,bx,lv,gen⟩:=by intro tmps w ⟨G,hs⟩;exact k tmps w ⟨G,{ hs with box:=fun g c I=>hs.box g c (h.le g c I) }⟩
end Go.Ab
namespace Go.Tb
open Go.Ab
end Go.Tb
namespace Go.Ab
open Go.RowKit
section
variable {P:Program} {C:Ctx} {n:Nat} {Q:Exit→St→Prop} {c:Code}
variable {f:List (Nat×A)} {bx:List (Nat×List A)} {lv:List Nat} {gen:Nat}
theorem CZ (g j:Nat) {cells cells':List A} {g2:Nat} {es:List (List D)} (hb:ae bx g=some cells) (hj:cells[j]? = some (.own g2 es)) (N:cells.set j (.d (.sl es))=cells') (h:W P C n c Q ⟨f,(g,cells')::bx,lv,gen⟩):W P C n c Q ⟨f,bx,lv,gen⟩:=by
 subst N;intro tmps w ⟨G,hs⟩;refine h tmps w ⟨G,hs.nX hb (by simp) fun b cs T h1 h2 h3 i x a J I=>?_⟩;by_cases e:j=i
 ·subst e
  have M:j < cells.length:=(List.getElem?_eq_some_iff.1 hj).1;rw[List.getElem?_set_self M] at I;simp only[Option.some.injEq] at I;subst I;have:=h3 j x _ J hj;cases this with | own _ _ _ hd _ _=>exact .d hd
 ·rw[List.getElem?_set_ne e] at I
  exact h3 i x a J I
end
end Go.Ab
namespace Go.Tb
open Go.Ab
end Go.Tb
namespace Go.Tb
open Go.Ab
def tJ (s:ByteArray):JV:=.mk 4 0 s [] []
def nJ (n:Int):JV:=.mk 3 n aY [] []
def cJ (f:Fm) (id:Int) (e:Ev) (k:ByteArray):JV:=
 if k=cN then tJ f.ph else if k=bq then nJ id else if k=bg then tJ e.name else if k=eL then nJ e.time
 else if k=aU then .mk 5 0 aY [] (e.stack.map tJ) else if k=f.n then nJ e.n else nJ e.m
def fK (f:Fm) (e:Ev):Bool:=bif !decide (f.ph=pS) then true else decide (e.n=2)
def ir (k:Int):Option Fm:=match e8.findIdx? fun f=>decide (f.kind=k) with
 | some i=>e8[i]?
 | none=>none
def ep (f:Fm) (id:Int) (e:Ev):JV:=.mk 6 0 aY (bh f (fK f e)) ((bh f (fK f e)).map (cJ f id e))
theorem sQ (f:Fm) (on:Bool):(bh f on).length≤7:=by
 unfold bh;repeat' split
 all_goals simp
theorem AZ {k:Int} {f:Fm} (h:ir k=some f):∃ i:Nat,idx (e8.findIdx? fun f=>decide (f.kind=k))=(i:Int)∧e8[i]? = some f:=by
 unfold ir at h
 cases hi:e8.findIdx? fun f=>decide (f.kind=k) with
 | none=>rw[hi] at h;cases h
 | some i=>rw[hi] at h;exact⟨i,rfl,h⟩
end Go.Tb
namespace Go.Tb
open Go.Ab
def vK (id:Int) (e:Ev):JV:=match ir e.kind with
 | some f=>ep f id e
 | none=>eo
def jU:List ByteArray:=[cN,bq,bg]
def mJ (t:bJ):JV:=.mk 6 0 aY jU [tJ pM,nJ t.id,tJ t.name]
def nZ (p:aW):List JV:=p.evs.map (vK p.thread)
def lV (ts:List bJ) (ps:List aW):List JV:=ts.map mJ++ps.flatMap nZ
def eh (ts:List bJ) (ps:List aW):JV:=.mk 5 0 aY [] (lV ts ps)
theorem vw:∀ {l:List Ev} {last:Option Int},iz l last=0→∀ e∈l,cn e=0
 | [],_,_,e,h=>by cases h
 | x::r,last,h,e,he=>by
   simp only[iz] at h;split at h;·rename_i q;exact absurd h q
   ·rename_i q
    split at h;·cases h
    ·rcases List.mem_cons.1 he with rfl | he
     ·simpa using q
     ·exact vw h e he
theorem lW:∀ {ps:List aW},eH ps=0→∀ p∈ps,∀ e∈p.evs,cn e=0
 | [],_,p,hp=>by cases hp
 | q::r,h,p,hp=>by
   simp only[eH] at h;split at h;·rename_i h2;exact absurd h h2
   ·rename_i h2
    rcases List.mem_cons.1 hp with rfl | hp
    ·exact vw (by simpa using h2)
    ·exact lW h p hp
theorem xN {k:Int} (h:1≤k∧k < 13):∃ f,ir k=some f:=by
 have:k=1∨k=2∨k=3∨k=4∨k=5∨k=6∨k=7∨k=8∨k=9∨k=10∨k=11∨k=12:=by omega
 rcases this with rfl | rfl | rfl | rfl | rfl | rfl | rfl | rfl | rfl | rfl | rfl | rfl <;> exact⟨_,rfl⟩
theorem uM:∀ (ps:List aW),(ps.flatMap nZ).length=(ps.map fun p=>p.evs.length).sum
 | []=>rfl
 | p::r=>by rw[List.flatMap_cons,List.length_append,List.map_cons,List.sum_cons,uM r];simp[nZ]
theorem za (ps:List aW) (k:Nat):((ps.take k).flatMap nZ).length≤(ps.map fun p=>p.evs.length).sum:=by rw[uM];have h:=congrArg (fun x=>(x.map fun p:aW=>p.evs.length).sum) (List.take_append_drop k ps);simp only[List.map_append,List.sum_append] at h;omega
theorem mg {ts:List bJ} {ps:List aW} (h:(cQ ts ps).2=0):fb ts=0∧eH ps=0:=by
 unfold cQ at h;split at h;·rename_i q;exact absurd h q
 ·rename_i q
  split at h;·rename_i q2;exact absurd h q2
  ·rename_i q2;exact⟨by simpa using q,by simpa using q2⟩
theorem qS {e:Ev} (h:cn e=0) (id:Int):∃ f,ir e.kind=some f∧vK id e=ep f id e∧e.stack.length≤1000000:=by
 have g:=mb h;obtain⟨f,J⟩:=xN g.kind;refine⟨f,J,by unfold vK;rw[J],?_⟩
 cases I:(bL e.kind).name with
 | false=>have:=(tj (g.stack I)).1;omega
 | true=>
   have:(bL e.kind).stack=false:=by
    have k:=g.kind;have:e.kind=1∨e.kind=2∨e.kind=3∨e.kind=4∨e.kind=5∨e.kind=6∨e.kind=7∨e.kind=8∨e.kind=9∨e.kind=10∨e.kind=11∨e.kind=12:=by omega
    rcases this with h | h | h | h | h | h | h | h | h | h | h | h <;> rw[h] at I ⊢ <;> first | rfl | exact absurd I (by decide)
   rw[g.noStack this];simp
end Go.Tb
namespace Go.Ab
section
variable {P:Program} {C:Ctx} {n:Nat} {ops:Array Oper} {c:Nat}
variable {op:Op} {ty:TypeId} {pos:String} {af:Array Edge} {a:A} {d i:Nat} {rest l:List Oper} {f:List (Nat×A)} {Q:St→Prop} {ph:Bool} {dst:Option Nat}
variable {bx0 bx1:List (Nat×List A)} {lv0 lv1:List Nat} {gen0 gen1:Nat}
end
end Go.Ab
namespace Go.Ab
open Go.RowKit
section
variable {P:Program} [cc P] {C:Ctx} {n:Nat} {Q:Exit→St→Prop} {c:Code}
variable {f:List (Nat×A)} {bx:List (Nat×List A)} {lv lv':List Nat} {gen gen':Nat}
omit [cc P] in
theorem Wd.bF {J:Nat} [hnb:NB C J] {ι:Type} (V:ι→List (Nat×A)) (fi:List (Nat×A)) (B:ι→List (Nat×List A)) (bi:List (Nat×List A)) (lv':List Nat) (gen':Nat) (I:ι→Nat) (order:List Nat) (i:ι) (O:jb order gen' J=true)
 (U:lU order f (V i)) (M:lY f fi) (hb:ij order bx (B i)) (N:jF order bx bi) (hl:pW order lv lv'=true)
 (X:∀ i,Wd P C n c (Cf C n (fun i=>⟨V i++fi,B i++bi,lv',gen'⟩) I (I i) Q) ⟨V i++fi,B i++bi,lv',gen'⟩):Wd P C n (.loop c) Q ⟨f,bx,lv,gen⟩:=
 Wd.conv (st':=⟨V i++fi,B i++bi,lv',gen'⟩) (fun _ _ h=>ez.bE order O U M hb N hl h) (Wd.loop (fun i=>⟨V i++fi,B i++bi,lv',gen'⟩) I X i)
theorem Wd.bU {I:Nat} [hnb:NB C I] {ι:Type} {V:ι→List (Nat×A)} {fi:List (Nat×A)} {B:ι→List (Nat×List A)} {bi:List (Nat×List A)} {J:ι→Nat} {m:Nat} (order:List Nat) (i:ι) (hm:J i < m) (O:jb order gen' I=true)
 (U:lU order f (V i)) (M:lY f fi) (hb:ij order bx (B i)) (N:jF order bx bi) (hl:pW order lv lv'=true) :
 Cf C n (fun i=>⟨V i++fi,B i++bi,lv',gen'⟩) J m Q .normal ⟨f,bx,lv,gen⟩:=⟨i,hm,fun _ _ h=>ez.bE order O U M hb N hl h⟩
variable {st:St} {y:Code} {id:Nat}
omit [cc P] in
theorem jg (I:kR st=true) (h:Wd P C n y Q st):QN (uZ P C n y Q) .normal st:=⟨I,h⟩
theorem Ge (I:kR st=true) (h:Q .normal st):QN Q .normal st:=⟨I,h⟩
theorem uh (I:kR st=true) (h:Q .ret st):QN Q .ret st:=⟨I,h⟩
theorem EO (I:kR st=true) (h:Q (.exit id) st):QN Q (.exit id) st:=⟨I,h⟩
omit [cc P] in
theorem FK (h:Wd P C n y Q st):uZ P C n y Q .normal st:=h
omit [cc P] in
theorem uX (h:Q .ret st):uZ P C n y Q .ret st:=h
omit [cc P] in
theorem Db (h:Q (.exit id) st):uZ P C n y Q (.exit id) st:=h
theorem Dq {ι:Type} {S:ι→St} {I:ι→Nat} {m:Nat} (h:Q (.exit id) st):Cf C n S I m Q (.exit id) st:=h
def zY (f:List (Nat×A)) (bx:List (Nat×List A)) (gs os:List Nat):List (Nat×A)→Prop
 | []=>True
 | (t,a')::r=>(∃ a,look f t=some a∧dm bx gs os 5 a=a')∧zY f bx gs os r
theorem zY.look {gs os:List Nat}:∀ {V:List (Nat×A)},zY f bx gs os V→∀ t a',look V t=some a'→∃ a,Ab.look f t=some a∧dm bx gs os 5 a=a'
 | [],_,t,a',h=>by simp[Ab.look] at h
 | (s,b)::r,⟨h1,h2⟩,t,a',h=>by
   rw[aN] at h;split at h
   ·rename_i e
    subst e;simp only[Option.some.injEq] at h;subst h;exact h1
   ·exact zY.look h2 t a' h
def zJ (bx:List (Nat×List A)) (o:List Nat):Nat→List (List A)→Prop
 | _,[]=>True
 | i,c::r=>(∃ c0,ae bx i=some c0∧fm o c0=c)∧zJ bx o (i+1) r
theorem zJ.get {o:List Nat}:∀ {b:List (List A)} {j:Nat},zJ bx o j b→∀ (i:Nat) (c:List A),b[i]? = some c→∃ c0,ae bx (j+i)=some c0∧fm o c0=c
 | [],_,_,i,c,h=>by simp at h
 | I::r,j,⟨h1,h2⟩,i,c,h=>by
   cases i with
   | zero=>simp only[List.getElem?_cons_zero,Option.some.injEq] at h;subst h;exact h1
   | succ i=>simp only[List.getElem?_cons_succ] at h;have:=zJ.get h2 i c h;rwa [show j+1+i=j+(i+1) by omega] at this
theorem QR.mk' {b1:List (List A)} {k:Nat} (order:List Nat) (M:order.length=k) (I:nodupB (dU b1.length order)=true) (J:(order.all fun g=>lv.any fun h=>Nat.beq h g)=true)
 (hb:zJ bx (dU b1.length order) 0 b1):QR b1 k ⟨f,bx,lv,gen⟩:=
 QR.mk order M I J fun i c h=>by have:=hb.get i c h;rwa [Nat.zero_add] at this
end
end Go.Ab
namespace Go.Ab
open Go.RowKit
def qC (P:Program) (fid:FuncId):Prop:=
 ∀ (l:Nat) (W:World) (I J b1 o1:Nat) (a:Option Addr) (cap:Nat) (R:World→Prop),cellAt W I J=some (.slice a 0 cap)→cellAt W b1 o1=some (.int .i64 1000)→R W →
   Calls P fid #[.func (.yield l) #[] #[],.pointer (some ⟨I,J,none⟩),.pointer (some ⟨b1,o1,none⟩)] W fun e W'=>(∃ v,e=.returned v)∧R W'
section
variable {P:Program} [cc P] {C:Ctx} [GC P C] {n:Nat} {Q:Exit→St→Prop} {st:St}
omit [cc P] in
theorem Wd.Ed {g:Operand} {par:Nat} {assign:Code} {body:Code} {fid:FuncId}
 (hg:av st.f g=some (.clo fid [.rowd [.sl []],.rowd [.v (.int .i64 1000)]])) (hok:iC P fid) (hit:qC P fid) (h:Q .normal st) :
 Wd P C n (.rangeFunc g #[par] assign body) Q st:=by
 intro tmps ds w ⟨G,hs⟩ ⟨Ds,X,b0,aj⟩;have X:ds=Ds.map um:=X;subst X;obtain⟨p0,o0,p1,o1,b2,⟨u0,b3,ch⟩,cj⟩:=sh hs hg;obtain⟨a,cap,rfl⟩:=sK ch;refine(wpIn_wide (n:=1)).1 (wpIn_rangeFunc ?_);intro fn _;obtain⟨rec,J⟩:∃ rec:LoopState→Option Code→Loop,rec=fun s pe=>{ state:=s,pending:=pe,fn,tmps:=tmps,params:=#[par],assign:=assign,body,defers:=w.heap.size }:=⟨_,rfl⟩;obtain⟨I,O⟩:∃ I,(w.alloc (.deferred (some []))).alloc (.loop (rec .ready none))=I:=⟨_,rfl⟩;have Z:I.heap[w.heap.size+1]? = some (.loop (rec .ready none)):=by rw[←O];have:=World.alloc_heap_new (w.alloc (.deferred (some []))) (.loop (rec .ready none));rwa [World.size_alloc] at this
 have U:Below w.heap.size w I:=by rw[←O];exact((Below.refl _ w).alloc (Nat.le_refl _) _).alloc (by simp) _
 have cl:I.heap[w.heap.size]? = some (.deferred (some [])):=by rw[←O];exact(Below.heap_alloc _ _ _ (by simp)).trans (World.alloc_heap_new w _)
 have cq:ao C n st G tmps I:=(hs.gp U).2;have c1:w.heap.size≤I.heap.size:=U.size;have a1:∀ {b o u},cellAt w b o=some u→cellAt I b o=some u:=fun {b o u} hu=>by rw[br (U.block b (cE hu))];exact hu
 have cx:=hs.fr.size
 refine⟨w.heap.size+1,[{ target:=.collected w.heap.size,args:=#[] }],I,{ target:=.fn (.func fid) #[.pointer (some ⟨p0,o0,none⟩),.pointer (some ⟨p1,o1,none⟩)],args:=#[.func (.yield (w.heap.size+1)) #[] #[]] },I,fid,
  #[.func (.yield (w.heap.size+1)) #[] #[]]++#[.pointer (some ⟨p0,o0,none⟩),.pointer (some ⟨p1,o1,none⟩)],I,?_,?_,?_,?_,fun _=>Nat.le_refl _,?_⟩
 ·rw[←O,J];exact run_enterLoop_outer _ _ _ _ _
 ·have a7:Act.eval ⟨tmps,Ds.map um⟩ g=.func (.func fid) #[] #[.pointer (some ⟨p0,o0,none⟩),.pointer (some ⟨p1,o1,none⟩)]:=by rw[Act.gw tmps _ []];exact b2
  simp only[resolve,a7];simp[go_sem]
 ·intro f' _;trivial
 ·obtain⟨c6,a8,ad,ai⟩:=hok
  simp only[Sem.run_bind,Sem.run_pure,Result.andThen_ok,invoke,callFunc,run_program,a8,ad,ai,Bool.false_eq_true,if_false]
 refine CallsIn.mono (callsIn_wide.2 (hit (w.heap.size+1) I p0 o0 p1 o1 a cap (fun W'=>W'=I) (a1 b3) (a1 cj) rfl)) ?_;rintro e W3 ⟨⟨v,rfl⟩,rfl⟩;have a6:=run_endLoop (P:=P) Z (by rw[J];simp);rw[J] at a6;refine⟨none,_,a6,?_⟩;have cy:∀ D,W3.heap[D]? = some (Obj.deferred (some []))→D≠w.heap.size+1:=fun D M e=>by rw[e,Z] at M;cases M
 have N:∀ D:Nat,W3.heap[D]? = some (Obj.deferred (some []))→(W3.putObj (w.heap.size+1) (.loop { rec .ready none with state:=.exhausted })).heap[D]? = some (Obj.deferred (some [])):=fun D M=>by rw[World.putObj_heap_other (cy D M)];exact M
 rw[J] at N;refine⟨⟨w.heap.size::Ds,rfl,?_,fun D M=>?_⟩,_,⟨G,cq.nY Z rfl (by omega) _⟩,h⟩
 ·rw[List.nodup_cons]
  refine⟨fun hm=>?_,b0⟩;have:=(Array.getElem?_eq_some_iff.1 (aj _ hm).2).1;omega
 ·rcases List.mem_cons.1 M with rfl | M
  ·exact⟨cx,N _ cl⟩
  ·obtain⟨h1,h2⟩:=aj D M
   exact⟨h1,N D (by rw[U.block D (Array.getElem?_eq_some_iff.1 h2).1];exact h2)⟩
theorem Bu {tmps:Array Value} {w:World} (h:ez C n st tmps w) {gs os:List Nat} {I:List (List A)} (M:nodupB gs=true) (N:nodupB os=true) (O:(os.all fun g=>st.lv.any fun h=>Nat.beq h g)=true) (hb:eZ st.bx gs os gs=some I) :
 ez C n ⟨st.f,gH gs st.gen gs I++st.bx,(List.range os.length).map (I.length+·+st.gen)++st.lv.filter (fun g=>!os.any (Nat.beq g)),I.length+os.length+st.gen⟩ tmps w:=by
 obtain⟨G,hs⟩:=h;obtain⟨_,J⟩:=hs.kT (gs:=gs) (os:=os) (dL M) (dL N) (fun g X=>by obtain⟨y,Z,he⟩:=List.any_eq_true.1 (List.all_eq_true.1 O g X);exact Nat.eq_of_beq_eq_true he▸Z) hb;obtain⟨G4,_,U⟩:=hs.vz hb rfl J;exact⟨G4,U⟩
theorem Wd.D7 {g:Operand} {par d id:Nat} {ty:TypeId} {pos:String} {af:Array Edge} {body:Code} {es:List (List D)} {fid:FuncId}
 (Z:av st.f g=some (.clo fid [.rowd [.sl es],.rowd [.v (.int .i64 1000)]])) (hok:iC P fid) (hit:sd P fid) (U:qC P fid) (X:es.length≤1000) (ad:Nat.blt par n=true) (ai:Nat.blt d n=true)
 (gs os:List Nat) (M:nodupB gs=true) (N:nodupB os=true) (O:(os.all fun g=>st.lv.any fun h=>Nat.beq h g)=true) {V:List (Nat×A)} {I b1:List (List A)} {m k:Nat} (hb:eZ st.bx gs os gs=some I) (hm:os.length=m)
 (hV:∀ t a',look V t=some a'→∃ a,look st.f t=some a∧dm st.bx gs os 5 a=a') (aj:(V.all fun x=>!Nat.beq x.1 par)=true) (h0:es=[]→b1=I∧k=m)
 (J:es≠[]→nU P n body ((d,.d (.sl es))::V) I m b1 k) (a1:b1.length=I.length)
 (h:Q .normal ⟨st.f,gH gs st.gen gs b1++st.bx,(List.range k).map (I.length+·+st.gen)++st.lv.filter (fun g=>!os.any (Nat.beq g)),I.length+k+st.gen⟩) :
 Wd P C n (.rangeFunc g #[par] (.region id #[⟨some d,.assign (.tmp par),ty,pos,af,none⟩] false) body) Q st:=by
 rcases Nat.eq_zero_or_pos es.length with hz | hp
 ·have he:es=[]:=List.length_eq_zero_iff.1 hz
  obtain⟨rfl,rfl⟩:=h0 he;subst he;subst hm;intro tmps ds w hs a6;refine Code.wp_mono ?_ (Wd.Ed (Q:=fun e s=>e=.normal∧s=st) Z hok U ⟨rfl,rfl⟩ tmps ds w hs a6);rintro e a w' ⟨hd,a8,a7,rfl,rfl⟩;exact⟨hd,_,Bu a7 M N O hb,h⟩
 ·exact Wd.range Z hok hit hp X ad ai gs os M N O hb hm hV aj (J (fun e=>by rw[e] at hp;cases hp)) a1 h
end
end Go.Ab
namespace Go.Tb
open Go.Ab
def EW {α:Type}:PE α→Prop
 | .ok _ _=>True
 | .no _ w=>w=2∨w=4∨w=10∨w=20
theorem jJ {α:Type} {a:Nat}:EW (.no a 10:PE α):=.inr (.inr (.inl rfl))
theorem EW.of {α β:Type} {a:Nat} {w:Int} (h:EW (.no a w:PE α)):EW (.no a w:PE β):=h
section
variable {l:List UInt8}
theorem pa {c:UInt8} {i:Nat}:EW (bw l c i):=by
 unfold bw;split;·trivial
 ·exact jJ
theorem w8 {x:List UInt8} {i:Nat}:EW (b5 l x i):=by
 cases h:b5 l x i with
 | ok=>trivial
 | no a w=>rw[vv h];exact jJ
theorem E5 {i:Nat}:EW (dQ l i):=by
 rw[xq];split;·trivial
 ·split
  ·trivial
  ·split
   ·trivial
   ·unfold Bw
    have:=w8 (l:=l) (x:=[117,48,48]) (i:=i)
    cases h:b5 l [117,48,48] i with
    | no a w=>rw[h] at this;exact this
    | ok u j=>
      dsimp only;unfold Bo;split;·exact jJ
      ·split
       ·exact jJ
       ·unfold Ax
        split;·exact jJ
        ·split
         ·exact jJ
         ·trivial
theorem qk:∀ {k i:Nat} {acc:List UInt8},EW (cC l k i acc)
 | 0,_,_=>jJ
 | k+1,i,acc=>by
   unfold cC;split;·exact jJ
   ·split
    ·trivial
    ·split
     ·have:=E5 (l:=l) (i:=i+1)
      cases h:dQ l (i+1) with
      | no a w=>rw[h] at this;exact this
      | ok c j=>exact qk
     ·exact qk
theorem xr {i:Nat}:EW (de l i):=by
 unfold de;have:=pa (l:=l) (c:=34) (i:=i)
 cases h:bw l 34 i with
 | no a w=>rw[h] at this;exact this
 | ok u j=>exact qk
theorem EN {i:Nat}:EW (dz l i):=by
 unfold dz;dsimp only;generalize (if ak l i=45 then i+1 else i)=i1;by_cases q:bo l i1=i1;·rw[if_pos q];exact jJ
 ·rw[if_neg q]
  by_cases c:(fE (if (⟨((l.drop i).take (bo l i1 - i)).toArray⟩:ByteArray)=B #[45,48] then B #[48] else ⟨((l.drop i).take (bo l i1 - i)).toArray⟩)).2=true;·rw[if_pos c];trivial
  ·rw[if_neg c];exact .inl rfl
theorem wi {x:List UInt8} {v:JV} {i:Nat}:EW (match b5 l x i with | .no a w=>.no a w | .ok _ j=>.ok v j):=by
 have:=w8 (l:=l) (x:=x) (i:=i)
 cases h:b5 l x i with
 | no a w=>rw[h] at this;exact this
 | ok u j=>trivial
structure Er (l:List UInt8) (k:Nat):Prop where
 v:∀ level i,EW (cb l k level i)
 a:∀ level i,EW (eS l k level i)
 ag:∀ level i acc,EW (eb l k level i acc)
 o:∀ level i,EW (eT l k level i)
 og:∀ level i keys acc,EW (dZ l k level i keys acc)
theorem Ez:∀ k,Er l k
 | 0=>⟨fun _ _=>by unfold cb;exact jJ,fun _ _=>by unfold eS;exact jJ,fun _ _ _=>by unfold eb;exact jJ,fun _ _=>by unfold eT;exact jJ,fun _ _ _ _=>by unfold dZ;exact jJ⟩
 | k+1=>by
   have I:=Ez k;refine⟨fun level i0=>?_,fun level i0=>?_,fun level i acc=>?_,fun level i0=>?_,fun level i0 keys acc=>?_⟩
   ·rw[xt]
    split;·exact wi
    ·split
     ·exact wi
     ·split
      ·exact wi
      ·split
       ·have J:=xr (l:=l) (i:=ar l i0)
        cases M:de l (ar l i0) with
        | no a w=>rw[M] at J;exact J
        | ok t j=>trivial
       ·split
        ·split
         ·exact .inr (.inr (.inr rfl))
         ·split
          ·exact I.a _ _
          ·exact I.o _ _
        ·exact EN
   ·rw[sB]
    split;·trivial
    ·exact I.ag _ _ _
   ·rw[qi]
    have N:=I.v (level+1) i
    cases M:cb l k (level+1) i with
    | no a w=>rw[M] at N;exact N
    | ok v j=>
      dsimp only;split;·exact I.ag _ _ _
      ·have J:=pa (l:=l) (c:=93) (i:=ar l j)
       cases O:bw l 93 (ar l j) with
       | no a w=>rw[O] at J;exact J
       | ok u j2=>trivial
   ·rw[sr]
    split;·trivial
    ·exact I.og _ _ _ _
   ·rw[qB]
    have J:=xr (l:=l) (i:=ar l i0)
    cases M:de l (ar l i0) with
    | no a w=>rw[M] at J;exact J
    | ok t j=>
      dsimp only;split;·exact .inr (.inl rfl)
      ·have U:=pa (l:=l) (c:=58) (i:=ar l j)
       cases O:bw l 58 (ar l j) with
       | no a w=>rw[O] at U;exact U
       | ok u j1=>
         dsimp only;have N:=I.v (level+1) j1
         cases Z:cb l k (level+1) j1 with
         | no a w=>rw[Z] at N;exact N
         | ok v j2=>
           dsimp only;split;·exact I.og _ _ _ _
           ·have X:=pa (l:=l) (c:=125) (i:=ar l j2)
            cases ad:bw l 125 (ar l j2) with
            | no a w=>rw[ad] at X;exact X
            | ok u j3=>trivial
theorem wS:EW (cR l):=by
 unfold cR;have I:=(Ez (l:=l) (3*l.length+1)).v 1 0
 cases J:cb l (3*l.length+1) 1 0 with
 | no a w=>rw[J] at I;exact I
 | ok v j=>dsimp only;split;exact jJ;trivial
end
end Go.Tb
namespace Go.Tb
open Go.Ab
theorem tS:∀ l:List JV,(bZ l false).length=(l.map fun k=>(aq k).length).sum+l.length
 | []=>rfl
 | x::r=>by rw[dF,List.length_append,List.length_append,tS r,List.map_cons,List.sum_cons,List.length_cons];simp;omega
theorem pK:∀ (ks:List ByteArray) (l:List JV),ks.length=l.length→(l.map fun k=>(aq k).length).sum+2*l.length≤(aR ks l false).length
 | [],[],_=>by simp[aR]
 | s::ks,x::r,h=>by have:=pK ks r (by simpa using h);rw[cp];simp only[List.length_append,List.map_cons,List.sum_cons,List.length_cons];simp;omega
 | [],_::_,h=>by simp at h
 | _::_,[],h=>by simp at h
theorem mR {j:JV} {level:Int} (h:aX j level=0):(j.kids.map fun k=>(aq k).length).sum+j.kids.length≤(aq j).length:=by
  obtain⟨op,n,s,keys,kids⟩:=j
  obtain⟨h1,_⟩:=iJ h
  obtain⟨hf,_⟩:=fM h1
  show(kids.map fun k=>(aq k).length).sum+kids.length≤(aq (.mk op n s keys kids)).length
  cases kids with
  | nil=>simp
  | cons x r=>
    unfold bG at hf
    simp only[JV.op,JV.n,JV.s,JV.keys,JV.kids] at hf
    by_cases o1:op=1
    · simp[o1] at hf
    by_cases o2:op=2
    · simp[o2] at hf
    by_cases o3:op=3
    · simp[o3] at hf
    by_cases o4:op=4
    · simp[o4] at hf
    by_cases o6:op=6
    · have hkl:keys.length=(x::r).length:=by
        simp[o6] at hf
        first | exact of_decide_eq_true hf.2.2 | exact hf.2.2
      simp only[aq,o1,o2,o3,o4,o6,if_true,if_false]
      cases keys with
      | nil=>simp at hkl
      | cons k ks=>
        have hm:=pK (k::ks) (x::r) hkl
        have hf1:=ma (s:=k) (ks:=ks) (x:=x) (r:=r)
        simp only[show(6:Int)=1↔False from by decide,show(6:Int)=2↔False from by decide,show(6:Int)=3↔False from by decide,show(6:Int)=4↔False from by decide,if_false,List.length_cons,List.length_append] at hm ⊢
        simp at hm ⊢;omega
    · simp only[aq,o1,o2,o3,o4,o6,if_false]
      have hm:=tS (x::r)
      have hf1:=ox (x:=x) (r:=r)
      simp only[List.length_cons,List.length_append] at hm ⊢
      simp at hm ⊢;omega
theorem w5 {l:List JV} {k:JV} (h:k∈l):(aq k).length≤(l.map fun k=>(aq k).length).sum:=by
 induction l with
 | nil=>cases h
 | cons x r I=>
   rw[List.map_cons,List.sum_cons];rcases List.mem_cons.1 h with rfl | h
   ·omega
   ·have:=I h;omega
theorem pI {level:Int}:∀ {l:List JV},cB l level=0→∀ k∈l,aX k level=0
 | [],_,k,I=>by cases I
 | x::r,h,k,I=>by
   obtain⟨h1,h2⟩:=fI h;rcases List.mem_cons.1 I with rfl | I
   ·exact h1
   ·exact pI h2 k I
theorem lq {j k:JV} {level:Int} (h:aX j level=0) (I:k∈j.kids):aX k (level+1)=0:=by obtain⟨op,n,s,keys,kids⟩:=j;exact pI (iJ h).2 k I
theorem tM:∀ {l:List JV} {x:eV},(cG l x).2=0→∀ k∈l,k.op=6
 | [],_,_,k,I=>by cases I
 | j::r,x,h,k,I=>by
   simp only[cG] at h;split at h;·rename_i q;exact absurd h q
   ·rename_i q
    rcases List.mem_cons.1 I with rfl | I
    ·have q:(dk x k).2=0:=by simpa using q
     unfold dk at q;split at q;·cases q
     ·rename_i q2
      have:bD k (bM k)=false:=by simpa using q2
      unfold bD bM at this;simp only[Bool.or_eq_false_iff] at this;simpa using this.1.1.1
    ·exact tM h k I
/-! the events that are kept -/
theorem Aa (l:List (Int×List Ev)) (a:Int) (e:Ev):jm (cr l a ((bO l a).getD []++[e]))≤jm l+1:=by
 induction l with
 | nil=>simp[cr,jk,jm]
 | cons p r I=>
   rw[eE];simp only[cr];by_cases q:p.1=a;·rw[if_pos q,if_pos q];simp[jm];omega
   ·rw[if_neg q,if_neg q]
    simp only[jm,List.map_cons,List.sum_cons] at I ⊢;omega
theorem xy:∀ (l:List (Int×List Ev)) (L:List Int),L.Nodup→(L.map fun a=>((bO l a).getD []).length).sum≤jm l
 | [],L,_=>by
   have:(L.map fun a=>((bO ([]:List (Int×List Ev)) a).getD []).length).sum=0:=by induction L <;> simp_all[jk]
   rw[this];exact Nat.zero_le _
 | p::r,L,I=>by
   have h1:=xy r L I;have key:∀ L:List Int,L.Nodup→(L.map fun a=>((bO (p::r) a).getD []).length).sum≤(if p.1∈L then p.2.length else 0)+(L.map fun a=>((bO r a).getD []).length).sum:=by
    intro L
    induction L with
    | nil=>intro _;simp
    | cons a t J=>
      intro I;rw[List.nodup_cons] at I;have:=J I.2;rw[List.map_cons,List.map_cons,List.sum_cons,List.sum_cons,eE];by_cases q:p.1=a
      ·rw[if_pos q,if_pos (by rw[q];exact List.mem_cons_self)]
       rw[if_neg (by rw[q];exact I.1)] at this;simp only[Option.getD_some];omega
      ·rw[if_neg q]
       have e:(p.1∈a::t)=(p.1∈t):=by simp[q]
       simp only[e];omega
   have h2:=key L I;have h3:(if p.1∈L then p.2.length else 0)≤p.2.length:=by split <;> omega
   simp only[jm,List.map_cons,List.sum_cons] at h1 ⊢;omega
theorem xE (x:eV):∀ L:List Int,((L.flatMap (dy x)).map fun p=>p.evs.length).sum=(L.map fun a=>((bO x.evs a).getD []).length).sum
 | []=>rfl
 | a::r=>by
   rw[List.flatMap_cons,List.map_append,List.sum_append,List.map_cons,List.sum_cons,xE x r];congr 1;unfold dy;split;·rename_i q;rw[q];rfl
   ·simp
theorem AP (x:eV) (j:JV):jm (dk x j).1.evs≤jm x.evs+1:=by
 unfold dk;repeat' split
 all_goals first | exact Aa _ _ _ | exact Nat.le_succ _
theorem yE {x:eV} (h:x.ids.Nodup) (j:JV):(dk x j).1.ids.Nodup:=by
 unfold dk;repeat' split
 all_goals first | exact nA h _ | exact h
theorem sS:∀ (l:List JV) (x:eV),jm (cG l x).1.evs≤jm x.evs+l.length
 | [],x=>Nat.le_refl _
 | j::r,x=>by
   simp only[cG];split;·show jm x.evs≤_;rw[List.length_cons];omega
   ·have h1:=sS r (dk x j).1
    have h2:=AP x j;rw[List.length_cons];omega
theorem pT:∀ (l:List JV) {x:eV},x.ids.Nodup→(cG l x).1.ids.Nodup
 | [],x,h=>h
 | j::r,x,h=>by
   simp only[cG];split;·exact h
   ·exact pT r (yE h j)
theorem uN {v:JV} (J:aX v 1=0) (hp:(aq v).length≤100000) (N:(cG v.kids x0).2=0→v.kids.length≤1000):uc v:=by
 have O:=mR J;refine⟨by omega,fun k hm u hu=>?_,fun k hm=>?_,fun h0=>?_⟩
 ·have h1:=lq J hm
  have h2:=mR h1;have h3:=mR (lq h1 hu);have:=w5 hm;have:=w5 hu;omega
 ·unfold bc js
  cases hg:dh k bq with
  | none=>simp[eo,JV.n]
  | some t=>
    by_cases I:t.op=3
    ·simp only[I,if_true,Option.getD_some]
     have h1:=lq (lq J hm) (qv hg);obtain⟨op,n,s,keys,kids⟩:=t;have I:op=3:=I;obtain⟨h2,_⟩:=iJ h1;obtain⟨_,h3,_⟩:=fM h2
     cases M:cY n with
     | true=>unfold cY at M;simp at M;show n≤_;omega
     | false=>exact absurd (.inr ⟨I,M⟩) h3
    ·simp only[I,if_false];simp[eo,JV.n]
 ·rw[xE]
  have h1:=xy (cG v.kids x0).1.evs (cG v.kids x0).1.ids (pT v.kids (x:=x0) List.nodup_nil);have h2:=sS v.kids x0;have h3:jm x0.evs=0:=rfl;have:=N h0;omega
theorem ye {s:ByteArray} {v:JV} {i:Nat} (h:cR (ah s)=.ok v i) (hs:s.size≤3000):uc v:=by
 obtain⟨N,hl,_⟩:=wJ h;have hb:(ah s).length=s.size:=Array.length_toList;refine uN N (by omega) fun h0=>?_;have J:=mR N;have h2:2*v.kids.length≤(v.kids.map fun k=>(aq k).length).sum:=by
  have I:∀ k∈v.kids,2≤(aq k).length:=fun k hm=>by have M:=tM h0 k hm;obtain⟨op,n,t,keys,kids⟩:=k;have M:op=6:=M;subst M;simp[aq]
  clear J h0;generalize v.kids=l at I
  induction l with
  | nil=>simp
  | cons x r O=>have:=I x List.mem_cons_self;have:=O (fun k J=>I k (List.mem_cons_of_mem _ J));rw[List.length_cons,List.map_cons,List.sum_cons];omega
 omega
end Go.Tb
namespace Go.Tb
open Go.Ab
deriving instance DecidableEq for Fm
def hasB (l:List ByteArray) (k:ByteArray):Bool:=l.any fun x=>decide (k=x)
theorem C6 (f:Fm) (id:Int) (e:Ev) (k:ByteArray):dh (ep f id e) k=if hasB (bh f (fK f e)) k=true then some (cJ f id e k) else none:=by
 unfold dh ep hasB;simp only[JV.op,JV.keys,JV.kids,if_true]
 cases hi:(bh f (fK f e)).findIdx? fun x=>decide (k=x) with
 | none=>rw[List.findIdx?_eq_none_iff] at hi;rw[if_neg];rw[List.any_eq_true];rintro⟨x,I,h⟩;rw[hi x I] at h;cases h
 | some i=>
   obtain⟨h1,h2,_⟩:=List.findIdx?_eq_some_iff_getElem.1 hi;rw[if_pos (List.any_eq_true.2 ⟨_,List.getElem_mem h1,h2⟩)];have h2:k=(bh f (fK f e))[i]:=by simpa using h2
   simp only[List.getElem?_map,List.getElem?_eq_getElem h1,Option.map_some];rw[←h2]
theorem C9 {f:Fm} {id:Int} {e:Ev} {k:ByteArray} {op:Int} {v:JV} (hm:hasB (bh f (fK f e)) k=true) (I:cJ f id e k=v) (J:v.op=op):js (ep f id e) k op=some v:=by unfold js;rw[C6,if_pos hm,I];show(if v.op=op then some v else none)=some v;rw[if_pos J]
theorem iM {f:Fm} {id:Int} {e:Ev} {k:ByteArray} {op:Int} {v:JV} (hm:hasB (bh f (fK f e)) k=true) (I:cJ f id e k=v) (J:v.op=op):bc (ep f id e) k op=v∧dp (ep f id e) k op=false:=by unfold bc dp;rw[C9 hm I J];exact⟨rfl,rfl⟩
def Br:List ByteArray:=[cN,bq,bg,eL,aU]
def yC (f:Fm) (on:Bool):Bool:=
 hasB (bh f on) cN && (hasB (bh f on) bq && (hasB (bh f on) eL && ((!f.name || hasB (bh f on) bg) && ((decide (f.n=aY) || hasB (bh f on) f.n) &&
 ((!lX f on || hasB (bh f on) f.m) && ((!f.st || hasB (bh f on) aU) &&
 (!hasB Br f.n && (!hasB Br f.m && ((decide (f.m=aY) || !decide (f.m=f.n)) && (decide (iP f.ph=some f) && (decide (f.ph=pS) == decide (f.kind=9))))))))))))
theorem AT:(e8.all fun f=>yC f true && yC f false)=true:=by decide +kernel
theorem Dm {f:Fm} (h:f∈e8) (on:Bool):yC f on=true:=by
 have:=List.all_eq_true.1 AT f h;simp only[Bool.and_eq_true] at this;cases on;·exact this.2
 ·exact this.1
structure BP (f:Fm) (on:Bool):Prop where
 ph:hasB (bh f on) cN=true
 tid:hasB (bh f on) bq=true
 ts:hasB (bh f on) eL=true
 name:f.name=true→hasB (bh f on) bg=true
 n:f.n≠aY→hasB (bh f on) f.n=true
 m:lX f on=true→hasB (bh f on) f.m=true
 st:f.st=true→hasB (bh f on) aU=true
 n5:f.n≠cN∧f.n≠bq∧f.n≠bg∧f.n≠eL∧f.n≠aU
 m5:f.m≠cN∧f.m≠bq∧f.m≠bg∧f.m≠eL∧f.m≠aU
 mn:f.m≠aY→f.m≠f.n
 at_:iP f.ph=some f
 s9:f.ph=pS↔f.kind=9
theorem Dx {f:Fm} (h:f∈e8) (on:Bool):BP f on:=by
 have:=Dm h on;unfold yC hasB Br at this;simp only[Bool.and_eq_true,Bool.or_eq_true,Bool.not_eq_true',decide_eq_true_eq,decide_eq_false_iff_not,List.any_cons,List.any_nil,Bool.or_false,Bool.or_eq_false_iff,beq_iff_eq] at this;obtain⟨O,a2,a3,a4,a5,I,J,U,a9,M,N,a12⟩:=this;refine⟨O,a2,a3,?_,?_,?_,?_,U,a9,?_,N,?_⟩
 ·intro q;rcases a4 with a4 | a4
  ·rw[q] at a4;cases a4
  ·exact a4
 ·intro q;exact a5.resolve_left q
 ·intro q;rcases I with I | I
  ·rw[q] at I;cases I
  ·exact I
 ·intro q;rcases J with J | J
  ·rw[q] at J;cases J
  ·exact J
 ·intro q;exact M.resolve_left q
 ·by_cases q:f.ph=pS <;> by_cases q2:f.kind=9 <;> simp[q,q2] at a12 ⊢
theorem EG {f:Fm} (h:f∈e8):(bL f.kind).name=f.name∧(bL f.kind).n = !decide (f.n=aY)∧(bL f.kind).m = !decide (f.m=aY)∧(bL f.kind).stack=f.st:=by simp only[e8,List.mem_cons,List.not_mem_nil,or_false] at h;rcases h with rfl | rfl | rfl | rfl | rfl | rfl | rfl | rfl | rfl | rfl | rfl | rfl <;> decide +kernel
theorem lr {k:Int} {f:Fm} (h:ir k=some f):f∈e8∧f.kind=k:=by
 unfold ir at h
 cases hi:e8.findIdx? fun f=>decide (f.kind=k) with
 | none=>rw[hi] at h;cases h
 | some i=>
   rw[hi] at h;have h:e8[i]? = some f:=h;obtain⟨h1,h2,_⟩:=List.findIdx?_eq_some_iff_getElem.1 hi;have:e8[i]=f:=by rw[List.getElem?_eq_getElem h1] at h;exact Option.some.inj h
   rw[this] at h2;exact⟨List.mem_of_getElem? h,by simpa using h2⟩
theorem Gf:bq≠cN:=by decide +kernel
theorem FG:bg≠cN∧bg≠bq:=by decide +kernel
theorem Ee:eL≠cN∧eL≠bq∧eL≠bg:=by decide +kernel
theorem Ca:aU≠cN∧aU≠bq∧aU≠bg∧aU≠eL:=by decide +kernel
theorem xo (f:Fm) (id:Int) (e:Ev):cJ f id e cN=tJ f.ph:=if_pos rfl
theorem A6 (f:Fm) (id:Int) (e:Ev):cJ f id e bq=nJ id:=by unfold cJ;rw[if_neg Gf,if_pos rfl]
theorem zW (f:Fm) (id:Int) (e:Ev):cJ f id e bg=tJ e.name:=by unfold cJ;rw[if_neg FG.1,if_neg FG.2,if_pos rfl]
theorem CO (f:Fm) (id:Int) (e:Ev):cJ f id e eL=nJ e.time:=by unfold cJ;rw[if_neg Ee.1,if_neg Ee.2.1,if_neg Ee.2.2,if_pos rfl]
theorem Cn (f:Fm) (id:Int) (e:Ev):cJ f id e aU=.mk 5 0 aY [] (e.stack.map tJ):=by unfold cJ;rw[if_neg Ca.1,if_neg Ca.2.1,if_neg Ca.2.2.1,if_neg Ca.2.2.2,if_pos rfl]
theorem DE {f:Fm} {on:Bool} (h:BP f on) (id:Int) (e:Ev):cJ f id e f.n=nJ e.n:=by obtain⟨a,b,c,d,q⟩:=h.n5;unfold cJ;rw[if_neg a,if_neg b,if_neg c,if_neg d,if_neg q,if_pos rfl]
theorem Dw {f:Fm} {on:Bool} (h:BP f on) (hm:f.m≠aY) (id:Int) (e:Ev):cJ f id e f.m=nJ e.m:=by obtain⟨a,b,c,d,q⟩:=h.m5;unfold cJ;rw[if_neg a,if_neg b,if_neg c,if_neg d,if_neg q,if_neg (h.mn hm)]
theorem yu {f:Fm} {e:Ev} (hf:ir e.kind=some f) (Z:cn e=0) {id:Int} (h0:0≤id) (hj:aX (ep f id e) 1=0):bm (ep f id e)=(id,e,0):=by
 obtain⟨hm,U⟩:=lr hf;have g:=mb Z;have K:=Dx hm (fK f e);obtain⟨q1,q2,q3,q4⟩:=EG hm;rw[U] at q1 q2 q3 q4;obtain⟨t1,t2⟩:=iM (id:=id) (op:=3) K.tid (A6 f id e) rfl;obtain⟨p1,p2⟩:=iM (id:=id) (op:=4) K.ph (xo f id e) rfl;obtain⟨s1,s2⟩:=iM (id:=id) (op:=3) K.ts (CO f id e) rfl;have hb:bD (ep f id e) (bM (ep f id e))=false:=by unfold bD bM;rw[t1,t2,p2];have e1:(ep f id e).op=6:=rfl;have e2:(nJ id).n=id:=rfl;rw[e1,e2,decide_eq_false (show ¬ id < 0 by omega)];rfl
 have ad:vm (ep f id e)=e.time:=by unfold vm;rw[s1];rfl
 have ai:dP (ep f id e) false=false:=by unfold dP;rw[s2];rfl
 have I:ko (ep f id e) f=e.name∧dC (ep f id e) f false=false:=by
  unfold ko dC
  cases J:f.name with
  | true=>obtain⟨a,b⟩:=iM (id:=id) (op:=4) (K.name J) (zW f id e) rfl;rw[a,b];exact⟨rfl,rfl⟩
  | false=>exact⟨(g.noName (by rw[q1,J])).symm,rfl⟩
 have J:nO (ep f id e) f=e.n∧fJ (ep f id e) f false=false:=by
  unfold nO fJ;by_cases h:f.n=aY;·rw[if_pos h,if_pos h];exact⟨(g.noN (by rw[q2];simp[h])).symm,rfl⟩
  ·obtain⟨a,b⟩:=iM (id:=id) (op:=3) (K.n h) (DE K id e) rfl
   rw[if_neg h,if_neg h,a,b];exact⟨rfl,rfl⟩
 have M:fO (ep f id e) f=fK f e:=by unfold fO fK;rw[J.1]
 have N:mO (ep f id e) f (fK f e)=e.m∧ja (ep f id e) f (fK f e) false=false:=by
  unfold mO ja
  cases hu:lX f (fK f e) with
  | true=>
    have aj:f.m≠aY:=by unfold lX at hu;intro q;simp[q] at hu
    obtain⟨a,b⟩:=iM (id:=id) (op:=3) (K.m hu) (Dw K aj id e) rfl;rw[a,b];exact⟨rfl,rfl⟩
  | false=>
    refine⟨?_,rfl⟩;show 0=e.m;by_cases h:f.m=aY;·exact(g.noM (by rw[q3];simp[h])).symm
    ·have X:fK f e=false:=by unfold lX at hu;simpa [h] using hu
     unfold fK at X;by_cases hS:f.ph=pS
     ·have h9:=K.s9.1 hS
      have h2:e.n≠2:=by simpa [hS] using X
      exact(g.stop (by rw[←U];exact h9) h2).symm
     ·simp[hS] at X
 have O:xh (ep f id e) f=e.stack∧nG (ep f id e) f false=false:=by
  unfold xh nG rj
  cases hs:f.st with
  | true=>
    obtain⟨a,b⟩:=iM (id:=id) (op:=5) (K.st hs) (Cn f id e) rfl;rw[a,b];refine⟨?_,?_⟩
    ·simp only[if_true,JV.kids,List.map_map]
     show e.stack.map (fun s=>s)=e.stack;rw[List.map_id']
    ·simp[gh,JV.kids,tJ,JV.op]
  | false=>exact⟨(g.noStack (by rw[q4,hs])).symm,rfl⟩
 have a1:kv (ep f id e) f=e:=by unfold kv;rw[ad,I.1,J.1,M,N.1,O.1,U]
 have a6:vB (ep f id e) f false=false:=by unfold vB;rw[ai,I.2,J.2,M,N.2,O.2]
 have a7:fq (ep f id e) (bh f (fK f e))=true:=by unfold fq;simp only[ep,JV.keys,decide_true,Bool.true_and,Bool.not_eq_true',List.any_eq_false];intro k a8;exact fun h=>h k a8 (by simp)
 unfold bm;rw[if_neg (fun q=>q hj),if_neg (by rw[hb];simp),p1];show(match iP f.ph with | none=>_ | some f=>_)=_;rw[K.at_];dsimp only;rw[hb,a6,M,a7,a1,t1,Z];rfl
end Go.Tb
namespace Go.Tb
open Go.Ab
theorem vZ (b:UInt8) (h:gS b=true):known b=true:=by
 have key:∀ n:Fin 256,gS (UInt8.ofNat n.val)=true→known (UInt8.ofNat n.val)=true:=by decide +kernel
 have:=key ⟨b.toNat,b.toNat_lt⟩;simp only[UInt8.ofNat_toNat] at this;exact this h
theorem kn {s:ByteArray} (h:cd s=0):cH s=true∧s.size≤40:=by
 unfold cd at h;split at h;·cases h
 ·rename_i q
  have q1:(ah s).all gS=true:=by
   cases hb:(ah s).all gS with
   | true=>rfl
   | false=>exact absurd (.inr (.inr hb)) q
  refine⟨?_,by omega⟩;unfold cH;rw[List.all_eq_true] at q1 ⊢;intro b hb;exact vZ b (q1 b hb)
theorem il {level:Int}:∀ {l:List JV},(∀ x∈l,aX x level=0)→cB l level=0
 | [],_=>cX
 | x::r,h=>eP (h x List.mem_cons_self) (il fun y I=>h y (List.mem_cons_of_mem _ I))
theorem kO {s:ByteArray} (h:cH s=true) (level:Int):aX (tJ s) level=0:=
 dr (dJ (by simp[bG,JV.op,JV.n,JV.keys,JV.kids]) (by omega) h (by simp) rfl (by omega)) cX
theorem kW {n:Int} (h:cY n=true) (level:Int):aX (nJ n) level=0:=
 dr (dJ (by simp[bG,JV.op,JV.s,JV.keys,JV.kids,aY]) (by simp[h]) cP (by simp) rfl (by omega)) cX
theorem rR {f:Fm} (h:f∈e8) (on:Bool):(∀ x∈bh f on,cH x=true)∧eN [] (bh f on)=false∧cH f.ph=true∧f.ph≠pM:=by
 have key:(e8.all fun f=>[true,false].all fun on=>(bh f on).all cH && (!eN [] (bh f on) && (cH f.ph && !decide (f.ph=pM))))=true:=by decide +kernel
 have h1:=List.all_eq_true.1 key f h;have h2:=List.all_eq_true.1 h1 on (by cases on <;> simp);simp only[Bool.and_eq_true,Bool.not_eq_true',decide_eq_false_iff_not] at h2;exact⟨List.all_eq_true.1 h2.1,h2.2.1,h2.2.2.1,h2.2.2.2⟩
theorem v8 {e:Ev} (h:cn e=0):cH e.name=true∧e.name.size≤40∧(∀ s∈e.stack,cH s=true∧s.size≤40)∧e.stack.length≤32:=by
 have g:=mb h
 cases hn:(bL e.kind).name with
 | true=>
   obtain⟨a,b⟩:=kn (g.name hn);have hs:(bL e.kind).stack=false:=by
    have k:=g.kind;have:e.kind=1∨e.kind=2∨e.kind=3∨e.kind=4∨e.kind=5∨e.kind=6∨e.kind=7∨e.kind=8∨e.kind=9∨e.kind=10∨e.kind=11∨e.kind=12:=by omega
    rcases this with h | h | h | h | h | h | h | h | h | h | h | h <;> rw[h] at hn ⊢ <;> first | rfl | exact absurd hn (by decide)
   have h0:=g.noStack hs;exact⟨a,b,by rw[h0];simp,by rw[h0];simp⟩
 | false=>have h0:=g.noName hn;have I:=tj (g.stack hn);exact⟨by rw[h0];exact cP,by rw[h0];decide,fun s hs=>kn (I.2 s hs),I.1⟩
theorem tu {f:Fm} {e:Ev} (J:ir e.kind=some f) (I:cn e=0) {id:Int} (h0:0≤id) (h1:id≤1000000000000000) {level:Int} (hl:level≤14):aX (ep f id e) level=0:=by
 obtain⟨hm,O⟩:=lr J;have g:=mb I;obtain⟨k1,k2,k3,_⟩:=rR hm (fK f e);obtain⟨t1,_,t3,_⟩:=v8 I;have hid:cY id=true:=by unfold cY;simp;omega
 refine dr (dJ (by simp[bG,JV.op,JV.n,JV.s,JV.keys,JV.kids,aY]) (by omega) cP k1 k2 (by omega)) (il fun x M=>?_);obtain⟨k,_,rfl⟩:=List.mem_map.1 M;unfold cJ;repeat' split
 ·exact kO k3 _
 ·exact kW hid _
 ·exact kO t1 _
 ·exact kW g.yS _
 ·refine dr (dJ (by simp[bG,JV.op,JV.n,JV.s,JV.keys,JV.kids,aY]) (by omega) cP (by simp) rfl (by omega)) (il fun y N=>?_)
  obtain⟨s,hs,rfl⟩:=List.mem_map.1 N;exact kO (t3 s hs).1 _
 ·exact kW g.FM _
 ·exact kW g.FD _
end Go.Tb
namespace Go.Tb
open Go.Ab
theorem tI (l:List UInt8):(bY l).length≤2*l.length+2:=by
 have key:∀ l:List UInt8,(l.flatMap b8).length≤2*l.length:=by
  intro l
  induction l with
  | nil=>simp
  | cons b r I=>
    rw[List.flatMap_cons,List.length_append,List.length_cons];have:(b8 b).length≤2:=by unfold b8;(repeat' split);all_goals simp
    omega
 have:=key l;unfold bY;rw[List.length_cons,List.length_append,List.length_singleton];omega
theorem l4 (s:ByteArray):(ah s).length=s.size:=Array.length_toList
theorem qU (s:ByteArray):(aq (tJ s)).length≤2*s.size+2:=by have:=tI (ah s);rw[l4] at this;simpa [tJ,aq] using this
theorem oC {n:Int} (h:cY n=true):(aq (nJ n)).length≤20:=by
 have h1:=xM h;have:(aq (nJ n)).length=(cT n).size:=by rw[←l4];simp[nJ,aq]
 omega
theorem oo:∀ (l:List JV) (first:Bool) {m:Nat},(∀ k∈l,(aq k).length≤m)→(bZ l first).length≤(m+1)*l.length
 | [],_,m,_=>by simp[bZ]
 | x::r,first,m,h=>by
   have h1:=h x List.mem_cons_self;have h2:=oo r false (m:=m) fun k I=>h k (List.mem_cons_of_mem _ I);rw[dF,List.length_append,List.length_append,List.length_cons,Nat.mul_add];have:(if first then ([]:List UInt8) else [44]).length≤1:=by split <;> simp
   omega
theorem pQ (v:ByteArray→JV):∀ (ks:List ByteArray) (first:Bool),(∀ k∈ks,k.size≤7) →
 (aR ks (ks.map v) first).length≤18*ks.length+(ks.map fun k=>(aq (v k)).length).sum
 | [],_,_=>by simp[aR]
 | k::r,first,h=>by
   have h1:=h k List.mem_cons_self;have h2:=pQ v r false fun x I=>h x (List.mem_cons_of_mem _ I);have h3:=tI (ah k);rw[l4] at h3;have:(if first then ([]:List UInt8) else [44]).length≤1:=by split <;> simp
   rw[List.map_cons,cp];simp only[List.length_append,List.length_cons,List.map_cons,List.sum_cons,List.length_nil];omega
theorem rM {f:Fm} (h:f∈e8) (on:Bool):(∀ k∈bh f on,k.size≤7)∧((bh f on).countP fun k=>decide (k=aU))≤1∧f.ph.size≤1:=by
 have key:(e8.all fun f=>[true,false].all fun on=>((bh f on).all fun k=>decide (k.size≤7)) && (decide (((bh f on).countP fun k=>decide (k=aU))≤1) && decide (f.ph.size≤1)))=true:=by decide +kernel
 have h1:=List.all_eq_true.1 key f h;have h2:=List.all_eq_true.1 h1 on (by cases on <;> simp);simp only[Bool.and_eq_true,decide_eq_true_eq,List.all_eq_true] at h2;exact⟨h2.1,h2.2.1,h2.2.2⟩
theorem Ct {f:Fm} {e:Ev} (hm:f∈e8) (I:cn e=0) {id:Int} (h0:0≤id) (h1:id≤1000000000000000) (k:ByteArray):(aq (cJ f id e k)).length≤100+if k=aU then 3000 else 0:=by
 have g:=mb I;obtain⟨_,t2,t3,t4⟩:=v8 I;have hid:cY id=true:=by unfold cY;simp;omega
 have hp:=(rM hm true).2.2;unfold cJ;repeat' split
 all_goals try (have:=qU f.ph;omega)
 all_goals try (have:=oC hid;omega)
 all_goals try (have:=qU e.name;omega)
 all_goals try (have:=oC g.yS;omega)
 all_goals try (have:=oC g.FM;omega)
 all_goals try (have:=oC g.FD;omega)
 have hi:=oo (e.stack.map tJ) true (m:=82) (fun x J=>by obtain⟨s,hs,rfl⟩:=List.mem_map.1 J;have:=qU s;have:=(t3 s hs).2;omega);rw[List.length_map] at hi;simp[aq];omega
theorem Eu {f:Fm} {e:Ev} (J:ir e.kind=some f) (M:cn e=0) {id:Int} (h0:0≤id) (h1:id≤1000000000000000):(aq (ep f id e)).length≤4000:=by
 obtain⟨hm,_⟩:=lr J;obtain⟨a,b,_⟩:=rM hm (fK f e);have c:=sQ f (fK f e);have N:=pQ (cJ f id e) (bh f (fK f e)) true a;have key:∀ l:List ByteArray,(l.map fun k=>(aq (cJ f id e k)).length).sum≤100*l.length+3000*l.countP fun k=>decide (k=aU):=by
  intro l
  induction l with
  | nil=>simp
  | cons k r O=>
    have I:=Ct hm M h0 h1 k;rw[List.map_cons,List.sum_cons,List.length_cons,List.countP_cons];by_cases q:k=aU;·rw[if_pos q] at I;rw[if_pos (by simpa using q)];omega
    ·rw[if_neg q] at I;rw[if_neg (by simpa using q)];omega
 have hs:=key (bh f (fK f e));have:(aq (ep f id e)).length=(aR (bh f (fK f e)) ((bh f (fK f e)).map (cJ f id e)) true).length+2:=by simp[ep,aq]
 omega
end Go.Tb
namespace Go.Tb
open Go.Ab
theorem EY (t:bJ):dh (mJ t) cN=some (tJ pM)∧dh (mJ t) bq=some (nJ t.id)∧dh (mJ t) bg=some (tJ t.name):=by
 have I:(jU.findIdx? fun x=>decide (cN=x))=some 0:=by decide +kernel
 have J:(jU.findIdx? fun x=>decide (bq=x))=some 1:=by decide +kernel
 have M:(jU.findIdx? fun x=>decide (bg=x))=some 2:=by decide +kernel
 unfold dh mJ;simp only[JV.op,JV.keys,JV.kids,if_true,I,J,M];exact⟨rfl,rfl,rfl⟩
theorem EE {t:bJ} (h0:0≤t.id) (I:cd t.name=0):dk x0 (mJ t)=(⟨[t.id],[(t.id,t.name)],[]⟩,0):=by
 obtain⟨g1,g2,g3⟩:=EY t;have v1:bc (mJ t) cN 4=tJ pM∧dp (mJ t) cN 4=false:=by unfold bc dp js;rw[g1];exact⟨rfl,rfl⟩
 have v2:bc (mJ t) bq 3=nJ t.id∧dp (mJ t) bq 3=false:=by unfold bc dp js;rw[g2];exact⟨rfl,rfl⟩
 have v3:bc (mJ t) bg 4=tJ t.name∧dp (mJ t) bg 4=false:=by unfold bc dp js;rw[g3];exact⟨rfl,rfl⟩
 have hb:bD (mJ t) (bM (mJ t))=false:=by unfold bD bM;rw[v1.2,v2.1,v2.2,show(mJ t).op=6 from rfl,show(nJ t.id).n=t.id from rfl,decide_eq_false (show ¬ t.id < 0 by omega)];rfl
 have J:fq (mJ t) pt=true:=by
  have:fq (.mk 6 0 aY jU []) pt=true:=by decide +kernel
  exact this
 unfold dk;rw[if_neg (by rw[hb];simp),v1.1,if_neg (fun h=>h rfl),hb,v3.2,J,if_neg (by simp),v3.1,show(tJ t.name).s=t.name from rfl,if_neg (fun h=>h I),v2.1,if_neg (by simp[x0,jk])];rfl
theorem DB {x:eV} {f:Fm} {e:Ev} (I:ir e.kind=some f) (J:cn e=0) {id:Int} (h0:0≤id) (h1:id≤1000000000000000):dk x (ep f id e)=(sv x id e,0):=by have hj:=tu I J h0 h1 (level:=1) (by decide);have he:=yu I J h0 hj;obtain⟨hb,_⟩:=sP (j:=ep f id e) (by rw[he]);obtain⟨hm,_⟩:=lr I;have K:=Dx hm (fK f e);obtain⟨p1,_⟩:=iM (id:=id) (op:=4) K.ph (xo f id e) rfl;unfold dk;rw[if_neg (by rw[hb];simp),p1,if_pos (show(tJ f.ph).s≠pM from (rR hm true).2.2.2),he,if_pos rfl]
theorem Am {id:Int} {name:ByteArray} (h0:0≤id) (h1:id≤1000000000000000):∀ (l acc:List Ev),(∀ e∈l,cn e=0) →
 cG (l.map (vK id)) ⟨[id],[(id,name)],if acc=[] then [] else [(id,acc)]⟩=(⟨[id],[(id,name)],if acc++l=[] then [] else [(id,acc++l)]⟩,0)
 | [],acc,_=>by rw[List.append_nil]<;>rfl
 | e::r,acc,h=>by
   obtain⟨f,I,hw,_⟩:=qS (h e List.mem_cons_self) id;have J:=DB (x:=⟨[id],[(id,name)],if acc=[] then [] else [(id,acc)]⟩) I (h e List.mem_cons_self) h0 h1;rw[List.map_cons,cG,hw,J,if_neg (by simp)];have hp:sv ⟨[id],[(id,name)],if acc=[] then [] else [(id,acc)]⟩ id e=⟨[id],[(id,name)],if acc++[e]=[] then [] else [(id,acc++[e])]⟩:=by
    unfold sv dK
    cases acc with
    | nil=>simp[jk,cr]
    | cons a t=>simp[eE,cr]
   have:=Am h0 h1 r (acc++[e]) (name:=name) fun x M=>h x (List.mem_cons_of_mem _ M);rw[List.append_assoc] at this;show cG (r.map (vK id)) (sv _ id e)=_;rw[hp,this];rfl
def ct (id:Int) (l:List Ev):List aW:=if l=[] then [] else [⟨id,0,0,l⟩]
theorem AG (t:bJ) (l:List Ev) (h:l.length≤12):rG [t] (ct t.id l):=by
 unfold ct;split;·exact⟨by simp,by simp,by simp⟩
 ·rename_i q
  refine⟨by simp,fun p hp=>?_,?_⟩
  ·have:p=⟨t.id,0,0,l⟩:=by simpa using hp
   subst this;exact⟨rfl,rfl,List.length_pos_iff.2 q,by show l.length≤1000;omega⟩
  ·simp;omega
theorem ry (t:bJ) (l:List Ev):lV [t] (ct t.id l)=mJ t::l.map (vK t.id):=by
 unfold lV ct;split;·rename_i q;subst q;rfl
 ·simp[nZ]
theorem n9 {t:bJ} {l:List Ev} (h:(cQ [t] (ct t.id l)).2=0):0≤t.id∧t.id≤1000000000000000∧cd t.name=0∧∀ e∈l,cn e=0:=by
 obtain⟨h1,h2⟩:=mg h;obtain⟨ok,_,_⟩:=qo h1;obtain⟨a,b,c⟩:=ok.1 t List.mem_cons_self;refine⟨a,b,c,fun e he=>?_⟩;have I:l≠[]:=by rintro rfl;cases he
 have:ct t.id l=[⟨t.id,0,0,l⟩]:=if_neg I;rw[this] at h2;exact lW h2 _ List.mem_cons_self e he
theorem kY {t:bJ} {l:List Ev} (h:(cQ [t] (ct t.id l)).2=0):aX (eh [t] (ct t.id l)) 1=0:=by
 obtain⟨h0,h1,J,I⟩:=n9 h;have hid:cY t.id=true:=by unfold cY;simp;omega
 unfold eh;refine dr (dJ (by simp[bG,JV.op,JV.n,JV.s,JV.keys,JV.kids,aY]) (by omega) cP (by simp) rfl (by omega)) ?_;rw[ry];refine eP ?_ (il fun x M=>?_)
 ·unfold mJ
  refine dr (dJ (by simp[bG,JV.op,JV.n,JV.s,JV.keys,JV.kids,aY,jU]) (by omega) cP ?_ ?_ (by omega)) ?_
  ·have:(jU.all cH)=true:=by decide +kernel
   exact List.all_eq_true.1 this
  ·decide +kernel
  ·exact eP (kO (by decide +kernel) _) (eP (kW hid _) (eP (kO (kn J).1 _) cX))
 ·obtain⟨e,he,rfl⟩:=List.mem_map.1 M
  obtain⟨f,N,hw,_⟩:=qS (I e he) t.id;rw[hw];exact tu N (I e he) h0 h1 (by decide)
theorem mf {t:bJ} {l:List Ev} (h:(cQ [t] (ct t.id l)).2=0) (hl:l.length≤12):(aq (eh [t] (ct t.id l))).length≤60000:=by
 obtain⟨h0,h1,M,J⟩:=n9 h;have hid:cY t.id=true:=by unfold cY;simp;omega
 have hi:=oo (lV [t] (ct t.id l)) true (m:=4000) (fun x I=>by
  rw[ry] at I;rcases List.mem_cons.1 I with rfl | I
  ·have O:=oC hid
   have U:=qU t.name;have X:=(kn M).2;have Z:(aq (tJ pM)).length=3:=by decide +kernel
   have:(aq (mJ t)).length≤60+(aq (tJ pM)).length+(aq (nJ t.id)).length+(aq (tJ t.name)).length:=by
    have q1:(bY (ah cN)).length=4:=by decide +kernel
    have q2:(bY (ah bq)).length=5:=by decide +kernel
    have q3:(bY (ah bg)).length=6:=by decide +kernel
    have e:aq (mJ t)=123::(aR [cN,bq,bg] [tJ pM,nJ t.id,tJ t.name] true++[125]):=by unfold mJ jU;simp only[aq];rfl
    rw[e,cp,cp,cp];simp only[List.length_cons,List.length_append,q1,q2,q3,aR,List.length_nil,if_true];simp;omega
   omega
  ·obtain⟨e,he,rfl⟩:=List.mem_map.1 I
   obtain⟨f,N,hw,_⟩:=qS (J e he) t.id;rw[hw];exact Eu N (J e he) h0 h1)
 have hk:(lV [t] (ct t.id l)).length≤13:=by rw[ry];simp;omega
 have:(aq (eh [t] (ct t.id l))).length=(bZ (lV [t] (ct t.id l)) true).length+2:=by simp[eh,aq]
 omega
theorem qM {t:bJ} {l:List Ev} (h:(cQ [t] (ct t.id l)).2=0) (hl:l.length≤12):gF (bytesOf (aq (eh [t] (ct t.id l))))=(⟨[t],dq,ct t.id l⟩,0):=by
 obtain⟨h0,h1,I,M⟩:=n9 h;have X:(bytesOf (aq (eh [t] (ct t.id l)))).size≤65536:=by rw[←l4,dT];have:=mf h hl;omega
 have hp:=qF (kY h) (x:=[]) (y:=[]) (by simp) (by simp);rw[List.nil_append,List.append_nil] at hp;have N:cG (lV [t] (ct t.id l)) x0=(⟨[t.id],[(t.id,t.name)],if l=[] then [] else [(t.id,l)]⟩,0):=by rw[ry,cG,EE h0 I,if_neg (by simp)];exact Am h0 h1 l [] (name:=t.name) M
 have J:t.name≠aY:=by rintro q;rw[q] at I;revert I;decide +kernel
 unfold gF;rw[if_neg (by omega),dT,hp];show(if (eh [t] (ct t.id l)).op≠5 then _ else if (cG (eh [t] (ct t.id l)).kids x0).2≠0 then _ else _)=_;rw[if_neg (fun q=>q rfl),show(eh [t] (ct t.id l)).kids=lV [t] (ct t.id l) from rfl,N,if_neg (fun q=>q rfl)];have O:iw ⟨[t.id],[(t.id,t.name)],if l=[] then [] else [(t.id,l)]⟩ t.id=t:=by unfold iw nameOf;simp only[eE,if_true,Option.getD_some];rw[if_neg J]
 have U:dy ⟨[t.id],[(t.id,t.name)],if l=[] then [] else [(t.id,l)]⟩ t.id=ct t.id l:=by
  unfold dy ct;by_cases q:l=[];·subst q;simp[jk]
  ·simp[q,eE]
 show cQ [iw _ t.id] ([t.id].flatMap (dy _))=_;rw[List.flatMap_cons,List.flatMap_nil,List.append_nil,O,U];have:(cQ [t] (ct t.id l)).1=⟨[t],dq,ct t.id l⟩:=by obtain⟨a,b⟩:=mg h;unfold cQ;rw[if_neg (by rw[a];simp),if_neg (by rw[b];simp)]
 exact Prod.ext this h
end Go.Tb
namespace Go.Tb
open Go.Ab
structure Cd where
 id:Int
 name:ByteArray
 dom:Int
@[reducible] def Cd.c (t:Cd):List D:=[ci t.id,cs t.name,ci t.dom]
section
variable {P:Program} {T:bA P} {te ti ts:Nat} {o1 o2 o3:Nat} {n1 n2 n3:String} {l:List D}
theorem Cm (h:cz T te l) (he:cA T te=.st [(o1,ti,n1),(o2,ts,n2),(o3,ti,n3)]) (hi:cA T ti=.int .i64) (hs:cA T ts=.str):∃ x:Cd,l=x.c:=by obtain⟨p,q,r,rfl,h1,h2,h3⟩:=BF h he;obtain⟨a,rfl⟩:=jh h1 hi;obtain⟨b,rfl⟩:=qp h2 hs;obtain⟨c,rfl⟩:=jh h3 hi;exact⟨⟨a,b,c⟩,rfl⟩
end
end Go.Tb
