import Derived.Test.YtpiaiiopakafhaaGreatDoorQ1
import Derived.Laws.Cover3
import Derived.Lib.Bytealg
import Derived.Laws.Externs
import Derived.Lib.LaidTab
import Derived.Lib.SmallJoins
import Derived.Lib.AppendIntMem
import Derived.Lib.LaidU8
import Derived.LaidLaws
import Derived.HandedShaped
import Derived.Lay
import Derived.Lib.AtoiAllCases
import Derived.Lib.ItoaNum
import Derived.Lib.SplitLaws
import Derived.Lib.Join
import Derived.MapKept
import Derived.Laws.Slices
namespace Go.Ab
open Go.RowKit
section
variable {P:Program} {C:Ctx} {n:Nat} {ops:Array Oper} {Q:Exit→St→Prop} {rest:List Oper} {st:St} {o:Oper}
variable {f:List (Nat×A)} {bx:List (Nat×List A)} {lv:List Nat} {gen d:Nat} {op:Op} {ty:TypeId} {pos:String} {af:Array Edge} {dst:Option Nat}
theorem aC.undef {E:En}:aC E undef (.tup []):=.tup #[] [] rfl (by simp)
theorem WO.aD {j d:Nat} {want b:Bool} (J:o.guard=some (j,want)) (hj:eK ops j=some d) (hl:look st.f d=some (.d (.v (.bool b)))) (hb:(b == want)=false) (hd:eM n o.dst=true)
 (h:WO P C n ops Q rest (st.put o.dst (.tup []))):WO P C n ops Q (o::rest) st:=by
 intro tmps w ⟨G,hs⟩;simp only[dS,Region.wanted,J];rw[mx hj (ta hs hl)];have I:(some b == some want)=false:=by simpa using hb
 simp only[I,Bool.false_eq_true,if_false];rw[Act.gn];exact h _ _ ⟨G,hs.put (bQ hd) aC.undef⟩
theorem WO.nr {j d:Nat} {want:Bool} (J:o.guard=some (j,want)) (hj:eK ops j=some d) (hl:look st.f d=some (.tup [])) (hd:eM n o.dst=true)
 (h:WO P C n ops Q rest (st.put o.dst (.tup []))):WO P C n ops Q (o::rest) st:=by
 intro tmps w ⟨G,hs⟩;obtain⟨v,M,N⟩:=hs.frame _ _ hl;have O:yielded ops tmps j=none:=by unfold yielded;unfold eK at hj;rw[hj];simp only[Option.bind_some,M];cases N;rfl
 simp only[dS,Region.wanted,J,O];have I:((none:Option Bool) == some want)=false:=rfl;simp only[I,Bool.false_eq_true,if_false];rw[Act.gn];exact h _ _ ⟨G,hs.put (bQ hd) aC.undef⟩
theorem aD {j e:Nat} {want b:Bool} (hj:eK ops j=some e) (hl:look f e=some (.d (.v (.bool b)))) (hb:(b == want)=false) (hd:Nat.blt d n=true) (h:WO P C n ops Q rest ⟨(d,.tup [])::f,bx,lv,gen⟩) :
 WO P C n ops Q (⟨some d,op,ty,pos,af,some (j,want)⟩::rest) ⟨f,bx,lv,gen⟩:=
 WO.aD (st:=⟨f,bx,lv,gen⟩) rfl hj hl hb hd h
theorem nr {j e:Nat} {want:Bool} (hj:eK ops j=some e) (hl:look f e=some (.tup [])) (hd:Nat.blt d n=true) (h:WO P C n ops Q rest ⟨(d,.tup [])::f,bx,lv,gen⟩) :
 WO P C n ops Q (⟨some d,op,ty,pos,af,some (j,want)⟩::rest) ⟨f,bx,lv,gen⟩:=
 WO.nr (st:=⟨f,bx,lv,gen⟩) rfl hj hl hd h
theorem eY {f0:List (Nat×A)} {bx0:List (Nat×List A)} {lv0:List Nat} {gen0:Nat} {I J:Bool} {d0:Nat} {j e:Nat} {want b:Bool} (hj:eK ops j=some e) (hl:look f e=some (.d (.v (.bool b))))
 (M:b=true→WO P C n ops (bu d0 I f0 bx0 lv0 gen0) (⟨dst,op,ty,pos,af,some (j,want)⟩::rest) ⟨(e,.d (.v (.bool true)))::f,bx,lv,gen⟩)
 (N:b=false→WO P C n ops (bu d0 J f0 bx0 lv0 gen0) (⟨dst,op,ty,pos,af,some (j,want)⟩::rest) ⟨(e,.d (.v (.bool false)))::f,bx,lv,gen⟩) :
 WO P C n ops (bu d0 (bif b then I else J) f0 bx0 lv0 gen0) (⟨dst,op,ty,pos,af,some (j,want)⟩::rest) ⟨f,bx,lv,gen⟩:=by
 refine WO.split (st:=⟨f,bx,lv,gen⟩) hl (fun h=>?_) (fun h=>?_);·subst h;exact M rfl
 ·subst h;exact N rfl
end
end Go.Ab
namespace Go.Ab
open Go.RowKit
section
variable {P:Program} {C:Ctx} {n:Nat} {ops:Array Oper} {Q:Exit→St→Prop} {rest l:List Oper} {c:Code}
variable {f f0:List (Nat×A)} {bx bx0:List (Nat×List A)} {lv lv0:List Nat} {gen gen0 d:Nat} {op:Op} {ty:TypeId} {pos:String} {af:Array Edge} {dst:Option Nat} {a:A}
theorem an {s:Nat} {x y:Code} {b:Bool} (hl:look f s=some (.d (.v (.bool b)))) (I:b=true→W P C n x Q ⟨(s,.d (.v (.bool true)))::f,bx,lv,gen⟩) (J:b=false→W P C n y Q ⟨(s,.d (.v (.bool false)))::f,bx,lv,gen⟩) :
 W P C n (.cond (.tmp s) x y) Q ⟨f,bx,lv,gen⟩:=by
 refine W.cond (b:=b) hl (fun h=>?_) (fun h=>?_);·exact fun tmps w ⟨G,hs⟩=>I h tmps w ⟨G,hs.known hl (by rw[h])⟩
 ·exact fun tmps w ⟨G,hs⟩=>J h tmps w ⟨G,hs.known hl (by rw[h])⟩
theorem W.AQ {y:Bool} {st:St} (h:W P C n c (bu d y f bx lv gen) st) (I:Q .normal ⟨(d,lu y)::f,bx,lv,gen⟩):W P C n c Q st:=
 fun tmps w hs=>wp_mono (h tmps w hs) fun e act w ⟨hd,st',⟨G,hs⟩,he,h1,h2,h3,h4⟩=>by subst he;exact⟨hd,_,⟨G,hs.weaken (st':=⟨(d,lu y)::f,bx,lv,gen⟩) ⟨h1,by rw[←h2];exact fun _ _ h=>h,by rw[←h3];exact fun _ h=>h,h4.symm⟩⟩,I⟩
theorem mL (T:bA P) {id:Nat} {y:Bool} (hb:ui false l=some d) (hB:Region.lexB .any l.toArray=true) (h:CH P C n bx lv gen l.toArray (bu d y f bx lv gen .normal) l f) (I:Q .normal ⟨(d,lu y)::f,bx,lv,gen⟩) :
 W P C n (.region id l.toArray true) Q ⟨f,bx,lv,gen⟩:=W.AQ (W.eW T (Q:=bu d y f bx lv gen) hB h) I
theorem mz {I J:Bool} {d0:Nat} {j e:Nat} {want b:Bool} (hj:eK ops j=some e) (hl:look f e=some (.d (.v (.bool b))))
 (M:b=true→CH P C n bx lv gen ops (bu d0 I f0 bx0 lv0 gen0 .normal) (⟨dst,op,ty,pos,af,some (j,want)⟩::rest) ((e,.d (.v (.bool true)))::f))
 (N:b=false→CH P C n bx lv gen ops (bu d0 J f0 bx0 lv0 gen0 .normal) (⟨dst,op,ty,pos,af,some (j,want)⟩::rest) ((e,.d (.v (.bool false)))::f)) :
 CH P C n bx lv gen ops (bu d0 (bif b then I else J) f0 bx0 lv0 gen0 .normal) (⟨dst,op,ty,pos,af,some (j,want)⟩::rest) f:=by
 refine C3 hl (fun h=>?_) (fun h=>?_);·subst h;exact M rfl
 ·subst h;exact N rfl
theorem AH {I J:Bool} {d0:Nat} {j e:Nat} {want b:Bool} (hj:eK ops j=some e) (hl:look f e=some (.d (.v (.bool b))))
 (M:CH P C n bx lv gen ops (bu d0 I f0 bx0 lv0 gen0 .normal) (⟨dst,op,ty,pos,af,some (j,want)⟩::rest) ((e,.d (.v (.bool true)))::f))
 (N:CH P C n bx lv gen ops (bu d0 J f0 bx0 lv0 gen0 .normal) (⟨dst,op,ty,pos,af,some (j,want)⟩::rest) ((e,.d (.v (.bool false)))::f)) :
 CH P C n bx lv gen ops (bu d0 (bif b then I else J) f0 bx0 lv0 gen0 .normal) (⟨dst,op,ty,pos,af,some (j,want)⟩::rest) f:=
 mz hj hl (fun _=>M) (fun _=>N)
end
end Go.Ab
namespace Go.Ab
open Go.RowKit
section
variable {P:Program} (T:bA P) {C:Ctx} {n:Nat} {ops:Array Oper} {Q:Exit→St→Prop} {rest:List Oper} {c:Code}
variable {f:List (Nat×A)} {bx:List (Nat×List A)} {lv:List Nat} {gen d:Nat} {ty:TypeId} {pos:String} {af:Array Edge}
theorem pd (hl:look f d=some (.d (.v (.slice none 0 0)))) (hd:Nat.blt d n=true) (h:W P C n c Q ⟨(d,.own gen [])::f,bx,gen::lv,gen+1⟩):W P C n c Q ⟨f,bx,lv,gen⟩:=
 W.D5 (st:=⟨f,bx,lv,gen⟩) hl hd h
theorem eu {α:Type} {fn:α→List D} {l:List α} {a:α} {x y:Operand} {t e:Nat} {J I:bH} {g:Nat} {b:A} (hx:av f x=some (.own g (l.map fn))) (hy:av f y=some b) (M:gm b=some [fn a]) (ht:ae T.l t=some J) (hk:J.k=.slice e)
 (he:ae T.l e=some I) (N:(lv.any fun h=>Nat.beq h g)=true) (hz:Nat.blt 0 I.n=true) (O:Nat.blt 0 I.b=true) (hd:Nat.blt d n=true) (hl:∀ a,(fn a).length=I.n) (hb:(l.length+1)*I.b≤140737488355328)
 (h:WO P C n ops Q rest ⟨(d,.own gen ((l++[a]).map fn))::f,bx,gen::bk lv g,gen+1⟩):WO P C n ops Q (⟨some d,.call ⟨.builtin .append,#[x,y],#[t,t]⟩,ty,pos,af,none⟩::rest) ⟨f,bx,lv,gen⟩:=by
 obtain⟨g',U,X⟩:=List.any_eq_true.1 N;have Z:g∈lv:=Nat.eq_of_beq_eq_true X▸U;refine sx T hx hy M ht hk he Z hz O hd (fun z ad=>?_) (by simpa using hb) ?_
 ·rcases List.mem_append.1 ad with h | h
  ·obtain⟨a',_,rfl⟩:=List.mem_map.1 h;exact hl a'
  ·simp only[List.mem_singleton] at h;subst h;exact hl a
 ·rw[List.map_append] at h
  exact h
end
end Go.Ab
namespace Go.Ab
open Go.RowKit
def dO:Nat→List (List A)→List (Nat×List A)
 | _,[]=>[]
 | k,c::r=>(k,c)::dO (k+1) r
theorem mu:∀ (l:List (List A)) (k g:Nat) (c:List A),ae (dO k l) g=some c→k≤g∧l[g - k]? = some c
 | [],_,_,_,h=>by simp[dO,ae] at h
 | b::l,k,g,c,h=>by
   simp only[dO,bN] at h;split at h
   ·rename_i e
    subst e;simp only[Option.some.injEq] at h;subst h;exact⟨Nat.le_refl _,by simp⟩
   ·rename_i e
    obtain⟨h1,h2⟩:=mu l (k+1) g c h;refine⟨by omega,?_⟩;have:g - k=(g - (k+1))+1:=by omega
    rw[this];simpa using h2
theorem vJ:∀ (l:List (List A)) (k i:Nat) (c:List A),l[i]? = some c→ae (dO k l) (k+i)=some c
 | [],_,_,_,h=>by simp at h
 | b::l,k,i,c,h=>by
   simp only[dO,bN]
   cases i with
   | zero=>simpa using h
   | succ i=>rw[if_neg (by omega)];have:=vJ l (k+1) i c (by simpa using h);rw[←this];congr 1;omega
structure bp (P:Program) [cc P] (f:FuncId) (args:List A) (b0:List (List A)) (m:Nat) (r:A) (b1:List (List A)) (k:Nat):Prop where
 ok:iC P f
 len:b1.length=b0.length
 calls:∀ (C:Ctx) (G:Gh) (vals:Array Value) (w:World),GC P C→C.w0=w→C.bx.length=b0.length→C.ds=[]→(m=0→∀ b,C.fp b→∃ i:Nat,C.bx[i]? = some b) →
  ao C 0 ⟨[],dO 0 b0,(List.range m).map (b0.length+·),b0.length+m⟩ G #[] w→vals.size=args.length →
  (∀ (i:Nat) (u:Value) (a:A),vals[i]? = some u→args[i]? = some a→aC (au C G (b0.length+m) w) u a) →
  Calls P f vals w fun e w'=>∃ v G',e=.returned v∧ao C 0 ⟨[],dO 0 b1,(List.range k).map (b0.length+·),b0.length+k⟩ G' #[] w'∧aC (au C G' (b0.length+k) w') v r
theorem ao.xe {C:Ctx} {n J:Nat} {bx:List (Nat×List A)} {lv:List Nat} {gen:Nat} {G:Gh} {tmps I:Array Value} {w:World} (h:ao C n ⟨[],bx,lv,gen⟩ G tmps w) (hs:I.size=J) :
 ao C J ⟨[],bx,lv,gen⟩ G I w:=
 { h with size:=hs,frame:=fun t a M=>by simp[look] at M }
section
variable {P:Program} (T:bA P)
def dU (I:Nat) (order:List Nat):List Nat:=List.range I++order
def b4 (rs:List RV) (r:A) (b1:List (List A)) (k:Nat):Exit→St→Prop:=fun e st=>
 (match e with | .normal=>True | .ret=>True | _=>False)∧∃ l order,iT T st.f st.bx rs=some l∧bE (dU b1.length order) (aT l)=r∧order.length=k∧nodupB (dU b1.length order)=true∧(∀ g∈order,g∈st.lv) ∧
  ∀ (i:Nat) (c:List A),b1[i]? = some c→∃ c0,ae st.bx i=some c0∧fm (dU b1.length order) c0=c
theorem bp.ue [cc P] {f:FuncId} {fn:Func} {c:Code} {rs:List RV} {n:Nat} {args:List A} {J:List (List A)} {m:Nat} {r:A} {b1:List (List A)} {k:Nat} (hf:P.funcs[f]? = some fn) (X:(fn.name == "runtime.NumGoroutine")=false)
 (hb:fn.body=some c) (hn:fn.ntmps=n) (hr:fn.results=(rs.map RV.var).toArray) (hlen:Nat.ble args.length n=true) (M:b1.length=J.length)
 (h:∀ C,NB C J.length→GC P C→(m=0→∀ b,C.fp b→∃ i:Nat,C.bx[i]? = some b)→(∀ i b:Nat,C.bx[i]? = some b→b < C.w0.heap.size)→W P C n c (b4 T rs r b1 k) ⟨fX 0 args,dO 0 J,(List.range m).map (J.length+·),J.length+m⟩):bp P f args J m r b1 k:=by
 have hlen:=Nat.le_of_ble_eq_true hlen;refine⟨⟨fn,hf,X,by rw[hb];rfl⟩,M,fun C G I w hG hw Z O a1 hs cy aj=>?_⟩;subst hw;refine calls_of_wp hf hb (wp_mono (pk O (h C ⟨Z⟩ hG a1 (fun i b hb=>(hs.gbox i b (hs.lent i b hb)).2.1) (I++Array.replicate (fn.ntmps - I.size) undef) C.w0 ⟨G,?_⟩)) ?_)
 ·refine { hs with size:=by simp[hn];omega,frame:=fun t a ha=>?_ }
  obtain⟨_,h1⟩:=fA args 0 t a ha;have h2:t < args.length:=(List.getElem?_eq_some_iff.1 (by simpa using h1)).1;have h3:t < I.size:=by omega
  have h4:I[t]? = some I[t]:=by simp[h3]
  exact⟨I[t],by rw[Array.getElem?_append_left h3];exact h4,aj t _ a h4 (by simpa using h1)⟩
 ·rintro e ⟨tmps,df⟩ w' ⟨hd,st,⟨G,hs⟩,he,l,order,hl,a6,a7,a8,b2,b3⟩
  have cx:(dU b1.length order).length=J.length+k:=by simp[dU,a7,M]
  have U:∀ i,i < C.bx.length→(dU b1.length order)[i]? = some i:=fun i hi=>by unfold dU;rw[List.getElem?_append_left (by simp;omega),List.getElem?_range (by omega)]
  have N:∃ v,(results fn tmps).run P w'=.ok v w'∧∃ ad G',Ending.returned v=.returned ad∧ao C 0 ⟨[],dO 0 b1,(List.range k).map (J.length+·),J.length+k⟩ G' #[] w'∧aC (au C G' (J.length+k) w') ad r:=by
   obtain⟨vs,ch,cj,cl⟩:=jn T hs rs l hl;refine⟨_,fH hr ch,_,lI (dU b1.length order) G,rfl,?_,?_⟩
   ·refine ao.xe (hs.bE (f':=[]) (bx':=dO 0 b1) (lv':=(List.range k).map (J.length+·)) (gen':=J.length+k) (dU b1.length order) (dL a8) (by omega) U (fun t a ha=>by simp[look] at ha) (fun i c hc=>?_) (fun i hi=>?_)) rfl
    ·obtain⟨_,h1⟩:=mu b1 0 i c hc
     simp only[Nat.sub_zero] at h1;obtain⟨c0,h2,h3⟩:=b3 i c h1;have cq:i < b1.length:=(List.getElem?_eq_some_iff.1 h1).1;exact⟨i,c0,U i (by rw[Z,←M];exact cq),h2,by rw[←fF];exact h3⟩
    ·obtain⟨j,hj,rfl⟩:=List.mem_map.1 hi
     have hj:j < k:=by simpa using hj
     have ai:j < order.length:=by omega
     refine⟨order[j],?_,b2 _ (List.getElem_mem ai)⟩;unfold dU;rw[List.getElem?_append_right (by simp;omega)];simp[M,ai]
   ·rw[←a6]
    refine aC.bE (gen:=st.gen) (by omega) (kD cj cl)
  cases e with
  | normal=>exact⟨hd.trans O,N⟩
  | ret=>exact⟨hd.trans O,N⟩
  | exit _=>exact he.elim
  | goto _=>exact he.elim
  | panic _=>exact he.elim
  | outgrown=>exact he.elim
theorem bp.cZ [cc P] {f:FuncId} {fn:Func} {c:Code} {rs:List RV} {n:Nat} {args:List A} {I:List (List A)} {m:Nat} {r:A} {b1:List (List A)} {k:Nat} (N:P.funcs[f]? = some fn) (J:(fn.name == "runtime.NumGoroutine")=false)
 (hb:fn.body=some c) (O:fn.ntmps=n) (U:fn.results=(rs.map RV.var).toArray) (hlen:Nat.ble args.length n=true) (M:b1.length=I.length)
 (h:∀ C,NB C I.length→GC P C→W P C n c (b4 T rs r b1 k) ⟨fX 0 args,dO 0 I,(List.range m).map (I.length+·),I.length+m⟩):bp P f args I m r b1 k:=
 bp.ue T N J hb O U hlen M fun C hC X _ _=>h C hC X
theorem b4.ret {rs:List RV} {r:A} {b1:List (List A)} {k:Nat} {e:Exit} {st:St} {l:List A} (order:List Nat) (he:match e with | .normal=>True | .ret=>True | _=>False) (hl:iT T st.f st.bx rs=some l)
 (M:order.length=k) (I:nodupB (dU b1.length order)=true) (J:(order.all fun g=>st.lv.any fun h=>Nat.beq h g)=true) (hb:∀ (i:Nat) (c:List A),b1[i]? = some c→∃ c0,ae st.bx i=some c0∧fm (dU b1.length order) c0=c)
 (N:bE (dU b1.length order) (aT l)=r):b4 T rs r b1 k e st:=
 ⟨he,l,order,hl,N,M,I,fun g O=>by obtain⟨x,U,he⟩:=List.any_eq_true.1 (List.all_eq_true.1 J g O);exact Nat.eq_of_beq_eq_true he▸U,hb⟩
end
/-! the caller's side -/
def dm (bx:List (Nat×List A)) (gs os:List Nat):Nat→A→A
 | 0,_=>.any
 | _+1,.d x=>.d x
 | _+1,.ag l=>.ag l
 | _+1,.own g es=>match pos os g with
   | some i=>.own (gs.length+i) es
   | none=>.d (.sl es)
 | k+1,.agg l=>jx (l.map (dm bx gs os k))
 | _+1,.tup _=>.any
 | _+1,.rowd l=>.rowd l
 | k+1,.row l=>.row (l.map (dm bx gs os k))
 | k+1,.ptr g off=>match pos gs g with
   | some i=>.ptr i off
   | none=>match ae bx g with
     | some cells=>.row ((cells.drop off).map (dm bx gs os k))
     | none=>.any
 | _+1,.xs g es=>match pos os g with
   | some i=>.xs (gs.length+i) es
   | none=>.any
 | _+1,.xp _ _ _ _=>.any
 | _+1,.mp g es=>match pos os g with
   | some i=>.mp (gs.length+i) es
   | none=>.any
 | _+1,.mq g es=>match pos os g with
   | some i=>.mq (gs.length+i) es
   | none=>.any
 | _+1,.mo g es h I=>match pos os g with
   | some i=>.mo (gs.length+i) es h I
   | none=>.any
 | k+1,.clo f l=>.clo f (l.map (dm bx gs os k))
 | k+1,.bnd f l=>.bnd f (l.map (dm bx gs os k))
 | _+1,.ni=>.ni
 | _+1,.fl es=>.fl es
 | _+1,.bf g T s=>match pos os g with
   | some i=>.bf (gs.length+i) T s
   | none=>.any
 | _+1,.np g T u=>match pos gs g with
   | some i=>.np i T u
   | none=>.any
 | _+1,.lk _ _ _ _=>.any
 | _+1,.fx _ _ _=>.any
 | _+1,.ol _ _ _ _=>.any
 | _+1,.ow _ _ _=>.any
 | _+1,.sb g n c=>match pos gs g with
   | some i=>.sb i n c
   | none=>.any
 | _+1,.any=>.any
def eZ (bx:List (Nat×List A)) (gs os:List Nat):List Nat→Option (List (List A))
 | []=>some []
 | g::r=>match ae bx g,eZ bx gs os r with
   | some c,some l=>some (c.map (dm bx gs os 5)::l)
   | _,_=>none
mutual
def back (gs:List Nat) (m:Nat):A→A
 | .own g es=>.own (g+m) es
 | .agg l=>.agg (ke gs m l)
 | .tup l=>.tup (ke gs m l)
 | .clo f l=>.clo f (ke gs m l)
 | .bnd f l=>.bnd f (ke gs m l)
 | .ptr i off=>match gs[i]? with
   | some g=>.ptr g off
   | none=>.any
 | .xs g es=>.xs (g+m) es
 | .xp g i off l=>.xp (g+m) i off l
 | .mp g es=>.mp (g+m) es
 | .mq g es=>.mq (g+m) es
 | .mo g es h I=>.mo (g+m) es h I
 | .row _=>.any
 | .d x=>.d x
 | .ag l=>.ag l
 | .rowd l=>.rowd l
 | .fl es=>.fl es
 | .bf g T s=>.bf (g+m) T s
 | .np i T u=>match gs[i]? with
   | some g=>.np g T u
   | none=>.any
 | .lk _ _ _ _=>.any
 | .fx _ _ _=>.any
 | .ol _ _ _ _=>.any
 | .ow _ _ _=>.any
 | .sb i n c=>match gs[i]? with
   | some g=>.sb g n c
   | none=>.any
 | .ni=>.ni
 | .any=>.any
def ke (gs:List Nat) (m:Nat):List A→List A
 | []=>[]
 | a::l=>back gs m a::ke gs m l
end
theorem gB (gs:List Nat) (m:Nat):∀ l:List A,ke gs m l=l.map (back gs m)
 | []=>rfl
 | a::l=>by simp[ke,gB gs m l]
def gH (gs:List Nat) (m:Nat):List Nat→List (List A)→List (Nat×List A)
 | g::r,c::l=>(g,ke gs m c)::gH gs m r l
 | _,_=>[]
theorem oF {gs:List Nat} {m:Nat}:∀ {r:List Nat} {l:List (List A)} {g:Nat} {c:List A},ae (gH gs m r l) g=some c→∃ (i:Nat) (c0:List A),r[i]? = some g∧l[i]? = some c0∧ke gs m c0=c
 | [],_,g,c,h=>by simp[gH,ae] at h
 | _::_,[],g,c,h=>by simp[gH,ae] at h
 | g0::r,c0::l,g,c,h=>by
   simp only[gH,bN] at h;split at h
   ·rename_i e
    subst e;simp only[Option.some.injEq] at h;exact⟨0,c0,rfl,rfl,h⟩
   ·obtain⟨i,I,h1,h2,h3⟩:=oF h
    exact⟨i+1,I,by simpa using h1,by simpa using h2,h3⟩
section
variable {P:Program} {C:Ctx} {n:Nat} {ops:Array Oper} {Q:Exit→St→Prop} {st:St} {o:Oper} {rest:List Oper}
def ec (G:Gh) (gs:List Nat) (b:Nat):Prop:=∃ g∈gs,G.box g=some b
def dv (G:Gh) (os:List Nat) (b lim:Nat):Prop:=∃ g∈os,∃ r,G.own g=some r∧r.nq b lim
theorem ao.rowAt {C:Ctx} {n:Nat} {st:St} {G:Gh} {tmps:Array Value} {w:World} (h:ao C n st G tmps w) {g b lim:Nat} {r:Row} (hg:G.own g=some r) (U:r.nq b lim) :
 C.gl b lim∧(∀ M,G.box M≠some b)∧b < w.heap.size ∧
  (∀ M O I,G.own M=some O→O.nq b I→M=g∧I=lim):=by
 have inj:∀ O I,G.own g=some O→O.nq b I→(∀ b1 bs,r≠.mp b1 bs)→I=lim:=by
  intro O I h1 h2 b0;rw[hg] at h1;cases h1
  cases r with
  | nil=>exact U.elim
  | zero _=>exact U.elim
  | blk b1 len cap sz a7=>exact h2.2.trans U.2.symm
  | mp b1 bs=>exact absurd rfl (b0 b1 bs)
 have key:∀ M O I,G.own M=some O→O.nq b I→M=g∧I=lim:=by
  intro M O I N J
  cases r with
  | nil=>exact U.elim
  | zero _=>exact U.elim
  | blk b1 len cap sz a7=>
    obtain⟨rfl,rfl⟩:=U;obtain⟨_,_,h3,cur,T,h4,_⟩:=h.row g b1 len cap sz lim hg
    cases O with
    | nil=>exact J.elim
    | zero _=>exact J.elim
    | blk Z aj a1 a8 a6=>have b3:=J;obtain⟨rfl,rfl⟩:=J;have e:=h3 M _ _ _ _ N;subst e;exact⟨rfl,inj _ _ N b3 (fun _ _ h=>by cases h)⟩
    | mp Z X=>
      rcases J with ⟨rfl,rfl⟩ | ad
      ·obtain⟨_,_,_,me,clock,h5⟩:=h.mrow M Z X N
       rw[h4] at h5;cases h5
      ·exact absurd hg ((h.sub M Z X b1 I N ad).2.2.1 g _ _ _ _)
  | mp b1 ai=>
    rcases U with ⟨rfl,rfl⟩ | hm
    ·obtain⟨_,_,h3,me,clock,h4⟩:=h.mrow g b1 ai hg
     cases O with
     | nil=>exact J.elim
     | zero _=>exact J.elim
     | blk Z aj a1 a8 a6=>obtain⟨rfl,rfl⟩:=J;obtain⟨_,_,_,cur,T,h5,_⟩:=h.row M Z _ _ _ _ N;rw[h4] at h5;cases h5
     | mp Z X=>
       rcases J with ⟨rfl,rfl⟩ | ad
       ·exact⟨h3 M X N,rfl⟩
       ·obtain⟨_,_,_,_,cur,T,h5,_⟩:=h.sub M Z X b1 I N ad
        rw[h4] at h5;cases h5
    ·obtain⟨_,_,h3,h4,cur,T,h5,_⟩:=h.sub g b1 ai b lim hg hm
     cases O with
     | nil=>exact J.elim
     | zero _=>exact J.elim
     | blk Z aj a1 a8 a6=>obtain⟨rfl,rfl⟩:=J;exact absurd N (h3 M _ _ _ _)
     | mp Z X=>
       rcases J with ⟨rfl,rfl⟩ | ad
       ·obtain⟨_,_,_,me,clock,h6⟩:=h.mrow M Z X N
        rw[h5] at h6;cases h6
       ·exact h4 M _ _ _ N ad
 cases r with
 | nil=>exact U.elim
 | zero _=>exact U.elim
 | blk b1 len cap sz a7=>obtain⟨rfl,rfl⟩:=U;obtain⟨h1,h2,h3,cur,T,h4,_⟩:=h.row g b1 len cap sz lim hg;exact⟨h1,h2,(Array.getElem?_eq_some_iff.1 h4).1,key⟩
 | mp b1 ai=>
   rcases U with ⟨rfl,rfl⟩ | hm
   ·obtain⟨h1,h2,h3,me,clock,h4⟩:=h.mrow g b1 ai hg
    exact⟨h1,h2,(Array.getElem?_eq_some_iff.1 h4).1,key⟩
   ·obtain⟨h1,h2,_,_,cur,T,h5,_⟩:=h.sub g b1 ai b lim hg hm
    exact⟨h1,h2,(Array.getElem?_eq_some_iff.1 h5).1,key⟩
theorem ao.BD {C:Ctx} {n:Nat} {st:St} {G:Gh} {tmps:Array Value} {w:World} (h:ao C n st G tmps w) {g b lim o:Nat} {r:Row} {u:Value} (J:G.own g=some r) (I:r.nq b lim)
 (hu:cellAt w b o=some u) (hle:lim≤o):aS C G b o:=by
 cases r with
 | nil=>exact I.elim
 | zero _=>exact I.elim
 | blk b1 len cap sz M=>obtain⟨rfl,rfl⟩:=I;exact .inr (.inr (.inl ⟨g,len,cap,sz,lim,J,hle⟩))
 | mp b1 bs=>
   rcases I with ⟨rfl,rfl⟩ | hm
   ·obtain⟨_,_,_,N,clock,h4⟩:=h.mrow g b1 bs J
    simp[cellAt,World.cell?,h4] at hu
   ·exact .inr (.inr (.inr ⟨g,b1,bs,lim,J,hm,hle⟩))
def dH (C:Ctx) (G:Gh) (w:World) (gs os:List Nat):Ctx:=
 { w0:=w,fp:=fun b=>ec G gs b∨∃ lim,dv G os b lim,x:=fun b o=>aS C G b o∧¬ (ec G gs b∨∃ lim,dv G os b lim),
   keep:=fun b o=>∃ lim,dv G os b lim∧o < lim,bx:=gs.map fun g=>(G.box g).getD 0 }
theorem qn {C:Ctx} {G:Gh} {w:World} {gs os:List Nat} {m:Nat} (hm:os.length=m):m=0→∀ b,(dH C G w gs os).fp b→∃ i:Nat,(dH C G w gs os).bx[i]? = some b:=by
 rintro rfl b (⟨g,I,hb⟩ | ⟨lim,g,I,_⟩)
 ·obtain⟨i,hi⟩:=List.mem_iff_getElem?.1 I
  exact⟨i,by show(gs.map _)[i]? = _;rw[List.getElem?_map,hi];simp[hb]⟩
 ·have:=List.length_eq_zero_iff.1 hm;subst this;cases I
def fz (G:Gh) (gs os:List Nat):Gh:=⟨fun i=>(gs[i]?).bind G.box,fun i=>if i < gs.length then none else (os[i - gs.length]?).bind G.own⟩
theorem GC.rv {P:Program} [cc P] {C:Ctx} [hC:GC P C] {n:Nat} {st:St} {G:Gh} {tmps:Array Value} {w:World} (hs:ao C n st G tmps w) {gs os:List Nat}:GC P (dH C G w gs os):=by
 obtain⟨W',N,J,I⟩:=hC.h;refine⟨W',N,Nat.le_trans J hs.fr.size,fun b hb=>⟨(hs.fr.block b (Nat.lt_of_lt_of_le hb J) (I b hb).2).trans (I b hb).1,?_⟩⟩;rintro(⟨g,_,M⟩ | ⟨_,g,_,r,M,hr⟩)
 ·rcases(hs.gbox g b M).2.2.1 with h | h
  ·omega
  ·exact(I b hb).2 h
 ·rcases(hs.rowAt M hr).1.1 with h | h
  ·omega
  ·exact(I b hb).2 h
theorem xl {C:Ctx} {G:Gh} {w:World} {gs os:List Nat} {b o:Nat} (h:aS (dH C G w gs os) (fz G gs os) b o):aS C G b o:=by
 rcases h with h | ⟨g,h⟩ | ⟨g,len,cap,sz,I,h,hle⟩ | ⟨g,J,bs,lim,h,hm,hle⟩
 ·exact h.1
 ·obtain⟨g0,_,h0⟩:=Option.bind_eq_some_iff.1 h
  exact Or.inr (Or.inl ⟨g0,h0⟩)
 ·simp only[fz] at h
  split at h;·cases h
  ·obtain⟨g0,_,h0⟩:=Option.bind_eq_some_iff.1 h
   exact Or.inr (Or.inr (.inl ⟨g0,len,cap,sz,I,h0,hle⟩))
 ·simp only[fz] at h
  split at h;·cases h
  ·obtain⟨g0,_,h0⟩:=Option.bind_eq_some_iff.1 h
   exact Or.inr (Or.inr (.inr ⟨g0,J,bs,lim,h0,hm,hle⟩))
theorem pr {C:Ctx} {G:Gh} {w:World} {gs os:List Nat} {b o:Nat} (h:aS C G b o) (I:¬ (ec G gs b∨∃ lim,dv G os b lim)) {J:Gh}:aS (dH C G w gs os) J b o:=Or.inl ⟨h,I⟩
theorem aC.kT {G:Gh} {tmps:Array Value} {w:World} (h:ao C n st G tmps w) (gs os:List Nat) {gen':Nat} (cq:gs.length+os.length≤gen') :
 ∀ (k:Nat) (v:Value) (a:A),aC (au C G st.gen w) v a→aC (au (dH C G w gs os) (fz G gs os) gen' w) v (dm st.bx gs os k a):=by
 have U:∀ b o u,cellAt w b o=some u→¬ aS C G b o→cellAt w b o=some u∧¬ aS (dH C G w gs os) (fz G gs os) b o:=fun b o u h1 h2=>⟨h1,fun hp=>h2 (xl hp)⟩;have hold:∀ b,(∃ g∈gs,G.box g=some b)∨(∃ lim,dv G os b lim)→C.w0.heap.size≤b∨C.fp b:=by
  rintro b (⟨g,_,hg⟩ | ⟨lim,g,_,r,hg,hr⟩);·exact(h.gbox g b hg).2.2.1
  ·exact(h.rowAt hg hr).1.1
 intro k
 induction k with
 | zero=>intro v a _;exact .any v
 | succ k ih=>
   intro v a hr
   have a1:∀ (l:List A) (vs:Array Value),(∀ (i:Nat) (u:Value) (x:A),vs[i]? = some u→l[i]? = some x→aC (au C G st.gen w) u x) →
    ∀ (i:Nat) (u:Value) (x:A),vs[i]? = some u→(l.map (dm st.bx gs os k))[i]? = some x→aC (au (dH C G w gs os) (fz G gs os) gen' w) u x:=by
    intro l vs hl i u x hu J;simp only[List.getElem?_map,Option.map_eq_some_iff] at J;obtain⟨y,hy,rfl⟩:=J;exact ih u y (hl i u y hu hy)
   cases hr with
   | any=>exact .any _
   | d hd=>exact .d (hd.mono U)
   | ag vs l hs hd=>exact .ag vs l hs (fun i u x h1 h2=>(hd i u x h1 h2).mono U)
   | own _ g es hd _ J=>
     simp only[dm];split
     ·rename_i i hp
      have hi:=cg hp;have O:=(List.getElem?_eq_some_iff.1 hi).1;refine .own _ _ es (hd.mono U) (by simp only[au];omega) (fun r M=>J r ?_);have I:(if gs.length+i < gs.length then none else (os[gs.length+i - gs.length]?).bind G.own)=some r:=M;rw[if_neg (by omega),Nat.add_sub_cancel_left,hi] at I;exact I
     ·exact .d (hd.mono U)
   | agg vs l hs hone hd=>exact jN (by simp[hs]) hone (a1 l vs hd)
   | tup vs l hs hd=>exact .any _
   | rowd b off l u ai hd=>exact .rowd b off l u (fun j hj=>U _ _ _ (ai j hj).1 (ai j hj).2) (fun j x J=>(hd j x J).mono U)
   | row b off l u ai hd=>
     refine .row b off _ u (fun j hj=>?_) (fun j x J=>?_)
     ·have:=ai j (by simpa using hj)
      refine⟨this.1,⟨cE this.1,fun hl=>?_⟩,this.2.2⟩;have h1:=hold b hl;have h2:=this.2.1;simp only[au] at h2;rcases h1 with h1 | h1
      ·omega
      ·exact h2.2 h1
     ·simp only[List.getElem?_map,Option.map_eq_some_iff] at J
      obtain⟨y,hy,rfl⟩:=J;exact ih _ y (hd j y hy)
   | xs _ g es aj h1 J=>
     simp only[dm];split
     ·rename_i i hp
      have hi:=cg hp;have O:=(List.getElem?_eq_some_iff.1 hi).1;refine .xs _ _ es (by simp only[au];omega) h1 (fun r M=>?_);have I:(if gs.length+i < gs.length then none else (os[gs.length+i - gs.length]?).bind G.own)=some r:=M;rw[if_neg (by omega),Nat.add_sub_cancel_left,hi] at I;exact(J r I).da U
     ·exact .any _
   | xp=>exact .any _
   | ni t x=>exact .ni t x
   | fl _ es hd b2=>exact .fl _ es (hd.mono U) b2
   | bf _ g T s aj h1 J=>
     simp only[dm];split
     ·rename_i i hp
      have hi:=cg hp;have O:=(List.getElem?_eq_some_iff.1 hi).1;refine .bf _ _ T s (by simp only[au];omega) h1 (fun r M=>?_);have I:(if gs.length+i < gs.length then none else (os[gs.length+i - gs.length]?).bind G.own)=some r:=M;rw[if_neg (by omega),Nat.add_sub_cancel_left,hi] at I;exact J r I
     ·exact .any _
   | mp _ g es aj h1 J=>
     simp only[dm];split
     ·rename_i i hp
      have hi:=cg hp;have O:=(List.getElem?_eq_some_iff.1 hi).1;refine .mp _ _ es (by simp only[au];omega) h1 (fun r M=>?_);have I:(if gs.length+i < gs.length then none else (os[gs.length+i - gs.length]?).bind G.own)=some r:=M;rw[if_neg (by omega),Nat.add_sub_cancel_left,hi] at I;exact(J r I).da U
     ·exact .any _
   | mq _ g es aj h1 J=>
     simp only[dm];split
     ·rename_i i hp
      have hi:=cg hp;have O:=(List.getElem?_eq_some_iff.1 hi).1;refine .mq _ _ es (by simp only[au];omega) h1 (fun r M=>?_);have I:(if gs.length+i < gs.length then none else (os[gs.length+i - gs.length]?).bind G.own)=some r:=M;rw[if_neg (by omega),Nat.add_sub_cancel_left,hi] at I;exact(J r I).da U
     ·exact .any _
   | mo _ g es hole ob aj h1 J=>
     simp only[dm];split
     ·rename_i i hp
      have hi:=cg hp;have O:=(List.getElem?_eq_some_iff.1 hi).1;refine .mo _ _ es hole ob (by simp only[au];omega) h1 (fun r M=>?_);have I:(if gs.length+i < gs.length then none else (os[gs.length+i - gs.length]?).bind G.own)=some r:=M;rw[if_neg (by omega),Nat.add_sub_cancel_left,hi] at I;exact(J r I).da U
     ·exact .any _
   | np _ g T b0 hg X hT u Z=>
     simp only[dm];split
     ·rename_i i ad
      have hi:=cg ad;have O:=(List.getElem?_eq_some_iff.1 hi).1;refine .np _ i T b0 (by simp only[au];omega) ?_ (by exact hT) u Z;show(gs[i]?).bind G.box=some b0;rw[hi];exact X
     ·exact .any _
   | lk=>exact .any _
   | fx=>exact .any _
   | ol=>exact .any _
   | ow=>exact .any _
   | sb _ g n c b0 hg X hn Z=>
     simp only[dm];split
     ·rename_i i ad
      have hi:=cg ad;have O:=(List.getElem?_eq_some_iff.1 hi).1;refine .sb _ i n c b0 (by simp only[au];omega) ?_ hn Z;show(gs[i]?).bind G.box=some b0;rw[hi];exact X
     ·exact .any _
   | ptr _ g off b0 hg X Z=>
     have hp:=kP X Z;simp only[dm];split
     ·rename_i i ad
      have hi:=cg ad;have O:=(List.getElem?_eq_some_iff.1 hi).1;refine .ptr _ i off b0 (by simp only[au];omega) ?_ Z;show(gs[i]?).bind G.box=some b0;rw[hi];exact X
     ·rename_i b3
      split
      ·rename_i cells hb
       obtain⟨b,cs,T',h1,h2,h3,h4,h5⟩:=h.box g cells hb;rw[hp b h1];refine .row b off _ (fun j=>cs[off+j]?.getD default) (fun j hj=>?_) (fun j x J=>?_)
       ·have a6:off+j < cs.size:=by simp at hj;omega
        have e:cs[off+j]? = some cs[off+j]:=by simp[a6]
        refine⟨by show cellAt w b (off+j)=_;rw[bC h2,e];rfl,⟨(Array.getElem?_eq_some_iff.1 h2).1,?_⟩,by rw[e];exact h4 _ _ e⟩;rintro(⟨g',a7,ch⟩ | ⟨lim,g',a7,r,M,hra⟩)
        ·have e:=h.inj g g' b h1 ch
         subst e;have:∀ {l:List Nat},pos l g=none→g∉l:=by
          intro l
          induction l with
          | nil=>intro _ hm;cases hm
          | cons y l cj=>
            intro N hm;simp only[pos] at N
            cases e:Nat.beq y g with
            | true=>rw[e] at N;simp at N
            | false=>
              rw[e] at N;simp only[cond_false] at N;split at N;·cases N
              ·rename_i cl
               rcases List.mem_cons.1 hm with rfl | hm
               ·simp at e
               ·exact cj cl hm
         exact this b3 a7
        ·exact(h.rowAt M hra).2.1 g h1
       ·simp only[List.getElem?_map,Option.map_eq_some_iff] at J
        obtain⟨y,hy,rfl⟩:=J;have a8:cells[off+j]? = some y:=by simpa using hy
        have a6:off+j < cs.size:=by rw[h3];exact(List.getElem?_eq_some_iff.1 a8).1
        have e:cs[off+j]? = some cs[off+j]:=by simp[a6]
        rw[e];exact ih _ y (h5 _ _ _ e a8)
      ·exact .any _
   | clo f vs l hs hd=>exact .clo f vs _ (by simp[hs]) (a1 l vs hd)
   | bnd f vs l hs hd=>exact .bnd f vs _ (by simp[hs]) (a1 l vs hd)
theorem fU {bx:List (Nat×List A)} {gs os:List Nat}:∀ {r:List Nat} {l:List (List A)},eZ bx gs os r=some l→l.length=r.length∧∀ (i g:Nat),r[i]? = some g→∃ c,ae bx g=some c∧l[i]? = some (c.map (dm bx gs os 5))
 | [],l,h=>by simp only[eZ,Option.some.injEq] at h;subst h;simp
 | g0::r,l,h=>by
   simp only[eZ] at h;split at h
   ·rename_i c l' I hl
    simp only[Option.some.injEq] at h;subst h;obtain⟨h1,h2⟩:=fU hl;refine⟨by simp[h1],fun i g hi=>?_⟩
    cases i with
    | zero=>simp at hi;subst hi;exact⟨c,I,rfl⟩
    | succ i=>simpa using h2 i g (by simpa using hi)
   ·cases h
theorem kZ {l:List Nat} (J:l.Nodup) {i j g:Nat} (h1:l[i]? = some g) (h2:l[j]? = some g):i=j:=by
 obtain⟨i1,M⟩:=List.getElem?_eq_some_iff.1 h1;obtain⟨i2,N⟩:=List.getElem?_eq_some_iff.1 h2;have I:=List.pairwise_iff_getElem.1 J;rcases Nat.lt_trichotomy i j with O | heq | U
 ·exact absurd (M.trans N.symm) (I i j i1 i2 O)
 ·exact heq
 ·exact absurd (N.trans M.symm) (I j i i2 i1 U)
theorem ao.kT {G:Gh} {tmps:Array Value} {w:World} (h:ao C n st G tmps w) {gs os:List Nat} {Z:List (List A)} (cl:gs.Nodup) (ai:os.Nodup) (cq:∀ g∈os,g∈st.lv) (hb:eZ st.bx gs os gs=some Z) :
 (dH C G w gs os).bx.length=Z.length∧ao (dH C G w gs os) 0 ⟨[],dO 0 Z,(List.range os.length).map (Z.length+·),Z.length+os.length⟩ (fz G gs os) #[] w:=by
 obtain⟨hl,aj⟩:=fU hb;refine⟨by simp[dH,hl],?_⟩;have I:∀ {g r},(fz G gs os).own g=some r→gs.length≤g∧∃ g0,os[g - gs.length]? = some g0∧G.own g0=some r:=by
  intro g r M;simp only[fz] at M;split at M;·cases M
  ·exact⟨by omega,Option.bind_eq_some_iff.1 M⟩
 refine { size:=rfl,frame:=fun t a ha=>by simp[look] at ha,box:=fun i l' hc=>?_,gbox:=fun i b a1=>?_,inj:=fun i j b h1 h2=>?_,live:=fun i hi=>?_,gown:=fun i r M=>?_,
          row:=fun i b len cap sz a7 M=>?_,mrow:=fun i b bs M=>?_,sub:=fun i b bs c lim M a6=>?_,gcell:=fun i b a1=>(let ⟨g,_,h2⟩:=Option.bind_eq_some_iff.1 a1;h.gcell g b h2),xold:=fun b o hx=>⟨qN h hx.1,hx.2⟩,kold:=fun b o hk=>?_,lent:=fun i b hi=>?_,fr:=⟨rfl,rfl,rfl,Nat.le_refl _,fun _ _ _=>rfl,fun _ _ _ _ h=>h,.refl w⟩ }
 ·obtain⟨_,h1⟩:=mu Z 0 i l' hc
  simp only[Nat.sub_zero] at h1;have J:i < gs.length:=by rw[←hl];exact(List.getElem?_eq_some_iff.1 h1).1
  have a8:gs[i]? = some gs[i]:=by simp[J]
  obtain⟨c,h2,h3⟩:=aj i _ a8;rw[h1] at h3;simp only[Option.some.injEq] at h3;subst h3;obtain⟨b,cs,T,h4,h5,X,h7,h8⟩:=h.box _ c h2;refine⟨b,cs,T,by simp[fz,a8,h4],h5,by simpa using X,h7,fun j u a hu ha=>?_⟩;rw[List.getElem?_map,Option.map_eq_some_iff] at ha;obtain⟨y,hy,rfl⟩:=ha;exact aC.kT h gs os (gen':=Z.length+os.length) (by omega) 5 u y (h8 j u y hu hy)
 ·obtain⟨g,h1,h2⟩:=Option.bind_eq_some_iff.1 a1
  have J:i < gs.length:=(List.getElem?_eq_some_iff.1 h1).1;refine⟨by show i < Z.length+os.length;omega,(h.gbox g b h2).2.1,.inr (.inl ⟨g,List.mem_of_getElem? h1,h2⟩),?_⟩;rintro o ⟨lim,⟨g',_,r,N,O⟩,_⟩;exact absurd h2 ((h.rowAt N O).2.1 g)
 ·obtain⟨g1,h3,h4⟩:=Option.bind_eq_some_iff.1 h1
  obtain⟨g2,h5,X⟩:=Option.bind_eq_some_iff.1 h2;have e:=h.inj g1 g2 b h4 X;subst e;exact kZ cl h3 h5
 ·obtain⟨j,hj,rfl⟩:=List.mem_map.1 hi
  have hj:j < os.length:=by simpa using hj
  obtain⟨r,M⟩:=h.live _ (cq _ (List.getElem_mem hj));refine⟨r,?_⟩;simp only[fz];rw[if_neg (by omega),hl,Nat.add_sub_cancel_left];simp[hj,M]
 ·obtain⟨h1,g0,h2,h3⟩:=I M
  have:=(List.getElem?_eq_some_iff.1 h2).1;simp only;omega
 ·obtain⟨h1,g0,h2,h3⟩:=I M
  obtain⟨h4,h5,X,h7⟩:=h.row g0 b len cap sz a7 h3;have hm:=List.mem_of_getElem? h2;refine⟨⟨.inr (.inr ⟨_,g0,hm,_,h3,rfl,rfl⟩),?_⟩,fun j hj=>?_,fun j b2 b3 cx ch hj=>?_,h7⟩
  ·rintro o ⟨lim,⟨g',_,r',N,O⟩,J⟩
   have e:=(h.rowAt h3 ⟨rfl,rfl⟩).2.2.2 g' r' lim N O;rw[e.2] at J;exact J
  ·obtain⟨g2,_,h8⟩:=Option.bind_eq_some_iff.1 hj
   exact h5 g2 h8
  ·obtain⟨h9,g2,ad,U⟩:=I hj
   have e:=X g2 b2 b3 cx ch U;subst e;have:=kZ ai ad h2;omega
 ·obtain⟨h1,g0,h2,h3⟩:=I M
  obtain⟨h4,h5,X,h7⟩:=h.mrow g0 b bs h3;have hm:=List.mem_of_getElem? h2;refine⟨⟨.inr (.inr ⟨_,g0,hm,_,h3,Or.inl ⟨rfl,rfl⟩⟩),?_⟩,fun j hj=>?_,fun j bs' hj=>?_,h7⟩
  ·rintro o ⟨lim,⟨g',_,r',N,O⟩,J⟩
   have e:=(h.rowAt h3 (Or.inl ⟨rfl,rfl⟩)).2.2.2 g' r' lim N O;rw[e.2] at J;exact J
  ·obtain⟨g2,_,h8⟩:=Option.bind_eq_some_iff.1 hj
   exact h5 g2 h8
  ·obtain⟨h9,g2,ad,U⟩:=I hj
   have e:=X g2 bs' U;subst e;have:=kZ ai ad h2;omega
 ·obtain⟨h1,g0,h2,h3⟩:=I M
  obtain⟨h4,h5,X,h7,h8⟩:=h.sub g0 b bs c lim h3 a6;have hm:=List.mem_of_getElem? h2;refine⟨⟨.inr (.inr ⟨_,g0,hm,_,h3,Or.inr a6⟩),?_⟩,fun j hj=>?_,fun j len cap sz a7 hj=>?_,fun j b' bs' c1 hj cy=>?_,h8⟩
  ·rintro o ⟨cj,⟨g',_,r',N,O⟩,J⟩
   have e:=(h.rowAt h3 (Or.inr a6)).2.2.2 g' r' cj N O;rw[e.2] at J;exact J
  ·obtain⟨g2,_,h9⟩:=Option.bind_eq_some_iff.1 hj
   exact h5 g2 h9
  ·obtain⟨_,g2,_,U⟩:=I hj
   exact X g2 _ _ _ _ U
  ·obtain⟨h9,g2,ad,U⟩:=I hj
   obtain⟨e,e0⟩:=h7 g2 _ _ _ U cy;subst e;have:=kZ ai ad h2;exact⟨by omega,e0⟩
 ·obtain⟨lim,⟨g',_,r',N,O⟩,_⟩:=hk
  exact(h.rowAt N O).2.2.1
 ·simp only[dH,List.getElem?_map,Option.map_eq_some_iff] at hi
  obtain⟨g,hg,rfl⟩:=hi;obtain⟨c,h2,_⟩:=aj i g hg;obtain⟨b,_,_,h4,_⟩:=h.box _ c h2;simp[fz,hg,h4]
theorem aC.back {E E2:En} {gs:List Nat} {m:Nat} (Z:∀ b o u,cellAt E.w b o=some u→¬ E.pv b o→cellAt E2.w b o=some u∧¬ E2.pv b o) (ho:∀ g r,g < E.gen→E2.own (g+m)=some r→E.own g=some r)
 (hg:E.gen+m≤E2.gen) (hb:∀ (i g b:Nat),gs[i]? = some g→E.box i=some b→g < E2.gen∧E2.box g=some b) (hw:E2.w=E.w) {v:Value} {a:A} (h:aC E v a):aC E2 v (back gs m a):=by
 have X:∀ b o u,cellAt E.w b o=some u→¬ E.pv b o→cellAt E.w b o=some u∧¬ E2.pv b o:=fun b o u h1 h2=>⟨h1,(Z b o u h1 h2).2⟩
 induction h with
 | any x=>exact .any x
 | d hd=>exact .d (hd.mono Z)
 | ag vs l hs hd=>exact .ag vs l hs (fun i u x h1 h2=>(hd i u x h1 h2).mono Z)
 | own x g es hd J hr=>exact .own x _ es (hd.mono Z) (by omega) (fun r M=>hr r (ho g r J M))
 | agg vs l hs hone _ ih=>simp only[Ab.back,gB];refine .agg vs _ (by simp[hs]) hone (fun i u x hu I=>?_);simp only[List.getElem?_map,Option.map_eq_some_iff] at I;obtain⟨y,hy,rfl⟩:=I;exact ih i u y hu hy
 | tup vs l hs _ ih=>simp only[Ab.back,gB];refine .tup vs _ (by simp[hs]) (fun i u x hu I=>?_);simp only[List.getElem?_map,Option.map_eq_some_iff] at I;obtain⟨y,hy,rfl⟩:=I;exact ih i u y hu hy
 | rowd b off l u ad hd=>exact .rowd b off l u (fun j hj=>Z _ _ _ (ad j hj).1 (ad j hj).2) (fun j x I=>(hd j x I).mono Z)
 | row b off l u ad _ _=>exact .any _
 | np x i T U J N hT u hp=>
   simp only[Ab.back];split
   ·rename_i g O
    exact .np x g T U (hb i g U O N).1 (hb i g U O N).2 (hw▸hT) u hp
   ·exact .any _
 | lk=>exact .any _
 | fx=>exact .any _
 | ol=>exact .any _
 | ow=>exact .any _
 | sb x i n c U J N hn hp=>
   simp only[Ab.back];split
   ·rename_i g O
    exact .sb x g n c U (hb i g U O N).1 (hb i g U O N).2 hn hp
   ·exact .any _
 | ptr x i off U J N hp=>
   simp only[Ab.back];split
   ·rename_i g O
    exact .ptr x g off U (hb i g U O N).1 (hb i g U O N).2 hp
   ·exact .any _
 | xs x g es J h1 I=>exact .xs x _ es (by omega) h1 (fun r M=>hw▸(I r (ho g r J M)).da X)
 | xp x g i off l J h1 I=>exact .xp x _ i off l (by omega) h1 (fun r M=>hw▸(I r (ho g r J M)).da X)
 | ni t x=>exact .ni t x
 | fl x es hd ai=>exact .fl x es (hd.mono Z) ai
 | bf x g T s J h1 I=>exact .bf x _ T s (by omega) h1 (fun r M=>hw▸I r (ho g r J M))
 | mp x g es J h1 I=>exact .mp x _ es (by omega) h1 (fun r M=>hw▸(I r (ho g r J M)).da X)
 | mq x g es J h1 I=>exact .mq x _ es (by omega) h1 (fun r M=>hw▸(I r (ho g r J M)).da X)
 | mo x g es hole ob J h1 I=>exact .mo x _ es hole ob (by omega) h1 (fun r M=>hw▸(I r (ho g r J M)).da X)
 | clo f vs l hs _ ih=>simp only[Ab.back,gB];refine .clo f vs _ (by simp[hs]) (fun i u x hu I=>?_);simp only[List.getElem?_map,Option.map_eq_some_iff] at I;obtain⟨y,hy,rfl⟩:=I;exact ih i u y hu hy
 | bnd f vs l hs _ ih=>simp only[Ab.back,gB];refine .bnd f vs _ (by simp[hs]) (fun i u x hu I=>?_);simp only[List.getElem?_map,Option.map_eq_some_iff] at I;obtain⟨y,hy,rfl⟩:=I;exact ih i u y hu hy
theorem ao.vz {G:Gh} {tmps:Array Value} {w w':World} (h:ao C n st G tmps w) {gs os:List Nat} {b0 b1:List (List A)} (hb:eZ st.bx gs os gs=some b0) (hl1:b1.length=b0.length) {k:Nat} {G1:Gh}
    (h1:ao (dH C G w gs os) 0 ⟨[],dO 0 b1,(List.range k).map (b0.length+·),b0.length+k⟩ G1 #[] w') :
    ∃ G2,(∀ v a,aC (au (dH C G w gs os) G1 (b0.length+k) w') v a→aC (au C G2 (b0.length+k+st.gen) w') v (back gs st.gen a)) ∧
      ao C n ⟨st.f,gH gs st.gen gs b1++st.bx,(List.range k).map (b0.length+·+st.gen)++st.lv.filter (fun g=>!os.any (Nat.beq g)),b0.length+k+st.gen⟩ G2 tmps w':=by
  obtain⟨hl,hget⟩:=fU hb
  have memos:∀ g,os.any (Nat.beq g)=true↔g∈os:=by
    intro g
    rw[List.any_eq_true]
    exact⟨fun ⟨x,hx,he⟩=>Nat.eq_of_beq_eq_true he▸hx,fun hg=>⟨g,hg,Nat.beq_refl g⟩⟩
  let own2:Nat→Option Row:=fun g=>if g < st.gen then (if os.any (Nat.beq g) then none else G.own g) else G1.own (g - st.gen)
  let G2:Gh:=⟨G.box,own2⟩
  have hLb:∀ {b},ec G gs b→C.gl b 0∧b < w.heap.size:=by
    rintro b ⟨g,_,hg⟩
    exact⟨(h.gbox g b hg).2.2,(h.gbox g b hg).2.1⟩
  have hLr:∀ {b lim},dv G os b lim→C.gl b lim∧b < w.heap.size∧(∀ g',G.box g'≠some b):=by
    rintro b lim ⟨g,_,r,hg,hra⟩
    obtain⟨h1,h2,h3,_⟩:=h.rowAt hg hra
    exact⟨h1,h3,h2⟩
  have hLm:∀ {b},(ec G gs b∨∃ lim,dv G os b lim)→C.w0.heap.size≤b∨C.fp b:=by
    rintro b (hl | ⟨lim,hl⟩)
    · exact(hLb hl).1.1
    · exact(hLr hl).1.1
  have hG1:∀ {i g:Nat} {b:Nat},gs[i]? = some g→G.box g=some b→G1.box i=some b:=by
    intro i g b hi hg
    refine h1.lent i b ?_
    simp[dH,hi,hg]
  have old2:∀ {g r},own2 g=some r→(g < st.gen∧g∉os∧G.own g=some r)∨(st.gen≤g∧G1.own (g - st.gen)=some r):=by
    intro g r hr
    simp only[own2] at hr
    split at hr
    · rename_i hlt
      split at hr
      · cases hr
      · rename_i hno
        exact .inl ⟨hlt,fun hm=>hno ((memos g).2 hm),hr⟩
    · exact .inr ⟨by omega,hr⟩
  have hstay:∀ {b},b < w.heap.size→¬ (ec G gs b∨∃ lim,dv G os b lim)→w'.heap[b]? = w.heap[b]?:=fun hlt hn=>h1.fr.block _ hlt hn
  have hnotrow:∀ {g b lim r},G.own g=some r→r.nq b lim→g∉os→¬ (ec G gs b∨∃ lim,dv G os b lim):=by
    rintro g b lim r hg hra hno (⟨g',_,hb'⟩ | ⟨lim',g',hg',r',hr',hra'⟩)
    · exact(h.rowAt hg hra).2.1 g' hb'
    · have e:=(h.rowAt hg hra).2.2.2 g' r' lim' hr' hra'
      exact hno (e.1▸hg')
  have hnotbox:∀ {g b},G.box g=some b→g∉gs→¬ (ec G gs b∨∃ lim,dv G os b lim):=by
    rintro g b hg hno (⟨g',hg',hb'⟩ | ⟨lim,hl⟩)
    · have e:=h.inj g g' b hg hb'
      subst e
      exact hno hg'
    · exact(hLr hl).2.2 g hg
  have hnew:∀ {g b lim r},G1.own g=some r→r.nq b lim→C.gl b lim∧(∀ g',G.box g'≠some b)∧(w.heap.size≤b∨∃ lim',dv G os b lim'∧lim'≤lim):=by
    intro g b lim r hg hra
    obtain⟨⟨hm,hk⟩,hnb,_⟩:=h1.rowAt hg hra
    have hm':w.heap.size≤b∨(ec G gs b∨∃ lim,dv G os b lim):=hm
    rcases hm' with hm | hm | ⟨lim',hm⟩
    · refine⟨⟨.inl (Nat.le_trans h.fr.size hm),fun o ho=>?_⟩,fun g' hg'=>?_,.inl hm⟩
      · have:=h.kold b o ho
        have:=h.fr.size
        omega
      · have:=(h.gbox g' b hg').2.1
        omega
    · obtain⟨g0,hg0,hb0⟩:=hm
      obtain⟨i,hi⟩:=List.mem_iff_getElem?.1 hg0
      exact absurd (hG1 hi hb0) (hnb i)
    · have hlim:lim'≤lim:=by
        rcases Nat.lt_or_ge lim lim' with hlt | hge
        · exact absurd (hk lim ⟨lim',hm,hlt⟩) (Nat.lt_irrefl _)
        · exact hge
      obtain⟨q1,q2,q3⟩:=hLr hm
      exact⟨⟨q1.1,fun o ho=>Nat.lt_of_lt_of_le (q1.2 o ho) hlim⟩,q3,.inr ⟨lim',hm,hlim⟩⟩
  have hfr:Fr C w':=by
    refine⟨h1.fr.os.trans h.fr.os,h1.fr.tape.trans h.fr.tape,h1.fr.output.trans h.fr.output,Nat.le_trans h.fr.size h1.fr.size,fun b hlt hn=>?_,fun b o u hk hu=>?_,h.fr.ty.trans h1.fr.ty⟩
    · rw[hstay (Nat.lt_of_lt_of_le hlt h.fr.size) (fun hl=>(hLm hl).elim (fun h=>by omega) hn)]
      exact h.fr.block b hlt hn
    · have hu':=h.fr.cells b o u hk hu
      by_cases hl:ec G gs b∨∃ lim,dv G os b lim
      · rcases hl with hl | ⟨lim,hl⟩
        · exact absurd ((hLb hl).1.2 o hk) (Nat.not_lt_zero _)
        · exact h1.fr.cells b o u ⟨lim,hl,(hLr hl).1.2 o hk⟩ hu'
      · rw[br (hstay (cE hu') hl)]
        exact hu'
  have hpv2:∀ {b o},aS C G2 b o→aS (dH C G w gs os) G1 b o:=by
    rintro b o (hp | ⟨g,hp⟩ | ⟨g,len,cap,sz,pub,hp,hle⟩ | ⟨g,b',bs,lim,hp,hm,hle⟩)
    · refine pr (.inl hp) (fun hl=>?_)
      obtain⟨h2,h3⟩:=h.xold b o hp
      exact(hLm hl).elim (fun h=>by omega) h3
    · by_cases hg:g∈gs
      · obtain⟨i,hi⟩:=List.mem_iff_getElem?.1 hg
        exact .inr (.inl ⟨i,hG1 hi hp⟩)
      · exact pr (G:=G) (.inr (.inl ⟨g,hp⟩)) (hnotbox hp hg)
    · rcases old2 hp with ⟨_,h3,h4⟩ | ⟨_,h3⟩
      · exact pr (.inr (.inr (.inl ⟨g,len,cap,sz,pub,h4,hle⟩))) (hnotrow h4 ⟨rfl,rfl⟩ h3)
      · exact .inr (.inr (.inl ⟨_,len,cap,sz,pub,h3,hle⟩))
    · rcases old2 hp with ⟨_,h3,h4⟩ | ⟨_,h3⟩
      · exact pr (.inr (.inr (.inr ⟨g,b',bs,lim,h4,hm,hle⟩))) (hnotrow h4 (Or.inr hm) h3)
      · exact .inr (.inr (.inr ⟨_,b',bs,lim,h3,hm,hle⟩))
  have hback:∀ v a,aC (au (dH C G w gs os) G1 (b0.length+k) w') v a→aC (au C G2 (b0.length+k+st.gen) w') v (back gs st.gen a):=by
    intro v a hr
    refine aC.back (E:=au (dH C G w gs os) G1 (b0.length+k) w') (E2:=au C G2 (b0.length+k+st.gen) w') (fun b o u hu hn=>⟨hu,fun hp=>hn (hpv2 hp)⟩) (fun g r hg hr'=>?_) (by simp[au]) (fun i g b hi hb1=>?_) rfl hr
    · have hr2:own2 (g+st.gen)=some r:=hr'
      rcases old2 hr2 with ⟨h3,_⟩ | ⟨_,h3⟩
      · omega
      · rw[Nat.add_sub_cancel] at h3
        exact h3
    · obtain⟨c,h2,_⟩:=hget i g hi
      obtain⟨b',_,_,h4,_⟩:=h.box _ c h2
      have h5:=hG1 hi h4
      have h6:G1.box i=some b:=hb1
      rw[h5] at h6
      simp only[Option.some.injEq] at h6
      subst h6
      have:=(h.gbox g b' h4).1
      exact⟨by simp only[au];omega,h4⟩
  have hle:(au C G st.gen w).le (au C G2 (b0.length+k+st.gen) w'):=by
    refine ju h.fr hfr (fun b o u hu hn=>⟨?_,fun hp=>?_⟩) (fun _ _ h=>h) (fun g r hg hr=>?_) (by omega) (fun g b len cap sz pub hg hr=>?_) (fun g b bs hg hr=>?_) h1.fr.ty
    · by_cases hl:ec G gs b∨∃ lim,dv G os b lim
      · rcases hl with ⟨g,_,hg⟩ | ⟨lim,hl⟩
        · exact absurd (.inr (.inl ⟨g,hg⟩)) hn
        · refine h1.fr.cells b o u ⟨lim,hl,?_⟩ hu
          obtain⟨g,_,r,hg,hra⟩:=hl
          exact Nat.lt_of_not_le fun hle=>hn (h.BD hg hra hu hle)
      · rw[br (hstay (cE hu) hl)]
        exact hu
    · rcases hp with hp | ⟨g,hp⟩ | ⟨g,len,cap,sz,pub,hp,hle⟩ | ⟨g,b',bs,lim0,hp,hm,hle⟩
      · exact hn (.inl hp)
      · exact hn (.inr (.inl ⟨g,hp⟩))
      · rcases old2 hp with ⟨_,_,h4⟩ | ⟨_,h3⟩
        · exact hn (.inr (.inr (.inl ⟨g,len,cap,sz,pub,h4,hle⟩)))
        · have hlt:=cE hu
          rcases(hnew h3 ⟨rfl,rfl⟩).2.2 with h5 | ⟨lim,hl,hlim⟩
          · omega
          · obtain⟨g0,_,r0,hg0,hra⟩:=hl
            exact hn (h.BD hg0 hra hu (by omega))
      · rcases old2 hp with ⟨_,_,h4⟩ | ⟨_,h3⟩
        · exact hn (.inr (.inr (.inr ⟨g,b',bs,lim0,h4,hm,hle⟩)))
        · have hlt:=cE hu
          rcases(hnew h3 (Or.inr hm)).2.2 with h5 | ⟨lim,hl,hlim⟩
          · omega
          · obtain⟨g0,_,r0,hg0,hra⟩:=hl
            exact hn (h.BD hg0 hra hu (by omega))
    · have hr2:own2 g=some r:=hr
      rcases old2 hr2 with ⟨_,_,h3⟩ | ⟨h3,_⟩
      · exact h3
      · omega
    · have hr2:own2 g=some (.blk b len cap sz pub):=hr
      rcases old2 hr2 with ⟨_,h3,h4⟩ | ⟨h3,_⟩
      · exact hstay (h.rowAt h4 ⟨rfl,rfl⟩).2.2.1 (hnotrow h4 ⟨rfl,rfl⟩ h3)
      · omega
    · have hr2:own2 g=some (.mp b bs):=hr
      rcases old2 hr2 with ⟨_,h3,h4⟩ | ⟨h3,_⟩
      · exact⟨hstay (h.rowAt h4 (Or.inl ⟨rfl,rfl⟩)).2.2.1 (hnotrow h4 (Or.inl ⟨rfl,rfl⟩) h3),fun p hp=>hstay (h.rowAt (lim:=p.2) h4 (Or.inr hp)).2.2.1 (hnotrow (lim:=p.2) h4 (Or.inr hp) h3)⟩
      · omega
  refine⟨G2,hback,{ size:=h.size,frame:=h.du hle,inj:=h.inj,xold:=h.xold,kold:=h.kold,lent:=h.lent,fr:=hfr,gcell:=fun g b hb'=>ka h1.fr.ty (h.gcell g b hb'),box:=?_,gbox:=?_,live:=?_,gown:=?_,row:=?_,mrow:=?_,sub:=?_ }⟩
  · intro g cells hc
    by_cases hg:g∈gs
    · have hz:∃ c,ae (gH gs st.gen gs b1) g=some c:=by
        clear hback hle hpv2
        have:∀ (r:List Nat) (l:List (List A)),l.length=r.length→g∈r→∃ c,ae (gH gs st.gen r l) g=some c:=by
          intro r
          induction r with
          | nil=>intro l _ hm;cases hm
          | cons x r ih=>
            intro l hl hm
            cases l with
            | nil=>simp at hl
            | cons c l=>
              simp only[gH,bN]
              by_cases e:x=g
              · rw[if_pos e];exact⟨_,rfl⟩
              · rw[if_neg e]
                exact ih l (by simpa using hl) ((List.mem_cons.1 hm).resolve_left (fun h=>e h.symm))
        exact this gs b1 (by omega) hg
      obtain⟨c,hz⟩:=hz
      have hcc:c=cells:=by
        rcases iN hc with h2 | h2
        · rw[h2] at hz;exact(Option.some.inj hz).symm
        · have:ae (gH gs st.gen gs b1++st.bx) g=some c:=by
            clear hc hback hle
            revert hz
            generalize gH gs st.gen gs b1=z
            intro hz
            induction z with
            | nil=>simp[ae] at hz
            | cons x z ih=>
              obtain⟨s,y⟩:=x
              rw[bN] at hz
              rw[List.cons_append,bN]
              split
              · rename_i e;rw[if_pos e] at hz;exact hz
              · rename_i e;rw[if_neg e] at hz;exact ih hz
          rw[this] at hc
          exact Option.some.inj hc
      subst hcc
      obtain⟨i,c0,h2,h3,rfl⟩:=oF hz
      obtain⟨b,cs,T,h4,h5,h6,h7,h8⟩:=h1.box i c0 (by have:=vJ b1 0 i c0 h3;simpa using this)
      obtain⟨c2,h9,_⟩:=hget i g h2
      obtain⟨b',_,_,h10,_⟩:=h.box g c2 h9
      have e:b'=b:=by
        have:=hG1 h2 h10
        rw[h4] at this
        exact(Option.some.inj this).symm
      subst e
      refine⟨b',cs,T,h10,h5,by rw[gB,List.length_map];exact h6,h7,fun j u a hu ha=>?_⟩
      rw[gB,List.getElem?_map,Option.map_eq_some_iff] at ha
      obtain⟨y,hy,rfl⟩:=ha
      exact hback u y (h8 j u y hu hy)
    · have hc2:ae st.bx g=some cells:=by
        rcases iN hc with h2 | h2
        · obtain⟨i,c0,h3,_⟩:=oF h2
          exact absurd (List.mem_of_getElem? h3) hg
        · exact h2
      obtain⟨b,cs,T,h4,h5,h6,h7,h8⟩:=h.box g cells hc2
      refine⟨b,cs,T,h4,by rw[hstay (Array.getElem?_eq_some_iff.1 h5).1 (hnotbox h4 hg)];exact h5,h6,h7,fun j u a hu ha=>(h8 j u a hu ha).mono hle⟩
  · intro g b hgb
    obtain⟨h2,h3,h4⟩:=h.gbox g b hgb
    exact⟨by simp only;omega,Nat.lt_of_lt_of_le h3 h1.fr.size,h4⟩
  · intro g hg
    rcases List.mem_append.1 hg with hg | hg
    · obtain⟨j,hj,rfl⟩:=List.mem_map.1 hg
      obtain⟨r,hr⟩:=h1.live (b0.length+j) (List.mem_map.2 ⟨j,hj,rfl⟩)
      refine⟨r,?_⟩
      simp only[G2,own2]
      rw[if_neg (by omega),Nat.add_sub_cancel]
      exact hr
    · obtain⟨h2,h3⟩:=List.mem_filter.1 hg
      obtain⟨r,hr⟩:=h.live g h2
      refine⟨r,?_⟩
      simp only[G2,own2]
      rw[if_pos (h.gown g r hr),if_neg (by cases e:os.any (Nat.beq g) with | true=>rw[e] at h3;cases h3 | false=>simp)]
      exact hr
  · intro g r hr
    rcases old2 hr with ⟨h2,_⟩ | ⟨h2,h3⟩
    · simp only;omega
    · have:=h1.gown _ r h3
      simp only at this ⊢
      omega
  · intro g b len cap sz pub hr
    rcases old2 hr with ⟨h2,h3,h4⟩ | ⟨h2,h3⟩
    · obtain⟨h5,h6,h7,cur,T,h8,h9⟩:=h.row g b len cap sz pub h4
      refine⟨h5,h6,fun g' len' cap' sz' pub' hr'=>?_,cur,T,by rw[hstay (Array.getElem?_eq_some_iff.1 h8).1 (hnotrow h4 ⟨rfl,rfl⟩ h3)];exact h8,h9⟩
      rcases old2 hr' with ⟨_,_,h10⟩ | ⟨_,h10⟩
      · exact h7 g' len' cap' sz' pub' h10
      · rcases(hnew h10 ⟨rfl,rfl⟩).2.2 with h11 | ⟨lim,h11,_⟩
        · have:=(Array.getElem?_eq_some_iff.1 h8).1
          omega
        · exact absurd (.inr ⟨lim,h11⟩) (hnotrow h4 ⟨rfl,rfl⟩ h3)
    · obtain⟨h5,h6,h7,h8⟩:=h1.row _ b len cap sz pub h3
      refine⟨(hnew h3 ⟨rfl,rfl⟩).1,(hnew h3 ⟨rfl,rfl⟩).2.1,fun g' len' cap' sz' pub' hr'=>?_,h8⟩
      rcases old2 hr' with ⟨_,h10,h12⟩ | ⟨_,h10⟩
      · rcases(hnew h3 ⟨rfl,rfl⟩).2.2 with h11 | ⟨lim,h11,_⟩
        · have:=(h.rowAt h12 ⟨rfl,rfl⟩).2.2.1
          omega
        · exact absurd (.inr ⟨lim,h11⟩) (hnotrow h12 ⟨rfl,rfl⟩ h10)
      · have:=h7 _ len' cap' sz' pub' h10
        omega
  · intro g b bs hr
    rcases old2 hr with ⟨h2,h3,h4⟩ | ⟨h2,h3⟩
    · obtain⟨h5,h6,h7,me,clock,h8⟩:=h.mrow g b bs h4
      have hnr:=hnotrow h4 (Or.inl ⟨rfl,rfl⟩) h3
      refine⟨h5,h6,fun g' bs' hr'=>?_,me,clock,by rw[hstay (Array.getElem?_eq_some_iff.1 h8).1 hnr];exact h8⟩
      rcases old2 hr' with ⟨_,_,h10⟩ | ⟨_,h10⟩
      · exact h7 g' bs' h10
      · rcases(hnew h10 (Or.inl ⟨rfl,rfl⟩)).2.2 with h11 | ⟨lim,h11,_⟩
        · have:=(Array.getElem?_eq_some_iff.1 h8).1
          omega
        · exact absurd (.inr ⟨lim,h11⟩) hnr
    · obtain⟨h5,h6,h7,h8⟩:=h1.mrow _ b bs h3
      have hn:=hnew h3 (Or.inl ⟨rfl,rfl⟩)
      refine⟨hn.1,hn.2.1,fun g' bs' hr'=>?_,h8⟩
      rcases old2 hr' with ⟨_,h10,h12⟩ | ⟨_,h10⟩
      · rcases hn.2.2 with h11 | ⟨lim,h11,_⟩
        · have:=(h.rowAt h12 (Or.inl ⟨rfl,rfl⟩)).2.2.1
          omega
        · exact absurd (.inr ⟨lim,h11⟩) (hnotrow h12 (Or.inl ⟨rfl,rfl⟩) h10)
      · have:=h7 _ _ h10
        omega
  · intro g b bs c lim hr hm
    rcases old2 hr with ⟨h2,h3,h4⟩ | ⟨h2,h3⟩
    · obtain⟨h5,h6,h7,h8,cur,T,h9,h10⟩:=h.sub g b bs c lim h4 hm
      have hcl:=(Array.getElem?_eq_some_iff.1 h9).1
      have hnr:=hnotrow h4 (Or.inr hm) h3
      refine⟨h5,h6,fun g' len cap sz pub hr'=>?_,fun g' b' bs' lim' hr' hm'=>?_,cur,T,by rw[hstay hcl hnr];exact h9,h10⟩
      · rcases old2 hr' with ⟨_,_,h11⟩ | ⟨_,h11⟩
        · exact h7 g' _ _ _ _ h11
        · rcases(hnew h11 ⟨rfl,rfl⟩).2.2 with h12 | ⟨lim2,h12,_⟩
          · omega
          · exact hnr (.inr ⟨lim2,h12⟩)
      · rcases old2 hr' with ⟨_,_,h11⟩ | ⟨_,h11⟩
        · exact h8 g' _ _ _ h11 hm'
        · rcases(hnew h11 (Or.inr hm')).2.2 with h12 | ⟨lim2,h12,_⟩
          · omega
          · exact absurd (.inr ⟨lim2,h12⟩) hnr
    · obtain⟨h5,h6,h7,h8,h9⟩:=h1.sub _ b bs c lim h3 hm
      have hn:=hnew h3 (Or.inr hm)
      refine⟨hn.1,hn.2.1,fun g' len cap sz pub hr'=>?_,fun g' b' bs' lim' hr' hm'=>?_,h9⟩
      · rcases old2 hr' with ⟨_,h10,h12⟩ | ⟨_,h10⟩
        · rcases hn.2.2 with h11 | ⟨lim2,h11,_⟩
          · have:=(h.rowAt h12 ⟨rfl,rfl⟩).2.2.1
            omega
          · exact absurd (.inr ⟨lim2,h11⟩) (hnotrow h12 ⟨rfl,rfl⟩ h10)
        · exact h7 _ _ _ _ _ h10
      · rcases old2 hr' with ⟨_,h10,h12⟩ | ⟨_,h10⟩
        · rcases hn.2.2 with h11 | ⟨lim2,h11,_⟩
          · have:=(h.rowAt h12 (Or.inr hm')).2.2.1
            omega
          · exact absurd (.inr ⟨lim2,h11⟩) (hnotrow h12 (Or.inr hm') h10)
        · have:=h8 _ _ _ _ h10 hm'
          omega
theorem WO.aE [cc P] [GC P C] (Z:o.guard=none) (hd:eM n o.dst=true) {x:Operand} {xs:Array Operand} {X:Array TypeId} (ho:o.op=.call ⟨.value x,xs,X⟩) {fid:FuncId} {caps I:List A} (hx:av st.f x=some (.clo fid caps))
 (a7:iV st.f xs.toList=some I) (gs os:List Nat) (a8:nodupB gs=true) (b2:nodupB os=true) (b3:(os.all fun g=>st.lv.any fun h=>Nat.beq h g)=true) {args:List A} {M b1:List (List A)} {r:A} {m k:Nat}
 (hf:bp P fid args M m r b1 k) (ad:(I++caps).map (dm st.bx gs os 5)=args) (hb:eZ st.bx gs os gs=some M) (hm:os.length=m)
 (h:WO P C n ops Q rest (St.put ⟨st.f,gH gs st.gen gs b1++st.bx,(List.range k).map (M.length+·+st.gen)++st.lv.filter (fun g=>!os.any (Nat.beq g)),M.length+k+st.gen⟩ o.dst (back gs st.gen r))):WO P C n ops Q (o::rest) st:=by
 subst hm;subst ad;refine WO.step Z fun tmps w ⟨G,hs⟩=>?_;obtain⟨fn,ch,N,O⟩:=hf.ok;have hr:=hs.av hx;generalize hv:Act.eval ⟨tmps,[]⟩ x=v at hr
 cases hr with
 | clo _ vs _ cj hcd=>
 obtain⟨h1,h2⟩:=gV hs xs.toList I a7;have ai:(execOp (Act.eval ⟨tmps,[]⟩) o).run P w=.ok (.enter fid (xs.map (Act.eval ⟨tmps,[]⟩)++vs)) w:=by unfold execOp;rw[ho];show Sem.run P (do let d ←resolve (Act.eval ⟨tmps,[]⟩) ⟨.value x,xs,X⟩ o.type;invoke d.target d.args) w=_;simp only[resolve,hv,Deferred.ofValue,Sem.run_bind,Sem.run_pure,Result.andThen_ok,invoke,callFunc,run_program,ch,N,O,Bool.false_eq_true,if_false,Array.empty_append]
 obtain⟨hlen,aj⟩:=hs.kT (gs:=gs) (os:=os) (dL a8) (dL b2) (fun g Z=>by obtain⟨y,J,he⟩:=List.any_eq_true.1 (List.all_eq_true.1 b3 g Z);exact Nat.eq_of_beq_eq_true he▸J) hb;have c7:=(fU hb).1;unfold cS;have U:(execOp (Act.eval { tmps:=tmps,defers:=[] }) o).run P w=.ok (.enter fid (xs.map (Act.eval ⟨tmps,[]⟩)++vs)) w:=ai;rw[U];refine(hf.calls (dH C G w gs os) (fz G gs os) _ w (GC.rv hs) rfl hlen rfl (qn rfl) aj (by simp at h1;simp[cj,h1]) (fun i u a hu ha=>?_)).mono fun e w' ⟨v,G',he,h3,h4⟩=>?_
 ·simp only[List.getElem?_map,Option.map_eq_some_iff] at ha
  obtain⟨y,J,rfl⟩:=ha;refine aC.kT hs gs os (by omega) 5 u y ?_;simp only[Array.getElem?_append] at hu;split at hu
  ·rename_i cl
   simp only[Array.size_map] at cl;have a1:i < I.length:=by simp at h1;omega
   rw[List.getElem?_append_left a1] at J;obtain⟨z,hz,cq⟩:=h2 i y J;simp only[Array.getElem?_map,Option.map_eq_some_iff] at hu;obtain⟨z',cx,rfl⟩:=hu;have:z=z':=by simp at hz;rw[cx] at hz;exact(Option.some.inj hz).symm
   subst this;exact cq
  ·rename_i cy
   simp only[Array.size_map] at cy hu;have a6:I.length≤i:=by simp at h1;omega
   rw[List.getElem?_append_right a6] at J;refine hcd (i - xs.size) u y hu ?_;have:xs.size=I.length:=by simpa using h1
   rw[this];exact J
 ·obtain⟨G2,c1,c6⟩:=hs.vz hb hf.len h3
  exact⟨v,he,_,⟨G2,c6.put (bQ hd) (c1 v r h4)⟩,h⟩
end
end Go.Ab
namespace Go.Ab
open Go.RowKit
section
variable {P:Program} {C:Ctx} {n:Nat} {ops:Array Oper} {Q:Exit→St→Prop} {rest:List Oper} {c:Code}
variable {f:List (Nat×A)} {bx:List (Nat×List A)} {lv:List Nat} {gen:Nat} {d:Nat} {op:Op} {ty:TypeId} {pos:String} {af:Array Edge} {a:A} {dst:Option Nat}
theorem ao.B5 {st:St} {G:Gh} {tmps:Array Value} {w:World} (h:ao C n st G tmps w) {g:Nat} {cells cells':List A} (hb:ae st.bx g=some cells) (hl:cells'.length=cells.length)
 (N:∀ (i:Nat) (u:Value) (a a':A),cells[i]? = some a→cells'[i]? = some a'→aC (au C G st.gen w) u a→aC (au C G st.gen w) u a'):ao C n { st with bx:=(g,cells')::st.bx } G tmps w:=by
 refine { h with box:=fun O c I=>?_ };simp only[bN] at I;split at I
 ·rename_i e
  subst e;simp only[Option.some.injEq] at I;subst I;obtain⟨b,cs,T,h1,h2,h3,h4,h5⟩:=h.box g cells hb;refine⟨b,cs,T,h1,h2,by omega,h4,fun i u a hu M=>?_⟩;have J:i < cells.length:=by rw[←hl];exact(List.getElem?_eq_some_iff.1 M).1
  exact N i u cells[i] a (by simp[J]) M (h5 i u cells[i] hu (by simp[J]))
 ·exact h.box O c I
def isNil:A→Bool
 | .d (.v (.slice none 0 0))=>true
 | _=>false
theorem BO {a:A} (h:isNil a=true):a=.d (.v (.slice none 0 0)):=by
 unfold isNil at h;split at h;·rfl
 ·cases h
theorem ez.eg {st:St} {tmps:Array Value} {w:World} (h:ez C n st tmps w) {g j:Nat} {cells:List A} (hb:ae st.bx g=some cells) (hj:cells[j]? = some (.d (.v (.slice none 0 0)))) :
 ez C n ⟨st.f,(g,cells.set j (.own st.gen []))::st.bx,st.gen::st.lv,st.gen+1⟩ tmps w:=by
 obtain⟨G,h⟩:=h;obtain⟨⟨N,_,hs,O⟩⟩:=h.l3 false st.lv (fun _ h=>h);refine⟨N,ao.B5 (st:={ st with lv:=st.gen::st.lv,gen:=st.gen+1 }) hs hb (by simp) (fun i u a a' J I M=>?_)⟩;rw[List.getElem?_set] at I;split at I
 ·rename_i e
  subst e;rw[hj] at J;simp only[Option.some.injEq] at J;subst J;split at I
  ·simp only[Option.some.injEq] at I
   subst I;cases M with | d M=>cases M;exact O
  ·cases I
 ·rw[J] at I
  simp only[Option.some.injEq] at I;subst I;exact M
theorem eg (g j:Nat) {cells cells':List A} (hb:ae bx g=some cells) (hj:cells[j]? = some (.d (.v (.slice none 0 0)))) (I:cells.set j (.own gen [])=cells') (h:W P C n c Q ⟨f,(g,cells')::bx,gen::lv,gen+1⟩):W P C n c Q ⟨f,bx,lv,gen⟩:=by subst I;exact fun tmps w hs=>h tmps w (hs.eg hb hj)
theorem aE [cc P] [GC P C] {x:Operand} {xs:Array Operand} {O:Array TypeId} {fid:FuncId} {caps J args:List A} {I b1:List (List A)} {r:A} {m k:Nat} {U:A} {bx':List (Nat×List A)} {lv':List Nat} {gen':Nat} (gs os:List Nat) (hx:av f x=some (.clo fid caps)) (X:iV f xs.toList=some J)
 (M:(J++caps).map (dm bx gs os 5)=args) (hb:eZ bx gs os gs=some I) (hm:os.length=m) (hf:bp P fid args I m r b1 k)
 (Z:nodupB gs=true) (ad:nodupB os=true) (ai:(os.all fun g=>lv.any fun h=>Nat.beq h g)=true) (hd:Nat.blt d n=true)
 (hr:back gs gen r=U) (aj:gH gs gen gs b1++bx=bx') (a1:(List.range k).map (I.length+·+gen)++lv.filter (fun g=>!os.any (Nat.beq g))=lv') (N:I.length+k+gen=gen')
 (h:WO P C n ops Q rest ⟨(d,U)::f,bx',lv',gen'⟩) :
 WO P C n ops Q (⟨some d,.call ⟨.value x,xs,O⟩,ty,pos,af,none⟩::rest) ⟨f,bx,lv,gen⟩:=by
 subst hr;subst aj;subst a1;subst N;exact WO.aE (st:=⟨f,bx,lv,gen⟩) rfl hd rfl hx X gs os Z ad ai hf M hb hm h
def vp (order:List Nat) (bx:List (Nat×List A)):Nat→List (List A)→Prop
 | _,[]=>True
 | i,c::r=>(match ae bx i with | some c0=>some (fm order c0) | none=>none)=some c∧vp order bx (i+1) r
theorem vp.get {order:List Nat} {bx:List (Nat×List A)}:∀ {l:List (List A)} {k:Nat},vp order bx k l→∀ (i:Nat) (c:List A),l[i]? = some c→∃ c0,ae bx (k+i)=some c0∧fm order c0=c
 | [],_,_,i,c,h=>by simp at h
 | b::l,k,hh,i,c,h=>by
   cases i with
   | zero=>
     simp at h;subst h;have:=hh.1;split at this
     ·rename_i c0 I
      exact⟨c0,I,Option.some.inj this⟩
     ·cases this
   | succ i=>have:=vp.get hh.2 i c (by simpa using h);rwa [Nat.add_assoc,Nat.add_comm 1 i] at this
theorem b4.end (T:bA P) {rs:List RV} {r:A} {b1:List (List A)} {k:Nat} {e:Exit} {l:List A} (order:List Nat) (he:match e with | .normal=>True | .ret=>True | _=>False) (hl:iT T f bx rs=some l)
 (M:order.length=k) (I:nodupB (dU b1.length order)=true) (J:(order.all fun g=>lv.any fun h=>Nat.beq h g)=true) (hb:vp (dU b1.length order) bx 0 b1)
 (N:bE (dU b1.length order) (aT l)=r):b4 T rs r b1 k e ⟨f,bx,lv,gen⟩:=
 b4.ret (st:=⟨f,bx,lv,gen⟩) T order he hl M I J (fun i c O=>by have:=hb.get i c O;simpa using this) N
end
end Go.Ab
namespace Go.Ab
open Go.RowKit
abbrev Bt:=Nat→Option (List A)
def dX (β:Bt):Option (Nat×List A)→Bt
 | some (g,c)=>fun h=>if h=g then some c else β h
 | none=>β
def jd (o:Oper):Bool:=match o.op with | .alloc _=>true | .box _ _=>true | _=>false
def F7 (o:Oper):Bool:=match o.op with | .store _ _ _=>true | _=>false
def kU (o:Oper):Option Nat:=match o.op with | .store _ (.tmp d) _=>some d | _=>none
def cV:List Oper→Nat→Nat
 | [],_=>0
 | _::_,0=>0
 | o::r,i+1=>(bif jd o then 1 else 0)+cV r i
theorem tO:∀ (l:List Oper) {i j:Nat},i≤j→cV l i≤cV l j
 | [],i,j,_=>by simp[cV]
 | o::r,0,j,_=>by simp[cV]
 | o::r,i+1,0,h=>by omega
 | o::r,i+1,j+1,h=>by have:=tO r (i:=i) (j:=j) (by omega);simp only[cV];omega
theorem pG:∀ {l:List Oper} {i:Nat} {o:Oper},l[i]? = some o→jd o=true→cV l (i+1)=cV l i+1
 | [],i,o,h,_=>by simp at h
 | x::r,0,o,h,hn=>by simp at h;subst h;cases r <;> simp[cV,hn]
 | x::r,i+1,o,h,hn=>by have:=pG (l:=r) (i:=i) (by simpa using h) hn;simp only[cV] at this ⊢;rw[this];omega
theorem sV {l:List Oper} {i j:Nat} {o:Oper} (h:l[i]? = some o) (I:jd o=true) (J:i < j):cV l i < cV l j:=by have h1:=pG h I;have h2:=tO l (i:=i+1) (j:=j) (by omega);omega
section
variable {P:Program} (T:bA P) {C:Ctx} {n:Nat} {bx:List (Nat×List A)} {lv:List Nat} {gen r:Nat} {ops:Array Oper} {md:Region.Mode} {m:Nat}
abbrev Sg:=dA×Bt
structure fW (C:Ctx) (n:Nat) (bx:List (Nat×List A)) (lv:List Nat) (gen r:Nat) (σ:Sg) (G:Gh) (tmps:Array Value) (w:World):Prop where
 s:ao C n ⟨[],bx,lv,gen+r⟩ G tmps w
 f:∀ t a,σ.1 t=some a→∃ v,tmps[t]? = some v∧aC (au C G (gen+r) w) v a
 b:∀ g cells,σ.2 g=some cells→gen≤g∧∃ b cs T,G.box g=some b∧w.heap[b]? = some (.cells cs T (0,0))∧cs.size=cells.length ∧
   (∀ (i:Nat) (u:Value),cs[i]? = some u→u.oneCell'=true)∧∀ (i:Nat) (u:Value) (a:A),cs[i]? = some u→cells[i]? = some a→aC (au C G (gen+r) w) u a
 n:∀ g,gen≤g→σ.2 g=none→G.box g=none
 o:∀ g,gen≤g→∀ c,ae bx g≠some c
theorem fW.ky {I:Sg} {G:Gh} {tmps:Array Value} {w:World} (h:fW C n bx lv gen r I G tmps w) {f:List (Nat×A)} {bn:List (Nat×List A)} (J:∀ t a,look f t=some a→I.1 t=some a) (hb:∀ g c,ae bn g=some c→I.2 g=some c) :
 ao C n ⟨f,bn++bx,lv,gen+r⟩ G tmps w:=
 { h.s with frame:=fun t a M=>h.f t a (J t a M),box:=fun g c N=>(iN N).elim (fun h1=>(h.b g c (hb g c h1)).2) (h.s.box g c) }
theorem fW.zU {f:List (Nat×A)} {G:Gh} {tmps:Array Value} {w:World} (h:ao C n ⟨f,bx,lv,gen⟩ G tmps w):fW C n bx lv gen r (look f,fun _=>none) G tmps w:=by
 have h2:ao C n ⟨f,bx,lv,gen+r⟩ G tmps w:=ao.later (st:=⟨f,bx,lv,gen⟩) h (Nat.le_add_right _ _);refine⟨{ h2 with frame:=fun t a J=>by simp[look] at J },h2.frame,(fun g c I=>nomatch I),fun g M _=>?_,fun g M c I=>?_⟩;rotate_left
 ·obtain⟨b,_,_,h1,_⟩:=h.box g c I
  have:=(h.gbox g b h1).1;simp only at this;omega
 cases hb:G.box g with
 | none=>rfl
 | some b=>have:=(h.gbox g b hb).1;simp only at this;omega
theorem fW.step {M:Sg} {G:Gh} {tmps:Array Value} {w w':World} (h:fW C n bx lv gen r M G tmps w) (hb:Below w.heap.size w w') {dst:Option Nat} (hd:eM n dst=true) {v:Value} {a:A} (O:aC (au C G (gen+r) w') v a) :
 fW C n bx lv gen r (bK M.1 dst a,M.2) G (Act.put ⟨tmps,[]⟩ dst v).tmps w':=by
 obtain⟨hle,hs⟩:=h.s.gp hb
 have N:∀ g cells,M.2 g=some cells→gen≤g∧∃ b cs T,G.box g=some b∧w'.heap[b]? = some (.cells cs T (0,0))∧cs.size=cells.length ∧
  (∀ (i:Nat) (u:Value),cs[i]? = some u→u.oneCell'=true)∧∀ (i:Nat) (u:Value) (a:A),cs[i]? = some u→cells[i]? = some a→aC (au C G (gen+r) w') u a:=by
  intro g cells U;obtain⟨h0,b,cs,T,h1,h2,h3,h4,h5⟩:=h.b g cells U;exact⟨h0,b,cs,T,h1,by rw[hb.block b (h.s.gbox g b h1).2.1];exact h2,h3,h4,fun i u a hu J=>(h5 i u a hu J).mono hle⟩
 cases dst with
 | none=>exact⟨hs,fun t a J=>let ⟨v,h1,h2⟩:=h.f t a J;⟨v,h1,h2.mono hle⟩,N,h.n,h.o⟩
 | some d=>
   refine⟨{ hs with size:=by have:=hs.size;simpa [Act.put] using this,frame:=fun t a J=>by simp[look] at J },fun t b I=>?_,N,h.n,h.o⟩;simp only[bK] at I;split at I
   ·rename_i e
    subst e;simp only[Option.some.injEq] at I;subst I;exact⟨v,by simp[Act.put,Array.getElem?_setIfInBounds,hs.size,bQ hd],O⟩
   ·rename_i e
    obtain⟨u,h1,h2⟩:=h.f t b I;exact⟨u,by simp only[Act.put];rw[Array.getElem?_setIfInBounds_ne (Ne.symm e)];exact h1,h2.mono hle⟩
theorem fW.pj {σ:Sg} {G:Gh} {tmps:Array Value} {w:World} (h:fW C n bx lv gen r σ G tmps w) {g:Nat} (hg:gen≤g) (a8:g < gen+r) (hn:σ.2 g=none) (cs:Array Value) (T:TypeId) (cells:List A) (b0:cv (au C G (gen+r) w) cs cells)
 {d:Nat} (hd:d < n):∃ O,fW C n bx lv gen r (bK σ.1 (some d) (.ptr g 0),dX σ.2 (some (g,cells))) O (tmps.setIfInBounds d (.pointer (some ⟨w.heap.size,0,none⟩))) (w.alloc (.cells cs T)):=by
 obtain⟨hs,h1,b2⟩:=b0;have b3:=h.n g hg hn;have hb:Below w.heap.size w (w.alloc (.cells cs T)):=(Below.refl _ w).alloc (Nat.le_refl _) _;let O:Gh:=⟨fun I=>if I=g then some w.heap.size else G.box I,G.own⟩;have ch:w.heap.size < (w.alloc (.cells cs T)).heap.size:=by simp
 have a6:∀ {I b},G.box I=some b→O.box I=some b:=by intro I b J;simp only[O];rw[if_neg (by rintro rfl;rw[b3] at J;cases J)];exact J
 have hle:(au C G (gen+r) w).le (au C O (gen+r) (w.alloc (.cells cs T))):=by
  refine⟨fun b o u hu ai=>?_,fun b o u hu ho=>?_,fun I b J=>a6 J,fun _ _ _ h=>h,Nat.le_refl _,fun g b len cap sz U _ X=>hb.block b (by obtain⟨_,_,_,cur,T,h3,_⟩:=h.s.row g b len cap sz U X;exact(Array.getElem?_eq_some_iff.1 h3).1),fun I b bs _ X=>have hl:=h.s.xC X;⟨hb.block b hl.1,fun p hp=>hb.block p.1 (hl.2 p hp)⟩,.below hb⟩
  ·have ad:=cE hu
   refine⟨by show cellAt (w.alloc _) b o=_;rw[br (hb.block b ad)];exact hu,fun hp=>ai ?_⟩;rcases hp with hp | ⟨I,hp⟩ | hp
   ·exact .inl hp
   ·simp only[O] at hp
    split at hp
    ·simp only[Option.some.injEq] at hp
     have:b < w.heap.size:=ad;omega
    ·exact .inr (.inl ⟨I,hp⟩)
   ·exact .inr (.inr hp)
  ·have ad:=cE hu
   exact⟨by show cellAt (w.alloc _) b o=_;rw[br (hb.block b ad)];exact hu,ho⟩
 have a7:∀ I b len cap sz U,G.own I=some (.blk b len cap sz U)→b < w.heap.size:=fun I b len cap sz U X=>by obtain⟨_,_,_,cur,T',h4,_⟩:=h.s.row I b len cap sz U X;exact(Array.getElem?_eq_some_iff.1 h4).1
 refine⟨O,{ s:={ size:=(by have:=h.s.size;simpa using this),frame:=(fun t a Z=>by simp[look] at Z),xold:=h.s.xold,kold:=h.s.kold,lent:=(fun i b hb=>a6 (h.s.lent i b hb)),fr:=h.s.fr.below hb,live:=h.s.live,gown:=h.s.gown,box:=fun I c hc=>?_,gbox:=fun I b J=>?_,inj:=fun g1 g2 b aj a1=>?_,row:=fun I b len cap sz U X=>?_,mrow:=fun I b bs X=>?_,sub:=fun I b bs c lim X hm=>?_,gcell:=fun I b J=>(by simp only[O] at J;split at J <;> first | (simp only[Option.some.injEq] at J;subst J;exact⟨_,_,_,heap_alloc_new w _⟩) | exact ka (.below hb) (h.s.gcell I b J)) },f:=fun t a Z=>?_,b:=fun I c hc=>?_,n:=fun I cj ai=>?_,o:=h.o }⟩
 ·obtain⟨b,cs',T',N,h2,h3,h4,h5⟩:=h.s.box I c hc
  exact⟨b,cs',T',a6 N,by rw[hb.block b (h.s.gbox I b N).2.1];exact h2,h3,h4,fun i u a hu Z=>(h5 i u a hu Z).mono hle⟩
 ·simp only[O] at J
  split at J
  ·rename_i e
   subst e;simp only[Option.some.injEq] at J;subst J;exact⟨a8,ch,.inl h.s.fr.size,fun o ho=>absurd (h.s.kold _ o ho) (by have:=h.s.fr.size;omega)⟩
  ·obtain⟨h6,h7,h8⟩:=h.s.gbox I b J
   exact⟨h6,by simp;omega,h8⟩
 ·simp only[O] at aj a1
  split at aj <;> split at a1;·simp_all
  ·simp only[Option.some.injEq] at aj;have:=(h.s.gbox g2 b a1).2.1;omega
  ·simp only[Option.some.injEq] at a1;have:=(h.s.gbox g1 b aj).2.1;omega
  ·exact h.s.inj g1 g2 b aj a1
 ·obtain⟨N,h2,h3,cur,T',h4,h5⟩:=h.s.row I b len cap sz U X
  refine⟨N,fun g2 M=>?_,h3,cur,T',by rw[hb.block b (a7 I b len cap sz U X)];exact h4,h5⟩;simp only[O] at M;split at M;·simp only[Option.some.injEq] at M;have:=a7 I b len cap sz U X;omega
  ·exact h2 g2 M
 ·obtain⟨N,h2,h3,me,clock,h4⟩:=h.s.mrow I b bs X
  have ad:=(Array.getElem?_eq_some_iff.1 h4).1;refine⟨N,fun g2 M=>?_,h3,me,clock,by rw[hb.block b ad];exact h4⟩;simp only[O] at M;split at M;·simp only[Option.some.injEq] at M;omega
  ·exact h2 g2 M
 ·obtain⟨N,h2,h3,h4,cur,T',h5,h6⟩:=h.s.sub I b bs c lim X hm
  have ad:=(Array.getElem?_eq_some_iff.1 h5).1;refine⟨N,fun g2 M=>?_,h3,h4,cur,T',by rw[hb.block c ad];exact h5,h6⟩;simp only[O] at M;split at M;·simp only[Option.some.injEq] at M;omega
  ·exact h2 g2 M
 ·simp only[bK] at Z
  split at Z
  ·rename_i e
   subst e;simp only[Option.some.injEq] at Z;subst Z;exact⟨_,by have:=h.s.size;simp[Array.getElem?_setIfInBounds,this,hd],.ptr _ g 0 w.heap.size (by simp[au];omega) (by simp[au,O]) rfl⟩
  ·rename_i e
   obtain⟨u,h6,h7⟩:=h.f t a Z;exact⟨u,by rw[Array.getElem?_setIfInBounds_ne (Ne.symm e)];exact h6,h7.mono hle⟩
 ·simp only[dX] at hc
  split at hc
  ·rename_i e
   subst e;simp only[Option.some.injEq] at hc;subst hc;exact⟨hg,w.heap.size,cs,T,by simp[O],heap_alloc_new w _,hs,h1,fun i u a hu Z=>(b2 i u a hu Z).mono hle⟩
  ·obtain⟨h0,b,cs',T',N,h2,h3,h4,h5⟩:=h.b I c hc
   exact⟨h0,b,cs',T',a6 N,by rw[hb.block b (h.s.gbox I b N).2.1];exact h2,h3,h4,fun i u a hu Z=>(h5 i u a hu Z).mono hle⟩
 ·simp only[dX] at ai
  split at ai;·cases ai
  ·rename_i e
   simp only[O];rw[if_neg e];exact h.n I cj ai
theorem fW.store {σ:Sg} {G:Gh} {tmps:Array Value} {w:World} (h:fW C n bx lv gen r σ G tmps w) {g b:Nat} {cs cs':Array Value} {T:TypeId} {cells cells':List A} (hb:σ.2 g=some cells) (N:G.box g=some b) (hw:w.heap[b]? = some (.cells cs T (0,0)))
 (M:cv (au C G (gen+r) w) cs' cells'):fW C n bx lv gen r (σ.1,dX σ.2 (some (g,cells'))) G tmps (w.setRow b cs'):=by
 have a6:=(h.b g cells hb).1;have a7:w.heap[b]?≠none:=by rw[hw];simp
 have hm:=(h.s.gbox g b N).2.2;have a8:Fr C (w.setRow b cs'):=⟨h.s.fr.os,h.s.fr.tape,h.s.fr.output,by rw[size_setRow];exact h.s.fr.size,fun I h1 h2=>by
  rw[setRow_other w b I cs' (fun e=>by subst e;exact hm.1.elim (fun hm=>by omega) h2)];exact h.s.fr.block I h1 h2,fun I o u hk hu=>by
  rw[br (setRow_other w b I cs' (fun e=>by subst e;exact absurd (hm.2 o hk) (Nat.not_lt_zero _)))];exact h.s.fr.cells I o u hk hu,h.s.fr.ty.trans (.setRow w b cs')⟩
 have hle:(au C G (gen+r) w).le (au C G (gen+r) (w.setRow b cs')):=by
  refine ju (st:=⟨[],bx,lv,gen+r⟩) h.s.fr a8 (fun I o u hu hn=>⟨?_,hn⟩) (fun _ _ h=>h) (fun _ _ _ h=>h) (Nat.le_refl _) (fun J I len cap sz ai _ M=>?_) (fun J I bs _ M=>⟨?_,fun p hp=>?_⟩) (.setRow w b cs')
  ·have:I≠b:=fun e=>hn (.inr (.inl ⟨g,by rw[e];exact N⟩))
   rw[br (setRow_other w b I cs' this)];exact hu
  ·have:I≠b:=fun e=>(h.s.row J I len cap sz ai M).2.1 g (by rw[e];exact N)
   exact setRow_other w b I cs' this
  ·exact setRow_other w b I cs' (fun e=>(h.s.mrow J I bs M).2.1 g (by rw[e];exact N))
  ·exact setRow_other w b p.1 cs' (fun e=>(h.s.sub J I bs p.1 p.2 M hp).2.1 g (by rw[e];exact N))
 refine { s:={ size:=h.s.size,frame:=fun t a U=>by simp[look] at U,inj:=h.s.inj,xold:=h.s.xold,kold:=h.s.kold,lent:=h.s.lent,fr:=a8,live:=h.s.live,gown:=h.s.gown,box:=fun J c X=>?_,gbox:=fun J I aj=>?_,row:=fun J I len cap sz ai aj=>?_,mrow:=fun J I bs M=>?_,sub:=fun J I bs c lim M hm=>?_,gcell:=fun J I a7=>ka (.setRow w b cs') (h.s.gcell J I a7) },f:=fun t a U=>let ⟨v,h1,h2⟩:=h.f t a U;⟨v,h1,h2.mono hle⟩,b:=fun J c X=>?_,n:=fun J b0 ad=>?_,o:=h.o }
 ·obtain⟨I,a1,Z,h1,h2,h3,h4,h5⟩:=h.s.box J c X
  by_cases e:I=b
  ·subst e
   have e2:=h.s.inj J g I h1 N;subst e2;exact absurd X (h.o J a6 c)
  ·exact⟨I,a1,Z,h1,by rw[setRow_other w b I cs' e];exact h2,h3,h4,fun i u a hu U=>(h5 i u a hu U).mono hle⟩
 ·obtain⟨h1,h2,h3⟩:=h.s.gbox J I aj
  exact⟨h1,by rw[size_setRow];exact h2,h3⟩
 ·obtain⟨h1,h2,h3,cur,Z,h4,h5⟩:=h.s.row J I len cap sz ai aj
  have O:I≠b:=fun e=>h2 g (by rw[e];exact N);exact⟨h1,h2,h3,cur,Z,by rw[setRow_other w b I cs' O];exact h4,h5⟩
 ·obtain⟨h1,h2,h3,me,clock,h4⟩:=h.s.mrow J I bs M
  have O:I≠b:=fun e=>h2 g (by rw[e];exact N);exact⟨h1,h2,h3,me,clock,by rw[setRow_other w b I cs' O];exact h4⟩
 ·obtain⟨h1,h2,h3,h4,cur,Z,h5,h6⟩:=h.s.sub J I bs c lim M hm
  have O:c≠b:=fun e=>h2 g (by rw[e];exact N);exact⟨h1,h2,h3,h4,cur,Z,by rw[setRow_other w b c cs' O];exact h5,h6⟩
 ·simp only[dX] at X
  split at X
  ·rename_i e
   subst e;simp only[Option.some.injEq] at X;subst X;exact⟨a6,b,cs',T,N,setRow_heap w b cs cs' T (0,0) hw,M.1,M.2.1,fun i u a hu U=>(M.2.2 i u a hu U).mono hle⟩
  ·rename_i e
   obtain⟨h0,I,a1,Z,h1,h2,h3,h4,h5⟩:=h.b J c X;have O:I≠b:=fun e'=>e (h.s.inj J g b (e'▸h1) N);exact⟨h0,I,a1,Z,h1,by rw[setRow_other w b I cs' O];exact h2,h3,h4,fun i u a hu U=>(h5 i u a hu U).mono hle⟩
 ·simp only[dX] at ad
  split at ad;·cases ad
  ·exact h.n J b0 ad
def YE (P:Program) (T:bA P) (C:Ctx) (n:Nat) (bx:List (Nat×List A)) (lv:List Nat) (gen r:Nat) (ops:Array Oper) (i:Nat) (o:Oper) (a:A) (u:Option (Nat×List A)) (I:Sg):Prop:=
 eM n o.dst=true ∧
  ((jd o=false∧u=none∧YA P C n bx lv (gen+r) ops o a I.1) ∨
   (jd o=true∧o.guard=none∧I.2 (gen+cV ops.toList i)=none∧cV ops.toList i < r∧a=.ptr (gen+cV ops.toList i) 0∧∃ d cells,o.dst=some d∧u=some (gen+cV ops.toList i,cells) ∧
    ((∃ e M,o.op=.alloc e∧ae T.l e=some M∧cells=M.z.map fun v=>A.d (.v v)) ∨
     (∃ e x f y,o.op=.box e x∧(∀ t z,look f t=some z→I.1 t=some z∧t∈o.looksAt ops)∧av f x=some y∧cellsOf bx y=some cells))) ∨
   (F7 o=true∧o.guard=none∧o.dst=none∧a=.any∧∃ t J y k ok f z cells cs,o.op=.store t (.tmp J) y∧ops[k]? = some ok∧jd ok=true∧ok.dst=some J∧(∀ t z,look f t=some z→I.1 t=some z∧t∈o.looksAt ops) ∧
    I.1 J=some (.ptr (gen+cV ops.toList k) 0)∧av f y=some z∧cellsOf bx z=some cs∧c8 T t=cs.length∧cs.length≠0∧cs.length≤cells.length∧I.2 (gen+cV ops.toList k)=some cells ∧
    u=some (gen+cV ops.toList k,setAt cells 0 cs)))
def nR (ops:Array Oper) (x y:Oper):Prop:=x.apart ops y=true∧∀ d,kU x=some d→kU y≠some d
theorem oE {I:Nat} {t:TypeId} {y:Operand} {o:Oper} (h:o.op=.store t (.tmp I) y):I∈o.looksAt ops:=by unfold Oper.looksAt;rw[h];exact List.mem_append.2 (.inl (by simp[Op.operands]))
section
variable {T}
theorem YE.name {i:Nat} {o:Oper} {a:A} {g:Nat} {c:List A} {M:Sg} (hi:ops[i]? = some o) (h:YE P T C n bx lv gen r ops i o a (some (g,c)) M) :
 ∃ k ok I,ops[k]? = some ok∧jd ok=true∧ok.dst=some I∧g=gen+cV ops.toList k∧((k=i)∨(kU o=some I∧I∈o.looksAt ops)):=by
 rcases h with ⟨_,⟨_,h,_⟩ | ⟨h1,_,_,_,_,d,cells,h2,h3,_⟩ | ⟨h1,_,_,_,t,I,y,k,ok,f,z,cells,cs,h2,h3,h4,h5,_,_,_,_,_,_,_,_,J⟩⟩;·cases h
 ·simp only[Option.some.injEq,Prod.mk.injEq] at h3
  exact⟨i,o,d,hi,h1,h2,h3.1,.inl rfl⟩
 ·simp only[Option.some.injEq,Prod.mk.injEq] at J
  exact⟨k,ok,I,h3,h4,h5,J.1,.inr ⟨by unfold kU;rw[h2],oE h2⟩⟩
theorem CJ {k I:Nat} {o o':Oper} (U:ops[k]? = some o) (J:ops[I]? = some o') (X:jd o=true) (M:jd o'=true) (h:cV ops.toList k=cV ops.toList I):k=I:=by
 rcases Nat.lt_trichotomy k I with N | he | O
 ·have:=sV (l:=ops.toList) (by simpa using U) X N;omega
 ·exact he
 ·have:=sV (l:=ops.toList) (by simpa using J) M O;omega
theorem qc {i j:Nat} {N O:Oper} {a b:A} {g X:Nat} {c c':List A} {σ Z:Sg} (hi:ops[i]? = some N) (hj:ops[j]? = some O) (ad:i≠j) (ai:nR ops N O) (h:YE P T C n bx lv gen r ops i N a (some (g,c)) σ)
 (h':YE P T C n bx lv gen r ops j O b (some (X,c')) Z):g≠X:=by
 rintro rfl;obtain⟨k,ok,U,h1,h2,h3,h4,h5⟩:=YE.name hi h;obtain⟨k',a8,b0,I,aj,J,b2,a6⟩:=YE.name hj h';have e:k=k':=CJ h1 I h2 aj (by omega);subst e;rw[h1] at I;simp only[Option.some.injEq] at I;subst I;rw[h3] at J;simp only[Option.some.injEq] at J;subst J;obtain⟨ha,hs⟩:=ai;obtain⟨a1,a2,a3⟩:=Oper.apart_spec ha;rcases h5 with e | ⟨e,hm⟩ <;> rcases a6 with M | ⟨M,a7⟩
 ·exact ad (e.symm.trans M)
 ·subst e
  rw[hi] at h1;simp only[Option.some.injEq] at h1;subst h1;exact a1 U h3 a7
 ·subst M
  rw[hj] at h1;simp only[Option.some.injEq] at h1;subst h1;exact a3 U h3 hm
 ·exact hs U e M
theorem fC {I:dA} {o:Oper} {dst:Option Nat} {x:A} (hd:∀ d,dst=some d→d∉o.looksAt ops) {t:Nat} (J:t∈o.looksAt ops):bK I dst x t=I t:=by
 cases dst with
 | none=>rfl
 | some e=>
   have:t≠e:=fun h=>by subst h;exact hd t rfl J
   simp[bK,this]
theorem DU {i j:Nat} {M N:Oper} {a b:A} {u v:Option (Nat×List A)} {J U:Sg} (hi:ops[i]? = some M) (hj:ops[j]? = some N) (X:i≠j) (O:nR ops M N) (h:YE P T C n bx lv gen r ops i M a u J) (Z:YE P T C n bx lv gen r ops j N b v U) :
 YE P T C n bx lv gen r ops i M a u (bK J.1 N.dst b,dX J.2 v):=by
 obtain⟨a1,a2,a3⟩:=Oper.apart_spec O.1;have hv:∀ {g c},u=some (g,c)→dX J.2 v g=J.2 g:=by
  intro g c hu
  cases v with
  | none=>rfl
  | some x=>obtain⟨g',c'⟩:=x;subst hu;have:=qc hi hj X O h Z;simp[dX,this]
 obtain⟨h0,h | h | h⟩:=id h;·exact⟨h0,.inl ⟨h.1,h.2.1,(er a3).2 h.2.2⟩⟩
 ·obtain⟨h1,h2,h3,h4,h5,d,cells,h6,h7,h8⟩:=h
  refine⟨h0,.inr (.inl ⟨h1,h2,(hv h7).trans h3,h4,h5,d,cells,h6,h7,h8.imp id ?_⟩)⟩;rintro⟨e,x,f,y,g1,g2,g3⟩;exact⟨e,x,f,y,g1,fun t z I=>⟨(fC a3 (g2 t z I).2).trans (g2 t z I).1,(g2 t z I).2⟩,g3⟩
 ·obtain⟨h1,h2,h3,h4,t,dx,y,k,ok,f,z,cells,cs,g1,g2,g3,g4,g5,g6,g7,g8,g9,g10,g11,g12,g13⟩:=h
  exact⟨h0,.inr (.inr ⟨h1,h2,h3,h4,t,dx,y,k,ok,f,z,cells,cs,g1,g2,g3,g4,fun t z I=>⟨(fC a3 (g5 t z I).2).trans (g5 t z I).1,(g5 t z I).2⟩,
   (fC a3 (oE g1)).trans g6,g7,g8,g9,g10,g11,(hv g13).trans g12,g13⟩)⟩
theorem D8 {i j:Nat} {M N:Oper} {a b:A} {u v:Option (Nat×List A)} {J X:Sg} (hi:ops[i]? = some M) (hj:ops[j]? = some N) (Z:i≠j) (U:nR ops M N) (ad:YE P T C n bx lv gen r ops i M a u X)
 (h:YE P T C n bx lv gen r ops j N b v (bK J.1 M.dst a,dX J.2 u)):YE P T C n bx lv gen r ops j N b v J:=by
 obtain⟨O,a2,a3⟩:=Oper.apart_spec U.1;have hv:∀ {g c},v=some (g,c)→dX J.2 u g=J.2 g:=by
  intro g c hu
  cases u with
  | none=>rfl
  | some x=>obtain⟨g',c'⟩:=x;subst hu;have:=qc hi hj Z U ad h;simp[dX,Ne.symm this]
 obtain⟨h0,h | h | h⟩:=id h;·exact⟨h0,.inl ⟨h.1,h.2.1,(er O).1 h.2.2⟩⟩
 ·obtain⟨h1,h2,h3,h4,h5,d,cells,h6,h7,h8⟩:=h
  refine⟨h0,.inr (.inl ⟨h1,h2,(hv h7).symm.trans h3,h4,h5,d,cells,h6,h7,h8.imp id ?_⟩)⟩;rintro⟨e,x,f,y,g1,g2,g3⟩;exact⟨e,x,f,y,g1,fun t z I=>⟨(fC O (g2 t z I).2).symm.trans (g2 t z I).1,(g2 t z I).2⟩,g3⟩
 ·obtain⟨h1,h2,h3,h4,t,dx,y,k,ok,f,z,cells,cs,g1,g2,g3,g4,g5,g6,g7,g8,g9,g10,g11,g12,g13⟩:=h
  exact⟨h0,.inr (.inr ⟨h1,h2,h3,h4,t,dx,y,k,ok,f,z,cells,cs,g1,g2,g3,g4,fun t z I=>⟨(fC O (g5 t z I).2).symm.trans (g5 t z I).1,(g5 t z I).2⟩,
   (fC O (oE g1)).symm.trans g6,g7,g8,g9,g10,g11,(hv g13).symm.trans g12,g13⟩)⟩
theorem zC {β:Bt} {u v:Option (Nat×List A)} (h:∀ g c I J,u=some (g,c)→v=some (I,J)→g≠I):dX (dX β u) v=dX (dX β v) u:=by
 cases u with
 | none=>rfl
 | some x=>
   cases v with
   | none=>rfl
   | some y=>obtain⟨g,c⟩:=x;obtain⟨I,J⟩:=y;have:=h g c I J rfl rfl;funext t;simp only[dX];split <;> split <;> simp_all
end
def qE (P:Program) (T:bA P) (C:Ctx) (n:Nat) (bx:List (Nat×List A)) (lv:List Nat) (gen r:Nat) (ops:Array Oper) (i:Nat) (K:Sg→Prop) (I:Sg):Prop:=
 match ops[i]? with
 | none=>K I
 | some o=>∃ a u,YE P T C n bx lv gen r ops i o a u I∧K (bK I.1 o.dst a,dX I.2 u)
theorem CR {i:Nat} {I:Sg} {K M:Sg→Prop} (h:∀ I,K I→M I) (J:qE P T C n bx lv gen r ops i K I):qE P T C n bx lv gen r ops i M I:=by
 unfold qE at *;split;·exact h _ (by simpa [*] using J)
 ·rename_i o N
  simp only[N] at J;obtain⟨a,u,h1,h2⟩:=J;exact⟨a,u,h1,h _ h2⟩
theorem D2 {i j:Nat} {M Z:Oper} {a:A} {u:Option (Nat×List A)} (hi:ops[i]? = some M) (hj:ops[j]? = some Z) (N:i≠j) (J:nR ops M Z) {K:Sg→Prop} {I:Sg} (X:YE P T C n bx lv gen r ops i M a u I)
 (h:qE P T C n bx lv gen r ops j K (bK I.1 M.dst a,dX I.2 u)):qE P T C n bx lv gen r ops j (fun O=>YE P T C n bx lv gen r ops i M a u O∧K (bK O.1 M.dst a,dX O.2 u)) I:=by
 obtain⟨a1,a2,a3⟩:=Oper.apart_spec J.1;unfold qE at *;simp only[hj] at h ⊢;obtain⟨b,v,hb,hk⟩:=h;have U:=D8 hi hj N J X hb;refine⟨b,v,U,DU hi hj N J X U,?_⟩;have e1:=lF I.1 a b a2;have e2:dX (dX I.2 u) v=dX (dX I.2 v) u:=zC (fun g c g' c' hu hv=>by subst hu;subst hv;exact qc hi hj N J X U);rw[←e1,←e2];exact hk
def Split (m:Nat) (ops:Array Oper) (listed:Array Bool):Prop:=listed.size=ops.size∧(∀ j,j < m→listed.getD j false=true)∧∀ j,m≤j→j < ops.size→listed.getD j true=false
def y5 (P:Program) (T:bA P) (C:Ctx) (n:Nat) (bx:List (Nat×List A)) (lv:List Nat) (gen r m:Nat) (md:Region.Mode) (ops:Array Oper) (Q:Sg→Prop):Nat→Array Bool→Sg→Prop
 | 0,listed,I=>Split m ops listed∧Q I
 | fuel+1,listed,I=>Region.ready md ops listed≠[]∧∀ i∈Region.ready md ops listed,qE P T C n bx lv gen r ops i (y5 P T C n bx lv gen r m md ops Q fuel (listed.setIfInBounds i true)) I
def cu (md:Region.Mode) (ops:Array Oper) (j i:Nat):Bool:=
 match ops[j]? with
 | some o=>o.after.toList.any fun e=>Nat.beq e.on i && Region.binds md e
 | none=>false
theorem kN {j i:Nat} {I:Oper} (hj:ops[j]? = some I) (h:cu md ops j i=true):∃ e∈I.after,Region.binds md e=true∧e.on=i:=by unfold cu at h;rw[hj] at h;obtain⟨e,he,hb⟩:=List.any_eq_true.1 h;simp only[Bool.and_eq_true] at hb;exact⟨e,by simpa using he,hb.2,Nat.eq_of_beq_eq_true hb.1⟩
theorem et {listed:Array Bool} {i:Nat} (h:listed.getD i true=false):listed.getD i false=false:=by
 rcases Nat.lt_or_ge i listed.size with I | I
 ·simp[I] at h ⊢;exact h
 ·simp[Array.getElem?_eq_none I] at h
def re (md:Region.Mode) (ops:Array Oper) (m:Nat):Bool:=(List.range ops.size).all fun j=>decide (j < m) || (List.range j).all fun i=>cu md ops j i
def yH:List Nat→Bool
 | []=>true
 | a::r=>!(r.any (Nat.beq a)) && yH r
def iB (l:List Oper):Bool:=yH (l.filterMap kU)
theorem waits {j:Nat} (h:re md ops m=true) (hm:m≤j) {i:Nat} (M:i < j) {listed:Array Bool} (hj:j∈Region.ready md ops listed):listed.getD i false=true:=by obtain⟨_,O,I,J⟩:=mem_ready.1 hj;have N:j < ops.size:=(Array.getElem?_eq_some_iff.1 I).1;have h1:=List.all_eq_true.1 h j (by simpa using N);simp only[Bool.or_eq_true,decide_eq_true_eq] at h1;have h2:=List.all_eq_true.1 (h1.resolve_left (by omega)) i (by simpa using M);obtain⟨e,he,hb,heq⟩:=kN I h2;rw[←heq];exact J e he hb
theorem sa:∀ {l:List Oper} (_:iB l=true) {i j:Nat} {J I:Oper} (_:l[i]? = some J) (_:l[j]? = some I) (_:i < j) {d:Nat} (_:kU J=some d),kU I≠some d
 | [],_,i,j,J,I,h,_,_,_,_=>by simp at h
 | z::l,h,0,j+1,J,I,hi,hj,_,d,hd=>by simp at hi;subst hi;intro he;simp only[iB,List.filterMap_cons,hd,yH,Bool.and_eq_true,Bool.not_eq_true'] at h;have h1:(l.filterMap kU).any (Nat.beq d)=true:=List.any_eq_true.2 ⟨d,List.mem_filterMap.2 ⟨I,List.mem_of_getElem? (by simpa using hj),he⟩,Nat.beq_refl d⟩;rw[h1] at h;cases h.1
 | z::l,h,i+1,j+1,J,I,hi,hj,hij,d,hd=>by
   refine sa (l:=l) ?_ (i:=i) (j:=j) (by simpa using hi) (by simpa using hj) (by omega) hd;simp only[iB,List.filterMap_cons] at h ⊢
   cases M:kU z with
   | none=>simpa only[M] using h
   | some e=>simp only[M,yH,Bool.and_eq_true] at h;exact h.2
 | z::l,_,i,0,J,I,_,_,hij,_,_=>by omega
theorem BC {l:List Oper} (h:iB l=true) {i j:Nat} {I J:Oper} (hi:l[i]? = some I) (hj:l[j]? = some J) (N:i≠j) (d:Nat) (hd:kU I=some d):kU J≠some d:=by
 rcases Nat.lt_or_ge i j with M | O
 ·exact sa h hi hj M hd
 ·exact fun he=>sa h hj hi (by omega) he hd
theorem yW {Q:Sg→Prop} {i:Nat} {M:Oper} {a:A} {u:Option (Nat×List A)} (hone:iB (ops.toList.take m)=true) (hw:re md ops m=true) (a8:i < m) (hi:ops[i]? = some M) :
 ∀ (fuel:Nat) (listed:Array Bool) (I:Sg),
   (∀ j N,ops[j]? = some N→j≠i→listed.getD j true=false→(∀ e∈N.after,Region.binds md e=true→e.on≠i)→M.apart ops N=true) →
   i∈Region.ready md ops listed→YE P T C n bx lv gen r ops i M a u I →
   y5 P T C n bx lv gen r m md ops Q fuel (listed.setIfInBounds i true) (bK I.1 M.dst a,dX I.2 u)→y5 P T C n bx lv gen r m md ops Q (fuel+1) listed I:=by
 have take:∀ {K:Sg→Prop} {I:Sg},YE P T C n bx lv gen r ops i M a u I→K (bK I.1 M.dst a,dX I.2 u)→qE P T C n bx lv gen r ops i K I:=by intro K I U hk;unfold qE;simp only[hi];exact⟨a,u,U,hk⟩
 have X:∀ {listed:Array Bool},i∈Region.ready md ops listed→listed.getD i false=false:=by intro listed J;exact et (mem_ready.1 J).1
 intro fuel
 induction fuel with
 | zero=>
   intro listed I _ J U H;refine⟨fun h=>(by rw[h] at J;cases J),fun j hj=>?_⟩;by_cases hji:j=i;·subst hji;exact take U H
   ·exfalso
    obtain⟨⟨_,h1,h2⟩,_⟩:=H;have b0:=(mem_ready.1 hj).1;by_cases Z:j < m
    ·have:=h1 j Z
     rw[getD_set_ne false (Ne.symm hji)] at this;rw[et b0] at this;cases this
    ·have:=waits hw (by omega) (show i < j by omega) hj
     rw[X J] at this;cases this
 | succ fuel ih=>
   intro listed I O J U H;refine⟨fun h=>(by rw[h] at J;cases J),fun j hj=>?_⟩;by_cases hji:j=i;·subst hji;exact take U H
   ·have h1:=H.2 j (ready_mono hj hji)
    obtain⟨ad,N,ai,a6⟩:=mem_ready.1 hj;have a7:∀ e∈N.after,Region.binds md e=true→e.on≠i:=fun e he hb heq=>by have h1:=a6 e he hb;rw[heq,X J] at h1;cases h1
    have Z:j < m:=by
     rcases Nat.lt_or_ge j m with h | h
     ·exact h
     ·have:=waits hw h (show i < j by omega) hj
      rw[X J] at this;cases this
    have b2:nR ops M N:=by
     refine⟨O j N ai hji ad a7,BC (i:=i) (j:=j) hone ?_ ?_ (Ne.symm hji)⟩;·rw[List.getElem?_take,if_pos a8];simpa using hi
     ·rw[List.getElem?_take,if_pos Z];simpa using ai
    have h2:=D2 T hi ai (Ne.symm hji) b2 U h1
    have aj:∀ k ok,ops[k]? = some ok→k≠i→(listed.setIfInBounds j true).getD k true=false →
     (∀ e∈ok.after,Region.binds md e=true→e.on≠i)→M.apart ops ok=true:=fun k ok hk b3 a1 ch=>by
     refine O k ok hk b3 ?_ ch;by_cases hjk:j=k;·subst hjk;exact ad
     ·rw[getD_set_ne true hjk] at a1;exact a1
    refine CR T (fun cj h3=>ih (listed.setIfInBounds j true) cj aj (ready_mono J (Ne.symm hji)) h3.1 ?_) h2;rw[Array.setIfInBounds_comm _ _ hji];exact h3.2
def D6 (P:Program) (T:bA P) (C:Ctx) (n:Nat) (bx:List (Nat×List A)) (lv:List Nat) (gen r:Nat) (ops:Array Oper) (Q:Sg→Prop):List Oper→Nat→Sg→Prop
 | [],_,σ=>Q σ
 | o::rest,i,σ=>∃ a u,YE P T C n bx lv gen r ops i o a u σ∧D6 P T C n bx lv gen r ops Q rest (i+1) (bK σ.1 o.dst a,dX σ.2 u)
def mG (md:Region.Mode) (ops:Array Oper):Nat→Nat→Array Bool→Bool
 | 0,_,_=>true
 | t+1,k,listed=>(Region.ready md ops listed).contains k && Region.free md ops listed k && mG md ops t (k+1) (listed.setIfInBounds k true)
theorem wP {Q:Sg→Prop} (hone:iB (ops.toList.take m)=true) (hw:re md ops m=true):∀ (l:List Oper) (k:Nat) (listed:Array Bool) (I:Sg),k+l.length=m→(∀ j,j < l.length→l[j]? = ops[k+j]?) →
 listed.size=ops.size→(∀ j,j < k→listed.getD j false=true)→(∀ j,k≤j→j < ops.size→listed.getD j true=false) →
 mG md ops l.length k listed=true→D6 P T C n bx lv gen r ops Q l k I→y5 P T C n bx lv gen r m md ops Q l.length listed I
 | [],k,listed,I,hk,_,hs,h1,h2,_,h=>⟨⟨hs,fun j hj=>h1 j (by simp at hk;omega),fun j hj J=>h2 j (by simp at hk;omega) J⟩,h⟩
 | o::l,k,listed,I,hk,hl,hs,h1,h2,hB,h=>by
   have h0:ops[k]? = some o:=by simpa using (hl 0 (by simp)).symm
   have M:k < ops.size:=(Array.getElem?_eq_some_iff.1 h0).1;simp only[List.length_cons,mG,Bool.and_eq_true] at hB;obtain⟨⟨X,Z⟩,N⟩:=hB;obtain⟨a,u,hy,hK⟩:=h;have O:k < m:=by simp at hk;omega
   refine yW T hone hw O h0 l.length listed I (Region.free_spec h0 Z) (by simpa using X) hy
    (wP hone hw l (k+1) _ _ (by simp at hk;omega) (fun j hj=>by have:=hl (j+1) (by simpa using hj);simpa [Nat.add_assoc,Nat.add_comm 1 j] using this) (by simpa using hs) (fun j hj=>?_) (fun j hj J=>?_) N hK)
   ·rcases Nat.lt_succ_iff_lt_or_eq.1 hj with U | rfl
    ·exact getD_set_true (h1 j U)
    ·simp[hs,M]
   ·rw[getD_set_ne true (by omega)]
    exact h2 j (by omega) J
theorem xI {i:Nat} {σ:Sg} {K:Sg→Prop} {K':Act→World→Prop} {Q':Exit→Act→World→Prop} {G:Gh} {tmps:Array Value} {w:World} (hs:fW C n bx lv gen r σ G tmps w)
 (h:∀ σ G tmps w,fW C n bx lv gen r σ G tmps w→K σ→K' ⟨tmps,C.ds⟩ w) (hh:qE P T C n bx lv gen r ops i K σ):wpOp P ops Q' i K' ⟨tmps,C.ds⟩ w:=by
 unfold qE at hh;unfold wpOp;split;·rename_i ho;simp only[ho] at hh;exact h _ _ _ _ hs hh
 ·rename_i o ho
  simp only[ho] at hh;obtain⟨a,u,⟨hd,J⟩,X⟩:=hh;have M:ew C n bx lv (gen+r) σ.1 G tmps w:=⟨hs.s,hs.f⟩;rcases J with ⟨_,rfl,_,J⟩ | ⟨_,a1,Z,hr,rfl,d,cells,I,rfl,J⟩ | ⟨_,a1,I,rfl,t,dx,y,k,ok,f,z,cells,cs,O,hok,dj,ed,hf,N,a6,cl,ad,hz,hle,ai,rfl⟩
  ·rcases J with ⟨hw,f,hf,hp⟩ | ⟨hw,rfl⟩
   ·rw[fQ M hw]
    simp only[if_true];refine .inl ?_;have hg:cS P o ⟨tmps,[]⟩ w fun v w'=>Below w.heap.size w w'∧aC (au C G (gen+r) w') v a:=hp G tmps w (M.ky fun t x N=>(hf t x N).1);refine hg.ds.wp fun v w' ⟨hb,hr⟩=>?_;rw[Act.gn];exact h _ _ _ _ (hs.step hb hd hr) X
   ·rw[fQ M hw]
    simp only[Bool.false_eq_true,if_false];rw[Act.gn];exact h _ _ _ _ (hs.step (Below.refl _ _) hd (.tup #[] [] rfl (by simp))) X
  ·have a7:Region.wanted o (yielded ops tmps)=true:=by simp[Region.wanted,a1]
   rw[a7];simp only[if_true];refine .inl ?_;rw[I] at X;have ch:d < n:=bQ hd d I;rcases J with ⟨e,dt,O,he,rfl⟩ | ⟨e,x,f,y,O,hf,a6,hc⟩
   ·obtain⟨i',zz,hi,_,_,cq,a8,ei,cx,_⟩:=T.info he
    have b2:∀ (i:Nat) (u:Value),zz.cells[i]? = some u→cm u=true:=fun i u hu=>by
     have:u∈dt.z:=by rw[←a8,List.mem_iff_getElem?];exact⟨i,by simpa using hu⟩
     exact List.all_eq_true.1 cx u this
    obtain⟨G',U⟩:=hs.pj (Nat.le_add_right _ _) (by omega) Z zz.cells e (dt.z.map fun v=>.d (.v v)) ⟨by rw[List.length_map,←a8];simp,fun i u hu=>kt (b2 i u hu),fun i u a hu ha=>by
     simp only[List.getElem?_map,Option.map_eq_some_iff] at ha;obtain⟨y,J,rfl⟩:=ha;rw[←a8] at J;have:y=u:=by simp at J;rw[hu] at J;exact(Option.some.inj J).symm
     subst this;exact .d (.v _ (b2 i y hu))⟩ ch
    refine(bT (v:=.pointer (some ⟨w.heap.size,0,none⟩)) (w':=w.alloc (.cells zz.cells e)) (R:=fun v w'=>v=.pointer (some ⟨w.heap.size,0,none⟩)∧w'=w.alloc (.cells zz.cells e)) ?_ ⟨rfl,rfl⟩:cS P o ⟨tmps,[]⟩ w _).ds.wp ?_
    ·unfold execOp
     rw[O];show Sem.run P _ w=_;simp only[Instr.alloc,zeroValue,typeInfo,hi,cq,newVar,newRow,Sem.run_bind,run_program,run_newObj,Result.andThen_ok,Sem.run_pure];rfl
    ·rintro v w' ⟨rfl,rfl⟩
     rw[I];exact h _ G' _ _ U X
   ·have cy:=hZ (M.ky fun t x N=>(hf t x N).1) hc (ao.av (M.ky fun t x N=>(hf t x N).1) a6)
    obtain⟨G',U⟩:=hs.pj (Nat.le_add_right _ _) (by omega) Z (Act.eval ⟨tmps,[]⟩ x).cells e cells cy ch;refine(bT (v:=.pointer (some ⟨w.heap.size,0,none⟩)) (w':=w.alloc (.cells (Act.eval ⟨tmps,[]⟩ x).cells e)) (R:=fun v w'=>v=.pointer (some ⟨w.heap.size,0,none⟩)∧w'=w.alloc (.cells (Act.eval ⟨tmps,[]⟩ x).cells e)) ?_ ⟨rfl,rfl⟩:cS P o ⟨tmps,[]⟩ w _).ds.wp ?_
    ·unfold execOp
     rw[O];show Sem.run P _ w=_;simp only[Instr.box,newVar,newRow,Sem.run_bind,run_newObj,Result.andThen_ok,Sem.run_pure];rfl
    ·rintro v w' ⟨rfl,rfl⟩
     rw[I];exact h _ G' _ _ U X
  ·have a7:Region.wanted o (yielded ops tmps)=true:=by simp[Region.wanted,a1]
   rw[a7];simp only[if_true];refine .inl ?_;rw[I] at X;obtain⟨_,b,cur,T',h1,h2,h3,h4,h5⟩:=hs.b _ cells ai;obtain⟨v,c1,c6⟩:=hs.f dx _ N;have hv:Act.eval ⟨tmps,[]⟩ (.tmp dx)=.pointer (some ⟨b,0,none⟩):=by
    have e:Act.eval ⟨tmps,[]⟩ (.tmp dx)=v:=by simp[Act.eval,c1]
    rw[e]
    cases c6 with
    | ptr _ _ _ b0 _ c7 df=>exact kP c7 df b h1
   have hG:=M.ky (f:=f) fun t x N=>(hf t x N).1;have aj:=hZ hG cl (ao.av hG a6);have cj:=run_storeCells_at P b 0 T' (Act.eval ⟨tmps,[]⟩ y).cells.toList 0 cur w h2 (by have:=aj.1;simp at this ⊢;omega) (fun v hv=>by obtain⟨i,hi⟩:=List.mem_iff_getElem?.1 hv;exact aj.2.1 i v (by simpa using hi));obtain⟨dt,b3,di⟩:∃ d,ae T.l t=some d∧d.n=cs.length:=by
    unfold c8 at ad;split at ad;·rename_i d b3;exact⟨d,b3,ad⟩
    ·exact absurd ad.symm hz
   have U:=hs.store ai h1 h2 (cv.setAt (off:=0) ⟨h3,h4,h5⟩ aj (by omega));refine(fT (R:=fun v w'=>v=undef∧w'=w.setRow b (cur.toList.take 0++(Act.eval ⟨tmps,[]⟩ y).cells.toList++cur.toList.drop (0+(Act.eval ⟨tmps,[]⟩ y).cells.toList.length)).toArray) ?_ ⟨rfl,rfl⟩:cS P o ⟨tmps,[]⟩ w _).ds.wp ?_
   ·unfold execOp
    rw[O];show Sem.run P _ w=_;simp only[hv,Instr.storeAt,Instr.sureAddr,storeVar,Sem.run_bind,Sem.run_pure,Result.andThen_ok,T.sizeOf b3];rw[if_neg (by rw[di];simp;exact aj.1)];simp only[Nat.add_zero] at cj;simp only[cj,Result.andThen_ok]
   ·rintro v w' ⟨rfl,rfl⟩
    rw[I];exact h _ G _ _ U X
theorem qJ {Q:Sg→Prop} {Q':Exit→Act→World→Prop} {t:Nat} (J:∀ listed I G tmps w,fW C n bx lv gen r I G tmps w→Split m ops listed→Q I→wpAny P md ops Q' t listed ⟨tmps,C.ds⟩ w) :
 ∀ (fuel:Nat) (listed:Array Bool) (I:Sg) (G:Gh) (tmps:Array Value) (w:World),fW C n bx lv gen r I G tmps w→y5 P T C n bx lv gen r m md ops Q fuel listed I→wpAny P md ops Q' (fuel+t) listed ⟨tmps,C.ds⟩ w
 | 0,_,_,_,_,_,hs,h=>by rw[Nat.zero_add];exact J _ _ _ _ _ hs h.1 h.2
 | fuel+1,_,_,_,_,_,hs,h=>by rw[Nat.add_right_comm];exact⟨fun h0=>absurd h0 h.1,fun i hi=>xI T hs (fun I G tmps w M=>qJ J fuel _ I G tmps w M) (h.2 i hi)⟩
theorem rm {Q':Exit→Act→World→Prop} (hw:re md ops m=true) (O:∀ k,m≤k→∀ o,ops[k]? = some o→∀ e∈o.after,Region.binds md e=true→e.on < k) :
 ∀ (l:List Oper) (k:Nat) (listed:Array Bool) (act:Act) (w:World),m≤k→k+l.length=ops.size→(∀ j,l[j]? = ops[k+j]?)→listed.size=ops.size→(∀ j,j < k→listed.getD j false=true)→(∀ j,k≤j→j < ops.size→listed.getD j true=false) →
   dS P ops Q' l act w→wpAny P md ops Q' l.length listed act w
 | [],k,listed,act,w,hm,hk,_,hs,h1,h2,h=>by refine⟨?_,h⟩;refine List.eq_nil_iff_forall_not_mem.2 fun j hj=>?_;obtain⟨h3,oj,U,_⟩:=mem_ready.1 hj;have J:=(Array.getElem?_eq_some_iff.1 U).1;have:=h1 j (by simp at hk;omega);rw[et h3] at this;cases this
 | o::l,k,listed,act,w,hm,hk,hl,hs,h1,h2,h=>by
   have h0:ops[k]? = some o:=by simpa using (hl 0).symm
   have M:k < ops.size:=(Array.getElem?_eq_some_iff.1 h0).1;have I:k∈Region.ready md ops listed:=mem_ready.2 ⟨h2 k (Nat.le_refl _) M,o,h0,fun e he hb=>h1 _ (O k hm o h0 e he hb)⟩;refine⟨fun hn=>(by rw[hn] at I;cases I),fun i hi=>?_⟩;have X:i=k:=by
    obtain⟨h3,oi,ai,_⟩:=mem_ready.1 hi;rcases Nat.lt_trichotomy i k with J | he | Z
    ·have:=h1 i J;rw[et h3] at this;cases this
    ·exact he
    ·have:=waits hw (by omega) Z hi
     rw[et (h2 k (Nat.le_refl _) M)] at this;cases this
   subst X
   have ih:=fun act w=>rm (Q':=Q') hw O l (i+1) (listed.setIfInBounds i true) act w (by omega) (by simp at hk;omega) (fun j=>by have:=hl (j+1);simpa [Nat.add_assoc,Nat.add_comm 1 j] using this) (by simpa using hs)
    (fun j hj=>by
     rcases Nat.lt_succ_iff_lt_or_eq.1 hj with J | rfl
     ·exact getD_set_true (h1 j J)
     ·simp[hs,M]) (fun j hj ad=>by rw[getD_set_ne true (by omega)];exact h2 j (by omega) ad)
   simp only[dS] at h;unfold wpOp;simp only[h0];split
   ·rename_i N
    rw[if_pos N] at h;exact .inl (Oper.wp_mono ih h)
   ·rename_i N
    rw[if_neg N] at h;exact ih _ _ h
def yv (md:Region.Mode) (ops:Array Oper) (m:Nat):Bool:=(List.range ops.size).all fun k=>decide (k < m) || match ops[k]? with | some o=>o.after.toList.all fun e=>!Region.binds md e || decide (e.on < k) | none=>true
theorem mN (h:yv md ops m=true):∀ k,m≤k→∀ o,ops[k]? = some o→∀ e∈o.after,Region.binds md e=true→e.on < k:=by
 intro k hm o I e he hb;have J:=(Array.getElem?_eq_some_iff.1 I).1;have h1:=List.all_eq_true.1 h k (by simpa using J);simp only[Bool.or_eq_true,decide_eq_true_eq] at h1;have h2:=h1.resolve_left (by omega);rw[I] at h2;have h3:=List.all_eq_true.1 h2 e (by simpa using he);simp only[Bool.or_eq_true,Bool.not_eq_true',decide_eq_true_eq] at h3;rcases h3 with h3 | h3
 ·rw[hb] at h3;cases h3
 ·exact h3
def CE (P:Program) (T:bA P) (C:Ctx) (n:Nat) (bx:List (Nat×List A)) (lv:List Nat) (gen r:Nat) (ops:Array Oper) (Q:St→Prop) (l:List Oper) (i:Nat) (f:List (Nat×A)) (bn:List (Nat×List A)):Prop:=
 D6 P T C n bx lv gen r ops (fun J=>∃ f' I,(∀ t,look f' t=J.1 t)∧(∀ g,ae I g=J.2 g)∧Q ⟨f',I++bx,lv,gen+r⟩) l i (look f,ae bn)
def tD (m r:Nat) (ops:Array Oper):Bool:=
 Nat.ble m ops.size && iB (ops.toList.take m) && re .any ops m && yv .any ops m && mG .any ops m 0 (Array.replicate ops.size false) && Nat.beq (cV ops.toList m) r
theorem W.xx {id:Nat} {l l1 l2:List Oper} {f:List (Nat×A)} {Q:Exit→St→Prop} (m r:Nat) (hB:tD m r l.toArray=true) (h1:l.take m=l1) (h2:l.drop m=l2)
 (h:CE P T C n bx lv gen r l.toArray (WO P C n l.toArray Q l2) l1 0 f []):W P C n (.region id l.toArray true) Q ⟨f,bx,lv,gen⟩:=by
 subst h1;subst h2;intro tmps w ⟨G,hs⟩;simp only[tD,Bool.and_eq_true] at hB;obtain⟨⟨⟨⟨⟨hm,hone⟩,hw⟩,N⟩,I⟩,hr⟩:=hB;have hm:m≤l.length:=by simpa using Nat.le_of_ble_eq_true hm
 have hb:Below w.heap.size w { w with drawn:=w.drawn+1 }:=(Below.refl _ w).drew;have X:fW C n bx lv gen r (look f,fun _=>none) G tmps { w with drawn:=w.drawn+1 }:=fW.zU (hs.gp hb).2;have hlen:(l.take m).length=m:=by simp;omega
 refine wp_region_any T.mixed ?_;have O:l.toArray.size=(l.take m).length+(l.drop m).length:=by simp;omega
 rw[O];refine qJ T (m:=m) (Q:=fun U=>∃ f' J,(∀ t,look f' t=U.1 t)∧(∀ g,ae J g=U.2 g)∧WO P C n l.toArray Q (l.drop m) ⟨f',J++bx,lv,gen+r⟩) (fun listed U G tmps w hs M ⟨f',J,e1,e2,hq⟩=>?_) _ _ _ G _ _ X ?_
 ·refine rm hw (mN N) (l.drop m) m listed ⟨tmps,C.ds⟩ w (Nat.le_refl _) (by simp;omega) (fun j=>by simp[List.getElem?_drop]) M.1 M.2.1 M.2.2 ?_
  exact hq tmps w ⟨G,hs.ky (fun t a ha=>by rw[←e1];exact ha) (fun g c hc=>by rw[←e2];exact hc)⟩
 ·refine wP T hone hw (l.take m) 0 _ _ (by rw[hlen];omega) (fun j hj=>?_) (by simp;omega) (fun j hj=>by omega) (fun j _ hj=>?_) (by rw[hlen];rw[O,hlen] at I;exact I) h
  ·rw[hlen] at hj
   rw[Nat.zero_add];simp[List.getElem?_take,hj]
  ·have Z:j < l.length:=by simpa using hj
   have e:min m l.length+(l.length - m)=l.length:=by omega
   simp[e,Z]
variable {T}
variable {op:Op} {ty:TypeId} {pos:String} {af:Array Edge} {a:A} {d i:Nat} {rest:List Oper} {f:List (Nat×A)} {bn:List (Nat×List A)} {Q:St→Prop}
theorem CE.nil (h:Q ⟨f,bn++bx,lv,gen+r⟩):CE P T C n bx lv gen r ops Q [] i f bn:=⟨f,bn,fun _=>rfl,fun _=>rfl,h⟩
theorem qt (I:jd ⟨some d,op,ty,pos,af,none⟩=false) (hp:Pu P C n ⟨ck f (slotsOf op),bx,lv,gen+r⟩ ⟨some d,op,ty,pos,af,none⟩ a) (hd:Nat.blt d n=true) (h:CE P T C n bx lv gen r ops Q rest (i+1) ((d,a)::f) bn) :
 CE P T C n bx lv gen r ops Q (⟨some d,op,ty,pos,af,none⟩::rest) i f bn:=by
 unfold CE at *;rw[dW] at h;refine⟨a,none,⟨hd,.inl ⟨I,rfl,hd,.inl ⟨rfl,_,fun t x J=>?_,hp⟩⟩⟩,h⟩;obtain⟨h1,h2⟩:=dI J;exact⟨h1,List.mem_append.2 (.inl h2)⟩
theorem sZ {g:Nat} {c:List A}:ae ((g,c)::bn)=dX (ae bn) (some (g,c)):=by funext t;rw[bN];simp only[dX];split <;> split <;> simp_all
theorem wT {e:TypeId} {I:bH} {l:List A} (c:Nat) (J:Nat.beq (cV ops.toList i) c=true) (N:Nat.blt c r=true) (M:ae bn (gen+c)=none) (he:ae T.l e=some I) (hl:(I.z.map fun v=>A.d (.v v))=l) (hd:Nat.blt d n=true)
 (h:CE P T C n bx lv gen r ops Q rest (i+1) ((d,.ptr (gen+c) 0)::f) ((gen+c,l)::bn)):CE P T C n bx lv gen r ops Q (⟨some d,.alloc e,ty,pos,af,none⟩::rest) i f bn:=by
 unfold CE at *;rw[dW,sZ] at h;have J:=Nat.eq_of_beq_eq_true J;subst J;subst hl;exact⟨_,_,⟨hd,.inr (.inl ⟨rfl,rfl,M,Nat.le_of_ble_eq_true N,rfl,d,_,rfl,rfl,.inl ⟨e,I,rfl,he,rfl⟩⟩)⟩,h⟩
theorem CG {t:TypeId} {y:Operand} {I:Nat} {ok:Oper} {z:A} {cells cs cells':List A} (k c:Nat) (hx:look f I=some (.ptr (gen+c) 0)) (hk:ops[k]? = some ok) (M:jd ok=true) (N:ok.dst=some I) (J:Nat.beq (cV ops.toList k) c=true)
 (hb:ae bn (gen+c)=some cells) (O:av (ck f (slotsOf (.store t (.tmp I) y))) y=some z) (hc:cellsOf bx z=some cs) (U:c8 T t=cs.length) (X:Nat.blt 0 cs.length=true) (hle:Nat.ble cs.length cells.length=true) (hs:setAt cells 0 cs=cells')
 (h:CE P T C n bx lv gen r ops Q rest (i+1) f ((gen+c,cells')::bn)):CE P T C n bx lv gen r ops Q (⟨none,.store t (.tmp I) y,ty,pos,af,none⟩::rest) i f bn:=by
 unfold CE at *;rw[sZ] at h;have J:=Nat.eq_of_beq_eq_true J;subst hs;subst J;have X:=Nat.le_of_ble_eq_true X;refine⟨.any,_,⟨rfl,.inr (.inr ⟨rfl,rfl,rfl,rfl,t,I,y,k,ok,_,z,cells,cs,rfl,hk,M,N,fun t' z' Z=>?_,hx,O,hc,U,by omega,Nat.le_of_ble_eq_true hle,hb,rfl⟩)⟩,h⟩;obtain⟨h1,h2⟩:=dI Z;exact⟨h1,List.mem_append.2 (.inl h2)⟩
end
end Go.Ab
namespace Go.Ab
open Go.RowKit
section
variable {P:Program} (T:bA P) {C:Ctx} {n:Nat} {ops:Array Oper} {Q:Exit→St→Prop} {rest:List Oper} {c:Code}
variable {f:List (Nat×A)} {bx:List (Nat×List A)} {lv:List Nat} {gen d:Nat} {ty:TypeId} {pos:String} {af:Array Edge} {a:A} {dst:Option Nat}
theorem DG {t t':Nat} {x y:Operand} {p q:ByteArray} (O:av f x=some (.d (.v (.string p)))) (U:av f y=some (.d (.v (.string q)))) (hb:p.size+q.size≤9223372036854775807) :
 Pu P C n ⟨f,bx,lv,gen⟩ ⟨dst,.binOp .add t x y t',ty,pos,af,none⟩ (.d (.v (.string (p++q)))):=by
 refine dG.pu fun G tmps w hs=>?_;have I:=hs.av O;have J:=hs.av U;generalize M:Act.eval ⟨tmps,[]⟩ x=vx at I;generalize N:Act.eval ⟨tmps,[]⟩ y=vy at J;cases I with | d I=>cases I with | v _ _=>
 cases J with | d J=>cases J with | v _ _=>
 refine⟨_,?_,.d (.v _ ?_)⟩
 ·unfold execOp
  show Sem.run P _ w=_;have:¬ ((p.size+q.size:Nat):Int) > IntKind.i64.max:=by simp[IntKind.max,IntKind.signed,IntKind.bits];omega
  simp only[M,N,eqGuard,binOp,Op.stringOp,if_neg this];simp;rfl
 ·simp[cm,maxLen,ByteArray.size_append]
  omega
end
end Go.Ab
namespace Go.Tb
open Go.Ab
abbrev ci (n:Int):D:=.v (.int .i64 n)
abbrev cs (s:ByteArray):D:=.v (.string s)
structure vr where
 kind:Int
 n:Int
 s:ByteArray
 deriving DecidableEq
@[reducible] def vr.c (x:vr):List D:=[ci x.kind,ci x.n,cs x.s]
structure uJ where
 name:ByteArray
 type:Int
 deriving DecidableEq
@[reducible] def uJ.c (x:uJ):List D:=[cs x.name,ci x.type]
inductive Ex where
 | mk (op:Int) (name:ByteArray) (v:vr) (kids:List Ex)
def Ex.op:Ex→Int | .mk a _ _ _=>a
def Ex.name:Ex→ByteArray | .mk _ a _ _=>a
def Ex.v:Ex→vr | .mk _ _ a _=>a
def Ex.kids:Ex→List Ex | .mk _ _ _ a=>a
mutual
def Ex.kc:Ex→List (List D)
 | .mk _ _ _ kids=>Ex.qX kids
def Ex.qX:List Ex→List (List D)
 | []=>[]
 | e::r=>[ci e.op,cs e.name,ci e.v.kind,ci e.v.n,cs e.v.s,.sl (Ex.kc e)]::Ex.qX r
end
@[reducible] def Ex.c (e:Ex):List D:=[ci e.op,cs e.name,ci e.v.kind,ci e.v.n,cs e.v.s,.sl e.kc]
theorem Ex.nP:∀ l,Ex.qX l=l.map Ex.c
 | []=>rfl
 | e::r=>by simp[Ex.qX,Ex.nP r]
theorem Ex.mr (e:Ex):e.kc=e.kids.map Ex.c:=by cases e;simp[Ex.kc,Ex.kids,Ex.nP]
theorem Ex.aF (e:Ex):e.kc.length=e.kids.length:=by simp[Ex.mr]
structure Cc where
 e:Ex
 name:ByteArray
@[reducible] def Cc.c (x:Cc):List D:=[ci x.e.op,cs x.e.name,ci x.e.v.kind,ci x.e.v.n,cs x.e.v.s,.sl x.e.kc,cs x.name]
structure Ce where
 fn:ByteArray
 col:ByteArray
 name:ByteArray
@[reducible] def Ce.c (x:Ce):List D:=[cs x.fn,cs x.col,cs x.name]
structure B4 where
 col:ByteArray
 desc:Bool
@[reducible] def B4.c (x:B4):List D:=[cs x.col,.v (.bool x.desc)]
@[reducible] def sc (s:ByteArray):List D:=[cs s]
structure B9 where
 op:Int
 cond:Ex
 items:List Cc
 cols:List ByteArray
 aggs:List Ce
 sorts:List B4
 n:Int
 table:ByteArray
@[reducible] def B9.c (x:B9):List D:=[ci x.op,ci x.cond.op,cs x.cond.name,ci x.cond.v.kind,ci x.cond.v.n,cs x.cond.v.s,.sl x.cond.kc,
 .sl (x.items.map Cc.c),.sl (x.cols.map sc),.sl (x.aggs.map Ce.c),.sl (x.sorts.map B4.c),ci x.n,cs x.table]
structure ES where
 cols:List uJ
 rows:List (List vr)
@[reducible] def rc (r:List vr):List D:=[.sl (r.map vr.c)]
@[reducible] def ES.c (x:ES):List D:=[.sl (x.cols.map uJ.c),.sl (x.rows.map rc)]
structure FH where
 name:ByteArray
 table:ES
@[reducible] def FH.c (x:FH):List D:=[cs x.name,.sl (x.table.cols.map uJ.c),.sl (x.table.rows.map rc)]
structure FO where
 from_:ByteArray
 steps:List B9
@[reducible] def FO.c (x:FO):List D:=[cs x.from_,.sl (x.steps.map B9.c)]
@[reducible] def ic (k:Int):List D:=[ci k]
/- ### typed data out of a reading -/
section
variable {P:Program} {T:bA P}
theorem tA {α:Type} {f:α→List D} {t:Nat}:∀ {es:List (List D)},(∀ x∈es,cz T t x)→(∀ x,x∈es→cz T t x→∃ a,x=f a)→∃ l:List α,es=l.map f
 | [],_,_=>⟨[],rfl⟩
 | x::r,h,hf=>by obtain⟨a,J⟩:=hf x (by simp) (h x (by simp));obtain⟨l,hl⟩:=tA (fun y I=>h y (by simp[I])) (fun y I=>hf y (by simp[I])) (es:=r);exact⟨a::l,by rw[J,hl];rfl⟩
theorem BF {t a b c:Nat} {J M N:Nat} {O U X:String} {l:List D} (h:cz T t l) (Z:cA T t=.st [(J,a,O),(M,b,U),(N,c,X)]):∃ p q r,l=p++(q++r)∧cz T a p∧cz T b q∧cz T c r:=by
 obtain⟨ps,rfl,hl,I⟩:=h.EA Z
 match ps,hl with
 | [p,q,r],_=>exact⟨p,q,r,by simp,I 0 _ _ _ p rfl rfl,I 1 _ _ _ q rfl rfl,I 2 _ _ _ r rfl rfl⟩
variable {tv tk ti ts tc tcs te teo tes:Nat} {o1 o2 o3 o4 o5 o6 o7 o8:Nat} {n1 n2 n3 n4 n5 n6 n7 n8:String} {l:List D}
theorem jh (h:cz T ti l) (I:cA T ti=.int .i64):∃ n,l=[ci n]:=let ⟨n,h,_⟩:=h.toInt I;⟨n,h⟩
theorem qp (h:cz T ts l) (I:cA T ts=.str):∃ n,l=[cs n]:=let ⟨n,h,_⟩:=h.toStr I;⟨n,h⟩
theorem xg {α:Type} {f:α→List D} {t e:Nat} (h:cz T t l) (I:cA T t=.slice e) (J:∀ x,cz T e x→∃ a,x=f a):∃ r:List α,l=[.sl (r.map f)]:=by obtain⟨es,rfl,h1,_⟩:=h.toSlice I;obtain⟨r,rfl⟩:=tA h1 (fun x _ M=>J x M);exact⟨r,rfl⟩
end
end Go.Tb
namespace Go.Tb
open Go.Ab
def Still (caps:List A):Prop:=(∀ bx k,caps.map (conv bx (k+2))=caps)∧iY caps=true
def idx (o:Option Nat):Int:=match o with | some i=>i | none=>-1
theorem iS {α:Type} {l:List α} {p:α→Bool}:decide (0≤idx (l.findIdx? p))=l.any p:=by
 cases h:l.findIdx? p with
 | none=>
   have:=List.findIdx?_eq_none_iff.1 h;simp only[idx];rw[Bool.eq_iff_iff];simp only[decide_eq_true_eq,List.any_eq_true];constructor;·intro h;exact absurd h (by decide)
   ·rintro⟨x,I,hp⟩;rw[this x I] at hp;cases hp
 | some i=>obtain⟨hi,hp,_⟩:=List.findIdx?_eq_some_iff_getElem.1 h;simp only[idx];rw[Bool.eq_iff_iff];simp only[decide_eq_true_eq,List.any_eq_true];exact⟨fun _=>⟨_,List.getElem_mem hi,hp⟩,fun _=>decide_eq_true (Int.natCast_nonneg i)⟩
def bX {α:Type} (p:α→Bool) (l:List α) (k:Nat):Prop:=∀ j x,j < k→l[j]? = some x→p x=false
theorem bX.zero {α:Type} {p:α→Bool} {l:List α}:bX p l 0:=fun _ _ h=>by omega
theorem bX.step {α:Type} {p:α→Bool} {l:List α} {k:Nat} {x:α} (h:bX p l k) (M:l[k]? = some x) (hp:p x=false):bX p l (k+1):=by
 intro j y hj I;rcases Nat.lt_succ_iff_lt_or_eq.1 hj with J | rfl
 ·exact h j y J I
 ·rw[M] at I;simp only[Option.some.injEq] at I;subst I;exact hp
theorem bX.found {α:Type} {p:α→Bool} {l:List α} {k:Nat} {x:α} (h:bX p l k) (M:l[k]? = some x) (hp:p x=true):l.findIdx? p=some k:=by rw[List.findIdx?_eq_some_iff_getElem];obtain⟨I,J⟩:=List.getElem?_eq_some_iff.1 M;refine⟨I,by rw[J];exact hp,fun j hj=>?_⟩;rw[h j (l[j]) hj (by simp)];simp
theorem bX.end_ {α:Type} {p:α→Bool} {l:List α} {k:Nat} (h:bX p l k) (I:k=l.length):l.findIdx? p=none:=by rw[List.findIdx?_eq_none_iff];intro x J;obtain⟨j,hj⟩:=List.mem_iff_getElem?.1 J;exact h j x (by rw[I];exact(List.getElem?_eq_some_iff.1 hj).1) hj
def cY (n:Int):Bool:=decide (-1000000000000000≤n) && decide (n≤1000000000000000)
abbrev B (l:Array UInt8):ByteArray:=⟨l⟩
def words:List ByteArray:=[B #[97,110,100],B #[111,114],B #[110,111,116],B #[110,117,108,108],B #[116,114,117,101],B #[102,97,108,115,101]]
def lower (b:UInt8):Bool:=decide (97≤b.toNat) && decide (b.toNat≤122)
def ah (s:ByteArray):List UInt8:=s.data.toList
def marks:List UInt8:=[95,46,58,47,60,62,36,42,126,45]
def gS (b:UInt8):Bool:=lower b || (decide (65≤b.toNat) && decide (b.toNat≤90)) || (decide (48≤b.toNat) && decide (b.toNat≤57)) || marks.any fun c=>decide (c=b)
def cd (s:ByteArray):Int:=if s=B #[]∨40 < s.size∨(ah s).all gS=false then 3 else 0
end Go.Tb
namespace Go.Tb
open Go.Ab
theorem kQ {s:ByteArray} (h:cm (.string s)=true):(ah s).length≤maxLen:=by simpa [cm,ah] using h
theorem aw (s:ByteArray):(ah s).length=s.size:=by simp[ah]
theorem jY (c:UInt8):∀ l:List UInt8,(0≤Lib.indexByte l c)↔c∈l
 | []=>by simp[Lib.indexByte]
 | b::l=>by have I:=jY c l;have h1:=Lib.indexByte_ge l c;simp only[Lib.indexByte,List.mem_cons];grind
theorem tV (l:List UInt8) (c:UInt8):decide (0≤Lib.indexByte l c)=l.any fun x=>decide (x=c):=by rw[Bool.eq_iff_iff];simp[jY]
theorem nB (c:UInt8):∀ l:List UInt8,Lib.indexByte l c≤l.length
 | []=>by simp[Lib.indexByte]
 | b::l=>by have I:=nB c l;simp only[Lib.indexByte,List.length_cons];grind
theorem uw {s:ByteArray} (h:cm (.string s)=true) (c:UInt8):cm (.int .i64 (Lib.indexByte (ah s) c))=true:=by
 have h1:=Lib.indexByte_ge (ah s) c;have h2:=nB c (ah s);have h3:=kQ h;have h4:maxLen=9223372036854775807:=rfl;simp only[cm,Bool.and_eq_true,decide_eq_true_eq];refine⟨?_,?_⟩;·show -9223372036854775808≤_;omega
 ·show _≤9223372036854775807;omega
theorem lR {s:ByteArray}:s=B #[]↔ah s=[]:=by
 constructor;·rintro rfl;rfl
 ·intro hb
  have:s.data=#[]:=by simpa [ah] using hb
  cases s;simp_all[B]
end Go.Tb
namespace Go.Tb
open Go.Ab
section
variable {P:Program} {C:Ctx} {n:Nat} {Q:Exit→St→Prop} {c:Code} {f:List (Nat×A)} {bx:List (Nat×List A)} {lv:List Nat} {gen:Nat}
end
end Go.Tb
namespace Go.Tb
open Go.Ab
theorem Ay {α:Type} {l:List α} {k:Nat} (h:k < l.length):∃ x,l[k]? = some x∧l.drop k=x::l.drop (k+1):=⟨l[k],by simp[h],List.drop_eq_getElem_cons h⟩
theorem dropEnd {α:Type} {l:List α} {k:Nat} (h:l.length≤k):l.drop k=[]:=List.drop_eq_nil_of_le h
theorem dn {P:Program} {C:Ctx} {n:Nat} {st:St} {o:Oper} {k:IntKind} {x y:Int} (h:Pu P C n st o (.d (.v (.int k x)))) (e:x=y):Pu P C n st o (.d (.v (.int k y))):=e▸h
end Go.Tb
namespace Go.Tb
open Go.Ab
section
variable {P:Program} {C:Ctx} {n:Nat} {Q:Exit→St→Prop} {c:Code} {f:List (Nat×A)} {bx:List (Nat×List A)} {lv:List Nat} {gen:Nat}
theorem zK {g j:Nat} {cells:List A} {es:List (List D)} (hb:ae bx g=some cells) (I:cells[j]? = some (.d (.sl es))) (h:es.length≤maxLen→W P C n c Q ⟨f,bx,lv,gen⟩):W P C n c Q ⟨f,bx,lv,gen⟩:=by
 intro tmps w ⟨G,hs⟩;obtain⟨b,cs,T,h1,h2,h3,h4,h5⟩:=hs.box g cells hb;have hj:j < cs.size:=by rw[h3];exact(List.getElem?_eq_some_iff.1 I).1
 have:=h5 j cs[j] _ (by simp[hj]) I;generalize cs[j]=u at this;cases this with | d hd=>exact h hd.len.choose_spec.choose_spec.2 tmps w ⟨G,hs⟩
end
end Go.Tb
namespace Go.Tb
open Go.Ab
mutual
def deep:Ex→Int→Int→Int
 | .mk op name v kids,level,left=>if level < 1∨left - 1 < 0∨300 < name.size∨300 < v.s.size then -1 else B6 kids level (left - 1)
def B6:List Ex→Int→Int→Int
 | [],_,left=>left
 | k::r,level,left=>if deep k (level - 1) left < 0 then -1 else B6 r level (deep k (level - 1) left)
end
def small (e:Ex):Bool:=decide (0≤deep e 40 300)
end Go.Tb
namespace Go.Tb
open Go.Ab
end Go.Tb
namespace Go.Tb
open Go.Ab
end Go.Tb
namespace Go.Tb
open Go.Ab
end Go.Tb
namespace Go.Tb
end Go.Tb
namespace Go.Tb
open Go.Ab
theorem wrap_zero {x:Int} (h0:0≤x) (h1:x < 18446744073709551616):(IntKind.i64.wrap x=0)↔x=0:=by simp only[IntKind.wrap,IntKind.signed,IntKind.bits];simp;omega
/-! tables -/
end Go.Tb
namespace Go.Ab
open Go.RowKit
section
variable {P:Program} (T:bA P) {C:Ctx} {n:Nat} {ops:Array Oper} {Q:Exit→St→Prop} {rest:List Oper} {c:Code}
variable {f:List (Nat×A)} {bx:List (Nat×List A)} {lv:List Nat} {gen d:Nat} {ty:TypeId} {pos:String} {af:Array Edge} {a:A} {dst:Option Nat}
end
end Go.Ab
namespace Go.Tb
open Go.Ab
def Fh:List uJ→Nat→List uJ→Bool
 | _,_,[]=>false
 | all,k,c::r=>(all.take k).any (fun x=>decide (x.name=c.name)) || Fh all (k+1) r
end Go.Tb
namespace Go.Ab
open Go.RowKit
section
variable {P:Program} (T:bA P) {C:Ctx} {n:Nat} {ops:Array Oper} {Q:Exit→St→Prop} {rest:List Oper} {c:Code}
variable {f:List (Nat×A)} {bx:List (Nat×List A)} {lv:List Nat} {gen d:Nat} {ty:TypeId} {pos:String} {af:Array Edge} {a:A} {dst:Option Nat}
theorem Bb {α:Type} {fn:α→List D} {l l2:List α} {x y:Operand} {t e:Nat} {J I:bH} {g:Nat} {b:A} (hx:av f x=some (.own g (l.map fn))) (hy:av f y=some b) (M:gm b=some (l2.map fn)) (ht:ae T.l t=some J) (hk:J.k=.slice e)
 (he:ae T.l e=some I) (N:(lv.any fun h=>Nat.beq h g)=true) (hz:Nat.blt 0 I.n=true) (O:Nat.blt 0 I.b=true) (hd:Nat.blt d n=true) (hl:∀ a,(fn a).length=I.n) (hb:(l.length+l2.length)*I.b≤140737488355328)
 (h:WO P C n ops Q rest ⟨(d,.own gen ((l++l2).map fn))::f,bx,gen::bk lv g,gen+1⟩):WO P C n ops Q (⟨some d,.call ⟨.builtin .append,#[x,y],#[t,t]⟩,ty,pos,af,none⟩::rest) ⟨f,bx,lv,gen⟩:=by
 obtain⟨g',U,X⟩:=List.any_eq_true.1 N;have Z:g∈lv:=Nat.eq_of_beq_eq_true X▸U;refine sx T hx hy M ht hk he Z hz O hd (fun z ad=>?_) (by simpa using hb) ?_;·rcases List.mem_append.1 ad with h | h <;> (obtain⟨a',_,rfl⟩:=List.mem_map.1 h;exact hl a')
 ·rw[List.map_append] at h
  exact h
end
end Go.Ab
namespace Go.Ab
open Go.RowKit
def qT (bx:List (Nat×List A)):List Nat→List (Nat×List A)
 | []=>[]
 | g::r=>match ae bx g with
   | some c=>(g,c)::qT bx r
   | none=>qT bx r
section
variable {P:Program} {C:Ctx} {n:Nat} {Q:Exit→St→Prop} {c:Code} {st:St}
variable {f f' fi:List (Nat×A)} {bx bx' bi:List (Nat×List A)} {lv lv':List Nat} {gen gen':Nat}
def QC (C:Ctx) (n:Nat) (S:St) (Q:Exit→St→Prop):Exit→St→Prop
 | .normal,st=>∀ (tmps:Array Value) (w:World),ez C n st tmps w→ez C n S tmps w
 | e,st=>Q e st
theorem W.nI (V:List (Nat×A)) (ts:List Nat) (B:List (Nat×List A)) (bs:List Nat) (lv':List Nat) (gen':Nat) (h:W P C n c (QC C n ⟨V++ck f ts,B++qT bx bs,lv',gen'⟩ Q) ⟨f,bx,lv,gen⟩)
 (I:Q .normal ⟨V++ck f ts,B++qT bx bs,lv',gen'⟩):W P C n c Q ⟨f,bx,lv,gen⟩:=
 fun tmps w hs=>wp_mono (h tmps w hs) fun e act w ⟨hd,st',hs,he⟩=>by
  cases e with
  | normal=>exact⟨hd,_,he _ _ hs,I⟩
  | _=>exact⟨hd,st',hs,he⟩
theorem dN {I:Nat} [hnb:NB C I] (order:List Nat) (N:jb order gen' I=true) (O:lU order f f') (J:lY f fi) (hb:ij order bx bx') (M:jF order bx bi) (hl:pW order lv lv'=true) :
 QC C n ⟨f'++fi,bx'++bi,lv',gen'⟩ Q .normal ⟨f,bx,lv,gen⟩:=fun _ _ h=>ez.bE order N O J hb M hl h
end
end Go.Ab
namespace Go.Tb
open Go.Ab
end Go.Tb
namespace Go.Ab
open Go.RowKit
mutual
def lL:D→D
 | .v x=>bif isNil (.d (.v x)) then .sl [] else .v x
 | .sl es=>.sl (rI es)
def oQ:List D→List D
 | []=>[]
 | x::r=>lL x::oQ r
def rI:List (List D)→List (List D)
 | []=>[]
 | x::r=>oQ x::rI r
end
theorem jP:∀ l,oQ l=l.map lL
 | []=>rfl
 | x::r=>by simp[oQ,jP r]
theorem rH:∀ l,rI l=l.map oQ
 | []=>rfl
 | x::r=>by simp[rI,rH r]
theorem aI.lL {w:World} {pv:Nat→Nat→Prop} {v:Value} {d:D} (h:aI w pv v d):aI w pv v (Ab.lL d):=by
 induction h with
 | v x N=>
   simp only[Ab.lL]
   cases O:isNil (.d (.v x)) with
   | true=>have:=BO O;simp only[A.d.injEq,D.v.injEq] at this;subst this;exact .nil
   | false=>exact .v x N
 | nil=>exact .nil
 | emp a cap hm=>exact .emp a cap hm
 | sl b off len cap sz es u hl U hm hs hu _ X=>
   simp only[Ab.lL,rH];refine .sl b off len cap sz _ u (by simpa using hl) U hm (fun i e he=>?_) hu (fun i j e d he hd=>?_)
   ·rw[List.getElem?_map,Option.map_eq_some_iff] at he
    obtain⟨J,I,rfl⟩:=he;rw[jP,List.length_map];exact hs i J I
   ·rw[List.getElem?_map,Option.map_eq_some_iff] at he
    obtain⟨J,I,rfl⟩:=he;rw[jP,List.getElem?_map,Option.map_eq_some_iff] at hd;obtain⟨d0,M,rfl⟩:=hd;exact X i j J d0 I M
def sn:A→A
 | .d x=>.d (lL x)
 | .ag l=>.ag (oQ l)
 | a=>a
theorem aC.sn {E:En} {v:Value} {a:A} (h:aC E v a):aC E v (Ab.sn a):=by
 cases h with
 | d hd=>exact .d hd.lL
 | ag vs l hs hd=>refine .ag vs _ (by rw[jP];simpa using hs) (fun i u x hu J=>?_);rw[jP,List.getElem?_map,Option.map_eq_some_iff] at J;obtain⟨y,hy,rfl⟩:=J;exact(hd i u y hu hy).lL
 | any=>exact .any _
 | ni t x=>exact .ni t x
 | fl _ es hd X=>exact .fl _ es hd X
 | own _ g es hd I M=>exact .own _ g es hd I M
 | agg vs l hs N hd=>exact .agg vs l hs N hd
 | tup vs l hs hd=>exact .tup vs l hs hd
 | rowd b off l u O hd=>exact .rowd b off l u O hd
 | row b off l u O hd=>exact .row b off l u O hd
 | ptr _ g off b I hb hp=>exact .ptr _ g off b I hb hp
 | xs _ g es I h1 J=>exact .xs _ g es I h1 J
 | xp _ g i off l I h1 J=>exact .xp _ g i off l I h1 J
 | mp _ g es I h1 J=>exact .mp _ g es I h1 J
 | mq _ g es I h1 J=>exact .mq _ g es I h1 J
 | mo _ g es hole ob I h1 J=>exact .mo _ g es hole ob I h1 J
 | bf _ g T s I h1 J=>exact .bf _ g T s I h1 J
 | np _ g T b I hb hT u J=>exact .np _ g T b I hb hT u J
 | sb _ g n c b I hb U J=>exact .sb _ g n c b I hb U J
 | fx _ u g es ou J I hu N=>exact .fx _ u g es ou J I hu N
 | ol _ u g' E' g es J Z ad I hu=>exact .ol _ u g' E' g es J Z ad I hu
 | ow _ v g es hd I M=>exact .ow _ v g es hd I M
 | lk _ g n c b v I hb U J=>exact .lk _ g n c b v I hb U J
 | clo f vs l hs hd=>exact .clo f vs l hs hd
 | bnd f vs l hs hd=>exact .bnd f vs l hs hd
section
variable {P:Program} {C:Ctx} {n:Nat} {ops:Array Oper} {Q:Exit→St→Prop} {rest:List Oper} {c:Code}
variable {f:List (Nat×A)} {bx:List (Nat×List A)} {lv:List Nat} {gen d:Nat} {ty:TypeId} {pos:String} {af:Array Edge} {a:A} {dst:Option Nat}
end
end Go.Ab
namespace Go.Tb
open Go.Ab
section
variable {P:Program} {T:bA P} {l:List D}
variable {ts ti tk tc tcs tv tr trs tt tn te teo tes tit titl ttl tag tagl tso tsol tb top tst tstl tq:Nat}
variable {o1 o2 o3 o4 o5 o6 o7 o8 p1 p2 p3 p4 p5 p6 p7 p8 q1 q2 q3 q4 q5 q6 q7 q8 r1 r2 r3 r4 r5:Nat}
variable {n1 n2 n3 n4 n5 n6 n7 n8 m1 m2 m3 m4 m5 m6 m7 m8 k1 k2 k3 k4 k5 k6 k7 k8 j1 j2 j3 j4 j5:String}
end
end Go.Tb
namespace Go.Ab
open Go.RowKit
section
variable {P:Program} {C:Ctx} {n:Nat}
variable {f:List (Nat×A)} {bx:List (Nat×List A)} {lv:List Nat} {gen:Nat} {ty:TypeId} {pos:String} {af:Array Edge} {dst:Option Nat}
end
end Go.Ab
namespace Go.Ab
open Go.RowKit
def jA (P:Program) [cc P] (w:World):Prop:=∃ W:World,(W.ShapedOpen P∧cc.met P W)∧W.heap.size≤w.heap.size∧∀ b,b < W.heap.size→w.heap[b]? = W.heap[b]?
theorem jA.cell {P:Program} [cc P] {w:World} (h:jA P w) {b:Nat} (J:∀ W:World,W.ShapedOpen P→∃ m,W.cell? ⟨b,0,none⟩=some (.int .i64 m)):∃ m,w.cell? ⟨b,0,none⟩=some (.int .i64 m):=by obtain⟨W,h1,_,h3⟩:=h;obtain⟨m,hm⟩:=J W h1.1;have I:b < W.heap.size:=cE (o:=0) hm;exact⟨m,(br (h3 b I) 0).trans hm⟩
end Go.Ab
namespace Go.Ab
open Go.RowKit
theorem az.AY {P:Program} [cc P] {f:FuncId} {args:List A} {r:A} (ok:iC P f)
 (h:∀ (w:World) (I:Array Value) (E:En),E.w=w→jA P w→I.size=args.length→(∀ (i:Nat) (u:Value) (a:A),I[i]? = some u→args[i]? = some a→aC E u a) →
  Calls P f I w fun e w'=>∃ v,e=.returned v∧Below w.heap.size w w'∧∀ E':En,E'.w=w'→(∀ b o,E'.pv b o→b < w.heap.size)→aC E' v r) :
 az P f args r 0:=by
 refine⟨ok,fun C I w X hw hp N O M=>?_⟩;have hu:jA P w:=by obtain⟨W,h1,h2,h3⟩:=X.h;rw[hw] at h2 h3;exact⟨W,h1,h2,fun b hb=>(h3 b hb).1⟩
 refine(h w I (au C G0 0 w) rfl hu O M).mono fun e w' ⟨v,h1,hb,J⟩=>⟨v,G0,h1,?_,J _ rfl (fun b o U=>N b o ((pq C b o).1 U))⟩;subst hw
 exact { size:=rfl,frame:=fun t a Z=>by simp[look] at Z,box:=fun g cells hc=>by simp[ae] at hc,gbox:=fun g b hb=>by simp[G0] at hb,inj:=fun g g' b hb=>by simp[G0] at hb,
         live:=fun g hg=>by simp at hg,gown:=fun g r J=>by simp[G0] at J,row:=fun g b len cap sz ad J=>by simp[G0] at J,mrow:=fun g b bs J=>by simp[G0] at J,sub:=fun g b bs c lim J=>by simp[G0] at J,gcell:=fun g b hb=>by simp[G0] at hb,xold:=fun b o hb=>⟨N b o hb,hp.1 b⟩,kold:=fun b o hb=>absurd hb (hp.2.1 b o),
         lent:=fun i b hb=>by rw[hp.2.2.1] at hb;simp at hb,fr:=⟨hb.os,hb.tape,hb.output,hb.size,fun b h1 _=>hb.block b h1,fun _ _ _ hb=>absurd hb (hp.2.1 _ _),.below hb⟩ }
theorem CQ {E:En} {xs:List Value} {I:Array Value} (N:I.size=(xs.map fun x=>A.d (.v x)).length)
 (Z:∀ (i:Nat) (u:Value) (a:A),I[i]? = some u→(xs.map fun x=>A.d (.v x))[i]? = some a→aC E u a):I=xs.toArray∧∀ x∈xs,cm x=true:=by
 have O:∀ (i:Nat) (u x:Value),I[i]? = some u→xs[i]? = some x→u=x∧cm x=true:=by intro i u x U J;have:=Z i u (.d (.v x)) U (by simp[J]);cases this with | d hd=>cases hd with | v _ ho=>exact⟨rfl,ho⟩
 have M:I.size=xs.length:=by simpa using N
 refine⟨Array.ext (by simpa using M) (fun i h1 h2=>?_),fun x J=>?_⟩
 ·have X:i < xs.length:=by simpa using h2
  have:=(O i I[i] xs[i] (by simp[h1]) (by simp[X])).1;simpa using this
 ·obtain⟨i,hi,rfl⟩:=List.mem_iff_getElem.1 J
  exact(O i (I[i]'(by omega)) xs[i] (by simp[M,hi]) (by simp[hi])).2
theorem az.tg {P:Program} [cc P] {f:FuncId} {xs:List Value} {r:A} (ok:iC P f)
 (h:∀ (w:World),jA P w→(∀ x∈xs,cm x=true)→Calls P f xs.toArray w fun e w'=>∃ v,e=.returned v∧Below w.heap.size w w'∧∀ E':En,E'.w=w'→(∀ b o,E'.pv b o→b < w.heap.size)→aC E' v r) :
 az P f (xs.map fun x=>.d (.v x)) r 0:=by
 refine az.AY ok fun w J E _ hu I M=>?_;obtain⟨e,N⟩:=CQ I M;rw[e];exact h w hu N
theorem jA.var {P:Program} [cc P] {w:World} (h:jA P w):∃ W:World,cc.met P W∧∀ name cs,W.var? P name=some cs→w.var? P name=some cs:=by
 obtain⟨W,h1,_,h3⟩:=h;refine⟨W,h1.2,fun name cs I=>?_⟩;unfold World.var? at I ⊢
 cases J:P.globalNamed name with
 | none=>rw[J] at I;simp at I
 | some g=>
   rw[J] at I;simp only[Option.bind_some] at I ⊢;rcases Nat.lt_or_ge g W.heap.size with M | N
   ·rw[h3 g M];exact I
   ·rw[Array.getElem?_eq_none N] at I;simp at I
def l8 (P:Program) (W:World):Prop:=
 W.var? P "internal/strconv.uint64pow10" = some (Lib.pow10Tab.map fun z=>Value.int .u64 z).toArray∧(∃ t p,W.var? P "strconv.ErrSyntax" = some #[.iface t p])∧∃ t p,W.var? P "strconv.ErrRange" = some #[.iface t p]
theorem jA.num {P:Program} [cc P] (hm:∀ W,cc.met P W→l8 P W) {w:World} (h:jA P w):l8 P w:=by obtain⟨W,h1,h2⟩:=h.var;obtain⟨h3,⟨t,p,h4⟩,t',I,h5⟩:=hm W h1;exact⟨h2 _ _ h3,⟨t,p,h2 _ _ h4⟩,t',I,h2 _ _ h5⟩
theorem sf {E:En} {x y:Value} {a b:A} (J:aC E x a) (hb:aC E y b):aC E (.tuple #[x,y]) (.tup [a,b]):=
 .tup _ _ rfl (fun i u z hu I=>by
  match i,hu,I with
  | 0,hu,I=>simp only[List.getElem?_toArray,List.getElem?_cons_zero,Option.some.injEq] at hu I;subst hu;subst I;exact J
  | 1,hu,I=>simp only[List.getElem?_toArray,List.getElem?_cons_succ,List.getElem?_cons_zero,Option.some.injEq] at hu I;subst hu;subst I;exact hb
  | i+2,hu,I=>simp at I)
section
variable {P:Program} {C:Ctx} {n:Nat}
variable {f:List (Nat×A)} {bx:List (Nat×List A)} {lv:List Nat} {gen:Nat} {ty:TypeId} {pos:String} {af:Array Edge} {dst:Option Nat}
theorem tP (w:World) {t:TypeId} {ms:Array (String×TypeId)} (hu:P.underlying t=some (.interface ms)):(Op.equal t .nilIface .nilIface).run P w=.ok true w:=by
 have h:∀ d:Nat,(Op.equalIn (d+1) t .nilIface .nilIface).run P w=.ok true w:=fun d=>by simp[Op.equalIn,run_underlying hu]
 exact h 9999
theorem vR (w:World) {t u:TypeId} {v:Value} {ms:Array (String×TypeId)} (hu:P.underlying t=some (.interface ms)):(Op.equal t (.iface u v) .nilIface).run P w=.ok false w:=by
 have h:∀ d:Nat,(Op.equalIn (d+1) t (.iface u v) .nilIface).run P w=.ok false w:=fun d=>by simp[Op.equalIn,run_underlying hu]
 exact h 9999
def jT (P:Program) (t:TypeId):Bool:=match P.underlying t with | some (.interface _)=>true | _=>false
theorem jX {t:TypeId} (h:jT P t=true):∃ ms,P.underlying t=some (.interface ms):=by
 unfold jT at h;split at h;·rename_i ms hu;exact⟨ms,hu⟩
 ·cases h
theorem Fe {t t':Nat} {x:Operand} (M:av f x=some (.d (.v .nilIface))) (hB:jT P t=true) :
 Pu P C n ⟨f,bx,lv,gen⟩ ⟨dst,.binOp .eql t x (.const .nilIface) t',ty,pos,af,none⟩ (.d (.v (.bool true))):=by
 obtain⟨ms,hu⟩:=jX hB;refine dG.pu fun G tmps w hs=>?_;have I:=hs.av M;generalize J:Act.eval ⟨tmps,[]⟩ x=vx at I;cases I with | d I=>cases I with | v _ _=>
 refine⟨.bool true,?_,.d (.v _ rfl)⟩;unfold execOp;show Sem.run P _ w=_;have he:(Act.eval ⟨tmps,[]⟩ (Operand.const Value.nilIface))=Value.nilIface:=rfl;simp only[J,he,eqGuard,binOp];simp[tP w hu];rfl
theorem D9 {t t':Nat} {x:Operand} (M:av f x=some .ni) (hB:jT P t=true) :
 Pu P C n ⟨f,bx,lv,gen⟩ ⟨dst,.binOp .eql t x (.const .nilIface) t',ty,pos,af,none⟩ (.d (.v (.bool false))):=by
 obtain⟨ms,hu⟩:=jX hB;refine dG.pu fun G tmps w hs=>?_;have I:=hs.av M;generalize J:Act.eval ⟨tmps,[]⟩ x=vx at I;cases I with | ni t2 N=>
 refine⟨.bool false,?_,.d (.v _ rfl)⟩;unfold execOp;show Sem.run P _ w=_;have he:(Act.eval ⟨tmps,[]⟩ (Operand.const Value.nilIface))=Value.nilIface:=rfl;simp only[J,he,eqGuard,binOp];simp[vR w hu];rfl
end
end Go.Ab
namespace Go.Ab
open Go
variable {H:Type} {enc:TypeId×Value→H}
theorem kX {a:Assume} {C:Checked} {os:Os} {f:FuncId} {fn:Func} {s:ChangeSpec} {conds:List PathCond} {apart fresh handsOn again:Bool} {X:World→Array Value→Prop}
 (hX:∀ (w w':World) (args:Array Value),w.heap=w'.heap→X w args→X w' args)
 (own:ownKnob C.prog.godebug=none) (started:os.Started) (J:C.prog.inits.idxOf? f=none) (U:C.prog.funcs[f]? = some fn)
 (witness:∃ (w:World) (tape:Tape) (i:Input),w.os=os∧(w.forCall tape i).Shaped C.prog∧i.vars=[]∧Input.okWide C.prog (w.forCall tape i) .any w.heap.size f i ∧
  ((s.pre enc C.prog fn conds apart (w.forCall tape i).memory i.args∧X (w.forCall tape i).memory i.args)∧sizedMet enc C.prog fn (OpenSpec.ofChange s) apart (w.forCall tape i).memory i.args)∧a.holds C.prog (lone (Frame.enter C.prog f i.args .normal) [] (w.forCall tape i)))
 (I:∀ (W:World) (base:Nat) (args:Array Value) (ds gs:List (DataW H)) (before:List MemPlace),
  (∀ (j:Nat) t v,fn.params[j]? = some t→args[j]? = some v→Value.okWide C.prog W .any base t v) →
  DataW.Whole enc C.prog fn.params.toList s.vars apart W args.toList ds gs before →
  W.ShapedOpen C.prog→X W args →
  Calls C.prog f args W fun e W'=>∃ v,e=.returned v∧s.post enc C.prog fn apart fresh handsOn again W args v W') :
 ReturnsInHanded a C os f .any (fun w args=>(s.pre enc C.prog fn conds apart w args∧X w args)∧sizedMet enc C.prog fn (OpenSpec.ofChange s) apart w args) (s.post enc C.prog fn apart fresh handsOn again):=by
 refine returnsInHanded_of_calls own started J witness ?_;intro w tape i _ Z _ hok M ad;obtain⟨_,_,_,ai,N,_,_,_,_,O⟩:=hok;have e:ai=fn:=Option.some.inj (N.symm.trans U);subst e;obtain⟨⟨⟨ds,gs,before,hw,hc⟩,hx⟩,hz⟩:=M;have aj:=DataW.Whole.of_heap (w':=w.forCall tape i) (by rfl) hw;refine(I (w.forCall tape i) w.heap.size i.args ds gs before O aj Z (hX _ _ _ (by rfl) hx)).mono fun e W' ⟨v,he,hp⟩=>?_;subst he;exact ChangeSpec.post_blind hp
theorem uG {C:Checked} {os:Os} {f:FuncId} {fn:Func} {s:ChangeSpec} {conds:List PathCond} {apart:Bool} {laid:List (String×DataW Unit)} (modest:Bool) (args:Array Value) (fuel:Nat)
 (M:((World.laidAll C.prog os laid).forCall (fun _ _=>0) ⟨#[],args,[]⟩).variablesZipB C.prog=true)
 (N:(((World.laidAll C.prog os laid).forCall (fun _ _=>0) ⟨#[],args,[]⟩).heap.toList.drop C.prog.globals.size).take ((begin C.prog (fun _ _=>0) default).world.heap.size - C.prog.globals.size) =
  (begin C.prog (fun _ _=>0) default).world.heap.toList.drop C.prog.globals.size)
 (O:(World.holding C.prog os ⟨#[],#[],[]⟩).layFits C.prog laid []=true)
 (hi:(World.holding C.prog os ⟨#[],#[],[]⟩).layIfaces C.prog laid (World.laidAll C.prog os laid)=true)
 (hok:Input.okWideB C.prog ((World.laidAll C.prog os laid).forCall (fun _ _=>0) ⟨#[],args,[]⟩) f ⟨#[],args,[]⟩=true)
 (I:s.preB enc C.prog fn conds apart ((World.laidAll C.prog os laid).forCall (fun _ _=>0) ⟨#[],args,[]⟩).memory args fuel=true)
 (J:s.sizedB enc C.prog fn apart ((World.laidAll C.prog os laid).forCall (fun _ _=>0) ⟨#[],args,[]⟩).memory args fuel=true) :
 ∃ (w:World) (tape:Tape) (i:Input),w.os=os∧(w.forCall tape i).Shaped C.prog∧i.vars=[]∧Input.okWide C.prog (w.forCall tape i) .any w.heap.size f i ∧
   ((s.pre enc C.prog fn conds apart (w.forCall tape i).memory i.args∧laidMet C.prog laid (w.forCall tape i).memory)∧sizedMet enc C.prog fn (OpenSpec.ofChange s) apart (w.forCall tape i).memory i.args)∧({ modest:=modest }:Assume).holds C.prog (lone (Frame.enter C.prog f i.args .normal) [] (w.forCall tape i)):=
 ⟨World.laidAll C.prog os laid,fun _ _=>0,⟨#[],args,[]⟩,World.laidAll_os _ _ _,World.shaped_of_ZipB M N,(Input.okWide_of_okWideB (base:=0) hok).1,(Input.okWide_of_okWideB hok).2,⟨⟨ChangeSpec.pre_of_preB I,laidMet_laidAll args O hi⟩,sizedMet_of_sizedB J⟩,by simp only[Assume.holds];exact⟨by simp,by simp,fun _=>Modest.zero,by simp,by simp⟩⟩
theorem sY {P:Program} {W:World} {l:List (String×DataW Unit)} (h:laidMet P l W) {n nm:String} {d:DataW Unit} (hm:(n,.iface nm d)∈l) {ti:TypeId}
 (I:((P.globalNamed n).bind fun g=>(P.globals[g]?).map (·.type))=some ti) (hi:jT P ti=true):∃ t p,W.var? P n=some #[.iface t p]:=by
 obtain⟨ms,hi⟩:=jX hi;obtain⟨g,t,cs,fuel,p,h1,h2,h3,h4⟩:=Lib.laidMet.reads h hm;rw[h1] at I;simp only[Option.bind_some] at I;rw[h2] at I;simp only[Option.some.injEq] at I;subst I;obtain⟨f1,u,v,J,_⟩:=iface_of_trod hi h4;refine⟨u,v,h3.trans ?_⟩;rw[show cs=#[.iface u v] from by rw[←Array.toArray_toList (xs:=cs),J]]
theorem CY {P:Program} {W:World} {l:List (String×DataW Unit)} (h:laidMet P l W) {n:String} {k:IntKind} {J:List Int} {d:DataW Unit} (hm:(n,d)∈l) (hd:d=Lib.tabData k J) {t e:TypeId} {m:Nat}
 (I:((P.globalNamed n).bind fun g=>(P.globals[g]?).map (·.type))=some t) (O:P.underlying t=some (.array m e)) (he:P.underlying e=some (.int k)) (M:P.cellsOf e=1) (N:P.cellsOf t=m) :
 W.var? P n=some (J.map fun z=>Value.int k z).toArray:=by
 subst hd;obtain⟨g,t',cs,fuel,p,h1,h2,h3,h4⟩:=Lib.laidMet.reads h hm;rw[h1] at I;simp only[Option.bind_some] at I;rw[h2] at I;simp only[Option.some.injEq] at I;subst I;rw[h3,←Lib.cells_of_tab O he M N h4]
theorem Ai {P:Program} {W:World} {l:List (String×DataW Unit)} (h:laidMet P l W) {d:DataW Unit} (h1:("internal/strconv.uint64pow10",d)∈l) (hd:d=Lib.tabData .u64 Lib.pow10Tab) {t e:TypeId} {m:Nat}
 (O:((P.globalNamed "internal/strconv.uint64pow10").bind fun g=>(P.globals[g]?).map (·.type))=some t) (U:P.underlying t=some (.array m e)) (he:P.underlying e=some (.int .u64)) (I:P.cellsOf e=1) (J:P.cellsOf t=m)
 {nm nm':String} {d1 d2:DataW Unit} (h2:("strconv.ErrSyntax",.iface nm d1)∈l) (h3:("strconv.ErrRange",.iface nm' d2)∈l) {ti:TypeId}
 (M:((P.globalNamed "strconv.ErrSyntax").bind fun g=>(P.globals[g]?).map (·.type))=some ti) (N:((P.globalNamed "strconv.ErrRange").bind fun g=>(P.globals[g]?).map (·.type))=some ti) (hi:jT P ti=true):l8 P W:=
 ⟨CY h h1 hd O U he I J,sY h h2 M hi,sY h h3 N hi⟩
end Go.Ab
namespace Go.Tb
open Go.Ab
theorem Cj {P:Program} {C:Ctx} {n:Nat} {st:St} {o:Oper} {x y:ByteArray} (h:Pu P C n st o (.d (.v (.string x)))) (e:x=y):Pu P C n st o (.d (.v (.string y))):=e▸h
def dR (u:Nat):List UInt8:=Lib.decDigits u
theorem gT {u:Nat} (h:u < 10):dR u=[UInt8.ofNat (48+u)]:=by unfold dR;rw[Lib.decDigits,dif_pos h]
theorem kK {u:Nat} (h:¬ u < 10):dR u=dR (u / 10)++[UInt8.ofNat (48+u % 10)]:=by unfold dR;rw[Lib.decDigits,dif_neg h]
theorem nt {p:Nat→Prop} (h1:∀ u,u < 10→p u) (h2:∀ u,¬ u < 10→p (u / 10)→p u):∀ u,p u:=by
 intro u
 induction u using Nat.strongRecOn with
 | _ u I=>
   by_cases h:u < 10;·exact h1 u h
   ·exact h2 u h (I _ (by omega))
theorem pc {d:Nat} (h:d < 10):(UInt8.ofNat (48+d)).toNat=48+d:=by rw[UInt8.toNat_ofNat'];omega
def cW (b:UInt8):Bool:=decide (48≤b.toNat) && decide (b.toNat≤57)
theorem kE:∀ u,∀ b∈dR u,cW b=true:=by
 refine nt (fun u h b hb=>?_) (fun u h I b hb=>?_)
 ·rw[gT h] at hb
  simp only[List.mem_singleton] at hb;subst hb;simp only[cW,pc h,Bool.and_eq_true,decide_eq_true_eq];omega
 ·rw[kK h] at hb
  rcases List.mem_append.1 hb with hb | hb
  ·exact I b hb
  ·simp only[List.mem_singleton] at hb
   subst hb;simp only[cW,pc (Nat.mod_lt u (show 0 < 10 by decide)),Bool.and_eq_true,decide_eq_true_eq];omega
theorem gP (u:Nat):dR u≠[]:=by
 by_cases h:u < 10;·rw[gT h];simp
 ·rw[kK h];simp
theorem nu:∀ u k,u < 10 ^ (k+1)→(dR u).length≤k+1:=by
 refine nt (fun u h k _=>?_) (fun u h J k I=>?_);·rw[gT h];simp
 ·rw[kK h]
  simp only[List.length_append,List.length_singleton]
  match k,I with
  | 0,I=>simp at I;omega
  | k+1,I=>have:=J k (by rw[Nat.pow_succ] at I;omega);omega
def cT (n:Int):ByteArray:=⟨(Lib.itoa n).toArray⟩
theorem iy {n:Int} (h:n < 0):Lib.itoa n=45::dR n.natAbs:=by unfold Lib.itoa dR;rw[if_pos h]
theorem iD {n:Int} (h:0≤n):Lib.itoa n=dR n.toNat:=by unfold Lib.itoa dR;rw[if_neg (by omega)]
theorem jS (n:Int):(cT n).data.toList=Lib.itoa n:=rfl
theorem AJ {n:Int} (h:n.natAbs < 10 ^ 16):(Lib.itoa n).length≤17:=by
 rcases Int.lt_or_le n 0 with I | I
 ·rw[iy I,List.length_cons]
  have:=nu n.natAbs 15 h;omega
 ·rw[iD I]
  have:=nu n.toNat 15 (by omega);omega
/-! what strconv.Atoi says of a numeral -/
theorem vX:∀ (u:Nat),u < 18446744073709551616→∀ (l:List UInt8),Lib.parseUint10 0 (dR u++l)=Lib.parseUint10 u l:=by
 refine nt (fun u h hu l=>?_) (fun u h I hu l=>?_)
 ·rw[gT h]
  have h1:=pc h;simp only[List.singleton_append,Lib.parseUint10,h1];rw[if_pos (by omega),if_neg (by omega),if_neg (by omega)];congr 1;omega
 ·rw[kK h,List.append_assoc,I (by omega)]
  have h1:=pc (Nat.mod_lt u (show 0 < 10 by decide));simp only[List.singleton_append,Lib.parseUint10,h1];rw[if_pos (by omega),if_neg (by omega),if_neg (by omega)];congr 1;omega
theorem lh {u:Nat} (h:u < 18446744073709551616):Lib.parseMag (dR u)=.ok u:=by unfold Lib.parseMag;rw[if_neg (gP u)];have:=vX u h [];rw[List.append_nil] at this;exact this
theorem zA {n:Int} (h0:-9223372036854775808≤n) (h1:n≤9223372036854775807):Lib.atoiAll (Lib.itoa n)=.ok n:=by
 rcases Int.lt_or_le n 0 with I | I
 ·rw[iy I,Lib.atoiAll_minus,lh (by omega)]
  simp only[Lib.signed];rw[if_neg (by omega)];congr 1;omega
 ·rw[iD I]
  obtain⟨c,r,M⟩:∃ c r,dR n.toNat=c::r:=by
   cases hd:dR n.toNat with
   | nil=>exact absurd hd (gP _)
   | cons c r=>exact⟨c,r,rfl⟩
  have J:=kE n.toNat c (by rw[M];simp);simp only[cW,Bool.and_eq_true,decide_eq_true_eq] at J;have hm:=lh (u:=n.toNat) (by omega);rw[M] at hm ⊢;rw[Lib.atoiAll_plain c r (by omega) (by omega),hm];simp only[Lib.signless];rw[if_neg (by omega)];congr 1;omega
def fE (s:ByteArray):Int×Bool:=
 match Lib.atoiAll s.data.toList with
 | .ok v=>if cY v=true∧cT v=s then (v,true) else (0,false)
 | _=>(0,false)
theorem ve {n:Int} (h:cY n=true):fE (cT n)=(n,true):=by have I:=h;simp only[cY,Bool.and_eq_true,decide_eq_true_eq] at I;unfold fE;rw[jS,zA (by omega) (by omega)];simp only[h,true_and,if_true]
theorem zh {s:ByteArray} {v:Int} (h:fE s=(v,true)):cY v=true∧s=cT v:=by
 unfold fE at h;split at h
 ·split at h
  ·rename_i I
   simp only[Prod.mk.injEq,and_true] at h;subst h;exact⟨I.1,I.2.symm⟩
  ·simp at h
 ·simp at h
end Go.Tb
namespace Go.Tb
open Go.Ab
end Go.Tb
namespace Go.Tb
open Go.Ab
structure Ev where
 time:Int
 kind:Int
 name:ByteArray
 n:Int
 m:Int
 stack:List ByteArray
@[reducible] def y8 (l:List ByteArray):List (List D):=l.map sc
@[reducible] def Ev.c (e:Ev):List D:=[ci e.time,ci e.kind,cs e.name,ci e.n,ci e.m,.sl (y8 e.stack)]
structure tx where
 word:ByteArray
 name:Bool
 n:Bool
 m:Bool
 stack:Bool
 least:Int
 most:Int
 mLeast:Int
 mMost:Int
@[reducible] def tx.c (f:tx):List D:=[cs f.word,.v (.bool f.name),.v (.bool f.n),.v (.bool f.m),.v (.bool f.stack),ci f.least,ci f.most,ci f.mLeast,ci f.mMost]
def yt:tx:=⟨B #[],false,false,false,false,0,0,0,0⟩
def wc:List tx:=[yt,
 ⟨B #[98,101,103,105,110],true,false,false,false,0,0,0,0⟩,
 ⟨B #[101,110,100],false,false,false,false,0,0,0,0⟩,
 ⟨B #[109,97,114,107],true,false,false,false,0,0,0,0⟩,
 ⟨B #[99,111,117,110,116],true,true,false,false,-1000000000000000,1000000000000000,0,0⟩,
 ⟨B #[115,97,109,112,108,101],false,true,false,true,1,1000000000000,0,0⟩,
 ⟨B #[115,101,110,100],false,true,false,false,0,1000000000000000,0,0⟩,
 ⟨B #[114,101,99,118],false,true,false,false,0,1000000000000000,0,0⟩,
 ⟨B #[114,117,110],false,true,false,false,0,63,0,0⟩,
 ⟨B #[115,116,111,112],false,true,true,false,0,3,0,1000000000000000⟩,
 ⟨B #[119,97,107,101],false,true,false,false,0,1000000000000000,0,0⟩,
 ⟨B #[97,108,108,111,99],false,true,true,true,0,1000000000000000,1,1000000000000⟩,
 ⟨B #[102,114,101,101],false,true,false,false,0,1000000000000000,0,0⟩]
def bL (k:Int):tx:=if k < 1∨13≤k then yt else wc.getD k.toNat yt
def mM (k:Int):Bool:=decide (1≤k) && decide (k < 13)
def fv (l:List ByteArray):Int:=if 32 < l.length then 7 else if l.any (fun s=>decide (cd s≠0)) then 3 else 0
def kz (f:tx) (e:Ev):Int:=if f.name then cd e.name else fv e.stack
def cn (e:Ev):Int:=
 if e.time < 0∨1000000000000 < e.time then 2
 else if mM e.kind=false∨((bL e.kind).name=false∧e.name≠B #[])∨((bL e.kind).n=false∧e.n≠0)∨((bL e.kind).m=false∧e.m≠0)∨((bL e.kind).stack=false∧0 < e.stack.length) then 1
 else if kz (bL e.kind) e≠0 then kz (bL e.kind) e
 else if (bL e.kind).n=true∧(e.n < (bL e.kind).least∨(bL e.kind).most < e.n) then 2
 else if e.kind=9∧e.n≠2∧e.m≠0 then 1
 else if (bL e.kind).m=true∧(e.m < (bL e.kind).mLeast∨(bL e.kind).mMost < e.m)∧(e.kind≠9∨e.n=2) then 2
 else 0
/-! the reference's way -/
theorem kinds {k:Int} (h1:1≤k) (h2:k < 13):k=1∨k=2∨k=3∨k=4∨k=5∨k=6∨k=7∨k=8∨k=9∨k=10∨k=11∨k=12:=by omega
end Go.Tb
namespace Go.Tb
open Go.Ab
section
variable {P:Program} {T:bA P} {l:List D}
theorem Bx {t a b c d e g:Nat} {J M N O U og:Nat} {X Z nc nd ne ng:String} (h:cz T t l) (hk:cA T t=.st [(J,a,X),(M,b,Z),(N,c,nc),(O,d,nd),(U,e,ne),(og,g,ng)]) :
 ∃ p q r s u v,l=p++(q++(r++(s++(u++v))))∧cz T a p∧cz T b q∧cz T c r∧cz T d s∧cz T e u∧cz T g v:=by
 obtain⟨ps,rfl,hl,I⟩:=h.EA hk
 match ps,hl with
 | [p,q,r,s,u,v],_=>exact⟨p,q,r,s,u,v,by simp,I 0 _ _ _ p rfl rfl,I 1 _ _ _ q rfl rfl,I 2 _ _ _ r rfl rfl,I 3 _ _ _ s rfl rfl,I 4 _ _ _ u rfl rfl,I 5 _ _ _ v rfl rfl⟩
variable {te ti tk ts tsl o1 o2 o3 o4 o5 o6:Nat} {n1 n2 n3 n4 n5 n6:String}
theorem yD (h:cz T te l) (he:cA T te=.st [(o1,ti,n1),(o2,tk,n2),(o3,ts,n3),(o4,ti,n4),(o5,ti,n5),(o6,tsl,n6)]) (hi:cA T ti=.int .i64) (I:cA T tk=.int .i64) (hs:cA T ts=.str) (hl:cA T tsl=.slice ts):∃ x:Ev,l=x.c:=by obtain⟨p,q,r,s,u,v,rfl,h1,h2,h3,h4,h5,J⟩:=Bx h he;obtain⟨a,rfl⟩:=jh h1 hi;obtain⟨b,rfl⟩:=jh h2 I;obtain⟨c,rfl⟩:=qp h3 hs;obtain⟨d,rfl⟩:=jh h4 hi;obtain⟨e,rfl⟩:=jh h5 hi;obtain⟨f,rfl⟩:=xg (f:=sc) J hl (fun x M=>qp M hs);exact⟨⟨a,b,c,d,e,f⟩,rfl⟩
end
end Go.Tb
namespace Go.Ab
open Go.RowKit
theorem qO (cur:Array Value) (c:List Value) (p i:Nat) (h:p+c.length≤cur.size) :
 (cur.toList.take p++c++cur.toList.drop (p+c.length)).toArray[i]? = if p≤i∧i < p+c.length then c[i - p]? else cur[i]?:=by
 have J:(cur.toList.take p).length=p:=by simp;omega
 rw[List.getElem?_toArray];rcases Nat.lt_or_ge i p with hi | hi
 ·rw[if_neg (by omega),List.append_assoc,List.getElem?_append_left (by omega),List.getElem?_take,if_pos hi];simp
 ·rcases Nat.lt_or_ge i (p+c.length) with I | I
  ·rw[if_pos ⟨hi,I⟩,List.append_assoc,List.getElem?_append_right (by omega),List.getElem?_append_left (by omega),J]
  ·rw[if_neg (by omega),List.append_assoc,List.getElem?_append_right (by omega),List.getElem?_append_right (by omega),List.getElem?_drop,J]
   have:p+c.length+(i - p - c.length)=i:=by omega
   rw[this];simp
theorem wK (cur:Array Value) (c:List Value) (p:Nat) (h:p+c.length≤cur.size):(cur.toList.take p++c++cur.toList.drop (p+c.length)).toArray.size=cur.size:=by simp;omega
def lQ (e:List D) (off:Nat) (cs:List D):List D:=e.take off++cs++e.drop (off+cs.length)
theorem Bs {e cs:List D} {off:Nat} (h:off+cs.length≤e.length):(lQ e off cs).length=e.length:=by simp[lQ];omega
theorem Bh {e cs:List D} {off i:Nat} (h:off+cs.length≤e.length):(lQ e off cs)[i]? = if off≤i∧i < off+cs.length then cs[i - off]? else e[i]?:=by
 have J:(e.take off).length=off:=by simp;omega
 unfold lQ;rcases Nat.lt_or_ge i off with hi | hi
 ·rw[if_neg (by omega),List.append_assoc,List.getElem?_append_left (by omega),List.getElem?_take,if_pos hi]
 ·rcases Nat.lt_or_ge i (off+cs.length) with I | I
  ·rw[if_pos ⟨hi,I⟩,List.append_assoc,List.getElem?_append_right (by omega),List.getElem?_append_left (by omega),J]
  ·rw[if_neg (by omega),List.append_assoc,List.getElem?_append_right (by omega),List.getElem?_append_right (by omega),List.getElem?_drop,J]
   have:off+cs.length+(i - off - cs.length)=i:=by omega
   rw[this]
theorem gM {tmps:Array Value} {d:Nat} {v:Value} (h:tmps[d]? = some v):tmps.setIfInBounds d v=tmps:=by
 apply Array.ext_getElem?;intro i;rw[Array.getElem?_setIfInBounds];split
 ·rename_i e
  subst e;split;·exact h.symm
  ·rename_i I;exact absurd (Array.getElem?_eq_some_iff.1 h).1 I
 ·rfl
section
variable {C:Ctx} {n:Nat} {st:St} {G:Gh} {tmps:Array Value} {w:World}
theorem fh.len (hs:ao C n st G tmps w) {g:Nat} {r:Row} (J:G.own g=some r) {pv:Nat→Nat→Prop} {v:Value} {es:List (List D)} (h:fh w pv r v es) :
 ∃ a cap,v=.slice a es.length cap∧es.length≤cap∧es.length≤maxLen:=by
 cases r with
 | nil=>obtain⟨rfl,rfl⟩:=h;exact⟨none,0,rfl,Nat.le_refl _,by simp⟩
 | zero b=>obtain⟨rfl,rfl⟩:=h;exact⟨_,0,rfl,Nat.le_refl _,by simp⟩
 | mp b bs=>exact h.elim
 | blk b len cap sz I=>obtain⟨rfl,h2,_⟩:=h;obtain⟨_,_,_,_,_,_,_,h3,h4,_⟩:=hs.row g b len cap sz I J;exact⟨_,cap,by rw[h2],by omega,by omega⟩
theorem ao.Df (h:ao C n st G tmps w) {g:Nat} {r:Row} (hg:G.own g=some r) {es:List (List D)} {v:Value} (hx:fh w (aS C G) r v es) (lv:List Nat) (ch:∀ M∈lv,M∈st.lv∧M≠g) :
 j8 false C n st G tmps lv es v w w:=by
 cases r with
 | mp b bs=>exact hx.elim
 | nil=>obtain⟨rfl,rfl⟩:=hx;exact h.lx (m:=false) hg ⟨.nil,0,by simp,rfl,rfl⟩ lv ch
 | zero b=>obtain⟨rfl,rfl⟩:=hx;exact h.lx (m:=false) hg ⟨.emp _ 0 (by simp),0,by simp,0,rfl⟩ lv ch
 | blk b len cap sz ed=>
   obtain⟨rfl,hlen,rfl,hl,hr⟩:=hx;obtain⟨ad,cq,ai,cur,T,a8,df,cx,cy,hz,c6,_,hone⟩:=h.row g b len cap sz 0 hg;let I:Nat→Option Row:=fun M=>if M=st.gen then some (.blk b len cap sz (len*sz)) else if M=g then none else G.own M;have ei:=h.gown g _ hg;have di:∀ N o,aS C ⟨G.box,I⟩ N o→aS C G N o:=by
    rintro N o (hp | hp | ⟨M,O,U,Z,X,hp,b0⟩ | ⟨M,b2,bs,lim,hp,hm,b0⟩);·exact .inl hp
    ·exact .inr (.inl hp)
    ·simp only[I] at hp
     split at hp
     ·simp only[Option.some.injEq,Row.blk.injEq] at hp
      obtain⟨rfl,rfl,rfl,rfl,rfl⟩:=hp;exact .inr (.inr (.inl ⟨g,len,cap,sz,0,hg,Nat.zero_le _⟩))
     ·split at hp
      ·cases hp
      ·exact .inr (.inr (.inl ⟨M,O,U,Z,X,hp,b0⟩))
    ·simp only[I] at hp
     split at hp;·cases hp
     ·split at hp
      ·cases hp
      ·exact .inr (.inr (.inr ⟨M,b2,bs,lim,hp,hm,b0⟩))
   have hle:(au C G st.gen w).le (au C ⟨G.box,I⟩ (st.gen+1) w):=ju h.fr h.fr (fun b o u hu hn=>⟨hu,fun hp=>hn (di b o hp)⟩) (fun _ _ h=>h)
    (fun M r' a7 J=>by
     simp only[I,if_neg (Nat.ne_of_lt a7)] at J;split at J;·cases J
     ·exact J) (Nat.le_succ _) (fun _ _ _ _ _ _ _ _=>rfl) (fun _ _ _ _ _=>⟨rfl,fun _ _=>rfl⟩) (.refl w)
   refine⟨⟨⟨G.box,I⟩,rfl,{ size:=h.size,frame:=h.du hle,inj:=h.inj,xold:=h.xold,kold:=h.kold,lent:=h.lent,fr:=h.fr,gcell:=h.gcell,box:=?_,gbox:=?_,live:=?_,gown:=?_,row:=?_,mrow:=?_,sub:=?_ },?_⟩⟩
   ·intro M cells hc
    obtain⟨b,cs,T,h1,h2,h3,h4,h5⟩:=h.box M cells hc;exact⟨b,cs,T,h1,h2,h3,h4,fun i u a hu ha=>(h5 i u a hu ha).mono hle⟩
   ·intro M b hb
    obtain⟨h1,h2⟩:=h.gbox M b hb;exact⟨Nat.lt_succ_of_lt h1,h2⟩
   ·intro M a7
    rcases List.mem_cons.1 a7 with rfl | a7
    ·exact⟨_,by simp[I];rfl⟩
    ·obtain⟨h1,h2⟩:=ch M a7
     obtain⟨r',J⟩:=h.live M h1;exact⟨r',by simp only[I,if_neg (Nat.ne_of_lt (h.gown M r' J)),if_neg h2];exact J⟩
   ·intro M r' J
    simp only[I] at J;split at J;·simp only;omega
    ·split at J
     ·cases J
     ·exact Nat.lt_succ_of_lt (h.gown M r' J)
   ·intro M N O U Z X J
    simp only[I] at J;split at J
    ·rename_i e
     simp only[Option.some.injEq,Row.blk.injEq] at J;obtain⟨rfl,rfl,rfl,rfl,rfl⟩:=J;refine⟨⟨ad.1,fun o ho=>absurd (ad.2 o ho) (Nat.not_lt_zero _)⟩,cq,fun g2 aj a1 b3 a6 h2=>?_,cur,T,a8,df,cx,cy,hz,c6,Nat.le_refl _,hone⟩;simp only[I] at h2;split at h2;·omega
     ·split at h2
      ·cases h2
      ·rename_i e1 e2;exact absurd (ai g2 aj a1 b3 a6 h2) e2
    ·split at J
     ·cases J
     ·rename_i e1 e2
      obtain⟨h4,h5,h6,h7⟩:=h.row M N O U Z X J;have cj:N≠b:=fun e=>by subst e;exact e2 (ai M O U Z X J)
      refine⟨h4,h5,fun g2 aj a1 b3 a6 h2=>?_,h7⟩;simp only[I] at h2;split at h2;·simp only[Option.some.injEq,Row.blk.injEq] at h2;exact absurd h2.1.symm cj
      ·split at h2
       ·cases h2
       ·exact h6 g2 aj a1 b3 a6 h2
   ·intro M N bs J
    have un:∀ g2 N bs,I g2=some (.mp N bs)→G.own g2=some (.mp N bs):=by
     intro g2 N bs h2;simp only[I] at h2;split at h2;·cases h2
     ·split at h2
      ·cases h2
      ·exact h2
    obtain⟨h4,dj,h5,h6⟩:=h.mrow M N bs (un _ _ _ J);exact⟨h4,dj,fun g2 cl h2=>h5 g2 cl (un _ _ _ h2),h6⟩
   ·intro M N bs c lim J hm
    have un:∀ g2 N bs,I g2=some (.mp N bs)→G.own g2=some (.mp N bs):=by
     intro g2 N bs h2;simp only[I] at h2;split at h2;·cases h2
     ·split at h2
      ·cases h2
      ·exact h2
    obtain⟨h4,h5,h6,h7,h8⟩:=h.sub M N bs c lim (un _ _ _ J) hm;have cj:c≠b:=fun e=>h6 g _ _ _ _ (by rw[e];exact hg);refine⟨h4,h5,fun g2 aj a1 b3 a6 h2=>?_,fun g2 b2 cl c7 h2 dt=>h7 g2 b2 cl c7 (un _ _ _ h2) dt,h8⟩;simp only[I] at h2;split at h2;·simp only[Option.some.injEq,Row.blk.injEq] at h2;exact cj h2.1.symm
    ·split at h2
     ·cases h2
     ·exact h6 g2 _ _ _ _ h2
   ·subst hlen
    refine .own _ _ es (aI.ofRow a8 cx cy hl (fun t ht hp=>?_) (fun i j e d hi hj=>?_)) (by simp[au]) (fun r' J=>?_)
    ·rcases(hp:aS C ⟨G.box,I⟩ b t) with hp | ⟨M,hp⟩ | ⟨M,O,U,Z,X,hp,b0⟩ | ⟨M,N,bs,lim,hp,dx,_⟩
     rotate_right
     ·simp only[I] at hp
      split at hp;·cases hp
      ·split at hp
       ·cases hp
       ·exact(h.sub M N bs b lim hp dx).2.2.1 g _ _ _ _ hg
     ·have:=h.xold _ _ hp;rcases ad.1 with hm | hm
      ·omega
      ·exact this.2 hm
     ·exact cq M hp
     ·simp only[I] at hp
      split at hp
      ·simp only[Option.some.injEq,Row.blk.injEq] at hp
       obtain⟨_,rfl,rfl,rfl,rfl⟩:=hp;omega
      ·split at hp
       ·cases hp
       ·rename_i e1 e2;exact e2 (ai M O U Z X hp)
    ·obtain⟨u,h1,h2⟩:=hr i j e d hi hj
     rw[bC a8] at h1;exact⟨u,h1,h2.mono hle.cell⟩
    ·have c1:I st.gen=some r':=J
     simp only[I,if_true,Option.some.injEq] at c1;subst c1;exact⟨sz,hl,rfl,rfl,rfl,rfl⟩
theorem ao.FX (h:ao C n st G tmps w) {g b len cap sz:Nat} (hg:G.own g=some (.blk b len cap sz 0)) {es:List (List D)} {v:Value} (X:fh w (aS C G) (.blk b len cap sz 0) v es) {j off:Nat} {e cs:List D} (he:es[j]? = some e)
 {I:Array Value} (hc:cv (au C G st.gen w) I (cs.map .d)) (hle:off+cs.length≤e.length) (lv:List Nat) (ai:∀ g'∈lv,g'∈st.lv∧g'≠g) :
 ∃ cur T,w.heap[b]? = some (.cells cur T (0,0))∧(j*sz+off)+I.toList.length≤cur.size ∧
   j8 true C n st G tmps lv (es.set j (lQ e off cs)) v w (w.setRow b (cur.toList.take (j*sz+off)++I.toList++cur.toList.drop ((j*sz+off)+I.toList.length)).toArray):=by
 obtain⟨rfl,hlen,_,hl,hr⟩:=X;obtain⟨a7,b2,a8,cur,T,N,aj,b3,ch,hz,b0,_,hone⟩:=h.row g b len cap sz 0 hg;have hj:j < len:=by rw[←hlen];exact(List.getElem?_eq_some_iff.1 he).1
 have a1:e.length=sz:=hl e (List.mem_of_getElem? he);have O:I.toList.length=cs.length:=by have:=hc.1;simpa using this
 have J:(j*sz+off)+I.toList.length≤cur.size:=by rw[O,aj];have h1:(j+1)*sz≤cap*sz:=Nat.mul_le_mul_right _ (by omega);rw[Nat.succ_mul] at h1;omega
 refine⟨cur,T,N,J,?_⟩;have ad:(es.set j (lQ e off cs)).length=len:=by rw[List.length_set];exact hlen
 have:=h.oS true (g:=g) (b:=b) (len:=len) (cap:=cap) (sz:=sz) (es:=es.set j (lQ e off cs)) (by simpa [fe] using hg) N (wK cur I.toList _ J) (jC hone fun u hu=>by obtain⟨i,hi⟩:=List.mem_iff_getElem?.1 hu;exact hc.2.1 i u (by simpa using hi)) (fun t ht=>by simp[fe] at ht) (by omega) (by omega) (fun x X=>?_) (fun i k x d hi M=>?_) lv ai
 ·rw[ad] at this
  exact this
 ·rcases List.mem_or_eq_of_mem_set X with X | rfl
  ·exact hl x X
  ·rw[Bs hle];exact a1
 ·rw[List.getElem?_set] at hi
  have U:∀ i k u,cellAt w b (i*sz+k)=some u→cur[i*sz+k]? = some u:=fun i k u hu=>by rw[bC N] at hu;exact hu
  by_cases hij:j=i
  ·subst hij
   rw[if_pos rfl,if_pos (by omega)] at hi;simp only[Option.some.injEq] at hi;subst hi;rw[Bh hle] at M;rw[qO cur I.toList _ _ J,O];by_cases hin:off≤k∧k < off+cs.length
   ·rw[if_pos hin] at M
    rw[if_pos (by omega)];have e1:j*sz+k - (j*sz+off)=k - off:=by omega
    rw[e1];have Z:k - off < I.size:=by have:=(List.getElem?_eq_some_iff.1 M).1;simp at O;omega
    have hu:I[k - off]? = some I[k - off]:=by simp[Z]
    have h3:=hc.2.2 (k - off) _ (.d d) hu (by rw[List.getElem?_map,M];rfl);revert h3 hu;generalize I[k - off]=u;intro hu h3
    cases h3 with
    | d h3=>exact⟨_,by rw[Array.getElem?_toList];exact hu,h3⟩
   ·rw[if_neg hin] at M
    rw[if_neg (by omega)];obtain⟨u,h1,h2⟩:=hr j k e d he M;exact⟨u,U j k u h1,h2⟩
  ·rw[if_neg hij] at hi
   obtain⟨u,h1,h2⟩:=hr i k x d hi M;have cj:i < len:=by rw[←hlen];exact(List.getElem?_eq_some_iff.1 hi).1
   have cl:k < sz:=by rw[←hl x (List.mem_of_getElem? hi)];exact(List.getElem?_eq_some_iff.1 M).1
   rw[qO cur I.toList _ _ J,O,if_neg];·exact⟨u,U i k u h1,h2⟩
   ·rintro⟨h3,h4⟩
    rcases Nat.lt_or_gt_of_ne hij with Z | a6
    ·have:(j+1)*sz≤i*sz:=Nat.mul_le_mul_right _ Z
     rw[Nat.succ_mul] at this;omega
    ·have:(i+1)*sz≤j*sz:=Nat.mul_le_mul_right _ a6
     rw[Nat.succ_mul] at this;omega
end
section
variable {P:Program} (T:bA P) {C:Ctx} {n:Nat} {tmps:Array Value} {w:World} {G:Gh} {ops:Array Oper} {Q:Exit→St→Prop} {st:St} {o:Oper} {rest:List Oper}
theorem WO.C1 (hg:o.guard=none) (hd:eM n o.dst=true) {x y:Operand} {t e:Nat} {U I:bH} (ho:o.op=.call ⟨.builtin .append,#[x,y],#[t,t]⟩) (ht:ae T.l t=some U) (hk:U.k=.slice e) (he:ae T.l e=some I)
 {g:Nat} {es es2:List (List D)} (hx:av st.f x=some (.xs g es)) (X:g∈st.lv) {b:A} (hy:av st.f y=some b) (Z:gm b=some es2) (hz:Nat.blt 0 I.n=true) (ad:Nat.blt 0 I.b=true)
 (hl:∀ (x:List D),x∈es++es2→x.length=I.n) (hb:(es.length+es2.length)*I.b≤140737488355328)
 (h:WO P C n ops Q rest (St.put { st with lv:=st.gen::bk st.lv g,gen:=st.gen+1 } o.dst (.xs st.gen (es++es2)))):WO P C n ops Q (o::rest) st:=by
 refine WO.step hg fun tmps w ⟨G,hs⟩=>?_;have hr:=hs.av hx;have ai:=fZ Z (hs.av hy);obtain⟨r,J⟩:=hs.live g X;generalize hv:Act.eval ⟨tmps,[]⟩ x=v at hr
 cases hr with
 | xs _ _ _ a6 h1 O=>
 have N:=O r J;obtain⟨a,cap,h2,h3,_⟩:=fh.len hs J N;obtain⟨v',w',M,⟨G',_,aj,a1⟩⟩:=lM T true hs ht hk he ⟨a,cap,h2,h3⟩ ai (.own g r J ⟨h1,N⟩) hl (Nat.le_of_ble_eq_true hz) (Nat.le_of_ble_eq_true ad) hb o.type;rw[←hv] at M;exact bT (jD ho M) ⟨_,⟨G',aj.put (bQ hd) a1⟩,h⟩
theorem W.Fl {c:Code} {d:Nat} (hl:look st.f d=some (.d (.v (.slice none 0 0)))) (hd:Nat.blt d n=true) (h:W P C n c Q (St.set { st with lv:=st.gen::st.lv,gen:=st.gen+1 } d (.xs st.gen []))):W P C n c Q st:=by
 intro tmps w ⟨G,hs⟩;obtain⟨v,N,I⟩:=hs.frame _ _ hl;cases I with | d I=>cases I with | v _ _=>
 obtain⟨⟨O,_,J,M⟩⟩:=hs.l3 true st.lv (fun _ h=>h);refine h tmps w ⟨O,?_⟩;have:=J.set (d:=d) (Nat.le_of_ble_eq_true hd) M;rwa [gM N] at this
theorem W.freeze {c:Code} {d g:Nat} {es:List (List D)} (hl:look st.f d=some (.xs g es)) (M:g∈st.lv) (hd:Nat.blt d n=true)
 (h:W P C n c Q (St.set { st with lv:=st.gen::bk st.lv g,gen:=st.gen+1 } d (.own st.gen es))):W P C n c Q st:=by
 intro tmps w ⟨G,hs⟩;obtain⟨v,X,Z⟩:=hs.frame _ _ hl;obtain⟨r,I⟩:=hs.live g M
 cases Z with
 | xs _ _ _ ad h1 J=>
 obtain⟨⟨G',_,N,O⟩⟩:=hs.Df I (J r I) (bk st.lv g) (fun g' U=>cK U);refine h tmps w ⟨G',?_⟩;have:=N.set (d:=d) (Nat.le_of_ble_eq_true hd) O;rwa [gM X] at this
theorem Pu.BY {x:Operand} {t e:Nat} {M:bH} (U:o.op=.call ⟨.builtin .len,#[x],#[t]⟩) (X:ae T.l t=some M) (Z:M.k=.slice e) {g:Nat} {es:List (List D)} (hx:av st.f x=some (.xs g es)) (N:g∈st.lv) :
 Pu P C n st o (.d (.v (.int .i64 es.length))):=by
 refine dG.pu fun G tmps w hs=>?_;have O:=hs.av hx;obtain⟨r,I⟩:=hs.live g N;generalize hv:Act.eval ⟨tmps,[]⟩ x=v at O
 cases O with
 | xs _ _ _ ad h1 J=>
 obtain⟨a,cap,h2,_,hlen⟩:=fh.len hs I (J r I);refine⟨.int .i64 es.length,?_,.d (.v _ ?_)⟩
 ·unfold execOp
  rw[U];show Sem.run P (do let d ←resolve (Act.eval ⟨tmps,[]⟩) ⟨.builtin .len,#[x],#[t]⟩ o.type;invoke d.target d.args) w=_;simp only[resolve,List.map_toArray,List.map_cons,List.map_nil,hv,h2,Sem.run_bind,Sem.run_pure,Result.andThen_ok,invoke,builtin,Builtin.len_];simp[run_underlying (T.fu X Z),goInt];rfl
 ·simp only[maxLen] at hlen
  simp[cm,IntKind.min,IntKind.max,IntKind.signed,IntKind.bits];omega
theorem Pu.vH {t e:Nat} {x X:Operand} (ho:o.op=.indexAddr t x X) {td N:bH} (ht:ae T.l t=some td) (hk:td.k=.slice e) (he:ae T.l e=some N) {g:Nat} {es:List (List D)} (hx:av st.f x=some (.xs g es)) (ad:g∈st.lv)
 {k:IntKind} {i:Int} (hi:av st.f X=some (.d (.v (.int k i)))) (h0:0≤i) {l:List D} (hl:es[i.toNat]? = some l) (hlen:l.length=N.n):Pu P C n st o (.xp g i.toNat 0 l):=by
 refine dG.pu fun G tmps w hs=>?_;have hu:=T.fu ht hk;have O:=hs.av hx;have I:=hs.av hi;obtain⟨r,U⟩:=hs.live g ad;generalize ai:Act.eval ⟨tmps,[]⟩ X=vi at I;cases I with | d I=>cases I with | v _ _=>
 have J:i.toNat < es.length:=(List.getElem?_eq_some_iff.1 hl).1;generalize aj:Act.eval ⟨tmps,[]⟩ x=vx at O
 cases O with
 | xs _ _ _ a1 h1 Z=>
 have M:=Z r U
 cases r with
 | nil=>obtain⟨_,h2⟩:=M;rw[h2] at J;simp at J
 | zero b=>obtain⟨_,h2⟩:=M;rw[h2] at J;simp at J
 | mp b bs=>exact M.elim
 | blk b len cap sz a6=>
   obtain⟨rfl,h2,h3,h4,h5⟩:=M;have a7:sz=N.n:=by rw[←h4 _ (List.mem_of_getElem? hl),hlen]
   subst a7;refine⟨.pointer (some ⟨b,i.toNat*N.n,none⟩),?_,.xp _ g _ 0 l a1 rfl (fun r' a8=>?_)⟩
   ·unfold execOp
    rw[ho];show Sem.run P _ w=.ok _ w;have b0:0≤i∧i < (len:Int):=⟨h0,by omega⟩;simp only[ai,aj,Instr.indexAt,asIntOf,Sem.run_bind,Sem.run_pure,Result.andThen_ok,run_underlying hu,b0,and_self,if_true,T.sizeOf he];unfold Addr.add;split;·rename_i e;rw[e]
    ·simp
   ·have e2:r'=.blk b len cap N.n a6:=Option.some.inj ((a8:G.own g=some r').symm.trans U)
    subst e2;refine⟨rfl,by omega,by rw[Nat.zero_add];exact hlen,fun j d hj=>?_⟩;obtain⟨u,h6,h7⟩:=h5 _ _ _ _ hl hj;exact⟨u,by rw[Nat.add_zero];exact h6,h7⟩
theorem Pu.ml {t i:Nat} {x:Operand} (ho:o.op=.fieldAddr t x i) {I U m:Nat} (hf:mD T t i=some (I,U)) (X:c8 T U=m+1) {g j off:Nat} {l:List D} (hx:av st.f x=some (.xp g j off l)) (Z:g∈st.lv) (hle:I≤l.length) :
 Pu P C n st o (.xp g j (off+I) (l.drop I)):=by
 refine dG.pu fun G tmps w hs=>?_;have hr:=hs.av hx;obtain⟨r,M⟩:=hs.live g Z;generalize hv:Act.eval ⟨tmps,[]⟩ x=v at hr
 cases hr with
 | xp _ _ _ _ _ ad h1 N=>
 have J:=N r M
 cases r with
 | nil=>exact J.elim
 | zero b=>exact J.elim
 | mp b bs=>exact J.elim
 | blk b len cap sz ai=>
   obtain⟨rfl,h2,h3,h4⟩:=J;have O:(Instr.fieldAt t (.pointer (some ⟨b,j*sz+off,none⟩)) i).run P w=.ok (.pointer (some ⟨b,j*sz+(off+I),none⟩)) w:=by have:=jz T hf X b (j*sz+off) w;rwa [Nat.add_assoc] at this
   refine⟨.pointer (some ⟨b,j*sz+(off+I),none⟩),?_,.xp _ g j (off+I) (l.drop I) ad rfl (fun r' aj=>?_)⟩
   ·unfold execOp
    rw[ho];show Sem.run P _ w=.ok _ w;simp only[hv,Sem.run_bind,O,Result.andThen_ok,Sem.run_pure]
   ·have e2:r'=.blk b len cap sz ai:=Option.some.inj ((aj:G.own g=some r').symm.trans M)
    subst e2;refine⟨rfl,h2,by simp;omega,fun k d hk=>?_⟩;rw[List.getElem?_drop] at hk;obtain⟨u,h5,h6⟩:=h4 _ _ hk;refine⟨u,?_,h6⟩;have e3:j*sz+(off+I)+k=j*sz+off+(I+k):=by omega
    rw[e3];exact h5
theorem Pu.tZ {t:Nat} {x:Operand} (ho:o.op=.load t x) {g j off:Nat} {l:List D} (hx:av st.f x=some (.xp g j off l)) (X:g∈st.lv) {a:A} (ha:jv T t l=some a):Pu P C n st o a:=by
 refine dG.pu fun G tmps w hs=>?_;have Z:=hs.av hx;obtain⟨r,ad⟩:=hs.live g X;generalize hv:Act.eval ⟨tmps,[]⟩ x=v at Z
 cases Z with
 | xp _ _ _ _ _ ai h1 O=>
 have I:=O r ad
 cases r with
 | nil=>exact I.elim
 | zero b=>exact I.elim
 | mp b bs=>exact I.elim
 | blk b len cap sz aj=>
   obtain⟨rfl,h2,h3,h4⟩:=I;have N:∀ k,k < l.length→∃ u,cellAt w b (j*sz+off+k)=some u:=fun k J=>by obtain⟨u,h5,_⟩:=h4 k l[k] (by simp[J]);exact⟨u,h5⟩
   have key:=kr (E:=au C G st.gen w) T (t:=t) (a:=a) (b:=b) (off:=j*sz+off) (l:=l) (u:=fun k=>(cellAt w b (j*sz+off+k)).getD default)
    (fun k J=>by obtain⟨u,hu⟩:=N k J;show cellAt w b _=_;rw[hu];rfl) (fun k y J=>by obtain⟨u,h5,U⟩:=h4 k y J;have M:cellAt w b (j*sz+off+k)=some u:=h5;rw[M];exact U) ha
   obtain⟨v,h5,U⟩:=key;refine⟨v,?_,U⟩;rw[jy ho];show Sem.run P _ w=.ok _ w;have M:(Instr.loadAt t (.pointer (some ⟨b,j*sz+off,none⟩))).run P w=.ok v w:=h5;simp only[hv,Sem.run_bind,M,Result.andThen_ok,Sem.run_pure]
theorem wx {G:Gh} {tmps:Array Value} {w:World} (hs:ao C n st G tmps w) {t:TypeId} {x y:Operand} (ho:o.op=.store t x y) {g j off:Nat} {l:List D} (hx:av st.f x=some (.xp g j off l)) (b0:g∈st.lv)
 {v:Value} {es:List (List D)} (hv:aC (au C G st.gen w) v (.xs g es)) {e:List D} (he:es[j]? = some e) (cx:off+l.length=e.length) {a:A} (ha:av st.f y=some a) {cs:List D} (hc:xG a=some cs)
 (I:c8 T t=cs.length) (hz:cs.length≠0) (hle:cs.length≤l.length) :
 ∃ w',(execOp (Act.eval ⟨tmps,[]⟩) o).run P w=.ok .skip w'∧j8 true C n st G tmps (bk st.lv g) (es.set j (lQ e off cs)) v w w'∧∀ N X,G.box X=some N→w'.heap[N]? = w.heap[N]?:=by
 obtain⟨r,J⟩:=hs.live g b0;have ai:=hs.av hx;generalize b2:Act.eval ⟨tmps,[]⟩ x=vx at ai
 cases hv with
 | xs _ _ _ _ _ a6=>
 cases ai with
 | xp _ _ _ _ _ _ _ Z=>
 have aj:=a6 r J;have M:=Z r J
 cases r with
 | nil=>exact M.elim
 | zero b=>exact M.elim
 | mp b bs=>exact M.elim
 | blk b len cap sz b3=>
   have ch:b3=0:=aj.2.2.1;subst ch;obtain⟨rfl,_,_,_⟩:=M;have O:=xd hc (hs.av ha);obtain⟨cur,T',a7,a8,ad⟩:=hs.FX J aj he (off:=off) O (by omega) (bk st.lv g) (fun X cj=>cK cj);have a1:=run_storeCells_at P b (j*sz+off) T' (Act.eval ⟨tmps,[]⟩ y).cells.toList 0 cur w a7 (by simpa using a8) (fun u hu=>by obtain⟨i,hi⟩:=List.mem_iff_getElem?.1 hu;exact O.2.1 i u (by simpa using hi));obtain⟨d,U,cl⟩:∃ d,ae T.l t=some d∧d.n=cs.length:=by
    unfold c8 at I;split at I;·rename_i d U;exact⟨d,U,I⟩
    ·exact absurd I.symm hz
   refine⟨_,?_,ad,fun N X cq=>setRow_other w b N _ (fun e=>(hs.row g b len cap sz 0 J).2.1 X (e▸cq))⟩;unfold execOp;rw[ho];show Sem.run P _ w=_;simp only[b2,Instr.storeAt,Instr.sureAddr,storeVar,Sem.run_bind,Sem.run_pure,Result.andThen_ok,T.sizeOf U];rw[if_neg (by rw[cl];have:=O.1;simp at this ⊢;exact this)];simp only[Nat.add_zero] at a1;simp only[a1,Result.andThen_ok]
theorem WO.uk (s:Nat) (Z:o.guard=none) (hd:eM n o.dst=true) {t:TypeId} {x y:Operand} (ho:o.op=.store t x y) {g j off:Nat} {l:List D} (hx:av st.f x=some (.xp g j off l)) (M:g∈st.lv)
 {es:List (List D)} (hl:look st.f s=some (.xs g es)) (N:Nat.blt s n=true) {e:List D} (he:es[j]? = some e) (I:off+l.length=e.length) {a:A} (ha:av st.f y=some a) {cs:List D} (hc:xG a=some cs)
 (O:c8 T t=cs.length) (hz:Nat.blt 0 cs.length=true) (hle:cs.length≤l.length)
 (h:WO P C n ops Q rest (St.put (St.set { st with lv:=st.gen::bk st.lv g,gen:=st.gen+1 } s (.xs st.gen (es.set j (lQ e off cs)))) o.dst .any)):WO P C n ops Q (o::rest) st:=by
 refine WO.step Z fun tmps w ⟨G,hs⟩=>?_;obtain⟨v,hv,hr⟩:=hs.frame s _ hl;obtain⟨w',J,⟨G',_,U,X⟩,_⟩:=wx (P:=P) T hs ho hx M hr he I ha hc O (by have:=Nat.le_of_ble_eq_true hz;omega) hle;refine fT J ⟨_,⟨G',ao.put ?_ (bQ hd) (.any _)⟩,h⟩;have:=U.set (d:=s) (Nat.le_of_ble_eq_true N) X;rwa [gM hv] at this
theorem ao.xv {st':St} {N:Gh} {w':World} (hs:ao C n st G tmps w) (J:ao C n st' N tmps w') (X:st'.bx=st.bx) (Z:N.box=G.box) {g0 i:Nat} {cells:List A} (hb:ae st.bx g0=some cells) {v:Value}
 (hold:∀ b cs T,G.box g0=some b→w.heap[b]? = some (.cells cs T (0,0))→cs[i]? = some v) (O:∀ b,G.box g0=some b→w'.heap[b]? = w.heap[b]?) {a':A} (hr:aC (au C N st'.gen w') v a') :
 ao C n { st' with bx:=(g0,cells.set i a')::st'.bx } N tmps w':=by
 refine { J with box:=fun g' c M=>?_ };simp only[bN] at M;split at M
 ·rename_i e
  subst e;simp only[Option.some.injEq] at M;subst M;obtain⟨b,cs,T,h1,h2,h3,h4,h5⟩:=J.box g0 cells (by rw[X];exact hb);have U:G.box g0=some b:=by rw[←Z];exact h1
  have h6:=hold b cs T U (by rw[←O b U];exact h2);refine⟨b,cs,T,h1,h2,by simpa using h3,h4,fun k u a hu I=>?_⟩;rw[List.getElem?_set] at I;split at I
  ·rename_i e
   subst e;split at I
   ·simp only[Option.some.injEq] at I
    subst I;rw[h6] at hu;simp only[Option.some.injEq] at hu;subst hu;exact hr
   ·cases I
  ·exact h5 k u a hu I
 ·exact J.box g' c M
end
end Go.Ab
namespace Go.Ab
section
variable {P:Program} {C:Ctx} {n:Nat} {Q:Exit→St→Prop} {c:Code} {f:List (Nat×A)} {bx:List (Nat×List A)} {lv:List Nat} {gen:Nat}
theorem aI.elem {w:World} {pv:Nat→Nat→Prop} {v:Value} {es:List (List D)} (h:aI w pv v (.sl es)) {k j:Nat} {e:List D} {x:Value} (he:es[k]? = some e) (I:e[j]? = some (.v x)):cm x=true:=by
 cases h with
 | nil=>simp at he
 | emp=>simp at he
 | sl b off len cap sz es u hl N hm hs hu J=>have:=J k j e _ he I;generalize u k j=y at this;cases this with | v _ M=>exact M
theorem W.elem (t:Nat) {a:A} {es:List (List D)} {k j:Nat} {e:List D} {x:Value} (hl:look f t=some a) (I:gm a=some es) (he:es[k]? = some e) (J:e[j]? = some (.v x)) (h:cm x=true→W P C n c Q ⟨f,bx,lv,gen⟩):W P C n c Q ⟨f,bx,lv,gen⟩:=by intro tmps w ⟨G,hs⟩;obtain⟨v,N,M⟩:=hs.frame t a hl;exact h ((fZ I M).elem he J) tmps w ⟨G,hs⟩
theorem gr (g j:Nat) {cells cells':List A} (hb:ae bx g=some cells) (hj:cells[j]? = some (.d (.v (.slice none 0 0)))) (N:cells.set j (.d (.sl []))=cells') (h:W P C n c Q ⟨f,(g,cells')::bx,lv,gen⟩):W P C n c Q ⟨f,bx,lv,gen⟩:=by
 subst N;intro tmps w ⟨G,hs⟩;refine h tmps w ⟨G,ao.B5 hs hb (by simp) (fun i u a a' J I M=>?_)⟩;rw[List.getElem?_set] at I;split at I
 ·rename_i e
  subst e;rw[hj] at J;simp only[Option.some.injEq] at J;subst J;split at I
  ·simp only[Option.some.injEq] at I
   subst I;cases M with | d M=>cases M with | v _ _=>exact .d .nil
  ·cases I
 ·rw[J] at I
  simp only[Option.some.injEq] at I;subst I;exact M
end
end Go.Ab
namespace Go.Ab
open Go.RowKit
section
variable {P:Program} (T:bA P) {C:Ctx} {n:Nat} {ops:Array Oper} {Q:Exit→St→Prop} {rest:List Oper}
variable {f:List (Nat×A)} {bx:List (Nat×List A)} {lv:List Nat} {gen:Nat} {d:Nat} {op:Op} {ty:TypeId} {pos:String} {af:Array Edge} {a:A} {dst:Option Nat} {c:Code}
theorem cM {lv:List Nat} {g:Nat} (h:(lv.any fun h=>Nat.beq h g)=true):g∈lv:=by obtain⟨I,h1,h2⟩:=List.any_eq_true.1 h;have:I=g:=Nat.eq_of_beq_eq_true h2;exact this▸h1
theorem BN {x y:Operand} {t e:Nat} {J I:bH} {g:Nat} {es es2:List (List D)} {b:A} (X:av f x=some (.xs g es)) (Z:av f y=some b) (M:gm b=some es2) (ht:ae T.l t=some J) (hk:J.k=.slice e) (he:ae T.l e=some I)
 (N:(lv.any fun h=>Nat.beq h g)=true) (hz:Nat.blt 0 I.n=true) (O:Nat.blt 0 I.b=true) (hd:Nat.blt d n=true) {r:List (List D)} (hr:es++es2=r) (hl:∀ (x:List D),x∈es++es2→x.length=I.n)
 (hb:(es.length+es2.length)*I.b≤140737488355328) {lv':List Nat} (U:gen::bk lv g=lv')
 (h:WO P C n ops Q rest ⟨(d,.xs gen r)::f,bx,lv',gen+1⟩):WO P C n ops Q (⟨some d,.call ⟨.builtin .append,#[x,y],#[t,t]⟩,ty,pos,af,none⟩::rest) ⟨f,bx,lv,gen⟩:=by
 subst hr;subst U;exact WO.C1 (st:=⟨f,bx,lv,gen⟩) T rfl hd rfl ht hk he X (cM N) Z M hz O hl hb h
theorem BY {x:Operand} {t e:Nat} {I:bH} {g:Nat} {es:List (List D)} (M:av f x=some (.xs g es)) (N:ae T.l t=some I) (O:I.k=.slice e) (J:(lv.any fun h=>Nat.beq h g)=true) :
 Pu P C n ⟨f,bx,lv,gen⟩ ⟨dst,.call ⟨.builtin .len,#[x],#[t]⟩,ty,pos,af,none⟩ (.d (.v (.int .i64 es.length))):=
 Pu.BY (st:=⟨f,bx,lv,gen⟩) T rfl N O M (cM J)
theorem vH {t e:Nat} {x I:Operand} {J M:bH} {g:Nat} {es:List (List D)} {k:IntKind} {i:Int} {l:List D} (O:av f x=some (.xs g es)) (hi:av f I=some (.d (.v (.int k i)))) (U:ae T.l t=some J) (X:J.k=.slice e) (he:ae T.l e=some M)
 (N:(lv.any fun h=>Nat.beq h g)=true) (h0:0≤i) (hl:es[i.toNat]? = some l) (hlen:l.length=M.n) :
 Pu P C n ⟨f,bx,lv,gen⟩ ⟨dst,.indexAddr t x I,ty,pos,af,none⟩ (.xp g i.toNat 0 l):=
 Pu.vH (st:=⟨f,bx,lv,gen⟩) T rfl U X he O (cM N) hi h0 hl hlen
theorem ml {t i:Nat} {x:Operand} {I J m:Nat} {g j off:Nat} {l:List D} (U:av f x=some (.xp g j off l)) (X:mD T t i=some (I,J)) (M:c8 T J=m+1) (N:(lv.any fun h=>Nat.beq h g)=true) (hle:Nat.ble I l.length=true) {l':List D} (O:l.drop I=l') :
 Pu P C n ⟨f,bx,lv,gen⟩ ⟨dst,.fieldAddr t x i,ty,pos,af,none⟩ (.xp g j (off+I) l'):=
 O▸Pu.ml (st:=⟨f,bx,lv,gen⟩) T rfl X M U (cM N) (Nat.le_of_ble_eq_true hle)
theorem tZ {t:Nat} {x:Operand} {g j off:Nat} {l:List D} (J:av f x=some (.xp g j off l)) (I:(lv.any fun h=>Nat.beq h g)=true) (M:jv T t l=some a) :
 Pu P C n ⟨f,bx,lv,gen⟩ ⟨dst,.load t x,ty,pos,af,none⟩ a:=
 Pu.tZ (st:=⟨f,bx,lv,gen⟩) T rfl J (cM I) M
theorem uk (s:Nat) {t:TypeId} {x y:Operand} {g j off:Nat} {l:List D} {es:List (List D)} {e:List D} {cs:List D} (Z:av f x=some (.xp g j off l)) (hl:look f s=some (.xs g es)) (ha:av f y=some a) (hc:xG a=some cs) (he:es[j]? = some e) (J:off+l.length=e.length)
 (M:(lv.any fun h=>Nat.beq h g)=true) (N:Nat.blt s n=true) (O:c8 T t=cs.length) (hz:Nat.blt 0 cs.length=true) (hle:Nat.ble cs.length l.length=true) {I:List (List D)} (U:es.set j (lQ e off cs)=I) {lv':List Nat} (X:gen::bk lv g=lv')
 (h:WO P C n ops Q rest ⟨(s,.xs gen I)::f,bx,lv',gen+1⟩):WO P C n ops Q (⟨none,.store t x y,ty,pos,af,none⟩::rest) ⟨f,bx,lv,gen⟩:=by
 subst U;subst X;exact WO.uk (st:=⟨f,bx,lv,gen⟩) T s rfl rfl rfl Z (cM M) hl N he J ha hc O hz (Nat.le_of_ble_eq_true hle) h
theorem Dt (s:Nat) {g:Nat} {es:List (List D)} (hl:look f s=some (.xs g es)) (I:(lv.any fun h=>Nat.beq h g)=true) (J:Nat.blt s n=true) {lv':List Nat} (M:gen::bk lv g=lv')
 (h:W P C n c Q ⟨(s,.own gen es)::f,bx,lv',gen+1⟩):W P C n c Q ⟨f,bx,lv,gen⟩:=by
 subst M;exact W.freeze (st:=⟨f,bx,lv,gen⟩) hl (cM I) J h
theorem gG (s:Nat) {a a':A} {l:List Oper} (hl:look f s=some a) (I:Nat.blt s n=true) (J:Ab.sn a=a') (h:WO P C n ops Q l ⟨(s,a')::f,bx,lv,gen⟩):WO P C n ops Q l ⟨f,bx,lv,gen⟩:=by subst J;intro tmps w ⟨G,hs⟩;obtain⟨v,M,N⟩:=hs.frame s _ hl;refine h tmps w ⟨G,?_⟩;have:=hs.set (d:=s) (Nat.le_of_ble_eq_true I) N.sn;rwa [gM M] at this
theorem ao.cellAt {st:St} {G:Gh} {tmps:Array Value} {w:World} (hs:ao C n st G tmps w) {g0 i:Nat} {cells:List A} (hb:ae st.bx g0=some cells) {x:A} (hi:cells[i]? = some x) :
 ∃ v,aC (au C G st.gen w) v x∧∀ b cs I,G.box g0=some b→w.heap[b]? = some (.cells cs I (0,0))→cs[i]? = some v:=by
 obtain⟨b,cs,I,h1,h2,h3,_,h5⟩:=hs.box g0 cells hb;have J:i < cs.size:=by rw[h3];exact(List.getElem?_eq_some_iff.1 hi).1
 have M:cs[i]? = some cs[i]:=by simp[J]
 refine⟨cs[i],h5 i _ x M hi,fun U cs' T2 N O=>?_⟩;have e:U=b:=Option.some.inj (N.symm.trans h1);subst e;have X:=Option.some.inj (O.symm.trans h2);injection X with Z _ _;rw[Z];exact M
theorem Dc {t e len:Nat} {parts:Array (Nat×Operand)} {td ed:bH} {es:List (List D)} (ht:ae T.l t=some td) (hk:td.k=.slice e) (he:ae T.l e=some ed) (hes:oH f 0 parts.toList=some es) (hlen:es.length=len)
    (hz:Nat.blt 0 ed.n=true) (hsm:Nat.ble (len*ed.n) 16777216=true) (hl:oV ed.n es=true) (hpos:Nat.blt 0 len=true):Pu P C n ⟨f,bx,lv,gen⟩ ⟨dst,.buildSlice t len parts,ty,pos,af,none⟩ (.fl es):=by
  have hz:=Nat.le_of_ble_eq_true hz
  have hsm:=Nat.le_of_ble_eq_true hsm
  have hpos:=Nat.le_of_ble_eq_true hpos
  have hl:=iL hl
  intro G tmps w hs
  obtain⟨cs',hrun,hcsz,_,hget⟩:=lg T (tmps:=tmps) hs ht hk he hes hlen hz hsm hl hpos
  have hb:Below w.heap.size w (w.alloc (.cells cs' e)):=(Below.refl _ w).alloc (Nat.le_refl _) _
  obtain⟨hle,hs'⟩:=hs.gp hb
  refine bT (v:=.slice (some ⟨w.heap.size,0,none⟩) len len) (w':=w.alloc (.cells cs' e)) ?_ ⟨hb,.fl _ _ ?_ ⟨_,by rw[hlen]⟩⟩
  · unfold execOp
    show Sem.run P _ w=.ok _ _
    simp only[Sem.run_bind,hrun,Result.andThen_ok,Sem.run_pure]
  · have:=aI.ofRow (w:=w.alloc (.cells cs' e)) (pv:=aS C G) (b:=w.heap.size) (cap:=len) (sz:=ed.n) (es:=es) (heap_alloc_new w _) (by omega) (by simp only[maxLen];have:len≤len*ed.n:=Nat.le_mul_of_pos_right _ hz;omega) hl
      (fun t _ hp=>by have:=qN hs hp;omega) (fun k j e' d hk hj=>by obtain⟨u,h1,h2⟩:=hget k j e' d hk hj;exact⟨u,h1,h2.mono hle.cell⟩)
    rw[hlen] at this
    exact this
theorem wv {st:St} {G:Gh} {tmps:Array Value} {w:World} (h:ao C n st G tmps w) {t e:Nat} {td M:bH} (ht:ae T.l t=some td) (hk:td.k=.slice e) (he:ae T.l e=some M) {v v2:Value} {es es2:List (List D)}
 (hv:aI w (aS C G) v (.sl es)) (c6:∃ a,v=.slice a es.length es.length) (c7:aI w (aS C G) v2 (.sl es2)) (aj:0 < es2.length) (hl:∀ (x:List D),x∈es++es2→x.length=M.n) (hz:0 < M.n) (df:0 < M.b)
 (hb:(es.length+es2.length)*M.b≤140737488355328) (ty:Nat) (Z:0 < es.length) :
 ∃ v' w',(Builtin.append_ #[t,t] ty #[v,v2]).run P w=.ok v' w'∧j8 false C n st G tmps st.lv (es++es2) v' w w':=by
 have hu:=T.fu ht hk;obtain⟨i,z,hi,a1,di,dj,a6,dt,dx,_⟩:=T.info he;have hf:es.length+es2.length≤140737488355328:=Nat.le_trans (Nat.le_mul_of_pos_right _ df) hb;have hg:es.length+es2.length≤maxLen:=by simp only[maxLen];omega
 have ei:∀ (x:List D),x∈es→x.length=M.n:=fun x hx=>hl x (List.mem_append.2 (.inl hx));have ej:∀ (x:List D),x∈es2→x.length=M.n:=fun x hx=>hl x (List.mem_append.2 (.inr hx));have J:∀ (b off:Nat) (l:List Value),(∀ (t:Nat) (u:Value),l[t]? = some u→cellAt w b (off+t)=some u)→∀ j u,l[j]? = some u→w.cell? ((⟨b,off,none⟩:Addr).add j)=some u:=by
  intro b off l hc j u hj;have:=hc j u hj;unfold Addr.add;split;·rename_i e;subst e;simpa [cellAt] using this
  ·exact this
 cases c7 with
 | nil=>simp at aj
 | emp=>simp at aj
 | sl b2 N cj ad en _ u2 U e2 cl e3 e4 e5=>
 cases hv with
 | nil=>simp at Z
 | emp=>simp at Z
 | sl b1 O cq cx e6 _ u1 X ff cy fj fo fs=>
 obtain⟨a,ha⟩:=c6;simp only[Value.slice.injEq] at ha;obtain⟨_,_,c1⟩:=ha;obtain⟨_,_,_,news,a7,a8,ft⟩:=(aI.sl b2 N cj ad en es2 u2 U e2 cl e3 e4 e5).flat ej;obtain⟨_,_,_,I,ai,b0,gb⟩:=(aI.sl b1 O cq cx e6 es u1 X ff cy fj fo fs).flat ei;subst X;subst U;subst c1
 have hr:=run_append_grow (P:=P) w t ty e i z hu hi dj ⟨b1,O,none⟩ es.length es.length I (by rw[ai,a1]) (J b1 O I fun t u hu=>(b0 t u hu).1) ⟨b2,N,none⟩ es2.length ad news (by rw[a7,a1]) (J b2 N news fun t u hu=>(a8 t u hu).1) (by omega) (by omega)
  (growslice_fits (by omega) (by rw[di];exact hb))
 refine⟨_,_,hr,?_⟩;have b3:=grownCap_ge w (es.length+es2.length) es.length e;have ch:=grownCap_le_maxLen w (es.length+es2.length) es.length e (by omega);have gi:z.cells.size=M.n:=by rw[←dt,←a6];simp
 have e0:(es++es2).length=es.length+es2.length:=by simp
 have gj:∀ arr,Below w.heap.size w (w.drew.alloc (.cells arr e)):=fun arr=>((Below.refl _ w).drew).alloc (Nat.le_refl _) _;generalize grownCap w (es.length+es2.length) es.length e=cap at b3 ch ⊢;rw[←e0];refine h.newRow false (gj _) (heap_alloc_new w.drew _) ?_ ?_ (by rw[e0];exact b3) ch hz (by omega) hl ?_ (fun _=>False) st.lv fun g' gq=>⟨gq,fun h=>h⟩
 ·simp only[Array.size_append,List.size_toArray,size_zeroCells,ai,a7,gi,←Nat.add_mul]
  congr 1;rw[e0];omega
 ·have e1:∀ k,I.toArray++news.toArray++Builtin.zeroCells z.cells k=(I++news++(Builtin.zeroCells z.cells k).toList).toArray:=fun k=>by simp
  rw[e1];exact mE (fun u hu=>by obtain⟨j,hj⟩:=List.mem_iff_getElem?.1 hu;exact(b0 j u hj).2.2) (fun u hu=>by obtain⟨j,hj⟩:=List.mem_iff_getElem?.1 hu;exact(a8 j u hj).2.2) (Aq a6 dx)
 ·have e1:∀ k,I.toArray++news.toArray++Builtin.zeroCells z.cells k=(I++news++(Builtin.zeroCells z.cells k).toList).toArray:=fun k=>by simp
  rw[e1];exact oP rfl ai hl gb ft
theorem wg {x y:Operand} {t e:Nat} {N I:bH} {es es2:List (List D)} {b:A} (hx:av f x=some (.fl es)) (hy:av f y=some b) (O:gm b=some es2) (ht:ae T.l t=some N) (hk:N.k=.slice e) (he:ae T.l e=some I)
 (hz:Nat.blt 0 I.n=true) (U:Nat.blt 0 I.b=true) (hd:Nat.blt d n=true) (hp:Nat.blt 0 es.length=true) (X:Nat.blt 0 es2.length=true) {r:List (List D)} (M:es++es2=r) (hl:∀ (x:List D),x∈es++es2→x.length=I.n)
 (hb:(es.length+es2.length)*I.b≤140737488355328)
 (h:WO P C n ops Q rest ⟨(d,.own gen r)::f,bx,gen::lv,gen+1⟩):WO P C n ops Q (⟨some d,.call ⟨.builtin .append,#[x,y],#[t,t]⟩,ty,pos,af,none⟩::rest) ⟨f,bx,lv,gen⟩:=by
 subst M;refine WO.step (st:=⟨f,bx,lv,gen⟩) rfl fun tmps w ⟨G,hs⟩=>?_;have M:=hs.av hx;have Z:=fZ O (hs.av hy);generalize hv:Act.eval ⟨tmps,[]⟩ x=v at M
 cases M with
 | fl _ _ ad ai=>
 obtain⟨v',w',J,⟨G',_,aj,a1⟩⟩:=wv T hs ht hk he ad ai Z (Nat.le_of_ble_eq_true X) hl (Nat.le_of_ble_eq_true hz) (Nat.le_of_ble_eq_true U) hb ty (Nat.le_of_ble_eq_true hp);rw[←hv] at J;exact bT (jD rfl J) ⟨_,⟨G',aj.put (dst:=some d) (bQ (dst:=some d) hd) a1⟩,h⟩
theorem fP {x y:Operand} {t e:Nat} {J I:bH} {g:Nat} {es es2:List (List D)} {b:A} (X:av f x=some (.own g es)) (Z:av f y=some b) (M:gm b=some es2) (ht:ae T.l t=some J) (hk:J.k=.slice e) (he:ae T.l e=some I)
 (N:(lv.any fun h=>Nat.beq h g)=true) (hz:Nat.blt 0 I.n=true) (O:Nat.blt 0 I.b=true) (hd:Nat.blt d n=true) {r:List (List D)} (hr:es++es2=r) (hl:oV I.n (es++es2)=true) (hb:Nat.ble ((es.length+es2.length)*I.b) 140737488355328=true)
 {lv':List Nat} (U:gen::bk lv g=lv') (h:WO P C n ops Q rest ⟨(d,.own gen r)::f,bx,lv',gen+1⟩):WO P C n ops Q (⟨some d,.call ⟨.builtin .append,#[x,y],#[t,t]⟩,ty,pos,af,none⟩::rest) ⟨f,bx,lv,gen⟩:=by
 subst hr;subst U;exact sx T X Z M ht hk he (cM N) hz O hd (iL hl) (Nat.le_of_ble_eq_true hb) h
end
end Go.Ab
namespace Go.Tb
open Go.Ab
structure Tk where
 kind:Int
 s:ByteArray
 n:Int
 at_:Nat
 nx:Nat
abbrev E0:ByteArray:=B #[]
@[reducible] def Tk.c (t:Tk):List D:=[ci t.kind,cs (if t.kind=3 then E0 else t.s),ci t.n,ci (t.at_:Int)]
def Fi (k:Int):Int:=if k=0 then 0 else if k=1 then 5 else k - 1
@[reducible] def Tk.r (t:Tk):List D:=[ci (Fi t.kind),cs t.s,ci (t.at_:Int),ci (t.nx:Int)]
def EL (b:UInt8):Bool:=decide (97≤b.toNat) && decide (b.toNat≤122)
abbrev Fk (k:Nat):Tk:=⟨0,E0,0,k,0⟩
def Tk.stops (t:Tk):Bool:=decide (t.kind=0) || decide (t.kind=1)
def Tk.ok (t:Tk):Bool:=
 (!decide (t.kind=2) || (match ah t.s with | c::_=>EL c | []=>false)) && (!decide (t.kind=5) || (match ah t.s with | c::_=>!EL c | []=>false)) &&
 (!decide (t.kind=3) || decide ((fE t.s).2=true∧t.n=(fE t.s).1)) && decide (0≤t.kind) && decide (t.kind≤5)
structure Wf (l:List Tk):Prop where
 ne:l≠[]
 last:∀ (i:Nat) t,l[i]? = some t→(t.stops=true↔i+1=l.length)
 ok:∀ t∈l,t.ok=true
end Go.Tb
namespace Go.Tb
open Go.Ab
abbrev PS:=Nat×Bool
abbrev Pr (α:Type):=PS→α×PS
abbrev FP:Tk:=Fk 0
section
variable (L:List Tk)
def Ei (st:PS):Tk:=(L[st.1]?).getD FP
/-! ### what readers do -/
structure BU {α:Type} (f:Pr α):Prop where
 mono:∀ st,st.1≤(f st).2.1
 lt:∀ st,st.1 < L.length→(f st).2.1 < L.length
 bad:∀ st,st.2=true→(f st).2=st
variable {L}
theorem DT {st:PS} {t:Tk} (h:L[st.1]? = some t):Ei L st=t:=by unfold Ei;rw[h];rfl
theorem Wf.more (hw:Wf L) {st:PS} (h:st.1 < L.length) (hs:(Ei L st).stops=false):st.1+1 < L.length:=by
 have e:L[st.1]? = some (L[st.1]'h):=by simp
 rw[DT e] at hs;have:=hw.last _ _ e;rcases Nat.lt_or_ge (st.1+1) L.length with I | I
 ·exact I
 ·have h2:=this.2 (by omega)
  rw[h2] at hs;cases hs
end
end Go.Tb
namespace Go.Tb
open Go.Ab
section
variable (L:List Tk)
variable {L}
/-! ### steps and queries -/
theorem BU.map {α β:Type} {f:Pr α} {h:Pr β} (I:BU L f) (e:∀ st,(h st).2=(f st).2):BU L h where
 mono st:=by rw[e];exact I.mono st
 lt st hl:=by rw[e];exact I.lt st hl
 bad st hb:=by rw[e];exact I.bad st hb
end
end Go.Tb
namespace Go.Tb
open Go.Ab
theorem wL (s:ByteArray) (i j:Nat):ah (s.extract i j)=((ah s).take j).drop i:=by unfold ah;rw[ByteArray.data_extract,Array.toList_extract,List.extract_eq_drop_take',List.drop_take]
/-! ### the functions -/
end Go.Tb
namespace Go.Tb
open Go.Ab
/-! ### the same as by places -/
end Go.Tb
namespace Go.Tb
open Go.Ab
end Go.Tb
namespace Go.Tb
open Go.Ab
inductive JV where
 | mk (op n:Int) (s:ByteArray) (keys:List ByteArray) (kids:List JV)
def JV.op:JV→Int | .mk a _ _ _ _=>a
def JV.n:JV→Int | .mk _ a _ _ _=>a
def JV.s:JV→ByteArray | .mk _ _ a _ _=>a
def JV.keys:JV→List ByteArray | .mk _ _ _ a _=>a
def JV.kids:JV→List JV | .mk _ _ _ _ a=>a
mutual
def JV.kc:JV→List (List D)
 | .mk _ _ _ _ kids=>JV.qX kids
def JV.qX:List JV→List (List D)
 | []=>[]
 | e::r=>[ci e.op,ci e.n,cs e.s,.sl (e.keys.map sc),.sl (JV.kc e)]::JV.qX r
end
@[reducible] def JV.c (e:JV):List D:=[ci e.op,ci e.n,cs e.s,.sl (e.keys.map sc),.sl e.kc]
theorem JV.nP:∀ l,JV.qX l=l.map JV.c
 | []=>rfl
 | e::r=>by simp[JV.qX,JV.nP r]
theorem JV.mr (e:JV):e.kc=e.kids.map JV.c:=by cases e;simp[JV.kc,JV.kids,JV.nP]
theorem JV.aF (e:JV):e.kc.length=e.kids.length:=by simp[JV.mr]
theorem JV.zu {e:JV} {i:Nat} {k:JV} (h:e.kids[i]? = some k):e.kc[i]? = some k.c:=by rw[JV.mr];exact aV h
theorem JV.ind {p:JV→Prop} (h:∀ e,(∀ k∈e.kids,p k)→p e):∀ e,p e:=by
 intro e
 induction hn:_root_.SizeOf.sizeOf e using Nat.strongRecOn generalizing e with
 | _ m I=>
   subst hn;refine h e fun k J=>I (_root_.SizeOf.sizeOf k) ?_ k rfl
   cases e with
   | mk op n s keys kids=>have:=List.sizeOf_lt_of_mem (show k∈kids from J);simp;omega
/-! equality -/
mutual
def Es:JV→JV→Bool
 | .mk a b c d e,.mk a' b' c' d' e'=>decide (a=a') && (decide (b=b') && (decide (c=c') && (decide (d=d') && qb e e')))
def qb:List JV→List JV→Bool
 | [],[]=>true
 | x::l,y::m=>Es x y && qb l m
 | _,_=>false
end
mutual
theorem xF:∀ (a b:JV),Es a b=true↔a=b
 | .mk a b c d e,.mk a' b' c' d' e'=>by simp only[Es,Bool.and_eq_true,decide_eq_true_eq,JV.mk.injEq,vL e e']
theorem vL:∀ (l m:List JV),qb l m=true↔l=m
 | [],[]=>by simp[qb]
 | x::l,y::m=>by simp only[qb,Bool.and_eq_true,xF x y,vL l m,List.cons.injEq]
 | [],_::_=>by simp[qb]
 | _::_,[]=>by simp[qb]
end
instance:DecidableEq JV:=fun a b=>decidable_of_iff _ (xF a b)
/-! checking -/
def known (b:UInt8):Bool:=decide (b.toNat=9) || (decide (b.toNat=10) || (decide (32≤b.toNat) && decide (b.toNat≤126)))
def cH (s:ByteArray):Bool:=(ah s).all known
def eo:JV:=.mk 0 0 (B #[]) [] []
def bG (j:JV):Bool:=
 if j.op=1 then decide (j.n=0) && (decide (j.s=B #[]) && decide (j.keys.length+j.kids.length=0))
 else if j.op=2∨j.op=3 then decide (j.s=B #[]) && decide (j.keys.length+j.kids.length=0)
 else if j.op=4 then decide (j.n=0) && decide (j.keys.length+j.kids.length=0)
 else if j.op=5 then decide (j.n=0) && (decide (j.s=B #[]) && decide (j.keys.length=0))
 else if j.op=6 then decide (j.n=0) && (decide (j.s=B #[]) && decide (j.keys.length=j.kids.length))
 else false
def eN (seen:List ByteArray):List ByteArray→Bool
 | []=>false
 | s::r=>if seen.any (fun x=>decide (x=s)) then true else eN (seen++[s]) r
def eA (j:JV) (level:Int):Int:=
 if bG j=false then 1
 else if (j.op=2∧j.n≠0∧j.n≠1)∨(j.op=3∧cY j.n=false) then 2
 else if cH j.s=false∨(j.keys.any fun s=>!cH s)=true then 10
 else if eN [] j.keys=true then 4
 else if 5≤j.op∧16 < level then 20
 else 0
mutual
def aX:JV→Int→Int
 | .mk op n s keys kids,level=>if eA (.mk op n s keys kids) level≠0 then eA (.mk op n s keys kids) level else cB kids (level+1)
def cB:List JV→Int→Int
 | [],_=>0
 | k::r,level=>if aX k level≠0 then aX k level else cB r level
end
/-! printing -/
def b8 (b:UInt8):List UInt8:=if b=34∨b=92 then [92,b] else if b=10 then [92,110] else if b=9 then [92,116] else [b]
def bY (l:List UInt8):List UInt8:=34::(l.flatMap b8++[34])
def lb:List UInt8:=[110,117,108,108]
def je:List UInt8:=[116,114,117,101]
def gK:List UInt8:=[102,97,108,115,101]
mutual
def aq:JV→List UInt8
 | .mk op n s keys kids=>
   if op=1 then lb else if op=2 then (if n=1 then je else gK) else if op=3 then ah (cT n) else if op=4 then bY (ah s)
   else if op=6 then 123::(aR keys kids true++[125]) else 91::(bZ kids true++[93])
def bZ:List JV→Bool→List UInt8
 | [],_=>[]
 | k::r,first=>(if first then [] else [44])++aq k++bZ r false
def aR:List ByteArray→List JV→Bool→List UInt8
 | s::keys,k::r,first=>(if first then [] else [44])++bY (ah s)++[58]++aq k++aR keys r false
 | _,_,_=>[]
end
def dh (j:JV) (key:ByteArray):Option JV:=
 if j.op=6 then (match j.keys.findIdx? fun x=>decide (key=x) with | some i=>j.kids[i]? | none=>none) else none
/-! parsing: 'no at why' is a fault -/
inductive PE (α:Type) where
 | ok (x:α) (i:Nat)
 | no (at_:Nat) (why:Int)
def iA (b:UInt8):Bool:=decide (b.toNat=32) || (decide (b.toNat=9) || (decide (b.toNat=10) || decide (b.toNat=13)))
def ak (l:List UInt8) (i:Nat):UInt8:=l.getD i 0
def kb (l:List UInt8):Nat→Nat→Nat
 | 0,i=>i
 | k+1,i=>if i < l.length∧iA (ak l i)=true then kb l k (i+1) else i
def ar (l:List UInt8) (i:Nat):Nat:=kb l (l.length - i) i
def bw (l:List UInt8) (c:UInt8) (i:Nat):PE Unit:=if i < l.length∧ak l i=c then .ok () (i+1) else .no i 10
def b5 (l:List UInt8):List UInt8→Nat→PE Unit
 | [],i=>.ok () i
 | c::r,i=>match bw l c i with
   | .ok _ j=>b5 l r j
   | .no a w=>.no a w
def jc (c:UInt8):Option Nat:=
 if 48≤c.toNat∧c.toNat≤57 then some (c.toNat - 48) else if 97≤(c ||| 32).toNat∧(c ||| 32).toNat≤102 then some ((c ||| 32).toNat - 97+10) else none
def dQ (l:List UInt8) (i:Nat):PE UInt8:=
 if ak l i=34∨ak l i=92∨ak l i=47 then .ok (ak l i) (i+1)
 else if ak l i=110 then .ok 10 (i+1)
 else if ak l i=116 then .ok 9 (i+1)
 else match b5 l [117,48,48] i with
  | .no a w=>.no a w
  | .ok _ j=>match jc (ak l j) with
    | none=>.no j 10
    | some high=>if high=1∨7 < high then .no j 10 else match jc (ak l (j+1)) with
      | none=>.no (j+1) 10
      | some low=>if known (UInt8.ofNat (16*high+low))=false then .no (j+1) 10 else .ok (UInt8.ofNat (16*high+low)) (j+2)
def cC (l:List UInt8):Nat→Nat→List UInt8→PE (List UInt8)
 | 0,i,_=>.no i 10
 | k+1,i,acc=>
   if (ak l i).toNat < 32∨126 < (ak l i).toNat then .no i 10
   else if ak l i=34 then .ok acc (i+1)
   else if ak l i=92 then (match dQ l (i+1) with
    | .no a w=>.no a w
    | .ok c j=>cC l k j (acc++[c]))
   else cC l k (i+1) (acc++[ak l i])
def de (l:List UInt8) (i:Nat):PE (List UInt8):=match bw l 34 i with
 | .no a w=>.no a w
 | .ok _ j=>cC l (l.length+1 - j) j []
def gy (l:List UInt8):Nat→Nat→Nat
 | 0,i=>i
 | k+1,i=>if i < l.length∧cW (ak l i)=true then gy l k (i+1) else i
def bo (l:List UInt8) (i:Nat):Nat:=if ak l i=48 then i+1 else gy l (l.length - i) i
def dz (l:List UInt8) (i:Nat):PE JV:=
 let i1:=if ak l i=45 then i+1 else i
 let i2:=bo l i1
 if i2=i1 then .no i1 10 else
 let t:ByteArray:=⟨((l.drop i).take (i2 - i)).toArray⟩
 let u:=if t=B #[45,48] then B #[48] else t
 if (fE u).2=true then .ok (.mk 3 (fE u).1 (B #[]) [] []) i2 else .no i 2
def bytesOf (l:List UInt8):ByteArray:=⟨l.toArray⟩
mutual
def cb (l:List UInt8):Nat→Int→Nat→PE JV
 | 0,_,i=>.no i 10
 | k+1,level,i0=>
   let i:=ar l i0
   let c:=ak l i
   if c=110 then (match b5 l lb i with | .no a w=>.no a w | .ok _ j=>.ok (.mk 1 0 (B #[]) [] []) j)
   else if c=116 then (match b5 l je i with | .no a w=>.no a w | .ok _ j=>.ok (.mk 2 1 (B #[]) [] []) j)
   else if c=102 then (match b5 l gK i with | .no a w=>.no a w | .ok _ j=>.ok (.mk 2 0 (B #[]) [] []) j)
   else if c=34 then (match de l i with | .no a w=>.no a w | .ok t j=>.ok (.mk 4 0 (bytesOf t) [] []) j)
   else if c=91∨c=123 then
    if 16 < level then .no i 20
    else if c=91 then eS l k level (i+1) else eT l k level (i+1)
   else dz l i
def eS (l:List UInt8):Nat→Int→Nat→PE JV
 | 0,_,i=>.no i 10
 | k+1,level,i0=>
   let i:=ar l i0
   if ak l i=93 then .ok (.mk 5 0 (B #[]) [] []) (i+1) else eb l k level i []
def eb (l:List UInt8):Nat→Int→Nat→List JV→PE JV
 | 0,_,i,_=>.no i 10
 | k+1,level,i,acc=>match cb l k (level+1) i with
   | .no a w=>.no a w
   | .ok v j=>
     let j1:=ar l j
     if ak l j1=44 then eb l k level (j1+1) (acc++[v])
     else match bw l 93 j1 with | .no a w=>.no a w | .ok _ j2=>.ok (.mk 5 0 (B #[]) [] (acc++[v])) j2
def eT (l:List UInt8):Nat→Int→Nat→PE JV
 | 0,_,i=>.no i 10
 | k+1,level,i0=>
   let i:=ar l i0
   if ak l i=125 then .ok (.mk 6 0 (B #[]) [] []) (i+1) else dZ l k level i [] []
def dZ (l:List UInt8):Nat→Int→Nat→List ByteArray→List JV→PE JV
 | 0,_,i,_,_=>.no i 10
 | k+1,level,i0,keys,acc=>
   let i:=ar l i0
   match de l i with
   | .no a w=>.no a w
   | .ok t j=>
     if keys.any (fun x=>decide (x=bytesOf t)) then .no i 4 else
     match bw l 58 (ar l j) with
     | .no a w=>.no a w
     | .ok _ j1=>match cb l k (level+1) j1 with
       | .no a w=>.no a w
       | .ok v j2=>
         let j3:=ar l j2
         if ak l j3=44 then dZ l k level (j3+1) (keys++[bytesOf t]) (acc++[v])
         else match bw l 125 j3 with | .no a w=>.no a w | .ok _ j4=>.ok (.mk 6 0 (B #[]) (keys++[bytesOf t]) (acc++[v])) j4
end
def cR (l:List UInt8):PE JV:=match cb l (3*l.length+1) 1 0 with
 | .no a w=>.no a w
 | .ok j i=>if ar l i < l.length then .no (ar l i) 10 else .ok j 0
end Go.Tb
namespace Go.Tb
open Go.Ab
structure Fm where
 ph:ByteArray
 kind:Int
 name:Bool
 n:ByteArray
 m:ByteArray
 st:Bool
@[reducible] def Fm.c (f:Fm):List D:=[cs f.ph,ci f.kind,.v (.bool f.name),cs f.n,cs f.m,.v (.bool f.st)]
def cN:ByteArray:=B #[112,104]
def bq:ByteArray:=B #[116,105,100]
def bg:ByteArray:=B #[110,97,109,101]
def eL:ByteArray:=B #[116,115]
def aU:ByteArray:=B #[115,116,97,99,107]
def eJ:ByteArray:=B #[119,101,105,103,104,116]
def jK:ByteArray:=B #[105,100]
def gA:ByteArray:=B #[115,105,122,101]
def D4:ByteArray:=B #[118,97,108,117,101]
def FV:ByteArray:=B #[99,112,117]
def EJ:ByteArray:=B #[115,116,97,116,101]
def Ga:ByteArray:=B #[111,110]
def E3:ByteArray:=B #[119,97,107,101,115]
def aY:ByteArray:=B #[]
def pP:ByteArray:=B #[80]
def pN:ByteArray:=B #[78]
def pS:ByteArray:=B #[83]
def pM:ByteArray:=B #[77]
def e8:List Fm:=[⟨B #[66],1,true,aY,aY,false⟩,⟨B #[69],2,false,aY,aY,false⟩,⟨B #[105],3,true,aY,aY,false⟩,⟨B #[67],4,true,D4,aY,false⟩,
 ⟨pP,5,false,eJ,aY,true⟩,⟨B #[115],6,false,jK,aY,false⟩,⟨B #[102],7,false,jK,aY,false⟩,⟨B #[82],8,false,FV,aY,false⟩,
 ⟨pS,9,false,EJ,Ga,false⟩,⟨B #[87],10,false,E3,aY,false⟩,⟨pN,11,false,jK,gA,true⟩,⟨B #[68],12,false,jK,aY,false⟩]
def bh (f:Fm) (on:Bool):List ByteArray:=
 if f.ph=pP then cN::bq::(if f.name then [bg] else [])++[eL,aU,eJ]
 else if f.ph=pN then cN::bq::(if f.name then [bg] else [])++[eL,jK,gA,aU]
 else cN::bq::(if f.name then [bg] else [])++[eL]++(if f.n≠aY then [f.n] else [])++(if f.m≠aY∧on=true then [f.m] else [])
def js (j:JV) (key:ByteArray) (op:Int):Option JV:=match dh j key with
 | some v=>if v.op=op then some v else none
 | none=>none
def bc (j:JV) (key:ByteArray) (op:Int):JV:=(js j key op).getD eo
def dp (j:JV) (key:ByteArray) (op:Int):Bool:=(js j key op).isNone
def fq (j:JV) (l:List ByteArray):Bool:=decide (j.keys.length=l.length) && !l.any fun k=>!j.keys.any fun x=>decide (k=x)
def rj (j:JV):List ByteArray:=(bc j aU 5).kids.map JV.s
def bD (j:JV) (bad:Bool):Bool:=(((bad || dp j bq 3) || decide ((bc j bq 3).n < 0)) || dp j cN 4)
def gh (l:List JV):Bool:=l.any fun k=>!decide (k.op=4)
theorem AN {j:JV} {key:ByteArray} {op:Int} (h:(bif !(dh j key).isSome then true else !decide (((dh j key).getD eo).op=op))=true):dp j key op=true∧bc j key op=eo:=by
 have e:js j key op=none:=by
  unfold js
  cases hg:dh j key with
  | none=>rfl
  | some v=>rw[hg] at h;show(if v.op=op then some v else none)=none;rw[if_neg (by simpa using h)]
 unfold dp bc;rw[e];exact⟨rfl,rfl⟩
theorem CX {j:JV} {key:ByteArray} {op:Int} (h:(bif !(dh j key).isSome then true else !decide (((dh j key).getD eo).op=op))=false):dp j key op=false∧bc j key op=(dh j key).getD eo:=by
 cases I:dh j key with
 | none=>rw[I] at h;cases h
 | some v=>
   rw[I] at h;have e:js j key op=some v:=by unfold js;rw[I];show(if v.op=op then some v else none)=some v;rw[if_pos (by simpa using h)]
   unfold dp bc;rw[e];exact⟨rfl,rfl⟩
end Go.Tb
namespace Go.Tb
open Go.Ab
def nN:Ev:=⟨0,0,aY,0,0,[]⟩
def vm (j:JV):Int:=(bc j eL 3).n
def dP (j:JV) (b:Bool):Bool:=b || dp j eL 3
def ko (j:JV) (f:Fm):ByteArray:=if f.name=true then (bc j bg 4).s else aY
def dC (j:JV) (f:Fm) (b:Bool):Bool:=if f.name=true then b || dp j bg 4 else b
def nO (j:JV) (f:Fm):Int:=if f.n=aY then 0 else (bc j f.n 3).n
def fJ (j:JV) (f:Fm) (b:Bool):Bool:=if f.n=aY then b else b || dp j f.n 3
def fO (j:JV) (f:Fm):Bool:=bif !decide (f.ph=pS) then true else decide (nO j f=2)
def lX (f:Fm) (on:Bool):Bool:=bif !decide (f.m=aY) then on else false
def mO (j:JV) (f:Fm) (on:Bool):Int:=if lX f on=true then (bc j f.m 3).n else 0
def ja (j:JV) (f:Fm) (on:Bool) (b:Bool):Bool:=if lX f on=true then b || dp j f.m 3 else b
def xh (j:JV) (f:Fm):List ByteArray:=if f.st=true then rj j else []
def nG (j:JV) (f:Fm) (b:Bool):Bool:=if f.st=true then (b || dp j aU 5) || gh (bc j aU 5).kids else b
def kv (j:JV) (f:Fm):Ev:=⟨vm j,f.kind,ko j f,nO j f,mO j f (fO j f),xh j f⟩
def vB (j:JV) (f:Fm) (b:Bool):Bool:=nG j f (ja j f (fO j f) (fJ j f (dC j f (dP j b))))
def iP (ph:ByteArray):Option Fm:=match e8.findIdx? fun f=>decide (f.ph=ph) with
 | some i=>e8[i]?
 | none=>none
def bM (j:JV):Bool:=!decide (j.op=6)
def bm (j:JV):Int×Ev×Int:=
 if aX j 1≠0 then (0,nN,aX j 1)
 else if bD j (bM j)=true then (0,nN,10)
 else match iP (bc j cN 4).s with
  | none=>(0,nN,10)
  | some f=>if (bif vB j f (bD j (bM j)) then true else !fq j (bh f (fO j f)))=true then (0,nN,10)
    else if cn (kv j f)≠0 then (0,nN,cn (kv j f)) else ((bc j bq 3).n,kv j f,0)
end Go.Tb
namespace Go.Tb
open Go.Ab
def oT (j:JV):Bool:=
 bif !decide (j.op=6) then true else bif !(dh j cN).isSome then true else bif !(dh j bq).isSome then true else bif !decide (((dh j cN).getD eo).op=4) then true
  else bif !decide (((dh j bq).getD eo).op=3) then true else bif decide (((dh j bq).getD eo).n < 0) then true else decide (1000000000000000 < ((dh j bq).getD eo).n)
def uR (j:JV):Prop:=∀ v∈j.kids,v.kids.length≤1000000000
theorem qv {j v:JV} {key:ByteArray} (h:dh j key=some v):v∈j.kids:=by
 unfold dh at h;split at h
 ·split at h
  ·exact List.mem_of_getElem? h
  ·cases h
 ·cases h
theorem uR.get {j:JV} (h:uR j) (key:ByteArray):((dh j key).getD eo).kids.length≤1000000000:=by
 cases hg:dh j key with
 | none=>simp[eo,JV.kids]
 | some v=>exact h v (qv hg)
theorem uR.val {j:JV} (h:uR j) (key:ByteArray) (op:Int):(bc j key op).kids.length≤1000000000:=by
 unfold bc js
 cases hg:dh j key with
 | none=>simp[eo,JV.kids]
 | some v=>
   show((if v.op=op then some v else none).getD eo).kids.length≤_;split;·exact h v (qv hg)
   ·simp[eo,JV.kids]
end Go.Tb
namespace Go.Tb
open Go.Ab
/-! a text from a position on -/
theorem b9 {l:List UInt8} {i:Nat} {a:UInt8} {r:List UInt8} (h:l.drop i=a::r):i < l.length∧ak l i=a∧l.drop (i+1)=r:=by
 have I:i < l.length:=by
  rcases Nat.lt_or_ge i l.length with h1 | h1
  ·exact h1
  ·rw[List.drop_eq_nil_of_le h1] at h;cases h
 rw[List.drop_eq_getElem_cons I] at h;injection h with h1 h2;refine⟨I,?_,h2⟩;unfold ak;rw[List.getD_eq_getElem?_getD,List.getElem?_eq_getElem I];exact h1
theorem jO {l x r:List UInt8} {i:Nat} (h:l.drop i=x++r):l.drop (i+x.length)=r:=by rw[←List.drop_drop,h,List.drop_append_of_le_length (Nat.le_refl _),List.drop_length,List.nil_append]
theorem kA {l:List UInt8} {i:Nat} (h:l.length≤i):ak l i=0:=by unfold ak;rw[List.getD_eq_getElem?_getD,List.getElem?_eq_none h];rfl
theorem fR {l:List UInt8} {i:Nat}:ak l i=(l.drop i).headD 0:=by
 rcases Nat.lt_or_ge i l.length with h1 | h1
 ·rw[List.drop_eq_getElem_cons h1]
  unfold ak;rw[List.getD_eq_getElem?_getD,List.getElem?_eq_getElem h1];rfl
 ·rw[kA h1,List.drop_eq_nil_of_le h1];rfl
/-! white space -/
theorem yz {l:List UInt8} {i:Nat} (h:iA (ak l i)=false):∀ k,kb l k i=i
 | 0=>rfl
 | k+1=>by simp only[kb];rw[if_neg (by simp[h])]
theorem dd {l:List UInt8} {i:Nat} (h:iA (ak l i)=false):ar l i=i:=yz h _
theorem uz (l:List UInt8):∀ (k i:Nat),i≤kb l k i
 | 0,_=>Nat.le_refl _
 | k+1,i=>by
   simp only[kb];split;·exact Nat.le_trans (Nat.le_succ i) (uz l k (i+1))
   ·exact Nat.le_refl _
theorem vQ (l:List UInt8):∀ (k i:Nat),i≤l.length→kb l k i≤l.length
 | 0,_,h=>h
 | k+1,i,h=>by
   simp only[kb];split;·rename_i q;exact vQ l k (i+1) q.1
   ·exact h
theorem bP (l:List UInt8) (i:Nat):i≤ar l i:=uz l _ i
theorem bR {l:List UInt8} {i:Nat} (h:i≤l.length):ar l i≤l.length:=vQ l _ i h
theorem tE {l:List UInt8} {i:Nat} (h:l.length≤i):ar l i=i:=by refine dd ?_;rw[kA h];rfl
theorem qL {l:List UInt8} {i:Nat} (h:i < l.length) (hw:iA (ak l i)=true):ar l i=ar l (i+1):=by unfold ar;obtain⟨k,I⟩:∃ k,l.length - i=k+1:=⟨l.length - i - 1,by omega⟩;rw[I,show l.length - (i+1)=k by omega];simp only[kb];rw[if_pos ⟨h,hw⟩]
theorem pJ {l x r:List UInt8}:∀ {i:Nat},l.drop i=x++r→(∀ b∈x,iA b=true)→ar l i=ar l (i+x.length):=by
 induction x with
 | nil=>intro i _ _;rfl
 | cons a x I=>intro i h hw;obtain⟨h1,h2,h3⟩:=b9 h;rw[qL h1 (by rw[h2];exact hw a (List.mem_cons_self ..)),I h3 (fun b hb=>hw b (List.mem_cons_of_mem _ hb)),List.length_cons];congr 1;omega
/-! words and texts -/
theorem kI {l:List UInt8} {i:Nat} {a:UInt8} {r:List UInt8} (h:l.drop i=a::r):bw l a i=.ok () (i+1):=by obtain⟨h1,h2,_⟩:=b9 h;unfold bw;rw[if_pos ⟨h1,h2⟩]
theorem nn {l:List UInt8}:∀ {x:List UInt8} {i:Nat} {r:List UInt8},l.drop i=x++r→b5 l x i=.ok () (i+x.length)
 | [],i,r,_=>rfl
 | a::x,i,r,h=>by obtain⟨h1,h2,h3⟩:=b9 h;simp only[b5,kI h];rw[nn h3,List.length_cons];congr 1;omega
theorem wz {b:UInt8} (h:known b=true):b=9∨b=10∨(32≤b.toNat∧b.toNat≤126):=by
 unfold known at h;simp only[Bool.or_eq_true,Bool.and_eq_true,decide_eq_true_eq] at h;rcases h with h | h | h
 ·exact .inl (UInt8.toNat_inj.1 h)
 ·exact .inr (.inl (UInt8.toNat_inj.1 h))
 ·exact .inr (.inr h)
theorem sL {l:List UInt8}:∀ {t:List UInt8} {k i:Nat} {acc r:List UInt8},(∀ b∈t,known b=true)→l.drop i=t.flatMap b8++34::r→t.length+1≤k→cC l k i acc=.ok (acc++t) (i+(t.flatMap b8).length+1)
 | [],k,i,acc,r,_,h,hk=>by obtain⟨k,rfl⟩:∃ J,k=J+1:=⟨k - 1,by simp at hk;omega⟩;obtain⟨h1,h2,h3⟩:=b9 (show l.drop i=34::r from h);unfold cC;rw[h2,if_neg (by decide),if_pos rfl];simp
 | b::t,k,i,acc,r,hp,h,hk=>by
   obtain⟨k,rfl⟩:∃ J,k=J+1:=⟨k - 1,by simp at hk;omega⟩;have hb:=wz (hp b (List.mem_cons_self ..));have N:=fun O M U=>sL (l:=l) (t:=t) (k:=k) (i:=O) (acc:=M) (r:=r) (fun x X=>hp x (List.mem_cons_of_mem _ X)) U (by simp at hk;omega);have e:(b::t).flatMap b8=b8 b++t.flatMap b8:=rfl;rw[e,List.append_assoc] at h;have I:∀ (c d:UInt8),b8 b=[92,c]→(∀ j,ak l j=c→dQ l j=.ok d (j+1))→d=b→cC l (k+1) i acc=.ok (acc++b::t) (i+((b::t).flatMap b8).length+1):=by intro c d he hj hd;subst hd;rw[he] at h;obtain⟨h1,h2,h3⟩:=b9 (show l.drop i=92::(c::(t.flatMap b8++34::r)) from h);obtain⟨h4,h5,Z⟩:=b9 h3;unfold cC;rw[h2,if_neg (by decide),if_neg (by decide),if_pos rfl,hj _ h5];dsimp only;rw[N _ _ Z,e,he];simp;omega
   by_cases q1:b=34∨b=92
   ·refine I b b (by unfold b8;rw[if_pos q1]) (fun j hj=>?_) rfl
    unfold dQ;rw[if_pos (by rw[hj];rcases q1 with q | q;exact .inl q;exact .inr (.inl q)),hj]
   by_cases q2:b=10
   ·refine I 110 10 (by unfold b8;rw[if_neg q1,if_pos q2]) (fun j hj=>?_) q2.symm
    unfold dQ;rw[hj,if_neg (by decide),if_pos rfl]
   by_cases q3:b=9
   ·refine I 116 9 (by unfold b8;rw[if_neg q1,if_neg q2,if_pos q3]) (fun j hj=>?_) q3.symm
    unfold dQ;rw[hj,if_neg (by decide),if_neg (by decide),if_pos rfl]
   have he:b8 b=[b]:=by unfold b8;rw[if_neg q1,if_neg q2,if_neg q3]
   have hr:32≤b.toNat∧b.toNat≤126:=by
    rcases hb with h | h | h
    ·exact absurd h q3
    ·exact absurd h q2
    ·exact h
   rw[he] at h;obtain⟨h1,h2,h3⟩:=b9 (show l.drop i=b::(t.flatMap b8++34::r) from h);unfold cC;rw[h2,if_neg (by omega),if_neg (fun q=>q1 (.inl q)),if_neg (fun q=>q1 (.inr q)),N _ _ h3,e,he];simp;omega
theorem vU {l:List UInt8} {t:List UInt8} {i:Nat} {r:List UInt8} (hp:∀ b∈t,known b=true) (h:l.drop i=bY t++r):de l i=.ok t (i+(bY t).length):=by
 have I:l.drop i=34::(t.flatMap b8++34::r):=by rw[h];simp[bY]
 obtain⟨h1,h2,h3⟩:=b9 I;unfold de;rw[kI I];dsimp only;have hlen:t.length≤(t.flatMap b8).length:=by
  clear h I h3
  induction t with
  | nil=>simp
  | cons a t J=>
    have:1≤(b8 a).length:=by unfold b8;split <;> (try split) <;> (try split) <;> simp
    have:=J fun b hb=>hp b (List.mem_cons_of_mem _ hb);simp only[List.flatMap_cons,List.length_append,List.length_cons];omega
 have hl:(l.drop (i+1)).length=l.length - (i+1):=List.length_drop ..;rw[h3] at hl;simp only[List.length_append,List.length_cons] at hl;rw[sL hp h3 (by omega)];simp[bY];omega
end Go.Tb
namespace Go.Tb
open Go.Ab
theorem jH (s:ByteArray):bytesOf (ah s)=s:=by cases s;rfl
theorem dT (l:List UInt8):ah (bytesOf l)=l:=by simp[ah,bytesOf]
/-! numbers -/
theorem y7:∀ u,(dR u).headD 0=48→u=0:=by
 refine nt (fun u h I=>?_) (fun u h M I=>?_)
 ·rw[gT h] at I
  have h1:(UInt8.ofNat (48+u)).toNat=48:=by have:(UInt8.ofNat (48+u))=48:=I;rw[this];rfl
  rw[UInt8.toNat_ofNat'] at h1;omega
 ·rw[kK h] at I
  have J:=gP (u / 10);have:(dR (u / 10)).headD 0=48:=by
   cases hd:dR (u / 10) with
   | nil=>exact absurd hd J
   | cons a r=>rw[hd] at I;exact I
  have:=M this;omega
theorem wZ {l:List UInt8}:∀ {x:List UInt8} {k i:Nat} {r:List UInt8},l.drop i=x++r→(∀ b∈x,cW b=true)→cW (r.headD 0)=false→x.length≤k→gy l k i=i+x.length
 | [],k,i,r,h,_,hr,_=>by
   have I:ak l i=r.headD 0:=by rw[fR,h];rfl
   cases k with
   | zero=>rfl
   | succ k=>simp only[gy];rw[if_neg (by rw[I,hr];simp)];rfl
 | a::x,k,i,r,h,hd,hr,hk=>by obtain⟨k,rfl⟩:∃ J,k=J+1:=⟨k - 1,by simp at hk;omega⟩;obtain⟨h1,h2,h3⟩:=b9 h;simp only[gy];rw[if_pos ⟨h1,by rw[h2];exact hd a (List.mem_cons_self ..)⟩,wZ h3 (fun b hb=>hd b (List.mem_cons_of_mem _ hb)) hr (by simp at hk;omega),List.length_cons];omega
theorem xR {u:Nat}:cW ((dR u).headD 0)=true:=by
 cases hd:dR u with
 | nil=>exact absurd hd (gP u)
 | cons a r=>exact kE u a (by rw[hd];exact List.mem_cons_self ..)
theorem uL {l:List UInt8} {u i:Nat} {r:List UInt8} (h:l.drop i=dR u++r) (I:cW (r.headD 0)=false):bo l i=i+(dR u).length:=by
 have J:ak l i=(dR u).headD 0:=by
  rw[fR,h]
  cases hd:dR u with
  | nil=>exact absurd hd (gP u)
  | cons a x=>rfl
 unfold bo;by_cases q:ak l i=48
 ·rw[if_pos q]
  have:=y7 u (by rw[←J];exact q);subst this;rw[gT (by decide)];rfl
 ·rw[if_neg q]
  refine wZ h (kE u) I ?_;have:(l.drop i).length=l.length - i:=List.length_drop ..;rw[h,List.length_append] at this;omega
theorem wm {b:UInt8} (h:cW b=true):b≠45:=by rintro rfl;exact absurd h (by decide)
theorem Dg {l:List UInt8} {n:Int} {i:Nat} {r:List UInt8} (I:cY n=true) (h:l.drop i=ah (cT n)++r) (J:cW (r.headD 0)=false):dz l i=.ok (.mk 3 n (B #[]) [] []) (i+(ah (cT n)).length):=by
 have hb:ah (cT n)=Lib.itoa n:=jS n;have key:∀ i1 i2,(if ak l i=45 then i+1 else i)=i1→bo l i1=i2→i2≠i1→i2=i+(ah (cT n)).length→dz l i=.ok (.mk 3 n (B #[]) [] []) (i+(ah (cT n)).length):=by
  intro i1 i2 h1 h2 h3 h4;unfold dz;rw[h1];dsimp only;rw[h2,if_neg h3];have M:(⟨((l.drop i).take (i2 - i)).toArray⟩:ByteArray)=cT n:=by rw[h4,Nat.add_sub_cancel_left,h,List.take_append_of_le_length (Nat.le_refl _),List.take_length];exact jH (cT n)
  have N:¬ cT n=B #[45,48]:=fun q=>by
   have h5:=ve I;rw[q] at h5;exact absurd h5 (by
    have:fE (B #[45,48])=(0,false):=by decide +kernel
    rw[this];simp)
  rw[M];simp only[if_neg N];rw[ve I,if_pos rfl,h4]
 rcases Int.lt_or_le n 0 with h0 | h0
 ·rw[hb,iy h0] at h
  obtain⟨h1,h2,h3⟩:=b9 (show l.drop i=45::(dR n.natAbs++r) from h);have hd:=uL h3 J;have hp:=List.length_pos_iff.2 (gP n.natAbs);exact key (i+1) _ (if_pos h2) hd (by omega) (by rw[hb,iy h0,List.length_cons];omega)
 ·rw[hb,iD h0] at h
  have hd:=uL h J;have hp:=List.length_pos_iff.2 (gP n.toNat);have O:ak l i=(dR n.toNat).headD 0:=by
   rw[fR,h]
   cases hd:dR n.toNat with
   | nil=>exact absurd hd (gP _)
   | cons a x=>rfl
  refine key i _ (if_neg (by rw[O];exact wm xR)) hd (by omega) (by rw[hb,iD h0])
/-! what a valid node is -/
theorem fM {j:JV} {level:Int} (h:eA j level=0):bG j=true∧¬ ((j.op=2∧j.n≠0∧j.n≠1)∨(j.op=3∧cY j.n=false))∧cH j.s=true∧(∀ s∈j.keys,cH s=true)∧eN [] j.keys=false∧(5≤j.op→level≤16):=by
 unfold eA at h;split at h;·cases h
 ·rename_i h1
  split at h;·cases h
  ·rename_i h2
   split at h;·cases h
   ·rename_i h3
    split at h;·cases h
    ·rename_i h4
     split at h;·cases h
     ·rename_i h5
      refine⟨by simpa using h1,h2,?_,fun s hs=>?_,by simpa using h4,fun q=>by omega⟩
      ·by_cases q:cH j.s=true
       ·exact q
       ·exact absurd (.inl (by simpa using q)) h3
      ·by_cases q:cH s=true
       ·exact q
       ·exact absurd (.inr (List.any_eq_true.2 ⟨s,hs,by simpa using q⟩)) h3
theorem pU {s:ByteArray} (h:cH s=true):∀ b∈ah s,known b=true:=List.all_eq_true.1 h
theorem kq {α β:Type} {a:List α} {b:List β} (h:a.length+b.length=0):a=[]∧b=[]:=⟨List.length_eq_zero_iff.1 (by omega),List.length_eq_zero_iff.1 (by omega)⟩
/-! the first byte of a printed value -/
theorem pL (j:JV) (level:Int) (h:aX j level=0):∃ a r,aq j=a::r∧iA a=false:=by
 obtain⟨op,n,s,keys,kids⟩:=j;simp only[aq];split;·exact⟨_,_,rfl,by decide⟩
 ·split
  ·split
   ·exact⟨_,_,rfl,by decide⟩
   ·exact⟨_,_,rfl,by decide⟩
  ·split
   ·rcases Int.lt_or_le n 0 with h0 | h0
    ·exact⟨45,dR n.natAbs,by rw[show ah (cT n)=Lib.itoa n from jS n,iy h0],by decide⟩
    ·rw[show ah (cT n)=Lib.itoa n from jS n,iD h0]
     cases hd:dR n.toNat with
     | nil=>exact absurd hd (gP _)
     | cons a r=>refine⟨a,r,rfl,?_⟩;have h1:=kE n.toNat a (by rw[hd];exact List.mem_cons_self ..);unfold cW at h1;simp only[Bool.and_eq_true,decide_eq_true_eq] at h1;unfold iA;simp only[Bool.or_eq_false_iff,decide_eq_false_iff_not];omega
   ·split
    ·exact⟨34,_,rfl,by decide⟩
    ·split
     ·exact⟨123,_,rfl,by decide⟩
     ·exact⟨91,_,rfl,by decide⟩
end Go.Tb
namespace Go.Tb
open Go.Ab
theorem dF (x:JV) (r:List JV) (first:Bool):bZ (x::r) first=(if first then [] else [44])++aq x++bZ r false:=by simp[bZ]
theorem cp (s:ByteArray) (keys:List ByteArray) (x:JV) (r:List JV) (first:Bool):aR (s::keys) (x::r) first=(if first then [] else [44])++bY (ah s)++[58]++aq x++aR keys r false:=by simp[aR]
theorem ot {seen:List ByteArray} {s:ByteArray} {r:List ByteArray}:eN seen (s::r)=false↔seen.any (fun x=>decide (x=s))=false∧eN (seen++[s]) r=false:=by simp only[eN];cases seen.any (fun x=>decide (x=s)) <;> simp
theorem fI {k:JV} {r:List JV} {level:Int} (h:cB (k::r) level=0):aX k level=0∧cB r level=0:=by
 simp only[cB] at h;split at h;·rename_i q;exact absurd h q
 ·rename_i q;exact⟨by simpa using q,h⟩
theorem iJ {op n:Int} {s:ByteArray} {keys:List ByteArray} {kids:List JV} {level:Int} (h:aX (.mk op n s keys kids) level=0):eA (.mk op n s keys kids) level=0∧cB kids (level+1)=0:=by
 simp only[aX] at h;split at h;·rename_i q;exact absurd h q
 ·rename_i q;exact⟨by simpa using q,h⟩
theorem xW (op n:Int) (s:ByteArray) (keys:List ByteArray) (kids:List JV):bG (.mk op n s keys kids) =
 (if op=1 then decide (n=0) && (decide (s=B #[]) && decide (keys.length+kids.length=0))
 else if op=2∨op=3 then decide (s=B #[]) && decide (keys.length+kids.length=0)
 else if op=4 then decide (n=0) && decide (keys.length+kids.length=0)
 else if op=5 then decide (n=0) && (decide (s=B #[]) && decide (keys.length=0))
 else if op=6 then decide (n=0) && (decide (s=B #[]) && decide (keys.length=kids.length))
 else false):=rfl
def Bf (v:JV):Prop:=∀ (level:Int),aX v level=0→∀ (l:List UInt8) (i k:Nat) (r:List UInt8),l.drop i=aq v++r→cW (r.headD 0)=false→3*(aq v).length+1≤k→cb l k level i=.ok v (i+(aq v).length)
theorem rz {level:Int} {l:List UInt8} {r:List UInt8}:∀ (kids:List JV),(∀ x∈kids,Bf x)→cB kids (level+1)=0→kids≠[]→∀ (i k:Nat) (acc:List JV),l.drop i=bZ kids true++93::r→3*((bZ kids true).length+1)≤k →
 eb l k level i acc=.ok (.mk 5 0 (B #[]) [] (acc++kids)) (i+(bZ kids true).length+1)
 | [],_,_,hne,_,_,_,_,_=>absurd rfl hne
 | x::kids,hb,hc,_,i,k,acc,h,hk=>by
   obtain⟨J,M⟩:=fI hc;rw[dF] at h hk ⊢;simp only[if_true,List.nil_append,List.append_assoc] at h;simp only[if_true,List.nil_append,List.length_append] at hk ⊢;obtain⟨k,rfl⟩:∃ N,k=N+1:=⟨k - 1,by omega⟩;have hd:cW ((bZ kids false++93::r).headD 0)=false:=by
    cases kids with
    | nil=>rfl
    | cons y kids=>rw[dF];rfl
   have O:=hb x (List.mem_cons_self ..) (level+1) J l i k _ h hd (by omega);have h2:=jO h;unfold eb;rw[O];dsimp only
   cases kids with
   | nil=>have I:l.drop (i+(aq x).length)=93::r:=h2;obtain⟨h3,h4,h5⟩:=b9 I;rw[dd (by rw[h4];decide),h4,if_neg (by decide),kI I];simp[bZ]
   | cons y kids=>
     have e:bZ (y::kids) false=44::bZ (y::kids) true:=by rw[dF,dF];simp
     rw[e] at h2 hk ⊢;obtain⟨h3,h4,h5⟩:=b9 (show l.drop (i+(aq x).length)=44::(bZ (y::kids) true++93::r) from h2);rw[dd (by rw[h4];decide),h4,if_pos rfl];have:=rz (y::kids) (fun z U=>hb z (List.mem_cons_of_mem _ U)) M (by simp) (i+(aq x).length+1) k (acc++[x]) h5 (by simp only[List.length_cons] at hk;omega);rw[this];simp only[List.append_assoc,List.cons_append,List.nil_append,List.length_cons,PE.ok.injEq,true_and];omega
theorem oA {level:Int} {l:List UInt8} {r:List UInt8}:∀ (keys:List ByteArray) (kids:List JV),keys.length=kids.length→(∀ s∈keys,cH s=true)→(∀ x∈kids,Bf x)→cB kids (level+1)=0→kids≠[] →
 ∀ (i k:Nat) (seen:List ByteArray) (acc:List JV),eN seen keys=false→l.drop i=aR keys kids true++125::r→3*((aR keys kids true).length+1)≤k →
 dZ l k level i seen acc=.ok (.mk 6 0 (B #[]) (seen++keys) (acc++kids)) (i+(aR keys kids true).length+1)
 | _,[],_,_,_,_,hne,_,_,_,_,_,_,_=>absurd rfl hne
 | [],_::_,hl,_,_,_,_,_,_,_,_,_,_,_=>by simp at hl
 | s::keys,x::kids,hl,hp,hb,hc,_,i,k,seen,acc,hr,h,hk=>by
   obtain⟨N,O⟩:=fI hc;obtain⟨U,X⟩:=ot.1 hr;rw[cp] at h hk ⊢;simp only[if_true,List.nil_append,List.append_assoc,List.cons_append] at h;simp only[if_true,List.nil_append,List.length_append,List.length_cons,List.length_nil] at hk ⊢;obtain⟨k,rfl⟩:∃ k',k=k'+1:=⟨k - 1,by omega⟩;have hq:ak l i=34:=by rw[fR,h];rfl
   have ht:=vU (pU (hp s (List.mem_cons_self ..))) h;have h2:=jO h;obtain⟨h3,h4,h5⟩:=b9 h2;have hd:cW ((aR keys kids false++125::r).headD 0)=false:=by
    cases keys with
    | nil=>simp[aR];decide
    | cons t keys=>
      cases kids with
      | nil=>simp[aR];decide
      | cons y kids=>rw[cp];rfl
   have hv:=hb x (List.mem_cons_self ..) (level+1) N l _ k _ h5 hd (by omega);have J:=jO h5;unfold dZ;dsimp only;rw[dd (by rw[hq];decide),ht];dsimp only;rw[jH,if_neg (by rw[U];simp),dd (by rw[h4];decide),kI h2];dsimp only;rw[hv];dsimp only
   cases kids with
   | nil=>
     have Z:keys=[]:=List.length_eq_zero_iff.1 (by simpa using hl);subst Z;have h7:l.drop (i+(bY (ah s)).length+1+(aq x).length)=125::r:=by rw[J]<;>rfl
     obtain⟨h8,I,_⟩:=b9 h7;rw[dd (by rw[I];decide),I,if_neg (by decide),kI h7];simp[aR];omega
   | cons y kids=>
     cases keys with
     | nil=>simp at hl
     | cons t keys=>
       have e:aR (t::keys) (y::kids) false=44::aR (t::keys) (y::kids) true:=by rw[cp,cp];simp
       rw[e] at J hk ⊢;obtain⟨h8,I,ad⟩:=b9 (show l.drop (i+(bY (ah s)).length+1+(aq x).length)=44::(aR (t::keys) (y::kids) true++125::r) from J);rw[dd (by rw[I];decide),I,if_pos rfl];have:=oA (t::keys) (y::kids) (by simpa using hl) (fun z M=>hp z (List.mem_cons_of_mem _ M)) (fun z M=>hb z (List.mem_cons_of_mem _ M)) O (by simp) _ k (seen++[s]) (acc++[x]) X ad (by simp only[List.length_cons] at hk;omega);rw[this];simp only[List.append_assoc,List.cons_append,List.nil_append,List.length_cons,PE.ok.injEq,true_and];omega
theorem back:∀ v,Bf v:=by
  refine JV.ind fun v ih=>?_
  obtain⟨op,n,s,keys,kids⟩:=v
  intro level hc l i k r h hr hk
  obtain⟨hn,hcs⟩:=iJ hc
  obtain⟨hf,hrange,hpl,hkeys,hrep,hlev⟩:=fM hn
  simp only[JV.op,JV.n,JV.s,JV.keys] at hrange hpl hkeys hrep hlev
  obtain⟨k,rfl⟩:∃ k',k=k'+1:=⟨k - 1,by omega⟩
  obtain⟨a,q,hpa,hws⟩:=pL _ level hc
  have hhere:ak l i=a:=by rw[fR,h,hpa];rfl
  have hskip:ar l i=i:=dd (by rw[hhere];exact hws)
  unfold cb
  dsimp only
  rw[hskip]
  rw[xW] at hf
  by_cases o1:op=1
  · subst o1
    rw[if_pos rfl] at hf
    simp only[Bool.and_eq_true,decide_eq_true_eq] at hf
    obtain⟨rfl,rfl,hz⟩:=hf
    obtain⟨rfl,rfl⟩:=kq hz
    have hp:aq (.mk 1 0 (B #[]) [] [])=lb:=by simp[aq]
    rw[hp] at h ⊢
    rw[(b9 (show l.drop i=110::([117,108,108]++r) from h)).2.1,if_pos rfl,nn h]
  by_cases o2:op=2
  · subst o2
    rw[if_neg (show ¬ (2:Int)=1 by decide),if_pos (.inl rfl)] at hf
    simp only[Bool.and_eq_true,decide_eq_true_eq] at hf
    obtain⟨rfl,hz⟩:=hf
    obtain⟨rfl,rfl⟩:=kq hz
    by_cases n1:n=1
    · subst n1
      have hp:aq (.mk 2 1 (B #[]) [] [])=je:=by simp[aq]
      rw[hp] at h ⊢
      rw[(b9 (show l.drop i=116::([114,117,101]++r) from h)).2.1,if_neg (by decide),if_pos rfl,nn h]
    · have n0:n=0:=by
        by_cases z:n=0
        · exact z
        · exact absurd (.inl ⟨rfl,z,n1⟩) hrange
      subst n0
      have hp:aq (.mk 2 0 (B #[]) [] [])=gK:=by simp[aq]
      rw[hp] at h ⊢
      rw[(b9 (show l.drop i=102::([97,108,115,101]++r) from h)).2.1,if_neg (by decide),if_neg (by decide),if_pos rfl,nn h]
  by_cases o3:op=3
  · subst o3
    rw[if_neg (show ¬ (3:Int)=1 by decide),if_pos (.inr rfl)] at hf
    simp only[Bool.and_eq_true,decide_eq_true_eq] at hf
    obtain⟨rfl,hz⟩:=hf
    obtain⟨rfl,rfl⟩:=kq hz
    have hin:cY n=true:=by
      by_cases z:cY n=true
      · exact z
      · exact absurd (.inr ⟨rfl,by simpa using z⟩) hrange
    have hp:aq (.mk 3 n (B #[]) [] [])=ah (cT n):=by simp[aq]
    rw[hp] at h hpa ⊢
    have hnum:=Dg hin h hr
    have ha:cW a=true∨a=45:=by
      have hb:ah (cT n)=Lib.itoa n:=jS n
      rw[hb] at hpa
      rcases Int.lt_or_le n 0 with h0 | h0
      · rw[iy h0] at hpa;injection hpa with h1 _;exact .inr h1.symm
      · rw[iD h0] at hpa
        exact .inl (kE n.toNat a (by rw[hpa];exact List.mem_cons_self ..))
    have hne:a≠110∧a≠116∧a≠102∧a≠34∧a≠91∧a≠123:=by
      rcases ha with ha | ha
      · refine⟨?_,?_,?_,?_,?_,?_⟩ <;> (rintro rfl;exact absurd ha (by decide))
      · subst ha;decide
    rw[hhere,if_neg hne.1,if_neg hne.2.1,if_neg hne.2.2.1,if_neg hne.2.2.2.1,if_neg (by rintro(z | z);exact hne.2.2.2.2.1 z;exact hne.2.2.2.2.2 z),hnum]
  by_cases o4:op=4
  · subst o4
    rw[if_neg (by decide),if_neg (by decide),if_pos rfl] at hf
    simp only[Bool.and_eq_true,decide_eq_true_eq] at hf
    obtain⟨rfl,hz⟩:=hf
    obtain⟨rfl,rfl⟩:=kq hz
    have hp:aq (.mk 4 0 s [] [])=bY (ah s):=by simp[aq]
    rw[hp] at h ⊢
    have ht:=vU (pU hpl) h
    rw[show ak l i=34 by rw[fR,h];rfl,if_neg (by decide),if_neg (by decide),if_neg (by decide),if_pos rfl,ht]
    dsimp only
    rw[jH]
  by_cases o5:op=5
  · subst o5
    rw[if_neg (by decide),if_neg (by decide),if_neg (by decide),if_pos rfl] at hf
    simp only[Bool.and_eq_true,decide_eq_true_eq] at hf
    obtain⟨rfl,rfl,hz⟩:=hf
    have hkz:=List.length_eq_zero_iff.1 hz
    subst hkz
    have hp:aq (.mk 5 0 (B #[]) [] kids)=91::(bZ kids true++[93]):=by simp[aq]
    rw[hp] at h hk ⊢
    simp only[List.length_cons,List.length_append,List.length_nil] at hk ⊢
    have hl:=hlev (by decide)
    obtain⟨h1,h2,h3⟩:=b9 (show l.drop i=91::(bZ kids true++[93]++r) by rw[h];simp)
    rw[h2,if_neg (by decide),if_neg (by decide),if_neg (by decide),if_neg (by decide),if_pos (.inl rfl),if_neg (by omega),if_pos rfl]
    obtain⟨k,rfl⟩:∃ k',k=k'+1:=⟨k - 1,by omega⟩
    unfold eS
    dsimp only
    cases kids with
    | nil=>
      obtain⟨h4,h5,h6⟩:=b9 (show l.drop (i+1)=93::r by rw[h3];rfl)
      rw[dd (by rw[h5];decide),h5,if_pos rfl]
      simp[bZ]
    | cons x kids=>
      obtain⟨hc1,hc2⟩:=fI hcs
      obtain⟨b,t,hb,hbw⟩:=pL x (level+1) hc1
      have hh:ak l (i+1)=b:=by rw[fR,h3,dF];simp[hb]
      have hb93:b≠93:=by
        rintro rfl
        have:=ih x (List.mem_cons_self ..) (level+1) hc1 (aq x) 0 (3*(aq x).length+1) [] (by simp) rfl (Nat.le_refl _)
        rw[hb] at this
        simp only[cb] at this
        rw[dd (by show iA 93=false;decide)] at this
        simp[ak,dz,bo,gy,cW] at this
      rw[dd (by rw[hh];exact hbw),hh,if_neg hb93]
      have h3':l.drop (i+1)=bZ (x::kids) true++93::r:=by rw[h3];simp
      rw[rz (x::kids) (fun z hz=>ih z hz) hcs (by simp) (i+1) k [] h3' (by omega)]
      simp only[List.nil_append,PE.ok.injEq,true_and]
      omega
  by_cases o6:op=6
  · subst o6
    rw[if_neg (by decide),if_neg (by decide),if_neg (by decide),if_neg (by decide),if_pos rfl] at hf
    simp only[Bool.and_eq_true,decide_eq_true_eq] at hf
    obtain⟨rfl,rfl,hz⟩:=hf
    have hp:aq (.mk 6 0 (B #[]) keys kids)=123::(aR keys kids true++[125]):=by simp[aq]
    rw[hp] at h hk ⊢
    simp only[List.length_cons,List.length_append,List.length_nil] at hk ⊢
    have hl:=hlev (by decide)
    obtain⟨h1,h2,h3⟩:=b9 (show l.drop i=123::(aR keys kids true++[125]++r) by rw[h];simp)
    rw[h2,if_neg (by decide),if_neg (by decide),if_neg (by decide),if_neg (by decide),if_pos (.inr rfl),if_neg (by omega),if_neg (by decide)]
    obtain⟨k,rfl⟩:∃ k',k=k'+1:=⟨k - 1,by omega⟩
    unfold eT
    dsimp only
    cases kids with
    | nil=>
      have hkz:=List.length_eq_zero_iff.1 hz
      subst hkz
      obtain⟨h4,h5,h6⟩:=b9 (show l.drop (i+1)=125::r by rw[h3];simp[aR])
      rw[dd (by rw[h5];decide),h5,if_pos rfl]
      simp[aR]
    | cons x kids=>
      cases keys with
      | nil=>simp at hz
      | cons t keys=>
        have hh:ak l (i+1)=34:=by rw[fR,h3,cp];simp[bY]
        rw[dd (by rw[hh];decide),hh,if_neg (by decide)]
        have h3':l.drop (i+1)=aR (t::keys) (x::kids) true++125::r:=by rw[h3];simp
        rw[oA (t::keys) (x::kids) hz hkeys (fun z hz=>ih z hz) hcs (by simp) (i+1) k [] [] hrep h3' (by omega)]
        simp only[List.nil_append,PE.ok.injEq,true_and]
        omega
  · rw[if_neg o1,if_neg (show ¬ (op=2∨op=3) by rintro(z | z);exact o2 z;exact o3 z),if_neg o4,if_neg o5,if_neg o6] at hf
    cases hf
theorem qF {v:JV} (h:aX v 1=0) {x y:List UInt8} (N:∀ b∈x,iA b=true) (I:∀ b∈y,iA b=true):cR (x++aq v++y)=.ok v 0:=by
 have hd:∀ b,iA b=true→cW b=false:=by intro b hb;unfold iA at hb;simp only[Bool.or_eq_true,decide_eq_true_eq] at hb;unfold cW;simp only[Bool.and_eq_false_iff,decide_eq_false_iff_not];omega
 have J:cW (y.headD 0)=false:=by
  cases y with
  | nil=>rfl
  | cons a y=>exact hd a (I a (List.mem_cons_self ..))
 obtain⟨l,hl⟩:∃ l,x++aq v++y=l:=⟨_,rfl⟩;have h0:l.drop 0=x++(aq v++y):=by rw[←hl];simp
 have h1:l.drop x.length=aq v++y:=by have:=jO h0;rwa [Nat.zero_add] at this
 have hlen:l.length=x.length+(aq v).length+y.length:=by rw[←hl];simp;omega
 have hs:=pJ h0 N;rw[Nat.zero_add] at hs;have hb:=back v 1 h l x.length (3*l.length+1) y h1 J (by omega);have e:cb l (3*l.length+1) 1 0=cb l (3*l.length+1) 1 x.length:=by unfold cb;rw[hs]
 rw[hl];unfold cR;rw[e,hb];dsimp only;have h2:=jO h1;have M:ar l (x.length+(aq v).length)=l.length:=by
  have h3:l.drop (x.length+(aq v).length)=y++[]:=by rw[h2];simp
  rw[pJ h3 I,show x.length+(aq v).length+y.length=l.length by omega];exact tE (Nat.le_refl _)
 rw[M,if_neg (Nat.lt_irrefl _)]
end Go.Tb
namespace Go.Tb
open Go.Ab
/-! positions -/
def Bd {α:Type} (l:List UInt8) (i:Nat):PE α→Prop
 | .ok _ j=>i < j∧j≤l.length
 | .no a _=>i≤a∧a≤l.length
theorem gD {l:List UInt8} {c:UInt8} {i:Nat} (h:i≤l.length):Bd l i (bw l c i):=by
 unfold bw;split;·rename_i q;exact⟨Nat.lt_succ_self _,q.1⟩
 ·exact⟨Nat.le_refl _,h⟩
theorem ku {l:List UInt8}:∀ {x:List UInt8} {i:Nat},i≤l.length→(match b5 l x i with | .ok _ j=>j=i+x.length∧j≤l.length | .no a _=>i≤a∧a≤l.length)
 | [],i,h=>⟨rfl,h⟩
 | c::x,i,h=>by
   simp only[b5];have h1:=gD (c:=c) h
   cases I:bw l c i with
   | no a w=>rw[I] at h1;exact h1
   | ok u j=>
     have hj:j=i+1∧i < l.length:=by
      unfold bw at I;split at I;·rename_i q;injection I with _ h2;exact⟨h2.symm,q.1⟩
      ·cases I
     have J:=ku (l:=l) (x:=x) (i:=j) (by omega);dsimp only;revert J
     cases b5 l x j with
     | ok _ j2=>rintro⟨h2,h3⟩;exact⟨by simp only[List.length_cons];omega,h3⟩
     | no a w=>rintro⟨h2,h3⟩;exact⟨by omega,h3⟩
theorem vv {l:List UInt8}:∀ {x:List UInt8} {i a:Nat} {w:Int},b5 l x i=.no a w→w=10
 | [],i,a,w,h=>by cases h
 | c::x,i,a,w,h=>by
   simp only[b5] at h
   cases ht:bw l c i with
   | no a' w'=>
     rw[ht] at h;unfold bw at ht;split at ht;·cases ht
     ·injection ht with _ h2;injection h with _ h3;omega
   | ok u j=>rw[ht] at h;exact vv h
theorem b6 {l:List UInt8} {i:Nat} (h:ak l i≠0):i < l.length:=by
 rcases Nat.lt_or_ge i l.length with h1 | h1
 ·exact h1
 ·exact absurd (kA h1) h
theorem xf {l:List UInt8} {i n:Nat} (h:jc (ak l i)=some n):i < l.length:=b6 fun q=>by rw[q,show jc 0=none by decide] at h;cases h
theorem sE {l:List UInt8} {i:Nat} (h:i≤l.length):Bd l i (dQ l i):=by
 unfold dQ;split
 ·rename_i q
  exact⟨Nat.lt_succ_self _,b6 fun z=>by rw[z] at q;revert q;decide⟩
 ·split
  ·rename_i q;exact⟨Nat.lt_succ_self _,b6 (by rw[q];decide)⟩
  ·split
   ·rename_i q;exact⟨Nat.lt_succ_self _,b6 (by rw[q];decide)⟩
   ·have hw:=ku (l:=l) (x:=[117,48,48]) h
    revert hw
    cases b5 l [117,48,48] i with
    | no a w=>exact fun hw=>hw
    | ok u j=>
      rintro⟨h1,h2⟩;have h1:j=i+3:=h1;dsimp only;split;·exact⟨by omega,h2⟩
      ·rename_i high I
       have:=xf I;split;·exact⟨by omega,h2⟩
       ·split
        ·exact⟨by omega,by omega⟩
        ·rename_i low hl
         have:=xf hl;split;·exact⟨by omega,by omega⟩
         ·exact⟨by omega,by omega⟩
theorem nW {l:List UInt8}:∀ {k i:Nat} {acc:List UInt8},i≤l.length→Bd l i (cC l k i acc)
 | 0,i,_,h=>⟨Nat.le_refl _,h⟩
 | k+1,i,acc,h=>by
   unfold cC;split;·exact⟨Nat.le_refl _,h⟩
   ·rename_i M
    have I:i < l.length:=b6 fun z=>M (by rw[z];left;decide);split;·exact⟨Nat.lt_succ_self _,I⟩
    ·split
     ·have he:=sE (l:=l) (i:=i+1) I
      revert he
      cases dQ l (i+1) with
      | no a w=>rintro⟨h1,h2⟩;exact⟨by omega,h2⟩
      | ok c j=>
        rintro⟨h1,h2⟩;have J:=nW (l:=l) (k:=k) (i:=j) (acc:=acc++[c]) h2;dsimp only;revert J
        cases cC l k j (acc++[c]) with
        | no a w=>rintro⟨h3,h4⟩;exact⟨by omega,h4⟩
        | ok t j2=>rintro⟨h3,h4⟩;exact⟨by omega,h4⟩
     ·have J:=nW (l:=l) (k:=k) (i:=i+1) (acc:=acc++[ak l i]) I
      revert J
      cases cC l k (i+1) (acc++[ak l i]) with
      | no a w=>rintro⟨h3,h4⟩;exact⟨by omega,h4⟩
      | ok t j2=>rintro⟨h3,h4⟩;exact⟨by omega,h4⟩
theorem Bd.mono {α:Type} {l:List UInt8} {i I:Nat} (h:I≤i):∀ {x:PE α},Bd l i x→Bd l I x
 | .ok _ _,⟨h1,h2⟩=>⟨Nat.lt_of_le_of_lt h h1,h2⟩
 | .no _ _,⟨h1,h2⟩=>⟨Nat.le_trans h h1,h2⟩
theorem kS {l:List UInt8} {i:Nat} (h:i≤l.length):Bd l i (de l i):=by
 unfold de;have h1:=gD (c:=34) h;revert h1
 cases bw l 34 i with
 | no a w=>exact fun h1=>h1
 | ok u j=>rintro⟨h1,h2⟩;exact(nW h2).mono (Nat.le_of_lt h1)
theorem wQ {l:List UInt8}:∀ {k i:Nat},i≤l.length→i≤gy l k i∧gy l k i≤l.length
 | 0,i,h=>⟨Nat.le_refl _,h⟩
 | k+1,i,h=>by
   simp only[gy];split
   ·rename_i q
    have:=wQ (l:=l) (k:=k) (i:=i+1) q.1;exact⟨by omega,this.2⟩
   ·exact⟨Nat.le_refl _,h⟩
theorem mY {l:List UInt8} {i:Nat} (h:i≤l.length):i≤bo l i∧bo l i≤l.length:=by
 unfold bo;split
 ·rename_i q
  exact⟨Nat.le_succ _,b6 (by rw[q];decide)⟩
 ·exact wQ h
theorem EB {α:Type} {l:List UInt8} {i:Nat} {c:Prop} [Decidable c] {a b:PE α} (I:Bd l i a) (hb:Bd l i b):Bd l i (if c then a else b):=by split <;> assumption
theorem CN {l:List UInt8} {i:Nat} (h:i≤l.length):Bd l i (dz l i):=by
 unfold dz;dsimp only;have h1:i≤(if ak l i=45 then i+1 else i)∧(if ak l i=45 then i+1 else i)≤l.length:=by
  split;·rename_i q;exact⟨Nat.le_succ _,b6 (by rw[q];decide)⟩
  ·exact⟨Nat.le_refl _,h⟩
 generalize (if ak l i=45 then i+1 else i)=i1 at h1 ⊢;have h2:=mY (l:=l) h1.2;by_cases q:bo l i1=i1;·rw[if_pos q];exact h1
 ·rw[if_neg q]
  exact EB ⟨by omega,h2.2⟩ ⟨Nat.le_refl _,h⟩
structure Fc (l:List UInt8) (k:Nat):Prop where
 v:∀ level i,i≤l.length→Bd l i (cb l k level i)
 a:∀ level i,i≤l.length→Bd l i (eS l k level i)
 ag:∀ level i acc,i≤l.length→Bd l i (eb l k level i acc)
 o:∀ level i,i≤l.length→Bd l i (eT l k level i)
 og:∀ level i keys acc,i≤l.length→Bd l i (dZ l k level i keys acc)
theorem qa {l x:List UInt8} {i:Nat} {v:JV} (I:x≠[]) (h:i≤l.length):Bd l i (match b5 l x i with | .no a w=>.no a w | .ok _ j=>.ok v j):=by
 have hw:=ku (l:=l) (x:=x) h;have:=List.length_pos_iff.2 I;revert hw
 cases b5 l x i with
 | no a w=>exact fun hw=>hw
 | ok u j=>rintro⟨h1,h2⟩;exact⟨by omega,h2⟩
theorem la (l:List UInt8):∀ k,Fc l k
 | 0=>⟨fun _ _ h=>by unfold cb;exact⟨Nat.le_refl _,h⟩,fun _ _ h=>by unfold eS;exact⟨Nat.le_refl _,h⟩,fun _ _ _ h=>by unfold eb;exact⟨Nat.le_refl _,h⟩,fun _ _ h=>by unfold eT;exact⟨Nat.le_refl _,h⟩,fun _ _ _ _ h=>by unfold dZ;exact⟨Nat.le_refl _,h⟩⟩
 | k+1=>by
   have J:=la l k;refine⟨fun level i0 h=>?_,fun level i0 h=>?_,fun level i acc h=>?_,fun level i0 h=>?_,fun level i0 keys acc h=>?_⟩
   ·have M:=bP l i0
    have hle:=bR h;unfold cb;dsimp only;refine Bd.mono M ?_;generalize ar l i0=i at hle ⊢;split;·exact qa (by decide) hle
    ·split
     ·exact qa (by decide) hle
     ·split
      ·exact qa (by decide) hle
      ·split
       ·have I:=kS (l:=l) hle
        revert I
        cases de l i with
        | no a w=>exact fun I=>I
        | ok t j=>exact fun I=>I
       ·split
        ·rename_i q
         have O:i < l.length:=b6 fun z=>by rw[z] at q;revert q;decide
         split;·exact⟨Nat.le_refl _,hle⟩
         ·split
          ·exact(J.a _ _ O).mono (Nat.le_succ _)
          ·exact(J.o _ _ O).mono (Nat.le_succ _)
        ·exact CN hle
   ·have M:=bP l i0
    have hle:=bR h;unfold eS;dsimp only;refine Bd.mono M ?_;generalize ar l i0=i at hle ⊢;split;·rename_i q;exact⟨Nat.lt_succ_self _,b6 (by rw[q];decide)⟩
    ·exact J.ag _ _ _ hle
   ·unfold eb
    have N:=J.v (level+1) i h;revert N
    cases cb l k (level+1) i with
    | no a w=>exact fun N=>N
    | ok v j=>
      rintro⟨h1,h2⟩;dsimp only;have M:=bP l j;have hle:=bR h2;split
      ·rename_i q
       exact(J.ag _ _ _ (b6 (by rw[q];decide))).mono (by omega)
      ·have I:=gD (c:=93) hle
       revert I
       cases bw l 93 (ar l j) with
       | no a w=>exact fun I=>Bd.mono (x:=(PE.no a w:PE JV)) (by omega) I
       | ok u j2=>exact fun I=>Bd.mono (x:=(PE.ok (JV.mk 5 0 (B #[]) [] (acc++[v])) j2)) (by omega) I
   ·have M:=bP l i0
    have hle:=bR h;unfold eT;dsimp only;refine Bd.mono M ?_;generalize ar l i0=i at hle ⊢;split;·rename_i q;exact⟨Nat.lt_succ_self _,b6 (by rw[q];decide)⟩
    ·exact J.og _ _ _ _ hle
   ·have M:=bP l i0
    have hle:=bR h;unfold dZ;dsimp only;refine Bd.mono M ?_;generalize ar l i0=i at hle ⊢;have I:=kS (l:=l) hle;revert I
    cases de l i with
    | no a w=>exact fun I=>I
    | ok t j=>
      rintro⟨h1,h2⟩;dsimp only;split;·exact⟨Nat.le_refl _,hle⟩
      ·have ai:=bP l j
       have U:=bR h2;have Z:=gD (c:=58) U;revert Z
       cases bw l 58 (ar l j) with
       | no a w=>exact fun I=>Bd.mono (x:=(PE.no a w:PE JV)) (by omega) I
       | ok u j1=>
         rintro⟨h3,h4⟩;dsimp only;have N:=J.v (level+1) j1 h4;revert N
         cases cb l k (level+1) j1 with
         | no a w=>exact fun I=>Bd.mono (x:=(PE.no a w:PE JV)) (by omega) I
         | ok v j2=>
           rintro⟨h5,h6⟩;dsimp only;have aj:=bP l j2;have X:=bR h6;split
           ·rename_i q
            exact(J.og _ _ _ _ (b6 (by rw[q];decide))).mono (by omega)
           ·have ad:=gD (c:=125) X
            revert ad
            cases bw l 125 (ar l j2) with
            | no a w=>exact fun I=>Bd.mono (x:=(PE.no a w:PE JV)) (by omega) I
            | ok u j3=>exact fun I=>Bd.mono (x:=(PE.ok (JV.mk 6 0 (B #[]) (keys++[bytesOf t]) (acc++[v])) j3)) (by omega) I
/-! fuel -/
structure Fu (l:List UInt8) (k:Nat):Prop where
 v:∀ level i,i≤l.length→3*(l.length - i)+1≤k→cb l (k+1) level i=cb l k level i
 a:∀ level i,i≤l.length→3*(l.length - i)+3≤k→eS l (k+1) level i=eS l k level i
 ag:∀ level i acc,i≤l.length→3*(l.length - i)+2≤k→eb l (k+1) level i acc=eb l k level i acc
 o:∀ level i,i≤l.length→3*(l.length - i)+3≤k→eT l (k+1) level i=eT l k level i
 og:∀ level i keys acc,i≤l.length→3*(l.length - i)+2≤k→dZ l (k+1) level i keys acc=dZ l k level i keys acc
theorem fuel (l:List UInt8):∀ k,Fu l k
 | 0=>⟨fun _ _ _ h=>by omega,fun _ _ _ h=>by omega,fun _ _ _ _ h=>by omega,fun _ _ _ h=>by omega,fun _ _ _ _ _ h=>by omega⟩
 | k+1=>by
   have J:=fuel l k;have bd:=la l k;refine⟨fun level i0 h N=>?_,fun level i0 h N=>?_,fun level i acc h N=>?_,fun level i0 h N=>?_,fun level i0 keys acc h N=>?_⟩
   ·have M:=bP l i0
    have hle:=bR h;rw[cb,cb];try dsimp only
    generalize ar l i0=i at M hle ⊢;by_cases q:ak l i=91∨ak l i=123
    ·have I:i < l.length:=b6 fun z=>by rw[z] at q;revert q;decide
     rw[J.a level (i+1) I (by omega),J.o level (i+1) I (by omega)]
    ·simp only[if_neg q]
   ·have M:=bP l i0
    have hle:=bR h;rw[eS,eS];try dsimp only
    rw[J.ag level _ [] hle (by omega)]
   ·rw[eb,eb,J.v (level+1) i h (by omega)]
    have O:=bd.v (level+1) i h;revert O
    cases cb l k (level+1) i with
    | no a w=>exact fun _=>rfl
    | ok v j=>
      rintro⟨h1,h2⟩;try dsimp only
      have M:=bP l j;by_cases q:ak l (ar l j)=44
      ·have I:ar l j < l.length:=b6 (by rw[q];decide)
       rw[if_pos q,if_pos q,J.ag level _ _ I (by omega)]
      ·rw[if_neg q,if_neg q]
   ·have M:=bP l i0
    have hle:=bR h;rw[eT,eT];try dsimp only
    rw[J.og level _ [] [] hle (by omega)]
   ·have M:=bP l i0
    have hle:=bR h;rw[dZ,dZ];try dsimp only
    generalize ar l i0=i at M hle ⊢;have X:=kS (l:=l) hle;revert X
    cases de l i with
    | no a w=>exact fun _=>rfl
    | ok t j=>
      rintro⟨h1,h2⟩;try dsimp only
      have Z:=bP l j;have U:=gD (c:=58) (bR h2);revert U
      cases bw l 58 (ar l j) with
      | no a w=>exact fun _=>rfl
      | ok u j1=>
        rintro⟨h3,h4⟩;try dsimp only
        rw[J.v (level+1) j1 h4 (by omega)];have O:=bd.v (level+1) j1 h4;revert O
        cases cb l k (level+1) j1 with
        | no a w=>exact fun _=>rfl
        | ok v j2=>
          rintro⟨h5,h6⟩;try dsimp only
          have ad:=bP l j2;by_cases q:ak l (ar l j2)=44
          ·have I:ar l j2 < l.length:=b6 (by rw[q];decide)
           rw[if_pos q,if_pos q,J.og level _ _ _ I (by omega)]
          ·rw[if_neg q,if_neg q]
theorem sI {l:List UInt8} {level:Int} {i k:Nat} (h:i≤l.length) (I:3*(l.length - i)+1≤k):∀ d,cb l (k+d) level i=cb l k level i
 | 0=>rfl
 | d+1=>by rw[←Nat.add_assoc,(fuel l (k+d)).v level i h (by omega),sI h I d]
end Go.Tb
namespace Go.Tb
open Go.Ab
structure xc (l m:List UInt8) (n:Nat):Prop where
 ll:n≤l.length
 lm:n≤m.length
 tk:m.take n=l.take n
def Gd (m:List UInt8) (n p:Nat):Prop:=p < n∨(p=n∧m.length=n)
section
variable {l m:List UInt8} {n:Nat}
theorem xc.here (H:xc l m n) {p:Nat} (h:p < n):ak m p=ak l p:=by
 have e:(m.take n)[p]? = (l.take n)[p]?:=by rw[H.tk]
 rw[List.getElem?_take,List.getElem?_take,if_pos h,if_pos h] at e;unfold ak;rw[List.getD_eq_getElem?_getD,List.getD_eq_getElem?_getD,e]
theorem Gd.le {p:Nat} (h:Gd m n p):p≤n:=by rcases h with h | ⟨h,_⟩ <;> omega
theorem xc.stop {f:UInt8→Bool} (J:f 0=false) (H:xc l m n) {p:Nat} (I:Gd m n p) (h:f (ak l p)=false):f (ak m p)=false:=by
 rcases I with I | ⟨rfl,I⟩
 ·rw[H.here I];exact h
 ·rw[kA (by omega)];exact J
/-! white space -/
/-! results -/
def Loc {α:Type} (m:List UInt8) (n:Nat) (r I:PE α):Prop:=match r with
 | .ok x j=>Gd m n j→I=.ok x j
 | .no a w=>((w=10∧Gd m n a)∨(w=20∧a < n))→I=.no a w
def Eb {α:Type} (j:Nat):PE α→Prop
 | .ok _ p=>j≤p
 | .no a _=>j≤a
theorem Eb.mono {α:Type} {i j:Nat} {r:PE α} (h:Eb i r) (hj:j≤i):Eb j r:=by
 cases r with
 | ok x p=>exact Nat.le_trans hj h
 | no a w=>exact Nat.le_trans hj h
theorem kM {c:UInt8} {i j:Nat} {u:Unit} (h:bw l c i=.ok u j):j=i+1∧i < l.length:=by
 unfold bw at h;split at h;·rename_i q;injection h with _ h2;exact⟨h2.symm,q.1⟩
 ·cases h
/-! escapes -/
def Ax (l:List UInt8) (high:Nat) (j:Nat):PE UInt8:=match jc (ak l j) with
 | none=>.no j 10
 | some low=>if known (UInt8.ofNat (16*high+low))=false then .no j 10 else .ok (UInt8.ofNat (16*high+low)) (j+1)
def Bo (l:List UInt8) (j:Nat):PE UInt8:=match jc (ak l j) with
 | none=>.no j 10
 | some high=>if high=1∨7 < high then .no j 10 else Ax l high (j+1)
def Bw (l:List UInt8) (i:Nat):PE UInt8:=match b5 l [117,48,48] i with
 | .no a w=>.no a w
 | .ok _ j=>Bo l j
theorem xq (l:List UInt8) (i:Nat):dQ l i=if ak l i=34∨ak l i=92∨ak l i=47 then .ok (ak l i) (i+1) else if ak l i=110 then .ok 10 (i+1) else if ak l i=116 then .ok 9 (i+1) else Bw l i:=rfl
/-! texts -/
/-! numbers -/
theorem xc.cut (H:xc l m n) {i j:Nat} (hj:j≤n):(m.drop i).take (j - i)=(l.drop i).take (j - i):=by
 rcases Nat.lt_or_ge i j with h | h
 ·rw[List.take_drop,List.take_drop,show i+(j - i)=j by omega]
  have e:∀ a:List UInt8,a.take j=(a.take n).take j:=fun a=>by rw[List.take_take,Nat.min_eq_left hj]
  rw[e m,e l,H.tk]
 ·rw[show j - i=0 by omega];simp
end
end Go.Tb
namespace Go.Tb
open Go.Ab
theorem xt (l:List UInt8) (k:Nat) (level:Int) (i0:Nat):cb l (k+1) level i0 =
 if ak l (ar l i0)=110 then (match b5 l lb (ar l i0) with | .no a w=>.no a w | .ok _ j=>.ok (.mk 1 0 (B #[]) [] []) j)
 else if ak l (ar l i0)=116 then (match b5 l je (ar l i0) with | .no a w=>.no a w | .ok _ j=>.ok (.mk 2 1 (B #[]) [] []) j)
 else if ak l (ar l i0)=102 then (match b5 l gK (ar l i0) with | .no a w=>.no a w | .ok _ j=>.ok (.mk 2 0 (B #[]) [] []) j)
 else if ak l (ar l i0)=34 then (match de l (ar l i0) with | .no a w=>.no a w | .ok t j=>.ok (.mk 4 0 (bytesOf t) [] []) j)
 else if ak l (ar l i0)=91∨ak l (ar l i0)=123 then
  if 16 < level then .no (ar l i0) 20
  else if ak l (ar l i0)=91 then eS l k level (ar l i0+1) else eT l k level (ar l i0+1)
 else dz l (ar l i0):=by rw[cb]<;>rfl
theorem sB (l:List UInt8) (k:Nat) (level:Int) (i0:Nat):eS l (k+1) level i0 =
 if ak l (ar l i0)=93 then .ok (.mk 5 0 (B #[]) [] []) (ar l i0+1) else eb l k level (ar l i0) []:=by rw[eS]
theorem qi (l:List UInt8) (k:Nat) (level:Int) (i:Nat) (acc:List JV):eb l (k+1) level i acc =
 match cb l k (level+1) i with
 | .no a w=>.no a w
 | .ok v j=>
   if ak l (ar l j)=44 then eb l k level (ar l j+1) (acc++[v])
   else match bw l 93 (ar l j) with | .no a w=>.no a w | .ok _ j2=>.ok (.mk 5 0 (B #[]) [] (acc++[v])) j2:=by rw[eb]<;>rfl
theorem sr (l:List UInt8) (k:Nat) (level:Int) (i0:Nat):eT l (k+1) level i0 =
 if ak l (ar l i0)=125 then .ok (.mk 6 0 (B #[]) [] []) (ar l i0+1) else dZ l k level (ar l i0) [] []:=by rw[eT]
theorem qB (l:List UInt8) (k:Nat) (level:Int) (i0:Nat) (keys:List ByteArray) (acc:List JV):dZ l (k+1) level i0 keys acc =
 match de l (ar l i0) with
 | .no a w=>.no a w
 | .ok t j=>
   if keys.any (fun x=>decide (x=bytesOf t)) then .no (ar l i0) 4 else
   match bw l 58 (ar l j) with
   | .no a w=>.no a w
   | .ok _ j1=>match cb l k (level+1) j1 with
     | .no a w=>.no a w
     | .ok v j2=>
       if ak l (ar l j2)=44 then dZ l k level (ar l j2+1) (keys++[bytesOf t]) (acc++[v])
       else match bw l 125 (ar l j2) with | .no a w=>.no a w | .ok _ j4=>.ok (.mk 6 0 (B #[]) (keys++[bytesOf t]) (acc++[v])) j4:=by rw[dZ]<;>rfl
section
variable {l m:List UInt8} {n:Nat}
structure Lo (l m:List UInt8) (n k:Nat):Prop where
 v:∀ level i,i≤l.length→Loc m n (cb l k level i) (cb m k level i)
 a:∀ level i,i≤l.length→Loc m n (eS l k level i) (eS m k level i)
 ag:∀ level i acc,i≤l.length→Loc m n (eb l k level i acc) (eb m k level i acc)
 o:∀ level i,i≤l.length→Loc m n (eT l k level i) (eT m k level i)
 og:∀ level i keys acc,i≤l.length→Loc m n (dZ l k level i keys acc) (dZ m k level i keys acc)
end
/-! the nesting's fault stands at a byte -/
structure Dp (l:List UInt8) (k:Nat):Prop where
 v:∀ level i a,cb l k level i=.no a 20→a < l.length
 a:∀ level i a,eS l k level i=.no a 20→a < l.length
 ag:∀ level i acc a,eb l k level i acc=.no a 20→a < l.length
 o:∀ level i a,eT l k level i=.no a 20→a < l.length
 og:∀ level i keys acc a,dZ l k level i keys acc=.no a 20→a < l.length
def FN {α:Type}:PE α→Prop
 | .ok _ _=>True
 | .no _ w=>w≠20
theorem FN.not {α:Type} {r:PE α} {a:Nat} (h:FN r) (e:r=.no a 20):False:=by subst e;exact h rfl
/-! the whole text -/
theorem vA {l:List UInt8} {k:Nat} (I:3*l.length+1≤k):cR l=match cb l k 1 0 with
 | .no a w=>.no a w
 | .ok j i=>if ar l i < l.length then .no (ar l i) 10 else .ok j 0:=by
 unfold cR;obtain⟨d,rfl⟩:∃ d,k=3*l.length+1+d:=⟨k - (3*l.length+1),by omega⟩;rw[sI (Nat.zero_le _) (by omega) d]<;>cases cb l (3*l.length+1) 1 0 <;> rfl
theorem BK {l:List UInt8} {a:Nat} {w:Int} (h:cR l=.no a w):a≤l.length:=by
 rw[vA (Nat.le_refl _)] at h;have hb:=(la l (3*l.length+1)).v 1 0 (Nat.zero_le _)
 cases I:cb l (3*l.length+1) 1 0 with
 | no a' w'=>rw[I] at h hb;injection h with h1 _;subst h1;exact hb.2
 | ok v j=>
   rw[I] at h hb;dsimp only at h;split at h;·injection h with h1 _;subst h1;exact bR hb.2
   ·cases h
end Go.Tb
namespace Go.Tb
open Go.Ab
section
variable {l:List UInt8}
theorem yx {c:UInt8} (h:¬ (c.toNat < 32∨126 < c.toNat)):known c=true:=by unfold known;simp only[Bool.or_eq_true,Bool.and_eq_true,decide_eq_true_eq];omega
theorem yG {i j:Nat} {c:UInt8} (h:dQ l i=.ok c j):known c=true:=by
 rw[xq] at h;split at h
 ·rename_i q
  injection h with h1 _;subst h1;rcases q with q | q | q <;> rw[q] <;> decide
 ·split at h
  ·injection h with h1 _;subst h1;decide
  ·split at h
   ·injection h with h1 _;subst h1;decide
   ·unfold Bw at h
    cases hw:b5 l [117,48,48] i with
    | no a w=>rw[hw] at h;cases h
    | ok u p=>
      rw[hw] at h;dsimp only at h;unfold Bo at h;split at h;·cases h
      ·split at h
       ·cases h
       ·unfold Ax at h
        split at h;·cases h
        ·split at h
         ·cases h
         ·rename_i q
          injection h with h1 _;subst h1;simpa using q
theorem Bl (c:UInt8):(b8 c).length≤2:=by
 unfold b8;split;·simp
 ·split
  ·simp
  ·split <;> simp
theorem nE:∀ (k i:Nat) (acc t:List UInt8) (j:Nat),(∀ b∈acc,known b=true)→cC l k i acc=.ok t j→(∀ b∈t,known b=true)∧(t.flatMap b8).length+i+1≤(acc.flatMap b8).length+j
 | 0,i,acc,t,j,_,h=>by unfold cC at h;cases h
 | k+1,i,acc,t,j,hk,h=>by
   unfold cC at h;split at h;·cases h
   ·rename_i q1
    split at h
    ·injection h with h1 h2
     subst h1;subst h2;exact⟨hk,by omega⟩
    ·rename_i q2
     split at h
     ·rename_i q3
      have I:i < l.length:=b6 (by rw[q3];decide)
      cases he:dQ l (i+1) with
      | no a w=>rw[he] at h;cases h
      | ok c p=>
        rw[he] at h;have hb:=sE (l:=l) (i:=i+1) I;rw[he] at hb;obtain⟨h1,h2⟩:=nE k p _ t j (fun b hb=>by
         rcases List.mem_append.1 hb with hb | hb
         ·exact hk b hb
         ·obtain rfl:b=c:=by simpa using hb
          exact yG he) h
        refine⟨h1,?_⟩;rw[List.flatMap_append,List.length_append] at h2;have h3:([c].flatMap b8).length≤2:=by simpa using Bl c
        have:=hb.1;omega
     ·rename_i q3
      obtain⟨h1,h2⟩:=nE k (i+1) _ t j (fun b hb=>by
       rcases List.mem_append.1 hb with hb | hb
       ·exact hk b hb
       ·obtain rfl:b=ak l i:=by simpa using hb
        exact yx q1) h
      refine⟨h1,?_⟩;rw[List.flatMap_append,List.length_append] at h2;have h3:([ak l i].flatMap b8).length=1:=by have J:¬ (ak l i=34∨ak l i=92):=fun e=>e.elim q2 q3;have M:¬ ak l i=10:=fun e=>q1 (.inl (by rw[e];decide));have N:¬ ak l i=9:=fun e=>q1 (.inl (by rw[e];decide));simp[b8,J,M,N]
      omega
theorem uF {i j:Nat} {t:List UInt8} (h:de l i=.ok t j):(∀ b∈t,known b=true)∧(bY t).length+i≤j:=by
 unfold de at h
 cases I:bw l 34 i with
 | no a w=>rw[I] at h;cases h
 | ok u p=>
   rw[I] at h;obtain⟨h1,h2⟩:=nE _ p [] t j (fun b hb=>by cases hb) h;obtain⟨e,_⟩:=kM I;refine⟨h1,?_⟩;have:(bY t).length=(t.flatMap b8).length+2:=by simp[bY]
   rw[show([].flatMap b8:List UInt8).length=0 from rfl] at h2;omega
theorem CA {i j:Nat} {v:JV} (hi:i≤l.length) (h:dz l i=.ok v j):∃ n,v=.mk 3 n (B #[]) [] []∧cY n=true∧(ah (cT n)).length+i≤j:=by
 unfold dz at h;dsimp only at h;have h1:i≤(if ak l i=45 then i+1 else i)∧(if ak l i=45 then i+1 else i)≤l.length:=by
  split;·rename_i q;exact⟨Nat.le_succ _,b6 (by rw[q];decide)⟩
  ·exact⟨Nat.le_refl _,hi⟩
 generalize (if ak l i=45 then i+1 else i)=i1 at h1 h;have h2:=mY (l:=l) h1.2;by_cases q:bo l i1=i1;·rw[if_pos q] at h;cases h
 ·rw[if_neg q] at h
  generalize hu:(if (⟨((l.drop i).take (bo l i1 - i)).toArray⟩:ByteArray)=B #[45,48] then B #[48] else ⟨((l.drop i).take (bo l i1 - i)).toArray⟩)=u at h;have J:u.size≤bo l i1 - i:=by
   subst hu;have e:(⟨((l.drop i).take (bo l i1 - i)).toArray⟩:ByteArray).size≤bo l i1 - i:=by show(((l.drop i).take (bo l i1 - i)).toArray).size≤_;simp only[List.size_toArray,List.length_take];omega
   split
   ·rename_i q
    rw[q] at e;exact Nat.le_trans (by decide) e
   ·exact e
  split at h
  ·rename_i c
   injection h with h3 h4;subst h3;subst h4;obtain⟨h5,I⟩:=zh (s:=u) (v:=(fE u).1) (by rw[←c]);refine⟨_,rfl,h5,?_⟩;rw[←I,aw];omega
  ·cases h
theorem dJ {op n:Int} {s:ByteArray} {keys:List ByteArray} {kids:List JV} {level:Int} (h1:bG (.mk op n s keys kids)=true) (h2:¬ ((op=2∧n≠0∧n≠1)∨(op=3∧cY n=false))) (h3:cH s=true) (h4:∀ x∈keys,cH x=true) (h5:eN [] keys=false) (I:¬ (5≤op∧16 < level)):eA (.mk op n s keys kids) level=0:=by
 have e:(keys.any fun s=>!cH s)=false:=by rw[List.any_eq_false];intro x J;rw[h4 x J];decide
 unfold eA;rw[if_neg (by rw[h1];decide),if_neg (by simpa only[JV.op,JV.n] using h2),if_neg (by simp only[JV.s,JV.keys];rw[h3,e];decide),if_neg (by simp only[JV.keys];rw[h5];decide),if_neg (by simpa only[JV.op] using I)]
theorem dr {op n:Int} {s:ByteArray} {keys:List ByteArray} {kids:List JV} {level:Int} (h:eA (.mk op n s keys kids) level=0) (I:cB kids (level+1)=0):aX (.mk op n s keys kids) level=0:=by unfold aX;rw[if_neg (by rw[h];decide)];exact I
theorem eP {x:JV} {r:List JV} {level:Int} (h:aX x level=0) (I:cB r level=0):cB (x::r) level=0:=by unfold cB;rw[if_neg (by rw[h];decide)];exact I
theorem cX {level:Int}:cB [] level=0:=by unfold cB;rfl
theorem cP:cH (B #[])=true:=by decide
theorem j6 {t:List UInt8} (h:∀ b∈t,known b=true):cH (bytesOf t)=true:=by unfold cH;rw[dT];exact List.all_eq_true.2 h
theorem ox {x:JV} {r:List JV}:(bZ (x::r) false).length=(bZ (x::r) true).length+1:=by rw[dF,dF];simp
theorem ma {s:ByteArray} {ks:List ByteArray} {x:JV} {r:List JV}:(aR (s::ks) (x::r) false).length=(aR (s::ks) (x::r) true).length+1:=by rw[cp,cp];simp
theorem sq {x:List UInt8} {v w:JV} {i j:Nat} (hi:i≤l.length) (h:(match b5 l x i with | .no a w=>.no a w | .ok _ j=>.ok v j:PE JV)=.ok w j):w=v∧j=i+x.length:=by
 have hb:=ku (l:=l) (x:=x) hi
 cases I:b5 l x i with
 | no a w=>rw[I] at h;cases h
 | ok u p=>rw[I] at h hb;injection h with h1 h2;exact⟨h1.symm,by rw[←h2];exact hb.1⟩
structure Vd (l:List UInt8) (k:Nat):Prop where
 v:∀ level i v j,i≤l.length→cb l k level i=.ok v j→aX v level=0∧(aq v).length+i≤j
 a:∀ level i v j,i≤l.length→level≤16→eS l k level i=.ok v j→aX v level=0∧(aq v).length+i≤j+1
 ag:∀ level i acc v j,i≤l.length→level≤16→eb l k level i acc=.ok v j→∃ x r,v=.mk 5 0 (B #[]) [] (acc++x::r)∧cB (x::r) (level+1)=0∧(bZ (x::r) true).length+1+i≤j
 o:∀ level i v j,i≤l.length→level≤16→eT l k level i=.ok v j→aX v level=0∧(aq v).length+i≤j+1
 og:∀ level i keys acc v j,i≤l.length→level≤16→dZ l k level i keys acc=.ok v j→∃ s ks x r,v=.mk 6 0 (B #[]) (keys++s::ks) (acc++x::r)∧ks.length=r.length∧(∀ s'∈s::ks,cH s'=true)∧eN keys (s::ks)=false∧cB (x::r) (level+1)=0∧(aR (s::ks) (x::r) true).length+1+i≤j
theorem zg:∀ k,Vd l k
 | 0=>by
   refine⟨fun _ _ _ _ _ h=>?_,fun _ _ _ _ _ _ h=>?_,fun _ _ _ _ _ _ _ h=>?_,fun _ _ _ _ _ _ h=>?_,fun _ _ _ _ _ _ _ _ h=>?_⟩;·unfold cb at h;cases h
   ·unfold eS at h;cases h
   ·unfold eb at h;cases h
   ·unfold eT at h;cases h
   ·unfold dZ at h;cases h
 | k+1=>by
   have J:=zg k;have bd:=la l k;refine⟨fun level i0 v j h0 h=>?_,fun level i0 v j h0 hl h=>?_,fun level i acc v j h0 hl h=>?_,fun level i0 v j h0 hl h=>?_,fun level i0 keys acc v j h0 hl h=>?_⟩
   ·have X:=bP l i0
    have hle:=bR h0;rw[xt] at h;split at h
    ·obtain⟨rfl,rfl⟩:=sq hle h
     exact⟨dr (dJ (by simp[bG,JV.op,JV.n,JV.s,JV.keys,JV.kids]) (by omega) cP (by simp) (by simp[eN]) (by omega)) cX,by simp[aq,lb];omega⟩
    ·split at h
     ·obtain⟨rfl,rfl⟩:=sq hle h
      exact⟨dr (dJ (by simp[bG,JV.op,JV.n,JV.s,JV.keys,JV.kids]) (by omega) cP (by simp) (by simp[eN]) (by omega)) cX,by simp[aq,je];omega⟩
     ·split at h
      ·obtain⟨rfl,rfl⟩:=sq hle h
       exact⟨dr (dJ (by simp[bG,JV.op,JV.n,JV.s,JV.keys,JV.kids]) (by omega) cP (by simp) (by simp[eN]) (by omega)) cX,by simp[aq,gK];omega⟩
      ·split at h
       ·cases I:de l (ar l i0) with
        | no a w=>rw[I] at h;cases h
        | ok t p=>rw[I] at h;injection h with h1 h2;subst h1;subst h2;obtain⟨h3,h4⟩:=uF I;exact⟨dr (dJ (by simp[bG,JV.op,JV.n,JV.s,JV.keys,JV.kids]) (by omega) (j6 h3) (by simp) (by simp[eN]) (by omega)) cX,by simp[aq,dT];omega⟩
       ·split at h
        ·rename_i q
         have Z:ar l i0 < l.length:=b6 fun z=>by rw[z] at q;revert q;decide
         split at h;·cases h
         ·split at h
          ·obtain⟨h1,h2⟩:=J.a _ _ _ _ Z (by omega) h
           exact⟨h1,by omega⟩
          ·obtain⟨h1,h2⟩:=J.o _ _ _ _ Z (by omega) h
           exact⟨h1,by omega⟩
        ·obtain⟨n,rfl,h1,h2⟩:=CA hle h
         exact⟨dr (dJ (by simp[bG,JV.op,JV.n,JV.s,JV.keys,JV.kids]) (by simp[h1]) cP (by simp) (by simp[eN]) (by omega)) cX,by rw[show aq (.mk 3 n (B #[]) [] [])=ah (cT n) by simp[aq]];omega⟩
   ·have X:=bP l i0
    have hle:=bR h0;rw[sB] at h;split at h
    ·injection h with h1 h2
     subst h1;subst h2;exact⟨dr (dJ (by simp[bG,JV.op,JV.n,JV.s,JV.keys,JV.kids]) (by omega) cP (by simp) (by simp[eN]) (by omega)) cX,by simp[aq,bZ];omega⟩
    ·obtain⟨x,r,rfl,h1,h2⟩:=J.ag _ _ _ _ _ hle hl h
     refine⟨dr (dJ (by simp[bG,JV.op,JV.n,JV.s,JV.keys,JV.kids]) (by omega) cP (by simp) (by simp[eN]) (by omega)) h1,?_⟩;simp[aq];omega
   ·rw[qi] at h
    have hb:=bd.v (level+1) i h0
    cases N:cb l k (level+1) i with
    | no a w=>rw[N] at h;cases h
    | ok v1 j1=>
      rw[N] at h hb;obtain⟨h1,h2⟩:=J.v _ _ _ _ h0 N;have X:=bP l j1;have hle:=bR hb.2;dsimp only at h;split at h
      ·rename_i q
       obtain⟨x,r,rfl,h3,h4⟩:=J.ag _ _ _ _ _ (b6 (by rw[q];decide)) hl h;refine⟨v1,x::r,by simp,eP h1 h3,?_⟩;have e:=ox (x:=x) (r:=r);rw[dF];simp only[if_true,List.nil_append,List.length_append];omega
      ·cases I:bw l 93 (ar l j1) with
       | no a w=>rw[I] at h;cases h
       | ok u j2=>rw[I] at h;injection h with h3 h4;subst h3;subst h4;obtain⟨e,_⟩:=kM I;refine⟨v1,[],rfl,eP h1 cX,?_⟩;rw[dF];simp only[if_true,List.nil_append,List.length_append];simp[bZ];omega
   ·have X:=bP l i0
    have hle:=bR h0;rw[sr] at h;split at h
    ·injection h with h1 h2
     subst h1;subst h2;exact⟨dr (dJ (by simp[bG,JV.op,JV.n,JV.s,JV.keys,JV.kids]) (by omega) cP (by simp) (by simp[eN]) (by omega)) cX,by simp[aq,aR];omega⟩
    ·obtain⟨s,ks,x,r,rfl,h1,h2,h3,h4,h5⟩:=J.og _ _ _ _ _ _ hle hl h
     refine⟨dr (dJ (by simp[bG,JV.op,JV.n,JV.s,JV.keys,JV.kids,h1]) (by omega) cP h2 h3 (by omega)) h4,?_⟩;simp[aq];omega
   ·rw[qB] at h
    have X:=bP l i0;have hle:=bR h0;have ad:=kS (l:=l) hle
    cases I:de l (ar l i0) with
    | no a w=>rw[I] at h;cases h
    | ok t p=>
      rw[I] at h ad;obtain⟨ai,a6⟩:=uF I;dsimp only at h;split at h;·cases h
      ·rename_i q4
       have q4:keys.any (fun x=>decide (x=bytesOf t))=false:=(Bool.not_eq_true _).mp q4;have a7:=bP l p;have aj:=bR ad.2
       cases O:bw l 58 (ar l p) with
       | no a w=>rw[O] at h;cases h
       | ok u j1=>
         rw[O] at h;obtain⟨e1,e2⟩:=kM O;dsimp only at h;have hb:=bd.v (level+1) j1 (by omega)
         cases N:cb l k (level+1) j1 with
         | no a w=>rw[N] at h;cases h
         | ok v1 j2=>
           rw[N] at h hb;obtain⟨h1,h2⟩:=J.v _ _ _ _ (by omega) N;have a8:=bP l j2;have a1:=bR hb.2;dsimp only at h;split at h
           ·rename_i q
            obtain⟨s,ks,x,r,rfl,h3,h4,h5,h6,h7⟩:=J.og _ _ _ _ _ _ (b6 (by rw[q];decide)) hl h;refine⟨bytesOf t,s::ks,v1,x::r,by simp,by simp[h3],?_,ot.2 ⟨q4,h5⟩,eP h1 h6,?_⟩
            ·intro s' M
             rcases List.mem_cons.1 M with rfl | M
             ·exact j6 ai
             ·exact h4 s' M
            ·have e:=ma (s:=s) (ks:=ks) (x:=x) (r:=r)
             rw[cp,dT];simp only[if_true,List.nil_append,List.length_append,List.length_cons,List.length_nil];omega
           ·cases U:bw l 125 (ar l j2) with
            | no a w=>rw[U] at h;cases h
            | ok u j3=>
              rw[U] at h;injection h with h3 h4;subst h3;subst h4;obtain⟨e,_⟩:=kM U;refine⟨bytesOf t,[],v1,[],rfl,rfl,?_,ot.2 ⟨q4,by simp[eN]⟩,eP h1 cX,?_⟩
              ·intro s' M
               obtain rfl:s'=bytesOf t:=by simpa using M
               exact j6 ai
              ·rw[cp,dT]
               simp only[if_true,List.nil_append,List.length_append,List.length_cons,List.length_nil];simp[aR];omega
theorem wJ {v:JV} {i:Nat} (h:cR l=.ok v i):aX v 1=0∧(aq v).length≤l.length∧i=0:=by
 rw[vA (Nat.le_refl _)] at h;have hb:=(la l (3*l.length+1)).v 1 0 (Nat.zero_le _)
 cases I:cb l (3*l.length+1) 1 0 with
 | no a' w'=>rw[I] at h;cases h
 | ok J j=>
   rw[I] at h hb;dsimp only at h;split at h;·cases h
   ·injection h with h1 h2
    subst h1;obtain⟨h3,h4⟩:=(zg _).v _ _ _ _ (Nat.zero_le _) I;exact⟨h3,by have:=hb.2;omega,h2.symm⟩
end
end Go.Tb
namespace Go.Tb
open Go.Ab
theorem checked {j:JV} (h:aX j 1=0):(j.op=6→j.keys.length=j.kids.length)∧∀ v∈j.kids,v.op=3→cY v.n=true:=by
  obtain⟨op,n,s,keys,kids⟩:=j
  obtain⟨h1,h2⟩:=iJ h
  obtain⟨hf,_⟩:=fM h1
  constructor
  · intro ho
    have ho:op=6:=ho
    subst ho
    unfold bG at hf
    simp[JV.op,JV.keys,JV.kids,JV.n,JV.s] at hf ⊢
    exact of_decide_eq_true hf.2.2
  · have key:∀ (l:List JV),cB l (1+1)=0→∀ v∈l,v.op=3→cY v.n=true:=by
      intro l
      induction l with
      | nil=>intro _ v hv;cases hv
      | cons x r ih=>
        intro hc v hv ho
        obtain⟨c1,c2⟩:=fI hc
        rcases List.mem_cons.1 hv with rfl | hv
        · obtain⟨op,n,s,keys,kids⟩:=v
          obtain⟨c3,_⟩:=iJ c1
          obtain⟨_,c4,_⟩:=fM c3
          cases hr:cY n with
          | true=>exact hr
          | false=>exact absurd (.inr ⟨ho,hr⟩) c4
        · exact ih c2 v hv ho
    exact key kids h2
end Go.Tb
namespace Go.Ab
open Go.MapKept
section
variable {α β:Type} [DecidableEq α]
def cr:List (α×β)→α→β→List (α×β)
 | [],a,b=>[(a,b)]
 | p::r,a,b=>if p.1=a then (a,b)::r else p::cr r a b
def bO (l:List (α×β)) (a:α):Option β:=(l.find? fun p=>decide (p.1=a)).map (·.2)
theorem jk (a:α):bO ([]:List (α×β)) a=none:=rfl
theorem eE (p:α×β) (r:List (α×β)) (a:α):bO (p::r) a=if p.1=a then some p.2 else bO r a:=by unfold bO;rw[List.find?_cons];by_cases h:p.1=a <;> simp[h]
theorem zj (l:List (α×β)) (a:α) (b:β):∀ x,x∈(cr l a b).map (·.1)↔x=a∨x∈l.map (·.1):=by
 induction l with
 | nil=>intro x;simp[cr]
 | cons p r I=>
   intro x;simp only[cr];by_cases h:p.1=a
   ·rw[if_pos h];simp only[List.map_cons,List.mem_cons,h]
    constructor;·rintro(h | h);exact .inl h;exact .inr (.inr h)
    ·rintro(h | h | h);exact .inl h;exact .inl h;exact .inr h
   ·rw[if_neg h,List.map_cons,List.mem_cons,I x,List.map_cons,List.mem_cons]
    constructor;·rintro(h | h | h);exact .inr (.inl h);exact .inl h;exact .inr (.inr h)
    ·rintro(h | h | h);exact .inr (.inl h);exact .inl h;exact .inr (.inr h)
theorem mT {l:List (α×β)} (h:(l.map (·.1)).Nodup) (a:α) (b:β):((cr l a b).map (·.1)).Nodup:=by
 induction l with
 | nil=>simp[cr]
 | cons p r I=>
   rw[List.map_cons,List.nodup_cons] at h;simp only[cr];by_cases q:p.1=a
   ·rw[if_pos q,List.map_cons,List.nodup_cons]
    exact⟨by rw[←q];exact h.1,h.2⟩
   ·rw[if_neg q,List.map_cons,List.nodup_cons]
    refine⟨fun hm=>?_,I h.2⟩;rcases(zj r a b p.1).1 hm with e | e
    ·exact q e
    ·exact h.1 e
theorem iu {l:List (α×β)} {a:α} (h:∀ p∈l,p.1≠a) (b:β):cr l a b=l++[(a,b)]:=by
 induction l with
 | nil=>rfl
 | cons p r I=>simp only[cr];rw[if_neg (h p (by simp)),I (fun q J=>h q (by simp[J]))];rfl
theorem qq {l:List (α×β)} {a:α} (h:∀ p∈l,p.1≠a):bO l a=none:=by
 induction l with
 | nil=>rfl
 | cons p r I=>rw[eE,if_neg (h p (by simp)),I (fun q J=>h q (by simp[J]))]
theorem sF {l:List (α×β)} (I:(l.map (·.1)).Nodup) {j:Nat} {p:α×β} (h:l[j]? = some p) (b:β):cr l p.1 b=l.set j (p.1,b):=by
 induction l generalizing j with
 | nil=>simp at h
 | cons q r N=>
   rw[List.map_cons,List.nodup_cons] at I
   cases j with
   | zero=>simp at h;subst h;simp[cr]
   | succ j=>
     have J:r[j]? = some p:=by simpa using h
     have M:q.1≠p.1:=fun e=>I.1 (by rw[e];exact List.mem_map_of_mem (List.mem_of_getElem? J));simp only[cr];rw[if_neg M,N I.2 J];rfl
theorem xB {l:List (α×β)} (I:(l.map (·.1)).Nodup) {j:Nat} {p:α×β} (h:l[j]? = some p):bO l p.1=some p.2:=by
 induction l generalizing j with
 | nil=>simp at h
 | cons q r N=>
   rw[List.map_cons,List.nodup_cons] at I;rw[eE]
   cases j with
   | zero=>simp at h;subst h;simp
   | succ j=>
     have J:r[j]? = some p:=by simpa using h
     have M:q.1≠p.1:=fun e=>I.1 (by rw[e];exact List.mem_map_of_mem (List.mem_of_getElem? J));rw[if_neg M,N I.2 J]
def ee (kf:α→Value) (vf:β→D) (l:List (α×β)):List (Value×List D):=l.map fun p=>(kf p.1,[vf p.2])
end
structure iE (P:Program) (k:TypeId) {α:Type} (kf:α→Value):Prop where
 ty:∃ d,P.underlying k=some d∧∀ a,IsKey d (kf a)
 inj:∀ a b,kf a=kf b→a=b
abbrev ik (n:Int):Value:=.int .i64 n
abbrev sk (s:ByteArray):Value:=.string s
theorem fN {P:Program} {k:TypeId} (h:P.underlying k=some (.int .i64)):iE P k ik:=⟨⟨_,h,fun _=>rfl⟩,fun _ _ h=>by cases h;rfl⟩
theorem qH {P:Program} {k:TypeId} (h:P.underlying k=some .string):iE P k sk:=⟨⟨_,h,fun _=>trivial⟩,fun _ _ h=>by cases h;rfl⟩
def gk {α β:Type} (w:World) (pv:Nat→Nat→Prop) (kf:α→Value) (vf:β→D) (I:Array MapEntry) (l:List (α×β)):Prop:=
 I.size=l.length∧∀ (i:Nat) (m:MapEntry) (p:α×β),I[i]? = some m→l[i]? = some p→m.key=kf p.1∧cm (kf p.1)=true∧aI w pv m.val (vf p.2)
theorem gk.of {α β:Type} {w:World} {pv:Nat→Nat→Prop} {kf:α→Value} {vf:β→D} {b:Nat} {v:Value} {bs:List (Nat×Nat)} {l:List (α×β)} (h:lO w pv (.mp b bs) v (ee kf vf l)):v=.map (some b)∧∃ I clock,w.heap[b]? = some (.map I clock)∧Go.MapKept.Stamped I clock∧gk w pv kf vf I l:=by obtain⟨h1,I,clock,h2,J,h3,h4⟩:=h;refine⟨h1,I,clock,h2,J,by rw[h3];simp[ee],fun i m p hm hp=>?_⟩;obtain⟨h5,M,N⟩:=h4 i m (kf p.1) [vf p.2] hm (by simp[ee,hp]);exact⟨h5,M,N⟩
theorem gk.to {α β:Type} {w:World} {pv:Nat→Nat→Prop} {kf:α→Value} {vf:β→D} {b:Nat} {I:Array MapEntry} {clock:Nat} {bs:List (Nat×Nat)} {l:List (α×β)} (h1:w.heap[b]? = some (.map I clock)) (J:Go.MapKept.Stamped I clock) (h:gk w pv kf vf I l):lO w pv (.mp b bs) (.map (some b)) (ee kf vf l):=by refine⟨rfl,I,clock,h1,J,by rw[h.1];simp[ee],fun i m k l' hm M=>?_⟩;simp only[ee,List.getElem?_map,Option.map_eq_some_iff] at M;obtain⟨p,hp,e⟩:=M;simp only[Prod.mk.injEq] at e;obtain⟨rfl,rfl⟩:=e;obtain⟨h5,N,O⟩:=h.2 i m p hm hp;exact⟨h5,N,O⟩
end Go.Ab
namespace Go.Ab
open Go.RowKit Go.MapKept
section
variable {C:Ctx} {n:Nat} {st:St} {G:Gh} {tmps:Array Value} {w:World}
theorem ao.uC (h:ao C n st G tmps w):∃ X,ao C n { st with lv:=st.gen::st.lv,gen:=st.gen+1 } X tmps (w.alloc (.map #[] 0)) ∧
 aC (au C X (st.gen+1) (w.alloc (.map #[] 0))) (.map (some w.heap.size)) (.mp st.gen []):=by
 let J:Nat→Option Row:=fun g=>if g=st.gen then some (.mp w.heap.size []) else G.own g;have hb:Below w.heap.size w (w.alloc (.map #[] 0)):=(Below.refl _ w).alloc (Nat.le_refl _) _;have N:(w.alloc (.map #[] 0)).heap[w.heap.size]? = some (.map #[] 0):=heap_alloc_new w _
 obtain⟨_,Z⟩:=h.grow hb J (st.gen+1) (st.gen::st.lv) (Nat.le_succ _) (fun g r M I=>by simpa [J,Nat.ne_of_lt M] using I)
  (fun g r I=>by
   simp only[J] at I;split at I;·omega
   ·exact Nat.lt_succ_of_lt (h.gown g r I))
  (fun g M=>by
   rcases List.mem_cons.1 M with rfl | M
   ·exact⟨_,by simp[J];rfl⟩
   ·obtain⟨r,I⟩:=h.live g M
    exact⟨r,by simp only[J,if_neg (Nat.ne_of_lt (h.gown g r I))];exact I⟩)
  (fun g b len cap sz ad M I=>by
   simp only[J] at I;split at I;·cases I
   ·exact absurd (h.gown g _ I) (by omega))
  (fun g b bs M I=>by
   simp only[J] at I;split at I
   ·simp only[Option.some.injEq,Row.mp.injEq] at I
    obtain⟨rfl,rfl⟩:=I;refine⟨Nat.le_refl _,fun g' bs' O=>?_,#[],0,N⟩;simp only[J] at O;split at O;·omega
    ·have:=(h.xC O).1
     omega
   ·exact absurd (h.gown g _ I) (by omega))
  (fun g b bs c lim M I hm=>by
   simp only[J] at I;split at I
   ·simp only[Option.some.injEq,Row.mp.injEq] at I
    obtain⟨_,rfl⟩:=I;cases hm
   ·exact absurd (h.gown g _ I) (by omega))
 refine⟨⟨G.box,J⟩,Z,.mp _ _ _ (by simp[au]) rfl (fun r I=>?_)⟩;have U:J st.gen=some r:=I;simp only[J,if_true,Option.some.injEq] at U;subst U;exact⟨rfl,#[],0,N,Go.MapKept.stamped_empty 0,rfl,by simp⟩
theorem ao.zd (h:ao C n st G tmps w) {g b:Nat} {bs:List (Nat×Nat)} (hg:G.own g=some (.mp b bs)) (me:Array MapEntry) (clock:Nat) (ei:Stamped me clock) {es:List (Value×List D)} (ej:me.size=es.length)
 (ed:∀ (i:Nat) (m:MapEntry) (k:Value) (l:List D),me[i]? = some m→es[i]? = some (k,l)→m.key=k∧cm k=true∧vO w (aS C G) m.val l) (lv:List Nat) (en:∀ I∈lv,I∈st.lv∧I≠g) :
 ∃ G':Gh,G'.box=G.box∧ao C n { st with lv:=st.gen::lv,gen:=st.gen+1 } G' tmps { w with heap:=w.heap.setIfInBounds b (.map me clock) } ∧
   aC (au C G' (st.gen+1) { w with heap:=w.heap.setIfInBounds b (.map me clock) }) (.map (some b)) (.mp st.gen es):=by
 obtain⟨cq,di,ch,gi,e0,a1⟩:=h.mrow g b bs hg;have c6:∀ I len cap sz c7,G.own I≠some (.blk b len cap sz c7):=fun I len cap sz c7 e=>by obtain⟨_,_,_,cur,T,h4,_⟩:=h.row I b len cap sz c7 e;rw[a1] at h4;cases h4
 obtain⟨cj,O⟩:=heap_set (o':=Obj.map me clock) a1;let N:Nat→Option Row:=fun I=>if I=st.gen then some (.mp b bs) else if I=g then none else G.own I;generalize cx:({ w with heap:=w.heap.setIfInBounds b (.map me clock) }:World)=w';have e1:w'.heap=w.heap.setIfInBounds b (.map me clock):=by rw[←cx]
 have e2:w'.os=w.os:=by rw[←cx]
 have e3:w'.tape=w.tape:=by rw[←cx]
 have e4:w'.output=w.output:=by rw[←cx]
 rw[←e1] at cj O;have dj:w'.heap.size=w.heap.size:=by rw[e1];simp
 have c1:∀ o,Ab.cellAt w b o=none:=fun o=>by simp[Ab.cellAt,World.cell?,a1]
 have cy:∀ M o u,Ab.cellAt w M o=some u→Ab.cellAt w' M o=some u:=fun M o u hu=>by
  have X:M≠b:=fun e=>by subst e;rw[c1] at hu;cases hu
  rw[br (O M X)];exact hu
 have df:dc w w':=fun M cs T f h=>⟨cs,f,by rw[O M (fun e=>by rw[e,a1] at h;cases h)];exact h⟩;have gj:=h.gown g _ hg;have e5:∀ M o,aS C ⟨G.box,N⟩ M o→aS C G M o:=by
  rintro M o (hp | hp | ⟨I,a6,a7,b3,a8,hp,hl'⟩ | ⟨I,b2,Z,lim,hp,hm,hl'⟩);·exact .inl hp
  ·exact .inr (.inl hp)
  ·simp only[N] at hp
   split at hp;·cases hp
   ·split at hp
    ·cases hp
    ·exact .inr (.inr (.inl ⟨I,a6,a7,b3,a8,hp,hl'⟩))
  ·simp only[N] at hp
   split at hp
   ·simp only[Option.some.injEq,Row.mp.injEq] at hp
    obtain⟨rfl,rfl⟩:=hp;exact .inr (.inr (.inr ⟨g,b,bs,lim,hg,hm,hl'⟩))
   ·split at hp
    ·cases hp
    ·exact .inr (.inr (.inr ⟨I,b2,Z,lim,hp,hm,hl'⟩))
 have dt:Fr C w':=⟨e2.trans h.fr.os,e3.trans h.fr.tape,e4.trans h.fr.output,by rw[dj];exact h.fr.size,fun M h1 h2=>by rw[O M (fun e=>by subst e;exact cq.1.elim (fun hm=>by omega) h2)];exact h.fr.block M h1 h2,fun M o u hk hu=>cy M o u (h.fr.cells M o u hk hu),h.fr.ty.trans df⟩;have hold:∀ I r',I < st.gen→N I=some r'→G.own I=some r'∧I≠g:=fun I r' U J=>by
  simp only[N,if_neg (Nat.ne_of_lt U)] at J;split at J;·cases J
  ·rename_i X;exact⟨J,X⟩
 have hle:(au C G st.gen w).le (au C ⟨G.box,N⟩ (st.gen+1) w'):=ju h.fr dt (fun M o u hu hn=>⟨cy M o u hu,fun hp=>hn (e5 M o hp)⟩) (fun _ _ h=>h)
  (fun I r' U J=>(hold I r' U J).1) (Nat.le_succ _) (fun I M a6 a7 b3 a8 U J=>O M (fun e=>by subst e;exact c6 _ _ _ _ _ (hold I _ U J).1)) (fun I M bs' U J=>by obtain⟨h1,h2⟩:=hold I _ U J;refine⟨O M (fun e=>by subst e;exact h2 (ch I bs' h1)),fun p hp=>O p.1 (fun e=>?_)⟩;obtain⟨_,_,_,_,cur,T,h3,_⟩:=h.sub I M bs' p.1 p.2 h1 hp;rw[e,a1] at h3;cases h3) df
 refine⟨⟨G.box,N⟩,rfl,{ size:=h.size,frame:=h.du hle,inj:=h.inj,xold:=h.xold,kold:=h.kold,lent:=h.lent,fr:=dt,gcell:=fun I M e6=>ka df (h.gcell I M e6),box:=?_,gbox:=?_,live:=?_,gown:=?_,row:=?_,mrow:=?_,sub:=?_ },?_⟩
 ·intro I cells hc
  obtain⟨M,cs,T',h1,h2,h3,h4,h5⟩:=h.box I cells hc;have:M≠b:=fun e=>di I (by rw[←e];exact h1);exact⟨M,cs,T',h1,by rw[O M this];exact h2,h3,h4,fun i u a hu ha=>(h5 i u a hu ha).mono hle⟩
 ·intro I M hb
  obtain⟨h1,h2,h3⟩:=h.gbox I M hb;exact⟨Nat.lt_succ_of_lt h1,by rw[dj];exact h2,h3⟩
 ·intro I U
  rcases List.mem_cons.1 U with rfl | U
  ·exact⟨_,by simp[N];rfl⟩
  ·obtain⟨h1,h2⟩:=en I U
   obtain⟨r',J⟩:=h.live I h1;exact⟨r',by simp only[N,if_neg (Nat.ne_of_lt (h.gown I r' J)),if_neg h2];exact J⟩
 ·intro I r' J
  simp only[N] at J;split at J;·simp only;omega
  ·split at J
   ·cases J
   ·exact Nat.lt_succ_of_lt (h.gown I r' J)
 ·intro I M a6 a7 b3 a8 J
  have un:∀ g2 ad ai b0 aj,N g2=some (.blk M ad ai b0 aj)→G.own g2=some (.blk M ad ai b0 aj):=by
   intro g2 ad ai b0 aj h2;simp only[N] at h2;split at h2;·cases h2
   ·split at h2
    ·cases h2
    ·exact h2
  obtain⟨h4,h5,h6,cl,T2,h7,h8⟩:=h.row I M a6 a7 b3 a8 (un I a6 a7 b3 a8 J);have X:M≠b:=fun e=>by subst e;exact c6 _ _ _ _ _ (un I a6 a7 b3 a8 J)
  exact⟨h4,h5,fun g2 ad ai b0 aj h2=>h6 g2 ad ai b0 aj (un g2 ad ai b0 aj h2),cl,T2,by rw[O M X];exact h7,h8⟩
 ·intro I M bs' J
  simp only[N] at J;split at J
  ·rename_i e
   simp only[Option.some.injEq,Row.mp.injEq] at J;obtain⟨rfl,rfl⟩:=J;refine⟨cq,di,fun g2 Z h2=>?_,me,clock,cj⟩;simp only[N] at h2;split at h2;·omega
   ·split at h2
    ·cases h2
    ·rename_i e1 e2;exact absurd (ch g2 Z h2) e2
  ·split at J
   ·cases J
   ·rename_i e1 e2
    obtain⟨h4,h5,h6,ff,fj,h7⟩:=h.mrow I M bs' J;have X:M≠b:=fun e=>by subst e;exact e2 (ch I bs' J)
    refine⟨h4,h5,fun g2 Z h2=>?_,ff,fj,by rw[O M X];exact h7⟩;simp only[N] at h2;split at h2;·simp only[Option.some.injEq,Row.mp.injEq] at h2;exact absurd h2.1.symm X
    ·split at h2
     ·cases h2
     ·exact h6 g2 Z h2
 ·intro I M bs' c lim J hm
  have un:∀ g2 b2 Z,N g2=some (.mp b2 Z)→∃ g3,G.own g3=some (.mp b2 Z)∧((g2=st.gen∧g3=g)∨(g2≠st.gen∧g2≠g∧g3=g2)):=by
   intro g2 b2 Z h2;simp only[N] at h2;split at h2;·rename_i e;simp only[Option.some.injEq,Row.mp.injEq] at h2;obtain⟨rfl,rfl⟩:=h2;exact⟨g,hg,.inl ⟨e,rfl⟩⟩
   ·split at h2
    ·cases h2
    ·rename_i e1 e2;exact⟨g2,h2,.inr ⟨e1,e2,rfl⟩⟩
  obtain⟨g3,h3,gq⟩:=un I _ _ J;obtain⟨h4,h5,h6,h7,cl,T2,h8,h9⟩:=h.sub g3 M bs' c lim h3 hm;have X:c≠b:=fun e=>by subst e;rw[a1] at h8;cases h8
  refine⟨h4,h5,fun g2 ad ai b0 aj h2=>?_,fun g2 b2 Z ft h2 fo=>?_,cl,T2,by rw[O c X];exact h8,h9⟩
  ·simp only[N] at h2
   split at h2;·cases h2
   ·split at h2
    ·cases h2
    ·exact h6 g2 _ _ _ _ h2
  ·obtain⟨g5,fs,gb⟩:=un g2 _ _ h2
   have:=h7 g5 _ _ _ fs fo;omega
 ·refine .mp _ _ _ (by simp[au]) rfl (fun r hr=>?_)
  have dx:N st.gen=some r:=hr;simp only[N,if_true,Option.some.injEq] at dx;subst dx;refine⟨rfl,me,clock,cj,ei,ej,fun i m k l hm hk=>?_⟩;obtain⟨h1,h2,h3⟩:=ed i m k l hm hk;exact⟨h1,h2,h3.mono hle.cell⟩
end
section
variable {P:Program} (T:bA P)
theorem bA.tY {t k e:Nat} {d:bH} (h:ae T.l t=some d) (I:d.k=.map k e):P.underlying t=some (.map k e):=by
 have:=T.kd h;rw[I] at this;simp only[ny] at this;split at this;·rename_i J M he;simp only[Bool.and_eq_true,beq_iff_eq] at this;rw[he,this.1,this.2]
 ·cases this
def lz:Kd→Bool
 | .st _=>false
 | _=>true
variable {α β:Type} [DecidableEq α] {kf:α→Value} {vf:β→D}
theorem gk.find {w:World} {pv:Nat→Nat→Prop} {k:TypeId} (M:iE P k kf) {I:Array MapEntry} {l:List (α×β)} (h:gk w pv kf vf I l) (Z:(l.map (·.1)).Nodup) (a:α) :
 ((Instr.findKey k (kf a) I.toList).run P w=.ok none w∧(∀ p∈l,p.1≠a)∧bO l a=none) ∨
   ∃ j e p,(Instr.findKey k (kf a) I.toList).run P w=.ok (some (j,e.val)) w∧I[j]? = some e∧l[j]? = some p∧p.1=a∧e.key=kf a∧bO l a=some p.2∧aI w pv e.val (vf p.2):=by
 obtain⟨d,hd,U⟩:=M.ty;have O:∀ x∈I.toList,IsKey d x.key:=by
  intro x hx;obtain⟨i,hi⟩:=List.mem_iff_getElem?.1 hx;have N:I[i]? = some x:=by simpa using hi
  have J:i < l.length:=by rw[←h.1];exact(Array.getElem?_eq_some_iff.1 N).1
  rw[(h.2 i x l[i] N (by simp[J])).1];exact U _
 rcases findNow_spec (U a) I.toList 0 O with ⟨h1,h2⟩ | ⟨j,e,h1,h2,h3⟩
 ·refine .inl ⟨run_findKey hd h1,?_,?_⟩
  ·intro p hp e
   obtain⟨i,hi⟩:=List.mem_iff_getElem?.1 hp;have J:i < I.size:=by rw[h.1];exact(List.getElem?_eq_some_iff.1 hi).1
   have:=(h.2 i I[i] p (by simp[J]) hi).1;exact h2 I[i] (by simp) (by rw[this,e])
  ·refine qq fun p hp e=>?_
   obtain⟨i,hi⟩:=List.mem_iff_getElem?.1 hp;have J:i < I.size:=by rw[h.1];exact(List.getElem?_eq_some_iff.1 hi).1
   have:=(h.2 i I[i] p (by simp[J]) hi).1;exact h2 I[i] (by simp) (by rw[this,e])
 ·have hj:I[j]? = some e:=by simpa using h2
  have J:j < l.length:=by rw[←h.1];exact(Array.getElem?_eq_some_iff.1 hj).1
  obtain⟨h4,h5,h6⟩:=h.2 j e l[j] hj (by simp[J]);have X:(l[j]).1=a:=M.inj _ _ (h4.symm.trans h3);refine .inr ⟨j,e,l[j],?_,hj,by simp[J],X,h3,?_,h6⟩
  ·have:=run_findKey (P:=P) (w:=w) hd h1
   simpa using this
  ·have:=xB Z (j:=j) (p:=l[j]) (by simp[J])
   rw[X] at this;exact this
theorem rJ {w:World} {pv:Nat→Nat→Prop} {mt k e:Nat} {td:bH} (ht:ae T.l mt=some td) (ai:td.k=.map k e) (N:iE P k kf) {b:Nat} {M:Array MapEntry} {clock:Nat} (hb:w.heap[b]? = some (.map M clock)) {l:List (α×β)}
 (X:Stamped M clock) (h:gk w pv kf vf M l) (hn:(l.map (·.1)).Nodup) (a:α) (Z:cm (kf a)=true) {v:Value} {y:β} (hv:aI w pv v (vf y)) :
 ∃ O I,(Instr.mapUpdate mt (.map (some b)) (kf a) v).run P w=.ok () { w with heap:=w.heap.setIfInBounds b (.map O I) }∧Stamped O I∧gk w pv kf vf O (cr l a y):=by
 obtain⟨d,hd,hk⟩:=N.ty;have hm:=T.tY ht ai;rcases h.find N hn a with ⟨h1,h2,_⟩ | ⟨j,en,p,h1,h2,h3,h4,h5,_,_⟩
 ·refine⟨M.push ⟨kf a,v,clock⟩,clock+1,?_,stamped_push X (fun x hx=>?_),?_⟩
  ·unfold Instr.mapUpdate
   simp only[Sem.run_bind,run_underlying hm,Result.andThen_ok,Go.MapKept.run_getObj_map hb,run_checkKey hd (hk a),h1];exact Go.MapKept.run_setObj_map _ hb
  ·obtain⟨i,hi⟩:=List.mem_iff_getElem?.1 hx
   have ad:M[i]? = some x:=by simpa using hi
   have U:i < l.length:=by rw[←h.1];exact(Array.getElem?_eq_some_iff.1 ad).1
   rw[(h.2 i x l[i] ad (by simp[U])).1];exact fun e=>h2 l[i] (by simp) (N.inj _ _ e)
  ·rw[iu h2]
   refine⟨by simp[h.1],fun i m p hm hp=>?_⟩;rw[Array.getElem?_push] at hm;split at hm
   ·rename_i hi
    rw[List.getElem?_append_right (by rw[hi,h.1];exact Nat.le_refl _)] at hp;have:i - l.length=0:=by rw[hi,h.1];omega
    rw[this] at hp;simp only[List.getElem?_cons_zero,Option.some.injEq] at hp;simp only[Option.some.injEq] at hm;subst hm;subst hp;exact⟨rfl,Z,hv⟩
   ·have U:i < l.length:=by rw[←h.1];exact(Array.getElem?_eq_some_iff.1 hm).1
    rw[List.getElem?_append_left U] at hp;exact h.2 i m p hm hp
 ·refine⟨M.modify j fun e=>{ e with key:=kf a,val:=v },clock,?_,stamped_modify X j _ (fun _ _=>rfl) (fun e _ he=>by rw[h2] at he;cases he;exact h5.symm),?_⟩
  ·unfold Instr.mapUpdate
   simp only[Sem.run_bind,run_underlying hm,Result.andThen_ok,Go.MapKept.run_getObj_map hb,run_checkKey hd (hk a),h1,h2,Option.map_some,Option.getD_some,h5,run_keyThatStays (hk a)];exact Go.MapKept.run_setObj_map _ hb
  ·subst h4
   rw[sF hn h3];refine⟨by simp[h.1],fun i m q hm J=>?_⟩;rw[Array.getElem?_modify] at hm;rw[List.getElem?_set] at J;by_cases hij:j=i
   ·subst hij
    rw[if_pos rfl] at hm J;rw[h2] at hm;rw[if_pos (List.getElem?_eq_some_iff.1 h3).1] at J;simp only[Option.map_some,Option.some.injEq] at hm J;subst hm;subst J;exact⟨rfl,Z,hv⟩
   ·rw[if_neg hij] at hm J
    exact h.2 i m q hm J
theorem rS {w:World} {pv:Nat→Nat→Prop} {mt k e:Nat} {N I:bH} (ht:ae T.l mt=some N) (O:N.k=.map k e) (he:ae T.l e=some I) (M:iE P k kf) {z:β} {zx:Value} (U:I.z=[zx]) (X:lz I.k=true) (hz:aI w pv zx (vf z)) {b:Nat} {Z:Array MapEntry} {clock:Nat}
 (hb:w.heap[b]? = some (.map Z clock)) {l:List (α×β)} (h:gk w pv kf vf Z l) (hn:(l.map (·.1)).Nodup) (a:α) (ok:Bool) :
 ∃ v,(Instr.lookup mt (.map (some b)) (kf a) ok).run P w=.ok (if ok then .tuple #[v,.bool (bO l a).isSome] else v) w∧aI w pv v (vf ((bO l a).getD z)):=by
 obtain⟨d,hd,hk⟩:=M.ty;have hm:=T.tY ht O;rcases h.find M hn a with ⟨h1,h2,h3⟩ | ⟨j,en,p,h1,h2,h3,h4,h5,h6,h7⟩
 ·obtain⟨i,J,hi,_,_,ad,ai,_,_,aj⟩:=T.info he
  have a1:J=zx:=by rw[U] at ai;cases hke:I.k <;> rw[hke] at X aj <;> cases J <;> simp_all[Value.cells,lz]
  subst a1;refine⟨J,?_,by rw[h3];exact hz⟩;unfold Instr.lookup;simp only[Sem.run_bind,run_underlying hm,Result.andThen_ok,Go.MapKept.run_getObj_map hb,Sem.run_pure,run_checkKey hd (hk a),h1,h3,Option.isSome_none];have:(zeroValue e).run P w=.ok J w:=by simp[zeroValue,typeInfo,Sem.run_bind,run_program,hi,ad,Result.andThen]
  simp only[this,Result.andThen_ok]
 ·refine⟨en.val,?_,by rw[h6];exact h7⟩
  unfold Instr.lookup;simp only[Sem.run_bind,run_underlying hm,Result.andThen_ok,Go.MapKept.run_getObj_map hb,Sem.run_pure,run_checkKey hd (hk a),h1,h6,Option.isSome_some]
end
end Go.Ab
namespace Go.Ab
open Go.RowKit
def Et (f:List (Nat×A)):Option Operand→Option Int
 | none=>some 0
 | some x=>match av f x with | some (.d (.v (.int _ v)))=>some v | _=>none
def Dz (f:List (Nat×A)) (len:Nat):Option Operand→Option Int
 | none=>some (len:Int)
 | some x=>match av f x with | some (.d (.v (.int _ v)))=>some v | _=>none
theorem aI.sub {w:World} {pv:Nat→Nat→Prop} {v:Value} {es:List (List D)} (h:aI w pv v (.sl es)) {i j sz:Nat} (hij:i≤j) (hj:j≤es.length) (hsz:∀ e∈es,e.length=sz) :
    ∃ a cap,v=.slice a es.length cap∧es.length≤cap∧aI w pv (sliced a i j cap sz) (.sl ((es.take j).drop i)):=by
  cases h with
  | nil=>
    have e1:j=0:=by simpa using hj
    subst e1
    have e2:i=0:=by omega
    subst e2
    exact⟨none,0,rfl,Nat.le_refl _,.nil⟩
  | emp a cap hm=>
    have e1:j=0:=by simpa using hj
    subst e1
    have e2:i=0:=by omega
    subst e2
    refine⟨some a,cap,rfl,Nat.zero_le _,?_⟩
    simp only[sliced,List.take_zero,List.drop_zero,Nat.sub_zero]
    split
    · exact .emp a cap hm
    · exact .emp _ cap hm
  | sl b off len cap sz' es u hl hc hm hs hu hr=>
    refine⟨_,cap,by rw[hl],by omega,?_⟩
    rcases Nat.eq_or_lt_of_le hij with e | hlt
    · subst e
      rw[show(es.take i).drop i=[] from List.drop_eq_nil_of_le (List.length_take_le _ _)]
      simp only[sliced,Nat.sub_self]
      split
      · exact .emp _ _ (by omega)
      · exact .emp _ _ (by omega)
    · have e:sz'=sz:=by
        obtain⟨x,hx⟩:∃ x,es[0]? = some x:=⟨es[0]'(by omega),by simp⟩
        rw[←hs 0 x hx,hsz x (List.mem_of_getElem? hx)]
      subst e
      have hne:cap≠i:=by omega
      have ha:∀ (k:Nat) (x:List D),((es.take j).drop i)[k]? = some x→es[i+k]? = some x∧k < j - i:=fun k x hk=>by
        have hk':=hk
        rw[List.getElem?_drop] at hk
        have h1:=(List.getElem?_eq_some_iff.1 hk).1
        rw[List.length_take] at h1
        rw[List.getElem?_take,if_pos (by omega)] at hk
        exact⟨hk,by omega⟩
      simp only[sliced,if_neg hne,Option.map_some]
      rw[show(Addr.add ⟨b,off,none⟩ (i*sz'))=⟨b,off+i*sz',none⟩ from by simp[Addr.add]]
      refine .sl b (off+i*sz') (j - i) (cap - i) sz' _ (fun k c=>u (i+k) c) ?_ (by omega) (by omega) (fun k x hk=>hs _ x (ha k x hk).1) (fun k c hk hc'=>?_) (fun k c x d hk hd=>hr _ c x d (ha k x hk).1 hd)
      · rw[List.length_drop,List.length_take];omega
      · have:=hu (i+k) c (by omega) hc'
        rw[show off+(i+k)*sz'+c=off+i*sz'+k*sz'+c from by rw[Nat.add_mul];omega] at this
        exact this
section
variable {P:Program} (T:bA P) {C:Ctx} {n:Nat}
variable {f:List (Nat×A)} {bx:List (Nat×List A)} {lv:List Nat} {gen:Nat} {ty:TypeId} {pos:String} {af:Array Edge} {dst:Option Nat} {G:Gh} {tmps:Array Value} {w:World}
theorem yr (b:Bool) {lo hi:Option Operand} {len cap:Nat} {i j:Int} (hs:ao C n ⟨f,bx,lv,gen⟩ G tmps w) (J:Et f lo=some i) (M:Dz f len hi=some j) (h0:0≤i) (U:i≤j) (hj:j≤len) (Z:len≤cap) :
 (Instr.sliceBounds b len cap (lo.map (Act.eval ⟨tmps,[]⟩)) (hi.map (Act.eval ⟨tmps,[]⟩)) none).run P w=.ok (i.toNat,j.toNat,cap) w:=by
 have ev:∀ (x:Operand) (v:Int),(match av f x with | some (.d (.v (.int _ v)))=>some v | _=>none)=some v→∃ k,Act.eval ⟨tmps,[]⟩ x=.int k v:=fun x v h=>by
  split at h
  ·rename_i k v' O
   simp only[Option.some.injEq] at h;subst h;have N:=hs.av O;generalize Act.eval ⟨tmps,[]⟩ x=y at N;cases N with | d N=>cases N with | v _ _=>exact⟨k,rfl⟩
  ·cases h
 have X:(j.toNat:Int)=j:=Int.toNat_of_nonneg (by omega);have I:((match hi.map (Act.eval ⟨tmps,[]⟩) with | some v=>Instr.sliceBound v cap (if b then .sliceAcap else .sliceAlen) | none=>pure len:Sem Nat)).run P w=.ok j.toNat w:=by
  cases hi with
  | none=>simp only[Dz,Option.some.injEq] at M;subst M;simp
  | some x=>obtain⟨k,e⟩:=ev x j M;simp only[Option.map_some,e];exact run_sliceBound w k j cap _ (by omega) (by omega)
 have hl:((match lo.map (Act.eval ⟨tmps,[]⟩) with | some v=>Instr.sliceBound v j.toNat (if (none:Option Value).isSome then .slice3C else .sliceB) | none=>pure 0:Sem Nat)).run P w=.ok i.toNat w:=by
  cases lo with
  | none=>simp only[Et,Option.some.injEq] at J;subst J;simp
  | some x=>obtain⟨k,e⟩:=ev x i J;simp only[Option.map_some,e];exact run_sliceBound w k i j.toNat _ (by omega) (by omega)
 unfold Instr.sliceBounds
 cases hi with
 | none=>
   cases lo with
   | none=>simp only[Option.map_none,Sem.run_bind,Sem.run_pure,Result.andThen_ok] at I hl ⊢;simp_all
   | some x=>simp only[Option.map_none,Option.map_some,Sem.run_bind,Sem.run_pure,Result.andThen_ok] at I hl ⊢;simp only[Result.ok.injEq,and_true] at I;rw[←I] at hl ⊢;simp_all
 | some y=>
   cases lo with
   | none=>simp only[Option.map_none,Option.map_some,Sem.run_bind,Sem.run_pure,Result.andThen_ok] at I hl ⊢;rw[I];simp_all
   | some x=>simp only[Option.map_some,Sem.run_bind,Sem.run_pure,Result.andThen_ok] at I hl ⊢;rw[I];simp_all
theorem vM {α:Type} {fn:α→List D} {t e:Nat} {x:Operand} {lo hi:Option Operand} {U M:bH} {a:A} {l r:List α} {i j:Int} (hx:av f x=some a) (X:gm a=some (l.map fn)) (ht:ae T.l t=some U) (hk:U.k=.slice e) (he:ae T.l e=some M)
 (hn:∀ x,(fn x).length=M.n) (Z:Et f lo=some i) (ad:Dz f l.length hi=some j) (h0:0≤i) (ai:i≤j) (hj:j≤(l.length:Int)) (hr:(l.take j.toNat).drop i.toNat=r) :
 Pu P C n ⟨f,bx,lv,gen⟩ ⟨dst,.slice t x lo hi none,ty,pos,af,none⟩ (.d (.sl (r.map fn))):=by
 subst hr;refine dG.pu fun G tmps w hs=>?_;have aj:=fZ X (hs.av hx);obtain⟨a',cap,hv,I,J⟩:=aj.sub (i:=i.toNat) (j:=j.toNat) (sz:=M.n) (by omega) (by rw[List.length_map];omega) (fun y hy=>by obtain⟨z,_,rfl⟩:=List.mem_map.1 hy;exact hn z);rw[List.length_map] at hv I;have hu:=T.fu ht hk;have N:P.elem t=e:=by simp[Program.elem,hu]
 have O:P.underlying t=some (.slice (P.elem t)):=by rw[N];exact hu
 refine⟨sliced a' i.toNat j.toNat cap M.n,?_,.d (by rw[←List.map_take,←List.map_drop] at J;exact J)⟩;unfold execOp;show Sem.run P _ w=_;simp only[Sem.run_bind,run_sliceAt_slice w t _ _ _ _ O,hv,run_slice_any w t a' l.length cap O,Option.map_none,yr (P:=P) true hs Z ad h0 ai hj I,Result.andThen_ok,N,T.sizeOf he];rfl
end
end Go.Ab
namespace Go.Tb
open Go.Ab
theorem tj {l:List ByteArray} (h:fv l=0):l.length≤32∧∀ s∈l,cd s=0:=by
 unfold fv at h;split at h;·simp at h
 ·split at h
  ·simp at h
  ·rename_i h1 h2
   refine⟨by omega,fun s hs=>?_⟩;rw[Bool.not_eq_true,List.any_eq_false] at h2;simpa using h2 s hs
structure Good (e:Ev):Prop where
 time:0≤e.time∧e.time≤1000000000000
 kind:1≤e.kind∧e.kind < 13
 noName:(bL e.kind).name=false→e.name=B #[]
 noN:(bL e.kind).n=false→e.n=0
 noM:(bL e.kind).m=false→e.m=0
 noStack:(bL e.kind).stack=false→e.stack=[]
 name:(bL e.kind).name=true→cd e.name=0
 stack:(bL e.kind).name=false→fv e.stack=0
 n:(bL e.kind).n=true→(bL e.kind).least≤e.n∧e.n≤(bL e.kind).most
 stop:e.kind=9→e.n≠2→e.m=0
 m:(bL e.kind).m=true→(e.kind≠9∨e.n=2)→(bL e.kind).mLeast≤e.m∧e.m≤(bL e.kind).mMost
theorem mb {e:Ev} (h:cn e=0):Good e:=by
 unfold cn at h;split at h;· simp at h
 split at h;· simp at h
 split at h;· rename_i h3;exact absurd h h3
 split at h;· simp at h
 split at h;· simp at h
 split at h;· simp at h
 rename_i h1 h2 h3 h4 h5 J;simp only[not_or] at h1 h2;obtain⟨M,N,O,U,X⟩:=h2;have Z:1≤e.kind∧e.kind < 13:=by simp[mM] at M;exact M
 have I:kz (bL e.kind) e=0:=by simpa using h3
 unfold kz at I;refine⟨by omega,Z,fun q=>by simp[q] at N;exact N,fun q=>by simp[q] at O;exact O,fun q=>by simp[q] at U;exact U,fun q=>by simp[q] at X;exact X,fun q=>by simpa [q] using I,fun q=>by simpa [q] using I,fun q=>by simp only[q,true_and,not_or] at h4;omega,fun q1 q2=>by simp only[q1,true_and,not_and] at h5;have:=h5 q2;simpa using this,fun q1 q2=>?_⟩;simp only[q1,true_and,not_and] at J;by_cases q:e.m < (bL e.kind).mLeast∨(bL e.kind).mMost < e.m;·exact absurd q2 (J q)
 ·omega
theorem ri {k:Int} (h:1≤k∧k < 13):-1000000000000000≤(bL k).least∧(bL k).most≤1000000000000000∧0≤(bL k).mLeast∧(bL k).mMost≤1000000000000000∧(bL k).word.size≤6:=by rcases kinds h.1 h.2 with h | h | h | h | h | h | h | h | h | h | h | h <;> subst h <;> decide
theorem Good.FM {e:Ev} (g:Good e):cY e.n=true:=by
 have hb:=ri g.kind
 cases h:(bL e.kind).n with
 | false=>rw[g.noN h];decide
 | true=>have:=g.n h;simp only[cY,Bool.and_eq_true,decide_eq_true_eq];omega
theorem Good.FD {e:Ev} (g:Good e):cY e.m=true:=by
 have hb:=ri g.kind
 cases h:(bL e.kind).m with
 | false=>rw[g.noM h];decide
 | true=>
   by_cases q:e.kind≠9∨e.n=2;·have:=g.m h q;simp only[cY,Bool.and_eq_true,decide_eq_true_eq];omega
   ·simp only[not_or,Decidable.not_not] at q
    rw[g.stop q.1 q.2];decide
theorem uu {n:Int}:cY n=true↔-1000000000000000≤n∧n≤1000000000000000:=by simp[cY]
theorem xM {n:Int} (h:cY n=true):(cT n).size≤17:=by have h1:=uu.1 h;have h2:=AJ (n:=n) (by have:(10:Nat) ^ 16=10000000000000000:=(by decide);omega);have h3:(cT n).size=(Lib.itoa n).length:=Array.length_toList.symm;omega
theorem Good.yS {e:Ev} (g:Good e):cY e.time=true:=by rw[uu];have:=g.time;omega
end Go.Tb
namespace Go.Tb
open Go.Ab
structure Ci where
 at_:Int
 cpu:Int
 word:ByteArray
 l:List Int
 e:Int
deriving DecidableEq
end Go.Tb
namespace Go.Tb
open Go.Ab
def Ci.res (x:Ci):A:=.tup [.d (ci x.at_),.d (ci x.cpu),.d (.v (.string x.word)),.d (.sl (x.l.map ic)),.d (ci x.e)]
abbrev sJ:=List Int×List (Int×List Ev)
def yc (x:sJ) (I:Int) (e:Ev):sJ:=
 if I=0 then x else (if ((bO x.2 I).getD [])=[] then x.1++[I] else x.1,cr x.2 I ((bO x.2 I).getD []++[e]))
def oG (n:Nat) (x:sJ):Prop:=(x.2.map (·.1)).Nodup∧x.1.length≤n∧∀ p∈x.2,p.2.length≤n
theorem oG.get {n:Nat} {x:sJ} (h:oG n x) (I:Int):((bO x.2 I).getD []).length≤n:=by
 unfold bO
 cases q:x.2.find? fun p=>decide (p.1=I) with
 | none=>simp
 | some p=>simpa [q] using h.2.2 p (List.mem_of_find?_eq_some q)
theorem oG.add {n:Nat} {x:sJ} (h:oG n x) (th:Int) (e:Ev):oG (n+1) (yc x th e):=by
  unfold yc
  split
  · exact⟨h.1,Nat.le_succ_of_le h.2.1,fun p hp=>Nat.le_succ_of_le (h.2.2 p hp)⟩
  · refine⟨mT h.1 _ _,?_,fun p hp=>?_⟩
    · have:=h.2.1
      simp only
      split <;> simp <;> omega
    · have key:∀ {l:List (Int×List Ev)} {y:List Ev},p∈cr l th y→p=(th,y)∨p∈l:=by
        intro l
        induction l with
        | nil=>intro y hp;simp[cr] at hp;exact .inl hp
        | cons q r ih=>
          intro y hp
          simp only[cr] at hp
          split at hp
          · rcases List.mem_cons.1 hp with h | h
            · exact .inl h
            · exact .inr (List.mem_cons_of_mem _ h)
          · rcases List.mem_cons.1 hp with h | h
            · exact .inr (h▸List.mem_cons_self)
            · exact(ih h).imp id (List.mem_cons_of_mem _)
      rcases key hp with rfl | hp
      · have:=h.get th
        simp only[List.length_append,List.length_singleton]
        omega
      · exact Nat.le_succ_of_le (h.2.2 p hp)
theorem oG.mono {n m:Nat} {x:sJ} (h:oG n x) (I:n≤m):oG m x:=⟨h.1,Nat.le_trans h.2.1 I,fun p hp=>Nat.le_trans (h.2.2 p hp) I⟩
end Go.Tb
namespace Go.Ab
open Go.RowKit Go.MapKept
def yb:A→Option D
 | .d x=>some x
 | .own _ es=>some (.sl es)
 | .fl es=>some (.sl es)
 | _=>none
theorem vP {E:En} {v:Value} {a:A} {x:D} (h:yb a=some x) (I:aC E v a):aI E.w E.pv v x:=by cases I <;> simp only[yb,Option.some.injEq] at h <;> first | (cases h;done) | (subst h;assumption)
def tW {α β:Type} (w:World) (pv:Nat→Nat→Prop) (b:Nat) (kf:α→Value) (vf:β→D) (l:List (α×β)):Prop:=∃ I clock,w.heap[b]? = some (.map I clock)∧Go.MapKept.Stamped I clock∧gk w pv kf vf I l
theorem tW.of {α β:Type} {w:World} {pv:Nat→Nat→Prop} {kf:α→Value} {vf:β→D} {b:Nat} {v:Value} {l:List (α×β)} {bs:List (Nat×Nat)} (h:lO w pv (.mp b bs) v (ee kf vf l)):v=.map (some b)∧tW w pv b kf vf l:=by obtain⟨h1,I,clock,h2,h3⟩:=gk.of h;exact⟨h1,I,clock,h2,h3⟩
theorem gk.mono {α β:Type} {w w':World} {pv I:Nat→Nat→Prop} {kf:α→Value} {vf:β→D} {J:Array MapEntry} {l:List (α×β)} (h:∀ b o u,cellAt w b o=some u→¬ pv b o→cellAt w' b o=some u∧¬ I b o) (hm:gk w pv kf vf J l):gk w' I kf vf J l:=
 ⟨hm.1,fun i m p h1 h2=>⟨(hm.2 i m p h1 h2).1,(hm.2 i m p h1 h2).2.1,(hm.2 i m p h1 h2).2.2.mono h⟩⟩
section
variable {P:Program} (T:bA P) {C:Ctx} {n:Nat} {ops:Array Oper} {Q:Exit→St→Prop} {rest:List Oper}
variable {f:List (Nat×A)} {bx:List (Nat×List A)} {lv:List Nat} {gen:Nat} {d:Nat} {ty:TypeId} {pos:String} {af:Array Edge} {dst:Option Nat}
variable {α β:Type} [DecidableEq α] {kf:α→Value} {vf:β→D}
theorem mkMap {t:TypeId} (hd:Nat.blt d n=true) (h:WO P C n ops Q rest ⟨(d,.mp gen [])::f,bx,gen::lv,gen+1⟩):WO P C n ops Q (⟨some d,.makeMap t none,ty,pos,af,none⟩::rest) ⟨f,bx,lv,gen⟩:=by refine WO.step (st:=⟨f,bx,lv,gen⟩) rfl fun tmps w ⟨G,hs⟩=>?_;obtain⟨J,I,M⟩:=hs.uC;refine bT (v:=.map (some w.heap.size)) (w':=w.alloc (.map #[] 0)) ?_ ⟨_,⟨J,I.put (dst:=some d) (bQ (dst:=some d) hd) M⟩,h⟩;unfold execOp;show Sem.run P _ w=.ok _ _;simp[Instr.makeMap,Sem.run_bind,Result.andThen]
omit [DecidableEq α] in
theorem ao.qI {st:St} {G:Gh} {tmps:Array Value} {w:World} (hs:ao C n st G tmps w) {v:Value} {g:Nat} {l:List (α×β)} (O:aC (au C G st.gen w) v (.mp g (ee kf vf l))) (N:g∈st.lv) :
 ∃ b bs,G.own g=some (.mp b bs)∧v=.map (some b)∧tW w (aS C G) b kf vf l:=by
 obtain⟨r,J⟩:=hs.live g N
 cases O with
 | mp _ _ _ U h1 M=>
 have I:=M r J
 cases r with
 | nil=>exact I.elim
 | zero b=>exact I.elim
 | blk b len cap sz X=>exact I.elim
 | mp b bs=>obtain⟨h2,h3⟩:=tW.of (kf:=kf) (vf:=vf) I;exact⟨b,bs,J,h2,h3⟩
theorem rl (s:Nat) {mt k e:Nat} {td:bH} {m N x:Operand} {g:Nat} {l:List (α×β)} {a:α} {y:β} {xa:A} (hm:av f m=some (.mp g (ee kf vf l))) (hl:look f s=some (.mp g (ee kf vf l))) (O:av f N=some (.d (.v (kf a)))) (hx:av f x=some xa) (a7:yb xa=some (vf y))
 (ht:ae T.l mt=some td) (a8:td.k=.map k e) (b0:iE P k kf) (U:(lv.any fun h=>Nat.beq h g)=true) (b3:Nat.blt s n=true) (hn:(l.map (·.1)).Nodup) {X:List (Value×List D)} (ch:ee kf vf (cr l a y)=X) {lv':List Nat} (cj:gen::bk lv g=lv')
 (h:WO P C n ops Q rest ⟨(s,.mp gen X)::f,bx,lv',gen+1⟩):WO P C n ops Q (⟨none,.mapUpdate mt m N x,ty,pos,af,none⟩::rest) ⟨f,bx,lv,gen⟩:=by
 subst ch;subst cj;refine WO.step (st:=⟨f,bx,lv,gen⟩) rfl fun tmps w ⟨G,hs⟩=>?_;have Z:=hs.av hm;have J:=hs.av O;have cl:=vP a7 (hs.av hx);obtain⟨vs,cq,cx⟩:=hs.frame s _ hl;generalize hv:Act.eval ⟨tmps,[]⟩ m=v at Z;generalize cy:Act.eval ⟨tmps,[]⟩ N=vk at J;obtain⟨b,bs,ad,rfl,me,clock,hb,c1,c6⟩:=hs.qI Z (cM U);obtain⟨b2,c7,aj,rfl,_⟩:=hs.qI cx (cM U);obtain⟨rfl,rfl⟩:b2=b∧c7=bs:=by have:=aj.symm.trans ad;simpa using this
 cases J with | d J=>cases J with | v _ hok=>
 obtain⟨ai,I,a1,a6,M⟩:=rJ T ht a8 b0 hb c1 c6 hn a hok cl;have h0:(execOp (Act.eval ⟨tmps,[]⟩) ⟨none,.mapUpdate mt m N x,ty,pos,af,none⟩).run P w=.ok .skip { w with heap:=w.heap.setIfInBounds b2 (.map ai I) }:=by unfold execOp;show Sem.run P _ w=.ok _ _;simp only[hv,cy,Sem.run_bind,a1,Result.andThen_ok,Sem.run_pure]
 obtain⟨G',_,df,di⟩:=hs.zd ad ai I a6 (es:=ee kf vf (cr l a y)) (by rw[M.1];simp[ee]) (fun i m k l' hm O=>by simp only[ee,List.getElem?_map,Option.map_eq_some_iff] at O;obtain⟨p,hp,e⟩:=O;simp only[Prod.mk.injEq] at e;obtain⟨rfl,rfl⟩:=e;exact M.2 i m p hm hp) (bk lv g) (fun g' dj=>cK dj);refine fT h0 ⟨_,⟨G',?_⟩,h⟩;have:=df.set (d:=s) (Nat.le_of_ble_eq_true b3) di;rwa [gM cq] at this
theorem kF {mt k e:Nat} {O M:bH} {m N:Operand} {g:Nat} {l:List (α×β)} {a:α} {z:β} {zx:Value} (hm:av f m=some (.mp g (ee kf vf l))) (hk:av f N=some (.d (.v (kf a))))
 (ht:ae T.l mt=some O) (U:O.k=.map k e) (he:ae T.l e=some M) (X:iE P k kf) (Z:(lv.any fun h=>Nat.beq h g)=true) (ad:M.z=[zx]) (ai:lz M.k=true) (hz:∀ w pv,aI w pv zx (vf z)) (hn:(l.map (·.1)).Nodup) {r:D} (hr:vf ((bO l a).getD z)=r) :
 Pu P C n ⟨f,bx,lv,gen⟩ ⟨dst,.lookup mt m N false,ty,pos,af,none⟩ (.d r):=by
 subst hr;refine dG.pu fun G tmps w hs=>?_;have J:=hs.av hm;have I:=hs.av hk;generalize hv:Act.eval ⟨tmps,[]⟩ m=v at J;generalize aj:Act.eval ⟨tmps,[]⟩ N=vk at I;obtain⟨b,bs,a6,rfl,me,clock,hb,a7,a1⟩:=hs.qI J (cM Z);cases I with | d I=>cases I with | v _ hok=>
 obtain⟨u,h1,h2⟩:=rS (P:=P) T ht U he X ad ai (hz _ _) hb a1 hn a false;refine⟨u,?_,.d h2⟩;unfold execOp;show Sem.run P _ w=.ok _ _;simp only[hv,aj,Sem.run_bind,h1,Result.andThen_ok,Sem.run_pure];rfl
end
structure pf (P:Program) [cc P] (H:Ctx→Prop) (f:FuncId) (args:List A) (r:A) (k:Nat):Prop where
 ok:iC P f
 calls:∀ (C:Ctx) (vals:Array Value) (w:World),GC P C→C.w0=w→C.pure→H C→(∀ b o,C.x b o→b < w.heap.size)→vals.size=args.length →
  (∀ (i:Nat) (u:Value) (a:A),vals[i]? = some u→args[i]? = some a→aC (au C G0 0 w) u a) →
  Calls P f vals w fun e w'=>∃ v G',e=.returned v∧ao C 0 ⟨[],[],List.range k,k⟩ G' #[] w'∧aC (au C G' k w') v r
theorem pf.cZ {P:Program} (T:bA P) [cc P] {H:Ctx→Prop} {f:FuncId} {fn:Func} {c:Code} {rs:List RV} {n:Nat} {args:List A} {r:A} (hf:P.funcs[f]? = some fn) (hname:(fn.name == "runtime.NumGoroutine")=false) (hb:fn.body=some c) (hn:fn.ntmps=n)
    (hr:fn.results=(rs.map RV.var).toArray) (hlen:Nat.ble args.length n=true) (h:∀ C,NB C 0→GC P C→H C→(∀ b,¬ C.fp b)→W P C n c (QV T rs r 0) ⟨fX 0 args,[],[],0⟩):pf P H f args r 0:=by
  have hlen:=Nat.le_of_ble_eq_true hlen
  refine⟨⟨fn,hf,hname,by rw[hb];rfl⟩,fun C vals w hG hw hp hH hx hsz hrep=>?_⟩
  subst hw
  refine calls_of_wp hf hb (wp_mono (pk hp.2.2.2 (h C ⟨by rw[hp.2.2.1];rfl⟩ hG hH hp.1 (vals++Array.replicate (fn.ntmps - vals.size) undef) C.w0 ⟨G0,?_⟩)) ?_)
  · refine { size:=by simp[hn];omega,frame:=fun t a ha=>?_,box:=fun g cells hc=>by simp[ae] at hc,gbox:=fun g b hb=>by simp[G0] at hb,inj:=fun g g' b hb=>by simp[G0] at hb,
             live:=fun g hg=>by simp at hg,gown:=fun g r hr=>by simp[G0] at hr,row:=fun g b len cap sz pub hr=>by simp[G0] at hr,mrow:=fun g b bs hr=>by simp[G0] at hr,sub:=fun g b bs c lim hr=>by simp[G0] at hr,gcell:=fun g b hb=>by simp[G0] at hb,xold:=fun b o hb=>⟨hx b o hb,hp.1 b⟩,kold:=fun b o hb=>absurd hb (hp.2.1 b o),lent:=fun i b hb=>by rw[hp.2.2.1] at hb;simp at hb,
             fr:=⟨rfl,rfl,rfl,Nat.le_refl _,fun _ _ _=>rfl,fun _ _ _ hb=>absurd hb (hp.2.1 _ _),dc.refl _⟩ }
    obtain⟨_,h1⟩:=fA args 0 t a ha
    have h2:t < args.length:=(List.getElem?_eq_some_iff.1 (by simpa using h1)).1
    have h3:t < vals.size:=by omega
    have h4:vals[t]? = some vals[t]:=by simp[h3]
    exact⟨vals[t],by rw[Array.getElem?_append_left h3];exact h4,hrep t _ a h4 (by simpa using h1)⟩
  · rintro e ⟨tmps,df⟩ w' ⟨hd,st,⟨G,hs⟩,he,l,order,hl,hno,hol,hnd,hov⟩
    have ho0:order=[]:=List.eq_nil_of_length_eq_zero hol
    subst ho0
    have hmain:∃ v,(results fn tmps).run P w'=.ok v w'∧∃ v_1 G',Ending.returned v=.returned v_1∧ao C 0 ⟨[],[],List.range 0,0⟩ G' #[] w'∧aC (au C G' 0 w') v_1 r:=by
      obtain⟨vs,hvs,hvl,hvr⟩:=jn T hs rs l hl
      refine⟨_,fH hr hvs,_,G0,rfl,?_,?_⟩
      · exact { size:=rfl,frame:=fun t a ha=>by simp[look] at ha,box:=fun g cells hc=>by simp[ae] at hc,gbox:=fun g b hb=>by simp[G0] at hb,inj:=fun g g' b hb=>by simp[G0] at hb,
                 live:=fun g hg=>by simp at hg,gown:=fun g r hr=>by simp[G0] at hr,row:=fun g b len cap sz pub hr=>by simp[G0] at hr,mrow:=fun g b bs hr=>by simp[G0] at hr,sub:=fun g b bs c lim hr=>by simp[G0] at hr,gcell:=fun g b hb=>by simp[G0] at hb,xold:=hs.xold,kold:=hs.kold,lent:=fun i b hb=>by rw[hp.2.2.1] at hb;simp at hb,fr:=hs.fr }
      · rw[←hno]
        refine aC.norm (order:=[]) (E:=au C G st.gen w') (E2:=au C G0 0 w') (fun b o u hu hn=>⟨hu,fun hp=>hn (.inl ((pq C b o).1 hp))⟩) (fun g r' hg=>by simp at hg) (by simp[au]) (kD hvl hvr)
    cases e with
    | normal=>exact⟨hd.trans hp.2.2.2,hmain⟩
    | ret=>exact⟨hd.trans hp.2.2.2,hmain⟩
    | exit _=>exact he.elim
    | goto _=>exact he.elim
    | panic _=>exact he.elim
    | outgrown=>exact he.elim
section
variable {P:Program} {C:Ctx} {n:Nat}
variable {f:List (Nat×A)} {bx:List (Nat×List A)} {lv:List Nat} {gen:Nat} {d:Nat} {ty:TypeId} {pos:String} {af:Array Edge} {dst:Option Nat}
variable {α β:Type} [DecidableEq α]
end
end Go.Ab
