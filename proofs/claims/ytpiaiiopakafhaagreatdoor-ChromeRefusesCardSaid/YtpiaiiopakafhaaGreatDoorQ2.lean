import Derived.Test.YtpiaiiopakafhaaGreatDoorQ1
import Derived.Laws.Cover3
import Derived.Lib.Bytealg
import Derived.Laws.Externs
import Derived.Lib.LaidTab
import Derived.Lib.SmallJoins
import Derived.Lib.AppendIntMem
import Derived.Lib.LaidU8
import Derived.LaidLaws
import Derived.HandedShaped
import Derived.Lay
import Derived.Lib.AtoiAllCases
import Derived.Lib.ItoaNum
import Derived.Lib.SplitLaws
import Derived.Lib.Join
import Derived.MapKept
import Derived.Laws.Slices
namespace Go.Ab
open Go.RowKit
def ey:Nat→List (List A)→List (Nat×List A)
 | _,[]=>[]
 | k,c::r=>(k,c)::ey (k+1) r
theorem mU:∀ (l:List (List A)) (k g:Nat) (c:List A),aY (ey k l) g=some c→k≤g∧l[g - k]? = some c
 | [],_,_,_,h=>by simp[ey,aY] at h
 | b::l,k,g,c,h=>by
   simp only[ey,cM] at h;split at h;·grind
   ·rename_i e
    obtain⟨h1,h2⟩:=mU l (k+1) g c h;grind
theorem yK:∀ (l:List (List A)) (k i:Nat) (c:List A),l[i]? = some c→aY (ey k l) (k+i)=some c
 | [],_,_,_,h=>by simp at h
 | b::l,k,i,c,h=>by
   simp only[ey,cM]
   cases i with
   | zero=>simpa using h
   | succ i=>rw[if_neg (by omega)];have:=yK l (k+1) i c (by simpa using h);grind
structure cm (P:Program) [db P] (f:FuncId) (args:List A) (b0:List (List A)) (m:Nat) (r:A) (b1:List (List A)) (k:Nat):Prop where
 ok:jF P f
 len:b1.length=b0.length
 calls:∀ (C:Ctx) (G:Gh) (vals:Array Value) (w:World),GC P C→C.w0=w→C.bx.length=b0.length→C.ds=[]→(m=0→∀ b,C.fp b→∃ i:Nat,C.bx[i]? = some b) →
  bg C 0 ⟨[],ey 0 b0,(List.range m).map (b0.length+·),b0.length+m⟩ G #[] w→vals.size=args.length →
  (∀ (i:Nat) (u:Value) (a:A),vals[i]? = some u→args[i]? = some a→bu (bj C G (b0.length+m) w) u a) →
  Calls P f vals w fun e w'=>∃ v G',e=.returned v∧bg C 0 ⟨[],ey 0 b1,(List.range k).map (b0.length+·),b0.length+k⟩ G' #[] w'∧bu (bj C G' (b0.length+k) w') v r
theorem bg.vt {C:Ctx} {n J:Nat} {bx:List (Nat×List A)} {lv:List Nat} {gen:Nat} {G:Gh} {tmps I:Array Value} {w:World} (h:bg C n ⟨[],bx,lv,gen⟩ G tmps w) (hs:I.size=J) :
 bg C J ⟨[],bx,lv,gen⟩ G I w:=
 { h with size:=hs,frame:=fun t a M=>by simp[look] at M }
section
variable {P:Program} (T:cn P)
def eo (I:Nat) (order:List Nat):List Nat:=List.range I++order
def cR (rs:List RV) (r:A) (b1:List (List A)) (k:Nat):Exit→St→Prop:=fun e st=>
 (match e with | .normal=>True | .ret=>True | _=>False)∧∃ l order,kQ T st.f st.bx rs=some l∧cD (eo b1.length order) (bW l)=r∧order.length=k∧nodupB (eo b1.length order)=true∧(∀ g∈order,g∈st.lv) ∧
  ∀ (i:Nat) (c:List A),b1[i]? = some c→∃ c0,aY st.bx i=some c0∧gM (eo b1.length order) c0=c
theorem cm.wX [db P] {f:FuncId} {fn:Func} {c:Code} {rs:List RV} {n:Nat} {args:List A} {J:List (List A)} {m:Nat} {r:A} {b1:List (List A)} {k:Nat} (hf:P.funcs[f]? = some fn) (X:(fn.name == "runtime.NumGoroutine")=false)
 (hb:fn.body=some c) (hn:fn.ntmps=n) (hr:fn.results=(rs.map RV.var).toArray) (hlen:Nat.ble args.length n=true) (M:b1.length=J.length)
 (h:∀ C,NB C J.length→GC P C→(m=0→∀ b,C.fp b→∃ i:Nat,C.bx[i]? = some b)→(∀ i b:Nat,C.bx[i]? = some b→b < C.w0.heap.size)→W P C n c (cR T rs r b1 k) ⟨hU 0 args,ey 0 J,(List.range m).map (J.length+·),J.length+m⟩):cm P f args J m r b1 k:=by
 have hlen:=Nat.le_of_ble_eq_true hlen;refine⟨⟨fn,hf,X,by rw[hb];rfl⟩,M,fun C G I w hG hw ad O a6 hs cq a1=>?_⟩;subst hw;refine calls_of_wp hf hb (wp_mono (qd O (h C ⟨ad⟩ hG a6 (fun i b hb=>(hs.gbox i b (hs.lent i b hb)).2.1) (I++Array.replicate (fn.ntmps - I.size) undef) C.w0 ⟨G,?_⟩)) ?_)
 ·refine { hs with size:=by simp[hn];omega,frame:=fun t a ha=>?_ }
  obtain⟨_,h1⟩:=gl args 0 t a ha;have h2:t < args.length:=(List.getElem?_eq_some_iff.1 (by simpa using h1)).1;have h3:t < I.size:=by omega
  have h4:I[t]? = some I[t]:=by simp[h3]
  exact⟨I[t],by rw[Array.getElem?_append_left h3];exact h4,a1 t _ a h4 (by simpa using h1)⟩
 ·rintro e ⟨tmps,df⟩ w' ⟨hd,st,⟨G,hs⟩,he,l,order,hl,a7,a8,b2,b3,b4⟩
  have cl:(eo b1.length order).length=J.length+k:=by simp[eo,a8,M]
  have U:∀ i,i < C.bx.length→(eo b1.length order)[i]? = some i:=fun i hi=>by unfold eo;rw[List.getElem?_append_left (by simp;omega),List.getElem?_range (by omega)]
  have N:∃ v,(results fn tmps).run P w'=.ok v w'∧∃ ai G',Ending.returned v=.returned ai∧bg C 0 ⟨[],ey 0 b1,(List.range k).map (J.length+·),J.length+k⟩ G' #[] w'∧bu (bj C G' (J.length+k) w') ai r:=by
   obtain⟨vs,b5,b6,ch⟩:=j9 T hs rs l hl;refine⟨_,gE hr b5,_,mA (eo b1.length order) G,rfl,?_,?_⟩
   ·refine bg.vt (hs.cD (f':=[]) (bx':=ey 0 b1) (lv':=(List.range k).map (J.length+·)) (gen':=J.length+k) (eo b1.length order) (eb b2) (by omega) U (fun t a ha=>by simp[look] at ha) (fun i c hc=>?_) (fun i hi=>?_)) rfl
    ·obtain⟨_,h1⟩:=mU b1 0 i c hc
     simp only[Nat.sub_zero] at h1;obtain⟨c0,h2,h3⟩:=b4 i c h1;have cj:i < b1.length:=(List.getElem?_eq_some_iff.1 h1).1;exact⟨i,c0,U i (by rw[ad,←M];exact cj),h2,by rw[←gB];exact h3⟩
    ·obtain⟨j,hj,rfl⟩:=List.mem_map.1 hi
     have hj:j < k:=by simpa using hj
     have aj:j < order.length:=by omega
     refine⟨order[j],?_,b3 _ (List.getElem_mem aj)⟩;unfold eo;rw[List.getElem?_append_right (by simp;omega)];simp[M,aj]
   ·rw[←a7]
    refine bu.cD (gen:=st.gen) (by omega) (kU b6 ch)
  cases e with
  | normal=>exact⟨hd.trans O,N⟩
  | ret=>exact⟨hd.trans O,N⟩
  | exit _=>exact he.elim
  | goto _=>exact he.elim
  | panic _=>exact he.elim
  | outgrown=>exact he.elim
theorem cm.dQ [db P] {f:FuncId} {fn:Func} {c:Code} {rs:List RV} {n:Nat} {args:List A} {I:List (List A)} {m:Nat} {r:A} {b1:List (List A)} {k:Nat} (N:P.funcs[f]? = some fn) (J:(fn.name == "runtime.NumGoroutine")=false)
 (hb:fn.body=some c) (O:fn.ntmps=n) (U:fn.results=(rs.map RV.var).toArray) (hlen:Nat.ble args.length n=true) (M:b1.length=I.length)
 (h:∀ C,NB C I.length→GC P C→W P C n c (cR T rs r b1 k) ⟨hU 0 args,ey 0 I,(List.range m).map (I.length+·),I.length+m⟩):cm P f args I m r b1 k:=
 cm.wX T N J hb O U hlen M fun C hC X _ _=>h C hC X
theorem cR.ret {rs:List RV} {r:A} {b1:List (List A)} {k:Nat} {e:Exit} {st:St} {l:List A} (order:List Nat) (he:match e with | .normal=>True | .ret=>True | _=>False) (hl:kQ T st.f st.bx rs=some l)
 (M:order.length=k) (I:nodupB (eo b1.length order)=true) (J:(order.all fun g=>st.lv.any fun h=>Nat.beq h g)=true) (hb:∀ (i:Nat) (c:List A),b1[i]? = some c→∃ c0,aY st.bx i=some c0∧gM (eo b1.length order) c0=c)
 (N:cD (eo b1.length order) (bW l)=r):cR T rs r b1 k e st:=
 ⟨he,l,order,hl,N,M,I,fun g O=>by obtain⟨x,U,he⟩:=List.any_eq_true.1 (List.all_eq_true.1 J g O);exact Nat.eq_of_beq_eq_true he▸U,hb⟩
end
/-! the caller's side -/
def dU (bx:List (Nat×List A)) (gs os:List Nat):Nat→A→A
 | 0,_=>.any
 | _+1,.d x=>.d x
 | _+1,.ag l=>.ag l
 | _+1,.own g es=>match pos os g with
   | some i=>.own (gs.length+i) es
   | none=>.d (.sl es)
 | k+1,.agg l=>lh (l.map (dU bx gs os k))
 | _+1,.tup _=>.any
 | _+1,.rowd l=>.rowd l
 | k+1,.row l=>.row (l.map (dU bx gs os k))
 | k+1,.ptr g off=>match pos gs g with
   | some i=>.ptr i off
   | none=>match aY bx g with
     | some cells=>.row ((cells.drop off).map (dU bx gs os k))
     | none=>.any
 | _+1,.xs g es=>match pos os g with
   | some i=>.xs (gs.length+i) es
   | none=>.any
 | _+1,.xp _ _ _ _=>.any
 | _+1,.mp g es=>match pos os g with
   | some i=>.mp (gs.length+i) es
   | none=>.any
 | _+1,.gi g I=>match pos os g with
   | some i=>.gi (gs.length+i) I
   | none=>.any
 | _+1,.mq g es=>match pos os g with
   | some i=>.mq (gs.length+i) es
   | none=>.any
 | _+1,.mo g es h J=>match pos os g with
   | some i=>.mo (gs.length+i) es h J
   | none=>.any
 | k+1,.clo f l=>.clo f (l.map (dU bx gs os k))
 | k+1,.bnd f l=>.bnd f (l.map (dU bx gs os k))
 | _+1,.ni=>.ni
 | _+1,.fl es=>.fl es
 | _+1,.bf g T s=>match pos os g with
   | some i=>.bf (gs.length+i) T s
   | none=>.any
 | _+1,.np g T u=>match pos gs g with
   | some i=>.np i T u
   | none=>.any
 | _+1,.lk _ _ _ _=>.any
 | _+1,.fx _ _ _=>.any
 | _+1,.ol _ _ _ _=>.any
 | _+1,.ow _ _ _=>.any
 | _+1,.sb g n c=>match pos gs g with
   | some i=>.sb i n c
   | none=>.any
 | _+1,.any=>.any
def fQ (bx:List (Nat×List A)) (gs os:List Nat):List Nat→Option (List (List A))
 | []=>some []
 | g::r=>match aY bx g,fQ bx gs os r with
   | some c,some l=>some (c.map (dU bx gs os 5)::l)
   | _,_=>none
mutual
def back (gs:List Nat) (m:Nat):A→A
 | .own g es=>.own (g+m) es
 | .agg l=>.agg (l9 gs m l)
 | .tup l=>.tup (l9 gs m l)
 | .clo f l=>.clo f (l9 gs m l)
 | .bnd f l=>.bnd f (l9 gs m l)
 | .ptr i off=>match gs[i]? with
   | some g=>.ptr g off
   | none=>.any
 | .xs g es=>.xs (g+m) es
 | .xp g i off l=>.xp (g+m) i off l
 | .mp g es=>.mp (g+m) es
 | .gi g I=>.gi (g+m) I
 | .mq g es=>.mq (g+m) es
 | .mo g es h J=>.mo (g+m) es h J
 | .row _=>.any
 | .d x=>.d x
 | .ag l=>.ag l
 | .rowd l=>.rowd l
 | .fl es=>.fl es
 | .bf g T s=>.bf (g+m) T s
 | .np i T u=>match gs[i]? with
   | some g=>.np g T u
   | none=>.any
 | .lk _ _ _ _=>.any
 | .fx _ _ _=>.any
 | .ol _ _ _ _=>.any
 | .ow _ _ _=>.any
 | .sb i n c=>match gs[i]? with
   | some g=>.sb g n c
   | none=>.any
 | .ni=>.ni
 | .any=>.any
def l9 (gs:List Nat) (m:Nat):List A→List A
 | []=>[]
 | a::l=>back gs m a::l9 gs m l
end
theorem je (gs:List Nat) (m:Nat):∀ l:List A,l9 gs m l=l.map (back gs m)
 | []=>rfl
 | a::l=>by simp[l9,je gs m l]
def iw (gs:List Nat) (m:Nat):List Nat→List (List A)→List (Nat×List A)
 | g::r,c::l=>(g,l9 gs m c)::iw gs m r l
 | _,_=>[]
theorem qz {gs:List Nat} {m:Nat}:∀ {r:List Nat} {l:List (List A)} {g:Nat} {c:List A},aY (iw gs m r l) g=some c→∃ (i:Nat) (c0:List A),r[i]? = some g∧l[i]? = some c0∧l9 gs m c0=c
 | [],_,g,c,h=>by simp[iw,aY] at h
 | _::_,[],g,c,h=>by simp[iw,aY] at h
 | g0::r,c0::l,g,c,h=>by
   simp only[iw,cM] at h;split at h
   ·rename_i e
    subst e;simp only[Option.some.injEq] at h;exact⟨0,c0,rfl,rfl,h⟩
   ·obtain⟨i,I,h1,h2,h3⟩:=qz h
    exact⟨i+1,I,by simpa using h1,by simpa using h2,h3⟩
section
variable {P:Program} {C:Ctx} {n:Nat} {ops:Array Oper} {Q:Exit→St→Prop} {st:St} {o:Oper} {rest:List Oper}
def fB (G:Gh) (gs:List Nat) (b:Nat):Prop:=∃ g∈gs,G.box g=some b
def eE (G:Gh) (os:List Nat) (b lim:Nat):Prop:=∃ g∈os,∃ r,G.own g=some r∧r.pV b lim
theorem bg.rowAt {C:Ctx} {n:Nat} {st:St} {G:Gh} {tmps:Array Value} {w:World} (h:bg C n st G tmps w) {g b lim:Nat} {r:Row} (X:G.own g=some r) (O:r.pV b lim) :
 C.iJ b lim∧(∀ M,G.box M≠some b)∧b < w.heap.size ∧
  (∀ M N I,G.own M=some N→N.pV b I→M=g∧I=lim):=by
 have inj:∀ N I,G.own g=some N→N.pV b I→(∀ b1 bs,r≠.mp b1 bs)→I=lim:=by
  intro N I h1 h2 b3;rw[X] at h1;cases h1
  cases r with
  | nil=>exact O.elim
  | zero _=>exact O.elim
  | blk b1 len cap sz a8=>exact h2.2.trans O.2.symm
  | mp b1 bs=>exact absurd rfl (b3 b1 bs)
 have key:∀ M N I,G.own M=some N→N.pV b I→M=g∧I=lim:=by
  intro M N I ad J
  cases r with
  | nil=>exact O.elim
  | zero _=>exact O.elim
  | blk b1 len cap sz a8=>
    obtain⟨rfl,rfl⟩:=O;obtain⟨_,_,h3,cur,T,h4,_⟩:=h.row g b1 len cap sz lim X
    cases N with
    | nil=>exact J.elim
    | zero _=>exact J.elim
    | blk b2 a1 a6 b0 a7=>have b4:=J;obtain⟨rfl,rfl⟩:=J;grind
    | mp b2 U=>
      rcases J with ⟨rfl,rfl⟩ | aj
      ·obtain⟨_,_,_,me,clock,h5⟩:=h.mrow M _ U ad
       grind
      ·exact absurd X ((h.sub M b2 U _ I ad aj).2.2.1 g _ _ _ _)
  | mp b1 ai=>
    rcases O with ⟨rfl,rfl⟩ | hm
    ·obtain⟨_,_,h3,me,clock,h4⟩:=h.mrow g _ ai X
     cases N with
     | nil=>exact J.elim
     | zero _=>exact J.elim
     | blk b2 a1 a6 b0 a7=>obtain⟨rfl,rfl⟩:=J;obtain⟨_,_,_,cur,T,h5,_⟩:=h.row M b2 _ _ _ _ ad;grind
     | mp b2 U=>
       rcases J with ⟨rfl,rfl⟩ | aj
       ·grind
       ·obtain⟨_,_,_,_,cur,T,h5,_⟩:=h.sub M b2 U _ I ad aj
        grind
    ·obtain⟨_,_,h3,h4,cur,T,h5,_⟩:=h.sub g b1 ai b lim X hm
     cases N with
     | nil=>exact J.elim
     | zero _=>exact J.elim
     | blk b2 a1 a6 b0 a7=>obtain⟨rfl,rfl⟩:=J;grind
     | mp b2 U=>
       rcases J with ⟨rfl,rfl⟩ | aj
       ·obtain⟨_,_,_,me,clock,h6⟩:=h.mrow M _ U ad
        grind
       ·grind
 cases r with
 | nil=>exact O.elim
 | zero _=>exact O.elim
 | blk b1 len cap sz a8=>obtain⟨rfl,rfl⟩:=O;obtain⟨h1,h2,h3,cur,T,h4,_⟩:=h.row g b1 len cap sz lim X;grind
 | mp b1 ai=>
   rcases O with ⟨rfl,rfl⟩ | hm
   ·obtain⟨h1,h2,h3,me,clock,h4⟩:=h.mrow g _ ai X
    grind
   ·obtain⟨h1,h2,_,_,cur,T,h5,_⟩:=h.sub g b1 ai b lim X hm
    grind
theorem bg.EK {C:Ctx} {n:Nat} {st:St} {G:Gh} {tmps:Array Value} {w:World} (h:bg C n st G tmps w) {g b lim o:Nat} {r:Row} {u:Value} (J:G.own g=some r) (I:r.pV b lim)
 (hu:cellAt w b o=some u) (hle:lim≤o):bM C G b o:=by
 cases r with
 | nil=>exact I.elim
 | zero _=>exact I.elim
 | blk b1 len cap sz M=>obtain⟨rfl,rfl⟩:=I;exact .inr (.inr (.inl ⟨g,len,cap,sz,lim,J,hle⟩))
 | mp b1 bs=>
   rcases I with ⟨rfl,rfl⟩ | hm
   ·obtain⟨_,_,_,N,clock,h4⟩:=h.mrow g _ bs J
    simp[cellAt,World.cell?,h4] at hu
   ·exact .inr (.inr (.inr ⟨g,b1,bs,lim,J,hm,hle⟩))
def eO (C:Ctx) (G:Gh) (w:World) (gs os:List Nat):Ctx:=
 { w0:=w,fp:=fun b=>fB G gs b∨∃ lim,eE G os b lim,x:=fun b o=>bM C G b o∧¬ (fB G gs b∨∃ lim,eE G os b lim),
   keep:=fun b o=>∃ lim,eE G os b lim∧o < lim,bx:=gs.map fun g=>(G.box g).getD 0 }
theorem pz {C:Ctx} {G:Gh} {w:World} {gs os:List Nat} {m:Nat} (hm:os.length=m):m=0→∀ b,(eO C G w gs os).fp b→∃ i:Nat,(eO C G w gs os).bx[i]? = some b:=by
 rintro rfl b (⟨g,I,hb⟩ | ⟨lim,g,I,_⟩)
 ·obtain⟨i,hi⟩:=List.mem_iff_getElem?.1 I
  exact⟨i,by show(gs.map _)[i]? = _;rw[List.getElem?_map,hi];simp[hb]⟩
 ·grind
def gK (G:Gh) (gs os:List Nat):Gh:=⟨fun i=>(gs[i]?).bind G.box,fun i=>if i < gs.length then none else (os[i - gs.length]?).bind G.own⟩
theorem GC.qn {P:Program} [db P] {C:Ctx} [hC:GC P C] {n:Nat} {st:St} {G:Gh} {tmps:Array Value} {w:World} (hs:bg C n st G tmps w) {gs os:List Nat}:GC P (eO C G w gs os):=by
 obtain⟨W',N,I,J⟩:=hC.h;refine⟨W',N,Nat.le_trans I hs.fr.size,fun b hb=>⟨(hs.fr.block b (Nat.lt_of_lt_of_le hb I) (J b hb).2).trans (J b hb).1,?_⟩⟩;rintro(⟨g,_,M⟩ | ⟨_,g,_,r,M,hr⟩)
 ·rcases(hs.gbox g b M).2.2.1 with h | h
  ·omega
  ·grind
 ·rcases(hs.rowAt M hr).1.1 with h | h
  ·omega
  ·grind
theorem zR {C:Ctx} {G:Gh} {w:World} {gs os:List Nat} {b o:Nat} (h:bM (eO C G w gs os) (gK G gs os) b o):bM C G b o:=by
 rcases h with h | ⟨g,h⟩ | ⟨g,len,cap,sz,I,h,hle⟩ | ⟨g,J,bs,lim,h,hm,hle⟩
 ·exact h.1
 ·obtain⟨g0,_,h0⟩:=Option.bind_eq_some_iff.1 h
  exact Or.inr (Or.inl ⟨g0,h0⟩)
 ·simp only[gK] at h
  split at h;·grind
  ·obtain⟨g0,_,h0⟩:=Option.bind_eq_some_iff.1 h
   exact Or.inr (Or.inr (.inl ⟨g0,len,cap,sz,I,h0,hle⟩))
 ·simp only[gK] at h
  split at h;·grind
  ·obtain⟨g0,_,h0⟩:=Option.bind_eq_some_iff.1 h
   exact Or.inr (Or.inr (.inr ⟨g0,J,bs,lim,h0,hm,hle⟩))
theorem ry {C:Ctx} {G:Gh} {w:World} {gs os:List Nat} {b o:Nat} (h:bM C G b o) (I:¬ (fB G gs b∨∃ lim,eE G os b lim)) {J:Gh}:bM (eO C G w gs os) J b o:=Or.inl ⟨h,I⟩
theorem bu.kV {G:Gh} {tmps:Array Value} {w:World} (h:bg C n st G tmps w) (gs os:List Nat) {gen':Nat} (b5:gs.length+os.length≤gen') :
 ∀ (k:Nat) (v:Value) (a:A),bu (bj C G st.gen w) v a→bu (bj (eO C G w gs os) (gK G gs os) gen' w) v (dU st.bx gs os k a):=by
 have X:∀ b o u,cellAt w b o=some u→¬ bM C G b o→cellAt w b o=some u∧¬ bM (eO C G w gs os) (gK G gs os) b o:=fun b o u h1 h2=>⟨h1,fun hp=>h2 (zR hp)⟩;have hold:∀ b,(∃ g∈gs,G.box g=some b)∨(∃ lim,eE G os b lim)→C.w0.heap.size≤b∨C.fp b:=by
  rintro b (⟨g,_,hg⟩ | ⟨lim,g,_,r,hg,hr⟩);·exact(h.gbox g b hg).2.2.1
  ·exact(h.rowAt hg hr).1.1
 intro k
 induction k with
 | zero=>intro v a _;exact .any v
 | succ k ih=>
   intro v a hr
   have a7:∀ (l:List A) (vs:Array Value),(∀ (i:Nat) (u:Value) (x:A),vs[i]? = some u→l[i]? = some x→bu (bj C G st.gen w) u x) →
    ∀ (i:Nat) (u:Value) (x:A),vs[i]? = some u→(l.map (dU st.bx gs os k))[i]? = some x→bu (bj (eO C G w gs os) (gK G gs os) gen' w) u x:=by
    grind
   cases hr with
   | any=>exact .any _
   | d hd=>exact .d (hd.mono X)
   | ag vs l hs hd=>exact .ag vs l hs (fun i u x h1 h2=>(hd i u x h1 h2).mono X)
   | own _ g es hd _ N=>
     simp only[dU];split
     ·rename_i i hp
      have hi:=c8 hp;have O:=(List.getElem?_eq_some_iff.1 hi).1;refine .own _ _ es (hd.mono X) (by simp only[bj];omega) (fun r M=>N r ?_);have J:(if gs.length+i < gs.length then none else (os[gs.length+i - gs.length]?).bind G.own)=some r:=M;rw[if_neg (by omega),Nat.add_sub_cancel_left,hi] at J;exact J
     ·exact .d (hd.mono X)
   | agg vs l hs hone hd=>exact lN (by simp[hs]) hone (a7 l vs hd)
   | tup vs l hs hd=>exact .any _
   | rowd b off l u a6 hd=>exact .rowd b off l u (fun j hj=>X _ _ _ (a6 j hj).1 (a6 j hj).2) (fun j x N=>(hd j x N).mono X)
   | row b off l u a6 hd=>
     refine .row b off _ u (fun j hj=>?_) (fun j x N=>?_)
     ·have:=a6 j (by simpa using hj)
      refine⟨this.1,⟨dF this.1,fun hl=>?_⟩,this.2.2⟩;have h1:=hold b hl;have h2:=this.2.1;simp only[bj] at h2;grind
     ·grind
   | xs _ g es aj h1 N=>
     simp only[dU];split
     ·rename_i i hp
      have hi:=c8 hp;have O:=(List.getElem?_eq_some_iff.1 hi).1;refine .xs _ _ es (by simp only[bj];omega) h1 (fun r M=>?_);have J:(if gs.length+i < gs.length then none else (os[gs.length+i - gs.length]?).bind G.own)=some r:=M;rw[if_neg (by omega),Nat.add_sub_cancel_left,hi] at J;exact(N r J).dK X
     ·exact .any _
   | xp=>exact .any _
   | ni t x=>exact .ni t x
   | fl _ es hd a8=>exact .fl _ es (hd.mono X) a8
   | bf _ g T s aj h1 N=>
     simp only[dU];split
     ·rename_i i hp
      have hi:=c8 hp;have O:=(List.getElem?_eq_some_iff.1 hi).1;refine .bf _ _ T s (by simp only[bj];omega) h1 (fun r M=>?_);have J:(if gs.length+i < gs.length then none else (os[gs.length+i - gs.length]?).bind G.own)=some r:=M;rw[if_neg (by omega),Nat.add_sub_cancel_left,hi] at J;exact N r J
     ·exact .any _
   | gi _ g I aj N=>
     simp only[dU];split
     ·rename_i i hp
      have hi:=c8 hp;have O:=(List.getElem?_eq_some_iff.1 hi).1;refine .gi _ _ I (by simp only[bj];omega) (fun r M=>?_);have J:(if gs.length+i < gs.length then none else (os[gs.length+i - gs.length]?).bind G.own)=some r:=M;rw[if_neg (by omega),Nat.add_sub_cancel_left,hi] at J;exact(N r J).dK X
     ·exact .any _
   | mp _ g es aj h1 N=>
     simp only[dU];split
     ·rename_i i hp
      have hi:=c8 hp;have O:=(List.getElem?_eq_some_iff.1 hi).1;refine .mp _ _ es (by simp only[bj];omega) h1 (fun r M=>?_);have J:(if gs.length+i < gs.length then none else (os[gs.length+i - gs.length]?).bind G.own)=some r:=M;rw[if_neg (by omega),Nat.add_sub_cancel_left,hi] at J;exact(N r J).dK X
     ·exact .any _
   | mq _ g es aj h1 N=>
     simp only[dU];split
     ·rename_i i hp
      have hi:=c8 hp;have O:=(List.getElem?_eq_some_iff.1 hi).1;refine .mq _ _ es (by simp only[bj];omega) h1 (fun r M=>?_);have J:(if gs.length+i < gs.length then none else (os[gs.length+i - gs.length]?).bind G.own)=some r:=M;rw[if_neg (by omega),Nat.add_sub_cancel_left,hi] at J;exact(N r J).dK X
     ·exact .any _
   | mo _ g es hole ob aj h1 N=>
     simp only[dU];split
     ·rename_i i hp
      have hi:=c8 hp;have O:=(List.getElem?_eq_some_iff.1 hi).1;refine .mo _ _ es hole ob (by simp only[bj];omega) h1 (fun r M=>?_);have J:(if gs.length+i < gs.length then none else (os[gs.length+i - gs.length]?).bind G.own)=some r:=M;rw[if_neg (by omega),Nat.add_sub_cancel_left,hi] at J;exact(N r J).dK X
     ·exact .any _
   | np _ g T b0 hg ad hT u ai=>
     simp only[dU];split
     ·rename_i i a1
      have hi:=c8 a1;have O:=(List.getElem?_eq_some_iff.1 hi).1;refine .np _ i T b0 (by simp only[bj];omega) ?_ (by exact hT) u ai;show(gs[i]?).bind G.box=some b0;rw[hi];exact ad
     ·exact .any _
   | lk=>exact .any _
   | fx=>exact .any _
   | ol=>exact .any _
   | ow=>exact .any _
   | sb _ g n c b0 hg ad hn ai=>
     simp only[dU];split
     ·rename_i i a1
      have hi:=c8 a1;have O:=(List.getElem?_eq_some_iff.1 hi).1;refine .sb _ i n c b0 (by simp only[bj];omega) ?_ hn ai;show(gs[i]?).bind G.box=some b0;rw[hi];exact ad
     ·exact .any _
   | ptr _ g off b0 hg ad ai=>
     have hp:=mH ad ai;simp only[dU];split
     ·rename_i i a1
      have hi:=c8 a1;have O:=(List.getElem?_eq_some_iff.1 hi).1;refine .ptr _ i off b0 (by simp only[bj];omega) ?_ ai;show(gs[i]?).bind G.box=some b0;rw[hi];exact ad
     ·rename_i b6
      split
      ·rename_i cells hb
       obtain⟨b,cs,T',h1,h2,h3,h4,h5⟩:=h.box g cells hb;rw[hp b h1];refine .row b off _ (fun j=>cs[off+j]?.getD default) (fun j hj=>?_) (fun j x N=>?_)
       ·have b2:off+j < cs.size:=by simp at hj;omega
        have e:cs[off+j]? = some cs[off+j]:=by simp[b2]
        refine⟨by show cellAt w b (off+j)=_;rw[cz h2,e];rfl,⟨(Array.getElem?_eq_some_iff.1 h2).1,?_⟩,by rw[e];exact h4 _ _ e⟩;rintro(⟨g',b3,b4⟩ | ⟨lim,g',b3,r,M,hra⟩)
        ·have e:=h.inj g g' b h1 b4
         subst e;have:∀ {l:List Nat},pos l g=none→g∉l:=by
          intro l
          induction l with
          | nil=>intro _ hm;cases hm
          | cons y l ch=>
            intro U hm;simp only[pos] at U
            cases e:Nat.beq y g with
            | true=>rw[e] at U;simp at U
            | false=>
              rw[e] at U;simp only[cond_false] at U;split at U;·grind
              ·rename_i cj
               rcases List.mem_cons.1 hm with rfl | hm
               ·simp at e
               ·grind
         grind
        ·exact(h.rowAt M hra).2.1 g h1
       ·grind
      ·exact .any _
   | clo f vs l hs hd=>exact .clo f vs _ (by simp[hs]) (a7 l vs hd)
   | bnd f vs l hs hd=>exact .bnd f vs _ (by simp[hs]) (a7 l vs hd)
theorem gS {bx:List (Nat×List A)} {gs os:List Nat}:∀ {r:List Nat} {l:List (List A)},fQ bx gs os r=some l→l.length=r.length∧∀ (i g:Nat),r[i]? = some g→∃ c,aY bx g=some c∧l[i]? = some (c.map (dU bx gs os 5))
 | [],l,h=>by simp only[fQ,Option.some.injEq] at h;subst h;simp
 | g0::r,l,h=>by
   simp only[fQ] at h;split at h
   ·rename_i c l' I hl
    simp only[Option.some.injEq] at h;subst h;obtain⟨h1,h2⟩:=gS hl;grind
   ·grind
theorem nI {l:List Nat} (I:l.Nodup) {i j g:Nat} (h1:l[i]? = some g) (h2:l[j]? = some g):i=j:=by grind[List.getElem?_eq_some_iff,List.pairwise_iff_getElem]
theorem bg.kV {G:Gh} {tmps:Array Value} {w:World} (h:bg C n st G tmps w) {gs os:List Nat} {b0:List (List A)} (b6:gs.Nodup) (ai:os.Nodup) (ch:∀ g∈os,g∈st.lv) (hb:fQ st.bx gs os gs=some b0) :
 (eO C G w gs os).bx.length=b0.length∧bg (eO C G w gs os) 0 ⟨[],ey 0 b0,(List.range os.length).map (b0.length+·),b0.length+os.length⟩ (gK G gs os) #[] w:=by
 obtain⟨hl,aj⟩:=gS hb;refine⟨by simp[eO,hl],?_⟩;have I:∀ {g r},(gK G gs os).own g=some r→gs.length≤g∧∃ g0,os[g - gs.length]? = some g0∧G.own g0=some r:=by
  intro g r M;simp only[gK] at M;split at M;·cases M
  ·exact⟨by omega,Option.bind_eq_some_iff.1 M⟩
 refine { size:=rfl,frame:=fun t a ha=>by simp[look] at ha,box:=fun i l' hc=>?_,gbox:=fun i b a1=>?_,inj:=fun i j b h1 h2=>?_,live:=fun i hi=>?_,gown:=fun i r M=>?_,
          row:=fun i b len cap sz a7 M=>?_,mrow:=fun i b bs M=>?_,sub:=fun i b bs c lim M a6=>?_,gcell:=fun i b a1=>(let ⟨g,_,h2⟩:=Option.bind_eq_some_iff.1 a1;h.gcell g b h2),xold:=fun b o hx=>⟨uI h hx.1,hx.2⟩,kold:=fun b o hk=>?_,lent:=fun i b hi=>?_,fr:=⟨rfl,rfl,rfl,Nat.le_refl _,fun _ _ _=>rfl,fun _ _ _ _ h=>h,.refl w⟩ }
 ·obtain⟨_,h1⟩:=mU b0 0 i l' hc
  simp only[Nat.sub_zero] at h1;have J:i < gs.length:=by rw[←hl];exact(List.getElem?_eq_some_iff.1 h1).1
  have a8:gs[i]? = some gs[i]:=by simp[J]
  obtain⟨c,h2,h3⟩:=aj i _ a8;rw[h1] at h3;simp only[Option.some.injEq] at h3;subst h3;obtain⟨b,cs,T,h4,h5,X,h7,h8⟩:=h.box _ c h2;refine⟨b,cs,T,by simp[gK,a8,h4],h5,by simpa using X,h7,fun j u a hu ha=>?_⟩;rw[List.getElem?_map,Option.map_eq_some_iff] at ha;obtain⟨y,hy,rfl⟩:=ha;exact bu.kV h gs os (gen':=b0.length+os.length) (by omega) 5 u y (h8 j u y hu hy)
 ·obtain⟨g,h1,h2⟩:=Option.bind_eq_some_iff.1 a1
  have J:i < gs.length:=(List.getElem?_eq_some_iff.1 h1).1;refine⟨by show i < b0.length+os.length;omega,(h.gbox g b h2).2.1,.inr (.inl ⟨g,List.mem_of_getElem? h1,h2⟩),?_⟩;rintro o ⟨lim,⟨g',_,r,N,O⟩,_⟩;exact absurd h2 ((h.rowAt N O).2.1 g)
 ·obtain⟨g1,h3,h4⟩:=Option.bind_eq_some_iff.1 h1
  obtain⟨g2,h5,X⟩:=Option.bind_eq_some_iff.1 h2;have e:=h.inj g1 g2 b h4 X;subst e;exact nI b6 h3 h5
 ·obtain⟨j,hj,rfl⟩:=List.mem_map.1 hi
  have hj:j < os.length:=by simpa using hj
  obtain⟨r,M⟩:=h.live _ (ch _ (List.getElem_mem hj));refine⟨r,?_⟩;simp only[gK];rw[if_neg (by omega),hl,Nat.add_sub_cancel_left];simp[hj,M]
 ·obtain⟨h1,g0,h2,h3⟩:=I M
  have:=(List.getElem?_eq_some_iff.1 h2).1;simp only;omega
 ·obtain⟨h1,g0,h2,h3⟩:=I M
  obtain⟨h4,h5,X,h7⟩:=h.row g0 b len cap sz a7 h3;have hm:=List.mem_of_getElem? h2;refine⟨⟨.inr (.inr ⟨_,g0,hm,_,h3,rfl,rfl⟩),?_⟩,fun j hj=>?_,fun j b2 b3 cj b4 hj=>?_,h7⟩
  ·rintro o ⟨lim,⟨g',_,r',N,O⟩,J⟩
   have e:=(h.rowAt h3 ⟨rfl,rfl⟩).2.2.2 g' r' lim N O;rw[e.2] at J;exact J
  ·obtain⟨g2,_,h8⟩:=Option.bind_eq_some_iff.1 hj
   exact h5 g2 h8
  ·obtain⟨h9,g2,ad,U⟩:=I hj
   have e:=X g2 b2 b3 cj b4 U;subst e;have:=nI ai ad h2;omega
 ·obtain⟨h1,g0,h2,h3⟩:=I M
  obtain⟨h4,h5,X,h7⟩:=h.mrow g0 b bs h3;have hm:=List.mem_of_getElem? h2;refine⟨⟨.inr (.inr ⟨_,g0,hm,_,h3,Or.inl ⟨rfl,rfl⟩⟩),?_⟩,fun j hj=>?_,fun j bs' hj=>?_,h7⟩
  ·rintro o ⟨lim,⟨g',_,r',N,O⟩,J⟩
   have e:=(h.rowAt h3 (Or.inl ⟨rfl,rfl⟩)).2.2.2 g' r' lim N O;rw[e.2] at J;exact J
  ·obtain⟨g2,_,h8⟩:=Option.bind_eq_some_iff.1 hj
   exact h5 g2 h8
  ·obtain⟨h9,g2,ad,U⟩:=I hj
   have e:=X g2 bs' U;subst e;have:=nI ai ad h2;omega
 ·obtain⟨h1,g0,h2,h3⟩:=I M
  obtain⟨h4,h5,X,h7,h8⟩:=h.sub g0 b bs c lim h3 a6;have hm:=List.mem_of_getElem? h2;refine⟨⟨.inr (.inr ⟨_,g0,hm,_,h3,Or.inr a6⟩),?_⟩,fun j hj=>?_,fun j len cap sz a7 hj=>?_,fun j b' bs' cq hj cl=>?_,h8⟩
  ·rintro o ⟨b5,⟨g',_,r',N,O⟩,J⟩
   have e:=(h.rowAt h3 (Or.inr a6)).2.2.2 g' r' b5 N O;rw[e.2] at J;exact J
  ·obtain⟨g2,_,h9⟩:=Option.bind_eq_some_iff.1 hj
   exact h5 g2 h9
  ·obtain⟨_,g2,_,U⟩:=I hj
   exact X g2 _ _ _ _ U
  ·obtain⟨h9,g2,ad,U⟩:=I hj
   obtain⟨e,e0⟩:=h7 g2 _ _ _ U cl;subst e;have:=nI ai ad h2;exact⟨by omega,e0⟩
 ·obtain⟨lim,⟨g',_,r',N,O⟩,_⟩:=hk
  exact(h.rowAt N O).2.2.1
 ·simp only[eO,List.getElem?_map,Option.map_eq_some_iff] at hi
  obtain⟨g,hg,rfl⟩:=hi;obtain⟨c,h2,_⟩:=aj i g hg;obtain⟨b,_,_,h4,_⟩:=h.box _ c h2;simp[gK,hg,h4]
theorem aV {E E2:En} {gs:List Nat} {m:Nat} (hc:∀ b o u,cellAt E.w b o=some u→¬ E.pv b o→cellAt E2.w b o=some u∧¬ E2.pv b o) (ho:∀ g r,g < E.gen→E2.own (g+m)=some r→E.own g=some r)
 (hg:E.gen+m≤E2.gen) (hb:∀ (i g b:Nat),gs[i]? = some g→E.box i=some b→g < E2.gen∧E2.box g=some b) (hw:E2.w=E.w) {v:Value} {a:A} (h:bu E v a):bu E2 v (back gs m a):=by
 have ad:∀ b o u,cellAt E.w b o=some u→¬ E.pv b o→cellAt E.w b o=some u∧¬ E2.pv b o:=fun b o u h1 h2=>⟨h1,(hc b o u h1 h2).2⟩
 induction h with
 | any x=>exact .any x
 | d hd=>exact .d (hd.mono hc)
 | ag vs l hs hd=>exact .ag vs l hs (fun i u x h1 h2=>(hd i u x h1 h2).mono hc)
 | own x g es hd J hr=>exact .own x _ es (hd.mono hc) (by omega) (fun r M=>hr r (ho g r J M))
 | agg vs l hs hone _ ih=>simp only[Ab.back,je];refine .agg vs _ (by simp[hs]) hone (fun i u x hu N=>?_);grind
 | tup vs l hs _ ih=>simp only[Ab.back,je];refine .tup vs _ (by simp[hs]) (fun i u x hu N=>?_);grind
 | rowd b off l u ai hd=>exact .rowd b off l u (fun j hj=>hc _ _ _ (ai j hj).1 (ai j hj).2) (fun j x N=>(hd j x N).mono hc)
 | row b off l u ai _ _=>exact .any _
 | np x i T X J O hT u hp=>
   simp only[Ab.back];split
   ·rename_i g U
    exact .np x g T X (hb i g X U O).1 (hb i g X U O).2 (hw▸hT) u hp
   ·exact .any _
 | lk=>exact .any _
 | fx=>exact .any _
 | ol=>exact .any _
 | ow=>exact .any _
 | sb x i n c X J O hn hp=>
   simp only[Ab.back];split
   ·rename_i g U
    exact .sb x g n c X (hb i g X U O).1 (hb i g X U O).2 hn hp
   ·exact .any _
 | ptr x i off X J O hp=>
   simp only[Ab.back];split
   ·rename_i g U
    exact .ptr x g off X (hb i g X U O).1 (hb i g X U O).2 hp
   ·exact .any _
 | xs x g es J h1 N=>exact .xs x _ es (by omega) h1 (fun r M=>hw▸(N r (ho g r J M)).dK ad)
 | xp x g i off l J h1 N=>exact .xp x _ i off l (by omega) h1 (fun r M=>hw▸(N r (ho g r J M)).dK ad)
 | ni t x=>exact .ni t x
 | fl x es hd aj=>exact .fl x es (hd.mono hc) aj
 | bf x g T s J h1 N=>exact .bf x _ T s (by omega) h1 (fun r M=>hw▸N r (ho g r J M))
 | mp x g es J h1 N=>exact .mp x _ es (by omega) h1 (fun r M=>hw▸(N r (ho g r J M)).dK ad)
 | gi x g I J N=>exact .gi x _ I (by omega) (fun r M=>hw▸(N r (ho g r J M)).dK ad)
 | mq x g es J h1 N=>exact .mq x _ es (by omega) h1 (fun r M=>hw▸(N r (ho g r J M)).dK ad)
 | mo x g es hole ob J h1 N=>exact .mo x _ es hole ob (by omega) h1 (fun r M=>hw▸(N r (ho g r J M)).dK ad)
 | clo f vs l hs _ ih=>simp only[Ab.back,je];refine .clo f vs _ (by simp[hs]) (fun i u x hu N=>?_);grind
 | bnd f vs l hs _ ih=>simp only[Ab.back,je];refine .bnd f vs _ (by simp[hs]) (fun i u x hu N=>?_);grind
theorem bg.uz {G:Gh} {tmps:Array Value} {w w':World} (h:bg C n st G tmps w) {gs os:List Nat} {b0 b1:List (List A)} (hb:fQ st.bx gs os gs=some b0) (hl1:b1.length=b0.length) {k:Nat} {G1:Gh}
    (h1:bg (eO C G w gs os) 0 ⟨[],ey 0 b1,(List.range k).map (b0.length+·),b0.length+k⟩ G1 #[] w') :
    ∃ G2,(∀ v a,bu (bj (eO C G w gs os) G1 (b0.length+k) w') v a→bu (bj C G2 (b0.length+k+st.gen) w') v (back gs st.gen a)) ∧
      bg C n ⟨st.f,iw gs st.gen gs b1++st.bx,(List.range k).map (b0.length+·+st.gen)++st.lv.filter (fun g=>!os.any (Nat.beq g)),b0.length+k+st.gen⟩ G2 tmps w':=by
  obtain⟨hl,hget⟩:=gS hb
  have memos:∀ g,os.any (Nat.beq g)=true↔g∈os:=by
    intro g
    rw[List.any_eq_true]
    exact⟨fun ⟨x,hx,he⟩=>Nat.eq_of_beq_eq_true he▸hx,fun hg=>⟨g,hg,Nat.beq_refl g⟩⟩
  let own2:Nat→Option Row:=fun g=>if g < st.gen then (if os.any (Nat.beq g) then none else G.own g) else G1.own (g - st.gen)
  let G2:Gh:=⟨G.box,own2⟩
  have hLb:∀ {b},fB G gs b→C.iJ b 0∧b < w.heap.size:=by
    rintro b ⟨g,_,hg⟩
    exact⟨(h.gbox g b hg).2.2,(h.gbox g b hg).2.1⟩
  have hLr:∀ {b lim},eE G os b lim→C.iJ b lim∧b < w.heap.size∧(∀ g',G.box g'≠some b):=by
    rintro b lim ⟨g,_,r,hg,hra⟩
    obtain⟨h1,h2,h3,_⟩:=h.rowAt hg hra
    exact⟨h1,h3,h2⟩
  have hLm:∀ {b},(fB G gs b∨∃ lim,eE G os b lim)→C.w0.heap.size≤b∨C.fp b:=by
    rintro b (hl | ⟨lim,hl⟩)
    · exact(hLb hl).1.1
    · exact(hLr hl).1.1
  have hG1:∀ {i g:Nat} {b:Nat},gs[i]? = some g→G.box g=some b→G1.box i=some b:=by
    intro i g b hi hg
    refine h1.lent i b ?_
    simp[eO,hi,hg]
  have old2:∀ {g r},own2 g=some r→(g < st.gen∧g∉os∧G.own g=some r)∨(st.gen≤g∧G1.own (g - st.gen)=some r):=by
    intro g r hr
    simp only[own2] at hr
    split at hr
    · rename_i hlt
      split at hr
      · cases hr
      · rename_i hno
        exact .inl ⟨hlt,fun hm=>hno ((memos g).2 hm),hr⟩
    · exact .inr ⟨by omega,hr⟩
  have hstay:∀ {b},b < w.heap.size→¬ (fB G gs b∨∃ lim,eE G os b lim)→w'.heap[b]? = w.heap[b]?:=fun hlt hn=>h1.fr.block _ hlt hn
  have hnotrow:∀ {g b lim r},G.own g=some r→r.pV b lim→g∉os→¬ (fB G gs b∨∃ lim,eE G os b lim):=by
    rintro g b lim r hg hra hno (⟨g',_,hb'⟩ | ⟨lim',g',hg',r',hr',hra'⟩)
    · exact(h.rowAt hg hra).2.1 g' hb'
    · have e:=(h.rowAt hg hra).2.2.2 g' r' lim' hr' hra'
      exact hno (e.1▸hg')
  have hnotbox:∀ {g b},G.box g=some b→g∉gs→¬ (fB G gs b∨∃ lim,eE G os b lim):=by
    rintro g b hg hno (⟨g',hg',hb'⟩ | ⟨lim,hl⟩)
    · have e:=h.inj g g' b hg hb'
      subst e
      exact hno hg'
    · exact(hLr hl).2.2 g hg
  have hnew:∀ {g b lim r},G1.own g=some r→r.pV b lim→C.iJ b lim∧(∀ g',G.box g'≠some b)∧(w.heap.size≤b∨∃ lim',eE G os b lim'∧lim'≤lim):=by
    intro g b lim r hg hra
    obtain⟨⟨hm,hk⟩,hnb,_⟩:=h1.rowAt hg hra
    have hm':w.heap.size≤b∨(fB G gs b∨∃ lim,eE G os b lim):=hm
    rcases hm' with hm | hm | ⟨lim',hm⟩
    · refine⟨⟨.inl (Nat.le_trans h.fr.size hm),fun o ho=>?_⟩,fun g' hg'=>?_,.inl hm⟩
      · have:=h.kold b o ho
        have:=h.fr.size
        omega
      · have:=(h.gbox g' b hg').2.1
        omega
    · obtain⟨g0,hg0,hb0⟩:=hm
      obtain⟨i,hi⟩:=List.mem_iff_getElem?.1 hg0
      exact absurd (hG1 hi hb0) (hnb i)
    · have hlim:lim'≤lim:=by
        rcases Nat.lt_or_ge lim lim' with hlt | hge
        · exact absurd (hk lim ⟨lim',hm,hlt⟩) (Nat.lt_irrefl _)
        · exact hge
      obtain⟨q1,q2,q3⟩:=hLr hm
      exact⟨⟨q1.1,fun o ho=>Nat.lt_of_lt_of_le (q1.2 o ho) hlim⟩,q3,.inr ⟨lim',hm,hlim⟩⟩
  have hfr:Fr C w':=by
    refine⟨h1.fr.os.trans h.fr.os,h1.fr.tape.trans h.fr.tape,h1.fr.output.trans h.fr.output,Nat.le_trans h.fr.size h1.fr.size,fun b hlt hn=>?_,fun b o u hk hu=>?_,h.fr.ty.trans h1.fr.ty⟩
    · rw[hstay (Nat.lt_of_lt_of_le hlt h.fr.size) (fun hl=>(hLm hl).elim (fun h=>by omega) hn)]
      exact h.fr.block b hlt hn
    · have hu':=h.fr.cells b o u hk hu
      by_cases hl:fB G gs b∨∃ lim,eE G os b lim
      · rcases hl with hl | ⟨lim,hl⟩
        · exact absurd ((hLb hl).1.2 o hk) (Nat.not_lt_zero _)
        · exact h1.fr.cells b o u ⟨lim,hl,(hLr hl).1.2 o hk⟩ hu'
      · rw[cw (hstay (dF hu') hl)]
        exact hu'
  have hpv2:∀ {b o},bM C G2 b o→bM (eO C G w gs os) G1 b o:=by
    rintro b o (hp | ⟨g,hp⟩ | ⟨g,len,cap,sz,pub,hp,hle⟩ | ⟨g,b',bs,lim,hp,hm,hle⟩)
    · refine ry (.inl hp) (fun hl=>?_)
      obtain⟨h2,h3⟩:=h.xold b o hp
      exact(hLm hl).elim (fun h=>by omega) h3
    · by_cases hg:g∈gs
      · obtain⟨i,hi⟩:=List.mem_iff_getElem?.1 hg
        exact .inr (.inl ⟨i,hG1 hi hp⟩)
      · exact ry (G:=G) (.inr (.inl ⟨g,hp⟩)) (hnotbox hp hg)
    · rcases old2 hp with ⟨_,h3,h4⟩ | ⟨_,h3⟩
      · exact ry (.inr (.inr (.inl ⟨g,len,cap,sz,pub,h4,hle⟩))) (hnotrow h4 ⟨rfl,rfl⟩ h3)
      · exact .inr (.inr (.inl ⟨_,len,cap,sz,pub,h3,hle⟩))
    · rcases old2 hp with ⟨_,h3,h4⟩ | ⟨_,h3⟩
      · exact ry (.inr (.inr (.inr ⟨g,b',bs,lim,h4,hm,hle⟩))) (hnotrow h4 (Or.inr hm) h3)
      · exact .inr (.inr (.inr ⟨_,b',bs,lim,h3,hm,hle⟩))
  have hback:∀ v a,bu (bj (eO C G w gs os) G1 (b0.length+k) w') v a→bu (bj C G2 (b0.length+k+st.gen) w') v (back gs st.gen a):=by
    intro v a hr
    refine aV (E:=bj (eO C G w gs os) G1 (b0.length+k) w') (E2:=bj C G2 (b0.length+k+st.gen) w') (fun b o u hu hn=>⟨hu,fun hp=>hn (hpv2 hp)⟩) (fun g r hg hr'=>?_) (by simp[bj]) (fun i g b hi hb1=>?_) rfl hr
    · have hr2:own2 (g+st.gen)=some r:=hr'
      rcases old2 hr2 with ⟨h3,_⟩ | ⟨_,h3⟩
      · omega
      · rw[Nat.add_sub_cancel] at h3
        exact h3
    · obtain⟨c,h2,_⟩:=hget i g hi
      obtain⟨b',_,_,h4,_⟩:=h.box _ c h2
      have h5:=hG1 hi h4
      have h6:G1.box i=some b:=hb1
      rw[h5] at h6
      simp only[Option.some.injEq] at h6
      subst h6
      have:=(h.gbox g b' h4).1
      exact⟨by simp only[bj];omega,h4⟩
  have hle:(bj C G st.gen w).le (bj C G2 (b0.length+k+st.gen) w'):=by
    refine k9 h.fr hfr (fun b o u hu hn=>⟨?_,fun hp=>?_⟩) (fun _ _ h=>h) (fun g r hg hr=>?_) (by omega) (fun g b len cap sz pub hg hr=>?_) (fun g b bs hg hr=>?_) h1.fr.ty
    · by_cases hl:fB G gs b∨∃ lim,eE G os b lim
      · rcases hl with ⟨g,_,hg⟩ | ⟨lim,hl⟩
        · exact absurd (.inr (.inl ⟨g,hg⟩)) hn
        · refine h1.fr.cells b o u ⟨lim,hl,?_⟩ hu
          obtain⟨g,_,r,hg,hra⟩:=hl
          exact Nat.lt_of_not_le fun hle=>hn (h.EK hg hra hu hle)
      · rw[cw (hstay (dF hu) hl)]
        exact hu
    · rcases hp with hp | ⟨g,hp⟩ | ⟨g,len,cap,sz,pub,hp,hle⟩ | ⟨g,b',bs,lim0,hp,hm,hle⟩
      · exact hn (.inl hp)
      · exact hn (.inr (.inl ⟨g,hp⟩))
      · rcases old2 hp with ⟨_,_,h4⟩ | ⟨_,h3⟩
        · exact hn (.inr (.inr (.inl ⟨g,len,cap,sz,pub,h4,hle⟩)))
        · have hlt:=dF hu
          rcases(hnew h3 ⟨rfl,rfl⟩).2.2 with h5 | ⟨lim,hl,hlim⟩
          · omega
          · obtain⟨g0,_,r0,hg0,hra⟩:=hl
            exact hn (h.EK hg0 hra hu (by omega))
      · rcases old2 hp with ⟨_,_,h4⟩ | ⟨_,h3⟩
        · exact hn (.inr (.inr (.inr ⟨g,b',bs,lim0,h4,hm,hle⟩)))
        · have hlt:=dF hu
          rcases(hnew h3 (Or.inr hm)).2.2 with h5 | ⟨lim,hl,hlim⟩
          · omega
          · obtain⟨g0,_,r0,hg0,hra⟩:=hl
            exact hn (h.EK hg0 hra hu (by omega))
    · have hr2:own2 g=some r:=hr
      rcases old2 hr2 with ⟨_,_,h3⟩ | ⟨h3,_⟩
      · exact h3
      · omega
    · have hr2:own2 g=some (.blk b len cap sz pub):=hr
      rcases old2 hr2 with ⟨_,h3,h4⟩ | ⟨h3,_⟩
      · exact hstay (h.rowAt h4 ⟨rfl,rfl⟩).2.2.1 (hnotrow h4 ⟨rfl,rfl⟩ h3)
      · omega
    · have hr2:own2 g=some (.mp b bs):=hr
      rcases old2 hr2 with ⟨_,h3,h4⟩ | ⟨h3,_⟩
      · exact⟨fun c hc=>by subst hc;exact hstay (h.rowAt (b:=c) (lim:=0) h4 (Or.inl ⟨rfl,rfl⟩)).2.2.1 (hnotrow (b:=c) (lim:=0) h4 (Or.inl ⟨rfl,rfl⟩) h3),fun p hp=>hstay (h.rowAt (lim:=p.2) h4 (Or.inr hp)).2.2.1 (hnotrow (lim:=p.2) h4 (Or.inr hp) h3)⟩
      · omega
  refine⟨G2,hback,{ size:=h.size,frame:=h.eA hle,inj:=h.inj,xold:=h.xold,kold:=h.kold,lent:=h.lent,fr:=hfr,gcell:=fun g b hb'=>lX h1.fr.ty (h.gcell g b hb'),box:=?_,gbox:=?_,live:=?_,gown:=?_,row:=?_,mrow:=?_,sub:=?_ }⟩
  · intro g cells hc
    by_cases hg:g∈gs
    · have hz:∃ c,aY (iw gs st.gen gs b1) g=some c:=by
        clear hback hle hpv2
        have:∀ (r:List Nat) (l:List (List A)),l.length=r.length→g∈r→∃ c,aY (iw gs st.gen r l) g=some c:=by
          intro r
          induction r with
          | nil=>intro l _ hm;cases hm
          | cons x r ih=>
            intro l hl hm
            cases l with
            | nil=>simp at hl
            | cons c l=>
              simp only[iw,cM]
              by_cases e:x=g
              · rw[if_pos e];exact⟨_,rfl⟩
              · rw[if_neg e]
                exact ih l (by simpa using hl) ((List.mem_cons.1 hm).resolve_left (fun h=>e h.symm))
        exact this gs b1 (by omega) hg
      obtain⟨c,hz⟩:=hz
      have hcc:c=cells:=by
        rcases kr hc with h2 | h2
        · rw[h2] at hz;exact(Option.some.inj hz).symm
        · have:aY (iw gs st.gen gs b1++st.bx) g=some c:=by
            clear hc hback hle
            revert hz
            generalize iw gs st.gen gs b1=z
            intro hz
            induction z with
            | nil=>simp[aY] at hz
            | cons x z ih=>
              obtain⟨s,y⟩:=x
              rw[cM] at hz
              rw[List.cons_append,cM]
              split
              · rename_i e;rw[if_pos e] at hz;exact hz
              · rename_i e;rw[if_neg e] at hz;exact ih hz
          rw[this] at hc
          exact Option.some.inj hc
      subst hcc
      obtain⟨i,c0,h2,h3,rfl⟩:=qz hz
      obtain⟨b,cs,T,h4,h5,h6,h7,h8⟩:=h1.box i c0 (by have:=yK b1 0 i c0 h3;simpa using this)
      obtain⟨c2,h9,_⟩:=hget i g h2
      obtain⟨b',_,_,h10,_⟩:=h.box g c2 h9
      have e:b'=b:=by
        have:=hG1 h2 h10
        rw[h4] at this
        exact(Option.some.inj this).symm
      subst e
      refine⟨b',cs,T,h10,h5,by rw[je,List.length_map];exact h6,h7,fun j u a hu ha=>?_⟩
      rw[je,List.getElem?_map,Option.map_eq_some_iff] at ha
      obtain⟨y,hy,rfl⟩:=ha
      exact hback u y (h8 j u y hu hy)
    · have hc2:aY st.bx g=some cells:=by
        rcases kr hc with h2 | h2
        · obtain⟨i,c0,h3,_⟩:=qz h2
          exact absurd (List.mem_of_getElem? h3) hg
        · exact h2
      obtain⟨b,cs,T,h4,h5,h6,h7,h8⟩:=h.box g cells hc2
      refine⟨b,cs,T,h4,by rw[hstay (Array.getElem?_eq_some_iff.1 h5).1 (hnotbox h4 hg)];exact h5,h6,h7,fun j u a hu ha=>(h8 j u a hu ha).mono hle⟩
  · intro g b hgb
    obtain⟨h2,h3,h4⟩:=h.gbox g b hgb
    exact⟨by simp only;omega,Nat.lt_of_lt_of_le h3 h1.fr.size,h4⟩
  · intro g hg
    rcases List.mem_append.1 hg with hg | hg
    · obtain⟨j,hj,rfl⟩:=List.mem_map.1 hg
      obtain⟨r,hr⟩:=h1.live (b0.length+j) (List.mem_map.2 ⟨j,hj,rfl⟩)
      refine⟨r,?_⟩
      simp only[G2,own2]
      rw[if_neg (by omega),Nat.add_sub_cancel]
      exact hr
    · obtain⟨h2,h3⟩:=List.mem_filter.1 hg
      obtain⟨r,hr⟩:=h.live g h2
      refine⟨r,?_⟩
      simp only[G2,own2]
      rw[if_pos (h.gown g r hr),if_neg (by cases e:os.any (Nat.beq g) with | true=>rw[e] at h3;cases h3 | false=>simp)]
      exact hr
  · intro g r hr
    rcases old2 hr with ⟨h2,_⟩ | ⟨h2,h3⟩
    · simp only;omega
    · have:=h1.gown _ r h3
      simp only at this ⊢
      omega
  · intro g b len cap sz pub hr
    rcases old2 hr with ⟨h2,h3,h4⟩ | ⟨h2,h3⟩
    · obtain⟨h5,h6,h7,cur,T,h8,h9⟩:=h.row g b len cap sz pub h4
      refine⟨h5,h6,fun g' len' cap' sz' pub' hr'=>?_,cur,T,by rw[hstay (Array.getElem?_eq_some_iff.1 h8).1 (hnotrow h4 ⟨rfl,rfl⟩ h3)];exact h8,h9⟩
      rcases old2 hr' with ⟨_,_,h10⟩ | ⟨_,h10⟩
      · exact h7 g' len' cap' sz' pub' h10
      · rcases(hnew h10 ⟨rfl,rfl⟩).2.2 with h11 | ⟨lim,h11,_⟩
        · have:=(Array.getElem?_eq_some_iff.1 h8).1
          omega
        · exact absurd (.inr ⟨lim,h11⟩) (hnotrow h4 ⟨rfl,rfl⟩ h3)
    · obtain⟨h5,h6,h7,h8⟩:=h1.row _ b len cap sz pub h3
      refine⟨(hnew h3 ⟨rfl,rfl⟩).1,(hnew h3 ⟨rfl,rfl⟩).2.1,fun g' len' cap' sz' pub' hr'=>?_,h8⟩
      rcases old2 hr' with ⟨_,h10,h12⟩ | ⟨_,h10⟩
      · rcases(hnew h3 ⟨rfl,rfl⟩).2.2 with h11 | ⟨lim,h11,_⟩
        · have:=(h.rowAt h12 ⟨rfl,rfl⟩).2.2.1
          omega
        · exact absurd (.inr ⟨lim,h11⟩) (hnotrow h12 ⟨rfl,rfl⟩ h10)
      · have:=h7 _ len' cap' sz' pub' h10
        omega
  · intro g b bs hr
    rcases old2 hr with ⟨h2,h3,h4⟩ | ⟨h2,h3⟩
    · obtain⟨h5,h6,h7,me,clock,h8⟩:=h.mrow g b bs h4
      have hnr:=hnotrow h4 (Or.inl ⟨rfl,rfl⟩) h3
      refine⟨h5,h6,fun g' bs' hr'=>?_,me,clock,by rw[hstay (Array.getElem?_eq_some_iff.1 h8).1 hnr];exact h8⟩
      rcases old2 hr' with ⟨_,_,h10⟩ | ⟨_,h10⟩
      · exact h7 g' bs' h10
      · rcases(hnew h10 (Or.inl ⟨rfl,rfl⟩)).2.2 with h11 | ⟨lim,h11,_⟩
        · have:=(Array.getElem?_eq_some_iff.1 h8).1
          omega
        · exact absurd (.inr ⟨lim,h11⟩) hnr
    · obtain⟨h5,h6,h7,h8⟩:=h1.mrow _ b bs h3
      have hn:=hnew h3 (Or.inl ⟨rfl,rfl⟩)
      refine⟨hn.1,hn.2.1,fun g' bs' hr'=>?_,h8⟩
      rcases old2 hr' with ⟨_,h10,h12⟩ | ⟨_,h10⟩
      · rcases hn.2.2 with h11 | ⟨lim,h11,_⟩
        · have:=(h.rowAt h12 (Or.inl ⟨rfl,rfl⟩)).2.2.1
          omega
        · exact absurd (.inr ⟨lim,h11⟩) (hnotrow h12 (Or.inl ⟨rfl,rfl⟩) h10)
      · have:=h7 _ _ h10
        omega
  · intro g b bs c lim hr hm
    rcases old2 hr with ⟨h2,h3,h4⟩ | ⟨h2,h3⟩
    · obtain⟨h5,h6,h7,h8,cur,T,h9,h10⟩:=h.sub g b bs c lim h4 hm
      have hcl:=(Array.getElem?_eq_some_iff.1 h9).1
      have hnr:=hnotrow h4 (Or.inr hm) h3
      refine⟨h5,h6,fun g' len cap sz pub hr'=>?_,fun g' b' bs' lim' hr' hm'=>?_,cur,T,by rw[hstay hcl hnr];exact h9,h10⟩
      · rcases old2 hr' with ⟨_,_,h11⟩ | ⟨_,h11⟩
        · exact h7 g' _ _ _ _ h11
        · rcases(hnew h11 ⟨rfl,rfl⟩).2.2 with h12 | ⟨lim2,h12,_⟩
          · omega
          · exact hnr (.inr ⟨lim2,h12⟩)
      · rcases old2 hr' with ⟨_,_,h11⟩ | ⟨_,h11⟩
        · exact h8 g' _ _ _ h11 hm'
        · rcases(hnew h11 (Or.inr hm')).2.2 with h12 | ⟨lim2,h12,_⟩
          · omega
          · exact absurd (.inr ⟨lim2,h12⟩) hnr
    · obtain⟨h5,h6,h7,h8,h9⟩:=h1.sub _ b bs c lim h3 hm
      have hn:=hnew h3 (Or.inr hm)
      refine⟨hn.1,hn.2.1,fun g' len cap sz pub hr'=>?_,fun g' b' bs' lim' hr' hm'=>?_,h9⟩
      · rcases old2 hr' with ⟨_,h10,h12⟩ | ⟨_,h10⟩
        · rcases hn.2.2 with h11 | ⟨lim2,h11,_⟩
          · have:=(h.rowAt h12 ⟨rfl,rfl⟩).2.2.1
            omega
          · exact absurd (.inr ⟨lim2,h11⟩) (hnotrow h12 ⟨rfl,rfl⟩ h10)
        · exact h7 _ _ _ _ _ h10
      · rcases old2 hr' with ⟨_,h10,h12⟩ | ⟨_,h10⟩
        · rcases hn.2.2 with h11 | ⟨lim2,h11,_⟩
          · have:=(h.rowAt h12 (Or.inr hm')).2.2.1
            omega
          · exact absurd (.inr ⟨lim2,h11⟩) (hnotrow h12 (Or.inr hm') h10)
        · have:=h8 _ _ _ _ h10 hm'
          omega
theorem WO.bG [db P] [GC P C] (hg:o.guard=none) (hd:e7 n o.dst=true) {x:Operand} {xs:Array Operand} {X:Array TypeId} (ho:o.op=.call ⟨.value x,xs,X⟩) {fid:FuncId} {caps I:List A} (hx:av st.f x=some (.clo fid caps))
 (a7:jV st.f xs.toList=some I) (gs os:List Nat) (a8:nodupB gs=true) (b2:nodupB os=true) (b3:(os.all fun g=>st.lv.any fun h=>Nat.beq h g)=true) {args:List A} {M b1:List (List A)} {r:A} {m k:Nat}
 (hf:cm P fid args M m r b1 k) (ad:(I++caps).map (dU st.bx gs os 5)=args) (hb:fQ st.bx gs os gs=some M) (hm:os.length=m)
 (h:WO P C n ops Q rest (St.put ⟨st.f,iw gs st.gen gs b1++st.bx,(List.range k).map (M.length+·+st.gen)++st.lv.filter (fun g=>!os.any (Nat.beq g)),M.length+k+st.gen⟩ o.dst (back gs st.gen r))):WO P C n ops Q (o::rest) st:=by
 subst hm;subst ad;refine WO.step hg fun tmps w ⟨G,hs⟩=>?_;obtain⟨fn,b4,N,O⟩:=hf.ok;have hr:=hs.av hx;generalize hv:Act.eval ⟨tmps,[]⟩ x=v at hr
 cases hr with
 | clo _ vs _ b5 hcd=>
 obtain⟨h1,h2⟩:=iS hs xs.toList I a7;have ai:(execOp (Act.eval ⟨tmps,[]⟩) o).run P w=.ok (.enter fid (xs.map (Act.eval ⟨tmps,[]⟩)++vs)) w:=by unfold execOp;rw[ho];show Sem.run P (do let d ←resolve (Act.eval ⟨tmps,[]⟩) ⟨.value x,xs,X⟩ o.type;invoke d.target d.args) w=_;simp only[resolve,hv,Deferred.ofValue,Sem.run_bind,Sem.run_pure,Result.andThen_ok,invoke,callFunc,run_program,b4,N,O,Bool.false_eq_true,if_false,Array.empty_append]
 obtain⟨hlen,aj⟩:=hs.kV (gs:=gs) (os:=os) (eb a8) (eb b2) (fun g hg=>by obtain⟨y,J,he⟩:=List.any_eq_true.1 (List.all_eq_true.1 b3 g hg);exact Nat.eq_of_beq_eq_true he▸J) hb;have cy:=(gS hb).1;unfold dR;have U:(execOp (Act.eval { tmps:=tmps,defers:=[] }) o).run P w=.ok (.enter fid (xs.map (Act.eval ⟨tmps,[]⟩)++vs)) w:=ai;rw[U];refine(hf.calls (eO C G w gs os) (gK G gs os) _ w (GC.qn hs) rfl hlen rfl (pz rfl) aj (by simp at h1;simp[b5,h1]) (fun i u a hu ha=>?_)).mono fun e w' ⟨v,G',he,h3,h4⟩=>?_
 ·simp only[List.getElem?_map,Option.map_eq_some_iff] at ha
  obtain⟨y,J,rfl⟩:=ha;refine bu.kV hs gs os (by omega) 5 u y ?_;simp only[Array.getElem?_append] at hu;split at hu
  ·rename_i b6
   simp only[Array.size_map] at b6;have a1:i < I.length:=by simp at h1;omega
   rw[List.getElem?_append_left a1] at J;obtain⟨z,hz,ch⟩:=h2 i y J;simp only[Array.getElem?_map,Option.map_eq_some_iff] at hu;obtain⟨z',cj,rfl⟩:=hu;have:z=z':=by simp at hz;rw[cj] at hz;exact(Option.some.inj hz).symm
   subst this;exact ch
  ·rename_i cl
   simp only[Array.size_map] at cl hu;have a6:I.length≤i:=by simp at h1;omega
   rw[List.getElem?_append_right a6] at J;refine hcd (i - xs.size) u y hu ?_;have:xs.size=I.length:=by simpa using h1
   rw[this];exact J
 ·obtain⟨G2,cq,cx⟩:=hs.uz hb hf.len h3
  exact⟨v,he,_,⟨G2,cx.put (cJ hd) (cq v r h4)⟩,h⟩
end
end Go.Ab
namespace Go.Ab
open Go.RowKit
section
variable {P:Program} {C:Ctx} {n:Nat} {ops:Array Oper} {Q:Exit→St→Prop} {rest:List Oper} {c:Code}
variable {f:List (Nat×A)} {bx:List (Nat×List A)} {lv:List Nat} {gen:Nat} {d:Nat} {op:Op} {ty:TypeId} {pos:String} {af:Array Edge} {a:A} {dst:Option Nat}
theorem bg.EY {st:St} {G:Gh} {tmps:Array Value} {w:World} (h:bg C n st G tmps w) {g:Nat} {cells cells':List A} (hb:aY st.bx g=some cells) (hl:cells'.length=cells.length)
 (M:∀ (i:Nat) (u:Value) (a a':A),cells[i]? = some a→cells'[i]? = some a'→bu (bj C G st.gen w) u a→bu (bj C G st.gen w) u a'):bg C n { st with bx:=(g,cells')::st.bx } G tmps w:=by
 refine { h with box:=fun J c I=>?_ };simp only[cM] at I;split at I
 ·rename_i e
  subst e;simp only[Option.some.injEq] at I;subst I;obtain⟨b,cs,T,h1,h2,h3,h4,h5⟩:=h.box g cells hb;grind
 ·exact h.box J c I
def isNil:A→Bool
 | .d (.v (.slice none 0 0))=>true
 | _=>false
theorem Es {a:A} (h:isNil a=true):a=.d (.v (.slice none 0 0)):=by grind[isNil]
theorem ez.eZ {st:St} {tmps:Array Value} {w:World} (h:ez C n st tmps w) {g j:Nat} {cells:List A} (hb:aY st.bx g=some cells) (hj:cells[j]? = some (.d (.v (.slice none 0 0)))) :
 ez C n ⟨st.f,(g,cells.set j (.own st.gen []))::st.bx,st.gen::st.lv,st.gen+1⟩ tmps w:=by
 obtain⟨G,h⟩:=h;obtain⟨⟨N,_,hs,O⟩⟩:=h.oG false st.lv (fun _ h=>h);refine⟨N,bg.EY (st:={ st with lv:=st.gen::st.lv,gen:=st.gen+1 }) hs hb (by simp) (fun i u a a' J I M=>?_)⟩;rw[List.getElem?_set] at I;split at I
 ·rename_i e
  subst e;rw[hj] at J;simp only[Option.some.injEq] at J;subst J;split at I
  ·simp only[Option.some.injEq] at I
   subst I;cases M with | d M=>cases M;exact O
  ·grind
 ·grind
theorem eZ (g j:Nat) {cells cells':List A} (hb:aY bx g=some cells) (hj:cells[j]? = some (.d (.v (.slice none 0 0)))) (I:cells.set j (.own gen [])=cells') (h:W P C n c Q ⟨f,(g,cells')::bx,gen::lv,gen+1⟩):W P C n c Q ⟨f,bx,lv,gen⟩:=by subst I;exact fun tmps w hs=>h tmps w (hs.eZ hb hj)
theorem bG [db P] [GC P C] {x:Operand} {xs:Array Operand} {O:Array TypeId} {fid:FuncId} {caps J args:List A} {I b1:List (List A)} {r:A} {m k:Nat} {U:A} {bx':List (Nat×List A)} {lv':List Nat} {gen':Nat} (gs os:List Nat) (hx:av f x=some (.clo fid caps)) (X:jV f xs.toList=some J)
 (M:(J++caps).map (dU bx gs os 5)=args) (hb:fQ bx gs os gs=some I) (hm:os.length=m) (hf:cm P fid args I m r b1 k)
 (ad:nodupB gs=true) (ai:nodupB os=true) (aj:(os.all fun g=>lv.any fun h=>Nat.beq h g)=true) (hd:Nat.blt d n=true)
 (hr:back gs gen r=U) (a1:iw gs gen gs b1++bx=bx') (a6:(List.range k).map (I.length+·+gen)++lv.filter (fun g=>!os.any (Nat.beq g))=lv') (N:I.length+k+gen=gen')
 (h:WO P C n ops Q rest ⟨(d,U)::f,bx',lv',gen'⟩) :
 WO P C n ops Q (⟨some d,.call ⟨.value x,xs,O⟩,ty,pos,af,none⟩::rest) ⟨f,bx,lv,gen⟩:=by
 subst hr;subst a1;subst a6;subst N;exact WO.bG (st:=⟨f,bx,lv,gen⟩) rfl hd rfl hx X gs os ad ai aj hf M hb hm h
def yd (order:List Nat) (bx:List (Nat×List A)):Nat→List (List A)→Prop
 | _,[]=>True
 | i,c::r=>(match aY bx i with | some c0=>some (gM order c0) | none=>none)=some c∧yd order bx (i+1) r
theorem yd.get {order:List Nat} {bx:List (Nat×List A)}:∀ {l:List (List A)} {k:Nat},yd order bx k l→∀ (i:Nat) (c:List A),l[i]? = some c→∃ c0,aY bx (k+i)=some c0∧gM order c0=c
 | [],_,_,i,c,h=>by simp at h
 | b::l,k,hh,i,c,h=>by
   cases i with
   | zero=>simp at h;subst h;have:=hh.1;grind
   | succ i=>have:=yd.get hh.2 i c (by simpa using h);grind
theorem ak (T:cn P) {rs:List RV} {r:A} {b1:List (List A)} {k:Nat} {e:Exit} {l:List A} (order:List Nat) (he:match e with | .normal=>True | .ret=>True | _=>False) (hl:kQ T f bx rs=some l)
 (M:order.length=k) (I:nodupB (eo b1.length order)=true) (J:(order.all fun g=>lv.any fun h=>Nat.beq h g)=true) (hb:yd (eo b1.length order) bx 0 b1)
 (N:cD (eo b1.length order) (bW l)=r):cR T rs r b1 k e ⟨f,bx,lv,gen⟩:=
 cR.ret (st:=⟨f,bx,lv,gen⟩) T order he hl M I J (fun i c O=>by have:=hb.get i c O;simpa using this) N
end
abbrev Bt:=Nat→Option (List A)
def fP (β:Bt):Option (Nat×List A)→Bt
 | some (g,c)=>fun h=>if h=g then some c else β h
 | none=>β
def kN (o:Oper):Bool:=match o.op with | .alloc _=>true | .box _ _=>true | _=>false
def Jm (o:Oper):Bool:=match o.op with | .store _ _ _=>true | _=>false
def mX (o:Oper):Option Nat:=match o.op with | .store _ (.tmp d) _=>some d | _=>none
def dX:List Oper→Nat→Nat
 | [],_=>0
 | _::_,0=>0
 | o::r,i+1=>(bif kN o then 1 else 0)+dX r i
theorem wC:∀ (l:List Oper) {i j:Nat},i≤j→dX l i≤dX l j
 | [],i,j,_=>by simp[dX]
 | o::r,0,j,_=>by simp[dX]
 | o::r,i+1,0,h=>by omega
 | o::r,i+1,j+1,h=>by have:=wC r (i:=i) (j:=j) (by omega);simp only[dX];omega
theorem r7:∀ {l:List Oper} {i:Nat} {o:Oper},l[i]? = some o→kN o=true→dX l (i+1)=dX l i+1
 | [],i,o,h,_=>by simp at h
 | x::r,0,o,h,hn=>by simp at h;subst h;cases r <;> simp[dX,hn]
 | x::r,i+1,o,h,hn=>by have:=r7 (l:=r) (i:=i) (by simpa using h) hn;grind[dX]
theorem vS {l:List Oper} {i j:Nat} {o:Oper} (h:l[i]? = some o) (I:kN o=true) (J:i < j):dX l i < dX l j:=by have h1:=r7 h I;have h2:=wC l (i:=i+1) (j:=j) (by omega);omega
section
variable {P:Program} (T:cn P) {C:Ctx} {n:Nat} {bx:List (Nat×List A)} {lv:List Nat} {gen r:Nat} {ops:Array Oper} {md:Region.Mode} {m:Nat}
abbrev Sg:=et×Bt
structure iu (C:Ctx) (n:Nat) (bx:List (Nat×List A)) (lv:List Nat) (gen r:Nat) (σ:Sg) (G:Gh) (tmps:Array Value) (w:World):Prop where
 s:bg C n ⟨[],bx,lv,gen+r⟩ G tmps w
 f:∀ t a,σ.1 t=some a→∃ v,tmps[t]? = some v∧bu (bj C G (gen+r) w) v a
 b:∀ g cells,σ.2 g=some cells→gen≤g∧∃ b cs T,G.box g=some b∧w.heap[b]? = some (.cells cs T (0,0))∧cs.size=cells.length ∧
   (∀ (i:Nat) (u:Value),cs[i]? = some u→u.oneCell'=true)∧∀ (i:Nat) (u:Value) (a:A),cs[i]? = some u→cells[i]? = some a→bu (bj C G (gen+r) w) u a
 n:∀ g,gen≤g→σ.2 g=none→G.box g=none
 o:∀ g,gen≤g→∀ c,aY bx g≠some c
theorem iu.kS {I:Sg} {G:Gh} {tmps:Array Value} {w:World} (h:iu C n bx lv gen r I G tmps w) {f:List (Nat×A)} {bn:List (Nat×List A)} (J:∀ t a,look f t=some a→I.1 t=some a) (hb:∀ g c,aY bn g=some c→I.2 g=some c) :
 bg C n ⟨f,bn++bx,lv,gen+r⟩ G tmps w:=
 { h.s with frame:=fun t a M=>h.f t a (J t a M),box:=fun g c N=>(kr N).elim (fun h1=>(h.b g c (hb g c h1)).2) (h.s.box g c) }
theorem iu.gX {f:List (Nat×A)} {G:Gh} {tmps:Array Value} {w:World} (h:bg C n ⟨f,bx,lv,gen⟩ G tmps w):iu C n bx lv gen r (look f,fun _=>none) G tmps w:=by
 have h2:bg C n ⟨f,bx,lv,gen+r⟩ G tmps w:=bg.later (st:=⟨f,bx,lv,gen⟩) h (Nat.le_add_right _ _);refine⟨{ h2 with frame:=fun t a J=>by simp[look] at J },h2.frame,(fun g c I=>nomatch I),fun g M _=>?_,fun g M c I=>?_⟩;rotate_left
 ·obtain⟨b,_,_,h1,_⟩:=h.box g c I
  have:=(h.gbox g b h1).1;grind
 cases hb:G.box g with
 | none=>rfl
 | some b=>have:=(h.gbox g b hb).1;simp only at this;omega
theorem iu.step {M:Sg} {G:Gh} {tmps:Array Value} {w w':World} (h:iu C n bx lv gen r M G tmps w) (hb:Below w.heap.size w w') {dst:Option Nat} (hd:e7 n dst=true) {v:Value} {a:A} (O:bu (bj C G (gen+r) w') v a) :
 iu C n bx lv gen r (cg M.1 dst a,M.2) G (Act.put ⟨tmps,[]⟩ dst v).tmps w':=by
 obtain⟨hle,hs⟩:=h.s.gF hb
 have N:∀ g cells,M.2 g=some cells→gen≤g∧∃ b cs T,G.box g=some b∧w'.heap[b]? = some (.cells cs T (0,0))∧cs.size=cells.length ∧
  (∀ (i:Nat) (u:Value),cs[i]? = some u→u.oneCell'=true)∧∀ (i:Nat) (u:Value) (a:A),cs[i]? = some u→cells[i]? = some a→bu (bj C G (gen+r) w') u a:=by
  intro g cells U;obtain⟨h0,b,cs,T,h1,h2,h3,h4,h5⟩:=h.b g cells U;exact⟨h0,b,cs,T,h1,by rw[hb.block b (h.s.gbox g b h1).2.1];exact h2,h3,h4,fun i u a hu J=>(h5 i u a hu J).mono hle⟩
 cases dst with
 | none=>exact⟨hs,fun t a J=>let ⟨v,h1,h2⟩:=h.f t a J;⟨v,h1,h2.mono hle⟩,N,h.n,h.o⟩
 | some d=>
   refine⟨{ hs with size:=by have:=hs.size;simpa [Act.put] using this,frame:=fun t a J=>by simp[look] at J },fun t b I=>?_,N,h.n,h.o⟩;simp only[cg] at I;split at I
   ·rename_i e
    subst e;simp only[Option.some.injEq] at I;subst I;exact⟨v,by simp[Act.put,Array.getElem?_setIfInBounds,hs.size,cJ hd],O⟩
   ·rename_i e
    obtain⟨u,h1,h2⟩:=h.f t b I;exact⟨u,by simp only[Act.put];rw[Array.getElem?_setIfInBounds_ne (Ne.symm e)];exact h1,h2.mono hle⟩
theorem iu.rF {σ:Sg} {G:Gh} {tmps:Array Value} {w:World} (h:iu C n bx lv gen r σ G tmps w) {g:Nat} (hg:gen≤g) (a8:g < gen+r) (hn:σ.2 g=none) (cs:Array Value) (T:TypeId) (cells:List A) (b0:dD (bj C G (gen+r) w) cs cells)
 {d:Nat} (hd:d < n):∃ O,iu C n bx lv gen r (cg σ.1 (some d) (.ptr g 0),fP σ.2 (some (g,cells))) O (tmps.setIfInBounds d (.pointer (some ⟨w.heap.size,0,none⟩))) (w.alloc (.cells cs T)):=by
 obtain⟨hs,h1,b2⟩:=b0;have b3:=h.n g hg hn;have hb:Below w.heap.size w (w.alloc (.cells cs T)):=(Below.refl _ w).alloc (Nat.le_refl _) _;let O:Gh:=⟨fun I=>if I=g then some w.heap.size else G.box I,G.own⟩;have b4:w.heap.size < (w.alloc (.cells cs T)).heap.size:=by simp
 have a6:∀ {I b},G.box I=some b→O.box I=some b:=by intro I b J;simp only[O];rw[if_neg (by rintro rfl;rw[b3] at J;cases J)];exact J
 have hle:(bj C G (gen+r) w).le (bj C O (gen+r) (w.alloc (.cells cs T))):=by
  refine⟨fun b o u hu ai=>?_,fun b o u hu ho=>?_,fun I b J=>a6 J,fun _ _ _ h=>h,Nat.le_refl _,fun g b len cap sz U _ X=>hb.block b (by obtain⟨_,_,_,cur,T,h3,_⟩:=h.s.row g b len cap sz U X;exact(Array.getElem?_eq_some_iff.1 h3).1),fun I b bs _ X=>have hl:=h.s.Am X;⟨fun c hc=>hb.block c (hl.1 c hc),fun p hp=>hb.block p.1 (hl.2 p hp)⟩,.below hb⟩
  ·have ad:=dF hu
   refine⟨by show cellAt (w.alloc _) b o=_;rw[cw (hb.block b ad)];exact hu,fun hp=>ai ?_⟩;rcases hp with hp | ⟨I,hp⟩ | hp
   ·exact .inl hp
   ·simp only[O] at hp
    split at hp
    ·simp only[Option.some.injEq] at hp
     have:b < w.heap.size:=ad;omega
    ·exact .inr (.inl ⟨I,hp⟩)
   ·exact .inr (.inr hp)
  ·have ad:=dF hu
   exact⟨by show cellAt (w.alloc _) b o=_;rw[cw (hb.block b ad)];exact hu,ho⟩
 have a7:∀ I b len cap sz U,G.own I=some (.blk b len cap sz U)→b < w.heap.size:=fun I b len cap sz U X=>by obtain⟨_,_,_,cur,T',h4,_⟩:=h.s.row I b len cap sz U X;exact(Array.getElem?_eq_some_iff.1 h4).1
 refine⟨O,{ s:={ size:=(by have:=h.s.size;simpa using this),frame:=(fun t a ha=>by simp[look] at ha),xold:=h.s.xold,kold:=h.s.kold,lent:=(fun i b hb=>a6 (h.s.lent i b hb)),fr:=h.s.fr.below hb,live:=h.s.live,gown:=h.s.gown,box:=fun I c hc=>?_,gbox:=fun I b J=>?_,inj:=fun g1 g2 b aj a1=>?_,row:=fun I b len cap sz U X=>?_,mrow:=fun I b bs X=>?_,sub:=fun I b bs c lim X hm=>?_,gcell:=fun I b J=>(by simp only[O] at J;split at J <;> first | (simp only[Option.some.injEq] at J;subst J;exact⟨_,_,_,heap_alloc_new w _⟩) | exact lX (.below hb) (h.s.gcell I b J)) },f:=fun t a ha=>?_,b:=fun I c hc=>?_,n:=fun I b5 ai=>?_,o:=h.o }⟩
 ·obtain⟨b,cs',T',N,h2,h3,h4,h5⟩:=h.s.box I c hc
  exact⟨b,cs',T',a6 N,by rw[hb.block b (h.s.gbox I b N).2.1];exact h2,h3,h4,fun i u a hu ha=>(h5 i u a hu ha).mono hle⟩
 ·simp only[O] at J
  split at J
  ·rename_i e
   subst e;simp only[Option.some.injEq] at J;subst J;exact⟨a8,b4,.inl h.s.fr.size,fun o ho=>absurd (h.s.kold _ o ho) (by have:=h.s.fr.size;omega)⟩
  ·obtain⟨h6,h7,h8⟩:=h.s.gbox I b J
   exact⟨h6,by simp;omega,h8⟩
 ·simp only[O] at aj a1
  split at aj <;> split at a1;·simp_all
  ·simp only[Option.some.injEq] at aj;have:=(h.s.gbox g2 b a1).2.1;omega
  ·simp only[Option.some.injEq] at a1;have:=(h.s.gbox g1 b aj).2.1;omega
  ·exact h.s.inj g1 g2 b aj a1
 ·obtain⟨N,h2,h3,cur,T',h4,h5⟩:=h.s.row I b len cap sz U X
  refine⟨N,fun g2 M=>?_,h3,cur,T',by rw[hb.block b (a7 I b len cap sz U X)];exact h4,h5⟩;simp only[O] at M;split at M;·simp only[Option.some.injEq] at M;have:=a7 I b len cap sz U X;omega
  ·exact h2 g2 M
 ·obtain⟨N,h2,h3,me,clock,h4⟩:=h.s.mrow I b bs X
  have ad:=(Array.getElem?_eq_some_iff.1 h4).1;refine⟨N,fun g2 M=>?_,h3,me,clock,by rw[hb.block b ad];exact h4⟩;simp only[O] at M;split at M;·simp only[Option.some.injEq] at M;omega
  ·exact h2 g2 M
 ·obtain⟨N,h2,h3,h4,cur,T',h5,h6⟩:=h.s.sub I b bs c lim X hm
  have ad:=(Array.getElem?_eq_some_iff.1 h5).1;refine⟨N,fun g2 M=>?_,h3,h4,cur,T',by rw[hb.block c ad];exact h5,h6⟩;simp only[O] at M;split at M;·simp only[Option.some.injEq] at M;omega
  ·exact h2 g2 M
 ·simp only[cg] at ha
  split at ha
  ·rename_i e
   subst e;simp only[Option.some.injEq] at ha;subst ha;exact⟨_,by have:=h.s.size;simp[Array.getElem?_setIfInBounds,this,hd],.ptr _ g 0 w.heap.size (by simp[bj];omega) (by simp[bj,O]) rfl⟩
  ·rename_i e
   obtain⟨u,h6,h7⟩:=h.f t a ha;exact⟨u,by rw[Array.getElem?_setIfInBounds_ne (Ne.symm e)];exact h6,h7.mono hle⟩
 ·simp only[fP] at hc
  split at hc
  ·rename_i e
   subst e;simp only[Option.some.injEq] at hc;subst hc;exact⟨hg,w.heap.size,cs,T,by simp[O],heap_alloc_new w _,hs,h1,fun i u a hu ha=>(b2 i u a hu ha).mono hle⟩
  ·obtain⟨h0,b,cs',T',N,h2,h3,h4,h5⟩:=h.b I c hc
   exact⟨h0,b,cs',T',a6 N,by rw[hb.block b (h.s.gbox I b N).2.1];exact h2,h3,h4,fun i u a hu ha=>(h5 i u a hu ha).mono hle⟩
 ·simp only[fP] at ai
  split at ai;·cases ai
  ·rename_i e
   simp only[O];rw[if_neg e];exact h.n I b5 ai
theorem iu.store {σ:Sg} {G:Gh} {tmps:Array Value} {w:World} (h:iu C n bx lv gen r σ G tmps w) {g b:Nat} {cs cs':Array Value} {T:TypeId} {cells cells':List A} (hb:σ.2 g=some cells) (N:G.box g=some b) (hw:w.heap[b]? = some (.cells cs T (0,0)))
 (M:dD (bj C G (gen+r) w) cs' cells'):iu C n bx lv gen r (σ.1,fP σ.2 (some (g,cells'))) G tmps (w.setRow b cs'):=by
 have a6:=(h.b g cells hb).1;have a7:w.heap[b]?≠none:=by rw[hw];simp
 have hm:=(h.s.gbox g b N).2.2;have a8:Fr C (w.setRow b cs'):=⟨h.s.fr.os,h.s.fr.tape,h.s.fr.output,by rw[size_setRow];exact h.s.fr.size,fun I h1 h2=>by
  rw[setRow_other w b I cs' (fun e=>by subst e;exact hm.1.elim (fun hm=>by omega) h2)];exact h.s.fr.block I h1 h2,fun I o u hk hu=>by
  rw[cw (setRow_other w b I cs' (fun e=>by subst e;exact absurd (hm.2 o hk) (Nat.not_lt_zero _)))];exact h.s.fr.cells I o u hk hu,h.s.fr.ty.trans (.setRow w b cs')⟩
 have hle:(bj C G (gen+r) w).le (bj C G (gen+r) (w.setRow b cs')):=by
  refine k9 (st:=⟨[],bx,lv,gen+r⟩) h.s.fr a8 (fun I o u hu hn=>⟨?_,hn⟩) (fun _ _ h=>h) (fun _ _ _ h=>h) (Nat.le_refl _) (fun J I len cap sz ad _ M=>?_) (fun J I bs _ M=>⟨?_,fun p hp=>?_⟩) (.setRow w b cs')
  ·have:I≠b:=fun e=>hn (.inr (.inl ⟨g,by rw[e];exact N⟩))
   rw[cw (setRow_other w b I cs' this)];grind
  ·have:I≠b:=fun e=>(h.s.row J I len cap sz ad M).2.1 g (by rw[e];exact N)
   exact setRow_other w b I cs' this
  ·intro c U;subst U;exact setRow_other w b c cs' (fun e=>(h.s.mrow J c bs M).2.1 g (by rw[e];exact N))
  ·exact setRow_other w b p.1 cs' (fun e=>(h.s.sub J I bs p.1 p.2 M hp).2.1 g (by rw[e];exact N))
 refine { s:={ size:=h.s.size,frame:=fun t a X=>by simp[look] at X,inj:=h.s.inj,xold:=h.s.xold,kold:=h.s.kold,lent:=h.s.lent,fr:=a8,live:=h.s.live,gown:=h.s.gown,box:=fun J c U=>?_,gbox:=fun J I ai=>?_,row:=fun J I len cap sz ad ai=>?_,mrow:=fun J I bs M=>?_,sub:=fun J I bs c lim M hm=>?_,gcell:=fun J I a7=>lX (.setRow w b cs') (h.s.gcell J I a7) },f:=fun t a X=>let ⟨v,h1,h2⟩:=h.f t a X;⟨v,h1,h2.mono hle⟩,b:=fun J c U=>?_,n:=fun J b0 aj=>?_,o:=h.o }
 ·obtain⟨I,a1,T',h1,h2,h3,h4,h5⟩:=h.s.box J c U
  by_cases e:I=b
  ·subst e
   have e2:=h.s.inj J g I h1 N;subst e2;exact absurd U (h.o J a6 c)
  ·exact⟨I,a1,T',h1,by rw[setRow_other w b I cs' e];exact h2,h3,h4,fun i u a hu X=>(h5 i u a hu X).mono hle⟩
 ·obtain⟨h1,h2,h3⟩:=h.s.gbox J I ai
  simp_all
 ·obtain⟨h1,h2,h3,cur,T',h4,h5⟩:=h.s.row J I len cap sz ad ai
  have O:I≠b:=fun e=>h2 g (by rw[e];exact N);exact⟨h1,h2,h3,cur,T',by rw[setRow_other w b I cs' O];exact h4,h5⟩
 ·obtain⟨h1,h2,h3,me,clock,h4⟩:=h.s.mrow J I bs M
  have O:I≠b:=fun e=>h2 g (by rw[e];exact N);exact⟨h1,h2,h3,me,clock,by rw[setRow_other w b I cs' O];exact h4⟩
 ·obtain⟨h1,h2,h3,h4,cur,T',h5,h6⟩:=h.s.sub J I bs c lim M hm
  have O:c≠b:=fun e=>h2 g (by rw[e];exact N);exact⟨h1,h2,h3,h4,cur,T',by rw[setRow_other w b c cs' O];exact h5,h6⟩
 ·simp only[fP] at U
  split at U
  ·rename_i e
   subst e;simp only[Option.some.injEq] at U;subst U;exact⟨a6,b,cs',T,N,setRow_heap w b cs cs' T (0,0) hw,M.1,M.2.1,fun i u a hu X=>(M.2.2 i u a hu X).mono hle⟩
  ·rename_i e
   obtain⟨h0,I,a1,T',h1,h2,h3,h4,h5⟩:=h.b J c U;have O:I≠b:=fun e'=>e (h.s.inj J g b (e'▸h1) N);exact⟨h0,I,a1,T',h1,by rw[setRow_other w b I cs' O];exact h2,h3,h4,fun i u a hu X=>(h5 i u a hu X).mono hle⟩
 ·simp only[fP] at aj
  split at aj;·grind
  ·exact h.n J b0 aj
def YE (P:Program) (T:cn P) (C:Ctx) (n:Nat) (bx:List (Nat×List A)) (lv:List Nat) (gen r:Nat) (ops:Array Oper) (i:Nat) (o:Oper) (a:A) (u:Option (Nat×List A)) (I:Sg):Prop:=
 e7 n o.dst=true ∧
  ((kN o=false∧u=none∧YA P C n bx lv (gen+r) ops o a I.1) ∨
   (kN o=true∧o.guard=none∧I.2 (gen+dX ops.toList i)=none∧dX ops.toList i < r∧a=.ptr (gen+dX ops.toList i) 0∧∃ d cells,o.dst=some d∧u=some (gen+dX ops.toList i,cells) ∧
    ((∃ e M,o.op=.alloc e∧aY T.l e=some M∧cells=M.z.map fun v=>A.d (.v v)) ∨
     (∃ e x f y,o.op=.box e x∧(∀ t z,look f t=some z→I.1 t=some z∧t∈o.looksAt ops)∧av f x=some y∧cellsOf bx y=some cells))) ∨
   (Jm o=true∧o.guard=none∧o.dst=none∧a=.any∧∃ t J y k ok f z cells cs,o.op=.store t (.tmp J) y∧ops[k]? = some ok∧kN ok=true∧ok.dst=some J∧(∀ t z,look f t=some z→I.1 t=some z∧t∈o.looksAt ops) ∧
    I.1 J=some (.ptr (gen+dX ops.toList k) 0)∧av f y=some z∧cellsOf bx z=some cs∧ea T t=cs.length∧cs.length≠0∧cs.length≤cells.length∧I.2 (gen+dX ops.toList k)=some cells ∧
    u=some (gen+dX ops.toList k,setAt cells 0 cs)))
def rb (ops:Array Oper) (x y:Oper):Prop:=x.apart ops y=true∧∀ d,mX x=some d→mX y≠some d
theorem rh {I:Nat} {t:TypeId} {y:Operand} {o:Oper} (h:o.op=.store t (.tmp I) y):I∈o.looksAt ops:=by unfold Oper.looksAt;rw[h];exact List.mem_append.2 (.inl (by simp[Op.operands]))
section
variable {T}
theorem YE.name {i:Nat} {o:Oper} {a:A} {g:Nat} {c:List A} {J:Sg} (hi:ops[i]? = some o) (h:YE P T C n bx lv gen r ops i o a (some (g,c)) J) :
 ∃ k ok I,ops[k]? = some ok∧kN ok=true∧ok.dst=some I∧g=gen+dX ops.toList k∧((k=i)∨(mX o=some I∧I∈o.looksAt ops)):=by
 rcases h with ⟨_,⟨_,h,_⟩ | ⟨h1,_,_,_,_,d,cells,h2,h3,_⟩ | ⟨h1,_,_,_,t,I,y,k,ok,f,z,cells,cs,h2,h3,h4,h5,_,_,_,_,_,_,_,_,M⟩⟩;·grind
 ·grind
 ·grind[Option.some.injEq,Prod.mk.injEq,mX,rh]
theorem FK {k I:Nat} {o o':Oper} (U:ops[k]? = some o) (J:ops[I]? = some o') (X:kN o=true) (M:kN o'=true) (h:dX ops.toList k=dX ops.toList I):k=I:=by
 rcases Nat.lt_trichotomy k I with N | he | O
 ·have:=vS (l:=ops.toList) (by simpa using U) X N;omega
 ·grind
 ·have:=vS (l:=ops.toList) (by simpa using J) M O;omega
theorem sV {i j:Nat} {M N:Oper} {a b:A} {g O:Nat} {c c':List A} {σ U:Sg} (hi:ops[i]? = some M) (hj:ops[j]? = some N) (ai:i≠j) (X:rb ops M N) (h:YE P T C n bx lv gen r ops i M a (some (g,c)) σ)
 (h':YE P T C n bx lv gen r ops j N b (some (O,c')) U):g≠O:=by
 rintro rfl;obtain⟨k,ok,dx,h1,h2,h3,h4,h5⟩:=YE.name hi h;obtain⟨k',aj,a6,I,ad,J,a7,a8⟩:=YE.name hj h';have e:k=k':=FK h1 I h2 ad (by omega);subst e;rw[h1] at I;simp only[Option.some.injEq] at I;subst I;rw[h3] at J;simp only[Option.some.injEq] at J;subst J;obtain⟨ha,hs⟩:=X;obtain⟨a1,a2,a3⟩:=Oper.apart_spec ha;grind
theorem ga {I:et} {o:Oper} {dst:Option Nat} {x:A} (hd:∀ d,dst=some d→d∉o.looksAt ops) {t:Nat} (J:t∈o.looksAt ops):cg I dst x t=I t:=by
 cases dst with
 | none=>rfl
 | some e=>grind[cg]
theorem HR {i j:Nat} {J M:Oper} {a b:A} {u v:Option (Nat×List A)} {I O:Sg} (hi:ops[i]? = some J) (hj:ops[j]? = some M) (ad:i≠j) (U:rb ops J M) (h:YE P T C n bx lv gen r ops i J a u I) (ai:YE P T C n bx lv gen r ops j M b v O) :
 YE P T C n bx lv gen r ops i J a u (cg I.1 M.dst b,fP I.2 v):=by
 obtain⟨a1,a2,a3⟩:=Oper.apart_spec U.1;have X:∀ {g c},u=some (g,c)→fP I.2 v g=I.2 g:=by
  intro g c hu
  cases v with
  | none=>rfl
  | some x=>grind[sV,fP]
 obtain⟨h0,h | h | h⟩:=id h;·exact⟨h0,.inl ⟨h.1,h.2.1,(dV a3).2 h.2.2⟩⟩
 ·obtain⟨h1,h2,h3,h4,h5,d,cells,h6,h7,h8⟩:=h
  refine⟨h0,.inr (.inl ⟨h1,h2,(X h7).trans h3,h4,h5,d,cells,h6,h7,h8.imp id ?_⟩)⟩;grind[ga]
 ·obtain⟨h1,h2,h3,h4,t,dx,y,k,ok,f,z,cells,cs,g1,g2,g3,g4,g5,g6,g7,g8,g9,g10,g11,g12,g13⟩:=h
  exact⟨h0,.inr (.inr ⟨h1,h2,h3,h4,t,dx,y,k,ok,f,z,cells,cs,g1,g2,g3,g4,fun t z N=>⟨(ga a3 (g5 t z N).2).trans (g5 t z N).1,(g5 t z N).2⟩,
   (ga a3 (rh g1)).trans g6,g7,g8,g9,g10,g11,(X g13).trans g12,g13⟩)⟩
theorem HK {i j:Nat} {J M:Oper} {a b:A} {u v:Option (Nat×List A)} {I U:Sg} (hi:ops[i]? = some J) (hj:ops[j]? = some M) (ad:i≠j) (X:rb ops J M) (ai:YE P T C n bx lv gen r ops i J a u U)
 (h:YE P T C n bx lv gen r ops j M b v (cg I.1 J.dst a,fP I.2 u)):YE P T C n bx lv gen r ops j M b v I:=by
 obtain⟨N,a2,a3⟩:=Oper.apart_spec X.1;have hv:∀ {g c},v=some (g,c)→fP I.2 u g=I.2 g:=by
  intro g c hu
  cases u with
  | none=>rfl
  | some x=>grind[sV,fP]
 obtain⟨h0,h | h | h⟩:=id h;·exact⟨h0,.inl ⟨h.1,h.2.1,(dV N).1 h.2.2⟩⟩
 ·obtain⟨h1,h2,h3,h4,h5,d,cells,h6,h7,h8⟩:=h
  refine⟨h0,.inr (.inl ⟨h1,h2,(hv h7).symm.trans h3,h4,h5,d,cells,h6,h7,h8.imp id ?_⟩)⟩;grind[ga]
 ·obtain⟨h1,h2,h3,h4,t,dx,y,k,ok,f,z,cells,cs,g1,g2,g3,g4,g5,g6,g7,g8,g9,g10,g11,g12,g13⟩:=h
  exact⟨h0,.inr (.inr ⟨h1,h2,h3,h4,t,dx,y,k,ok,f,z,cells,cs,g1,g2,g3,g4,fun t z O=>⟨(ga N (g5 t z O).2).symm.trans (g5 t z O).1,(g5 t z O).2⟩,
   (ga N (rh g1)).symm.trans g6,g7,g8,g9,g10,g11,(hv g13).symm.trans g12,g13⟩)⟩
theorem Da {β:Bt} {u v:Option (Nat×List A)} (h:∀ g c I J,u=some (g,c)→v=some (I,J)→g≠I):fP (fP β u) v=fP (fP β v) u:=by
 cases u with
 | none=>rfl
 | some x=>
   cases v with
   | none=>rfl
   | some y=>grind[fP]
end
def qE (P:Program) (T:cn P) (C:Ctx) (n:Nat) (bx:List (Nat×List A)) (lv:List Nat) (gen r:Nat) (ops:Array Oper) (i:Nat) (K:Sg→Prop) (I:Sg):Prop:=
 match ops[i]? with
 | none=>K I
 | some o=>∃ a u,YE P T C n bx lv gen r ops i o a u I∧K (cg I.1 o.dst a,fP I.2 u)
theorem FY {i:Nat} {I:Sg} {K J:Sg→Prop} (h:∀ I,K I→J I) (M:qE P T C n bx lv gen r ops i K I):qE P T C n bx lv gen r ops i J I:=by grind[qE]
theorem Hz {i j:Nat} {I N:Oper} {a:A} {u:Option (Nat×List A)} (hi:ops[i]? = some I) (hj:ops[j]? = some N) (U:i≠j) (O:rb ops I N) {K:Sg→Prop} {M:Sg} (X:YE P T C n bx lv gen r ops i I a u M)
 (h:qE P T C n bx lv gen r ops j K (cg M.1 I.dst a,fP M.2 u)):qE P T C n bx lv gen r ops j (fun J=>YE P T C n bx lv gen r ops i I a u J∧K (cg J.1 I.dst a,fP J.2 u)) M:=by
 obtain⟨a1,a2,a3⟩:=Oper.apart_spec O.1;unfold qE at *;simp only[hj] at h ⊢;grind[HK,HR,km,fP,Da,sV]
def Split (m:Nat) (ops:Array Oper) (listed:Array Bool):Prop:=listed.size=ops.size∧(∀ j,j < m→listed.getD j false=true)∧∀ j,m≤j→j < ops.size→listed.getD j true=false
def Cq (P:Program) (T:cn P) (C:Ctx) (n:Nat) (bx:List (Nat×List A)) (lv:List Nat) (gen r m:Nat) (md:Region.Mode) (ops:Array Oper) (Q:Sg→Prop):Nat→Array Bool→Sg→Prop
 | 0,listed,I=>Split m ops listed∧Q I
 | fuel+1,listed,I=>Region.ready md ops listed≠[]∧∀ i∈Region.ready md ops listed,qE P T C n bx lv gen r ops i (Cq P T C n bx lv gen r m md ops Q fuel (listed.setIfInBounds i true)) I
def cK (md:Region.Mode) (ops:Array Oper) (j i:Nat):Bool:=
 match ops[j]? with
 | some o=>o.after.toList.any fun e=>Nat.beq e.on i && Region.binds md e
 | none=>false
theorem mM {j i:Nat} {I:Oper} (hj:ops[j]? = some I) (h:cK md ops j i=true):∃ e∈I.after,Region.binds md e=true∧e.on=i:=by unfold cK at h;rw[hj] at h;obtain⟨e,he,hb⟩:=List.any_eq_true.1 h;simp only[Bool.and_eq_true] at hb;grind[Nat.eq_of_beq_eq_true]
theorem kZ {listed:Array Bool} {i:Nat} (h:listed.getD i true=false):listed.getD i false=false:=by grind
def uL (md:Region.Mode) (ops:Array Oper) (m:Nat):Bool:=(List.range ops.size).all fun j=>decide (j < m) || (List.range j).all fun i=>cK md ops j i
def BD:List Nat→Bool
 | []=>true
 | a::r=>!(r.any (Nat.beq a)) && BD r
def ka (l:List Oper):Bool:=BD (l.filterMap mX)
theorem waits {j:Nat} (h:uL md ops m=true) (hm:m≤j) {i:Nat} (I:i < j) {listed:Array Bool} (hj:j∈Region.ready md ops listed):listed.getD i false=true:=by obtain⟨_,O,J,N⟩:=mem_ready.1 hj;have M:j < ops.size:=(Array.getElem?_eq_some_iff.1 J).1;have h1:=List.all_eq_true.1 h j (by simpa using M);simp only[Bool.or_eq_true,decide_eq_true_eq] at h1;have h2:=List.all_eq_true.1 (h1.resolve_left (by omega)) i (by simpa using I);grind[mM]
theorem zX:∀ {l:List Oper} (_:ka l=true) {i j:Nat} {J I:Oper} (_:l[i]? = some J) (_:l[j]? = some I) (_:i < j) {d:Nat} (_:mX J=some d),mX I≠some d
 | [],_,i,j,J,I,h,_,_,_,_=>by simp at h
 | z::l,h,0,j+1,J,I,hi,hj,_,d,hd=>by simp at hi;subst hi;intro he;simp only[ka,List.filterMap_cons,hd,BD,Bool.and_eq_true,Bool.not_eq_true'] at h;have h1:(l.filterMap mX).any (Nat.beq d)=true:=List.any_eq_true.2 ⟨d,List.mem_filterMap.2 ⟨I,List.mem_of_getElem? (by simpa using hj),he⟩,Nat.beq_refl d⟩;grind
 | z::l,h,i+1,j+1,J,I,hi,hj,hij,d,hd=>by
   refine zX (l:=l) ?_ (i:=i) (j:=j) (by simpa using hi) (by simpa using hj) (by omega) hd;simp only[ka,List.filterMap_cons] at h ⊢
   cases M:mX z with
   | none=>simpa only[M] using h
   | some e=>simp only[M,BD,Bool.and_eq_true] at h;grind
 | z::l,_,i,0,J,I,_,_,hij,_,_=>by omega
theorem EP {l:List Oper} (h:ka l=true) {i j:Nat} {I J:Oper} (hi:l[i]? = some I) (hj:l[j]? = some J) (M:i≠j) (d:Nat) (hd:mX I=some d):mX J≠some d:=by grind[Nat.lt_or_ge,zX]
theorem CR {Q:Sg→Prop} {i:Nat} {M:Oper} {a:A} {u:Option (Nat×List A)} (hone:ka (ops.toList.take m)=true) (hw:uL md ops m=true) (b0:i < m) (hi:ops[i]? = some M) :
 ∀ (fuel:Nat) (listed:Array Bool) (I:Sg),
   (∀ j N,ops[j]? = some N→j≠i→listed.getD j true=false→(∀ e∈N.after,Region.binds md e=true→e.on≠i)→M.apart ops N=true) →
   i∈Region.ready md ops listed→YE P T C n bx lv gen r ops i M a u I →
   Cq P T C n bx lv gen r m md ops Q fuel (listed.setIfInBounds i true) (cg I.1 M.dst a,fP I.2 u)→Cq P T C n bx lv gen r m md ops Q (fuel+1) listed I:=by
 have take:∀ {K:Sg→Prop} {I:Sg},YE P T C n bx lv gen r ops i M a u I→K (cg I.1 M.dst a,fP I.2 u)→qE P T C n bx lv gen r ops i K I:=by intro K I U hk;unfold qE;simp only[hi];exact⟨a,u,U,hk⟩
 have X:∀ {listed:Array Bool},i∈Region.ready md ops listed→listed.getD i false=false:=by intro listed J;exact kZ (mem_ready.1 J).1
 intro fuel
 induction fuel with
 | zero=>
   intro listed I _ J U H;refine⟨fun h=>(by rw[h] at J;cases J),fun j hj=>?_⟩;by_cases hji:j=i;·subst hji;exact take U H
   ·exfalso
    obtain⟨⟨_,h1,h2⟩,_⟩:=H;have b2:=(mem_ready.1 hj).1;by_cases ad:j < m
    ·have:=h1 j ad
     rw[getD_set_ne false (Ne.symm hji)] at this;rw[kZ b2] at this;cases this
    ·have:=waits hw (by omega) (show i < j by omega) hj
     rw[X J] at this;cases this
 | succ fuel ih=>
   intro listed I O J U H;refine⟨fun h=>(by rw[h] at J;cases J),fun j hj=>?_⟩;by_cases hji:j=i;·subst hji;exact take U H
   ·have h1:=H.2 j (ready_mono hj hji)
    obtain⟨ai,N,aj,a7⟩:=mem_ready.1 hj;have a8:∀ e∈N.after,Region.binds md e=true→e.on≠i:=fun e he hb heq=>by have h1:=a7 e he hb;rw[heq,X J] at h1;cases h1
    have ad:j < m:=by
     rcases Nat.lt_or_ge j m with h | h
     ·exact h
     ·have:=waits hw h (show i < j by omega) hj
      rw[X J] at this;cases this
    have b3:rb ops M N:=by
     refine⟨O j N aj hji ai a8,EP (i:=i) (j:=j) hone ?_ ?_ (Ne.symm hji)⟩;·rw[List.getElem?_take,if_pos b0];simpa using hi
     ·rw[List.getElem?_take,if_pos ad];simpa using aj
    have h2:=Hz T hi aj (Ne.symm hji) b3 U h1
    have a1:∀ k ok,ops[k]? = some ok→k≠i→(listed.setIfInBounds j true).getD k true=false →
     (∀ e∈ok.after,Region.binds md e=true→e.on≠i)→M.apart ops ok=true:=fun k ok hk b4 a6 b5=>by
     refine O k ok hk b4 ?_ b5;by_cases hjk:j=k;·subst hjk;exact ai
     ·rw[getD_set_ne true hjk] at a6;exact a6
    refine FY T (fun b6 h3=>ih (listed.setIfInBounds j true) b6 a1 (ready_mono J (Ne.symm hji)) h3.1 ?_) h2;rw[Array.setIfInBounds_comm _ _ hji];exact h3.2
def GX (P:Program) (T:cn P) (C:Ctx) (n:Nat) (bx:List (Nat×List A)) (lv:List Nat) (gen r:Nat) (ops:Array Oper) (Q:Sg→Prop):List Oper→Nat→Sg→Prop
 | [],_,σ=>Q σ
 | o::rest,i,σ=>∃ a u,YE P T C n bx lv gen r ops i o a u σ∧GX P T C n bx lv gen r ops Q rest (i+1) (cg σ.1 o.dst a,fP σ.2 u)
def pk (md:Region.Mode) (ops:Array Oper):Nat→Nat→Array Bool→Bool
 | 0,_,_=>true
 | t+1,k,listed=>(Region.ready md ops listed).contains k && Region.free md ops listed k && pk md ops t (k+1) (listed.setIfInBounds k true)
theorem Ai {Q:Sg→Prop} (hone:ka (ops.toList.take m)=true) (hw:uL md ops m=true):∀ (l:List Oper) (k:Nat) (listed:Array Bool) (I:Sg),k+l.length=m→(∀ j,j < l.length→l[j]? = ops[k+j]?) →
 listed.size=ops.size→(∀ j,j < k→listed.getD j false=true)→(∀ j,k≤j→j < ops.size→listed.getD j true=false) →
 pk md ops l.length k listed=true→GX P T C n bx lv gen r ops Q l k I→Cq P T C n bx lv gen r m md ops Q l.length listed I
 | [],k,listed,I,hk,_,hs,h1,h2,_,h=>⟨⟨hs,fun j hj=>h1 j (by simp at hk;omega),fun j hj J=>h2 j (by simp at hk;omega) J⟩,h⟩
 | o::l,k,listed,I,hk,hl,hs,h1,h2,hB,h=>by
   have h0:ops[k]? = some o:=by simpa using (hl 0 (by simp)).symm
   have ad:k < ops.size:=(Array.getElem?_eq_some_iff.1 h0).1;simp only[List.length_cons,pk,Bool.and_eq_true] at hB;obtain⟨⟨U,X⟩,M⟩:=hB;obtain⟨a,u,hy,hK⟩:=h;have N:k < m:=by simp at hk;omega
   refine CR T hone hw N h0 l.length listed I (Region.free_spec h0 X) (by simpa using U) hy
    (Ai hone hw l (k+1) _ _ (by simp at hk;omega) (fun j hj=>by have:=hl (j+1) (by simpa using hj);simpa [Nat.add_assoc,Nat.add_comm 1 j] using this) (by simpa using hs) (fun j hj=>?_) (fun j hj J=>?_) M hK)
   ·rcases Nat.lt_succ_iff_lt_or_eq.1 hj with O | rfl
    ·exact getD_set_true (h1 j O)
    ·simp_all
   ·rw[getD_set_ne true (by omega)]
    grind
theorem AN {i:Nat} {σ:Sg} {K:Sg→Prop} {K':Act→World→Prop} {Q':Exit→Act→World→Prop} {G:Gh} {tmps:Array Value} {w:World} (hs:iu C n bx lv gen r σ G tmps w)
 (h:∀ σ G tmps w,iu C n bx lv gen r σ G tmps w→K σ→K' ⟨tmps,C.ds⟩ w) (hh:qE P T C n bx lv gen r ops i K σ):wpOp P ops Q' i K' ⟨tmps,C.ds⟩ w:=by
 unfold qE at hh;unfold wpOp;split;·rename_i ho;simp only[ho] at hh;exact h _ _ _ _ hs hh
 ·rename_i o ho
  simp only[ho] at hh;obtain⟨a,u,⟨hd,J⟩,X⟩:=hh;have M:eu C n bx lv (gen+r) σ.1 G tmps w:=⟨hs.s,hs.f⟩;rcases J with ⟨_,rfl,_,J⟩ | ⟨_,a6,ad,hr,rfl,d,cells,I,rfl,J⟩ | ⟨_,a6,I,rfl,t,dx,y,k,ok,f,z,cells,cs,O,hok,df,di,hf,N,a7,ch,ai,hz,hle,aj,rfl⟩
  ·rcases J with ⟨hw,f,hf,hp⟩ | ⟨hw,rfl⟩
   ·rw[gr M hw]
    simp only[if_true];refine .inl ?_;have hg:dR P o ⟨tmps,[]⟩ w fun v w'=>Below w.heap.size w w'∧bu (bj C G (gen+r) w') v a:=hp G tmps w (M.kS fun t x N=>(hf t x N).1);refine hg.ds.wp fun v w' ⟨hb,hr⟩=>?_;rw[Act.gP];exact h _ _ _ _ (hs.step hb hd hr) X
   ·rw[gr M hw]
    simp only[Bool.false_eq_true,if_false];rw[Act.gP];exact h _ _ _ _ (hs.step (Below.refl _ _) hd (.tup #[] [] rfl (by simp))) X
  ·have a8:Region.wanted o (yielded ops tmps)=true:=by simp[Region.wanted,a6]
   rw[a8];simp only[if_true];refine .inl ?_;rw[I] at X;have b5:d < n:=cJ hd d I;rcases J with ⟨e,dt,O,he,rfl⟩ | ⟨e,x,f,y,O,hf,a7,hc⟩
   ·obtain⟨i',zz,hi,_,_,cj,b2,dj,cl,_⟩:=T.info he
    have b3:∀ (i:Nat) (u:Value),zz.cells[i]? = some u→dd u=true:=fun i u hu=>by
     have:u∈dt.z:=by rw[←b2,List.mem_iff_getElem?];exact⟨i,by simpa using hu⟩
     exact List.all_eq_true.1 cl u this
    obtain⟨G',U⟩:=hs.rF (Nat.le_add_right _ _) (by omega) ad zz.cells e (dt.z.map fun v=>.d (.v v)) ⟨by rw[List.length_map,←b2];simp,fun i u hu=>my (b3 i u hu),fun i u a hu ha=>by
     simp only[List.getElem?_map,Option.map_eq_some_iff] at ha;obtain⟨y,J,rfl⟩:=ha;rw[←b2] at J;have:y=u:=by simp at J;rw[hu] at J;exact(Option.some.inj J).symm
     subst this;exact .d (.v _ (b3 i y hu))⟩ b5
    refine(cL (v:=.pointer (some ⟨w.heap.size,0,none⟩)) (w':=w.alloc (.cells zz.cells e)) (R:=fun v w'=>v=.pointer (some ⟨w.heap.size,0,none⟩)∧w'=w.alloc (.cells zz.cells e)) ?_ ⟨rfl,rfl⟩:dR P o ⟨tmps,[]⟩ w _).ds.wp ?_
    ·unfold execOp
     rw[O];show Sem.run P _ w=_;simp only[Instr.alloc,zeroValue,typeInfo,hi,cj,newVar,newRow,Sem.run_bind,run_program,run_newObj,Result.andThen_ok,Sem.run_pure];rfl
    ·rintro v w' ⟨rfl,rfl⟩
     rw[I];exact h _ G' _ _ U X
   ·have cq:=jR (M.kS fun t x N=>(hf t x N).1) hc (bg.av (M.kS fun t x N=>(hf t x N).1) a7)
    obtain⟨G',U⟩:=hs.rF (Nat.le_add_right _ _) (by omega) ad (Act.eval ⟨tmps,[]⟩ x).cells e cells cq b5;refine(cL (v:=.pointer (some ⟨w.heap.size,0,none⟩)) (w':=w.alloc (.cells (Act.eval ⟨tmps,[]⟩ x).cells e)) (R:=fun v w'=>v=.pointer (some ⟨w.heap.size,0,none⟩)∧w'=w.alloc (.cells (Act.eval ⟨tmps,[]⟩ x).cells e)) ?_ ⟨rfl,rfl⟩:dR P o ⟨tmps,[]⟩ w _).ds.wp ?_
    ·unfold execOp
     rw[O];show Sem.run P _ w=_;simp only[Instr.box,newVar,newRow,Sem.run_bind,run_newObj,Result.andThen_ok,Sem.run_pure];rfl
    ·rintro v w' ⟨rfl,rfl⟩
     rw[I];exact h _ G' _ _ U X
  ·have a8:Region.wanted o (yielded ops tmps)=true:=by simp[Region.wanted,a6]
   rw[a8];simp only[if_true];refine .inl ?_;rw[I] at X;obtain⟨_,b,cur,T',h1,h2,h3,h4,h5⟩:=hs.b _ cells aj;obtain⟨v,cx,cy⟩:=hs.f dx _ N;have hv:Act.eval ⟨tmps,[]⟩ (.tmp dx)=.pointer (some ⟨b,0,none⟩):=by
    have e:Act.eval ⟨tmps,[]⟩ (.tmp dx)=v:=by simp[Act.eval,cx]
    rw[e]
    cases cy with
    | ptr _ _ _ b0 _ c1 c6=>exact mH c1 c6 b h1
   have hG:=M.kS (f:=f) fun t x N=>(hf t x N).1;have a1:=jR hG ch (bg.av hG a7);have b6:=run_storeCells_at P b 0 T' (Act.eval ⟨tmps,[]⟩ y).cells.toList 0 cur w h2 (by have:=a1.1;simp at this ⊢;omega) (fun v hv=>by obtain⟨i,hi⟩:=List.mem_iff_getElem?.1 hv;exact a1.2.1 i v (by simpa using hi));obtain⟨dt,b4,c7⟩:∃ d,aY T.l t=some d∧d.n=cs.length:=by
    unfold ea at ai;split at ai;·rename_i d b4;exact⟨d,b4,ai⟩
    ·exact absurd ai.symm hz
   have U:=hs.store aj h1 h2 (ay (off:=0) ⟨h3,h4,h5⟩ a1 (by omega));refine(iE (R:=fun v w'=>v=undef∧w'=w.setRow b (cur.toList.take 0++(Act.eval ⟨tmps,[]⟩ y).cells.toList++cur.toList.drop (0+(Act.eval ⟨tmps,[]⟩ y).cells.toList.length)).toArray) ?_ ⟨rfl,rfl⟩:dR P o ⟨tmps,[]⟩ w _).ds.wp ?_
   ·unfold execOp
    rw[O];show Sem.run P _ w=_;simp only[hv,Instr.storeAt,Instr.sureAddr,storeVar,Sem.run_bind,Sem.run_pure,Result.andThen_ok,T.sizeOf b4];rw[if_neg (by rw[c7];simp;exact a1.1)];simp only[Nat.add_zero] at b6;simp only[b6,Result.andThen_ok]
   ·rintro v w' ⟨rfl,rfl⟩
    rw[I];exact h _ G _ _ U X
theorem ug {Q:Sg→Prop} {Q':Exit→Act→World→Prop} {t:Nat} (J:∀ listed I G tmps w,iu C n bx lv gen r I G tmps w→Split m ops listed→Q I→wpAny P md ops Q' t listed ⟨tmps,C.ds⟩ w) :
 ∀ (fuel:Nat) (listed:Array Bool) (I:Sg) (G:Gh) (tmps:Array Value) (w:World),iu C n bx lv gen r I G tmps w→Cq P T C n bx lv gen r m md ops Q fuel listed I→wpAny P md ops Q' (fuel+t) listed ⟨tmps,C.ds⟩ w
 | 0,_,_,_,_,_,hs,h=>by rw[Nat.zero_add];exact J _ _ _ _ _ hs h.1 h.2
 | fuel+1,_,_,_,_,_,hs,h=>by rw[Nat.add_right_comm];exact⟨fun h0=>absurd h0 h.1,fun i hi=>AN T hs (fun I G tmps w M=>ug J fuel _ I G tmps w M) (h.2 i hi)⟩
theorem tx {Q':Exit→Act→World→Prop} (hw:uL md ops m=true) (J:∀ k,m≤k→∀ o,ops[k]? = some o→∀ e∈o.after,Region.binds md e=true→e.on < k) :
 ∀ (l:List Oper) (k:Nat) (listed:Array Bool) (act:Act) (w:World),m≤k→k+l.length=ops.size→(∀ j,l[j]? = ops[k+j]?)→listed.size=ops.size→(∀ j,j < k→listed.getD j false=true)→(∀ j,k≤j→j < ops.size→listed.getD j true=false) →
   eX P ops Q' l act w→wpAny P md ops Q' l.length listed act w
 | [],k,listed,act,w,hm,hk,_,hs,h1,h2,h=>by refine⟨?_,h⟩;refine List.eq_nil_iff_forall_not_mem.2 fun j hj=>?_;obtain⟨h3,oj,ai,_⟩:=mem_ready.1 hj;grind
 | o::l,k,listed,act,w,hm,hk,hl,hs,h1,h2,h=>by
   have h0:ops[k]? = some o:=by simpa using (hl 0).symm
   have M:k < ops.size:=(Array.getElem?_eq_some_iff.1 h0).1;have I:k∈Region.ready md ops listed:=mem_ready.2 ⟨h2 k (Nat.le_refl _) M,o,h0,fun e he hb=>h1 _ (J k hm o h0 e he hb)⟩;refine⟨fun hn=>(by rw[hn] at I;cases I),fun i hi=>?_⟩;have O:i=k:=by
    obtain⟨h3,oi,aj,_⟩:=mem_ready.1 hi;rcases Nat.lt_trichotomy i k with N | he | U
    ·grind
    ·grind
    ·have:=waits hw (by omega) U hi
     grind
   subst O
   have ih:=fun act w=>tx (Q':=Q') hw J l (i+1) (listed.setIfInBounds i true) act w (by omega) (by simp at hk;omega) (fun j=>by have:=hl (j+1);simpa [Nat.add_assoc,Nat.add_comm 1 j] using this) (by simpa using hs)
    (fun j hj=>by
     rcases Nat.lt_succ_iff_lt_or_eq.1 hj with N | rfl
     ·exact getD_set_true (h1 j N)
     ·simp[hs,M]) (fun j hj X=>by rw[getD_set_ne true (by omega)];exact h2 j (by omega) X)
   simp only[eX] at h;unfold wpOp;simp only[h0];split
   ·rename_i ad
    rw[if_pos ad] at h;exact .inl (Oper.wp_mono ih h)
   ·grind
def Bi (md:Region.Mode) (ops:Array Oper) (m:Nat):Bool:=(List.range ops.size).all fun k=>decide (k < m) || match ops[k]? with | some o=>o.after.toList.all fun e=>!Region.binds md e || decide (e.on < k) | none=>true
theorem ml (h:Bi md ops m=true):∀ k,m≤k→∀ o,ops[k]? = some o→∀ e∈o.after,Region.binds md e=true→e.on < k:=by intro k hm o J e he hb;have I:=(Array.getElem?_eq_some_iff.1 J).1;have h1:=List.all_eq_true.1 h k (by simpa using I);grind
def CE (P:Program) (T:cn P) (C:Ctx) (n:Nat) (bx:List (Nat×List A)) (lv:List Nat) (gen r:Nat) (ops:Array Oper) (Q:St→Prop) (l:List Oper) (i:Nat) (f:List (Nat×A)) (bn:List (Nat×List A)):Prop:=
 GX P T C n bx lv gen r ops (fun J=>∃ f' I,(∀ t,look f' t=J.1 t)∧(∀ g,aY I g=J.2 g)∧Q ⟨f',I++bx,lv,gen+r⟩) l i (look f,aY bn)
def vY (m r:Nat) (ops:Array Oper):Bool:=
 Nat.ble m ops.size && ka (ops.toList.take m) && uL .any ops m && Bi .any ops m && pk .any ops m 0 (Array.replicate ops.size false) && Nat.beq (dX ops.toList m) r
theorem W.rG {id:Nat} {l l1 l2:List Oper} {f:List (Nat×A)} {Q:Exit→St→Prop} (m r:Nat) (hB:vY m r l.toArray=true) (h1:l.take m=l1) (h2:l.drop m=l2)
 (h:CE P T C n bx lv gen r l.toArray (WO P C n l.toArray Q l2) l1 0 f []):W P C n (.region id l.toArray true) Q ⟨f,bx,lv,gen⟩:=by
 subst h1;subst h2;intro tmps w ⟨G,hs⟩;simp only[vY,Bool.and_eq_true] at hB;obtain⟨⟨⟨⟨⟨hm,hone⟩,hw⟩,N⟩,I⟩,hr⟩:=hB;have hm:m≤l.length:=by simpa using Nat.le_of_ble_eq_true hm
 have hb:Below w.heap.size w { w with drawn:=w.drawn+1 }:=(Below.refl _ w).drew;have X:iu C n bx lv gen r (look f,fun _=>none) G tmps { w with drawn:=w.drawn+1 }:=iu.gX (hs.gF hb).2;have hlen:(l.take m).length=m:=by simp;omega
 refine wp_region_any T.mixed ?_;have O:l.toArray.size=(l.take m).length+(l.drop m).length:=by simp;omega
 rw[O];refine ug T (m:=m) (Q:=fun U=>∃ f' J,(∀ t,look f' t=U.1 t)∧(∀ g,aY J g=U.2 g)∧WO P C n l.toArray Q (l.drop m) ⟨f',J++bx,lv,gen+r⟩) (fun listed U G tmps w hs M ⟨f',J,e1,e2,hq⟩=>?_) _ _ _ G _ _ X ?_
 ·refine tx hw (ml N) (l.drop m) m listed ⟨tmps,C.ds⟩ w (Nat.le_refl _) (by simp;omega) (fun j=>by simp[List.getElem?_drop]) M.1 M.2.1 M.2.2 ?_
  exact hq tmps w ⟨G,hs.kS (fun t a ha=>by rw[←e1];exact ha) (fun g c hc=>by rw[←e2];exact hc)⟩
 ·refine Ai T hone hw (l.take m) 0 _ _ (by rw[hlen];omega) (fun j hj=>?_) (by simp;omega) (fun j hj=>by omega) (fun j _ hj=>?_) (by rw[hlen];rw[O,hlen] at I;exact I) h
  ·grind
  ·simp_all
variable {T}
variable {op:Op} {ty:TypeId} {pos:String} {af:Array Edge} {a:A} {d i:Nat} {rest:List Oper} {f:List (Nat×A)} {bn:List (Nat×List A)} {Q:St→Prop}
theorem aD (h:Q ⟨f,bn++bx,lv,gen+r⟩):CE P T C n bx lv gen r ops Q [] i f bn:=⟨f,bn,fun _=>rfl,fun _=>rfl,h⟩
theorem gD (I:kN ⟨some d,op,ty,pos,af,none⟩=false) (hp:Pu P C n ⟨cO f (slotsOf op),bx,lv,gen+r⟩ ⟨some d,op,ty,pos,af,none⟩ a) (hd:Nat.blt d n=true) (h:CE P T C n bx lv gen r ops Q rest (i+1) ((d,a)::f) bn) :
 CE P T C n bx lv gen r ops Q (⟨some d,op,ty,pos,af,none⟩::rest) i f bn:=by
 unfold CE at *;rw[ew] at h;refine⟨a,none,⟨hd,.inl ⟨I,rfl,hd,.inl ⟨rfl,_,fun t x J=>?_,hp⟩⟩⟩,h⟩;obtain⟨h1,h2⟩:=eF J;exact⟨h1,List.mem_append.2 (.inl h2)⟩
theorem wI {g:Nat} {c:List A}:aY ((g,c)::bn)=fP (aY bn) (some (g,c)):=by funext t;grind[cM,fP]
theorem rA {e:TypeId} {I:cI} {l:List A} (c:Nat) (J:Nat.beq (dX ops.toList i) c=true) (N:Nat.blt c r=true) (M:aY bn (gen+c)=none) (he:aY T.l e=some I) (hl:(I.z.map fun v=>A.d (.v v))=l) (hd:Nat.blt d n=true)
 (h:CE P T C n bx lv gen r ops Q rest (i+1) ((d,.ptr (gen+c) 0)::f) ((gen+c,l)::bn)):CE P T C n bx lv gen r ops Q (⟨some d,.alloc e,ty,pos,af,none⟩::rest) i f bn:=by
 unfold CE at *;rw[ew,wI] at h;have J:=Nat.eq_of_beq_eq_true J;subst J;subst hl;exact⟨_,_,⟨hd,.inr (.inl ⟨rfl,rfl,M,Nat.le_of_ble_eq_true N,rfl,d,_,rfl,rfl,.inl ⟨e,I,rfl,he,rfl⟩⟩)⟩,h⟩
theorem zI {t:TypeId} {y:Operand} {I:Nat} {ok:Oper} {z:A} {cells cs cells':List A} (k c:Nat) (hx:look f I=some (.ptr (gen+c) 0)) (hk:ops[k]? = some ok) (M:kN ok=true) (N:ok.dst=some I) (J:Nat.beq (dX ops.toList k) c=true)
 (hb:aY bn (gen+c)=some cells) (O:av (cO f (slotsOf (.store t (.tmp I) y))) y=some z) (hc:cellsOf bx z=some cs) (U:ea T t=cs.length) (X:Nat.blt 0 cs.length=true) (hle:Nat.ble cs.length cells.length=true) (hs:setAt cells 0 cs=cells')
 (h:CE P T C n bx lv gen r ops Q rest (i+1) f ((gen+c,cells')::bn)):CE P T C n bx lv gen r ops Q (⟨none,.store t (.tmp I) y,ty,pos,af,none⟩::rest) i f bn:=by
 unfold CE at *;rw[wI] at h;have J:=Nat.eq_of_beq_eq_true J;subst hs;subst J;have X:=Nat.le_of_ble_eq_true X;refine⟨.any,_,⟨rfl,.inr (.inr ⟨rfl,rfl,rfl,rfl,t,I,y,k,ok,_,z,cells,cs,rfl,hk,M,N,fun t' z' ad=>?_,hx,O,hc,U,by omega,Nat.le_of_ble_eq_true hle,hb,rfl⟩)⟩,h⟩;obtain⟨h1,h2⟩:=eF ad;exact⟨h1,List.mem_append.2 (.inl h2)⟩
end
section
variable {P:Program} (T:cn P) {C:Ctx} {n:Nat} {ops:Array Oper} {Q:Exit→St→Prop} {rest:List Oper} {c:Code}
variable {f:List (Nat×A)} {bx:List (Nat×List A)} {lv:List Nat} {gen d:Nat} {ty:TypeId} {pos:String} {af:Array Edge} {a:A} {dst:Option Nat}
theorem Ie {t t':Nat} {x y:Operand} {p q:ByteArray} (O:av f x=some (.d (.v (.string p)))) (U:av f y=some (.d (.v (.string q)))) (hb:p.size+q.size≤9223372036854775807) :
 Pu P C n ⟨f,bx,lv,gen⟩ ⟨dst,.binOp .add t x y t',ty,pos,af,none⟩ (.d (.v (.string (p++q)))):=by
 refine ao fun G tmps w hs=>?_;have I:=hs.av O;have J:=hs.av U;generalize M:Act.eval ⟨tmps,[]⟩ x=vx at I;generalize N:Act.eval ⟨tmps,[]⟩ y=vy at J;cases I with | d I=>cases I with | v _ _=>
 cases J with | d J=>cases J with | v _ _=>
 refine⟨_,?_,.d (.v _ ?_)⟩
 ·unfold execOp
  show Sem.run P _ w=_;have:¬ ((p.size+q.size:Nat):Int) > IntKind.i64.max:=by simp[IntKind.max,IntKind.signed,IntKind.bits];omega
  simp only[M,N,eqGuard,binOp,Op.stringOp,if_neg this];simp;rfl
 ·simp[dd,maxLen,ByteArray.size_append]
  omega
end
end Go.Ab
namespace Go.Tb
open Go.Ab
abbrev ci (n:Int):D:=.v (.int .i64 n)
abbrev cs (s:ByteArray):D:=.v (.string s)
structure yk where
 kind:Int
 n:Int
 s:ByteArray
 deriving DecidableEq
@[reducible] def yk.c (x:yk):List D:=[ci x.kind,ci x.n,cs x.s]
structure xc where
 name:ByteArray
 type:Int
 deriving DecidableEq
@[reducible] def xc.c (x:xc):List D:=[cs x.name,ci x.type]
inductive Ex where
 | mk (op:Int) (name:ByteArray) (v:yk) (kids:List Ex)
def Ex.op:Ex→Int | .mk a _ _ _=>a
def Ex.name:Ex→ByteArray | .mk _ a _ _=>a
def Ex.v:Ex→yk | .mk _ _ a _=>a
def Ex.kids:Ex→List Ex | .mk _ _ _ a=>a
mutual
def Ex.kc:Ex→List (List D)
 | .mk _ _ _ kids=>Ex.tV kids
def Ex.tV:List Ex→List (List D)
 | []=>[]
 | e::r=>[ci e.op,cs e.name,ci e.v.kind,ci e.v.n,cs e.v.s,.sl (Ex.kc e)]::Ex.tV r
end
@[reducible] def Ex.c (e:Ex):List D:=[ci e.op,cs e.name,ci e.v.kind,ci e.v.n,cs e.v.s,.sl e.kc]
theorem Ex.ri:∀ l,Ex.tV l=l.map Ex.c
 | []=>rfl
 | e::r=>by simp[Ex.tV,Ex.ri r]
theorem Ex.oP (e:Ex):e.kc=e.kids.map Ex.c:=by cases e;simp[Ex.kc,Ex.kids,Ex.ri]
theorem Ex.bA (e:Ex):e.kc.length=e.kids.length:=by simp[Ex.oP]
theorem Ex.ind {p:Ex→Prop} (h:∀ e,(∀ k∈e.kids,p k)→p e):∀ e,p e:=by
 intro e
 induction hn:_root_.SizeOf.sizeOf e using Nat.strongRecOn generalizing e with
 | _ m I=>
   subst hn;refine h e fun k J=>I (_root_.SizeOf.sizeOf k) ?_ k rfl
   cases e with
   | mk op name v kids=>have:=List.sizeOf_lt_of_mem (show k∈kids from J);grind
structure Fk where
 e:Ex
 name:ByteArray
@[reducible] def Fk.c (x:Fk):List D:=[ci x.e.op,cs x.e.name,ci x.e.v.kind,ci x.e.v.n,cs x.e.v.s,.sl x.e.kc,cs x.name]
structure Fe where
 fn:ByteArray
 col:ByteArray
 name:ByteArray
@[reducible] def Fe.c (x:Fe):List D:=[cs x.fn,cs x.col,cs x.name]
structure Fl where
 col:ByteArray
 desc:Bool
@[reducible] def Fl.c (x:Fl):List D:=[cs x.col,.v (.bool x.desc)]
@[reducible] def sc (s:ByteArray):List D:=[cs s]
structure E7 where
 op:Int
 cond:Ex
 items:List Fk
 cols:List ByteArray
 aggs:List Fe
 sorts:List Fl
 n:Int
 table:ByteArray
@[reducible] def E7.c (x:E7):List D:=[ci x.op,ci x.cond.op,cs x.cond.name,ci x.cond.v.kind,ci x.cond.v.n,cs x.cond.v.s,.sl x.cond.kc,
 .sl (x.items.map Fk.c),.sl (x.cols.map sc),.sl (x.aggs.map Fe.c),.sl (x.sorts.map Fl.c),ci x.n,cs x.table]
structure H8 where
 cols:List xc
 rows:List (List yk)
@[reducible] def rc (r:List yk):List D:=[.sl (r.map yk.c)]
@[reducible] def H8.c (x:H8):List D:=[.sl (x.cols.map xc.c),.sl (x.rows.map rc)]
structure I4 where
 name:ByteArray
 table:H8
@[reducible] def I4.c (x:I4):List D:=[cs x.name,.sl (x.table.cols.map xc.c),.sl (x.table.rows.map rc)]
structure I9 where
 from_:ByteArray
 steps:List E7
@[reducible] def I9.c (x:I9):List D:=[cs x.from_,.sl (x.steps.map E7.c)]
@[reducible] def ic (k:Int):List D:=[ci k]
/- ### typed data out of a reading -/
section
variable {P:Program} {T:cn P}
theorem vX {α:Type} {f:α→List D} {t:Nat}:∀ {es:List (List D)},(∀ x∈es,cX T t x)→(∀ x,x∈es→cX T t x→∃ a,x=f a)→∃ l:List α,es=l.map f
 | [],_,_=>⟨[],rfl⟩
 | x::r,h,hf=>by obtain⟨a,J⟩:=hf x (by simp) (h x (by simp));obtain⟨l,hl⟩:=vX (fun y I=>h y (by simp[I])) (fun y I=>hf y (by simp[I])) (es:=r);exact⟨a::l,by rw[J,hl];rfl⟩
theorem sH {t a b:Nat} {J M:Nat} {N O:String} {l:List D} (h:cX T t l) (U:cN T t=.st [(J,a,N),(M,b,O)]):∃ p q,l=p++q∧cX T a p∧cX T b q:=by
 obtain⟨ps,rfl,hl,I⟩:=h.AW U
 match ps,hl with
 | [p,q],_=>exact⟨p,q,by simp,I 0 _ _ _ p rfl rfl,I 1 _ _ _ q rfl rfl⟩
theorem xM {t a b c:Nat} {J M N:Nat} {O U X:String} {l:List D} (h:cX T t l) (hk:cN T t=.st [(J,a,O),(M,b,U),(N,c,X)]):∃ p q r,l=p++(q++r)∧cX T a p∧cX T b q∧cX T c r:=by
 obtain⟨ps,rfl,hl,I⟩:=h.AW hk
 match ps,hl with
 | [p,q,r],_=>exact⟨p,q,r,by simp,I 0 _ _ _ p rfl rfl,I 1 _ _ _ q rfl rfl,I 2 _ _ _ r rfl rfl⟩
theorem xL {t a b c d:Nat} {J M N O:Nat} {U X nc nd:String} {l:List D} (h:cX T t l) (hk:cN T t=.st [(J,a,U),(M,b,X),(N,c,nc),(O,d,nd)]) :
 ∃ p q r s,l=p++(q++(r++s))∧cX T a p∧cX T b q∧cX T c r∧cX T d s:=by
 obtain⟨ps,rfl,hl,I⟩:=h.AW hk
 match ps,hl with
 | [p,q,r,s],_=>exact⟨p,q,r,s,by simp,I 0 _ _ _ p rfl rfl,I 1 _ _ _ q rfl rfl,I 2 _ _ _ r rfl rfl,I 3 _ _ _ s rfl rfl⟩
variable {tv tk ti ts tc tcs te teo tes:Nat} {o1 o2 o3 o4 o5 o6 o7 o8:Nat} {n1 n2 n3 n4 n5 n6 n7 n8:String} {l:List D}
theorem eL (h:cX T ti l) (I:cN T ti=.int .i64):∃ n,l=[ci n]:=let ⟨n,h,_⟩:=h.toInt I;⟨n,h⟩
theorem tg (h:cX T ts l) (I:cN T ts=.str):∃ n,l=[cs n]:=let ⟨n,h,_⟩:=h.toStr I;⟨n,h⟩
theorem mx {α:Type} {f:α→List D} {t e:Nat} (h:cX T t l) (I:cN T t=.slice e) (J:∀ x,cX T e x→∃ a,x=f a):∃ r:List α,l=[.sl (r.map f)]:=by obtain⟨es,rfl,h1,_⟩:=h.toSlice I;obtain⟨r,rfl⟩:=vX h1 (fun x _ M=>J x M);grind
end
end Go.Tb
namespace Go.Tb
open Go.Ab
def Still (caps:List A):Prop:=(∀ bx k,caps.map (conv bx (k+2))=caps)∧kI caps=true
def idx (o:Option Nat):Int:=match o with | some i=>i | none=>-1
theorem gQ {α:Type} {l:List α} {p:α→Bool}:decide (0≤idx (l.findIdx? p))=l.any p:=by
 cases h:l.findIdx? p with
 | none=>have:=List.findIdx?_eq_none_iff.1 h;simp only[idx];grind
 | some i=>obtain⟨hi,hp,_⟩:=List.findIdx?_eq_some_iff_getElem.1 h;simp only[idx];grind
def cV {α:Type} (p:α→Bool) (l:List α) (k:Nat):Prop:=∀ j x,j < k→l[j]? = some x→p x=false
theorem cV.zero {α:Type} {p:α→Bool} {l:List α}:cV p l 0:=fun _ _ h=>by omega
theorem cV.step {α:Type} {p:α→Bool} {l:List α} {k:Nat} {x:α} (h:cV p l k) (M:l[k]? = some x) (hp:p x=false):cV p l (k+1):=by
 intro j y hj J;rcases Nat.lt_succ_iff_lt_or_eq.1 hj with I | rfl
 ·exact h j y I J
 ·grind
theorem cV.found {α:Type} {p:α→Bool} {l:List α} {k:Nat} {x:α} (h:cV p l k) (M:l[k]? = some x) (hp:p x=true):l.findIdx? p=some k:=by rw[List.findIdx?_eq_some_iff_getElem];obtain⟨I,J⟩:=List.getElem?_eq_some_iff.1 M;refine⟨I,by rw[J];exact hp,fun j hj=>?_⟩;rw[h j (l[j]) hj (by simp)];simp
theorem cV.end_ {α:Type} {p:α→Bool} {l:List α} {k:Nat} (h:cV p l k) (I:k=l.length):l.findIdx? p=none:=by rw[List.findIdx?_eq_none_iff];intro x J;obtain⟨j,hj⟩:=List.mem_iff_getElem?.1 J;exact h j x (by rw[I];exact(List.getElem?_eq_some_iff.1 hj).1) hj
def fits (k w:Int):Bool:=decide (k=w) || decide (k=0)
def eQ (n:Int):Bool:=decide (-1000000000000000≤n) && decide (n≤1000000000000000)
abbrev B (l:Array UInt8):ByteArray:=⟨l⟩
def words:List ByteArray:=[B #[97,110,100],B #[111,114],B #[110,111,116],B #[110,117,108,108],B #[116,114,117,101],B #[102,97,108,115,101]]
def lower (b:UInt8):Bool:=decide (97≤b.toNat) && decide (b.toNat≤122)
def bc (s:ByteArray):List UInt8:=s.data.toList
def marks:List UInt8:=[95,46,58,47,60,62,36,42,126,45]
def kg (b:UInt8):Bool:=lower b || (decide (65≤b.toNat) && decide (b.toNat≤90)) || (decide (48≤b.toNat) && decide (b.toNat≤57)) || marks.any fun c=>decide (c=b)
def cY (s:ByteArray):Int:=if s=B #[]∨40 < s.size∨(bc s).all kg=false then 3 else 0
end Go.Tb
namespace Go.Tb
open Go.Ab
theorem mD {s:ByteArray} (h:dd (.string s)=true):(bc s).length≤maxLen:=by simpa [dd,bc] using h
theorem bk (s:ByteArray):(bc s).length=s.size:=by simp[bc]
theorem lS (c:UInt8):∀ l:List UInt8,(0≤Lib.indexByte l c)↔c∈l
 | []=>by simp[Lib.indexByte]
 | b::l=>by have I:=lS c l;have h1:=Lib.indexByte_ge l c;simp only[Lib.indexByte,List.mem_cons];grind
theorem wM (l:List UInt8) (c:UInt8):decide (0≤Lib.indexByte l c)=l.any fun x=>decide (x=c):=by rw[Bool.eq_iff_iff];simp[lS]
theorem qi (c:UInt8):∀ l:List UInt8,Lib.indexByte l c≤l.length
 | []=>by simp[Lib.indexByte]
 | b::l=>by have I:=qi c l;simp only[Lib.indexByte,List.length_cons];grind
theorem w4 {s:ByteArray} (h:dd (.string s)=true) (c:UInt8):dd (.int .i64 (Lib.indexByte (bc s) c))=true:=by
 have h1:=Lib.indexByte_ge (bc s) c;have h2:=qi c (bc s);have h3:=mD h;have h4:maxLen=9223372036854775807:=rfl;simp only[dd,Bool.and_eq_true,decide_eq_true_eq];refine⟨?_,?_⟩;·show -9223372036854775808≤_;omega
 ·show _≤9223372036854775807;omega
theorem oh {s:ByteArray}:s=B #[]↔bc s=[]:=by
 constructor;·rintro rfl;rfl
 ·intro hb
  have:s.data=#[]:=by simpa [bc] using hb
  cases s;simp_all[B]
end Go.Tb
namespace Go.Tb
open Go.Ab
section
variable {P:Program} {C:Ctx} {n:Nat} {Q:Exit→St→Prop} {c:Code} {f:List (Nat×A)} {bx:List (Nat×List A)} {lv:List Nat} {gen:Nat}
end
end Go.Tb
namespace Go.Tb
open Go.Ab
theorem yb {α:Type} {l:List α} {k:Nat} (h:k < l.length):∃ x,l[k]? = some x∧l.drop k=x::l.drop (k+1):=⟨l[k],by simp[h],List.drop_eq_getElem_cons h⟩
theorem dropEnd {α:Type} {l:List α} {k:Nat} (h:l.length≤k):l.drop k=[]:=List.drop_eq_nil_of_le h
theorem dP {P:Program} {C:Ctx} {n:Nat} {st:St} {o:Oper} {k:IntKind} {x y:Int} (h:Pu P C n st o (.d (.v (.int k x)))) (e:x=y):Pu P C n st o (.d (.v (.int k y))):=e▸h
end Go.Tb
namespace Go.Tb
open Go.Ab
section
variable {P:Program} {C:Ctx} {n:Nat} {Q:Exit→St→Prop} {c:Code} {f:List (Nat×A)} {bx:List (Nat×List A)} {lv:List Nat} {gen:Nat}
theorem CP {g j:Nat} {cells:List A} {es:List (List D)} (hb:aY bx g=some cells) (I:cells[j]? = some (.d (.sl es))) (h:es.length≤maxLen→W P C n c Q ⟨f,bx,lv,gen⟩):W P C n c Q ⟨f,bx,lv,gen⟩:=by
 intro tmps w ⟨G,hs⟩;obtain⟨b,cs,T,h1,h2,h3,h4,h5⟩:=hs.box g cells hb;have hj:j < cs.size:=by rw[h3];exact(List.getElem?_eq_some_iff.1 I).1
 have:=h5 j cs[j] _ (by simp[hj]) I;generalize cs[j]=u at this;cases this with | d hd=>exact h hd.len.choose_spec.choose_spec.2 tmps w ⟨G,hs⟩
end
end Go.Tb
namespace Go.Tb
open Go.Ab
mutual
def deep:Ex→Int→Int→Int
 | .mk op name v kids,level,left=>if level < 1∨left - 1 < 0∨300 < name.size∨300 < v.s.size then -1 else EX kids level (left - 1)
def EX:List Ex→Int→Int→Int
 | [],_,left=>left
 | k::r,level,left=>if deep k (level - 1) left < 0 then -1 else EX r level (deep k (level - 1) left)
end
def small (e:Ex):Bool:=decide (0≤deep e 40 300)
end Go.Tb
namespace Go.Tb
open Go.Ab
def both (a b w:Int):Bool:=fits a w && fits b w
end Go.Tb
namespace Go.Tb
open Go.Ab
end Go.Tb
namespace Go.Tb
open Go.Ab
end Go.Tb
namespace Go.Tb
end Go.Tb
namespace Go.Tb
open Go.Ab
theorem wrap_zero {x:Int} (h0:0≤x) (h1:x < 18446744073709551616):(IntKind.i64.wrap x=0)↔x=0:=by simp only[IntKind.wrap,IntKind.signed,IntKind.bits];grind
/-! tables -/
end Go.Tb
namespace Go.Ab
open Go.RowKit
section
variable {P:Program} (T:cn P) {C:Ctx} {n:Nat} {ops:Array Oper} {Q:Exit→St→Prop} {rest:List Oper} {c:Code}
variable {f:List (Nat×A)} {bx:List (Nat×List A)} {lv:List Nat} {gen d:Nat} {ty:TypeId} {pos:String} {af:Array Edge} {a:A} {dst:Option Nat}
end
end Go.Ab
namespace Go.Tb
open Go.Ab
def IP:List xc→Nat→List xc→Bool
 | _,_,[]=>false
 | all,k,c::r=>(all.take k).any (fun x=>decide (x.name=c.name)) || IP all (k+1) r
end Go.Tb
namespace Go.Ab
open Go.RowKit
section
variable {P:Program} (T:cn P) {C:Ctx} {n:Nat} {ops:Array Oper} {Q:Exit→St→Prop} {rest:List Oper} {c:Code}
variable {f:List (Nat×A)} {bx:List (Nat×List A)} {lv:List Nat} {gen d:Nat} {ty:TypeId} {pos:String} {af:Array Edge} {a:A} {dst:Option Nat}
theorem pT {α:Type} {fn:α→List D} {l l2:List α} {x y:Operand} {t e:Nat} {td I:cI} {g:Nat} {b:A} (O:av f x=some (.own g (l.map fn))) (U:av f y=some b) (J:ig b=some (l2.map fn)) (X:aY T.l t=some td) (hk:td.k=.slice e)
 (he:aY T.l e=some I) (M:(lv.any fun h=>Nat.beq h g)=true) (hz:Nat.blt 0 I.n=true) (N:Nat.blt 0 I.b=true) (hd:Nat.blt d n=true) (hl:∀ a,(fn a).length=I.n) (hb:(l.length+l2.length)*I.b≤140737488355328)
 (h:WO P C n ops Q rest ⟨(d,.own gen ((l++l2).map fn))::f,bx,gen::bD lv g,gen+1⟩):WO P C n ops Q (⟨some d,.call ⟨.builtin .append,#[x,y],#[t,t]⟩,ty,pos,af,none⟩::rest) ⟨f,bx,lv,gen⟩:=by
 grind[List.any_eq_true,Nat.eq_of_beq_eq_true,vw]
theorem Ic {t e len:Nat} {parts:Array (Nat×Operand)} {td I:cI} {es:List (List D)} (N:aY T.l t=some td) (O:td.k=.slice e) (he:aY T.l e=some I) (J:l5 f 0 parts.toList=some es) (hlen:es.length=len)
 (U:Nat.blt 0 I.n=true) (M:Nat.ble (len*I.n) 16777216=true) (hl:pC I.n es=true) (hd:Nat.blt d n=true)
 (h:WO P C n ops Q rest ⟨(d,.own gen es)::f,bx,gen::lv,gen+1⟩):WO P C n ops Q (⟨some d,.buildSlice t len parts,ty,pos,af,none⟩::rest) ⟨f,bx,lv,gen⟩:=
 aG (st:=⟨f,bx,lv,gen⟩) T rfl hd rfl N O he J hlen U M (jk hl) h
end
def tw (bx:List (Nat×List A)):List Nat→List (Nat×List A)
 | []=>[]
 | g::r=>match aY bx g with
   | some c=>(g,c)::tw bx r
   | none=>tw bx r
section
variable {P:Program} {C:Ctx} {n:Nat} {Q:Exit→St→Prop} {c:Code} {st:St}
variable {f f' fi:List (Nat×A)} {bx bx' bi:List (Nat×List A)} {lv lv':List Nat} {gen gen':Nat}
def QC (C:Ctx) (n:Nat) (S:St) (Q:Exit→St→Prop):Exit→St→Prop
 | .normal,st=>∀ (tmps:Array Value) (w:World),ez C n st tmps w→ez C n S tmps w
 | e,st=>Q e st
theorem W.oO (V:List (Nat×A)) (ts:List Nat) (B:List (Nat×List A)) (bs:List Nat) (lv':List Nat) (gen':Nat) (h:W P C n c (QC C n ⟨V++cO f ts,B++tw bx bs,lv',gen'⟩ Q) ⟨f,bx,lv,gen⟩)
 (I:Q .normal ⟨V++cO f ts,B++tw bx bs,lv',gen'⟩):W P C n c Q ⟨f,bx,lv,gen⟩:=
 fun tmps w hs=>wp_mono (h tmps w hs) fun e act w ⟨hd,st',hs,he⟩=>by
  cases e with
  | normal=>exact⟨hd,_,he _ _ hs,I⟩
  | _=>exact⟨hd,st',hs,he⟩
theorem eJ {I:Nat} [hnb:NB C I] (order:List Nat) (N:kv order gen' I=true) (O:nV order f f') (J:om f fi) (hb:jZ order bx bx') (M:lq order bx bi) (hl:sh order lv lv'=true) :
 QC C n ⟨f'++fi,bx'++bi,lv',gen'⟩ Q .normal ⟨f,bx,lv,gen⟩:=fun _ _ h=>ez.cD order N O J hb M hl h
end
end Go.Ab
namespace Go.Tb
open Go.Ab
end Go.Tb
namespace Go.Ab
open Go.RowKit
mutual
def nY:D→D
 | .v x=>bif isNil (.d (.v x)) then .sl [] else .v x
 | .sl es=>.sl (tL es)
def rI:List D→List D
 | []=>[]
 | x::r=>nY x::rI r
def tL:List (List D)→List (List D)
 | []=>[]
 | x::r=>rI x::tL r
end
theorem lI:∀ l,rI l=l.map nY
 | []=>rfl
 | x::r=>by simp[rI,lI r]
theorem uj:∀ l,tL l=l.map rI
 | []=>rfl
 | x::r=>by simp[tL,uj r]
theorem bE.nY {w:World} {pv:Nat→Nat→Prop} {v:Value} {d:D} (h:bE w pv v d):bE w pv v (Ab.nY d):=by
 induction h with
 | v x I=>
   simp only[Ab.nY]
   cases J:isNil (.d (.v x)) with
   | true=>have:=Es J;simp only[A.d.injEq,D.v.injEq] at this;subst this;exact .nil
   | false=>exact .v x I
 | nil=>exact .nil
 | emp a cap hm=>exact .emp a cap hm
 | sl b off len cap sz es u hl M hm hs hu _ N=>
   simp only[Ab.nY,uj];refine .sl b off len cap sz _ u (by simpa using hl) M hm (fun i e he=>?_) hu (fun i j e d he hd=>?_);·grind[Option.map_eq_some_iff,lI,List.length_map]
   ·grind[Option.map_eq_some_iff,lI]
def uZ:A→A
 | .d x=>.d (nY x)
 | .ag l=>.ag (rI l)
 | a=>a
theorem bu.uZ {E:En} {v:Value} {a:A} (h:bu E v a):bu E v (Ab.uZ a):=by
 cases h with
 | d hd=>exact .d hd.nY
 | ag vs l hs hd=>refine .ag vs _ (by rw[lI];simpa using hs) (fun i u x hu M=>?_);rw[lI,List.getElem?_map,Option.map_eq_some_iff] at M;obtain⟨y,hy,rfl⟩:=M;exact(hd i u y hu hy).nY
 | any=>exact .any _
 | ni t x=>exact .ni t x
 | fl _ es hd ad=>exact .fl _ es hd ad
 | own _ g es hd J N=>exact .own _ g es hd J N
 | agg vs l hs O hd=>exact .agg vs l hs O hd
 | tup vs l hs hd=>exact .tup vs l hs hd
 | rowd b off l u U hd=>exact .rowd b off l u U hd
 | row b off l u U hd=>exact .row b off l u U hd
 | ptr _ g off b J hb hp=>exact .ptr _ g off b J hb hp
 | xs _ g es J h1 M=>exact .xs _ g es J h1 M
 | xp _ g i off l J h1 M=>exact .xp _ g i off l J h1 M
 | mp _ g es J h1 M=>exact .mp _ g es J h1 M
 | mq _ g es J h1 M=>exact .mq _ g es J h1 M
 | mo _ g es hole ob J h1 M=>exact .mo _ g es hole ob J h1 M
 | bf _ g T s J h1 M=>exact .bf _ g T s J h1 M
 | np _ g T b J hb hT u M=>exact .np _ g T b J hb hT u M
 | sb _ g n c b J hb X M=>exact .sb _ g n c b J hb X M
 | fx _ u g es ou M J hu O=>exact .fx _ u g es ou M J hu O
 | ol _ u g' E' g es M ai aj J hu=>exact .ol _ u g' E' g es M ai aj J hu
 | ow _ v g es hd J N=>exact .ow _ v g es hd J N
 | gi _ g I J N=>exact .gi _ g I J N
 | lk _ g n c b v J hb X M=>exact .lk _ g n c b v J hb X M
 | clo f vs l hs hd=>exact .clo f vs l hs hd
 | bnd f vs l hs hd=>exact .bnd f vs l hs hd
section
variable {P:Program} {C:Ctx} {n:Nat} {ops:Array Oper} {Q:Exit→St→Prop} {rest:List Oper} {c:Code}
variable {f:List (Nat×A)} {bx:List (Nat×List A)} {lv:List Nat} {gen d:Nat} {ty:TypeId} {pos:String} {af:Array Edge} {a:A} {dst:Option Nat}
end
end Go.Ab
namespace Go.Tb
open Go.Ab
section
variable {P:Program} {T:cn P} {l:List D}
variable {ts ti tk tc tcs tv tr trs tt tn te teo tes tit titl ttl tag tagl tso tsol tb top tst tstl tq:Nat}
variable {o1 o2 o3 o4 o5 o6 o7 o8 p1 p2 p3 p4 p5 p6 p7 p8 q1 q2 q3 q4 q5 q6 q7 q8 r1 r2 r3 r4 r5:Nat}
variable {n1 n2 n3 n4 n5 n6 n7 n8 m1 m2 m3 m4 m5 m6 m7 m8 k1 k2 k3 k4 k5 k6 k7 k8 j1 j2 j3 j4 j5:String}
end
end Go.Tb
namespace Go.Ab
open Go.RowKit
section
variable {P:Program} {C:Ctx} {n:Nat}
variable {f:List (Nat×A)} {bx:List (Nat×List A)} {lv:List Nat} {gen:Nat} {ty:TypeId} {pos:String} {af:Array Edge} {dst:Option Nat}
end
def ly (P:Program) [db P] (w:World):Prop:=∃ W:World,(W.ShapedOpen P∧db.met P W)∧W.heap.size≤w.heap.size∧∀ b,b < W.heap.size→w.heap[b]? = W.heap[b]?
theorem ly.cell {P:Program} [db P] {w:World} (h:ly P w) {b:Nat} (I:∀ W:World,W.ShapedOpen P→∃ m,W.cell? ⟨b,0,none⟩=some (.int .i64 m)):∃ m,w.cell? ⟨b,0,none⟩=some (.int .i64 m):=by obtain⟨W,h1,_,h3⟩:=h;grind[W,dF,cw]
theorem bq.Ey {P:Program} [db P] {f:FuncId} {args:List A} {r:A} (ok:jF P f)
 (h:∀ (w:World) (I:Array Value) (E:En),E.w=w→ly P w→I.size=args.length→(∀ (i:Nat) (u:Value) (a:A),I[i]? = some u→args[i]? = some a→bu E u a) →
  Calls P f I w fun e w'=>∃ v,e=.returned v∧Below w.heap.size w w'∧∀ E':En,E'.w=w'→(∀ b o,E'.pv b o→b < w.heap.size)→bu E' v r) :
 bq P f args r 0:=by
 refine⟨ok,fun C I w X hw hp N O M=>?_⟩;have hu:ly P w:=by obtain⟨W,h1,h2,h3⟩:=X.h;rw[hw] at h2 h3;exact⟨W,h1,h2,fun b hb=>(h3 b hb).1⟩
 refine(h w I (bj C G0 0 w) rfl hu O M).mono fun e w' ⟨v,h1,hb,J⟩=>⟨v,G0,h1,?_,J _ rfl (fun b o U=>N b o ((rp C b o).1 U))⟩;subst hw
 exact { size:=rfl,frame:=fun t a ha=>by simp[look] at ha,box:=fun g cells hc=>by simp[aY] at hc,gbox:=fun g b hb=>by simp[G0] at hb,inj:=fun g g' b hb=>by simp[G0] at hb,
         live:=fun g hg=>by simp at hg,gown:=fun g r J=>by simp[G0] at J,row:=fun g b len cap sz ad J=>by simp[G0] at J,mrow:=fun g b bs J=>by simp[G0] at J,sub:=fun g b bs c lim J=>by simp[G0] at J,gcell:=fun g b hb=>by simp[G0] at hb,xold:=fun b o hb=>⟨N b o hb,hp.1 b⟩,kold:=fun b o hb=>absurd hb (hp.2.1 b o),
         lent:=fun i b hb=>by rw[hp.2.2.1] at hb;simp at hb,fr:=⟨hb.os,hb.tape,hb.output,hb.size,fun b h1 _=>hb.block b h1,fun _ _ _ hb=>absurd hb (hp.2.1 _ _),.below hb⟩ }
theorem FJ {E:En} {xs:List Value} {I:Array Value} (N:I.size=(xs.map fun x=>A.d (.v x)).length)
 (hr:∀ (i:Nat) (u:Value) (a:A),I[i]? = some u→(xs.map fun x=>A.d (.v x))[i]? = some a→bu E u a):I=xs.toArray∧∀ x∈xs,dd x=true:=by
 have O:∀ (i:Nat) (u x:Value),I[i]? = some u→xs[i]? = some x→u=x∧dd x=true:=by intro i u x U J;have:=hr i u (.d (.v x)) U (by simp[J]);cases this with | d hd=>cases hd with | v _ ho=>exact⟨rfl,ho⟩
 have M:I.size=xs.length:=by simpa using N
 refine⟨Array.ext (by simpa using M) (fun i h1 h2=>?_),fun x J=>?_⟩
 ·have X:i < xs.length:=by simpa using h2
  have:=(O i I[i] xs[i] (by simp[h1]) (by simp[X])).1;grind
 ·obtain⟨i,hi,rfl⟩:=List.mem_iff_getElem.1 J
  exact(O i (I[i]'(by omega)) xs[i] (by simp[M,hi]) (by simp[hi])).2
theorem bq.vU {P:Program} [db P] {f:FuncId} {xs:List Value} {r:A} (ok:jF P f)
 (h:∀ (w:World),ly P w→(∀ x∈xs,dd x=true)→Calls P f xs.toArray w fun e w'=>∃ v,e=.returned v∧Below w.heap.size w w'∧∀ E':En,E'.w=w'→(∀ b o,E'.pv b o→b < w.heap.size)→bu E' v r) :
 bq P f (xs.map fun x=>.d (.v x)) r 0:=by
 refine bq.Ey ok fun w J E _ hu I M=>?_;obtain⟨e,N⟩:=FJ I M;grind
theorem ly.var {P:Program} [db P] {w:World} (h:ly P w):∃ W:World,db.met P W∧∀ name cs,W.var? P name=some cs→w.var? P name=some cs:=by
 obtain⟨W,h1,_,h3⟩:=h;refine⟨W,h1.2,fun name cs I=>?_⟩;unfold World.var? at I ⊢
 cases J:P.globalNamed name with
 | none=>rw[J] at I;simp at I
 | some g=>grind
def oM (P:Program) (W:World):Prop:=
 W.var? P "internal/strconv.uint64pow10" = some (Lib.pow10Tab.map fun z=>Value.int .u64 z).toArray∧(∃ t p,W.var? P "strconv.ErrSyntax" = some #[.iface t p])∧∃ t p,W.var? P "strconv.ErrRange" = some #[.iface t p]
theorem ly.num {P:Program} [db P] (hm:∀ W,db.met P W→oM P W) {w:World} (h:ly P w):oM P w:=by obtain⟨W,h1,h2⟩:=h.var;obtain⟨h3,⟨t,p,h4⟩,t',I,h5⟩:=hm W h1;exact⟨h2 _ _ h3,⟨t,p,h2 _ _ h4⟩,t',I,h2 _ _ h5⟩
theorem uY {E:En} {x y:Value} {a b:A} (J:bu E x a) (hb:bu E y b):bu E (.tuple #[x,y]) (.tup [a,b]):=
 .tup _ _ rfl (fun i u z hu I=>by
  match i,hu,I with
  | 0,hu,I=>simp only[List.getElem?_toArray,List.getElem?_cons_zero,Option.some.injEq] at hu I;subst hu;subst I;exact J
  | 1,hu,I=>simp only[List.getElem?_toArray,List.getElem?_cons_succ,List.getElem?_cons_zero,Option.some.injEq] at hu I;subst hu;subst I;exact hb
  | i+2,hu,I=>simp at I)
section
variable {P:Program} {C:Ctx} {n:Nat}
variable {f:List (Nat×A)} {bx:List (Nat×List A)} {lv:List Nat} {gen:Nat} {ty:TypeId} {pos:String} {af:Array Edge} {dst:Option Nat}
theorem wu (w:World) {t:TypeId} {ms:Array (String×TypeId)} (hu:P.underlying t=some (.interface ms)):(Op.equal t .nilIface .nilIface).run P w=.ok true w:=by
 have h:∀ d:Nat,(Op.equalIn (d+1) t .nilIface .nilIface).run P w=.ok true w:=fun d=>by simp[Op.equalIn,run_underlying hu]
 exact h 9999
theorem yR (w:World) {t u:TypeId} {v:Value} {ms:Array (String×TypeId)} (hu:P.underlying t=some (.interface ms)):(Op.equal t (.iface u v) .nilIface).run P w=.ok false w:=by
 have h:∀ d:Nat,(Op.equalIn (d+1) t (.iface u v) .nilIface).run P w=.ok false w:=fun d=>by simp[Op.equalIn,run_underlying hu]
 exact h 9999
def lG (P:Program) (t:TypeId):Bool:=match P.underlying t with | some (.interface _)=>true | _=>false
theorem lL {t:TypeId} (h:lG P t=true):∃ ms,P.underlying t=some (.interface ms):=by grind[lG]
theorem Iw {t t':Nat} {x:Operand} (M:av f x=some (.d (.v .nilIface))) (hB:lG P t=true) :
 Pu P C n ⟨f,bx,lv,gen⟩ ⟨dst,.binOp .eql t x (.const .nilIface) t',ty,pos,af,none⟩ (.d (.v (.bool true))):=by
 obtain⟨ms,hu⟩:=lL hB;refine ao fun G tmps w hs=>?_;have I:=hs.av M;generalize J:Act.eval ⟨tmps,[]⟩ x=vx at I;cases I with | d I=>cases I with | v _ _=>
 refine⟨.bool true,?_,.d (.v _ rfl)⟩;unfold execOp;show Sem.run P _ w=_;have he:(Act.eval ⟨tmps,[]⟩ (Operand.const Value.nilIface))=Value.nilIface:=rfl;simp only[J,he,eqGuard,binOp];simp[wu w hu];rfl
theorem G9 {t t':Nat} {x:Operand} (M:av f x=some .ni) (hB:lG P t=true) :
 Pu P C n ⟨f,bx,lv,gen⟩ ⟨dst,.binOp .eql t x (.const .nilIface) t',ty,pos,af,none⟩ (.d (.v (.bool false))):=by
 obtain⟨ms,hu⟩:=lL hB;refine ao fun G tmps w hs=>?_;have I:=hs.av M;generalize J:Act.eval ⟨tmps,[]⟩ x=vx at I;cases I with | ni t2 N=>
 refine⟨.bool false,?_,.d (.v _ rfl)⟩;unfold execOp;show Sem.run P _ w=_;have he:(Act.eval ⟨tmps,[]⟩ (Operand.const Value.nilIface))=Value.nilIface:=rfl;simp only[J,he,eqGuard,binOp];simp[yR w hu];rfl
end
end Go.Ab
namespace Go.Ab
open Go
variable {H:Type} {enc:TypeId×Value→H}
theorem nq {a:Assume} {C:Checked} {os:Os} {f:FuncId} {fn:Func} {s:ChangeSpec} {conds:List PathCond} {apart fresh handsOn again:Bool} {X:World→Array Value→Prop}
 (hX:∀ (w w':World) (args:Array Value),w.heap=w'.heap→X w args→X w' args)
 (own:ownKnob C.prog.godebug=none) (started:os.Started) (J:C.prog.inits.idxOf? f=none) (U:C.prog.funcs[f]? = some fn)
 (witness:∃ (w:World) (tape:Tape) (i:Input),w.os=os∧(w.forCall tape i).Shaped C.prog∧i.vars=[]∧Input.okWide C.prog (w.forCall tape i) .any w.heap.size f i ∧
  ((s.pre enc C.prog fn conds apart (w.forCall tape i).memory i.args∧X (w.forCall tape i).memory i.args)∧sizedMet enc C.prog fn (OpenSpec.ofChange s) apart (w.forCall tape i).memory i.args)∧a.holds C.prog (lone (Frame.enter C.prog f i.args .normal) [] (w.forCall tape i)))
 (I:∀ (W:World) (base:Nat) (args:Array Value) (ds gs:List (DataW H)) (before:List MemPlace),
  (∀ (j:Nat) t v,fn.params[j]? = some t→args[j]? = some v→Value.okWide C.prog W .any base t v) →
  DataW.Whole enc C.prog fn.params.toList s.vars apart W args.toList ds gs before →
  W.ShapedOpen C.prog→X W args →
  Calls C.prog f args W fun e W'=>∃ v,e=.returned v∧s.post enc C.prog fn apart fresh handsOn again W args v W') :
 ReturnsInHanded a C os f .any (fun w args=>(s.pre enc C.prog fn conds apart w args∧X w args)∧sizedMet enc C.prog fn (OpenSpec.ofChange s) apart w args) (s.post enc C.prog fn apart fresh handsOn again):=by
 refine returnsInHanded_of_calls own started J witness ?_;intro w tape i _ ad _ hok M ai;obtain⟨_,_,_,aj,N,_,_,_,_,O⟩:=hok;have e:aj=fn:=Option.some.inj (N.symm.trans U);subst e;obtain⟨⟨⟨ds,gs,before,hw,hc⟩,hx⟩,hz⟩:=M;have a1:=DataW.Whole.of_heap (w':=w.forCall tape i) (by rfl) hw;refine(I (w.forCall tape i) w.heap.size i.args ds gs before O a1 ad (hX _ _ _ (by rfl) hx)).mono fun e W' ⟨v,he,hp⟩=>?_;subst he;exact ChangeSpec.post_blind hp
theorem yL {C:Checked} {os:Os} {f:FuncId} {fn:Func} {s:ChangeSpec} {conds:List PathCond} {apart:Bool} {laid:List (String×DataW Unit)} (modest:Bool) (args:Array Value) (fuel:Nat)
 (M:((World.laidAll C.prog os laid).forCall (fun _ _=>0) ⟨#[],args,[]⟩).variablesZipB C.prog=true)
 (N:(((World.laidAll C.prog os laid).forCall (fun _ _=>0) ⟨#[],args,[]⟩).heap.toList.drop C.prog.globals.size).take ((begin C.prog (fun _ _=>0) default).world.heap.size - C.prog.globals.size) =
  (begin C.prog (fun _ _=>0) default).world.heap.toList.drop C.prog.globals.size)
 (O:(World.holding C.prog os ⟨#[],#[],[]⟩).layFits C.prog laid []=true)
 (hi:(World.holding C.prog os ⟨#[],#[],[]⟩).layIfaces C.prog laid (World.laidAll C.prog os laid)=true)
 (hok:Input.okWideB C.prog ((World.laidAll C.prog os laid).forCall (fun _ _=>0) ⟨#[],args,[]⟩) f ⟨#[],args,[]⟩=true)
 (I:s.preB enc C.prog fn conds apart ((World.laidAll C.prog os laid).forCall (fun _ _=>0) ⟨#[],args,[]⟩).memory args fuel=true)
 (J:s.sizedB enc C.prog fn apart ((World.laidAll C.prog os laid).forCall (fun _ _=>0) ⟨#[],args,[]⟩).memory args fuel=true) :
 ∃ (w:World) (tape:Tape) (i:Input),w.os=os∧(w.forCall tape i).Shaped C.prog∧i.vars=[]∧Input.okWide C.prog (w.forCall tape i) .any w.heap.size f i ∧
   ((s.pre enc C.prog fn conds apart (w.forCall tape i).memory i.args∧laidMet C.prog laid (w.forCall tape i).memory)∧sizedMet enc C.prog fn (OpenSpec.ofChange s) apart (w.forCall tape i).memory i.args)∧({ modest:=modest }:Assume).holds C.prog (lone (Frame.enter C.prog f i.args .normal) [] (w.forCall tape i)):=
 ⟨World.laidAll C.prog os laid,fun _ _=>0,⟨#[],args,[]⟩,World.laidAll_os _ _ _,World.shaped_of_ZipB M N,(Input.okWide_of_okWideB (base:=0) hok).1,(Input.okWide_of_okWideB hok).2,⟨⟨ChangeSpec.pre_of_preB I,laidMet_laidAll args O hi⟩,sizedMet_of_sizedB J⟩,by simp only[Assume.holds];exact⟨by simp,by simp,fun _=>Modest.zero,by simp,by simp⟩⟩
theorem wc {P:Program} {W:World} {l:List (String×DataW Unit)} (h:laidMet P l W) {n nm:String} {d:DataW Unit} (hm:(n,.iface nm d)∈l) {ti:TypeId}
 (I:((P.globalNamed n).bind fun g=>(P.globals[g]?).map (·.type))=some ti) (hi:lG P ti=true):∃ t p,W.var? P n=some #[.iface t p]:=by
 obtain⟨ms,hi⟩:=lL hi;obtain⟨g,t,cs,fuel,p,h1,h2,h3,h4⟩:=Lib.laidMet.reads h hm;rw[h1] at I;simp only[Option.bind_some] at I;rw[h2] at I;simp only[Option.some.injEq] at I;subst I;obtain⟨f1,u,v,J,_⟩:=iface_of_trod hi h4;refine⟨u,v,h3.trans ?_⟩;rw[show cs=#[.iface u v] from by rw[←Array.toArray_toList (xs:=cs),J]]
theorem Ge {P:Program} {W:World} {l:List (String×DataW Unit)} (h:laidMet P l W) {n:String} {k:IntKind} {J:List Int} {d:DataW Unit} (hm:(n,d)∈l) (hd:d=Lib.tabData k J) {t e:TypeId} {m:Nat}
 (I:((P.globalNamed n).bind fun g=>(P.globals[g]?).map (·.type))=some t) (O:P.underlying t=some (.array m e)) (he:P.underlying e=some (.int k)) (M:P.cellsOf e=1) (N:P.cellsOf t=m) :
 W.var? P n=some (J.map fun z=>Value.int k z).toArray:=by
 subst hd;obtain⟨g,t',cs,fuel,p,h1,h2,h3,h4⟩:=Lib.laidMet.reads h hm;rw[h1] at I;simp only[Option.bind_some] at I;rw[h2] at I;simp only[Option.some.injEq] at I;subst I;rw[h3,←Lib.cells_of_tab O he M N h4]
theorem Ca {P:Program} {W:World} {l:List (String×DataW Unit)} (h:laidMet P l W) {d:DataW Unit} (h1:("internal/strconv.uint64pow10",d)∈l) (hd:d=Lib.tabData .u64 Lib.pow10Tab) {t e:TypeId} {m:Nat}
 (O:((P.globalNamed "internal/strconv.uint64pow10").bind fun g=>(P.globals[g]?).map (·.type))=some t) (U:P.underlying t=some (.array m e)) (he:P.underlying e=some (.int .u64)) (I:P.cellsOf e=1) (J:P.cellsOf t=m)
 {nm nm':String} {d1 d2:DataW Unit} (h2:("strconv.ErrSyntax",.iface nm d1)∈l) (h3:("strconv.ErrRange",.iface nm' d2)∈l) {ti:TypeId}
 (M:((P.globalNamed "strconv.ErrSyntax").bind fun g=>(P.globals[g]?).map (·.type))=some ti) (N:((P.globalNamed "strconv.ErrRange").bind fun g=>(P.globals[g]?).map (·.type))=some ti) (hi:lG P ti=true):oM P W:=
 ⟨Ge h h1 hd O U he I J,wc h h2 M hi,wc h h3 N hi⟩
end Go.Ab
namespace Go.Tb
open Go.Ab
theorem E6 {P:Program} {C:Ctx} {n:Nat} {st:St} {o:Oper} {x y:ByteArray} (h:Pu P C n st o (.d (.v (.string x)))) (e:x=y):Pu P C n st o (.d (.v (.string y))):=e▸h
def fa (u:Nat):List UInt8:=Lib.decDigits u
theorem jt {u:Nat} (h:u < 10):fa u=[UInt8.ofNat (48+u)]:=by unfold fa;rw[Lib.decDigits,dif_pos h]
theorem mS {u:Nat} (h:¬ u < 10):fa u=fa (u / 10)++[UInt8.ofNat (48+u % 10)]:=by unfold fa;rw[Lib.decDigits,dif_neg h]
theorem pL {p:Nat→Prop} (h1:∀ u,u < 10→p u) (h2:∀ u,¬ u < 10→p (u / 10)→p u):∀ u,p u:=by
 intro u
 induction u using Nat.strongRecOn with
 | _ u I=>grind
theorem rv {d:Nat} (h:d < 10):(UInt8.ofNat (48+d)).toNat=48+d:=by grind[UInt8.toNat_ofNat']
def eH (b:UInt8):Bool:=decide (48≤b.toNat) && decide (b.toNat≤57)
theorem nn:∀ u,∀ b∈fa u,eH b=true:=by
 refine pL (fun u h b hb=>?_) (fun u h I b hb=>?_)
 ·rw[jt h] at hb
  simp only[List.mem_singleton] at hb;subst hb;simp only[eH,rv h,Bool.and_eq_true,decide_eq_true_eq];omega
 ·rw[mS h] at hb
  rcases List.mem_append.1 hb with hb | hb
  ·grind
  ·simp only[List.mem_singleton] at hb
   subst hb;simp only[eH,rv (Nat.mod_lt u (show 0 < 10 by decide)),Bool.and_eq_true,decide_eq_true_eq];omega
theorem jy (u:Nat):fa u≠[]:=by
 by_cases h:u < 10;·grind[jt]
 ·rw[mS h];simp
theorem pJ:∀ u k,u < 10 ^ (k+1)→(fa u).length≤k+1:=by
 refine pL (fun u h k _=>?_) (fun u h J k I=>?_);·grind[jt]
 ·rw[mS h]
  simp only[List.length_append,List.length_singleton]
  match k,I with
  | 0,I=>simp at I;omega
  | k+1,I=>grind
def dZ (n:Int):ByteArray:=⟨(Lib.itoa n).toArray⟩
theorem kb {n:Int} (h:n < 0):Lib.itoa n=45::fa n.natAbs:=by unfold Lib.itoa fa;rw[if_pos h]
theorem ke {n:Int} (h:0≤n):Lib.itoa n=fa n.toNat:=by unfold Lib.itoa fa;rw[if_neg (by omega)]
theorem lD (n:Int):(dZ n).data.toList=Lib.itoa n:=rfl
theorem Dm {n:Int} (h:n.natAbs < 10 ^ 16):(Lib.itoa n).length≤17:=by
 rcases Int.lt_or_le n 0 with I | I
 ·rw[kb I,List.length_cons]
  have:=pJ n.natAbs 15 h;omega
 ·rw[ke I]
  have:=pJ n.toNat 15 (by omega);omega
/-! what strconv.Atoi says of a numeral -/
theorem ym:∀ (u:Nat),u < 18446744073709551616→∀ (l:List UInt8),Lib.parseUint10 0 (fa u++l)=Lib.parseUint10 u l:=by
 refine pL (fun u h hu l=>?_) (fun u h I hu l=>?_)
 ·rw[jt h]
  have h1:=rv h;simp only[List.singleton_append,Lib.parseUint10,h1];grind
 ·rw[mS h,List.append_assoc,I (by omega)]
  have h1:=rv (Nat.mod_lt u (show 0 < 10 by decide));simp only[List.singleton_append,Lib.parseUint10,h1];grind
theorem nr {u:Nat} (h:u < 18446744073709551616):Lib.parseMag (fa u)=.ok u:=by unfold Lib.parseMag;rw[if_neg (jy u)];have:=ym u h [];rw[List.append_nil] at this;exact this
theorem Dc {n:Int} (h0:-9223372036854775808≤n) (h1:n≤9223372036854775807):Lib.atoiAll (Lib.itoa n)=.ok n:=by
 rcases Int.lt_or_le n 0 with I | I
 ·rw[kb I,Lib.atoiAll_minus,nr (by omega)]
  simp only[Lib.signed];grind
 ·rw[ke I]
  obtain⟨c,r,M⟩:∃ c r,fa n.toNat=c::r:=by
   cases hd:fa n.toNat with
   | nil=>exact absurd hd (jy _)
   | cons c r=>exact⟨c,r,rfl⟩
  have J:=nn n.toNat c (by rw[M];simp);simp only[eH,Bool.and_eq_true,decide_eq_true_eq] at J;have hm:=nr (u:=n.toNat) (by omega);rw[M] at hm ⊢;rw[Lib.atoiAll_plain c r (by omega) (by omega),hm];simp only[Lib.signless];grind
def gV (s:ByteArray):Int×Bool:=
 match Lib.atoiAll s.data.toList with
 | .ok v=>if eQ v=true∧dZ v=s then (v,true) else (0,false)
 | _=>(0,false)
theorem yn {n:Int} (h:eQ n=true):gV (dZ n)=(n,true):=by have I:=h;simp only[eQ,Bool.and_eq_true,decide_eq_true_eq] at I;grind[gV,lD,Dc]
theorem Cz {s:ByteArray} {v:Int} (h:gV s=(v,true)):eQ v=true∧s=dZ v:=by unfold gV at h;grind
structure Ev where
 time:Int
 kind:Int
 name:ByteArray
 n:Int
 m:Int
 stack:List ByteArray
@[reducible] def Ck (l:List ByteArray):List (List D):=l.map sc
@[reducible] def Ev.c (e:Ev):List D:=[ci e.time,ci e.kind,cs e.name,ci e.n,ci e.m,.sl (Ck e.stack)]
structure wF where
 word:ByteArray
 name:Bool
 n:Bool
 m:Bool
 stack:Bool
 least:Int
 most:Int
 mLeast:Int
 mMost:Int
@[reducible] def wF.c (f:wF):List D:=[cs f.word,.v (.bool f.name),.v (.bool f.n),.v (.bool f.m),.v (.bool f.stack),ci f.least,ci f.most,ci f.mLeast,ci f.mMost]
def Av:wF:=⟨B #[],false,false,false,false,0,0,0,0⟩
def ya:List wF:=[Av,
 ⟨B #[98,101,103,105,110],true,false,false,false,0,0,0,0⟩,
 ⟨B #[101,110,100],false,false,false,false,0,0,0,0⟩,
 ⟨B #[109,97,114,107],true,false,false,false,0,0,0,0⟩,
 ⟨B #[99,111,117,110,116],true,true,false,false,-1000000000000000,1000000000000000,0,0⟩,
 ⟨B #[115,97,109,112,108,101],false,true,false,true,1,1000000000000,0,0⟩,
 ⟨B #[115,101,110,100],false,true,false,false,0,1000000000000000,0,0⟩,
 ⟨B #[114,101,99,118],false,true,false,false,0,1000000000000000,0,0⟩,
 ⟨B #[114,117,110],false,true,false,false,0,63,0,0⟩,
 ⟨B #[115,116,111,112],false,true,true,false,0,3,0,1000000000000000⟩,
 ⟨B #[119,97,107,101],false,true,false,false,0,1000000000000000,0,0⟩,
 ⟨B #[97,108,108,111,99],false,true,true,true,0,1000000000000000,1,1000000000000⟩,
 ⟨B #[102,114,101,101],false,true,false,false,0,1000000000000000,0,0⟩]
def dq (k:Int):wF:=if k < 1∨13≤k then Av else ya.getD k.toNat Av
def pH (k:Int):Bool:=decide (1≤k) && decide (k < 13)
def gR (l:List ByteArray):Int:=if 32 < l.length then 7 else if l.any (fun s=>decide (cY s≠0)) then 3 else 0
def mB (f:wF) (e:Ev):Int:=if f.name then cY e.name else gR e.stack
def dN (e:Ev):Int:=
 if e.time < 0∨1000000000000 < e.time then 2
 else if pH e.kind=false∨((dq e.kind).name=false∧e.name≠B #[])∨((dq e.kind).n=false∧e.n≠0)∨((dq e.kind).m=false∧e.m≠0)∨((dq e.kind).stack=false∧0 < e.stack.length) then 1
 else if mB (dq e.kind) e≠0 then mB (dq e.kind) e
 else if (dq e.kind).n=true∧(e.n < (dq e.kind).least∨(dq e.kind).most < e.n) then 2
 else if e.kind=9∧e.n≠2∧e.m≠0 then 1
 else if (dq e.kind).m=true∧(e.m < (dq e.kind).mLeast∨(dq e.kind).mMost < e.m)∧(e.kind≠9∨e.n=2) then 2
 else 0
/-! the reference's way -/
theorem kinds {k:Int} (h1:1≤k) (h2:k < 13):k=1∨k=2∨k=3∨k=4∨k=5∨k=6∨k=7∨k=8∨k=9∨k=10∨k=11∨k=12:=by omega
section
variable {P:Program} {T:cn P} {l:List D}
theorem D9 {t a b c d e g:Nat} {J M N O U og:Nat} {X nb nc nd ne ng:String} (h:cX T t l) (hk:cN T t=.st [(J,a,X),(M,b,nb),(N,c,nc),(O,d,nd),(U,e,ne),(og,g,ng)]) :
 ∃ p q r s u v,l=p++(q++(r++(s++(u++v))))∧cX T a p∧cX T b q∧cX T c r∧cX T d s∧cX T e u∧cX T g v:=by
 obtain⟨ps,rfl,hl,I⟩:=h.AW hk
 match ps,hl with
 | [p,q,r,s,u,v],_=>exact⟨p,q,r,s,u,v,by simp,I 0 _ _ _ p rfl rfl,I 1 _ _ _ q rfl rfl,I 2 _ _ _ r rfl rfl,I 3 _ _ _ s rfl rfl,I 4 _ _ _ u rfl rfl,I 5 _ _ _ v rfl rfl⟩
variable {te ti tk ts tsl o1 o2 o3 o4 o5 o6:Nat} {n1 n2 n3 n4 n5 n6:String}
theorem Au (h:cX T te l) (he:cN T te=.st [(o1,ti,n1),(o2,tk,n2),(o3,ts,n3),(o4,ti,n4),(o5,ti,n5),(o6,tsl,n6)]) (hi:cN T ti=.int .i64) (I:cN T tk=.int .i64) (hs:cN T ts=.str) (hl:cN T tsl=.slice ts):∃ x:Ev,l=x.c:=by obtain⟨p,q,r,s,u,v,rfl,h1,h2,h3,h4,h5,J⟩:=D9 h he;obtain⟨a,rfl⟩:=eL h1 hi;obtain⟨b,rfl⟩:=eL h2 I;obtain⟨c,rfl⟩:=tg h3 hs;obtain⟨d,rfl⟩:=eL h4 hi;obtain⟨e,rfl⟩:=eL h5 hi;obtain⟨f,rfl⟩:=mx (f:=sc) J hl (fun x M=>tg M hs);exact⟨⟨a,b,c,d,e,f⟩,rfl⟩
end
end Go.Tb
namespace Go.Ab
def sZ:List A→Option (List D)
 | []=>some []
 | .d x::l=>match sZ l with
   | some r=>some (x::r)
   | none=>none
 | _::_=>none
def EU {P:Program} (T:cn P) (f:List (Nat×A)) (bx:List (Nat×List A)) (op:Op):Option A:=
 match jH T f bx op with
 | some a=>some a
 | none=>match op with
   | .load t x=>match aY T.l t with
     | some td=>bif td.k.agg then match av f x with
       | some (.rowd l)=>bif Nat.beq l.length td.n then some (.ag l) else none
       | some (.ptr g 0)=>match aY bx g with
         | some cells=>match sZ cells with
           | some l=>bif Nat.beq l.length td.n then some (.ag l) else none
           | none=>none
         | none=>none
       | _=>none
       else none
     | none=>none
   | _=>none
def runK {P:Program} (T:cn P) (n:Nat):Nat→List Oper→List (Nat×A)→List (Nat×List A)→Option (List Oper×List (Nat×A))
 | 0,l,f,_=>some (l,f)
 | k+1,⟨some d,op,_,_,_,none⟩::r,f,bx=>match EU T f bx op with
   | some a=>bif Nat.blt d n then runK T n k r ((d,a)::f) bx else none
   | none=>none
 | _+1,_,_,_=>none
theorem w7:∀ {l:List A} {r:List D},sZ l=some r→l=r.map A.d
 | [],r,h=>by simp only[sZ,Option.some.injEq] at h;subst h;rfl
 | a::l,r,h=>by
   cases a with
   | d x=>
     simp only[sZ] at h
     cases hl:sZ l with
     | none=>rw[hl] at h;cases h
     | some I=>rw[hl] at h;cases h;rw[w7 hl];rfl
   | _=>simp[sZ] at h
section
variable {P:Program} (T:cn P) {C:Ctx} {n:Nat} {ops:Array Oper} {Q:Exit→St→Prop} {bx:List (Nat×List A)} {lv:List Nat} {gen:Nat}
theorem G8 {f:List (Nat×A)} {op:Op} {a:A} {dst:Option Nat} {ty:TypeId} {pos:String} {af:Array Edge} (he:EU T f bx op=some a):Pu P C n ⟨f,bx,lv,gen⟩ ⟨dst,op,ty,pos,af,none⟩ a:=by
 unfold EU at he;split at he
 ·rename_i a' h1
  cases he;exact ev T h1
 ·split at he
  ·rename_i t x
   split at he
   ·rename_i td N
    cases I:td.k.agg with
    | false=>rw[I] at he;cases he
    | true=>
      rw[I] at he;simp only[cond_true] at he;split at he
      ·rename_i J M
       cases hl:Nat.beq J.length td.n with
       | false=>rw[hl] at he;cases he
       | true=>rw[hl] at he;cases he;exact eG T N I M (Nat.eq_of_beq_eq_true hl)
      ·rename_i g M
       split at he
       ·rename_i cells hb
        split at he
        ·rename_i J O
         cases hl:Nat.beq J.length td.n with
         | false=>rw[hl] at he;cases he
         | true=>rw[hl] at he;cases he;exact eC T N I M (by rw[←w7 O];exact hb) (Nat.eq_of_beq_eq_true hl)
        ·cases he
       ·cases he
      ·cases he
   ·cases he
  ·cases he
theorem Ei:∀ (k:Nat) {l r:List Oper} {f f':List (Nat×A)},runK T n k l f bx=some (r,f')→WO P C n ops Q r ⟨f',bx,lv,gen⟩→WO P C n ops Q l ⟨f,bx,lv,gen⟩
 | 0,l,r,f,f',h,q=>by grind[runK,Option.some.injEq,Prod.mk.injEq]
 | k+1,l,r,f,f',h,q=>by
   cases l with
   | nil=>simp[runK] at h
   | cons o l'=>
   obtain⟨dst,op,ty,pos,af,I⟩:=o
   cases dst with
   | none=>simp[runK] at h
   | some d=>
   cases I with
   | some g=>simp[runK] at h
   | none=>
   simp only[runK] at h
   cases he:EU T f bx op with
   | none=>rw[he] at h;cases h
   | some a=>
     rw[he] at h
     cases hd:Nat.blt d n with
     | false=>rw[hd] at h;cases h
     | true=>rw[hd] at h;exact pu (G8 T he) hd (Ei k h q)
theorem HU (k:Nat) {l:List Oper} {id:Nat} {f f':List (Nat×A)} (h:runK T n k l f bx=some ([],f')) (q:Q .normal ⟨f',bx,lv,gen⟩):W P C n (.region id l.toArray false) Q ⟨f,bx,lv,gen⟩:=aa (Ei T k h (ab q))
theorem Jr (k:Nat) {l:List Oper} {id:Nat} {c:Code} {f f':List (Nat×A)} (h:runK T n k l f bx=some ([],f')) (q:W P C n c Q ⟨f',bx,lv,gen⟩):W P C n (.seq (.region id l.toArray false) c) Q ⟨f,bx,lv,gen⟩:=ae (HU T k h (qs q))
end
open Go.RowKit
theorem uB (cur:Array Value) (c:List Value) (p i:Nat) (h:p+c.length≤cur.size) :
 (cur.toList.take p++c++cur.toList.drop (p+c.length)).toArray[i]? = if p≤i∧i < p+c.length then c[i - p]? else cur[i]?:=by
 grind
theorem za (cur:Array Value) (c:List Value) (p:Nat) (h:p+c.length≤cur.size):(cur.toList.take p++c++cur.toList.drop (p+c.length)).toArray.size=cur.size:=by grind
def mN (e:List D) (off:Nat) (cs:List D):List D:=e.take off++cs++e.drop (off+cs.length)
theorem DW {e cs:List D} {off:Nat} (h:off+cs.length≤e.length):(mN e off cs).length=e.length:=by simp[mN];omega
theorem Du {e cs:List D} {off i:Nat} (h:off+cs.length≤e.length):(mN e off cs)[i]? = if off≤i∧i < off+cs.length then cs[i - off]? else e[i]?:=by
 have I:(e.take off).length=off:=by simp;omega
 grind[mN]
theorem eM {tmps:Array Value} {d:Nat} {v:Value} (h:tmps[d]? = some v):tmps.setIfInBounds d v=tmps:=by grind
section
variable {C:Ctx} {n:Nat} {st:St} {G:Gh} {tmps:Array Value} {w:World}
theorem gk.len (hs:bg C n st G tmps w) {g:Nat} {r:Row} (J:G.own g=some r) {pv:Nat→Nat→Prop} {v:Value} {es:List (List D)} (h:gk w pv r v es) :
 ∃ a cap,v=.slice a es.length cap∧es.length≤cap∧es.length≤maxLen:=by
 cases r with
 | nil=>obtain⟨rfl,rfl⟩:=h;exact⟨none,0,rfl,Nat.le_refl _,by simp⟩
 | zero b=>obtain⟨rfl,rfl⟩:=h;exact⟨_,0,rfl,Nat.le_refl _,by simp⟩
 | mp b bs=>exact h.elim
 | blk b len cap sz I=>obtain⟨rfl,h2,_⟩:=h;obtain⟨_,_,_,_,_,_,_,h3,h4,_⟩:=hs.row g b len cap sz I J;exact⟨_,cap,by rw[h2],by omega,by omega⟩
theorem bg.Ga (h:bg C n st G tmps w) {g:Nat} {r:Row} (hg:G.own g=some r) {es:List (List D)} {v:Value} (hx:gk w (bM C G) r v es) (lv:List Nat) (a7:∀ J∈lv,J∈st.lv∧J≠g) :
 l4 false C n st G tmps lv es v w w:=by
 cases r with
 | mp b bs=>exact hx.elim
 | nil=>obtain⟨rfl,rfl⟩:=hx;exact h.nA (m:=false) hg ⟨.nil,0,by simp,rfl,rfl⟩ lv a7
 | zero b=>obtain⟨rfl,rfl⟩:=hx;exact h.nA (m:=false) hg ⟨.emp _ 0 (by simp),0,by simp,0,rfl⟩ lv a7
 | blk b len cap sz c1=>
   obtain⟨rfl,hlen,rfl,hl,hr⟩:=hx;obtain⟨O,b5,cl,cur,T,aj,b6,a8,b0,hz,b4,_,hone⟩:=h.row g b len cap sz 0 hg;let M:Nat→Option Row:=fun J=>if J=st.gen then some (.blk b len cap sz (len*sz)) else if J=g then none else G.own J;have c6:=h.gown g _ hg;have ch:∀ N o,bM C ⟨G.box,M⟩ N o→bM C G N o:=by
    rintro N o (hp | hp | ⟨J,U,X,a1,ad,hp,a6⟩ | ⟨J,b2,bs,lim,hp,hm,a6⟩);·exact .inl hp
    ·exact .inr (.inl hp)
    ·simp only[M] at hp
     split at hp
     ·simp only[Option.some.injEq,Row.blk.injEq] at hp
      obtain⟨rfl,rfl,rfl,rfl,rfl⟩:=hp;exact .inr (.inr (.inl ⟨g,len,cap,sz,0,hg,Nat.zero_le _⟩))
     ·split at hp
      ·grind
      ·exact .inr (.inr (.inl ⟨J,U,X,a1,ad,hp,a6⟩))
    ·simp only[M] at hp
     split at hp;·grind
     ·split at hp
      ·grind
      ·exact .inr (.inr (.inr ⟨J,b2,bs,lim,hp,hm,a6⟩))
   have hle:(bj C G st.gen w).le (bj C ⟨G.box,M⟩ (st.gen+1) w):=k9 h.fr h.fr (fun b o u hu hn=>⟨hu,fun hp=>hn (ch b o hp)⟩) (fun _ _ h=>h)
    (fun J r' ai I=>by
     simp only[M,if_neg (Nat.ne_of_lt ai)] at I;split at I;·cases I
     ·exact I) (Nat.le_succ _) (fun _ _ _ _ _ _ _ _=>rfl) (fun _ _ _ _ _=>⟨fun _ _=>rfl,fun _ _=>rfl⟩) (.refl w)
   refine⟨⟨⟨G.box,M⟩,rfl,{ size:=h.size,frame:=h.eA hle,inj:=h.inj,xold:=h.xold,kold:=h.kold,lent:=h.lent,fr:=h.fr,gcell:=h.gcell,box:=?_,gbox:=?_,live:=?_,gown:=?_,row:=?_,mrow:=?_,sub:=?_ },?_⟩⟩
   ·intro J cells hc
    obtain⟨b,cs,T,h1,h2,h3,h4,h5⟩:=h.box J cells hc;exact⟨b,cs,T,h1,h2,h3,h4,fun i u a hu ha=>(h5 i u a hu ha).mono hle⟩
   ·intro J b hb
    obtain⟨h1,h2⟩:=h.gbox J b hb;grind
   ·intro J ai
    rcases List.mem_cons.1 ai with rfl | ai
    ·grind
    ·obtain⟨h1,h2⟩:=a7 J ai
     obtain⟨r',I⟩:=h.live J h1;grind
   ·intro J r' I
    simp only[M] at I;split at I;·grind
    ·split at I
     ·grind
     ·exact Nat.lt_succ_of_lt (h.gown J r' I)
   ·intro J N U X a1 ad I
    simp only[M] at I;split at I
    ·rename_i e
     simp only[Option.some.injEq,Row.blk.injEq] at I;obtain⟨rfl,rfl,rfl,rfl,rfl⟩:=I;refine⟨⟨O.1,fun o ho=>absurd (O.2 o ho) (Nat.not_lt_zero _)⟩,b5,fun g2 cq cx c7 cy h2=>?_,cur,T,aj,b6,a8,b0,hz,b4,Nat.le_refl _,hone⟩;grind
    ·split at I
     ·grind
     ·rename_i e1 e2
      obtain⟨h4,h5,h6,h7⟩:=h.row J N U X a1 ad I;grind
   ·intro J N bs I
    have un:∀ g2 N bs,M g2=some (.mp N bs)→G.own g2=some (.mp N bs):=by grind
    obtain⟨h4,df,h5,h6⟩:=h.mrow J N bs (un _ _ _ I);grind
   ·intro J N bs c lim I hm
    have un:∀ g2 N bs,M g2=some (.mp N bs)→G.own g2=some (.mp N bs):=by grind
    obtain⟨h4,h5,h6,h7,h8⟩:=h.sub J N bs c lim (un _ _ _ I) hm;grind
   ·subst hlen
    refine .own _ _ es (ar aj a8 b0 hl (fun t ht hp=>?_) (fun i j e d hi hj=>?_)) (by simp[bj]) (fun r' I=>?_)
    ·rcases(hp:bM C ⟨G.box,M⟩ b t) with hp | ⟨J,hp⟩ | ⟨J,U,X,a1,ad,hp,a6⟩ | ⟨J,N,bs,lim,hp,cj,_⟩
     rotate_right
     ·simp only[M] at hp
      split at hp;·grind
      ·split at hp
       ·grind
       ·exact(h.sub J N bs b lim hp cj).2.2.1 g _ _ _ _ hg
     ·have:=h.xold _ _ hp;rcases O.1 with hm | hm
      ·omega
      ·grind
     ·grind
     ·grind
    ·obtain⟨u,h1,h2⟩:=hr i j e d hi hj
     rw[cz aj] at h1;exact⟨u,h1,h2.mono hle.cell⟩
    ·have b3:M st.gen=some r':=I
     simp only[M,if_true,Option.some.injEq] at b3;subst b3;exact⟨sz,hl,rfl,rfl,rfl,rfl⟩
theorem bg.Jq (h:bg C n st G tmps w) {g b len cap sz:Nat} (hg:G.own g=some (.blk b len cap sz 0)) {es:List (List D)} {v:Value} (X:gk w (bM C G) (.blk b len cap sz 0) v es) {j off:Nat} {e cs:List D} (he:es[j]? = some e)
 {I:Array Value} (hc:dD (bj C G st.gen w) I (cs.map .d)) (hle:off+cs.length≤e.length) (lv:List Nat) (aj:∀ g'∈lv,g'∈st.lv∧g'≠g) :
 ∃ cur T,w.heap[b]? = some (.cells cur T (0,0))∧(j*sz+off)+I.toList.length≤cur.size ∧
   l4 true C n st G tmps lv (es.set j (mN e off cs)) v w (w.setRow b (cur.toList.take (j*sz+off)++I.toList++cur.toList.drop ((j*sz+off)+I.toList.length)).toArray):=by
 obtain⟨rfl,hlen,_,hl,hr⟩:=X;obtain⟨a8,b3,b0,cur,T,N,a1,b4,b5,hz,b2,_,hone⟩:=h.row g b len cap sz 0 hg;have hj:j < len:=by rw[←hlen];exact(List.getElem?_eq_some_iff.1 he).1
 have a6:e.length=sz:=hl e (List.mem_of_getElem? he);have O:I.toList.length=cs.length:=by have:=hc.1;simpa using this
 have J:(j*sz+off)+I.toList.length≤cur.size:=by rw[O,a1];have h1:(j+1)*sz≤cap*sz:=Nat.mul_le_mul_right _ (by omega);rw[Nat.succ_mul] at h1;omega
 refine⟨cur,T,N,J,?_⟩;have ai:(es.set j (mN e off cs)).length=len:=by rw[List.length_set];exact hlen
 have:=h.rJ true (g:=g) (b:=b) (len:=len) (cap:=cap) (sz:=sz) (es:=es.set j (mN e off cs)) (by simpa [gI] using hg) N (za cur I.toList _ J) (lx hone fun u hu=>by obtain⟨i,hi⟩:=List.mem_iff_getElem?.1 hu;exact hc.2.1 i u (by simpa using hi)) (fun t ht=>by simp[gI] at ht) (by omega) (by omega) (fun x X=>?_) (fun i k x d hi M=>?_) lv aj
 ·rw[ai] at this
  exact this
 ·rcases List.mem_or_eq_of_mem_set X with X | rfl
  ·exact hl x X
  ·rw[DW hle];exact a6
 ·rw[List.getElem?_set] at hi
  have U:∀ i k u,cellAt w b (i*sz+k)=some u→cur[i*sz+k]? = some u:=fun i k u hu=>by rw[cz N] at hu;exact hu
  by_cases hij:j=i
  ·subst hij
   rw[if_pos rfl,if_pos (by omega)] at hi;simp only[Option.some.injEq] at hi;subst hi;rw[Du hle] at M;rw[uB cur I.toList _ _ J,O];by_cases hin:off≤k∧k < off+cs.length
   ·rw[if_pos hin] at M
    rw[if_pos (by omega)];have e1:j*sz+k - (j*sz+off)=k - off:=by omega
    rw[e1];have ad:k - off < I.size:=by have:=(List.getElem?_eq_some_iff.1 M).1;simp at O;omega
    have hu:I[k - off]? = some I[k - off]:=by simp[ad]
    have h3:=hc.2.2 (k - off) _ (.d d) hu (by rw[List.getElem?_map,M];rfl);revert h3 hu;generalize I[k - off]=u;intro hu h3
    cases h3 with
    | d h3=>exact⟨_,by rw[Array.getElem?_toList];exact hu,h3⟩
   ·rw[if_neg hin] at M
    rw[if_neg (by omega)];obtain⟨u,h1,h2⟩:=hr j k e d he M;exact⟨u,U j k u h1,h2⟩
  ·rw[if_neg hij] at hi
   obtain⟨u,h1,h2⟩:=hr i k x d hi M;have b6:i < len:=by rw[←hlen];exact(List.getElem?_eq_some_iff.1 hi).1
   have ch:k < sz:=by rw[←hl x (List.mem_of_getElem? hi)];exact(List.getElem?_eq_some_iff.1 M).1
   rw[uB cur I.toList _ _ J,O,if_neg];·exact⟨u,U i k u h1,h2⟩
   ·rintro⟨h3,h4⟩
    rcases Nat.lt_or_gt_of_ne hij with ad | a7
    ·have:(j+1)*sz≤i*sz:=Nat.mul_le_mul_right _ ad
     rw[Nat.succ_mul] at this;omega
    ·have:(i+1)*sz≤j*sz:=Nat.mul_le_mul_right _ a7
     rw[Nat.succ_mul] at this;omega
end
section
variable {P:Program} (T:cn P) {C:Ctx} {n:Nat} {tmps:Array Value} {w:World} {G:Gh} {ops:Array Oper} {Q:Exit→St→Prop} {st:St} {o:Oper} {rest:List Oper}
theorem WO.Ft (hg:o.guard=none) (hd:e7 n o.dst=true) {x y:Operand} {t e:Nat} {td I:cI} (ho:o.op=.call ⟨.builtin .append,#[x,y],#[t,t]⟩) (ht:aY T.l t=some td) (hk:td.k=.slice e) (he:aY T.l e=some I)
 {g:Nat} {es es2:List (List D)} (hx:av st.f x=some (.xs g es)) (U:g∈st.lv) {b:A} (hy:av st.f y=some b) (X:ig b=some es2) (hz:Nat.blt 0 I.n=true) (ad:Nat.blt 0 I.b=true)
 (hl:∀ (x:List D),x∈es++es2→x.length=I.n) (hb:(es.length+es2.length)*I.b≤140737488355328)
 (h:WO P C n ops Q rest (St.put { st with lv:=st.gen::bD st.lv g,gen:=st.gen+1 } o.dst (.xs st.gen (es++es2)))):WO P C n ops Q (o::rest) st:=by
 refine WO.step hg fun tmps w ⟨G,hs⟩=>?_;have hr:=hs.av hx;have ai:=iI X (hs.av hy);obtain⟨r,J⟩:=hs.live g U;generalize hv:Act.eval ⟨tmps,[]⟩ x=v at hr
 cases hr with
 | xs _ _ _ a6 h1 O=>
 have N:=O r J;obtain⟨a,cap,h2,h3,_⟩:=gk.len hs J N;obtain⟨v',w',M,⟨G',_,aj,a1⟩⟩:=oo T true hs ht hk he ⟨a,cap,h2,h3⟩ ai (.own g r J ⟨h1,N⟩) hl (Nat.le_of_ble_eq_true hz) (Nat.le_of_ble_eq_true ad) hb o.type;rw[←hv] at M;exact cL (lB ho M) ⟨_,⟨G',aj.put (cJ hd) a1⟩,h⟩
theorem W.Ir {c:Code} {d:Nat} (hl:look st.f d=some (.d (.v (.slice none 0 0)))) (hd:Nat.blt d n=true) (h:W P C n c Q (St.set { st with lv:=st.gen::st.lv,gen:=st.gen+1 } d (.xs st.gen []))):W P C n c Q st:=by
 intro tmps w ⟨G,hs⟩;obtain⟨v,N,I⟩:=hs.frame _ _ hl;cases I with | d I=>cases I with | v _ _=>
 obtain⟨⟨O,_,J,M⟩⟩:=hs.oG true st.lv (fun _ h=>h);refine h tmps w ⟨O,?_⟩;have:=J.set (d:=d) (Nat.le_of_ble_eq_true hd) M;rwa [eM N] at this
theorem aT {c:Code} {d g:Nat} {es:List (List D)} (hl:look st.f d=some (.xs g es)) (M:g∈st.lv) (hd:Nat.blt d n=true)
 (h:W P C n c Q (St.set { st with lv:=st.gen::bD st.lv g,gen:=st.gen+1 } d (.own st.gen es))):W P C n c Q st:=by
 intro tmps w ⟨G,hs⟩;obtain⟨v,X,hr⟩:=hs.frame _ _ hl;obtain⟨r,I⟩:=hs.live g M
 cases hr with
 | xs _ _ _ ad h1 J=>
 obtain⟨⟨G',_,N,O⟩⟩:=hs.Ga I (J r I) (bD st.lv g) (fun g' U=>cf U);refine h tmps w ⟨G',?_⟩;have:=N.set (d:=d) (Nat.le_of_ble_eq_true hd) O;rwa [eM X] at this
theorem Pu.xk {x:Operand} {t e:Nat} {td:cI} (O:o.op=.call ⟨.builtin .len,#[x],#[t]⟩) (U:aY T.l t=some td) (X:td.k=.slice e) {g:Nat} {es:List (List D)} (hx:av st.f x=some (.xs g es)) (M:g∈st.lv) :
 Pu P C n st o (.d (.v (.int .i64 es.length))):=by
 refine ao fun G tmps w hs=>?_;have N:=hs.av hx;obtain⟨r,I⟩:=hs.live g M;generalize hv:Act.eval ⟨tmps,[]⟩ x=v at N
 cases N with
 | xs _ _ _ ad h1 J=>
 obtain⟨a,cap,h2,_,hlen⟩:=gk.len hs I (J r I);refine⟨.int .i64 es.length,?_,.d (.v _ ?_)⟩
 ·unfold execOp
  rw[O];show Sem.run P (do let d ←resolve (Act.eval ⟨tmps,[]⟩) ⟨.builtin .len,#[x],#[t]⟩ o.type;invoke d.target d.args) w=_;simp only[resolve,List.map_toArray,List.map_cons,List.map_nil,hv,h2,Sem.run_bind,Sem.run_pure,Result.andThen_ok,invoke,builtin,Builtin.len_];simp[run_underlying (T.gv U X),goInt];rfl
 ·simp only[maxLen] at hlen
  simp[dd,IntKind.min,IntKind.max,IntKind.signed,IntKind.bits];omega
theorem Pu.uy {t e:Nat} {x X:Operand} (ho:o.op=.indexAddr t x X) {td N:cI} (ht:aY T.l t=some td) (hk:td.k=.slice e) (he:aY T.l e=some N) {g:Nat} {es:List (List D)} (hx:av st.f x=some (.xs g es)) (ai:g∈st.lv)
 {k:IntKind} {i:Int} (hi:av st.f X=some (.d (.v (.int k i)))) (h0:0≤i) {l:List D} (hl:es[i.toNat]? = some l) (hlen:l.length=N.n):Pu P C n st o (.xp g i.toNat 0 l):=by
 refine ao fun G tmps w hs=>?_;have hu:=T.gv ht hk;have O:=hs.av hx;have I:=hs.av hi;obtain⟨r,U⟩:=hs.live g ai;generalize aj:Act.eval ⟨tmps,[]⟩ X=vi at I;cases I with | d I=>cases I with | v _ _=>
 have J:i.toNat < es.length:=(List.getElem?_eq_some_iff.1 hl).1;generalize a1:Act.eval ⟨tmps,[]⟩ x=vx at O
 cases O with
 | xs _ _ _ a6 h1 ad=>
 have M:=ad r U
 cases r with
 | nil=>obtain⟨_,h2⟩:=M;rw[h2] at J;simp at J
 | zero b=>obtain⟨_,h2⟩:=M;rw[h2] at J;simp at J
 | mp b bs=>exact M.elim
 | blk b len cap sz a7=>
   obtain⟨rfl,h2,h3,h4,h5⟩:=M;have a8:sz=N.n:=by rw[←h4 _ (List.mem_of_getElem? hl),hlen]
   subst a8;refine⟨.pointer (some ⟨b,i.toNat*N.n,none⟩),?_,.xp _ g _ 0 l a6 rfl (fun r' b0=>?_)⟩
   ·unfold execOp
    rw[ho];show Sem.run P _ w=.ok _ w;have b2:0≤i∧i < (len:Int):=⟨h0,by omega⟩;simp only[aj,a1,Instr.indexAt,asIntOf,Sem.run_bind,Sem.run_pure,Result.andThen_ok,run_underlying hu,b2,and_self,if_true,T.sizeOf he];unfold Addr.add;grind
   ·have e2:r'=.blk b len cap N.n a7:=Option.some.inj ((b0:G.own g=some r').symm.trans U)
    subst e2;refine⟨rfl,by omega,by rw[Nat.zero_add];exact hlen,fun j d hj=>?_⟩;grind
theorem Pu.jP {t i:Nat} {x:Operand} (ho:o.op=.fieldAddr t x i) {I O m:Nat} (hf:qb T t i=some (I,O)) (U:ea T O=m+1) {g j off:Nat} {l:List D} (hx:av st.f x=some (.xp g j off l)) (X:g∈st.lv) (hle:I≤l.length) :
 Pu P C n st o (.xp g j (off+I) (l.drop I)):=by
 refine ao fun G tmps w hs=>?_;have hr:=hs.av hx;obtain⟨r,M⟩:=hs.live g X;generalize hv:Act.eval ⟨tmps,[]⟩ x=v at hr
 cases hr with
 | xp _ _ _ _ _ ad h1 N=>
 have J:=N r M
 cases r with
 | nil=>exact J.elim
 | zero b=>exact J.elim
 | mp b bs=>exact J.elim
 | blk b len cap sz ai=>
   obtain⟨rfl,h2,h3,h4⟩:=J;have a1:(Instr.fieldAt t (.pointer (some ⟨b,j*sz+off,none⟩)) i).run P w=.ok (.pointer (some ⟨b,j*sz+(off+I),none⟩)) w:=by have:=lj T hf U b (j*sz+off) w;grind
   refine⟨.pointer (some ⟨b,j*sz+(off+I),none⟩),?_,.xp _ g j (off+I) (l.drop I) ad rfl (fun r' aj=>?_)⟩
   ·unfold execOp
    rw[ho];show Sem.run P _ w=.ok _ w;simp_all
   ·have e2:r'=.blk b len cap sz ai:=Option.some.inj ((aj:G.own g=some r').symm.trans M)
    subst e2;refine⟨rfl,h2,by simp;omega,fun k d hk=>?_⟩;grind
theorem Pu.rN {t:Nat} {x:Operand} (ho:o.op=.load t x) {g j off:Nat} {l:List D} (hx:av st.f x=some (.xp g j off l)) (U:g∈st.lv) {a:A} (ha:lb T t l=some a):Pu P C n st o a:=by
 refine ao fun G tmps w hs=>?_;have X:=hs.av hx;obtain⟨r,ad⟩:=hs.live g U;generalize hv:Act.eval ⟨tmps,[]⟩ x=v at X
 cases X with
 | xp _ _ _ _ _ aj h1 N=>
 have I:=N r ad
 cases r with
 | nil=>exact I.elim
 | zero b=>exact I.elim
 | mp b bs=>exact I.elim
 | blk b len cap sz a1=>
   obtain⟨rfl,h2,h3,h4⟩:=I;have M:∀ k,k < l.length→∃ u,cellAt w b (j*sz+off+k)=some u:=fun k J=>by obtain⟨u,h5,_⟩:=h4 k l[k] (by simp[J]);exact⟨u,h5⟩
   have key:=mr (E:=bj C G st.gen w) T (t:=t) (a:=a) (b:=b) (off:=j*sz+off) (l:=l) (u:=fun k=>(cellAt w b (j*sz+off+k)).getD default)
    (fun k J=>by obtain⟨u,hu⟩:=M k J;show cellAt w b _=_;rw[hu];rfl) (fun k y J=>by obtain⟨u,h5,O⟩:=h4 k y J;have ai:cellAt w b (j*sz+off+k)=some u:=h5;rw[ai];exact O) ha
   obtain⟨v,h5,O⟩:=key;refine⟨v,?_,O⟩;rw[lg ho];simp_all
theorem zh {G:Gh} {tmps:Array Value} {w:World} (hs:bg C n st G tmps w) {t:TypeId} {x y:Operand} (ho:o.op=.store t x y) {g j off:Nat} {l:List D} (hx:av st.f x=some (.xp g j off l)) (b2:g∈st.lv)
 {v:Value} {es:List (List D)} (hv:bu (bj C G st.gen w) v (.xs g es)) {e:List D} (he:es[j]? = some e) (cl:off+l.length=e.length) {a:A} (ha:av st.f y=some a) {cs:List D} (hc:zC a=some cs)
 (I:ea T t=cs.length) (hz:cs.length≠0) (hle:cs.length≤l.length) :
 ∃ w',(execOp (Act.eval ⟨tmps,[]⟩) o).run P w=.ok .skip w'∧l4 true C n st G tmps (bD st.lv g) (es.set j (mN e off cs)) v w w'∧∀ N X,G.box X=some N→w'.heap[N]? = w.heap[N]?:=by
 obtain⟨r,J⟩:=hs.live g b2;have aj:=hs.av hx;generalize b3:Act.eval ⟨tmps,[]⟩ x=vx at aj
 cases hv with
 | xs _ _ _ _ _ a7=>
 cases aj with
 | xp _ _ _ _ _ _ _ ad=>
 have a1:=a7 r J;have M:=ad r J
 cases r with
 | nil=>exact M.elim
 | zero b=>exact M.elim
 | mp b bs=>exact M.elim
 | blk b len cap sz b4=>
   have b5:b4=0:=a1.2.2.1;subst b5;obtain⟨rfl,_,_,_⟩:=M;have O:=An hc (hs.av ha);obtain⟨cur,T',a8,b0,ai⟩:=hs.Jq J a1 he (off:=off) O (by omega) (bD st.lv g) (fun X b6=>cf b6);have a6:=run_storeCells_at P b (j*sz+off) T' (Act.eval ⟨tmps,[]⟩ y).cells.toList 0 cur w a8 (by simpa using b0) (fun u hu=>by obtain⟨i,hi⟩:=List.mem_iff_getElem?.1 hu;exact O.2.1 i u (by simpa using hi));obtain⟨d,U,ch⟩:∃ d,aY T.l t=some d∧d.n=cs.length:=by
    unfold ea at I;split at I;·rename_i d U;exact⟨d,U,I⟩
    ·exact absurd I.symm hz
   refine⟨_,?_,ai,fun N X cj=>setRow_other w b N _ (fun e=>(hs.row g b len cap sz 0 J).2.1 X (e▸cj))⟩;unfold execOp;rw[ho];show Sem.run P _ w=_;simp only[b3,Instr.storeAt,Instr.sureAddr,storeVar,Sem.run_bind,Sem.run_pure,Result.andThen_ok,T.sizeOf U];rw[if_neg (by rw[ch];have:=O.1;simp at this ⊢;exact this)];simp only[Nat.add_zero] at a6;simp only[a6,Result.andThen_ok]
theorem WO.ux (s:Nat) (hg:o.guard=none) (hd:e7 n o.dst=true) {t:TypeId} {x y:Operand} (ho:o.op=.store t x y) {g j off:Nat} {l:List D} (hx:av st.f x=some (.xp g j off l)) (M:g∈st.lv)
 {es:List (List D)} (hl:look st.f s=some (.xs g es)) (N:Nat.blt s n=true) {e:List D} (he:es[j]? = some e) (I:off+l.length=e.length) {a:A} (ha:av st.f y=some a) {cs:List D} (hc:zC a=some cs)
 (O:ea T t=cs.length) (hz:Nat.blt 0 cs.length=true) (hle:cs.length≤l.length)
 (h:WO P C n ops Q rest (St.put (St.set { st with lv:=st.gen::bD st.lv g,gen:=st.gen+1 } s (.xs st.gen (es.set j (mN e off cs)))) o.dst .any)):WO P C n ops Q (o::rest) st:=by
 refine WO.step hg fun tmps w ⟨G,hs⟩=>?_;obtain⟨v,hv,hr⟩:=hs.frame s _ hl;obtain⟨w',J,⟨G',_,U,X⟩,_⟩:=zh (P:=P) T hs ho hx M hr he I ha hc O (by have:=Nat.le_of_ble_eq_true hz;omega) hle;refine iE J ⟨_,⟨G',bg.put ?_ (cJ hd) (.any _)⟩,h⟩;have:=U.set (d:=s) (Nat.le_of_ble_eq_true N) X;rwa [eM hv] at this
theorem bg.zD {st':St} {M:Gh} {w':World} (hs:bg C n st G tmps w) (I:bg C n st' M tmps w') (N:st'.bx=st.bx) (X:M.box=G.box) {g0 i:Nat} {cells:List A} (hb:aY st.bx g0=some cells) {v:Value}
 (hold:∀ b cs T,G.box g0=some b→w.heap[b]? = some (.cells cs T (0,0))→cs[i]? = some v) (O:∀ b,G.box g0=some b→w'.heap[b]? = w.heap[b]?) {a':A} (hr:bu (bj C M st'.gen w') v a') :
 bg C n { st' with bx:=(g0,cells.set i a')::st'.bx } M tmps w':=by
 refine { I with box:=fun U c J=>?_ };simp only[cM] at J;split at J
 ·rename_i e
  subst e;simp only[Option.some.injEq] at J;subst J;obtain⟨b,cs,T,h1,h2,h3,h4,h5⟩:=I.box g0 cells (by rw[N];exact hb);grind
 ·exact I.box U c J
end
end Go.Ab
namespace Go.Ab
section
variable {P:Program} {C:Ctx} {n:Nat} {Q:Exit→St→Prop} {c:Code} {f:List (Nat×A)} {bx:List (Nat×List A)} {lv:List Nat} {gen:Nat}
theorem bE.elem {w:World} {pv:Nat→Nat→Prop} {v:Value} {es:List (List D)} (h:bE w pv v (.sl es)) {k j:Nat} {e:List D} {x:Value} (he:es[k]? = some e) (I:e[j]? = some (.v x)):dd x=true:=by
 cases h with
 | nil=>simp at he
 | emp=>simp at he
 | sl b off len cap sz es u hl N hm hs hu J=>have:=J k j e _ he I;generalize u k j=y at this;cases this with | v _ M=>exact M
theorem W.elem (t:Nat) {a:A} {es:List (List D)} {k j:Nat} {e:List D} {x:Value} (hl:look f t=some a) (I:ig a=some es) (he:es[k]? = some e) (J:e[j]? = some (.v x)) (h:dd x=true→W P C n c Q ⟨f,bx,lv,gen⟩):W P C n c Q ⟨f,bx,lv,gen⟩:=by intro tmps w ⟨G,hs⟩;obtain⟨v,N,M⟩:=hs.frame t a hl;exact h ((iI I M).elem he J) tmps w ⟨G,hs⟩
theorem jj (g j:Nat) {cells cells':List A} (hb:aY bx g=some cells) (hj:cells[j]? = some (.d (.v (.slice none 0 0)))) (N:cells.set j (.d (.sl []))=cells') (h:W P C n c Q ⟨f,(g,cells')::bx,lv,gen⟩):W P C n c Q ⟨f,bx,lv,gen⟩:=by
 subst N;intro tmps w ⟨G,hs⟩;refine h tmps w ⟨G,bg.EY hs hb (by simp) (fun i u a a' J I M=>?_)⟩;rw[List.getElem?_set] at I;split at I
 ·rename_i e
  subst e;rw[hj] at J;simp only[Option.some.injEq] at J;subst J;split at I
  ·simp only[Option.some.injEq] at I
   subst I;cases M with | d M=>cases M with | v _ _=>exact .d .nil
  ·grind
 ·grind
end
open Go.RowKit
section
variable {P:Program} (T:cn P) {C:Ctx} {n:Nat} {ops:Array Oper} {Q:Exit→St→Prop} {rest:List Oper}
variable {f:List (Nat×A)} {bx:List (Nat×List A)} {lv:List Nat} {gen:Nat} {d:Nat} {op:Op} {ty:TypeId} {pos:String} {af:Array Edge} {a:A} {dst:Option Nat} {c:Code}
theorem dw {lv:List Nat} {g:Nat} (h:(lv.any fun h=>Nat.beq h g)=true):g∈lv:=by grind[List.any_eq_true,Nat.eq_of_beq_eq_true]
theorem xu {x y:Operand} {t e:Nat} {td I:cI} {g:Nat} {es es2:List (List D)} {b:A} (U:av f x=some (.xs g es)) (X:av f y=some b) (J:ig b=some es2) (ht:aY T.l t=some td) (hk:td.k=.slice e) (he:aY T.l e=some I)
 (M:(lv.any fun h=>Nat.beq h g)=true) (hz:Nat.blt 0 I.n=true) (N:Nat.blt 0 I.b=true) (hd:Nat.blt d n=true) {r:List (List D)} (hr:es++es2=r) (hl:∀ (x:List D),x∈es++es2→x.length=I.n)
 (hb:(es.length+es2.length)*I.b≤140737488355328) {lv':List Nat} (O:gen::bD lv g=lv')
 (h:WO P C n ops Q rest ⟨(d,.xs gen r)::f,bx,lv',gen+1⟩):WO P C n ops Q (⟨some d,.call ⟨.builtin .append,#[x,y],#[t,t]⟩,ty,pos,af,none⟩::rest) ⟨f,bx,lv,gen⟩:=by
 subst hr;subst O;exact WO.Ft (st:=⟨f,bx,lv,gen⟩) T rfl hd rfl ht hk he U (dw M) X J hz N hl hb h
theorem xk {x:Operand} {t e:Nat} {td:cI} {g:Nat} {es:List (List D)} (J:av f x=some (.xs g es)) (M:aY T.l t=some td) (N:td.k=.slice e) (I:(lv.any fun h=>Nat.beq h g)=true) :
 Pu P C n ⟨f,bx,lv,gen⟩ ⟨dst,.call ⟨.builtin .len,#[x],#[t]⟩,ty,pos,af,none⟩ (.d (.v (.int .i64 es.length))):=
 Pu.xk (st:=⟨f,bx,lv,gen⟩) T rfl M N J (dw I)
theorem uy {t e:Nat} {x I:Operand} {td J:cI} {g:Nat} {es:List (List D)} {k:IntKind} {i:Int} {l:List D} (N:av f x=some (.xs g es)) (hi:av f I=some (.d (.v (.int k i)))) (O:aY T.l t=some td) (U:td.k=.slice e) (he:aY T.l e=some J)
 (M:(lv.any fun h=>Nat.beq h g)=true) (h0:0≤i) (hl:es[i.toNat]? = some l) (hlen:l.length=J.n) :
 Pu P C n ⟨f,bx,lv,gen⟩ ⟨dst,.indexAddr t x I,ty,pos,af,none⟩ (.xp g i.toNat 0 l):=
 Pu.uy (st:=⟨f,bx,lv,gen⟩) T rfl O U he N (dw M) hi h0 hl hlen
theorem jP {t i:Nat} {x:Operand} {I J m:Nat} {g j off:Nat} {l:List D} (U:av f x=some (.xp g j off l)) (X:qb T t i=some (I,J)) (M:ea T J=m+1) (N:(lv.any fun h=>Nat.beq h g)=true) (hle:Nat.ble I l.length=true) {l':List D} (O:l.drop I=l') :
 Pu P C n ⟨f,bx,lv,gen⟩ ⟨dst,.fieldAddr t x i,ty,pos,af,none⟩ (.xp g j (off+I) l'):=
 O▸Pu.jP (st:=⟨f,bx,lv,gen⟩) T rfl X M U (dw N) (Nat.le_of_ble_eq_true hle)
theorem rN {t:Nat} {x:Operand} {g j off:Nat} {l:List D} (J:av f x=some (.xp g j off l)) (I:(lv.any fun h=>Nat.beq h g)=true) (M:lb T t l=some a) :
 Pu P C n ⟨f,bx,lv,gen⟩ ⟨dst,.load t x,ty,pos,af,none⟩ a:=
 Pu.rN (st:=⟨f,bx,lv,gen⟩) T rfl J (dw I) M
theorem ux (s:Nat) {t:TypeId} {x y:Operand} {g j off:Nat} {l:List D} {es:List (List D)} {e:List D} {cs:List D} (hx:av f x=some (.xp g j off l)) (hl:look f s=some (.xs g es)) (ha:av f y=some a) (hc:zC a=some cs) (he:es[j]? = some e) (J:off+l.length=e.length)
 (M:(lv.any fun h=>Nat.beq h g)=true) (N:Nat.blt s n=true) (O:ea T t=cs.length) (hz:Nat.blt 0 cs.length=true) (hle:Nat.ble cs.length l.length=true) {I:List (List D)} (U:es.set j (mN e off cs)=I) {lv':List Nat} (X:gen::bD lv g=lv')
 (h:WO P C n ops Q rest ⟨(s,.xs gen I)::f,bx,lv',gen+1⟩):WO P C n ops Q (⟨none,.store t x y,ty,pos,af,none⟩::rest) ⟨f,bx,lv,gen⟩:=by
 subst U;subst X;exact WO.ux (st:=⟨f,bx,lv,gen⟩) T s rfl rfl rfl hx (dw M) hl N he J ha hc O hz (Nat.le_of_ble_eq_true hle) h
theorem Gr (s:Nat) {g:Nat} {es:List (List D)} (hl:look f s=some (.xs g es)) (I:(lv.any fun h=>Nat.beq h g)=true) (J:Nat.blt s n=true) {lv':List Nat} (M:gen::bD lv g=lv')
 (h:W P C n c Q ⟨(s,.own gen es)::f,bx,lv',gen+1⟩):W P C n c Q ⟨f,bx,lv,gen⟩:=by
 subst M;exact aT (st:=⟨f,bx,lv,gen⟩) hl (dw I) J h
theorem iy (s:Nat) {a a':A} {l:List Oper} (hl:look f s=some a) (I:Nat.blt s n=true) (J:Ab.uZ a=a') (h:WO P C n ops Q l ⟨(s,a')::f,bx,lv,gen⟩):WO P C n ops Q l ⟨f,bx,lv,gen⟩:=by subst J;intro tmps w ⟨G,hs⟩;obtain⟨v,M,N⟩:=hs.frame s _ hl;refine h tmps w ⟨G,?_⟩;have:=hs.set (d:=s) (Nat.le_of_ble_eq_true I) N.uZ;rwa [eM M] at this
theorem bg.cellAt {st:St} {G:Gh} {tmps:Array Value} {w:World} (hs:bg C n st G tmps w) {g0 i:Nat} {cells:List A} (hb:aY st.bx g0=some cells) {x:A} (hi:cells[i]? = some x) :
 ∃ v,bu (bj C G st.gen w) v x∧∀ b cs I,G.box g0=some b→w.heap[b]? = some (.cells cs I (0,0))→cs[i]? = some v:=by
 obtain⟨b,cs,I,h1,h2,h3,_,h5⟩:=hs.box g0 cells hb;have J:i < cs.size:=by rw[h3];exact(List.getElem?_eq_some_iff.1 hi).1
 have M:cs[i]? = some cs[i]:=by simp[J]
 grind
theorem FB {t e len:Nat} {parts:Array (Nat×Operand)} {td ed:cI} {es:List (List D)} (ht:aY T.l t=some td) (hk:td.k=.slice e) (he:aY T.l e=some ed) (hes:l5 f 0 parts.toList=some es) (hlen:es.length=len)
    (hz:Nat.blt 0 ed.n=true) (hsm:Nat.ble (len*ed.n) 16777216=true) (hl:pC ed.n es=true) (hpos:Nat.blt 0 len=true):Pu P C n ⟨f,bx,lv,gen⟩ ⟨dst,.buildSlice t len parts,ty,pos,af,none⟩ (.fl es):=by
  have hz:=Nat.le_of_ble_eq_true hz
  have hsm:=Nat.le_of_ble_eq_true hsm
  have hpos:=Nat.le_of_ble_eq_true hpos
  have hl:=jk hl
  intro G tmps w hs
  obtain⟨cs',hrun,hcsz,_,hget⟩:=kO T (tmps:=tmps) hs ht hk he hes hlen hz hsm hl hpos
  have hb:Below w.heap.size w (w.alloc (.cells cs' e)):=(Below.refl _ w).alloc (Nat.le_refl _) _
  obtain⟨hle,hs'⟩:=hs.gF hb
  refine cL (v:=.slice (some ⟨w.heap.size,0,none⟩) len len) (w':=w.alloc (.cells cs' e)) ?_ ⟨hb,.fl _ _ ?_ ⟨_,by rw[hlen]⟩⟩
  · unfold execOp
    simp_all
  · have:=ar (w:=w.alloc (.cells cs' e)) (pv:=bM C G) (b:=w.heap.size) (cap:=len) (sz:=ed.n) (es:=es) (heap_alloc_new w _) (by omega) (by simp only[maxLen];have:len≤len*ed.n:=Nat.le_mul_of_pos_right _ hz;omega) hl
      (fun t _ hp=>by have:=uI hs hp;omega) (fun k j e' d hk hj=>by obtain⟨u,h1,h2⟩:=hget k j e' d hk hj;exact⟨u,h1,h2.mono hle.cell⟩)
    rw[hlen] at this
    exact this
theorem zm {st:St} {G:Gh} {tmps:Array Value} {w:World} (h:bg C n st G tmps w) {t e:Nat} {td M:cI} (ht:aY T.l t=some td) (hk:td.k=.slice e) (he:aY T.l e=some M) {v v2:Value} {es es2:List (List D)}
 (hv:bE w (bM C G) v (.sl es)) (cy:∃ a,v=.slice a es.length es.length) (c1:bE w (bM C G) v2 (.sl es2)) (a1:0 < es2.length) (hl:∀ (x:List D),x∈es++es2→x.length=M.n) (hz:0 < M.n) (c6:0 < M.b)
 (hb:(es.length+es2.length)*M.b≤140737488355328) (ty:Nat) (ad:0 < es.length) :
 ∃ v' w',(Builtin.append_ #[t,t] ty #[v,v2]).run P w=.ok v' w'∧l4 false C n st G tmps st.lv (es++es2) v' w w':=by
 have hu:=T.gv ht hk;obtain⟨i,z,hi,a6,c7,df,a7,di,dj,_⟩:=T.info he;have gd:es.length+es2.length≤140737488355328:=Nat.le_trans (Nat.le_mul_of_pos_right _ c6) hb;have gj:es.length+es2.length≤maxLen:=by simp only[maxLen];omega
 have dt:∀ (x:List D),x∈es→x.length=M.n:=fun x hx=>hl x (List.mem_append.2 (.inl hx));have dx:∀ (x:List D),x∈es2→x.length=M.n:=fun x hx=>hl x (List.mem_append.2 (.inr hx));have J:∀ (b off:Nat) (l:List Value),(∀ (t:Nat) (u:Value),l[t]? = some u→cellAt w b (off+t)=some u)→∀ j u,l[j]? = some u→w.cell? ((⟨b,off,none⟩:Addr).add j)=some u:=by
  intro b off l hc j u hj;have:=hc j u hj;unfold Addr.add;split;·rename_i e;subst e;simpa [cellAt] using this
  ·exact this
 cases c1 with
 | nil=>simp at a1
 | emp=>simp at a1
 | sl b2 N b6 ai ec _ u2 U ei ch ej en e2=>
 cases hv with
 | nil=>simp at ad
 | emp=>simp at ad
 | sl b1 O cj cl e3 _ u1 X e4 cq e5 e6 ff=>
 obtain⟨a,ha⟩:=cy;simp only[Value.slice.injEq] at ha;obtain⟨_,_,cx⟩:=ha;obtain⟨_,_,_,news,a8,b0,fj⟩:=(bE.sl b2 N b6 ai ec es2 u2 U ei ch ej en e2).flat dx;obtain⟨_,_,_,I,aj,b3,fo⟩:=(bE.sl b1 O cj cl e3 es u1 X e4 cq e5 e6 ff).flat dt;subst X;subst U;subst cx
 have hr:=run_append_grow (P:=P) w t ty e i z hu hi df ⟨b1,O,none⟩ es.length es.length I (by rw[aj,a6]) (J b1 O I fun t u hu=>(b3 t u hu).1) ⟨b2,N,none⟩ es2.length ai news (by rw[a8,a6]) (J b2 N news fun t u hu=>(b0 t u hu).1) (by omega) (by omega)
  (growslice_fits (by omega) (by rw[c7];exact hb))
 refine⟨_,_,hr,?_⟩;have b4:=grownCap_ge w (es.length+es2.length) es.length e;have b5:=grownCap_le_maxLen w (es.length+es2.length) es.length e (by omega);have fs:z.cells.size=M.n:=by rw[←di,←a7];simp
 have e0:(es++es2).length=es.length+es2.length:=by simp
 have ft:∀ arr,Below w.heap.size w (w.drew.alloc (.cells arr e)):=fun arr=>((Below.refl _ w).drew).alloc (Nat.le_refl _) _;generalize grownCap w (es.length+es2.length) es.length e=cap at b4 b5 ⊢;rw[←e0];refine h.newRow false (ft _) (heap_alloc_new w.drew _) ?_ ?_ (by rw[e0];exact b4) b5 hz (by omega) hl ?_ (fun _=>False) st.lv fun g' gb=>⟨gb,fun h=>h⟩
 ·simp only[Array.size_append,List.size_toArray,size_zeroCells,aj,a8,fs,←Nat.add_mul]
  congr 1;rw[e0];omega
 ·have e1:∀ k,I.toArray++news.toArray++Builtin.zeroCells z.cells k=(I++news++(Builtin.zeroCells z.cells k).toList).toArray:=fun k=>by simp
  rw[e1];exact pD (fun u hu=>by obtain⟨j,hj⟩:=List.mem_iff_getElem?.1 hu;exact(b3 j u hj).2.2) (fun u hu=>by obtain⟨j,hj⟩:=List.mem_iff_getElem?.1 hu;exact(b0 j u hj).2.2) (C7 a7 dj)
 ·have e1:∀ k,I.toArray++news.toArray++Builtin.zeroCells z.cells k=(I++news++(Builtin.zeroCells z.cells k).toList).toArray:=fun k=>by simp
  rw[e1];exact rM rfl aj hl fo fj
theorem yy {x y:Operand} {t e:Nat} {td I:cI} {es es2:List (List D)} {b:A} (hx:av f x=some (.fl es)) (hy:av f y=some b) (N:ig b=some es2) (ht:aY T.l t=some td) (hk:td.k=.slice e) (he:aY T.l e=some I)
 (hz:Nat.blt 0 I.n=true) (O:Nat.blt 0 I.b=true) (hd:Nat.blt d n=true) (hp:Nat.blt 0 es.length=true) (U:Nat.blt 0 es2.length=true) {r:List (List D)} (M:es++es2=r) (hl:∀ (x:List D),x∈es++es2→x.length=I.n)
 (hb:(es.length+es2.length)*I.b≤140737488355328)
 (h:WO P C n ops Q rest ⟨(d,.own gen r)::f,bx,gen::lv,gen+1⟩):WO P C n ops Q (⟨some d,.call ⟨.builtin .append,#[x,y],#[t,t]⟩,ty,pos,af,none⟩::rest) ⟨f,bx,lv,gen⟩:=by
 subst M;refine WO.step (st:=⟨f,bx,lv,gen⟩) rfl fun tmps w ⟨G,hs⟩=>?_;have M:=hs.av hx;have X:=iI N (hs.av hy);generalize hv:Act.eval ⟨tmps,[]⟩ x=v at M
 cases M with
 | fl _ _ ad ai=>
 obtain⟨v',w',J,⟨G',_,aj,a1⟩⟩:=zm T hs ht hk he ad ai X (Nat.le_of_ble_eq_true U) hl (Nat.le_of_ble_eq_true hz) (Nat.le_of_ble_eq_true O) hb ty (Nat.le_of_ble_eq_true hp);rw[←hv] at J;exact cL (lB rfl J) ⟨_,⟨G',aj.put (dst:=some d) (cJ (dst:=some d) hd) a1⟩,h⟩
theorem ib {x y:Operand} {t e:Nat} {td I:cI} {g:Nat} {es es2:List (List D)} {b:A} (U:av f x=some (.own g es)) (X:av f y=some b) (J:ig b=some es2) (ht:aY T.l t=some td) (hk:td.k=.slice e) (he:aY T.l e=some I)
 (M:(lv.any fun h=>Nat.beq h g)=true) (hz:Nat.blt 0 I.n=true) (N:Nat.blt 0 I.b=true) (hd:Nat.blt d n=true) {r:List (List D)} (hr:es++es2=r) (hl:pC I.n (es++es2)=true) (hb:Nat.ble ((es.length+es2.length)*I.b) 140737488355328=true)
 {lv':List Nat} (O:gen::bD lv g=lv') (h:WO P C n ops Q rest ⟨(d,.own gen r)::f,bx,lv',gen+1⟩):WO P C n ops Q (⟨some d,.call ⟨.builtin .append,#[x,y],#[t,t]⟩,ty,pos,af,none⟩::rest) ⟨f,bx,lv,gen⟩:=by
 grind[vw,dw,jk,Nat.le_of_ble_eq_true]
end
end Go.Ab
namespace Go.Ab
open Go.MapKept
section
variable {α β:Type} [DecidableEq α]
def dp:List (α×β)→α→β→List (α×β)
 | [],a,b=>[(a,b)]
 | p::r,a,b=>if p.1=a then (a,b)::r else p::dp r a b
def cb (l:List (α×β)) (a:α):Option β:=(l.find? fun p=>decide (p.1=a)).map (·.2)
theorem tj (a:α):cb ([]:List (α×β)) a=none:=rfl
theorem eW (p:α×β) (r:List (α×β)) (a:α):cb (p::r) a=if p.1=a then some p.2 else cb r a:=by unfold cb;grind
theorem CT (l:List (α×β)) (a:α) (b:β):∀ x,x∈(dp l a b).map (·.1)↔x=a∨x∈l.map (·.1):=by
 induction l with
 | nil=>intro x;simp[dp]
 | cons p r I=>intro x;simp only[dp];grind
theorem oV {l:List (α×β)} (h:(l.map (·.1)).Nodup) (a:α) (b:β):((dp l a b).map (·.1)).Nodup:=by
 induction l with
 | nil=>simp[dp]
 | cons p r I=>grind[List.nodup_cons,dp,CT]
theorem iF {l:List (α×β)} {a:α} (h:∀ p∈l,p.1≠a) (b:β):dp l a b=l++[(a,b)]:=by
 induction l with
 | nil=>rfl
 | cons p r I=>simp only[dp];rw[if_neg (h p (by simp)),I (fun q J=>h q (by simp[J]))];rfl
theorem sT {l:List (α×β)} {a:α} (h:∀ p∈l,p.1≠a):cb l a=none:=by
 induction l with
 | nil=>rfl
 | cons p r I=>rw[eW,if_neg (h p (by simp)),I (fun q J=>h q (by simp[J]))]
theorem vE {l:List (α×β)} (I:(l.map (·.1)).Nodup) {j:Nat} {p:α×β} (h:l[j]? = some p) (b:β):dp l p.1 b=l.set j (p.1,b):=by
 induction l generalizing j with
 | nil=>simp at h
 | cons q r J=>
   rw[List.map_cons,List.nodup_cons] at I
   cases j with
   | zero=>simp at h;subst h;simp[dp]
   | succ j=>grind[List.mem_map_of_mem,List.mem_of_getElem?,dp]
theorem zF {l:List (α×β)} (I:(l.map (·.1)).Nodup) {j:Nat} {p:α×β} (h:l[j]? = some p):cb l p.1=some p.2:=by
 induction l generalizing j with
 | nil=>simp at h
 | cons q r J=>rw[List.map_cons,List.nodup_cons] at I;rw[eW];grind
def dO (kf:α→Value) (vf:β→D) (l:List (α×β)):List (Value×List D):=l.map fun p=>(kf p.1,[vf p.2])
end
structure jG (P:Program) (k:TypeId) {α:Type} (kf:α→Value):Prop where
 ty:∃ d,P.underlying k=some d∧∀ a,IsKey d (kf a)
 inj:∀ a b,kf a=kf b→a=b
abbrev ik (n:Int):Value:=.int .i64 n
abbrev sk (s:ByteArray):Value:=.string s
theorem eY {P:Program} {k:TypeId} (h:P.underlying k=some (.int .i64)):jG P k ik:=⟨⟨_,h,fun _=>rfl⟩,fun _ _ h=>by cases h;rfl⟩
theorem uq {P:Program} {k:TypeId} (h:P.underlying k=some .string):jG P k sk:=⟨⟨_,h,fun _=>trivial⟩,fun _ _ h=>by cases h;rfl⟩
def iB {α β:Type} (w:World) (pv:Nat→Nat→Prop) (kf:α→Value) (vf:β→D) (I:Array MapEntry) (l:List (α×β)):Prop:=
 I.size=l.length∧∀ (i:Nat) (m:MapEntry) (p:α×β),I[i]? = some m→l[i]? = some p→m.key=kf p.1∧dd (kf p.1)=true∧bE w pv m.val (vf p.2)
theorem iB.of {α β:Type} {w:World} {pv:Nat→Nat→Prop} {kf:α→Value} {vf:β→D} {b:Nat} {v:Value} {bs:List (Nat×Nat)} {l:List (α×β)} (h:mL w pv (.mp (some b) bs) v (dO kf vf l)):v=.map (some b)∧∃ I clock,w.heap[b]? = some (.map I clock)∧Go.MapKept.Stamped I clock∧iB w pv kf vf I l:=by obtain⟨h1,I,clock,h2,J,h3,h4⟩:=h;refine⟨h1,I,clock,h2,J,by rw[h3];simp[dO],fun i m p hm hp=>?_⟩;obtain⟨h5,M,N⟩:=h4 i m (kf p.1) [vf p.2] hm (by simp[dO,hp]);exact⟨h5,M,N⟩
theorem iB.to {α β:Type} {w:World} {pv:Nat→Nat→Prop} {kf:α→Value} {vf:β→D} {b:Nat} {I:Array MapEntry} {clock:Nat} {bs:List (Nat×Nat)} {l:List (α×β)} (h1:w.heap[b]? = some (.map I clock)) (J:Go.MapKept.Stamped I clock) (h:iB w pv kf vf I l):mL w pv (.mp (some b) bs) (.map (some b)) (dO kf vf l):=by refine⟨rfl,I,clock,h1,J,by rw[h.1];simp[dO],fun i m k l' hm M=>?_⟩;simp only[dO,List.getElem?_map,Option.map_eq_some_iff] at M;obtain⟨p,hp,e⟩:=M;simp only[Prod.mk.injEq] at e;obtain⟨rfl,rfl⟩:=e;obtain⟨h5,N,O⟩:=h.2 i m p hm hp;exact⟨h5,N,O⟩
end Go.Ab
namespace Go.Ab
open Go.RowKit Go.MapKept
section
variable {C:Ctx} {n:Nat} {st:St} {G:Gh} {tmps:Array Value} {w:World}
theorem bg.w9 (h:bg C n st G tmps w):∃ X,bg C n { st with lv:=st.gen::st.lv,gen:=st.gen+1 } X tmps (w.alloc (.map #[] 0)) ∧
 bu (bj C X (st.gen+1) (w.alloc (.map #[] 0))) (.map (some w.heap.size)) (.mp st.gen []):=by
 let J:Nat→Option Row:=fun g=>if g=st.gen then some (.mp (some w.heap.size) []) else G.own g;have hb:Below w.heap.size w (w.alloc (.map #[] 0)):=(Below.refl _ w).alloc (Nat.le_refl _) _;have N:(w.alloc (.map #[] 0)).heap[w.heap.size]? = some (.map #[] 0):=heap_alloc_new w _
 obtain⟨_,ad⟩:=h.grow hb J (st.gen+1) (st.gen::st.lv) (Nat.le_succ _) (fun g r M I=>by simpa [J,Nat.ne_of_lt M] using I)
  (fun g r I=>by
   simp only[J] at I;split at I;·omega
   ·exact Nat.lt_succ_of_lt (h.gown g r I))
  (fun g M=>by
   rcases List.mem_cons.1 M with rfl | M
   ·exact⟨_,by simp[J];rfl⟩
   ·obtain⟨r,I⟩:=h.live g M
    exact⟨r,by simp only[J,if_neg (Nat.ne_of_lt (h.gown g r I))];exact I⟩)
  (fun g b len cap sz ai M I=>by
   simp only[J] at I;split at I;·cases I
   ·exact absurd (h.gown g _ I) (by omega))
  (fun g b bs M I=>by
   simp only[J] at I;split at I
   ·simp only[Option.some.injEq,Row.mp.injEq] at I
    obtain⟨rfl,rfl⟩:=I;refine⟨Nat.le_refl _,fun g' bs' O=>?_,#[],0,N⟩;simp only[J] at O;split at O;·omega
    ·have:=(h.Am O).1 _ rfl
     omega
   ·exact absurd (h.gown g _ I) (by omega))
  (fun g b bs c lim M I hm=>by
   simp only[J] at I;split at I
   ·simp only[Option.some.injEq,Row.mp.injEq] at I
    obtain⟨_,rfl⟩:=I;cases hm
   ·exact absurd (h.gown g _ I) (by omega))
 refine⟨⟨G.box,J⟩,ad,.mp _ _ _ (by simp[bj]) rfl (fun r I=>?_)⟩;have U:J st.gen=some r:=I;simp only[J,if_true,Option.some.injEq] at U;subst U;exact⟨rfl,#[],0,N,Go.MapKept.stamped_empty 0,rfl,by simp⟩
theorem bg.Cu (h:bg C n st G tmps w) {g b:Nat} {bs:List (Nat×Nat)} (hg:G.own g=some (.mp (some b) bs)) (me:Array MapEntry) (clock:Nat) (dx:Stamped me clock) {es:List (Value×List D)} (ec:me.size=es.length)
 (dt:∀ (i:Nat) (m:MapEntry) (k:Value) (l:List D),me[i]? = some m→es[i]? = some (k,l)→m.key=k∧dd k=true∧yE w (bM C G) m.val l) (lv:List Nat) (ed:∀ I∈lv,I∈st.lv∧I≠g) :
 ∃ G':Gh,G'.box=G.box∧bg C n { st with lv:=st.gen::lv,gen:=st.gen+1 } G' tmps { w with heap:=w.heap.setIfInBounds b (.map me clock) } ∧
   bu (bj C G' (st.gen+1) { w with heap:=w.heap.setIfInBounds b (.map me clock) }) (.map (some b)) (.mp st.gen es):=by
 obtain⟨cj,c7,b5,fs,ei,a6⟩:=h.mrow g b bs hg;have cy:∀ I len cap sz c1,G.own I≠some (.blk b len cap sz c1):=fun I len cap sz c1 e=>by obtain⟨_,_,_,cur,T,h4,_⟩:=h.row I b len cap sz c1 e;rw[a6] at h4;cases h4
 obtain⟨b6,O⟩:=heap_set (o':=Obj.map me clock) a6;let N:Nat→Option Row:=fun I=>if I=st.gen then some (.mp (some b) bs) else if I=g then none else G.own I;generalize cl:({ w with heap:=w.heap.setIfInBounds b (.map me clock) }:World)=w';have e1:w'.heap=w.heap.setIfInBounds b (.map me clock):=by rw[←cl]
 have e2:w'.os=w.os:=by rw[←cl]
 have e3:w'.tape=w.tape:=by rw[←cl]
 have e4:w'.output=w.output:=by rw[←cl]
 rw[←e1] at b6 O;have df:w'.heap.size=w.heap.size:=by rw[e1];simp
 have cx:∀ o,Ab.cellAt w b o=none:=fun o=>by simp[Ab.cellAt,World.cell?,a6]
 have cq:∀ M o u,Ab.cellAt w M o=some u→Ab.cellAt w' M o=some u:=fun M o u hu=>by
  have X:M≠b:=fun e=>by subst e;rw[cx] at hu;cases hu
  rw[cw (O M X)];exact hu
 have c6:ek w w':=fun M cs T f h=>⟨cs,f,by rw[O M (fun e=>by rw[e,a6] at h;cases h)];exact h⟩;have ft:=h.gown g _ hg;have ej:∀ M o,bM C ⟨G.box,N⟩ M o→bM C G M o:=by
  rintro M o (hp | hp | ⟨I,a7,a8,b4,b0,hp,hl'⟩ | ⟨I,b2,ad,lim,hp,hm,hl'⟩);·exact .inl hp
  ·exact .inr (.inl hp)
  ·simp only[N] at hp
   split at hp;·cases hp
   ·split at hp
    ·cases hp
    ·exact .inr (.inr (.inl ⟨I,a7,a8,b4,b0,hp,hl'⟩))
  ·simp only[N] at hp
   split at hp
   ·simp only[Option.some.injEq,Row.mp.injEq] at hp
    obtain⟨rfl,rfl⟩:=hp;exact .inr (.inr (.inr ⟨g,_,bs,lim,hg,hm,hl'⟩))
   ·split at hp
    ·cases hp
    ·exact .inr (.inr (.inr ⟨I,b2,ad,lim,hp,hm,hl'⟩))
 have di:Fr C w':=⟨e2.trans h.fr.os,e3.trans h.fr.tape,e4.trans h.fr.output,by rw[df];exact h.fr.size,fun M h1 h2=>by rw[O M (fun e=>by subst e;exact cj.1.elim (fun hm=>by omega) h2)];exact h.fr.block M h1 h2,fun M o u hk hu=>cq M o u (h.fr.cells M o u hk hu),h.fr.ty.trans c6⟩;have hold:∀ I r',I < st.gen→N I=some r'→G.own I=some r'∧I≠g:=fun I r' U J=>by
  simp only[N,if_neg (Nat.ne_of_lt U)] at J;split at J;·cases J
  ·rename_i X;exact⟨J,X⟩
 have hle:(bj C G st.gen w).le (bj C ⟨G.box,N⟩ (st.gen+1) w'):=k9 h.fr di (fun M o u hu hn=>⟨cq M o u hu,fun hp=>hn (ej M o hp)⟩) (fun _ _ h=>h)
  (fun I r' U J=>(hold I r' U J).1) (Nat.le_succ _) (fun I M a7 a8 b4 b0 U J=>O M (fun e=>by subst e;exact cy _ _ _ _ _ (hold I _ U J).1)) (fun I M bs' U J=>by obtain⟨h1,h2⟩:=hold I _ U J;refine⟨fun c hc=>by subst hc;exact O c (fun e=>by subst e;exact h2 (b5 I bs' h1)),fun p hp=>O p.1 (fun e=>?_)⟩;obtain⟨_,_,_,_,cur,T,h3,_⟩:=h.sub I M bs' p.1 p.2 h1 hp;rw[e,a6] at h3;cases h3) c6
 refine⟨⟨G.box,N⟩,rfl,{ size:=h.size,frame:=h.eA hle,inj:=h.inj,xold:=h.xold,kold:=h.kold,lent:=h.lent,fr:=di,gcell:=fun I M en=>lX c6 (h.gcell I M en),box:=?_,gbox:=?_,live:=?_,gown:=?_,row:=?_,mrow:=?_,sub:=?_ },?_⟩
 ·intro I cells hc
  obtain⟨M,cs,T',h1,h2,h3,h4,h5⟩:=h.box I cells hc;have:M≠b:=fun e=>c7 I (by rw[←e];exact h1);exact⟨M,cs,T',h1,by rw[O M this];exact h2,h3,h4,fun i u a hu ha=>(h5 i u a hu ha).mono hle⟩
 ·intro I M hb
  obtain⟨h1,h2,h3⟩:=h.gbox I M hb;exact⟨Nat.lt_succ_of_lt h1,by rw[df];exact h2,h3⟩
 ·intro I U
  rcases List.mem_cons.1 U with rfl | U
  ·exact⟨_,by simp[N];rfl⟩
  ·obtain⟨h1,h2⟩:=ed I U
   obtain⟨r',J⟩:=h.live I h1;exact⟨r',by simp only[N,if_neg (Nat.ne_of_lt (h.gown I r' J)),if_neg h2];exact J⟩
 ·intro I r' J
  simp only[N] at J;split at J;·simp only;omega
  ·split at J
   ·cases J
   ·exact Nat.lt_succ_of_lt (h.gown I r' J)
 ·intro I M a7 a8 b4 b0 J
  have un:∀ g2 ai aj b3 a1,N g2=some (.blk M ai aj b3 a1)→G.own g2=some (.blk M ai aj b3 a1):=by
   intro g2 ai aj b3 a1 h2;simp only[N] at h2;split at h2;·cases h2
   ·split at h2
    ·cases h2
    ·exact h2
  obtain⟨h4,h5,h6,ch,T2,h7,h8⟩:=h.row I M a7 a8 b4 b0 (un I a7 a8 b4 b0 J);have X:M≠b:=fun e=>by subst e;exact cy _ _ _ _ _ (un I a7 a8 b4 b0 J)
  exact⟨h4,h5,fun g2 ai aj b3 a1 h2=>h6 g2 ai aj b3 a1 (un g2 ai aj b3 a1 h2),ch,T2,by rw[O M X];exact h7,h8⟩
 ·intro I M bs' J
  simp only[N] at J;split at J
  ·rename_i e
   simp only[Option.some.injEq,Row.mp.injEq] at J;obtain⟨rfl,rfl⟩:=J;refine⟨cj,c7,fun g2 ad h2=>?_,me,clock,b6⟩;simp only[N] at h2;split at h2;·omega
   ·split at h2
    ·cases h2
    ·rename_i e1 e2;exact absurd (b5 g2 ad h2) e2
  ·split at J
   ·cases J
   ·rename_i e1 e2
    obtain⟨h4,h5,h6,e0,e5,h7⟩:=h.mrow I M bs' J;have X:M≠b:=fun e=>by subst e;exact e2 (b5 I bs' J)
    refine⟨h4,h5,fun g2 ad h2=>?_,e0,e5,by rw[O M X];exact h7⟩;simp only[N] at h2;split at h2;·simp only[Option.some.injEq,Row.mp.injEq] at h2;exact absurd h2.1.symm X
    ·split at h2
     ·cases h2
     ·exact h6 g2 ad h2
 ·intro I M bs' c lim J hm
  have un:∀ g2 b2 ad,N g2=some (.mp b2 ad)→∃ g3,G.own g3=some (.mp b2 ad)∧((g2=st.gen∧g3=g)∨(g2≠st.gen∧g2≠g∧g3=g2)):=by
   intro g2 b2 ad h2;simp only[N] at h2;split at h2;·rename_i e;simp only[Option.some.injEq,Row.mp.injEq] at h2;obtain⟨rfl,rfl⟩:=h2;exact⟨g,hg,.inl ⟨e,rfl⟩⟩
   ·split at h2
    ·cases h2
    ·rename_i e1 e2;exact⟨g2,h2,.inr ⟨e1,e2,rfl⟩⟩
  obtain⟨g3,h3,gb⟩:=un I _ _ J;obtain⟨h4,h5,h6,h7,ch,T2,h8,h9⟩:=h.sub g3 M bs' c lim h3 hm;have X:c≠b:=fun e=>by subst e;rw[a6] at h8;cases h8
  refine⟨h4,h5,fun g2 ai aj b3 a1 h2=>?_,fun g2 b2 ad fj h2 e6=>?_,ch,T2,by rw[O c X];exact h8,h9⟩
  ·simp only[N] at h2
   split at h2;·cases h2
   ·split at h2
    ·cases h2
    ·exact h6 g2 _ _ _ _ h2
  ·obtain⟨g5,ff,fo⟩:=un g2 _ _ h2
   have:=h7 g5 _ _ _ ff e6;omega
 ·refine .mp _ _ _ (by simp[bj]) rfl (fun r hr=>?_)
  have dj:N st.gen=some r:=hr;simp only[N,if_true,Option.some.injEq] at dj;subst dj;refine⟨rfl,me,clock,b6,dx,ec,fun i m k l hm hk=>?_⟩;obtain⟨h1,h2,h3⟩:=dt i m k l hm hk;exact⟨h1,h2,h3.mono hle.cell⟩
end
section
variable {P:Program} (T:cn P)
theorem cn.wU {t k e:Nat} {d:cI} (h:aY T.l t=some d) (I:d.k=.map k e):P.underlying t=some (.map k e):=by have:=T.kd h;rw[I] at this;simp only[oW] at this;grind
def mj:Kd→Bool
 | .st _=>false
 | _=>true
variable {α β:Type} [DecidableEq α] {kf:α→Value} {vf:β→D}
theorem iB.find {w:World} {pv:Nat→Nat→Prop} {k:TypeId} (M:jG P k kf) {J:Array MapEntry} {l:List (α×β)} (h:iB w pv kf vf J l) (U:(l.map (·.1)).Nodup) (a:α) :
 ((Instr.findKey k (kf a) J.toList).run P w=.ok none w∧(∀ p∈l,p.1≠a)∧cb l a=none) ∨
   ∃ j e p,(Instr.findKey k (kf a) J.toList).run P w=.ok (some (j,e.val)) w∧J[j]? = some e∧l[j]? = some p∧p.1=a∧e.key=kf a∧cb l a=some p.2∧bE w pv e.val (vf p.2):=by
 obtain⟨d,hd,X⟩:=M.ty;have O:∀ x∈J.toList,IsKey d x.key:=by
  intro x hx;obtain⟨i,hi⟩:=List.mem_iff_getElem?.1 hx;have N:J[i]? = some x:=by simpa using hi
  have I:i < l.length:=by rw[←h.1];exact(Array.getElem?_eq_some_iff.1 N).1
  rw[(h.2 i x l[i] N (by simp[I])).1];grind
 rcases findNow_spec (X a) J.toList 0 O with ⟨h1,h2⟩ | ⟨j,e,h1,h2,h3⟩
 ·refine .inl ⟨run_findKey hd h1,?_,?_⟩
  ·intro p hp e
   obtain⟨i,hi⟩:=List.mem_iff_getElem?.1 hp;have I:i < J.size:=by rw[h.1];exact(List.getElem?_eq_some_iff.1 hi).1
   have:=(h.2 i J[i] p (by simp[I]) hi).1;grind
  ·refine sT fun p hp e=>?_
   obtain⟨i,hi⟩:=List.mem_iff_getElem?.1 hp;have I:i < J.size:=by rw[h.1];exact(List.getElem?_eq_some_iff.1 hi).1
   have:=(h.2 i J[i] p (by simp[I]) hi).1;grind
 ·have hj:J[j]? = some e:=by simpa using h2
  have I:j < l.length:=by rw[←h.1];exact(Array.getElem?_eq_some_iff.1 hj).1
  obtain⟨h4,h5,h6⟩:=h.2 j e l[j] hj (by simp[I]);have h7:(l[j]).1=a:=M.inj _ _ (h4.symm.trans h3);refine .inr ⟨j,e,l[j],?_,hj,by simp[I],h7,h3,?_,h6⟩
  ·have:=run_findKey (P:=P) (w:=w) hd h1
   grind
  ·have:=zF U (j:=j) (p:=l[j]) (by simp[I])
   grind
theorem uH {w:World} {pv:Nat→Nat→Prop} {mt k e:Nat} {td:cI} (ht:aY T.l mt=some td) (ad:td.k=.map k e) (M:jG P k kf) {b:Nat} {J:Array MapEntry} {clock:Nat} (hb:w.heap[b]? = some (.map J clock)) {l:List (α×β)}
 (U:Stamped J clock) (h:iB w pv kf vf J l) (hn:(l.map (·.1)).Nodup) (a:α) (ai:dd (kf a)=true) {v:Value} {y:β} (hv:bE w pv v (vf y)) :
 ∃ N I,(Instr.mapUpdate mt (.map (some b)) (kf a) v).run P w=.ok () { w with heap:=w.heap.setIfInBounds b (.map N I) }∧Stamped N I∧iB w pv kf vf N (dp l a y):=by
 obtain⟨d,hd,hk⟩:=M.ty;have hm:=T.wU ht ad;rcases h.find M hn a with ⟨h1,h2,_⟩ | ⟨j,en,p,h1,h2,h3,h4,h5,_,_⟩
 ·refine⟨J.push ⟨kf a,v,clock⟩,clock+1,?_,stamped_push U (fun x hx=>?_),?_⟩
  ·unfold Instr.mapUpdate
   simp only[Sem.run_bind,run_underlying hm,Result.andThen_ok,Go.MapKept.run_getObj_map hb,run_checkKey hd (hk a),h1];exact Go.MapKept.run_setObj_map _ hb
  ·obtain⟨i,hi⟩:=List.mem_iff_getElem?.1 hx
   have X:J[i]? = some x:=by simpa using hi
   have O:i < l.length:=by rw[←h.1];exact(Array.getElem?_eq_some_iff.1 X).1
   rw[(h.2 i x l[i] X (by simp[O])).1];exact fun e=>h2 l[i] (by simp) (M.inj _ _ e)
  ·rw[iF h2]
   refine⟨by simp[h.1],fun i m p hm hp=>?_⟩;rw[Array.getElem?_push] at hm;split at hm
   ·rename_i hi
    rw[List.getElem?_append_right (by rw[hi,h.1];exact Nat.le_refl _)] at hp;grind
   ·have O:i < l.length:=by rw[←h.1];exact(Array.getElem?_eq_some_iff.1 hm).1
    rw[List.getElem?_append_left O] at hp;exact h.2 i m p hm hp
 ·refine⟨J.modify j fun e=>{ e with key:=kf a,val:=v },clock,?_,stamped_modify U j _ (fun _ _=>rfl) (fun e _ he=>by rw[h2] at he;cases he;exact h5.symm),?_⟩
  ·unfold Instr.mapUpdate
   simp only[Sem.run_bind,run_underlying hm,Result.andThen_ok,Go.MapKept.run_getObj_map hb,run_checkKey hd (hk a),h1,h2,Option.map_some,Option.getD_some,h5,run_keyThatStays (hk a)];exact Go.MapKept.run_setObj_map _ hb
  ·subst h4
   rw[vE hn h3];refine⟨by simp[h.1],fun i m q hm hq=>?_⟩;rw[Array.getElem?_modify] at hm;rw[List.getElem?_set] at hq;by_cases hij:j=i;·grind
   ·rw[if_neg hij] at hm hq
    exact h.2 i m q hm hq
theorem oZ {w:World} {pv:Nat→Nat→Prop} {mt k e:Nat} {td I:cI} (ht:aY T.l mt=some td) (N:td.k=.map k e) (he:aY T.l e=some I) (M:jG P k kf) {z:β} {zx:Value} (O:I.z=[zx]) (U:mj I.k=true) (hz:bE w pv zx (vf z)) {b:Nat} {X:Array MapEntry} {clock:Nat}
 (hb:w.heap[b]? = some (.map X clock)) {l:List (α×β)} (h:iB w pv kf vf X l) (hn:(l.map (·.1)).Nodup) (a:α) (ok:Bool) :
 ∃ v,(Instr.lookup mt (.map (some b)) (kf a) ok).run P w=.ok (if ok then .tuple #[v,.bool (cb l a).isSome] else v) w∧bE w pv v (vf ((cb l a).getD z)):=by
 obtain⟨d,hd,hk⟩:=M.ty;have hm:=T.wU ht N;rcases h.find M hn a with ⟨h1,h2,h3⟩ | ⟨j,en,p,h1,h2,h3,h4,h5,h6,h7⟩
 ·obtain⟨i,J,hi,_,_,ad,ai,_,_,aj⟩:=T.info he
  have a1:J=zx:=by rw[O] at ai;cases hke:I.k <;> rw[hke] at U aj <;> cases J <;> simp_all[Value.cells,mj]
  subst a1;refine⟨J,?_,by rw[h3];exact hz⟩;unfold Instr.lookup;simp only[Sem.run_bind,run_underlying hm,Result.andThen_ok,Go.MapKept.run_getObj_map hb,Sem.run_pure,run_checkKey hd (hk a),h1,h3,Option.isSome_none];have:(zeroValue e).run P w=.ok J w:=by simp[zeroValue,typeInfo,Sem.run_bind,run_program,hi,ad,Result.andThen]
  simp_all
 ·refine⟨en.val,?_,by rw[h6];exact h7⟩
  unfold Instr.lookup;simp only[Sem.run_bind,run_underlying hm,Result.andThen_ok,Go.MapKept.run_getObj_map hb,Sem.run_pure,run_checkKey hd (hk a),h1,h6,Option.isSome_some]
end
end Go.Ab
namespace Go.Ab
open Go.RowKit
def oC (f:List (Nat×A)):Option Operand→Option Int
 | none=>some 0
 | some x=>match av f x with | some (.d (.v (.int _ v)))=>some v | _=>none
def Cx (f:List (Nat×A)) (len:Nat):Option Operand→Option Int
 | none=>some (len:Int)
 | some x=>match av f x with | some (.d (.v (.int _ v)))=>some v | _=>none
theorem bE.sub {w:World} {pv:Nat→Nat→Prop} {v:Value} {es:List (List D)} (h:bE w pv v (.sl es)) {i j sz:Nat} (hij:i≤j) (hj:j≤es.length) (hsz:∀ e∈es,e.length=sz) :
    ∃ a cap,v=.slice a es.length cap∧es.length≤cap∧bE w pv (sliced a i j cap sz) (.sl ((es.take j).drop i)):=by
  cases h with
  | nil=>
    have e1:j=0:=by simpa using hj
    subst e1
    have e2:i=0:=by omega
    subst e2
    exact⟨none,0,rfl,Nat.le_refl _,.nil⟩
  | emp a cap hm=>
    have e1:j=0:=by simpa using hj
    subst e1
    have e2:i=0:=by omega
    subst e2
    refine⟨some a,cap,rfl,Nat.zero_le _,?_⟩
    simp only[sliced,List.take_zero,List.drop_zero,Nat.sub_zero]
    split
    · exact .emp a cap hm
    · exact .emp _ cap hm
  | sl b off len cap sz' es u hl hc hm hs hu hr=>
    refine⟨_,cap,by rw[hl],by omega,?_⟩
    rcases Nat.eq_or_lt_of_le hij with e | hlt
    · subst e
      rw[show(es.take i).drop i=[] from List.drop_eq_nil_of_le (List.length_take_le _ _)]
      simp only[sliced,Nat.sub_self]
      split
      · exact .emp _ _ (by omega)
      · exact .emp _ _ (by omega)
    · have e:sz'=sz:=by
        obtain⟨x,hx⟩:∃ x,es[0]? = some x:=⟨es[0]'(by omega),by simp⟩
        grind
      subst e
      have hne:cap≠i:=by omega
      have ha:∀ (k:Nat) (x:List D),((es.take j).drop i)[k]? = some x→es[i+k]? = some x∧k < j - i:=fun k x hk=>by
        grind
      simp only[sliced,if_neg hne,Option.map_some]
      rw[show(Addr.add ⟨b,off,none⟩ (i*sz'))=⟨b,off+i*sz',none⟩ from by simp[Addr.add]]
      refine .sl b (off+i*sz') (j - i) (cap - i) sz' _ (fun k c=>u (i+k) c) ?_ (by omega) (by omega) (fun k x hk=>hs _ x (ha k x hk).1) (fun k c hk hc'=>?_) (fun k c x d hk hd=>hr _ c x d (ha k x hk).1 hd)
      · grind
      · grind
section
variable {P:Program} (T:cn P) {C:Ctx} {n:Nat}
variable {f:List (Nat×A)} {bx:List (Nat×List A)} {lv:List Nat} {gen:Nat} {ty:TypeId} {pos:String} {af:Array Edge} {dst:Option Nat} {G:Gh} {tmps:Array Value} {w:World}
theorem Ba (b:Bool) {lo hi:Option Operand} {len cap:Nat} {i j:Int} (hs:bg C n ⟨f,bx,lv,gen⟩ G tmps w) (hlo:oC f lo=some i) (hhi:Cx f len hi=some j) (h0:0≤i) (hij:i≤j) (hj:j≤len) (hc:len≤cap) :
    (Instr.sliceBounds b len cap (lo.map (Act.eval ⟨tmps,[]⟩)) (hi.map (Act.eval ⟨tmps,[]⟩)) none).run P w=.ok (i.toNat,j.toNat,cap) w:=by
  have ev:∀ (x:Operand) (v:Int),(match av f x with | some (.d (.v (.int _ v)))=>some v | _=>none)=some v→∃ k,Act.eval ⟨tmps,[]⟩ x=.int k v:=fun x v h=>by
    split at h
    · rename_i k v' hav
      simp only[Option.some.injEq] at h
      subst h
      have hr:=hs.av hav
      generalize Act.eval ⟨tmps,[]⟩ x=y at hr
      cases hr with | d hr=>cases hr with | v _ _=>exact⟨k,rfl⟩
    · grind
  have ehj:(j.toNat:Int)=j:=Int.toNat_of_nonneg (by omega)
  have hh:((match hi.map (Act.eval ⟨tmps,[]⟩) with | some v=>Instr.sliceBound v cap (if b then .sliceAcap else .sliceAlen) | none=>pure len:Sem Nat)).run P w=.ok j.toNat w:=by
    cases hi with
    | none=>
      simp only[Cx,Option.some.injEq] at hhi
      subst hhi
      simp
    | some x=>
      obtain⟨k,e⟩:=ev x j hhi
      simp only[Option.map_some,e]
      exact run_sliceBound w k j cap _ (by omega) (by omega)
  have hl:((match lo.map (Act.eval ⟨tmps,[]⟩) with | some v=>Instr.sliceBound v j.toNat (if (none:Option Value).isSome then .slice3C else .sliceB) | none=>pure 0:Sem Nat)).run P w=.ok i.toNat w:=by
    cases lo with
    | none=>
      simp only[oC,Option.some.injEq] at hlo
      subst hlo
      simp
    | some x=>
      obtain⟨k,e⟩:=ev x i hlo
      simp only[Option.map_some,e]
      exact run_sliceBound w k i j.toNat _ (by omega) (by omega)
  unfold Instr.sliceBounds
  cases hi with
  | none=>
    cases lo with
    | none=>
      simp_all
    | some x=>
      simp_all
  | some y=>
    cases lo with
    | none=>
      simp_all
    | some x=>
      simp_all
theorem oq {α:Type} {fn:α→List D} {t e:Nat} {x:Operand} {lo hi:Option Operand} {td M:cI} {a:A} {l r:List α} {i j:Int} (hx:av f x=some a) (U:ig a=some (l.map fn)) (ht:aY T.l t=some td) (hk:td.k=.slice e) (he:aY T.l e=some M)
 (hn:∀ x,(fn x).length=M.n) (X:oC f lo=some i) (ad:Cx f l.length hi=some j) (h0:0≤i) (ai:i≤j) (hj:j≤(l.length:Int)) (hr:(l.take j.toNat).drop i.toNat=r) :
 Pu P C n ⟨f,bx,lv,gen⟩ ⟨dst,.slice t x lo hi none,ty,pos,af,none⟩ (.d (.sl (r.map fn))):=by
 subst hr;refine ao fun G tmps w hs=>?_;have aj:=iI U (hs.av hx);obtain⟨a',cap,hv,I,J⟩:=aj.sub (i:=i.toNat) (j:=j.toNat) (sz:=M.n) (by omega) (by rw[List.length_map];omega) (fun y hy=>by obtain⟨z,_,rfl⟩:=List.mem_map.1 hy;exact hn z);rw[List.length_map] at hv I;have hu:=T.gv ht hk;have N:P.elem t=e:=by simp[Program.elem,hu]
 have O:P.underlying t=some (.slice (P.elem t)):=by rw[N];exact hu
 refine⟨sliced a' i.toNat j.toNat cap M.n,?_,.d (by rw[←List.map_take,←List.map_drop] at J;exact J)⟩;unfold execOp;show Sem.run P _ w=_;simp only[Sem.run_bind,run_sliceAt_slice w t _ _ _ _ O,hv,run_slice_any w t a' l.length cap O,Option.map_none,Ba (P:=P) true hs X ad h0 ai hj I,Result.andThen_ok,N,T.sizeOf he];rfl
end
end Go.Ab
namespace Go.Tb
open Go.Ab
theorem wh {l:List ByteArray} (h:gR l=0):l.length≤32∧∀ s∈l,cY s=0:=by unfold gR at h;grind
structure Good (e:Ev):Prop where
 time:0≤e.time∧e.time≤1000000000000
 kind:1≤e.kind∧e.kind < 13
 noName:(dq e.kind).name=false→e.name=B #[]
 noN:(dq e.kind).n=false→e.n=0
 noM:(dq e.kind).m=false→e.m=0
 noStack:(dq e.kind).stack=false→e.stack=[]
 name:(dq e.kind).name=true→cY e.name=0
 stack:(dq e.kind).name=false→gR e.stack=0
 n:(dq e.kind).n=true→(dq e.kind).least≤e.n∧e.n≤(dq e.kind).most
 stop:e.kind=9→e.n≠2→e.m=0
 m:(dq e.kind).m=true→(e.kind≠9∨e.n=2)→(dq e.kind).mLeast≤e.m∧e.m≤(dq e.kind).mMost
theorem vq {e:Ev} (h:dN e=0):Good e:=by
 unfold dN at h;split at h;· simp at h
 split at h;· simp at h
 split at h;· rename_i h3;exact absurd h h3
 split at h;· simp at h
 split at h;· simp at h
 split at h;· simp at h
 rename_i h1 h2 h3 h4 h5 h6;simp only[not_or] at h1 h2;obtain⟨J,M,N,O,U⟩:=h2;have X:1≤e.kind∧e.kind < 13:=by simp[pH] at J;exact J
 have I:mB (dq e.kind) e=0:=by simpa using h3
 unfold mB at I;refine⟨by omega,X,fun q=>by simp[q] at M;exact M,fun q=>by simp[q] at N;exact N,fun q=>by simp[q] at O;exact O,fun q=>by simp[q] at U;exact U,fun q=>by simpa [q] using I,fun q=>by simpa [q] using I,fun q=>by simp only[q,true_and,not_or] at h4;omega,fun q1 q2=>by simp only[q1,true_and,not_and] at h5;have:=h5 q2;simpa using this,fun q1 q2=>?_⟩;grind
theorem tW {k:Int} (h:1≤k∧k < 13):-1000000000000000≤(dq k).least∧(dq k).most≤1000000000000000∧0≤(dq k).mLeast∧(dq k).mMost≤1000000000000000∧(dq k).word.size≤6:=by rcases kinds h.1 h.2 with h | h | h | h | h | h | h | h | h | h | h | h <;> subst h <;> decide
theorem Good.JF {e:Ev} (g:Good e):eQ e.n=true:=by
 have hb:=tW g.kind
 cases h:(dq e.kind).n with
 | false=>rw[g.noN h];decide
 | true=>have:=g.n h;simp only[eQ,Bool.and_eq_true,decide_eq_true_eq];omega
theorem Good.JI {e:Ev} (g:Good e):eQ e.m=true:=by
 have hb:=tW g.kind
 cases h:(dq e.kind).m with
 | false=>rw[g.noM h];decide
 | true=>
   by_cases q:e.kind≠9∨e.n=2;·have:=g.m h q;simp only[eQ,Bool.and_eq_true,decide_eq_true_eq];omega
   ·simp only[not_or,Decidable.not_not] at q
    rw[g.stop q.1 q.2];decide
theorem xT {n:Int}:eQ n=true↔-1000000000000000≤n∧n≤1000000000000000:=by simp[eQ]
theorem AP {n:Int} (h:eQ n=true):(dZ n).size≤17:=by have h1:=xT.1 h;have h2:=Dm (n:=n) (by have:(10:Nat) ^ 16=10000000000000000:=(by decide);omega);have h3:(dZ n).size=(Lib.itoa n).length:=Array.length_toList.symm;omega
theorem Good.Hr {e:Ev} (g:Good e):eQ e.time=true:=by rw[xT];have:=g.time;omega
end Go.Tb
namespace Go.Tb
open Go.Ab
structure E8 where
 at_:Int
 cpu:Int
 word:ByteArray
 l:List Int
 e:Int
deriving DecidableEq
end Go.Tb
namespace Go.Tb
open Go.Ab
def E8.res (x:E8):A:=.tup [.d (ci x.at_),.d (ci x.cpu),.d (.v (.string x.word)),.d (.sl (x.l.map ic)),.d (ci x.e)]
abbrev wB:=List Int×List (Int×List Ev)
def BC (x:wB) (th:Int) (e:Ev):wB:=
 if th=0 then x else (if ((cb x.2 th).getD [])=[] then x.1++[th] else x.1,dp x.2 th ((cb x.2 th).getD []++[e]))
def qY (n:Nat) (x:wB):Prop:=(x.2.map (·.1)).Nodup∧x.1.length≤n∧∀ p∈x.2,p.2.length≤n
theorem qY.get {n:Nat} {x:wB} (h:qY n x) (th:Int):((cb x.2 th).getD []).length≤n:=by
 unfold cb
 cases q:x.2.find? fun p=>decide (p.1=th) with
 | none=>simp
 | some p=>simpa [q] using h.2.2 p (List.mem_of_find?_eq_some q)
theorem qY.add {n:Nat} {x:wB} (h:qY n x) (th:Int) (e:Ev):qY (n+1) (BC x th e):=by
  unfold BC
  split
  · exact⟨h.1,Nat.le_succ_of_le h.2.1,fun p hp=>Nat.le_succ_of_le (h.2.2 p hp)⟩
  · refine⟨oV h.1 _ _,?_,fun p hp=>?_⟩
    · have:=h.2.1
      grind
    · have key:∀ {l:List (Int×List Ev)} {y:List Ev},p∈dp l th y→p=(th,y)∨p∈l:=by
        intro l
        induction l with
        | nil=>intro y hp;simp[dp] at hp;exact .inl hp
        | cons q r ih=>
          intro y hp
          simp only[dp] at hp
          grind
      rcases key hp with rfl | hp
      · have:=h.get th
        grind
      · exact Nat.le_succ_of_le (h.2.2 p hp)
theorem qY.mono {n m:Nat} {x:wB} (h:qY n x) (I:n≤m):qY m x:=⟨h.1,Nat.le_trans h.2.1 I,fun p hp=>Nat.le_trans (h.2.2 p hp) I⟩
end Go.Tb
namespace Go.Ab
open Go.RowKit Go.MapKept
def Ax:A→Option D
 | .d x=>some x
 | .own _ es=>some (.sl es)
 | .fl es=>some (.sl es)
 | _=>none
theorem yx {E:En} {v:Value} {a:A} {x:D} (h:Ax a=some x) (I:bu E v a):bE E.w E.pv v x:=by cases I <;> simp only[Ax,Option.some.injEq] at h <;> first | (cases h;done) | (subst h;assumption)
def wQ {α β:Type} (w:World) (pv:Nat→Nat→Prop) (b:Nat) (kf:α→Value) (vf:β→D) (l:List (α×β)):Prop:=∃ I clock,w.heap[b]? = some (.map I clock)∧Go.MapKept.Stamped I clock∧iB w pv kf vf I l
theorem wQ.of {α β:Type} {w:World} {pv:Nat→Nat→Prop} {kf:α→Value} {vf:β→D} {b:Nat} {v:Value} {l:List (α×β)} {bs:List (Nat×Nat)} (h:mL w pv (.mp (some b) bs) v (dO kf vf l)):v=.map (some b)∧wQ w pv b kf vf l:=by obtain⟨h1,I,clock,h2,h3⟩:=iB.of h;exact⟨h1,I,clock,h2,h3⟩
theorem iB.mono {α β:Type} {w w':World} {pv I:Nat→Nat→Prop} {kf:α→Value} {vf:β→D} {J:Array MapEntry} {l:List (α×β)} (h:∀ b o u,cellAt w b o=some u→¬ pv b o→cellAt w' b o=some u∧¬ I b o) (hm:iB w pv kf vf J l):iB w' I kf vf J l:=
 ⟨hm.1,fun i m p h1 h2=>⟨(hm.2 i m p h1 h2).1,(hm.2 i m p h1 h2).2.1,(hm.2 i m p h1 h2).2.2.mono h⟩⟩
section
variable {P:Program} (T:cn P) {C:Ctx} {n:Nat} {ops:Array Oper} {Q:Exit→St→Prop} {rest:List Oper}
variable {f:List (Nat×A)} {bx:List (Nat×List A)} {lv:List Nat} {gen:Nat} {d:Nat} {ty:TypeId} {pos:String} {af:Array Edge} {dst:Option Nat}
variable {α β:Type} [DecidableEq α] {kf:α→Value} {vf:β→D}
theorem mkMap {t:TypeId} (hd:Nat.blt d n=true) (h:WO P C n ops Q rest ⟨(d,.mp gen [])::f,bx,gen::lv,gen+1⟩):WO P C n ops Q (⟨some d,.makeMap t none,ty,pos,af,none⟩::rest) ⟨f,bx,lv,gen⟩:=by refine WO.step (st:=⟨f,bx,lv,gen⟩) rfl fun tmps w ⟨G,hs⟩=>?_;obtain⟨J,I,M⟩:=hs.w9;refine cL (v:=.map (some w.heap.size)) (w':=w.alloc (.map #[] 0)) ?_ ⟨_,⟨J,I.put (dst:=some d) (cJ (dst:=some d) hd) M⟩,h⟩;unfold execOp;show Sem.run P _ w=.ok _ _;simp[Instr.makeMap,Sem.run_bind,Result.andThen]
omit [DecidableEq α] in
theorem bg.rC {st:St} {G:Gh} {tmps:Array Value} {w:World} (hs:bg C n st G tmps w) {v:Value} {g:Nat} {l:List (α×β)} (O:bu (bj C G st.gen w) v (.mp g (dO kf vf l))) (N:g∈st.lv) :
 ∃ b bs,G.own g=some (.mp (some b) bs)∧v=.map (some b)∧wQ w (bM C G) b kf vf l:=by
 obtain⟨r,J⟩:=hs.live g N
 cases O with
 | mp _ _ _ U h1 M=>
 have I:=M r J
 cases r with
 | nil=>exact I.elim
 | zero b=>exact I.elim
 | blk b len cap sz X=>exact I.elim
 | mp b bs=>
   cases b with
   | none=>exact I.elim
   | some b=>
   obtain⟨h2,h3⟩:=wQ.of (kf:=kf) (vf:=vf) I;exact⟨b,bs,J,h2,h3⟩
theorem mW (s:Nat) {mt k e:Nat} {td:cI} {m N x:Operand} {g:Nat} {l:List (α×β)} {a:α} {y:β} {xa:A} (hm:av f m=some (.mp g (dO kf vf l))) (hl:look f s=some (.mp g (dO kf vf l))) (O:av f N=some (.d (.v (kf a)))) (hx:av f x=some xa) (a7:Ax xa=some (vf y))
 (ht:aY T.l mt=some td) (a8:td.k=.map k e) (b0:jG P k kf) (U:(lv.any fun h=>Nat.beq h g)=true) (b3:Nat.blt s n=true) (hn:(l.map (·.1)).Nodup) {X:List (Value×List D)} (b4:dO kf vf (dp l a y)=X) {lv':List Nat} (b5:gen::bD lv g=lv')
 (h:WO P C n ops Q rest ⟨(s,.mp gen X)::f,bx,lv',gen+1⟩):WO P C n ops Q (⟨none,.mapUpdate mt m N x,ty,pos,af,none⟩::rest) ⟨f,bx,lv,gen⟩:=by
 subst b4;subst b5;refine WO.step (st:=⟨f,bx,lv,gen⟩) rfl fun tmps w ⟨G,hs⟩=>?_;have ad:=hs.av hm;have J:=hs.av O;have b6:=yx a7 (hs.av hx);obtain⟨vs,ch,cj⟩:=hs.frame s _ hl;generalize hv:Act.eval ⟨tmps,[]⟩ m=v at ad;generalize df:Act.eval ⟨tmps,[]⟩ N=vk at J;obtain⟨b,bs,ai,rfl,me,clock,hb,cl,cq⟩:=hs.rC ad (dw U);obtain⟨b2,cx,a1,rfl,_⟩:=hs.rC cj (dw U);obtain⟨rfl,rfl⟩:b2=b∧cx=bs:=by have:=a1.symm.trans ai;simpa using this
 cases J with | d J=>cases J with | v _ hok=>
 obtain⟨aj,I,c7,a6,M⟩:=uH T ht a8 b0 hb cl cq hn a hok b6;have h0:(execOp (Act.eval ⟨tmps,[]⟩) ⟨none,.mapUpdate mt m N x,ty,pos,af,none⟩).run P w=.ok .skip { w with heap:=w.heap.setIfInBounds b2 (.map aj I) }:=by unfold execOp;simp_all
 obtain⟨G',_,cy,c1⟩:=hs.Cu ai aj I a6 (es:=dO kf vf (dp l a y)) (by rw[M.1];simp[dO]) (fun i m k l' hm O=>by simp only[dO,List.getElem?_map,Option.map_eq_some_iff] at O;obtain⟨p,hp,e⟩:=O;simp only[Prod.mk.injEq] at e;obtain⟨rfl,rfl⟩:=e;exact M.2 i m p hm hp) (bD lv g) (fun g' c6=>cf c6);refine iE h0 ⟨_,⟨G',?_⟩,h⟩;have:=cy.set (d:=s) (Nat.le_of_ble_eq_true b3) c1;rwa [eM ch] at this
theorem jS {mt k e:Nat} {td M:cI} {m N:Operand} {g:Nat} {l:List (α×β)} {a:α} {z:β} {zx:Value} (hm:av f m=some (.mp g (dO kf vf l))) (hk:av f N=some (.d (.v (kf a))))
 (ht:aY T.l mt=some td) (O:td.k=.map k e) (he:aY T.l e=some M) (U:jG P k kf) (X:(lv.any fun h=>Nat.beq h g)=true) (ad:M.z=[zx]) (ai:mj M.k=true) (hz:∀ w pv,bE w pv zx (vf z)) (hn:(l.map (·.1)).Nodup) {r:D} (hr:vf ((cb l a).getD z)=r) :
 Pu P C n ⟨f,bx,lv,gen⟩ ⟨dst,.lookup mt m N false,ty,pos,af,none⟩ (.d r):=by
 subst hr;refine ao fun G tmps w hs=>?_;have J:=hs.av hm;have I:=hs.av hk;generalize hv:Act.eval ⟨tmps,[]⟩ m=v at J;generalize aj:Act.eval ⟨tmps,[]⟩ N=vk at I;obtain⟨b,bs,a6,rfl,me,clock,hb,a7,a1⟩:=hs.rC J (dw X);cases I with | d I=>cases I with | v _ hok=>
 obtain⟨u,h1,h2⟩:=oZ (P:=P) T ht O he U ad ai (hz _ _) hb a1 hn a false;refine⟨u,?_,.d h2⟩;unfold execOp;show Sem.run P _ w=.ok _ _;simp only[hv,aj,Sem.run_bind,h1,Result.andThen_ok,Sem.run_pure];rfl
end
structure rn (P:Program) [db P] (H:Ctx→Prop) (f:FuncId) (args:List A) (r:A) (k:Nat):Prop where
 ok:jF P f
 calls:∀ (C:Ctx) (vals:Array Value) (w:World),GC P C→C.w0=w→C.pure→H C→(∀ b o,C.x b o→b < w.heap.size)→vals.size=args.length →
  (∀ (i:Nat) (u:Value) (a:A),vals[i]? = some u→args[i]? = some a→bu (bj C G0 0 w) u a) →
  Calls P f vals w fun e w'=>∃ v G',e=.returned v∧bg C 0 ⟨[],[],List.range k,k⟩ G' #[] w'∧bu (bj C G' k w') v r
theorem rn.dQ {P:Program} (T:cn P) [db P] {H:Ctx→Prop} {f:FuncId} {fn:Func} {c:Code} {rs:List RV} {n:Nat} {args:List A} {r:A} (hf:P.funcs[f]? = some fn) (hname:(fn.name == "runtime.NumGoroutine")=false) (hb:fn.body=some c) (hn:fn.ntmps=n)
    (hr:fn.results=(rs.map RV.var).toArray) (hlen:Nat.ble args.length n=true) (h:∀ C,NB C 0→GC P C→H C→(∀ b,¬ C.fp b)→W P C n c (QV T rs r 0) ⟨hU 0 args,[],[],0⟩):rn P H f args r 0:=by
  have hlen:=Nat.le_of_ble_eq_true hlen
  refine⟨⟨fn,hf,hname,by rw[hb];rfl⟩,fun C vals w hG hw hp hH hx hsz hrep=>?_⟩
  subst hw
  refine calls_of_wp hf hb (wp_mono (qd hp.2.2.2 (h C ⟨by rw[hp.2.2.1];rfl⟩ hG hH hp.1 (vals++Array.replicate (fn.ntmps - vals.size) undef) C.w0 ⟨G0,?_⟩)) ?_)
  · refine { size:=by simp[hn];omega,frame:=fun t a ha=>?_,box:=fun g cells hc=>by simp[aY] at hc,gbox:=fun g b hb=>by simp[G0] at hb,inj:=fun g g' b hb=>by simp[G0] at hb,
             live:=fun g hg=>by simp at hg,gown:=fun g r hr=>by simp[G0] at hr,row:=fun g b len cap sz pub hr=>by simp[G0] at hr,mrow:=fun g b bs hr=>by simp[G0] at hr,sub:=fun g b bs c lim hr=>by simp[G0] at hr,gcell:=fun g b hb=>by simp[G0] at hb,xold:=fun b o hb=>⟨hx b o hb,hp.1 b⟩,kold:=fun b o hb=>absurd hb (hp.2.1 b o),lent:=fun i b hb=>by rw[hp.2.2.1] at hb;simp at hb,
             fr:=⟨rfl,rfl,rfl,Nat.le_refl _,fun _ _ _=>rfl,fun _ _ _ hb=>absurd hb (hp.2.1 _ _),ek.refl _⟩ }
    obtain⟨_,h1⟩:=gl args 0 t a ha
    have h2:t < args.length:=(List.getElem?_eq_some_iff.1 (by simpa using h1)).1
    have h3:t < vals.size:=by omega
    have h4:vals[t]? = some vals[t]:=by simp[h3]
    exact⟨vals[t],by rw[Array.getElem?_append_left h3];exact h4,hrep t _ a h4 (by simpa using h1)⟩
  · rintro e ⟨tmps,df⟩ w' ⟨hd,st,⟨G,hs⟩,he,l,order,hl,hno,hol,hnd,hov⟩
    have ho0:order=[]:=List.eq_nil_of_length_eq_zero hol
    subst ho0
    have hmain:∃ v,(results fn tmps).run P w'=.ok v w'∧∃ v_1 G',Ending.returned v=.returned v_1∧bg C 0 ⟨[],[],List.range 0,0⟩ G' #[] w'∧bu (bj C G' 0 w') v_1 r:=by
      obtain⟨vs,hvs,hvl,hvr⟩:=j9 T hs rs l hl
      refine⟨_,gE hr hvs,_,G0,rfl,?_,?_⟩
      · exact { size:=rfl,frame:=fun t a ha=>by simp[look] at ha,box:=fun g cells hc=>by simp[aY] at hc,gbox:=fun g b hb=>by simp[G0] at hb,inj:=fun g g' b hb=>by simp[G0] at hb,
                 live:=fun g hg=>by simp at hg,gown:=fun g r hr=>by simp[G0] at hr,row:=fun g b len cap sz pub hr=>by simp[G0] at hr,mrow:=fun g b bs hr=>by simp[G0] at hr,sub:=fun g b bs c lim hr=>by simp[G0] at hr,gcell:=fun g b hb=>by simp[G0] at hb,xold:=hs.xold,kold:=hs.kold,lent:=fun i b hb=>by rw[hp.2.2.1] at hb;simp at hb,fr:=hs.fr }
      · rw[←hno]
        refine aB (order:=[]) (E:=bj C G st.gen w') (E2:=bj C G0 0 w') (fun b o u hu hn=>⟨hu,fun hp=>hn (.inl ((rp C b o).1 hp))⟩) (fun g r' hg=>by simp at hg) (by simp[bj]) (kU hvl hvr)
    cases e with
    | normal=>exact⟨hd.trans hp.2.2.2,hmain⟩
    | ret=>exact⟨hd.trans hp.2.2.2,hmain⟩
    | exit _=>exact he.elim
    | goto _=>exact he.elim
    | panic _=>exact he.elim
    | outgrown=>exact he.elim
section
variable {P:Program} {C:Ctx} {n:Nat}
variable {f:List (Nat×A)} {bx:List (Nat×List A)} {lv:List Nat} {gen:Nat} {d:Nat} {ty:TypeId} {pos:String} {af:Array Edge} {dst:Option Nat}
variable {α β:Type} [DecidableEq α]
end
end Go.Ab
namespace Go.Ab
open Go.RowKit
/-! ### whatever the states are -/
section
variable {P:Program} {ops:Array Oper} {md:Region.Mode} {m:Nat} {S E:Type} (Y:Nat→E→S→Prop) (ef:Nat→E→S→S)
def gf (md:Region.Mode) (ops:Array Oper) (listed:Array Bool):Prop:=
 ∀ j I,ops[j]? = some I→listed.getD j false=true→∀ e∈I.after,Region.binds md e=true→listed.getD e.on false=true
def dW (md:Region.Mode) (ops:Array Oper):Nat→Nat→Nat→Bool
 | 0,_,_=>false
 | k+1,j,i=>cK md ops j i || (match ops[j]? with | some o=>o.after.toList.any fun e=>Region.binds md e && dW md ops k e.on i | none=>false)
theorem nf {listed:Array Bool} (M:gf md ops listed):∀ (k j i:Nat),dW md ops k j i=true→(∀ I,ops[j]? = some I→∀ e∈I.after,Region.binds md e=true→listed.getD e.on false=true)→listed.getD i false=true
 | 0,_,_,h,_=>by simp[dW] at h
 | k+1,j,i,h,hj=>by
   simp only[dW,Bool.or_eq_true] at h
   cases hoj:ops[j]? with
   | none=>grind[cK]
   | some I=>
     rcases h with h | h
     ·grind[mM]
     ·rw[hoj] at h
      obtain⟨e,he,hb⟩:=List.any_eq_true.1 h;simp only[Bool.and_eq_true] at hb;have N:e∈I.after:=by simpa using he
      have hl:=hj I hoj e N hb.1;exact nf M k e.on i hb.2 fun o U X J O=>M e.on o U hl X J O
def po (md:Region.Mode) (ops:Array Oper) (m:Nat):Bool:=(List.range ops.size).all fun j=>decide (j < m) || (List.range j).all fun i=>dW md ops ops.size j i
theorem qO {j:Nat} (h:po md ops m=true) (hm:m≤j) {i:Nat} (I:i < j) {listed:Array Bool} (O:gf md ops listed) (hj:j∈Region.ready md ops listed):listed.getD i false=true:=by obtain⟨_,U,J,N⟩:=mem_ready.1 hj;have M:j < ops.size:=(Array.getElem?_eq_some_iff.1 J).1;have h1:=List.all_eq_true.1 h j (by simpa using M);simp only[Bool.or_eq_true,decide_eq_true_eq] at h1;have h2:=List.all_eq_true.1 (h1.resolve_left (by omega)) i (by simpa using I);grind[nf]
theorem gf.add {listed:Array Bool} (N:gf md ops listed) {i:Nat} (hi:i∈Region.ready md ops listed):gf md ops (listed.setIfInBounds i true):=by
 intro j O I hl e he hb;obtain⟨_,U,M,J⟩:=mem_ready.1 hi;by_cases hji:i=j
 ·subst hji
  rw[M] at I;cases I;exact getD_set_true (J e he hb)
 ·rw[getD_set_ne false hji] at hl
  exact getD_set_true (N j O I hl e he hb)
def wz (m:Nat) (md:Region.Mode) (ops:Array Oper) (Q:S→Prop):Nat→Array Bool→S→Prop
 | 0,listed,I=>Split m ops listed∧Q I
 | fuel+1,listed,I=>Region.ready md ops listed≠[]∧∀ i∈Region.ready md ops listed,∃ e,Y i e I∧wz m md ops Q fuel (listed.setIfInBounds i true) (ef i e I)
def py (i j:Nat):Prop:=∀ e J I,Y i e I→Y j J (ef i e I)→Y j J I∧Y i e (ef j J I)∧ef j J (ef i e I)=ef i e (ef j J I)
variable {Y} {ef}
theorem B0 {Q:S→Prop} {i:Nat} {oi:Oper} {e:E} (hw:po md ops m=true) (b4:i < m) (hi:ops[i]? = some oi) :
 ∀ (fuel:Nat) (listed:Array Bool) (M:S),gf md ops listed →
   (∀ j N,ops[j]? = some N→j≠i→j < m→listed.getD j true=false→(∀ e∈N.after,Region.binds md e=true→e.on≠i)→py Y ef i j) →
   i∈Region.ready md ops listed→Y i e M→wz Y ef m md ops Q fuel (listed.setIfInBounds i true) (ef i e M)→wz Y ef m md ops Q (fuel+1) listed M:=by
 have O:∀ {listed:Array Bool},i∈Region.ready md ops listed→listed.getD i false=false:=fun I=>kZ (mem_ready.1 I).1;intro fuel
 induction fuel with
 | zero=>
   intro listed M hc _ I hy H;refine⟨fun h=>(by rw[h] at I;cases I),fun j hj=>?_⟩;by_cases hji:j=i;·subst hji;exact⟨e,hy,H⟩
   ·exfalso
    obtain⟨⟨_,h1,h2⟩,_⟩:=H;have a6:=(mem_ready.1 hj).1;by_cases U:j < m
    ·have:=h1 j U
     rw[getD_set_ne false (Ne.symm hji)] at this;rw[kZ a6] at this;cases this
    ·have:=qO hw (by omega) (show i < j by omega) hc hj
     rw[O I] at this;cases this
 | succ fuel ih=>
   intro listed M hc J I hy H;refine⟨fun h=>(by rw[h] at I;cases I),fun j hj=>?_⟩;by_cases hji:j=i;·subst hji;exact⟨e,hy,H⟩
   ·obtain⟨e',a7,H'⟩:=H.2 j (ready_mono hj hji)
    obtain⟨X,N,a8,aj⟩:=mem_ready.1 hj;have a1:∀ e∈N.after,Region.binds md e=true→e.on≠i:=fun e he hb heq=>by have h1:=aj e he hb;rw[heq,O I] at h1;cases h1
    have U:j < m:=by
     rcases Nat.lt_or_ge j m with h | h
     ·exact h
     ·have:=qO hw h (show i < j by omega) hc hj
      rw[O I] at this;cases this
    obtain⟨s1,s2,s3⟩:=J j N a8 hji U X a1 e e' M hy a7;have ad:∀ k ok,ops[k]? = some ok→k≠i→k < m→(listed.setIfInBounds j true).getD k true=false→(∀ e∈ok.after,Region.binds md e=true→e.on≠i)→py Y ef i k:=fun k ok hk b0 b2 ai b3=>by
     refine J k ok hk b0 b2 ?_ b3;by_cases hjk:j=k;·subst hjk;exact X
     ·rw[getD_set_ne true hjk] at ai;exact ai
    refine⟨e',s1,ih (listed.setIfInBounds j true) _ (hc.add hj) ad (ready_mono I (Ne.symm hji)) s2 ?_⟩;rw[Array.setIfInBounds_comm _ _ hji,←s3];exact H'
def Aj (Y:Nat→E→S→Prop) (ef:Nat→E→S→S) (Q:S→Prop):List Oper→Nat→S→Prop
 | [],_,σ=>Q σ
 | _::rest,i,σ=>∃ e,Y i e σ∧Aj Y ef Q rest (i+1) (ef i e σ)
theorem uR {Q:S→Prop} (hw:po md ops m=true)
 (M:∀ i j oi I,ops[i]? = some oi→ops[j]? = some I→i≠j→i < m→j < m→oi.apart ops I=true→(∀ e∈I.after,Region.binds md e=true→e.on≠i)→py Y ef i j) :
 ∀ (l:List Oper) (k:Nat) (listed:Array Bool) (J:S),k+l.length=m→(∀ j,j < l.length→l[j]? = ops[k+j]?)→gf md ops listed →
 listed.size=ops.size→(∀ j,j < k→listed.getD j false=true)→(∀ j,k≤j→j < ops.size→listed.getD j true=false) →
 pk md ops l.length k listed=true→Aj Y ef Q l k J→wz Y ef m md ops Q l.length listed J
 | [],k,listed,J,hk,_,_,hs,h1,h2,_,h=>⟨⟨hs,fun j hj=>h1 j (by simp at hk;omega),fun j hj N=>h2 j (by simp at hk;omega) N⟩,h⟩
 | o::l,k,listed,J,hk,hl,hc,hs,h1,h2,hB,h=>by
   have h0:ops[k]? = some o:=by simpa using (hl 0 (by simp)).symm
   have a8:k < ops.size:=(Array.getElem?_eq_some_iff.1 h0).1;simp only[List.length_cons,pk,Bool.and_eq_true] at hB;obtain⟨⟨hr,hf⟩,aj⟩:=hB;have O:k∈Region.ready md ops listed:=by simpa using hr
   obtain⟨e,hy,hK⟩:=h;have U:k < m:=by simp at hk;omega
   refine B0 hw U h0 l.length listed J hc (fun j I X ad a1 a6 ai=>M k j o I h0 X (Ne.symm ad) U a1 (Region.free_spec h0 hf j I X ad a6 ai) ai) O hy
    (uR hw M l (k+1) _ _ (by simp at hk;omega) (fun j hj=>by have:=hl (j+1) (by simpa using hj);simpa [Nat.add_assoc,Nat.add_comm 1 j] using this) (hc.add O) (by simpa using hs) (fun j hj=>?_) (fun j hj N=>?_) aj hK)
   ·rcases Nat.lt_succ_iff_lt_or_eq.1 hj with a7 | rfl
    ·exact getD_set_true (h1 j a7)
    ·simp_all
   ·rw[getD_set_ne true (by omega)]
    grind
theorem ma {Sm:S→Act→World→Prop} {Q:S→Prop} {Q':Exit→Act→World→Prop} {t:Nat}
 (M:∀ i e I act w K,Sm I act w→Y i e I→(∀ act w,Sm (ef i e I) act w→K act w)→wpOp P ops Q' i K act w)
 (N:∀ listed I act w,Sm I act w→gf md ops listed→Split m ops listed→Q I→wpAny P md ops Q' t listed act w) :
 ∀ (fuel:Nat) (listed:Array Bool) (I:S) (act:Act) (w:World),Sm I act w→gf md ops listed→wz Y ef m md ops Q fuel listed I→wpAny P md ops Q' (fuel+t) listed act w
 | 0,_,_,_,_,hs,J,h=>by rw[Nat.zero_add];exact N _ _ _ _ hs J h.1 h.2
 | fuel+1,_,_,_,_,hs,J,h=>by rw[Nat.add_right_comm];refine⟨fun h0=>absurd h0 h.1,fun i hi=>?_⟩;obtain⟨e,U,X⟩:=h.2 i hi;exact M i e _ _ _ _ hs U fun act w O=>ma M N fuel _ _ _ _ O (J.add hi) X
theorem lp {Q':Exit→Act→World→Prop} (hw:po md ops m=true) (J:∀ k,m≤k→∀ o,ops[k]? = some o→∀ e∈o.after,Region.binds md e=true→e.on < k) :
 ∀ (l:List Oper) (k:Nat) (listed:Array Bool) (act:Act) (w:World),m≤k→k+l.length=ops.size→(∀ j,l[j]? = ops[k+j]?)→gf md ops listed→listed.size=ops.size→(∀ j,j < k→listed.getD j false=true)→(∀ j,k≤j→j < ops.size→listed.getD j true=false) →
   eX P ops Q' l act w→wpAny P md ops Q' l.length listed act w
 | [],k,listed,act,w,hm,hk,_,_,hs,h1,h2,h=>by refine⟨?_,h⟩;refine List.eq_nil_iff_forall_not_mem.2 fun j hj=>?_;obtain⟨h3,oj,ai,_⟩:=mem_ready.1 hj;grind
 | o::l,k,listed,act,w,hm,hk,hl,hc,hs,h1,h2,h=>by
   have h0:ops[k]? = some o:=by simpa using (hl 0).symm
   have M:k < ops.size:=(Array.getElem?_eq_some_iff.1 h0).1;have I:k∈Region.ready md ops listed:=mem_ready.2 ⟨h2 k (Nat.le_refl _) M,o,h0,fun e he hb=>h1 _ (J k hm o h0 e he hb)⟩;refine⟨fun hn=>(by rw[hn] at I;cases I),fun i hi=>?_⟩;have O:i=k:=by
    obtain⟨h3,oi,aj,_⟩:=mem_ready.1 hi;rcases Nat.lt_trichotomy i k with N | he | U
    ·grind
    ·grind
    ·have:=qO hw (by omega) U hc hi
     grind
   subst O
   have ih:=fun act w=>lp (Q':=Q') hw J l (i+1) (listed.setIfInBounds i true) act w (by omega) (by simp at hk;omega) (fun j=>by have:=hl (j+1);simpa [Nat.add_assoc,Nat.add_comm 1 j] using this) (hc.add I) (by simpa using hs)
    (fun j hj=>by
     rcases Nat.lt_succ_iff_lt_or_eq.1 hj with N | rfl
     ·exact getD_set_true (h1 j N)
     ·simp[hs,M]) (fun j hj X=>by rw[getD_set_ne true (by omega)];exact h2 j (by omega) X)
   simp only[eX] at h;unfold wpOp;simp only[h0];split
   ·rename_i ad
    rw[if_pos ad] at h;exact .inl (Oper.wp_mono ih h)
   ·grind
end
/-! ### one operation that turns the ghost -/
theorem Oper.zO {P:Program} {o:Oper} {a:Act} {w:World} {K J:Act→World→Prop} {Q Q':Exit→Act→World→Prop} (hp:∀ c a w,¬ Q (.panic c) a w) (hL:¬ LetsOut Q) (I:∀ a w,K a w→J a w) (h:o.wp P a w K Q):o.wp P a w J Q':=by
 unfold Oper.wp at *;generalize (execOp a.eval o).run P w=r at *
 cases r with
 | ok n w'=>
   cases n <;> simp only[Oper.upon] at h ⊢ <;> first
    | exact I _ _ h
    | exact Calls.mono h (fun e M he=>by
     cases e with
     | returned v=>exact I _ _ he
     | panicked c=>exact absurd he (hp _ _ _)
     | outgrown=>exact absurd he hL)
    | exact Rows.mono h (fun _ _ he=>I _ _ he)
    | exact h
 | halt x w'=>
   cases x <;> simp only[Oper.upon] at h ⊢ <;> first
    | exact absurd h (hp _ _ _)
    | exact h
theorem Oper.vP {P:Program} {o:Oper} {a:Act} {w:World} {K J:Act→World→Prop} {Q Q':Exit→Act→World→Prop} (hp:∀ c a w,Q (.panic c) a w→Q' (.panic c) a w) (hL:¬ LetsOut Q) (I:∀ a w,K a w→J a w) (h:o.wp P a w K Q):o.wp P a w J Q':=by
 unfold Oper.wp at *;generalize (execOp a.eval o).run P w=r at *
 cases r with
 | ok n w'=>
   cases n <;> simp only[Oper.upon] at h ⊢ <;> first
    | exact I _ _ h
    | exact Calls.mono h (fun e M he=>by
     cases e with
     | returned v=>exact I _ _ he
     | panicked c=>exact hp _ _ _ he
     | outgrown=>exact absurd he hL)
    | exact Rows.mono h (fun _ _ he=>I _ _ he)
    | exact h
 | halt x w'=>
   cases x <;> simp only[Oper.upon] at h ⊢ <;> first
    | exact hp _ _ _ h
    | exact h
structure B5 where
 bx0:List (Nat×List A)
 bx1:List (Nat×List A)
 lv0:List Nat
 lv1:List Nat
 gen0:Nat
 gen1:Nat
section
variable {P:Program} {C:Ctx} {n:Nat} (S:B5) {ops:Array Oper} (c:Nat)
abbrev SC:=et×Bool
def GM (C:Ctx) (n:Nat) (S:B5) (I:SC) (act:Act) (w:World):Prop:=
 act.defers=C.ds∧∃ G,if I.2=true then eu C n S.bx1 S.lv1 S.gen1 I.1 G act.tmps w else eu C n S.bx0 S.lv0 S.gen0 I.1 G act.tmps w
def G5 (P:Program) (C:Ctx) (n:Nat) (S:B5) (ops:Array Oper) (o:Oper) (a:A) (I:et):Prop:=
 o.guard=none∧∃ p,(∀ t x,look p t=some x→I t=some x∧t∈o.looksAt ops) ∧
  ∀ g,WO P C n ops (fun e st=>e=.normal∧st=St.put ⟨p++g,S.bx1,S.lv1,S.gen1⟩ o.dst a) [o] ⟨p++g,S.bx0,S.lv0,S.gen0⟩
def YC (P:Program) (C:Ctx) (n:Nat) (S:B5) (ops:Array Oper) (c:Nat) (i:Nat) (a:A) (I:SC):Prop:=
 ∃ o,ops[i]? = some o∧e7 n o.dst=true∧((i=c∧I.2=false∧G5 P C n S ops o a I.1) ∨
   (i≠c∧(cK .any ops i c=false→YA P C n S.bx0 S.lv0 S.gen0 ops o a I.1)∧(cK .any ops c i=false→YA P C n S.bx1 S.lv1 S.gen1 ops o a I.1) ∧
    (I.2=false→cK .any ops i c=false)∧(I.2=true→cK .any ops c i=false)))
def si (ops:Array Oper) (c:Nat) (i:Nat) (a:A) (I:SC):SC:=
 match ops[i]? with
 | none=>I
 | some o=>(cg I.1 o.dst a,if i=c then true else I.2)
variable {S} {c}
theorem Ae {o:Oper} {a:A} {J:et} {dst:Option Nat} {x:A} (hd:∀ d,dst=some d→d∉o.looksAt ops):G5 P C n S ops o a (cg J dst x)↔G5 P C n S ops o a J:=by
 constructor
 ·rintro⟨h0,p,h1,h2⟩
  exact⟨h0,p,fun t y I=>⟨(ga hd (h1 t y I).2).symm.trans (h1 t y I).1,(h1 t y I).2⟩,h2⟩
 ·rintro⟨h0,p,h1,h2⟩
  exact⟨h0,p,fun t y I=>⟨(ga hd (h1 t y I).2).trans (h1 t y I).1,(h1 t y I).2⟩,h2⟩
theorem uF {j i:Nat} {I:Oper} (hj:ops[j]? = some I) (h:∀ e∈I.after,Region.binds .any e=true→e.on≠i):cK .any ops j i=false:=by grind[cK,mM]
theorem fq {i:Nat} {o:Oper} (h:ops[i]? = some o) (a:A) (I:SC):si ops c i a I=(cg I.1 o.dst a,if i=c then true else I.2):=by unfold si;rw[h]
theorem IN {i j:Nat} {J I:Oper} (hi:ops[i]? = some J) (hj:ops[j]? = some I) (b2:i≠j) (a7:J.apart ops I=true) (a8:∀ e∈I.after,Region.binds .any e=true→e.on≠i) :
 py (YC P C n S ops c) (si ops c) i j:=by
 obtain⟨U,a2,a3⟩:=Oper.apart_spec a7;have ad:=uF hj a8;rintro a b ⟨φ,ph⟩ ⟨b3,ai,di,aj⟩ ⟨b4,a6,dj,M⟩;rw[hi] at ai;cases ai;rw[hj] at a6;cases a6;rw[fq hi] at M;rw[fq hi,fq hj,fq hj,fq hi];have b0:cg (cg φ J.dst a) I.dst b=cg (cg φ I.dst b) J.dst a:=km φ a b a2;simp only at aj M ⊢;rcases aj with ⟨rfl,N,hx⟩ | ⟨O,y0,y1,y2,y3⟩
 ·
  subst N;rcases M with ⟨e,_⟩ | ⟨X,z0,z1,z2,z3⟩
  ·grind
  ·refine⟨⟨I,hj,dj,.inr ⟨X,fun h=>(dV U).1 (z0 h),fun h=>(dV U).1 (z1 h),fun _=>ad,fun h=>by cases h⟩⟩,⟨J,hi,di,.inl ⟨rfl,?_,(Ae a3).2 hx⟩⟩,?_⟩
   ·grind
   ·grind
 ·rcases M with ⟨rfl,N,hx⟩ | ⟨X,z0,z1,z2,z3⟩
  ·rw[if_neg O] at N
   subst N;refine⟨⟨I,hj,dj,.inl ⟨rfl,rfl,(Ae U).1 hx⟩⟩,⟨J,hi,di,.inr ⟨O,fun h=>(dV a3).2 (y0 h),fun h=>(dV a3).2 (y1 h),fun h=>?_,fun _=>ad⟩⟩,?_⟩;·grind
   ·grind
  ·rw[if_neg O] at z2 z3
   refine⟨⟨I,hj,dj,.inr ⟨X,fun h=>(dV U).1 (z0 h),fun h=>(dV U).1 (z1 h),z2,z3⟩⟩,⟨J,hi,di,.inr ⟨O,fun h=>(dV a3).2 (y0 h),fun h=>(dV a3).2 (y1 h),?_,?_⟩⟩,?_⟩;·grind
   ·grind
   ·grind
def e8 (n:Nat) (I:et):List (Nat×A):=(List.range n).filterMap fun t=>(I t).map fun a=>(t,a)
theorem lK (I:et):∀ (l:List Nat) (t:Nat),look (l.filterMap fun t=>(I t).map fun a=>(t,a)) t=if t∈l then I t else none
 | [],t=>rfl
 | s::l,t=>by
   rw[List.filterMap_cons]
   cases hs:I s with
   | none=>simp only[Option.map_none];rw[lK I l t];grind
   | some a=>
     simp only[Option.map_some,bU];by_cases e:s=t;·grind
     ·rw[if_neg e,lK I l t]
      grind
theorem pA (p g:List (Nat×A)) (t:Nat):look (p++g) t=match look p t with | some a=>some a | none=>look g t:=by
 induction p with
 | nil=>rfl
 | cons x p I=>grind[bU]
theorem GH (i:Nat) (a:A) (σ:SC) (act:Act) (w:World) (K:Act→World→Prop) {Q':Exit→Act→World→Prop} (hs:GM C n S σ act w) (hy:YC P C n S ops c i a σ) (U:∀ act w,GM C n S (si ops c i a σ) act w→K act w):wpOp P ops Q' i K act w:=by
 obtain⟨tmps,b0⟩:=act;obtain⟨rfl,G,hs⟩:=hs;obtain⟨I,ph⟩:=σ;obtain⟨o,ho,hd,hy⟩:=hy;rw[fq ho] at U;simp only at hs hy U;unfold wpOp;simp only[ho];rcases hy with ⟨rfl,rfl,hg,p,hp,J⟩ | ⟨aj,y0,y1,y2,y3⟩
 ·simp only[Bool.false_eq_true,if_false] at hs
  have hw:Region.wanted o (yielded ops tmps)=true:=by simp[Region.wanted,hg]
  rw[hw,if_pos rfl];refine .inl ?_;have a1:∀ t x,I t=some x→t < n:=fun t x J=>by obtain⟨v,h1,_⟩:=hs.2 t x J;have:=(Array.getElem?_eq_some_iff.1 h1).1;rw[hs.1.size] at this;grind
  have O:∀ t,look (p++e8 n I) t=I t:=fun t=>by
   rw[pA]
   cases q:look p t with
   | some x=>exact(hp t x q).1.symm
   | none=>
     simp only;unfold e8;rw[lK]
     cases e:I t with
     | none=>split <;> rfl
     | some x=>rw[if_pos (List.mem_range.2 (a1 t x e))]
  have a6:=hs.kS (f:=p++e8 n I) fun t x J=>by rw[←O];exact J
  have h:=J (e8 n I) tmps w ⟨G,a6⟩;simp only[eX,hw,if_true] at h;refine Oper.zO (fun c a w X=>?_) (fun hl=>?_) (fun ad w2 X=>?_) h
  ·obtain⟨_,st',_,he,_⟩:=X
   grind
  ·obtain⟨_,_,X⟩:=hl
   obtain⟨_,st',_,he,_⟩:=X;grind
  ·obtain⟨a7,st',⟨G',M⟩,_,rfl⟩:=X
   refine U ad w2 ⟨a7,G',?_⟩;simp only[if_true];show eu C n S.bx1 S.lv1 S.gen1 (cg I o.dst a) G' ad.tmps w2
   cases ai:o.dst with
   | none=>rw[ai] at M;refine⟨{ M with frame:=fun t a ha=>by simp[look] at ha },fun t x J=>M.frame t x ?_⟩;show look (p++e8 n I) t=some x;rw[O];exact J
   | some d=>rw[ai] at M;refine⟨{ M with frame:=fun t a ha=>by simp[look] at ha },fun t x J=>M.frame t x ?_⟩;show look ((d,a)::(p++e8 n I)) t=some x;grind[bU,cg]
 ·rw[if_neg aj] at U
  have key:∀ {bx:List (Nat×List A)} {lv:List Nat} {gen:Nat},eu C n bx lv gen I G tmps w→YA P C n bx lv gen ops o a I→(∀ tmps w,eu C n bx lv gen (cg I o.dst a) G tmps w→K ⟨tmps,C.ds⟩ w) →
   (if Region.wanted o (yielded ops tmps)=true then o.wp P ⟨tmps,C.ds⟩ w K Q'∨(o.asks P ⟨tmps,C.ds⟩ w∧LetsOut Q') else K (Act.put ⟨tmps,C.ds⟩ o.dst undef) w):=by
   intro bx lv gen N a8 hk;obtain⟨_,⟨hw,f,hf,hp⟩ | ⟨hw,rfl⟩⟩:=a8
   ·rw[gr N hw]
    simp only[if_true];refine .inl ?_;have hg:dR P o ⟨tmps,[]⟩ w fun v w'=>Below w.heap.size w w'∧bu (bj C G gen w') v a:=hp G tmps w (N.kS fun t x J=>(hf t x J).1);refine hg.ds.wp fun v w' ⟨hb,hr⟩=>?_;rw[Act.gP];exact hk _ _ (N.step hb hd hr)
   ·rw[gr N hw]
    simp only[Bool.false_eq_true,if_false];rw[Act.gP];exact hk _ _ (N.step (Below.refl _ _) hd (.tup #[] [] rfl (by simp)))
  cases ph with
  | false=>simp only[Bool.false_eq_true,if_false] at hs;exact key hs (y0 (y2 rfl)) fun tmps w h=>U _ _ ⟨rfl,G,by simpa using h⟩
  | true=>simp only[if_true] at hs;exact key hs (y1 (y3 rfl)) fun tmps w h=>U _ _ ⟨rfl,G,by simpa using h⟩
def CC (P:Program) (C:Ctx) (n:Nat) (S:B5) (ops:Array Oper) (c:Nat) (Q:St→Prop) (l:List Oper) (i:Nat) (f:List (Nat×A)) (ph:Bool):Prop:=
 Aj (YC P C n S ops c) (si ops c) (fun I=>∃ f',(∀ t,look f' t=I.1 t)∧I.2=true∧Q ⟨f',S.bx1,S.lv1,S.gen1⟩) l i (look f,ph)
def fE (m:Nat) (ops:Array Oper):Bool:=Nat.ble m ops.size && po .any ops m && Bi .any ops m && pk .any ops m 0 (Array.replicate ops.size false)
theorem W.rL (T:cn P) {id:Nat} {l l1 l2:List Oper} {f:List (Nat×A)} {bx bx1:List (Nat×List A)} {lv lv1:List Nat} {gen gen1:Nat} {Q:Exit→St→Prop} (m c:Nat) (hB:fE m l.toArray=true) (h1:l.take m=l1) (h2:l.drop m=l2)
 (h:CC P C n ⟨bx,bx1,lv,lv1,gen,gen1⟩ l.toArray c (WO P C n l.toArray Q l2) l1 0 f false):W P C n (.region id l.toArray true) Q ⟨f,bx,lv,gen⟩:=by
 subst h1;subst h2;intro tmps w ⟨G,hs⟩;simp only[fE,Bool.and_eq_true] at hB;obtain⟨⟨⟨hm,hw⟩,N⟩,I⟩:=hB;have hm:m≤l.length:=by simpa using Nat.le_of_ble_eq_true hm
 have hb:Below w.heap.size w { w with drawn:=w.drawn+1 }:=(Below.refl _ w).drew;have X:eu C n bx lv gen (look f) G tmps { w with drawn:=w.drawn+1 }:=eu.gX (hs.gF hb).2;have hlen:(l.take m).length=m:=by simp;omega
 refine wp_region_any T.mixed ?_;have O:l.toArray.size=(l.take m).length+(l.drop m).length:=by simp;omega
 rw[O];have U:gf .any l.toArray (Array.replicate ((l.take m).length+(l.drop m).length) false):=fun j oj _ hl _ _ _=>by
  by_cases q:j < (l.take m).length+(l.drop m).length;·simp_all
  ·grind
 refine ma (m:=m) (Sm:=GM C n ⟨bx,bx1,lv,lv1,gen,gen1⟩) (Y:=YC P C n ⟨bx,bx1,lv,lv1,gen,gen1⟩ l.toArray c) (ef:=si l.toArray c) (Q:=fun J=>∃ f',(∀ t,look f' t=J.1 t)∧J.2=true∧WO P C n l.toArray Q (l.drop m) ⟨f',bx1,lv1,gen1⟩)
  (fun i e J act w K hs hy hk=>GH i e J act w K hs hy hk) (fun listed J act w hs hc M ⟨f',e1,e2,hq⟩=>?_) _ _ (look f,false) ⟨tmps,C.ds⟩ _ ⟨rfl,G,by simpa using X⟩ U ?_
 ·obtain⟨tmps,a1⟩:=act
  obtain⟨rfl,G,hs⟩:=hs;rw[e2] at hs;simp only[if_true] at hs;refine lp hw (ml N) (l.drop m) m listed ⟨tmps,C.ds⟩ w (Nat.le_refl _) (by simp;omega) (fun j=>by simp[List.getElem?_drop]) hc M.1 M.2.1 M.2.2 ?_;exact hq tmps w ⟨G,hs.kS (fun t a ha=>by rw[←e1];exact ha)⟩
 ·refine uR hw (fun i j oi oj hi hj ad a6 a7 ai aj=>IN hi hj ad ai aj) (l.take m) 0 _ _ (by rw[hlen];omega) (fun j hj=>?_) U (by simp;omega) (fun j hj=>by omega) (fun j _ hj=>?_) (by rw[hlen];rw[O,hlen] at I;exact I) h
  ·grind
  ·simp_all
variable {op:Op} {ty:TypeId} {pos:String} {af:Array Edge} {a:A} {d i:Nat} {rest:List Oper} {f:List (Nat×A)} {Q:St→Prop} {o:Oper} {ph:Bool}
theorem CC.Jp (h:Q ⟨f,S.bx1,S.lv1,S.gen1⟩):CC P C n S ops c Q [] i f true:=⟨f,fun _=>rfl,rfl,h⟩
theorem YA.nv {bx:List (Nat×List A)} {lv:List Nat} {gen:Nat} (hp:Pu P C n ⟨cO f (slotsOf op),bx,lv,gen⟩ ⟨some d,op,ty,pos,af,none⟩ a) (hd:Nat.blt d n=true):YA P C n bx lv gen ops ⟨some d,op,ty,pos,af,none⟩ a (look f):=
 ⟨hd,.inl ⟨rfl,_,fun t x I=>by obtain⟨h1,h2⟩:=eF I;exact⟨h1,List.mem_append.2 (.inl h2)⟩,hp⟩⟩
theorem ID (h1:Pu P C n ⟨cO f (slotsOf op),S.bx1,S.lv1,S.gen1⟩ ⟨some d,op,ty,pos,af,none⟩ a) (h0:Pu P C n ⟨cO f (slotsOf op),S.bx0,S.lv0,S.gen0⟩ ⟨some d,op,ty,pos,af,none⟩ a)
 (hi:ops[i]? = some ⟨some d,op,ty,pos,af,none⟩) (J:Nat.beq i c=false) (M:cK .any ops i c=false) (b1:cK .any ops c i=false) (hd:Nat.blt d n=true)
 (h:CC P C n S ops c Q rest (i+1) ((d,a)::f) ph):CC P C n S ops c Q (⟨some d,op,ty,pos,af,none⟩::rest) i f ph:=by
 have I:i≠c:=fun e=>by subst e;simp at J
 refine⟨a,⟨_,hi,hd,.inr ⟨I,fun _=>YA.nv h0 hd,fun _=>YA.nv h1 hd,fun _=>M,fun _=>b1⟩⟩,?_⟩;rw[fq hi];grind[CC,ew]
theorem GW (h0:Pu P C n ⟨cO f (slotsOf op),S.bx0,S.lv0,S.gen0⟩ ⟨some d,op,ty,pos,af,none⟩ a)
 (hi:ops[i]? = some ⟨some d,op,ty,pos,af,none⟩) (J:Nat.beq i c=false) (M:cK .any ops i c=false) (b1:cK .any ops c i=true) (hd:Nat.blt d n=true)
 (h:CC P C n S ops c Q rest (i+1) ((d,a)::f) false):CC P C n S ops c Q (⟨some d,op,ty,pos,af,none⟩::rest) i f false:=by
 have I:i≠c:=fun e=>by subst e;simp at J
 refine⟨a,⟨_,hi,hd,.inr ⟨I,fun _=>YA.nv h0 hd,(fun h=>by rw[b1] at h;cases h),fun _=>M,fun h=>by cases h⟩⟩,?_⟩;rw[fq hi];grind[CC,ew]
theorem Hg (h1:Pu P C n ⟨cO f (slotsOf op),S.bx1,S.lv1,S.gen1⟩ ⟨some d,op,ty,pos,af,none⟩ a)
 (hi:ops[i]? = some ⟨some d,op,ty,pos,af,none⟩) (J:Nat.beq i c=false) (M:cK .any ops i c=true) (b1:cK .any ops c i=false) (hd:Nat.blt d n=true)
 (h:CC P C n S ops c Q rest (i+1) ((d,a)::f) true):CC P C n S ops c Q (⟨some d,op,ty,pos,af,none⟩::rest) i f true:=by
 have I:i≠c:=fun e=>by subst e;simp at J
 refine⟨a,⟨_,hi,hd,.inr ⟨I,(fun h=>by rw[M] at h;cases h),fun _=>YA.nv h1 hd,(fun h=>by cases h),fun _=>b1⟩⟩,?_⟩;rw[fq hi];grind[CC,ew]
theorem Jl (I:∀ g,WO P C n ops (fun e st=>e=.normal∧st=⟨(d,a)::(cO f (slotsOf op)++g),S.bx1,S.lv1,S.gen1⟩) [⟨some d,op,ty,pos,af,none⟩] ⟨cO f (slotsOf op)++g,S.bx0,S.lv0,S.gen0⟩)
 (hi:ops[i]? = some ⟨some d,op,ty,pos,af,none⟩) (M:Nat.beq i c=true) (hd:Nat.blt d n=true) (h:CC P C n S ops c Q rest (i+1) ((d,a)::f) true):CC P C n S ops c Q (⟨some d,op,ty,pos,af,none⟩::rest) i f false:=by
 have J:i=c:=Nat.eq_of_beq_eq_true M;refine⟨a,⟨_,hi,hd,.inl ⟨J,rfl,rfl,cO f (slotsOf op),fun t x I=>?_,fun g=>I g⟩⟩,?_⟩
 ·obtain⟨h1,h2⟩:=eF I
  exact⟨h1,List.mem_append.2 (.inl h2)⟩
 ·rw[fq hi]
  grind[CC,ew]
variable {bx0 bx1:List (Nat×List A)} {lv0 lv1:List Nat} {gen0 gen1:Nat}
theorem aE (h:Q ⟨f,bx1,lv1,gen1⟩):CC P C n ⟨bx0,bx1,lv0,lv1,gen0,gen1⟩ ops c Q [] i f true:=
 CC.Jp (S:=⟨bx0,bx1,lv0,lv1,gen0,gen1⟩) h
theorem iD (h1:Pu P C n ⟨cO f (slotsOf op),bx1,lv1,gen1⟩ ⟨some d,op,ty,pos,af,none⟩ a) (h0:Pu P C n ⟨cO f (slotsOf op),bx0,lv0,gen0⟩ ⟨some d,op,ty,pos,af,none⟩ a)
 (hi:ops[i]? = some ⟨some d,op,ty,pos,af,none⟩) (I:Nat.beq i c=false) (J:cK .any ops i c=false) (b1:cK .any ops c i=false) (hd:Nat.blt d n=true)
 (h:CC P C n ⟨bx0,bx1,lv0,lv1,gen0,gen1⟩ ops c Q rest (i+1) ((d,a)::f) ph):CC P C n ⟨bx0,bx1,lv0,lv1,gen0,gen1⟩ ops c Q (⟨some d,op,ty,pos,af,none⟩::rest) i f ph:=
 ID (S:=⟨bx0,bx1,lv0,lv1,gen0,gen1⟩) h1 h0 hi I J b1 hd h
theorem nN (h0:Pu P C n ⟨cO f (slotsOf op),bx0,lv0,gen0⟩ ⟨some d,op,ty,pos,af,none⟩ a)
 (hi:ops[i]? = some ⟨some d,op,ty,pos,af,none⟩) (I:Nat.beq i c=false) (J:cK .any ops i c=false) (b1:cK .any ops c i=true) (hd:Nat.blt d n=true)
 (h:CC P C n ⟨bx0,bx1,lv0,lv1,gen0,gen1⟩ ops c Q rest (i+1) ((d,a)::f) false):CC P C n ⟨bx0,bx1,lv0,lv1,gen0,gen1⟩ ops c Q (⟨some d,op,ty,pos,af,none⟩::rest) i f false:=
 GW (S:=⟨bx0,bx1,lv0,lv1,gen0,gen1⟩) h0 hi I J b1 hd h
theorem IA (h1:Pu P C n ⟨cO f (slotsOf op),bx1,lv1,gen1⟩ ⟨some d,op,ty,pos,af,none⟩ a)
 (hi:ops[i]? = some ⟨some d,op,ty,pos,af,none⟩) (I:Nat.beq i c=false) (J:cK .any ops i c=true) (b1:cK .any ops c i=false) (hd:Nat.blt d n=true)
 (h:CC P C n ⟨bx0,bx1,lv0,lv1,gen0,gen1⟩ ops c Q rest (i+1) ((d,a)::f) true):CC P C n ⟨bx0,bx1,lv0,lv1,gen0,gen1⟩ ops c Q (⟨some d,op,ty,pos,af,none⟩::rest) i f true:=
 Hg (S:=⟨bx0,bx1,lv0,lv1,gen0,gen1⟩) h1 hi I J b1 hd h
theorem E3 (I:∀ g,WO P C n ops (fun e st=>e=.normal∧st=⟨(d,a)::(cO f (slotsOf op)++g),bx1,lv1,gen1⟩) [⟨some d,op,ty,pos,af,none⟩] ⟨cO f (slotsOf op)++g,bx0,lv0,gen0⟩)
 (hi:ops[i]? = some ⟨some d,op,ty,pos,af,none⟩) (J:Nat.beq i c=true) (hd:Nat.blt d n=true) (h:CC P C n ⟨bx0,bx1,lv0,lv1,gen0,gen1⟩ ops c Q rest (i+1) ((d,a)::f) true):CC P C n ⟨bx0,bx1,lv0,lv1,gen0,gen1⟩ ops c Q (⟨some d,op,ty,pos,af,none⟩::rest) i f false:=
 Jl (S:=⟨bx0,bx1,lv0,lv1,gen0,gen1⟩) I hi J hd h
end
end Go.Ab
namespace Go.Ab
open Go.RowKit
/-! ### whatever the states are: with paths in place of edges -/
section
variable {P:Program} {ops:Array Oper} {md:Region.Mode} {m:Nat} {S E:Type} {Y:Nat→E→S→Prop} {ef:Nat→E→S→S}
def loose (md:Region.Mode) (ops:Array Oper) (i j:Nat):Prop:=dW md ops ops.size i j=false∧dW md ops ops.size j i=false
theorem A7 {j i:Nat} {I:Oper} {e:Edge} (hj:ops[j]? = some I) (he:e∈I.after) (hb:Region.binds md e=true) (h:e.on=i):cK md ops j i=true:=by unfold cK;rw[hj];exact List.any_eq_true.2 ⟨e,by simpa using he,by simp[hb,h]⟩
theorem xW {j i:Nat} (h:dW md ops ops.size j i=false) (hj:j < ops.size):cK md ops j i=false:=by
 cases q:ops.size with
 | zero=>omega
 | succ k=>grind[dW,Bool.or_eq_false_iff]
theorem rS {i j:Nat} {listed:Array Bool} (M:gf md ops listed) (hi:i∈Region.ready md ops listed) (hj:listed.getD j true=false):dW md ops ops.size i j=false:=by obtain⟨_,N,J,I⟩:=mem_ready.1 hi;grind[dW,nf,kZ]
theorem Bw {Q:S→Prop} {i:Nat} {oi:Oper} {e:E} (hw:po md ops m=true) (b2:i < m) (hi:ops[i]? = some oi) :
 ∀ (fuel:Nat) (listed:Array Bool) (M:S),gf md ops listed →
   (∀ j U,ops[j]? = some U→j≠i→j < m→listed.getD j true=false→dW md ops ops.size j i=false→py Y ef i j) →
   i∈Region.ready md ops listed→Y i e M→wz Y ef m md ops Q fuel (listed.setIfInBounds i true) (ef i e M)→wz Y ef m md ops Q (fuel+1) listed M:=by
 have b3:∀ {listed:Array Bool},i∈Region.ready md ops listed→listed.getD i false=false:=fun I=>kZ (mem_ready.1 I).1;intro fuel
 induction fuel with
 | zero=>
   intro listed M X _ I hy H;refine⟨fun h=>(by rw[h] at I;cases I),fun j hj=>?_⟩;by_cases hji:j=i;·grind
   ·exfalso
    obtain⟨⟨_,h1,h2⟩,_⟩:=H;have b4:=(mem_ready.1 hj).1;by_cases N:j < m
    ·have:=h1 j N
     rw[getD_set_ne false (Ne.symm hji)] at this;grind
    ·grind[qO]
 | succ fuel ih=>
   intro listed M X J I hy H;refine⟨fun h=>(by rw[h] at I;cases I),fun j hj=>?_⟩;by_cases hji:j=i;·grind
   ·obtain⟨e',aj,H'⟩:=H.2 j (ready_mono hj hji)
    obtain⟨ad,U,a1,b0⟩:=mem_ready.1 hj;have ai:dW md ops ops.size j i=false:=rS X hj (mem_ready.1 I).1;have N:j < m:=by grind[Nat.lt_or_ge,qO]
    obtain⟨s1,s2,s3⟩:=J j U a1 hji N ad ai e e' M hy aj;have O:∀ k ok,ops[k]? = some ok→k≠i→k < m→(listed.setIfInBounds j true).getD k true=false→dW md ops ops.size k i=false→py Y ef i k:=fun k ok hk a6 a7 b5 a8=>by
     refine J k ok hk a6 a7 ?_ a8;by_cases hjk:j=k;·grind
     ·simp_all
    refine⟨e',s1,ih (listed.setIfInBounds j true) _ (X.add hj) O (ready_mono I (Ne.symm hji)) s2 ?_⟩;grind[Array.setIfInBounds_comm]
theorem xK {Q:S→Prop} (hw:po md ops m=true)
 (O:∀ i j oi I,ops[i]? = some oi→ops[j]? = some I→i≠j→i < m→j < m→oi.apart ops I=true→loose md ops i j→py Y ef i j) :
 ∀ (l:List Oper) (k:Nat) (listed:Array Bool) (J:S),k+l.length=m→(∀ j,j < l.length→l[j]? = ops[k+j]?)→gf md ops listed →
 listed.size=ops.size→(∀ j,j < k→listed.getD j false=true)→(∀ j,k≤j→j < ops.size→listed.getD j true=false) →
 pk md ops l.length k listed=true→Aj Y ef Q l k J→wz Y ef m md ops Q l.length listed J
 | [],k,listed,J,hk,_,_,hs,h1,h2,_,h=>⟨⟨hs,fun j hj=>h1 j (by simp at hk;omega),fun j hj U=>h2 j (by simp at hk;omega) U⟩,h⟩
 | o::l,k,listed,J,hk,hl,hc,hs,h1,h2,hB,h=>by
   have h0:ops[k]? = some o:=by simpa using (hl 0 (by simp)).symm
   have a8:k < ops.size:=(Array.getElem?_eq_some_iff.1 h0).1;simp only[List.length_cons,pk,Bool.and_eq_true] at hB;obtain⟨⟨hr,hf⟩,a1⟩:=hB;have M:k∈Region.ready md ops listed:=by simpa using hr
   obtain⟨e,hy,hK⟩:=h;have X:k < m:=by simp at hk;omega
   refine Bw hw X h0 l.length listed J hc (fun j I N ad a6 ai aj=>O k j o I h0 N (Ne.symm ad) X a6 (Region.free_spec h0 hf j I N ad ai fun e he hb heq=>?_) ⟨rS hc M ai,aj⟩) M hy
    (xK hw O l (k+1) _ _ (by simp at hk;omega) (fun j hj=>by have:=hl (j+1) (by simpa using hj);simpa [Nat.add_assoc,Nat.add_comm 1 j] using this) (hc.add M) (by simpa using hs) (fun j hj=>?_) (fun j hj U=>?_) a1 hK)
   ·have h3:=xW aj (Array.getElem?_eq_some_iff.1 N).1
    grind[A7]
   ·rcases Nat.lt_succ_iff_lt_or_eq.1 hj with a7 | rfl
    ·exact getD_set_true (h1 j a7)
    ·simp_all
   ·rw[getD_set_ne true (by omega)]
    grind
end
/-! ### what a renumbering leaves as it is -/
mutual
theorem vG {o o':List Nat} (h:∀ g,pos o g=some g→pos o' g=some g):∀ a,cD o a=a→cD o' a=a
 | .own g es,e=>by grind[cD,pos]
 | .ptr g off,e=>by grind[cD,pos]
 | .xs g es,e=>by grind[cD,pos]
 | .xp g i off l,e=>by grind[cD,pos]
 | .mp g es,e=>by grind[cD,pos]
 | .mq g es,e=>by grind[cD,pos]
 | .mo g es hole J,e=>by grind[cD,pos]
 | .lk g n c v,e=>by grind[cD,pos]
 | .gi g I,e=>by grind[cD,pos]
 | .ow g es v,e=>by grind[cD,pos]
 | .sb g n c,e=>by grind[cD,pos]
 | .np g T u,e=>by grind[cD,pos]
 | .bf g T s,e=>by grind[cD,pos]
 | .agg l,e=>by simp only[cD,A.agg.injEq] at e ⊢;exact kT h l e
 | .tup l,e=>by simp only[cD,A.tup.injEq] at e ⊢;exact kT h l e
 | .row l,e=>by simp only[cD,A.row.injEq] at e ⊢;exact kT h l e
 | .clo f l,e=>by simp only[cD,A.clo.injEq,true_and] at e ⊢;exact kT h l e
 | .bnd f l,e=>by simp only[cD,A.bnd.injEq,true_and] at e ⊢;exact kT h l e
 | .d _,_=>rfl
 | .ag _,_=>rfl
 | .rowd _,_=>rfl
 | .ni,_=>rfl
 | .fl _,_=>rfl
 | .any,_=>rfl
theorem kT {o o':List Nat} (h:∀ g,pos o g=some g→pos o' g=some g):∀ l,gM o l=l→gM o' l=l
 | [],_=>rfl
 | a::l,e=>by simp only[gM,List.cons.injEq] at e ⊢;exact⟨vG h a e.1,kT h l e.2⟩
end
def A1 (o o':List Nat):Bool:=(List.range o.length).all fun g=>!(pos o g == some g) || pos o' g == some g
theorem A5 {o o':List Nat} (h:A1 o o'=true) (g:Nat) (J:pos o g=some g):pos o' g=some g:=by have I:=(List.getElem?_eq_some_iff.1 (c8 J)).1;have:=List.all_eq_true.1 h g (List.mem_range.2 I);grind
end Go.Ab
namespace Go.Ab
open Go.RowKit
def vn:D→D
 | .v x=>bif isNil (.d (.v x)) then .sl [] else .v x
 | .sl es=>.sl es
theorem bE.vn {w:World} {pv:Nat→Nat→Prop} {v:Value} {d:D} (h:bE w pv v d):bE w pv v (Ab.vn d):=by
 cases d with
 | v x=>exact h.nY
 | sl es=>exact h
def qT:A→A
 | .d x=>.d (vn x)
 | .ag l=>.ag (l.map vn)
 | a=>a
theorem bu.qT {E:En} {v:Value} {a:A} (h:bu E v a):bu E v (Ab.qT a):=by
 cases a with
 | d x=>cases h with | d hd=>exact .d hd.vn
 | ag l=>
   cases h with
   | ag vs _ hs hd=>refine .ag vs _ (by simpa using hs) (fun i u x hu I=>?_);rw[List.getElem?_map,Option.map_eq_some_iff] at I;obtain⟨y,J,rfl⟩:=I;exact(hd i u y hu J).vn
 | _=>exact h
section
variable {P:Program} {C:Ctx} {n:Nat} {ops:Array Oper} {Q:Exit→St→Prop} {f:List (Nat×A)} {bx:List (Nat×List A)} {lv:List Nat} {gen:Nat}
end
structure jK where
 bxF:Nat→List (Nat×List A)
 bxT:Nat→List (Nat×List A)
 lv:Nat→List Nat
 gen:Nat→Nat
 ord:Nat→List Nat
 g0:Nat
 z:List A
 cs:List Nat
 al:Nat
 R:List PanicEntry→Prop
def jK.bx (S:jK) (k:Nat) (b:Bool):List (Nat×List A):=bif b then S.bxT k else S.bxF k
abbrev ER (ey:List (List (Nat×List A))) (lvs:List (List Nat)) (gens:List Nat) (cs:List Nat) (al:Nat):jK:=⟨fun _=>[],fun k=>ey.getD k [],fun k=>lvs.getD k [],fun k=>gens.getD k 0,fun _=>[],0,[],cs,al,fun _=>False⟩
abbrev Bn (ey:List (List (Nat×List A))) (lvs:List (List Nat)) (gens:List Nat) (cs:List Nat) (al:Nat) (v:Value):jK:=⟨fun _=>[],fun k=>ey.getD k [],fun k=>lvs.getD k [],fun k=>gens.getD k 0,fun _=>[],0,[],cs,al,fun c=>c=[{ v:=v,recovered:=false }]⟩
def gU (S:jK) (ops:Array Oper) (i k:Nat) (b:Bool):Bool:=
 ((List.range S.cs.length).all fun j=>bif Nat.blt j k then !dW .any ops ops.size (S.cs.getD j 0) i else !dW .any ops ops.size i (S.cs.getD j 0)) &&
 (bif b then !dW .any ops ops.size S.al i else (Nat.blt S.al ops.size && !dW .any ops ops.size i S.al))
theorem Pu.qT {P:Program} {C:Ctx} {n:Nat} {st:St} {o:Oper} {a a':A} (h:Pu P C n st o a) (e:Ab.qT a=a'):Pu P C n st o a':=fun G tmps w hs=>by subst e;exact(h G tmps w hs).mono fun v w' ⟨h1,h2⟩=>⟨h1,h2.qT⟩
theorem bb {S:jK} {ops:Array Oper} {i k:Nat} {b:Bool} (h:gU S ops i k b=true) (I:gU S ops i k b=false):False:=by rw[h] at I;cases I
section
variable {P:Program} (T:cn P) {C:Ctx} {n:Nat} (S:jK) {ops:Array Oper}
abbrev SD:=et×Nat×Bool
def HZ (C:Ctx) (n:Nat) (S:jK) (J:Bool) (I:SD) (act:Act) (w:World):Prop:=
 (J=true→I.2.2=true)∧act.defers=C.ds∧∃ G,eu C n (S.bx I.2.1 I.2.2) (S.lv I.2.1) (S.gen I.2.1) I.1 G act.tmps w∧(I.2.2=false→∀ t a,I.1 t=some a→cD (S.ord I.2.1) a=a)
def HS (P:Program) (C:Ctx) (n:Nat) (S:jK) (ops:Array Oper) (o:Oper) (a:A) (k:Nat) (b:Bool) (I:et):Prop:=
 o.guard=none∧∃ p,(∀ t x,look p t=some x→I t=some x∧t∈o.looksAt ops) ∧
  ∀ g,WO P C n ops (fun e st=>(e=.normal∧st=St.put ⟨p++g,S.bx (k+1) b,S.lv (k+1),S.gen (k+1)⟩ o.dst a)∨∃ c,e=.panic c∧S.R c) [o] ⟨p++g,S.bx k b,S.lv k,S.gen k⟩
def YD (P:Program) (T:cn P) (C:Ctx) (n:Nat) (S:jK) (ops:Array Oper) (i:Nat) (a:A) (I:SD):Prop:=
 ∃ o,ops[i]? = some o∧e7 n o.dst=true∧I.2.1≤S.cs.length∧gU S ops i I.2.1 I.2.2=true ∧
   ((S.cs[I.2.1]? = some i∧i≠S.al∧(∀ b,gU S ops i I.2.1 b=true→HS P C n S ops o a I.2.1 b I.1)∧(gU S ops i I.2.1 false=true→cD (S.ord (I.2.1+1)) a=a)) ∨
    (i∉S.cs∧i=S.al∧I.2.2=false∧o.guard=none∧a=.ptr S.g0 0∧∃ e d J,o.op=.alloc e∧o.dst=some d∧aY T.l e=some J∧S.z=J.z.map fun v=>A.d (.v v)) ∨
    (i∉S.cs∧i≠S.al∧∀ k b,k≤S.cs.length→gU S ops i k b=true→YA P C n (S.bx k b) (S.lv k) (S.gen k) ops o a I.1∧(b=false→cD (S.ord k) a=a)))
def zP (S:jK) (ops:Array Oper) (i:Nat) (a:A) (I:SD):SD:=
 match ops[i]? with
 | none=>I
 | some o=>(cg I.1 o.dst a,(if S.cs[I.2.1]? = some i then I.2.1+1 else I.2.1),if i=S.al then true else I.2.2)
variable {T} {S}
theorem rO {o:Oper} {a:A} {k:Nat} {b:Bool} {J:et} {dst:Option Nat} {x:A} (hd:∀ d,dst=some d→d∉o.looksAt ops):HS P C n S ops o a k b (cg J dst x)↔HS P C n S ops o a k b J:=by
 constructor
 ·rintro⟨h0,p,h1,h2⟩
  exact⟨h0,p,fun t y I=>⟨(ga hd (h1 t y I).2).symm.trans (h1 t y I).1,(h1 t y I).2⟩,h2⟩
 ·rintro⟨h0,p,h1,h2⟩
  exact⟨h0,p,fun t y I=>⟨(ga hd (h1 t y I).2).trans (h1 t y I).1,(h1 t y I).2⟩,h2⟩
theorem xe {i k c:Nat} {b:Bool} (h:S.cs[k]? = some c) (hl:loose .any ops i c):gU S ops i (k+1) b=gU S ops i k b:=by
 unfold gU;congr 1;rw[Bool.eq_iff_iff,List.all_eq_true,List.all_eq_true];have I:S.cs.getD k 0=c:=by simp[List.getD_eq_getElem?_getD,h]
 have key:∀ j,(bif Nat.blt j (k+1) then !dW .any ops ops.size (S.cs.getD j 0) i else !dW .any ops ops.size i (S.cs.getD j 0))=(bif Nat.blt j k then !dW .any ops ops.size (S.cs.getD j 0) i else !dW .any ops ops.size i (S.cs.getD j 0)):=fun j=>by
  rcases Nat.lt_trichotomy j k with hj | rfl | hj
  ·grind[Nat.blt,Nat.blt_eq]
  ·have h1:Nat.blt j (j+1)=true:=by simp[Nat.blt_eq]
   have h2:Nat.blt j j=false:=by cases q:Nat.blt j j with | false=>rfl | true=>simp[Nat.blt_eq] at q
   rw[h1,h2,I,hl.1,hl.2];rfl
  ·grind[Nat.blt,Nat.blt_eq]
 grind
theorem tG {i k:Nat} (I:S.al < ops.size) (hl:loose .any ops i S.al):gU S ops i k true=gU S ops i k false:=by
 unfold gU;have h:Nat.blt S.al ops.size=true:=by rw[Nat.blt_eq];exact I
 rw[hl.1,hl.2,h];rfl
theorem loose.symm {md:Region.Mode} {i j:Nat} (h:loose md ops i j):loose md ops j i:=⟨h.2,h.1⟩
theorem jO {i:Nat} {o:Oper} (h:ops[i]? = some o) (a:A) (I:SD):zP S ops i a I=(cg I.1 o.dst a,(if S.cs[I.2.1]? = some i then I.2.1+1 else I.2.1),if i=S.al then true else I.2.2):=by unfold zP;rw[h]
theorem yu {i k c:Nat} {b:Bool} (h:S.cs[k]? = some c) (hl:loose .any ops i c) (I:gU S ops i (k+1) b=true):gU S ops i k b=true:=by rw[←xe h hl];exact I
theorem yM {i k c:Nat} {b:Bool} (h:S.cs[k]? = some c) (hl:loose .any ops i c) (I:gU S ops i k b=true):gU S ops i (k+1) b=true:=by rw[xe h hl];exact I
theorem IF (cq:∀ k c c',S.cs[k]? = some c→S.cs[k+1]? = some c'→dW .any ops ops.size c' c=true) {i j:Nat} {oi oj:Oper} (hi:ops[i]? = some oi) (hj:ops[j]? = some oj) (cx:i≠j) (cy:oi.apart ops oj=true) (hl:loose .any ops i j) :
 py (YD P T C n S ops) (zP S ops) i j:=by
 obtain⟨a1,a2,a3⟩:=Oper.apart_spec cy;rintro a b ⟨φ,k,ph⟩ ⟨c1,b3,di,X,ai,b4⟩ ⟨c6,b5,dj,a8,aj,ad⟩;rw[hi] at b3;cases b3;rw[hj] at b5;cases b5;have O:cg (cg φ oi.dst a) oj.dst b=cg (cg φ oj.dst b) oi.dst a:=km φ a b a2;have mem_of:∀ {k c:Nat},S.cs[k]? = some c→c∈S.cs:=fun h=>List.mem_of_getElem? h;have b6:∀ {k c:Nat},S.cs[k]? = some c→k+1≤S.cs.length:=fun h=>(List.getElem?_eq_some_iff.1 h).1;rw[jO hi] at aj ad a8;simp only[jO hi,jO hj];simp only at X ai b4 a8 aj ad;rcases b4 with ⟨ci,M,xi,fi⟩ | ⟨U,a6,rfl,gi,ei,ch⟩ | ⟨U,M,yi⟩
 ·
  simp only[if_pos ci,if_neg M] at aj ad a8;rcases ad with ⟨cj,_⟩ | ⟨J,N,rfl,gj,ej,b0⟩ | ⟨J,I,yj⟩
  ·exact absurd (cq k i j ci cj) (by rw[hl.2];simp)
  ·have b2:loose .any ops i S.al:=by rw[←N];exact hl
   have a7:S.al < ops.size:=by rw[←N];exact(Array.getElem?_eq_some_iff.1 hj).1
   have n1:¬ S.cs[k]? = some j:=fun h=>J (mem_of h);refine⟨⟨oj,hj,dj,X,yu ci hl.symm aj,.inr (.inl ⟨J,N,rfl,gj,ej,b0⟩)⟩,?_,?_⟩
   ·refine⟨oi,hi,di,?_,?_,.inl ⟨?_,M,fun b hb=>(rO a3).2 ?_,?_⟩⟩
    all_goals simp only[if_neg n1]
    ·exact X
    ·rw[if_pos N,tG a7 b2];exact ai
    ·exact ci
    ·simp only[if_neg n1] at hb
     exact xi b hb
    ·exact fi
   ·simp only[if_pos ci,if_neg M,if_pos N,if_neg n1,O]
    have n2:¬ S.cs[k+1]? = some j:=fun h=>J (mem_of h);rw[if_neg n2]
  ·have n1:¬ S.cs[k]? = some j:=fun h=>J (mem_of h)
   have n2:¬ S.cs[k+1]? = some j:=fun h=>J (mem_of h);refine⟨⟨oj,hj,dj,X,yu ci hl.symm aj,.inr (.inr ⟨J,I,fun k b h1 h2=>⟨(dV a1).1 (yj k b h1 h2).1,(yj k b h1 h2).2⟩⟩)⟩,?_,?_⟩
   ·refine⟨oi,hi,di,?_,?_,.inl ⟨?_,M,fun b hb=>(rO a3).2 ?_,?_⟩⟩
    all_goals simp only[if_neg n1]
    ·exact X
    ·rw[if_neg I];exact ai
    ·exact ci
    ·simp only[if_neg n1] at hb
     exact xi b hb
    ·exact fi
   ·simp only[if_pos ci,if_neg M,if_neg I,if_neg n1,if_neg n2,O]
 ·
  have n1:¬ S.cs[k]? = some i:=fun h=>U (mem_of h);simp only[if_neg n1,if_pos a6] at aj ad a8;have cl:loose .any ops j S.al:=by rw[←a6];exact hl.symm
  have a7:S.al < ops.size:=by rw[←a6];exact(Array.getElem?_eq_some_iff.1 hi).1
  rcases ad with ⟨cj,I,xj,fj⟩ | ⟨_,N,h,_⟩ | ⟨J,I,yj⟩
  ·have n2:¬ S.cs[k+1]? = some i:=fun h=>U (mem_of h)
   refine⟨⟨oj,hj,dj,X,by rw[←tG a7 cl];exact aj,.inl ⟨cj,I,fun b hb=>(rO a1).1 (xj b hb),fj⟩⟩,?_,?_⟩
   ·refine⟨oi,hi,di,?_,?_,.inr (.inl ⟨U,a6,?_,gi,ei,ch⟩)⟩
    all_goals simp only[if_pos cj,if_neg I]
    ·exact b6 cj
    ·exact yM cj hl ai
   ·simp only[if_neg n1,if_pos a6,if_pos cj,if_neg I,if_neg n2,O]
  ·exact absurd (a6.trans N.symm) cx
  ·have n3:¬ S.cs[k]? = some j:=fun h=>J (mem_of h)
   refine⟨⟨oj,hj,dj,X,by rw[←tG a7 cl];exact aj,.inr (.inr ⟨J,I,fun k b h1 h2=>⟨(dV a1).1 (yj k b h1 h2).1,(yj k b h1 h2).2⟩⟩)⟩,?_,?_⟩
   ·refine⟨oi,hi,di,?_,?_,.inr (.inl ⟨U,a6,?_,gi,ei,ch⟩)⟩
    all_goals simp only[if_neg n3,if_neg I]
    ·exact X
    ·exact ai
   ·simp only[if_neg n1,if_pos a6,if_neg n3,if_neg I,O]
 ·
  have n1:¬ S.cs[k]? = some i:=fun h=>U (mem_of h);simp only[if_neg n1,if_neg M] at aj ad a8;rcases ad with ⟨cj,I,xj,fj⟩ | ⟨J,N,rfl,gj,ej,b0⟩ | ⟨J,I,yj⟩
  ·have n2:¬ S.cs[k+1]? = some i:=fun h=>U (mem_of h)
   refine⟨⟨oj,hj,dj,X,aj,.inl ⟨cj,I,fun b hb=>(rO a1).1 (xj b hb),fj⟩⟩,?_,?_⟩
   ·refine⟨oi,hi,di,?_,?_,.inr (.inr ⟨U,M,fun k b h1 h2=>⟨(dV a3).2 (yi k b h1 h2).1,(yi k b h1 h2).2⟩⟩)⟩
    all_goals simp only[if_pos cj,if_neg I]
    ·exact b6 cj
    ·exact yM cj hl ai
   ·simp only[if_neg n1,if_neg M,if_pos cj,if_neg I,if_neg n2,O]
  ·have n3:¬ S.cs[k]? = some j:=fun h=>J (mem_of h)
   have b2:loose .any ops i S.al:=by rw[←N];exact hl
   have a7:S.al < ops.size:=by rw[←N];exact(Array.getElem?_eq_some_iff.1 hj).1
   refine⟨⟨oj,hj,dj,X,aj,.inr (.inl ⟨J,N,rfl,gj,ej,b0⟩)⟩,?_,?_⟩
   ·refine⟨oi,hi,di,?_,?_,.inr (.inr ⟨U,M,fun k b h1 h2=>⟨(dV a3).2 (yi k b h1 h2).1,(yi k b h1 h2).2⟩⟩)⟩
    all_goals simp only[if_neg n3,if_pos N]
    ·exact X
    ·rw[tG a7 b2];exact ai
   ·simp only[if_neg n1,if_neg M,if_neg n3,if_pos N,O]
  ·have n3:¬ S.cs[k]? = some j:=fun h=>J (mem_of h)
   refine⟨⟨oj,hj,dj,X,aj,.inr (.inr ⟨J,I,fun k b h1 h2=>⟨(dV a1).1 (yj k b h1 h2).1,(yj k b h1 h2).2⟩⟩)⟩,?_,?_⟩
   ·refine⟨oi,hi,di,?_,?_,.inr (.inr ⟨U,M,fun k b h1 h2=>⟨(dV a3).2 (yi k b h1 h2).1,(yi k b h1 h2).2⟩⟩)⟩
    all_goals simp only[if_neg n3,if_neg I]
    ·exact X
    ·exact ai
   ·simp only[if_neg n1,if_neg M,if_neg n3,if_neg I,O]
theorem WO.AD {o:Oper} (U:o.guard=none) {st:St} {I J:Exit→St→Prop} (hl:∀ e st,I e st→e≠.outgrown) (M:∀ e st,I e st→J e st) (h:WO P C n ops I [o] st):WO P C n ops J [o] st:=by
 intro tmps w hs;have hw:Region.wanted o (yielded ops tmps)=true:=by simp[Region.wanted,U]
 have h:=h tmps w hs;simp only[eX,hw,if_true] at h ⊢;refine Oper.vP (fun c a w ⟨h1,st',h2,h3⟩=>⟨h1,st',h2,M _ _ h3⟩) (fun N=>by obtain⟨_,_,O⟩:=N;obtain⟨_,st',_,he⟩:=O;exact hl _ _ he rfl) (fun X w2 ⟨h1,st',h2,h3⟩=>⟨h1,st',h2,M _ _ h3⟩) h
theorem WO.Ht {o:Oper} (O:o.guard=none) {st J:St} {G:Gh} {tmps:Array Value} {w:World} {R:List PanicEntry→Prop} {Q':Exit→Act→World→Prop} (hR:∀ c act w,R c→act.defers=C.ds→(∃ st,ez C n st act.tmps w)→Q' (.panic c) act w) (h:WO P C n ops (fun e st=>(e=.normal∧st=J)∨∃ c,e=.panic c∧R c) [o] st) (hs:bg C n st G tmps w) :
 o.wp P ⟨tmps,C.ds⟩ w (fun act w=>act.defers=C.ds∧∃ G,bg C n J G act.tmps w) Q':=by
 have hw:Region.wanted o (yielded ops tmps)=true:=by simp[Region.wanted,O]
 have h:=h tmps w ⟨G,hs⟩;simp only[eX,hw,if_true] at h;refine Oper.vP (fun c a w I=>?_) (fun hl=>?_) (fun U w2 I=>?_) h
 ·obtain⟨h1,st',h2,he | ⟨M,he,N⟩⟩:=I
  ·grind
  ·grind
 ·obtain⟨_,_,I⟩:=hl
  obtain⟨_,st',_,he | ⟨M,he,N⟩⟩:=I;·grind
  ·grind
 ·obtain⟨X,st',⟨G',ad⟩,he | ⟨M,he,N⟩⟩:=I
  ·grind
  ·grind
theorem zZ {bx:List (Nat×List A)} {lv:List Nat} {gen:Nat} {I:et} {G:Gh} {tmps:Array Value} {w:World} (hs:eu C n bx lv gen I G tmps w) (t:Nat) (x:A) (J:I t=some x):t < n:=by obtain⟨v,h1,_⟩:=hs.2 t x J;have:=(Array.getElem?_eq_some_iff.1 h1).1;rw[hs.1.size] at this;grind
theorem xh {I:et} {p:List (Nat×A)} (J:∀ t x,I t=some x→t < n) (hp:∀ t x,look p t=some x→I t=some x) (t:Nat):look (p++e8 n I) t=I t:=by
 rw[pA]
 cases q:look p t with
 | some x=>exact(hp t x q).symm
 | none=>
   simp only;unfold e8;rw[lK]
   cases e:I t with
   | none=>split <;> rfl
   | some x=>rw[if_pos (List.mem_range.2 (J t x e))]
theorem we {I:et} {f:List (Nat×A)} (h:∀ t,look f t=I t) {d:Nat} {a:A} {t:Nat}:look ((d,a)::f) t=cg I (some d) a t:=by grind[bU,cg]
def EO (S:jK) (I k:Nat):Prop:=(kv (S.ord k) (S.gen k) I=true∧pos (S.ord k) (S.gen k)=some S.g0)∧jZ (S.ord k) ((S.gen k,S.z)::S.bxF k) (S.bxT k)∧sh (S.ord k) (S.lv k) (S.lv k)=true
def uu (S:jK) (I:Nat):Nat→Prop
 | 0=>EO S I 0
 | k+1=>EO S I (k+1)∧A1 (S.ord k) (S.ord (k+1))=true∧uu S I k
theorem uu.at {I:Nat}:∀ {m:Nat},uu S I m→∀ k,k≤m→EO S I k
 | 0,h,k,J=>by
   obtain rfl:k=0:=by omega
   exact h
 | m+1,h,k,J=>by
   rcases Nat.lt_or_ge k (m+1) with M | N
   ·exact uu.at h.2.2 k (by omega)
   ·obtain rfl:k=m+1:=by omega
    exact h.1
theorem uu.mono {M:Nat}:∀ {m:Nat},uu S M m→∀ k,k < m→A1 (S.ord k) (S.ord (k+1))=true
 | 0,_,k,I=>absurd I (Nat.not_lt_zero _)
 | m+1,h,k,I=>by
   rcases Nat.lt_or_ge k m with J | N
   ·exact uu.mono h.2.2 k J
   ·obtain rfl:k=m:=by omega
    exact h.2.1
theorem HW {nb:Nat} [hnb:NB C nb] (b0:Bool) (hok:b0=false→uu S nb S.cs.length) (i:Nat) (a:A) (σ:SD) (act:Act) (w:World) (K:Act→World→Prop) {Q':Exit→Act→World→Prop} (hR:∀ c act w,S.R c→act.defers=C.ds→(∃ st,ez C n st act.tmps w)→Q' (.panic c) act w) (hs:HZ C n S b0 σ act w) (hy:YD P T C n S ops i a σ) (hK:∀ act w,HZ C n S b0 (zP S ops i a σ) act w→K act w):wpOp P ops Q' i K act w:=by
 obtain⟨tmps,df⟩:=act;obtain⟨ai,rfl,G,hs,X⟩:=hs;obtain⟨O,k,ph⟩:=σ;obtain⟨o,ho,hd,a6,aj,hy⟩:=hy;rw[jO ho] at hK;simp only at hs X a6 aj hy hK ai;unfold wpOp;simp only[ho];rcases hy with ⟨hc,a7,I,hr⟩ | ⟨nc,b6,rfl,hg,rfl,e,d,dt,cj,J,he,hz⟩ | ⟨nc,a7,a8⟩
 ·obtain⟨hg,p,hp,I⟩:=I ph aj
  rw[if_pos hc,if_neg a7] at hK;have hw:Region.wanted o (yielded ops tmps)=true:=by simp[Region.wanted,hg]
  rw[hw,if_pos rfl];refine .inl ?_;have M:=xh (zZ hs) (fun t x I=>(hp t x I).1);have b2:=hs.kS (f:=p++e8 n O) fun t x I=>by rw[←M];exact I
  refine Oper.wp_mono (fun ad w2 ⟨b3,G',U⟩=>hK ad w2 ⟨ai,b3,G',?_,fun N t x I=>?_⟩) (WO.Ht hg hR (I (e8 n O)) b2)
  ·show eu C n (S.bx (k+1) ph) (S.lv (k+1)) (S.gen (k+1)) (cg O o.dst a) G' ad.tmps w2
   cases J:o.dst with
   | none=>rw[J] at U;refine⟨{ U with frame:=fun t a ha=>by simp[look] at ha },fun t x I=>U.frame t x ?_⟩;show look (p++e8 n O) t=some x;rw[M];exact I
   | some d=>rw[J] at U;refine⟨{ U with frame:=fun t a ha=>by simp[look] at ha },fun t x I=>U.frame t x ?_⟩;show look ((d,a)::(p++e8 n O)) t=some x;rw[we M];exact I
  ·simp only at N I
   have b4:b0=false:=by cases b0 with | false=>rfl | true=>rw[ai rfl] at N;cases N
   have hm:=A5 ((hok b4).mono k (List.getElem?_eq_some_iff.1 hc).1)
   cases J:o.dst with
   | none=>rw[J] at I;exact vG hm x (X N t x I)
   | some d=>
     rw[J] at I;simp only[cg] at I;split at I;·cases I;exact hr (by rw[←N];exact aj)
     ·exact vG hm x (X N t x I)
 ·have b5:¬ S.cs[k]? = some i:=fun h=>nc (List.mem_of_getElem? h)
  rw[if_neg b5,if_pos b6] at hK;have hw:Region.wanted o (yielded ops tmps)=true:=by simp[Region.wanted,hg]
  rw[hw,if_pos rfl];refine .inl ?_;have b4:b0=false:=by cases b0 with | false=>rfl | true=>cases ai rfl
  obtain⟨⟨hO,ch⟩,cl,cq⟩:=(hok b4).at k a6;have M:∀ t,look (e8 n O) t=O t:=xh (p:=[]) (zZ hs) (fun t x I=>by simp[look] at I);have b2:=hs.kS (f:=e8 n O) fun t x I=>by rw[←M];exact I
  have cx:WO P C n ops (fun e st=>(e=.normal∧st=St.put ⟨e8 n O,(S.gen k,S.z)::S.bx k false,S.lv k,S.gen k+1⟩ o.dst (.ptr (S.gen k) 0))∨∃ c,e=.panic c∧False) [o] ⟨e8 n O,S.bx k false,S.lv k,S.gen k⟩:=
   WO.alloc T hg hd cj he (ab (.inl ⟨rfl,by rw[hz]⟩))
  refine Oper.wp_mono (fun ad w2 ⟨b3,G',U⟩=>hK ad w2 ⟨fun _=>rfl,b3,mA (S.ord k) G',?_,fun h=>by cases h⟩) (WO.Ht (R:=fun _=>False) hg (fun _ _ _ h=>h.elim) cx b2);simp only[kv,Bool.and_eq_true] at hO;obtain⟨⟨cy,c1⟩,c6⟩:=hO;rw[J] at U ⊢;have h3:bg C n ⟨(d,.ptr S.g0 0)::e8 n O,S.bxT k,S.lv k,S.gen k⟩ (mA (S.ord k) G') ad.tmps w2:=by
   refine bg.cD (gen':=S.gen k) U (S.ord k) (eb cy) (Nat.le_of_ble_eq_true c1) (fun i hi=>?_) (fun t x I=>?_) (fun i l' c7=>?_) (fun i hi=>?_)
   ·have h4:=qD c6 i (by rw[←hnb.h];exact hi)
    simpa using h4
   ·rw[bU] at I
    show ∃ a,look ((d,.ptr (S.gen k) 0)::e8 n O) t=some a∧cD (S.ord k) a=x;rw[bU];split at I
    ·rename_i e
     rw[if_pos e];cases I;exact⟨_,rfl,by simp only[cD,ch]⟩
    ·rename_i e
     rw[if_neg e];rw[M] at I ⊢;exact⟨x,I,X rfl t x I⟩
   ·exact jZ.le cl i l' c7
   ·exact vD cq i hi
  refine⟨{ h3 with frame:=fun t a ha=>by simp[look] at ha },fun t x I=>h3.frame t x ?_⟩;show look ((d,_)::e8 n O) t=some x;rw[we M];exact I
 ·have b5:¬ S.cs[k]? = some i:=fun h=>nc (List.mem_of_getElem? h)
  rw[if_neg b5,if_neg a7] at hK;obtain⟨a8,hr⟩:=a8 k ph a6 aj;have a1:ph=false→∀ t x,cg O o.dst a t=some x→cD (S.ord k) x=x:=fun N t x I=>by
   cases J:o.dst with
   | none=>rw[J] at I;exact X N t x I
   | some d=>
     rw[J] at I;simp only[cg] at I;split at I;·cases I;exact hr N
     ·exact X N t x I
  obtain⟨_,⟨hw,f,hf,hp⟩ | ⟨hw,rfl⟩⟩:=a8
  ·rw[gr hs hw]
   simp only[if_true];refine .inl ?_;have hg:dR P o ⟨tmps,[]⟩ w fun v w'=>Below w.heap.size w w'∧bu (bj C G (S.gen k) w') v a:=hp G tmps w (hs.kS fun t x I=>(hf t x I).1);refine hg.ds.wp fun v w' ⟨hb,hr⟩=>?_;rw[Act.gP];exact hK _ _ ⟨ai,rfl,G,hs.step hb hd hr,a1⟩
  ·rw[gr hs hw]
   simp only[Bool.false_eq_true,if_false];rw[Act.gP];exact hK _ _ ⟨ai,rfl,G,hs.step (Below.refl _ _) hd (.tup #[] [] rfl (by simp)),a1⟩
def CD (P:Program) (T:cn P) (C:Ctx) (n:Nat) (S:jK) (ops:Array Oper) (Q:St→Prop) (l:List Oper) (i:Nat) (f:List (Nat×A)) (k:Nat) (b:Bool):Prop:=
 Aj (YD P T C n S ops) (zP S ops) (fun I=>∃ f',(∀ t,look f' t=I.1 t)∧I.2=(S.cs.length,true)∧Q ⟨f',S.bxT S.cs.length,S.lv S.cs.length,S.gen S.cs.length⟩) l i (look f,k,b)
def ky (ops:Array Oper):List Nat→Bool
 | c::I::r=>dW .any ops ops.size I c && ky ops (I::r)
 | _=>true
theorem sg {ops:Array Oper}:∀ {cs:List Nat},ky ops cs=true→∀ k c I,cs[k]? = some c→cs[k+1]? = some I→dW .any ops ops.size I c=true
 | [],_,k,c,I,h,_=>by simp at h
 | [_],_,k,c,I,_,h=>by simp at h
 | x::y::r,h,k,c,I,h1,h2=>by
   simp only[ky,Bool.and_eq_true] at h
   cases k with
   | zero=>grind
   | succ k=>exact sg h.2 k c I (by simpa using h1) (by simpa using h2)
def ua (o:List Nat):List (Nat×A)→Prop
 | []=>True
 | (_,a)::r=>cD o a=a∧ua o r
theorem ua.at {o:List Nat}:∀ {f:List (Nat×A)},ua o f→∀ t a,look f t=some a→cD o a=a
 | [],_,t,a,h=>by simp[look] at h
 | (s,x)::r,hf,t,a,h=>by
   rw[bU] at h;split at h;·cases h;exact hf.1
   ·exact hf.2.at t a h
theorem W.nT (T:cn P) {nb:Nat} [hnb:NB C nb] {id:Nat} {l l1 l2:List Oper} {f:List (Nat×A)} {bx:List (Nat×List A)} {lv:List Nat} {gen:Nat} {Q:Exit→St→Prop} (S:jK) (I:Bool) (m:Nat) (hB:fE m l.toArray=true) (ai:ky l.toArray S.cs=true) (h1:l.take m=l1) (h2:l.drop m=l2)
 (hR:∀ c st,S.R c→Q (.panic c) st) (hok:I=false→uu S nb S.cs.length∧ua (S.ord 0) f) (e1:∀ g c,aY (S.bx 0 I) g=some c→aY bx g=some c) (e2:S.lv 0=lv) (e3:Nat.ble gen (S.gen 0)=true)
 (h:CD P T C n S l.toArray (WO P C n l.toArray Q l2) l1 0 f 0 I):W P C n (.region id l.toArray true) Q ⟨f,bx,lv,gen⟩:=by
 subst h1;subst h2;subst e2;intro tmps w ⟨G,hs⟩;have hs:bg C n ⟨f,bx,S.lv 0,S.gen 0⟩ G tmps w:=bg.later hs (g:=S.gen 0) (Nat.le_of_ble_eq_true e3);have hs:bg C n ⟨f,S.bx 0 I,S.lv 0,S.gen 0⟩ G tmps w:={ hs with box:=fun g c J=>hs.box g c (e1 g c J) };simp only[fE,Bool.and_eq_true] at hB;obtain⟨⟨⟨hm,hw⟩,U⟩,M⟩:=hB;have hm:m≤l.length:=by simpa using Nat.le_of_ble_eq_true hm
 have hb:Below w.heap.size w { w with drawn:=w.drawn+1 }:=(Below.refl _ w).drew;have aj:eu C n (S.bx 0 I) (S.lv 0) (S.gen 0) (look f) G tmps { w with drawn:=w.drawn+1 }:=eu.gX (hs.gF hb).2;have hlen:(l.take m).length=m:=by simp;omega
 refine wp_region_any T.mixed ?_;have X:l.toArray.size=(l.take m).length+(l.drop m).length:=by simp;omega
 rw[X];have ad:gf .any l.toArray (Array.replicate ((l.take m).length+(l.drop m).length) false):=fun j oj _ hl _ _ _=>by
  by_cases q:j < (l.take m).length+(l.drop m).length
  ·simp only[Array.getD_eq_getD_getElem?,Array.getElem?_replicate] at hl
   rw[if_pos q] at hl;cases hl
  ·simp only[Array.getD_eq_getD_getElem?,Array.getElem?_replicate] at hl
   rw[if_neg q] at hl;cases hl
 refine ma (m:=m) (Sm:=HZ C n S I) (Y:=YD P T C n S l.toArray) (ef:=zP S l.toArray) (Q:=fun N=>∃ f',(∀ t,look f' t=N.1 t)∧N.2=(S.cs.length,true)∧WO P C n l.toArray Q (l.drop m) ⟨f',S.bxT S.cs.length,S.lv S.cs.length,S.gen S.cs.length⟩)
  (fun i e N act w K hs hy hk=>HW I (fun h=>(hok h).1) i e N act w K (fun c act w J hd ⟨st,hs⟩=>⟨hd,st,hs,hR c st J⟩) hs hy hk) (fun listed N act w hs J O ⟨f',e1,e2,hq⟩=>?_) _ _ (look f,0,I) ⟨tmps,C.ds⟩ _ ⟨fun h=>h,rfl,G,aj,fun h=>(hok h).2.at⟩ ad ?_
 ·obtain⟨tmps,b2⟩:=act
  obtain⟨_,rfl,G,hs,_⟩:=hs;rw[e2] at hs;refine lp hw (ml U) (l.drop m) m listed ⟨tmps,C.ds⟩ w (Nat.le_refl _) (by simp;omega) (fun j=>by simp[List.getElem?_drop]) J O.1 O.2.1 O.2.2 ?_;exact hq tmps w ⟨G,hs.kS (fun t a ha=>by rw[←e1];exact ha)⟩
 ·refine xK hw (fun i j oi oj hi hj a1 b3 b4 a6 a7=>IF (sg ai) hi hj a1 a6 a7) (l.take m) 0 _ _ (by rw[hlen];omega) (fun j hj=>?_) ad (by simp;omega) (fun j hj=>by omega) (fun j _ hj=>?_) (by rw[hlen];rw[X,hlen] at M;exact M) h
  ·rw[hlen] at hj
   rw[Nat.zero_add];simp[List.getElem?_take,hj]
  ·have a8:j < l.length:=by simpa using hj
   have e:min m l.length+(l.length - m)=l.length:=by omega
   simp[e,a8]
variable {op:Op} {ty:TypeId} {pos:String} {af:Array Edge} {a:A} {d i k:Nat} {rest:List Oper} {f:List (Nat×A)} {Q:St→Prop} {b:Bool}
theorem au (h:Q ⟨f,S.bxT S.cs.length,S.lv S.cs.length,S.gen S.cs.length⟩) (I:Nat.beq k S.cs.length=true):CD P T C n S ops Q [] i f k true:=by have:=Nat.eq_of_beq_eq_true I;subst this;exact⟨f,fun _=>rfl,rfl,h⟩
def yP (p:Nat→Bool→Prop):Nat→Prop
 | 0=>p 0 false∧p 0 true
 | k+1=>p (k+1) false∧p (k+1) true∧yP p k
theorem yP.at {p:Nat→Bool→Prop}:∀ {m:Nat},yP p m→∀ k b,k≤m→p k b
 | 0,h,k,b,I=>by
   obtain rfl:k=0:=by omega
   cases b;·exact h.1
   ·exact h.2
 | m+1,h,k,b,I=>by
   rcases Nat.lt_or_ge k (m+1) with J | M
   ·exact h.2.2.at k b (by omega)
   ·obtain rfl:k=m+1:=by omega
    cases b;·exact h.1
    ·exact h.2.1
def xU (x:Nat) (l:List Nat):Bool:=l.any fun y=>Nat.beq x y
theorem yl {x:Nat} {l:List Nat} (h:xU x l=false):x∉l:=fun hm=>by have:xU x l=true:=List.any_eq_true.2 ⟨x,hm,by simp⟩;grind
theorem vd (hp:yP (fun k b=>gU S ops i k b=true→Pu P C n ⟨cO f (slotsOf op),S.bx k b,S.lv k,S.gen k⟩ ⟨some d,op,ty,pos,af,none⟩ a∧(b=false→cD (S.ord k) a=a)) S.cs.length)
 (hi:ops[i]? = some ⟨some d,op,ty,pos,af,none⟩) (h1:xU i S.cs=false) (h2:Nat.beq i S.al=false) (h3:(Nat.ble k S.cs.length && gU S ops i k b)=true) (hd:Nat.blt d n=true)
 (h:CD P T C n S ops Q rest (i+1) ((d,a)::f) k b):CD P T C n S ops Q (⟨some d,op,ty,pos,af,none⟩::rest) i f k b:=by
 simp only[Bool.and_eq_true] at h3;have I:=yl h1;have J:i≠S.al:=fun e=>by subst e;simp at h2
 refine⟨a,⟨_,hi,hd,Nat.le_of_ble_eq_true h3.1,h3.2,.inr (.inr ⟨I,J,fun k b M N=>⟨YA.nv (hp.at k b M N).1 hd,(hp.at k b M N).2⟩⟩)⟩,?_⟩;rw[jO hi];simp only[if_neg J,if_neg (fun e=>I (List.mem_of_getElem? e):¬ S.cs[k]? = some i)];grind[CD,ew]
theorem bX (h0:Pu P C n ⟨cO f (slotsOf op),S.bx k b,S.lv k,S.gen k⟩ ⟨some d,op,ty,pos,af,none⟩ a) (hp:yP (fun k b=>gU S ops i k b=true→Pu P C n ⟨cO f (slotsOf op),S.bx k b,S.lv k,S.gen k⟩ ⟨some d,op,ty,pos,af,none⟩ a∧(b=false→cD (S.ord k) a=a)) S.cs.length)
 (hi:ops[i]? = some ⟨some d,op,ty,pos,af,none⟩) (h1:xU i S.cs=false) (h2:Nat.beq i S.al=false) (h3:(Nat.ble k S.cs.length && gU S ops i k b)=true) (hd:Nat.blt d n=true)
 (h:CD P T C n S ops Q rest (i+1) ((d,a)::f) k b):CD P T C n S ops Q (⟨some d,op,ty,pos,af,none⟩::rest) i f k b:=vd hp hi h1 h2 h3 hd h
theorem H9 (I:∀ b,gU S ops i k b=true→∀ g,WO P C n ops (fun e st=>e=.normal∧st=⟨cO f (slotsOf op)++g,S.bx (k+1) b,S.lv (k+1),S.gen (k+1)⟩) [⟨none,op,ty,pos,af,none⟩] ⟨cO f (slotsOf op)++g,S.bx k b,S.lv k,S.gen k⟩)
 (hi:ops[i]? = some ⟨none,op,ty,pos,af,none⟩) (h1:S.cs[k]? = some i) (h2:Nat.beq i S.al=false) (h3:gU S ops i k b=true) (h:CD P T C n S ops Q rest (i+1) f (k+1) b):CD P T C n S ops Q (⟨none,op,ty,pos,af,none⟩::rest) i f k b:=by
 have J:i≠S.al:=fun e=>by subst e;simp at h2
 refine⟨.any,⟨_,hi,rfl,Nat.le_of_lt (List.getElem?_eq_some_iff.1 h1).1,h3,.inl ⟨h1,J,fun b hb=>⟨rfl,cO f (slotsOf op),fun t x I=>?_,fun g=>WO.AD rfl (fun e st h=>by rw[h.1];simp) (fun e st h=>.inl h) (I b hb g)⟩,fun _=>rfl⟩⟩,?_⟩
 ·obtain⟨h1,h2⟩:=eF I
  exact⟨h1,List.mem_append.2 (.inl h2)⟩
 ·rw[jO hi]
  simp only[if_neg J,if_pos h1];exact h
theorem yg (I:∀ b,gU S ops i k b=true→∀ g,WO P C n ops (fun e st=>e=.normal∧st=⟨(d,a)::(cO f (slotsOf op)++g),S.bx (k+1) b,S.lv (k+1),S.gen (k+1)⟩) [⟨some d,op,ty,pos,af,none⟩] ⟨cO f (slotsOf op)++g,S.bx k b,S.lv k,S.gen k⟩)
 (hi:ops[i]? = some ⟨some d,op,ty,pos,af,none⟩) (h1:S.cs[k]? = some i) (h2:Nat.beq i S.al=false) (h3:gU S ops i k b=true) (J:gU S ops i k false=true→cD (S.ord (k+1)) a=a) (hd:Nat.blt d n=true) (h:CD P T C n S ops Q rest (i+1) ((d,a)::f) (k+1) b):CD P T C n S ops Q (⟨some d,op,ty,pos,af,none⟩::rest) i f k b:=by
 have M:i≠S.al:=fun e=>by subst e;simp at h2
 refine⟨a,⟨_,hi,hd,Nat.le_of_lt (List.getElem?_eq_some_iff.1 h1).1,h3,.inl ⟨h1,M,fun b hb=>⟨rfl,cO f (slotsOf op),fun t x I=>?_,fun g=>WO.AD rfl (fun e st h=>by rw[h.1];simp) (fun e st h=>.inl h) (I b hb g)⟩,J⟩⟩,?_⟩
 ·obtain⟨h1,h2⟩:=eF I
  exact⟨h1,List.mem_append.2 (.inl h2)⟩
 ·rw[jO hi]
  grind[CD,ew]
theorem Jf {e:TypeId} {I:cI} (he:aY T.l e=some I) (N:S.z=I.z.map fun v=>A.d (.v v)) (hi:ops[i]? = some ⟨some d,.alloc e,ty,pos,af,none⟩) (h1:xU i S.cs=false) (h2:Nat.beq i S.al=true) (h3:(Nat.ble k S.cs.length && gU S ops i k false)=true) (hd:Nat.blt d n=true)
 (h:CD P T C n S ops Q rest (i+1) ((d,.ptr S.g0 0)::f) k true):CD P T C n S ops Q (⟨some d,.alloc e,ty,pos,af,none⟩::rest) i f k false:=by
 simp only[Bool.and_eq_true] at h3;have J:=yl h1;have M:i=S.al:=Nat.eq_of_beq_eq_true h2;refine⟨.ptr S.g0 0,⟨_,hi,hd,Nat.le_of_ble_eq_true h3.1,h3.2,.inr (.inl ⟨J,M,rfl,rfl,rfl,e,d,I,rfl,rfl,he,N⟩)⟩,?_⟩;rw[jO hi];simp only[if_pos M,if_neg (fun e=>J (List.mem_of_getElem? e):¬ S.cs[k]? = some i)];grind[CD,ew]
theorem W.rB (T:cn P) {N:Nat} [hnb:NB C N] {id:Nat} {l l1 l2:List Oper} {f:List (Nat×A)} {bx:List (Nat×List A)} {lv:List Nat} {gen:Nat} {Q:Exit→St→Prop} (ey:List (List (Nat×List A))) (J:List (List Nat)) (I:List Nat) (cs:List Nat) (m:Nat) (hB:fE m l.toArray=true) (M:ky l.toArray cs=true) (h1:l.take m=l1) (h2:l.drop m=l2)
 (h:CD P T C n (ER (bx::ey) (lv::J) (gen::I) cs l.length) l.toArray (WO P C n l.toArray Q l2) l1 0 f 0 true):W P C n (.region id l.toArray true) Q ⟨f,bx,lv,gen⟩:=
 W.nT T (ER (bx::ey) (lv::J) (gen::I) cs l.length) true m hB M h1 h2 (fun _ _ h=>h.elim) (fun h=>by cases h) (fun _ _ h=>h) rfl (by show Nat.ble gen gen=true;simp) h
abbrev bot:A:=.d (.v (.agg #[]))
theorem Hd {E:En} {v:Value} (h:bu E v bot):False:=by cases h with | d h=>cases h with | v _ h=>exact absurd h (by simp[dd])
theorem ES {P:Program} {C:Ctx} {n:Nat} {ops:Array Oper} {Q:Exit→St→Prop} {l:List Oper} {st:St} (d:Nat) (h:look st.f d=some bot):WO P C n ops Q l st:=fun _ _ ⟨_,hs⟩=>by obtain⟨v,_,I⟩:=hs.frame d bot h;grind[Hd]
theorem W.zW (T:cn P) {N:Nat} [hnb:NB C N] {id:Nat} {l l1 l2:List Oper} {f:List (Nat×A)} {bx:List (Nat×List A)} {lv:List Nat} {gen:Nat} {Q:Exit→St→Prop} (v:Value) (ey:List (List (Nat×List A))) (J:List (List Nat)) (I:List Nat) (cs:List Nat) (m:Nat) (hB:fE m l.toArray=true) (M:ky l.toArray cs=true) (h1:l.take m=l1) (h2:l.drop m=l2)
 (O:∀ st,Q (.panic [{ v:=v,recovered:=false }]) st) (h:CD P T C n (Bn (bx::ey) (lv::J) (gen::I) cs l.length v) l.toArray (WO P C n l.toArray Q l2) l1 0 f 0 true):W P C n (.region id l.toArray true) Q ⟨f,bx,lv,gen⟩:=
 W.nT T (Bn (bx::ey) (lv::J) (gen::I) cs l.length v) true m hB M h1 h2 (fun c st h=>by rw[show c=_ from h];exact O st) (fun h=>by cases h) (fun _ _ h=>h) rfl (by show Nat.ble gen gen=true;simp) h
theorem I0 (I:∀ b,gU S ops i k b=true→∀ g,WO P C n ops (fun e _=>∃ c,e=.panic c∧S.R c) [⟨some d,op,ty,pos,af,none⟩] ⟨cO f (slotsOf op)++g,S.bx k b,S.lv k,S.gen k⟩)
 (hi:ops[i]? = some ⟨some d,op,ty,pos,af,none⟩) (h1:S.cs[k]? = some i) (h2:Nat.beq i S.al=false) (h3:gU S ops i k b=true) (hd:Nat.blt d n=true) (h:CD P T C n S ops Q rest (i+1) ((d,bot)::f) (k+1) b):CD P T C n S ops Q (⟨some d,op,ty,pos,af,none⟩::rest) i f k b:=by
 have J:i≠S.al:=fun e=>by subst e;simp at h2
 refine⟨bot,⟨_,hi,hd,Nat.le_of_lt (List.getElem?_eq_some_iff.1 h1).1,h3,.inl ⟨h1,J,fun b hb=>⟨rfl,cO f (slotsOf op),fun t x I=>?_,fun g=>WO.AD rfl (fun e st ⟨c,h,_⟩=>by rw[h];simp) (fun e st h=>.inr h) (I b hb g)⟩,fun _=>rfl⟩⟩,?_⟩
 ·obtain⟨h1,h2⟩:=eF I
  exact⟨h1,List.mem_append.2 (.inl h2)⟩
 ·rw[jO hi]
  grind[CD,ew]
theorem GI (t:Nat) (I:look (cO f (slotsOf op)) t=some bot)
 (hi:ops[i]? = some ⟨some d,op,ty,pos,af,none⟩) (h1:S.cs[k]? = some i) (h2:Nat.beq i S.al=false) (h3:gU S ops i k b=true) (hd:Nat.blt d n=true) (h:CD P T C n S ops Q rest (i+1) ((d,bot)::f) (k+1) b):CD P T C n S ops Q (⟨some d,op,ty,pos,af,none⟩::rest) i f k b:=by
 have J:i≠S.al:=fun e=>by subst e;simp at h2
 refine⟨bot,⟨_,hi,hd,Nat.le_of_lt (List.getElem?_eq_some_iff.1 h1).1,h3,.inl ⟨h1,J,fun b hb=>⟨rfl,cO f (slotsOf op),fun t x M=>?_,fun g=>ES t ?_⟩,fun _=>rfl⟩⟩,?_⟩
 ·obtain⟨h1,h2⟩:=eF M
  exact⟨h1,List.mem_append.2 (.inl h2)⟩
 ·show look (cO f (slotsOf op)++g) t=some bot
  rw[pA,I]
 ·rw[jO hi]
  grind[CD,ew]
end
end Go.Ab
namespace Go.Ab
theorem u9 {e I:Exit} {d:Nat} {a a':A} {f:List (Nat×A)} {bx bx':List (Nat×List A)} {lv lv':List Nat} {gen gen':Nat} (he:e=I) (J:a=a') (hb:bx=bx') (hl:lv=lv') (M:gen=gen') :
 e=I∧(⟨(d,a)::f,bx,lv,gen⟩:St)=⟨(d,a')::f,bx',lv',gen'⟩:=by subst he J hb hl M;exact⟨rfl,rfl⟩
theorem HD {e I:Exit} {f:List (Nat×A)} {bx bx':List (Nat×List A)} {lv lv':List Nat} {gen gen':Nat} (he:e=I) (hb:bx=bx') (hl:lv=lv') (J:gen=gen') :
 e=I∧(⟨f,bx,lv,gen⟩:St)=⟨f,bx',lv',gen'⟩:=by subst he hb hl J;exact⟨rfl,rfl⟩
open Go.RowKit
def sR (es:List (List D)) (k:Nat):List A:=es.flatten.map A.d++List.replicate k .any
section
variable {C:Ctx} {n:Nat} {st:St} {G:Gh} {tmps:Array Value} {w:World}
theorem pZ {sz:Nat}:∀ {es:List (List D)},(∀ (e:List D),e∈es→e.length=sz)→es.flatten.length=es.length*sz
 | [],_=>by simp
 | e::es,h=>by rw[List.flatten_cons,List.length_append,pZ (fun x I=>h x (List.mem_cons_of_mem _ I)),h e List.mem_cons_self,List.length_cons,Nat.succ_mul,Nat.add_comm]
theorem bg.C1 (h:bg C n st G tmps w) {g b len cap sz:Nat} (hg:G.own g=some (.blk b len cap sz 0)) {es:List (List D)} {v:Value} (hx:gk w (bM C G) (.blk b len cap sz 0) v es) (lv:List Nat) (b4:∀ J∈lv,J∈st.lv∧J≠g) :
 ∃ N,bg C n ⟨st.f,(st.gen,sR es (cap*sz - len*sz))::st.bx,lv,st.gen+1⟩ N tmps w∧bu (bj C N (st.gen+1) w) v (.sb st.gen es.length cap):=by
 obtain⟨rfl,hlen,_,hl,hr⟩:=hx;obtain⟨cq,c7,cx,cur,T,U,df,a6,b5,hz,cy,_,hone⟩:=h.row g b len cap sz 0 hg;let N:Gh:=⟨fun x=>if x=st.gen then some b else G.box x,fun x=>if x=g then none else G.own x⟩;have di:=h.gown g _ hg;have c1:b < w.heap.size:=(Array.getElem?_eq_some_iff.1 U).1;have b6:∀ M o,bM C N M o→bM C G M o:=by
  rintro M o (hp | ⟨J,hp⟩ | ⟨J,X,ad,aj,ai,hp,hl'⟩ | ⟨J,b2,bs,lim,hp,hm,hl'⟩);·exact .inl hp
  ·simp only[N] at hp
   split at hp
   ·simp only[Option.some.injEq] at hp
    subst hp;exact .inr (.inr (.inl ⟨g,len,cap,sz,0,hg,Nat.zero_le _⟩))
   ·exact .inr (.inl ⟨J,hp⟩)
  ·simp only[N] at hp
   split at hp;·grind
   ·exact .inr (.inr (.inl ⟨J,X,ad,aj,ai,hp,hl'⟩))
  ·simp only[N] at hp
   split at hp;·grind
   ·exact .inr (.inr (.inr ⟨J,b2,bs,lim,hp,hm,hl'⟩))
 have hle:(bj C G st.gen w).le (bj C N (st.gen+1) w):=k9 h.fr h.fr (fun b o u hu hn=>⟨hu,fun hp=>hn (b6 b o hp)⟩) (fun J M O=>by
  simp only[N];rw[if_neg (Nat.ne_of_lt (h.gbox J M O).1)];exact O)
  (fun J r' a7 I=>by
   simp only[N] at I;split at I;·cases I
   ·exact I) (Nat.le_succ _) (fun _ _ _ _ _ _ _ _=>rfl) (fun _ _ _ _ _=>⟨fun _ _=>rfl,fun _ _=>rfl⟩) (.refl w)
 have a8:=pZ hl;have c6:len*sz≤cap*sz:=Nat.mul_le_mul_right _ a6;refine⟨N,{ size:=h.size,frame:=h.eA hle,xold:=h.xold,kold:=h.kold,fr:=h.fr,gcell:=fun J M O=>(by simp only[N] at O;split at O <;> first | (simp only[Option.some.injEq] at O;subst O;exact⟨_,_,_,U⟩) | exact h.gcell J M O),lent:=?_,box:=?_,gbox:=?_,inj:=?_,live:=?_,gown:=?_,row:=?_,mrow:=?_,sub:=?_ },?_⟩
 ·intro J cells hc
  simp only[cM] at hc;split at hc
  ·rename_i e
   simp only[Option.some.injEq] at hc;subst hc;subst e;refine⟨b,cur,T,by simp[N],U,?_,fun i u hu=>hone i u hu,fun i u a hu ha=>?_⟩;·simp only[sR,List.length_append,List.length_map,List.length_replicate,a8,hlen];omega
   ·unfold sR at ha
    rcases Nat.lt_or_ge i es.flatten.length with hi | hi
    ·rw[List.getElem?_append_left (by rw[List.length_map];exact hi),List.getElem?_map,Option.map_eq_some_iff] at ha
     obtain⟨d,hd,rfl⟩:=ha;have ch:i < len*sz:=by rw[←hlen,←a8];exact hi
     have hdiv:i / sz < es.length:=by rw[hlen];exact Nat.div_lt_of_lt_mul (by rw[Nat.mul_comm];exact ch)
     have he:es[i / sz]? = some es[i / sz]:=by simp[hdiv]
     have cj:=hl _ (List.mem_of_getElem? he);have b0:es[i / sz][i % sz]? = some (es[i / sz][i % sz]'(by rw[cj];exact Nat.mod_lt _ hz)):=by simp
     have b3:=nZ hl _ _ _ _ he b0;rw[Nat.div_add_mod' i sz,hd] at b3;obtain⟨u',a1,cl⟩:=hr _ _ _ _ he b0;rw[Nat.div_add_mod' i sz,cz U] at a1;rw[hu] at a1;cases a1;rw[Option.some.inj b3];exact .d (cl.mono hle.cell)
    ·rw[List.getElem?_append_right (by rw[List.length_map];exact hi)] at ha
     have:=List.eq_of_mem_replicate (List.mem_of_getElem? ha);subst this;exact .any _
  ·obtain⟨M,cs,T',h1,h2,h3,h4,h5⟩:=h.box J cells hc
   exact⟨M,cs,T',by simp only[N];rw[if_neg (Nat.ne_of_lt (h.gbox J M h1).1)];exact h1,h2,h3,h4,fun i u a hu ha=>(h5 i u a hu ha).mono hle⟩
 ·intro J M hb
  simp only[N] at hb;split at hb;·grind
  ·obtain⟨h1,h2⟩:=h.gbox J M hb
   grind
 ·intro g1 g2 M h1 h2
  simp only[N] at h1 h2;split at h1 <;> split at h2;·grind
  ·grind
  ·grind
  ·exact h.inj g1 g2 M h1 h2
 ·intro J a7
  obtain⟨h1,h2⟩:=b4 J a7;obtain⟨r',I⟩:=h.live J h1;grind
 ·intro J r' I
  simp only[N] at I;split at I;·grind
  ·exact Nat.lt_succ_of_lt (h.gown J r' I)
 ·intro J M X ad aj ai I
  simp only[N] at I;split at I;·grind
  ·rename_i e2
   obtain⟨h4,h5,h6,h7⟩:=h.row J M X ad aj ai I;grind
 ·intro J M bs I
  simp only[N] at I;split at I;·grind
  ·obtain⟨h4,dj,h5,me,clock,h6⟩:=h.mrow J M bs I
   grind
 ·intro J M bs c lim I hm
  simp only[N] at I;split at I;·grind
  ·obtain⟨h4,h5,h6,h7,h8⟩:=h.sub J M bs c lim I hm
   grind
 ·intro i M hb
  have h1:=h.lent i M hb;simp only[N];rw[if_neg (Nat.ne_of_lt (h.gbox i M h1).1)];grind
 ·exact .sb _ st.gen es.length cap b (Nat.lt_succ_self _) (by simp[bj,N]) (by rw[hlen];exact⟨a6,b5⟩) (by rw[hlen])
end
section
variable {P:Program} (T:cn P) {C:Ctx} {n:Nat} {ops:Array Oper} {Q:Exit→St→Prop} {rest:List Oper}
variable {f:List (Nat×A)} {bx:List (Nat×List A)} {lv:List Nat} {gen:Nat} {d:Nat} {op:Op} {ty:TypeId} {pos:String} {af:Array Edge} {a:A} {dst:Option Nat} {c:Code}
end
end Go.Ab
namespace Go.Ab
section
variable {P:Program} {C:Ctx} {n:Nat} {ops:Array Oper} {Q:Exit→St→Prop} {rest:List Oper}
variable {f:List (Nat×A)} {bx:List (Nat×List A)} {lv:List Nat} {gen:Nat} {d:Nat} {ty:TypeId} {pos:String} {af:Array Edge}
end
end Go.Ab
namespace Go.Ab
open Go.RowKit
mutual
def il (g:Nat):A→Bool
 | .ptr I _=>!Nat.beq I g
 | .np I _ _=>!Nat.beq I g
 | .sb I _ _=>!Nat.beq I g
 | .lk I _ _ _=>!Nat.beq I g
 | .agg l=>mT g l
 | .tup l=>mT g l
 | .row l=>mT g l
 | .clo _ l=>mT g l
 | .bnd _ l=>mT g l
 | _=>true
def mT (g:Nat):List A→Bool
 | []=>true
 | a::l=>il g a && mT g l
end
theorem fJ {g:Nat}:∀ {l:List A},mT g l=true→∀ a∈l,il g a=true
 | [],_,a,I=>by cases I
 | b::l,h,a,I=>by
   simp only[mT,Bool.and_eq_true] at h
   cases I with
   | head=>exact h.1
   | tail _ I=>exact fJ h.2 a I
theorem aL {E E':En} {g:Nat} (hw:E.w=E'.w) (hc:∀ b o u,cellAt E.w b o=some u→¬ E.pv b o→cellAt E'.w b o=some u∧¬ E'.pv b o) (hold:∀ b,E.old b→E'.old b) (hb:∀ M b,M≠g→E.box M=some b→E'.box M=some b) (ho:E'.own=E.own) (U:E'.gen=E.gen)
 {v:Value} {a:A} (h:bu E v a) (ha:il g a=true):bu E' v a:=by
 have aj:∀ {M},(!Nat.beq M g)=true→M≠g:=fun h e=>by subst e;simp at h
 have X:∀ b o u,cellAt E.w b o=some u→¬ E.pv b o→cellAt E.w b o=some u∧¬ E'.pv b o:=fun b o u h1 h2=>⟨h1,(hc b o u h1 h2).2⟩
 induction h with
 | any x=>exact .any x
 | d hd=>exact .d (hd.mono hc)
 | ag vs l hs hd=>exact .ag vs l hs (fun i u x h1 h2=>(hd i u x h1 h2).mono hc)
 | own x M es hd J hr=>exact .own x M es (hd.mono hc) (by rw[U];exact J) (fun r N=>hr r (by rw[←ho];exact N))
 | agg vs l hs hone _ ih=>exact .agg vs l hs hone (fun i u x hu O=>ih i u x hu O (fJ (by simpa [il] using ha) x (List.mem_of_getElem? O)))
 | tup vs l hs _ ih=>exact .tup vs l hs (fun i u x hu O=>ih i u x hu O (fJ (by simpa [il] using ha) x (List.mem_of_getElem? O)))
 | rowd b off l u ai hd=>exact .rowd b off l u (fun j hj=>hc _ _ _ (ai j hj).1 (ai j hj).2) (fun j x O=>(hd j x O).mono hc)
 | row b off l u ai _ ih=>exact .row b off l u (fun j hj=>⟨by rw[←hw];exact(ai j hj).1,hold _ (ai j hj).2.1,(ai j hj).2.2⟩) (fun j x O=>ih j x O (fJ (by simpa [il] using ha) x (List.mem_of_getElem? O)))
 | ptr x M off b J ad hp=>exact .ptr x M off b (by rw[U];exact J) (hb M b (aj (by simpa [il] using ha)) ad) hp
 | xs x M es J h1 O=>exact .xs x M es (by rw[U];exact J) h1 (fun r N=>hw▸(O r (by rw[←ho];exact N)).dK X)
 | xp x M i off l J h1 O=>exact .xp x M i off l (by rw[U];exact J) h1 (fun r N=>hw▸(O r (by rw[←ho];exact N)).dK X)
 | mp x M es J h1 O=>exact .mp x M es (by rw[U];exact J) h1 (fun r N=>hw▸(O r (by rw[←ho];exact N)).dK X)
 | mq x M es J h1 O=>exact .mq x M es (by rw[U];exact J) h1 (fun r N=>hw▸(O r (by rw[←ho];exact N)).dK X)
 | mo x M es hole ob J h1 O=>exact .mo x M es hole ob (by rw[U];exact J) h1 (fun r N=>hw▸(O r (by rw[←ho];exact N)).dK X)
 | ni t x=>exact .ni t x
 | fl x es hd a1=>exact .fl x es (hd.mono hc) a1
 | bf x M T s J h1 O=>exact .bf x M T s (by rw[U];exact J) h1 (fun r N=>hw▸O r (by rw[←ho];exact N))
 | np x M T b J ad hT u hp=>exact .np x M T b (by rw[U];exact J) (hb M b (aj (by simpa [il] using ha)) ad) (hw▸hT) u hp
 | sb x M n c b J ad hn hp=>exact .sb x M n c b (by rw[U];exact J) (hb M b (aj (by simpa [il] using ha)) ad) hn hp
 | fx x u M es ou O J hu a6=>exact .fx x u M es ou (O.mono hc) (by rw[U];exact J) (fun r N=>hw▸(hu r (by rw[←ho];exact N)).dK X) a6
 | ol x u g1 E1 M es O a7 a8 J hu=>exact .ol x u g1 E1 M es (O.mono hc) (by rw[U];exact a7) (fun r N=>a8 r (by rw[←ho];exact N)) (by rw[U];exact J) (fun r N=>hw▸(hu r (by rw[←ho];exact N)).dK X)
 | gi x M I J O=>exact .gi x M I (by rw[U];exact J) (fun r N=>hw▸(O r (by rw[←ho];exact N)).dK X)
 | ow x v M es hd J hr=>exact .ow x v M es (hd.mono hc) (by rw[U];exact J) (fun r N=>hr r (by rw[←ho];exact N))
 | lk x M n c b v J ad hn hp=>exact .lk x M n c b v (by rw[U];exact J) (hb M b (aj (by simpa [il] using ha)) ad) hn hp
 | clo f vs l hs _ ih=>exact .clo f vs l hs (fun i u x hu O=>ih i u x hu O (fJ (by simpa [il] using ha) x (List.mem_of_getElem? O)))
 | bnd f vs l hs _ ih=>exact .bnd f vs l hs (fun i u x hu O=>ih i u x hu O (fJ (by simpa [il] using ha) x (List.mem_of_getElem? O)))
def j8 (g:Nat):List Nat→List (Nat×A)→List (Nat×A)
 | _,[]=>[]
 | seen,(s,a)::r=>bif seen.any (Nat.beq s) then j8 g seen r else bif il g a then (s,a)::j8 g (s::seen) r else j8 g (s::seen) r
theorem lE {g:Nat}:∀ {f:List (Nat×A)} {seen:List Nat} {t:Nat} {a:A},look (j8 g seen f) t=some a→look f t=some a∧il g a=true∧t∉seen
 | [],_,t,a,h=>by simp[j8,look] at h
 | (s,b)::r,seen,t,a,h=>by
   simp only[j8] at h
   cases q:seen.any (Nat.beq s) with
   | true=>rw[q] at h;simp only[cond_true] at h;obtain⟨h1,h2,h3⟩:=lE h;grind[List.any_eq_true,Nat.eq_of_beq_eq_true,bU]
   | false=>
     rw[q] at h;simp only[cond_false] at h;have hm:s∉seen:=fun hm=>by have:seen.any (Nat.beq s)=true:=List.any_eq_true.2 ⟨s,hm,by simp⟩;grind
     cases q2:il g b with
     | true=>
       rw[q2] at h;simp only[cond_true] at h;rw[bU] at h;split at h;·grind[bU]
       ·rename_i e
        obtain⟨h1,h2,h3⟩:=lE h;grind[bU,List.mem_cons_of_mem]
     | false=>rw[q2] at h;simp only[cond_false] at h;obtain⟨h1,h2,h3⟩:=lE h;grind[bU,List.mem_cons_self,List.mem_cons_of_mem]
def j0 (g:Nat):List Nat→List (Nat×List A)→Option (List (Nat×List A))
 | _,[]=>some []
 | seen,(s,c)::r=>bif seen.any (Nat.beq s) then j0 g seen r else bif Nat.beq s g then j0 g (s::seen) r else bif mT g c then (match j0 g (s::seen) r with | some l=>some ((s,c)::l) | none=>none) else none
theorem jN {α:Type} {f:List (Nat×α)} {s t:Nat} {a:α}:aY ((s,a)::f) t=if s=t then some a else aY f t:=by rw[cM]
theorem lF {g:Nat}:∀ {f f':List (Nat×List A)} {seen:List Nat} {t:Nat} {a:List A},j0 g seen f=some f'→aY f' t=some a→aY f t=some a∧mT g a=true∧t≠g∧t∉seen
 | [],f',_,t,a,I,h=>by simp[j0] at I;subst I;simp[aY] at h
 | (s,b)::r,f',seen,t,a,I,h=>by
   simp only[j0] at I
   cases q:seen.any (Nat.beq s) with
   | true=>rw[q] at I;simp only[cond_true] at I;obtain⟨h1,h2,h3,h4⟩:=lF I h;grind[List.any_eq_true,Nat.eq_of_beq_eq_true,jN]
   | false=>
     rw[q] at I;simp only[cond_false] at I;have hm:s∉seen:=fun hm=>by have:seen.any (Nat.beq s)=true:=List.any_eq_true.2 ⟨s,hm,by simp⟩;grind
     cases q1:Nat.beq s g with
     | true=>rw[q1] at I;simp only[cond_true] at I;obtain⟨h1,h2,h3,h4⟩:=lF I h;grind[jN,List.mem_cons_self,List.mem_cons_of_mem]
     | false=>
       rw[q1] at I;simp only[cond_false] at I
       cases q2:mT g b with
       | false=>rw[q2] at I;cases I
       | true=>
         rw[q2] at I;simp only[cond_true] at I;split at I
         ·rename_i l hl
          simp only[Option.some.injEq] at I;subst I;rw[jN] at h;split at h
          ·rename_i e
           subst e;cases h;exact⟨by rw[jN,if_pos rfl],q2,fun e=>by subst e;simp at q1,hm⟩
          ·rename_i e
           obtain⟨h1,h2,h3,h4⟩:=lF hl h;grind[jN,List.mem_cons_of_mem]
         ·grind
section
variable {P:Program} (T:cn P) {C:Ctx} {n:Nat} {ops:Array Oper} {Q:Exit→St→Prop} {rest:List Oper}
variable {f f':List (Nat×A)} {bx bx':List (Nat×List A)} {lv:List Nat} {gen:Nat} {d:Nat} {op:Op} {ty:TypeId} {pos:String} {af:Array Edge} {a:A} {dst:Option Nat} {c:Code}
end
end Go.Ab
namespace Go.Ab
open Go.RowKit
section
variable {P:Program} (T:cn P) {C:Ctx} {n:Nat} {ops:Array Oper} {Q:Exit→St→Prop} {rest:List Oper}
variable {f:List (Nat×A)} {bx:List (Nat×List A)} {lv:List Nat} {gen:Nat} {d:Nat} {op:Op} {ty:TypeId} {pos:String} {af:Array Edge} {a:A} {dst:Option Nat} {c:Code}
theorem gk.same {w:World} {pv:Nat→Nat→Prop} {r:Row} {v J:Value} {es M:List (List D)} (h:gk w pv r v es) (I:gk w pv r J M):v=J:=by
 cases r with
 | nil=>exact h.1.trans I.1.symm
 | zero b=>exact h.1.trans I.1.symm
 | blk b len cap sz N=>exact h.1.trans I.1.symm
 | mp b bs=>exact h.elim
end
section
variable {P:Program} (T:cn P) {C:Ctx} {n:Nat} {ops:Array Oper} {Q:Exit→St→Prop} {rest:List Oper}
variable {f f':List (Nat×A)} {bx bx':List (Nat×List A)} {lv:List Nat} {gen:Nat} {d:Nat} {op:Op} {ty:TypeId} {pos:String} {af:Array Edge} {a:A} {dst:Option Nat} {c:Code} {o:Oper}
theorem gk.slice {w:World} {pv:Nat→Nat→Prop} {r:Row} {v:Value} {es:List (List D)} (h:gk w pv r v es):∃ a l c,v=.slice a l c:=by
 cases r with
 | nil=>exact⟨_,_,_,h.1⟩
 | zero b=>exact⟨_,_,_,h.1⟩
 | blk b len cap sz I=>exact⟨_,_,_,h.1⟩
 | mp b bs=>exact h.elim
theorem bg.fw {G:Gh} {tmps:Array Value} {w:World} (hs:bg C n ⟨f,bx,lv,gen⟩ G tmps w) {g0:Nat} {cells cells':List A} (hb:aY bx g0=some cells) (hlen:cells'.length=cells.length)
 (J:∀ b cs T,G.box g0=some b→w.heap[b]? = some (.cells cs T (0,0))→(∀ (i:Nat) (x:Value) (a:A),cs[i]? = some x→cells[i]? = some a→bu (bj C G gen w) x a)→∀ (i:Nat) (x:Value) (a:A),cs[i]? = some x→cells'[i]? = some a→bu (bj C G gen w) x a) :
 bg C n ⟨f,(g0,cells')::bx,lv,gen⟩ G tmps w:=by
 refine { hs with box:=fun I l hl=>?_ };simp only[cM] at hl;split at hl
 ·rename_i e
  subst e;simp only[Option.some.injEq] at hl;subst hl;obtain⟨b,cs,M,h1,h2,h3,h4,h5⟩:=hs.box g0 cells hb;grind
 ·exact hs.box I l hl
end
end Go.Ab
namespace Go.Ab
open Go.RowKit Go.MapKept
section
variable {P:Program} (T:cn P) {C:Ctx} {n:Nat} {ops:Array Oper} {Q:Exit→St→Prop} {rest:List Oper}
variable {f:List (Nat×A)} {bx:List (Nat×List A)} {lv:List Nat} {gen:Nat} {d:Nat} {ty:TypeId} {pos:String} {af:Array Edge} {dst:Option Nat}
variable {α β:Type} [DecidableEq α] {kf:α→Value} {vf:β→D}
theorem F3 (gq M:Nat) {mt k e:Nat} {td:cI} {m U x:Operand} {g:Nat} {X:List A} {l:List (α×β)} {a:α} {y:β} {xa:A} (hm:av f m=some (.mp g (dO kf vf l))) (hq:aY bx gq=some X) (hj:X[M]? = some (.mp g (dO kf vf l)))
 (hk:av f U=some (.d (.v (kf a)))) (hx:av f x=some xa) (b6:Ax xa=some (vf y))
 (ht:aY T.l mt=some td) (ch:td.k=.map k e) (cj:jG P k kf) (ad:(lv.any fun h=>Nat.beq h g)=true) (hn:(l.map (·.1)).Nodup) {ai:List (Value×List D)} (cl:dO kf vf (dp l a y)=ai) {lv':List Nat} (cx:gen::bD lv g=lv') {aj:List A} (cy:X.set M (.mp gen ai)=aj)
 (h:WO P C n ops Q rest ⟨f,(gq,aj)::bx,lv',gen+1⟩):WO P C n ops Q (⟨none,.mapUpdate mt m U x,ty,pos,af,none⟩::rest) ⟨f,bx,lv,gen⟩:=by
 subst cy;subst cl;subst cx;refine WO.step (st:=⟨f,bx,lv,gen⟩) rfl fun tmps w ⟨G,hs⟩=>?_;have a1:=hs.av hm;have J:=hs.av hk;have c1:=yx b6 (hs.av hx);generalize hv:Act.eval ⟨tmps,[]⟩ m=v at a1;generalize ei:Act.eval ⟨tmps,[]⟩ U=vk at J;obtain⟨b,bs,a6,rfl,me,clock,hb,c6,c7⟩:=hs.rC a1 (dw ad);cases J with | d J=>cases J with | v _ hok=>
 obtain⟨a7,I,ec,a8,N⟩:=uH T ht ch cj hb c6 c7 hn a hok c1;have h0:(execOp (Act.eval ⟨tmps,[]⟩) ⟨none,.mapUpdate mt m U x,ty,pos,af,none⟩).run P w=.ok .skip { w with heap:=w.heap.setIfInBounds b (.map a7 I) }:=by unfold execOp;simp_all
 obtain⟨b0,O,T0,p1,p2,p3,p4,p5⟩:=hs.box gq X hq;have df:M < O.size:=by rw[p3];exact(List.getElem?_eq_some_iff.1 hj).1
 have di:O[M]? = some O[M]:=by simp[df]
 have b4:=p5 M _ _ di hj;obtain⟨b2,dj,b5,ed,_⟩:=hs.rC b4 (dw ad);have e2:b2=b∧dj=bs:=by have:=b5.symm.trans a6;simpa using this
 obtain⟨rfl,rfl⟩:=e2;obtain⟨G',ej,dt,en⟩:=hs.Cu a6 a7 I a8 (es:=dO kf vf (dp l a y)) (by rw[N.1];simp[dO]) (fun i m k l' hm hk=>by simp only[dO,List.getElem?_map,Option.map_eq_some_iff] at hk;obtain⟨p,hp,e⟩:=hk;simp only[Prod.mk.injEq] at e;obtain⟨rfl,rfl⟩:=e;exact N.2 i m p hm hp) (bD lv g) (fun g' dx=>cf dx);refine iE h0 ⟨_,⟨G',dt.fw hq (by simp) fun b3 e0 T3 q1 q2 q3 i x' a' hx ha=>?_⟩,h⟩;grind
end
section
variable {C:Ctx} {n:Nat} {st:St} {G:Gh} {tmps:Array Value} {w:World}
theorem bg.split (h:bg C n st G tmps w) {g:Nat} {b:Option Nat} {bs bs':List (Nat×Nat)} (hg:G.own g=some (.mp b bs)) (a8:∀ p∈bs',p∈bs) (r2:Row) (cx:∀ U bs',r2≠.mp U bs')
 (b0:∀ c len cap sz O,r2=.blk c len cap sz O→(c,O)∈bs∧(∀ p∈bs',p.1≠c)∧∃ cur T,w.heap[c]? = some (.cells cur T (0,0))∧cur.size=cap*sz∧len≤cap∧cap≤maxLen∧0 < sz∧0 < len∧O≤len*sz∧fe cur)
 (lv:List Nat) (cy:∀ I∈lv,I∈st.lv∧I≠g) :
 ∃ G':Gh,G'.box=G.box∧G'.own st.gen=some (.mp b bs')∧G'.own (st.gen+1)=some r2∧(bj C G st.gen w).le (bj C G' (st.gen+2) w)∧bg C n { st with lv:=st.gen::(st.gen+1)::lv,gen:=st.gen+2 } G' tmps w:=by
 let M:Nat→Option Row:=fun I=>if I=st.gen then some (.mp b bs') else if I=st.gen+1 then some r2 else if I=g then none else G.own I;have df:=h.gown g _ hg;have ai:∀ {I c len cap sz O},M I=some (.blk c len cap sz O)→(I=st.gen+1∧r2=.blk c len cap sz O)∨(I≠st.gen∧I≠st.gen+1∧I≠g∧G.own I=some (.blk c len cap sz O)):=by
  intro I c len cap sz O X;simp only[M] at X;split at X;·cases X
  ·split at X
   ·rename_i e;exact .inl ⟨e,Option.some.inj X⟩
   ·split at X
    ·cases X
    ·rename_i e1 e2 N;exact .inr ⟨e1,e2,N,X⟩
 have a1:∀ {I b2 ad},M I=some (.mp b2 ad)→(I=st.gen∧b2=b∧ad=bs')∨(I≠st.gen∧I≠st.gen+1∧I≠g∧G.own I=some (.mp b2 ad)):=by
  intro I b2 ad X;simp only[M] at X;split at X;·rename_i e;simp only[Option.some.injEq,Row.mp.injEq] at X;exact .inl ⟨e,X.1.symm,X.2.symm⟩
  ·split at X
   ·exact absurd (Option.some.inj X) (cx _ _)
   ·split at X
    ·cases X
    ·rename_i e1 e2 N;exact .inr ⟨e1,e2,N,X⟩
 have c1:∀ U o,bM C ⟨G.box,M⟩ U o→bM C G U o:=by
  rintro U o (hp | hp | ⟨I,ch,cj,c6,b5,hp,hl'⟩ | ⟨I,b2,ad,lim,hp,hm,hl'⟩);·exact .inl hp
  ·exact .inr (.inl hp)
  ·rcases ai hp with ⟨_,e⟩ | ⟨_,_,_,e⟩
   ·exact .inr (.inr (.inr ⟨g,b,bs,b5,hg,(b0 _ _ _ _ _ e).1,hl'⟩))
   ·exact .inr (.inr (.inl ⟨I,ch,cj,c6,b5,e,hl'⟩))
  ·rcases a1 hp with ⟨_,rfl,rfl⟩ | ⟨_,_,_,e⟩
   ·exact .inr (.inr (.inr ⟨g,_,bs,lim,hg,a8 _ hm,hl'⟩))
   ·exact .inr (.inr (.inr ⟨I,b2,ad,lim,e,hm,hl'⟩))
 have hle:(bj C G st.gen w).le (bj C ⟨G.box,M⟩ (st.gen+2) w):=k9 h.fr h.fr (fun U o u hu hn=>⟨hu,fun hp=>hn (c1 U o hp)⟩) (fun _ _ h=>h)
  (fun I r' aj J=>by
   simp only[M,if_neg (Nat.ne_of_lt aj),if_neg (Nat.ne_of_lt (Nat.lt_succ_of_lt aj))] at J;split at J;·cases J
   ·exact J) (by omega) (fun _ _ _ _ _ _ _ _=>rfl) (fun _ _ _ _ _=>⟨fun _ _=>rfl,fun _ _=>rfl⟩) (.refl w)
 refine⟨⟨G.box,M⟩,rfl,by simp[M],by simp[M],hle,{ size:=h.size,frame:=h.eA hle,inj:=h.inj,xold:=h.xold,kold:=h.kold,lent:=h.lent,fr:=h.fr,gcell:=h.gcell,box:=?_,gbox:=?_,live:=?_,gown:=?_,row:=?_,mrow:=?_,sub:=?_ }⟩
 ·intro I cells hc
  obtain⟨U,cs,T',h1,h2,h3,h4,h5⟩:=h.box I cells hc;exact⟨U,cs,T',h1,h2,h3,h4,fun i u a hu ha=>(h5 i u a hu ha).mono hle⟩
 ·intro I U hb
  obtain⟨h1,h2,h3⟩:=h.gbox I U hb;exact⟨by simp only;omega,h2,h3⟩
 ·intro I aj
  rcases List.mem_cons.1 aj with rfl | aj
  ·exact⟨_,by simp[M];rfl⟩
  ·rcases List.mem_cons.1 aj with rfl | aj
   ·exact⟨_,by simp[M];rfl⟩
   ·obtain⟨h1,h2⟩:=cy I aj
    obtain⟨r',J⟩:=h.live I h1;have:=h.gown I r' J;exact⟨r',by simp only[M];rw[if_neg (by omega),if_neg (by omega),if_neg h2];exact J⟩
 ·intro I r' J
  simp only[M] at J;split at J;·simp only;omega
  ·split at J
   ·simp only;omega
   ·split at J
    ·cases J
    ·have:=h.gown I r' J;simp only;omega
 ·intro I U len cap sz O J
  rcases ai J with ⟨e0,e⟩ | ⟨_,e1,e2,e⟩
  ·obtain⟨q1,q2,q3⟩:=b0 _ _ _ _ _ e
   obtain⟨s1,s2,s3,_⟩:=h.sub g b bs U O hg q1;refine⟨s1,s2,fun g2 cl cq c7 b6 h2=>?_,q3⟩;rcases ai h2 with ⟨N,_⟩ | ⟨_,_,_,N⟩
   ·omega
   ·exact absurd N (s3 _ _ _ _ _)
  ·obtain⟨s1,s2,s3,s4⟩:=h.row I U len cap sz O e
   refine⟨s1,s2,fun g2 cl cq c7 b6 h2=>?_,s4⟩;rcases ai h2 with ⟨_,N⟩ | ⟨_,_,_,N⟩
   ·exact absurd e ((h.sub g b bs U b6 hg (b0 _ _ _ _ _ N).1).2.2.1 _ _ _ _ _)
   ·exact s3 _ _ _ _ _ N
 ·intro I U ad J
  rcases a1 J with ⟨e0,rfl,rfl⟩ | ⟨e0,e1,e2,e⟩
  ·obtain⟨s1,s2,s3,s4⟩:=h.mrow g _ bs hg
   refine⟨s1,s2,fun g2 a6 h2=>?_,s4⟩;rcases a1 h2 with ⟨N,_⟩ | ⟨_,_,e4,N⟩
   ·omega
   ·exact absurd (s3 g2 a6 N) e4
  ·obtain⟨s1,s2,s3,s4⟩:=h.mrow I U ad e
   refine⟨s1,s2,fun g2 a6 h2=>?_,s4⟩;rcases a1 h2 with ⟨_,rfl,_⟩ | ⟨_,_,_,N⟩
   ·exact absurd (s3 g bs hg).symm e2
   ·exact s3 g2 a6 N
 ·intro I U ad c lim J hm
  rcases a1 J with ⟨e0,rfl,rfl⟩ | ⟨e0,e1,e2,e⟩
  ·obtain⟨s1,s2,s3,s4,s5⟩:=h.sub g _ bs c lim hg (a8 _ hm)
   refine⟨s1,s2,fun g2 len cap sz O h2=>?_,fun g2 b3 a6 a7 h2 b4=>?_,s5⟩
   ·rcases ai h2 with ⟨_,N⟩ | ⟨_,_,_,N⟩
    ·exact(b0 _ _ _ _ _ N).2.1 _ hm rfl
    ·exact s3 _ _ _ _ _ N
   ·rcases a1 h2 with ⟨N,rfl,rfl⟩ | ⟨_,_,e4,N⟩
    ·exact⟨by omega,(s4 g _ bs a7 hg (a8 _ b4)).2⟩
    ·exact absurd (s4 g2 b3 a6 a7 N b4).1 e4
  ·obtain⟨s1,s2,s3,s4,s5⟩:=h.sub I U ad c lim e hm
   refine⟨s1,s2,fun g2 len cap sz O h2=>?_,fun g2 b3 a6 a7 h2 b4=>?_,s5⟩
   ·rcases ai h2 with ⟨_,N⟩ | ⟨_,_,_,N⟩
    ·exact e2 ((s4 g b bs O hg (b0 _ _ _ _ _ N).1).1).symm
    ·exact s3 _ _ _ _ _ N
   ·rcases a1 h2 with ⟨_,rfl,rfl⟩ | ⟨_,_,_,N⟩
    ·exact absurd ((s4 g _ bs a7 hg (a8 _ b4)).1).symm e2
    ·exact s4 g2 b3 a6 a7 N b4
theorem bg.join (h:bg C n st G tmps w) {g g2:Nat} {b:Option Nat} {bs bs':List (Nat×Nat)} (hg:G.own g=some (.mp b bs)) {r2:Row} (aj:G.own g2=some r2) (gq:g2≠g) (cx:∀ p∈bs',p∈bs∨∃ len cap sz,r2=.blk p.1 len cap sz p.2) {w':World} (a8:∀ c,b≠some c→w'.heap[c]? = w.heap[c]?) (ej:∀ c,b=some c→∃ me clock,w'.heap[c]? = some (.map me clock)) (ed:w'.heap.size=w.heap.size) (e2:w'.os=w.os) (e3:w'.tape=w.tape) (e4:w'.output=w.output)
 (lv:List Nat) (en:∀ I∈lv,I∈st.lv∧I≠g∧I≠g2) :
 ∃ G':Gh,G'.box=G.box∧G'.own st.gen=some (.mp b bs')∧(bj C G st.gen w).le (bj C G' (st.gen+1) w')∧bg C n { st with lv:=st.gen::lv,gen:=st.gen+1 } G' tmps w':=by
 let N:Nat→Option Row:=fun I=>if I=st.gen then some (.mp b bs') else if I=g then none else if I=g2 then none else G.own I;have e0:∀ {c:Nat} {cs:Array Value} {T:TypeId} {f:Nat×Nat},w.heap[c]? = some (.cells cs T f)→b≠some c:=fun {c cs T f} hc e=>by subst e;obtain⟨_,_,_,e5,di,cy⟩:=h.mrow g c bs hg;rw[cy] at hc;cases hc
 have b0:∀ {c:Nat} {cs:Array Value} {T:TypeId} {f:Nat×Nat},w.heap[c]? = some (.cells cs T f)→w'.heap[c]? = some (.cells cs T f):=fun {c cs T f} hc=>by rw[a8 c (e0 hc)];exact hc
 have c7:∀ J o u,Ab.cellAt w J o=some u→Ab.cellAt w' J o=some u:=fun J o u hu=>by
  have a1:b≠some J:=fun e=>by subst e;obtain⟨_,_,_,e5,di,cy⟩:=h.mrow g J bs hg;simp[Ab.cellAt,World.cell?,cy] at hu
  rw[cw (a8 J a1)];exact hu
 have dj:ek w w':=fun J cs T f h=>⟨cs,f,b0 h⟩;have hf:=h.gown g _ hg;have gb:=h.gown g2 _ aj;have a7:∀ {I r'},N I=some r'→I≠st.gen→G.own I=some r'∧I≠g∧I≠g2:=by
  intro I r' O a1;simp only[N,if_neg a1] at O;split at O;·cases O
  ·split at O
   ·cases O
   ·rename_i e1 e2;exact⟨O,e1,e2⟩
 have dt:∀ {r'},N st.gen=some r'→r'=.mp b bs':=fun {r'} O=>by simpa [N] using O.symm
 have b4:∀ {I c len cap sz ad},N I=some (.blk c len cap sz ad)→I≠st.gen∧I≠g∧I≠g2∧G.own I=some (.blk c len cap sz ad):=fun {I c len cap sz ad} O=>by
  have a1:I≠st.gen:=fun e=>by subst e;cases dt O
  obtain⟨q1,q2,q3⟩:=a7 O a1;exact⟨a1,q2,q3,q1⟩
 have b5:∀ {I b2 U},N I=some (.mp b2 U)→(I=st.gen∧b2=b∧U=bs')∨(I≠st.gen∧I≠g∧I≠g2∧G.own I=some (.mp b2 U)):=fun {I b2 U} O=>by
  by_cases e:I=st.gen
  ·subst e
   have:=dt O;simp only[Row.mp.injEq] at this;exact .inl ⟨rfl,this.1,this.2⟩
  ·obtain⟨q1,q2,q3⟩:=a7 O e
   exact .inr ⟨e,q2,q3,q1⟩
 have c1:∀ {c lim},(c,lim)∈bs'→C.iJ c lim∧(∀ I,G.box I≠some c)∧(∀ I len cap sz ad,G.own I=some (.blk c len cap sz ad)→I=g2∧ad=lim)∧(∀ I b3 X ai,G.own I=some (.mp b3 X)→(c,ai)∈X→I=g∧ai=lim∧(c,lim)∈bs)∧∃ cur T,w.heap[c]? = some (.cells cur T (0,0))∧lim≤cur.size∧fe cur:=by
  intro c lim hm;rcases cx _ hm with hm | ⟨len,cap,sz,O⟩
  ·obtain⟨s1,s2,s3,s4,s5⟩:=h.sub g b bs c lim hg hm
   exact⟨s1,s2,fun I len cap sz ad O=>absurd O (s3 _ _ _ _ _),fun I b3 X ai O df=>⟨(s4 I b3 X ai O df).1,(s4 I b3 X ai O df).2,hm⟩,s5⟩
  ·rw[O] at aj
   obtain⟨s1,s2,s3,cur,T,s4,s5,s6,s7,s8,s9,hh,e6⟩:=h.row g2 c len cap sz lim aj;refine⟨s1,s2,fun I b6 ch cl cj M=>?_,fun I b3 X ai M df=>absurd aj ((h.sub I b3 X c ai M df).2.2.1 _ _ _ _ _),cur,T,s4,?_,e6⟩
   ·have:=s3 I b6 ch cl cj M
    subst this;rw[aj] at M;simp only[Option.some.injEq,Row.blk.injEq] at M;exact⟨rfl,M.2.2.2.2.symm⟩
   ·have:len*sz≤cap*sz:=Nat.mul_le_mul_right _ s6
    omega
 have ff:∀ J o,bM C ⟨G.box,N⟩ J o→bM C G J o:=by
  rintro J o (hp | hp | ⟨I,b6,ch,cl,cj,hp,hl'⟩ | ⟨I,b2,U,lim,hp,hm,hl'⟩);·exact .inl hp
  ·exact .inr (.inl hp)
  ·exact .inr (.inr (.inl ⟨I,b6,ch,cl,cj,(b4 hp).2.2.2,hl'⟩))
  ·rcases b5 hp with ⟨_,rfl,rfl⟩ | ⟨_,_,_,e⟩
   ·rcases cx _ hm with hm | ⟨len,cap,sz,O⟩
    ·exact .inr (.inr (.inr ⟨g,_,bs,lim,hg,hm,hl'⟩))
    ·rw[O] at aj;exact .inr (.inr (.inl ⟨g2,len,cap,sz,lim,aj,hl'⟩))
   ·exact .inr (.inr (.inr ⟨I,b2,U,lim,e,hm,hl'⟩))
 have ei:Fr C w':=⟨e2.trans h.fr.os,e3.trans h.fr.tape,e4.trans h.fr.output,by rw[ed];exact h.fr.size,fun J h1 h2=>by rw[a8 J (fun e=>by subst e;exact(h.mrow g J bs hg).1.1.elim (fun hm=>by omega) h2)];exact h.fr.block J h1 h2,fun J o u hk hu=>c7 J o u (h.fr.cells J o u hk hu),h.fr.ty.trans dj⟩
 have hle:(bj C G st.gen w).le (bj C ⟨G.box,N⟩ (st.gen+1) w'):=k9 h.fr ei (fun J o u hu hn=>⟨c7 J o u hu,fun hp=>hn (ff J o hp)⟩) (fun _ _ h=>h)
  (fun I r' a6 M=>(a7 M (Nat.ne_of_lt a6)).1) (Nat.le_succ _) (fun I J b6 ch cl cj a6 M=>by
   obtain⟨_,_,_,cur,T,q1,_⟩:=h.row I J b6 ch cl cj (a7 M (Nat.ne_of_lt a6)).1;rw[q1];exact b0 q1) (fun I J U a6 M=>by
   obtain⟨q1,q2,q3⟩:=a7 M (Nat.ne_of_lt a6);refine⟨fun c hc=>by subst hc;exact a8 c (fun e=>by subst e;exact q2 ((h.mrow g c bs hg).2.2.1 I U q1)),fun p hp=>?_⟩;obtain⟨_,_,_,_,cur,T,q4,_⟩:=h.sub I J U p.1 p.2 q1 hp;rw[q4];exact b0 q4) dj
 refine⟨⟨G.box,N⟩,rfl,by simp[N],hle,{ size:=h.size,frame:=h.eA hle,inj:=h.inj,xold:=h.xold,kold:=h.kold,lent:=h.lent,fr:=ei,gcell:=fun I J fj=>lX dj (h.gcell I J fj),box:=?_,gbox:=?_,live:=?_,gown:=?_,row:=?_,mrow:=?_,sub:=?_ }⟩
 ·intro I cells hc
  obtain⟨J,cs,T',h1,h2,h3,h4,h5⟩:=h.box I cells hc;exact⟨J,cs,T',h1,b0 h2,h3,h4,fun i u a hu ha=>(h5 i u a hu ha).mono hle⟩
 ·intro I J hb
  obtain⟨h1,h2,h3⟩:=h.gbox I J hb;exact⟨Nat.lt_succ_of_lt h1,by rw[ed];exact h2,h3⟩
 ·intro I a6
  rcases List.mem_cons.1 a6 with rfl | a6
  ·exact⟨_,by simp[N];rfl⟩
  ·obtain⟨h1,h2,h3⟩:=en I a6
   obtain⟨r',M⟩:=h.live I h1;exact⟨r',by simp only[N,if_neg (Nat.ne_of_lt (h.gown I r' M)),if_neg h2,if_neg h3];exact M⟩
 ·intro I r' M
  by_cases e:I=st.gen;·simp only;omega
  ·exact Nat.lt_succ_of_lt (h.gown I r' (a7 M e).1)
 ·intro I J len cap sz ad M
  obtain⟨_,_,_,e⟩:=b4 M;obtain⟨s1,s2,s3,cur,T,s4,s5⟩:=h.row I J len cap sz ad e;exact⟨s1,s2,fun g3 gd gj ho gm h2=>s3 _ _ _ _ _ (b4 h2).2.2.2,cur,T,b0 s4,s5⟩
 ·intro I J U M
  rcases b5 M with ⟨n0,rfl,rfl⟩ | ⟨n0,n1,n2,e⟩
  ·obtain⟨dx,fo,ec,_⟩:=h.mrow g J bs hg
   refine⟨dx,fo,fun g3 X h2=>?_,ej J rfl⟩;rcases b5 h2 with ⟨q,_⟩ | ⟨_,q2,_,q3⟩
   ·omega
   ·exact absurd (ec g3 X q3) q2
  ·obtain⟨s1,s2,s3,fs,ft,s4⟩:=h.mrow I J U e
   have a1:b≠some J:=fun e=>by subst e;exact n1 ((h.mrow g J bs hg).2.2.1 I U (by assumption))
   refine⟨s1,s2,fun g3 X h2=>?_,fs,ft,by rw[a8 J a1];exact s4⟩;rcases b5 h2 with ⟨_,q,_⟩ | ⟨_,_,_,q3⟩
   ·exact absurd q.symm a1
   ·exact s3 g3 X q3
 ·intro I J U c lim M hm
  rcases b5 M with ⟨n0,rfl,rfl⟩ | ⟨n0,n1,n2,e⟩
  ·obtain⟨s1,s2,s3,s4,cur,T,s5,s6⟩:=c1 hm
   refine⟨s1,s2,fun g3 len cap sz ad h2=>?_,fun g3 b3 X c6 h2 cq=>?_,cur,T,b0 s5,s6⟩
   ·obtain⟨_,_,q3,q4⟩:=b4 h2
    exact q3 (s3 _ _ _ _ _ q4).1
   ·rcases b5 h2 with ⟨q,rfl,rfl⟩ | ⟨_,q2,_,q3⟩
    ·refine⟨by omega,?_⟩
     obtain⟨_,_,t3,t4,_⟩:=c1 cq;rcases cx _ hm with q4 | ⟨len,cap,sz,q4⟩
     ·exact((t4 g _ bs lim hg q4).2.1).symm
     ·rw[q4] at aj
      exact((t3 g2 len cap sz lim aj).2).symm
    ·exact absurd (s4 g3 b3 X c6 q3 cq).1 q2
  ·obtain⟨s1,s2,s3,s4,cur,T,s5,s6⟩:=h.sub I J U c lim e hm
   refine⟨s1,s2,fun g3 len cap sz ad h2=>s3 _ _ _ _ _ (b4 h2).2.2.2,fun g3 b3 X c6 h2 cq=>?_,cur,T,b0 s5,s6⟩;rcases b5 h2 with ⟨_,rfl,rfl⟩ | ⟨_,_,_,q3⟩
   ·exact absurd ((c1 cq).2.2.2.1 I J U lim e hm).1 n1
   ·exact s4 g3 b3 X c6 q3 cq
end
end Go.Ab
