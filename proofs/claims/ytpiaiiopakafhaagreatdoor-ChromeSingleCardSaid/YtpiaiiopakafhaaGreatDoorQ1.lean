import Derived.Laws.AppendOwn
import Derived.Orders
import Derived.Below
import Derived.MapKept
import Derived.Laws.StructEq
import Derived.IntWalk
import Derived.Great.BuildSlice
import Derived.WalkKit
import Derived.ProofKit
import Derived.OpenShut
import Derived.Carry
import Derived.ChangeOld
import Derived.ChangeSame
import Derived.ChangeArms
import Derived.Still
namespace Go.Ab
inductive D where
 | v (x:Value)
 | sl (es:List (List D))
inductive A where
 | d (x:D)
 | ag (l:List D)
 | own (g:Nat) (es:List (List D))
 | agg (l:List A)
 | tup (l:List A)
 | rowd (l:List D)
 | row (l:List A)
 | ptr (g off:Nat)
 | xs (g:Nat) (es:List (List D))
 | xp (g i off:Nat) (l:List D)
 | mp (g:Nat) (es:List (Value×List D))
 | mq (g:Nat) (es:List (Value×Option (List D)))
 | mo (g:Nat) (es:List (Value×List (List D))) (hole:Option Value) (ob:Option Nat)
 | clo (f:FuncId) (caps:List A)
 | bnd (f:FuncId) (first:List A)
 | fl (es:List (List D))
 | bf (g T:Nat) (s:ByteArray)
 | np (g T:Nat) (u:Bool)
 | sb (g n c:Nat)
 | lk (g n c:Nat) (v:Value)
 | fx (g:Nat) (es:List (List D)) (u:Option Value)
 | ol (g:Nat) (E:List (List D)) (h:Nat) (es:List (List D))
 | ow (g:Nat) (es:List (List D)) (v:Value)
 | ni
 | any
def dc (w w':World):Prop:=∀ (b:Nat) (cs:Array Value) (T:TypeId) (f:Nat×Nat),w.heap[b]? = some (Obj.cells cs T f)→∃ cs' f',w'.heap[b]? = some (Obj.cells cs' T f')
theorem ka {w w':World} (h:dc w w') {b:Nat} (hb:∃ cs T f,w.heap[b]? = some (Obj.cells cs T f)):∃ cs T f,w'.heap[b]? = some (Obj.cells cs T f):=let ⟨cs,T,f,h1⟩:=hb;let ⟨cs',f',h2⟩:=h b cs T f h1;⟨cs',T,f',h2⟩
theorem dc.refl (w:World):dc w w:=fun _ cs _ f h=>⟨cs,f,h⟩
theorem dc.trans {w w' I:World} (h:dc w w') (h2:dc w' I):dc w I:=fun b cs T f hb=>let ⟨cs',f',h'⟩:=h b cs T f hb;h2 b cs' T f' h'
def cm:Value→Bool
 | .int k n=>decide (k.min≤n) && decide (n≤k.max)
 | .string s=>decide (s.size≤maxLen)
 | .agg _=>false
 | .tuple _=>false
 | _=>true
theorem kt {x:Value} (h:cm x=true):x.oneCell'=true:=by cases x <;> simp_all[cm,Value.oneCell']
abbrev cellAt (w:World) (b o:Nat):Option Value:=w.cell? ⟨b,o,none⟩
inductive aI (w:World) (pv:Nat→Nat→Prop):Value→D→Prop
 | v (x:Value) (h:cm x=true):aI w pv x (.v x)
 | nil:aI w pv (.slice none 0 0) (.sl [])
 | emp (a:Addr) (cap:Nat) (hm:cap≤maxLen):aI w pv (.slice (some a) 0 cap) (.sl [])
 | sl (b off len cap sz:Nat) (es:List (List D)) (u:Nat→Nat→Value) (hl:es.length=len) (hc:len≤cap) (hm:cap≤maxLen)
  (hs:∀ (i:Nat) (e:List D),es[i]? = some e→e.length=sz)
  (hu:∀ i j,i < len→j < sz→cellAt w b (off+i*sz+j)=some (u i j)∧¬ pv b (off+i*sz+j))
  (hr:∀ (i j:Nat) (e:List D) (d:D),es[i]? = some e→e[j]? = some d→aI w pv (u i j) d) :
  aI w pv (.slice (some ⟨b,off,none⟩) len cap) (.sl es)
theorem aI.mono {w w':World} {pv I:Nat→Nat→Prop} (h:∀ b o u,cellAt w b o=some u→¬ pv b o→cellAt w' b o=some u∧¬ I b o)
 {v:Value} {d:D} (hd:aI w pv v d):aI w' I v d:=by
 induction hd with
 | v x J=>exact .v x J
 | nil=>exact .nil
 | emp a cap hm=>exact .emp a cap hm
 | sl b off len cap sz es u hl M hm hs hu _ N=>exact .sl b off len cap sz es u hl M hm hs (fun i j hi hj=>h _ _ _ (hu i j hi hj).1 (hu i j hi hj).2) N
theorem aI.one {w:World} {pv:Nat→Nat→Prop} {v:Value} {d:D} (h:aI w pv v d):v.oneCell'=true:=by
 cases h with
 | v _ I=>exact kt I
 | nil=>rfl
 | emp=>rfl
 | sl=>rfl
inductive Row where
 | nil
 | zero (b:Nat)
 | blk (b len cap sz pub:Nat)
 | mp (b:Nat) (bs:List (Nat×Nat))
def Row.nq:Row→Nat→Nat→Prop
 | .blk b _ _ _ J,I,lim=>b=I∧lim=J
 | .mp b bs,I,lim=>(b=I∧lim=0)∨(I,lim)∈bs
 | _,_,_=>False
structure En where
 w:World
 pv:Nat→Nat→Prop
 old:Nat→Prop
 box:Nat→Option Nat
 own:Nat→Option Row
 gen:Nat
def qZ:Row→Value→Nat→Nat→Prop
 | .nil,v,n,_=>v=.slice none 0 0∧n=0
 | .zero b,v,n,_=>∃ off,v=.slice (some ⟨b,off,none⟩) n n
 | .blk b len cap sz I,v,n,s=>v=.slice (some ⟨b,0,none⟩) len cap∧n=len∧s=sz∧I=len*sz
 | .mp _ _,_,_,_=>False
def fh (w:World) (pv:Nat→Nat→Prop):Row→Value→List (List D)→Prop
 | .nil,v,es=>v=.slice none 0 0∧es=[]
 | .zero b,v,es=>v=.slice (some ⟨b,0,none⟩) 0 0∧es=[]
 | .blk b len cap sz I,v,es=>v=.slice (some ⟨b,0,none⟩) len cap∧es.length=len∧I=0∧(∀ (e:List D),e∈es→e.length=sz) ∧
  ∀ (i j:Nat) (e:List D) (d:D),es[i]? = some e→e[j]? = some d→∃ u,cellAt w b (i*sz+j)=some u∧aI w pv u d
 | .mp _ _,_,_=>False
def qh (w:World) (pv:Nat→Nat→Prop):Row→Value→Nat→Nat→List D→Prop
 | .blk b len _ sz _,v,i,off,l=>v=.pointer (some ⟨b,i*sz+off,none⟩)∧i < len∧off+l.length=sz ∧
  ∀ (j:Nat) (d:D),l[j]? = some d→∃ u,cellAt w b (i*sz+off+j)=some u∧aI w pv u d
 | _,_,_,_,_=>False
def vO (w:World) (pv:Nat→Nat→Prop) (v:Value):List D→Prop
 | [d]=>aI w pv v d
 | l=>∃ vs:Array Value,v=.agg vs∧vs.size=l.length∧∀ (j:Nat) (u:Value) (d:D),vs[j]? = some u→l[j]? = some d→aI w pv u d
theorem vO.mono {w w':World} {pv I:Nat→Nat→Prop} (h:∀ b o u,cellAt w b o=some u→¬ pv b o→cellAt w' b o=some u∧¬ I b o) {v:Value}:∀ {l:List D},vO w pv v l→vO w' I v l
 | [],⟨vs,h1,h2,h3⟩=>⟨vs,h1,h2,fun j u d hu hd=>(h3 j u d hu hd).mono h⟩
 | [_],hd=>aI.mono h hd
 | _::_::_,⟨vs,h1,h2,h3⟩=>⟨vs,h1,h2,fun j u d hu hd=>(h3 j u d hu hd).mono h⟩
def lO (w:World) (pv:Nat→Nat→Prop):Row→Value→List (Value×List D)→Prop
 | .mp b _,v,es=>v=.map (some b)∧∃ I clock,w.heap[b]? = some (.map I clock)∧Go.MapKept.Stamped I clock∧I.size=es.length ∧
  ∀ (i:Nat) (m:MapEntry) (k:Value) (l:List D),I[i]? = some m→es[i]? = some (k,l)→m.key=k∧cm k=true∧vO w pv m.val l
 | _,_,_=>False
def eF (cur:Array Value):Prop:=∀ (i:Nat) (u:Value),cur[i]? = some u→u.oneCell'=true
def mQ (w:World):Option Nat→List (Nat×Nat)→Value→List (List D)→Prop
 | none,_,v,l=>(v=.slice none 0 0∧l=[])∨∃ c off,v=.slice (some ⟨c,off,none⟩) l.length l.length
 | some b,bs,v,l=>∃ cap sz cur T,v=.slice (some ⟨b,0,none⟩) l.length cap∧(b,l.length*sz)∈bs∧(∀ (e:List D),e∈l→e.length=sz)∧0 < sz∧0 < l.length∧l.length≤cap∧cap≤maxLen ∧
   w.heap[b]? = some (.cells cur T (0,0))∧cur.size=cap*sz∧eF cur
def kp (w:World) (pv:Nat→Nat→Prop):Row→Value→List (Value×List (List D))→Option Value→Prop
 | .mp b bs,v,es,hole=>v=.map (some b)∧∃ I clock,w.heap[b]? = some (.map I clock)∧Go.MapKept.Stamped I clock∧I.size=es.length ∧
  ∃ ps:Value→Option Nat,(∀ (k J:Value) (l l':List (List D)) (c:Nat),(k,l)∈es→(J,l')∈es→hole≠some k→hole≠some J→ps k=some c→ps J=some c→k=J) ∧
    ∀ (i:Nat) (m:MapEntry) (k:Value) (l:List (List D)),I[i]? = some m→es[i]? = some (k,l)→m.key=k∧cm k=true∧aI w pv m.val (.sl l)∧(hole≠some k→mQ w (ps k) bs m.val l)
 | _,_,_,_=>False
def mS (w:World) (pv:Nat→Nat→Prop):Row→Value→List (Value×Option (List D))→Prop
 | .mp b bs,v,es=>v=.map (some b)∧∃ I clock,w.heap[b]? = some (.map I clock)∧Go.MapKept.Stamped I clock∧I.size=es.length ∧
  ∃ ps:Value→Nat,(∀ (k J:Value) (l l':List D),(k,some l)∈es→(J,some l')∈es→ps k=ps J→k=J) ∧
    ∀ (i:Nat) (m:MapEntry) (k:Value) (o:Option (List D)),I[i]? = some m→es[i]? = some (k,o)→m.key=k∧cm k=true∧cm m.val=true∧∀ l,o=some l→m.val=.pointer (some ⟨ps k,0,none⟩)∧(ps k,0)∈bs ∧
      ∃ cur T,w.heap[ps k]? = some (.cells cur T (0,0))∧cur.size=l.length∧eF cur∧∀ (j:Nat) (u:Value) (d:D),cur[j]? = some u→l[j]? = some d→aI w pv u d
 | _,_,_=>False
def uq (w:World):Row→Value→Nat→ByteArray→Prop
 | .nil,v,_,s=>v=.slice none 0 0∧s.size=0
 | .blk b len cap sz I,v,T,s=>v=.slice (some ⟨b,0,none⟩) len cap∧s.size=len∧sz=1∧I=0∧(∃ cs f,w.heap[b]? = some (.cells cs T f)) ∧
  ∀ (i:Nat) (c:UInt8),s.data[i]? = some c→cellAt w b i=some (.int .u8 c.toNat)
 | _,_,_,_=>False
inductive aC (E:En):Value→A→Prop
 | any (x:Value):aC E x .any
 | ni (t:TypeId) (x:Value):aC E (.iface t x) .ni
 | bf (x:Value) (g T:Nat) (s:ByteArray) (hg:g < E.gen) (h1:x.oneCell'=true) (h:∀ r,E.own g=some r→uq E.w r x T s):aC E x (.bf g T s)
 | np (x:Value) (g T b:Nat) (hg:g < E.gen) (hb:E.box g=some b) (hT:∃ cs f,E.w.heap[b]? = some (.cells cs T f)) (u:Bool) (h:x=.pointer (if u then some ⟨b,0,none⟩ else none)):aC E x (.np g T u)
 | sb (x:Value) (g n c b:Nat) (hg:g < E.gen) (hb:E.box g=some b) (hn:n≤c∧c≤maxLen) (h:x=.slice (some ⟨b,0,none⟩) n c):aC E x (.sb g n c)
 | lk (x:Value) (g n c b:Nat) (v:Value) (hg:g < E.gen) (hb:E.box g=some b) (hn:n≤c∧c≤maxLen) (h:v=.slice (some ⟨b,0,none⟩) n c):aC E x (.lk g n c v)
 | fx (x u:Value) (g:Nat) (es:List (List D)) (ou:Option Value) (hx:aI E.w E.pv x (.sl [[.v u]])) (hg:g < E.gen) (h:∀ r,E.own g=some r→fh E.w E.pv r u es) (ho:∀ y,ou=some y→y=u):aC E x (.fx g es ou)
 | ol (x u:Value) (g':Nat) (E':List (List D)) (g:Nat) (es:List (List D)) (hx:aI E.w E.pv x (.sl (E'++[[.v u]]))) (hg':g' < E.gen)
  (hr:∀ r,E.own g'=some r→∃ s,(∀ (e:List D),e∈E'++[[D.v u]]→e.length=s)∧qZ r x (E'++[[D.v u]]).length s) (hg:g < E.gen) (h:∀ r,E.own g=some r→fh E.w E.pv r u es):aC E x (.ol g' E' g es)
 | ow (x v:Value) (g:Nat) (es:List (List D)) (h:aI E.w E.pv v (.sl es)) (hg:g < E.gen)
  (hr:∀ r,E.own g=some r→∃ s,(∀ (e:List D),e∈es→e.length=s)∧qZ r v es.length s):aC E x (.ow g es v)
 | fl (x:Value) (es:List (List D)) (h:aI E.w E.pv x (.sl es)) (hc:∃ a,x=.slice a es.length es.length):aC E x (.fl es)
 | d {x:Value} {y:D} (h:aI E.w E.pv x y):aC E x (.d y)
 | ag (vs:Array Value) (l:List D) (hs:vs.size=l.length) (h:∀ (i:Nat) (u:Value) (x:D),vs[i]? = some u→l[i]? = some x→aI E.w E.pv u x):aC E (.agg vs) (.ag l)
 | own (x:Value) (g:Nat) (es:List (List D)) (h:aI E.w E.pv x (.sl es)) (hg:g < E.gen)
  (hr:∀ r,E.own g=some r→∃ s,(∀ (e:List D),e∈es→e.length=s)∧qZ r x es.length s):aC E x (.own g es)
 | agg (vs:Array Value) (l:List A) (hs:vs.size=l.length) (ho:∀ (i:Nat) (u:Value),vs[i]? = some u→u.oneCell'=true) (h:∀ (i:Nat) (u:Value) (x:A),vs[i]? = some u→l[i]? = some x→aC E u x):aC E (.agg vs) (.agg l)
 | tup (vs:Array Value) (l:List A) (hs:vs.size=l.length) (h:∀ (i:Nat) (u:Value) (x:A),vs[i]? = some u→l[i]? = some x→aC E u x):aC E (.tuple vs) (.tup l)
 | rowd (b off:Nat) (l:List D) (u:Nat→Value) (hc:∀ j,j < l.length→cellAt E.w b (off+j)=some (u j)∧¬ E.pv b (off+j))
  (h:∀ (j:Nat) (x:D),l[j]? = some x→aI E.w E.pv (u j) x):aC E (.pointer (some ⟨b,off,none⟩)) (.rowd l)
 | row (b off:Nat) (l:List A) (u:Nat→Value) (hc:∀ j,j < l.length→cellAt E.w b (off+j)=some (u j)∧E.old b∧(u j).oneCell'=true)
  (h:∀ (j:Nat) (x:A),l[j]? = some x→aC E (u j) x):aC E (.pointer (some ⟨b,off,none⟩)) (.row l)
 | ptr (x:Value) (g off b:Nat) (hg:g < E.gen) (hb:E.box g=some b) (h:x=.pointer (some ⟨b,off,none⟩)):aC E x (.ptr g off)
 | xs (x:Value) (g:Nat) (es:List (List D)) (hg:g < E.gen) (h1:x.oneCell'=true) (h:∀ r,E.own g=some r→fh E.w E.pv r x es):aC E x (.xs g es)
 | xp (x:Value) (g i off:Nat) (l:List D) (hg:g < E.gen) (h1:x.oneCell'=true) (h:∀ r,E.own g=some r→qh E.w E.pv r x i off l):aC E x (.xp g i off l)
 | mp (x:Value) (g:Nat) (es:List (Value×List D)) (hg:g < E.gen) (h1:x.oneCell'=true) (h:∀ r,E.own g=some r→lO E.w E.pv r x es):aC E x (.mp g es)
 | mq (x:Value) (g:Nat) (es:List (Value×Option (List D))) (hg:g < E.gen) (h1:x.oneCell'=true) (h:∀ r,E.own g=some r→mS E.w E.pv r x es):aC E x (.mq g es)
 | mo (x:Value) (g:Nat) (es:List (Value×List (List D))) (hole:Option Value) (ob:Option Nat) (hg:g < E.gen) (h1:x.oneCell'=true∧∀ b,ob=some b→x=.map (some b)) (h:∀ r,E.own g=some r→kp E.w E.pv r x es hole):aC E x (.mo g es hole ob)
 | clo (f:FuncId) (vs:Array Value) (l:List A) (hs:vs.size=l.length) (h:∀ (i:Nat) (u:Value) (x:A),vs[i]? = some u→l[i]? = some x→aC E u x) :
  aC E (.func (.func f) #[] vs) (.clo f l)
 | bnd (f:FuncId) (vs:Array Value) (l:List A) (hs:vs.size=l.length) (h:∀ (i:Nat) (u:Value) (x:A),vs[i]? = some u→l[i]? = some x→aC E u x) :
  aC E (.func (.func f) vs #[]) (.bnd f l)
structure En.le (E E':En):Prop where
 cell:∀ b o u,cellAt E.w b o=some u→¬ E.pv b o→cellAt E'.w b o=some u∧¬ E'.pv b o
 old:∀ b o u,cellAt E.w b o=some u→E.old b→cellAt E'.w b o=some u∧E'.old b
 box:∀ g b,E.box g=some b→E'.box g=some b
 own:∀ g r,g < E.gen→E'.own g=some r→E.own g=some r
 gen:E.gen≤E'.gen
 exb:∀ g b len cap sz pub,g < E.gen→E'.own g=some (.blk b len cap sz pub)→E'.w.heap[b]? = E.w.heap[b]?
 mp:∀ g b bs,g < E.gen→E'.own g=some (.mp b bs)→E'.w.heap[b]? = E.w.heap[b]?∧∀ p∈bs,E'.w.heap[p.1]? = E.w.heap[p.1]?
 ty:dc E.w E'.w
theorem En.le.ex {E E':En} (h:E.le E') (g b len cap sz I o:Nat) (u:Value) (J:g < E.gen) (M:E'.own g=some (.blk b len cap sz I)) (_:o < len*sz) (hu:cellAt E.w b o=some u):cellAt E'.w b o=some u:=by have e:=h.exb g b len cap sz I J M;simp only[cellAt,World.cell?,e] at hu ⊢;exact hu
theorem kP {E:En} {g I off:Nat} {x:Value} (J:E.box g=some I) (M:x=.pointer (some ⟨I,off,none⟩)):∀ b,E.box g=some b→x=.pointer (some ⟨b,off,none⟩):=by intro b hb;rw[J] at hb;cases hb;exact M
theorem vu {i j len sz:Nat} (hi:i < len) (hj:j < sz):i*sz+j < len*sz:=by
 calc i*sz+j < i*sz+sz:=by omega
  _=(i+1)*sz:=by rw[Nat.succ_mul]
  _≤len*sz:=Nat.mul_le_mul_right _ hi
theorem fh.mono {E E':En} (h:E.le E') {g:Nat} {r:Row} (M:g < E.gen) (N:E'.own g=some r) {v:Value} {es:List (List D)} (I:fh E.w E.pv r v es):fh E'.w E'.pv r v es:=by
 cases r with
 | nil=>exact I
 | zero b=>exact I
 | mp b bs=>exact I
 | blk b len cap sz J=>
   obtain⟨h1,h2,h3,h4,h5⟩:=I;refine⟨h1,h2,h3,h4,fun i j e d hi hj=>?_⟩;obtain⟨u,hu,hd⟩:=h5 i j e d hi hj;have O:i < len:=by rw[←h2];exact(List.getElem?_eq_some_iff.1 hi).1
   have U:j < sz:=by rw[←h4 e (List.mem_of_getElem? hi)];exact(List.getElem?_eq_some_iff.1 hj).1
   exact⟨u,h.ex g b len cap sz J _ u M N (vu O U) hu,hd.mono h.cell⟩
theorem fh.da {w:World} {pv J:Nat→Nat→Prop} (h:∀ b o u,cellAt w b o=some u→¬ pv b o→cellAt w b o=some u∧¬ J b o) {r:Row} {v:Value} {es:List (List D)} (I:fh w pv r v es):fh w J r v es:=by
 cases r with
 | nil=>exact I
 | zero b=>exact I
 | mp b bs=>exact I
 | blk b len cap sz M=>obtain⟨h1,h2,h3,h4,h5⟩:=I;refine⟨h1,h2,h3,h4,fun i j e d hi hj=>?_⟩;obtain⟨u,hu,hd⟩:=h5 i j e d hi hj;exact⟨u,hu,hd.mono h⟩
theorem qh.da {w:World} {pv J:Nat→Nat→Prop} (h:∀ b o u,cellAt w b o=some u→¬ pv b o→cellAt w b o=some u∧¬ J b o) {r:Row} {v:Value} {i off:Nat} {l:List D} (I:qh w pv r v i off l):qh w J r v i off l:=by
 cases r with
 | nil=>exact I
 | zero b=>exact I
 | mp b bs=>exact I
 | blk b len cap sz M=>obtain⟨h1,h2,h3,h5⟩:=I;refine⟨h1,h2,h3,fun j d hj=>?_⟩;obtain⟨u,hu,hd⟩:=h5 j d hj;exact⟨u,hu,hd.mono h⟩
theorem lO.da {w:World} {pv J:Nat→Nat→Prop} (h:∀ b o u,cellAt w b o=some u→¬ pv b o→cellAt w b o=some u∧¬ J b o) {r:Row} {v:Value} {es:List (Value×List D)} (I:lO w pv r v es):lO w J r v es:=by
 cases r with
 | nil=>exact I
 | zero b=>exact I
 | blk b len cap sz Z=>exact I
 | mp b bs=>obtain⟨h1,N,clock,h2,M,h3,h4⟩:=I;refine⟨h1,N,clock,h2,M,h3,fun i m k l hm O=>?_⟩;obtain⟨h5,U,X⟩:=h4 i m k l hm O;exact⟨h5,U,X.mono h⟩
theorem qh.mono {E E':En} (h:E.le E') {g:Nat} {r:Row} (M:g < E.gen) (N:E'.own g=some r) {v:Value} {i off:Nat} {l:List D} (I:qh E.w E.pv r v i off l):qh E'.w E'.pv r v i off l:=by
 cases r with
 | nil=>exact I
 | zero b=>exact I
 | mp b bs=>exact I
 | blk b len cap sz J=>obtain⟨h1,h2,h3,h5⟩:=I;refine⟨h1,h2,h3,fun j d hj=>?_⟩;obtain⟨u,hu,hd⟩:=h5 j d hj;have O:j < l.length:=(List.getElem?_eq_some_iff.1 hj).1;exact⟨u,h.ex g b len cap sz J _ u M N (by rw[Nat.add_assoc];exact vu h2 (by omega)) hu,hd.mono h.cell⟩
theorem lO.mono {E E':En} (h:E.le E') {g:Nat} {r:Row} (M:g < E.gen) (N:E'.own g=some r) {v:Value} {es:List (Value×List D)} (I:lO E.w E.pv r v es):lO E'.w E'.pv r v es:=by
 cases r with
 | nil=>exact I
 | zero b=>exact I
 | blk b len cap sz ad=>exact I
 | mp b bs=>obtain⟨h1,O,clock,h2,J,h3,h4⟩:=I;refine⟨h1,O,clock,by rw[(h.mp g b bs M N).1];exact h2,J,h3,fun i m k l hm U=>?_⟩;obtain⟨h5,X,Z⟩:=h4 i m k l hm U;exact⟨h5,X,Z.mono h.cell⟩
theorem kp.da {w:World} {pv J:Nat→Nat→Prop} (h:∀ b o u,cellAt w b o=some u→¬ pv b o→cellAt w b o=some u∧¬ J b o) {r:Row} {v:Value} {es:List (Value×List (List D))} {hole:Option Value} (I:kp w pv r v es hole):kp w J r v es hole:=by
 cases r with
 | nil=>exact I
 | zero b=>exact I
 | blk b len cap sz ad=>exact I
 | mp b bs=>obtain⟨h1,O,clock,h2,N,h3,ps,M,h4⟩:=I;refine⟨h1,O,clock,h2,N,h3,ps,M,fun i m k l hm U=>?_⟩;obtain⟨h5,X,Z,h8⟩:=h4 i m k l hm U;exact⟨h5,X,Z.mono h,h8⟩
theorem kp.mono {E E':En} (h:E.le E') {g:Nat} {r:Row} (O:g < E.gen) (U:E'.own g=some r) {v:Value} {es:List (Value×List (List D))} {hole:Option Value} (I:kp E.w E.pv r v es hole):kp E'.w E'.pv r v es hole:=by
 cases r with
 | nil=>exact I
 | zero b=>exact I
 | blk b len cap sz ad=>exact I
 | mp b bs=>
   obtain⟨h1,X,clock,h2,N,h3,ps,J,h4⟩:=I;obtain⟨Z,e2⟩:=h.mp g b bs O U;refine⟨h1,X,clock,by rw[Z];exact h2,N,h3,ps,J,fun i m k l hm hk=>?_⟩;obtain⟨h5,h6,h7,h8⟩:=h4 i m k l hm hk;refine⟨h5,h6,h7.mono h.cell,fun hh=>?_⟩;have M:=h8 hh;generalize ps k=q at M
   cases q with
   | none=>exact M
   | some c=>obtain⟨cap,sz,cur,T,a1,a2,a3,a4,a5,a6,a7,a8,a9⟩:=M;exact⟨cap,sz,cur,T,a1,a2,a3,a4,a5,a6,a7,by rw[e2 _ a2];exact a8,a9⟩
theorem mS.da {w:World} {pv J:Nat→Nat→Prop} (h:∀ b o u,cellAt w b o=some u→¬ pv b o→cellAt w b o=some u∧¬ J b o) {r:Row} {v:Value} {es:List (Value×Option (List D))} (I:mS w pv r v es):mS w J r v es:=by
 cases r with
 | nil=>exact I
 | zero b=>exact I
 | blk b len cap sz ad=>exact I
 | mp b bs=>obtain⟨h1,O,clock,h2,N,h3,ps,M,h4⟩:=I;refine⟨h1,O,clock,h2,N,h3,ps,M,fun i m k o hm U=>?_⟩;obtain⟨h5,X,Z,h8⟩:=h4 i m k o hm U;refine⟨h5,X,Z,fun l hl=>?_⟩;obtain⟨a1,a2,cur,T,a3,a4,a5,a6⟩:=h8 l hl;exact⟨a1,a2,cur,T,a3,a4,a5,fun j u d hu hd=>(a6 j u d hu hd).mono h⟩
theorem mS.mono {E E':En} (h:E.le E') {g:Nat} {r:Row} (N:g < E.gen) (O:E'.own g=some r) {v:Value} {es:List (Value×Option (List D))} (I:mS E.w E.pv r v es):mS E'.w E'.pv r v es:=by
 cases r with
 | nil=>exact I
 | zero b=>exact I
 | blk b len cap sz ad=>exact I
 | mp b bs=>obtain⟨h1,U,clock,h2,M,h3,ps,J,h4⟩:=I;obtain⟨X,Z⟩:=h.mp g b bs N O;refine⟨h1,U,clock,by rw[X];exact h2,M,h3,ps,J,fun i m k o hm hk=>?_⟩;obtain⟨h5,h6,h7,h8⟩:=h4 i m k o hm hk;refine⟨h5,h6,h7,fun l hl=>?_⟩;obtain⟨a1,a2,cur,T,a3,a4,a5,a6⟩:=h8 l hl;exact⟨a1,a2,cur,T,by rw[Z _ a2];exact a3,a4,a5,fun j u d hu hd=>(a6 j u d hu hd).mono h.cell⟩
theorem uq.mono {E E':En} (h:E.le E') {g:Nat} {r:Row} (M:g < E.gen) (N:E'.own g=some r) {v:Value} {T:Nat} {s:ByteArray} (I:uq E.w r v T s):uq E'.w r v T s:=by
 cases r with
 | nil=>exact I
 | zero b=>exact I
 | mp b bs=>exact I
 | blk b len cap sz J=>obtain⟨h1,h2,h3,h4,⟨cs,f,h5⟩,O⟩:=I;have e:=h.exb g b len cap sz J M N;refine⟨h1,h2,h3,h4,⟨cs,f,by rw[e];exact h5⟩,fun i c U=>?_⟩;have:=O i c U;simp only[cellAt,World.cell?,e] at this ⊢;exact this
theorem aC.mono {E E':En} (h:E.le E') {v:Value} {a:A} (J:aC E v a):aC E' v a:=by
 induction J with
 | any x=>exact .any x
 | d hd=>exact .d (hd.mono h.cell)
 | ag vs l hs hd=>exact .ag vs l hs (fun i u x h1 h2=>(hd i u x h1 h2).mono h.cell)
 | own x g es hd I J=>exact .own x g es (hd.mono h.cell) (Nat.lt_of_lt_of_le I h.gen) (fun r U=>J r (h.own g r I U))
 | ow x v g es hd I J=>exact .ow x v g es (hd.mono h.cell) (Nat.lt_of_lt_of_le I h.gen) (fun r U=>J r (h.own g r I U))
 | agg vs l hs Z _ O=>exact .agg vs l hs Z O
 | tup vs l hs _ O=>exact .tup vs l hs O
 | rowd b off l u N hd=>exact .rowd b off l u (fun j hj=>h.cell _ _ _ (N j hj).1 (N j hj).2) (fun j x M=>(hd j x M).mono h.cell)
 | row b off l u N _ O=>exact .row b off l u (fun j hj=>⟨(h.old _ _ _ (N j hj).1 (N j hj).2.1).1,(h.old _ _ _ (N j hj).1 (N j hj).2.1).2,(N j hj).2.2⟩) O
 | ptr x g off b I hb hp=>exact .ptr x g off b (Nat.lt_of_lt_of_le I h.gen) (h.box g b hb) hp
 | xs x g es I h1 M=>exact .xs x g es (Nat.lt_of_lt_of_le I h.gen) h1 (fun r J=>(M r (h.own g r I J)).mono h I J)
 | xp x g i off l I h1 M=>exact .xp x g i off l (Nat.lt_of_lt_of_le I h.gen) h1 (fun r J=>(M r (h.own g r I J)).mono h I J)
 | ni t x=>exact .ni t x
 | fl x es hd N=>exact .fl x es (hd.mono h.cell) N
 | np x g T b I hb hT u M=>obtain⟨cs,f,hT⟩:=hT;exact .np x g T b (Nat.lt_of_lt_of_le I h.gen) (h.box g b hb) (h.ty b cs T f hT) u M
 | sb x g n c b I hb hn M=>exact .sb x g n c b (Nat.lt_of_lt_of_le I h.gen) (h.box g b hb) hn M
 | fx x u g es ou M I hu Z=>exact .fx x u g es ou (M.mono h.cell) (Nat.lt_of_lt_of_le I h.gen) (fun r J=>(hu r (h.own g r I J)).mono h I J) Z
 | ol x u g' E' g es M X U I hu=>exact .ol x u g' E' g es (M.mono h.cell) (Nat.lt_of_lt_of_le X h.gen) (fun r J=>U r (h.own g' r X J)) (Nat.lt_of_lt_of_le I h.gen) (fun r J=>(hu r (h.own g r I J)).mono h I J)
 | lk x g n c b v I hb hn M=>exact .lk x g n c b v (Nat.lt_of_lt_of_le I h.gen) (h.box g b hb) hn M
 | bf x g T s I h1 M=>exact .bf x g T s (Nat.lt_of_lt_of_le I h.gen) h1 (fun r J=>(M r (h.own g r I J)).mono h I J)
 | mp x g es I h1 M=>exact .mp x g es (Nat.lt_of_lt_of_le I h.gen) h1 (fun r J=>(M r (h.own g r I J)).mono h I J)
 | mq x g es I h1 M=>exact .mq x g es (Nat.lt_of_lt_of_le I h.gen) h1 (fun r J=>(M r (h.own g r I J)).mono h I J)
 | mo x g es hole ob I h1 M=>exact .mo x g es hole ob (Nat.lt_of_lt_of_le I h.gen) h1 (fun r J=>(M r (h.own g r I J)).mono h I J)
 | clo f vs l hs _ O=>exact .clo f vs l hs O
 | bnd f vs l hs _ O=>exact .bnd f vs l hs O
def look (f:List (Nat×A)) (t:Nat):Option A:=
 match f with
 | []=>none
 | (s,a)::r=>bif Nat.beq s t then some a else look r t
def ae {α:Type} (f:List (Nat×α)) (t:Nat):Option α:=
 match f with
 | []=>none
 | (s,a)::r=>bif Nat.beq s t then some a else ae r t
structure St where
 f:List (Nat×A)
 bx:List (Nat×List A)
 lv:List Nat
 gen:Nat
structure Ctx where
 w0:World
 fp:Nat→Prop
 x:Nat→Nat→Prop
 keep:Nat→Nat→Prop:=fun _ _=>False
 bx:List Nat:=[]
 ds:List Deferred:=[]
structure Gh where
 box:Nat→Option Nat
 own:Nat→Option Row
def aS (C:Ctx) (G:Gh) (b o:Nat):Prop:=
 C.x b o∨(∃ g,G.box g=some b)∨(∃ g len cap sz I,G.own g=some (.blk b len cap sz I)∧I≤o)∨∃ g J bs lim,G.own g=some (.mp J bs)∧(b,lim)∈bs∧lim≤o
def Ctx.gl (C:Ctx) (b lim:Nat):Prop:=(C.w0.heap.size≤b∨C.fp b)∧∀ o,C.keep b o→o < lim
def au (C:Ctx) (G:Gh) (gen:Nat) (w:World):En:=
 { w:=w,pv:=aS C G,old:=fun b=>b < C.w0.heap.size∧¬ C.fp b,box:=G.box,own:=G.own,gen:=gen }
structure Fr (C:Ctx) (w:World):Prop where
 os:w.os=C.w0.os
 tape:w.tape=C.w0.tape
 output:w.output=C.w0.output
 size:C.w0.heap.size≤w.heap.size
 block:∀ b,b < C.w0.heap.size→¬ C.fp b→w.heap[b]? = C.w0.heap[b]?
 cells:∀ b o u,C.keep b o→cellAt C.w0 b o=some u→cellAt w b o=some u
 ty:dc C.w0 w
theorem eF.mem {cur:Array Value} (h:∀ u∈cur.toList,u.oneCell'=true):eF cur:=fun i u hu=>h u (List.mem_iff_getElem?.2 ⟨i,by simpa using hu⟩)
theorem eF.of {cur:Array Value} (h:eF cur):∀ u∈cur.toList,u.oneCell'=true:=fun u hu=>let ⟨i,hi⟩:=List.mem_iff_getElem?.1 hu;h i u (by simpa using hi)
structure ao (C:Ctx) (n:Nat) (st:St) (G:Gh) (tmps:Array Value) (w:World):Prop where
 size:tmps.size=n
 frame:∀ t a,look st.f t=some a→∃ v,tmps[t]? = some v∧aC (au C G st.gen w) v a
 box:∀ g cells,ae st.bx g=some cells→∃ b cs T,G.box g=some b∧w.heap[b]? = some (.cells cs T (0,0))∧cs.size=cells.length ∧
  (∀ (i:Nat) (u:Value),cs[i]? = some u→u.oneCell'=true)∧∀ (i:Nat) (u:Value) (a:A),cs[i]? = some u→cells[i]? = some a→aC (au C G st.gen w) u a
 gbox:∀ g b,G.box g=some b→g < st.gen∧b < w.heap.size∧C.gl b 0
 gcell:∀ g b,G.box g=some b→∃ cs T f,w.heap[b]? = some (Obj.cells cs T f)
 inj:∀ g g' b,G.box g=some b→G.box g'=some b→g=g'
 live:∀ g∈st.lv,∃ r,G.own g=some r
 gown:∀ g r,G.own g=some r→g < st.gen
 row:∀ g b len cap sz pub,G.own g=some (.blk b len cap sz pub)→C.gl b pub∧(∀ g',G.box g'≠some b)∧(∀ g' len' cap' sz' pub',G.own g'=some (.blk b len' cap' sz' pub')→g'=g) ∧
  ∃ cur T,w.heap[b]? = some (.cells cur T (0,0))∧cur.size=cap*sz∧len≤cap∧cap≤maxLen∧0 < sz∧0 < len∧pub≤len*sz∧eF cur
 mrow:∀ g b bs,G.own g=some (.mp b bs)→C.gl b 0∧(∀ g',G.box g'≠some b)∧(∀ g' bs',G.own g'=some (.mp b bs')→g'=g)∧∃ me clock,w.heap[b]? = some (.map me clock)
 sub:∀ g b bs c lim,G.own g=some (.mp b bs)→(c,lim)∈bs→C.gl c lim∧(∀ g',G.box g'≠some c)∧(∀ g' len cap sz pub,G.own g'≠some (.blk c len cap sz pub)) ∧
  (∀ g' b' bs' lim',G.own g'=some (.mp b' bs')→(c,lim')∈bs'→g'=g∧lim'=lim)∧∃ cur T,w.heap[c]? = some (.cells cur T (0,0))∧lim≤cur.size∧eF cur
 xold:∀ b o,C.x b o→b < C.w0.heap.size∧¬ C.fp b
 kold:∀ b o,C.keep b o→b < C.w0.heap.size
 lent:∀ (i b:Nat),C.bx[i]? = some b→G.box i=some b
 fr:Fr C w
def ez (C:Ctx) (n:Nat) (st:St) (tmps:Array Value) (w:World):Prop:=∃ G,ao C n st G tmps w
end Go.Ab
namespace Go.Ab
open Go.RowKit
theorem cE {w:World} {b o:Nat} {u:Value} (h:cellAt w b o=some u):b < w.heap.size:=block_lt_of_cell (a:=⟨b,o,none⟩) h
theorem br {w w':World} {b:Nat} (h:w'.heap[b]? = w.heap[b]?) (o:Nat):cellAt w' b o=cellAt w b o:=by simp[cellAt,World.cell?,h]
theorem bC {w:World} {b:Nat} {cs:Array Value} {T:TypeId} {fr:Nat×Nat} (h:w.heap[b]? = some (.cells cs T fr)) (o:Nat):cellAt w b o=cs[o]?:=
 cell_of_row w b o cs T fr h
def St.set (st:St) (d:Nat) (a:A):St:={ st with f:=(d,a)::st.f }
def St.put (st:St):Option Nat→A→St
 | some d,a=>st.set d a
 | none,_=>st
theorem aN {d t:Nat} {a:A} {f:List (Nat×A)}:look ((d,a)::f) t=if d=t then some a else look f t:=by
 simp only[look];by_cases h:d=t;·subst h;simp
 ·have:Nat.beq d t=false:=by cases hb:Nat.beq d t;rfl;exact absurd (Nat.eq_of_beq_eq_true hb) h
  simp[h,this]
theorem bN {α:Type} {d t:Nat} {a:α} {f:List (Nat×α)}:ae ((d,a)::f) t=if d=t then some a else ae f t:=by
 simp only[ae];by_cases h:d=t;·subst h;simp
 ·have:Nat.beq d t=false:=by cases hb:Nat.beq d t;rfl;exact absurd (Nat.eq_of_beq_eq_true hb) h
  simp[h,this]
section
variable {C:Ctx} {n:Nat} {st:St} {G:Gh} {tmps:Array Value} {w:World}
theorem ao.set (h:ao C n st G tmps w) {d:Nat} (hd:d < n) {v:Value} {a:A} (J:aC (au C G st.gen w) v a) :
 ao C n (st.set d a) G (tmps.setIfInBounds d v) w:=by
 refine { h with size:=by simp[h.size],frame:=fun t b hb=>?_ };simp only[St.set,aN] at hb;by_cases e:d=t
 ·subst e
  simp only[if_true,Option.some.injEq] at hb;subst hb;exact⟨v,by simp[Array.getElem?_setIfInBounds,h.size,hd],J⟩
 ·rw[if_neg e] at hb
  obtain⟨u,hu,I⟩:=h.frame t b hb;exact⟨u,by rw[Array.getElem?_setIfInBounds_ne e];exact hu,I⟩
theorem ao.put (h:ao C n st G tmps w) {dst:Option Nat} (hd:∀ d,dst=some d→d < n) {v:Value} {a:A} (I:aC (au C G st.gen w) v a) :
 ao C n (st.put dst a) G ((Act.put ⟨tmps,[]⟩ dst v).tmps) w:=by
 cases dst with
 | none=>exact h
 | some d=>exact h.set (hd d rfl) I
theorem dc.below {w w':World} (hb:Below w.heap.size w w'):dc w w':=fun b cs T f h=>⟨cs,f,by rw[hb.block b (Array.getElem?_eq_some_iff.1 h).1];exact h⟩
theorem dc.setRow (w:World) (b:Nat) (cs:Array Value):dc w (w.setRow b cs):=fun I cs' T f h=>by
 by_cases e:I=b;·subst e;exact⟨cs,f,setRow_heap w I cs' cs T f h⟩
 ·exact⟨cs',f,by rw[setRow_other w b I cs e];exact h⟩
theorem ju {I:Gh} {gen':Nat} {w':World} (O:Fr C w) (J:Fr C w') (U:∀ b o u,cellAt w b o=some u→¬ aS C G b o→cellAt w' b o=some u∧¬ aS C I b o)
 (hb:∀ g b,G.box g=some b→I.box g=some b) (X:∀ g r,g < st.gen→I.own g=some r→G.own g=some r) (Z:st.gen≤gen')
 (hx:∀ g b len cap sz M,g < st.gen→I.own g=some (.blk b len cap sz M)→w'.heap[b]? = w.heap[b]?)
 (hm:∀ g b bs,g < st.gen→I.own g=some (.mp b bs)→w'.heap[b]? = w.heap[b]?∧∀ p∈bs,w'.heap[p.1]? = w.heap[p.1]?) (N:dc w w') :
 (au C G st.gen w).le (au C I gen' w'):=
 ⟨U,fun b o u h ⟨h1,h2⟩=>⟨by rw[←h];exact br ((J.block b h1 h2).trans (O.block b h1 h2).symm) o,h1,h2⟩,hb,X,Z,hx,hm,N⟩
theorem ao.du (h:ao C n st G tmps w) {I:Gh} {gen':Nat} {w':World} (hle:(au C G st.gen w).le (au C I gen' w')) (t:Nat) (a:A) (J:look st.f t=some a) :
 ∃ v,tmps[t]? = some v∧aC (au C I gen' w') v a:=
 let ⟨v,h1,h2⟩:=h.frame t a J
 ⟨v,h1,h2.mono hle⟩
theorem Fr.below (I:Fr C w) {w':World} (hb:Below w.heap.size w w'):Fr C w':=
 ⟨hb.os.trans I.os,hb.tape.trans I.tape,hb.output.trans I.output,Nat.le_trans I.size hb.size,fun b h1 h2=>(hb.block b (Nat.lt_of_lt_of_le h1 I.size)).trans (I.block b h1 h2),fun b o u h1 h2=>by rw[br (hb.block b (Nat.lt_of_lt_of_le (cE h2) I.size))];exact I.cells b o u h1 h2,I.ty.trans (.below hb)⟩
theorem qN (h:ao C n st G tmps w) {b o:Nat} (hp:aS C G b o):b < w.heap.size:=by
 rcases hp with hp | ⟨g,hp⟩ | ⟨g,len,cap,sz,J,hp,_⟩ | ⟨g,M,bs,lim,hp,hm,_⟩
 ·exact Nat.lt_of_lt_of_le (h.xold b o hp).1 h.fr.size
 ·exact(h.gbox g b hp).2.1
 ·obtain⟨_,_,_,cur,T,I,_⟩:=h.row g b len cap sz J hp
  exact(Array.getElem?_eq_some_iff.1 I).1
 ·obtain⟨_,_,_,_,cur,T,I,_⟩:=h.sub g M bs b lim hp hm
  exact(Array.getElem?_eq_some_iff.1 I).1
theorem ao.xC (h:ao C n st G tmps w) {g b:Nat} {bs:List (Nat×Nat)} (I:G.own g=some (.mp b bs)):b < w.heap.size∧∀ p∈bs,p.1 < w.heap.size:=by obtain⟨_,_,_,M,clock,h3⟩:=h.mrow g b bs I;refine⟨(Array.getElem?_eq_some_iff.1 h3).1,fun p hp=>?_⟩;obtain⟨_,_,_,_,cur,T,J,_⟩:=h.sub g b bs p.1 p.2 I hp;exact(Array.getElem?_eq_some_iff.1 J).1
theorem ao.grow (h:ao C n st G tmps w) {w':World} (hb:Below w.heap.size w w') (J:Nat→Option Row) (gen':Nat) (lv':List Nat) (hg:st.gen≤gen')
 (U:∀ g r,g < st.gen→J g=some r→G.own g=some r) (ad:∀ g r,J g=some r→g < gen') (cj:∀ g∈lv',∃ r,J g=some r)
 (aj:∀ g b len cap sz N,st.gen≤g→J g=some (.blk b len cap sz N)→w.heap.size≤b∧(∀ I a1 a6 b0 a7,J I=some (.blk b a1 a6 b0 a7)→I=g) ∧
  ∃ cur T,w'.heap[b]? = some (.cells cur T (0,0))∧cur.size=cap*sz∧len≤cap∧cap≤maxLen∧0 < sz∧0 < len∧N≤len*sz∧eF cur)
 (b2:∀ g b bs,st.gen≤g→J g=some (.mp b bs)→w.heap.size≤b∧(∀ I bs',J I=some (.mp b bs')→I=g)∧∃ me clock,w'.heap[b]? = some (.map me clock))
 (a8:∀ g b bs c lim,st.gen≤g→J g=some (.mp b bs)→(c,lim)∈bs→w.heap.size≤c∧(∀ I len cap sz N,J I≠some (.blk c len cap sz N))∧(∀ I b' bs' ai,J I=some (.mp b' bs')→(c,ai)∈bs'→I=g∧ai=lim) ∧
  ∃ cur T,w'.heap[c]? = some (.cells cur T (0,0))∧lim≤cur.size∧eF cur) :
 (au C G st.gen w).le (au C ⟨G.box,J⟩ gen' w')∧ao C n { st with lv:=lv',gen:=gen' } ⟨G.box,J⟩ tmps w':=by
 have hle:(au C G st.gen w).le (au C ⟨G.box,J⟩ gen' w'):=by
  refine ju h.fr (h.fr.below hb) (fun b o u hu hn=>?_) (fun _ _ h=>h) (fun g r hg h=>U g r hg h) hg (fun g b len cap sz N O hr=>hb.block b ?_) (fun g b bs O hr=>have hl:=h.xC (U g _ O hr);⟨hb.block b hl.1,fun p hp=>hb.block p.1 (hl.2 p hp)⟩) (.below hb)
  ·have ad:=cE hu
   refine⟨by rw[br (hb.block b ad)];exact hu,fun hp=>hn ?_⟩;rcases hp with hp | hp | ⟨g,len,cap,sz,N,hp,h2⟩ | ⟨g,b',bs,lim,hp,h2,h3⟩
   ·exact .inl hp
   ·exact .inr (.inl hp)
   ·by_cases O:g < st.gen
    ·exact .inr (.inr (.inl ⟨g,len,cap,sz,N,U g _ O hp,h2⟩))
    ·have:=(aj g b len cap sz N (by omega) hp).1
     omega
   ·by_cases O:g < st.gen
    ·exact .inr (.inr (.inr ⟨g,b',bs,lim,U g _ O hp,h2,h3⟩))
    ·have:=(a8 g b' bs b lim (by omega) hp h2).1
     omega
  ·obtain⟨_,_,_,cur,T,h3,_⟩:=h.row g b _ _ _ _ (U g _ O hr)
   exact(Array.getElem?_eq_some_iff.1 h3).1
 refine⟨hle,{ size:=h.size,frame:=h.du hle,inj:=h.inj,xold:=h.xold,kold:=h.kold,lent:=h.lent,fr:=h.fr.below hb,gcell:=fun g b Z=>ka (.below hb) (h.gcell g b Z),live:=cj,gown:=ad,box:=?_,gbox:=?_,row:=?_,mrow:=?_,sub:=?_ }⟩
 ·intro g cells cl
  obtain⟨b,cs,T,h1,h2,h3,h4,h5⟩:=h.box g cells cl;exact⟨b,cs,T,h1,by rw[hb.block b (h.gbox g b h1).2.1];exact h2,h3,h4,fun i u a hu ha=>(h5 i u a hu ha).mono hle⟩
 ·intro g b Z
  obtain⟨h1,h2,h3⟩:=h.gbox g b Z;exact⟨Nat.lt_of_lt_of_le h1 hg,Nat.lt_of_lt_of_le h2 hb.size,h3⟩
 ·intro g b len cap sz N Z
  have X:J g=some (.blk b len cap sz N):=Z;by_cases O:g < st.gen
  ·have hold:G.own g=some (.blk b len cap sz N):=U g _ O X
   obtain⟨h1,h2,h3,cur,T,h4,h5⟩:=h.row g b len cap sz N hold;refine⟨h1,h2,fun I a1 a6 b0 a7 M=>?_,cur,T,by rw[hb.block b (Array.getElem?_eq_some_iff.1 h4).1];exact h4,h5⟩;by_cases hgg':I < st.gen;·exact h3 I a1 a6 b0 a7 (U I _ hgg' M)
   ·have:=(aj I b a1 a6 b0 a7 (by omega) M).1
    have:=(Array.getElem?_eq_some_iff.1 h4).1;omega
  ·obtain⟨h1,h2,h3⟩:=aj g b len cap sz N (by omega) X
   refine⟨⟨.inl (Nat.le_trans h.fr.size h1),fun o U=>absurd (h.kold b o U) (by have:=h.fr.size;omega)⟩,fun I M=>?_,h2,h3⟩;have:=(h.gbox I b M).2.1;omega
 ·intro g b bs Z
  have X:J g=some (.mp b bs):=Z;by_cases O:g < st.gen
  ·obtain⟨h1,cq,h2,me,clock,h3⟩:=h.mrow g b bs (U g _ O X)
   have ad:=(Array.getElem?_eq_some_iff.1 h3).1;refine⟨h1,cq,fun I bs' M=>?_,me,clock,by rw[hb.block b ad];exact h3⟩;by_cases hgg':I < st.gen;·exact h2 I bs' (U I _ hgg' M)
   ·have:=(b2 I b bs' (by omega) M).1
    omega
  ·obtain⟨h1,h2,h3⟩:=b2 g b bs (by omega) X
   exact⟨⟨.inl (Nat.le_trans h.fr.size h1),fun o U=>absurd (h.kold b o U) (by have:=h.fr.size;omega)⟩,fun I M=>by have:=(h.gbox I b M).2.1;omega,h2,h3⟩
 ·intro g b bs c lim Z b3
  have X:J g=some (.mp b bs):=Z;by_cases O:g < st.gen
  ·obtain⟨h1,h2,h3,h4,cur,T,h5,h6⟩:=h.sub g b bs c lim (U g _ O X) b3
   have ad:=(Array.getElem?_eq_some_iff.1 h5).1;refine⟨h1,h2,fun I len cap sz N M=>?_,fun I b' bs' ai M ch=>?_,cur,T,by rw[hb.block c ad];exact h5,h6⟩
   ·by_cases hgg':I < st.gen
    ·exact h3 I len cap sz N (U I _ hgg' M)
    ·have:=(aj I c len cap sz N (by omega) M).1
     omega
   ·by_cases hgg':I < st.gen
    ·exact h4 I b' bs' ai (U I _ hgg' M) ch
    ·have:=(a8 I b' bs' c ai (by omega) M ch).1
     omega
  ·obtain⟨h1,h2,h3,h4⟩:=a8 g b bs c lim (by omega) X b3
   exact⟨⟨.inl (Nat.le_trans h.fr.size h1),fun o U=>absurd (h.kold c o U) (by have:=h.fr.size;omega)⟩,fun I M=>by have:=(h.gbox I c M).2.1;omega,h2,h3,h4⟩
theorem ao.gp (h:ao C n st G tmps w) {w':World} (hb:Below w.heap.size w w'):(au C G st.gen w).le (au C G st.gen w')∧ao C n st G tmps w':=
 h.grow hb G.own st.gen st.lv (Nat.le_refl _) (fun _ _ _ h=>h) h.gown h.live (fun g _ _ _ _ _ J I=>absurd (h.gown g _ I) (by omega)) (fun g _ _ J I=>absurd (h.gown g _ I) (by omega)) (fun g _ _ _ _ J I=>absurd (h.gown g _ I) (by omega))
theorem ao.pj (h:ao C n st G tmps w) (cs:Array Value) (T:TypeId) (cells:List A) (hs:cs.size=cells.length) (h1:∀ (i:Nat) (u:Value),cs[i]? = some u→u.oneCell'=true)
 (hc:∀ (i:Nat) (u:Value) (a:A),cs[i]? = some u→cells[i]? = some a→aC (au C G st.gen w) u a) :
 ∃ M,(au C G st.gen w).le (au C M (st.gen+1) (w.alloc (.cells cs T))) ∧
   ao C n { st with bx:=(st.gen,cells)::st.bx,gen:=st.gen+1 } M tmps (w.alloc (.cells cs T)) ∧
   aC (au C M (st.gen+1) (w.alloc (.cells cs T))) (.pointer (some ⟨w.heap.size,0,none⟩)) (.ptr st.gen 0):=by
 have hb:Below w.heap.size w (w.alloc (.cells cs T)):=(Below.refl _ w).alloc (Nat.le_refl _) _;let M:Gh:=⟨fun g=>if g=st.gen then some w.heap.size else G.box g,G.own⟩;have hle:(au C G st.gen w).le (au C M (st.gen+1) (w.alloc (.cells cs T))):=by
  refine ju h.fr (h.fr.below hb) (fun b o u hu hn=>?_) (fun g b J=>?_) (fun _ _ _ h=>h) (Nat.le_succ _) (fun g b len cap sz ad _ N=>?_) (fun g b bs _ N=>have hl:=h.xC N;⟨hb.block b hl.1,fun p hp=>hb.block p.1 (hl.2 p hp)⟩) (.below hb)
  ·have O:=cE hu
   refine⟨by rw[br (hb.block b O)];exact hu,fun hp=>hn ?_⟩;rcases hp with hp | ⟨g,hp⟩ | hp
   ·exact .inl hp
   ·simp only[M] at hp
    split at hp;·simp only[Option.some.injEq] at hp;omega
    ·exact .inr (.inl ⟨g,hp⟩)
   ·exact .inr (.inr hp)
  ·simp only[M]
   rw[if_neg (Nat.ne_of_lt (h.gbox g b J).1)];exact J
  ·obtain⟨_,_,_,cur,T,h3,_⟩:=h.row g b _ _ _ _ N
   exact hb.block b (Array.getElem?_eq_some_iff.1 h3).1
 refine⟨M,hle,{ size:=h.size,frame:=h.du hle,xold:=h.xold,kold:=h.kold,lent:=fun i b hb=>by have h1:=h.lent i b hb;have h2:=(h.gbox i b h1).1;simp only[M];rw[if_neg (Nat.ne_of_lt h2)];exact h1,fr:=h.fr.below hb,gcell:=fun g b J=>(by simp only[M] at J;split at J <;> first | (simp only[Option.some.injEq] at J;subst J;exact⟨_,_,_,heap_alloc_new w _⟩) | exact ka (.below hb) (h.gcell g b J)),live:=h.live,gown:=fun g r N=>Nat.lt_succ_of_lt (h.gown g r N),box:=?_,gbox:=?_,inj:=?_,row:=?_,mrow:=fun g b bs N=>?_,sub:=fun g b bs c lim N hm=>?_ },?_⟩
 ·intro g cells' U
  simp only[bN] at U;split at U
  ·rename_i e
   simp only[Option.some.injEq] at U;subst U;subst e;exact⟨w.heap.size,cs,T,by simp[M],heap_alloc_new w _,hs,h1,fun i u a hu ha=>(hc i u a hu ha).mono hle⟩
  ·rename_i e
   obtain⟨b,cs',Z,ai,h2,h3,h4,h5⟩:=h.box g cells' U;exact⟨b,cs',Z,by simp only[M];rw[if_neg (Ne.symm e)];exact ai,by rw[hb.block b (h.gbox g b ai).2.1];exact h2,h3,h4,fun i u a hu ha=>(h5 i u a hu ha).mono hle⟩
 ·intro g b J
  simp only[M] at J;split at J
  ·rename_i e
   simp only[Option.some.injEq] at J;subst J;exact⟨by simp only[];omega,by simp,.inl h.fr.size,fun o ho=>absurd (h.kold _ o ho) (by have:=h.fr.size;omega)⟩
  ·obtain⟨h1,h2,h3⟩:=h.gbox g b J
   exact⟨Nat.lt_succ_of_lt h1,by simp;omega,h3⟩
 ·intro g X b hg I
  simp only[M] at hg I;split at hg <;> split at I;·simp_all
  ·simp only[Option.some.injEq] at hg;have:=(h.gbox X b I).2.1;omega
  ·simp only[Option.some.injEq] at I;have:=(h.gbox g b hg).2.1;omega
  ·exact h.inj g X b hg I
 ·intro g b len cap sz ad J
  obtain⟨h1,h2,h3,cur,Z,h4,h5⟩:=h.row g b len cap sz ad J;refine⟨h1,fun X I=>?_,h3,cur,Z,by rw[hb.block b (Array.getElem?_eq_some_iff.1 h4).1];exact h4,h5⟩;simp only[M] at I;split at I;·simp only[Option.some.injEq] at I;have:=(Array.getElem?_eq_some_iff.1 h4).1;omega
  ·exact h2 X I
 ·obtain⟨h1,aj,h2,me,clock,h3⟩:=h.mrow g b bs N
  have O:=(Array.getElem?_eq_some_iff.1 h3).1;refine⟨h1,fun X I=>?_,h2,me,clock,by rw[hb.block b O];exact h3⟩;simp only[M] at I;split at I;·simp only[Option.some.injEq] at I;omega
  ·exact aj X I
 ·obtain⟨h1,h2,h3,h4,cur,Z,h5,h6⟩:=h.sub g b bs c lim N hm
  have O:=(Array.getElem?_eq_some_iff.1 h5).1;refine⟨h1,fun X I=>?_,h3,h4,cur,Z,by rw[hb.block c O];exact h5,h6⟩;simp only[M] at I;split at I;·simp only[Option.some.injEq] at I;omega
  ·exact h2 X I
 ·exact .ptr _ _ _ w.heap.size (by simp[au]) (by simp[au,M]) rfl
end
end Go.Ab
namespace Go.Ab
open Go.RowKit
inductive Kd where
 | int (k:IntKind)
 | bool
 | str
 | slice (e:Nat)
 | st (fs:List (Nat×Nat×String))
 | ptr (e:Nat)
 | map (k e:Nat)
 | leaf
structure bH where
 k:Kd
 n:Nat
 b:Nat
 z:List Value
def Ep:Value→Value→Bool
 | .int k a,.int k' b=>decide (k=k') && a == b
 | .bool a,.bool b=>a == b
 | .string a,.string b=>a.data.toList == b.data.toList
 | .slice none 0 0,.slice none 0 0=>true
 | .pointer none,.pointer none=>true
 | .map none,.map none=>true
 | .nilFunc,.nilFunc=>true
 | .nilIface,.nilIface=>true
 | _,_=>false
theorem Ew {a b:Value} (h:Ep a b=true):a=b:=by unfold Ep at h;split at h <;> simp_all;rename_i a b;exact ByteArray.ext h
def nM:List Value→List Value→Bool
 | [],[]=>true
 | a::l,b::r=>Ep a b && nM l r
 | _,_=>false
theorem oR:∀ {a b:List Value},nM a b=true→a=b
 | [],[],_=>rfl
 | a::l,b::r,h=>by simp only[nM,Bool.and_eq_true] at h;rw[Ew h.1,oR h.2]
 | [],_::_,h=>by simp[nM] at h
 | _::_,[],h=>by simp[nM] at h
def ny (P:Program) (t:Nat):Kd→Bool
 | .int k=>(match P.underlying t with | some (.int J)=>decide (k=J) | _=>false)
 | .bool=>(match P.underlying t with | some .bool=>true | _=>false)
 | .str=>(match P.underlying t with | some .string=>true | _=>false)
 | .slice e=>(match P.underlying t with | some (.slice I)=>e == I | _=>false)
 | .st M=>(match P.underlying t with | some (.struct fl)=>fl.toList.map (fun f=>(f.offset,f.type,f.name)) == M && !P.stoodInHeld t && !P.eqGuardType P.depth t && M.all (fun x=>(P.info? x.2.1).isSome) | _=>false)
 | .ptr e=>(match P.underlying t with | some (.pointer I)=>e == I | _=>false)
 | .map k e=>(match P.underlying t with | some (.map J I)=>k == J && e == I | _=>false)
 | .leaf=>(match P.underlying t with | some (.struct _) | some (.array _ _) | none=>false | _=>true)
def uO (P:Program) (t:Nat) (d:bH):Bool:=
 ny P t d.k && (match P.info? t with
  | some i=>i.size == d.n && i.bytes == d.b && (match i.zero with | some z=>nM z.cells.toList d.z && d.z.length == d.n && d.z.all cm &&
   (match z,d.k with | .agg _,.st _=>true | .agg _,_=>false | .tuple _,_=>false | _,.st _=>false | _,_=>true) | none=>false)
  | none=>false)
structure bA (P:Program) where
 l:List (Nat×bH)
 ok:l.all (fun x=>uO P x.1 x.2)=true
 mixed:P.follows .mixedOrders=true
theorem oD {α:Type} {t:Nat} {a:α}:∀ {l:List (Nat×α)},ae l t=some a→(t,a)∈l
 | [],h=>by simp[ae] at h
 | (s,b)::r,h=>by
   rw[bN] at h;split at h
   ·rename_i e
    simp only[Option.some.injEq] at h;subst e;subst h;exact List.mem_cons_self
   ·exact List.mem_cons_of_mem _ (oD h)
section
variable {P:Program} (T:bA P)
theorem bA.get {t:Nat} {d:bH} (h:ae T.l t=some d):uO P t d=true:=List.all_eq_true.1 T.ok _ (oD h)
theorem bA.kd {t:Nat} {d:bH} (h:ae T.l t=some d):ny P t d.k=true:=by have:=T.get h;simp only[uO,Bool.and_eq_true] at this;exact this.1
theorem bA.info {t:Nat} {d:bH} (h:ae T.l t=some d):∃ i z,P.info? t=some i∧i.size=d.n∧i.bytes=d.b∧i.zero=some z∧z.cells.toList=d.z∧d.z.length=d.n∧d.z.all cm=true ∧
 (match z,d.k with | .agg _,.st _=>true | .agg _,_=>false | .tuple _,_=>false | _,.st _=>false | _,_=>true)=true:=by
 have:=T.get h;simp only[uO,Bool.and_eq_true] at this;have:=this.2;split at this
 ·rename_i i hi
  simp only[Bool.and_eq_true,beq_iff_eq] at this;obtain⟨⟨h1,h2⟩,h3⟩:=this;split at h3
  ·rename_i z I
   simp only[Bool.and_eq_true,beq_iff_eq] at h3;exact⟨i,z,hi,h1,h2,I,oR h3.1.1.1,h3.1.1.2,h3.1.2,h3.2⟩
  ·cases h3
 ·cases this
theorem bA.fu {t e:Nat} {d:bH} (h:ae T.l t=some d) (I:d.k=.slice e):P.underlying t=some (.slice e):=by
 have:=T.kd h;rw[I] at this;simp only[ny] at this;split at this;·rename_i J he;rw[he];simp only[beq_iff_eq] at this;rw[this]
 ·cases this
theorem bA.fa {t:Nat} {k:IntKind} {d:bH} (h:ae T.l t=some d) (I:d.k=.int k):P.underlying t=some (.int k):=by
 have:=T.kd h;rw[I] at this;simp only[ny] at this;split at this;·rename_i J he;rw[he];simp only[decide_eq_true_eq] at this;rw[this]
 ·cases this
theorem bA.gQ {t:Nat} {d:bH} (h:ae T.l t=some d) (I:d.k=.str):P.underlying t=some .string:=by
 have:=T.kd h;rw[I] at this;simp only[ny] at this;split at this;·rename_i he;exact he
 ·cases this
theorem bA.rO {t:Nat} {d:bH} (h:ae T.l t=some d) (I:d.k=.bool):P.underlying t=some .bool:=by
 have:=T.kd h;rw[I] at this;simp only[ny] at this;split at this;·rename_i he;exact he
 ·cases this
theorem bA.ss {t:Nat} {I:List (Nat×Nat×String)} {d:bH} (h:ae T.l t=some d) (J:d.k=.st I) :
 ∃ fl:Array Field,P.underlying t=some (.struct fl)∧fl.toList.map (fun f=>(f.offset,f.type,f.name))=I∧P.stoodInHeld t=false∧P.eqGuardType P.depth t=false∧I.all (fun x=>(P.info? x.2.1).isSome)=true:=by
 have:=T.kd h;rw[J] at this;simp only[ny] at this;split at this;·rename_i fl he;simp only[Bool.and_eq_true,beq_iff_eq,Bool.not_eq_true'] at this;exact⟨fl,he,this.1.1.1,this.1.1.2,this.1.2,this.2⟩
 ·cases this
def Kd.agg:Kd→Bool
 | .st _=>true
 | _=>false
theorem bA.isAgg {t:Nat} {d:bH} (h:ae T.l t=some d) (w:World):(isAgg t).run P w=.ok d.k.agg w:=by
  have hk:=T.kd h
  obtain⟨k,n,b,z⟩:=d
  have hu:∃ u,P.underlying t=some u∧(match u with | .struct _=>true | .array _ _=>true | _=>false)=k.agg:=by
    cases k <;> simp only[ny] at hk <;> split at hk <;> first | (cases hk;done) | skip
    all_goals first | exact⟨_,by assumption,rfl⟩ | skip
    rename_i hn _ _
    cases hu:P.underlying t with
    | none=>simp_all
    | some u=>cases u <;> simp_all[Kd.agg]
  obtain⟨u,hu,hk⟩:=hu
  unfold Go.isAgg
  simp only[Sem.run_bind,run_underlying hu,Result.andThen_ok,←hk]
  cases u <;> rfl
theorem bA.sizeOf {t:Nat} {d:bH} (h:ae T.l t=some d) (w:World):(sizeOf t).run P w=.ok d.n w:=by obtain⟨i,z,hi,hs,_⟩:=T.info h;simp[Go.sizeOf,typeInfo,hi,hs]
theorem bA.zero {t:Nat} {d:bH} (h:ae T.l t=some d) (w:World):∃ z:Value,(zeroValue t).run P w=.ok z w∧z.cells.toList=d.z:=by obtain⟨i,z,hi,_,_,I,J,_⟩:=T.info h;exact⟨z,by simp[zeroValue,typeInfo,hi,I],J⟩
end
def DP:Value→Option A
 | .agg cs=>if cs.toList.all cm then some (.ag (cs.toList.map .v)) else none
 | .tuple _=>none
 | .func (.func f) first caps=>if first.size=0∧caps.size=0 then some (.clo f []) else none
 | .slice none 0 0=>some (.d (.v (.slice none 0 0)))
 | x=>if cm x then some (.d (.v x)) else none
def av (f:List (Nat×A)):Operand→Option A
 | .tmp t=>look f t
 | .const v=>DP v
 | .func f=>some (.clo f [])
 | .global _=>none
theorem CP {E:En} {v:Value} {a:A} (h:DP v=some a):aC E v a:=by
 unfold DP at h;split at h
 ·split at h
  ·rename_i cs I
   simp only[Option.some.injEq] at h;subst h;refine .ag _ _ (by simp) (fun i u x hu J=>?_);simp only[List.getElem?_map,Array.getElem?_toList,hu,Option.map_some,Option.some.injEq] at J;subst J;exact .v u (List.all_eq_true.1 I u (by rw[List.mem_iff_getElem?];exact⟨i,by simpa using hu⟩))
  ·cases h
 ·cases h
 ·rename_i f first caps
  split at h
  ·rename_i I
   simp only[Option.some.injEq] at h;subst h;obtain⟨h1,h2⟩:=I;have M:first=#[]:=Array.eq_empty_of_size_eq_zero h1;have N:caps=#[]:=Array.eq_empty_of_size_eq_zero h2;subst M;subst N;exact .clo f #[] [] rfl (by simp)
  ·cases h
 ·simp only[Option.some.injEq] at h
  subst h;exact .d (.v _ rfl)
 ·split at h
  ·rename_i I
   simp only[Option.some.injEq] at h;subst h;exact .d (.v _ I)
  ·cases h
theorem ao.av {C:Ctx} {n:Nat} {st:St} {G:Gh} {tmps:Array Value} {w:World} (h:ao C n st G tmps w) {x:Operand} {a:A} (I:av st.f x=some a) :
 aC (au C G st.gen w) (Act.eval ⟨tmps,[]⟩ x) a:=by
 cases x with
 | tmp t=>obtain⟨v,h1,h2⟩:=h.frame t a I;simpa [Act.eval,h1] using h2
 | const v=>exact CP I
 | global g=>cases I
 | func f=>simp only[Ab.av,Option.some.injEq] at I;subst I;exact .clo f #[] [] rfl (by simp)
theorem yo (k:IntKind) (n:Int):k.min≤k.wrap n∧k.wrap n≤k.max:=by cases k <;> simp[IntKind.min,IntKind.max,IntKind.wrap,IntKind.signed,IntKind.bits] <;> (try split) <;> omega
theorem fY (k:IntKind) (n:Int):cm (.int k (k.wrap n))=true:=by simp[cm,yo]
end Go.Ab
namespace Go.Ab
open Go.RowKit
def B2:A→Option D
 | .d x=>some x
 | .own _ es=>some (.sl es)
 | _=>none
def rW:List A→Option (List D)
 | []=>some []
 | a::l=>match B2 a,rW l with
   | some x,some r=>some (x::r)
   | _,_=>none
def jx (l:List A):A:=match rW l with
 | some r=>.ag r
 | none=>.agg l
theorem wY {E:En} {v:Value} {a:A} {x:D} (h:B2 a=some x) (I:aC E v a):aI E.w E.pv v x:=by
 cases I <;> simp[B2] at h;·subst h;assumption
 ·subst h;assumption
theorem qm:∀ {l:List A} {r:List D},rW l=some r→r.length=l.length∧∀ (i:Nat) (x:D),r[i]? = some x→∃ a,l[i]? = some a∧B2 a=some x
 | [],r,h=>by simp[rW] at h;subst h;simp
 | a::l,r,h=>by
   simp only[rW] at h;split at h
   ·rename_i x N M J
    simp only[Option.some.injEq] at h;subst h;obtain⟨h1,h2⟩:=qm J;refine⟨by simp[h1],fun i y I=>?_⟩
    cases i with
    | zero=>simp at I;subst I;exact⟨a,by simp,M⟩
    | succ i=>simpa using h2 i y (by simpa using I)
   ·cases h
theorem jN {E:En} {vs:Array Value} {l:List A} (hs:vs.size=l.length) (J:∀ (i:Nat) (u:Value),vs[i]? = some u→u.oneCell'=true)
 (h:∀ (i:Nat) (u:Value) (x:A),vs[i]? = some u→l[i]? = some x→aC E u x):aC E (.agg vs) (jx l):=by
 unfold jx;split
 ·rename_i r M
  obtain⟨h1,h2⟩:=qm M;refine .ag vs r (by omega) (fun i u x hu N=>?_);obtain⟨a,O,I⟩:=h2 i x N;exact wY I (h i u a hu O)
 ·exact .agg vs l hs J h
def bI (op:BinOp) (k:IntKind) (a b:Int):Option Value:=
 match op with
 | .add=>some (.int k (k.wrap (a+b)))
 | .sub=>some (.int k (k.wrap (a - b)))
 | .mul=>some (.int k (k.wrap (a*b)))
 | .eql=>some (.bool (decide (a=b)))
 | .neq=>some (.bool (!decide (a=b)))
 | .lss=>some (.bool (decide (a < b)))
 | .leq=>some (.bool (decide (a≤b)))
 | .gtr=>some (.bool (decide (b < a)))
 | .geq=>some (.bool (decide (b≤a)))
 | .and=>some (.int k (k.wrap (BitVec.ofInt k.bits a &&& BitVec.ofInt k.bits b).toNat))
 | .or=>some (.int k (k.wrap (BitVec.ofInt k.bits a ||| BitVec.ofInt k.bits b).toNat))
 | .xor=>some (.int k (k.wrap (BitVec.ofInt k.bits a ^^^ BitVec.ofInt k.bits b).toNat))
 | .andNot=>some (.int k (k.wrap (BitVec.ofInt k.bits a &&& ~~~BitVec.ofInt k.bits b).toNat))
 | _=>none
def bS (op:BinOp) (a b:ByteArray):Option Value:=
 match op with
 | .eql=>some (.bool (decide (a=b)))
 | .neq=>some (.bool (!decide (a=b)))
 | .lss=>some (.bool (Op.bytesLess a.toList b.toList))
 | .leq=>some (.bool (Op.bytesLess a.toList b.toList || decide (a=b)))
 | .gtr=>some (.bool (!(Op.bytesLess a.toList b.toList || decide (a=b))))
 | .geq=>some (.bool (!Op.bytesLess a.toList b.toList))
 | _=>none
def bB (op:BinOp) (a b:Bool):Option Value:=
 match op with
 | .eql=>some (.bool (decide (a=b)))
 | .neq=>some (.bool (!decide (a=b)))
 | _=>none
def bV (op:BinOp) (kd:Kd) (x y:Value):Option Value:=
 match x,y with
 | .int k a,.int I b=>if k=I then (match op with | .shl | .shr=>none | _=>bI op k a b) else none
 | .string a,.string b=>bS op a b
 | .bool a,.bool b=>(match kd with | .bool=>bB op a b | _=>none)
 | _,_=>none
theorem zk (a b:ByteArray):(a.toList == b.toList)=decide (a=b):=by
 rw[ByteArray.toList_eq,ByteArray.toList_eq];by_cases h:a=b;·subst h;simp
 ·have:a.data.toList≠b.data.toList:=fun e=>h (ByteArray.ext (Array.ext' e))
  have h2:¬ a.data=b.data:=fun e=>h (ByteArray.ext e);simp[h,h2]
theorem Fj {P:Program} {w:World} {op:BinOp} {k:IntKind} {a b:Int} {v:Value} {t:TypeId} (h:bI op k a b=some v) (J:op≠.shl) (I:op≠.shr) :
 (binOp op t (.int k a) (.int k b)).run P w=.ok v w∧cm v=true:=by
 cases op <;> simp only[bI] at h <;> first | (cases h;done) | skip
 all_goals (simp only[Option.some.injEq] at h;subst h)
 case add=>exact⟨by simp[binOp,Op.intArith],fY _ _⟩
 case sub=>exact⟨by simp[binOp,Op.intArith],fY _ _⟩
 case mul=>exact⟨by simp[binOp,Op.intArith],fY _ _⟩
 case and=>exact⟨by simp only[binOp,Op.intBits,ne_eq,not_true_eq_false,if_false];rfl,fY _ _⟩
 case or=>exact⟨by simp only[binOp,Op.intBits,ne_eq,not_true_eq_false,if_false];rfl,fY _ _⟩
 case xor=>exact⟨by simp only[binOp,Op.intBits,ne_eq,not_true_eq_false,if_false];rfl,fY _ _⟩
 case andNot=>exact⟨by simp only[binOp,Op.intBits,ne_eq,not_true_eq_false,if_false];rfl,fY _ _⟩
 all_goals exact⟨by simp[binOp,Op.intCmp,bne,BEq.beq],rfl⟩
theorem Fb {P:Program} {w:World} {op:BinOp} {a b:ByteArray} {v:Value} {t:TypeId} (h:bS op a b=some v) :
 (binOp op t (.string a) (.string b)).run P w=.ok v w∧cm v=true:=by
 cases op <;> simp only[bS] at h <;> first | (cases h;done) | skip
 all_goals (simp only[Option.some.injEq] at h;subst h)
 all_goals exact⟨by simp[binOp,Op.stringOp,zk],rfl⟩
theorem Fw {P:Program} {w:World} {op:BinOp} {a b:Bool} {v:Value} {t:TypeId} (I:P.underlying t=some .bool) (h:bB op a b=some v) :
 (binOp op t (.bool a) (.bool b)).run P w=.ok v w∧cm v=true:=by
 cases op <;> simp only[bB] at h <;> first | (cases h;done) | skip
 all_goals (simp only[Option.some.injEq] at h;subst h)
 all_goals refine⟨?_,rfl⟩
 all_goals simp only[binOp,Op.equal,Op.maxDepth,Sem.run_bind,run_equalIn_bool' _ _ _ _ _ I,Result.andThen_ok,Sem.run_pure]
 all_goals (cases a <;> cases b <;> rfl)
section
variable {P:Program} (T:bA P)
def cA (t:Nat):Kd:=match ae T.l t with | some d=>d.k | none=>.leaf
def oU (t:Nat):D→D→Option Bool
 | .v (.int k a),.v (.int I b)=>(match cA T t with | .int q=>if k=I∧k=q then some (decide (a=b)) else none | _=>none)
 | .v (.string a),.v (.string b)=>(match cA T t with | .str=>some (decide (a=b)) | _=>none)
 | .v (.bool a),.v (.bool b)=>(match cA T t with | .bool=>some (decide (a=b)) | _=>none)
 | _,_=>none
mutual
def yp:Nat→Nat→List D→List D→Option Bool
 | 0,_,_,_=>none
 | fuel+1,t,xs,I=>
   match cA T t with
   | .int _ | .str | .bool=>(match xs,I with | x::_,y::_=>oU T t x y | _,_=>none)
   | .st J=>(match ae T.l t with | some d=>lJ fuel J (xs.take d.n) (I.take d.n) | none=>none)
   | _=>none
def lJ:Nat→List (Nat×Nat×String)→List D→List D→Option Bool
 | _,[],_,_=>some true
 | 0,_::_,_,_=>none
 | fuel+1,(o,t,nm)::fs,xs,ys=>
   if nm = "_" then none else
   match yp fuel t (xs.drop o) (ys.drop o),lJ fuel fs xs ys with
   | some a,some b=>some (a && b)
   | _,_=>none
end
def dw (E:En) (cs:Array Value) (l:List D):Prop:=cs.size=l.length∧∀ (i:Nat) (u:Value) (x:D),cs[i]? = some u→l[i]? = some x→aI E.w E.pv u x
theorem dw.get {E:En} {cs:Array Value} {l:List D} (h:dw E cs l) {i:Nat} {x:D} (J:l[i]? = some x):∃ u,cs[i]? = some u∧aI E.w E.pv u x:=by
 have hi:i < l.length:=(List.getElem?_eq_some_iff.1 J).1;have I:i < cs.size:=by rw[h.1];exact hi
 exact⟨cs[i],by simp[I],h.2 i _ x (by simp[I]) J⟩
theorem dw.part {E:En} {cs:Array Value} {l:List D} (h:dw E cs l) (o n:Nat):dw E (cs.extract o (o+n)) ((l.drop o).take n):=by
  refine⟨by simp[h.1];omega,fun i u x hu hx=>?_⟩
  simp only[Array.getElem?_extract] at hu
  split at hu
  · have hx':l[o+i]? = some x:=by
      rw[List.getElem?_take] at hx
      split at hx
      · simpa using hx
      · cases hx
    exact h.2 (o+i) u x hu hx'
  · cases hu
theorem im {t:Nat} {d:bH} (h:ae T.l t=some d) (I:d.k.agg=false) {cs:Array Value} {o:Nat} {v:Value} (J:cs[o]? = some v) (w:World) :
 (part t cs o).run P w=.ok v w:=by
 simp[part,T.isAgg h,I,J]
theorem iQ {t:Nat} {d:bH} (h:ae T.l t=some d) (I:d.k.agg=true) (cs:Array Value) (o:Nat) (w:World) :
 (part t cs o).run P w=.ok (.agg (cs.extract o (o+d.n))) w:=by
 simp[part,T.isAgg h,I,T.sizeOf h]
theorem dB {t:Nat} {k:Kd} (h:cA T t=k) (I:k≠.leaf):∃ d,ae T.l t=some d∧d.k=k:=by
 unfold cA at h;split at h;·rename_i d hd;exact⟨d,hd,h⟩
 ·exact absurd h.symm I
theorem wy {E:En} {t d:Nat} {a b:Value} {x y:D} {r:Bool} (h:oU T t x y=some r) (M:aI E.w E.pv a x) (hb:aI E.w E.pv b y) (w:World) :
 (Op.equalIn (d+1) t a b).run P w=.ok r w:=by
 unfold oU at h;split at h;case h_4=>cases h
 all_goals split at h <;> first | (cases h;done) | skip
 ·rename_i J
  split at h
  ·rename_i N
   obtain⟨rfl,rfl⟩:=N;obtain⟨_,hd,I⟩:=dB T J (by simp);cases M;cases hb;simp only[Option.some.injEq] at h;rw[run_equalIn_int w d t _ _ _ _ (T.fa hd I),←h];simp[BEq.beq]
  ·cases h
 ·rename_i J
  obtain⟨_,hd,I⟩:=dB T J (by simp);cases M;cases hb;simp only[Option.some.injEq] at h;rw[run_equalIn_string w d t _ _ (T.gQ hd I),←h,zk]
 ·rename_i J
  obtain⟨_,hd,I⟩:=dB T J (by simp);cases M;cases hb;simp only[Option.some.injEq] at h;rw[run_equalIn_bool' w d t _ _ (T.rO hd I),←h];rename_i a b _ _;cases a <;> cases b <;> rfl
theorem jE {t:Nat} {fl:Array Field} (h:P.underlying t=some (.struct fl)):P.fieldsOf t=fl:=by simp[Program.fieldsOf,h]
theorem run_eq {E:En} (w:World):∀ (fuel:Nat),
 (∀ (t d:Nat) (I J:Array Value) (xs M:List D) (o:Nat) (r:Bool),fuel≤d→dw E I xs→dw E J M→yp T fuel t (xs.drop o) (M.drop o)=some r →
  ∃ a b,(part t I o).run P w=.ok a w∧(part t J o).run P w=.ok b w∧(Op.equalIn d t a b).run P w=.ok r w) ∧
 (∀ (d:Nat) (I J:Array Value) (O:List Field) (xs M:List D) (r:Bool),fuel≤d→dw E I xs→dw E J M→lJ T fuel (O.map fun f=>(f.offset,f.type,f.name)) xs M=some r →
  (Op.eqFields d I J O).run P w=.ok r w):=by
 intro fuel
 induction fuel with
 | zero=>
   refine⟨fun t d I J xs M o r _ _ _ h=>by simp[yp] at h,fun d I J O xs M r _ _ _ h=>?_⟩
   cases O with
   | nil=>simp[lJ] at h;subst h;simp[Op.eqFields]
   | cons f O=>simp[lJ] at h
 | succ fuel ih=>
   refine⟨fun t d I J xs M o r hd Z hy h=>?_,fun d I J O xs M r hd Z hy h=>?_⟩
   ·obtain⟨d,rfl⟩:∃ d',d=d'+1:=⟨d - 1,by omega⟩
    simp only[yp] at h
    have leaf:∀ k,cA T t=k→k≠.leaf→k.agg=false→(match xs.drop o,M.drop o with | x::_,y::_=>oU T t x y | _,_=>none)=some r →
     ∃ a b,(part t I o).run P w=.ok a w∧(part t J o).run P w=.ok b w∧(Op.equalIn (d+1) t a b).run P w=.ok r w:=by
     intro k X ai ad h;obtain⟨td,N,U⟩:=dB T X ai;split at h
     ·rename_i x _ y _ e1 e2
      have aj:xs[o]? = some x:=by have:=congrArg (fun l:List D=>l[0]?) e1;simpa using this
      have a1:M[o]? = some y:=by have:=congrArg (fun l:List D=>l[0]?) e2;simpa using this
      obtain⟨a,ha,a6⟩:=Z.get aj;obtain⟨b,hb,a7⟩:=hy.get a1;exact⟨a,b,im T N (by rw[U];exact ad) ha w,im T N (by rw[U];exact ad) hb w,wy T h a6 a7 w⟩
     ·cases h
    split at h;·rename_i X;exact leaf _ X (by simp) rfl h
    ·rename_i X;exact leaf _ X (by simp) rfl h
    ·rename_i X;exact leaf _ X (by simp) rfl h
    ·rename_i O X
     obtain⟨td,N,U⟩:=dB T X (by simp);rw[N] at h;simp only at h;obtain⟨fl,hu,a8,b0,_⟩:=T.ss N U;refine⟨_,_,iQ T N (by rw[U];rfl) I o w,iQ T N (by rw[U];rfl) J o w,?_⟩;rw[run_equalIn_struct w d t _ _ (by rw[jE hu];exact hu) b0,jE hu];exact ih.2 d _ _ fl.toList _ _ r (by omega) (Z.part o td.n) (hy.part o td.n) (by rw[a8];exact h)
    ·cases h
   ·cases O with
    | nil=>simp[lJ] at h;subst h;simp[Op.eqFields]
    | cons f O=>
      simp only[List.map_cons,lJ] at h;split at h;·cases h
      ·rename_i b2
       split at h
       ·rename_i a b h1 h2
        simp only[Option.some.injEq] at h;obtain⟨u,v,hu,hv,b3⟩:=ih.1 f.type d I J xs M f.offset a (by omega) Z hy h1;have h3:=ih.2 d I J O xs M b (by omega) Z hy h2;simp only[Op.eqFields,ne_eq,b2,not_false_eq_true,if_true,Sem.run_bind,hu,hv,b3,Result.andThen_ok,Sem.run_ite];cases a;·simp at h;subst h;simp
        ·simp at h;subst h;simpa using h3
       ·cases h
end
end Go.Ab
namespace Go.Ab
open Go.RowKit
def gm:A→Option (List (List D))
 | .d (.sl es)=>some es
 | .own _ es=>some es
 | .d (.v (.slice none 0 0))=>some []
 | .fl es=>some es
 | _=>none
theorem fZ {E:En} {v:Value} {a:A} {es:List (List D)} (h:gm a=some es) (I:aC E v a):aI E.w E.pv v (.sl es):=by
 unfold gm at h;split at h;·cases I;simp only[Option.some.injEq] at h;subst h;assumption
 ·cases I;simp only[Option.some.injEq] at h;subst h;assumption
 ·cases I with
  | d hd=>cases hd;simp only[Option.some.injEq] at h;subst h;exact .nil
 ·cases I;simp only[Option.some.injEq] at h;subst h;assumption
 ·cases h
theorem aI.len {w:World} {pv:Nat→Nat→Prop} {v:Value} {es:List (List D)} (h:aI w pv v (.sl es)):∃ a cap,v=.slice a es.length cap∧es.length≤maxLen:=by
 cases h with
 | nil=>exact⟨none,0,rfl,by simp⟩
 | emp a cap hm=>exact⟨_,cap,rfl,by simp⟩
 | sl b off len cap sz es u hl I hm hs hu J=>exact⟨_,cap,by rw[hl],by omega⟩
section
variable {P:Program} (T:bA P)
def lE (t:Nat) (l:List A):Option A:=match ae T.l t with
 | some d=>bif d.k.agg then (if d.n≤l.length then some (jx (l.take d.n)) else none) else l[0]?
 | none=>none
def jv (t:Nat) (l:List D):Option A:=match ae T.l t with
 | some d=>bif d.k.agg then (if d.n≤l.length then some (.ag (l.take d.n)) else none) else (l[0]?).map .d
 | none=>none
def mD (t i:Nat):Option (Nat×Nat):=match cA T t with
 | .st I=>(I[i]?).map fun x=>(x.1,x.2.1)
 | _=>none
def c8 (t:Nat):Nat:=match ae T.l t with | some d=>d.n | none=>0
def Bi:Option Value→Option A
 | some v=>some (.d (.v v))
 | none=>none
def AL:Option Bool→Option A
 | some b=>some (.d (.v (.bool b)))
 | none=>none
def ym:Option Bool→Option A
 | some b=>some (.d (.v (.bool !b)))
 | none=>none
def Be:Option (List (List D))→Option A
 | some es=>some (.d (.v (.int .i64 es.length)))
 | none=>none
theorem zE {o:Option Value} {a:A} (h:Bi o=some a):∃ v,o=some v∧A.d (.v v)=a:=by cases o <;> simp[Bi] at h;exact⟨_,rfl,h⟩
theorem Ad {o:Option Bool} {a:A} (h:AL o=some a):∃ b,o=some b∧A.d (.v (.bool b))=a:=by cases o <;> simp[AL] at h;exact⟨_,rfl,h⟩
theorem xQ {o:Option Bool} {a:A} (h:ym o=some a):∃ b,o=some b∧A.d (.v (.bool !b))=a:=by cases o <;> simp[ym] at h;exact⟨_,rfl,h⟩
theorem zy {o:Option (List (List D))} {a:A} (h:Be o=some a):∃ es,o=some es∧A.d (.v (.int .i64 es.length))=a:=by cases o <;> simp[Be] at h;exact⟨_,rfl,h⟩
def wb (f:List (Nat×A)) (c:Call):Option A:=
 match c.callee,c.args.toList,c.argTypes.toList with
 | .builtin .len,[x],[t]=>(match av f x with
   | some (.d (.v (.string s)))=>(match cA T t with | .str=>some (.d (.v (.int .i64 s.size))) | _=>none)
   | some a=>(match cA T t with | .slice _=>Be (gm a) | _=>none)
   | none=>none)
 | .builtin .max,[x,y],_=>(match av f x,av f y with
   | some (.d (.v (.int k a))),some (.d (.v (.int I b)))=>if k=I then some (.d (.v (.int k (if a < b then b else a)))) else none
   | _,_=>none)
 | .builtin .min,[x,y],_=>(match av f x,av f y with
   | some (.d (.v (.int k a))),some (.d (.v (.int I b)))=>if k=I then some (.d (.v (.int k (if b < a then b else a)))) else none
   | _,_=>none)
 | _,_,_=>none
def iV (f:List (Nat×A)):List Operand→Option (List A)
 | []=>some []
 | x::r=>match av f x,iV f r with
   | some a,some l=>some (a::l)
   | _,_=>none
def iv (f:List (Nat×A)) (bx:List (Nat×List A)):Op→Option A
 | .move x=>av f x
 | .assign x=>av f x
 | .pick c a b=>(match av f c with
   | some (.d (.v (.bool true)))=>av f a
   | some (.d (.v (.bool false)))=>av f b
   | _=>none)
 | .binOp op t x y _=>(match av f x,av f y with
   | some (.d (.v a)),some (.d (.v b))=>Bi (bV op (cA T t) a b)
   | some (.ag l),some (.ag r)=>(match cA T t,op with
     | .st J,.eql=>AL (lJ T 50 J l r)
     | .st J,.neq=>ym (lJ T 50 J l r)
     | _,_=>none)
   | _,_=>none)
 | .unOp op _ x=>(match op,av f x with
   | .not,some (.d (.v (.bool b)))=>some (.d (.v (.bool !b)))
   | .neg,some (.d (.v (.int k n)))=>some (.d (.v (.int k (k.wrap (0 - n)))))
   | _,_=>none)
 | .convert s t x=>(match av f x,cA T s,cA T t with
   | some (.d (.v (.int _ n))),.int _,.int k=>some (.d (.v (.int k (k.wrap n))))
   | some (.d (.v (.string s))),.str,.str=>some (.d (.v (.string s)))
   | _,_,_=>none)
 | .extract x i=>(match av f x with
   | some (.tup l)=>l[i]?
   | _=>none)
 | .field t x i=>(match mD T t i,av f x with
   | some (o,I),some (.ag l)=>jv T I (l.drop o)
   | some (o,I),some (.agg l)=>lE T I (l.drop o)
   | _,_=>none)
 | .fieldAddr t x i=>(match mD T t i with
   | some (o,I)=>(match c8 T I,av f x with
     | _+1,some (.ptr g off)=>(match ae bx g with | some _=>some (.ptr g (off+o)) | none=>none)
     | _+1,some (.rowd l)=>some (.rowd (l.drop o))
     | _+1,some (.row l)=>some (.row (l.drop o))
     | _,_=>none)
   | none=>none)
 | .load t x=>(match av f x with
   | some (.ptr g off)=>(match ae bx g with | some cells=>lE T t (cells.drop off) | none=>none)
   | some (.rowd l)=>jv T t l
   | some (.row l)=>lE T t l
   | _=>none)
 | .makeFunc (.func fn) first caps=>(match first.toList,iV f caps.toList with
   | [],some l=>some (.clo fn l)
   | x::r,some []=>(match iV f (x::r) with | some l=>some (.bnd fn l) | none=>none)
   | _,_=>none)
 | .nilCheck x=>(match av f x with
   | some (.ptr g off)=>(match ae bx g with | some _=>some (.ptr g off) | none=>none)
   | some (.rowd l)=>some (.rowd l)
   | some (.row l)=>some (.row l)
   | _=>none)
 | .call c=>wb T f c
 | _=>none
def dG (P:Program) (E:En) (I:Operand→Value) (o:Oper) (a:A):Prop:=∃ v,(execOp I o).run P E.w=.ok (.value v) E.w∧aC E v a
section
variable {C:Ctx} {n:Nat} {st:St} {G:Gh} {tmps:Array Value} {w:World} (h:ao C n st G tmps w) {o:Oper} {a:A}
include h
theorem gV:∀ (l:List Operand) (r:List A),iV st.f l=some r→l.length=r.length∧∀ (i:Nat) (x:A),r[i]? = some x→∃ y,l[i]? = some y∧aC (au C G st.gen w) (Act.eval ⟨tmps,[]⟩ y) x
 | [],r,hr=>by simp[iV] at hr;subst hr;simp
 | y::l,r,hr=>by
   simp only[iV] at hr;split at hr
   ·rename_i b l' hb hl
    simp only[Option.some.injEq] at hr;subst hr;obtain⟨h1,h2⟩:=gV l l' hl;refine⟨by simp[h1],fun i x I=>?_⟩
    cases i with
    | zero=>simp at I;subst I;exact⟨y,by simp,h.av hb⟩
    | succ i=>simpa using h2 i x (by simpa using I)
   ·cases hr
theorem jI {g off:Nat} {cells:List A} {v:Value} (hb:ae st.bx g=some cells) (N:aC (au C G st.gen w) v (.ptr g off)) :
 ∃ b cs I,v=.pointer (some ⟨b,off,none⟩)∧w.heap[b]? = some (.cells cs I (0,0))∧cs.size=cells.length∧(∀ (i:Nat) (u:Value),cs[i]? = some u→u.oneCell'=true) ∧
   ∀ (i:Nat) (u:Value) (a:A),cs[i]? = some u→cells[i]? = some a→aC (au C G st.gen w) u a:=by
 obtain⟨b,cs,I,h1,h2,h3,h4,h5⟩:=h.box g cells hb
 cases N with
 | ptr _ _ _ O _ J M=>exact⟨b,cs,I,kP J M b h1,h2,h3,h4,h5⟩
omit h in
theorem fG {t:Nat} {d:bH} (hd:ae T.l t=some d) {b off:Nat} {w:World} (u:Nat→Value) (I:∀ j,j < (if d.k.agg then d.n else 1)→cellAt w b (off+j)=some (u j)) :
 (Instr.loadAt t (.pointer (some ⟨b,off,none⟩))).run P w=.ok (if d.k.agg then .agg ((List.range d.n).map u).toArray else u 0) w:=by
 cases hk:d.k.agg
 ·simp only[hk,Bool.false_eq_true,if_false] at I
  have:=I 0 (by omega);simp only[cellAt,Nat.add_zero] at this;simp[Instr.loadAt,Instr.sureAddr,loadVar,T.isAgg hd,hk,this]
 ·simp only[hk,if_true] at I
  have hl:=run_loadCells (P:=P) (w:=w) ⟨b,off,none⟩ d.n u (fun j hj=>by
   have:=I j hj;unfold Addr.add;split;·rename_i e;subst e;simpa [cellAt] using this
   ·exact this)
  simp only[Instr.loadAt,Instr.sureAddr,Sem.run_bind,Sem.run_pure,Result.andThen_ok,loadVar,T.isAgg hd,hk,if_true,T.sizeOf hd,hl]
omit h in
theorem mU {t:Nat} {E:En} {b off:Nat} {l:List A} {u:Nat→Value} (hc:∀ j,j < l.length→cellAt E.w b (off+j)=some (u j)∧(u j).oneCell'=true)
    (hl:∀ (j:Nat) (x:A),l[j]? = some x→aC E (u j) x) (ha:lE T t l=some a) :
    ∃ v,(Instr.loadAt t (.pointer (some ⟨b,off,none⟩))).run P E.w=.ok v E.w∧aC E v a:=by
  unfold lE at ha
  split at ha
  · rename_i d hd
    cases hk:d.k.agg
    · simp only[hk,cond_false] at ha
      have h0:0 < l.length:=(List.getElem?_eq_some_iff.1 ha).1
      refine⟨_,fG T hd u (fun j hj=>?_),?_⟩
      · simp only[hk,Bool.false_eq_true,if_false] at hj
        exact(hc j (by omega)).1
      · simp only[hk,Bool.false_eq_true,if_false]
        exact hl 0 a ha
    · simp only[hk,cond_true] at ha
      split at ha
      · rename_i hn
        simp only[Option.some.injEq] at ha
        subst ha
        refine⟨_,fG T hd u (fun j hj=>?_),?_⟩
        · simp only[hk,if_true] at hj
          exact(hc j (by omega)).1
        · simp only[hk,if_true]
          refine jN (by simp;omega) (fun i v hv=>?_) (fun i v x hv hx=>?_)
          · simp only[List.getElem?_toArray,List.getElem?_map,List.getElem?_range] at hv
            have hi:i < d.n:=by
              rcases Nat.lt_or_ge i d.n with h | h
              · exact h
              · simp[List.getElem?_eq_none,h] at hv
            simp[hi] at hv
            subst hv
            exact(hc i (by omega)).2
          · have hi:i < d.n:=by
              rcases Nat.lt_or_ge i d.n with h | h
              · exact h
              · simp[List.getElem?_eq_none,h] at hv
            simp[hi] at hv
            subst hv
            rw[List.getElem?_take,if_pos hi] at hx
            exact hl i x hx
      · cases ha
  · cases ha
omit h in
theorem kr {t:Nat} {E:En} {b off:Nat} {l:List D} {u:Nat→Value} (N:∀ j,j < l.length→cellAt E.w b (off+j)=some (u j))
 (hl:∀ (j:Nat) (x:D),l[j]? = some x→aI E.w E.pv (u j) x) (I:jv T t l=some a) :
 ∃ v,(Instr.loadAt t (.pointer (some ⟨b,off,none⟩))).run P E.w=.ok v E.w∧aC E v a:=by
 unfold jv at I;split at I
 ·rename_i d hd
  cases hk:d.k.agg
  ·simp only[hk,cond_false,Option.map_eq_some_iff] at I
   obtain⟨x,J,rfl⟩:=I;have h0:0 < l.length:=(List.getElem?_eq_some_iff.1 J).1;refine⟨_,fG T hd u (fun j hj=>?_),?_⟩
   ·simp only[hk,Bool.false_eq_true,if_false] at hj
    exact N j (by omega)
   ·simp only[hk,Bool.false_eq_true,if_false]
    exact .d (hl 0 x J)
  ·simp only[hk,cond_true] at I
   split at I
   ·rename_i O
    simp only[Option.some.injEq] at I;subst I;refine⟨_,fG T hd u (fun j hj=>?_),?_⟩
    ·simp only[hk,if_true] at hj
     exact N j (by omega)
    ·simp only[hk,if_true]
     refine .ag _ _ (by simp;omega) (fun i v x M J=>?_);have hi:i < d.n:=by
      rcases Nat.lt_or_ge i d.n with h | h
      ·exact h
      ·simp[List.getElem?_eq_none,h] at M
     simp[hi] at M;subst M;rw[List.getElem?_take,if_pos hi] at J;exact hl i x J
   ·cases I
 ·cases I
end
end
end Go.Ab
namespace Go.Ab
open Go.RowKit
section
variable {P:Program} (T:bA P)
variable {C:Ctx} {n:Nat} {st:St} {G:Gh} {tmps:Array Value} {w:World} (h:ao C n st G tmps w) {o:Oper} {a:A}
theorem jy {I:Operand→Value} {t:Nat} {x:Operand} (J:o.op=.load t x):execOp I o=(do pure (.value (←Instr.loadAt t (I x)))):=by unfold execOp;rw[J]
theorem mH {t i off M:Nat} (I:mD T t i=some (off,M)):∃ fl:Array Field,∃ fd:Field,P.underlying t=some (.struct fl)∧fl[i]? = some fd∧fd.offset=off∧fd.type=M:=by
 unfold mD at I;split at I
 ·rename_i fs Z
  obtain⟨d,hd,N⟩:=dB T Z (by simp);obtain⟨fl,hu,O,_⟩:=T.ss hd N;simp only[Option.map_eq_some_iff] at I;obtain⟨x,U,J⟩:=I;rw[←O,List.getElem?_map,Option.map_eq_some_iff] at U;obtain⟨fd,X,rfl⟩:=U;simp only[Prod.mk.injEq] at J;exact⟨fl,fd,hu,by simpa using X,J.1,J.2⟩
 ·cases I
theorem jz {t i off I m:Nat} (N:mD T t i=some (off,I)) (hs:c8 T I=m+1) (b o':Nat) (w:World) :
 (Instr.fieldAt t (.pointer (some ⟨b,o',none⟩)) i).run P w=.ok (.pointer (some ⟨b,o'+off,none⟩)) w:=by
 obtain⟨fl,fd,hu,J,rfl,rfl⟩:=mH T N;have M:(sizeOf fd.type).run P w=.ok (m+1) w:=by
  unfold c8 at hs;split at hs;·rename_i d hd;rw[T.sizeOf hd,hs]
  ·cases hs
 simp only[Instr.fieldAt,Sem.run_bind,run_underlying hu,Result.andThen_ok,J,Instr.sureAddr,Sem.run_pure,fieldPlace,M,Nat.succ_ne_zero,if_false];unfold Addr.add;split;·rename_i e;rw[e];simp
 ·rfl
include h
theorem Da {t:Nat} {x:Operand} (X:o.op=.load t x) (I:iv T st.f st.bx (.load t x)=some a):dG P (au C G st.gen w) (Act.eval ⟨tmps,[]⟩) o a:=by
 have key:∃ v,(Instr.loadAt t (Act.eval ⟨tmps,[]⟩ x)).run P w=.ok v w∧aC (au C G st.gen w) v a:=by
  simp only[iv] at I;split at I
  ·rename_i g off J
   split at I
   ·rename_i cells hb
    obtain⟨b,cs,T',h1,h2,h3,h4,h5⟩:=jI h hb (h.av J);rw[h1];refine mU (E:=au C G st.gen w) T (u:=fun j=>cs[off+j]?.getD default) (l:=cells.drop off) (fun j hj=>?_) (fun j y Z=>?_) I
    ·have M:off+j < cs.size:=by simp at hj;omega
     have e:cs[off+j]? = some cs[off+j]:=by simp[M]
     exact⟨by show cellAt w b (off+j)=_;rw[bC h2,e];rfl,by rw[e];exact h4 _ _ e⟩
    ·have U:cells[off+j]? = some y:=by simpa using Z
     have M:off+j < cs.size:=by rw[h3];exact(List.getElem?_eq_some_iff.1 U).1
     have e:cs[off+j]? = some cs[off+j]:=by simp[M]
     rw[e];exact h5 _ _ _ e U
   ·cases I
  ·rename_i l J
   have N:=h.av J;generalize Act.eval ⟨tmps,[]⟩ x=v at N
   cases N with
   | rowd b off _ u O hd=>exact kr (E:=au C G st.gen w) T (fun j hj=>(O j hj).1) hd I
  ·rename_i l J
   have N:=h.av J;generalize Act.eval ⟨tmps,[]⟩ x=v at N
   cases N with
   | row b off _ u O hd=>exact mU (E:=au C G st.gen w) T (fun j hj=>⟨(O j hj).1,(O j hj).2.2⟩) hd I
  ·cases I
 obtain⟨v,h1,h2⟩:=key;refine⟨v,?_,h2⟩;rw[jy X];show Sem.run P _ w=.ok _ w;simp only[Sem.run_bind,h1,Result.andThen_ok,Sem.run_pure]
theorem uS {t i:Nat} {x:Operand} (ho:o.op=.fieldAddr t x i) (I:iv T st.f st.bx (.fieldAddr t x i)=some a):dG P (au C G st.gen w) (Act.eval ⟨tmps,[]⟩) o a:=by
 have key:∃ v,(Instr.fieldAt t (Act.eval ⟨tmps,[]⟩ x) i).run P w=.ok v w∧aC (au C G st.gen w) v a:=by
  simp only[iv] at I;split at I
  ·rename_i M ft O
   split at I
   ·rename_i m g off hs N
    split at I
    ·rename_i cells hb
     simp only[Option.some.injEq] at I;subst I;have J:=h.av N;obtain⟨b,cs,T',h1,h2,h3,h4,h5⟩:=jI h hb J;rw[h1] at J ⊢;refine⟨_,jz T O hs b off w,?_⟩
     cases J with
     | ptr _ _ _ b' hg Z this=>refine .ptr _ _ _ b' hg Z ?_;simp only[Value.pointer.injEq,Option.some.injEq,Addr.mk.injEq] at this;rw[this.1]
    ·cases I
   ·rename_i m l hs N
    simp only[Option.some.injEq] at I;subst I;have J:=h.av N;generalize Act.eval ⟨tmps,[]⟩ x=v at J
    cases J with
    | rowd b off _ u U hd=>refine⟨_,jz T O hs b off w,.rowd b (off+M) _ (fun j=>u (M+j)) (fun j hj=>?_) (fun j y X=>hd _ _ (by simpa using X))⟩;have:=U (M+j) (by simp at hj;omega);rw[Nat.add_assoc];exact this
   ·rename_i m l hs N
    simp only[Option.some.injEq] at I;subst I;have J:=h.av N;generalize Act.eval ⟨tmps,[]⟩ x=v at J
    cases J with
    | row b off _ u U hd=>refine⟨_,jz T O hs b off w,.row b (off+M) _ (fun j=>u (M+j)) (fun j hj=>?_) (fun j y X=>hd _ _ (by simpa using X))⟩;have:=U (M+j) (by simp at hj;omega);rw[Nat.add_assoc];exact this
   ·cases I
  ·cases I
 obtain⟨v,h1,h2⟩:=key;refine⟨v,?_,h2⟩;unfold execOp;rw[ho];show Sem.run P _ w=.ok _ w;simp only[Sem.run_bind,h1,Result.andThen_ok,Sem.run_pure]
omit h in
theorem wq {E:En} {t:Nat} {cs:Array Value} {l:List A} {off:Nat} (M:∀ (i:Nat) (u:Value),cs[i]? = some u→u.oneCell'=true) (hs:cs.size=l.length)
 (hl:∀ (i:Nat) (u:Value) (x:A),cs[i]? = some u→l[i]? = some x→aC E u x) (I:lE T t (l.drop off)=some a):∃ v,(part t cs off).run P E.w=.ok v E.w∧aC E v a:=by
 unfold lE at I;split at I
 ·rename_i d hd
  cases hk:d.k.agg
  ·simp only[hk,cond_false] at I
   have J:l[off]? = some a:=by simpa using I
   have hi:off < cs.size:=by rw[hs];exact(List.getElem?_eq_some_iff.1 J).1
   have e:cs[off]? = some cs[off]:=by simp[hi]
   exact⟨_,im T hd hk e _,hl _ _ _ e J⟩
  ·simp only[hk,cond_true] at I
   split at I
   ·rename_i N
    simp only[Option.some.injEq] at I;subst I;refine⟨_,iQ T hd hk cs off _,jN (by simp at N ⊢;omega) (fun i u hu=>?_) (fun i u x hu J=>?_)⟩
    ·simp only[Array.getElem?_extract] at hu
     split at hu;·exact M _ _ hu
     ·cases hu
    ·simp only[Array.getElem?_extract] at hu
     split at hu
     ·rw[List.getElem?_take] at J
      split at J;·exact hl _ _ _ hu (by simpa using J)
      ·cases J
     ·cases hu
   ·cases I
 ·cases I
omit h in
theorem wH {E:En} {t:Nat} {cs:Array Value} {l:List D} {off:Nat} (hl:dw E cs l) (I:jv T t (l.drop off)=some a):∃ v,(part t cs off).run P E.w=.ok v E.w∧aC E v a:=by
 unfold jv at I;split at I
 ·rename_i d hd
  cases hk:d.k.agg
  ·simp only[hk,cond_false,Option.map_eq_some_iff] at I
   obtain⟨x,J,rfl⟩:=I;obtain⟨u,hu,M⟩:=hl.get (i:=off) (by simpa using J);exact⟨_,im T hd hk hu _,.d M⟩
  ·simp only[hk,cond_true] at I
   split at I
   ·rename_i N
    simp only[Option.some.injEq] at I;subst I;have:=hl.part off d.n;exact⟨_,iQ T hd hk cs off _,.ag _ _ this.1 this.2⟩
   ·cases I
 ·cases I
theorem A2 {t i:Nat} {x:Operand} (U:o.op=.field t x i) (I:iv T st.f st.bx (.field t x i)=some a):dG P (au C G st.gen w) (Act.eval ⟨tmps,[]⟩) o a:=by
 have key:∃ v,(Instr.field t (Act.eval ⟨tmps,[]⟩ x) i).run P w=.ok v w∧aC (au C G st.gen w) v a:=by
  simp only[iv] at I;split at I
  ·rename_i X Z l N O
   have J:=h.av O;generalize Act.eval ⟨tmps,[]⟩ x=v at J;obtain⟨fl,fd,hu,M,rfl,rfl⟩:=mH T N
   cases J with
   | ag cs _ hs hd=>obtain⟨v,h1,h2⟩:=wH (E:=au C G st.gen w) T (cs:=cs) (l:=l) (off:=fd.offset) ⟨hs,hd⟩ I;exact⟨v,by simp only[Instr.field,Sem.run_bind,run_underlying hu,Result.andThen_ok,M,asAgg,Sem.run_pure];exact h1,h2⟩
  ·rename_i X Z l N O
   have J:=h.av O;generalize Act.eval ⟨tmps,[]⟩ x=v at J;obtain⟨fl,fd,hu,M,rfl,rfl⟩:=mH T N
   cases J with
   | agg cs _ hs hone hd=>obtain⟨v,h1,h2⟩:=wq (E:=au C G st.gen w) T (cs:=cs) (l:=l) (off:=fd.offset) hone hs hd I;exact⟨v,by simp only[Instr.field,Sem.run_bind,run_underlying hu,Result.andThen_ok,M,asAgg,Sem.run_pure];exact h1,h2⟩
  ·cases I
 obtain⟨v,h1,h2⟩:=key;refine⟨v,?_,h2⟩;unfold execOp;rw[U];show Sem.run P _ w=.ok _ w;simp only[Sem.run_bind,h1,Result.andThen_ok,Sem.run_pure]
theorem AK {op:BinOp} {t t':Nat} {x y:Operand} (ho:o.op=.binOp op t x y t') (N:iv T st.f st.bx (.binOp op t x y t')=some a):dG P (au C G st.gen w) (Act.eval ⟨tmps,[]⟩) o a:=by
 have key:∃ v,(do eqGuard op t x y (Act.eval ⟨tmps,[]⟩ x) (Act.eval ⟨tmps,[]⟩ y);binOp op t (Act.eval ⟨tmps,[]⟩ x) (Act.eval ⟨tmps,[]⟩ y):Sem Value).run P w=.ok v w∧aC (au C G st.gen w) v a:=by
  simp only[iv] at N;split at N
  ·rename_i u v hx hy
   have J:=h.av hx;have M:=h.av hy;generalize Act.eval ⟨tmps,[]⟩ x=u' at J;generalize Act.eval ⟨tmps,[]⟩ y=v' at M;obtain⟨r,I,rfl⟩:=zE N
   cases J with
   | d J=>
   cases M with
   | d M=>
   cases J with
   | v _ hu=>
   cases M with
   | v _ hv=>
   have res:(binOp op t u v).run P w=.ok r w∧cm r=true∧(eqGuard op t x y u v).run P w=.ok () w:=by
    unfold bV at I;split at I
    ·split at I
     ·rename_i e
      subst e;split at I;·cases I
      ·cases I
      ·rename_i h1 h2
       obtain⟨h3,h4⟩:=Fj (P:=P) (w:=w) (t:=t) I h1 h2;exact⟨h3,h4,by simp[eqGuard]⟩
     ·cases I
    ·obtain⟨h3,h4⟩:=Fb (P:=P) (w:=w) (t:=t) I
     exact⟨h3,h4,by simp[eqGuard]⟩
    ·split at I
     ·rename_i O
      obtain⟨d,hd,X⟩:=dB T O (by simp);obtain⟨h3,h4⟩:=Fw (P:=P) (w:=w) (t:=t) (T.rO hd X) I;exact⟨h3,h4,by simp[eqGuard]⟩
     ·cases I
    ·cases I
   exact⟨r,by simp only[Sem.run_bind,res.2.2,Result.andThen_ok,res.1],.d (.v _ res.2.1)⟩
  ·rename_i l r hx hy
   have J:=h.av hx;have M:=h.av hy;generalize Act.eval ⟨tmps,[]⟩ x=u' at J;generalize Act.eval ⟨tmps,[]⟩ y=v' at M
   cases J with
   | ag Z _ ad ai=>
   cases M with
   | ag cy _ aj a1=>
   have gen:∀ (U:List (Nat×Nat×String)) (b:Bool),cA T t=.st U→lJ T 50 U l r=some b →
    (Op.equal t (.agg Z) (.agg cy)).run P w=.ok b w∧∀ op,(eqGuard op t x y (.agg Z) (.agg cy)).run P w=.ok () w:=by
    intro U b O hb;obtain⟨d,hd,X⟩:=dB T O (by simp);obtain⟨fl,hu,a6,a7,a8,_⟩:=T.ss hd X;refine⟨?_,fun op=>by cases op <;> simp[eqGuard,a8]⟩;show(Op.equalIn (9999+1) t (.agg Z) (.agg cy)).run P w=.ok b w;rw[run_equalIn_struct w 9999 t _ _ (by rw[jE hu];exact hu) a7,jE hu];exact(run_eq (E:=au C G st.gen w) T w 50).2 9999 Z cy fl.toList l r b (by omega) ⟨ad,ai⟩ ⟨aj,a1⟩ (by rw[a6];exact hb)
   split at N
   ·rename_i U O
    obtain⟨b,hb,rfl⟩:=Ad N;obtain⟨h1,h2⟩:=gen U b O hb;exact⟨_,by simp only[Sem.run_bind,h2,Result.andThen_ok,binOp,h1,Sem.run_pure],.d (.v _ rfl)⟩
   ·rename_i U O
    obtain⟨b,hb,rfl⟩:=xQ N;obtain⟨h1,h2⟩:=gen U b O hb;exact⟨_,by simp only[Sem.run_bind,h2,Result.andThen_ok,binOp,h1,Sem.run_pure],.d (.v _ rfl)⟩
   ·cases N
  ·cases N
 obtain⟨v,h1,h2⟩:=key;refine⟨v,?_,h2⟩;unfold execOp;rw[ho];show Sem.run P _ w=.ok _ w;simp only[Sem.run_bind] at h1 ⊢;simp only[h1,Result.andThen_ok,Sem.run_pure]
end
end Go.Ab
namespace Go.Ab
open Go.RowKit
section
variable {P:Program} (T:bA P)
variable {C:Ctx} {n:Nat} {st:St} {G:Gh} {tmps:Array Value} {w:World} (h:ao C n st G tmps w) {o:Oper} {a:A}
theorem qu (l:List Operand) (cs:Array Operand) (hl:cs.toList=l) (I:Operand→Value):cs.map I=(l.map I).toArray:=by
 subst hl
 cases cs with
 | mk l=>simp only[List.map_toArray]
include h
theorem C4 {c:Call} (ho:o.op=.call c) (I:wb T st.f c=some a):dG P (au C G st.gen w) (Act.eval ⟨tmps,[]⟩) o a:=by
 obtain⟨a7,args,X⟩:=c;have key:∃ v,(do let d ←resolve (Act.eval ⟨tmps,[]⟩) ⟨a7,args,X⟩ o.type;invoke d.target d.args:Sem Next).run P w=.ok (.value v) w∧aC (au C G st.gen w) v a:=by
  unfold wb at I;split at I
  ·rename_i x t J O ht
   simp only at J O ht;subst J;have U:=qu _ _ O (Act.eval ⟨tmps,[]⟩);have e2:X=#[t]:=by cases X;simp_all
   subst e2;split at I
   ·rename_i s hs
    split at I
    ·rename_i hk
     obtain⟨d,hd,Z⟩:=dB T hk (by simp);simp only[Option.some.injEq] at I;subst I;have hr:=h.av hs;generalize hv:Act.eval ⟨tmps,[]⟩ x=v at hr
     cases hr with
     | d hr=>
     cases hr with
     | v _ hok=>
     refine⟨.int .i64 s.size,?_,.d (.v _ ?_)⟩
     ·simp only[resolve,U,List.map_cons,List.map_nil,hv,Sem.run_bind,Sem.run_pure,Result.andThen_ok,invoke,builtin,Builtin.len_]
      simp[run_underlying (T.gQ hd Z),goInt]
     ·simp only[cm,decide_eq_true_eq,Bool.and_eq_true] at hok ⊢
      simp only[maxLen] at hok;simp[IntKind.min,IntKind.max,IntKind.signed,IntKind.bits];omega
    ·cases I
   ·rename_i b hb hs
    split at I
    ·rename_i e hk
     obtain⟨d,hd,Z⟩:=dB T hk (by simp);obtain⟨es,a8,rfl⟩:=zy I;obtain⟨ad,cap,hv,hlen⟩:=(fZ a8 (h.av hs)).len;refine⟨.int .i64 es.length,?_,.d (.v _ ?_)⟩
     ·simp only[resolve,U,List.map_cons,List.map_nil,hv,Sem.run_bind,Sem.run_pure,Result.andThen_ok,invoke,builtin,Builtin.len_]
      simp[run_underlying (T.fu hd Z),goInt]
     ·simp only[maxLen] at hlen
      simp[cm,IntKind.min,IntKind.max,IntKind.signed,IntKind.bits];omega
    ·cases I
   ·cases I
  ·rename_i x y J O
   simp only at J O;subst J;have U:=qu _ _ O (Act.eval ⟨tmps,[]⟩);split at I
   ·rename_i k a1 k' b1 h1 h2
    split at I
    ·rename_i ai
     subst ai;simp only[Option.some.injEq] at I;subst I;have M:=h.av h1;have N:=h.av h2;generalize aj:Act.eval ⟨tmps,[]⟩ x=v1 at M;generalize a6:Act.eval ⟨tmps,[]⟩ y=v2 at N;cases M with | d M=>cases M with | v _ b0=>
     cases N with | d N=>cases N with | v _ b2=>
     refine⟨_,?_,.d (.v _ ?_)⟩
     ·simp only[resolve,U,List.map_cons,List.map_nil,aj,a6,Sem.run_bind,Sem.run_pure,Result.andThen_ok,invoke,builtin,Builtin.max_]
      simp[Builtin.max2]
     ·split <;> assumption
    ·cases I
   ·cases I
  ·rename_i x y J O
   simp only at J O;subst J;have U:=qu _ _ O (Act.eval ⟨tmps,[]⟩);split at I
   ·rename_i k a1 k' b1 h1 h2
    split at I
    ·rename_i ai
     subst ai;simp only[Option.some.injEq] at I;subst I;have M:=h.av h1;have N:=h.av h2;generalize aj:Act.eval ⟨tmps,[]⟩ x=v1 at M;generalize a6:Act.eval ⟨tmps,[]⟩ y=v2 at N;cases M with | d M=>cases M with | v _ b0=>
     cases N with | d N=>cases N with | v _ b2=>
     refine⟨_,?_,.d (.v _ ?_)⟩
     ·simp only[resolve,U,List.map_cons,List.map_nil,aj,a6,Sem.run_bind,Sem.run_pure,Result.andThen_ok,invoke,builtin,Builtin.min_]
      simp[Builtin.min2]
     ·split <;> assumption
    ·cases I
   ·cases I
  ·cases I
 obtain⟨v,h1,h2⟩:=key;refine⟨v,?_,h2⟩;unfold execOp;rw[ho];exact h1
theorem z6 (I:iv T st.f st.bx o.op=some a) (hl:∀ t x,o.op≠.load t x) (hf:∀ t x i,o.op≠.fieldAddr t x i) (ad:∀ t x i,o.op≠.field t x i) (hb:∀ p t x y t',o.op≠.binOp p t x y t') (Z:∀ c,o.op≠.call c) :
 dG P (au C G st.gen w) (Act.eval ⟨tmps,[]⟩) o a:=by
 unfold dG execOp;cases hop:o.op <;> rw[hop] at I hl hf ad hb Z <;> simp only[iv] at I <;> first | (cases I;done) | skip
 case move x=>exact⟨_,rfl,h.av I⟩
 case assign x=>exact⟨_,rfl,h.av I⟩
 case pick c x y=>
  split at I
  ·rename_i ai
   have J:=h.av ai;generalize N:Act.eval ⟨tmps,[]⟩ c=v at J;cases J with | d J=>cases J with | v _ _=>
   exact⟨_,by simp only[Sem.run_bind,asBool,N,Sem.run_pure,Result.andThen_ok,if_true] <;> rfl,h.av I⟩
  ·rename_i ai
   have J:=h.av ai;generalize N:Act.eval ⟨tmps,[]⟩ c=v at J;cases J with | d J=>cases J with | v _ _=>
   exact⟨_,by simp only[Sem.run_bind,asBool,N,Sem.run_pure,Result.andThen_ok,Bool.false_eq_true,if_false] <;> rfl,h.av I⟩
  ·cases I
 case load t x=>exact absurd rfl (hl t x)
 case fieldAddr t x i=>exact absurd rfl (hf t x i)
 case field t x i=>exact absurd rfl (ad t x i)
 case binOp p t x y t'=>exact absurd rfl (hb p t x y t')
 case call c=>exact absurd rfl (Z c)
 case unOp p t x=>
  split at I
  ·rename_i b M
   have J:=h.av M;generalize N:Act.eval ⟨tmps,[]⟩ x=v at J;cases J with | d J=>cases J with | v _ _=>
   simp only[Option.some.injEq] at I;subst I;exact⟨_,by simp only[N,Op.unary,Sem.run_bind,Sem.run_pure,Result.andThen_ok] <;> rfl,.d (.v _ rfl)⟩
  ·rename_i k m M
   have J:=h.av M;generalize N:Act.eval ⟨tmps,[]⟩ x=v at J;cases J with | d J=>cases J with | v _ _=>
   simp only[Option.some.injEq] at I;subst I;exact⟨_,by simp only[N,Op.unary,Op.intArith,Sem.run_bind,Sem.run_pure,Result.andThen_ok] <;> rfl,.d (.v _ (fY _ _))⟩
  ·cases I
 case convert s t x=>
  split at I
  ·rename_i k m q k' M hs ht
   have J:=h.av M;generalize N:Act.eval ⟨tmps,[]⟩ x=v at J;cases J with | d J=>cases J with | v _ _=>
   simp only[Option.some.injEq] at I;subst I;obtain⟨ds,aj,O⟩:=dB T hs (by simp);obtain⟨dt,a1,U⟩:=dB T ht (by simp);exact⟨_,by simp only[N,convert,Conv.intToInt,Sem.run_bind,run_underlying (T.fa aj O),run_underlying (T.fa a1 U),Sem.run_pure,Result.andThen_ok] <;> rfl,.d (.v _ (fY _ _))⟩
  ·rename_i m M hs ht
   have J:=h.av M;generalize N:Act.eval ⟨tmps,[]⟩ x=v at J;cases J with | d J=>cases J with | v _ hok=>
   simp only[Option.some.injEq] at I;subst I;obtain⟨ds,aj,O⟩:=dB T hs (by simp);obtain⟨dt,a1,U⟩:=dB T ht (by simp);exact⟨_,by simp only[N,convert,Sem.run_bind,run_underlying (T.gQ aj O),run_underlying (T.gQ a1 U),Sem.run_pure,Result.andThen_ok] <;> rfl,.d (.v _ hok)⟩
  ·cases I
 case extract x i=>
  split at I
  ·rename_i l M
   have J:=h.av M;generalize N:Act.eval ⟨tmps,[]⟩ x=v at J
   cases J with
   | tup vs _ hs hd=>
   have hi:i < vs.size:=by rw[hs];exact(List.getElem?_eq_some_iff.1 I).1
   have e:vs[i]? = some vs[i]:=by simp[hi]
   exact⟨_,by simp only[N,Instr.extract,e,Sem.run_bind,Sem.run_pure,Result.andThen_ok] <;> rfl,hd i _ _ e I⟩
  ·cases I
 case makeFunc fn first caps=>
  cases fn <;> simp only at I <;> first | (cases I;done) | skip
  rename_i fid;split at I
  ·rename_i l ad b2
   simp only[Option.some.injEq] at I;subst I;have e1:first=#[]:=by cases first;simp_all
   subst e1;obtain⟨h1,h2⟩:=gV h caps.toList l b2;refine⟨_,by simp only[Instr.makeFunc,Sem.run_bind,Sem.run_pure,Result.andThen_ok] <;> rfl,?_⟩;have e0:(Array.map (Act.eval ⟨tmps,[]⟩) (#[]:Array Operand))=#[]:=by simp
   rw[e0];refine .clo fid _ l (by simp at h1;simp[h1]) (fun i u x hu M=>?_);obtain⟨y,X,a6⟩:=h2 i x M;simp only[Array.getElem?_map,Option.map_eq_some_iff] at hu;obtain⟨z,hz,rfl⟩:=hu;have:y=z:=by simp at X;rw[hz] at X;exact(Option.some.inj X).symm
   subst this;exact a6
  ·rename_i x r a7 b0
   have e2:caps.toList=[]:=by have:=(gV h caps.toList [] b0).1;simpa using this
   have e3:caps=#[]:=Array.toList_inj.1 e2
   cases a8:iV st.f (x::r) with
   | none=>rw[a8] at I;cases I
   | some l=>
     rw[a8] at I;simp only[Option.some.injEq] at I;subst I;subst e3;have hl:iV st.f first.toList=some l:=by rw[a7];exact a8
     obtain⟨h1,h2⟩:=gV h first.toList l hl;refine⟨_,by simp only[Instr.makeFunc,Sem.run_bind,Sem.run_pure,Result.andThen_ok] <;> rfl,?_⟩;have e0:(Array.map (Act.eval ⟨tmps,[]⟩) (#[]:Array Operand))=#[]:=by simp
     rw[e0];refine .bnd fid _ l (by simp at h1;simp[h1]) (fun i u x hu M=>?_);obtain⟨y,X,a6⟩:=h2 i x M;simp only[Array.getElem?_map,Option.map_eq_some_iff] at hu;obtain⟨z,hz,rfl⟩:=hu;have:y=z:=by simp at X;rw[hz] at X;exact(Option.some.inj X).symm
     subst this;exact a6
  ·cases I
 case nilCheck x=>
  dsimp only;split at I
  ·rename_i g off M
   split at I
   ·rename_i cells b3
    simp only[Option.some.injEq] at I;subst I;have J:=h.av M;obtain⟨b,cs,T',h1,_⟩:=jI h b3 J;rw[h1] at J;simp only[h1];exact⟨_,rfl,J⟩
   ·cases I
  ·rename_i l M
   simp only[Option.some.injEq] at I;subst I;have J:=h.av M;generalize Act.eval ⟨tmps,[]⟩ x=v at J
   cases J with
   | rowd b off _ u Z hd=>exact⟨_,rfl,.rowd b off _ u Z hd⟩
  ·rename_i l M
   simp only[Option.some.injEq] at I;subst I;have J:=h.av M;generalize Act.eval ⟨tmps,[]⟩ x=v at J
   cases J with
   | row b off _ u Z hd=>exact⟨_,rfl,.row b off _ u Z hd⟩
  ·cases I
theorem Fp (I:iv T st.f st.bx o.op=some a):dG P (au C G st.gen w) (Act.eval ⟨tmps,[]⟩) o a:=by
 cases hop:o.op;case load t x=>exact Da T h hop (by rw[hop] at I;exact I)
 case fieldAddr t x i=>exact uS T h hop (by rw[hop] at I;exact I)
 case field t x i=>exact A2 T h hop (by rw[hop] at I;exact I)
 case binOp p t x y t'=>exact AK T h hop (by rw[hop] at I;exact I)
 case call c=>exact C4 T h hop (by rw[hop] at I;exact I)
 all_goals exact z6 T h I (by simp[hop]) (by simp[hop]) (by simp[hop]) (by simp[hop]) (by simp[hop])
end
end Go.Ab
namespace Go.Ab
open Go.RowKit
def cS (P:Program) (o:Oper) (act:Act) (w:World) (R:Value→World→Prop):Prop:=
 match (execOp act.eval o).run P w with
 | .ok (.value v) w'=>R v w'
 | .ok .skip w'=>R undef w'
 | .ok (.enter f args) w'=>Calls P f args w' (fun e I=>∃ v,e=.returned v∧R v I)
 | _=>False
theorem cS.wp {P:Program} {o:Oper} {act:Act} {w:World} {R:Value→World→Prop} {K:Act→World→Prop} {Q:Exit→Act→World→Prop}
 (h:cS P o act w R) (I:∀ v w',R v w'→K (act.put o.dst v) w'):o.wp P act w K Q:=by
 unfold cS at h;unfold Oper.wp;generalize (execOp act.eval o).run P w=r at *
 cases r with
 | ok x w'=>
   cases x <;> simp only at h <;> simp only[Oper.upon];case value v=>exact I v w' h
   case skip=>exact I _ w' h
   case enter f args=>refine h.mono fun e J he=>?_;obtain⟨v,rfl,M⟩:=he;exact I v J M
 | halt x w'=>simp only at h
theorem Act.gw (tmps:Array Value) (ds I:List Deferred):Act.eval ⟨tmps,ds⟩=Act.eval ⟨tmps,I⟩:=funext fun x=>by cases x <;> rfl
theorem cS.ds {P:Program} {o:Oper} {tmps:Array Value} {ds:List Deferred} {w:World} {R:Value→World→Prop} (h:cS P o ⟨tmps,[]⟩ w R):cS P o ⟨tmps,ds⟩ w R:=by unfold cS at *;rw[Act.gw tmps ds []];exact h
theorem Act.gn {tmps:Array Value} {ds:List Deferred} (dst:Option Nat) (v:Value):Act.put ⟨tmps,ds⟩ dst v=⟨(Act.put ⟨tmps,[]⟩ dst v).tmps,ds⟩:=by cases dst <;> rfl
theorem cS.mono {P:Program} {o:Oper} {act:Act} {w:World} {R J:Value→World→Prop} (h:cS P o act w R) (I:∀ v w',R v w'→J v w'):cS P o act w J:=by
 unfold cS at *;generalize (execOp act.eval o).run P w=r at *
 cases r with
 | ok x w'=>
   cases x <;> simp only at h ⊢;case value v=>exact I v w' h
   case skip=>exact I _ w' h
   case enter f args=>exact h.mono fun e M ⟨v,he,hv⟩=>⟨v,he,I v M hv⟩
 | halt x w'=>simp only at h
def Pu (P:Program) (C:Ctx) (n:Nat) (st:St) (o:Oper) (a:A):Prop:=
 ∀ G tmps w,ao C n st G tmps w→cS P o ⟨tmps,[]⟩ w fun v w'=>Below w.heap.size w w'∧aC (au C G st.gen w') v a
theorem dG.pu {P:Program} {C:Ctx} {n:Nat} {st:St} {o:Oper} {a:A} (h:∀ G tmps w,ao C n st G tmps w→dG P (au C G st.gen w) (Act.eval ⟨tmps,[]⟩) o a):Pu P C n st o a:=by intro G tmps w hs;obtain⟨v,h1,h2⟩:=h G tmps w hs;unfold cS;have I:(execOp (Act.eval ⟨tmps,[]⟩) o).run P w=.ok (.value v) w:=h1;rw[I];exact⟨Below.refl _ _,h2⟩
theorem Pu.ev {P:Program} (T:bA P) {C:Ctx} {n:Nat} {st:St} {o:Oper} {a:A} (h:iv T st.f st.bx o.op=some a):Pu P C n st o a:=
 dG.pu fun _ _ _ hs=>Fp T hs h
def dS (P:Program) (ops:Array Oper) (Q:Exit→Act→World→Prop):List Oper→Act→World→Prop
 | [],a,w=>Q .normal a w
 | o::rest,a,w=>if Region.wanted o (yielded ops a.tmps) then o.wp P a w (dS P ops Q rest) Q else dS P ops Q rest (a.put o.dst undef) w
theorem oq {P:Program} {ops:Array Oper} {Q:Exit→Act→World→Prop}:∀ (l:List Oper) (k:Nat),(∀ j,l[j]? = ops[k+j]?)→∀ (a:Act) (w:World),dS P ops Q l a w→wpOps P ops Q (List.range' k l.length) a w
 | [],k,_,a,w,h=>by simpa [wpOps,dS] using h
 | o::l,k,hl,a,w,h=>by
   have h0:ops[k]? = some o:=by simpa using (hl 0).symm
   simp only[List.length_cons,List.range'_succ];rw[wpOps_cons];unfold wpOp;simp only[h0];simp only[dS] at h;have I:=fun a w=>oq (P:=P) (Q:=Q) l (k+1) (fun j=>by have:=hl (j+1);simpa [Nat.add_assoc,Nat.add_comm 1 j] using this) a w;split
   ·rename_i hw
    simp only[hw,if_true] at h;exact .inl (Oper.wp_mono I h)
   ·rename_i hw
    simp only[hw] at h;exact I _ _ h
def lift (C:Ctx) (n:Nat) (Q:Exit→St→Prop):Exit→Act→World→Prop:=fun e a w=>a.defers=C.ds∧∃ st,ez C n st a.tmps w∧Q e st
def WO (P:Program) (C:Ctx) (n:Nat) (ops:Array Oper) (Q:Exit→St→Prop) (l:List Oper) (st:St):Prop:=
 ∀ tmps w,ez C n st tmps w→dS P ops (lift C n Q) l ⟨tmps,C.ds⟩ w
def W (P:Program) (C:Ctx) (n:Nat) (c:Code) (Q:Exit→St→Prop) (st:St):Prop:=
 ∀ tmps w,ez C n st tmps w→c.wp P (lift C n Q) ⟨tmps,C.ds⟩ w
def eM (n:Nat):Option Nat→Bool
 | none=>true
 | some d=>Nat.blt d n
theorem bQ {n:Nat} {dst:Option Nat} (h:eM n dst=true):∀ d,dst=some d→d < n:=by intro d hd;subst hd;exact Nat.lt_of_lt_of_le (Nat.lt_succ_self d) (Nat.le_of_ble_eq_true h)
section
variable {P:Program} {C:Ctx} {n:Nat} {ops:Array Oper} {Q:Exit→St→Prop} {st:St} {o:Oper} {rest:List Oper} {a:A}
theorem WO.nil (h:Q .normal st):WO P C n ops Q [] st:=fun _ _ hs=>⟨rfl,st,hs,h⟩
theorem WO.step (I:o.guard=none) (h:∀ tmps w,ez C n st tmps w→cS P o ⟨tmps,[]⟩ w fun v w'=>∃ st',ez C n st' (Act.put ⟨tmps,[]⟩ o.dst v).tmps w'∧WO P C n ops Q rest st') :
 WO P C n ops Q (o::rest) st:=by
 intro tmps w hs;simp only[dS,Region.wanted,I,if_true];refine(h tmps w hs).ds.wp fun v w' ⟨st',hs',hw⟩=>?_;rw[Act.gn];exact hw _ _ hs'
theorem WO.pu (I:o.guard=none) (hd:eM n o.dst=true) (hp:Pu P C n st o a) (h:WO P C n ops Q rest (st.put o.dst a)):WO P C n ops Q (o::rest) st:=by refine WO.step I fun tmps w ⟨G,hs⟩=>(hp G tmps w hs).mono fun v w' ⟨hb,hr⟩=>⟨_,⟨G,(hs.gp hb).2.put (bQ hd) hr⟩,h⟩
theorem pk {P:Program} {c:Code} {Q:Exit→Act→World→Prop} {tmps:Array Value} {ds:List Deferred} {w:World} (e:ds=[]) (h:c.wp P Q ⟨tmps,ds⟩ w):c.wp P Q ⟨tmps,[]⟩ w:=e▸h
def r7 (o:Oper):Oper:={ o with guard:=none }
def eK (ops:Array Oper) (j:Nat):Option Nat:=(ops[j]?).bind (·.dst)
theorem mx {j d:Nat} {b:Bool} (hj:eK ops j=some d) {tmps:Array Value} (I:tmps[d]? = some (.bool b)):yielded ops tmps j=some b:=by unfold yielded;unfold eK at hj;rw[hj];simp[I]
theorem ta {G:Gh} {tmps:Array Value} {w:World} (hs:ao C n st G tmps w) {d:Nat} {b:Bool} (hl:look st.f d=some (.d (.v (.bool b)))):tmps[d]? = some (.bool b):=by obtain⟨v,J,I⟩:=hs.frame _ _ hl;cases I with | d I=>cases I;exact J
theorem WO.go {j d:Nat} {want:Bool} (I:o.guard=some (j,want)) (hj:eK ops j=some d) (hl:look st.f d=some (.d (.v (.bool want)))) (h:WO P C n ops Q (r7 o::rest) st) :
 WO P C n ops Q (o::rest) st:=by
 intro tmps w ⟨G,hs⟩;have:=h tmps w ⟨G,hs⟩;simp only[dS,Region.wanted,I,r7] at this ⊢;rw[mx hj (ta hs hl)];simp only[if_true] at this;simp only[BEq.rfl,if_true];exact this
theorem ao.known {G:Gh} {tmps:Array Value} {w:World} (hs:ao C n st G tmps w) {d:Nat} {a a':A} (hl:look st.f d=some a) (he:a=a'):ao C n (st.set d a') G tmps w:=by
 subst he;refine { hs with frame:=fun t b hb=>?_ };simp only[St.set,aN] at hb;split at hb
 ·rename_i e
  subst e;simp only[Option.some.injEq] at hb;subst hb;exact hs.frame _ _ hl
 ·exact hs.frame t b hb
theorem WO.split {l:List Oper} {d:Nat} {b:Bool} (hl:look st.f d=some (.d (.v (.bool b)))) (I:b=true→WO P C n ops Q l (st.set d (.d (.v (.bool true))))) (J:b=false→WO P C n ops Q l (st.set d (.d (.v (.bool false))))) :
 WO P C n ops Q l st:=by
 intro tmps w ⟨G,hs⟩;cases b;·exact J rfl tmps w ⟨G,hs.known hl rfl⟩
 ·exact I rfl tmps w ⟨G,hs.known hl rfl⟩
theorem W.region {id:Nat} {l:List Oper} (h:WO P C n l.toArray Q l st):W P C n (.region id l.toArray false) Q st:=by intro tmps w hs;refine wp_region ?_;have:=oq (P:=P) (Q:=lift C n Q) (ops:=l.toArray) l 0 (by simp) ⟨tmps,C.ds⟩ w (h tmps w hs);rw[List.range_eq_range'];simpa using this
def QS (P:Program) (C:Ctx) (n:Nat) (y:Code) (Q:Exit→St→Prop):Exit→St→Prop
 | .normal,st=>W P C n y Q st
 | e,st=>Q e st
def QB (id:Nat) (Q:Exit→St→Prop):Exit→St→Prop
 | .exit i,st=>if i=id then Q .normal st else Q (.exit i) st
 | e,st=>Q e st
theorem W.mono {c:Code} {Q':Exit→St→Prop} (h:W P C n c Q st) (I:∀ e st,Q e st→Q' e st):W P C n c Q' st:=
 fun tmps w hs=>wp_mono (h tmps w hs) fun _ _ _ ⟨h1,st',h2,h3⟩=>⟨h1,st',h2,I _ _ h3⟩
theorem W.skip (h:Q .normal st):W P C n .skip Q st:=fun _ _ hs=>wp_skip ⟨rfl,st,hs,h⟩
theorem W.ret (h:Q .ret st):W P C n .ret Q st:=fun _ _ hs=>wp_ret ⟨rfl,st,hs,h⟩
theorem W.exit {id:Nat} (h:Q (.exit id) st):W P C n (.exit id) Q st:=fun _ _ hs=>wp_exit ⟨rfl,st,hs,h⟩
theorem W.seq {x y:Code} (h:W P C n x (QS P C n y Q) st):W P C n (.seq x y) Q st:=by
 intro tmps w hs;refine wp_seq (wp_mono (h tmps w hs) ?_);rintro e ⟨t,M⟩ w' ⟨hd,st',I,J⟩;simp only at hd;subst hd;cases e <;> simp only[QS] at J <;> simp only[Exit.then];·exact J t w' I
 all_goals exact⟨rfl,st',I,J⟩
theorem W.block {id:Nat} {c:Code} (h:W P C n c (QB id Q) st):W P C n (.block id c) Q st:=by
 intro tmps w hs;refine wp_block (wp_mono (h tmps w hs) ?_);rintro e ⟨t,M⟩ w' ⟨hd,st',J,I⟩;cases e <;> simp only[QB] at I <;> simp only[Exit.inBlock];case exit i=>
  split;·rename_i e;rw[if_pos e] at I;exact⟨hd,st',J,I⟩
  ·rename_i e;rw[if_neg e] at I;exact⟨hd,st',J,I⟩
 all_goals exact⟨hd,st',J,I⟩
theorem W.cond {c:Operand} {x y:Code} {b:Bool} (M:av st.f c=some (.d (.v (.bool b)))) (N:b=true→W P C n x Q st) (O:b=false→W P C n y Q st):W P C n (.cond c x y) Q st:=by
 intro tmps w ⟨G,hs⟩;have J:Act.eval ⟨tmps,C.ds⟩ c=.bool b:=by rw[Act.gw tmps C.ds []];have I:=hs.av M;generalize Act.eval ⟨tmps,[]⟩ c=v at I ⊢;cases I with | d I=>cases I;rfl
 cases b;·exact wp_cond_false J (O rfl tmps w ⟨G,hs⟩)
 ·exact wp_cond_true J (N rfl tmps w ⟨G,hs⟩)
theorem W.lB {c:Operand} {x y:Code} (I:av st.f c=some (.d (.v (.bool true)))) (h:W P C n x Q st):W P C n (.cond c x y) Q st:=W.cond I (fun _=>h) (fun e=>nomatch e)
theorem W.Cb {c:Operand} {x y:Code} (I:av st.f c=some (.d (.v (.bool false)))) (h:W P C n y Q st):W P C n (.cond c x y) Q st:=W.cond I (fun e=>nomatch e) (fun _=>h)
def QL (I:Nat→St→Prop) (m:Nat) (Q:Exit→St→Prop):Exit→St→Prop
 | .normal,st=>∃ k,k < m∧I k st
 | e,st=>Q e st
theorem W.loop {c:Code} (I:Nat→St→Prop) (hr:∀ m st,I m st→W P C n c (QL I m Q) st) {m:Nat} (h0:I m st):W P C n (.loop c) Q st:=by
 intro tmps w hs b k cs
 have key:∀ m (tmps:Array Value) (w:World) (st:St),I m st→ez C n st tmps w →
  ∃ e a' w',lift C n Q e a' w'∧Arrives P (lone (b.at ⟨tmps,C.ds⟩ (.code c::.inLoop c::k)) cs w) b k cs e a' w':=by
  intro m
  induction m using Nat.strongRecOn with
  | _ m ih=>
    intro tmps w st hI hs;obtain⟨e,⟨t1,d1⟩,U,⟨hd,M,N,O⟩,J⟩:=hr m st hI tmps w hs b (.inLoop c::k) cs;simp only at hd;subst hd
    cases e with
    | normal=>obtain⟨m',Z,ad⟩:=O;obtain⟨e2,a2,w2,ai,X⟩:=ih m' Z t1 U M ad N;exact⟨e2,a2,w2,ai,.of_steps (Steps.trans J (.one step_inLoop)) X⟩
    | exit id=>exact⟨_,⟨t1,C.ds⟩,U,⟨rfl,M,N,O⟩,.pass (x:=.inLoop c) rfl (fun _ _=>.inl (by simp)) J⟩
    | goto l=>exact⟨_,⟨t1,C.ds⟩,U,⟨rfl,M,N,O⟩,.pass (x:=.inLoop c) rfl (fun _ _=>.inl (by simp)) J⟩
    | ret=>exact⟨_,⟨t1,C.ds⟩,U,⟨rfl,M,N,O⟩,.pass (x:=.inLoop c) rfl (fun _ _=>.inl (by simp)) J⟩
    | panic ch=>exact⟨_,⟨t1,C.ds⟩,U,⟨rfl,M,N,O⟩,.pass (x:=.inLoop c) rfl (fun _ _=>.inl (by simp)) J⟩
    | outgrown=>exact⟨_,⟨t1,C.ds⟩,U,⟨rfl,M,N,O⟩,.pass (x:=.inLoop c) rfl (fun _ _=>.inl (by simp)) J⟩
 obtain⟨e,a',w',O,J⟩:=key m tmps w st h0 hs;exact⟨e,a',w',O,.of_steps (.one step_loop) J⟩
structure St.le (st st':St):Prop where
 f:∀ t a,look st'.f t=some a→look st.f t=some a
 bx:∀ g c,ae st'.bx g=some c→ae st.bx g=some c
 lv:∀ g∈st'.lv,g∈st.lv
 gen:st'.gen=st.gen
theorem ao.weaken {G:Gh} {tmps:Array Value} {w:World} (hs:ao C n st G tmps w) {st':St} (h:st.le st'):ao C n st' G tmps w:=by
 obtain⟨M,hb,hl,I⟩:=h;refine { size:=hs.size,inj:=hs.inj,xold:=hs.xold,kold:=hs.kold,lent:=hs.lent,fr:=hs.fr,row:=hs.row,mrow:=hs.mrow,sub:=hs.sub,gcell:=hs.gcell,live:=fun g I=>hs.live g (hl g I),frame:=?_,box:=?_,gbox:=?_,gown:=?_ };·intro t a N;rw[I];exact hs.frame t a (M t a N)
 ·intro g c O;rw[I];exact hs.box g c (hb g c O)
 ·intro g b J;rw[I];exact hs.gbox g b J
 ·intro g r U;rw[I];exact hs.gown g r U
theorem W.weaken {c:Code} {st':St} (h:st.le st') (hw:W P C n c Q st'):W P C n c Q st:=fun tmps w ⟨G,hs⟩=>hw tmps w ⟨G,hs.weaken h⟩
theorem WO.weaken {l:List Oper} {st':St} (h:st.le st') (hw:WO P C n ops Q l st'):WO P C n ops Q l st:=fun tmps w ⟨G,hs⟩=>hw tmps w ⟨G,hs.weaken h⟩
end
end Go.Ab
namespace Go.Ab
open Go.RowKit
def conv (bx:List (Nat×List A)):Nat→A→A
 | 0,_=>.any
 | _+1,.d x=>.d x
 | _+1,.ag l=>.ag l
 | _+1,.own _ es=>.d (.sl es)
 | k+1,.agg l=>jx (l.map (conv bx k))
 | _+1,.tup _=>.any
 | _+1,.rowd l=>.rowd l
 | k+1,.row l=>.row (l.map (conv bx k))
 | k+1,.ptr g off=>match ae bx g with
   | some cells=>.row ((cells.drop off).map (conv bx k))
   | none=>.any
 | _+1,.xs _ _=>.any
 | _+1,.xp _ _ _ _=>.any
 | _+1,.mp _ _=>.any
 | _+1,.mq _ _=>.any
 | _+1,.mo _ _ _ _=>.any
 | k+1,.clo f l=>.clo f (l.map (conv bx k))
 | k+1,.bnd f l=>.bnd f (l.map (conv bx k))
 | _+1,.ni=>.any
 | _+1,.fl es=>.fl es
 | _+1,.bf _ _ _=>.any
 | _+1,.np _ _ _=>.any
 | _+1,.sb _ _ _=>.any
 | _+1,.lk _ _ _ _=>.any
 | _+1,.fx _ _ _=>.any
 | _+1,.ol _ _ _ _=>.any
 | _+1,.ow _ _ _=>.any
 | _+1,.any=>.any
mutual
def shift (m:Nat):A→A
 | .own g es=>.own (g+m) es
 | .agg l=>.agg (kG m l)
 | .tup l=>.tup (kG m l)
 | .clo f l=>.clo f (kG m l)
 | .bnd f l=>.bnd f (kG m l)
 | .ptr _ _=>.any
 | .xs _ _=>.any
 | .xp _ _ _ _=>.any
 | .mp _ _=>.any
 | .mq _ _=>.any
 | .mo _ _ _ _=>.any
 | .row _=>.any
 | .d x=>.d x
 | .ag l=>.ag l
 | .rowd l=>.rowd l
 | .ni=>.ni
 | .fl es=>.fl es
 | .bf _ _ _=>.any
 | .np _ _ _=>.any
 | .sb _ _ _=>.any
 | .lk _ _ _ _=>.any
 | .fx _ _ _=>.any
 | .ol _ _ _ _=>.any
 | .ow _ _ _=>.any
 | .any=>.any
def kG (m:Nat):List A→List A
 | []=>[]
 | a::l=>shift m a::kG m l
end
mutual
def norm (order:List Nat):A→A
 | .own g es=>if g∈order then .own (order.idxOf g) es else .d (.sl es)
 | .agg l=>.agg (iZ order l)
 | .tup l=>.tup (iZ order l)
 | .clo f l=>.clo f (iZ order l)
 | .bnd f l=>.bnd f (iZ order l)
 | .ptr _ _=>.any
 | .xs _ _=>.any
 | .xp _ _ _ _=>.any
 | .mp _ _=>.any
 | .mq _ _=>.any
 | .mo _ _ _ _=>.any
 | .row _=>.any
 | .d x=>.d x
 | .ag l=>.ag l
 | .rowd l=>.rowd l
 | .ni=>.ni
 | .fl es=>.fl es
 | .bf _ _ _=>.any
 | .np _ _ _=>.any
 | .sb _ _ _=>.any
 | .lk _ _ _ _=>.any
 | .fx _ _ _=>.any
 | .ol _ _ _ _=>.any
 | .ow _ _ _=>.any
 | .any=>.any
def iZ (order:List Nat):List A→List A
 | []=>[]
 | a::l=>norm order a::iZ order l
end
mutual
def db:A→Bool
 | .own _ _=>false
 | .agg l=>kL l
 | .tup l=>kL l
 | .clo _ l=>kL l
 | .bnd _ l=>kL l
 | .ptr _ _=>false
 | .xs _ _=>false
 | .xp _ _ _ _=>false
 | .mp _ _=>false
 | .mq _ _=>false
 | .mo _ _ _ _=>false
 | .row _=>false
 | .d _=>true
 | .ag _=>true
 | .rowd _=>true
 | .ni=>true
 | .fl _=>true
 | .bf _ _ _=>false
 | .np _ _ _=>false
 | .sb _ _ _=>false
 | .lk _ _ _ _=>false
 | .fx _ _ _=>false
 | .ol _ _ _ _=>false
 | .ow _ _ _=>false
 | .any=>true
def kL:List A→Bool
 | []=>true
 | a::l=>db a && kL l
end
theorem iX (m:Nat):∀ l:List A,kG m l=l.map (shift m)
 | []=>rfl
 | a::l=>by simp[kG,iX m l]
theorem jQ (o:List Nat):∀ l:List A,iZ o l=l.map (norm o)
 | []=>rfl
 | a::l=>by simp[iZ,jQ o l]
theorem iR:∀ {l:List A},kL l=true→∀ a∈l,db a=true
 | [],_,a,I=>by cases I
 | b::l,h,a,I=>by
   simp only[kL,Bool.and_eq_true] at h
   cases I with
   | head=>exact h.1
   | tail _ I=>exact iR h.2 a I
theorem aC.shift {E E2:En} {m:Nat} (N:∀ b o u,cellAt E.w b o=some u→¬ E.pv b o→cellAt E2.w b o=some u∧¬ E2.pv b o) (ho:∀ g r,g < E.gen→E2.own (g+m)=some r→E.own g=some r)
 (hg:E.gen+m≤E2.gen) {v:Value} {a:A} (h:aC E v a):aC E2 v (shift m a):=by
 induction h with
 | any x=>exact .any x
 | ni t x=>exact .ni t x
 | fl x es hd X=>exact .fl x es (hd.mono N) X
 | d hd=>exact .d (hd.mono N)
 | ag vs l hs hd=>exact .ag vs l hs (fun i u x h1 h2=>(hd i u x h1 h2).mono N)
 | own x g es hd U hr=>exact .own x _ es (hd.mono N) (by omega) (fun r Z=>hr r (ho g r U Z))
 | agg vs l hs hone _ J=>simp only[Ab.shift,iX];refine .agg vs _ (by simp[hs]) hone (fun i u x hu I=>?_);simp only[List.getElem?_map,Option.map_eq_some_iff] at I;obtain⟨y,M,rfl⟩:=I;exact J i u y hu M
 | tup vs l hs _ J=>simp only[Ab.shift,iX];refine .tup vs _ (by simp[hs]) (fun i u x hu I=>?_);simp only[List.getElem?_map,Option.map_eq_some_iff] at I;obtain⟨y,M,rfl⟩:=I;exact J i u y hu M
 | rowd b off l u O hd=>exact .rowd b off l u (fun j hj=>N _ _ _ (O j hj).1 (O j hj).2) (fun j x I=>(hd j x I).mono N)
 | row b off l u O _ _=>exact .any _
 | ptr x g off b0 U ad hp=>exact .any _
 | bf=>exact .any _
 | np=>exact .any _
 | sb=>exact .any _
 | lk=>exact .any _
 | fx=>exact .any _
 | ol=>exact .any _
 | ow=>exact .any _
 | xs=>exact .any _
 | xp=>exact .any _
 | mp=>exact .any _
 | mq=>exact .any _
 | mo=>exact .any _
 | clo f vs l hs _ J=>simp only[Ab.shift,iX];refine .clo f vs _ (by simp[hs]) (fun i u x hu I=>?_);simp only[List.getElem?_map,Option.map_eq_some_iff] at I;obtain⟨y,M,rfl⟩:=I;exact J i u y hu M
 | bnd f vs l hs _ J=>simp only[Ab.shift,iX];refine .bnd f vs _ (by simp[hs]) (fun i u x hu I=>?_);simp only[List.getElem?_map,Option.map_eq_some_iff] at I;obtain⟨y,M,rfl⟩:=I;exact J i u y hu M
theorem aC.clean {E E2:En} (N:∀ b o u,cellAt E.w b o=some u→¬ E.pv b o→cellAt E2.w b o=some u∧¬ E2.pv b o) {v:Value} {a:A} (h:aC E v a) (I:db a=true):aC E2 v a:=by
 induction h with
 | any x=>exact .any x
 | ni t x=>exact .ni t x
 | fl x es hd U=>exact .fl x es (hd.mono N) U
 | d hd=>exact .d (hd.mono N)
 | ag vs l hs hd=>exact .ag vs l hs (fun i u x h1 h2=>(hd i u x h1 h2).mono N)
 | own x g es hd X hr=>simp[db] at I
 | agg vs l hs hone _ M=>exact .agg vs l hs hone (fun i u x hu J=>M i u x hu J (iR (by simpa [db] using I) x (List.mem_of_getElem? J)))
 | tup vs l hs _ M=>exact .tup vs l hs (fun i u x hu J=>M i u x hu J (iR (by simpa [db] using I) x (List.mem_of_getElem? J)))
 | rowd b off l u O hd=>exact .rowd b off l u (fun j hj=>N _ _ _ (O j hj).1 (O j hj).2) (fun j x J=>(hd j x J).mono N)
 | row b off l u O _ _=>simp[db] at I
 | ptr x g off b0 X Z hp=>simp[db] at I
 | xs=>simp[db] at I
 | bf=>simp[db] at I
 | np=>simp[db] at I
 | sb=>simp[db] at I
 | lk=>simp[db] at I
 | fx=>simp[db] at I
 | ol=>simp[db] at I
 | ow=>simp[db] at I
 | xp=>simp[db] at I
 | mp=>simp[db] at I
 | mq=>simp[db] at I
 | mo=>simp[db] at I
 | clo f vs l hs _ M=>exact .clo f vs l hs (fun i u x hu J=>M i u x hu J (iR (by simpa [db] using I) x (List.mem_of_getElem? J)))
 | bnd f vs l hs _ M=>exact .bnd f vs l hs (fun i u x hu J=>M i u x hu J (iR (by simpa [db] using I) x (List.mem_of_getElem? J)))
theorem gJ {order:List Nat} {g:Nat} (h:g∈order):order.idxOf g < order.length:=List.idxOf_lt_length_iff.2 h
theorem aC.norm {E E2:En} {order:List Nat} (J:∀ b o u,cellAt E.w b o=some u→¬ E.pv b o→cellAt E2.w b o=some u∧¬ E2.pv b o)
 (ho:∀ g r,g∈order→E2.own (order.idxOf g)=some r→E.own g=some r) (hg:order.length≤E2.gen) {v:Value} {a:A} (h:aC E v a):aC E2 v (norm order a):=by
 induction h with
 | any x=>exact .any x
 | ni t x=>exact .ni t x
 | fl x es hd U=>exact .fl x es (hd.mono J) U
 | d hd=>exact .d (hd.mono J)
 | ag vs l hs hd=>exact .ag vs l hs (fun i u x h1 h2=>(hd i u x h1 h2).mono J)
 | own x g es hd X hr=>
   simp only[Ab.norm];split
   ·rename_i hm
    exact .own x _ es (hd.mono J) (Nat.lt_of_lt_of_le (gJ hm) hg) (fun r Z=>hr r (ho g r hm Z))
   ·exact .d (hd.mono J)
 | agg vs l hs hone _ M=>simp only[Ab.norm,jQ];refine .agg vs _ (by simp[hs]) hone (fun i u x hu I=>?_);simp only[List.getElem?_map,Option.map_eq_some_iff] at I;obtain⟨y,N,rfl⟩:=I;exact M i u y hu N
 | tup vs l hs _ M=>simp only[Ab.norm,jQ];refine .tup vs _ (by simp[hs]) (fun i u x hu I=>?_);simp only[List.getElem?_map,Option.map_eq_some_iff] at I;obtain⟨y,N,rfl⟩:=I;exact M i u y hu N
 | rowd b off l u O hd=>exact .rowd b off l u (fun j hj=>J _ _ _ (O j hj).1 (O j hj).2) (fun j x I=>(hd j x I).mono J)
 | row b off l u O _ _=>exact .any _
 | ptr x g off b0 X ad hp=>exact .any _
 | bf=>exact .any _
 | np=>exact .any _
 | sb=>exact .any _
 | lk=>exact .any _
 | fx=>exact .any _
 | ol=>exact .any _
 | ow=>exact .any _
 | xs=>exact .any _
 | xp=>exact .any _
 | mp=>exact .any _
 | mq=>exact .any _
 | mo=>exact .any _
 | clo f vs l hs _ M=>simp only[Ab.norm,jQ];refine .clo f vs _ (by simp[hs]) (fun i u x hu I=>?_);simp only[List.getElem?_map,Option.map_eq_some_iff] at I;obtain⟨y,N,rfl⟩:=I;exact M i u y hu N
 | bnd f vs l hs _ M=>simp only[Ab.norm,jQ];refine .bnd f vs _ (by simp[hs]) (fun i u x hu I=>?_);simp only[List.getElem?_map,Option.map_eq_some_iff] at I;obtain⟨y,N,rfl⟩:=I;exact M i u y hu N
def G0:Gh:=⟨fun _=>none,fun _=>none⟩
theorem pq (C:Ctx) (b o:Nat):aS C G0 b o↔C.x b o:=by simp[aS,G0]
def Ctx.pure (C:Ctx):Prop:=(∀ b,¬ C.fp b)∧(∀ b o,¬ C.keep b o)∧C.bx=[]∧C.ds=[]
class NB (C:Ctx) (nb:outParam Nat):Prop where
 h:C.bx.length=nb
class cc (P:Program) where
 met:World→Prop
class GC (P:Program) [cc P] (C:Ctx):Prop where
 h:∃ W:World,(W.ShapedOpen P∧cc.met P W)∧W.heap.size≤C.w0.heap.size∧∀ b,b < W.heap.size→C.w0.heap[b]? = W.heap[b]?∧¬ C.fp b
def gz (C:Ctx) (G:Gh) (w:World):Ctx:={ w0:=w,fp:=fun _=>False,x:=aS C G }
theorem aC.conv {C:Ctx} {n:Nat} {st:St} {G:Gh} {tmps:Array Value} {w:World} (h:ao C n st G tmps w) :
 ∀ (k:Nat) (v:Value) (a:A),aC (au C G st.gen w) v a→aC (au (gz C G w) G0 0 w) v (conv st.bx k a):=by
 have M:∀ b o u,cellAt w b o=some u→¬ aS C G b o→cellAt w b o=some u∧¬ aS (gz C G w) G0 b o:=fun b o u h1 h2=>⟨h1,fun hp=>h2 ((pq _ b o).1 hp)⟩;intro k
 induction k with
 | zero=>intro v a _;exact .any v
 | succ k Z=>
   intro v a hr
   have N:∀ (l:List A) (vs:Array Value),(∀ (i:Nat) (u:Value) (x:A),vs[i]? = some u→l[i]? = some x→aC (au C G st.gen w) u x) →
    ∀ (i:Nat) (u:Value) (x:A),vs[i]? = some u→(l.map (Ab.conv st.bx k))[i]? = some x→aC (au (gz C G w) G0 0 w) u x:=by
    intro l vs hl i u x hu I;simp only[List.getElem?_map,Option.map_eq_some_iff] at I;obtain⟨y,O,rfl⟩:=I;exact Z u y (hl i u y hu O)
   cases hr with
   | any=>exact .any _
   | ni=>exact .any _
   | fl _ es hd ad=>exact .fl _ es (hd.mono M) ad
   | d hd=>exact .d (hd.mono M)
   | ag vs l hs hd=>exact .ag vs l hs (fun i u x h1 h2=>(hd i u x h1 h2).mono M)
   | own _ g es hd _ _=>exact .d (hd.mono M)
   | agg vs l hs hone hd=>exact jN (by simp[hs]) hone (N l vs hd)
   | tup vs l hs hd=>exact .any _
   | rowd b off l u J hd=>exact .rowd b off l u (fun j hj=>M _ _ _ (J j hj).1 (J j hj).2) (fun j x I=>(hd j x I).mono M)
   | row b off l u J hd=>
     refine .row b off _ u (fun j hj=>?_) (fun j x I=>?_)
     ·have:=J j (by simpa using hj)
      exact⟨this.1,⟨cE this.1,fun h=>h⟩,this.2.2⟩
     ·simp only[List.getElem?_map,Option.map_eq_some_iff] at I
      obtain⟨y,O,rfl⟩:=I;exact Z _ y (hd j y O)
   | xs=>exact .any _
   | bf=>exact .any _
   | np=>exact .any _
   | sb=>exact .any _
   | lk=>exact .any _
   | fx=>exact .any _
   | ol=>exact .any _
   | ow=>exact .any _
   | xp=>exact .any _
   | mp=>exact .any _
   | mq=>exact .any _
   | mo=>exact .any _
   | ptr _ g off b0 hg ai aj=>
     have hp:=kP ai aj;simp only[Ab.conv];split
     ·rename_i cells hb
      obtain⟨b,cs,T',h1,h2,h3,h4,h5⟩:=h.box g cells hb;rw[hp b h1];refine .row b off _ (fun j=>cs[off+j]?.getD default) (fun j hj=>?_) (fun j x I=>?_)
      ·have U:off+j < cs.size:=by simp at hj;omega
       have e:cs[off+j]? = some cs[off+j]:=by simp[U]
       exact⟨by show cellAt w b (off+j)=_;rw[bC h2,e];rfl,⟨(Array.getElem?_eq_some_iff.1 h2).1,fun h=>h⟩,by rw[e];exact h4 _ _ e⟩
      ·simp only[List.getElem?_map,Option.map_eq_some_iff] at I
       obtain⟨y,O,rfl⟩:=I;have X:cells[off+j]? = some y:=by simpa using O
       have U:off+j < cs.size:=by rw[h3];exact(List.getElem?_eq_some_iff.1 X).1
       have e:cs[off+j]? = some cs[off+j]:=by simp[U]
       rw[e];exact Z _ y (h5 _ _ _ e X)
     ·exact .any _
   | clo f vs l hs hd=>exact .clo f vs _ (by simp[hs]) (N l vs hd)
   | bnd f vs l hs hd=>exact .bnd f vs _ (by simp[hs]) (N l vs hd)
def iC (P:Program) (f:FuncId):Prop:=∃ fn,P.funcs[f]? = some fn∧(fn.name == "runtime.NumGoroutine")=false∧fn.body.isNone=false
structure az (P:Program) [cc P] (f:FuncId) (args:List A) (r:A) (k:Nat):Prop where
 ok:iC P f
 calls:∀ (C:Ctx) (vals:Array Value) (w:World),GC P C→C.w0=w→C.pure→(∀ b o,C.x b o→b < w.heap.size)→vals.size=args.length →
  (∀ (i:Nat) (u:Value) (a:A),vals[i]? = some u→args[i]? = some a→aC (au C G0 0 w) u a) →
  Calls P f vals w fun e w'=>∃ v G',e=.returned v∧ao C 0 ⟨[],[],List.range k,k⟩ G' #[] w'∧aC (au C G' k w') v r
section
variable {P:Program} {C:Ctx} {n:Nat} {ops:Array Oper} {Q:Exit→St→Prop} {st:St} {o:Oper} {rest:List Oper}
theorem GC.at_ [cc P] [hC:GC P C] {w:World} (I:Fr C w):∃ W:World,(W.ShapedOpen P∧cc.met P W)∧W.heap.size≤w.heap.size∧∀ b,b < W.heap.size→w.heap[b]? = W.heap[b]?:=by obtain⟨W,h1,h2,h3⟩:=hC.h;exact⟨W,h1,Nat.le_trans h2 I.size,fun b hb=>(I.block b (Nat.lt_of_lt_of_le hb h2) (h3 b hb).2).trans (h3 b hb).1⟩
theorem GC.D1 [cc P] [GC P C] {G:Gh} {w:World} (I:Fr C w):GC P (gz C G w):=by obtain⟨W,h1,h2,h3⟩:=GC.at_ (P:=P) I;exact⟨W,h1,h2,fun b hb=>⟨h3 b hb,fun h=>h⟩⟩
theorem rn [cc P] [GC P C] {G:Gh} {tmps:Array Value} {w:World} (hs:ao C n st G tmps w) {x:Operand} {xs:Array Operand} {X:Array TypeId} (ho:o.op=.call ⟨.value x,xs,X⟩) {fid:FuncId} {caps I:List A}
 (hx:av st.f x=some (.clo fid caps)) (aj:iV st.f xs.toList=some I) {r:A} {k:Nat} (hf:az P fid ((I++caps).map (conv st.bx 5)) r k) :
 cS P o ⟨tmps,[]⟩ w fun v w'=>∃ J,ao (gz C G w) 0 ⟨[],[],List.range k,k⟩ J #[] w'∧aC (au (gz C G w) J k w') v r:=by
 obtain⟨fn,a1,M,N⟩:=hf.ok;have hr:=hs.av hx;generalize hv:Act.eval ⟨tmps,[]⟩ x=v at hr
 cases hr with
 | clo _ vs _ a6 hd=>
 obtain⟨h1,h2⟩:=gV hs xs.toList I aj;have Z:(execOp (Act.eval ⟨tmps,[]⟩) o).run P w=.ok (.enter fid (xs.map (Act.eval ⟨tmps,[]⟩)++vs)) w:=by unfold execOp;rw[ho];show Sem.run P (do let d ←resolve (Act.eval ⟨tmps,[]⟩) ⟨.value x,xs,X⟩ o.type;invoke d.target d.args) w=_;simp only[resolve,hv,Deferred.ofValue,Sem.run_bind,Sem.run_pure,Result.andThen_ok,invoke,callFunc,run_program,a1,M,N,Bool.false_eq_true,if_false,Array.empty_append]
 unfold cS;have O:(execOp (Act.eval { tmps:=tmps,defers:=[] }) o).run P w=.ok (.enter fid (xs.map (Act.eval ⟨tmps,[]⟩)++vs)) w:=Z;rw[O];refine(hf.calls (gz C G w) _ w (GC.D1 hs.fr) rfl ⟨fun _ h=>h,fun _ _ h=>h,rfl,rfl⟩ (fun b o h=>qN hs h) (by simp at h1;simp[a6,h1]) (fun i u a hu ha=>?_)).mono fun e w' ⟨v,J,he,h3,h4⟩=>⟨v,he,J,h3,h4⟩;simp only[List.getElem?_map,Option.map_eq_some_iff] at ha;obtain⟨y,U,rfl⟩:=ha;refine aC.conv hs 5 u y ?_;simp only[Array.getElem?_append] at hu;split at hu
 ·rename_i a7
  simp only[Array.size_map] at a7;have ad:i < I.length:=by simp at h1;omega
  rw[List.getElem?_append_left ad] at U;obtain⟨z,hz,a8⟩:=h2 i y U;simp only[Array.getElem?_map,Option.map_eq_some_iff] at hu;obtain⟨z',b0,rfl⟩:=hu;have:z=z':=by simp at hz;rw[b0] at hz;exact(Option.some.inj hz).symm
  subst this;exact a8
 ·rename_i b2
  simp only[Array.size_map] at b2 hu;have ai:I.length≤i:=by simp at h1;omega
  rw[List.getElem?_append_right ai] at U;refine hd (i - xs.size) u y hu ?_;have:xs.size=I.length:=by simpa using h1
  rw[this];exact U
theorem Fr.toBelow {G:Gh} {w w':World} (h:Fr (gz C G w) w'):Below w.heap.size w w':=⟨h.os,h.tape,h.output,h.size,fun b hb=>h.block b hb (fun h=>h)⟩
theorem Pu.call [cc P] [GC P C] {x:Operand} {xs:Array Operand} {J:Array TypeId} (O:o.op=.call ⟨.value x,xs,J⟩) {fid:FuncId} {caps I:List A} (U:av st.f x=some (.clo fid caps)) (M:iV st.f xs.toList=some I)
 {r:A} (X:az P fid ((I++caps).map (conv st.bx 5)) r 0) (Z:db r=true):Pu P C n st o r:=by
 intro G tmps w hs;refine(rn hs O U M X).mono fun v w' ⟨N,h1,h2⟩=>⟨h1.fr.toBelow,aC.clean (E:=au (gz C G w) N 0 w') (E2:=au C G st.gen w') (fun b o u hu hn=>⟨hu,fun hp=>hn (Or.inl hp:aS (gz C G w) N b o)⟩) h2 Z⟩
theorem WO.call [cc P] [GC P C] (M:o.guard=none) (hd:eM n o.dst=true) {x:Operand} {xs:Array Operand} {a7:Array TypeId} (ho:o.op=.call ⟨.value x,xs,a7⟩) {fid:FuncId} {caps Z:List A} (hx:av st.f x=some (.clo fid caps))
 (a8:iV st.f xs.toList=some Z) {r:A} {k:Nat} (hf:az P fid ((Z++caps).map (conv st.bx 5)) r k)
 (h:WO P C n ops Q rest (St.put { st with lv:=(List.range k).map (·+st.gen)++st.lv,gen:=st.gen+k } o.dst (shift st.gen r))):WO P C n ops Q (o::rest) st:=by
 refine WO.step M fun tmps w ⟨G,hs⟩=>(rn hs ho hx a8 hf).mono fun v w' ⟨X,h1,h2⟩=>?_
 obtain⟨hle,b0⟩:=hs.grow h1.fr.toBelow (fun g=>if g < st.gen then G.own g else X.own (g - st.gen)) (st.gen+k) ((List.range k).map (·+st.gen)++st.lv) (Nat.le_add_right _ _)
  (fun g r M J=>by simpa [M] using J)
  (fun g r J=>by
   split at J;·omega
   ·have:=h1.gown _ _ J;simp only at this;omega)
  (fun g M=>by
   rcases List.mem_append.1 M with M | M
   ·simp only[List.mem_map,List.mem_range] at M
    obtain⟨j,hj,rfl⟩:=M;obtain⟨r,J⟩:=h1.live j (by simpa using hj);exact⟨r,by rw[if_neg (by omega),Nat.add_sub_cancel];exact J⟩
   ·obtain⟨r,J⟩:=hs.live g M
    exact⟨r,by rw[if_pos (hs.gown g r J)];exact J⟩)
  (fun g b len cap sz N M J=>by
   simp only[if_neg (Nat.not_lt.2 M)] at J;obtain⟨h3,h4,h5,O⟩:=h1.row _ _ _ _ _ _ J;refine⟨h3.1.resolve_right (fun h=>h),fun g' aj a1 b2 a6 I=>?_,O⟩;split at I
   ·obtain⟨_,_,_,cur,T',U,_⟩:=hs.row _ _ _ _ _ _ I
    have:=(Array.getElem?_eq_some_iff.1 U).1;have:=h3.1.resolve_right (fun h=>h);simp only[gz] at this;omega
   ·have:=h5 _ _ _ _ _ I
    omega)
  (fun g b bs M J=>by
   simp only[if_neg (Nat.not_lt.2 M)] at J;obtain⟨h3,_,h5,O⟩:=h1.mrow _ _ _ J;refine⟨h3.1.resolve_right (fun h=>h),fun g' bs' I=>?_,O⟩;split at I
   ·obtain⟨_,_,_,me,clock,U⟩:=hs.mrow _ _ _ I
    have:=(Array.getElem?_eq_some_iff.1 U).1;have:=h3.1.resolve_right (fun h=>h);simp only[gz] at this;omega
   ·have:=h5 _ _ I
    omega)
  (fun g b bs c lim M J hm=>by
   simp only[if_neg (Nat.not_lt.2 M)] at J;obtain⟨h3,_,h4,h5,O⟩:=h1.sub _ _ _ _ _ J hm;have ad:=h3.1.resolve_right (fun h=>h);simp only[gz] at ad;refine⟨ad,fun g' aj a1 b2 a6 I=>?_,fun g' b' bs' b3 I ai=>?_,O⟩
   ·split at I
    ·obtain⟨_,_,_,cur,T',U,_⟩:=hs.row _ _ _ _ _ _ I
     have:=(Array.getElem?_eq_some_iff.1 U).1;omega
    ·exact h4 _ _ _ _ _ I
   ·split at I
    ·have:=(hs.xC I).2 _ ai
     simp only at this;omega
    ·have:=h5 _ _ _ _ I ai
     omega)
 refine⟨_,⟨_,b0.put (bQ hd) (aC.shift (m:=st.gen) (E:=au (gz C G w) X k w') (E2:=au C ⟨G.box,fun g=>if g < st.gen then G.own g else X.own (g - st.gen)⟩ (st.gen+k) w') (fun b o u hu hn=>⟨hu,fun hp=>hn ?_⟩) (fun g r M J=>?_) (by simp[au];omega) h2)⟩,h⟩
 ·rcases hp with hp | hp | ⟨g,len,cap,sz,N,hp,hl⟩ | ⟨g,b',bs,lim,hp,hm,hl⟩
  ·exact Or.inl (Or.inl hp)
  ·exact Or.inl (Or.inr (Or.inl hp))
  ·simp only at hp
   split at hp;·exact Or.inl (Or.inr (Or.inr (.inl ⟨g,len,cap,sz,N,hp,hl⟩)))
   ·exact Or.inr (Or.inr (.inl ⟨_,len,cap,sz,N,hp,hl⟩))
  ·simp only at hp
   split at hp;·exact Or.inl (Or.inr (Or.inr (.inr ⟨g,b',bs,lim,hp,hm,hl⟩)))
   ·exact Or.inr (Or.inr (.inr ⟨_,b',bs,lim,hp,hm,hl⟩))
 ·have I:(if g+st.gen < st.gen then G.own (g+st.gen) else X.own (g+st.gen - st.gen))=some r:=J
  rw[if_neg (by omega),Nat.add_sub_cancel] at I;exact I
end
end Go.Ab
namespace Go.Ab
open Go.RowKit
def cellsOf (bx:List (Nat×List A)):A→Option (List A)
 | .d x=>some [.d x]
 | .ag l=>some (l.map .d)
 | .own g es=>some [.own g es]
 | .agg l=>some l
 | .rowd l=>some [.rowd l]
 | .row l=>some [.row l]
 | .clo f l=>some [.clo f l]
 | .bnd f l=>some [.bnd f l]
 | .xs g es=>some [.xs g es]
 | .xp g i off l=>some [.xp g i off l]
 | .mp g es=>some [.mp g es]
 | .mq g es=>some [.mq g es]
 | .mo g es h I=>some [.mo g es h I]
 | .ni=>some [.ni]
 | .fl es=>some [.fl es]
 | .bf g T s=>some [.bf g T s]
 | .np g T u=>some [.np g T u]
 | .sb g n c=>some [.sb g n c]
 | .ol g E h es=>some [.ol g E h es]
 | .ptr g off=>match ae bx g with | some _=>some [.ptr g off] | none=>none
 | _=>none
def cv (E:En) (cs:Array Value) (l:List A):Prop:=
 cs.size=l.length∧(∀ (i:Nat) (u:Value),cs[i]? = some u→u.oneCell'=true)∧∀ (i:Nat) (u:Value) (a:A),cs[i]? = some u→l[i]? = some a→aC E u a
theorem cv.one {E:En} {v:Value} {a:A} (J:v.oneCell'=true) (M:aC E v a):cv E v.cells [a]:=by
 have e:v.cells=#[v]:=by cases v <;> simp_all[Value.cells,Value.oneCell']
 rw[e];refine⟨rfl,fun i u hu=>?_,fun i u x hu I=>?_⟩;·cases i with
  | zero=>simp at hu;rw[←hu];exact J
  | succ i=>simp at hu
 ·cases i with
  | zero=>simp at hu I;rw[←hu,←I];exact M
  | succ i=>simp at hu
section
variable {C:Ctx} {n:Nat} {st:St} {G:Gh} {tmps:Array Value} {w:World}
theorem hZ (h:ao C n st G tmps w) {v:Value} {a:A} {l:List A} (I:cellsOf st.bx a=some l) (hr:aC (au C G st.gen w) v a):cv (au C G st.gen w) v.cells l:=by
 cases hr with
 | any=>simp[cellsOf] at I
 | ni t x=>simp only[cellsOf,Option.some.injEq] at I;subst I;exact cv.one rfl (.ni t x)
 | bf _ g T s M h1 J=>simp only[cellsOf,Option.some.injEq] at I;subst I;exact cv.one h1 (.bf _ g T s M h1 J)
 | np _ g T b M hb hT u J=>simp only[cellsOf,Option.some.injEq] at I;subst I;exact cv.one (by rw[J];rfl) (.np _ g T b M hb hT u J)
 | sb _ g n c b M hb hn J=>simp only[cellsOf,Option.some.injEq] at I;subst I;exact cv.one (by rw[J];rfl) (.sb _ g n c b M hb hn J)
 | lk=>simp[cellsOf] at I
 | ow=>simp[cellsOf] at I
 | fx=>simp[cellsOf] at I
 | ol _ u g' E' g es J O U M hu=>simp only[cellsOf,Option.some.injEq] at I;subst I;exact cv.one J.one (.ol _ u g' E' g es J O U M hu)
 | fl _ es hd X=>simp only[cellsOf,Option.some.injEq] at I;subst I;exact cv.one hd.one (.fl _ es hd X)
 | d hd=>simp only[cellsOf,Option.some.injEq] at I;subst I;exact cv.one hd.one (.d hd)
 | ag vs l' hs hd=>
   simp only[cellsOf,Option.some.injEq] at I;subst I;refine⟨by simp[Value.cells,hs],fun i u hu=>?_,fun i u x hu J=>?_⟩
   ·have hi:i < l'.length:=by rw[←hs];exact(Array.getElem?_eq_some_iff.1 hu).1
    exact(hd i u l'[i] hu (by simp[hi])).one
   ·simp only[List.getElem?_map,Option.map_eq_some_iff] at J
    obtain⟨y,hy,rfl⟩:=J;exact .d (hd i u y hu hy)
 | own _ g es hd M J=>simp only[cellsOf,Option.some.injEq] at I;subst I;exact cv.one hd.one (.own _ g es hd M J)
 | agg vs l' hs hone hd=>simp only[cellsOf,Option.some.injEq] at I;subst I;exact⟨hs,hone,hd⟩
 | tup=>simp[cellsOf] at I
 | rowd b off l' u N hd=>simp only[cellsOf,Option.some.injEq] at I;subst I;exact cv.one rfl (.rowd b off l' u N hd)
 | row b off l' u N hd=>simp only[cellsOf,Option.some.injEq] at I;subst I;exact cv.one rfl (.row b off l' u N hd)
 | ptr _ g off b0 M Z hp=>
   simp only[cellsOf] at I;split at I
   ·rename_i cells hb
    simp only[Option.some.injEq] at I;subst I;exact cv.one (by rw[hp];rfl) (.ptr _ g off b0 M Z hp)
   ·cases I
 | xs _ g es M h1 J=>simp only[cellsOf,Option.some.injEq] at I;subst I;exact cv.one h1 (.xs _ g es M h1 J)
 | xp _ g i off l M h1 J=>simp only[cellsOf,Option.some.injEq] at I;subst I;exact cv.one h1 (.xp _ g i off l M h1 J)
 | mp _ g es M h1 J=>simp only[cellsOf,Option.some.injEq] at I;subst I;exact cv.one h1 (.mp _ g es M h1 J)
 | mq _ g es M h1 J=>simp only[cellsOf,Option.some.injEq] at I;subst I;exact cv.one h1 (.mq _ g es M h1 J)
 | mo _ g es hole ob M h1 J=>simp only[cellsOf,Option.some.injEq] at I;subst I;exact cv.one h1.1 (.mo _ g es hole ob M h1 J)
 | clo f vs l' hs hd=>simp only[cellsOf,Option.some.injEq] at I;subst I;exact cv.one rfl (.clo f vs l' hs hd)
 | bnd f vs l' hs hd=>simp only[cellsOf,Option.some.injEq] at I;subst I;exact cv.one rfl (.bnd f vs l' hs hd)
theorem ao.store (h:ao C n st G tmps w) {g b:Nat} {cs cs':Array Value} {T:TypeId} {cells cells':List A} (hb:ae st.bx g=some cells) (N:G.box g=some b) (hw:w.heap[b]? = some (.cells cs T (0,0)))
 (M:cv (au C G st.gen w) cs' cells'):ao C n { st with bx:=(g,cells')::st.bx } G tmps (w.setRow b cs'):=by
 have ai:w.heap[b]?≠none:=by rw[hw];simp
 have hm:=(h.gbox g b N).2.2;have aj:Fr C (w.setRow b cs'):=⟨h.fr.os,h.fr.tape,h.fr.output,by rw[size_setRow];exact h.fr.size,fun I h1 h2=>by
  rw[setRow_other w b I cs' (fun e=>by subst e;exact hm.1.elim (fun hm=>by omega) h2)];exact h.fr.block I h1 h2,fun I o u hk hu=>by
  rw[br (setRow_other w b I cs' (fun e=>by subst e;exact absurd (hm.2 o hk) (Nat.not_lt_zero _)))];exact h.fr.cells I o u hk hu,h.fr.ty.trans (.setRow w b cs')⟩
 have hle:(au C G st.gen w).le (au C G st.gen (w.setRow b cs')):=by
  refine ju h.fr aj (fun I o u hu hn=>⟨?_,hn⟩) (fun _ _ h=>h) (fun _ _ _ h=>h) (Nat.le_refl _) (fun J I len cap sz X _ M=>?_) (fun J I bs _ M=>⟨?_,fun p hp=>?_⟩) (.setRow w b cs')
  ·have:I≠b:=fun e=>hn (.inr (.inl ⟨g,by rw[e];exact N⟩))
   rw[br (setRow_other w b I cs' this)];exact hu
  ·have:I≠b:=fun e=>(h.row J I len cap sz X M).2.1 g (by rw[e];exact N)
   exact setRow_other w b I cs' this
  ·obtain⟨_,_,_,me,clock,h3⟩:=h.mrow J I bs M
   exact setRow_other w b I cs' (fun e=>by rw[e,hw] at h3;cases h3)
  ·have:p.1≠b:=fun e=>(h.sub J I bs p.1 p.2 M hp).2.1 g (by rw[e];exact N)
   exact setRow_other w b p.1 cs' this
 refine { size:=h.size,frame:=h.du hle,inj:=h.inj,xold:=h.xold,kold:=h.kold,lent:=h.lent,fr:=aj,live:=h.live,gown:=h.gown,box:=?_,gbox:=?_,gcell:=fun J I ai=>ka (.setRow w b cs') (h.gcell J I ai),row:=?_,mrow:=?_,sub:=?_ }
 ·intro J c' O
  simp only[bN] at O;split at O
  ·rename_i e
   subst e;simp only[Option.some.injEq] at O;subst O;exact⟨b,cs',T,N,setRow_heap w b cs cs' T (0,0) hw,M.1,M.2.1,fun i u a hu ha=>(M.2.2 i u a hu ha).mono hle⟩
  ·rename_i e
   obtain⟨I,a1,Z,h1,h2,h3,h4,h5⟩:=h.box J c' O;have U:I≠b:=fun e'=>e (h.inj g J b N (by rw[←e'];exact h1));exact⟨I,a1,Z,h1,by rw[setRow_other w b I cs' U];exact h2,h3,h4,fun i u a hu ha=>(h5 i u a hu ha).mono hle⟩
 ·intro J I ad
  obtain⟨h1,h2,h3⟩:=h.gbox J I ad;exact⟨h1,by rw[size_setRow];exact h2,h3⟩
 ·intro J I len cap sz X ad
  obtain⟨h1,h2,h3,cur,Z,h4,h5⟩:=h.row J I len cap sz X ad;have U:I≠b:=fun e=>h2 g (by rw[e];exact N);exact⟨h1,h2,h3,cur,Z,by rw[setRow_other w b I cs' U];exact h4,h5⟩
 ·intro J I bs M
  obtain⟨h1,a6,h2,me,clock,h3⟩:=h.mrow J I bs M;exact⟨h1,a6,h2,me,clock,by rw[setRow_other w b I cs' (fun e=>by rw[e,hw] at h3;cases h3)];exact h3⟩
 ·intro J I bs c lim M hm
  obtain⟨h1,h2,h3,h4,cur,Z,h5,h6⟩:=h.sub J I bs c lim M hm;have U:c≠b:=fun e=>h2 g (by rw[e];exact N);exact⟨h1,h2,h3,h4,cur,Z,by rw[setRow_other w b c cs' U];exact h5,h6⟩
end
section
variable {P:Program} (T:bA P) {C:Ctx} {n:Nat} {ops:Array Oper} {Q:Exit→St→Prop} {st:St} {o:Oper} {rest:List Oper}
theorem bT {act:Act} {w w':World} {v:Value} {R:Value→World→Prop} (h:(execOp act.eval o).run P w=.ok (.value v) w') (I:R v w'):cS P o act w R:=by unfold cS;rw[h];exact I
theorem fT {act:Act} {w w':World} {R:Value→World→Prop} (h:(execOp act.eval o).run P w=.ok .skip w') (I:R undef w'):cS P o act w R:=by unfold cS;rw[h];exact I
theorem WO.box (J:o.guard=none) (hd:eM n o.dst=true) {e:TypeId} {x:Operand} (M:o.op=.box e x) {a:A} (N:av st.f x=some a) {cells:List A} (O:cellsOf st.bx a=some cells)
 (h:WO P C n ops Q rest (St.put { st with bx:=(st.gen,cells)::st.bx,gen:=st.gen+1 } o.dst (.ptr st.gen 0))):WO P C n ops Q (o::rest) st:=by
 refine WO.step J fun tmps w ⟨G,hs⟩=>?_;obtain⟨h1,h2,h3⟩:=hZ hs O (hs.av N);obtain⟨U,hle,I,X⟩:=hs.pj (Act.eval ⟨tmps,[]⟩ x).cells e cells h1 h2 h3;refine bT (v:=.pointer (some ⟨w.heap.size,0,none⟩)) (w':=w.alloc (.cells (Act.eval ⟨tmps,[]⟩ x).cells e)) ?_ ⟨_,⟨U,I.put (bQ hd) X⟩,h⟩;unfold execOp;rw[M];show Sem.run P _ w=_;simp only[Instr.box,newVar,newRow,Sem.run_bind,run_newObj,Result.andThen_ok,Sem.run_pure];rfl
theorem WO.alloc (X:o.guard=none) (hd:eM n o.dst=true) {e:TypeId} (Z:o.op=.alloc e) {d:bH} (he:ae T.l e=some d)
 (h:WO P C n ops Q rest (St.put { st with bx:=(st.gen,d.z.map fun v=>.d (.v v))::st.bx,gen:=st.gen+1 } o.dst (.ptr st.gen 0))):WO P C n ops Q (o::rest) st:=by
 refine WO.step X fun tmps w ⟨G,hs⟩=>?_;obtain⟨i,z,hi,_,_,hz,I,ad,N,_⟩:=T.info he;have J:∀ (i:Nat) (u:Value),z.cells[i]? = some u→cm u=true:=fun i u hu=>by
  have:u∈d.z:=by rw[←I,List.mem_iff_getElem?];exact⟨i,by simpa using hu⟩
  exact List.all_eq_true.1 N u this
 obtain⟨G',hle,O,hr⟩:=hs.pj z.cells e (d.z.map fun v=>.d (.v v)) (by rw[List.length_map,←I];simp) (fun i u hu=>kt (J i u hu)) (fun i u a hu U=>by
  simp only[List.getElem?_map,Option.map_eq_some_iff] at U;obtain⟨y,M,rfl⟩:=U;rw[←I] at M;have:y=u:=by simp at M;rw[hu] at M;exact(Option.some.inj M).symm
  subst this;exact .d (.v _ (J i y hu)))
 refine bT (v:=.pointer (some ⟨w.heap.size,0,none⟩)) (w':=w.alloc (.cells z.cells e)) ?_ ⟨_,⟨G',O.put (bQ hd) hr⟩,h⟩;unfold execOp;rw[Z];show Sem.run P _ w=_;simp only[Instr.alloc,zeroValue,typeInfo,hi,hz,newVar,newRow,Sem.run_bind,run_program,run_newObj,Result.andThen_ok,Sem.run_pure];rfl
def setAt (l:List A) (off:Nat) (cs:List A):List A:=l.take off++cs++l.drop (off+cs.length)
theorem cv.setAt {E:En} {cur cs:Array Value} {l I:List A} {off:Nat} (h:cv E cur l) (U:cv E cs I) (hle:off+I.length≤l.length) :
 cv E (cur.toList.take off++cs.toList++cur.toList.drop (off+cs.toList.length)).toArray (setAt l off I):=by
 have O:cs.toList.length=I.length:=by simpa using U.1
 have J:cur.toList.length=l.length:=by simpa using h.1
 have key:∀ (i:Nat) (u:Value),(cur.toList.take off++cs.toList++cur.toList.drop (off+cs.toList.length))[i]? = some u →
  (i < off∧cur[i]? = some u∧(Ab.setAt l off I)[i]? = l[i]?)∨(off≤i∧i < off+I.length∧cs[i - off]? = some u∧(Ab.setAt l off I)[i]? = I[i - off]?)∨(off+I.length≤i∧cur[i]? = some u∧(Ab.setAt l off I)[i]? = l[i]?):=by
  intro i u hu;unfold Ab.setAt;rcases Nat.lt_or_ge i off with hi | hi
  ·left
   rw[List.append_assoc,List.getElem?_append_left (by simp at J ⊢;omega),List.getElem?_take,if_pos hi] at hu;refine⟨hi,by simpa using hu,?_⟩;rw[List.append_assoc,List.getElem?_append_left (by simp;omega),List.getElem?_take,if_pos hi]
  ·rcases Nat.lt_or_ge i (off+I.length) with N | N
   ·right;left
    rw[List.append_assoc,List.getElem?_append_right (by simp at J ⊢;omega),List.getElem?_append_left (by simp at O J ⊢;omega)] at hu;refine⟨hi,N,?_,?_⟩
    ·have M:(cur.toList.take off).length=off:=by simp;simp at J;omega
     rw[M] at hu;simpa using hu
    ·rw[List.append_assoc,List.getElem?_append_right (by simp;omega),List.getElem?_append_left (by simp;omega)]
     have M:(l.take off).length=off:=by simp;omega
     rw[M]
   ·right;right
    rw[List.append_assoc,List.getElem?_append_right (by simp at J ⊢;omega),List.getElem?_append_right (by simp at O J ⊢;omega),List.getElem?_drop] at hu;refine⟨N,?_,?_⟩
    ·have M:off+cs.toList.length+(i - (cur.toList.take off).length - cs.toList.length)=i:=by simp at O J ⊢;omega
     rw[M] at hu;simpa using hu
    ·rw[List.append_assoc,List.getElem?_append_right (by simp;omega),List.getElem?_append_right (by simp;omega),List.getElem?_drop]
     have M:off+I.length+(i - (l.take off).length - I.length)=i:=by simp;omega
     rw[M]
 refine⟨by unfold Ab.setAt;simp at O J ⊢;omega,fun i u hu=>?_,fun i u a hu X=>?_⟩
 ·simp only[List.getElem?_toArray] at hu
  rcases key i u hu with ⟨_,h1,_⟩ | ⟨_,_,h1,_⟩ | ⟨_,h1,_⟩
  ·exact h.2.1 _ _ h1
  ·exact U.2.1 _ _ h1
  ·exact h.2.1 _ _ h1
 ·simp only[List.getElem?_toArray] at hu
  rcases key i u hu with ⟨_,h1,h2⟩ | ⟨_,_,h1,h2⟩ | ⟨_,h1,h2⟩
  ·exact h.2.2 _ _ _ h1 (by rw[←h2];exact X)
  ·exact U.2.2 _ _ _ h1 (by rw[←h2];exact X)
  ·exact h.2.2 _ _ _ h1 (by rw[←h2];exact X)
theorem WO.store (hg:o.guard=none) (hd:eM n o.dst=true) {t:TypeId} {x y:Operand} (ho:o.op=.store t x y) {g off:Nat} (hx:av st.f x=some (.ptr g off)) {cells:List A} (hb:ae st.bx g=some cells)
 {a:A} (ha:av st.f y=some a) {cs:List A} (hc:cellsOf st.bx a=some cs) (I:c8 T t=cs.length) (hz:cs.length≠0) (hle:(Nat.ble (off+cs.length) cells.length)=true)
 (h:WO P C n ops Q rest (St.put { st with bx:=(g,setAt cells off cs)::st.bx } o.dst .any)):WO P C n ops Q (o::rest) st:=by
 have hle:=Nat.le_of_ble_eq_true hle;refine WO.step hg fun tmps w ⟨G,hs⟩=>?_;obtain⟨b,cur,T',h1,h2,h3,h4,h5⟩:=hs.box g cells hb;have O:Act.eval ⟨tmps,[]⟩ x=.pointer (some ⟨b,off,none⟩):=by
  have U:=hs.av hx;generalize Act.eval ⟨tmps,[]⟩ x=v at U ⊢
  cases U with
  | ptr _ _ _ b0 _ X Z=>exact kP X Z b h1
 have J:=hZ hs hc (hs.av ha);have N:=run_storeCells_at P b off T' (Act.eval ⟨tmps,[]⟩ y).cells.toList 0 cur w h2 (by have:=J.1;simp at this ⊢;omega) (fun v O=>by obtain⟨i,hi⟩:=List.mem_iff_getElem?.1 O;exact J.2.1 i v (by simpa using hi));obtain⟨d,M,ad⟩:∃ d,ae T.l t=some d∧d.n=cs.length:=by
  unfold c8 at I;split at I;·rename_i d M;exact⟨d,M,I⟩
  ·exact absurd I.symm hz
 have ai:=hs.store hb h1 h2 (cv.setAt (off:=off) ⟨h3,h4,h5⟩ J hle);refine fT ?_ ⟨_,⟨G,ai.put (bQ hd) (.any _)⟩,h⟩;unfold execOp;rw[ho];show Sem.run P _ w=_;simp only[O,Instr.storeAt,Instr.sureAddr,storeVar,Sem.run_bind,Sem.run_pure,Result.andThen_ok,T.sizeOf M];rw[if_neg (by rw[ad];simp;exact J.1)];simp only[Nat.add_zero] at N;simp only[N,Result.andThen_ok]
end
end Go.Ab
namespace Go.Ab
open Go.RowKit
theorem aI.flat {w:World} {pv:Nat→Nat→Prop} {b off len cap sz:Nat} {es:List (List D)} (h:aI w pv (.slice (some ⟨b,off,none⟩) len cap) (.sl es)) (hl:∀ (e:List D),e∈es→e.length=sz) :
 es.length=len∧len≤cap∧cap≤maxLen∧∃ l:List Value,l.length=len*sz∧(∀ (t:Nat) (u:Value),l[t]? = some u→cellAt w b (off+t)=some u∧¬ pv b (off+t)∧u.oneCell'=true) ∧
  ∀ (i j:Nat) (e:List D) (d:D),es[i]? = some e→e[j]? = some d→∃ u,l[i*sz+j]? = some u∧aI w pv u d:=by
 cases h with
 | emp _ _ hm=>exact⟨rfl,Nat.zero_le _,hm,[],by simp,by simp,by simp⟩
 | sl _ _ _ _ I _ u hlen hc hm hs hu hr=>
 refine⟨hlen,hc,hm,?_⟩;rcases Nat.eq_zero_or_pos len with h0 | Z
 ·subst h0
  have:es=[]:=List.eq_nil_of_length_eq_zero hlen;subst this;exact⟨[],by simp,by simp,by simp⟩
 ·obtain⟨O,U⟩:∃ O,es[0]? = some O:=⟨es[0],by simp[hlen,Z]⟩
  have ai:I=sz:=(hs 0 O U).symm.trans (hl O (List.mem_of_getElem? U));subst ai;have aj:∀ t,t < len*I→t / I < len∧t % I < I∧t / I*I+t % I=t:=by
   intro t ht;have hz:0 < I:=Nat.pos_of_ne_zero fun h=>by rw[h] at ht;simp at ht
   exact⟨Nat.div_lt_of_lt_mul (by rw[Nat.mul_comm];exact ht),Nat.mod_lt _ hz,Nat.div_add_mod' t I⟩
  refine⟨(List.range (len*I)).map fun t=>u (t / I) (t % I),by simp,fun t v hv=>?_,fun i j e d hi hj=>?_⟩
  ·simp only[List.getElem?_map,Option.map_eq_some_iff,List.getElem?_range] at hv
   obtain⟨t',J,rfl⟩:=hv;have M:t < len*I:=by
    rcases Nat.lt_or_ge t (len*I) with h | h
    ·exact h
    ·rw[List.getElem?_eq_none (by simpa using h)] at J;cases J
   rw[List.getElem?_range M] at J;have:t'=t:=(Option.some.inj J).symm;subst this;obtain⟨h1,h2,h3⟩:=aj t' M;have h4:=hu _ _ h1 h2;have h5:off+t' / I*I+t' % I=off+t':=by omega
   rw[h5] at h4;have hi:t' / I < es.length:=by omega
   have he:es[t' / I]? = some es[t' / I]:=by simp[hi]
   have N:es[t' / I].length=I:=hs _ _ he;have hd:es[t' / I][t' % I]? = some es[t' / I][t' % I]:=by simp[N,h2]
   exact⟨h4.1,h4.2,(hr _ _ _ _ he hd).one⟩
  ·have M:i < len:=by rw[←hlen];exact(List.getElem?_eq_some_iff.1 hi).1
   have N:e.length=I:=hs i e hi;have X:j < I:=by rw[←N];exact(List.getElem?_eq_some_iff.1 hj).1
   have hz:0 < I:=by omega
   have ad:i*I+j < len*I:=by
    calc i*I+j < i*I+I:=by omega
     _=(i+1)*I:=by rw[Nat.succ_mul]
     _≤len*I:=Nat.mul_le_mul_right _ M
   refine⟨u i j,?_,hr i j e d hi hj⟩;have h1:(i*I+j) / I=i:=by rw[Nat.mul_comm,Nat.mul_add_div hz,Nat.div_eq_of_lt X];omega
   have h2:(i*I+j) % I=j:=by rw[Nat.mul_comm,Nat.mul_add_mod,Nat.mod_eq_of_lt X]
   simp[ad,h1,h2]
theorem aI.ofRow {w:World} {pv:Nat→Nat→Prop} {b cap sz:Nat} {es:List (List D)} {arr:Array Value} {T:TypeId} (hb:w.heap[b]? = some (.cells arr T (0,0))) (O:es.length≤cap) (hm:cap≤maxLen)
 (hl:∀ (e:List D),e∈es→e.length=sz) (hp:∀ t,t < es.length*sz→¬ pv b t)
 (I:∀ (i j:Nat) (e:List D) (d:D),es[i]? = some e→e[j]? = some d→∃ u,arr[i*sz+j]? = some u∧aI w pv u d) :
 aI w pv (.slice (some ⟨b,0,none⟩) es.length cap) (.sl es):=by
 refine .sl b 0 es.length cap sz es (fun i j=>arr[i*sz+j]?.getD default) rfl O hm (fun i e he=>hl e (List.mem_of_getElem? he)) (fun i j hi hj=>?_) (fun i j e d hi hj=>?_)
 ·have he:es[i]? = some es[i]:=by simp[hi]
  have J:=hl _ (List.mem_of_getElem? he);have hd:es[i][j]? = some es[i][j]:=by simp[J,hj]
  obtain⟨u,hu,_⟩:=I i j _ _ he hd;have M:i*sz+j < es.length*sz:=by
   calc i*sz+j < i*sz+sz:=by omega
    _=(i+1)*sz:=by rw[Nat.succ_mul]
    _≤es.length*sz:=Nat.mul_le_mul_right _ hi
  rw[Nat.zero_add];refine⟨?_,hp _ M⟩;rw[bC hb,hu];rfl
 ·obtain⟨u,hu,N⟩:=I i j e d hi hj
  rw[hu];exact N
theorem rN {P:Program} {w:World} {t e:TypeId} {i:TypeInfo} (ty:TypeId) (I:P.underlying t=some (.slice e)) (hi:P.info? e=some i) (base:Option Addr) (n cap:Nat) (J:n≤cap) (x:Value) (a2:Option Addr) (c2:Nat) (M:x=.slice a2 0 c2) :
 (Builtin.append_ #[t,t] ty #[.slice base n cap,x]).run P w=.ok (.slice base n cap) w:=by
 subst M;cases base <;> cases a2 <;> simp[Builtin.append_,run_underlying I,sizeOf,typeInfo,hi,Builtin.lenOf,J,Builtin.firstCells,loadCells,loadCellsFrom,storeCells]
section
variable {C:Ctx} {n:Nat} {st:St} {G:Gh} {tmps:Array Value} {w:World}
def DA (m:Bool) (g:Nat) (es:List (List D)):A:=bif m then .xs g es else .own g es
def fe (m:Bool) (k:Nat):Nat:=bif m then 0 else k
theorem nv (m:Bool) (k:Nat):fe m k≤k:=by cases m <;> simp[fe]
theorem xT (m:Bool) {k l:Nat} (h:k≤l):fe m k≤fe m l:=by cases m <;> simp[fe,h]
def yn (m:Bool) (w:World) (pv:Nat→Nat→Prop) (r:Row) (v:Value) (es:List (List D)):Prop:=
 bif m then v.oneCell'=true∧fh w pv r v es else aI w pv v (.sl es)∧∃ s,(∀ (e:List D),e∈es→e.length=s)∧qZ r v es.length s
structure j8 (m:Bool) (C:Ctx) (n:Nat) (st:St) (G:Gh) (tmps:Array Value) (lv:List Nat) (es:List (List D)) (v:Value) (w w':World):Prop where
 wO:∃ G':Gh,G'.box=G.box∧ao C n { st with lv:=st.gen::lv,gen:=st.gen+1 } G' tmps w'∧aC (au C G' (st.gen+1) w') v (DA m st.gen es)
theorem ao.newRow (m:Bool) (h:ao C n st G tmps w) {w':World} {arr:Array Value} {T:TypeId} (hb:Below w.heap.size w w') (U:w'.heap[w.heap.size]? = some (.cells arr T (0,0))) {cap sz:Nat} {es:List (List D)}
 (hs:arr.size=cap*sz) (a1:eF arr) (hc:es.length≤cap) (hm:cap≤maxLen) (hz:0 < sz) (X:0 < es.length) (hl:∀ (e:List D),e∈es→e.length=sz)
 (I:∀ (i j:Nat) (e:List D) (d:D),es[i]? = some e→e[j]? = some d→∃ u,arr[i*sz+j]? = some u∧aI w (aS C G) u d)
 (drop:Nat→Prop) [DecidablePred drop] (lv:List Nat) (a6:∀ g∈lv,g∈st.lv∧¬ drop g) :
 j8 m C n st G tmps lv es (.slice (some ⟨w.heap.size,0,none⟩) es.length cap) w w':=by
 let J:Nat→Option Row:=fun g=>if g=st.gen then some (.blk w.heap.size es.length cap sz (fe m (es.length*sz))) else if drop g then none else G.own g;have Z:∀ g r,g < st.gen→J g=some r→G.own g=some r:=by
  intro g r N I;simp only[J,if_neg (Nat.ne_of_lt N)] at I;split at I;·cases I
  ·exact I
 obtain⟨hle,a7⟩:=h.grow hb J (st.gen+1) (st.gen::lv) (Nat.le_succ _) Z
  (fun g r I=>by
   simp only[J] at I;split at I;·omega
   ·split at I
    ·cases I
    ·exact Nat.lt_succ_of_lt (h.gown g r I))
  (fun g N=>by
   rcases List.mem_cons.1 N with rfl | N
   ·exact⟨_,by simp[J];rfl⟩
   ·obtain⟨h1,h2⟩:=a6 g N
    obtain⟨r,I⟩:=h.live g h1;exact⟨r,by simp only[J,if_neg (Nat.ne_of_lt (h.gown g r I)),if_neg h2];exact I⟩)
  (fun g b ad ai a8 aj N I=>by
   simp only[J] at I;split at I
   ·rename_i e
    simp only[Option.some.injEq,Row.blk.injEq] at I;obtain⟨rfl,rfl,rfl,rfl,rfl⟩:=I;refine⟨Nat.le_refl _,fun g' b2 b3 cj ch M=>?_,arr,T,U,hs,hc,hm,hz,X,nv _ _,a1⟩;by_cases e':g'=st.gen;·omega
    ·simp only[J,if_neg e'] at M
     split at M;·cases M
     ·obtain⟨_,_,_,cur,T',h4,_⟩:=h.row _ _ _ _ _ _ M
      have:=(Array.getElem?_eq_some_iff.1 h4).1;omega
   ·split at I
    ·cases I
    ·exact absurd (h.gown g _ I) (by omega))
  (fun g b bs N I=>by
   simp only[J] at I;split at I;·cases I
   ·split at I
    ·cases I
    ·exact absurd (h.gown g _ I) (by omega))
  (fun g b bs c lim N I hm=>by
   simp only[J] at I;split at I;·cases I
   ·split at I
    ·cases I
    ·exact absurd (h.gown g _ I) (by omega))
 refine⟨⟨⟨G.box,J⟩,rfl,a7,?_⟩⟩
 cases m with
 | false=>
   refine .own _ _ es (aI.ofRow U hc hm hl (fun t ht hp=>?_) (fun i j e d hi hj=>?_)) (by simp[au]) (fun r M=>?_)
   ·rcases(hp:aS C ⟨G.box,J⟩ w.heap.size t) with hp | ⟨g,hp⟩ | ⟨g,ad,ai,a8,aj,hp,cl⟩ | ⟨g,b',bs,lim,hp,b0,_⟩
    rotate_right
    ·simp only[J] at hp
     split at hp;·cases hp
     ·split at hp
      ·cases hp
      ·have:=(h.xC hp).2 _ b0
       simp only at this;omega
    ·have:=(h.xold _ _ hp).1;have:=h.fr.size;omega
    ·have:=(h.gbox g _ hp).2.1;omega
    ·simp only[J] at hp
     split at hp
     ·simp only[Option.some.injEq,Row.blk.injEq,fe,cond_false] at hp
      obtain⟨_,rfl,rfl,rfl,rfl⟩:=hp;omega
     ·split at hp
      ·cases hp
      ·obtain⟨_,_,_,cur,T',h4,_⟩:=h.row _ _ _ _ _ _ hp
       have:=(Array.getElem?_eq_some_iff.1 h4).1;omega
   ·obtain⟨u,h1,h2⟩:=I i j e d hi hj
    exact⟨u,h1,h2.mono hle.cell⟩
   ·have O:J st.gen=some r:=M
    simp only[J,if_true,Option.some.injEq] at O;subst O;exact⟨sz,hl,rfl,rfl,rfl,rfl⟩
 | true=>refine .xs _ _ es (by simp[au]) rfl (fun r M=>?_);have O:J st.gen=some r:=M;simp only[J,if_true,Option.some.injEq] at O;subst O;refine⟨rfl,rfl,rfl,hl,fun i j e d hi hj=>?_⟩;obtain⟨u,h1,h2⟩:=I i j e d hi hj;exact⟨u,by show cellAt w' _ _=_;rw[bC U];exact h1,h2.mono hle.cell⟩
theorem ao.lx {m:Bool} (h:ao C n st G tmps w) {r:Row} {g:Nat} (hg:G.own g=some r) {es:List (List D)} {v:Value} (hR:yn m w (aS C G) r v es)
 (lv:List Nat) (a8:∀ J∈lv,J∈st.lv∧J≠g):j8 m C n st G tmps lv es v w w:=by
 let M:Nat→Option Row:=fun J=>if J=st.gen then some r else if J=g then none else G.own J;have c1:=h.gown g r hg;have un:∀ g2 r2,M g2=some r2→∃ g3,G.own g3=some r2∧((g2=st.gen∧g3=g)∨(g2≠st.gen∧g2≠g∧g3=g2)):=by
  intro g2 r2 h2;simp only[M] at h2;split at h2;·rename_i e;simp only[Option.some.injEq] at h2;subst h2;exact⟨g,hg,.inl ⟨e,rfl⟩⟩
  ·split at h2
   ·cases h2
   ·rename_i e1 e2;exact⟨g2,h2,.inr ⟨e1,e2,rfl⟩⟩
 have b0:∀ b o,aS C ⟨G.box,M⟩ b o→aS C G b o:=by
  rintro b o (hp | hp | ⟨J,U,X,ai,Z,hp,hl'⟩ | ⟨J,b',bs,lim,hp,hm,hl'⟩);·exact .inl hp
  ·exact .inr (.inl hp)
  ·simp only[M] at hp
   split at hp
   ·simp only[Option.some.injEq] at hp
    subst hp;exact .inr (.inr (.inl ⟨g,U,X,ai,Z,hg,hl'⟩))
   ·split at hp
    ·cases hp
    ·exact .inr (.inr (.inl ⟨J,U,X,ai,Z,hp,hl'⟩))
  ·obtain⟨g3,h3,_⟩:=un J _ hp
   exact .inr (.inr (.inr ⟨g3,b',bs,lim,h3,hm,hl'⟩))
 have hle:(au C G st.gen w).le (au C ⟨G.box,M⟩ (st.gen+1) w):=ju h.fr h.fr (fun b o u hu hn=>⟨hu,fun hp=>hn (b0 b o hp)⟩) (fun _ _ h=>h)
  (fun J N ad I=>by
   simp only[M,if_neg (Nat.ne_of_lt ad)] at I;split at I;·cases I
   ·exact I) (Nat.le_succ _) (fun _ _ _ _ _ _ _ _=>rfl) (fun _ _ _ _ _=>⟨rfl,fun _ _=>rfl⟩) (.refl w)
 refine⟨⟨⟨G.box,M⟩,rfl,{ size:=h.size,frame:=h.du hle,inj:=h.inj,xold:=h.xold,kold:=h.kold,lent:=h.lent,fr:=h.fr,gcell:=h.gcell,box:=?_,gbox:=?_,live:=?_,gown:=?_,row:=?_,mrow:=?_,sub:=?_ },?_⟩⟩
 ·intro J cells hc
  obtain⟨b,cs,T,h1,h2,h3,h4,h5⟩:=h.box J cells hc;exact⟨b,cs,T,h1,h2,h3,h4,fun i u a hu ha=>(h5 i u a hu ha).mono hle⟩
 ·intro J b hb
  obtain⟨h1,h2⟩:=h.gbox J b hb;exact⟨Nat.lt_succ_of_lt h1,h2⟩
 ·intro J ad
  rcases List.mem_cons.1 ad with rfl | ad
  ·exact⟨r,by simp[M]⟩
  ·obtain⟨h1,h2⟩:=a8 J ad
   obtain⟨N,I⟩:=h.live J h1;exact⟨N,by simp only[M,if_neg (Nat.ne_of_lt (h.gown J N I)),if_neg h2];exact I⟩
 ·intro J N I
  simp only[M] at I;split at I;·simp only;omega
  ·split at I
   ·cases I
   ·exact Nat.lt_succ_of_lt (h.gown J N I)
 ·intro J b U X ai Z I
  obtain⟨g3,h3,aj⟩:=un J _ I;obtain⟨h4,h5,h6,h7⟩:=h.row g3 b U X ai Z h3;refine⟨h4,h5,fun g4 a1 a6 b2 a7 O=>?_,h7⟩;obtain⟨g5,h8,b3⟩:=un g4 _ O;have:=h6 g5 a1 a6 b2 a7 h8;omega
 ·intro J b bs I
  obtain⟨g3,h3,aj⟩:=un J _ I;obtain⟨h4,ch,h6,h7⟩:=h.mrow g3 b bs h3;refine⟨h4,ch,fun g4 cj O=>?_,h7⟩;obtain⟨g5,h8,b3⟩:=un g4 _ O;have:=h6 g5 cj h8;omega
 ·intro J b bs c lim I hm
  obtain⟨g3,h3,aj⟩:=un J _ I;obtain⟨h4,h5,h6,h7,h8⟩:=h.sub g3 b bs c lim h3 hm;refine⟨h4,h5,fun g4 len cap sz cl O=>?_,fun g4 b' bs' cy O cq=>?_,h8⟩
  ·obtain⟨g5,h9,_⟩:=un g4 _ O
   exact h6 g5 _ _ _ _ h9
  ·obtain⟨g5,h9,c6⟩:=un g4 _ O
   have:=h7 g5 _ _ _ h9 cq;omega
 ·have fin:∀ N,M st.gen=some N→r=N:=fun N cx=>by simpa only[M,if_true,Option.some.injEq] using cx
  cases m with
  | false=>obtain⟨hv,s,hl,hr⟩:=hR;exact .own _ _ es (hv.mono hle.cell) (by simp[au]) (fun N I=>fin N I▸⟨s,hl,hr⟩)
  | true=>
    obtain⟨h1,hr⟩:=hR;refine .xs _ _ es (by simp[au]) h1 (fun N I=>fin N I▸?_)
    cases r with
    | nil=>exact hr
    | zero b=>exact hr
    | mp b=>exact hr
    | blk b len cap sz cl=>obtain⟨q1,q2,q3,q4,q5⟩:=hr;refine⟨q1,q2,q3,q4,fun i j e d hi hj=>?_⟩;obtain⟨u,hu,hd⟩:=q5 i j e d hi hj;exact⟨u,hu,hd.mono hle.cell⟩
theorem ao.oS (m:Bool) (h:ao C n st G tmps w) {g b len cap sz:Nat} (hg:G.own g=some (.blk b len cap sz (fe m (len*sz)))) {arr cur:Array Value} {T:TypeId} (Z:w.heap[b]? = some (.cells cur T (0,0))) (hs:arr.size=cur.size) (dt:eF arr)
 (hold:∀ t,t < fe m (len*sz)→arr[t]? = cur[t]?) {es:List (List D)} (hlen:len≤es.length) (hc:es.length≤cap) (hl:∀ (e:List D),e∈es→e.length=sz)
 (hr:∀ (i j:Nat) (e:List D) (d:D),es[i]? = some e→e[j]? = some d→∃ u,arr[i*sz+j]? = some u∧aI w (aS C G) u d)
 (lv:List Nat) (dx:∀ N∈lv,N∈st.lv∧N≠g):j8 m C n st G tmps lv es (.slice (some ⟨b,0,none⟩) es.length cap) w (w.setRow b arr):=by
 obtain⟨ad,cy,a1,e4,T',a8,ed,ff,c7,hz,e5,_⟩:=h.row g b len cap sz _ hg;rw[Z] at a8;simp only[Option.some.injEq,Obj.cells.injEq] at a8;obtain⟨rfl,rfl,_⟩:=a8;let J:Nat→Option Row:=fun N=>if N=st.gen then some (.blk b es.length cap sz (fe m (es.length*sz))) else if N=g then none else G.own N;have fj:=h.gown g _ hg;have e6:b < w.heap.size:=(Array.getElem?_eq_some_iff.1 Z).1;have a6:(w.setRow b arr).heap[b]? = some (.cells arr T (0,0)):=setRow_heap w b cur arr T (0,0) Z;have c6:fe m (len*sz)≤fe m (es.length*sz):=xT m (Nat.mul_le_mul_right _ hlen);have di:=nv m (es.length*sz);have ei:∀ M o,aS C ⟨G.box,J⟩ M o→aS C G M o:=by
  rintro M o (hp | hp | ⟨N,O,U,aj,X,hp,cq⟩ | ⟨N,b2,bs,lim,hp,hm,cq⟩);·exact .inl hp
  ·exact .inr (.inl hp)
  ·simp only[J] at hp
   split at hp
   ·simp only[Option.some.injEq,Row.blk.injEq] at hp
    obtain⟨rfl,rfl,rfl,rfl,rfl⟩:=hp;exact .inr (.inr (.inl ⟨g,len,cap,sz,_,hg,by omega⟩))
   ·split at hp
    ·cases hp
    ·exact .inr (.inr (.inl ⟨N,O,U,aj,X,hp,cq⟩))
  ·simp only[J] at hp
   split at hp;·cases hp
   ·split at hp
    ·cases hp
    ·exact .inr (.inr (.inr ⟨N,b2,bs,lim,hp,hm,cq⟩))
 have df:Fr C (w.setRow b arr):=⟨h.fr.os,h.fr.tape,h.fr.output,by rw[size_setRow];exact h.fr.size,fun M h1 h2=>by
  rw[setRow_other w b M arr (fun e=>by subst e;exact ad.1.elim (fun hm=>by omega) h2)];exact h.fr.block M h1 h2,fun M o u hk hu=>by
  have hw:=h.fr.cells M o u hk hu;by_cases e:M=b
  ·subst e
   rw[bC Z] at hw;rw[bC a6,hold o (ad.2 o hk)];exact hw
  ·rw[br (setRow_other w b M arr e)];exact hw,h.fr.ty.trans (.setRow w b arr)⟩
 have hle:(au C G st.gen w).le (au C ⟨G.box,J⟩ (st.gen+1) (w.setRow b arr)):=ju h.fr df (fun M o u hu hn=>⟨by
  by_cases e:M=b
  ·subst e
   rw[bC Z] at hu;rw[bC a6,hold o (Nat.lt_of_not_le fun hle=>hn (.inr (.inr (.inl ⟨g,len,cap,sz,_,hg,hle⟩))))];exact hu
  ·rw[br (setRow_other w b M arr e)];exact hu,fun hp=>hn (ei M o hp)⟩) (fun _ _ h=>h)
  (fun N r' ai I=>by
   simp only[J,if_neg (Nat.ne_of_lt ai)] at I;split at I;·cases I
   ·exact I) (Nat.le_succ _) (fun N M O U aj X ai I=>by
   simp only[J,if_neg (Nat.ne_of_lt ai)] at I;split at I;·cases I
   ·rename_i e2
    have a7:M≠b:=fun e=>by subst e;exact e2 (a1 N O U aj X I)
    exact setRow_other w b M arr a7) (fun N M bs ai I=>by
   simp only[J,if_neg (Nat.ne_of_lt ai)] at I;split at I;·cases I
   ·obtain⟨_,_,_,me,clock,h3⟩:=h.mrow N M bs I
    exact⟨setRow_other w b M arr (fun e=>by rw[e,Z] at h3;cases h3),fun p hp=>setRow_other w b p.1 arr (fun e=>(h.sub N M bs p.1 p.2 I hp).2.2.1 g _ _ _ _ (by rw[e];exact hg))⟩) (.setRow w b arr)
 refine⟨⟨⟨G.box,J⟩,rfl,{ size:=h.size,frame:=h.du hle,inj:=h.inj,xold:=h.xold,kold:=h.kold,lent:=h.lent,fr:=df,gcell:=fun N M ej=>ka (.setRow w b arr) (h.gcell N M ej),box:=?_,gbox:=?_,live:=?_,gown:=?_,row:=?_,mrow:=?_,sub:=?_ },?_⟩⟩
 ·intro N cells hc
  obtain⟨M,cs,T',h1,h2,h3,h4,h5⟩:=h.box N cells hc;have:M≠b:=fun e=>cy N (by rw[←e];exact h1);exact⟨M,cs,T',h1,by rw[setRow_other w b M arr this];exact h2,h3,h4,fun i u a hu ha=>(h5 i u a hu ha).mono hle⟩
 ·intro N M hb
  obtain⟨h1,h2,h3⟩:=h.gbox N M hb;exact⟨Nat.lt_succ_of_lt h1,by rw[size_setRow];exact h2,h3⟩
 ·intro N ai
  rcases List.mem_cons.1 ai with rfl | ai
  ·exact⟨_,by simp[J];rfl⟩
  ·obtain⟨h1,h2⟩:=dx N ai
   obtain⟨r',I⟩:=h.live N h1;exact⟨r',by simp only[J,if_neg (Nat.ne_of_lt (h.gown N r' I)),if_neg h2];exact I⟩
 ·intro N r' I
  simp only[J] at I;split at I;·simp only;omega
  ·split at I
   ·cases I
   ·exact Nat.lt_succ_of_lt (h.gown N r' I)
 ·intro N M O U aj X I
  simp only[J] at I;split at I
  ·rename_i e
   simp only[Option.some.injEq,Row.blk.injEq] at I;obtain⟨rfl,rfl,rfl,rfl,rfl⟩:=I;refine⟨⟨ad.1,fun o ho=>Nat.lt_of_lt_of_le (ad.2 o ho) c6⟩,cy,fun g2 b0 b3 cx ch h2=>?_,arr,T,a6,by rw[hs];exact ed,hc,c7,hz,by omega,di,dt⟩;simp only[J] at h2;split at h2;·omega
   ·split at h2
    ·cases h2
    ·rename_i e1 e2;exact absurd (a1 g2 b0 b3 cx ch h2) e2
  ·split at I
   ·cases I
   ·rename_i e1 e2
    obtain⟨h4,h5,h6,cl,T2,h7,h8⟩:=h.row N M O U aj X I;have a7:M≠b:=fun e=>by subst e;exact e2 (a1 N O U aj X I)
    refine⟨h4,h5,fun g2 b0 b3 cx ch h2=>?_,cl,T2,by rw[setRow_other w b M arr a7];exact h7,h8⟩;simp only[J] at h2;split at h2;·simp only[Option.some.injEq,Row.blk.injEq] at h2;exact absurd h2.1.symm a7
    ·split at h2
     ·cases h2
     ·exact h6 g2 b0 b3 cx ch h2
 ·intro N M bs I
  have un:∀ g2 M bs,J g2=some (.mp M bs)→G.own g2=some (.mp M bs):=by
   intro g2 M bs h2;simp only[J] at h2;split at h2;·cases h2
   ·split at h2
    ·cases h2
    ·exact h2
  obtain⟨h4,en,h5,me,clock,h6⟩:=h.mrow N M bs (un _ _ _ I);exact⟨h4,en,fun g2 c1 h2=>h5 g2 c1 (un _ _ _ h2),me,clock,by rw[setRow_other w b M arr (fun e=>by rw[e,Z] at h6;cases h6)];exact h6⟩
 ·intro N M bs c lim I hm
  have un:∀ g2 M bs,J g2=some (.mp M bs)→G.own g2=some (.mp M bs):=by
   intro g2 M bs h2;simp only[J] at h2;split at h2;·cases h2
   ·split at h2
    ·cases h2
    ·exact h2
  obtain⟨h4,h5,h6,h7,cl,T2,h8,h9⟩:=h.sub N M bs c lim (un _ _ _ I) hm;have a7:c≠b:=fun e=>h6 g _ _ _ _ (by rw[e];exact hg);refine⟨h4,h5,fun g2 b0 b3 cx ch h2=>?_,fun g2 b2 c1 dj h2 e0=>h7 g2 b2 c1 dj (un _ _ _ h2) e0,cl,T2,by rw[setRow_other w b c arr a7];exact h8,h9⟩;simp only[J] at h2;split at h2;·simp only[Option.some.injEq,Row.blk.injEq] at h2;exact a7 h2.1.symm
  ·split at h2
   ·cases h2
   ·exact h6 g2 _ _ _ _ h2
 ·cases m with
  | false=>
    refine .own _ _ es (aI.ofRow a6 hc c7 hl (fun t ht hp=>?_) (fun i j e d hi hj=>?_)) (by simp[au]) (fun r' I=>?_)
    ·rcases(hp:aS C ⟨G.box,J⟩ b t) with hp | ⟨N,hp⟩ | ⟨N,O,U,aj,X,hp,cq⟩ | ⟨N,M,bs,lim,hp,e3,_⟩
     rotate_right
     ·simp only[J] at hp
      split at hp;·cases hp
      ·split at hp
       ·cases hp
       ·exact(h.sub N M bs b lim hp e3).2.2.1 g _ _ _ _ hg
     ·have:=h.xold _ _ hp;rcases ad.1 with hm | hm
      ·omega
      ·exact this.2 hm
     ·exact cy N hp
     ·simp only[J] at hp
      split at hp
      ·simp only[Option.some.injEq,Row.blk.injEq,fe,cond_false] at hp
       obtain⟨_,rfl,rfl,rfl,rfl⟩:=hp;omega
      ·split at hp
       ·cases hp
       ·rename_i e1 e2;exact e2 (a1 N O U aj X hp)
    ·obtain⟨u,h1,h2⟩:=hr i j e d hi hj
     exact⟨u,h1,h2.mono hle.cell⟩
    ·have cj:J st.gen=some r':=I
     simp only[J,if_true,Option.some.injEq] at cj;subst cj;exact⟨sz,hl,rfl,rfl,rfl,rfl⟩
  | true=>refine .xs _ _ es (by simp[au]) rfl (fun r' I=>?_);have cj:J st.gen=some r':=I;simp only[J,if_true,Option.some.injEq] at cj;subst cj;refine⟨rfl,rfl,rfl,hl,fun i j e d hi hj=>?_⟩;obtain⟨u,h1,h2⟩:=hr i j e d hi hj;exact⟨u,by show cellAt (w.setRow b arr) _ _=_;rw[bC a6];exact h1,h2.mono hle.cell⟩
end
end Go.Ab
namespace Go.Ab
open Go.RowKit
def bk (lv:List Nat) (g:Nat):List Nat:=lv.filter fun x=>!Nat.beq x g
theorem cK {lv:List Nat} {g x:Nat} (h:x∈bk lv g):x∈lv∧x≠g:=by simp only[bk,List.mem_filter,Bool.not_eq_true'] at h;exact⟨h.1,fun e=>by subst e;simp at h⟩
section
variable {P:Program} (T:bA P) {C:Ctx} {n:Nat} {st:St} {G:Gh} {tmps:Array Value} {w:World}
theorem ao.l3 (m:Bool) (h:ao C n st G tmps w) (lv:List Nat) (N:∀ g∈lv,g∈st.lv):j8 m C n st G tmps lv [] (.slice none 0 0) w w:=by
 let J:Nat→Option Row:=fun O=>if O=st.gen then some .nil else G.own O
 obtain⟨hle,U⟩:=h.grow (Below.refl _ w) J (st.gen+1) (st.gen::lv) (Nat.le_succ _)
  (fun g r M I=>by simpa only[J,if_neg (Nat.ne_of_lt M)] using I)
  (fun g r I=>by
   simp only[J] at I;split at I;·omega
   ·exact Nat.lt_succ_of_lt (h.gown g r I))
  (fun g M=>by
   rcases List.mem_cons.1 M with rfl | M
   ·exact⟨_,by simp[J];rfl⟩
   ·obtain⟨r,I⟩:=h.live g (N g M)
    exact⟨r,by simp only[J,if_neg (Nat.ne_of_lt (h.gown g r I))];exact I⟩)
  (fun g b Z ad aj ai M I=>by
   simp only[J] at I;split at I;·cases I
   ·exact absurd (h.gown g _ I) (by omega))
  (fun g b bs M I=>by
   simp only[J] at I;split at I;·cases I
   ·exact absurd (h.gown g _ I) (by omega))
  (fun g b bs c lim M I=>by
   simp only[J] at I;split at I;·cases I
   ·exact absurd (h.gown g _ I) (by omega))
 refine⟨⟨⟨G.box,J⟩,rfl,U,?_⟩⟩;have fin:∀ r,J st.gen=some r→Row.nil=r:=fun r X=>by simpa only[J,if_true,Option.some.injEq] using X
 cases m with
 | false=>exact .own _ _ [] .nil (by simp[au]) (fun r I=>fin r I▸⟨0,by simp,rfl,rfl⟩)
 | true=>exact .xs _ _ [] (by simp[au]) rfl (fun r I=>fin r I▸⟨rfl,rfl⟩)
theorem oP {n sz:Nat} {l1 l2 rest:List Value} {es es2:List (List D)} {R:Value→D→Prop} (U:es.length=n) (I:l1.length=n*sz) (hl:∀ (e:List D),e∈es++es2→e.length=sz)
 (h1:∀ (i j:Nat) (e:List D) (d:D),es[i]? = some e→e[j]? = some d→∃ u,l1[i*sz+j]? = some u∧R u d)
 (h2:∀ (i j:Nat) (e:List D) (d:D),es2[i]? = some e→e[j]? = some d→∃ u,l2[i*sz+j]? = some u∧R u d) :
 ∀ (i j:Nat) (e:List D) (d:D),(es++es2)[i]? = some e→e[j]? = some d→∃ u,(l1++l2++rest).toArray[i*sz+j]? = some u∧R u d:=by
 intro i j e d hi hj;have O:e.length=sz:=hl e (List.mem_of_getElem? hi);have Z:j < sz:=by rw[←O];exact(List.getElem?_eq_some_iff.1 hj).1
 rcases Nat.lt_or_ge i n with ad | J
 ·rw[List.getElem?_append_left (by omega)] at hi
  obtain⟨u,hu,M⟩:=h1 i j e d hi hj;refine⟨u,?_,M⟩;rw[List.getElem?_toArray,List.append_assoc,List.getElem?_append_left (List.getElem?_eq_some_iff.1 hu).1];exact hu
 ·rw[List.getElem?_append_right (by omega)] at hi
  obtain⟨u,hu,M⟩:=h2 _ j e d hi hj;refine⟨u,?_,M⟩;have X:i*sz+j - l1.length=(i - es.length)*sz+j:=by rw[I,U,Nat.sub_mul];have:n*sz≤i*sz:=Nat.mul_le_mul_right _ J;omega
  have N:l1.length≤i*sz+j:=by rw[I];have:n*sz≤i*sz:=Nat.mul_le_mul_right _ J;omega
  rw[List.getElem?_toArray,List.append_assoc,List.getElem?_append_right N,X,List.getElem?_append_left (List.getElem?_eq_some_iff.1 hu).1];exact hu
theorem zi {z:Array Value} (h:∀ u∈z.toList,u.oneCell'=true) (k:Nat):∀ u∈(Builtin.zeroCells z k).toList,u.oneCell'=true:=by
 intro u hu;rw[Builtin.zeroCells,Array.toList_map] at hu;obtain⟨i,hi,rfl⟩:=List.mem_map.1 hu;have J:0 < z.size:=by
  rcases Nat.eq_zero_or_pos z.size with q | q
  ·rw[q,Nat.mul_zero] at hi;simp at hi
  ·exact q
 have I:=Nat.mod_lt i J;rw[getElem!_pos z (i % z.size) I];exact h _ (by simp)
theorem mE {l1 l2:List Value} {z:Array Value} {k:Nat} (h1:∀ u∈l1,u.oneCell'=true) (h2:∀ u∈l2,u.oneCell'=true) (h3:∀ u∈z.toList,u.oneCell'=true):eF (l1++l2++(Builtin.zeroCells z k).toList).toArray:=
 eF.mem fun u hu=>by
  rcases List.mem_append.1 hu with hu | hu
  ·rcases List.mem_append.1 hu with hu | hu
   ·exact h1 u hu
   ·exact h2 u hu
  ·exact zi h3 k u hu
theorem jC {cur:Array Value} {l2:List Value} {i j:Nat} (h1:eF cur) (h2:∀ u∈l2,u.oneCell'=true):eF (cur.toList.take i++l2++cur.toList.drop j).toArray:=
 eF.mem fun u hu=>by
  rcases List.mem_append.1 hu with hu | hu
  ·rcases List.mem_append.1 hu with hu | hu
   ·exact h1.of u (List.mem_of_mem_take hu)
   ·exact h2 u hu
  ·exact h1.of u (List.mem_of_mem_drop hu)
theorem Aq {z:Value} {l:List Value} (h:z.cells.toList=l) (I:l.all cm=true):∀ u∈z.cells.toList,u.oneCell'=true:=fun u hu=>kt (List.all_eq_true.1 I u (h▸hu))
inductive Src (m:Bool) (C:Ctx) (w:World) (st:St) (G:Gh) (v:Value) (es:List (List D)):List Nat→Prop
 | own (g:Nat) (r:Row) (hg:G.own g=some r) (hR:yn m w (aS C G) r v es):Src m C w st G v es (bk st.lv g)
 | nil (hv:v=.slice none 0 0) (he:es=[]):Src m C w st G v es st.lv
theorem yn.flat {m:Bool} {w:World} {pv:Nat→Nat→Prop} {b len cap sz O:Nat} {v:Value} {es:List (List D)} (h:yn m w pv (.blk b len cap sz O) v es) (hl:∀ (e:List D),e∈es→e.length=sz) :
 v=.slice (some ⟨b,0,none⟩) len cap∧es.length=len∧O=fe m (len*sz)∧∃ l:List Value,l.length=len*sz∧(∀ (t:Nat) (u:Value),l[t]? = some u→cellAt w b t=some u∧u.oneCell'=true) ∧
   ∀ (i j:Nat) (e:List D) (d:D),es[i]? = some e→e[j]? = some d→∃ u,l[i*sz+j]? = some u∧aI w pv u d:=by
 cases m with
 | false=>obtain⟨hv,s,hs,h1,h2,h3,h4⟩:=h;subst h3;subst h1;obtain⟨q1,q2,q3,l,q4,q5,q6⟩:=hv.flat hl;exact⟨rfl,q1,h4,l,q4,fun t u hu=>by have:=q5 t u hu;rw[Nat.zero_add] at this;exact⟨this.1,this.2.2⟩,q6⟩
 | true=>
   obtain⟨_,h1,h2,h3,h4,h5⟩:=h;refine⟨h1,h2,h3,?_⟩;have key:∀ t,t < len*sz→∃ u,cellAt w b t=some u∧u.oneCell'=true∧∀ e d,es[t / sz]? = some e→e[t % sz]? = some d→aI w pv u d:=by
    intro t Z;have hz:0 < sz:=Nat.pos_of_ne_zero fun h=>by rw[h] at Z;simp at Z
    have hi:t / sz < es.length:=by rw[h2];exact Nat.div_lt_of_lt_mul (by rw[Nat.mul_comm];exact Z)
    have he:es[t / sz]? = some es[t / sz]:=by simp[hi]
    have N:=h4 _ (List.mem_of_getElem? he);have hd:es[t / sz][t % sz]? = some (es[t / sz][t % sz]'(by rw[N];exact Nat.mod_lt _ hz)):=by simp
    obtain⟨u,hu,I⟩:=h5 _ _ _ _ he hd;rw[Nat.div_add_mod' t sz] at hu;refine⟨u,hu,I.one,fun e d U X=>?_⟩;rw[he] at U;cases U;rw[hd] at X;cases X;exact I
   refine⟨(List.range (len*sz)).map fun t=>(cellAt w b t).getD default,by simp,fun t u hu=>?_,fun i j e d hi hj=>?_⟩
   ·simp only[List.getElem?_map,Option.map_eq_some_iff] at hu
    obtain⟨t',J,rfl⟩:=hu;have M:t < len*sz:=by
     rcases Nat.lt_or_ge t (len*sz) with h | h
     ·exact h
     ·rw[List.getElem?_eq_none (by simpa using h)] at J;cases J
    rw[List.getElem?_range M] at J;have:t'=t:=(Option.some.inj J).symm;subst this;obtain⟨u,hu,h1,_⟩:=key t' M;rw[hu];exact⟨rfl,h1⟩
   ·have M:i < len:=by rw[←h2];exact(List.getElem?_eq_some_iff.1 hi).1
    have N:e.length=sz:=h4 e (List.mem_of_getElem? hi);have ad:j < sz:=by rw[←N];exact(List.getElem?_eq_some_iff.1 hj).1
    obtain⟨u,hu,I⟩:=h5 i j e d hi hj;refine⟨u,?_,I⟩;simp[vu M ad,hu]
theorem aI.FR {w:World} {pv:Nat→Nat→Prop} {v:Value} {es:List (List D)} (h:aI w pv v (.sl es)):∃ a cap,v=.slice a es.length cap∧es.length≤cap:=by
 cases h with
 | nil=>exact⟨none,0,rfl,by simp⟩
 | emp a cap hm=>exact⟨_,cap,rfl,by simp⟩
 | sl b off len cap sz es u hl I hm hs hu J=>exact⟨_,cap,by rw[hl],by omega⟩
theorem lM (m:Bool) (h:ao C n st G tmps w) {t e:Nat} {td ed:bH} (ht:ae T.l t=some td) (hk:td.k=.slice e) (he:ae T.l e=some ed) {v v2:Value} {es es2:List (List D)} {lv:List Nat}
    (hvl:∃ a cap,v=.slice a es.length cap∧es.length≤cap) (hv2:aI w (aS C G) v2 (.sl es2)) (hsrc:Src m C w st G v es lv) (hl:∀ (x:List D),x∈es++es2→x.length=ed.n) (hz:0 < ed.n) (hb0:0 < ed.b)
    (hb:(es.length+es2.length)*ed.b≤140737488355328) (ty:Nat) :
    ∃ v' w',(Builtin.append_ #[t,t] ty #[v,v2]).run P w=.ok v' w'∧j8 m C n st G tmps lv (es++es2) v' w w':=by
  have hu:=T.fu ht hk
  obtain⟨i,z,hi,hin,hib,hiz,hzc,hzl,hzk,_⟩:=T.info he
  have hzo:=Aq hzc hzk
  have hmax:es.length+es2.length≤140737488355328:=Nat.le_trans (Nat.le_mul_of_pos_right _ hb0) hb
  have hmx:es.length+es2.length≤maxLen:=by simp only[maxLen];omega
  have hlv:∀ g'∈lv,g'∈st.lv:=by
    cases hsrc with
    | own g r _ _=>exact fun g' hg'=>(cK hg').1
    | nil=>exact fun g' hg'=>hg'
  have hl1:∀ (x:List D),x∈es→x.length=ed.n:=fun x hx=>hl x (List.mem_append.2 (.inl hx))
  have hl2:∀ (x:List D),x∈es2→x.length=ed.n:=fun x hx=>hl x (List.mem_append.2 (.inr hx))
  rcases Nat.eq_zero_or_pos es2.length with hm | hm
  · have hes2:es2=[]:=List.eq_nil_of_length_eq_zero hm
    subst hes2
    obtain⟨a2,c2,hv2e,_⟩:=hv2.len
    obtain⟨a1,c1,hv1e,hc1⟩:=hvl
    refine⟨v,w,by rw[hv1e];exact rN ty hu hi a1 _ c1 hc1 v2 a2 c2 hv2e,?_⟩
    rw[List.append_nil]
    cases hsrc with
    | own g r hg hR=>exact h.lx hg hR _ fun g' hg'=>cK hg'
    | nil hv0 he0=>subst hv0;subst he0;exact h.l3 m _ fun _ h=>h
  · cases hv2 with
    | nil=>simp at hm
    | emp=>simp at hm
    | sl b2 off2 len2 cap2 sz2 _ u2 hlen2 hc2 hcm2 hs2 hu2 hr2=>
    obtain⟨_,_,_,news,hnl,hnc,hnr⟩:=(aI.sl b2 off2 len2 cap2 sz2 es2 u2 hlen2 hc2 hcm2 hs2 hu2 hr2).flat hl2
    have hnews:∀ j u,news[j]? = some u→w.cell? ((⟨b2,off2,none⟩:Addr).add j)=some u:=by
      intro j u hj
      have:=(hnc j u hj).1
      unfold Addr.add
      split
      · rename_i e;subst e;simpa [cellAt] using this
      · exact this
    have hlen2':len2=es2.length:=hlen2.symm
    have hfitn:news.length=len2*i.size:=by rw[hnl,hin]
    have hno:∀ u∈news,u.oneCell'=true:=fun u hu=>by obtain⟨j,hj⟩:=List.mem_iff_getElem?.1 hu;exact(hnc j u hj).2.2
    have grow:∀ (olds:List Value) (cap':Nat),(∀ u∈olds,u.oneCell'=true)→olds.length=es.length*ed.n→es.length+len2≤cap'→cap'≤maxLen →
        (∀ (i j:Nat) (x:List D) (d:D),es[i]? = some x→x[j]? = some d→∃ u,olds[i*ed.n+j]? = some u∧aI w (aS C G) u d) →
        ∀ arr:Array Value,arr=olds.toArray++news.toArray++Builtin.zeroCells z.cells (cap' - (es.length+len2)) →
        j8 m C n st G tmps lv (es++es2) (.slice (some ⟨w.heap.size,0,none⟩) (es.length+len2) cap') w (w.drew.alloc (.cells arr e)):=by
      intro olds cap' hoo hol hge hcm hor arr harr
      have hb':Below w.heap.size w (w.drew.alloc (.cells arr e)):=((Below.refl _ w).drew).alloc (Nat.le_refl _) _
      have hzs:z.cells.size=ed.n:=by rw[←hzl,←hzc];simp
      have hsz:arr.size=cap'*ed.n:=by
        rw[harr]
        simp only[Array.size_append,List.size_toArray,size_zeroCells,hol,hnl,hzs,←Nat.add_mul]
        congr 1
        omega
      have e0:(es++es2).length=es.length+len2:=by simp[hlen2]
      have e1:arr=(olds++news++(Builtin.zeroCells z.cells (cap' - (es.length+len2))).toList).toArray:=by rw[harr];simp
      have main:∀ (drop:Nat→Prop) [DecidablePred drop],(∀ g∈lv,g∈st.lv∧¬ drop g)→j8 m C n st G tmps lv (es++es2) (.slice (some ⟨w.heap.size,0,none⟩) (es++es2).length cap') w (w.drew.alloc (.cells arr e)):=by
        intro drop _ hd
        refine h.newRow m hb' (heap_alloc_new w.drew _) hsz (by rw[e1];exact mE hoo hno hzo) (by omega) hcm hz (by omega) hl ?_ drop lv hd
        rw[e1]
        exact oP rfl hol hl hor hnr
      rw[←e0]
      cases hsrc with
      | own g r hg hR=>exact main (fun x=>x=g) fun g' hg'=>cK hg'
      | nil=>exact main (fun _=>False) fun g' hg'=>⟨hg',fun h=>h⟩
    have hcap:∀ old,es.length+len2≤grownCap w (es.length+len2) old e∧grownCap w (es.length+len2) old e≤maxLen:=fun old=>⟨grownCap_ge w _ old e,grownCap_le_maxLen w _ old e (by omega)⟩
    have nilCase:v=.slice none 0 0→es=[]→∃ v' w',(Builtin.append_ #[t,t] ty #[v,.slice (some ⟨b2,off2,none⟩) len2 cap2]).run P w=.ok v' w'∧j8 m C n st G tmps lv (es++es2) v' w w':=by
      intro hv0 he0
      subst hv0;subst he0
      have hr:=run_append_nil (P:=P) w t ty e i z hu hi hiz ⟨b2,off2,none⟩ len2 cap2 news hfitn hnews (by omega) (by omega) (by rw[hib,hlen2'];simp at hb;omega)
      have hg:=grow [] (grownCap w len2 0 e) (by simp) (by simp) (by simpa using (hcap 0).1) (by simpa using (hcap 0).2) (by simp) _ rfl
      simp only[List.length_nil,Nat.zero_add] at hg
      refine⟨_,_,hr,?_⟩
      simpa using hg
    cases hsrc with
    | nil hv0 he0=>exact nilCase hv0 he0
    | own g r hg hR=>
      cases r with
      | mp b bs=>
        cases m with
        | false=>exact absurd hR.2.choose_spec.2 (fun h=>h)
        | true=>exact absurd hR.2 (fun h=>h)
      | nil=>
        have hr:v=.slice none 0 0∧es=[]:=by
          cases m with
          | false=>obtain⟨_,s,_,h1,h2⟩:=hR;exact⟨h1,List.eq_nil_of_length_eq_zero h2⟩
          | true=>exact hR.2
        exact nilCase hr.1 hr.2
      | zero b=>
        cases m with
        | true=>
          obtain⟨hv0,he0⟩:=hR.2
          subst hv0;subst he0
          have hr:=run_append_grow (P:=P) w t ty e i z hu hi hiz ⟨b,0,none⟩ 0 0 [] (by simp) (by simp) ⟨b2,off2,none⟩ len2 cap2 news hfitn hnews (by omega) (by omega)
            (growslice_fits (by omega) (by rw[hib];simpa [hlen2'] using hb))
          have hg:=grow [] (grownCap w (0+len2) 0 e) (by simp) (by simp) (by simpa using (hcap 0).1) (by simpa using (hcap 0).2) (by simp) _ rfl
          exact⟨_,_,hr,by simpa using hg⟩
        | false=>
          obtain⟨hrd,s,_,off,hv0⟩:=hR
          subst hv0
          obtain⟨olds,hol,hoc,hor⟩:∃ olds:List Value,olds.length=es.length*ed.n∧(∀ (t:Nat) (u:Value),olds[t]? = some u→cellAt w b (off+t)=some u∧u.oneCell'=true) ∧
              ∀ (i j:Nat) (x:List D) (d:D),es[i]? = some x→x[j]? = some d→∃ u,olds[i*ed.n+j]? = some u∧aI w (aS C G) u d:=by
            generalize hq:Value.slice (some ⟨b,off,none⟩) es.length es.length=q at hrd
            cases hrd with
            | nil=>exact⟨[],by simp,by simp,by simp⟩
            | emp=>exact⟨[],by simp,by simp,by simp⟩
            | sl b1 off1 len1 cap1 sz1 _ u1 hlen1 hc1 hcm1 hs1 hu1 hr1=>
              simp only[Value.slice.injEq,Option.some.injEq,Addr.mk.injEq,and_true] at hq
              obtain⟨⟨rfl,rfl⟩,rfl,rfl⟩:=hq
              obtain⟨_,_,_,olds,hol,hoc,hor⟩:=(aI.sl b off es.length es.length sz1 es u1 hlen1 hc1 hcm1 hs1 hu1 hr1).flat hl1
              exact⟨olds,hol,fun t u hu=>⟨(hoc t u hu).1,(hoc t u hu).2.2⟩,hor⟩
          have holds:∀ j u,olds[j]? = some u→w.cell? ((⟨b,off,none⟩:Addr).add j)=some u:=by
            intro j u hj
            have:=(hoc j u hj).1
            unfold Addr.add
            split
            · rename_i e;subst e;simpa [cellAt] using this
            · exact this
          have hr:=run_append_grow (P:=P) w t ty e i z hu hi hiz ⟨b,off,none⟩ es.length es.length olds (by rw[hol,hin]) holds ⟨b2,off2,none⟩ len2 cap2 news hfitn hnews (by omega) (by omega)
            (growslice_fits (by omega) (by rw[hib];simpa [hlen2'] using hb))
          have hgr:=grow olds (grownCap w (es.length+len2) es.length e) (fun u hu=>by obtain⟨j,hj⟩:=List.mem_iff_getElem?.1 hu;exact(hoc j u hj).2) hol (hcap es.length).1 (hcap es.length).2 hor _ rfl
          exact⟨_,_,hr,hgr⟩
      | blk b len cap s pub=>
        obtain⟨hmine,hnb,huniq,cur,T',hcur,hcs,hlc,hcm,hz',hpos,_,hone⟩:=h.row g b len cap s pub hg
        have hlen:es.length=len:=by
          cases m with
          | false=>obtain⟨_,s,_,h1,h2,_⟩:=hR;exact h2
          | true=>exact hR.2.2.1
        have hsl:∀ (e:List D),e∈es→e.length=s:=by
          cases m with
          | false=>obtain⟨_,s',h0,h1,h2,h3,_⟩:=hR;exact h3▸h0
          | true=>exact hR.2.2.2.2.1
        have hsz:s=ed.n:=by
          have he0:es[0]? = some (es[0]'(by omega)):=by simp
          rw[←hsl _ (List.mem_of_getElem? he0),hl1 _ (List.mem_of_getElem? he0)]
        subst hsz
        obtain⟨hv0,_,hpub,olds,hol,hoc,hor⟩:=hR.flat hl1
        subst hlen
        subst hv0
        subst hpub
        have holds:∀ j u,olds[j]? = some u→w.cell? ((⟨b,0,none⟩:Addr).add j)=some u:=by
          intro j u hj
          have:=(hoc j u hj).1
          unfold Addr.add
          split
          · rename_i e;subst e;simpa [cellAt] using this
          · simpa using this
        by_cases hroom:es.length+len2≤cap
        · have hfit:es.length*i.size+news.length≤cur.size:=by rw[hnl,hin,hcs,←Nat.add_mul];exact Nat.mul_le_mul_right _ hroom
          by_cases hTe:T'=e
          · subst hTe
            have hr:=run_append_room (P:=P) w t ty T' i hu hi b es.length cap cur hcur ⟨b2,off2,none⟩ len2 cap2 news hfitn hnews (fun u hu=>by
              obtain⟨j,hj⟩:=List.mem_iff_getElem?.1 hu
              exact(hnc j u hj).2.2) hroom hfit
            refine⟨_,_,hr,?_⟩
            have e0:(es++es2).length=es.length+len2:=by simp[hlen2]
            have htk:cur.toList.take (es.length*i.size)=olds:=by
              apply List.ext_getElem?
              intro t'
              rw[List.getElem?_take]
              split
              · rename_i hlt
                rw[hin] at hlt
                have ho:olds[t']? = some olds[t']:=by simp[hol,hlt]
                rw[ho]
                have:=(hoc t' _ ho).1
                rw[bC hcur] at this
                simpa using this
              · rename_i hge
                rw[hin] at hge
                rw[List.getElem?_eq_none (by rw[hol];omega)]
            rw[←e0]
            refine h.oS m hg hcur ?_ (jC hone hno) (fun t' ht''=>?_) (by omega) (by omega) hl ?_ _ fun g' hg'=>cK hg'
            · simp only[List.size_toArray,List.length_append,List.length_take,List.length_drop,Array.length_toList]
              omega
            · have ht':=Nat.lt_of_lt_of_le ht'' (nv _ _)
              rw[List.getElem?_toArray,List.append_assoc,List.getElem?_append_left (by rw[htk,hol];exact ht'),List.getElem?_take,if_pos (by rw[hin];exact ht')]
              simp
            · rw[htk]
              exact oP rfl hol hl hor hnr
          ·
            have hf:=run_firstCells_some (P:=P) w i.size len2 ⟨b2,off2,none⟩ len2 cap2 news hfitn hnews
            have hst:=run_storeCells_at P b (es.length*i.size) T' news 0 cur w hcur (by simpa using hfit) (fun u hu=>by
              obtain⟨j,hj⟩:=List.mem_iff_getElem?.1 hu
              exact(hnc j u hj).2.2)
            simp only[Nat.add_zero] at hst
            have hr:(Builtin.append_ #[t,t] ty #[.slice (some ⟨b,0,none⟩) es.length cap,.slice (some ⟨b2,off2,none⟩) len2 cap2]).run P w =
                .ok (.slice (some ⟨b,0,none⟩) (es.length+len2) cap) (w.setRow b (cur.toList.take (es.length*i.size)++news++cur.toList.drop (es.length*i.size+news.length)).toArray):=by
              simp[Builtin.append_,run_underlying hu,Go.sizeOf,typeInfo,hi,Builtin.lenOf,hroom,hf,Addr.add_lit,hst]
            refine⟨_,_,hr,?_⟩
            have e0:(es++es2).length=es.length+len2:=by simp[hlen2]
            have htk:cur.toList.take (es.length*i.size)=olds:=by
              apply List.ext_getElem?
              intro t'
              rw[List.getElem?_take]
              split
              · rename_i hlt
                rw[hin] at hlt
                have ho:olds[t']? = some olds[t']:=by simp[hol,hlt]
                rw[ho]
                have:=(hoc t' _ ho).1
                rw[bC hcur] at this
                simpa using this
              · rename_i hge
                rw[hin] at hge
                rw[List.getElem?_eq_none (by rw[hol];omega)]
            rw[←e0]
            refine h.oS m hg hcur ?_ (jC hone hno) (fun t' ht''=>?_) (by omega) (by omega) hl ?_ _ fun g' hg'=>cK hg'
            · simp only[List.size_toArray,List.length_append,List.length_take,List.length_drop,Array.length_toList]
              omega
            · have ht':=Nat.lt_of_lt_of_le ht'' (nv _ _)
              rw[List.getElem?_toArray,List.append_assoc,List.getElem?_append_left (by rw[htk,hol];exact ht'),List.getElem?_take,if_pos (by rw[hin];exact ht')]
              simp
            · rw[htk]
              exact oP rfl hol hl hor hnr
        · have hr:=run_append_grow (P:=P) w t ty e i z hu hi hiz ⟨b,0,none⟩ es.length cap olds (by rw[hol,hin]) holds ⟨b2,off2,none⟩ len2 cap2 news hfitn hnews (by omega) (by omega)
            (growslice_fits (by omega) (by rw[hib];simpa [hlen2'] using hb))
          have hgr:=grow olds (grownCap w (es.length+len2) cap e) (fun u hu=>by obtain⟨j,hj⟩:=List.mem_iff_getElem?.1 hu;exact(hoc j u hj).2) hol (hcap cap).1 (hcap cap).2 hor _ rfl
          exact⟨_,_,hr,hgr⟩
end
section
variable {P:Program} (T:bA P) {C:Ctx} {n:Nat} {ops:Array Oper} {Q:Exit→St→Prop} {st:St} {o:Oper} {rest:List Oper}
theorem jD {act:Act} {x y:Operand} {t:Nat} (J:o.op=.call ⟨.builtin .append,#[x,y],#[t,t]⟩) {w w':World} {I:Value}
 (h:(Builtin.append_ #[t,t] o.type #[act.eval x,act.eval y]).run P w=.ok I w'):(execOp act.eval o).run P w=.ok (.value I) w':=by
 unfold execOp;rw[J];show Sem.run P (do let d ←resolve act.eval ⟨.builtin .append,#[x,y],#[t,t]⟩ o.type;invoke d.target d.args) w=_;simp only[resolve,invoke,builtin,Sem.run_bind,Sem.run_pure,Result.andThen_ok,List.map_toArray,List.map_cons,List.map_nil,h]
theorem WO.append (hg:o.guard=none) (hd:eM n o.dst=true) {x y:Operand} {t e:Nat} {U I:bH} (ho:o.op=.call ⟨.builtin .append,#[x,y],#[t,t]⟩) (ht:ae T.l t=some U) (hk:U.k=.slice e) (he:ae T.l e=some I)
 {g:Nat} {es es2:List (List D)} (hx:av st.f x=some (.own g es)) (X:g∈st.lv) {b:A} (hy:av st.f y=some b) (Z:gm b=some es2) (hz:Nat.blt 0 I.n=true) (ad:Nat.blt 0 I.b=true)
 (hl:∀ (x:List D),x∈es++es2→x.length=I.n) (hb:(es.length+es2.length)*I.b≤140737488355328)
 (h:WO P C n ops Q rest (St.put { st with lv:=st.gen::bk st.lv g,gen:=st.gen+1 } o.dst (.own st.gen (es++es2)))):WO P C n ops Q (o::rest) st:=by
 refine WO.step hg fun tmps w ⟨G,hs⟩=>?_;have hr:=hs.av hx;have ai:=fZ Z (hs.av hy);obtain⟨r,M⟩:=hs.live g X;generalize hv:Act.eval ⟨tmps,[]⟩ x=v at hr
 cases hr with
 | own _ _ _ N a8 O=>
 obtain⟨s,aj,a1⟩:=O r M;obtain⟨v',w',J,⟨G',_,a6,a7⟩⟩:=lM T false hs ht hk he N.FR ai (.own g r M ⟨N,s,aj,a1⟩) hl (Nat.le_of_ble_eq_true hz) (Nat.le_of_ble_eq_true ad) hb o.type;rw[←hv] at J;exact bT (jD ho J) ⟨_,⟨G',a6.put (bQ hd) a7⟩,h⟩
theorem WO.zS (hg:o.guard=none) (hd:eM n o.dst=true) {x y:Operand} {t e:Nat} {N I:bH} (ho:o.op=.call ⟨.builtin .append,#[x,y],#[t,t]⟩) (ht:ae T.l t=some N) (hk:N.k=.slice e) (he:ae T.l e=some I)
 {es2:List (List D)} (hx:av st.f x=some (.d (.v (.slice none 0 0)))) {b:A} (hy:av st.f y=some b) (O:gm b=some es2) (hz:Nat.blt 0 I.n=true) (U:Nat.blt 0 I.b=true)
 (hl:∀ (x:List D),x∈es2→x.length=I.n) (hb:es2.length*I.b≤140737488355328)
 (h:WO P C n ops Q rest (St.put { st with lv:=st.gen::st.lv,gen:=st.gen+1 } o.dst (.own st.gen es2))):WO P C n ops Q (o::rest) st:=by
 refine WO.step hg fun tmps w ⟨G,hs⟩=>?_;have M:=hs.av hx;have X:=fZ O (hs.av hy);generalize hv:Act.eval ⟨tmps,[]⟩ x=v at M;cases M with | d M=>cases M with | v _ _=>
 obtain⟨v',w',J,⟨G',_,Z,ad⟩⟩:=lM (es:=[]) T false hs ht hk he ⟨none,0,rfl,Nat.le_refl _⟩ X (.nil rfl rfl) (by simpa using hl) (Nat.le_of_ble_eq_true hz) (Nat.le_of_ble_eq_true U) (by simpa using hb) o.type;rw[List.length_nil,←hv] at J;exact bT (jD ho J) ⟨_,⟨G',Z.put (bQ hd) (by simpa [DA] using ad)⟩,h⟩
theorem W.D5 {c:Code} {d:Nat} (hl:look st.f d=some (.d (.v (.slice none 0 0)))) (hd:Nat.blt d n=true) (h:W P C n c Q (St.set { st with lv:=st.gen::st.lv,gen:=st.gen+1 } d (.own st.gen []))):W P C n c Q st:=by
 intro tmps w ⟨G,hs⟩;obtain⟨v,J,I⟩:=hs.frame _ _ hl;cases I with | d I=>cases I with | v _ _=>
 obtain⟨⟨U,_,M,N⟩⟩:=hs.l3 false st.lv (fun _ h=>h);refine h tmps w ⟨U,?_⟩;have:=M.set (d:=d) (Nat.le_of_ble_eq_true hd) N;have e:tmps.setIfInBounds d (Value.slice none 0 0)=tmps:=by
  apply Array.ext_getElem?;intro i;rw[Array.getElem?_setIfInBounds];split
  ·rename_i e
   subst e;split;·rw[J]
   ·rename_i O;exact absurd (Array.getElem?_eq_some_iff.1 J).1 O
  ·rfl
 rw[e] at this;exact this
end
end Go.Ab
namespace Go.Ab
open Go.RowKit
theorem nV (off:Nat):∀ (l:List Value) (k:Nat) (cells:Array Value),off+k+l.length≤cells.size →
 (l.zipIdx k).foldl (fun cs (x:Value×Nat)=>cs.setIfInBounds (off+x.2) x.1) cells=(cells.toList.take (off+k)++l++cells.toList.drop (off+k+l.length)).toArray
 | [],k,cells,_=>by simp
 | v::l,k,cells,h=>by simp only[List.zipIdx_cons,List.foldl_cons];rw[nV off l (k+1) _ (by simp at h ⊢;omega)];congr 1;have e:=list_seg_step cells.toList (off+k) v l (by simp at h ⊢;omega);simpa [Array.toList_setIfInBounds,Nat.add_assoc] using e
def o9 (bx:List (Nat×List A)) (f:List (Nat×A)) (place:Nat→Option (Nat×Nat)):List (Nat×Operand)→List A→Option (List A)
 | [],cells=>some cells
 | (i,x)::r,cells=>match place i,av f x with
   | some (off,size),some a=>(match cellsOf bx a with
     | some cs=>if cs.length=size∧off+cs.length≤cells.length then o9 bx f place r (setAt cells off cs) else none
     | none=>none)
   | _,_=>none
section
variable {P:Program} (T:bA P) {C:Ctx} {n:Nat} {ops:Array Oper} {Q:Exit→St→Prop} {st:St} {o:Oper} {rest:List Oper}
variable {G:Gh} {tmps:Array Value} {w:World}
theorem wV (hs:ao C n st G tmps w) (place I:Nat→Option (Nat×Nat)) (hp:∀ i x,place i=some x→I i=some x):∀ (parts:List (Nat×Operand)) (cells cells':List A) (cs:Array Value),cv (au C G st.gen w) cs cells →
 o9 st.bx st.f place parts cells=some cells'→∃ cs',Instr.fill I cs (parts.map fun (i,x)=>(i,Act.eval ⟨tmps,[]⟩ x))=some cs'∧cv (au C G st.gen w) cs' cells'
 | [],cells,cells',cs,hr,h=>by simp only[o9,Option.some.injEq] at h;subst h;exact⟨cs,rfl,hr⟩
 | (i,x)::r,cells,cells',cs,hr,h=>by
   simp only[o9] at h;split at h
   ·rename_i off size a M U
    split at h
    ·rename_i Z N
     split at h
     ·rename_i X
      obtain⟨h1,h2⟩:=X;have J:=hZ hs N (hs.av U);have O:(Act.eval ⟨tmps,[]⟩ x).cells.size=size:=by rw[J.1];exact h1
      have hle:off+(Act.eval ⟨tmps,[]⟩ x).cells.size≤cs.size:=by rw[J.1,hr.1];exact h2
      obtain⟨cs',h3,h4⟩:=wV hs place I hp r _ cells' _ (cv.setAt (off:=off) hr J h2) h;refine⟨cs',?_,h4⟩;simp only[List.map_cons,Instr.fill,hp i _ M];rw[if_neg (by simp[O];omega)];have e:=nV off (Act.eval ⟨tmps,[]⟩ x).cells.toList 0 cs (by simpa using hle);simp only[Nat.add_zero] at e;rw[←h3,←e];congr 1;rw[←Array.foldl_toList];simp[Array.toList_zipIdx]
     ·cases h
    ·cases h
   ·cases h
theorem cv.jx {E:En} {cs:Array Value} {l:List A} (h:cv E cs l):aC E (.agg cs) (jx l):=jN h.1 h.2.1 h.2.2
theorem Bk {E:En} {t:Nat} {d:bH} (h:ae T.l t=some d):∃ i z,P.info? t=some i∧i.zero=some z∧i.size=d.n∧cv E z.cells (d.z.map fun v=>.d (.v v)):=by
 obtain⟨i,z,hi,U,_,X,I,Z,N,_⟩:=T.info h;have J:∀ (i:Nat) (u:Value),z.cells[i]? = some u→cm u=true:=fun i u hu=>by
  have:u∈d.z:=by rw[←I,List.mem_iff_getElem?];exact⟨i,by simpa using hu⟩
  exact List.all_eq_true.1 N u this
 refine⟨i,z,hi,X,U,by rw[List.length_map,←I];simp,fun i u hu=>kt (J i u hu),fun i u a hu O=>?_⟩;simp only[List.getElem?_map,Option.map_eq_some_iff] at O;obtain⟨y,M,rfl⟩:=O;rw[←I] at M;have:y=u:=by simp at M;rw[hu] at M;exact(Option.some.inj M).symm
 subst this;exact .d (.v _ (J i y hu))
def xH (I:List (Nat×Nat×String)) (i:Nat):Option (Nat×Nat):=match I[i]? with
 | some (off,J,_)=>(match ae T.l J with | some d=>some (off,d.n) | none=>none)
 | none=>none
theorem pF (P:Program):∀ (fl:List Field),(fl.map fun f=>(f.offset,f.type,f.name)).all (fun x=>(P.info? x.2.1).isSome)=true →
 ∃ pl,fl.mapM (fun f=>(P.info? f.type).map fun i=>(f.offset,i.size))=some pl∧∀ (i:Nat) (f:Field) (inf:TypeInfo),fl[i]? = some f→P.info? f.type=some inf→pl[i]? = some (f.offset,inf.size)
 | [],_=>⟨[],by simp,by simp⟩
 | f::fl,h=>by
   simp only[List.map_cons,List.all_cons,Bool.and_eq_true] at h;obtain⟨inf,J⟩:=Option.isSome_iff_exists.1 h.1;obtain⟨pl,h1,h2⟩:=pF P fl h.2;refine⟨(f.offset,inf.size)::pl,by simp[List.mapM_cons,J,h1],fun i g M N I=>?_⟩
   cases i with
   | zero=>simp at N;subst N;rw[J] at I;simp only[Option.some.injEq] at I;subst I;simp
   | succ i=>simpa using h2 i g M (by simpa using N) I
theorem Pu.build {t:Nat} {parts:Array (Nat×Operand)} (ho:o.op=.build t parts) {d:bH} (X:ae T.l t=some d) {M:List (Nat×Nat×String)} (hk:d.k=.st M) {cells:List A}
 (hf:o9 st.bx st.f (xH T M) parts.toList (d.z.map fun v=>.d (.v v))=some cells) {r:A} (hr:Ab.jx cells=r):Pu P C n st o r:=by
 refine dG.pu fun G tmps w hs=>?_;obtain⟨fl,hu,I,_,_,N⟩:=T.ss X hk;obtain⟨i,z,hi,hz,hn,Z⟩:=Bk (E:=au C G st.gen w) T X;obtain⟨pl,ad,O⟩:=pF P fl.toList (by rw[I];exact N);obtain⟨cs',h1,h2⟩:=wV (tmps:=tmps) hs (xH T M) (pl.toArray[·]?) (fun j x hj=>by
  unfold xH at hj;split at hj
  ·rename_i off ft nm J
   split at hj
   ·rename_i dt ai
    simp only[Option.some.injEq] at hj;subst hj;rw[←I,List.getElem?_map,Option.map_eq_some_iff] at J;obtain⟨fd,aj,he⟩:=J;simp only[Prod.mk.injEq] at he;obtain⟨e1,e2,_⟩:=he;obtain⟨inf,_,U,a1,_⟩:=T.info ai;have:=O j fd inf aj (by rw[e2];exact U);rw[List.getElem?_toArray,this,e1,a1]
   ·cases hj
  ·cases hj) parts.toList _ cells z.cells Z hf
 refine⟨.agg cs',?_,by rw[←hr];exact cv.jx h2⟩;have hb:P.built t (parts.map fun (x:Nat×Operand)=>(x.1,Act.eval ⟨tmps,[]⟩ x.2)).toList=some cs':=by unfold Program.built;rw[hi,hu];simp only[hz,ad];rw[←h1];congr 1;simp
 unfold execOp;rw[ho];show Sem.run P _ w=.ok _ w;simp only[Sem.run_bind,run_build w t _ cs' hb,Result.andThen_ok,Sem.run_pure]
def xG:A→Option (List D)
 | .ag l=>some l
 | .d x=>some [x]
 | .own _ es=>some [.sl es]
 | .agg l=>rW l
 | _=>none
def oH (f:List (Nat×A)):Nat→List (Nat×Operand)→Option (List (List D))
 | _,[]=>some []
 | k,(i,x)::r=>bif Nat.beq i k then (match av f x with
  | some a=>(match xG a,oH f (k+1) r with
    | some e,some es=>some (e::es)
    | _,_=>none)
  | none=>none) else none
theorem xd {E:En} {v:Value} {a:A} {l:List D} (h:xG a=some l) (N:aC E v a):cv E v.cells (l.map .d):=by
 cases N <;> simp only[xG] at h <;> first | (cases h;done) | skip
 case d y hd=>simp only[Option.some.injEq] at h;subst h;exact cv.one hd.one (.d hd)
 case ag vs l' hs hd=>
  simp only[Option.some.injEq] at h;subst h;refine⟨by simp[Value.cells,hs],fun i u hu=>?_,fun i u x hu I=>?_⟩
  ·have hi:i < l'.length:=by rw[←hs];exact(Array.getElem?_eq_some_iff.1 hu).1
   exact(hd i u l'[i] hu (by simp[hi])).one
  ·simp only[List.getElem?_map,Option.map_eq_some_iff] at I
   obtain⟨y,J,rfl⟩:=I;exact .d (hd i u y hu J)
 case own g es _ hd _=>simp only[Option.some.injEq] at h;subst h;exact cv.one hd.one (.d hd)
 case agg vs l' hs hone hd=>obtain⟨h1,h2⟩:=qm h;refine⟨by simp[Value.cells,hs,h1],hone,fun i u x hu I=>?_⟩;simp only[List.getElem?_map,Option.map_eq_some_iff] at I;obtain⟨y,J,rfl⟩:=I;obtain⟨a,O,M⟩:=h2 i y J;exact .d (wY M (hd i u a hu O))
theorem vd (hs:ao C n st G tmps w) (sz:Nat):∀ (parts:List (Nat×Operand)) (k:Nat) (es done:List (List D)) (cs:Array Value) (I:List A),oH st.f k parts=some es→(∀ (e:List D),e∈es→e.length=sz) →
 cv (au C G st.gen w) cs (done.flatten.map A.d++I)→done.flatten.length=k*sz→I.length=es.length*sz →
 ∃ cs',Instr.fill (fun i=>some (i*sz,sz)) cs (parts.map fun (i,x)=>(i,Act.eval ⟨tmps,[]⟩ x))=some cs'∧cv (au C G st.gen w) cs' ((done++es).flatten.map A.d)
 | [],k,es,done,cs,I,h,_,hr,hd,hz=>by simp only[oH,Option.some.injEq] at h;subst h;have:I=[]:=List.eq_nil_of_length_eq_zero (by simpa using hz);subst this;exact⟨cs,rfl,by simpa using hr⟩
 | (i,x)::r,k,es,done,cs,I,h,hl,hr,hd,hz=>by
   simp only[oH] at h;cases J:Nat.beq i k;·simp[J] at h
   ·simp only[J,cond_true] at h
    have J:=Nat.eq_of_beq_eq_true J;subst J;split at h
    ·rename_i a ha
     split at h
     ·rename_i e O he Z
      simp only[Option.some.injEq] at h;subst h;have M:e.length=sz:=hl e List.mem_cons_self;have N:=xd he (hs.av ha);have aj:(Act.eval ⟨tmps,[]⟩ x).cells.size=sz:=by rw[N.1];simpa using M
      have U:I.length=sz+O.length*sz:=by rw[hz,List.length_cons,Nat.succ_mul];omega
      have ad:Ab.setAt (done.flatten.map A.d++I) (i*sz) (e.map A.d)=(done++[e]).flatten.map A.d++I.drop sz:=by
       have e2:(done++[e]).flatten.map A.d=done.flatten.map A.d++e.map A.d:=by simp
       have e1:i*sz=(done.flatten.map A.d).length:=by rw[List.length_map,hd]
       have e3:(e.map A.d).length=sz:=by rw[List.length_map,M]
       unfold Ab.setAt;rw[e2,e3,e1,List.take_left,List.drop_append];simp
      have hle:i*sz+(e.map A.d).length≤(done.flatten.map A.d++I).length:=by rw[List.length_append,List.length_map,List.length_map,hd,M,U];omega
      have X:=cv.setAt (off:=i*sz) hr N hle;rw[ad] at X;obtain⟨cs',h3,h4⟩:=vd hs sz r (i+1) O (done++[e]) _ (I.drop sz) Z (fun e' a1=>hl e' (List.mem_cons_of_mem _ a1)) X (by rw[List.flatten_append,List.length_append,hd];simp[M,Nat.succ_mul]) (by simp[U]);refine⟨cs',?_,by simpa using h4⟩;simp only[List.map_cons,Instr.fill];have ai:i*sz+(Act.eval ⟨tmps,[]⟩ x).cells.size≤cs.size:=by rw[hr.1,N.1];exact hle
      rw[if_neg (by simp[aj];omega)];have ef:=nV (i*sz) (Act.eval ⟨tmps,[]⟩ x).cells.toList 0 cs (by simpa using ai);simp only[Nat.add_zero] at ef;rw[←h3,←ef];congr 1;rw[←Array.foldl_toList];simp[Array.toList_zipIdx]
     ·cases h
    ·cases h
theorem lG {sz:Nat}:∀ {es:List (List D)},(∀ (e:List D),e∈es→e.length=sz)→∀ (i j:Nat) (e:List D) (d:D),es[i]? = some e→e[j]? = some d→es.flatten[i*sz+j]? = some d
 | [],_,i,j,e,d,hi,_=>by simp at hi
 | J::es,hl,i,j,e,d,hi,hj=>by
   have I:=hl J List.mem_cons_self
   cases i with
   | zero=>simp at hi;subst hi;have:j < J.length:=(List.getElem?_eq_some_iff.1 hj).1;rw[List.flatten_cons,Nat.zero_mul,Nat.zero_add,List.getElem?_append_left this];exact hj
   | succ i=>
     have:=lG (fun e he=>hl e (List.mem_cons_of_mem _ he)) i j e d (by simpa using hi) hj;rw[List.flatten_cons,List.getElem?_append_right (by rw[I,Nat.succ_mul];omega)];have M:(i+1)*sz+j - J.length=i*sz+j:=by rw[I,Nat.succ_mul];omega
     rw[M];exact this
theorem lg (hs:ao C n st G tmps w) {t e len:Nat} {parts:Array (Nat×Operand)} {td I:bH} (ht:ae T.l t=some td) (hk:td.k=.slice e) (he:ae T.l e=some I)
 {es:List (List D)} (O:oH st.f 0 parts.toList=some es) (hlen:es.length=len) (hz:0 < I.n) (b3:len*I.n≤16777216) (hl:∀ (x:List D),x∈es→x.length=I.n) (ad:0 < len) :
 ∃ cs',(Instr.buildSlice t len (parts.map fun (x:Nat×Operand)=>(x.1,Act.eval ⟨tmps,[]⟩ x.2))).run P w=.ok (.slice (some ⟨w.heap.size,0,none⟩) len len) (w.alloc (.cells cs' e))∧cs'.size=len*I.n∧eF cs' ∧
   ∀ (k j:Nat) (N:List D) (d:D),es[k]? = some N→N[j]? = some d→∃ u,cs'[k*I.n+j]? = some u∧aI w (aS C G) u d:=by
 have hu:=T.fu ht hk;obtain⟨i,z,hi,M,_,aj,U,a1,a6,_⟩:=T.info he;have ch:z.cells.size=I.n:=by rw[←a1,←U];simp
 have a7:cv (au C G st.gen w) ((Array.range (len*i.size)).map (z.cells[· % z.cells.size]!)) ((List.range (len*I.n)).map fun j=>A.d (.v (z.cells[j % z.cells.size]!))):=by
  have hok:∀ j,cm (z.cells[j % z.cells.size]!)=true:=fun j=>by
   have hj:j % z.cells.size < z.cells.size:=Nat.mod_lt _ (by omega);have:z.cells[j % z.cells.size]!∈I.z:=by rw[←U,getElem!_pos z.cells _ hj];simp
   exact List.all_eq_true.1 a6 _ this
  refine⟨by simp[M],fun k u hu=>?_,fun k u a hu ha=>?_⟩
  ·simp only[Array.getElem?_map,Option.map_eq_some_iff] at hu
   obtain⟨j,_,rfl⟩:=hu;exact kt (hok j)
  ·simp only[Array.getElem?_map,Option.map_eq_some_iff,List.getElem?_map] at hu ha
   obtain⟨j,hj,rfl⟩:=hu;obtain⟨j',a8,rfl⟩:=ha;have:j=j':=by rw[M] at hj;have h1:=(Array.getElem?_eq_some_iff.1 hj);have h2:=(List.getElem?_eq_some_iff.1 a8);obtain⟨_,h1⟩:=h1;obtain⟨_,h2⟩:=h2;simp at h1 h2;omega
   subst this;exact .d (.v _ (hok j))
 obtain⟨cs',hf,X⟩:=vd (tmps:=tmps) hs I.n parts.toList 0 es [] _ _ O hl (by simpa using a7) (by simp) (by simp[hlen]);have J:cv (au C G st.gen w) cs' (es.flatten.map A.d):=by simpa using X
 have b0:es.flatten.length=es.length*I.n:=by
  clear hf X J O hlen
  induction es with
  | nil=>simp
  | cons e es ih=>simp[ih (fun x hx=>hl x (List.mem_cons_of_mem _ hx)),hl e List.mem_cons_self,Nat.succ_mul];omega
 have ai:=run_buildSlice (P:=P) w t e len (parts.map fun (x:Nat×Operand)=>(x.1,Act.eval ⟨tmps,[]⟩ x.2)) cs' i z hu hi aj (by rw[M];simp;omega) (by rw[M];exact Nat.ne_of_gt (Nat.mul_pos ad hz)) (by
  rw[M,←hf];congr 1;·rw[←M]
  ·simp)
 refine⟨cs',ai,by rw[J.1,List.length_map,b0,hlen],J.2.1,fun k j N d hk hj=>?_⟩;have Z:=lG hl k j N d hk hj;have b2:k*I.n+j < cs'.size:=by rw[J.1,List.length_map];exact(List.getElem?_eq_some_iff.1 Z).1
 have hcd:cs'[k*I.n+j]? = some cs'[k*I.n+j]:=by simp[b2]
 have:=J.2.2 _ _ (.d d) hcd (by rw[List.getElem?_map,Z];rfl);generalize cs'[k*I.n+j]=u at this hcd;refine⟨u,hcd,?_⟩;cases this with | d hd=>exact hd
theorem Pu.CM {t e len:Nat} {parts:Array (Nat×Operand)} (ho:o.op=.buildSlice t len parts) {td ed:bH} (ht:ae T.l t=some td) (hk:td.k=.slice e) (he:ae T.l e=some ed)
    {es:List (List D)} (hes:oH st.f 0 parts.toList=some es) (hlen:es.length=len) (hz:Nat.blt 0 ed.n=true) (hsm:Nat.ble (len*ed.n) 16777216=true) (hl:∀ (x:List D),x∈es→x.length=ed.n) (hpos:Nat.blt 0 len=true):Pu P C n st o (.d (.sl es)):=by
  have hz:=Nat.le_of_ble_eq_true hz
  have hsm:=Nat.le_of_ble_eq_true hsm
  have hpos:=Nat.le_of_ble_eq_true hpos
  intro G tmps w hs
  obtain⟨cs',hrun,hcsz,hone,hget⟩:=lg T (tmps:=tmps) hs ht hk he hes hlen hz hsm hl hpos
  have hb:Below w.heap.size w (w.alloc (.cells cs' e)):=(Below.refl _ w).alloc (Nat.le_refl _) _
  obtain⟨hle,hs'⟩:=hs.gp hb
  refine bT (v:=.slice (some ⟨w.heap.size,0,none⟩) len len) (w':=w.alloc (.cells cs' e)) ?_ ⟨hb,.d ?_⟩
  · unfold execOp
    rw[ho]
    show Sem.run P _ w=.ok _ _
    simp only[Sem.run_bind,hrun,Result.andThen_ok,Sem.run_pure]
  · have:=aI.ofRow (w:=w.alloc (.cells cs' e)) (pv:=aS C G) (b:=w.heap.size) (cap:=len) (sz:=ed.n) (es:=es) (heap_alloc_new w _) (by omega) (by simp only[maxLen];have:len≤len*ed.n:=Nat.le_mul_of_pos_right _ hz;omega) hl
      (fun t _ hp=>by have:=qN hs hp;omega) (fun k j e' d hk hj=>by obtain⟨u,h1,h2⟩:=hget k j e' d hk hj;exact⟨u,h1,h2.mono hle.cell⟩)
    rw[hlen] at this
    exact this
end
end Go.Ab
namespace Go.Ab
open Go.RowKit
section
variable {P:Program} (T:bA P) {C:Ctx} {n:Nat} {ops:Array Oper} {Q:Exit→St→Prop} {st:St} {o:Oper} {rest:List Oper}
theorem Pu.indexAddr {t e:Nat} {x O:Operand} (ho:o.op=.indexAddr t x O) {U J:bH} (ht:ae T.l t=some U) (hk:U.k=.slice e) (he:ae T.l e=some J) {a:A} (hx:av st.f x=some a) {es:List (List D)} (X:gm a=some es)
 {k:IntKind} {i:Int} (hi:av st.f O=some (.d (.v (.int k i)))) (h0:0≤i) {l:List D} (hl:es[i.toNat]? = some l) (hlen:l.length=J.n):Pu P C n st o (.rowd l):=by
 refine dG.pu fun G tmps w hs=>?_;have hu:=T.fu ht hk;have M:=fZ X (hs.av hx);have I:=hs.av hi;generalize Z:Act.eval ⟨tmps,[]⟩ O=vi at I;cases I with | d I=>cases I with | v _ _=>
 have N:i.toNat < es.length:=(List.getElem?_eq_some_iff.1 hl).1;generalize ad:Act.eval ⟨tmps,[]⟩ x=vx at M
 cases M with
 | nil=>simp at N
 | emp=>simp at N
 | sl b off len cap sz _ u a8 hc hm ai aj a1=>
 have a6:sz=J.n:=by rw[←ai _ _ hl,hlen]
 subst a6;refine⟨.pointer (some ⟨b,off+i.toNat*J.n,none⟩),?_,.rowd b _ l (u i.toNat) (fun j hj=>aj _ _ (by omega) (by omega)) (fun j d hj=>a1 _ _ _ _ hl hj)⟩;unfold execOp;rw[ho];show Sem.run P _ w=.ok _ w;have a7:0≤i∧i < (len:Int):=⟨h0,by omega⟩;simp only[Z,ad,Instr.indexAt,asIntOf,Sem.run_bind,Sem.run_pure,Result.andThen_ok,run_underlying hu,a7,and_self,if_true,T.sizeOf he];unfold Addr.add;split;·rename_i e;rw[e];rfl
 ·rfl
theorem aV {α:Type} {f:α→List D} {l:List α} {i:Nat} {k:α} (h:l[i]? = some k):(l.map f)[i]? = some (f k):=by rw[List.getElem?_map,h];rfl
theorem Pu.dD {t:Nat} {x:Operand} (N:o.op=.load t x) {I:bH} (O:ae T.l t=some I) (U:I.k.agg=true) {l:List D} (X:av st.f x=some (.rowd l)) (hlen:l.length=I.n):Pu P C n st o (.ag l):=by
 refine dG.pu fun G tmps w hs=>?_;have J:=hs.av X;generalize Z:Act.eval ⟨tmps,[]⟩ x=v at J
 cases J with
 | rowd b off _ u hc hd=>
 obtain⟨v,h1,h2⟩:=kr (E:=au C G st.gen w) T (t:=t) (a:=.ag l) (fun j hj=>(hc j hj).1) hd (by unfold jv;rw[O];simp[U,←hlen]);refine⟨v,?_,h2⟩;rw[jy N,Z];show Sem.run P _ w=.ok _ w;have M:(Instr.loadAt t (.pointer (some ⟨b,off,none⟩))).run P w=.ok v w:=h1;simp only[Sem.run_bind,M,Result.andThen_ok,Sem.run_pure]
theorem Pu.dE {t:Nat} {x:Operand} (O:o.op=.load t x) {J:bH} (U:ae T.l t=some J) (X:J.k.agg=true) {g:Nat} (Z:av st.f x=some (.ptr g 0)) {l:List D} (hb:ae st.bx g=some (l.map A.d)) (hlen:l.length=J.n) :
 Pu P C n st o (.ag l):=by
 refine dG.pu fun G tmps w hs=>?_;obtain⟨b,cs,T',h1,h2,h3,h4,h5⟩:=jI hs hb (hs.av Z);have M:∀ j x,l[j]? = some x→aI w (aS C G) (cs[0+j]?.getD default) x:=fun j x hj=>by
  have I:0+j < cs.size:=by rw[h3,List.length_map];have:=(List.getElem?_eq_some_iff.1 hj).1;omega
  have e:cs[0+j]? = some cs[0+j]:=by simp[I]
  have:=h5 (0+j) cs[0+j] (.d x) e (by rw[List.getElem?_map,Nat.zero_add,hj];rfl);rw[e];generalize cs[0+j]=u at this ⊢;cases this with | d hd=>exact hd
 obtain⟨v,h6,h7⟩:=kr (E:=au C G st.gen w) T (t:=t) (a:=.ag l) (b:=b) (off:=0) (u:=fun j=>cs[0+j]?.getD default) (fun j hj=>by
  have I:0+j < cs.size:=by rw[h3,List.length_map];omega
  have e:cs[0+j]? = some cs[0+j]:=by simp[I]
  show cellAt w b (0+j)=_;rw[bC h2,e];rfl) M (by unfold jv;rw[U];simp[X,←hlen])
 refine⟨v,?_,h7⟩;rw[jy O,h1];show Sem.run P _ w=.ok _ w;have N:(Instr.loadAt t (.pointer (some ⟨b,0,none⟩))).run P w=.ok v w:=h6;simp only[Sem.run_bind,N,Result.andThen_ok,Sem.run_pure]
theorem Pu.dM {t:Nat} {x M:Operand} (X:o.op=.index t x M) {N:bH} (Z:ae T.l t=some N) (hk:N.k=.str) {s:ByteArray} (hx:av st.f x=some (.d (.v (.string s)))) {k:IntKind} {i:Int} (hi:av st.f M=some (.d (.v (.int k i))))
 (h0:0≤i) {b:UInt8} (hb:s[i.toNat]? = some b):Pu P C n st o (.d (.v (.int .u8 b.toNat))):=by
 refine dG.pu fun G tmps w hs=>?_;have hu:=T.gQ Z hk;have I:=hs.av hi;have J:=hs.av hx;generalize O:Act.eval ⟨tmps,[]⟩ M=vi at I;generalize U:Act.eval ⟨tmps,[]⟩ x=vx at J;cases I with | d I=>cases I with | v _ _=>
 cases J with | d J=>cases J with | v _ _=>
 refine⟨_,?_,.d (.v _ ?_)⟩
 ·unfold execOp
  rw[X];show Sem.run P _ w=.ok _ w;simp only[O,U,Instr.index,asIntOf,Sem.run_bind,Sem.run_pure,Result.andThen_ok,run_underlying hu,h0,if_true,hb]
 ·have:=b.toNat_lt
  simp[cm,IntKind.min,IntKind.max,IntKind.signed,IntKind.bits];omega
theorem Pu.BH {t:Nat} {x:Operand} {lo hi:Option Operand} (ho:o.op=.slice t x lo hi none) {X:bH} (ht:ae T.l t=some X) (M:X.k=.str) {s:ByteArray} (hx:av st.f x=some (.d (.v (.string s)))) {l h:Int}
 (I:match lo with | none=>l=0 | some p=>∃ k,av st.f p=some (.d (.v (.int k l)))) (J:match hi with | none=>h=s.size | some p=>∃ k,av st.f p=some (.d (.v (.int k h))))
 (h0:0≤l) (h1:l≤h) (h2:h≤s.size):Pu P C n st o (.d (.v (.string (s.extract l.toNat h.toNat)))):=by
 refine dG.pu fun G tmps w hs=>?_;have hu:=T.gQ ht M;have N:=hs.av hx;generalize O:Act.eval ⟨tmps,[]⟩ x=vx at N;cases N with | d N=>cases N with | v _ hok=>
 have U:∀ (p:Operand) (m:Int),(∃ k,av st.f p=some (.d (.v (.int k m))))→∃ k,Act.eval ⟨tmps,[]⟩ p=.int k m:=by intro p m ⟨k,hp⟩;have:=hs.av hp;generalize Act.eval ⟨tmps,[]⟩ p=v at this ⊢;cases this with | d hd=>cases hd;exact⟨k,rfl⟩
 refine⟨.string (s.extract l.toNat h.toNat),?_,.d (.v _ ?_)⟩
 ·unfold execOp
  rw[ho];show Sem.run P _ w=.ok _ w;cases lo <;> cases hi <;> simp only at I J
  ·subst I;subst J
   simp[O,Instr.sliceAt,Instr.slice,Instr.sliceBounds,run_underlying hu]
  ·subst I
   obtain⟨k,M⟩:=U _ _ J;simp[O,M,Instr.sliceAt,Instr.slice,Instr.sliceBounds,Instr.sliceBound,asIntOf,run_underlying hu,h1,h2]
  ·subst J
   obtain⟨k,M⟩:=U _ _ I;simp[O,M,Instr.sliceAt,Instr.slice,Instr.sliceBounds,Instr.sliceBound,asIntOf,run_underlying hu,h0,h1]
  ·obtain⟨k,M⟩:=U _ _ I
   obtain⟨k',Z⟩:=U _ _ J;have e:l≤((h.toNat:Nat):Int):=by omega
   have e2:0≤h:=by omega
   simp[O,M,Z,Instr.sliceAt,Instr.slice,Instr.sliceBounds,Instr.sliceBound,asIntOf,run_underlying hu,h0,h1,h2,e,e2];intro ad;exfalso;omega
 ·simp only[cm,decide_eq_true_eq] at hok ⊢
  simp only[ByteArray.size_extract];omega
theorem aI.part {w:World} {pv:Nat→Nat→Prop} {v:Value} {es:List (List D)} (h:aI w pv v (.sl es)) {l m:Nat} (h1:l≤m) (h2:m≤es.length) {e:Nat} {P:Program} {t:Nat} (hu:P.underlying t=some (.slice e)) {sz:Nat}
 (ai:(sizeOf e).run P w=.ok sz w) (hl:∀ (x:List D),x∈es→x.length=sz):∃ a cap,v=.slice a es.length cap∧es.length≤cap ∧
  aI w pv (.slice (if cap=l then a else a.map (·.add (l*sz))) (m - l) (cap - l)) (.sl ((es.take m).drop l)):=by
 cases h with
 | nil=>
   have:l=0:=by simp at h2;omega
   subst this;have:m=0:=by simpa using h2
   subst this;exact⟨none,0,rfl,Nat.le_refl _,by simpa using aI.nil⟩
 | emp a cap hm=>
   have:m=0:=by simpa using h2
   subst this;have:l=0:=by omega
   subst this;refine⟨some a,cap,rfl,Nat.zero_le _,?_⟩;have M:(if cap=0 then some a else (some a).map (·.add (0*sz)))=some a:=by
    split;·rfl
    ·simp[Addr.add]
   rw[M];exact .emp a cap hm
 | sl b off len cap I _ u hlen hc hm hs Z hr=>
   subst hlen;refine⟨some ⟨b,off,none⟩,cap,rfl,hc,?_⟩;have U:((es.take m).drop l).length=m - l:=by simp;omega
   by_cases hz:es=[]
   ·subst hz
    have:m=0:=by simpa using h2
    subst this;have:l=0:=by omega
    subst this;have M:(if cap=0 then some (⟨b,off,none⟩:Addr) else (some (⟨b,off,none⟩:Addr)).map (·.add (0*sz)))=some ⟨b,off,none⟩:=by
     split;·rfl
     ·simp[Addr.add]
    rw[M];exact .sl b off 0 cap 0 [] (fun _ _=>default) rfl (Nat.zero_le _) hm (by simp) (by simp) (by simp)
   ·obtain⟨x0,X⟩:∃ x0,es[0]? = some x0:=⟨es[0]'(by cases es;exact absurd rfl hz;simp),by simp⟩
    have ad:I=sz:=by rw[←hs 0 x0 X];exact hl x0 (List.mem_of_getElem? X)
    subst ad;have M:∃ J,(if cap=l then some (⟨b,off,none⟩:Addr) else (some (⟨b,off,none⟩:Addr)).map (·.add (l*I)))=some ⟨b,J,none⟩∧(m - l≠0→J=off+l*I):=by
     split;·rename_i e;exact⟨off,rfl,fun h=>by omega⟩
     ·refine⟨off+l*I,?_,fun _=>rfl⟩
      simp only[Option.map_some,Addr.add];split;·rename_i e;rw[e];simp
      ·rfl
    obtain⟨J,M,e2⟩:=M;rw[M];have O:∀ i x,((es.take m).drop l)[i]? = some x→es[l+i]? = some x:=by
     intro i x N;rw[List.getElem?_drop,List.getElem?_take] at N;split at N;·exact N
     ·cases N
    refine .sl b J (m - l) (cap - l) I _ (fun i j=>u (l+i) j) U (by omega) (by omega) (fun i x N=>hs _ _ (O i x N)) (fun i j hi hj=>?_) (fun i j x d hi hj=>hr _ _ _ _ (O i x hi) hj);have:=Z (l+i) j (by omega) hj;rw[e2 (by omega)];have e3:off+l*I+i*I+j=off+(l+i)*I+j:=by rw[Nat.add_mul];omega
    rw[e3];exact this
end
end Go.Ab
namespace Go.Ab
open Go.RowKit
def fX:Nat→List A→List (Nat×A)
 | _,[]=>[]
 | k,a::l=>(k,a)::fX (k+1) l
def si (f:List (Nat×A)):List Nat→Option (List A)
 | []=>some []
 | t::r=>match look f t,si f r with
   | some a,some l=>some (a::l)
   | _,_=>none
def aT:List A→A
 | [a]=>a
 | l=>.tup l
def j9:List Value→Value
 | [v]=>v
 | l=>.tuple l.toArray
def QF (ts:List Nat) (r:A) (k:Nat):Exit→St→Prop:=fun e st=>(match e with | .normal=>True | .ret=>True | _=>False)∧∃ l order,si st.f ts=some l∧norm order (aT l)=r∧order.length=k∧order.Nodup∧∀ g∈order,g∈st.lv
theorem fA:∀ (l:List A) (k t:Nat) (a:A),look (fX k l) t=some a→k≤t∧l[t - k]? = some a
 | [],_,_,_,h=>by simp[fX,look] at h
 | b::l,k,t,a,h=>by
   simp only[fX,aN] at h;split at h
   ·rename_i e
    subst e;simp only[Option.some.injEq] at h;subst h;exact⟨Nat.le_refl _,by simp⟩
   ·rename_i e
    obtain⟨h1,h2⟩:=fA l (k+1) t a h;refine⟨by omega,?_⟩;have:t - k=(t - (k+1))+1:=by omega
    rw[this];simpa using h2
theorem vj {f:List (Nat×A)}:∀ {ts:List Nat} {l:List A},si f ts=some l→l.length=ts.length∧∀ (i:Nat) (t:Nat),ts[i]? = some t→∃ a,l[i]? = some a∧look f t=some a
 | [],l,h=>by simp only[si,Option.some.injEq] at h;subst h;simp
 | t::ts,l,h=>by
   simp only[si] at h;split at h
   ·rename_i a l' I hl
    simp only[Option.some.injEq] at h;subst h;obtain⟨h1,h2⟩:=vj hl;refine⟨by simp[h1],fun i t' hi=>?_⟩
    cases i with
    | zero=>simp at hi;subst hi;exact⟨a,by simp,I⟩
    | succ i=>simpa using h2 i t' (by simpa using hi)
   ·cases h
theorem wk {P:Program} {fn:Func} {ts:List Nat} (h:fn.results=(ts.map ResultVar.tmp).toArray) (hl:ts.length≤5) (tmps:Array Value) (w:World) :
 (results fn tmps).run P w=.ok (j9 (ts.map fun t=>tmps.getD t undef)) w:=by
 unfold results;rw[h]
 match ts,hl with
 | [],_=>simp[j9]
 | [a],_=>simp[j9]
 | [a,b],_=>simp[j9]
 | [a,b,c],_=>simp[j9]
 | [a,b,c,d],_=>simp[j9]
 | [a,b,c,d,e],_=>simp[j9]
 | _::_::_::_::_::_::_,h=>simp at h
theorem kD {E:En} {vs:List Value} {l:List A} (hs:vs.length=l.length) (h:∀ (i:Nat) (u:Value) (a:A),vs[i]? = some u→l[i]? = some a→aC E u a):aC E (j9 vs) (aT l):=by
 match vs,l,hs with
 | [v],[a],_=>exact h 0 v a (by simp) (by simp)
 | [],[],_=>exact .tup #[] [] rfl (by simp)
 | v::v2::vs,a::a2::l,hs=>refine .tup _ _ (by simpa using hs) (fun i u x hu I=>h i u x ?_ I);simpa using hu
theorem az.bl {P:Program} [cc P] {f:FuncId} {fn:Func} {c:Code} {ts:List Nat} {n:Nat} {args:List A} {r:A} {k:Nat} (hf:P.funcs[f]? = some fn) (b2:(fn.name == "runtime.NumGoroutine")=false) (hb:fn.body=some c) (hn:fn.ntmps=n)
 (J:fn.results=(ts.map ResultVar.tmp).toArray) (c6:Nat.ble ts.length 5=true) (hlen:Nat.ble args.length n=true) (h:∀ C,NB C 0→GC P C→W P C n c (QF ts r k) ⟨fX 0 args,[],[],0⟩):az P f args r k:=by
 have hlen:=Nat.le_of_ble_eq_true hlen;refine⟨⟨fn,hf,b2,by rw[hb];rfl⟩,fun C O w hG hw hp hx e3 cq=>?_⟩;subst hw;refine calls_of_wp hf hb (wp_mono (pk hp.2.2.2 (h C ⟨by rw[hp.2.2.1];rfl⟩ hG (O++Array.replicate (fn.ntmps - O.size) undef) C.w0 ⟨G0,?_⟩)) ?_)
 ·refine { size:=by simp[hn];omega,frame:=fun t a ha=>?_,box:=fun g cells hc=>by simp[ae] at hc,gbox:=fun g b hb=>by simp[G0] at hb,inj:=fun g M b hb=>by simp[G0] at hb,
           live:=fun g hg=>by simp at hg,gown:=fun g r J=>by simp[G0] at J,row:=fun g b len cap sz ad J=>by simp[G0] at J,mrow:=fun g b bs J=>by simp[G0] at J,sub:=fun g b bs c lim J=>by simp[G0] at J,gcell:=fun g b hb=>by simp[G0] at hb,xold:=fun b o hb=>⟨hx b o hb,hp.1 b⟩,kold:=fun b o hb=>absurd hb (hp.2.1 b o),lent:=fun i b hb=>by rw[hp.2.2.1] at hb;simp at hb,
           fr:=⟨rfl,rfl,rfl,Nat.le_refl _,fun _ _ _=>rfl,fun _ _ _ hb=>absurd hb (hp.2.1 _ _),dc.refl _⟩ }
  obtain⟨_,h1⟩:=fA args 0 t a ha;have h2:t < args.length:=(List.getElem?_eq_some_iff.1 (by simpa using h1)).1;have h3:t < O.size:=by omega
  have h4:O[t]? = some O[t]:=by simp[h3]
  exact⟨O[t],by rw[Array.getElem?_append_left h3];exact h4,cq t _ a h4 (by simpa using h1)⟩
 ·rintro e ⟨tmps,df⟩ w' ⟨hd,st,⟨G,hs⟩,he,l,order,hl,c7,b3,a7,di⟩
  have a6:∃ v,(results fn tmps).run P w'=.ok v w'∧∃ ch G',Ending.returned v=.returned ch∧ao C 0 ⟨[],[],List.range k,k⟩ G' #[] w'∧aC (au C G' k w') ch r:=by
   refine⟨_,wk J (Nat.le_of_ble_eq_true c6) tmps w',_,⟨fun _=>none,fun i=>if i < k then (order[i]?).bind G.own else none⟩,rfl,?_,?_⟩
   ·refine { size:=rfl,frame:=fun t a ha=>by simp[look] at ha,box:=fun g cells hc=>by simp[ae] at hc,gbox:=fun g b hb=>by simp at hb,inj:=fun g M b hb=>by simp at hb,
             live:=fun g hg=>?_,gown:=fun g r J=>?_,row:=fun g b len cap sz ad J=>?_,mrow:=fun g b bs J=>?_,sub:=fun g b bs c lim J hm=>?_,gcell:=fun g b hb=>(by cases hb),xold:=hs.xold,kold:=hs.kold,lent:=fun i b hb=>by rw[hp.2.2.1] at hb;simp at hb,fr:=hs.fr }
    ·have dj:g < k:=by simpa using hg
     have cj:g < order.length:=by omega
     obtain⟨r',I⟩:=hs.live order[g] (di _ (List.getElem_mem cj));exact⟨r',by simp[dj,cj,I]⟩
    ·dsimp only at J
     split at J;·assumption
     ·cases J
    ·dsimp only at J
     split at J
     ·rename_i cl
      obtain⟨g0,ai,N⟩:=Option.bind_eq_some_iff.1 J;obtain⟨h1,h2,h3,h4⟩:=hs.row g0 b len cap sz ad N;refine⟨h1,fun M=>by simp,fun M cx cy dt c1 I=>?_,h4⟩;dsimp only at I;split at I
      ·obtain⟨g1,Z,X⟩:=Option.bind_eq_some_iff.1 I
       have e:=h3 g1 cx cy dt c1 X;subst e;obtain⟨i1,e1⟩:=List.getElem?_eq_some_iff.1 ai;obtain⟨i2,e2⟩:=List.getElem?_eq_some_iff.1 Z;have U:=List.pairwise_iff_getElem.1 a7;rcases Nat.lt_trichotomy M g with aj | heq | a1
       ·exact absurd (e2.trans e1.symm) (U M g i2 i1 aj)
       ·exact heq
       ·exact absurd (e1.trans e2.symm) (U g M i1 i2 a1)
      ·cases I
     ·cases J
    ·dsimp only at J
     split at J
     ·rename_i cl
      obtain⟨g0,ai,N⟩:=Option.bind_eq_some_iff.1 J;obtain⟨h1,_,h3,h4⟩:=hs.mrow g0 b bs N;refine⟨h1,fun M=>by simp,fun M bs' I=>?_,h4⟩;dsimp only at I;split at I
      ·obtain⟨g1,Z,X⟩:=Option.bind_eq_some_iff.1 I
       have e:=h3 g1 bs' X;subst e;obtain⟨i1,e1⟩:=List.getElem?_eq_some_iff.1 ai;obtain⟨i2,e2⟩:=List.getElem?_eq_some_iff.1 Z;have U:=List.pairwise_iff_getElem.1 a7;rcases Nat.lt_trichotomy M g with aj | heq | a1
       ·exact absurd (e2.trans e1.symm) (U M g i2 i1 aj)
       ·exact heq
       ·exact absurd (e1.trans e2.symm) (U g M i1 i2 a1)
      ·cases I
     ·cases J
    ·dsimp only at J
     split at J
     ·rename_i cl
      obtain⟨g0,ai,N⟩:=Option.bind_eq_some_iff.1 J;obtain⟨h1,_,h3,h4,h5⟩:=hs.sub g0 b bs c lim N hm;refine⟨h1,fun M=>by simp,fun M len cap sz ad I=>?_,fun M b' bs' en I dx=>?_,h5⟩
      ·dsimp only at I
       split at I
       ·obtain⟨g1,Z,X⟩:=Option.bind_eq_some_iff.1 I
        exact h3 g1 _ _ _ _ X
       ·cases I
      ·dsimp only at I
       split at I
       ·obtain⟨g1,Z,X⟩:=Option.bind_eq_some_iff.1 I
        obtain⟨e,e0⟩:=h4 g1 _ _ _ X dx;subst e;refine⟨?_,e0⟩;obtain⟨i1,e1⟩:=List.getElem?_eq_some_iff.1 ai;obtain⟨i2,e2⟩:=List.getElem?_eq_some_iff.1 Z;have U:=List.pairwise_iff_getElem.1 a7;rcases Nat.lt_trichotomy M g with aj | heq | a1
        ·exact absurd (e2.trans e1.symm) (U M g i2 i1 aj)
        ·exact heq
        ·exact absurd (e1.trans e2.symm) (U g M i1 i2 a1)
       ·cases I
     ·cases J
   ·obtain⟨ed,ei⟩:=vj hl
    rw[←c7];refine aC.norm (order:=order) (E:=au C G st.gen w') (E2:=au C ⟨fun _=>none,fun i=>if i < k then (order[i]?).bind G.own else none⟩ k w') (fun b o u hu hn=>⟨hu,fun hp=>hn ?_⟩) (fun g r' hg I=>?_) (by simp[au,b3]) (kD (vs:=ts.map fun t=>tmps.getD t undef) (by rw[List.length_map,ed]) (fun i u a hu ha=>?_))
    ·rcases(hp:aS C ⟨fun _=>none,fun i=>if i < k then (order[i]?).bind G.own else none⟩ b o) with hp | ⟨g,hp⟩ | ⟨g,len,cap,sz,ad,hp,hle⟩ | ⟨g,b',bs,lim,hp,hm,hle⟩
     ·exact Or.inl hp
     ·cases hp
     ·simp only at hp
      split at hp
      ·obtain⟨g0,_,N⟩:=Option.bind_eq_some_iff.1 hp
       exact Or.inr (Or.inr (.inl ⟨g0,len,cap,sz,ad,N,hle⟩))
      ·cases hp
     ·simp only at hp
      split at hp
      ·obtain⟨g0,_,N⟩:=Option.bind_eq_some_iff.1 hp
       exact Or.inr (Or.inr (.inr ⟨g0,b',bs,lim,N,hm,hle⟩))
      ·cases hp
    ·have a8:(if order.idxOf g < k then (order[order.idxOf g]?).bind G.own else none)=some r':=I
     rw[if_pos (by rw[←b3];exact gJ hg)] at a8;have:order[order.idxOf g]? = some g:=by rw[List.getElem?_eq_some_iff];exact⟨gJ hg,List.getElem_idxOf (gJ hg)⟩
     rw[this] at a8;exact a8
    ·simp only[List.getElem?_map,Option.map_eq_some_iff] at hu
     obtain⟨t,ht,rfl⟩:=hu;obtain⟨a',b0,ej⟩:=ei i t ht;rw[ha] at b0;simp only[Option.some.injEq] at b0;subst b0;obtain⟨v,hv,I⟩:=hs.frame t a ej;simpa [hv] using I
  cases e with
  | normal=>exact⟨hd.trans hp.2.2.2,a6⟩
  | ret=>exact⟨hd.trans hp.2.2.2,a6⟩
  | exit _=>exact he.elim
  | goto _=>exact he.elim
  | panic _=>exact he.elim
  | outgrown=>exact he.elim
theorem QF.aB {ts:List Nat} {r:A} {e:Exit} {st:St} {l:List A} (he:match e with | .normal=>True | .ret=>True | _=>False) (hl:si st.f ts=some l) (I:norm [] (aT l)=r):QF ts r 0 e st:=
 ⟨he,l,[],hl,I,rfl,List.nodup_nil,by simp⟩
end Go.Ab
namespace Go.Ab
open Go.RowKit
section
variable {P:Program} (T:bA P) {C:Ctx} {n:Nat} {ops:Array Oper} {Q:Exit→St→Prop} {rest:List Oper}
variable {f:List (Nat×A)} {bx:List (Nat×List A)} {lv:List Nat} {gen:Nat} {d:Nat} {op:Op} {ty:TypeId} {pos:String} {af:Array Edge} {a:A} {dst:Option Nat}
theorem ev (h:iv T f bx op=some a):Pu P C n ⟨f,bx,lv,gen⟩ ⟨dst,op,ty,pos,af,none⟩ a:=Pu.ev (st:=⟨f,bx,lv,gen⟩) T h
theorem pu (hp:Pu P C n ⟨f,bx,lv,gen⟩ ⟨some d,op,ty,pos,af,none⟩ a) (hd:Nat.blt d n=true) (h:WO P C n ops Q rest ⟨(d,a)::f,bx,lv,gen⟩):WO P C n ops Q (⟨some d,op,ty,pos,af,none⟩::rest) ⟨f,bx,lv,gen⟩:=
 WO.pu rfl hd hp h
theorem aG {j e:Nat} {want:Bool} (hj:eK ops j=some e) (hl:look f e=some (.d (.v (.bool want)))) (h:WO P C n ops Q (⟨dst,op,ty,pos,af,none⟩::rest) ⟨f,bx,lv,gen⟩):WO P C n ops Q (⟨dst,op,ty,pos,af,some (j,want)⟩::rest) ⟨f,bx,lv,gen⟩:=
 WO.go (st:=⟨f,bx,lv,gen⟩) rfl hj hl h
theorem kC {j e:Nat} {want b:Bool} (hj:eK ops j=some e) (hl:look f e=some (.d (.v (.bool b)))) (I:b=true→WO P C n ops Q (⟨dst,op,ty,pos,af,some (j,want)⟩::rest) ⟨(e,.d (.v (.bool true)))::f,bx,lv,gen⟩)
 (J:b=false→WO P C n ops Q (⟨dst,op,ty,pos,af,some (j,want)⟩::rest) ⟨(e,.d (.v (.bool false)))::f,bx,lv,gen⟩):WO P C n ops Q (⟨dst,op,ty,pos,af,some (j,want)⟩::rest) ⟨f,bx,lv,gen⟩:=
 WO.split (st:=⟨f,bx,lv,gen⟩) hl I J
theorem cw {e:TypeId} {x:Operand} {l:List A} (I:av f x=some a) (J:cellsOf bx a=some l) (hd:Nat.blt d n=true) (h:WO P C n ops Q rest ⟨(d,.ptr gen 0)::f,(gen,l)::bx,lv,gen+1⟩) :
 WO P C n ops Q (⟨some d,.box e x,ty,pos,af,none⟩::rest) ⟨f,bx,lv,gen⟩:=WO.box (st:=⟨f,bx,lv,gen⟩) rfl hd rfl I J h
theorem aL {e:TypeId} {I:bH} {l:List A} (he:ae T.l e=some I) (hl:(I.z.map fun v=>A.d (.v v))=l) (hd:Nat.blt d n=true) (h:WO P C n ops Q rest ⟨(d,.ptr gen 0)::f,(gen,l)::bx,lv,gen+1⟩) :
 WO P C n ops Q (⟨some d,.alloc e,ty,pos,af,none⟩::rest) ⟨f,bx,lv,gen⟩:=by
 subst hl;exact WO.alloc (st:=⟨f,bx,lv,gen⟩) T rfl hd rfl he h
theorem ax {t:TypeId} {x y:Operand} {g off:Nat} {cells cs cells':List A} (J:av f x=some (.ptr g off)) (hb:ae bx g=some cells) (M:av f y=some a) (N:cellsOf bx a=some cs) (I:c8 T t=cs.length) (O:Nat.blt 0 cs.length=true)
 (hle:Nat.ble (off+cs.length) cells.length=true) (hs:setAt cells off cs=cells') (h:WO P C n ops Q rest ⟨f,(g,cells')::bx,lv,gen⟩):WO P C n ops Q (⟨none,.store t x y,ty,pos,af,none⟩::rest) ⟨f,bx,lv,gen⟩:=by
 subst hs;exact WO.store (st:=⟨f,bx,lv,gen⟩) T rfl rfl rfl J hb M N I (by have:=Nat.le_of_ble_eq_true O;omega) hle h
theorem ay [cc P] [GC P C] {x:Operand} {xs:Array Operand} {M:Array TypeId} {fid:FuncId} {caps I args:List A} (O:av f x=some (.clo fid caps)) (N:iV f xs.toList=some I) (J:(I++caps).map (conv bx 5)=args) (U:az P fid args a 0) (X:db a=true) :
 Pu P C n ⟨f,bx,lv,gen⟩ ⟨dst,.call ⟨.value x,xs,M⟩,ty,pos,af,none⟩ a:=by
 subst J;exact Pu.call (st:=⟨f,bx,lv,gen⟩) rfl O N U X
theorem sx {x y:Operand} {t e:Nat} {J I:bH} {g:Nat} {es es2:List (List D)} {b:A} (U:av f x=some (.own g es)) (X:av f y=some b) (M:gm b=some es2) (Z:ae T.l t=some J) (hk:J.k=.slice e) (he:ae T.l e=some I) (N:g∈lv)
 (hz:Nat.blt 0 I.n=true) (O:Nat.blt 0 I.b=true) (hd:Nat.blt d n=true) (hl:∀ (x:List D),x∈es++es2→x.length=I.n) (hb:(es.length+es2.length)*I.b≤140737488355328)
 (h:WO P C n ops Q rest ⟨(d,.own gen (es++es2))::f,bx,gen::bk lv g,gen+1⟩):WO P C n ops Q (⟨some d,.call ⟨.builtin .append,#[x,y],#[t,t]⟩,ty,pos,af,none⟩::rest) ⟨f,bx,lv,gen⟩:=
 WO.append (st:=⟨f,bx,lv,gen⟩) T rfl hd rfl Z hk he U N X M hz O hl hb h
theorem xK {x y:Operand} {t e:Nat} {J I:bH} {es2:List (List D)} {b:A} (O:av f x=some (.d (.v (.slice none 0 0)))) (U:av f y=some b) (M:gm b=some es2) (X:ae T.l t=some J) (Z:J.k=.slice e) (he:ae T.l e=some I)
 (hz:Nat.blt 0 I.n=true) (N:Nat.blt 0 I.b=true) (hd:Nat.blt d n=true) (hl:∀ (x:List D),x∈es2→x.length=I.n) (hb:es2.length*I.b≤140737488355328)
 (h:WO P C n ops Q rest ⟨(d,.own gen es2)::f,bx,gen::lv,gen+1⟩):WO P C n ops Q (⟨some d,.call ⟨.builtin .append,#[x,y],#[t,t]⟩,ty,pos,af,none⟩::rest) ⟨f,bx,lv,gen⟩:=
 WO.zS (st:=⟨f,bx,lv,gen⟩) T rfl hd rfl X Z he O U M hz N hl hb h
theorem build {t:Nat} {parts:Array (Nat×Operand)} {I:bH} {J:List (Nat×Nat×String)} {cells:List A} (M:ae T.l t=some I) (N:I.k=.st J) (O:o9 bx f (xH T J) parts.toList (I.z.map fun v=>.d (.v v))=some cells) (U:jx cells=a) :
 Pu P C n ⟨f,bx,lv,gen⟩ ⟨dst,.build t parts,ty,pos,af,none⟩ a:=Pu.build (st:=⟨f,bx,lv,gen⟩) T rfl M N O U
theorem dD {t:Nat} {x:Operand} {I:bH} {l:List D} (J:ae T.l t=some I) (M:I.k.agg=true) (N:av f x=some (.rowd l)) (hlen:l.length=I.n):Pu P C n ⟨f,bx,lv,gen⟩ ⟨dst,.load t x,ty,pos,af,none⟩ (.ag l):=
 Pu.dD (st:=⟨f,bx,lv,gen⟩) T rfl J M N hlen
theorem dE {t:Nat} {x:Operand} {I:bH} {g:Nat} {l:List D} (J:ae T.l t=some I) (M:I.k.agg=true) (N:av f x=some (.ptr g 0)) (hb:ae bx g=some (l.map A.d)) (hlen:l.length=I.n):Pu P C n ⟨f,bx,lv,gen⟩ ⟨dst,.load t x,ty,pos,af,none⟩ (.ag l):=
 Pu.dE (st:=⟨f,bx,lv,gen⟩) T rfl J M N hb hlen
theorem indexAddr {t e:Nat} {x I:Operand} {J M:bH} {es:List (List D)} {k:IntKind} {i:Int} {l:List D} (O:av f x=some a) (N:gm a=some es) (hi:av f I=some (.d (.v (.int k i)))) (U:ae T.l t=some J) (X:J.k=.slice e) (he:ae T.l e=some M)
 (h0:0≤i) (hl:es[i.toNat]? = some l) (hlen:l.length=M.n):Pu P C n ⟨f,bx,lv,gen⟩ ⟨dst,.indexAddr t x I,ty,pos,af,none⟩ (.rowd l):=
 Pu.indexAddr (st:=⟨f,bx,lv,gen⟩) T rfl U X he O N hi h0 hl hlen
theorem dM {t:Nat} {x I:Operand} {J:bH} {s:ByteArray} {k:IntKind} {i:Int} {b:UInt8} (M:av f x=some (.d (.v (.string s)))) (hi:av f I=some (.d (.v (.int k i)))) (N:ae T.l t=some J) (O:J.k=.str) (h0:0≤i) (hb:s[i.toNat]? = some b) :
 Pu P C n ⟨f,bx,lv,gen⟩ ⟨dst,.index t x I,ty,pos,af,none⟩ (.d (.v (.int .u8 b.toNat))):=Pu.dM (st:=⟨f,bx,lv,gen⟩) T rfl N O M hi h0 hb
theorem qs {y:Code} {st:St} (h:W P C n y Q st):QS P C n y Q .normal st:=h
theorem aA {y:Code} {st:St} (h:Q .ret st):QS P C n y Q .ret st:=h
theorem bb {y:Code} {id:Nat} {st:St} (h:Q (.exit id) st):QS P C n y Q (.exit id) st:=h
theorem bz {id:Nat} {st:St} (h:Q .normal st):QB id Q .normal st:=h
theorem aJ {id:Nat} {st:St} (h:Q .ret st):QB id Q .ret st:=h
theorem ba {id:Nat} {st:St} (h:Q .normal st):QB id Q (.exit id) st:=by simp[QB];exact h
theorem wW {id i:Nat} {st:St} (I:Nat.beq i id=false) (h:Q (.exit i) st):QB id Q (.exit i) st:=by simp only[QB];rw[if_neg (fun e=>by subst e;simp at I)];exact h
theorem dV {I:Nat→St→Prop} {m:Nat} {st:St} (h:Q .ret st):QL I m Q .ret st:=h
theorem be {I:Nat→St→Prop} {m i:Nat} {st:St} (h:Q (.exit i) st):QL I m Q (.exit i) st:=h
end
end Go.Ab
namespace Go.Ab
open Go.RowKit
def Sub (f:List (Nat×A)):List (Nat×A)→Prop
 | []=>True
 | (t,a)::r=>look f t=some a∧Sub f r
theorem Sub.le {f:List (Nat×A)}:∀ {f':List (Nat×A)},Sub f f'→∀ t a,look f' t=some a→look f t=some a
 | [],_,t,a,h=>by simp[look] at h
 | (s,b)::r,hs,t,a,h=>by
   rw[aN] at h;split at h
   ·rename_i e
    subst e;simp only[Option.some.injEq] at h;subst h;exact hs.1
   ·exact Sub.le hs.2 t a h
def lS (bx:List (Nat×List A)):List (Nat×List A)→Prop
 | []=>True
 | (t,a)::r=>ae bx t=some a∧lS bx r
theorem lS.le {f:List (Nat×List A)}:∀ {f':List (Nat×List A)},lS f f'→∀ t a,ae f' t=some a→ae f t=some a
 | [],_,t,a,h=>by simp[ae] at h
 | (s,b)::r,hs,t,a,h=>by
   rw[bN] at h;split at h
   ·rename_i e
    subst e;simp only[Option.some.injEq] at h;subst h;exact hs.1
   ·exact lS.le hs.2 t a h
section
variable {P:Program} {C:Ctx} {n:Nat} {Q:Exit→St→Prop} {c:Code}
variable {f f':List (Nat×A)} {bx bx':List (Nat×List A)} {lv lv':List Nat} {gen gen':Nat}
theorem ao.later {st:St} {G:Gh} {tmps:Array Value} {w:World} (h:ao C n st G tmps w) {g:Nat} (J:st.gen≤g):ao C n { st with gen:=g } G tmps w:=by
 have hle:(au C G st.gen w).le (au C G g w):=⟨fun _ _ _ h M=>⟨h,M⟩,fun _ _ _ h M=>⟨h,M⟩,fun _ _ h=>h,fun _ _ _ h=>h,J,fun _ _ _ _ _ _ _ _=>rfl,fun _ _ _ _ _=>⟨rfl,fun _ _=>rfl⟩,.refl w⟩;refine { h with frame:=h.du hle,box:=fun I c N=>?_,gbox:=fun I b hb=>?_,gown:=fun I r O=>Nat.lt_of_lt_of_le (h.gown I r O) J }
 ·obtain⟨b,cs,T,h1,h2,h3,h4,h5⟩:=h.box I c N
  exact⟨b,cs,T,h1,h2,h3,h4,fun i u a hu U=>(h5 i u a hu U).mono hle⟩
 ·obtain⟨h1,h2⟩:=h.gbox I b hb
  exact⟨Nat.lt_of_lt_of_le h1 J,h2⟩
theorem ao.da {G:Gh} {tmps:Array Value} {w:World} (h:ao C n ⟨f,bx,lv,gen⟩ G tmps w) (I:Sub f f') (hb:lS bx bx') (hl:∀ g∈lv',g∈lv) (J:gen≤gen'):ao C n ⟨f',bx',lv',gen'⟩ G tmps w:=
 ao.later (st:=⟨f',bx',lv',gen⟩) (h.weaken ⟨I.le,hb.le,hl,rfl⟩) J
theorem W.da (I:Sub f f') (hb:lS bx bx') (hl:∀ g∈lv',g∈lv) (J:gen≤gen') (hw:W P C n c Q ⟨f',bx',lv',gen'⟩):W P C n c Q ⟨f,bx,lv,gen⟩:=
 fun tmps w ⟨G,hs⟩=>hw tmps w ⟨G,hs.da I hb hl J⟩
theorem W.len {t:Nat} {a:A} {es:List (List D)} (hl:look f t=some a) (hs:gm a=some es) (h:es.length≤maxLen→W P C n c Q ⟨f,bx,lv,gen⟩):W P C n c Q ⟨f,bx,lv,gen⟩:=by intro tmps w ⟨G,I⟩;obtain⟨v,_,J⟩:=I.frame _ _ hl;exact h (fZ hs J).len.choose_spec.choose_spec.2 tmps w ⟨G,I⟩
theorem W.l9 {t:Nat} {v:Value} (hl:look f t=some (.d (.v v))) (h:cm v=true→W P C n c Q ⟨f,bx,lv,gen⟩):W P C n c Q ⟨f,bx,lv,gen⟩:=by
 intro tmps w ⟨G,J⟩;obtain⟨u,_,I⟩:=J.frame _ _ hl;cases I with | d I=>cases I with | v _ M=>
 exact h M tmps w ⟨G,J⟩
end
theorem wrap64 {x:Int} (h:-9223372036854775808≤x∧x≤9223372036854775807):IntKind.i64.wrap x=x:=IntWalk.i64_in x h
theorem AO {k n:Nat} (h:k < n) (I:n≤maxLen):IntKind.i64.wrap ((k:Int)+1)=((k+1:Nat):Int):=by simp only[maxLen] at I;rw[wrap64 (by omega)];rfl
theorem aP {k n:Nat} (h:k < n) (I:n≤maxLen):some (A.d (.v (.int .i64 (IntKind.i64.wrap ((k:Int)+1)))))=some (A.d (.v (.int .i64 ((k+1:Nat):Int)))):=by rw[AO h I]
end Go.Ab
namespace Go.Ab
open Go.RowKit Go.WideShapes Go.ChangeShapes Go.ChangeAt
section
variable {P:Program} (T:bA P)
inductive cz:Nat→List D→Prop
 | int {t:Nat} {k:IntKind} (n:Int) (h:cA T t=.int k) (ho:cm (.int k n)=true):cz t [.v (.int k n)]
 | bool {t:Nat} (b:Bool) (h:cA T t=.bool):cz t [.v (.bool b)]
 | str {t:Nat} (s:ByteArray) (h:cA T t=.str) (ho:s.size≤maxLen):cz t [.v (.string s)]
 | slice {t e:Nat} (es:List (List D)) (h:cA T t=.slice e) (hc:∀ x∈es,cz e x) (hl:es.length≤maxLen):cz t [.sl es]
 | st {t:Nat} {fs:List (Nat×Nat×String)} (parts:List (List D)) (h:cA T t=.st fs) (hl:parts.length=fs.length)
  (hc:∀ (i:Nat) (o ft:Nat) (nm:String) (p:List D),fs[i]? = some (o,ft,nm)→parts[i]? = some p→cz ft p):cz t parts.flatten
variable {T}
theorem cz.toInt {t:Nat} {k:IntKind} {l:List D} (h:cz T t l) (J:cA T t=.int k):∃ n,l=[.v (.int k n)]∧cm (.int k n)=true:=by
 cases h <;> rename_i I _ <;> first | (rw[J] at I;cases I;exact⟨_,rfl,by assumption⟩) | skip
 all_goals simp_all
theorem cz.toBool {t:Nat} {l:List D} (h:cz T t l) (I:cA T t=.bool):∃ b,l=[.v (.bool b)]:=by cases h <;> first | exact⟨_,rfl⟩ | simp_all
theorem cz.toStr {t:Nat} {l:List D} (h:cz T t l) (I:cA T t=.str):∃ s,l=[.v (.string s)]∧s.size≤maxLen:=by cases h <;> first | exact⟨_,rfl,by assumption⟩ | simp_all
theorem cz.toSlice {t e:Nat} {l:List D} (h:cz T t l) (I:cA T t=.slice e):∃ es,l=[.sl es]∧(∀ x∈es,cz T e x)∧es.length≤maxLen:=by
 cases h with
 | slice es h J hl=>rw[I] at h;cases h;exact⟨es,rfl,J,hl⟩
 | _=>simp_all
theorem cz.EA {t:Nat} {I:List (Nat×Nat×String)} {l:List D} (h:cz T t l) (M:cA T t=.st I):∃ parts:List (List D),l=parts.flatten∧parts.length=I.length ∧
 ∀ (i:Nat) (o J:Nat) (nm:String) (p:List D),I[i]? = some (o,J,nm)→parts[i]? = some p→cz T J p:=by
 cases h with
 | st parts h hl N=>rw[M] at h;cases h;exact⟨parts,rfl,hl,N⟩
 | _=>simp_all
variable (T)
def nS:Nat→List (Nat×Nat×String)→Bool
 | _,[]=>true
 | o,(o',ft,_)::r=>o == o' && nS (o+c8 T ft) r
def oZ:List (Nat×Nat×String)→Nat
 | []=>0
 | (_,ft,_)::r=>c8 T ft+oZ r
def ug (gs:List Nat):Bool:=gs.all fun t=>(ae T.l t).isSome && match cA T t with
 | .int _ | .bool | .str=>true
 | .slice e=>gs.contains e && Nat.blt 0 (c8 T e)
 | .st I=>I.all (fun x=>gs.contains x.2.1) && nS T 0 I && oZ T I == c8 T t
 | _=>false
theorem ld {gs:List Nat} (h:ug T gs=true) {t:Nat} (J:t∈gs):∃ d,ae T.l t=some d∧d.k=cA T t∧(match cA T t with
 | .int _ | .bool | .str=>true
 | .slice e=>gs.contains e && Nat.blt 0 (c8 T e)
 | .st I=>I.all (fun x=>gs.contains x.2.1) && nS T 0 I && oZ T I == c8 T t
 | _=>false)=true:=by
 have:=List.all_eq_true.1 h t J;simp only[Bool.and_eq_true] at this;obtain⟨d,hd⟩:=Option.isSome_iff_exists.1 this.1;exact⟨d,hd,by unfold cA;rw[hd],this.2⟩
theorem mF {t:Nat} {d:bH} (h:ae T.l t=some d):P.cellsOf t=c8 T t:=by obtain⟨i,_,hi,I,_⟩:=T.info h;unfold c8 Program.cellsOf;rw[h,hi];exact I
theorem rE:∀ (I:List (Nat×Nat×String)) (o:Nat) (cs:List Value),nS T o I=true→(I.map fun x=>(cs.drop x.1).take (c8 T x.2.1)).flatten=(cs.drop o).take (oZ T I)
 | [],o,cs,_=>by simp[oZ]
 | (o',ft,nm)::r,o,cs,h=>by simp only[nS,Bool.and_eq_true,beq_iff_eq] at h;obtain⟨rfl,h⟩:=h;simp only[List.map_cons,List.flatten_cons,oZ];rw[rE r _ cs h,List.take_add,List.drop_drop]
theorem dw.append {E:En} {a b:List Value} {l m:List D} (h1:dw E a.toArray l) (h2:dw E b.toArray m):dw E (a++b).toArray (l++m):=by
 have J:a.length=l.length:=by simpa using h1.1
 have M:b.length=m.length:=by simpa using h2.1
 refine⟨by simp[J,M],fun i u x hu I=>?_⟩;simp only[List.getElem?_toArray] at hu;rcases Nat.lt_or_ge i a.length with h | h
 ·rw[List.getElem?_append_left h] at hu
  rw[List.getElem?_append_left (by omega)] at I;exact h1.2 i u x (by simpa using hu) I
 ·rw[List.getElem?_append_right h] at hu
  rw[List.getElem?_append_right (by omega),←J] at I;exact h2.2 _ u x (by simpa using hu) I
theorem dw.flatten {E:En}:∀ {I:List (List Value)} {J:List (List D)},I.length=J.length→(∀ (i:Nat) (a:List Value) (l:List D),I[i]? = some a→J[i]? = some l→dw E a.toArray l)→dw E I.flatten.toArray J.flatten
 | [],[],_,_=>⟨rfl,by simp⟩
 | a::I,l::J,hl,h=>by simp only[List.flatten_cons];exact dw.append (h 0 a l (by simp) (by simp)) (dw.flatten (by simpa using hl) (fun i a l M hl=>h (i+1) a l (by simpa using M) (by simpa using hl)))
theorem dw.one {E:En} {v:Value} {x:D} (h:aI E.w E.pv v x):dw E #[v] [x]:=by
 refine⟨rfl,fun i u y hu I=>?_⟩
 cases i with
 | zero=>simp at hu I;subst hu;subst I;exact h
 | succ i=>simp at hu
theorem sX {k:IntKind} {n:Int} (h:(Lit.int k n).wf=true):cm (.int k n)=true:=by simpa [Lit.wf,cm] using h
theorem vN {H:Type} {enc:TypeId×Value→H} {gs:List Nat} (hg:ug T gs=true) {w:World} {E:En} (hw:E.w=w) (hpv:∀ b o,¬ E.pv b o):∀ (fuel:Nat) (t:Nat) (cs:List Value) (d:DataW H) (ps:List MemPlace),
    t∈gs→DataW.trod enc P w 0 (fun _=>true) true fuel t cs=some (d,ps)→∃ l,cz T t l∧dw E cs.toArray l:=by
  intro fuel
  induction fuel with
  | zero=>intro t cs d ps _ h;simp[DataW.trod] at h
  | succ fuel ih=>
    intro t cs d ps ht h
    obtain⟨td,htd,htk,hgood⟩:=ld T hg ht
    cases hk:cA T t with
    | int k=>
      have hu:=T.fa htd (htk.trans hk)
      simp only[DataW.trod,hu] at h
      split at h <;> simp_all
      rename_i k' n _
      obtain⟨⟨rfl,hwf⟩,_⟩:=h
      exact⟨_,.int n hk (sX hwf),dw.one (.v _ (sX hwf))⟩
    | bool=>
      have hu:=T.rO htd (htk.trans hk)
      simp only[DataW.trod,hu] at h
      split at h <;> simp_all
      exact⟨_,.bool _ hk,dw.one (.v _ rfl)⟩
    | str=>
      have hu:=T.gQ htd (htk.trans hk)
      simp only[DataW.trod,hu] at h
      split at h <;> simp_all
      exact⟨_,.str _ hk h.1,dw.one (.v _ (by simpa [cm] using h.1))⟩
    | slice e=>
      have hu:=T.fu htd (htk.trans hk)
      rw[hk] at hgood
      simp only[Bool.and_eq_true] at hgood
      obtain⟨he,hz⟩:=hgood
      have he:e∈gs:=by simpa using he
      have hz:0 < c8 T e:=Nat.le_of_ble_eq_true hz
      obtain⟨ed,hed,_,_⟩:=ld T hg he
      rcases DataW.trod_slice hu h with ⟨rfl,_⟩ | ⟨a,len,cap,elems,rest,m,hm,rfl,_,_,hlc,hcm,hlen,helem,_⟩
      · exact⟨[.sl []],.slice [] hk (by simp) (by simp),dw.one .nil⟩
      · have hm:m=fuel:=by omega
        subst hm
        · have hget:∀ i,i < len→∃ x ccs,w.cells? 0 (a.add (i*P.cellsOf e)) (P.cellsOf e)=some ccs∧DataW.trod enc P w 0 (fun _=>true) true m e ccs=some x:=by
            intro i hi
            have:=helem i hi
            have hi':i < elems.length:=by omega
            have e1:elems[i]? = some elems[i]:=by simp[hi']
            rw[e1] at this
            obtain⟨ccs,h1,h2⟩:=Option.bind_eq_some_iff.1 this
            exact⟨_,ccs,h1,h2⟩
          have hsz:P.cellsOf e=c8 T e:=mF T hed
          rcases Nat.eq_zero_or_pos len with h0 | hpos
          · subst h0
            exact⟨[.sl []],.slice [] hk (by simp) (by simp),dw.one (.emp a cap hcm)⟩
          · have hspot:a.spot=none:=by
              obtain⟨x,ccs,h1,_⟩:=hget 0 hpos
              obtain⟨_,h3,h4⟩:=World.cells?_some h1
              have h5:=h4 0 (by omega)
              have h6:(ccs[0]?).isSome:=by simp;omega
              rw[←h5] at h6
              simp only[Nat.zero_mul,Addr.add,if_true] at h6
              unfold World.cell? at h6
              split at h6
              · cases hsp:a.spot with
                | none=>rfl
                | some s=>simp[hsp] at h6
              · cases h6
            obtain⟨b,off,sp⟩:=a
            simp only at hspot
            subst hspot
            have hall:∀ i,∃ l ccs,i < len→(w.cells? 0 ((⟨b,off,none⟩:Addr).add (i*c8 T e)) (c8 T e)=some ccs∧cz T e l∧dw E ccs.toArray l):=by
              intro i
              by_cases hi:i < len
              · obtain⟨x,ccs,h1,h2⟩:=hget i hi
                obtain⟨l,h3,h4⟩:=ih e ccs x.1 x.2 he h2
                exact⟨l,ccs,fun _=>⟨by rw[←hsz];exact h1,h3,h4⟩⟩
              · exact⟨[],[],fun h=>absurd h hi⟩
            let L:=fun i=>(hall i).choose
            let CC:=fun i=>(hall i).choose_spec.choose
            have hLC:∀ i,i < len→w.cells? 0 ((⟨b,off,none⟩:Addr).add (i*c8 T e)) (c8 T e)=some (CC i)∧cz T e (L i)∧dw E (CC i).toArray (L i):=fun i hi=>(hall i).choose_spec.choose_spec hi
            have hes:∀ (i:Nat) (x:List D),((List.range len).map L)[i]? = some x→i < len∧x=L i:=by
              intro i x hx
              rcases Nat.lt_or_ge i len with hi | hi
              · simp[hi] at hx;exact⟨hi,hx.symm⟩
              · rw[List.getElem?_eq_none (by simpa using hi)] at hx;cases hx
            have hccl:∀ i,i < len→(CC i).length=c8 T e:=fun i hi=>(World.cells?_some (hLC i hi).1).2.1
            have hLl:∀ i,i < len→(L i).length=c8 T e:=fun i hi=>by have:=(hLC i hi).2.2.1;simp at this;rw[←this];exact hccl i hi
            refine⟨[.sl ((List.range len).map L)],.slice _ hk (fun x hx=>?_) (by simp;omega),dw.one ?_⟩
            · obtain⟨i,hi⟩:=List.mem_iff_getElem?.1 hx
              obtain⟨h1,rfl⟩:=hes i x hi
              exact(hLC i h1).2.1
            · refine .sl b off len cap (c8 T e) _ (fun i j=>((CC i)[j]?).getD default) (by simp) hlc hcm (fun i x hx=>?_) (fun i j hi hj=>⟨?_,hpv _ _⟩) (fun i j x d hx hd=>?_)
              · obtain⟨h1,rfl⟩:=hes i x hx
                exact hLl i h1
              · have h1:=(World.cells?_some (hLC i hi).1).2.2 j hj
                have h2:j < (CC i).length:=by rw[hccl i hi];exact hj
                have e1:(CC i)[j]? = some (CC i)[j]:=by simp[h2]
                rw[e1] at h1 ⊢
                have e2:((⟨b,off,none⟩:Addr).add (i*c8 T e)).add j=⟨b,off+i*c8 T e+j,none⟩:=by
                  unfold Addr.add
                  split <;> split <;> simp_all
                rw[e2] at h1
                rw[hw]
                exact h1
              · obtain⟨h1,rfl⟩:=hes i x hx
                have h2:j < (CC i).length:=by rw[hccl i h1,←hLl i h1];exact(List.getElem?_eq_some_iff.1 hd).1
                have e1:(CC i)[j]? = some (CC i)[j]:=by simp[h2]
                rw[e1]
                exact(hLC i h1).2.2.2 j _ d (by simp[h2]) hd
    | st fs=>
      obtain⟨fl,hu,hfl,_⟩:=T.ss htd (htk.trans hk)
      rw[hk] at hgood
      simp only[Bool.and_eq_true,beq_iff_eq] at hgood
      obtain⟨⟨hall,hcon⟩,hsum⟩:=hgood
      obtain⟨xs,m,hm,_,hcl,hxl,hxs⟩:=DataW.trod_struct hu h
      have hm:m=fuel:=by omega
      subst hm
      rw[mF T htd] at hcl
      have hmem:∀ (i:Nat) (o ft:Nat) (nm:String),fs[i]? = some (o,ft,nm)→ft∈gs:=fun i o ft nm hi=>by
        have:=List.all_eq_true.1 hall _ (List.mem_of_getElem? hi)
        simpa using this
      have hfield:∀ i:Nat,∃ l,∀ (o ft:Nat) (nm:String),fs[i]? = some (o,ft,nm)→cz T ft l∧dw E ((cs.drop o).take (c8 T ft)).toArray l:=by
        intro i
        cases hi:fs[i]? with
        | none=>exact⟨[],fun o ft nm h=>by cases h⟩
        | some x=>
          obtain⟨o,ft,nm⟩:=x
          have hfi:=hi
          rw[←hfl,List.getElem?_map,Option.map_eq_some_iff] at hfi
          obtain⟨fd,hfd,he⟩:=hfi
          simp only[Prod.mk.injEq] at he
          obtain⟨rfl,rfl,rfl⟩:=he
          have h1:=hxs i fd (by simpa using hfd)
          have hi2:i < xs.length:=by rw[hxl];have:=(List.getElem?_eq_some_iff.1 hfd).1;simpa using this
          have e1:xs[i]? = some xs[i]:=by simp[hi2]
          rw[e1] at h1
          obtain⟨fdd,hfdd,_⟩:=ld T hg (hmem i _ _ _ hi)
          rw[mF T hfdd] at h1
          obtain⟨l,h2,h3⟩:=ih fd.type _ _ _ (hmem i _ _ _ hi) h1
          exact⟨l,fun o ft nm h=>by simp only[Option.some.injEq,Prod.mk.injEq] at h;obtain⟨rfl,rfl,rfl⟩:=h;exact⟨h2,h3⟩⟩
      let L:=fun i=>(hfield i).choose
      have hL:∀ (i o ft:Nat) (nm:String),fs[i]? = some (o,ft,nm)→cz T ft (L i)∧dw E ((cs.drop o).take (c8 T ft)).toArray (L i):=fun i=>(hfield i).choose_spec
      refine⟨((List.range fs.length).map L).flatten,.st _ hk (by simp) (fun i o ft nm p hi hp=>?_),?_⟩
      · have hlt:i < fs.length:=(List.getElem?_eq_some_iff.1 hi).1
        simp[hlt] at hp
        rw[←hp]
        exact(hL i o ft nm hi).1
      · have hf:=rE T fs 0 cs hcon
        rw[List.drop_zero,hsum,←hcl,List.take_length] at hf
        rw[←hf]
        refine dw.flatten (by simp) (fun i a l ha hl=>?_)
        simp only[List.getElem?_map,Option.map_eq_some_iff] at ha hl
        obtain⟨⟨o,ft,nm⟩,hi,rfl⟩:=ha
        have hlt:i < fs.length:=(List.getElem?_eq_some_iff.1 hi).1
        obtain⟨i',hi',rfl⟩:=hl
        have:i'=i:=by rw[List.getElem?_range hlt] at hi';exact(Option.some.inj hi').symm
        subst this
        exact(hL i' o ft nm hi).2
    | ptr=>rw[hk] at hgood;cases hgood
    | map=>rw[hk] at hgood;cases hgood
    | leaf=>rw[hk] at hgood;cases hgood
def x7 (t:Nat) (l:List D):A:=match cA T t,l with
 | .st _,l=>.ag l
 | _,[x]=>.d x
 | _,_=>.any
inductive gR:List Nat→List A→Prop
 | nil:gR [] []
 | cons {t:Nat} {ts:List Nat} {l:List D} {as':List A} (h:cz T t l) (r:gR ts as'):gR (t::ts) (x7 T t l::as')
theorem u9 {H:Type} {enc:TypeId×Value→H} {gs:List Nat} (hg:ug T gs=true) {w:World} {base:Nat} {E:En} (hw:E.w=w) (ad:∀ b o,¬ E.pv b o):∀ (ts:List Nat) (vs:List Value) (ds:List (DataW H)) (ps:List MemPlace),
 (∀ t∈ts,t∈gs)→DataW.TrodAll enc P w 0 (fun _=>true) true ts vs ds ps→(∀ (j:Nat) (t:Nat) (v:Value),ts[j]? = some t→vs[j]? = some v→Value.okWide P w .any base t v) →
 ds.length=ts.length∧vs.length=ts.length∧∃ O,gR T ts O∧vs.length=O.length∧∀ (i:Nat) (u:Value) (a:A),vs[i]? = some u→O[i]? = some a→aC E u a
 | [],[],[],ps,_,_,_=>⟨rfl,rfl,[],.nil,rfl,by simp⟩
 | t::ts,v::vs,d::ds,ps,hm,h,hv=>by
   obtain⟨p,q,⟨fuel,h1⟩,h2,_⟩:=h;obtain⟨e1,e2,O,h3,h4,h5⟩:=u9 hg hw ad ts vs ds q (fun t U=>hm t (List.mem_cons_of_mem _ U)) h2 (fun j t v U aj=>hv (j+1) t v (by simpa using U) (by simpa using aj));have U:t∈gs:=hm t List.mem_cons_self;obtain⟨l,X,Z⟩:=vN T hg hw ad fuel t _ d p U h1;have hok:=hv 0 t v (by simp) (by simp);obtain⟨td,M,N,I⟩:=ld T hg U;have ai:aC E v (x7 T t l):=by
    unfold x7
    cases hk:cA T t with
    | st fs=>
      obtain⟨fl,hu,_⟩:=T.ss M (N.trans hk);simp only[Value.okWide,hu] at hok;obtain⟨cs,rfl,_,_⟩:=hok;have h8:dw E cs l:=by simpa [Value.cells] using Z
      exact .ag cs l h8.1 h8.2
    | int k=>
      obtain⟨n,rfl,ho⟩:=X.toInt hk;have hu:=T.fa M (N.trans hk);obtain⟨n',a7,_⟩:=DataW.trod_int hu h1;have J:v=.int k n':=by cases v <;> simp_all[Value.cells,Value.okWide,Cell.okWide,Cell.ok]
      have:=Z.2 0 v (.v (.int k n)) (by rw[J];simp[Value.cells]) (by simp);exact .d this
    | bool=>
      obtain⟨b,rfl⟩:=X.toBool hk;have hu:=T.rO M (N.trans hk);have J:∃ b',v=.bool b':=by simp only[Value.okWide,hu,Cell.okWide] at hok;cases v <;> simp_all[Cell.ok]
      obtain⟨b',J⟩:=J;have:=Z.2 0 v (.v (.bool b)) (by rw[J];simp[Value.cells]) (by simp);exact .d this
    | str=>obtain⟨s,rfl,ho⟩:=X.toStr hk;have hu:=T.gQ M (N.trans hk);obtain⟨s',J⟩:=okWide_string hu hok;have:=Z.2 0 v (.v (.string s)) (by rw[J];simp[Value.cells]) (by simp);exact .d this
    | slice e=>obtain⟨es,rfl,_⟩:=X.toSlice hk;have hu:=T.fu M (N.trans hk);obtain⟨a',a1,a6,J⟩:=okWide_slice hu hok;have:=Z.2 0 v (.sl es) (by rw[J];simp[Value.cells]) (by simp);exact .d this
    | ptr=>rw[hk] at I;cases I
    | map=>rw[hk] at I;cases I
    | leaf=>rw[hk] at I;cases I
   refine⟨by simp[e1],by simp[e2],_,.cons X h3,by simp[h4],fun i u a hu ha=>?_⟩
   cases i with
   | zero=>simp at hu ha;subst hu;subst ha;exact ai
   | succ i=>exact h5 i u a (by simpa using hu) (by simpa using ha)
 | [],_::_,_,_,_,h,_=>by simp[DataW.TrodAll] at h
 | [],[],_::_,_,_,h,_=>by simp[DataW.TrodAll] at h
 | _::_,[],_,_,_,h,_=>by simp[DataW.TrodAll] at h
 | _::_,_::_,[],_,_,h,_=>by simp[DataW.TrodAll] at h
theorem nz {H:Type} {enc:TypeId×Value→H} (hl:laidOutB P=true) {W W':World} (hb:Below W.heap.size W W'):∀ (ts:List Nat) (vs:List Value) (ds:List (DataW H)) (ps:List MemPlace),
 (∀ t∈ts,P.readableRec t=true∧t < P.types.size)→DataW.TrodAll enc P W 0 (fun _=>true) true ts vs ds ps→(∀ x∈ps,x.block < W.heap.size) →
 DataW.TrodAll enc P W' 0 (fun b=>decide (b < W.heap.size)) true ts vs ds ps
 | [],[],[],ps,_,h,_=>h
 | t::ts,v::vs,d::ds,ps,hr,h,hlt=>by obtain⟨p,q,h1,h2,rfl⟩:=h;have:=hr t List.mem_cons_self;exact⟨p,q,Below.trod hl this.1 this.2 h1 hb (fun x I=>hlt x (List.mem_append.2 (.inl I))),nz hl hb ts vs ds q (fun t J=>hr t (List.mem_cons_of_mem _ J)) h2 (fun x I=>hlt x (List.mem_append.2 (.inr I))),rfl⟩
 | [],_::_,_,_,_,h,_=>by simp[DataW.TrodAll] at h
 | [],[],_::_,_,_,h,_=>by simp[DataW.TrodAll] at h
 | _::_,[],_,_,_,h,_=>by simp[DataW.TrodAll] at h
 | _::_,_::_,[],_,_,h,_=>by simp[DataW.TrodAll] at h
theorem vS [cc P] {f:FuncId} {fn:Func} {s:ChangeSpec} {gs:List Nat} {tb:Nat} (hg:ug T gs=true) (a7:∀ t∈fn.params.toList,t∈gs) (X:laidOutB P=true) (a8:∀ t∈fn.params.toList,P.readableRec t=true∧t < P.types.size)
 (aj:fn.resultTypes=#[tb]) (hb:P.underlying tb=some .bool) (J:s.vars=[]) {H:Type} {enc:TypeId×Value→H} (hs:∀ ds:List (DataW H),ds.length=fn.params.size→s.fn H ds={ results:=[.lit (.bool true)],args:=ds })
 (hd:∀ M,gR T fn.params.toList M→az P f M (.d (.v (.bool true))) 0)
 (W:World) (N:W.ShapedOpen P∧cc.met P W) (base:Nat) (args:Array Value) (ds b0:List (DataW H)) (before:List MemPlace) (a1:∀ (j:Nat) t v,fn.params[j]? = some t→args[j]? = some v→Value.okWide P W .any base t v)
 (hW:DataW.Whole enc P fn.params.toList s.vars false W args.toList ds b0 before) :
 Calls P f args W fun e W'=>∃ v,e=.returned v∧s.post enc P fn false true false false W args v W':=by
 have ad:=hW;obtain⟨p,q,hA,hV,rfl,ch,cj⟩:=hW;rw[J] at hV;obtain⟨rfl,rfl⟩:=trodVars_none hV
 obtain⟨e1,e2,M,Z,hlen,a6⟩:=u9 T (E:=au { w0:=W,fp:=fun _=>False,x:=fun _ _=>False } G0 0 W) hg rfl (fun b o hp=>(pq _ b o).1 hp) fn.params.toList args.toList ds p a7 hA
  (fun j t v ht O=>a1 j t v (by simpa using ht) (by simpa using O))
 refine((hd M Z).calls { w0:=W,fp:=fun _=>False,x:=fun _ _=>False } args W ⟨W,N,Nat.le_refl _,fun _ _=>⟨rfl,fun h=>h⟩⟩ rfl ⟨fun _ h=>h,fun _ _ h=>h,rfl,rfl⟩ (fun _ _ h=>h.elim) (by simpa using hlen) (fun i u a hu ha=>a6 i u a (by simpa using hu) ha)).mono ?_;rintro e W' ⟨v,G',rfl,I,O⟩;have ai:Below W.heap.size W W':=⟨I.fr.os,I.fr.tape,I.fr.output,I.fr.size,fun b hb=>I.fr.block b hb (fun h=>h)⟩;have b2:v=.bool true:=by cases O with | d O=>cases O;rfl
 subst b2;have U:=hs (ds++[]) (by simp[e1]);have b3:∀ x∈p,x.block < W.heap.size:=fun x hx=>by simpa using ad.lt x (by simpa using hx)
 refine⟨_,rfl,ds,[],_,[],p,[],ad,?_,?_,?_,ai.frame _,fun h=>by cases h⟩
 ·rw[U,aj]
  exact trodAll_mk1 (shut_bool hb _)
 ·rw[U]
  simp only[List.append_nil];exact nz X ai _ _ _ _ a8 hA b3
 ·rw[U,J]
  rfl
variable {T}
theorem gR.inv {t:Nat} {ts:List Nat} {I:List A} (h:gR T (t::ts) I):∃ l r,I=x7 T t l::r∧cz T t l∧gR T ts r:=by
 cases h with
 | cons h r=>exact⟨_,_,rfl,h,r⟩
theorem gR.F6 {I:List A} (h:gR T [] I):I=[]:=by cases h;rfl
end
end Go.Ab
namespace Go.Ab
open Go.RowKit
abbrev dA:=Nat→Option A
def bK (I:dA):Option Nat→A→dA
 | some d,a=>fun t=>if t=d then some a else I t
 | none,_=>I
section
variable {P:Program} {C:Ctx} {n:Nat} {bx:List (Nat×List A)} {lv:List Nat} {gen:Nat} {ops:Array Oper} {md:Region.Mode}
def ew (C:Ctx) (n:Nat) (bx:List (Nat×List A)) (lv:List Nat) (gen:Nat) (I:dA) (G:Gh) (tmps:Array Value) (w:World):Prop:=
 ao C n ⟨[],bx,lv,gen⟩ G tmps w∧∀ t a,I t=some a→∃ v,tmps[t]? = some v∧aC (au C G gen w) v a
theorem ew.ky {I:dA} {G:Gh} {tmps:Array Value} {w:World} (h:ew C n bx lv gen I G tmps w) {f:List (Nat×A)} (J:∀ t a,look f t=some a→I t=some a):ao C n ⟨f,bx,lv,gen⟩ G tmps w:=
 { h.1 with frame:=fun t a M=>h.2 t a (J t a M) }
theorem ew.zU {f:List (Nat×A)} {G:Gh} {tmps:Array Value} {w:World} (h:ao C n ⟨f,bx,lv,gen⟩ G tmps w):ew C n bx lv gen (look f) G tmps w:=
 ⟨{ h with frame:=fun t a I=>by simp[look] at I },h.frame⟩
theorem ew.step {M:dA} {G:Gh} {tmps:Array Value} {w w':World} (h:ew C n bx lv gen M G tmps w) (hb:Below w.heap.size w w') {dst:Option Nat} (hd:eM n dst=true) {v:Value} {a:A} (N:aC (au C G gen w') v a) :
 ew C n bx lv gen (bK M dst a) G (Act.put ⟨tmps,[]⟩ dst v).tmps w':=by
 obtain⟨hle,hs⟩:=h.1.gp hb
 cases dst with
 | none=>exact⟨hs,fun t a J=>let ⟨v,h1,h2⟩:=h.2 t a J;⟨v,h1,h2.mono hle⟩⟩
 | some d=>
   refine⟨{ hs with size:=by have:=hs.size;simpa [Act.put] using this,frame:=fun t a J=>by simp[look] at J },fun t b I=>?_⟩;simp only[bK] at I;split at I
   ·rename_i e
    subst e;simp only[Option.some.injEq] at I;subst I;exact⟨v,by simp[Act.put,Array.getElem?_setIfInBounds,hs.size,bQ hd],N⟩
   ·rename_i e
    obtain⟨u,h1,h2⟩:=h.2 t b I;exact⟨u,by simp only[Act.put];rw[Array.getElem?_setIfInBounds_ne (Ne.symm e)];exact h1,h2.mono hle⟩
def ji (ops:Array Oper) (o:Oper) (I:dA) (b:Bool):Prop:=
 match o.guard with
 | none=>b=true
 | some (j,want)=>∃ d x,eK ops j=some d∧I d=some x∧((∃ c,x=.d (.v (.bool c))∧b=(c == want))∨(x=.tup []∧b=false))
def YA (P:Program) (C:Ctx) (n:Nat) (bx:List (Nat×List A)) (lv:List Nat) (gen:Nat) (ops:Array Oper) (o:Oper) (a:A) (I:dA):Prop:=
 eM n o.dst=true∧((ji ops o I true∧∃ f,(∀ t x,look f t=some x→I t=some x∧t∈o.looksAt ops)∧Pu P C n ⟨f,bx,lv,gen⟩ (r7 o) a)∨(ji ops o I false∧a=.tup []))
theorem pA {o:Oper} {I:dA} {b:Bool} {dst:Option Nat} {x:A} (hd:∀ d,dst=some d→d∉o.looksAt ops):ji ops o (bK I dst x) b↔ji ops o I b:=by
 unfold ji
 cases hg:o.guard with
 | none=>exact Iff.rfl
 | some J=>
   obtain⟨j,want⟩:=J;have key:∀ d,eK ops j=some d→bK I dst x d=I d:=by
    intro d hj
    cases dst with
    | none=>rfl
    | some e=>
      have:d≠e:=by intro h;subst h;refine hd d rfl ?_;unfold Oper.looksAt;rw[hg];unfold eK at hj;simp[hj]
      simp[bK,this]
   constructor;·rintro⟨d,c,h1,h2,h3⟩;exact⟨d,c,h1,by rw[←key d h1];exact h2,h3⟩
   ·rintro⟨d,c,h1,h2,h3⟩;exact⟨d,c,h1,by rw[key d h1];exact h2,h3⟩
theorem er {o:Oper} {a:A} {J:dA} {dst:Option Nat} {x:A} (hd:∀ d,dst=some d→d∉o.looksAt ops):YA P C n bx lv gen ops o a (bK J dst x)↔YA P C n bx lv gen ops o a J:=by
 unfold YA;rw[pA hd,pA hd];have key:∀ t,t∈o.looksAt ops→bK J dst x t=J t:=by
  intro t M
  cases dst with
  | none=>rfl
  | some e=>
    have:t≠e:=fun h=>by subst h;exact hd t rfl M
    simp[bK,this]
 constructor
 ·rintro⟨h0,⟨h1,f,h2,h3⟩ | h1⟩
  ·exact⟨h0,.inl ⟨h1,f,fun t y I=>⟨by rw[←key t (h2 t y I).2];exact(h2 t y I).1,(h2 t y I).2⟩,h3⟩⟩
  ·exact⟨h0,.inr h1⟩
 ·rintro⟨h0,⟨h1,f,h2,h3⟩ | h1⟩
  ·exact⟨h0,.inl ⟨h1,f,fun t y I=>⟨by rw[key t (h2 t y I).2];exact(h2 t y I).1,(h2 t y I).2⟩,h3⟩⟩
  ·exact⟨h0,.inr h1⟩
theorem lF (I:dA) {x y:Option Nat} (a b:A) (h:∀ d,x=some d→y≠some d):bK (bK I x a) y b=bK (bK I y b) x a:=by
 cases x with
 | none=>rfl
 | some d=>
   cases y with
   | none=>rfl
   | some e=>have J:d≠e:=fun he=>h d rfl (by rw[he]);funext t;simp only[bK];split <;> split <;> simp_all
def qA (P:Program) (C:Ctx) (n:Nat) (bx:List (Nat×List A)) (lv:List Nat) (gen:Nat) (ops:Array Oper) (i:Nat) (K:dA→Prop) (I:dA):Prop:=
 match ops[i]? with
 | none=>K I
 | some o=>∃ a,YA P C n bx lv gen ops o a I∧K (bK I o.dst a)
theorem CF {i:Nat} {I:dA} {K M:dA→Prop} (h:∀ I,K I→M I) (J:qA P C n bx lv gen ops i K I):qA P C n bx lv gen ops i M I:=by
 unfold qA at *;split;·exact h _ (by simpa [*] using J)
 ·rename_i o N
  simp only[N] at J;obtain⟨a,h1,h2⟩:=J;exact⟨a,h1,h _ h2⟩
def ov (P:Program) (C:Ctx) (n:Nat) (bx:List (Nat×List A)) (lv:List Nat) (gen:Nat) (md:Region.Mode) (ops:Array Oper) (Q:dA→Prop):Nat→Array Bool→dA→Prop
 | 0,listed,I=>Region.ready md ops listed=[]∧Q I
 | fuel+1,listed,I=>(Region.ready md ops listed=[]→Q I)∧∀ i∈Region.ready md ops listed,qA P C n bx lv gen ops i (ov P C n bx lv gen md ops Q fuel (listed.setIfInBounds i true)) I
theorem fQ {o:Oper} {φ:dA} {b:Bool} {G:Gh} {tmps:Array Value} {w:World} (hs:ew C n bx lv gen φ G tmps w) (h:ji ops o φ b):Region.wanted o (yielded ops tmps)=b:=by
  unfold ji at h
  unfold Region.wanted
  cases hg:o.guard with
  | none=>rw[hg] at h;exact h.symm
  | some jw=>
    obtain⟨j,want⟩:=jw
    rw[hg] at h
    obtain⟨d,x,h1,h2,h⟩:=h
    obtain⟨v,h3,h4⟩:=hs.2 d _ h2
    rcases h with ⟨c,rfl,rfl⟩ | ⟨rfl,rfl⟩
    · cases h4 with | d h4=>cases h4 with | v _ _=>
      simp only[mx h1 h3]
      cases c <;> cases want <;> rfl
    · have hy:yielded ops tmps j=none:=by
        unfold yielded
        unfold eK at h1
        rw[h1]
        simp only[Option.bind_some,h3]
        cases h4;rfl
      simp only[hy]
      rfl
theorem xS {i:Nat} {I:dA} {K:dA→Prop} {N:Act→World→Prop} {Q':Exit→Act→World→Prop} {G:Gh} {tmps:Array Value} {w:World} (hs:ew C n bx lv gen I G tmps w)
 (h:∀ I tmps w,ew C n bx lv gen I G tmps w→K I→N ⟨tmps,C.ds⟩ w) (J:qA P C n bx lv gen ops i K I):wpOp P ops Q' i N ⟨tmps,C.ds⟩ w:=by
 unfold qA at J;unfold wpOp;split;·rename_i M;simp only[M] at J;exact h _ _ _ hs J
 ·rename_i o M
  simp only[M] at J;obtain⟨a,⟨hd,U⟩,O⟩:=J;rcases U with ⟨hw,f,X,hp⟩ | ⟨hw,rfl⟩
  ·rw[fQ hs hw]
   simp only[if_true];refine .inl ?_;have Z:cS P o ⟨tmps,[]⟩ w fun v w'=>Below w.heap.size w w'∧aC (au C G gen w') v a:=hp G tmps w (hs.ky fun t x hx=>(X t x hx).1);refine Z.ds.wp fun v w' ⟨hb,hr⟩=>?_;rw[Act.gn];exact h _ _ _ (hs.step hb hd hr) O
  ·rw[fQ hs hw]
   simp only[Bool.false_eq_true,if_false];rw[Act.gn];exact h _ _ _ (hs.step (Below.refl _ _) hd (.tup #[] [] rfl (by simp))) O
theorem rF {Q:dA→Prop} {Q':Exit→Act→World→Prop} {G:Gh} (J:∀ I tmps w,ew C n bx lv gen I G tmps w→Q I→Q' .normal ⟨tmps,C.ds⟩ w):∀ (fuel:Nat) (listed:Array Bool) (I:dA) (tmps:Array Value) (w:World),ew C n bx lv gen I G tmps w →
 ov P C n bx lv gen md ops Q fuel listed I→wpAny P md ops Q' fuel listed ⟨tmps,C.ds⟩ w
 | 0,_,_,_,_,hs,h=>⟨h.1,J _ _ _ hs h.2⟩
 | fuel+1,_,_,_,_,hs,h=>⟨fun h0=>J _ _ _ hs (h.1 h0),fun i hi=>xS hs (fun I tmps w M=>rF J fuel _ I tmps w M) (h.2 i hi)⟩
theorem E7 {j:Nat} {I N:Oper} {v:A} (hj:ops[j]? = some N) (O:I.apart ops N=true) {K:dA→Prop} {J:dA} (U:YA P C n bx lv gen ops I v J) (h:qA P C n bx lv gen ops j K (bK J I.dst v)) :
 qA P C n bx lv gen ops j (fun M=>YA P C n bx lv gen ops I v M∧K (bK M I.dst v)) J:=by
 obtain⟨h1,h2,h3⟩:=Oper.apart_spec O;unfold qA at *;simp only[hj] at *;obtain⟨b,hb,X⟩:=h;exact⟨b,(er h1).1 hb,(er h3).2 U,by rw[←lF J v b h2];exact X⟩
theorem uQ {Q:dA→Prop} {i:Nat} {J:Oper} {v:A} (hi:ops[i]? = some J) :
 ∀ (fuel:Nat) (listed:Array Bool) (I:dA),
   (∀ j O,ops[j]? = some O→j≠i→listed.getD j true=false→(∀ e∈O.after,Region.binds md e=true→e.on≠i)→J.apart ops O=true) →
   i∈Region.ready md ops listed→YA P C n bx lv gen ops J v I →
   ov P C n bx lv gen md ops Q fuel (listed.setIfInBounds i true) (bK I J.dst v)→ov P C n bx lv gen md ops Q (fuel+1) listed I:=by
 have take:∀ {K:dA→Prop} {I:dA},YA P C n bx lv gen ops J v I→K (bK I J.dst v)→qA P C n bx lv gen ops i K I:=by intro K I U hk;unfold qA;simp only[hi];exact⟨v,U,hk⟩
 intro fuel
 induction fuel with
 | zero=>
   intro listed I _ M U H;refine⟨fun h=>(by rw[h] at M;cases M),fun j hj=>?_⟩;by_cases hji:j=i;·subst hji;exact take U H
   ·have:=ready_mono hj hji
    rw[H.1] at this;cases this
 | succ fuel ih=>
   intro listed I N M U H;refine⟨fun h=>(by rw[h] at M;cases M),fun j hj=>?_⟩;by_cases hji:j=i;·subst hji;exact take U H
   ·have h1:=H.2 j (ready_mono hj hji)
    obtain⟨X,O,ad,aj⟩:=mem_ready.1 hj;have a1:∀ e∈O.after,Region.binds md e=true→e.on≠i:=fun e he hb heq=>by
     have h1:=aj e he hb;have h0:=(mem_ready.1 M).1;rw[heq] at h1;rcases Nat.lt_or_ge i listed.size with h' | h'
     ·simp[h'] at h0 h1;rw[h0] at h1;cases h1
     ·simp[Array.getElem?_eq_none h'] at h1
    have h2:=E7 ad (N j O ad hji X a1) U h1
    have Z:∀ k ok,ops[k]? = some ok→k≠i→(listed.setIfInBounds j true).getD k true=false →
     (∀ e∈ok.after,Region.binds md e=true→e.on≠i)→J.apart ops ok=true:=fun k ok hk a6 ai a7=>by
     refine N k ok hk a6 ?_ a7;by_cases hjk:j=k;·subst hjk;exact X
     ·rw[getD_set_ne true hjk] at ai;exact ai
    refine CF (fun a8 h3=>ih (listed.setIfInBounds j true) a8 Z (ready_mono M (Ne.symm hji)) h3.1 ?_) h2;rw[Array.setIfInBounds_comm _ _ hji];exact h3.2
def EH (P:Program) (C:Ctx) (n:Nat) (bx:List (Nat×List A)) (lv:List Nat) (gen:Nat) (ops:Array Oper) (Q:dA→Prop):List Oper→dA→Prop
 | [],φ=>Q φ
 | o::rest,φ=>∃ a,YA P C n bx lv gen ops o a φ∧EH P C n bx lv gen ops Q rest (bK φ o.dst a)
theorem ra {Q:dA→Prop}:∀ (l:List Oper) (k:Nat) (listed:Array Bool) (I:dA),(∀ j,l[j]? = ops[k+j]?) →
 Region.lexFrom md ops l.length k listed=true→EH P C n bx lv gen ops Q l I→ov P C n bx lv gen md ops Q l.length listed I
 | [],_,_,_,_,hB,h=>⟨by simpa [Region.lexFrom] using hB,h⟩
 | o::l,k,listed,I,hl,hB,h=>by
   have h0:ops[k]? = some o:=by simpa using (hl 0).symm
   simp only[List.length_cons,Region.lexFrom,Bool.and_eq_true] at hB;obtain⟨⟨M,N⟩,J⟩:=hB;obtain⟨v,O,U⟩:=h
   exact uQ h0 l.length listed I (Region.free_spec h0 N) (by simpa using M) O
    (ra l (k+1) _ _ (fun j=>by have:=hl (j+1);simpa [Nat.add_assoc,Nat.add_comm 1 j] using this) J U)
def CH (P:Program) (C:Ctx) (n:Nat) (bx:List (Nat×List A)) (lv:List Nat) (gen:Nat) (ops:Array Oper) (Q:St→Prop) (l:List Oper) (f:List (Nat×A)):Prop:=
 EH P C n bx lv gen ops (fun I=>∃ f',(∀ t,look f' t=I t)∧Q ⟨f',bx,lv,gen⟩) l (look f)
theorem dW {f:List (Nat×A)} {d:Nat} {a:A}:look ((d,a)::f)=bK (look f) (some d) a:=by funext t;rw[aN];simp only[bK];split <;> split <;> simp_all
theorem CH.nil {Q:St→Prop} {f:List (Nat×A)} (h:Q ⟨f,bx,lv,gen⟩):CH P C n bx lv gen ops Q [] f:=⟨f,fun _=>rfl,h⟩
def ck (f:List (Nat×A)):List Nat→List (Nat×A)
 | []=>[]
 | t::r=>match look f t with
   | some a=>(t,a)::ck f r
   | none=>ck f r
theorem dI {f:List (Nat×A)}:∀ {ts:List Nat} {t:Nat} {a:A},look (ck f ts) t=some a→look f t=some a∧t∈ts
 | [],t,a,h=>by simp[ck,look] at h
 | s::ts,t,a,h=>by
   simp only[ck] at h;split at h
   ·rename_i b hb
    rw[aN] at h;split at h;·rename_i e;subst e;simp only[Option.some.injEq] at h;subst h;exact⟨hb,List.mem_cons_self⟩
    ·obtain⟨h1,h2⟩:=dI h;exact⟨h1,List.mem_cons_of_mem _ h2⟩
   ·obtain⟨h1,h2⟩:=dI h;exact⟨h1,List.mem_cons_of_mem _ h2⟩
variable {op:Op} {ty:TypeId} {pos:String} {af:Array Edge} {a:A} {d:Nat} {rest:List Oper} {f:List (Nat×A)} {Q:St→Prop}
def slotsOf (op:Op):List Nat:=op.operands.toList.filterMap fun | .tmp t=>some t | _=>none
theorem aK (hp:Pu P C n ⟨ck f (slotsOf op),bx,lv,gen⟩ ⟨some d,op,ty,pos,af,none⟩ a) (hd:Nat.blt d n=true) (h:CH P C n bx lv gen ops Q rest ((d,a)::f)):CH P C n bx lv gen ops Q (⟨some d,op,ty,pos,af,none⟩::rest) f:=by unfold CH at *;rw[dW] at h;refine⟨a,⟨hd,.inl ⟨rfl,_,fun t x I=>?_,hp⟩⟩,h⟩;obtain⟨h1,h2⟩:=dI I;exact⟨h1,List.mem_append.2 (.inl h2)⟩
theorem cL {j e:Nat} {want:Bool} (hj:eK ops j=some e) (hl:look f e=some (.d (.v (.bool want)))) (hp:Pu P C n ⟨ck f (slotsOf op),bx,lv,gen⟩ ⟨some d,op,ty,pos,af,none⟩ a) (hd:Nat.blt d n=true) (h:CH P C n bx lv gen ops Q rest ((d,a)::f)) :
 CH P C n bx lv gen ops Q (⟨some d,op,ty,pos,af,some (j,want)⟩::rest) f:=by
 unfold CH at *;rw[dW] at h;refine⟨a,⟨hd,.inl ⟨⟨e,_,hj,hl,.inl ⟨want,rfl,by simp⟩⟩,_,fun t x I=>?_,hp⟩⟩,h⟩;obtain⟨h1,h2⟩:=dI I;exact⟨h1,List.mem_append.2 (.inl h2)⟩
theorem qR {j e:Nat} {want b:Bool} (hj:eK ops j=some e) (hl:look f e=some (.d (.v (.bool b)))) (hb:(b == want)=false) (hd:Nat.blt d n=true) (h:CH P C n bx lv gen ops Q rest ((d,.tup [])::f)) :
 CH P C n bx lv gen ops Q (⟨some d,op,ty,pos,af,some (j,want)⟩::rest) f:=by
 unfold CH at *;rw[dW] at h;exact⟨.tup [],⟨hd,.inr ⟨⟨e,_,hj,hl,.inl ⟨b,rfl,hb.symm⟩⟩,rfl⟩⟩,h⟩
theorem C3 {l:List Oper} {e:Nat} {b:Bool} (hl:look f e=some (.d (.v (.bool b)))) (I:b=true→CH P C n bx lv gen ops Q l ((e,.d (.v (.bool true)))::f)) (J:b=false→CH P C n bx lv gen ops Q l ((e,.d (.v (.bool false)))::f)) :
 CH P C n bx lv gen ops Q l f:=by
 have key:∀ c,b=c→look ((e,A.d (.v (.bool c)))::f)=look f:=by
  intro c M;subst M;funext t;rw[aN];split;·rename_i h;subst h;exact hl.symm
  ·rfl
 cases b;·have:=J rfl;unfold CH at *;rw[key false rfl] at this;exact this
 ·have:=I rfl;unfold CH at *;rw[key true rfl] at this;exact this
theorem W.eW (T:bA P) {id:Nat} {l:List Oper} {Q:Exit→St→Prop} (hB:Region.lexB .any l.toArray=true) (h:CH P C n bx lv gen l.toArray (Q .normal) l f):W P C n (.region id l.toArray true) Q ⟨f,bx,lv,gen⟩:=by intro tmps w ⟨G,hs⟩;simp only[Region.lexB,Bool.and_eq_true] at hB;have hb:Below w.heap.size w { w with drawn:=w.drawn+1 }:=(Below.refl _ w).drew;have I:ew C n bx lv gen (look f) G tmps { w with drawn:=w.drawn+1 }:=ew.zU (hs.gp hb).2;refine wp_region_any T.mixed (rF (Q:=fun J=>∃ f',(∀ t,look f' t=J t)∧Q .normal ⟨f',bx,lv,gen⟩) (fun J tmps w hs ⟨f',h1,h2⟩=>⟨rfl,_,⟨G,hs.ky (f:=f') fun t a M=>by rw[←h1];exact M⟩,h2⟩) _ _ _ _ _ I ?_);have:=ra (P:=P) (C:=C) (n:=n) (bx:=bx) (lv:=lv) (gen:=gen) (md:=.any) (ops:=l.toArray) l 0 (Array.replicate l.toArray.size false) (look f) (by simp) (by simpa using hB.2) h;simpa using this
end
end Go.Ab
namespace Go.Ab
open Go.RowKit
inductive RV where
 | tmp (t:Nat)
 | cell (t ty:Nat)
def RV.var:RV→ResultVar
 | .tmp t=>.tmp t
 | .cell t ty=>.cell t ty
def qV (tmps:Array Value):ResultVar→Sem Value
 | .tmp t=>pure (tmps.getD t undef)
 | .cell a t=>do loadVar t (←asAddr (tmps.getD a undef))
section
variable {P:Program} (T:bA P)
def iT (f:List (Nat×A)) (bx:List (Nat×List A)):List RV→Option (List A)
 | []=>some []
 | .tmp t::r=>match look f t,iT f bx r with
   | some a,some l=>some (a::l)
   | _,_=>none
 | .cell t ty::r=>match look f t with
   | some (.ptr g off)=>(match ae bx g with
     | some cells=>(match lE T ty (cells.drop off),iT f bx r with
       | some a,some l=>some (a::l)
       | _,_=>none)
     | none=>none)
   | _=>none
def QV (rs:List RV) (r:A) (k:Nat):Exit→St→Prop:=fun e st=>(match e with | .normal=>True | .ret=>True | _=>False)∧∃ l order,iT T st.f st.bx rs=some l∧norm order (aT l)=r∧order.length=k∧order.Nodup∧∀ g∈order,g∈st.lv
theorem jn {C:Ctx} {n:Nat} {st:St} {G:Gh} {tmps:Array Value} {w:World} (hs:ao C n st G tmps w):∀ (rs:List RV) (l:List A),iT T st.f st.bx rs=some l →
 ∃ vs:List Value,((rs.map RV.var).mapM (qV tmps)).run P w=.ok vs w∧vs.length=l.length ∧
   ∀ (i:Nat) (u:Value) (a:A),vs[i]? = some u→l[i]? = some a→aC (au C G st.gen w) u a
 | [],l,h=>by simp only[iT,Option.some.injEq] at h;subst h;exact⟨[],by simp,rfl,by simp⟩
 | .tmp t::r,l,h=>by
   simp only[iT] at h;split at h
   ·rename_i a l' I J
    simp only[Option.some.injEq] at h;subst h;obtain⟨vs,h1,h2,h3⟩:=jn hs r l' J;obtain⟨v,O,U⟩:=hs.frame _ _ I;refine⟨v::vs,?_,by simp[h2],fun i u a hu I=>?_⟩
    ·simp only[List.map_cons,RV.var,List.mapM_cons,Sem.run_bind,qV,Sem.run_pure,Result.andThen_ok,h1]
     simp[O]
    ·cases i with
     | zero=>simp at hu I;subst hu;subst I;exact U
     | succ i=>exact h3 i u a (by simpa using hu) (by simpa using I)
   ·cases h
 | .cell t ty::r,l,h=>by
   simp only[iT] at h;split at h
   ·rename_i g off ht
    split at h
    ·rename_i cells hb
     split at h
     ·rename_i a l' I J
      simp only[Option.some.injEq] at h;subst h;obtain⟨vs,h1,h2,h3⟩:=jn hs r l' J;obtain⟨v,O,U⟩:=hs.frame _ _ ht;obtain⟨b,cs,T',h4,h5,h6,h7,h8⟩:=jI hs hb U;subst h4;obtain⟨u,ad,ai⟩:=mU (E:=au C G st.gen w) T (t:=ty) (b:=b) (off:=off) (u:=fun j=>cs[off+j]?.getD default) (l:=cells.drop off) (fun j hj=>by
       have M:off+j < cs.size:=by simp at hj;omega
       have e:cs[off+j]? = some cs[off+j]:=by simp[M]
       exact⟨by show cellAt w b (off+j)=_;rw[bC h5,e];rfl,by rw[e];exact h7 _ _ e⟩) (fun j y hy=>by
       have N:cells[off+j]? = some y:=by simpa using hy
       have M:off+j < cs.size:=by rw[h6];exact(List.getElem?_eq_some_iff.1 N).1
       have e:cs[off+j]? = some cs[off+j]:=by simp[M]
       rw[e];exact h8 _ _ _ e N) I
      have X:(loadVar ty ⟨b,off,none⟩).run P w=.ok u w:=ad;refine⟨u::vs,?_,by simp[h2],fun i x a Z I=>?_⟩
      ·have hg:tmps.getD t undef=.pointer (some ⟨b,off,none⟩):=by simp[O]
       simp only[List.map_cons,RV.var,List.mapM_cons,qV,Sem.run_bind,Sem.run_pure,Result.andThen_ok,h1,hg,asAddr,X]
      ·cases i with
       | zero=>simp at Z I;subst Z;subst I;exact ai
       | succ i=>exact h3 i x a (by simpa using Z) (by simpa using I)
     ·cases h
    ·cases h
   ·cases h
theorem fH {fn:Func} {rs:List RV} (h:fn.results=(rs.map RV.var).toArray) {tmps:Array Value} {w:World} {vs:List Value}
 (I:((rs.map RV.var).mapM (qV tmps)).run P w=.ok vs w) :
 (results fn tmps).run P w=.ok (j9 vs) w:=by
 have e:results fn tmps=(do
  let vs ←fn.results.mapM (qV tmps)
  pure (if h:vs.size=1 then vs[0] else .tuple vs)):=by
  unfold results;congr 2;first | done | (congr 2;funext x;cases x <;> rfl)
 rw[e,h,Array.mapM_eq_mapM_toList];simp only[Sem.run_bind,Sem.run_map,I,Result.andThen_ok,Sem.run_pure]
 match vs with
 | []=>simp[j9]
 | [v]=>simp[j9]
 | v::v2::vs=>simp[j9]
theorem az.cZ [cc P] {f:FuncId} {fn:Func} {c:Code} {rs:List RV} {n:Nat} {args:List A} {r:A} {k:Nat} (hf:P.funcs[f]? = some fn) (b0:(fn.name == "runtime.NumGoroutine")=false) (hb:fn.body=some c) (hn:fn.ntmps=n)
 (J:fn.results=(rs.map RV.var).toArray) (hlen:Nat.ble args.length n=true) (h:∀ C,NB C 0→GC P C→W P C n c (QV T rs r k) ⟨fX 0 args,[],[],0⟩):az P f args r k:=by
 have hlen:=Nat.le_of_ble_eq_true hlen;refine⟨⟨fn,hf,b0,by rw[hb];rfl⟩,fun C O w hG hw hp hx ej cl=>?_⟩;subst hw;refine calls_of_wp hf hb (wp_mono (pk hp.2.2.2 (h C ⟨by rw[hp.2.2.1];rfl⟩ hG (O++Array.replicate (fn.ntmps - O.size) undef) C.w0 ⟨G0,?_⟩)) ?_)
 ·refine { size:=by simp[hn];omega,frame:=fun t a ha=>?_,box:=fun g cells hc=>by simp[ae] at hc,gbox:=fun g b hb=>by simp[G0] at hb,inj:=fun g M b hb=>by simp[G0] at hb,
           live:=fun g hg=>by simp at hg,gown:=fun g r J=>by simp[G0] at J,row:=fun g b len cap sz ad J=>by simp[G0] at J,mrow:=fun g b bs J=>by simp[G0] at J,sub:=fun g b bs c lim J=>by simp[G0] at J,gcell:=fun g b hb=>by simp[G0] at hb,xold:=fun b o hb=>⟨hx b o hb,hp.1 b⟩,kold:=fun b o hb=>absurd hb (hp.2.1 b o),lent:=fun i b hb=>by rw[hp.2.2.1] at hb;simp at hb,
           fr:=⟨rfl,rfl,rfl,Nat.le_refl _,fun _ _ _=>rfl,fun _ _ _ hb=>absurd hb (hp.2.1 _ _),dc.refl _⟩ }
  obtain⟨_,h1⟩:=fA args 0 t a ha;have h2:t < args.length:=(List.getElem?_eq_some_iff.1 (by simpa using h1)).1;have h3:t < O.size:=by omega
  have h4:O[t]? = some O[t]:=by simp[h3]
  exact⟨O[t],by rw[Array.getElem?_append_left h3];exact h4,cl t _ a h4 (by simpa using h1)⟩
 ·rintro e ⟨tmps,df⟩ w' ⟨hd,st,⟨G,hs⟩,he,l,order,hl,c1,b2,a7,c6⟩
  have a6:∃ v,(results fn tmps).run P w'=.ok v w'∧∃ b3 G',Ending.returned v=.returned b3∧ao C 0 ⟨[],[],List.range k,k⟩ G' #[] w'∧aC (au C G' k w') b3 r:=by
   obtain⟨vs,c7,di,dj⟩:=jn T hs rs l hl;refine⟨_,fH J c7,_,⟨fun _=>none,fun i=>if i < k then (order[i]?).bind G.own else none⟩,rfl,?_,?_⟩
   ·refine { size:=rfl,frame:=fun t a ha=>by simp[look] at ha,box:=fun g cells hc=>by simp[ae] at hc,gbox:=fun g b hb=>by simp at hb,inj:=fun g M b hb=>by simp at hb,
             live:=fun g hg=>?_,gown:=fun g r J=>?_,row:=fun g b len cap sz ad J=>?_,mrow:=fun g b bs J=>?_,sub:=fun g b bs c lim J hm=>?_,gcell:=fun g b hb=>(by cases hb),xold:=hs.xold,kold:=hs.kold,lent:=fun i b hb=>by rw[hp.2.2.1] at hb;simp at hb,fr:=hs.fr }
    ·have dt:g < k:=by simpa using hg
     have ch:g < order.length:=by omega
     obtain⟨r',I⟩:=hs.live order[g] (c6 _ (List.getElem_mem ch));exact⟨r',by simp[dt,ch,I]⟩
    ·dsimp only at J
     split at J;·assumption
     ·cases J
    ·dsimp only at J
     split at J
     ·rename_i cj
      obtain⟨g0,ai,N⟩:=Option.bind_eq_some_iff.1 J;obtain⟨h1,h2,h3,h4⟩:=hs.row g0 b len cap sz ad N;refine⟨h1,fun M=>by simp,fun M cq cx dx cy I=>?_,h4⟩;dsimp only at I;split at I
      ·obtain⟨g1,Z,X⟩:=Option.bind_eq_some_iff.1 I
       have e:=h3 g1 cq cx dx cy X;subst e;obtain⟨i1,e1⟩:=List.getElem?_eq_some_iff.1 ai;obtain⟨i2,e2⟩:=List.getElem?_eq_some_iff.1 Z;have U:=List.pairwise_iff_getElem.1 a7;rcases Nat.lt_trichotomy M g with aj | heq | a1
       ·exact absurd (e2.trans e1.symm) (U M g i2 i1 aj)
       ·exact heq
       ·exact absurd (e1.trans e2.symm) (U g M i1 i2 a1)
      ·cases I
     ·cases J
    ·dsimp only at J
     split at J
     ·rename_i cj
      obtain⟨g0,ai,N⟩:=Option.bind_eq_some_iff.1 J;obtain⟨h1,_,h3,h4⟩:=hs.mrow g0 b bs N;refine⟨h1,fun M=>by simp,fun M bs' I=>?_,h4⟩;dsimp only at I;split at I
      ·obtain⟨g1,Z,X⟩:=Option.bind_eq_some_iff.1 I
       have e:=h3 g1 bs' X;subst e;obtain⟨i1,e1⟩:=List.getElem?_eq_some_iff.1 ai;obtain⟨i2,e2⟩:=List.getElem?_eq_some_iff.1 Z;have U:=List.pairwise_iff_getElem.1 a7;rcases Nat.lt_trichotomy M g with aj | heq | a1
       ·exact absurd (e2.trans e1.symm) (U M g i2 i1 aj)
       ·exact heq
       ·exact absurd (e1.trans e2.symm) (U g M i1 i2 a1)
      ·cases I
     ·cases J
    ·dsimp only at J
     split at J
     ·rename_i cj
      obtain⟨g0,ai,N⟩:=Option.bind_eq_some_iff.1 J;obtain⟨h1,_,h3,h4,h5⟩:=hs.sub g0 b bs c lim N hm;refine⟨h1,fun M=>by simp,fun M len cap sz ad I=>?_,fun M b' bs' ei I ed=>?_,h5⟩
      ·dsimp only at I
       split at I
       ·obtain⟨g1,Z,X⟩:=Option.bind_eq_some_iff.1 I
        exact h3 g1 _ _ _ _ X
       ·cases I
      ·dsimp only at I
       split at I
       ·obtain⟨g1,Z,X⟩:=Option.bind_eq_some_iff.1 I
        obtain⟨e,e0⟩:=h4 g1 _ _ _ X ed;subst e;refine⟨?_,e0⟩;obtain⟨i1,e1⟩:=List.getElem?_eq_some_iff.1 ai;obtain⟨i2,e2⟩:=List.getElem?_eq_some_iff.1 Z;have U:=List.pairwise_iff_getElem.1 a7;rcases Nat.lt_trichotomy M g with aj | heq | a1
        ·exact absurd (e2.trans e1.symm) (U M g i2 i1 aj)
        ·exact heq
        ·exact absurd (e1.trans e2.symm) (U g M i1 i2 a1)
       ·cases I
     ·cases J
   ·rw[←c1]
    refine aC.norm (order:=order) (E:=au C G st.gen w') (E2:=au C ⟨fun _=>none,fun i=>if i < k then (order[i]?).bind G.own else none⟩ k w') (fun b o u hu hn=>⟨hu,fun hp=>hn ?_⟩) (fun g r' hg I=>?_) (by simp[au,b2]) (kD di dj)
    ·rcases(hp:aS C ⟨fun _=>none,fun i=>if i < k then (order[i]?).bind G.own else none⟩ b o) with hp | ⟨g,hp⟩ | ⟨g,len,cap,sz,ad,hp,hle⟩ | ⟨g,b',bs,lim,hp,hm,hle⟩
     ·exact Or.inl hp
     ·cases hp
     ·simp only at hp
      split at hp
      ·obtain⟨g0,_,N⟩:=Option.bind_eq_some_iff.1 hp
       exact Or.inr (Or.inr (.inl ⟨g0,len,cap,sz,ad,N,hle⟩))
      ·cases hp
     ·simp only at hp
      split at hp
      ·obtain⟨g0,_,N⟩:=Option.bind_eq_some_iff.1 hp
       exact Or.inr (Or.inr (.inr ⟨g0,b',bs,lim,N,hm,hle⟩))
      ·cases hp
    ·have a8:(if order.idxOf g < k then (order[order.idxOf g]?).bind G.own else none)=some r':=I
     rw[if_pos (by rw[←b2];exact gJ hg)] at a8;have:order[order.idxOf g]? = some g:=by rw[List.getElem?_eq_some_iff];exact⟨gJ hg,List.getElem_idxOf (gJ hg)⟩
     rw[this] at a8;exact a8
  cases e with
  | normal=>exact⟨hd.trans hp.2.2.2,a6⟩
  | ret=>exact⟨hd.trans hp.2.2.2,a6⟩
  | exit _=>exact he.elim
  | goto _=>exact he.elim
  | panic _=>exact he.elim
  | outgrown=>exact he.elim
theorem QV.aB {rs:List RV} {r:A} {e:Exit} {st:St} {l:List A} (he:match e with | .normal=>True | .ret=>True | _=>False) (hl:iT T st.f st.bx rs=some l) (I:norm [] (aT l)=r):QV T rs r 0 e st:=
 ⟨he,l,[],hl,I,rfl,List.nodup_nil,by simp⟩
variable {C:Ctx} {n:Nat} {ops:Array Oper} {Q:Exit→St→Prop} {rest l:List Oper} {c:Code}
variable {f f':List (Nat×A)} {bx bx':List (Nat×List A)} {lv lv':List Nat} {gen gen' d:Nat} {op:Op} {ty:TypeId} {pos:String} {af:Array Edge} {a:A} {dst:Option Nat}
def QE (f:List (Nat×A)) (bx:List (Nat×List A)) (lv:List Nat) (gen:Nat):Exit→St→Prop:=fun e st=>e=.normal∧Sub st.f f∧lS st.bx bx∧(∀ g∈lv,g∈st.lv)∧st.gen≤gen
theorem WO.cut (f') (bx') (lv') (gen') {st:St} (h:WO P C n ops (QE f' bx' lv' gen') l st) (J:Q .normal ⟨f',bx',lv',gen'⟩):WO P C n ops Q l st:=by
 have key:∀ (l:List Oper) (act:Act) (w:World),dS P ops (lift C n (QE f' bx' lv' gen')) l act w→dS P ops (lift C n Q) l act w:=by
  intro l
  induction l with
  | nil=>rintro act w ⟨hd,st',⟨G,hs⟩,_,h1,h2,h3,h4⟩;exact⟨hd,_,⟨G,ao.da (f:=st'.f) (bx:=st'.bx) (lv:=st'.lv) (gen:=st'.gen) hs h1 h2 h3 h4⟩,J⟩
  | cons o l I=>
    intro act w h;simp only[dS] at h ⊢;split
    ·rename_i hw
     rw[if_pos hw] at h;refine Oper.wp_mono ?_ (Q:=lift C n Q) (K:=dS P ops (lift C n (QE f' bx' lv' gen')) l) ?_;·exact I
     ·unfold Oper.wp at h ⊢
      generalize (execOp act.eval o).run P w=r at *
      cases r with
      | ok x w'=>
        cases x <;> simp only[Oper.upon] at h ⊢;case enter f args=>
         refine h.mono fun e M he=>?_
         cases e with
         | returned v=>exact he
         | panicked chain=>exact absurd he.2.choose_spec.2.1 (by simp)
         | outgrown=>obtain⟨_,_,he⟩:=he;exact absurd he.2.choose_spec.2.1 (by simp)
        all_goals exact h
      | halt x w'=>cases x <;> simp only[Oper.upon] at h ⊢;exact absurd h.2.choose_spec.2.1 (by simp)
    ·rename_i hw
     rw[if_neg hw] at h;exact I _ _ h
 exact fun tmps w hs=>key l _ w (h tmps w hs)
theorem QE.mk {st:St} (h1:Sub st.f f) (h2:lS st.bx bx) (h3:∀ g∈lv,g∈st.lv) (h4:st.gen≤gen):QE f bx lv gen .normal st:=⟨rfl,h1,h2,h3,h4⟩
theorem W.cut (f') (bx') (lv') (gen') {st:St} (h:W P C n c (fun e st=>match e with | .normal=>QE f' bx' lv' gen' .normal st | e=>Q e st) st) (I:Q .normal ⟨f',bx',lv',gen'⟩):W P C n c Q st:=
 fun tmps w hs=>wp_mono (h tmps w hs) fun e act w ⟨hd,st',⟨G,hs⟩,he⟩=>by
  cases e with
  | normal=>exact⟨hd,_,⟨G,ao.da (f:=st'.f) (bx:=st'.bx) (lv:=st'.lv) (gen:=st'.gen) hs he.2.1 he.2.2.1 he.2.2.2.1 he.2.2.2.2⟩,I⟩
  | _=>exact⟨hd,st',⟨G,hs⟩,he⟩
theorem Fo {x:Operand} {xs:Array Operand} {M:Array TypeId} {fid:FuncId} {vs:List Value} {r:Value} (hx:av f x=some (.clo fid [])) (U:iV f xs.toList=some (vs.map fun v=>A.d (.v v))) (O:∀ w,(callFunc fid vs.toArray).run P w=.ok (.value r) w) (I:cm r=true) :
 Pu P C n ⟨f,bx,lv,gen⟩ ⟨dst,.call ⟨.value x,xs,M⟩,ty,pos,af,none⟩ (.d (.v r)):=by
 intro G tmps w hs;have N:=hs.av hx;generalize hv:Act.eval ⟨tmps,[]⟩ x=v at N
 cases N with
 | clo _ cs _ X hd=>
 have Z:cs=#[]:=Array.eq_empty_of_size_eq_zero (by simpa using X);subst Z;obtain⟨h1,h2⟩:=gV hs xs.toList _ U;have J:xs.map (Act.eval ⟨tmps,[]⟩)=vs.toArray:=by
  apply Array.ext_getElem?;intro i;simp only[Array.getElem?_map,List.getElem?_toArray]
  cases hvi:vs[i]? with
  | none=>
    have:xs.size≤i:=by have:=List.getElem?_eq_none_iff.1 hvi;simp at h1;omega
    simp[this]
  | some u=>
    obtain⟨y,hy,I⟩:=h2 i (.d (.v u)) (by rw[List.getElem?_map,hvi];rfl);have ad:xs[i]? = some y:=by simpa using hy
    rw[ad];simp only[Option.map_some,Option.some.injEq];generalize Act.eval ⟨tmps,[]⟩ y=z at I ⊢;cases I with | d I=>cases I;rfl
 refine bT (v:=r) (w':=w) ?_ ⟨Below.refl _ _,.d (.v _ I)⟩;unfold execOp;show Sem.run P (do let d ←resolve (Act.eval ⟨tmps,[]⟩) ⟨.value x,xs,M⟩ ty;invoke d.target d.args) w=_;simp only[resolve,hv,Deferred.ofValue,Sem.run_bind,Sem.run_pure,Result.andThen_ok,invoke,Array.empty_append,J,Array.append_empty];exact O w
end
end Go.Ab
namespace Go.Ab
open Go.RowKit
def ui:Bool→List Oper→Option Nat
 | _,[]=>none
 | g,o::r=>match o.op,r with
   | .pick _ _ _,[]=>bif g then o.dst else none
   | .pick _ _ _,[o']=>match o'.op with
     | .assign _=>bif g then o'.dst else none
     | _=>ui (g || o.guard.isSome) r
   | .assign _,_=>none
   | _,_=>ui (g || o.guard.isSome) r
abbrev lu (b:Bool):A:=.d (.v (.bool b))
def uV (d:Nat):List (Nat×A)→List (Nat×A)→Bool
 | [],_=>true
 | (s,_)::r,f0=>(Nat.beq s d || f0.all fun x=>!Nat.beq x.1 s) && uV d r f0
section
variable {P:Program} {C:Ctx} {n:Nat} {ops:Array Oper} {Q:Exit→St→Prop} {rest l:List Oper} {c:Code}
variable {f f0 f':List (Nat×A)} {bx bx0 bx':List (Nat×List A)} {lv lv0 lv':List Nat} {gen gen0 gen' d:Nat} {op:Op} {ty:TypeId} {pos:String} {af:Array Edge} {a:A} {dst:Option Nat}
def bu (d:Nat) (y:Bool) (f:List (Nat×A)) (bx:List (Nat×List A)) (lv:List Nat) (gen:Nat):Exit→St→Prop:=fun e st=>e=.normal∧(∀ t a,look ((d,lu y)::f) t=some a→look st.f t=some a)∧st.bx=bx∧st.lv=lv∧st.gen=gen
theorem WO.AQ {y:Bool} {st:St} (h:WO P C n ops (bu d y f bx lv gen) l st) (J:Q .normal ⟨(d,lu y)::f,bx,lv,gen⟩):WO P C n ops Q l st:=by
 have key:∀ (l:List Oper) (act:Act) (w:World),dS P ops (lift C n (bu d y f bx lv gen)) l act w→dS P ops (lift C n Q) l act w:=by
  intro l
  induction l with
  | nil=>rintro act w ⟨hd,st',⟨G,hs⟩,_,h1,h2,h3,h4⟩;exact⟨hd,_,⟨G,hs.weaken (st':=⟨(d,lu y)::f,bx,lv,gen⟩) ⟨h1,by rw[←h2];exact fun _ _ h=>h,by rw[←h3];exact fun _ h=>h,h4.symm⟩⟩,J⟩
  | cons o l I=>
    intro act w h;simp only[dS] at h ⊢;split
    ·rename_i hw
     rw[if_pos hw] at h;refine Oper.wp_mono ?_ (Q:=lift C n Q) (K:=dS P ops (lift C n (bu d y f bx lv gen)) l) ?_;·exact I
     ·unfold Oper.wp at h ⊢
      generalize (execOp act.eval o).run P w=r at *
      cases r with
      | ok x w'=>
        cases x <;> simp only[Oper.upon] at h ⊢;case enter f args=>
         refine h.mono fun e M he=>?_
         cases e with
         | returned v=>exact he
         | panicked chain=>exact absurd he.2.choose_spec.2.1 (by simp)
         | outgrown=>obtain⟨_,_,he⟩:=he;exact absurd he.2.choose_spec.2.1 (by simp)
        all_goals exact h
      | halt x w'=>cases x <;> simp only[Oper.upon] at h ⊢;exact absurd h.2.choose_spec.2.1 (by simp)
    ·rename_i hw
     rw[if_neg hw] at h;exact I _ _ h
 exact fun tmps w hs=>key l _ w (h tmps w hs)
theorem aO {id:Nat} {y:Bool} (hb:ui false l=some d) (h:WO P C n l.toArray (bu d y f bx lv gen) l ⟨f,bx,lv,gen⟩) (I:Q .normal ⟨(d,lu y)::f,bx,lv,gen⟩):W P C n (.region id l.toArray false) Q ⟨f,bx,lv,gen⟩:=
 W.region (WO.AQ h I)
theorem bt {y:Bool} (hl:look f d=some (lu y)) (hd:f.drop (f.length - f0.length)=f0) (hj:uV d (f.take (f.length - f0.length)) f0=true):bu d y f0 bx lv gen .normal ⟨f,bx,lv,gen⟩:=by
 refine⟨rfl,fun t a I=>?_,rfl,rfl,rfl⟩;rw[aN] at I;split at I;·rename_i e;subst e;rw[←I];exact hl
 ·rename_i M
  dsimp only;rw[←List.take_append_drop (f.length - f0.length) f,hd];generalize f.take (f.length - f0.length)=p at hj;clear hd hl
  induction p with
  | nil=>exact I
  | cons x p J=>
    obtain⟨s,b⟩:=x;simp only[uV,Bool.and_eq_true,Bool.or_eq_true,List.all_eq_true] at hj;rw[List.cons_append,aN,if_neg];·exact J hj.2
    ·rintro rfl
     rcases hj.1 with h | h
     ·exact M (Nat.eq_of_beq_eq_true h).symm
     ·clear J
      have:∀ (l:List (Nat×A)),(∀ x∈l,(!Nat.beq x.1 s)=true)→look l s=none:=by
       intro l
       induction l with
       | nil=>intro _;rfl
       | cons y l J=>
         intro h;obtain⟨u,v⟩:=y;rw[aN,if_neg];·exact J fun x N=>h x (by simp[N])
         ·rintro rfl
          have:=h (u,v) (by simp);simp at this
      rw[this f0 h] at I;cases I
theorem bj {I J:Bool} {d0:Nat} {j e:Nat} {want b:Bool} (hj:eK ops j=some e) (hl:look f e=some (.d (.v (.bool b))))
 (M:WO P C n ops (bu d0 I f0 bx0 lv0 gen0) (⟨dst,op,ty,pos,af,some (j,want)⟩::rest) ⟨(e,.d (.v (.bool true)))::f,bx,lv,gen⟩)
 (N:WO P C n ops (bu d0 J f0 bx0 lv0 gen0) (⟨dst,op,ty,pos,af,some (j,want)⟩::rest) ⟨(e,.d (.v (.bool false)))::f,bx,lv,gen⟩) :
 WO P C n ops (bu d0 (bif b then I else J) f0 bx0 lv0 gen0) (⟨dst,op,ty,pos,af,some (j,want)⟩::rest) ⟨f,bx,lv,gen⟩:=by
 refine WO.split (st:=⟨f,bx,lv,gen⟩) hl (fun h=>?_) (fun h=>?_);·subst h;exact M
 ·subst h;exact N
end
end Go.Ab
namespace Go.Ab
open Go.RowKit
def pos:List Nat→Nat→Option Nat
 | [],_=>none
 | g::r,h=>bif Nat.beq g h then some 0 else match pos r h with
   | some i=>some (i+1)
   | none=>none
theorem cg:∀ {order:List Nat} {g i:Nat},pos order g=some i→order[i]? = some g
 | [],g,i,h=>by simp[pos] at h
 | I::r,g,i,h=>by
   simp only[pos] at h
   cases e:Nat.beq I g with
   | true=>rw[e] at h;simp only[cond_true,Option.some.injEq] at h;subst h;simp[Nat.eq_of_beq_eq_true e]
   | false=>
     rw[e] at h;simp only[cond_false] at h;split at h
     ·rename_i j hj
      simp only[Option.some.injEq] at h;subst h;simpa using cg hj
     ·cases h
mutual
def bE (order:List Nat):A→A
 | .own g es=>match pos order g with
   | some i=>.own i es
   | none=>.d (.sl es)
 | .ptr g off=>match pos order g with
   | some i=>.ptr i off
   | none=>.any
 | .xs g es=>match pos order g with
   | some i=>.xs i es
   | none=>.any
 | .xp g i off l=>match pos order g with
   | some j=>.xp j i off l
   | none=>.any
 | .mp g es=>match pos order g with
   | some i=>.mp i es
   | none=>.any
 | .mq g es=>match pos order g with
   | some i=>.mq i es
   | none=>.any
 | .mo g es h I=>match pos order g with
   | some i=>.mo i es h I
   | none=>.any
 | .bf g T s=>match pos order g with
   | some i=>.bf i T s
   | none=>.any
 | .np g T u=>match pos order g with
   | some i=>.np i T u
   | none=>.any
 | .sb g n c=>match pos order g with
   | some i=>.sb i n c
   | none=>.any
 | .fx _ _ _=>.any
 | .ol _ _ _ _=>.any
 | .ow g es v=>match pos order g with
   | some i=>.ow i es v
   | none=>.any
 | .lk g n c v=>match pos order g with
   | some i=>.lk i n c v
   | none=>.any
 | .agg l=>.agg (fm order l)
 | .tup l=>.tup (fm order l)
 | .row l=>.row (fm order l)
 | .clo f l=>.clo f (fm order l)
 | .bnd f l=>.bnd f (fm order l)
 | a=>a
def fm (order:List Nat):List A→List A
 | []=>[]
 | a::l=>bE order a::fm order l
end
theorem fF (order:List Nat):∀ l,fm order l=l.map (bE order)
 | []=>rfl
 | a::l=>by simp[fm,fF order l]
mutual
def fk:A→Bool
 | .own _ _=>false
 | .ptr _ _=>false
 | .xs _ _=>false
 | .xp _ _ _ _=>false
 | .mp _ _=>false
 | .mq _ _=>false
 | .mo _ _ _ _=>false
 | .bf _ _ _=>false
 | .np _ _ _=>false
 | .sb _ _ _=>false
 | .lk _ _ _ _=>false
 | .fx _ _ _=>false
 | .ol _ _ _ _=>false
 | .ow _ _ _=>false
 | .agg l=>iY l
 | .tup l=>iY l
 | .row l=>iY l
 | .clo _ l=>iY l
 | .bnd _ l=>iY l
 | _=>true
def iY:List A→Bool
 | []=>true
 | a::l=>fk a && iY l
end
mutual
theorem uT (order:List Nat):∀ a,fk a=true→bE order a=a
 | .own _ _,h=>by simp[fk] at h
 | .ptr _ _,h=>by simp[fk] at h
 | .xs _ _,h=>by simp[fk] at h
 | .xp _ _ _ _,h=>by simp[fk] at h
 | .mp _ _,h=>by simp[fk] at h
 | .mq _ _,h=>by simp[fk] at h
 | .mo _ _ _ _,h=>by simp[fk] at h
 | .bf _ _ _,h=>by simp[fk] at h
 | .np _ _ _,h=>by simp[fk] at h
 | .sb _ _ _,h=>by simp[fk] at h
 | .lk _ _ _ _,h=>by simp[fk] at h
 | .fx _ _ _,h=>by simp[fk] at h
 | .ol _ _ _ _,h=>by simp[fk] at h
 | .ow _ _ _,h=>by simp[fk] at h
 | .agg l,h=>by simp only[fk] at h;simp[bE,gI order l h]
 | .tup l,h=>by simp only[fk] at h;simp[bE,gI order l h]
 | .row l,h=>by simp only[fk] at h;simp[bE,gI order l h]
 | .clo _ l,h=>by simp only[fk] at h;simp[bE,gI order l h]
 | .bnd _ l,h=>by simp only[fk] at h;simp[bE,gI order l h]
 | .d _,_=>rfl
 | .ag _,_=>rfl
 | .rowd _,_=>rfl
 | .ni,_=>rfl
 | .fl _,_=>rfl
 | .any,_=>rfl
theorem gI (order:List Nat):∀ l,iY l=true→fm order l=l
 | [],_=>rfl
 | a::l,h=>by simp only[iY,Bool.and_eq_true] at h;simp[fm,uT order a h.1,gI order l h.2]
end
def lI (order:List Nat) (G:Gh):Gh:=⟨fun i=>(order[i]?).bind G.box,fun i=>(order[i]?).bind G.own⟩
theorem BE {C:Ctx} {G:Gh} {order:List Nat} {b o:Nat} (h:aS C (lI order G) b o):aS C G b o:=by
 rcases h with h | ⟨g,h⟩ | ⟨g,len,cap,sz,I,h,hle⟩ | ⟨g,J,bs,lim,h,hm,hle⟩
 ·exact Or.inl h
 ·obtain⟨g0,_,h0⟩:=Option.bind_eq_some_iff.1 h
  exact Or.inr (Or.inl ⟨g0,h0⟩)
 ·obtain⟨g0,_,h0⟩:=Option.bind_eq_some_iff.1 h
  exact Or.inr (Or.inr (.inl ⟨g0,len,cap,sz,I,h0,hle⟩))
 ·obtain⟨g0,_,h0⟩:=Option.bind_eq_some_iff.1 h
  exact Or.inr (Or.inr (.inr ⟨g0,J,bs,lim,h0,hm,hle⟩))
theorem aC.bE {C:Ctx} {G:Gh} {gen gen':Nat} {w:World} {order:List Nat} (hg:order.length≤gen') {v:Value} {a:A} (h:aC (au C G gen w) v a):aC (au C (lI order G) gen' w) v (bE order a):=by
 have Z:∀ b o u,cellAt w b o=some u→¬ aS C G b o→cellAt w b o=some u∧¬ aS C (lI order G) b o:=fun b o u h hn=>⟨h,fun hp=>hn (BE hp)⟩;have O:∀ {g i:Nat},pos order g=some i→i < gen':=fun hp=>Nat.lt_of_lt_of_le (List.getElem?_eq_some_iff.1 (cg hp)).1 hg;generalize U:au C G gen w=E at h
 induction h with
 | any x=>exact .any x
 | d hd=>subst U;exact .d (hd.mono Z)
 | ag vs l hs hd=>subst U;exact .ag vs l hs (fun i u x h1 h2=>(hd i u x h1 h2).mono Z)
 | own x g es hd X N=>
   subst U;simp only[Ab.bE];split
   ·rename_i i hp
    refine .own x i es (hd.mono Z) (O hp) (fun r M=>N r ?_);have:(order[i]?).bind G.own=some r:=M;rw[cg hp] at this;exact this
   ·exact .d (hd.mono Z)
 | agg vs l hs hone _ ih=>simp only[Ab.bE,fF];refine .agg vs _ (by simp[hs]) hone (fun i u x hu J=>?_);simp only[List.getElem?_map,Option.map_eq_some_iff] at J;obtain⟨y,hy,rfl⟩:=J;exact ih i u y hu hy
 | tup vs l hs _ ih=>simp only[Ab.bE,fF];refine .tup vs _ (by simp[hs]) (fun i u x hu J=>?_);simp only[List.getElem?_map,Option.map_eq_some_iff] at J;obtain⟨y,hy,rfl⟩:=J;exact ih i u y hu hy
 | rowd b off l u ai hd=>subst U;exact .rowd b off l u (fun j hj=>Z _ _ _ (ai j hj).1 (ai j hj).2) (fun j x J=>(hd j x J).mono Z)
 | row b off l u ai _ ih=>simp only[Ab.bE,fF];subst U;refine .row b off _ u (fun j hj=>ai j (by simpa using hj)) (fun j x J=>?_);simp only[List.getElem?_map,Option.map_eq_some_iff] at J;obtain⟨y,hy,rfl⟩:=J;exact ih j y hy
 | np x g T b0 X ad hT u hp=>
   subst U;simp only[Ab.bE];split
   ·rename_i i I
    refine .np x i T b0 (O I) ?_ (by exact hT) u hp;show(order[i]?).bind G.box=some b0;rw[cg I];exact ad
   ·exact .any _
 | sb x g n c b0 X ad hn hp=>
   subst U;simp only[Ab.bE];split
   ·rename_i i I
    refine .sb x i n c b0 (O I) ?_ hn hp;show(order[i]?).bind G.box=some b0;rw[cg I];exact ad
   ·exact .any _
 | fx=>exact .any _
 | ol=>exact .any _
 | ow x v g es hd X N=>
   subst U;simp only[Ab.bE];split
   ·rename_i i hp
    refine .ow x v i es (hd.mono Z) (O hp) (fun r M=>N r ?_);have:(order[i]?).bind G.own=some r:=M;rw[cg hp] at this;exact this
   ·exact .any _
 | lk x g n c b0 v X ad hn hp=>
   subst U;simp only[Ab.bE];split
   ·rename_i i I
    refine .lk x i n c b0 v (O I) ?_ hn hp;show(order[i]?).bind G.box=some b0;rw[cg I];exact ad
   ·exact .any _
 | ptr x g off b0 X ad hp=>
   subst U;simp only[Ab.bE];split
   ·rename_i i I
    refine .ptr x i off b0 (O I) ?_ hp;show(order[i]?).bind G.box=some b0;rw[cg I];exact ad
   ·exact .any _
 | xs x g es X h1 J=>
   subst U;simp only[Ab.bE];split
   ·rename_i i I
    refine .xs x i es (O I) h1 (fun r M=>?_);have N:(order[i]?).bind G.own=some r:=M;rw[cg I] at N;exact(J r N).da Z
   ·exact .any _
 | xp x g i off l X h1 J=>
   subst U;simp only[Ab.bE];split
   ·rename_i j I
    refine .xp x j i off l (O I) h1 (fun r M=>?_);have N:(order[j]?).bind G.own=some r:=M;rw[cg I] at N;exact(J r N).da Z
   ·exact .any _
 | ni t x=>exact .ni t x
 | fl x es hd aj=>subst U;exact .fl x es (hd.mono Z) aj
 | bf x g T s X h1 J=>
   subst U;simp only[Ab.bE];split
   ·rename_i i I
    refine .bf x i T s (O I) h1 (fun r M=>?_);have N:(order[i]?).bind G.own=some r:=M;rw[cg I] at N;exact J r N
   ·exact .any _
 | mp x g es X h1 J=>
   subst U;simp only[Ab.bE];split
   ·rename_i i I
    refine .mp x i es (O I) h1 (fun r M=>?_);have N:(order[i]?).bind G.own=some r:=M;rw[cg I] at N;exact(J r N).da Z
   ·exact .any _
 | mq x g es X h1 J=>
   subst U;simp only[Ab.bE];split
   ·rename_i i I
    refine .mq x i es (O I) h1 (fun r M=>?_);have N:(order[i]?).bind G.own=some r:=M;rw[cg I] at N;exact(J r N).da Z
   ·exact .any _
 | mo x g es hole ob X h1 J=>
   subst U;simp only[Ab.bE];split
   ·rename_i i I
    refine .mo x i es hole ob (O I) h1 (fun r M=>?_);have N:(order[i]?).bind G.own=some r:=M;rw[cg I] at N;exact(J r N).da Z
   ·exact .any _
 | clo f vs l hs _ ih=>simp only[Ab.bE,fF];refine .clo f vs _ (by simp[hs]) (fun i u x hu J=>?_);simp only[List.getElem?_map,Option.map_eq_some_iff] at J;obtain⟨y,hy,rfl⟩:=J;exact ih i u y hu hy
 | bnd f vs l hs _ ih=>simp only[Ab.bE,fF];refine .bnd f vs _ (by simp[hs]) (fun i u x hu J=>?_);simp only[List.getElem?_map,Option.map_eq_some_iff] at J;obtain⟨y,hy,rfl⟩:=J;exact ih i u y hu hy
def nodupB:List Nat→Bool
 | []=>true
 | a::l=>(l.all fun b=>!Nat.beq a b) && nodupB l
theorem dL:∀ {l:List Nat},nodupB l=true→l.Nodup
 | [],_=>List.nodup_nil
 | a::l,h=>by simp only[nodupB,Bool.and_eq_true,List.all_eq_true] at h;refine List.nodup_cons.2 ⟨fun hm=>?_,dL h.2⟩;have:=h.1 a hm;simp at this
def lU (order:List Nat) (f:List (Nat×A)):List (Nat×A)→Prop
 | []=>True
 | (t,a)::r=>(match look f t with | some x=>some (bE order x) | none=>none)=some a∧lU order f r
def lY (f:List (Nat×A)):List (Nat×A)→Prop
 | []=>True
 | (t,a)::r=>look f t=some a∧fk a=true∧lY f r
def ij (order:List Nat) (bx:List (Nat×List A)):List (Nat×List A)→Prop
 | []=>True
 | (i,l)::r=>(match order[i]? with | some g=>(match ae bx g with | some x=>some (fm order x) | none=>none) | none=>none)=some l∧ij order bx r
def jF (order:List Nat) (bx:List (Nat×List A)):List (Nat×List A)→Prop
 | []=>True
 | (i,l)::r=>(match order[i]? with | some g=>ae bx g | none=>none)=some l∧iY l=true∧jF order bx r
def pW (order lv:List Nat):List Nat→Bool
 | []=>true
 | i::r=>(match order[i]? with | some g=>lv.any fun h=>Nat.beq h g | none=>false) && pW order lv r
theorem lU.le {order:List Nat} {f:List (Nat×A)}:∀ {f':List (Nat×A)},lU order f f'→∀ t a',look f' t=some a'→∃ a,look f t=some a∧bE order a=a'
 | [],_,t,a,h=>by simp[look] at h
 | (s,b)::r,hs,t,a,h=>by
   rw[aN] at h;split at h
   ·rename_i e
    subst e;simp only[Option.some.injEq] at h;subst h;have:=hs.1;split at this
    ·rename_i x I
     simp only[Option.some.injEq] at this;exact⟨x,I,this⟩
    ·cases this
   ·exact lU.le hs.2 t a h
theorem lY.le {order:List Nat} {f:List (Nat×A)}:∀ {f':List (Nat×A)},lY f f'→∀ t a',look f' t=some a'→∃ a,look f t=some a∧bE order a=a'
 | [],_,t,a,h=>by simp[look] at h
 | (s,b)::r,hs,t,a,h=>by
   rw[aN] at h;split at h
   ·rename_i e
    subst e;simp only[Option.some.injEq] at h;subst h;exact⟨b,hs.1,uT order b hs.2.1⟩
   ·exact lY.le hs.2.2 t a h
theorem ij.le {order:List Nat} {f:List (Nat×List A)}:∀ {f':List (Nat×List A)},ij order f f'→∀ i l',ae f' i=some l'→∃ g l,order[i]? = some g∧ae f g=some l∧l.map (bE order)=l'
 | [],_,t,a,h=>by simp[ae] at h
 | (s,b)::r,hs,t,a,h=>by
   rw[bN] at h;split at h
   ·rename_i e
    subst e;simp only[Option.some.injEq] at h;subst h;have:=hs.1;split at this
    ·rename_i g I
     split at this
     ·rename_i x J
      simp only[Option.some.injEq] at this;exact⟨g,x,I,J,by rw[←this,fF]⟩
     ·cases this
    ·cases this
   ·exact ij.le hs.2 t a h
theorem jF.le {order:List Nat} {f:List (Nat×List A)}:∀ {f':List (Nat×List A)},jF order f f'→∀ i l',ae f' i=some l'→∃ g l,order[i]? = some g∧ae f g=some l∧l.map (bE order)=l'
 | [],_,t,a,h=>by simp[ae] at h
 | (s,b)::r,hs,t,a,h=>by
   rw[bN] at h;split at h
   ·rename_i e
    subst e;simp only[Option.some.injEq] at h;subst h;have:=hs.1;split at this
    ·rename_i g I
     exact⟨g,b,I,this,by rw[←fF];exact gI order b hs.2.1⟩
    ·cases this
   ·exact jF.le hs.2.2 t a h
theorem sg {order lv:List Nat}:∀ {lv':List Nat},pW order lv lv'=true→∀ i∈lv',∃ g,order[i]? = some g∧g∈lv
 | [],_,i,h=>by simp at h
 | j::r,h,i,hi=>by
   simp only[pW,Bool.and_eq_true] at h;rcases List.mem_cons.1 hi with rfl | hi
   ·have:=h.1
    split at this
    ·rename_i g I
     obtain⟨x,J,he⟩:=List.any_eq_true.1 this;exact⟨g,I,Nat.eq_of_beq_eq_true he▸J⟩
    ·cases this
   ·exact sg h.2 i hi
theorem wE {f f2:List (Nat×A)} {t:Nat} {a:A}:look (f++f2) t=some a→look f t=some a∨look f2 t=some a:=by
 induction f with
 | nil=>exact Or.inr
 | cons x f I=>
   obtain⟨s,b⟩:=x;rw[List.cons_append,aN,aN];split;·exact Or.inl
   ·exact I
theorem iN {f f2:List (Nat×List A)} {t:Nat} {a:List A}:ae (f++f2) t=some a→ae f t=some a∨ae f2 t=some a:=by
 induction f with
 | nil=>exact Or.inr
 | cons x f I=>
   obtain⟨s,b⟩:=x;rw[List.cons_append,bN,bN];split;·exact Or.inl
   ·exact I
section
variable {P:Program} {C:Ctx} {n:Nat} {ops:Array Oper} {Q:Exit→St→Prop} {rest l:List Oper} {c:Code}
variable {f f0 f':List (Nat×A)} {bx bx0 bx':List (Nat×List A)} {lv lv0 lv':List Nat} {gen gen0 gen' d:Nat}
theorem ao.bE {st:St} {G:Gh} {tmps:Array Value} {w:World} (h:ao C n st G tmps w) (order:List Nat) (a8:order.Nodup) (hg:order.length≤gen') (U:∀ i,i < C.bx.length→order[i]? = some i)
 (hf:∀ t a',look f' t=some a'→∃ a,look st.f t=some a∧Ab.bE order a=a')
 (hb:∀ i l',ae bx' i=some l'→∃ g l,order[i]? = some g∧ae st.bx g=some l∧l.map (Ab.bE order)=l')
 (hl:∀ i∈lv',∃ g,order[i]? = some g∧g∈st.lv):ao C n ⟨f',bx',lv',gen'⟩ (lI order G) tmps w:=by
 have M:∀ {i j g:Nat},order[i]? = some g→order[j]? = some g→i=j:=by
  intro i j g h1 h2;obtain⟨i1,e1⟩:=List.getElem?_eq_some_iff.1 h1;obtain⟨i2,e2⟩:=List.getElem?_eq_some_iff.1 h2;have ad:=List.pairwise_iff_getElem.1 a8;rcases Nat.lt_trichotomy i j with U | heq | b0
  ·exact absurd (e1.trans e2.symm) (ad i j i1 i2 U)
  ·exact heq
  ·exact absurd (e2.trans e1.symm) (ad j i i2 i1 b0)
 have ai:∀ {i g:Nat},order[i]? = some g→i < gen':=fun h=>Nat.lt_of_lt_of_le (List.getElem?_eq_some_iff.1 h).1 hg
 refine { size:=h.size,frame:=fun t a' Z=>?_,box:=fun i l' hc=>?_,gbox:=fun i b X=>?_,inj:=fun i j b h1 h2=>?_,live:=fun i hi=>?_,gown:=fun i r J=>?_,
          row:=fun i b len cap sz aj J=>?_,mrow:=fun i b bs J=>?_,sub:=fun i b bs c lim J hm=>?_,gcell:=fun i b X=>(let ⟨g,_,h2⟩:=Option.bind_eq_some_iff.1 X;h.gcell g b h2),xold:=h.xold,kold:=h.kold,lent:=fun i b hb=>?_,fr:=h.fr }
 ·obtain⟨a,h1,h2⟩:=hf t a' Z
  obtain⟨v,hv,J⟩:=h.frame t a h1;exact⟨v,hv,by rw[←h2];exact J.bE hg⟩
 ·obtain⟨g,l,h1,h2,h3⟩:=hb i l' hc
  obtain⟨b,cs,T,h4,h5,N,O,I⟩:=h.box g l h2;refine⟨b,cs,T,by simp[lI,h1,h4],h5,by rw[←h3];simpa using N,O,fun j u a hu Z=>?_⟩;rw[←h3,List.getElem?_map,Option.map_eq_some_iff] at Z;obtain⟨y,hy,rfl⟩:=Z;exact(I j u y hu hy).bE hg
 ·obtain⟨g,h1,h2⟩:=Option.bind_eq_some_iff.1 X
  exact⟨ai h1,(h.gbox g b h2).2⟩
 ·obtain⟨g1,h3,h4⟩:=Option.bind_eq_some_iff.1 h1
  obtain⟨g2,h5,N⟩:=Option.bind_eq_some_iff.1 h2;have e:=h.inj g1 g2 b h4 N;subst e;exact M h3 h5
 ·obtain⟨g,h1,h2⟩:=hl i hi
  obtain⟨r,J⟩:=h.live g h2;exact⟨r,by simp[lI,h1,J]⟩
 ·obtain⟨g,h1,h2⟩:=Option.bind_eq_some_iff.1 J
  exact ai h1
 ·obtain⟨g,h1,h2⟩:=Option.bind_eq_some_iff.1 J
  obtain⟨h3,h4,h5,N⟩:=h.row g b len cap sz aj h2;refine⟨h3,fun j hj=>?_,fun j a1 a6 b2 a7 hj=>?_,N⟩
  ·obtain⟨g2,_,I⟩:=Option.bind_eq_some_iff.1 hj
   exact h4 g2 I
  ·obtain⟨g2,O,I⟩:=Option.bind_eq_some_iff.1 hj
   have e:=h5 g2 a1 a6 b2 a7 I;subst e;exact M O h1
 ·obtain⟨g,h1,h2⟩:=Option.bind_eq_some_iff.1 J
  obtain⟨h3,h4,h5,N⟩:=h.mrow g b bs h2;refine⟨h3,fun j hj=>?_,fun j bs' hj=>?_,N⟩
  ·obtain⟨g2,_,I⟩:=Option.bind_eq_some_iff.1 hj
   exact h4 g2 I
  ·obtain⟨g2,O,I⟩:=Option.bind_eq_some_iff.1 hj
   have e:=h5 g2 bs' I;subst e;exact M O h1
 ·obtain⟨g,h1,h2⟩:=Option.bind_eq_some_iff.1 J
  obtain⟨h3,h4,h5,N,O⟩:=h.sub g b bs c lim h2 hm;refine⟨h3,fun j hj=>?_,fun j len cap sz aj hj=>?_,fun j b' bs' ch hj b3=>?_,O⟩
  ·obtain⟨g2,_,I⟩:=Option.bind_eq_some_iff.1 hj
   exact h4 g2 I
  ·obtain⟨g2,_,I⟩:=Option.bind_eq_some_iff.1 hj
   exact h5 g2 _ _ _ _ I
  ·obtain⟨g2,I,h9⟩:=Option.bind_eq_some_iff.1 hj
   obtain⟨e,e0⟩:=N g2 _ _ _ h9 b3;subst e;exact⟨M I h1,e0⟩
 ·have h1:=h.lent i b hb
  have h2:=U i (List.getElem?_eq_some_iff.1 hb).1;show(order[i]?).bind G.box=some b;rw[h2];exact h1
def LR (C:Ctx) (n:Nat) {ι:Type} (S:ι→St) (I:ι→Nat):Nat→St→Prop:=fun m st=>∃ i,I i=m∧∀ (tmps:Array Value) (w:World),ez C n st tmps w→ez C n (S i) tmps w
def oT:Nat→List Nat→Nat→Bool
 | 0,_,_=>true
 | _+1,[],_=>false
 | m+1,g::r,i=>Nat.beq g i && oT m r (i+1)
theorem nL:∀ {m:Nat} {l:List Nat} {i:Nat},oT m l i=true→∀ j,j < m→l[j]? = some (i+j)
 | 0,_,_,_,j,h=>absurd h (Nat.not_lt_zero _)
 | m+1,[],_,h,_,_=>by simp[oT] at h
 | m+1,g::r,i,h,j,hj=>by
   simp only[oT,Bool.and_eq_true] at h
   cases j with
   | zero=>simpa using Nat.eq_of_beq_eq_true h.1
   | succ j=>have:=nL h.2 j (by omega);simpa [Nat.add_assoc,Nat.add_comm 1 j] using this
def jb (order:List Nat) (gen I:Nat):Bool:=nodupB order && Nat.ble order.length gen && oT I order 0
theorem ez.bE {M:Nat} [hnb:NB C M] {fi:List (Nat×A)} {bi:List (Nat×List A)} (order:List Nat) (I:jb order gen' M=true) (U:lU order f f') (N:lY f fi) (hb:ij order bx bx') (O:jF order bx bi) (hl:pW order lv lv'=true)
 {tmps:Array Value} {w:World} (h:ez C n ⟨f,bx,lv,gen⟩ tmps w):ez C n ⟨f'++fi,bx'++bi,lv',gen'⟩ tmps w:=by
 obtain⟨G,h⟩:=h;simp only[jb,Bool.and_eq_true] at I;exact⟨_,h.bE order (dL I.1.1) (Nat.le_of_ble_eq_true I.1.2) (fun i hi=>by have:=nL I.2 i (by rw[←hnb.h];exact hi);simpa using this) (fun t a J=>(wE J).elim (U.le t a) (N.le t a)) (fun t a J=>(iN J).elim (hb.le t a) (O.le t a)) (sg hl)⟩
theorem W.bF {J:Nat} [hnb:NB C J] {ι:Type} (V:ι→List (Nat×A)) (fi:List (Nat×A)) (B:ι→List (Nat×List A)) (bi:List (Nat×List A)) (lv':List Nat) (gen':Nat) (I:ι→Nat) (order:List Nat) (i:ι) (O:jb order gen' J=true)
 (U:lU order f (V i)) (M:lY f fi) (hb:ij order bx (B i)) (N:jF order bx bi) (hl:pW order lv lv'=true)
 (X:∀ i,W P C n c (QL (LR C n (fun i=>⟨V i++fi,B i++bi,lv',gen'⟩) I) (I i) Q) ⟨V i++fi,B i++bi,lv',gen'⟩):W P C n (.loop c) Q ⟨f,bx,lv,gen⟩:=by
 refine W.loop (LR C n (fun i=>⟨V i++fi,B i++bi,lv',gen'⟩) I) (fun m st ⟨i,hm,hle⟩=>?_) (m:=I i) ⟨i,rfl,fun tmps w h=>ez.bE order O U M hb N hl h⟩;subst hm;exact fun tmps w hs=>X i tmps w (hle tmps w hs)
theorem W.bU {J:Nat} [hnb:NB C J] {ι:Type} {V:ι→List (Nat×A)} {fi:List (Nat×A)} {B:ι→List (Nat×List A)} {bi:List (Nat×List A)} {I:ι→Nat} {m:Nat} (order:List Nat) (i:ι) (hm:I i < m) (O:jb order gen' J=true)
 (U:lU order f (V i)) (M:lY f fi) (hb:ij order bx (B i)) (N:jF order bx bi) (hl:pW order lv lv'=true) :
 QL (LR C n (fun i=>⟨V i++fi,B i++bi,lv',gen'⟩) I) m Q .normal ⟨f,bx,lv,gen⟩:=
 ⟨I i,hm,i,rfl,fun _ _ h=>ez.bE order O U M hb N hl h⟩
end
end Go.Ab
namespace Go.Ab
open Go.RowKit
section
variable {P:Program} {C:Ctx} {n:Nat} {Q:Exit→St→Prop} {x y:Code} {st:St} {α:Type}
theorem ca {l:List α} {k:Nat} {c:Operand} {b:Bool} (I:av st.f c=some (.d (.v (.bool b)))) (hb:b=decide ((k:Int) < (l.length:Int))) (N:k≤l.length)
 (J:∀ a,l[k]? = some a→l.drop k=a::l.drop (k+1)→k < l.length→W P C n x Q st) (M:k=l.length→l.drop k=[]→W P C n y Q st):W P C n (.cond c x y) Q st:=by
 refine W.cond I (fun h=>?_) (fun h=>?_)
 ·subst hb
  have h:k < l.length:=by simpa using h
  exact J l[k] (by simp[h]) (List.drop_eq_getElem_cons h) h
 ·subst hb
  have h:k=l.length:=by
   have:¬ (k:Int) < l.length:=by simpa using h
   omega
  exact M h (by rw[h];simp)
theorem gf {s:ByteArray} {k:Nat} {b:UInt8} (h:s.data.toList[k]? = some b):s[((k:Int)).toNat]? = some b:=by
 have:s[k]? = s.data.toList[k]?:=by
  rcases Nat.lt_or_ge k s.size with I | I
  ·rw[getElem?_pos s k I,List.getElem?_eq_getElem (by simpa using I)];rfl
  ·rw[getElem?_neg s k (by simpa using I),List.getElem?_eq_none (by simpa using I)]
 simpa [this] using h
end
end Go.Ab
namespace Go.Ab
open Go.RowKit
def oV (m:Nat):List (List D)→Bool
 | []=>true
 | x::r=>Nat.beq x.length m && oV m r
theorem iL {m:Nat}:∀ {l:List (List D)},oV m l=true→∀ x∈l,x.length=m
 | [],_,x,h=>by simp at h
 | y::r,h,x,I=>by
   simp only[oV,Bool.and_eq_true] at h;rcases List.mem_cons.1 I with rfl | I
   ·exact Nat.eq_of_beq_eq_true h.1
   ·exact iL h.2 x I
section
variable {P:Program} (T:bA P) {C:Ctx} {n:Nat} {ops:Array Oper} {Q:Exit→St→Prop} {rest:List Oper} {c:Code}
variable {f:List (Nat×A)} {bx:List (Nat×List A)} {lv:List Nat} {gen d:Nat} {ty:TypeId} {pos:String} {af:Array Edge} {a:A} {dst:Option Nat}
theorem aZ {t e len:Nat} {parts:Array (Nat×Operand)} {M I:bH} {es:List (List D)} (U:ae T.l t=some M) (X:M.k=.slice e) (he:ae T.l e=some I) (N:oH f 0 parts.toList=some es) (hlen:es.length=len)
 (Z:Nat.blt 0 I.n=true) (O:Nat.ble (len*I.n) 16777216=true) (hl:oV I.n es=true) (J:Nat.blt 0 len=true):Pu P C n ⟨f,bx,lv,gen⟩ ⟨dst,.buildSlice t len parts,ty,pos,af,none⟩ (.d (.sl es)):=
 Pu.CM (st:=⟨f,bx,lv,gen⟩) T rfl U X he N hlen Z O (iL hl) J
theorem pn {t:Nat} {x lo hi:Operand} {I:bH} {s:ByteArray} {l h:Int} {J M:IntKind} (U:av f x=some (.d (.v (.string s)))) (N:av f lo=some (.d (.v (.int J l)))) (O:av f hi=some (.d (.v (.int M h)))) (X:ae T.l t=some I) (Z:I.k=.str)
 (h0:0≤l) (h1:l≤h) (h2:h≤s.size):Pu P C n ⟨f,bx,lv,gen⟩ ⟨dst,.slice t x (some lo) (some hi) none,ty,pos,af,none⟩ (.d (.v (.string (s.extract l.toNat h.toNat)))):=
 Pu.BH (st:=⟨f,bx,lv,gen⟩) T (lo:=some lo) (hi:=some hi) rfl X Z U (l:=l) (h:=h) ⟨J,N⟩ ⟨M,O⟩ h0 h1 h2
end
end Go.Ab
