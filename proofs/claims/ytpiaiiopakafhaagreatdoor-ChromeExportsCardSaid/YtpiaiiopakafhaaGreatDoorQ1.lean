import Derived.Laws.AppendOwn
import Derived.Orders
import Derived.Below
import Derived.MapKept
import Derived.Laws.StructEq
import Derived.IntWalk
import Derived.Great.BuildSlice
import Derived.WalkKit
import Derived.ProofKit
import Derived.OpenShut
import Derived.Carry
import Derived.ChangeOld
import Derived.ChangeSame
import Derived.ChangeArms
import Derived.Still
namespace Go.Ab
variable {w w':World}{tmps:Array Value}{pv:Nat→Nat→Prop}{x y:Operand}{t g i k e m j id b off gen d gen' clock sz J mt g2 t' cap d0:Nat}{P:Program}{Q':Exit→Act→World→Prop}{lv' lv gs order os:List Nat}{bs:List (Nat×Nat)}{parts:Array (Nat×Operand)}{fid:FuncId}{xs:Array Operand}{o:Oper}{fn:Func}{dst:Option Nat}{ops:Array Oper}{α ι H β:Type}{hole:Option Value}{R:Value→World→Prop}{want:Bool}{listed:Array Bool}{T ty:TypeId}{l1 l2:List Oper}{ids:List Int}{act:Act}
theorem Z{α:Sort _}{a:α}:a=a:=rfl
abbrev δ:=@List.getElem?_eq_some_iff
abbrev ε:=@Int.natCast_nonneg
abbrev ζ:=@List.mem_of_getElem?
abbrev η:=@List.length_map
abbrev θ:=@Array.getElem?_eq_some_iff
abbrev κ:=@Nat.le_of_ble_eq_true
abbrev μ:=@Bool.and_eq_true
abbrev ν:=@Option.map_eq_some_iff
abbrev ξ:=@Option.bind_eq_some_iff
abbrev ρ:=@Nat.lt_of_lt_of_le
abbrev ς:=@Nat.zero_le
abbrev τ:=@List.getElem?_map
abbrev υ:=@List.length_append
abbrev χ:=@Nat.le_refl
abbrev ψ:=@List.mem_iff_getElem?
abbrev ω:=@List.mem_cons_of_mem
abbrev Γ:=@Nat.eq_of_beq_eq_true
abbrev Δ:=@decide_eq_true_eq
abbrev Θ:=@List.getElem?_append_right
abbrev Ξ:=@List.length_cons
abbrev Φ:=@List.take_add_one
abbrev Ψ:=@List.mem_cons_self
abbrev Ω:=@List.getElem?_append_left
abbrev y':=@List.map_append
abbrev A':=@List.eq_nil_of_length_eq_zero
abbrev B':=@of_decide_eq_true
abbrev C':=@List.getElem?_set_self
abbrev D':=@List.mem_append
abbrev F':=@List.any_eq_true
abbrev I':=@List.all_eq_true
abbrev J':=@Option.some.inj
abbrev L':=@Bool.false_eq_true
abbrev M':=@List.append_assoc
abbrev N':=@List.mem_cons
abbrev O':=@of_decide_eq_false
abbrev P':=@List.take_of_length_le
abbrev R':=@List.mem_map
abbrev S':=@decide_eq_false_iff_not
abbrev U':=@List.map_cons
abbrev V':=@List.length_take
abbrev X':=@Nat.ne_of_lt
abbrev Y':=@Nat.le_trans
abbrev Z':=@Nat.lt_succ_of_lt
inductive D where
 |v (x:Value)
 |sl (es:List (List D))
structure Iv where
 P:World->(Nat->Nat->Prop)->List (Nat×Nat)->Value->Prop
 mono:∀{w w':World}{pv pv':Nat->Nat->Prop}{bs:List (Nat×Nat)}{x:Value},(∀b o u,w.cell? ⟨b,o,none⟩=some u->¬pv b o->w'.cell? ⟨b,o,none⟩=some u∧¬pv' b o)->(∀p∈bs,w'.heap[p.1]?=w.heap[p.1]?)->P w pv bs x->P w' pv' bs x
inductive A where
 |d (x:D)
 |ag (l:List D)
 |own (g:Nat) (es:List (List D))
 |agg (l:List A)
 |tup (l:List A)
 |rowd (l:List D)
 |row (l:List A)
 |ptr (g off:Nat)
 |xs (g:Nat) (es:List (List D))
 |xp (g i off:Nat) (l:List D)
 |mp (g:Nat) (es:List (Value×List D))
 |mq (g:Nat) (es:List (Value×Option (List D)))
 |mo (g:Nat) (es:List (Value×List (List D))) (hole:Option Value) (ob:Option Nat)
 |clo (f:FuncId) (caps:List A)
 |bnd (f:FuncId) (first:List A)
 |fl (es:List (List D))
 |bf (g T:Nat) (s:ByteArray)
 |np (g T:Nat) (u:Bool)
 |sb (g n c:Nat)
 |lk (g n c:Nat) (v:Value)
 |fx (g:Nat) (es:List (List D)) (u:Option Value)
 |ol (g:Nat) (E:List (List D)) (h:Nat) (es:List (List D))
 |ow (g:Nat) (es:List (List D)) (v:Value)
 |gi (g:Nat) (I:Iv)
 |ni
 |any
def eZ(w w':World):Prop:=∀(b:Nat)(cs:Array Value)(T:TypeId)(f:Nat×Nat),w.heap[b]?=some (Obj.cells cs T f)->∃cs' f',w'.heap[b]?=some (Obj.cells cs' T f')
theorem ny(h:eZ w w')(hb:∃cs T f,w.heap[b]?=some (Obj.cells cs T f)):∃cs T f,w'.heap[b]?=some (Obj.cells cs T f):=let⟨cs,T,f,h1⟩:=hb;let⟨cs',f',h2⟩:=h b cs T f h1;⟨cs',T,f',h2⟩
theorem eZ.refl(w):eZ w w:=fun _ cs _ f h=>⟨cs,f,h⟩
theorem eZ.trans{I}(h:eZ w w')(h2:eZ w' I):eZ w I:=fun b cs T f hb=>let⟨cs',f',h'⟩:=h b cs T f hb;h2 b cs' T f' h'
def dy:Value->Bool
 |.int k n=>decide (k.min<=n)&&decide (n<=k.max)
 |.string s=>decide (s.size<=maxLen)
 |.agg _=>false
 |.tuple _=>false
 |_=>true
theorem nR{x:Value}(h:dy x=true):x.oneCell'=true:=by cases x<;>simp_all[dy,Value.oneCell']
abbrev cellAt(w:World)(b o:Nat):Option Value:=w.cell? ⟨b,o,none⟩
inductive bN(w:World)(pv:Nat->Nat->Prop):Value->D->Prop
 |v (x:Value) (h:dy x=true):bN w pv x (.v x)
 |nil:bN w pv (.slice none 0 0) (.sl [])
 |emp (a:Addr) (cap:Nat) (hm:cap<=maxLen):bN w pv (.slice (some a) 0 cap) (.sl [])
 |sl (b off len cap sz:Nat) (es:List (List D)) (u:Nat->Nat->Value) (hl:es.length=len) (hc:len<=cap) (hm:cap<=maxLen)
  (hs:∀(i:Nat)(e:List D),es[i]?=some e->e.length=sz)
  (hu:∀i j,i<len->j<sz->cellAt w b (off+i*sz+j)=some (u i j)∧¬pv b (off+i*sz+j))
  (hr:∀(i j:Nat)(e:List D)(d:D),es[i]?=some e->e[j]?=some d->bN w pv (u i j) d):
  bN w pv (.slice (some ⟨b,off,none⟩) len cap) (.sl es)
theorem bN.mono{I}(h:∀b o u,cellAt w b o=some u->¬pv b o->cellAt w' b o=some u∧¬I b o){v d}(hd:bN w pv v d):bN w' I v d:=by
 induction hd with
 |v x J=>exact .v x J
 |nil=>exact .nil
 |emp a cap hm=>exact .emp a cap hm
 |sl b off len cap sz es u hl M hm hs hu _ N=>exact .sl b off len cap sz es u hl M hm hs (fun i j hi hj=>h _ _ _ (hu i j hi hj).1 (hu i j hi hj).2) N
theorem bN.one{v:Value}{d}(h:bN w pv v d):v.oneCell'=true:=by
 cases h with
 |v _ I=>exact nR I
 |nil=>rfl
 |emp=>rfl
 |sl=>rfl
inductive Row where
 |nil
 |zero (b:Nat)
 |blk (b len cap sz pub:Nat)
 |mp (b:Option Nat) (bs:List (Nat×Nat))
def Row.qF:Row->Nat->Nat->Prop
 |.blk b _ _ _ J,I,lim=>b=I∧lim=J
 |.mp b bs,I,lim=>(b=some I∧lim=0)∨(I,lim)∈bs
 |_,_,_=>False
structure En where
 w:World
 pv:Nat->Nat->Prop
 old:Nat->Prop
 box:Nat->Option Nat
 own:Nat->Option Row
 gen:Nat
def sI:Row->Value->Nat->Nat->Prop
 |.nil,v,n,_=>v=.slice none 0 0∧n=0
 |.zero b,v,n,_=>∃off,v=.slice (some ⟨b,off,none⟩) n n
 |.blk b len cap sz I,v,n,s=>v=.slice (some ⟨b,0,none⟩) len cap∧n=len∧s=sz∧I=len*sz
 |.mp _ _,_,_,_=>False
def gW(w:World)(pv:Nat->Nat->Prop):Row->Value->List (List D)->Prop
 |.nil,v,es=>v=.slice none 0 0∧es=[]
 |.zero b,v,es=>v=.slice (some ⟨b,0,none⟩) 0 0∧es=[]
 |.blk b len cap sz I,v,es=>v=.slice (some ⟨b,0,none⟩) len cap∧es.length=len∧I=0∧(∀(e:List D),e∈es->e.length=sz)∧
  ∀(i j:Nat)(e:List D)(d:D),es[i]?=some e->e[j]?=some d->∃u,cellAt w b (i*sz+j)=some u∧bN w pv u d
 |.mp _ _,_,_=>False
def uG(w:World)(pv:Nat->Nat->Prop):Row->Value->Nat->Nat->List D->Prop
 |.blk b len _ sz _,v,i,off,l=>v=.pointer (some ⟨b,i*sz+off,none⟩)∧i<len∧off+l.length=sz∧
  ∀(j:Nat)(d:D),l[j]?=some d->∃u,cellAt w b (i*sz+off+j)=some u∧bN w pv u d
 |_,_,_,_,_=>False
def yK(w:World)(pv:Nat->Nat->Prop)(v:Value):List D->Prop
 |[d]=>bN w pv v d
 |l=>∃vs:Array Value,v=.agg vs∧vs.size=l.length∧∀(j:Nat)(u:Value)(d:D),vs[j]?=some u->l[j]?=some d->bN w pv u d
theorem yK.mono{I}(h:∀b o u,cellAt w b o=some u->¬pv b o->cellAt w' b o=some u∧¬I b o){v}:∀{l:List D},yK w pv v l->yK w' I v l
 |[],⟨vs,h1,h2,h3⟩=>⟨vs,h1,h2,fun j u d hu hd=>(h3 j u d hu hd).mono h⟩
 |[_],hd=>bN.mono h hd
 |_::_::_,⟨vs,h1,h2,h3⟩=>⟨vs,h1,h2,fun j u d hu hd=>(h3 j u d hu hd).mono h⟩
def oH(w:World)(pv:Nat->Nat->Prop):Row->Value->List (Value×List D)->Prop
 |.mp (some b) _,v,es=>v=.map (some b)∧∃I clock,w.heap[b]?=some (.map I clock)∧Go.MapKept.Stamped I clock∧I.size=es.length∧
  ∀(i:Nat)(m:MapEntry)(k:Value)(l:List D),I[i]?=some m->es[i]?=some (k,l)->m.key=k∧dy k=true∧yK w pv m.val l
 |_,_,_=>False
def fV(cur:Array Value):Prop:=∀(i:Nat)(u:Value),cur[i]?=some u->u.oneCell'=true
def nn(w:World):Option Nat->List (Nat×Nat)->Value->List (List D)->Prop
 |none,_,v,l=>(v=.slice none 0 0∧l=[])∨∃c off,v=.slice (some ⟨c,off,none⟩) l.length l.length
 |some b,bs,v,l=>∃cap sz cur T,v=.slice (some ⟨b,0,none⟩) l.length cap∧(b,l.length*sz)∈bs∧(∀(e:List D),e∈l->e.length=sz)∧0<sz∧0<l.length∧l.length<=cap∧cap<=maxLen∧
   w.heap[b]?=some (.cells cur T (0,0))∧cur.size=cap*sz∧fV cur
def nK(w:World)(pv:Nat->Nat->Prop):Row->Value->List (Value×List (List D))->Option Value->Prop
 |.mp (some b) bs,v,es,hole=>v=.map (some b)∧∃I clock,w.heap[b]?=some (.map I clock)∧Go.MapKept.Stamped I clock∧I.size=es.length∧
  ∃ps:Value->Option Nat,(∀(k J:Value)(l l':List (List D))(c:Nat),(k,l)∈es->(J,l')∈es->hole≠some k->hole≠some J->ps k=some c->ps J=some c->k=J)∧
    ∀(i:Nat)(m:MapEntry)(k:Value)(l:List (List D)),I[i]?=some m->es[i]?=some (k,l)->m.key=k∧dy k=true∧bN w pv m.val (.sl l)∧(hole≠some k->nn w (ps k) bs m.val l)
 |_,_,_,_=>False
def qf(w:World)(pv:Nat->Nat->Prop):Row->Value->List (Value×Option (List D))->Prop
 |.mp (some b) bs,v,es=>v=.map (some b)∧∃I clock,w.heap[b]?=some (.map I clock)∧Go.MapKept.Stamped I clock∧I.size=es.length∧
  ∃ps:Value->Nat,(∀(k J:Value)(l l':List D),(k,some l)∈es->(J,some l')∈es->ps k=ps J->k=J)∧
    ∀(i:Nat)(m:MapEntry)(k:Value)(o:Option (List D)),I[i]?=some m->es[i]?=some (k,o)->m.key=k∧dy k=true∧dy m.val=true∧∀l,o=some l->m.val=.pointer (some ⟨ps k,0,none⟩)∧(ps k,0)∈bs∧
      ∃cur T,w.heap[ps k]?=some (.cells cur T (0,0))∧cur.size=l.length∧fV cur∧∀(j:Nat)(u:Value)(d:D),cur[j]?=some u->l[j]?=some d->bN w pv u d
 |_,_,_=>False
def uI(w:World)(pv:Nat->Nat->Prop)(I:Iv):Row->Value->Prop
 |.mp none bs,v=>I.P w pv bs v
 |_,_=>False
def Al(w:World):Row->Value->Nat->ByteArray->Prop
 |.nil,v,_,s=>v=.slice none 0 0∧s.size=0
 |.blk b len cap sz I,v,T,s=>v=.slice (some ⟨b,0,none⟩) len cap∧s.size=len∧sz=1∧I=0∧(∃cs f,w.heap[b]?=some (.cells cs T f))∧
  ∀(i:Nat)(c:UInt8),s.data[i]?=some c->cellAt w b i=some (.int .u8 c.toNat)
 |_,_,_,_=>False
inductive bK(E:En):Value->A->Prop
 |any (x:Value):bK E x .any
 |ni (t:TypeId) (x:Value):bK E (.iface t x) .ni
 |bf (x:Value) (g T:Nat) (s:ByteArray) (hg:g<E.gen) (h1:x.oneCell'=true) (h:∀r,E.own g=some r->Al E.w r x T s):bK E x (.bf g T s)
 |np (x:Value) (g T b:Nat) (hg:g<E.gen) (hb:E.box g=some b) (hT:∃cs f,E.w.heap[b]?=some (.cells cs T f)) (u:Bool) (h:x=.pointer (if u then some ⟨b,0,none⟩else none)):bK E x (.np g T u)
 |sb (x:Value) (g n c b:Nat) (hg:g<E.gen) (hb:E.box g=some b) (hn:n<=c∧c<=maxLen) (h:x=.slice (some ⟨b,0,none⟩) n c):bK E x (.sb g n c)
 |lk (x:Value) (g n c b:Nat) (v:Value) (hg:g<E.gen) (hb:E.box g=some b) (hn:n<=c∧c<=maxLen) (h:v=.slice (some ⟨b,0,none⟩) n c):bK E x (.lk g n c v)
 |fx (x u:Value) (g:Nat) (es:List (List D)) (ou:Option Value) (hx:bN E.w E.pv x (.sl [[.v u]])) (hg:g<E.gen) (h:∀r,E.own g=some r->gW E.w E.pv r u es) (ho:∀y,ou=some y->y=u):bK E x (.fx g es ou)
 |ol (x u:Value) (g':Nat) (E':List (List D)) (g:Nat) (es:List (List D)) (hx:bN E.w E.pv x (.sl (E'++[[.v u]]))) (hg':g'<E.gen)
  (hr:∀r,E.own g'=some r->∃s,(∀(e:List D),e∈E'++[[D.v u]]->e.length=s)∧sI r x (E'++[[D.v u]]).length s) (hg:g<E.gen) (h:∀r,E.own g=some r->gW E.w E.pv r u es):bK E x (.ol g' E' g es)
 |ow (x v:Value) (g:Nat) (es:List (List D)) (h:bN E.w E.pv v (.sl es)) (hg:g<E.gen)
  (hr:∀r,E.own g=some r->∃s,(∀(e:List D),e∈es->e.length=s)∧sI r v es.length s):bK E x (.ow g es v)
 |gi (x:Value) (g:Nat) (I:Iv) (hg:g<E.gen) (h:∀r,E.own g=some r->uI E.w E.pv I r x):bK E x (.gi g I)
 |fl (x:Value) (es:List (List D)) (h:bN E.w E.pv x (.sl es)) (hc:∃a,x=.slice a es.length es.length):bK E x (.fl es)
 |d {x:Value} {y:D} (h:bN E.w E.pv x y):bK E x (.d y)
 |ag (vs:Array Value) (l:List D) (hs:vs.size=l.length) (h:∀(i:Nat)(u:Value)(x:D),vs[i]?=some u->l[i]?=some x->bN E.w E.pv u x):bK E (.agg vs) (.ag l)
 |own (x:Value) (g:Nat) (es:List (List D)) (h:bN E.w E.pv x (.sl es)) (hg:g<E.gen)
  (hr:∀r,E.own g=some r->∃s,(∀(e:List D),e∈es->e.length=s)∧sI r x es.length s):bK E x (.own g es)
 |agg (vs:Array Value) (l:List A) (hs:vs.size=l.length) (ho:∀(i:Nat)(u:Value),vs[i]?=some u->u.oneCell'=true) (h:∀(i:Nat)(u:Value)(x:A),vs[i]?=some u->l[i]?=some x->bK E u x):bK E (.agg vs) (.agg l)
 |tup (vs:Array Value) (l:List A) (hs:vs.size=l.length) (h:∀(i:Nat)(u:Value)(x:A),vs[i]?=some u->l[i]?=some x->bK E u x):bK E (.tuple vs) (.tup l)
 |rowd (b off:Nat) (l:List D) (u:Nat->Value) (hc:∀j,j<l.length->cellAt E.w b (off+j)=some (u j)∧¬E.pv b (off+j))
  (h:∀(j:Nat)(x:D),l[j]?=some x->bN E.w E.pv (u j) x):bK E (.pointer (some ⟨b,off,none⟩)) (.rowd l)
 |row (b off:Nat) (l:List A) (u:Nat->Value) (hc:∀j,j<l.length->cellAt E.w b (off+j)=some (u j)∧E.old b∧(u j).oneCell'=true)
  (h:∀(j:Nat)(x:A),l[j]?=some x->bK E (u j) x):bK E (.pointer (some ⟨b,off,none⟩)) (.row l)
 |ptr (x:Value) (g off b:Nat) (hg:g<E.gen) (hb:E.box g=some b) (h:x=.pointer (some ⟨b,off,none⟩)):bK E x (.ptr g off)
 |xs (x:Value) (g:Nat) (es:List (List D)) (hg:g<E.gen) (h1:x.oneCell'=true) (h:∀r,E.own g=some r->gW E.w E.pv r x es):bK E x (.xs g es)
 |xp (x:Value) (g i off:Nat) (l:List D) (hg:g<E.gen) (h1:x.oneCell'=true) (h:∀r,E.own g=some r->uG E.w E.pv r x i off l):bK E x (.xp g i off l)
 |mp (x:Value) (g:Nat) (es:List (Value×List D)) (hg:g<E.gen) (h1:x.oneCell'=true) (h:∀r,E.own g=some r->oH E.w E.pv r x es):bK E x (.mp g es)
 |mq (x:Value) (g:Nat) (es:List (Value×Option (List D))) (hg:g<E.gen) (h1:x.oneCell'=true) (h:∀r,E.own g=some r->qf E.w E.pv r x es):bK E x (.mq g es)
 |mo (x:Value) (g:Nat) (es:List (Value×List (List D))) (hole:Option Value) (ob:Option Nat) (hg:g<E.gen) (h1:x.oneCell'=true∧∀b,ob=some b->x=.map (some b)) (h:∀r,E.own g=some r->nK E.w E.pv r x es hole):bK E x (.mo g es hole ob)
 |clo (f:FuncId) (vs:Array Value) (l:List A) (hs:vs.size=l.length) (h:∀(i:Nat)(u:Value)(x:A),vs[i]?=some u->l[i]?=some x->bK E u x):
  bK E (.func (.func f) #[] vs) (.clo f l)
 |bnd (f:FuncId) (vs:Array Value) (l:List A) (hs:vs.size=l.length) (h:∀(i:Nat)(u:Value)(x:A),vs[i]?=some u->l[i]?=some x->bK E u x):
  bK E (.func (.func f) vs #[]) (.bnd f l)
structure En.le(E E':En):Prop where
 cell:∀b o u,cellAt E.w b o=some u->¬E.pv b o->cellAt E'.w b o=some u∧¬E'.pv b o
 old:∀b o u,cellAt E.w b o=some u->E.old b->cellAt E'.w b o=some u∧E'.old b
 box:∀g b,E.box g=some b->E'.box g=some b
 own:∀g r,g<E.gen->E'.own g=some r->E.own g=some r
 gen:E.gen<=E'.gen
 exb:∀g b len cap sz pub,g<E.gen->E'.own g=some (.blk b len cap sz pub)->E'.w.heap[b]?=E.w.heap[b]?
 mp:∀g b bs,g<E.gen->E'.own g=some (.mp b bs)->(∀c,b=some c->E'.w.heap[c]?=E.w.heap[c]?)∧∀p∈bs,E'.w.heap[p.1]?=E.w.heap[p.1]?
 ty:eZ E.w E'.w
theorem En.le.ex{E E':En}(h:E.le E')(g b len cap sz I o u)(J:g<E.gen)(M:E'.own g=some (.blk b len cap sz I))(_:o<len*sz)(hu:cellAt E.w b o=some u):cellAt E'.w b o=some u:=by have e:=h.exb g b len cap sz I J M;simp only[cellAt,World.cell?,e]at hu⊢;grind
theorem oO{E:En}{I:Nat}{x:Value}(J:E.box g=some I)(M:x=.pointer (some ⟨I,off,none⟩)):∀b,E.box g=some b->x=.pointer (some ⟨b,off,none⟩):=by grind
theorem Aa{len}(hi:i<len)(hj:j<sz):i*sz+j<len*sz:=by
 calc i*sz+j<i*sz+sz:=by omega
  _=(i+1)*sz:=by rw[Nat.succ_mul]
  _<=len*sz:=Nat.mul_le_mul_right _ hi
theorem gW.mono{E E':En}(h:E.le E'){r}(M:g<E.gen)(N:E'.own g=some r){v es}(I:gW E.w E.pv r v es):gW E'.w E'.pv r v es:=by
 cases r with
 |nil=>exact I
 |zero b=>exact I
 |mp b bs=>exact I
 |blk b len cap sz J=>
   obtain⟨h1,h2,h3,h4,h5⟩:=I;refine⟨h1,h2,h3,h4,fun i j e d hi hj=>?_⟩;obtain⟨u,hu,hd⟩:=h5 i j e d hi hj;have O:i<len:=by rw[<-h2];exact(δ.1 hi).1
   have U:j<sz:=by rw[<-h4 e (ζ hi)];exact(δ.1 hj).1
   exact⟨u,h.ex g b len cap sz J _ u M N (Aa O U) hu,hd.mono h.cell⟩
theorem gW.ek{J}(h:∀b o u,cellAt w b o=some u->¬pv b o->cellAt w b o=some u∧¬J b o){r v es}(I:gW w pv r v es):gW w J r v es:=by
 cases r with
 |nil=>exact I
 |zero b=>exact I
 |mp b bs=>exact I
 |blk b len cap sz M=>obtain⟨h1,h2,h3,h4,h5⟩:=I;refine⟨h1,h2,h3,h4,fun i j e d hi hj=>?_⟩;obtain⟨u,hu,hd⟩:=h5 i j e d hi hj;exact⟨u,hu,hd.mono h⟩
theorem uG.ek{J}(h:∀b o u,cellAt w b o=some u->¬pv b o->cellAt w b o=some u∧¬J b o){r v l}(I:uG w pv r v i off l):uG w J r v i off l:=by
 cases r with
 |nil=>exact I
 |zero b=>exact I
 |mp b bs=>exact I
 |blk b len cap sz M=>obtain⟨h1,h2,h3,h5⟩:=I;refine⟨h1,h2,h3,fun j d hj=>?_⟩;obtain⟨u,hu,hd⟩:=h5 j d hj;exact⟨u,hu,hd.mono h⟩
theorem oH.ek{J}(h:∀b o u,cellAt w b o=some u->¬pv b o->cellAt w b o=some u∧¬J b o){r v es}(I:oH w pv r v es):oH w J r v es:=by
 cases r with
 |nil=>exact I
 |zero b=>exact I
 |blk b len cap sz ad=>exact I
 |mp b bs=>
   cases b with
   |none=>exact I.elim
   |some b=>
   obtain⟨h1,N,clock,h2,M,h3,h4⟩:=I;refine⟨h1,N,clock,h2,M,h3,fun i m k l hm O=>?_⟩;obtain⟨h5,U,X⟩:=h4 i m k l hm O;exact⟨h5,U,X.mono h⟩
theorem uG.mono{E E':En}(h:E.le E'){r}(M:g<E.gen)(N:E'.own g=some r){v l}(I:uG E.w E.pv r v i off l):uG E'.w E'.pv r v i off l:=by
 cases r with
 |nil=>exact I
 |zero b=>exact I
 |mp b bs=>exact I
 |blk b len cap sz J=>obtain⟨h1,h2,h3,h5⟩:=I;refine⟨h1,h2,h3,fun j d hj=>?_⟩;obtain⟨u,hu,hd⟩:=h5 j d hj;have O:j<l.length:=(δ.1 hj).1;exact⟨u,h.ex g b len cap sz J _ u M N (by rw[Nat.add_assoc];exact Aa h2 (by omega)) hu,hd.mono h.cell⟩
theorem oH.mono{E E':En}(h:E.le E'){r}(M:g<E.gen)(N:E'.own g=some r){v es}(I:oH E.w E.pv r v es):oH E'.w E'.pv r v es:=by
 cases r with
 |nil=>exact I
 |zero b=>exact I
 |blk b len cap sz ad=>exact I
 |mp b bs=>
   cases b with
   |none=>exact I.elim
   |some b=>
   obtain⟨h1,O,clock,h2,J,h3,h4⟩:=I;refine⟨h1,O,clock,by rw[(h.mp g _ bs M N).1 b rfl];exact h2,J,h3,fun i m k l hm U=>?_⟩;obtain⟨h5,X,h7⟩:=h4 i m k l hm U;exact⟨h5,X,h7.mono h.cell⟩
theorem nK.ek{J}(h:∀b o u,cellAt w b o=some u->¬pv b o->cellAt w b o=some u∧¬J b o){r v es}(I:nK w pv r v es hole):nK w J r v es hole:=by
 cases r with
 |nil=>exact I
 |zero b=>exact I
 |blk b len cap sz ad=>exact I
 |mp b bs=>
   cases b with
   |none=>exact I.elim
   |some b=>
   obtain⟨h1,O,clock,h2,N,h3,ps,M,h4⟩:=I;refine⟨h1,O,clock,h2,N,h3,ps,M,fun i m k l hm U=>?_⟩;obtain⟨h5,X,h7,h8⟩:=h4 i m k l hm U;exact⟨h5,X,h7.mono h,h8⟩
theorem nK.mono{E E':En}(h:E.le E'){r}(O:g<E.gen)(U:E'.own g=some r){v es}(I:nK E.w E.pv r v es hole):nK E'.w E'.pv r v es hole:=by
 cases r with
 |nil=>exact I
 |zero b=>exact I
 |blk b len cap sz ad=>exact I
 |mp b bs=>
   cases b with
   |none=>exact I.elim
   |some b=>
   obtain⟨h1,X,clock,h2,N,h3,ps,J,h4⟩:=I;obtain⟨e1,e2⟩:=h.mp g _ bs O U;refine⟨h1,X,clock,by rw[e1 b rfl];exact h2,N,h3,ps,J,fun i m k l hm hk=>?_⟩;obtain⟨h5,h6,h7,h8⟩:=h4 i m k l hm hk;refine⟨h5,h6,h7.mono h.cell,fun hh=>?_⟩;have M:=h8 hh;generalize ps k=q at M
   cases q with
   |none=>exact M
   |some c=>obtain⟨cap,sz,cur,T,a1,a2,a3,a4,a5,a6,a7,a8,a9⟩:=M;exact⟨cap,sz,cur,T,a1,a2,a3,a4,a5,a6,a7,by rw[e2 _ a2];exact a8,a9⟩
theorem qf.ek{J}(h:∀b o u,cellAt w b o=some u->¬pv b o->cellAt w b o=some u∧¬J b o){r v es}(I:qf w pv r v es):qf w J r v es:=by
 cases r with
 |nil=>exact I
 |zero b=>exact I
 |blk b len cap sz ad=>exact I
 |mp b bs=>
   cases b with
   |none=>exact I.elim
   |some b=>
   obtain⟨h1,O,clock,h2,N,h3,ps,M,h4⟩:=I;refine⟨h1,O,clock,h2,N,h3,ps,M,fun i m k o hm U=>?_⟩;obtain⟨h5,X,h7,h8⟩:=h4 i m k o hm U;refine⟨h5,X,h7,fun l hl=>?_⟩;obtain⟨a1,a2,cur,T,a3,a4,a5,a6⟩:=h8 l hl;exact⟨a1,a2,cur,T,a3,a4,a5,fun j u d hu hd=>(a6 j u d hu hd).mono h⟩
theorem qf.mono{E E':En}(h:E.le E'){r}(N:g<E.gen)(O:E'.own g=some r){v es}(I:qf E.w E.pv r v es):qf E'.w E'.pv r v es:=by
 cases r with
 |nil=>exact I
 |zero b=>exact I
 |blk b len cap sz ad=>exact I
 |mp b bs=>
   cases b with
   |none=>exact I.elim
   |some b=>
   obtain⟨h1,U,clock,h2,M,h3,ps,J,h4⟩:=I;obtain⟨X,e2⟩:=h.mp g _ bs N O;refine⟨h1,U,clock,by rw[X b rfl];exact h2,M,h3,ps,J,fun i m k o hm hk=>?_⟩;obtain⟨h5,h6,h7,h8⟩:=h4 i m k o hm hk;refine⟨h5,h6,h7,fun l hl=>?_⟩;obtain⟨a1,a2,cur,T,a3,a4,a5,a6⟩:=h8 l hl;exact⟨a1,a2,cur,T,by rw[e2 _ a2];exact a3,a4,a5,fun j u d hu hd=>(a6 j u d hu hd).mono h.cell⟩
theorem uI.ek{M}{I:Iv}(h:∀b o u,cellAt w b o=some u->¬pv b o->cellAt w b o=some u∧¬M b o){r v}(J:uI w pv I r v):uI w M I r v:=by
 cases r with
 |nil=>exact J
 |zero b=>exact J
 |blk b len cap sz N=>exact J
 |mp b bs=>
   cases b with
   |some b=>exact J.elim
   |none=>exact I.mono h (fun _ _=>rfl) J
theorem uI.mono{E E':En}(h:E.le E'){I:Iv}{r}(M:g<E.gen)(N:E'.own g=some r){v}(J:uI E.w E.pv I r v):uI E'.w E'.pv I r v:=by
 cases r with
 |nil=>exact J
 |zero b=>exact J
 |blk b len cap sz O=>exact J
 |mp b bs=>
   cases b with
   |some b=>exact J.elim
   |none=>exact I.mono h.cell (h.mp g _ bs M N).2 J
theorem Al.mono{E E':En}(h:E.le E'){r}(M:g<E.gen)(N:E'.own g=some r){v T s}(I:Al E.w r v T s):Al E'.w r v T s:=by
 cases r with
 |nil=>exact I
 |zero b=>exact I
 |mp b bs=>exact I
 |blk b len cap sz J=>obtain⟨h1,h2,h3,h4,⟨cs,f,h5⟩,O⟩:=I;have e:=h.exb g b len cap sz J M N;refine⟨h1,h2,h3,h4,⟨cs,f,by rw[e];exact h5⟩,fun i c U=>?_⟩;have:=O i c U;simp only[cellAt,World.cell?,e]at this⊢;grind
theorem bK.mono{E E':En}(h:E.le E'){v a}(M:bK E v a):bK E' v a:=by
 induction M with
 |any x=>exact .any x
 |d hd=>exact .d (hd.mono h.cell)
 |ag vs l hs hd=>exact .ag vs l hs (fun i u x h1 h2=>(hd i u x h1 h2).mono h.cell)
 |own x g es hd J M=>exact .own x g es (hd.mono h.cell) (ρ J h.gen) (fun r X=>M r (h.own g r J X))
 |ow x v g es hd J M=>exact .ow x v g es (hd.mono h.cell) (ρ J h.gen) (fun r X=>M r (h.own g r J X))
 |gi x g I J N=>exact .gi x g I (ρ J h.gen) (fun r M=>(N r (h.own g r J M)).mono h J M)
 |agg vs l hs ho _ U=>exact .agg vs l hs ho U
 |tup vs l hs _ U=>exact .tup vs l hs U
 |rowd b off l u O hd=>exact .rowd b off l u (fun j hj=>h.cell _ _ _ (O j hj).1 (O j hj).2) (fun j x N=>(hd j x N).mono h.cell)
 |row b off l u O _ U=>exact .row b off l u (fun j hj=>⟨(h.old _ _ _ (O j hj).1 (O j hj).2.1).1,(h.old _ _ _ (O j hj).1 (O j hj).2.1).2,(O j hj).2.2⟩) U
 |ptr x g off b J hb hp=>exact .ptr x g off b (ρ J h.gen) (h.box g b hb) hp
 |xs x g es J h1 N=>exact .xs x g es (ρ J h.gen) h1 (fun r M=>(N r (h.own g r J M)).mono h J M)
 |xp x g i off l J h1 N=>exact .xp x g i off l (ρ J h.gen) h1 (fun r M=>(N r (h.own g r J M)).mono h J M)
 |ni t x=>exact .ni t x
 |fl x es hd O=>exact .fl x es (hd.mono h.cell) O
 |np x g T b J hb hT u N=>obtain⟨cs,f,hT⟩:=hT;exact .np x g T b (ρ J h.gen) (h.box g b hb) (h.ty b cs T f hT) u N
 |sb x g n c b J hb hn N=>exact .sb x g n c b (ρ J h.gen) (h.box g b hb) hn N
 |fx x u g es ou N J hu ho=>exact .fx x u g es ou (N.mono h.cell) (ρ J h.gen) (fun r M=>(hu r (h.own g r J M)).mono h J M) ho
 |ol x u g' E' g es N ad X J hu=>exact .ol x u g' E' g es (N.mono h.cell) (ρ ad h.gen) (fun r M=>X r (h.own g' r ad M)) (ρ J h.gen) (fun r M=>(hu r (h.own g r J M)).mono h J M)
 |lk x g n c b v J hb hn N=>exact .lk x g n c b v (ρ J h.gen) (h.box g b hb) hn N
 |bf x g T s J h1 N=>exact .bf x g T s (ρ J h.gen) h1 (fun r M=>(N r (h.own g r J M)).mono h J M)
 |mp x g es J h1 N=>exact .mp x g es (ρ J h.gen) h1 (fun r M=>(N r (h.own g r J M)).mono h J M)
 |mq x g es J h1 N=>exact .mq x g es (ρ J h.gen) h1 (fun r M=>(N r (h.own g r J M)).mono h J M)
 |mo x g es hole ob J h1 N=>exact .mo x g es hole ob (ρ J h.gen) h1 (fun r M=>(N r (h.own g r J M)).mono h J M)
 |clo f vs l hs _ U=>exact .clo f vs l hs U
 |bnd f vs l hs _ U=>exact .bnd f vs l hs U
def look(f:List (Nat×A))(t:Nat):Option A:=
 match f with
 |[]=>none
 |(s,a)::r=>bif Nat.beq s t then some a else look r t
def bh{α:Type}(f:List (Nat×α))(t:Nat):Option α:=
 match f with
 |[]=>none
 |(s,a)::r=>bif Nat.beq s t then some a else bh r t
structure St where
 f:List (Nat×A)
 bx:List (Nat×List A)
 lv:List Nat
 gen:Nat
structure Ctx where
 w0:World
 fp:Nat->Prop
 x:Nat->Nat->Prop
 keep:Nat->Nat->Prop:=fun _ _=>False
 bx:List Nat:=[]
 ds:List Deferred:=[]
structure Gh where
 box:Nat->Option Nat
 own:Nat->Option Row
def cf(C:Ctx)(G:Gh)(b o:Nat):Prop:=
 C.x b o∨(∃g,G.box g=some b)∨(∃g len cap sz I,G.own g=some (.blk b len cap sz I)∧I<=o)∨∃g J bs lim,G.own g=some (.mp J bs)∧(b,lim)∈bs∧lim<=o
def Ctx.jF(C:Ctx)(b lim:Nat):Prop:=(C.w0.heap.size<=b∨C.fp b)∧∀o,C.keep b o->o<lim
def bu(C:Ctx)(G:Gh)(gen:Nat)(w:World):En:=
 {w:=w,pv:=cf C G,old:=fun b=>b<C.w0.heap.size∧¬C.fp b,box:=G.box,own:=G.own,gen:=gen}
structure Fr(C:Ctx)(w:World):Prop where
 os:w.os=C.w0.os
 tape:w.tape=C.w0.tape
 output:w.output=C.w0.output
 size:C.w0.heap.size<=w.heap.size
 block:∀b,b<C.w0.heap.size->¬C.fp b->w.heap[b]?=C.w0.heap[b]?
 cells:∀b o u,C.keep b o->cellAt C.w0 b o=some u->cellAt w b o=some u
 ty:eZ C.w0 w
theorem aB{cur:Array Value}(h:∀u∈cur.toList,u.oneCell'=true):fV cur:=fun i u hu=>h u (ψ.2 ⟨i,by simpa using hu⟩)
theorem fV.of{cur:Array Value}(h:fV cur):∀u∈cur.toList,u.oneCell'=true:=fun u hu=>let⟨i,hi⟩:=ψ.1 hu;h i u (by simpa using hi)
structure bq(C:Ctx)(n:Nat)(st:St)(G:Gh)(tmps:Array Value)(w:World):Prop where
 size:tmps.size=n
 frame:∀t a,look st.f t=some a->∃v,tmps[t]?=some v∧bK (bu C G st.gen w) v a
 box:∀g cells,bh st.bx g=some cells->∃b cs T,G.box g=some b∧w.heap[b]?=some (.cells cs T (0,0))∧cs.size=cells.length∧
  (∀(i:Nat)(u:Value),cs[i]?=some u->u.oneCell'=true)∧∀(i:Nat)(u:Value)(a:A),cs[i]?=some u->cells[i]?=some a->bK (bu C G st.gen w) u a
 gbox:∀g b,G.box g=some b->g<st.gen∧b<w.heap.size∧C.jF b 0
 gcell:∀g b,G.box g=some b->∃cs T f,w.heap[b]?=some (Obj.cells cs T f)
 inj:∀g g' b,G.box g=some b->G.box g'=some b->g=g'
 live:∀g∈st.lv,∃r,G.own g=some r
 gown:∀g r,G.own g=some r->g<st.gen
 row:∀g b len cap sz pub,G.own g=some (.blk b len cap sz pub)->C.jF b pub∧(∀g',G.box g'≠some b)∧(∀g' len' cap' sz' pub',G.own g'=some (.blk b len' cap' sz' pub')->g'=g)∧
  ∃cur T,w.heap[b]?=some (.cells cur T (0,0))∧cur.size=cap*sz∧len<=cap∧cap<=maxLen∧0<sz∧0<len∧pub<=len*sz∧fV cur
 mrow:∀g b bs,G.own g=some (.mp (some b) bs)->C.jF b 0∧(∀g',G.box g'≠some b)∧(∀g' bs',G.own g'=some (.mp (some b) bs')->g'=g)∧∃me clock,w.heap[b]?=some (.map me clock)
 sub:∀g b bs c lim,G.own g=some (.mp b bs)->(c,lim)∈bs->C.jF c lim∧(∀g',G.box g'≠some c)∧(∀g' len cap sz pub,G.own g'≠some (.blk c len cap sz pub))∧
  (∀g' b' bs' lim',G.own g'=some (.mp b' bs')->(c,lim')∈bs'->g'=g∧lim'=lim)∧∃cur T,w.heap[c]?=some (.cells cur T (0,0))∧lim<=cur.size∧fV cur
 xold:∀b o,C.x b o->b<C.w0.heap.size∧¬C.fp b
 kold:∀b o,C.keep b o->b<C.w0.heap.size
 lent:∀(i b:Nat),C.bx[i]?=some b->G.box i=some b
 fr:Fr C w
def fv(C:Ctx)(n:Nat)(st:St)(tmps:Array Value)(w:World):Prop:=∃G,bq C n st G tmps w
open Go.RowKit
variable {es es2:List (List D)}{f:List (Nat×A)}{G:Gh}{a a':A}{st st':St}{l:List D}{args cells cq' caps cq cells' X:List A}{E E':En}{Q:Exit→St→Prop}{b1 I:List (List A)}{C:Ctx}
theorem ea{o u}(h:cellAt w b o=some u):b<w.heap.size:=block_lt_of_cell (a:=⟨b,o,none⟩) h
theorem cL(h:w'.heap[b]?=w.heap[b]?)(o):cellAt w' b o=cellAt w b o:=by simp[cellAt,World.cell?,h]
theorem cP{cs:Array Value}{fr}(h:w.heap[b]?=some (.cells cs T fr))(o):cellAt w b o=cs[o]?:=
 cell_of_row w b o cs T fr h
def St.set(st:St)(d:Nat)(a:A):St:={st with f:=(d,a)::st.f}
def St.put(st:St):Option Nat->A->St
 |some d,a=>st.set d a
 |none,_=>st
theorem ct:look ((d,a)::f) t=if d=t then some a else look f t:=by simp only[look];simp_all
theorem cZ{a:α}{f}:bh ((d,a)::f) t=if d=t then some a else bh f t:=by simp only[bh];simp_all
section
variable{n:Nat}
theorem bq.set(h:bq C n st G tmps w)(hd:d<n){v}(J:bK (bu C G st.gen w) v a):
 bq C n (st.set d a) G (tmps.setIfInBounds d v) w:=by
 refine{h with size:=by simp[h.size],frame:=fun t b hb=>?_};simp only[St.set,ct]at hb;by_cases e:d=t
 ·subst e
  simp only[if_true,Option.some.injEq]at hb;subst hb;exact⟨v,by simp[Array.getElem?_setIfInBounds,h.size,hd],J⟩
 ·rw[if_neg e]at hb
  obtain⟨u,hu,I⟩:=h.frame t b hb;exact⟨u,by rw[Array.getElem?_setIfInBounds_ne e];exact hu,I⟩
theorem bq.put(h:bq C n st G tmps w)(hd:∀d,dst=some d->d<n){v}(I:bK (bu C G st.gen w) v a):
 bq C n (st.put dst a) G ((Act.put ⟨tmps,[]⟩ dst v).tmps) w:=by
 cases dst with
 |none=>exact h
 |some d=>exact h.set (hd d rfl) I
theorem eZ.below(hb:Below w.heap.size w w'):eZ w w':=fun b cs T f h=>⟨cs,f,by rw[hb.block b (θ.1 h).1];exact h⟩
theorem eZ.setRow(w:World)(b cs):eZ w (w.setRow b cs):=fun I cs' T f h=>by
 by_cases e:I=b;·subst e;exact⟨cs,f,setRow_heap w I cs' cs T f h⟩
 ·exact⟨cs',f,by rw[setRow_other w b I cs e];exact h⟩
theorem l5{I:Gh}(O:Fr C w)(J:Fr C w')(U:∀b o u,cellAt w b o=some u->¬cf C G b o->cellAt w' b o=some u∧¬cf C I b o)(hb:∀g b,G.box g=some b->I.box g=some b)(X:∀g r,g<st.gen->I.own g=some r->G.own g=some r)(hg:st.gen<=gen')(hx:∀g b len cap sz M,g<st.gen->I.own g=some (.blk b len cap sz M)->w'.heap[b]?=w.heap[b]?)(hm:∀g b bs,g<st.gen->I.own g=some (.mp b bs)->(∀c,b=some c->w'.heap[c]?=w.heap[c]?)∧∀p∈bs,w'.heap[p.1]?=w.heap[p.1]?)(N:eZ w w'):
 (bu C G st.gen w).le (bu C I gen' w'):=
 ⟨U,fun b o u h⟨h1,h2⟩=>⟨by rw[<-h];exact cL ((J.block b h1 h2).trans (O.block b h1 h2).symm) o,h1,h2⟩,hb,X,hg,hx,hm,N⟩
theorem bq.fz(h:bq C n st G tmps w){I}(hle:(bu C G st.gen w).le (bu C I gen' w'))(t a)(J:look st.f t=some a):
 ∃v,tmps[t]?=some v∧bK (bu C I gen' w') v a:=
 let⟨v,h1,h2⟩:=h.frame t a J
 ⟨v,h1,h2.mono hle⟩
theorem Fr.below(I:Fr C w)(hb:Below w.heap.size w w'):Fr C w':=
 ⟨hb.os.trans I.os,hb.tape.trans I.tape,hb.output.trans I.output,Y' I.size hb.size,fun b h1 h2=>(hb.block b (ρ h1 I.size)).trans (I.block b h1 h2),fun b o u h1 h2=>by rw[cL (hb.block b (ρ (ea h2) I.size))];exact I.cells b o u h1 h2,I.ty.trans (.below hb)⟩
theorem vG(h:bq C n st G tmps w){o}(hp:cf C G b o):b<w.heap.size:=by
 rcases hp with hp|⟨g,hp⟩|⟨g,len,cap,sz,I,hp,_⟩|⟨g,J,bs,lim,hp,hm,_⟩
 ·exact ρ (h.xold b o hp).1 h.fr.size
 ·exact(h.gbox g b hp).2.1
 ·obtain⟨_,_,_,cur,T,M,_⟩:=h.row g b len cap sz I hp
  grind
 ·obtain⟨_,_,_,_,cur,T,M,_⟩:=h.sub g J bs b lim hp hm
  grind
theorem bq.BE(h:bq C n st G tmps w){b}(I:G.own g=some (.mp b bs)):(∀c,b=some c->c<w.heap.size)∧∀p∈bs,p.1<w.heap.size:=by
 refine⟨fun c J=>?_,fun p hp=>?_⟩
 ·subst J
  obtain⟨_,_,_,M,clock,h3⟩:=h.mrow g c bs I;grind
 obtain⟨_,_,_,_,cur,T,J,_⟩:=h.sub g b bs p.1 p.2 I hp;grind
theorem bq.grow(h:bq C n st G tmps w)(hb:Below w.heap.size w w')(J gen' lv')(hg:st.gen<=gen')(U:∀g r,g<st.gen->J g=some r->G.own g=some r)(ai:∀g r,J g=some r->g<gen')(b6:∀g∈lv',∃r,J g=some r)(a1:∀g b len cap sz N,st.gen<=g->J g=some (.blk b len cap sz N)->w.heap.size<=b∧(∀I a6 a7 b2 a8,J I=some (.blk b a6 a7 b2 a8)->I=g)∧
  ∃cur T,w'.heap[b]?=some (.cells cur T (0,0))∧cur.size=cap*sz∧len<=cap∧cap<=maxLen∧0<sz∧0<len∧N<=len*sz∧fV cur)(b3:∀g b bs,st.gen<=g->J g=some (.mp (some b) bs)->w.heap.size<=b∧(∀I bs',J I=some (.mp (some b) bs')->I=g)∧∃me clock,w'.heap[b]?=some (.map me clock))(b0:∀g b bs c lim,st.gen<=g->J g=some (.mp b bs)->(c,lim)∈bs->w.heap.size<=c∧(∀I len cap sz N,J I≠some (.blk c len cap sz N))∧(∀I b' bs' aj,J I=some (.mp b' bs')->(c,aj)∈bs'->I=g∧aj=lim)∧
  ∃cur T,w'.heap[c]?=some (.cells cur T (0,0))∧lim<=cur.size∧fV cur):
 (bu C G st.gen w).le (bu C ⟨G.box,J⟩ gen' w')∧bq C n {st with lv:=lv',gen:=gen'} ⟨G.box,J⟩ tmps w':=by
 have hle:(bu C G st.gen w).le (bu C ⟨G.box,J⟩ gen' w'):=by
  refine l5 h.fr (h.fr.below hb) (fun b o u hu hn=>?_) (fun _ _ h=>h) (fun g r hg h=>U g r hg h) hg (fun g b len cap sz N O hr=>hb.block b ?_) (fun g b bs O hr=>have hl:=h.BE (U g _ O hr);⟨fun c hc=>hb.block c (hl.1 c hc),fun p hp=>hb.block p.1 (hl.2 p hp)⟩) (.below hb)
  ·have ai:=ea hu
   refine⟨by rw[cL (hb.block b ai)];exact hu,fun hp=>hn ?_⟩;rcases hp with hp|hp|⟨g,len,cap,sz,N,hp,h2⟩|⟨g,b',bs,lim,hp,h2,h3⟩
   ·exact .inl hp
   ·exact .inr (.inl hp)
   ·by_cases O:g<st.gen
    ·exact .inr (.inr (.inl ⟨g,len,cap,sz,N,U g _ O hp,h2⟩))
    ·have:=(a1 g b len cap sz N (by omega) hp).1
     omega
   ·by_cases O:g<st.gen
    ·exact .inr (.inr (.inr ⟨g,b',bs,lim,U g _ O hp,h2,h3⟩))
    ·have:=(b0 g b' bs b lim (by omega) hp h2).1
     omega
  ·obtain⟨_,_,_,cur,T,h3,_⟩:=h.row g b _ _ _ _ (U g _ O hr)
   exact(θ.1 h3).1
 refine⟨hle,{size:=h.size,frame:=h.fz hle,inj:=h.inj,xold:=h.xold,kold:=h.kold,lent:=h.lent,fr:=h.fr.below hb,gcell:=fun g b ad=>ny (.below hb) (h.gcell g b ad),live:=b6,gown:=ai,box:=?_,gbox:=?_,row:=?_,mrow:=?_,sub:=?_}⟩
 ·intro g cells ch
  obtain⟨b,cs,T,h1,h2,h3,h4,h5⟩:=h.box g cells ch;exact⟨b,cs,T,h1,by rw[hb.block b (h.gbox g b h1).2.1];exact h2,h3,h4,fun i u a hu ha=>(h5 i u a hu ha).mono hle⟩
 ·intro g b ad
  obtain⟨h1,h2,h3⟩:=h.gbox g b ad;exact⟨ρ h1 hg,ρ h2 hb.size,h3⟩
 ·intro g b len cap sz N ad
  have X:J g=some (.blk b len cap sz N):=ad;by_cases O:g<st.gen
  ·have hold:G.own g=some (.blk b len cap sz N):=U g _ O X
   obtain⟨h1,h2,h3,cur,T,h4,h5⟩:=h.row g b len cap sz N hold;refine⟨h1,h2,fun I a6 a7 b2 a8 M=>?_,cur,T,by rw[hb.block b (θ.1 h4).1];exact h4,h5⟩;by_cases hgg':I<st.gen;·exact h3 I a6 a7 b2 a8 (U I _ hgg' M)
   ·have:=(a1 I b a6 a7 b2 a8 (by omega) M).1
    have:=(θ.1 h4).1;omega
  ·obtain⟨h1,h2,h3⟩:=a1 g b len cap sz N (by omega) X
   refine⟨⟨.inl (Y' h.fr.size h1),fun o U=>absurd (h.kold b o U) (by have:=h.fr.size;omega)⟩,fun I M=>?_,h2,h3⟩;have:=(h.gbox I b M).2.1;omega
 ·intro g b bs ad
  have X:J g=some (.mp (some b) bs):=ad;by_cases O:g<st.gen
  ·obtain⟨h1,cj,h2,me,clock,h3⟩:=h.mrow g b bs (U g _ O X)
   have ai:=(θ.1 h3).1;refine⟨h1,cj,fun I bs' M=>?_,me,clock,by rw[hb.block b ai];exact h3⟩;by_cases hgg':I<st.gen;·exact h2 I bs' (U I _ hgg' M)
   ·have:=(b3 I b bs' (by omega) M).1
    omega
  ·obtain⟨h1,h2,h3⟩:=b3 g b bs (by omega) X
   exact⟨⟨.inl (Y' h.fr.size h1),fun o U=>absurd (h.kold b o U) (by have:=h.fr.size;omega)⟩,fun I M=>by have:=(h.gbox I b M).2.1;omega,h2,h3⟩
 ·intro g b bs c lim ad b4
  have X:J g=some (.mp b bs):=ad;by_cases O:g<st.gen
  ·obtain⟨h1,h2,h3,h4,cur,T,h5,h6⟩:=h.sub g b bs c lim (U g _ O X) b4
   have ai:=(θ.1 h5).1;refine⟨h1,h2,fun I len cap sz N M=>?_,fun I b' bs' aj M b5=>?_,cur,T,by rw[hb.block c ai];exact h5,h6⟩
   ·by_cases hgg':I<st.gen
    ·exact h3 I len cap sz N (U I _ hgg' M)
    ·have:=(a1 I c len cap sz N (by omega) M).1
     omega
   ·by_cases hgg':I<st.gen
    ·exact h4 I b' bs' aj (U I _ hgg' M) b5
    ·have:=(b0 I b' bs' c aj (by omega) M b5).1
     omega
  ·obtain⟨h1,h2,h3,h4⟩:=b0 g b bs c lim (by omega) X b4
   exact⟨⟨.inl (Y' h.fr.size h1),fun o U=>absurd (h.kold c o U) (by have:=h.fr.size;omega)⟩,fun I M=>by have:=(h.gbox I c M).2.1;omega,h2,h3,h4⟩
theorem bq.ij(h:bq C n st G tmps w)(hb:Below w.heap.size w w'):(bu C G st.gen w).le (bu C G st.gen w')∧bq C n st G tmps w':=
 h.grow hb G.own st.gen st.lv (χ _) (fun _ _ _ h=>h) h.gown h.live (fun g _ _ _ _ _ J I=>absurd (h.gown g _ I) (by omega)) (fun g _ _ J I=>absurd (h.gown g _ I) (by omega)) (fun g _ _ _ _ J I=>absurd (h.gown g _ I) (by omega))
theorem bq.sM(h:bq C n st G tmps w)(cs:Array Value)(T)(cells:List A)(hs:cs.size=cells.length)(h1:∀(i:Nat)(u:Value),cs[i]?=some u->u.oneCell'=true)(hc:∀(i:Nat)(u:Value)(a:A),cs[i]?=some u->cells[i]?=some a->bK (bu C G st.gen w) u a):
 ∃J,(bu C G st.gen w).le (bu C J (st.gen+1) (w.alloc (.cells cs T)))∧
   bq C n {st with bx:=(st.gen,cells)::st.bx,gen:=st.gen+1} J tmps (w.alloc (.cells cs T))∧
   bK (bu C J (st.gen+1) (w.alloc (.cells cs T))) (.pointer (some ⟨w.heap.size,0,none⟩)) (.ptr st.gen 0):=by
 have hb:Below w.heap.size w (w.alloc (.cells cs T)):=(Below.refl _ w).alloc (χ _) _;let J:Gh:=⟨fun g=>if g=st.gen then some w.heap.size else G.box g,G.own⟩;have hle:(bu C G st.gen w).le (bu C J (st.gen+1) (w.alloc (.cells cs T))):=by
  refine l5 h.fr (h.fr.below hb) (fun b o u hu hn=>?_) (fun g b I=>?_) (fun _ _ _ h=>h) (Nat.le_succ _) (fun g b len cap sz ad _ N=>?_) (fun g b bs _ N=>have hl:=h.BE N;⟨fun c hc=>hb.block c (hl.1 c hc),fun p hp=>hb.block p.1 (hl.2 p hp)⟩) (.below hb)
  ·have O:=ea hu
   refine⟨by rw[cL (hb.block b O)];exact hu,fun hp=>hn ?_⟩;rcases hp with hp|⟨g,hp⟩|hp
   ·exact .inl hp
   ·simp only[J]at hp
    split at hp;·grind
    ·exact .inr (.inl ⟨g,hp⟩)
   ·exact .inr (.inr hp)
  ·simp only[J]
   rw[if_neg (X' (h.gbox g b I).1)];grind
  ·obtain⟨_,_,_,cur,T,h3,_⟩:=h.row g b _ _ _ _ N
   exact hb.block b (θ.1 h3).1
 refine⟨J,hle,{size:=h.size,frame:=h.fz hle,xold:=h.xold,kold:=h.kold,lent:=fun i b hb=>by have h1:=h.lent i b hb;have h2:=(h.gbox i b h1).1;simp only[J];rw[if_neg (X' h2)];exact h1,fr:=h.fr.below hb,gcell:=fun g b I=>(by simp only[J]at I;split at I<;>first|(simp only[Option.some.injEq]at I;subst I;exact⟨_,_,_,heap_alloc_new w _⟩)|exact ny (.below hb) (h.gcell g b I)),live:=h.live,gown:=fun g r N=>Z' (h.gown g r N),box:=?_,gbox:=?_,inj:=?_,row:=?_,mrow:=fun g b bs N=>?_,sub:=fun g b bs c lim N hm=>?_},?_⟩
 ·intro g cells' U
  simp only[cZ]at U;split at U
  ·rename_i e
   simp only[Option.some.injEq]at U;subst U;subst e;exact⟨w.heap.size,cs,T,by simp[J],heap_alloc_new w _,hs,h1,fun i u a hu ha=>(hc i u a hu ha).mono hle⟩
  ·rename_i e
   obtain⟨b,cs',X,ai,h2,h3,h4,h5⟩:=h.box g cells' U;exact⟨b,cs',X,by simp only[J];rw[if_neg (Ne.symm e)];exact ai,by rw[hb.block b (h.gbox g b ai).2.1];exact h2,h3,h4,fun i u a hu ha=>(h5 i u a hu ha).mono hle⟩
 ·intro g b I
  simp only[J]at I;split at I
  ·rename_i e
   simp only[Option.some.injEq]at I;subst I;exact⟨by simp only[];omega,by simp,.inl h.fr.size,fun o ho=>absurd (h.kold _ o ho) (by have:=h.fr.size;omega)⟩
  ·obtain⟨h1,h2,h3⟩:=h.gbox g b I
   exact⟨Z' h1,by simp;omega,h3⟩
 ·intro g g' b hg M
  simp only[J]at hg M;split at hg<;>split at M;·grind
  ·simp only[Option.some.injEq]at hg;have:=(h.gbox g' b M).2.1;omega
  ·simp only[Option.some.injEq]at M;have:=(h.gbox g b hg).2.1;omega
  ·exact h.inj g g' b hg M
 ·intro g b len cap sz ad I
  obtain⟨h1,h2,h3,cur,X,h4,h5⟩:=h.row g b len cap sz ad I;refine⟨h1,fun g' M=>?_,h3,cur,X,by rw[hb.block b (θ.1 h4).1];exact h4,h5⟩;grind
 ·obtain⟨h1,aj,h2,me,clock,h3⟩:=h.mrow g b bs N
  have O:=(θ.1 h3).1;refine⟨h1,fun g' M=>?_,h2,me,clock,by rw[hb.block b O];exact h3⟩;grind
 ·obtain⟨h1,h2,h3,h4,cur,X,h5,h6⟩:=h.sub g b bs c lim N hm
  have O:=(θ.1 h5).1;refine⟨h1,fun g' M=>?_,h3,h4,cur,X,by rw[hb.block c O];exact h5,h6⟩;grind
 ·exact .ptr _ _ _ w.heap.size (by simp[bu]) (by simp[bu,J]) Z
end
inductive Kd where
 |int (k:IntKind)
 |bool
 |str
 |slice (e:Nat)
 |st (fs:List (Nat×Nat×String))
 |ptr (e:Nat)
 |map (k e:Nat)
 |leaf
structure cV where
 k:Kd
 n:Nat
 b:Nat
 z:List Value
def J9:Value->Value->Bool
 |.int k a,.int k' b=>decide (k=k')&&a==b
 |.bool a,.bool b=>a==b
 |.string a,.string b=>a.data.toList==b.data.toList
 |.slice none 0 0,.slice none 0 0=>true
 |.pointer none,.pointer none=>true
 |.map none,.map none=>true
 |.nilFunc,.nilFunc=>true
 |.nilIface,.nilIface=>true
 |_,_=>false
theorem Jp{a b}(h:J9 a b=true):a=b:=by unfold J9 at h;split at h<;>simp_all;rename_i a b;exact ByteArray.ext h
def rV:List Value->List Value->Bool
 |[],[]=>true
 |a::l,b::r=>J9 a b&&rV l r
 |_,_=>false
theorem sT:∀{a b:List Value},rV a b=true->a=b
 |[],[],_=>rfl
 |a::l,b::r,h=>by simp only[rV,μ]at h;rw[Jp h.1,sT h.2]
 |[],_::_,h=>by simp[rV]at h
 |_::_,[],h=>by simp[rV]at h
def qu(P:Program)(t:Nat):Kd->Bool
 |.int k=>(match P.underlying t with|some (.int J)=>decide (k=J)|_=>false)
 |.bool=>(match P.underlying t with|some .bool=>true|_=>false)
 |.str=>(match P.underlying t with|some .string=>true|_=>false)
 |.slice e=>(match P.underlying t with|some (.slice I)=>e==I|_=>false)
 |.st M=>(match P.underlying t with|some (.struct fl)=>fl.toList.map (fun f=>(f.offset,f.type,f.name))==M&&!P.stoodInHeld t&&!P.eqGuardType P.depth t&&M.all (fun x=>(P.info? x.2.1).isSome)|_=>false)
 |.ptr e=>(match P.underlying t with|some (.pointer I)=>e==I|_=>false)
 |.map k e=>(match P.underlying t with|some (.map J I)=>k==J&&e==I|_=>false)
 |.leaf=>(match P.underlying t with|some (.struct _)|some (.array _ _)|none=>false|_=>true)
def zH(P:Program)(t:Nat)(d:cV):Bool:=
 qu P t d.k&&(match P.info? t with
  |some i=>i.size==d.n&&i.bytes==d.b&&(match i.zero with|some z=>rV z.cells.toList d.z&&d.z.length==d.n&&d.z.all dy&&
   (match z,d.k with|.agg _,.st _=>true|.agg _,_=>false|.tuple _,_=>false|_,.st _=>false|_,_=>true)|none=>false)
  |none=>false)
structure cG(P:Program)where
 l:List (Nat×cV)
 ok:l.all (fun x=>zH P x.1 x.2)=true
 mixed:P.follows .mixedOrders=true
theorem ss{a:α}:∀{l:List (Nat×α)},bh l t=some a->(t,a)∈l
 |[],h=>by simp[bh]at h
 |(s,b)::r,h=>by
   rw[cZ]at h;split at h
   ·rename_i e
    simp only[Option.some.injEq]at h;subst e;subst h;exact Ψ
   ·exact ω _ (ss h)
section
variable(T:cG P)
theorem cG.get{d:cV}(h:bh T.l t=some d):zH P t d=true:=I'.1 T.ok _ (ss h)
theorem cG.kd{d:cV}(h:bh T.l t=some d):qu P t d.k=true:=by have:=T.get h;simp only[zH,μ]at this;exact this.1
theorem cG.info{d:cV}(h:bh T.l t=some d):∃i z,P.info? t=some i∧i.size=d.n∧i.bytes=d.b∧i.zero=some z∧z.cells.toList=d.z∧d.z.length=d.n∧d.z.all dy=true∧
 (match z,d.k with|.agg _,.st _=>true|.agg _,_=>false|.tuple _,_=>false|_,.st _=>false|_,_=>true)=true:=by
 have:=T.get h;simp only[zH,μ]at this;have:=this.2;split at this
 ·rename_i i hi
  simp only[μ,beq_iff_eq]at this;obtain⟨⟨h1,h2⟩,h3⟩:=this;split at h3
  ·rename_i z I
   simp only[μ,beq_iff_eq]at h3;exact⟨i,z,hi,h1,h2,I,sT h3.1.1.1,h3.1.1.2,h3.1.2,h3.2⟩
  ·cases h3
 ·cases this
theorem cG.gN{d:cV}(h:bh T.l t=some d)(I:d.k=.slice e):P.underlying t=some (.slice e):=by
 have:=T.kd h;rw[I]at this;simp only[qu]at this;split at this;·rename_i J he;rw[he];simp only[beq_iff_eq]at this;rw[this]
 ·cases this
theorem cG.iC{k:IntKind}{d:cV}(h:bh T.l t=some d)(I:d.k=.int k):P.underlying t=some (.int k):=by
 have:=T.kd h;rw[I]at this;simp only[qu]at this;split at this;·rename_i J he;rw[he];simp only[Δ]at this;rw[this]
 ·cases this
theorem cG.kr{d:cV}(h:bh T.l t=some d)(I:d.k=.str):P.underlying t=some .string:=by
 have:=T.kd h;rw[I]at this;simp only[qu]at this;split at this;·rename_i he;exact he
 ·cases this
theorem cG.u9{d:cV}(h:bh T.l t=some d)(I:d.k=.bool):P.underlying t=some .bool:=by
 have:=T.kd h;rw[I]at this;simp only[qu]at this;split at this;·rename_i he;exact he
 ·cases this
theorem cG.uS{I:List (Nat×Nat×String)}{d:cV}(h:bh T.l t=some d)(J:d.k=.st I):
 ∃fl:Array Field,P.underlying t=some (.struct fl)∧fl.toList.map (fun f=>(f.offset,f.type,f.name))=I∧P.stoodInHeld t=false∧P.eqGuardType P.depth t=false∧I.all (fun x=>(P.info? x.2.1).isSome)=true:=by
 have:=T.kd h;rw[J]at this;simp only[qu]at this;split at this;·rename_i fl he;simp only[μ,beq_iff_eq,Bool.not_eq_true']at this;exact⟨fl,he,this.1.1.1,this.1.1.2,this.1.2,this.2⟩
 ·cases this
def Kd.agg:Kd->Bool
 |.st _=>true
 |_=>false
theorem cG.isAgg{d:cV}(h:bh T.l t=some d)(w):(isAgg t).run P w=.ok d.k.agg w:=by
  have hk:=T.kd h
  obtain⟨k,n,b,z⟩:=d
  have hu:∃u,P.underlying t=some u∧(match u with|.struct _=>true|.array _ _=>true|_=>false)=k.agg:=by
    cases k<;>simp only[qu]at hk<;>split at hk<;>first|(cases hk;done)|skip
    all_goals first|exact⟨_,by assumption,rfl⟩|skip
    rename_i hn _ _
    cases hu:P.underlying t with
    |none=>simp_all
    |some u=>cases u<;>simp_all[Kd.agg]
  obtain⟨u,hu,hk⟩:=hu
  unfold Go.isAgg
  simp only[Sem.run_bind,run_underlying hu,Result.andThen_ok,←hk]
  cases u<;>rfl
theorem cG.sizeOf{d:cV}(h:bh T.l t=some d)(w):(sizeOf t).run P w=.ok d.n w:=by obtain⟨i,z,hi,hs,_⟩:=T.info h;simp[Go.sizeOf,typeInfo,hi,hs]
theorem cG.zero{d:cV}(h:bh T.l t=some d)(w):∃z:Value,(zeroValue t).run P w=.ok z w∧z.cells.toList=d.z:=by obtain⟨i,z,hi,_,_,I,J,_⟩:=T.info h;exact⟨z,by simp[zeroValue,typeInfo,hi,I],J⟩
end
def Je:Value->Option A
 |.agg cs=>if cs.toList.all dy then some (.ag (cs.toList.map .v))else none
 |.tuple _=>none
 |.func (.func f) first caps=>if first.size=0∧caps.size=0 then some (.clo f [])else none
 |.slice none 0 0=>some (.d (.v (.slice none 0 0)))
 |x=>if dy x then some (.d (.v x))else none
def av(f:List (Nat×A)):Operand->Option A
 |.tmp t=>look f t
 |.const v=>Je v
 |.func f=>some (.clo f [])
 |.global _=>none
theorem HF{v}(h:Je v=some a):bK E v a:=by
 unfold Je at h;split at h
 ·split at h
  ·rename_i cs I
   simp only[Option.some.injEq]at h;subst h;refine .ag _ _ (by simp) (fun i u x hu J=>?_);simp only[τ,Array.getElem?_toList,hu,Option.map_some,Option.some.injEq]at J;subst J;exact .v u (I'.1 I u (by rw[ψ];exact⟨i,by simpa using hu⟩))
  ·cases h
 ·cases h
 ·rename_i f first caps
  split at h
  ·rename_i I
   simp only[Option.some.injEq]at h;subst h;obtain⟨h1,h2⟩:=I;have M:first=#[]:=Array.eq_empty_of_size_eq_zero h1;have N:caps=#[]:=Array.eq_empty_of_size_eq_zero h2;subst M;subst N;exact .clo f #[] [] rfl (by simp)
  ·cases h
 ·simp only[Option.some.injEq]at h
  subst h;exact .d (.v _ rfl)
 ·split at h
  ·rename_i I
   simp only[Option.some.injEq]at h;subst h;exact .d (.v _ I)
  ·cases h
theorem bq.av{n}(h:bq C n st G tmps w)(I:av st.f x=some a):
 bK (bu C G st.gen w) (Act.eval ⟨tmps,[]⟩ x) a:=by
 cases x with
 |tmp t=>obtain⟨v,h1,h2⟩:=h.frame t a I;simpa[Act.eval,h1]using h2
 |const v=>exact HF I
 |global g=>cases I
 |func f=>simp only[Ab.av,Option.some.injEq]at I;subst I;exact .clo f #[] [] rfl (by simp)
theorem C1(k:IntKind)(n):k.min<=k.wrap n∧k.wrap n<=k.max:=by cases k<;>simp[IntKind.min,IntKind.max,IntKind.wrap,IntKind.signed,IntKind.bits]<;>(try split)<;>omega
theorem ie(k:IntKind)(n):dy (.int k (k.wrap n))=true:=by simp[dy,C1]
variable {td ed:cV}
def HA:A->Option D
 |.d x=>some x
 |.own _ es=>some (.sl es)
 |_=>none
def wI:List A->Option (List D)
 |[]=>some []
 |a::l=>match HA a,wI l with
   |some x,some r=>some (x::r)
   |_,_=>none
def my(l:List A):A:=match wI l with
 |some r=>.ag r
 |none=>.agg l
theorem BU{v x}(h:HA a=some x)(I:bK E v a):bN E.w E.pv v x:=by
 cases I<;>simp[HA]at h;·grind
 ·grind
theorem uk:∀{l:List A}{r:List D},wI l=some r->r.length=l.length∧∀(i:Nat)(x:D),r[i]?=some x->∃a,l[i]?=some a∧HA a=some x
 |[],r,h=>by simp[wI]at h;subst h;simp
 |a::l,r,h=>by
   simp only[wI]at h;split at h
   ·rename_i x J M I
    simp only[Option.some.injEq]at h;subst h;obtain⟨h1,h2⟩:=uk I;grind
   ·grind
theorem mP{vs:Array Value}{l:List A}(hs:vs.size=l.length)(I:∀(i:Nat)(u:Value),vs[i]?=some u->u.oneCell'=true)(h:∀(i:Nat)(u:Value)(x:A),vs[i]?=some u->l[i]?=some x->bK E u x):bK E (.agg vs) (my l):=by
 unfold my;split
 ·rename_i r J
  obtain⟨h1,h2⟩:=uk J;refine .ag vs r (by omega) (fun i u x hu M=>?_);grind[BU]
 ·exact .agg vs l hs I h
def bI(op:BinOp)(k:IntKind)(a b:Int):Option Value:=
 match op with
 |.add=>some (.int k (k.wrap (a+b)))
 |.sub=>some (.int k (k.wrap (a-b)))
 |.mul=>some (.int k (k.wrap (a*b)))
 |.eql=>some (.bool (decide (a=b)))
 |.neq=>some (.bool (!decide (a=b)))
 |.lss=>some (.bool (decide (a<b)))
 |.leq=>some (.bool (decide (a<=b)))
 |.gtr=>some (.bool (decide (b<a)))
 |.geq=>some (.bool (decide (b<=a)))
 |.and=>some (.int k (k.wrap (BitVec.ofInt k.bits a&&&BitVec.ofInt k.bits b).toNat))
 |.or=>some (.int k (k.wrap (BitVec.ofInt k.bits a|||BitVec.ofInt k.bits b).toNat))
 |.xor=>some (.int k (k.wrap (BitVec.ofInt k.bits a ^^^BitVec.ofInt k.bits b).toNat))
 |.andNot=>some (.int k (k.wrap (BitVec.ofInt k.bits a&&&~~~BitVec.ofInt k.bits b).toNat))
 |_=>none
def bS(op:BinOp)(a b:ByteArray):Option Value:=
 match op with
 |.eql=>some (.bool (decide (a=b)))
 |.neq=>some (.bool (!decide (a=b)))
 |.lss=>some (.bool (Op.bytesLess a.toList b.toList))
 |.leq=>some (.bool (Op.bytesLess a.toList b.toList||decide (a=b)))
 |.gtr=>some (.bool (!(Op.bytesLess a.toList b.toList||decide (a=b))))
 |.geq=>some (.bool (!Op.bytesLess a.toList b.toList))
 |_=>none
def bB(op:BinOp)(a b:Bool):Option Value:=
 match op with
 |.eql=>some (.bool (decide (a=b)))
 |.neq=>some (.bool (!decide (a=b)))
 |_=>none
def bV(op:BinOp)(kd:Kd)(x y:Value):Option Value:=
 match x,y with
 |.int k a,.int I b=>if k=I then(match op with|.shl|.shr=>none|_=>bI op k a b)else none
 |.string a,.string b=>bS op a b
 |.bool a,.bool b=>(match kd with|.bool=>bB op a b|_=>none)
 |_,_=>none
theorem EK(a b:ByteArray):(a.toList==b.toList)=decide (a=b):=by grind[ByteArray.toList_eq,ByteArray.ext,Array.ext']
theorem KX{op:BinOp}{k:IntKind}{a b:Int}{v t}(h:bI op k a b=some v)(J:op≠.shl)(I:op≠.shr):
 (binOp op t (.int k a) (.int k b)).run P w=.ok v w∧dy v=true:=by
 cases op<;>simp only[bI]at h<;>first|(cases h;done)|skip
 all_goals(simp only[Option.some.injEq]at h;subst h)
 case add=>exact⟨by simp[binOp,Op.intArith],ie _ _⟩
 case sub=>exact⟨by simp[binOp,Op.intArith],ie _ _⟩
 case mul=>exact⟨by simp[binOp,Op.intArith],ie _ _⟩
 case and=>exact⟨by simp only[binOp,Op.intBits,ne_eq,not_true_eq_false,if_false];rfl,ie _ _⟩
 case or=>exact⟨by simp only[binOp,Op.intBits,ne_eq,not_true_eq_false,if_false];rfl,ie _ _⟩
 case xor=>exact⟨by simp only[binOp,Op.intBits,ne_eq,not_true_eq_false,if_false];rfl,ie _ _⟩
 case andNot=>exact⟨by simp only[binOp,Op.intBits,ne_eq,not_true_eq_false,if_false];rfl,ie _ _⟩
 all_goals exact⟨by simp[binOp,Op.intCmp,bne,BEq.beq],rfl⟩
theorem KS{op:BinOp}{a b v t}(h:bS op a b=some v):
 (binOp op t (.string a) (.string b)).run P w=.ok v w∧dy v=true:=by
 cases op<;>simp only[bS]at h<;>first|(cases h;done)|skip
 all_goals(simp only[Option.some.injEq]at h;subst h)
 all_goals exact⟨by simp[binOp,Op.stringOp,EK],rfl⟩
theorem KO{op:BinOp}{a b v t}(I:P.underlying t=some .bool)(h:bB op a b=some v):
 (binOp op t (.bool a) (.bool b)).run P w=.ok v w∧dy v=true:=by
 cases op<;>simp only[bB]at h<;>first|(cases h;done)|skip
 all_goals(simp only[Option.some.injEq]at h;subst h)
 all_goals refine⟨?_,rfl⟩
 all_goals simp only[binOp,Op.equal,Op.maxDepth,Sem.run_bind,run_equalIn_bool' _ _ _ _ _ I,Result.andThen_ok,Sem.run_pure]
 all_goals(cases a<;>cases b<;>rfl)
section
variable(T:cG P)
def cY(t:Nat):Kd:=match bh T.l t with|some d=>d.k|none=>.leaf
def sV(t:Nat):D->D->Option Bool
 |.v (.int k a),.v (.int I b)=>(match cY T t with|.int q=>if k=I∧k=q then some (decide (a=b))else none|_=>none)
 |.v (.string a),.v (.string b)=>(match cY T t with|.str=>some (decide (a=b))|_=>none)
 |.v (.bool a),.v (.bool b)=>(match cY T t with|.bool=>some (decide (a=b))|_=>none)
 |_,_=>none
mutual
def B7:Nat->Nat->List D->List D->Option Bool
 |0,_,_,_=>none
 |fuel+1,t,xs,ys=>
   match cY T t with
   |.int _|.str|.bool=>(match xs,ys with|x::_,y::_=>sV T t x y|_,_=>none)
   |.st I=>(match bh T.l t with|some d=>px fuel I (xs.take d.n) (ys.take d.n)|none=>none)
   |_=>none
def px:Nat->List (Nat×Nat×String)->List D->List D->Option Bool
 |_,[],_,_=>some true
 |0,_::_,_,_=>none
 |fuel+1,(o,t,nm)::fs,xs,ys=>
   if nm= "_" then none else
   match B7 fuel t (xs.drop o) (ys.drop o),px fuel fs xs ys with
   |some a,some b=>some (a&&b)
   |_,_=>none
end
def fw(E:En)(cs:Array Value)(l:List D):Prop:=cs.size=l.length∧∀(i:Nat)(u:Value)(x:D),cs[i]?=some u->l[i]?=some x->bN E.w E.pv u x
theorem fw.get{cs:Array Value}(h:fw E cs l){x}(J:l[i]?=some x):∃u,cs[i]?=some u∧bN E.w E.pv u x:=by
 have hi:i<l.length:=(δ.1 J).1;have I:i<cs.size:=by rw[h.1];exact hi
 exact⟨cs[i],by simp[I],h.2 i _ x (by simp[I]) J⟩
theorem fw.part {cs:Array Value} (h:fw E cs l) (o n):fw E (cs.extract o (o+n)) ((l.drop o).take n):=by
  refine⟨by simp[h.1];omega,fun i u x hu hx=>?_⟩
  simp only[Array.getElem?_extract] at hu
  split at hu
  · have hx':l[o+i]? = some x:=by
      rw[List.getElem?_take] at hx
      split at hx
      · simpa using hx
      · cases hx
    exact h.2 (o+i) u x hu hx'
  · cases hu
theorem kP{d:cV}(h:bh T.l t=some d)(I:d.k.agg=false){cs:Array Value}{o v}(J:cs[o]?=some v)(w):
 (part t cs o).run P w=.ok v w:=by
 simp[part,T.isAgg h,I,J]
theorem lz{d:cV}(h:bh T.l t=some d)(I:d.k.agg=true)(cs:Array Value)(o w):
 (part t cs o).run P w=.ok (.agg (cs.extract o (o+d.n))) w:=by
 simp[part,T.isAgg h,I,T.sizeOf h]
theorem fH{k:Kd}(h:cY T t=k)(I:k≠.leaf):∃d,bh T.l t=some d∧d.k=k:=by grind[cY]
theorem AY{a b x y r}(h:sV T t x y=some r)(M:bN E.w E.pv a x)(hb:bN E.w E.pv b y)(w):
 (Op.equalIn (d+1) t a b).run P w=.ok r w:=by
 unfold sV at h;split at h;case h_4=>cases h
 all_goals split at h<;>first|(cases h;done)|skip
 ·rename_i J
  split at h
  ·rename_i N
   obtain⟨rfl,rfl⟩:=N;obtain⟨_,hd,I⟩:=fH T J (by simp);cases M;cases hb;simp only[Option.some.injEq]at h;rw[run_equalIn_int w d t _ _ _ _ (T.iC hd I),←h];grind
  ·grind
 ·rename_i J
  obtain⟨_,hd,I⟩:=fH T J (by simp);cases M;cases hb;simp only[Option.some.injEq]at h;rw[run_equalIn_string w d t _ _ (T.kr hd I),←h,EK]
 ·rename_i J
  obtain⟨_,hd,I⟩:=fH T J (by simp);cases M;cases hb;simp only[Option.some.injEq]at h;rw[run_equalIn_bool' w d t _ _ (T.u9 hd I),←h];grind
theorem mG{fl}(h:P.underlying t=some (.struct fl)):P.fieldsOf t=fl:=by simp[Program.fieldsOf,h]
theorem run_eq(w):∀(fuel:Nat),
 (∀(t d:Nat)(I J:Array Value)(xs ys:List D)(o:Nat)(r:Bool),fuel<=d->fw E I xs->fw E J ys->B7 T fuel t (xs.drop o) (ys.drop o)=some r->
  ∃a b,(part t I o).run P w=.ok a w∧(part t J o).run P w=.ok b w∧(Op.equalIn d t a b).run P w=.ok r w)∧
 (∀(d:Nat)(I J:Array Value)(N:List Field)(xs ys:List D)(r:Bool),fuel<=d->fw E I xs->fw E J ys->px T fuel (N.map fun f=>(f.offset,f.type,f.name)) xs ys=some r->
  (Op.eqFields d I J N).run P w=.ok r w):=by
 intro fuel
 induction fuel with
 |zero=>
   refine⟨fun t d I J xs ys o r _ _ _ h=>by simp[B7]at h,fun d I J N xs ys r _ _ _ h=>?_⟩
   cases N with
   |nil=>simp[px]at h;subst h;simp[Op.eqFields]
   |cons f N=>simp[px]at h
 |succ fuel ih=>
   refine⟨fun t d I J xs ys o r hd X hy h=>?_,fun d I J N xs ys r hd X hy h=>?_⟩
   ·obtain⟨d,rfl⟩:∃d',d=d'+1:=⟨d-1,by omega⟩
    simp only[B7]at h
    have leaf:∀k,cY T t=k->k≠.leaf->k.agg=false->(match xs.drop o,ys.drop o with|x::_,y::_=>sV T t x y|_,_=>none)=some r->
     ∃a b,(part t I o).run P w=.ok a w∧(part t J o).run P w=.ok b w∧(Op.equalIn (d+1) t a b).run P w=.ok r w:=by
     intro k U ai ad h;obtain⟨td,M,O⟩:=fH T U ai;split at h
     ·rename_i x _ y _ e1 e2
      have aj:xs[o]?=some x:=by have:=congrArg (fun l:List D=>l[0]?) e1;simpa using this
      have a1:ys[o]?=some y:=by have:=congrArg (fun l:List D=>l[0]?) e2;simpa using this
      obtain⟨a,ha,a6⟩:=X.get aj;obtain⟨b,hb,a7⟩:=hy.get a1;exact⟨a,b,kP T M (by rw[O];exact ad) ha w,kP T M (by rw[O];exact ad) hb w,AY T h a6 a7 w⟩
     ·cases h
    split at h;·rename_i U;exact leaf _ U (by simp) rfl h
    ·rename_i U;exact leaf _ U (by simp) rfl h
    ·rename_i U;exact leaf _ U (by simp) rfl h
    ·rename_i N U
     obtain⟨td,M,O⟩:=fH T U (by simp);rw[M]at h;simp only at h;obtain⟨fl,hu,a8,b0,_⟩:=T.uS M O;refine⟨_,_,lz T M (by rw[O];rfl) I o w,lz T M (by rw[O];rfl) J o w,?_⟩;rw[run_equalIn_struct w d t _ _ (by rw[mG hu];exact hu) b0,mG hu];exact ih.2 d _ _ fl.toList _ _ r (by omega) (X.part o td.n) (hy.part o td.n) (by rw[a8];exact h)
    ·cases h
   ·cases N with
    |nil=>simp[px]at h;subst h;simp[Op.eqFields]
    |cons f N=>
      simp only[U',px]at h;split at h;·cases h
      ·rename_i b2
       split at h
       ·rename_i a b h1 h2
        simp only[Option.some.injEq]at h;obtain⟨u,v,hu,hv,b3⟩:=ih.1 f.type d I J xs ys f.offset a (by omega) X hy h1;have h3:=ih.2 d I J N xs ys b (by omega) X hy h2;simp only[Op.eqFields,ne_eq,b2,not_false_eq_true,if_true,Sem.run_bind,hu,hv,b3,Result.andThen_ok,Sem.run_ite];cases a;·simp at h;subst h;simp
        ·simp at h;subst h;simpa using h3
       ·cases h
end
def jI:A->Option (List (List D))
 |.d (.sl es)=>some es
 |.own _ es=>some es
 |.d (.v (.slice none 0 0))=>some []
 |.fl es=>some es
 |_=>none
theorem jv{v}(h:jI a=some es)(I:bK E v a):bN E.w E.pv v (.sl es):=by
 unfold jI at h;split at h;·cases I;simp only[Option.some.injEq]at h;subst h;assumption
 ·cases I;simp only[Option.some.injEq]at h;subst h;assumption
 ·cases I with
  |d hd=>cases hd;simp only[Option.some.injEq]at h;subst h;exact .nil
 ·cases I;simp only[Option.some.injEq]at h;subst h;assumption
 ·grind
theorem bN.len{v}(h:bN w pv v (.sl es)):∃a cap,v=.slice a es.length cap∧es.length<=maxLen:=by
 cases h with
 |nil=>exact⟨none,0,rfl,by simp⟩
 |emp a cap hm=>exact⟨_,cap,rfl,by simp⟩
 |sl b off len cap sz es u hl I hm hs hu J=>exact⟨_,cap,by rw[hl],by omega⟩
section
variable(T:cG P)
def pb(t:Nat)(l:List A):Option A:=match bh T.l t with
 |some d=>bif d.k.agg then(if d.n<=l.length then some (my (l.take d.n))else none)else l[0]?
 |none=>none
def mw(t:Nat)(l:List D):Option A:=match bh T.l t with
 |some d=>bif d.k.agg then(if d.n<=l.length then some (.ag (l.take d.n))else none)else(l[0]?).map .d
 |none=>none
def qP(t i:Nat):Option (Nat×Nat):=match cY T t with
 |.st I=>(I[i]?).map fun x=>(x.1,x.2.1)
 |_=>none
def eW(t:Nat):Nat:=match bh T.l t with|some d=>d.n|none=>0
def GM:Option Value->Option A
 |some v=>some (.d (.v v))
 |none=>none
def GN:Option Bool->Option A
 |some b=>some (.d (.v (.bool b)))
 |none=>none
def Dg:Option Bool->Option A
 |some b=>some (.d (.v (.bool !b)))
 |none=>none
def FO:Option (List (List D))->Option A
 |some es=>some (.d (.v (.int .i64 es.length)))
 |none=>none
theorem DG{o}(h:GM o=some a):∃v,o=some v∧A.d (.v v)=a:=by cases o<;>simp[GM]at h;exact⟨_,rfl,h⟩
theorem EN{o}(h:GN o=some a):∃b,o=some b∧A.d (.v (.bool b))=a:=by cases o<;>simp[GN]at h;exact⟨_,rfl,h⟩
theorem Co{o}(h:Dg o=some a):∃b,o=some b∧A.d (.v (.bool !b))=a:=by cases o<;>simp[Dg]at h;exact⟨_,rfl,h⟩
theorem E9{o}(h:FO o=some a):∃es,o=some es∧A.d (.v (.int .i64 es.length))=a:=by cases o<;>simp[FO]at h;exact⟨_,rfl,h⟩
def zV(f:List (Nat×A))(c:Call):Option A:=
 match c.callee,c.args.toList,c.argTypes.toList with
 |.builtin .len,[x],[t]=>(match av f x with
   |some (.d (.v (.string s)))=>(match cY T t with|.str=>some (.d (.v (.int .i64 s.size)))|_=>none)
   |some a=>(match cY T t with|.slice _=>FO (jI a)|_=>none)
   |none=>none)
 |.builtin .max,[x,y],_=>(match av f x,av f y with
   |some (.d (.v (.int k a))),some (.d (.v (.int I b)))=>if k=I then some (.d (.v (.int k (if a<b then b else a))))else none
   |_,_=>none)
 |.builtin .min,[x,y],_=>(match av f x,av f y with
   |some (.d (.v (.int k a))),some (.d (.v (.int I b)))=>if k=I then some (.d (.v (.int k (if b<a then b else a))))else none
   |_,_=>none)
 |_,_,_=>none
def kJ(f:List (Nat×A)):List Operand->Option (List A)
 |[]=>some []
 |x::r=>match av f x,kJ f r with
   |some a,some l=>some (a::l)
   |_,_=>none
def kA(f:List (Nat×A))(bx:List (Nat×List A)):Op->Option A
 |.move x=>av f x
 |.assign x=>av f x
 |.pick c a b=>(match av f c with
   |some (.d (.v (.bool true)))=>av f a
   |some (.d (.v (.bool false)))=>av f b
   |_=>none)
 |.binOp op t x y _=>(match av f x,av f y with
   |some (.d (.v a)),some (.d (.v b))=>GM (bV op (cY T t) a b)
   |some (.ag l),some (.ag r)=>(match cY T t,op with
     |.st J,.eql=>GN (px T 50 J l r)
     |.st J,.neq=>Dg (px T 50 J l r)
     |_,_=>none)
   |_,_=>none)
 |.unOp op _ x=>(match op,av f x with
   |.not,some (.d (.v (.bool b)))=>some (.d (.v (.bool !b)))
   |.neg,some (.d (.v (.int k n)))=>some (.d (.v (.int k (k.wrap (0-n)))))
   |_,_=>none)
 |.convert s t x=>(match av f x,cY T s,cY T t with
   |some (.d (.v (.int _ n))),.int _,.int k=>some (.d (.v (.int k (k.wrap n))))
   |some (.d (.v (.string s))),.str,.str=>some (.d (.v (.string s)))
   |_,_,_=>none)
 |.extract x i=>(match av f x with
   |some (.tup l)=>l[i]?
   |_=>none)
 |.field t x i=>(match qP T t i,av f x with
   |some (o,I),some (.ag l)=>mw T I (l.drop o)
   |some (o,I),some (.agg l)=>pb T I (l.drop o)
   |_,_=>none)
 |.fieldAddr t x i=>(match qP T t i with
   |some (o,I)=>(match eW T I,av f x with
     |_+1,some (.ptr g off)=>(match bh bx g with|some _=>some (.ptr g (off+o))|none=>none)
     |_+1,some (.rowd l)=>some (.rowd (l.drop o))
     |_+1,some (.row l)=>some (.row (l.drop o))
     |_,_=>none)
   |none=>none)
 |.load t x=>(match av f x with
   |some (.ptr g off)=>(match bh bx g with|some cells=>pb T t (cells.drop off)|none=>none)
   |some (.rowd l)=>mw T t l
   |some (.row l)=>pb T t l
   |_=>none)
 |.makeFunc (.func fn) first caps=>(match first.toList,kJ f caps.toList with
   |[],some l=>some (.clo fn l)
   |x::r,some []=>(match kJ f (x::r)with|some l=>some (.bnd fn l)|none=>none)
   |_,_=>none)
 |.nilCheck x=>(match av f x with
   |some (.ptr g off)=>(match bh bx g with|some _=>some (.ptr g off)|none=>none)
   |some (.rowd l)=>some (.rowd l)
   |some (.row l)=>some (.row l)
   |_=>none)
 |.call c=>zV T f c
 |_=>none
def eV(P:Program)(E:En)(I:Operand->Value)(o:Oper)(a:A):Prop:=∃v,(execOp I o).run P E.w=.ok (.value v) E.w∧bK E v a
section
variable{n:Nat}(h:bq C n st G tmps w)
include h
theorem jM:∀(l:List Operand)(r:List A),kJ st.f l=some r->l.length=r.length∧∀(i:Nat)(x:A),r[i]?=some x->∃y,l[i]?=some y∧bK (bu C G st.gen w) (Act.eval ⟨tmps,[]⟩ y) x
 |[],r,hr=>by simp[kJ]at hr;subst hr;simp
 |y::l,r,hr=>by
   simp only[kJ]at hr;split at hr
   ·rename_i b l' hb hl
    simp only[Option.some.injEq]at hr;subst hr;obtain⟨h1,h2⟩:=jM l l' hl;refine⟨by simp[h1],fun i x I=>?_⟩
    cases i with
    |zero=>simp at I;subst I;exact⟨y,by simp,h.av hb⟩
    |succ i=>simpa using h2 i x (by simpa using I)
   ·grind
theorem mL{v}(hb:bh st.bx g=some cells)(N:bK (bu C G st.gen w) v (.ptr g off)):
 ∃b cs I,v=.pointer (some ⟨b,off,none⟩)∧w.heap[b]?=some (.cells cs I (0,0))∧cs.size=cells.length∧(∀(i:Nat)(u:Value),cs[i]?=some u->u.oneCell'=true)∧
   ∀(i:Nat)(u:Value)(a:A),cs[i]?=some u->cells[i]?=some a->bK (bu C G st.gen w) u a:=by
 obtain⟨b,cs,I,h1,h2,h3,h4,h5⟩:=h.box g cells hb
 cases N with
 |ptr _ _ _ O _ J M=>exact⟨b,cs,I,oO J M b h1,h2,h3,h4,h5⟩
omit h in
theorem iY{d:cV}(hd:bh T.l t=some d)(u)(I:∀j,j<(if d.k.agg then d.n else 1)->cellAt w b (off+j)=some (u j)):
 (Instr.loadAt t (.pointer (some ⟨b,off,none⟩))).run P w=.ok (if d.k.agg then .agg ((List.range d.n).map u).toArray else u 0) w:=by
 cases hk:d.k.agg
 ·simp only[hk,L',if_false]at I
  have:=I 0 (by omega);simp only[cellAt,Nat.add_zero]at this;simp[Instr.loadAt,Instr.sureAddr,loadVar,T.isAgg hd,hk,this]
 ·simp only[hk,if_true]at I
  have hl:=run_loadCells (P:=P) (w:=w) ⟨b,off,none⟩ d.n u (fun j hj=>by
   have:=I j hj;unfold Addr.add;split;·rename_i e;subst e;simpa[cellAt]using this
   ·exact this)
  simp only[Instr.loadAt,Instr.sureAddr,Sem.run_bind,Sem.run_pure,Result.andThen_ok,loadVar,T.isAgg hd,hk,if_true,T.sizeOf hd,hl]
omit h in
theorem rf {l:List A} {u:Nat→Value} (hc:∀ j,j < l.length→cellAt E.w b (off+j)=some (u j)∧(u j).oneCell'=true) (hl:∀ (j:Nat) (x:A),l[j]? = some x→bK E (u j) x) (ha:pb T t l=some a):
    ∃ v,(Instr.loadAt t (.pointer (some ⟨b,off,none⟩))).run P E.w=.ok v E.w∧bK E v a:=by
  unfold pb at ha
  split at ha
  · rename_i d hd
    cases hk:d.k.agg
    · simp only[hk,cond_false] at ha
      have h0:0 < l.length:=(δ.1 ha).1
      refine⟨_,iY T hd u (fun j hj=>?_),?_⟩
      · simp only[hk,L',if_false] at hj
        exact(hc j (by omega)).1
      · simp only[hk,L',if_false]
        exact hl 0 a ha
    · simp only[hk,cond_true] at ha
      split at ha
      · rename_i hn
        simp only[Option.some.injEq] at ha
        subst ha
        refine⟨_,iY T hd u (fun j hj=>?_),?_⟩
        · simp only[hk,if_true] at hj
          exact(hc j (by omega)).1
        · simp only[hk,if_true]
          refine mP (by simp;omega) (fun i v hv=>?_) (fun i v x hv hx=>?_)
          · simp only[List.getElem?_toArray,τ,List.getElem?_range] at hv
            have hi:i < d.n:=by
              rcases Nat.lt_or_ge i d.n with h | h
              · exact h
              · simp[List.getElem?_eq_none,h] at hv
            simp[hi] at hv
            subst hv
            exact(hc i (by omega)).2
          · have hi:i < d.n:=by
              rcases Nat.lt_or_ge i d.n with h | h
              · exact h
              · simp[List.getElem?_eq_none,h] at hv
            simp[hi] at hv
            subst hv
            rw[List.getElem?_take,if_pos hi] at hx
            exact hl i x hx
      · cases ha
  · cases ha
omit h in
theorem nE{u:Nat->Value}(M:∀j,j<l.length->cellAt E.w b (off+j)=some (u j))(hl:∀(j:Nat)(x:D),l[j]?=some x->bN E.w E.pv (u j) x)(I:mw T t l=some a):
 ∃v,(Instr.loadAt t (.pointer (some ⟨b,off,none⟩))).run P E.w=.ok v E.w∧bK E v a:=by
 unfold mw at I;split at I
 ·rename_i d hd
  cases hk:d.k.agg
  ·simp only[hk,cond_false,ν]at I
   obtain⟨x,J,rfl⟩:=I;have h0:0<l.length:=(δ.1 J).1;refine⟨_,iY T hd u (fun j hj=>?_),?_⟩;·grind
   ·simp only[hk,L',if_false]
    exact .d (hl 0 x J)
  ·simp only[hk,cond_true]at I
   split at I
   ·rename_i N
    simp only[Option.some.injEq]at I;subst I;refine⟨_,iY T hd u (fun j hj=>?_),?_⟩;·grind
    ·simp only[hk,if_true]
     refine .ag _ _ (by simp;omega) (fun i v x O J=>?_);grind
   ·grind
 ·grind
end
end
section
variable(T:cG P)
variable{n:Nat}(h:bq C n st G tmps w)
theorem mA{I}(J:o.op=.load t x):execOp I o=(do pure (.value (<-Instr.loadAt t (I x)))):=by unfold execOp;rw[J]
theorem ql{I}(J:qP T t i=some (off,I)):∃fl:Array Field,∃fd:Field,P.underlying t=some (.struct fl)∧fl[i]?=some fd∧fd.offset=off∧fd.type=I:=by
 unfold qP at J;split at J
 ·rename_i U N
  obtain⟨d,hd,M⟩:=fH T N (by simp);obtain⟨fl,hu,O,_⟩:=T.uS hd M;grind
 ·grind
theorem mz{I}(N:qP T t i=some (off,I))(hs:eW T I=m+1)(b o' w):
 (Instr.fieldAt t (.pointer (some ⟨b,o',none⟩)) i).run P w=.ok (.pointer (some ⟨b,o'+off,none⟩)) w:=by
 obtain⟨fl,fd,hu,J,rfl,rfl⟩:=ql T N;have M:(sizeOf fd.type).run P w=.ok (m+1) w:=by grind[eW,cG.sizeOf]
 simp only[Instr.fieldAt,Sem.run_bind,run_underlying hu,Result.andThen_ok,J,Instr.sureAddr,Sem.run_pure,fieldPlace,M,Nat.succ_ne_zero,if_false];unfold Addr.add;grind
include h
theorem Im(U:o.op=.load t x)(I:kA T st.f st.bx (.load t x)=some a):eV P (bu C G st.gen w) (Act.eval ⟨tmps,[]⟩) o a:=by
 have key:∃v,(Instr.loadAt t (Act.eval ⟨tmps,[]⟩ x)).run P w=.ok v w∧bK (bu C G st.gen w) v a:=by
  simp only[kA]at I;split at I
  ·rename_i g off J
   split at I
   ·rename_i cells hb
    obtain⟨b,cs,X,h1,h2,h3,h4,h5⟩:=mL h hb (h.av J);rw[h1];refine rf (E:=bu C G st.gen w) T (u:=fun j=>cs[off+j]?.getD default) (l:=cells.drop off) (fun j hj=>?_) (fun j y hy=>?_) I
    ·have O:off+j<cs.size:=by simp at hj;omega
     have e:cs[off+j]?=some cs[off+j]:=by simp[O]
     exact⟨by show cellAt w b (off+j)=_;rw[cP h2,e];rfl,by rw[e];exact h4 _ _ e⟩
    ·grind
   ·grind
  ·rename_i l J
   have M:=h.av J;generalize Act.eval ⟨tmps,[]⟩ x=v at M
   cases M with
   |rowd b off _ u N hd=>exact nE (E:=bu C G st.gen w) T (fun j hj=>(N j hj).1) hd I
  ·rename_i l J
   have M:=h.av J;generalize Act.eval ⟨tmps,[]⟩ x=v at M
   cases M with
   |row b off _ u N hd=>exact rf (E:=bu C G st.gen w) T (fun j hj=>⟨(N j hj).1,(N j hj).2.2⟩) hd I
  ·grind
 obtain⟨v,h1,h2⟩:=key;refine⟨v,?_,h2⟩;rw[mA U];show Sem.run P _ w=.ok _ w;simp_all
theorem Aq(ho:o.op=.fieldAddr t x i)(I:kA T st.f st.bx (.fieldAddr t x i)=some a):eV P (bu C G st.gen w) (Act.eval ⟨tmps,[]⟩) o a:=by
 have key:∃v,(Instr.fieldAt t (Act.eval ⟨tmps,[]⟩ x) i).run P w=.ok v w∧bK (bu C G st.gen w) v a:=by
  simp only[kA]at I;split at I
  ·rename_i N ft O
   split at I
   ·rename_i m g off hs M
    split at I
    ·rename_i cells hb
     simp only[Option.some.injEq]at I;subst I;have J:=h.av M;obtain⟨b,cs,T',h1,h2,h3,h4,h5⟩:=mL h hb J;rw[h1]at J⊢;refine⟨_,mz T O hs b off w,?_⟩
     cases J with
     |ptr _ _ _ b' hg X this=>refine .ptr _ _ _ b' hg X ?_;grind
    ·grind
   ·rename_i m l hs M
    simp only[Option.some.injEq]at I;subst I;have J:=h.av M;generalize Act.eval ⟨tmps,[]⟩ x=v at J
    cases J with
    |rowd b off _ u hc hd=>refine⟨_,mz T O hs b off w,.rowd b (off+N) _ (fun j=>u (N+j)) (fun j hj=>?_) (fun j y U=>hd _ _ (by simpa using U))⟩;grind
   ·rename_i m l hs M
    simp only[Option.some.injEq]at I;subst I;have J:=h.av M;generalize Act.eval ⟨tmps,[]⟩ x=v at J
    cases J with
    |row b off _ u hc hd=>refine⟨_,mz T O hs b off w,.row b (off+N) _ (fun j=>u (N+j)) (fun j hj=>?_) (fun j y U=>hd _ _ (by simpa using U))⟩;grind
   ·grind
  ·grind
 obtain⟨v,h1,h2⟩:=key;refine⟨v,?_,h2⟩;unfold execOp;rw[ho];show Sem.run P _ w=.ok _ w;simp_all
omit h in
theorem AL{cs:Array Value}{l:List A}(N:∀(i:Nat)(u:Value),cs[i]?=some u->u.oneCell'=true)(hs:cs.size=l.length)(hl:∀(i:Nat)(u:Value)(x:A),cs[i]?=some u->l[i]?=some x->bK E u x)(I:pb T t (l.drop off)=some a):∃v,(part t cs off).run P E.w=.ok v E.w∧bK E v a:=by
 unfold pb at I;split at I
 ·rename_i d hd
  cases hk:d.k.agg
  ·simp only[hk,cond_false]at I
   have J:l[off]?=some a:=by simpa using I
   have hi:off<cs.size:=by rw[hs];exact(δ.1 J).1
   have e:cs[off]?=some cs[off]:=by simp[hi]
   grind[kP]
  ·simp only[hk,cond_true]at I
   split at I
   ·rename_i M
    simp only[Option.some.injEq]at I;subst I;refine⟨_,lz T hd hk cs off _,mP (by simp at M⊢;omega) (fun i u hu=>?_) (fun i u x hu J=>?_)⟩;·grind[Array.getElem?_extract]
    ·grind
   ·grind
 ·grind
omit h in
theorem A2{cs}(hl:fw E cs l)(I:mw T t (l.drop off)=some a):∃v,(part t cs off).run P E.w=.ok v E.w∧bK E v a:=by
 unfold mw at I;split at I
 ·rename_i d hd
  cases hk:d.k.agg
  ·simp only[hk,cond_false,ν]at I
   obtain⟨x,J,rfl⟩:=I;obtain⟨u,hu,M⟩:=hl.get (i:=off) (by simpa using J);exact⟨_,kP T hd hk hu _,.d M⟩
  ·simp only[hk,cond_true]at I
   split at I
   ·rename_i N
    simp only[Option.some.injEq]at I;subst I;have:=hl.part off d.n;exact⟨_,lz T hd hk cs off _,.ag _ _ this.1 this.2⟩
   ·grind
 ·grind
theorem F9(U:o.op=.field t x i)(M:kA T st.f st.bx (.field t x i)=some a):eV P (bu C G st.gen w) (Act.eval ⟨tmps,[]⟩) o a:=by
 have key:∃v,(Instr.field t (Act.eval ⟨tmps,[]⟩ x) i).run P w=.ok v w∧bK (bu C G st.gen w) v a:=by
  simp only[kA]at M;split at M
  ·rename_i X ft l N O
   have I:=h.av O;generalize Act.eval ⟨tmps,[]⟩ x=v at I;obtain⟨fl,fd,hu,J,rfl,rfl⟩:=ql T N
   cases I with
   |ag cs _ hs hd=>obtain⟨v,h1,h2⟩:=A2 (E:=bu C G st.gen w) T (cs:=cs) (l:=l) (off:=fd.offset) ⟨hs,hd⟩ M;exact⟨v,by simp only[Instr.field,Sem.run_bind,run_underlying hu,Result.andThen_ok,J,asAgg,Sem.run_pure];exact h1,h2⟩
  ·rename_i X ft l N O
   have I:=h.av O;generalize Act.eval ⟨tmps,[]⟩ x=v at I;obtain⟨fl,fd,hu,J,rfl,rfl⟩:=ql T N
   cases I with
   |agg cs _ hs hone hd=>obtain⟨v,h1,h2⟩:=AL (E:=bu C G st.gen w) T (cs:=cs) (l:=l) (off:=fd.offset) hone hs hd M;exact⟨v,by simp only[Instr.field,Sem.run_bind,run_underlying hu,Result.andThen_ok,J,asAgg,Sem.run_pure];exact h1,h2⟩
  ·grind
 obtain⟨v,h1,h2⟩:=key;refine⟨v,?_,h2⟩;unfold execOp;rw[U];show Sem.run P _ w=.ok _ w;simp_all
theorem Gf{op:BinOp}(ho:o.op=.binOp op t x y t')(U:kA T st.f st.bx (.binOp op t x y t')=some a):eV P (bu C G st.gen w) (Act.eval ⟨tmps,[]⟩) o a:=by
 have key:∃v,(do eqGuard op t x y (Act.eval ⟨tmps,[]⟩ x) (Act.eval ⟨tmps,[]⟩ y);binOp op t (Act.eval ⟨tmps,[]⟩ x) (Act.eval ⟨tmps,[]⟩ y):Sem Value).run P w=.ok v w∧bK (bu C G st.gen w) v a:=by
  simp only[kA]at U;split at U
  ·rename_i u v hx hy
   have I:=h.av hx;have J:=h.av hy;generalize Act.eval ⟨tmps,[]⟩ x=u' at I;generalize Act.eval ⟨tmps,[]⟩ y=v' at J;obtain⟨r,M,rfl⟩:=DG U
   cases I with
   |d I=>
   cases J with
   |d J=>
   cases I with
   |v _ hu=>
   cases J with
   |v _ hv=>
   have res:(binOp op t u v).run P w=.ok r w∧dy r=true∧(eqGuard op t x y u v).run P w=.ok () w:=by
    unfold bV at M;split at M
    ·split at M
     ·rename_i e
      subst e;split at M;·grind
      ·grind
      ·rename_i h1 h2
       obtain⟨h3,h4⟩:=KX (P:=P) (w:=w) (t:=t) M h1 h2;exact⟨h3,h4,by simp[eqGuard]⟩
     ·grind
    ·obtain⟨h3,h4⟩:=KS (P:=P) (w:=w) (t:=t) M
     exact⟨h3,h4,by simp[eqGuard]⟩
    ·split at M
     ·rename_i N
      obtain⟨d,hd,X⟩:=fH T N (by simp);obtain⟨h3,h4⟩:=KO (P:=P) (w:=w) (t:=t) (T.u9 hd X) M;exact⟨h3,h4,by simp[eqGuard]⟩
     ·grind
    ·grind
   exact⟨r,by simp only[Sem.run_bind,res.2.2,Result.andThen_ok,res.1],.d (.v _ res.2.1)⟩
  ·rename_i l r hx hy
   have I:=h.av hx;have J:=h.av hy;generalize Act.eval ⟨tmps,[]⟩ x=u' at I;generalize Act.eval ⟨tmps,[]⟩ y=v' at J
   cases I with
   |ag cx _ ad ai=>
   cases J with
   |ag cy _ aj a1=>
   have gen:∀(O:List (Nat×Nat×String))(b:Bool),cY T t=.st O->px T 50 O l r=some b->
    (Op.equal t (.agg cx) (.agg cy)).run P w=.ok b w∧∀op,(eqGuard op t x y (.agg cx) (.agg cy)).run P w=.ok () w:=by
    intro O b N hb;obtain⟨d,hd,X⟩:=fH T N (by simp);obtain⟨fl,hu,a6,a7,a8,_⟩:=T.uS hd X;refine⟨?_,fun op=>by cases op<;>simp[eqGuard,a8]⟩;show(Op.equalIn (9999+1) t (.agg cx) (.agg cy)).run P w=.ok b w;rw[run_equalIn_struct w 9999 t _ _ (by rw[mG hu];exact hu) a7,mG hu];exact(run_eq (E:=bu C G st.gen w) T w 50).2 9999 cx cy fl.toList l r b (by omega) ⟨ad,ai⟩ ⟨aj,a1⟩ (by rw[a6];exact hb)
   split at U
   ·rename_i O N
    obtain⟨b,hb,rfl⟩:=EN U;obtain⟨h1,h2⟩:=gen O b N hb;exact⟨_,by simp only[Sem.run_bind,h2,Result.andThen_ok,binOp,h1,Sem.run_pure],.d (.v _ rfl)⟩
   ·rename_i O N
    obtain⟨b,hb,rfl⟩:=Co U;obtain⟨h1,h2⟩:=gen O b N hb;exact⟨_,by simp only[Sem.run_bind,h2,Result.andThen_ok,binOp,h1,Sem.run_pure],.d (.v _ rfl)⟩
   ·grind
  ·grind
 obtain⟨v,h1,h2⟩:=key;refine⟨v,?_,h2⟩;unfold execOp;rw[ho];show Sem.run P _ w=.ok _ w;simp only[Sem.run_bind]at h1⊢;simp_all
end
section
variable(T:cG P)
variable{n:Nat}(h:bq C n st G tmps w)
theorem uh(l:List Operand)(cs:Array Operand)(hl:cs.toList=l)(I:Operand->Value):cs.map I=(l.map I).toArray:=by grind
include h
theorem H4{c:Call}(ho:o.op=.call c)(J:zV T st.f c=some a):eV P (bu C G st.gen w) (Act.eval ⟨tmps,[]⟩) o a:=by
 obtain⟨a8,args,X⟩:=c;have key:∃v,(do let d←resolve (Act.eval ⟨tmps,[]⟩) ⟨a8,args,X⟩ o.type;invoke d.target d.args:Sem Next).run P w=.ok (.value v) w∧bK (bu C G st.gen w) v a:=by
  unfold zV at J;split at J
  ·rename_i x t I O ht
   simp only at I O ht;subst I;have U:=uh _ _ O (Act.eval ⟨tmps,[]⟩);have e2:X=#[t]:=by cases X;simp_all
   subst e2;split at J
   ·rename_i s hs
    split at J
    ·rename_i hk
     obtain⟨d,hd,ai⟩:=fH T hk (by simp);simp only[Option.some.injEq]at J;subst J;have hr:=h.av hs;generalize hv:Act.eval ⟨tmps,[]⟩ x=v at hr
     cases hr with
     |d hr=>
     cases hr with
     |v _ hok=>
     refine⟨.int .i64 s.size,?_,.d (.v _ ?_)⟩
     ·simp only[resolve,U,U',List.map_nil,hv,Sem.run_bind,Sem.run_pure,Result.andThen_ok,invoke,builtin,Builtin.len_]
      simp[run_underlying (T.kr hd ai),goInt]
     ·simp only[dy,Δ,μ]at hok⊢
      simp only[maxLen]at hok;simp[IntKind.min,IntKind.max,IntKind.signed,IntKind.bits];omega
    ·grind
   ·rename_i b hb hs
    split at J
    ·rename_i e hk
     obtain⟨d,hd,ai⟩:=fH T hk (by simp);obtain⟨es,b0,rfl⟩:=E9 J;obtain⟨ad,cap,hv,hlen⟩:=(jv b0 (h.av hs)).len;refine⟨.int .i64 es.length,?_,.d (.v _ ?_)⟩
     ·simp only[resolve,U,U',List.map_nil,hv,Sem.run_bind,Sem.run_pure,Result.andThen_ok,invoke,builtin,Builtin.len_]
      simp[run_underlying (T.gN hd ai),goInt]
     ·simp only[maxLen]at hlen
      simp[dy,IntKind.min,IntKind.max,IntKind.signed,IntKind.bits];omega
    ·grind
   ·grind
  ·rename_i x y I O
   simp only at I O;subst I;have U:=uh _ _ O (Act.eval ⟨tmps,[]⟩);split at J
   ·rename_i k a1 k' b1 h1 h2
    split at J
    ·rename_i aj
     subst aj;simp only[Option.some.injEq]at J;subst J;have M:=h.av h1;have N:=h.av h2;generalize a6:Act.eval ⟨tmps,[]⟩ x=v1 at M;generalize a7:Act.eval ⟨tmps,[]⟩ y=v2 at N;cases M with|d M=>cases M with|v _ b2=>
     cases N with|d N=>cases N with|v _ b3=>
     refine⟨_,?_,.d (.v _ ?_)⟩
     ·simp only[resolve,U,U',List.map_nil,a6,a7,Sem.run_bind,Sem.run_pure,Result.andThen_ok,invoke,builtin,Builtin.max_]
      simp[Builtin.max2]
     ·grind
    ·grind
   ·grind
  ·rename_i x y I O
   simp only at I O;subst I;have U:=uh _ _ O (Act.eval ⟨tmps,[]⟩);split at J
   ·rename_i k a1 k' b1 h1 h2
    split at J
    ·rename_i aj
     subst aj;simp only[Option.some.injEq]at J;subst J;have M:=h.av h1;have N:=h.av h2;generalize a6:Act.eval ⟨tmps,[]⟩ x=v1 at M;generalize a7:Act.eval ⟨tmps,[]⟩ y=v2 at N;cases M with|d M=>cases M with|v _ b2=>
     cases N with|d N=>cases N with|v _ b3=>
     refine⟨_,?_,.d (.v _ ?_)⟩
     ·simp only[resolve,U,U',List.map_nil,a6,a7,Sem.run_bind,Sem.run_pure,Result.andThen_ok,invoke,builtin,Builtin.min_]
      simp[Builtin.min2]
     ·grind
    ·grind
   ·grind
  ·grind
 obtain⟨v,h1,h2⟩:=key;refine⟨v,?_,h2⟩;unfold execOp;rw[ho];exact h1
theorem Fk(J:kA T st.f st.bx o.op=some a)(hl:∀t x,o.op≠.load t x)(hf:∀t x i,o.op≠.fieldAddr t x i)(ad:∀t x i,o.op≠.field t x i)(hb:∀p t x y t',o.op≠.binOp p t x y t')(X:∀c,o.op≠.call c):
 eV P (bu C G st.gen w) (Act.eval ⟨tmps,[]⟩) o a:=by
 unfold eV execOp;cases hop:o.op<;>rw[hop]at J hl hf ad hb X<;>simp only[kA]at J<;>first|(cases J;done)|skip
 case move x=>exact⟨_,rfl,h.av J⟩
 case assign x=>exact⟨_,rfl,h.av J⟩
 case pick c x y=>
  split at J
  ·rename_i ai
   have I:=h.av ai;generalize N:Act.eval ⟨tmps,[]⟩ c=v at I;cases I with|d I=>cases I with|v _ _=>
   exact⟨_,by simp only[Sem.run_bind,asBool,N,Sem.run_pure,Result.andThen_ok,if_true]<;>rfl,h.av J⟩
  ·rename_i ai
   have I:=h.av ai;generalize N:Act.eval ⟨tmps,[]⟩ c=v at I;cases I with|d I=>cases I with|v _ _=>
   exact⟨_,by simp only[Sem.run_bind,asBool,N,Sem.run_pure,Result.andThen_ok,L',if_false]<;>rfl,h.av J⟩
  ·grind
 case load t x=>exact absurd rfl (hl t x)
 case fieldAddr t x i=>exact absurd rfl (hf t x i)
 case field t x i=>exact absurd rfl (ad t x i)
 case binOp p t x y t'=>exact absurd rfl (hb p t x y t')
 case call c=>exact absurd rfl (X c)
 case unOp p t x=>
  split at J
  ·rename_i b M
   have I:=h.av M;generalize N:Act.eval ⟨tmps,[]⟩ x=v at I;cases I with|d I=>cases I with|v _ _=>
   simp only[Option.some.injEq]at J;subst J;exact⟨_,by simp only[N,Op.unary,Sem.run_bind,Sem.run_pure,Result.andThen_ok]<;>rfl,.d (.v _ rfl)⟩
  ·rename_i k m M
   have I:=h.av M;generalize N:Act.eval ⟨tmps,[]⟩ x=v at I;cases I with|d I=>cases I with|v _ _=>
   simp only[Option.some.injEq]at J;subst J;exact⟨_,by simp only[N,Op.unary,Op.intArith,Sem.run_bind,Sem.run_pure,Result.andThen_ok]<;>rfl,.d (.v _ (ie _ _))⟩
  ·grind
 case convert s t x=>
  split at J
  ·rename_i k m q k' M hs ht
   have I:=h.av M;generalize N:Act.eval ⟨tmps,[]⟩ x=v at I;cases I with|d I=>cases I with|v _ _=>
   simp only[Option.some.injEq]at J;subst J;obtain⟨ds,aj,O⟩:=fH T hs (by simp);obtain⟨dt,a1,U⟩:=fH T ht (by simp);exact⟨_,by simp only[N,convert,Conv.intToInt,Sem.run_bind,run_underlying (T.iC aj O),run_underlying (T.iC a1 U),Sem.run_pure,Result.andThen_ok]<;>rfl,.d (.v _ (ie _ _))⟩
  ·rename_i m M hs ht
   have I:=h.av M;generalize N:Act.eval ⟨tmps,[]⟩ x=v at I;cases I with|d I=>cases I with|v _ hok=>
   simp only[Option.some.injEq]at J;subst J;obtain⟨ds,aj,O⟩:=fH T hs (by simp);obtain⟨dt,a1,U⟩:=fH T ht (by simp);exact⟨_,by simp only[N,convert,Sem.run_bind,run_underlying (T.kr aj O),run_underlying (T.kr a1 U),Sem.run_pure,Result.andThen_ok]<;>rfl,.d (.v _ hok)⟩
  ·grind
 case extract x i=>
  split at J
  ·rename_i l M
   have I:=h.av M;generalize N:Act.eval ⟨tmps,[]⟩ x=v at I
   cases I with
   |tup vs _ hs hd=>
   have hi:i<vs.size:=by rw[hs];exact(δ.1 J).1
   have e:vs[i]?=some vs[i]:=by simp[hi]
   exact⟨_,by simp only[N,Instr.extract,e,Sem.run_bind,Sem.run_pure,Result.andThen_ok]<;>rfl,hd i _ _ e J⟩
  ·grind
 case makeFunc fn first caps=>
  cases fn<;>simp only at J<;>first|(cases J;done)|skip
  rename_i fid;split at J
  ·rename_i l ad b0
   simp only[Option.some.injEq]at J;subst J;have e1:first=#[]:=by cases first;simp_all
   subst e1;obtain⟨h1,h2⟩:=jM h caps.toList l b0;refine⟨_,by simp only[Instr.makeFunc,Sem.run_bind,Sem.run_pure,Result.andThen_ok]<;>rfl,?_⟩;have e0:(Array.map (Act.eval ⟨tmps,[]⟩) (#[]:Array Operand))=#[]:=by simp
   rw[e0];refine .clo fid _ l (by simp at h1;simp[h1]) (fun i u x hu M=>?_);grind
  ·rename_i x r a6 a8
   have e2:caps.toList=[]:=by have:=(jM h caps.toList [] a8).1;grind
   have e3:caps=#[]:=Array.toList_inj.1 e2
   cases a7:kJ st.f (x::r)with
   |none=>rw[a7]at J;cases J
   |some l=>
     rw[a7]at J;simp only[Option.some.injEq]at J;subst J;subst e3;have hl:kJ st.f first.toList=some l:=by rw[a6];exact a7
     obtain⟨h1,h2⟩:=jM h first.toList l hl;refine⟨_,by simp only[Instr.makeFunc,Sem.run_bind,Sem.run_pure,Result.andThen_ok]<;>rfl,?_⟩;have e0:(Array.map (Act.eval ⟨tmps,[]⟩) (#[]:Array Operand))=#[]:=by simp
     rw[e0];refine .bnd fid _ l (by simp at h1;simp[h1]) (fun i u x hu M=>?_);grind
  ·grind
 case nilCheck x=>
  dsimp only;split at J
  ·rename_i g off M
   split at J
   ·rename_i cells b2
    simp only[Option.some.injEq]at J;subst J;have I:=h.av M;obtain⟨b,cs,T',h1,_⟩:=mL h b2 I;simp_all
   ·grind
  ·rename_i l M
   simp only[Option.some.injEq]at J;subst J;have I:=h.av M;generalize Act.eval ⟨tmps,[]⟩ x=v at I
   cases I with
   |rowd b off _ u X hd=>exact⟨_,rfl,.rowd b off _ u X hd⟩
  ·rename_i l M
   simp only[Option.some.injEq]at J;subst J;have I:=h.av M;generalize Act.eval ⟨tmps,[]⟩ x=v at I
   cases I with
   |row b off _ u X hd=>exact⟨_,rfl,.row b off _ u X hd⟩
  ·grind
theorem K0(I:kA T st.f st.bx o.op=some a):eV P (bu C G st.gen w) (Act.eval ⟨tmps,[]⟩) o a:=by
 cases hop:o.op;case load t x=>exact Im T h hop (by rw[hop]at I;exact I)
 case fieldAddr t x i=>exact Aq T h hop (by rw[hop]at I;exact I)
 case field t x i=>exact F9 T h hop (by rw[hop]at I;exact I)
 case binOp p t x y t'=>exact Gf T h hop (by rw[hop]at I;exact I)
 case call c=>exact H4 T h hop (by rw[hop]at I;exact I)
 all_goals exact Fk T h I (by simp[hop]) (by simp[hop]) (by simp[hop]) (by simp[hop]) (by simp[hop])
end
def et(P:Program)(o:Oper)(act:Act)(w:World)(R:Value->World->Prop):Prop:=
 match(execOp act.eval o).run P w with
 |.ok (.value v) w'=>R v w'
 |.ok .skip w'=>R undef w'
 |.ok (.enter f args) w'=>Calls P f args w' (fun e I=>∃v,e=.returned v∧R v I)
 |_=>False
theorem et.wp{K Q}(h:et P o act w R)(I:∀v w',R v w'->K (act.put o.dst v) w'):o.wp P act w K Q:=by
 unfold et at h;unfold Oper.wp;generalize(execOp act.eval o).run P w=r at*
 cases r with
 |ok x w'=>
   cases x<;>simp only at h<;>simp only[Oper.upon];case value v=>exact I v w' h
   case skip=>exact I _ w' h
   case enter f args=>refine h.mono fun e J he=>?_;grind
 |halt x w'=>simp only at h
theorem Act.jN(tmps ds I):Act.eval ⟨tmps,ds⟩=Act.eval ⟨tmps,I⟩:=funext fun x=>by cases x<;>rfl
theorem et.ds{ds}(h:et P o ⟨tmps,[]⟩ w R):et P o ⟨tmps,ds⟩ w R:=by grind[et,Act.jN]
theorem Act.iP{ds}(dst v):Act.put ⟨tmps,ds⟩ dst v=⟨(Act.put ⟨tmps,[]⟩ dst v).tmps,ds⟩:=by cases dst<;>rfl
theorem et.mono{J}(h:et P o act w R)(I:∀v w',R v w'->J v w'):et P o act w J:=by
 unfold et at*;generalize(execOp act.eval o).run P w=r at*
 cases r with
 |ok x w'=>
   cases x<;>simp only at h⊢;case value v=>exact I v w' h
   case skip=>exact I _ w' h
   case enter f args=>exact h.mono fun e M⟨v,he,hv⟩=>⟨v,he,I v M hv⟩
 |halt x w'=>simp only at h
def Pu(P:Program)(C:Ctx)(n:Nat)(st:St)(o:Oper)(a:A):Prop:=
 ∀G tmps w,bq C n st G tmps w->et P o ⟨tmps,[]⟩ w fun v w'=>Below w.heap.size w w'∧bK (bu C G st.gen w') v a
theorem aq{n}(h:∀G tmps w,bq C n st G tmps w->eV P (bu C G st.gen w) (Act.eval ⟨tmps,[]⟩) o a):Pu P C n st o a:=by intro G tmps w hs;obtain⟨v,h1,h2⟩:=h G tmps w hs;unfold et;have I:(execOp (Act.eval ⟨tmps,[]⟩) o).run P w=.ok (.value v) w:=h1;rw[I];exact⟨Below.refl _ _,h2⟩
theorem Pu.ev(T:cG P){n}(h:kA T st.f st.bx o.op=some a):Pu P C n st o a:=
 aq fun _ _ _ hs=>K0 T hs h
def fO(P:Program)(ops:Array Oper)(Q:Exit->Act->World->Prop):List Oper->Act->World->Prop
 |[],a,w=>Q .normal a w
 |o::rest,a,w=>if Region.wanted o (yielded ops a.tmps)then o.wp P a w (fO P ops Q rest) Q else fO P ops Q rest (a.put o.dst undef) w
theorem sa{P:Program}{ops:Array Oper}{Q:Exit->Act->World->Prop}:∀(l:List Oper)(k:Nat),(∀j,l[j]?=ops[k+j]?)->∀(a:Act)(w:World),fO P ops Q l a w->wpOps P ops Q (List.range' k l.length) a w
 |[],k,_,a,w,h=>by simpa[wpOps,fO]using h
 |o::l,k,hl,a,w,h=>by
   have h0:ops[k]?=some o:=by simpa using(hl 0).symm
   simp only[Ξ,List.range'_succ];rw[wpOps_cons];unfold wpOp;simp only[h0];simp only[fO]at h;have I:=fun a w=>sa (P:=P) (Q:=Q) l (k+1) (fun j=>by have:=hl (j+1);simpa[Nat.add_assoc,Nat.add_comm 1 j]using this) a w;split
   ·rename_i hw
    simp only[hw,if_true]at h;exact .inl (Oper.wp_mono I h)
   ·grind
def lift(C:Ctx)(n:Nat)(Q:Exit->St->Prop):Exit->Act->World->Prop:=fun e a w=>a.defers=C.ds∧∃st,fv C n st a.tmps w∧Q e st
def WO(P:Program)(C:Ctx)(n:Nat)(ops:Array Oper)(Q:Exit->St->Prop)(l:List Oper)(st:St):Prop:=
 ∀tmps w,fv C n st tmps w->fO P ops (lift C n Q) l ⟨tmps,C.ds⟩ w
def W(P:Program)(C:Ctx)(n:Nat)(c:Code)(Q:Exit->St->Prop)(st:St):Prop:=
 ∀tmps w,fv C n st tmps w->c.wp P (lift C n Q) ⟨tmps,C.ds⟩ w
def fY(n:Nat):Option Nat->Bool
 |none=>true
 |some d=>Nat.blt d n
theorem dp{n}(h:fY n dst=true):∀d,dst=some d->d<n:=by intro d hd;subst hd;exact ρ (Nat.lt_succ_self d) (κ h)
section
variable{n:Nat}{rest:List Oper}
theorem ae(h:Q .normal st):WO P C n ops Q [] st:=fun _ _ hs=>⟨rfl,st,hs,h⟩
theorem WO.step(I:o.guard=none)(h:∀tmps w,fv C n st tmps w->et P o ⟨tmps,[]⟩ w fun v w'=>∃st',fv C n st' (Act.put ⟨tmps,[]⟩ o.dst v).tmps w'∧WO P C n ops Q rest st'):
 WO P C n ops Q (o::rest) st:=by
 intro tmps w hs;simp only[fO,Region.wanted,I,if_true];refine(h tmps w hs).ds.wp fun v w'⟨st',hs',hw⟩=>?_;rw[Act.iP];exact hw _ _ hs'
theorem WO.pu(I:o.guard=none)(hd:fY n o.dst=true)(hp:Pu P C n st o a)(h:WO P C n ops Q rest (st.put o.dst a)):WO P C n ops Q (o::rest) st:=by refine WO.step I fun tmps w⟨G,hs⟩=>(hp G tmps w hs).mono fun v w'⟨hb,hr⟩=>⟨_,⟨G,(hs.ij hb).2.put (dp hd) hr⟩,h⟩
theorem ru{c:Code}{Q ds}(e:ds=[])(h:c.wp P Q ⟨tmps,ds⟩ w):c.wp P Q ⟨tmps,[]⟩ w:=e▸h
def w4(o:Oper):Oper:={o with guard:=none}
def gL(ops:Array Oper)(j:Nat):Option Nat:=(ops[j]?).bind (·.dst)
theorem qQ{b}(hj:gL ops j=some d)(I:tmps[d]?=some (.bool b)):yielded ops tmps j=some b:=by unfold yielded;grind[gL]
theorem xC(hs:bq C n st G tmps w){b}(hl:look st.f d=some (.d (.v (.bool b)))):tmps[d]?=some (.bool b):=by obtain⟨v,J,I⟩:=hs.frame _ _ hl;cases I with|d I=>cases I;exact J
theorem WO.go(I:o.guard=some (j,want))(hj:gL ops j=some d)(hl:look st.f d=some (.d (.v (.bool want))))(h:WO P C n ops Q (w4 o::rest) st):
 WO P C n ops Q (o::rest) st:=by
 intro tmps w ⟨G,hs⟩;have:=h tmps w ⟨G,hs⟩;simp only[fO,Region.wanted,I,w4]at this⊢;rw[qQ hj (xC hs hl)];simp only[if_true]at this;simp only[BEq.rfl,if_true];exact this
theorem bq.known(hs:bq C n st G tmps w)(hl:look st.f d=some a)(he:a=a'):bq C n (st.set d a') G tmps w:=by
 subst he;refine{hs with frame:=fun t b hb=>?_};simp only[St.set,ct]at hb;split at hb
 ·rename_i e
  subst e;simp only[Option.some.injEq]at hb;subst hb;exact hs.frame _ _ hl
 ·exact hs.frame t b hb
theorem WO.split{l b}(hl:look st.f d=some (.d (.v (.bool b))))(I:b=true->WO P C n ops Q l (st.set d (.d (.v (.bool true)))))(J:b=false->WO P C n ops Q l (st.set d (.d (.v (.bool false))))):
 WO P C n ops Q l st:=by
 intro tmps w ⟨G,hs⟩;cases b;·exact J rfl tmps w ⟨G,hs.known hl rfl⟩
 ·exact I Z tmps w ⟨G,hs.known hl rfl⟩
theorem ab{l:List Oper}(h:WO P C n l.toArray Q l st):W P C n (.region id l.toArray false) Q st:=by intro tmps w hs;refine wp_region ?_;have:=sa (P:=P) (Q:=lift C n Q) (ops:=l.toArray) l 0 (by simp) ⟨tmps,C.ds⟩ w (h tmps w hs);grind[List.range_eq_range']
def QS(P:Program)(C:Ctx)(n:Nat)(y:Code)(Q:Exit->St->Prop):Exit->St->Prop
 |.normal,st=>W P C n y Q st
 |e,st=>Q e st
def QB(id:Nat)(Q:Exit->St->Prop):Exit->St->Prop
 |.exit i,st=>if i=id then Q .normal st else Q (.exit i) st
 |e,st=>Q e st
theorem W.mono{c Q'}(h:W P C n c Q st)(I:∀e st,Q e st->Q' e st):W P C n c Q' st:=
 fun tmps w hs=>wp_mono (h tmps w hs) fun _ _ _⟨h1,st',h2,h3⟩=>⟨h1,st',h2,I _ _ h3⟩
theorem ah(h:Q .normal st):W P C n .skip Q st:=fun _ _ hs=>wp_skip ⟨rfl,st,hs,h⟩
theorem W.ret(h:Q .ret st):W P C n .ret Q st:=fun _ _ hs=>wp_ret ⟨rfl,st,hs,h⟩
theorem ak(h:Q (.exit id) st):W P C n (.exit id) Q st:=fun _ _ hs=>wp_exit ⟨rfl,st,hs,h⟩
theorem aa{x y}(h:W P C n x (QS P C n y Q) st):W P C n (.seq x y) Q st:=by
 intro tmps w hs;refine wp_seq (wp_mono (h tmps w hs) ?_);rintro e ⟨t,M⟩ w' ⟨hd,st',I,J⟩;simp only at hd;subst hd;cases e<;>simp only[QS]at J<;>simp only[Exit.then];·exact J t w' I
 all_goals exact⟨rfl,st',I,J⟩
theorem W.block{c}(h:W P C n c (QB id Q) st):W P C n (.block id c) Q st:=by
 intro tmps w hs;refine wp_block (wp_mono (h tmps w hs) ?_);rintro e ⟨t,M⟩ w' ⟨hd,st',J,I⟩;cases e<;>simp only[QB]at I<;>simp only[Exit.inBlock];case exit i=>
  split;·rename_i e;rw[if_pos e]at I;exact⟨hd,st',J,I⟩
  ·rename_i e;rw[if_neg e]at I;exact⟨hd,st',J,I⟩
 all_goals exact⟨hd,st',J,I⟩
theorem W.cond{c x y b}(M:av st.f c=some (.d (.v (.bool b))))(N:b=true->W P C n x Q st)(O:b=false->W P C n y Q st):W P C n (.cond c x y) Q st:=by
 intro tmps w ⟨G,hs⟩;have J:Act.eval ⟨tmps,C.ds⟩ c=.bool b:=by rw[Act.jN tmps C.ds []];have I:=hs.av M;generalize Act.eval ⟨tmps,[]⟩ c=v at I⊢;cases I with|d I=>cases I;rfl
 cases b;·exact wp_cond_false J (O rfl tmps w ⟨G,hs⟩)
 ·exact wp_cond_true J (N Z tmps w ⟨G,hs⟩)
theorem W.gr{c x y}(I:av st.f c=some (.d (.v (.bool true))))(h:W P C n x Q st):W P C n (.cond c x y) Q st:=W.cond I (fun _=>h) (fun e=>nomatch e)
theorem W.HC{c x y}(I:av st.f c=some (.d (.v (.bool false))))(h:W P C n y Q st):W P C n (.cond c x y) Q st:=W.cond I (fun e=>nomatch e) (fun _=>h)
def QL(I:Nat->St->Prop)(m:Nat)(Q:Exit->St->Prop):Exit->St->Prop
 |.normal,st=>∃k,k<m∧I k st
 |e,st=>Q e st
theorem W.loop{c}(I)(hr:∀m st,I m st->W P C n c (QL I m Q) st)(h0:I m st):W P C n (.loop c) Q st:=by
 intro tmps w hs b k cs
 have key:∀m(tmps:Array Value)(w:World)(st:St),I m st->fv C n st tmps w->
  ∃e a' w',lift C n Q e a' w'∧Arrives P (lone (b.at ⟨tmps,C.ds⟩ (.code c::.inLoop c::k)) cs w) b k cs e a' w':=by
  intro m
  induction m using Nat.strongRecOn with
  |_ m ih=>
    intro tmps w st hI hs;obtain⟨e,⟨t1,d1⟩,U,⟨hd,M,N,O⟩,J⟩:=hr m st hI tmps w hs b (.inLoop c::k) cs;simp only at hd;subst hd
    cases e with
    |normal=>obtain⟨m',ad,ai⟩:=O;obtain⟨e2,a2,w2,aj,X⟩:=ih m' ad t1 U M ai N;exact⟨e2,a2,w2,aj,.of_steps (Steps.trans J (.one step_inLoop)) X⟩
    |exit id=>exact⟨_,⟨t1,C.ds⟩,U,⟨rfl,M,N,O⟩,.pass (x:=.inLoop c) rfl (fun _ _=>.inl (by simp)) J⟩
    |goto l=>exact⟨_,⟨t1,C.ds⟩,U,⟨rfl,M,N,O⟩,.pass (x:=.inLoop c) rfl (fun _ _=>.inl (by simp)) J⟩
    |ret=>exact⟨_,⟨t1,C.ds⟩,U,⟨rfl,M,N,O⟩,.pass (x:=.inLoop c) rfl (fun _ _=>.inl (by simp)) J⟩
    |panic ch=>exact⟨_,⟨t1,C.ds⟩,U,⟨rfl,M,N,O⟩,.pass (x:=.inLoop c) rfl (fun _ _=>.inl (by simp)) J⟩
    |outgrown=>exact⟨_,⟨t1,C.ds⟩,U,⟨rfl,M,N,O⟩,.pass (x:=.inLoop c) rfl (fun _ _=>.inl (by simp)) J⟩
 obtain⟨e,a',w',O,J⟩:=key m tmps w st h0 hs;exact⟨e,a',w',O,.of_steps (.one step_loop) J⟩
structure St.le(st st':St):Prop where
 f:∀t a,look st'.f t=some a->look st.f t=some a
 bx:∀g c,bh st'.bx g=some c->bh st.bx g=some c
 lv:∀g∈st'.lv,g∈st.lv
 gen:st'.gen=st.gen
theorem bq.weaken(hs:bq C n st G tmps w)(h:st.le st'):bq C n st' G tmps w:=by
 obtain⟨M,hb,hl,I⟩:=h;refine{size:=hs.size,inj:=hs.inj,xold:=hs.xold,kold:=hs.kold,lent:=hs.lent,fr:=hs.fr,row:=hs.row,mrow:=hs.mrow,sub:=hs.sub,gcell:=hs.gcell,live:=fun g I=>hs.live g (hl g I),frame:=?_,box:=?_,gbox:=?_,gown:=?_};·intro t a N;rw[I];exact hs.frame t a (M t a N)
 ·intro g c O;rw[I];exact hs.box g c (hb g c O)
 ·intro g b J;rw[I];exact hs.gbox g b J
 ·intro g r U;rw[I];exact hs.gown g r U
theorem W.weaken{c}(h:st.le st')(hw:W P C n c Q st'):W P C n c Q st:=fun tmps w⟨G,hs⟩=>hw tmps w ⟨G,hs.weaken h⟩
theorem WO.weaken{l}(h:st.le st')(hw:WO P C n ops Q l st'):WO P C n ops Q l st:=fun tmps w⟨G,hs⟩=>hw tmps w ⟨G,hs.weaken h⟩
end
def conv(bx:List (Nat×List A)):Nat->A->A
 |0,_=>.any
 |_+1,.d x=>.d x
 |_+1,.ag l=>.ag l
 |_+1,.own _ es=>.d (.sl es)
 |k+1,.agg l=>my (l.map (conv bx k))
 |_+1,.tup _=>.any
 |_+1,.rowd l=>.rowd l
 |k+1,.row l=>.row (l.map (conv bx k))
 |k+1,.ptr g off=>match bh bx g with
   |some cells=>.row ((cells.drop off).map (conv bx k))
   |none=>.any
 |_+1,.xs _ _=>.any
 |_+1,.xp _ _ _ _=>.any
 |_+1,.mp _ _=>.any
 |_+1,.mq _ _=>.any
 |_+1,.mo _ _ _ _=>.any
 |k+1,.clo f l=>.clo f (l.map (conv bx k))
 |k+1,.bnd f l=>.bnd f (l.map (conv bx k))
 |_+1,.ni=>.any
 |_+1,.fl es=>.fl es
 |_+1,.bf _ _ _=>.any
 |_+1,.np _ _ _=>.any
 |_+1,.sb _ _ _=>.any
 |_+1,.lk _ _ _ _=>.any
 |_+1,.fx _ _ _=>.any
 |_+1,.ol _ _ _ _=>.any
 |_+1,.ow _ _ _=>.any
 |_+1,.gi _ _=>.any
 |_+1,.any=>.any
mutual
def shift(m:Nat):A->A
 |.own g es=>.own (g+m) es
 |.agg l=>.agg (n9 m l)
 |.tup l=>.tup (n9 m l)
 |.clo f l=>.clo f (n9 m l)
 |.bnd f l=>.bnd f (n9 m l)
 |.ptr _ _=>.any
 |.xs _ _=>.any
 |.xp _ _ _ _=>.any
 |.mp _ _=>.any
 |.mq _ _=>.any
 |.mo _ _ _ _=>.any
 |.row _=>.any
 |.d x=>.d x
 |.ag l=>.ag l
 |.rowd l=>.rowd l
 |.ni=>.ni
 |.fl es=>.fl es
 |.bf _ _ _=>.any
 |.np _ _ _=>.any
 |.sb _ _ _=>.any
 |.lk _ _ _ _=>.any
 |.fx _ _ _=>.any
 |.ol _ _ _ _=>.any
 |.ow _ _ _=>.any
 |.gi _ _=>.any
 |.any=>.any
def n9(m:Nat):List A->List A
 |[]=>[]
 |a::l=>shift m a::n9 m l
end
mutual
def norm(order:List Nat):A->A
 |.own g es=>if g∈order then .own (order.idxOf g) es else .d (.sl es)
 |.agg l=>.agg (kT order l)
 |.tup l=>.tup (kT order l)
 |.clo f l=>.clo f (kT order l)
 |.bnd f l=>.bnd f (kT order l)
 |.ptr _ _=>.any
 |.xs _ _=>.any
 |.xp _ _ _ _=>.any
 |.mp _ _=>.any
 |.mq _ _=>.any
 |.mo _ _ _ _=>.any
 |.row _=>.any
 |.d x=>.d x
 |.ag l=>.ag l
 |.rowd l=>.rowd l
 |.ni=>.ni
 |.fl es=>.fl es
 |.bf _ _ _=>.any
 |.np _ _ _=>.any
 |.sb _ _ _=>.any
 |.lk _ _ _ _=>.any
 |.fx _ _ _=>.any
 |.ol _ _ _ _=>.any
 |.ow _ _ _=>.any
 |.gi _ _=>.any
 |.any=>.any
def kT(order:List Nat):List A->List A
 |[]=>[]
 |a::l=>norm order a::kT order l
end
mutual
def eM:A->Bool
 |.own _ _=>false
 |.agg l=>nZ l
 |.tup l=>nZ l
 |.clo _ l=>nZ l
 |.bnd _ l=>nZ l
 |.ptr _ _=>false
 |.xs _ _=>false
 |.xp _ _ _ _=>false
 |.mp _ _=>false
 |.mq _ _=>false
 |.mo _ _ _ _=>false
 |.row _=>false
 |.d _=>true
 |.ag _=>true
 |.rowd _=>true
 |.ni=>true
 |.fl _=>true
 |.bf _ _ _=>false
 |.np _ _ _=>false
 |.sb _ _ _=>false
 |.lk _ _ _ _=>false
 |.fx _ _ _=>false
 |.ol _ _ _ _=>false
 |.ow _ _ _=>false
 |.gi _ _=>false
 |.any=>true
def nZ:List A->Bool
 |[]=>true
 |a::l=>eM a&&nZ l
end
theorem lL(m):∀l:List A,n9 m l=l.map (shift m)
 |[]=>rfl
 |a::l=>by simp[n9,lL m l]
theorem mW(o):∀l:List A,kT o l=l.map (norm o)
 |[]=>rfl
 |a::l=>by simp[kT,mW o l]
theorem lD:∀{l:List A},nZ l=true->∀a∈l,eM a=true
 |[],_,a,I=>by cases I
 |b::l,h,a,I=>by
   simp only[nZ,μ]at h
   cases I with
   |head=>exact h.1
   |tail _ I=>exact lD h.2 a I
theorem aP{E2:En}(I:∀b o u,cellAt E.w b o=some u->¬E.pv b o->cellAt E2.w b o=some u∧¬E2.pv b o)(ho:∀g r,g<E.gen->E2.own (g+m)=some r->E.own g=some r)(hg:E.gen+m<=E2.gen){v}(h:bK E v a):bK E2 v (shift m a):=by
 induction h with
 |any x=>exact .any x
 |ni t x=>exact .ni t x
 |fl x es hd U=>exact .fl x es (hd.mono I) U
 |d hd=>exact .d (hd.mono I)
 |ag vs l hs hd=>exact .ag vs l hs (fun i u x h1 h2=>(hd i u x h1 h2).mono I)
 |own x g es hd N hr=>exact .own x _ es (hd.mono I) (by omega) (fun r X=>hr r (ho g r N X))
 |agg vs l hs hone _ O=>simp only[Ab.shift,lL];refine .agg vs _ (by simp[hs]) hone (fun i u x hu J=>?_);grind
 |tup vs l hs _ O=>simp only[Ab.shift,lL];refine .tup vs _ (by simp[hs]) (fun i u x hu J=>?_);grind
 |rowd b off l u M hd=>exact .rowd b off l u (fun j hj=>I _ _ _ (M j hj).1 (M j hj).2) (fun j x J=>(hd j x J).mono I)
 |row b off l u M _ _=>exact .any _
 |ptr x g off b0 N ad hp=>exact .any _
 |bf=>exact .any _
 |np=>exact .any _
 |sb=>exact .any _
 |lk=>exact .any _
 |fx=>exact .any _
 |ol=>exact .any _
 |ow=>exact .any _
 |gi=>exact .any _
 |xs=>exact .any _
 |xp=>exact .any _
 |mp=>exact .any _
 |mq=>exact .any _
 |mo=>exact .any _
 |clo f vs l hs _ O=>simp only[Ab.shift,lL];refine .clo f vs _ (by simp[hs]) (fun i u x hu J=>?_);grind
 |bnd f vs l hs _ O=>simp only[Ab.shift,lL];refine .bnd f vs _ (by simp[hs]) (fun i u x hu J=>?_);grind
theorem aQ{E2:En}(N:∀b o u,cellAt E.w b o=some u->¬E.pv b o->cellAt E2.w b o=some u∧¬E2.pv b o){v}(h:bK E v a)(I:eM a=true):bK E2 v a:=by
 induction h with
 |any x=>exact .any x
 |ni t x=>exact .ni t x
 |fl x es hd U=>exact .fl x es (hd.mono N) U
 |d hd=>exact .d (hd.mono N)
 |ag vs l hs hd=>exact .ag vs l hs (fun i u x h1 h2=>(hd i u x h1 h2).mono N)
 |own x g es hd X hr=>simp[eM]at I
 |agg vs l hs hone _ M=>exact .agg vs l hs hone (fun i u x hu J=>M i u x hu J (lD (by simpa[eM]using I) x (ζ J)))
 |tup vs l hs _ M=>exact .tup vs l hs (fun i u x hu J=>M i u x hu J (lD (by simpa[eM]using I) x (ζ J)))
 |rowd b off l u O hd=>exact .rowd b off l u (fun j hj=>N _ _ _ (O j hj).1 (O j hj).2) (fun j x J=>(hd j x J).mono N)
 |row b off l u O _ _=>simp[eM]at I
 |ptr x g off b0 X ad hp=>simp[eM]at I
 |xs=>simp[eM]at I
 |bf=>simp[eM]at I
 |np=>simp[eM]at I
 |sb=>simp[eM]at I
 |lk=>simp[eM]at I
 |fx=>simp[eM]at I
 |ol=>simp[eM]at I
 |ow=>simp[eM]at I
 |gi=>simp[eM]at I
 |xp=>simp[eM]at I
 |mp=>simp[eM]at I
 |mq=>simp[eM]at I
 |mo=>simp[eM]at I
 |clo f vs l hs _ M=>exact .clo f vs l hs (fun i u x hu J=>M i u x hu J (lD (by simpa[eM]using I) x (ζ J)))
 |bnd f vs l hs _ M=>exact .bnd f vs l hs (fun i u x hu J=>M i u x hu J (lD (by simpa[eM]using I) x (ζ J)))
theorem j6(h:g∈order):order.idxOf g<order.length:=List.idxOf_lt_length_iff.2 h
theorem aA{E2:En}(I:∀b o u,cellAt E.w b o=some u->¬E.pv b o->cellAt E2.w b o=some u∧¬E2.pv b o)(ho:∀g r,g∈order->E2.own (order.idxOf g)=some r->E.own g=some r)(hg:order.length<=E2.gen){v}(h:bK E v a):bK E2 v (norm order a):=by
 induction h with
 |any x=>exact .any x
 |ni t x=>exact .ni t x
 |fl x es hd O=>exact .fl x es (hd.mono I) O
 |d hd=>exact .d (hd.mono I)
 |ag vs l hs hd=>exact .ag vs l hs (fun i u x h1 h2=>(hd i u x h1 h2).mono I)
 |own x g es hd U hr=>
   simp only[Ab.norm];split
   ·rename_i hm
    exact .own x _ es (hd.mono I) (ρ (j6 hm) hg) (fun r X=>hr r (ho g r hm X))
   ·exact .d (hd.mono I)
 |agg vs l hs hone _ N=>simp only[Ab.norm,mW];refine .agg vs _ (by simp[hs]) hone (fun i u x hu J=>?_);grind
 |tup vs l hs _ N=>simp only[Ab.norm,mW];refine .tup vs _ (by simp[hs]) (fun i u x hu J=>?_);grind
 |rowd b off l u M hd=>exact .rowd b off l u (fun j hj=>I _ _ _ (M j hj).1 (M j hj).2) (fun j x J=>(hd j x J).mono I)
 |row b off l u M _ _=>exact .any _
 |ptr x g off b0 U ad hp=>exact .any _
 |bf=>exact .any _
 |np=>exact .any _
 |sb=>exact .any _
 |lk=>exact .any _
 |fx=>exact .any _
 |ol=>exact .any _
 |ow=>exact .any _
 |gi=>exact .any _
 |xs=>exact .any _
 |xp=>exact .any _
 |mp=>exact .any _
 |mq=>exact .any _
 |mo=>exact .any _
 |clo f vs l hs _ N=>simp only[Ab.norm,mW];refine .clo f vs _ (by simp[hs]) (fun i u x hu J=>?_);grind
 |bnd f vs l hs _ N=>simp only[Ab.norm,mW];refine .bnd f vs _ (by simp[hs]) (fun i u x hu J=>?_);grind
def G0:Gh:=⟨fun _=>none,fun _=>none⟩
theorem sF(C:Ctx)(b o):cf C G0 b o↔C.x b o:=by simp[cf,G0]
def Ctx.pure(C:Ctx):Prop:=(∀b,¬C.fp b)∧(∀b o,¬C.keep b o)∧C.bx=[]∧C.ds=[]
class NB(C:Ctx)(nb:outParam Nat):Prop where
 h:C.bx.length=nb
class dw(P:Program)where
 met:World->Prop
class GC(P:Program)[dw P](C:Ctx):Prop where
 h:∃W:World,(W.ShapedOpen P∧dw.met P W)∧W.heap.size<=C.w0.heap.size∧∀b,b<W.heap.size->C.w0.heap[b]?=W.heap[b]?∧¬C.fp b
def jW(C:Ctx)(G:Gh)(w:World):Ctx:={w0:=w,fp:=fun _=>False,x:=cf C G}
theorem aX{n}(h:bq C n st G tmps w):
 ∀(k:Nat)(v:Value)(a:A),bK (bu C G st.gen w) v a->bK (bu (jW C G w) G0 0 w) v (conv st.bx k a):=by
 have J:∀b o u,cellAt w b o=some u->¬cf C G b o->cellAt w b o=some u∧¬cf (jW C G w) G0 b o:=fun b o u h1 h2=>⟨h1,fun hp=>h2 ((sF _ b o).1 hp)⟩;intro k
 induction k with
 |zero=>intro v a _;exact .any v
 |succ k ih=>
   intro v a hr
   have M:∀(l:List A)(vs:Array Value),(∀(i:Nat)(u:Value)(x:A),vs[i]?=some u->l[i]?=some x->bK (bu C G st.gen w) u x)->
    ∀(i:Nat)(u:Value)(x:A),vs[i]?=some u->(l.map (Ab.conv st.bx k))[i]?=some x->bK (bu (jW C G w) G0 0 w) u x:=by
    grind
   cases hr with
   |any=>exact .any _
   |ni=>exact .any _
   |fl _ es hd O=>exact .fl _ es (hd.mono J) O
   |d hd=>exact .d (hd.mono J)
   |ag vs l hs hd=>exact .ag vs l hs (fun i u x h1 h2=>(hd i u x h1 h2).mono J)
   |own _ g es hd _ _=>exact .d (hd.mono J)
   |agg vs l hs hone hd=>exact mP (by simp[hs]) hone (M l vs hd)
   |tup vs l hs hd=>exact .any _
   |rowd b off l u I hd=>exact .rowd b off l u (fun j hj=>J _ _ _ (I j hj).1 (I j hj).2) (fun j x N=>(hd j x N).mono J)
   |row b off l u I hd=>
     refine .row b off _ u (fun j hj=>?_) (fun j x N=>?_)
     ·have:=I j (by simpa using hj)
      exact⟨this.1,⟨ea this.1,fun h=>h⟩,this.2.2⟩
     ·grind
   |xs=>exact .any _
   |bf=>exact .any _
   |np=>exact .any _
   |sb=>exact .any _
   |lk=>exact .any _
   |fx=>exact .any _
   |ol=>exact .any _
   |ow=>exact .any _
   |gi=>exact .any _
   |xp=>exact .any _
   |mp=>exact .any _
   |mq=>exact .any _
   |mo=>exact .any _
   |ptr _ g off b0 hg U X=>
     have hp:=oO U X;simp only[Ab.conv];split
     ·rename_i cells hb
      obtain⟨b,cs,T',h1,h2,h3,h4,h5⟩:=h.box g cells hb;rw[hp b h1];refine .row b off _ (fun j=>cs[off+j]?.getD default) (fun j hj=>?_) (fun j x N=>?_)
      ·have ad:off+j<cs.size:=by simp at hj;omega
       have e:cs[off+j]?=some cs[off+j]:=by simp[ad]
       exact⟨by show cellAt w b (off+j)=_;rw[cP h2,e];rfl,⟨(θ.1 h2).1,fun h=>h⟩,by rw[e];exact h4 _ _ e⟩
      ·grind
     ·exact .any _
   |clo f vs l hs hd=>exact .clo f vs _ (by simp[hs]) (M l vs hd)
   |bnd f vs l hs hd=>exact .bnd f vs _ (by simp[hs]) (M l vs hd)
def kB(P:Program)(f:FuncId):Prop:=∃fn,P.funcs[f]?=some fn∧(fn.name== "runtime.NumGoroutine")=false∧fn.body.isNone=false
structure bm(P:Program)[dw P](f:FuncId)(args:List A)(r:A)(k:Nat):Prop where
 ok:kB P f
 calls:∀(C:Ctx)(vals:Array Value)(w:World),GC P C->C.w0=w->C.pure->(∀b o,C.x b o->b<w.heap.size)->vals.size=args.length->
  (∀(i:Nat)(u:Value)(a:A),vals[i]?=some u->args[i]?=some a->bK (bu C G0 0 w) u a)->
  Calls P f vals w fun e w'=>∃v G',e=.returned v∧bq C 0 ⟨[],[],List.range k,k⟩ G' #[] w'∧bK (bu C G' k w') v r
section
variable{n:Nat}{rest:List Oper}
theorem GC.at_[dw P][hC:GC P C](I:Fr C w):∃W:World,(W.ShapedOpen P∧dw.met P W)∧W.heap.size<=w.heap.size∧∀b,b<W.heap.size->w.heap[b]?=W.heap[b]?:=by obtain⟨W,h1,h2,h3⟩:=hC.h;exact⟨W,h1,Y' h2 I.size,fun b hb=>(I.block b (ρ hb h2) (h3 b hb).2).trans (h3 b hb).1⟩
theorem GC.Jo[dw P][GC P C](I:Fr C w):GC P (jW C G w):=by obtain⟨W,h1,h2,h3⟩:=GC.at_ (P:=P) I;exact⟨W,h1,h2,fun b hb=>⟨h3 b hb,fun h=>h⟩⟩
theorem vm[dw P][GC P C](hs:bq C n st G tmps w){U}(ho:o.op=.call ⟨.value x,xs,U⟩){I}(hx:av st.f x=some (.clo fid caps))(ad:kJ st.f xs.toList=some I){r}(hf:bm P fid ((I++caps).map (conv st.bx 5)) r k):
 et P o ⟨tmps,[]⟩ w fun v w'=>∃J,bq (jW C G w) 0 ⟨[],[],List.range k,k⟩ J #[] w'∧bK (bu (jW C G w) J k w') v r:=by
 obtain⟨fn,ai,M,N⟩:=hf.ok;have hr:=hs.av hx;generalize hv:Act.eval ⟨tmps,[]⟩ x=v at hr
 cases hr with
 |clo _ vs _ aj hd=>
 obtain⟨h1,h2⟩:=jM hs xs.toList I ad;have X:(execOp (Act.eval ⟨tmps,[]⟩) o).run P w=.ok (.enter fid (xs.map (Act.eval ⟨tmps,[]⟩)++vs)) w:=by unfold execOp;rw[ho];show Sem.run P (do let d←resolve (Act.eval ⟨tmps,[]⟩) ⟨.value x,xs,U⟩ o.type;invoke d.target d.args) w=_;simp only[resolve,hv,Deferred.ofValue,Sem.run_bind,Sem.run_pure,Result.andThen_ok,invoke,callFunc,run_program,ai,M,N,L',if_false,Array.empty_append]
 unfold et;have O:(execOp (Act.eval {tmps:=tmps,defers:=[]}) o).run P w=.ok (.enter fid (xs.map (Act.eval ⟨tmps,[]⟩)++vs)) w:=X;rw[O];refine(hf.calls (jW C G w) _ w (GC.Jo hs.fr) rfl ⟨fun _ h=>h,fun _ _ h=>h,rfl,rfl⟩ (fun b o h=>vG hs h) (by simp at h1;simp[aj,h1]) (fun i u a hu ha=>?_)).mono fun e w'⟨v,J,he,h3,h4⟩=>⟨v,he,J,h3,h4⟩;grind[Option.map_eq_some_iff,aX]
theorem Fr.toBelow(h:Fr (jW C G w) w'):Below w.heap.size w w':=⟨h.os,h.tape,h.output,h.size,fun b hb=>h.block b hb (fun h=>h)⟩
theorem Pu.call[dw P][GC P C]{J}(O:o.op=.call ⟨.value x,xs,J⟩){I}(U:av st.f x=some (.clo fid caps))(M:kJ st.f xs.toList=some I){r}(X:bm P fid ((I++caps).map (conv st.bx 5)) r 0)(hr:eM r=true):Pu P C n st o r:=by
 intro G tmps w hs;refine(vm hs O U M X).mono fun v w'⟨N,h1,h2⟩=>⟨h1.fr.toBelow,aQ (E:=bu (jW C G w) N 0 w') (E2:=bu C G st.gen w') (fun b o u hu hn=>⟨hu,fun hp=>hn (Or.inl hp:cf (jW C G w) N b o)⟩) h2 hr⟩
theorem WO.call[dw P][GC P C](M:o.guard=none)(hd:fY n o.dst=true){a8}(ho:o.op=.call ⟨.value x,xs,a8⟩){ad}(hx:av st.f x=some (.clo fid caps))(b0:kJ st.f xs.toList=some ad){r}(hf:bm P fid ((ad++caps).map (conv st.bx 5)) r k)(h:WO P C n ops Q rest (St.put {st with lv:=(List.range k).map (·+st.gen)++st.lv,gen:=st.gen+k} o.dst (shift st.gen r))):WO P C n ops Q (o::rest) st:=by
 refine WO.step M fun tmps w⟨G,hs⟩=>(vm hs ho hx b0 hf).mono fun v w'⟨X,h1,h2⟩=>?_
 obtain⟨hle,b2⟩:=hs.grow h1.fr.toBelow (fun g=>if g<st.gen then G.own g else X.own (g-st.gen)) (st.gen+k) ((List.range k).map (·+st.gen)++st.lv) (Nat.le_add_right _ _)
  (fun g r M J=>by simpa[M]using J)
  (fun g r J=>by
   split at J;·omega
   ·have:=h1.gown _ _ J;simp only at this;omega)
  (fun g M=>by
   rcases D'.1 M with M|M
   ·simp only[R',List.mem_range]at M
    obtain⟨j,hj,rfl⟩:=M;obtain⟨r,J⟩:=h1.live j (by simpa using hj);exact⟨r,by rw[if_neg (by omega),Nat.add_sub_cancel];exact J⟩
   ·obtain⟨r,J⟩:=hs.live g M
    exact⟨r,by rw[if_pos (hs.gown g r J)];exact J⟩)
  (fun g b len cap sz N M J=>by
   simp only[if_neg (Nat.not_lt.2 M)]at J;obtain⟨h3,h4,h5,O⟩:=h1.row _ _ _ _ _ _ J;refine⟨h3.1.resolve_right (fun h=>h),fun g' a1 a6 b3 a7 I=>?_,O⟩;split at I
   ·obtain⟨_,_,_,cur,T',U,_⟩:=hs.row _ _ _ _ _ _ I
    have:=(θ.1 U).1;have:=h3.1.resolve_right (fun h=>h);simp only[jW]at this;omega
   ·have:=h5 _ _ _ _ _ I
    omega)
  (fun g b bs M J=>by
   simp only[if_neg (Nat.not_lt.2 M)]at J;obtain⟨h3,_,h5,O⟩:=h1.mrow _ _ _ J;refine⟨h3.1.resolve_right (fun h=>h),fun g' bs' I=>?_,O⟩;split at I
   ·obtain⟨_,_,_,me,clock,U⟩:=hs.mrow _ _ _ I
    have:=(θ.1 U).1;have:=h3.1.resolve_right (fun h=>h);simp only[jW]at this;omega
   ·have:=h5 _ _ I
    omega)
  (fun g b bs c lim M J hm=>by
   simp only[if_neg (Nat.not_lt.2 M)]at J;obtain⟨h3,_,h4,h5,O⟩:=h1.sub _ _ _ _ _ J hm;have ai:=h3.1.resolve_right (fun h=>h);simp only[jW]at ai;refine⟨ai,fun g' a1 a6 b3 a7 I=>?_,fun g' b' bs' b4 I aj=>?_,O⟩
   ·split at I
    ·obtain⟨_,_,_,cur,T',U,_⟩:=hs.row _ _ _ _ _ _ I
     have:=(θ.1 U).1;omega
    ·exact h4 _ _ _ _ _ I
   ·split at I
    ·have:=(hs.BE I).2 _ aj
     simp only at this;omega
    ·have:=h5 _ _ _ _ I aj
     omega)
 refine⟨_,⟨_,b2.put (dp hd) (aP (m:=st.gen) (E:=bu (jW C G w) X k w') (E2:=bu C ⟨G.box,fun g=>if g<st.gen then G.own g else X.own (g-st.gen)⟩ (st.gen+k) w') (fun b o u hu hn=>⟨hu,fun hp=>hn ?_⟩) (fun g r M J=>?_) (by simp[bu];omega) h2)⟩,h⟩
 ·rcases hp with hp|hp|⟨g,len,cap,sz,N,hp,hl⟩|⟨g,b',bs,lim,hp,hm,hl⟩
  ·exact Or.inl (Or.inl hp)
  ·exact Or.inl (Or.inr (Or.inl hp))
  ·simp only at hp
   split at hp;·exact Or.inl (Or.inr (Or.inr (.inl ⟨g,len,cap,sz,N,hp,hl⟩)))
   ·exact Or.inr (Or.inr (.inl ⟨_,len,cap,sz,N,hp,hl⟩))
  ·simp only at hp
   split at hp;·exact Or.inl (Or.inr (Or.inr (.inr ⟨g,b',bs,lim,hp,hm,hl⟩)))
   ·exact Or.inr (Or.inr (.inr ⟨_,b',bs,lim,hp,hm,hl⟩))
 ·have I:(if g+st.gen<st.gen then G.own (g+st.gen)else X.own (g+st.gen-st.gen))=some r:=J
  rw[if_neg (by omega),Nat.add_sub_cancel]at I;exact I
end
def cellsOf(bx:List (Nat×List A)):A->Option (List A)
 |.d x=>some [.d x]
 |.ag l=>some (l.map .d)
 |.own g es=>some [.own g es]
 |.agg l=>some l
 |.rowd l=>some [.rowd l]
 |.row l=>some [.row l]
 |.clo f l=>some [.clo f l]
 |.bnd f l=>some [.bnd f l]
 |.xs g es=>some [.xs g es]
 |.xp g i off l=>some [.xp g i off l]
 |.mp g es=>some [.mp g es]
 |.mq g es=>some [.mq g es]
 |.mo g es h I=>some [.mo g es h I]
 |.ni=>some [.ni]
 |.fl es=>some [.fl es]
 |.bf g T s=>some [.bf g T s]
 |.np g T u=>some [.np g T u]
 |.sb g n c=>some [.sb g n c]
 |.ol g E h es=>some [.ol g E h es]
 |.ptr g off=>match bh bx g with|some _=>some [.ptr g off]|none=>none
 |_=>none
def dT(E:En)(cs:Array Value)(l:List A):Prop:=
 cs.size=l.length∧(∀(i:Nat)(u:Value),cs[i]?=some u->u.oneCell'=true)∧∀(i:Nat)(u:Value)(a:A),cs[i]?=some u->l[i]?=some a->bK E u a
theorem dT.one{v:Value}(I:v.oneCell'=true)(J:bK E v a):dT E v.cells [a]:=by
 have e:v.cells=#[v]:=by cases v<;>simp_all[Value.cells,Value.oneCell']
 rw[e];refine⟨rfl,fun i u hu=>?_,fun i u x hu M=>?_⟩;·grind
 ·grind
section
variable{n:Nat}
theorem kI(h:bq C n st G tmps w){v:Value}{l}(I:cellsOf st.bx a=some l)(hr:bK (bu C G st.gen w) v a):dT (bu C G st.gen w) v.cells l:=by
 cases hr with
 |any=>simp[cellsOf]at I
 |ni t x=>simp only[cellsOf,Option.some.injEq]at I;subst I;exact dT.one rfl (.ni t x)
 |bf _ g T s M h1 J=>simp only[cellsOf,Option.some.injEq]at I;subst I;exact dT.one h1 (.bf _ g T s M h1 J)
 |np _ g T b M hb hT u J=>simp only[cellsOf,Option.some.injEq]at I;subst I;exact dT.one (by rw[J];rfl) (.np _ g T b M hb hT u J)
 |sb _ g n c b M hb hn J=>simp only[cellsOf,Option.some.injEq]at I;subst I;exact dT.one (by rw[J];rfl) (.sb _ g n c b M hb hn J)
 |lk=>simp[cellsOf]at I
 |ow=>simp[cellsOf]at I
 |gi=>simp[cellsOf]at I
 |fx=>simp[cellsOf]at I
 |ol _ u g' E' g es J O U M hu=>simp only[cellsOf,Option.some.injEq]at I;subst I;exact dT.one J.one (.ol _ u g' E' g es J O U M hu)
 |fl _ es hd X=>simp only[cellsOf,Option.some.injEq]at I;subst I;exact dT.one hd.one (.fl _ es hd X)
 |d hd=>simp only[cellsOf,Option.some.injEq]at I;subst I;exact dT.one hd.one (.d hd)
 |ag vs l' hs hd=>
   simp only[cellsOf,Option.some.injEq]at I;subst I;refine⟨by simp[Value.cells,hs],fun i u hu=>?_,fun i u x hu J=>?_⟩
   ·have hi:i<l'.length:=by rw[<-hs];exact(θ.1 hu).1
    exact(hd i u l'[i] hu (by simp[hi])).one
   ·simp only[τ,ν]at J
    obtain⟨y,hy,rfl⟩:=J;exact .d (hd i u y hu hy)
 |own _ g es hd M J=>simp only[cellsOf,Option.some.injEq]at I;subst I;exact dT.one hd.one (.own _ g es hd M J)
 |agg vs l' hs hone hd=>simp only[cellsOf,Option.some.injEq]at I;subst I;exact⟨hs,hone,hd⟩
 |tup=>simp[cellsOf]at I
 |rowd b off l' u N hd=>simp only[cellsOf,Option.some.injEq]at I;subst I;exact dT.one rfl (.rowd b off l' u N hd)
 |row b off l' u N hd=>simp only[cellsOf,Option.some.injEq]at I;subst I;exact dT.one rfl (.row b off l' u N hd)
 |ptr _ g off b0 M ad hp=>
   simp only[cellsOf]at I;split at I
   ·rename_i cells hb
    simp only[Option.some.injEq]at I;subst I;exact dT.one (by rw[hp];rfl) (.ptr _ g off b0 M ad hp)
   ·grind
 |xs _ g es M h1 J=>simp only[cellsOf,Option.some.injEq]at I;subst I;exact dT.one h1 (.xs _ g es M h1 J)
 |xp _ g i off l M h1 J=>simp only[cellsOf,Option.some.injEq]at I;subst I;exact dT.one h1 (.xp _ g i off l M h1 J)
 |mp _ g es M h1 J=>simp only[cellsOf,Option.some.injEq]at I;subst I;exact dT.one h1 (.mp _ g es M h1 J)
 |mq _ g es M h1 J=>simp only[cellsOf,Option.some.injEq]at I;subst I;exact dT.one h1 (.mq _ g es M h1 J)
 |mo _ g es hole ob M h1 J=>simp only[cellsOf,Option.some.injEq]at I;subst I;exact dT.one h1.1 (.mo _ g es hole ob M h1 J)
 |clo f vs l' hs hd=>simp only[cellsOf,Option.some.injEq]at I;subst I;exact dT.one rfl (.clo f vs l' hs hd)
 |bnd f vs l' hs hd=>simp only[cellsOf,Option.some.injEq]at I;subst I;exact dT.one rfl (.bnd f vs l' hs hd)
theorem bq.store(h:bq C n st G tmps w){cs cs'}(hb:bh st.bx g=some cells)(N:G.box g=some b)(hw:w.heap[b]?=some (.cells cs T (0,0)))(M:dT (bu C G st.gen w) cs' cells'):bq C n {st with bx:=(g,cells')::st.bx} G tmps (w.setRow b cs'):=by
 have ai:w.heap[b]?≠none:=by rw[hw];simp
 have hm:=(h.gbox g b N).2.2;have aj:Fr C (w.setRow b cs'):=⟨h.fr.os,h.fr.tape,h.fr.output,by rw[size_setRow];exact h.fr.size,fun I h1 h2=>by
  rw[setRow_other w b I cs' (fun e=>by subst e;exact hm.1.elim (fun hm=>by omega) h2)];exact h.fr.block I h1 h2,fun I o u hk hu=>by
  rw[cL (setRow_other w b I cs' (fun e=>by subst e;exact absurd (hm.2 o hk) (Nat.not_lt_zero _)))];exact h.fr.cells I o u hk hu,h.fr.ty.trans (.setRow w b cs')⟩
 have hle:(bu C G st.gen w).le (bu C G st.gen (w.setRow b cs')):=by
  refine l5 h.fr aj (fun I o u hu hn=>⟨?_,hn⟩) (fun _ _ h=>h) (fun _ _ _ h=>h) (χ _) (fun J I len cap sz X _ M=>?_) (fun J I bs _ M=>⟨?_,fun p hp=>?_⟩) (.setRow w b cs')
  ·have:I≠b:=fun e=>hn (.inr (.inl ⟨g,by rw[e];exact N⟩))
   rw[cL (setRow_other w b I cs' this)];grind
  ·have:I≠b:=fun e=>(h.row J I len cap sz X M).2.1 g (by rw[e];exact N)
   exact setRow_other w b I cs' this
  ·intro c hc
   subst hc;obtain⟨_,_,_,me,clock,h3⟩:=h.mrow J c bs M;exact setRow_other w b c cs' (fun e=>by rw[e,hw]at h3;cases h3)
  ·have:p.1≠b:=fun e=>(h.sub J I bs p.1 p.2 M hp).2.1 g (by rw[e];exact N)
   exact setRow_other w b p.1 cs' this
 refine{size:=h.size,frame:=h.fz hle,inj:=h.inj,xold:=h.xold,kold:=h.kold,lent:=h.lent,fr:=aj,live:=h.live,gown:=h.gown,box:=?_,gbox:=?_,gcell:=fun J I ai=>ny (.setRow w b cs') (h.gcell J I ai),row:=?_,mrow:=?_,sub:=?_}
 ·intro J c' O
  simp only[cZ]at O;split at O
  ·rename_i e
   subst e;simp only[Option.some.injEq]at O;subst O;exact⟨b,cs',T,N,setRow_heap w b cs cs' T (0,0) hw,M.1,M.2.1,fun i u a hu ha=>(M.2.2 i u a hu ha).mono hle⟩
  ·rename_i e
   obtain⟨I,a1,T',h1,h2,h3,h4,h5⟩:=h.box J c' O;have U:I≠b:=fun e'=>e (h.inj g J b N (by rw[<-e'];exact h1));exact⟨I,a1,T',h1,by rw[setRow_other w b I cs' U];exact h2,h3,h4,fun i u a hu ha=>(h5 i u a hu ha).mono hle⟩
 ·intro J I ad
  obtain⟨h1,h2,h3⟩:=h.gbox J I ad;simp_all
 ·intro J I len cap sz X ad
  obtain⟨h1,h2,h3,cur,T',h4,h5⟩:=h.row J I len cap sz X ad;have U:I≠b:=fun e=>h2 g (by rw[e];exact N);exact⟨h1,h2,h3,cur,T',by rw[setRow_other w b I cs' U];exact h4,h5⟩
 ·intro J I bs M
  obtain⟨h1,a6,h2,me,clock,h3⟩:=h.mrow J I bs M;exact⟨h1,a6,h2,me,clock,by rw[setRow_other w b I cs' (fun e=>by rw[e,hw]at h3;cases h3)];exact h3⟩
 ·intro J I bs c lim M hm
  obtain⟨h1,h2,h3,h4,cur,T',h5,h6⟩:=h.sub J I bs c lim M hm;have U:c≠b:=fun e=>h2 g (by rw[e];exact N);exact⟨h1,h2,h3,h4,cur,T',by rw[setRow_other w b c cs' U];exact h5,h6⟩
end
section
variable(T:cG P){n:Nat}{rest:List Oper}
theorem dE{v}(h:(execOp act.eval o).run P w=.ok (.value v) w')(I:R v w'):et P o act w R:=by grind[et]
theorem kp(h:(execOp act.eval o).run P w=.ok .skip w')(I:R undef w'):et P o act w R:=by grind[et]
theorem WO.box(J:o.guard=none)(hd:fY n o.dst=true){e}(M:o.op=.box e x)(N:av st.f x=some a)(O:cellsOf st.bx a=some cells)(h:WO P C n ops Q rest (St.put {st with bx:=(st.gen,cells)::st.bx,gen:=st.gen+1} o.dst (.ptr st.gen 0))):WO P C n ops Q (o::rest) st:=by
 refine WO.step J fun tmps w⟨G,hs⟩=>?_;obtain⟨h1,h2,h3⟩:=kI hs O (hs.av N);obtain⟨U,hle,I,X⟩:=hs.sM (Act.eval ⟨tmps,[]⟩ x).cells e cells h1 h2 h3;refine dE (v:=.pointer (some ⟨w.heap.size,0,none⟩)) (w':=w.alloc (.cells (Act.eval ⟨tmps,[]⟩ x).cells e)) ?_ ⟨_,⟨U,I.put (dp hd) X⟩,h⟩;unfold execOp;rw[M];show Sem.run P _ w=_;simp only[Instr.box,newVar,newRow,Sem.run_bind,run_newObj,Result.andThen_ok,Sem.run_pure];rfl
theorem WO.alloc(U:o.guard=none)(hd:fY n o.dst=true){e}(X:o.op=.alloc e){d:cV}(he:bh T.l e=some d)(h:WO P C n ops Q rest (St.put {st with bx:=(st.gen,d.z.map fun v=>.d (.v v))::st.bx,gen:=st.gen+1} o.dst (.ptr st.gen 0))):WO P C n ops Q (o::rest) st:=by
 refine WO.step U fun tmps w⟨G,hs⟩=>?_;obtain⟨i,z,hi,_,_,hz,M,ad,ai,_⟩:=T.info he;have I:∀(i:Nat)(u:Value),z.cells[i]?=some u->dy u=true:=fun i u hu=>by grind
 obtain⟨G',hle,N,hr⟩:=hs.sM z.cells e (d.z.map fun v=>.d (.v v)) (by rw[η,←M];simp) (fun i u hu=>nR (I i u hu)) (fun i u a hu O=>by
  simp only[τ,ν]at O;obtain⟨y,J,rfl⟩:=O;rw[<-M]at J;have:y=u:=by simp at J;rw[hu]at J;exact(J' J).symm
  subst this;exact .d (.v _ (I i y hu)))
 refine dE (v:=.pointer (some ⟨w.heap.size,0,none⟩)) (w':=w.alloc (.cells z.cells e)) ?_ ⟨_,⟨G',N.put (dp hd) hr⟩,h⟩;unfold execOp;rw[X];show Sem.run P _ w=_;simp only[Instr.alloc,zeroValue,typeInfo,hi,hz,newVar,newRow,Sem.run_bind,run_program,run_newObj,Result.andThen_ok,Sem.run_pure];rfl
def setAt(l:List A)(off:Nat)(cs:List A):List A:=l.take off++cs++l.drop (off+cs.length)
theorem ay{cur cs:Array Value}{l I:List A}(h:dT E cur l)(U:dT E cs I)(hle:off+I.length<=l.length):
 dT E (cur.toList.take off++cs.toList++cur.toList.drop (off+cs.toList.length)).toArray (setAt l off I):=by
 have O:cs.toList.length=I.length:=by simpa using U.1
 have J:cur.toList.length=l.length:=by simpa using h.1
 have key:∀(i:Nat)(u:Value),(cur.toList.take off++cs.toList++cur.toList.drop (off+cs.toList.length))[i]?=some u->
  (i<off∧cur[i]?=some u∧(Ab.setAt l off I)[i]?=l[i]?)∨(off<=i∧i<off+I.length∧cs[i-off]?=some u∧(Ab.setAt l off I)[i]?=I[i-off]?)∨(off+I.length<=i∧cur[i]?=some u∧(Ab.setAt l off I)[i]?=l[i]?):=by
  intro i u hu;unfold Ab.setAt;rcases Nat.lt_or_ge i off with hi|hi
  ·left
   rw[M',Ω (by simp at J⊢;omega),List.getElem?_take,if_pos hi]at hu;refine⟨hi,by simpa using hu,?_⟩;rw[M',Ω (by simp;omega),List.getElem?_take,if_pos hi]
  ·rcases Nat.lt_or_ge i (off+I.length)with N|N
   ·right;left
    rw[M',Θ (by simp at J⊢;omega),Ω (by simp at O J⊢;omega)]at hu;refine⟨hi,N,?_,?_⟩
    ·have M:(cur.toList.take off).length=off:=by simp;simp at J;omega
     rw[M]at hu;simpa using hu
    ·rw[M',Θ (by simp;omega),Ω (by simp;omega)]
     have M:(l.take off).length=off:=by simp;omega
     rw[M]
   ·right;right
    rw[M',Θ (by simp at J⊢;omega),Θ (by simp at O J⊢;omega),List.getElem?_drop]at hu;refine⟨N,?_,?_⟩
    ·have M:off+cs.toList.length+(i-(cur.toList.take off).length-cs.toList.length)=i:=by simp at O J⊢;omega
     rw[M]at hu;simpa using hu
    ·rw[M',Θ (by simp;omega),Θ (by simp;omega),List.getElem?_drop]
     have M:off+I.length+(i-(l.take off).length-I.length)=i:=by simp;omega
     rw[M]
 refine⟨by unfold Ab.setAt;simp at O J⊢;omega,fun i u hu=>?_,fun i u a hu X=>?_⟩
 ·simp only[List.getElem?_toArray]at hu
  rcases key i u hu with⟨_,h1,_⟩|⟨_,_,h1,_⟩|⟨_,h1,_⟩
  ·exact h.2.1 _ _ h1
  ·exact U.2.1 _ _ h1
  ·exact h.2.1 _ _ h1
 ·simp only[List.getElem?_toArray]at hu
  rcases key i u hu with⟨_,h1,h2⟩|⟨_,_,h1,h2⟩|⟨_,h1,h2⟩
  ·exact h.2.2 _ _ _ h1 (by rw[<-h2];exact X)
  ·exact U.2.2 _ _ _ h1 (by rw[<-h2];exact X)
  ·exact h.2.2 _ _ _ h1 (by rw[<-h2];exact X)
theorem WO.store(hg:o.guard=none)(hd:fY n o.dst=true){t}(ho:o.op=.store t x y)(hx:av st.f x=some (.ptr g off))(hb:bh st.bx g=some cells)(ha:av st.f y=some a){cs:List A}(hc:cellsOf st.bx a=some cs)(ai:eW T t=cs.length)(hz:cs.length≠0)(hle:(Nat.ble (off+cs.length) cells.length)=true)(h:WO P C n ops Q rest (St.put {st with bx:=(g,setAt cells off cs)::st.bx} o.dst .any)):WO P C n ops Q (o::rest) st:=by
 have hle:=κ hle;refine WO.step hg fun tmps w⟨G,hs⟩=>?_;obtain⟨b,cur,T',h1,h2,h3,h4,h5⟩:=hs.box g cells hb;have J:Act.eval ⟨tmps,[]⟩ x=.pointer (some ⟨b,off,none⟩):=by
  have M:=hs.av hx;generalize Act.eval ⟨tmps,[]⟩ x=v at M⊢
  cases M with
  |ptr _ _ _ b0 _ N O=>exact oO N O b h1
 have I:=kI hs hc (hs.av ha);have aj:=run_storeCells_at P b off T' (Act.eval ⟨tmps,[]⟩ y).cells.toList 0 cur w h2 (by have:=I.1;simp at this⊢;omega) (fun v J=>by obtain⟨i,hi⟩:=ψ.1 J;exact I.2.1 i v (by simpa using hi));obtain⟨d,U,X⟩:∃d,bh T.l t=some d∧d.n=cs.length:=by grind[eW]
 have ad:=hs.store hb h1 h2 (ay (off:=off) ⟨h3,h4,h5⟩ I hle);refine kp ?_ ⟨_,⟨G,ad.put (dp hd) (.any _)⟩,h⟩;unfold execOp;rw[ho];show Sem.run P _ w=_;simp only[J,Instr.storeAt,Instr.sureAddr,storeVar,Sem.run_bind,Sem.run_pure,Result.andThen_ok,T.sizeOf U];rw[if_neg (by rw[X];simp;exact I.1)];simp_all
end
theorem bN.flat{len}(h:bN w pv (.slice (some ⟨b,off,none⟩) len cap) (.sl es))(hl:∀(e:List D),e∈es->e.length=sz):
 es.length=len∧len<=cap∧cap<=maxLen∧∃l:List Value,l.length=len*sz∧(∀(t:Nat)(u:Value),l[t]?=some u->cellAt w b (off+t)=some u∧¬pv b (off+t)∧u.oneCell'=true)∧
  ∀(i j:Nat)(e:List D)(d:D),es[i]?=some e->e[j]?=some d->∃u,l[i*sz+j]?=some u∧bN w pv u d:=by
 cases h with
 |emp _ _ hm=>exact⟨rfl,ς _,hm,[],by simp,by simp,by simp⟩
 |sl _ _ _ _ I _ u hlen hc hm hs hu hr=>
 refine⟨hlen,hc,hm,?_⟩;rcases Nat.eq_zero_or_pos len with h0|ad
 ·subst h0
  have:es=[]:=A' hlen;subst this;exact⟨[],by simp,by simp,by simp⟩
 ·obtain⟨O,U⟩:∃O,es[0]?=some O:=⟨es[0],by simp[hlen,ad]⟩
  have aj:I=sz:=(hs 0 O U).symm.trans (hl O (ζ U));subst aj;have a1:∀t,t<len*I->t/I<len∧t%I<I∧t/I*I+t%I=t:=by
   intro t ht;have hz:0<I:=Nat.pos_of_ne_zero fun h=>by rw[h]at ht;simp at ht
   exact⟨Nat.div_lt_of_lt_mul (by rw[Nat.mul_comm];exact ht),Nat.mod_lt _ hz,Nat.div_add_mod' t I⟩
  refine⟨(List.range (len*I)).map fun t=>u (t/I) (t%I),by simp,fun t v hv=>?_,fun i j e d hi hj=>?_⟩
  ·simp only[τ,ν,List.getElem?_range]at hv
   obtain⟨t',J,rfl⟩:=hv;have M:t<len*I:=by
    rcases Nat.lt_or_ge t (len*I)with h|h
    ·exact h
    ·rw[List.getElem?_eq_none (by simpa using h)]at J;cases J
   rw[List.getElem?_range M]at J;have:t'=t:=(J' J).symm;subst this;obtain⟨h1,h2,h3⟩:=a1 t' M;have h4:=hu _ _ h1 h2;have h5:off+t'/I*I+t'%I=off+t':=by omega
   rw[h5]at h4;have hi:t'/I<es.length:=by omega
   have he:es[t'/I]?=some es[t'/I]:=by simp[hi]
   have N:es[t'/I].length=I:=hs _ _ he;have hd:es[t'/I][t'%I]?=some es[t'/I][t'%I]:=by simp[N,h2]
   exact⟨h4.1,h4.2,(hr _ _ _ _ he hd).one⟩
  ·have M:i<len:=by rw[<-hlen];exact(δ.1 hi).1
   have N:e.length=I:=hs i e hi;have X:j<I:=by rw[<-N];exact(δ.1 hj).1
   have hz:0<I:=by omega
   have ai:i*I+j<len*I:=by
    calc i*I+j<i*I+I:=by omega
     _=(i+1)*I:=by rw[Nat.succ_mul]
     _<=len*I:=Nat.mul_le_mul_right _ M
   refine⟨u i j,?_,hr i j e d hi hj⟩;have h1:(i*I+j)/I=i:=by rw[Nat.mul_comm,Nat.mul_add_div hz,Nat.div_eq_of_lt X];omega
   have h2:(i*I+j)%I=j:=by rw[Nat.mul_comm,Nat.mul_add_mod,Nat.mod_eq_of_lt X]
   simp[ai,h1,h2]
theorem au{arr:Array Value}(hb:w.heap[b]?=some (.cells arr T (0,0)))(J:es.length<=cap)(hm:cap<=maxLen)(hl:∀(e:List D),e∈es->e.length=sz)(hp:∀t,t<es.length*sz->¬pv b t)(M:∀(i j:Nat)(e:List D)(d:D),es[i]?=some e->e[j]?=some d->∃u,arr[i*sz+j]?=some u∧bN w pv u d):
 bN w pv (.slice (some ⟨b,0,none⟩) es.length cap) (.sl es):=by
 refine .sl b 0 es.length cap sz es (fun i j=>arr[i*sz+j]?.getD default) Z J hm (fun i e he=>hl e (ζ he)) (fun i j hi hj=>?_) (fun i j e d hi hj=>?_)
 ·have he:es[i]?=some es[i]:=by simp[hi]
  have I:=hl _ (ζ he);have hd:es[i][j]?=some es[i][j]:=by simp[I,hj]
  obtain⟨u,hu,_⟩:=M i j _ _ he hd;have N:i*sz+j<es.length*sz:=by
   calc i*sz+j<i*sz+sz:=by omega
    _=(i+1)*sz:=by rw[Nat.succ_mul]
    _<=es.length*sz:=Nat.mul_le_mul_right _ hi
  rw[Nat.zero_add];grind[cP]
 ·grind
theorem vL{t e}{i:TypeInfo}(ty)(I:P.underlying t=some (.slice e))(hi:P.info? e=some i)(base n cap)(J:n<=cap)(x a2 c2)(M:x=.slice a2 0 c2):
 (Builtin.append_ #[t,t] ty #[.slice base n cap,x]).run P w=.ok (.slice base n cap) w:=by
 subst M;cases base<;>cases a2<;>simp[Builtin.append_,run_underlying I,sizeOf,typeInfo,hi,Builtin.lenOf,J,Builtin.firstCells,loadCells,loadCellsFrom,storeCells]
section
variable{n:Nat}
def J4(m:Bool)(g:Nat)(es:List (List D)):A:=bif m then .xs g es else .own g es
def iB(m:Bool)(k:Nat):Nat:=bif m then 0 else k
theorem qC(m k):iB m k<=k:=by cases m<;>simp[iB]
theorem Ch(m){l}(h:k<=l):iB m k<=iB m l:=by cases m<;>simp[iB,h]
def B8(m:Bool)(w:World)(pv:Nat->Nat->Prop)(r:Row)(v:Value)(es:List (List D)):Prop:=
 bif m then v.oneCell'=true∧gW w pv r v es else bN w pv v (.sl es)∧∃s,(∀(e:List D),e∈es->e.length=s)∧sI r v es.length s
structure nt(m:Bool)(C:Ctx)(n:Nat)(st:St)(G:Gh)(tmps:Array Value)(lv:List Nat)(es:List (List D))(v:Value)(w w':World):Prop where
 B2:∃G':Gh,G'.box=G.box∧bq C n {st with lv:=st.gen::lv,gen:=st.gen+1} G' tmps w'∧bK (bu C G' (st.gen+1) w') v (J4 m st.gen es)
theorem bq.newRow(m)(h:bq C n st G tmps w){arr:Array Value}(hb:Below w.heap.size w w')(O:w'.heap[w.heap.size]?=some (.cells arr T (0,0)))(hs:arr.size=cap*sz)(a6:fV arr)(hc:es.length<=cap)(hm:cap<=maxLen)(hz:0<sz)(X:0<es.length)(hl:∀(e:List D),e∈es->e.length=sz)(I:∀(i j:Nat)(e:List D)(d:D),es[i]?=some e->e[j]?=some d->∃u,arr[i*sz+j]?=some u∧bN w (cf C G) u d)(drop)[DecidablePred drop](lv)(a7:∀g∈lv,g∈st.lv∧¬drop g):
 nt m C n st G tmps lv es (.slice (some ⟨w.heap.size,0,none⟩) es.length cap) w w':=by
 let J:Nat->Option Row:=fun g=>if g=st.gen then some (.blk w.heap.size es.length cap sz (iB m (es.length*sz)))else if drop g then none else G.own g;have ad:∀g r,g<st.gen->J g=some r->G.own g=some r:=by grind
 obtain⟨hle,a8⟩:=h.grow hb J (st.gen+1) (st.gen::lv) (Nat.le_succ _) ad
  (fun g r I=>by
   simp only[J]at I;split at I;·omega
   ·split at I
    ·cases I
    ·exact Z' (h.gown g r I))
  (fun g U=>by
   rcases N'.1 U with rfl|U
   ·exact⟨_,by simp[J];rfl⟩
   ·obtain⟨h1,h2⟩:=a7 g U
    obtain⟨r,I⟩:=h.live g h1;exact⟨r,by simp only[J,if_neg (X' (h.gown g r I)),if_neg h2];exact I⟩)
  (fun g b ai aj b0 a1 U I=>by
   simp only[J]at I;split at I
   ·rename_i e
    simp only[Option.some.injEq,Row.blk.injEq]at I;obtain⟨rfl,rfl,rfl,rfl,rfl⟩:=I;refine⟨χ _,fun g' b2 b3 b5 b4 M=>?_,arr,T,O,hs,hc,hm,hz,X,qC _ _,a6⟩;by_cases e':g'=st.gen;·omega
    ·simp only[J,if_neg e']at M
     split at M;·cases M
     ·obtain⟨_,_,_,cur,T',h4,_⟩:=h.row _ _ _ _ _ _ M
      have:=(θ.1 h4).1;omega
   ·split at I
    ·cases I
    ·exact absurd (h.gown g _ I) (by omega))
  (fun g b bs U I=>by
   simp only[J]at I;split at I;·cases I
   ·split at I
    ·cases I
    ·exact absurd (h.gown g _ I) (by omega))
  (fun g b bs c lim U I hm=>by
   simp only[J]at I;split at I;·cases I
   ·split at I
    ·cases I
    ·exact absurd (h.gown g _ I) (by omega))
 refine⟨⟨⟨G.box,J⟩,rfl,a8,?_⟩⟩
 cases m with
 |false=>
   refine .own _ _ es (au O hc hm hl (fun t ht hp=>?_) (fun i j e d hi hj=>?_)) (by simp[bu]) (fun r M=>?_)
   ·rcases(hp:cf C ⟨G.box,J⟩ w.heap.size t)with hp|⟨g,hp⟩|⟨g,ai,aj,b0,a1,hp,b6⟩|⟨g,b',bs,lim,hp,ch,_⟩
    rotate_right
    ·grind[bq.BE]
    ·have:=(h.xold _ _ hp).1;have:=h.fr.size;omega
    ·have:=(h.gbox g _ hp).2.1;omega
    ·simp only[J]at hp
     split at hp;·grind[Option.some.injEq,iB]
     ·split at hp
      ·grind
      ·obtain⟨_,_,_,cur,T',h4,_⟩:=h.row _ _ _ _ _ _ hp
       grind
   ·obtain⟨u,h1,h2⟩:=I i j e d hi hj
    exact⟨u,h1,h2.mono hle.cell⟩
   ·have N:J st.gen=some r:=M
    simp only[J,if_true,Option.some.injEq]at N;subst N;exact⟨sz,hl,rfl,rfl,rfl,rfl⟩
 |true=>refine .xs _ _ es (by simp[bu]) rfl (fun r M=>?_);have N:J st.gen=some r:=M;simp only[J,if_true,Option.some.injEq]at N;subst N;refine⟨rfl,rfl,rfl,hl,fun i j e d hi hj=>?_⟩;obtain⟨u,h1,h2⟩:=I i j e d hi hj;exact⟨u,by show cellAt w' _ _=_;rw[cP O];exact h1,h2.mono hle.cell⟩
theorem bq.pq{m}(h:bq C n st G tmps w){r}(hg:G.own g=some r){v}(hR:B8 m w (cf C G) r v es)(lv)(a1:∀J∈lv,J∈st.lv∧J≠g):nt m C n st G tmps lv es v w w:=by
 let M:Nat->Option Row:=fun J=>if J=st.gen then some r else if J=g then none else G.own J;have a8:=h.gown g r hg;have un:∀g2 r2,M g2=some r2->∃g3,G.own g3=some r2∧((g2=st.gen∧g3=g)∨(g2≠st.gen∧g2≠g∧g3=g2)):=by grind
 have a6:∀b o,cf C ⟨G.box,M⟩ b o->cf C G b o:=by
  rintro b o (hp|hp|⟨J,O,U,ai,X,hp,hl'⟩|⟨J,b',bs,lim,hp,hm,hl'⟩);·exact .inl hp
  ·exact .inr (.inl hp)
  ·simp only[M]at hp
   split at hp
   ·simp only[Option.some.injEq]at hp
    subst hp;exact .inr (.inr (.inl ⟨g,O,U,ai,X,hg,hl'⟩))
   ·split at hp
    ·grind
    ·exact .inr (.inr (.inl ⟨J,O,U,ai,X,hp,hl'⟩))
  ·obtain⟨g3,h3,_⟩:=un J _ hp
   exact .inr (.inr (.inr ⟨g3,b',bs,lim,h3,hm,hl'⟩))
 have hle:(bu C G st.gen w).le (bu C ⟨G.box,M⟩ (st.gen+1) w):=l5 h.fr h.fr (fun b o u hu hn=>⟨hu,fun hp=>hn (a6 b o hp)⟩) (fun _ _ h=>h)
  (fun J N ad I=>by
   simp only[M,if_neg (X' ad)]at I;split at I;·cases I
   ·exact I) (Nat.le_succ _) (fun _ _ _ _ _ _ _ _=>rfl) (fun _ _ _ _ _=>⟨fun _ _=>rfl,fun _ _=>rfl⟩) (.refl w)
 refine⟨⟨⟨G.box,M⟩,rfl,{size:=h.size,frame:=h.fz hle,inj:=h.inj,xold:=h.xold,kold:=h.kold,lent:=h.lent,fr:=h.fr,gcell:=h.gcell,box:=?_,gbox:=?_,live:=?_,gown:=?_,row:=?_,mrow:=?_,sub:=?_},?_⟩⟩
 ·intro J cells hc
  obtain⟨b,cs,T,h1,h2,h3,h4,h5⟩:=h.box J cells hc;exact⟨b,cs,T,h1,h2,h3,h4,fun i u a hu ha=>(h5 i u a hu ha).mono hle⟩
 ·intro J b hb
  obtain⟨h1,h2⟩:=h.gbox J b hb;grind
 ·intro J ad
  rcases N'.1 ad with rfl|ad
  ·grind
  ·obtain⟨h1,h2⟩:=a1 J ad
   obtain⟨N,I⟩:=h.live J h1;grind
 ·intro J N I
  simp only[M]at I;split at I;·grind
  ·split at I
   ·grind
   ·exact Z' (h.gown J N I)
 ·intro J b O U ai X I
  obtain⟨g3,h3,aj⟩:=un J _ I;obtain⟨h4,h5,h6,h7⟩:=h.row g3 b O U ai X h3;grind
 ·intro J b bs I
  obtain⟨g3,h3,aj⟩:=un J _ I;obtain⟨h4,b0,h6,h7⟩:=h.mrow g3 b bs h3;grind
 ·intro J b bs c lim I hm
  obtain⟨g3,h3,aj⟩:=un J _ I;obtain⟨h4,h5,h6,h7,h8⟩:=h.sub g3 b bs c lim h3 hm;grind
 ·have fin:∀N,M st.gen=some N->r=N:=fun N a7=>by simpa only[M,if_true,Option.some.injEq]using a7
  cases m with
  |false=>obtain⟨hv,s,hl,hr⟩:=hR;exact .own _ _ es (hv.mono hle.cell) (by simp[bu]) (fun N I=>fin N I▸⟨s,hl,hr⟩)
  |true=>
    obtain⟨h1,hr⟩:=hR;refine .xs _ _ es (by simp[bu]) h1 (fun N I=>fin N I▸?_)
    cases r with
    |nil=>exact hr
    |zero b=>exact hr
    |mp b=>exact hr
    |blk b len cap sz b2=>obtain⟨q1,q2,q3,q4,q5⟩:=hr;refine⟨q1,q2,q3,q4,fun i j e d hi hj=>?_⟩;obtain⟨u,hu,hd⟩:=q5 i j e d hi hj;exact⟨u,hu,hd.mono hle.cell⟩
theorem bq.tu(m)(h:bq C n st G tmps w){len}(hg:G.own g=some (.blk b len cap sz (iB m (len*sz)))){arr cur:Array Value}(O:w.heap[b]?=some (.cells cur T (0,0)))(hs:arr.size=cur.size)(di:fV arr)(hold:∀t,t<iB m (len*sz)->arr[t]?=cur[t]?)(hlen:len<=es.length)(hc:es.length<=cap)(hl:∀(e:List D),e∈es->e.length=sz)(hr:∀(i j:Nat)(e:List D)(d:D),es[i]?=some e->e[j]?=some d->∃u,arr[i*sz+j]?=some u∧bN w (cf C G) u d)(lv)(dj:∀M∈lv,M∈st.lv∧M≠g):nt m C n st G tmps lv es (.slice (some ⟨b,0,none⟩) es.length cap) w (w.setRow b arr):=by
 obtain⟨ai,cx,b4,en,T',a7,dt,e4,cy,hz,e0,_⟩:=h.row g b len cap sz _ hg;rw[O]at a7;simp only[Option.some.injEq,Obj.cells.injEq]at a7;obtain⟨rfl,rfl,_⟩:=a7;let N:Nat->Option Row:=fun M=>if M=st.gen then some (.blk b es.length cap sz (iB m (es.length*sz)))else if M=g then none else G.own M;have e5:=h.gown g _ hg;have e3:b<w.heap.size:=(θ.1 O).1;have a1:(w.setRow b arr).heap[b]?=some (.cells arr T (0,0)):=setRow_heap w b cur arr T (0,0) O;have cq:iB m (len*sz)<=iB m (es.length*sz):=Ch m (Nat.mul_le_mul_right _ hlen);have c7:=qC m (es.length*sz);have dx:∀J o,cf C ⟨G.box,N⟩ J o->cf C G J o:=by
  rintro J o (hp|hp|⟨M,U,X,a6,ad,hp,b5⟩|⟨M,b2,bs,lim,hp,hm,b5⟩);·exact .inl hp
  ·exact .inr (.inl hp)
  ·simp only[N]at hp
   split at hp
   ·simp only[Option.some.injEq,Row.blk.injEq]at hp
    obtain⟨rfl,rfl,rfl,rfl,rfl⟩:=hp;exact .inr (.inr (.inl ⟨g,len,cap,sz,_,hg,by omega⟩))
   ·split at hp
    ·grind
    ·exact .inr (.inr (.inl ⟨M,U,X,a6,ad,hp,b5⟩))
  ·simp only[N]at hp
   split at hp;·grind
   ·split at hp
    ·grind
    ·exact .inr (.inr (.inr ⟨M,b2,bs,lim,hp,hm,b5⟩))
 have c1:Fr C (w.setRow b arr):=⟨h.fr.os,h.fr.tape,h.fr.output,by rw[size_setRow];exact h.fr.size,fun J h1 h2=>by
  rw[setRow_other w b J arr (fun e=>by subst e;exact ai.1.elim (fun hm=>by omega) h2)];exact h.fr.block J h1 h2,fun J o u hk hu=>by
  have hw:=h.fr.cells J o u hk hu;by_cases e:J=b
  ·subst e
   rw[cP O]at hw;rw[cP a1,hold o (ai.2 o hk)];exact hw
  ·rw[cL (setRow_other w b J arr e)];exact hw,h.fr.ty.trans (.setRow w b arr)⟩
 have hle:(bu C G st.gen w).le (bu C ⟨G.box,N⟩ (st.gen+1) (w.setRow b arr)):=l5 h.fr c1 (fun J o u hu hn=>⟨by
  by_cases e:J=b
  ·subst e
   rw[cP O]at hu;rw[cP a1,hold o (Nat.lt_of_not_le fun hle=>hn (.inr (.inr (.inl ⟨g,len,cap,sz,_,hg,hle⟩))))];exact hu
  ·rw[cL (setRow_other w b J arr e)];exact hu,fun hp=>hn (dx J o hp)⟩) (fun _ _ h=>h)
  (fun M r' aj I=>by
   simp only[N,if_neg (X' aj)]at I;split at I;·cases I
   ·exact I) (Nat.le_succ _) (fun M J U X a6 ad aj I=>by
   simp only[N,if_neg (X' aj)]at I;split at I;·cases I
   ·rename_i e2
    have a8:J≠b:=fun e=>by subst e;exact e2 (b4 M U X a6 ad I)
    exact setRow_other w b J arr a8) (fun M J bs aj I=>by
   simp only[N,if_neg (X' aj)]at I;split at I;·cases I
   ·exact⟨fun c hc=>by subst hc;obtain⟨_,_,_,me,clock,h3⟩:=h.mrow M c bs I;exact setRow_other w b c arr (fun e=>by rw[e,O]at h3;cases h3),fun p hp=>setRow_other w b p.1 arr (fun e=>(h.sub M J bs p.1 p.2 I hp).2.2.1 g _ _ _ _ (by rw[e];exact hg))⟩) (.setRow w b arr)
 refine⟨⟨⟨G.box,N⟩,rfl,{size:=h.size,frame:=h.fz hle,inj:=h.inj,xold:=h.xold,kold:=h.kold,lent:=h.lent,fr:=c1,gcell:=fun M J ec=>ny (.setRow w b arr) (h.gcell M J ec),box:=?_,gbox:=?_,live:=?_,gown:=?_,row:=?_,mrow:=?_,sub:=?_},?_⟩⟩
 ·intro M cells hc
  obtain⟨J,cs,T',h1,h2,h3,h4,h5⟩:=h.box M cells hc;have:J≠b:=fun e=>cx M (by rw[<-e];exact h1);exact⟨J,cs,T',h1,by rw[setRow_other w b J arr this];exact h2,h3,h4,fun i u a hu ha=>(h5 i u a hu ha).mono hle⟩
 ·intro M J hb
  obtain⟨h1,h2,h3⟩:=h.gbox M J hb;exact⟨Z' h1,by rw[size_setRow];exact h2,h3⟩
 ·intro M aj
  rcases N'.1 aj with rfl|aj
  ·grind
  ·obtain⟨h1,h2⟩:=dj M aj
   obtain⟨r',I⟩:=h.live M h1;grind
 ·intro M r' I
  simp only[N]at I;split at I;·grind
  ·split at I
   ·grind
   ·exact Z' (h.gown M r' I)
 ·intro M J U X a6 ad I
  simp only[N]at I;split at I
  ·rename_i e
   simp only[Option.some.injEq,Row.blk.injEq]at I;obtain⟨rfl,rfl,rfl,rfl,rfl⟩:=I;refine⟨⟨ai.1,fun o ho=>ρ (ai.2 o ho) cq⟩,cx,fun g2 b6 ch c6 cj h2=>?_,arr,T,a1,by rw[hs];exact dt,hc,cy,hz,by omega,c7,di⟩;grind
  ·split at I
   ·grind
   ·rename_i e1 e2
    obtain⟨h4,h5,h6,b3,T2,h7,h8⟩:=h.row M J U X a6 ad I;have a8:J≠b:=fun e=>by subst e;exact e2 (b4 M U X a6 ad I)
    refine⟨h4,h5,fun g2 b6 ch c6 cj h2=>?_,b3,T2,by rw[setRow_other w b J arr a8];exact h7,h8⟩;grind
 ·intro M J bs I
  have un:∀g2 J bs,N g2=some (.mp J bs)->G.own g2=some (.mp J bs):=by grind
  obtain⟨h4,ed,h5,me,clock,h6⟩:=h.mrow M J bs (un _ _ _ I);exact⟨h4,ed,fun g2 cl h2=>h5 g2 cl (un _ _ _ h2),me,clock,by rw[setRow_other w b J arr (fun e=>by rw[e,O]at h6;cases h6)];exact h6⟩
 ·intro M J bs c lim I hm
  have un:∀g2 J bs,N g2=some (.mp J bs)->G.own g2=some (.mp J bs):=by grind
  obtain⟨h4,h5,h6,h7,b3,T2,h8,h9⟩:=h.sub M J bs c lim (un _ _ _ I) hm;have a8:c≠b:=fun e=>h6 g _ _ _ _ (by rw[e];exact hg);refine⟨h4,h5,fun g2 b6 ch c6 cj h2=>?_,fun g2 b2 cl df h2 ei=>h7 g2 b2 cl df (un _ _ _ h2) ei,b3,T2,by rw[setRow_other w b c arr a8];exact h8,h9⟩;grind
 ·cases m with
  |false=>
    refine .own _ _ es (au a1 hc cy hl (fun t ht hp=>?_) (fun i j e d hi hj=>?_)) (by simp[bu]) (fun r' I=>?_)
    ·rcases(hp:cf C ⟨G.box,N⟩ b t)with hp|⟨M,hp⟩|⟨M,U,X,a6,ad,hp,b5⟩|⟨M,J,bs,lim,hp,ej,_⟩
     rotate_right
     ·simp only[N]at hp
      split at hp;·grind
      ·split at hp
       ·grind
       ·exact(h.sub M J bs b lim hp ej).2.2.1 g _ _ _ _ hg
     ·have:=h.xold _ _ hp;rcases ai.1 with hm|hm
      ·omega
      ·grind
     ·grind
     ·simp only[N]at hp
      split at hp
      ·simp only[Option.some.injEq,Row.blk.injEq,iB,cond_false]at hp
       grind
      ·grind
    ·obtain⟨u,h1,h2⟩:=hr i j e d hi hj
     exact⟨u,h1,h2.mono hle.cell⟩
    ·have b0:N st.gen=some r':=I
     simp only[N,if_true,Option.some.injEq]at b0;subst b0;exact⟨sz,hl,rfl,rfl,rfl,rfl⟩
  |true=>refine .xs _ _ es (by simp[bu]) rfl (fun r' I=>?_);have b0:N st.gen=some r':=I;simp only[N,if_true,Option.some.injEq]at b0;subst b0;refine⟨rfl,rfl,rfl,hl,fun i j e d hi hj=>?_⟩;obtain⟨u,h1,h2⟩:=hr i j e d hi hj;exact⟨u,by show cellAt (w.setRow b arr) _ _=_;rw[cP a1];exact h1,h2.mono hle.cell⟩
end
def bR(lv:List Nat)(g:Nat):List Nat:=lv.filter fun x=>!Nat.beq x g
theorem cQ{x}(h:x∈bR lv g):x∈lv∧x≠g:=by simp only[bR,List.mem_filter,Bool.not_eq_true']at h;exact⟨h.1,fun e=>by subst e;simp at h⟩
section
variable(T:cG P){n:Nat}
theorem bq.pT(m)(h:bq C n st G tmps w)(lv)(N:∀g∈lv,g∈st.lv):nt m C n st G tmps lv [] (.slice none 0 0) w w:=by
 let J:Nat->Option Row:=fun O=>if O=st.gen then some .nil else G.own O
 obtain⟨hle,U⟩:=h.grow (Below.refl _ w) J (st.gen+1) (st.gen::lv) (Nat.le_succ _)
  (fun g r M I=>by simpa only[J,if_neg (X' M)]using I)
  (fun g r I=>by
   simp only[J]at I;split at I;·omega
   ·exact Z' (h.gown g r I))
  (fun g M=>by
   rcases N'.1 M with rfl|M
   ·exact⟨_,by simp[J];rfl⟩
   ·obtain⟨r,I⟩:=h.live g (N g M)
    exact⟨r,by simp only[J,if_neg (X' (h.gown g r I))];exact I⟩)
  (fun g b ad ai a1 aj M I=>by
   simp only[J]at I;split at I;·cases I
   ·exact absurd (h.gown g _ I) (by omega))
  (fun g b bs M I=>by
   simp only[J]at I;split at I;·cases I
   ·exact absurd (h.gown g _ I) (by omega))
  (fun g b bs c lim M I=>by
   simp only[J]at I;split at I;·cases I
   ·exact absurd (h.gown g _ I) (by omega))
 refine⟨⟨⟨G.box,J⟩,rfl,U,?_⟩⟩;have fin:∀r,J st.gen=some r->Row.nil=r:=fun r X=>by simpa only[J,if_true,Option.some.injEq]using X
 cases m with
 |false=>exact .own _ _ [] .nil (by simp[bu]) (fun r I=>fin r I▸⟨0,by simp,rfl,rfl⟩)
 |true=>exact .xs _ _ [] (by simp[bu]) rfl (fun r I=>fin r I▸⟨rfl,rfl⟩)
theorem sX{n:Nat}{l1 l2 rest:List Value}{R:Value->D->Prop}(N:es.length=n)(I:l1.length=n*sz)(hl:∀(e:List D),e∈es++es2->e.length=sz)(h1:∀(i j:Nat)(e:List D)(d:D),es[i]?=some e->e[j]?=some d->∃u,l1[i*sz+j]?=some u∧R u d)(h2:∀(i j:Nat)(e:List D)(d:D),es2[i]?=some e->e[j]?=some d->∃u,l2[i*sz+j]?=some u∧R u d):
 ∀(i j:Nat)(e:List D)(d:D),(es++es2)[i]?=some e->e[j]?=some d->∃u,(l1++l2++rest).toArray[i*sz+j]?=some u∧R u d:=by
 intro i j e d hi hj;have M:e.length=sz:=hl e (ζ hi);have X:j<sz:=by rw[<-M];exact(δ.1 hj).1
 rcases Nat.lt_or_ge i n with ad|J
 ·grind
 ·rw[Θ (by omega)]at hi
  obtain⟨u,hu,O⟩:=h2 _ j e d hi hj;refine⟨u,?_,O⟩;have e1:i*sz+j-l1.length=(i-es.length)*sz+j:=by rw[I,N,Nat.sub_mul];have:n*sz<=i*sz:=Nat.mul_le_mul_right _ J;omega
  have U:l1.length<=i*sz+j:=by rw[I];have:n*sz<=i*sz:=Nat.mul_le_mul_right _ J;omega
  grind
theorem EE{z:Array Value}(h:∀u∈z.toList,u.oneCell'=true)(k):∀u∈(Builtin.zeroCells z k).toList,u.oneCell'=true:=by
 intro u hu;rw[Builtin.zeroCells,Array.toList_map]at hu;obtain⟨i,hi,rfl⟩:=R'.1 hu;have I:0<z.size:=by grind
 have J:=Nat.mod_lt i I;grind
theorem rv{l1 l2}{z:Array Value}(h1:∀u∈l1,u.oneCell'=true)(h2:∀u∈l2,u.oneCell'=true)(h3:∀u∈z.toList,u.oneCell'=true):fV (l1++l2++(Builtin.zeroCells z k).toList).toArray:=
 aB fun u hu=>by
  rcases D'.1 hu with hu|hu
  ·grind
  ·exact EE h3 k u hu
theorem mH{cur:Array Value}{l2}(h1:fV cur)(h2:∀u∈l2,u.oneCell'=true):fV (cur.toList.take i++l2++cur.toList.drop j).toArray:=
 aB fun u hu=>by
  rcases D'.1 hu with hu|hu
  ·rcases D'.1 hu with hu|hu
   ·exact h1.of u (List.mem_of_mem_take hu)
   ·grind
  ·exact h1.of u (List.mem_of_mem_drop hu)
theorem EI{z:Value}{l:List Value}(h:z.cells.toList=l)(I:l.all dy=true):∀u∈z.cells.toList,u.oneCell'=true:=fun u hu=>nR (I'.1 I u (h▸hu))
inductive Src(m:Bool)(C:Ctx)(w:World)(st:St)(G:Gh)(v:Value)(es:List (List D)):List Nat->Prop
 |own (g:Nat) (r:Row) (hg:G.own g=some r) (hR:B8 m w (cf C G) r v es):Src m C w st G v es (bR st.lv g)
 |nil (hv:v=.slice none 0 0) (he:es=[]):Src m C w st G v es st.lv
theorem B8.flat{m len M v}(h:B8 m w pv (.blk b len cap sz M) v es)(hl:∀(e:List D),e∈es->e.length=sz):
 v=.slice (some ⟨b,0,none⟩) len cap∧es.length=len∧M=iB m (len*sz)∧∃l:List Value,l.length=len*sz∧(∀(t:Nat)(u:Value),l[t]?=some u->cellAt w b t=some u∧u.oneCell'=true)∧
   ∀(i j:Nat)(e:List D)(d:D),es[i]?=some e->e[j]?=some d->∃u,l[i*sz+j]?=some u∧bN w pv u d:=by
 cases m with
 |false=>obtain⟨X,s,hs,h1,h2,h3,h4⟩:=h;subst h3;subst h1;obtain⟨q1,q2,q3,l,q4,q5,q6⟩:=X.flat hl;exact⟨rfl,q1,h4,l,q4,fun t u hu=>by have:=q5 t u hu;rw[Nat.zero_add]at this;exact⟨this.1,this.2.2⟩,q6⟩
 |true=>
   obtain⟨_,h1,h2,h3,h4,h5⟩:=h;refine⟨h1,h2,h3,?_⟩;have key:∀t,t<len*sz->∃u,cellAt w b t=some u∧u.oneCell'=true∧∀e d,es[t/sz]?=some e->e[t%sz]?=some d->bN w pv u d:=by
    intro t N;have hz:0<sz:=Nat.pos_of_ne_zero fun h=>by rw[h]at N;simp at N
    have hi:t/sz<es.length:=by rw[h2];exact Nat.div_lt_of_lt_mul (by rw[Nat.mul_comm];exact N)
    have he:es[t/sz]?=some es[t/sz]:=by simp[hi]
    have I:=h4 _ (ζ he);have hd:es[t/sz][t%sz]?=some (es[t/sz][t%sz]'(by rw[I];exact Nat.mod_lt _ hz)):=by simp
    obtain⟨u,hu,J⟩:=h5 _ _ _ _ he hd;rw[Nat.div_add_mod' t sz]at hu;refine⟨u,hu,J.one,fun e d ad ai=>?_⟩;grind
   refine⟨(List.range (len*sz)).map fun t=>(cellAt w b t).getD default,by simp,fun t u hu=>?_,fun i j e d hi hj=>?_⟩;·grind
   ·have O:i<len:=by rw[<-h2];exact(δ.1 hi).1
    have I:e.length=sz:=h4 e (ζ hi);have U:j<sz:=by rw[<-I];exact(δ.1 hj).1
    obtain⟨u,hu,J⟩:=h5 i j e d hi hj;refine⟨u,?_,J⟩;simp[Aa O U,hu]
theorem bN.LD{v}(h:bN w pv v (.sl es)):∃a cap,v=.slice a es.length cap∧es.length<=cap:=by
 cases h with
 |nil=>exact⟨none,0,rfl,by simp⟩
 |emp a cap hm=>exact⟨_,cap,rfl,by simp⟩
 |sl b off len cap sz es u hl I hm hs hu J=>exact⟨_,cap,by rw[hl],by omega⟩
theorem tD (m:Bool) (h:bq C n st G tmps w) (ht:bh T.l t=some td) (hk:td.k=.slice e) (he:bh T.l e=some ed) {v v2:Value} (hvl:∃ a cap,v=.slice a es.length cap∧es.length≤cap) (hv2:bN w (cf C G) v2 (.sl es2)) (hsrc:Src m C w st G v es lv) (hl:∀ (x:List D),x∈es++es2→x.length=ed.n) (hz:0 < ed.n) (hb0:0 < ed.b) (hb:(es.length+es2.length)*ed.b≤140737488355328) (ty:Nat):
    ∃ v' w',(Builtin.append_ #[t,t] ty #[v,v2]).run P w=.ok v' w'∧nt m C n st G tmps lv (es++es2) v' w w':=by
  have hu:=T.gN ht hk
  obtain⟨i,z,hi,hin,hib,hiz,hzc,hzl,hzk,_⟩:=T.info he
  have hzo:=EI hzc hzk
  have hmax:es.length+es2.length≤140737488355328:=Y' (Nat.le_mul_of_pos_right _ hb0) hb
  have hmx:es.length+es2.length≤maxLen:=by simp only[maxLen];omega
  have hlv:∀ g'∈lv,g'∈st.lv:=by
    cases hsrc with
    | own g r _ _=>exact fun g' hg'=>(cQ hg').1
    | nil=>exact fun g' hg'=>hg'
  have hl1:∀ (x:List D),x∈es→x.length=ed.n:=fun x hx=>hl x (D'.2 (.inl hx))
  have hl2:∀ (x:List D),x∈es2→x.length=ed.n:=fun x hx=>hl x (D'.2 (.inr hx))
  rcases Nat.eq_zero_or_pos es2.length with hm | hm
  · have hes2:es2=[]:=A' hm
    subst hes2
    obtain⟨a2,c2,hv2e,_⟩:=hv2.len
    obtain⟨a1,c1,hv1e,hc1⟩:=hvl
    refine⟨v,w,by rw[hv1e];exact vL ty hu hi a1 _ c1 hc1 v2 a2 c2 hv2e,?_⟩
    rw[List.append_nil]
    cases hsrc with
    | own g r hg hR=>exact h.pq hg hR _ fun g' hg'=>cQ hg'
    | nil hv0 he0=>subst hv0;subst he0;exact h.pT m _ fun _ h=>h
  · cases hv2 with
    | nil=>simp at hm
    | emp=>simp at hm
    | sl b2 off2 len2 cap2 sz2 _ u2 hlen2 hc2 hcm2 hs2 hu2 hr2=>
    obtain⟨_,_,_,news,hnl,hnc,hnr⟩:=(bN.sl b2 off2 len2 cap2 sz2 es2 u2 hlen2 hc2 hcm2 hs2 hu2 hr2).flat hl2
    have hnews:∀ j u,news[j]? = some u→w.cell? ((⟨b2,off2,none⟩:Addr).add j)=some u:=by
      intro j u hj
      have:=(hnc j u hj).1
      unfold Addr.add
      split
      · rename_i e;subst e;simpa [cellAt] using this
      · exact this
    have hlen2':len2=es2.length:=hlen2.symm
    have hfitn:news.length=len2*i.size:=by rw[hnl,hin]
    have hno:∀ u∈news,u.oneCell'=true:=fun u hu=>by obtain⟨j,hj⟩:=ψ.1 hu;exact(hnc j u hj).2.2
    have grow:∀ (olds:List Value) (cap':Nat),(∀ u∈olds,u.oneCell'=true)→olds.length=es.length*ed.n→es.length+len2≤cap'→cap'≤maxLen →
        (∀ (i j:Nat) (x:List D) (d:D),es[i]? = some x→x[j]? = some d→∃ u,olds[i*ed.n+j]? = some u∧bN w (cf C G) u d) →
        ∀ arr:Array Value,arr=olds.toArray++news.toArray++Builtin.zeroCells z.cells (cap' - (es.length+len2)) →
        nt m C n st G tmps lv (es++es2) (.slice (some ⟨w.heap.size,0,none⟩) (es.length+len2) cap') w (w.drew.alloc (.cells arr e)):=by
      intro olds cap' hoo hol hge hcm hor arr harr
      have hb':Below w.heap.size w (w.drew.alloc (.cells arr e)):=((Below.refl _ w).drew).alloc (χ _) _
      have hzs:z.cells.size=ed.n:=by rw[←hzl,←hzc];simp
      have hsz:arr.size=cap'*ed.n:=by
        rw[harr]
        simp only[Array.size_append,List.size_toArray,size_zeroCells,hol,hnl,hzs,←Nat.add_mul]
        congr 1
        omega
      have e0:(es++es2).length=es.length+len2:=by simp[hlen2]
      have e1:arr=(olds++news++(Builtin.zeroCells z.cells (cap' - (es.length+len2))).toList).toArray:=by rw[harr];simp
      have main:∀ (drop:Nat→Prop) [DecidablePred drop],(∀ g∈lv,g∈st.lv∧¬ drop g)→nt m C n st G tmps lv (es++es2) (.slice (some ⟨w.heap.size,0,none⟩) (es++es2).length cap') w (w.drew.alloc (.cells arr e)):=by
        intro drop _ hd
        refine h.newRow m hb' (heap_alloc_new w.drew _) hsz (by rw[e1];exact rv hoo hno hzo) (by omega) hcm hz (by omega) hl ?_ drop lv hd
        rw[e1]
        exact sX Z hol hl hor hnr
      rw[←e0]
      cases hsrc with
      | own g r hg hR=>exact main (fun x=>x=g) fun g' hg'=>cQ hg'
      | nil=>exact main (fun _=>False) fun g' hg'=>⟨hg',fun h=>h⟩
    have hcap:∀ old,es.length+len2≤grownCap w (es.length+len2) old e∧grownCap w (es.length+len2) old e≤maxLen:=fun old=>⟨grownCap_ge w _ old e,grownCap_le_maxLen w _ old e (by omega)⟩
    have nilCase:v=.slice none 0 0→es=[]→∃ v' w',(Builtin.append_ #[t,t] ty #[v,.slice (some ⟨b2,off2,none⟩) len2 cap2]).run P w=.ok v' w'∧nt m C n st G tmps lv (es++es2) v' w w':=by
      intro hv0 he0
      subst hv0;subst he0
      have hr:=run_append_nil (P:=P) w t ty e i z hu hi hiz ⟨b2,off2,none⟩ len2 cap2 news hfitn hnews (by omega) (by omega) (by rw[hib,hlen2'];simp at hb;omega)
      have hg:=grow [] (grownCap w len2 0 e) (by simp) (by simp) (by simpa using (hcap 0).1) (by simpa using (hcap 0).2) (by simp) _ Z
      simp only[List.length_nil,Nat.zero_add] at hg
      refine⟨_,_,hr,?_⟩
      simpa using hg
    cases hsrc with
    | nil hv0 he0=>exact nilCase hv0 he0
    | own g r hg hR=>
      cases r with
      | mp b bs=>
        cases m with
        | false=>exact absurd hR.2.choose_spec.2 (fun h=>h)
        | true=>exact absurd hR.2 (fun h=>h)
      | nil=>
        have hr:v=.slice none 0 0∧es=[]:=by
          cases m with
          | false=>obtain⟨_,s,_,h1,h2⟩:=hR;exact⟨h1,A' h2⟩
          | true=>exact hR.2
        exact nilCase hr.1 hr.2
      | zero b=>
        cases m with
        | true=>
          obtain⟨hv0,he0⟩:=hR.2
          subst hv0;subst he0
          have hr:=run_append_grow (P:=P) w t ty e i z hu hi hiz ⟨b,0,none⟩ 0 0 [] (by simp) (by simp) ⟨b2,off2,none⟩ len2 cap2 news hfitn hnews (by omega) (by omega)
            (growslice_fits (by omega) (by rw[hib];simpa [hlen2'] using hb))
          have hg:=grow [] (grownCap w (0+len2) 0 e) (by simp) (by simp) (by simpa using (hcap 0).1) (by simpa using (hcap 0).2) (by simp) _ Z
          exact⟨_,_,hr,by simpa using hg⟩
        | false=>
          obtain⟨hrd,s,_,off,hv0⟩:=hR
          subst hv0
          obtain⟨olds,hol,hoc,hor⟩:∃ olds:List Value,olds.length=es.length*ed.n∧(∀ (t:Nat) (u:Value),olds[t]? = some u→cellAt w b (off+t)=some u∧u.oneCell'=true) ∧
              ∀ (i j:Nat) (x:List D) (d:D),es[i]? = some x→x[j]? = some d→∃ u,olds[i*ed.n+j]? = some u∧bN w (cf C G) u d:=by
            generalize hq:Value.slice (some ⟨b,off,none⟩) es.length es.length=q at hrd
            cases hrd with
            | nil=>exact⟨[],by simp,by simp,by simp⟩
            | emp=>exact⟨[],by simp,by simp,by simp⟩
            | sl b1 off1 len1 cap1 sz1 _ u1 hlen1 hc1 hcm1 hs1 hu1 hr1=>
              simp only[Value.slice.injEq,Option.some.injEq,Addr.mk.injEq,and_true] at hq
              obtain⟨⟨rfl,rfl⟩,rfl,rfl⟩:=hq
              obtain⟨_,_,_,olds,hol,hoc,hor⟩:=(bN.sl b off es.length es.length sz1 es u1 hlen1 hc1 hcm1 hs1 hu1 hr1).flat hl1
              exact⟨olds,hol,fun t u hu=>⟨(hoc t u hu).1,(hoc t u hu).2.2⟩,hor⟩
          have holds:∀ j u,olds[j]? = some u→w.cell? ((⟨b,off,none⟩:Addr).add j)=some u:=by
            intro j u hj
            have:=(hoc j u hj).1
            unfold Addr.add
            split
            · rename_i e;subst e;simpa [cellAt] using this
            · exact this
          have hr:=run_append_grow (P:=P) w t ty e i z hu hi hiz ⟨b,off,none⟩ es.length es.length olds (by rw[hol,hin]) holds ⟨b2,off2,none⟩ len2 cap2 news hfitn hnews (by omega) (by omega)
            (growslice_fits (by omega) (by rw[hib];simpa [hlen2'] using hb))
          have hgr:=grow olds (grownCap w (es.length+len2) es.length e) (fun u hu=>by obtain⟨j,hj⟩:=ψ.1 hu;exact(hoc j u hj).2) hol (hcap es.length).1 (hcap es.length).2 hor _ Z
          exact⟨_,_,hr,hgr⟩
      | blk b len cap s pub=>
        obtain⟨hmine,hnb,huniq,cur,T',hcur,hcs,hlc,hcm,hz',hpos,_,hone⟩:=h.row g b len cap s pub hg
        have hlen:es.length=len:=by
          cases m with
          | false=>obtain⟨_,s,_,h1,h2,_⟩:=hR;exact h2
          | true=>exact hR.2.2.1
        have hsl:∀ (e:List D),e∈es→e.length=s:=by
          cases m with
          | false=>obtain⟨_,s',h0,h1,h2,h3,_⟩:=hR;exact h3▸h0
          | true=>exact hR.2.2.2.2.1
        have hsz:s=ed.n:=by
          have he0:es[0]? = some (es[0]'(by omega)):=by simp
          rw[←hsl _ (ζ he0),hl1 _ (ζ he0)]
        subst hsz
        obtain⟨hv0,_,hpub,olds,hol,hoc,hor⟩:=hR.flat hl1
        subst hlen
        subst hv0
        subst hpub
        have holds:∀ j u,olds[j]? = some u→w.cell? ((⟨b,0,none⟩:Addr).add j)=some u:=by
          intro j u hj
          have:=(hoc j u hj).1
          unfold Addr.add
          split
          · rename_i e;subst e;simpa [cellAt] using this
          · simpa using this
        by_cases hroom:es.length+len2≤cap
        · have hfit:es.length*i.size+news.length≤cur.size:=by rw[hnl,hin,hcs,←Nat.add_mul];exact Nat.mul_le_mul_right _ hroom
          by_cases hTe:T'=e
          · subst hTe
            have hr:=run_append_room (P:=P) w t ty T' i hu hi b es.length cap cur hcur ⟨b2,off2,none⟩ len2 cap2 news hfitn hnews (fun u hu=>by
              obtain⟨j,hj⟩:=ψ.1 hu
              exact(hnc j u hj).2.2) hroom hfit
            refine⟨_,_,hr,?_⟩
            have e0:(es++es2).length=es.length+len2:=by simp[hlen2]
            have htk:cur.toList.take (es.length*i.size)=olds:=by
              apply List.ext_getElem?
              intro t'
              rw[List.getElem?_take]
              split
              · rename_i hlt
                rw[hin] at hlt
                have ho:olds[t']? = some olds[t']:=by simp[hol,hlt]
                rw[ho]
                have:=(hoc t' _ ho).1
                rw[cP hcur] at this
                simpa using this
              · rename_i hge
                rw[hin] at hge
                rw[List.getElem?_eq_none (by rw[hol];omega)]
            rw[←e0]
            refine h.tu m hg hcur ?_ (mH hone hno) (fun t' ht''=>?_) (by omega) (by omega) hl ?_ _ fun g' hg'=>cQ hg'
            · simp only[List.size_toArray,υ,V',List.length_drop,Array.length_toList]
              omega
            · have ht':=ρ ht'' (qC _ _)
              rw[List.getElem?_toArray,M',Ω (by rw[htk,hol];exact ht'),List.getElem?_take,if_pos (by rw[hin];exact ht')]
              simp
            · rw[htk]
              exact sX Z hol hl hor hnr
          ·
            have hf:=run_firstCells_some (P:=P) w i.size len2 ⟨b2,off2,none⟩ len2 cap2 news hfitn hnews
            have hst:=run_storeCells_at P b (es.length*i.size) T' news 0 cur w hcur (by simpa using hfit) (fun u hu=>by
              obtain⟨j,hj⟩:=ψ.1 hu
              exact(hnc j u hj).2.2)
            simp only[Nat.add_zero] at hst
            have hr:(Builtin.append_ #[t,t] ty #[.slice (some ⟨b,0,none⟩) es.length cap,.slice (some ⟨b2,off2,none⟩) len2 cap2]).run P w =
                .ok (.slice (some ⟨b,0,none⟩) (es.length+len2) cap) (w.setRow b (cur.toList.take (es.length*i.size)++news++cur.toList.drop (es.length*i.size+news.length)).toArray):=by
              simp[Builtin.append_,run_underlying hu,Go.sizeOf,typeInfo,hi,Builtin.lenOf,hroom,hf,Addr.add_lit,hst]
            refine⟨_,_,hr,?_⟩
            have e0:(es++es2).length=es.length+len2:=by simp[hlen2]
            have htk:cur.toList.take (es.length*i.size)=olds:=by
              apply List.ext_getElem?
              intro t'
              rw[List.getElem?_take]
              split
              · rename_i hlt
                rw[hin] at hlt
                have ho:olds[t']? = some olds[t']:=by simp[hol,hlt]
                rw[ho]
                have:=(hoc t' _ ho).1
                rw[cP hcur] at this
                simpa using this
              · rename_i hge
                rw[hin] at hge
                rw[List.getElem?_eq_none (by rw[hol];omega)]
            rw[←e0]
            refine h.tu m hg hcur ?_ (mH hone hno) (fun t' ht''=>?_) (by omega) (by omega) hl ?_ _ fun g' hg'=>cQ hg'
            · simp only[List.size_toArray,υ,V',List.length_drop,Array.length_toList]
              omega
            · have ht':=ρ ht'' (qC _ _)
              rw[List.getElem?_toArray,M',Ω (by rw[htk,hol];exact ht'),List.getElem?_take,if_pos (by rw[hin];exact ht')]
              simp
            · rw[htk]
              exact sX Z hol hl hor hnr
        · have hr:=run_append_grow (P:=P) w t ty e i z hu hi hiz ⟨b,0,none⟩ es.length cap olds (by rw[hol,hin]) holds ⟨b2,off2,none⟩ len2 cap2 news hfitn hnews (by omega) (by omega)
            (growslice_fits (by omega) (by rw[hib];simpa [hlen2'] using hb))
          have hgr:=grow olds (grownCap w (es.length+len2) cap e) (fun u hu=>by obtain⟨j,hj⟩:=ψ.1 hu;exact(hoc j u hj).2) hol (hcap cap).1 (hcap cap).2 hor _ Z
          exact⟨_,_,hr,hgr⟩
end
section
variable(T:cG P){n:Nat}{rest:List Oper}
theorem pI(J:o.op=.call ⟨.builtin .append,#[x,y],#[t,t]⟩){I}(h:(Builtin.append_ #[t,t] o.type #[act.eval x,act.eval y]).run P w=.ok I w'):(execOp act.eval o).run P w=.ok (.value I) w':=by
 unfold execOp;rw[J];show Sem.run P (do let d←resolve act.eval ⟨.builtin .append,#[x,y],#[t,t]⟩ o.type;invoke d.target d.args) w=_;simp only[resolve,invoke,builtin,Sem.run_bind,Sem.run_pure,Result.andThen_ok,List.map_toArray,U',List.map_nil,h]
theorem aR(hg:o.guard=none)(hd:fY n o.dst=true){I:cV}(ho:o.op=.call ⟨.builtin .append,#[x,y],#[t,t]⟩)(ht:bh T.l t=some td)(hk:td.k=.slice e)(he:bh T.l e=some I)(hx:av st.f x=some (.own g es))(U:g∈st.lv){b}(hy:av st.f y=some b)(X:jI b=some es2)(hz:Nat.blt 0 I.n=true)(ad:Nat.blt 0 I.b=true)(hl:∀(x:List D),x∈es++es2->x.length=I.n)(hb:(es.length+es2.length)*I.b<=140737488355328)(h:WO P C n ops Q rest (St.put {st with lv:=st.gen::bR st.lv g,gen:=st.gen+1} o.dst (.own st.gen (es++es2)))):WO P C n ops Q (o::rest) st:=by
 refine WO.step hg fun tmps w⟨G,hs⟩=>?_;have hr:=hs.av hx;have ai:=jv X (hs.av hy);obtain⟨r,M⟩:=hs.live g U;generalize hv:Act.eval ⟨tmps,[]⟩ x=v at hr
 cases hr with
 |own _ _ _ N a8 O=>
 obtain⟨s,aj,a1⟩:=O r M;obtain⟨v',w',J,⟨G',_,a6,a7⟩⟩:=tD T false hs ht hk he N.LD ai (.own g r M ⟨N,s,aj,a1⟩) hl (κ hz) (κ ad) hb o.type;rw[<-hv]at J;exact dE (pI ho J) ⟨_,⟨G',a6.put (dp hd) a7⟩,h⟩
theorem W.J6{c}(hl:look st.f d=some (.d (.v (.slice none 0 0))))(hd:Nat.blt d n=true)(h:W P C n c Q (St.set {st with lv:=st.gen::st.lv,gen:=st.gen+1} d (.own st.gen []))):W P C n c Q st:=by
 intro tmps w ⟨G,hs⟩;obtain⟨v,O,I⟩:=hs.frame _ _ hl;cases I with|d I=>cases I with|v _ _=>
 obtain⟨⟨N,_,J,M⟩⟩:=hs.pT false st.lv (fun _ h=>h);refine h tmps w ⟨N,?_⟩;have:=J.set (d:=d) (κ hd) M;have e:tmps.setIfInBounds d (Value.slice none 0 0)=tmps:=by grind
 rw[e]at this;exact this
end
theorem so(off):∀(l:List Value)(k:Nat)(cells:Array Value),off+k+l.length<=cells.size->
 (l.zipIdx k).foldl (fun cs(x:Value×Nat)=>cs.setIfInBounds (off+x.2) x.1) cells=(cells.toList.take (off+k)++l++cells.toList.drop (off+k+l.length)).toArray
 |[],k,cells,_=>by simp
 |v::l,k,cells,h=>by simp only[List.zipIdx_cons,List.foldl_cons];rw[so off l (k+1) _ (by simp at h⊢;omega)];congr 1;have e:=list_seg_step cells.toList (off+k) v l (by simp at h⊢;omega);grind
def oR(bx:List (Nat×List A))(f:List (Nat×A))(place:Nat->Option (Nat×Nat)):List (Nat×Operand)->List A->Option (List A)
 |[],cells=>some cells
 |(i,x)::r,cells=>match place i,av f x with
   |some (off,size),some a=>(match cellsOf bx a with
     |some cs=>if cs.length=size∧off+cs.length<=cells.length then oR bx f place r (setAt cells off cs)else none
     |none=>none)
   |_,_=>none
section
variable(T:cG P){n:Nat}{rest:List Oper}
theorem wN(hs:bq C n st G tmps w)(place I)(hp:∀i x,place i=some x->I i=some x):∀(parts:List (Nat×Operand))(cells cells':List A)(cs:Array Value),dT (bu C G st.gen w) cs cells->
 oR st.bx st.f place parts cells=some cells'->∃cs',Instr.fill I cs (parts.map fun(i,x)=>(i,Act.eval ⟨tmps,[]⟩ x))=some cs'∧dT (bu C G st.gen w) cs' cells'
 |[],cells,cells',cs,hr,h=>by simp only[oR,Option.some.injEq]at h;subst h;exact⟨cs,rfl,hr⟩
 |(i,x)::r,cells,cells',cs,hr,h=>by
   simp only[oR]at h;split at h
   ·rename_i off size a M U
    split at h
    ·rename_i cl N
     split at h
     ·rename_i X
      obtain⟨h1,h2⟩:=X;have J:=kI hs N (hs.av U);have O:(Act.eval ⟨tmps,[]⟩ x).cells.size=size:=by rw[J.1];exact h1
      have hle:off+(Act.eval ⟨tmps,[]⟩ x).cells.size<=cs.size:=by rw[J.1,hr.1];exact h2
      obtain⟨cs',h3,h4⟩:=wN hs place I hp r _ cells' _ (ay (off:=off) hr J h2) h;refine⟨cs',?_,h4⟩;simp only[U',Instr.fill,hp i _ M];rw[if_neg (by simp[O];omega)];have e:=so off (Act.eval ⟨tmps,[]⟩ x).cells.toList 0 cs (by simpa using hle);simp only[Nat.add_zero]at e;rw[<-h3,←e];congr 1;rw[<-Array.foldl_toList];grind
     ·grind
    ·grind
   ·grind
theorem dT.my{cs l}(h:dT E cs l):bK E (.agg cs) (my l):=mP h.1 h.2.1 h.2.2
theorem zl{d:cV}(h:bh T.l t=some d):∃i z,P.info? t=some i∧i.zero=some z∧i.size=d.n∧dT E z.cells (d.z.map fun v=>.d (.v v)):=by
 obtain⟨i,z,hi,O,_,U,M,X,ad,_⟩:=T.info h;have I:∀(i:Nat)(u:Value),z.cells[i]?=some u->dy u=true:=fun i u hu=>by grind
 refine⟨i,z,hi,U,O,by rw[η,←M];simp,fun i u hu=>nR (I i u hu),fun i u a hu N=>?_⟩;simp only[τ,ν]at N;obtain⟨y,J,rfl⟩:=N;rw[<-M]at J;have:y=u:=by simp at J;rw[hu]at J;exact(J' J).symm
 subst this;exact .d (.v _ (I i y hu))
def sy(I:List (Nat×Nat×String))(i:Nat):Option (Nat×Nat):=match I[i]?with
 |some (off,J,_)=>(match bh T.l J with|some d=>some (off,d.n)|none=>none)
 |none=>none
theorem pC(P:Program):∀(fl:List Field),(fl.map fun f=>(f.offset,f.type,f.name)).all (fun x=>(P.info? x.2.1).isSome)=true->
 ∃pl,fl.mapM (fun f=>(P.info? f.type).map fun i=>(f.offset,i.size))=some pl∧∀(i:Nat)(f:Field)(inf:TypeInfo),fl[i]?=some f->P.info? f.type=some inf->pl[i]?=some (f.offset,inf.size)
 |[],_=>⟨[],by simp,by simp⟩
 |f::fl,h=>by simp only[U',List.all_cons,μ]at h;obtain⟨inf,I⟩:=Option.isSome_iff_exists.1 h.1;obtain⟨pl,h1,h2⟩:=pC P fl h.2;refine⟨(f.offset,inf.size)::pl,by simp[List.mapM_cons,I,h1],fun i g M N J=>?_⟩;grind
theorem Pu.build(ho:o.op=.build t parts){d:cV}(X:bh T.l t=some d){M}(hk:d.k=.st M)(hf:oR st.bx st.f (sy T M) parts.toList (d.z.map fun v=>.d (.v v))=some cells){r}(hr:Ab.my cells=r):Pu P C n st o r:=by
 refine aq fun G tmps w hs=>?_;obtain⟨fl,hu,I,_,_,N⟩:=T.uS X hk;obtain⟨i,z,hi,hz,hn,ad⟩:=zl (E:=bu C G st.gen w) T X;obtain⟨pl,a6,O⟩:=pC P fl.toList (by rw[I];exact N);obtain⟨cs',h1,h2⟩:=wN (tmps:=tmps) hs (sy T M) (pl.toArray[·]?) (fun j x hj=>by
  unfold sy at hj;split at hj
  ·rename_i off ft nm J
   split at hj
   ·rename_i dt ai
    simp only[Option.some.injEq]at hj;subst hj;rw[<-I,τ,ν]at J;obtain⟨fd,aj,he⟩:=J;simp only[Prod.mk.injEq]at he;obtain⟨e1,e2,_⟩:=he;obtain⟨inf,_,U,a1,_⟩:=T.info ai;have:=O j fd inf aj (by rw[e2];exact U);rw[List.getElem?_toArray,this,e1,a1]
   ·cases hj
  ·cases hj) parts.toList _ cells z.cells ad hf
 refine⟨.agg cs',?_,by rw[<-hr];exact dT.my h2⟩;have hb:P.built t (parts.map fun(x:Nat×Operand)=>(x.1,Act.eval ⟨tmps,[]⟩ x.2)).toList=some cs':=by unfold Program.built;simp_all
 unfold execOp;rw[ho];show Sem.run P _ w=.ok _ w;simp only[Sem.run_bind,run_build w t _ cs' hb,Result.andThen_ok,Sem.run_pure]
def BA:A->Option (List D)
 |.ag l=>some l
 |.d x=>some [x]
 |.own _ es=>some [.sl es]
 |.agg l=>wI l
 |_=>none
def nv(f:List (Nat×A)):Nat->List (Nat×Operand)->Option (List (List D))
 |_,[]=>some []
 |k,(i,x)::r=>bif Nat.beq i k then(match av f x with
  |some a=>(match BA a,nv f (k+1) r with
    |some e,some es=>some (e::es)
    |_,_=>none)
  |none=>none)else none
theorem Bz{v:Value}(h:BA a=some l)(N:bK E v a):dT E v.cells (l.map .d):=by
 cases N<;>simp only[BA]at h<;>first|(cases h;done)|skip
 case d y hd=>simp only[Option.some.injEq]at h;subst h;exact dT.one hd.one (.d hd)
 case ag vs l' hs hd=>
  simp only[Option.some.injEq]at h;subst h;refine⟨by simp[Value.cells,hs],fun i u hu=>?_,fun i u x hu I=>?_⟩
  ·have hi:i<l'.length:=by rw[<-hs];exact(θ.1 hu).1
   exact(hd i u l'[i] hu (by simp[hi])).one
  ·simp only[τ,ν]at I
   obtain⟨y,J,rfl⟩:=I;exact .d (hd i u y hu J)
 case own g es _ hd _=>simp only[Option.some.injEq]at h;subst h;exact dT.one hd.one (.d hd)
 case agg vs l' hs hone hd=>obtain⟨h1,h2⟩:=uk h;refine⟨by simp[Value.cells,hs,h1],hone,fun i u x hu I=>?_⟩;simp only[τ,ν]at I;obtain⟨y,J,rfl⟩:=I;obtain⟨a,O,M⟩:=h2 i y J;exact .d (BU M (hd i u a hu O))
theorem zL(hs:bq C n st G tmps w)(sz):∀(parts:List (Nat×Operand))(k:Nat)(es done:List (List D))(cs:Array Value)(I:List A),nv st.f k parts=some es->(∀(e:List D),e∈es->e.length=sz)->
 dT (bu C G st.gen w) cs (done.flatten.map A.d++I)->done.flatten.length=k*sz->I.length=es.length*sz->
 ∃cs',Instr.fill (fun i=>some (i*sz,sz)) cs (parts.map fun(i,x)=>(i,Act.eval ⟨tmps,[]⟩ x))=some cs'∧dT (bu C G st.gen w) cs' ((done++es).flatten.map A.d)
 |[],k,es,done,cs,I,h,_,hr,hd,hz=>by simp only[nv,Option.some.injEq]at h;subst h;have:I=[]:=A' (by simpa using hz);subst this;exact⟨cs,rfl,by simpa using hr⟩
 |(i,x)::r,k,es,done,cs,I,h,hl,hr,hd,hz=>by
   simp only[nv]at h;cases J:Nat.beq i k;·simp[J]at h
   ·simp only[J,cond_true]at h
    have J:=Γ J;subst J;split at h
    ·rename_i a ha
     split at h
     ·rename_i e O he ad
      simp only[Option.some.injEq]at h;subst h;have M:e.length=sz:=hl e Ψ;have N:=Bz he (hs.av ha);have a1:(Act.eval ⟨tmps,[]⟩ x).cells.size=sz:=by rw[N.1];simpa using M
      have U:I.length=sz+O.length*sz:=by rw[hz,Ξ,Nat.succ_mul];omega
      have ai:Ab.setAt (done.flatten.map A.d++I) (i*sz) (e.map A.d)=(done++[e]).flatten.map A.d++I.drop sz:=by
       have e2:(done++[e]).flatten.map A.d=done.flatten.map A.d++e.map A.d:=by simp
       have e1:i*sz=(done.flatten.map A.d).length:=by rw[η,hd]
       have e3:(e.map A.d).length=sz:=by rw[η,M]
       unfold Ab.setAt;rw[e2,e3,e1,List.take_left,List.drop_append];simp
      have hle:i*sz+(e.map A.d).length<=(done.flatten.map A.d++I).length:=by rw[υ,η,η,hd,M,U];omega
      have X:=ay (off:=i*sz) hr N hle;rw[ai]at X;obtain⟨cs',h3,h4⟩:=zL hs sz r (i+1) O (done++[e]) _ (I.drop sz) ad (fun e' a6=>hl e' (ω _ a6)) X (by rw[List.flatten_append,υ,hd];simp[M,Nat.succ_mul]) (by simp[U]);refine⟨cs',?_,by simpa using h4⟩;simp only[U',Instr.fill];have aj:i*sz+(Act.eval ⟨tmps,[]⟩ x).cells.size<=cs.size:=by rw[hr.1,N.1];exact hle
      rw[if_neg (by simp[a1];omega)];have ef:=so (i*sz) (Act.eval ⟨tmps,[]⟩ x).cells.toList 0 cs (by simpa using aj);simp only[Nat.add_zero]at ef;rw[<-h3,←ef];congr 1;rw[<-Array.foldl_toList];simp[Array.toList_zipIdx]
     ·cases h
    ·cases h
theorem pD:∀{es:List (List D)},(∀(e:List D),e∈es->e.length=sz)->∀(i j:Nat)(e:List D)(d:D),es[i]?=some e->e[j]?=some d->es.flatten[i*sz+j]?=some d
 |[],_,i,j,e,d,hi,_=>by simp at hi
 |I::es,hl,i,j,e,d,hi,hj=>by
   have J:=hl I Ψ
   cases i with
   |zero=>grind
   |succ i=>have:=pD (fun e he=>hl e (ω _ he)) i j e d (by simpa using hi) hj;grind
theorem ly(hs:bq C n st G tmps w){len}{I:cV}(ht:bh T.l t=some td)(hk:td.k=.slice e)(he:bh T.l e=some I)(O:nv st.f 0 parts.toList=some es)(hlen:es.length=len)(hz:0<I.n)(b4:len*I.n<=16777216)(hl:∀(x:List D),x∈es->x.length=I.n)(ai:0<len):
 ∃cs',(Instr.buildSlice t len (parts.map fun(x:Nat×Operand)=>(x.1,Act.eval ⟨tmps,[]⟩ x.2))).run P w=.ok (.slice (some ⟨w.heap.size,0,none⟩) len len) (w.alloc (.cells cs' e))∧cs'.size=len*I.n∧fV cs'∧
   ∀(k j:Nat)(N:List D)(d:D),es[k]?=some N->N[j]?=some d->∃u,cs'[k*I.n+j]?=some u∧bN w (cf C G) u d:=by
 have hu:=T.gN ht hk;obtain⟨i,z,hi,M,_,a1,U,a6,a7,_⟩:=T.info he;have b5:z.cells.size=I.n:=by rw[<-a6,←U];simp
 have a8:dT (bu C G st.gen w) ((Array.range (len*i.size)).map (z.cells[· %z.cells.size]!)) ((List.range (len*I.n)).map fun j=>A.d (.v (z.cells[j%z.cells.size]!))):=by
  have hok:∀j,dy (z.cells[j%z.cells.size]!)=true:=fun j=>by
   have hj:j%z.cells.size<z.cells.size:=Nat.mod_lt _ (by omega);have:z.cells[j%z.cells.size]!∈I.z:=by rw[<-U,getElem!_pos z.cells _ hj];simp
   exact I'.1 a7 _ this
  refine⟨by simp[M],fun k u hu=>?_,fun k u a hu ha=>?_⟩
  ·simp only[Array.getElem?_map,ν]at hu
   obtain⟨j,_,rfl⟩:=hu;exact nR (hok j)
  ·simp only[Array.getElem?_map,ν,τ]at hu ha
   obtain⟨j,hj,rfl⟩:=hu;obtain⟨j',b0,rfl⟩:=ha;have:j=j':=by rw[M]at hj;have h1:=(θ.1 hj);have h2:=(δ.1 b0);obtain⟨_,h1⟩:=h1;obtain⟨_,h2⟩:=h2;simp at h1 h2;omega
   subst this;exact .d (.v _ (hok j))
 obtain⟨cs',hf,X⟩:=zL (tmps:=tmps) hs I.n parts.toList 0 es [] _ _ O hl (by simpa using a8) (by simp) (by simp[hlen]);have J:dT (bu C G st.gen w) cs' (es.flatten.map A.d):=by simpa using X
 have b2:es.flatten.length=es.length*I.n:=by
  clear hf X J O hlen
  induction es with
  |nil=>simp
  |cons e es ih=>simp[ih (fun x hx=>hl x (ω _ hx)),hl e Ψ,Nat.succ_mul];omega
 have aj:=run_buildSlice (P:=P) w t e len (parts.map fun(x:Nat×Operand)=>(x.1,Act.eval ⟨tmps,[]⟩ x.2)) cs' i z hu hi a1 (by rw[M];simp;omega) (by rw[M];exact Nat.ne_of_gt (Nat.mul_pos ai hz)) (by
  rw[M,←hf];congr 1;·rw[<-M]
  ·simp)
 refine⟨cs',aj,by rw[J.1,η,b2,hlen],J.2.1,fun k j N d hk hj=>?_⟩;have ad:=pD hl k j N d hk hj;have b3:k*I.n+j<cs'.size:=by rw[J.1,η];exact(δ.1 ad).1
 have hcd:cs'[k*I.n+j]?=some cs'[k*I.n+j]:=by simp[b3]
 have:=J.2.2 _ _ (.d d) hcd (by rw[τ,ad];rfl);generalize cs'[k*I.n+j]=u at this hcd;refine⟨u,hcd,?_⟩;cases this with|d hd=>exact hd
theorem WO.A3(m:Bool)(M:o.guard=none)(hd:fY n o.dst=true){len}(ho:o.op=.buildSlice t len parts){N:cV}(ht:bh T.l t=some td)(hk:td.k=.slice e)(he:bh T.l e=some N)(a7:nv st.f 0 parts.toList=some es)(hlen:es.length=len)(O:Nat.blt 0 N.n=true)(U:Nat.ble (len*N.n) 16777216=true)(hl:∀(x:List D),x∈es->x.length=N.n)(h:WO P C n ops Q rest (St.put {st with lv:=st.gen::st.lv,gen:=st.gen+1} o.dst (J4 m st.gen es))):WO P C n ops Q (o::rest) st:=by
 have O:=κ O;have U:=κ U;refine WO.step M fun tmps w⟨G,hs⟩=>?_;have hu:=T.gN ht hk;obtain⟨i,z,hi,hn,_,b6,ch,cj,cl,_⟩:=T.info he;rcases Nat.eq_zero_or_pos len with h0|ai
 ·subst h0
  have:es=[]:=A' hlen;subst this;have cq:parts.toList=[]:=by
   cases hp:parts.toList with
   |nil=>rfl
   |cons p r=>grind[nv]
  have aj:parts=#[]:=by cases parts;simp_all
  have hb:Below w.heap.size w (w.alloc (.cells #[] e)):=(Below.refl _ w).alloc (χ _) _;let J:Nat->Option Row:=fun g'=>if g'=st.gen then some (.zero w.heap.size)else G.own g'
  obtain⟨hle,X⟩:=hs.grow hb J (st.gen+1) (st.gen::st.lv) (Nat.le_succ _)
   (fun g r M I=>by simpa only[J,if_neg (X' M)]using I)
   (fun g r I=>by
    simp only[J]at I;split at I;·omega
    ·exact Z' (hs.gown g r I))
   (fun g M=>by
    rcases N'.1 M with rfl|M
    ·exact⟨_,by simp[J];rfl⟩
    ·obtain⟨r,I⟩:=hs.live g M
     exact⟨r,by simp only[J,if_neg (X' (hs.gown g r I))];exact I⟩)
   (fun g b b2 b3 cx b4 M I=>by
    simp only[J]at I;split at I;·cases I
    ·exact absurd (hs.gown g _ I) (by omega))
   (fun g b bs M I=>by
    simp only[J]at I;split at I;·cases I
    ·exact absurd (hs.gown g _ I) (by omega))
   (fun g b bs c lim M I=>by
    simp only[J]at I;split at I;·cases I
    ·exact absurd (hs.gown g _ I) (by omega))
  refine dE (v:=.slice (some ⟨w.heap.size,0,none⟩) 0 0) (w':=w.alloc (.cells #[] e)) ?_ ⟨_,⟨_,X.put (dp hd) ?_⟩,h⟩
  ·unfold execOp
   rw[ho,aj];show Sem.run P _ w=.ok _ _;simp[Instr.buildSlice,run_underlying hu,Go.sizeOf,typeInfo,hi,Instr.fill,newRow];congr 2;grind
  ·have fin:∀r,J st.gen=some r->Row.zero w.heap.size=r:=fun r a8=>by simpa only[J,if_true,Option.some.injEq]using a8
   cases m with
   |false=>refine .own _ _ [] ?_ (by simp[bu]) (fun r I=>fin r I▸⟨0,by simp,0,rfl⟩);exact .sl w.heap.size 0 0 0 0 [] (fun _ _=>default) rfl (χ _) (by simp[maxLen]) (by simp) (by simp) (by simp)
   |true=>exact .xs _ _ [] (by simp[bu]) rfl (fun r I=>fin r I▸⟨rfl,rfl⟩)
 ·obtain⟨cs',b5,a1,hone,a6⟩:=ly T (tmps:=tmps) hs ht hk he a7 hlen O U hl ai
  have b0:=hs.newRow m (w':=w.alloc (.cells cs' e)) (arr:=cs') (T:=e) (cap:=len) (sz:=N.n) (es:=es) ((Below.refl _ w).alloc (χ _) _) (heap_alloc_new w _) a1 hone (by omega)
   (by simp only[maxLen];have:len<=len*N.n:=Nat.le_mul_of_pos_right _ O;omega) O (by omega) hl a6 (fun _=>False) st.lv (fun g M=>⟨M,fun h=>h⟩)
  obtain⟨⟨G',_,X,ad⟩⟩:=b0;rw[hlen]at ad;refine dE (v:=.slice (some ⟨w.heap.size,0,none⟩) len len) (w':=w.alloc (.cells cs' e)) ?_ ⟨_,⟨G',X.put (dp hd) ad⟩,h⟩;unfold execOp;simp_all
theorem aG(N:o.guard=none)(hd:fY n o.dst=true){len}(O:o.op=.buildSlice t len parts){I:cV}(U:bh T.l t=some td)(X:td.k=.slice e)(he:bh T.l e=some I)(J:nv st.f 0 parts.toList=some es)(hlen:es.length=len)(hz:Nat.blt 0 I.n=true)(M:Nat.ble (len*I.n) 16777216=true)(hl:∀(x:List D),x∈es->x.length=I.n)(h:WO P C n ops Q rest (St.put {st with lv:=st.gen::st.lv,gen:=st.gen+1} o.dst (.own st.gen es))):WO P C n ops Q (o::rest) st:=
 WO.A3 T false N hd O U X he J hlen hz M hl h
theorem Pu.Ii {len} (ho:o.op=.buildSlice t len parts) (ht:bh T.l t=some td) (hk:td.k=.slice e) (he:bh T.l e=some ed) (hes:nv st.f 0 parts.toList=some es) (hlen:es.length=len) (hz:Nat.blt 0 ed.n=true) (hsm:Nat.ble (len*ed.n) 16777216=true) (hl:∀ (x:List D),x∈es→x.length=ed.n) (hpos:Nat.blt 0 len=true):Pu P C n st o (.d (.sl es)):=by
  have hz:=κ hz
  have hsm:=κ hsm
  have hpos:=κ hpos
  intro G tmps w hs
  obtain⟨cs',hrun,hcsz,hone,hget⟩:=ly T (tmps:=tmps) hs ht hk he hes hlen hz hsm hl hpos
  have hb:Below w.heap.size w (w.alloc (.cells cs' e)):=(Below.refl _ w).alloc (χ _) _
  obtain⟨hle,hs'⟩:=hs.ij hb
  refine dE (v:=.slice (some ⟨w.heap.size,0,none⟩) len len) (w':=w.alloc (.cells cs' e)) ?_ ⟨hb,.d ?_⟩
  · unfold execOp
    simp_all
  · have:=au (w:=w.alloc (.cells cs' e)) (pv:=cf C G) (b:=w.heap.size) (cap:=len) (sz:=ed.n) (es:=es) (heap_alloc_new w _) (by omega) (by simp only[maxLen];have:len≤len*ed.n:=Nat.le_mul_of_pos_right _ hz;omega) hl
      (fun t _ hp=>by have:=vG hs hp;omega) (fun k j e' d hk hj=>by obtain⟨u,h1,h2⟩:=hget k j e' d hk hj;exact⟨u,h1,h2.mono hle.cell⟩)
    rw[hlen] at this
    exact this
end
section
variable(T:cG P){n:Nat}{rest:List Oper}
theorem Pu.indexAddr{O}(ho:o.op=.indexAddr t x O){J:cV}(ht:bh T.l t=some td)(hk:td.k=.slice e)(he:bh T.l e=some J)(hx:av st.f x=some a)(U:jI a=some es){k:IntKind}{i:Int}(hi:av st.f O=some (.d (.v (.int k i))))(h0:0<=i)(hl:es[i.toNat]?=some l)(hlen:l.length=J.n):Pu P C n st o (.rowd l):=by
 refine aq fun G tmps w hs=>?_;have hu:=T.gN ht hk;have M:=jv U (hs.av hx);have I:=hs.av hi;generalize X:Act.eval ⟨tmps,[]⟩ O=vi at I;cases I with|d I=>cases I with|v _ _=>
 have N:i.toNat<es.length:=(δ.1 hl).1;generalize ad:Act.eval ⟨tmps,[]⟩ x=vx at M
 cases M with
 |nil=>simp at N
 |emp=>simp at N
 |sl b off len cap sz _ u a8 hc hm ai aj a1=>
 have a6:sz=J.n:=by rw[<-ai _ _ hl,hlen]
 subst a6;refine⟨.pointer (some ⟨b,off+i.toNat*J.n,none⟩),?_,.rowd b _ l (u i.toNat) (fun j hj=>aj _ _ (by omega) (by omega)) (fun j d hj=>a1 _ _ _ _ hl hj)⟩;unfold execOp;rw[ho];show Sem.run P _ w=.ok _ w;have a7:0<=i∧i<(len:Int):=⟨h0,by omega⟩;simp only[X,ad,Instr.indexAt,asIntOf,Sem.run_bind,Sem.run_pure,Result.andThen_ok,run_underlying hu,a7,and_self,if_true,T.sizeOf he];unfold Addr.add;grind
theorem bC{f:α->List D}{l:List α}{k:α}(h:l[i]?=some k):(l.map f)[i]?=some (f k):=by rw[τ,h];rfl
theorem Pu.cS(J:o.op=.load t x)(M:bh T.l t=some td)(N:td.k.agg=true)(O:av st.f x=some (.rowd l))(hlen:l.length=td.n):Pu P C n st o (.ag l):=by
 refine aq fun G tmps w hs=>?_;have I:=hs.av O;generalize U:Act.eval ⟨tmps,[]⟩ x=v at I
 cases I with
 |rowd b off _ u X hd=>
 obtain⟨v,h1,h2⟩:=nE (E:=bu C G st.gen w) T (t:=t) (a:=.ag l) (fun j hj=>(X j hj).1) hd (by unfold mw;rw[M];simp[N,←hlen]);refine⟨v,?_,h2⟩;rw[mA J,U];simp_all
theorem Pu.cR(M:o.op=.load t x)(N:bh T.l t=some td)(O:td.k.agg=true)(U:av st.f x=some (.ptr g 0))(hb:bh st.bx g=some (l.map A.d))(hlen:l.length=td.n):
 Pu P C n st o (.ag l):=by
 refine aq fun G tmps w hs=>?_;obtain⟨b,cs,T',h1,h2,h3,h4,h5⟩:=mL hs hb (hs.av U);have J:∀j x,l[j]?=some x->bN w (cf C G) (cs[0+j]?.getD default) x:=fun j x hj=>by
  have I:0+j<cs.size:=by rw[h3,η];have:=(δ.1 hj).1;omega
  have e:cs[0+j]?=some cs[0+j]:=by simp[I]
  have:=h5 (0+j) cs[0+j] (.d x) e (by rw[τ,Nat.zero_add,hj];rfl);rw[e];generalize cs[0+j]=u at this⊢;cases this with|d hd=>exact hd
 obtain⟨v,h6,X⟩:=nE (E:=bu C G st.gen w) T (t:=t) (a:=.ag l) (b:=b) (off:=0) (u:=fun j=>cs[0+j]?.getD default) (fun j hj=>by
  have I:0+j<cs.size:=by rw[h3,η];omega
  have e:cs[0+j]?=some cs[0+j]:=by simp[I]
  show cellAt w b (0+j)=_;rw[cP h2,e];rfl) J (by unfold mw;rw[N];simp[O,←hlen])
 refine⟨v,?_,X⟩;rw[mA M,h1];simp_all
theorem Pu.eJ{M}(U:o.op=.index t x M)(X:bh T.l t=some td)(hk:td.k=.str){s:ByteArray}(hx:av st.f x=some (.d (.v (.string s)))){k:IntKind}{i:Int}(hi:av st.f M=some (.d (.v (.int k i))))(h0:0<=i){b:UInt8}(hb:s[i.toNat]?=some b):Pu P C n st o (.d (.v (.int .u8 b.toNat))):=by
 refine aq fun G tmps w hs=>?_;have hu:=T.kr X hk;have I:=hs.av hi;have J:=hs.av hx;generalize N:Act.eval ⟨tmps,[]⟩ M=vi at I;generalize O:Act.eval ⟨tmps,[]⟩ x=vx at J;cases I with|d I=>cases I with|v _ _=>
 cases J with|d J=>cases J with|v _ _=>
 refine⟨_,?_,.d (.v _ ?_)⟩
 ·unfold execOp
  rw[U];show Sem.run P _ w=.ok _ w;simp only[N,O,Instr.index,asIntOf,Sem.run_bind,Sem.run_pure,Result.andThen_ok,run_underlying hu,h0,if_true,hb]
 ·have:=b.toNat_lt
  simp[dy,IntKind.min,IntKind.max,IntKind.signed,IntKind.bits];omega
theorem Pu.GB{lo hi}(ho:o.op=.slice t x lo hi none)(ht:bh T.l t=some td)(M:td.k=.str){s:ByteArray}(hx:av st.f x=some (.d (.v (.string s)))){l h:Int}(I:match lo with|none=>l=0|some p=>∃k,av st.f p=some (.d (.v (.int k l))))(J:match hi with|none=>h=s.size|some p=>∃k,av st.f p=some (.d (.v (.int k h))))(h0:0<=l)(h1:l<=h)(h2:h<=s.size):Pu P C n st o (.d (.v (.string (s.extract l.toNat h.toNat)))):=by
 refine aq fun G tmps w hs=>?_;have hu:=T.kr ht M;have N:=hs.av hx;generalize O:Act.eval ⟨tmps,[]⟩ x=vx at N;cases N with|d N=>cases N with|v _ hok=>
 have U:∀(p:Operand)(m:Int),(∃k,av st.f p=some (.d (.v (.int k m))))->∃k,Act.eval ⟨tmps,[]⟩ p=.int k m:=by intro p m ⟨k,hp⟩;have:=hs.av hp;generalize Act.eval ⟨tmps,[]⟩ p=v at this⊢;cases this with|d hd=>cases hd;exact⟨k,rfl⟩
 refine⟨.string (s.extract l.toNat h.toNat),?_,.d (.v _ ?_)⟩
 ·unfold execOp
  rw[ho];show Sem.run P _ w=.ok _ w;cases lo<;>cases hi<;>simp only at I J
  ·subst I;subst J
   simp[O,Instr.sliceAt,Instr.slice,Instr.sliceBounds,run_underlying hu]
  ·subst I
   obtain⟨k,M⟩:=U _ _ J;simp[O,M,Instr.sliceAt,Instr.slice,Instr.sliceBounds,Instr.sliceBound,asIntOf,run_underlying hu,h1,h2]
  ·subst J
   obtain⟨k,M⟩:=U _ _ I;simp[O,M,Instr.sliceAt,Instr.slice,Instr.sliceBounds,Instr.sliceBound,asIntOf,run_underlying hu,h0,h1]
  ·obtain⟨k,M⟩:=U _ _ I
   obtain⟨k',X⟩:=U _ _ J;have e:l<=((h.toNat:Nat):Int):=by omega
   have e2:0<=h:=by omega
   simp[O,M,X,Instr.sliceAt,Instr.slice,Instr.sliceBounds,Instr.sliceBound,asIntOf,run_underlying hu,h0,h1,h2,e,e2];grind
 ·grind[dy,ByteArray.size_extract]
theorem bN.part{v}(h:bN w pv v (.sl es)){l}(h1:l<=m)(h2:m<=es.length)(hu:P.underlying t=some (.slice e))(ai:(sizeOf e).run P w=.ok sz w)(hl:∀(x:List D),x∈es->x.length=sz):∃a cap,v=.slice a es.length cap∧es.length<=cap∧
  bN w pv (.slice (if cap=l then a else a.map (·.add (l*sz))) (m-l) (cap-l)) (.sl ((es.take m).drop l)):=by
 cases h with
 |nil=>
   have:l=0:=by simp at h2;omega
   subst this;have:m=0:=by simpa using h2
   subst this;exact⟨none,0,rfl,χ _,by simpa using bN.nil⟩
 |emp a cap hm=>
   have:m=0:=by simpa using h2
   subst this;have:l=0:=by omega
   subst this;refine⟨some a,cap,rfl,ς _,?_⟩;have M:(if cap=0 then some a else(some a).map (·.add (0*sz)))=some a:=by
    split;·rfl
    ·simp[Addr.add]
   rw[M];exact .emp a cap hm
 |sl b off len cap J _ u hlen hc hm hs X hr=>
   subst hlen;refine⟨some ⟨b,off,none⟩,cap,rfl,hc,?_⟩;have O:((es.take m).drop l).length=m-l:=by simp;omega
   by_cases hz:es=[]
   ·subst hz
    have:m=0:=by simpa using h2
    subst this;have:l=0:=by omega
    subst this;have M:(if cap=0 then some (⟨b,off,none⟩:Addr)else(some (⟨b,off,none⟩:Addr)).map (·.add (0*sz)))=some ⟨b,off,none⟩:=by
     split;·rfl
     ·simp[Addr.add]
    rw[M];exact .sl b off 0 cap 0 [] (fun _ _=>default) rfl (ς _) hm (by simp) (by simp) (by simp)
   ·obtain⟨x0,U⟩:∃x0,es[0]?=some x0:=⟨es[0]'(by cases es;exact absurd rfl hz;simp),by simp⟩
    have ad:J=sz:=by rw[<-hs 0 x0 U];exact hl x0 (ζ U)
    subst ad;have M:∃I,(if cap=l then some (⟨b,off,none⟩:Addr)else(some (⟨b,off,none⟩:Addr)).map (·.add (l*J)))=some ⟨b,I,none⟩∧(m-l≠0->I=off+l*J):=by
     split;·grind
     ·refine⟨off+l*J,?_,fun _=>rfl⟩
      simp only[Option.map_some,Addr.add];grind
    obtain⟨I,M,e2⟩:=M;rw[M];have N:∀i x,((es.take m).drop l)[i]?=some x->es[l+i]?=some x:=by grind
    refine .sl b I (m-l) (cap-l) J _ (fun i j=>u (l+i) j) O (by omega) (by omega) (fun i x hx=>hs _ _ (N i x hx)) (fun i j hi hj=>?_) (fun i j x d hi hj=>hr _ _ _ _ (N i x hi) hj);have:=X (l+i) j (by omega) hj;grind
theorem Pu.IJ{lo hi}(ho:o.op=.slice t x lo hi none){X:cV}(ht:bh T.l t=some td)(M:td.k=.slice e)(he:bh T.l e=some X)(hx:av st.f x=some a)(ai:jI a=some es){l h:Int}(I:match lo with|none=>l=0|some p=>∃k,av st.f p=some (.d (.v (.int k l))))(J:match hi with|none=>h=es.length|some p=>∃k,av st.f p=some (.d (.v (.int k h))))(h0:0<=l)(h1:l<=h)(h2:h<=es.length)(hl:∀(x:List D),x∈es->x.length=X.n):Pu P C n st o (.d (.sl ((es.take h.toNat).drop l.toNat))):=by
 refine aq fun G tmps w hs=>?_;have hu:=T.gN ht M;have aj:=jv ai (hs.av hx);obtain⟨ad,cap,U,hc,hr⟩:=aj.part (l:=l.toNat) (m:=h.toNat) (by omega) (by omega) hu (T.sizeOf he w) hl;have N:∀(p:Operand)(m:Int),(∃k,av st.f p=some (.d (.v (.int k m))))->∃k,Act.eval ⟨tmps,[]⟩ p=.int k m:=by intro p m ⟨k,hp⟩;have:=hs.av hp;generalize Act.eval ⟨tmps,[]⟩ p=v at this⊢;cases this with|d hd=>cases hd;exact⟨k,rfl⟩
 refine⟨_,?_,.d hr⟩;unfold execOp;rw[ho];show Sem.run P _ w=.ok _ w;have O:h<=(cap:Int):=by omega
 cases lo<;>cases hi<;>simp only at I J
 ·subst I;subst J
  simp[U,Instr.sliceAt,Instr.slice,Instr.sliceBounds,run_underlying hu,T.sizeOf he]
 ·subst I
  obtain⟨k,M⟩:=N _ _ J;simp[U,M,Instr.sliceAt,Instr.slice,Instr.sliceBounds,Instr.sliceBound,asIntOf,run_underlying hu,h1,O,T.sizeOf he]
 ·subst J
  obtain⟨k,M⟩:=N _ _ I;simp[U,M,Instr.sliceAt,Instr.slice,Instr.sliceBounds,Instr.sliceBound,asIntOf,run_underlying hu,h0,h1,T.sizeOf he]
 ·obtain⟨k,M⟩:=N _ _ I
  obtain⟨k',a1⟩:=N _ _ J;have e:l<=((h.toNat:Nat):Int):=by omega
  have e2:0<=h:=by omega
  simp[U,M,a1,Instr.sliceAt,Instr.slice,Instr.sliceBounds,Instr.sliceBound,asIntOf,run_underlying hu,h0,h1,O,e,e2,T.sizeOf he];grind
end
def iX:Nat->List A->List (Nat×A)
 |_,[]=>[]
 |k,a::l=>(k,a)::iX (k+1) l
def wK(f:List (Nat×A)):List Nat->Option (List A)
 |[]=>some []
 |t::r=>match look f t,wK f r with
   |some a,some l=>some (a::l)
   |_,_=>none
def bM:List A->A
 |[a]=>a
 |l=>.tup l
def nk:List Value->Value
 |[v]=>v
 |l=>.tuple l.toArray
def QF(ts:List Nat)(r:A)(k:Nat):Exit->St->Prop:=fun e st=>(match e with|.normal=>True|.ret=>True|_=>False)∧∃l order,wK st.f ts=some l∧norm order (bM l)=r∧order.length=k∧order.Nodup∧∀g∈order,g∈st.lv
theorem gX:∀(l:List A)(k t:Nat)(a:A),look (iX k l) t=some a->k<=t∧l[t-k]?=some a
 |[],_,_,_,h=>by simp[iX,look]at h
 |b::l,k,t,a,h=>by
   simp only[iX,ct]at h;split at h;·grind
   ·rename_i e
    obtain⟨h1,h2⟩:=gX l (k+1) t a h;grind
theorem yn:∀{ts:List Nat}{l:List A},wK f ts=some l->l.length=ts.length∧∀(i:Nat)(t:Nat),ts[i]?=some t->∃a,l[i]?=some a∧look f t=some a
 |[],l,h=>by simp only[wK,Option.some.injEq]at h;subst h;simp
 |t::ts,l,h=>by
   simp only[wK]at h;split at h
   ·rename_i a l' I hl
    simp only[Option.some.injEq]at h;subst h;obtain⟨h1,h2⟩:=yn hl;grind
   ·grind
theorem AD{ts:List Nat}(h:fn.results=(ts.map ResultVar.tmp).toArray)(hl:ts.length<=5)(tmps:Array Value)(w):
 (results fn tmps).run P w=.ok (nk (ts.map fun t=>tmps.getD t undef)) w:=by
 unfold results;rw[h]
 match ts,hl with
 |[],_=>simp[nk]
 |[a],_=>simp[nk]
 |[a,b],_=>simp[nk]
 |[a,b,c],_=>simp[nk]
 |[a,b,c,d],_=>simp[nk]
 |[a,b,c,d,e],_=>simp[nk]
 |_::_::_::_::_::_::_,h=>simp at h
theorem l7{vs:List Value}{l:List A}(hs:vs.length=l.length)(h:∀(i:Nat)(u:Value)(a:A),vs[i]?=some u->l[i]?=some a->bK E u a):bK E (nk vs) (bM l):=by
 match vs,l,hs with
 |[v],[a],_=>exact h 0 v a (by simp) (by simp)
 |[],[],_=>exact .tup #[] [] rfl (by simp)
 |v::v2::vs,a::a2::l,hs=>refine .tup _ _ (by simpa using hs) (fun i u x hu I=>h i u x ?_ I);grind
theorem bm.bW[dw P]{f c}{ts:List Nat}{n r}(hf:P.funcs[f]?=some fn)(b3:(fn.name== "runtime.NumGoroutine")=false)(hb:fn.body=some c)(hn:fn.ntmps=n)(J:fn.results=(ts.map ResultVar.tmp).toArray)(cy:Nat.ble ts.length 5=true)(hlen:Nat.ble args.length n=true)(h:∀C,NB C 0->GC P C->W P C n c (QF ts r k) ⟨iX 0 args,[],[],0⟩):bm P f args r k:=by
 have hlen:=κ hlen;refine⟨⟨fn,hf,b3,by rw[hb];rfl⟩,fun C O w hG hw hp hx ei cj=>?_⟩;subst hw;refine calls_of_wp hf hb (wp_mono (ru hp.2.2.2 (h C ⟨by rw[hp.2.2.1];rfl⟩ hG (O++Array.replicate (fn.ntmps-O.size) undef) C.w0 ⟨G0,?_⟩)) ?_)
 ·refine{size:=by simp[hn];omega,frame:=fun t a ha=>?_,box:=fun g cells hc=>by simp[bh]at hc,gbox:=fun g b hb=>by simp[G0]at hb,inj:=fun g M b hb=>by simp[G0]at hb,
           live:=fun g hg=>by simp at hg,gown:=fun g r J=>by simp[G0]at J,row:=fun g b len cap sz ai J=>by simp[G0]at J,mrow:=fun g b bs J=>by simp[G0]at J,sub:=fun g b bs c lim J=>by simp[G0]at J,gcell:=fun g b hb=>by simp[G0]at hb,xold:=fun b o hb=>⟨hx b o hb,hp.1 b⟩,kold:=fun b o hb=>absurd hb (hp.2.1 b o),lent:=fun i b hb=>by rw[hp.2.2.1]at hb;simp at hb,
           fr:=⟨rfl,rfl,rfl,χ _,fun _ _ _=>rfl,fun _ _ _ hb=>absurd hb (hp.2.1 _ _),eZ.refl _⟩}
  obtain⟨_,h1⟩:=gX args 0 t a ha;have h2:t<args.length:=(δ.1 (by simpa using h1)).1;have h3:t<O.size:=by omega
  have h4:O[t]?=some O[t]:=by simp[h3]
  exact⟨O[t],by rw[Array.getElem?_append_left h3];exact h4,cj t _ a h4 (by simpa using h1)⟩
 ·rintro e ⟨tmps,df⟩ w' ⟨hd,st,⟨G,hs⟩,he,l,order,hl,c1,b4,a8,c6⟩
  have a7:∃v,(results fn tmps).run P w'=.ok v w'∧∃b5 G',Ending.returned v=.returned b5∧bq C 0 ⟨[],[],List.range k,k⟩ G' #[] w'∧bK (bu C G' k w') b5 r:=by
   refine⟨_,AD J (κ cy) tmps w',_,⟨fun _=>none,fun i=>if i<k then(order[i]?).bind G.own else none⟩,rfl,?_,?_⟩
   ·refine{size:=rfl,frame:=fun t a ha=>by simp[look]at ha,box:=fun g cells hc=>by simp[bh]at hc,gbox:=fun g b hb=>by simp at hb,inj:=fun g M b hb=>by simp at hb,
             live:=fun g hg=>?_,gown:=fun g r J=>?_,row:=fun g b len cap sz ai J=>?_,mrow:=fun g b bs J=>?_,sub:=fun g b bs c lim J hm=>?_,gcell:=fun g b hb=>(by cases hb),xold:=hs.xold,kold:=hs.kold,lent:=fun i b hb=>by rw[hp.2.2.1]at hb;simp at hb,fr:=hs.fr}
    ·have c7:g<k:=by simpa using hg
     have b6:g<order.length:=by omega
     obtain⟨r',I⟩:=hs.live order[g] (c6 _ (List.getElem_mem b6));exact⟨r',by simp[c7,b6,I]⟩
    ·dsimp only at J
     split at J;·assumption
     ·cases J
    ·dsimp only at J
     split at J
     ·rename_i ch
      obtain⟨g0,aj,N⟩:=ξ.1 J;obtain⟨h1,h2,h3,h4⟩:=hs.row g0 b len cap sz ai N;refine⟨h1,fun M=>by simp,fun M cl cq di cx I=>?_,h4⟩;dsimp only at I;split at I
      ·obtain⟨g1,ad,X⟩:=ξ.1 I
       have e:=h3 g1 cl cq di cx X;subst e;obtain⟨i1,e1⟩:=δ.1 aj;obtain⟨i2,e2⟩:=δ.1 ad;have U:=List.pairwise_iff_getElem.1 a8;rcases Nat.lt_trichotomy M g with a1|heq|a6
       ·exact absurd (e2.trans e1.symm) (U M g i2 i1 a1)
       ·exact heq
       ·exact absurd (e1.trans e2.symm) (U g M i1 i2 a6)
      ·cases I
     ·cases J
    ·dsimp only at J
     split at J
     ·rename_i ch
      obtain⟨g0,aj,N⟩:=ξ.1 J;obtain⟨h1,_,h3,h4⟩:=hs.mrow g0 b bs N;refine⟨h1,fun M=>by simp,fun M bs' I=>?_,h4⟩;dsimp only at I;split at I
      ·obtain⟨g1,ad,X⟩:=ξ.1 I
       have e:=h3 g1 bs' X;subst e;obtain⟨i1,e1⟩:=δ.1 aj;obtain⟨i2,e2⟩:=δ.1 ad;have U:=List.pairwise_iff_getElem.1 a8;rcases Nat.lt_trichotomy M g with a1|heq|a6
       ·exact absurd (e2.trans e1.symm) (U M g i2 i1 a1)
       ·exact heq
       ·exact absurd (e1.trans e2.symm) (U g M i1 i2 a6)
      ·cases I
     ·cases J
    ·dsimp only at J
     split at J
     ·rename_i ch
      obtain⟨g0,aj,N⟩:=ξ.1 J;obtain⟨h1,_,h3,h4,h5⟩:=hs.sub g0 b bs c lim N hm;refine⟨h1,fun M=>by simp,fun M len cap sz ai I=>?_,fun M b' bs' ed I dj=>?_,h5⟩
      ·dsimp only at I
       split at I
       ·obtain⟨g1,ad,X⟩:=ξ.1 I
        exact h3 g1 _ _ _ _ X
       ·cases I
      ·dsimp only at I
       split at I
       ·obtain⟨g1,ad,X⟩:=ξ.1 I
        obtain⟨e,e0⟩:=h4 g1 _ _ _ X dj;subst e;refine⟨?_,e0⟩;obtain⟨i1,e1⟩:=δ.1 aj;obtain⟨i2,e2⟩:=δ.1 ad;have U:=List.pairwise_iff_getElem.1 a8;rcases Nat.lt_trichotomy M g with a1|heq|a6
        ·exact absurd (e2.trans e1.symm) (U M g i2 i1 a1)
        ·exact heq
        ·exact absurd (e1.trans e2.symm) (U g M i1 i2 a6)
       ·cases I
     ·cases J
   ·obtain⟨dt,dx⟩:=yn hl
    rw[<-c1];refine aA (order:=order) (E:=bu C G st.gen w') (E2:=bu C ⟨fun _=>none,fun i=>if i<k then(order[i]?).bind G.own else none⟩ k w') (fun b o u hu hn=>⟨hu,fun hp=>hn ?_⟩) (fun g r' hg I=>?_) (by simp[bu,b4]) (l7 (vs:=ts.map fun t=>tmps.getD t undef) (by rw[η,dt]) (fun i u a hu ha=>?_))
    ·rcases(hp:cf C ⟨fun _=>none,fun i=>if i<k then(order[i]?).bind G.own else none⟩ b o)with hp|⟨g,hp⟩|⟨g,len,cap,sz,ai,hp,hle⟩|⟨g,b',bs,lim,hp,hm,hle⟩
     ·exact Or.inl hp
     ·cases hp
     ·simp only at hp
      split at hp
      ·obtain⟨g0,_,N⟩:=ξ.1 hp
       exact Or.inr (Or.inr (.inl ⟨g0,len,cap,sz,ai,N,hle⟩))
      ·cases hp
     ·simp only at hp
      split at hp
      ·obtain⟨g0,_,N⟩:=ξ.1 hp
       exact Or.inr (Or.inr (.inr ⟨g0,b',bs,lim,N,hm,hle⟩))
      ·cases hp
    ·have b0:(if order.idxOf g<k then(order[order.idxOf g]?).bind G.own else none)=some r':=I
     rw[if_pos (by rw[<-b4];exact j6 hg)]at b0;have:order[order.idxOf g]?=some g:=by rw[δ];exact⟨j6 hg,List.getElem_idxOf (j6 hg)⟩
     rw[this]at b0;exact b0
    ·simp only[τ,ν]at hu
     obtain⟨t,ht,rfl⟩:=hu;obtain⟨a',b2,ec⟩:=dx i t ht;rw[ha]at b2;simp only[Option.some.injEq]at b2;subst b2;obtain⟨v,hv,I⟩:=hs.frame t a ec;simpa[hv]using I
  cases e with
  |normal=>exact⟨hd.trans hp.2.2.2,a7⟩
  |ret=>exact⟨hd.trans hp.2.2.2,a7⟩
  |exit _=>exact he.elim
  |goto _=>exact he.elim
  |panic _=>exact he.elim
  |outgrown=>exact he.elim
theorem QF.bl{ts r e l}(he:match e with|.normal=>True|.ret=>True|_=>False)(hl:wK st.f ts=some l)(I:norm [] (bM l)=r):QF ts r 0 e st:=
 ⟨he,l,[],hl,I,rfl,List.nodup_nil,by simp⟩
section
variable(T:cG P){n:Nat}{rest:List Oper}
variable{bx:List (Nat×List A)}{op:Op}{pos:String}{af:Array Edge}
theorem ev(h:kA T f bx op=some a):Pu P C n ⟨f,bx,lv,gen⟩ ⟨dst,op,ty,pos,af,none⟩ a:=Pu.ev (st:=⟨f,bx,lv,gen⟩) T h
theorem pu(hp:Pu P C n ⟨f,bx,lv,gen⟩ ⟨some d,op,ty,pos,af,none⟩ a)(hd:Nat.blt d n=true)(h:WO P C n ops Q rest ⟨(d,a)::f,bx,lv,gen⟩):WO P C n ops Q (⟨some d,op,ty,pos,af,none⟩::rest) ⟨f,bx,lv,gen⟩:=
 WO.pu rfl hd hp h
theorem bE(hj:gL ops j=some e)(hl:look f e=some (.d (.v (.bool want))))(h:WO P C n ops Q (⟨dst,op,ty,pos,af,none⟩::rest) ⟨f,bx,lv,gen⟩):WO P C n ops Q (⟨dst,op,ty,pos,af,some (j,want)⟩::rest) ⟨f,bx,lv,gen⟩:=
 WO.go (st:=⟨f,bx,lv,gen⟩) rfl hj hl h
theorem oh{b}(hj:gL ops j=some e)(hl:look f e=some (.d (.v (.bool b))))(I:b=true->WO P C n ops Q (⟨dst,op,ty,pos,af,some (j,want)⟩::rest) ⟨(e,.d (.v (.bool true)))::f,bx,lv,gen⟩)(J:b=false->WO P C n ops Q (⟨dst,op,ty,pos,af,some (j,want)⟩::rest) ⟨(e,.d (.v (.bool false)))::f,bx,lv,gen⟩):WO P C n ops Q (⟨dst,op,ty,pos,af,some (j,want)⟩::rest) ⟨f,bx,lv,gen⟩:=
 WO.split (st:=⟨f,bx,lv,gen⟩) hl I J
theorem cz{e l}(I:av f x=some a)(J:cellsOf bx a=some l)(hd:Nat.blt d n=true)(h:WO P C n ops Q rest ⟨(d,.ptr gen 0)::f,(gen,l)::bx,lv,gen+1⟩):
 WO P C n ops Q (⟨some d,.box e x,ty,pos,af,none⟩::rest) ⟨f,bx,lv,gen⟩:=WO.box (st:=⟨f,bx,lv,gen⟩) rfl hd rfl I J h
theorem b9{e}{I:cV}{l}(he:bh T.l e=some I)(hl:(I.z.map fun v=>A.d (.v v))=l)(hd:Nat.blt d n=true)(h:WO P C n ops Q rest ⟨(d,.ptr gen 0)::f,(gen,l)::bx,lv,gen+1⟩):
 WO P C n ops Q (⟨some d,.alloc e,ty,pos,af,none⟩::rest) ⟨f,bx,lv,gen⟩:=by
 subst hl;exact WO.alloc (st:=⟨f,bx,lv,gen⟩) T rfl hd rfl he h
theorem bt{t}{cs:List A}(J:av f x=some (.ptr g off))(hb:bh bx g=some cells)(M:av f y=some a)(N:cellsOf bx a=some cs)(I:eW T t=cs.length)(O:Nat.blt 0 cs.length=true)(hle:Nat.ble (off+cs.length) cells.length=true)(hs:setAt cells off cs=cells')(h:WO P C n ops Q rest ⟨f,(g,cells')::bx,lv,gen⟩):WO P C n ops Q (⟨none,.store t x y,ty,pos,af,none⟩::rest) ⟨f,bx,lv,gen⟩:=by
 subst hs;exact WO.store (st:=⟨f,bx,lv,gen⟩) T rfl rfl rfl J hb M N I (by have:=κ O;omega) hle h
theorem bk[dw P][GC P C]{J I}(O:av f x=some (.clo fid caps))(N:kJ f xs.toList=some I)(M:(I++caps).map (conv bx 5)=args)(U:bm P fid args a 0)(X:eM a=true):
 Pu P C n ⟨f,bx,lv,gen⟩ ⟨dst,.call ⟨.value x,xs,J⟩,ty,pos,af,none⟩ a:=by
 grind[Pu.call]
theorem wT{I:cV}{b}(O:av f x=some (.own g es))(U:av f y=some b)(J:jI b=some es2)(X:bh T.l t=some td)(hk:td.k=.slice e)(he:bh T.l e=some I)(M:g∈lv)(hz:Nat.blt 0 I.n=true)(N:Nat.blt 0 I.b=true)(hd:Nat.blt d n=true)(hl:∀(x:List D),x∈es++es2->x.length=I.n)(hb:(es.length+es2.length)*I.b<=140737488355328)(h:WO P C n ops Q rest ⟨(d,.own gen (es++es2))::f,bx,gen::bR lv g,gen+1⟩):WO P C n ops Q (⟨some d,.call ⟨.builtin .append,#[x,y],#[t,t]⟩,ty,pos,af,none⟩::rest) ⟨f,bx,lv,gen⟩:=
 aR (st:=⟨f,bx,lv,gen⟩) T rfl hd rfl X hk he O M U J hz N hl hb h
theorem build{I:cV}{J}(M:bh T.l t=some I)(N:I.k=.st J)(O:oR bx f (sy T J) parts.toList (I.z.map fun v=>.d (.v v))=some cells)(U:my cells=a):
 Pu P C n ⟨f,bx,lv,gen⟩ ⟨dst,.build t parts,ty,pos,af,none⟩ a:=Pu.build (st:=⟨f,bx,lv,gen⟩) T rfl M N O U
theorem cS(I:bh T.l t=some td)(J:td.k.agg=true)(M:av f x=some (.rowd l))(hlen:l.length=td.n):Pu P C n ⟨f,bx,lv,gen⟩ ⟨dst,.load t x,ty,pos,af,none⟩ (.ag l):=
 Pu.cS (st:=⟨f,bx,lv,gen⟩) T rfl I J M hlen
theorem cR(I:bh T.l t=some td)(J:td.k.agg=true)(M:av f x=some (.ptr g 0))(hb:bh bx g=some (l.map A.d))(hlen:l.length=td.n):Pu P C n ⟨f,bx,lv,gen⟩ ⟨dst,.load t x,ty,pos,af,none⟩ (.ag l):=
 Pu.cR (st:=⟨f,bx,lv,gen⟩) T rfl I J M hb hlen
theorem indexAddr{I}{J:cV}{k:IntKind}{i:Int}(N:av f x=some a)(M:jI a=some es)(hi:av f I=some (.d (.v (.int k i))))(O:bh T.l t=some td)(U:td.k=.slice e)(he:bh T.l e=some J)(h0:0<=i)(hl:es[i.toNat]?=some l)(hlen:l.length=J.n):Pu P C n ⟨f,bx,lv,gen⟩ ⟨dst,.indexAddr t x I,ty,pos,af,none⟩ (.rowd l):=
 Pu.indexAddr (st:=⟨f,bx,lv,gen⟩) T rfl O U he N M hi h0 hl hlen
theorem eJ{I}{s:ByteArray}{k:IntKind}{i:Int}{b:UInt8}(J:av f x=some (.d (.v (.string s))))(hi:av f I=some (.d (.v (.int k i))))(M:bh T.l t=some td)(N:td.k=.str)(h0:0<=i)(hb:s[i.toNat]?=some b):
 Pu P C n ⟨f,bx,lv,gen⟩ ⟨dst,.index t x I,ty,pos,af,none⟩ (.d (.v (.int .u8 b.toNat))):=Pu.eJ (st:=⟨f,bx,lv,gen⟩) T rfl M N J hi h0 hb
theorem qs{y}(h:W P C n y Q st):QS P C n y Q .normal st:=h
theorem be{y}(h:Q .ret st):QS P C n y Q .ret st:=h
theorem bP{y}(h:Q (.exit id) st):QS P C n y Q (.exit id) st:=h
theorem bX(h:Q .normal st):QB id Q .normal st:=h
theorem bw(h:Q .ret st):QB id Q .ret st:=h
theorem bO(h:Q .normal st):QB id Q (.exit id) st:=by simp[QB];exact h
theorem A7(I:Nat.beq i id=false)(h:Q (.exit i) st):QB id Q (.exit i) st:=by simp only[QB];rw[if_neg (fun e=>by subst e;simp at I)];grind
theorem cE{I}(h:Q .ret st):QL I m Q .ret st:=h
theorem bQ{I}(h:Q (.exit i) st):QL I m Q (.exit i) st:=h
end
def Sub(f:List (Nat×A)):List (Nat×A)->Prop
 |[]=>True
 |(t,a)::r=>look f t=some a∧Sub f r
theorem Sub.le{f:List (Nat×A)}:∀{f':List (Nat×A)},Sub f f'->∀t a,look f' t=some a->look f t=some a
 |[],_,t,a,h=>by simp[look]at h
 |(s,b)::r,hs,t,a,h=>by
   rw[ct]at h;split at h
   ·rename_i e
    subst e;simp only[Option.some.injEq]at h;subst h;exact hs.1
   ·exact Sub.le hs.2 t a h
def pG(bx:List (Nat×List A)):List (Nat×List A)->Prop
 |[]=>True
 |(t,a)::r=>bh bx t=some a∧pG bx r
theorem pG.le{f}:∀{f':List (Nat×List A)},pG f f'->∀t a,bh f' t=some a->bh f t=some a
 |[],_,t,a,h=>by simp[bh]at h
 |(s,b)::r,hs,t,a,h=>by
   rw[cZ]at h;split at h
   ·rename_i e
    subst e;simp only[Option.some.injEq]at h;subst h;exact hs.1
   ·exact pG.le hs.2 t a h
section
variable{P:Program}{C:Ctx}{n:Nat}{Q:Exit→St→Prop}{c:Code}
variable{f f':List (Nat×A)}{bx bx':List (Nat×List A)}{lv lv':List Nat}{gen gen':Nat}
theorem bq.later{st:St}{G:Gh}{tmps:Array Value}{w:World}(h:bq C n st G tmps w){g:Nat}(M:st.gen<=g):bq C n {st with gen:=g} G tmps w:=by
 have hle:(bu C G st.gen w).le (bu C G g w):=⟨fun _ _ _ h J=>⟨h,J⟩,fun _ _ _ h J=>⟨h,J⟩,fun _ _ h=>h,fun _ _ _ h=>h,M,fun _ _ _ _ _ _ _ _=>rfl,fun _ _ _ _ _=>⟨fun _ _=>rfl,fun _ _=>rfl⟩,.refl w⟩;refine{h with frame:=h.fz hle,box:=fun I c N=>?_,gbox:=fun I b hb=>?_,gown:=fun I r O=>ρ (h.gown I r O) M}
 ·obtain⟨b,cs,T,h1,h2,h3,h4,h5⟩:=h.box I c N
  exact⟨b,cs,T,h1,h2,h3,h4,fun i u a hu U=>(h5 i u a hu U).mono hle⟩
 ·obtain⟨h1,h2⟩:=h.gbox I b hb
  grind
theorem bq.ek{G:Gh}{tmps:Array Value}{w:World}(h:bq C n ⟨f,bx,lv,gen⟩ G tmps w)(I:Sub f f')(hb:pG bx bx')(hl:∀g∈lv',g∈lv)(J:gen<=gen'):bq C n ⟨f',bx',lv',gen'⟩ G tmps w:=
 bq.later (st:=⟨f',bx',lv',gen⟩) (h.weaken ⟨I.le,hb.le,hl,rfl⟩) J
theorem W.ek(I:Sub f f')(hb:pG bx bx')(hl:∀g∈lv',g∈lv)(J:gen<=gen')(hw:W P C n c Q ⟨f',bx',lv',gen'⟩):W P C n c Q ⟨f,bx,lv,gen⟩:=
 fun tmps w⟨G,hs⟩=>hw tmps w ⟨G,hs.ek I hb hl J⟩
theorem W.len{t:Nat}{a:A}{es:List (List D)}(hl:look f t=some a)(hs:jI a=some es)(h:es.length<=maxLen->W P C n c Q ⟨f,bx,lv,gen⟩):W P C n c Q ⟨f,bx,lv,gen⟩:=by intro tmps w ⟨G,I⟩;obtain⟨v,_,J⟩:=I.frame _ _ hl;exact h (jv hs J).len.choose_spec.choose_spec.2 tmps w ⟨G,I⟩
theorem W.lj{t:Nat}{v:Value}(hl:look f t=some (.d (.v v)))(h:dy v=true->W P C n c Q ⟨f,bx,lv,gen⟩):W P C n c Q ⟨f,bx,lv,gen⟩:=by
 intro tmps w ⟨G,J⟩;obtain⟨u,_,I⟩:=J.frame _ _ hl;cases I with|d I=>cases I with|v _ M=>
 exact h M tmps w ⟨G,J⟩
end
theorem wrap64{x:Int}(h:-9223372036854775808<=x∧x<=9223372036854775807):IntKind.i64.wrap x=x:=IntWalk.i64_in x h
theorem Gs{k n:Nat}(h:k<n)(I:n<=maxLen):IntKind.i64.wrap ((k:Int)+1)=((k+1:Nat):Int):=by simp only[maxLen]at I;grind[wrap64]
theorem bF{k n:Nat}(h:k<n)(I:n<=maxLen):some (A.d (.v (.int .i64 (IntKind.i64.wrap ((k:Int)+1)))))=some (A.d (.v (.int .i64 ((k+1:Nat):Int)))):=by rw[Gs h I]
open Go.RowKit Go.WideShapes Go.ChangeShapes Go.ChangeAt
section
variable(T:cG P)
inductive de:Nat->List D->Prop
 |int {t:Nat} {k:IntKind} (n:Int) (h:cY T t=.int k) (ho:dy (.int k n)=true):de t [.v (.int k n)]
 |bool {t:Nat} (b:Bool) (h:cY T t=.bool):de t [.v (.bool b)]
 |str {t:Nat} (s:ByteArray) (h:cY T t=.str) (ho:s.size<=maxLen):de t [.v (.string s)]
 |slice {t e:Nat} (es:List (List D)) (h:cY T t=.slice e) (hc:∀x∈es,de e x) (hl:es.length<=reachBytes):de t [.sl es]
 |st {t:Nat} {fs:List (Nat×Nat×String)} (parts:List (List D)) (h:cY T t=.st fs) (hl:parts.length=fs.length)
  (hc:∀(i:Nat)(o ft:Nat)(nm:String)(p:List D),fs[i]?=some (o,ft,nm)->parts[i]?=some p->de ft p):de t parts.flatten
variable{T}
theorem de.toInt{k:IntKind}(h:de T t l)(J:cY T t=.int k):∃n,l=[.v (.int k n)]∧dy (.int k n)=true:=by
 cases h<;>rename_i I _<;>first|(rw[J]at I;cases I;exact⟨_,rfl,by assumption⟩)|skip
 all_goals simp_all
theorem de.toBool(h:de T t l)(I:cY T t=.bool):∃b,l=[.v (.bool b)]:=by cases h<;>first|exact⟨_,rfl⟩|simp_all
theorem de.toStr(h:de T t l)(I:cY T t=.str):∃s,l=[.v (.string s)]∧s.size<=maxLen:=by cases h<;>first|exact⟨_,rfl,by assumption⟩|simp_all
theorem de.zf(h:de T t l)(I:cY T t=.slice e):∃es,l=[.sl es]∧(∀x∈es,de T e x)∧es.length<=reachBytes:=by
 cases h with
 |slice es h J hl=>rw[I]at h;cases h;exact⟨es,rfl,J,hl⟩
 |_=>simp_all
theorem de.toSlice(h:de T t l)(I:cY T t=.slice e):∃es,l=[.sl es]∧(∀x∈es,de T e x)∧es.length<=maxLen:=
 let⟨es,h1,h2,h3⟩:=h.zf I
 ⟨es,h1,h2,Y' h3 (by decide)⟩
theorem de.CP{I:List (Nat×Nat×String)}(h:de T t l)(M:cY T t=.st I):∃parts:List (List D),l=parts.flatten∧parts.length=I.length∧
 ∀(i:Nat)(o J:Nat)(nm:String)(p:List D),I[i]?=some (o,J,nm)->parts[i]?=some p->de T J p:=by
 cases h with
 |st parts h hl N=>rw[M]at h;cases h;exact⟨parts,rfl,hl,N⟩
 |_=>simp_all
variable(T)
def sq:Nat->List (Nat×Nat×String)->Bool
 |_,[]=>true
 |o,(o',ft,_)::r=>o==o'&&sq (o+eW T ft) r
def sN:List (Nat×Nat×String)->Nat
 |[]=>0
 |(_,ft,_)::r=>eW T ft+sN r
def ye(gs:List Nat):Bool:=gs.all fun t=>(bh T.l t).isSome&&match cY T t with
 |.int _|.bool|.str=>true
 |.slice e=>gs.contains e&&Nat.blt 0 (eW T e)
 |.st I=>I.all (fun x=>gs.contains x.2.1)&&sq T 0 I&&sN T I==eW T t
 |_=>false
theorem pk(h:ye T gs=true)(J:t∈gs):∃d,bh T.l t=some d∧d.k=cY T t∧(match cY T t with
 |.int _|.bool|.str=>true
 |.slice e=>gs.contains e&&Nat.blt 0 (eW T e)
 |.st I=>I.all (fun x=>gs.contains x.2.1)&&sq T 0 I&&sN T I==eW T t
 |_=>false)=true:=by
 have:=I'.1 h t J;simp only[μ]at this;grind[Option.isSome_iff_exists,cY]
theorem rp{d:cV}(h:bh T.l t=some d):P.cellsOf t=eW T t:=by obtain⟨i,_,hi,I,_⟩:=T.info h;unfold eW Program.cellsOf;grind
theorem uU:∀(I:List (Nat×Nat×String))(o:Nat)(cs:List Value),sq T o I=true->(I.map fun x=>(cs.drop x.1).take (eW T x.2.1)).flatten=(cs.drop o).take (sN T I)
 |[],o,cs,_=>by simp[sN]
 |(o',ft,nm)::r,o,cs,h=>by simp only[sq,μ,beq_iff_eq]at h;obtain⟨rfl,h⟩:=h;simp only[U',List.flatten_cons,sN];rw[uU r _ cs h,List.take_add,List.drop_drop]
theorem fw.append{a b:List Value}{m}(h1:fw E a.toArray l)(h2:fw E b.toArray m):fw E (a++b).toArray (l++m):=by
 have J:a.length=l.length:=by simpa using h1.1
 have M:b.length=m.length:=by simpa using h2.1
 refine⟨by simp[J,M],fun i u x hu I=>?_⟩;simp only[List.getElem?_toArray]at hu;rcases Nat.lt_or_ge i a.length with h|h
 ·rw[Ω h]at hu
  rw[Ω (by omega)]at I;exact h1.2 i u x (by simpa using hu) I
 ·rw[Θ h]at hu
  rw[Θ (by omega),←J]at I;exact h2.2 _ u x (by simpa using hu) I
theorem fw.flatten:∀{I:List (List Value)}{J:List (List D)},I.length=J.length->(∀(i:Nat)(a:List Value)(l:List D),I[i]?=some a->J[i]?=some l->fw E a.toArray l)->fw E I.flatten.toArray J.flatten
 |[],[],_,_=>⟨rfl,by simp⟩
 |a::I,l::J,hl,h=>by simp only[List.flatten_cons];exact fw.append (h 0 a l (by simp) (by simp)) (fw.flatten (by simpa using hl) (fun i a l M hl=>h (i+1) a l (by simpa using M) (by simpa using hl)))
theorem fw.one{v x}(h:bN E.w E.pv v x):fw E #[v] [x]:=by refine⟨rfl,fun i u y hu I=>?_⟩;grind
theorem xv{k:IntKind}{n:Int}(h:(Lit.int k n).wf=true):dy (.int k n)=true:=by simpa[Lit.wf,dy]using h
def Ci{H:Type}(P:Program)(t:Nat)(d:DataW H):Prop:=∀n∈d.weights P t,n<=reachBytes
theorem BF{d:DataW H}:∀{l:List (DataW H)},(∀n∈DataW.weightsAll P e l,n<=reachBytes)->d∈l->Ci P e d
 |x::r,h,hm=>by
   unfold DataW.weightsAll at h;simp only[D']at h;rcases N'.1 hm with rfl|hm
   ·exact fun n I=>h n (.inl I)
   ·exact BF (fun n I=>h n (.inr I)) hm
theorem uK:∀{ts:List Nat}{l:List (DataW H)},(∀n∈DataW.weightsEach P ts l,n<=reachBytes)->∀{i t:Nat}{d:DataW H},ts[i]?=some t->l[i]?=some d->Ci P t d
 |t::ts,x::r,h,i,u,d,h1,h2=>by
   unfold DataW.weightsEach at h;simp only[D']at h
   cases i with
   |zero=>simp at h1 h2;subst h1 h2;exact fun n I=>h n (.inl I)
   |succ i=>exact uK (fun n I=>h n (.inr I)) (by simpa using h1) (by simpa using h2)
 |[],_,_,_,_,_,h1,_=>by simp at h1
 |_::_,[],_,_,_,_,_,h2=>by simp at h2
theorem Ax {enc} (hg:ye T gs=true) (hby:∀ t∈gs,0 < P.bytesOf t) (hw:E.w=w) (hpv:∀ b o,¬ E.pv b o):∀ (fuel:Nat) (t:Nat) (cs:List Value) (d:DataW H) (ps:List MemPlace),
    t∈gs→DataW.trod enc P w 0 (fun _=>true) true fuel t cs=some (d,ps)→Ci P t d→∃ l,de T t l∧fw E cs.toArray l:=by
  intro fuel
  induction fuel with
  | zero=>intro t cs d ps _ h;simp[DataW.trod] at h
  | succ fuel ih=>
    intro t cs d ps ht h hwt
    obtain⟨td,htd,htk,hgood⟩:=pk T hg ht
    cases hk:cY T t with
    | int k=>
      have hu:=T.iC htd (htk.trans hk)
      simp only[DataW.trod,hu] at h
      split at h <;> simp_all
      rename_i k' n _
      obtain⟨⟨rfl,hwf⟩,_⟩:=h
      exact⟨_,.int n hk (xv hwf),fw.one (.v _ (xv hwf))⟩
    | bool=>
      have hu:=T.u9 htd (htk.trans hk)
      simp only[DataW.trod,hu] at h
      split at h <;> simp_all
      exact⟨_,.bool _ hk,fw.one (.v _ Z)⟩
    | str=>
      have hu:=T.kr htd (htk.trans hk)
      simp only[DataW.trod,hu] at h
      split at h <;> simp_all
      exact⟨_,.str _ hk h.1,fw.one (.v _ (by simpa [dy] using h.1))⟩
    | slice e=>
      have hu:=T.gN htd (htk.trans hk)
      rw[hk] at hgood
      simp only[μ] at hgood
      obtain⟨he,hz⟩:=hgood
      have he:e∈gs:=by simpa using he
      have hz:0 < eW T e:=κ hz
      obtain⟨ed,hed,_,_⟩:=pk T hg he
      rcases DataW.trod_slice hu h with ⟨rfl,_⟩ | ⟨a,len,cap,elems,rest,m,hm,rfl,hx,_,hlc,hcm,hlen,helem,_⟩
      · exact⟨[.sl []],.slice [] hk (by simp) (by simp),fw.one .nil⟩
      · have hm:m=fuel:=by omega
        subst hm
        · obtain⟨rfl,_⟩:=Prod.mk.inj hx
          have hwt1:(elems.length+rest.length)*P.bytesOf e≤reachBytes:=hwt _ (by simp[DataW.weights,hu])
          have hwt2:∀ n∈DataW.weightsAll P e (elems.map (·.1)),n≤reachBytes:=fun n hn=>hwt n (by simp[DataW.weights,hu,hn])
          have hlr:len≤reachBytes:=by
            have h1:=hby e he
            have h2:elems.length+rest.length≤(elems.length+rest.length)*P.bytesOf e:=Nat.le_mul_of_pos_right _ h1
            omega
          have hget:∀ i,i < len→∃ x ccs,Ci P e x.1∧w.cells? 0 (a.add (i*P.cellsOf e)) (P.cellsOf e)=some ccs∧DataW.trod enc P w 0 (fun _=>true) true m e ccs=some x:=by
            intro i hi
            have:=helem i hi
            have hi':i < elems.length:=by omega
            have e1:elems[i]? = some elems[i]:=by simp[hi']
            rw[e1] at this
            obtain⟨ccs,h1,h2⟩:=ξ.1 this
            exact⟨_,ccs,BF hwt2 (List.mem_map_of_mem (ζ e1)),h1,h2⟩
          have hsz:P.cellsOf e=eW T e:=rp T hed
          rcases Nat.eq_zero_or_pos len with h0 | hpos
          · subst h0
            exact⟨[.sl []],.slice [] hk (by simp) (by simp),fw.one (.emp a cap hcm)⟩
          · have hspot:a.spot=none:=by
              obtain⟨x,ccs,_,h1,_⟩:=hget 0 hpos
              obtain⟨_,h3,h4⟩:=World.cells?_some h1
              have h5:=h4 0 (by omega)
              have h6:(ccs[0]?).isSome:=by simp;omega
              rw[←h5] at h6
              simp only[Nat.zero_mul,Addr.add,if_true] at h6
              unfold World.cell? at h6
              split at h6
              · cases hsp:a.spot with
                | none=>rfl
                | some s=>simp[hsp] at h6
              · cases h6
            obtain⟨b,off,sp⟩:=a
            simp only at hspot
            subst hspot
            have hall:∀ i,∃ l ccs,i < len→(w.cells? 0 ((⟨b,off,none⟩:Addr).add (i*eW T e)) (eW T e)=some ccs∧de T e l∧fw E ccs.toArray l):=by
              intro i
              by_cases hi:i < len
              · obtain⟨x,ccs,h0,h1,h2⟩:=hget i hi
                obtain⟨l,h3,h4⟩:=ih e ccs x.1 x.2 he h2 h0
                exact⟨l,ccs,fun _=>⟨by rw[←hsz];exact h1,h3,h4⟩⟩
              · exact⟨[],[],fun h=>absurd h hi⟩
            let L:=fun i=>(hall i).choose
            let CC:=fun i=>(hall i).choose_spec.choose
            have hLC:∀ i,i < len→w.cells? 0 ((⟨b,off,none⟩:Addr).add (i*eW T e)) (eW T e)=some (CC i)∧de T e (L i)∧fw E (CC i).toArray (L i):=fun i hi=>(hall i).choose_spec.choose_spec hi
            have hes:∀ (i:Nat) (x:List D),((List.range len).map L)[i]? = some x→i < len∧x=L i:=by
              intro i x hx
              rcases Nat.lt_or_ge i len with hi | hi
              · simp[hi] at hx;exact⟨hi,hx.symm⟩
              · rw[List.getElem?_eq_none (by simpa using hi)] at hx;cases hx
            have hccl:∀ i,i < len→(CC i).length=eW T e:=fun i hi=>(World.cells?_some (hLC i hi).1).2.1
            have hLl:∀ i,i < len→(L i).length=eW T e:=fun i hi=>by have:=(hLC i hi).2.2.1;simp at this;rw[←this];exact hccl i hi
            refine⟨[.sl ((List.range len).map L)],.slice _ hk (fun x hx=>?_) (by simp;omega),fw.one ?_⟩
            · obtain⟨i,hi⟩:=ψ.1 hx
              obtain⟨h1,rfl⟩:=hes i x hi
              exact(hLC i h1).2.1
            · refine .sl b off len cap (eW T e) _ (fun i j=>((CC i)[j]?).getD default) (by simp) hlc hcm (fun i x hx=>?_) (fun i j hi hj=>⟨?_,hpv _ _⟩) (fun i j x d hx hd=>?_)
              · obtain⟨h1,rfl⟩:=hes i x hx
                exact hLl i h1
              · have h1:=(World.cells?_some (hLC i hi).1).2.2 j hj
                have h2:j < (CC i).length:=by rw[hccl i hi];exact hj
                have e1:(CC i)[j]? = some (CC i)[j]:=by simp[h2]
                rw[e1] at h1 ⊢
                have e2:((⟨b,off,none⟩:Addr).add (i*eW T e)).add j=⟨b,off+i*eW T e+j,none⟩:=by
                  unfold Addr.add
                  split <;> split <;> simp_all
                rw[e2] at h1
                rw[hw]
                exact h1
              · obtain⟨h1,rfl⟩:=hes i x hx
                have h2:j < (CC i).length:=by rw[hccl i h1,←hLl i h1];exact(δ.1 hd).1
                have e1:(CC i)[j]? = some (CC i)[j]:=by simp[h2]
                rw[e1]
                exact(hLC i h1).2.2.2 j _ d (by simp[h2]) hd
    | st fs=>
      obtain⟨fl,hu,hfl,_⟩:=T.uS htd (htk.trans hk)
      rw[hk] at hgood
      simp only[μ,beq_iff_eq] at hgood
      obtain⟨⟨hall,hcon⟩,hsum⟩:=hgood
      obtain⟨xs,m,hm,hx,hcl,hxl,hxs⟩:=DataW.trod_struct hu h
      obtain⟨rfl,_⟩:=Prod.mk.inj hx
      have hwt1:∀ n∈DataW.weightsEach P (fl.toList.map (·.type)) (xs.map (·.1)),n≤reachBytes:=fun n hn=>hwt n (by simpa [DataW.weights,hu] using hn)
      have hm:m=fuel:=by omega
      subst hm
      rw[rp T htd] at hcl
      have hmem:∀ (i:Nat) (o ft:Nat) (nm:String),fs[i]? = some (o,ft,nm)→ft∈gs:=fun i o ft nm hi=>by
        have:=I'.1 hall _ (ζ hi)
        simpa using this
      have hfield:∀ i:Nat,∃ l,∀ (o ft:Nat) (nm:String),fs[i]? = some (o,ft,nm)→de T ft l∧fw E ((cs.drop o).take (eW T ft)).toArray l:=by
        intro i
        cases hi:fs[i]? with
        | none=>exact⟨[],fun o ft nm h=>by cases h⟩
        | some x=>
          obtain⟨o,ft,nm⟩:=x
          have hfi:=hi
          rw[←hfl,τ,ν] at hfi
          obtain⟨fd,hfd,he⟩:=hfi
          simp only[Prod.mk.injEq] at he
          obtain⟨rfl,rfl,rfl⟩:=he
          have h1:=hxs i fd (by simpa using hfd)
          have hi2:i < xs.length:=by rw[hxl];have:=(δ.1 hfd).1;simpa using this
          have e1:xs[i]? = some xs[i]:=by simp[hi2]
          rw[e1] at h1
          obtain⟨fdd,hfdd,_⟩:=pk T hg (hmem i _ _ _ hi)
          rw[rp T hfdd] at h1
          obtain⟨l,h2,h3⟩:=ih fd.type _ _ _ (hmem i _ _ _ hi) h1 (uK hwt1 (i:=i) (by simp[hfd]) (by simp[e1]))
          exact⟨l,fun o ft nm h=>by simp only[Option.some.injEq,Prod.mk.injEq] at h;obtain⟨rfl,rfl,rfl⟩:=h;exact⟨h2,h3⟩⟩
      let L:=fun i=>(hfield i).choose
      have hL:∀ (i o ft:Nat) (nm:String),fs[i]? = some (o,ft,nm)→de T ft (L i)∧fw E ((cs.drop o).take (eW T ft)).toArray (L i):=fun i=>(hfield i).choose_spec
      refine⟨((List.range fs.length).map L).flatten,.st _ hk (by simp) (fun i o ft nm p hi hp=>?_),?_⟩
      · have hlt:i < fs.length:=(δ.1 hi).1
        simp[hlt] at hp
        rw[←hp]
        exact(hL i o ft nm hi).1
      · have hf:=uU T fs 0 cs hcon
        rw[List.drop_zero,hsum,←hcl,List.take_length] at hf
        rw[←hf]
        refine fw.flatten (by simp) (fun i a l ha hl=>?_)
        simp only[τ,ν] at ha hl
        obtain⟨⟨o,ft,nm⟩,hi,rfl⟩:=ha
        have hlt:i < fs.length:=(δ.1 hi).1
        obtain⟨i',hi',rfl⟩:=hl
        have:i'=i:=by rw[List.getElem?_range hlt] at hi';exact(J' hi').symm
        subst this
        exact(hL i' o ft nm hi).2
    | ptr=>rw[hk] at hgood;cases hgood
    | map=>rw[hk] at hgood;cases hgood
    | leaf=>rw[hk] at hgood;cases hgood
def Dr(t:Nat)(l:List D):A:=match cY T t,l with
 |.st _,l=>.ag l
 |_,[x]=>.d x
 |_,_=>.any
inductive kv:List Nat->List A->Prop
 |nil:kv [] []
 |cons {t:Nat} {ts:List Nat} {l:List D} {as':List A} (h:de T t l) (r:kv ts as'):kv (t::ts) (Dr T t l::as')
theorem yV{enc}(hg:ye T gs=true)(ad:∀t∈gs,0<P.bytesOf t){base}(hw:E.w=w)(ai:∀b o,¬E.pv b o):∀(ts:List Nat)(vs:List Value)(ds:List (DataW H))(ps:List MemPlace),
 (∀t∈ts,t∈gs)->DataW.TrodAll enc P w 0 (fun _=>true) true ts vs ds ps->(∀n∈DataW.weightsEach P ts ds,n<=reachBytes)->(∀(j:Nat)(t:Nat)(v:Value),ts[j]?=some t->vs[j]?=some v->Value.okWide P w .any base t v)->
 ds.length=ts.length∧vs.length=ts.length∧∃O,kv T ts O∧vs.length=O.length∧∀(i:Nat)(u:Value)(a:A),vs[i]?=some u->O[i]?=some a->bK E u a
 |[],[],[],ps,_,_,_,_=>⟨rfl,rfl,[],.nil,rfl,by simp⟩
 |t::ts,v::vs,d::ds,ps,hm,h,hwt,hv=>by
   obtain⟨p,q,⟨fuel,h1⟩,h2,_⟩:=h;obtain⟨e1,e2,O,h3,h4,h5⟩:=yV hg ad hw ai ts vs ds q (fun t U=>hm t (ω _ U)) h2 (fun n hn=>hwt n (by unfold DataW.weightsEach;exact List.mem_append_right _ hn)) (fun j t v U aj=>hv (j+1) t v (by simpa using U) (by simpa using aj));have U:t∈gs:=hm t Ψ;obtain⟨l,X,h7⟩:=Ax T hg ad hw ai fuel t _ d p U h1 (uK (i:=0) hwt rfl rfl);have hok:=hv 0 t v (by simp) (by simp);obtain⟨td,M,N,I⟩:=pk T hg U;have a1:bK E v (Dr T t l):=by
    unfold Dr
    cases hk:cY T t with
    |st fs=>
      obtain⟨fl,hu,_⟩:=T.uS M (N.trans hk);simp only[Value.okWide,hu]at hok;obtain⟨cs,rfl,_,_⟩:=hok;have h8:fw E cs l:=by simpa[Value.cells]using h7
      exact .ag cs l h8.1 h8.2
    |int k=>
      obtain⟨n,rfl,ho⟩:=X.toInt hk;have hu:=T.iC M (N.trans hk);obtain⟨n',a8,_⟩:=DataW.trod_int hu h1;have J:v=.int k n':=by cases v<;>simp_all[Value.cells,Value.okWide,Cell.okWide,Cell.ok]
      have:=h7.2 0 v (.v (.int k n)) (by rw[J];simp[Value.cells]) (by simp);exact .d this
    |bool=>
      obtain⟨b,rfl⟩:=X.toBool hk;have hu:=T.u9 M (N.trans hk);have J:∃b',v=.bool b':=by simp only[Value.okWide,hu,Cell.okWide]at hok;cases v<;>simp_all[Cell.ok]
      obtain⟨b',J⟩:=J;have:=h7.2 0 v (.v (.bool b)) (by rw[J];simp[Value.cells]) (by simp);exact .d this
    |str=>obtain⟨s,rfl,ho⟩:=X.toStr hk;have hu:=T.kr M (N.trans hk);obtain⟨s',J⟩:=okWide_string hu hok;have:=h7.2 0 v (.v (.string s)) (by rw[J];simp[Value.cells]) (by simp);exact .d this
    |slice e=>obtain⟨es,rfl,_⟩:=X.toSlice hk;have hu:=T.gN M (N.trans hk);obtain⟨a',a6,a7,J⟩:=okWide_slice hu hok;have:=h7.2 0 v (.sl es) (by rw[J];simp[Value.cells]) (by simp);exact .d this
    |ptr=>rw[hk]at I;cases I
    |map=>rw[hk]at I;cases I
    |leaf=>rw[hk]at I;cases I
   refine⟨by simp[e1],by simp[e2],_,.cons X h3,by simp[h4],fun i u a hu ha=>?_⟩;grind
 |[],_::_,_,_,_,h,_,_=>by simp[DataW.TrodAll]at h
 |[],[],_::_,_,_,h,_,_=>by simp[DataW.TrodAll]at h
 |_::_,[],_,_,_,h,_,_=>by simp[DataW.TrodAll]at h
 |_::_,_::_,[],_,_,h,_,_=>by simp[DataW.TrodAll]at h
theorem rA{enc}(hl:laidOutB P=true){W W':World}(hb:Below W.heap.size W W'):∀(ts:List Nat)(vs:List Value)(ds:List (DataW H))(ps:List MemPlace),
 (∀t∈ts,P.readableRec t=true∧t<P.types.size)->DataW.TrodAll enc P W 0 (fun _=>true) true ts vs ds ps->(∀x∈ps,x.block<W.heap.size)->
 DataW.TrodAll enc P W' 0 (fun b=>decide (b<W.heap.size)) true ts vs ds ps
 |[],[],[],ps,_,h,_=>h
 |t::ts,v::vs,d::ds,ps,hr,h,hlt=>by obtain⟨p,q,h1,h2,rfl⟩:=h;have:=hr t Ψ;exact⟨p,q,Below.trod hl this.1 this.2 h1 hb (fun x I=>hlt x (D'.2 (.inl I))),rA hl hb ts vs ds q (fun t J=>hr t (ω _ J)) h2 (fun x I=>hlt x (D'.2 (.inr I))),rfl⟩
 |[],_::_,_,_,_,h,_=>by simp[DataW.TrodAll]at h
 |[],[],_::_,_,_,h,_=>by simp[DataW.TrodAll]at h
 |_::_,[],_,_,_,h,_=>by simp[DataW.TrodAll]at h
 |_::_,_::_,[],_,_,h,_=>by simp[DataW.TrodAll]at h
theorem yz[dw P]{f}{s:ChangeSpec}{tb}(hg:ye T gs=true)(a6:∀t∈gs,0<P.bytesOf t)(a7:∀t∈fn.params.toList,t∈gs)(b4:laidOutB P=true)(b5:∀t∈fn.params.toList,P.readableRec t=true∧t<P.types.size)(ai:fn.resultTypes=#[tb])(hb:P.underlying tb=some .bool)(J:s.vars=[]){enc}(hs:∀ds:List (DataW H),ds.length=fn.params.size->s.fn H ds={results:=[.lit (.bool true)],args:=ds})(hd:∀M,kv T fn.params.toList M->bm P f M (.d (.v (.bool true))) 0)(W:World)(N:W.ShapedOpen P∧dw.met P W)(base)(args:Array Value)(ds a8:List (DataW H))(before)(aj:∀(j:Nat) t v,fn.params[j]?=some t->args[j]?=some v->Value.okWide P W .any base t v)(hW:DataW.Whole enc P fn.params.toList s.vars false W args.toList ds a8 before)(b0:∀n∈DataW.weightsEach P fn.params.toList ds,n<=reachBytes):
 Calls P f args W fun e W'=>∃v,e=.returned v∧s.post enc P fn false true false false W args v W':=by
 have X:=hW;obtain⟨p,q,hA,hV,rfl,b6,ch⟩:=hW;rw[J]at hV;obtain⟨rfl,rfl⟩:=trodVars_none hV
 obtain⟨e1,e2,M,U,hlen,a1⟩:=yV T (E:=bu {w0:=W,fp:=fun _=>False,x:=fun _ _=>False} G0 0 W) hg a6 rfl (fun b o hp=>(sF _ b o).1 hp) fn.params.toList args.toList ds p a7 hA b0
  (fun j t v ht O=>aj j t v (by simpa using ht) (by simpa using O))
 refine((hd M U).calls {w0:=W,fp:=fun _=>False,x:=fun _ _=>False} args W ⟨W,N,χ _,fun _ _=>⟨rfl,fun h=>h⟩⟩ Z ⟨fun _ h=>h,fun _ _ h=>h,rfl,rfl⟩ (fun _ _ h=>h.elim) (by simpa using hlen) (fun i u a hu ha=>a1 i u a (by simpa using hu) ha)).mono ?_;rintro e W' ⟨v,G',rfl,I,O⟩;have b2:Below W.heap.size W W':=⟨I.fr.os,I.fr.tape,I.fr.output,I.fr.size,fun b hb=>I.fr.block b hb (fun h=>h)⟩;have b3:v=.bool true:=by cases O with|d O=>cases O;rfl
 subst b3;have ad:=hs (ds++[]) (by simp[e1]);have cj:∀x∈p,x.block<W.heap.size:=fun x hx=>by simpa using X.lt x (by simpa using hx)
 refine⟨_,rfl,ds,[],_,[],p,[],X,?_,?_,?_,b2.frame _,fun h=>by cases h⟩
 ·rw[ad,ai]
  exact trodAll_mk1 (shut_bool hb _)
 ·grind[rA]
 ·rw[ad,J]
  rfl
variable{T}
theorem kv.inv{ts I}(h:kv T (t::ts) I):∃l r,I=Dr T t l::r∧de T t l∧kv T ts r:=by
 cases h with
 |cons h r=>exact⟨_,_,rfl,h,r⟩
theorem kv.LC{I}(h:kv T [] I):I=[]:=by cases h;rfl
end
abbrev fq:=Nat->Option A
def cH(I:fq):Option Nat->A->fq
 |some d,a=>fun t=>if t=d then some a else I t
 |none,_=>I
section
variable{n:Nat}{bx:List (Nat×List A)}{md:Region.Mode}
def fm(C:Ctx)(n:Nat)(bx:List (Nat×List A))(lv:List Nat)(gen:Nat)(I:fq)(G:Gh)(tmps:Array Value)(w:World):Prop:=
 bq C n ⟨[],bx,lv,gen⟩ G tmps w∧∀t a,I t=some a->∃v,tmps[t]?=some v∧bK (bu C G gen w) v a
theorem fm.lV{I:fq}(h:fm C n bx lv gen I G tmps w)(J:∀t a,look f t=some a->I t=some a):bq C n ⟨f,bx,lv,gen⟩ G tmps w:=
 {h.1 with frame:=fun t a M=>h.2 t a (J t a M)}
theorem fm.ez(h:bq C n ⟨f,bx,lv,gen⟩ G tmps w):fm C n bx lv gen (look f) G tmps w:=
 ⟨{h with frame:=fun t a I=>by simp[look]at I},h.frame⟩
theorem fm.step{M:fq}(h:fm C n bx lv gen M G tmps w)(hb:Below w.heap.size w w')(hd:fY n dst=true){v}(N:bK (bu C G gen w') v a):
 fm C n bx lv gen (cH M dst a) G (Act.put ⟨tmps,[]⟩ dst v).tmps w':=by
 obtain⟨hle,hs⟩:=h.1.ij hb
 cases dst with
 |none=>exact⟨hs,fun t a J=>let⟨v,h1,h2⟩:=h.2 t a J;⟨v,h1,h2.mono hle⟩⟩
 |some d=>
   refine⟨{hs with size:=by have:=hs.size;simpa[Act.put]using this,frame:=fun t a J=>by simp[look]at J},fun t b I=>?_⟩;simp only[cH]at I;split at I
   ·rename_i e
    subst e;simp only[Option.some.injEq]at I;subst I;exact⟨v,by simp[Act.put,Array.getElem?_setIfInBounds,hs.size,dp hd],N⟩
   ·rename_i e
    obtain⟨u,h1,h2⟩:=h.2 t b I;exact⟨u,by simp only[Act.put];rw[Array.getElem?_setIfInBounds_ne (Ne.symm e)];exact h1,h2.mono hle⟩
def l9(ops:Array Oper)(o:Oper)(I:fq)(b:Bool):Prop:=
 match o.guard with
 |none=>b=true
 |some (j,want)=>∃d x,gL ops j=some d∧I d=some x∧((∃c,x=.d (.v (.bool c))∧b=(c==want))∨(x=.tup []∧b=false))
def YA(P:Program)(C:Ctx)(n:Nat)(bx:List (Nat×List A))(lv:List Nat)(gen:Nat)(ops:Array Oper)(o:Oper)(a:A)(I:fq):Prop:=
 fY n o.dst=true∧((l9 ops o I true∧∃f,(∀t x,look f t=some x->I t=some x∧t∈o.looksAt ops)∧Pu P C n ⟨f,bx,lv,gen⟩ (w4 o) a)∨(l9 ops o I false∧a=.tup []))
theorem tN{I:fq}{b x}(hd:∀d,dst=some d->d∉o.looksAt ops):l9 ops o (cH I dst x) b↔l9 ops o I b:=by
 unfold l9
 cases hg:o.guard with
 |none=>exact Iff.rfl
 |some J=>
   obtain⟨j,want⟩:=J;have key:∀d,gL ops j=some d->cH I dst x d=I d:=by
    intro d hj
    cases dst with
    |none=>rfl
    |some e=>
      have:d≠e:=by intro h;subst h;refine hd d Z ?_;unfold Oper.looksAt;grind[gL]
      grind[cH]
   grind
theorem eN{I:fq}{x}(hd:∀d,dst=some d->d∉o.looksAt ops):YA P C n bx lv gen ops o a (cH I dst x)↔YA P C n bx lv gen ops o a I:=by
 unfold YA;rw[tN hd,tN hd];have key:∀t,t∈o.looksAt ops->cH I dst x t=I t:=by
  intro t J
  cases dst with
  |none=>rfl
  |some e=>grind[cH]
 grind
theorem ld(I:fq){x y}(a b)(h:∀d,x=some d->y≠some d):cH (cH I x a) y b=cH (cH I y b) x a:=by
 cases x with
 |none=>rfl
 |some d=>
   cases y with
   |none=>rfl
   |some e=>grind[cH]
def qA(P:Program)(C:Ctx)(n:Nat)(bx:List (Nat×List A))(lv:List Nat)(gen:Nat)(ops:Array Oper)(i:Nat)(K:fq->Prop)(I:fq):Prop:=
 match ops[i]?with
 |none=>K I
 |some o=>∃a,YA P C n bx lv gen ops o a I∧K (cH I o.dst a)
theorem HH{I:fq}{K J:fq->Prop}(h:∀I,K I->J I)(M:qA P C n bx lv gen ops i K I):qA P C n bx lv gen ops i J I:=by grind[qA]
def rU(P:Program)(C:Ctx)(n:Nat)(bx:List (Nat×List A))(lv:List Nat)(gen:Nat)(md:Region.Mode)(ops:Array Oper)(Q:fq->Prop):Nat->Array Bool->fq->Prop
 |0,listed,I=>Region.ready md ops listed=[]∧Q I
 |fuel+1,listed,I=>(Region.ready md ops listed=[]->Q I)∧∀i∈Region.ready md ops listed,qA P C n bx lv gen ops i (rU P C n bx lv gen md ops Q fuel (listed.setIfInBounds i true)) I
theorem hZ {φ:fq} {b} (hs:fm C n bx lv gen φ G tmps w) (h:l9 ops o φ b):Region.wanted o (yielded ops tmps)=b:=by
  unfold l9 at h
  unfold Region.wanted
  cases hg:o.guard with
  | none=>rw[hg] at h;exact h.symm
  | some jw=>
    obtain⟨j,want⟩:=jw
    rw[hg] at h
    obtain⟨d,x,h1,h2,h⟩:=h
    obtain⟨v,h3,h4⟩:=hs.2 d _ h2
    rcases h with ⟨c,rfl,rfl⟩ | ⟨rfl,rfl⟩
    · cases h4 with | d h4=>cases h4 with | v _ _=>
      simp only[qQ h1 h3]
      grind
    · have hy:yielded ops tmps j=none:=by
        unfold yielded
        unfold gL at h1
        rw[h1]
        simp only[Option.bind_some,h3]
        cases h4;rfl
      grind
theorem Dd{I:fq}{K:fq->Prop}{M}(hs:fm C n bx lv gen I G tmps w)(h:∀I tmps w,fm C n bx lv gen I G tmps w->K I->M ⟨tmps,C.ds⟩ w)(J:qA P C n bx lv gen ops i K I):wpOp P ops Q' i M ⟨tmps,C.ds⟩ w:=by
 unfold qA at J;unfold wpOp;split;·grind
 ·rename_i o O
  simp only[O]at J;obtain⟨a,⟨hd,U⟩,N⟩:=J;rcases U with⟨hw,f,X,hp⟩|⟨hw,rfl⟩
  ·rw[hZ hs hw]
   simp only[if_true];refine .inl ?_;have hg:et P o ⟨tmps,[]⟩ w fun v w'=>Below w.heap.size w w'∧bK (bu C G gen w') v a:=hp G tmps w (hs.lV fun t x hx=>(X t x hx).1);refine hg.ds.wp fun v w'⟨hb,hr⟩=>?_;rw[Act.iP];exact h _ _ _ (hs.step hb hd hr) N
  ·rw[hZ hs hw]
   simp only[L',if_false];rw[Act.iP];exact h _ _ _ (hs.step (Below.refl _ _) hd (.tup #[] [] rfl (by simp))) N
theorem vF{Q:fq->Prop}(J:∀I tmps w,fm C n bx lv gen I G tmps w->Q I->Q' .normal ⟨tmps,C.ds⟩ w):∀(fuel:Nat)(listed:Array Bool)(I:fq)(tmps:Array Value)(w:World),fm C n bx lv gen I G tmps w->
 rU P C n bx lv gen md ops Q fuel listed I->wpAny P md ops Q' fuel listed ⟨tmps,C.ds⟩ w
 |0,_,_,_,_,hs,h=>⟨h.1,J _ _ _ hs h.2⟩
 |fuel+1,_,_,_,_,hs,h=>⟨fun h0=>J _ _ _ hs (h.1 h0),fun i hi=>Dd hs (fun I tmps w M=>vF J fuel _ I tmps w M) (h.2 i hi)⟩
theorem JW{I N:Oper}{v}(hj:ops[j]?=some N)(O:I.apart ops N=true){K:fq->Prop}{M:fq}(U:YA P C n bx lv gen ops I v M)(h:qA P C n bx lv gen ops j K (cH M I.dst v)):
 qA P C n bx lv gen ops j (fun J=>YA P C n bx lv gen ops I v J∧K (cH J I.dst v)) M:=by
 obtain⟨h1,h2,h3⟩:=Oper.apart_spec O;unfold qA at*;simp only[hj]at*;grind[eN,ld]
theorem zW{Q:fq->Prop}{J:Oper}{v}(hi:ops[i]?=some J):
 ∀(fuel:Nat)(listed:Array Bool)(I:fq),
   (∀j O,ops[j]?=some O->j≠i->listed.getD j true=false->(∀e∈O.after,Region.binds md e=true->e.on≠i)->J.apart ops O=true)->
   i∈Region.ready md ops listed->YA P C n bx lv gen ops J v I->
   rU P C n bx lv gen md ops Q fuel (listed.setIfInBounds i true) (cH I J.dst v)->rU P C n bx lv gen md ops Q (fuel+1) listed I:=by
 have take:∀{K:fq->Prop}{I:fq},YA P C n bx lv gen ops J v I->K (cH I J.dst v)->qA P C n bx lv gen ops i K I:=by grind[qA]
 intro fuel
 induction fuel with
 |zero=>
   intro listed I _ M hy H;refine⟨fun h=>(by rw[h]at M;cases M),fun j hj=>?_⟩;by_cases hji:j=i;·grind
   ·have:=ready_mono hj hji
    rw[H.1]at this;grind
 |succ fuel ih=>
   intro listed I N M hy H;refine⟨fun h=>(by rw[h]at M;cases M),fun j hj=>?_⟩;by_cases hji:j=i;·grind
   ·have h1:=H.2 j (ready_mono hj hji)
    obtain⟨ad,O,X,ai⟩:=mem_ready.1 hj;have aj:∀e∈O.after,Region.binds md e=true->e.on≠i:=fun e he hb heq=>by have h1:=ai e he hb;have h0:=(mem_ready.1 M).1;grind
    have h2:=JW X (N j O X hji ad aj) hy h1
    have U:∀k ok,ops[k]?=some ok->k≠i->(listed.setIfInBounds j true).getD k true=false->
     (∀e∈ok.after,Region.binds md e=true->e.on≠i)->J.apart ops ok=true:=fun k ok hk a1 a8 a6=>by
     refine N k ok hk a1 ?_ a6;by_cases hjk:j=k;·grind
     ·simp_all
    refine HH (fun a7 h3=>ih (listed.setIfInBounds j true) a7 U (ready_mono M (Ne.symm hji)) h3.1 ?_) h2;grind[Array.setIfInBounds_comm]
def Js(P:Program)(C:Ctx)(n:Nat)(bx:List (Nat×List A))(lv:List Nat)(gen:Nat)(ops:Array Oper)(Q:fq->Prop):List Oper->fq->Prop
 |[],φ=>Q φ
 |o::rest,φ=>∃a,YA P C n bx lv gen ops o a φ∧Js P C n bx lv gen ops Q rest (cH φ o.dst a)
theorem vU{Q:fq->Prop}:∀(l:List Oper)(k:Nat)(listed:Array Bool)(I:fq),(∀j,l[j]?=ops[k+j]?)->
 Region.lexFrom md ops l.length k listed=true->Js P C n bx lv gen ops Q l I->rU P C n bx lv gen md ops Q l.length listed I
 |[],_,_,_,_,hB,h=>⟨by simpa[Region.lexFrom]using hB,h⟩
 |o::l,k,listed,I,hl,hB,h=>by
   have h0:ops[k]?=some o:=by simpa using(hl 0).symm
   simp only[Ξ,Region.lexFrom,μ]at hB;obtain⟨⟨M,N⟩,J⟩:=hB;obtain⟨v,O,U⟩:=h
   exact zW h0 l.length listed I (Region.free_spec h0 N) (by simpa using M) O
    (vU l (k+1) _ _ (fun j=>by have:=hl (j+1);simpa[Nat.add_assoc,Nat.add_comm 1 j]using this) J U)
def CH(P:Program)(C:Ctx)(n:Nat)(bx:List (Nat×List A))(lv:List Nat)(gen:Nat)(ops:Array Oper)(Q:St->Prop)(l:List Oper)(f:List (Nat×A)):Prop:=
 Js P C n bx lv gen ops (fun I=>∃f',(∀t,look f' t=I t)∧Q ⟨f',bx,lv,gen⟩) l (look f)
theorem fg:look ((d,a)::f)=cH (look f) (some d) a:=by funext t;grind[ct,cH]
theorem ao{Q}(h:Q ⟨f,bx,lv,gen⟩):CH P C n bx lv gen ops Q [] f:=⟨f,fun _=>rfl,h⟩
def dk(f:List (Nat×A)):List Nat->List (Nat×A)
 |[]=>[]
 |t::r=>match look f t with
   |some a=>(t,a)::dk f r
   |none=>dk f r
theorem fA:∀{ts:List Nat}{t:Nat}{a:A},look (dk f ts) t=some a->look f t=some a∧t∈ts
 |[],t,a,h=>by simp[dk,look]at h
 |s::ts,t,a,h=>by
   simp only[dk]at h;split at h
   ·rename_i b hb
    rw[ct]at h;split at h;·grind
    ·obtain⟨h1,h2⟩:=fA h;exact⟨h1,ω _ h2⟩
   ·obtain⟨h1,h2⟩:=fA h;exact⟨h1,ω _ h2⟩
variable{op:Op}{pos:String}{af:Array Edge}{rest:List Oper}{Q:St→Prop}
def slotsOf(op:Op):List Nat:=op.operands.toList.filterMap fun|.tmp t=>some t|_=>none
theorem br(hp:Pu P C n ⟨dk f (slotsOf op),bx,lv,gen⟩ ⟨some d,op,ty,pos,af,none⟩ a)(hd:Nat.blt d n=true)(h:CH P C n bx lv gen ops Q rest ((d,a)::f)):CH P C n bx lv gen ops Q (⟨some d,op,ty,pos,af,none⟩::rest) f:=by unfold CH at*;rw[fg]at h;refine⟨a,⟨hd,.inl ⟨rfl,_,fun t x I=>?_,hp⟩⟩,h⟩;obtain⟨h1,h2⟩:=fA I;exact⟨h1,D'.2 (.inl h2)⟩
theorem dz(hj:gL ops j=some e)(hl:look f e=some (.d (.v (.bool want))))(hp:Pu P C n ⟨dk f (slotsOf op),bx,lv,gen⟩ ⟨some d,op,ty,pos,af,none⟩ a)(hd:Nat.blt d n=true)(h:CH P C n bx lv gen ops Q rest ((d,a)::f)):
 CH P C n bx lv gen ops Q (⟨some d,op,ty,pos,af,some (j,want)⟩::rest) f:=by
 unfold CH at*;rw[fg]at h;refine⟨a,⟨hd,.inl ⟨⟨e,_,hj,hl,.inl ⟨want,rfl,by simp⟩⟩,_,fun t x I=>?_,hp⟩⟩,h⟩;obtain⟨h1,h2⟩:=fA I;exact⟨h1,D'.2 (.inl h2)⟩
theorem sj{b}(hj:gL ops j=some e)(hl:look f e=some (.d (.v (.bool b))))(hb:(b==want)=false)(hd:Nat.blt d n=true)(h:CH P C n bx lv gen ops Q rest ((d,.tup [])::f)):
 CH P C n bx lv gen ops Q (⟨some d,op,ty,pos,af,some (j,want)⟩::rest) f:=by
 unfold CH at*;rw[fg]at h;exact⟨.tup [],⟨hd,.inr ⟨⟨e,_,hj,hl,.inl ⟨b,rfl,hb.symm⟩⟩,rfl⟩⟩,h⟩
theorem HJ{l b}(hl:look f e=some (.d (.v (.bool b))))(I:b=true->CH P C n bx lv gen ops Q l ((e,.d (.v (.bool true)))::f))(J:b=false->CH P C n bx lv gen ops Q l ((e,.d (.v (.bool false)))::f)):
 CH P C n bx lv gen ops Q l f:=by
 have key:∀c,b=c->look ((e,A.d (.v (.bool c)))::f)=look f:=by grind[ct]
 cases b;·grind[CH]
 ·grind[CH]
theorem W.dD(T:cG P){id:Nat}{l:List Oper}{Q:Exit->St->Prop}(hB:Region.lexB .any l.toArray=true)(h:CH P C n bx lv gen l.toArray (Q .normal) l f):W P C n (.region id l.toArray true) Q ⟨f,bx,lv,gen⟩:=by intro tmps w ⟨G,hs⟩;simp only[Region.lexB,μ]at hB;have hb:Below w.heap.size w {w with drawn:=w.drawn+1}:=(Below.refl _ w).drew;have I:fm C n bx lv gen (look f) G tmps {w with drawn:=w.drawn+1}:=fm.ez (hs.ij hb).2;refine wp_region_any T.mixed (vF (Q:=fun J=>∃f',(∀t,look f' t=J t)∧Q .normal ⟨f',bx,lv,gen⟩) (fun J tmps w hs⟨f',h1,h2⟩=>⟨rfl,_,⟨G,hs.lV (f:=f') fun t a M=>by rw[<-h1];exact M⟩,h2⟩) _ _ _ _ _ I ?_);have:=vU (P:=P) (C:=C) (n:=n) (bx:=bx) (lv:=lv) (gen:=gen) (md:=.any) (ops:=l.toArray) l 0 (Array.replicate l.toArray.size false) (look f) (by simp) (by simpa using hB.2) h;grind
end
inductive RV where
 |tmp (t:Nat)
 |cell (t ty:Nat)
def RV.var:RV->ResultVar
 |.tmp t=>.tmp t
 |.cell t ty=>.cell t ty
def vM(tmps:Array Value):ResultVar->Sem Value
 |.tmp t=>pure (tmps.getD t undef)
 |.cell a t=>do loadVar t (<-asAddr (tmps.getD a undef))
section
variable(T:cG P)
def lP(f:List (Nat×A))(bx:List (Nat×List A)):List RV->Option (List A)
 |[]=>some []
 |.tmp t::r=>match look f t,lP f bx r with
   |some a,some l=>some (a::l)
   |_,_=>none
 |.cell t ty::r=>match look f t with
   |some (.ptr g off)=>(match bh bx g with
     |some cells=>(match pb T ty (cells.drop off),lP f bx r with
       |some a,some l=>some (a::l)
       |_,_=>none)
     |none=>none)
   |_=>none
def QV(rs:List RV)(r:A)(k:Nat):Exit->St->Prop:=fun e st=>(match e with|.normal=>True|.ret=>True|_=>False)∧∃l order,lP T st.f st.bx rs=some l∧norm order (bM l)=r∧order.length=k∧order.Nodup∧∀g∈order,g∈st.lv
theorem kW{n}(hs:bq C n st G tmps w):∀(rs:List RV)(l:List A),lP T st.f st.bx rs=some l->
 ∃vs:List Value,((rs.map RV.var).mapM (vM tmps)).run P w=.ok vs w∧vs.length=l.length∧
   ∀(i:Nat)(u:Value)(a:A),vs[i]?=some u->l[i]?=some a->bK (bu C G st.gen w) u a
 |[],l,h=>by simp only[lP,Option.some.injEq]at h;subst h;exact⟨[],by simp,rfl,by simp⟩
 |.tmp t::r,l,h=>by
   simp only[lP]at h;split at h
   ·rename_i a l' I J
    simp only[Option.some.injEq]at h;subst h;obtain⟨vs,h1,h2,h3⟩:=kW hs r l' J;obtain⟨v,O,X⟩:=hs.frame _ _ I;refine⟨v::vs,?_,by simp[h2],fun i u a hu I=>?_⟩
    ·simp only[U',RV.var,List.mapM_cons,Sem.run_bind,vM,Sem.run_pure,Result.andThen_ok,h1]
     simp[O]
    ·grind
   ·grind
 |.cell t ty::r,l,h=>by
   simp only[lP]at h;split at h
   ·rename_i g off ht
    split at h
    ·rename_i cells hb
     split at h
     ·rename_i a l' I J
      simp only[Option.some.injEq]at h;subst h;obtain⟨vs,h1,h2,h3⟩:=kW hs r l' J;obtain⟨v,O,X⟩:=hs.frame _ _ ht;obtain⟨b,cs,T',h4,h5,h6,h7,h8⟩:=mL hs hb X;subst h4;obtain⟨u,ad,ai⟩:=rf (E:=bu C G st.gen w) T (t:=ty) (b:=b) (off:=off) (u:=fun j=>cs[off+j]?.getD default) (l:=cells.drop off) (fun j hj=>by
       have M:off+j<cs.size:=by simp at hj;omega
       have e:cs[off+j]?=some cs[off+j]:=by simp[M]
       exact⟨by show cellAt w b (off+j)=_;rw[cP h5,e];rfl,by rw[e];exact h7 _ _ e⟩) (fun j y hy=>by
       have N:cells[off+j]?=some y:=by simpa using hy
       have M:off+j<cs.size:=by rw[h6];exact(δ.1 N).1
       have e:cs[off+j]?=some cs[off+j]:=by simp[M]
       rw[e];exact h8 _ _ _ e N) I
      have U:(loadVar ty ⟨b,off,none⟩).run P w=.ok u w:=ad;refine⟨u::vs,?_,by simp[h2],fun i x a hx I=>?_⟩
      ·have hg:tmps.getD t undef=.pointer (some ⟨b,off,none⟩):=by simp[O]
       simp only[U',RV.var,List.mapM_cons,vM,Sem.run_bind,Sem.run_pure,Result.andThen_ok,h1,hg,asAddr,U]
      ·grind
     ·grind
    ·grind
   ·grind
theorem iq{rs:List RV}(h:fn.results=(rs.map RV.var).toArray){vs}(I:((rs.map RV.var).mapM (vM tmps)).run P w=.ok vs w):
 (results fn tmps).run P w=.ok (nk vs) w:=by
 have e:results fn tmps=(do
  let vs←fn.results.mapM (vM tmps)
  pure (if h:vs.size=1 then vs[0]else .tuple vs)):=by
  unfold results;congr 2;first|done|(congr 2;funext x;cases x<;>rfl)
 rw[e,h,Array.mapM_eq_mapM_toList];simp only[Sem.run_bind,Sem.run_map,I,Result.andThen_ok,Sem.run_pure]
 match vs with
 |[]=>simp[nk]
 |[v]=>simp[nk]
 |v::v2::vs=>simp[nk]
theorem bm.dY[dw P]{f c}{rs:List RV}{n r}(hf:P.funcs[f]?=some fn)(b2:(fn.name== "runtime.NumGoroutine")=false)(hb:fn.body=some c)(hn:fn.ntmps=n)(J:fn.results=(rs.map RV.var).toArray)(hlen:Nat.ble args.length n=true)(h:∀C,NB C 0->GC P C->W P C n c (QV T rs r k) ⟨iX 0 args,[],[],0⟩):bm P f args r k:=by
 have hlen:=κ hlen;refine⟨⟨fn,hf,b2,by rw[hb];rfl⟩,fun C O w hG hw hp hx ec ch=>?_⟩;subst hw;refine calls_of_wp hf hb (wp_mono (ru hp.2.2.2 (h C ⟨by rw[hp.2.2.1];rfl⟩ hG (O++Array.replicate (fn.ntmps-O.size) undef) C.w0 ⟨G0,?_⟩)) ?_)
 ·refine{size:=by simp[hn];omega,frame:=fun t a ha=>?_,box:=fun g cells hc=>by simp[bh]at hc,gbox:=fun g b hb=>by simp[G0]at hb,inj:=fun g M b hb=>by simp[G0]at hb,
           live:=fun g hg=>by simp at hg,gown:=fun g r J=>by simp[G0]at J,row:=fun g b len cap sz ai J=>by simp[G0]at J,mrow:=fun g b bs J=>by simp[G0]at J,sub:=fun g b bs c lim J=>by simp[G0]at J,gcell:=fun g b hb=>by simp[G0]at hb,xold:=fun b o hb=>⟨hx b o hb,hp.1 b⟩,kold:=fun b o hb=>absurd hb (hp.2.1 b o),lent:=fun i b hb=>by rw[hp.2.2.1]at hb;simp at hb,
           fr:=⟨rfl,rfl,rfl,χ _,fun _ _ _=>rfl,fun _ _ _ hb=>absurd hb (hp.2.1 _ _),eZ.refl _⟩}
  obtain⟨_,h1⟩:=gX args 0 t a ha;have h2:t<args.length:=(δ.1 (by simpa using h1)).1;have h3:t<O.size:=by omega
  have h4:O[t]?=some O[t]:=by simp[h3]
  exact⟨O[t],by rw[Array.getElem?_append_left h3];exact h4,ch t _ a h4 (by simpa using h1)⟩
 ·rintro e ⟨tmps,df⟩ w' ⟨hd,st,⟨G,hs⟩,he,l,order,hl,cx,b3,a8,cy⟩
  have a7:∃v,(results fn tmps).run P w'=.ok v w'∧∃b4 G',Ending.returned v=.returned b4∧bq C 0 ⟨[],[],List.range k,k⟩ G' #[] w'∧bK (bu C G' k w') b4 r:=by
   obtain⟨vs,c1,c6,c7⟩:=kW T hs rs l hl;refine⟨_,iq J c1,_,⟨fun _=>none,fun i=>if i<k then(order[i]?).bind G.own else none⟩,rfl,?_,?_⟩
   ·refine{size:=rfl,frame:=fun t a ha=>by simp[look]at ha,box:=fun g cells hc=>by simp[bh]at hc,gbox:=fun g b hb=>by simp at hb,inj:=fun g M b hb=>by simp at hb,
             live:=fun g hg=>?_,gown:=fun g r J=>?_,row:=fun g b len cap sz ai J=>?_,mrow:=fun g b bs J=>?_,sub:=fun g b bs c lim J hm=>?_,gcell:=fun g b hb=>(by cases hb),xold:=hs.xold,kold:=hs.kold,lent:=fun i b hb=>by rw[hp.2.2.1]at hb;simp at hb,fr:=hs.fr}
    ·have di:g<k:=by simpa using hg
     have b5:g<order.length:=by omega
     obtain⟨r',I⟩:=hs.live order[g] (cy _ (List.getElem_mem b5));exact⟨r',by simp[di,b5,I]⟩
    ·dsimp only at J
     split at J;·assumption
     ·cases J
    ·dsimp only at J
     split at J
     ·rename_i b6
      obtain⟨g0,aj,N⟩:=ξ.1 J;obtain⟨h1,h2,h3,h4⟩:=hs.row g0 b len cap sz ai N;refine⟨h1,fun M=>by simp,fun M cj cl dj cq I=>?_,h4⟩;dsimp only at I;split at I
      ·obtain⟨g1,ad,X⟩:=ξ.1 I
       have e:=h3 g1 cj cl dj cq X;subst e;obtain⟨i1,e1⟩:=δ.1 aj;obtain⟨i2,e2⟩:=δ.1 ad;have U:=List.pairwise_iff_getElem.1 a8;rcases Nat.lt_trichotomy M g with a1|heq|a6
       ·exact absurd (e2.trans e1.symm) (U M g i2 i1 a1)
       ·exact heq
       ·exact absurd (e1.trans e2.symm) (U g M i1 i2 a6)
      ·cases I
     ·cases J
    ·dsimp only at J
     split at J
     ·rename_i b6
      obtain⟨g0,aj,N⟩:=ξ.1 J;obtain⟨h1,_,h3,h4⟩:=hs.mrow g0 b bs N;refine⟨h1,fun M=>by simp,fun M bs' I=>?_,h4⟩;dsimp only at I;split at I
      ·obtain⟨g1,ad,X⟩:=ξ.1 I
       have e:=h3 g1 bs' X;subst e;obtain⟨i1,e1⟩:=δ.1 aj;obtain⟨i2,e2⟩:=δ.1 ad;have U:=List.pairwise_iff_getElem.1 a8;rcases Nat.lt_trichotomy M g with a1|heq|a6
       ·exact absurd (e2.trans e1.symm) (U M g i2 i1 a1)
       ·exact heq
       ·exact absurd (e1.trans e2.symm) (U g M i1 i2 a6)
      ·cases I
     ·cases J
    ·dsimp only at J
     split at J
     ·rename_i b6
      obtain⟨g0,aj,N⟩:=ξ.1 J;obtain⟨h1,_,h3,h4,h5⟩:=hs.sub g0 b bs c lim N hm;refine⟨h1,fun M=>by simp,fun M len cap sz ai I=>?_,fun M b' bs' dx I dt=>?_,h5⟩
      ·dsimp only at I
       split at I
       ·obtain⟨g1,ad,X⟩:=ξ.1 I
        exact h3 g1 _ _ _ _ X
       ·cases I
      ·dsimp only at I
       split at I
       ·obtain⟨g1,ad,X⟩:=ξ.1 I
        obtain⟨e,e0⟩:=h4 g1 _ _ _ X dt;subst e;refine⟨?_,e0⟩;obtain⟨i1,e1⟩:=δ.1 aj;obtain⟨i2,e2⟩:=δ.1 ad;have U:=List.pairwise_iff_getElem.1 a8;rcases Nat.lt_trichotomy M g with a1|heq|a6
        ·exact absurd (e2.trans e1.symm) (U M g i2 i1 a1)
        ·exact heq
        ·exact absurd (e1.trans e2.symm) (U g M i1 i2 a6)
       ·cases I
     ·cases J
   ·rw[<-cx]
    refine aA (order:=order) (E:=bu C G st.gen w') (E2:=bu C ⟨fun _=>none,fun i=>if i<k then(order[i]?).bind G.own else none⟩ k w') (fun b o u hu hn=>⟨hu,fun hp=>hn ?_⟩) (fun g r' hg I=>?_) (by simp[bu,b3]) (l7 c6 c7)
    ·rcases(hp:cf C ⟨fun _=>none,fun i=>if i<k then(order[i]?).bind G.own else none⟩ b o)with hp|⟨g,hp⟩|⟨g,len,cap,sz,ai,hp,hle⟩|⟨g,b',bs,lim,hp,hm,hle⟩
     ·exact Or.inl hp
     ·cases hp
     ·simp only at hp
      split at hp
      ·obtain⟨g0,_,N⟩:=ξ.1 hp
       exact Or.inr (Or.inr (.inl ⟨g0,len,cap,sz,ai,N,hle⟩))
      ·cases hp
     ·simp only at hp
      split at hp
      ·obtain⟨g0,_,N⟩:=ξ.1 hp
       exact Or.inr (Or.inr (.inr ⟨g0,b',bs,lim,N,hm,hle⟩))
      ·cases hp
    ·have b0:(if order.idxOf g<k then(order[order.idxOf g]?).bind G.own else none)=some r':=I
     rw[if_pos (by rw[<-b3];exact j6 hg)]at b0;have:order[order.idxOf g]?=some g:=by rw[δ];exact⟨j6 hg,List.getElem_idxOf (j6 hg)⟩
     rw[this]at b0;exact b0
  cases e with
  |normal=>exact⟨hd.trans hp.2.2.2,a7⟩
  |ret=>exact⟨hd.trans hp.2.2.2,a7⟩
  |exit _=>exact he.elim
  |goto _=>exact he.elim
  |panic _=>exact he.elim
  |outgrown=>exact he.elim
theorem QV.bl{rs r e l}(he:match e with|.normal=>True|.ret=>True|_=>False)(hl:lP T st.f st.bx rs=some l)(I:norm [] (bM l)=r):QV T rs r 0 e st:=
 ⟨he,l,[],hl,I,rfl,List.nodup_nil,by simp⟩
variable{n:Nat}{rest l:List Oper}{c:Code}
variable{f':List (Nat×A)}{bx bx':List (Nat×List A)}{op:Op}{pos:String}{af:Array Edge}
def QE(f:List (Nat×A))(bx:List (Nat×List A))(lv:List Nat)(gen:Nat):Exit->St->Prop:=fun e st=>e=.normal∧Sub st.f f∧pG st.bx bx∧(∀g∈lv,g∈st.lv)∧st.gen<=gen
theorem WO.cut(f')(bx')(lv')(gen')(h:WO P C n ops (QE f' bx' lv' gen') l st)(I:Q .normal ⟨f',bx',lv',gen'⟩):WO P C n ops Q l st:=by
 have key:∀(l:List Oper)(act:Act)(w:World),fO P ops (lift C n (QE f' bx' lv' gen')) l act w->fO P ops (lift C n Q) l act w:=by
  intro l
  induction l with
  |nil=>rintro act w ⟨hd,st',⟨G,hs⟩,_,h1,h2,h3,h4⟩;exact⟨hd,_,⟨G,bq.ek (f:=st'.f) (bx:=st'.bx) (lv:=st'.lv) (gen:=st'.gen) hs h1 h2 h3 h4⟩,I⟩
  |cons o l M=>
    intro act w h;simp only[fO]at h⊢;split
    ·rename_i hw
     rw[if_pos hw]at h;refine Oper.wp_mono ?_ (Q:=lift C n Q) (K:=fO P ops (lift C n (QE f' bx' lv' gen')) l) ?_;·grind
     ·unfold Oper.wp at h⊢
      generalize(execOp act.eval o).run P w=r at*
      cases r with
      |ok x w'=>
        cases x<;>simp only[Oper.upon]at h⊢;case enter f args=>
         refine h.mono fun e J he=>?_
         cases e with
         |returned v=>exact he
         |panicked chain=>exact absurd he.2.choose_spec.2.1 (by simp)
         |outgrown=>obtain⟨_,_,he⟩:=he;exact absurd he.2.choose_spec.2.1 (by simp)
        all_goals exact h
      |halt x w'=>cases x<;>simp only[Oper.upon]at h⊢;exact absurd h.2.choose_spec.2.1 (by simp)
    ·grind
 exact fun tmps w hs=>key l _ w (h tmps w hs)
theorem QE.mk(h1:Sub st.f f)(h2:pG st.bx bx)(h3:∀g∈lv,g∈st.lv)(h4:st.gen<=gen):QE f bx lv gen .normal st:=⟨rfl,h1,h2,h3,h4⟩
theorem W.cut(f')(bx')(lv')(gen')(h:W P C n c (fun e st=>match e with|.normal=>QE f' bx' lv' gen' .normal st|e=>Q e st) st)(I:Q .normal ⟨f',bx',lv',gen'⟩):W P C n c Q st:=
 fun tmps w hs=>wp_mono (h tmps w hs) fun e act w⟨hd,st',⟨G,hs⟩,he⟩=>by
  cases e with
  |normal=>exact⟨hd,_,⟨G,bq.ek (f:=st'.f) (bx:=st'.bx) (lv:=st'.lv) (gen:=st'.gen) hs he.2.1 he.2.2.1 he.2.2.2.1 he.2.2.2.2⟩,I⟩
  |_=>exact⟨hd,st',⟨G,hs⟩,he⟩
theorem KY{M}{vs:List Value}{r}(hx:av f x=some (.clo fid []))(O:kJ f xs.toList=some (vs.map fun v=>A.d (.v v)))(ai:∀w,(callFunc fid vs.toArray).run P w=.ok (.value r) w)(I:dy r=true):
 Pu P C n ⟨f,bx,lv,gen⟩ ⟨dst,.call ⟨.value x,xs,M⟩,ty,pos,af,none⟩ (.d (.v r)):=by
 intro G tmps w hs;have N:=hs.av hx;generalize hv:Act.eval ⟨tmps,[]⟩ x=v at N
 cases N with
 |clo _ cs _ U hd=>
 have X:cs=#[]:=Array.eq_empty_of_size_eq_zero (by simpa using U);subst X;obtain⟨h1,h2⟩:=jM hs xs.toList _ O;have J:xs.map (Act.eval ⟨tmps,[]⟩)=vs.toArray:=by
  apply Array.ext_getElem?;intro i;simp only[Array.getElem?_map,List.getElem?_toArray]
  cases hvi:vs[i]?with
  |none=>grind
  |some u=>
    obtain⟨y,hy,I⟩:=h2 i (.d (.v u)) (by rw[τ,hvi];rfl);have ad:xs[i]?=some y:=by simpa using hy
    rw[ad];simp only[Option.map_some,Option.some.injEq];generalize Act.eval ⟨tmps,[]⟩ y=z at I⊢;cases I with|d I=>cases I;rfl
 refine dE (v:=r) (w':=w) ?_ ⟨Below.refl _ _,.d (.v _ I)⟩;unfold execOp;show Sem.run P (do let d←resolve (Act.eval ⟨tmps,[]⟩) ⟨.value x,xs,M⟩ ty;invoke d.target d.args) w=_;simp only[resolve,hv,Deferred.ofValue,Sem.run_bind,Sem.run_pure,Result.andThen_ok,invoke,Array.empty_append,J,Array.append_empty];grind
end
theorem D0{n l bx}(bx')(h:pG bx bx')(k:WO P C n ops Q l ⟨f,bx',lv,gen⟩):WO P C n ops Q l ⟨f,bx,lv,gen⟩:=by intro tmps w ⟨G,hs⟩;exact k tmps w ⟨G,{hs with box:=fun g c I=>hs.box g c (h.le g c I)}⟩
section
variable(T:cG P){n:Nat}
theorem Pu.uC(ho:o.op=.build t parts){d:cV}(X:bh T.l t=some d){M}(hk:d.k=.st M)(hf:oR st.bx st.f (sy T M) parts.toList (d.z.map fun v=>.d (.v v))=some cells):Pu P C n st o (.agg cells):=by
 refine aq fun G tmps w hs=>?_;obtain⟨fl,hu,I,_,_,N⟩:=T.uS X hk;obtain⟨i,z,hi,hz,hn,ad⟩:=zl (E:=bu C G st.gen w) T X;obtain⟨pl,a6,O⟩:=pC P fl.toList (by rw[I];exact N);obtain⟨cs',h1,h2⟩:=wN (tmps:=tmps) hs (sy T M) (pl.toArray[·]?) (fun j x hj=>by
  unfold sy at hj;split at hj
  ·rename_i off ft nm J
   split at hj
   ·rename_i dt ai
    simp only[Option.some.injEq]at hj;subst hj;rw[<-I,τ,ν]at J;obtain⟨fd,aj,he⟩:=J;simp only[Prod.mk.injEq]at he;obtain⟨e1,e2,_⟩:=he;obtain⟨inf,_,U,a1,_⟩:=T.info ai;have:=O j fd inf aj (by rw[e2];exact U);rw[List.getElem?_toArray,this,e1,a1]
   ·cases hj
  ·cases hj) parts.toList _ cells z.cells ad hf
 refine⟨.agg cs',?_,.agg _ _ h2.1 h2.2.1 h2.2.2⟩;have hb:P.built t (parts.map fun(x:Nat×Operand)=>(x.1,Act.eval ⟨tmps,[]⟩ x.2)).toList=some cs':=by unfold Program.built;simp_all
 unfold execOp;rw[ho];show Sem.run P _ w=.ok _ w;simp only[Sem.run_bind,run_build w t _ cs' hb,Result.andThen_ok,Sem.run_pure]
end
section
variable(T:cG P){n:Nat}{bx:List (Nat×List A)}{pos:String}{af:Array Edge}
theorem uC{I:cV}{J}(M:bh T.l t=some I)(N:I.k=.st J)(O:oR bx f (sy T J) parts.toList (I.z.map fun v=>.d (.v v))=some cells):
 Pu P C n ⟨f,bx,lv,gen⟩ ⟨dst,.build t parts,ty,pos,af,none⟩ (.agg cells):=Pu.uC (st:=⟨f,bx,lv,gen⟩) T rfl M N O
end
variable {rs:List RV}
def yf:Bool->List Oper->Option Nat
 |_,[]=>none
 |g,o::r=>match o.op,r with
   |.pick _ _ _,[]=>bif g then o.dst else none
   |.pick _ _ _,[o']=>match o'.op with
     |.assign _=>bif g then o'.dst else none
     |_=>yf (g||o.guard.isSome) r
   |.assign _,_=>none
   |_,_=>yf (g||o.guard.isSome) r
abbrev oV(b:Bool):A:=.d (.v (.bool b))
def y5(d:Nat):List (Nat×A)->List (Nat×A)->Bool
 |[],_=>true
 |(s,_)::r,f0=>(Nat.beq s d||f0.all fun x=>!Nat.beq x.1 s)&&y5 d r f0
section
variable{n:Nat}{rest l:List Oper}{c:Code}
variable{f0 f':List (Nat×A)}{bx bx0 bx':List (Nat×List A)}{lv0:List Nat}{gen0:Nat}{op:Op}{pos:String}{af:Array Edge}
def cB(d:Nat)(y:Bool)(f:List (Nat×A))(bx:List (Nat×List A))(lv:List Nat)(gen:Nat):Exit->St->Prop:=fun e st=>e=.normal∧(∀t a,look ((d,oV y)::f) t=some a->look st.f t=some a)∧st.bx=bx∧st.lv=lv∧st.gen=gen
theorem WO.GR{y}(h:WO P C n ops (cB d y f bx lv gen) l st)(I:Q .normal ⟨(d,oV y)::f,bx,lv,gen⟩):WO P C n ops Q l st:=by
 have key:∀(l:List Oper)(act:Act)(w:World),fO P ops (lift C n (cB d y f bx lv gen)) l act w->fO P ops (lift C n Q) l act w:=by
  intro l
  induction l with
  |nil=>rintro act w ⟨hd,st',⟨G,hs⟩,_,h1,h2,h3,h4⟩;exact⟨hd,_,⟨G,hs.weaken (st':=⟨(d,oV y)::f,bx,lv,gen⟩) ⟨h1,by rw[<-h2];exact fun _ _ h=>h,by rw[<-h3];exact fun _ h=>h,h4.symm⟩⟩,I⟩
  |cons o l M=>
    intro act w h;simp only[fO]at h⊢;split
    ·rename_i hw
     rw[if_pos hw]at h;refine Oper.wp_mono ?_ (Q:=lift C n Q) (K:=fO P ops (lift C n (cB d y f bx lv gen)) l) ?_;·grind
     ·unfold Oper.wp at h⊢
      generalize(execOp act.eval o).run P w=r at*
      cases r with
      |ok x w'=>
        cases x<;>simp only[Oper.upon]at h⊢;case enter f args=>
         refine h.mono fun e J he=>?_
         cases e with
         |returned v=>exact he
         |panicked chain=>exact absurd he.2.choose_spec.2.1 (by simp)
         |outgrown=>obtain⟨_,_,he⟩:=he;exact absurd he.2.choose_spec.2.1 (by simp)
        all_goals exact h
      |halt x w'=>cases x<;>simp only[Oper.upon]at h⊢;exact absurd h.2.choose_spec.2.1 (by simp)
    ·grind
 exact fun tmps w hs=>key l _ w (h tmps w hs)
theorem bJ{y}(hb:yf false l=some d)(h:WO P C n l.toArray (cB d y f bx lv gen) l ⟨f,bx,lv,gen⟩)(I:Q .normal ⟨(d,oV y)::f,bx,lv,gen⟩):W P C n (.region id l.toArray false) Q ⟨f,bx,lv,gen⟩:=
 ab (WO.GR h I)
theorem b7{y}(hl:look f d=some (oV y))(hd:f.drop (f.length-f0.length)=f0)(hj:y5 d (f.take (f.length-f0.length)) f0=true):cB d y f0 bx lv gen .normal ⟨f,bx,lv,gen⟩:=by
 refine⟨rfl,fun t a I=>?_,rfl,rfl,rfl⟩;rw[ct]at I;split at I;·grind
 ·rename_i M
  dsimp only;rw[<-List.take_append_drop (f.length-f0.length) f,hd];generalize f.take (f.length-f0.length)=p at hj;clear hd hl
  induction p with
  |nil=>exact I
  |cons x p J=>
    obtain⟨s,b⟩:=x;simp only[y5,μ,Bool.or_eq_true,I']at hj;rw[List.cons_append,ct,if_neg];·grind
    ·rintro rfl
     rcases hj.1 with h|h
     ·grind[Nat.eq_of_beq_eq_true]
     ·clear J
      have:∀(l:List (Nat×A)),(∀x∈l,(!Nat.beq x.1 s)=true)->look l s=none:=by
       intro l
       induction l with
       |nil=>intro _;rfl
       |cons y l J=>
         intro h;obtain⟨u,v⟩:=y;rw[ct,if_neg];·grind
         ·rintro rfl
          simp_all
      grind
theorem bU{I J b}(hj:gL ops j=some e)(hl:look f e=some (.d (.v (.bool b))))(M:WO P C n ops (cB d0 I f0 bx0 lv0 gen0) (⟨dst,op,ty,pos,af,some (j,want)⟩::rest) ⟨(e,.d (.v (.bool true)))::f,bx,lv,gen⟩)(N:WO P C n ops (cB d0 J f0 bx0 lv0 gen0) (⟨dst,op,ty,pos,af,some (j,want)⟩::rest) ⟨(e,.d (.v (.bool false)))::f,bx,lv,gen⟩):
 WO P C n ops (cB d0 (bif b then I else J) f0 bx0 lv0 gen0) (⟨dst,op,ty,pos,af,some (j,want)⟩::rest) ⟨f,bx,lv,gen⟩:=by
 refine WO.split (st:=⟨f,bx,lv,gen⟩) hl (fun h=>?_) (fun h=>?_);·subst h;exact M
 ·subst h;exact N
end
def pos:List Nat->Nat->Option Nat
 |[],_=>none
 |g::r,h=>bif Nat.beq g h then some 0 else match pos r h with
   |some i=>some (i+1)
   |none=>none
theorem dA:∀{order:List Nat}{g i:Nat},pos order g=some i->order[i]?=some g
 |[],g,i,h=>by simp[pos]at h
 |I::r,g,i,h=>by
   simp only[pos]at h
   cases e:Nat.beq I g with
   |true=>grind[Option.some.injEq,Nat.eq_of_beq_eq_true]
   |false=>
     rw[e]at h;simp only[cond_false]at h;split at h
     ·rename_i j hj
      simp only[Option.some.injEq]at h;subst h;simpa using dA hj
     ·grind
mutual
def cT(order:List Nat):A->A
 |.own g es=>match pos order g with
   |some i=>.own i es
   |none=>.d (.sl es)
 |.ptr g off=>match pos order g with
   |some i=>.ptr i off
   |none=>.any
 |.xs g es=>match pos order g with
   |some i=>.xs i es
   |none=>.any
 |.xp g i off l=>match pos order g with
   |some j=>.xp j i off l
   |none=>.any
 |.mp g es=>match pos order g with
   |some i=>.mp i es
   |none=>.any
 |.gi g I=>match pos order g with
   |some i=>.gi i I
   |none=>.any
 |.mq g es=>match pos order g with
   |some i=>.mq i es
   |none=>.any
 |.mo g es h J=>match pos order g with
   |some i=>.mo i es h J
   |none=>.any
 |.bf g T s=>match pos order g with
   |some i=>.bf i T s
   |none=>.any
 |.np g T u=>match pos order g with
   |some i=>.np i T u
   |none=>.any
 |.sb g n c=>match pos order g with
   |some i=>.sb i n c
   |none=>.any
 |.fx _ _ _=>.any
 |.ol _ _ _ _=>.any
 |.ow g es v=>match pos order g with
   |some i=>.ow i es v
   |none=>.any
 |.lk g n c v=>match pos order g with
   |some i=>.lk i n c v
   |none=>.any
 |.agg l=>.agg (iF order l)
 |.tup l=>.tup (iF order l)
 |.row l=>.row (iF order l)
 |.clo f l=>.clo f (iF order l)
 |.bnd f l=>.bnd f (iF order l)
 |a=>a
def iF(order:List Nat):List A->List A
 |[]=>[]
 |a::l=>cT order a::iF order l
end
theorem iw(order):∀l,iF order l=l.map (cT order)
 |[]=>rfl
 |a::l=>by simp[iF,iw order l]
mutual
def il:A->Bool
 |.own _ _=>false
 |.ptr _ _=>false
 |.xs _ _=>false
 |.xp _ _ _ _=>false
 |.mp _ _=>false
 |.mq _ _=>false
 |.mo _ _ _ _=>false
 |.bf _ _ _=>false
 |.np _ _ _=>false
 |.sb _ _ _=>false
 |.lk _ _ _ _=>false
 |.fx _ _ _=>false
 |.ol _ _ _ _=>false
 |.ow _ _ _=>false
 |.gi _ _=>false
 |.agg l=>lR l
 |.tup l=>lR l
 |.row l=>lR l
 |.clo _ l=>lR l
 |.bnd _ l=>lR l
 |_=>true
def lR:List A->Bool
 |[]=>true
 |a::l=>il a&&lR l
end
mutual
theorem zT(order):∀a,il a=true->cT order a=a
 |.own _ _,h=>by simp[il]at h
 |.ptr _ _,h=>by simp[il]at h
 |.xs _ _,h=>by simp[il]at h
 |.xp _ _ _ _,h=>by simp[il]at h
 |.mp _ _,h=>by simp[il]at h
 |.mq _ _,h=>by simp[il]at h
 |.mo _ _ _ _,h=>by simp[il]at h
 |.bf _ _ _,h=>by simp[il]at h
 |.np _ _ _,h=>by simp[il]at h
 |.sb _ _ _,h=>by simp[il]at h
 |.lk _ _ _ _,h=>by simp[il]at h
 |.fx _ _ _,h=>by simp[il]at h
 |.ol _ _ _ _,h=>by simp[il]at h
 |.ow _ _ _,h=>by simp[il]at h
 |.gi _ _,h=>by simp[il]at h
 |.agg l,h=>by simp only[il]at h;simp[cT,j8 order l h]
 |.tup l,h=>by simp only[il]at h;simp[cT,j8 order l h]
 |.row l,h=>by simp only[il]at h;simp[cT,j8 order l h]
 |.clo _ l,h=>by simp only[il]at h;simp[cT,j8 order l h]
 |.bnd _ l,h=>by simp only[il]at h;simp[cT,j8 order l h]
 |.d _,_=>rfl
 |.ag _,_=>rfl
 |.rowd _,_=>rfl
 |.ni,_=>rfl
 |.fl _,_=>rfl
 |.any,_=>rfl
theorem j8(order):∀l,lR l=true->iF order l=l
 |[],_=>rfl
 |a::l,h=>by simp only[lR,μ]at h;simp[iF,zT order a h.1,j8 order l h.2]
end
def om(order:List Nat)(G:Gh):Gh:=⟨fun i=>(order[i]?).bind G.box,fun i=>(order[i]?).bind G.own⟩
theorem GY{o}(h:cf C (om order G) b o):cf C G b o:=by
 rcases h with h|⟨g,h⟩|⟨g,len,cap,sz,I,h,hle⟩|⟨g,J,bs,lim,h,hm,hle⟩
 ·exact Or.inl h
 ·obtain⟨g0,_,h0⟩:=ξ.1 h
  exact Or.inr (Or.inl ⟨g0,h0⟩)
 ·obtain⟨g0,_,h0⟩:=ξ.1 h
  exact Or.inr (Or.inr (.inl ⟨g0,len,cap,sz,I,h0,hle⟩))
 ·obtain⟨g0,_,h0⟩:=ξ.1 h
  exact Or.inr (Or.inr (.inr ⟨g0,J,bs,lim,h0,hm,hle⟩))
theorem bK.cT(hg:order.length<=gen'){v}(h:bK (bu C G gen w) v a):bK (bu C (om order G) gen' w) v (cT order a):=by
 have hc:∀b o u,cellAt w b o=some u->¬cf C G b o->cellAt w b o=some u∧¬cf C (om order G) b o:=fun b o u h hn=>⟨h,fun hp=>hn (GY hp)⟩;have O:∀{g i:Nat},pos order g=some i->i<gen':=fun hp=>ρ (δ.1 (dA hp)).1 hg;generalize hE:bu C G gen w=E at h
 induction h with
 |any x=>exact .any x
 |d hd=>subst hE;exact .d (hd.mono hc)
 |ag vs l hs hd=>subst hE;exact .ag vs l hs (fun i u x h1 h2=>(hd i u x h1 h2).mono hc)
 |own x g es hd X N=>
   subst hE;simp only[Ab.cT];split
   ·rename_i i hp
    refine .own x i es (hd.mono hc) (O hp) (fun r M=>N r ?_);have:(order[i]?).bind G.own=some r:=M;rw[dA hp]at this;exact this
   ·exact .d (hd.mono hc)
 |agg vs l hs hone _ ih=>simp only[Ab.cT,iw];refine .agg vs _ (by simp[hs]) hone (fun i u x hu U=>?_);grind
 |tup vs l hs _ ih=>simp only[Ab.cT,iw];refine .tup vs _ (by simp[hs]) (fun i u x hu U=>?_);grind
 |rowd b off l u ai hd=>subst hE;exact .rowd b off l u (fun j hj=>hc _ _ _ (ai j hj).1 (ai j hj).2) (fun j x U=>(hd j x U).mono hc)
 |row b off l u ai _ ih=>simp only[Ab.cT,iw];subst hE;refine .row b off _ u (fun j hj=>ai j (by simpa using hj)) (fun j x U=>?_);grind
 |np x g T b0 X ad hT u hp=>
   subst hE;simp only[Ab.cT];split
   ·rename_i i J
    refine .np x i T b0 (O J) ?_ (by exact hT) u hp;show(order[i]?).bind G.box=some b0;rw[dA J];exact ad
   ·exact .any _
 |sb x g n c b0 X ad hn hp=>
   subst hE;simp only[Ab.cT];split
   ·rename_i i J
    refine .sb x i n c b0 (O J) ?_ hn hp;show(order[i]?).bind G.box=some b0;rw[dA J];exact ad
   ·exact .any _
 |fx=>exact .any _
 |ol=>exact .any _
 |ow x v g es hd X N=>
   subst hE;simp only[Ab.cT];split
   ·rename_i i hp
    refine .ow x v i es (hd.mono hc) (O hp) (fun r M=>N r ?_);have:(order[i]?).bind G.own=some r:=M;rw[dA hp]at this;exact this
   ·exact .any _
 |lk x g n c b0 v X ad hn hp=>
   subst hE;simp only[Ab.cT];split
   ·rename_i i J
    refine .lk x i n c b0 v (O J) ?_ hn hp;show(order[i]?).bind G.box=some b0;rw[dA J];exact ad
   ·exact .any _
 |ptr x g off b0 X ad hp=>
   subst hE;simp only[Ab.cT];split
   ·rename_i i J
    refine .ptr x i off b0 (O J) ?_ hp;show(order[i]?).bind G.box=some b0;rw[dA J];exact ad
   ·exact .any _
 |xs x g es X h1 U=>
   subst hE;simp only[Ab.cT];split
   ·rename_i i J
    refine .xs x i es (O J) h1 (fun r M=>?_);have N:(order[i]?).bind G.own=some r:=M;rw[dA J]at N;exact(U r N).ek hc
   ·exact .any _
 |xp x g i off l X h1 U=>
   subst hE;simp only[Ab.cT];split
   ·rename_i j J
    refine .xp x j i off l (O J) h1 (fun r M=>?_);have N:(order[j]?).bind G.own=some r:=M;rw[dA J]at N;exact(U r N).ek hc
   ·exact .any _
 |ni t x=>exact .ni t x
 |fl x es hd aj=>subst hE;exact .fl x es (hd.mono hc) aj
 |bf x g T s X h1 U=>
   subst hE;simp only[Ab.cT];split
   ·rename_i i J
    refine .bf x i T s (O J) h1 (fun r M=>?_);have N:(order[i]?).bind G.own=some r:=M;rw[dA J]at N;exact U r N
   ·exact .any _
 |mp x g es X h1 U=>
   subst hE;simp only[Ab.cT];split
   ·rename_i i J
    refine .mp x i es (O J) h1 (fun r M=>?_);have N:(order[i]?).bind G.own=some r:=M;rw[dA J]at N;exact(U r N).ek hc
   ·exact .any _
 |gi x g I X U=>
   subst hE;simp only[Ab.cT];split
   ·rename_i i J
    refine .gi x i I (O J) (fun r M=>?_);have N:(order[i]?).bind G.own=some r:=M;rw[dA J]at N;exact(U r N).ek hc
   ·exact .any _
 |mq x g es X h1 U=>
   subst hE;simp only[Ab.cT];split
   ·rename_i i J
    refine .mq x i es (O J) h1 (fun r M=>?_);have N:(order[i]?).bind G.own=some r:=M;rw[dA J]at N;exact(U r N).ek hc
   ·exact .any _
 |mo x g es hole ob X h1 U=>
   subst hE;simp only[Ab.cT];split
   ·rename_i i J
    refine .mo x i es hole ob (O J) h1 (fun r M=>?_);have N:(order[i]?).bind G.own=some r:=M;rw[dA J]at N;exact(U r N).ek hc
   ·exact .any _
 |clo f vs l hs _ ih=>simp only[Ab.cT,iw];refine .clo f vs _ (by simp[hs]) (fun i u x hu U=>?_);grind
 |bnd f vs l hs _ ih=>simp only[Ab.cT,iw];refine .bnd f vs _ (by simp[hs]) (fun i u x hu U=>?_);grind
def nodupB:List Nat->Bool
 |[]=>true
 |a::l=>(l.all fun b=>!Nat.beq a b)&&nodupB l
theorem eX:∀{l:List Nat},nodupB l=true->l.Nodup
 |[],_=>List.nodup_nil
 |a::l,h=>by simp only[nodupB,μ,I']at h;refine List.nodup_cons.2 ⟨fun hm=>?_,eX h.2⟩;have:=h.1 a hm;simp_all
def pA(order:List Nat)(f:List (Nat×A)):List (Nat×A)->Prop
 |[]=>True
 |(t,a)::r=>(match look f t with|some x=>some (cT order x)|none=>none)=some a∧pA order f r
def py(f:List (Nat×A)):List (Nat×A)->Prop
 |[]=>True
 |(t,a)::r=>look f t=some a∧il a=true∧py f r
def kR(order:List Nat)(bx:List (Nat×List A)):List (Nat×List A)->Prop
 |[]=>True
 |(i,l)::r=>(match order[i]?with|some g=>(match bh bx g with|some x=>some (iF order x)|none=>none)|none=>none)=some l∧kR order bx r
def ml(order:List Nat)(bx:List (Nat×List A)):List (Nat×List A)->Prop
 |[]=>True
 |(i,l)::r=>(match order[i]?with|some g=>bh bx g|none=>none)=some l∧lR l=true∧ml order bx r
def tR(order lv:List Nat):List Nat->Bool
 |[]=>true
 |i::r=>(match order[i]?with|some g=>lv.any fun h=>Nat.beq h g|none=>false)&&tR order lv r
theorem pA.le:∀{f':List (Nat×A)},pA order f f'->∀t a',look f' t=some a'->∃a,look f t=some a∧cT order a=a'
 |[],_,t,a,h=>by simp[look]at h
 |(s,b)::r,hs,t,a,h=>by
   rw[ct]at h;split at h
   ·rename_i e
    subst e;simp only[Option.some.injEq]at h;subst h;have:=hs.1;grind
   ·exact pA.le hs.2 t a h
theorem py.le:∀{f':List (Nat×A)},py f f'->∀t a',look f' t=some a'->∃a,look f t=some a∧cT order a=a'
 |[],_,t,a,h=>by simp[look]at h
 |(s,b)::r,hs,t,a,h=>by
   rw[ct]at h;split at h
   ·rename_i e
    subst e;simp only[Option.some.injEq]at h;subst h;exact⟨b,hs.1,zT order b hs.2.1⟩
   ·exact py.le hs.2.2 t a h
theorem kR.le{f}:∀{f':List (Nat×List A)},kR order f f'->∀i l',bh f' i=some l'->∃g l,order[i]?=some g∧bh f g=some l∧l.map (cT order)=l'
 |[],_,t,a,h=>by simp[bh]at h
 |(s,b)::r,hs,t,a,h=>by
   rw[cZ]at h;split at h
   ·rename_i e
    subst e;simp only[Option.some.injEq]at h;subst h;have:=hs.1;grind[Option.some.injEq,iw]
   ·exact kR.le hs.2 t a h
theorem ml.le{f}:∀{f':List (Nat×List A)},ml order f f'->∀i l',bh f' i=some l'->∃g l,order[i]?=some g∧bh f g=some l∧l.map (cT order)=l'
 |[],_,t,a,h=>by simp[bh]at h
 |(s,b)::r,hs,t,a,h=>by
   rw[cZ]at h;split at h
   ·rename_i e
    subst e;simp only[Option.some.injEq]at h;subst h;have:=hs.1;split at this
    ·rename_i g I
     exact⟨g,b,I,this,by rw[<-iw];exact j8 order b hs.2.1⟩
    ·grind
   ·exact ml.le hs.2.2 t a h
theorem wE:∀{lv':List Nat},tR order lv lv'=true->∀i∈lv',∃g,order[i]?=some g∧g∈lv
 |[],_,i,h=>by simp at h
 |j::r,h,i,hi=>by
   simp only[tR,μ]at h;rcases N'.1 hi with rfl|hi
   ·grind[List.any_eq_true,Nat.eq_of_beq_eq_true]
   ·exact wE h.2 i hi
theorem AZ{f2}:look (f++f2) t=some a->look f t=some a∨look f2 t=some a:=by
 induction f with
 |nil=>exact Or.inr
 |cons x f I=>grind[ct]
theorem lO{f f2:List (Nat×List A)}{a:List A}:bh (f++f2) t=some a->bh f t=some a∨bh f2 t=some a:=by
 induction f with
 |nil=>exact Or.inr
 |cons x f I=>grind[cZ]
section
variable{n:Nat}{rest l:List Oper}{c:Code}
variable{f0 f':List (Nat×A)}{bx bx0 bx':List (Nat×List A)}{lv0:List Nat}{gen0:Nat}
theorem bq.cT(h:bq C n st G tmps w)(order:List Nat)(a8:order.Nodup)(hg:order.length<=gen')(U:∀i,i<C.bx.length->order[i]?=some i)(hf:∀t a',look f' t=some a'->∃a,look st.f t=some a∧Ab.cT order a=a')(hb:∀i l',bh bx' i=some l'->∃g l,order[i]?=some g∧bh st.bx g=some l∧l.map (Ab.cT order)=l')(hl:∀i∈lv',∃g,order[i]?=some g∧g∈st.lv):bq C n ⟨f',bx',lv',gen'⟩ (om order G) tmps w:=by
 have M:∀{i j g:Nat},order[i]?=some g->order[j]?=some g->i=j:=by
  intro i j g h1 h2;obtain⟨i1,e1⟩:=δ.1 h1;obtain⟨i2,e2⟩:=δ.1 h2;have ad:=List.pairwise_iff_getElem.1 a8;rcases Nat.lt_trichotomy i j with U|heq|b0
  ·exact absurd (e1.trans e2.symm) (ad i j i1 i2 U)
  ·exact heq
  ·exact absurd (e2.trans e1.symm) (ad j i i2 i1 b0)
 have ai:∀{i g:Nat},order[i]?=some g->i<gen':=fun h=>ρ (δ.1 h).1 hg
 refine{size:=h.size,frame:=fun t a' ha=>?_,box:=fun i l' hc=>?_,gbox:=fun i b X=>?_,inj:=fun i j b h1 h2=>?_,live:=fun i hi=>?_,gown:=fun i r J=>?_,
          row:=fun i b len cap sz aj J=>?_,mrow:=fun i b bs J=>?_,sub:=fun i b bs c lim J hm=>?_,gcell:=fun i b X=>(let⟨g,_,h2⟩:=ξ.1 X;h.gcell g b h2),xold:=h.xold,kold:=h.kold,lent:=fun i b hb=>?_,fr:=h.fr}
 ·obtain⟨a,h1,h2⟩:=hf t a' ha
  obtain⟨v,hv,J⟩:=h.frame t a h1;exact⟨v,hv,by rw[<-h2];exact J.cT hg⟩
 ·obtain⟨g,l,h1,h2,h3⟩:=hb i l' hc
  obtain⟨b,cs,T,h4,h5,N,O,I⟩:=h.box g l h2;refine⟨b,cs,T,by simp[om,h1,h4],h5,by rw[<-h3];simpa using N,O,fun j u a hu ha=>?_⟩;rw[<-h3,τ,ν]at ha;obtain⟨y,hy,rfl⟩:=ha;exact(I j u y hu hy).cT hg
 ·obtain⟨g,h1,h2⟩:=ξ.1 X
  exact⟨ai h1,(h.gbox g b h2).2⟩
 ·obtain⟨g1,h3,h4⟩:=ξ.1 h1
  obtain⟨g2,h5,N⟩:=ξ.1 h2;have e:=h.inj g1 g2 b h4 N;subst e;exact M h3 h5
 ·obtain⟨g,h1,h2⟩:=hl i hi
  obtain⟨r,J⟩:=h.live g h2;exact⟨r,by simp[om,h1,J]⟩
 ·obtain⟨g,h1,h2⟩:=ξ.1 J
  exact ai h1
 ·obtain⟨g,h1,h2⟩:=ξ.1 J
  obtain⟨h3,h4,h5,N⟩:=h.row g b len cap sz aj h2;refine⟨h3,fun j hj=>?_,fun j a1 a6 b2 a7 hj=>?_,N⟩
  ·obtain⟨g2,_,I⟩:=ξ.1 hj
   exact h4 g2 I
  ·obtain⟨g2,O,I⟩:=ξ.1 hj
   have e:=h5 g2 a1 a6 b2 a7 I;subst e;exact M O h1
 ·obtain⟨g,h1,h2⟩:=ξ.1 J
  obtain⟨h3,h4,h5,N⟩:=h.mrow g b bs h2;refine⟨h3,fun j hj=>?_,fun j bs' hj=>?_,N⟩
  ·obtain⟨g2,_,I⟩:=ξ.1 hj
   exact h4 g2 I
  ·obtain⟨g2,O,I⟩:=ξ.1 hj
   have e:=h5 g2 bs' I;subst e;exact M O h1
 ·obtain⟨g,h1,h2⟩:=ξ.1 J
  obtain⟨h3,h4,h5,N,O⟩:=h.sub g b bs c lim h2 hm;refine⟨h3,fun j hj=>?_,fun j len cap sz aj hj=>?_,fun j b' bs' b4 hj b3=>?_,O⟩
  ·obtain⟨g2,_,I⟩:=ξ.1 hj
   exact h4 g2 I
  ·obtain⟨g2,_,I⟩:=ξ.1 hj
   exact h5 g2 _ _ _ _ I
  ·obtain⟨g2,I,h9⟩:=ξ.1 hj
   obtain⟨e,e0⟩:=N g2 _ _ _ h9 b3;subst e;exact⟨M I h1,e0⟩
 ·have h1:=h.lent i b hb
  have h2:=U i (δ.1 hb).1;show(order[i]?).bind G.box=some b;rw[h2];exact h1
def LR(C:Ctx)(n:Nat){ι:Type}(S:ι->St)(I:ι->Nat):Nat->St->Prop:=fun m st=>∃i,I i=m∧∀(tmps:Array Value)(w:World),fv C n st tmps w->fv C n (S i) tmps w
def tj:Nat->List Nat->Nat->Bool
 |0,_,_=>true
 |_+1,[],_=>false
 |m+1,g::r,i=>Nat.beq g i&&tj m r (i+1)
theorem rI:∀{m:Nat}{l:List Nat}{i:Nat},tj m l i=true->∀j,j<m->l[j]?=some (i+j)
 |0,_,_,_,j,h=>absurd h (Nat.not_lt_zero _)
 |m+1,[],_,h,_,_=>by simp[tj]at h
 |m+1,g::r,i,h,j,hj=>by
   simp only[tj,μ]at h
   cases j with
   |zero=>simpa using Γ h.1
   |succ j=>have:=rI h.2 j (by omega);simpa[Nat.add_assoc,Nat.add_comm 1 j]using this
def lT(order:List Nat)(gen I:Nat):Bool:=nodupB order&&Nat.ble order.length gen&&tj I order 0
theorem fv.cT{M:Nat}[hnb:NB C M]{fi:List (Nat×A)}{bi:List (Nat×List A)}(order:List Nat)(I:lT order gen' M=true)(U:pA order f f')(N:py f fi)(hb:kR order bx bx')(O:ml order bx bi)(hl:tR order lv lv'=true)(h:fv C n ⟨f,bx,lv,gen⟩ tmps w):fv C n ⟨f'++fi,bx'++bi,lv',gen'⟩ tmps w:=by
 obtain⟨G,h⟩:=h;simp only[lT,μ]at I;exact⟨_,h.cT order (eX I.1.1) (κ I.1.2) (fun i hi=>by have:=rI I.2 i (by rw[<-hnb.h];exact hi);simpa using this) (fun t a J=>(AZ J).elim (U.le t a) (N.le t a)) (fun t a J=>(lO J).elim (hb.le t a) (O.le t a)) (wE hl)⟩
theorem W.ca[hnb:NB C J](V:ι->List (Nat×A))(fi)(B:ι->List (Nat×List A))(bi lv' gen')(I:ι->Nat)(order)(i:ι)(O:lT order gen' J=true)(U:pA order f (V i))(M:py f fi)(hb:kR order bx (B i))(N:ml order bx bi)(hl:tR order lv lv'=true)(X:∀i,W P C n c (QL (LR C n (fun i=>⟨V i++fi,B i++bi,lv',gen'⟩) I) (I i) Q) ⟨V i++fi,B i++bi,lv',gen'⟩):W P C n (.loop c) Q ⟨f,bx,lv,gen⟩:=by
 refine W.loop (LR C n (fun i=>⟨V i++fi,B i++bi,lv',gen'⟩) I) (fun m st⟨i,hm,hle⟩=>?_) (m:=I i) ⟨i,rfl,fun tmps w h=>fv.cT order O U M hb N hl h⟩;subst hm;exact fun tmps w hs=>X i tmps w (hle tmps w hs)
theorem W.cg[hnb:NB C J]{V:ι->List (Nat×A)}{fi}{B:ι->List (Nat×List A)}{bi}{I:ι->Nat}(order)(i:ι)(hm:I i<m)(O:lT order gen' J=true)(U:pA order f (V i))(M:py f fi)(hb:kR order bx (B i))(N:ml order bx bi)(hl:tR order lv lv'=true):
 QL (LR C n (fun i=>⟨V i++fi,B i++bi,lv',gen'⟩) I) m Q .normal ⟨f,bx,lv,gen⟩:=
 ⟨I i,hm,i,rfl,fun _ _ h=>fv.cT order O U M hb N hl h⟩
end
section
variable{n:Nat}{x y:Code}
theorem cr{l:List α}{c b}(I:av st.f c=some (.d (.v (.bool b))))(hb:b=decide ((k:Int)<(l.length:Int)))(J:k<=l.length)(M:∀a,l[k]?=some a->l.drop k=a::l.drop (k+1)->k<l.length->W P C n x Q st)(N:k=l.length->l.drop k=[]->W P C n y Q st):W P C n (.cond c x y) Q st:=by
 grind[W.cond,List.drop_eq_getElem_cons]
theorem gx{s:ByteArray}{b}(h:s.data.toList[k]?=some b):s[((k:Int)).toNat]?=some b:=by
 have:s[k]?=s.data.toList[k]?:=by
  rcases Nat.lt_or_ge k s.size with I|I
  ·rw[getElem?_pos s k I,List.getElem?_eq_getElem (by simpa using I)];rfl
  ·simp_all
 grind
end
def qo(m:Nat):List (List D)->Bool
 |[]=>true
 |x::r=>Nat.beq x.length m&&qo m r
theorem ki:∀{l:List (List D)},qo m l=true->∀x∈l,x.length=m
 |[],_,x,h=>by simp at h
 |y::r,h,x,I=>by
   simp only[qo,μ]at h;rcases N'.1 I with rfl|I
   ·simp_all
   ·exact ki h.2 x I
section
variable(T:cG P){n:Nat}{rest:List Oper}{c:Code}
variable{bx:List (Nat×List A)}{pos:String}{af:Array Edge}
theorem bZ{len}{I:cV}(O:bh T.l t=some td)(U:td.k=.slice e)(he:bh T.l e=some I)(M:nv f 0 parts.toList=some es)(hlen:es.length=len)(X:Nat.blt 0 I.n=true)(N:Nat.ble (len*I.n) 16777216=true)(hl:qo I.n es=true)(J:Nat.blt 0 len=true):Pu P C n ⟨f,bx,lv,gen⟩ ⟨dst,.buildSlice t len parts,ty,pos,af,none⟩ (.d (.sl es)):=
 Pu.Ii (st:=⟨f,bx,lv,gen⟩) T rfl O U he M hlen X N (ki hl) J
theorem je{lo hi}{s:ByteArray}{l h:Int}{I J:IntKind}(O:av f x=some (.d (.v (.string s))))(M:av f lo=some (.d (.v (.int I l))))(N:av f hi=some (.d (.v (.int J h))))(U:bh T.l t=some td)(X:td.k=.str)(h0:0<=l)(h1:l<=h)(h2:h<=s.size):Pu P C n ⟨f,bx,lv,gen⟩ ⟨dst,.slice t x (some lo) (some hi) none,ty,pos,af,none⟩ (.d (.v (.string (s.extract l.toNat h.toNat)))):=
 Pu.GB (st:=⟨f,bx,lv,gen⟩) T (lo:=some lo) (hi:=some hi) rfl U X O (l:=l) (h:=h) ⟨I,M⟩ ⟨J,N⟩ h0 h1 h2
theorem LK{hi}{I:cV}{h:Int}{J:IntKind}(O:av f x=some a)(M:jI a=some es)(N:av f hi=some (.d (.v (.int J h))))(U:bh T.l t=some td)(X:td.k=.slice e)(he:bh T.l e=some I)(h0:0<=h)(h1:h<=es.length)(hl:∀x∈es,x.length=I.n):Pu P C n ⟨f,bx,lv,gen⟩ ⟨dst,.slice t x none (some hi) none,ty,pos,af,none⟩ (.d (.sl ((es.take h.toNat).drop 0))):=
 Pu.IJ (st:=⟨f,bx,lv,gen⟩) T (lo:=none) (hi:=some hi) rfl U X he O M (l:=0) (h:=h) rfl ⟨J,N⟩ (Int.le_refl _) h0 h1 hl
end
section
variable{n:Nat}{rest:List Oper}
variable{bx:List (Nat×List A)}{op:Op}{pos:String}{af:Array Edge}
theorem aF:bK E undef (.tup []):=.tup #[] [] rfl (by simp)
theorem WO.bD{b}(J:o.guard=some (j,want))(hj:gL ops j=some d)(hl:look st.f d=some (.d (.v (.bool b))))(hb:(b==want)=false)(hd:fY n o.dst=true)(h:WO P C n ops Q rest (st.put o.dst (.tup []))):WO P C n ops Q (o::rest) st:=by
 intro tmps w ⟨G,hs⟩;simp only[fO,Region.wanted,J];rw[qQ hj (xC hs hl)];have I:(some b==some want)=false:=by simpa using hb
 simp only[I,L',if_false];rw[Act.iP];exact h _ _ ⟨G,hs.put (dp hd) aF⟩
theorem WO.kn(J:o.guard=some (j,want))(hj:gL ops j=some d)(hl:look st.f d=some (.tup []))(hd:fY n o.dst=true)(h:WO P C n ops Q rest (st.put o.dst (.tup []))):WO P C n ops Q (o::rest) st:=by
 intro tmps w ⟨G,hs⟩;obtain⟨v,M,N⟩:=hs.frame _ _ hl;have O:yielded ops tmps j=none:=by unfold yielded;unfold gL at hj;rw[hj];simp only[Option.bind_some,M];cases N;rfl
 simp only[fO,Region.wanted,J,O];have I:((none:Option Bool)==some want)=false:=rfl;simp only[I,L',if_false];rw[Act.iP];exact h _ _ ⟨G,hs.put (dp hd) aF⟩
theorem bD{b}(hj:gL ops j=some e)(hl:look f e=some (.d (.v (.bool b))))(hb:(b==want)=false)(hd:Nat.blt d n=true)(h:WO P C n ops Q rest ⟨(d,.tup [])::f,bx,lv,gen⟩):
 WO P C n ops Q (⟨some d,op,ty,pos,af,some (j,want)⟩::rest) ⟨f,bx,lv,gen⟩:=
 WO.bD (st:=⟨f,bx,lv,gen⟩) rfl hj hl hb hd h
theorem kn(hj:gL ops j=some e)(hl:look f e=some (.tup []))(hd:Nat.blt d n=true)(h:WO P C n ops Q rest ⟨(d,.tup [])::f,bx,lv,gen⟩):
 WO P C n ops Q (⟨some d,op,ty,pos,af,some (j,want)⟩::rest) ⟨f,bx,lv,gen⟩:=
 WO.kn (st:=⟨f,bx,lv,gen⟩) rfl hj hl hd h
theorem dP{f0 bx0 lv0 gen0 I J b}(hj:gL ops j=some e)(hl:look f e=some (.d (.v (.bool b))))(M:b=true->WO P C n ops (cB d0 I f0 bx0 lv0 gen0) (⟨dst,op,ty,pos,af,some (j,want)⟩::rest) ⟨(e,.d (.v (.bool true)))::f,bx,lv,gen⟩)(N:b=false->WO P C n ops (cB d0 J f0 bx0 lv0 gen0) (⟨dst,op,ty,pos,af,some (j,want)⟩::rest) ⟨(e,.d (.v (.bool false)))::f,bx,lv,gen⟩):
 WO P C n ops (cB d0 (bif b then I else J) f0 bx0 lv0 gen0) (⟨dst,op,ty,pos,af,some (j,want)⟩::rest) ⟨f,bx,lv,gen⟩:=by
 refine WO.split (st:=⟨f,bx,lv,gen⟩) hl (fun h=>?_) (fun h=>?_);·subst h;exact M Z
 ·subst h;exact N rfl
end
section
variable{n:Nat}{rest l:List Oper}{c:Code}
variable{f0:List (Nat×A)}{bx bx0:List (Nat×List A)}{lv0:List Nat}{gen0:Nat}{op:Op}{pos:String}{af:Array Edge}
theorem bc{s x y b}(hl:look f s=some (.d (.v (.bool b))))(I:b=true->W P C n x Q ⟨(s,.d (.v (.bool true)))::f,bx,lv,gen⟩)(J:b=false->W P C n y Q ⟨(s,.d (.v (.bool false)))::f,bx,lv,gen⟩):
 W P C n (.cond (.tmp s) x y) Q ⟨f,bx,lv,gen⟩:=by
 refine W.cond (b:=b) hl (fun h=>?_) (fun h=>?_);·exact fun tmps w⟨G,hs⟩=>I h tmps w ⟨G,hs.known hl (by rw[h])⟩
 ·exact fun tmps w⟨G,hs⟩=>J h tmps w ⟨G,hs.known hl (by rw[h])⟩
theorem W.GR{y}(h:W P C n c (cB d y f bx lv gen) st)(I:Q .normal ⟨(d,oV y)::f,bx,lv,gen⟩):W P C n c Q st:=
 fun tmps w hs=>wp_mono (h tmps w hs) fun e act w⟨hd,st',⟨G,hs⟩,he,h1,h2,h3,h4⟩=>by subst he;exact⟨hd,_,⟨G,hs.weaken (st':=⟨(d,oV y)::f,bx,lv,gen⟩) ⟨h1,by rw[<-h2];exact fun _ _ h=>h,by rw[<-h3];exact fun _ h=>h,h4.symm⟩⟩,I⟩
theorem oD(T:cG P){y}(hb:yf false l=some d)(hB:Region.lexB .any l.toArray=true)(h:CH P C n bx lv gen l.toArray (cB d y f bx lv gen .normal) l f)(I:Q .normal ⟨(d,oV y)::f,bx,lv,gen⟩):
 W P C n (.region id l.toArray true) Q ⟨f,bx,lv,gen⟩:=W.GR (W.dD T (Q:=cB d y f bx lv gen) hB h) I
theorem oL{I J b}(hj:gL ops j=some e)(hl:look f e=some (.d (.v (.bool b))))(M:b=true->CH P C n bx lv gen ops (cB d0 I f0 bx0 lv0 gen0 .normal) (⟨dst,op,ty,pos,af,some (j,want)⟩::rest) ((e,.d (.v (.bool true)))::f))(N:b=false->CH P C n bx lv gen ops (cB d0 J f0 bx0 lv0 gen0 .normal) (⟨dst,op,ty,pos,af,some (j,want)⟩::rest) ((e,.d (.v (.bool false)))::f)):
 CH P C n bx lv gen ops (cB d0 (bif b then I else J) f0 bx0 lv0 gen0 .normal) (⟨dst,op,ty,pos,af,some (j,want)⟩::rest) f:=by
 grind[HJ]
theorem Gm{I J b}(hj:gL ops j=some e)(hl:look f e=some (.d (.v (.bool b))))(M:CH P C n bx lv gen ops (cB d0 I f0 bx0 lv0 gen0 .normal) (⟨dst,op,ty,pos,af,some (j,want)⟩::rest) ((e,.d (.v (.bool true)))::f))(N:CH P C n bx lv gen ops (cB d0 J f0 bx0 lv0 gen0 .normal) (⟨dst,op,ty,pos,af,some (j,want)⟩::rest) ((e,.d (.v (.bool false)))::f)):
 CH P C n bx lv gen ops (cB d0 (bif b then I else J) f0 bx0 lv0 gen0 .normal) (⟨dst,op,ty,pos,af,some (j,want)⟩::rest) f:=
 oL hj hl (fun _=>M) (fun _=>N)
end
section
variable(T:cG P){n:Nat}{rest:List Oper}{c:Code}
variable{bx:List (Nat×List A)}{pos:String}{af:Array Edge}
theorem sY(hl:look f d=some (.d (.v (.slice none 0 0))))(hd:Nat.blt d n=true)(h:W P C n c Q ⟨(d,.own gen [])::f,bx,gen::lv,gen+1⟩):W P C n c Q ⟨f,bx,lv,gen⟩:=
 W.J6 (st:=⟨f,bx,lv,gen⟩) hl hd h
theorem eT{fn:α->List D}{l:List α}{a:α}{I:cV}{b}(O:av f x=some (.own g (l.map fn)))(U:av f y=some b)(J:jI b=some [fn a])(X:bh T.l t=some td)(hk:td.k=.slice e)(he:bh T.l e=some I)(M:(lv.any fun h=>Nat.beq h g)=true)(hz:Nat.blt 0 I.n=true)(N:Nat.blt 0 I.b=true)(hd:Nat.blt d n=true)(hl:∀a,(fn a).length=I.n)(hb:(l.length+1)*I.b<=140737488355328)(h:WO P C n ops Q rest ⟨(d,.own gen ((l++[a]).map fn))::f,bx,gen::bR lv g,gen+1⟩):WO P C n ops Q (⟨some d,.call ⟨.builtin .append,#[x,y],#[t,t]⟩,ty,pos,af,none⟩::rest) ⟨f,bx,lv,gen⟩:=by
 grind[List.any_eq_true,Nat.eq_of_beq_eq_true,wT,List.mem_singleton]
end
end Go.Ab
