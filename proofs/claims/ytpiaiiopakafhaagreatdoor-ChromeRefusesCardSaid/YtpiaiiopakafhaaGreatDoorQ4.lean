import Derived.Test.YtpiaiiopakafhaaGreatDoorQ3
namespace Go.Ab
open Go.RowKit Go.MapKept
def wJ (w:World) (pv:Nat→Nat→Prop) (I:Option Nat) (bs:List (Nat×Nat)) (v:Value) (es:List (List D)):Prop:=
 match I with
 | none=>(v=.slice none 0 0∨∃ b,v=.slice (some ⟨b,0,none⟩) 0 0)∧es=[]
 | some b=>∃ cap sz cur T,v=.slice (some ⟨b,0,none⟩) es.length cap∧(b,0)∈bs∧(∀ (e:List D),e∈es→e.length=sz)∧w.heap[b]? = some (.cells cur T (0,0))∧cur.size=cap*sz∧es.length≤cap∧cap≤maxLen∧0 < sz∧0 < es.length∧fe cur ∧
  ∀ (i j:Nat) (e:List D) (d:D),es[i]? = some e→e[j]? = some d→∃ u,cellAt w b (i*sz+j)=some u∧bE w pv u d
def XP (l:List (Value×List (List D))) (hole:Option Nat) (w:World) (pv:Nat→Nat→Prop) (bs:List (Nat×Nat)):Prop:=
 ∃ ps:Nat→Option Nat,(∀ i j c,i < l.length→j < l.length→hole≠some i→hole≠some j→ps i=some c→ps j=some c→i=j) ∧
   ∀ (i:Nat) (p:Value×List (List D)),l[i]? = some p→hole≠some i→wJ w pv (ps i) bs p.1 p.2
theorem wJ.mono {w w':World} {pv J:Nat→Nat→Prop} {I:Option Nat} {bs bs':List (Nat×Nat)} {v:Value} {es:List (List D)} (O:∀ {u:Value} {d:D},bE w pv u d→bE w' J u d) (hb:∀ c,I=some c→(c,0)∈bs→(c,0)∈bs'∧w'.heap[c]? = w.heap[c]?) (h:wJ w pv I bs v es):wJ w' J I bs' v es:=by
 cases I with
 | none=>exact h
 | some b=>obtain⟨cap,sz,cur,T,h1,h2,h3,h4,h5,U,X,h8,h9,M,N⟩:=h;obtain⟨q1,q2⟩:=hb b rfl h2;refine⟨cap,sz,cur,T,h1,q1,h3,q2.trans h4,h5,U,X,h8,h9,M,fun i j e d he hd=>?_⟩;obtain⟨u,t1,t2⟩:=N i j e d he hd;exact⟨u,by rw[cw q2];exact t1,O t2⟩
theorem XP.mono {l:List (Value×List (List D))} {hole:Option Nat} {w w':World} {pv I:Nat→Nat→Prop} {bs:List (Nat×Nat)} (J:∀ b o u,cellAt w b o=some u→¬ pv b o→cellAt w' b o=some u∧¬ I b o) (hb:∀ p∈bs,w'.heap[p.1]? = w.heap[p.1]?) (h:XP l hole w pv bs):XP l hole w' I bs:=by obtain⟨ps,h1,h2⟩:=h;exact⟨ps,h1,fun i p hp M=>(h2 i p hp M).mono (fun hd=>hd.mono J) fun c _ hm=>⟨hm,hb _ hm⟩⟩
def xI (l:List (Value×List (List D))) (hole:Option Nat):Iv:=⟨fun w pv bs _=>XP l hole w pv bs,XP.mono⟩
section
variable {P:Program} {C:Ctx} {n:Nat} {Q:Exit→St→Prop} {cd:Code}
variable {f f':List (Nat×A)} {bx bx':List (Nat×List A)} {lv:List Nat} {gen:Nat}
theorem Je (O J:Nat) {M I:List A} (hq:aY bx O=some M) (U:M.set J (.gi gen (xI [] none))=I) (h:W P C n cd Q ⟨f,(O,I)::bx,gen::lv,gen+1⟩):W P C n cd Q ⟨f,bx,lv,gen⟩:=by
 subst U;intro tmps w ⟨G,hs⟩;obtain⟨X,ai,ho,hle,ad⟩:=hs.yp;refine h tmps w ⟨X,ad.fw (f:=f) (bx:=bx) (lv:=gen::lv) (gen:=gen+1) hq (by simp) fun b cs T _ _ q3 i x a hx N=>?_⟩;by_cases e:J=i
 ·subst e
  by_cases hlt:J < M.length
  ·rw[List.getElem?_set_self hlt] at N
   simp only[Option.some.injEq] at N;subst N;refine .gi _ _ _ (by simp[bj]) fun r hr=>?_;have:X.own gen=some r:=hr;rw[ho] at this;cases this;exact⟨fun _=>none,fun i j c hi=>by simp at hi,fun i p hp=>by simp at hp⟩
  ·grind
 ·grind
theorem Jd (O J:Nat) {N M:List A} {g:Nat} {l:List (Value×List (List D))} (U:aY bx O=some N) (hj:N[J]? = some (.gi g (xI l none))) (X:(lv.any fun h=>Nat.beq h g)=true) (ad:N.set J (.gi g (xI (l++[(.slice none 0 0,[])]) none))=M)
 (h:W P C n cd Q ⟨f,(O,M)::bx,lv,gen⟩):W P C n cd Q ⟨f,bx,lv,gen⟩:=by
 subst ad;intro tmps w ⟨G,hs⟩;obtain⟨bs,_,ai,ps,h1,h2⟩:=hs.j6 U hj X;refine h tmps w ⟨G,hs.fw U (by simp) fun b cs T _ _ q3 i x a hx I=>?_⟩;by_cases e:J=i
 ·subst e
  rw[List.getElem?_set_self (List.getElem?_eq_some_iff.1 hj).1] at I;simp only[Option.some.injEq] at I;subst I
  cases q3 J x _ hx hj with
  | gi _ _ _ aj _=>
  refine .gi _ _ _ aj fun r hr=>?_;have:G.own g=some r:=hr;rw[ai] at this;cases this;refine⟨fun i=>if i < l.length then ps i else none,fun i j c _ _ _ _ hi hj=>?_,fun i p hp hh=>?_⟩;·grind
  ·dsimp only
   split
   ·rename_i a1
    rw[List.getElem?_append_left a1] at hp;exact h2 i p hp hh
   ·rename_i a6
    rw[List.getElem?_append_right (by omega)] at hp;have:i - l.length=0:=by grind
    rw[this] at hp;simp only[List.getElem?_cons_zero,Option.some.injEq] at hp;subst hp;exact⟨.inl rfl,rfl⟩
 ·rw[List.getElem?_set_ne e] at I
  exact q3 i x a hx I
theorem Fa (gq jq s i:Nat) {cq:List A} {g:Nat} {l:List (Value×List (List D))} {v:Value} {es:List (List D)} (hl:look f s=some (.d (.v v))) (I:aY bx gq=some cq) (hj:cq[jq]? = some (.gi g (xI l none))) (b0:(lv.any fun h=>Nat.beq h g)=true) (hi:l[i]? = some (v,es)) (b2:Nat.blt s n=true)
 {lv':List Nat} (b3:gen::(gen+1)::bD lv g=lv') {aj:List A} (b4:cq.set jq (.gi gen (xI l (some i)))=aj) (h:W P C n cd Q ⟨(s,.xs (gen+1) es)::f,(gq,aj)::bx,lv',gen+2⟩):W P C n cd Q ⟨f,bx,lv,gen⟩:=by
 subst b4;subst b3;intro tmps w ⟨G,hs⟩;obtain⟨bs,_,b5,ps,X,N⟩:=hs.j6 I hj b0;have b6:i < l.length:=(List.getElem?_eq_some_iff.1 hi).1;have O:wJ w (bM C G) (ps i) bs v es:=N i _ hi (by simp);obtain⟨x,hx,J⟩:=hs.frame s _ hl;cases J with | d J=>cases J with | v _ hok=>
 have key:∀ (r2:Row) (bs':List (Nat×Nat)),(∀ p∈bs',p∈bs)→(∀ b' bs',r2≠.mp b' bs') →
  (∀ c len cap sz ad,r2=.blk c len cap sz ad→(c,ad)∈bs∧(∀ p∈bs',p.1≠c)∧∃ cur T,w.heap[c]? = some (.cells cur T (0,0))∧cur.size=cap*sz∧len≤cap∧cap≤maxLen∧0 < sz∧0 < len∧ad≤len*sz∧fe cur) →
  (∀ (k:Nat) (p:Value×List (List D)),l[k]? = some p→k≠i→wJ w (bM C G) (ps k) bs' p.1 p.2) →
  (∀ ai,(∀ {u:Value} {d:D},bE w (bM C G) u d→bE w ai u d)→gk w ai r2 v es)→v.oneCell'=true→ez C n ⟨(s,.xs (gen+1) es)::f,(gq,cq.set jq (.gi gen (xI l (some i))))::bx,gen::(gen+1)::bD lv g,gen+2⟩ tmps w:=by
  intro r2 bs' a6 ch cj a7 a8 cl;obtain⟨G',dt,cx,cy,hle,c1⟩:=hs.split b5 a6 r2 ch cj (bD lv g) (fun g' c6=>cf c6);have U:∀ {u:Value} {d:D},bE w (bM C G) u d→bE w (bM C G') u d:=fun hd=>hd.mono fun b o u hu hp=>hle.cell b o u hu hp;have a1:=c1.set (d:=s) (Nat.le_of_ble_eq_true b2) (v:=v) (a:=.xs (gen+1) es) (.xs _ _ _ (by simp[bj]) cl fun r J=>by have:G'.own (gen+1)=some r:=J;rw[cy] at this;cases this;exact a8 _ U);rw[eM hx] at a1;refine⟨G',a1.fw (f:=(s,.xs (gen+1) es)::f) (bx:=bx) (lv:=gen::(gen+1)::bD lv g) (gen:=gen+2) I (by simp) fun b cs T _ _ q3 k x a hx M=>?_⟩;by_cases e:jq=k
  ·subst e
   rw[List.getElem?_set_self (List.getElem?_eq_some_iff.1 hj).1] at M;simp only[Option.some.injEq] at M;subst M;refine .gi _ _ _ (by simp[bj]) fun r J=>?_;have:G'.own gen=some r:=J;rw[cx] at this;cases this;exact⟨ps,fun a b c M hb h1 h2=>X a b c M hb (by simp) (by simp),fun k p hp hh=>(a7 k p hp (fun e=>hh (by rw[e]))).mono U fun c _ hm=>⟨hm,rfl⟩⟩
  ·rw[List.getElem?_set_ne e] at M
   exact q3 k x a hx M
 cases hps:ps i with
 | none=>
   rw[hps] at O;obtain⟨t1,rfl⟩:=O;rcases t1 with t1 | ⟨c,t1⟩
   ·exact h tmps w (key .nil bs (fun _ h=>h) (fun _ _ h=>by cases h) (fun _ _ _ _ _ h=>by cases h) (fun k p hp _=>N k p hp (by simp)) (fun _ _=>⟨t1,rfl⟩) (by rw[t1];rfl))
   ·exact h tmps w (key (.zero c) bs (fun _ h=>h) (fun _ _ h=>by cases h) (fun _ _ _ _ _ h=>by cases h) (fun k p hp _=>N k p hp (by simp)) (fun _ _=>⟨t1,rfl⟩) (by rw[t1];rfl))
 | some c=>
   rw[hps] at O;obtain⟨cap,sz,cur,T1,t1,t2,t3,t4,t5,t6,t7,t8,t9,t10,t11⟩:=O
   refine h tmps w (key (.blk c es.length cap sz 0) (bs.filter fun q=>!Nat.beq q.1 c) (fun q I=>(List.mem_filter.1 I).1) (fun _ _ h=>by cases h)
    (fun c' df di dx dj h=>by simp only[Row.blk.injEq] at h;obtain⟨rfl,rfl,rfl,rfl,rfl⟩:=h;exact⟨t2,fun q I e=>by have:=(List.mem_filter.1 I).2;rw[e] at this;simp at this,cur,T1,t4,t5,t6,t7,t8,t9,Nat.zero_le _,t10⟩)
    (fun k p hp hk=>(N k p hp (by simp)).mono (fun hd=>hd) fun c' e1 e2=>⟨List.mem_filter.2 ⟨e2,?_⟩,rfl⟩)
    (fun ai hm=>⟨t1,rfl,rfl,t3,fun i j e d he hd=>let ⟨u,q1,q2⟩:=t11 i j e d he hd;⟨u,q1,hm q2⟩⟩) (by rw[t1];rfl))
   have c7:k < l.length:=(List.getElem?_eq_some_iff.1 hp).1;have:c'≠c:=fun e=>hk (X k i c c7 b6 (by simp) (by simp) (e▸e1) hps)
   cases I:Nat.beq c' c with
   | false=>rfl
   | true=>exact absurd (Nat.eq_of_beq_eq_true I) this
theorem ez.Jj {tmps:Array Value} {w:World} (hs:ez C n ⟨f,bx,lv,gen⟩ tmps w) (gq jq s i:Nat) {cq:List A} {g g2:Nat} {l:List (Value×List (List D))} {es:List (List D)} (hl:look f s=some (.xs g2 es)) (hq:aY bx gq=some cq) (hj:cq[jq]? = some (.gi g (xI l (some i)))) (b6:(lv.any fun h=>Nat.beq h g)=true) (b0:(lv.any fun h=>Nat.beq h g2)=true) (ch:Nat.beq g2 g=false) (cj:Nat.blt s n=true)
 {lv':List Nat} (cl:gen::bD (bD lv g) g2=lv'):∃ v,ez C n ⟨(s,.d (.v v))::f,(gq,cq.set jq (.gi gen (xI (l.set i (v,es)) none)))::bx,lv',gen+1⟩ tmps w:=by
 subst cl;obtain⟨G,hs⟩:=hs;obtain⟨bs,_,a1,ps,b2,a6⟩:=hs.j6 hq hj b6;have cx:g2≠g:=fun e=>by subst e;simp at ch
 obtain⟨r2,O⟩:=hs.live g2 (dw b0);obtain⟨v,hx,hr⟩:=hs.frame s _ hl
 cases hr with
 | xs _ _ _ dj dt b3=>
 have I:gk w (bM C G) r2 v es:=b3 r2 O;obtain⟨bs',X,b4,b5,ad,cy⟩:∃ (bs':List (Nat×Nat)) (X:Option Nat),(∀ p∈bs,p∈bs')∧(∀ p∈bs',p∈bs∨∃ len cap sz,r2=.blk p.1 len cap sz p.2)∧wJ w (bM C G) X bs' v es∧∀ c,X=some c→∃ len cap sz ai,r2=.blk c len cap sz ai:=by
  cases r2 with
  | nil=>exact⟨bs,none,fun _ h=>h,fun _ h=>.inl h,⟨.inl I.1,I.2⟩,fun c J=>by cases J⟩
  | zero c=>exact⟨bs,none,fun _ h=>h,fun _ h=>.inl h,⟨.inr ⟨c,I.1⟩,I.2⟩,fun c J=>by cases J⟩
  | mp _ _=>exact I.elim
  | blk c len cap sz ai=>
    obtain⟨t1,t2,t3,t4,t5⟩:=I;subst t3;obtain⟨_,_,_,cur,T1,u1,u2,u3,u4,u5,u6,u7,u8⟩:=hs.row g2 c len cap sz 0 O;refine⟨(c,0)::bs,some c,fun p hp=>List.mem_cons_of_mem _ hp,fun p hp=>?_,⟨cap,sz,cur,T1,by rw[t1,t2],List.mem_cons_self,t4,u1,u2,by omega,u4,u5,by omega,u8,t5⟩,fun c' c1=>by cases c1;exact⟨len,cap,sz,0,rfl⟩⟩;rcases List.mem_cons.1 hp with rfl | hp
    ·exact .inr ⟨len,cap,sz,rfl⟩
    ·exact .inl hp
 obtain⟨G',dx,c6,hle,c7⟩:=hs.join (w':=w) a1 O cx b5 (fun _ _=>rfl) (fun c J=>by cases J) rfl rfl rfl rfl (bD (bD lv g) g2) (fun g' df=>by obtain⟨t1,t2⟩:=cf df;obtain⟨t3,t4⟩:=cf t1;exact⟨t3,t4,t2⟩);have U:∀ {u:Value} {d:D},bE w (bM C G) u d→bE w (bM C G') u d:=fun hd=>hd.mono fun b o u hu hp=>hle.cell b o u hu hp;have aj:∀ (c:Nat),X=some c→∀ lim,(c,lim)∉bs:=fun c J lim hm=>by obtain⟨len,cap,sz,ai,e⟩:=cy c J;rw[e] at O;exact(hs.sub g none bs c lim a1 hm).2.2.1 _ _ _ _ _ O
 have a7:∀ (k c:Nat),k < l.length→k≠i→ps k=some c→(c,0)∈bs:=fun k c hk di J=>by have:=a6 k l[k] (by simp[hk]) (fun e=>di (Option.some.inj e).symm);rw[J] at this;obtain⟨cap,sz,cur,T1,t1,t2,_⟩:=this;exact t2
 have hok:dd v=true:=by
  rcases X with _ | c
  ·obtain⟨t1 | ⟨b,t1⟩,_⟩:=ad <;> rw[t1] <;> rfl
  ·obtain⟨_,_,_,_,t1,_⟩:=ad;rw[t1];rfl
 have a8:=c7.set (d:=s) (Nat.le_of_ble_eq_true cj) (v:=v) (a:=.d (.v v)) (.d (.v _ hok));rw[eM hx] at a8;refine⟨v,G',a8.fw (f:=(s,.d (.v v))::f) (bx:=bx) (lv:=gen::bD (bD lv g) g2) (gen:=gen+1) hq (by simp) fun b cs T _ _ q3 k x a hx M=>?_⟩;by_cases e:jq=k
 ·subst e
  rw[List.getElem?_set_self (List.getElem?_eq_some_iff.1 hj).1] at M;simp only[Option.some.injEq] at M;subst M;refine .gi _ _ _ (by simp[bj]) fun r hr=>?_;have:G'.own gen=some r:=hr;rw[c6] at this;cases this;refine⟨fun k=>if k=i then X else ps k,fun a b c M hb _ _ h1 h2=>?_,fun k p hp hh=>?_⟩
  ·simp only[List.length_set] at M hb
   dsimp only at h1 h2;split at h1
   ·rename_i N
    split at h2;·rename_i e2;exact N.trans e2.symm
    ·rename_i e2;exact absurd (a7 b c hb e2 h2) (aj c h1 0)
   ·rename_i N
    split at h2;·exact absurd (a7 a c M N h1) (aj c h2 0)
    ·rename_i e2
     exact b2 a b c M hb (fun e=>N (Option.some.inj e).symm) (fun e=>e2 (Option.some.inj e).symm) h1 h2
  ·by_cases N:k=i
   ·subst N
    have hk:k < l.length:=by have:=(List.getElem?_eq_some_iff.1 hp).1;simpa using this
    rw[List.getElem?_set_self hk] at hp;simp only[Option.some.injEq] at hp;subst hp;simp only[if_true];exact ad.mono U fun c _ hm=>⟨hm,rfl⟩
   ·rw[List.getElem?_set_ne (Ne.symm N)] at hp
    simp only[if_neg N];exact(a6 k p hp (fun e=>N (Option.some.inj e).symm)).mono U fun c _ hm=>⟨b4 _ hm,rfl⟩
 ·rw[List.getElem?_set_ne e] at M
  exact q3 k x a hx M
theorem IB {ops:Array Oper} {rest:List Oper} (I J s i:Nat) {M:List A} {g g2:Nat} {l:List (Value×List (List D))} {es:List (List D)} (hl:look f s=some (.xs g2 es)) (hq:aY bx I=some M) (hj:M[J]? = some (.gi g (xI l (some i)))) (O:(lv.any fun h=>Nat.beq h g)=true) (N:(lv.any fun h=>Nat.beq h g2)=true) (U:Nat.beq g2 g=false) (X:Nat.blt s n=true)
 {lv':List Nat} (ad:gen::bD (bD lv g) g2=lv') (h:∀ v,WO P C n ops Q rest ⟨(s,.d (.v v))::f,(I,M.set J (.gi gen (xI (l.set i (v,es)) none)))::bx,lv',gen+1⟩):WO P C n ops Q rest ⟨f,bx,lv,gen⟩:=
 fun tmps w hs=>let ⟨v,hs'⟩:=ez.Jj hs I J s i hl hq hj O N U X ad;h v tmps w hs'
theorem JA (I J s i:Nat) {X:List A} {g:Nat} {l l1:List (Value×List (List D))} {v:Value} {es:List (List D)} (hl:look f s=some (.d (.v v))) (hq:aY bx I=some X) (hj:X[J]? = some (.gi g (xI l none))) (M:(lv.any fun h=>Nat.beq h g)=true) (ad:l1=l∨l1=l++[(.slice none 0 0,[])]) (hi:l1[i]? = some (v,es)) (O:Nat.blt s n=true)
 {lv':List Nat} (U:gen::(gen+1)::bD lv g=lv') (h:W P C n cd Q ⟨(s,.xs (gen+1) es)::f,(I,X.set J (.gi gen (xI l1 (some i))))::bx,lv',gen+2⟩):W P C n cd Q ⟨f,bx,lv,gen⟩:=by
 rcases ad with rfl | rfl
 ·exact Fa I J s i hl hq hj M hi O U rfl h
 ·have ai:=(List.getElem?_eq_some_iff.1 hj).1
  refine Jd I J hq hj M rfl (Fa I J s i hl (by rw[cM,if_pos rfl]) (by rw[List.getElem?_set_self ai]) M hi O U rfl ?_);rw[List.set_set];intro tmps w ⟨G,hs⟩;refine h tmps w ⟨G,{ hs with box:=fun g' cells N=>hs.box g' cells ?_ }⟩;simp only[cM] at N ⊢;by_cases e:I=g';·rw[if_pos e] at N ⊢;exact N
  ·rw[if_neg e] at N ⊢;rw[if_neg e];exact N
end
section
variable {C:Ctx} {n:Nat} {st:St} {G:Gh} {tmps:Array Value} {w:World}
theorem bg.Iu (h:bg C n st G tmps w) (g g2:Nat) (lv:List Nat) (M:∀ x∈lv,x∈st.lv∧x≠g∧x≠g2) :
 (bj C G st.gen w).le (bj C ⟨G.box,fun x=>if x=g∨x=g2 then none else G.own x⟩ st.gen w)∧bg C n { st with lv:=lv } ⟨G.box,fun x=>if x=g∨x=g2 then none else G.own x⟩ tmps w:=by
 have old:∀ {x r},(if x=g∨x=g2 then none else G.own x)=some r→G.own x=some r:=fun {x r} I=>by
  split at I;·cases I
  ·exact I
 exact h.grow (w':=w) (.refl _ w) _ st.gen lv (Nat.le_refl _) (fun x r _ I=>old I) (fun x r I=>h.gown x r (old I)) (fun x N=>by
  obtain⟨h1,h2,h3⟩:=M x N;obtain⟨r,I⟩:=h.live x h1;exact⟨r,by rw[if_neg (by rintro(e | e);exact h2 e;exact h3 e)];exact I⟩)
  (fun x b len cap sz O J I=>absurd (h.gown x _ (old I)) (Nat.not_lt.2 J)) (fun x b bs J I=>absurd (h.gown x _ (old I)) (Nat.not_lt.2 J)) (fun x b bs c lim J I hm=>absurd (h.gown x _ (old I)) (Nat.not_lt.2 J))
theorem bg.bare (h:bg C n st G tmps w) {g:Nat} {U:Option Nat} {bs:List (Nat×Nat)} (hg:G.own g=some (.mp U bs)) (g2:Nat) {c lim:Nat} (hm:(c,lim)∈bs) (o:Nat):¬ bM C ⟨G.box,fun x=>if x=g∨x=g2 then none else G.own x⟩ c o:=by
 have old:∀ {x r},(if x=g∨x=g2 then none else G.own x)=some r→x≠g∧G.own x=some r:=fun {x r} N=>by
  split at N;·cases N
  ·rename_i e;exact⟨fun q=>e (.inl q),N⟩
 obtain⟨J,X,ad,M,cur,T,aj,_⟩:=h.sub g U bs c lim hg hm;rintro(hp | ⟨I,hp⟩ | ⟨I,a1,a6,a8,a7,hp,hl'⟩ | ⟨I,b',bs',O,hp,ai,_⟩)
 ·have:=h.xold _ _ hp
  rcases J.1 with hm | hm
  ·omega
  ·grind
 ·exact X I hp
 ·exact ad I _ _ _ _ (old hp).2
 ·exact(old hp).1 (M I b' bs' O (old hp).2 ai).1
end
def I1 {γ:Type} (fn:γ→List D) (l2:List (Value×List γ)) (d I:D):Prop:=I=d∨∃ (k:Nat) (es:List γ) (raw:Value),l2[k]? = some (raw,es)∧d=.v raw∧I=.sl (es.map fn)
def GQ {γ:Type} (fn:γ→List D) (l2:List (Value×List γ)) (es I:List (List D)):Prop:=
 I.length=es.length∧∀ (j:Nat) (e J:List D),es[j]? = some e→I[j]? = some J→J.length=e.length∧∀ (q:Nat) (d M:D),e[q]? = some d→J[q]? = some M→I1 fn l2 d M
section
variable {P:Program} {C:Ctx} {n:Nat} {Q:Exit→St→Prop} {cd:Code}
variable {f f':List (Nat×A)} {bx bx':List (Nat×List A)} {lv:List Nat} {gen:Nat}
variable {α γ:Type} {kf:α→Value} {fn:γ→List D}
theorem IE (gq jq X s:Nat) {cq:List A} {g g2 J:Nat} {l:List (Value×List (List D))} {l2:List (Value×List γ)} {ks:List (α×D)} {ks':List (α×D)} (hl:look f s=some (.mp J (dO kf (fun d:D=>d) ks))) (hq:aY bx gq=some cq) (hj:cq[jq]? = some (.gi g (xI l none))) (b4:cq[X]? = some (.gi g2 (iT fn l2 none)))
 (b5:(lv.any fun h=>Nat.beq h g)=true) (a7:(lv.any fun h=>Nat.beq h g2)=true) (b6:(lv.any fun h=>Nat.beq h J)=true) (ai:Nat.beq J g=false) (a8:Nat.beq J g2=false) (ch:Nat.blt s n=true)
 (hlen:ks'.length=ks.length) (hk:∀ (i:Nat) (p p':α×D),ks[i]? = some p→ks'[i]? = some p'→p'.1=p.1∧∃ (j:Nat) (v:Value) (es I:List (List D)),l[j]? = some (v,es)∧p.2=.v v∧p'.2=.sl I∧GQ fn l2 es I)
 {lv':List Nat} (cj:bD (bD lv g) g2=lv') (h:W P C n cd Q ⟨(s,.mp J (dO kf (fun d:D=>d) ks'))::f,(gq,(cq.set jq .any).set X .any)::bx,lv',gen⟩):W P C n cd Q ⟨f,bx,lv,gen⟩:=by
 subst cj;intro tmps w ⟨G,hs⟩;obtain⟨bs,_,cl,ps,dt,cx⟩:=hs.j6 hq hj b5;obtain⟨ec,_,dx,ed,dj,b0⟩:=hs.j6 hq b4 a7;obtain⟨x,hx,hr⟩:=hs.frame s _ hl;obtain⟨rm,aj⟩:=hs.live J (dw b6);have cy:J≠g:=fun e=>by subst e;simp at ai
 have b2:J≠g2:=fun e=>by subst e;simp at a8
 obtain⟨hle,c1⟩:=hs.Iu g g2 (bD (bD lv g) g2) (fun x hx=>by obtain⟨t1,t2⟩:=cf hx;obtain⟨t3,t4⟩:=cf t1;exact⟨t3,t4,t2⟩);have ad:∀ {u:Value} {d:D},bE w (bM C G) u d→bE w (bM C ⟨G.box,fun x=>if x=g∨x=g2 then none else G.own x⟩) u d:=fun hd=>hd.mono fun b o u hu hp=>hle.cell b o u hu hp;have c6:∀ {u:Value} {d d':D},bE w (bM C G) u d→I1 fn l2 d d'→bE w (bM C ⟨G.box,fun x=>if x=g∨x=g2 then none else G.own x⟩) u d':=fun {u d d'} hd he=>by
  rcases he with rfl | ⟨k,es,raw,q1,rfl,rfl⟩
  ·exact ad hd
  ·cases hd
   exact ad (b0 k _ q1).1
 have c7:∀ {j:Nat} {v:Value} {es I:List (List D)},l[j]? = some (v,es)→GQ fn l2 es I→bE w (bM C ⟨G.box,fun x=>if x=g∨x=g2 then none else G.own x⟩) v (.sl I):=fun {j v es I} hj he=>by
  have h1:wJ w (bM C G) (ps j) bs v es:=cx j _ hj (by simp);obtain⟨M,he⟩:=he
  cases hps:ps j with
  | none=>
    rw[hps] at h1;obtain⟨h2,rfl⟩:=h1;have:I=[]:=List.eq_nil_of_length_eq_zero M;subst this;rcases h2 with rfl | ⟨b,rfl⟩
    ·exact .nil
    ·exact .emp _ _ (by simp)
  | some b=>
    rw[hps] at h1;obtain⟨cap,sz,cur,T,t1,t2,t3,t4,t5,t6,t7,t8,t9,t10,t11⟩:=h1;subst t1;have df:∀ (e:List D),e∈I→e.length=sz:=fun e hm=>by
     obtain⟨i,hi⟩:=List.mem_iff_getElem?.1 hm;have N:i < es.length:=by rw[←M];exact(List.getElem?_eq_some_iff.1 hi).1
     have h2:es[i]? = some es[i]:=by simp[N]
     rw[(he i _ _ h2 hi).1];exact t3 _ (List.getElem_mem N)
    rw[←M];refine ar t4 (by omega) t7 df (fun t ht hp=>hs.bare cl g2 t2 t hp) (fun i k e' d' hi hd=>?_);have N:i < es.length:=by rw[←M];exact(List.getElem?_eq_some_iff.1 hi).1
    have h2:es[i]? = some es[i]:=by simp[N]
    obtain⟨q1,q2⟩:=he i _ _ h2 hi;have di:k < es[i].length:=by rw[←q1];exact(List.getElem?_eq_some_iff.1 hd).1
    have h3:es[i][k]? = some es[i][k]:=by simp[di]
    obtain⟨u,r1,r2⟩:=t11 i k _ _ h2 h3;rw[cz t4] at r1;exact⟨u,r1,c6 r2 (q2 k _ _ h3 hd)⟩
 cases hr with
 | mp _ _ _ ai h1 b3=>
 have U:mL w (bM C G) rm x (dO kf (fun d:D=>d) ks):=b3 rm aj;have a1:=c1.set (d:=s) (Nat.le_of_ble_eq_true ch) (v:=x) (a:=.mp J (dO kf (fun d:D=>d) ks')) (.mp _ _ _ ai h1 fun r hr=>by
  have hr:(if J=g∨J=g2 then none else G.own J)=some r:=hr;rw[if_neg (by rintro(e | e);exact cy e;exact b2 e),aj] at hr;cases hr
  cases rm with
  | nil=>exact U.elim
  | zero b=>exact U.elim
  | blk b len cap sz ei=>exact U.elim
  | mp b ej=>
  cases b with
  | none=>exact U.elim
  | some b=>
  obtain⟨r1,me,clock,r2,r3,r4,r5⟩:=U;refine⟨r1,me,clock,r2,r3,by rw[r4];simp[dO,hlen],fun i m k lk hm hp=>?_⟩;simp only[dO,List.getElem?_map,Option.map_eq_some_iff] at hp;obtain⟨p',a6,e⟩:=hp;simp only[Prod.mk.injEq] at e;obtain⟨rfl,rfl⟩:=e;have N:i < ks.length:=by rw[←hlen];exact(List.getElem?_eq_some_iff.1 a6).1
  have h2:ks[i]? = some ks[i]:=by simp[N]
  obtain⟨q1,j,v,es,I,q2,q3,q4,q5⟩:=hk i _ _ h2 a6;obtain⟨t1,t2,t3⟩:=r5 i m (kf ks[i].1) [ks[i].2] hm (by simp[dO,N]);rw[q1];refine⟨t1,t2,?_⟩;have t3:bE w (bM C G) m.val ks[i].2:=t3;rw[q3] at t3;show bE w _ m.val p'.2;rw[q4];generalize m.val=z at t3;cases t3;exact c7 q2 q5)
 rw[eM hx] at a1;refine h tmps w ⟨_,a1.fw (f:=(s,.mp J (dO kf (fun d:D=>d) ks'))::f) (bx:=bx) (lv:=bD (bD lv g) g2) (gen:=gen) hq (by simp) fun b cs T _ _ q3 k x a hx O=>?_⟩;by_cases e2:X=k
 ·subst e2
  by_cases hlt:X < cq.length
  ·rw[List.getElem?_set_self (by simpa using hlt)] at O
   simp only[Option.some.injEq] at O;subst O;exact .any _
  ·grind
 ·rw[List.getElem?_set_ne e2] at O
  by_cases e:jq=k
  ·subst e
   rw[List.getElem?_set_self (List.getElem?_eq_some_iff.1 hj).1] at O;simp only[Option.some.injEq] at O;subst O;exact .any _
  ·rw[List.getElem?_set_ne e] at O
   exact q3 k x a hx O
end
end Go.Ab
namespace Go.Tb
open Go.Ab
def iX:Value:=.slice none 0 0
abbrev iO (th se lo:Int) (v:Value):List D:=[ci th,ci se,ci lo,.v v]
def vg (l2:List (Value×List Ev)) (i:Nat):Value:=match l2[i]? with | some p=>p.1 | none=>iX
def fy (l2:List (Value×List Ev)) (e:bw×Nat):List D:=iO e.1.thread e.1.serial e.1.lost (vg l2 e.2)
theorem uQ {l2 I:List (Value×List Ev)} {e:bw×Nat} (h:I[e.2]? = l2[e.2]?):fy I e=fy l2 e:=by unfold fy vg;rw[h]
def iq (ks:List Int) (l:List (Value×List (List D))):List (Int×D):=(ks.zip l).map fun p=>(p.1,.v p.2.1)
theorem sJ {ks:List Int} {l:List (Value×List (List D))} (h:ks.length≤l.length):(iq ks l).map (·.1)=ks:=by unfold iq;rw[List.map_map];show(ks.zip l).map Prod.fst=ks;exact List.map_fst_zip h
theorem Ak:∀ {ks:List Int} {l:List (Value×List (List D))} {i:Nat} {a:Int} {p:Value×List (List D)},ks.Nodup→ks[i]? = some a→l[i]? = some p→cb (iq ks l) a=some (.v p.1)
 | [],_,i,a,p,_,h,_=>by simp at h
 | _::_,[],i,a,p,_,_,h=>by simp at h
 | b::ks,q::l,i,a,p,hn,h1,h2=>by
   show cb ((b,D.v q.1)::iq ks l) a=_;rw[eW]
   cases i with
   | zero=>simp only[List.getElem?_cons_zero,Option.some.injEq] at h1 h2;rw[if_pos h1,h2]
   | succ i=>rw[List.nodup_cons] at hn;simp only[List.getElem?_cons_succ] at h1 h2;rw[if_neg (fun e:b=a=>hn.1 (by rw[e];exact List.mem_of_getElem? h1))];exact Ak hn.2 h1 h2
theorem xP:∀ {ks:List Int} {l:List (Value×List (List D))} {a:Int},a∉ks→cb (iq ks l) a=none
 | [],_,_,_=>rfl
 | _::_,[],_,_=>rfl
 | b::ks,q::l,a,h=>by show cb ((b,D.v q.1)::iq ks l) a=_;rw[eW,if_neg (fun e:b=a=>h (by rw[e];exact List.mem_cons_self))];exact xP (fun q=>h (List.mem_cons_of_mem _ q))
theorem zE:∀ {ks:List Int} {l:List (Value×List (List D))} {i:Nat} {a:Int} (x:Value) (r:List (List D)),ks.Nodup→ks[i]? = some a→i < l.length→dp (iq ks l) a (.v x)=iq ks (l.set i (x,r))
 | [],_,i,a,x,r,_,h,_=>by simp at h
 | _::_,[],i,a,x,r,_,_,h=>by simp at h
 | b::ks,q::l,i,a,x,r,hn,h1,h2=>by
   show dp ((b,D.v q.1)::iq ks l) a (.v x)=_
   cases i with
   | zero=>simp only[List.getElem?_cons_zero,Option.some.injEq] at h1;subst h1;simp[dp,iq]
   | succ i=>rw[List.nodup_cons] at hn;simp only[List.getElem?_cons_succ] at h1;have I:b≠a:=fun e=>hn.1 (by rw[e];exact List.mem_of_getElem? h1);simp only[dp,if_neg I];rw[zE x r hn.2 h1 (by simpa using h2)];rfl
theorem F8 {ks:List Int} {l:List (Value×List (List D))} {a:Int} (x:Value) (r:List (List D)) (h:a∉ks) (hl:l.length=ks.length):dp (iq ks l) a (.v x)=iq (ks++[a]) (l++[(x,r)]):=by
 rw[iF]
 ·unfold iq
  rw[List.zip_append hl.symm,List.map_append];rfl
 ·intro p hp e
  have h1:p.1∈(iq ks l).map (·.1):=List.mem_map.2 ⟨p,hp,rfl⟩;rw[sJ (by omega),e] at h1;exact h h1
abbrev PL:=List (Int×List (bw×Nat))
structure kC (L:PL) (l:List (Value×List (List D))) (l2:List (Value×List Ev)) (bef:List bw):Prop where
 keys:(L.map (·.1)).Nodup
 len:l.length=L.length
 at_:∀ (j:Nat) (a:Int) (o:List (bw×Nat)),L[j]? = some (a,o)→∃ x,l[j]? = some (x,o.map (fy l2))
 own:∀ a o,(a,o)∈L→o.map (·.1)=cp a bef∧o≠[]
 ev:∀ a o,(a,o)∈L→∀ e∈o,∃ v,l2[e.2]? = some (v,e.1.evs)
 inj:(L.flatMap fun p=>p.2.map (·.2)).Nodup
 no:∀ a,a∉L.map (·.1)→cp a bef=[]
theorem kC.nil:kC [] [] [] []:=⟨List.nodup_nil,rfl,fun _ _ _ h=>by simp at h,fun _ _ h=>(by cases h),fun _ _ h=>(by cases h),List.nodup_nil,fun _ _=>rfl⟩
structure ox (L:PL) (l:List (Value×List (List D))) (l2:List (Value×List Ev)) (bef:List bw) (a:Int) (x:Value) (L1:PL) (l1:List (Value×List (List D))) (j:Nat) (o:List (bw×Nat)):Prop where
 get:(cb (iq (L.map (·.1)) l) a).getD (.v iX)=.v x
 new:l1=l∨l1=l++[(iX,[])]
 hj:l1[j]? = some (x,o.map (fy l2))
 hL:L1[j]? = some (a,o)
 keys:(L1.map (·.1)).Nodup
 len:l1.length=L1.length
 at_:∀ (k:Nat) (b:Int) (q:List (bw×Nat)),L1[k]? = some (b,q)→∃ x,l1[k]? = some (x,q.map (fy l2))
 own:∀ b q,(b,q)∈L1→q.map (·.1)=cp b bef∧(b≠a→q≠[])
 ev:∀ b q,(b,q)∈L1→∀ e∈q,∃ v,l2[e.2]? = some (v,e.1.evs)
 inj:(L1.flatMap fun p=>p.2.map (·.2)).Nodup
 no:∀ b,b∉L1.map (·.1)→cp b bef=[]
 put:∀ (y:Value) (r:List (List D)),dp (iq (L.map (·.1)) l) a (.v y)=iq (L1.map (·.1)) (l1.set j (y,r))
theorem kC.JH {L:PL} {l:List (Value×List (List D))} {l2:List (Value×List Ev)} {N:List bw} (h:kC L l l2 N) (a:Int):∃ x L1 l1 j o,ox L l l2 N a x L1 l1 j o:=by
 by_cases hm:a∈L.map (·.1)
 ·obtain⟨j,hj⟩:=List.mem_iff_getElem?.1 hm
  have O:=hj;rw[List.getElem?_map,Option.map_eq_some_iff] at hj;obtain⟨⟨b,o⟩,hL,rfl⟩:=hj;obtain⟨x,M⟩:=h.at_ j b o hL;have U:j < l.length:=(List.getElem?_eq_some_iff.1 M).1;exact⟨x,L,l,j,o,by rw[Ak h.keys O M];rfl,.inl rfl,M,hL,h.keys,h.len,h.at_,fun b q I=>⟨(h.own b q I).1,fun _=>(h.own b q I).2⟩,h.ev,h.inj,h.no,fun y r=>zE y r h.keys O U⟩
 ·refine⟨iX,L++[(a,[])],l++[(iX,[])],L.length,[],by rw[xP hm];rfl,.inr rfl,?_,?_,?_,by simp[h.len],fun k b q J=>?_,fun b q I=>?_,fun b q I=>?_,?_,fun b hb=>?_,fun y r=>?_⟩
  ·rw[List.getElem?_append_right (by rw[h.len];exact Nat.le_refl _),h.len,Nat.sub_self];rfl
  ·rw[List.getElem?_append_right (Nat.le_refl _),Nat.sub_self];rfl
  ·rw[List.map_append,List.nodup_append]
   exact⟨h.keys,by simp,fun b hb c X=>by simp at X;subst X;rintro rfl;exact hm hb⟩
  ·rcases Nat.lt_or_ge k L.length with h1 | h1
   ·rw[List.getElem?_append_left h1] at J
    obtain⟨x,M⟩:=h.at_ k b q J;exact⟨x,by rw[List.getElem?_append_left (by rw[h.len];exact h1)];exact M⟩
   ·rw[List.getElem?_append_right h1] at J
    have:k - L.length=0:=by have:=(List.getElem?_eq_some_iff.1 J).1;simp at this;omega
    rw[this] at J;simp at J;obtain⟨rfl,rfl⟩:=J;exact⟨iX,by rw[List.getElem?_append_right (by rw[h.len];exact h1),h.len,this];rfl⟩
  ·rcases List.mem_append.1 I with I | I
   ·exact⟨(h.own b q I).1,fun _=>(h.own b q I).2⟩
   ·simp at I
    obtain⟨rfl,rfl⟩:=I;exact⟨(h.no b hm).symm,fun q=>absurd rfl q⟩
  ·rcases List.mem_append.1 I with I | I
   ·exact h.ev b q I
   ·simp at I
    obtain⟨rfl,rfl⟩:=I;intro e he;cases he
  ·rw[List.flatMap_append]
   simpa using h.inj
  ·exact h.no b (fun q=>hb (by rw[List.map_append];exact List.mem_append_left _ q))
  ·rw[F8 y r hm (by simp[h.len])]
   rw[show L.length=l.length from h.len.symm,List.set_append_right _ _ (Nat.le_refl _),Nat.sub_self,List.map_append];rfl
theorem ox.ex {L:PL} {l:List (Value×List (List D))} {l2:List (Value×List Ev)} {N:List bw} {a:Int} {x:Value} {J:PL} {l1:List (Value×List (List D))} {j:Nat} {o:List (bw×Nat)} (h:ox L l l2 N a x J l1 j o) {p:bw} (ha:p.thread=a)
 {o':List (bw×Nat)} {X:List (Value×List Ev)} (y:Value) (h1:o'.map (·.1)=cp a (N++[p])) (h2:o'≠[]) (h3:∀ b q,(b,q)∈J→b≠a→∀ e∈q,X[e.2]? = l2[e.2]?) (h4:∀ e∈o',∃ v,X[e.2]? = some (v,e.1.evs)) (h5:((J.set j (a,o')).flatMap fun p=>p.2.map (·.2)).Nodup) :
 kC (J.set j (a,o')) (l1.set j (y,o'.map (fy X))) X (N++[p]):=by
 have ai:j < J.length:=(List.getElem?_eq_some_iff.1 h.hL).1;have O:(J.set j (a,o')).map (·.1)=J.map (·.1):=by
  refine List.ext_getElem? fun k=>?_;rw[List.getElem?_map,List.getElem?_map,List.getElem?_set];split
  ·rename_i e
   subst e;rw[h.hL];rfl
  ·rfl
 have ad:∀ {k:Nat} {b:Int} {q:List (bw×Nat)},J[k]? = some (b,q)→k≠j→b≠a:=fun {k b q} I aj e=>by
  subst e;have h6:(J.map (·.1))[k]? = some b:=by rw[List.getElem?_map,I];rfl
  have h7:(J.map (·.1))[j]? = some b:=by rw[List.getElem?_map,h.hL];rfl
  exact aj ((List.getElem?_inj (List.getElem?_eq_some_iff.1 h6).1 h.keys).1 (h6.trans h7.symm))
 have U:∀ {b:Int} {q:List (bw×Nat)},(b,q)∈J.set j (a,o')→(b=a∧q=o')∨(b≠a∧(b,q)∈J):=fun {b q} hm=>by
  obtain⟨k,I⟩:=List.mem_iff_getElem?.1 hm;rw[List.getElem?_set] at I;split at I
  ·simp only[Option.some.injEq,Prod.mk.injEq] at I
   exact .inl ⟨I.1.symm,I.2.symm⟩
  ·rename_i e
   exact .inr ⟨ad I (Ne.symm e),List.mem_of_getElem? I⟩
 refine⟨by rw[O];exact h.keys,by simp[h.len],fun k b q I=>?_,fun b q M=>?_,fun b q M e he=>?_,h5,fun b hb=>?_⟩
 ·rw[List.getElem?_set] at I
  split at I
  ·rename_i e
   subst e;simp only[Option.some.injEq,Prod.mk.injEq] at I;obtain⟨rfl,rfl⟩:=I;exact⟨y,by rw[List.getElem?_set_self (by rw[h.len];exact ai)]⟩
  ·rename_i e
   obtain⟨x2,a1⟩:=h.at_ k b q I;refine⟨x2,?_⟩;rw[List.getElem?_set_ne e,a1];have hb:=ad I (Ne.symm e);rw[List.map_congr_left fun e he=>(uQ (h3 b q (List.mem_of_getElem? I) hb e he)).symm]
 ·rcases U M with ⟨rfl,rfl⟩ | ⟨hb,M⟩
  ·exact⟨h1,h2⟩
  ·rw[jL,if_neg (fun e=>hb (e.symm.trans ha))]
   exact⟨(h.own b q M).1,(h.own b q M).2 hb⟩
 ·rcases U M with ⟨rfl,rfl⟩ | ⟨hb,M⟩
  ·exact h4 e he
  ·rw[h3 b q M hb e he];exact h.ev b q M e he
 ·rw[O] at hb
  rw[jL,if_neg];·exact h.no b hb
  ·rintro e
   refine hb ?_;rw[←e,ha];exact List.mem_map.2 ⟨_,List.mem_of_getElem? h.hL,rfl⟩
theorem ox.Ih {L:PL} {l:List (Value×List (List D))} {l2:List (Value×List Ev)} {J:List bw} {a:Int} {x:Value} {I:PL} {l1:List (Value×List (List D))} {j:Nat} {o:List (bw×Nat)} (h:ox L l l2 J a x I l1 j o) (o':List (bw×Nat)):(I.set j (a,o')).map (·.1)=I.map (·.1):=by
 have M:j < I.length:=(List.getElem?_eq_some_iff.1 h.hL).1;refine List.ext_getElem? fun k=>?_;rw[List.getElem?_map,List.getElem?_map,List.getElem?_set];split
 ·rename_i e
  subst e;rw[h.hL];rfl
 ·rfl
theorem ox.cut {L:PL} {l:List (Value×List (List D))} {l2:List (Value×List Ev)} {bef:List bw} {a:Int} {x:Value} {L1:PL} {l1:List (Value×List (List D))} {j:Nat} {o:List (bw×Nat)} (h:ox L l l2 bef a x L1 l1 j o) (o':List (bw×Nat)) :
    ∃ A B:List Nat,(L1.flatMap fun p=>p.2.map (·.2))=A++(o.map (·.2)++B)∧((L1.set j (a,o')).flatMap fun p=>p.2.map (·.2))=A++(o'.map (·.2)++B) ∧
      ∀ b q,(b,q)∈L1→b≠a→∀ e∈q,e.2∈A∨e.2∈B:=by
  have hjl:j < L1.length:=(List.getElem?_eq_some_iff.1 h.hL).1
  refine⟨(L1.take j).flatMap fun p=>p.2.map (·.2),(L1.drop (j+1)).flatMap fun p=>p.2.map (·.2),?_,?_,fun b q hq hne e he=>?_⟩
  · have:L1=L1.take j++(a,o)::L1.drop (j+1):=by
      rw[←(List.getElem?_eq_some_iff.1 h.hL).2,←List.drop_eq_getElem_cons hjl,List.take_append_drop]
    conv=>lhs;rw[this]
    rw[List.flatMap_append,List.flatMap_cons]
  · rw[List.set_eq_take_append_cons_drop,if_pos hjl,List.flatMap_append,List.flatMap_cons]
  · have:L1=L1.take j++(a,o)::L1.drop (j+1):=by
      rw[←(List.getElem?_eq_some_iff.1 h.hL).2,←List.drop_eq_getElem_cons hjl,List.take_append_drop]
    rw[this] at hq
    rcases List.mem_append.1 hq with hq | hq
    · exact .inl (List.mem_flatMap.2 ⟨_,hq,List.mem_map.2 ⟨e,he,rfl⟩⟩)
    · rcases List.mem_cons.1 hq with hq | hq
      · cases hq;exact absurd rfl hne
      · exact .inr (List.mem_flatMap.2 ⟨_,hq,List.mem_map.2 ⟨e,he,rfl⟩⟩)
theorem Ad {I:PL} {l2:List (Value×List Ev)} (ev:∀ b q,(b,q)∈I→∀ e∈q,∃ v,l2[e.2]? = some (v,e.1.evs)):∀ i∈(I.flatMap fun p=>p.2.map (·.2)),i < l2.length:=by intro i hi;obtain⟨⟨b,q⟩,J,hi⟩:=List.mem_flatMap.1 hi;obtain⟨e,he,rfl⟩:=List.mem_map.1 hi;obtain⟨v,M⟩:=ev b q J e he;exact(List.getElem?_eq_some_iff.1 M).1
theorem ox.step1 {L:PL} {l:List (Value×List (List D))} {l2:List (Value×List Ev)} {J:List bw} {a:Int} {x:Value} {L1:PL} {l1:List (Value×List (List D))} {j:Nat} {o:List (bw×Nat)} (h:ox L l l2 J a x L1 l1 j o) {p:bw} (ha:p.thread=a) (hb:0 < p.lost∨o=[]) (I y:Value) :
 kC (L1.set j (a,o++[(p,l2.length)])) (l1.set j (y,o.map (fy l2)++[iO p.thread p.serial p.lost I])) ((l2++[(iX,[])]).set l2.length (I,[]++p.evs)) (J++[p]):=by
 have ai:(l2++[(iX,[])]).set l2.length (I,[]++p.evs)=l2++[(I,p.evs)]:=by rw[List.set_append_right _ _ (Nat.le_refl _),Nat.sub_self];rfl
 rw[ai];have M:=Ad h.ev;have hold:∀ i,i < l2.length→(l2++[(I,p.evs)])[i]? = l2[i]?:=fun i hi=>List.getElem?_append_left hi;have N:∀ b q,(b,q)∈L1→∀ e∈q,e.2 < l2.length:=fun b q hq e he=>M _ (List.mem_flatMap.2 ⟨_,hq,List.mem_map.2 ⟨e,he,rfl⟩⟩);have X:=h.own a o (List.mem_of_getElem? h.hL);have O:(l2++[(I,p.evs)])[l2.length]? = some (I,p.evs):=by rw[List.getElem?_append_right (Nat.le_refl _),Nat.sub_self];rfl
 have ad:o.map (fy l2)++[iO p.thread p.serial p.lost I]=(o++[(p,l2.length)]).map (fy (l2++[(I,p.evs)])):=by rw[List.map_append,List.map_congr_left fun e he=>(uQ (hold _ (N a o (List.mem_of_getElem? h.hL) e he))).symm];show _=_++[fy _ (p,l2.length)];unfold fy vg;rw[O]
 rw[ad];refine h.ex ha y ?_ (by simp) (fun b q hq _ e he=>hold _ (N b q hq e he)) (fun e he=>?_) ?_
 ·rw[List.map_append,X.1,jL,if_pos ha]
  unfold mR;rcases hb with hb | rfl
  ·rw[if_pos hb];rfl
  ·have U:cp a J=[]:=X.1.symm
   rw[U];split <;> rfl
 ·rcases List.mem_append.1 he with he | he
  ·obtain⟨v,hv⟩:=h.ev a o (List.mem_of_getElem? h.hL) e he
   exact⟨v,by rw[hold _ (N a o (List.mem_of_getElem? h.hL) e he)];exact hv⟩
  ·simp at he;subst he;exact⟨I,O⟩
 ·obtain⟨A,B,e1,e2,_⟩:=h.cut (o++[(p,l2.length)])
  rw[e2];have U:=h.inj;rw[e1] at U M;have aj:l2.length∉A++(o.map (·.2)++B):=fun hm=>Nat.lt_irrefl _ (M _ hm);rw[List.map_append];simp only[List.nodup_append,List.mem_append,List.map_cons,List.map_nil,List.mem_singleton,not_or] at U aj ⊢;grind
theorem ox.step2 {L:PL} {l:List (Value×List (List D))} {l2:List (Value×List Ev)} {N:List bw} {a:Int} {x:Value} {L1:PL} {l1:List (Value×List (List D))} {j:Nat} {J:List (bw×Nat)} {q:bw} {i:Nat} (h:ox L l l2 N a x L1 l1 j (J++[(q,i)])) {p:bw} (ha:p.thread=a) (hb:¬ 0 < p.lost) (M y:Value) :
 kC (L1.set j (a,J++[(⟨q.thread,q.serial,q.lost,q.evs++p.evs⟩,i)])) (l1.set j (y,J.map (fy l2)++[iO q.thread q.serial q.lost M])) (l2.set i (M,q.evs++p.evs)) (N++[p]):=by
 have a6:=Ad h.ev;have O:=List.mem_of_getElem? h.hL;have ai:=h.own a _ O;have aj:i < l2.length:=by obtain⟨v,X⟩:=h.ev a _ O (q,i) (by simp);exact(List.getElem?_eq_some_iff.1 X).1
 obtain⟨A,B,e1,e2,e3⟩:=h.cut (J++[(⟨q.thread,q.serial,q.lost,q.evs++p.evs⟩,i)]);have I:=h.inj;rw[e1] at I;have U:(l2.set i (M,q.evs++p.evs))[i]? = some (M,q.evs++p.evs):=List.getElem?_set_self aj;have hold:∀ k,k≠i→(l2.set i (M,q.evs++p.evs))[k]? = l2[k]?:=fun k hk=>List.getElem?_set_ne (Ne.symm hk);have h0:∀ e∈J,e.2≠i:=fun e he hi=>by rw[List.map_append] at I;simp only[List.nodup_append,List.mem_append,List.map_cons,List.map_nil,List.mem_singleton] at I;have:=I.2.1.1.2.2 e.2 (List.mem_map.2 ⟨e,he,rfl⟩) i rfl;exact this hi
 have ad:J.map (fy l2)++[iO q.thread q.serial q.lost M]=(J++[((⟨q.thread,q.serial,q.lost,q.evs++p.evs⟩:bw),i)]).map (fy (l2.set i (M,q.evs++p.evs))):=by rw[List.map_append,List.map_congr_left fun e he=>(uQ (hold _ (h0 e he))).symm];show _=_++[fy _ ((⟨q.thread,q.serial,q.lost,q.evs++p.evs⟩:bw),i)];unfold fy vg;rw[U]
 rw[ad];refine h.ex ha y ?_ (by simp) (fun b r hr a1 e he=>hold _ fun hi=>?_) (fun e he=>?_) ?_
 ·rw[List.map_append,jL,if_pos ha]
  have hp:cp a N=J.map (·.1)++[q]:=by rw[←ai.1,List.map_append];rfl
  unfold mR;rw[if_neg hb,hp,List.getLast?_concat,List.dropLast_concat];rfl
 ·rw[List.map_append] at I
  simp only[List.nodup_append,List.mem_append,List.map_cons,List.map_nil,List.mem_singleton] at I;rcases e3 b r hr a1 e he with hm | hm
  ·exact I.2.2 _ hm i (.inl (.inr rfl)) hi
  ·exact I.2.1.2.2 i (.inr rfl) _ hm hi.symm
 ·rcases List.mem_append.1 he with he | he
  ·obtain⟨v,X⟩:=h.ev a _ O e (List.mem_append_left _ he)
   exact⟨v,by rw[hold _ (h0 e he)];exact X⟩
  ·simp at he;subst he;exact⟨M,U⟩
 ·rw[e2,List.map_append]
  rw[List.map_append] at I;exact I
end Go.Tb
namespace Go.Ab
open Go.RowKit
structure ru (P:Program) [db P] (f:FuncId) (args:List A) (b0:List (List A)) (m:Nat) (S:A→List (List A)→Prop) (k:Nat):Prop where
 ok:jF P f
 calls:∀ (C:Ctx) (G:Gh) (vals:Array Value) (w:World),GC P C→C.w0=w→C.bx.length=b0.length→C.ds=[]→(m=0→∀ b,C.fp b→∃ i:Nat,C.bx[i]? = some b) →
  bg C 0 ⟨[],ey 0 b0,(List.range m).map (b0.length+·),b0.length+m⟩ G #[] w→vals.size=args.length →
  (∀ (i:Nat) (u:Value) (a:A),vals[i]? = some u→args[i]? = some a→bu (bj C G (b0.length+m) w) u a) →
  Calls P f vals w fun e w'=>∃ r b1,S r b1∧b1.length=b0.length∧∃ v G',e=.returned v∧bg C 0 ⟨[],ey 0 b1,(List.range k).map (b0.length+·),b0.length+k⟩ G' #[] w'∧bu (bj C G' (b0.length+k) w') v r
section
variable {P:Program} (T:cn P)
def E4 (rs:List RV) (I:Nat) (S:A→List (List A)→Prop) (k:Nat):Exit→St→Prop:=fun e st=>∃ r b1,S r b1∧b1.length=I∧cR T rs r b1 k e st
theorem ru.dQ [db P] {f:FuncId} {fn:Func} {c:Code} {rs:List RV} {n:Nat} {args:List A} {I:List (List A)} {m:Nat} {S:A→List (List A)→Prop} {k:Nat} (hf:P.funcs[f]? = some fn) (X:(fn.name == "runtime.NumGoroutine")=false)
 (hb:fn.body=some c) (hn:fn.ntmps=n) (hr:fn.results=(rs.map RV.var).toArray) (hlen:Nat.ble args.length n=true)
 (h:∀ C,NB C I.length→GC P C→W P C n c (E4 T rs I.length S k) ⟨hU 0 args,ey 0 I,(List.range m).map (I.length+·),I.length+m⟩):ru P f args I m S k:=by
 have hlen:=Nat.le_of_ble_eq_true hlen;refine⟨⟨fn,hf,X,by rw[hb];rfl⟩,fun C G J w hG hw ad O cl hs cq a1=>?_⟩;subst hw;refine calls_of_wp hf hb (wp_mono (qd O (h C ⟨ad⟩ hG (J++Array.replicate (fn.ntmps - J.size) undef) C.w0 ⟨G,?_⟩)) ?_)
 ·refine { hs with size:=by simp[hn];omega,frame:=fun t a ha=>?_ }
  obtain⟨_,h1⟩:=gl args 0 t a ha;have h2:t < args.length:=(List.getElem?_eq_some_iff.1 (by simpa using h1)).1;have h3:t < J.size:=by omega
  have h4:J[t]? = some J[t]:=by simp[h3]
  exact⟨J[t],by rw[Array.getElem?_append_left h3];exact h4,a1 t _ a h4 (by simpa using h1)⟩
 ·rintro e ⟨tmps,df⟩ w' ⟨hd,st,⟨G,hs⟩,r,b1,hS,M,he,l,order,hl,a6,a7,a8,b2,b3⟩
  have cj:(eo b1.length order).length=I.length+k:=by simp[eo,a7,M]
  have U:∀ i,i < C.bx.length→(eo b1.length order)[i]? = some i:=fun i hi=>by unfold eo;rw[List.getElem?_append_left (by simp;omega),List.getElem?_range (by omega)]
  have N:∃ v,(results fn tmps).run P w'=.ok v w'∧∃ r b1,S r b1∧b1.length=I.length∧∃ ai G',Ending.returned v=.returned ai∧bg C 0 ⟨[],ey 0 b1,(List.range k).map (I.length+·),I.length+k⟩ G' #[] w'∧bu (bj C G' (I.length+k) w') ai r:=by
   obtain⟨vs,b4,b5,b6⟩:=j9 T hs rs l hl;refine⟨_,gE hr b4,r,b1,hS,M,_,mA (eo b1.length order) G,rfl,?_,?_⟩
   ·refine bg.vt (hs.cD (f':=[]) (bx':=ey 0 b1) (lv':=(List.range k).map (I.length+·)) (gen':=I.length+k) (eo b1.length order) (eb a8) (by omega) U (fun t a ha=>by simp[look] at ha) (fun i c hc=>?_) (fun i hi=>?_)) rfl
    ·obtain⟨_,h1⟩:=mU b1 0 i c hc
     simp only[Nat.sub_zero] at h1;obtain⟨c0,h2,h3⟩:=b3 i c h1;have ch:i < b1.length:=(List.getElem?_eq_some_iff.1 h1).1;exact⟨i,c0,U i (by rw[ad,←M];exact ch),h2,by rw[←gB];exact h3⟩
    ·obtain⟨j,hj,rfl⟩:=List.mem_map.1 hi
     have hj:j < k:=by simpa using hj
     have aj:j < order.length:=by omega
     refine⟨order[j],?_,b2 _ (List.getElem_mem aj)⟩;unfold eo;rw[List.getElem?_append_right (by simp;omega)];simp[M,aj]
   ·rw[←a6]
    refine bu.cD (gen:=st.gen) (by omega) (kU b5 b6)
  cases e with
  | normal=>exact⟨hd.trans O,N⟩
  | ret=>exact⟨hd.trans O,N⟩
  | exit _=>exact he.elim
  | goto _=>exact he.elim
  | panic _=>exact he.elim
  | outgrown=>exact he.elim
end
section
variable {P:Program} {C:Ctx} {n:Nat} {ops:Array Oper} {Q:Exit→St→Prop} {st:St} {o:Oper} {rest:List Oper}
theorem WO.AG [db P] [GC P C] (X:o.guard=none) (hd:e7 n o.dst=true) {x:Operand} {xs:Array Operand} {U:Array TypeId} (ho:o.op=.call ⟨.value x,xs,U⟩) {fid:FuncId} {caps I:List A} (hx:av st.f x=some (.clo fid caps))
 (a7:jV st.f xs.toList=some I) (gs os:List Nat) (a8:nodupB gs=true) (b2:nodupB os=true) (b3:(os.all fun g=>st.lv.any fun h=>Nat.beq h g)=true) {args:List A} {M:List (List A)} {S:A→List (List A)→Prop} {m k:Nat}
 (hf:ru P fid args M m S k) (ad:(I++caps).map (dU st.bx gs os 5)=args) (hb:fQ st.bx gs os gs=some M) (hm:os.length=m)
 (h:∀ r b1,S r b1→WO P C n ops Q rest (St.put ⟨st.f,iw gs st.gen gs b1++st.bx,(List.range k).map (M.length+·+st.gen)++st.lv.filter (fun g=>!os.any (Nat.beq g)),M.length+k+st.gen⟩ o.dst (back gs st.gen r))):WO P C n ops Q (o::rest) st:=by
 subst hm;subst ad;refine WO.step X fun tmps w ⟨G,hs⟩=>?_;obtain⟨fn,b4,N,O⟩:=hf.ok;have hr:=hs.av hx;generalize hv:Act.eval ⟨tmps,[]⟩ x=v at hr
 cases hr with
 | clo _ vs _ b5 hcd=>
 obtain⟨h1,h2⟩:=iS hs xs.toList I a7;have ai:(execOp (Act.eval ⟨tmps,[]⟩) o).run P w=.ok (.enter fid (xs.map (Act.eval ⟨tmps,[]⟩)++vs)) w:=by unfold execOp;rw[ho];show Sem.run P (do let d ←resolve (Act.eval ⟨tmps,[]⟩) ⟨.value x,xs,U⟩ o.type;invoke d.target d.args) w=_;simp only[resolve,hv,Deferred.ofValue,Sem.run_bind,Sem.run_pure,Result.andThen_ok,invoke,callFunc,run_program,b4,N,O,Bool.false_eq_true,if_false,Array.empty_append]
 obtain⟨hlen,aj⟩:=hs.kV (gs:=gs) (os:=os) (eb a8) (eb b2) (fun g X=>by obtain⟨y,J,he⟩:=List.any_eq_true.1 (List.all_eq_true.1 b3 g X);exact Nat.eq_of_beq_eq_true he▸J) hb;have cy:=(gS hb).1;unfold dR;rw[ai];refine(hf.calls (eO C G w gs os) (gK G gs os) _ w (GC.qn hs) rfl hlen rfl (pz rfl) aj (by simp at h1;simp[b5,h1]) (fun i u a hu ha=>?_)).mono fun e w' ⟨r,b1,hS,hbl1,v,G',he,h3,h4⟩=>?_
 ·simp only[List.getElem?_map,Option.map_eq_some_iff] at ha
  obtain⟨y,J,rfl⟩:=ha;refine bu.kV hs gs os (by omega) 5 u y ?_;simp only[Array.getElem?_append] at hu;split at hu
  ·rename_i b6
   simp only[Array.size_map] at b6;have a1:i < I.length:=by simp at h1;omega
   rw[List.getElem?_append_left a1] at J;obtain⟨z,hz,ch⟩:=h2 i y J;simp only[Array.getElem?_map,Option.map_eq_some_iff] at hu;obtain⟨z',cj,rfl⟩:=hu;have:z=z':=by simp at hz;rw[cj] at hz;exact(Option.some.inj hz).symm
   subst this;exact ch
  ·rename_i cl
   simp only[Array.size_map] at cl hu;have a6:I.length≤i:=by simp at h1;omega
   rw[List.getElem?_append_right a6] at J;refine hcd (i - xs.size) u y hu ?_;have:xs.size=I.length:=by simpa using h1
   rw[this];exact J
 ·obtain⟨G2,cq,cx⟩:=hs.uz hb hbl1 h3
  exact⟨v,he,_,⟨G2,cx.put (cJ hd) (cq v r h4)⟩,h r b1 hS⟩
end
theorem E4.ret {P:Program} {T:cn P} {rs:List RV} {I:Nat} {S:A→List (List A)→Prop} {k:Nat} {e:Exit} {st:St} (r:A) (b1:List (List A)) (J:S r b1) (hb:b1.length=I) (h:cR T rs r b1 k e st):E4 T rs I S k e st:=⟨r,b1,J,hb,h⟩
section
variable {P:Program} {C:Ctx} {n:Nat} {ops:Array Oper} {Q:Exit→St→Prop} {rest:List Oper}
variable {f:List (Nat×A)} {bx:List (Nat×List A)} {lv:List Nat} {gen:Nat} {d:Nat} {ty:TypeId} {pos:String} {af:Array Edge}
theorem AG [db P] [GC P C] {ι:Type} {x:Operand} {xs:Array Operand} {O:Array TypeId} {fid:FuncId} {caps J args:List A} {I:List (List A)} {R:ι→A} {B:ι→List (List A)} {U:ι→Prop} {m k:Nat} {X:ι→A} {bx':ι→List (Nat×List A)} {lv':List Nat} {gen':Nat} (gs os:List Nat) (hx:av f x=some (.clo fid caps)) (ad:jV f xs.toList=some J)
 (M:(J++caps).map (dU bx gs os 5)=args) (hb:fQ bx gs os gs=some I) (hm:os.length=m) (hf:ru P fid args I m (fun r b1=>∃ x,U x∧r=R x∧b1=B x) k)
 (ai:nodupB gs=true) (aj:nodupB os=true) (a1:(os.all fun g=>lv.any fun h=>Nat.beq h g)=true) (hd:Nat.blt d n=true)
 (hr:∀ x,back gs gen (R x)=X x) (a6:∀ x,iw gs gen gs (B x)++bx=bx' x) (a7:(List.range k).map (I.length+·+gen)++lv.filter (fun g=>!os.any (Nat.beq g))=lv') (N:I.length+k+gen=gen')
 (h:∀ x,U x→WO P C n ops Q rest ⟨(d,X x)::f,bx' x,lv',gen'⟩) :
 WO P C n ops Q (⟨some d,.call ⟨.value x,xs,O⟩,ty,pos,af,none⟩::rest) ⟨f,bx,lv,gen⟩:=by
 subst a7;subst N;refine WO.AG (st:=⟨f,bx,lv,gen⟩) rfl hd rfl hx ad gs os ai aj a1 hf M hb hm ?_;rintro _ _ ⟨x,hS,rfl,rfl⟩;have h:=h x hS;rw[←hr x,←a6 x] at h;exact h
end
structure vz (ι:Type) where
 ok:ι→Prop
 bx0:List (Nat×List A)
 bx1:ι→List (Nat×List A)
 lv0:List Nat
 lv1:List Nat
 gen0:Nat
 gen1:Nat
 d:Nat
 a:ι→A
section
variable {ι:Type} {P:Program} {C:Ctx} {n:Nat} (S:vz ι) {ops:Array Oper} (c:Nat)
def Hk (C:Ctx) (n:Nat) (S:vz ι) (I:SC) (act:Act) (w:World):Prop:=
 act.defers=C.ds∧if I.2=true then I.1 S.d=some .any∧∃ x,S.ok x∧∃ G,eu C n (S.bx1 x) S.lv1 S.gen1 (cg I.1 (some S.d) (S.a x)) G act.tmps w else ∃ G,eu C n S.bx0 S.lv0 S.gen0 I.1 G act.tmps w
def HN (P:Program) (C:Ctx) (n:Nat) (S:vz ι) (ops:Array Oper) (o:Oper) (I:et):Prop:=
 o.guard=none∧∃ p,(∀ t x,look p t=some x→I t=some x∧t∈o.looksAt ops) ∧
  ∀ g,WO P C n ops (fun e st=>e=.normal∧∃ x,S.ok x∧st=⟨(S.d,S.a x)::(p++g),S.bx1 x,S.lv1,S.gen1⟩) [o] ⟨p++g,S.bx0,S.lv0,S.gen0⟩
def YX (P:Program) (C:Ctx) (n:Nat) (S:vz ι) (ops:Array Oper) (c:Nat) (i:Nat) (a:A) (I:SC):Prop:=
 ∃ o,ops[i]? = some o∧e7 n o.dst=true∧((i=c∧I.2=false∧o.dst=some S.d∧a=.any∧HN P C n S ops o I.1) ∨
   (i≠c∧o.dst≠some S.d∧(cK .any ops i c=false→YA P C n S.bx0 S.lv0 S.gen0 ops o a I.1)∧(cK .any ops c i=false→∀ x,S.ok x→YA P C n (S.bx1 x) S.lv1 S.gen1 ops o a I.1) ∧
    (I.2=false→cK .any ops i c=false)∧(I.2=true→cK .any ops c i=false)))
variable {S} {c}
theorem Al {o:Oper} {J:et} {dst:Option Nat} {x:A} (hd:∀ d,dst=some d→d∉o.looksAt ops):HN P C n S ops o (cg J dst x)↔HN P C n S ops o J:=by
 constructor
 ·rintro⟨h0,p,h1,h2⟩
  exact⟨h0,p,fun t y I=>⟨(ga hd (h1 t y I).2).symm.trans (h1 t y I).1,(h1 t y I).2⟩,h2⟩
 ·rintro⟨h0,p,h1,h2⟩
  exact⟨h0,p,fun t y I=>⟨(ga hd (h1 t y I).2).trans (h1 t y I).1,(h1 t y I).2⟩,h2⟩
theorem Ip {i j:Nat} {M J:Oper} (hi:ops[i]? = some M) (hj:ops[j]? = some J) (a8:i≠j) (b0:M.apart ops J=true) (b2:∀ e∈J.after,Region.binds .any e=true→e.on≠i) :
 py (YX P C n S ops c) (si ops c) i j:=by
 obtain⟨X,a2,a3⟩:=Oper.apart_spec b0;have ai:=uF hj b2;rintro a b ⟨φ,ph⟩ ⟨b6,aj,di,a6⟩ ⟨ch,a7,dj,N⟩;rw[hi] at aj;cases aj;rw[hj] at a7;cases a7;rw[fq hi] at N;rw[fq hi,fq hj,fq hj,fq hi];have b5:cg (cg φ M.dst a) J.dst b=cg (cg φ J.dst b) M.dst a:=km φ a b a2;simp only at a6 N ⊢;rcases a6 with ⟨rfl,O,b3,ha,I⟩ | ⟨U,ni,y0,y1,y2,y3⟩
 ·subst O
  rcases N with ⟨e,_⟩ | ⟨ad,nj,z0,z1,z2,z3⟩
  ·exact absurd e.symm a8
  ·refine⟨⟨J,hj,dj,.inr ⟨ad,nj,fun h=>(dV X).1 (z0 h),fun h x I=>(dV X).1 (z1 h x I),fun _=>ai,fun h=>by cases h⟩⟩,⟨M,hi,di,.inl ⟨rfl,?_,b3,ha,(Al a3).2 I⟩⟩,?_⟩
   ·grind
   ·grind
 ·rcases N with ⟨rfl,O,b4,hb,I⟩ | ⟨ad,nj,z0,z1,z2,z3⟩
  ·rw[if_neg U] at O
   subst O;refine⟨⟨J,hj,dj,.inl ⟨rfl,rfl,b4,hb,(Al X).1 I⟩⟩,⟨M,hi,di,.inr ⟨U,ni,fun h=>(dV a3).2 (y0 h),fun h x I=>(dV a3).2 (y1 h x I),fun h=>?_,fun _=>ai⟩⟩,?_⟩;·grind
   ·grind
  ·rw[if_neg U] at z2 z3
   refine⟨⟨J,hj,dj,.inr ⟨ad,nj,fun h=>(dV X).1 (z0 h),fun h x I=>(dV X).1 (z1 h x I),z2,z3⟩⟩,⟨M,hi,di,.inr ⟨U,ni,fun h=>(dV a3).2 (y0 h),fun h x I=>(dV a3).2 (y1 h x I),?_,?_⟩⟩,?_⟩;·grind
   ·grind
   ·grind
theorem HC (i:Nat) (a:A) (σ:SC) (act:Act) (w:World) (K:Act→World→Prop) {Q':Exit→Act→World→Prop} (hs:Hk C n S σ act w) (I:YX P C n S ops c i a σ) (N:∀ act w,Hk C n S (si ops c i a σ) act w→K act w):wpOp P ops Q' i K act w:=by
 obtain⟨tmps,ch⟩:=act;obtain⟨rfl,hs⟩:=hs;obtain⟨J,ph⟩:=σ;obtain⟨o,ho,hd,I⟩:=I;rw[fq ho] at N;simp only at hs I N;unfold wpOp;simp only[ho];rcases I with ⟨rfl,rfl,O,rfl,hg,p,hp,M⟩ | ⟨b0,a1,y0,y1,y2,y3⟩
 ·simp only[Bool.false_eq_true,if_false] at hs
  obtain⟨G,hs⟩:=hs;have hw:Region.wanted o (yielded ops tmps)=true:=by simp[Region.wanted,hg]
  rw[hw,if_pos rfl];refine .inl ?_;have b2:∀ t x,J t=some x→t < n:=fun t x M=>by obtain⟨v,h1,_⟩:=hs.2 t x M;have:=(Array.getElem?_eq_some_iff.1 h1).1;rw[hs.1.size] at this;grind
  have aj:∀ t,look (p++e8 n J) t=J t:=fun t=>by
   rw[pA]
   cases q:look p t with
   | some x=>exact(hp t x q).1.symm
   | none=>
     simp only;unfold e8;rw[lK]
     cases e:J t with
     | none=>split <;> rfl
     | some x=>rw[if_pos (List.mem_range.2 (b2 t x e))]
  have b3:=hs.kS (f:=p++e8 n J) fun t x M=>by rw[←aj];exact M
  have h:=M (e8 n J) tmps w ⟨G,b3⟩;simp only[eX,hw,if_true] at h;refine Oper.zO (fun c a w U=>?_) (fun hl=>?_) (fun a8 w2 U=>?_) h
  ·obtain⟨_,st',_,he,_⟩:=U
   grind
  ·obtain⟨_,_,U⟩:=hl
   obtain⟨_,st',_,he,_⟩:=U;grind
  ·obtain⟨b4,st',⟨G',a6⟩,_,x,hok,rfl⟩:=U
   refine N a8 w2 ⟨b4,?_⟩;simp only[if_true];refine⟨by rw[O];simp[cg],x,hok,G',?_⟩;refine⟨{ a6 with frame:=fun t a ha=>by simp[look] at ha },fun t y I=>a6.frame t y ?_⟩;show look ((S.d,S.a x)::(p++e8 n J)) t=some y;rw[O] at I;rw[bU];simp only[cg] at I;grind
 ·rw[if_neg b0] at N
  have key:∀ {bx:List (Nat×List A)} {lv:List Nat} {gen:Nat} {X:et} {G:Gh},eu C n bx lv gen X G tmps w→eu C n bx lv gen J G tmps w→YA P C n bx lv gen ops o a J→(∀ tmps w,eu C n bx lv gen (cg X o.dst a) G tmps w→K ⟨tmps,C.ds⟩ w) →
   (if Region.wanted o (yielded ops tmps)=true then o.wp P ⟨tmps,C.ds⟩ w K Q'∨(o.asks P ⟨tmps,C.ds⟩ w∧LetsOut Q') else K (Act.put ⟨tmps,C.ds⟩ o.dst undef) w):=by
   intro bx lv gen X G ad ai b5 hk;obtain⟨_,⟨hw,f,hf,hp⟩ | ⟨hw,rfl⟩⟩:=b5
   ·rw[gr ai hw]
    simp only[if_true];refine .inl ?_;have hg:dR P o ⟨tmps,[]⟩ w fun v w'=>Below w.heap.size w w'∧bu (bj C G gen w') v a:=hp G tmps w (ai.kS fun t x M=>(hf t x M).1);refine hg.ds.wp fun v w' ⟨hb,hr⟩=>?_;rw[Act.gP];exact hk _ _ (ad.step hb hd hr)
   ·rw[gr ai hw]
    simp only[Bool.false_eq_true,if_false];rw[Act.gP];exact hk _ _ (ad.step (Below.refl _ _) hd (.tup #[] [] rfl (by simp)))
  cases ph with
  | false=>simp only[Bool.false_eq_true,if_false] at hs;obtain⟨G,hs⟩:=hs;exact key hs hs (y0 (y2 rfl)) fun tmps w h=>N _ _ ⟨rfl,by simp only[Bool.false_eq_true,if_false];exact⟨G,h⟩⟩
  | true=>
    simp only[if_true] at hs;obtain⟨a7,x,hok,G,hs⟩:=hs;have b6:eu C n (S.bx1 x) S.lv1 S.gen1 J G tmps w:=by
     refine⟨hs.1,fun t y I=>?_⟩;by_cases e:t=S.d
     ·subst e
      rw[a7] at I;cases I;obtain⟨v,h1,_⟩:=hs.2 S.d (S.a x) (by simp[cg]);exact⟨v,h1,.any v⟩
     ·exact hs.2 t y (by simp only[cg];rw[if_neg e];exact I)
    refine key hs b6 (y1 (y3 rfl) x hok) fun tmps w h=>N _ _ ⟨rfl,?_⟩;simp only[if_true];refine⟨by rw[←a7];cases hdo:o.dst with | none=>rfl | some e=>simp only[cg];rw[if_neg (fun q=>a1 (by rw[hdo,q]))],x,hok,G,?_⟩;rw[km J (S.a x) a (fun d h1 h2=>a1 (h2.trans h1.symm))] at h;exact h
def CX (P:Program) (C:Ctx) (n:Nat) (S:vz ι) (ops:Array Oper) (c:Nat) (Q:ι→St→Prop) (l:List Oper) (i:Nat) (f:List (Nat×A)) (ph:Bool):Prop:=
 Aj (YX P C n S ops c) (si ops c) (fun I=>∃ f',(∀ t,look f' t=I.1 t)∧I.2=true∧∀ x,S.ok x→Q x ⟨(S.d,S.a x)::f',S.bx1 x,S.lv1,S.gen1⟩) l i (look f,ph)
theorem W.Gq (T:cn P) {id:Nat} {l l1 l2:List Oper} {f:List (Nat×A)} {bx:List (Nat×List A)} {lv:List Nat} {gen:Nat} {Q:Exit→St→Prop} (S:vz ι) (m c:Nat) (ai:S.bx0=bx) (aj:S.lv0=lv) (ad:S.gen0=gen) (hB:fE m l.toArray=true) (h1:l.take m=l1) (h2:l.drop m=l2)
 (h:CX P C n S l.toArray c (fun _=>WO P C n l.toArray Q l2) l1 0 f false):W P C n (.region id l.toArray true) Q ⟨f,bx,lv,gen⟩:=by
 subst h1;subst h2;subst ai;subst aj;subst ad;intro tmps w ⟨G,hs⟩;simp only[fE,Bool.and_eq_true] at hB;obtain⟨⟨⟨hm,hw⟩,O⟩,I⟩:=hB;have hm:m≤l.length:=by simpa using Nat.le_of_ble_eq_true hm
 have hb:Below w.heap.size w { w with drawn:=w.drawn+1 }:=(Below.refl _ w).drew;have a1:eu C n S.bx0 S.lv0 S.gen0 (look f) G tmps { w with drawn:=w.drawn+1 }:=eu.gX (hs.gF hb).2;have hlen:(l.take m).length=m:=by simp;omega
 refine wp_region_any T.mixed ?_;have U:l.toArray.size=(l.take m).length+(l.drop m).length:=by simp;omega
 rw[U];have X:gf .any l.toArray (Array.replicate ((l.take m).length+(l.drop m).length) false):=fun j oj _ hl _ _ _=>by
  by_cases q:j < (l.take m).length+(l.drop m).length;·simp_all
  ·grind
 refine ma (m:=m) (Sm:=Hk C n S) (Y:=YX P C n S l.toArray c) (ef:=si l.toArray c) (Q:=fun J=>∃ f',(∀ t,look f' t=J.1 t)∧J.2=true∧∀ x,S.ok x→WO P C n l.toArray Q (l.drop m) ⟨(S.d,S.a x)::f',S.bx1 x,S.lv1,S.gen1⟩)
  (fun i e J act w K hs hy hk=>HC i e J act w K hs hy hk) (fun listed J act w hs hc M ⟨f',e1,e2,hq⟩=>?_) _ _ (look f,false) ⟨tmps,C.ds⟩ _ ⟨rfl,by simp only[Bool.false_eq_true,if_false];exact⟨G,a1⟩⟩ X ?_
 ·obtain⟨tmps,b0⟩:=act
  obtain⟨rfl,hs⟩:=hs;rw[e2] at hs;simp only[if_true] at hs;obtain⟨_,x,hok,G,hs⟩:=hs;refine lp hw (ml O) (l.drop m) m listed ⟨tmps,C.ds⟩ w (Nat.le_refl _) (by simp;omega) (fun j=>by simp[List.getElem?_drop]) hc M.1 M.2.1 M.2.2 ?_;refine hq x hok tmps w ⟨G,hs.kS (fun t a N=>?_)⟩;rw[bU] at N;simp only[cg];by_cases e:S.d=t;·rw[if_pos e] at N;rw[if_pos e.symm];exact N
  ·rw[if_neg e] at N;rw[if_neg (Ne.symm e),←e1];exact N
 ·refine uR hw (fun i j oi oj hi hj a6 b2 b3 a7 a8=>Ip hi hj a6 a7 a8) (l.take m) 0 _ _ (by rw[hlen];omega) (fun j hj=>?_) X (by simp;omega) (fun j hj=>by omega) (fun j _ hj=>?_) (by rw[hlen];rw[U,hlen] at I;exact I) h
  ·grind
  ·simp_all
theorem W.EN (T:cn P) {id:Nat} {l l1 l2:List Oper} {f:List (Nat×A)} {bx:List (Nat×List A)} {lv:List Nat} {gen:Nat} {Q:Exit→St→Prop} (ok:ι→Prop) (B:ι→List (Nat×List A)) (lv1:List Nat) (gen1 d:Nat) (a:ι→A) (m c:Nat) (hB:fE m l.toArray=true) (h1:l.take m=l1) (h2:l.drop m=l2)
 (h:CX P C n ⟨ok,bx,fun x=>B x++bx,lv,lv1,gen,gen1,d,a⟩ l.toArray c (fun _=>WO P C n l.toArray Q l2) l1 0 f false):W P C n (.region id l.toArray true) Q ⟨f,bx,lv,gen⟩:=
 W.Gq T ⟨ok,bx,fun x=>B x++bx,lv,lv1,gen,gen1,d,a⟩ m c rfl rfl rfl hB h1 h2 h
variable {op:Op} {ty:TypeId} {pos:String} {af:Array Edge} {a:A} {d i:Nat} {rest:List Oper} {f:List (Nat×A)} {Q:ι→St→Prop} {o:Oper} {ph:Bool}
theorem CX.nil (h:∀ x,S.ok x→Q x ⟨(S.d,S.a x)::f,S.bx1 x,S.lv1,S.gen1⟩):CX P C n S ops c Q [] i f true:=⟨f,fun _=>rfl,rfl,h⟩
theorem Ar (h1:∀ x,S.ok x→Pu P C n ⟨cO f (slotsOf op),S.bx1 x,S.lv1,S.gen1⟩ ⟨some d,op,ty,pos,af,none⟩ a) (h0:Pu P C n ⟨cO f (slotsOf op),S.bx0,S.lv0,S.gen0⟩ ⟨some d,op,ty,pos,af,none⟩ a)
 (hi:ops[i]? = some ⟨some d,op,ty,pos,af,none⟩) (M:Nat.beq i c=false) (N:cK .any ops i c=false) (b1:cK .any ops c i=false) (hd:Nat.blt d n=true) (I:Nat.beq d S.d=false)
 (h:CX P C n S ops c Q rest (i+1) ((d,a)::f) ph):CX P C n S ops c Q (⟨some d,op,ty,pos,af,none⟩::rest) i f ph:=by
 have J:i≠c:=fun e=>by subst e;simp at M
 refine⟨a,⟨_,hi,hd,.inr ⟨J,fun e=>by cases e;simp at I,fun _=>YA.nv h0 hd,fun _ x O=>YA.nv (h1 x O) hd,fun _=>N,fun _=>b1⟩⟩,?_⟩;rw[fq hi];grind[CX,ew]
theorem Ff (h0:Pu P C n ⟨cO f (slotsOf op),S.bx0,S.lv0,S.gen0⟩ ⟨some d,op,ty,pos,af,none⟩ a)
 (hi:ops[i]? = some ⟨some d,op,ty,pos,af,none⟩) (M:Nat.beq i c=false) (N:cK .any ops i c=false) (b1:cK .any ops c i=true) (hd:Nat.blt d n=true) (I:Nat.beq d S.d=false)
 (h:CX P C n S ops c Q rest (i+1) ((d,a)::f) false):CX P C n S ops c Q (⟨some d,op,ty,pos,af,none⟩::rest) i f false:=by
 have J:i≠c:=fun e=>by subst e;simp at M
 refine⟨a,⟨_,hi,hd,.inr ⟨J,fun e=>by cases e;simp at I,fun _=>YA.nv h0 hd,(fun h=>by rw[b1] at h;cases h),fun _=>N,fun h=>by cases h⟩⟩,?_⟩;rw[fq hi];grind[CX,ew]
theorem JM (I:∀ g,WO P C n ops (fun e st=>e=.normal∧∃ x,S.ok x∧st=⟨(S.d,S.a x)::(cO f (slotsOf op)++g),S.bx1 x,S.lv1,S.gen1⟩) [⟨some S.d,op,ty,pos,af,none⟩] ⟨cO f (slotsOf op)++g,S.bx0,S.lv0,S.gen0⟩)
 (hi:ops[i]? = some ⟨some S.d,op,ty,pos,af,none⟩) (M:Nat.beq i c=true) (hd:Nat.blt S.d n=true) (h:CX P C n S ops c Q rest (i+1) ((S.d,.any)::f) true):CX P C n S ops c Q (⟨some S.d,op,ty,pos,af,none⟩::rest) i f false:=by
 have J:i=c:=Nat.eq_of_beq_eq_true M;refine⟨.any,⟨_,hi,hd,.inl ⟨J,rfl,rfl,rfl,rfl,cO f (slotsOf op),fun t x I=>?_,fun g=>I g⟩⟩,?_⟩
 ·obtain⟨h1,h2⟩:=eF I
  exact⟨h1,List.mem_append.2 (.inl h2)⟩
 ·rw[fq hi]
  grind[CX,ew]
end
end Go.Ab
namespace Go.Tb
open Go.Ab
def total (ps:List bw):Nat:=(ps.map fun p=>p.evs.length).sum
theorem AT (ps:List bw) (p:bw):total (ps++[p])=total ps+p.evs.length:=by unfold total;simp
theorem AH {ps:List bw} {k:Nat} {p:bw} (h:ps[k]? = some p):total (ps.take k)+p.evs.length≤total ps:=by
 have e:ps=ps.take k++p::ps.drop (k+1):=by rw[←(List.getElem?_eq_some_iff.1 h).2,←List.drop_eq_getElem_cons (List.getElem?_eq_some_iff.1 h).1,List.take_append_drop]
 have:total ps=total (ps.take k)+(p.evs.length+total (ps.drop (k+1))):=by
  conv=>lhs;rw[e]
  unfold total;simp
 omega
theorem kK (th:Int):∀ {n:Nat} {ps:List bw},ps.length=n→(cp th ps).length≤ps.length∧∀ q∈cp th ps,q.evs.length≤total ps
 | 0,ps,h=>by have:ps=[]:=List.eq_nil_of_length_eq_zero h;subst this;exact⟨Nat.le_refl _,fun q I=>by cases I⟩
 | n+1,ps,h=>by
   obtain⟨p,r,e⟩:∃ p r,ps=r++[p]:=⟨ps.getLast (by rintro rfl;simp at h),ps.dropLast,(List.dropLast_concat_getLast _).symm⟩;subst e;obtain⟨h1,h2⟩:=kK th (n:=n) (ps:=r) (by simp at h;exact h);rw[jL,AT];split
   ·unfold mR
    split
    ·refine⟨by simp;exact h1,fun q I=>?_⟩
     rcases List.mem_append.1 I with I | I
     ·have:=h2 q I;omega
     ·simp at I;subst I;omega
    ·cases hl:(cp th r).getLast? with
     | none=>exact⟨by simp,fun q I=>by simp at I;subst I;omega⟩
     | some J=>
       have M:=h2 J (List.mem_of_getLast? hl);refine⟨?_,fun q I=>?_⟩;·simp only[List.length_append,List.length_dropLast,List.length_cons,List.length_nil];omega
       ·rcases List.mem_append.1 I with I | I
        ·have:=h2 q ((List.dropLast_sublist _).mem I);omega
        ·simp at I;subst I;simp;omega
   ·refine⟨by simp;omega,fun q I=>?_⟩
    have:=h2 q I;omega
theorem sX (l2:List (Value×List Ev)) (o:List (bw×Nat)):∀ (x:List D),x∈o.map (fy l2)→x.length=4:=by intro x I;obtain⟨e,_,rfl⟩:=List.mem_map.1 I;rfl
theorem ox.JD {L:PL} {l:List (Value×List (List D))} {l2:List (Value×List Ev)} {J:List bw} {x:Value} {L1:PL} {l1:List (Value×List (List D))} {j:Nat} {o:List (bw×Nat)} {p:bw} (h:ox L l l2 J p.thread x L1 l1 j o) :
 ∃ (I:List (List D)) (tA O oC:Int) (vA:Value) (U:List Ev) (M:List (Value×List Ev)) (iA:Nat) (oA:List (bw×Nat)),
   ((0 < p.lost∨o=[])→I=o.map (fy l2)∧tA=p.thread∧O=p.serial∧oC=p.lost∧vA=iX∧M=l2++[(iX,[])]) ∧
   (¬ (0 < p.lost∨o=[])→o.map (fy l2)=I++[iO tA O oC vA]∧M=l2) ∧
   M[iA]? = some (vA,U)∧I.length≤J.length∧(∀ (x:List D),x∈I→x.length=4)∧U.length≤total J ∧
   ∀ N y,kC (L1.set j (p.thread,oA)) (l1.set j (y,I++[iO tA O oC N])) (M.set iA (N,U++p.evs)) (J++[p]):=by
 have ad:=h.own _ o (List.mem_of_getElem? h.hL);obtain⟨b1,b2⟩:=kK p.thread (rfl:J.length=J.length);have ai:o.length≤J.length:=by have h1:=congrArg List.length ad.1;rw[List.length_map] at h1;omega
 by_cases hb:0 < p.lost∨o=[]
 ·exact⟨o.map (fy l2),p.thread,p.serial,p.lost,iX,[],l2++[(iX,[])],l2.length,o++[(p,l2.length)],fun _=>⟨rfl,rfl,rfl,rfl,rfl,rfl⟩,fun q=>absurd hb q,
  by rw[List.getElem?_append_right (Nat.le_refl _),Nat.sub_self];rfl,by simpa using ai,sX l2 o,Nat.zero_le _,fun N y=>h.step1 rfl hb N y⟩
 ·obtain⟨X,⟨q,i⟩,e⟩:∃ X e,o=X++[e]:=⟨o.dropLast,o.getLast (fun q=>hb (.inr q)),(List.dropLast_concat_getLast _).symm⟩
  subst e;obtain⟨v,hv⟩:=h.ev _ _ (List.mem_of_getElem? h.hL) (q,i) (by simp);have hq:q∈cp p.thread J:=by rw[←ad.1];simp
  refine⟨X.map (fy l2),q.thread,q.serial,q.lost,v,q.evs,l2,i,X++[(⟨q.thread,q.serial,q.lost,q.evs++p.evs⟩,i)],fun q=>absurd q hb,fun _=>⟨?_,rfl⟩,hv,by simp at ai ⊢;omega,sX l2 X,b2 q hq,fun N y=>h.step2 rfl (fun q=>hb (.inl q)) N y⟩;rw[List.map_append];show _++[fy l2 (q,i)]=_;unfold fy vg;rw[show l2[i]? = some (v,q.evs) from hv]
def l8 (L:PL):List (Int×D):=L.map fun p=>(p.1,.sl (p.2.map fun e=>e.1.c))
theorem Gx {L:PL} {l:List (Value×List (List D))} (h:l.length=L.length):(l8 L).length=(iq (L.map (·.1)) l).length:=by unfold l8 iq;simp[h]
theorem kC.done {L:PL} {l:List (Value×List (List D))} {l2:List (Value×List Ev)} {ad:List bw} (h:kC L l l2 ad) (i:Nat) (p X:Int×D) (h1:(iq (L.map (·.1)) l)[i]? = some p) (h2:(l8 L)[i]? = some X) :
 X.1=p.1∧∃ (j:Nat) (v:Value) (es N:List (List D)),l[j]? = some (v,es)∧p.2=.v v∧X.2=.sl N∧GQ Ev.c l2 es N:=by
 unfold l8 at h2;rw[List.getElem?_map,Option.map_eq_some_iff] at h2;obtain⟨⟨a,o⟩,hL,rfl⟩:=h2;obtain⟨x,hx⟩:=h.at_ i a o hL;unfold iq at h1;rw[List.getElem?_map,Option.map_eq_some_iff] at h1;obtain⟨⟨b,y⟩,hz,rfl⟩:=h1;rw[List.getElem?_zip_eq_some] at hz;obtain⟨J,M⟩:=hz;rw[List.getElem?_map,hL] at J;have M:l[i]? = some y:=M;rw[hx] at M;simp only[Option.map_some,Option.some.injEq] at J M;subst M;have J:a=b:=J;subst J;refine⟨rfl,i,x,_,_,hx,rfl,rfl,by simp,fun k e e' he O=>?_⟩;rw[List.getElem?_map,Option.map_eq_some_iff] at he O;obtain⟨q,hq,rfl⟩:=he;obtain⟨q',U,rfl⟩:=O;rw[hq] at U;cases U;refine⟨rfl,fun m d d' hd I=>?_⟩;obtain⟨v,hv⟩:=h.ev a o (List.mem_of_getElem? hL) q (List.mem_of_getElem? hq);have hr:fy l2 q=iO q.1.thread q.1.serial q.1.lost v:=by unfold fy vg;rw[hv]
 rw[hr] at hd
 match m,hd,I with
 | 0,hd,I=>simp at hd I;exact .inl (I.symm.trans hd)
 | 1,hd,I=>simp at hd I;exact .inl (I.symm.trans hd)
 | 2,hd,I=>simp at hd I;exact .inl (I.symm.trans hd)
 | 3,hd,I=>simp at hd I;exact .inr ⟨q.2,q.1.evs,v,hv,hd.symm,I.symm⟩
 | m+4,hd,I=>simp at hd
theorem DS (L:PL):(l8 L).map (·.1)=L.map (·.1):=by unfold l8;rw[List.map_map];rfl
theorem kC.get {L:PL} {l:List (Value×List (List D))} {l2:List (Value×List Ev)} {J:List bw} (h:kC L l l2 J) (a:Int):(cb (l8 L) a).getD (.v iX)=if cp a J=[] then .v iX else .sl ((cp a J).map bw.c):=by
 have key:∀ {M:PL},(M.map (·.1)).Nodup→(∀ o:List (bw×Nat),(a,o)∈M→cb (l8 M) a=some (.sl (o.map fun e=>e.1.c)))∧(a∉M.map (·.1)→cb (l8 M) a=none):=by
  intro M
  induction M with
  | nil=>exact fun _=>⟨(fun o I=>by cases I),fun _=>rfl⟩
  | cons p r O=>
    obtain⟨b,q⟩:=p;intro N;rw[List.map_cons,List.nodup_cons] at N;obtain⟨i1,i2⟩:=O N.2;have e:cb (l8 ((b,q)::r)) a=if b=a then some (.sl (q.map fun e=>e.1.c)) else cb (l8 r) a:=by show cb ((b,D.sl (q.map fun e=>e.1.c))::l8 r) a=_;rw[eW]
    refine⟨fun o I=>?_,fun hm=>?_⟩
    ·rw[e]
     rcases List.mem_cons.1 I with I | I
     ·cases I;rw[if_pos rfl]
     ·rw[if_neg (fun q=>N.1 (by rw[q];exact List.mem_map.2 ⟨_,I,rfl⟩)),i1 o I]
    ·rw[e,if_neg (fun q:b=a=>hm (by rw[q];exact List.mem_cons_self)),i2 (fun q=>hm (List.mem_cons_of_mem _ q))]
 obtain⟨k1,k2⟩:=key h.keys;by_cases hm:a∈L.map (·.1)
 ·obtain⟨⟨b,o⟩,I,rfl⟩:=List.mem_map.1 hm
  obtain⟨h1,h2⟩:=h.own b o I;rw[k1 o I,←h1,if_neg (by simpa using h2),List.map_map];rfl
 ·rw[k2 hm,if_pos (h.no a hm)];rfl
theorem oH {ids:List Int}:∀ {I ps:List bw},gH ids I ps=0→∀ p∈ps,dT p=0∧p.thread∈ids
 | _,[],_,_,hp=>by cases hp
 | I,q::r,h,p,hp=>by
   rw[gH] at h;split at h;·rename_i e;exact absurd h e
   ·rename_i e
    split at h;·cases h
    ·rename_i J
     split at h;·cases h
     ·rcases List.mem_cons.1 hp with rfl | hp
      ·exact⟨by simpa using e,by simpa using J⟩
      ·exact oH h p hp
theorem qw:∀ (ts:List GT) (seen:List Int),gw ts seen=0→seen.Nodup→(seen++ts.map GT.id).Nodup
 | [],seen,_,hn=>by simpa using hn
 | t::r,seen,h,hn=>by
   rw[gw] at h;split at h;·rename_i q;exact absurd h q
   ·split at h
    ·cases h
    ·rename_i q2
     have hm:t.id∉seen:=by simpa using q2
     have:=qw r (seen++[t.id]) h (by rw[List.nodup_append];exact⟨hn,by simp,fun a I b hb=>by simp at hb;subst hb;rintro rfl;exact hm I⟩);simpa using this
theorem w8 {ts:List GT} {ds:List (Int×Int)} {sn:List Sn} (h:eB ts ds sn=0):ts.length≤64∧(ts.map GT.id).Nodup:=by
 unfold eB at h;split at h;·cases h
 ·split at h
  ·cases h
  ·rename_i q
   split at h;·rename_i q2;exact absurd h q2
   ·rename_i q2
    exact⟨by omega,by simpa using qw ts [] (by simpa using q2) List.nodup_nil⟩
theorem BK (ps:List bw) (I:ps.length≤8):∀ {ts:List GT},ts.length≤64→(ts.flatMap fun t=>cp t.id ps).length≤512:=by
 have key:∀ ts:List GT,(ts.flatMap fun t=>cp t.id ps).length≤8*ts.length:=by
  intro ts
  induction ts with
  | nil=>simp
  | cons t r J=>rw[List.flatMap_cons,List.length_append,List.length_cons];have:=(kK t.id (rfl:ps.length=ps.length)).1;omega
 intro ts h;have:=key ts;omega
def AE (g:Int×Int×Int):List D:=[ci g.1,ci g.2.1,ci g.2.2]
def gY (ps:List bw):List (Int×Int×Int):=(ps.filter fun p=>decide (0 < p.lost)).map fun p=>(p.thread,p.serial - p.lost,p.lost)
def pF (l:fb):List (Int×Int×Int):=if ja l≠0 then [] else gY l.ps
theorem Aq (ps:List bw) (p:bw):gY (ps++[p])=if 0 < p.lost then gY ps++[(p.thread,p.serial - p.lost,p.lost)] else gY ps:=by unfold gY;rw[List.filter_append];by_cases e:0 < p.lost <;> simp[e]
abbrev bv (b:Bool):D:=.v (.bool b)
def gN (l:List ByteArray):List (ByteArray×Bool):=l.map fun s=>(s,true)
theorem kF (l:List ByteArray):(gN l).map (·.1)=l:=by unfold gN;rw[List.map_map];exact List.map_id' l
theorem wi {l:List ByteArray} (J:l.Nodup) (s:ByteArray):(cb (gN l) s).getD false=l.any (fun x=>decide (x=s)):=by
 cases h:l.any (fun x=>decide (x=s)) with
 | true=>obtain⟨x,I,he⟩:=List.any_eq_true.1 h;have he:x=s:=of_decide_eq_true he;subst he;obtain⟨j,hj⟩:=List.mem_iff_getElem?.1 I;grind[zF,gN,kF]
 | false=>grind[gN,List.any_eq_false,sT]
theorem vH {l:List ByteArray} {s:ByteArray} (h:l.any (fun x=>decide (x=s))=false):dp (gN l) s true=gN (l++[s]):=by grind[iF,List.any_eq_false,gN]
theorem tX {l:List ByteArray} {s:ByteArray} (I:l.Nodup) (h:l.any (fun x=>decide (x=s))=false):(l++[s]).Nodup:=by grind
end Go.Tb
namespace Go.Ab
theorem ld {P:Program} {C:Ctx} {n:Nat} {st:St} {o:Oper} {a a':A} (h:Pu P C n st o a) (I:Ab.uZ a=a'):Pu P C n st o a':=by subst I;intro G tmps w hs;exact(h G tmps w hs).mono fun J w' ⟨h1,h2⟩=>⟨h1,h2.uZ⟩
theorem C0 {P:Program} {C:Ctx} {n:Nat} {ops:Array Oper} {Q:Exit→St→Prop} {l:List Oper} {f:List (Nat×A)} {bx:List (Nat×List A)} (bx':List (Nat×List A)) {lv:List Nat} {gen:Nat} (h:nW bx bx') (k:WO P C n ops Q l ⟨f,bx',lv,gen⟩):WO P C n ops Q l ⟨f,bx,lv,gen⟩:=by intro tmps w ⟨G,hs⟩;exact k tmps w ⟨G,{ hs with box:=fun g c I=>hs.box g c (h.le g c I) }⟩
end Go.Ab
namespace Go.Tb
open Go.Ab
end Go.Tb
namespace Go.Ab
open Go.RowKit
section
variable {P:Program} {C:Ctx} {n:Nat} {Q:Exit→St→Prop} {c:Code}
variable {f:List (Nat×A)} {bx:List (Nat×List A)} {lv:List Nat} {gen:Nat}
theorem GD (g j:Nat) {cells cells':List A} {g2:Nat} {es:List (List D)} (hb:aY bx g=some cells) (hj:cells[j]? = some (.own g2 es)) (M:cells.set j (.d (.sl es))=cells') (h:W P C n c Q ⟨f,(g,cells')::bx,lv,gen⟩):W P C n c Q ⟨f,bx,lv,gen⟩:=by
 subst M;intro tmps w ⟨G,hs⟩;refine h tmps w ⟨G,hs.fw hb (by simp) fun b cs T h1 h2 h3 i x a N I=>?_⟩;by_cases e:j=i
 ·subst e
  have J:j < cells.length:=(List.getElem?_eq_some_iff.1 hj).1;rw[List.getElem?_set_self J] at I;simp only[Option.some.injEq] at I;subst I;have:=h3 j x _ N hj;cases this with | own _ _ _ hd _ _=>exact .d hd
 ·grind
end
end Go.Ab
namespace Go.Tb
open Go.Ab
end Go.Tb
namespace Go.Tb
open Go.Ab
def tJ (s:ByteArray):JV:=.mk 4 0 s [] []
def nJ (n:Int):JV:=.mk 3 n cC [] []
def fZ (f:Fm) (id:Int) (e:Ev) (k:ByteArray):JV:=
 if k=eT then tJ f.ph else if k=cU then nJ id else if k=cP then tJ e.name else if k=ij then nJ e.time
 else if k=ct then .mk 5 0 cC [] (e.stack.map tJ) else if k=f.n then nJ e.n else nJ e.m
def uG (f:Fm) (e:Ev):Bool:=bif !decide (f.ph=pS) then true else decide (e.n=2)
def mf (k:Int):Option Fm:=match jC.findIdx? fun f=>decide (f.kind=k) with
 | some i=>jC[i]?
 | none=>none
def wH (f:Fm) (id:Int) (e:Ev):JV:=.mk 6 0 cC (dA f (uG f e)) ((dA f (uG f e)).map (fZ f id e))
theorem vO (f:Fm) (on:Bool):(dA f on).length≤7:=by grind[dA]
theorem DA {k:Int} {f:Fm} (h:mf k=some f):∃ i:Nat,idx (jC.findIdx? fun f=>decide (f.kind=k))=(i:Int)∧jC[i]? = some f:=by
 unfold mf at h
 cases hi:jC.findIdx? fun f=>decide (f.kind=k) with
 | none=>rw[hi] at h;cases h
 | some i=>rw[hi] at h;exact⟨i,rfl,h⟩
def Fh (id:Int) (e:Ev):JV:=match mf e.kind with
 | some f=>wH f id e
 | none=>fH
def CO:List ByteArray:=[eT,cU,cP]
def mJ (t:dc):JV:=.mk 6 0 cC CO [tJ pM,nJ t.id,tJ t.name]
def sy (p:bw):List JV:=p.evs.map (Fh p.thread)
def sE (ts:List dc) (ps:List bw):List JV:=ts.map mJ++ps.flatMap sy
def jE (ts:List dc) (ps:List bw):JV:=.mk 5 0 cC [] (sE ts ps)
theorem sU:∀ {l:List Ev} {last:Option Int},iU l last=0→∀ e∈l,dN e=0
 | [],_,_,e,h=>by cases h
 | x::r,last,h,e,he=>by
   simp only[iU] at h;split at h;·grind
   ·rename_i q
    split at h;·grind
    ·rcases List.mem_cons.1 he with rfl | he
     ·grind
     ·exact sU h e he
theorem sj:∀ {ps:List bw},fT ps=0→∀ p∈ps,∀ e∈p.evs,dN e=0
 | [],_,p,hp=>by cases hp
 | q::r,h,p,hp=>by
   simp only[fT] at h;split at h;·grind
   ·rename_i h2
    rcases List.mem_cons.1 hp with rfl | hp
    ·grind[sU]
    ·exact sj h p hp
theorem Bx {k:Int} (h:1≤k∧k < 13):∃ f,mf k=some f:=by
 have:k=1∨k=2∨k=3∨k=4∨k=5∨k=6∨k=7∨k=8∨k=9∨k=10∨k=11∨k=12:=by omega
 rcases this with rfl | rfl | rfl | rfl | rfl | rfl | rfl | rfl | rfl | rfl | rfl | rfl <;> exact⟨_,rfl⟩
theorem sS:∀ (ps:List bw),(ps.flatMap sy).length=(ps.map fun p=>p.evs.length).sum
 | []=>rfl
 | p::r=>by rw[List.flatMap_cons,List.length_append,List.map_cons,List.sum_cons,sS r];simp[sy]
theorem Cw (ps:List bw) (k:Nat):((ps.take k).flatMap sy).length≤(ps.map fun p=>p.evs.length).sum:=by grind[sS,px.map,List.take_append_drop]
theorem F2 {ts:List dc} {ps:List bw} (h:(fY ts ps).2=0):gJ ts=0∧fT ps=0:=by grind[fY]
theorem Cy {e:Ev} (h:dN e=0) (id:Int):∃ f,mf e.kind=some f∧Fh id e=wH f id e∧e.stack.length≤1000000:=by
 have g:=vq h;obtain⟨f,J⟩:=Bx g.kind;refine⟨f,J,by unfold Fh;rw[J],?_⟩
 cases I:(dq e.kind).name with
 | false=>have:=(wh (g.stack I)).1;omega
 | true=>
   have:(dq e.kind).stack=false:=by
    have k:=g.kind;have:e.kind=1∨e.kind=2∨e.kind=3∨e.kind=4∨e.kind=5∨e.kind=6∨e.kind=7∨e.kind=8∨e.kind=9∨e.kind=10∨e.kind=11∨e.kind=12:=by omega
    rcases this with h | h | h | h | h | h | h | h | h | h | h | h <;> rw[h] at I ⊢ <;> first | rfl | exact absurd I (by decide)
   rw[g.noStack this];simp
end Go.Tb
namespace Go.Ab
section
variable {P:Program} {C:Ctx} {n:Nat} {ops:Array Oper} {c:Nat}
variable {op:Op} {ty:TypeId} {pos:String} {af:Array Edge} {a:A} {d i:Nat} {rest l:List Oper} {f:List (Nat×A)} {Q:St→Prop} {ph:Bool} {dst:Option Nat}
variable {bx0 bx1:List (Nat×List A)} {lv0 lv1:List Nat} {gen0 gen1:Nat}
end
open Go.RowKit
section
variable {P:Program} [db P] {C:Ctx} {n:Nat} {Q:Exit→St→Prop} {c:Code}
variable {f:List (Nat×A)} {bx:List (Nat×List A)} {lv lv':List Nat} {gen gen':Nat}
omit [db P] in
theorem Wd.b7 {J:Nat} [hnb:NB C J] {ι:Type} (V:ι→List (Nat×A)) (fi:List (Nat×A)) (B:ι→List (Nat×List A)) (bi:List (Nat×List A)) (lv':List Nat) (gen':Nat) (I:ι→Nat) (order:List Nat) (i:ι) (O:kv order gen' J=true)
 (U:nV order f (V i)) (M:om f fi) (hb:jZ order bx (B i)) (N:lq order bx bi) (hl:sh order lv lv'=true)
 (X:∀ i,Wd P C n c (Fc C n (fun i=>⟨V i++fi,B i++bi,lv',gen'⟩) I (I i) Q) ⟨V i++fi,B i++bi,lv',gen'⟩):Wd P C n (.loop c) Q ⟨f,bx,lv,gen⟩:=
 Wd.conv (st':=⟨V i++fi,B i++bi,lv',gen'⟩) (fun _ _ h=>ez.cD order O U M hb N hl h) (Wd.loop (fun i=>⟨V i++fi,B i++bi,lv',gen'⟩) I X i)
theorem Wd.cr {I:Nat} [hnb:NB C I] {ι:Type} {V:ι→List (Nat×A)} {fi:List (Nat×A)} {B:ι→List (Nat×List A)} {bi:List (Nat×List A)} {J:ι→Nat} {m:Nat} (order:List Nat) (i:ι) (hm:J i < m) (O:kv order gen' I=true)
 (U:nV order f (V i)) (M:om f fi) (hb:jZ order bx (B i)) (N:lq order bx bi) (hl:sh order lv lv'=true) :
 Fc C n (fun i=>⟨V i++fi,B i++bi,lv',gen'⟩) J m Q .normal ⟨f,bx,lv,gen⟩:=⟨i,hm,fun _ _ h=>ez.cD order O U M hb N hl h⟩
variable {st:St} {y:Code} {id:Nat}
omit [db P] in
theorem kR (I:mV st=true) (h:Wd P C n y Q st):QN (xm P C n y Q) .normal st:=⟨I,h⟩
theorem JN (I:mV st=true) (h:Q .normal st):QN Q .normal st:=⟨I,h⟩
theorem wS (I:mV st=true) (h:Q .ret st):QN Q .ret st:=⟨I,h⟩
theorem HF (I:mV st=true) (h:Q (.exit id) st):QN Q (.exit id) st:=⟨I,h⟩
omit [db P] in
theorem IZ (h:Wd P C n y Q st):xm P C n y Q .normal st:=h
omit [db P] in
theorem yc (h:Q .ret st):xm P C n y Q .ret st:=h
omit [db P] in
theorem F4 (h:Q (.exit id) st):xm P C n y Q (.exit id) st:=h
theorem FI {ι:Type} {S:ι→St} {I:ι→Nat} {m:Nat} (h:Q (.exit id) st):Fc C n S I m Q (.exit id) st:=h
def B4 (f:List (Nat×A)) (bx:List (Nat×List A)) (gs os:List Nat):List (Nat×A)→Prop
 | []=>True
 | (t,a')::r=>(∃ a,look f t=some a∧dU bx gs os 5 a=a')∧B4 f bx gs os r
theorem aJ {gs os:List Nat}:∀ {V:List (Nat×A)},B4 f bx gs os V→∀ t a',look V t=some a'→∃ a,Ab.look f t=some a∧dU bx gs os 5 a=a'
 | [],_,t,a',h=>by simp[Ab.look] at h
 | (s,b)::r,⟨h1,h2⟩,t,a',h=>by
   rw[bU] at h;split at h;·grind
   ·exact aJ h2 t a' h
def CM (bx:List (Nat×List A)) (o:List Nat):Nat→List (List A)→Prop
 | _,[]=>True
 | i,c::r=>(∃ c0,aY bx i=some c0∧gM o c0=c)∧CM bx o (i+1) r
theorem CM.get {o:List Nat}:∀ {b:List (List A)} {j:Nat},CM bx o j b→∀ (i:Nat) (c:List A),b[i]? = some c→∃ c0,aY bx (j+i)=some c0∧gM o c0=c
 | [],_,_,i,c,h=>by simp at h
 | I::r,j,⟨h1,h2⟩,i,c,h=>by
   cases i with
   | zero=>grind
   | succ i=>simp only[List.getElem?_cons_succ] at h;have:=CM.get h2 i c h;grind
theorem QR.mk' {b1:List (List A)} {k:Nat} (order:List Nat) (M:order.length=k) (I:nodupB (eo b1.length order)=true) (J:(order.all fun g=>lv.any fun h=>Nat.beq h g)=true)
 (hb:CM bx (eo b1.length order) 0 b1):QR b1 k ⟨f,bx,lv,gen⟩:=
 QR.mk order M I J fun i c h=>by have:=hb.get i c h;grind
end
def sO (P:Program) (fid:FuncId):Prop:=
 ∀ (l:Nat) (W:World) (I J b1 o1:Nat) (a:Option Addr) (cap:Nat) (R:World→Prop),cellAt W I J=some (.slice a 0 cap)→cellAt W b1 o1=some (.int .i64 1000)→R W →
   Calls P fid #[.func (.yield l) #[] #[],.pointer (some ⟨I,J,none⟩),.pointer (some ⟨b1,o1,none⟩)] W fun e W'=>(∃ v,e=.returned v)∧R W'
section
variable {P:Program} [db P] {C:Ctx} [GC P C] {n:Nat} {Q:Exit→St→Prop} {st:St}
omit [db P] in
theorem Wd.H0 {g:Operand} {par:Nat} {assign:Code} {body:Code} {fid:FuncId}
 (hg:av st.f g=some (.clo fid [.rowd [.sl []],.rowd [.v (.int .i64 1000)]])) (hok:jF P fid) (hit:sO P fid) (h:Q .normal st) :
 Wd P C n (.rangeFunc g #[par] assign body) Q st:=by
 intro tmps ds w ⟨G,hs⟩ ⟨Ds,U,cl,b0⟩;have U:ds=Ds.map xy:=U;subst U;obtain⟨p0,o0,p1,o1,b2,⟨u0,b3,b4⟩,b5⟩:=uT hs hg;obtain⟨a,cap,rfl⟩:=wm b4;refine(wpIn_wide (n:=1)).1 (wpIn_rangeFunc ?_);intro fn _;obtain⟨rec,J⟩:∃ rec:LoopState→Option Code→Loop,rec=fun s pe=>{ state:=s,pending:=pe,fn,tmps:=tmps,params:=#[par],assign:=assign,body,defers:=w.heap.size }:=⟨_,rfl⟩;obtain⟨I,N⟩:∃ I,(w.alloc (.deferred (some []))).alloc (.loop (rec .ready none))=I:=⟨_,rfl⟩;have X:I.heap[w.heap.size+1]? = some (.loop (rec .ready none)):=by rw[←N];have:=World.alloc_heap_new (w.alloc (.deferred (some []))) (.loop (rec .ready none));rwa [World.size_alloc] at this
 have O:Below w.heap.size w I:=by rw[←N];exact((Below.refl _ w).alloc (Nat.le_refl _) _).alloc (by simp) _
 have cq:I.heap[w.heap.size]? = some (.deferred (some [])):=by rw[←N];exact(Below.heap_alloc _ _ _ (by simp)).trans (World.alloc_heap_new w _)
 have b6:bg C n st G tmps I:=(hs.gF O).2;have cj:w.heap.size≤I.heap.size:=O.size;have a1:∀ {b o u},cellAt w b o=some u→cellAt I b o=some u:=fun {b o u} hu=>by rw[cw (O.block b (dF hu))];exact hu
 have cx:=hs.fr.size
 refine⟨w.heap.size+1,[{ target:=.collected w.heap.size,args:=#[] }],I,{ target:=.fn (.func fid) #[.pointer (some ⟨p0,o0,none⟩),.pointer (some ⟨p1,o1,none⟩)],args:=#[.func (.yield (w.heap.size+1)) #[] #[]] },I,fid,
  #[.func (.yield (w.heap.size+1)) #[] #[]]++#[.pointer (some ⟨p0,o0,none⟩),.pointer (some ⟨p1,o1,none⟩)],I,?_,?_,?_,?_,fun _=>Nat.le_refl _,?_⟩
 ·rw[←N,J];exact run_enterLoop_outer _ _ _ _ _
 ·have a7:Act.eval ⟨tmps,Ds.map xy⟩ g=.func (.func fid) #[] #[.pointer (some ⟨p0,o0,none⟩),.pointer (some ⟨p1,o1,none⟩)]:=by rw[Act.iR tmps _ []];exact b2
  simp only[resolve,a7];simp[go_sem]
 ·intro f' _;trivial
 ·obtain⟨cy,a8,ad,ai⟩:=hok
  simp only[Sem.run_bind,Sem.run_pure,Result.andThen_ok,invoke,callFunc,run_program,a8,ad,ai,Bool.false_eq_true,if_false]
 refine CallsIn.mono (callsIn_wide.2 (hit (w.heap.size+1) I p0 o0 p1 o1 a cap (fun W'=>W'=I) (a1 b3) (a1 b5) rfl)) ?_;rintro e W3 ⟨⟨v,rfl⟩,rfl⟩;have a6:=run_endLoop (P:=P) X (by rw[J];simp);rw[J] at a6;refine⟨none,_,a6,?_⟩;have ch:∀ D,W3.heap[D]? = some (Obj.deferred (some []))→D≠w.heap.size+1:=fun D M e=>by rw[e,X] at M;cases M
 have aj:∀ D:Nat,W3.heap[D]? = some (Obj.deferred (some []))→(W3.putObj (w.heap.size+1) (.loop { rec .ready none with state:=.exhausted })).heap[D]? = some (Obj.deferred (some [])):=fun D M=>by rw[World.putObj_heap_other (ch D M)];exact M
 rw[J] at aj;refine⟨⟨w.heap.size::Ds,rfl,?_,fun D M=>?_⟩,_,⟨G,b6.re X rfl (by omega) _⟩,h⟩;·grind
 ·rcases List.mem_cons.1 M with rfl | M
  ·grind
  ·obtain⟨h1,h2⟩:=b0 D M
   exact⟨h1,aj D (by rw[O.block D (Array.getElem?_eq_some_iff.1 h2).1];exact h2)⟩
theorem Dh {tmps:Array Value} {w:World} (h:ez C n st tmps w) {gs os:List Nat} {I:List (List A)} (M:nodupB gs=true) (N:nodupB os=true) (O:(os.all fun g=>st.lv.any fun h=>Nat.beq h g)=true) (hb:fQ st.bx gs os gs=some I) :
 ez C n ⟨st.f,iw gs st.gen gs I++st.bx,(List.range os.length).map (I.length+·+st.gen)++st.lv.filter (fun g=>!os.any (Nat.beq g)),I.length+os.length+st.gen⟩ tmps w:=by
 obtain⟨G,hs⟩:=h;obtain⟨_,J⟩:=hs.kV (gs:=gs) (os:=os) (eb M) (eb N) (fun g X=>by obtain⟨y,hy,he⟩:=List.any_eq_true.1 (List.all_eq_true.1 O g X);exact Nat.eq_of_beq_eq_true he▸hy) hb;obtain⟨G4,_,U⟩:=hs.uz hb rfl J;exact⟨G4,U⟩
theorem Wd.Ii {g:Operand} {par d id:Nat} {ty:TypeId} {pos:String} {af:Array Edge} {body:Code} {es:List (List D)} {fid:FuncId}
 (hg:av st.f g=some (.clo fid [.rowd [.sl es],.rowd [.v (.int .i64 1000)]])) (hok:jF P fid) (hit:vj P fid) (U:sO P fid) (X:es.length≤1000) (ad:Nat.blt par n=true) (ai:Nat.blt d n=true)
 (gs os:List Nat) (M:nodupB gs=true) (N:nodupB os=true) (O:(os.all fun g=>st.lv.any fun h=>Nat.beq h g)=true) {V:List (Nat×A)} {I b1:List (List A)} {m k:Nat} (hb:fQ st.bx gs os gs=some I) (hm:os.length=m)
 (hV:∀ t a',look V t=some a'→∃ a,look st.f t=some a∧dU st.bx gs os 5 a=a') (aj:(V.all fun x=>!Nat.beq x.1 par)=true) (h0:es=[]→b1=I∧k=m)
 (J:es≠[]→qS P n body ((d,.d (.sl es))::V) I m b1 k) (a1:b1.length=I.length)
 (h:Q .normal ⟨st.f,iw gs st.gen gs b1++st.bx,(List.range k).map (I.length+·+st.gen)++st.lv.filter (fun g=>!os.any (Nat.beq g)),I.length+k+st.gen⟩) :
 Wd P C n (.rangeFunc g #[par] (.region id #[⟨some d,.assign (.tmp par),ty,pos,af,none⟩] false) body) Q st:=by
 rcases Nat.eq_zero_or_pos es.length with hz | hp
 ·have he:es=[]:=List.length_eq_zero_iff.1 hz
  obtain⟨rfl,rfl⟩:=h0 he;subst he;subst hm;intro tmps ds w hs a6;refine Code.wp_mono ?_ (Wd.H0 (Q:=fun e s=>e=.normal∧s=st) hg hok U ⟨rfl,rfl⟩ tmps ds w hs a6);rintro e a w' ⟨hd,a8,a7,rfl,rfl⟩;exact⟨hd,_,Dh a7 M N O hb,h⟩
 ·exact aW hg hok hit hp X ad ai gs os M N O hb hm hV aj (J (fun e=>by rw[e] at hp;cases hp)) a1 h
end
end Go.Ab
namespace Go.Tb
open Go.Ab
def EW {α:Type}:PE α→Prop
 | .ok _ _=>True
 | .no _ w=>w=2∨w=4∨w=10∨w=20
theorem lC {α:Type} {a:Nat}:EW (.no a 10:PE α):=.inr (.inr (.inl rfl))
theorem EW.of {α β:Type} {a:Nat} {w:Int} (h:EW (.no a w:PE α)):EW (.no a w:PE β):=h
section
variable {l:List UInt8}
theorem rj {c:UInt8} {i:Nat}:EW (cF l c i):=by
 unfold cF;split;·trivial
 ·exact lC
theorem zV {x:List UInt8} {i:Nat}:EW (du l x i):=by
 cases h:du l x i with
 | ok=>trivial
 | no a w=>rw[xg h];exact lC
theorem HA {i:Nat}:EW (fc l i):=by
 rw[zK];split;·trivial
 ·split
  ·trivial
  ·split
   ·trivial
   ·unfold DH
    have:=zV (l:=l) (x:=[117,48,48]) (i:=i)
    cases h:du l [117,48,48] i with
    | no a w=>rw[h] at this;exact this
    | ok u j=>
      dsimp only;unfold D7;split;·exact lC
      ·split
       ·exact lC
       ·unfold D8
        split;·exact lC
        ·split
         ·exact lC
         ·trivial
theorem sN:∀ {k i:Nat} {acc:List UInt8},EW (dG l k i acc)
 | 0,_,_=>lC
 | k+1,i,acc=>by
   unfold dG;split;·exact lC
   ·split
    ·trivial
    ·split
     ·have:=HA (l:=l) (i:=i+1)
      cases h:fc l (i+1) with
      | no a w=>rw[h] at this;exact this
      | ok c j=>exact sN
     ·exact sN
theorem z6 {i:Nat}:EW (ee l i):=by
 unfold ee;have:=rj (l:=l) (c:=34) (i:=i)
 cases h:cF l 34 i with
 | no a w=>rw[h] at this;exact this
 | ok u j=>exact sN
theorem Hu {i:Nat}:EW (eK l i):=by
 unfold eK;dsimp only;generalize (if bh l i=45 then i+1 else i)=i1;by_cases q:cA l i1=i1;·grind[lC]
 ·rw[if_neg q]
  by_cases c:(gV (if (⟨((l.drop i).take (cA l i1 - i)).toArray⟩:ByteArray)=B #[45,48] then B #[48] else ⟨((l.drop i).take (cA l i1 - i)).toArray⟩)).2=true;·rw[if_pos c];trivial
  ·rw[if_neg c];exact .inl rfl
theorem ye {x:List UInt8} {v:JV} {i:Nat}:EW (match du l x i with | .no a w=>.no a w | .ok _ j=>.ok v j):=by
 have:=zV (l:=l) (x:=x) (i:=i)
 cases h:du l x i with
 | no a w=>rw[h] at this;exact this
 | ok u j=>trivial
structure Er (l:List UInt8) (k:Nat):Prop where
 v:∀ level i,EW (dB l k level i)
 a:∀ level i,EW (gh l k level i)
 ag:∀ level i acc,EW (fk l k level i acc)
 o:∀ level i,EW (gg l k level i)
 og:∀ level i keys acc,EW (fz l k level i keys acc)
theorem Il:∀ k,Er l k
 | 0=>⟨fun _ _=>by unfold dB;exact lC,fun _ _=>by unfold gh;exact lC,fun _ _ _=>by unfold fk;exact lC,fun _ _=>by unfold gg;exact lC,fun _ _ _ _=>by unfold fz;exact lC⟩
 | k+1=>by
   have I:=Il k;refine⟨fun level i0=>?_,fun level i0=>?_,fun level i acc=>?_,fun level i0=>?_,fun level i0 keys acc=>?_⟩
   ·rw[Ac]
    split;·exact ye
    ·split
     ·exact ye
     ·split
      ·exact ye
      ·split
       ·have J:=z6 (l:=l) (i:=bp l i0)
        cases M:ee l (bp l i0) with
        | no a w=>rw[M] at J;exact J
        | ok t j=>trivial
       ·split
        ·split
         ·exact .inr (.inr (.inr rfl))
         ·split
          ·exact I.a _ _
          ·exact I.o _ _
        ·exact Hu
   ·rw[vr]
    split;·trivial
    ·exact I.ag _ _ _
   ·rw[sx]
    have N:=I.v (level+1) i
    cases M:dB l k (level+1) i with
    | no a w=>rw[M] at N;exact N
    | ok v j=>
      dsimp only;split;·exact I.ag _ _ _
      ·have J:=rj (l:=l) (c:=93) (i:=bp l j)
       cases O:cF l 93 (bp l j) with
       | no a w=>rw[O] at J;exact J
       | ok u j2=>trivial
   ·rw[vB]
    split;·trivial
    ·exact I.og _ _ _ _
   ·rw[sA]
    have J:=z6 (l:=l) (i:=bp l i0)
    cases M:ee l (bp l i0) with
    | no a w=>rw[M] at J;exact J
    | ok t j=>
      dsimp only;split;·exact .inr (.inl rfl)
      ·have U:=rj (l:=l) (c:=58) (i:=bp l j)
       cases O:cF l 58 (bp l j) with
       | no a w=>rw[O] at U;exact U
       | ok u j1=>
         dsimp only;have N:=I.v (level+1) j1
         cases ad:dB l k (level+1) j1 with
         | no a w=>rw[ad] at N;exact N
         | ok v j2=>
           dsimp only;split;·exact I.og _ _ _ _
           ·have X:=rj (l:=l) (c:=125) (i:=bp l j2)
            cases ai:cF l 125 (bp l j2) with
            | no a w=>rw[ai] at X;exact X
            | ok u j3=>trivial
theorem zG:EW (er l):=by
 unfold er;have I:=(Il (l:=l) (3*l.length+1)).v 1 0
 cases J:dB l (3*l.length+1) 1 0 with
 | no a w=>rw[J] at I;exact I
 | ok v j=>dsimp only;split;exact lC;trivial
end
theorem vM:∀ l:List JV,(da l false).length=(l.map fun k=>(bt k).length).sum+l.length
 | []=>rfl
 | x::r=>by rw[fh,List.length_append,List.length_append,vM r,List.map_cons,List.sum_cons,List.length_cons];grind
theorem so:∀ (ks:List ByteArray) (l:List JV),ks.length=l.length→(l.map fun k=>(bt k).length).sum+2*l.length≤(bY ks l false).length
 | [],[],_=>by simp[bY]
 | s::ks,x::r,h=>by have:=so ks r (by simpa using h);rw[dE];grind
 | [],_::_,h=>by simp at h
 | _::_,[],h=>by simp at h
theorem pQ {j:JV} {level:Int} (h:cv j level=0):(j.kids.map fun k=>(bt k).length).sum+j.kids.length≤(bt j).length:=by
  obtain⟨op,n,s,keys,kids⟩:=j
  obtain⟨h1,_⟩:=ko h
  obtain⟨hf,_⟩:=ie h1
  show(kids.map fun k=>(bt k).length).sum+kids.length≤(bt (.mk op n s keys kids)).length
  cases kids with
  | nil=>simp
  | cons x r=>
    unfold dy at hf
    simp only[JV.op,JV.n,JV.s,JV.keys,JV.kids] at hf
    by_cases o1:op=1
    · grind
    by_cases o2:op=2
    · grind
    by_cases o3:op=3
    · grind
    by_cases o4:op=4
    · grind
    by_cases o6:op=6
    · have hkl:keys.length=(x::r).length:=by
        grind
      simp only[bt,o1,o2,o3,o4,o6,if_true,if_false]
      cases keys with
      | nil=>simp at hkl
      | cons k ks=>
        have hm:=so (k::ks) (x::r) hkl
        grind[ov,List.length_cons,List.length_append]
    · grind[bt,vM,qL,List.length_cons,List.length_append]
theorem zS {l:List JV} {k:JV} (h:k∈l):(bt k).length≤(l.map fun k=>(bt k).length).sum:=by
 induction l with
 | nil=>cases h
 | cons x r I=>grind
theorem r8 {level:Int}:∀ {l:List JV},dM l level=0→∀ k∈l,cv k level=0
 | [],_,k,I=>by cases I
 | x::r,h,k,I=>by
   obtain⟨h1,h2⟩:=ia h;rcases List.mem_cons.1 I with rfl | I
   ·grind
   ·exact r8 h2 k I
theorem nK {j k:JV} {level:Int} (h:cv j level=0) (I:k∈j.kids):cv k (level+1)=0:=by obtain⟨op,n,s,keys,kids⟩:=j;exact r8 (ko h).2 k I
theorem wq:∀ {l:List JV} {x:gC},(eg l x).2=0→∀ k∈l,k.op=6
 | [],_,_,k,I=>by cases I
 | j::r,x,h,k,I=>by
   simp only[eg] at h;split at h;·grind
   ·rename_i q
    rcases List.mem_cons.1 I with rfl | I
    ·grind[eV,cS,dm,Bool.or_eq_false_iff]
    ·exact wq h k I
/-! the events that are kept -/
theorem CY (l:List (Int×List Ev)) (a:Int) (e:Ev):mC (dp l a ((cb l a).getD []++[e]))≤mC l+1:=by
 induction l with
 | nil=>simp[dp,tj,mC]
 | cons p r I=>grind[eW,dp,mC]
theorem zT:∀ (l:List (Int×List Ev)) (L:List Int),L.Nodup→(L.map fun a=>((cb l a).getD []).length).sum≤mC l
 | [],L,_=>by
   have:(L.map fun a=>((cb ([]:List (Int×List Ev)) a).getD []).length).sum=0:=by induction L <;> simp_all[tj]
   grind
 | p::r,L,hn=>by
   have h1:=zT r L hn;have key:∀ L:List Int,L.Nodup→(L.map fun a=>((cb (p::r) a).getD []).length).sum≤(if p.1∈L then p.2.length else 0)+(L.map fun a=>((cb r a).getD []).length).sum:=by
    intro L
    induction L with
    | nil=>intro _;simp
    | cons a t I=>grind[List.nodup_cons,eW,List.mem_cons_self]
   grind[mC]
theorem Af (x:gC):∀ L:List Int,((L.flatMap (fm x)).map fun p=>p.evs.length).sum=(L.map fun a=>((cb x.evs a).getD []).length).sum
 | []=>rfl
 | a::r=>by rw[List.flatMap_cons,List.map_append,List.sum_append,List.map_cons,List.sum_cons,Af x r];congr 1;grind[fm]
theorem D3 (x:gC) (j:JV):mC (eV x j).1.evs≤mC x.evs+1:=by
 unfold eV;repeat' split
 all_goals first | exact CY _ _ _ | exact Nat.le_succ _
theorem Bz {x:gC} (h:x.ids.Nodup) (j:JV):(eV x j).1.ids.Nodup:=by
 unfold eV;repeat' split
 all_goals first | exact qf h _ | exact h
theorem wj:∀ (l:List JV) (x:gC),mC (eg l x).1.evs≤mC x.evs+l.length
 | [],x=>Nat.le_refl _
 | j::r,x=>by
   simp only[eg];split;·grind
   ·have h1:=wj r (eV x j).1
    grind[D3,List.length_cons]
theorem rT:∀ (l:List JV) {x:gC},x.ids.Nodup→(eg l x).1.ids.Nodup
 | [],x,h=>h
 | j::r,x,h=>by
   simp only[eg];split;·grind
   ·exact rT r (Bz h j)
theorem Dg {v:JV} (I:cv v 1=0) (hp:(bt v).length≤100000) (M:(eg v.kids x0).2=0→v.kids.length≤1000):BB v:=by
 have N:=pQ I;refine⟨by omega,fun k hm u hu=>?_,fun k hm=>?_,fun h0=>?_⟩
 ·have h1:=nK I hm
  have h2:=pQ h1;have h3:=pQ (nK h1 hu);have:=zS hm;have:=zS hu;omega
 ·unfold cH ve
  cases hg:fg k cU with
  | none=>simp[fH,JV.n]
  | some t=>
    by_cases J:t.op=3
    ·simp only[J,if_true,Option.getD_some]
     have h1:=nK (nK I hm) (sG hg);obtain⟨op,n,s,keys,kids⟩:=t;have J:op=3:=J;obtain⟨h2,_⟩:=ko h1;obtain⟨_,h3,_⟩:=ie h2;grind[eQ]
    ·grind[fH,JV.n]
 ·rw[Af]
  have h1:=zT (eg v.kids x0).1.evs (eg v.kids x0).1.ids (rT v.kids (x:=x0) List.nodup_nil);grind[wj,x0,mC]
theorem Bu {s:ByteArray} {v:JV} {i:Nat} (h:er (bc s)=.ok v i) (hs:s.size≤3000):BB v:=by
 obtain⟨J,hl,_⟩:=zo h;have hb:(bc s).length=s.size:=Array.length_toList;refine Dg J (by omega) fun h0=>?_;have N:=pQ J;have h2:2*v.kids.length≤(v.kids.map fun k=>(bt k).length).sum:=by
  have I:∀ k∈v.kids,2≤(bt k).length:=fun k hm=>by have M:=wq h0 k hm;obtain⟨op,n,t,keys,kids⟩:=k;have M:op=6:=M;grind[bt]
  clear N h0;generalize v.kids=l at I
  induction l with
  | nil=>simp
  | cons x r O=>grind
 omega
deriving instance DecidableEq for Fm
def hasB (l:List ByteArray) (k:ByteArray):Bool:=l.any fun x=>decide (k=x)
structure JO (f:Fm) (on:Bool):Prop where
 ph:hasB (dA f on) eT=true
 tid:hasB (dA f on) cU=true
 ts:hasB (dA f on) ij=true
 name:f.name=true→hasB (dA f on) cP=true
 n:f.n≠cC→hasB (dA f on) f.n=true
 m:vF f on=true→hasB (dA f on) f.m=true
 st:f.st=true→hasB (dA f on) ct=true
 n5:f.n≠eT∧f.n≠cU∧f.n≠cP∧f.n≠ij∧f.n≠ct
 m5:f.m≠eT∧f.m≠cU∧f.m≠cP∧f.m≠ij∧f.m≠ct
 mn:f.m≠cC→f.m≠f.n
 at_:oF f.ph=some f
 s9:f.ph=pS↔f.kind=9
theorem B1 {k:Int} {f:Fm} (h:mf k=some f):f∈jC∧f.kind=k:=by grind[mf,jC,List.findIdx?_eq_some_iff_getElem,List.getElem?_eq_getElem,Option.some.inj,List.mem_of_getElem?]
theorem xf (b:UInt8) (h:kg b=true):known b=true:=by
 have key:∀ n:Fin 256,kg (UInt8.ofNat n.val)=true→known (UInt8.ofNat n.val)=true:=by decide +kernel
 have:=key ⟨b.toNat,b.toNat_lt⟩;grind[UInt8.ofNat_toNat]
theorem pt {s:ByteArray} (h:cY s=0):eR s=true∧s.size≤40:=by
 unfold cY at h;split at h;·grind
 ·rename_i q
  have q1:(bc s).all kg=true:=by grind
  refine⟨?_,by omega⟩;unfold eR;rw[List.all_eq_true] at q1 ⊢;intro b hb;exact xf b (q1 b hb)
theorem EB {e:Ev} (h:dN e=0):eR e.name=true∧e.name.size≤40∧(∀ s∈e.stack,eR s=true∧s.size≤40)∧e.stack.length≤32:=by
 have g:=vq h
 cases hn:(dq e.kind).name with
 | true=>
   obtain⟨a,b⟩:=pt (g.name hn);have hs:(dq e.kind).stack=false:=by
    have k:=g.kind;have:e.kind=1∨e.kind=2∨e.kind=3∨e.kind=4∨e.kind=5∨e.kind=6∨e.kind=7∨e.kind=8∨e.kind=9∨e.kind=10∨e.kind=11∨e.kind=12:=by omega
    rcases this with h | h | h | h | h | h | h | h | h | h | h | h <;> rw[h] at hn ⊢ <;> first | rfl | exact absurd hn (by decide)
   have h0:=g.noStack hs;grind
 | false=>have h0:=g.noName hn;have I:=wh (g.stack hn);exact⟨by rw[h0];exact fO,by rw[h0];decide,fun s hs=>pt (I.2 s hs),I.1⟩
theorem vN (l:List UInt8):(dh l).length≤2*l.length+2:=by
 have key:∀ l:List UInt8,(l.flatMap dz).length≤2*l.length:=by
  intro l
  induction l with
  | nil=>simp
  | cons b r I=>grind[List.length_append,List.length_cons,dz]
 have:=key l;unfold dh;grind
theorem vo (s:ByteArray):(bc s).length=s.size:=Array.length_toList
theorem tH (s:ByteArray):(bt (tJ s)).length≤2*s.size+2:=by grind[vN,bc,vo,tJ,bt]
theorem qo {n:Int} (h:eQ n=true):(bt (nJ n)).length≤20:=by grind[AP,bt,nJ,dZ,vo]
theorem qt:∀ (l:List JV) (first:Bool) {m:Nat},(∀ k∈l,(bt k).length≤m)→(da l first).length≤(m+1)*l.length
 | [],_,m,_=>by simp[da]
 | x::r,first,m,h=>by have h1:=h x List.mem_cons_self;have h2:=qt r false (m:=m) fun k I=>h k (List.mem_cons_of_mem _ I);grind[fh,List.length_append,List.length_cons,Nat.mul_add]
theorem ss (v:ByteArray→JV):∀ (ks:List ByteArray) (first:Bool),(∀ k∈ks,k.size≤7) →
 (bY ks (ks.map v) first).length≤18*ks.length+(ks.map fun k=>(bt (v k)).length).sum
 | [],_,_=>by simp[bY]
 | k::r,first,h=>by have h1:=h k List.mem_cons_self;have h2:=ss v r false fun x I=>h x (List.mem_cons_of_mem _ I);grind[vN,bc,vo,dE,List.length_append,List.length_cons]
theorem uh {f:Fm} (h:f∈jC) (on:Bool):(∀ k∈dA f on,k.size≤7)∧((dA f on).countP fun k=>decide (k=ct))≤1∧f.ph.size≤1:=by
 have key:(jC.all fun f=>[true,false].all fun on=>((dA f on).all fun k=>decide (k.size≤7)) && (decide (((dA f on).countP fun k=>decide (k=ct))≤1) && decide (f.ph.size≤1)))=true:=by decide +kernel
 grind
theorem FM {f:Fm} {e:Ev} (hm:f∈jC) (I:dN e=0) {id:Int} (h0:0≤id) (h1:id≤1000000000000000) (k:ByteArray):(bt (fZ f id e k)).length≤100+if k=ct then 3000 else 0:=by
 have g:=vq I;obtain⟨_,t2,t3,t4⟩:=EB I;have hid:eQ id=true:=by unfold eQ;simp;omega
 have hp:=(uh hm true).2.2;unfold fZ;repeat' split
 all_goals try (have:=tH f.ph;omega)
 all_goals try (have:=qo hid;omega)
 all_goals try (have:=tH e.name;omega)
 all_goals try (have:=qo g.Hr;omega)
 all_goals try (have:=qo g.JF;omega)
 all_goals try (have:=qo g.JI;omega)
 have hi:=qt (e.stack.map tJ) true (m:=82) (fun x J=>by obtain⟨s,hs,rfl⟩:=List.mem_map.1 J;have:=tH s;have:=(t3 s hs).2;omega);grind[List.length_map,bt]
theorem Hw {f:Fm} {e:Ev} (I:mf e.kind=some f) (J:dN e=0) {id:Int} (h0:0≤id) (h1:id≤1000000000000000):(bt (wH f id e)).length≤4000:=by
 obtain⟨hm,_⟩:=B1 I;obtain⟨a,b,_⟩:=uh hm (uG f e);have c:=vO f (uG f e);have M:=ss (fZ f id e) (dA f (uG f e)) true a;have key:∀ l:List ByteArray,(l.map fun k=>(bt (fZ f id e k)).length).sum≤100*l.length+3000*l.countP fun k=>decide (k=ct):=by
  intro l
  induction l with
  | nil=>simp
  | cons k r N=>have O:=FM hm J h0 h1 k;grind
 grind[dA,uG,bt,wH,bY,fZ]
def GT.qh (t:GT):dc:=⟨t.id,t.name⟩
theorem zq {own:List bw} {p:bw} {th:Int} (h:∀ q∈own,q.thread=th) (hp:p.thread=th):∀ q∈mR own p,q.thread=th:=by
 intro q I;unfold mR at I;split at I
 ·rcases List.mem_append.1 I with I | I
  ·exact h q I
  ·simp at I;subst I;exact hp
 ·cases hl:own.getLast? with
  | none=>rw[hl] at I;simp at I;subst I;exact hp
  | some r=>
    rw[hl] at I;rcases List.mem_append.1 I with I | I
    ·exact h q ((List.dropLast_sublist _).mem I)
    ·simp at I;subst I;exact h r (List.mem_of_getLast? hl)
theorem wL (th:Int) (ps:List bw):∀ q∈cp th ps,q.thread=th:=by
 unfold cp;have key:∀ (l own:List bw),(∀ q∈own,q.thread=th)→(∀ q∈l,q.thread=th)→∀ q∈l.foldl mR own,q.thread=th:=by
  intro l
  induction l with
  | nil=>exact fun own h _=>h
  | cons p r J=>exact fun own h hl=>J _ (zq h (hl p List.mem_cons_self)) fun q I=>hl q (List.mem_cons_of_mem _ I)
 exact key _ _ (fun q I=>by cases I) fun q I=>by simpa using (List.mem_filter.1 I).2
theorem Bk {th:Int} {ps:List bw} (h:∀ p∈ps,¬ 0 < p.lost):(cp th ps).length≤1:=by
 unfold cp;have key:∀ (l own:List bw),own.length≤1→(∀ q∈l,¬ 0 < q.lost)→(l.foldl mR own).length≤1:=by
  intro l
  induction l with
  | nil=>exact fun own h _=>h
  | cons p r J=>
    intro own M hl;refine J _ ?_ fun q I=>hl q (List.mem_cons_of_mem _ I);unfold mR;rw[if_neg (hl p List.mem_cons_self)]
    cases own.getLast? with
    | none=>simp
    | some r=>simp;omega
 exact key _ _ (by simp) fun q I=>h q (List.mem_filter.1 I).1
theorem xO {ps:List bw} (h:∀ p∈ps,¬ 0 < p.lost):∀ ts:List GT,((ts.flatMap fun t=>cp t.id ps).map bw.thread).Sublist (ts.map GT.id)
 | []=>by simp
 | t::r=>by
   rw[List.flatMap_cons,List.map_append,List.map_cons];have h1:=Bk (th:=t.id) h;have h2:=wL t.id ps;have I:=xO h r
   cases hp:cp t.id ps with
   | nil=>simpa using I.cons t.id
   | cons q s=>
     rw[hp] at h1 h2;have:s=[]:=by cases s with | nil=>rfl | cons _ _=>simp at h1
     subst this;have e:q.thread=t.id:=h2 q List.mem_cons_self;simp only[List.map_cons,List.map_nil,e,List.cons_append,List.nil_append];exact I.cons_cons t.id
theorem yf {ids:List Int}:∀ {I ps:List bw},gH ids I ps=0→((I++ps).map bw.thread).Nodup→(∀ p∈ps,¬ 0 < p.lost)→∀ p∈ps,p.serial=0∧p.lost=0
 | _,[],_,_,_,p,hp=>by cases hp
 | I,q::r,h,hn,hl,p,hp=>by
   rw[gH] at h;split at h;·rename_i e;exact absurd h e
   ·rename_i e
    split at h;·cases h
    ·split at h
     ·cases h
     ·rename_i M
      rcases List.mem_cons.1 hp with rfl | hp
      ·have X:=gy (p:=p) (by simpa using e)
       have U:=hl p List.mem_cons_self;have N:p.thread∉I.map bw.thread:=by rw[List.map_append,List.nodup_append] at hn;exact fun q=>hn.2.2 _ q p.thread (by simp) rfl
       have he:jv I p.thread=(0,0):=by
        unfold jv;have:I.filter (fun q=>decide (q.thread=p.thread))=[]:=by rw[List.filter_eq_nil_iff];intro x J;simp;exact fun e=>N (List.mem_map.2 ⟨x,J,e⟩)
        rw[this];rfl
       rw[he] at M;have O:nw (0,0) p=true:=by simpa using M
       unfold nw at O;simp at O;omega
      ·exact yf h (by simpa using hn) (fun x J=>hl x (List.mem_cons_of_mem _ J)) p hp
theorem uo {l:fb} (h:ja l=0):eB l.ts l.ds l.sn=0∧gH (l.ts.map GT.id) [] l.ps=0∧(l.ts.flatMap fun t=>cp t.id l.ps)=l.ps:=by
 unfold ja at h;split at h;·cases h
 ·rename_i q
  have h1:eB l.ts l.ds l.sn=0:=by
   unfold gX at h;split at h;·rename_i e;exact absurd h e
   ·rename_i e;simpa using e
  have h2:gH (l.ts.map GT.id) [] l.ps=0:=by
   unfold gX at h;rw[if_neg (by simp[h1])] at h;split at h;·rename_i e;exact absurd h e
   ·rename_i e;simpa using e
  have h3:gX l.ts l.ds l.sn l.ps=(⟨l.ts,l.ds,l.sn,l.ts.flatMap fun t=>cp t.id l.ps⟩,0):=by unfold gX;rw[if_neg (by simp[h1]),if_neg (by simp[h2])]
  refine⟨h1,h2,?_⟩;rw[h3] at q;have q2:pc ⟨l.ts,l.ds,l.sn,l.ts.flatMap fun t=>cp t.id l.ps⟩ l=true:=by
   cases e:pc ⟨l.ts,l.ds,l.sn,l.ts.flatMap fun t=>cp t.id l.ps⟩ l with
   | true=>rfl
   | false=>exact absurd ⟨rfl,e⟩ q
  have q3:=(vI _ _).1 q2;exact congrArg fb.ps q3
theorem C5 {l:fb} (h1:eB l.ts l.ds l.sn=0) (h2:gH (l.ts.map GT.id) [] l.ps=0) (h3:(l.ts.flatMap fun t=>cp t.id l.ps)=l.ps):ja l=0:=by
 have h:gX l.ts l.ds l.sn l.ps=(l,0):=by unfold gX;rw[if_neg (by simp[h1]),if_neg (by simp[h2]),h3]
 unfold ja;rw[h,if_neg];rintro⟨_,q⟩;rw[(vI l l).2 rfl] at q;cases q
theorem C6 {ps:List bw} (h:¬ gY ps≠[]):∀ p∈ps,¬ 0 < p.lost:=by intro p hp hl;refine h fun e=>?_;unfold gY at e;rw[List.map_eq_nil_iff,List.filter_eq_nil_iff] at e;have:=e p hp;simp at this;omega
structure lu (l:fb):Prop where
 ds:l.ds=ep
 sn:l.sn=[]
 dom:∀ t∈l.ts,t.dom=0
 ok:uk (l.ts.map GT.qh) l.ps
 ck:ja l=0
 evs:∀ p∈l.ps,∀ e∈p.evs,dN e=0
 qh:∀ p∈l.ps,0≤p.thread∧p.thread≤1000000000000000
theorem qy {ts:List GT} {ds:List (Int×Int)} {sn:List Sn} (h:eB ts ds sn=0):ts≠[]∧ts.length≤64∧gw ts []=0∧eI ds sn=0∧mK ds ts=true:=by
 unfold eB at h;split at h;·cases h
 ·rename_i q1
  split at h;·cases h
  ·rename_i q2
   split at h;·rename_i q3;exact absurd h q3
   ·rename_i q3
    split at h;·rename_i q4;exact absurd h q4
    ·rename_i q4
     split at h;·cases h
     ·rename_i q5
      exact⟨q1,by omega,by simpa using q3,by simpa using q4,by simpa using q5⟩
theorem EC {ts:List GT} {ds:List (Int×Int)} {sn:List Sn} (h1:ts≠[]) (h2:ts.length≤64) (h3:gw ts []=0) (h4:eI ds sn=0) (h5:mK ds ts=true):eB ts ds sn=0:=by unfold eB;rw[if_neg h1,if_neg (by omega),if_neg (by simp[h3]),if_neg (by simp[h4]),if_neg (by simp[h5])]
theorem IC {l:fb} (U:ja l=0) (hd:¬ (1 < l.ds.length∨0 < l.sn.length)) (hg:¬ gY l.ps≠[]) (hT:total l.ps≤1000):lu l:=by
 obtain⟨h1,h2,h3⟩:=uo U;obtain⟨a1,a2,a3,a4,a5⟩:=qy h1;have hl:=C6 hg;have X:l.sn=[]:=List.eq_nil_of_length_eq_zero (by omega);have I:l.ds=ep:=by
  unfold eI at a4;split at a4;·cases a4
  ·rename_i q1
   split at a4;·cases a4
   ·split at a4
    ·cases a4
    ·rename_i q3
     have q3:l.ds.head? = some (0,0):=by simpa using q3
     cases I:l.ds with
     | nil=>exact absurd I q1
     | cons d r=>rw[I] at q3 hd;have:r=[]:=List.eq_nil_of_length_eq_zero (by simp only[List.length_cons] at hd;omega);subst this;simp at q3;rw[q3];rfl
 have O:∀ t∈l.ts,t.dom=0:=fun t ht=>by have:=List.all_eq_true.1 a5 t ht;rw[I] at this;unfold kX ep at this;simp at this;exact this.symm
 have J:=xO hl l.ts;rw[h3] at J;have ad:=(w8 h1).2;have M:=yf h2 (by simpa using ad.sublist J) hl;have N:=oH h2;refine⟨I,X,O,⟨by rw[List.map_map];exact J,fun p hp=>?_,by unfold total at hT;omega⟩,U,fun p hp=>sU (gy (N p hp).1).2.2.2.2.2,fun p hp=>(gy (N p hp).1).1⟩;obtain⟨b1,b2,b3,b4,b5,_⟩:=gy (N p hp).1;exact⟨(M p hp).1,(M p hp).2,List.length_pos_iff.2 b4,b5⟩
theorem lu.Ja {l:fb} (h:lu l):ja ⟨l.ts,l.ds++[(1,0)],l.sn,l.ps⟩=0:=by
 obtain⟨h1,h2,h3⟩:=uo h.ck;obtain⟨I,a2,a3,a4,a5⟩:=qy h1;refine C5 (EC I a2 a3 ?_ ?_) h2 h3
 ·show eI (l.ds++[(1,0)]) l.sn=0
  rw[h.ds,h.sn];decide
 ·refine List.all_eq_true.2 fun t J=>?_
  have:=List.all_eq_true.1 a5 t J;unfold kX at this ⊢;show((l.ds++[(1,0)]).any fun d=>decide (d.1=t.dom))=true;rw[List.any_append,this];rfl
theorem lu.JJ {l:fb} (h:lu l) {p:bw} (hp:l.ps=[p]):ja ⟨l.ts,l.ds,l.sn,[⟨p.thread,2,2,p.evs⟩]⟩=0:=by
 obtain⟨h1,h2,h3⟩:=uo h.ck;have M:p∈l.ps:=by rw[hp];simp
 obtain⟨N,O⟩:=oH h2 p M;obtain⟨b1,b2,b3,X,b5,b6⟩:=gy N;obtain⟨c1,c2,_⟩:=h.ok.2.1 p M;have U:dT ⟨p.thread,2,2,p.evs⟩=0:=by have hw:IntKind.i64.wrap (2+(p.evs.length:Int))=2+(p.evs.length:Int):=wrap64 (by omega);unfold dT;rw[if_neg (by unfold jl;simp;omega),if_neg (by simp only;rw[hw];omega),if_neg X,if_neg (by simp only;omega)];exact b6
 have I:nw (jv [] p.thread) ⟨p.thread,2,2,p.evs⟩=true:=by
  have J:nw (jv [] p.thread) p=true:=by
   rw[hp,gH] at h2;rw[if_neg (by simp[N]),if_neg (by simp[O])] at h2;split at h2;·cases h2
   ·rename_i e;simpa using e
  unfold nw at J ⊢;have e:jv [] p.thread=(0,0):=rfl;rw[e] at J ⊢;simp at J ⊢;exact J.2
 refine C5 h1 ?_ ?_
 ·show gH (l.ts.map GT.id) [] [⟨p.thread,2,2,p.evs⟩]=0
  rw[gH,if_neg (by simp[U]),if_neg (by simp[O]),if_neg (by rw[I];simp)];rfl
 ·show(l.ts.flatMap fun t=>cp t.id [⟨p.thread,2,2,p.evs⟩])=[⟨p.thread,2,2,p.evs⟩]
  have e:∀ a,cp a [⟨p.thread,2,2,p.evs⟩]=(cp a [p]).map fun q=>⟨q.thread,2,2,q.evs⟩:=fun a=>by
   unfold cp;by_cases q:p.thread=a;·simp[q,mR,c2]
   ·simp[q]
  simp only[e];rw[hp] at h3;have:=congrArg (List.map fun q:bw=>(⟨q.thread,2,2,q.evs⟩:bw)) h3;rw[List.map_flatMap] at this;exact this
def nX:List bw→Int→Int
 | [],n=>n
 | p::r,n=>nX r (IntKind.i64.wrap (n+p.evs.length))
def xQ (l:fb):Bool:=decide (nX (l.ps.take 9) 0≤40) && (decide (l.ps.length≤8) && (decide (l.ts.length≤8) && (decide (l.ds.length≤10) && decide (l.sn.length≤20))))
theorem uv:∀ (ps:List bw) (n:Nat),(∀ p∈ps,p.evs.length≤1000)→n+1000*ps.length≤1000000→nX ps n=(n+total ps:Nat)
 | [],n,_,_=>by simp[nX,total]
 | p::r,n,h,hn=>by have hp:=h p List.mem_cons_self;simp only[List.length_cons] at hn;rw[nX,wrap64 (by omega)];have:=uv r (n+p.evs.length) (fun q I=>h q (List.mem_cons_of_mem _ I)) (by omega);rw[show((n:Int)+(p.evs.length:Int))=((n+p.evs.length:Nat):Int) from by omega,this];unfold total;simp only[List.map_cons,List.sum_cons];omega
theorem HJ {l:fb} (h:xQ l=true):l.ps.length≤8∧((∀ p∈l.ps,dT p=0)→total l.ps≤1000):=by unfold xQ at h;simp only[Bool.and_eq_true,decide_eq_true_eq] at h;refine⟨h.2.1,fun hp=>?_⟩;have h1:=h.1;rw[List.take_of_length_le (by omega),show(0:Int)=((0:Nat):Int) from rfl,uv l.ps 0 (fun p q=>(gy (hp p q)).2.2.2.2.1) (by omega)] at h1;omega
theorem tz:∀ {ts:List GT} {seen:List Int},gw ts seen=0→∀ t∈ts,jW t=0
 | [],_,_,t,I=>by cases I
 | u::r,seen,h,t,I=>by
   rw[gw] at h;split at h;·rename_i e;exact absurd h e
   ·rename_i e
    split at h;·cases h
    ·rcases List.mem_cons.1 I with rfl | I
     ·simpa using e
     ·exact tz h t I
theorem F9 {t:GT} (h:jW t=0):0≤t.id∧t.id≤1000000000000000∧cY t.name=0:=by
 unfold jW at h;split at h;·cases h
 ·exact⟨by omega,by omega,h⟩
theorem HH {t:dc} (h0:0≤t.id) (h1:t.id≤1000000000000000) (I:cY t.name=0):(bt (mJ t)).length≤4000:=by
 have hid:eQ t.id=true:=by unfold eQ;simp;omega
 have J:=qo hid;have M:=tH t.name;have N:=(pt I).2;have O:(bt (tJ pM)).length=3:=by decide +kernel
 have q1:(dh (bc eT)).length=4:=by decide +kernel
 have q2:(dh (bc cU)).length=5:=by decide +kernel
 have q3:(dh (bc cP)).length=6:=by decide +kernel
 have e:bt (mJ t)=123::(bY [eT,cU,cP] [tJ pM,nJ t.id,tJ t.name] true++[125]):=by unfold mJ CO;simp only[bt];rfl
 rw[e,dE,dE,dE];simp only[List.length_cons,List.length_append,q1,q2,q3,bY,List.length_nil,if_true];simp;omega
theorem lu.len {l:fb} (h:lu l):(bt (jE (l.ts.map GT.qh) l.ps)).length≤1000000000000:=by
 obtain⟨h1,h2,h3⟩:=uo h.ck;obtain⟨U,a2,a3,a4,a5⟩:=qy h1;have hi:=qt (sE (l.ts.map GT.qh) l.ps) true (m:=4000) (fun x I=>by
  unfold sE at I;rcases List.mem_append.1 I with I | I
  ·obtain⟨t,J,rfl⟩:=List.mem_map.1 I
   obtain⟨u,hu,rfl⟩:=List.mem_map.1 J;obtain⟨b1,M,N⟩:=F9 (tz a3 u hu);exact HH b1 M N
  ·obtain⟨p,hp,I⟩:=List.mem_flatMap.1 I
   obtain⟨e,he,rfl⟩:=List.mem_map.1 I;obtain⟨f,O,hw,_⟩:=Cy (h.evs p hp e he) p.thread;rw[hw];exact Hw O (h.evs p hp e he) (h.qh p hp).1 (h.qh p hp).2)
 have X:(sE (l.ts.map GT.qh) l.ps).length≤64+20000:=by unfold sE;have:=h.ok.2.2;rw[List.length_append,sS,List.length_map,List.length_map];omega
 have:(bt (jE (l.ts.map GT.qh) l.ps)).length=(da (sE (l.ts.map GT.qh) l.ps) true).length+2:=by simp[jE,bt]
 omega
theorem lu.c {l:fb} (h:lu l):l.c=jJ.c ⟨l.ts.map GT.qh,ep,l.ps⟩:=by
 have e:l.ts.map GT.c=(l.ts.map GT.qh).map dc.c:=by rw[List.map_map];refine List.map_congr_left fun t I=>?_;show[ci t.id,cs t.name,ci t.dom]=[ci t.id,cs t.name,ci 0];rw[h.dom t I]
 show[D.sl (l.ts.map GT.c),D.sl (l.ds.map dC),D.sl (l.sn.map Sn.c),D.sl (l.ps.map bw.c)]=_;rw[e,h.ds,h.sn];rfl
section
variable {P:Program} {T:cn P} {tl th tts tt tds td tsn tn tv tps tp tes te ti tk ts tsl:Nat} {o1 o2 o3 o4 o5 o6 p1 p2 p3 p4 p5 p6 q1 q2 q3 q4 r1 r2 u1 u2 u3 u4 u5 u6:Nat} {n1 n2 n3 n4 n5 n6 m1 m2 m3 m4 m5 m6 k1 k2 k3 k4 j1 j2 i1 i2 i3 i4 i5 i6:String} {l:List D}
theorem DM (h:cX T tl l) (hl:cN T tl=.st [(o1,th,n1),(o2,tps,n2)]) (X:cN T th=.st [(o3,tts,n3),(o4,tds,n4),(o5,tsn,n5)]) (J:cN T tts=.slice tt) (ht:cN T tt=.st [(p1,ti,m1),(p2,ts,m2),(p3,ti,m3)]) (M:cN T tds=.slice td) (hd:cN T td=.st [(p4,ti,m4),(p5,ti,m5)])
 (N:cN T tsn=.slice tn) (hn:cN T tn=.st [(q1,ti,k1),(q2,ti,k2),(q3,ti,k3),(q4,tv,k4)]) (hv:cN T tv=.st [(r1,ti,j1),(r2,ti,j2)]) (O:cN T tps=.slice tp) (hp:cN T tp=.st [(o6,ti,n6),(p6,ti,m6),(u1,ti,i1),(u2,tes,i2)])
 (U:cN T tes=.slice te) (he:∀ x,cX T te x→∃ y:Ev,x=y.c) (hi:cN T ti=.int .i64) (hs:cN T ts=.str):∃ x:fb,l=x.c:=by
 obtain⟨a,b,rfl,h1,h2⟩:=sH h hl;obtain⟨c,d,e,rfl,h3,h4,h5⟩:=xM h1 X;obtain⟨x1,rfl⟩:=mx (f:=GT.c) h3 J (fun x I=>by obtain⟨p,q,r,rfl,g1,g2,g3⟩:=xM I ht;obtain⟨u,rfl⟩:=eL g1 hi;obtain⟨v,rfl⟩:=tg g2 hs;obtain⟨w,rfl⟩:=eL g3 hi;exact⟨⟨u,v,w⟩,rfl⟩);obtain⟨x2,rfl⟩:=mx (f:=dC) h4 M (fun x I=>by obtain⟨p,q,rfl,g1,g2⟩:=sH I hd;obtain⟨u,rfl⟩:=eL g1 hi;obtain⟨v,rfl⟩:=eL g2 hi;exact⟨(u,v),rfl⟩);obtain⟨x3,rfl⟩:=mx (f:=Sn.c) h5 N (fun x I=>by obtain⟨p,q,r,s,rfl,g1,g2,g3,g4⟩:=xL I hn;obtain⟨s1,s2,rfl,g5,g6⟩:=sH g4 hv;obtain⟨u,rfl⟩:=eL g1 hi;obtain⟨v,rfl⟩:=eL g2 hi;obtain⟨w,rfl⟩:=eL g3 hi;obtain⟨y,rfl⟩:=eL g5 hi;obtain⟨z,rfl⟩:=eL g6 hi;exact⟨⟨u,v,w,y,z⟩,rfl⟩);obtain⟨x4,rfl⟩:=mx (f:=bw.c) h2 O (fun x I=>by obtain⟨p,q,r,s,rfl,g1,g2,g3,g4⟩:=xL I hp;obtain⟨u,rfl⟩:=eL g1 hi;obtain⟨v,rfl⟩:=eL g2 hi;obtain⟨w,rfl⟩:=eL g3 hi;obtain⟨y,rfl⟩:=mx (f:=Ev.c) g4 U he;exact⟨⟨u,v,w,y⟩,rfl⟩);exact⟨⟨x1,x2,x3,x4⟩,rfl⟩
end
end Go.Tb
