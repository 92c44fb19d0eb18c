import Derived.Test.YtpiaiiopakafhaaGreatDoorQ5
namespace Go.Proofs.YtpiaiiopakafhaaGreatDoor
open Go.Ab Go.Tb
set_option maxRecDepth 10000
set_option maxHeartbeats 1000000
attribute [local irreducible] W WO Pu QS QB QL QF QV cB CH QE
variable {l:List UInt8}{k i:Nat}{w:World}{b:UInt8}
variable {f:List (Nat×A)}
variable {j:JV}
abbrev zc:List A:=[.d (ci 0),.d (ci 0),.d (cs (B #[])),.d (.sl []),.d (.sl [])]
theorem Bx{C:Ctx}{n bx gen G tmps I b1 J N}(O:C.bx=[I,b1,J])(hs:bq C n ⟨f,bx,[],gen⟩ G tmps w){X}(U:dy X=true)(hk:k=22):
 bq {C with bx:=[I,b1,J],ds:=N} 22 ⟨[(3,.d (.v X)),(0,.ptr 0 0),(1,.ptr 1 0),(2,.ptr 2 0)],bx,[],gen⟩ G (((#[pp I,pp b1,pp J]++Array.replicate (k-#[pp I,pp b1,pp J].size) undef).setIfInBounds 6 X).setIfInBounds 3 X) w:=by
 subst hk;have h5:=hs.ze (bs:=[I,b1,J]) (ds:=N) (fun i b hb=>hs.lent i b (by rw[O];exact hb));have hl:∀(i b:Nat),[I,b1,J][i]?=some b->i<gen∧G.box i=some b:=fun i b hb=>by have:=hs.lent i b (by rw[O];exact hb);exact⟨(hs.gbox i b this).1,this⟩
 have t3:(((#[pp I,pp b1,pp J]++Array.replicate (22-#[pp I,pp b1,pp J].size) undef).setIfInBounds 6 X).setIfInBounds 3 X)[3]?=some X:=by simp[Array.getElem?_setIfInBounds]
 have t0:(((#[pp I,pp b1,pp J]++Array.replicate (22-#[pp I,pp b1,pp J].size) undef).setIfInBounds 6 X).setIfInBounds 3 X)[0]?=some (pp I):=by simp[Array.getElem?_setIfInBounds]
 have t1:(((#[pp I,pp b1,pp J]++Array.replicate (22-#[pp I,pp b1,pp J].size) undef).setIfInBounds 6 X).setIfInBounds 3 X)[1]?=some (pp b1):=by simp[Array.getElem?_setIfInBounds]
 have t2:(((#[pp I,pp b1,pp J]++Array.replicate (22-#[pp I,pp b1,pp J].size) undef).setIfInBounds 6 X).setIfInBounds 3 X)[2]?=some (pp J):=by simp[Array.getElem?_setIfInBounds]
 have ts:(((#[pp I,pp b1,pp J]++Array.replicate (22-#[pp I,pp b1,pp J].size) undef).setIfInBounds 6 X).setIfInBounds 3 X).size=22:=by simp
 generalize(((#[pp I,pp b1,pp J]++Array.replicate (22-#[pp I,pp b1,pp J].size) undef).setIfInBounds 6 X).setIfInBounds 3 X)=tm at t3 t0 t1 t2 ts⊢;exact{h5 with
  size:=ts
  frame:=fun t a M=>by
   have M:Go.Ab.look [(3,A.d (.v X)),(0,.ptr 0 0),(1,.ptr 1 0),(2,.ptr 2 0)] t=some a:=M;rw[ct,ct,ct,ct]at M;split at M;·
    rename_i e;cases M;subst e;exact⟨X,t3,.d (.v X U)⟩
   split at M;·
    rename_i e;cases M;subst e;exact⟨pp I,t0,.ptr _ _ _ I (hl 0 I Z).1 (hl 0 I Z).2 Z⟩
   split at M;·
    rename_i e;cases M;subst e;exact⟨pp b1,t1,.ptr _ _ _ b1 (hl 1 b1 Z).1 (hl 1 b1 Z).2 Z⟩
   split at M;·
    rename_i e;cases M;subst e;exact⟨pp J,t2,.ptr _ _ _ J (hl 2 J Z).1 (hl 2 J Z).2 Z⟩
   cases M}
theorem Iq{C:Ctx}(hG:GC Tryz.prog C){n bx gen G tmps I b1 J}(ad:C.bx=[I,b1,J])(hs:bq C n ⟨f,bx,[],gen⟩ G tmps w):
 CallsD Tryz.prog 70 #[pp I,pp b1,pp J] .returning w fun e u' w'=>∃v M,e=.returned v∧u'=.returning∧bq {C with bx:=[I,b1,J],ds:=[]} 0 ⟨[],bx,[],gen⟩ M #[] w':=by
 refine callsD_of_wpS Tryz.func70 Z<|fun c0 ai hu=>wpS_seq<|wpS_region<|rZ (d:=6) Z Z Z Z ?_;have N:recoverD (c0::ai)=none:=by cases c0 with|mk a b c d e f g=>subst hu;rfl
 rw[N];refine xy (d:=3) (d0:=6) (v:=.nilIface) Z Z Z Z (by rw[Array.getElem?_setIfInBounds_self,if_pos (by rw[Array.size_append,Array.size_replicate,Tryz.ntmps70];show 6<3+(22-3);omega)]) (An ?_);refine wpS_of_wp ?_;haveI:NB {C with bx:=[I,b1,J],ds:=[]} 3:=⟨rfl⟩;haveI:GC Tryz.prog {C with bx:=[I,b1,J],ds:=[]}:=hG.ze;refine wy (C:={C with bx:=[I,b1,J],ds:=[]}) (n:=22) (st:=⟨[(3,.d (.v .nilIface)),(0,.ptr 0 0),(1,.ptr 1 0),(2,.ptr 2 0)],bx,[],gen⟩) (Q:=fun e st=>e=.normal∧st.bx=bx∧st.gen=gen∧st.lv=[]) ⟨G,Bx ad hs Z Tryz.ntmps70⟩ ?hW ?hB;case hW=>refine aa (ab (pE Z (pu (Kc Z (by kernel_rfl)) Z ?_)));refine ae (qs (W.HC Z (ah ?_)));exact⟨rfl,rfl,rfl,rfl⟩
 case hB=>rintro e ⟨t,df⟩ w' ⟨hd,⟨f',bx',lv',gen'⟩,⟨M,aj⟩,he,O,U,X⟩;have O:bx'=bx:=O;have U:gen'=gen:=U;have X:lv'=[]:=X;subst he;subst O;subst U;subst X;refine⟨hd,.returning,by rw[<-hu],_,iq (rs:=[]) Tryz.results70 (vs:=[]) Z,_,M,rfl,rfl,?_⟩;exact{aj with size:=rfl,frame:=fun t a ha=>by cases ha}
theorem IT{C:Ctx}(hG:GC Tryz.prog C){n:Nat}{bx:List (Nat×List A)}{gen:Nat}{G:Gh}{tmps:Array Value}{O b1 U:Nat}{a:Nat}{e:Int}(hl:dy (.int .i64 (a:Int))=true∧dy (.int .i64 e)=true)(ai:C.bx=[O,b1,U])(hs:bq C n ⟨f,bx,[],gen⟩ G tmps w){x0 x1 x2 x3 x4 y0 z0:A}(h0:bh bx 0=some [x0,x1,x2,x3,x4])(h1:bh bx 1=some [y0])(h2:bh bx 2=some [z0]):
 CallsD Tryz.prog 70 #[pp O,pp b1,pp U] (.panicking [{v:=jL 128 a e,recovered:=false}]) w fun r u' w'=>∃v G' bx' gen',r=.returned v∧u'=.panicking [{v:=jL 128 a e,recovered:=true}]∧bh bx' 0=some zc∧bh bx' 1=some [.d (ci a)]∧bh bx' 2=some [.d (ci e)]∧bq {C with bx:=[O,b1,U],ds:=[]} 0 ⟨[],bx',[],gen'⟩ G' #[] w':=by
 refine callsD_of_wpS Tryz.func70 Z<|fun c0 aj hu=>wpS_seq<|wpS_region<|rZ (d:=6) Z Z Z Z ?_;have a1:recoverD (c0::aj)=some (jL 128 a e,{c0 with mode:=.panicking [{v:=jL 128 a e,recovered:=true}]}::aj):=by cases c0 with|mk a b c d e f g=>subst hu;rfl
 rw[a1];refine xy (d:=3) (d0:=6) (v:=jL 128 a e) Z Z Z Z (by rw[Array.getElem?_setIfInBounds_self,if_pos (by rw[Array.size_append,Array.size_replicate,Tryz.ntmps70];show 6<3+(22-3);omega)]) (An ?_);refine wpS_of_wp ?_;haveI:NB {C with bx:=[O,b1,U],ds:=[]} 3:=⟨rfl⟩;haveI:GC Tryz.prog {C with bx:=[O,b1,U],ds:=[]}:=hG.ze;have X:bq C n ⟨[],[(0,[.any,.any,.any,.any,.any]),(1,[.any]),(2,[.any])],[],3⟩ ⟨fun g=>if g<3 then G.box g else none,fun _=>none⟩ tmps w:=by
  have J:∀g b,(if g<3 then G.box g else none)=some b->g<3∧G.box g=some b:=fun g b h=>by
   split at h;·rename_i q;exact⟨q,h⟩
   cases h
  have hb:∀(g:Nat)(cells cells':List A),g<3->bh bx g=some cells->cells'.length=cells.length->(∀(i:Nat)(a:A),cells'[i]?=some a->a=.any)->∃b cs T,(if g<3 then G.box g else none)=some b∧w.heap[b]?=some (.cells cs T (0,0))∧cs.size=cells'.length∧
   (∀(i:Nat)(u:Value),cs[i]?=some u->u.oneCell'=true)∧∀(i:Nat)(u:Value)(a:A),cs[i]?=some u->cells'[i]?=some a->bK (bu C ⟨fun g=>if g<3 then G.box g else none,fun _=>none⟩ 3 w) u a:=fun g cells cells' hg M hlen a6=>by
   obtain⟨b,cs,T,q1,q2,q3,q4,_⟩:=hs.box g cells M;exact⟨b,cs,T,by rw[if_pos hg];exact q1,q2,by rw[q3,hlen],q4,fun i u a _ I=>by rw[a6 i a I];exact .any _⟩
  have a7:∀(g:Nat)(cells:List A),Go.Ab.bh [(0,[A.any,A.any,A.any,A.any,A.any]),(1,[A.any]),(2,[A.any])] g=some cells->∃b cs T,(if g<3 then G.box g else none)=some b∧w.heap[b]?=some (.cells cs T (0,0))∧cs.size=cells.length∧(∀(i:Nat)(u:Value),cs[i]?=some u->u.oneCell'=true)∧∀(i:Nat)(u:Value)(a:A),cs[i]?=some u->cells[i]?=some a->bK (bu C ⟨fun g=>if g<3 then G.box g else none,fun _=>none⟩ 3 w) u a:=by
   intro g cells M
   match g,M with
   |0,M=>cases M;exact hb 0 _ _ (by decide) h0 Z (fun i a h=>by have:=ζ h;simpa using this)
   |1,M=>cases M;exact hb 1 _ _ (by decide) h1 Z (fun i a h=>by have:=ζ h;simpa using this)
   |2,M=>cases M;exact hb 2 _ _ (by decide) h2 Z (fun i a h=>by have:=ζ h;simpa using this)
   |g+3,M=>cases M
  have ad:∀(i b:Nat),C.bx[i]?=some b->(if i<3 then G.box i else none)=some b:=by
   intro i b h;have hi:i<3:=by rw[ai]at h;have:=(δ.1 h).1;simpa using this
   rw[if_pos hi];exact hs.lent i b h
  exact{size:=hs.size,frame:=fun t a I=>(by cases I),box:=a7,gbox:=fun g b h=>⟨(J g b h).1,(hs.gbox g b (J g b h).2).2⟩,inj:=fun g g' b h h'=>hs.inj g g' b (J g b h).2 (J g' b h').2,live:=fun g hg=>(by cases hg),gown:=fun g r N=>(by cases N),row:=fun g b len cap sz a8 N=>(by cases N),mrow:=fun g b bs N=>(by cases N),gcell:=fun g b h=>hs.gcell g b (J g b h).2,sub:=fun g b bs c lim N=>(by cases N),xold:=hs.xold,kold:=hs.kold,lent:=ad,fr:=hs.fr}
 refine wy (C:={C with bx:=[O,b1,U],ds:=[]}) (n:=22) (st:=⟨[(3,.d (.v (jL 128 a e))),(0,.ptr 0 0),(1,.ptr 1 0),(2,.ptr 2 0)],[(0,[.any,.any,.any,.any,.any]),(1,[.any]),(2,[.any])],[],3⟩) (Q:=fun r st=>r=.normal∧st.lv=[]∧bh st.bx 0=some zc∧bh st.bx 1=some [.d (ci a)]∧bh st.bx 2=some [.d (ci e)]) ⟨_,Bx ai X Z Tryz.ntmps70⟩ ?hW ?hB;case hW=>
  refine aa<|ab<|pE Z<|pu (KD Z (by kernel_rfl)) Z<|ae<|qs<|W.gr Z<|aa<|ab<|pE Z<|pu (Fp (l:=[.int .i64 (a:Int),.int .i64 e]) aY Z Z (fun v hv=>by rcases List.mem_cons.1 hv with rfl|hv;exact hl.1;rcases List.mem_cons.1 hv with rfl|hv;exact hl.2;cases hv) Z) Z<|bb 3 Z<|b9 aY Z Z Z<|bt aY Z Z Z Z Z Z Z Z<|pE Z<|ae<|qs<|aa<|aZ 2 Z<|W.HC Z<|ah<|qs ?_;refine' W.uw aY (fun bx=>[(0,zc)::bx,(1,[.d (ci a)])::(0,zc)::bx]) [[],[]] [4,4] [5,6] 7 (by kernel_rfl) (by kernel_rfl) Z Z ?hL_9;case' hL_9=>skip
  refine' bL (Pu.sE (build aY Z Z Z Z) Z) ?p_10 Z Z Z (by kernel_rfl) Z ?h_10;case' h_10=>skip
  refine' bL (ev aY Z) ?p_11 Z Z Z (by kernel_rfl) Z ?h_11;case' h_11=>skip
  refine' bL (ev aY Z) ?p_12 Z Z Z (by kernel_rfl) Z ?h_12;case' h_12=>skip
  refine' bL (ev aY Z) ?p_13 Z Z Z (by kernel_rfl) Z ?h_13;case' h_13=>skip
  refine' bL (ev aY Z) ?p_14 Z Z Z (by kernel_rfl) Z ?h_14;case' h_14=>skip
  refine' Kn ?x_15 Z Z Z (by kernel_rfl) ?h_15;case x_15=>
   intro b hb g;cases b;·exact ba hb
   refine bt aY Z Z Z Z Z Z Z Z (ae ?_);refine' JC Z ?_ ?_ ?_;all_goals try exact Z
  case' h_15=>skip
  refine' Kn ?x_16 Z Z Z (by kernel_rfl) ?h_16;case x_16=>
   intro b hb g;cases b;·exact ba hb
   refine bt aY Z Z Z Z Z Z Z Z (ae ?_);refine' JC Z ?_ ?_ ?_;all_goals try exact Z
  case' h_16=>skip
  case p_10=>refine⟨fun I=>ba I,?_,fun I=>ba I,?_,fun I=>ba I,?_⟩<;>intro I<;>first|exact⟨Pu.sE (build aY Z Z Z Z) Z,fun h=>nomatch h⟩|exact ba I
  case p_11=>refine⟨fun I=>ba I,?_,fun I=>ba I,?_,fun I=>ba I,?_⟩<;>intro I<;>first|exact⟨ev aY Z,fun h=>nomatch h⟩|exact ba I
  case p_12=>refine⟨fun I=>ba I,?_,fun I=>ba I,?_,fun I=>ba I,?_⟩<;>intro I<;>first|exact⟨ev aY Z,fun h=>nomatch h⟩|exact⟨cS aY Z Z Z Z,fun h=>nomatch h⟩|exact⟨cR aY Z Z Z Z Z,fun h=>nomatch h⟩|exact ba I
  case p_13=>refine⟨fun I=>ba I,?_,fun I=>ba I,?_,fun I=>ba I,?_⟩<;>intro I<;>first|exact⟨ev aY Z,fun h=>nomatch h⟩|exact ba I
  case p_14=>refine⟨fun I=>ba I,?_,fun I=>ba I,?_,fun I=>ba I,?_⟩<;>intro I<;>first|exact⟨ev aY Z,fun h=>nomatch h⟩|exact⟨cS aY Z Z Z Z,fun h=>nomatch h⟩|exact⟨cR aY Z Z Z Z Z,fun h=>nomatch h⟩|exact ba I
  refine ar ?_ Z;refine bt aY Z Z Z Z Z Z Z Z (ae ?_);exact⟨rfl,rfl,rfl,rfl,rfl⟩
 case hB=>rintro r ⟨t,df⟩ w' ⟨hd,⟨f',bx',lv',gen'⟩,⟨G',X⟩,he,e3,q0,q1,q2⟩;have e3:lv'=[]:=e3;subst he;subst e3;refine⟨hd,_,rfl,_,iq (rs:=[]) Tryz.results70 (vs:=[]) Z,_,G',bx',gen',rfl,rfl,q0,q1,q2,?_⟩;exact{X with size:=rfl,frame:=fun t a I=>by cases I}
def pV(s:ByteArray):A:=if 65536<s.size then .tup [.ag gf.c,.d (ci 0),.d (ci 7)]else match ep (bg s)with
 |.ok v _=>.tup [.ag v.c,.d (ci 0),.d (ci 0)]
 |.no a w=>.tup [.ag gf.c,.d (ci a),.d (ci w)]
def PQ(x:PE JV):Exit->St->Prop:=fun e st=>(match x with
 |.ok v _=>e=.ret∧bh st.bx 0=some (v.c.map .d)∧bh st.bx 1=some [.d (ci 0)]∧bh st.bx 2=some [.d (ci 0)]
 |.no a w=>e=gP (jL 128 a w)∧∃x0 I J x3 M N z0,bh st.bx 0=some [x0,I,J,x3,M]∧bh st.bx 1=some [N]∧bh st.bx 2=some [z0])∧
 Go.Ab.look st.f 2=some (A.ptr 0 0)∧Go.Ab.look st.f 3=some (A.ptr 1 0)∧Go.Ab.look st.f 4=some (A.ptr 2 0)
theorem JH{C n bx lv gen G tmps c0 J c2}(hs:bq C n ⟨f,bx,lv,gen⟩ G tmps w)(h0:bh bx 0=some c0)(h1:bh bx 1=some J)(h2:bh bx 2=some c2):bq C n ⟨f,[(0,c0),(1,J),(2,c2)],lv,gen⟩ G tmps w:=by
 refine{hs with box:=fun g cells I=>?_};have I:Go.Ab.bh [(0,c0),(1,J),(2,c2)] g=some cells:=I
 match g,I with
 |0,I=>cases I;exact hs.box 0 _ h0
 |1,I=>cases I;exact hs.box 1 _ h1
 |2,I=>cases I;exact hs.box 2 _ h2
 |g+3,I=>cases I
theorem Lr:kB Tryz.prog 70:=⟨_,Tryz.func70,by kernel_rfl,rfl⟩
theorem Ho(M b1 N w):(invoke (.fn (.func 70) #[pp M,pp b1,pp N]) #[]).run Tryz.prog w=.ok (.enter 70 #[pp M,pp b1,pp N]) w:=by obtain⟨fn,O,I,J⟩:=Lr;simp only[invoke,callFunc,Sem.run_bind,Sem.run_pure,Result.andThen_ok,run_program,O,I,J,L',if_false,Array.empty_append]
theorem F8(s):bm Tryz.prog 23 [.d (.v (.string s))] (pV s) 0:=by
 refine bm.KK (n:=34) Tryz.func23 (by kernel_rfl) Z Tryz.ntmps23 Z fun C hC hG O U=>aO<|ab<|b9 aY Z Z Z<|b9 aY Z Z Z<|b9 aY Z Z Z<|ae<|aO ?_
 refine aZ 3 Z<|bc Z (fun h8=>?_)<|fun h8=>?_;·
  refine aa<|ab<|pu (build aY Z Z Z Z) Z<|iR 9 Z Z Z<|bt aY Z Z Z Z Z Z Z Z<|bt aY Z Z Z Z Z Z Z Z<|bt aY Z Z Z Z Z Z Z Z<|ae<|qs<|W.ret ?_
  intro tmps w ⟨G,hs⟩;have hg:pV s=.tup [.ag gf.c,.d (ci 0),.d (ci 7)]:=by unfold pV;rw[if_pos (by simp at h8;omega)]
  show Leaves _ _ tmps _ C.ds .returning w;rw[U,hg];exact GU aY (rs:=[.cell 2 46,.cell 3 3,.cell 4 31]) hs O Tryz.results23 Z Z
 have b3:¬65536<s.size:=by simp at h8;omega
 have X:s.size<=1000000000:=by omega
 have b4:pV s=match ep (bg s)with|.ok v _=>.tup [.ag v.c,.d (ci 0),.d (ci 0)]|.no a w=>.tup [.ag gf.c,.d (ci a),.d (ci w)]:=by unfold pV;rw[if_neg b3]
 refine ah<|W'.Fh<|rP.pu Z Z (ev aY Z)<|rP.G9 Z<|fun I b1 J tmps w G hs e0 e1 e2=>?_;have cx:NB {C with bx:=[I,b1,J],ds:=tK 70 I b1 J::C.ds} 3:=⟨rfl⟩;have a7:GC Tryz.prog {C with bx:=[I,b1,J],ds:=tK 70 I b1 J::C.ds}:=hG.ze;refine wy (C:={C with bx:=[I,b1,J],ds:=tK 70 I b1 J::C.ds}) (n:=34) (Q:=PQ (ep (bg s))) ⟨G,hs.ze (fun i b hb=>?hl)⟩ ?hW ?hB;case hl=>
  match i,hb with
  |0,hb=>cases hb;exact e0
  |1,hb=>cases hb;exact e1
  |2,hb=>cases hb;exact e2
  |i+3,hb=>cases hb
 case hW=>
  refine aa<|ab<|pE Z<|pu (build aY Z Z Z Z) Z<|cz Z Z Z<|pE Z<|ae<|qs<|aa<|ab<|pE Z ?_
  cases hc15:dW (bg s) (3*(bg s).length+1) 1 0 with
  |no b5 b6=>
   have hp:ep (bg s)=.no b5 b6:=by unfold ep;rw[hc15]
   refine rQ [3] [] Z Z Z Z Z ((zP s X).ib (cb hc15)) Z Z (by rfl) ?_;repeat' refine du ?_
   rw[hp];exact⟨⟨rfl,_,_,_,_,_,_,_,rfl,rfl,rfl⟩,rfl,rfl,rfl⟩
  |ok ch i15=>
   have hb:=(sQ (bg s) (3*(bg s).length+1)).v 1 0 (ς _);rw[hc15]at hb;have hi:i15<=s.size:=by have:=hb.2;rwa[bo]at this
   refine bT [3] [] Z Z Z Z Z ((zP s X).ret (cp hc15)) Z Z (by rfl) (by rfl) Z Z Z Z<|bt aY Z Z Z Z Z Z Z Z<|ae<|qs<|aa<|aa<|ab<|pE Z<|bT [3] [] Z Z Z Z Z ((l8 s i15 hi X)) Z Z (by rfl) (by rfl) Z Z Z Z ?_
   refine bb 2 Z<|oh Z Z (fun g19=>?_)<|fun g19=>?_;·
    iterate 7 refine bD Z Z Z Z ?_
    refine pE Z (ae (qs (W.gr Z (ab (bb 4 Z ?_)))));have N:bA (bg s) i15<(bg s).length:=eo fun e=>by rw[e]at g19;simp at g19
    have hp:ep (bg s)=.no (bA (bg s) i15) 10:=by unfold ep;rw[hc15];dsimp only;rw[if_pos N]
    refine rQ [] [] Z Z Z Z Z (eh (bA (bg s) i15) 10) Z Z (by rfl) ?_;repeat' refine du ?_
    rw[hp];exact⟨⟨rfl,_,_,_,_,_,_,_,rfl,rfl,rfl⟩,rfl,rfl,rfl⟩
   refine bE Z Z<|pE Z<|bE Z Z<|pE Z<|bE Z Z<|pE Z<|bE Z Z<|bb 1 Z<|bE Z Z<|pE Z<|bE Z Z<|pE Z<|bE Z Z<|bb 2 Z<|ae<|qs<|bc Z (fun ad=>?_)<|fun ad=>?_;·
    refine ab (bb 4 Z ?_);have N:bA (bg s) i15<(bg s).length:=by rw[bo];simp at ad;omega
    have hp:ep (bg s)=.no (bA (bg s) i15) 10:=by unfold ep;rw[hc15];dsimp only;rw[if_pos N]
    refine rQ [] [] Z Z Z Z Z (eh (bA (bg s) i15) 10) Z Z (by rfl) ?_;repeat' refine du ?_
    rw[hp];exact⟨⟨rfl,_,_,_,_,_,_,_,rfl,rfl,rfl⟩,rfl,rfl,rfl⟩
   have N:¬bA (bg s) i15<(bg s).length:=by rw[bo];simp at ad;omega
   have hp:ep (bg s)=.ok ch 0:=by unfold ep;rw[hc15];dsimp only;rw[if_neg N]
   refine ah<|qs<|aa<|ab<|bb 1 Z<|bt aY Z Z Z Z Z Z Z Z<|bt aY Z Z Z Z Z Z Z Z<|bt aY Z Z Z Z Z Z Z Z<|ae<|qs<|W.ret ?_
   rw[hp];exact⟨⟨rfl,rfl,rfl,rfl⟩,rfl,rfl,rfl⟩
 case hB=>
  rintro e ⟨M,df⟩ w2 ⟨ai,⟨f2,cj,cy,a8⟩,⟨G2,aj⟩,hq,k0,k1,k2⟩;have ai:df=tK 70 I b1 J::C.ds:=ai;subst ai;have a1:bq {C with bx:=[I,b1,J],ds:=tK 70 I b1 J::C.ds} 34 ⟨f2,cj,[],a8⟩ G2 M w2:={aj with live:=fun g h=>by cases h};rw[b4];have hE:=Bq (l:=bg s);have cl:=fun a w=>FI (l:=bg s) (a:=a) (w:=w)
  cases hA:ep (bg s)with
  |ok v i=>rw[hA]at hq;obtain⟨rfl,q0,q1,q2⟩:=hq;show Leaves _ _ M _ (tK 70 I b1 J::C.ds) .returning w2;rw[U];refine leaves_cons (by simp) (Ho I b1 J w2) (CallsD.mono (Iq a7 Z a1) ?_);rintro r u' w3 ⟨v3,G3,rfl,rfl,a6⟩;exact vn aY (rs:=[.cell 2 46,.cell 3 3,.cell 4 31]) O aj k0 k1 k2 (JH a6 q0 q1 q2) Tryz.results23 Z Z
  |no a w=>
   rw[hA]at hq hE;obtain⟨rfl,x0,x1,x2,x3,x4,y0,z0,q0,q1,q2⟩:=hq;have ha:a<=s.size:=by have:=cl a w hA;rwa[bo]at this
   have hw:dy (.int .i64 (a:Int))=true∧dy (.int .i64 w)=true:=by refine⟨by simp[dy,IntKind.min,IntKind.max,IntKind.signed,IntKind.bits];omega,?_⟩;rcases hE with rfl|rfl|rfl|rfl<;>rfl
   show Leaves _ _ M _ (tK 70 I b1 J::C.ds) (.panicking [{v:=jL 128 a w,recovered:=false}]) w2;rw[U];refine leaves_cons (by simp) (Ho I b1 J w2) (CallsD.mono (IT a7 hw Z a1 q0 q1 q2) ?_);rintro r u' w3 ⟨v3,G3,c1,cq,rfl,rfl,r0,r1,r2,a6⟩;exact vn aY (rs:=[.cell 2 46,.cell 3 3,.cell 4 31]) O aj k0 k1 k2 (JH a6 r0 r1 r2) Tryz.results23 Z Z
theorem F4(s:ByteArray):∃(v:JV)(a e:Int),bm Tryz.prog 23 [.d (.v (.string s))] (.tup [.ag v.c,.d (ci a),.d (ci e)]) 0∧(e≠0->j7 s=(nU,e))∧(e=0->s.size<=65536∧∃i,ep (bg s)=.ok v i):=by
 have h:=F8 s;unfold pV at h;by_cases hs:65536<s.size;·
  rw[if_pos hs]at h;exact⟨_,_,_,h,fun _=>by unfold j7;rw[if_pos hs],fun q=>by cases q⟩
 rw[if_neg hs]at h
 cases hp:ep (bg s)with
 |ok v i=>rw[hp]at h;exact⟨v,_,_,h,fun q=>absurd Z q,fun _=>⟨by omega,i,rfl⟩⟩
 |no a w=>rw[hp]at h;have hw:=Bq (l:=bg s);rw[hp]at hw;have hw:w=2∨w=4∨w=10∨w=20:=hw;exact⟨_,_,_,h,fun _=>by unfold j7;rw[if_neg hs,hp],fun q=>by omega⟩
theorem Ea{z:gO}{id:Int}{cur:List Ev}{ps:List bH}(h:cur=[]->fX z id=[])(q:cur.map Ev.c=[]):
 ([[.own 3 ((ps++fX z id).map bH.c)],[.d (ci id)],[.d (ci (cur.length:Int))]]:List (List A))=[[.own 3 (ps.map bH.c)],[.d (ci id)],[.d (ci 0)]]∧1=1:=by
 have q:cur=[]:=by simpa using q
 rw[h q,q,List.append_nil];exact⟨rfl,rfl⟩
abbrev uc(z:gO):Prop:=bm Tryz.prog 22 [.ag (Kb (z.ids.map (jZ z))),.d (.sl ((z.ids.flatMap (fX z)).map bH.c))] (.tup [.ag (jQ (z.ids.map (jZ z)) (z.ids.flatMap (fX z))).1.c,.d (ci (jQ (z.ids.map (jZ z)) (z.ids.flatMap (fX z))).2)]) 0
set_option maxHeartbeats 1000000 in
theorem vd(s)(hG0:∀v i,ep (bg s)=.ok v i->C7 v)(hOf:∀v i,ep (bg s)=.ok v i->(cO v.kids x0).2=0->uc (cO v.kids x0).1):bm Tryz.prog 9 [.d (.v (.string s))] (.tup [.ag (j7 s).1.c,.d (ci (j7 s).2)]) 0:=by
 obtain⟨v,a,e,hP,hPe,hP0⟩:=F4 s
 refine bm.KH aY (n:=107) (rs:=[.cell 2 30,.tmp 3]) Tryz.func9 (by kernel_rfl) Z Tryz.ntmps9 Tryz.results9 Z fun C hbx hG=>?_
 haveI hC:NB C 0:=⟨by rw[hbx];rfl⟩
 refine Wd.jS hbx fun C hC hG=>ab<|b9 aY Z Z Z<|pE Z<|ae<|lX Z<|Wd.jS hbx fun C hC hG=>ab<|pE Z<|pu (bk Z Z Z hP Z) Z<|bb 4 Z<|b9 aY Z Z Z<|bt aY Z Z Z Z Z Z Z Z<|bb 2 Z<|ae<|lX Z<|Wd.jS hbx fun C hC hG=>aZ 2 Z<|bc Z (fun h25=>?_)<|fun h25=>?_
 ·
  have hg:=hPe (by simpa using h25)
  refine aa<|ab<|pu (kQ (build aY Z Z Z Z) Z) Z<|pE Z<|bt aY Z Z Z Z Z Z Z Z<|pE Z<|ae<|qs<|W.ret<|yc Z<|yH ?_
  refine⟨trivial,_,rfl,?_⟩
  rw[hg];rfl
 have he0:e=0:=by simpa using h25
 obtain⟨hsz,i,hpj⟩:=hP0 he0
 have hGv:=hG0 v i hpj
 have hOz:=hOf v i hpj
 have hE:j7 s=if v.op≠5 then(nU,10)else if(cO v.kids x0).2≠0 then(nU,(cO v.kids x0).2)else jQ ((cO v.kids x0).1.ids.map (jZ (cO v.kids x0).1)) ((cO v.kids x0).1.ids.flatMap (fX (cO v.kids x0).1)):=by unfold j7;rw[if_neg (by omega),hpj]
 refine ah<|lX Z<|Wd.jS hbx fun C hC hG=>aZ 3 Z<|bc Z (fun h30=>?_)<|fun h30=>?_
 ·
  have hg:j7 s=(nU,10):=by rw[hE,if_pos (by simpa using h30)]
  refine aa<|ab<|pu (kQ (build aY Z Z Z Z) Z) Z<|bt aY Z Z Z Z Z Z Z Z<|pE Z<|ae<|qs<|W.ret<|yc Z<|yH ?_
  refine⟨trivial,_,rfl,?_⟩
  rw[hg];rfl
 have hop:¬v.op≠5:=by simpa using h30
 rw[if_neg hop]at hE
 refine ah<|lX Z<|Wd.jS hbx fun C hC hG=>ab<|mkMap Z<|Ju Z<|pu (build aY Z Z Z Z) Z<|cz Z Z Z<|pE Z<|ae<|lX Z<|Wd.jS hbx fun C hC hG=>aZ 4 Z<|W.block<|fh 4 0 Z Z Z<|W.len (t:=37) Z Z<|fun hlen=>?_
 try simp only[η,Ex.bG]at hlen
 refine W.ca (ι:={x:Nat×gO//match x with|(k,z)=>k<=v.kids.length∧cO (v.kids.drop k) z=cO v.kids x0∧w7 k z∧Jh z})
  (fun x=>match x.1 with|(k,z)=>[(2,.ptr 0 0),(7,.ptr 1 0),(39,.d (.v (.int .i64 ((k:Nat):Int))))]) [(37,_),(38,_)]
  (fun x=>match x.1 with|(k,z)=>[(0,[.d (.v (.slice none 0 0)),.d (.v (.slice none 0 0)),.d (.v (.slice none 0 0)),.d (.v (.slice none 0 0))]),(1,wc 2 z)]) [] [2,3,4] 5 (fun x=>match x.1 with|(k,z)=>v.kids.length-k)
  [0,4,5,2,3] ⟨(0,x0),?_⟩ rfl ?_ ⟨rfl,rfl,rfl,rfl,trivial⟩ ?_ trivial rfl ?_
 ·exact⟨ς _,rfl,⟨List.nodup_nil,List.nodup_nil,χ _,by simp[x0]⟩,List.nodup_nil,by simp[x0]⟩
 ·repeat' constructor
 ·repeat' constructor
 rintro⟨⟨k,z⟩,hk,hI,hC1,hC2⟩
 show W _ _ _ _ _ ⟨[(2,.ptr 0 0),(7,.ptr 1 0),(39,.d (.v (.int .i64 ((k:Nat):Int)))),(37,_),(38,_)],[(0,[.d (.v (.slice none 0 0)),.d (.v (.slice none 0 0)),.d (.v (.slice none 0 0)),.d (.v (.slice none 0 0))]),(1,wc 2 z)],[2,3,4],5⟩
 refine aZ 1 Z<|aa<|cr (l:=v.kids) (k:=k) Z (by simp[JV.bG]) hk (fun j hx hd hlt=>?_)<|fun he hd=>?_
 ·
  have hjk:zq j:=hGv.kids j (ζ hx)
  have hjt:=hGv.tids j (ζ hx)
  have hv5:=hGv.len
  have hkm:v.kids.length<=maxLen:=by simp only[maxLen];omega
  have hOk:w7 1000000 z:=⟨hC1.1,hC1.2.1,by have:=hC1.2.2.1;omega,fun p hp=>by have:=hC1.2.2.2 p hp;omega⟩
  rw[hd,cO]at hI
  refine ah<|qs<|aa<|W.block<|aa<|ab<|pu (indexAddr (l:=j.c) aY Z Z Z Z Z Z (ε _) (JV.DX hx) Z) Z<|bb 1 Z<|b9 aY Z Z Z<|bt aY Z Z Z Z Z Z Z Z<|ae<|qs<|aa<|ab<|bb 2 Z<|bT [1] [2,3,4] Z Z Z Z Z ((El z j hjk hOk)) Z Z (by rfl) (by rfl) Z Z Z Z<|pE Z<|ae<|qs<|aZ 2 Z<|bc Z (fun h47=>?_)<|fun h47=>?_
  ·
   have hbad:(fC z j).2≠0:=by simpa using h47
   rw[if_pos hbad]at hI
   have hg:j7 s=(nU,(fC z j).2):=by rw[hE,if_pos (by rw[<-hI];exact hbad),←hI]
   refine aa<|ab<|pu (kQ (build aY Z Z Z Z) Z) Z<|pE Z<|bt aY Z Z Z Z Z Z Z Z<|pE Z<|ae<|qs<|W.ret<|bw<|be<|cE<|bw<|yc Z<|yH ?_
   refine⟨trivial,_,rfl,?_⟩
   rw[hg];rfl
  rw[if_neg (by simpa using h47)]at hI
  refine ah<|bX<|qs<|cu 2 Z<|W.cg [0,1,7,8,9] ⟨(k+1,(fC z j).1),?_⟩ ?_ Z ?_ ⟨rfl,rfl,rfl,rfl,trivial⟩ ?_ trivial Z
  ·exact⟨hlt,hI,Gl hC1 j,F5 hC2 hjt⟩
  ·dsimp only;omega
  ·repeat' first|exact trivial|refine⟨rfl,?_⟩|refine⟨bF (by assumption) (by assumption),?_⟩
  repeat' constructor
 rw[hd]at hI
 have hI:(z,0)=cO v.kids x0:=hI
 have hev:=hGv.evs
 rw[<-hI]at hev hE hOz
 have hev:=hev Z
 have hOz:uc z:=hOz Z
 have hE:j7 s=jQ (z.ids.map (jZ z)) (z.ids.flatMap (fX z)):=hE
 have hxl:z.ids.length<=maxLen:=by have:=hC1.2.2.1;have:=hGv.len;simp only[maxLen];omega
 have hxl2:z.ids.length<=100000:=by have:=hC1.2.2.1;have:=hGv.len;omega
 refine ak<|bP<|bQ<|bO<|lX Z<|Wd.jS hbx fun C hC hG=>ab<|pu (kQ (build aY Z Z Z Z) Z) Z<|pu (bZ aY Z Z Z Z Z Z Z Z Z) Z<|pu (build aY Z Z Z Z) Z<|b9 aY Z Z Z<|bt aY Z Z Z Z Z Z Z Z<|ae<|lX Z<|Wd.jS hbx fun C hC hG=>ab<|b9 aY Z Z Z<|ae<|lX Z<|aH<|Wd.jS hbx fun C hC hG=>fh 5 0 Z Z Z<|jl 5 2 Z Z Z<|fh 6 0 Z Z Z<|cu 6 Z<|lX Z<|Wd.block<|Wd.ca (ι:={x:Nat×List dV×List bH//match x with|(k,ts,ps)=>k<=z.ids.length∧ts=(z.ids.take k).map (jZ z)∧ps=(z.ids.take k).flatMap (fX z)})
  (fun x=>match x.1 with|(k,ts,ps)=>[(2,.ptr 0 0),(7,.ptr 1 0),(11,.ptr 2 0),(12,.ptr 3 0),(57,.own 4 (z.ids.map ic)),(59,.d (.v (.int .i64 ((k:Nat):Int))))]) [(58,_)]
  (fun x=>match x.1 with|(k,ts,ps)=>[(0,[.d (.v (.slice none 0 0)),.d (.v (.slice none 0 0)),.d (.v (.slice none 0 0)),.d (.v (.slice none 0 0))]),(1,wc 4 z),(2,[.own 7 (ts.map dV.c),.d (.sl (gy.map dF)),.d (.sl [])]),(3,[.own 8 (ps.map bH.c)])]) [] [4,5,6,7,8] 9 (fun x=>match x.1 with|(k,ts,ps)=>z.ids.length-k)
  [0,1,5,6,2,3,4,7,8] ⟨(0,[],[]),?_⟩ rfl ?_ ⟨rfl,rfl,trivial⟩ ?_ trivial rfl ?_
 ·exact⟨ς _,rfl,rfl⟩
 ·repeat' constructor
 ·repeat' constructor
 rintro⟨⟨k,ts,ps⟩,hk,hts,hps⟩
 show Wd _ _ _ _ _ ⟨[(2,.ptr 0 0),(7,.ptr 1 0),(11,.ptr 2 0),(12,.ptr 3 0),(57,.own 4 (z.ids.map ic)),(59,.d (.v (.int .i64 ((k:Nat):Int)))),(58,_)],[(0,[.d (.v (.slice none 0 0)),.d (.v (.slice none 0 0)),.d (.v (.slice none 0 0)),.d (.v (.slice none 0 0))]),(1,wc 4 z),(2,[.own 7 (ts.map dV.c),.d (.sl (gy.map dF)),.d (.sl [])]),(3,[.own 8 (ps.map bH.c)])],[4,5,6,7,8],9⟩
 refine Wd.jS hbx fun C hC hG=>cu 1 Z<|lX Z<|Wd.jS hbx fun C hC hG=>cr (l:=z.ids) (k:=k) Z (by simp[Ex.bG,bo]) hk (fun id hx hd hlt=>?_)<|fun he hd=>?_
 ·
  have hid:=hC2.2 id (ζ hx)
  obtain⟨cur,hcur⟩:∃cur,cur=(cC z.evs id).getD []:=⟨_,rfl⟩
  have hpk:cur≠[]->fX z id=[⟨id,0,0,cur⟩]:=fun q=>by unfold fX;rw[<-hcur,if_neg q]
  have hpk0:cur=[]->fX z id=[]:=fun q=>by unfold fX;rw[<-hcur,if_pos q]
  have hcl:(cur.map Ev.c).length<=1000:=by
   rw[η]
   by_cases q:cur=[]
   ·simp[q]
   have hm:(⟨id,0,0,cur⟩:bH)∈z.ids.flatMap (fX z):=List.mem_flatMap.2 ⟨id,ζ hx,by rw[hpk q];exact List.mem_singleton.2 rfl⟩
   exact Y' (H8 hm) hev
  have htl:ts.length<=100000:=by rw[hts,η,V'];omega
  have hpl:ps.length<=100000:=by rw[hps];exact qI z (z.ids.take k) (by rw[V'];omega)
  have htx:ts++[jZ z id]=(z.ids.take (k+1)).map (jZ z):=by rw[hts,Φ,hx,y'];rfl
  have hpx:ps++fX z id=(z.ids.take (k+1)).flatMap (fX z):=by rw[hps,Φ,hx,List.flatMap_append];simp
  have hnm:nameOf z.names id=if(cC z.names id).getD cn=cn then B #[116]++eg id else(cC z.names id).getD cn:=rfl
  refine ah<|lX Z<|aH<|Wd.block<|Wd.jS hbx fun C hC hG=>ab<|pu (indexAddr aY Z Z Z Z Z Z (ε _) (bC (f:=ic) hx) Z) Z<|bb 1 Z<|b9 aY Z Z Z<|bt aY Z Z Z Z Z Z Z Z<|ae<|lX Z<|Wd.jS hbx fun C hC hG=>W.dD aY (by kernel_rfl)<|br (ev aY Z) Z<|br (ev aY Z) Z<|br (ev aY Z) Z<|br (ev aY Z) Z<|br (ev aY Z) Z<|br (nY (kf:=ik) (vf:=cs) (l:=z.names) (a:=id) (z:=cn) aY Z Z Z Z Z (iZ (aY.iC Z Z)) Z Z Z (fun _ _=>.v _ Z) hC1.1 Z) Z<|br (ev aY Z) Z<|ao<|lX Z<|Wd.jS hbx fun C hC hG=>aZ 2 Z ?_
  refine W.nl [(2,.ptr 0 0),(7,.ptr 1 0),(11,.ptr 2 0),(12,.ptr 3 0),(14,.ptr 4 0),(15,.d (cs (nameOf z.names id))),(57,.own 5 (z.ids.map ic))] [58,59] [(0,[.d (.v (.slice none 0 0)),.d (.v (.slice none 0 0)),.d (.v (.slice none 0 0)),.d (.v (.slice none 0 0))]),(1,wc 5 z),(2,[.own 8 (ts.map dV.c),.d (.sl (gy.map dF)),.d (.sl [])]),(3,[.own 9 (ps.map bH.c)]),(4,[.d (ci id)])] [] [5,6,7,8,9] 10 ?_ ?_
  ·
   refine bc Z (fun h70=>?_) (fun h70=>?_)
   ·
    have hn0:(cC z.names id).getD cn=cn:=B' h70
    rw[show nameOf z.names id=B #[116]++eg id from by rw[hnm,if_pos hn0]]
    refine ab<|bb 1 Z<|pu (bk Z Z Z (qc id (by omega) (by omega)) Z) Z<|pu (eY (p:=B #[116]) (q:=eg id) Z Z (JX hid)) Z<|pE Z<|ae<|dL [0,1,2,3,9,4,5,6,7,8] Z ?_ ⟨rfl,rfl,rfl,rfl,trivial⟩ ?_ trivial Z
    ·repeat' constructor
    repeat' constructor
   have hn0:¬(cC z.names id).getD cn=cn:=O' h70
   rw[show nameOf z.names id=(cC z.names id).getD cn from by rw[hnm,if_neg hn0]]
   refine ah (dL [0,1,2,3,9,4,5,6,7,8] Z ?_ ⟨rfl,rfl,rfl,rfl,trivial⟩ ?_ trivial Z)
   ·repeat' constructor
   repeat' constructor
  refine lX Z<|Wd.jS hbx fun C hC hG=>ab<|bb 4 Z<|pu (build aY Z Z Z Z) Z<|pu (bZ aY Z Z Z Z Z Z Z Z Z) Z<|eT (fn:=dV.c) (a:=jZ z id) aY Z Z Z Z Z Z Z Z Z Z (fun _=>rfl) (by show(ts.length+1)*32<=_;omega)<|pE Z<|bt aY Z Z Z Z Z Z Z Z<|ae<|lX Z<|Wd.jS hbx fun C hC hG=>ab<|b9 aY Z Z Z<|bt aY Z Z Z Z Z Z Z Z<|ae<|lX Z<|Wd.jS hbx fun C hC hG=>W.dD aY (by kernel_rfl)<|br (ev aY Z) Z<|br (ev aY Z) Z<|br (ev aY Z) Z<|br (ev aY Z) Z<|br (ev aY Z) Z<|br (FZ (kf:=ik) (fn:=Ev.c) (l:=z.evs) (a:=id) (r:=cur.map Ev.c) aY Z Z Z Z Z (iZ (aY.iC Z Z)) Z Z Z hC1.2.1 (by rw[hcur])) Z<|br (bk Z Z Z (Gq cur) Z) Z ?_
  refine ao<|lX Z<|Wd.block<|Wd.J2 (V:=[(12,.ptr 0 0),(14,.ptr 1 0),(16,.ptr 2 0)]) (es:=cur.map Ev.c) (b1:=[[.own 3 ((ps++fX z id).map bH.c)],[.d (ci id)],[.d (ci (cur.length:Int))]]) (k:=1) Z ⟨_,Tryz.func77,by kernel_rfl,by kernel_rfl⟩ FL EV hcl Z Z [3,4,11] [9] Z Z Z Z Z (aJ ⟨⟨_,rfl,rfl⟩,⟨_,rfl,rfl⟩,⟨_,rfl,rfl⟩,trivial⟩) Z (Ea hpk0) (fun hne=>?_) Z ?_
  have hne:cur≠[]:=by simpa using hne
  rw[show fX z id=[⟨id,0,0,cur⟩]from hpk hne]
  ·
   refine rH.LN Z Z Z fun C hC hG=>bb 4 Z<|pu (build aY Z Z Z Z) Z<|pu (bZ aY Z Z Z Z Z Z Z Z Z) Z<|eT (fn:=bH.c) (a:=⟨id,0,0,cur⟩) aY Z Z Z Z Z Z Z Z Z Z (fun _=>rfl) (by show(ps.length+1)*48<=_;omega)<|bt aY Z Z Z Z Z Z Z Z<|ae<|⟨rfl,?_⟩
   refine bb 3 Z<|pu (cW (ev aY Z) (y:=(cur.length:Int)) (by show IntKind.i64.wrap ((0:Int)+((cur.map Ev.c).length:Nat))=_;rw[η]at hcl⊢;rw[wrap64 (by omega)];omega)) Z<|bt aY Z Z Z Z Z Z Z Z<|ae<|⟨rfl,QR.mk' [4] Z Z Z ⟨⟨_,rfl,rfl⟩,⟨_,rfl,rfl⟩,⟨_,rfl,rfl⟩,trivial⟩⟩
  refine bX<|bX<|Lb<|Wd.Jk hbx fun C hC hG=>cu 2 Z<|LO Z<|Wd.cg [0,1,2,3,5,6,7,10,15] ⟨(k+1,ts++[jZ z id],ps++fX z id),?_⟩ ?_ Z ?_ ⟨rfl,rfl,trivial⟩ ?_ trivial Z
  ·exact⟨hlt,htx,hpx⟩
  ·dsimp only;omega
  ·repeat' first|exact trivial|refine⟨rfl,?_⟩|refine⟨bF (by assumption) (by assumption),?_⟩
  repeat' constructor
 have hts2:ts=z.ids.map (jZ z):=by rw[hts,P' (by omega)]
 have hps2:ps=z.ids.flatMap (fX z):=by rw[hps,P' (by omega)]
 unfold uc at hOz
 rw[<-hts2,←hps2]at hOz hE
 refine ak<|JU Z<|Iy<|Is<|bO<|Lb<|Wd.jS hbx fun C hC hG=>ab<|bb 2 Z<|pu (bk Z Z Z hOz Z) Z<|bb 2 Z<|bt aY Z Z Z Z Z Z Z Z<|pE Z<|ae<|lX Z<|Wd.Jk hbx fun C hC hG=>W.ret<|yc Z ?_
 refine⟨trivial,_,rfl,?_⟩
 rw[hE];rfl
abbrev yh:ByteArray:=B #[91,123,34,112,104,34,58,34,77,34,44,34,116,105,100,34,58,51,44,34,110,97,109,101,34,58,34,109,97,105,110,34,125,44,123,34,112,104,34,58,34,66,34,44,34,116,105,100,34,58,51,44,34,110,97,109,101,34,58,34,97,34,44,34,116,115,34,58,53,125,44,123,34,112,104,34,58,34,69,34,44,34,116,105,100,34,58,51,44,34,116,115,34,58,57,125,93]
abbrev Dc:ByteArray:=B #[91,123,34,112,104,34,58,34,69,34,44,34,116,105,100,34,58,51,44,34,116,115,34,58,57,44,34,110,97,109,101,34,58,34,97,34,125,93]
abbrev wL:List dV:=[⟨3,B #[109,97,105,110]⟩]
abbrev ux:List bH:=[⟨3,0,0,[⟨5,1,B #[97],0,0,[]⟩,⟨9,2,B #[],0,0,[]⟩]⟩]
theorem Lw:j7 yh=(⟨wL,gy,ux⟩,0):=by kernel_rfl
theorem Lu:(j7 Dc).2=10:=by kernel_rfl
theorem Li:(j7 (B #[91,93])).2=8:=by kernel_rfl
theorem Ly:ky wL ux=(yh,0):=by kernel_rfl
theorem Ll:DI wL ux:=⟨by decide,by decide,by decide⟩
theorem LF:(bp (dQ wL ux)).length<=1000000000000:=by
 have:(bp (dQ wL ux)).length=97:=by kernel_rfl
 omega
def Bf(s:ByteArray):JV:=match ep (bg s)with
 |.ok v _=>v
 |.no _ _=>gf
abbrev Ht(s:ByteArray):gO:=(cO (Bf s).kids x0).1
theorem Hn(z:gO)(ts)(ps:List bH)(h1:fQ ts gy []=Kb (z.ids.map (jZ z)))(h2:ps=z.ids.flatMap (fX z))(I:ps.length<=8)(J:total ps<=1000)(M:(ez ts gy [] ps).1.c=(jQ (z.ids.map (jZ z)) ps).1.c)(N:(ez ts gy [] ps).2=(jQ (z.ids.map (jZ z)) ps).2):uc z:=by have h:=wG ts gy [] ps I (fun _=>J);rw[h1,M,N,h2]at h;exact h
theorem Cq(s:ByteArray)(I:b8 (Bf s) 1=0)(hl:Nat.ble (bp (Bf s)).length 1000=true)(J:Nat.ble (Bf s).kids.length 1000=true)(M:uc (Ht s)):bm Tryz.prog 9 [.d (.v (.string s))] (.tup [.ag (j7 s).1.c,.d (ci (j7 s).2)]) 0:=by
 have e:∀v i,ep (bg s)=.ok v i->Bf s=v:=fun v i hp=>by unfold Bf;rw[hp]
 have h1:=κ hl;exact vd s (fun v i hp=>by rw[<-e v i hp];exact zC I (by omega) fun _=>κ J) fun v i hp _=>by rw[<-e v i hp];exact M
theorem J7:uc x0:=Hn x0 [] [] rfl rfl (by decide) (by decide) (by kernel_rfl) (by kernel_rfl)
theorem Lp:uc (Ht yh):=Hn _ [⟨3,B #[109,97,105,110],0⟩] ux (by kernel_rfl) (by kernel_rfl) (by decide) (by decide) (by kernel_rfl) (by kernel_rfl)
theorem Fv(l:dM)(ts)(J:l.ps.length<=8)(M:total l.ps<=1000)(I:l.c=kV.c ⟨ts,gy,l.ps⟩)(h0:gv l=0)(h1:(jQ ts l.ps).2=0)(N:mE l=[])(ok:DI ts l.ps)(O:(bp (dQ ts l.ps)).length<=1000000000000):bm Tryz.prog 15 [.ag l.c] (.tup [.d (cs (ky ts l.ps).1),.d (ci (ky ts l.ps).2)]) 0:=by have a:=qw l J (fun _=>M);have b:=zG l J (fun _=>M);rw[I,h0]at a;rw[I,N]at b;rw[I];exact Dq ts l.ps ok (fun _=>O) (by rw[h1];exact a) b
theorem xg:bm Tryz.prog 8 [] (.d (.v (.bool true))) 0:=by
 have h1:=Cq yh (by kernel_rfl) (by kernel_rfl) (by kernel_rfl) Lp;rw[Lw]at h1;have h2:=Cq Dc (by kernel_rfl) (by kernel_rfl) (by kernel_rfl) (by rw[show Ht Dc=x0 by kernel_rfl];exact J7);rw[Lu]at h2;have h3:=Cq (B #[91,93]) (by kernel_rfl) (by kernel_rfl) (by kernel_rfl) (by rw[show Ht (B #[91,93])=x0 by kernel_rfl];exact J7);rw[Li]at h3;have h4:=Fv ⟨[⟨3,B #[109,97,105,110],0⟩],gy,[],ux⟩ wL (by decide) (by decide) Z (by kernel_rfl) (by kernel_rfl) (by kernel_rfl) Ll LF;rw[Ly]at h4;refine bm.bW (n:=75) (ts:=[0]) Tryz.func8 (by kernel_rfl) Z Tryz.ntmps8 Tryz.results8 Z Z fun C hC I=>aZ 1 Z<|aa<|ab<|pu (bk Z Z Z h1 Z) Z<|bb 3 Z<|b9 aY Z Z Z<|bt aY Z Z Z Z Z Z Z Z<|pE Z<|ae<|qs<|aa<|ab<|bb 1 Z<|pu (bk Z Z Z h4 Z) Z<|bb 5 Z<|ae<|qs<|aa<|ab<|pu (bk Z Z Z h2 Z) Z<|bb 3 Z<|b9 aY Z Z Z<|bt aY Z Z Z Z Z Z Z Z<|pE Z<|ae<|qs<|aa<|ab<|pu (bk Z Z Z h3 Z) Z<|bb 3 Z<|b9 aY Z Z Z<|bt aY Z Z Z Z Z Z Z Z<|pE Z<|ae<|qs<|aa ?_;apply bJ;(case hb=>rfl);·
  refine bb 3 Z ?_;apply bU;(case hj=>rfl);(case hl=>rfl);·
   refine bE Z Z<|pE Z<|bE Z Z<|pE Z<|bE Z Z<|bb 1 Z<|bE Z Z<|pE Z<|bE Z Z<|bb 3 Z ?_;apply bU;(case hj=>rfl);(case hl=>rfl);·
    refine bE Z Z<|pE Z<|bE Z Z<|pE Z<|bE Z Z<|bb 1 Z<|bE Z Z<|pu (indexAddr (l:=dV.c ⟨3,B #[109,97,105,110]⟩) aY Z Z Z Z Z Z (by decide) Z Z) Z<|bE Z Z<|bb 1 Z<|bE Z Z<|pu (build aY Z Z Z Z) Z<|bE Z Z<|bb 3 Z ?_;apply bU;(case hj=>rfl);(case hl=>rfl);·
     refine bE Z Z<|pE Z<|bE Z Z<|bb 1 Z<|bE Z Z<|pE Z<|bE Z Z<|bb 3 Z ?_;apply bU;(case hj=>rfl);(case hl=>rfl);·
      refine bE Z Z<|pE Z<|bE Z Z<|bb 1 Z<|bE Z Z<|pu (indexAddr (l:=bH.c ⟨3,0,0,[⟨5,1,B #[97],0,0,[]⟩,⟨9,2,B #[],0,0,[]⟩]⟩) aY Z Z Z Z Z Z (by decide) Z Z) Z<|bE Z Z<|pE Z<|bE Z Z<|bb 1 Z<|bE Z Z<|pE Z<|bE Z Z<|bb 3 Z ?_;apply bU;(case hj=>rfl);(case hl=>rfl);·
       refine bE Z Z (pE Z (bE Z Z (bb 3 Z ?_)));apply bU;(case hj=>rfl);(case hl=>rfl);·
        refine bE Z Z (pE Z (bE Z Z (bb 3 Z ?_)));apply bU;(case hj=>rfl);(case hl=>rfl);·
         refine bE Z Z (pE Z (bE Z Z (bb 3 Z ?_)));apply bU;(case hj=>rfl);(case hl=>rfl);·
          refine bE Z Z<|pE Z<|bE Z Z<|bb 3 Z<|ae<|b7 Z Z Z
         refine bD Z Z Z Z<|bD Z Z Z Z<|bb 2 Z ?_
         refine ae (b7 Z Z Z)
        refine bD Z Z Z Z<|bD Z Z Z Z<|bb 2 Z ?_
        refine bD Z Z Z Z<|bD Z Z Z Z<|bb 2 Z ?_
        refine ae (b7 Z Z Z)
       refine bD Z Z Z Z<|bD Z Z Z Z<|bb 2 Z ?_
       refine bD Z Z Z Z<|bD Z Z Z Z<|bb 2 Z ?_
       refine bD Z Z Z Z<|bD Z Z Z Z<|bb 2 Z ?_
       refine ae (b7 Z Z Z)
      refine bD Z Z Z Z<|bD Z Z Z Z<|bb 2 Z ?_
      refine bD Z Z Z Z<|bD Z Z Z Z<|bb 2 Z ?_
      refine bD Z Z Z Z<|bD Z Z Z Z<|bb 2 Z ?_
      refine bD Z Z Z Z<|bD Z Z Z Z<|bb 2 Z ?_
      refine ae (b7 Z Z Z)
     iterate 7 refine bD Z Z Z Z ?_
     refine bb 2 Z<|bD Z Z Z Z<|bD Z Z Z Z<|bb 2 Z ?_
     refine bD Z Z Z Z<|bD Z Z Z Z<|bb 2 Z ?_
     refine bD Z Z Z Z<|bD Z Z Z Z<|bb 2 Z ?_
     refine bD Z Z Z Z<|bD Z Z Z Z<|bb 2 Z ?_
     refine ae (b7 Z Z Z)
    refine bD Z Z Z Z<|bD Z Z Z Z<|bD Z Z Z Z<|bD Z Z Z Z<|bb 2 Z ?_
    iterate 7 refine bD Z Z Z Z ?_
    refine bb 2 Z<|bD Z Z Z Z<|bD Z Z Z Z<|bb 2 Z ?_
    refine bD Z Z Z Z<|bD Z Z Z Z<|bb 2 Z ?_
    refine bD Z Z Z Z<|bD Z Z Z Z<|bb 2 Z ?_
    refine bD Z Z Z Z<|bD Z Z Z Z<|bb 2 Z ?_
    refine ae (b7 Z Z Z)
   iterate 7 refine bD Z Z Z Z ?_
   refine bb 2 Z<|bD Z Z Z Z<|bD Z Z Z Z<|bD Z Z Z Z<|bD Z Z Z Z<|bb 2 Z ?_
   iterate 7 refine bD Z Z Z Z ?_
   refine bb 2 Z<|bD Z Z Z Z<|bD Z Z Z Z<|bb 2 Z ?_
   refine bD Z Z Z Z<|bD Z Z Z Z<|bb 2 Z ?_
   refine bD Z Z Z Z<|bD Z Z Z Z<|bb 2 Z ?_
   refine bD Z Z Z Z<|bD Z Z Z Z<|bb 2 Z ?_
   refine ae (b7 Z Z Z)
  refine bD Z Z Z Z<|bD Z Z Z Z<|bD Z Z Z Z<|bD Z Z Z Z<|bD Z Z Z Z<|bb 2 Z ?_
  iterate 7 refine bD Z Z Z Z ?_
  refine bb 2 Z<|bD Z Z Z Z<|bD Z Z Z Z<|bD Z Z Z Z<|bD Z Z Z Z<|bb 2 Z ?_
  iterate 7 refine bD Z Z Z Z ?_
  refine bb 2 Z<|bD Z Z Z Z<|bD Z Z Z Z<|bb 2 Z ?_
  refine bD Z Z Z Z<|bD Z Z Z Z<|bb 2 Z ?_
  refine bD Z Z Z Z<|bD Z Z Z Z<|bb 2 Z ?_
  refine bD Z Z Z Z<|bD Z Z Z Z<|bb 2 Z ?_
  refine ae (b7 Z Z Z)
 refine qs (W.ret (QF.bl trivial Z ?_));rfl
theorem Kq(l:dM):bm Tryz.prog 14 [.ag l.c] (.d (.v (.bool (qR l)))) 0:=by
 refine bm.bW (n:=54) (ts:=[2]) Tryz.func14 (by kernel_rfl) Z Tryz.ntmps14 Tryz.results14 Z Z fun C hC U=>aa<|ab<|cz Z Z Z<|pE Z<|ae<|qs<|aZ 1 Z<|aa<|aZ 1 Z<|W.block<|W.ca (ι:={x:Nat×Int//match x with|(k,n)=>k<=l.ps.length∧k<=9∧pz ((l.ps.take 9).drop k) n=pz (l.ps.take 9) 0})
  (fun x=>match x.1 with|(k,n)=>[(1,.ptr 0 0),(3,.d (ci n)),(4,.d (.v (.int .i64 ((k:Nat):Int))))]) []
  (fun x=>match x.1 with|(k,n)=>[(0,l.c.map A.d)]) [] [] 1 (fun x=>match x.1 with|(k,n)=>9-k)
  [0] ⟨(0,0),?_⟩ Z ?_ trivial ?_ trivial Z ?_
 ·exact⟨ς _,ς _,rfl⟩
 ·repeat' constructor
 ·repeat' constructor
 rintro⟨⟨k,n⟩,X,O,M⟩;show W _ _ _ _ _ ⟨[(1,.ptr 0 0),(3,.d (ci n)),(4,.d (.v (.int .i64 ((k:Nat):Int))))],[(0,l.c.map A.d)],[],1⟩;iterate 2 refine aa ?_
 apply bJ;(case hb=>rfl);·repeat' first|refine b7 Z Z Z|refine bE Z Z ?_|refine bD Z Z Z Z ?_|refine pE Z ?_|refine ae ?_|(apply bU;(case hj=>rfl);(case hl=>rfl))
 refine qs (bc Z (fun I=>?_) (fun I=>?_));·
  have J:k<l.ps.length∧k<9:=by
   by_cases q:k<l.ps.length;·simp[q]at I;exact⟨q,by omega⟩
   simp[q]at I
  obtain⟨p,N⟩:∃p,l.ps[k]?=some p:=⟨l.ps[k]'(by omega),by simp⟩;have hd:(l.ps.take 9).drop k=p::(l.ps.take 9).drop (k+1):=by
   have h1:k<(l.ps.take 9).length:=by rw[V'];omega
   rw[List.drop_eq_getElem_cons h1,List.getElem_take];rw[(δ.1 N).2]
  rw[hd,pz]at M;refine ah<|qs<|aa<|W.block<|ab<|bb 4 Z<|pu (indexAddr (l:=p.c) aY Z Z Z Z Z Z (ε _) (bC N) Z) Z<|bb 3 Z<|pu (cW (ev aY Z) (y:=IntKind.i64.wrap (n+p.evs.length)) (by show IntKind.i64.wrap (n+((p.evs.map Ev.c).length:Nat))=_;rw[η])) Z<|pE Z<|ae<|bX<|qs<|ab<|pE Z<|pu (cW (ev aY Z) (y:=((k+1:Nat):Int)) ((wrap64 (by omega)).trans (by omega))) Z<|pE Z<|ae<|W.cg [0] ⟨(k+1,IntKind.i64.wrap (n+p.evs.length)),?_⟩ ?_ Z ?_ trivial ?_ trivial Z;·exact⟨J.1,J.2,M⟩
  ·dsimp only;omega
  ·repeat' constructor
  repeat' constructor
 have J:k=l.ps.length∨k=9:=by
  by_cases q:k<l.ps.length;·simp[q]at I;omega
  omega
 have hd:(l.ps.take 9).drop k=[]:=List.drop_eq_nil_of_le (by rw[V'];omega);rw[hd,pz]at M;refine ak (bP (bQ (bO (qs (aa ?_)))));apply bJ;(case hb=>rfl);·repeat' first|refine b7 Z Z Z|refine bE Z Z ?_|refine bD Z Z Z Z ?_|refine pE Z ?_|refine ae ?_|(apply bU;(case hj=>rfl);(case hl=>rfl))
 refine qs (W.ret (QF.bl trivial Z ?_));simp only[norm,bM,qR,M,η];have e:∀n m:Nat,decide ((n:Int)<=(m:Int))=decide (n<=m):=fun n m=>decide_eq_decide.2 Int.ofNat_le;rw[show decide ((l.ps.length:Int)<=8)=decide (l.ps.length<=8)from e _ 8,show decide ((l.ts.length:Int)<=8)=decide (l.ts.length<=8)from e _ 8,show decide ((l.ds.length:Int)<=10)=decide (l.ds.length<=10)from e _ 10,show decide ((l.sn.length:Int)<=20)=decide (l.sn.length<=20)from e _ 20];cases decide (pz (l.ps.take 9) 0<=40)<;>cases decide (l.ps.length<=8)<;>cases decide (l.ts.length<=8)<;>cases decide (l.ds.length<=10)<;>rfl
abbrev gY(l:dM):List dV:=l.ts.map GT.gw
def wj(l:dM):ByteArray×Int:=if b8 (dQ (gY l) l.ps) 1≠0 then(cn,b8 (dQ (gY l) l.ps) 1)else if 65536<(fK (dQ (gY l) l.ps)).size then(cn,7)else(fK (dQ (gY l) l.ps),0)
def iV(l:dM):ByteArray×Int:=if gv l≠0 then(cn,gv l)else if l.ds.length≠1∨0<l.sn.length then(cn,12)else if gD l.ps≠[]then(cn,1)else wj l
theorem HK{ps}{p:bH}(hp:p∈ps)(h:0<p.lost):gD ps≠[]:=by unfold gD;intro e;rw[List.map_eq_nil_iff,List.filter_eq_nil_iff]at e;have:=e p hp;simp at this;omega
theorem HQ{ps}(h:∀p∈ps,¬0<p.lost):gD ps=[]:=by unfold gD;rw[List.map_eq_nil_iff,List.filter_eq_nil_iff];intro p hp;have:=h p hp;simp;omega
theorem A6(l:dM)(h8:l.ps.length<=8)(hE:∀p∈l.ps,p.evs.length<=140737488355328)(hF:(∀p∈l.ps,cD p=0)->total l.ps<=1000):bm Tryz.prog 16 [.ag l.c] (.tup [.d (cs (iV l).1),.d (ci (iV l).2)]) 0:=by
 have hpm:l.ps.length<=maxLen:=by simp only[maxLen];omega
 refine bm.bW (n:=121) (ts:=[2,3]) Tryz.func16 (by kernel_rfl) Z Tryz.ntmps16 Tryz.results16 Z Z fun C hC hG=>aa<|ab<|cz Z Z Z<|bb 2 Z<|ae<|qs<|aa<|ab<|bb 1 Z<|pu (bk Z Z Z (AX l h8 hE hF) Z) Z<|pE Z<|ae<|qs<|aa<|aZ 2 Z<|bc Z (fun h15=>?_)<|fun h15=>?_
 ·
  have hg:iV l=(cn,gv l):=by unfold iV;rw[if_pos (by simpa using h15)]
  refine aZ 3 Z<|W.ret<|be<|QF.bl trivial Z ?_
  rw[hg];rfl
 have hc:gv l=0:=by simpa using h15
 refine ah<|qs<|aa<|aa<|?_
 apply bJ;(case hb=>rfl)
 ·
  refine bb 6 Z ?_
  apply dP;(case hj=>rfl);(case hl=>rfl)
  ·
   intro g22
   refine bD Z Z Z Z<|bD Z Z Z Z<|bD Z Z Z Z<|bD Z Z Z Z<|bD Z Z Z Z<|pE Z<|ae<|b7 Z Z Z
  intro g22
  refine bE Z Z<|pE Z<|bE Z Z<|pE Z<|bE Z Z<|bb 1 Z<|bE Z Z<|pE Z<|bE Z Z<|bb 2 Z<|ae<|b7 Z Z Z
 refine qs (bc Z (fun h28=>?_) (fun h28=>?_))
 ·
  have hg:iV l=(cn,12):=by unfold iV;rw[if_neg (by simp[hc]),if_pos (by by_cases a1:l.ds.length=1<;>by_cases a2:0<l.sn.length<;>simp_all)]
  refine aZ 2 Z<|W.ret<|be<|QF.bl trivial Z ?_
  rw[hg];rfl
 obtain⟨hd1,hs1⟩:l.ds.length=1∧l.sn=[]:=by
  simp at h28
  exact⟨by omega,h28.2⟩
 have h1:¬(l.ds.length≠1∨0<l.sn.length):=by rw[hs1,hd1];simp
 obtain⟨hh,hch,_⟩:=nX hc
 obtain⟨_,h64,_⟩:=lq hh
 have htm:l.ts.length<=maxLen:=by simp only[maxLen];omega
 have hpk:=si hc
 have hT:=hF fun p hp=>(hpk p hp).1
 refine ah<|qs<|aa<|ab<|pu (build aY Z Z Z Z) Z<|b9 aY Z Z Z<|bt aY Z Z Z Z Z Z Z Z<|ae<|qs<|aa<|aZ 1 Z<|W.block<|jl 1 3 Z Z Z<|fh 1 4 Z Z Z<|W.ca (ι:={x:Nat×List JV//match x with|(k,acc)=>k<=l.ts.length∧acc=((l.ts.take k).map GT.gw).map mJ})
  (fun x=>match x.1 with|(k,acc)=>[(1,.ptr 0 0),(5,.ptr 1 0),(6,.d (.v (.int .i64 ((k:Nat):Int))))]) []
  (fun x=>match x.1 with|(k,acc)=>[(0,l.c.map A.d),(1,[.d (ci 5),.d (ci 0),.d (cs cn),.d (.sl []),.own 2 (acc.map JV.c)])]) [] [2] 3 (fun x=>match x.1 with|(k,acc)=>l.ts.length-k)
  [0,1,2] ⟨(0,[]),?_⟩ rfl ?_ trivial ?_ trivial rfl ?_
 ·exact⟨ς _,rfl⟩
 ·repeat' constructor
 ·repeat' constructor
 rintro⟨⟨k,acc⟩,hk,hacc⟩
 show W _ _ _ _ _ ⟨[(1,.ptr 0 0),(5,.ptr 1 0),(6,.d (.v (.int .i64 ((k:Nat):Int))))],[(0,l.c.map A.d),(1,[.d (ci 5),.d (ci 0),.d (cs cn),.d (.sl []),.own 2 (acc.map JV.c)])],[2],3⟩
 have hal:acc.length<=64:=by rw[hacc,η,η,V'];omega
 refine aa<|aZ 6 Z<|cr (l:=l.ts) (k:=k) Z (by simp[Ex.bG,bo]) hk (fun t hx hd hlt=>?_)<|fun he hd=>?_
 ·
  refine ah<|qs<|aa<|W.block<|aa<|ab<|bb 4 Z<|pu (indexAddr (l:=t.c) aY Z Z Z Z Z Z (ε _) (bC hx) Z) Z<|bb 1 Z<|b9 aY Z Z Z<|bt aY Z Z Z Z Z Z Z Z<|ae<|qs<|W.ko aY [] [] [] [] 13 (by kernel_rfl) (by kernel_rfl) Z Z ?_
  refine' bL (ev aY Z) ?p_1 Z Z Z (by kernel_rfl) Z ?h_1
  case' h_1=>skip
  case p_1=>refine⟨fun ha=>ba ha,?_⟩<;>intro ha<;>first|exact⟨ev aY rfl,fun h=>nomatch h⟩|exact ba ha
  refine' bL (ev aY Z) ?p_2 Z Z Z (by kernel_rfl) Z ?h_2
  case' h_2=>skip
  case p_2=>refine⟨fun ha=>ba ha,?_⟩<;>intro ha<;>first|exact⟨ev aY rfl,fun h=>nomatch h⟩|exact⟨cS aY rfl rfl rfl rfl,fun h=>nomatch h⟩|exact⟨cR aY rfl rfl rfl rfl rfl,fun h=>nomatch h⟩|exact ba ha
  refine' bL (bZ aY Z Z Z Z Z Z Z Z Z) ?p_3 Z Z Z (by kernel_rfl) Z ?h_3
  case' h_3=>skip
  case p_3=>refine⟨fun ha=>ba ha,?_⟩<;>intro ha<;>first|exact⟨bZ aY rfl rfl rfl rfl rfl rfl rfl rfl rfl,fun h=>nomatch h⟩|exact ba ha
  refine' bL (bk Z Z Z (lg ..) Z) ?p_4 Z Z Z (by kernel_rfl) Z ?h_4
  case' h_4=>skip
  case p_4=>refine⟨fun ha=>ba ha,?_⟩<;>intro ha<;>first|exact⟨bk rfl rfl rfl (lg ..) rfl,fun h=>nomatch h⟩|exact ba ha
  refine' bL (ev aY Z) ?p_5 Z Z Z (by kernel_rfl) Z ?h_5
  case' h_5=>skip
  case p_5=>refine⟨fun ha=>ba ha,?_⟩<;>intro ha<;>first|exact⟨ev aY rfl,fun h=>nomatch h⟩|exact ba ha
  refine' bL (ev aY Z) ?p_6 Z Z Z (by kernel_rfl) Z ?h_6
  case' h_6=>skip
  case p_6=>refine⟨fun ha=>ba ha,?_⟩<;>intro ha<;>first|exact⟨ev aY rfl,fun h=>nomatch h⟩|exact⟨cS aY rfl rfl rfl rfl,fun h=>nomatch h⟩|exact⟨cR aY rfl rfl rfl rfl rfl,fun h=>nomatch h⟩|exact ba ha
  refine' bL (bk Z Z Z (l4 ..) Z) ?p_7 Z Z Z (by kernel_rfl) Z ?h_7
  case' h_7=>skip
  case p_7=>refine⟨fun ha=>ba ha,?_⟩<;>intro ha<;>first|exact⟨bk rfl rfl rfl (l4 ..) rfl,fun h=>nomatch h⟩|exact ba ha
  refine' bL (ev aY Z) ?p_8 Z Z Z (by kernel_rfl) Z ?h_8
  case' h_8=>skip
  case p_8=>refine⟨fun ha=>ba ha,?_⟩<;>intro ha<;>first|exact⟨ev aY rfl,fun h=>nomatch h⟩|exact ba ha
  refine' bL (ev aY Z) ?p_9 Z Z Z (by kernel_rfl) Z ?h_9
  case' h_9=>skip
  case p_9=>refine⟨fun ha=>ba ha,?_⟩<;>intro ha<;>first|exact⟨ev aY rfl,fun h=>nomatch h⟩|exact⟨cS aY rfl rfl rfl rfl,fun h=>nomatch h⟩|exact⟨cR aY rfl rfl rfl rfl rfl,fun h=>nomatch h⟩|exact ba ha
  refine' bL (bk Z Z Z (lg ..) Z) ?p_10 Z Z Z (by kernel_rfl) Z ?h_10
  case' h_10=>skip
  case p_10=>refine⟨fun ha=>ba ha,?_⟩<;>intro ha<;>first|exact⟨bk rfl rfl rfl (lg ..) rfl,fun h=>nomatch h⟩|exact ba ha
  refine' bL (bZ aY Z Z Z Z Z Z Z Z Z) ?p_11 Z Z Z (by kernel_rfl) Z ?h_11
  case' h_11=>skip
  case p_11=>refine⟨fun ha=>ba ha,?_⟩<;>intro ha<;>first|exact⟨bZ aY rfl rfl rfl rfl rfl rfl rfl rfl rfl,fun h=>nomatch h⟩|exact ba ha
  refine' bL (build aY Z Z Z Z) ?p_12 Z Z Z (by kernel_rfl) Z ?h_12
  case' h_12=>skip
  case p_12=>refine⟨fun ha=>ba ha,?_⟩<;>intro ha<;>first|exact⟨build aY rfl rfl rfl rfl,fun h=>nomatch h⟩|exact ba ha
  refine' bL (bZ aY Z Z Z Z Z Z Z Z Z) ?p_13 Z Z Z (by kernel_rfl) Z ?h_13
  case' h_13=>skip
  case p_13=>refine⟨fun ha=>ba ha,?_⟩<;>intro ha<;>first|exact⟨bZ aY rfl rfl rfl rfl rfl rfl rfl rfl rfl,fun h=>nomatch h⟩|exact ba ha
  refine ar ?_ Z
  refine eT (fn:=JV.c) (a:=mJ t.gw) aY Z Z Z Z Z Z Z Z Z Z (fun _=>rfl) (by show(acc.length+1)*80<=_;omega)<|pE Z<|bt aY Z Z Z Z Z Z Z Z<|ae<|bX<|qs<|cu 3 Z<|W.cg [0,1,4] ⟨(k+1,acc++[mJ t.gw]),?_⟩ ?_ Z ?_ trivial ?_ trivial Z
  ·exact⟨hlt,by rw[Φ,hx,y',y',hacc];rfl⟩
  ·dsimp only;omega
  ·repeat' first|exact trivial|refine⟨rfl,?_⟩|refine⟨bF (by assumption) (by assumption),?_⟩
  repeat' constructor
 have hm:acc=(gY l).map mJ:=by rw[hacc,P' (by omega)]
 refine ak<|bP<|bQ<|bO<|qs<|aa<|aZ 1 Z<|W.block<|W.ca (ι:={x:Nat×List JV//match x with|(k,bcc)=>k<=l.ps.length∧bcc=(gY l).map mJ++(l.ps.take k).flatMap nr∧∀p∈l.ps.take k,¬0<p.lost})
  (fun x=>match x.1 with|(k,bcc)=>[(1,.ptr 0 0),(5,.ptr 1 0),(8,.d (.v (.int .i64 ((k:Nat):Int))))]) []
  (fun x=>match x.1 with|(k,bcc)=>[(0,l.c.map A.d),(1,[.d (ci 5),.d (ci 0),.d (cs cn),.d (.sl []),.own 2 (bcc.map JV.c)])]) [] [2] 3 (fun x=>match x.1 with|(k,bcc)=>l.ps.length-k)
  [0,1,2] ⟨(0,acc),?_⟩ rfl ?_ trivial ?_ trivial rfl ?_
 ·exact⟨ς _,by rw[hm];simp,fun p hp=>by cases hp⟩
 ·repeat' constructor
 ·repeat' constructor
 rintro⟨⟨k,bcc⟩,hk,hbcc,hnl⟩
 show W _ _ _ _ _ ⟨[(1,.ptr 0 0),(5,.ptr 1 0),(8,.d (.v (.int .i64 ((k:Nat):Int))))],[(0,l.c.map A.d),(1,[.d (ci 5),.d (ci 0),.d (cs cn),.d (.sl []),.own 2 (bcc.map JV.c)])],[2],3⟩
 refine aa<|aZ 5 Z<|cr (l:=l.ps) (k:=k) Z (by simp[Ex.bG,bo]) hk (fun p hx hd hlt=>?_)<|fun he hd=>?_
 ·
  obtain⟨hp0,_⟩:=hpk p (ζ hx)
  have hpe:=qg (eG hp0).2.2.2.2.2
  have hpl:=(eG hp0).2.2.2.2.1
  have hpem:p.evs.length<=maxLen:=by simp only[maxLen];omega
  have htk:l.ps.take (k+1)=l.ps.take k++[p]:=by rw[Φ,hx];rfl
  refine ah<|qs<|aa<|W.block<|aa<|aa<|ab<|bb 3 Z<|pu (indexAddr (l:=p.c) aY Z Z Z Z Z Z (ε _) (bC hx) Z) Z<|bb 3 Z<|ae<|qs<|bc Z (fun h72=>?_)<|fun h72=>?_
  ·
   have hg:iV l=(cn,1):=by unfold iV;rw[if_neg (by simp[hc]),if_neg h1,if_pos (HK (ζ hx) (B' h72))]
   refine aZ 2 Z<|W.ret<|be<|bw<|be<|cE<|bw<|be<|QF.bl trivial Z ?_
   rw[hg];rfl
  have hlo:¬0<p.lost:=O' h72
  refine ah<|qs<|aZ 1 Z<|W.block<|W.ca (ι:={x:Nat×List JV//match x with|(q,dcc)=>q<=p.evs.length∧dcc=bcc++(p.evs.take q).map (BR p.thread)})
   (fun x=>match x.1 with|(q,dcc)=>[(1,.ptr 0 0),(5,.ptr 1 0),(8,.d (.v (.int .i64 ((k:Nat):Int)))),(9,.d (.v (.int .i64 ((q:Nat):Int))))]) []
   (fun x=>match x.1 with|(q,dcc)=>[(0,l.c.map A.d),(1,[.d (ci 5),.d (ci 0),.d (cs cn),.d (.sl []),.own 2 (dcc.map JV.c)])]) [] [2] 3 (fun x=>match x.1 with|(q,dcc)=>p.evs.length-q)
   [0,1,2] ⟨(0,bcc),?_⟩ rfl ?_ trivial ?_ trivial rfl ?_
  ·exact⟨ς _,by simp⟩
  ·repeat' constructor
  ·repeat' constructor
  rintro⟨⟨q,dcc⟩,hk2,hdcc⟩
  show W _ _ _ _ _ ⟨[(1,.ptr 0 0),(5,.ptr 1 0),(8,.d (.v (.int .i64 ((k:Nat):Int)))),(9,.d (.v (.int .i64 ((q:Nat):Int))))],[(0,l.c.map A.d),(1,[.d (ci 5),.d (ci 0),.d (cs cn),.d (.sl []),.own 2 (dcc.map JV.c)])],[2],3⟩
  have hdl:dcc.length<=22000:=by
   rw[hdcc,hbcc,υ,υ,η,η,η,V']
   have:=xD l.ps k
   unfold total at hT
   omega
  refine aa<|aa<|ab<|bb 4 Z<|pu (indexAddr (l:=p.c) aY Z Z Z Z Z Z (ε _) (bC hx) Z) Z<|bb 4 Z<|ae<|qs<|bc Z (fun h81=>?_)<|fun h81=>?_
  ·
   have hql:q<p.evs.length:=by have h:=B' h81;rw[η]at h;exact Int.ofNat_lt.1 h
   obtain⟨e,he⟩:∃e,p.evs[q]?=some e:=⟨p.evs[q],by simp⟩
   obtain⟨f,hf,hw,hst⟩:=vO (hpe e (ζ he)) p.thread
   refine ah (qs (aa (W.block (W.ko aY [] [] [] [] 19 (by kernel_rfl) (by kernel_rfl) Z Z ?_))))
   refine' bL (ev aY Z) ?p_14 Z Z Z (by kernel_rfl) Z ?h_14
   case' h_14=>skip
   case p_14=>refine⟨fun ha=>ba ha,?_⟩<;>intro ha<;>first|exact⟨ev aY rfl,fun h=>nomatch h⟩|exact ba ha
   refine' bL (ev aY Z) ?p_15 Z Z Z (by kernel_rfl) Z ?h_15
   case' h_15=>skip
   case p_15=>refine⟨fun ha=>ba ha,?_⟩<;>intro ha<;>first|exact⟨ev aY rfl,fun h=>nomatch h⟩|exact⟨cS aY rfl rfl rfl rfl,fun h=>nomatch h⟩|exact⟨cR aY rfl rfl rfl rfl rfl,fun h=>nomatch h⟩|exact ba ha
   refine' bL (ev aY Z) ?p_16 Z Z Z (by kernel_rfl) Z ?h_16
   case' h_16=>skip
   case p_16=>refine⟨fun ha=>ba ha,?_⟩<;>intro ha<;>first|exact⟨ev aY rfl,fun h=>nomatch h⟩|exact ba ha
   refine' bL (ev aY Z) ?p_17 Z Z Z (by kernel_rfl) Z ?h_17
   case' h_17=>skip
   case p_17=>refine⟨fun ha=>ba ha,?_⟩<;>intro ha<;>first|exact⟨ev aY rfl,fun h=>nomatch h⟩|exact⟨cS aY rfl rfl rfl rfl,fun h=>nomatch h⟩|exact⟨cR aY rfl rfl rfl rfl rfl,fun h=>nomatch h⟩|exact ba ha
   refine' bL (ev aY Z) ?p_18 Z Z Z (by kernel_rfl) Z ?h_18
   case' h_18=>skip
   case p_18=>refine⟨fun ha=>ba ha,?_⟩<;>intro ha<;>first|exact⟨ev aY rfl,fun h=>nomatch h⟩|exact ba ha
   refine' bL (indexAddr (l:=p.c) aY Z Z Z Z Z Z (ε _) (bC hx) Z) ?p_19 Z Z Z (by kernel_rfl) Z ?h_19
   case' h_19=>skip
   case p_19=>refine⟨fun ha=>ba ha,?_⟩<;>intro ha<;>first|exact⟨indexAddr (l:=p.c) aY rfl rfl rfl rfl rfl rfl (ε _) (bC hx) rfl,fun h=>nomatch h⟩|exact ba ha
   refine' bL (ev aY Z) ?p_20 Z Z Z (by kernel_rfl) Z ?h_20
   case' h_20=>skip
   case p_20=>refine⟨fun ha=>ba ha,?_⟩<;>intro ha<;>first|exact⟨ev aY rfl,fun h=>nomatch h⟩|exact ba ha
   refine' bL (ev aY Z) ?p_21 Z Z Z (by kernel_rfl) Z ?h_21
   case' h_21=>skip
   case p_21=>refine⟨fun ha=>ba ha,?_⟩<;>intro ha<;>first|exact⟨ev aY rfl,fun h=>nomatch h⟩|exact⟨cS aY rfl rfl rfl rfl,fun h=>nomatch h⟩|exact⟨cR aY rfl rfl rfl rfl rfl,fun h=>nomatch h⟩|exact ba ha
   refine' bL (ev aY Z) ?p_22 Z Z Z (by kernel_rfl) Z ?h_22
   case' h_22=>skip
   case p_22=>refine⟨fun ha=>ba ha,?_⟩<;>intro ha<;>first|exact⟨ev aY rfl,fun h=>nomatch h⟩|exact ba ha
   refine' bL (ev aY Z) ?p_23 Z Z Z (by kernel_rfl) Z ?h_23
   case' h_23=>skip
   case p_23=>refine⟨fun ha=>ba ha,?_⟩<;>intro ha<;>first|exact⟨ev aY rfl,fun h=>nomatch h⟩|exact⟨cS aY rfl rfl rfl rfl,fun h=>nomatch h⟩|exact⟨cR aY rfl rfl rfl rfl rfl,fun h=>nomatch h⟩|exact ba ha
   refine' bL (ev aY Z) ?p_24 Z Z Z (by kernel_rfl) Z ?h_24
   case' h_24=>skip
   case p_24=>refine⟨fun ha=>ba ha,?_⟩<;>intro ha<;>first|exact⟨ev aY rfl,fun h=>nomatch h⟩|exact ba ha
   refine' bL (indexAddr (l:=p.c) aY Z Z Z Z Z Z (ε _) (bC hx) Z) ?p_25 Z Z Z (by kernel_rfl) Z ?h_25
   case' h_25=>skip
   case p_25=>refine⟨fun ha=>ba ha,?_⟩<;>intro ha<;>first|exact⟨indexAddr (l:=p.c) aY rfl rfl rfl rfl rfl rfl (ε _) (bC hx) rfl,fun h=>nomatch h⟩|exact ba ha
   refine' bL (ev aY Z) ?p_26 Z Z Z (by kernel_rfl) Z ?h_26
   case' h_26=>skip
   case p_26=>refine⟨fun ha=>ba ha,?_⟩<;>intro ha<;>first|exact⟨ev aY rfl,fun h=>nomatch h⟩|exact ba ha
   refine' bL (ev aY Z) ?p_27 Z Z Z (by kernel_rfl) Z ?h_27
   case' h_27=>skip
   case p_27=>refine⟨fun ha=>ba ha,?_⟩<;>intro ha<;>first|exact⟨ev aY rfl,fun h=>nomatch h⟩|exact⟨cS aY rfl rfl rfl rfl,fun h=>nomatch h⟩|exact⟨cR aY rfl rfl rfl rfl rfl,fun h=>nomatch h⟩|exact ba ha
   refine' bL (ev aY Z) ?p_28 Z Z Z (by kernel_rfl) Z ?h_28
   case' h_28=>skip
   case p_28=>refine⟨fun ha=>ba ha,?_⟩<;>intro ha<;>first|exact⟨ev aY rfl,fun h=>nomatch h⟩|exact ba ha
   refine' bL (indexAddr (l:=e.c) aY Z Z Z Z Z Z (ε _) (bC he) Z) ?p_29 Z Z Z (by kernel_rfl) Z ?h_29
   case' h_29=>skip
   case p_29=>refine⟨fun ha=>ba ha,?_⟩<;>intro ha<;>first|exact⟨indexAddr (l:=e.c) aY rfl rfl rfl rfl rfl rfl (ε _) (bC he) rfl,fun h=>nomatch h⟩|exact ba ha
   refine' bL (ev aY Z) ?p_30 Z Z Z (by kernel_rfl) Z ?h_30
   case' h_30=>skip
   case p_30=>refine⟨fun ha=>ba ha,?_⟩<;>intro ha<;>first|exact⟨ev aY rfl,fun h=>nomatch h⟩|exact⟨cS aY rfl rfl rfl rfl,fun h=>nomatch h⟩|exact⟨cR aY rfl rfl rfl rfl rfl,fun h=>nomatch h⟩|exact ba ha
   refine' bL (bk Z Z Z (wi p.thread e f hf hst) Z) ?p_31 Z Z Z (by kernel_rfl) Z ?h_31
   case' h_31=>skip
   case p_31=>refine⟨fun ha=>ba ha,?_⟩<;>intro ha<;>first|exact⟨bk rfl rfl rfl (wi p.thread e f hf hst) rfl,fun h=>nomatch h⟩|exact ba ha
   refine' bL (bZ aY Z Z Z Z Z Z Z Z Z) ?p_32 Z Z Z (by kernel_rfl) Z ?h_32
   case' h_32=>skip
   case p_32=>refine⟨fun ha=>ba ha,?_⟩<;>intro ha<;>first|exact⟨bZ aY rfl rfl rfl rfl rfl rfl rfl rfl rfl,fun h=>nomatch h⟩|exact ba ha
   refine ar ?_ Z
   refine eT (fn:=JV.c) (a:=fP f p.thread e) aY Z Z Z Z Z Z Z Z Z Z (fun _=>rfl) (by show(dcc.length+1)*80<=_;omega)<|pE Z<|bt aY Z Z Z Z Z Z Z Z<|ae<|bX<|qs<|ab<|pE Z<|pu (cW (ev aY Z) (y:=((q+1:Nat):Int)) ((wrap64 (by omega)).trans (by omega))) Z<|pE Z<|ae<|W.cg [0,1,3] ⟨(q+1,dcc++[fP f p.thread e]),?_⟩ ?_ Z ?_ trivial ?_ trivial Z
   ·exact⟨hql,by rw[Φ,he,y',hdcc,←hw,M'];rfl⟩
   ·dsimp only;omega
   ·repeat' constructor
   repeat' constructor
  have hqe:q=p.evs.length:=by have h:=O' h81;rw[η]at h;exact Nat.le_antisymm hk2 (Nat.not_lt.1 fun z=>h (Int.ofNat_lt.2 z))
  have hd3:dcc=(gY l).map mJ++(l.ps.take (k+1)).flatMap nr:=by
   rw[hdcc,hqe,List.take_length,hbcc,htk,List.flatMap_append,M']
   congr 2
   simp[nr]
  refine ak<|bP<|bQ<|bO<|bX<|qs<|cu 3 Z<|W.cg [0,1,2] ⟨(k+1,dcc),?_⟩ ?_ Z ?_ trivial ?_ trivial Z
  ·exact⟨hlt,hd3,fun z hz=>by rw[htk]at hz;rcases D'.1 hz with hz|hz;exact hnl z hz;simp at hz;subst hz;exact hlo⟩
  ·dsimp only;omega
  ·repeat' first|exact trivial|refine⟨rfl,?_⟩|refine⟨bF (by assumption) (by assumption),?_⟩
  repeat' constructor
 rw[P' (by omega)]at hbcc hnl
 have hb2:bcc=kU (gY l) l.ps:=hbcc
 have hno:=HQ hnl
 have hG:iV l=wj l:=by unfold iV;rw[if_neg (by simp[hc]),if_neg h1,if_neg (by simp[hno])]
 have hn:=CU hc (by omega) (by simp[hno]) hT
 have hP:=Eg (dQ (gY l) l.ps) (fun _=>hn.len)
 rw[e7]at hP
 rw[show(dQ (gY l) l.ps).kids=bcc from hb2.symm]at hP
 refine ak<|bP<|bQ<|bO<|qs<|aa<|ab<|bb 1 Z<|pu (bk Z Z Z hP Z) Z<|bb 5 Z<|ae<|qs<|aa<|aa<|?_
 apply bJ;(case hb=>rfl)
 ·
  refine bb 3 Z ?_
  apply dP;(case hj=>rfl);(case hl=>rfl)
  ·
   intro g112
   refine bE Z Z<|pE Z<|bE Z Z<|pE Z<|bE Z Z<|bb 2 Z<|ae<|b7 Z Z Z
  intro g112
  refine bD Z Z Z Z<|bD Z Z Z Z<|bD Z Z Z Z<|pE Z<|ae<|b7 Z Z Z
 refine qs (bc Z (fun h116=>?_) (fun h116=>?_))
 ·
  have hg:iV l=(cn,7):=by
   rw[hG]
   unfold wj
   by_cases a1:b8 (dQ (gY l) l.ps) 1=0
   ·rw[if_neg (by simp[a1]),if_pos (by simp[a1]at h116;omega)]
   simp[a1]at h116
  refine cu 1 Z<|qs<|aa<|aZ 2 Z<|bc Z (fun h118=>?_)<|fun h118=>?_
  ·
   have:=hg
   refine aZ 3 Z<|W.ret<|be<|QF.bl trivial Z ?_
   rw[hg];rfl
  have hg:iV l=(fK (dQ (gY l) l.ps),0):=by
   exact absurd h118 (by decide)
  refine ah<|qs<|aZ 3 Z<|W.ret<|QF.bl trivial Z ?_
  rw[hg];rfl
 have h116':b8 (dQ (gY l) l.ps) 1=0->¬65536<(fK (dQ (gY l) l.ps)).size:=fun a1=>by simp[a1]at h116;omega
 refine ah<|qs<|aa<|aZ 2 Z<|bc Z (fun h118=>?_)<|fun h118=>?_
 ·
  (have hg:iV l=(cn,b8 (dQ (gY l) l.ps) 1):=by rw[hG];unfold wj;rw[if_pos (by simpa using h118)])
  refine aZ 3 Z<|W.ret<|be<|QF.bl trivial Z ?_
  rw[hg];rfl
 have hg:iV l=(fK (dQ (gY l) l.ps),0):=by
  (have hz:b8 (dQ (gY l) l.ps) 1=0:=(by simpa using h118);rw[hG];unfold wj;rw[if_neg (by simp[hz]),if_neg (h116' hz)])
 refine ah<|qs<|aZ 3 Z<|W.ret<|QF.bl trivial Z ?_
 rw[hg];rfl
theorem IH{l:dM}(h:qR l=true)(hp:∀p∈l.ps,cD p=0):l.ts.length<=8∧total l.ps<=40:=by have I:=(zO h).1;unfold qR at h;simp only[μ,Δ]at h;refine⟨h.2.2.1,?_⟩;have h1:=h.1;rw[P' (by omega),show(0:Int)=((0:Nat):Int)from rfl,qN l.ps 0 (fun p q=>(eG (hp p q)).2.2.2.2.1) (by omega)]at h1;omega
theorem IE(l:dM)(M:l.ps.length<=8)(N:(∀p∈l.ps,cD p=0)->total l.ps<=1000):bm Tryz.prog 15 [.ag l.c] (.tup [.d (cs (iV l).1),.d (ci (iV l).2)]) 0:=by
 by_cases hbad:gv l≠0∨(1<l.ds.length∨0<l.sn.length)∨gD l.ps≠[];·
  have h:=Ca l M N hbad;have e:iV l=(cn,qm l):=by
   unfold iV qm;by_cases q:gv l≠0;·rw[if_pos q,if_pos q]
   rw[if_neg q,if_neg q];have hd:l.ds≠[]:=by obtain⟨h1,_⟩:=nX (by simpa using q);obtain⟨_,_,_,a4,_⟩:=lq h1;unfold cJ at a4;intro e;rw[if_pos e]at a4;cases a4
   have hl:0<l.ds.length:=List.length_pos_iff.2 hd;by_cases q2:1<l.ds.length∨0<l.sn.length;·rw[if_pos q2,if_pos (by omega)]
   rw[if_neg q2,if_neg (by omega),if_pos ((hbad.resolve_left q).resolve_left q2)]
  rw[e];exact h
 have J:gv l=0:=Decidable.byContradiction fun q=>hbad (.inl q);have O:=N fun p hp=>(si J p hp).1;have I:=CU J (fun q=>hbad (.inr (.inl q))) (fun q=>hbad (.inr (.inr q))) O;have h:=Fv l (gY l) M O I.c I.ck (by rw[I.of]) I.LA I.ok I.len;have e:iV l=ky (gY l) l.ps:=by
  have U:ky (gY l) l.ps=wj l:=by unfold ky wj;rw[I.of];exact if_neg fun q=>q Z
  unfold iV;rw[if_neg (by simp[J]),if_neg (by rw[I.ds,I.sn];simp[gy]),if_neg (fun q=>hbad (.inr (.inr q))),U]
 rw[e];exact h
theorem JN{l:dM}(N:qR l=true)(h:(iV l).2=0):iz l∧iV l=(bytesOf (bp (dQ (gY l) l.ps)),0)∧b8 (dQ (gY l) l.ps) 1=0∧(bytesOf (bp (dQ (gY l) l.ps))).size<=65536:=by
 have O:=(zO N).2;unfold iV at h⊢;split at h;·rename_i q;exact absurd h q
 rename_i q;rw[if_neg q];have J:gv l=0:=by simpa using q
 split at h;·cases h
 rename_i q2;rw[if_neg q2];split at h;·cases h
 rename_i q3;rw[if_neg q3];have U:=CU J (by omega) q3 (O fun p hp=>(si J p hp).1);unfold wj at h⊢;split at h;·rename_i q4;exact absurd h q4
 rename_i q4;rw[if_neg q4];split at h;·cases h
 rename_i q5;have I:b8 (dQ (gY l) l.ps) 1=0:=by simpa using q4
 have M:fK (dQ (gY l) l.ps)=bytesOf (bp (dQ (gY l) l.ps)):=by unfold fK;rw[if_pos I]
 rw[if_neg q5,M];rw[M]at q5;exact⟨U,rfl,I,by omega⟩
theorem HT{l:dM}(h:(iV l).2≠0):(iV l).1=cn:=by
 unfold iV wj at h⊢;repeat' split
 all_goals first|rfl|simp_all
theorem Fq{l:dM}(J:qR l=true)(M:iz l)(I:b8 (dQ (gY l) l.ps) 1=0)(N:(bytesOf (bp (dQ (gY l) l.ps))).size<=65536):∀v i,ep (bg (bytesOf (bp (dQ (gY l) l.ps))))=.ok v i->C7 v:=by intro v i hp;have hb:=ry I (x:=[]) (y:=[]) (by simp) (by simp);rw[List.nil_append,List.append_nil]at hb;rw[dU,hb]at hp;cases hp;rw[<-tw,dU]at N;refine zC I (by omega) fun _=>?_;show(kU (gY l) l.ps).length<=1000;obtain⟨a,b⟩:=IH J fun p hp=>(si M.ck p hp).1;unfold kU;rw[υ,qX,η,η];unfold total at b;omega
theorem H2{l:dM}(M:l.ps.length<=8)(N:(∀p∈l.ps,cD p=0)->total l.ps<=1000)(I:iz l)(O:b8 (dQ (gY l) l.ps) 1=0):∀v i,ep (bg (bytesOf (bp (dQ (gY l) l.ps))))=.ok v i->(cO v.kids x0).2=0->uc (cO v.kids x0).1:=by intro v i hp _;have hb:=ry O (x:=[]) (y:=[]) (by simp) (by simp);rw[List.nil_append,List.append_nil]at hb;rw[dU,hb]at hp;cases hp;obtain⟨z,U,X,e2⟩:=Hk I;have h:=wG l.ts l.ds l.sn l.ps M N;show uc (cO (kU (l.ts.map GT.gw) l.ps) x0).1;rw[U];unfold uc;rw[X,e2,I.of];rw[I.ez]at h;have J:kV.c ⟨l.ts.map GT.gw,gy,l.ps⟩=l.c:=I.c.symm;rw[show(Kb (l.ts.map GT.gw))=fQ l.ts l.ds l.sn from by have:=congrArg (List.take 3) J;simpa using this];show bm _ _ _ (.tup [.ag (kV.c ⟨l.ts.map GT.gw,gy,l.ps⟩),_]) 0;rw[J];exact h
theorem zK(l:dM)(hE:∀p∈l.ps,p.evs.length<=140737488355328):bm Tryz.prog 4 [.ag l.c] (.d (.v (.bool true))) 0:=by
 refine bm.bW (n:=51) (ts:=[2]) Tryz.func4 (by kernel_rfl) Z Tryz.ntmps4 Tryz.results4 Z Z fun C hC hG=>aa<|ab<|cz Z Z Z<|pE Z<|ae<|qs<|aa<|aa<|?_
 apply bJ;(case hb=>rfl);·
  refine pu (bk Z Z Z (xg ..) Z) Z<|bb 2 Z ?_;apply dP;(case hj=>rfl);(case hl=>rfl);·
   intro g11;refine bD Z Z Z Z<|bD Z Z Z Z<|bD Z Z Z Z<|pE Z<|ae<|b7 Z Z Z
  intro g11;refine bE Z Z<|bb 1 Z<|bE Z Z<|pu (bk Z Z Z (Kq l) Z) Z<|bE Z Z<|bb 2 Z<|ae<|b7 Z Z Z
 refine qs (bc Z (fun N=>?_) (fun N=>?_));·
  refine aa<|ab<|pu (bk Z Z Z (xg ..) Z) Z<|pE Z<|ae<|qs<|W.ret<|be<|QF.bl trivial Z ?_;rfl
 have X:qR l=true:=by simpa using N
 obtain⟨h8,hF⟩:=zO X;refine ah<|qs<|aa<|ab<|bb 1 Z<|pu (bk Z Z Z (IE l h8 hF) Z) Z<|bb 5 Z<|ae<|qs<|aa<|ab<|bb 1 Z<|pu (bk Z Z Z (A6 l h8 hE hF) Z) Z<|bb 5 Z<|ae<|qs<|aa<|aa<|?_
 apply bJ;(case hb=>rfl);·
  refine bb 4 Z ?_;apply dP;(case hj=>rfl);(case hl=>rfl);·
   intro ad;refine bD Z Z Z Z<|bD Z Z Z Z<|bD Z Z Z Z<|pE Z<|ae<|b7 Z Z Z
  intro ad;refine bE Z Z<|pE Z<|bE Z Z<|pE Z<|bE Z Z<|bb 2 Z<|ae<|b7 Z Z Z
 refine qs (bc Z (fun O=>?_) (fun O=>?_));·exfalso;simp at O
 refine ah<|qs<|aa<|aZ 2 Z<|bc Z (fun I=>?_)<|fun I=>?_;·
  have ai:(iV l).2≠0:=by simpa using I
  have aj:=HT ai;rw[aj];refine aZ 3 Z<|W.ret<|be<|QF.bl trivial Z ?_;rfl
 have h0:(iV l).2=0:=by simpa using I
 obtain⟨M,hx,J,hz⟩:=JN X h0;have U:=vd _ (Fq X M J hz) (H2 h8 hF M J);rw[Gt M J hz,←M.c]at U;rw[hx];refine ah<|qs<|aa<|ab<|pE Z<|pu (bk Z Z Z U Z) Z<|bb 3 Z<|b9 aY Z Z Z<|bt aY Z Z Z Z Z Z Z Z<|pE Z<|ae<|qs<|aa ?_;apply bJ;(case hb=>rfl);·
  refine bb 3 Z ?_;apply dP;(case hj=>rfl);(case hl=>rfl);·
   intro a1;refine bE Z Z<|bb 1 Z<|bE Z Z<|bb 1 Z<|bE Z Z<|pu (bk Z Z Z (yI l l) Z) Z<|bb 2 Z<|ae<|b7 Z Z Z
  intro a1;refine bD Z Z Z Z<|bD Z Z Z Z<|bD Z Z Z Z<|bb 2 Z ?_
  refine ae (b7 Z Z Z)
 refine qs (W.ret (QF.bl trivial Z ?_))
 (simp only[norm,bM];rw[(sh _ _).2 rfl];rfl)
end Go.Proofs.YtpiaiiopakafhaaGreatDoor
