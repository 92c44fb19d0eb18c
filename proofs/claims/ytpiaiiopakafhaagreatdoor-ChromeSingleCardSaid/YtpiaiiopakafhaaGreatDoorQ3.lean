import Derived.Test.YtpiaiiopakafhaaGreatDoorQ2
import Derived.Lib.AppendStr
import Derived.Lib.Builder
import Derived.Lib.UnsafeStr
import Derived.Recover
import Derived.RangeFuncLeaves
import Derived.RangeFuncCalls
namespace Go.Ab
open Go.RowKit
/-! ### whatever the states are -/
section
variable {P:Program} {ops:Array Oper} {md:Region.Mode} {m:Nat} {S E:Type} (Y:Nat→E→S→Prop) (ef:Nat→E→S→S)
def e7 (md:Region.Mode) (ops:Array Oper) (listed:Array Bool):Prop:=
 ∀ j I,ops[j]? = some I→listed.getD j false=true→∀ e∈I.after,Region.binds md e=true→listed.getD e.on false=true
def cU (md:Region.Mode) (ops:Array Oper):Nat→Nat→Nat→Bool
 | 0,_,_=>false
 | k+1,j,i=>cu md ops j i || (match ops[j]? with | some o=>o.after.toList.any fun e=>Region.binds md e && cU md ops k e.on i | none=>false)
theorem kV {listed:Array Bool} (N:e7 md ops listed):∀ (k j i:Nat),cU md ops k j i=true→(∀ J,ops[j]? = some J→∀ e∈J.after,Region.binds md e=true→listed.getD e.on false=true)→listed.getD i false=true
 | 0,_,_,h,_=>by simp[cU] at h
 | k+1,j,i,h,hj=>by
   simp only[cU,Bool.or_eq_true] at h
   cases I:ops[j]? with
   | none=>rw[I] at h;simp[cu,I] at h
   | some J=>
     rcases h with h | h
     ·obtain⟨e,he,hb,heq⟩:=kN I h
      rw[←heq];exact hj J I e he hb
     ·rw[I] at h
      obtain⟨e,he,hb⟩:=List.any_eq_true.1 h;simp only[Bool.and_eq_true] at hb;have O:e∈J.after:=by simpa using he
      have hl:=hj J I e O hb.1;exact kV N k e.on i hb.2 fun o X Z M U=>N e.on o X hl Z M U
def nh (md:Region.Mode) (ops:Array Oper) (m:Nat):Bool:=(List.range ops.size).all fun j=>decide (j < m) || (List.range j).all fun i=>cU md ops ops.size j i
theorem oh {j:Nat} (h:nh md ops m=true) (hm:m≤j) {i:Nat} (M:i < j) {listed:Array Bool} (U:e7 md ops listed) (hj:j∈Region.ready md ops listed):listed.getD i false=true:=by obtain⟨_,X,I,J⟩:=mem_ready.1 hj;have N:j < ops.size:=(Array.getElem?_eq_some_iff.1 I).1;have h1:=List.all_eq_true.1 h j (by simpa using N);simp only[Bool.or_eq_true,decide_eq_true_eq] at h1;have h2:=List.all_eq_true.1 (h1.resolve_left (by omega)) i (by simpa using M);exact kV U _ j i h2 fun o O e he hb=>by rw[I] at O;cases O;exact J e he hb
theorem e7.add {listed:Array Bool} (N:e7 md ops listed) {i:Nat} (hi:i∈Region.ready md ops listed):e7 md ops (listed.setIfInBounds i true):=by
 intro j O I hl e he hb;obtain⟨_,U,M,J⟩:=mem_ready.1 hi;by_cases hji:i=j
 ·subst hji
  rw[M] at I;cases I;exact getD_set_true (J e he hb)
 ·rw[getD_set_ne false hji] at hl
  exact getD_set_true (N j O I hl e he hb)
def sT (m:Nat) (md:Region.Mode) (ops:Array Oper) (Q:S→Prop):Nat→Array Bool→S→Prop
 | 0,listed,I=>Split m ops listed∧Q I
 | fuel+1,listed,I=>Region.ready md ops listed≠[]∧∀ i∈Region.ready md ops listed,∃ e,Y i e I∧sT m md ops Q fuel (listed.setIfInBounds i true) (ef i e I)
def oI (i j:Nat):Prop:=∀ e J I,Y i e I→Y j J (ef i e I)→Y j J I∧Y i e (ef j J I)∧ef j J (ef i e I)=ef i e (ef j J I)
variable {Y} {ef}
theorem zq {Q:S→Prop} {i:Nat} {oi:Oper} {e:E} (hw:nh md ops m=true) (b3:i < m) (hi:ops[i]? = some oi) :
 ∀ (fuel:Nat) (listed:Array Bool) (M:S),e7 md ops listed →
   (∀ j N,ops[j]? = some N→j≠i→j < m→listed.getD j true=false→(∀ e∈N.after,Region.binds md e=true→e.on≠i)→oI Y ef i j) →
   i∈Region.ready md ops listed→Y i e M→sT Y ef m md ops Q fuel (listed.setIfInBounds i true) (ef i e M)→sT Y ef m md ops Q (fuel+1) listed M:=by
 have O:∀ {listed:Array Bool},i∈Region.ready md ops listed→listed.getD i false=false:=fun I=>et (mem_ready.1 I).1;intro fuel
 induction fuel with
 | zero=>
   intro listed M hc _ I hy H;refine⟨fun h=>(by rw[h] at I;cases I),fun j hj=>?_⟩;by_cases hji:j=i;·subst hji;exact⟨e,hy,H⟩
   ·exfalso
    obtain⟨⟨_,h1,h2⟩,_⟩:=H;have a1:=(mem_ready.1 hj).1;by_cases U:j < m
    ·have:=h1 j U
     rw[getD_set_ne false (Ne.symm hji)] at this;rw[et a1] at this;cases this
    ·have:=oh hw (by omega) (show i < j by omega) hc hj
     rw[O I] at this;cases this
 | succ fuel ih=>
   intro listed M hc J I hy H;refine⟨fun h=>(by rw[h] at I;cases I),fun j hj=>?_⟩;by_cases hji:j=i;·subst hji;exact⟨e,hy,H⟩
   ·obtain⟨e',a6,H'⟩:=H.2 j (ready_mono hj hji)
    obtain⟨X,N,a7,ai⟩:=mem_ready.1 hj;have aj:∀ e∈N.after,Region.binds md e=true→e.on≠i:=fun e he hb heq=>by have h1:=ai e he hb;rw[heq,O I] at h1;cases h1
    have U:j < m:=by
     rcases Nat.lt_or_ge j m with h | h
     ·exact h
     ·have:=oh hw h (show i < j by omega) hc hj
      rw[O I] at this;cases this
    obtain⟨s1,s2,s3⟩:=J j N a7 hji U X aj e e' M hy a6;have Z:∀ k ok,ops[k]? = some ok→k≠i→k < m→(listed.setIfInBounds j true).getD k true=false→(∀ e∈ok.after,Region.binds md e=true→e.on≠i)→oI Y ef i k:=fun k ok hk a8 b0 ad b2=>by
     refine J k ok hk a8 b0 ?_ b2;by_cases hjk:j=k;·subst hjk;exact X
     ·rw[getD_set_ne true hjk] at ad;exact ad
    refine⟨e',s1,ih (listed.setIfInBounds j true) _ (hc.add hj) Z (ready_mono I (Ne.symm hji)) s2 ?_⟩;rw[Array.setIfInBounds_comm _ _ hji,←s3];exact H'
def zo (Y:Nat→E→S→Prop) (ef:Nat→E→S→S) (Q:S→Prop):List Oper→Nat→S→Prop
 | [],_,σ=>Q σ
 | _::rest,i,σ=>∃ e,Y i e σ∧zo Y ef Q rest (i+1) (ef i e σ)
theorem xb {Q:S→Prop} (hw:nh md ops m=true)
 (N:∀ i j oi I,ops[i]? = some oi→ops[j]? = some I→i≠j→i < m→j < m→oi.apart ops I=true→(∀ e∈I.after,Region.binds md e=true→e.on≠i)→oI Y ef i j) :
 ∀ (l:List Oper) (k:Nat) (listed:Array Bool) (J:S),k+l.length=m→(∀ j,j < l.length→l[j]? = ops[k+j]?)→e7 md ops listed →
 listed.size=ops.size→(∀ j,j < k→listed.getD j false=true)→(∀ j,k≤j→j < ops.size→listed.getD j true=false) →
 mG md ops l.length k listed=true→zo Y ef Q l k J→sT Y ef m md ops Q l.length listed J
 | [],k,listed,J,hk,_,_,hs,h1,h2,_,h=>⟨⟨hs,fun j hj=>h1 j (by simp at hk;omega),fun j hj M=>h2 j (by simp at hk;omega) M⟩,h⟩
 | o::l,k,listed,J,hk,hl,hc,hs,h1,h2,hB,h=>by
   have h0:ops[k]? = some o:=by simpa using (hl 0 (by simp)).symm
   have ai:k < ops.size:=(Array.getElem?_eq_some_iff.1 h0).1;simp only[List.length_cons,mG,Bool.and_eq_true] at hB;obtain⟨⟨hr,hf⟩,aj⟩:=hB;have O:k∈Region.ready md ops listed:=by simpa using hr
   obtain⟨e,hy,hK⟩:=h;have U:k < m:=by simp at hk;omega
   refine zq hw U h0 l.length listed J hc (fun j I X Z a1 a6 ad=>N k j o I h0 X (Ne.symm Z) U a1 (Region.free_spec h0 hf j I X Z a6 ad) ad) O hy
    (xb hw N l (k+1) _ _ (by simp at hk;omega) (fun j hj=>by have:=hl (j+1) (by simpa using hj);simpa [Nat.add_assoc,Nat.add_comm 1 j] using this) (hc.add O) (by simpa using hs) (fun j hj=>?_) (fun j hj M=>?_) aj hK)
   ·rcases Nat.lt_succ_iff_lt_or_eq.1 hj with a7 | rfl
    ·exact getD_set_true (h1 j a7)
    ·simp[hs,ai]
   ·rw[getD_set_ne true (by omega)]
    exact h2 j (by omega) M
theorem mX {Sm:S→Act→World→Prop} {Q:S→Prop} {Q':Exit→Act→World→Prop} {t:Nat}
 (M:∀ i e I act w K,Sm I act w→Y i e I→(∀ act w,Sm (ef i e I) act w→K act w)→wpOp P ops Q' i K act w)
 (N:∀ listed I act w,Sm I act w→e7 md ops listed→Split m ops listed→Q I→wpAny P md ops Q' t listed act w) :
 ∀ (fuel:Nat) (listed:Array Bool) (I:S) (act:Act) (w:World),Sm I act w→e7 md ops listed→sT Y ef m md ops Q fuel listed I→wpAny P md ops Q' (fuel+t) listed act w
 | 0,_,_,_,_,hs,J,h=>by rw[Nat.zero_add];exact N _ _ _ _ hs J h.1 h.2
 | fuel+1,_,_,_,_,hs,J,h=>by rw[Nat.add_right_comm];refine⟨fun h0=>absurd h0 h.1,fun i hi=>?_⟩;obtain⟨e,U,X⟩:=h.2 i hi;exact M i e _ _ _ _ hs U fun act w O=>mX M N fuel _ _ _ _ O (J.add hi) X
theorem lT {Q':Exit→Act→World→Prop} (hw:nh md ops m=true) (O:∀ k,m≤k→∀ o,ops[k]? = some o→∀ e∈o.after,Region.binds md e=true→e.on < k) :
 ∀ (l:List Oper) (k:Nat) (listed:Array Bool) (act:Act) (w:World),m≤k→k+l.length=ops.size→(∀ j,l[j]? = ops[k+j]?)→e7 md ops listed→listed.size=ops.size→(∀ j,j < k→listed.getD j false=true)→(∀ j,k≤j→j < ops.size→listed.getD j true=false) →
   dS P ops Q' l act w→wpAny P md ops Q' l.length listed act w
 | [],k,listed,act,w,hm,hk,_,_,hs,h1,h2,h=>by refine⟨?_,h⟩;refine List.eq_nil_iff_forall_not_mem.2 fun j hj=>?_;obtain⟨h3,oj,U,_⟩:=mem_ready.1 hj;have J:=(Array.getElem?_eq_some_iff.1 U).1;have:=h1 j (by simp at hk;omega);rw[et h3] at this;cases this
 | o::l,k,listed,act,w,hm,hk,hl,hc,hs,h1,h2,h=>by
   have h0:ops[k]? = some o:=by simpa using (hl 0).symm
   have M:k < ops.size:=(Array.getElem?_eq_some_iff.1 h0).1;have I:k∈Region.ready md ops listed:=mem_ready.2 ⟨h2 k (Nat.le_refl _) M,o,h0,fun e he hb=>h1 _ (O k hm o h0 e he hb)⟩;refine⟨fun hn=>(by rw[hn] at I;cases I),fun i hi=>?_⟩;have X:i=k:=by
    obtain⟨h3,oi,ai,_⟩:=mem_ready.1 hi;rcases Nat.lt_trichotomy i k with J | he | Z
    ·have:=h1 i J;rw[et h3] at this;cases this
    ·exact he
    ·have:=oh hw (by omega) Z hc hi
     rw[et (h2 k (Nat.le_refl _) M)] at this;cases this
   subst X
   have ih:=fun act w=>lT (Q':=Q') hw O l (i+1) (listed.setIfInBounds i true) act w (by omega) (by simp at hk;omega) (fun j=>by have:=hl (j+1);simpa [Nat.add_assoc,Nat.add_comm 1 j] using this) (hc.add I) (by simpa using hs)
    (fun j hj=>by
     rcases Nat.lt_succ_iff_lt_or_eq.1 hj with J | rfl
     ·exact getD_set_true (h1 j J)
     ·simp[hs,M]) (fun j hj ad=>by rw[getD_set_ne true (by omega)];exact h2 j (by omega) ad)
   simp only[dS] at h;unfold wpOp;simp only[h0];split
   ·rename_i N
    rw[if_pos N] at h;exact .inl (Oper.wp_mono ih h)
   ·rename_i N
    rw[if_neg N] at h;exact ih _ _ h
end
/-! ### one operation that turns the ghost -/
theorem Oper.CI {P:Program} {o:Oper} {a:Act} {w:World} {K J:Act→World→Prop} {Q Q':Exit→Act→World→Prop} (hp:∀ c a w,¬ Q (.panic c) a w) (M:¬ LetsOut Q) (I:∀ a w,K a w→J a w) (h:o.wp P a w K Q):o.wp P a w J Q':=by
 unfold Oper.wp at *;generalize (execOp a.eval o).run P w=r at *
 cases r with
 | ok n w'=>
   cases n <;> simp only[Oper.upon] at h ⊢ <;> first
    | exact I _ _ h
    | exact Calls.mono h (fun e N he=>by
     cases e with
     | returned v=>exact I _ _ he
     | panicked c=>exact absurd he (hp _ _ _)
     | outgrown=>exact absurd he M)
    | exact Rows.mono h (fun _ _ he=>I _ _ he)
    | exact h
 | halt x w'=>
   cases x <;> simp only[Oper.upon] at h ⊢ <;> first
    | exact absurd h (hp _ _ _)
    | exact h
theorem Oper.tw {P:Program} {o:Oper} {a:Act} {w:World} {K J:Act→World→Prop} {Q Q':Exit→Act→World→Prop} (hp:∀ c a w,Q (.panic c) a w→Q' (.panic c) a w) (M:¬ LetsOut Q) (I:∀ a w,K a w→J a w) (h:o.wp P a w K Q):o.wp P a w J Q':=by
 unfold Oper.wp at *;generalize (execOp a.eval o).run P w=r at *
 cases r with
 | ok n w'=>
   cases n <;> simp only[Oper.upon] at h ⊢ <;> first
    | exact I _ _ h
    | exact Calls.mono h (fun e N he=>by
     cases e with
     | returned v=>exact I _ _ he
     | panicked c=>exact hp _ _ _ he
     | outgrown=>exact absurd he M)
    | exact Rows.mono h (fun _ _ he=>I _ _ he)
    | exact h
 | halt x w'=>
   cases x <;> simp only[Oper.upon] at h ⊢ <;> first
    | exact hp _ _ _ h
    | exact h
end Go.Ab
namespace Go.Ab
open Go.RowKit
structure Ar where
 bx0:List (Nat×List A)
 bx1:List (Nat×List A)
 lv0:List Nat
 lv1:List Nat
 gen0:Nat
 gen1:Nat
section
variable {P:Program} {C:Ctx} {n:Nat} (S:Ar) {ops:Array Oper} (c:Nat)
abbrev SC:=dA×Bool
def DR (C:Ctx) (n:Nat) (S:Ar) (I:SC) (act:Act) (w:World):Prop:=
 act.defers=C.ds∧∃ G,if I.2=true then ew C n S.bx1 S.lv1 S.gen1 I.1 G act.tmps w else ew C n S.bx0 S.lv0 S.gen0 I.1 G act.tmps w
def DN (P:Program) (C:Ctx) (n:Nat) (S:Ar) (ops:Array Oper) (o:Oper) (a:A) (I:dA):Prop:=
 o.guard=none∧∃ p,(∀ t x,look p t=some x→I t=some x∧t∈o.looksAt ops) ∧
  ∀ g,WO P C n ops (fun e st=>e=.normal∧st=St.put ⟨p++g,S.bx1,S.lv1,S.gen1⟩ o.dst a) [o] ⟨p++g,S.bx0,S.lv0,S.gen0⟩
def YC (P:Program) (C:Ctx) (n:Nat) (S:Ar) (ops:Array Oper) (c:Nat) (i:Nat) (a:A) (I:SC):Prop:=
 ∃ o,ops[i]? = some o∧eM n o.dst=true∧((i=c∧I.2=false∧DN P C n S ops o a I.1) ∨
   (i≠c∧(cu .any ops i c=false→YA P C n S.bx0 S.lv0 S.gen0 ops o a I.1)∧(cu .any ops c i=false→YA P C n S.bx1 S.lv1 S.gen1 ops o a I.1) ∧
    (I.2=false→cu .any ops i c=false)∧(I.2=true→cu .any ops c i=false)))
def xz (ops:Array Oper) (c:Nat) (i:Nat) (a:A) (I:SC):SC:=
 match ops[i]? with
 | none=>I
 | some o=>(bK I.1 o.dst a,if i=c then true else I.2)
variable {S} {c}
theorem w7 {o:Oper} {a:A} {J:dA} {dst:Option Nat} {x:A} (hd:∀ d,dst=some d→d∉o.looksAt ops):DN P C n S ops o a (bK J dst x)↔DN P C n S ops o a J:=by
 constructor
 ·rintro⟨h0,p,h1,h2⟩
  exact⟨h0,p,fun t y I=>⟨(fC hd (h1 t y I).2).symm.trans (h1 t y I).1,(h1 t y I).2⟩,h2⟩
 ·rintro⟨h0,p,h1,h2⟩
  exact⟨h0,p,fun t y I=>⟨(fC hd (h1 t y I).2).trans (h1 t y I).1,(h1 t y I).2⟩,h2⟩
theorem x6 {j i:Nat} {I:Oper} (hj:ops[j]? = some I) (h:∀ e∈I.after,Region.binds .any e=true→e.on≠i):cu .any ops j i=false:=by
 cases q:cu .any ops j i with
 | false=>rfl
 | true=>obtain⟨e,he,hb,heq⟩:=kN hj q;exact absurd heq (h e he hb)
theorem hU {i:Nat} {o:Oper} (h:ops[i]? = some o) (a:A) (I:SC):xz ops c i a I=(bK I.1 o.dst a,if i=c then true else I.2):=by unfold xz;rw[h]
theorem FB {i j:Nat} {O N:Oper} (hi:ops[i]? = some O) (hj:ops[j]? = some N) (a7:i≠j) (a8:O.apart ops N=true) (b0:∀ e∈N.after,Region.binds .any e=true→e.on≠i) :
 oI (YC P C n S ops c) (xz ops c) i j:=by
 obtain⟨Z,a2,a3⟩:=Oper.apart_spec a8;have ad:=x6 hj b0;rintro a b ⟨φ,ph⟩ ⟨b2,ai,di,aj⟩ ⟨b3,a6,dj,U⟩;rw[hi] at ai;cases ai;rw[hj] at a6;cases a6;rw[hU hi] at U;rw[hU hi,hU hj,hU hj,hU hi];have M:bK (bK φ O.dst a) N.dst b=bK (bK φ N.dst b) O.dst a:=lF φ a b a2;simp only at aj U ⊢;rcases aj with ⟨rfl,X,hx⟩ | ⟨J,y0,y1,y2,y3⟩
 ·
  subst X;rcases U with ⟨e,_⟩ | ⟨I,z0,z1,z2,z3⟩
  ·exact absurd e.symm a7
  ·refine⟨⟨N,hj,dj,.inr ⟨I,fun h=>(er Z).1 (z0 h),fun h=>(er Z).1 (z1 h),fun _=>ad,fun h=>by cases h⟩⟩,⟨O,hi,di,.inl ⟨rfl,?_,(w7 a3).2 hx⟩⟩,?_⟩
   ·rw[if_neg I]
   ·rw[if_pos rfl,if_neg I,M]
    simp
 ·rcases U with ⟨rfl,X,hx⟩ | ⟨I,z0,z1,z2,z3⟩
  ·rw[if_neg J] at X
   subst X;refine⟨⟨N,hj,dj,.inl ⟨rfl,rfl,(w7 Z).1 hx⟩⟩,⟨O,hi,di,.inr ⟨J,fun h=>(er a3).2 (y0 h),fun h=>(er a3).2 (y1 h),fun h=>?_,fun _=>ad⟩⟩,?_⟩;·rw[if_pos rfl] at h;cases h
   ·rw[if_pos rfl,if_neg J,M]
    simp
  ·rw[if_neg J] at z2 z3
   refine⟨⟨N,hj,dj,.inr ⟨I,fun h=>(er Z).1 (z0 h),fun h=>(er Z).1 (z1 h),z2,z3⟩⟩,⟨O,hi,di,.inr ⟨J,fun h=>(er a3).2 (y0 h),fun h=>(er a3).2 (y1 h),?_,?_⟩⟩,?_⟩;·rw[if_neg I];exact y2
   ·rw[if_neg I];exact y3
   ·rw[if_neg J,if_neg I,M,if_neg J]
def eO (n:Nat) (I:dA):List (Nat×A):=(List.range n).filterMap fun t=>(I t).map fun a=>(t,a)
theorem lj (I:dA):∀ (l:List Nat) (t:Nat),look (l.filterMap fun t=>(I t).map fun a=>(t,a)) t=if t∈l then I t else none
 | [],t=>rfl
 | s::l,t=>by
   rw[List.filterMap_cons]
   cases hs:I s with
   | none=>
     simp only[Option.map_none];rw[lj I l t];by_cases e:t=s;·subst e;simp[hs]
     ·simp[e]
   | some a=>
     simp only[Option.map_some,aN];by_cases e:s=t;·subst e;simp[hs]
     ·rw[if_neg e,lj I l t]
      simp[Ne.symm e]
theorem qf (p g:List (Nat×A)) (t:Nat):look (p++g) t=match look p t with | some a=>some a | none=>look g t:=by
 induction p with
 | nil=>rfl
 | cons x p I=>
   obtain⟨s,a⟩:=x;rw[List.cons_append,aN,aN];split;·rfl
   ·exact I
theorem E6 (i:Nat) (a:A) (σ:SC) (act:Act) (w:World) (K:Act→World→Prop) {Q':Exit→Act→World→Prop} (hs:DR C n S σ act w) (hy:YC P C n S ops c i a σ) (U:∀ act w,DR C n S (xz ops c i a σ) act w→K act w):wpOp P ops Q' i K act w:=by
 obtain⟨tmps,a8⟩:=act;obtain⟨rfl,G,hs⟩:=hs;obtain⟨J,ph⟩:=σ;obtain⟨o,ho,hd,hy⟩:=hy;rw[hU ho] at U;simp only at hs hy U;unfold wpOp;simp only[ho];rcases hy with ⟨rfl,rfl,hg,p,hp,I⟩ | ⟨ai,y0,y1,y2,y3⟩
 ·simp only[Bool.false_eq_true,if_false] at hs
  have hw:Region.wanted o (yielded ops tmps)=true:=by simp[Region.wanted,hg]
  rw[hw,if_pos rfl];refine .inl ?_;have aj:∀ t x,J t=some x→t < n:=fun t x I=>by obtain⟨v,h1,_⟩:=hs.2 t x I;have:=(Array.getElem?_eq_some_iff.1 h1).1;rw[hs.1.size] at this;exact this
  have N:∀ t,look (p++eO n J) t=J t:=fun t=>by
   rw[qf]
   cases q:look p t with
   | some x=>exact(hp t x q).1.symm
   | none=>
     simp only;unfold eO;rw[lj]
     cases e:J t with
     | none=>split <;> rfl
     | some x=>rw[if_pos (List.mem_range.2 (aj t x e))]
  have a1:=hs.ky (f:=p++eO n J) fun t x I=>by rw[←N];exact I
  have h:=I (eO n J) tmps w ⟨G,a1⟩;simp only[dS,hw,if_true] at h;refine Oper.CI (fun c a w X=>?_) (fun hl=>?_) (fun Z w2 X=>?_) h
  ·obtain⟨_,st',_,he,_⟩:=X
   cases he
  ·obtain⟨_,_,X⟩:=hl
   obtain⟨_,st',_,he,_⟩:=X;cases he
  ·obtain⟨a6,st',⟨G',M⟩,_,rfl⟩:=X
   refine U Z w2 ⟨a6,G',?_⟩;simp only[if_true];show ew C n S.bx1 S.lv1 S.gen1 (bK J o.dst a) G' Z.tmps w2
   cases ad:o.dst with
   | none=>rw[ad] at M;refine⟨{ M with frame:=fun t a ha=>by simp[look] at ha },fun t x I=>M.frame t x ?_⟩;show look (p++eO n J) t=some x;rw[N];exact I
   | some d=>
     rw[ad] at M;refine⟨{ M with frame:=fun t a ha=>by simp[look] at ha },fun t x I=>M.frame t x ?_⟩;show look ((d,a)::(p++eO n J)) t=some x;rw[aN];simp only[bK] at I;by_cases e:t=d
     ·subst e
      rw[if_pos rfl] at I ⊢;exact I
     ·rw[if_neg e] at I
      rw[if_neg (Ne.symm e),N];exact I
 ·rw[if_neg ai] at U
  have key:∀ {bx:List (Nat×List A)} {lv:List Nat} {gen:Nat},ew C n bx lv gen J G tmps w→YA P C n bx lv gen ops o a J→(∀ tmps w,ew C n bx lv gen (bK J o.dst a) G tmps w→K ⟨tmps,C.ds⟩ w) →
   (if Region.wanted o (yielded ops tmps)=true then o.wp P ⟨tmps,C.ds⟩ w K Q'∨(o.asks P ⟨tmps,C.ds⟩ w∧LetsOut Q') else K (Act.put ⟨tmps,C.ds⟩ o.dst undef) w):=by
   intro bx lv gen O a7 hk;obtain⟨_,⟨hw,f,hf,hp⟩ | ⟨hw,rfl⟩⟩:=a7
   ·rw[fQ O hw]
    simp only[if_true];refine .inl ?_;have hg:cS P o ⟨tmps,[]⟩ w fun v w'=>Below w.heap.size w w'∧aC (au C G gen w') v a:=hp G tmps w (O.ky fun t x I=>(hf t x I).1);refine hg.ds.wp fun v w' ⟨hb,hr⟩=>?_;rw[Act.gn];exact hk _ _ (O.step hb hd hr)
   ·rw[fQ O hw]
    simp only[Bool.false_eq_true,if_false];rw[Act.gn];exact hk _ _ (O.step (Below.refl _ _) hd (.tup #[] [] rfl (by simp)))
  cases ph with
  | false=>simp only[Bool.false_eq_true,if_false] at hs;exact key hs (y0 (y2 rfl)) fun tmps w h=>U _ _ ⟨rfl,G,by simpa using h⟩
  | true=>simp only[if_true] at hs;exact key hs (y1 (y3 rfl)) fun tmps w h=>U _ _ ⟨rfl,G,by simpa using h⟩
def CC (P:Program) (C:Ctx) (n:Nat) (S:Ar) (ops:Array Oper) (c:Nat) (Q:St→Prop) (l:List Oper) (i:Nat) (f:List (Nat×A)) (ph:Bool):Prop:=
 zo (YC P C n S ops c) (xz ops c) (fun I=>∃ f',(∀ t,look f' t=I.1 t)∧I.2=true∧Q ⟨f',S.bx1,S.lv1,S.gen1⟩) l i (look f,ph)
def fy (m:Nat) (ops:Array Oper):Bool:=Nat.ble m ops.size && nh .any ops m && yv .any ops m && mG .any ops m 0 (Array.replicate ops.size false)
theorem W.so (T:bA P) {id:Nat} {l l1 l2:List Oper} {f:List (Nat×A)} {bx bx1:List (Nat×List A)} {lv lv1:List Nat} {gen gen1:Nat} {Q:Exit→St→Prop} (m c:Nat) (hB:fy m l.toArray=true) (h1:l.take m=l1) (h2:l.drop m=l2)
 (h:CC P C n ⟨bx,bx1,lv,lv1,gen,gen1⟩ l.toArray c (WO P C n l.toArray Q l2) l1 0 f false):W P C n (.region id l.toArray true) Q ⟨f,bx,lv,gen⟩:=by
 subst h1;subst h2;intro tmps w ⟨G,hs⟩;simp only[fy,Bool.and_eq_true] at hB;obtain⟨⟨⟨hm,hw⟩,N⟩,I⟩:=hB;have hm:m≤l.length:=by simpa using Nat.le_of_ble_eq_true hm
 have hb:Below w.heap.size w { w with drawn:=w.drawn+1 }:=(Below.refl _ w).drew;have X:ew C n bx lv gen (look f) G tmps { w with drawn:=w.drawn+1 }:=ew.zU (hs.gp hb).2;have hlen:(l.take m).length=m:=by simp;omega
 refine wp_region_any T.mixed ?_;have O:l.toArray.size=(l.take m).length+(l.drop m).length:=by simp;omega
 rw[O];have U:e7 .any l.toArray (Array.replicate ((l.take m).length+(l.drop m).length) false):=fun j oj _ hl _ _ _=>by
  by_cases q:j < (l.take m).length+(l.drop m).length
  ·simp only[Array.getD_eq_getD_getElem?,Array.getElem?_replicate] at hl
   rw[if_pos q] at hl;cases hl
  ·simp only[Array.getD_eq_getD_getElem?,Array.getElem?_replicate] at hl
   rw[if_neg q] at hl;cases hl
 refine mX (m:=m) (Sm:=DR C n ⟨bx,bx1,lv,lv1,gen,gen1⟩) (Y:=YC P C n ⟨bx,bx1,lv,lv1,gen,gen1⟩ l.toArray c) (ef:=xz l.toArray c) (Q:=fun J=>∃ f',(∀ t,look f' t=J.1 t)∧J.2=true∧WO P C n l.toArray Q (l.drop m) ⟨f',bx1,lv1,gen1⟩)
  (fun i e J act w K hs hy hk=>E6 i e J act w K hs hy hk) (fun listed J act w hs hc M ⟨f',e1,e2,hq⟩=>?_) _ _ (look f,false) ⟨tmps,C.ds⟩ _ ⟨rfl,G,by simpa using X⟩ U ?_
 ·obtain⟨tmps,a1⟩:=act
  obtain⟨rfl,G,hs⟩:=hs;rw[e2] at hs;simp only[if_true] at hs;refine lT hw (mN N) (l.drop m) m listed ⟨tmps,C.ds⟩ w (Nat.le_refl _) (by simp;omega) (fun j=>by simp[List.getElem?_drop]) hc M.1 M.2.1 M.2.2 ?_;exact hq tmps w ⟨G,hs.ky (fun t a ha=>by rw[←e1];exact ha)⟩
 ·refine xb hw (fun i j oi oj hi hj Z a6 a7 ad ai=>FB hi hj Z ad ai) (l.take m) 0 _ _ (by rw[hlen];omega) (fun j hj=>?_) U (by simp;omega) (fun j hj=>by omega) (fun j _ hj=>?_) (by rw[hlen];rw[O,hlen] at I;exact I) h
  ·rw[hlen] at hj
   rw[Nat.zero_add];simp[List.getElem?_take,hj]
  ·have aj:j < l.length:=by simpa using hj
   have e:min m l.length+(l.length - m)=l.length:=by omega
   simp[e,aj]
variable {op:Op} {ty:TypeId} {pos:String} {af:Array Edge} {a:A} {d i:Nat} {rest:List Oper} {f:List (Nat×A)} {Q:St→Prop} {o:Oper} {ph:Bool}
theorem CC.FW (h:Q ⟨f,S.bx1,S.lv1,S.gen1⟩):CC P C n S ops c Q [] i f true:=⟨f,fun _=>rfl,rfl,h⟩
theorem YA.rP {bx:List (Nat×List A)} {lv:List Nat} {gen:Nat} (hp:Pu P C n ⟨ck f (slotsOf op),bx,lv,gen⟩ ⟨some d,op,ty,pos,af,none⟩ a) (hd:Nat.blt d n=true):YA P C n bx lv gen ops ⟨some d,op,ty,pos,af,none⟩ a (look f):=
 ⟨hd,.inl ⟨rfl,_,fun t x I=>by obtain⟨h1,h2⟩:=dI I;exact⟨h1,List.mem_append.2 (.inl h2)⟩,hp⟩⟩
theorem Fg (h1:Pu P C n ⟨ck f (slotsOf op),S.bx1,S.lv1,S.gen1⟩ ⟨some d,op,ty,pos,af,none⟩ a) (h0:Pu P C n ⟨ck f (slotsOf op),S.bx0,S.lv0,S.gen0⟩ ⟨some d,op,ty,pos,af,none⟩ a)
 (hi:ops[i]? = some ⟨some d,op,ty,pos,af,none⟩) (J:Nat.beq i c=false) (M:cu .any ops i c=false) (b1:cu .any ops c i=false) (hd:Nat.blt d n=true)
 (h:CC P C n S ops c Q rest (i+1) ((d,a)::f) ph):CC P C n S ops c Q (⟨some d,op,ty,pos,af,none⟩::rest) i f ph:=by
 have I:i≠c:=fun e=>by subst e;simp at J
 refine⟨a,⟨_,hi,hd,.inr ⟨I,fun _=>YA.rP h0 hd,fun _=>YA.rP h1 hd,fun _=>M,fun _=>b1⟩⟩,?_⟩;rw[hU hi];simp only[if_neg I];unfold CC at h;rw[dW] at h;exact h
theorem DL (h0:Pu P C n ⟨ck f (slotsOf op),S.bx0,S.lv0,S.gen0⟩ ⟨some d,op,ty,pos,af,none⟩ a)
 (hi:ops[i]? = some ⟨some d,op,ty,pos,af,none⟩) (J:Nat.beq i c=false) (M:cu .any ops i c=false) (b1:cu .any ops c i=true) (hd:Nat.blt d n=true)
 (h:CC P C n S ops c Q rest (i+1) ((d,a)::f) false):CC P C n S ops c Q (⟨some d,op,ty,pos,af,none⟩::rest) i f false:=by
 have I:i≠c:=fun e=>by subst e;simp at J
 refine⟨a,⟨_,hi,hd,.inr ⟨I,fun _=>YA.rP h0 hd,(fun h=>by rw[b1] at h;cases h),fun _=>M,fun h=>by cases h⟩⟩,?_⟩;rw[hU hi];simp only[if_neg I];unfold CC at h;rw[dW] at h;exact h
theorem E8 (h1:Pu P C n ⟨ck f (slotsOf op),S.bx1,S.lv1,S.gen1⟩ ⟨some d,op,ty,pos,af,none⟩ a)
 (hi:ops[i]? = some ⟨some d,op,ty,pos,af,none⟩) (J:Nat.beq i c=false) (M:cu .any ops i c=true) (b1:cu .any ops c i=false) (hd:Nat.blt d n=true)
 (h:CC P C n S ops c Q rest (i+1) ((d,a)::f) true):CC P C n S ops c Q (⟨some d,op,ty,pos,af,none⟩::rest) i f true:=by
 have I:i≠c:=fun e=>by subst e;simp at J
 refine⟨a,⟨_,hi,hd,.inr ⟨I,(fun h=>by rw[M] at h;cases h),fun _=>YA.rP h1 hd,(fun h=>by cases h),fun _=>b1⟩⟩,?_⟩;rw[hU hi];simp only[if_neg I];unfold CC at h;rw[dW] at h;exact h
theorem FY (J:∀ g,WO P C n ops (fun e st=>e=.normal∧st=⟨(d,a)::(ck f (slotsOf op)++g),S.bx1,S.lv1,S.gen1⟩) [⟨some d,op,ty,pos,af,none⟩] ⟨ck f (slotsOf op)++g,S.bx0,S.lv0,S.gen0⟩)
 (hi:ops[i]? = some ⟨some d,op,ty,pos,af,none⟩) (M:Nat.beq i c=true) (hd:Nat.blt d n=true) (h:CC P C n S ops c Q rest (i+1) ((d,a)::f) true):CC P C n S ops c Q (⟨some d,op,ty,pos,af,none⟩::rest) i f false:=by
 have I:i=c:=Nat.eq_of_beq_eq_true M;refine⟨a,⟨_,hi,hd,.inl ⟨I,rfl,rfl,ck f (slotsOf op),fun t x J=>?_,fun g=>J g⟩⟩,?_⟩
 ·obtain⟨h1,h2⟩:=dI J
  exact⟨h1,List.mem_append.2 (.inl h2)⟩
 ·rw[hU hi]
  simp only[if_pos I];unfold CC at h;rw[dW] at h;exact h
variable {bx0 bx1:List (Nat×List A)} {lv0 lv1:List Nat} {gen0 gen1:Nat}
theorem CC.nil (h:Q ⟨f,bx1,lv1,gen1⟩):CC P C n ⟨bx0,bx1,lv0,lv1,gen0,gen1⟩ ops c Q [] i f true:=
 CC.FW (S:=⟨bx0,bx1,lv0,lv1,gen0,gen1⟩) h
theorem jl (h1:Pu P C n ⟨ck f (slotsOf op),bx1,lv1,gen1⟩ ⟨some d,op,ty,pos,af,none⟩ a) (h0:Pu P C n ⟨ck f (slotsOf op),bx0,lv0,gen0⟩ ⟨some d,op,ty,pos,af,none⟩ a)
 (hi:ops[i]? = some ⟨some d,op,ty,pos,af,none⟩) (I:Nat.beq i c=false) (J:cu .any ops i c=false) (b1:cu .any ops c i=false) (hd:Nat.blt d n=true)
 (h:CC P C n ⟨bx0,bx1,lv0,lv1,gen0,gen1⟩ ops c Q rest (i+1) ((d,a)::f) ph):CC P C n ⟨bx0,bx1,lv0,lv1,gen0,gen1⟩ ops c Q (⟨some d,op,ty,pos,af,none⟩::rest) i f ph:=
 Fg (S:=⟨bx0,bx1,lv0,lv1,gen0,gen1⟩) h1 h0 hi I J b1 hd h
theorem po (h0:Pu P C n ⟨ck f (slotsOf op),bx0,lv0,gen0⟩ ⟨some d,op,ty,pos,af,none⟩ a)
 (hi:ops[i]? = some ⟨some d,op,ty,pos,af,none⟩) (I:Nat.beq i c=false) (J:cu .any ops i c=false) (b1:cu .any ops c i=true) (hd:Nat.blt d n=true)
 (h:CC P C n ⟨bx0,bx1,lv0,lv1,gen0,gen1⟩ ops c Q rest (i+1) ((d,a)::f) false):CC P C n ⟨bx0,bx1,lv0,lv1,gen0,gen1⟩ ops c Q (⟨some d,op,ty,pos,af,none⟩::rest) i f false:=
 DL (S:=⟨bx0,bx1,lv0,lv1,gen0,gen1⟩) h0 hi I J b1 hd h
theorem Fa (h1:Pu P C n ⟨ck f (slotsOf op),bx1,lv1,gen1⟩ ⟨some d,op,ty,pos,af,none⟩ a)
 (hi:ops[i]? = some ⟨some d,op,ty,pos,af,none⟩) (I:Nat.beq i c=false) (J:cu .any ops i c=true) (b1:cu .any ops c i=false) (hd:Nat.blt d n=true)
 (h:CC P C n ⟨bx0,bx1,lv0,lv1,gen0,gen1⟩ ops c Q rest (i+1) ((d,a)::f) true):CC P C n ⟨bx0,bx1,lv0,lv1,gen0,gen1⟩ ops c Q (⟨some d,op,ty,pos,af,none⟩::rest) i f true:=
 E8 (S:=⟨bx0,bx1,lv0,lv1,gen0,gen1⟩) h1 hi I J b1 hd h
theorem DM (I:∀ g,WO P C n ops (fun e st=>e=.normal∧st=⟨(d,a)::(ck f (slotsOf op)++g),bx1,lv1,gen1⟩) [⟨some d,op,ty,pos,af,none⟩] ⟨ck f (slotsOf op)++g,bx0,lv0,gen0⟩)
 (hi:ops[i]? = some ⟨some d,op,ty,pos,af,none⟩) (J:Nat.beq i c=true) (hd:Nat.blt d n=true) (h:CC P C n ⟨bx0,bx1,lv0,lv1,gen0,gen1⟩ ops c Q rest (i+1) ((d,a)::f) true):CC P C n ⟨bx0,bx1,lv0,lv1,gen0,gen1⟩ ops c Q (⟨some d,op,ty,pos,af,none⟩::rest) i f false:=
 FY (S:=⟨bx0,bx1,lv0,lv1,gen0,gen1⟩) I hi J hd h
end
end Go.Ab
namespace Go.Ab
open Go.RowKit
/-! ### whatever the states are: with paths in place of edges -/
section
variable {P:Program} {ops:Array Oper} {md:Region.Mode} {m:Nat} {S E:Type} {Y:Nat→E→S→Prop} {ef:Nat→E→S→S}
def loose (md:Region.Mode) (ops:Array Oper) (i j:Nat):Prop:=cU md ops ops.size i j=false∧cU md ops ops.size j i=false
theorem yk {j i:Nat} {I:Oper} {e:Edge} (hj:ops[j]? = some I) (he:e∈I.after) (hb:Region.binds md e=true) (h:e.on=i):cu md ops j i=true:=by unfold cu;rw[hj];exact List.any_eq_true.2 ⟨e,by simpa using he,by simp[hb,h]⟩
theorem uy {j i:Nat} (h:cU md ops ops.size j i=false) (hj:j < ops.size):cu md ops j i=false:=by
 cases q:ops.size with
 | zero=>omega
 | succ k=>rw[q] at h;simp only[cU,Bool.or_eq_false_iff] at h;exact h.1
theorem pC {i j:Nat} {listed:Array Bool} (N:e7 md ops listed) (hi:i∈Region.ready md ops listed) (hj:listed.getD j true=false):cU md ops ops.size i j=false:=by
 obtain⟨_,O,J,I⟩:=mem_ready.1 hi
 cases q:cU md ops ops.size i j with
 | false=>rfl
 | true=>
   have:=kV N _ i j q fun o M e he hb=>by rw[J] at M;cases M;exact I e he hb
   rw[et hj] at this;cases this
theorem yg {Q:S→Prop} {i:Nat} {oi:Oper} {e:E} (hw:nh md ops m=true) (ch:i < m) (hi:ops[i]? = some oi) :
 ∀ (fuel:Nat) (listed:Array Bool) (M:S),e7 md ops listed →
   (∀ j oj,ops[j]? = some oj→j≠i→j < m→listed.getD j true=false→cU md ops ops.size j i=false→oI Y ef i j) →
   i∈Region.ready md ops listed→Y i e M→sT Y ef m md ops Q fuel (listed.setIfInBounds i true) (ef i e M)→sT Y ef m md ops Q (fuel+1) listed M:=by
 have ad:∀ {listed:Array Bool},i∈Region.ready md ops listed→listed.getD i false=false:=fun I=>et (mem_ready.1 I).1;intro fuel
 induction fuel with
 | zero=>
   intro listed M N _ I Z H;refine⟨fun h=>(by rw[h] at I;cases I),fun j hj=>?_⟩;by_cases hji:j=i;·subst hji;exact⟨e,Z,H⟩
   ·exfalso
    obtain⟨⟨_,h1,h2⟩,_⟩:=H;have a1:=(mem_ready.1 hj).1;by_cases O:j < m
    ·have:=h1 j O
     rw[getD_set_ne false (Ne.symm hji)] at this;rw[et a1] at this;cases this
    ·have:=oh hw (by omega) (show i < j by omega) N hj
     rw[ad I] at this;cases this
 | succ fuel ih=>
   intro listed M N J I Z H;refine⟨fun h=>(by rw[h] at I;cases I),fun j hj=>?_⟩;by_cases hji:j=i;·subst hji;exact⟨e,Z,H⟩
   ·obtain⟨e',a6,H'⟩:=H.2 j (ready_mono hj hji)
    obtain⟨U,oj,a7,b3⟩:=mem_ready.1 hj;have aj:cU md ops ops.size j i=false:=pC N hj (mem_ready.1 I).1;have O:j < m:=by
     rcases Nat.lt_or_ge j m with h | h
     ·exact h
     ·have:=oh hw h (show i < j by omega) N hj
      rw[ad I] at this;cases this
    obtain⟨s1,s2,s3⟩:=J j oj a7 hji O U aj e e' M Z a6;have X:∀ k ok,ops[k]? = some ok→k≠i→k < m→(listed.setIfInBounds j true).getD k true=false→cU md ops ops.size k i=false→oI Y ef i k:=fun k ok hk a8 b0 ai b2=>by
     refine J k ok hk a8 b0 ?_ b2;by_cases hjk:j=k;·subst hjk;exact U
     ·rw[getD_set_ne true hjk] at ai;exact ai
    refine⟨e',s1,ih (listed.setIfInBounds j true) _ (N.add hj) X (ready_mono I (Ne.symm hji)) s2 ?_⟩;rw[Array.setIfInBounds_comm _ _ hji,←s3];exact H'
theorem vb {Q:S→Prop} (hw:nh md ops m=true)
 (U:∀ i j oi J,ops[i]? = some oi→ops[j]? = some J→i≠j→i < m→j < m→oi.apart ops J=true→loose md ops i j→oI Y ef i j) :
 ∀ (l:List Oper) (k:Nat) (listed:Array Bool) (M:S),k+l.length=m→(∀ j,j < l.length→l[j]? = ops[k+j]?)→e7 md ops listed →
 listed.size=ops.size→(∀ j,j < k→listed.getD j false=true)→(∀ j,k≤j→j < ops.size→listed.getD j true=false) →
 mG md ops l.length k listed=true→zo Y ef Q l k M→sT Y ef m md ops Q l.length listed M
 | [],k,listed,M,hk,_,_,hs,h1,h2,_,h=>⟨⟨hs,fun j hj=>h1 j (by simp at hk;omega),fun j hj N=>h2 j (by simp at hk;omega) N⟩,h⟩
 | o::l,k,listed,M,hk,hl,hc,hs,h1,h2,hB,h=>by
   have h0:ops[k]? = some o:=by simpa using (hl 0 (by simp)).symm
   have aj:k < ops.size:=(Array.getElem?_eq_some_iff.1 h0).1;simp only[List.length_cons,mG,Bool.and_eq_true] at hB;obtain⟨⟨hr,hf⟩,a1⟩:=hB;have O:k∈Region.ready md ops listed:=by simpa using hr
   obtain⟨e,hy,hK⟩:=h;have X:k < m:=by simp at hk;omega
   refine yg hw X h0 l.length listed M hc (fun j J I Z a6 ad ai=>U k j o J h0 I (Ne.symm Z) X a6 (Region.free_spec h0 hf j J I Z ad fun e he hb heq=>?_) ⟨pC hc O ad,ai⟩) O hy
    (vb hw U l (k+1) _ _ (by simp at hk;omega) (fun j hj=>by have:=hl (j+1) (by simpa using hj);simpa [Nat.add_assoc,Nat.add_comm 1 j] using this) (hc.add O) (by simpa using hs) (fun j hj=>?_) (fun j hj N=>?_) a1 hK)
   ·have h3:=uy ai (Array.getElem?_eq_some_iff.1 I).1
    rw[yk I he hb heq] at h3;cases h3
   ·rcases Nat.lt_succ_iff_lt_or_eq.1 hj with a7 | rfl
    ·exact getD_set_true (h1 j a7)
    ·simp[hs,aj]
   ·rw[getD_set_ne true (by omega)]
    exact h2 j (by omega) N
end
/-! ### what a renumbering leaves as it is -/
mutual
theorem sy {o o':List Nat} (h:∀ g,pos o g=some g→pos o' g=some g):∀ a,bE o a=a→bE o' a=a
 | .own g es,e=>by
   simp only[bE] at e ⊢
   cases q:pos o g with
   | none=>rw[q] at e;cases e
   | some i=>rw[q] at e;simp only[A.own.injEq,and_true] at e;subst e;rw[h _ q]
 | .ptr g off,e=>by
   simp only[bE] at e ⊢
   cases q:pos o g with
   | none=>rw[q] at e;cases e
   | some i=>rw[q] at e;simp only[A.ptr.injEq,and_true] at e;subst e;rw[h _ q]
 | .xs g es,e=>by
   simp only[bE] at e ⊢
   cases q:pos o g with
   | none=>rw[q] at e;cases e
   | some i=>rw[q] at e;simp only[A.xs.injEq,and_true] at e;subst e;rw[h _ q]
 | .xp g i off l,e=>by
   simp only[bE] at e ⊢
   cases q:pos o g with
   | none=>rw[q] at e;cases e
   | some j=>rw[q] at e;simp only[A.xp.injEq,and_true] at e;subst e;rw[h _ q]
 | .mp g es,e=>by
   simp only[bE] at e ⊢
   cases q:pos o g with
   | none=>rw[q] at e;cases e
   | some i=>rw[q] at e;simp only[A.mp.injEq,and_true] at e;subst e;rw[h _ q]
 | .mq g es,e=>by
   simp only[bE] at e ⊢
   cases q:pos o g with
   | none=>rw[q] at e;cases e
   | some i=>rw[q] at e;simp only[A.mq.injEq,and_true] at e;subst e;rw[h _ q]
 | .mo g es hole I,e=>by
   simp only[bE] at e ⊢
   cases q:pos o g with
   | none=>rw[q] at e;cases e
   | some i=>rw[q] at e;simp only[A.mo.injEq,and_true] at e;subst e;rw[h _ q]
 | .lk g n c v,e=>by
   simp only[bE] at e ⊢
   cases q:pos o g with
   | none=>rw[q] at e;cases e
   | some i=>rw[q] at e;simp only[A.lk.injEq,and_true] at e;subst e;rw[h _ q]
 | .ow g es v,e=>by
   simp only[bE] at e ⊢
   cases q:pos o g with
   | none=>rw[q] at e;cases e
   | some i=>rw[q] at e;simp only[A.ow.injEq,and_true] at e;subst e;rw[h _ q]
 | .sb g n c,e=>by
   simp only[bE] at e ⊢
   cases q:pos o g with
   | none=>rw[q] at e;cases e
   | some i=>rw[q] at e;simp only[A.sb.injEq,and_true] at e;subst e;rw[h _ q]
 | .np g T u,e=>by
   simp only[bE] at e ⊢
   cases q:pos o g with
   | none=>rw[q] at e;cases e
   | some i=>rw[q] at e;simp only[A.np.injEq,and_true] at e;subst e;rw[h _ q]
 | .bf g T s,e=>by
   simp only[bE] at e ⊢
   cases q:pos o g with
   | none=>rw[q] at e;cases e
   | some i=>rw[q] at e;simp only[A.bf.injEq,and_true] at e;subst e;rw[h _ q]
 | .agg l,e=>by simp only[bE,A.agg.injEq] at e ⊢;exact jo h l e
 | .tup l,e=>by simp only[bE,A.tup.injEq] at e ⊢;exact jo h l e
 | .row l,e=>by simp only[bE,A.row.injEq] at e ⊢;exact jo h l e
 | .clo f l,e=>by simp only[bE,A.clo.injEq,true_and] at e ⊢;exact jo h l e
 | .bnd f l,e=>by simp only[bE,A.bnd.injEq,true_and] at e ⊢;exact jo h l e
 | .d _,_=>rfl
 | .ag _,_=>rfl
 | .rowd _,_=>rfl
 | .ni,_=>rfl
 | .fl _,_=>rfl
 | .any,_=>rfl
theorem jo {o o':List Nat} (h:∀ g,pos o g=some g→pos o' g=some g):∀ l,fm o l=l→fm o' l=l
 | [],_=>rfl
 | a::l,e=>by simp only[fm,List.cons.injEq] at e ⊢;exact⟨sy h a e.1,jo h l e.2⟩
end
def yR (o o':List Nat):Bool:=(List.range o.length).all fun g=>!(pos o g == some g) || pos o' g == some g
theorem ya {o o':List Nat} (h:yR o o'=true) (g:Nat) (I:pos o g=some g):pos o' g=some g:=by have J:=(List.getElem?_eq_some_iff.1 (cg I)).1;have:=List.all_eq_true.1 h g (List.mem_range.2 J);simp only[I,beq_self_eq_true,Bool.not_true,Bool.false_or,beq_iff_eq] at this;exact this
end Go.Ab
namespace Go.Ab
open Go.RowKit
def sw:D→D
 | .v x=>bif isNil (.d (.v x)) then .sl [] else .v x
 | .sl es=>.sl es
theorem aI.sw {w:World} {pv:Nat→Nat→Prop} {v:Value} {d:D} (h:aI w pv v d):aI w pv v (Ab.sw d):=by
 cases d with
 | v x=>exact h.lL
 | sl es=>exact h
def oK:A→A
 | .d x=>.d (sw x)
 | .ag l=>.ag (l.map sw)
 | a=>a
theorem aC.oK {E:En} {v:Value} {a:A} (h:aC E v a):aC E v (Ab.oK a):=by
 cases a with
 | d x=>cases h with | d hd=>exact .d hd.sw
 | ag l=>
   cases h with
   | ag vs _ hs hd=>refine .ag vs _ (by simpa using hs) (fun i u x hu I=>?_);rw[List.getElem?_map,Option.map_eq_some_iff] at I;obtain⟨y,J,rfl⟩:=I;exact(hd i u y hu J).sw
 | _=>exact h
section
variable {P:Program} {C:Ctx} {n:Nat} {ops:Array Oper} {Q:Exit→St→Prop} {f:List (Nat×A)} {bx:List (Nat×List A)} {lv:List Nat} {gen:Nat}
end
end Go.Ab
namespace Go.Ab
open Go.RowKit
structure gX where
 bxF:Nat→List (Nat×List A)
 bxT:Nat→List (Nat×List A)
 lv:Nat→List Nat
 gen:Nat→Nat
 ord:Nat→List Nat
 g0:Nat
 z:List A
 cs:List Nat
 al:Nat
 R:List PanicEntry→Prop
def gX.bx (S:gX) (k:Nat) (b:Bool):List (Nat×List A):=bif b then S.bxT k else S.bxF k
abbrev Aw (dO:List (List (Nat×List A))) (lvs:List (List Nat)) (gens:List Nat) (cs:List Nat) (al:Nat):gX:=⟨fun _=>[],fun k=>dO.getD k [],fun k=>lvs.getD k [],fun k=>gens.getD k 0,fun _=>[],0,[],cs,al,fun _=>False⟩
abbrev yM (dO:List (List (Nat×List A))) (lvs:List (List Nat)) (gens:List Nat) (cs:List Nat) (al:Nat) (v:Value):gX:=⟨fun _=>[],fun k=>dO.getD k [],fun k=>lvs.getD k [],fun k=>gens.getD k 0,fun _=>[],0,[],cs,al,fun c=>c=[{ v:=v,recovered:=false }]⟩
def fB (S:gX) (ops:Array Oper) (i k:Nat) (b:Bool):Bool:=
 ((List.range S.cs.length).all fun j=>bif Nat.blt j k then !cU .any ops ops.size (S.cs.getD j 0) i else !cU .any ops ops.size i (S.cs.getD j 0)) &&
 (bif b then !cU .any ops ops.size S.al i else (Nat.blt S.al ops.size && !cU .any ops ops.size i S.al))
theorem Pu.oK {P:Program} {C:Ctx} {n:Nat} {st:St} {o:Oper} {a a':A} (h:Pu P C n st o a) (e:Ab.oK a=a'):Pu P C n st o a':=fun G tmps w hs=>by subst e;exact(h G tmps w hs).mono fun v w' ⟨h1,h2⟩=>⟨h1,h2.oK⟩
theorem ab {S:gX} {ops:Array Oper} {i k:Nat} {b:Bool} (h:fB S ops i k b=true) (I:fB S ops i k b=false):False:=by rw[h] at I;cases I
section
variable {P:Program} (T:bA P) {C:Ctx} {n:Nat} (S:gX) {ops:Array Oper}
abbrev SD:=dA×Nat×Bool
def ET (C:Ctx) (n:Nat) (S:gX) (J:Bool) (I:SD) (act:Act) (w:World):Prop:=
 (J=true→I.2.2=true)∧act.defers=C.ds∧∃ G,ew C n (S.bx I.2.1 I.2.2) (S.lv I.2.1) (S.gen I.2.1) I.1 G act.tmps w∧(I.2.2=false→∀ t a,I.1 t=some a→bE (S.ord I.2.1) a=a)
def DO (P:Program) (C:Ctx) (n:Nat) (S:gX) (ops:Array Oper) (o:Oper) (a:A) (k:Nat) (b:Bool) (I:dA):Prop:=
 o.guard=none∧∃ p,(∀ t x,look p t=some x→I t=some x∧t∈o.looksAt ops) ∧
  ∀ g,WO P C n ops (fun e st=>(e=.normal∧st=St.put ⟨p++g,S.bx (k+1) b,S.lv (k+1),S.gen (k+1)⟩ o.dst a)∨∃ c,e=.panic c∧S.R c) [o] ⟨p++g,S.bx k b,S.lv k,S.gen k⟩
def YD (P:Program) (T:bA P) (C:Ctx) (n:Nat) (S:gX) (ops:Array Oper) (i:Nat) (a:A) (I:SD):Prop:=
 ∃ o,ops[i]? = some o∧eM n o.dst=true∧I.2.1≤S.cs.length∧fB S ops i I.2.1 I.2.2=true ∧
   ((S.cs[I.2.1]? = some i∧i≠S.al∧(∀ b,fB S ops i I.2.1 b=true→DO P C n S ops o a I.2.1 b I.1)∧(fB S ops i I.2.1 false=true→bE (S.ord (I.2.1+1)) a=a)) ∨
    (i∉S.cs∧i=S.al∧I.2.2=false∧o.guard=none∧a=.ptr S.g0 0∧∃ e d J,o.op=.alloc e∧o.dst=some d∧ae T.l e=some J∧S.z=J.z.map fun v=>A.d (.v v)) ∨
    (i∉S.cs∧i≠S.al∧∀ k b,k≤S.cs.length→fB S ops i k b=true→YA P C n (S.bx k b) (S.lv k) (S.gen k) ops o a I.1∧(b=false→bE (S.ord k) a=a)))
def wX (S:gX) (ops:Array Oper) (i:Nat) (a:A) (I:SD):SD:=
 match ops[i]? with
 | none=>I
 | some o=>(bK I.1 o.dst a,(if S.cs[I.2.1]? = some i then I.2.1+1 else I.2.1),if i=S.al then true else I.2.2)
variable {T} {S}
theorem pw {o:Oper} {a:A} {k:Nat} {b:Bool} {J:dA} {dst:Option Nat} {x:A} (hd:∀ d,dst=some d→d∉o.looksAt ops):DO P C n S ops o a k b (bK J dst x)↔DO P C n S ops o a k b J:=by
 constructor
 ·rintro⟨h0,p,h1,h2⟩
  exact⟨h0,p,fun t y I=>⟨(fC hd (h1 t y I).2).symm.trans (h1 t y I).1,(h1 t y I).2⟩,h2⟩
 ·rintro⟨h0,p,h1,h2⟩
  exact⟨h0,p,fun t y I=>⟨(fC hd (h1 t y I).2).trans (h1 t y I).1,(h1 t y I).2⟩,h2⟩
theorem uY {i k c:Nat} {b:Bool} (h:S.cs[k]? = some c) (hl:loose .any ops i c):fB S ops i (k+1) b=fB S ops i k b:=by
 unfold fB;congr 1;rw[Bool.eq_iff_iff,List.all_eq_true,List.all_eq_true];have I:S.cs.getD k 0=c:=by simp[List.getD_eq_getElem?_getD,h]
 have key:∀ j,(bif Nat.blt j (k+1) then !cU .any ops ops.size (S.cs.getD j 0) i else !cU .any ops ops.size i (S.cs.getD j 0))=(bif Nat.blt j k then !cU .any ops ops.size (S.cs.getD j 0) i else !cU .any ops ops.size i (S.cs.getD j 0)):=fun j=>by
  rcases Nat.lt_trichotomy j k with hj | rfl | hj
  ·have h1:Nat.blt j (k+1)=true:=by simp[Nat.blt_eq];omega
   have h2:Nat.blt j k=true:=by simp[Nat.blt_eq];omega
   rw[h1,h2]
  ·have h1:Nat.blt j (j+1)=true:=by simp[Nat.blt_eq]
   have h2:Nat.blt j j=false:=by cases q:Nat.blt j j with | false=>rfl | true=>simp[Nat.blt_eq] at q
   rw[h1,h2,I,hl.1,hl.2];rfl
  ·have h1:Nat.blt j (k+1)=false:=by cases q:Nat.blt j (k+1) with | false=>rfl | true=>simp[Nat.blt_eq] at q;omega
   have h2:Nat.blt j k=false:=by cases q:Nat.blt j k with | false=>rfl | true=>simp[Nat.blt_eq] at q;omega
   rw[h1,h2]
 exact⟨fun h j hj=>by rw[←key];exact h j hj,fun h j hj=>by rw[key];exact h j hj⟩
theorem ru {i k:Nat} (I:S.al < ops.size) (hl:loose .any ops i S.al):fB S ops i k true=fB S ops i k false:=by
 unfold fB;have h:Nat.blt S.al ops.size=true:=by rw[Nat.blt_eq];exact I
 rw[hl.1,hl.2,h];rfl
theorem loose.symm {md:Region.Mode} {i j:Nat} (h:loose md ops i j):loose md ops j i:=⟨h.2,h.1⟩
theorem ib {i:Nat} {o:Oper} (h:ops[i]? = some o) (a:A) (I:SD):wX S ops i a I=(bK I.1 o.dst a,(if S.cs[I.2.1]? = some i then I.2.1+1 else I.2.1),if i=S.al then true else I.2.2):=by unfold wX;rw[h]
theorem vn {i k c:Nat} {b:Bool} (h:S.cs[k]? = some c) (hl:loose .any ops i c) (I:fB S ops i (k+1) b=true):fB S ops i k b=true:=by rw[←uY h hl];exact I
theorem vV {i k c:Nat} {b:Bool} (h:S.cs[k]? = some c) (hl:loose .any ops i c) (I:fB S ops i k b=true):fB S ops i (k+1) b=true:=by rw[uY h hl];exact I
theorem Fz (c1:∀ k c c',S.cs[k]? = some c→S.cs[k+1]? = some c'→cU .any ops ops.size c' c=true) {i j:Nat} {oi oj:Oper} (hi:ops[i]? = some oi) (hj:ops[j]? = some oj) (c6:i≠j) (c7:oi.apart ops oj=true) (hl:loose .any ops i j) :
 oI (YD P T C n S ops) (wX S ops) i j:=by
 obtain⟨a1,a2,a3⟩:=Oper.apart_spec c7;rintro a b ⟨φ,k,ph⟩ ⟨df,b3,di,X,ai,ch⟩ ⟨dt,cl,dj,a8,aj,ad⟩;rw[hi] at b3;cases b3;rw[hj] at cl;cases cl;have O:bK (bK φ oi.dst a) oj.dst b=bK (bK φ oj.dst b) oi.dst a:=lF φ a b a2;have mem_of:∀ {k c:Nat},S.cs[k]? = some c→c∈S.cs:=fun h=>List.mem_of_getElem? h;have cq:∀ {k c:Nat},S.cs[k]? = some c→k+1≤S.cs.length:=fun h=>(List.getElem?_eq_some_iff.1 h).1;rw[ib hi] at aj ad a8;simp only[ib hi,ib hj];simp only at X ai ch a8 aj ad;rcases ch with ⟨ci,M,xi,fi⟩ | ⟨U,a6,rfl,gi,ei,cx⟩ | ⟨U,M,yi⟩
 ·
  simp only[if_pos ci,if_neg M] at aj ad a8;rcases ad with ⟨Z,_⟩ | ⟨J,N,rfl,gj,ej,b0⟩ | ⟨J,I,yj⟩
  ·exact absurd (c1 k i j ci Z) (by rw[hl.2];simp)
  ·have b2:loose .any ops i S.al:=by rw[←N];exact hl
   have a7:S.al < ops.size:=by rw[←N];exact(Array.getElem?_eq_some_iff.1 hj).1
   have n1:¬ S.cs[k]? = some j:=fun h=>J (mem_of h);refine⟨⟨oj,hj,dj,X,vn ci hl.symm aj,.inr (.inl ⟨J,N,rfl,gj,ej,b0⟩)⟩,?_,?_⟩
   ·refine⟨oi,hi,di,?_,?_,.inl ⟨?_,M,fun b hb=>(pw a3).2 ?_,?_⟩⟩
    all_goals simp only[if_neg n1]
    ·exact X
    ·rw[if_pos N,ru a7 b2];exact ai
    ·exact ci
    ·simp only[if_neg n1] at hb
     exact xi b hb
    ·exact fi
   ·simp only[if_pos ci,if_neg M,if_pos N,if_neg n1,O]
    have n2:¬ S.cs[k+1]? = some j:=fun h=>J (mem_of h);rw[if_neg n2]
  ·have n1:¬ S.cs[k]? = some j:=fun h=>J (mem_of h)
   have n2:¬ S.cs[k+1]? = some j:=fun h=>J (mem_of h);refine⟨⟨oj,hj,dj,X,vn ci hl.symm aj,.inr (.inr ⟨J,I,fun k b h1 h2=>⟨(er a1).1 (yj k b h1 h2).1,(yj k b h1 h2).2⟩⟩)⟩,?_,?_⟩
   ·refine⟨oi,hi,di,?_,?_,.inl ⟨?_,M,fun b hb=>(pw a3).2 ?_,?_⟩⟩
    all_goals simp only[if_neg n1]
    ·exact X
    ·rw[if_neg I];exact ai
    ·exact ci
    ·simp only[if_neg n1] at hb
     exact xi b hb
    ·exact fi
   ·simp only[if_pos ci,if_neg M,if_neg I,if_neg n1,if_neg n2,O]
 ·
  have n1:¬ S.cs[k]? = some i:=fun h=>U (mem_of h);simp only[if_neg n1,if_pos a6] at aj ad a8;have cy:loose .any ops j S.al:=by rw[←a6];exact hl.symm
  have a7:S.al < ops.size:=by rw[←a6];exact(Array.getElem?_eq_some_iff.1 hi).1
  rcases ad with ⟨Z,I,xj,fj⟩ | ⟨_,N,h,_⟩ | ⟨J,I,yj⟩
  ·have n2:¬ S.cs[k+1]? = some i:=fun h=>U (mem_of h)
   refine⟨⟨oj,hj,dj,X,by rw[←ru a7 cy];exact aj,.inl ⟨Z,I,fun b hb=>(pw a1).1 (xj b hb),fj⟩⟩,?_,?_⟩
   ·refine⟨oi,hi,di,?_,?_,.inr (.inl ⟨U,a6,?_,gi,ei,cx⟩)⟩
    all_goals simp only[if_pos Z,if_neg I]
    ·exact cq Z
    ·exact vV Z hl ai
   ·simp only[if_neg n1,if_pos a6,if_pos Z,if_neg I,if_neg n2,O]
  ·exact absurd (a6.trans N.symm) c6
  ·have n3:¬ S.cs[k]? = some j:=fun h=>J (mem_of h)
   refine⟨⟨oj,hj,dj,X,by rw[←ru a7 cy];exact aj,.inr (.inr ⟨J,I,fun k b h1 h2=>⟨(er a1).1 (yj k b h1 h2).1,(yj k b h1 h2).2⟩⟩)⟩,?_,?_⟩
   ·refine⟨oi,hi,di,?_,?_,.inr (.inl ⟨U,a6,?_,gi,ei,cx⟩)⟩
    all_goals simp only[if_neg n3,if_neg I]
    ·exact X
    ·exact ai
   ·simp only[if_neg n1,if_pos a6,if_neg n3,if_neg I,O]
 ·
  have n1:¬ S.cs[k]? = some i:=fun h=>U (mem_of h);simp only[if_neg n1,if_neg M] at aj ad a8;rcases ad with ⟨Z,I,xj,fj⟩ | ⟨J,N,rfl,gj,ej,b0⟩ | ⟨J,I,yj⟩
  ·have n2:¬ S.cs[k+1]? = some i:=fun h=>U (mem_of h)
   refine⟨⟨oj,hj,dj,X,aj,.inl ⟨Z,I,fun b hb=>(pw a1).1 (xj b hb),fj⟩⟩,?_,?_⟩
   ·refine⟨oi,hi,di,?_,?_,.inr (.inr ⟨U,M,fun k b h1 h2=>⟨(er a3).2 (yi k b h1 h2).1,(yi k b h1 h2).2⟩⟩)⟩
    all_goals simp only[if_pos Z,if_neg I]
    ·exact cq Z
    ·exact vV Z hl ai
   ·simp only[if_neg n1,if_neg M,if_pos Z,if_neg I,if_neg n2,O]
  ·have n3:¬ S.cs[k]? = some j:=fun h=>J (mem_of h)
   have b2:loose .any ops i S.al:=by rw[←N];exact hl
   have a7:S.al < ops.size:=by rw[←N];exact(Array.getElem?_eq_some_iff.1 hj).1
   refine⟨⟨oj,hj,dj,X,aj,.inr (.inl ⟨J,N,rfl,gj,ej,b0⟩)⟩,?_,?_⟩
   ·refine⟨oi,hi,di,?_,?_,.inr (.inr ⟨U,M,fun k b h1 h2=>⟨(er a3).2 (yi k b h1 h2).1,(yi k b h1 h2).2⟩⟩)⟩
    all_goals simp only[if_neg n3,if_pos N]
    ·exact X
    ·rw[ru a7 b2];exact ai
   ·simp only[if_neg n1,if_neg M,if_neg n3,if_pos N,O]
  ·have n3:¬ S.cs[k]? = some j:=fun h=>J (mem_of h)
   refine⟨⟨oj,hj,dj,X,aj,.inr (.inr ⟨J,I,fun k b h1 h2=>⟨(er a1).1 (yj k b h1 h2).1,(yj k b h1 h2).2⟩⟩)⟩,?_,?_⟩
   ·refine⟨oi,hi,di,?_,?_,.inr (.inr ⟨U,M,fun k b h1 h2=>⟨(er a3).2 (yi k b h1 h2).1,(yi k b h1 h2).2⟩⟩)⟩
    all_goals simp only[if_neg n3,if_neg I]
    ·exact X
    ·exact ai
   ·simp only[if_neg n1,if_neg M,if_neg n3,if_neg I,O]
theorem WO.yB {o:Oper} (U:o.guard=none) {st:St} {I J:Exit→St→Prop} (hl:∀ e st,I e st→e≠.outgrown) (M:∀ e st,I e st→J e st) (h:WO P C n ops I [o] st):WO P C n ops J [o] st:=by
 intro tmps w hs;have hw:Region.wanted o (yielded ops tmps)=true:=by simp[Region.wanted,U]
 have h:=h tmps w hs;simp only[dS,hw,if_true] at h ⊢;refine Oper.tw (fun c a w ⟨h1,st',h2,h3⟩=>⟨h1,st',h2,M _ _ h3⟩) (fun N=>by obtain⟨_,_,O⟩:=N;obtain⟨_,st',_,he⟩:=O;exact hl _ _ he rfl) (fun X Z ⟨h1,st',h2,h3⟩=>⟨h1,st',h2,M _ _ h3⟩) h
theorem WO.EC {o:Oper} (X:o.guard=none) {st J:St} {G:Gh} {tmps:Array Value} {w:World} {R:List PanicEntry→Prop} {Q':Exit→Act→World→Prop} (Z:∀ c act w,R c→act.defers=C.ds→(∃ st,ez C n st act.tmps w)→Q' (.panic c) act w) (h:WO P C n ops (fun e st=>(e=.normal∧st=J)∨∃ c,e=.panic c∧R c) [o] st) (hs:ao C n st G tmps w) :
 o.wp P ⟨tmps,C.ds⟩ w (fun act w=>act.defers=C.ds∧∃ G,ao C n J G act.tmps w) Q':=by
 have hw:Region.wanted o (yielded ops tmps)=true:=by simp[Region.wanted,X]
 have h:=h tmps w ⟨G,hs⟩;simp only[dS,hw,if_true] at h;refine Oper.tw (fun c a w I=>?_) (fun hl=>?_) (fun ad w2 I=>?_) h
 ·obtain⟨h1,st',h2,he | ⟨N,he,M⟩⟩:=I
  ·cases he.1
  ·cases he
   exact Z c a w M h1 ⟨st',h2⟩
 ·obtain⟨_,_,I⟩:=hl
  obtain⟨_,st',_,he | ⟨N,he,M⟩⟩:=I;·cases he.1
  ·cases he
 ·obtain⟨O,st',⟨G',U⟩,he | ⟨N,he,M⟩⟩:=I
  ·obtain⟨_,rfl⟩:=he
   exact⟨O,G',U⟩
  ·cases he
theorem w9 {bx:List (Nat×List A)} {lv:List Nat} {gen:Nat} {I:dA} {G:Gh} {tmps:Array Value} {w:World} (hs:ew C n bx lv gen I G tmps w) (t:Nat) (x:A) (J:I t=some x):t < n:=by obtain⟨v,h1,_⟩:=hs.2 t x J;have:=(Array.getElem?_eq_some_iff.1 h1).1;rw[hs.1.size] at this;exact this
theorem uE {I:dA} {p:List (Nat×A)} (J:∀ t x,I t=some x→t < n) (hp:∀ t x,look p t=some x→I t=some x) (t:Nat):look (p++eO n I) t=I t:=by
 rw[qf]
 cases q:look p t with
 | some x=>exact(hp t x q).symm
 | none=>
   simp only;unfold eO;rw[lj]
   cases e:I t with
   | none=>split <;> rfl
   | some x=>rw[if_pos (List.mem_range.2 (J t x e))]
theorem tL {I:dA} {f:List (Nat×A)} (h:∀ t,look f t=I t) {d:Nat} {a:A} {t:Nat}:look ((d,a)::f) t=bK I (some d) a t:=by
 rw[aN];simp only[bK];by_cases e:t=d
 ·subst e
  rw[if_pos rfl,if_pos rfl]
 ·rw[if_neg e,if_neg (Ne.symm e),h]
def AU (S:gX) (I k:Nat):Prop:=(jb (S.ord k) (S.gen k) I=true∧pos (S.ord k) (S.gen k)=some S.g0)∧ij (S.ord k) ((S.gen k,S.z)::S.bxF k) (S.bxT k)∧pW (S.ord k) (S.lv k) (S.lv k)=true
def rf (S:gX) (I:Nat):Nat→Prop
 | 0=>AU S I 0
 | k+1=>AU S I (k+1)∧yR (S.ord k) (S.ord (k+1))=true∧rf S I k
theorem rf.at {I:Nat}:∀ {m:Nat},rf S I m→∀ k,k≤m→AU S I k
 | 0,h,k,J=>by
   obtain rfl:k=0:=by omega
   exact h
 | m+1,h,k,J=>by
   rcases Nat.lt_or_ge k (m+1) with M | N
   ·exact rf.at h.2.2 k (by omega)
   ·obtain rfl:k=m+1:=by omega
    exact h.1
theorem rf.mono {M:Nat}:∀ {m:Nat},rf S M m→∀ k,k < m→yR (S.ord k) (S.ord (k+1))=true
 | 0,_,k,I=>absurd I (Nat.not_lt_zero _)
 | m+1,h,k,I=>by
   rcases Nat.lt_or_ge k m with J | N
   ·exact rf.mono h.2.2 k J
   ·obtain rfl:k=m:=by omega
    exact h.2.1
theorem Eo {nb:Nat} [hnb:NB C nb] (b0:Bool) (hok:b0=false→rf S nb S.cs.length) (i:Nat) (a:A) (σ:SD) (act:Act) (w:World) (K:Act→World→Prop) {Q':Exit→Act→World→Prop} (hR:∀ c act w,S.R c→act.defers=C.ds→(∃ st,ez C n st act.tmps w)→Q' (.panic c) act w) (hs:ET C n S b0 σ act w) (hy:YD P T C n S ops i a σ) (hK:∀ act w,ET C n S b0 (wX S ops i a σ) act w→K act w):wpOp P ops Q' i K act w:=by
 obtain⟨tmps,dj⟩:=act;obtain⟨ad,rfl,G,hs,X⟩:=hs;obtain⟨O,k,ph⟩:=σ;obtain⟨o,ho,hd,a1,ai,hy⟩:=hy;rw[ib ho] at hK;simp only at hs X a1 ai hy hK ad;unfold wpOp;simp only[ho];rcases hy with ⟨hc,a6,I,hr⟩ | ⟨nc,cj,rfl,hg,rfl,e,d,dt,cq,J,he,hz⟩ | ⟨nc,a6,a7⟩
 ·obtain⟨hg,p,hp,I⟩:=I ph ai
  rw[if_pos hc,if_neg a6] at hK;have hw:Region.wanted o (yielded ops tmps)=true:=by simp[Region.wanted,hg]
  rw[hw,if_pos rfl];refine .inl ?_;have M:=uE (w9 hs) (fun t x I=>(hp t x I).1);have a8:=hs.ky (f:=p++eO n O) fun t x I=>by rw[←M];exact I
  refine Oper.wp_mono (fun Z w2 ⟨b2,G',U⟩=>hK Z w2 ⟨ad,b2,G',?_,fun N t x I=>?_⟩) (WO.EC hg hR (I (eO n O)) a8)
  ·show ew C n (S.bx (k+1) ph) (S.lv (k+1)) (S.gen (k+1)) (bK O o.dst a) G' Z.tmps w2
   cases J:o.dst with
   | none=>rw[J] at U;refine⟨{ U with frame:=fun t a ha=>by simp[look] at ha },fun t x I=>U.frame t x ?_⟩;show look (p++eO n O) t=some x;rw[M];exact I
   | some d=>rw[J] at U;refine⟨{ U with frame:=fun t a ha=>by simp[look] at ha },fun t x I=>U.frame t x ?_⟩;show look ((d,a)::(p++eO n O)) t=some x;rw[tL M];exact I
  ·simp only at N I
   have b3:b0=false:=by cases b0 with | false=>rfl | true=>rw[ad rfl] at N;cases N
   have hm:=ya ((hok b3).mono k (List.getElem?_eq_some_iff.1 hc).1)
   cases J:o.dst with
   | none=>rw[J] at I;exact sy hm x (X N t x I)
   | some d=>
     rw[J] at I;simp only[bK] at I;split at I;·cases I;exact hr (by rw[←N];exact ai)
     ·exact sy hm x (X N t x I)
 ·have ch:¬ S.cs[k]? = some i:=fun h=>nc (List.mem_of_getElem? h)
  rw[if_neg ch,if_pos cj] at hK;have hw:Region.wanted o (yielded ops tmps)=true:=by simp[Region.wanted,hg]
  rw[hw,if_pos rfl];refine .inl ?_;have b3:b0=false:=by cases b0 with | false=>rfl | true=>cases ad rfl
  obtain⟨⟨hO,cl⟩,cx,cy⟩:=(hok b3).at k a1;have M:∀ t,look (eO n O) t=O t:=uE (p:=[]) (w9 hs) (fun t x I=>by simp[look] at I);have a8:=hs.ky (f:=eO n O) fun t x I=>by rw[←M];exact I
  have c1:WO P C n ops (fun e st=>(e=.normal∧st=St.put ⟨eO n O,(S.gen k,S.z)::S.bx k false,S.lv k,S.gen k+1⟩ o.dst (.ptr (S.gen k) 0))∨∃ c,e=.panic c∧False) [o] ⟨eO n O,S.bx k false,S.lv k,S.gen k⟩:=
   WO.alloc T hg hd cq he (WO.nil (.inl ⟨rfl,by rw[hz]⟩))
  refine Oper.wp_mono (fun Z w2 ⟨b2,G',U⟩=>hK Z w2 ⟨fun _=>rfl,b2,lI (S.ord k) G',?_,fun h=>by cases h⟩) (WO.EC (R:=fun _=>False) hg (fun _ _ _ h=>h.elim) c1 a8);simp only[jb,Bool.and_eq_true] at hO;obtain⟨⟨c6,c7⟩,df⟩:=hO;rw[J] at U ⊢;have h3:ao C n ⟨(d,.ptr S.g0 0)::eO n O,S.bxT k,S.lv k,S.gen k⟩ (lI (S.ord k) G') Z.tmps w2:=by
   refine ao.bE (gen':=S.gen k) U (S.ord k) (dL c6) (Nat.le_of_ble_eq_true c7) (fun i hi=>?_) (fun t x I=>?_) (fun i l' di=>?_) (fun i hi=>?_)
   ·have h4:=nL df i (by rw[←hnb.h];exact hi)
    simpa using h4
   ·rw[aN] at I
    show ∃ a,look ((d,.ptr (S.gen k) 0)::eO n O) t=some a∧bE (S.ord k) a=x;rw[aN];split at I
    ·rename_i e
     rw[if_pos e];cases I;exact⟨_,rfl,by simp only[bE,cl]⟩
    ·rename_i e
     rw[if_neg e];rw[M] at I ⊢;exact⟨x,I,X rfl t x I⟩
   ·exact ij.le cx i l' di
   ·exact sg cy i hi
  refine⟨{ h3 with frame:=fun t a ha=>by simp[look] at ha },fun t x I=>h3.frame t x ?_⟩;show look ((d,_)::eO n O) t=some x;rw[tL M];exact I
 ·have ch:¬ S.cs[k]? = some i:=fun h=>nc (List.mem_of_getElem? h)
  rw[if_neg ch,if_neg a6] at hK;obtain⟨a7,hr⟩:=a7 k ph a1 ai;have aj:ph=false→∀ t x,bK O o.dst a t=some x→bE (S.ord k) x=x:=fun N t x I=>by
   cases J:o.dst with
   | none=>rw[J] at I;exact X N t x I
   | some d=>
     rw[J] at I;simp only[bK] at I;split at I;·cases I;exact hr N
     ·exact X N t x I
  obtain⟨_,⟨hw,f,hf,hp⟩ | ⟨hw,rfl⟩⟩:=a7
  ·rw[fQ hs hw]
   simp only[if_true];refine .inl ?_;have hg:cS P o ⟨tmps,[]⟩ w fun v w'=>Below w.heap.size w w'∧aC (au C G (S.gen k) w') v a:=hp G tmps w (hs.ky fun t x I=>(hf t x I).1);refine hg.ds.wp fun v w' ⟨hb,hr⟩=>?_;rw[Act.gn];exact hK _ _ ⟨ad,rfl,G,hs.step hb hd hr,aj⟩
  ·rw[fQ hs hw]
   simp only[Bool.false_eq_true,if_false];rw[Act.gn];exact hK _ _ ⟨ad,rfl,G,hs.step (Below.refl _ _) hd (.tup #[] [] rfl (by simp)),aj⟩
def CD (P:Program) (T:bA P) (C:Ctx) (n:Nat) (S:gX) (ops:Array Oper) (Q:St→Prop) (l:List Oper) (i:Nat) (f:List (Nat×A)) (k:Nat) (b:Bool):Prop:=
 zo (YD P T C n S ops) (wX S ops) (fun I=>∃ f',(∀ t,look f' t=I.1 t)∧I.2=(S.cs.length,true)∧Q ⟨f',S.bxT S.cs.length,S.lv S.cs.length,S.gen S.cs.length⟩) l i (look f,k,b)
def jf (ops:Array Oper):List Nat→Bool
 | c::I::r=>cU .any ops ops.size I c && jf ops (I::r)
 | _=>true
theorem pH {ops:Array Oper}:∀ {cs:List Nat},jf ops cs=true→∀ k c I,cs[k]? = some c→cs[k+1]? = some I→cU .any ops ops.size I c=true
 | [],_,k,c,I,h,_=>by simp at h
 | [_],_,k,c,I,_,h=>by simp at h
 | x::y::r,h,k,c,I,h1,h2=>by
   simp only[jf,Bool.and_eq_true] at h
   cases k with
   | zero=>simp at h1 h2;subst h1;subst h2;exact h.1
   | succ k=>exact pH h.2 k c I (by simpa using h1) (by simpa using h2)
def rC (o:List Nat):List (Nat×A)→Prop
 | []=>True
 | (_,a)::r=>bE o a=a∧rC o r
theorem rC.at {o:List Nat}:∀ {f:List (Nat×A)},rC o f→∀ t a,look f t=some a→bE o a=a
 | [],_,t,a,h=>by simp[look] at h
 | (s,x)::r,hf,t,a,h=>by
   rw[aN] at h;split at h;·cases h;exact hf.1
   ·exact hf.2.at t a h
theorem W.lN (T:bA P) {nb:Nat} [hnb:NB C nb] {id:Nat} {l l1 l2:List Oper} {f:List (Nat×A)} {bx:List (Nat×List A)} {lv:List Nat} {gen:Nat} {Q:Exit→St→Prop} (S:gX) (I:Bool) (m:Nat) (hB:fy m l.toArray=true) (ad:jf l.toArray S.cs=true) (h1:l.take m=l1) (h2:l.drop m=l2)
 (hR:∀ c st,S.R c→Q (.panic c) st) (hok:I=false→rf S nb S.cs.length∧rC (S.ord 0) f) (e1:∀ g c,ae (S.bx 0 I) g=some c→ae bx g=some c) (e2:S.lv 0=lv) (e3:Nat.ble gen (S.gen 0)=true)
 (h:CD P T C n S l.toArray (WO P C n l.toArray Q l2) l1 0 f 0 I):W P C n (.region id l.toArray true) Q ⟨f,bx,lv,gen⟩:=by
 subst h1;subst h2;subst e2;intro tmps w ⟨G,hs⟩;have hs:ao C n ⟨f,bx,S.lv 0,S.gen 0⟩ G tmps w:=ao.later hs (g:=S.gen 0) (Nat.le_of_ble_eq_true e3);have hs:ao C n ⟨f,S.bx 0 I,S.lv 0,S.gen 0⟩ G tmps w:={ hs with box:=fun g c J=>hs.box g c (e1 g c J) };simp only[fy,Bool.and_eq_true] at hB;obtain⟨⟨⟨hm,hw⟩,U⟩,M⟩:=hB;have hm:m≤l.length:=by simpa using Nat.le_of_ble_eq_true hm
 have hb:Below w.heap.size w { w with drawn:=w.drawn+1 }:=(Below.refl _ w).drew;have ai:ew C n (S.bx 0 I) (S.lv 0) (S.gen 0) (look f) G tmps { w with drawn:=w.drawn+1 }:=ew.zU (hs.gp hb).2;have hlen:(l.take m).length=m:=by simp;omega
 refine wp_region_any T.mixed ?_;have X:l.toArray.size=(l.take m).length+(l.drop m).length:=by simp;omega
 rw[X];have Z:e7 .any l.toArray (Array.replicate ((l.take m).length+(l.drop m).length) false):=fun j oj _ hl _ _ _=>by
  by_cases q:j < (l.take m).length+(l.drop m).length
  ·simp only[Array.getD_eq_getD_getElem?,Array.getElem?_replicate] at hl
   rw[if_pos q] at hl;cases hl
  ·simp only[Array.getD_eq_getD_getElem?,Array.getElem?_replicate] at hl
   rw[if_neg q] at hl;cases hl
 refine mX (m:=m) (Sm:=ET C n S I) (Y:=YD P T C n S l.toArray) (ef:=wX S l.toArray) (Q:=fun N=>∃ f',(∀ t,look f' t=N.1 t)∧N.2=(S.cs.length,true)∧WO P C n l.toArray Q (l.drop m) ⟨f',S.bxT S.cs.length,S.lv S.cs.length,S.gen S.cs.length⟩)
  (fun i e N act w K hs hy hk=>Eo I (fun h=>(hok h).1) i e N act w K (fun c act w J hd ⟨st,hs⟩=>⟨hd,st,hs,hR c st J⟩) hs hy hk) (fun listed N act w hs J O ⟨f',e1,e2,hq⟩=>?_) _ _ (look f,0,I) ⟨tmps,C.ds⟩ _ ⟨fun h=>h,rfl,G,ai,fun h=>(hok h).2.at⟩ Z ?_
 ·obtain⟨tmps,a8⟩:=act
  obtain⟨_,rfl,G,hs,_⟩:=hs;rw[e2] at hs;refine lT hw (mN U) (l.drop m) m listed ⟨tmps,C.ds⟩ w (Nat.le_refl _) (by simp;omega) (fun j=>by simp[List.getElem?_drop]) J O.1 O.2.1 O.2.2 ?_;exact hq tmps w ⟨G,hs.ky (fun t a ha=>by rw[←e1];exact ha)⟩
 ·refine vb hw (fun i j oi oj hi hj aj b2 b3 a1 a6=>Fz (pH ad) hi hj aj a1 a6) (l.take m) 0 _ _ (by rw[hlen];omega) (fun j hj=>?_) Z (by simp;omega) (fun j hj=>by omega) (fun j _ hj=>?_) (by rw[hlen];rw[X,hlen] at M;exact M) h
  ·rw[hlen] at hj
   rw[Nat.zero_add];simp[List.getElem?_take,hj]
  ·have a7:j < l.length:=by simpa using hj
   have e:min m l.length+(l.length - m)=l.length:=by omega
   simp[e,a7]
variable {op:Op} {ty:TypeId} {pos:String} {af:Array Edge} {a:A} {d i k:Nat} {rest:List Oper} {f:List (Nat×A)} {Q:St→Prop} {b:Bool}
theorem CD.nil (h:Q ⟨f,S.bxT S.cs.length,S.lv S.cs.length,S.gen S.cs.length⟩) (I:Nat.beq k S.cs.length=true):CD P T C n S ops Q [] i f k true:=by have:=Nat.eq_of_beq_eq_true I;subst this;exact⟨f,fun _=>rfl,rfl,h⟩
def ux (p:Nat→Bool→Prop):Nat→Prop
 | 0=>p 0 false∧p 0 true
 | k+1=>p (k+1) false∧p (k+1) true∧ux p k
theorem ux.at {p:Nat→Bool→Prop}:∀ {m:Nat},ux p m→∀ k b,k≤m→p k b
 | 0,h,k,b,I=>by
   obtain rfl:k=0:=by omega
   cases b;·exact h.1
   ·exact h.2
 | m+1,h,k,b,I=>by
   rcases Nat.lt_or_ge k (m+1) with J | M
   ·exact h.2.2.at k b (by omega)
   ·obtain rfl:k=m+1:=by omega
    cases b;·exact h.1
    ·exact h.2.1
def we (x:Nat) (l:List Nat):Bool:=l.any fun y=>Nat.beq x y
theorem uv {x:Nat} {l:List Nat} (h:we x l=false):x∉l:=fun hm=>by have:we x l=true:=List.any_eq_true.2 ⟨x,hm,by simp⟩;rw[h] at this;cases this
theorem sA (hp:ux (fun k b=>fB S ops i k b=true→Pu P C n ⟨ck f (slotsOf op),S.bx k b,S.lv k,S.gen k⟩ ⟨some d,op,ty,pos,af,none⟩ a∧(b=false→bE (S.ord k) a=a)) S.cs.length)
 (hi:ops[i]? = some ⟨some d,op,ty,pos,af,none⟩) (h1:we i S.cs=false) (h2:Nat.beq i S.al=false) (h3:(Nat.ble k S.cs.length && fB S ops i k b)=true) (hd:Nat.blt d n=true)
 (h:CD P T C n S ops Q rest (i+1) ((d,a)::f) k b):CD P T C n S ops Q (⟨some d,op,ty,pos,af,none⟩::rest) i f k b:=by
 simp only[Bool.and_eq_true] at h3;have I:=uv h1;have J:i≠S.al:=fun e=>by subst e;simp at h2
 refine⟨a,⟨_,hi,hd,Nat.le_of_ble_eq_true h3.1,h3.2,.inr (.inr ⟨I,J,fun k b M N=>⟨YA.rP (hp.at k b M N).1 hd,(hp.at k b M N).2⟩⟩)⟩,?_⟩;rw[ib hi];simp only[if_neg J,if_neg (fun e=>I (List.mem_of_getElem? e):¬ S.cs[k]? = some i)];unfold CD at h;rw[dW] at h;exact h
theorem aQ (h0:Pu P C n ⟨ck f (slotsOf op),S.bx k b,S.lv k,S.gen k⟩ ⟨some d,op,ty,pos,af,none⟩ a) (hp:ux (fun k b=>fB S ops i k b=true→Pu P C n ⟨ck f (slotsOf op),S.bx k b,S.lv k,S.gen k⟩ ⟨some d,op,ty,pos,af,none⟩ a∧(b=false→bE (S.ord k) a=a)) S.cs.length)
 (hi:ops[i]? = some ⟨some d,op,ty,pos,af,none⟩) (h1:we i S.cs=false) (h2:Nat.beq i S.al=false) (h3:(Nat.ble k S.cs.length && fB S ops i k b)=true) (hd:Nat.blt d n=true)
 (h:CD P T C n S ops Q rest (i+1) ((d,a)::f) k b):CD P T C n S ops Q (⟨some d,op,ty,pos,af,none⟩::rest) i f k b:=sA hp hi h1 h2 h3 hd h
theorem EU (I:∀ b,fB S ops i k b=true→∀ g,WO P C n ops (fun e st=>e=.normal∧st=⟨ck f (slotsOf op)++g,S.bx (k+1) b,S.lv (k+1),S.gen (k+1)⟩) [⟨none,op,ty,pos,af,none⟩] ⟨ck f (slotsOf op)++g,S.bx k b,S.lv k,S.gen k⟩)
 (hi:ops[i]? = some ⟨none,op,ty,pos,af,none⟩) (h1:S.cs[k]? = some i) (h2:Nat.beq i S.al=false) (h3:fB S ops i k b=true) (h:CD P T C n S ops Q rest (i+1) f (k+1) b):CD P T C n S ops Q (⟨none,op,ty,pos,af,none⟩::rest) i f k b:=by
 have J:i≠S.al:=fun e=>by subst e;simp at h2
 refine⟨.any,⟨_,hi,rfl,Nat.le_of_lt (List.getElem?_eq_some_iff.1 h1).1,h3,.inl ⟨h1,J,fun b hb=>⟨rfl,ck f (slotsOf op),fun t x I=>?_,fun g=>WO.yB rfl (fun e st h=>by rw[h.1];simp) (fun e st h=>.inl h) (I b hb g)⟩,fun _=>rfl⟩⟩,?_⟩
 ·obtain⟨h1,h2⟩:=dI I
  exact⟨h1,List.mem_append.2 (.inl h2)⟩
 ·rw[ib hi]
  simp only[if_neg J,if_pos h1];exact h
theorem v7 (I:∀ b,fB S ops i k b=true→∀ g,WO P C n ops (fun e st=>e=.normal∧st=⟨(d,a)::(ck f (slotsOf op)++g),S.bx (k+1) b,S.lv (k+1),S.gen (k+1)⟩) [⟨some d,op,ty,pos,af,none⟩] ⟨ck f (slotsOf op)++g,S.bx k b,S.lv k,S.gen k⟩)
 (hi:ops[i]? = some ⟨some d,op,ty,pos,af,none⟩) (h1:S.cs[k]? = some i) (h2:Nat.beq i S.al=false) (h3:fB S ops i k b=true) (M:fB S ops i k false=true→bE (S.ord (k+1)) a=a) (hd:Nat.blt d n=true) (h:CD P T C n S ops Q rest (i+1) ((d,a)::f) (k+1) b):CD P T C n S ops Q (⟨some d,op,ty,pos,af,none⟩::rest) i f k b:=by
 have J:i≠S.al:=fun e=>by subst e;simp at h2
 refine⟨a,⟨_,hi,hd,Nat.le_of_lt (List.getElem?_eq_some_iff.1 h1).1,h3,.inl ⟨h1,J,fun b hb=>⟨rfl,ck f (slotsOf op),fun t x I=>?_,fun g=>WO.yB rfl (fun e st h=>by rw[h.1];simp) (fun e st h=>.inl h) (I b hb g)⟩,M⟩⟩,?_⟩
 ·obtain⟨h1,h2⟩:=dI I
  exact⟨h1,List.mem_append.2 (.inl h2)⟩
 ·rw[ib hi]
  simp only[if_neg J,if_pos h1];unfold CD at h;rw[dW] at h;exact h
theorem F3 {e:TypeId} {I:bH} (he:ae T.l e=some I) (N:S.z=I.z.map fun v=>A.d (.v v)) (hi:ops[i]? = some ⟨some d,.alloc e,ty,pos,af,none⟩) (h1:we i S.cs=false) (h2:Nat.beq i S.al=true) (h3:(Nat.ble k S.cs.length && fB S ops i k false)=true) (hd:Nat.blt d n=true)
 (h:CD P T C n S ops Q rest (i+1) ((d,.ptr S.g0 0)::f) k true):CD P T C n S ops Q (⟨some d,.alloc e,ty,pos,af,none⟩::rest) i f k false:=by
 simp only[Bool.and_eq_true] at h3;have J:=uv h1;have M:i=S.al:=Nat.eq_of_beq_eq_true h2;refine⟨.ptr S.g0 0,⟨_,hi,hd,Nat.le_of_ble_eq_true h3.1,h3.2,.inr (.inl ⟨J,M,rfl,rfl,rfl,e,d,I,rfl,rfl,he,N⟩)⟩,?_⟩;rw[ib hi];simp only[if_pos M,if_neg (fun e=>J (List.mem_of_getElem? e):¬ S.cs[k]? = some i)];unfold CD at h;rw[dW] at h;exact h
theorem W.oX (T:bA P) {N:Nat} [hnb:NB C N] {id:Nat} {l l1 l2:List Oper} {f:List (Nat×A)} {bx:List (Nat×List A)} {lv:List Nat} {gen:Nat} {Q:Exit→St→Prop} (dO:List (List (Nat×List A))) (J:List (List Nat)) (I:List Nat) (cs:List Nat) (m:Nat) (hB:fy m l.toArray=true) (M:jf l.toArray cs=true) (h1:l.take m=l1) (h2:l.drop m=l2)
 (h:CD P T C n (Aw (bx::dO) (lv::J) (gen::I) cs l.length) l.toArray (WO P C n l.toArray Q l2) l1 0 f 0 true):W P C n (.region id l.toArray true) Q ⟨f,bx,lv,gen⟩:=
 W.lN T (Aw (bx::dO) (lv::J) (gen::I) cs l.length) true m hB M h1 h2 (fun _ _ h=>h.elim) (fun h=>by cases h) (fun _ _ h=>h) rfl (by show Nat.ble gen gen=true;simp) h
abbrev bot:A:=.d (.v (.agg #[]))
theorem DJ {E:En} {v:Value} (h:aC E v bot):False:=by cases h with | d h=>cases h with | v _ h=>exact absurd h (by simp[cm])
theorem Ba {P:Program} {C:Ctx} {n:Nat} {ops:Array Oper} {Q:Exit→St→Prop} {l:List Oper} {st:St} (d:Nat) (h:look st.f d=some bot):WO P C n ops Q l st:=fun _ _ ⟨_,hs⟩=>by obtain⟨v,_,I⟩:=hs.frame d bot h;exact(DJ I).elim
theorem W.xw (T:bA P) {N:Nat} [hnb:NB C N] {id:Nat} {l l1 l2:List Oper} {f:List (Nat×A)} {bx:List (Nat×List A)} {lv:List Nat} {gen:Nat} {Q:Exit→St→Prop} (v:Value) (dO:List (List (Nat×List A))) (J:List (List Nat)) (I:List Nat) (cs:List Nat) (m:Nat) (hB:fy m l.toArray=true) (M:jf l.toArray cs=true) (h1:l.take m=l1) (h2:l.drop m=l2)
 (O:∀ st,Q (.panic [{ v:=v,recovered:=false }]) st) (h:CD P T C n (yM (bx::dO) (lv::J) (gen::I) cs l.length v) l.toArray (WO P C n l.toArray Q l2) l1 0 f 0 true):W P C n (.region id l.toArray true) Q ⟨f,bx,lv,gen⟩:=
 W.lN T (yM (bx::dO) (lv::J) (gen::I) cs l.length v) true m hB M h1 h2 (fun c st h=>by rw[show c=_ from h];exact O st) (fun h=>by cases h) (fun _ _ h=>h) rfl (by show Nat.ble gen gen=true;simp) h
theorem FF (I:∀ b,fB S ops i k b=true→∀ g,WO P C n ops (fun e _=>∃ c,e=.panic c∧S.R c) [⟨some d,op,ty,pos,af,none⟩] ⟨ck f (slotsOf op)++g,S.bx k b,S.lv k,S.gen k⟩)
 (hi:ops[i]? = some ⟨some d,op,ty,pos,af,none⟩) (h1:S.cs[k]? = some i) (h2:Nat.beq i S.al=false) (h3:fB S ops i k b=true) (hd:Nat.blt d n=true) (h:CD P T C n S ops Q rest (i+1) ((d,bot)::f) (k+1) b):CD P T C n S ops Q (⟨some d,op,ty,pos,af,none⟩::rest) i f k b:=by
 have J:i≠S.al:=fun e=>by subst e;simp at h2
 refine⟨bot,⟨_,hi,hd,Nat.le_of_lt (List.getElem?_eq_some_iff.1 h1).1,h3,.inl ⟨h1,J,fun b hb=>⟨rfl,ck f (slotsOf op),fun t x I=>?_,fun g=>WO.yB rfl (fun e st ⟨c,h,_⟩=>by rw[h];simp) (fun e st h=>.inr h) (I b hb g)⟩,fun _=>rfl⟩⟩,?_⟩
 ·obtain⟨h1,h2⟩:=dI I
  exact⟨h1,List.mem_append.2 (.inl h2)⟩
 ·rw[ib hi]
  simp only[if_neg J,if_pos h1];unfold CD at h;rw[dW] at h;exact h
theorem DC (t:Nat) (J:look (ck f (slotsOf op)) t=some bot)
 (hi:ops[i]? = some ⟨some d,op,ty,pos,af,none⟩) (h1:S.cs[k]? = some i) (h2:Nat.beq i S.al=false) (h3:fB S ops i k b=true) (hd:Nat.blt d n=true) (h:CD P T C n S ops Q rest (i+1) ((d,bot)::f) (k+1) b):CD P T C n S ops Q (⟨some d,op,ty,pos,af,none⟩::rest) i f k b:=by
 have I:i≠S.al:=fun e=>by subst e;simp at h2
 refine⟨bot,⟨_,hi,hd,Nat.le_of_lt (List.getElem?_eq_some_iff.1 h1).1,h3,.inl ⟨h1,I,fun b hb=>⟨rfl,ck f (slotsOf op),fun t x M=>?_,fun g=>Ba t ?_⟩,fun _=>rfl⟩⟩,?_⟩
 ·obtain⟨h1,h2⟩:=dI M
  exact⟨h1,List.mem_append.2 (.inl h2)⟩
 ·show look (ck f (slotsOf op)++g) t=some bot
  rw[qf,J]
 ·rw[ib hi]
  simp only[if_neg I,if_pos h1];unfold CD at h;rw[dW] at h;exact h
end
end Go.Ab
namespace Go.Ab
theorem rZ {e I:Exit} {d:Nat} {a a':A} {f:List (Nat×A)} {bx bx':List (Nat×List A)} {lv lv':List Nat} {gen gen':Nat} (he:e=I) (J:a=a') (hb:bx=bx') (hl:lv=lv') (M:gen=gen') :
 e=I∧(⟨(d,a)::f,bx,lv,gen⟩:St)=⟨(d,a')::f,bx',lv',gen'⟩:=by subst he J hb hl M;exact⟨rfl,rfl⟩
theorem Ea {e I:Exit} {f:List (Nat×A)} {bx bx':List (Nat×List A)} {lv lv':List Nat} {gen gen':Nat} (he:e=I) (hb:bx=bx') (hl:lv=lv') (J:gen=gen') :
 e=I∧(⟨f,bx,lv,gen⟩:St)=⟨f,bx',lv',gen'⟩:=by subst he hb hl J;exact⟨rfl,rfl⟩
end Go.Ab
namespace Go.Ab
open Go.RowKit
def uD (es:List (List D)) (k:Nat):List A:=es.flatten.map A.d++List.replicate k .any
section
variable {C:Ctx} {n:Nat} {st:St} {G:Gh} {tmps:Array Value} {w:World}
theorem nf {sz:Nat}:∀ {es:List (List D)},(∀ (e:List D),e∈es→e.length=sz)→es.flatten.length=es.length*sz
 | [],_=>by simp
 | e::es,h=>by rw[List.flatten_cons,List.length_append,nf (fun x I=>h x (List.mem_cons_of_mem _ I)),h e List.mem_cons_self,List.length_cons,Nat.succ_mul,Nat.add_comm]
theorem ao.ER (h:ao C n st G tmps w) {g b len cap sz:Nat} (hg:G.own g=some (.blk b len cap sz 0)) {es:List (List D)} {v:Value} (hx:fh w (aS C G) (.blk b len cap sz 0) v es) (lv:List Nat) (df:∀ J∈lv,J∈st.lv∧J≠g) :
 ∃ M,ao C n ⟨st.f,(st.gen,uD es (cap*sz - len*sz))::st.bx,lv,st.gen+1⟩ M tmps w∧aC (au C M (st.gen+1) w) v (.sb st.gen es.length cap):=by
 obtain⟨rfl,hlen,_,hl,hr⟩:=hx;obtain⟨b0,ch,b3,cur,T,U,e3,cj,di,hz,en,_,hone⟩:=h.row g b len cap sz 0 hg;let M:Gh:=⟨fun x=>if x=st.gen then some b else G.box x,fun x=>if x=g then none else G.own x⟩;have e4:=h.gown g _ hg;have c7:b < w.heap.size:=(Array.getElem?_eq_some_iff.1 U).1;have dj:∀ N o,aS C M N o→aS C G N o:=by
  rintro N o (hp | ⟨J,hp⟩ | ⟨J,X,Z,ai,ad,hp,hl'⟩ | ⟨J,b2,bs,lim,hp,hm,hl'⟩);·exact .inl hp
  ·simp only[M] at hp
   split at hp
   ·simp only[Option.some.injEq] at hp
    subst hp;exact .inr (.inr (.inl ⟨g,len,cap,sz,0,hg,Nat.zero_le _⟩))
   ·exact .inr (.inl ⟨J,hp⟩)
  ·simp only[M] at hp
   split at hp;·cases hp
   ·exact .inr (.inr (.inl ⟨J,X,Z,ai,ad,hp,hl'⟩))
  ·simp only[M] at hp
   split at hp;·cases hp
   ·exact .inr (.inr (.inr ⟨J,b2,bs,lim,hp,hm,hl'⟩))
 have hle:(au C G st.gen w).le (au C M (st.gen+1) w):=ju h.fr h.fr (fun b o u hu hn=>⟨hu,fun hp=>hn (dj b o hp)⟩) (fun J N O=>by
  simp only[M];rw[if_neg (Nat.ne_of_lt (h.gbox J N O).1)];exact O)
  (fun J r' cl I=>by
   simp only[M] at I;split at I;·cases I
   ·exact I) (Nat.le_succ _) (fun _ _ _ _ _ _ _ _=>rfl) (fun _ _ _ _ _=>⟨rfl,fun _ _=>rfl⟩) (.refl w)
 have cq:=nf hl;have e0:len*sz≤cap*sz:=Nat.mul_le_mul_right _ cj;refine⟨M,{ size:=h.size,frame:=h.du hle,xold:=h.xold,kold:=h.kold,fr:=h.fr,gcell:=fun J N O=>(by simp only[M] at O;split at O <;> first | (simp only[Option.some.injEq] at O;subst O;exact⟨_,_,_,U⟩) | exact h.gcell J N O),lent:=?_,box:=?_,gbox:=?_,inj:=?_,live:=?_,gown:=?_,row:=?_,mrow:=?_,sub:=?_ },?_⟩
 ·intro J cells hc
  simp only[bN] at hc;split at hc
  ·rename_i e
   simp only[Option.some.injEq] at hc;subst hc;subst e;refine⟨b,cur,T,by simp[M],U,?_,fun i u hu=>hone i u hu,fun i u a hu ha=>?_⟩;·simp only[uD,List.length_append,List.length_map,List.length_replicate,cq,hlen];omega
   ·unfold uD at ha
    rcases Nat.lt_or_ge i es.flatten.length with hi | hi
    ·rw[List.getElem?_append_left (by rw[List.length_map];exact hi),List.getElem?_map,Option.map_eq_some_iff] at ha
     obtain⟨d,hd,rfl⟩:=ha;have dt:i < len*sz:=by rw[←hlen,←cq];exact hi
     have hdiv:i / sz < es.length:=by rw[hlen];exact Nat.div_lt_of_lt_mul (by rw[Nat.mul_comm];exact dt)
     have he:es[i / sz]? = some es[i / sz]:=by simp[hdiv]
     have dx:=hl _ (List.mem_of_getElem? he);have cx:es[i / sz][i % sz]? = some (es[i / sz][i % sz]'(by rw[dx];exact Nat.mod_lt _ hz)):=by simp
     have cy:=lG hl _ _ _ _ he cx;rw[Nat.div_add_mod' i sz,hd] at cy;obtain⟨u',aj,ed⟩:=hr _ _ _ _ he cx;rw[Nat.div_add_mod' i sz,bC U] at aj;rw[hu] at aj;cases aj;rw[Option.some.inj cy];exact .d (ed.mono hle.cell)
    ·rw[List.getElem?_append_right (by rw[List.length_map];exact hi)] at ha
     have:=List.eq_of_mem_replicate (List.mem_of_getElem? ha);subst this;exact .any _
  ·obtain⟨N,cs,T',h1,h2,h3,h4,h5⟩:=h.box J cells hc
   exact⟨N,cs,T',by simp only[M];rw[if_neg (Nat.ne_of_lt (h.gbox J N h1).1)];exact h1,h2,h3,h4,fun i u a hu ha=>(h5 i u a hu ha).mono hle⟩
 ·intro J N hb
  simp only[M] at hb;split at hb
  ·rename_i e
   simp only[Option.some.injEq] at hb;subst hb;subst e;exact⟨Nat.lt_succ_self _,c7,b0⟩
  ·obtain⟨h1,h2⟩:=h.gbox J N hb
   exact⟨Nat.lt_succ_of_lt h1,h2⟩
 ·intro g1 g2 N h1 h2
  simp only[M] at h1 h2;split at h1 <;> split at h2;·simp_all
  ·simp only[Option.some.injEq] at h1;subst h1;exact absurd h2 (ch g2)
  ·simp only[Option.some.injEq] at h2;subst h2;exact absurd h1 (ch g1)
  ·exact h.inj g1 g2 N h1 h2
 ·intro J cl
  obtain⟨h1,h2⟩:=df J cl;obtain⟨r',I⟩:=h.live J h1;exact⟨r',by simp only[M];rw[if_neg h2];exact I⟩
 ·intro J r' I
  simp only[M] at I;split at I;·cases I
  ·exact Nat.lt_succ_of_lt (h.gown J r' I)
 ·intro J N X Z ai ad I
  simp only[M] at I;split at I;·cases I
  ·rename_i e2
   obtain⟨h4,h5,h6,h7⟩:=h.row J N X Z ai ad I;have a1:N≠b:=fun e=>by subst e;exact e2 (b3 J X Z ai ad I)
   refine⟨h4,fun g2 h2=>?_,fun g2 a6 a7 c1 a8 h2=>?_,h7⟩
   ·simp only[M] at h2
    split at h2;·simp only[Option.some.injEq] at h2;exact a1 h2.symm
    ·exact h5 g2 h2
   ·simp only[M] at h2
    split at h2;·cases h2
    ·exact h6 g2 a6 a7 c1 a8 h2
 ·intro J N bs I
  simp only[M] at I;split at I;·cases I
  ·obtain⟨h4,ei,h5,me,clock,h6⟩:=h.mrow J N bs I
   refine⟨h4,fun g2 h2=>?_,fun g2 c6 h2=>?_,me,clock,h6⟩
   ·simp only[M] at h2
    split at h2;·simp only[Option.some.injEq] at h2;subst h2;rw[U] at h6;cases h6
    ·exact ei g2 h2
   ·simp only[M] at h2
    split at h2;·cases h2
    ·exact h5 g2 c6 h2
 ·intro J N bs c lim I hm
  simp only[M] at I;split at I;·cases I
  ·obtain⟨h4,h5,h6,h7,h8⟩:=h.sub J N bs c lim I hm
   have a1:c≠b:=fun e=>h6 g _ _ _ _ (by rw[e];exact hg);refine⟨h4,fun g2 h2=>?_,fun g2 a6 a7 c1 a8 h2=>?_,fun g2 b2 c6 e1 h2 ej=>?_,h8⟩
   ·simp only[M] at h2
    split at h2;·simp only[Option.some.injEq] at h2;exact a1 h2.symm
    ·exact h5 g2 h2
   ·simp only[M] at h2
    split at h2;·cases h2
    ·exact h6 g2 _ _ _ _ h2
   ·simp only[M] at h2
    split at h2;·cases h2
    ·exact h7 g2 _ _ _ h2 ej
 ·intro i N hb
  have h1:=h.lent i N hb;simp only[M];rw[if_neg (Nat.ne_of_lt (h.gbox i N h1).1)];exact h1
 ·exact .sb _ st.gen es.length cap b (Nat.lt_succ_self _) (by simp[au,M]) (by rw[hlen];exact⟨cj,di⟩) (by rw[hlen])
end
section
variable {P:Program} (T:bA P) {C:Ctx} {n:Nat} {ops:Array Oper} {Q:Exit→St→Prop} {rest:List Oper}
variable {f:List (Nat×A)} {bx:List (Nat×List A)} {lv:List Nat} {gen:Nat} {d:Nat} {op:Op} {ty:TypeId} {pos:String} {af:Array Edge} {a:A} {dst:Option Nat} {c:Code}
end
end Go.Ab
namespace Go.Ab
section
variable {P:Program} {C:Ctx} {n:Nat} {ops:Array Oper} {Q:Exit→St→Prop} {rest:List Oper}
variable {f:List (Nat×A)} {bx:List (Nat×List A)} {lv:List Nat} {gen:Nat} {d:Nat} {ty:TypeId} {pos:String} {af:Array Edge}
end
end Go.Ab
namespace Go.Ab
open Go.RowKit
mutual
def fL (g:Nat):A→Bool
 | .ptr I _=>!Nat.beq I g
 | .np I _ _=>!Nat.beq I g
 | .sb I _ _=>!Nat.beq I g
 | .lk I _ _ _=>!Nat.beq I g
 | .agg l=>kH g l
 | .tup l=>kH g l
 | .row l=>kH g l
 | .clo _ l=>kH g l
 | .bnd _ l=>kH g l
 | _=>true
def kH (g:Nat):List A→Bool
 | []=>true
 | a::l=>fL g a && kH g l
end
theorem ey {g:Nat}:∀ {l:List A},kH g l=true→∀ a∈l,fL g a=true
 | [],_,a,I=>by cases I
 | b::l,h,a,I=>by
   simp only[kH,Bool.and_eq_true] at h
   cases I with
   | head=>exact h.1
   | tail _ I=>exact ey h.2 a I
theorem aC.forget {E E':En} {g:Nat} (hw:E.w=E'.w) (hc:∀ b o u,cellAt E.w b o=some u→¬ E.pv b o→cellAt E'.w b o=some u∧¬ E'.pv b o) (hold:∀ b,E.old b→E'.old b) (hb:∀ J b,J≠g→E.box J=some b→E'.box J=some b) (U:E'.own=E.own) (O:E'.gen=E.gen)
 {v:Value} {a:A} (h:aC E v a) (ha:fL g a=true):aC E' v a:=by
 have ai:∀ {J},(!Nat.beq J g)=true→J≠g:=fun h e=>by subst e;simp at h
 have X:∀ b o u,cellAt E.w b o=some u→¬ E.pv b o→cellAt E.w b o=some u∧¬ E'.pv b o:=fun b o u h1 h2=>⟨h1,(hc b o u h1 h2).2⟩
 induction h with
 | any x=>exact .any x
 | d hd=>exact .d (hd.mono hc)
 | ag vs l hs hd=>exact .ag vs l hs (fun i u x h1 h2=>(hd i u x h1 h2).mono hc)
 | own x J es hd I hr=>exact .own x J es (hd.mono hc) (by rw[O];exact I) (fun r M=>hr r (by rw[←U];exact M))
 | agg vs l hs hone _ ih=>exact .agg vs l hs hone (fun i u x hu N=>ih i u x hu N (ey (by simpa [fL] using ha) x (List.mem_of_getElem? N)))
 | tup vs l hs _ ih=>exact .tup vs l hs (fun i u x hu N=>ih i u x hu N (ey (by simpa [fL] using ha) x (List.mem_of_getElem? N)))
 | rowd b off l u ad hd=>exact .rowd b off l u (fun j hj=>hc _ _ _ (ad j hj).1 (ad j hj).2) (fun j x N=>(hd j x N).mono hc)
 | row b off l u ad _ ih=>exact .row b off l u (fun j hj=>⟨by rw[←hw];exact(ad j hj).1,hold _ (ad j hj).2.1,(ad j hj).2.2⟩) (fun j x N=>ih j x N (ey (by simpa [fL] using ha) x (List.mem_of_getElem? N)))
 | ptr x J off b I Z hp=>exact .ptr x J off b (by rw[O];exact I) (hb J b (ai (by simpa [fL] using ha)) Z) hp
 | xs x J es I h1 N=>exact .xs x J es (by rw[O];exact I) h1 (fun r M=>hw▸(N r (by rw[←U];exact M)).da X)
 | xp x J i off l I h1 N=>exact .xp x J i off l (by rw[O];exact I) h1 (fun r M=>hw▸(N r (by rw[←U];exact M)).da X)
 | mp x J es I h1 N=>exact .mp x J es (by rw[O];exact I) h1 (fun r M=>hw▸(N r (by rw[←U];exact M)).da X)
 | mq x J es I h1 N=>exact .mq x J es (by rw[O];exact I) h1 (fun r M=>hw▸(N r (by rw[←U];exact M)).da X)
 | mo x J es hole ob I h1 N=>exact .mo x J es hole ob (by rw[O];exact I) h1 (fun r M=>hw▸(N r (by rw[←U];exact M)).da X)
 | ni t x=>exact .ni t x
 | fl x es hd aj=>exact .fl x es (hd.mono hc) aj
 | bf x J T s I h1 N=>exact .bf x J T s (by rw[O];exact I) h1 (fun r M=>hw▸N r (by rw[←U];exact M))
 | np x J T b I Z hT u hp=>exact .np x J T b (by rw[O];exact I) (hb J b (ai (by simpa [fL] using ha)) Z) (hw▸hT) u hp
 | sb x J n c b I Z hn hp=>exact .sb x J n c b (by rw[O];exact I) (hb J b (ai (by simpa [fL] using ha)) Z) hn hp
 | fx x u J es ou N I hu a1=>exact .fx x u J es ou (N.mono hc) (by rw[O];exact I) (fun r M=>hw▸(hu r (by rw[←U];exact M)).da X) a1
 | ol x u g1 E1 J es N a6 a7 I hu=>exact .ol x u g1 E1 J es (N.mono hc) (by rw[O];exact a6) (fun r M=>a7 r (by rw[←U];exact M)) (by rw[O];exact I) (fun r M=>hw▸(hu r (by rw[←U];exact M)).da X)
 | ow x v J es hd I hr=>exact .ow x v J es (hd.mono hc) (by rw[O];exact I) (fun r M=>hr r (by rw[←U];exact M))
 | lk x J n c b v I Z hn hp=>exact .lk x J n c b v (by rw[O];exact I) (hb J b (ai (by simpa [fL] using ha)) Z) hn hp
 | clo f vs l hs _ ih=>exact .clo f vs l hs (fun i u x hu N=>ih i u x hu N (ey (by simpa [fL] using ha) x (List.mem_of_getElem? N)))
 | bnd f vs l hs _ ih=>exact .bnd f vs l hs (fun i u x hu N=>ih i u x hu N (ey (by simpa [fL] using ha) x (List.mem_of_getElem? N)))
def lK (g:Nat):List Nat→List (Nat×A)→List (Nat×A)
 | _,[]=>[]
 | seen,(s,a)::r=>bif seen.any (Nat.beq s) then lK g seen r else bif fL g a then (s,a)::lK g (s::seen) r else lK g (s::seen) r
theorem jW {g:Nat}:∀ {f:List (Nat×A)} {seen:List Nat} {t:Nat} {a:A},look (lK g seen f) t=some a→look f t=some a∧fL g a=true∧t∉seen
 | [],_,t,a,h=>by simp[lK,look] at h
 | (s,b)::r,seen,t,a,h=>by
   simp only[lK] at h
   cases q:seen.any (Nat.beq s) with
   | true=>
     rw[q] at h;simp only[cond_true] at h;obtain⟨h1,h2,h3⟩:=jW h;have hm:s∈seen:=by obtain⟨y,J,hb⟩:=List.any_eq_true.1 q;rw[Nat.eq_of_beq_eq_true hb];exact J
     refine⟨?_,h2,h3⟩;rw[aN];rw[if_neg (fun e:s=t=>h3 (e▸hm))];exact h1
   | false=>
     rw[q] at h;simp only[cond_false] at h;have hm:s∉seen:=fun hm=>by have:seen.any (Nat.beq s)=true:=List.any_eq_true.2 ⟨s,hm,by simp⟩;rw[q] at this;cases this
     cases q2:fL g b with
     | true=>
       rw[q2] at h;simp only[cond_true] at h;rw[aN] at h;split at h
       ·rename_i e
        subst e;cases h;exact⟨by rw[aN,if_pos rfl],q2,hm⟩
       ·rename_i e
        obtain⟨h1,h2,h3⟩:=jW h;exact⟨by rw[aN,if_neg e];exact h1,h2,fun I=>h3 (List.mem_cons_of_mem _ I)⟩
     | false=>rw[q2] at h;simp only[cond_false] at h;obtain⟨h1,h2,h3⟩:=jW h;exact⟨by rw[aN,if_neg (fun e:s=t=>h3 (e▸List.mem_cons_self))];exact h1,h2,fun I=>h3 (List.mem_cons_of_mem _ I)⟩
def ki (g:Nat):List Nat→List (Nat×List A)→Option (List (Nat×List A))
 | _,[]=>some []
 | seen,(s,c)::r=>bif seen.any (Nat.beq s) then ki g seen r else bif Nat.beq s g then ki g (s::seen) r else bif kH g c then (match ki g (s::seen) r with | some l=>some ((s,c)::l) | none=>none) else none
theorem ia {α:Type} {f:List (Nat×α)} {s t:Nat} {a:α}:ae ((s,a)::f) t=if s=t then some a else ae f t:=by rw[bN]
theorem jR {g:Nat}:∀ {f f':List (Nat×List A)} {seen:List Nat} {t:Nat} {a:List A},ki g seen f=some f'→ae f' t=some a→ae f t=some a∧kH g a=true∧t≠g∧t∉seen
 | [],f',_,t,a,I,h=>by simp[ki] at I;subst I;simp[ae] at h
 | (s,b)::r,f',seen,t,a,I,h=>by
   simp only[ki] at I
   cases q:seen.any (Nat.beq s) with
   | true=>
     rw[q] at I;simp only[cond_true] at I;obtain⟨h1,h2,h3,h4⟩:=jR I h;have hm:s∈seen:=by obtain⟨y,M,hb⟩:=List.any_eq_true.1 q;rw[Nat.eq_of_beq_eq_true hb];exact M
     exact⟨by rw[ia,if_neg (fun e:s=t=>h4 (e▸hm))];exact h1,h2,h3,h4⟩
   | false=>
     rw[q] at I;simp only[cond_false] at I;have hm:s∉seen:=fun hm=>by have:seen.any (Nat.beq s)=true:=List.any_eq_true.2 ⟨s,hm,by simp⟩;rw[q] at this;cases this
     cases q1:Nat.beq s g with
     | true=>rw[q1] at I;simp only[cond_true] at I;obtain⟨h1,h2,h3,h4⟩:=jR I h;exact⟨by rw[ia,if_neg (fun e:s=t=>h4 (e▸List.mem_cons_self))];exact h1,h2,h3,fun J=>h4 (List.mem_cons_of_mem _ J)⟩
     | false=>
       rw[q1] at I;simp only[cond_false] at I
       cases q2:kH g b with
       | false=>rw[q2] at I;cases I
       | true=>
         rw[q2] at I;simp only[cond_true] at I;split at I
         ·rename_i l hl
          simp only[Option.some.injEq] at I;subst I;rw[ia] at h;split at h
          ·rename_i e
           subst e;cases h;exact⟨by rw[ia,if_pos rfl],q2,fun e=>by subst e;simp at q1,hm⟩
          ·rename_i e
           obtain⟨h1,h2,h3,h4⟩:=jR hl h;exact⟨by rw[ia,if_neg e];exact h1,h2,h3,fun J=>h4 (List.mem_cons_of_mem _ J)⟩
         ·cases I
section
variable {P:Program} (T:bA P) {C:Ctx} {n:Nat} {ops:Array Oper} {Q:Exit→St→Prop} {rest:List Oper}
variable {f f':List (Nat×A)} {bx bx':List (Nat×List A)} {lv:List Nat} {gen:Nat} {d:Nat} {op:Op} {ty:TypeId} {pos:String} {af:Array Edge} {a:A} {dst:Option Nat} {c:Code}
end
end Go.Ab
namespace Go.Ab
open Go.RowKit
section
variable {P:Program} (T:bA P) {C:Ctx} {n:Nat} {ops:Array Oper} {Q:Exit→St→Prop} {rest:List Oper}
variable {f:List (Nat×A)} {bx:List (Nat×List A)} {lv:List Nat} {gen:Nat} {d:Nat} {op:Op} {ty:TypeId} {pos:String} {af:Array Edge} {a:A} {dst:Option Nat} {c:Code}
theorem fh.same {w:World} {pv:Nat→Nat→Prop} {r:Row} {v J:Value} {es M:List (List D)} (h:fh w pv r v es) (I:fh w pv r J M):v=J:=by
 cases r with
 | nil=>exact h.1.trans I.1.symm
 | zero b=>exact h.1.trans I.1.symm
 | blk b len cap sz N=>exact h.1.trans I.1.symm
 | mp b bs=>exact h.elim
end
end Go.Ab
namespace Go.Ab
open Go.RowKit
section
variable {P:Program} (T:bA P) {C:Ctx} {n:Nat} {ops:Array Oper} {Q:Exit→St→Prop} {rest:List Oper}
variable {f f':List (Nat×A)} {bx bx':List (Nat×List A)} {lv:List Nat} {gen:Nat} {d:Nat} {op:Op} {ty:TypeId} {pos:String} {af:Array Edge} {a:A} {dst:Option Nat} {c:Code} {o:Oper}
theorem fh.slice {w:World} {pv:Nat→Nat→Prop} {r:Row} {v:Value} {es:List (List D)} (h:fh w pv r v es):∃ a l c,v=.slice a l c:=by
 cases r with
 | nil=>exact⟨_,_,_,h.1⟩
 | zero b=>exact⟨_,_,_,h.1⟩
 | blk b len cap sz I=>exact⟨_,_,_,h.1⟩
 | mp b bs=>exact h.elim
theorem ao.nX {G:Gh} {tmps:Array Value} {w:World} (hs:ao C n ⟨f,bx,lv,gen⟩ G tmps w) {g0:Nat} {cells cells':List A} (hb:ae bx g0=some cells) (hlen:cells'.length=cells.length)
 (J:∀ b cs T,G.box g0=some b→w.heap[b]? = some (.cells cs T (0,0))→(∀ (i:Nat) (x:Value) (a:A),cs[i]? = some x→cells[i]? = some a→aC (au C G gen w) x a)→∀ (i:Nat) (x:Value) (a:A),cs[i]? = some x→cells'[i]? = some a→aC (au C G gen w) x a) :
 ao C n ⟨f,(g0,cells')::bx,lv,gen⟩ G tmps w:=by
 refine { hs with box:=fun M l hl=>?_ };simp only[bN] at hl;split at hl
 ·rename_i e
  subst e;simp only[Option.some.injEq] at hl;subst hl;obtain⟨b,cs,I,h1,h2,h3,h4,h5⟩:=hs.box g0 cells hb;exact⟨b,cs,I,h1,h2,by rw[hlen];exact h3,h4,J b cs I h1 h2 h5⟩
 ·exact hs.box M l hl
end
end Go.Ab
namespace Go.Ab
open Go.RowKit Go.MapKept
section
variable {P:Program} (T:bA P) {C:Ctx} {n:Nat} {ops:Array Oper} {Q:Exit→St→Prop} {rest:List Oper}
variable {f:List (Nat×A)} {bx:List (Nat×List A)} {lv:List Nat} {gen:Nat} {d:Nat} {ty:TypeId} {pos:String} {af:Array Edge} {dst:Option Nat}
variable {α β:Type} [DecidableEq α] {kf:α→Value} {vf:β→D}
theorem Dl (gq J:Nat) {mt k e:Nat} {td:bH} {m kx x:Operand} {g:Nat} {U:List A} {l:List (α×β)} {a:α} {y:β} {xa:A} (hm:av f m=some (.mp g (ee kf vf l))) (hq:ae bx gq=some U) (hj:U[J]? = some (.mp g (ee kf vf l)))
 (hk:av f kx=some (.d (.v (kf a)))) (N:av f x=some xa) (c6:yb xa=some (vf y))
 (ht:ae T.l mt=some td) (c7:td.k=.map k e) (df:iE P k kf) (ai:(lv.any fun h=>Nat.beq h g)=true) (hn:(l.map (·.1)).Nodup) {aj:List (Value×List D)} (di:ee kf vf (cr l a y)=aj) {lv':List Nat} (dj:gen::bk lv g=lv') {a1:List A} (dt:U.set J (.mp gen aj)=a1)
 (h:WO P C n ops Q rest ⟨f,(gq,a1)::bx,lv',gen+1⟩):WO P C n ops Q (⟨none,.mapUpdate mt m kx x,ty,pos,af,none⟩::rest) ⟨f,bx,lv,gen⟩:=by
 subst dt;subst di;subst dj;refine WO.step (st:=⟨f,bx,lv,gen⟩) rfl fun tmps w ⟨G,hs⟩=>?_;have a6:=hs.av hm;have M:=hs.av hk;have dx:=vP c6 (hs.av N);generalize hv:Act.eval ⟨tmps,[]⟩ m=v at a6;generalize ed:Act.eval ⟨tmps,[]⟩ kx=vk at M;obtain⟨b,bs,a7,rfl,me,clock,hb,ei,ej⟩:=hs.qI a6 (cM ai);cases M with | d M=>cases M with | v _ hok=>
 obtain⟨X,I,cj,cl,Z⟩:=rJ T ht c7 df hb ei ej hn a hok dx;have h0:(execOp (Act.eval ⟨tmps,[]⟩) ⟨none,.mapUpdate mt m kx x,ty,pos,af,none⟩).run P w=.ok .skip { w with heap:=w.heap.setIfInBounds b (.map X I) }:=by unfold execOp;show Sem.run P _ w=.ok _ _;simp only[hv,ed,Sem.run_bind,cj,Result.andThen_ok,Sem.run_pure]
 obtain⟨b0,ad,T0,p1,p2,p3,p4,p5⟩:=hs.box gq U hq;have en:J < ad.size:=by rw[p3];exact(List.getElem?_eq_some_iff.1 hj).1
 have a8:ad[J]? = some ad[J]:=by simp[en]
 have cx:=p5 J _ _ a8 hj;obtain⟨b2,e0,cy,c1,_⟩:=hs.qI cx (cM ai);have e2:b2=b∧e0=bs:=by have:=cy.symm.trans a7;simpa using this
 obtain⟨rfl,rfl⟩:=e2;obtain⟨G',e1,e3,e4⟩:=hs.zd a7 X I cl (es:=ee kf vf (cr l a y)) (by rw[Z.1];simp[ee]) (fun i m k l' hm hk=>by simp only[ee,List.getElem?_map,Option.map_eq_some_iff] at hk;obtain⟨p,hp,e⟩:=hk;simp only[Prod.mk.injEq] at e;obtain⟨rfl,rfl⟩:=e;exact Z.2 i m p hm hp) (bk lv g) (fun g' e5=>cK e5);refine fT h0 ⟨_,⟨G',e3.nX hq (by simp) fun b3 ff T3 q1 q2 q3 i x' a' N O=>?_⟩,h⟩;by_cases e:J=i
 ·subst e
  have ch:J < (U.set J (.mp gen (ee kf vf (cr l a y)))).length:=(List.getElem?_eq_some_iff.1 O).1;rw[List.length_set] at ch;rw[List.getElem?_set_self ch] at O;simp only[Option.some.injEq] at O;subst O;rw[e1,p1] at q1;simp only[Option.some.injEq] at q1;subst q1;have e6:b0≠b2:=fun e=>by rw[e,hb] at p2;cases p2
  rw[(heap_set (o':=Obj.map X I) hb).2 b0 e6,p2] at q2;simp only[Option.some.injEq,Obj.cells.injEq] at q2;rw[←q2.1,a8] at N;simp only[Option.some.injEq] at N;subst N;rw[c1];exact e4
 ·rw[List.getElem?_set_ne e] at O
  exact q3 i x' a' N O
end
end Go.Ab
namespace Go.Ab
open Go.RowKit Go.MapKept
section
variable {C:Ctx} {n:Nat} {st:St} {G:Gh} {tmps:Array Value} {w:World}
theorem ao.split (h:ao C n st G tmps w) {g b:Nat} {bs bs':List (Nat×Nat)} (hg:G.own g=some (.mp b bs)) (a7:∀ p∈bs',p∈bs) (r2:Row) (c1:∀ U bs',r2≠.mp U bs')
 (a8:∀ c len cap sz O,r2=.blk c len cap sz O→(c,O)∈bs∧(∀ p∈bs',p.1≠c)∧∃ cur T,w.heap[c]? = some (.cells cur T (0,0))∧cur.size=cap*sz∧len≤cap∧cap≤maxLen∧0 < sz∧0 < len∧O≤len*sz∧eF cur)
 (lv:List Nat) (c6:∀ I∈lv,I∈st.lv∧I≠g) :
 ∃ G':Gh,G'.box=G.box∧G'.own st.gen=some (.mp b bs')∧G'.own (st.gen+1)=some r2∧(au C G st.gen w).le (au C G' (st.gen+2) w)∧ao C n { st with lv:=st.gen::(st.gen+1)::lv,gen:=st.gen+2 } G' tmps w:=by
 let M:Nat→Option Row:=fun I=>if I=st.gen then some (.mp b bs') else if I=st.gen+1 then some r2 else if I=g then none else G.own I;have dj:=h.gown g _ hg;have ad:∀ {I c len cap sz O},M I=some (.blk c len cap sz O)→(I=st.gen+1∧r2=.blk c len cap sz O)∨(I≠st.gen∧I≠st.gen+1∧I≠g∧G.own I=some (.blk c len cap sz O)):=by
  intro I c len cap sz O X;simp only[M] at X;split at X;·cases X
  ·split at X
   ·rename_i e;exact .inl ⟨e,Option.some.inj X⟩
   ·split at X
    ·cases X
    ·rename_i e1 e2 N;exact .inr ⟨e1,e2,N,X⟩
 have aj:∀ {I b2 Z},M I=some (.mp b2 Z)→(I=st.gen∧b2=b∧Z=bs')∨(I≠st.gen∧I≠st.gen+1∧I≠g∧G.own I=some (.mp b2 Z)):=by
  intro I b2 Z X;simp only[M] at X;split at X;·rename_i e;simp only[Option.some.injEq,Row.mp.injEq] at X;exact .inl ⟨e,X.1.symm,X.2.symm⟩
  ·split at X
   ·exact absurd (Option.some.inj X) (c1 _ _)
   ·split at X
    ·cases X
    ·rename_i e1 e2 N;exact .inr ⟨e1,e2,N,X⟩
 have c7:∀ U o,aS C ⟨G.box,M⟩ U o→aS C G U o:=by
  rintro U o (hp | hp | ⟨I,cl,cq,df,ch,hp,hl'⟩ | ⟨I,b2,Z,lim,hp,hm,hl'⟩);·exact .inl hp
  ·exact .inr (.inl hp)
  ·rcases ad hp with ⟨_,e⟩ | ⟨_,_,_,e⟩
   ·exact .inr (.inr (.inr ⟨g,b,bs,ch,hg,(a8 _ _ _ _ _ e).1,hl'⟩))
   ·exact .inr (.inr (.inl ⟨I,cl,cq,df,ch,e,hl'⟩))
  ·rcases aj hp with ⟨_,rfl,rfl⟩ | ⟨_,_,_,e⟩
   ·exact .inr (.inr (.inr ⟨g,_,bs,lim,hg,a7 _ hm,hl'⟩))
   ·exact .inr (.inr (.inr ⟨I,b2,Z,lim,e,hm,hl'⟩))
 have hle:(au C G st.gen w).le (au C ⟨G.box,M⟩ (st.gen+2) w):=ju h.fr h.fr (fun U o u hu hn=>⟨hu,fun hp=>hn (c7 U o hp)⟩) (fun _ _ h=>h)
  (fun I r' ai J=>by
   simp only[M,if_neg (Nat.ne_of_lt ai),if_neg (Nat.ne_of_lt (Nat.lt_succ_of_lt ai))] at J;split at J;·cases J
   ·exact J) (by omega) (fun _ _ _ _ _ _ _ _=>rfl) (fun _ _ _ _ _=>⟨rfl,fun _ _=>rfl⟩) (.refl w)
 refine⟨⟨G.box,M⟩,rfl,by simp[M],by simp[M],hle,{ size:=h.size,frame:=h.du hle,inj:=h.inj,xold:=h.xold,kold:=h.kold,lent:=h.lent,fr:=h.fr,gcell:=h.gcell,box:=?_,gbox:=?_,live:=?_,gown:=?_,row:=?_,mrow:=?_,sub:=?_ }⟩
 ·intro I cells hc
  obtain⟨U,cs,T',h1,h2,h3,h4,h5⟩:=h.box I cells hc;exact⟨U,cs,T',h1,h2,h3,h4,fun i u a hu ha=>(h5 i u a hu ha).mono hle⟩
 ·intro I U hb
  obtain⟨h1,h2,h3⟩:=h.gbox I U hb;exact⟨by simp only;omega,h2,h3⟩
 ·intro I ai
  rcases List.mem_cons.1 ai with rfl | ai
  ·exact⟨_,by simp[M];rfl⟩
  ·rcases List.mem_cons.1 ai with rfl | ai
   ·exact⟨_,by simp[M];rfl⟩
   ·obtain⟨h1,h2⟩:=c6 I ai
    obtain⟨r',J⟩:=h.live I h1;have:=h.gown I r' J;exact⟨r',by simp only[M];rw[if_neg (by omega),if_neg (by omega),if_neg h2];exact J⟩
 ·intro I r' J
  simp only[M] at J;split at J;·simp only;omega
  ·split at J
   ·simp only;omega
   ·split at J
    ·cases J
    ·have:=h.gown I r' J;simp only;omega
 ·intro I U len cap sz O J
  rcases ad J with ⟨e0,e⟩ | ⟨_,e1,e2,e⟩
  ·obtain⟨q1,q2,q3⟩:=a8 _ _ _ _ _ e
   obtain⟨s1,s2,s3,_⟩:=h.sub g b bs U O hg q1;refine⟨s1,s2,fun g2 cx cy di cj h2=>?_,q3⟩;rcases ad h2 with ⟨N,_⟩ | ⟨_,_,_,N⟩
   ·omega
   ·exact absurd N (s3 _ _ _ _ _)
  ·obtain⟨s1,s2,s3,s4⟩:=h.row I U len cap sz O e
   refine⟨s1,s2,fun g2 cx cy di cj h2=>?_,s4⟩;rcases ad h2 with ⟨_,N⟩ | ⟨_,_,_,N⟩
   ·exact absurd e ((h.sub g b bs U cj hg (a8 _ _ _ _ _ N).1).2.2.1 _ _ _ _ _)
   ·exact s3 _ _ _ _ _ N
 ·intro I U Z J
  rcases aj J with ⟨e0,rfl,rfl⟩ | ⟨e0,e1,e2,e⟩
  ·obtain⟨s1,s2,s3,s4⟩:=h.mrow g _ bs hg
   refine⟨s1,s2,fun g2 a1 h2=>?_,s4⟩;rcases aj h2 with ⟨N,_⟩ | ⟨_,_,e4,N⟩
   ·omega
   ·exact absurd (s3 g2 a1 N) e4
  ·obtain⟨s1,s2,s3,s4⟩:=h.mrow I U Z e
   refine⟨s1,s2,fun g2 a1 h2=>?_,s4⟩;rcases aj h2 with ⟨_,rfl,_⟩ | ⟨_,_,_,N⟩
   ·exact absurd (s3 g bs hg).symm e2
   ·exact s3 g2 a1 N
 ·intro I U Z c lim J hm
  rcases aj J with ⟨e0,rfl,rfl⟩ | ⟨e0,e1,e2,e⟩
  ·obtain⟨s1,s2,s3,s4,s5⟩:=h.sub g _ bs c lim hg (a7 _ hm)
   refine⟨s1,s2,fun g2 len cap sz O h2=>?_,fun g2 b3 a1 a6 h2 b0=>?_,s5⟩
   ·rcases ad h2 with ⟨_,N⟩ | ⟨_,_,_,N⟩
    ·exact(a8 _ _ _ _ _ N).2.1 _ hm rfl
    ·exact s3 _ _ _ _ _ N
   ·rcases aj h2 with ⟨N,rfl,rfl⟩ | ⟨_,_,e4,N⟩
    ·exact⟨by omega,(s4 g _ bs a6 hg (a7 _ b0)).2⟩
    ·exact absurd (s4 g2 b3 a1 a6 N b0).1 e4
  ·obtain⟨s1,s2,s3,s4,s5⟩:=h.sub I U Z c lim e hm
   refine⟨s1,s2,fun g2 len cap sz O h2=>?_,fun g2 b3 a1 a6 h2 b0=>?_,s5⟩
   ·rcases ad h2 with ⟨_,N⟩ | ⟨_,_,_,N⟩
    ·exact e2 ((s4 g b bs O hg (a8 _ _ _ _ _ N).1).1).symm
    ·exact s3 _ _ _ _ _ N
   ·rcases aj h2 with ⟨_,rfl,rfl⟩ | ⟨_,_,_,N⟩
    ·exact absurd ((s4 g _ bs a6 hg (a7 _ b0)).1).symm e2
    ·exact s4 g2 b3 a1 a6 N b0
theorem ao.join (h:ao C n st G tmps w) {g g2 b:Nat} {bs bs':List (Nat×Nat)} (hg:G.own g=some (.mp b bs)) {r2:Row} (ai:G.own g2=some r2) (hq:g2≠g) (c6:∀ p∈bs',p∈bs∨∃ len cap sz,r2=.blk p.1 len cap sz p.2) (me:Array MapEntry) (clock:Nat)
 (lv:List Nat) (ff:∀ I∈lv,I∈st.lv∧I≠g∧I≠g2) :
 ∃ G':Gh,G'.box=G.box∧G'.own st.gen=some (.mp b bs')∧(au C G st.gen w).le (au C G' (st.gen+1) { w with heap:=w.heap.setIfInBounds b (.map me clock) })∧ao C n { st with lv:=st.gen::lv,gen:=st.gen+1 } G' tmps { w with heap:=w.heap.setIfInBounds b (.map me clock) }:=by
 obtain⟨dj,fj,cx,ht,fo,c7⟩:=h.mrow g b bs hg;obtain⟨ej,a6⟩:=heap_set (o':=Obj.map me clock) c7;let N:Nat→Option Row:=fun I=>if I=st.gen then some (.mp b bs') else if I=g then none else if I=g2 then none else G.own I;generalize dt:({ w with heap:=w.heap.setIfInBounds b (.map me clock) }:World)=w';have e1:w'.heap=w.heap.setIfInBounds b (.map me clock):=by rw[←dt]
 have e2:w'.os=w.os:=by rw[←dt]
 have e3:w'.tape=w.tape:=by rw[←dt]
 have e4:w'.output=w.output:=by rw[←dt]
 rw[←e1] at ej a6;have e5:w'.heap.size=w.heap.size:=by rw[e1];simp
 have ei:∀ o,Ab.cellAt w b o=none:=fun o=>by simp[Ab.cellAt,World.cell?,c7]
 have dx:∀ J o u,Ab.cellAt w J o=some u→Ab.cellAt w' J o=some u:=fun J o u hu=>by
  have aj:J≠b:=fun e=>by subst e;rw[ei] at hu;cases hu
  rw[br (a6 J aj)];exact hu
 have a8:∀ {c:Nat} {cs:Array Value} {T:TypeId} {f:Nat×Nat},w.heap[c]? = some (.cells cs T f)→w'.heap[c]? = some (.cells cs T f):=fun {c cs T f} hc=>by rw[a6 c (fun e=>by rw[e,c7] at hc;cases hc)];exact hc
 have en:dc w w':=fun J cs T f h=>⟨cs,f,a8 h⟩;have hv:=h.gown g _ hg;have gq:=h.gown g2 _ ai;have a7:∀ {I r'},N I=some r'→I≠st.gen→G.own I=some r'∧I≠g∧I≠g2:=by
  intro I r' O aj;simp only[N,if_neg aj] at O;split at O;·cases O
  ·split at O
   ·cases O
   ·rename_i e1 e2;exact⟨O,e1,e2⟩
 have e0:∀ {r'},N st.gen=some r'→r'=.mp b bs':=fun {r'} O=>by simpa [N] using O.symm
 have b0:∀ {I c len cap sz Z},N I=some (.blk c len cap sz Z)→I≠st.gen∧I≠g∧I≠g2∧G.own I=some (.blk c len cap sz Z):=fun {I c len cap sz Z} O=>by
  have aj:I≠st.gen:=fun e=>by subst e;cases e0 O
  obtain⟨q1,q2,q3⟩:=a7 O aj;exact⟨aj,q2,q3,q1⟩
 have ch:∀ {I b2 U},N I=some (.mp b2 U)→(I=st.gen∧b2=b∧U=bs')∨(I≠st.gen∧I≠g∧I≠g2∧G.own I=some (.mp b2 U)):=fun {I b2 U} O=>by
  by_cases e:I=st.gen
  ·subst e
   have:=e0 O;simp only[Row.mp.injEq] at this;exact .inl ⟨rfl,this.1,this.2⟩
  ·obtain⟨q1,q2,q3⟩:=a7 O e
   exact .inr ⟨e,q2,q3,q1⟩
 have df:∀ {c lim},(c,lim)∈bs'→C.gl c lim∧(∀ I,G.box I≠some c)∧(∀ I len cap sz Z,G.own I=some (.blk c len cap sz Z)→I=g2∧Z=lim)∧(∀ I b3 X ad,G.own I=some (.mp b3 X)→(c,ad)∈X→I=g∧ad=lim∧(c,lim)∈bs)∧∃ cur T,w.heap[c]? = some (.cells cur T (0,0))∧lim≤cur.size∧eF cur:=by
  intro c lim hm;rcases c6 _ hm with hm | ⟨len,cap,sz,O⟩
  ·obtain⟨s1,s2,s3,s4,s5⟩:=h.sub g b bs c lim hg hm
   exact⟨s1,s2,fun I len cap sz Z O=>absurd O (s3 _ _ _ _ _),fun I b3 X ad O ed=>⟨(s4 I b3 X ad O ed).1,(s4 I b3 X ad O ed).2,hm⟩,s5⟩
  ·rw[O] at ai
   obtain⟨s1,s2,s3,cur,T,s4,s5,s6,s7,s8,s9,hx,fs⟩:=h.row g2 c len cap sz lim ai;refine⟨s1,s2,fun I cj cl cy cq M=>?_,fun I b3 X ad M ed=>absurd ai ((h.sub I b3 X c ad M ed).2.2.1 _ _ _ _ _),cur,T,s4,?_,fs⟩
   ·have:=s3 I cj cl cy cq M
    subst this;rw[ai] at M;simp only[Option.some.injEq,Row.blk.injEq] at M;exact⟨rfl,M.2.2.2.2.symm⟩
   ·have:len*sz≤cap*sz:=Nat.mul_le_mul_right _ s6
    omega
 have ft:∀ J o,aS C ⟨G.box,N⟩ J o→aS C G J o:=by
  rintro J o (hp | hp | ⟨I,cj,cl,cy,cq,hp,hl'⟩ | ⟨I,b2,U,lim,hp,hm,hl'⟩);·exact .inl hp
  ·exact .inr (.inl hp)
  ·exact .inr (.inr (.inl ⟨I,cj,cl,cy,cq,(b0 hp).2.2.2,hl'⟩))
  ·rcases ch hp with ⟨_,rfl,rfl⟩ | ⟨_,_,_,e⟩
   ·rcases c6 _ hm with hm | ⟨len,cap,sz,O⟩
    ·exact .inr (.inr (.inr ⟨g,_,bs,lim,hg,hm,hl'⟩))
    ·rw[O] at ai;exact .inr (.inr (.inl ⟨g2,len,cap,sz,lim,ai,hl'⟩))
   ·exact .inr (.inr (.inr ⟨I,b2,U,lim,e,hm,hl'⟩))
 have e6:Fr C w':=⟨e2.trans h.fr.os,e3.trans h.fr.tape,e4.trans h.fr.output,by rw[e5];exact h.fr.size,fun J h1 h2=>by rw[a6 J (fun e=>by subst e;exact dj.1.elim (fun hm=>by omega) h2)];exact h.fr.block J h1 h2,fun J o u hk hu=>dx J o u (h.fr.cells J o u hk hu),h.fr.ty.trans en⟩
 have hle:(au C G st.gen w).le (au C ⟨G.box,N⟩ (st.gen+1) w'):=ju h.fr e6 (fun J o u hu hn=>⟨dx J o u hu,fun hp=>hn (ft J o hp)⟩) (fun _ _ h=>h)
  (fun I r' a1 M=>(a7 M (Nat.ne_of_lt a1)).1) (Nat.le_succ _) (fun I J cj cl cy cq a1 M=>by
   obtain⟨_,_,_,cur,T,q1,_⟩:=h.row I J cj cl cy cq (a7 M (Nat.ne_of_lt a1)).1;rw[q1];exact a8 q1) (fun I J U a1 M=>by
   obtain⟨q1,q2,q3⟩:=a7 M (Nat.ne_of_lt a1);refine⟨a6 J (fun e=>by subst e;exact q2 (cx I U q1)),fun p hp=>?_⟩;obtain⟨_,_,_,_,cur,T,q4,_⟩:=h.sub I J U p.1 p.2 q1 hp;rw[q4];exact a8 q4) en
 refine⟨⟨G.box,N⟩,rfl,by simp[N],hle,{ size:=h.size,frame:=h.du hle,inj:=h.inj,xold:=h.xold,kold:=h.kold,lent:=h.lent,fr:=e6,gcell:=fun I J gb=>ka en (h.gcell I J gb),box:=?_,gbox:=?_,live:=?_,gown:=?_,row:=?_,mrow:=?_,sub:=?_ }⟩
 ·intro I cells hc
  obtain⟨J,cs,T',h1,h2,h3,h4,h5⟩:=h.box I cells hc;exact⟨J,cs,T',h1,a8 h2,h3,h4,fun i u a hu ha=>(h5 i u a hu ha).mono hle⟩
 ·intro I J hb
  obtain⟨h1,h2,h3⟩:=h.gbox I J hb;exact⟨Nat.lt_succ_of_lt h1,by rw[e5];exact h2,h3⟩
 ·intro I a1
  rcases List.mem_cons.1 a1 with rfl | a1
  ·exact⟨_,by simp[N];rfl⟩
  ·obtain⟨h1,h2,h3⟩:=ff I a1
   obtain⟨r',M⟩:=h.live I h1;exact⟨r',by simp only[N,if_neg (Nat.ne_of_lt (h.gown I r' M)),if_neg h2,if_neg h3];exact M⟩
 ·intro I r' M
  by_cases e:I=st.gen;·simp only;omega
  ·exact Nat.lt_succ_of_lt (h.gown I r' (a7 M e).1)
 ·intro I J len cap sz Z M
  obtain⟨_,_,_,e⟩:=b0 M;obtain⟨s1,s2,s3,cur,T,s4,s5⟩:=h.row I J len cap sz Z e;exact⟨s1,s2,fun g3 hf hh hy ho h2=>s3 _ _ _ _ _ (b0 h2).2.2.2,cur,T,a8 s4,s5⟩
 ·intro I J U M
  rcases ch M with ⟨n0,rfl,rfl⟩ | ⟨n0,n1,n2,e⟩
  ·refine⟨dj,fj,fun g3 X h2=>?_,me,clock,ej⟩
   rcases ch h2 with ⟨q,_⟩ | ⟨_,q2,_,q3⟩
   ·omega
   ·exact absurd (cx g3 X q3) q2
  ·obtain⟨s1,s2,s3,gi,gj,s4⟩:=h.mrow I J U e
   have aj:J≠b:=fun e=>by subst e;exact n1 (cx I U (by assumption))
   refine⟨s1,s2,fun g3 X h2=>?_,gi,gj,by rw[a6 J aj];exact s4⟩;rcases ch h2 with ⟨_,q,_⟩ | ⟨_,_,_,q3⟩
   ·exact absurd q aj
   ·exact s3 g3 X q3
 ·intro I J U c lim M hm
  rcases ch M with ⟨n0,rfl,rfl⟩ | ⟨n0,n1,n2,e⟩
  ·obtain⟨s1,s2,s3,s4,cur,T,s5,s6⟩:=df hm
   refine⟨s1,s2,fun g3 len cap sz Z h2=>?_,fun g3 b3 X di h2 c1=>?_,cur,T,a8 s5,s6⟩
   ·obtain⟨_,_,q3,q4⟩:=b0 h2
    exact q3 (s3 _ _ _ _ _ q4).1
   ·rcases ch h2 with ⟨q,rfl,rfl⟩ | ⟨_,q2,_,q3⟩
    ·refine⟨by omega,?_⟩
     obtain⟨_,_,t3,t4,_⟩:=df c1;rcases c6 _ hm with q4 | ⟨len,cap,sz,q4⟩
     ·exact((t4 g _ bs lim hg q4).2.1).symm
     ·rw[q4] at ai
      exact((t3 g2 len cap sz lim ai).2).symm
    ·exact absurd (s4 g3 b3 X di q3 c1).1 q2
  ·obtain⟨s1,s2,s3,s4,cur,T,s5,s6⟩:=h.sub I J U c lim e hm
   refine⟨s1,s2,fun g3 len cap sz Z h2=>s3 _ _ _ _ _ (b0 h2).2.2.2,fun g3 b3 X di h2 c1=>?_,cur,T,a8 s5,s6⟩;rcases ch h2 with ⟨_,rfl,rfl⟩ | ⟨_,_,_,q3⟩
   ·exact absurd ((df c1).2.2.2.1 I J U lim e hm).1 n1
   ·exact s4 g3 b3 X di q3 c1
end
end Go.Ab
namespace Go.Ab
open Go.RowKit Go.MapKept
def fD {α γ:Type} (kf:α→Value) (fn:γ→List D) (l:List (α×List γ)):List (Value×List (List D)):=l.map fun p=>(kf p.1,p.2.map fn)
section
variable {α γ:Type} {kf:α→Value} {fn:γ→List D}
theorem xm {l:List (α×List γ)} {i:Nat} {k:Value} {x:List (List D)} (h:(fD kf fn l)[i]? = some (k,x)):∃ p,l[i]? = some p∧k=kf p.1∧x=p.2.map fn:=by simp only[fD,List.getElem?_map,Option.map_eq_some_iff] at h;obtain⟨p,hp,e⟩:=h;simp only[Prod.mk.injEq] at e;exact⟨p,hp,e.1.symm,e.2.symm⟩
theorem uW {l:List (α×List γ)} {k:Value} {x:List (List D)} (h:(k,x)∈fD kf fn l):∃ p∈l,k=kf p.1∧x=p.2.map fn:=by obtain⟨i,hi⟩:=List.mem_iff_getElem?.1 h;obtain⟨p,hp,e⟩:=xm hi;exact⟨p,List.mem_of_getElem? hp,e⟩
structure nH (w:World) (pv:Nat→Nat→Prop) (b:Nat) (bs:List (Nat×Nat)) (kf:α→Value) (fn:γ→List D) (l:List (α×List γ)) (hole:Option Value) (me:Array MapEntry) (clock:Nat) (ps:Value→Option Nat):Prop where
 hb:w.heap[b]? = some (.map me clock)
 st:Stamped me clock
 mi:gk w pv kf (fun x:List γ=>D.sl (x.map fn)) me l
 inj:∀ p p':α×List γ,∀ c,p∈l→p'∈l→hole≠some (kf p.1)→hole≠some (kf p'.1)→ps (kf p.1)=some c→ps (kf p'.1)=some c→kf p.1=kf p'.1
 at_:∀ (i:Nat) (m:MapEntry) (p:α×List γ),me[i]? = some m→l[i]? = some p→hole≠some (kf p.1)→mQ w (ps (kf p.1)) bs m.val (p.2.map fn)
theorem nH.of {w:World} {pv:Nat→Nat→Prop} {b:Nat} {bs:List (Nat×Nat)} {v:Value} {l:List (α×List γ)} {hole:Option Value} (h:kp w pv (.mp b bs) v (fD kf fn l) hole):v=.map (some b)∧∃ I clock ps,nH w pv b bs kf fn l hole I clock ps:=by
 obtain⟨h1,I,clock,h2,h3,h4,ps,h5,J⟩:=h;refine⟨h1,I,clock,ps,h2,h3,⟨by rw[h4];simp[fD],fun i m p hm hp=>?_⟩,fun p M c hp N q1 q2 q3 q4=>?_,fun i m p hm hp O=>?_⟩
 ·obtain⟨q1,q2,q3,_⟩:=J i m (kf p.1) (p.2.map fn) hm (by simp[fD,hp])
  exact⟨q1,q2,q3⟩
 ·exact h5 _ _ (p.2.map fn) (M.2.map fn) c (List.mem_map.2 ⟨p,hp,rfl⟩) (List.mem_map.2 ⟨M,N,rfl⟩) q1 q2 q3 q4
 ·exact(J i m (kf p.1) (p.2.map fn) hm (by simp[fD,hp])).2.2.2 O
theorem nH.to {w:World} {pv:Nat→Nat→Prop} {b:Nat} {bs:List (Nat×Nat)} {l:List (α×List γ)} {hole:Option Value} {J:Array MapEntry} {clock:Nat} {ps:Value→Option Nat} (h:nH w pv b bs kf fn l hole J clock ps):kp w pv (.mp b bs) (.map (some b)) (fD kf fn l) hole:=by
 refine⟨rfl,J,clock,h.hb,h.st,by rw[h.mi.1];simp[fD],ps,fun k U x X c I M q1 q2 q3 q4=>?_,fun i m k x hm I=>?_⟩
 ·obtain⟨p,hp,rfl,rfl⟩:=uW I
  obtain⟨O,N,rfl,rfl⟩:=uW M;exact h.inj p O c hp N q1 q2 q3 q4
 ·obtain⟨p,hp,rfl,rfl⟩:=xm I
  obtain⟨q1,q2,q3⟩:=h.mi.2 i m p hm hp;exact⟨q1,q2,q3,h.at_ i m p hm hp⟩
theorem mQ.mono {w w':World} {bs bs':List (Nat×Nat)} {o:Option Nat} {v:Value} {l:List (List D)} (h:mQ w o bs v l) (I:∀ c lim,o=some c→(c,lim)∈bs→(c,lim)∈bs'∧w'.heap[c]? = w.heap[c]?):mQ w' o bs' v l:=by
 cases o with
 | none=>exact h
 | some c=>obtain⟨cap,sz,cur,T,J,a2,a3,a4,a5,M,N,O,a9⟩:=h;obtain⟨q1,q2⟩:=I c _ rfl a2;exact⟨cap,sz,cur,T,J,q1,a3,a4,a5,M,N,by rw[q2];exact O,a9⟩
end
section
variable {P:Program} (T:bA P) {C:Ctx} {n:Nat} {ops:Array Oper} {Q:Exit→St→Prop} {rest:List Oper}
variable {f:List (Nat×A)} {bx:List (Nat×List A)} {lv:List Nat} {gen:Nat} {d:Nat} {ty:TypeId} {pos:String} {af:Array Edge} {dst:Option Nat} {c:Code}
variable {α γ:Type} [DecidableEq α] {kf:α→Value} {fn:γ→List D}
omit [DecidableEq α] in
theorem ao.A8 {st:St} {G:Gh} {tmps:Array Value} {w:World} (hs:ao C n st G tmps w) {v:Value} {g:Nat} {l:List (α×List γ)} {hole:Option Value} {U:Option Nat} (X:aC (au C G st.gen w) v (.mo g (fD kf fn l) hole U)) (O:g∈st.lv) :
 ∃ b bs M clock ps,G.own g=some (.mp b bs)∧v=.map (some b)∧nH w (aS C G) b bs kf fn l hole M clock ps:=by
 obtain⟨r,J⟩:=hs.live g O
 cases X with
 | mo _ _ _ _ _ Z h1 N=>
 have I:=N r J
 cases r with
 | nil=>exact I.elim
 | zero b=>exact I.elim
 | blk b len cap sz ad=>exact I.elim
 | mp b bs=>obtain⟨h2,M,clock,ps,h3⟩:=nH.of I;exact⟨b,bs,M,clock,ps,J,h2,h3⟩
theorem DY {t:TypeId} (hd:Nat.blt d n=true) (h:WO P C n ops Q rest ⟨(d,.mo gen [] none none)::f,bx,gen::lv,gen+1⟩):WO P C n ops Q (⟨some d,.makeMap t none,ty,pos,af,none⟩::rest) ⟨f,bx,lv,gen⟩:=by
 refine WO.step (st:=⟨f,bx,lv,gen⟩) rfl fun tmps w ⟨G,hs⟩=>?_;obtain⟨U,N,J⟩:=hs.uC;refine bT (v:=.map (some w.heap.size)) (w':=w.alloc (.map #[] 0)) ?_ ⟨_,⟨U,N.put (dst:=some d) (bQ (dst:=some d) hd) ?_⟩,h⟩
 ·unfold execOp
  show Sem.run P _ w=.ok _ _;simp[Instr.makeMap,Sem.run_bind,Result.andThen]
 ·cases J with
  | mp _ _ _ O h1 M=>
  refine .mo _ _ _ _ _ O ⟨h1,fun b hb=>by cases hb⟩ (fun r J=>?_);have I:=M r J
  cases r with
  | nil=>exact I.elim
  | zero b=>exact I.elim
  | blk b len cap sz ad=>exact I.elim
  | mp b bs=>obtain⟨q1,X,clock,q2,q3,q4,_⟩:=I;exact⟨q1,X,clock,q2,q3,q4,fun _=>none,fun _ _ _ _ _ h=>(by cases h),fun i m k x hm Z=>(by simp at Z)⟩
theorem W.DX (gq I:Nat) {g:Nat} {Z:List A} {es:List (Value×List (List D))} {hole:Option Value} (hq:ae bx gq=some Z) (hj:Z[I]? = some (.mo g es hole none)) (ad:(lv.any fun h=>Nat.beq h g)=true)
 (h:∀ b,W P C n c Q ⟨f,(gq,Z.set I (.mo g es hole (some b)))::bx,lv,gen⟩):W P C n c Q ⟨f,bx,lv,gen⟩:=by
 intro tmps w ⟨G,hs⟩;obtain⟨r,ai⟩:=hs.live g (cM ad);obtain⟨b0,J,T0,p1,p2,p3,p4,p5⟩:=hs.box gq Z hq;have aj:I < J.size:=by rw[p3];exact(List.getElem?_eq_some_iff.1 hj).1
 have M:J[I]? = some J[I]:=by simp[aj]
 have N:=p5 I _ _ M hj;generalize hv:J[I]=v at N M
 cases N with
 | mo _ _ _ _ _ a1 h1 O=>
 have hx:=O r ai
 cases r with
 | nil=>exact hx.elim
 | zero b=>exact hx.elim
 | blk b len cap sz a8=>exact hx.elim
 | mp b bs=>
   have a6:v=.map (some b):=hx.1;refine h b tmps w ⟨G,hs.nX hq (by simp) fun b3 b2 T3 q1 q2 q3 i x' a' U X=>?_⟩;by_cases e:I=i
   ·subst e
    rw[List.getElem?_set_self (List.getElem?_eq_some_iff.1 hj).1] at X;simp only[Option.some.injEq] at X;subst X;rw[p1] at q1;cases q1;rw[p2] at q2;cases q2;rw[M] at U;cases U;exact .mo _ _ _ _ _ a1 ⟨h1.1,fun b' a7=>by cases a7;exact a6⟩ O
   ·rw[List.getElem?_set_ne e] at X
    exact q3 i x' a' U X
theorem pZ {w:World} {pv:Nat→Nat→Prop} {β:Type} {vf:β→D} {mt k e:Nat} {O I:bH} (ht:ae T.l mt=some O) (U:O.k=.map k e) (he:ae T.l e=some I) (M:iE P k kf) {zx:Value} (X:I.z=[zx]) (Z:lz I.k=true) {b:Nat} {N:Array MapEntry} {clock:Nat}
 (hb:w.heap[b]? = some (.map N clock)) {l:List (α×β)} (h:gk w pv kf vf N l) (hn:(l.map (·.1)).Nodup) (a:α) :
 ∃ v,(Instr.lookup mt (.map (some b)) (kf a) false).run P w=.ok v w∧((bO l a=none∧(∀ p∈l,p.1≠a)∧v=zx)∨∃ (j:Nat) (m:MapEntry) (p:α×β),N[j]? = some m∧l[j]? = some p∧p.1=a∧v=m.val∧bO l a=some p.2∧aI w pv v (vf p.2)):=by
 obtain⟨d,hd,hk⟩:=M.ty;have hm:=T.tY ht U;rcases h.find M hn a with ⟨h1,h2,h3⟩ | ⟨j,en,p,h1,h2,h3,h4,h5,h6,h7⟩
 ·obtain⟨i,J,hi,_,_,ad,ai,_,_,aj⟩:=T.info he
  have a1:J=zx:=by rw[X] at ai;cases hke:I.k <;> rw[hke] at Z aj <;> cases J <;> simp_all[Value.cells,lz]
  subst a1;refine⟨J,?_,.inl ⟨h3,h2,rfl⟩⟩;unfold Instr.lookup;simp only[Sem.run_bind,run_underlying hm,Result.andThen_ok,Go.MapKept.run_getObj_map hb,Sem.run_pure,run_checkKey hd (hk a),h1];have:(zeroValue e).run P w=.ok J w:=by simp[zeroValue,typeInfo,Sem.run_bind,run_program,hi,ad,Result.andThen]
  simp only[this,Result.andThen_ok];rfl
 ·refine⟨en.val,?_,.inr ⟨j,en,p,h2,h3,h4,rfl,h6,h7⟩⟩
  unfold Instr.lookup;simp only[Sem.run_bind,run_underlying hm,Result.andThen_ok,Go.MapKept.run_getObj_map hb,Sem.run_pure,run_checkKey hd (hk a),h1];rfl
theorem AX {mt k e:Nat} {U N:bH} {m O:Operand} {g:Nat} {l:List (α×List γ)} {a:α} {ob:Option Nat} (hm:av f m=some (.mo g (fD kf fn l) none ob)) (hk:av f O=some (.d (.v (kf a))))
 (ht:ae T.l mt=some U) (X:U.k=.map k e) (he:ae T.l e=some N) (Z:iE P k kf) (ad:(lv.any fun h=>Nat.beq h g)=true) (ai:N.z=[.slice none 0 0]) (aj:lz N.k=true) (hn:(l.map (·.1)).Nodup) {r:List (List D)} (hr:((bO l a).getD []).map fn=r) :
 Pu P C n ⟨f,bx,lv,gen⟩ ⟨dst,.lookup mt m O false,ty,pos,af,none⟩ (.d (.sl r)):=by
 subst hr;refine dG.pu fun G tmps w hs=>?_;have J:=hs.av hm;have I:=hs.av hk;generalize hv:Act.eval ⟨tmps,[]⟩ m=v at J;generalize a1:Act.eval ⟨tmps,[]⟩ O=vk at I;obtain⟨b,bs,me,clock,ps,a6,rfl,M⟩:=hs.A8 J (cM ad);cases I with | d I=>cases I with | v _ hok=>
 obtain⟨u,h1,h2⟩:=pZ (P:=P) T ht X he Z ai aj M.hb M.mi hn a;refine⟨u,?_,?_⟩
 ·unfold execOp
  show Sem.run P _ w=.ok _ _;simp only[hv,a1,Sem.run_bind,h1,Result.andThen_ok,Sem.run_pure];rfl
 ·rcases h2 with ⟨q1,_,rfl⟩ | ⟨j,mm,p,_,_,_,_,q1,q2⟩
  ·rw[q1];exact .d .nil
  ·rw[q1];exact .d q2
theorem rq (I J:Nat) {t:TypeId} {p:Operand} {g b:Nat} {M:List A} {es:List (Value×List (List D))} {hole:Option Value} (hp:av f p=some (.ptr I J)) (O:ae bx I=some M) (hj:M[J]? = some (.mo g es hole (some b)))
 (N:iv T f bx (.load t p)=some (.mo g es hole (some b))):Pu P C n ⟨f,bx,lv,gen⟩ ⟨dst,.load t p,ty,pos,af,none⟩ (.d (.v (.map (some b)))):=by
 intro G tmps w hs;refine(Pu.ev (P:=P) (C:=C) (n:=n) (st:=⟨f,bx,lv,gen⟩) T N G tmps w hs).mono fun v w' ⟨h1,h2⟩=>⟨h1,?_⟩
 cases h2 with
 | mo _ _ _ _ _ _ h3 _=>rw[h3.2 b rfl];exact .d (.v _ rfl)
end
end Go.Ab
namespace Go.Ab
open Go.RowKit Go.MapKept
theorem aI.Gj {w:World} {pv:Nat→Nat→Prop} {v:Value} {es:List (List D)} (h:aI w pv v (.sl es)):∃ s,∀ (e:List D),e∈es→e.length=s:=by
 cases h with
 | nil=>exact⟨0,by simp⟩
 | emp=>exact⟨0,by simp⟩
 | sl b off len cap sz _ u hl I hm hs hu J=>exact⟨sz,fun e he=>by obtain⟨i,hi⟩:=List.mem_iff_getElem?.1 he;exact hs i e hi⟩
section
variable {P:Program} (T:bA P) {C:Ctx} {n:Nat} {ops:Array Oper} {Q:Exit→St→Prop} {rest:List Oper}
variable {f:List (Nat×A)} {bx:List (Nat×List A)} {lv:List Nat} {gen:Nat} {d:Nat} {ty:TypeId} {pos:String} {af:Array Edge} {dst:Option Nat} {c:Code}
variable {α γ:Type} [DecidableEq α] {kf:α→Value} {fn:γ→List D}
theorem AE (gq M:Nat) {mt k e:Nat} {td ed:bH} {m kx:Operand} {g b:Nat} {cq:List A} {l:List (α×List γ)} {a:α} (hd:Nat.blt d n=true) (hm:av f m=some (.d (.v (.map (some b))))) (X:ae bx gq=some cq) (hj:cq[M]? = some (.mo g (fD kf fn l) none (some b)))
 (hk:av f kx=some (.d (.v (kf a)))) (ht:ae T.l mt=some td) (c6:td.k=.map k e) (he:ae T.l e=some ed) (c7:iE P k kf) (df:(lv.any fun h=>Nat.beq h g)=true) (di:ed.z=[.slice none 0 0]) (dj:lz ed.k=true) (hn:(l.map (·.1)).Nodup)
 {x:List (List D)} (hx:((bO l a).getD []).map fn=x) {lv':List Nat} (dt:gen::(gen+1)::bk lv g=lv') {a7:List A} (dx:cq.set M (.mo gen (fD kf fn l) (some (kf a)) (some b))=a7)
 (h:WO P C n ops Q rest ⟨(d,.own (gen+1) x)::f,(gq,a7)::bx,lv',gen+2⟩):WO P C n ops Q (⟨some d,.lookup mt m kx false,ty,pos,af,none⟩::rest) ⟨f,bx,lv,gen⟩:=by
 subst dx;subst dt;subst hx;refine WO.step (st:=⟨f,bx,lv,gen⟩) rfl fun tmps w ⟨G,hs⟩=>?_;have ad:=hs.av hm;have ai:=hs.av hk;generalize hv:Act.eval ⟨tmps,[]⟩ m=v at ad;generalize ei:Act.eval ⟨tmps,[]⟩ kx=vk at ai;cases ad with | d ad=>cases ad with | v _ ho=>
 cases ai with | d ai=>cases ai with | v _ hok=>
 obtain⟨b0,Z,T0,p1,p2,p3,p4,p5⟩:=hs.box gq cq X;have ej:M < Z.size:=by rw[p3];exact(List.getElem?_eq_some_iff.1 hj).1
 have a8:Z[M]? = some Z[M]:=by simp[ej]
 have U:=p5 M _ _ a8 hj;have b2:Z[M]=.map (some b):=by generalize Z[M]=y at U;cases U with | mo _ _ _ _ _ _ h1 _=>exact h1.2 b rfl
 rw[b2] at U;obtain⟨b',bs,me,clock,ps,en,ch,I⟩:=hs.A8 U (cM df);simp only[Value.map.injEq,Option.some.injEq] at ch;subst ch;obtain⟨u,h1,h2⟩:=pZ (P:=P) T ht c6 he c7 di dj I.hb I.mi hn a;have h0:(execOp (Act.eval ⟨tmps,[]⟩) ⟨some d,.lookup mt m kx false,ty,pos,af,none⟩).run P w=.ok (.value u) w:=by unfold execOp;show Sem.run P _ w=.ok _ _;simp only[hv,ei,Sem.run_bind,h1,Result.andThen_ok,Sem.run_pure]
 have key:∀ (x:List (List D)) (r2:Row) (bs':List (Nat×Nat)),(∀ p∈bs',p∈bs)→(∀ b' bs',r2≠.mp b' bs') →
  (∀ c len cap sz a1,r2=.blk c len cap sz a1→(c,a1)∈bs∧(∀ p∈bs',p.1≠c)∧∃ cur T,w.heap[c]? = some (.cells cur T (0,0))∧cur.size=cap*sz∧len≤cap∧cap≤maxLen∧0 < sz∧0 < len∧a1≤len*sz∧eF cur) →
  (∀ (i:Nat) (O:MapEntry) (p:α×List γ),me[i]? = some O→l[i]? = some p→some (kf a)≠some (kf p.1)→mQ w (ps (kf p.1)) bs' O.val (p.2.map fn)) →
  aI w (aS C G) u (.sl x)→(∃ s,(∀ (e:List D),e∈x→e.length=s)∧qZ r2 u x.length s) →
  ∃ J,ao C n ⟨(d,.own (gen+1) x)::f,(gq,cq.set M (.mo gen (fD kf fn l) (some (kf a)) (some b)))::bx,gen::(gen+1)::bk lv g,gen+2⟩ J (Act.put ⟨tmps,[]⟩ (some d) u).tmps w:=by
  intro x r2 bs' cx e0 e3 e4 e5 cy;obtain⟨J,e6,ff,fj,hle,fo⟩:=hs.split en cx r2 e0 e3 (bk lv g) (fun g' fs=>cK fs);have c1:nH w (aS C J) b bs' kf fn l (some (kf a)) me clock ps:=⟨I.hb,I.st,I.mi.mono fun b o u hu hp=>hle.cell b o u hu hp,fun p p' c hp ft _ _ q3 q4=>I.inj p p' c hp ft (by simp) (by simp) q3 q4,e4⟩;have gb:=fo.nX (f:=f) (bx:=bx) (lv:=gen::(gen+1)::bk lv g) (gen:=gen+2) X (cells':=cq.set M (.mo gen (fD kf fn l) (some (kf a)) (some b))) (by simp) fun b3 hy T3 q1 q2 q3 i x' a' a6 ha=>by
   by_cases e:M=i
   ·subst e
    rw[List.getElem?_set_self (List.getElem?_eq_some_iff.1 hj).1] at ha;simp only[Option.some.injEq] at ha;subst ha;rw[e6,p1] at q1;cases q1;rw[p2] at q2;cases q2;rw[a8,b2] at a6;cases a6;exact .mo _ _ _ _ _ (by simp[au]) ⟨rfl,fun b' gi=>by cases gi;rfl⟩ (fun r hr=>by have:J.own gen=some r:=hr;rw[ff] at this;cases this;exact c1.to)
   ·rw[List.getElem?_set_ne e] at ha
    exact q3 i x' a' a6 ha
  refine⟨J,gb.put (dst:=some d) (bQ (dst:=some d) hd) (.own _ _ x (e5.mono fun b o u hu hp=>hle.cell b o u hu hp) (by simp[au]) (fun r hr=>?_))⟩;have:J.own (gen+1)=some r:=hr;rw[fj] at this;cases this;exact cy
 refine bT h0 ?_;rcases h2 with ⟨q1,q2,rfl⟩ | ⟨j,O,p,q1,q2,q3,q4,q5,q6⟩
 ·obtain⟨J,N⟩:=key [] .nil bs (fun _ h=>h) (fun _ _ h=>by cases h) (fun _ _ _ _ _ h=>by cases h) (fun i O p hm hp _=>I.at_ i O p hm hp (by simp)) .nil ⟨0,by simp,rfl,rfl⟩
  refine⟨_,⟨J,N⟩,?_⟩;rw[q1] at h;exact h
 ·subst q3;subst q4
  have aj:=I.at_ j O p q1 q2 (by simp);rw[q5] at h;obtain⟨s,cj⟩:=q6.Gj
  cases hps:ps (kf p.1) with
  | none=>
    rw[hps] at aj;rcases aj with ⟨t1,t2⟩ | ⟨c,off,t1⟩
    ·obtain⟨J,N⟩:=key (p.2.map fn) .nil bs (fun _ h=>h) (fun _ _ h=>by cases h) (fun _ _ _ _ _ h=>by cases h) (fun i O p hm hp _=>I.at_ i O p hm hp (by simp)) q6 ⟨s,cj,t1,by rw[t2];rfl⟩
     exact⟨_,⟨J,N⟩,h⟩
    ·obtain⟨J,N⟩:=key (p.2.map fn) (.zero c) bs (fun _ h=>h) (fun _ _ h=>by cases h) (fun _ _ _ _ _ h=>by cases h) (fun i O p hm hp _=>I.at_ i O p hm hp (by simp)) q6 ⟨s,cj,off,t1⟩
     exact⟨_,⟨J,N⟩,h⟩
  | some c=>
    rw[hps] at aj;obtain⟨cap,sz,cur,T1,t1,t2,t3,t4,t5,t6,t7,t8,t9,t10⟩:=aj
    obtain⟨J,N⟩:=key (p.2.map fn) (.blk c (p.2.map fn).length cap sz ((p.2.map fn).length*sz)) (bs.filter fun q=>!Nat.beq q.1 c) (fun q X=>(List.mem_filter.1 X).1) (fun _ _ h=>by cases h)
     (fun c' hf hg hz hh h=>by simp only[Row.blk.injEq] at h;obtain⟨rfl,rfl,rfl,rfl,rfl⟩:=h;exact⟨t2,fun q X e=>by have:=(List.mem_filter.1 X).2;rw[e] at this;simp at this,cur,T1,t8,t9,t6,t7,t4,t5,Nat.le_refl _,t10⟩)
     (fun i m2 p2 gj cl hc=>(I.at_ i m2 p2 gj cl (by simp)).mono fun c' lim e1 e2=>⟨List.mem_filter.2 ⟨e2,by
      have:c'≠c:=fun e=>by subst e;have:=I.inj p p2 c' (List.mem_of_getElem? q2) (List.mem_of_getElem? cl) (by simp) (by simp) hps e1;exact hc (by rw[this])
      cases X:Nat.beq c' c with
      | false=>rfl
      | true=>exact absurd (Nat.eq_of_beq_eq_true X) this⟩,rfl⟩) q6 ⟨sz,t3,t1,rfl,rfl,rfl⟩
    exact⟨_,⟨J,N⟩,h⟩
theorem pz {w:World} {pv:Nat→Nat→Prop} {β:Type} {vf:β→D} {mt k e:Nat} {td:bH} (ht:ae T.l mt=some td) (b0:td.k=.map k e) (U:iE P k kf) {b:Nat} {N:Array MapEntry} {clock:Nat} (hb:w.heap[b]? = some (.map N clock)) {l:List (α×β)}
 (Z:Stamped N clock) (h:gk w pv kf vf N l) (X:(l.map (·.1)).Nodup) (a:α) (ad:cm (kf a)=true) {v:Value} {y:β} (hv:aI w pv v (vf y)) :
 ∃ O M,(Instr.mapUpdate mt (.map (some b)) (kf a) v).run P w=.ok () { w with heap:=w.heap.setIfInBounds b (.map O M) }∧Stamped O M∧gk w pv kf vf O (cr l a y) ∧
   ∀ (i:Nat) (m:MapEntry) (p:α×β),O[i]? = some m→(cr l a y)[i]? = some p→(p=(a,y)∧m.val=v)∨(p.1≠a∧∃ m0,N[i]? = some m0∧l[i]? = some p∧m0.val=m.val):=by
 obtain⟨d,hd,hk⟩:=U.ty;have hm:=T.tY ht b0;rcases h.find U X a with ⟨h1,h2,_⟩ | ⟨j,en,p,h1,h2,h3,h4,h5,_,_⟩
 ·refine⟨N.push ⟨kf a,v,clock⟩,clock+1,?_,stamped_push Z (fun x hx=>?_),?_,?_⟩
  ·unfold Instr.mapUpdate
   simp only[Sem.run_bind,run_underlying hm,Result.andThen_ok,Go.MapKept.run_getObj_map hb,run_checkKey hd (hk a),h1];exact Go.MapKept.run_setObj_map _ hb
  ·obtain⟨i,hi⟩:=List.mem_iff_getElem?.1 hx
   have ai:N[i]? = some x:=by simpa using hi
   have J:i < l.length:=by rw[←h.1];exact(Array.getElem?_eq_some_iff.1 ai).1
   rw[(h.2 i x l[i] ai (by simp[J])).1];exact fun e=>h2 l[i] (by simp) (U.inj _ _ e)
  ·rw[iu h2]
   refine⟨by simp[h.1],fun i m p hm hp=>?_⟩;rw[Array.getElem?_push] at hm;split at hm
   ·rename_i hi
    rw[List.getElem?_append_right (by rw[hi,h.1];exact Nat.le_refl _)] at hp;have:i - l.length=0:=by rw[hi,h.1];omega
    rw[this] at hp;simp only[List.getElem?_cons_zero,Option.some.injEq] at hp;simp only[Option.some.injEq] at hm;subst hm;subst hp;exact⟨rfl,ad,hv⟩
   ·have J:i < l.length:=by rw[←h.1];exact(Array.getElem?_eq_some_iff.1 hm).1
    rw[List.getElem?_append_left J] at hp;exact h.2 i m p hm hp
  ·rw[iu h2]
   intro i m p hm hp;rw[Array.getElem?_push] at hm;split at hm
   ·rename_i hi
    rw[List.getElem?_append_right (by rw[hi,h.1];exact Nat.le_refl _)] at hp;have:i - l.length=0:=by rw[hi,h.1];omega
    rw[this] at hp;simp only[List.getElem?_cons_zero,Option.some.injEq] at hp;simp only[Option.some.injEq] at hm;subst hm;subst hp;exact .inl ⟨rfl,rfl⟩
   ·have J:i < l.length:=by rw[←h.1];exact(Array.getElem?_eq_some_iff.1 hm).1
    rw[List.getElem?_append_left J] at hp;exact .inr ⟨h2 p (List.mem_of_getElem? hp),m,hm,hp,rfl⟩
 ·refine⟨N.modify j fun e=>{ e with key:=kf a,val:=v },clock,?_,stamped_modify Z j _ (fun _ _=>rfl) (fun e _ he=>by rw[h2] at he;cases he;exact h5.symm),?_,?_⟩
  ·unfold Instr.mapUpdate
   simp only[Sem.run_bind,run_underlying hm,Result.andThen_ok,Go.MapKept.run_getObj_map hb,run_checkKey hd (hk a),h1,h2,Option.map_some,Option.getD_some,h5,run_keyThatStays (hk a)];exact Go.MapKept.run_setObj_map _ hb
  ·subst h4
   rw[sF X h3];refine⟨by simp[h.1],fun i m q hm I=>?_⟩;rw[Array.getElem?_modify] at hm;rw[List.getElem?_set] at I;by_cases hij:j=i
   ·subst hij
    rw[if_pos rfl] at hm I;rw[h2] at hm;rw[if_pos (List.getElem?_eq_some_iff.1 h3).1] at I;simp only[Option.map_some,Option.some.injEq] at hm I;subst hm;subst I;exact⟨rfl,ad,hv⟩
   ·rw[if_neg hij] at hm I
    exact h.2 i m q hm I
  ·subst h4
   rw[sF X h3];intro i m q hm I;rw[Array.getElem?_modify] at hm;rw[List.getElem?_set] at I;by_cases hij:j=i
   ·subst hij
    rw[if_pos rfl] at hm I;rw[h2] at hm;rw[if_pos (List.getElem?_eq_some_iff.1 h3).1] at I;simp only[Option.map_some,Option.some.injEq] at hm I;subst hm;subst I;exact .inl ⟨rfl,rfl⟩
   ·rw[if_neg hij] at hm I
    refine .inr ⟨fun e=>hij ?_,m,hm,I,rfl⟩;have h6:(l.map (·.1))[j]? = some p.1:=by simp[h3]
    have h7:(l.map (·.1))[i]? = some p.1:=by simp[I,e]
    obtain⟨aj,a1⟩:=List.getElem?_eq_some_iff.1 h6;obtain⟨a6,a7⟩:=List.getElem?_eq_some_iff.1 h7;have a8:=List.pairwise_iff_getElem.1 X;rcases Nat.lt_trichotomy j i with J | heq | b2
    ·exact absurd (a1.trans a7.symm) (a8 j i aj a6 J)
    ·exact heq
    ·exact absurd (a7.trans a1.symm) (a8 i j a6 aj b2)
open Classical in
theorem Dh (gq U:Nat) {mt k e:Nat} {td:bH} {m kx x:Operand} {g g2 b:Nat} {cq:List A} {l:List (α×List γ)} {a:α} {y:List γ} (hm:av f m=some (.d (.v (.map (some b))))) (hq:ae bx gq=some cq) (hj:cq[U]? = some (.mo g (fD kf fn l) (some (kf a)) (some b)))
 (hk:av f kx=some (.d (.v (kf a)))) (hx:av f x=some (.own g2 (y.map fn))) (ht:ae T.l mt=some td) (gj:td.k=.map k e) (M:iE P k kf) (hf:(lv.any fun h=>Nat.beq h g)=true) (e5:(lv.any fun h=>Nat.beq h g2)=true) (hg:Nat.beq g2 g=false) (hn:(l.map (·.1)).Nodup)
 {lv':List Nat} (hh:gen::bk (bk lv g) g2=lv') {di:List A} (ho:cq.set U (.mo gen (fD kf fn (cr l a y)) none none)=di)
 (h:WO P C n ops Q rest ⟨f,(gq,di)::bx,lv',gen+1⟩):WO P C n ops Q (⟨none,.mapUpdate mt m kx x,ty,pos,af,none⟩::rest) ⟨f,bx,lv,gen⟩:=by
 subst ho;subst hh;refine WO.step (st:=⟨f,bx,lv,gen⟩) rfl fun tmps w ⟨G,hs⟩=>?_;have b2:=hs.av hm;have ch:=hs.av hk;have dj:=hs.av hx;generalize hv:Act.eval ⟨tmps,[]⟩ m=v at b2;generalize hy:Act.eval ⟨tmps,[]⟩ kx=vk at ch;generalize hA:Act.eval ⟨tmps,[]⟩ x=vx at dj;cases b2 with | d b2=>cases b2 with | v _ hT=>
 cases ch with | d ch=>cases ch with | v _ hok=>
 obtain⟨r2,aj⟩:=hs.live g2 (cM e5)
 cases dj with
 | own _ _ _ hD hS hE=>
 obtain⟨s,hF,a1⟩:=hE r2 aj;have hG:g2≠g:=fun e=>by subst e;simp at hg
 obtain⟨b0,a6,T0,p1,p2,p3,p4,p5⟩:=hs.box gq cq hq;have hH:U < a6.size:=by rw[p3];exact(List.getElem?_eq_some_iff.1 hj).1
 have dt:a6[U]? = some a6[U]:=by simp[hH]
 have ad:=p5 U _ _ dt hj;have dx:a6[U]=.map (some b):=by generalize a6[U]=y at ad;cases ad with | mo _ _ _ _ _ _ h1 _=>exact h1.2 b rfl
 rw[dx] at ad;obtain⟨b',bs,me,clock,ps,ed,ei,N⟩:=hs.A8 ad (cM hf);simp only[Value.map.injEq,Option.some.injEq] at ei;subst ei;obtain⟨J,I,e6,fj,cl,ej⟩:=pz (P:=P) T (y:=y) ht gj M N.hb N.st N.mi hn a hok hD;have h0:(execOp (Act.eval ⟨tmps,[]⟩) ⟨none,.mapUpdate mt m kx x,ty,pos,af,none⟩).run P w=.ok .skip { w with heap:=w.heap.setIfInBounds b (.map J I) }:=by unfold execOp;show Sem.run P _ w=.ok _ _;simp only[hv,hy,hA,Sem.run_bind,e6,Result.andThen_ok,Sem.run_pure]
 obtain⟨fo,fs⟩:=heap_set (o':=Obj.map J I) N.hb;obtain⟨bs',oc,ft,gb,en⟩:∃ (bs':List (Nat×Nat)) (oc:Option Nat),(∀ p∈bs,p∈bs')∧(∀ p∈bs',p∈bs∨∃ len cap sz,r2=.blk p.1 len cap sz p.2)∧(mQ w oc bs' vx (y.map fn)∧∀ c,oc=some c→∃ len cap sz Z,r2=.blk c len cap sz Z):=by
  cases r2 with
  | nil=>exact⟨bs,none,fun _ h=>h,fun _ h=>.inl h,.inl ⟨a1.1,List.eq_nil_of_length_eq_zero a1.2⟩,fun c X=>by cases X⟩
  | zero c=>exact⟨bs,none,fun _ h=>h,fun _ h=>.inl h,.inr ⟨c,a1⟩,fun c X=>by cases X⟩
  | mp _ _=>exact a1.elim
  | blk c len cap sz Z=>
    obtain⟨t1,t2,t3,t4⟩:=a1;obtain⟨_,_,_,cur,T1,u1,u2,u3,u4,u5,u6,u7,u8⟩:=hs.row g2 c len cap sz Z aj;refine⟨(c,Z)::bs,some c,fun p hp=>List.mem_cons_of_mem _ hp,fun p hp=>?_,⟨cap,sz,cur,T1,by rw[t1,t2],?_,fun e he=>(hF e he).trans t3,u5,by omega,by omega,u4,u1,u2,u8⟩,fun c' hI=>by cases hI;exact⟨len,cap,sz,Z,rfl⟩⟩
    ·rcases List.mem_cons.1 hp with rfl | hp
     ·exact .inr ⟨len,cap,sz,rfl⟩
     ·exact .inl hp
    ·rw[t2,←t4];exact List.mem_cons_self
 obtain⟨G',hK,hL,hle,hM⟩:=hs.join ed aj hG gb J I (bk (bk lv g) g2) (fun g' hN=>by obtain⟨t1,t2⟩:=cK hN;obtain⟨t3,t4⟩:=cK t1;exact⟨t3,t4,t2⟩);have a7:∀ {c:Nat} {cs:Array Value} {T:TypeId} {ff:Nat×Nat},w.heap[c]? = some (.cells cs T ff)→(w.heap.setIfInBounds b (.map J I))[c]? = w.heap[c]?:=fun {c cs T ff} X=>fs c (fun e=>by rw[e,N.hb] at X;cases X);have cx:∀ {o:Option Nat} {v:Value} {z:List (List D)} {cy c1:List (Nat×Nat)},mQ w o cy v z→(∀ p∈cy,p∈c1)→mQ { w with heap:=w.heap.setIfInBounds b (.map J I) } o c1 v z:=fun {o v z cy c1} hz hO=>by
  cases o with
  | none=>exact hz
  | some c=>obtain⟨cap,sz,cur,T1,t1,t2,t3,t4,t5,t6,t7,t8,t9⟩:=hz;exact⟨cap,sz,cur,T1,t1,hO _ t2,t3,t4,t5,t6,t7,(a7 t8).trans t8,t9⟩
 have a8:∀ (p:α×List γ) (c:Nat),p∈l→p.1≠a→ps (kf p.1)=some c→∃ lim,(c,lim)∈bs:=fun p c hp cj X=>by
  obtain⟨i,hi⟩:=List.mem_iff_getElem?.1 hp;have c6:i < me.size:=by rw[N.mi.1];exact(List.getElem?_eq_some_iff.1 hi).1
  have:=N.at_ i me[i] p (by simp[c6]) hi (fun e=>cj (M.inj _ _ (Option.some.inj e)).symm);rw[X] at this;obtain⟨cap,sz,cur,T1,t1,t2,_⟩:=this;exact⟨_,t2⟩
 have ai:∀ p∈cr l a y,p.1≠a→p∈l:=fun p hp cj=>by
  obtain⟨i,hi⟩:=List.mem_iff_getElem?.1 hp;have c6:i < J.size:=by rw[cl.1];exact(List.getElem?_eq_some_iff.1 hi).1
  rcases ej i J[i] p (by simp[c6]) hi with ⟨e,_⟩ | ⟨_,m0,_,e,_⟩
  ·rw[e] at cj;exact absurd rfl cj
  ·exact List.mem_of_getElem? e
 have c7:∀ (c:Nat),oc=some c→∀ lim,(c,lim)∉bs:=fun c X lim hm=>by obtain⟨len,cap,sz,Z,e⟩:=en.2 c X;rw[e] at aj;exact(hs.sub g b bs c lim ed hm).2.2.1 _ _ _ _ _ aj
 have gi:nH { w with heap:=w.heap.setIfInBounds b (.map J I) } (aS C G') b bs' kf fn (cr l a y) none J I (fun k=>if k=kf a then oc else ps k):=by
  refine⟨fo,fj,cl.mono fun b o u hu hp=>hle.cell b o u hu hp,fun p p' c hp e0 _ _ q3 q4=>?_,fun i mm p hP hp _=>?_⟩
  ·by_cases e1:p.1=a
   ·by_cases O:p'.1=a
    ·rw[e1,O]
    ·rw[e1,if_pos rfl] at q3
     rw[if_neg (fun e=>O (M.inj _ _ e))] at q4;obtain⟨lim,hm⟩:=a8 p' c (ai p' e0 O) O q4;exact absurd hm (c7 c q3 lim)
   ·rw[if_neg (fun e=>e1 (M.inj _ _ e))] at q3
    by_cases O:p'.1=a
    ·rw[O,if_pos rfl] at q4
     obtain⟨lim,hm⟩:=a8 p c (ai p hp e1) e1 q3;exact absurd hm (c7 c q4 lim)
    ·rw[if_neg (fun e=>O (M.inj _ _ e))] at q4
     exact N.inj p p' c (ai p hp e1) (ai p' e0 O) (fun e=>e1 (M.inj _ _ (Option.some.inj e)).symm) (fun e=>O (M.inj _ _ (Option.some.inj e)).symm) q3 q4
  ·rcases ej i mm p hP hp with ⟨e,O⟩ | ⟨e,m0,O,e3,e4⟩
   ·rw[e,O]
    simp only[if_true];exact cx en.1 (fun _ h=>h)
   ·rw[if_neg (fun e'=>e (M.inj _ _ e')),←e4]
    exact cx (N.at_ i m0 p O e3 (fun e'=>e (M.inj _ _ (Option.some.inj e')).symm)) ft
 refine fT h0 ⟨_,⟨G',hM.nX (f:=f) (bx:=bx) (lv:=gen::bk (bk lv g) g2) (gen:=gen+1) hq (by simp) fun b3 hV T3 q1 q2 q3 i x' a' df ha=>?_⟩,h⟩;by_cases e:U=i
 ·subst e
  have hQ:U < cq.length:=(List.getElem?_eq_some_iff.1 hj).1;rw[List.getElem?_set_self hQ] at ha;simp only[Option.some.injEq] at ha;subst ha;rw[hK,p1] at q1;cases q1;rw[show({ w with heap:=w.heap.setIfInBounds b (.map J I) }:World).heap[b0]? = w.heap[b0]? from a7 p2,p2] at q2;cases q2;rw[dt,dx] at df;cases df;exact .mo _ _ _ _ _ (by simp[au]) ⟨rfl,fun b' hR=>by cases hR⟩ (fun r hr=>by have:G'.own gen=some r:=hr;rw[hL] at this;cases this;exact gi.to)
 ·rw[List.getElem?_set_ne e] at ha
  exact q3 i x' a' df ha
end
end Go.Ab
namespace Go.Ab
end Go.Ab
namespace Go.Ab
open Go.RowKit
def bd (c:UInt8):List D:=[.v (.int .u8 c.toNat)]
def nC (s:ByteArray):List (List D):=s.data.toList.map bd
theorem r8 (s:ByteArray):(nC s).length=s.size:=by rw[nC,List.length_map,Array.length_toList];rfl
theorem r9 {s:ByteArray}:∀ (e:List D),e∈nC s→e.length=1:=by intro e he;obtain⟨c,_,rfl⟩:=List.mem_map.1 he;rfl
theorem z8 {arr:Array Value} {s:ByteArray} {w:World} {pv:Nat→Nat→Prop} (h:∀ (i:Nat) (c:UInt8),s.data[i]? = some c→arr[i]? = some (.int .u8 c.toNat)) :
 ∀ (i j:Nat) (e:List D) (d:D),(nC s)[i]? = some e→e[j]? = some d→∃ u,arr[i*1+j]? = some u∧aI w pv u d:=by
 intro i j e d hi hj;simp only[nC,List.getElem?_map,Option.map_eq_some_iff] at hi;obtain⟨c,I,rfl⟩:=hi
 match j with
 | 0=>simp[bd] at hj;subst hj;refine⟨_,by rw[Nat.mul_one,Nat.add_zero];exact h i c (by simpa using I),.v _ ?_⟩;have:=c.toNat_lt;simp[cm,IntKind.min,IntKind.max,IntKind.signed,IntKind.bits];omega
 | j+1=>simp[bd] at hj
theorem eC {s:ByteArray} {i:Nat} {c:UInt8} (h:s.data[i]? = some c):(Lib.strCells s)[i]? = some (.int .u8 c.toNat):=by simp only[Lib.strCells,List.getElem?_map,Array.getElem?_toList,h,Option.map_some]
theorem iW (s:ByteArray):∀ u∈Lib.strCells s,u.oneCell'=true:=fun u hu=>by
 obtain⟨i,hi⟩:=List.mem_iff_getElem?.1 hu;have hj:i < s.data.size:=by have:=(List.getElem?_eq_some_iff.1 hi).1;rw[Lib.strCells_length] at this;exact this
 have I:s.data[i]? = some s.data[i]:=by simp[hj]
 rw[eC I] at hi;rw[←Option.some.inj hi];rfl
theorem uH:∀ u∈(Value.int IntKind.u8 0).cells.toList,u.oneCell'=true:=fun u hu=>by simp[Value.cells] at hu;subst hu;rfl
theorem oB (a b:ByteArray):Lib.strCells (a++b)=Lib.strCells a++Lib.strCells b:=by simp[Lib.strCells]
theorem uB (a b:ByteArray):(a++b).size=a.size+b.size:=by simp[ByteArray.size_append]
theorem ub {E:En} {v:Value} {g T:Nat} {s:ByteArray} (h:aC E v (.xs g (nC s))) (I:v=.slice none 0 0∨∃ b n c cs f,v=.slice (some ⟨b,0,none⟩) n c∧0 < n∧E.w.heap[b]? = some (.cells cs T f)):aC E v (.bf g T s):=by
 cases h with
 | xs _ _ _ X h1 h=>
 refine .bf v g T s X h1 fun r Z=>?_;have J:=h r Z
 cases r with
 | nil=>exact⟨J.1,by rw[←r8,J.2];rfl⟩
 | zero b=>
   obtain⟨h2,h3⟩:=J;rcases I with I | ⟨b',n,c,cs,f,I,hn,_⟩
   ·rw[I] at h2;cases h2
   ·rw[I] at h2;simp only[Value.slice.injEq] at h2;omega
 | mp b bs=>exact J.elim
 | blk b len cap sz ad=>
   obtain⟨h2,h3,h4,h5,h6⟩:=J;rcases I with I | ⟨b',n,c,cs,f,I,hn,M⟩
   ·rw[I] at h2;cases h2
   ·rw[I] at h2
    simp only[Value.slice.injEq,Option.some.injEq,Addr.mk.injEq,and_true] at h2;obtain⟨rfl,rfl,rfl⟩:=h2;have N:sz=1:=by
     have h0:0 < (nC s).length:=by omega
     rw[←h5 _ (List.getElem_mem h0),r9 _ (List.getElem_mem h0)]
    subst N;refine⟨I,by rw[←r8];exact h3,rfl,h4,⟨cs,f,M⟩,fun i O hc=>?_⟩;obtain⟨u,U,h8⟩:=h6 i 0 (bd O) (.v (.int .u8 O.toNat)) (by simp only[nC,List.getElem?_map,Array.getElem?_toList,hc,Option.map_some]) rfl;cases h8;rw[Nat.mul_one,Nat.add_zero] at U;exact U
structure qj (P:Program) (w:World) (A:Array TypeId) (ty:TypeId) (x2:Value) (m:ByteArray) (T:TypeId):Prop where
 emp:m.size=0→(Builtin.append_ A ty #[.slice none 0 0,x2]).run P w=.ok (.slice none 0 0) w
 new:0 < m.size→(Builtin.append_ A ty #[.slice none 0 0,x2]).run P w=.ok (.slice (some ⟨w.heap.size,0,none⟩) m.size (grownCap w m.size 0 T))
  (w.drew.alloc (.cells ((Lib.strCells m).toArray++Builtin.zeroCells (Value.int .u8 0).cells (grownCap w m.size 0 T - m.size)) T))
 room:∀ (b n cap:Nat) (cur:Array Value),w.heap[b]? = some (.cells cur T (0,0))→n+m.size≤cap→n+m.size≤cur.size →
  (Builtin.append_ A ty #[.slice (some ⟨b,0,none⟩) n cap,x2]).run P w=.ok (.slice (some ⟨b,0,none⟩) (n+m.size) cap) (w.setRow b (cur.toList.take n++Lib.strCells m++cur.toList.drop (n+m.size)).toArray)
 grow:∀ (b n cap:Nat) (olds:List Value),olds.length=n→(∀ j u,olds[j]? = some u→w.cell? ((⟨b,0,none⟩:Addr).add j)=some u)→cap < n+m.size→n+m.size≤140737488355328 →
  (Builtin.append_ A ty #[.slice (some ⟨b,0,none⟩) n cap,x2]).run P w=.ok (.slice (some ⟨w.heap.size,0,none⟩) (n+m.size) (grownCap w (n+m.size) cap T))
   (w.drew.alloc (.cells (olds.toArray++(Lib.strCells m).toArray++Builtin.zeroCells (Value.int .u8 0).cells (grownCap w (n+m.size) cap T - (n+m.size))) T))
theorem qj.string {P:Program} {w:World} {t u ty T:TypeId} {i:TypeInfo} (I:P.underlying t=some (.slice T)) (hu:P.underlying u=some .string) (hi:P.info? T=some i) (N:i.zero=some (.int .u8 0)) (hs:i.size=1) (hb:i.bytes=1) {m:ByteArray} (hm:m.size≤140737488355328) :
 qj P w #[t,u] ty (.string m) m T:=by
 refine⟨fun h0=>?_,fun h0=>?_,fun b n cap cur X h1 h2=>Lib.run_append_room_string (P:=P) w t u ty T i I hu hi hs b n cap cur X m h1 h2,fun b n cap M ho J h1 h2=>?_⟩
 ·have O:=Lib.run_firstCells_string (P:=P) w 1 m
  rw[h0] at O;simp[Builtin.append_,run_underlying I,run_underlying hu,sizeOf,typeInfo,hi,hs,Builtin.lenOf,h0,O]
 ·have U:=run_append_nil_string (P:=P) w t u ty T i (.int .u8 0) I hu hi N m h0 (by omega) (by rw[hb];omega)
  have Z:(m.data.map fun b=>Value.int .u8 b.toNat)=(Lib.strCells m).toArray:=by apply Array.ext';simp[Lib.strCells]
  rw[Z] at U;exact U
 ·exact Lib.run_append_grow_string (P:=P) w t u ty T i (.int .u8 0) I hu hi N ⟨b,0,none⟩ n cap M (by rw[hs];omega) J m h1 (by omega) (by rw[hb];exact growslice_fits (by omega) (by omega))
theorem qj.one {P:Program} {w:World} {t ty T:TypeId} {i:TypeInfo} (N:P.underlying t=some (.slice T)) (hi:P.info? T=some i) (U:i.zero=some (.int .u8 0)) (hs:i.size=1) (hb:i.bytes=1) {a:Addr} {c:Nat} {m:ByteArray} (hm:0 < m.size) (Z:m.size≤140737488355328)
 (I:∀ j u,(Lib.strCells m)[j]? = some u→w.cell? (a.add j)=some u):qj P w #[t,t] ty (.slice (some a) m.size c) m T:=by
 have hl:(Lib.strCells m).length=m.size*i.size:=by rw[Lib.strCells_length,hs,Nat.mul_one]
 refine⟨fun h0=>by omega,fun h0=>?_,fun b n cap cur X h1 h2=>?_,fun b n cap O ho J h1 h2=>?_⟩
 ·have M:=run_append_nil (P:=P) w t ty T i (.int .u8 0) N hi U a m.size c (Lib.strCells m) hl I h0 (by omega) (by rw[hb];omega)
  exact M
 ·have M:=run_append_room (P:=P) w t ty T i N hi b n cap cur X a m.size c (Lib.strCells m) hl I (Lib.strCells_oneCell m) h1 (by rw[hs,Nat.mul_one,Lib.strCells_length];exact h2)
  rw[hs,Nat.mul_one,Lib.strCells_length] at M;exact M
 ·exact run_append_grow (P:=P) w t ty T i (.int .u8 0) N hi U ⟨b,0,none⟩ n cap O (by rw[hs];omega) J a m.size c (Lib.strCells m) hl I h1 (by omega) (growslice_fits (by omega) (by rw[hb];omega))
section
variable {P:Program} {C:Ctx} {n:Nat} {st:St} {G:Gh} {tmps:Array Value} {w:World}
theorem q9 (h:ao C n st G tmps w) {g:Nat} {r:Row} (hg:G.own g=some r) {v:Value} {T:Nat} {s:ByteArray} (hv:v.oneCell'=true) (hx:uq w r v T s) {A:Array TypeId} {ty:TypeId} {x2:Value} {m:ByteArray} (ha:qj P w A ty x2 m T)
    (hb:s.size+m.size≤140737488355328) :
    ∃ v' w',(Builtin.append_ A ty #[v,x2]).run P w=.ok v' w'∧∃ G':Gh,G'.box=G.box∧ao C n { st with lv:=st.gen::bk st.lv g,gen:=st.gen+1 } G' tmps w'∧aC (au C G' (st.gen+1) w') v' (.bf st.gen T (s++m)):=by
  have hlen:(nC (s++m)).length=s.size+m.size:=by rw[r8,uB]
  have hmx:s.size+m.size≤maxLen:=by simp only[maxLen];omega
  have hlv:∀ g'∈bk st.lv g,g'∈st.lv∧g'≠g:=fun g' hg'=>cK hg'
  have newB:∀ (cap:Nat) (arr:Array Value),eF arr→arr.size=cap→s.size+m.size≤cap→cap≤maxLen→0 < s.size+m.size→(∃ rest,arr.toList=Lib.strCells (s++m)++rest) →
      ∃ G':Gh,G'.box=G.box∧ao C n { st with lv:=st.gen::bk st.lv g,gen:=st.gen+1 } G' tmps (w.drew.alloc (.cells arr T)) ∧
        aC (au C G' (st.gen+1) (w.drew.alloc (.cells arr T))) (.slice (some ⟨w.heap.size,0,none⟩) (s.size+m.size) cap) (.bf st.gen T (s++m)):=by
    intro cap arr h1c h1 h2 h3 h4 ⟨rest,h5⟩
    have hb':Below w.heap.size w (w.drew.alloc (.cells arr T)):=((Below.refl _ w).drew).alloc (Nat.le_refl _) _
    have hblk:(w.drew.alloc (.cells arr T)).heap[w.heap.size]? = some (.cells arr T (0,0)):=heap_alloc_new w.drew _
    obtain⟨G',hG,hs',hr'⟩:=(h.newRow true hb' hblk (cap:=cap) (sz:=1) (es:=nC (s++m)) (by rw[h1,Nat.mul_one]) h1c (by rw[hlen];exact h2) h3 Nat.one_pos (by rw[hlen];exact h4) r9
      (z8 fun i c hc=>by
        have:=eC hc
        rw[←Array.getElem?_toList,h5,List.getElem?_append_left (by rw[List.getElem?_eq_some_iff] at this;exact this.1)]
        exact this) (fun x=>x=g) (bk st.lv g) hlv).wO
    rw[hlen] at hr'
    exact⟨G',hG,hs',ub hr' (.inr ⟨_,_,_,arr,(0,0),rfl,h4,hblk⟩)⟩
  cases r with
  | zero b=>exact hx.elim
  | mp b bs=>exact hx.elim
  | nil=>
    obtain⟨rfl,hs0⟩:=hx
    have e0:s++m=m:=by
      have:s=ByteArray.empty:=by
        apply ByteArray.ext
        exact Array.eq_empty_of_size_eq_zero hs0
      rw[this];simp
    by_cases hm:m.size=0
    · refine⟨_,w,ha.emp hm,?_⟩
      obtain⟨G',hG,hs',hr'⟩:=(h.lx (m:=true) hg (es:=nC (s++m)) (v:=.slice none 0 0) ⟨rfl,rfl,List.eq_nil_of_length_eq_zero (by rw[hlen];omega)⟩ (bk st.lv g) hlv).wO
      exact⟨G',hG,hs',ub hr' (.inl rfl)⟩
    · have hge:=grownCap_ge w m.size 0 T
      have hcm:=grownCap_le_maxLen w m.size 0 T (by omega)
      refine⟨_,_,ha.new (by omega),?_⟩
      have:=newB (grownCap w m.size 0 T) ((Lib.strCells m).toArray++Builtin.zeroCells (Value.int .u8 0).cells (grownCap w m.size 0 T - m.size)) (by have:=mE (l1:=[]) (k:=grownCap w m.size 0 T - m.size) (by simp) (iW m) uH;exact eF.mem fun u hu=>this.of u (by simpa using hu)) (by
        have hz1:(Value.int IntKind.u8 0).cells.size=1:=rfl
        simp only[Array.size_append,List.size_toArray,size_zeroCells,hz1,Lib.strCells_length]
        omega) (by omega) hcm (by omega) ⟨_,by rw[e0];simp;rfl⟩
      rw[show s.size+m.size=m.size by omega] at this
      exact this
  | blk b len cap sz pub=>
    obtain⟨rfl,h2,rfl,rfl,⟨cs,f,hT⟩,h6⟩:=hx
    obtain⟨hmine,hnb,huniq,cur,T',hcur,hcs,hlc,hcm,_,hpos,_,hone⟩:=h.row g b len cap 1 0 hg
    rw[hcur] at hT
    simp only[Option.some.injEq,Obj.cells.injEq] at hT
    obtain⟨rfl,rfl,rfl⟩:=hT
    subst h2
    have htk:cur.toList.take s.size=Lib.strCells s:=by
      apply List.ext_getElem?
      intro t
      rw[List.getElem?_take]
      split
      · rename_i hlt
        have hc:s.data[t]? = some (s.data[t]'hlt):=Array.getElem?_eq_getElem hlt
        have h7:=h6 t _ hc
        rw[bC hcur] at h7
        rw[eC hc]
        simpa using h7
      · rename_i hge
        rw[List.getElem?_eq_none (by rw[Lib.strCells_length];omega)]
    by_cases hroom:s.size+m.size≤cap
    · have hfit:s.size+m.size≤cur.size:=by omega
      refine⟨_,_,ha.room b s.size cap cur hcur hroom hfit,?_⟩
      obtain⟨G',hG,hs',hr'⟩:=(h.oS true (g:=g) (b:=b) (len:=s.size) (cap:=cap) (sz:=1) (arr:=(cur.toList.take s.size++Lib.strCells m++cur.toList.drop (s.size+m.size)).toArray) (es:=nC (s++m)) (by simpa [fe] using hg) hcur (by simp[Lib.strCells_length];omega) (jC hone (iW m)) (fun t ht=>by simp[fe] at ht) (by omega) (by omega) r9
        (z8 fun i c hc=>by
          have:=eC hc
          rw[List.getElem?_toArray,htk,←oB,List.getElem?_append_left (by rw[List.getElem?_eq_some_iff] at this;exact this.1)]
          exact this) (bk st.lv g) hlv).wO
      rw[hlen] at hr'
      exact⟨G',hG,hs',ub hr' (.inr ⟨b,_,_,_,(0,0),rfl,by omega,setRow_heap w b cur _ _ (0,0) hcur⟩)⟩
    · have hge:=grownCap_ge w (s.size+m.size) cap T'
      have hcm':=grownCap_le_maxLen w (s.size+m.size) cap T' (by omega)
      refine⟨_,_,ha.grow b s.size cap (Lib.strCells s) (Lib.strCells_length s) (fun j u hj=>?_) (by omega) hb,?_⟩
      · have hj':j < s.data.size:=by have:=(List.getElem?_eq_some_iff.1 hj).1;rw[Lib.strCells_length] at this;exact this
        have hc:s.data[j]? = some s.data[j]:=by simp[hj']
        rw[eC hc] at hj
        have h7:=h6 j _ hc
        rw[Option.some.inj hj] at h7
        unfold Addr.add
        split
        · rename_i e;subst e;simpa [cellAt] using h7
        · simpa [cellAt] using h7
      · exact newB (grownCap w (s.size+m.size) cap T') _ (by have:=mE (k:=grownCap w (s.size+m.size) cap T' - (s.size+m.size)) (iW s) (iW m) uH;exact eF.mem fun u hu=>this.of u (by simpa using hu)) (by
          have hz1:(Value.int IntKind.u8 0).cells.size=1:=rfl
          simp only[Array.size_append,List.size_toArray,size_zeroCells,hz1,Lib.strCells_length]
          omega) (by omega) hcm' (by omega) ⟨_,by rw[oB];simp[List.append_assoc];rfl⟩
end
end Go.Ab
namespace Go.Ab
open Go.RowKit
section
variable {P:Program} (T:bA P) {C:Ctx} {n:Nat} {ops:Array Oper} {Q:Exit→St→Prop} {rest:List Oper}
variable {f:List (Nat×A)} {bx:List (Nat×List A)} {lv:List Nat} {gen:Nat} {d:Nat} {ty:TypeId} {pos:String} {af:Array Edge} {dst:Option Nat}
theorem wh {o:Oper} {act:Act} {x y:Operand} {t u:Nat} (J:o.op=.call ⟨.builtin .append,#[x,y],#[t,u]⟩) {w w':World} {I:Value}
 (h:(Builtin.append_ #[t,u] o.type #[act.eval x,act.eval y]).run P w=.ok I w'):(execOp act.eval o).run P w=.ok (.value I) w':=by
 unfold execOp;rw[J];show Sem.run P (do let d ←resolve act.eval ⟨.builtin .append,#[x,y],#[t,u]⟩ o.type;invoke d.target d.args) w=_;simp only[resolve,invoke,builtin,Sem.run_bind,Sem.run_pure,Result.andThen_ok,List.map_toArray,List.map_cons,List.map_nil,h]
def ua (d:bH):Bool:=(Nat.beq d.n 1 && Nat.beq d.b 1 && nM d.z [.int .u8 0]) && (match d.k with | .int _=>true | _=>false)
theorem bA.byte {e:Nat} {d:bH} (h:ae T.l e=some d) (hb:ua d=true):∃ i,P.info? e=some i∧i.zero=some (.int .u8 0)∧i.size=1∧i.bytes=1:=by
 simp only[ua,Bool.and_eq_true] at hb;obtain⟨i,z,hi,h1,h2,M,I,_,_,N⟩:=T.info h;have U:=Nat.eq_of_beq_eq_true hb.1.1.1;have X:=Nat.eq_of_beq_eq_true hb.1.1.2;have O:=oR hb.1.2;have J:=hb.2;refine⟨i,hi,?_,by omega,by omega⟩;rw[M];rw[O] at I;cases hkd:d.k <;> rw[hkd] at J N <;> first | (cases J;done) | skip
 cases z <;> simp_all[Value.cells]
theorem yA {x y:Operand} {t u e:Nat} {U X Z:bH} {g:Nat} {s m:ByteArray} (hx:av f x=some (.bf g e s)) (hy:av f y=some (.d (.v (.string m)))) (ht:ae T.l t=some U) (hk:U.k=.slice e) (hu:ae T.l u=some X) (ad:X.k=.str) (he:ae T.l e=some Z) (ai:ua Z=true)
 (aj:(lv.any fun h=>Nat.beq h g)=true) (hd:Nat.blt d n=true) (hb:s.size+m.size≤140737488355328) {r:ByteArray} (M:s++m=r) {lv':List Nat} (a1:gen::bk lv g=lv')
 (h:WO P C n ops Q rest ⟨(d,.bf gen e r)::f,bx,lv',gen+1⟩):WO P C n ops Q (⟨some d,.call ⟨.builtin .append,#[x,y],#[t,u]⟩,ty,pos,af,none⟩::rest) ⟨f,bx,lv,gen⟩:=by
 subst M;subst a1;refine WO.step (st:=⟨f,bx,lv,gen⟩) rfl fun tmps w ⟨G,hs⟩=>?_;have M:=hs.av hx;have I:=hs.av hy;obtain⟨r,N⟩:=hs.live g (cM aj);generalize hv:Act.eval ⟨tmps,[]⟩ x=v at M;generalize a6:Act.eval ⟨tmps,[]⟩ y=v2 at I
 cases M with
 | bf _ _ _ _ ch h1 O=>
 cases I with | d I=>cases I with | v _ _=>
 obtain⟨i,hi,hz,a7,a8⟩:=T.byte he ai;have b0:P.underlying u=some .string:=T.gQ hu ad;obtain⟨v',w',J,G',_,b2,b3⟩:=q9 (ty:=ty) hs N h1 (O r N) (qj.string (P:=P) (w:=w) (ty:=ty) (T.fu ht hk) b0 hi hz a7 a8 (m:=m) (by omega)) hb;rw[←hv,←a6] at J;exact bT (wh rfl J) ⟨_,⟨G',b2.put (dst:=some d) (bQ (dst:=some d) hd) b3⟩,h⟩
theorem wN {x y:Operand} {t e:Nat} {td ed:bH} {g:Nat} {s:ByteArray} {c:Int} (hx:av f x=some (.bf g e s)) (hy:av f y=some (.d (.sl [[.v (.int .u8 c)]]))) (ht:ae T.l t=some td) (hk:td.k=.slice e) (he:ae T.l e=some ed) (a8:ua ed=true)
 (b3:(lv.any fun h=>Nat.beq h g)=true) (hd:Nat.blt d n=true) (m:ByteArray) (hm:m.size=1) (ch:∀ b,m.data[0]? = some b→(b.toNat:Int)=c) (hb:s.size+1≤140737488355328) {r:ByteArray} (N:s++m=r) {lv':List Nat} (cj:gen::bk lv g=lv')
 (h:WO P C n ops Q rest ⟨(d,.bf gen e r)::f,bx,lv',gen+1⟩):WO P C n ops Q (⟨some d,.call ⟨.builtin .append,#[x,y],#[t,t]⟩,ty,pos,af,none⟩::rest) ⟨f,bx,lv,gen⟩:=by
 subst N;subst cj;refine WO.step (st:=⟨f,bx,lv,gen⟩) rfl fun tmps w ⟨G,hs⟩=>?_;have N:=hs.av hx;have I:=hs.av hy;obtain⟨r,U⟩:=hs.live g (cM b3);generalize hv:Act.eval ⟨tmps,[]⟩ x=v at N;generalize cl:Act.eval ⟨tmps,[]⟩ y=v2 at I
 cases N with
 | bf _ _ _ _ dt h1 a1=>
 cases I with | d I=>cases I with
 | sl b2 J dj a6 cq _ u2 X dx ei cx cy I=>
 simp only[List.length_cons,List.length_nil,Nat.zero_add] at X;subst X;have a7:cq=1:=by have:=cx 0 _ rfl;simpa using this.symm
 subst a7;have Z:=(cy 0 0 (by omega) (by omega)).1;have ad:=I 0 0 _ _ rfl rfl;obtain⟨b0,ai⟩:∃ b0,m.data[0]? = some b0:=⟨m.data[0]'(by have:m.data.size=1:=hm;omega),by have:m.data.size=1:=hm;simp[this]⟩;have O:∀ j q,(Lib.strCells m)[j]? = some q→w.cell? ((⟨b2,J,none⟩:Addr).add j)=some q:=by
  intro j q hq;have hj:j=0:=by have:=(List.getElem?_eq_some_iff.1 hq).1;rw[Lib.strCells_length,hm] at this;omega
  subst hj;rw[eC ai,ch b0 ai] at hq;generalize u2 0 0=z at Z ad;cases ad;cases hq;have c1:w.cell? ⟨b2,J+0*1+0,none⟩=some (.int .u8 c):=Z;simpa [Addr.add] using c1
 obtain⟨i,hi,hz,c6,c7⟩:=T.byte he a8;have aj:=qj.one (P:=P) (w:=w) (ty:=ty) (c:=a6) (T.fu ht hk) hi hz c6 c7 (a:=⟨b2,J,none⟩) (m:=m) (by omega) (by omega) O;rw[hm] at aj;obtain⟨v',w',M,G',_,df,di⟩:=q9 (ty:=ty) hs U h1 (a1 r U) aj (by rw[hm];exact hb);rw[←hv,←cl] at M;exact bT (wh rfl M) ⟨_,⟨G',df.put (dst:=some d) (bQ (dst:=some d) hd) di⟩,h⟩
theorem Ag (k:Nat) {e:TypeId} {ed:bH} (he:ae T.l e=some ed) (hz:nM ed.z [.pointer none,.slice none 0 0]=true) (hd:Nat.blt d n=true)
 (h:WO P C n ops Q rest ⟨(d,.ptr gen 0)::f,(gen,[.np gen e false,.bf (gen+1) k .empty])::bx,(gen+1)::lv,gen+2⟩):WO P C n ops Q (⟨some d,.alloc e,ty,pos,af,none⟩::rest) ⟨f,bx,lv,gen⟩:=by
 refine WO.step (st:=⟨f,bx,lv,gen⟩) rfl fun tmps w ⟨G,hs⟩=>?_;obtain⟨i,z,hi,_,_,aj,X,_,_,_⟩:=T.info he;rw[oR hz] at X;have N:z.cells=#[.pointer none,.slice none 0 0]:=by apply Array.ext';simpa using X
 obtain⟨G1,hle,a1,a6⟩:=hs.pj z.cells e [.any,.any] (by rw[N];rfl) (fun i u hu=>by
  rw[N] at hu
  match i with
  | 0=>simp at hu;subst hu;rfl
  | 1=>simp at hu;subst hu;rfl
  | i+2=>simp at hu) (fun i u a hu O=>by
  match i with
  | 0=>simp at O;subst O;exact .any _
  | 1=>simp at O;subst O;exact .any _
  | i+2=>simp at O)
 have J:(w.alloc (.cells z.cells e)).heap[w.heap.size]? = some (.cells z.cells e (0,0)):=heap_alloc_new w _;have a7:G1.box gen=some w.heap.size:=by
  cases a6 with
  | ptr _ _ _ b hg hb hx=>simp only[Value.pointer.injEq,Option.some.injEq,Addr.mk.injEq,and_true] at hx;rw[hx];exact hb
 obtain⟨G2,a8,Z,b0⟩:=(a1.l3 true (gen::lv |>.tail) (fun _ h=>h)).wO;have I:G2.box gen=some w.heap.size:=by rw[a8];exact a7
 have b2:=ub (T:=k) (s:=.empty) (g:=gen+1) b0 (.inl rfl);have ad:=ao.xv (i:=1) (a':=.bf (gen+1) k .empty) Z Z rfl rfl (cells:=[.any,.any]) (g0:=gen) (by simp[ae]) (v:=.slice none 0 0) (fun b cs T' hb M=>by rw[I] at hb;cases hb;rw[J] at M;simp only[Option.some.injEq,Obj.cells.injEq] at M;rw[←M.1,N];rfl) (fun _ _=>rfl) b2;have ai:=ao.xv (i:=0) (a':=.np gen e false) ad ad rfl rfl (cells:=[.any,.bf (gen+1) k .empty]) (g0:=gen) (by simp[ae]) (v:=.pointer none) (fun b cs T' hb M=>by rw[I] at hb;cases hb;rw[J] at M;simp only[Option.some.injEq,Obj.cells.injEq] at M;rw[←M.1,N];rfl) (fun _ _=>rfl) (.np _ gen e w.heap.size (by simp[au];omega) I ⟨_,_,J⟩ false rfl);have b3:ao C n ⟨f,(gen,[.np gen e false,.bf (gen+1) k .empty])::bx,(gen+1)::lv,gen+2⟩ G2 tmps (w.alloc (.cells z.cells e)):=by
  refine { ai with box:=fun g' c U=>?_ };refine ai.box g' c ?_;simp only[bN] at U ⊢;split;·rename_i e1;rw[if_pos e1] at U;exact U
  ·rename_i e1;rw[if_neg e1] at U;exact U
 refine bT (v:=.pointer (some ⟨w.heap.size,0,none⟩)) (w':=w.alloc (.cells z.cells e)) ?_ ⟨_,⟨G2,b3.put (dst:=some d) (bQ (dst:=some d) hd) (.ptr _ gen 0 w.heap.size (by simp[au]) I rfl)⟩,h⟩;unfold execOp;show Sem.run P _ w=_;simp only[Instr.alloc,zeroValue,typeInfo,hi,aj,newVar,newRow,Sem.run_bind,run_program,run_newObj,Result.andThen_ok,Sem.run_pure];rfl
end
structure kg (P:Program) (e:TypeId) (f:FuncId):Prop where
 used:∀ (b:Nat) (w:World),w.cell? ⟨b,0,none⟩=some (.pointer (some ⟨b,0,none⟩))→Calls P f #[.pointer (some ⟨b,0,none⟩)] w fun e w'=>e=.returned (.tuple #[])∧w'=w
 fresh:∀ (b:Nat) (w:World),w.cell? ⟨b,0,none⟩=some (.pointer none)→w.shape? b=some (e,2)→w.frozen? ⟨b,0,none⟩=false →
  Calls P f #[.pointer (some ⟨b,0,none⟩)] w fun e w'=>e=.returned (.tuple #[])∧w'=w.setCell ⟨b,0,none⟩ (.pointer (some ⟨b,0,none⟩))
theorem wF {w:World} {b o:Nat} {cs:Array Value} {T:TypeId} {fr:Nat×Nat} (h:w.heap[b]? = some (.cells cs T fr)) (v:Value):w.setCell ⟨b,o,none⟩ v=w.setRow b (cs.setIfInBounds o v):=by
 have I:=(Array.getElem?_eq_some_iff.1 h).1;have e:w.heap.modify b (fun | .cells c elem frozen=>Obj.cells (c.setIfInBounds o v) elem frozen | o=>o)=w.heap.modify b (fun | .cells _ elem frozen=>Obj.cells (cs.setIfInBounds o v) elem frozen | o=>o):=by
  apply Array.ext_getElem?;intro k;simp only[Array.getElem?_modify];by_cases hk:b=k;·subst hk;simp only[if_pos rfl,h,Option.map_some]
  ·simp only[if_neg hk]
 exact congrArg (fun h=>({ w with heap:=h }:World)) e
theorem kg.Bj {P:Program} [cc P] {e:TypeId} {f:FuncId} (hok:iC P f) (h:kg P e f) (u:Bool) (a:A) (m:Nat):bp P f [.ptr 0 0] [[.np 0 e u,a]] m (.tup []) [[.np 0 e true,a]] m:=by
 refine⟨hok,rfl,fun C G M w hG hw b2 _ _ hs J a6=>?_⟩;obtain⟨b,cs,T',h1,h2,h3,h4,h5⟩:=hs.box 0 [.np 0 e u,a] (by simp[dO,ae]);have hv:M=#[.pointer (some ⟨b,0,none⟩)]:=by
  apply Array.ext_getElem?;intro i
  match i with
  | 0=>
    have h0:M[0]? = some (M[0]'(by simp at J;omega)):=by simp at J;simp[J]
    have:=a6 0 _ _ h0 rfl;rw[h0];generalize M[0]'(by simp at J;omega)=z at this
    cases this with
    | ptr _ _ _ N hg hb hx=>
      have O:N=b:=by have:=(hb:G.box 0=some N).symm.trans h1;simpa using this
      subst O;rw[hx];rfl
  | i+1=>simp at J;simp[J]
 have ai:cs[0]? = some (cs[0]'(by simp at h3;omega)):=by simp at h3;simp[h3]
 have aj:=h5 0 _ _ ai rfl;have I:w.cell? ⟨b,0,none⟩=some (cs[0]'(by simp at h3;omega)):=by have:=bC h2 0;rw[ai] at this;exact this
 have a7:aC (au C G (1+m) w) (.pointer (some ⟨b,0,none⟩)) (.np 0 e true)∧((u=true∧cs[0]'(by simp at h3;omega)=.pointer (some ⟨b,0,none⟩))∨(u=false∧cs[0]'(by simp at h3;omega)=.pointer none∧T'=e)):=by
  generalize cs[0]'(by simp at h3;omega)=z at aj
  cases aj with
  | np _ _ _ N hg hb hT _ hx=>
    have O:N=b:=by have:=(hb:G.box 0=some N).symm.trans h1;simpa using this
    subst O;refine⟨.np _ 0 e N hg hb hT true rfl,?_⟩;obtain⟨cs',f',hT⟩:=hT;have U:w.heap[N]? = some (.cells cs' e f'):=hT;rw[h2] at U;simp only[Option.some.injEq,Obj.cells.injEq] at U
    cases u with
    | true=>exact .inl ⟨rfl,hx⟩
    | false=>exact .inr ⟨rfl,hx,U.2.1⟩
 obtain⟨a8,ad⟩:=a7;subst hv;rcases ad with ⟨rfl,hz⟩ | ⟨rfl,hz,rfl⟩
 ·rw[hz] at I
  refine(h.used b w I).mono ?_;rintro e' w' ⟨rfl,rfl⟩;exact⟨_,G,rfl,hs,.tup #[] [] rfl (by simp)⟩
 ·rw[hz] at I
  refine(h.fresh b w I (by simp only[World.shape?,h2];simp at h3;rw[h3]) (by simp[World.frozen?,h2])).mono ?_;rintro e' w' ⟨rfl,rfl⟩;rw[wF h2];have a1:=hs.store (g:=0) (b:=b) (cs:=cs) (cs':=cs.setIfInBounds 0 (.pointer (some ⟨b,0,none⟩))) (T:=T') (cells:=[.np 0 T' false,a]) (cells':=[.np 0 T' true,a]) (by simp[dO,ae]) h1 h2 ⟨by simpa using h3,fun i u hu=>by
   rw[Array.getElem?_setIfInBounds] at hu;split at hu
   ·split at hu
    ·simp only[Option.some.injEq] at hu;subst hu;rfl
    ·cases hu
   ·exact h4 i u hu,fun i u y hu X=>by
   rw[Array.getElem?_setIfInBounds] at hu
   match i with
   | 0=>simp at X;subst X;simp at h3;simp[h3] at hu;subst hu;exact a8
   | 1=>simp at X;subst X;simp at hu;exact h5 1 u _ hu rfl
   | i+2=>simp at X⟩
  refine⟨_,G,rfl,?_,.tup #[] [] rfl (by simp)⟩;refine { a1 with box:=fun g' c Z=>?_ };refine a1.box g' c ?_;simp only[dO,bN] at Z ⊢;split;·rename_i O;rw[if_pos O] at Z;exact Z
  ·rename_i O;rw[if_neg O] at Z;simp[ae] at Z
def nl:A→A
 | .d (.v x)=>.d (.v x)
 | _=>.any
def lf (f:List (Nat×A)):List (Nat×A):=f.map fun p=>(p.1,nl p.2)
theorem mK:∀ (f:List (Nat×A)) (t:Nat),look (lf f) t=(look f t).map nl
 | [],t=>rfl
 | (s,a)::r,t=>by
   simp only[lf,List.map_cons];rw[aN,aN];split;·rfl
   ·exact mK r t
theorem ao.end_ {C:Ctx} [hN:NB C 0] {n:Nat} {st:St} {G:Gh} {tmps:Array Value} {w w':World} (h:ao C n st G tmps w) (hb:Below C.w0.heap.size w w') (M:w.heap.size≤w'.heap.size):ao C n ⟨lf st.f,[],[],st.gen⟩ G0 tmps w' where
 size:=h.size
 frame:=fun t a N=>by
  rw[mK] at N;obtain⟨a',O,rfl⟩:=Option.map_eq_some_iff.1 N;obtain⟨v,U,I⟩:=h.frame t a' O;refine⟨v,U,?_⟩;unfold nl;split;·cases I with | d I=>cases I with | v _ X=>exact .d (.v _ X)
  ·exact .any _
 box:=fun g cells Z=>by simp[ae] at Z
 gbox:=fun g b hb=>by simp[G0] at hb
 inj:=fun g g' b hb=>by simp[G0] at hb
 live:=fun g hg=>by simp at hg
 gown:=fun g r I=>by simp[G0] at I
 row:=fun g b len cap sz ad I=>by simp[G0] at I
 mrow:=fun g b bs I=>by simp[G0] at I
 sub:=fun g b bs c lim I=>by simp[G0] at I
 gcell:=fun g b hb=>by simp[G0] at hb
 xold:=h.xold
 kold:=h.kold
 lent:=fun i b hb=>by have:=hN.h;rw[List.length_eq_zero_iff.1 this] at hb;simp at hb
 fr:=⟨hb.os.trans h.fr.os,hb.tape.trans h.fr.tape,hb.output.trans h.fr.output,Nat.le_trans h.fr.size M,fun b h1 h2=>(hb.block b h1).trans (h.fr.block b h1 h2),fun b o u h1 h2=>by
  have J:=cE h2;rw[br (hb.block b J)];exact h.fr.cells b o u h1 h2,fun b cs T f h1=>by
  have J:=(Array.getElem?_eq_some_iff.1 h1).1;rw[hb.block b J];exact h.fr.ty b cs T f h1⟩
def qg (P:Program) (T e:TypeId) (f:FuncId):Prop:=
 ∀ (B b:Nat) (l:List UInt8) (w:World),Lib.IsBuilder T e B b (Lib.byteCells l) w→B≤w.heap.size→Calls P f #[.pointer (some ⟨b,0,none⟩)] w fun q w'=>q=.returned (.string ⟨l.toArray⟩)∧Below B w w'
section
variable {P:Program} {C:Ctx} {n:Nat} {ops:Array Oper} {Q:Exit→St→Prop} {rest:List Oper}
variable {f:List (Nat×A)} {bx:List (Nat×List A)} {lv:List Nat} {gen:Nat} {d:Nat} {ty:TypeId} {pos:String} {af:Array Edge}
theorem Eg [NB C 0] (cy:∀ b,¬ C.fp b) {x y:Operand} {O:Array TypeId} {fid:FuncId} {g g2:Nat} {T e:TypeId} {u:Bool} {s:ByteArray} (hx:av f x=some (.clo fid [])) (hy:av f y=some (.ptr g 0)) (hb:ae bx g=some [.np g T u,.bf g2 e s])
 (c1:(lv.any fun h=>Nat.beq h g2)=true) (hok:iC P fid) (cj:qg P T e fid) (c6:s.size≤maxLen) (hd:Nat.blt d n=true)
 (h:WO P C n ops Q rest ⟨(d,.d (.v (.string s)))::lf f,[],[],gen⟩):WO P C n ops Q (⟨some d,.call ⟨.value x,#[y],O⟩,ty,pos,af,none⟩::rest) ⟨f,bx,lv,gen⟩:=by
 refine WO.step (st:=⟨f,bx,lv,gen⟩) rfl fun tmps w ⟨G,hs⟩=>?_;obtain⟨fn,c7,ai,aj⟩:=hok;have a7:=hs.av hx;generalize hv:Act.eval ⟨tmps,[]⟩ x=v at a7
 cases a7 with
 | clo _ vs _ df e3=>
 have di:vs=#[]:=Array.eq_empty_of_size_eq_zero (by simpa using df);subst di;have a8:=hs.av hy;generalize dj:Act.eval ⟨tmps,[]⟩ y=vy at a8;obtain⟨b,cs,T',h1,h2,h3,h4,h5⟩:=hs.box g _ hb;have dt:vy=.pointer (some ⟨b,0,none⟩):=by
  cases a8 with
  | ptr _ _ _ b0 hg U I=>exact kP U I b h1
 subst dt;have cl:(execOp (Act.eval ⟨tmps,[]⟩) ⟨some d,.call ⟨.value x,#[y],O⟩,ty,pos,af,none⟩).run P w=.ok (.enter fid #[.pointer (some ⟨b,0,none⟩)]) w:=by unfold execOp;show Sem.run P (do let d ←resolve (Act.eval ⟨tmps,[]⟩) ⟨.value x,#[y],O⟩ ty;invoke d.target d.args) w=_;simp only[resolve,hv,dj,Deferred.ofValue,Sem.run_bind,Sem.run_pure,Result.andThen_ok,invoke,callFunc,run_program,c7,ai,aj,Bool.false_eq_true,if_false,Array.empty_append,Array.append_empty,List.map_toArray,List.map_cons,List.map_nil]
 simp at h3;obtain⟨p,q,X⟩:∃ p q,cs=#[p,q]:=⟨cs[0],cs[1],by apply Array.ext_getElem?;intro i;match i with | 0=>simp[h3] | 1=>simp[h3] | i+2=>simp[h3]⟩;subst X;have hp:=h5 0 p _ rfl rfl;have hq:=h5 1 q _ rfl rfl;obtain⟨r,b3⟩:=hs.live g2 (cM c1);have gl:∀ {b lim},C.gl b lim→C.w0.heap.size≤b:=fun hm=>hm.1.resolve_right (cy _);have Z:T'=T∧(p=.pointer none∨p=.pointer (some ⟨b,0,none⟩)):=by
  cases hp with
  | np _ _ _ b0 hg U hT _ I=>
    have e1:b0=b:=by have:=(U:G.box g=some b0).symm.trans h1;simpa using this
    subst e1;obtain⟨cs',f',hT⟩:=hT;have J:w.heap[b0]? = some (.cells cs' T f'):=hT;rw[h2] at J;simp only[Option.some.injEq,Obj.cells.injEq] at J;refine⟨J.2.1,?_⟩
    cases u with
    | true=>exact .inr I
    | false=>exact .inl I
 obtain⟨rfl,Z⟩:=Z;have M:w.ownsRow C.w0.heap.size e 1 q (Lib.byteCells s.data.toList).length (Lib.byteCells s.data.toList)∧q.ownBlock≠some b:=by
  cases hq with
  | bf _ _ _ _ hg e4 cq=>
  have I:=cq r b3
  cases r with
  | zero b=>exact I.elim
  | mp b bs=>exact I.elim
  | nil=>obtain⟨rfl,h0⟩:=I;have e0:s.data.toList=[]:=List.eq_nil_of_length_eq_zero (by simpa using h0);rw[e0];exact⟨World.ownsRow_nil w _ e 1,by simp[Value.ownBlock]⟩
  | blk b2 len cap sz e5=>
    obtain⟨rfl,h6,rfl,rfl,⟨cs',f',hT⟩,h8⟩:=I;obtain⟨a1,dx,en,cur,T2,N,X,ed,ei,_,e2,_⟩:=hs.row g2 b2 len cap 1 0 b3;have J:w.heap[b2]? = some (.cells cs' e f'):=hT;rw[N] at J;simp only[Option.some.injEq,Obj.cells.injEq] at J;obtain⟨_,rfl,_⟩:=J;have hlen:(Lib.byteCells s.data.toList).length=len:=by rw[Lib.byteCells_length,Array.length_toList];exact h6
    rw[hlen];refine⟨⟨by simpa using hlen,.inr ⟨b2,cap,cur,rfl,gl a1,N,ed,ei,X,?_⟩⟩,?_⟩
    ·rw[Nat.mul_one]
     apply List.ext_getElem?;intro t;rw[List.getElem?_take];have es:(Lib.byteCells s.data.toList)=Lib.strCells s:=(Lib.strCells_eq s).symm;split
     ·rename_i ch
      have hc:s.data[t]? = some (s.data[t]'(by rw[←h6] at ch;exact ch)):=Array.getElem?_eq_getElem _;have h7:=h8 t _ hc;have ej:cur[t]? = _:=(bC N t).symm.trans h7;rw[es,eC hc,Array.getElem?_toList,ej]
     ·rename_i e6
      rw[List.getElem?_eq_none (by rw[hlen];omega)]
    ·simp only[Value.ownBlock]
     intro e1;simp only[Option.some.injEq] at e1;exact dx g (e1▸h1)
 have cx:∀ p,p=Value.pointer none∨p=.pointer (some ⟨b,0,none⟩)→w.heap[b]? = some (.cells #[p,q] T' (0,0))→Lib.IsBuilder T' e C.w0.heap.size b (Lib.byteCells s.data.toList) w:=by
  rintro p (rfl | rfl) hh;·exact .inl ⟨gl (hs.gbox g b h1).2.2,q,hh,M.1,M.2⟩
  ·exact .inr ⟨gl (hs.gbox g b h1).2.2,q,hh,M.1,M.2⟩
 unfold cS;have a6:(execOp (Act.eval { tmps:=tmps,defers:=[] }) ⟨some d,.call ⟨.value x,#[y],O⟩,ty,pos,af,none⟩).run P w=.ok (.enter fid #[.pointer (some ⟨b,0,none⟩)]) w:=cl;rw[a6];refine(cj C.w0.heap.size b s.data.toList w (cx p Z h2) hs.fr.size).mono ?_;rintro e' w' ⟨rfl,ad⟩;refine⟨_,rfl,⟨(d,.d (.v (.string s)))::lf f,[],[],gen⟩,⟨G0,?_⟩,h⟩;have:=(hs.end_ ad ad.size).put (dst:=some d) (bQ (dst:=some d) hd) (v:=.string ⟨s.data.toList.toArray⟩) (a:=.d (.v (.string s))) (.d (by
  have:(⟨s.data.toList.toArray⟩:ByteArray)=s:=by apply ByteArray.ext;simp
  rw[this];exact .v _ (by simp[cm,c6])))
 exact this
end
end Go.Ab
namespace Go.Ab
theorem pf.Bj {P:Program} [cc P] {H:Ctx→Prop} {f:FuncId} {args:List A} {r:A} {k:Nat} (h:pf P H f args r k) (M:∀ C,H C):az P f args r k:=
 ⟨h.ok,fun C I w N hw hp O J U=>h.calls C I w N hw hp (M C) O J U⟩
end Go.Ab
namespace Go.Ab
open Go.RowKit
abbrev eI (v:Value):Exit:=.panic [{ v:=v,recovered:=false }]
section
variable {C:Ctx} {n:Nat} {st:St}
theorem ao.zF {G:Gh} {tmps:Array Value} {w w':World} (h:ao C n st G tmps w) {gs os:List Nat} (h1:Fr (dH C G w gs os) w'):Fr C w':=by
 have U:∀ {b},ec G gs b→C.gl b 0∧b < w.heap.size:=by rintro b ⟨g,_,N⟩;exact⟨(h.gbox g b N).2.2,(h.gbox g b N).2.1⟩
 have X:∀ {b lim},dv G os b lim→C.gl b lim∧b < w.heap.size∧(∀ g',G.box g'≠some b):=by rintro b lim ⟨g,_,r,N,ad⟩;obtain⟨h1,h2,h3,_⟩:=h.rowAt N ad;exact⟨h1,h3,h2⟩
 have ai:∀ {b},(ec G gs b∨∃ lim,dv G os b lim)→C.w0.heap.size≤b∨C.fp b:=by
  rintro b (hl | ⟨lim,hl⟩);·exact(U hl).1.1
  ·exact(X hl).1.1
 have I:∀ {b},b < w.heap.size→¬ (ec G gs b∨∃ lim,dv G os b lim)→w'.heap[b]? = w.heap[b]?:=fun J O=>h1.block _ J O;refine⟨h1.os.trans h.fr.os,h1.tape.trans h.fr.tape,h1.output.trans h.fr.output,Nat.le_trans h.fr.size h1.size,fun b J O=>?_,fun b o u Z hu=>?_,h.fr.ty.trans h1.ty⟩
 ·rw[I (Nat.lt_of_lt_of_le J h.fr.size) (fun hl=>(ai hl).elim (fun h=>by omega) O)]
  exact h.fr.block b J O
 ·have M:=h.fr.cells b o u Z hu
  by_cases hl:ec G gs b∨∃ lim,dv G os b lim
  ·rcases hl with hl | ⟨lim,hl⟩
   ·exact absurd ((U hl).1.2 o Z) (Nat.not_lt_zero _)
   ·exact h1.cells b o u ⟨lim,hl,(X hl).1.2 o Z⟩ M
  ·rw[br (I (cE M) hl)]
   exact M
theorem ao.left {G:Gh} {tmps:Array Value} {w w':World} (h:ao C n st G tmps w) (J:Fr C w') (hs:w.heap.size≤w'.heap.size) (M:dc w w'):ao C n ⟨[],[],[],st.gen⟩ ⟨G.box,fun _=>none⟩ tmps w':=
 { size:=h.size,frame:=fun t a N=>by simp[look] at N,box:=fun g cells O=>by simp[ae] at O,gbox:=fun g b hb=>⟨(h.gbox g b hb).1,Nat.lt_of_lt_of_le (h.gbox g b hb).2.1 hs,(h.gbox g b hb).2.2⟩,
   inj:=h.inj,live:=fun g U=>by simp at U,gown:=fun g r I=>by simp at I,row:=fun g b len cap sz X I=>by simp at I,mrow:=fun g b bs I=>by simp at I,sub:=fun g b bs c lim I=>by simp at I,gcell:=fun g b hb=>ka M (h.gcell g b hb),xold:=h.xold,kold:=h.kold,lent:=h.lent,fr:=J }
end
structure gd (P:Program) [cc P] (f:FuncId) (args:List A) (b0:List (List A)) (m:Nat) (v:Value):Prop where
 ok:iC P f
 calls:∀ (C:Ctx) (G:Gh) (vals:Array Value) (w:World),GC P C→C.w0=w→C.bx.length=b0.length→C.ds=[]→(m=0→∀ b,C.fp b→∃ i:Nat,C.bx[i]? = some b) →
  ao C 0 ⟨[],dO 0 b0,(List.range m).map (b0.length+·),b0.length+m⟩ G #[] w→vals.size=args.length →
  (∀ (i:Nat) (u:Value) (a:A),vals[i]? = some u→args[i]? = some a→aC (au C G (b0.length+m) w) u a) →
  Calls P f vals w fun e w'=>e=.panicked [{ v:=v,recovered:=false }]∧Fr C w'
def QP (v:Value):Exit→St→Prop:=fun e _=>e=eI v
theorem gd.B7 {P:Program} [cc P] {f:FuncId} {fn:Func} {c:Code} {n:Nat} {args:List A} {J:List (List A)} {m:Nat} {v:Value} (U:P.funcs[f]? = some fn) (M:(fn.name == "runtime.NumGoroutine")=false)
 (hb:fn.body=some c) (hn:fn.ntmps=n) (hlen:Nat.ble args.length n=true)
 (h:∀ C,NB C J.length→GC P C→(m=0→∀ b,C.fp b→∃ i:Nat,C.bx[i]? = some b)→(∀ i b:Nat,C.bx[i]? = some b→b < C.w0.heap.size)→W P C n c (QP v) ⟨fX 0 args,dO 0 J,(List.range m).map (J.length+·),J.length+m⟩):gd P f args J m v:=by
 have hlen:=Nat.le_of_ble_eq_true hlen;refine⟨⟨fn,U,M,by rw[hb];rfl⟩,fun C G I w hG hw X N Z hs ai O=>?_⟩;subst hw;refine calls_of_wp U hb (wp_mono (pk N (h C ⟨X⟩ hG Z (fun i b hb=>(hs.gbox i b (hs.lent i b hb)).2.1) (I++Array.replicate (fn.ntmps - I.size) undef) C.w0 ⟨G,?_⟩)) ?_)
 ·refine { hs with size:=by simp[hn];omega,frame:=fun t a ha=>?_ }
  obtain⟨_,h1⟩:=fA args 0 t a ha;have h2:t < args.length:=(List.getElem?_eq_some_iff.1 (by simpa using h1)).1;have h3:t < I.size:=by omega
  have h4:I[t]? = some I[t]:=by simp[h3]
  exact⟨I[t],by rw[Array.getElem?_append_left h3];exact h4,O t _ a h4 (by simpa using h1)⟩
 ·rintro e ⟨tmps,df⟩ w' ⟨hd,st,⟨G1,ad⟩,he⟩
  have he:e=eI v:=he;subst he;exact⟨hd.trans N,rfl,ad.fr⟩
theorem gd.bl {P:Program} [cc P] {f:FuncId} {fn:Func} {c:Code} {n:Nat} {args:List A} {I:List (List A)} {m:Nat} {v:Value} (M:P.funcs[f]? = some fn) (J:(fn.name == "runtime.NumGoroutine")=false)
 (hb:fn.body=some c) (N:fn.ntmps=n) (hlen:Nat.ble args.length n=true)
 (h:∀ C,NB C I.length→GC P C→W P C n c (QP v) ⟨fX 0 args,dO 0 I,(List.range m).map (I.length+·),I.length+m⟩):gd P f args I m v:=
 gd.B7 M J hb N hlen fun C hC O _ _=>h C hC O
inductive Out where
 | ret (r:A) (b1:List (List A)) (k:Nat)
 | e9 (v:Value)
def cF (P:Program) [cc P] (f:FuncId) (args:List A) (I:List (List A)) (m:Nat):Out→Prop
 | .ret r b1 k=>bp P f args I m r b1 k
 | .e9 v=>gd P f args I m v
def QX {P:Program} (T:bA P) (rs:List RV):Out→Exit→St→Prop
 | .ret r b1 k=>b4 T rs r b1 k
 | .e9 v=>QP v
def Out.len:Out→Nat→Bool
 | .ret _ b1 _,n=>Nat.beq b1.length n
 | .e9 _,_=>true
theorem cF.cZ {P:Program} (T:bA P) [cc P] {f:FuncId} {fn:Func} {c:Code} {rs:List RV} {n:Nat} {args:List A} {J:List (List A)} {m:Nat} {x:Out} (M:P.funcs[f]? = some fn) (I:(fn.name == "runtime.NumGoroutine")=false)
 (hb:fn.body=some c) (N:fn.ntmps=n) (U:fn.results=(rs.map RV.var).toArray) (hlen:Nat.ble args.length n=true) (O:x.len J.length=true)
 (h:∀ C,NB C J.length→GC P C→W P C n c (QX T rs x) ⟨fX 0 args,dO 0 J,(List.range m).map (J.length+·),J.length+m⟩):cF P f args J m x:=by
 cases x with
 | ret r b1 k=>exact bp.cZ T M I hb N U hlen (Nat.eq_of_beq_eq_true O) h
 | e9 v=>exact gd.bl M I hb N hlen h
theorem cF.ue {P:Program} (T:bA P) [cc P] {f:FuncId} {fn:Func} {c:Code} {rs:List RV} {n:Nat} {args:List A} {J:List (List A)} {m:Nat} {x:Out} (M:P.funcs[f]? = some fn) (I:(fn.name == "runtime.NumGoroutine")=false)
 (hb:fn.body=some c) (N:fn.ntmps=n) (U:fn.results=(rs.map RV.var).toArray) (hlen:Nat.ble args.length n=true) (O:x.len J.length=true)
 (h:∀ C,NB C J.length→GC P C→(m=0→∀ b,C.fp b→∃ i:Nat,C.bx[i]? = some b)→(∀ i b:Nat,C.bx[i]? = some b→b < C.w0.heap.size)→W P C n c (QX T rs x) ⟨fX 0 args,dO 0 J,(List.range m).map (J.length+·),J.length+m⟩):cF P f args J m x:=by
 cases x with
 | ret r b1 k=>exact bp.ue T M I hb N U hlen (Nat.eq_of_beq_eq_true O) h
 | e9 v=>exact gd.B7 M I hb N hlen h
theorem cF.ret {P:Program} [cc P] {f:FuncId} {args:List A} {I:List (List A)} {m:Nat} {x:Out} {r:A} {b1:List (List A)} {k:Nat} (h:cF P f args I m x) (J:x=.ret r b1 k):bp P f args I m r b1 k:=by subst J;exact h
theorem cF.e9 {P:Program} [cc P] {f:FuncId} {args:List A} {I:List (List A)} {m:Nat} {x:Out} {v:Value} (h:cF P f args I m x) (J:x=.e9 v):gd P f args I m v:=by subst J;exact h
section
variable {P:Program} {C:Ctx} {n:Nat} {ops:Array Oper} {Q:Exit→St→Prop} {rest:List Oper} {st:St} {o:Oper}
theorem WO.Dd (M:o.guard=none) {x:Operand} (N:o.op=.panic x) {t:TypeId} {y:Value} (O:av st.f x=some (.d (.v (.iface t y)))) (h:∀ st',Q (eI (.iface t y)) st'):WO P C n ops Q (o::rest) st:=by
 intro tmps w ⟨G,hs⟩;simp only[dS,Region.wanted,M,if_true];have I:=hs.av O;have U:Act.eval ⟨tmps,C.ds⟩ x=.iface t y:=by rw[Act.gw tmps C.ds []];generalize Act.eval ⟨tmps,[]⟩ x=v at I ⊢;cases I with | d I=>cases I;rfl
 unfold Oper.wp;have J:(execOp (Act.eval ⟨tmps,C.ds⟩) o).run P w=.halt (.panic (.iface t y)) w:=by unfold execOp;rw[N];simp[U,Instr.panic,goPanic]
 rw[J];exact⟨rfl,st,⟨G,hs⟩,h st⟩
theorem WO.b7 [cc P] [GC P C] (U:o.guard=none) {x:Operand} {xs:Array Operand} {O:Array TypeId} (ho:o.op=.call ⟨.value x,xs,O⟩) {fid:FuncId} {caps I:List A} (hx:av st.f x=some (.clo fid caps))
 (a6:iV st.f xs.toList=some I) (gs os:List Nat) (a7:nodupB gs=true) (a8:nodupB os=true) (b2:(os.all fun g=>st.lv.any fun h=>Nat.beq h g)=true) {args:List A} {b0:List (List A)} {v:Value} {m:Nat}
 (hf:gd P fid args b0 m v) (X:(I++caps).map (dm st.bx gs os 5)=args) (hb:eZ st.bx gs os gs=some b0) (hm:os.length=m)
 (h:∀ st',Q (eI v) st'):WO P C n ops Q (o::rest) st:=by
 subst hm;subst X;intro tmps w ⟨G,hs⟩;simp only[dS,Region.wanted,U,if_true];obtain⟨fn,b3,M,N⟩:=hf.ok;have Z:=hs.av hx;rw[←Act.gw tmps C.ds []] at Z;generalize hv:Act.eval ⟨tmps,C.ds⟩ x=v' at Z
 cases Z with
 | clo _ vs _ ch hcd=>
 obtain⟨h1,h2⟩:=gV hs xs.toList I a6;rw[←Act.gw tmps C.ds []] at h2;have ad:(execOp (Act.eval ⟨tmps,C.ds⟩) o).run P w=.ok (.enter fid (xs.map (Act.eval ⟨tmps,C.ds⟩)++vs)) w:=by unfold execOp;rw[ho];show Sem.run P (do let d ←resolve (Act.eval ⟨tmps,C.ds⟩) ⟨.value x,xs,O⟩ o.type;invoke d.target d.args) w=_;simp only[resolve,hv,Deferred.ofValue,Sem.run_bind,Sem.run_pure,Result.andThen_ok,invoke,callFunc,run_program,b3,M,N,Bool.false_eq_true,if_false,Array.empty_append]
 obtain⟨hlen,ai⟩:=hs.kT (gs:=gs) (os:=os) (dL a7) (dL a8) (fun g U=>by obtain⟨y,J,he⟩:=List.any_eq_true.1 (List.all_eq_true.1 b2 g U);exact Nat.eq_of_beq_eq_true he▸J) hb;have c1:=(fU hb).1;unfold Oper.wp;rw[ad];refine(hf.calls (dH C G w gs os) (fz G gs os) _ w (GC.rv hs) rfl hlen rfl (qn rfl) ai (by simp at h1;simp[ch,h1]) (fun i u a hu ha=>?_)).mono fun e w' ⟨he,h3⟩=>?_
 ·simp only[List.getElem?_map,Option.map_eq_some_iff] at ha
  obtain⟨y,J,rfl⟩:=ha;refine aC.kT hs gs os (by omega) 5 u y ?_;simp only[Array.getElem?_append] at hu;split at hu
  ·rename_i cj
   simp only[Array.size_map] at cj;have aj:i < I.length:=by simp at h1;omega
   rw[List.getElem?_append_left aj] at J;obtain⟨z,hz,cl⟩:=h2 i y J;simp only[Array.getElem?_map,Option.map_eq_some_iff] at hu;obtain⟨z',cq,rfl⟩:=hu;have:z=z':=by simp at hz;rw[cq] at hz;exact(Option.some.inj hz).symm
   subst this;exact cl
  ·rename_i cx
   simp only[Array.size_map] at cx hu;have a1:I.length≤i:=by simp at h1;omega
   rw[List.getElem?_append_right a1] at J;refine hcd (i - xs.size) u y hu ?_;have:xs.size=I.length:=by simpa using h1
   rw[this];exact J
 ·subst he
  have cy:=hs.zF h3;exact⟨rfl,_,⟨_,hs.left cy h3.size h3.ty⟩,h _⟩
end
section
variable {P:Program} {C:Ctx} {n:Nat} {ops:Array Oper} {Q:Exit→St→Prop} {rest:List Oper} {c:Code}
variable {f:List (Nat×A)} {bx:List (Nat×List A)} {lv:List Nat} {gen:Nat} {d:Nat} {op:Op} {ty:TypeId} {pos:String} {af:Array Edge} {a:A} {dst:Option Nat}
theorem EF {x:Operand} {t:TypeId} {y:Value} (I:av f x=some (.d (.v (.iface t y)))) (h:∀ st',Q (eI (.iface t y)) st'):WO P C n ops Q (⟨dst,.panic x,ty,pos,af,none⟩::rest) ⟨f,bx,lv,gen⟩:=
 WO.Dd (st:=⟨f,bx,lv,gen⟩) rfl rfl I h
theorem b7 [cc P] [GC P C] {x:Operand} {xs:Array Operand} {M:Array TypeId} {fid:FuncId} {caps I args:List A} {N:List (List A)} {v:Value} {m:Nat} (gs os:List Nat) (hx:av f x=some (.clo fid caps)) (O:iV f xs.toList=some I)
 (J:(I++caps).map (dm bx gs os 5)=args) (hb:eZ bx gs os gs=some N) (hm:os.length=m) (hf:gd P fid args N m v)
 (U:nodupB gs=true) (X:nodupB os=true) (Z:(os.all fun g=>lv.any fun h=>Nat.beq h g)=true) (h:∀ st',Q (eI v) st') :
 WO P C n ops Q (⟨dst,.call ⟨.value x,xs,M⟩,ty,pos,af,none⟩::rest) ⟨f,bx,lv,gen⟩:=
 WO.b7 (st:=⟨f,bx,lv,gen⟩) rfl rfl hx O gs os U X Z hf J hb hm h
theorem vI {w:World} {pv:Nat→Nat→Prop} {a b:Value} (h:aI w pv a (.v b)):a=b:=by cases h;rfl
theorem CT (T:bA P) {t:Nat} {x:Operand} {I:bH} {l:List Value} (N:ae T.l t=some I) (O:I.k.agg=true) (U:av f x=some (.ag (l.map D.v))):Pu P C n ⟨f,bx,lv,gen⟩ ⟨dst,.makeInterface t x,ty,pos,af,none⟩ (.d (.v (.iface t (.agg l.toArray)))):=by
 refine dG.pu fun G tmps w hs=>?_;have J:=hs.av U;generalize X:Act.eval ⟨tmps,[]⟩ x=v at J
 cases J with
 | ag vs _ M h=>
 have e:vs=l.toArray:=by
  apply Array.ext;·simpa using M
  ·intro i h1 h2
   have h3:i < l.length:=by simpa using h2
   have:=vI (h i vs[i] (.v l[i]) (by simp[h1]) (by simp[h3]));simpa using this
 subst e;refine⟨_,?_,.d (.v _ rfl)⟩;obtain⟨u,hu,Z⟩:∃ u,P.underlying t=some u∧(match u with | .interface _=>false | _=>true)=true:=by
  have:=T.isAgg N w;unfold isAgg at this
  cases hu:P.underlying t with
  | none=>simp[underlying,hu] at this
  | some u=>refine⟨u,rfl,?_⟩;cases u <;> first | rfl | (simp[underlying,hu,O] at this)
 unfold execOp;simp only[X,Instr.makeInterface,Sem.run_bind,run_underlying hu,Result.andThen_ok,Sem.run_pure];cases u <;> simp_all
end
end Go.Ab
namespace Go.Ab
open Go.RowKit
section
variable {P:Program} {C:Ctx} {n:Nat} {Q:Exit→St→Prop} {st:St} {v:Value}
theorem bW {y:Code} (h:Q (eI v) st):QS P C n y Q (eI v) st:=h
theorem fg {id:Nat} (h:Q (eI v) st):QB id Q (eI v) st:=h
theorem iU {I:Nat→St→Prop} {m:Nat} (h:Q (eI v) st):QL I m Q (eI v) st:=h
theorem cf {T:bA P} {rs:List RV} {x:Out} (h:x=.e9 v):QX T rs x (eI v) st:=by subst h;rfl
theorem cO {T:bA P} {rs:List RV} {x:Out} {r:A} {b1:List (List A)} {k:Nat} {e:Exit} (h:x=.ret r b1 k) (I:b4 T rs r b1 k e st):QX T rs x e st:=by subst h;exact I
theorem Fy {S:St} (h:Q (eI v) st):QC C n S Q (eI v) st:=h
end
end Go.Ab
namespace Go.Tb
open Go.Ab
@[reducible] def gu (t:Nat) (a:Nat) (w:Int):Value:=.iface t (.agg #[.int .i64 (a:Int),.int .i64 w])
@[reducible] def ek (s:ByteArray) (i:Nat):List A:=[.d (cs s),.d (.v (.int .i64 (i:Int)))]
def fV {α:Type} (t:Nat) (s:ByteArray) (r:α→A):PE α→Out
 | .ok x i=>.ret (r x) [ek s i] 0
 | .no a w=>.e9 (gu t a w)
theorem eX {α:Type} (t:Nat) (s:ByteArray) (r:α→A) (x:PE α):(fV t s r x).len 1=true:=by cases x <;> rfl
theorem aM {α:Type} {t:Nat} {s:ByteArray} {r:α→A} {x:PE α} {y:α} {i:Nat} (h:x=.ok y i):fV t s r x=.ret (r y) [ek s i] 0:=by subst h;rfl
theorem aH {α:Type} {t:Nat} {s:ByteArray} {r:α→A} {x:PE α} {a:Nat} {w:Int} (h:x=.no a w):fV t s r x=.e9 (gu t a w):=by subst h;rfl
end Go.Tb
namespace Go.Ab
open Go.RowKit
def ly (I:Nat):List (Nat×List A)→List (Nat×List A)
 | []=>[]
 | (g,c)::r=>bif Nat.blt g I then (g,c.map nl)::ly I r else ly I r
theorem my {I:Nat}:∀ {bx:List (Nat×List A)} {g:Nat} {c:List A},ae (ly I bx) g=some c→g < I∧∃ c0,ae bx g=some c0∧c=c0.map nl
 | [],g,c,h=>by simp[ly,ae] at h
 | (g0,c0)::r,g,c,h=>by
   unfold ly at h
   cases hb:Nat.blt g0 I with
   | true=>
     rw[hb] at h;have J:g0 < I:=Nat.blt_eq.mp hb;simp only[cond_true,ae] at h ⊢
     cases he:Nat.beq g0 g with
     | true=>rw[he] at h;simp only[cond_true,Option.some.injEq] at h ⊢;have e:g0=g:=Nat.eq_of_beq_eq_true he;subst e;exact⟨J,c0,rfl,h.symm⟩
     | false=>rw[he] at h;simp only[cond_false] at h ⊢;exact my h
   | false=>
     rw[hb] at h;have J:¬ g0 < I:=fun q=>by rw[Nat.blt_eq.mpr q] at hb;cases hb
     simp only[cond_false] at h;obtain⟨h1,h2⟩:=my h;refine⟨h1,?_⟩;have e:Nat.beq g0 g=false:=by
      cases q:Nat.beq g0 g with
      | false=>rfl
      | true=>have:=Nat.eq_of_beq_eq_true q;omega
     simp only[ae,e,cond_false];exact h2
theorem qe {E E':En} {v:Value} {a:A} (h:aC E v a):aC E' v (nl a):=by
 unfold nl;split;·cases h with | d I=>cases I with | v _ J=>exact .d (.v _ J)
 ·exact .any _
theorem ao.F5 {C:Ctx} {n M:Nat} {st:St} {G:Gh} {tmps:Array Value} {w w':World} (h:ao C n st G tmps w) (U:C.bx.length=M) (X:∀ i b:Nat,C.bx[i]? = some b→b < C.w0.heap.size) (hb:Below C.w0.heap.size w w') (Z:w.heap.size≤w'.heap.size) :
 ao C n ⟨lf st.f,ly M st.bx,[],st.gen⟩ ⟨fun g=>if g < M then G.box g else none,fun _=>none⟩ tmps w' where
 size:=h.size
 frame:=fun t a O=>by rw[mK] at O;obtain⟨a',ad,rfl⟩:=Option.map_eq_some_iff.1 O;obtain⟨v,hv,N⟩:=h.frame t a' ad;exact⟨v,hv,qe N⟩
 box:=fun g cells hc=>by
  obtain⟨I,c0,h0,rfl⟩:=my hc;obtain⟨b,cs,T,h1,h2,h3,h4,h5⟩:=h.box g c0 h0;have ai:C.bx[g]? = some b:=by have hl:C.bx[g]? = some (C.bx[g]'(by omega)):=List.getElem?_eq_getElem _;have:=h.lent g _ hl;rw[h1] at this;rw[hl,←this]
  have J:=X g b ai;refine⟨b,cs,T,by simp[I,h1],by rw[hb.block b J];exact h2,by simpa using h3,h4,fun i u a hu O=>?_⟩;rw[List.getElem?_map] at O;obtain⟨a0,aj,rfl⟩:=Option.map_eq_some_iff.1 O;exact qe (h5 i u a0 hu aj)
 gbox:=fun g b I=>by
  have I:(if g < M then G.box g else none)=some b:=I;split at I
  ·obtain⟨q1,q2,q3⟩:=h.gbox g b I
   exact⟨q1,Nat.lt_of_lt_of_le q2 Z,q3⟩
  ·cases I
 inj:=fun g g' b h1 h2=>by
  have h1:(if g < M then G.box g else none)=some b:=h1;have h2:(if g' < M then G.box g' else none)=some b:=h2;split at h1
  ·split at h2
   ·exact h.inj g g' b h1 h2
   ·cases h2
  ·cases h1
 live:=fun g I=>by simp at I
 gown:=fun g r N=>by simp at N
 row:=fun g b len cap sz a1 N=>by simp at N
 mrow:=fun g b bs N=>by simp at N
 sub:=fun g b bs c lim N=>by simp at N
 gcell:=fun g b I=>by
  have I:(if g < M then G.box g else none)=some b:=I;split at I
  ·rename_i J
   have hl:g < C.bx.length:=by rw[U];exact J
   have h1:=h.lent g C.bx[g] (by simp[hl]);rw[I] at h1;simp only[Option.some.injEq] at h1;obtain⟨cs,T,f,h2⟩:=h.gcell g b I;exact⟨cs,T,f,by rw[hb.block b (X g b (by rw[h1];simp[hl]))];exact h2⟩
  ·cases I
 xold:=h.xold
 kold:=h.kold
 lent:=fun i b hb=>by
  have hi:i < M:=by rw[←U];exact(List.getElem?_eq_some_iff.1 hb).1
  show(if i < M then G.box i else none)=some b;rw[if_pos hi];exact h.lent i b hb
 fr:=⟨hb.os.trans h.fr.os,hb.tape.trans h.fr.tape,hb.output.trans h.fr.output,Nat.le_trans h.fr.size Z,fun b h1 h2=>(hb.block b h1).trans (h.fr.block b h1 h2),fun b o u h1 h2=>by
  have J:=cE h2;rw[br (hb.block b J)];exact h.fr.cells b o u h1 h2,fun b cs T f h1=>by
  have J:=(Array.getElem?_eq_some_iff.1 h1).1;rw[hb.block b J];exact h.fr.ty b cs T f h1⟩
section
variable {P:Program} {C:Ctx} {n:Nat} {ops:Array Oper} {Q:Exit→St→Prop} {rest:List Oper}
variable {f:List (Nat×A)} {bx:List (Nat×List A)} {lv:List Nat} {gen:Nat} {d:Nat} {ty:TypeId} {pos:String} {af:Array Edge}
theorem C7 {X:Nat} [hN:NB C X] (cj:∀ b,C.fp b→∃ i:Nat,C.bx[i]? = some b) (dt:∀ i b:Nat,C.bx[i]? = some b→b < C.w0.heap.size) {x y:Operand} {O:Array TypeId} {fid:FuncId} {g g2:Nat} {T e:TypeId} {u:Bool} {s:ByteArray} (hx:av f x=some (.clo fid [])) (hy:av f y=some (.ptr g 0)) (hb:ae bx g=some [.np g T u,.bf g2 e s])
 (dx:(lv.any fun h=>Nat.beq h g2)=true) (hok:iC P fid) (c6:qg P T e fid) (ed:s.size≤maxLen) (hd:Nat.blt d n=true) (cl:Nat.ble X g=true)
 (h:WO P C n ops Q rest ⟨(d,.d (.v (.string s)))::lf f,ly X bx,[],gen⟩):WO P C n ops Q (⟨some d,.call ⟨.value x,#[y],O⟩,ty,pos,af,none⟩::rest) ⟨f,bx,lv,gen⟩:=by
 refine WO.step (st:=⟨f,bx,lv,gen⟩) rfl fun tmps w ⟨G,hs⟩=>?_;obtain⟨fn,ei,a6,a7⟩:=hok;have cq:=hs.av hx;generalize hv:Act.eval ⟨tmps,[]⟩ x=v at cq
 cases cq with
 | clo _ vs _ ej fs=>
 have en:vs=#[]:=Array.eq_empty_of_size_eq_zero (by simpa using ej);subst en;have cx:=hs.av hy;generalize e2:Act.eval ⟨tmps,[]⟩ y=vy at cx;obtain⟨b,cs,T',h1,h2,h3,h4,h5⟩:=hs.box g _ hb;have e3:vy=.pointer (some ⟨b,0,none⟩):=by
  cases cx with
  | ptr _ _ _ b0 hg Z I=>exact kP Z I b h1
 subst e3;have c7:(execOp (Act.eval ⟨tmps,[]⟩) ⟨some d,.call ⟨.value x,#[y],O⟩,ty,pos,af,none⟩).run P w=.ok (.enter fid #[.pointer (some ⟨b,0,none⟩)]) w:=by unfold execOp;show Sem.run P (do let d ←resolve (Act.eval ⟨tmps,[]⟩) ⟨.value x,#[y],O⟩ ty;invoke d.target d.args) w=_;simp only[resolve,hv,e2,Deferred.ofValue,Sem.run_bind,Sem.run_pure,Result.andThen_ok,invoke,callFunc,run_program,ei,a6,a7,Bool.false_eq_true,if_false,Array.empty_append,Array.append_empty,List.map_toArray,List.map_cons,List.map_nil]
 simp at h3;obtain⟨p,q,ad⟩:∃ p q,cs=#[p,q]:=⟨cs[0],cs[1],by apply Array.ext_getElem?;intro i;match i with | 0=>simp[h3] | 1=>simp[h3] | i+2=>simp[h3]⟩;subst ad;have hp:=h5 0 p _ rfl rfl;have hq:=h5 1 q _ rfl rfl;obtain⟨r,cy⟩:=hs.live g2 (cM dx);have df:C.bx.length=X:=hN.h;have a8:∀ {b lim},C.gl b lim→(∀ g',G.box g'≠some b)→C.w0.heap.size≤b:=fun hm e4=>hm.1.resolve_right fun hf=>by obtain⟨i,hi⟩:=cj _ hf;exact e4 i (hs.lent i _ hi)
 have U:C.w0.heap.size≤b:=(hs.gbox g b h1).2.2.1.resolve_right fun hf=>by obtain⟨i,hi⟩:=cj _ hf;have e:=hs.inj _ _ _ (hs.lent i _ hi) h1;have ai:i < C.bx.length:=(List.getElem?_eq_some_iff.1 hi).1;have:=Nat.le_of_ble_eq_true cl;omega
 have aj:T'=T∧(p=.pointer none∨p=.pointer (some ⟨b,0,none⟩)):=by
  cases hp with
  | np _ _ _ b0 hg Z hT _ I=>
    have e1:b0=b:=by have:=(Z:G.box g=some b0).symm.trans h1;simpa using this
    subst e1;obtain⟨cs',f',hT⟩:=hT;have J:w.heap[b0]? = some (.cells cs' T f'):=hT;rw[h2] at J;simp only[Option.some.injEq,Obj.cells.injEq] at J;refine⟨J.2.1,?_⟩
    cases u with
    | true=>exact .inr I
    | false=>exact .inl I
 obtain⟨rfl,aj⟩:=aj;have M:w.ownsRow C.w0.heap.size e 1 q (Lib.byteCells s.data.toList).length (Lib.byteCells s.data.toList)∧q.ownBlock≠some b:=by
  cases hq with
  | bf _ _ _ _ hg ft di=>
  have I:=di r cy
  cases r with
  | zero b=>exact I.elim
  | mp b bs=>exact I.elim
  | nil=>obtain⟨rfl,h0⟩:=I;have e0:s.data.toList=[]:=List.eq_nil_of_length_eq_zero (by simpa using h0);rw[e0];exact⟨World.ownsRow_nil w _ e 1,by simp[Value.ownBlock]⟩
  | blk b2 len cap sz gb=>
    obtain⟨rfl,h6,rfl,rfl,⟨cs',f',hT⟩,h8⟩:=I;obtain⟨b3,c1,fj,cur,T2,N,ad,e5,e6,_,fo,_⟩:=hs.row g2 b2 len cap 1 0 cy;have J:w.heap[b2]? = some (.cells cs' e f'):=hT;rw[N] at J;simp only[Option.some.injEq,Obj.cells.injEq] at J;obtain⟨_,rfl,_⟩:=J;have hlen:(Lib.byteCells s.data.toList).length=len:=by rw[Lib.byteCells_length,Array.length_toList];exact h6
    rw[hlen];refine⟨⟨by simpa using hlen,.inr ⟨b2,cap,cur,rfl,a8 b3 c1,N,e5,e6,ad,?_⟩⟩,?_⟩
    ·rw[Nat.mul_one]
     apply List.ext_getElem?;intro t;rw[List.getElem?_take];have es:(Lib.byteCells s.data.toList)=Lib.strCells s:=(Lib.strCells_eq s).symm;split
     ·rename_i ai
      have hc:s.data[t]? = some (s.data[t]'(by rw[←h6] at ai;exact ai)):=Array.getElem?_eq_getElem _;have h7:=h8 t _ hc;have ff:cur[t]? = _:=(bC N t).symm.trans h7;rw[es,eC hc,Array.getElem?_toList,ff]
     ·rename_i cl
      rw[List.getElem?_eq_none (by rw[hlen];omega)]
    ·simp only[Value.ownBlock]
     intro e1;simp only[Option.some.injEq] at e1;exact c1 g (e1▸h1)
 have dj:∀ p,p=Value.pointer none∨p=.pointer (some ⟨b,0,none⟩)→w.heap[b]? = some (.cells #[p,q] T' (0,0))→Lib.IsBuilder T' e C.w0.heap.size b (Lib.byteCells s.data.toList) w:=by
  rintro p (rfl | rfl) hh;·exact .inl ⟨U,q,hh,M.1,M.2⟩
  ·exact .inr ⟨U,q,hh,M.1,M.2⟩
 unfold cS;have ch:(execOp (Act.eval { tmps:=tmps,defers:=[] }) ⟨some d,.call ⟨.value x,#[y],O⟩,ty,pos,af,none⟩).run P w=.ok (.enter fid #[.pointer (some ⟨b,0,none⟩)]) w:=c7;rw[ch];refine(c6 C.w0.heap.size b s.data.toList w (dj p aj h2) hs.fr.size).mono ?_;rintro e' w' ⟨rfl,a1⟩;refine⟨_,rfl,⟨(d,.d (.v (.string s)))::lf f,ly X bx,[],gen⟩,⟨⟨fun g=>if g < X then G.box g else none,fun _=>none⟩,?_⟩,h⟩;have:=(hs.F5 df dt a1 a1.size).put (dst:=some d) (bQ (dst:=some d) hd) (v:=.string ⟨s.data.toList.toArray⟩) (a:=.d (.v (.string s))) (.d (by
  have:(⟨s.data.toList.toArray⟩:ByteArray)=s:=by apply ByteArray.ext;simp
  rw[this];exact .v _ (by simp[cm,ed])))
 exact this
end
end Go.Ab
namespace Go.Ab
open Go.RowKit
section
variable {P:Program} {C:Ctx} {n:Nat}
theorem W.A0 (T:bA P) {J:Nat} [hnb:NB C J] {id:Nat} {l l1 l2:List Oper} {f:List (Nat×A)} {bx:List (Nat×List A)} {lv:List Nat} {gen:Nat} {Q:Exit→St→Prop} (v:Value) (cs:List Nat) (m:Nat) (hB:fy m l.toArray=true) (I:jf l.toArray cs=true) (h1:l.take m=l1) (h2:l.drop m=l2)
 (M:∀ st,Q (eI v) st) (h:CD P T C n (yM (bx::List.replicate cs.length bx) (lv::List.replicate cs.length lv) (gen::List.replicate cs.length gen) cs l.length v) l.toArray (WO P C n l.toArray Q l2) l1 0 f 0 true):W P C n (.region id l.toArray true) Q ⟨f,bx,lv,gen⟩:=
 W.xw T v _ _ _ _ m hB I h1 h2 M h
theorem W.BQ (T:bA P) {J:Nat} [hnb:NB C J] {id:Nat} {l l1 l2:List Oper} {f:List (Nat×A)} {bx:List (Nat×List A)} {lv:List Nat} {gen:Nat} {Q:Exit→St→Prop} (v:Value) (lv1:List Nat) (gen1:Nat) (bx1:List (Nat×List A)) (cs:List Nat) (m:Nat) (hB:fy m l.toArray=true) (I:jf l.toArray cs=true) (h1:l.take m=l1) (h2:l.drop m=l2)
 (M:∀ st,Q (eI v) st) (h:CD P T C n (yM (bx::List.replicate cs.length bx1) (lv::List.replicate cs.length lv1) (gen::List.replicate cs.length gen1) cs l.length v) l.toArray (WO P C n l.toArray Q l2) l1 0 f 0 true):W P C n (.region id l.toArray true) Q ⟨f,bx,lv,gen⟩:=
 W.xw T v _ _ _ _ m hB I h1 h2 M h
theorem W.p9 (T:bA P) {N:Nat} [hnb:NB C N] {id:Nat} {l l1 l2:List Oper} {f:List (Nat×A)} {bx:List (Nat×List A)} {lv:List Nat} {gen:Nat} {Q:Exit→St→Prop} (F:List (Nat×List A)→List (List (Nat×List A))) (J:List (List Nat)) (I:List Nat) (cs:List Nat) (m:Nat) (hB:fy m l.toArray=true) (M:jf l.toArray cs=true) (h1:l.take m=l1) (h2:l.drop m=l2)
 (h:CD P T C n (Aw (bx::F bx) (lv::J) (gen::I) cs l.length) l.toArray (WO P C n l.toArray Q l2) l1 0 f 0 true):W P C n (.region id l.toArray true) Q ⟨f,bx,lv,gen⟩:=
 W.oX T (F bx) J I cs m hB M h1 h2 h
end
end Go.Ab
namespace Go.Ab
open Go.RowKit
/-! ### a code whose end is told at once -/
def W' (P:Program) (C:Ctx) (n:Nat) (c:Code) (B:Exit→Act→World→Prop) (st:St):Prop:=∀ tmps w,ez C n st tmps w→c.wp P B ⟨tmps,C.ds⟩ w
def nK (P:Program) (C:Ctx) (n:Nat) (ops:Array Oper) (B:Exit→Act→World→Prop) (l:List Oper) (st:St):Prop:=∀ tmps w,ez C n st tmps w→dS P ops B l ⟨tmps,C.ds⟩ w
def FI (P:Program) (C:Ctx) (n:Nat) (y:Code) (B:Exit→Act→World→Prop):Exit→St→Prop
 | .normal,st=>W' P C n y B st
 | e,st=>∀ tmps w,ez C n st tmps w→B e ⟨tmps,C.ds⟩ w
section
variable {P:Program} {C:Ctx} {n:Nat} {ops:Array Oper} {B:Exit→Act→World→Prop} {st:St} {o:Oper} {rest:List Oper} {a:A}
theorem W'.seq {x y:Code} (h:W P C n x (FI P C n y B) st):W' P C n (.seq x y) B st:=by intro tmps w hs;refine wp_seq (wp_mono (h tmps w hs) ?_);rintro e ⟨t,M⟩ w' ⟨hd,st',I,J⟩;simp only at hd;subst hd;cases e <;> simp only[FI] at J <;> simp only[Exit.then];all_goals exact J t w' I
theorem W'.yX {id:Nat} {l:List Oper} {y:Code} (h:nK P C n l.toArray (Exit.then (y.wp P B) B) l st):W' P C n (.seq (.region id l.toArray false) y) B st:=by intro tmps w hs;refine wp_seq (wp_region ?_);have:=oq (P:=P) (Q:=Exit.then (y.wp P B) B) (ops:=l.toArray) l 0 (by simp) ⟨tmps,C.ds⟩ w (h tmps w hs);rw[List.range_eq_range'];simpa using this
theorem nK.pu (I:o.guard=none) (hd:eM n o.dst=true) (hp:Pu P C n st o a) (h:nK P C n ops B rest (st.put o.dst a)):nK P C n ops B (o::rest) st:=by intro tmps w ⟨G,hs⟩;simp only[dS,Region.wanted,I,if_true];refine(cS.ds (hp G tmps w hs)).wp fun v w' ⟨hb,hr⟩=>?_;rw[Act.gn];exact h _ _ ⟨G,(hs.gp hb).2.put (bQ hd) hr⟩
abbrev pp (b:Nat):Value:=.pointer (some ⟨b,0,none⟩)
abbrev pD (fid:FuncId) (b0 b1 b2:Nat):Deferred:=⟨.fn (.func fid) #[pp b0,pp b1,pp b2],#[]⟩
theorem nK.defer (hg:o.guard=none) (N:o.dst=none) {x:Operand} {X:Array TypeId} {fid:FuncId} (ho:o.op=.defer ⟨.value x,#[],X⟩) (hx:av st.f x=some (.clo fid [.ptr 0 0,.ptr 1 0,.ptr 2 0]))
 (h:∀ I b1 J tmps w G,ao C n st G tmps w→G.box 0=some I→G.box 1=some b1→G.box 2=some J→dS P ops B rest ⟨tmps,pD fid I b1 J::C.ds⟩ w):nK P C n ops B (o::rest) st:=by
 intro tmps w ⟨G,hs⟩;simp only[dS,Region.wanted,hg,if_true];have O:=hs.av hx;rw[←Act.gw tmps C.ds []] at O;generalize hv:Act.eval ⟨tmps,C.ds⟩ x=v at O
 cases O with
 | clo _ vs _ M hcd=>
 have M:vs.size=3:=M;obtain⟨v0,v1,v2,rfl⟩:∃ v0 v1 v2,vs=#[v0,v1,v2]:=⟨vs[0],vs[1],vs[2],by
  apply Array.ext;·simpa using M
  ·intro i h1 h2
   match i with
   | 0=>rfl
   | 1=>rfl
   | 2=>rfl
   | i+3=>simp at h2;omega⟩
 have r0:=hcd 0 v0 _ rfl rfl;have r1:=hcd 1 v1 _ rfl rfl;have r2:=hcd 2 v2 _ rfl rfl
 cases r0 with
 | ptr _ _ _ I _ Z e0=>
 cases r1 with
 | ptr _ _ _ b1 _ ad e1=>
 cases r2 with
 | ptr _ _ _ J _ ai e2=>
 subst e0;subst e1;subst e2;have U:(execOp (Act.eval ⟨tmps,C.ds⟩) o).run P w=.ok (.defer (pD fid I b1 J)) w:=by unfold execOp;rw[ho];simp only[resolve,hv,Deferred.ofValue,Sem.run_bind,Sem.run_pure,Result.andThen_ok,List.map_toArray,List.map_nil,Array.append_empty]
 unfold Oper.wp;rw[U,Oper.upon_defer];rw[N];exact h I b1 J tmps w G hs Z ad ai
theorem ao.uj {G:Gh} {tmps:Array Value} {w:World} {bs:List Nat} {ds:List Deferred} (hs:ao C n st G tmps w) (h:∀ (i b:Nat),bs[i]? = some b→G.box i=some b):ao { C with bx:=bs,ds:=ds } n st G tmps w:=
 { size:=hs.size,frame:=hs.frame,box:=hs.box,gbox:=hs.gbox,inj:=hs.inj,live:=hs.live,gown:=hs.gown,row:=hs.row,mrow:=hs.mrow,sub:=hs.sub,gcell:=hs.gcell,xold:=hs.xold,kold:=hs.kold,lent:=h,
   fr:=⟨hs.fr.os,hs.fr.tape,hs.fr.output,hs.fr.size,hs.fr.block,hs.fr.cells,hs.fr.ty⟩ }
theorem GC.uj [cc P] (h:GC P C) {bs:List Nat} {ds:List Deferred}:GC P { C with bx:=bs,ds:=ds }:=⟨h.h⟩
theorem sC {c:Code} {Q:Exit→St→Prop} {tmps:Array Value} {w:World} (hs:ez C n st tmps w) (hW:W P C n c Q st) (hB:∀ e a w',lift C n Q e a w'→B e a w'):c.wp P B ⟨tmps,C.ds⟩ w:=wp_mono (hW tmps w hs) hB
/-! ### a callee panics: the other boxes stay -/
def x8:A→A
 | .ptr g o=>.ptr g o
 | _=>.any
def vE (f:List (Nat×A)):List (Nat×A):=f.map fun p=>(p.1,x8 p.2)
theorem zH (f:List (Nat×A)) (t:Nat):look (vE f) t=(look f t).map x8:=by
 induction f with
 | nil=>rfl
 | cons p r I=>obtain⟨s,a⟩:=p;unfold vE at I ⊢;rw[List.map_cons,aN,aN,I];split <;> rfl
theorem Bg {E E':En} {v:Value} {a:A} (I:E'.gen=E.gen) (hb:E'.box=E.box) (h:aC E v a):aC E' v (x8 a):=by
 unfold x8;split;·cases h with
  | ptr _ g off b h1 h2 h3=>exact .ptr _ _ _ b (I▸h1) (by rw[hb];exact h2) h3
 ·exact .any _
def k9 (gs:List Nat):List (Nat×List A)→List (Nat×List A)
 | []=>[]
 | (g,c)::r=>bif gs.any (Nat.beq g) then k9 gs r else (g,c.map nl)::k9 gs r
theorem nw {gs:List Nat}:∀ {bx:List (Nat×List A)} {g:Nat} {c:List A},ae (k9 gs bx) g=some c→gs.any (Nat.beq g)=false∧∃ c0,ae bx g=some c0∧c=c0.map nl
 | [],g,c,h=>by simp[k9,ae] at h
 | (g0,c0)::r,g,c,h=>by
   unfold k9 at h
   cases hb:gs.any (Nat.beq g0) with
   | false=>
     rw[hb] at h;simp only[cond_false,ae] at h ⊢
     cases he:Nat.beq g0 g with
     | true=>rw[he] at h;simp only[cond_true,Option.some.injEq] at h ⊢;have e:g0=g:=Nat.eq_of_beq_eq_true he;subst e;exact⟨hb,c0,rfl,h.symm⟩
     | false=>rw[he] at h;simp only[cond_false] at h ⊢;exact nw h
   | true=>
     rw[hb] at h;simp only[cond_true] at h;obtain⟨h1,h2⟩:=nw h;refine⟨h1,?_⟩;have e:Nat.beq g0 g=false:=by
      cases q:Nat.beq g0 g with
      | false=>rfl
      | true=>have e:g0=g:=Nat.eq_of_beq_eq_true q;subst e;rw[hb] at h1;cases h1
     simp only[ae,e,cond_false];exact h2
theorem ao.Fs {G:Gh} {tmps:Array Value} {w w':World} (h:ao C n st G tmps w) {gs os:List Nat} (h1:Fr (dH C G w gs os) w'):ao C n ⟨vE st.f,k9 gs st.bx,[],st.gen⟩ ⟨G.box,fun _=>none⟩ tmps w':=
 { size:=h.size
   frame:=fun t a M=>by rw[zH] at M;obtain⟨a',O,rfl⟩:=Option.map_eq_some_iff.1 M;obtain⟨v,hv,I⟩:=h.frame t a' O;exact⟨v,hv,Bg (E:=au C G st.gen w) rfl rfl I⟩
   box:=fun g cells hc=>by
    obtain⟨J,c0,h0,rfl⟩:=nw hc;obtain⟨b,cs,T,q1,q2,q3,q4,q5⟩:=h.box g c0 h0;have U:b < w.heap.size:=(h.gbox g b q1).2.1;have hn:¬ (ec G gs b∨∃ lim,dv G os b lim):=by
     rintro(⟨X,N,Z⟩ | ⟨lim,X,N,r,I,hra⟩)
     ·have e:=h.inj _ _ _ Z q1
      subst e;have:=List.any_eq_false.1 J X N;simp at this
     ·exact(h.rowAt I hra).2.1 g q1
    refine⟨b,cs,T,q1,(h1.block b U hn).trans q2,by simpa using q3,q4,fun i u a hu M=>?_⟩;rw[List.getElem?_map] at M;obtain⟨a0,ad,rfl⟩:=Option.map_eq_some_iff.1 M;exact qe (q5 i u a0 hu ad)
   gbox:=fun g b J=>⟨(h.gbox g b J).1,Nat.lt_of_lt_of_le (h.gbox g b J).2.1 h1.size,(h.gbox g b J).2.2⟩
   inj:=h.inj,live:=fun g J=>by simp at J,gown:=fun g r I=>by simp at I,row:=fun g b len cap sz ai I=>by simp at I,mrow:=fun g b bs I=>by simp at I,sub:=fun g b bs c lim I=>by simp at I,gcell:=fun g b hb=>ka h1.ty (h.gcell g b hb),xold:=h.xold,kold:=h.kold,lent:=h.lent,fr:=h.zF h1 }
end
section
variable {P:Program} {C:Ctx} {n:Nat} {ops:Array Oper} {Q:Exit→St→Prop} {rest:List Oper} {st:St} {o:Oper}
theorem WO.oM [cc P] [GC P C] (U:o.guard=none) {x:Operand} {xs:Array Operand} {O:Array TypeId} (ho:o.op=.call ⟨.value x,xs,O⟩) {fid:FuncId} {caps I:List A} (hx:av st.f x=some (.clo fid caps))
 (a6:iV st.f xs.toList=some I) (gs os:List Nat) (a7:nodupB gs=true) (a8:nodupB os=true) (b2:(os.all fun g=>st.lv.any fun h=>Nat.beq h g)=true) {args:List A} {b0:List (List A)} {v:Value} {m:Nat}
 (hf:gd P fid args b0 m v) (X:(I++caps).map (dm st.bx gs os 5)=args) (hb:eZ st.bx gs os gs=some b0) (hm:os.length=m)
 (h:Q (eI v) ⟨vE st.f,k9 gs st.bx,[],st.gen⟩):WO P C n ops Q (o::rest) st:=by
 subst hm;subst X;intro tmps w ⟨G,hs⟩;simp only[dS,Region.wanted,U,if_true];obtain⟨fn,b3,M,N⟩:=hf.ok;have Z:=hs.av hx;rw[←Act.gw tmps C.ds []] at Z;generalize hv:Act.eval ⟨tmps,C.ds⟩ x=v' at Z
 cases Z with
 | clo _ vs _ ch hcd=>
 obtain⟨h1,h2⟩:=gV hs xs.toList I a6;rw[←Act.gw tmps C.ds []] at h2;have ad:(execOp (Act.eval ⟨tmps,C.ds⟩) o).run P w=.ok (.enter fid (xs.map (Act.eval ⟨tmps,C.ds⟩)++vs)) w:=by unfold execOp;rw[ho];show Sem.run P (do let d ←resolve (Act.eval ⟨tmps,C.ds⟩) ⟨.value x,xs,O⟩ o.type;invoke d.target d.args) w=_;simp only[resolve,hv,Deferred.ofValue,Sem.run_bind,Sem.run_pure,Result.andThen_ok,invoke,callFunc,run_program,b3,M,N,Bool.false_eq_true,if_false,Array.empty_append]
 obtain⟨hlen,ai⟩:=hs.kT (gs:=gs) (os:=os) (dL a7) (dL a8) (fun g U=>by obtain⟨y,J,he⟩:=List.any_eq_true.1 (List.all_eq_true.1 b2 g U);exact Nat.eq_of_beq_eq_true he▸J) hb;have cy:=(fU hb).1;unfold Oper.wp;rw[ad];refine(hf.calls (dH C G w gs os) (fz G gs os) _ w (GC.rv hs) rfl hlen rfl (qn rfl) ai (by simp at h1;simp[ch,h1]) (fun i u a hu ha=>?_)).mono fun e w' ⟨he,h3⟩=>?_
 ·simp only[List.getElem?_map,Option.map_eq_some_iff] at ha
  obtain⟨y,J,rfl⟩:=ha;refine aC.kT hs gs os (by omega) 5 u y ?_;simp only[Array.getElem?_append] at hu;split at hu
  ·rename_i cj
   simp only[Array.size_map] at cj;have aj:i < I.length:=by simp at h1;omega
   rw[List.getElem?_append_left aj] at J;obtain⟨z,hz,cl⟩:=h2 i y J;simp only[Array.getElem?_map,Option.map_eq_some_iff] at hu;obtain⟨z',cq,rfl⟩:=hu;have:z=z':=by simp at hz;rw[cq] at hz;exact(Option.some.inj hz).symm
   subst this;exact cl
  ·rename_i cx
   simp only[Array.size_map] at cx hu;have a1:I.length≤i:=by simp at h1;omega
   rw[List.getElem?_append_right a1] at J;refine hcd (i - xs.size) u y hu ?_;have:xs.size=I.length:=by simpa using h1
   rw[this];exact J
 ·subst he
  exact⟨rfl,_,⟨_,hs.Fs h3⟩,h⟩
end
section
variable {P:Program} {C:Ctx} {n:Nat} {ops:Array Oper} {Q:Exit→St→Prop} {rest:List Oper}
variable {f:List (Nat×A)} {bx:List (Nat×List A)} {lv:List Nat} {gen:Nat} {op:Op} {ty:TypeId} {pos:String} {af:Array Edge} {dst:Option Nat}
theorem oM [cc P] [GC P C] {x:Operand} {xs:Array Operand} {M:Array TypeId} {fid:FuncId} {caps I args:List A} {N:List (List A)} {v:Value} {m:Nat} (gs os:List Nat) (hx:av f x=some (.clo fid caps)) (O:iV f xs.toList=some I)
 (J:(I++caps).map (dm bx gs os 5)=args) (hb:eZ bx gs os gs=some N) (hm:os.length=m) (hf:gd P fid args N m v)
 (U:nodupB gs=true) (X:nodupB os=true) (Z:(os.all fun g=>lv.any fun h=>Nat.beq h g)=true) (h:Q (eI v) ⟨vE f,k9 gs bx,[],gen⟩) :
 WO P C n ops Q (⟨dst,.call ⟨.value x,xs,M⟩,ty,pos,af,none⟩::rest) ⟨f,bx,lv,gen⟩:=
 WO.oM (st:=⟨f,bx,lv,gen⟩) rfl rfl hx O gs os U X Z hf J hb hm h
theorem DK {t t':Nat} {x:Operand} (M:av f x=some (.d (.v .nilIface))) (hB:jT P t=true) :
 Pu P C n ⟨f,bx,lv,gen⟩ ⟨dst,.binOp .neq t x (.const .nilIface) t',ty,pos,af,none⟩ (.d (.v (.bool false))):=by
 obtain⟨ms,hu⟩:=jX hB;refine dG.pu fun G tmps w hs=>?_;have I:=hs.av M;generalize J:Act.eval ⟨tmps,[]⟩ x=vx at I;cases I with | d I=>cases I with | v _ _=>
 refine⟨.bool false,?_,.d (.v _ rfl)⟩;unfold execOp;show Sem.run P _ w=_;have he:(Act.eval ⟨tmps,[]⟩ (Operand.const Value.nilIface))=Value.nilIface:=rfl;simp only[J,he,eqGuard,binOp];simp[tP w hu];rfl
theorem FA {t t' u:Nat} {v:Value} {x:Operand} (M:av f x=some (.d (.v (.iface u v)))) (hB:jT P t=true) :
 Pu P C n ⟨f,bx,lv,gen⟩ ⟨dst,.binOp .neq t x (.const .nilIface) t',ty,pos,af,none⟩ (.d (.v (.bool true))):=by
 obtain⟨ms,hu⟩:=jX hB;refine dG.pu fun G tmps w hs=>?_;have I:=hs.av M;generalize J:Act.eval ⟨tmps,[]⟩ x=vx at I;cases I with | d I=>cases I with | v _ _=>
 refine⟨.bool true,?_,.d (.v _ rfl)⟩;unfold execOp;show Sem.run P _ w=_;have he:(Act.eval ⟨tmps,[]⟩ (Operand.const Value.nilIface))=Value.nilIface:=rfl;simp only[J,he,eqGuard,binOp];simp[vR w hu];rfl
theorem zD (T:bA P) {x:Operand} {t i:Nat} {M:bH} {l:List Value} (U:ae T.l t=some M) (X:M.k.agg=true) (N:∀ v∈l,cm v=true) (I:av f x=some (.d (.v (.iface t (.agg l.toArray))))):Pu P C n ⟨f,bx,lv,gen⟩ ⟨dst,.typeAssert x i t true,ty,pos,af,none⟩ (.tup [.ag (l.map D.v),.d (.v (.bool true))]):=by
 refine dG.pu fun G tmps w hs=>?_;have J:=hs.av I;generalize Z:Act.eval ⟨tmps,[]⟩ x=v at J
 cases J with
 | d J=>
 have hok:cm (.iface t (.agg l.toArray))=true:=by cases J with | v _ h=>exact h
 have J:=vI J;subst J;obtain⟨u,hu,ad⟩:∃ u,P.underlying t=some u∧(match u with | .interface _=>false | _=>true)=true:=by
  have:=T.isAgg U w;unfold isAgg at this
  cases hu:P.underlying t with
  | none=>simp[underlying,hu] at this
  | some u=>refine⟨u,rfl,?_⟩;cases u <;> first | rfl | (simp[underlying,hu,X] at this)
 refine⟨.tuple #[.agg l.toArray,.bool true],?_,?_⟩
 ·unfold execOp
  simp only[Z,Instr.typeAssert,Sem.run_bind,run_underlying hu,Result.andThen_ok,Sem.run_pure];cases u <;> simp_all
 ·refine .tup _ _ rfl fun k u x hu I=>?_
  match k with
  | 0=>
    simp at hu I;subst hu;subst I;refine .ag _ _ (by simp) fun k u x hu I=>?_;simp only[List.getElem?_map,Option.map_eq_some_iff] at I;obtain⟨y,O,rfl⟩:=I;have hu:l[k]? = some u:=by simpa using hu
    rw[hu] at O;cases O;exact .v _ (N u (List.mem_of_getElem? hu))
  | 1=>simp at hu I;subst hu;subst I;exact .d (.v _ rfl)
  | k+2=>simp at hu
end
/-! ### the end of a function whose results are cells -/
theorem BS {P:Program} (T:bA P) {C:Ctx} {n:Nat} {st:St} {G:Gh} {tmps:Array Value} {w:World} {fn:Func} {rs:List RV} {r:A} {l:List A} (hs:ao C n st G tmps w) (J:C.bx=[]) (I:fn.results=(rs.map RV.var).toArray) (hl:iT T st.f st.bx rs=some l) (M:norm [] (aT l)=r) :
 ∃ v,(results fn tmps).run P w=.ok v w∧∃ v1 N,Ending.returned v=.returned v1∧ao C 0 ⟨[],[],List.range 0,0⟩ N #[] w∧aC (au C N 0 w) v1 r:=by
 obtain⟨vs,O,U,X⟩:=jn T hs rs l hl;refine⟨_,fH I O,_,⟨fun _=>none,fun _=>none⟩,rfl,?_,?_⟩
 ·exact { size:=rfl,frame:=fun t a ha=>by simp[look] at ha,box:=fun g cells hc=>by simp[ae] at hc,gbox:=fun g b hb=>by simp at hb,inj:=fun g g' b hb=>by simp at hb,
          live:=fun g Z=>by simp at Z,gown:=fun g r I=>by simp at I,row:=fun g b len cap sz ad I=>by simp at I,mrow:=fun g b bs I=>by simp at I,sub:=fun g b bs c lim I=>by simp at I,gcell:=fun g b hb=>by simp at hb,xold:=hs.xold,kold:=hs.kold,lent:=fun i b hb=>by rw[J] at hb;simp at hb,fr:=hs.fr }
 ·rw[←M]
  refine aC.norm (order:=[]) (E:=au C G st.gen w) (E2:=au C ⟨fun _=>none,fun _=>none⟩ 0 w) (fun b o u hu hn=>⟨hu,fun hp=>hn ?_⟩) (fun g r' Z ai=>?_) (by simp[au]) (kD U X)
  ·rcases(hp:aS C ⟨fun _=>none,fun _=>none⟩ b o) with hp | ⟨g,hp⟩ | ⟨g,len,cap,sz,ad,hp,hle⟩ | ⟨g,b',bs,lim,hp,_⟩
   ·exact Or.inl hp
   ·cases hp
   ·cases hp
   ·cases hp
  ·cases ai
theorem nK.BJ {P:Program} {C:Ctx} {n:Nat} {ops:Array Oper} {B:Exit→Act→World→Prop} {y:Code} {f:List (Nat×A)} {bx:List (Nat×List A)} {lv:List Nat} {gen:Nat} {ty:TypeId} {pos:String} {af:Array Edge} {x:Operand} {M:Array TypeId} {fid:FuncId} (N:av f x=some (.clo fid [.ptr 0 0,.ptr 1 0,.ptr 2 0]))
 (h:∀ I b1 J tmps w G,ao C n ⟨f,bx,lv,gen⟩ G tmps w→G.box 0=some I→G.box 1=some b1→G.box 2=some J→y.wp P B ⟨tmps,pD fid I b1 J::C.ds⟩ w):nK P C n ops (Exit.then (y.wp P B) B) [⟨none,.defer ⟨.value x,#[],M⟩,ty,pos,af,none⟩] ⟨f,bx,lv,gen⟩:=
 nK.defer (st:=⟨f,bx,lv,gen⟩) rfl rfl rfl N fun I b1 J tmps w G hs O U X=>h I b1 J tmps w G hs O U X
theorem rB {P:Program} (T:bA P) {C:Ctx} {n:Nat} {M:St} {G2 O:Gh} {I:Array Value} {w2 N:World} {ai aj:List Deferred} {b0 b1 b2:Nat} {fn:Func} {rs:List RV} {r:A} {l:List A} {U s1 s2 gen':Nat} {bx':List (Nat×List A)} (ad:C.bx=[])
 (X:ao { C with bx:=[b0,b1,b2],ds:=ai } n M G2 I w2) (k0:look M.f U=some (.ptr 0 0)) (k1:look M.f s1=some (.ptr 1 0)) (k2:look M.f s2=some (.ptr 2 0))
 (Z:ao { C with bx:=[b0,b1,b2],ds:=aj } 0 ⟨[],bx',[],gen'⟩ O #[] N) (hr:fn.results=(rs.map RV.var).toArray) (hl:iT T [(U,.ptr 0 0),(s1,.ptr 1 0),(s2,.ptr 2 0)] bx' rs=some l) (a1:norm [] (aT l)=r) :
 ∃ v,(results fn I).run P N=.ok v N∧∃ v1 O,Ending.returned v=.returned v1∧ao C 0 ⟨[],[],List.range 0,0⟩ O #[] N∧aC (au C O 0 N) v1 r:=by
 have key:∀ (i b s:Nat),[b0,b1,b2][i]? = some b→look M.f s=some (.ptr i 0)→∃ v,I[s]? = some v∧aC (au C O gen' N) v (.ptr i 0):=by
  intro i b s hb hk;obtain⟨v,hv,hr⟩:=X.frame s _ hk;refine⟨v,hv,?_⟩
  cases hr with
  | ptr _ _ _ b' _ h1 h2=>
    have e:b'=b:=by have h3:=X.lent i b hb;have h1:G2.box i=some b':=h1;rw[h3] at h1;exact(Option.some.inj h1).symm
    subst e;have h4:=Z.lent i b' hb;exact .ptr _ _ _ b' (Z.gbox i b' h4).1 h4 h2
 have a6:ao C n ⟨[(U,.ptr 0 0),(s1,.ptr 1 0),(s2,.ptr 2 0)],bx',[],gen'⟩ O I N:=by
  have h5:=Z.uj (bs:=C.bx) (ds:=C.ds) (fun i b hb=>by rw[ad] at hb;simp at hb);exact { h5 with
   size:=X.size
   frame:=fun t a J=>by
    have J:look [(U,A.ptr 0 0),(s1,A.ptr 1 0),(s2,A.ptr 2 0)] t=some a:=J;rw[aN,aN,aN] at J;split at J
    ·rename_i e
     cases J;exact e▸key 0 b0 U rfl k0
    ·split at J
     ·rename_i e
      cases J;exact e▸key 1 b1 s1 rfl k1
     ·split at J
      ·rename_i e
       cases J;exact e▸key 2 b2 s2 rfl k2
      ·simp[look] at J }
 exact BS T a6 ad hr hl a1
theorem az.Fq {P:Program} [cc P] {f:FuncId} {fn:Func} {c:Code} {n:Nat} {args:List A} {r:A} (O:P.funcs[f]? = some fn) (M:(fn.name == "runtime.NumGoroutine")=false) (hb:fn.body=some c) (X:fn.ntmps=n)
 (hlen:Nat.ble args.length n=true) (h:∀ C,NB C 0→GC P C→C.bx=[]→C.ds=[] →
  W' P C n c (bodyPostD P fn fun e w'=>∃ v U,e=.returned v∧ao C 0 ⟨[],[],List.range 0,0⟩ U #[] w'∧aC (au C U 0 w') v r) ⟨fX 0 args,[],[],0⟩):az P f args r 0:=by
 have hlen:=Nat.le_of_ble_eq_true hlen;refine⟨⟨fn,O,M,by rw[hb];rfl⟩,fun C I w Z hw hp hx ad N=>?_⟩;subst hw;refine calls_of_wp_defers O hb (pk hp.2.2.2 (h C ⟨by rw[hp.2.2.1];rfl⟩ Z hp.2.2.1 hp.2.2.2 (I++Array.replicate (fn.ntmps - I.size) undef) C.w0 ⟨G0,?_⟩))
 refine { size:=by simp[X];omega,frame:=fun t a ha=>?_,box:=fun g cells hc=>by simp[ae] at hc,gbox:=fun g b hb=>by simp[G0] at hb,inj:=fun g g' b hb=>by simp[G0] at hb,
          live:=fun g hg=>by simp at hg,gown:=fun g r J=>by simp[G0] at J,row:=fun g b len cap sz ai J=>by simp[G0] at J,mrow:=fun g b bs J=>by simp[G0] at J,sub:=fun g b bs c lim J=>by simp[G0] at J,gcell:=fun g b hb=>by simp[G0] at hb,xold:=fun b o hb=>⟨hx b o hb,hp.1 b⟩,kold:=fun b o hb=>absurd hb (hp.2.1 b o),lent:=fun i b hb=>by rw[hp.2.2.1] at hb;simp at hb,
          fr:=⟨rfl,rfl,rfl,Nat.le_refl _,fun _ _ _=>rfl,fun _ _ _ hb=>absurd hb (hp.2.1 _ _),dc.refl _⟩ }
 obtain⟨_,h1⟩:=fA args 0 t a ha;have h2:t < args.length:=(List.getElem?_eq_some_iff.1 (by simpa using h1)).1;have h3:t < I.size:=by omega
 have h4:I[t]? = some I[t]:=by simp[h3]
 exact⟨I[t],by rw[Array.getElem?_append_left h3];exact h4,N t _ a h4 (by simpa using h1)⟩
/-! ### a deferred closure that asks for the panic's value -/
section
variable {P:Program} {ops:Array Oper} {Q:Exit→Act→List Frame→World→Prop} {rest:List Nat} {i:Nat} {a:Act} {cs:List Frame} {w:World} {o:Oper}
theorem oN {I:Array Value} {ds:List Deferred} {d:Nat} (N:ops[i]? = some o) (O:o.guard=none) (M:o.op=.call ⟨.builtin .recover,#[],#[]⟩) (hd:o.dst=some d)
 (h:match recoverD cs with | some (v,cs')=>wpOpsS P ops Q rest ⟨I.setIfInBounds d v,ds⟩ cs' w | none=>wpOpsS P ops Q rest ⟨I.setIfInBounds d .nilIface,ds⟩ cs w):wpOpsS P ops Q (i::rest) ⟨I,ds⟩ cs w:=by
 simp only[wpOpsS,N,Region.wanted,O,if_true];have J:(execOp (Act.eval ⟨I,ds⟩) o).run P w=.ok .recover w:=by unfold execOp;rw[M];simp[resolve,invoke,builtin,Sem.run_bind,Sem.run_pure]
 rw[J,hd];exact h
theorem tH {I:Array Value} {ds:List Deferred} {d d0:Nat} {v:Value} (N:ops[i]? = some o) (O:o.guard=none) (M:o.op=.assign (.tmp d0)) (hd:o.dst=some d) (U:I[d0]? = some v) (h:wpOpsS P ops Q rest ⟨I.setIfInBounds d v,ds⟩ cs w):wpOpsS P ops Q (i::rest) ⟨I,ds⟩ cs w:=by
 simp only[wpOpsS,N,Region.wanted,O,if_true];have he:Act.eval ⟨I,ds⟩ (.tmp d0)=v:=by show I.getD d0 undef=v;rw[Array.getD_eq_getD_getElem?,U];rfl
 have J:(execOp (Act.eval ⟨I,ds⟩) o).run P w=.ok (.value v) w:=by unfold execOp;rw[M,←he];rfl
 rw[J];show Oper.upon P o ⟨I,ds⟩ (fun a' w'=>wpOpsS P ops Q rest a' cs w') (fun e a' w'=>Q e a' cs w') (.ok (.value v) w);rw[Oper.upon_value,hd];exact h
theorem vG (h:Q .normal a cs w):wpOpsS P ops Q [] a cs w:=h
end
end Go.Ab
namespace Go.Ab
open Go.RowKit
def uf:Obj→Bool
 | .cells ..=>true
 | .map ..=>true
 | _=>false
theorem yF {w:World} {b o:Nat} {u:Value} (h:cellAt w b o=some u):∃ cs T f,w.heap[b]? = some (.cells cs T f)∧cs[o]? = some u:=by
 unfold cellAt World.cell? at h
 cases hb:w.heap[b]? with
 | none=>simp[hb] at h
 | some x=>cases x <;> simp_all
section
variable {C:Ctx} {n:Nat} {st:St} {G:Gh} {tmps:Array Value} {w:World}
theorem ao.agree (h:ao C n st G tmps w) {w':World} (e1:w'.os=w.os) (e2:w'.tape=w.tape) (e3:w'.output=w.output) (U:w.heap.size≤w'.heap.size)
 (J:∀ (b:Nat) (o:Obj),w.heap[b]? = some o→uf o=true→w'.heap[b]? = some o) (hold:∀ b,b < C.w0.heap.size→¬ C.fp b→w'.heap[b]? = w.heap[b]?):ao C n st G tmps w':=by
 have M:∀ {b o:Nat} {u:Value},Ab.cellAt w b o=some u→Ab.cellAt w' b o=some u:=fun {b o u} hu=>by obtain⟨cs,T,f,h1,h2⟩:=yF hu;rw[bC (J b _ h1 rfl)];exact h2
 have N:dc w w':=fun b cs T f h=>⟨cs,f,J b _ h rfl⟩;have X:Fr C w':=⟨e1.trans h.fr.os,e2.trans h.fr.tape,e3.trans h.fr.output,Nat.le_trans h.fr.size U,fun b h1 h2=>(hold b h1 h2).trans (h.fr.block b h1 h2),fun b o u Z hu=>M (h.fr.cells b o u Z hu),h.fr.ty.trans N⟩;have hle:(au C G st.gen w).le (au C G st.gen w'):=ju h.fr X (fun b o u hu hn=>⟨M hu,hn⟩) (fun _ _ h=>h) (fun _ _ _ h=>h) (Nat.le_refl _) (fun g b len cap sz O _ I=>by
  obtain⟨_,_,_,cur,T,h3,_⟩:=h.row g b len cap sz O I;rw[h3];exact J b _ h3 rfl) (fun g b bs _ I=>⟨by
   obtain⟨_,_,_,me,clock,h3⟩:=h.mrow g b bs I;rw[h3];exact J b _ h3 rfl,fun p hp=>by
   obtain⟨_,_,_,_,cur,T,h3,_⟩:=h.sub g b bs p.1 p.2 I hp;rw[h3];exact J p.1 _ h3 rfl⟩) N
 refine { size:=h.size,frame:=h.du hle,inj:=h.inj,live:=h.live,gown:=h.gown,xold:=h.xold,kold:=h.kold,lent:=h.lent,fr:=X,gcell:=fun g b hb=>ka N (h.gcell g b hb),box:=?_,gbox:=?_,row:=?_,mrow:=?_,sub:=?_ }
 ·intro g cells hc
  obtain⟨b,cs,T,h1,h2,h3,h4,h5⟩:=h.box g cells hc;exact⟨b,cs,T,h1,J b _ h2 rfl,h3,h4,fun i u a hu ha=>(h5 i u a hu ha).mono hle⟩
 ·intro g b hb
  obtain⟨h1,h2,h3⟩:=h.gbox g b hb;exact⟨h1,Nat.lt_of_lt_of_le h2 U,h3⟩
 ·intro g b len cap sz O I
  obtain⟨h1,h2,h3,cur,T,h4,h5⟩:=h.row g b len cap sz O I;exact⟨h1,h2,h3,cur,T,J b _ h4 rfl,h5⟩
 ·intro g b bs I
  obtain⟨h1,h2,h3,me,clock,h4⟩:=h.mrow g b bs I;exact⟨h1,h2,h3,me,clock,J b _ h4 rfl⟩
 ·intro g b bs c lim I hm
  obtain⟨h1,h2,h3,h4,cur,T,h5,h6⟩:=h.sub g b bs c lim I hm;exact⟨h1,h2,h3,h4,cur,T,J c _ h5 rfl,h6⟩
/-! ### the walk begun anew in the world that is -/
def rX (G:Gh) (b:Nat):Prop:=(∃ g,G.box g=some b)∨∃ g r lim,G.own g=some r∧r.nq b lim
def pO (C:Ctx) (G:Gh) (w:World) (ds:List Deferred):Ctx:={ w0:=w,fp:=rX G,x:=C.x,keep:=C.keep,bx:=[],ds:=ds }
theorem ao.gE (h:ao C n st G tmps w) {b:Nat} (J:rX G b):C.w0.heap.size≤b∨C.fp b:=by
 rcases J with ⟨g,I⟩ | ⟨g,r,lim,I,M⟩
 ·exact(h.gbox g b I).2.2.1
 ·exact(h.rowAt I M).1.1
theorem ao.EK (h:ao C n st G tmps w) (ds:List Deferred):ao (pO C G w ds) n st G tmps w:=by
 have O:Fr (pO C G w ds) w:=⟨rfl,rfl,rfl,Nat.le_refl _,fun _ _ _=>rfl,fun _ _ _ _ h=>h,.refl w⟩;have hle:(au C G st.gen w).le (au (pO C G w ds) G st.gen w):=⟨fun b o u hu X=>⟨hu,X⟩,fun b o u hu U=>⟨hu,cE hu,fun J=>(h.gE J).elim (fun h1=>by have:=U.1;omega) U.2⟩,fun _ _ h=>h,fun _ _ _ h=>h,Nat.le_refl _,fun _ _ _ _ _ _ _ _=>rfl,fun _ _ _ _ _=>⟨rfl,fun _ _=>rfl⟩,dc.refl _⟩;refine { size:=h.size,frame:=fun t a N=>?_,inj:=h.inj,live:=h.live,gown:=h.gown,xold:=?_,kold:=?_,lent:=fun i b hb=>(by simp[pO] at hb),fr:=O,gcell:=h.gcell,box:=?_,gbox:=?_,row:=?_,mrow:=?_,sub:=?_ }
 ·obtain⟨v,h1,h2⟩:=h.frame t a N
  exact⟨v,h1,h2.mono hle⟩
 ·intro g cells J
  obtain⟨b,cs,T,h1,h2,h3,h4,h5⟩:=h.box g cells J;exact⟨b,cs,T,h1,h2,h3,h4,fun i u a hu N=>(h5 i u a hu N).mono hle⟩
 ·intro g b hb
  obtain⟨h1,h2,h3⟩:=h.gbox g b hb;exact⟨h1,h2,.inr (.inl ⟨g,hb⟩),h3.2⟩
 ·intro g b len cap sz M I
  obtain⟨h1,h2⟩:=h.row g b len cap sz M I;exact⟨⟨.inr (.inr ⟨g,_,M,I,rfl,rfl⟩),h1.2⟩,h2⟩
 ·intro g b bs I
  obtain⟨h1,h2⟩:=h.mrow g b bs I;exact⟨⟨.inr (.inr ⟨g,_,0,I,Or.inl ⟨rfl,rfl⟩⟩),h1.2⟩,h2⟩
 ·intro g b bs c lim I hm
  obtain⟨h1,h2⟩:=h.sub g b bs c lim I hm;exact⟨⟨.inr (.inr ⟨g,_,lim,I,Or.inr hm⟩),h1.2⟩,h2⟩
 ·intro b o Z
  obtain⟨h1,h2⟩:=h.xold b o Z;exact⟨Nat.lt_of_lt_of_le h1 h.fr.size,fun J=>(h.gE J).elim (fun h3=>by omega) h2⟩
 ·intro b o hk
  exact Nat.lt_of_lt_of_le (h.kold b o hk) h.fr.size
theorem ao.AD {P:Program} [cc P] [hC:GC P C] (h:ao C n st G tmps w) (ds:List Deferred):GC P (pO C G w ds):=by
 obtain⟨W,h1,h2,h3⟩:=hC.h;refine⟨W,h1,Nat.le_trans h2 h.fr.size,fun b hb=>⟨(h.fr.block b (Nat.lt_of_lt_of_le hb h2) (h3 b hb).2).trans (h3 b hb).1,fun I=>?_⟩⟩;rcases h.gE I with h4 | h4
 ·omega
 ·exact(h3 b hb).2 h4
mutual
def jB:A→Bool
 | .row _=>false
 | .agg l=>jV l
 | .tup l=>jV l
 | .clo _ l=>jV l
 | .bnd _ l=>jV l
 | _=>true
def jV:List A→Bool
 | []=>true
 | a::l=>jB a && jV l
end
theorem gO:∀ {l:List A},jV l=true→∀ a∈l,jB a=true
 | [],_,_,h=>by cases h
 | b::l,h,a,I=>by
   simp only[jV,Bool.and_eq_true] at h
   cases I with
   | head=>exact h.1
   | tail _ I=>exact gO h.2 a I
def kR (st:St):Bool:=st.f.all (fun x=>jB x.2) && st.bx.all (fun x=>jV x.2)
theorem aC.El {E E':En} (hw:E.w=E'.w) (hp:E.pv=E'.pv) (X:E.box=E'.box) (O:E.own=E'.own) (Z:E.gen=E'.gen) {v:Value} {a:A} (h:aC E v a) (N:jB a=true):aC E' v a:=by
 obtain⟨w',b3,ad,a8,b0,gen'⟩:=E';obtain⟨w0,a1,b2,ai,aj,gen0⟩:=E;simp only at hw hp X O Z;subst hw;subst hp;subst X;subst O;subst Z
 induction h with
 | any x=>exact .any x
 | d hd=>exact .d hd
 | ag vs l hs hd=>exact .ag vs l hs hd
 | own x g es hd J hr=>exact .own x g es hd J hr
 | agg vs l hs hone _ M=>exact .agg vs l hs hone (fun i u x hu I=>M i u x hu I (gO (by simpa [jB] using N) x (List.mem_of_getElem? I)))
 | tup vs l hs _ M=>exact .tup vs l hs (fun i u x hu I=>M i u x hu I (gO (by simpa [jB] using N) x (List.mem_of_getElem? I)))
 | rowd b off l u U hd=>exact .rowd b off l u U hd
 | row b off l u U _ _=>simp[jB] at N
 | ptr x g off b J hb hp=>exact .ptr x g off b J hb hp
 | xs x g es J h1 I=>exact .xs x g es J h1 I
 | xp x g i off l J h1 I=>exact .xp x g i off l J h1 I
 | mp x g es J h1 I=>exact .mp x g es J h1 I
 | mq x g es J h1 I=>exact .mq x g es J h1 I
 | mo x g es hole ob J h1 I=>exact .mo x g es hole ob J h1 I
 | ni t x=>exact .ni t x
 | fl x es hd U=>exact .fl x es hd U
 | bf x g T s J h1 I=>exact .bf x g T s J h1 I
 | np x g T b J hb hT u I=>exact .np (E:=⟨w0,a1,ad,ai,aj,gen0⟩) x g T b J hb hT u I
 | sb x g n c b J hb hn I=>exact .sb x g n c b J hb hn I
 | fx x u g es ou I J hu O=>exact .fx x u g es ou I J hu O
 | ol x u g' E' g es I a6 a7 J hu=>exact .ol x u g' E' g es I a6 a7 J hu
 | ow x v g es hd J hr=>exact .ow x v g es hd J hr
 | lk x g n c b v J hb hn I=>exact .lk x g n c b v J hb hn I
 | clo f vs l hs _ M=>exact .clo f vs l hs (fun i u x hu I=>M i u x hu I (gO (by simpa [jB] using N) x (List.mem_of_getElem? I)))
 | bnd f vs l hs _ M=>exact .bnd f vs l hs (fun i u x hu I=>M i u x hu I (gO (by simpa [jB] using N) x (List.mem_of_getElem? I)))
theorem tC {f:List (Nat×A)} {t:Nat} {a:A} (h:look f t=some a):(t,a)∈f:=by
 induction f with
 | nil=>simp[look] at h
 | cons x r I=>
   obtain⟨s,b⟩:=x;rw[aN] at h;split at h;·rename_i e;cases h;subst e;exact List.mem_cons_self
   ·exact List.mem_cons_of_mem _ (I h)
theorem ao.DV (h:ao C n st G tmps w) (ad:C.bx=[]) {ds:List Deferred} {st':St} {O:Gh} {N:Array Value} {w':World} (I:ao (pO C G w ds) n st' O N w') (U:kR st'=true):ao C n st' O N w':=by
 simp only[kR,Bool.and_eq_true,List.all_eq_true] at U;have hm:∀ {b lim},(pO C G w ds).gl b lim→C.gl b lim:=fun {b lim} hm=>⟨hm.1.elim (fun h1=>.inl (Nat.le_trans h.fr.size h1)) h.gE,hm.2⟩;have X:∀ {v a},aC (au (pO C G w ds) O st'.gen w') v a→jB a=true→aC (au C O st'.gen w') v a:=fun J M=>aC.El (E:=au (pO C G w ds) O st'.gen w') (E':=au C O st'.gen w') rfl rfl rfl rfl rfl J M;refine { size:=I.size,frame:=fun t a M=>?_,inj:=I.inj,live:=I.live,gown:=I.gown,xold:=h.xold,kold:=h.kold,lent:=fun i b hb=>(by rw[ad] at hb;simp at hb),gcell:=I.gcell,fr:=?_,box:=?_,gbox:=?_,row:=?_,mrow:=?_,sub:=?_ }
 ·obtain⟨v,h1,h2⟩:=I.frame t a M
  exact⟨v,h1,X h2 (U.1 _ (tC M))⟩
 ·intro g cells Z
  obtain⟨b,cs,T,h1,h2,h3,h4,h5⟩:=I.box g cells Z;exact⟨b,cs,T,h1,h2,h3,h4,fun i u a hu M=>X (h5 i u a hu M) (gO (U.2 _ (oD Z)) a (List.mem_of_getElem? M))⟩
 ·intro g b hb
  obtain⟨h1,h2,h3⟩:=I.gbox g b hb;exact⟨h1,h2,hm h3⟩
 ·intro g b len cap sz ai J
  obtain⟨h1,h2⟩:=I.row g b len cap sz ai J;exact⟨hm h1,h2⟩
 ·intro g b bs J
  obtain⟨h1,h2⟩:=I.mrow g b bs J;exact⟨hm h1,h2⟩
 ·intro g b bs c lim J aj
  obtain⟨h1,h2⟩:=I.sub g b bs c lim J aj;exact⟨hm h1,h2⟩
 ·refine⟨I.fr.os.trans h.fr.os,I.fr.tape.trans h.fr.tape,I.fr.output.trans h.fr.output,Nat.le_trans h.fr.size I.fr.size,fun b h1 h2=>?_,fun b o u hk hu=>I.fr.cells b o u hk (h.fr.cells b o u hk hu),h.fr.ty.trans I.fr.ty⟩
  exact(I.fr.block b (Nat.lt_of_lt_of_le h1 h.fr.size) (fun Z=>(h.gE Z).elim (fun h3=>by omega) h2)).trans (h.fr.block b h1 h2)
end
/-! ### walks over which marks may stand on the deferred calls -/
abbrev um (D:Nat):Deferred:=⟨.collected D,#[]⟩
def sj (J:Nat) (ds:List Deferred) (w:World):Prop:=∃ I:List Nat,ds=I.map um∧I.Nodup∧∀ D∈I,J≤D∧w.heap[D]? = some (Obj.deferred (some []))
def B3 (C:Ctx) (n:Nat) (Q:Exit→St→Prop):Exit→Act→World→Prop:=fun e a w=>sj C.w0.heap.size a.defers w∧∃ st,ez C n st a.tmps w∧Q e st
def Wd (P:Program) (C:Ctx) (n:Nat) (c:Code) (Q:Exit→St→Prop) (st:St):Prop:=∀ tmps ds w,ez C n st tmps w→sj C.w0.heap.size ds w→c.wp P (B3 C n Q) ⟨tmps,ds⟩ w
def uZ (P:Program) (C:Ctx) (n:Nat) (y:Code) (Q:Exit→St→Prop):Exit→St→Prop
 | .normal,s=>Wd P C n y Q s
 | e,s=>Q e s
def QN (Q:Exit→St→Prop):Exit→St→Prop:=fun e s=>kR s=true∧Q e s
def Cf {ι:Type} (C:Ctx) (n:Nat) (S:ι→St) (I:ι→Nat) (m:Nat) (Q:Exit→St→Prop):Exit→St→Prop
 | .normal,s=>∃ j,I j < m∧∀ (tmps:Array Value) (w:World),ez C n s tmps w→ez C n (S j) tmps w
 | e,s=>Q e s
section
variable {P:Program} [cc P] {C:Ctx} {n:Nat} {Q:Exit→St→Prop} {st:St}
theorem sj.kept {I:Nat} {ds:List Deferred} {w w':World} (h:sj I ds w) (M:∀ D:Nat,w.heap[D]? = some (Obj.deferred (some []))→w'.heap[D]? = some (Obj.deferred (some []))):sj I ds w':=
 let ⟨Ds,h1,h2,h3⟩:=h;⟨Ds,h1,h2,fun D J=>⟨(h3 D J).1,M D (h3 D J).2⟩⟩
theorem ao.zV {G:Gh} {tmps:Array Value} {w:World} (h:ao C n st G tmps w) {D:Nat} {o:Obj} (J:w.heap[D]? = some o) (M:uf o=false):¬ rX G D:=by
 rintro(⟨g,I⟩ | ⟨g,r,lim,I,N⟩)
 ·obtain⟨cs,T,f,h2⟩:=h.gcell g D I
  rw[J] at h2;cases h2;cases M
 ·cases r with
  | nil=>exact N.elim
  | zero _=>exact N.elim
  | blk b len cap sz O=>obtain⟨rfl,rfl⟩:=N;obtain⟨_,_,_,cur,T,h4,_⟩:=h.row g b len cap sz lim I;rw[J] at h4;cases h4;cases M
  | mp b bs=>
    rcases N with ⟨rfl,rfl⟩ | hm
    ·obtain⟨_,_,_,U,clock,h4⟩:=h.mrow g b bs I
     rw[J] at h4;cases h4;cases M
    ·obtain⟨_,_,_,_,cur,T,h4,_⟩:=h.sub g b bs D lim I hm
     rw[J] at h4;cases h4;cases M
end
end Go.Ab
namespace Go.Ab
open Go.RowKit
section
variable {P:Program} [cc P] {C:Ctx} {n:Nat} {Q:Exit→St→Prop} {st st':St} {c:Code}
theorem Wd.D3 [GC P C] (N:C.bx=[]) (h:∀ J,NB J 0→GC P J→W P J n c (QN Q) st):Wd P C n c Q st:=by intro tmps ds w ⟨G,hs⟩ O;refine wp_mono (h (pO C G w ds) ⟨rfl⟩ (hs.AD ds) tmps w ⟨G,hs.EK ds⟩) ?_;rintro e ⟨t,d⟩ w' ⟨hd,st',⟨X,I⟩,U,Z⟩;have hd:d=ds:=hd;subst hd;refine⟨O.kept fun D M=>?_,st',⟨X,hs.DV N I U⟩,Z⟩;exact(I.fr.block D (Array.getElem?_eq_some_iff.1 M).1 (hs.zV M rfl)).trans M
omit [cc P] in
theorem Wd.seq {x y:Code} (h:Wd P C n x (uZ P C n y Q) st):Wd P C n (.seq x y) Q st:=by
 intro tmps ds w hs M;refine wp_seq (wp_mono (h tmps ds w hs M) ?_);rintro e ⟨t,d⟩ w' ⟨hd,st',I,J⟩;cases e <;> simp only[uZ] at J <;> simp only[Exit.then];·exact J t d w' I hd
 all_goals exact⟨hd,st',I,J⟩
theorem Wd.gx [GC P C] (J:C.bx=[]) {x y:Code} (h:∀ I,NB I 0→GC P I→W P I n x (QN (uZ P C n y Q)) st):Wd P C n (.seq x y) Q st:=Wd.seq (Wd.D3 J h)
omit [cc P] in
theorem Wd.block {id:Nat} (h:Wd P C n c (QB id Q) st):Wd P C n (.block id c) Q st:=by
 intro tmps ds w hs M;refine wp_block (wp_mono (h tmps ds w hs M) ?_);rintro e ⟨t,d⟩ w' ⟨hd,st',J,I⟩;cases e <;> simp only[QB] at I <;> simp only[Exit.inBlock];case exit i=>
  split;·rename_i e;rw[if_pos e] at I;exact⟨hd,st',J,I⟩
  ·rename_i e;rw[if_neg e] at I;exact⟨hd,st',J,I⟩
 all_goals exact⟨hd,st',J,I⟩
omit [cc P] in
theorem Wd.conv (hle:∀ (tmps:Array Value) (w:World),ez C n st tmps w→ez C n st' tmps w) (h:Wd P C n c Q st'):Wd P C n c Q st:=
 fun tmps ds w hs I=>h tmps ds w (hle tmps w hs) I
omit [cc P] in
theorem Wd.loop {ι:Type} (S:ι→St) (X:ι→Nat) (hr:∀ i,Wd P C n c (Cf C n S X (X i) Q) (S i)) (i:ι):Wd P C n (.loop c) Q (S i):=by
 intro tmps ds w hs U b k cs
 have key:∀ (m:Nat) (i:ι) (tmps:Array Value) (ds:List Deferred) (w:World),X i=m→ez C n (S i) tmps w→sj C.w0.heap.size ds w →
  ∃ e a' w',B3 C n Q e a' w'∧Arrives P (lone (b.at ⟨tmps,ds⟩ (.code c::.inLoop c::k)) cs w) b k cs e a' w':=by
  intro m
  induction m using Nat.strongRecOn with
  | _ m ih=>
    intro i tmps ds w hm hs U;obtain⟨e,⟨t1,d1⟩,O,⟨hd,M,J,N⟩,I⟩:=hr i tmps ds w hs U b (.inLoop c::k) cs;simp only at hd
    cases e with
    | normal=>obtain⟨j,ad,ai⟩:=N;obtain⟨e2,a2,w2,aj,Z⟩:=ih (X j) (hm▸ad) j t1 d1 O rfl (ai t1 O J) hd;exact⟨e2,a2,w2,aj,.of_steps (Steps.trans I (.one step_inLoop)) Z⟩
    | exit id=>exact⟨_,⟨t1,d1⟩,O,⟨hd,M,J,N⟩,.pass (x:=.inLoop c) rfl (fun _ _=>.inl (by simp)) I⟩
    | goto l=>exact⟨_,⟨t1,d1⟩,O,⟨hd,M,J,N⟩,.pass (x:=.inLoop c) rfl (fun _ _=>.inl (by simp)) I⟩
    | ret=>exact⟨_,⟨t1,d1⟩,O,⟨hd,M,J,N⟩,.pass (x:=.inLoop c) rfl (fun _ _=>.inl (by simp)) I⟩
    | panic ch=>exact⟨_,⟨t1,d1⟩,O,⟨hd,M,J,N⟩,.pass (x:=.inLoop c) rfl (fun _ _=>.inl (by simp)) I⟩
    | outgrown=>exact⟨_,⟨t1,d1⟩,O,⟨hd,M,J,N⟩,.pass (x:=.inLoop c) rfl (fun _ _=>.inl (by simp)) I⟩
 obtain⟨e,a',w',N,I⟩:=key _ i tmps ds w rfl hs U;exact⟨e,a',w',N,.of_steps (.one step_loop) I⟩
theorem ao.nY {G:Gh} {tmps:Array Value} {w:World} (h:ao C n st G tmps w) {r:Nat} {o:Obj} (J:w.heap[r]? = some o) (M:uf o=false) (N:C.w0.heap.size≤r) (o':Obj):ao C n st G tmps (w.putObj r o'):=
 h.agree rfl rfl rfl (by simp) (fun b x hb I=>by rw[World.putObj_heap_other (fun e=>by subst e;rw[J] at hb;cases hb;rw[M] at I;cases I)];exact hb) (fun b hb _=>World.putObj_heap_other (by omega))
theorem ao.drew {G:Gh} {tmps:Array Value} {w:World} (h:ao C n st G tmps w):ao C n st G tmps w.drew:=
 h.agree rfl rfl rfl (Nat.le_refl _) (fun _ _ hb _=>hb) (fun _ _ _=>rfl)
omit [cc P] in
theorem sU {fn:Func} {tmps:Array Value} {R:Ending→World→Prop} {m:Nat}:∀ (I:List Nat) (w:World) (st:St) (G:Gh),ao C n st G tmps w→I.Nodup→(∀ D∈I,C.w0.heap.size≤D∧w.heap[D]? = some (Obj.deferred (some []))) →
 (∀ w' G,ao C n st G tmps w'→∃ v,(results fn tmps).run P w'=.ok v w'∧R (.returned v) w')→LeavesInM Fence.wide m P fn tmps R (I.map um) .returning w
 | [],w,st,G,hs,_,_,h=>h w G hs
 | D::I,w,st,G,hs,hn,hD,h=>by obtain⟨h1,h2⟩:=hD D (by simp);rw[List.nodup_cons] at hn;refine⟨by simp,.inl ⟨D,_,rfl,run_takeDeferred h2,sU I _ st G (hs.nY h2 rfl h1 _) hn.2 (fun E J=>?_) h⟩⟩;obtain⟨h3,h4⟩:=hD E (by simp[J]);exact⟨h3,by rw[World.putObj_heap_other (fun e=>hn.1 (by rw[←e];exact J))];exact h4⟩
theorem az.Fx (T:bA P) {f:FuncId} {fn:Func} {c:Code} {rs:List RV} {n:Nat} {args:List A} {r:A} (X:P.funcs[f]? = some fn) (N:(fn.name == "runtime.NumGoroutine")=false) (hb:fn.body=some c) (hn:fn.ntmps=n)
 (J:fn.results=(rs.map RV.var).toArray) (hlen:Nat.ble args.length n=true)
 (h:∀ C,C.bx=[]→GC P C→Wd P C n c (fun e st=>(match e with | .normal=>True | .ret=>True | _=>False)∧∃ l,iT T st.f st.bx rs=some l∧norm [] (aT l)=r) ⟨fX 0 args,[],[],0⟩):az P f args r 0:=by
 have hlen:=Nat.le_of_ble_eq_true hlen;refine⟨⟨fn,X,N,by rw[hb];rfl⟩,fun C I w hG hw hp hx a6 U=>?_⟩;subst hw;refine callsIn_wide.1 (callsIn_of_wp_marks (F:=Fence.wide) (n:=0) X hb trivial ?_ rfl);refine wpIn_wide.2 ?_;refine wp_mono (h C hp.2.2.1 hG (I++Array.replicate (fn.ntmps - I.size) undef) [] C.w0 ⟨G0,?_⟩ ⟨[],rfl,List.nodup_nil,fun D hD=>by cases hD⟩) ?_
 ·refine { size:=by simp[hn];omega,frame:=fun t a ha=>?_,box:=fun g cells hc=>by simp[ae] at hc,gbox:=fun g b hb=>by simp[G0] at hb,inj:=fun g g' b hb=>by simp[G0] at hb,gcell:=fun g b hb=>by simp[G0] at hb,
           live:=fun g hg=>by simp at hg,gown:=fun g r J=>by simp[G0] at J,row:=fun g b len cap sz a7 J=>by simp[G0] at J,mrow:=fun g b bs J=>by simp[G0] at J,sub:=fun g b bs c lim J=>by simp[G0] at J,xold:=fun b o hb=>⟨hx b o hb,hp.1 b⟩,kold:=fun b o hb=>absurd hb (hp.2.1 b o),lent:=fun i b hb=>by rw[hp.2.2.1] at hb;simp at hb,
           fr:=⟨rfl,rfl,rfl,Nat.le_refl _,fun _ _ _=>rfl,fun _ _ _ hb=>absurd hb (hp.2.1 _ _),dc.refl _⟩ }
  obtain⟨_,h1⟩:=fA args 0 t a ha;have h2:t < args.length:=(List.getElem?_eq_some_iff.1 (by simpa using h1)).1;have h3:t < I.size:=by omega
  have h4:I[t]? = some I[t]:=by simp[h3]
  exact⟨I[t],by rw[Array.getElem?_append_left h3];exact h4,U t _ a h4 (by simpa using h1)⟩
 ·rintro e ⟨tmps,df⟩ w' ⟨⟨Z,hd,ad,ai⟩,st,⟨G,hs⟩,he,l,hl,aj⟩
  simp only at hd;subst hd
  have M:LeavesInM Fence.wide 0 P fn tmps (fun e w'=>∃ v O,e=.returned v∧ao C 0 ⟨[],[],List.range 0,0⟩ O #[] w'∧aC (au C O 0 w') v r) (Z.map um) .returning w':=
   sU Z w' st G hs ad ai fun w2 G2 a1=>by obtain⟨v,h1,v1,O,h2,h3,h4⟩:=BS T a1 hp.2.2.1 J hl aj;exact⟨v,h1,v1,O,h2,h3,h4⟩
  cases e with
  | normal=>exact M
  | ret=>exact M
  | exit _=>exact he.elim
  | goto _=>exact he.elim
  | panic _=>exact he.elim
  | outgrown=>exact he.elim
end
/-! ### a range over slices.Chunk's iterator, where there is one chunk -/
def nU (P:Program) [cc P] (n:Nat) (body:Code) (V:List (Nat×A)) (I:List (List A)) (m:Nat) (b1:List (List A)) (k:Nat):Prop:=
 ∀ (C:Ctx) (G:Gh) (tmps:Array Value) (w:World) (l q:Nat),GC P C→C.w0=w→C.bx.length=I.length→C.ds=[]→ao C n ⟨V,dO 0 I,(List.range m).map (I.length+·),I.length+m⟩ G tmps w →
   body.wpIn (Fence.wide.inRound l) q P (fun e _ w'=>e=.normal∧∃ J,ao C 0 ⟨[],dO 0 b1,(List.range k).map (I.length+·),I.length+k⟩ J #[] w') ⟨tmps,[]⟩ w
def sd (P:Program) (fid:FuncId):Prop:=
 ∀ (l:Nat) (W:World) (I J b1 o1:Nat) (a:Addr) (len cap:Nat) (R:World→Prop),cellAt W I J=some (.slice (some a) len cap)→cellAt W b1 o1=some (.int .i64 1000)→0 < len→len≤1000→len≤cap→cap≤maxLen →
   YieldAt Fence.wide 0 P l #[.slice (some a) len len] W.drew (fun e W'=>e=.returned (.bool true)∧(∃ a' M,cellAt W' I J=some (.slice a' len M))∧cellAt W' b1 o1=some (.int .i64 1000)∧R W') →
   Calls P fid #[.func (.yield l) #[] #[],.pointer (some ⟨I,J,none⟩),.pointer (some ⟨b1,o1,none⟩)] W fun e W'=>(∃ v,e=.returned v)∧R W'
end Go.Ab
namespace Go.Ab
open Go.RowKit
theorem Ah {w:World} {pv:Nat→Nat→Prop} {v:Value} {es:List (List D)} (h:aI w pv v (.sl es)) (hp:0 < es.length):∃ (a:Addr) (cap:Nat),v=.slice (some a) es.length cap∧es.length≤cap∧cap≤maxLen∧aI w pv (.slice (some a) es.length es.length) (.sl es):=by
 cases h with
 | nil=>simp at hp
 | emp a cap hm=>simp at hp
 | sl b off len cap sz _ u hl I hm hs hu J=>subst hl;exact⟨_,cap,rfl,I,hm,.sl b off es.length es.length sz es u rfl (Nat.le_refl _) (by omega) hs hu J⟩
theorem sK {w:World} {pv:Nat→Nat→Prop} {v:Value} {es:List (List D)} (h:aI w pv v (.sl es)):∃ (a:Option Addr) (cap:Nat),v=.slice a es.length cap:=by
 cases h with
 | nil=>exact⟨_,_,rfl⟩
 | emp a cap hm=>exact⟨_,_,rfl⟩
 | sl b off len cap sz _ u hl I hm hs hu J=>subst hl;exact⟨_,_,rfl⟩
theorem sh {C:Ctx} {n:Nat} {st:St} {G:Gh} {tmps:Array Value} {w:World} (hs:ao C n st G tmps w) {g:Operand} {fid:FuncId} {es:List (List D)} {x:Value} (hg:av st.f g=some (.clo fid [.rowd [.sl es],.rowd [.v x]])) :
 ∃ J M b1 o1,Act.eval ⟨tmps,[]⟩ g=.func (.func fid) #[] #[.pointer (some ⟨J,M,none⟩),.pointer (some ⟨b1,o1,none⟩)]∧(∃ u,cellAt w J M=some u∧aI w (aS C G) u (.sl es))∧cellAt w b1 o1=some x:=by
 have N:=hs.av hg;generalize Act.eval ⟨tmps,[]⟩ g=v at N
 cases N with
 | clo _ vs _ I hcd=>
 have I:vs.size=2:=I;obtain⟨v0,v1,rfl⟩:∃ v0 v1,vs=#[v0,v1]:=⟨vs[0],vs[1],by
  apply Array.ext;·simpa using I
  ·intro i h1 h2
   match i with
   | 0=>rfl
   | 1=>rfl
   | i+2=>simp at h2;omega⟩
 have r0:=hcd 0 v0 _ rfl rfl;have r1:=hcd 1 v1 _ rfl rfl
 cases r0 with
 | rowd J M _ u0 O U=>
 cases r1 with
 | rowd b1 o1 _ u1 X Z=>
 refine⟨J,M,b1,o1,rfl,⟨u0 0,?_,U 0 _ rfl⟩,?_⟩
 ·have h1:=(O 0 (by simp)).1
  rw[Nat.add_zero] at h1;exact h1
 ·have h1:=(X 0 (by simp)).1
  have h2:=Z 0 _ rfl;generalize u1 0=y at h1 h2;rw[Nat.add_zero] at h1;cases h2 with | v _ _=>exact h1
section
variable {P:Program} [cc P] {C:Ctx} [GC P C] {n:Nat} {Q:Exit→St→Prop} {st:St}
theorem Wd.range {g:Operand} {par d id:Nat} {ty:TypeId} {pos:String} {af:Array Edge} {body:Code} {es:List (List D)} {fid:FuncId}
 (hg:av st.f g=some (.clo fid [.rowd [.sl es],.rowd [.v (.int .i64 1000)]])) (hok:iC P fid) (hit:sd P fid) (dj:0 < es.length) (e4:es.length≤1000) (dt:Nat.blt par n=true) (dx:Nat.blt d n=true)
 (gs os:List Nat) (gb:nodupB gs=true) (gi:nodupB os=true) (gj:(os.all fun g=>st.lv.any fun h=>Nat.beq h g)=true) {V:List (Nat×A)} {N b1:List (List A)} {m k:Nat} (hb:eZ st.bx gs os gs=some N) (hm:os.length=m)
 (hV:∀ t a',look V t=some a'→∃ a,look st.f t=some a∧dm st.bx gs os 5 a=a') (gq:(V.all fun x=>!Nat.beq x.1 par)=true)
 (df:nU P n body ((d,.d (.sl es))::V) N m b1 k) (ha:b1.length=N.length)
 (h:Q .normal ⟨st.f,gH gs st.gen gs b1++st.bx,(List.range k).map (N.length+·+st.gen)++st.lv.filter (fun g=>!os.any (Nat.beq g)),N.length+k+st.gen⟩) :
 Wd P C n (.rangeFunc g #[par] (.region id #[⟨some d,.assign (.tmp par),ty,pos,af,none⟩] false) body) Q st:=by
 subst hm;intro tmps ds w ⟨G,hs⟩ ⟨Ds,ch,hc,ed⟩;have ch:ds=Ds.map um:=ch;subst ch;have dt:=Nat.le_of_ble_eq_true dt;have dx:=Nat.le_of_ble_eq_true dx;obtain⟨p0,o0,p1,o1,ei,⟨u0,hf,hh⟩,hk⟩:=sh hs hg;obtain⟨a,cap,rfl,hq,hr,ht⟩:=Ah hh dj;refine(wpIn_wide (n:=1)).1 (wpIn_rangeFunc ?_);intro fn _;obtain⟨rec,J⟩:∃ rec:LoopState→Option Code→Loop,rec=fun s pe=>{ state:=s,pending:=pe,fn,tmps:=tmps,params:=#[par],assign:=.region id #[⟨some d,.assign (.tmp par),ty,pos,af,none⟩] false,body,defers:=w.heap.size }:=⟨_,rfl⟩;obtain⟨I,ai⟩:∃ I,(w.alloc (.deferred (some []))).alloc (.loop (rec .ready none))=I:=⟨_,rfl⟩;have cj:I.heap[w.heap.size+1]? = some (.loop (rec .ready none)):=by rw[←ai];have:=World.alloc_heap_new (w.alloc (.deferred (some []))) (.loop (rec .ready none));rwa [World.size_alloc] at this
 have aj:Below w.heap.size w I:=by rw[←ai];exact((Below.refl _ w).alloc (Nat.le_refl _) _).alloc (by simp) _
 have hz:I.heap[w.heap.size]? = some (.deferred (some [])):=by rw[←ai];exact(Below.heap_alloc _ _ _ (by simp)).trans (World.alloc_heap_new w _)
 have hA:ao C n st G tmps I:=(hs.gp aj).2;have h6:w.heap.size≤I.heap.size:=aj.size;have cl:∀ {b o u},cellAt w b o=some u→cellAt I b o=some u:=fun {b o u} hu=>by rw[br (aj.block b (cE hu))];exact hu
 have hE:=hs.fr.size
 refine⟨w.heap.size+1,[{ target:=.collected w.heap.size,args:=#[] }],I,{ target:=.fn (.func fid) #[.pointer (some ⟨p0,o0,none⟩),.pointer (some ⟨p1,o1,none⟩)],args:=#[.func (.yield (w.heap.size+1)) #[] #[]] },I,fid,
  #[.func (.yield (w.heap.size+1)) #[] #[]]++#[.pointer (some ⟨p0,o0,none⟩),.pointer (some ⟨p1,o1,none⟩)],I,?_,?_,?_,?_,fun _=>Nat.le_refl _,?_⟩
 ·rw[←ai,J];exact run_enterLoop_outer _ _ _ _ _
 ·have e5:Act.eval ⟨tmps,Ds.map um⟩ g=.func (.func fid) #[] #[.pointer (some ⟨p0,o0,none⟩),.pointer (some ⟨p1,o1,none⟩)]:=by rw[Act.gw tmps _ []];exact ei
  simp only[resolve,e5];simp[go_sem]
 ·intro f' _;trivial
 ·obtain⟨h8,e6,cq,cx⟩:=hok
  simp only[Sem.run_bind,Sem.run_pure,Result.andThen_ok,invoke,callFunc,run_program,e6,cq,cx,Bool.false_eq_true,if_false]
 refine CallsIn.mono (callsIn_wide.2 (hit (w.heap.size+1) I p0 o0 p1 o1 a es.length cap
  (fun W'=>∃ G',ao C n ⟨st.f,gH gs st.gen gs b1++st.bx,(List.range k).map (N.length+·+st.gen)++st.lv.filter (fun g=>!os.any (Nat.beq g)),N.length+k+st.gen⟩ G' tmps W' ∧
   W'.heap[w.heap.size+1]? = some (.loop (rec .ready none))∧∀ D:Nat,D≠w.heap.size+1→I.heap[D]? = some (Obj.deferred (some []))→W'.heap[D]? = some (Obj.deferred (some [])))
  (cl hf) (cl hk) dj e4 hq hr ?_)) ?_
 ·
  have hF:ao C n st G tmps I.drew:=hA.drew;have cy:I.drew.heap[w.heap.size+1]? = some (.loop (rec .ready none)):=cj;have hy:=run_yield (P:=P) (args:=#[.slice (some a) es.length es.length]) cy (by rw[J];rfl);rw[J] at hy;refine⟨fn,_,_,body,hy,roundIn_of_wpIn trivial ?_⟩;generalize a1:I.drew.putObj (w.heap.size+1) (.loop { rec .ready none with state:=.busy })=O;have ej:=run_beginRound (P:=P) cy (by rw[J]);rw[a1] at ej;have ff:w.heap.size+1 < I.heap.size:=(Array.getElem?_eq_some_iff.1 cj).1;have hG:O.heap[w.heap.size+1]? = some (.loop { rec .ready none with state:=.busy }):=by rw[←a1];exact World.putObj_heap_same ff
  have a6:∀ b,b≠w.heap.size+1→O.heap[b]? = I.heap[b]?:=fun b hb=>by rw[←a1,World.putObj_heap_other hb];rfl
  have X:ao C n st G tmps O:=by rw[←a1];exact hF.nY cy rfl (by omega) _
  have fj:∀ {b o u},cellAt w b o=some u→cellAt O b o=some u:=fun {b o u} hu=>by have:=cl hu;rw[br (a6 b (fun e=>by have:=cE hu;omega))];exact this
  obtain⟨hlen,fo⟩:=X.kT (gs:=gs) (os:=os) (dL gb) (dL gi) (fun g hg=>by obtain⟨y,hy,he⟩:=List.any_eq_true.1 (List.all_eq_true.1 gj g hg);exact Nat.eq_of_beq_eq_true he▸hy) hb;obtain⟨h9,ih⟩:=fU hb;have a7:tmps.size=n:=hs.size;obtain⟨tm,a8⟩:∃ tm,(tmps.setIfInBounds par (.slice (some a) es.length es.length)).setIfInBounds d (.slice (some a) es.length es.length)=tm:=⟨_,rfl⟩;have di:ao (dH C G O gs os) n ⟨(d,.d (.sl es))::V,dO 0 N,(List.range os.length).map (N.length+·),N.length+os.length⟩ (fz G gs os) tm O:=by
   refine { fo with size:=by rw[←a8];simp[a7],frame:=fun t x hx=>?_ };rw[aN] at hx;split at hx
   ·rename_i e
    subst e;cases hx;refine⟨.slice (some a) es.length es.length,by rw[←a8,Array.getElem?_setIfInBounds_self_of_lt (by simp[a7];omega)],.d (ht.mono fun b o u hu hn=>⟨fj hu,fun hp=>hn (xl hp)⟩)⟩
   ·rename_i e
    obtain⟨y,hH,rfl⟩:=hV t x hx;have U:t≠par:=fun e2=>by subst e2;have:=List.all_eq_true.1 gq _ (tC hx);simp at this
    obtain⟨v,hv,hI⟩:=X.frame t y hH;exact⟨v,by rw[←a8,Array.getElem?_setIfInBounds_ne e,Array.getElem?_setIfInBounds_ne (Ne.symm U)];exact hv,aC.kT X gs os (by show _≤N.length+os.length;omega) 5 v y hI⟩
  have fs:=df (dH C G O gs os) (fz G gs os) tm O (w.heap.size+1) 0 (GC.rv X) rfl hlen rfl di;have hw:∀ (ops:Array Oper) (t:Array Value),Region.wanted ⟨some d,.assign (.tmp par),ty,pos,af,none⟩ (yielded ops t)=true:=fun _ _=>rfl;have hK:(tmps.setIfInBounds par (.slice (some a) es.length es.length))[par]? = some (.slice (some a) es.length es.length):=Array.getElem?_setIfInBounds_self_of_lt (by omega);have e0:(Array.foldl (fun (t:Array Value) (x:Nat×Value)=>t.setIfInBounds x.1 x.2) tmps ((#[par]:Array Nat).zip #[Value.slice (some a) es.length es.length]))=tmps.setIfInBounds par (.slice (some a) es.length es.length):=by simp
  show(Code.region _ _ _).wpIn _ _ P _ ⟨Array.foldl (fun (t:Array Value) (x:Nat×Value)=>t.setIfInBounds x.1 x.2) tmps ((#[par]:Array Nat).zip #[Value.slice (some a) es.length es.length]),[]⟩ _;rw[e0];refine wpIn_region ?_;show wpOpsIn _ _ P #[_] _ [0] _ _;simp only[wpOpsIn,List.getElem?_toArray,List.getElem?_cons_zero,hw,if_true];refine⟨fun _ _=>trivial,?_⟩;have hex:Sem.run P (Oper.semAt (Fence.wide.inRound (w.heap.size+1)).round (Act.eval ⟨tmps.setIfInBounds par (.slice (some a) es.length es.length),[]⟩) ⟨some d,.assign (.tmp par),ty,pos,af,none⟩) I.drew=.ok (.value (.slice (some a) es.length es.length)) I.drew:=by
   rw[Oper.semAt_eq _ _ _ (fun c h=>by cases h)];show Sem.run P (execOp _ _) _=_;simp only[execOp,Act.eval];have hL:(tmps.setIfInBounds par (Value.slice (some a) es.length es.length)).getD par undef=.slice (some a) es.length es.length:=by rw[Array.getD_eq_getD_getElem?,hK];rfl
   rw[hL];rfl
  rw[hex];show ∃ h7,_;refine⟨O,ej,?_⟩;have hM:(Act.put ⟨tmps.setIfInBounds par (.slice (some a) es.length es.length),[]⟩ (some d) (.slice (some a) es.length es.length))=⟨tm,[]⟩:=by rw[←a8];rfl
  show body.wpIn _ _ P _ (Act.put ⟨tmps.setIfInBounds par (.slice (some a) es.length es.length),[]⟩ (some d) (.slice (some a) es.length es.length)) O;rw[hM];refine wpIn_mono fs ?_;rintro e a3 W3 ⟨rfl,G3,b2⟩;obtain⟨G4,_,hN⟩:=X.vz hb ha b2;have b3:∀ {b:Nat} {o:Obj},O.heap[b]? = some o→uf o=false→W3.heap[b]? = some o:=fun {b o} c1 ho=>by
   refine(b2.fr.block b (Array.getElem?_eq_some_iff.1 c1).1 (fun hl=>X.zV c1 ho ?_)).trans c1;rcases hl with ⟨g',_,hO⟩ | ⟨lim,g',_,r,hP,hQ⟩
   ·exact .inl ⟨g',hO⟩
   ·exact .inr ⟨g',r,lim,hP,hQ⟩
  have c6:=b3 hG rfl;have hR:=run_endRound (P:=P) none c6;refine⟨_,_,hR,rfl,?_⟩;have en:=hN.nY c6 rfl (by omega) (.loop { { rec .ready none with state:=LoopState.busy } with state:=if (none:Option Code).isNone then .ready else .done,pending:=none });obtain⟨q0,r0,q1,r1,Z,⟨u2,hS,hT⟩,hX⟩:=sh en (g:=g) (fid:=fid) (es:=es) (x:=.int .i64 1000) hg;rw[ei] at Z;simp only[Value.func.injEq,true_and] at Z;have c7:=congrArg Array.toList Z;simp only[List.cons.injEq,Value.pointer.injEq,Option.some.injEq,Addr.mk.injEq,and_true] at c7;obtain⟨⟨rfl,rfl⟩,rfl,rfl⟩:=c7;obtain⟨a2,ft,rfl⟩:=sK hT;refine⟨⟨a2,ft,hS⟩,hX,G4,en,?_,fun D U M=>?_⟩
  ·rw[J]
   exact World.putObj_heap_same (Array.getElem?_eq_some_iff.1 c6).1
  ·rw[World.putObj_heap_other U]
   exact b3 (by rw[a6 D U];exact M) rfl
 ·rintro e W3 ⟨⟨v,rfl⟩,G',b2,e1,hY⟩
  have e3:=run_endLoop (P:=P) e1 (by rw[J];simp);rw[J] at e3;refine⟨none,_,e3,?_⟩;have U:∀ D,I.heap[D]? = some (Obj.deferred (some []))→D≠w.heap.size+1:=fun D M e=>by rw[e,cj] at M;cases M
  have ad:∀ D:Nat,I.heap[D]? = some (Obj.deferred (some []))→(W3.putObj (w.heap.size+1) (.loop { rec .ready none with state:=.exhausted })).heap[D]? = some (Obj.deferred (some [])):=fun D M=>by rw[World.putObj_heap_other (U D M)];exact hY D (U D M) M
  rw[J] at ad;refine⟨⟨w.heap.size::Ds,rfl,?_,fun D M=>?_⟩,_,⟨G',b2.nY e1 rfl (by omega) _⟩,h⟩
  ·rw[List.nodup_cons]
   refine⟨fun hm=>?_,hc⟩;have:=(Array.getElem?_eq_some_iff.1 (ed _ hm).2).1;omega
  ·rcases List.mem_cons.1 M with rfl | M
   ·exact⟨hE,ad _ hz⟩
   ·obtain⟨h1,h2⟩:=ed D M
    exact⟨h1,ad D (by rw[aj.block D (Array.getElem?_eq_some_iff.1 h2).1];exact h2)⟩
end
end Go.Ab
namespace Go.Ab
open Go.RowKit
def l5 (o:Oper):Bool:=match o.op with | .defer _=>false | _=>true
section
variable {P:Program} {n:Nat}
theorem vY {q:Nat} {row:String} {args:Array Value} {w:World} {R:Value→World→Prop} (h:Rows P row args w R):RowsIn Fence.wide q P row args w R:=
 fun c cs _=>let ⟨v,w',r,s⟩:=h c cs;⟨v,w',r,stepsIn_wide.2 s⟩
theorem yf {o:Oper} {a:Act} {w:World} {next next':Act→World→Prop} {Q Q':Exit→Act→World→Prop} (h:o.wp P a w next Q) (I:∀ a w,next a w→next' a w) (J:∀ e a w,Q e a w→Q' e a w):o.wp P a w next' Q':=by
 unfold Oper.wp at h ⊢;generalize (execOp a.eval o).run P w=res at h ⊢
 cases res with
 | ok x w'=>
   cases x <;> simp only[Oper.upon] at h ⊢;case value v=>exact I _ _ h
   case skip=>exact I _ _ h
   case defer d=>exact I _ _ h
   case enter f args=>
    refine h.mono fun e M he=>?_
    cases e with
    | returned v=>exact I _ _ he
    | panicked c=>exact J _ _ _ he
    | outgrown=>exact let ⟨a,w,h⟩:=he;⟨a,w,J _ _ _ h⟩
   case row row args=>exact h.mono fun v M he=>I _ _ he
 | halt x w'=>cases x <;> simp only[Oper.upon] at h ⊢;exact J _ _ _ h
theorem ns {ops:Array Oper} {Q Q':Exit→Act→World→Prop} (I:∀ e a w,Q e a w→Q' e a w):∀ (l:List Oper) (a:Act) (w:World),dS P ops Q l a w→dS P ops Q' l a w
 | [],_,_,h=>I _ _ _ h
 | o::l,a,w,h=>by
   simp only[dS] at h ⊢;split
   ·rename_i hw
    rw[if_pos hw] at h;exact yf h (fun a w=>ns I l a w) I
   ·rename_i hw
    rw[if_neg hw] at h;exact ns I l _ _ h
theorem Ck {r q:Nat} {o:Oper} {a:Act} {w:World} {next next':Act→World→Prop} {Q:Exit→Act→World→Prop} (M:l5 o=true) (h:o.wp P a w next Q) (I:∀ a w,next a w→next' a w):o.wpIn (Fence.wide.inRound r) q P a w next' Q:=by
 refine⟨fun _ _=>trivial,?_⟩;rw[Oper.semAt_eq _ _ _ (fun c O=>by simp[l5,O] at M)];unfold Oper.wp at h;generalize (execOp a.eval o).run P w=res at h ⊢
 cases res with
 | ok x w'=>
   cases x <;> simp only[Oper.upon] at h <;> simp only[Oper.uponIn];case value v=>exact I _ _ h
   case skip=>exact I _ _ h
   case defer d=>exact I _ _ h
   case enter f args=>
    refine⟨fun J=>(by cases J),CallsIn.inRound r ((callsIn_wide.2 h).mono fun e N he=>?_)⟩
    cases e with
    | returned v=>exact I _ _ he
    | panicked c=>exact he
    | outgrown=>exact he
   case row row args=>exact⟨fun J=>(by cases J),(vY (h.mono fun v N he=>I _ _ he):RowsIn Fence.wide (q - 1) P row args w' _)⟩
 | halt x w'=>cases x <;> simp only[Oper.upon] at h <;> simp only[Oper.uponIn];exact h
theorem vo {r q:Nat} {ops:Array Oper} {Q:Exit→Act→World→Prop}:∀ (l:List Oper) (k:Nat),(∀ j:Nat,l[j]? = ops[k+j]?)→(l.all l5=true)→∀ (a:Act) (w:World),dS P ops Q l a w→wpOpsIn (Fence.wide.inRound r) q P ops Q (List.range' k l.length) a w
 | [],k,_,_,a,w,h=>by simpa [wpOpsIn,dS] using h
 | o::l,k,hl,hd,a,w,h=>by
   have h0:ops[k]? = some o:=by simpa using (hl 0).symm
   simp only[List.all_cons,Bool.and_eq_true] at hd;simp only[List.length_cons,List.range'_succ,wpOpsIn,h0];simp only[dS] at h;have I:=fun a w=>vo (r:=r) (q:=q) (Q:=Q) l (k+1) (fun j=>by have:=hl (j+1);simpa [Nat.add_assoc,Nat.add_comm 1 j] using this) hd.2 a w;split
   ·rename_i hw
    rw[if_pos hw] at h;exact Ck hd.1 h I
   ·rename_i hw
    rw[if_neg hw] at h;exact⟨fun _ _=>trivial,I _ _ h⟩
end
def QR (b1:List (List A)) (k:Nat) (st:St):Prop:=∃ order,order.length=k∧nodupB (dU b1.length order)=true∧(∀ g∈order,g∈st.lv)∧∀ (i:Nat) (c:List A),b1[i]? = some c→∃ c0,ae st.bx i=some c0∧fm (dU b1.length order) c0=c
theorem QR.mk {b1:List (List A)} {k:Nat} {st:St} (order:List Nat) (M:order.length=k) (I:nodupB (dU b1.length order)=true) (J:(order.all fun g=>st.lv.any fun h=>Nat.beq h g)=true)
 (hb:∀ (i:Nat) (c:List A),b1[i]? = some c→∃ c0,ae st.bx i=some c0∧fm (dU b1.length order) c0=c):QR b1 k st:=
 ⟨order,M,I,fun g N=>by obtain⟨x,O,he⟩:=List.any_eq_true.1 (List.all_eq_true.1 J g N);exact Nat.eq_of_beq_eq_true he▸O,hb⟩
section
variable {P:Program} [cc P] {n:Nat}
theorem QR.wO {C:Ctx} {st:St} {G:Gh} {tmps:Array Value} {w:World} {I b1:List (List A)} {k:Nat} (hs:ao C n st G tmps w) (hq:QR b1 k st) (O:C.bx.length=I.length) (J:b1.length=I.length) :
 ∃ G',ao C 0 ⟨[],dO 0 b1,(List.range k).map (I.length+·),I.length+k⟩ G' #[] w:=by
 obtain⟨order,U,X,Z,ad⟩:=hq;have aj:(dU b1.length order).length=I.length+k:=by simp[dU,U,J]
 have M:∀ i,i < C.bx.length→(dU b1.length order)[i]? = some i:=fun i hi=>by unfold dU;rw[List.getElem?_append_left (by simp;omega),List.getElem?_range (by omega)]
 refine⟨lI (dU b1.length order) G,ao.xe (hs.bE (f':=[]) (bx':=dO 0 b1) (lv':=(List.range k).map (I.length+·)) (gen':=I.length+k) (dU b1.length order) (dL X) (by omega) M (fun t a ha=>by simp[look] at ha) (fun i c hc=>?_) (fun i hi=>?_)) rfl⟩
 ·obtain⟨_,h1⟩:=mu b1 0 i c hc
  simp only[Nat.sub_zero] at h1;obtain⟨c0,h2,h3⟩:=ad i c h1;have ai:i < b1.length:=(List.getElem?_eq_some_iff.1 h1).1;exact⟨i,c0,M i (by rw[O,←J];exact ai),h2,by rw[←fF];exact h3⟩
 ·obtain⟨j,hj,rfl⟩:=List.mem_map.1 hi
  have hj:j < k:=by simpa using hj
  have N:j < order.length:=by omega
  refine⟨order[j],?_,Z _ (List.getElem_mem N)⟩;unfold dU;rw[List.getElem?_append_right (by simp;omega)];simp[J,N]
theorem nU.Gk {id i1 i2:Nat} {l1 l2:List Oper} {V:List (Nat×A)} {I b1:List (List A)} {m k:Nat} (U:b1.length=I.length) (X:l1.all l5=true) (Z:l2.all l5=true)
 (h:∀ C,NB C I.length→GC P C→WO P C n l1.toArray (fun e s=>e=.normal∧WO P C n l2.toArray (fun e s=>e=.normal∧QR b1 k s) l2 s) l1 ⟨V,dO 0 I,(List.range m).map (I.length+·),I.length+m⟩) :
 nU P n (.block id (.seq (.region i1 l1.toArray false) (.region i2 l2.toArray false))) V I m b1 k:=by
 intro C G tmps w l q hG hw N J hs;refine wpIn_block (wpIn_seq (wpIn_region ?_));have h1:=h C ⟨N⟩ hG tmps w ⟨G,hs⟩;rw[J] at h1;have h2:dS P l1.toArray (Exit.then ((Code.region i2 l2.toArray false).wpIn (Fence.wide.inRound l) q P (Exit.inBlock id fun e _ w'=>e=.normal∧∃ M,ao C 0 ⟨[],dO 0 b1,(List.range k).map (I.length+·),I.length+k⟩ M #[] w')) (Exit.inBlock id fun e _ w'=>e=.normal∧∃ M,ao C 0 ⟨[],dO 0 b1,(List.range k).map (I.length+·),I.length+k⟩ M #[] w')) l1 ⟨tmps,[]⟩ w:=by
  refine ns (fun e a w' O=>?_) l1 _ _ h1;obtain⟨hd,st,⟨G2,ad⟩,rfl,ai⟩:=O;obtain⟨tm,d⟩:=a;have hd:d=C.ds:=hd;rw[J] at hd;subst hd;refine wpIn_region ?_;have h3:=ai tm w' ⟨G2,ad⟩;rw[J] at h3;have h4:dS P l2.toArray (Exit.inBlock id fun e _ w'=>e=.normal∧∃ M,ao C 0 ⟨[],dO 0 b1,(List.range k).map (I.length+·),I.length+k⟩ M #[] w') l2 ⟨tm,[]⟩ w':=by refine ns (fun e a w3 O=>?_) l2 _ _ h3;obtain⟨_,a6,⟨G3,aj⟩,rfl,a1⟩:=O;exact⟨rfl,a1.wO aj N U⟩
  have:=vo (P:=P) (r:=l) (q:=q) l2 0 (by simp) Z _ _ h4;rw[show List.range l2.toArray.size=List.range' 0 l2.length by simp[List.range_eq_range']];exact this
 have:=vo (P:=P) (r:=l) (q:=q) l1 0 (by simp) X _ _ h2;rw[show List.range l1.toArray.size=List.range' 0 l1.length by simp[List.range_eq_range']];exact this
end
section
variable {P:Program} (T:bA P) {C:Ctx} {n:Nat} {Q:Exit→St→Prop} {c:Code}
variable {f f':List (Nat×A)} {bx bx':List (Nat×List A)} {lv:List Nat} {gen:Nat}
theorem xn [hnb:NB C 0] (s:Nat) {g:Nat} {l:List D} (hl:look f s=some (.ptr g 0)) (hb:ae bx g=some (l.map .d)) (a6:Nat.blt s n=true) (hf:lK g [] f=f') (a7:ki g [] bx=some bx')
 (h:W P C n c Q ⟨(s,.rowd l)::f',bx',lv,gen⟩):W P C n c Q ⟨f,bx,lv,gen⟩:=by
 subst hf;intro tmps w ⟨G,hs⟩;obtain⟨v,hv,O⟩:=hs.frame _ _ hl;obtain⟨b,cs,T',U,hw,h3,h4,h5⟩:=hs.box _ _ hb
 cases O with
 | ptr _ _ _ b' cj Z hx=>
 have Z:G.box g=some b':=Z;rw[U] at Z;cases Z;let M:Gh:=⟨fun x=>if x=g then none else G.box x,G.own⟩;have a8:∀ b' o,aS C M b' o→aS C G b' o:=by
  rintro b' o (hp | ⟨I,hp⟩ | hp);·exact .inl hp
  ·simp only[M] at hp
   split at hp;·cases hp
   ·exact .inr (.inl ⟨I,hp⟩)
  ·exact .inr (.inr hp)
 have a1:∀ o,¬ aS C M b o:=by
  rintro o (hp | ⟨I,hp⟩ | ⟨I,len,cap,sz,ad,hp,_⟩ | ⟨I,N,bs,lim,hp,hm,_⟩)
  rotate_right
  ·exact(hs.sub I N bs b lim hp hm).2.1 g U
  ·have:=hs.xold b o hp
   rcases(hs.gbox g b U).2.2.1 with hm | hm
   ·omega
   ·exact this.2 hm
  ·simp only[M] at hp
   split at hp;·cases hp
   ·rename_i e;exact e (hs.inj I g b hp U)
  ·exact(hs.row I b len cap sz ad hp).2.1 g U
 have X:∀ {v:Value} {a:A},aC (au C G gen w) v a→fL g a=true→aC (au C M gen w) v a:=fun h ha=>aC.forget (E:=au C G gen w) (E':=au C M gen w) rfl (fun b o u hu hn=>⟨hu,fun hp=>hn (a8 b o hp)⟩) (fun b h=>h) (fun I b b0 hb=>by show(if I=g then none else G.box I)=some b;rw[if_neg b0];exact hb) rfl rfl h ha;have b3:ao C n ⟨lK g [] f,bx',lv,gen⟩ M tmps w:=by
  refine { size:=hs.size,frame:=?_,box:=?_,gbox:=?_,inj:=?_,live:=hs.live,gown:=hs.gown,row:=?_,mrow:=?_,sub:=?_,gcell:=fun I N J=>(by simp only[M] at J;split at J <;> first | (cases J;done) | exact hs.gcell I N J),xold:=hs.xold,kold:=hs.kold,lent:=?_,fr:=hs.fr }
  ·intro t a ha
   obtain⟨h1,h2,_⟩:=jW ha;obtain⟨v,hv,O⟩:=hs.frame t a h1;exact⟨v,hv,X O h2⟩
  ·intro I cells hc
   obtain⟨h1,h2,h6,_⟩:=jR a7 hc;obtain⟨N,ch,T2,p1,p2,p3,p4,p5⟩:=hs.box I cells h1;exact⟨N,ch,T2,by simp only[M];rw[if_neg h6];exact p1,p2,p3,p4,fun i u a hu ha=>X (p5 i u a hu ha) (ey h2 a (List.mem_of_getElem? ha))⟩
  ·intro I N J
   simp only[M] at J;split at J;·cases J
   ·exact hs.gbox I N J
  ·intro g1 g2 N h1 h2
   simp only[M] at h1 h2;split at h1;·cases h1
   ·split at h2
    ·cases h2
    ·exact hs.inj g1 g2 N h1 h2
  ·intro I N len cap sz ad O
   obtain⟨p1,p2,p3⟩:=hs.row I N len cap sz ad O;refine⟨p1,fun g2 h2=>?_,p3⟩;simp only[M] at h2;split at h2;·cases h2
   ·exact p2 g2 h2
  ·intro I N bs O
   obtain⟨p1,p2,p3⟩:=hs.mrow I N bs O;refine⟨p1,fun g2 h2=>?_,p3⟩;simp only[M] at h2;split at h2;·cases h2
   ·exact p2 g2 h2
  ·intro I N bs c lim O hm
   obtain⟨p1,p2,p3⟩:=hs.sub I N bs c lim O hm;refine⟨p1,fun g2 h2=>?_,p3⟩;simp only[M] at h2;split at h2;·cases h2
   ·exact p2 g2 h2
  ·intro i N J
   have:=hnb.h;have hi:=(List.getElem?_eq_some_iff.1 J).1;omega
 have aj:aC (au C M gen w) v (.rowd l):=by
  rw[hx];refine .rowd b 0 l (fun j=>cs[j]?.getD default) (fun j hj=>?_) (fun j x hx=>?_)
  ·have ai:j < cs.size:=by rw[h3];simpa using hj
   have e1:cs[j]? = some cs[j]:=by simp[ai]
   refine⟨?_,a1 _⟩;show cellAt w b (0+j)=_;rw[Nat.zero_add,bC hw,e1];rfl
  ·have ai:j < cs.size:=by rw[h3];simpa using (List.getElem?_eq_some_iff.1 hx).1
   have e1:cs[j]? = some cs[j]:=by simp[ai]
   have:=X (h5 j _ (.d x) e1 (by simp[hx])) rfl;rw[e1];show aI w _ cs[j] x;generalize cs[j]=u at this;cases this with | d hd=>exact hd
 refine h tmps w ⟨M,?_⟩;have:=b3.set (d:=s) (Nat.le_of_ble_eq_true a6) aj;rwa [gM hv] at this
end
end Go.Ab
namespace Go.Ab
open Go.RowKit Go.MapKept
theorem aC.Cl {E E':En} {g:Nat} (hw:E.w=E'.w) (hc:∀ b o u,cellAt E.w b o=some u→¬ E.pv b o→cellAt E'.w b o=some u∧¬ E'.pv b o) (hold:∀ b,E.old b→E'.old b) (hb:∀ J b,J≠g→E.box J=some b→E'.box J=some b) (U:∀ J r,J < E.gen→E'.own J=some r→E.own J=some r) (O:E.gen≤E'.gen)
 {v:Value} {a:A} (h:aC E v a) (ha:fL g a=true):aC E' v a:=by
 have ai:∀ {J},(!Nat.beq J g)=true→J≠g:=fun h e=>by subst e;simp at h
 have X:∀ b o u,cellAt E.w b o=some u→¬ E.pv b o→cellAt E.w b o=some u∧¬ E'.pv b o:=fun b o u h1 h2=>⟨h1,(hc b o u h1 h2).2⟩
 induction h with
 | any x=>exact .any x
 | d hd=>exact .d (hd.mono hc)
 | ag vs l hs hd=>exact .ag vs l hs (fun i u x h1 h2=>(hd i u x h1 h2).mono hc)
 | own x J es hd I hr=>exact .own x J es (hd.mono hc) (Nat.lt_of_lt_of_le I O) (fun r M=>hr r (U _ r I M))
 | agg vs l hs hone _ ih=>exact .agg vs l hs hone (fun i u x hu N=>ih i u x hu N (ey (by simpa [fL] using ha) x (List.mem_of_getElem? N)))
 | tup vs l hs _ ih=>exact .tup vs l hs (fun i u x hu N=>ih i u x hu N (ey (by simpa [fL] using ha) x (List.mem_of_getElem? N)))
 | rowd b off l u ad hd=>exact .rowd b off l u (fun j hj=>hc _ _ _ (ad j hj).1 (ad j hj).2) (fun j x N=>(hd j x N).mono hc)
 | row b off l u ad _ ih=>exact .row b off l u (fun j hj=>⟨by rw[←hw];exact(ad j hj).1,hold _ (ad j hj).2.1,(ad j hj).2.2⟩) (fun j x N=>ih j x N (ey (by simpa [fL] using ha) x (List.mem_of_getElem? N)))
 | ptr x J off b I Z hp=>exact .ptr x J off b (Nat.lt_of_lt_of_le I O) (hb J b (ai (by simpa [fL] using ha)) Z) hp
 | xs x J es I h1 N=>exact .xs x J es (Nat.lt_of_lt_of_le I O) h1 (fun r M=>hw▸(N r (U _ r I M)).da X)
 | xp x J i off l I h1 N=>exact .xp x J i off l (Nat.lt_of_lt_of_le I O) h1 (fun r M=>hw▸(N r (U _ r I M)).da X)
 | mp x J es I h1 N=>exact .mp x J es (Nat.lt_of_lt_of_le I O) h1 (fun r M=>hw▸(N r (U _ r I M)).da X)
 | mq x J es I h1 N=>exact .mq x J es (Nat.lt_of_lt_of_le I O) h1 (fun r M=>hw▸(N r (U _ r I M)).da X)
 | mo x J es hole ob I h1 N=>exact .mo x J es hole ob (Nat.lt_of_lt_of_le I O) h1 (fun r M=>hw▸(N r (U _ r I M)).da X)
 | ni t x=>exact .ni t x
 | fl x es hd a1=>exact .fl x es (hd.mono hc) a1
 | bf x J T s I h1 N=>exact .bf x J T s (Nat.lt_of_lt_of_le I O) h1 (fun r M=>hw▸N r (U _ r I M))
 | np x J T b I Z hT u hp=>exact .np x J T b (Nat.lt_of_lt_of_le I O) (hb J b (ai (by simpa [fL] using ha)) Z) (hw▸hT) u hp
 | sb x J n c b I Z hn hp=>exact .sb x J n c b (Nat.lt_of_lt_of_le I O) (hb J b (ai (by simpa [fL] using ha)) Z) hn hp
 | fx x u J es ou N I hu a6=>exact .fx x u J es ou (N.mono hc) (Nat.lt_of_lt_of_le I O) (fun r M=>hw▸(hu r (U _ r I M)).da X) a6
 | ol x u g1 E1 J es N aj a7 I hu=>exact .ol x u g1 E1 J es (N.mono hc) (Nat.lt_of_lt_of_le aj O) (fun r M=>a7 r (U _ r aj M)) (Nat.lt_of_lt_of_le I O) (fun r M=>hw▸(hu r (U _ r I M)).da X)
 | ow x v J es hd I hr=>exact .ow x v J es (hd.mono hc) (Nat.lt_of_lt_of_le I O) (fun r M=>hr r (U _ r I M))
 | lk x J n c b v I Z hn hp=>exact .lk x J n c b v (Nat.lt_of_lt_of_le I O) (hb J b (ai (by simpa [fL] using ha)) Z) hn hp
 | clo f vs l hs _ ih=>exact .clo f vs l hs (fun i u x hu N=>ih i u x hu N (ey (by simpa [fL] using ha) x (List.mem_of_getElem? N)))
 | bnd f vs l hs _ ih=>exact .bnd f vs l hs (fun i u x hu N=>ih i u x hu N (ey (by simpa [fL] using ha) x (List.mem_of_getElem? N)))
section
variable {C:Ctx} {n:Nat} {G:Gh} {tmps:Array Value} {w:World}
variable {f:List (Nat×A)} {bx bx':List (Nat×List A)} {lv:List Nat} {gen:Nat}
theorem ao.Ej (hs:ao C n ⟨f,bx,lv,gen⟩ G tmps w) (c7:C.bx=[]) {g b:Nat} {l:List D} (Z:G.box g=some b) (hb:ae bx g=some (l.map .d)) (ch:0 < l.length) (df:ki g [] bx=some bx') :
 ∃ N cs T,w.heap[b]? = some (.cells cs T (0,0))∧cs.size=l.length∧eF cs∧(∀ (j:Nat) (u:Value) (d:D),cs[j]? = some u→l[j]? = some d→aI w (aS C N) u d)∧N.own gen=some (.blk b 1 1 l.length 0)∧(∀ I,I≠gen→N.own I=G.own I) ∧
   (∀ b' o,aS C N b' o→aS C G b' o)∧ao C n ⟨lK g [] f,bx',gen::lv,gen+1⟩ N tmps w:=by
 obtain⟨b0,cs,T',a7,hw,h3,h4,h5⟩:=hs.box _ _ hb;rw[Z] at a7;cases a7;simp only[List.length_map] at h3;let M:Nat→Option Row:=fun I=>if I=gen then some (.blk b 1 1 l.length 0) else G.own I;let N:Gh:=⟨fun x=>if x=g then none else G.box x,M⟩;have ad:∀ {I c len cap sz ai},M I=some (.blk c len cap sz ai)→(I=gen∧c=b∧len=1∧cap=1∧sz=l.length∧ai=0)∨(I≠gen∧G.own I=some (.blk c len cap sz ai)):=by
  intro I c len cap sz ai J;simp only[M] at J;split at J
  ·rename_i e
   simp only[Option.some.injEq,Row.blk.injEq] at J;exact .inl ⟨e,J.1.symm,J.2.1.symm,J.2.2.1.symm,J.2.2.2.1.symm,J.2.2.2.2.symm⟩
  ·rename_i e;exact .inr ⟨e,J⟩
 have a1:∀ {I O aj},M I=some (.mp O aj)→G.own I=some (.mp O aj):=by
  intro I O aj J;simp only[M] at J;split at J;·cases J
  ·exact J
 have a8:∀ b' o,aS C N b' o→aS C G b' o:=by
  rintro b' o (hp | ⟨I,hp⟩ | ⟨I,cj,cl,di,cq,hp,hl'⟩ | ⟨I,O,aj,lim,hp,hm,hl'⟩);·exact .inl hp
  ·simp only[N] at hp
   split at hp;·cases hp
   ·exact .inr (.inl ⟨I,hp⟩)
  ·rcases ad hp with ⟨_,rfl,_⟩ | ⟨_,e⟩
   ·exact .inr (.inl ⟨g,Z⟩)
   ·exact .inr (.inr (.inl ⟨I,cj,cl,di,cq,e,hl'⟩))
  ·exact .inr (.inr (.inr ⟨I,O,aj,lim,a1 hp,hm,hl'⟩))
 have a6:∀ {v:Value} {a:A},aC (au C G gen w) v a→fL g a=true→aC (au C N (gen+1) w) v a:=fun h ha=>
  aC.Cl (E:=au C G gen w) (E':=au C N (gen+1) w) rfl (fun b o u hu hn=>⟨hu,fun hp=>hn (a8 b o hp)⟩) (fun b h=>h) (fun I b dj hb=>by show(if I=g then none else G.box I)=some b;rw[if_neg dj];exact hb)
   (fun I r X J=>by have J:M I=some r:=J;have X:I < gen:=X;simp only[M,if_neg (Nat.ne_of_lt X)] at J;exact J) (Nat.le_succ gen) h ha
 refine⟨N,cs,T',hw,h3,h4,fun j u d hu hd=>?_,by simp[N,M],fun I X=>by simp[N,M,X],a8,?_⟩
 ·have:=a6 (h5 j u (.d d) hu (by simp[hd])) rfl
  cases this with | d hd=>exact hd
 ·refine { size:=hs.size,frame:=?_,box:=?_,gbox:=?_,inj:=?_,live:=?_,gown:=?_,row:=?_,mrow:=?_,sub:=?_,gcell:=fun I O U=>(by simp only[N] at U;split at U <;> first | (cases U;done) | exact hs.gcell I O U),xold:=hs.xold,kold:=hs.kold,lent:=?_,fr:=hs.fr }
  ·intro t a ha
   obtain⟨h1,h2,_⟩:=jW ha;obtain⟨v,hv,J⟩:=hs.frame t a h1;exact⟨v,hv,a6 J h2⟩
  ·intro I cells hc
   obtain⟨h1,h2,h6,_⟩:=jR df hc;obtain⟨O,dt,T2,p1,p2,p3,p4,p5⟩:=hs.box I cells h1;exact⟨O,dt,T2,by simp only[N];rw[if_neg h6];exact p1,p2,p3,p4,fun i u a hu ha=>a6 (p5 i u a hu ha) (ey h2 a (List.mem_of_getElem? ha))⟩
  ·intro I O U
   simp only[N] at U;split at U;·cases U
   ·obtain⟨q1,q2⟩:=hs.gbox I O U
    exact⟨Nat.lt_succ_of_lt q1,q2⟩
  ·intro g1 g2 O h1 h2
   simp only[N] at h1 h2;split at h1;·cases h1
   ·split at h2
    ·cases h2
    ·exact hs.inj g1 g2 O h1 h2
  ·intro I X
   rcases List.mem_cons.1 X with rfl | X
   ·exact⟨_,by simp[N,M];rfl⟩
   ·obtain⟨r,J⟩:=hs.live I X
    exact⟨r,by simp only[N,M,if_neg (Nat.ne_of_lt (hs.gown I r J))];exact J⟩
  ·intro I r J
   have J:M I=some r:=J;simp only[M] at J;split at J;·simp only;omega
   ·exact Nat.lt_succ_of_lt (hs.gown I r J)
  ·intro I O len cap sz ai J
   rcases ad J with ⟨e,rfl,rfl,rfl,rfl,rfl⟩ | ⟨e,J⟩
   ·refine⟨(hs.gbox g _ Z).2.2,fun g2 h2=>?_,fun g2 cx cy dx c1 h2=>?_,cs,T',hw,by rw[h3];simp,Nat.le_refl _,by simp[maxLen],ch,by decide,Nat.zero_le _,h4⟩
    ·simp only[N] at h2
     split at h2;·cases h2
     ·rename_i e2;exact e2 (hs.inj _ _ _ h2 Z)
    ·rcases ad h2 with ⟨e2,_⟩ | ⟨_,e2⟩
     ·rw[e,e2]
     ·exact absurd Z ((hs.row _ _ _ _ _ _ e2).2.1 g)
   ·obtain⟨p1,p2,p3,p4⟩:=hs.row I O len cap sz ai J
    refine⟨p1,fun g2 h2=>?_,fun g2 cx cy dx c1 h2=>?_,p4⟩
    ·simp only[N] at h2
     split at h2;·cases h2
     ·exact p2 g2 h2
    ·rcases ad h2 with ⟨_,rfl,_⟩ | ⟨_,e2⟩
     ·exact absurd Z (p2 g)
     ·exact p3 _ _ _ _ _ e2
  ·intro I O bs J
   obtain⟨p1,p2,p3,p4⟩:=hs.mrow I O bs (a1 J);refine⟨p1,fun g2 h2=>?_,fun g2 aj h2=>p3 g2 aj (a1 h2),p4⟩;simp only[N] at h2;split at h2;·cases h2
   ·exact p2 g2 h2
  ·intro I O bs c lim J hm
   obtain⟨p1,p2,p3,p4,p5⟩:=hs.sub I O bs c lim (a1 J) hm;refine⟨p1,fun g2 h2=>?_,fun g2 len cap sz ai h2=>?_,fun g2 b3 ed c6 h2 ei=>p4 g2 b3 ed c6 (a1 h2) ei,p5⟩
   ·simp only[N] at h2
    split at h2;·cases h2
    ·exact p2 g2 h2
   ·rcases ad h2 with ⟨_,rfl,_⟩ | ⟨_,e2⟩
    ·exact p2 g Z
    ·exact p3 _ _ _ _ _ e2
  ·intro i O U
   rw[c7] at U;simp at U
end
end Go.Ab
namespace Go.Ab
open Go.RowKit Go.MapKept
def gW {α:Type} (kf:α→Value) (l:List (α×Option (List D))):List (Value×Option (List D)):=l.map fun p=>(kf p.1,p.2)
theorem yT {α:Type} {kf:α→Value} {l:List (α×Option (List D))} {i:Nat} {k:Value} {o:Option (List D)} (h:(gW kf l)[i]? = some (k,o)):∃ a,l[i]? = some (a,o)∧k=kf a:=by simp only[gW,List.getElem?_map,Option.map_eq_some_iff] at h;obtain⟨p,hp,e⟩:=h;simp only[Prod.mk.injEq] at e;exact⟨p.1,by rw[←e.2];exact hp,e.1.symm⟩
theorem wR {α:Type} {kf:α→Value} {l:List (α×Option (List D))} {k:Value} {o:Option (List D)} (h:(k,o)∈gW kf l):∃ a,(a,o)∈l∧k=kf a:=by obtain⟨i,hi⟩:=List.mem_iff_getElem?.1 h;obtain⟨a,I,e⟩:=yT hi;exact⟨a,List.mem_of_getElem? I,e⟩
structure om {α:Type} (w:World) (pv:Nat→Nat→Prop) (b:Nat) (bs:List (Nat×Nat)) (kf:α→Value) (l:List (α×Option (List D))) (me:Array MapEntry) (clock:Nat) (ps:Value→Nat) (l2:List (α×Value)):Prop where
 hb:w.heap[b]? = some (.map me clock)
 st:Stamped me clock
 mi:gk w pv kf D.v me l2
 ln:l2.length=l.length
 ks:∀ (i:Nat) (p:α×Value) (q:α×Option (List D)),l2[i]? = some p→l[i]? = some q→p.1=q.1
 inj:∀ (a a':α) (x x':List D),(a,some x)∈l→(a',some x')∈l→ps (kf a)=ps (kf a')→kf a=kf a'
 at_:∀ (i:Nat) (m:MapEntry) (a:α) (x:List D),me[i]? = some m→l[i]? = some (a,some x)→m.val=.pointer (some ⟨ps (kf a),0,none⟩)∧(ps (kf a),0)∈bs ∧
  ∃ cur T,w.heap[ps (kf a)]? = some (.cells cur T (0,0))∧cur.size=x.length∧eF cur∧∀ (j:Nat) (u:Value) (d:D),cur[j]? = some u→x[j]? = some d→aI w pv u d
theorem om.of {α:Type} {kf:α→Value} {w:World} {pv:Nat→Nat→Prop} {b:Nat} {bs:List (Nat×Nat)} {v:Value} {l:List (α×Option (List D))} (h:mS w pv (.mp b bs) v (gW kf l)):v=.map (some b)∧∃ I clock ps l2,om w pv b bs kf l I clock ps l2:=by
 obtain⟨h1,I,clock,h2,h3,h4,ps,h5,N⟩:=h;have J:I.size=l.length:=by rw[h4];simp[gW]
 refine⟨h1,I,clock,ps,(l.zip I.toList).map fun p=>(p.1.1,p.2.val),h2,h3,⟨by simp[J],fun i m p hm hp=>?_⟩,by simp[J],fun i p q hp U=>?_,fun a a' x X q1 q2 q3=>?_,fun i m a x hm Z=>?_⟩
 ·have O:i < l.length:=by rw[←J];exact(Array.getElem?_eq_some_iff.1 hm).1
  have hl:l[i]? = some l[i]:=by simp[O]
  have M:(l.zip I.toList)[i]? = some (l[i],m):=by rw[List.getElem?_zip_eq_some];exact⟨hl,by simpa using hm⟩
  rw[List.getElem?_map,M] at hp;simp only[Option.map_some,Option.some.injEq] at hp;subst hp;obtain⟨q1,q2,q3,_⟩:=N i m (kf l[i].1) l[i].2 hm (by simp[gW,hl]);exact⟨q1,q2,.v _ q3⟩
 ·rw[List.getElem?_map,Option.map_eq_some_iff] at hp
  obtain⟨z,M,rfl⟩:=hp;rw[List.getElem?_zip_eq_some] at M;rw[U] at M;exact congrArg Prod.fst (Option.some.inj M.1).symm
 ·exact h5 _ _ x X (List.mem_map.2 ⟨_,q1,rfl⟩) (List.mem_map.2 ⟨_,q2,rfl⟩) q3
 ·exact(N i m (kf a) (some x) hm (by simp[gW,Z])).2.2.2 x rfl
theorem om.to {α:Type} {kf:α→Value} {w:World} {pv:Nat→Nat→Prop} {b:Nat} {bs:List (Nat×Nat)} {l:List (α×Option (List D))} {M:Array MapEntry} {clock:Nat} {ps:Value→Nat} {l2:List (α×Value)} (h:om w pv b bs kf l M clock ps l2):mS w pv (.mp b bs) (.map (some b)) (gW kf l):=by
 refine⟨rfl,M,clock,h.hb,h.st,by rw[h.mi.1,h.ln];simp[gW],ps,fun k k' x U q1 q2 q3=>?_,fun i m k o hm X=>?_⟩
 ·obtain⟨a,I,rfl⟩:=wR q1
  obtain⟨a',N,rfl⟩:=wR q2;exact h.inj a a' x U I N q3
 ·obtain⟨a,I,rfl⟩:=yT X
  have O:i < l2.length:=by rw[h.ln];exact(List.getElem?_eq_some_iff.1 I).1
  have J:l2[i]? = some l2[i]:=by simp[O]
  obtain⟨q1,q2,q3⟩:=h.mi.2 i m _ hm J;have e:=h.ks i _ _ J I;rw[e] at q1 q2;refine⟨q1,q2,?_,fun x Z=>?_⟩
  ·generalize m.val=y at q3
   cases q3 with | v _ hok=>exact hok
  ·subst Z
   exact h.at_ i m a x hm I
section
variable {P:Program} (T:bA P) {C:Ctx} {n:Nat} {ops:Array Oper} {Q:Exit→St→Prop} {rest:List Oper}
variable {f f':List (Nat×A)} {bx bx':List (Nat×List A)} {lv:List Nat} {gen:Nat} {d:Nat} {ty:TypeId} {pos:String} {af:Array Edge} {dst:Option Nat} {c:Code}
variable {α:Type} [DecidableEq α] {kf:α→Value}
omit [DecidableEq α] in
theorem ao.yq {st:St} {G:Gh} {tmps:Array Value} {w:World} (hs:ao C n st G tmps w) {v:Value} {g:Nat} {l:List (α×Option (List D))} (U:aC (au C G st.gen w) v (.mq g (gW kf l))) (O:g∈st.lv) :
 ∃ b bs M clock ps l2,G.own g=some (.mp b bs)∧v=.map (some b)∧om w (aS C G) b bs kf l M clock ps l2:=by
 obtain⟨r,J⟩:=hs.live g O
 cases U with
 | mq _ _ _ X h1 N=>
 have I:=N r J
 cases r with
 | nil=>exact I.elim
 | zero b=>exact I.elim
 | blk b len cap sz Z=>exact I.elim
 | mp b bs=>obtain⟨h2,M,clock,ps,l2,h3⟩:=om.of I;exact⟨b,bs,M,clock,ps,l2,J,h2,h3⟩
theorem DH {t:TypeId} (hd:Nat.blt d n=true) (h:WO P C n ops Q rest ⟨(d,.mq gen [])::f,bx,gen::lv,gen+1⟩):WO P C n ops Q (⟨some d,.makeMap t none,ty,pos,af,none⟩::rest) ⟨f,bx,lv,gen⟩:=by
 refine WO.step (st:=⟨f,bx,lv,gen⟩) rfl fun tmps w ⟨G,hs⟩=>?_;obtain⟨U,N,J⟩:=hs.uC;refine bT (v:=.map (some w.heap.size)) (w':=w.alloc (.map #[] 0)) ?_ ⟨_,⟨U,N.put (dst:=some d) (bQ (dst:=some d) hd) ?_⟩,h⟩
 ·unfold execOp
  show Sem.run P _ w=.ok _ _;simp[Instr.makeMap,Sem.run_bind,Result.andThen]
 ·cases J with
  | mp _ _ _ O h1 M=>
  refine .mq _ _ _ O h1 (fun r J=>?_);have I:=M r J
  cases r with
  | nil=>exact I.elim
  | zero b=>exact I.elim
  | blk b len cap sz ad=>exact I.elim
  | mp b bs=>obtain⟨q1,X,clock,q2,q3,q4,_⟩:=I;exact⟨q1,X,clock,q2,q3,q4,fun _=>0,fun _ _ _ _ h=>(by cases h),fun i m k x hm Z=>(by simp at Z)⟩
open Classical in
theorem C5 [hnb:NB C 0] (s:Nat) {mt k e:Nat} {td:bH} {m kx x:Operand} {g gb:Nat} {l:List (α×Option (List D))} {a:α} {y:List D} (hm:av f m=some (.mq g (gW kf l))) (hl:look f s=some (.mq g (gW kf l))) (hk:av f kx=some (.d (.v (kf a)))) (hx:av f x=some (.ptr gb 0)) (hb:ae bx gb=some (y.map .d)) (hy:Nat.blt 0 y.length=true)
 (ht:ae T.l mt=some td) (gi:td.k=.map k e) (df:iE P k kf) (di:(lv.any fun h=>Nat.beq h g)=true) (gj:Nat.blt s n=true) (hn:(l.map (·.1)).Nodup) (b0:a∉l.map (·.1)) (hf:lK gb [] f=f') (gq:ki gb [] bx=some bx')
 {dj:List (Value×Option (List D))} (ha:gW kf (l++[(a,some y)])=dj) {lv':List Nat} (hg:(gen+1)::bk lv g=lv')
 (h:WO P C n ops Q rest ⟨(s,.mq (gen+1) dj)::f',bx',lv',gen+2⟩):WO P C n ops Q (⟨none,.mapUpdate mt m kx x,ty,pos,af,none⟩::rest) ⟨f,bx,lv,gen⟩:=by
 subst ha;subst hg;subst hf;refine WO.step (st:=⟨f,bx,lv,gen⟩) rfl fun tmps w ⟨G,hs⟩=>?_;have hh:C.bx=[]:=List.eq_nil_of_length_eq_zero hnb.h;have dt:=hs.av hm;have ai:=hs.av hk;have dx:=hs.av hx;obtain⟨vs,ho,hz⟩:=hs.frame s _ hl;generalize hv:Act.eval ⟨tmps,[]⟩ m=v at dt;generalize hA:Act.eval ⟨tmps,[]⟩ kx=vk at ai;generalize hD:Act.eval ⟨tmps,[]⟩ x=vx at dx;obtain⟨b,bs,me,clock,ps,l2,aj,rfl,I⟩:=hs.yq dt (cM di);obtain⟨O,N,_,_,_,_,e4,rfl,_⟩:=hs.yq hz (cM di);obtain⟨rfl,rfl⟩:O=b∧N=bs:=by have:=e4.symm.trans aj;simpa using this
 cases ai with | d ai=>cases ai with | v _ hok=>
 cases dx with
 | ptr _ _ _ c hN a6 ed=>
 have a6:G.box gb=some c:=a6;have a7:l2.map (·.1)=l.map (·.1):=by
  refine List.ext_getElem? fun i=>?_;rw[List.getElem?_map,List.getElem?_map];rcases Nat.lt_or_ge i l2.length with hi | hi
  ·have h1:l2[i]? = some l2[i]:=by simp[hi]
   have hE:i < l.length:=by rw[←I.ln];exact hi
   have h2:l[i]? = some l[i]:=by simp[hE]
   rw[h1,h2];simp only[Option.map_some,I.ks i _ _ h1 h2]
  ·rw[List.getElem?_eq_none hi,List.getElem?_eq_none (by rw[←I.ln];exact hi)]
   rfl
 have cy:∀ p∈l2,p.1≠a:=fun p hp e=>b0 (by rw[←a7,←e];exact List.mem_map.2 ⟨p,hp,rfl⟩);obtain⟨M,J,e5,e6,U,b3⟩:=pz (P:=P) T (y:=vx) (vf:=D.v) ht gi df I.hb I.st I.mi (by rw[a7];exact hn) a hok (v:=vx) (.v _ (by rw[ed];rfl));have h0:(execOp (Act.eval ⟨tmps,[]⟩) ⟨none,.mapUpdate mt m kx x,ty,pos,af,none⟩).run P w=.ok .skip { w with heap:=w.heap.setIfInBounds O (.map M J) }:=by unfold execOp;show Sem.run P _ w=.ok _ _;simp only[hv,hA,hD,Sem.run_bind,e5,Result.andThen_ok,Sem.run_pure]
 rw[iu cy] at U b3;have ch:=hs.gown g _ aj;obtain⟨G1,cs,T1,c1,c2,c3,c4,c5,c6,c7,hF⟩:=hs.Ej hh a6 hb (Nat.le_of_ble_eq_true hy) gq;have fj:G1.own g=some (.mp O N):=by rw[c6 g (Nat.ne_of_lt ch)];exact aj
 obtain⟨G',hO,hG,hle,hH⟩:=hF.join (g:=g) (g2:=gen) (bs':=(c,0)::N) fj c5 (Ne.symm (Nat.ne_of_lt ch)) (fun p hp=>by
  rcases List.mem_cons.1 hp with rfl | hp
  ·exact .inr ⟨_,_,_,rfl⟩
  ·exact .inl hp) M J (bk lv g) (fun g' hI=>by
  obtain⟨t1,t2⟩:=cK hI;obtain⟨r,hr⟩:=hs.live g' t1;have:=hs.gown g' r hr;exact⟨List.mem_cons_of_mem _ t1,t2,by simp only at this;omega⟩)
 obtain⟨fo,fs⟩:=heap_set (o':=Obj.map M J) I.hb;have X:∀ {c:Nat} {cs:Array Value} {T:TypeId} {ff:Nat×Nat},w.heap[c]? = some (.cells cs T ff)→(w.heap.setIfInBounds O (.map M J))[c]? = some (.cells cs T ff):=fun {c cs T ff} hc=>by rw[fs c (fun e=>by rw[e,I.hb] at hc;cases hc)];exact hc
 have cj:∀ {v:Value} {d:D},aI w (aS C G1) v d→aI { w with heap:=w.heap.setIfInBounds O (.map M J) } (aS C G') v d:=fun hd=>hd.mono fun b o u hu hp=>hle.cell b o u hu hp;have cl:∀ {v:Value} {d:D},aI w (aS C G) v d→aI { w with heap:=w.heap.setIfInBounds O (.map M J) } (aS C G') v d:=fun hd=>cj (hd.mono fun b o u hu hp=>⟨hu,fun hK=>hp (c7 b o hK)⟩);have a8:∀ lim,(c,lim)∉N:=fun lim hm=>(hs.sub g O N c lim aj hm).2.1 gb a6;have ei:∀ (a':α) (x':List D),(a',some x')∈l→(ps (kf a'),0)∈N:=fun a' x' hm=>by
  obtain⟨i,hi⟩:=List.mem_iff_getElem?.1 hm;have hL:i < me.size:=by rw[I.mi.1,I.ln];exact(List.getElem?_eq_some_iff.1 hi).1
  exact(I.at_ i me[i] a' x' (by simp[hL]) hi).2.1
 have Z:∀ (a':α) (o:Option (List D)),(a',o)∈l→kf a'≠kf a:=fun a' o hm e=>b0 (by rw[←df.inj _ _ e];exact List.mem_map.2 ⟨_,hm,rfl⟩);have ft:om { w with heap:=w.heap.setIfInBounds O (.map M J) } (aS C G') O ((c,0)::N) kf (l++[(a,some y)]) M J (fun k=>if k=kf a then c else ps k) (l2++[(a,vx)]):=by
  refine⟨fo,e6,⟨U.1,fun i m p hm hp=>?_⟩,by simp[I.ln],fun i p q hp hq=>?_,fun a1 a2 x1 x2 q1 q2 q3=>?_,fun i mm a1 x1 cq hp=>?_⟩
  ·obtain⟨q1,q2,q3⟩:=U.2 i m p hm hp
   exact⟨q1,q2,cl q3⟩
  ·rcases Nat.lt_or_ge i l2.length with hi | hi
   ·rw[List.getElem?_append_left hi] at hp
    rw[List.getElem?_append_left (by rw[←I.ln];exact hi)] at hq;exact I.ks i p q hp hq
   ·rw[List.getElem?_append_right hi] at hp
    rw[List.getElem?_append_right (by rw[←I.ln];exact hi),←I.ln] at hq;generalize i - l2.length=j at hp hq
    cases j with
    | zero=>simp only[List.getElem?_cons_zero,Option.some.injEq] at hp hq;subst hp;subst hq;rfl
    | succ j=>simp at hp
  ·rcases List.mem_append.1 q1 with q1 | q1 <;> rcases List.mem_append.1 q2 with q2 | q2
   ·rw[if_neg (Z _ _ q1),if_neg (Z _ _ q2)] at q3
    exact I.inj a1 a2 x1 x2 q1 q2 q3
   ·simp only[List.mem_singleton,Prod.mk.injEq] at q2
    rw[if_neg (Z _ _ q1),q2.1,if_pos rfl] at q3;exact absurd (q3▸ei a1 x1 q1) (a8 0)
   ·simp only[List.mem_singleton,Prod.mk.injEq] at q1
    rw[if_neg (Z _ _ q2),q1.1,if_pos rfl] at q3;exact absurd (q3▸ei a2 x2 q2) (a8 0)
   ·simp only[List.mem_singleton,Prod.mk.injEq] at q1 q2
    rw[q1.1,q2.1]
  ·rcases Nat.lt_or_ge i l.length with hi | hi
   ·rw[List.getElem?_append_left hi] at hp
    have ad:i < l2.length:=by rw[I.ln];exact hi
    have cx:(l2++[(a,vx)])[i]? = some l2[i]:=by rw[List.getElem?_append_left ad];simp[ad]
    have ej:=I.ks i _ _ (by simp[ad]:l2[i]? = some l2[i]) hp;rcases b3 i mm _ cq cx with ⟨e,_⟩ | ⟨_,m0,e1,e2,e3⟩
    ·have hM:a1=a:=by rw[e] at ej;exact ej.symm
     exact absurd (List.mem_map.2 ⟨_,List.mem_of_getElem? hp,hM⟩) b0
    ·obtain⟨r1,r2,cur,T2,r3,r4,r5,r6⟩:=I.at_ i m0 a1 x1 e1 hp
     rw[if_neg (Z _ _ (List.mem_of_getElem? hp))];exact⟨e3▸r1,List.mem_cons_of_mem _ r2,cur,T2,X r3,r4,r5,fun j u d hu hd=>cl (r6 j u d hu hd)⟩
   ·rw[List.getElem?_append_right hi] at hp
    have ad:l2.length≤i:=by rw[I.ln];exact hi
    have en:i < (l2++[(a,vx)]).length:=by rw[←U.1];exact(Array.getElem?_eq_some_iff.1 cq).1
    have e0:i=l.length:=by rw[List.length_append,I.ln] at en;simp at en;omega
    subst e0;simp only[Nat.sub_self,List.getElem?_cons_zero,Option.some.injEq,Prod.mk.injEq] at hp;obtain⟨rfl,rfl⟩:=hp;have cx:(l2++[(a,vx)])[l.length]? = some (a,vx):=by rw[List.getElem?_append_right ad,I.ln];simp
    rw[if_pos rfl];refine⟨?_,List.mem_cons_self,cs,T1,X c1,c2,c3,fun j u d hu hd=>cj (c4 j u d hu hd)⟩;rcases b3 _ mm _ cq cx with ⟨_,e2⟩ | ⟨e,_⟩
    ·rw[e2,ed]
    ·exact absurd rfl e
 refine fT h0 ⟨_,⟨G',?_⟩,h⟩;have:=hH.set (d:=s) (Nat.le_of_ble_eq_true gj) (v:=.map (some O)) (a:=.mq (gen+1) (gW kf (l++[(a,some y)]))) (.mq _ _ _ (by simp[au]) rfl (fun r hr=>by have:G'.own (gen+1)=some r:=hr;rw[hG] at this;cases this;exact ft.to));rwa [gM ho] at this
end
end Go.Ab
namespace Go.Ab
open Go.RowKit Go.MapKept
theorem Bm {α β:Type} [DecidableEq α] {l:List (α×β)} {i:Nat} {a:α} {v:β} (I:(l.map (·.1)).Nodup) (h:l[i]? = some (a,v)):bO l a=some v:=by
 induction l generalizing i with
 | nil=>simp at h
 | cons p r J=>
   rw[List.map_cons,List.nodup_cons] at I;rw[eE]
   cases i with
   | zero=>simp only[List.getElem?_cons_zero,Option.some.injEq] at h;subst h;rw[if_pos rfl]
   | succ i=>simp only[List.getElem?_cons_succ] at h;have:p.1≠a:=fun e=>I.1 (by rw[e];exact List.mem_map.2 ⟨_,List.mem_of_getElem? h,rfl⟩);rw[if_neg this];exact J I.2 h
section
variable {P:Program} (T:bA P) {C:Ctx} {n:Nat} {ops:Array Oper} {Q:Exit→St→Prop} {rest:List Oper}
variable {f f':List (Nat×A)} {bx bx':List (Nat×List A)} {lv:List Nat} {gen:Nat} {d:Nat} {ty:TypeId} {pos:String} {af:Array Edge} {dst:Option Nat} {c:Code}
variable {α:Type} [DecidableEq α] {kf:α→Value}
theorem AS (s i:Nat) {mt k e:Nat} {td ed:bH} {m kx:Operand} {g:Nat} {l:List (α×Option (List D))} {a:α} {y:List D} {zx:Value} (hd:Nat.blt d n=true) (hm:av f m=some (.mq g (gW kf l))) (hl:look f s=some (.mq g (gW kf l))) (hk:av f kx=some (.d (.v (kf a)))) (hy:Nat.blt 0 y.length=true)
 (ht:ae T.l mt=some td) (e4:td.k=.map k e) (he:ae T.l e=some ed) (b3:iE P k kf) (ch:(lv.any fun h=>Nat.beq h g)=true) (e5:ed.z=[zx]) (e6:lz ed.k=true) (ff:cm zx=true) (fj:Nat.blt s n=true) (hn:(l.map (·.1)).Nodup) (hi:l[i]? = some (a,some y))
 {cj:List (Value×Option (List D))} (fo:gW kf (l.set i (a,none))=cj) {lv':List Nat} (fs:gen::bk lv g=lv')
 (h:WO P C n ops Q rest ⟨(d,.tup [.ptr (gen+2) 0,.d (.v (.bool true))])::(s,.mq gen cj)::f,(gen+2,y.map .d)::bx,lv',gen+3⟩):WO P C n ops Q (⟨some d,.lookup mt m kx true,ty,pos,af,none⟩::rest) ⟨f,bx,lv,gen⟩:=by
 subst fo;subst fs;refine WO.step (st:=⟨f,bx,lv,gen⟩) rfl fun tmps w ⟨G,hs⟩=>?_;have cl:=hs.av hm;have U:=hs.av hk;obtain⟨vs,ft,gb⟩:=hs.frame s _ hl;generalize hv:Act.eval ⟨tmps,[]⟩ m=v at cl;generalize gi:Act.eval ⟨tmps,[]⟩ kx=vk at U;obtain⟨b,bs,O,clock,ps,l2,cq,rfl,I⟩:=hs.yq cl (cM ch);obtain⟨b2,ad,_,_,_,_,ei,rfl,_⟩:=hs.yq gb (cM ch);obtain⟨rfl,rfl⟩:b2=b∧ad=bs:=by have:=ei.symm.trans cq;simpa using this
 cases U with | d U=>cases U with | v _ hok=>
 have ej:=Nat.le_of_ble_eq_true hy;have X:l2.map (·.1)=l.map (·.1):=by
  refine List.ext_getElem? fun i=>?_;rw[List.getElem?_map,List.getElem?_map];rcases Nat.lt_or_ge i l2.length with hi | hi
  ·have h1:l2[i]? = some l2[i]:=by simp[hi]
   have gj:i < l.length:=by rw[←I.ln];exact hi
   have h2:l[i]? = some l[i]:=by simp[gj]
   rw[h1,h2];simp only[Option.map_some,I.ks i _ _ h1 h2]
  ·rw[List.getElem?_eq_none hi,List.getElem?_eq_none (by rw[←I.ln];exact hi)]
   rfl
 have gq:=(List.getElem?_eq_some_iff.1 hi).1;have ai:i < l2.length:=by rw[I.ln];exact gq
 have en:i < O.size:=by rw[I.mi.1];exact ai
 have aj:O[i]? = some O[i]:=by simp[en]
 have N:l2[i]? = some l2[i]:=by simp[ai]
 obtain⟨r1,r2,cur,T1,r3,r4,r5,r6⟩:=I.at_ i O[i] a y aj hi;obtain⟨q1,q2,q3⟩:=I.mi.2 i O[i] l2[i] aj N;have cx:l2[i].1=a:=I.ks i _ _ N hi;have e0:l2[i].2=.pointer (some ⟨ps (kf a),0,none⟩):=by rw[←r1];generalize O[i].val=z at q3;generalize l2[i].2=z2 at q3;cases q3;rfl
 have e1:bO l2 a=some (.pointer (some ⟨ps (kf a),0,none⟩)):=Bm (i:=i) (by rw[X];exact hn) (by rw[N,←e0,←cx]);obtain⟨u,h1,h2⟩:=rS (P:=P) (vf:=D.v) (z:=zx) T ht e4 he b3 e5 e6 (.v _ ff) I.hb I.mi (by rw[X];exact hn) a true;rw[e1] at h1 h2;simp only[Option.getD_some] at h2;have hu:u=.pointer (some ⟨ps (kf a),0,none⟩):=by cases h2;rfl
 subst hu;generalize ha:ps (kf a)=c at *;have h0:(execOp (Act.eval ⟨tmps,[]⟩) ⟨some d,.lookup mt m kx true,ty,pos,af,none⟩).run P w=.ok (.value (.tuple #[.pointer (some ⟨c,0,none⟩),.bool true])) w:=by unfold execOp;show Sem.run P _ w=.ok _ _;simp only[hv,gi,Sem.run_bind,h1,Result.andThen_ok,Sem.run_pure];rfl
 obtain⟨G1,hH,hc,hf,hle,hg⟩:=hs.split cq (bs':=ad.filter fun q=>!Nat.beq q.1 c) (fun q J=>(List.mem_filter.1 J).1) (.blk c 1 1 y.length 0) (fun _ _ h=>by cases h) (fun c' len cap sz hI h=>by simp only[Row.blk.injEq] at h;obtain⟨rfl,rfl,rfl,rfl,rfl⟩:=h;exact⟨r2,fun q J e=>by have:=(List.mem_filter.1 J).2;rw[e] at this;simp at this,cur,T1,r3,by rw[r4];simp,Nat.le_refl _,by simp[maxLen],ej,by decide,Nat.zero_le _,r5⟩) (bk lv g) (fun Z M=>cK M);have a6:∀ {a':α} {x:List D},(a',some x)∈l.set i (a,none)→(a',some x)∈l∧a'≠a:=fun {a' x} hm=>by
  obtain⟨j,hj⟩:=List.mem_iff_getElem?.1 hm;rw[List.getElem?_set] at hj;split at hj;·simp at hj
  ·rename_i hh
   refine⟨List.mem_of_getElem? hj,fun e=>hh ?_⟩;have cy:=List.pairwise_iff_getElem.1 hn;have h6:(l.map (·.1))[i]? = some a:=by simp[hi]
   have h7:(l.map (·.1))[j]? = some a:=by simp[hj,e]
   obtain⟨c1,c6⟩:=List.getElem?_eq_some_iff.1 h6;obtain⟨c7,df⟩:=List.getElem?_eq_some_iff.1 h7;rcases Nat.lt_trichotomy i j with ho | heq | hz
   ·exact absurd (c6.trans df.symm) (cy i j c1 c7 ho)
   ·exact heq
   ·exact absurd (df.trans c6.symm) (cy j i c7 c1 hz)
 have e2:om w (aS C G1) b2 (ad.filter fun q=>!Nat.beq q.1 c) kf (l.set i (a,none)) O clock ps l2:=by
  refine⟨I.hb,I.st,I.mi.mono fun b o u hu hp=>hle.cell b o u hu hp,by rw[I.ln];simp,fun j p q hp J=>?_,fun a1 a2 x1 x2 m1 m2 m3=>I.inj a1 a2 x1 x2 (a6 m1).1 (a6 m2).1 m3,fun j mm a1 x1 hA hp=>?_⟩
  ·rw[List.getElem?_set] at J
   split at J
   ·rename_i e
    subst e;simp only[Option.some.injEq] at J;subst J;rw[N] at hp;cases hp;exact cx
   ·exact I.ks j p q hp J
  ·have di:=a6 (List.mem_of_getElem? hp)
   have hD:l[j]? = some (a1,some x1):=by
    rw[List.getElem?_set] at hp;split at hp;·simp at hp
    ·exact hp
   obtain⟨t1,t2,e3,T2,t3,t4,t5,t6⟩:=I.at_ j mm a1 x1 hA hD;refine⟨t1,List.mem_filter.2 ⟨t2,?_⟩,e3,T2,t3,t4,t5,fun j u d hu hd=>(t6 j u d hu hd).mono fun b o u hu hp=>hle.cell b o u hu hp⟩
   cases J:Nat.beq (ps (kf a1)) c with
   | false=>rfl
   | true=>have e:=Nat.eq_of_beq_eq_true J;exact absurd (b3.inj _ _ (I.inj a1 a x1 y di.1 (List.mem_of_getElem? hi) (by rw[e,ha]))) di.2
 have dj:=hg.set (d:=s) (Nat.le_of_ble_eq_true fj) (v:=.map (some b2)) (a:=.mq gen (gW kf (l.set i (a,none)))) (.mq _ _ _ (by simp[au]) rfl (fun r hr=>by have:G1.own gen=some r:=hr;rw[hc] at this;cases this;exact e2.to));rw[gM ft] at dj;have a7:∀ Z∈gen::bk lv g,Z∈gen::(gen+1)::bk lv g∧Z≠gen+1:=fun Z M=>by
  rcases List.mem_cons.1 M with rfl | M
  ·exact⟨List.mem_cons_self,by omega⟩
  ·obtain⟨t1,t2⟩:=cK M
   obtain⟨r,hr⟩:=hs.live Z t1;have:=hs.gown Z r hr;simp only at this;exact⟨List.mem_cons_of_mem _ (List.mem_cons_of_mem _ M),by omega⟩
 obtain⟨G2,dt,hE⟩:=dj.ER (g:=gen+1) (b:=c) (len:=1) (cap:=1) (sz:=y.length) hf (es:=[y]) (v:=.slice (some ⟨c,0,none⟩) 1 1) ⟨rfl,rfl,rfl,by simp,fun i j e d he hd=>by
  cases i with
  | zero=>
    simp only[List.getElem?_cons_zero,Option.some.injEq] at he;subst he;have hF:j < cur.size:=by rw[r4];exact(List.getElem?_eq_some_iff.1 hd).1
    have dx:cur[j]? = some cur[j]:=by simp[hF]
    refine⟨cur[j],?_,(r6 j _ d dx hd).mono fun b o u hu hp=>hle.cell b o u hu hp⟩;rw[Nat.zero_mul,Nat.zero_add,bC r3,dx]
  | succ i=>simp at he⟩ (gen::bk lv g) a7
 have hG:uD [y] (1*y.length - 1*y.length)=y.map .d:=by simp[uD]
 rw[hG] at dt;refine bT h0 ⟨_,⟨G2,dt.put (dst:=some d) (bQ (dst:=some d) hd) (.tup _ _ rfl (fun j u x hu hx=>?_))⟩,h⟩
 match j with
 | 0=>
   simp at hu hx;subst hu;subst hx
   cases hE with
   | sb _ _ _ _ b0 hK a8 hL hp=>
   simp only[Value.slice.injEq,Option.some.injEq,Addr.mk.injEq] at hp;refine .ptr _ _ _ c (by show gen+2 < gen+3;omega) ?_ rfl;have a8:G2.box (gen+2)=some b0:=a8;show G2.box (gen+2)=some c;rw[a8,hp.1.1]
 | 1=>simp at hu hx;subst hu;subst hx;exact .d (.v _ rfl)
 | j+2=>simp at hx
end
end Go.Ab
namespace Go.Tb
open Go.Ab
structure bJ where
 id:Int
 name:ByteArray
deriving DecidableEq
@[reducible] def bJ.c (t:bJ):List D:=[ci t.id,cs t.name,ci 0]
def eB (p:Int×Int):List D:=[ci p.1,ci p.2]
def dq:List (Int×Int):=[(0,0)]
@[reducible] def mj (ts:List bJ):List D:=[.sl (ts.map bJ.c),.sl (dq.map eB),.sl []]
def FE (ts:List bJ):Prop:=(∀ t∈ts,0≤t.id∧t.id≤1000000000000000∧cd t.name=0)∧(ts.map bJ.id).Nodup
structure aW where
 thread:Int
 serial:Int
 lost:Int
 evs:List Ev
@[reducible] def aW.c (p:aW):List D:=[ci p.thread,ci p.serial,ci p.lost,.sl (p.evs.map Ev.c)]
theorem rL {α β:Type} {f:α→β} {l:List α} (h:(l.map f).Nodup) (k:Nat):((l.take k).map f).Nodup:=by rw[List.map_take];exact h.sublist (List.take_sublist _ _)
theorem mZ {α β:Type} {f:α→β} {l:List α} (h:(l.map f).Nodup) {k:Nat} {x:α} (X:l[k]? = some x):f x∉(l.take k).map f:=by
 intro hm;obtain⟨y,Z,e⟩:=List.mem_map.1 hm;obtain⟨i,hi⟩:=List.mem_iff_getElem?.1 Z;have I:i < k:=by have:=(List.getElem?_eq_some_iff.1 hi).1;simp at this;omega
 rw[List.getElem?_take_of_lt I] at hi;have J:=List.pairwise_iff_getElem.1 h;have h6:(l.map f)[i]? = some (f y):=by simp[hi]
 have h7:(l.map f)[k]? = some (f x):=by simp[X]
 obtain⟨M,N⟩:=List.getElem?_eq_some_iff.1 h6;obtain⟨O,U⟩:=List.getElem?_eq_some_iff.1 h7;exact J i k M O I (by rw[N,U,e])
abbrev zp (b:Bool):D:=.v (.bool b)
def iq {α:Type} (l:List (α)) (f:α→Int):List (Int×Bool):=l.map fun t=>(f t,true)
theorem mA {α:Type} (l:List α) (f:α→Int):(iq l f).map (·.1)=l.map f:=by unfold iq;rw[List.map_map];rfl
end Go.Tb
namespace Go.Tb
open Go.Ab
@[reducible] def z2:List D:=[ci 0,ci 0]
def tq (ids:List Int) (k:Nat):List (Int×Option (List D)):=(ids.take k).map (fun a=>(a,none))++(ids.drop k).map (fun a=>(a,some z2))
def oy (ids:List Int) (k:Nat):List (Int×Option (List D)):=(ids.take k).map (fun a=>(a,some z2))
theorem wa (ids:List Int) (k:Nat):(oy ids k).map (·.1)=ids.take k:=by unfold oy;rw[List.map_map];exact List.map_id _
theorem A3 {ids:List Int} {k:Nat} {a:Int} (h:ids[k]? = some a):oy ids k++[(a,some z2)]=oy ids (k+1):=by unfold oy;rw[List.take_add_one,h,List.map_append];rfl
theorem Cs {ids:List Int} {k:Nat} (h:k=ids.length):oy ids k=tq ids 0:=by subst h;unfold oy tq;rw[List.take_length,List.take_zero,List.drop_zero];rfl
theorem nF {l:List Int} (h:l.Nodup) {k:Nat} {x:Int} (I:l[k]? = some x):x∉l.take k:=by have:=mZ (f:=id) (by rw[List.map_id];exact h) I;rwa [List.map_id] at this
end Go.Tb
namespace Go.Ab
open Go.RowKit
section
variable {P:Program} {C:Ctx} {n:Nat} {f:List (Nat×A)} {bx:List (Nat×List A)} {lv:List Nat} {gen:Nat} {ty:TypeId} {pos:String} {af:Array Edge} {dst:Option Nat}
theorem yN {x:Operand} {g j off:Nat} {l:List D} (X:av f x=some (.xp g j off l)) (N:(lv.any fun h=>Nat.beq h g)=true) :
 Pu P C n ⟨f,bx,lv,gen⟩ ⟨dst,.nilCheck x,ty,pos,af,none⟩ (.xp g j off l):=by
 refine dG.pu fun G tmps w hs=>?_;have J:=hs.av X;obtain⟨r,O⟩:=hs.live g (cM N);generalize Z:Act.eval ⟨tmps,[]⟩ x=v at J;have U:=J
 cases J with
 | xp _ _ _ _ _ ad h1 M=>
 have I:=M r O
 cases r with
 | nil=>exact I.elim
 | zero b=>exact I.elim
 | mp b bs=>exact I.elim
 | blk b len cap sz ai=>obtain⟨rfl,h2,h3,h4⟩:=I;refine⟨.pointer (some ⟨b,j*sz+off,none⟩),?_,U⟩;unfold execOp;show Sem.run P _ w=.ok _ w;simp only[Z,Sem.run_bind,Result.andThen_ok,Sem.run_pure]
end
end Go.Ab
namespace Go.Tb
open Go.Ab
def Ch (l:List Ev):Nat→List Ev | 0=>l | _=>[]
def FL (l:List Ev):Nat→D | 0=>.v (.slice none 0 0) | _=>.sl (l.map Ev.c)
def xY (last:Option Int) (t:Int):Bool:=match last with | some u=>decide (t < u) | none=>false
def iz:List Ev→Option Int→Int
 | [],_=>0
 | e::r,last=>if cn e≠0 then cn e else if xY last e.time=true then 11 else iz r (some e.time)
def eH:List aW→Int
 | []=>0
 | p::r=>if iz p.evs none≠0 then iz p.evs none else eH r
structure iF where
 ts:List bJ
 ds:List (Int×Int)
 ps:List aW
@[reducible] def iF.c (l:iF):List D:=[.sl (l.ts.map bJ.c),.sl (l.ds.map eB),.sl [],.sl (l.ps.map aW.c)]
def jr:iF:=⟨[],[],[]⟩
end Go.Tb
namespace Go.Tb
open Go.Ab
structure Gl where
 l:iF
 n:Nat
 e:Int
/-! what a line that is accepted holds -/
/-! the events thread by thread -/
def xX (x:sJ):Prop:=x.2.map (·.1)=x.1∧x.1.Nodup∧∀ p∈x.2,p.2≠[]
theorem AF {l:List (Int×List Ev)} {a:Int} {y:List Ev} {p:Int×List Ev} (hp:p∈cr l a y):p=(a,y)∨p∈l:=by
 induction l with
 | nil=>simp[cr] at hp;exact .inl hp
 | cons q r I=>
   simp only[cr] at hp;split at hp
   ·rcases List.mem_cons.1 hp with h | h
    ·exact .inl h
    ·exact .inr (List.mem_cons_of_mem _ h)
   ·rcases List.mem_cons.1 hp with h | h
    ·exact .inr (h▸List.mem_cons_self)
    ·exact(I h).imp id (List.mem_cons_of_mem _)
theorem Bq {l:List (Int×List Ev)} {a:Int} {y:List Ev}:(cr l a y).map (·.1)=if a∈l.map (·.1) then l.map (·.1) else l.map (·.1)++[a]:=by
 induction l with
 | nil=>simp[cr]
 | cons p r I=>
   simp only[cr];by_cases h:p.1=a
   ·rw[if_pos h,if_pos (by simp[h])]
    simp[h]
   ·rw[if_neg h,List.map_cons,I]
    by_cases q:a∈r.map (·.1);·rw[if_pos q,if_pos (by rw[List.map_cons];exact List.mem_cons_of_mem _ q)];rfl
    ·rw[if_neg q,if_neg (by rw[List.map_cons,List.mem_cons];rintro(e | e);exact h e.symm;exact q e)];rfl
theorem xO {l:List (Int×List Ev)} (h:∀ p∈l,p.2≠[]) (a:Int):(bO l a).getD []=[]↔a∉l.map (·.1):=by
 induction l with
 | nil=>simp[jk]
 | cons p r I=>
   rw[eE,List.map_cons,List.mem_cons];by_cases q:p.1=a
   ·rw[if_pos q]
    have:=h p List.mem_cons_self;simp[this,q]
   ·rw[if_neg q,I (fun p hp=>h p (List.mem_cons_of_mem _ hp))]
    constructor
    ·rintro h1 (e | e)
     ·exact q e.symm
     ·exact h1 e
    ·exact fun h1 e=>h1 (.inr e)
theorem xX.add {x:sJ} (h:xX x) (I:Int) (e:Ev):xX (yc x I e):=by
 obtain⟨h1,h2,h3⟩:=h;unfold yc;split;·exact⟨h1,h2,h3⟩
 ·have hm:=xO h3 I
  refine⟨?_,?_,fun p hp=>?_⟩
  ·simp only
   rw[Bq,h1];by_cases q:(bO x.2 I).getD []=[];·rw[if_neg (by rw[←h1];exact hm.1 q),if_pos q]
   ·rw[if_pos (Decidable.byContradiction fun q2=>q (hm.2 (by rw[h1];exact q2))),if_neg q]
  ·simp only
   split
   ·rename_i q
    have:=hm.1 q;rw[h1] at this;rw[List.nodup_append];exact⟨h2,by simp,fun a J b hb=>by simp at hb;subst hb;rintro rfl;exact this J⟩
   ·exact h2
  ·rcases AF hp with rfl | hp
   ·simp
   ·exact h3 p hp
def jm (m:List (Int×List Ev)):Nat:=(m.map fun p=>p.2.length).sum
end Go.Tb
namespace Go.Tb
open Go.Ab
structure eV where
 ids:List Int
 names:List (Int×ByteArray)
 evs:List (Int×List Ev)
def dK (ids:List Int) (id:Int):List Int:=if (ids.any fun x=>decide (id=x))=true then ids else ids++[id]
def sv (x:eV) (id:Int) (e:Ev):eV:=⟨dK x.ids id,x.names,cr x.evs id ((bO x.evs id).getD []++[e])⟩
def EZ (x:eV) (id:Int) (name:ByteArray):eV:=⟨dK x.ids id,cr x.names id name,x.evs⟩
def pt:List ByteArray:=[cN,bq,bg]
def dk (x:eV) (j:JV):eV×Int:=
 if bD j (bM j)=true then (x,10)
 else if (bc j cN 4).s≠pM then (if (bm j).2.2=0 then (sv x (bm j).1 (bm j).2.1,0) else (x,(bm j).2.2))
 else if (bif (bD j (bM j) || dp j bg 4) then true else !fq j pt)=true then (x,10)
 else if cd (bc j bg 4).s≠0 then (x,cd (bc j bg 4).s)
 else if (bO x.names (bc j bq 3).n).getD aY≠aY then (x,4)
 else (EZ x (bc j bq 3).n (bc j bg 4).s,0)
def sN (n:Nat) (x:eV):Prop:=(x.names.map (·.1)).Nodup∧(x.evs.map (·.1)).Nodup∧x.ids.length≤n∧∀ p∈x.evs,p.2.length≤n
end Go.Tb
namespace Go.Tb
open Go.Ab
def lH (t:bJ):Int:=if t.id < 0∨1000000000000000 < t.id then 2 else cd t.name
def mW:List bJ→List Int→Int
 | [],_=>0
 | t::r,seen=>if lH t≠0 then lH t else if (seen.any fun x=>decide (x=t.id))=true then 4 else mW r (seen++[t.id])
def fb (ts:List bJ):Int:=if ts=[] then 8 else if 64 < ts.length then 7 else mW ts []
theorem ur:∀ (ts:List bJ) (seen:List Int),mW ts seen=0→seen.Nodup→(∀ t∈ts,0≤t.id∧t.id≤1000000000000000∧cd t.name=0)∧(seen++ts.map bJ.id).Nodup
 | [],seen,_,hn=>⟨by simp,by simpa using hn⟩
 | t::r,seen,h,hn=>by
   simp only[mW] at h;split at h;·rename_i q;exact absurd h q
   ·rename_i q
    split at h;·cases h
    ·rename_i q2
     have hm:t.id∉seen:=by simpa using q2
     obtain⟨h1,h2⟩:=ur r (seen++[t.id]) h (by rw[List.nodup_append];exact⟨hn,by simp,fun a J b hb=>by simp at hb;subst hb;rintro rfl;exact hm J⟩);refine⟨fun x I=>?_,by simpa using h2⟩;rcases List.mem_cons.1 I with rfl | I
     ·have q:lH x=0:=by simpa using q
      unfold lH at q;split at q;·cases q
      ·omega
     ·exact h1 x I
theorem qo {ts:List bJ} (h:fb ts=0):FE ts∧ts≠[]∧ts.length≤64:=by
 unfold fb at h;split at h;·cases h
 ·rename_i q
  split at h;·cases h
  ·obtain⟨h1,h2⟩:=ur ts [] h List.nodup_nil
   exact⟨⟨h1,by simpa using h2⟩,q,by omega⟩
def rG (ts:List bJ) (ps:List aW):Prop:=(ps.map aW.thread).Sublist (ts.map bJ.id)∧(∀ p∈ps,p.serial=0∧p.lost=0∧0 < p.evs.length∧p.evs.length≤1000)∧(ps.map fun p=>p.evs.length).sum≤20000
def cQ (ts:List bJ) (ps:List aW):iF×Int:=if fb ts≠0 then (jr,fb ts) else if eH ps≠0 then (jr,eH ps) else (⟨ts,dq,ps⟩,0)
theorem sW {α:Type} {f:α→Int}:∀ (l:List α) (a:Int),(bO (iq l f) a).getD false=(l.map f).any fun x=>decide (x=a)
 | [],a=>rfl
 | x::r,a=>by
   show(bO ((f x,true)::iq r f) a).getD false=_;rw[eE];by_cases e:f x=a;·simp[e]
   ·rw[if_neg e,sW r a];simp[e]
theorem B0 {α:Type} {f:α→Int} {l:List α} {k:Nat} {x:α} (hm:¬ ((l.take k).map f).any (fun y=>decide (y=f x))=true) (I:l[k]? = some x):cr (iq (l.take k) f) (f x) true=iq (l.take (k+1)) f:=by
 rw[iu]
 ·unfold iq
  rw[List.take_add_one,I,List.map_append];rfl
 ·intro p hp e
  apply hm;rw[List.any_eq_true];have:p.1∈(iq (l.take k) f).map (·.1):=List.mem_map.2 ⟨p,hp,rfl⟩;rw[mA] at this;exact⟨p.1,this,by simpa using e⟩
/-! the map of the threads' ends, when some packets were read -/
def l7 (ids us:List Int):List (Int×Option (List D)):=ids.map fun a=>(a,if a∈us then none else some z2)
theorem BW (ids us:List Int):(l7 ids us).map (·.1)=ids:=by unfold l7;rw[List.map_map];exact List.map_id _
theorem Dn (ids:List Int):l7 ids []=tq ids 0:=by unfold l7 tq;simp
theorem C0 {ids us:List Int} {i:Nat} {a:Int} (h:ids[i]? = some a) (hu:a∉us):(l7 ids us)[i]? = some (a,some z2):=by unfold l7;rw[List.getElem?_map,h];show some (a,if a∈us then none else some z2)=_;rw[if_neg hu]
theorem Dk {ids us:List Int} {i:Nat} {a:Int} (I:ids.Nodup) (h:ids[i]? = some a):(l7 ids us).set i (a,none)=l7 ids (us++[a]):=by
 have hi:=(List.getElem?_eq_some_iff.1 h).1;refine List.ext_getElem? fun k=>?_;rw[List.getElem?_set];unfold l7;simp only[List.getElem?_map,List.length_map];by_cases e:i=k
 ·subst e
  rw[if_pos rfl,if_pos hi,h];show _=some (a,if a∈us++[a] then none else some z2);rw[if_pos (by simp)]
 ·rw[if_neg e]
  cases hk:ids[k]? with
  | none=>rfl
  | some b=>
    have hb:b≠a:=by
     rintro rfl;rcases Nat.lt_trichotomy i k with q | q | q
     ·exact nF I hk (List.mem_iff_getElem?.2 ⟨i,by rw[List.getElem?_take_of_lt q,h]⟩)
     ·exact e q
     ·exact nF I h (List.mem_iff_getElem?.2 ⟨k,by rw[List.getElem?_take_of_lt q,hk]⟩)
    show some (b,if b∈us then none else some z2)=some (b,if b∈us++[a] then none else some z2);simp[hb]
/-! the parts, thread by thread -/
def lP (ts:List bJ) (ps:List aW):List aW:=ts.flatMap fun t=>(ps.find? fun p=>decide (p.thread=t.id)).toList
theorem BA {ts:List bJ} (ps:List aW) {n:Nat} (h:ts.length≤n):(lP ts ps).length≤n:=by
 refine Nat.le_trans ?_ h;unfold lP
 induction ts with
 | nil=>simp
 | cons t r I=>
   rw[List.flatMap_cons,List.length_append,List.length_cons];have:=I (by simp at h;omega);have h1:((ps.find? fun p=>decide (p.thread=t.id)).toList).length≤1:=by cases ps.find? _ <;> simp
   omega
theorem mv:∀ {ts:List bJ} {ps:List aW},(ps.map aW.thread).Sublist (ts.map bJ.id)→(ts.map bJ.id).Nodup→lP ts ps=ps
  | [],ps,h,_=>by
    have:ps=[]:=by simpa using h
    subst this;rfl
  | t::r,ps,h,hn=>by
    rw[List.map_cons,List.nodup_cons] at hn
    have key:∀ (q:List aW) (p:aW),p.thread=t.id→lP r (p::q)=lP r q:=by
      intro q p hp
      unfold lP
      rw[List.flatMap_def,List.flatMap_def]
      congr 1
      refine List.map_congr_left fun x hx=>?_
      congr 1
      rw[List.find?_cons_of_neg]
      simp only[decide_eq_true_eq]
      rintro e
      exact hn.1 (by rw[←hp,e];exact List.mem_map.2 ⟨x,hx,rfl⟩)
    show(ps.find? fun p=>decide (p.thread=t.id)).toList++lP r ps=ps
    match ps,h with
    | [],_=>exact mv (ts:=r) (ps:=[]) (List.nil_sublist _) hn.2
    | p::q,h=>
      rw[List.map_cons,List.map_cons] at h
      by_cases e:p.thread=t.id
      · have h2:(q.map aW.thread).Sublist (r.map bJ.id):=by
          rw[e] at h
          exact List.cons_sublist_cons.1 h
        rw[List.find?_cons_of_pos (by simpa using e),key q p e,mv h2 hn.2]
        rfl
      · have h2:((p::q).map aW.thread).Sublist (r.map bJ.id):=by
          rcases List.sublist_cons_iff.1 h with h | ⟨x,hx,_⟩
          · exact h
          · exact absurd (List.cons.inj hx).1 e
        rw[mv h2 hn.2]
        rw[List.find?_eq_none.2]
        · rfl
        · intro x hx
          simp only[decide_eq_true_eq]
          rintro e2
          exact hn.1 (by rw[←e2];exact h2.subset (List.mem_map.2 ⟨x,hx,rfl⟩))
end Go.Tb
namespace Go.Tb
open Go.Ab
def cG:List JV→eV→eV×Int
 | [],x=>(x,0)
 | j::r,x=>if (dk x j).2≠0 then (x,(dk x j).2) else cG r (dk x j).1
def nameOf (l:List (Int×ByteArray)) (id:Int):ByteArray:=if (bO l id).getD aY=aY then B #[116]++cT id else (bO l id).getD aY
def iw (x:eV) (id:Int):bJ:=⟨id,nameOf x.names id⟩
def dy (x:eV) (id:Int):List aW:=if (bO x.evs id).getD []=[] then [] else [⟨id,0,0,(bO x.evs id).getD []⟩]
def x0:eV:=⟨[],[],[]⟩
def gF (s:ByteArray):iF×Int:=
 if 65536 < s.size then (jr,7)
 else match cR (ah s) with
  | .no _ e=>(jr,e)
  | .ok v _=>if v.op≠5 then (jr,10) else if (cG v.kids x0).2≠0 then (jr,(cG v.kids x0).2)
    else cQ ((cG v.kids x0).1.ids.map (iw (cG v.kids x0).1)) ((cG v.kids x0).1.ids.flatMap (dy (cG v.kids x0).1))
structure uc (v:JV):Prop where
 len:v.kids.length≤100000
 kids:∀ k∈v.kids,uR k
 tids:∀ k∈v.kids,(bc k bq 3).n≤1000000000000000
 evs:(cG v.kids x0).2=0→(((cG v.kids x0).1.ids.flatMap (dy (cG v.kids x0).1)).map fun p=>p.evs.length).sum≤1000
theorem BG {l:List (Int×List Ev)} {a:Int} {y:List Ev} {p:Int×List Ev} (hp:p∈cr l a y):p=(a,y)∨p∈l:=by
 induction l with
 | nil=>simp[cr] at hp;exact .inl hp
 | cons q r I=>
   simp only[cr] at hp;split at hp
   ·rcases List.mem_cons.1 hp with h | h
    ·exact .inl h
    ·exact .inr (List.mem_cons_of_mem _ h)
   ·rcases List.mem_cons.1 hp with h | h
    ·exact .inr (h▸List.mem_cons_self)
    ·exact(I h).imp id (List.mem_cons_of_mem _)
theorem pV (l:List Int) (id:Int):(dK l id).length≤l.length+1:=by unfold dK;split <;> simp
theorem nA {l:List Int} (h:l.Nodup) (id:Int):(dK l id).Nodup:=by
 unfold dK;split;·exact h
 ·rename_i q
  rw[List.nodup_append];refine⟨h,by simp,fun a I b hb=>?_⟩;simp at hb;subst hb;rintro rfl;exact q (List.any_eq_true.2 ⟨_,I,by simp⟩)
theorem wG {l:List Int} {id a:Int} (h:a∈dK l id):a∈l∨a=id:=by
 unfold dK at h;split at h;·exact .inl h
 ·rcases List.mem_append.1 h with h | h
  ·exact .inl h
  ·exact .inr (by simpa using h)
theorem AW {n:Nat} {x:eV} (h:sN n x) (j:JV):sN (n+1) (dk x j).1:=by
 obtain⟨h1,h2,h3,h4⟩:=h;have same:sN (n+1) x:=⟨h1,h2,by omega,fun p hp=>Nat.le_succ_of_le (h4 p hp)⟩;unfold dk;split;·exact same
 split
 ·split
  ·refine⟨h1,mT h2 _ _,Nat.le_trans (pV _ _) (by omega),fun p hp=>?_⟩
   rcases BG hp with rfl | hp
   ·show(_++[_]).length≤_
    rw[List.length_append];have:((bO x.evs (bm j).1).getD []).length≤n:=by
     unfold bO
     cases q:x.evs.find? fun p=>decide (p.1=(bm j).1) with
     | none=>simp
     | some p=>simpa [q] using h4 p (List.mem_of_find?_eq_some q)
    simp;omega
   ·exact Nat.le_succ_of_le (h4 p hp)
  ·exact same
 split;·exact same
 split;·exact same
 split;·exact same
 ·exact⟨mT h1 _ _,h2,Nat.le_trans (pV _ _) (by omega),fun p hp=>Nat.le_succ_of_le (h4 p hp)⟩
def EX (x:eV):Prop:=x.ids.Nodup∧∀ a∈x.ids,0≤a∧a≤1000000000000000
theorem sP {j:JV} (h:(bm j).2.2=0):bD j (bM j)=false∧(bm j).1=(bc j bq 3).n:=by
 unfold bm at h ⊢;split at h;·rename_i q;exact absurd h q
 ·rename_i q
  rw[if_neg q]
  cases hb:bD j (bM j) with
  | true=>rw[hb] at h;cases h
  | false=>
    rw[hb] at h;refine⟨rfl,?_⟩;simp only[Bool.false_eq_true,if_false] at h ⊢
    cases I:iP (bc j cN 4).s with
    | none=>rw[I] at h;cases h
    | some f=>
      rw[I] at h;dsimp only at h ⊢;split at h;·cases h
      ·rename_i q2
       rw[if_neg q2];split at h;·rename_i q3;exact absurd h q3
       ·rename_i q3;rw[if_neg q3]
theorem AA {j:JV} (h:bD j (bM j)=false):0≤(bc j bq 3).n:=by unfold bD at h;simp only[Bool.or_eq_false_iff,decide_eq_false_iff_not] at h;omega
theorem A9 {x:eV} (h:EX x) {j:JV} (hj:(bc j bq 3).n≤1000000000000000):EX (dk x j).1:=by
 obtain⟨h1,h2⟩:=h;have add:∀ (id:Int),0≤id→id≤1000000000000000→(dK x.ids id).Nodup∧∀ a∈dK x.ids id,0≤a∧a≤1000000000000000:=fun id q1 q2=>⟨nA h1 id,fun a I=>(wG I).elim (h2 a) (fun e=>e▸⟨q1,q2⟩)⟩;unfold dk
 cases hb:bD j (bM j) with
 | true=>exact⟨h1,h2⟩
 | false=>
   have h0:=AA hb;rw[if_neg (by simp)];split
   ·split
    ·rename_i q
     have:=(sP q).2;exact add _ (by omega) (by omega)
    ·exact⟨h1,h2⟩
   split;·exact⟨h1,h2⟩
   split;·exact⟨h1,h2⟩
   split;·exact⟨h1,h2⟩
   ·exact add _ h0 hj
theorem xA (x:eV):∀ ids:List Int,((ids.flatMap (dy x)).map aW.thread).Sublist ((ids.map (iw x)).map bJ.id)
 | []=>by simp
 | id::r=>by
   rw[List.flatMap_cons,List.map_append,List.map_cons,List.map_cons];have h:=xA x r;unfold dy at h ⊢;split;·exact List.Sublist.cons _ h
   ·exact List.Sublist.cons_cons _ h
theorem nf (x:eV) (l:List Int) {n:Nat} (h:l.length≤n):(l.flatMap (dy x)).length≤n:=by
 refine Nat.le_trans ?_ h;clear h
 induction l with
 | nil=>simp
 | cons a r I=>
   rw[List.flatMap_cons,List.length_append,List.length_cons];have:(dy x a).length≤1:=by unfold dy;split <;> simp
   omega
theorem CU {x:eV} {id:Int} {p:aW} (h:p∈dy x id):p.serial=0∧p.lost=0∧0 < p.evs.length:=by
 unfold dy at h;split at h;·cases h
 ·rename_i q
  have:p=⟨id,0,0,(bO x.evs id).getD []⟩:=by simpa using h
  subst this;exact⟨rfl,rfl,List.length_pos_iff.2 q⟩
theorem xu {l:List aW} {p:aW} (h:p∈l):p.evs.length≤(l.map fun p=>p.evs.length).sum:=by
 induction l with
 | nil=>cases h
 | cons q r I=>
   rw[List.map_cons,List.sum_cons];rcases List.mem_cons.1 h with rfl | h
   ·omega
   ·have:=I h;omega
theorem Ef {x:eV} (hs:((x.ids.flatMap (dy x)).map fun p=>p.evs.length).sum≤1000):rG (x.ids.map (iw x)) (x.ids.flatMap (dy x)):=by refine⟨xA x x.ids,fun p hp=>?_,by omega⟩;obtain⟨id,_,h⟩:=List.mem_flatMap.1 hp;obtain⟨a,b,c⟩:=CU h;exact⟨a,b,c,Nat.le_trans (xu hp) hs⟩
end Go.Tb
namespace Go.Tb
open Go.Ab
def eG {α:Type} (p:α→α→Bool):List α→List α→Bool
 | [],[]=>true
 | x::r,y::s=>p x y && eG p r s
 | _,_=>false
theorem qD {α:Type} {p:α→α→Bool}:∀ {l m:List α},eG p l m=true→l.length=m.length
 | [],[],_=>rfl
 | x::r,y::s,h=>by simp only[eG,Bool.and_eq_true] at h;simp[qD h.2]
 | [],_::_,h=>by cases h
 | _::_,[],h=>by cases h
theorem qy {α:Type} {p:α→α→Bool} (hp:∀ x y,p x y=true↔x=y):∀ {l m:List α},eG p l m=true↔l=m
 | [],[]=>by simp[eG]
 | x::r,y::s=>by simp[eG,hp,qy hp (l:=r) (m:=s)]
 | [],_::_=>by simp[eG]
 | _::_,[]=>by simp[eG]
def tX (a b:Ev):Bool:=decide (a.time=b.time) && decide (a.kind=b.kind) && decide (a.name=b.name) && decide (a.n=b.n) && decide (a.m=b.m) && decide (a.stack=b.stack)
theorem zX (a b:Ev):tX a b=true↔a=b:=by
 cases a;cases b;simp only[tX,Bool.and_eq_true,decide_eq_true_eq,Ev.mk.injEq];constructor;·rintro⟨⟨⟨⟨⟨h1,h2⟩,h3⟩,h4⟩,h5⟩,I⟩;exact⟨h1,h2,h3,h4,h5,I⟩
 ·rintro⟨h1,h2,h3,h4,h5,I⟩;exact⟨⟨⟨⟨⟨h1,h2⟩,h3⟩,h4⟩,h5⟩,I⟩
def kB (p q:aW):Bool:=decide (p.thread=q.thread) && decide (p.serial=q.serial) && decide (p.lost=q.lost) && eG tX p.evs q.evs
theorem yl (p q:aW):kB p q=true↔p=q:=by
 cases p;cases q;simp only[kB,Bool.and_eq_true,decide_eq_true_eq,aW.mk.injEq,qy zX];constructor;·rintro⟨⟨⟨h1,h2⟩,h3⟩,h4⟩;exact⟨h1,h2,h3,h4⟩
 ·rintro⟨h1,h2,h3,h4⟩;exact⟨⟨⟨h1,h2⟩,h3⟩,h4⟩
def oL (a b:iF):Bool:=decide (a.ts=b.ts) && decide (a.ds=b.ds) && eG kB a.ps b.ps
theorem mC (a b:iF):oL a b=true↔a=b:=by
 cases a;cases b;simp only[oL,Bool.and_eq_true,decide_eq_true_eq,iF.mk.injEq,qy yl];constructor;·rintro⟨⟨h1,h2⟩,h3⟩;exact⟨h1,h2,h3⟩
 ·rintro⟨h1,h2,h3⟩;exact⟨⟨h1,h2⟩,h3⟩
end Go.Tb
namespace Go.Ab
end Go.Ab
namespace Go.Tb
open Go.Ab
abbrev bv (b:Bool):D:=.v (.bool b)
def fc (l:List ByteArray):List (ByteArray×Bool):=l.map fun s=>(s,true)
theorem iO (l:List ByteArray):(fc l).map (·.1)=l:=by unfold fc;rw[List.map_map];exact List.map_id' l
theorem tz {l:List ByteArray} (M:l.Nodup) (s:ByteArray):(bO (fc l) s).getD false=l.any (fun x=>decide (x=s)):=by
 cases h:l.any (fun x=>decide (x=s)) with
 | true=>obtain⟨x,I,he⟩:=List.any_eq_true.1 h;have he:x=s:=of_decide_eq_true he;subst he;obtain⟨j,hj⟩:=List.mem_iff_getElem?.1 I;have:=xB (l:=fc l) (by rw[iO];exact M) (j:=j) (p:=(x,true)) (by unfold fc;rw[List.getElem?_map,hj];rfl);rw[this];rfl
 | false=>
   have J:∀ p∈fc l,p.1≠s:=fun p hp he=>by obtain⟨x,I,rfl⟩:=List.mem_map.1 hp;have:=List.any_eq_false.1 h x I;simp at this;exact this he
   rw[qq J];rfl
theorem sM {l:List ByteArray} {s:ByteArray} (h:l.any (fun x=>decide (x=s))=false):cr (fc l) s true=fc (l++[s]):=by
 rw[iu fun p hp he=>by obtain⟨x,I,rfl⟩:=List.mem_map.1 hp;have:=List.any_eq_false.1 h x I;simp at this;exact this he];simp[fc]
theorem rk {l:List ByteArray} {s:ByteArray} (J:l.Nodup) (h:l.any (fun x=>decide (x=s))=false):(l++[s]).Nodup:=by rw[List.nodup_append];refine⟨J,by simp,fun x M y I=>?_⟩;have:=List.any_eq_false.1 h x M;simp at I this;rw[I];exact this
end Go.Tb
