import Derived.Test.YtjenenllmjlimaaGreatQ2
import Derived.Laws.MakeOwn
import Derived.Laws.Slices
namespace Go.Tb
open Go.Ab
theorem fV {cols:List Col} {s:ByteArray} {c:Col} (h:aY cols s=some c):∃ i,dp cols s=some i∧cols[i]? = some c∧c.name=s:=by
  unfold aY at h
  rw[List.find?_eq_some_iff_getElem] at h
  obtain⟨hp,i,hi,hc,hmin⟩:=h
  refine⟨i,?_,by rw[←hc];simp,of_decide_eq_true hp⟩
  unfold dp
  rw[List.findIdx?_eq_some_iff_getElem]
  exact⟨hi,by rw[hc];exact hp,fun j hj=>by have:=hmin j hj;simpa using this⟩
theorem fJ {cols:List Col} {s:ByteArray} (h:cn cols s=0):∃ i c,dp cols s=some i∧cols[i]? = some c∧c.type=2:=by
  unfold cn at h
  cases hf:aY cols s with
  | none=>rw[hf] at h;exact absurd h (by decide)
  | some c=>
    rw[hf] at h
    obtain⟨i,h1,h2,_⟩:=fV hf
    refine⟨i,c,h1,h2,?_⟩
    by_cases q:c.type=2
    · exact q
    · simp[q] at h
theorem ia {cols:List Col}:∀ {l:List ByteArray},cZ cols l=0→∀ s∈l,∃ i c,dp cols s=some i∧cols[i]? = some c∧c.type=2
  | [],_,s,hs=>by cases hs
  | x::r,h,s,hs=>by
    simp only[cZ] at h
    split at h
    · rename_i h1;exact absurd h h1
    · rename_i h1
      rcases List.mem_cons.1 hs with rfl | hs
      · exact fJ (by simpa using h1)
      · exact ia h s hs
theorem mM {a b:List Col}:∀ {l:List ByteArray},ew a b l=0→∀ s∈l,∃ i j c d,dp a s=some i∧dp b s=some j∧a[i]? = some c∧b[j]? = some d∧c.type=d.type
  | [],_,s,hs=>by cases hs
  | x::r,h,s,hs=>by
    simp only[ew] at h
    cases h1:aY a x with
    | none=>rw[h1] at h;cases h
    | some c=>
      cases h2:aY b x with
      | none=>rw[h1,h2] at h;cases h
      | some d=>
        rw[h1,h2] at h
        dsimp only at h
        split at h
        · cases h
        · rename_i h3
          rcases List.mem_cons.1 hs with rfl | hs
          · obtain⟨i,p1,p2,_⟩:=fV h1
            obtain⟨j,q1,q2,_⟩:=fV h2
            exact⟨i,j,c,d,p1,q1,p2,q2,by simpa using h3⟩
          · exact mM h s hs
theorem qR {cols:List Col}:∀ {l:List ByteArray} {out:List Col},(bA cols out l).2=0→∀ s∈l,∃ i c,dp cols s=some i∧cols[i]? = some c
  | [],_,_,s,hs=>by cases hs
  | x::r,out,h,s,hs=>by
    simp only[bA] at h
    cases h1:aY cols x with
    | none=>rw[h1] at h;cases h
    | some c=>
      rw[h1] at h
      rcases List.mem_cons.1 hs with rfl | hs
      · obtain⟨i,p1,p2,_⟩:=fV h1
        exact⟨i,c,p1,p2⟩
      · exact qR h s hs
theorem j7 {l:List ByteArray} {m:Int} (h:cU l m=0):l.length≤16:=by
  unfold cU at h
  split at h
  · rename_i h1;exact absurd h h1
  · rename_i h1
    unfold du at h1
    split at h1
    · simp at h1
    · split at h1
      · simp at h1
      · omega
theorem yK {op:Int} (hop:op=7∨op=8) {on:List ByteArray} {a b:bo} (h:(eL op on a b).2=0):x8 a b on (aM op):=by
  unfold eL at h
  split at h
  · rename_i h1;exact absurd h h1
  · rename_i h1
    split at h
    · rename_i h2;exact absurd h h2
    · rename_i h2
      have hn:op≠1∧op≠2∧op≠3∧op≠4∧op≠9∧op≠5∧op≠6:=by omega
      unfold dy at h
      split at h
      · rename_i h3;exact absurd h h3
      · rename_i h3
        have h3:bZ (cG op on wB)=0:=by simpa using h3
        have e:(cG op on wB).op=op:=rfl
        rw[e,if_neg hn.1,if_neg hn.2.1,if_neg hn.2.2.1,if_neg hn.2.2.2.1,if_neg hn.2.2.2.2.1,if_pos (by omega)] at h
        have hf:dk [⟨wB,b⟩] (cG op on wB).table=some b:=by
          show dk [⟨wB,b⟩] wB=some b
          simp[dk]
        unfold gF at h
        rw[hf] at h
        dsimp only at h
        unfold kF at h
        rw[e,show(cG op on wB).cols=on from rfl] at h
        split at h
        · cases h
        · split at h
          · rename_i h4;exact absurd h h4
          · rename_i h4
            split at h
            · rename_i h5;exact absurd h h5
            · rename_i h5
              split at h
              · rename_i h6;exact absurd h h6
              · rename_i h6
                refine⟨by simpa using h1,by simpa using h2,mM (by simpa using h4),ia (by simpa using h5),ia (by simpa using h6),?_⟩
                unfold bZ at h3
                split at h3
                · cases h3
                · rw[e,if_neg hn.1,if_neg hn.2.1,if_neg hn.2.2.1,if_neg hn.2.2.2.1,if_neg hn.2.2.2.2.2.1,if_neg hn.2.2.2.2.1] at h3
                  split at h3
                  · cases h3
                  · exact j7 h3
structure yO (a:bo) (on:List ByteArray):Prop where
  ga:bj a=0
  ons:∀ s∈on,∃ i c,dp a.cols s=some i∧a.cols[i]? = some c
  fr:∃ i c,dp a.cols aP=some i∧a.cols[i]? = some c∧c.type=2
  to:∃ i c,dp a.cols bp=some i∧a.cols[i]? = some c∧c.type=2
  len:on.length≤16
theorem yU {on:List ByteArray} {a:bo} (h:(dY 9 on a).2=0):yO a on:=by
  unfold dY at h
  split at h
  · rename_i h1;exact absurd h h1
  · rename_i h1
    unfold dy at h
    split at h
    · rename_i h3;exact absurd h h3
    · rename_i h3
      have h3:bZ (cG 9 on (B #[]))=0:=by simpa using h3
      have e:(cG 9 on (B #[])).op=9:=rfl
      rw[e,if_neg (by decide),if_neg (by decide),if_neg (by decide),if_neg (by decide),if_pos rfl] at h
      unfold ff at h
      rw[show(cG 9 on (B #[])).cols=on from rfl] at h
      split at h
      · cases h
      · split at h
        · rename_i h4;exact absurd h h4
        · rename_i h4
          split at h
          · rename_i h5;exact absurd h h5
          · rename_i h5
            split at h
            · rename_i h6;exact absurd h h6
            · rename_i h6
              refine⟨by simpa using h1,qR (by simpa using h4),fJ (by simpa using h5),fJ (by simpa using h6),?_⟩
              unfold bZ at h3
              split at h3
              · cases h3
              · rw[e,if_neg (by decide),if_neg (by decide),if_neg (by decide),if_neg (by decide),if_neg (by decide)] at h3
                try rw[if_pos rfl] at h3
                exact j7 h3
theorem qo:∀ {cols:List Col} {r:List aH},c8 cols r=0→∀ (i:Nat) (c:Col) (v:aH),cols[i]? = some c→r[i]? = some v→bO c.type v=0
  | [],_,_,i,c,v,h,_=>by simp at h
  | _::_,[],_,i,c,v,_,h=>by simp at h
  | d::cols,w::r,h,i,c,v,h1,h2=>by
    simp only[c8] at h
    split at h
    · rename_i h3;exact absurd h h3
    · rename_i h3
      cases i with
      | zero=>simp at h1 h2;subst h1;subst h2;simpa using h3
      | succ i=>exact qo h i c v (by simpa using h1) (by simpa using h2)
theorem r6 {cols:List Col}:∀ {l:List (List aH)},ec cols l=0→∀ r∈l,r.length=cols.length∧∀ (i:Nat) (c:Col) (v:aH),cols[i]? = some c→r[i]? = some v→bO c.type v=0
  | [],_,r,hr=>by cases hr
  | x::l,h,r,hr=>by
    simp only[ec] at h
    split at h
    · cases h
    · rename_i h1
      split at h
      · rename_i h2;exact absurd h h2
      · rename_i h2
        rcases List.mem_cons.1 hr with rfl | hr
        · exact⟨by simpa using h1,qo (by simpa using h2)⟩
        · exact r6 h r hr
theorem gW {t:bo} (h:bj t=0):∀ r∈t.rows,r.length=t.cols.length∧∀ (i:Nat) (c:Col) (v:aH),t.cols[i]? = some c→r[i]? = some v→bO c.type v=0:=by
  unfold bj at h
  split at h
  · cases h
  · split at h
    · rename_i h2;exact absurd h h2
    · exact r6 h
theorem iq {r:List aH} {i:Nat} (h:i < r.length):r[i]? = some (bh r i):=by
  unfold bh
  rw[List.getD_eq_getElem?_getD,List.getElem?_eq_getElem h];rfl
theorem oG {t:bo} (h:bj t=0) {r:List aH} (hr:r∈t.rows) {i:Nat} {c:Col} (hc:t.cols[i]? = some c):i < r.length∧bO c.type (bh r i)=0:=by
  obtain⟨h1,h2⟩:=gW h r hr
  have hi:i < r.length:=by rw[h1];exact(List.getElem?_eq_some_iff.1 hc).1
  exact⟨hi,h2 i c _ hc (iq hi)⟩
theorem nI {k:Int} {v:aH} (h:bO k v=0):v=gh∨(v.kind=k∧1≤k∧k≤3∧(k≠3→v.s=B #[])∧(k=3→v.n=0)∧(k=2→mj v.n=true)):=by
  obtain⟨a,n,s⟩:=v
  unfold bO at h
  dsimp only at h
  split at h
  · cases h
  · rename_i h1
    split at h
    · cases h
    · rename_i h2
      split at h
      · cases h
      · split at h
        · cases h
        · rename_i h4
          by_cases q:a=0
          · left
            subst q
            have e1:s=B #[]:=Classical.byContradiction fun e=>h4 (.inl ⟨by decide,e⟩)
            have e2:n=0:=Classical.byContradiction fun e=>h4 (.inr ⟨.inl rfl,e⟩)
            rw[e1,e2]
            rfl
          · right
            have e3:¬ (a≠k∨k < 1∨3 < k):=fun e=>h1 ⟨q,e⟩
            have e4:a=k:=by omega
            subst e4
            refine⟨rfl,by omega,by omega,fun e=>?_,fun e=>?_,fun e=>?_⟩
            · exact Classical.byContradiction fun e2=>h4 (.inl ⟨e,e2⟩)
            · exact Classical.byContradiction fun e2=>h4 (.inr ⟨.inr e,e2⟩)
            · cases q2:mj n with
              | true=>rfl
              | false=>exact absurd (.inr ⟨e,q2⟩) h2
theorem sx {a b:Int}:cI a b=0↔a=b:=by unfold cI;split <;> (try split) <;> omega
theorem w5 {a b:ByteArray} (h:fP a b=0):a=b:=by
  unfold fP at h
  split at h
  · cases h
  · split at h
    · assumption
    · cases h
theorem zl {k:Int} {v w:aH} (hv:bO k v=0) (hw:bO k w=0) (h:dd v w=0):v=w:=by
  obtain⟨a,n,s⟩:=v
  obtain⟨a',n',s'⟩:=w
  unfold dd at h
  dsimp only at h
  split at h
  · rename_i h1;exact absurd (sx.1 h) h1
  · rename_i h1
    have h1:a=a':=by simpa using h1
    subst h1
    have c1:=nI hv
    have c2:=nI hw
    simp only[aH.mk.injEq,gh] at c1 c2 ⊢
    split at h
    · rename_i h2
      have:=w5 h
      rcases c1 with c1 | ⟨c1,_,_,c3,c4,_⟩
      · omega
      · rcases c2 with c2 | ⟨c2,_,_,c5,c6,_⟩
        · omega
        · exact⟨trivial,by rw[c4 (by omega),c6 (by omega)],this⟩
    · rename_i h2
      split at h
      · have hn:=sx.1 h
        rcases c1 with c1 | ⟨c1,_,_,c3,c4,_⟩
        · omega
        · rcases c2 with c2 | ⟨c2,_,_,c5,c6,_⟩
          · omega
          · exact⟨trivial,hn,by rw[c3 (by omega),c5 (by omega)]⟩
      · rename_i h3
        rcases c1 with c1 | ⟨c1,_,_,c3,c4,_⟩
        · rcases c2 with c2 | ⟨c2,_,_,c5,c6,_⟩
          · exact⟨trivial,by omega,by rw[c1.2.2,c2.2.2]⟩
          · omega
        · omega
end Go.Tb
namespace Go.Tb
open Go.Ab
@[reducible] def nc (i:Nat):List D:=ic (i:Int)
theorem nn (not:List ByteArray):∀ (cols:List Col) (i:Nat),∀ k∈eF not cols i,i≤k∧k < i+cols.length
  | [],_,k,h=>by simp[eF] at h
  | c::r,i,k,h=>by
    simp only[eF] at h
    split at h
    · have:=nn not r (i+1) k h
      simp;omega
    · rcases List.mem_cons.1 h with rfl | h
      · simp
      · have:=nn not r (i+1) k h
        simp;omega
theorem cm {cols:List Col} {s:ByteArray} {i:Nat} (h:dp cols s=some i):bw cols s=i:=by unfold bw;rw[h];rfl
structure Bh (o:qw) (n m:Nat):Prop where
  left:∀ i∈o.left,i < n
  right:∀ i∈o.right,i < m
  m0:o.m0 < n
  m1:o.m1 < n
  t0:o.t0 < m
  t1:o.t1 < m
  more:∀ i∈o.more,i < m
theorem Be {a b:bo} {on:List ByteArray} (h:x8 a b on (aM 7)):Bh (At a b on) a.cols.length b.cols.length:=by
  have e:aM 7=[aP,bp]:=rfl
  rw[e] at h
  refine⟨fun i hi=>?_,fun i hi=>?_,?_,?_,?_,?_,fun i hi=>?_⟩
  · obtain⟨s,hs,rfl⟩:=List.mem_map.1 hi
    obtain⟨i,j,c,d,h1,h2,h3,h4,_⟩:=h.ons s hs
    rw[cm h1];exact(List.getElem?_eq_some_iff.1 h3).1
  · obtain⟨s,hs,rfl⟩:=List.mem_map.1 hi
    obtain⟨i,j,c,d,h1,h2,h3,h4,_⟩:=h.ons s hs
    rw[cm h2];exact(List.getElem?_eq_some_iff.1 h4).1
  · obtain⟨i,c,h1,h2,_⟩:=h.spa aP (by simp)
    show bw a.cols aP < _
    rw[cm h1];exact(List.getElem?_eq_some_iff.1 h2).1
  · obtain⟨i,c,h1,h2,_⟩:=h.spa bp (by simp)
    show bw a.cols bp < _
    rw[cm h1];exact(List.getElem?_eq_some_iff.1 h2).1
  · obtain⟨i,c,h1,h2,_⟩:=h.spb aP (by simp)
    show bw b.cols aP < _
    rw[cm h1];exact(List.getElem?_eq_some_iff.1 h2).1
  · obtain⟨i,c,h1,h2,_⟩:=h.spb bp (by simp)
    show bw b.cols bp < _
    rw[cm h1];exact(List.getElem?_eq_some_iff.1 h2).1
  · have:=nn _ b.cols 0 i hi
    omega
theorem gC {cols:List Col} {l:List ByteArray} (h:∀ s∈l,∃ i,dp cols s=some i):(l.map fun s=>ic (idx (dp cols s)))=(l.map (bw cols)).map nc:=by
  rw[List.map_map]
  apply List.map_congr_left
  intro s hs
  obtain⟨i,hi⟩:=h s hs
  show ic (idx (dp cols s))=ic ((bw cols s:Nat):Int)
  rw[cm hi,hi]
  rfl
theorem qN {r:List aH} {i:Nat} {n:Int}:(r.map aH.c).set i (gV (bh r i).c 1 [ci n])=(nU r i n).map aH.c:=by
  unfold nU
  rw[List.map_set]
  rfl
theorem mD (r:List aH) (i:Nat) (n:Int):(nU r i n).length=r.length:=by unfold nU;simp
end Go.Tb
namespace Go.Tb
section
variable {α:Type} [Inhabited α]
def el (l:List α) (k:Nat):α:=l.getD k default
theorem ml {l:List α} {i k:Nat} {x:α} (hi:i < l.length):el (l.set i x) k=if k=i then x else el l k:=by
  unfold el
  rw[List.getD_eq_getElem?_getD,List.getElem?_set,List.getD_eq_getElem?_getD]
  by_cases h:i=k
  · subst h;simp[hi]
  · rw[if_neg h,if_neg (fun e=>h e.symm)]
theorem gv {l:List α} {k:Nat} (h:k < l.length):l[k]? = some (el l k):=by
  unfold el
  rw[List.getD_eq_getElem?_getD,List.getElem?_eq_getElem h];rfl
theorem mY {l:List α} {k:Nat} {x:α} (h:l[k]? = some x):el l k=x:=by
  unfold el
  rw[List.getD_eq_getElem?_getD,h];rfl
def fq (l:List α) (i j:Nat):List α:=(l.set i (el l j)).set j (el l i)
theorem dA (l:List α) (i j:Nat):(fq l i j).length=l.length:=by unfold fq;simp
theorem gQ {l:List α} {i j k:Nat} (hi:i < l.length) (hj:j < l.length):el (fq l i j) k=if k=j then el l i else if k=i then el l j else el l k:=by
  unfold fq
  rw[ml (by simpa using hj),ml hi]
theorem vo {l:List α} {i j:Nat} (hi:i < l.length) (hj:j < l.length):(fq l i j).Perm l:=by
  unfold fq
  have h1:=gv hi
  have h2:=gv hj
  rw[List.getElem?_eq_getElem hi] at h1
  rw[List.getElem?_eq_getElem hj] at h2
  rw[←Option.some.inj h1,←Option.some.inj h2]
  exact List.set_set_perm hi hj
variable (lt:α→α→Bool)
def bu (l:List α) (a b:Nat):Prop:=∀ i j,a≤i→i < j→j < b→lt (el l j) (el l i)=false
structure oB:Prop where
  asymm:∀ x y,lt x y=true→lt y x=false
  trans:∀ x y z,lt y x=false→lt z y=false→lt z x=false
structure cf (l l':List α) (a b:Nat):Prop where
  len:l'.length=l.length
  perm:l'.Perm l
  out:∀ k,k < a∨b≤k→el l' k=el l k
theorem cf.refl (l:List α) (a b:Nat):cf l l a b:=⟨rfl,.refl _,fun _ _=>rfl⟩
theorem cf.trans {l l' l2:List α} {a b:Nat} (h:cf l l' a b) (h2:cf l' l2 a b):cf l l2 a b:=
  ⟨h2.len.trans h.len,h2.perm.trans h.perm,fun k hk=>(h2.out k hk).trans (h.out k hk)⟩
theorem cf.mono {l l':List α} {a b a' b':Nat} (h:cf l l' a b) (ha:a'≤a) (hb:b≤b'):cf l l' a' b':=
  ⟨h.len,h.perm,fun k hk=>h.out k (by omega)⟩
theorem cf.swap {l:List α} {i j a b:Nat} (hi:i < l.length) (hj:j < l.length) (h1:a≤i) (h2:i < b) (h3:a≤j) (h4:j < b):cf l (fq l i j) a b:=
  ⟨dA l i j,vo hi hj,fun k hk=>by rw[gQ hi hj,if_neg (by omega),if_neg (by omega)]⟩
theorem cf.mem {l l':List α} {a b:Nat} (h:cf l l' a b) (hab:a≤b) (hb:b≤l.length) {k:Nat} (h1:a≤k) (h2:k < b):∃ k',a≤k'∧k' < b∧el l' k=el l k':=by
  have seg:∀ (m:List α),m.length=l.length→(∀ k,k < a∨b≤k→el m k=el l k)→m=l.take a++((m.drop a).take (b - a)++l.drop b):=by
    intro m hm ho
    have e1:m.take a=l.take a:=by
      apply List.ext_getElem?
      intro i
      rw[List.getElem?_take,List.getElem?_take]
      split
      · rename_i hi
        rw[gv (by omega),gv (by omega),ho i (.inl hi)]
      · rfl
    have e2:m.drop b=l.drop b:=by
      apply List.ext_getElem?
      intro i
      rw[List.getElem?_drop,List.getElem?_drop]
      rcases Nat.lt_or_ge (b+i) l.length with hi | hi
      · rw[gv (by omega),gv (by omega),ho _ (.inr (by omega))]
      · rw[List.getElem?_eq_none (by omega),List.getElem?_eq_none (by omega)]
    have e3:m.drop a=(m.drop a).take (b - a)++m.drop b:=by
      have:=List.take_append_drop (b - a) (m.drop a)
      rw[List.drop_drop] at this
      rw[show a+(b - a)=b by omega] at this
      exact this.symm
    rw[←e1,←e2,←e3,List.take_append_drop]
  have p:((l'.drop a).take (b - a)).Perm ((l.drop a).take (b - a)):=by
    have e1:=seg l' h.len h.out
    have e2:=seg l rfl fun _ _=>rfl
    have:=h.perm
    rw[e1] at this
    conv at this=>rhs;rw[e2]
    rw[List.perm_append_left_iff] at this
    rwa [List.perm_append_right_iff] at this
  have hm:el l' k∈(l'.drop a).take (b - a):=by
    refine List.mem_of_getElem? (i:=k - a) ?_
    rw[List.getElem?_take,if_pos (by omega),List.getElem?_drop,show a+(k - a)=k by omega]
    exact gv (by rw[h.len];omega)
  obtain⟨i,hi⟩:=List.mem_iff_getElem?.1 (p.mem_iff.1 hm)
  rw[List.getElem?_take] at hi
  split at hi
  · rename_i hlt
    rw[List.getElem?_drop] at hi
    exact⟨a+i,by omega,by omega,(mY hi).symm⟩
  · cases hi
theorem bu.out {l l':List α} {a b c d:Nat} (h:bu lt l a b) (ht:cf l l' c d) (hd:b≤c∨d≤a):bu lt l' a b:=fun i j h1 h2 h3=>by
  rw[ht.out i (by omega),ht.out j (by omega)]
  exact h i j h1 h2 h3
theorem bu.join {l:List α} {a m b:Nat} (h1:bu lt l a m) (h2:bu lt l m b) (h:∀ i j,a≤i→i < m→m≤j→j < b→lt (el l j) (el l i)=false):bu lt l a b:=fun i j q1 q2 q3=>by
  rcases Nat.lt_or_ge j m with hj | hj
  · exact h1 i j q1 q2 hj
  · rcases Nat.lt_or_ge i m with hi | hi
    · exact h i j q1 hi hj q3
    · exact h2 i j hi q2 q3
def ir (l:List α) (a:Nat):Nat→List α
  | 0=>l
  | j+1=>if a < j+1 then (if lt (el l (j+1)) (el l j)=true then ir (fq l (j+1) j) a j else l) else l
def jU (l:List α) (a:Nat):Nat→Nat→List α
  | 0,_=>l
  | c+1,i=>jU (ir lt l a i) a c (i+1)
def eV (l:List α) (a b:Nat):List α:=jU lt l a (b - (a+1)) (a+1)
theorem mi (a:Nat):∀ (j:Nat) (l:List α),j < l.length→cf l (ir lt l a j) a (j+1)
  | 0,l,_=>.refl _ _ _
  | j+1,l,h=>by
    unfold ir
    split
    · split
      · exact(cf.swap h (by omega) (by omega) (by omega) (by omega) (by omega)).trans ((mi a j (fq l (j+1) j) (by rw[dA];omega)).mono (Nat.le_refl _) (by omega))
      · exact .refl _ _ _
    · exact .refl _ _ _
theorem ow (hw:oB lt) {a J:Nat}:∀ (j:Nat) (l:List α),J < l.length→a≤j→j≤J→(∀ i k,a≤i→i < k→k≤J→i≠j→k≠j→lt (el l k) (el l i)=false)→(∀ k,j < k→k≤J→lt (el l k) (el l j)=false) →
    bu lt (ir lt l a j) a (J+1)
  | 0,l,hl,ha,hj,h1,h2=>by
    unfold ir
    intro i k q1 q2 q3
    by_cases e:i=0
    · subst e;exact h2 k q2 (by omega)
    · exact h1 i k q1 q2 (by omega) e (by omega)
  | j+1,l,hl,ha,hj,h1,h2=>by
    unfold ir
    have done:(a < j+1→lt (el l (j+1)) (el l j)=false)→bu lt l a (J+1):=by
      intro hne i k q1 q2 q3
      by_cases e:i=j+1
      · subst e;exact h2 k q2 (by omega)
      · by_cases e2:k=j+1
        · subst e2
          have h3:=hne (by omega)
          by_cases e3:i=j
          · subst e3;exact h3
          · exact hw.trans _ _ _ (h1 i j q1 (by omega) (by omega) e (by omega)) h3
        · exact h1 i k q1 q2 (by omega) e e2
    split
    · rename_i haj
      split
      · rename_i hlt
        refine ow hw j _ (by rw[dA];exact hl) (by omega) (by omega) (fun i k q1 q2 q3 q4 q5=>?_) (fun k q1 q2=>?_)
        · rw[gQ (by omega) (by omega),gQ (by omega) (by omega),if_neg q5,if_neg q4]
          by_cases e1:k=j+1
          · rw[if_pos e1,if_neg (by omega)]
            exact h1 i j q1 (by omega) (by omega) (by omega) (by omega)
          · rw[if_neg e1]
            by_cases e2:i=j+1
            · rw[if_pos e2]
              exact h1 j k (by omega) (by omega) q3 (by omega) e1
            · rw[if_neg e2]
              exact h1 i k q1 q2 q3 e2 e1
        · rw[gQ (by omega) (by omega),gQ (by omega) (by omega),if_neg (by omega),if_pos rfl]
          by_cases e1:k=j+1
          · rw[if_pos e1];exact hw.asymm _ _ hlt
          · rw[if_neg e1];exact h2 k (by omega) q2
      · rename_i hlt
        exact done fun _=>by simpa using hlt
    · rename_i haj
      exact done fun q=>absurd q haj
theorem nr (a:Nat):∀ (c i:Nat) (l:List α),i+c≤l.length→cf l (jU lt l a c i) a (i+c)
  | 0,i,l,_=>.refl _ _ _
  | c+1,i,l,h=>by
    have h1:=mi lt a i l (by omega)
    have h2:=nr a c (i+1) (ir lt l a i) (by rw[h1.len];omega)
    rw[show i+1+c=i+(c+1) by omega] at h2
    exact(h1.mono (Nat.le_refl _) (by omega)).trans h2
theorem mx (hw:oB lt) {a:Nat}:∀ (c i:Nat) (l:List α),a≤i→i+c≤l.length→bu lt l a i→bu lt (jU lt l a c i) a (i+c)
  | 0,i,l,_,_,h=>h
  | c+1,i,l,ha,hl,h=>by
    have h1:=mi lt a i l (by omega)
    have h2:=ow lt hw i l (by omega) ha (Nat.le_refl _) (fun x k q1 q2 q3 q4 q5=>h x k q1 q2 (by omega)) (fun k q1 q2=>by omega)
    have h3:=mx hw c (i+1) _ (by omega) (by rw[h1.len];omega) h2
    rw[show i+1+c=i+(c+1) by omega] at h3
    exact h3
theorem fk {l:List α} {a b:Nat} (h:b≤l.length):cf l (eV lt l a b) a b:=by
  unfold eV
  rcases Nat.lt_or_ge a b with hab | hab
  · have:=nr lt a (b - (a+1)) (a+1) l (by omega)
    rw[show a+1+(b - (a+1))=b by omega] at this
    exact this
  · rw[show b - (a+1)=0 by omega]
    exact .refl _ _ _
theorem mu (hw:oB lt) {l:List α} {a b:Nat} (h:b≤l.length):bu lt (eV lt l a b) a b:=by
  unfold eV
  rcases Nat.lt_or_ge a b with hab | hab
  · have:=mx lt hw (a:=a) (b - (a+1)) (a+1) l (by omega) (by omega) (fun i j q1 q2 q3=>by omega)
    rw[show a+1+(b - (a+1))=b by omega] at this
    exact this
  · intro i j q1 q2 q3;omega
end
end Go.Tb
namespace Go.Tb
section
variable {α:Type} [Inhabited α]
def dJ (l:List α) (a b:Nat):Nat→Nat→List α
  | 0,_=>l
  | c+1,i=>dJ (fq l (a+i) (b+i)) a b c (i+1)
theorem eT {a b lo hi:Nat}:∀ (c i:Nat) (l:List α),a+i+c≤l.length→b+i+c≤l.length→lo≤a→lo≤b→a+i+c≤hi→b+i+c≤hi→cf l (dJ l a b c i) lo hi
  | 0,i,l,_,_,_,_,_,_=>.refl _ _ _
  | c+1,i,l,h1,h2,h3,h4,h5,h6=>by
    unfold dJ
    exact(cf.swap (by omega) (by omega) (by omega) (by omega) (by omega) (by omega)).trans (eT c (i+1) _ (by rw[dA];omega) (by rw[dA];omega) h3 h4 (by omega) (by omega))
theorem nf {a b:Nat}:∀ (c i:Nat) (l:List α),a+i+c≤b+i→b+i+c≤l.length→∀ k,el (dJ l a b c i) k=if a+i≤k∧k < a+i+c then el l (k - a+b) else if b+i≤k∧k < b+i+c then el l (k - b+a) else el l k
  | 0,i,l,_,_,k=>by
    unfold dJ
    rw[if_neg (by omega),if_neg (by omega)]
  | c+1,i,l,h1,h2,k=>by
    unfold dJ
    rw[nf c (i+1) _ (by omega) (by rw[dA];omega) k]
    have e:=fun x=>gQ (l:=l) (i:=a+i) (j:=b+i) (k:=x) (by omega) (by omega)
    rw[e,e,e]
    by_cases q1:a+i≤k∧k < a+i+(c+1)
    · rw[if_pos q1]
      by_cases q2:k=a+i
      · rw[if_neg (by omega),if_neg (by omega),if_neg (by omega),if_pos q2,q2]
        congr 1
        omega
      · rw[if_pos (by omega),if_neg (by omega),if_neg (by omega)]
    · rw[if_neg q1,if_neg (by omega)]
      by_cases q3:b+i≤k∧k < b+i+(c+1)
      · rw[if_pos q3]
        by_cases q4:k=b+i
        · rw[if_neg (by omega),if_pos q4,q4]
          congr 1
          omega
        · rw[if_pos (by omega),if_neg (by omega),if_neg (by omega)]
      · rw[if_neg q3,if_neg (by omega),if_neg (by omega),if_neg (by omega)]
def gU:Nat→List α→Nat→Nat→Nat→List α
  | 0,l,_,_,_=>l
  | f+1,l,m,i,j=>if i=j then dJ l (m - i) m i 0 else if j < i then gU f (dJ l (m - i) m j 0) m (i - j) j else gU f (dJ l (m - i) (m+j - i) i 0) m i (j - i)
theorem jJ {lo hi:Nat}:∀ (f:Nat) (l:List α) (m i j:Nat),i≤m→m+j≤l.length→lo≤m - i→m+j≤hi→cf l (gU f l m i j) lo hi
  | 0,l,m,i,j,_,_,_,_=>.refl _ _ _
  | f+1,l,m,i,j,h1,h2,h3,h4=>by
    unfold gU
    split
    · exact eT i 0 l (by omega) (by omega) (by omega) (by omega) (by omega) (by omega)
    · split
      · have h5:cf l (dJ l (m - i) m j 0) lo hi:=eT j 0 l (by omega) (by omega) (by omega) (by omega) (by omega) (by omega)
        exact h5.trans (jJ f _ m (i - j) j (by omega) (by rw[h5.len];omega) (by omega) h4)
      · have h5:cf l (dJ l (m - i) (m+j - i) i 0) lo hi:=eT i 0 l (by omega) (by omega) (by omega) (by omega) (by omega) (by omega)
        exact h5.trans (jJ f _ m i (j - i) (by omega) (by rw[h5.len];omega) (by omega) (by omega))
theorem rF:∀ (f:Nat) (l:List α) (m i j:Nat),0 < i→0 < j→i≤m→m+j≤l.length→i+j≤f→∀ k,el (gU f l m i j) k=if m - i≤k∧k < m - i+j then el l (k+i) else if m - i+j≤k∧k < m+j then el l (k - j) else el l k
  | 0,l,m,i,j,h1,h2,_,_,hf,k=>by omega
  | f+1,l,m,i,j,h1,h2,h3,h4,hf,k=>by
    unfold gU
    split
    · rename_i e
      subst e
      rw[nf i 0 l (by omega) (by omega) k]
      by_cases q1:m - i≤k∧k < m - i+i
      · rw[if_pos (by omega),if_pos q1];congr 1;omega
      · rw[if_neg (by omega),if_neg q1]
        by_cases q2:m - i+i≤k∧k < m+i
        · rw[if_pos (by omega),if_pos q2];congr 1;omega
        · rw[if_neg (by omega),if_neg q2]
    · split
      · rename_i e1 e2
        have hl:(dJ l (m - i) m j 0).length=l.length:=(eT (lo:=0) (hi:=l.length) j 0 l (by omega) (by omega) (by omega) (by omega) (by omega) (by omega)).len
        have hs:=nf (a:=m - i) (b:=m) j 0 l (by omega) (by omega)
        rw[rF f _ m (i - j) j (by omega) h2 (by omega) (by rw[hl];omega) (by omega) k]
        by_cases q1:m - i≤k∧k < m - i+j
        · rw[if_neg (by omega),if_neg (by omega),hs,if_pos (by omega),if_pos q1];congr 1;omega
        · by_cases q2:m - (i - j)≤k∧k < m - (i - j)+j
          · rw[if_pos q2,hs,if_neg q1]
            by_cases q3:k+(i - j) < m
            · rw[if_neg (by omega),if_neg (by omega),if_pos (by omega)]
              omega
            · rw[if_neg (by omega),if_pos (by omega),if_pos (by omega)];congr 1;omega
          · rw[if_neg q2]
            by_cases q4:m - (i - j)+j≤k∧k < m+j
            · rw[if_pos q4,hs,if_neg (by omega),if_neg (by omega),if_neg q1,if_pos (by omega)]
            · rw[if_neg q4,hs,if_neg (by omega),if_neg (by omega),if_neg q1,if_neg (by omega)]
      · rename_i e1 e2
        have hl:(dJ l (m - i) (m+j - i) i 0).length=l.length:=(eT (lo:=0) (hi:=l.length) i 0 l (by omega) (by omega) (by omega) (by omega) (by omega) (by omega)).len
        have hs:=nf (a:=m - i) (b:=m+j - i) i 0 l (by omega) (by omega)
        rw[rF f _ m i (j - i) h1 (by omega) (by omega) (by rw[hl];omega) (by omega) k]
        by_cases q1:m+j - i≤k∧k < m+j
        · rw[if_neg (by omega),if_neg (by omega),hs,if_neg (by omega),if_pos (by omega),if_neg (by omega),if_pos (by omega)];congr 1;omega
        · by_cases q2:m - i≤k∧k < m - i+(j - i)
          · rw[if_pos q2,hs,if_neg (by omega),if_neg (by omega),if_pos (by omega)]
          · rw[if_neg q2]
            by_cases q4:m - i+(j - i)≤k∧k < m+(j - i)
            · rw[if_pos q4,hs,if_pos (by omega),if_pos (by omega)];congr 1;omega
            · rw[if_neg q4,hs,if_neg (by omega),if_neg (by omega),if_neg (by omega),if_neg (by omega)]
def nt (l:List α):Nat→Nat→List α
  | 0,_=>l
  | c+1,k=>nt (fq l k (k+1)) c (k+1)
def nq (l:List α):Nat→Nat→List α
  | 0,_=>l
  | c+1,k=>nq (fq l k (k - 1)) c (k - 1)
theorem sf {lo hi:Nat}:∀ (c k:Nat) (l:List α),k+c < l.length→lo≤k→k+c < hi→cf l (nt l c k) lo hi
  | 0,_,_,_,_,_=>.refl _ _ _
  | c+1,k,l,h1,h2,h3=>by
    unfold nt
    exact(cf.swap (by omega) (by omega) (by omega) (by omega) (by omega) (by omega)).trans (sf c (k+1) _ (by rw[dA];omega) (by omega) (by omega))
theorem xo:∀ (c k:Nat) (l:List α),k+c < l.length→∀ x,el (nt l c k) x=if k≤x∧x < k+c then el l (x+1) else if x=k+c then el l k else el l x
  | 0,k,l,h,x=>by
    unfold nt
    rw[if_neg (by omega)]
    by_cases e:x=k
    · subst e;rw[if_pos (by omega)]
    · rw[if_neg (by omega)]
  | c+1,k,l,h,x=>by
    unfold nt
    rw[xo c (k+1) _ (by rw[dA];omega) x]
    have e:=fun y=>gQ (l:=l) (i:=k) (j:=k+1) (k:=y) (by omega) (by omega)
    rw[e,e,e]
    by_cases q1:k≤x∧x < k+(c+1)
    · rw[if_pos q1]
      by_cases q2:x=k
      · rw[if_neg (by omega),if_neg (by omega),if_neg (by omega),if_pos q2,q2]
      · rw[if_pos (by omega),if_neg (by omega),if_neg (by omega)]
    · rw[if_neg q1,if_neg (by omega)]
      by_cases q3:x=k+(c+1)
      · rw[if_pos (by omega),if_pos rfl,if_pos q3]
      · rw[if_neg (by omega),if_neg (by omega),if_neg (by omega),if_neg q3]
theorem rR {lo hi:Nat}:∀ (c k:Nat) (l:List α),k < l.length→lo+c≤k→k < hi→cf l (nq l c k) lo hi
  | 0,_,_,_,_,_=>.refl _ _ _
  | c+1,k,l,h1,h2,h3=>by
    unfold nq
    exact(cf.swap (by omega) (by omega) (by omega) (by omega) (by omega) (by omega)).trans (rR c (k - 1) _ (by rw[dA];omega) (by omega) (by omega))
theorem xt:∀ (c k:Nat) (l:List α),k < l.length→c≤k→∀ x,el (nq l c k) x=if k - c < x∧x≤k then el l (x - 1) else if x=k - c then el l k else el l x
  | 0,k,l,h,_,x=>by
    unfold nq
    rw[if_neg (by omega)]
    by_cases e:x=k
    · subst e;rw[if_pos (by omega)]
    · rw[if_neg (by omega)]
  | c+1,k,l,h,hc,x=>by
    unfold nq
    rw[xt c (k - 1) _ (by rw[dA];omega) (by omega) x]
    have e:=fun y=>gQ (l:=l) (i:=k) (j:=k - 1) (k:=y) (by omega) (by omega)
    rw[e,e,e]
    by_cases q1:k - (c+1) < x∧x≤k
    · rw[if_pos q1]
      by_cases q2:x=k
      · rw[if_neg (by omega),if_neg (by omega),if_neg (by omega),if_pos q2,q2]
      · rw[if_pos (by omega),if_neg (by omega),if_neg (by omega)]
    · rw[if_neg q1,if_neg (by omega)]
      by_cases q3:x=k - (c+1)
      · rw[if_pos (by omega),if_pos rfl,if_pos q3]
      · rw[if_neg (by omega),if_neg (by omega),if_neg (by omega),if_neg q3]
def dN (p:Nat→Bool):Nat→Nat→Nat→Nat
  | 0,i,_=>i
  | f+1,i,j=>if i < j then (if p ((i+j) / 2)=true then dN p f ((i+j) / 2+1) j else dN p f i ((i+j) / 2)) else i
theorem nE {p:Nat→Bool} {lo hi:Nat} (hm:∀ x y,lo≤x→x≤y→y < hi→p y=true→p x=true):∀ (f i j:Nat),lo≤i→i≤j→j≤hi→j - i < f→(∀ x,lo≤x→x < i→p x=true)→(∀ x,j≤x→x < hi→p x=false) →
    lo≤dN p f i j∧dN p f i j≤hi∧(∀ x,lo≤x→x < dN p f i j→p x=true)∧(∀ x,dN p f i j≤x→x < hi→p x=false)
  | 0,i,j,_,_,_,hf,_,_=>by omega
  | f+1,i,j,h1,h2,h3,hf,h4,h5=>by
    unfold dN
    split
    · rename_i hij
      split
      · rename_i hp
        refine nE hm f _ j (by omega) (by omega) h3 (by omega) (fun x q1 q2=>?_) h5
        exact hm x _ q1 (by omega) (by omega) hp
      · rename_i hp
        refine nE hm f i _ h1 (by omega) (by omega) (by omega) h4 (fun x q1 q2=>?_)
        cases hx:p x with
        | false=>rfl
        | true=>exact absurd (hm ((i+j) / 2) x (by omega) q1 q2 hx) hp
    · rename_i hij
      have:i=j:=by omega
      subst this
      exact⟨h1,h3,h4,h5⟩
theorem rj {p:Nat→Bool} {lo hi:Nat} (hm:∀ x y,lo≤x→x≤y→y < hi→p y=true→p x=true) (hle:lo≤hi) {f:Nat} (hf:hi - lo < f) :
    lo≤dN p f lo hi∧dN p f lo hi≤hi∧(∀ x,lo≤x→x < dN p f lo hi→p x=true)∧(∀ x,dN p f lo hi≤x→x < hi→p x=false):=
  nE hm f lo hi (Nat.le_refl _) hle (Nat.le_refl _) hf (fun x q1 q2=>by omega) (fun x q1 q2=>by omega)
theorem mr (p:Nat→Bool):∀ (f i j:Nat),i≤dN p f i j
  | 0,i,_=>Nat.le_refl _
  | f+1,i,j=>by
    unfold dN
    split
    · split
      · exact Nat.le_trans (by omega) (mr p f _ j)
      · exact mr p f i _
    · exact Nat.le_refl _
theorem mn {p:Nat→Bool}:∀ {f i j:Nat},i≤j→dN p f i j≤j
  | 0,i,j,h=>h
  | f+1,i,j,h=>by
    unfold dN
    split
    · split
      · exact mn (by omega)
      · exact Nat.le_trans (mn (f:=f) (by omega)) (by omega)
    · exact h
variable (lt:α→α→Bool)
def ep:Nat→List α→Nat→Nat→Nat→List α
  | 0,l,_,_,_=>l
  | f+1,l,a,m,b=>
    if m - a=1 then nt l (dN (fun h=>lt (el l h) (el l a)) (b - m+1) m b - 1 - a) a
    else if b - m=1 then nq l (m - dN (fun h=>!lt (el l m) (el l h)) (m - a+1) a m) m
    else
      let mid:=(a+b) / 2
      let n:=mid+m
      let s0:=if mid < m then n - b else a
      let r0:=if mid < m then mid else m
      let start:=dN (fun c=>!lt (el l (n - 1 - c)) (el l c)) (r0 - s0+1) s0 r0
      let e:=n - start
      let l1:=if start < m∧m < e then gU (m - start+(e - m)) l m (m - start) (e - m) else l
      let l2:=if a < start∧start < mid then ep f l1 a start mid else l1
      if mid < e∧e < b then ep f l2 mid e b else l2
end
end Go.Tb
namespace Go.Tb
section
variable {α:Type} [Inhabited α] (lt:α→α→Bool)
theorem vv (hw:oB lt) {l:List α} {a b r:Nat} (hb:b≤l.length) (har:a < r) (hrb:r≤b) (hs:bu lt l (a+1) b) (h1:∀ x,a+1≤x→x < r→lt (el l x) (el l a)=true) (h2:∀ x,r≤x→x < b→lt (el l x) (el l a)=false) :
    bu lt (nt l (r - 1 - a) a) a b:=by
  have he:=xo (r - 1 - a) a l (by omega)
  intro i j q1 q2 q3
  rw[he,he]
  by_cases e1:a≤i∧i < a+(r - 1 - a)
  · rw[if_pos e1]
    by_cases e2:a≤j∧j < a+(r - 1 - a)
    · rw[if_pos e2]
      exact hs (i+1) (j+1) (by omega) (by omega) (by omega)
    · rw[if_neg e2]
      by_cases e3:j=a+(r - 1 - a)
      · rw[if_pos e3]
        exact hw.asymm _ _ (h1 (i+1) (by omega) (by omega))
      · rw[if_neg e3]
        exact hs (i+1) j (by omega) (by omega) (by omega)
  · rw[if_neg e1]
    by_cases e3:i=a+(r - 1 - a)
    · rw[if_pos e3,if_neg (by omega),if_neg (by omega)]
      exact h2 j (by omega) q3
    · rw[if_neg e3,if_neg (by omega),if_neg (by omega)]
      exact hs i j (by omega) q2 q3
theorem vz (hw:oB lt) {l:List α} {a m r:Nat} (hm:m < l.length) (har:a≤r) (hrm:r≤m) (hs:bu lt l a m) (h1:∀ x,a≤x→x < r→lt (el l m) (el l x)=false) (h2:∀ x,r≤x→x < m→lt (el l m) (el l x)=true) :
    bu lt (nq l (m - r) m) a (m+1):=by
  have he:=xt (m - r) m l hm (by omega)
  intro i j q1 q2 q3
  rw[he,he]
  by_cases e1:m - (m - r) < i∧i≤m
  · rw[if_pos e1,if_pos (by omega)]
    exact hs (i - 1) (j - 1) (by omega) (by omega) (by omega)
  · rw[if_neg e1]
    by_cases e3:i=m - (m - r)
    · rw[if_pos e3,if_pos (by omega)]
      exact hw.asymm _ _ (h2 (j - 1) (by omega) (by omega))
    · rw[if_neg e3]
      by_cases e2:m - (m - r) < j∧j≤m
      · rw[if_pos e2]
        exact hs i (j - 1) q1 (by omega) (by omega)
      · rw[if_neg e2]
        by_cases e4:j=m - (m - r)
        · rw[if_pos e4]
          exact h1 i q1 (by omega)
        · rw[if_neg e4]
          exact hs i j q1 q2 (by omega)
theorem dX:∀ (f:Nat) (l:List α) (a m b:Nat),a < m→m < b→b≤l.length→cf l (ep lt f l a m b) a b
  | 0,l,_,_,_,_,_,_=>.refl _ _ _
  | f+1,l,a,m,b,h1,h2,h3=>by
    unfold ep
    split
    · rename_i e
      obtain⟨q1,q2,_,_⟩ | hz:(m≤dN (fun h=>lt (el l h) (el l a)) (b - m+1) m b∧dN (fun h=>lt (el l h) (el l a)) (b - m+1) m b≤b∧True∧True)∨False:=by
        left
        exact⟨mr _ _ _ _,mn (by omega),trivial,trivial⟩
      · exact sf _ _ _ (by omega) (Nat.le_refl _) (by omega)
      · exact hz.elim
    · split
      · have q1:=mr (fun h=>!lt (el l m) (el l h)) (m - a+1) a m
        have q2:=mn (p:=fun h=>!lt (el l m) (el l h)) (f:=m - a+1) (i:=a) (j:=m) (by omega)
        exact rR _ _ _ (by omega) (by omega) (by omega)
      · rename_i e1 e2
        dsimp only
        generalize hs0:(if (a+b) / 2 < m then (a+b) / 2+m - b else a)=s0
        generalize hr0:(if (a+b) / 2 < m then (a+b) / 2 else m)=r0
        have hle:s0≤r0:=by subst hs0 hr0;split <;> omega
        have hs1:a≤s0:=by subst hs0;split <;> omega
        have hr1:r0≤m∧r0≤(a+b) / 2∨r0=m∧m≤(a+b) / 2:=by subst hr0;split <;> omega
        have g1:=mr (fun c=>!lt (el l ((a+b) / 2+m - 1 - c)) (el l c)) (r0 - s0+1) s0 r0
        have g2:=mn (p:=fun c=>!lt (el l ((a+b) / 2+m - 1 - c)) (el l c)) (f:=r0 - s0+1) (i:=s0) (j:=r0) hle
        generalize hst:dN (fun c=>!lt (el l ((a+b) / 2+m - 1 - c)) (el l c)) (r0 - s0+1) s0 r0=start at g1 g2 ⊢
        have hsb:(a+b) / 2+m - start≤b:=by subst hs0;split at g1 <;> omega
        have t1:cf l (if start < m∧m < (a+b) / 2+m - start then gU (m - start+((a+b) / 2+m - start - m)) l m (m - start) ((a+b) / 2+m - start - m) else l) a b:=by
          split
          · exact jJ _ _ _ _ _ (by omega) (by omega) (by omega) (by omega)
          · exact .refl _ _ _
        generalize (if start < m∧m < (a+b) / 2+m - start then gU (m - start+((a+b) / 2+m - start - m)) l m (m - start) ((a+b) / 2+m - start - m) else l)=l1 at t1 ⊢
        have t2:cf l1 (if a < start∧start < (a+b) / 2 then ep lt f l1 a start ((a+b) / 2) else l1) a b:=by
          split
          · exact(dX f l1 a start _ (by omega) (by omega) (by rw[t1.len];omega)).mono (Nat.le_refl _) (by omega)
          · exact .refl _ _ _
        generalize (if a < start∧start < (a+b) / 2 then ep lt f l1 a start ((a+b) / 2) else l1)=l2 at t2 ⊢
        have t3:cf l2 (if (a+b) / 2 < (a+b) / 2+m - start∧(a+b) / 2+m - start < b then ep lt f l2 ((a+b) / 2) ((a+b) / 2+m - start) b else l2) a b:=by
          split
          · exact(dX f l2 _ _ b (by omega) (by omega) (by rw[t2.len,t1.len];omega)).mono (by omega) (Nat.le_refl _)
          · exact .refl _ _ _
        exact(t1.trans t2).trans t3
theorem j8 (hw:oB lt):∀ (f:Nat) (l:List α) (a m b:Nat),a < m→m < b→b≤l.length→b - a≤f→bu lt l a m→bu lt l m b→bu lt (ep lt f l a m b) a b
  | 0,l,a,m,b,h1,h2,_,hf,_,_=>by omega
  | f+1,l,a,m,b,h1,h2,h3,hf,hA,hB=>by
    unfold ep
    have mono:∀ x y,m≤x→x≤y→y < b→lt (el l y) (el l x)=false:=fun x y q1 q2 q3=>by
      by_cases e:x=y
      · subst e
        cases q:lt (el l x) (el l x) with
        | false=>rfl
        | true=>exact(hw.asymm _ _ q).symm.trans q |>.symm▸rfl
      · exact hB x y q1 (by omega) q3
    have monoA:∀ x y,a≤x→x≤y→y < m→lt (el l y) (el l x)=false:=fun x y q1 q2 q3=>by
      by_cases e:x=y
      · subst e
        cases q:lt (el l x) (el l x) with
        | false=>rfl
        | true=>exact(hw.asymm _ _ q).symm.trans q |>.symm▸rfl
      · exact hA x y q1 (by omega) q3
    have down:∀ x y z,lt y z=true→lt y x=false→lt x z=true:=fun x y z q1 q2=>by
      cases q:lt x z with
      | true=>rfl
      | false=>
        have:=hw.trans z x y q q2
        rw[q1] at this
        cases this
    have up:∀ x y z,lt x y=true→lt z y=false→lt x z=true:=fun x y z q1 q2=>by
      cases q:lt x z with
      | true=>rfl
      | false=>
        have:=hw.trans y z x q2 q
        rw[q1] at this
        cases this
    split
    · rename_i e
      obtain rfl:m=a+1:=by omega
      obtain⟨q1,q2,q3,q4⟩:=rj (p:=fun h=>lt (el l h) (el l a)) (lo:=a+1) (hi:=b) (fun x y p1 p2 p3 p4=>down _ _ _ p4 (mono x y p1 p2 p3)) (by omega) (f:=b - (a+1)+1) (by omega)
      exact vv lt hw h3 (by omega) q2 hB q3 q4
    · split
      · rename_i e1 e2
        obtain rfl:b=m+1:=by omega
        obtain⟨q1,q2,q3,q4⟩:=rj (p:=fun h=>!lt (el l m) (el l h)) (lo:=a) (hi:=m) (fun x y p1 p2 p3 p4=>by
          simp only[Bool.not_eq_true'] at p4 ⊢
          exact hw.trans _ _ _ (monoA x y p1 p2 p3) p4) (by omega) (f:=m - a+1) (by omega)
        exact vz lt hw (by omega) q1 q2 hA (fun x p1 p2=>by simpa using q3 x p1 p2) (fun x p1 p2=>by simpa using q4 x p1 p2)
      · rename_i e1 e2
        dsimp only
        generalize hmid:(a+b) / 2=mid
        have hmid1:a < mid:=by omega
        have hmid2:mid < b:=by omega
        have hmid3:mid - a < b - a:=by omega
        generalize hs0:(if mid < m then mid+m - b else a)=s0
        generalize hr0:(if mid < m then mid else m)=r0
        have hle:s0≤r0:=by subst hs0 hr0;split <;> omega
        have hs1:a≤s0:=by subst hs0;split <;> omega
        have hr1:r0≤m∧r0≤mid:=by subst hr0;split <;> omega
        have hlow:∀ c,s0≤c→c < r0→m≤mid+m - 1 - c∧mid+m - 1 - c < b:=fun c p1 p2=>by subst hs0 hr0;split at p1 <;> split at p2 <;> omega
        obtain⟨g1,g2,g3,g4⟩:=rj (p:=fun c=>!lt (el l (mid+m - 1 - c)) (el l c)) (lo:=s0) (hi:=r0) (fun x y p1 p2 p3 p4=>by
          simp only[Bool.not_eq_true'] at p4 ⊢
          have h5:=monoA x y (by omega) p2 (by omega)
          have h6:=hlow y (by omega) p3
          have h7:=hlow x p1 (by omega)
          have h8:=mono (mid+m - 1 - y) (mid+m - 1 - x) h6.1 (by omega) h7.2
          exact hw.trans _ _ _ (hw.trans _ _ _ h5 p4) h8) hle (f:=r0 - s0+1) (by omega)
        generalize hst:dN (fun c=>!lt (el l (mid+m - 1 - c)) (el l c)) (r0 - s0+1) s0 r0=start at g1 g2 g3 g4 ⊢
        have hsb:mid+m - start≤b:=by subst hs0;split at g1 <;> omega
        have hse:m≤mid+m - start:=by omega
        generalize he:mid+m - start=e at hsb hse ⊢
        have cross1:∀ x y,a≤x→x < start→e≤y→y < b→lt (el l y) (el l x)=false:=fun x y p1 p2 p3 p4=>by
          by_cases q:start=s0
          · exfalso
            subst hs0
            split at q <;> omega
          · have h5:=g3 (start - 1) (by omega) (by omega)
            simp only[Bool.not_eq_true'] at h5
            have h6:mid+m - 1 - (start - 1)=e:=by omega
            rw[h6] at h5
            exact hw.trans _ _ _ (hw.trans _ _ _ (monoA x (start - 1) p1 (by omega) (by omega)) h5) (mono e y (by omega) p3 p4)
        have cross2:∀ x y,m≤x→x < e→start≤y→y < m→lt (el l y) (el l x)=false:=fun x y p1 p2 p3 p4=>by
          by_cases q:start=r0
          · exfalso
            subst hr0
            split at q <;> omega
          · have h5:=g4 start (Nat.le_refl _) (by omega)
            simp only[Bool.not_eq_false'] at h5
            have h6:mid+m - 1 - start=e - 1:=by omega
            rw[h6] at h5
            exact hw.trans _ _ _ (hw.trans _ _ _ (mono x (e - 1) p1 (by omega) (by omega)) (hw.asymm _ _ h5)) (monoA start y (by omega) p3 p4)
        have rot:∃ l1,(if start < m∧m < e then gU (m - start+(e - m)) l m (m - start) (e - m) else l)=l1∧l1.length=l.length ∧
            ∀ k,el l1 k=if start≤k∧k < mid then el l (k+(m - start)) else if mid≤k∧k < e then el l (k - (e - m)) else el l k:=by
          refine⟨_,rfl,?_,?_⟩
          · split
            · exact(jJ (lo:=0) (hi:=l.length) _ _ _ _ _ (by omega) (by omega) (by omega) (by omega)).len
            · rfl
          · intro k
            split
            · rename_i q
              rw[rF _ l m (m - start) (e - m) (by omega) (by omega) (by omega) (by omega) (Nat.le_refl _) k]
              rw[show m - (m - start)=start by omega,show start+(e - m)=mid by omega,show m+(e - m)=e by omega]
            · rename_i q
              by_cases q1:start≤k∧k < mid
              · rw[if_pos q1];congr 1;omega
              · rw[if_neg q1]
                by_cases q2:mid≤k∧k < e
                · rw[if_pos q2];congr 1;omega
                · rw[if_neg q2]
        obtain⟨l1,hl1,hlen1,hel1⟩:=rot
        rw[hl1]
        have s1:bu lt l1 a start:=fun i j p1 p2 p3=>by
          rw[hel1,hel1,if_neg (by omega),if_neg (by omega),if_neg (by omega),if_neg (by omega)]
          exact hA i j p1 p2 (by omega)
        have s2:bu lt l1 start mid:=fun i j p1 p2 p3=>by
          rw[hel1,hel1,if_pos (by omega),if_pos (by omega)]
          exact hB _ _ (by omega) (by omega) (by omega)
        have s3:bu lt l1 mid e:=fun i j p1 p2 p3=>by
          rw[hel1,hel1,if_neg (by omega),if_pos (by omega),if_neg (by omega),if_pos (by omega)]
          exact hA _ _ (by omega) (by omega) (by omega)
        have s4:bu lt l1 e b:=fun i j p1 p2 p3=>by
          rw[hel1,hel1,if_neg (by omega),if_neg (by omega),if_neg (by omega),if_neg (by omega)]
          exact hB i j (by omega) p2 p3
        have far:∀ i j,a≤i→i < mid→mid≤j→j < b→lt (el l1 j) (el l1 i)=false:=fun i j p1 p2 p3 p4=>by
          rw[hel1,hel1]
          by_cases q1:start≤i
          · rw[if_pos (show start≤i∧i < mid from ⟨q1,p2⟩),if_neg (by omega)]
            by_cases q2:j < e
            · rw[if_pos (by omega)]
              exact cross2 _ _ (by omega) (by omega) (by omega) (by omega)
            · rw[if_neg (by omega)]
              exact hB _ _ (by omega) (by omega) p4
          · rw[if_neg (show ¬(start≤i∧i < mid) by omega),if_neg (show ¬(mid≤i∧i < e) by omega),if_neg (by omega)]
            by_cases q2:j < e
            · rw[if_pos (by omega)]
              exact hA _ _ p1 (by omega) (by omega)
            · rw[if_neg (by omega)]
              exact cross1 _ _ p1 (by omega) (by omega) p4
        have t2:∃ l2,(if a < start∧start < mid then ep lt f l1 a start mid else l1)=l2∧cf l1 l2 a mid∧bu lt l2 a mid:=by
          refine⟨_,rfl,?_,?_⟩
          · split
            · exact dX lt f l1 a start mid (by omega) (by omega) (by omega)
            · exact .refl _ _ _
          · split
            · exact j8 hw f l1 a start mid (by omega) (by omega) (by omega) (by omega) s1 s2
            · by_cases q:start≤a
              · obtain rfl:start=a:=by omega
                exact s2
              · obtain rfl:start=mid:=by omega
                exact s1
        obtain⟨l2,hl2,t2,z2⟩:=t2
        rw[hl2]
        have s3':bu lt l2 mid e:=s3.out lt t2 (.inr (Nat.le_refl _))
        have s4':bu lt l2 e b:=s4.out lt t2 (.inr (by omega))
        have t3:∃ l3,(if mid < e∧e < b then ep lt f l2 mid e b else l2)=l3∧cf l2 l3 mid b∧bu lt l3 mid b:=by
          refine⟨_,rfl,?_,?_⟩
          · split
            · exact dX lt f l2 mid e b (by omega) (by omega) (by rw[t2.len];omega)
            · exact .refl _ _ _
          · split
            · exact j8 hw f l2 mid e b (by omega) (by omega) (by rw[t2.len];omega) (by omega) s3' s4'
            · by_cases q:e≤mid
              · obtain rfl:e=mid:=by omega
                exact s4'
              · obtain rfl:e=b:=by omega
                exact s3'
        obtain⟨l3,hl3,t3,z3⟩:=t3
        rw[hl3]
        refine bu.join lt (z2.out lt t3 (.inl (Nat.le_refl _))) z3 (fun i j p1 p2 p3 p4=>?_)
        rw[t3.out i (.inl p2)]
        obtain⟨j',u1,u2,u3⟩:=t3.mem (by omega) (by rw[t2.len];omega) p3 p4
        obtain⟨i',v1,v2,v3⟩:=t2.mem (by omega) (by omega) p1 p2
        rw[u3,v3,t2.out j' (.inr u1)]
        exact far i' j' v1 v2 u1 u2
end
end Go.Tb
namespace Go.Tb
section
variable {α:Type} [Inhabited α] (lt:α→α→Bool) (n:Nat)
def kY:Nat→List α→Nat→List α
  | 0,l,_=>l
  | f+1,l,a=>if a+20≤n then kY f (eV lt l a (a+20)) (a+20) else eV lt l a n
def ln (bs:Nat):Nat→List α→Nat→List α
  | 0,l,_=>l
  | f+1,l,a=>if a+2*bs≤n then ln bs f (ep lt n l a (a+bs) (a+2*bs)) (a+2*bs) else if a+bs < n then ep lt n l a (a+bs) n else l
def l6:Nat→List α→Nat→List α
  | 0,l,_=>l
  | f+1,l,bs=>if bs < n then l6 f (ln lt n bs (n+1) l 0) (2*bs) else l
def cH (l:List α):List α:=l6 lt l.length (l.length+1) (kY lt l.length (l.length+1) l 0) 20
def iB (l:List α) (bs lo hi:Nat):Prop:=∀ i j,lo≤i→i < j→j < hi→i / bs=j / bs→lt (el l j) (el l i)=false
theorem vQ {bs i j q:Nat} (hb:0 < bs) (h:i / bs=j / bs) (hj:q*bs≤j):q*bs≤i:=by
  have h1:q≤j / bs:=(Nat.le_div_iff_mul_le hb).2 hj
  rw[←h] at h1
  exact(Nat.le_div_iff_mul_le hb).1 h1
theorem sL {bs i q:Nat} (h1:q*bs≤i) (h2:i < q*bs+bs):i / bs=q:=
  Nat.div_eq_of_lt_le h1 (by rw[Nat.succ_mul];exact h2)
theorem iB.sorted {l:List α} {bs lo hi q:Nat} (h:iB lt l bs lo hi) (h1:lo≤q*bs) {b:Nat} (h2:b≤q*bs+bs) (h3:b≤hi):bu lt l (q*bs) b:=fun i j p1 p2 p3=>
  h i j (by omega) p2 (by omega) (by rw[sL p1 (by omega),sL (show q*bs≤j by omega) (by omega)])
theorem iB.add {l:List α} {bs q b:Nat} (hb:0 < bs) (h:iB lt l bs 0 (q*bs)) (hs:bu lt l (q*bs) b):iB lt l bs 0 b:=fun i j p1 p2 p3 p4=>by
  rcases Nat.lt_or_ge j (q*bs) with hj | hj
  · exact h i j p1 p2 hj p4
  · exact hs i j (vQ hb p4 hj) p2 p3
theorem iB.out {l l':List α} {bs lo hi a b:Nat} (h:iB lt l bs lo hi) (ht:cf l l' a b) (hd:hi≤a∨b≤lo):iB lt l' bs lo hi:=fun i j p1 p2 p3 p4=>by
  rw[ht.out i (by omega),ht.out j (by omega)]
  exact h i j p1 p2 p3 p4
variable (hw:oB lt)
theorem mS:∀ (f:Nat) (l:List α) (a:Nat),n≤l.length→a≤n→cf l (kY lt n f l a) 0 n
  | 0,l,_,_,_=>.refl _ _ _
  | f+1,l,a,h1,h2=>by
    unfold kY
    split
    · have t:=fk lt (l:=l) (a:=a) (b:=a+20) (by omega)
      exact(t.mono (by omega) (by omega)).trans (mS f _ _ (by rw[t.len];omega) (by omega))
    · exact(fk lt (by omega)).mono (by omega) (Nat.le_refl _)
include hw in
theorem pf:∀ (f:Nat) (l:List α) (q:Nat),n≤l.length→q*20≤n→n < q*20+f→iB lt l 20 0 (q*20)→iB lt (kY lt n f l (q*20)) 20 0 n
  | 0,l,q,_,_,hf,_=>by omega
  | f+1,l,q,h1,h2,hf,h=>by
    unfold kY
    split
    · have t:=fk lt (l:=l) (a:=q*20) (b:=q*20+20) (by omega)
      have:=pf f (eV lt l (q*20) (q*20+20)) (q+1) (by rw[t.len];omega) (by omega) (by omega) (by
        rw[show(q+1)*20=q*20+20 by omega]
        exact iB.add lt (by omega) (h.out lt t (.inl (Nat.le_refl _))) (mu lt hw (by omega)))
      rwa [show(q+1)*20=q*20+20 by omega] at this
    · have t:=fk lt (l:=l) (a:=q*20) (b:=n) (by omega)
      exact iB.add lt (by omega) (h.out lt t (.inl (Nat.le_refl _))) (mu lt hw (by omega))
theorem nk {bs:Nat} (hb:0 < bs):∀ (f:Nat) (l:List α) (a:Nat),n≤l.length→a≤n→cf l (ln lt n bs f l a) 0 n
  | 0,l,_,_,_=>.refl _ _ _
  | f+1,l,a,h1,h2=>by
    unfold ln
    split
    · have t:=dX lt n l a (a+bs) (a+2*bs) (by omega) (by omega) (by omega)
      exact(t.mono (by omega) (by omega)).trans (nk hb f _ _ (by rw[t.len];omega) (by omega))
    · split
      · exact(dX lt n l a (a+bs) n (by omega) (by omega) (by omega)).mono (by omega) (Nat.le_refl _)
      · exact .refl _ _ _
include hw in
theorem pe {bs:Nat} (hb:0 < bs):∀ (f:Nat) (l:List α) (q:Nat),n≤l.length→q*(2*bs)≤n→n < q*(2*bs)+f→iB lt l (2*bs) 0 (q*(2*bs))→iB lt l bs (q*(2*bs)) n→iB lt (ln lt n bs f l (q*(2*bs))) (2*bs) 0 n
  | 0,l,q,_,_,hf,_,_=>by omega
  | f+1,l,q,h1,h2,hf,h,g=>by
    have e2:q*(2*bs)=(2*q)*bs:=by rw[Nat.mul_comm 2 q,Nat.mul_assoc]
    have e3:q*(2*bs)+bs=(2*q+1)*bs:=by rw[e2,Nat.add_mul (2*q) 1 bs,Nat.one_mul]
    have g1:∀ b,b≤q*(2*bs)+bs→b≤n→bu lt l (q*(2*bs)) b:=fun b p1 p2=>by
      have:=iB.sorted lt (q:=2*q) g (by omega) (b:=b) (by omega) p2
      rwa [←e2] at this
    have g2:∀ b,b≤q*(2*bs)+2*bs→b≤n→bu lt l (q*(2*bs)+bs) b:=fun b p1 p2=>by
      have:=iB.sorted lt (q:=2*q+1) g (by omega) (b:=b) (by omega) p2
      rwa [←e3] at this
    unfold ln
    split
    · have t:=dX lt n l (q*(2*bs)) (q*(2*bs)+bs) (q*(2*bs)+2*bs) (by omega) (by omega) (by omega)
      have s:=j8 lt hw n l (q*(2*bs)) (q*(2*bs)+bs) (q*(2*bs)+2*bs) (by omega) (by omega) (by omega) (by omega) (g1 _ (Nat.le_refl _) (by omega)) (g2 _ (Nat.le_refl _) (by omega))
      have e4:(q+1)*(2*bs)=q*(2*bs)+2*bs:=by rw[Nat.succ_mul]
      have:=pe hb f (ep lt n l (q*(2*bs)) (q*(2*bs)+bs) (q*(2*bs)+2*bs)) (q+1) (by rw[t.len];omega) (by omega) (by omega) (by
        rw[e4]
        exact iB.add lt (by omega) (h.out lt t (.inl (Nat.le_refl _))) s) (by
        rw[e4]
        exact iB.out lt (fun i j p1 p2 p3 p4=>g i j (by omega) p2 p3 p4) t (.inr (Nat.le_refl _)))
      rwa [e4] at this
    · split
      · have t:=dX lt n l (q*(2*bs)) (q*(2*bs)+bs) n (by omega) (by omega) (by omega)
        exact iB.add lt (by omega) (h.out lt t (.inl (Nat.le_refl _))) (j8 lt hw n l _ _ n (by omega) (by omega) (by omega) (by omega) (g1 _ (Nat.le_refl _) (by omega)) (g2 _ (by omega) (Nat.le_refl _)))
      · exact iB.add lt (by omega) h (g1 n (by omega) (Nat.le_refl _))
theorem qW:∀ (f:Nat) (l:List α) (bs:Nat),0 < bs→n≤l.length→cf l (l6 lt n f l bs) 0 n
  | 0,l,_,_,_=>.refl _ _ _
  | f+1,l,bs,hb,h1=>by
    unfold l6
    split
    · have t:=nk lt n hb (n+1) l 0 h1 (by omega)
      exact t.trans (qW f _ _ (by omega) (by rw[t.len];omega))
    · exact .refl _ _ _
include hw in
theorem po:∀ (f:Nat) (l:List α) (bs:Nat),0 < bs→n≤l.length→n < bs+f→iB lt l bs 0 n→bu lt (l6 lt n f l bs) 0 n
  | 0,l,bs,hb,_,hf,h=>fun i j p1 p2 p3=>by
    show lt (el l j) (el l i)=false
    exact h i j p1 p2 p3 (by rw[Nat.div_eq_of_lt (by omega),Nat.div_eq_of_lt (by omega)])
  | f+1,l,bs,hb,h1,hf,h=>by
    unfold l6
    split
    · have t:=nk lt n hb (n+1) l 0 h1 (by omega)
      have s:=pe lt n hw hb (n+1) l 0 h1 (by omega) (by omega) (fun i j p1 p2 p3=>by omega) (by rw[Nat.zero_mul];exact h)
      rw[Nat.zero_mul] at s
      exact po f _ (2*bs) (by omega) (by rw[t.len];omega) (by omega) s
    · intro i j p1 p2 p3
      exact h i j p1 p2 p3 (by rw[Nat.div_eq_of_lt (by omega),Nat.div_eq_of_lt (by omega)])
theorem dI (l:List α):cf l (cH lt l) 0 l.length:=by
  have t:=mS lt l.length (l.length+1) l 0 (Nat.le_refl _) (Nat.zero_le _)
  exact t.trans (qW lt l.length _ _ 20 (by omega) (by rw[t.len];exact Nat.le_refl _))
include hw in
theorem rI (l:List α):bu lt (cH lt l) 0 l.length:=by
  have t:=mS lt l.length (l.length+1) l 0 (Nat.le_refl _) (Nat.zero_le _)
  have b:=pf lt l.length hw (l.length+1) l 0 (Nat.le_refl _) (by omega) (by omega) (fun i j p1 p2 p3=>by omega)
  rw[Nat.zero_mul] at b
  exact po lt l.length hw _ _ 20 (by omega) (by rw[t.len];exact Nat.le_refl _) (by omega) b
end
end Go.Tb
namespace Go.Ab
open Go.RowKit
section
variable {P:Program} (T:cB P) {C:Ctx} {n:Nat} {ops:Array Oper}
variable {f:List (Nat×A)} {bx:List (Nat×List A)} {lv:List Nat} {gen:Nat} {ty:TypeId} {pos:String} {af:Array Edge} {dst:Option Nat}
theorem AY {t e m:Nat} {x y:Operand} {td ed:cc} {k1 k2:IntKind} (hx:av f x=some (.d (.v (.int k1 (m:Int))))) (hy:av f y=some (.d (.v (.int k2 (m:Int))))) (ht:aA T.l t=some td) (hk:td.k=.slice e) (he:aA T.l e=some ed)
    (hz:Nat.blt 0 ed.n=true) (hb:(ed.b:Int)*(m:Int)≤281474976710656) (hm:m≤maxLen):Pu P C n ⟨f,bx,lv,gen⟩ ⟨dst,.makeSlice t x y,ty,pos,af,none⟩ (.d (.sl (List.replicate m (ed.z.map D.v)))):=by
  have hz:=Nat.le_of_ble_eq_true hz
  intro G tmps w hs
  have hu:=T.dZ ht hk
  obtain⟨i,z,hi,hin,hib,hiz,hzc,hzl,hzk,_⟩:=T.info he
  have hzs:z.cells.size=ed.n:=by rw[←hzl,←hzc];simp
  have hrx:=hs.av hx
  have hry:=hs.av hy
  generalize hvx:Act.eval ⟨tmps,[]⟩ x=vx at hrx
  generalize hvy:Act.eval ⟨tmps,[]⟩ y=vy at hry
  cases hrx with | d hrx=>cases hrx with | v _ _=>
  cases hry with | d hry=>cases hry with | v _ _=>
  have hrun:=run_make (P:=P) w t e i z hu hi hiz k1 k2 (m:Int) (m:Int) (Int.natCast_nonneg _) (Int.le_refl _) (by rw[hib];exact hb) (by simp only[maxLen] at hm;omega)
  simp only[Int.toNat_natCast] at hrun
  have hbl:Below w.heap.size w (w.alloc (.cells (madeCells z.cells (m*i.size)) e)):=(Below.refl _ w).alloc (Nat.le_refl _) _
  obtain⟨hle,hs'⟩:=hs.gL hbl
  refine cL (v:=.slice (some ⟨w.heap.size,0,none⟩) m m) (w':=w.alloc (.cells (madeCells z.cells (m*i.size)) e)) ?_ ⟨hbl,.d ?_⟩
  · unfold execOp
    show Sem.run P _ w=.ok _ _
    simp only[hvx,hvy,Sem.run_bind,hrun,Result.andThen_ok,Sem.run_pure]
  · rcases Nat.eq_zero_or_pos m with h0 | hpos
    · subst h0
      exact .emp _ 0 (by simp)
    · have:=bc.ofRow (w:=w.alloc (.cells (madeCells z.cells (m*i.size)) e)) (pv:=bD C G) (b:=w.heap.size) (cap:=m) (sz:=ed.n) (es:=List.replicate m (ed.z.map D.v)) (heap_alloc_new w _) (by simp) hm
        (fun x hx=>by rw[List.eq_of_mem_replicate hx,List.length_map,hzl]) (fun t _ hp=>by have:=oD hs hp;omega) (fun k j e' d hk hj=>by
          have hkm:k < m:=by have:=(List.getElem?_eq_some_iff.1 hk).1;simpa using this
          have he':=List.eq_of_mem_replicate (List.mem_of_getElem? hk)
          subst he'
          rw[List.getElem?_map,Option.map_eq_some_iff] at hj
          obtain⟨u,hu,rfl⟩:=hj
          have hjn:j < ed.n:=by rw[←hzl];exact(List.getElem?_eq_some_iff.1 hu).1
          refine⟨u,?_,.v _ (List.all_eq_true.1 hzk u (List.mem_of_getElem? hu))⟩
          unfold madeCells
          rw[Array.getElem?_map,Array.getElem?_range,if_pos (by rw[hin];exact qI hkm hjn),Option.map_some]
          have e1:(k*ed.n+j) % z.cells.size=j:=by rw[hzs,Nat.mul_comm,Nat.mul_add_mod,Nat.mod_eq_of_lt hjn]
          rw[e1,getElem!_pos z.cells j (by rw[hzs];exact hjn)]
          rw[←hzc] at hu
          congr 1
          simpa using (List.getElem?_eq_some_iff.1 hu).2)
      rw[List.length_replicate] at this
      exact this
end
end Go.Ab
namespace Go.Ab
theorem oz:∀ (l m:List A),eP (l++m)=(eP l && eP m)
  | [],m=>by simp[eP]
  | a::l,m=>by simp[eP,oz l m,Bool.and_assoc]
theorem tV:∀ l:List D,eP (l.map A.d)=true
  | []=>rfl
  | d::l=>by simp[eP,fH,tV l]
theorem qU:∀ k:Nat,eP (List.replicate k A.any)=true
  | 0=>rfl
  | k+1=>by simp[List.replicate_succ,eP,fH,qU k]
theorem bd (o:List Nat) (es:List (List D)) (k:Nat):fR o (a7 es k)=a7 es k:=
  fW o _ (by unfold a7;rw[oz,tV,qU];rfl)
theorem vR (gs:List Nat) (m:Nat) (es:List (List D)) (k:Nat):kf gs m (a7 es k)=a7 es k:=by
  rw[fU]
  unfold a7
  rw[List.map_append,List.map_map,List.map_replicate]
  rfl
theorem xy (bx:List (Nat×List A)) (gs os:List Nat) (n:Nat) (es:List (List D)) (k:Nat):(a7 es k).map (eE bx gs os (n+1))=a7 es k:=by
  unfold a7
  rw[List.map_append,List.map_map,List.map_replicate]
  rfl
theorem jB {order:List Nat} {bx:List (Nat×List A)} {es:List (List D)} {k:Nat} (h:aA bx 0=some (a7 es k)):rv order bx 0 [a7 es k]:=by
  refine⟨?_,trivial⟩
  rw[h]
  show some (fR order (a7 es k))=_
  rw[bd]
section
variable {P:Program} {C:Ctx} {n:Nat} {ops:Array Oper} {Q:Exit→St→Prop} {rest:List Oper}
variable {f:List (Nat×A)} {bx:List (Nat×List A)} {lv:List Nat} {gen:Nat} {d:Nat} {ty:TypeId} {pos:String} {af:Array Edge}
theorem iS [fw P] [GC P C] {x:Operand} {xs:Array Operand} {tys:Array TypeId} {fid:FuncId} {caps as' args:List A} {es es':List (List D)} {k:Nat} (g:Nat) (hx:av f x=some (.clo fid caps)) (hxs:jR f xs.toList=some as')
    (harg:(as'++caps).map (eE bx [g] [] 5)=args) (hb:aA bx g=some (a7 es k)) (hf:dE P fid args [a7 es k] 0 (.tup []) [a7 es' k] 0) (hd:Nat.blt d n=true)
    (h:WO P C n ops Q rest ⟨(d,.tup [])::f,(g,a7 es' k)::bx,lv,gen+1⟩) :
    WO P C n ops Q (⟨some d,.call ⟨.value x,xs,tys⟩,ty,pos,af,none⟩::rest) ⟨f,bx,lv,gen⟩:=by
  refine kQ [g] [] hx hxs harg (b0:=[a7 es k]) (by simp only[jA,hb];rw[xy]) rfl hf rfl rfl rfl hd rfl (bx':=(g,a7 es' k)::bx) (by simp only[jO];rw[vR];rfl) (lv':=lv) (by simp) (gen':=gen+1) (by show 1+0+gen=gen+1;omega) h
end
end Go.Ab
namespace Go.Tb
open Go.Ab
structure uT where
  left:List Nat
  right:List Nat
  m:Nat
  t:Nat
  more:List Nat
def mJ (o:uT) (x y:List aH):Bool:=decide ((bh x o.m).kind=0) || (decide ((bh y o.t).kind=0) || (decide ((bh x o.m).n < (bh y o.t).n) || !kq (bF x o.left) (bF y o.right)))
def ij (bs:List (List aH)) (i:Nat):List aH:=bs.getD i []
def lH (o:uT) (bs:List (List aH)) (x:List aH):List (List aH)→Nat→Option Nat→Option Nat
  | [],_,b=>b
  | y::r,k,b=>if mJ o x y=true then lH o bs x r (k+1) b else
      if idx b < 0∨(bh (ij bs (idx b).toNat) o.t).n≤(bh y o.t).n then lH o bs x r (k+1) (some k) else lH o bs x r (k+1) b
def wI (o:uT) (bs:List (List aH)) (b:Option Nat):List aH:=match b with
  | none=>List.replicate o.more.length gh
  | some i=>bF (ij bs i) o.more
def kA (o:uT) (bs:List (List aH)) (x:List aH):List aH:=x++wI o bs (lH o bs x bs 0 none)
def zT (a b:bo) (on:List ByteArray):uT:=⟨on.map (bw a.cols),on.map (bw b.cols),bw a.cols aP,bw b.cols aP,eF (on++[aP]) b.cols 0⟩
def hZ (a b:bo) (on:List ByteArray):bo×Int:=
  if (eL 8 on a b).2≠0 then (fL,(eL 8 on a b).2) else (⟨(eL 8 on a b).1,a.rows.map (kA (zT a b on) b.rows)⟩,0)
structure A7 (o:uT) (n m:Nat):Prop where
  left:∀ i∈o.left,i < n
  right:∀ i∈o.right,i < m
  mm:o.m < n
  tt:o.t < m
  more:∀ i∈o.more,i < m
theorem A8 {a b:bo} {on:List ByteArray} (h:x8 a b on (aM 8)):A7 (zT a b on) a.cols.length b.cols.length:=by
  have e:aM 8=[aP]:=rfl
  rw[e] at h
  refine⟨fun i hi=>?_,fun i hi=>?_,?_,?_,fun i hi=>?_⟩
  · obtain⟨s,hs,rfl⟩:=List.mem_map.1 hi
    obtain⟨i,j,c,d,h1,h2,h3,h4,_⟩:=h.ons s hs
    rw[cm h1];exact(List.getElem?_eq_some_iff.1 h3).1
  · obtain⟨s,hs,rfl⟩:=List.mem_map.1 hi
    obtain⟨i,j,c,d,h1,h2,h3,h4,_⟩:=h.ons s hs
    rw[cm h2];exact(List.getElem?_eq_some_iff.1 h4).1
  · obtain⟨i,c,h1,h2,_⟩:=h.spa aP (by simp)
    show bw a.cols aP < _
    rw[cm h1];exact(List.getElem?_eq_some_iff.1 h2).1
  · obtain⟨i,c,h1,h2,_⟩:=h.spb aP (by simp)
    show bw b.cols aP < _
    rw[cm h1];exact(List.getElem?_eq_some_iff.1 h2).1
  · have:=nn _ b.cols 0 i hi
    omega
theorem th {bs:List (List aH)} {i:Nat} (h:i < bs.length):bs[i]? = some (ij bs i):=by
  unfold ij
  rw[List.getD_eq_getElem?_getD,List.getElem?_eq_getElem h];rfl
end Go.Tb
namespace Go.Ab
section
variable {P:Program} {C:Ctx} {n:Nat} {Q:Exit→St→Prop}
variable {f:List (Nat×A)} {bx:List (Nat×List A)} {lv:List Nat} {gen:Nat} {c:Code}
theorem wg (s:Nat) {g:Nat} {es:List (List D)} (hl:look f s=some (.own g es)) (hsn:Nat.blt s n=true) (h:W P C n c Q ⟨(s,.d (.sl es))::f,bx,lv,gen⟩):W P C n c Q ⟨f,bx,lv,gen⟩:=by
  intro tmps w ⟨G,hs⟩
  obtain⟨v,hv,hr⟩:=hs.frame s _ hl
  cases hr with
  | own _ _ _ hd _ _=>
  refine h tmps w ⟨G,?_⟩
  have:=hs.set (d:=s) (Nat.le_of_ble_eq_true hsn) (.d hd)
  rwa [fZ hv] at this
end
end Go.Ab
namespace Go.Tb
open Go.Ab
structure A9 (left:List Nat) (m0 m1 n:Nat):Prop where
  left:∀ i∈left,i < n
  m0:m0 < n
  m1:m1 < n
theorem zU {a:bo} {on:List ByteArray} (h:yO a on):A9 (on.map (bw a.cols)) (bw a.cols aP) (bw a.cols bp) a.cols.length:=by
  refine⟨fun i hi=>?_,?_,?_⟩
  · obtain⟨s,hs,rfl⟩:=List.mem_map.1 hi
    obtain⟨i,c,h1,h2⟩:=h.ons s hs
    rw[cm h1];exact(List.getElem?_eq_some_iff.1 h2).1
  · obtain⟨i,c,h1,h2,_⟩:=h.fr
    rw[cm h1];exact(List.getElem?_eq_some_iff.1 h2).1
  · obtain⟨i,c,h1,h2,_⟩:=h.to
    rw[cm h1];exact(List.getElem?_eq_some_iff.1 h2).1
end Go.Tb
namespace Go.Ab
section
variable {P:Program} {C:Ctx} {n:Nat} {ops:Array Oper} {Q:Exit→St→Prop} {rest:List Oper}
variable {f:List (Nat×A)} {bx:List (Nat×List A)} {lv:List Nat} {gen:Nat}
end
end Go.Ab
namespace Go.Tb
open Go.Ab
deriving instance DecidableEq for bo
def b9 (n:Int):aH:=⟨2,n,B #[]⟩
def oR (s:ByteArray):aH:=⟨3,0,s⟩
def gr (s:ByteArray):Col:=⟨s,if s=B #[107] then 3 else 2⟩
def lq:List (List aH)→Int→Int
  | [],n=>n
  | r::l,n=>if n≤600 then lq l (IntKind.i64.wrap (IntKind.i64.wrap (n+1)+(r.length:Int))) else n
def lz (t:bo):Bool:=decide (lq t.rows (t.cols.length:Int)≤600) && decide ((t.cols.length:Int)≤40)
def qF (a b:bo) (on:List ByteArray):Bool:=lz a && (lz b && decide ((on.length:Int)≤40))
theorem xO {a b:bo} {on:List ByteArray} (h:qF a b on=true):on.length≤40∧a.cols.length≤40∧b.cols.length≤40:=by
  simp only[qF,lz,Bool.and_eq_true,decide_eq_true_eq] at h
  omega
end Go.Tb
namespace Go.Tb
open Go.Ab
def jt (op:Int) (on:List ByteArray) (a b:bo):CT:=if op=9 then dY 9 on a else eL op on a b
def kO (r:List aH) (i j:Nat):Bool:=!decide ((bh r i).kind=0) && (!decide ((bh r j).kind=0) && decide ((bh r i).n < (bh r j).n))
end Go.Tb
namespace Go.Tb
open Go.Ab
theorem yG {v:aH} (h:bO 2 v=0):decide (v.kind=2) = !decide (v.kind=0):=by
  rcases nI h with rfl | ⟨h1,_⟩
  · rfl
  · rw[h1];rfl
theorem yB {t:bo} (h:bj t=0) {r:List aH} (hr:r∈t.rows) {i j:Nat} {c d:Col} (hi:t.cols[i]? = some c) (hj:t.cols[j]? = some d) (hc:c.type=2) (hd:d.type=2):kO r i j=cM r i j:=by
  have h1:=(oG h hr hi).2
  have h2:=(oG h hr hj).2
  rw[hc] at h1
  rw[hd] at h2
  unfold kO cM
  rw[yG h1,yG h2]
end Go.Tb
namespace Go.Tb
open Go.Ab
end Go.Tb
namespace Go.Tb
open Go.Ab
theorem uJ:∀ (l r:List Col) (k:Nat),l.drop k=r→(fu l k r=false↔∀ i j x y,k≤j→i < j→l[i]? = some x→l[j]? = some y→x.name≠y.name)
  | l,[],k,h=>by
    simp only[fu,true_iff]
    intro i j x y hj _ _ hy
    have hlt:=(List.getElem?_eq_some_iff.1 hy).1
    have:=List.drop_eq_nil_iff.1 h
    omega
  | l,c::r,k,h=>by
    have hk:l[k]? = some c:=by
      have:(l.drop k)[0]? = some c:=by rw[h];rfl
      simpa using this
    have hr:l.drop (k+1)=r:=by
      have:(l.drop k).drop 1=r:=by rw[h];rfl
      rw[List.drop_drop] at this
      exact this
    have ih:=uJ l r (k+1) hr
    simp only[fu,Bool.or_eq_false_iff,ih]
    constructor
    · rintro⟨h1,h2⟩ i j x y hj hij hx hy
      rcases Nat.lt_or_ge k j with hlt | hge
      · exact h2 i j x y hlt hij hx hy
      · have:j=k:=by omega
        subst this
        rw[hk] at hy
        simp only[Option.some.injEq] at hy
        subst hy
        intro he
        have hmem:x∈l.take j:=by
          rw[List.mem_iff_getElem?]
          exact⟨i,by rw[List.getElem?_take,if_pos hij];exact hx⟩
        have:=List.any_eq_false.1 h1 x hmem
        simp[he] at this
    · intro h1
      refine⟨?_,fun i j x y hj=>h1 i j x y (by omega)⟩
      rw[List.any_eq_false]
      intro x hx
      obtain⟨i,hi⟩:=List.mem_iff_getElem?.1 hx
      rw[List.getElem?_take] at hi
      split at hi
      · rename_i hlt
        have:=h1 i k x c (Nat.le_refl _) hlt hi hk
        simpa using this
      · cases hi
theorem sq {l:List Col}:fu l 0 l=false↔(l.map Col.name).Nodup:=by
  rw[uJ l l 0 rfl]
  constructor
  · intro h
    refine List.pairwise_iff_getElem.2 fun i j hi hj hij=>?_
    simp only[List.getElem_map]
    have hi':i < l.length:=by simpa using hi
    have hj':j < l.length:=by simpa using hj
    exact h i j _ _ (Nat.zero_le _) hij (by simp[hi']) (by simp[hj'])
  · intro h i j x y _ hij hx hy
    obtain⟨hi,rfl⟩:=List.getElem?_eq_some_iff.1 hx
    obtain⟨hj,rfl⟩:=List.getElem?_eq_some_iff.1 hy
    have:=List.pairwise_iff_getElem.1 h i j (by simpa using hi) (by simpa using hj) hij
    simpa using this
def qZ (c:Col):Prop:=c7 c.name=0∧(c.type=1∨c.type=2∨c.type=3)
theorem mg (all:List Col):∀ (l:List Col) (k:Nat),dG all k l=0↔(∀ c∈l,qZ c)∧fu all k l=false
  | [],k=>by simp[dG,fu]
  | c::r,k=>by
    have ih:=mg all r (k+1)
    simp only[dG,fu,List.mem_cons,Bool.or_eq_false_iff]
    have hb:dH all k c=0↔qZ c∧(all.take k).any (fun x=>decide (x.name=c.name))=false:=by
      unfold dH qZ
      by_cases h1:c7 c.name=0
      · rw[if_neg (by simp[h1])]
        by_cases h2:(all.take k).any (fun x=>decide (x.name=c.name))=true
        · rw[if_pos h2];simp[h2]
        · rw[if_neg h2]
          by_cases h3:c.type≠1∧c.type≠2∧c.type≠3
          · rw[if_pos h3]
            constructor
            · intro h;cases h
            · rintro⟨⟨_,h⟩,_⟩;omega
          · rw[if_neg h3]
            exact⟨fun _=>⟨⟨h1,by omega⟩,by simpa using h2⟩,fun _=>rfl⟩
      · rw[if_pos h1]
        exact⟨fun h=>absurd h h1,fun h=>absurd h.1.1 h1⟩
    by_cases h:dH all k c=0
    · rw[if_neg (by simp[h])]
      have:=hb.1 h
      rw[ih]
      exact⟨fun q=>⟨fun x hx=>by rcases hx with rfl | hx;exact this.1;exact q.1 x hx,this.2,q.2⟩,fun q=>⟨fun x hx=>q.1 x (.inr hx),q.2.2⟩⟩
    · rw[if_pos h]
      exact⟨fun q=>absurd q h,fun q=>absurd (hb.2 ⟨q.1 c (.inl rfl),q.2.1⟩) h⟩
theorem ue {t:bo} (h:bj t=0):(∀ c∈t.cols,qZ c)∧(t.cols.map Col.name).Nodup:=by
  unfold bj at h
  split at h
  · cases h
  · split at h
    · rename_i h2;exact absurd h h2
    · rename_i h2
      have:=(mg t.cols t.cols 0).1 (by simpa using h2)
      exact⟨this.1,sq.1 this.2⟩
theorem pn:∀ {cols:List Col} {r:List aH},(∀ (i:Nat) (c:Col) (v:aH),cols[i]? = some c→r[i]? = some v→bO c.type v=0)→c8 cols r=0
  | [],_,_=>rfl
  | _::_,[],_=>rfl
  | c::cols,v::r,h=>by
    simp only[c8]
    rw[if_neg (by simp[h 0 c v rfl rfl])]
    exact pn fun i d w hd hw=>h (i+1) d w (by simpa using hd) (by simpa using hw)
theorem qL {cols:List Col}:∀ {rows:List (List aH)},(∀ x∈rows,x.length=cols.length∧c8 cols x=0)→ec cols rows=0
  | [],_=>rfl
  | x::r,h=>by
    simp only[ec]
    have:=h x (List.mem_cons_self ..)
    rw[if_neg (by simp[this.1]),if_neg (by simp[this.2])]
    exact qL fun y hy=>h y (List.mem_cons_of_mem _ hy)
theorem Ay {cols:List Col} {rows:List (List aH)} (hl:cols.length≤32) (hr:rows.length≤20000) (hc:∀ c∈cols,qZ c) (hn:(cols.map Col.name).Nodup) (hx:∀ x∈rows,x.length=cols.length∧c8 cols x=0):bj ⟨cols,rows⟩=0:=by
  unfold bj
  have h1:=(mg cols cols 0).2 ⟨hc,sq.2 hn⟩
  rw[if_neg (by dsimp only;omega),if_neg (by simp[h1])]
  exact qL hx
theorem qu {cols more:List Col} {x y:List aH} (hl:x.length=cols.length) (h1:∀ (i:Nat) (c:Col) (v:aH),cols[i]? = some c→x[i]? = some v→bO c.type v=0) (h2:∀ (i:Nat) (c:Col) (v:aH),more[i]? = some c→y[i]? = some v→bO c.type v=0) :
    c8 (cols++more) (x++y)=0:=
  pn fun i c v hc hv=>by
    by_cases q:i < cols.length
    · rw[List.getElem?_append_left q] at hc
      rw[List.getElem?_append_left (by omega)] at hv
      exact h1 i c v hc hv
    · rw[List.getElem?_append_right (by omega)] at hc
      rw[List.getElem?_append_right (by omega),hl] at hv
      exact h2 _ c v hc hv
structure Ak (op:Int) (a b:bo) (on:List ByteArray):Prop where
  ga:bj a=0
  gb:bj b=0
  st:bZ (cG op on wB)=0
  no:(aM op).any (fun n=>on.any fun x=>decide (n=x))=false
  on_:ew a.cols b.cols on=0
  sa:cZ a.cols (aM op)=0
  sb:cZ b.cols (aM op)=0
  nd:((a.cols++dm on (aM op) b.cols).map Col.name).Nodup
  len:(a.cols++dm on (aM op) b.cols).length≤32
end Go.Tb
namespace Go.Tb
open Go.Ab
/-! pairs of rows that meet -/
def meets (o:qw) (x y:List aH):Bool:=cM x o.m0 o.m1 && lF o x y
/-! sums over pairs -/
/-! exchanged -/
theorem Ak.has {op:Int} {a b:bo} {on:List ByteArray} (h:Ak op a b on):(∀ s∈on++aM op,∃ c∈a.cols,c.name=s)∧∀ s∈on++aM op,∃ c∈b.cols,c.name=s:=by
  have hin:∀ {cols:List Col} {s:ByteArray} {i:Nat},dp cols s=some i→∃ c∈cols,c.name=s:=fun {cols s i} hi=>by
    unfold dp at hi
    rw[List.findIdx?_eq_some_iff_getElem] at hi
    obtain⟨hlt,hp,_⟩:=hi
    exact⟨_,List.getElem_mem hlt,by simpa using hp⟩
  have ho:=mM h.on_
  have h1:=ia h.sa
  have h2:=ia h.sb
  refine⟨fun s hs=>?_,fun s hs=>?_⟩
  · rcases List.mem_append.1 hs with hs | hs
    · obtain⟨i,j,c,d,p1,_⟩:=ho s hs;exact hin p1
    · obtain⟨i,c,p1,_⟩:=h1 s hs;exact hin p1
  · rcases List.mem_append.1 hs with hs | hs
    · obtain⟨i,j,c,d,_,p1,_⟩:=ho s hs;exact hin p1
    · obtain⟨i,c,p1,_⟩:=h2 s hs;exact hin p1
/-! the result -/
theorem uP {v:aH} (hv:bO 2 v=0) (hk:v.kind=2):mj v.n=true:=by
  rcases vU.1 hv with rfl | ⟨h,_⟩ | ⟨_,n,hn,rfl⟩ | ⟨h,_⟩
  · cases hk
  · exact absurd h (by decide)
  · exact hn
  · exact absurd h (by decide)
end Go.Tb
namespace Go.Tb
open Go.Ab
/-! orders -/
structure jr {α:Type} (c:α→α→Int):Prop where
  anti:∀ a b,c b a = - c a b
  tr:∀ a b d,c a b≤0→c b d≤0→c a d≤0
theorem jr.self {α:Type} {c:α→α→Int} (h:jr c) (a:α):c a a=0:=by have:=h.anti a a;omega
theorem jr.left {α:Type} {c:α→α→Int} (h:jr c) {a b d:α} (h1:c a b < 0) (h2:c b d≤0):c a d < 0:=by
  have h3:=h.tr a b d (by omega) h2
  rcases Int.lt_or_eq_of_le h3 with h4 | h4
  · exact h4
  · have h5:=h.tr b d a h2 (by rw[h.anti];omega)
    have:=h.anti a b;omega
theorem jr.right {α:Type} {c:α→α→Int} (h:jr c) {a b d:α} (h1:c a b≤0) (h2:c b d < 0):c a d < 0:=by
  have h3:=h.tr a b d h1 (by omega)
  rcases Int.lt_or_eq_of_le h3 with h4 | h4
  · exact h4
  · have h5:=h.tr d a b (by rw[h.anti];omega) h1
    have:=h.anti b d;omega
theorem jr.lex {α:Type} {c d:α→α→Int} (h:jr c) (g:jr d):jr (fun a b=>if c a b≠0 then c a b else d a b) where
  anti a b:=by
    have h1:=h.anti a b
    have h2:=g.anti a b
    by_cases q:c a b=0
    · rw[if_neg (by omega),if_neg (by omega)];exact h2
    · rw[if_pos (by omega),if_pos q];exact h1
  tr a b e:=by
    intro p q
    have le1:c a b≤0:=by split at p <;> omega
    have le2:c b e≤0:=by split at q <;> omega
    have le3:=h.tr a b e le1 le2
    by_cases z:c a e=0
    · rw[if_neg (by omega)]
      have z1:c a b=0:=by
        rcases Int.lt_or_eq_of_le le1 with h4 | h4
        · have:=h.left h4 le2;omega
        · exact h4
      have z2:c b e=0:=by
        rcases Int.lt_or_eq_of_le le2 with h4 | h4
        · have:=h.right le1 h4;omega
        · exact h4
      rw[if_neg (by omega)] at p
      rw[if_neg (by omega)] at q
      exact g.tr a b e p q
    · rw[if_pos z];exact le3
theorem gD:jr cI where
  anti a b:=by unfold cI;split <;> split <;> (try split) <;> omega
  tr a b d:=by unfold cI;split <;> split <;> (try split) <;> (try split) <;> (try split) <;> omega
theorem jy:∀ a b:List UInt8,Op.bytesLess a b=true→Op.bytesLess b a=false
  | [],[],_=>rfl
  | [],_::_,_=>rfl
  | _::_,[],h=>by cases h
  | x::a,y::b,h=>by
    simp only[Op.bytesLess,Bool.or_eq_true,Bool.and_eq_true,decide_eq_true_eq,beq_iff_eq] at h
    simp only[Op.bytesLess,Bool.or_eq_false_iff,Bool.and_eq_false_imp,decide_eq_false_iff_not,beq_iff_eq]
    rcases h with h | ⟨rfl,h⟩
    · exact⟨by intro q;exact absurd (UInt8.lt_trans h q) (UInt8.lt_irrefl _),by rintro rfl;exact absurd h (UInt8.lt_irrefl _)⟩
    · exact⟨UInt8.lt_irrefl _,fun _=>jy a b h⟩
theorem lI:∀ a b:List UInt8,a≠b→Op.bytesLess a b=false→Op.bytesLess b a=true
  | [],[],h,_=>absurd rfl h
  | [],_::_,_,h=>by cases h
  | _::_,[],_,_=>rfl
  | x::a,y::b,h,hf=>by
    simp only[Op.bytesLess,Bool.or_eq_false_iff,Bool.and_eq_false_imp,decide_eq_false_iff_not,beq_iff_eq] at hf
    simp only[Op.bytesLess,Bool.or_eq_true,Bool.and_eq_true,decide_eq_true_eq,beq_iff_eq]
    by_cases q:x=y
    · subst q
      exact .inr ⟨rfl,lI a b (fun e=>h (by rw[e])) (hf.2 rfl)⟩
    · left
      rcases UInt8.lt_or_lt_of_ne q with h1 | h1
      · exact absurd h1 hf.1
      · exact h1
theorem lK:∀ a b d:List UInt8,Op.bytesLess a b=true→Op.bytesLess b d=true→Op.bytesLess a d=true
  | [],[],_,h,_=>by cases h
  | [],_::_,[],_,h=>by cases h
  | [],_::_,_::_,_,_=>rfl
  | _::_,[],_,h,_=>by cases h
  | _::_,_::_,[],_,h=>by cases h
  | x::a,y::b,z::d,h,g=>by
    simp only[Op.bytesLess,Bool.or_eq_true,Bool.and_eq_true,decide_eq_true_eq,beq_iff_eq] at h g ⊢
    rcases h with h | ⟨rfl,h⟩
    · rcases g with g | ⟨rfl,g⟩
      · exact .inl (UInt8.lt_trans h g)
      · exact .inl h
    · rcases g with g | ⟨rfl,g⟩
      · exact .inl g
      · exact .inr ⟨rfl,lK a b d h g⟩
theorem w3 {a b:ByteArray} (h:a≠b):a.toList≠b.toList:=fun e=>h (by
  rw[ByteArray.toList_eq,ByteArray.toList_eq] at e
  exact ByteArray.ext (Array.ext' e))
theorem vg:jr fP where
  anti a b:=by
    unfold fP
    by_cases q:a=b
    · subst q
      have:Op.bytesLess a.toList a.toList=false:=by
        cases h:Op.bytesLess a.toList a.toList with
        | false=>rfl
        | true=>have:=jy _ _ h;rw[h] at this;cases this
      rw[this];simp
    · cases h:Op.bytesLess a.toList b.toList with
      | true=>rw[jy _ _ h];simp[Ne.symm q]
      | false=>rw[lI _ _ (w3 q) h];simp[q]
  tr a b d:=by
    intro p q
    unfold fP at p q ⊢
    cases h1:Op.bytesLess a.toList b.toList with
    | true=>
      cases h2:Op.bytesLess b.toList d.toList with
      | true=>rw[lK _ _ _ h1 h2];simp
      | false=>
        rw[h2] at q
        by_cases e:b=d
        · subst e;rw[h1];simp
        · simp[e] at q
    | false=>
      rw[h1] at p
      by_cases e:a=b
      · subst e;exact q
      · simp[e] at p
theorem oM:jr dd where
  anti a b:=by
    unfold dd
    by_cases q:a.kind=b.kind
    · rw[if_neg (fun e:b.kind≠a.kind=>e q.symm),if_neg (fun e:a.kind≠b.kind=>e q),q]
      by_cases k:b.kind=3
      · rw[if_pos k,if_pos k];exact vg.anti _ _
      · rw[if_neg k,if_neg k]
        by_cases k2:b.kind=1∨b.kind=2
        · rw[if_pos k2,if_pos k2];exact gD.anti _ _
        · rw[if_neg k2,if_neg k2];rfl
    · rw[if_pos q,if_pos (fun e=>q e.symm)];exact gD.anti _ _
  tr a b d:=by
    intro p q
    have hk1:cI a.kind b.kind≤0:=by
      unfold dd at p
      by_cases e:a.kind=b.kind
      · rw[e,gD.self];exact Int.le_refl _
      · rwa [if_pos e] at p
    have hk2:cI b.kind d.kind≤0:=by
      unfold dd at q
      by_cases e:b.kind=d.kind
      · rw[e,gD.self];exact Int.le_refl _
      · rwa [if_pos e] at q
    have hk3:=gD.tr _ _ _ hk1 hk2
    unfold dd at p q ⊢
    by_cases e:a.kind=d.kind
    · rw[if_neg (by simp[e])]
      have e1:a.kind=b.kind:=by
        have h1:a.kind≤b.kind:=by unfold cI at hk1;split at hk1 <;> (try split at hk1) <;> omega
        have h2:b.kind≤d.kind:=by unfold cI at hk2;split at hk2 <;> (try split at hk2) <;> omega
        omega
      have e2:b.kind=d.kind:=by omega
      rw[if_neg (by simp[e1])] at p
      rw[if_neg (by simp[e2])] at q
      rw[←e1] at q
      split
      · rename_i k
        rw[if_pos k] at p q
        exact vg.tr _ _ _ p q
      · rename_i k
        rw[if_neg k] at p q
        split
        · rename_i k2
          rw[if_pos k2] at p q
          exact gD.tr _ _ _ p q
        · exact Int.le_refl _
    · rw[if_pos e];exact hk3
def bT:List aH→List aH→Int
  | [],[]=>0
  | [],_::_=>-1
  | _::_,[]=>1
  | x::r,y::s=>if dd x y≠0 then dd x y else bT r s
theorem qV:∀ a b:List aH,bT b a = - bT a b
  | [],[]=>rfl
  | [],_::_=>rfl
  | _::_,[]=>rfl
  | x::r,y::s=>by
    have h1:=oM.anti x y
    have h2:=qV r s
    simp only[bT]
    by_cases q:dd x y=0
    · rw[if_neg (by omega),if_neg (by omega)];exact h2
    · rw[if_pos (by omega),if_pos q];exact h1
theorem tp:∀ a b d:List aH,bT a b≤0→bT b d≤0→bT a d≤0
  | [],_,[],_,_=>Int.le_refl _
  | [],_,_::_,_,_=>by simp only[bT];omega
  | _::_,[],_,h,_=>by simp only[bT] at h;omega
  | _::_,_::_,[],_,h=>by simp only[bT] at h;omega
  | x::r,y::s,z::t,p,q=>by
    simp only[bT] at p q ⊢
    have le1:dd x y≤0:=by split at p <;> omega
    have le2:dd y z≤0:=by split at q <;> omega
    have le3:=oM.tr x y z le1 le2
    by_cases e:dd x z=0
    · rw[if_neg (by omega)]
      have z1:dd x y=0:=by
        rcases Int.lt_or_eq_of_le le1 with h4 | h4
        · have:=oM.left h4 le2;omega
        · exact h4
      have z2:dd y z=0:=by
        rcases Int.lt_or_eq_of_le le2 with h4 | h4
        · have:=oM.right le1 h4;omega
        · exact h4
      rw[if_neg (by omega)] at p
      rw[if_neg (by omega)] at q
      exact tp r s t p q
    · rw[if_pos e];exact le3
theorem ja:jr bT:=⟨qV,tp⟩
structure Pc where
  key:List aH
  fr:Int
  to:Int
  deriving DecidableEq
@[reducible] def Pc.c (p:Pc):List D:=[.sl (p.key.map aH.c),ci p.fr,ci p.to]
instance:Inhabited Pc:=⟨⟨[],0,0⟩⟩
def jc (a b:Pc):Int:=if bT a.key b.key≠0 then bT a.key b.key else cI a.fr b.fr
def bg (a b:Pc):Bool:=decide (jc a b < 0)
theorem gw:jr jc:=by
  have h1:jr fun a b:Pc=>bT a.key b.key:=⟨fun a b=>ja.anti _ _,fun a b d=>ja.tr _ _ _⟩
  have h2:jr fun a b:Pc=>cI a.fr b.fr:=⟨fun a b=>gD.anti _ _,fun a b d=>gD.tr _ _ _⟩
  exact h1.lex h2
theorem zc:oB bg where
  asymm x y h:=by
    have:=gw.anti x y
    unfold bg at h ⊢
    simp only[decide_eq_true_eq,decide_eq_false_iff_not] at h ⊢
    omega
  trans x y z h1 h2:=by
    unfold bg at h1 h2 ⊢
    simp only[decide_eq_false_iff_not] at h1 h2 ⊢
    have a1:=gw.anti x y
    have a2:=gw.anti y z
    have a3:=gw.anti x z
    have:=gw.tr x y z (by omega) (by omega)
    omega
/-! joining -/
def eJ (z:List aH) (m0 m1:Nat):Bool:=cM z m0 m1 && decide (0≤(bh z m0).n)
def gK (left:List Nat) (m0 m1:Nat) (z:List aH):Pc:=⟨bF z left,(bh z m0).n,(bh z m1).n⟩
def pieces (left:List Nat) (m0 m1:Nat):List (List aH)→List Pc
  | []=>[]
  | z::r=>if eJ z m0 m1=true then gK left m0 m1 z::pieces left m0 m1 r else pieces left m0 m1 r
def bC (out:List Pc):Pc:=el out (out.length - 1)
def cK (out:List Pc) (p:Pc):Bool:=decide (0 < out.length) && (decide ((bC out).key=p.key) && decide (p.fr≤(bC out).to))
def dD (q p:Pc):Pc:=⟨q.key,q.fr,if q.to < p.to then p.to else q.to⟩
def db (out:List Pc):List Pc→List Pc
  | []=>out
  | p::r=>if cK out p=true then db (out.set (out.length - 1) (dD (bC out) p)) r else db (out++[p]) r
def a0 (p:Pc):List aH:=p.key++[⟨2,p.fr,B #[]⟩,⟨2,p.to,B #[]⟩]
def cO (a:bo) (on:List ByteArray):List Nat:=on.map (bw a.cols)
def jK (a:bo) (on:List ByteArray):List Pc:=db [] (cH bg (pieces (cO a on) (bw a.cols aP) (bw a.cols bp) a.rows))
def bb (a:bo) (on:List ByteArray):bo×Int:=
  if (dY 9 on a).2≠0 then (fL,(dY 9 on a).2) else (⟨(dY 9 on a).1,(jK a on).map a0⟩,0)
theorem mI (left:List Nat) (m0 m1:Nat):∀ (l:List (List aH)),(pieces left m0 m1 l).length≤l.length
  | []=>Nat.le_refl _
  | z::r=>by
    have:=mI left m0 m1 r
    simp only[pieces,List.length_cons]
    split <;> simp <;> omega
theorem kH (left:List Nat) (m0 m1:Nat):∀ (l:List (List aH)),∀ p∈pieces left m0 m1 l,p.key.length=left.length
  | [],p,h=>by cases h
  | z::r,p,h=>by
    simp only[pieces] at h
    split at h
    · rcases List.mem_cons.1 h with rfl | h
      · exact List.length_map _
      · exact kH left m0 m1 r p h
    · exact kH left m0 m1 r p h
theorem nR {out:List Pc} (h:0 < out.length):bC out∈out:=List.mem_of_getElem? (gv (by omega:out.length - 1 < out.length))
theorem lT {m:Nat}:∀ (l out:List Pc),(∀ p∈l,p.key.length=m)→(∀ p∈out,p.key.length=m)→∀ p∈db out l,p.key.length=m
  | [],out,_,h,p,hp=>h p hp
  | q::r,out,hl,h,p,hp=>by
    simp only[db] at hp
    split at hp
    · rename_i ht
      have h0:0 < out.length:=by unfold cK at ht;simp at ht;exact ht.1
      refine lT r _ (fun x hx=>hl x (List.mem_cons_of_mem _ hx)) (fun x hx=>?_) p hp
      rcases List.mem_or_eq_of_mem_set hx with hx | rfl
      · exact h x hx
      · show(bC out).key.length=m
        exact h _ (nR h0)
    · refine lT r _ (fun x hx=>hl x (List.mem_cons_of_mem _ hx)) (fun x hx=>?_) p hp
      rcases List.mem_append.1 hx with hx | hx
      · exact h x hx
      · rw[List.mem_singleton.1 hx];exact hl q List.mem_cons_self
theorem lJ:∀ (l out:List Pc),(db out l).length≤out.length+l.length
  | [],out=>Nat.le_refl _
  | q::r,out=>by
    simp only[db]
    split
    · have:=lJ r (out.set (out.length - 1) (dD (bC out) q));rw[List.length_set] at this;simp;omega
    · have:=lJ r (out++[q]);rw[List.length_append] at this;simp at this ⊢;omega
end Go.Tb
namespace Go.Ab
open Go.RowKit
section
variable {P:Program} (T:cB P) {C:Ctx} {n:Nat} {ops:Array Oper} {Q:Exit→St→Prop} {rest:List Oper}
variable {f:List (Nat×A)} {bx:List (Nat×List A)} {lv:List Nat} {gen:Nat} {d:Nat} {op:Op} {ty:TypeId} {pos:String} {af:Array Edge} {a:A} {dst:Option Nat} {c:Code}
theorem fh.same {w:World} {pv:Nat→Nat→Prop} {r:Row} {v v':Value} {es es':List (List D)} (h:fh w pv r v es) (h':fh w pv r v' es'):v=v':=by
  cases r with
  | nil=>exact h.1.trans h'.1.symm
  | zero b=>exact h.1.trans h'.1.symm
  | blk b len cap sz pub=>exact h.1.trans h'.1.symm
  | mp b=>exact h.elim
end
end Go.Ab
namespace Go.Ab
open Go.RowKit
mutual
def kt (g:Nat):A→Bool
  | .ptr g' _=>!Nat.beq g' g
  | .np g' _ _=>!Nat.beq g' g
  | .sb g' _ _=>!Nat.beq g' g
  | .lk g' _ _ _=>!Nat.beq g' g
  | .agg l=>lu g l
  | .tup l=>lu g l
  | .row l=>lu g l
  | .clo _ l=>lu g l
  | .bnd _ l=>lu g l
  | _=>true
def lu (g:Nat):List A→Bool
  | []=>true
  | a::l=>kt g a && lu g l
end
theorem gR {g:Nat}:∀ {l:List A},lu g l=true→∀ a∈l,kt g a=true
  | [],_,a,ha=>by cases ha
  | b::l,h,a,ha=>by
    simp only[lu,Bool.and_eq_true] at h
    cases ha with
    | head=>exact h.1
    | tail _ ha=>exact gR h.2 a ha
theorem aW.forget {E E':En} {g:Nat} (hw:E.w=E'.w) (hc:∀ b o u,cellAt E.w b o=some u→¬ E.pv b o→cellAt E'.w b o=some u∧¬ E'.pv b o) (hold:∀ b,E.old b→E'.old b) (hb:∀ g' b,g'≠g→E.box g'=some b→E'.box g'=some b) (ho:E'.own=E.own) (hg:E'.gen=E.gen)
    {v:Value} {a:A} (h:aW E v a) (ha:kt g a=true):aW E' v a:=by
  have hne:∀ {g'},(!Nat.beq g' g)=true→g'≠g:=fun h e=>by subst e;simp at h
  have hc':∀ b o u,cellAt E.w b o=some u→¬ E.pv b o→cellAt E.w b o=some u∧¬ E'.pv b o:=fun b o u h1 h2=>⟨h1,(hc b o u h1 h2).2⟩
  induction h with
  | any x=>exact .any x
  | d hd=>exact .d (hd.mono hc)
  | ag vs l hs hd=>exact .ag vs l hs (fun i u x h1 h2=>(hd i u x h1 h2).mono hc)
  | own x g' es hd hgg hr=>exact .own x g' es (hd.mono hc) (by rw[hg];exact hgg) (fun r hr'=>hr r (by rw[←ho];exact hr'))
  | agg vs l hs hone _ ih=>exact .agg vs l hs hone (fun i u x hu hx=>ih i u x hu hx (gR (by simpa [kt] using ha) x (List.mem_of_getElem? hx)))
  | tup vs l hs _ ih=>exact .tup vs l hs (fun i u x hu hx=>ih i u x hu hx (gR (by simpa [kt] using ha) x (List.mem_of_getElem? hx)))
  | rowd b off l u hcc hd=>exact .rowd b off l u (fun j hj=>hc _ _ _ (hcc j hj).1 (hcc j hj).2) (fun j x hx=>(hd j x hx).mono hc)
  | row b off l u hcc _ ih=>exact .row b off l u (fun j hj=>⟨by rw[←hw];exact(hcc j hj).1,hold _ (hcc j hj).2.1,(hcc j hj).2.2⟩) (fun j x hx=>ih j x hx (gR (by simpa [kt] using ha) x (List.mem_of_getElem? hx)))
  | ptr x g' off b hgg hb0 hp=>exact .ptr x g' off b (by rw[hg];exact hgg) (hb g' b (hne (by simpa [kt] using ha)) hb0) hp
  | xs x g' es hgg h1 hx=>exact .xs x g' es (by rw[hg];exact hgg) h1 (fun r hr'=>hw▸(hx r (by rw[←ho];exact hr')).iZ hc')
  | xp x g' i off l hgg h1 hx=>exact .xp x g' i off l (by rw[hg];exact hgg) h1 (fun r hr'=>hw▸(hx r (by rw[←ho];exact hr')).iZ hc')
  | mp x g' es hgg h1 hx=>exact .mp x g' es (by rw[hg];exact hgg) h1 (fun r hr'=>hw▸(hx r (by rw[←ho];exact hr')).iZ hc')
  | ni t x=>exact .ni t x
  | fl x es hd hfl=>exact .fl x es (hd.mono hc) hfl
  | bf x g' T s hgg h1 hx=>exact .bf x g' T s (by rw[hg];exact hgg) h1 (fun r hr'=>hw▸hx r (by rw[←ho];exact hr'))
  | np x g' T b hgg hb0 hT u hp=>exact .np x g' T b (by rw[hg];exact hgg) (hb g' b (hne (by simpa [kt] using ha)) hb0) (hw▸hT) u hp
  | sb x g' n c b hgg hb0 hn hp=>exact .sb x g' n c b (by rw[hg];exact hgg) (hb g' b (hne (by simpa [kt] using ha)) hb0) hn hp
  | fx x u g' es ou hx hgg hu hou=>exact .fx x u g' es ou (hx.mono hc) (by rw[hg];exact hgg) (fun r hr'=>hw▸(hu r (by rw[←ho];exact hr')).iZ hc') hou
  | ol x u g1 E1 g' es hx hg1 hr1 hgg hu=>exact .ol x u g1 E1 g' es (hx.mono hc) (by rw[hg];exact hg1) (fun r hr'=>hr1 r (by rw[←ho];exact hr')) (by rw[hg];exact hgg) (fun r hr'=>hw▸(hu r (by rw[←ho];exact hr')).iZ hc')
  | lk x g' n c b v hgg hb0 hn hp=>exact .lk x g' n c b v (by rw[hg];exact hgg) (hb g' b (hne (by simpa [kt] using ha)) hb0) hn hp
  | clo f vs l hs _ ih=>exact .clo f vs l hs (fun i u x hu hx=>ih i u x hu hx (gR (by simpa [kt] using ha) x (List.mem_of_getElem? hx)))
  | bnd f vs l hs _ ih=>exact .bnd f vs l hs (fun i u x hu hx=>ih i u x hu hx (gR (by simpa [kt] using ha) x (List.mem_of_getElem? hx)))
def l4 (g:Nat):List Nat→List (Nat×A)→List (Nat×A)
  | _,[]=>[]
  | seen,(s,a)::r=>bif seen.any (Nat.beq s) then l4 g seen r else bif kt g a then (s,a)::l4 g (s::seen) r else l4 g (s::seen) r
theorem ko {g:Nat}:∀ {f:List (Nat×A)} {seen:List Nat} {t:Nat} {a:A},look (l4 g seen f) t=some a→look f t=some a∧kt g a=true∧t∉seen
  | [],_,t,a,h=>by simp[l4,look] at h
  | (s,b)::r,seen,t,a,h=>by
    simp only[l4] at h
    cases q:seen.any (Nat.beq s) with
    | true=>
      rw[q] at h
      simp only[cond_true] at h
      obtain⟨h1,h2,h3⟩:=ko h
      have hm:s∈seen:=by
        obtain⟨y,hy,hb⟩:=List.any_eq_true.1 q
        rw[Nat.eq_of_beq_eq_true hb];exact hy
      refine⟨?_,h2,h3⟩
      rw[bl]
      rw[if_neg (fun e:s=t=>h3 (e▸hm))]
      exact h1
    | false=>
      rw[q] at h
      simp only[cond_false] at h
      have hm:s∉seen:=fun hm=>by
        have:seen.any (Nat.beq s)=true:=List.any_eq_true.2 ⟨s,hm,by simp⟩
        rw[q] at this;cases this
      cases q2:kt g b with
      | true=>
        rw[q2] at h
        simp only[cond_true] at h
        rw[bl] at h
        split at h
        · rename_i e
          subst e
          cases h
          exact⟨by rw[bl,if_pos rfl],q2,hm⟩
        · rename_i e
          obtain⟨h1,h2,h3⟩:=ko h
          exact⟨by rw[bl,if_neg e];exact h1,h2,fun hh=>h3 (List.mem_cons_of_mem _ hh)⟩
      | false=>
        rw[q2] at h
        simp only[cond_false] at h
        obtain⟨h1,h2,h3⟩:=ko h
        exact⟨by rw[bl,if_neg (fun e:s=t=>h3 (e▸List.mem_cons_self))];exact h1,h2,fun hh=>h3 (List.mem_cons_of_mem _ hh)⟩
def oA (g:Nat):List Nat→List (Nat×List A)→Option (List (Nat×List A))
  | _,[]=>some []
  | seen,(s,c)::r=>bif seen.any (Nat.beq s) then oA g seen r else bif Nat.beq s g then oA g (s::seen) r else bif lu g c then (match oA g (s::seen) r with | some l=>some ((s,c)::l) | none=>none) else none
theorem iO {α:Type} {f:List (Nat×α)} {s t:Nat} {a:α}:aA ((s,a)::f) t=if s=t then some a else aA f t:=by
  rw[bP]
theorem km {g:Nat}:∀ {f f':List (Nat×List A)} {seen:List Nat} {t:Nat} {a:List A},oA g seen f=some f'→aA f' t=some a→aA f t=some a∧lu g a=true∧t≠g∧t∉seen
  | [],f',_,t,a,hc,h=>by simp[oA] at hc;subst hc;simp[aA] at h
  | (s,b)::r,f',seen,t,a,hc,h=>by
    simp only[oA] at hc
    cases q:seen.any (Nat.beq s) with
    | true=>
      rw[q] at hc
      simp only[cond_true] at hc
      obtain⟨h1,h2,h3,h4⟩:=km hc h
      have hm:s∈seen:=by
        obtain⟨y,hy,hb⟩:=List.any_eq_true.1 q
        rw[Nat.eq_of_beq_eq_true hb];exact hy
      exact⟨by rw[iO,if_neg (fun e:s=t=>h4 (e▸hm))];exact h1,h2,h3,h4⟩
    | false=>
      rw[q] at hc
      simp only[cond_false] at hc
      have hm:s∉seen:=fun hm=>by
        have:seen.any (Nat.beq s)=true:=List.any_eq_true.2 ⟨s,hm,by simp⟩
        rw[q] at this;cases this
      cases q1:Nat.beq s g with
      | true=>
        rw[q1] at hc
        simp only[cond_true] at hc
        obtain⟨h1,h2,h3,h4⟩:=km hc h
        exact⟨by rw[iO,if_neg (fun e:s=t=>h4 (e▸List.mem_cons_self))];exact h1,h2,h3,fun hh=>h4 (List.mem_cons_of_mem _ hh)⟩
      | false=>
        rw[q1] at hc
        simp only[cond_false] at hc
        cases q2:lu g b with
        | false=>rw[q2] at hc;cases hc
        | true=>
          rw[q2] at hc
          simp only[cond_true] at hc
          split at hc
          · rename_i l hl
            simp only[Option.some.injEq] at hc
            subst hc
            rw[iO] at h
            split at h
            · rename_i e
              subst e
              cases h
              exact⟨by rw[iO,if_pos rfl],q2,fun e=>by subst e;simp at q1,hm⟩
            · rename_i e
              obtain⟨h1,h2,h3,h4⟩:=km hl h
              exact⟨by rw[iO,if_neg e];exact h1,h2,h3,fun hh=>h4 (List.mem_cons_of_mem _ hh)⟩
          · cases hc
section
variable {P:Program} (T:cB P) {C:Ctx} {n:Nat} {ops:Array Oper} {Q:Exit→St→Prop} {rest:List Oper}
variable {f f':List (Nat×A)} {bx bx':List (Nat×List A)} {lv:List Nat} {gen:Nat} {d:Nat} {op:Op} {ty:TypeId} {pos:String} {af:Array Edge} {a:A} {dst:Option Nat} {c:Code}
theorem sY [hnb:NB C 0] (s:Nat) {g m cap sz k:Nat} {es:List (List D)} (hl:look f s=some (.sb g m cap)) (hb:aA bx g=some (a7 es k)) (hsn:Nat.blt s n=true) (hm:es.length=m) (hls:∀ (x:List D),x∈es→x.length=sz) (hf:l4 g [] f=f') (hbx:oA g [] bx=some bx')
    (h:W P C n c Q ⟨(s,.d (.sl es))::f',bx',lv,gen⟩):W P C n c Q ⟨f,bx,lv,gen⟩:=by
  subst hf;subst hm
  intro tmps w ⟨G,hs⟩
  obtain⟨v,hv,hr⟩:=hs.frame _ _ hl
  obtain⟨b,cs,T',hgb,hw,h3,h4,h5⟩:=hs.box _ _ hb
  cases hr with
  | sb _ _ _ _ b' hgg hb' hn hx=>
  have hb':G.box g=some b':=hb'
  rw[hgb] at hb'
  cases hb'
  let G':Gh:=⟨fun x=>if x=g then none else G.box x,G.own⟩
  have hpv:∀ b' o,bD C G' b' o→bD C G b' o:=by
    rintro b' o (hp | ⟨g',hp⟩ | hp)
    · exact .inl hp
    · simp only[G'] at hp
      split at hp
      · cases hp
      · exact .inr (.inl ⟨g',hp⟩)
    · exact .inr (.inr hp)
  have hnot:∀ o,¬ bD C G' b o:=by
    rintro o (hp | ⟨g',hp⟩ | ⟨g',len,cap,sz,pub,hp,_⟩)
    · have:=hs.xold b o hp
      rcases(hs.gbox g b hgb).2.2.1 with hm | hm
      · omega
      · exact this.2 hm
    · simp only[G'] at hp
      split at hp
      · cases hp
      · rename_i e;exact e (hs.inj g' g b hp hgb)
    · exact(hs.row g' b len cap sz pub hp).2.1 g hgb
  have hrep:∀ {v:Value} {a:A},aW (aK C G gen w) v a→kt g a=true→aW (aK C G' gen w) v a:=fun h ha=>
    aW.forget (E:=aK C G gen w) (E':=aK C G' gen w) rfl (fun b o u hu hn=>⟨hu,fun hp=>hn (hpv b o hp)⟩) (fun b h=>h) (fun g' b hne hb=>by show(if g'=g then none else G.box g')=some b;rw[if_neg hne];exact hb) rfl rfl h ha
  have hs':aV C n ⟨l4 g [] f,bx',lv,gen⟩ G' tmps w:=by
    refine { size:=hs.size,frame:=?_,box:=?_,gbox:=?_,inj:=?_,live:=hs.live,gown:=hs.gown,row:=?_,mrow:=?_,xold:=hs.xold,kold:=hs.kold,lent:=?_,fr:=hs.fr }
    · intro t a ha
      obtain⟨h1,h2,_⟩:=ko ha
      obtain⟨v,hv,hr⟩:=hs.frame t a h1
      exact⟨v,hv,hrep hr h2⟩
    · intro g' cells hc
      obtain⟨h1,h2,h6,_⟩:=km hbx hc
      obtain⟨b2,cs2,T2,p1,p2,p3,p4,p5⟩:=hs.box g' cells h1
      exact⟨b2,cs2,T2,by simp only[G'];rw[if_neg h6];exact p1,p2,p3,p4,fun i u a hu ha=>hrep (p5 i u a hu ha) (gR h2 a (List.mem_of_getElem? ha))⟩
    · intro g' b2 hb2
      simp only[G'] at hb2
      split at hb2
      · cases hb2
      · exact hs.gbox g' b2 hb2
    · intro g1 g2 b2 h1 h2
      simp only[G'] at h1 h2
      split at h1
      · cases h1
      · split at h2
        · cases h2
        · exact hs.inj g1 g2 b2 h1 h2
    · intro g' b2 len cap sz pub hr
      obtain⟨p1,p2,p3⟩:=hs.row g' b2 len cap sz pub hr
      refine⟨p1,fun g2 h2=>?_,p3⟩
      simp only[G'] at h2
      split at h2
      · cases h2
      · exact p2 g2 h2
    · intro g' b2 hr
      obtain⟨p1,p2,p3⟩:=hs.mrow g' b2 hr
      refine⟨p1,fun g2 h2=>?_,p3⟩
      simp only[G'] at h2
      split at h2
      · cases h2
      · exact p2 g2 h2
    · intro i b2 hb2
      have:=hnb.h
      have hi:=(List.getElem?_eq_some_iff.1 hb2).1
      omega
  have hdata:aW (aK C G' gen w) v (.d (.sl es)):=by
    rw[hx]
    have hfl:=gS hls
    have hcell:∀ i j (e:List D) (y:D),es[i]? = some e→e[j]? = some y→∃ u,cs[i*sz+j]? = some u∧bc w (bD C G') u y:=fun i j e y hi hj=>by
      have hfg:=fM hls i j e y hi hj
      have hlt:i*sz+j < es.flatten.length:=(List.getElem?_eq_some_iff.1 hfg).1
      have hc:(a7 es k)[i*sz+j]? = some (.d y):=by
        unfold a7
        rw[List.getElem?_append_left (by rw[List.length_map];exact hlt),List.getElem?_map,hfg];rfl
      have hj':i*sz+j < cs.size:=by rw[h3];exact(List.getElem?_eq_some_iff.1 hc).1
      have e1:cs[i*sz+j]? = some cs[i*sz+j]:=by simp[hj']
      have:=hrep (h5 _ _ _ e1 hc) rfl
      generalize cs[i*sz+j]=u at this e1
      cases this with | d hd=>exact⟨u,e1,hd⟩
    refine .d ?_
    exact bc.ofRow hw hn.1 hn.2 hls (fun t _=>hnot t) hcell
  refine h tmps w ⟨G',?_⟩
  have:=hs'.set (d:=s) (Nat.le_of_ble_eq_true hsn) hdata
  rwa [fZ hv] at this
theorem yk {es:List (List D)} {sz i k off:Nat} {e cs:List D} (hl:∀ (x:List D),x∈es→x.length=sz) (he:es[i]? = some e) (hc:off+cs.length≤sz):setAt (a7 es k) (i*sz+off) (cs.map A.d)=a7 (es.set i (gV e off cs)) k:=by
  have hel:=hl e (List.mem_of_getElem? he)
  have h1:(gV e off cs).length=sz:=by rw[s6 (by omega)];exact hel
  rw[←tK (k:=k) hl he h1]
  obtain⟨r,hr⟩:=sC (k:=k) hl he
  have hp:i*sz≤(a7 es k).length:=by
    rw[pC hl]
    have hi:i < es.length:=(List.getElem?_eq_some_iff.1 he).1
    have:i*sz≤es.length*sz:=Nat.mul_le_mul_right _ (by omega)
    omega
  have hsplit:a7 es k=(a7 es k).take (i*sz)++(e.map A.d++r):=by rw[←hr,List.take_append_drop]
  generalize (a7 es k).take (i*sz)=X at hsplit
  have hX:X.length=i*sz:=by
    have:=congrArg List.length hsplit
    have h2:=congrArg List.length hr
    rw[List.length_drop] at h2
    simp at this h2
    omega
  rw[hsplit]
  unfold setAt gV
  have e1:(X++(e.map A.d++r)).take (i*sz+off)=X++(e.map A.d).take off:=by
    rw[←hX,List.take_append]
    simp
    rw[List.take_append_of_le_length (by simp;omega),List.take_of_length_le (by omega)]
  have e2:(X++(e.map A.d++r)).drop (i*sz+off+(cs.map A.d).length)=(e.map A.d).drop (off+cs.length)++r:=by
    rw[←hX,List.length_map,Nat.add_assoc,List.drop_append]
    simp
    rw[List.drop_append_of_le_length (by simp;omega),List.drop_eq_nil_of_le (by omega),List.nil_append]
  have e3:(X++(e.map A.d++r)).take (i*sz)=X:=by rw[←hX,List.take_left]
  have e4:(X++(e.map A.d++r)).drop (i*sz+((e.take off++cs++e.drop (off+cs.length)).map A.d).length)=r:=by
    have:((e.take off++cs++e.drop (off+cs.length)).map A.d).length=(e.map A.d).length:=by simp;omega
    rw[this,←hX,←List.drop_drop,List.drop_left,List.drop_left]
  rw[e1,e2,e3,e4]
  simp[List.map_take,List.map_drop]
theorem pJ {t:TypeId} {x y:Operand} {g i k p sz off:Nat} {es:List (List D)} {e cs:List D} (hx:av f x=some (.ptr g p)) (hp:p=i*sz+off) (hb:aA bx g=some (a7 es k)) (ha:av f y=some a) (hcs:cellsOf bx a=some (cs.map A.d)) (hl:∀ (x:List D),x∈es→x.length=sz) (he:es[i]? = some e)
    (hc:off+cs.length≤sz) (hsz:cT T t=cs.length) (hz:cs.length≠0) {es':List (List D)} (hes:es.set i (gV e off cs)=es')
    (h:WO P C n ops Q rest ⟨f,(g,a7 es' k)::bx,lv,gen⟩):WO P C n ops Q (⟨none,.store t x y,ty,pos,af,none⟩::rest) ⟨f,bx,lv,gen⟩:=by
  subst hp
  have hi:i < es.length:=(List.getElem?_eq_some_iff.1 he).1
  refine WO.store (st:=⟨f,bx,lv,gen⟩) T rfl rfl rfl hx hb ha hcs (by rw[List.length_map];exact hsz) (by rw[List.length_map];exact hz) ?_ ?_
  · apply Nat.ble_eq_true_of_le
    rw[List.length_map,pC hl]
    have:(i+1)*sz≤es.length*sz:=Nat.mul_le_mul_right _ hi
    rw[Nat.succ_mul] at this
    omega
  · rw[yk hl he hc,hes]
    exact h
end
end Go.Ab
namespace Go.Tb
open Go.Ab
def eN:Pc→List Pc→List Pc
  | c,[]=>[c]
  | c,p::r=>if c.key=p.key∧p.fr≤c.to then eN (dD c p) r else c::eN p r
theorem kG (pre:List Pc) (c:Pc):bC (pre++[c])=c:=by
  unfold bC
  exact mY (by simp)
theorem qS (pre:List Pc) (c p:Pc):cK (pre++[c]) p=true↔c.key=p.key∧p.fr≤c.to:=by
  unfold cK
  rw[kG]
  simp
theorem tF (pre:List Pc) (c d:Pc):(pre++[c]).set ((pre++[c]).length - 1) d=pre++[d]:=by
  rw[List.length_append,List.length_singleton,Nat.add_sub_cancel,List.set_append_right _ _ (Nat.le_refl _)]
  simp
theorem mW:∀ (l pre:List Pc) (c:Pc),db (pre++[c]) l=pre++eN c l
  | [],_,_=>rfl
  | p::r,pre,c=>by
    simp only[db,eN]
    by_cases h:c.key=p.key∧p.fr≤c.to
    · rw[if_pos ((qS pre c p).2 h),if_pos h,tF,kG]
      exact mW r pre _
    · rw[if_neg (fun q=>h ((qS pre c p).1 q)),if_neg h,mW r (pre++[c]) p]
      simp
theorem nh (p:Pc) (r:List Pc):db [] (p::r)=eN p r:=by
  have:=mW r [] p
  simp only[db]
  rw[if_neg (by unfold cK;simp)]
  exact this
structure dc (K:List aH→Prop) (p:Pc):Prop where
  key:K p.key
  fr:0≤p.fr
  lt:p.fr < p.to
  fi:mj p.fr=true
  ti:mj p.to=true
def kD (a b:Pc):Prop:=jc a b≤0
def oy (a b:Pc):Prop:=bT a.key b.key≤0∧(a.key=b.key→a.to < b.fr)
def sQ (A:List Pc) (q:Pc):Prop:=∀ x:Int,q.fr≤x→x < q.to→∃ s∈A,s.key=q.key∧s.fr≤x∧x < s.to
theorem zx {a b:Int}:cI a b≤0↔a≤b:=by unfold cI;split <;> (try split) <;> omega
theorem rl {a b:Pc} (h:kD a b):bT a.key b.key≤0:=by unfold kD jc at h;split at h <;> omega
theorem xG {a b:Pc} (h:kD a b) (e:a.key=b.key):a.fr≤b.fr:=by
  unfold kD jc at h
  rw[e,if_neg (by simp[ja.self])] at h
  exact zx.1 h
theorem rW {a b d:Pc} (h:kD a b) (g:kD b d):kD a d:=gw.tr a b d h g
theorem s9 {c p:Pc}:c.to≤(dD c p).to∧p.to≤(dD c p).to:=by unfold dD;dsimp only;split <;> omega
section
variable {K:List aH→Prop} (hK:∀ a b,K a→K b→bT a b=0→a=b)
theorem mL {c p:Pc} (h:dc K c) (g:dc K p):dc K (dD c p):=
  ⟨h.key,h.fr,by have:=h.lt;have:=(s9 (c:=c) (p:=p)).1;show c.fr < _;omega,h.fi,by unfold dD;dsimp only;split;exact g.ti;exact h.ti⟩
theorem kN:∀ (l:List Pc) (c:Pc),dc K c→(∀ p∈l,dc K p)→∀ q∈eN c l,dc K q
  | [],c,h,_,q,hq=>by rw[List.mem_singleton.1 hq];exact h
  | p::r,c,h,g,q,hq=>by
    have g1:=g p List.mem_cons_self
    have g2:∀ p∈r,dc K p:=fun x hx=>g x (List.mem_cons_of_mem _ hx)
    simp only[eN] at hq
    split at hq
    · exact kN r _ (mL h g1) g2 q hq
    · rcases List.mem_cons.1 hq with rfl | hq
      · exact h
      · exact kN r p g1 g2 q hq
theorem pS:∀ (l:List Pc) (c:Pc),(c::l).Pairwise kD→∀ q∈eN c l,kD c q
  | [],c,_,q,hq=>by rw[List.mem_singleton.1 hq];exact Int.le_of_eq (gw.self c)
  | p::r,c,h,q,hq=>by
    have h1:=List.pairwise_cons.1 h
    have h2:=List.pairwise_cons.1 h1.2
    simp only[eN] at hq
    split at hq
    · exact pS r (dD c p) (List.pairwise_cons.2 ⟨fun x hx=>h1.1 x (List.mem_cons_of_mem _ hx),h2.2⟩) q hq
    · rcases List.mem_cons.1 hq with rfl | hq
      · exact Int.le_of_eq (gw.self _)
      · exact rW (h1.1 p List.mem_cons_self) (pS r p h1.2 q hq)
include hK in
theorem lW:∀ (l:List Pc) (c:Pc),(c::l).Pairwise kD→dc K c→(∀ p∈l,dc K p)→(eN c l).Pairwise oy
  | [],c,_,_,_=>List.pairwise_singleton _ _
  | p::r,c,h,hc,g=>by
    have h1:=List.pairwise_cons.1 h
    have h2:=List.pairwise_cons.1 h1.2
    have g1:=g p List.mem_cons_self
    have g2:∀ p∈r,dc K p:=fun x hx=>g x (List.mem_cons_of_mem _ hx)
    simp only[eN]
    split
    · exact lW r (dD c p) (List.pairwise_cons.2 ⟨fun x hx=>h1.1 x (List.mem_cons_of_mem _ hx),h2.2⟩) (mL hc g1) g2
    · rename_i hn
      refine List.pairwise_cons.2 ⟨fun q hq=>?_,lW r p h1.2 g1 g2⟩
      have l1:=h1.1 p List.mem_cons_self
      have l2:=pS r p h1.2 q hq
      refine⟨rl (rW l1 l2),fun e=>?_⟩
      have e1:c.key=p.key:=hK _ _ hc.key g1.key (by
        have k1:=rl l1
        have k2:=rl l2
        rw[←e,ja.anti] at k2
        omega)
      have k3:p.fr≤q.fr:=xG l2 (e1.symm.trans e)
      have k4:¬ p.fr≤c.to:=fun k=>hn ⟨e1,k⟩
      omega
theorem ka:∀ (l:List Pc) (c:Pc),(c::l).Pairwise kD→∀ p∈c::l,∃ q∈eN c l,q.key=p.key∧q.fr≤p.fr∧p.to≤q.to
  | [],c,_,p,hp=>by rw[List.mem_singleton.1 hp];exact⟨c,List.mem_cons_self,rfl,Int.le_refl _,Int.le_refl _⟩
  | p::r,c,h,x,hx=>by
    have h1:=List.pairwise_cons.1 h
    have h2:=List.pairwise_cons.1 h1.2
    simp only[eN]
    split
    · rename_i ht
      have ih:=ka r (dD c p) (List.pairwise_cons.2 ⟨fun x hx=>h1.1 x (List.mem_cons_of_mem _ hx),h2.2⟩)
      have hw:=s9 (c:=c) (p:=p)
      rcases List.mem_cons.1 hx with rfl | hx
      · obtain⟨q,q1,q2,q3,q4⟩:=ih _ List.mem_cons_self
        exact⟨q,q1,q2,q3,by omega⟩
      · rcases List.mem_cons.1 hx with rfl | hx
        · obtain⟨q,q1,q2,q3,q4⟩:=ih _ List.mem_cons_self
          have:=xG (h1.1 x List.mem_cons_self) ht.1
          have q3':q.fr≤c.fr:=q3
          exact⟨q,q1,q2.trans ht.1,by omega,by omega⟩
        · exact ih x (List.mem_cons_of_mem _ hx)
    · rcases List.mem_cons.1 hx with rfl | hx
      · exact⟨x,List.mem_cons_self,rfl,Int.le_refl _,Int.le_refl _⟩
      · obtain⟨q,q1,q2⟩:=ka r p h1.2 x hx
        exact⟨q,List.mem_cons_of_mem _ q1,q2⟩
theorem lZ {A:List Pc}:∀ (l:List Pc) (c:Pc),sQ A c→(∀ p∈l,p∈A)→∀ q∈eN c l,sQ A q
  | [],c,h,_,q,hq=>by rw[List.mem_singleton.1 hq];exact h
  | p::r,c,h,g,q,hq=>by
    have g1:=g p List.mem_cons_self
    have g2:∀ p∈r,p∈A:=fun x hx=>g x (List.mem_cons_of_mem _ hx)
    have gp:sQ A p:=fun x h1 h2=>⟨p,g1,rfl,h1,h2⟩
    simp only[eN] at hq
    split at hq
    · rename_i ht
      refine lZ r _ (fun x h1 h2=>?_) g2 q hq
      by_cases k:x < c.to
      · exact h x h1 k
      · have h2':x < (if c.to < p.to then p.to else c.to):=h2
        split at h2'
        · obtain⟨s,s1,s2,s3⟩:=gp x (by omega) h2'
          exact⟨s,s1,s2.trans ht.1.symm,s3⟩
        · exact absurd h2' k
    · rcases List.mem_cons.1 hq with rfl | hq
      · exact h
      · exact lZ r p gp g2 q hq
theorem nZ:∀ (l:List Pc) (c:Pc),(eN c l).length≤l.length+1
  | [],_=>Nat.le_refl _
  | p::r,c=>by
    simp only[eN]
    split
    · have:=nZ r (dD c p);simp;omega
    · have:=nZ r p;simp;omega
theorem ra:∀ (l:List Pc) (c:Pc),(c::l).Pairwise oy→eN c l=c::l
  | [],_,_=>rfl
  | p::r,c,h=>by
    have h1:=List.pairwise_cons.1 h
    simp only[eN]
    rw[if_neg (fun q=>by have:=(h1.1 p List.mem_cons_self).2 q.1;omega),ra r p h1.2]
theorem vt:∀ (l:List Pc),l.Pairwise oy→db [] l=l
  | [],_=>rfl
  | p::r,h=>by rw[nh,ra r p h]
/-! the sort leaves a strictly increasing list as it is -/
theorem nK:∀ (J S:List Pc),J.Pairwise (fun a b=>bg a b=true)→S.Pairwise kD→S.Perm J→S=J
  | [],S,_,_,h=>List.Perm.eq_nil h
  | x::J,[],_,_,h=>by have:=h.length_eq;simp at this
  | x::J,y::S,hJ,hS,h=>by
    have j1:=List.pairwise_cons.1 hJ
    have s1:=List.pairwise_cons.1 hS
    have e:y=x:=Classical.byContradiction fun ne=>by
      have hy:y∈J:=by
        rcases List.mem_cons.1 (h.mem_iff.1 List.mem_cons_self) with q | q
        · exact absurd q ne
        · exact q
      have hx:x∈S:=by
        rcases List.mem_cons.1 (h.mem_iff.2 List.mem_cons_self) with q | q
        · exact absurd q.symm ne
        · exact q
      have l1:=j1.1 y hy
      have l2:jc y x≤0:=s1.1 x hx
      unfold bg at l1
      simp only[decide_eq_true_eq] at l1
      have:=gw.anti x y
      omega
    subst e
    rw[nK J S j1.2 s1.2 ((List.perm_cons y).1 h)]
theorem nJ (l:List Pc):(cH bg l).Pairwise kD:=by
  have h:=rI bg zc l
  have hl:=(dI bg l).len
  refine List.pairwise_iff_getElem.2 fun i j hi hj hij=>?_
  have:=h i j (Nat.zero_le _) hij (by omega)
  rw[mY (List.getElem?_eq_getElem hi),mY (List.getElem?_eq_getElem hj)] at this
  have this:¬ jc _ _ < 0:=of_decide_eq_false this
  have a:=gw.anti (cH bg l)[i] (cH bg l)[j]
  show jc _ _≤0
  omega
theorem v5 {l:List Pc} {p:Pc}:p∈cH bg l↔p∈l:=(dI bg l).perm.mem_iff
structure tZ (K:List aH→Prop) (ps J:List Pc):Prop where
  good:∀ q∈J,dc K q
  sep:J.Pairwise oy
  cover:∀ p∈ps,∃ q∈J,q.key=p.key∧q.fr≤p.fr∧p.to≤q.to
  gap:∀ q∈J,sQ ps q
  again:db [] (cH bg J)=J
  len:J.length≤ps.length
include hK in
theorem Bo (ps:List Pc) (hg:∀ p∈ps,dc K p):tZ K ps (db [] (cH bg ps)):=by
  have hpw:=nJ ps
  have hm:∀ p,p∈cH bg ps↔p∈ps:=fun p=>v5
  have hl:=(dI bg ps).len
  obtain⟨S,hS⟩:∃ s,cH bg ps=s:=⟨_,rfl⟩
  rw[hS] at hpw hl ⊢
  simp only[hS] at hm
  have ag:∀ J:List Pc,(∀ q∈J,dc K q)→J.Pairwise oy→db [] (cH bg J)=J:=fun J h1 h2=>by
    have h3:J.Pairwise (fun a b=>bg a b=true):=by
      refine List.pairwise_iff_getElem.2 fun i j hi hj hij=>?_
      have hs:=List.pairwise_iff_getElem.1 h2 i j hi hj hij
      have g1:=h1 _ (List.getElem_mem hi)
      have g2:=h1 _ (List.getElem_mem hj)
      unfold bg jc
      simp only[decide_eq_true_eq]
      by_cases k:bT J[i].key J[j].key=0
      · rw[if_neg (by omega)]
        have:=hs.2 (hK _ _ g1.key g2.key k)
        have:=g1.lt
        unfold cI
        rw[if_pos (by omega)];decide
      · rw[if_pos k];have:=hs.1;omega
    rw[nK J _ h3 (nJ J) (dI bg J).perm]
    exact vt J h2
  cases S with
  | nil=>
    show tZ K ps []
    exact⟨(fun q hq=>nomatch hq),List.Pairwise.nil,(fun p hp=>absurd ((hm p).2 hp) List.not_mem_nil),(fun q hq=>nomatch hq),ag _ (fun q hq=>nomatch hq) List.Pairwise.nil,Nat.zero_le _⟩
  | cons c l=>
    rw[nh]
    have hc:=hg c ((hm c).1 List.mem_cons_self)
    have hl2:∀ p∈l,dc K p:=fun p hp=>hg p ((hm p).1 (List.mem_cons_of_mem _ hp))
    have good:=kN l c hc hl2
    have sep:=lW hK l c hpw hc hl2
    refine⟨good,sep,fun p hp=>ka l c hpw p ((hm p).2 hp),lZ l c (fun x h1 h2=>⟨c,(hm c).1 List.mem_cons_self,rfl,h1,h2⟩) (fun p hp=>(hm p).1 (List.mem_cons_of_mem _ hp)),ag _ good sep,?_⟩
    have:=nZ l c
    simp at hl;omega
end
end Go.Tb
namespace Go.Tb
open Go.Ab
theorem rC {cols:List Col} (hn:(cols.map Col.name).Nodup) {i:Nat} {c:Col} (hc:cols[i]? = some c):dp cols c.name=some i:=by
  obtain⟨hi,rfl⟩:=List.getElem?_eq_some_iff.1 hc
  unfold dp
  rw[List.findIdx?_eq_some_iff_getElem]
  refine⟨hi,by simp,fun j hj=>?_⟩
  have:=List.pairwise_iff_getElem.1 hn j i (by simp;omega) (by simpa using hi) hj
  simpa using this
theorem oY {cols:List Col} (hn:(cols.map Col.name).Nodup) {i:Nat} {c:Col} (hc:cols[i]? = some c):aY cols c.name=some c:=by
  obtain⟨hi,rfl⟩:=List.getElem?_eq_some_iff.1 hc
  unfold aY
  rw[List.find?_eq_some_iff_getElem]
  refine⟨by simp,i,hi,rfl,fun j hj=>?_⟩
  have:=List.pairwise_iff_getElem.1 hn j i (by simp;omega) (by simpa using hi) hj
  simpa using this
def k9 (cols:List Col) (s:ByteArray):Col:=(aY cols s).getD ⟨B #[],0⟩
theorem jf {cols:List Col} {s:ByteArray} {c:Col} (h:aY cols s=some c):k9 cols s=c:=by unfold k9;rw[h];rfl
theorem rT {cols:List Col}:∀ {l:List ByteArray} {out:List Col},(bA cols out l).2=0→bA cols out l=(out++l.map (k9 cols),0)∧∀ s∈l,∃ c,aY cols s=some c
  | [],out,_=>⟨by simp[bA],fun s hs=>nomatch hs⟩
  | s::r,out,h=>by
    simp only[bA] at h ⊢
    cases hf:aY cols s with
    | none=>rw[hf] at h;cases h
    | some c=>
      rw[hf] at h
      have ih:=rT h
      refine⟨?_,fun x hx=>?_⟩
      · dsimp only
        rw[ih.1,List.map_cons,jf hf];simp
      · rcases List.mem_cons.1 hx with rfl | hx
        · exact⟨c,hf⟩
        · exact ih.2 x hx
theorem pM {cols:List Col}:∀ {l:List ByteArray} {out:List Col},(∀ s∈l,∃ c,aY cols s=some c)→bA cols out l=(out++l.map (k9 cols),0)
  | [],out,_=>by simp[bA]
  | s::r,out,h=>by
    obtain⟨c,hf⟩:=h s List.mem_cons_self
    simp only[bA]
    rw[hf]
    dsimp only
    rw[pM (fun x hx=>h x (List.mem_cons_of_mem _ hx)),List.map_cons,jf hf];simp
theorem oq:∀ {l ks:List ByteArray},bR ks l=0→l.Nodup∧∀ s∈l,s∉ks
  | [],_,_=>⟨List.nodup_nil,fun s hs=>nomatch hs⟩
  | s::r,ks,h=>by
    simp only[bR] at h
    split at h
    · rename_i h1;exact absurd h h1
    · rename_i h1
      have h1:cv ks s=0:=by simpa using h1
      have ih:=oq h
      have hs:s∉ks:=by
        unfold cv at h1
        split at h1
        · cases h1
        · split at h1
          · cases h1
          · rename_i h2
            intro hm
            exact h2 (List.any_eq_true.2 ⟨s,hm,by simp⟩)
      refine⟨List.nodup_cons.2 ⟨fun hm=>ih.2 s hm (by simp),ih.1⟩,fun x hx=>?_⟩
      rcases List.mem_cons.1 hx with rfl | hx
      · exact hs
      · exact fun hm=>ih.2 x hx (by simp[hm])
structure ox (a:bo) (on:List ByteArray):Prop where
  ga:bj a=0
  st:bZ (cG 9 on (B #[]))=0
  no:(on.any (fun x=>decide (aP=x)) || on.any (fun x=>decide (bp=x)))=false
  tk:∀ s∈on,∃ c,aY a.cols s=some c
  fr:cn a.cols aP=0
  to:cn a.cols bp=0
theorem AE {a:bo} {on:List ByteArray}:(dY 9 on a).2=0↔ox a on:=by
  have e:(cG 9 on (B #[])).op=9:=rfl
  have e2:(cG 9 on (B #[])).cols=on:=rfl
  constructor
  · intro h
    unfold dY at h
    split at h
    · rename_i h1;exact absurd h h1
    · rename_i h1
      unfold dy at h
      split at h
      · rename_i h3;exact absurd h h3
      · rename_i h3
        rw[e,if_neg (by decide),if_neg (by decide),if_neg (by decide),if_neg (by decide)] at h
        try rw[if_pos rfl] at h
        unfold ff at h
        rw[e2] at h
        split at h
        · cases h
        · rename_i h7
          split at h
          · rename_i h4;exact absurd h h4
          · rename_i h4
            split at h
            · rename_i h5;exact absurd h h5
            · rename_i h5
              split at h
              · rename_i h6;exact absurd h h6
              · rename_i h6
                exact⟨by simpa using h1,by simpa using h3,(Bool.not_eq_true _).mp h7,(rT (by simpa using h4)).2,by simpa using h5,by simpa using h6⟩
  · intro h
    unfold dY
    rw[if_neg (by simp[h.ga])]
    unfold dy
    rw[if_neg (by simp[h.st]),e,if_neg (by decide),if_neg (by decide),if_neg (by decide),if_neg (by decide),if_pos rfl]
    unfold ff
    rw[e2,if_neg (by simp[h.no]),pM h.tk,if_neg (by simp),if_neg (by simp[h.fr]),if_neg (by simp[h.to])]
theorem yJ {a:bo} {on:List ByteArray} (h:ox a on):dY 9 on a=(on.map (k9 a.cols)++[⟨aP,2⟩,⟨bp,2⟩],0):=by
  have e:(cG 9 on (B #[])).op=9:=rfl
  have e2:(cG 9 on (B #[])).cols=on:=rfl
  unfold dY
  rw[if_neg (by simp[h.ga])]
  unfold dy
  rw[if_neg (by simp[h.st]),e,if_neg (by decide),if_neg (by decide),if_neg (by decide),if_neg (by decide),if_pos rfl]
  unfold ff
  rw[e2,if_neg (by simp[h.no]),pM h.tk,if_neg (by simp),if_neg (by simp[h.fr]),if_neg (by simp[h.to])]
  simp
theorem ox.nd {a:bo} {on:List ByteArray} (h:ox a on):on.Nodup∧on.length≤16∧aP∉on∧bp∉on:=by
  have hs:=h.st
  have e:(cG 9 on (B #[])).op=9:=rfl
  have hc:cU on 0=0:=by
    unfold bZ at hs
    split at hs
    · cases hs
    · rw[e,if_neg (by decide),if_neg (by decide),if_neg (by decide),if_neg (by decide),if_neg (by decide)] at hs
      try rw[if_pos rfl] at hs
      exact hs
  have hl:=j7 hc
  have hn:bR [] on=0:=by
    unfold cU at hc
    split at hc
    · rename_i q;exact absurd hc q
    · exact hc
  have hno:=h.no
  simp only[Bool.or_eq_false_iff,List.any_eq_false,decide_eq_true_eq] at hno
  exact⟨(oq hn).1,hl,fun q=>hno.1 _ q rfl,fun q=>hno.2 _ q rfl⟩
def cA (a:bo) (on:List ByteArray):List Col:=on.map (k9 a.cols)
def pH (cs:List Col) (key:List aH):Prop:=key.length=cs.length∧∀ (i:Nat) (c:Col) (v:aH),cs[i]? = some c→key[i]? = some v→bO c.type v=0
theorem wH {cs:List Col}:∀ (a b:List aH),pH cs a→pH cs b→bT a b=0→a=b:=by
  induction cs with
  | nil=>
    intro a b ha hb _
    rw[List.length_eq_zero_iff.1 ha.1,List.length_eq_zero_iff.1 hb.1]
  | cons c cs ih=>
    intro a b ha hb h
    cases a with
    | nil=>have:=ha.1;simp at this
    | cons x a=>
      cases b with
      | nil=>have:=hb.1;simp at this
      | cons y b=>
        simp only[bT] at h
        have h0:dd x y=0:=Classical.byContradiction fun q=>by rw[if_pos q] at h;exact q h
        rw[if_neg (by simp[h0])] at h
        have hxy:=zl (ha.2 0 c x rfl rfl) (hb.2 0 c y rfl rfl) h0
        rw[hxy,ih a b ⟨by have:=ha.1;simpa using this,fun i d v h1 h2=>ha.2 (i+1) d v (by simpa using h1) (by simpa using h2)⟩ ⟨by have:=hb.1;simpa using this,fun i d v h1 h2=>hb.2 (i+1) d v (by simpa using h1) (by simpa using h2)⟩ h]
theorem u7 {a:bo} {on:List ByteArray} (h:ox a on):(cA a on).map Col.name=on:=by
  unfold cA
  rw[List.map_map]
  conv=>rhs;rw[←List.map_id on]
  refine List.map_congr_left fun s hs=>?_
  obtain⟨c,hc⟩:=h.tk s hs
  obtain⟨i,_,_,h3⟩:=fV hc
  show(k9 a.cols s).name=s
  rw[jf hc];exact h3
theorem z9 {a:bo} {on:List ByteArray} (h:ox a on):∀ c∈cA a on,c∈a.cols:=fun c hc=>by
  obtain⟨s,hs,rfl⟩:=List.mem_map.1 hc
  obtain⟨c,hc⟩:=h.tk s hs
  obtain⟨i,_,h2,_⟩:=fV hc
  rw[jf hc];exact List.mem_of_getElem? h2
theorem xC {a:bo} {on:List ByteArray} (h:ox a on) {z:List aH} (hz:z∈a.rows) (hi:eJ z (bw a.cols aP) (bw a.cols bp)=true):dc (pH (cA a on)) (gK (cO a on) (bw a.cols aP) (bw a.cols bp) z):=by
  obtain⟨i0,c0,p0,q0,t0⟩:=fJ h.fr
  obtain⟨i1,c1,p1,q1,t1⟩:=fJ h.to
  rw[cm p0,cm p1] at hi ⊢
  have x0:=oG h.ga hz q0
  have x1:=oG h.ga hz q1
  rw[t0] at x0
  rw[t1] at x1
  unfold eJ cM at hi
  simp only[Bool.and_eq_true,decide_eq_true_eq] at hi
  obtain⟨⟨k0,k1,hlt⟩,h0⟩:=hi
  refine⟨⟨?_,fun j c v hc hv=>?_⟩,h0,hlt,uP x0.2 k0,uP x1.2 k1⟩
  · show((on.map (bw a.cols)).map (bh z)).length=(on.map (k9 a.cols)).length
    simp
  · have hv:((on.map (bw a.cols)).map (bh z))[j]? = some v:=hv
    have hc:(on.map (k9 a.cols))[j]? = some c:=hc
    rw[List.getElem?_map,List.getElem?_map] at hv
    rw[List.getElem?_map] at hc
    cases hs:on[j]? with
    | none=>rw[hs] at hc;cases hc
    | some s=>
      rw[hs] at hv hc
      simp only[Option.map_some,Option.some.injEq] at hv hc
      obtain⟨d,hd⟩:=h.tk s (List.mem_of_getElem? hs)
      obtain⟨i,g1,g2,_⟩:=fV hd
      rw[jf hd] at hc
      rw[cm g1] at hv
      subst hc;subst hv
      exact(oG h.ga hz g2).2
theorem mQ {left:List Nat} {m0 m1:Nat}:∀ {l:List (List aH)} {p:Pc},p∈pieces left m0 m1 l↔∃ z∈l,eJ z m0 m1=true∧p=gK left m0 m1 z
  | [],p=>by simp[pieces]
  | z::r,p=>by
    have ih:=mQ (left:=left) (m0:=m0) (m1:=m1) (l:=r) (p:=p)
    simp only[pieces,List.mem_cons,exists_eq_or_imp]
    split
    · rename_i h
      rw[List.mem_cons,ih]
      exact⟨fun q=>q.elim (fun e=>.inl ⟨h,e⟩) .inr,fun q=>q.elim (fun e=>.inl e.2) .inr⟩
    · rename_i h
      rw[ih]
      exact⟨.inr,fun q=>q.elim (fun e=>absurd e.1 h) id⟩
structure rE (a:bo) (on:List ByteArray) (J:List Pc):Prop where
  co:ox a on
  eq:bb a on=(⟨cA a on++[⟨aP,2⟩,⟨bp,2⟩],J.map a0⟩,0)
  jo:tZ (pH (cA a on)) (pieces (cO a on) (bw a.cols aP) (bw a.cols bp) a.rows) J
/-! the result's own pieces -/
theorem yt {p:Pc} {n:Nat} (h:p.key.length=n):bF (a0 p) (List.range n)=p.key:=by
  subst h
  unfold bF
  refine List.ext_getElem (by simp) fun i h1 h2=>?_
  rw[List.getElem_map,List.getElem_range]
  unfold bh a0
  rw[List.getD_eq_getElem?_getD,List.getElem?_append_left h2,List.getElem?_eq_getElem h2];rfl
theorem uY {p:Pc} {n:Nat} (h:p.key.length=n):bh (a0 p) n=⟨2,p.fr,B #[]⟩:=by
  subst h
  unfold bh a0
  rw[List.getD_eq_getElem?_getD,List.getElem?_append_right (Nat.le_refl _),Nat.sub_self];rfl
theorem uZ {p:Pc} {n:Nat} (h:p.key.length=n):bh (a0 p) (n+1)=⟨2,p.to,B #[]⟩:=by
  subst h
  unfold bh a0
  rw[List.getD_eq_getElem?_getD,List.getElem?_append_right (Nat.le_succ _),show p.key.length+1 - p.key.length=1 by omega];rfl
theorem yZ {p:Pc} {n:Nat} (h:p.key.length=n) (h0:0≤p.fr) (h1:p.fr < p.to):eJ (a0 p) n (n+1)=true:=by
  unfold eJ cM
  rw[uY h,uZ h]
  simp[h0,h1]
theorem y5 {p:Pc} {n:Nat} (h:p.key.length=n):gK (List.range n) n (n+1) (a0 p)=p:=by
  unfold gK
  rw[uY h,uZ h,yt h]
theorem pw {n:Nat}:∀ {J:List Pc},(∀ p∈J,p.key.length=n∧0≤p.fr∧p.fr < p.to)→pieces (List.range n) n (n+1) (J.map a0)=J
  | [],_=>rfl
  | p::r,h=>by
    have h1:=h p List.mem_cons_self
    rw[List.map_cons]
    simp only[pieces]
    rw[if_pos (yZ h1.1 h1.2.1 h1.2.2),y5 h1.1,pw fun q hq=>h q (List.mem_cons_of_mem _ hq)]
theorem pG:c7 aP=0∧c7 bp=0∧aP≠bp:=by decide
theorem rE.Bm {a:bo} {on:List ByteArray} {J:List Pc} (h:rE a on J):bj (bb a on).1=0:=by
  have hnd:=h.co.nd
  have hcs:=ue h.co.ga
  have hsm:=eh h.co.ga
  have hln:(cA a on).length=on.length:=List.length_map _
  rw[h.eq]
  refine Ay (by rw[List.length_append,hln];simp;omega) (by
    rw[List.length_map]
    have:=h.jo.len
    have:=mI (cO a on) (bw a.cols aP) (bw a.cols bp) a.rows
    omega) (fun c hc=>?_) ?_ fun x hx=>?_
  · rcases List.mem_append.1 hc with hc | hc
    · exact hcs.1 c (z9 h.co c hc)
    · rcases List.mem_cons.1 hc with rfl | hc
      · exact⟨pG.1,.inr (.inl rfl)⟩
      · rw[List.mem_singleton.1 hc];exact⟨pG.2.1,.inr (.inl rfl)⟩
  · rw[List.map_append,u7 h.co]
    refine List.nodup_append.2 ⟨hnd.1,?_,fun x hx y hy=>?_⟩
    · exact List.nodup_cons.2 ⟨fun q=>pG.2.2 (List.mem_singleton.1 q),List.nodup_cons.2 ⟨List.not_mem_nil,List.nodup_nil⟩⟩
    · rintro rfl
      rcases List.mem_cons.1 hy with q | q
      · rw[q] at hx;exact hnd.2.2.1 hx
      · rw[List.mem_singleton.1 q] at hx;exact hnd.2.2.2 hx
  · obtain⟨p,hp,rfl⟩:=List.mem_map.1 hx
    have g:=h.jo.good p hp
    refine⟨?_,?_⟩
    · show(p.key++_).length=(cA a on++_).length
      rw[List.length_append,List.length_append,g.key.1];rfl
    · refine qu g.key.1 g.key.2 fun i c v hc hv=>?_
      have ok:∀ n,mj n=true→bO 2 ⟨2,n,B #[]⟩=0:=fun n hn=>by unfold bO;simp[hn]
      match i,hc,hv with
      | 0,hc,hv=>simp only[List.getElem?_cons_zero,Option.some.injEq] at hc hv;subst hc;subst hv;exact ok _ g.fi
      | 1,hc,hv=>simp only[List.getElem?_cons_succ,List.getElem?_cons_zero,Option.some.injEq] at hc hv;subst hc;subst hv;exact ok _ g.ti
      | i+2,hc,hv=>simp at hc
theorem rE.cols {a:bo} {on:List ByteArray} {J:List Pc} (h:rE a on J):ox (bb a on).1 on∧cA (bb a on).1 on=cA a on∧cO (bb a on).1 on=List.range on.length ∧
    bw (bb a on).1.cols aP=on.length∧bw (bb a on).1.cols bp=on.length+1:=by
  have ht:=h.Bm
  have hnd:=(ue ht).2
  have hln:(cA a on).length=on.length:=List.length_map _
  have hnm:=u7 h.co
  rw[h.eq] at ht hnd ⊢
  dsimp only at hnd ⊢
  have hF:(cA a on++[⟨aP,2⟩,⟨bp,2⟩]:List Col)[on.length]? = some ⟨aP,2⟩:=by rw[List.getElem?_append_right (by omega),hln,Nat.sub_self];rfl
  have hT:(cA a on++[⟨aP,2⟩,⟨bp,2⟩]:List Col)[on.length+1]? = some ⟨bp,2⟩:=by rw[List.getElem?_append_right (by omega),hln,Nat.add_sub_cancel_left];rfl
  have hC:∀ (i:Nat) (s:ByteArray),on[i]? = some s→∃ c,(cA a on)[i]? = some c∧c.name=s∧(cA a on++[⟨aP,2⟩,⟨bp,2⟩]:List Col)[i]? = some c:=by
    intro i s hs
    have h1:((cA a on).map Col.name)[i]? = some s:=by rw[hnm];exact hs
    rw[List.getElem?_map] at h1
    cases hc:(cA a on)[i]? with
    | none=>rw[hc] at h1;cases h1
    | some c=>
      rw[hc] at h1
      simp only[Option.map_some,Option.some.injEq] at h1
      exact⟨c,rfl,h1,by rw[List.getElem?_append_left (List.getElem?_eq_some_iff.1 hc).1];exact hc⟩
  have iF:=oY hnd hF
  have iT:=oY hnd hT
  have nF:=rC hnd hF
  have nT:=rC hnd hT
  refine⟨⟨ht,h.co.st,h.co.no,fun s hs=>?_,?_,?_⟩,?_,?_,cm nF,cm nT⟩
  · obtain⟨i,hi⟩:=List.mem_iff_getElem?.1 hs
    obtain⟨c,_,c2,c3⟩:=hC i s hi
    exact⟨c,by rw[←c2];exact oY hnd c3⟩
  · show cn _ aP=0
    unfold cn
    have iF:aY (cA a on++[⟨aP,2⟩,⟨bp,2⟩]) aP=_:=iF
    rw[iF];rfl
  · show cn _ bp=0
    unfold cn
    have iT:aY (cA a on++[⟨aP,2⟩,⟨bp,2⟩]) bp=_:=iT
    rw[iT];rfl
  · show on.map (k9 _)=cA a on
    refine List.ext_getElem? fun i=>?_
    rw[List.getElem?_map]
    cases hs:on[i]? with
    | none=>
      have:(cA a on)[i]? = none:=by rw[List.getElem?_eq_none_iff] at hs ⊢;omega
      rw[this];rfl
    | some s=>
      obtain⟨c,c1,c2,c3⟩:=hC i s hs
      rw[c1,Option.map_some,←c2,jf (oY hnd c3)]
  · show on.map (bw _)=List.range on.length
    refine List.ext_getElem? fun i=>?_
    rw[List.getElem?_map]
    cases hs:on[i]? with
    | none=>
      rw[List.getElem?_eq_none_iff] at hs
      rw[List.getElem?_eq_none (by simpa using hs)];rfl
    | some s=>
      obtain⟨c,c1,c2,c3⟩:=hC i s hs
      have hi:=(List.getElem?_eq_some_iff.1 hs).1
      rw[Option.map_some,←c2,cm (rC hnd c3),List.getElem?_range hi]
theorem rE.again {a:bo} {on:List ByteArray} {J:List Pc} (h:rE a on J):bb (bb a on).1 on=((bb a on).1,0):=by
  obtain⟨h1,h2,h3,h4,h5⟩:=h.cols
  have hln:(cA a on).length=on.length:=List.length_map _
  have hr:(bb a on).1.rows=J.map a0:=by rw[h.eq]
  have hc:(bb a on).1.cols=cA a on++[⟨aP,2⟩,⟨bp,2⟩]:=by rw[h.eq]
  have hj:jK (bb a on).1 on=J:=by
    unfold jK
    rw[h3,h4,h5,hr,pw fun p hp=>?_]
    · exact h.jo.again
    · have g:=h.jo.good p hp
      exact⟨by rw[g.key.1,hln],g.fr,g.lt⟩
  obtain⟨t,ht⟩:∃ t,(bb a on).1=t:=⟨_,rfl⟩
  rw[ht] at h1 h2 hj hr hc ⊢
  unfold bb
  rw[if_neg (by rw[yJ h1];simp),yJ h1,hj]
  have:on.map (k9 t.cols)=cA a on:=h2
  rw[this,←hc,←hr]
end Go.Tb
namespace Go.Tb
open Go.Ab
def jW:List aH→List aH→Int
  | [],_=>0
  | _::_,[]=>0
  | x::r,y::s=>if dd x y≠0 then dd x y else jW r s
theorem pa:∀ {a b:List aH},a.length=b.length→jW a b=bT a b
  | [],[],_=>rfl
  | [],_::_,h=>by simp at h
  | _::_,[],h=>by simp at h
  | x::r,y::s,h=>by
    simp only[jW,bT]
    rw[pa (by simpa using h)]
def mZ (left:List Nat) (m0 m1:Nat) (z:List aH):List aH:=if eJ z m0 m1=true then bF z left else []
def tX (m0 m1:Nat) (z:List aH):Int:=if eJ z m0 m1=true then (bh z m0).n else 0
def rf (m0 m1:Nat) (z:List aH):Int:=if eJ z m0 m1=true then (bh z m1).n else 0
def fD (t:bo):Nat:=bw t.cols aP
def fA (t:bo):Nat:=bw t.cols bp
def Aq (t:bo) (on:List ByteArray) (key z:List aH) (p:Int):Bool:=
  eJ z (fD t) (fA t) && (decide (jW key (mZ (cO t on) (fD t) (fA t) z)=0) && (decide (tX (fD t) (fA t) z≤p) && decide (p < rf (fD t) (fA t) z)))
def Bn (a t:bo) (on:List ByteArray) (z w:List aH):Bool:=
  eJ w (fD t) (fA t) && (decide (jW (mZ (cO a on) (fD a) (fA a) z) (mZ (cO t on) (fD t) (fA t) w)=0) && (decide (tX (fD t) (fA t) w≤tX (fD a) (fA a) z) && decide (rf (fD a) (fA a) z≤rf (fD t) (fA t) w)))
structure Uni (a t:bo) (on:List ByteArray):Prop where
  ca:ox a on
  ct:ox t on
  again:bb t on=(t,0)
  cover:∀ z∈a.rows,eJ z (fD a) (fA a)=true→∃ w∈t.rows,Bn a t on z w=true
  isIn:∀ w∈t.rows,eJ w (fD t) (fA t)=true
  le:∀ w∈t.rows,tX (fD t) (fA t) w≤rf (fD t) (fA t) w
  up:∀ w∈t.rows,∀ z∈a.rows,∀ p,tX (fD t) (fA t) w≤p→p≤rf (fD t) (fA t) w→Aq a on (mZ (cO t on) (fD t) (fA t) w) z p=true→rf (fD a) (fA a) z≤rf (fD t) (fA t) w
  gap:∀ w∈t.rows,∀ p,tX (fD t) (fA t) w≤p→p < rf (fD t) (fA t) w→∃ z∈a.rows,Aq a on (mZ (cO t on) (fD t) (fA t) w) z p=true
  sep:∀ (k:Nat) (v w:List aH),t.rows[k]? = some v→t.rows[k+1]? = some w→jW (mZ (cO t on) (fD t) (fA t) v) (mZ (cO t on) (fD t) (fA t) w)≤0 ∧
    (jW (mZ (cO t on) (fD t) (fA t) v) (mZ (cO t on) (fD t) (fA t) w)=0→rf (fD t) (fA t) v < tX (fD t) (fA t) w)
end Go.Tb
namespace Go.Ab
open Go.RowKit
def zP (f:List (Nat×A)):Option Operand→Option Int
  | none=>some 0
  | some x=>match av f x with | some (.d (.v (.int _ v)))=>some v | _=>none
def yM (f:List (Nat×A)) (len:Nat):Option Operand→Option Int
  | none=>some (len:Int)
  | some x=>match av f x with | some (.d (.v (.int _ v)))=>some v | _=>none
theorem bc.sub {w:World} {pv:Nat→Nat→Prop} {v:Value} {es:List (List D)} (h:bc w pv v (.sl es)) {i j sz:Nat} (hij:i≤j) (hj:j≤es.length) (hsz:∀ e∈es,e.length=sz) :
    ∃ a cap,v=.slice a es.length cap∧es.length≤cap∧bc w pv (sliced a i j cap sz) (.sl ((es.take j).drop i)):=by
  cases h with
  | nil=>
    have e1:j=0:=by simpa using hj
    subst e1
    have e2:i=0:=by omega
    subst e2
    exact⟨none,0,rfl,Nat.le_refl _,.nil⟩
  | emp a cap hm=>
    have e1:j=0:=by simpa using hj
    subst e1
    have e2:i=0:=by omega
    subst e2
    refine⟨some a,cap,rfl,Nat.zero_le _,?_⟩
    simp only[sliced,List.take_zero,List.drop_zero,Nat.sub_zero]
    split
    · exact .emp a cap hm
    · exact .emp _ cap hm
  | sl b off len cap sz' es u hl hc hm hs hu hr=>
    refine⟨_,cap,by rw[hl],by omega,?_⟩
    rcases Nat.eq_or_lt_of_le hij with e | hlt
    · subst e
      rw[show(es.take i).drop i=[] from List.drop_eq_nil_of_le (List.length_take_le _ _)]
      simp only[sliced,Nat.sub_self]
      split
      · exact .emp _ _ (by omega)
      · exact .emp _ _ (by omega)
    · have e:sz'=sz:=by
        obtain⟨x,hx⟩:∃ x,es[0]? = some x:=⟨es[0]'(by omega),by simp⟩
        rw[←hs 0 x hx,hsz x (List.mem_of_getElem? hx)]
      subst e
      have hne:cap≠i:=by omega
      have ha:∀ (k:Nat) (x:List D),((es.take j).drop i)[k]? = some x→es[i+k]? = some x∧k < j - i:=fun k x hk=>by
        have hk':=hk
        rw[List.getElem?_drop] at hk
        have h1:=(List.getElem?_eq_some_iff.1 hk).1
        rw[List.length_take] at h1
        rw[List.getElem?_take,if_pos (by omega)] at hk
        exact⟨hk,by omega⟩
      simp only[sliced,if_neg hne,Option.map_some]
      rw[show(Addr.add ⟨b,off,none⟩ (i*sz'))=⟨b,off+i*sz',none⟩ from by simp[Addr.add]]
      refine .sl b (off+i*sz') (j - i) (cap - i) sz' _ (fun k c=>u (i+k) c) ?_ (by omega) (by omega) (fun k x hk=>hs _ x (ha k x hk).1) (fun k c hk hc'=>?_) (fun k c x d hk hd=>hr _ c x d (ha k x hk).1 hd)
      · rw[List.length_drop,List.length_take];omega
      · have:=hu (i+k) c (by omega) hc'
        rw[show off+(i+k)*sz'+c=off+i*sz'+k*sz'+c from by rw[Nat.add_mul];omega] at this
        exact this
section
variable {P:Program} (T:cB P) {C:Ctx} {n:Nat}
variable {f:List (Nat×A)} {bx:List (Nat×List A)} {lv:List Nat} {gen:Nat} {ty:TypeId} {pos:String} {af:Array Edge} {dst:Option Nat} {G:Gh} {tmps:Array Value} {w:World}
theorem qt (b:Bool) {lo hi:Option Operand} {len cap:Nat} {i j:Int} (hs:aV C n ⟨f,bx,lv,gen⟩ G tmps w) (hlo:zP f lo=some i) (hhi:yM f len hi=some j) (h0:0≤i) (hij:i≤j) (hj:j≤len) (hc:len≤cap) :
    (Instr.sliceBounds b len cap (lo.map (Act.eval ⟨tmps,[]⟩)) (hi.map (Act.eval ⟨tmps,[]⟩)) none).run P w=.ok (i.toNat,j.toNat,cap) w:=by
  have ev:∀ (x:Operand) (v:Int),(match av f x with | some (.d (.v (.int _ v)))=>some v | _=>none)=some v→∃ k,Act.eval ⟨tmps,[]⟩ x=.int k v:=fun x v h=>by
    split at h
    · rename_i k v' hav
      simp only[Option.some.injEq] at h
      subst h
      have hr:=hs.av hav
      generalize Act.eval ⟨tmps,[]⟩ x=y at hr
      cases hr with | d hr=>cases hr with | v _ _=>exact⟨k,rfl⟩
    · cases h
  have ehj:(j.toNat:Int)=j:=Int.toNat_of_nonneg (by omega)
  have hh:((match hi.map (Act.eval ⟨tmps,[]⟩) with | some v=>Instr.sliceBound v cap (if b then .sliceAcap else .sliceAlen) | none=>pure len:Sem Nat)).run P w=.ok j.toNat w:=by
    cases hi with
    | none=>
      simp only[yM,Option.some.injEq] at hhi
      subst hhi
      simp
    | some x=>
      obtain⟨k,e⟩:=ev x j hhi
      simp only[Option.map_some,e]
      exact run_sliceBound w k j cap _ (by omega) (by omega)
  have hl:((match lo.map (Act.eval ⟨tmps,[]⟩) with | some v=>Instr.sliceBound v j.toNat (if (none:Option Value).isSome then .slice3C else .sliceB) | none=>pure 0:Sem Nat)).run P w=.ok i.toNat w:=by
    cases lo with
    | none=>
      simp only[zP,Option.some.injEq] at hlo
      subst hlo
      simp
    | some x=>
      obtain⟨k,e⟩:=ev x i hlo
      simp only[Option.map_some,e]
      exact run_sliceBound w k i j.toNat _ (by omega) (by omega)
  unfold Instr.sliceBounds
  cases hi with
  | none=>
    cases lo with
    | none=>
      simp only[Option.map_none,Sem.run_bind,Sem.run_pure,Result.andThen_ok] at hh hl ⊢
      simp_all
    | some x=>
      simp only[Option.map_none,Option.map_some,Sem.run_bind,Sem.run_pure,Result.andThen_ok] at hh hl ⊢
      simp only[Result.ok.injEq,and_true] at hh
      rw[←hh] at hl ⊢
      simp_all
  | some y=>
    cases lo with
    | none=>
      simp only[Option.map_none,Option.map_some,Sem.run_bind,Sem.run_pure,Result.andThen_ok] at hh hl ⊢
      rw[hh]
      simp_all
    | some x=>
      simp only[Option.map_some,Sem.run_bind,Sem.run_pure,Result.andThen_ok] at hh hl ⊢
      rw[hh]
      simp_all
theorem ub {α:Type} {fn:α→List D} {t e:Nat} {x:Operand} {lo hi:Option Operand} {td ed:cc} {a:A} {l r:List α} {i j:Int} (hx:av f x=some a) (hes:gI a=some (l.map fn)) (ht:aA T.l t=some td) (hk:td.k=.slice e) (he:aA T.l e=some ed)
    (hn:∀ x,(fn x).length=ed.n) (hlo:zP f lo=some i) (hhi:yM f l.length hi=some j) (h0:0≤i) (hij:i≤j) (hj:j≤(l.length:Int)) (hr:(l.take j.toNat).drop i.toNat=r) :
    Pu P C n ⟨f,bx,lv,gen⟩ ⟨dst,.slice t x lo hi none,ty,pos,af,none⟩ (.d (.sl (r.map fn))):=by
  subst hr
  refine dU.pu fun G tmps w hs=>?_
  have hrx:=gl hes (hs.av hx)
  obtain⟨a',cap,hv,hcap,hrep⟩:=hrx.sub (i:=i.toNat) (j:=j.toNat) (sz:=ed.n) (by omega) (by rw[List.length_map];omega) (fun y hy=>by obtain⟨z,_,rfl⟩:=List.mem_map.1 hy;exact hn z)
  rw[List.length_map] at hv hcap
  have hu:=T.dZ ht hk
  have hpe:P.elem t=e:=by simp[Program.elem,hu]
  have hu':P.underlying t=some (.slice (P.elem t)):=by rw[hpe];exact hu
  refine⟨sliced a' i.toNat j.toNat cap ed.n,?_,.d (by rw[←List.map_take,←List.map_drop] at hrep;exact hrep)⟩
  unfold execOp
  show Sem.run P _ w=_
  simp only[Sem.run_bind,run_sliceAt_slice w t _ _ _ _ hu',hv,run_slice_any w t a' l.length cap hu',Option.map_none,qt (P:=P) true hs hlo hhi h0 hij hj hcap,Result.andThen_ok,hpe,T.sizeOf he]
  rfl
end
end Go.Ab
namespace Go.Tb
open Go.Ab
def kz (a b:Pc):Int:=if jc a b≠0 then jc a b else cI a.to b.to
theorem vj:jr kz:=by
  have h2:jr fun a b:Pc=>cI a.to b.to:=⟨fun a b=>gD.anti _ _,fun a b d=>gD.tr _ _ _⟩
  exact gw.lex h2
theorem qp:∀ (a b c d:List aH),a.length=b.length→bT (a++c) (b++d)=if bT a b≠0 then bT a b else bT c d
  | [],[],c,d,_=>by simp[bT]
  | [],_::_,_,_,h=>by simp at h
  | _::_,[],_,_,h=>by simp at h
  | x::r,y::s,c,d,h=>by
    simp only[List.cons_append,bT]
    rw[qp r s c d (by simpa using h)]
    by_cases q:dd x y=0
    · rw[if_neg (by simp[q])]
      simp only[q,ne_eq,not_true_eq_false,if_false]
    · simp[q]
theorem x9 (a b:Int):dd ⟨2,a,B #[]⟩ ⟨2,b,B #[]⟩=cI a b:=by
  unfold dd
  simp
theorem uf {a b:Pc} (h:a.key.length=b.key.length):jW (a0 a) (a0 b)=kz a b:=by
  rw[pa (by unfold a0;simp[h])]
  unfold a0
  rw[qp _ _ _ _ h]
  simp only[bT,x9]
  unfold kz jc
  by_cases q:bT a.key b.key=0
  · by_cases q2:cI a.fr b.fr=0
    · simp only[q,q2,ne_eq,not_true_eq_false,if_false]
      by_cases q3:cI a.to b.to=0
      · simp[q3]
      · simp[q3]
    · simp[q,q2]
  · simp[q]
theorem AH {a b:Pc} (h:kz a b≤0):kD a b:=by
  unfold kz at h
  unfold kD
  split at h <;> omega
def gn (l:List Pc) (p:Pc):Nat→Nat
  | 0=>0
  | k+1=>if 0 < kz (el l k) p then gn l p k else k+1
def lB (l:List Pc) (p:Pc):List Pc:=l.take (gn l p l.length)++p::l.drop (gn l p l.length)
def iL (out:List Pc):List Pc→List Pc
  | []=>out
  | p::r=>iL (lB out p) r
theorem uD (l:List Pc) (p:Pc):∀ k,gn l p k≤k
  | 0=>Nat.le_refl _
  | k+1=>by
    simp only[gn]
    split
    · have:=uD l p k;omega
    · exact Nat.le_refl _
theorem sr (l:List Pc) (p:Pc):∀ k,(∀ i,gn l p k≤i→i < k→0 < kz (el l i) p)∧(∀ i,i+1=gn l p k→kz (el l i) p≤0)
  | 0=>⟨fun i h1 h2=>by omega,fun i h=>by simp[gn] at h⟩
  | k+1=>by
    have ih:=sr l p k
    simp only[gn]
    split
    · rename_i h
      refine⟨fun i h1 h2=>?_,ih.2⟩
      by_cases q:i=k
      · subst q;exact h
      · exact ih.1 i h1 (by omega)
    · rename_i h
      exact⟨fun i h1 h2=>by omega,fun i hi=>by
        have:i=k:=by omega
        subst this;omega⟩
theorem nz (l:List Pc) (p:Pc):(lB l p).Perm (p::l):=by
  unfold lB
  have h:=List.perm_middle (a:=p) (l₁:=l.take (gn l p l.length)) (l₂:=l.drop (gn l p l.length))
  rw[List.take_append_drop] at h
  exact h
def wy (a b:Pc):Prop:=kz a b≤0
theorem uz {l:List Pc} {p:Pc} (h:l.Pairwise wy):(lB l p).Pairwise wy:=by
  have hs:=sr l p l.length
  have hn:=uD l p l.length
  unfold lB
  obtain⟨m,hm⟩:∃ m,gn l p l.length=m:=⟨_,rfl⟩
  rw[hm] at hs hn ⊢
  have hpw:(l.take m++l.drop m).Pairwise wy:=by rw[List.take_append_drop];exact h
  obtain⟨h1,h2,h3⟩:=List.pairwise_append.1 hpw
  have hlow:∀ x∈l.take m,kz x p≤0:=fun x hx=>by
    obtain⟨i,hi⟩:=List.mem_iff_getElem?.1 hx
    rw[List.getElem?_take] at hi
    split at hi
    · rename_i hlt
      have hk:=hs.2 (m - 1) (by omega)
      by_cases q:i=m - 1
      · subst q;rw[←mY hi];exact hk
      · have hik:=List.pairwise_iff_getElem.1 h i (m - 1) (List.getElem?_eq_some_iff.1 hi).1 (by omega) (by omega)
        have e1:l[i]'(List.getElem?_eq_some_iff.1 hi).1=x:=(List.getElem?_eq_some_iff.1 hi).2
        rw[e1] at hik
        have e2:el l (m - 1)=l[m - 1]'(by omega):=mY (by simp)
        rw[e2] at hk
        exact vj.tr _ _ _ hik hk
    · cases hi
  refine List.pairwise_append.2 ⟨h1,List.pairwise_cons.2 ⟨fun y hy=>?_,h2⟩,fun x hx y hy=>?_⟩
  · obtain⟨i,hi⟩:=List.mem_iff_getElem?.1 hy
    rw[List.getElem?_drop] at hi
    have hlt:=(List.getElem?_eq_some_iff.1 hi).1
    have:=hs.1 (m+i) (by omega) hlt
    rw[mY hi] at this
    show kz p y≤0
    rw[vj.anti];omega
  · rcases List.mem_cons.1 hy with rfl | hy
    · exact hlow x hx
    · exact h3 x hx y hy
theorem ma:∀ (l out:List Pc),out.Pairwise wy→(iL out l).Pairwise wy∧(iL out l).Perm (out++l)
  | [],out,h=>⟨h,by simp[iL]⟩
  | p::r,out,h=>by
    have ih:=ma r (lB out p) (uz h)
    refine⟨ih.1,ih.2.trans ?_⟩
    have h1:=(nz out p).append_right r
    refine h1.trans ?_
    rw[List.cons_append]
    exact List.perm_middle.symm
theorem xW (l:List Pc) (p:Pc):(lB l p).length=l.length+1:=by
  have:=(nz l p).length_eq
  simpa using this
/-! any sorted order of the pieces joins to the same -/
section
variable {K:List aH→Prop} (hK:∀ a b,K a→K b→bT a b=0→a=b)
structure tL (K:List aH→Prop) (ps J:List Pc):Prop where
  good:∀ q∈J,dc K q
  sep:J.Pairwise oy
  cover:∀ p∈ps,∃ q∈J,q.key=p.key∧q.fr≤p.fr∧p.to≤q.to
  gap:∀ q∈J,sQ ps q
include hK in
theorem xk {ps S:List Pc} (hg:∀ p∈ps,dc K p) (hp:S.Perm ps) (hs:S.Pairwise kD):tL K ps (db [] S):=by
  have hm:∀ p,p∈S↔p∈ps:=fun p=>hp.mem_iff
  cases S with
  | nil=>exact⟨(fun q hq=>nomatch hq),List.Pairwise.nil,(fun p hp=>absurd ((hm p).2 hp) List.not_mem_nil),(fun q hq=>nomatch hq)⟩
  | cons c l=>
    rw[nh]
    have hc:=hg c ((hm c).1 List.mem_cons_self)
    have hl2:∀ p∈l,dc K p:=fun p hp=>hg p ((hm p).1 (List.mem_cons_of_mem _ hp))
    exact⟨kN l c hc hl2,lW hK l c hs hc hl2,fun p hp=>ka l c hs p ((hm p).2 hp),lZ l c (fun x h1 h2=>⟨c,(hm c).1 List.mem_cons_self,rfl,h1,h2⟩) (fun p hp=>(hm p).1 (List.mem_cons_of_mem _ hp))⟩
theorem yx {J:List Pc} (hg:∀ q∈J,dc K q) (hs:J.Pairwise oy) {p q:Pc} (hp:p∈J) (hq:q∈J) (hk:p.key=q.key) {x:Int} (h1:p.fr≤x∧x < p.to) (h2:q.fr≤x∧x < q.to):p=q:=by
  obtain⟨i,hi⟩:=List.mem_iff_getElem?.1 hp
  obtain⟨j,hj⟩:=List.mem_iff_getElem?.1 hq
  obtain⟨il,ie⟩:=List.getElem?_eq_some_iff.1 hi
  obtain⟨jl,je⟩:=List.getElem?_eq_some_iff.1 hj
  rcases Nat.lt_trichotomy i j with hij | hij | hij
  · have:=(List.pairwise_iff_getElem.1 hs i j il jl hij).2
    rw[ie,je] at this
    have:=this hk
    omega
  · subst hij
    rw[hi] at hj
    simpa using hj
  · have:=(List.pairwise_iff_getElem.1 hs j i jl il hij).2
    rw[ie,je] at this
    have:=this hk.symm
    omega
theorem vd {ps J1 J2:List Pc} (h1:tL K ps J1) (h2:tL K ps J2):∀ q∈J1,∃ q2∈J2,q2.key=q.key∧q2.fr≤q.fr∧q.to≤q2.to:=fun q hq=>by
  have g:=h1.good q hq
  obtain⟨s,s1,s2,s3,s4⟩:=h1.gap q hq q.fr (Int.le_refl _) g.lt
  obtain⟨q2,t1,t2,t3,t4⟩:=h2.cover s s1
  refine⟨q2,t1,t2.trans s2,by omega,?_⟩
  rcases Int.lt_or_le q2.to q.to with hlt | hge
  · obtain⟨r,r1,r2,r3,r4⟩:=h1.gap q hq q2.to (by omega) hlt
    obtain⟨q3,u1,u2,u3,u4⟩:=h2.cover r r1
    have hkk:q2.key=q3.key:=(t2.trans s2).trans (u2.trans r2).symm
    obtain⟨i,hi⟩:=List.mem_iff_getElem?.1 t1
    obtain⟨j,hj⟩:=List.mem_iff_getElem?.1 u1
    obtain⟨il,ie⟩:=List.getElem?_eq_some_iff.1 hi
    obtain⟨jl,je⟩:=List.getElem?_eq_some_iff.1 hj
    have g2:=h2.good q2 t1
    have g3:=h2.good q3 u1
    rcases Nat.lt_trichotomy i j with hij | hij | hij
    · have:=(List.pairwise_iff_getElem.1 h2.sep i j il jl hij).2
      rw[ie,je] at this
      have:=this hkk
      omega
    · subst hij
      rw[hi] at hj
      simp only[Option.some.injEq] at hj
      subst hj
      omega
    · have:=(List.pairwise_iff_getElem.1 h2.sep j i jl il hij).2
      rw[ie,je] at this
      have:=this hkk.symm
      have:=g2.lt
      omega
  · exact hge
theorem uH {ps J1 J2:List Pc} (h1:tL K ps J1) (h2:tL K ps J2):∀ q∈J1,q∈J2:=fun q hq=>by
  obtain⟨q2,a1,a2,a3,a4⟩:=vd h1 h2 q hq
  obtain⟨q3,b1,b2,b3,b4⟩:=vd h2 h1 q2 a1
  have g:=h1.good q hq
  have e:q=q3:=yx h1.good h1.sep hq b1 (b2.trans a2).symm (x:=q.fr) ⟨Int.le_refl _,g.lt⟩ ⟨by omega,by have:=g.lt;omega⟩
  have e2:q=q2:=by
    obtain⟨k,f,t⟩:=q
    obtain⟨k2,f2,t2⟩:=q2
    subst e
    simp only at a2 a3 a4 b2 b3 b4
    simp only[Pc.mk.injEq]
    exact⟨a2.symm,by omega,by omega⟩
  rw[e2];exact a1
theorem wO {J:List Pc} (hg:∀ q∈J,dc K q) (hK:∀ a b,K a→K b→bT a b=0→a=b) (hs:J.Pairwise oy):J.Pairwise (fun a b=>bg a b=true):=by
  refine List.pairwise_iff_getElem.2 fun i j hi hj hij=>?_
  have hs:=List.pairwise_iff_getElem.1 hs i j hi hj hij
  have g1:=hg _ (List.getElem_mem hi)
  have g2:=hg _ (List.getElem_mem hj)
  unfold bg jc
  simp only[decide_eq_true_eq]
  by_cases k:bT J[i].key J[j].key=0
  · rw[if_neg (by omega)]
    have:=hs.2 (hK _ _ g1.key g2.key k)
    have:=g1.lt
    unfold cI
    rw[if_pos (by omega)];decide
  · rw[if_pos k];have:=hs.1;omega
include hK in
theorem zO {ps J1 J2:List Pc} (h1:tL K ps J1) (h2:tL K ps J2):J1=J2:=by
  have l1:=wO h1.good hK h1.sep
  have l2:=wO h2.good hK h2.sep
  have nd:∀ {J:List Pc},J.Pairwise (fun a b=>bg a b=true)→J.Nodup:=fun h=>h.imp fun {a b} hab=>by
    rintro rfl
    unfold bg at hab
    simp[gw.self] at hab
  have hp:J1.Perm J2:=(List.perm_ext_iff_of_nodup (nd l1) (nd l2)).2 fun q=>⟨uH h1 h2 q,uH h2 h1 q⟩
  refine nK J2 J1 l2 (l1.imp fun {a b} hab=>?_) hp
  unfold bg at hab
  simp only[decide_eq_true_eq] at hab
  show jc a b≤0
  omega
include hK in
theorem join_eq (ps:List Pc) (hg:∀ p∈ps,dc K p):db [] (iL [] ps)=db [] (cH bg ps):=by
  have h:=ma ps [] List.Pairwise.nil
  rw[List.nil_append] at h
  exact zO hK (xk hK hg h.2 (h.1.imp fun {a b} hab=>AH hab)) (xk hK hg (dI bg ps).perm (nJ ps))
end
end Go.Tb
namespace Go.Ab
open Go.RowKit
section
variable {P:Program} (T:cB P) {C:Ctx} {n:Nat} {ops:Array Oper} {Q:Exit→St→Prop} {rest:List Oper}
variable {f f':List (Nat×A)} {bx bx':List (Nat×List A)} {lv:List Nat} {gen:Nat} {d:Nat} {op:Op} {ty:TypeId} {pos:String} {af:Array Edge} {a:A} {dst:Option Nat} {c:Code} {o:Oper}
theorem bc.yo {w:World} {pv:Nat→Nat→Prop} {x u:Value} {y:D} {E:List (List D)} (h:bc w pv x (.sl (E++[[.v u]]))) (hy:bc w pv u y):bc w pv x (.sl (E++[[y]])):=by
  generalize he:E++[[D.v u]]=es at h
  have g:es[E.length]? = some [D.v u]:=by rw[←he];simp
  have hlen:es.length=(E++[[y]]).length:=by rw[←he];simp
  have hat:∀ (i:Nat) (e:List D),(E++[[y]])[i]? = some e→(i≠E.length∧es[i]? = some e)∨(i=E.length∧e=[y]):=fun i e hi=>by
    rcases Nat.lt_trichotomy i E.length with q | q | q
    · left
      rw[List.getElem?_append_left q] at hi
      exact⟨by omega,by rw[←he,List.getElem?_append_left q];exact hi⟩
    · right
      subst q
      simp at hi
      exact⟨rfl,hi.symm⟩
    · have:=(List.getElem?_eq_some_iff.1 hi).1
      simp at this;omega
  cases h with
  | nil=>simp at g
  | emp=>simp at g
  | sl b off len cap sz _ uu hl hc hm hs hu hr=>
    have s1:(1:Nat)=sz:=hs _ _ g
    refine .sl b off len cap sz _ uu (by rw[←hlen];exact hl) hc hm (fun i e hi=>?_) hu (fun i j e z hi hj=>?_)
    · rcases hat i e hi with ⟨_,q⟩ | ⟨_,q⟩
      · exact hs i e q
      · rw[q];exact s1
    · rcases hat i e hi with ⟨_,q⟩ | ⟨q,q2⟩
      · exact hr i j e z q hj
      · subst q2
        subst q
        have hj0:j=0:=by have:=(List.getElem?_eq_some_iff.1 hj).1;simp at this;omega
        subst hj0
        simp only[List.getElem?_cons_zero,Option.some.injEq] at hj
        subst hj
        have r1:=hr E.length 0 _ _ g rfl
        generalize uu E.length 0=z at r1
        cases r1 with | v _ _=>exact hy
theorem xn {x:Value} (h:∃ a l c,x=.slice a l c):dq x=true:=by obtain⟨a,l,c,rfl⟩:=h;rfl
theorem fh.slice {w:World} {pv:Nat→Nat→Prop} {r:Row} {v:Value} {es:List (List D)} (h:fh w pv r v es):∃ a l c,v=.slice a l c:=by
  cases r with
  | nil=>exact⟨_,_,_,h.1⟩
  | zero b=>exact⟨_,_,_,h.1⟩
  | blk b len cap sz pub=>exact⟨_,_,_,h.1⟩
  | mp b=>exact h.elim
theorem uW {t e s:Nat} {td ed:cc} {g:Nat} {es:List (List D)} (hl:look f s=some (.xs g es)) (ht:aA T.l t=some td) (hk:td.k=.slice e) (he:aA T.l e=some ed) (hgl:(lv.any fun h=>Nat.beq h g)=true) (hn1:ed.n=1) (hsn:Nat.blt s n=true) :
    Pu P C n ⟨f,bx,lv,gen⟩ ⟨dst,.buildSlice t 1 #[(0,.tmp s)],ty,pos,af,none⟩ (.fx g es none):=by
  intro G tmps w hs
  obtain⟨u,hv,hr⟩:=hs.frame s _ hl
  obtain⟨r,hgr⟩:=hs.live g (ib hgl)
  cases hr with
  | xs _ _ _ hgg h1 hrow=>
  have hx:=hrow r hgr
  have hok:=xn hx.slice
  have hs1:=hs.set (d:=s) (Nat.le_of_ble_eq_true hsn) (v:=u) (a:=.d (.v u)) (.d (.v u hok))
  rw[fZ hv] at hs1
  have hb:=zt (P:=P) (C:=C) (n:=n) (f:=(s,.d (.v u))::f) (bx:=bx) (lv:=lv) (gen:=gen) (dst:=dst) (ty:=ty) (pos:=pos) (af:=af) (parts:=#[(0,.tmp s)]) (es:=[[.v u]]) T ht hk he
    (by simp[jN,av,bl,tJ]) rfl (by rw[hn1];rfl) (by rw[hn1];rfl) (by rw[hn1];rfl) rfl
  refine(hb G tmps w hs1).mono fun v w' ⟨hbe,hrep⟩=>⟨hbe,?_⟩
  obtain⟨hle,hs2⟩:=hs.gL hbe
  cases hrep with
  | fl _ _ hd hfl=>
  refine .fx _ u g es none hd hgg (fun r' hr'=>?_) (fun y hy=>nomatch hy)
  obtain⟨v2,hv2,hr2⟩:=hs2.frame s _ hl
  have hr2':=(aW.xs (E:=aK C G gen w) u g es hgg h1 hrow).mono hle
  cases hr2' with
  | xs _ _ _ _ _ h3=>exact h3 r' hr'
theorem xP {x:Operand} {t e sy:Nat} {td ed:cc} {g:Nat} {es:List (List D)} {h:Nat} {row:List (List D)} (hx:av f x=some (.own g es)) (hy:look f sy=some (.fx h row none)) (ht:aA T.l t=some td) (hk:td.k=.slice e) (he:aA T.l e=some ed)
    (hgl:(lv.any fun k=>Nat.beq k g)=true) (hn1:ed.n=1) (hb0:Nat.blt 0 ed.b=true) (hd:Nat.blt d n=true) (hsy:Nat.blt sy n=true) (hl:∀ z∈es,z.length=1) (hb:(es.length+1)*ed.b≤140737488355328)
    {lv':List Nat} (hlv:gen::dw lv g=lv') (H:WO P C n ops Q rest ⟨(d,.ol gen es h row)::f,bx,lv',gen+1⟩):WO P C n ops Q (⟨some d,.call ⟨.builtin .append,#[x,.tmp sy],#[t,t]⟩,ty,pos,af,none⟩::rest) ⟨f,bx,lv,gen⟩:=by
  subst hlv
  refine WO.step (st:=⟨f,bx,lv,gen⟩) rfl fun tmps w ⟨G,hs⟩=>?_
  have hr:=hs.av hx
  obtain⟨v2,hv2,hr2⟩:=hs.frame sy _ hy
  obtain⟨r,hgr⟩:=hs.live g (ib hgl)
  cases hr2 with
  | fx _ u _ _ _ hd2 hgg2 hu2 _=>
  generalize hv:Act.eval ⟨tmps,[]⟩ x=v at hr
  cases hr with
  | own _ _ _ hrd hgg hrow=>
  obtain⟨sz,hsl,hri⟩:=hrow r hgr
  have hsyn:sy < n:=Nat.le_of_ble_eq_true hsy
  have hs1:=hs.set (d:=sy) hsyn (v:=v2) (a:=.fx h row (some u)) (.fx _ u h row (some u) hd2 hgg2 hu2 (fun y hy=>(Option.some.inj hy).symm))
  rw[fZ hv2] at hs1
  obtain⟨v',w',hrun,⟨G',_,hs',hv'⟩⟩:=l8 T false hs1 ht hk he hrd.AD hd2 (.own g r hgr ⟨hrd,sz,hsl,hri⟩) (by
    intro z hz
    rcases List.mem_append.1 hz with hz | hz
    · rw[hl z hz,hn1]
    · rw[List.mem_singleton.1 hz,hn1];rfl) (by omega) (Nat.le_of_ble_eq_true hb0) hb ty
  rw[←hv] at hrun
  have e2:Act.eval ⟨tmps,[]⟩ (.tmp sy)=v2:=by simp[Act.eval,hv2]
  rw[←e2] at hrun
  have hfin:aW (aK C G' (gen+1) w') v' (.ol gen es h row):=by
    obtain⟨v3,hv3,hr3⟩:=hs'.frame sy (.fx h row (some u)) (by show look ((sy,A.fx h row (some u))::f) sy=_;rw[bl,if_pos rfl])
    cases hr3 with
    | fx _ u' _ _ _ _ hgh2 hrows2 hou=>
    obtain rfl:=hou u rfl
    have hv':aW (aK C G' (gen+1) w') v' (.own gen (es++[[.v u]])):=hv'
    cases hv' with
    | own _ _ _ k1 k2 k3=>exact .ol _ u gen es h row k1 k2 k3 hgh2 hrows2
  have hfr:∀ (t:Nat) (a:A),look f t=some a→∃ v,tmps[t]? = some v∧aW (aK C G' (gen+1) w') v a:=by
    intro t a ha
    by_cases e:sy=t
    · subst e
      rw[hy] at ha
      simp only[Option.some.injEq] at ha
      subst ha
      obtain⟨v3,hv3,hr3⟩:=hs'.frame sy (.fx h row (some u)) (by show look ((sy,A.fx h row (some u))::f) sy=_;rw[bl,if_pos rfl])
      refine⟨v3,hv3,?_⟩
      cases hr3 with
      | fx _ u' _ _ _ m1 m2 m3 _=>exact .fx _ u' h row none m1 m2 m3 (fun y hy=>nomatch hy)
    · exact hs'.frame t a (by show look ((sy,A.fx h row (some u))::f) t=_;rw[bl,if_neg e];exact ha)
  have hs2:aV C n ⟨f,bx,gen::dw lv g,gen+1⟩ G' tmps w':={ hs' with frame:=hfr }
  exact cL (l9 rfl hrun) ⟨_,⟨G',hs2.put (dst:=some d) (cP (dst:=some d) hd) hfin⟩,H⟩
theorem aV.nX {G:Gh} {tmps:Array Value} {w:World} (hs:aV C n ⟨f,bx,lv,gen⟩ G tmps w) {g0:Nat} {cells cells':List A} (hb:aA bx g0=some cells) (hlen:cells'.length=cells.length)
    (hc:∀ b cs T,G.box g0=some b→w.heap[b]? = some (.cells cs T (0,0))→(∀ (i:Nat) (x:Value) (a:A),cs[i]? = some x→cells[i]? = some a→aW (aK C G gen w) x a)→∀ (i:Nat) (x:Value) (a:A),cs[i]? = some x→cells'[i]? = some a→aW (aK C G gen w) x a) :
    aV C n ⟨f,(g0,cells')::bx,lv,gen⟩ G tmps w:=by
  refine { hs with box:=fun g' l hl=>?_ }
  simp only[bP] at hl
  split at hl
  · rename_i e
    subst e
    simp only[Option.some.injEq] at hl
    subst hl
    obtain⟨b,cs,T',h1,h2,h3,h4,h5⟩:=hs.box g0 cells hb
    exact⟨b,cs,T',h1,h2,by rw[hlen];exact h3,h4,hc b cs T' h1 h2 h5⟩
  · exact hs.box g' l hl
theorem zK (gq jq g0 j:Nat) {cells cq:List A} {g h:Nat} {E row:List (List D)} (hb:aA bx g0=some cells) (hc:cells[j]? = some (.ol g E h row)) (hhl:(lv.any fun k=>Nat.beq k h)=true) (hp:0 < row.length) (hq:aA bx gq=some cq) (hne:Nat.beq gq g0=false) {lv':List Nat} (hlv:dw lv h=lv')
    (H:∀ v cap k,W P C n c Q ⟨f,(gq,cq.set jq (.lk gen row.length cap v))::(gen,a7 row k)::(g0,cells.set j (.own g (E++[[.v v]])))::bx,lv',gen+1⟩):W P C n c Q ⟨f,bx,lv,gen⟩:=by
  subst hlv
  intro tmps w ⟨G,hs⟩
  obtain⟨r,hgr⟩:=hs.live h (ib hhl)
  obtain⟨b0,cs0,T0,p1,p2,p3,p4,p5⟩:=hs.box g0 cells hb
  have hj:j < cs0.size:=by rw[p3];exact(List.getElem?_eq_some_iff.1 hc).1
  have hx0:cs0[j]? = some cs0[j]:=by simp[hj]
  have hrep:=p5 j _ _ hx0 hc
  generalize cs0[j]=x0 at hx0 hrep
  cases hrep with
  | ol _ u _ _ _ _ k1 k2 k3 k4 k5=>
  have hxr:=k5 r hgr
  cases r with
  | nil=>obtain⟨_,rfl⟩:=hxr;simp at hp
  | zero b=>obtain⟨_,rfl⟩:=hxr;simp at hp
  | mp b=>exact hxr.elim
  | blk b len cap sz pub=>
    obtain rfl:pub=0:=hxr.2.2.1
    have hs1:=hs.nX (g0:=g0) (cells':=cells.set j (.own g (E++[[.v u]]))) hb (by simp) (fun b2 cs T' q1 q2 q3 i x a hx ha=>by
      by_cases e:j=i
      · subst e
        rw[List.getElem?_set_self (List.getElem?_eq_some_iff.1 hc).1] at ha
        simp only[Option.some.injEq] at ha
        subst ha
        rw[p1] at q1
        simp only[Option.some.injEq] at q1
        subst q1
        rw[p2] at q2
        simp only[Option.some.injEq,Obj.cells.injEq] at q2
        rw[←q2.1,hx0] at hx
        simp only[Option.some.injEq] at hx
        subst hx
        exact .own _ _ _ k1 k2 k3
      · rw[List.getElem?_set_ne e] at ha
        exact q3 i x a hx ha)
    obtain⟨G',hs2,hv'⟩:=hs1.w8 hgr hxr (dw lv h) (fun g' hg'=>eR hg')
    refine H u cap (cap*sz - len*sz) tmps w ⟨G',?_⟩
    have hq2:aA ((gen,a7 row (cap*sz - len*sz))::(g0,cells.set j (.own g (E++[[.v u]])))::bx) gq=some cq:=by
      obtain⟨bq,_,_,hbq,_⟩:=hs.box gq cq hq
      rw[bP,if_neg (Ne.symm (Nat.ne_of_lt (hs.gbox gq bq hbq).1)),bP,if_neg (fun e=>by subst e;simp at hne)]
      exact hq
    cases hv' with
    | sb _ _ _ _ b2 m1 m2 m3 m4=>
    refine hs2.nX hq2 (by simp) fun b3 cs3 T3 q1 q2 q3 i x a hx ha=>?_
    by_cases e:jq=i
    · subst e
      have hlt:jq < (cq.set jq (.lk gen row.length cap u)).length:=(List.getElem?_eq_some_iff.1 ha).1
      rw[List.length_set] at hlt
      rw[List.getElem?_set_self hlt] at ha
      simp only[Option.some.injEq] at ha
      subst ha
      exact .lk x gen row.length cap b2 u m1 m2 m3 m4
    · rw[List.getElem?_set_ne e] at ha
      exact q3 i x a hx ha
theorem AT (gq jq:Nat) {g:Nat} {cells cq:List A} (hb:aA bx g=some cells) (hq:aA bx gq=some cq) (H:∀ v,W P C n c Q ⟨f,(gq,cq.set jq (.lk g 0 0 v))::bx,lv,gen⟩):W P C n c Q ⟨f,bx,lv,gen⟩:=by
  intro tmps w ⟨G,hs⟩
  obtain⟨b,cs,T',h1,_⟩:=hs.box g cells hb
  refine H (.slice (some ⟨b,0,none⟩) 0 0) tmps w ⟨G,hs.nX hq (by simp) fun b2 cs2 T2 q1 q2 q3 i x a hx ha=>?_⟩
  by_cases e:jq=i
  · subst e
    have hlt:jq < (cq.set jq (.lk g 0 0 (.slice (some ⟨b,0,none⟩) 0 0))).length:=(List.getElem?_eq_some_iff.1 ha).1
    rw[List.length_set] at hlt
    rw[List.getElem?_set_self hlt] at ha
    simp only[Option.some.injEq] at ha
    subst ha
    exact .lk x g 0 0 b _ (hs.gbox g b h1).1 h1 ⟨Nat.le_refl _,by simp⟩ rfl
  · rw[List.getElem?_set_ne e] at ha
    exact q3 i x a hx ha
theorem my {gq jq g m cap:Nat} {cq:List A} {v:Value} (hq:aA bx gq=some cq) (hj:cq[jq]? = some (.lk g m cap v)) (h:Pu P C n ⟨f,bx,lv,gen⟩ o (.d (.v v))):Pu P C n ⟨f,bx,lv,gen⟩ o (.sb g m cap):=by
  intro G tmps w hs
  obtain⟨b2,cs,T',h1,h2,h3,h4,h5⟩:=hs.box gq cq hq
  have hlt:jq < cs.size:=by rw[h3];exact(List.getElem?_eq_some_iff.1 hj).1
  have hr:=h5 jq cs[jq] _ (by simp[hlt]) hj
  generalize cs[jq]=y0 at hr
  refine(h G tmps w hs).mono fun v' w' ⟨h1,h2⟩=>⟨h1,?_⟩
  cases h2 with | d h2=>cases h2 with | v _ _=>
  cases hr with | lk _ _ _ _ b _ hg hb hn hx=>exact .sb _ g m cap b hg hb hn hx
theorem zG {t e:Nat} {x y:Operand} {td ed:cc} {g m cap:Nat} {k:IntKind} {j:Int} (hx:av f x=some (.sb g m cap)) (hy:av f y=some (.d (.v (.int k j)))) (ht:aA T.l t=some td) (hk:td.k=.slice e) (he:aA T.l e=some ed) (h0:0≤j) (hj:j≤(m:Int)) {r:Nat} (hr:j.toNat=r) :
    Pu P C n ⟨f,bx,lv,gen⟩ ⟨dst,.slice t x none (some y) none,ty,pos,af,none⟩ (.sb g r cap):=by
  subst hr
  refine dU.pu fun G tmps w hs=>?_
  have hrx:=hs.av hx
  generalize hv:Act.eval ⟨tmps,[]⟩ x=vx at hrx
  cases hrx with
  | sb _ _ _ _ b hgg hb hn h2=>
  have hu:=T.dZ ht hk
  have hpe:P.elem t=e:=by simp[Program.elem,hu]
  have hu':P.underlying t=some (.slice (P.elem t)):=by rw[hpe];exact hu
  refine⟨sliced (some ⟨b,0,none⟩) 0 j.toNat cap ed.n,?_,.sb _ g _ cap b hgg hb ⟨by omega,hn.2⟩ ?_⟩
  · unfold execOp
    show Sem.run P _ w=_
    have hbr:(Instr.sliceBounds true m cap none (Option.map (Act.eval ⟨tmps,[]⟩) (some y)) none).run P w=.ok (0,j.toNat,cap) w:=qt (P:=P) true hs (lo:=none) (hi:=some y) (len:=m) (cap:=cap) (i:=0) (j:=j) rfl (by simp[yM,hy]) (by omega) h0 hj hn.1
    simp only[Sem.run_bind,run_sliceAt_slice w t _ _ _ _ hu',hv,h2,run_slice_any w t _ m cap hu',Option.map_none,hbr,Result.andThen_ok,hpe,T.sizeOf he]
    rfl
  · unfold sliced
    by_cases q:cap=0
    · rw[if_pos q,q];simp
    · rw[if_neg q];simp[Addr.add]
theorem x2 [fw P] [GC P C] {x y z:Operand} {tys:Array TypeId} {fid:FuncId} {g m cap k sz:Nat} {es es1:List (List D)} {d2:D} {val:Value} (hx:av f x=some (.clo fid [])) (hy:av f y=some (.sb g m cap)) (hz:av f z=some (.d d2)) (hb:aA bx g=some (a7 es k))
    (hes:es.take m=es1) (hm:m≤es.length) (hls:∀ (e:List D),e∈es→e.length=sz) (hf:ax P fid [.d (.sl es1),.d d2] (.d (.v val)) 0) :
    Pu P C n ⟨f,bx,lv,gen⟩ ⟨dst,.call ⟨.value x,#[y,z],tys⟩,ty,pos,af,none⟩ (.d (.v val)):=by
  subst hes
  intro G tmps w hs
  obtain⟨fn,hfn,hname,hbody⟩:=hf.ok
  have hr:=hs.av hx
  generalize hv:Act.eval ⟨tmps,[]⟩ x=v at hr
  cases hr with
  | clo _ vs _ hsz hd=>
  have hvs:vs=#[]:=Array.eq_empty_of_size_eq_zero (by simpa using hsz)
  subst hvs
  have hry:=hs.av hy
  have hrz:=hs.av hz
  have hrun:(execOp (Act.eval ⟨tmps,[]⟩) ⟨dst,.call ⟨.value x,#[y,z],tys⟩,ty,pos,af,none⟩).run P w=.ok (.enter fid #[Act.eval ⟨tmps,[]⟩ y,Act.eval ⟨tmps,[]⟩ z]) w:=by
    unfold execOp
    show Sem.run P (do let d ←resolve (Act.eval ⟨tmps,[]⟩) ⟨.value x,#[y,z],tys⟩ ty;invoke d.target d.args) w=_
    simp only[resolve,hv,Deferred.ofValue,Sem.run_bind,Sem.run_pure,Result.andThen_ok,invoke,callFunc,run_program,hfn,hname,hbody,Bool.false_eq_true,if_false,Array.empty_append]
    simp
  unfold da
  have hrun':(execOp (Act.eval { tmps:=tmps,defers:=[] }) ⟨dst,.call ⟨.value x,#[y,z],tys⟩,ty,pos,af,none⟩).run P w=.ok (.enter fid #[Act.eval ⟨tmps,[]⟩ y,Act.eval ⟨tmps,[]⟩ z]) w:=hrun
  rw[hrun']
  let C':Ctx:={ w0:=w,fp:=fun _=>False,x:=fun _ _=>False }
  have hgc:GC P C':=by
    obtain⟨W,h1,h2,h3⟩:=GC.at_ (P:=P) hs.fr
    exact⟨W,h1,h2,fun b hb=>⟨h3 b hb,fun h=>h⟩⟩
  have hpv:∀ b o,¬ bD C' G0 b o:=by
    rintro b o (hp | ⟨g',hp⟩ | ⟨g',len,cap,sz,pub,hp,_⟩)
    · exact hp
    · cases hp
    · cases hp
  have hdm:∀ {v:Value} {y:D},bc w (bD C G) v y→bc w (bD C' G0) v y:=fun h=>h.mono fun b o u h1 _=>⟨h1,hpv b o⟩
  refine(hf.calls C' #[Act.eval ⟨tmps,[]⟩ y,Act.eval ⟨tmps,[]⟩ z] w hgc rfl ⟨fun _ h=>h,fun _ _ h=>h,rfl,rfl⟩ (fun b o h=>h.elim) (by simp) (fun i u a hu ha=>?_)).mono fun e w' ⟨v,G',he,h3,h4⟩=>⟨v,he,Fr.toBelow (C:=C) (G:=G) (w:=w) (w':=w') ⟨h3.fr.os,h3.fr.tape,h3.fr.output,h3.fr.size,h3.fr.block,fun b o u hk _=>hk.elim,h3.fr.ty⟩,?_⟩
  · match i,hu,ha with
    | 0,hu,ha=>
      simp only[List.getElem?_cons_zero,Option.some.injEq] at ha
      have hu:Act.eval ⟨tmps,[]⟩ y=u:=by simpa using hu
      subst ha
      rw[hu] at hry
      cases hry with
      | sb _ _ _ _ b hgg hb' hn h2=>
      obtain⟨b',cs,T',h1,hw,h3,h4,h5⟩:=hs.box g _ hb
      have hb':G.box g=some b:=hb'
      rw[h1] at hb'
      simp only[Option.some.injEq] at hb'
      subst hb'
      rw[h2]
      have hlen:(es.take m).length=m:=by rw[List.length_take];omega
      have hfl:=gS hls
      have hcell:∀ i j (e:List D) (y:D),es[i]? = some e→e[j]? = some y→∃ u,cs[i*sz+j]? = some u∧bc w (bD C' G0) u y:=fun i j e y hi hj=>by
        have hfg:=fM hls i j e y hi hj
        have hlt:i*sz+j < es.flatten.length:=(List.getElem?_eq_some_iff.1 hfg).1
        have hc:(a7 es k)[i*sz+j]? = some (.d y):=by
          unfold a7
          rw[List.getElem?_append_left (by rw[List.length_map];exact hlt),List.getElem?_map,hfg];rfl
        have hj':i*sz+j < cs.size:=by rw[h3];exact(List.getElem?_eq_some_iff.1 hc).1
        have e1:cs[i*sz+j]? = some cs[i*sz+j]:=by simp[hj']
        have:=h5 _ _ _ e1 hc
        generalize cs[i*sz+j]=u at this e1
        cases this with | d hd=>exact⟨u,e1,hdm hd⟩
      refine .d ?_
      have:=bc.ofRow (es:=es.take m) (cap:=cap) (sz:=sz) hw (by rw[hlen];exact hn.1) hn.2 (fun e he=>hls e (List.mem_of_mem_take he)) (fun t _=>hpv b' t) (fun i j e y hi hj=>hcell i j e y (by
        have hi2:=(List.getElem?_eq_some_iff.1 hi).1
        rw[List.getElem?_take,if_pos (by omega)] at hi
        exact hi) hj)
      rw[hlen] at this
      exact this
    | 1,hu,ha=>
      simp only[List.getElem?_cons_succ,List.getElem?_cons_zero,Option.some.injEq] at ha
      have hu:Act.eval ⟨tmps,[]⟩ z=u:=by simpa using hu
      subst ha
      rw[hu] at hrz
      cases hrz with | d hd=>exact .d (hdm hd)
    | i+2,hu,ha=>simp at ha
  · cases h4 with | d hd=>cases hd with | v _ hok=>exact .d (.v _ hok)
theorem yg {es:List (List D)} {sz i k off p:Nat} {e:List D} {y:D} (hl:∀ (x:List D),x∈es→x.length=sz) (he:es[i]? = some e) (hy:e[off]? = some y) (hp:p=i*sz+off):(a7 es k)[p]? = some (.d y):=by
  subst hp
  have hfg:=fM hl i off e y he hy
  have hlt:i*sz+off < es.flatten.length:=(List.getElem?_eq_some_iff.1 hfg).1
  unfold a7
  rw[List.getElem?_append_left (by rw[List.length_map];exact hlt),List.getElem?_map,hfg];rfl
theorem rG {t:Nat} {x:Operand} {g p k i sz off:Nat} {es:List (List D)} {e:List D} {y:D} (hx:av f x=some (.ptr g p)) (hb:aA bx g=some (a7 es k)) (hl:∀ (x:List D),x∈es→x.length=sz) (he:es[i]? = some e) (hy:e[off]? = some y) (hp:p=i*sz+off) (ha:iR T t [y]=some a) :
    Pu P C n ⟨f,bx,lv,gen⟩ ⟨dst,.load t x,ty,pos,af,none⟩ a:=by
  refine dU.pu fun G tmps w hs=>?_
  obtain⟨b,cs,T',h1,h2,h3,h4,h5⟩:=gO hs hb (hs.av hx)
  have hc:=yg (k:=k) hl he hy hp
  have hj':p < cs.size:=by rw[h3];exact(List.getElem?_eq_some_iff.1 hc).1
  have e1:cs[p]? = some cs[p]:=by simp[hj']
  have hd:=h5 _ _ _ e1 hc
  generalize cs[p]=z at e1 hd
  cases hd with
  | d hd=>
  obtain⟨v,h6,h7⟩:=im (E:=aK C G gen w) T (t:=t) (a:=a) (b:=b) (off:=p) (u:=fun _=>z) (l:=[y]) (fun j hj=>by
      have:j=0:=by simp at hj;omega
      subst this
      show cellAt w b (p+0)=_
      rw[cd h2,Nat.add_zero,e1]) (fun j y' hj=>by
      have:j=0:=by have:=(List.getElem?_eq_some_iff.1 hj).1;simp at this;omega
      subst this
      simp only[List.getElem?_cons_zero,Option.some.injEq] at hj
      subst hj;exact hd) ha
  refine⟨v,?_,h7⟩
  rw[gG rfl]
  show Sem.run P _ w=.ok _ w
  have h6':(Instr.loadAt t (.pointer (some ⟨b,p,none⟩))).run P w=.ok v w:=h6
  simp only[h1,Sem.run_bind,h6',Result.andThen_ok,Sem.run_pure]
theorem sT [hnb:NB C 0] (gq jq g0 j:Nat) {g m cap sz k:Nat} {es:List (List D)} {v:Value} {cells cq:List A} {g1:Nat} {R R':List (List D)} (hq:aA bx gq=some cq) (hqj:cq[jq]? = some (.lk g m cap v)) (hgq:Nat.beq gq g=false) (hb:aA bx g=some (a7 es k)) (hm:R=R'∨∃ E,R=E++[[.v v]]∧R'=E++[[.sl es]]∧es.length=m∧∀ (x:List D),x∈es→x.length=sz)
    (hf:l4 g [] f=f') (hbx:oA g [] ((gq,cq.set jq .any)::bx)=some bx') (hb0:aA bx' g0=some cells) (hcj:cells[j]? = some (.own g1 R))
    (h:W P C n c Q ⟨f',(g0,cells.set j (.own g1 R'))::bx',lv,gen⟩):W P C n c Q ⟨f,bx,lv,gen⟩:=by
  subst hf
  intro tmps w ⟨G,hs⟩
  obtain⟨bq,csq,Tq,hq1,hq2,hq3,hq4,hq5⟩:=hs.box gq cq hq
  have hltq:jq < csq.size:=by rw[hq3];exact(List.getElem?_eq_some_iff.1 hqj).1
  have hr:=hq5 jq csq[jq] _ (by simp[hltq]) hqj
  generalize csq[jq]=y0 at hr
  have hs:=hs.nX (cells':=cq.set jq .any) hq (by simp) (fun b2 cs2 T2 q1 q2 q3 i x a hx ha=>by
    by_cases e:jq=i
    · subst e
      have hlt:jq < (cq.set jq A.any).length:=(List.getElem?_eq_some_iff.1 ha).1
      rw[List.length_set] at hlt
      rw[List.getElem?_set_self hlt] at ha
      simp only[Option.some.injEq] at ha
      subst ha
      exact .any _
    · rw[List.getElem?_set_ne e] at ha
      exact q3 i x a hx ha)
  have hb:aA ((gq,cq.set jq .any)::bx) g=some (a7 es k):=by
    rw[bP,if_neg (fun e=>by subst e;simp at hgq)];exact hb
  obtain⟨b,cs,T',hgb,hw,h3,h4,h5⟩:=hs.box _ _ hb
  cases hr with
  | lk _ _ _ _ b' _ hgg hb' hn hx=>
  have hb':G.box g=some b':=hb'
  rw[hgb] at hb'
  cases hb'
  let G':Gh:=⟨fun x=>if x=g then none else G.box x,G.own⟩
  have hpv:∀ b' o,bD C G' b' o→bD C G b' o:=by
    rintro b' o (hp | ⟨g',hp⟩ | hp)
    · exact .inl hp
    · simp only[G'] at hp
      split at hp
      · cases hp
      · exact .inr (.inl ⟨g',hp⟩)
    · exact .inr (.inr hp)
  have hnot:∀ o,¬ bD C G' b o:=by
    rintro o (hp | ⟨g',hp⟩ | ⟨g',len,cap,sz,pub,hp,_⟩)
    · have:=hs.xold b o hp
      rcases(hs.gbox g b hgb).2.2.1 with hm | hm
      · omega
      · exact this.2 hm
    · simp only[G'] at hp
      split at hp
      · cases hp
      · rename_i e;exact e (hs.inj g' g b hp hgb)
    · exact(hs.row g' b len cap sz pub hp).2.1 g hgb
  have hrep:∀ {v:Value} {a:A},aW (aK C G gen w) v a→kt g a=true→aW (aK C G' gen w) v a:=fun h ha=>
    aW.forget (E:=aK C G gen w) (E':=aK C G' gen w) rfl (fun b o u hu hn=>⟨hu,fun hp=>hn (hpv b o hp)⟩) (fun b h=>h) (fun g' b hne hb=>by show(if g'=g then none else G.box g')=some b;rw[if_neg hne];exact hb) rfl rfl h ha
  have hs':aV C n ⟨l4 g [] f,bx',lv,gen⟩ G' tmps w:=by
    refine { size:=hs.size,frame:=?_,box:=?_,gbox:=?_,inj:=?_,live:=hs.live,gown:=hs.gown,row:=?_,mrow:=?_,xold:=hs.xold,kold:=hs.kold,lent:=?_,fr:=hs.fr }
    · intro t a ha
      obtain⟨h1,h2,_⟩:=ko ha
      obtain⟨v,hv,hr⟩:=hs.frame t a h1
      exact⟨v,hv,hrep hr h2⟩
    · intro g' cells hc
      obtain⟨h1,h2,h6,_⟩:=km hbx hc
      obtain⟨b2,cs2,T2,p1,p2,p3,p4,p5⟩:=hs.box g' cells h1
      exact⟨b2,cs2,T2,by simp only[G'];rw[if_neg h6];exact p1,p2,p3,p4,fun i u a hu ha=>hrep (p5 i u a hu ha) (gR h2 a (List.mem_of_getElem? ha))⟩
    · intro g' b2 hb2
      simp only[G'] at hb2
      split at hb2
      · cases hb2
      · exact hs.gbox g' b2 hb2
    · intro g1 g2 b2 h1 h2
      simp only[G'] at h1 h2
      split at h1
      · cases h1
      · split at h2
        · cases h2
        · exact hs.inj g1 g2 b2 h1 h2
    · intro g' b2 len cap sz pub hr
      obtain⟨p1,p2,p3⟩:=hs.row g' b2 len cap sz pub hr
      refine⟨p1,fun g2 h2=>?_,p3⟩
      simp only[G'] at h2
      split at h2
      · cases h2
      · exact p2 g2 h2
    · intro g' b2 hr
      obtain⟨p1,p2,p3⟩:=hs.mrow g' b2 hr
      refine⟨p1,fun g2 h2=>?_,p3⟩
      simp only[G'] at h2
      split at h2
      · cases h2
      · exact p2 g2 h2
    · intro i b2 hb2
      have:=hnb.h
      have hi:=(List.getElem?_eq_some_iff.1 hb2).1
      omega
  refine h tmps w ⟨G',?_⟩
  refine hs'.nX (g0:=g0) hb0 (by simp) (fun b2 cs2 T2 q1 q2 q3 i x a hxx ha=>?_)
  by_cases e:j=i
  · subst e
    rw[List.getElem?_set_self (List.getElem?_eq_some_iff.1 hcj).1] at ha
    simp only[Option.some.injEq] at ha
    subst ha
    have hold:=q3 j x _ hxx hcj
    rcases hm with rfl | ⟨E,rfl,rfl,hm,hls⟩
    · exact hold
    · subst hm
      have hdata:bc w (bD C G') v (.sl es):=by
        rw[hx]
        have hfl:=gS hls
        have hcell:∀ i j (e:List D) (y:D),es[i]? = some e→e[j]? = some y→∃ u,cs[i*sz+j]? = some u∧bc w (bD C G') u y:=fun i j e y hi hj=>by
          have hfg:=fM hls i j e y hi hj
          have hlt:i*sz+j < es.flatten.length:=(List.getElem?_eq_some_iff.1 hfg).1
          have hc:(a7 es k)[i*sz+j]? = some (.d y):=by
            unfold a7
            rw[List.getElem?_append_left (by rw[List.length_map];exact hlt),List.getElem?_map,hfg];rfl
          have hj':i*sz+j < cs.size:=by rw[h3];exact(List.getElem?_eq_some_iff.1 hc).1
          have e1:cs[i*sz+j]? = some cs[i*sz+j]:=by simp[hj']
          have:=hrep (h5 _ _ _ e1 hc) rfl
          generalize cs[i*sz+j]=u at this e1
          cases this with | d hd=>exact⟨u,e1,hd⟩
        exact bc.ofRow hw hn.1 hn.2 hls (fun t _=>hnot t) hcell
      cases hold with
      | own _ _ _ k1 k2 k3=>exact .own _ _ _ (k1.yo hdata) k2 (fun r hr=>by
        obtain⟨s,l1,l2⟩:=k3 r hr
        refine⟨s,fun e he=>?_,by simpa using l2⟩
        rcases List.mem_append.1 he with he | he
        · exact l1 e (List.mem_append_left _ he)
        · have:=l1 [D.v v] (List.mem_append_right _ List.mem_cons_self)
          rw[List.mem_singleton.1 he];exact this)
  · rw[List.getElem?_set_ne e] at ha
    exact q3 i x a hxx ha
end
end Go.Ab
