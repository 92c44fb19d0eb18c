import Derived.Test.YtjenenllmjlimaaGreatQ1
import Derived.Laws.Cover3
import Derived.Lib.Bytealg
import Derived.Laws.Externs
import Derived.Lib.IndexEntry
import Derived.Lib.Mul64
import Derived.Laws.BitsAllLaws
namespace Go.Ab
open Go.RowKit
def pos:List Nat→Nat→Option Nat
  | [],_=>none
  | g::r,h=>bif Nat.beq g h then some 0 else match pos r h with
    | some i=>some (i+1)
    | none=>none
theorem cQ:∀ {order:List Nat} {g i:Nat},pos order g=some i→order[i]? = some g
  | [],g,i,h=>by simp[pos] at h
  | g'::r,g,i,h=>by
    simp only[pos] at h
    cases e:Nat.beq g' g with
    | true=>
      rw[e] at h
      simp only[cond_true,Option.some.injEq] at h
      subst h
      simp[Nat.eq_of_beq_eq_true e]
    | false=>
      rw[e] at h
      simp only[cond_false] at h
      split at h
      · rename_i j hj
        simp only[Option.some.injEq] at h
        subst h
        simpa using cQ hj
      · cases h
mutual
def bQ (order:List Nat):A→A
  | .own g es=>match pos order g with
    | some i=>.own i es
    | none=>.d (.sl es)
  | .ptr g off=>match pos order g with
    | some i=>.ptr i off
    | none=>.any
  | .xs g es=>match pos order g with
    | some i=>.xs i es
    | none=>.any
  | .xp g i off l=>match pos order g with
    | some j=>.xp j i off l
    | none=>.any
  | .mp g es=>match pos order g with
    | some i=>.mp i es
    | none=>.any
  | .bf g T s=>match pos order g with
    | some i=>.bf i T s
    | none=>.any
  | .np g T u=>match pos order g with
    | some i=>.np i T u
    | none=>.any
  | .sb g n c=>match pos order g with
    | some i=>.sb i n c
    | none=>.any
  | .fx _ _ _=>.any
  | .ol _ _ _ _=>.any
  | .lk g n c v=>match pos order g with
    | some i=>.lk i n c v
    | none=>.any
  | .agg l=>.agg (fR order l)
  | .tup l=>.tup (fR order l)
  | .row l=>.row (fR order l)
  | .clo f l=>.clo f (fR order l)
  | .bnd f l=>.bnd f (fR order l)
  | a=>a
def fR (order:List Nat):List A→List A
  | []=>[]
  | a::l=>bQ order a::fR order l
end
theorem fY (order:List Nat):∀ l,fR order l=l.map (bQ order)
  | []=>rfl
  | a::l=>by simp[fR,fY order l]
mutual
def fH:A→Bool
  | .own _ _=>false
  | .ptr _ _=>false
  | .xs _ _=>false
  | .xp _ _ _ _=>false
  | .mp _ _=>false
  | .bf _ _ _=>false
  | .np _ _ _=>false
  | .sb _ _ _=>false
  | .lk _ _ _ _=>false
  | .fx _ _ _=>false
  | .ol _ _ _ _=>false
  | .agg l=>eP l
  | .tup l=>eP l
  | .row l=>eP l
  | .clo _ l=>eP l
  | .bnd _ l=>eP l
  | _=>true
def eP:List A→Bool
  | []=>true
  | a::l=>fH a && eP l
end
mutual
theorem tm (order:List Nat):∀ a,fH a=true→bQ order a=a
  | .own _ _,h=>by simp[fH] at h
  | .ptr _ _,h=>by simp[fH] at h
  | .xs _ _,h=>by simp[fH] at h
  | .xp _ _ _ _,h=>by simp[fH] at h
  | .mp _ _,h=>by simp[fH] at h
  | .bf _ _ _,h=>by simp[fH] at h
  | .np _ _ _,h=>by simp[fH] at h
  | .sb _ _ _,h=>by simp[fH] at h
  | .lk _ _ _ _,h=>by simp[fH] at h
  | .fx _ _ _,h=>by simp[fH] at h
  | .ol _ _ _ _,h=>by simp[fH] at h
  | .agg l,h=>by simp only[fH] at h;simp[bQ,fW order l h]
  | .tup l,h=>by simp only[fH] at h;simp[bQ,fW order l h]
  | .row l,h=>by simp only[fH] at h;simp[bQ,fW order l h]
  | .clo _ l,h=>by simp only[fH] at h;simp[bQ,fW order l h]
  | .bnd _ l,h=>by simp only[fH] at h;simp[bQ,fW order l h]
  | .d _,_=>rfl
  | .ag _,_=>rfl
  | .rowd _,_=>rfl
  | .ni,_=>rfl
  | .fl _,_=>rfl
  | .any,_=>rfl
theorem fW (order:List Nat):∀ l,eP l=true→fR order l=l
  | [],_=>rfl
  | a::l,h=>by
    simp only[eP,Bool.and_eq_true] at h
    simp[fR,tm order a h.1,fW order l h.2]
end
def mN (order:List Nat) (G:Gh):Gh:=⟨fun i=>(order[i]?).bind G.box,fun i=>(order[i]?).bind G.own⟩
theorem yq {C:Ctx} {G:Gh} {order:List Nat} {b o:Nat} (h:bD C (mN order G) b o):bD C G b o:=by
  rcases h with h | ⟨g,h⟩ | ⟨g,len,cap,sz,pub,h,hle⟩
  · exact Or.inl h
  · obtain⟨g0,_,h0⟩:=Option.bind_eq_some_iff.1 h
    exact Or.inr (Or.inl ⟨g0,h0⟩)
  · obtain⟨g0,_,h0⟩:=Option.bind_eq_some_iff.1 h
    exact Or.inr (Or.inr ⟨g0,len,cap,sz,pub,h0,hle⟩)
theorem aW.bQ {C:Ctx} {G:Gh} {gen gen':Nat} {w:World} {order:List Nat} (hg:order.length≤gen') {v:Value} {a:A} (h:aW (aK C G gen w) v a):aW (aK C (mN order G) gen' w) v (bQ order a):=by
  have hc:∀ b o u,cellAt w b o=some u→¬ bD C G b o→cellAt w b o=some u∧¬ bD C (mN order G) b o:=fun b o u h hn=>⟨h,fun hp=>hn (yq hp)⟩
  have hlt:∀ {g i:Nat},pos order g=some i→i < gen':=fun hp=>Nat.lt_of_lt_of_le (List.getElem?_eq_some_iff.1 (cQ hp)).1 hg
  generalize hE:aK C G gen w=E at h
  induction h with
  | any x=>exact .any x
  | d hd=>subst hE;exact .d (hd.mono hc)
  | ag vs l hs hd=>subst hE;exact .ag vs l hs (fun i u x h1 h2=>(hd i u x h1 h2).mono hc)
  | own x g es hd hgg hr=>
    subst hE
    simp only[Ab.bQ]
    split
    · rename_i i hp
      refine .own x i es (hd.mono hc) (hlt hp) (fun r hr'=>hr r ?_)
      have:(order[i]?).bind G.own=some r:=hr'
      rw[cQ hp] at this
      exact this
    · exact .d (hd.mono hc)
  | agg vs l hs hone _ ih=>
    simp only[Ab.bQ,fY]
    refine .agg vs _ (by simp[hs]) hone (fun i u x hu hx=>?_)
    simp only[List.getElem?_map,Option.map_eq_some_iff] at hx
    obtain⟨y,hy,rfl⟩:=hx
    exact ih i u y hu hy
  | tup vs l hs _ ih=>
    simp only[Ab.bQ,fY]
    refine .tup vs _ (by simp[hs]) (fun i u x hu hx=>?_)
    simp only[List.getElem?_map,Option.map_eq_some_iff] at hx
    obtain⟨y,hy,rfl⟩:=hx
    exact ih i u y hu hy
  | rowd b off l u hcc hd=>subst hE;exact .rowd b off l u (fun j hj=>hc _ _ _ (hcc j hj).1 (hcc j hj).2) (fun j x hx=>(hd j x hx).mono hc)
  | row b off l u hcc _ ih=>
    simp only[Ab.bQ,fY]
    subst hE
    refine .row b off _ u (fun j hj=>hcc j (by simpa using hj)) (fun j x hx=>?_)
    simp only[List.getElem?_map,Option.map_eq_some_iff] at hx
    obtain⟨y,hy,rfl⟩:=hx
    exact ih j y hy
  | np x g T b0 hgg hb0 hT u hp=>
    subst hE
    simp only[Ab.bQ]
    split
    · rename_i i hpp
      refine .np x i T b0 (hlt hpp) ?_ (by exact hT) u hp
      show(order[i]?).bind G.box=some b0
      rw[cQ hpp]
      exact hb0
    · exact .any _
  | sb x g n c b0 hgg hb0 hn hp=>
    subst hE
    simp only[Ab.bQ]
    split
    · rename_i i hpp
      refine .sb x i n c b0 (hlt hpp) ?_ hn hp
      show(order[i]?).bind G.box=some b0
      rw[cQ hpp]
      exact hb0
    · exact .any _
  | fx=>exact .any _
  | ol=>exact .any _
  | lk x g n c b0 v hgg hb0 hn hp=>
    subst hE
    simp only[Ab.bQ]
    split
    · rename_i i hpp
      refine .lk x i n c b0 v (hlt hpp) ?_ hn hp
      show(order[i]?).bind G.box=some b0
      rw[cQ hpp]
      exact hb0
    · exact .any _
  | ptr x g off b0 hgg hb0 hp=>
    subst hE
    simp only[Ab.bQ]
    split
    · rename_i i hpp
      refine .ptr x i off b0 (hlt hpp) ?_ hp
      show(order[i]?).bind G.box=some b0
      rw[cQ hpp]
      exact hb0
    · exact .any _
  | xs x g es hgg h1 hx=>
    subst hE
    simp only[Ab.bQ]
    split
    · rename_i i hpp
      refine .xs x i es (hlt hpp) h1 (fun r hr'=>?_)
      have hr:(order[i]?).bind G.own=some r:=hr'
      rw[cQ hpp] at hr
      exact(hx r hr).iZ hc
    · exact .any _
  | xp x g i off l hgg h1 hx=>
    subst hE
    simp only[Ab.bQ]
    split
    · rename_i j hpp
      refine .xp x j i off l (hlt hpp) h1 (fun r hr'=>?_)
      have hr:(order[j]?).bind G.own=some r:=hr'
      rw[cQ hpp] at hr
      exact(hx r hr).iZ hc
    · exact .any _
  | ni t x=>exact .ni t x
  | fl x es hd hfl=>subst hE;exact .fl x es (hd.mono hc) hfl
  | bf x g T s hgg h1 hx=>
    subst hE
    simp only[Ab.bQ]
    split
    · rename_i i hpp
      refine .bf x i T s (hlt hpp) h1 (fun r hr'=>?_)
      have hr:(order[i]?).bind G.own=some r:=hr'
      rw[cQ hpp] at hr
      exact hx r hr
    · exact .any _
  | mp x g es hgg h1 hx=>
    subst hE
    simp only[Ab.bQ]
    split
    · rename_i i hpp
      refine .mp x i es (hlt hpp) h1 (fun r hr'=>?_)
      have hr:(order[i]?).bind G.own=some r:=hr'
      rw[cQ hpp] at hr
      exact(hx r hr).iZ hc
    · exact .any _
  | clo f vs l hs _ ih=>
    simp only[Ab.bQ,fY]
    refine .clo f vs _ (by simp[hs]) (fun i u x hu hx=>?_)
    simp only[List.getElem?_map,Option.map_eq_some_iff] at hx
    obtain⟨y,hy,rfl⟩:=hx
    exact ih i u y hu hy
  | bnd f vs l hs _ ih=>
    simp only[Ab.bQ,fY]
    refine .bnd f vs _ (by simp[hs]) (fun i u x hu hx=>?_)
    simp only[List.getElem?_map,Option.map_eq_some_iff] at hx
    obtain⟨y,hy,rfl⟩:=hx
    exact ih i u y hu hy
def hH:List Nat→Bool
  | []=>true
  | a::l=>(l.all fun b=>!Nat.beq a b) && hH l
theorem jX:∀ {l:List Nat},hH l=true→l.Nodup
  | [],_=>List.nodup_nil
  | a::l,h=>by
    simp only[hH,Bool.and_eq_true,List.all_eq_true] at h
    refine List.nodup_cons.2 ⟨fun hm=>?_,jX h.2⟩
    have:=h.1 a hm
    simp at this
def oH (order:List Nat) (f:List (Nat×A)):List (Nat×A)→Prop
  | []=>True
  | (t,a)::r=>(match look f t with | some x=>some (bQ order x) | none=>none)=some a∧oH order f r
def og (f:List (Nat×A)):List (Nat×A)→Prop
  | []=>True
  | (t,a)::r=>look f t=some a∧fH a=true∧og f r
def kk (order:List Nat) (bx:List (Nat×List A)):List (Nat×List A)→Prop
  | []=>True
  | (i,l)::r=>(match order[i]? with | some g=>(match aA bx g with | some x=>some (fR order x) | none=>none) | none=>none)=some l∧kk order bx r
def lG (order:List Nat) (bx:List (Nat×List A)):List (Nat×List A)→Prop
  | []=>True
  | (i,l)::r=>(match order[i]? with | some g=>aA bx g | none=>none)=some l∧eP l=true∧lG order bx r
def se (order lv:List Nat):List Nat→Bool
  | []=>true
  | i::r=>(match order[i]? with | some g=>lv.any fun h=>Nat.beq h g | none=>false) && se order lv r
theorem oH.le {order:List Nat} {f:List (Nat×A)}:∀ {f':List (Nat×A)},oH order f f'→∀ t a',look f' t=some a'→∃ a,look f t=some a∧bQ order a=a'
  | [],_,t,a,h=>by simp[look] at h
  | (s,b)::r,hs,t,a,h=>by
    rw[bl] at h
    split at h
    · rename_i e
      subst e
      simp only[Option.some.injEq] at h
      subst h
      have:=hs.1
      split at this
      · rename_i x hx
        simp only[Option.some.injEq] at this
        exact⟨x,hx,this⟩
      · cases this
    · exact oH.le hs.2 t a h
theorem og.le {order:List Nat} {f:List (Nat×A)}:∀ {f':List (Nat×A)},og f f'→∀ t a',look f' t=some a'→∃ a,look f t=some a∧bQ order a=a'
  | [],_,t,a,h=>by simp[look] at h
  | (s,b)::r,hs,t,a,h=>by
    rw[bl] at h
    split at h
    · rename_i e
      subst e
      simp only[Option.some.injEq] at h
      subst h
      exact⟨b,hs.1,tm order b hs.2.1⟩
    · exact og.le hs.2.2 t a h
theorem kk.le {order:List Nat} {f:List (Nat×List A)}:∀ {f':List (Nat×List A)},kk order f f'→∀ i l',aA f' i=some l'→∃ g l,order[i]? = some g∧aA f g=some l∧l.map (bQ order)=l'
  | [],_,t,a,h=>by simp[aA] at h
  | (s,b)::r,hs,t,a,h=>by
    rw[bP] at h
    split at h
    · rename_i e
      subst e
      simp only[Option.some.injEq] at h
      subst h
      have:=hs.1
      split at this
      · rename_i g hg
        split at this
        · rename_i x hx
          simp only[Option.some.injEq] at this
          exact⟨g,x,hg,hx,by rw[←this,fY]⟩
        · cases this
      · cases this
    · exact kk.le hs.2 t a h
theorem lG.le {order:List Nat} {f:List (Nat×List A)}:∀ {f':List (Nat×List A)},lG order f f'→∀ i l',aA f' i=some l'→∃ g l,order[i]? = some g∧aA f g=some l∧l.map (bQ order)=l'
  | [],_,t,a,h=>by simp[aA] at h
  | (s,b)::r,hs,t,a,h=>by
    rw[bP] at h
    split at h
    · rename_i e
      subst e
      simp only[Option.some.injEq] at h
      subst h
      have:=hs.1
      split at this
      · rename_i g hg
        exact⟨g,b,hg,this,by rw[←fY];exact fW order b hs.2.1⟩
      · cases this
    · exact lG.le hs.2.2 t a h
theorem rk {order lv:List Nat}:∀ {lv':List Nat},se order lv lv'=true→∀ i∈lv',∃ g,order[i]? = some g∧g∈lv
  | [],_,i,h=>by simp at h
  | j::r,h,i,hi=>by
    simp only[se,Bool.and_eq_true] at h
    rcases List.mem_cons.1 hi with rfl | hi
    · have:=h.1
      split at this
      · rename_i g hg
        obtain⟨x,hx,he⟩:=List.any_eq_true.1 this
        exact⟨g,hg,Nat.eq_of_beq_eq_true he▸hx⟩
      · cases this
    · exact rk h.2 i hi
theorem uo {f f2:List (Nat×A)} {t:Nat} {a:A}:look (f++f2) t=some a→look f t=some a∨look f2 t=some a:=by
  induction f with
  | nil=>exact Or.inr
  | cons x f ih=>
    obtain⟨s,b⟩:=x
    rw[List.cons_append,bl,bl]
    split
    · exact Or.inl
    · exact ih
theorem jH {f f2:List (Nat×List A)} {t:Nat} {a:List A}:aA (f++f2) t=some a→aA f t=some a∨aA f2 t=some a:=by
  induction f with
  | nil=>exact Or.inr
  | cons x f ih=>
    obtain⟨s,b⟩:=x
    rw[List.cons_append,bP,bP]
    split
    · exact Or.inl
    · exact ih
section
variable {P:Program} {C:Ctx} {n:Nat} {ops:Array Oper} {Q:Exit→St→Prop} {rest l:List Oper} {c:Code}
variable {f f0 f':List (Nat×A)} {bx bx0 bx':List (Nat×List A)} {lv lv0 lv':List Nat} {gen gen0 gen' d:Nat}
theorem aV.bQ {st:St} {G:Gh} {tmps:Array Value} {w:World} (h:aV C n st G tmps w) (order:List Nat) (hnd:order.Nodup) (hg:order.length≤gen') (hlt:∀ i,i < C.bx.length→order[i]? = some i)
    (hf:∀ t a',look f' t=some a'→∃ a,look st.f t=some a∧Ab.bQ order a=a')
    (hb:∀ i l',aA bx' i=some l'→∃ g l,order[i]? = some g∧aA st.bx g=some l∧l.map (Ab.bQ order)=l')
    (hl:∀ i∈lv',∃ g,order[i]? = some g∧g∈st.lv):aV C n ⟨f',bx',lv',gen'⟩ (mN order G) tmps w:=by
  have inj':∀ {i j g:Nat},order[i]? = some g→order[j]? = some g→i=j:=by
    intro i j g h1 h2
    obtain⟨i1,e1⟩:=List.getElem?_eq_some_iff.1 h1
    obtain⟨i2,e2⟩:=List.getElem?_eq_some_iff.1 h2
    have hpw:=List.pairwise_iff_getElem.1 hnd
    rcases Nat.lt_trichotomy i j with hlt | heq | hgt
    · exact absurd (e1.trans e2.symm) (hpw i j i1 i2 hlt)
    · exact heq
    · exact absurd (e2.trans e1.symm) (hpw j i i2 i1 hgt)
  have hlg:∀ {i g:Nat},order[i]? = some g→i < gen':=fun h=>Nat.lt_of_lt_of_le (List.getElem?_eq_some_iff.1 h).1 hg
  refine { size:=h.size,frame:=fun t a' ha=>?_,box:=fun i l' hc=>?_,gbox:=fun i b hb'=>?_,inj:=fun i j b h1 h2=>?_,live:=fun i hi=>?_,gown:=fun i r hr=>?_,
           row:=fun i b len cap sz pub hr=>?_,mrow:=fun i b hr=>?_,xold:=h.xold,kold:=h.kold,lent:=fun i b hb=>?_,fr:=h.fr }
  · obtain⟨a,h1,h2⟩:=hf t a' ha
    obtain⟨v,hv,hr⟩:=h.frame t a h1
    exact⟨v,hv,by rw[←h2];exact hr.bQ hg⟩
  · obtain⟨g,l,h1,h2,h3⟩:=hb i l' hc
    obtain⟨b,cs,T,h4,h5,h6,h7,h8⟩:=h.box g l h2
    refine⟨b,cs,T,by simp[mN,h1,h4],h5,by rw[←h3];simpa using h6,h7,fun j u a hu ha=>?_⟩
    rw[←h3,List.getElem?_map,Option.map_eq_some_iff] at ha
    obtain⟨y,hy,rfl⟩:=ha
    exact(h8 j u y hu hy).bQ hg
  · obtain⟨g,h1,h2⟩:=Option.bind_eq_some_iff.1 hb'
    exact⟨hlg h1,(h.gbox g b h2).2⟩
  · obtain⟨g1,h3,h4⟩:=Option.bind_eq_some_iff.1 h1
    obtain⟨g2,h5,h6⟩:=Option.bind_eq_some_iff.1 h2
    have e:=h.inj g1 g2 b h4 h6
    subst e
    exact inj' h3 h5
  · obtain⟨g,h1,h2⟩:=hl i hi
    obtain⟨r,hr⟩:=h.live g h2
    exact⟨r,by simp[mN,h1,hr]⟩
  · obtain⟨g,h1,h2⟩:=Option.bind_eq_some_iff.1 hr
    exact hlg h1
  · obtain⟨g,h1,h2⟩:=Option.bind_eq_some_iff.1 hr
    obtain⟨h3,h4,h5,h6⟩:=h.row g b len cap sz pub h2
    refine⟨h3,fun j hj=>?_,fun j len' cap' sz' pub' hj=>?_,h6⟩
    · obtain⟨g2,_,h8⟩:=Option.bind_eq_some_iff.1 hj
      exact h4 g2 h8
    · obtain⟨g2,h7,h8⟩:=Option.bind_eq_some_iff.1 hj
      have e:=h5 g2 len' cap' sz' pub' h8
      subst e
      exact inj' h7 h1
  · obtain⟨g,h1,h2⟩:=Option.bind_eq_some_iff.1 hr
    obtain⟨h3,h4,h5,h6⟩:=h.mrow g b h2
    refine⟨h3,fun j hj=>?_,fun j hj=>?_,h6⟩
    · obtain⟨g2,_,h8⟩:=Option.bind_eq_some_iff.1 hj
      exact h4 g2 h8
    · obtain⟨g2,h7,h8⟩:=Option.bind_eq_some_iff.1 hj
      have e:=h5 g2 h8
      subst e
      exact inj' h7 h1
  · have h1:=h.lent i b hb
    have h2:=hlt i (List.getElem?_eq_some_iff.1 hb).1
    show(order[i]?).bind G.box=some b
    rw[h2];exact h1
def LR (C:Ctx) (n:Nat) {ι:Type} (S:ι→St) (μ:ι→Nat):Nat→St→Prop:=fun m st=>∃ i,μ i=m∧∀ (tmps:Array Value) (w:World),iG C n st tmps w→iG C n (S i) tmps w
def qT:Nat→List Nat→Nat→Bool
  | 0,_,_=>true
  | _+1,[],_=>false
  | m+1,g::r,i=>Nat.beq g i && qT m r (i+1)
theorem nW:∀ {m:Nat} {l:List Nat} {i:Nat},qT m l i=true→∀ j,j < m→l[j]? = some (i+j)
  | 0,_,_,_,j,h=>absurd h (Nat.not_lt_zero _)
  | m+1,[],_,h,_,_=>by simp[qT] at h
  | m+1,g::r,i,h,j,hj=>by
    simp only[qT,Bool.and_eq_true] at h
    cases j with
    | zero=>simpa using Nat.eq_of_beq_eq_true h.1
    | succ j=>have:=nW h.2 j (by omega);simpa [Nat.add_assoc,Nat.add_comm 1 j] using this
def kU (order:List Nat) (gen nb:Nat):Bool:=hH order && Nat.ble order.length gen && qT nb order 0
theorem iG.bQ {nb:Nat} [hnb:NB C nb] {fi:List (Nat×A)} {bi:List (Nat×List A)} (order:List Nat) (ho:kU order gen' nb=true) (hf:oH order f f') (hfi:og f fi) (hb:kk order bx bx') (hbi:lG order bx bi) (hl:se order lv lv'=true)
    {tmps:Array Value} {w:World} (h:iG C n ⟨f,bx,lv,gen⟩ tmps w):iG C n ⟨f'++fi,bx'++bi,lv',gen'⟩ tmps w:=by
  obtain⟨G,h⟩:=h
  simp only[kU,Bool.and_eq_true] at ho
  exact⟨_,h.bQ order (jX ho.1.1) (Nat.le_of_ble_eq_true ho.1.2) (fun i hi=>by have:=nW ho.2 i (by rw[←hnb.h];exact hi);simpa using this) (fun t a ha=>(uo ha).elim (hf.le t a) (hfi.le t a)) (fun t a ha=>(jH ha).elim (hb.le t a) (hbi.le t a)) (rk hl)⟩
theorem W.aS {nb:Nat} [hnb:NB C nb] {ι:Type} (V:ι→List (Nat×A)) (fi:List (Nat×A)) (B:ι→List (Nat×List A)) (bi:List (Nat×List A)) (lv':List Nat) (gen':Nat) (μ:ι→Nat) (order:List Nat) (i:ι) (ho:kU order gen' nb=true)
    (hf:oH order f (V i)) (hfi:og f fi) (hb:kk order bx (B i)) (hbi:lG order bx bi) (hl:se order lv lv'=true)
    (hr:∀ i,W P C n c (QL (LR C n (fun i=>⟨V i++fi,B i++bi,lv',gen'⟩) μ) (μ i) Q) ⟨V i++fi,B i++bi,lv',gen'⟩):W P C n (.loop c) Q ⟨f,bx,lv,gen⟩:=by
  refine W.loop (LR C n (fun i=>⟨V i++fi,B i++bi,lv',gen'⟩) μ) (fun m st ⟨i,hm,hle⟩=>?_) (m:=μ i) ⟨i,rfl,fun tmps w h=>iG.bQ order ho hf hfi hb hbi hl h⟩
  subst hm
  exact fun tmps w hs=>hr i tmps w (hle tmps w hs)
theorem W.aU {nb:Nat} [hnb:NB C nb] {ι:Type} {V:ι→List (Nat×A)} {fi:List (Nat×A)} {B:ι→List (Nat×List A)} {bi:List (Nat×List A)} {μ:ι→Nat} {m:Nat} (order:List Nat) (i:ι) (hm:μ i < m) (ho:kU order gen' nb=true)
    (hf:oH order f (V i)) (hfi:og f fi) (hb:kk order bx (B i)) (hbi:lG order bx bi) (hl:se order lv lv'=true) :
    QL (LR C n (fun i=>⟨V i++fi,B i++bi,lv',gen'⟩) μ) m Q .normal ⟨f,bx,lv,gen⟩:=
  ⟨μ i,hm,i,rfl,fun _ _ h=>iG.bQ order ho hf hfi hb hbi hl h⟩
end
end Go.Ab
namespace Go.Ab
open Go.RowKit
section
variable {P:Program} {C:Ctx} {n:Nat} {Q:Exit→St→Prop} {x y:Code} {st:St} {α:Type}
theorem a9 {l:List α} {k:Nat} {c:Operand} {b:Bool} (hc:av st.f c=some (.d (.v (.bool b)))) (hb:b=decide ((k:Int) < (l.length:Int))) (hk:k≤l.length)
    (ht:∀ a,l[k]? = some a→l.drop k=a::l.drop (k+1)→k < l.length→W P C n x Q st) (hf:k=l.length→l.drop k=[]→W P C n y Q st):W P C n (.cond c x y) Q st:=by
  refine W.cond hc (fun h=>?_) (fun h=>?_)
  · subst hb
    have h:k < l.length:=by simpa using h
    exact ht l[k] (by simp[h]) (List.drop_eq_getElem_cons h) h
  · subst hb
    have h:k=l.length:=by
      have:¬ (k:Int) < l.length:=by simpa using h
      omega
    exact hf h (by rw[h];simp)
theorem dO {s:ByteArray} {k:Nat} {b:UInt8} (h:s.data.toList[k]? = some b):s[((k:Int)).toNat]? = some b:=by
  have:s[k]? = s.data.toList[k]?:=by
    rcases Nat.lt_or_ge k s.size with hk | hk
    · rw[getElem?_pos s k hk,List.getElem?_eq_getElem (by simpa using hk)];rfl
    · rw[getElem?_neg s k (by simpa using hk),List.getElem?_eq_none (by simpa using hk)]
  simpa [this] using h
end
end Go.Ab
namespace Go.Ab
open Go.RowKit
def oU (m:Nat):List (List D)→Bool
  | []=>true
  | x::r=>Nat.beq x.length m && oU m r
theorem lV {m:Nat}:∀ {l:List (List D)},oU m l=true→∀ x∈l,x.length=m
  | [],_,x,h=>by simp at h
  | y::r,h,x,hx=>by
    simp only[oU,Bool.and_eq_true] at h
    rcases List.mem_cons.1 hx with rfl | hx
    · exact Nat.eq_of_beq_eq_true h.1
    · exact lV h.2 x hx
theorem zi {α:Type} {f:α→List D} {m:Nat} (h:∀ a,(f a).length=m) {l:List α}:∀ x∈l.map f,x.length=m:=by
  intro x hx
  obtain⟨a,_,rfl⟩:=List.mem_map.1 hx
  exact h a
section
variable {P:Program} (T:cB P) {C:Ctx} {n:Nat} {ops:Array Oper} {Q:Exit→St→Prop} {rest:List Oper} {c:Code}
variable {f:List (Nat×A)} {bx:List (Nat×List A)} {lv:List Nat} {gen d:Nat} {ty:TypeId} {pos:String} {af:Array Edge} {a:A} {dst:Option Nat}
theorem aI {t e len:Nat} {parts:Array (Nat×Operand)} {td ed:cc} {es:List (List D)} (ht:aA T.l t=some td) (hk:td.k=.slice e) (he:aA T.l e=some ed) (hes:jN f 0 parts.toList=some es) (hlen:es.length=len)
    (hz:Nat.blt 0 ed.n=true) (hsm:Nat.ble (len*ed.n) 16777216=true) (hl:oU ed.n es=true) (hpos:Nat.blt 0 len=true):Pu P C n ⟨f,bx,lv,gen⟩ ⟨dst,.buildSlice t len parts,ty,pos,af,none⟩ (.d (.sl es)):=
  Pu.zq (st:=⟨f,bx,lv,gen⟩) T rfl ht hk he hes hlen hz hsm (lV hl) hpos
theorem Bi {t e:Nat} {x hi:Operand} {td ed:cc} {es:List (List D)} {h:Int} {kh:IntKind} (hx:av f x=some a) (hes:gI a=some es) (hhi:av f hi=some (.d (.v (.int kh h)))) (ht:aA T.l t=some td) (hk:td.k=.slice e) (he:aA T.l e=some ed)
    (h0:0≤h) (h1:h≤es.length) (hl:∀ x∈es,x.length=ed.n):Pu P C n ⟨f,bx,lv,gen⟩ ⟨dst,.slice t x none (some hi) none,ty,pos,af,none⟩ (.d (.sl ((es.take h.toNat).drop 0))):=
  Pu.za (st:=⟨f,bx,lv,gen⟩) T (lo:=none) (hi:=some hi) rfl ht hk he hx hes (l:=0) (h:=h) rfl ⟨kh,hhi⟩ (Int.le_refl _) h0 h1 hl
end
end Go.Ab
namespace Go.Ab
open Go.RowKit
section
variable {P:Program} {C:Ctx} {n:Nat} {ops:Array Oper} {Q:Exit→St→Prop} {rest:List Oper} {st:St} {o:Oper}
variable {f:List (Nat×A)} {bx:List (Nat×List A)} {lv:List Nat} {gen d:Nat} {op:Op} {ty:TypeId} {pos:String} {af:Array Edge} {dst:Option Nat}
theorem aW.undef {E:En}:aW E undef (.tup []):=.tup #[] [] rfl (by simp)
theorem WO.ar {j d:Nat} {want b:Bool} (hg:o.guard=some (j,want)) (hj:dF ops j=some d) (hl:look st.f d=some (.d (.v (.bool b)))) (hb:(b == want)=false) (hd:ey n o.dst=true)
    (h:WO P C n ops Q rest (st.put o.dst (.tup []))):WO P C n ops Q (o::rest) st:=by
  intro tmps w ⟨G,hs⟩
  simp only[iA,Region.wanted,hg]
  rw[kK hj (nL hs hl)]
  have hbw:(some b == some want)=false:=by simpa using hb
  simp only[hbw,Bool.false_eq_true,if_false]
  rw[Act.gu]
  exact h _ _ ⟨G,hs.put (cP hd) aW.undef⟩
theorem WO.b8 {j d:Nat} {want:Bool} (hg:o.guard=some (j,want)) (hj:dF ops j=some d) (hl:look st.f d=some (.tup [])) (hd:ey n o.dst=true)
    (h:WO P C n ops Q rest (st.put o.dst (.tup []))):WO P C n ops Q (o::rest) st:=by
  intro tmps w ⟨G,hs⟩
  obtain⟨v,hv,hr⟩:=hs.frame _ _ hl
  have hy:yielded ops tmps j=none:=by
    unfold yielded
    unfold dF at hj
    rw[hj]
    simp only[Option.bind_some,hv]
    cases hr;rfl
  simp only[iA,Region.wanted,hg,hy]
  have hbw:((none:Option Bool) == some want)=false:=rfl
  simp only[hbw,Bool.false_eq_true,if_false]
  rw[Act.gu]
  exact h _ _ ⟨G,hs.put (cP hd) aW.undef⟩
theorem ar {j e:Nat} {want b:Bool} (hj:dF ops j=some e) (hl:look f e=some (.d (.v (.bool b)))) (hb:(b == want)=false) (hd:Nat.blt d n=true) (h:WO P C n ops Q rest ⟨(d,.tup [])::f,bx,lv,gen⟩) :
    WO P C n ops Q (⟨some d,op,ty,pos,af,some (j,want)⟩::rest) ⟨f,bx,lv,gen⟩:=
  WO.ar (st:=⟨f,bx,lv,gen⟩) rfl hj hl hb hd h
theorem b8 {j e:Nat} {want:Bool} (hj:dF ops j=some e) (hl:look f e=some (.tup [])) (hd:Nat.blt d n=true) (h:WO P C n ops Q rest ⟨(d,.tup [])::f,bx,lv,gen⟩) :
    WO P C n ops Q (⟨some d,op,ty,pos,af,some (j,want)⟩::rest) ⟨f,bx,lv,gen⟩:=
  WO.b8 (st:=⟨f,bx,lv,gen⟩) rfl hj hl hd h
theorem eI {f0:List (Nat×A)} {bx0:List (Nat×List A)} {lv0:List Nat} {gen0:Nat} {y1 y2:Bool} {d0:Nat} {j e:Nat} {want b:Bool} (hj:dF ops j=some e) (hl:look f e=some (.d (.v (.bool b))))
    (ht:b=true→WO P C n ops (b7 d0 y1 f0 bx0 lv0 gen0) (⟨dst,op,ty,pos,af,some (j,want)⟩::rest) ⟨(e,.d (.v (.bool true)))::f,bx,lv,gen⟩)
    (hf:b=false→WO P C n ops (b7 d0 y2 f0 bx0 lv0 gen0) (⟨dst,op,ty,pos,af,some (j,want)⟩::rest) ⟨(e,.d (.v (.bool false)))::f,bx,lv,gen⟩) :
    WO P C n ops (b7 d0 (bif b then y1 else y2) f0 bx0 lv0 gen0) (⟨dst,op,ty,pos,af,some (j,want)⟩::rest) ⟨f,bx,lv,gen⟩:=by
  refine WO.split (st:=⟨f,bx,lv,gen⟩) hl (fun h=>?_) (fun h=>?_)
  · subst h;exact ht rfl
  · subst h;exact hf rfl
end
end Go.Ab
namespace Go.Ab
open Go.RowKit
section
variable {P:Program} {C:Ctx} {n:Nat} {ops:Array Oper} {Q:Exit→St→Prop} {rest l:List Oper} {c:Code}
variable {f f0:List (Nat×A)} {bx bx0:List (Nat×List A)} {lv lv0:List Nat} {gen gen0 d:Nat} {op:Op} {ty:TypeId} {pos:String} {af:Array Edge} {dst:Option Nat} {a:A}
theorem ao {s:Nat} {x y:Code} {b:Bool} (hl:look f s=some (.d (.v (.bool b)))) (ht:b=true→W P C n x Q ⟨(s,.d (.v (.bool true)))::f,bx,lv,gen⟩) (hf:b=false→W P C n y Q ⟨(s,.d (.v (.bool false)))::f,bx,lv,gen⟩) :
    W P C n (.cond (.tmp s) x y) Q ⟨f,bx,lv,gen⟩:=by
  refine W.cond (b:=b) hl (fun h=>?_) (fun h=>?_)
  · exact fun tmps w ⟨G,hs⟩=>ht h tmps w ⟨G,hs.known hl (by rw[h])⟩
  · exact fun tmps w ⟨G,hs⟩=>hf h tmps w ⟨G,hs.known hl (by rw[h])⟩
theorem W.ye {y:Bool} {st:St} (h:W P C n c (b7 d y f bx lv gen) st) (hq:Q .normal ⟨(d,lQ y)::f,bx,lv,gen⟩):W P C n c Q st:=
  fun tmps w hs=>wp_mono (h tmps w hs) fun e act w ⟨hd,st',⟨G,hs⟩,he,h1,h2,h3,h4⟩=>by
    subst he
    exact⟨hd,_,⟨G,hs.weaken (st':=⟨(d,lQ y)::f,bx,lv,gen⟩) ⟨h1,by rw[←h2];exact fun _ _ h=>h,by rw[←h3];exact fun _ h=>h,h4.symm⟩⟩,hq⟩
theorem iV (T:cB P) {id:Nat} {y:Bool} (hb:sK false l=some d) (hB:Region.lexB .any l.toArray=true) (h:CH P C n bx lv gen l.toArray (b7 d y f bx lv gen .normal) l f) (hq:Q .normal ⟨(d,lQ y)::f,bx,lv,gen⟩) :
    W P C n (.region id l.toArray true) Q ⟨f,bx,lv,gen⟩:=W.ye (W.be T (Q:=b7 d y f bx lv gen) hB h) hq
theorem gd {y1 y2:Bool} {d0:Nat} {j e:Nat} {want b:Bool} (hj:dF ops j=some e) (hl:look f e=some (.d (.v (.bool b))))
    (ht:b=true→CH P C n bx lv gen ops (b7 d0 y1 f0 bx0 lv0 gen0 .normal) (⟨dst,op,ty,pos,af,some (j,want)⟩::rest) ((e,.d (.v (.bool true)))::f))
    (hf:b=false→CH P C n bx lv gen ops (b7 d0 y2 f0 bx0 lv0 gen0 .normal) (⟨dst,op,ty,pos,af,some (j,want)⟩::rest) ((e,.d (.v (.bool false)))::f)) :
    CH P C n bx lv gen ops (b7 d0 (bif b then y1 else y2) f0 bx0 lv0 gen0 .normal) (⟨dst,op,ty,pos,af,some (j,want)⟩::rest) f:=by
  refine vf hl (fun h=>?_) (fun h=>?_)
  · subst h;exact ht rfl
  · subst h;exact hf rfl
theorem eX {y1 y2:Bool} {d0:Nat} {j e:Nat} {want b:Bool} (hj:dF ops j=some e) (hl:look f e=some (.d (.v (.bool b))))
    (ht:CH P C n bx lv gen ops (b7 d0 y1 f0 bx0 lv0 gen0 .normal) (⟨dst,op,ty,pos,af,some (j,want)⟩::rest) ((e,.d (.v (.bool true)))::f))
    (hf:CH P C n bx lv gen ops (b7 d0 y2 f0 bx0 lv0 gen0 .normal) (⟨dst,op,ty,pos,af,some (j,want)⟩::rest) ((e,.d (.v (.bool false)))::f)) :
    CH P C n bx lv gen ops (b7 d0 (bif b then y1 else y2) f0 bx0 lv0 gen0 .normal) (⟨dst,op,ty,pos,af,some (j,want)⟩::rest) f:=
  gd hj hl (fun _=>ht) (fun _=>hf)
end
end Go.Ab
namespace Go.Ab
open Go.RowKit
section
variable {P:Program} (T:cB P) {C:Ctx} {n:Nat} {ops:Array Oper} {Q:Exit→St→Prop} {rest:List Oper} {c:Code}
variable {f:List (Nat×A)} {bx:List (Nat×List A)} {lv:List Nat} {gen d:Nat} {ty:TypeId} {pos:String} {af:Array Edge}
theorem aG (hl:look f d=some (.d (.v (.slice none 0 0)))) (hd:Nat.blt d n=true) (h:W P C n c Q ⟨(d,.own gen [])::f,bx,gen::lv,gen+1⟩):W P C n c Q ⟨f,bx,lv,gen⟩:=
  W.Ao (st:=⟨f,bx,lv,gen⟩) hl hd h
theorem bJ {α:Type} {fn:α→List D} {l:List α} {a:α} {x y:Operand} {t e:Nat} {td ed:cc} {g:Nat} {b:A} (hx:av f x=some (.own g (l.map fn))) (hy:av f y=some b) (hb2:gI b=some [fn a]) (ht:aA T.l t=some td) (hk:td.k=.slice e)
    (he:aA T.l e=some ed) (hgl:(lv.any fun h=>Nat.beq h g)=true) (hz:Nat.blt 0 ed.n=true) (hb0:Nat.blt 0 ed.b=true) (hd:Nat.blt d n=true) (hl:∀ a,(fn a).length=ed.n) (hb:(l.length+1)*ed.b≤140737488355328)
    (h:WO P C n ops Q rest ⟨(d,.own gen ((l++[a]).map fn))::f,bx,gen::dw lv g,gen+1⟩):WO P C n ops Q (⟨some d,.call ⟨.builtin .append,#[x,y],#[t,t]⟩,ty,pos,af,none⟩::rest) ⟨f,bx,lv,gen⟩:=by
  obtain⟨g',hg1,hg2⟩:=List.any_eq_true.1 hgl
  have hgm:g∈lv:=Nat.eq_of_beq_eq_true hg2▸hg1
  refine uQ T hx hy hb2 ht hk he hgm hz hb0 hd (fun z hzm=>?_) (by simpa using hb) ?_
  · rcases List.mem_append.1 hzm with h | h
    · obtain⟨a',_,rfl⟩:=List.mem_map.1 h;exact hl a'
    · simp only[List.mem_singleton] at h;subst h;exact hl a
  · rw[List.map_append] at h
    exact h
end
end Go.Ab
namespace Go.Ab
open Go.RowKit
def ju:Nat→List (List A)→List (Nat×List A)
  | _,[]=>[]
  | k,c::r=>(k,c)::ju (k+1) r
theorem pN:∀ (l:List (List A)) (k g:Nat) (c:List A),aA (ju k l) g=some c→k≤g∧l[g - k]? = some c
  | [],_,_,_,h=>by simp[ju,aA] at h
  | b::l,k,g,c,h=>by
    simp only[ju,bP] at h
    split at h
    · rename_i e
      subst e
      simp only[Option.some.injEq] at h
      subst h
      exact⟨Nat.le_refl _,by simp⟩
    · rename_i e
      obtain⟨h1,h2⟩:=pN l (k+1) g c h
      refine⟨by omega,?_⟩
      have:g - k=(g - (k+1))+1:=by omega
      rw[this]
      simpa using h2
theorem tQ:∀ (l:List (List A)) (k i:Nat) (c:List A),l[i]? = some c→aA (ju k l) (k+i)=some c
  | [],_,_,_,h=>by simp at h
  | b::l,k,i,c,h=>by
    simp only[ju,bP]
    cases i with
    | zero=>simpa using h
    | succ i=>
      rw[if_neg (by omega)]
      have:=tQ l (k+1) i c (by simpa using h)
      rw[←this]
      congr 1
      omega
structure dE (P:Program) [fw P] (f:FuncId) (args:List A) (b0:List (List A)) (m:Nat) (r:A) (b1:List (List A)) (k:Nat):Prop where
  ok:AG P f
  len:b1.length=b0.length
  calls:∀ (C:Ctx) (G:Gh) (vals:Array Value) (w:World),GC P C→C.w0=w→C.bx.length=b0.length→C.ds=[]→(m=0→∀ b,C.fp b→∃ i:Nat,C.bx[i]? = some b) →
    aV C 0 ⟨[],ju 0 b0,(List.range m).map (b0.length+·),b0.length+m⟩ G #[] w→vals.size=args.length →
    (∀ (i:Nat) (u:Value) (a:A),vals[i]? = some u→args[i]? = some a→aW (aK C G (b0.length+m) w) u a) →
    Calls P f vals w fun e w'=>∃ v G',e=.returned v∧aV C 0 ⟨[],ju 0 b1,(List.range k).map (b0.length+·),b0.length+k⟩ G' #[] w'∧aW (aK C G' (b0.length+k) w') v r
theorem aV.zb {C:Ctx} {n n':Nat} {bx:List (Nat×List A)} {lv:List Nat} {gen:Nat} {G:Gh} {tmps tmps':Array Value} {w:World} (h:aV C n ⟨[],bx,lv,gen⟩ G tmps w) (hs:tmps'.size=n') :
    aV C n' ⟨[],bx,lv,gen⟩ G tmps' w:=
  { h with size:=hs,frame:=fun t a ha=>by simp[look] at ha }
section
variable {P:Program} (T:cB P)
def iC (nb:Nat) (order:List Nat):List Nat:=List.range nb++order
def ik (rs:List RV) (r:A) (b1:List (List A)) (k:Nat):Exit→St→Prop:=fun e st=>
  (match e with | .normal=>True | .ret=>True | _=>False)∧∃ l order,lp T st.f st.bx rs=some l∧bQ (iC b1.length order) (az l)=r∧order.length=k∧hH (iC b1.length order)=true∧(∀ g∈order,g∈st.lv) ∧
    ∀ (i:Nat) (c:List A),b1[i]? = some c→∃ c0,aA st.bx i=some c0∧fR (iC b1.length order) c0=c
theorem dE.AR [fw P] {f:FuncId} {fn:Func} {c:Code} {rs:List RV} {n:Nat} {args:List A} {b0:List (List A)} {m:Nat} {r:A} {b1:List (List A)} {k:Nat} (hf:P.funcs[f]? = some fn) (hname:(fn.name == "runtime.NumGoroutine")=false)
    (hb:fn.body=some c) (hn:fn.ntmps=n) (hr:fn.results=(rs.map RV.var).toArray) (hlen:Nat.ble args.length n=true) (hbl:b1.length=b0.length)
    (h:∀ C,NB C b0.length→GC P C→(m=0→∀ b,C.fp b→∃ i:Nat,C.bx[i]? = some b)→(∀ i b:Nat,C.bx[i]? = some b→b < C.w0.heap.size)→W P C n c (ik T rs r b1 k) ⟨lP 0 args,ju 0 b0,(List.range m).map (b0.length+·),b0.length+m⟩):dE P f args b0 m r b1 k:=by
  have hlen:=Nat.le_of_ble_eq_true hlen
  refine⟨⟨fn,hf,hname,by rw[hb];rfl⟩,hbl,fun C G vals w hG hw hnb hdn hfe hs hsz hrep=>?_⟩
  subst hw
  refine calls_of_wp hf hb (wp_mono (vq hdn (h C ⟨hnb⟩ hG hfe (fun i b hb=>(hs.gbox i b (hs.lent i b hb)).2.1) (vals++Array.replicate (fn.ntmps - vals.size) undef) C.w0 ⟨G,?_⟩)) ?_)
  · refine { hs with size:=by simp[hn];omega,frame:=fun t a ha=>?_ }
    obtain⟨_,h1⟩:=kP args 0 t a ha
    have h2:t < args.length:=(List.getElem?_eq_some_iff.1 (by simpa using h1)).1
    have h3:t < vals.size:=by omega
    have h4:vals[t]? = some vals[t]:=by simp[h3]
    exact⟨vals[t],by rw[Array.getElem?_append_left h3];exact h4,hrep t _ a h4 (by simpa using h1)⟩
  · rintro e ⟨tmps,df⟩ w' ⟨hd,st,⟨G,hs⟩,he,l,order,hl,hno,hol,hnd,hov,hbx⟩
    have holen:(iC b1.length order).length=b0.length+k:=by simp[iC,hol,hbl]
    have hget:∀ i,i < C.bx.length→(iC b1.length order)[i]? = some i:=fun i hi=>by
      unfold iC
      rw[List.getElem?_append_left (by simp;omega),List.getElem?_range (by omega)]
    have hmain:∃ v,(results fn tmps).run P w'=.ok v w'∧∃ v_1 G',Ending.returned v=.returned v_1∧aV C 0 ⟨[],ju 0 b1,(List.range k).map (b0.length+·),b0.length+k⟩ G' #[] w'∧aW (aK C G' (b0.length+k) w') v_1 r:=by
      obtain⟨vs,hv1,hv2,hv3⟩:=mT T hs rs l hl
      refine⟨_,oo hr hv1,_,mN (iC b1.length order) G,rfl,?_,?_⟩
      · refine aV.zb (hs.bQ (f':=[]) (bx':=ju 0 b1) (lv':=(List.range k).map (b0.length+·)) (gen':=b0.length+k) (iC b1.length order) (jX hnd) (by omega) hget (fun t a ha=>by simp[look] at ha) (fun i c hc=>?_) (fun i hi=>?_)) rfl
        · obtain⟨_,h1⟩:=pN b1 0 i c hc
          simp only[Nat.sub_zero] at h1
          obtain⟨c0,h2,h3⟩:=hbx i c h1
          have hlt:i < b1.length:=(List.getElem?_eq_some_iff.1 h1).1
          exact⟨i,c0,hget i (by rw[hnb,←hbl];exact hlt),h2,by rw[←fY];exact h3⟩
        · obtain⟨j,hj,rfl⟩:=List.mem_map.1 hi
          have hj:j < k:=by simpa using hj
          have hj2:j < order.length:=by omega
          refine⟨order[j],?_,hov _ (List.getElem_mem hj2)⟩
          unfold iC
          rw[List.getElem?_append_right (by simp;omega)]
          simp[hbl,hj2]
      · rw[←hno]
        refine aW.bQ (gen:=st.gen) (by omega) (pU hv2 hv3)
    cases e with
    | normal=>exact⟨hd.trans hdn,hmain⟩
    | ret=>exact⟨hd.trans hdn,hmain⟩
    | exit _=>exact he.elim
    | goto _=>exact he.elim
    | panic _=>exact he.elim
    | outgrown=>exact he.elim
theorem dE.fg [fw P] {f:FuncId} {fn:Func} {c:Code} {rs:List RV} {n:Nat} {args:List A} {b0:List (List A)} {m:Nat} {r:A} {b1:List (List A)} {k:Nat} (hf:P.funcs[f]? = some fn) (hname:(fn.name == "runtime.NumGoroutine")=false)
    (hb:fn.body=some c) (hn:fn.ntmps=n) (hr:fn.results=(rs.map RV.var).toArray) (hlen:Nat.ble args.length n=true) (hbl:b1.length=b0.length)
    (h:∀ C,NB C b0.length→GC P C→W P C n c (ik T rs r b1 k) ⟨lP 0 args,ju 0 b0,(List.range m).map (b0.length+·),b0.length+m⟩):dE P f args b0 m r b1 k:=
  dE.AR T hf hname hb hn hr hlen hbl fun C hC hG _ _=>h C hC hG
theorem ik.ret {rs:List RV} {r:A} {b1:List (List A)} {k:Nat} {e:Exit} {st:St} {l:List A} (order:List Nat) (he:match e with | .normal=>True | .ret=>True | _=>False) (hl:lp T st.f st.bx rs=some l)
    (hk:order.length=k) (hnd:hH (iC b1.length order)=true) (hov:(order.all fun g=>st.lv.any fun h=>Nat.beq h g)=true) (hb:∀ (i:Nat) (c:List A),b1[i]? = some c→∃ c0,aA st.bx i=some c0∧fR (iC b1.length order) c0=c)
    (hr:bQ (iC b1.length order) (az l)=r):ik T rs r b1 k e st:=
  ⟨he,l,order,hl,hr,hk,hnd,fun g hg=>by
    obtain⟨x,hx,he⟩:=List.any_eq_true.1 (List.all_eq_true.1 hov g hg)
    exact Nat.eq_of_beq_eq_true he▸hx,hb⟩
end
/-! the caller's side -/
def eE (bx:List (Nat×List A)) (gs os:List Nat):Nat→A→A
  | 0,_=>.any
  | _+1,.d x=>.d x
  | _+1,.ag l=>.ag l
  | _+1,.own g es=>match pos os g with
    | some i=>.own (gs.length+i) es
    | none=>.d (.sl es)
  | k+1,.agg l=>ki (l.map (eE bx gs os k))
  | _+1,.tup _=>.any
  | _+1,.rowd l=>.rowd l
  | k+1,.row l=>.row (l.map (eE bx gs os k))
  | k+1,.ptr g off=>match pos gs g with
    | some i=>.ptr i off
    | none=>match aA bx g with
      | some cells=>.row ((cells.drop off).map (eE bx gs os k))
      | none=>.any
  | _+1,.xs g es=>match pos os g with
    | some i=>.xs (gs.length+i) es
    | none=>.any
  | _+1,.xp _ _ _ _=>.any
  | _+1,.mp g es=>match pos os g with
    | some i=>.mp (gs.length+i) es
    | none=>.any
  | k+1,.clo f l=>.clo f (l.map (eE bx gs os k))
  | k+1,.bnd f l=>.bnd f (l.map (eE bx gs os k))
  | _+1,.ni=>.ni
  | _+1,.fl es=>.fl es
  | _+1,.bf g T s=>match pos os g with
    | some i=>.bf (gs.length+i) T s
    | none=>.any
  | _+1,.np g T u=>match pos gs g with
    | some i=>.np i T u
    | none=>.any
  | _+1,.lk _ _ _ _=>.any
  | _+1,.fx _ _ _=>.any
  | _+1,.ol _ _ _ _=>.any
  | _+1,.sb g n c=>match pos gs g with
    | some i=>.sb i n c
    | none=>.any
  | _+1,.any=>.any
def jA (bx:List (Nat×List A)) (gs os:List Nat):List Nat→Option (List (List A))
  | []=>some []
  | g::r=>match aA bx g,jA bx gs os r with
    | some c,some l=>some (c.map (eE bx gs os 5)::l)
    | _,_=>none
mutual
def back (gs:List Nat) (m:Nat):A→A
  | .own g es=>.own (g+m) es
  | .agg l=>.agg (kf gs m l)
  | .tup l=>.tup (kf gs m l)
  | .clo f l=>.clo f (kf gs m l)
  | .bnd f l=>.bnd f (kf gs m l)
  | .ptr i off=>match gs[i]? with
    | some g=>.ptr g off
    | none=>.any
  | .xs g es=>.xs (g+m) es
  | .xp g i off l=>.xp (g+m) i off l
  | .mp g es=>.mp (g+m) es
  | .row _=>.any
  | .d x=>.d x
  | .ag l=>.ag l
  | .rowd l=>.rowd l
  | .fl es=>.fl es
  | .bf g T s=>.bf (g+m) T s
  | .np i T u=>match gs[i]? with
    | some g=>.np g T u
    | none=>.any
  | .lk _ _ _ _=>.any
  | .fx _ _ _=>.any
  | .ol _ _ _ _=>.any
  | .sb i n c=>match gs[i]? with
    | some g=>.sb g n c
    | none=>.any
  | .ni=>.ni
  | .any=>.any
def kf (gs:List Nat) (m:Nat):List A→List A
  | []=>[]
  | a::l=>back gs m a::kf gs m l
end
theorem fU (gs:List Nat) (m:Nat):∀ l:List A,kf gs m l=l.map (back gs m)
  | []=>rfl
  | a::l=>by simp[kf,fU gs m l]
def jO (gs:List Nat) (m:Nat):List Nat→List (List A)→List (Nat×List A)
  | g::r,c::l=>(g,kf gs m c)::jO gs m r l
  | _,_=>[]
theorem oC {gs:List Nat} {m:Nat}:∀ {r:List Nat} {l:List (List A)} {g:Nat} {c:List A},aA (jO gs m r l) g=some c→∃ (i:Nat) (c0:List A),r[i]? = some g∧l[i]? = some c0∧kf gs m c0=c
  | [],_,g,c,h=>by simp[jO,aA] at h
  | _::_,[],g,c,h=>by simp[jO,aA] at h
  | g0::r,c0::l,g,c,h=>by
    simp only[jO,bP] at h
    split at h
    · rename_i e
      subst e
      simp only[Option.some.injEq] at h
      exact⟨0,c0,rfl,rfl,h⟩
    · obtain⟨i,c1,h1,h2,h3⟩:=oC h
      exact⟨i+1,c1,by simpa using h1,by simpa using h2,h3⟩
section
variable {P:Program} {C:Ctx} {n:Nat} {ops:Array Oper} {Q:Exit→St→Prop} {st:St} {o:Oper} {rest:List Oper}
def fT (G:Gh) (gs:List Nat) (b:Nat):Prop:=∃ g∈gs,G.box g=some b
def eG (G:Gh) (os:List Nat) (b lim:Nat):Prop:=∃ g∈os,∃ r,G.own g=some r∧r.ny b lim
theorem aV.rowAt {C:Ctx} {n:Nat} {st:St} {G:Gh} {tmps:Array Value} {w:World} (h:aV C n st G tmps w) {g b lim:Nat} {r:Row} (hg:G.own g=some r) (hr:r.ny b lim) :
    C.pD b lim∧(∀ g',G.box g'≠some b)∧b < w.heap.size ∧
      (∀ g' r' lim',G.own g'=some r'→r'.ny b lim'→g'=g∧lim'=lim):=by
  have key:∀ g' r' lim',G.own g'=some r'→r'.ny b lim'→g'=g:=by
    intro g' r' lim' hg' hr'
    cases r with
    | nil=>exact hr.elim
    | zero _=>exact hr.elim
    | blk b1 len cap sz pub=>
      obtain⟨rfl,rfl⟩:=hr
      obtain⟨_,_,h3,cur,T,h4,_⟩:=h.row g b1 len cap sz lim hg
      cases r' with
      | nil=>exact hr'.elim
      | zero _=>exact hr'.elim
      | blk b2 bW cap2 sz2 pub2=>obtain⟨rfl,rfl⟩:=hr';exact h3 g' _ _ _ _ hg'
      | mp b2=>
        obtain⟨rfl,rfl⟩:=hr'
        obtain⟨_,_,_,me,clock,h5⟩:=h.mrow g' b2 hg'
        rw[h4] at h5
        cases h5
    | mp b1=>
      obtain⟨rfl,rfl⟩:=hr
      obtain⟨_,_,h3,me,clock,h4⟩:=h.mrow g b1 hg
      cases r' with
      | nil=>exact hr'.elim
      | zero _=>exact hr'.elim
      | blk b2 bW cap2 sz2 pub2=>
        obtain⟨rfl,rfl⟩:=hr'
        obtain⟨_,_,_,cur,T,h5,_⟩:=h.row g' b2 _ _ _ _ hg'
        rw[h4] at h5
        cases h5
      | mp b2=>obtain⟨rfl,rfl⟩:=hr';exact h3 g' hg'
  refine(fun hk=>?_:(∀ g' r' lim',G.own g'=some r'→r'.ny b lim'→g'=g∧lim'=lim)→_) (fun g' r' lim' hg' hr'=>?_)
  · cases r with
    | nil=>exact hr.elim
    | zero _=>exact hr.elim
    | blk b1 len cap sz pub=>
      obtain⟨rfl,rfl⟩:=hr
      obtain⟨h1,h2,h3,cur,T,h4,_⟩:=h.row g b1 len cap sz lim hg
      exact⟨h1,h2,(Array.getElem?_eq_some_iff.1 h4).1,hk⟩
    | mp b1=>
      obtain⟨rfl,rfl⟩:=hr
      obtain⟨h1,h2,h3,me,clock,h4⟩:=h.mrow g b1 hg
      exact⟨h1,h2,(Array.getElem?_eq_some_iff.1 h4).1,hk⟩
  · have e:=key g' r' lim' hg' hr'
    subst e
    rw[hg] at hg'
    simp only[Option.some.injEq] at hg'
    subst hg'
    refine⟨rfl,?_⟩
    cases r with
    | nil=>exact hr.elim
    | zero _=>exact hr.elim
    | blk b1 len cap sz pub=>exact hr'.2.trans hr.2.symm
    | mp b1=>exact hr'.2.trans hr.2.symm
theorem aV.Aj {C:Ctx} {n:Nat} {st:St} {G:Gh} {tmps:Array Value} {w:World} (h:aV C n st G tmps w) {g b lim o:Nat} {r:Row} {u:Value} (hg:G.own g=some r) (hr:r.ny b lim)
    (hu:cellAt w b o=some u) (hle:lim≤o):bD C G b o:=by
  cases r with
  | nil=>exact hr.elim
  | zero _=>exact hr.elim
  | blk b1 len cap sz pub=>obtain⟨rfl,rfl⟩:=hr;exact .inr (.inr ⟨g,len,cap,sz,lim,hg,hle⟩)
  | mp b1=>
    obtain⟨rfl,rfl⟩:=hr
    obtain⟨_,_,_,me,clock,h4⟩:=h.mrow g b1 hg
    simp[cellAt,World.cell?,h4] at hu
def eM (C:Ctx) (G:Gh) (w:World) (gs os:List Nat):Ctx:=
  { w0:=w,fp:=fun b=>fT G gs b∨∃ lim,eG G os b lim,x:=fun b o=>bD C G b o∧¬ (fT G gs b∨∃ lim,eG G os b lim),
    keep:=fun b o=>∃ lim,eG G os b lim∧o < lim,bx:=gs.map fun g=>(G.box g).getD 0 }
theorem yz {C:Ctx} {G:Gh} {w:World} {gs os:List Nat} {m:Nat} (hm:os.length=m):m=0→∀ b,(eM C G w gs os).fp b→∃ i:Nat,(eM C G w gs os).bx[i]? = some b:=by
  rintro rfl b (⟨g,hg,hb⟩ | ⟨lim,g,hg,_⟩)
  · obtain⟨i,hi⟩:=List.mem_iff_getElem?.1 hg
    exact⟨i,by show(gs.map _)[i]? = _;rw[List.getElem?_map,hi];simp[hb]⟩
  · have:=List.length_eq_zero_iff.1 hm;subst this;cases hg
def iP (G:Gh) (gs os:List Nat):Gh:=⟨fun i=>(gs[i]?).bind G.box,fun i=>if i < gs.length then none else (os[i - gs.length]?).bind G.own⟩
theorem GC.zJ {P:Program} [fw P] {C:Ctx} [hC:GC P C] {n:Nat} {st:St} {G:Gh} {tmps:Array Value} {w:World} (hs:aV C n st G tmps w) {gs os:List Nat}:GC P (eM C G w gs os):=by
  obtain⟨W',h1',h2',h3'⟩:=hC.h
  refine⟨W',h1',Nat.le_trans h2' hs.fr.size,fun b hb=>⟨(hs.fr.block b (Nat.lt_of_lt_of_le hb h2') (h3' b hb).2).trans (h3' b hb).1,?_⟩⟩
  rintro(⟨g,_,hg⟩ | ⟨_,g,_,r,hg,hr⟩)
  · rcases(hs.gbox g b hg).2.2.1 with h | h
    · omega
    · exact(h3' b hb).2 h
  · rcases(hs.rowAt hg hr).1.1 with h | h
    · omega
    · exact(h3' b hb).2 h
theorem zf {C:Ctx} {G:Gh} {w:World} {gs os:List Nat} {b o:Nat} (h:bD (eM C G w gs os) (iP G gs os) b o):bD C G b o:=by
  rcases h with h | ⟨g,h⟩ | ⟨g,len,cap,sz,pub,h,hle⟩
  · exact h.1
  · obtain⟨g0,_,h0⟩:=Option.bind_eq_some_iff.1 h
    exact Or.inr (Or.inl ⟨g0,h0⟩)
  · simp only[iP] at h
    split at h
    · cases h
    · obtain⟨g0,_,h0⟩:=Option.bind_eq_some_iff.1 h
      exact Or.inr (Or.inr ⟨g0,len,cap,sz,pub,h0,hle⟩)
theorem rH {C:Ctx} {G:Gh} {w:World} {gs os:List Nat} {b o:Nat} (h:bD C G b o) (hn:¬ (fT G gs b∨∃ lim,eG G os b lim)) {G1:Gh}:bD (eM C G w gs os) G1 b o:=Or.inl ⟨h,hn⟩
theorem aW.vD {G:Gh} {tmps:Array Value} {w:World} (h:aV C n st G tmps w) (gs os:List Nat) {gen':Nat} (hgen:gs.length+os.length≤gen') :
    ∀ (k:Nat) (v:Value) (a:A),aW (aK C G st.gen w) v a→aW (aK (eM C G w gs os) (iP G gs os) gen' w) v (eE st.bx gs os k a):=by
  have hc:∀ b o u,cellAt w b o=some u→¬ bD C G b o→cellAt w b o=some u∧¬ bD (eM C G w gs os) (iP G gs os) b o:=fun b o u h1 h2=>⟨h1,fun hp=>h2 (zf hp)⟩
  have hold:∀ b,(∃ g∈gs,G.box g=some b)∨(∃ lim,eG G os b lim)→C.w0.heap.size≤b∨C.fp b:=by
    rintro b (⟨g,_,hg⟩ | ⟨lim,g,_,r,hg,hr⟩)
    · exact(h.gbox g b hg).2.2.1
    · exact(h.rowAt hg hr).1.1
  intro k
  induction k with
  | zero=>intro v a _;exact .any v
  | succ k ih=>
    intro v a hr
    have lst:∀ (l:List A) (vs:Array Value),(∀ (i:Nat) (u:Value) (x:A),vs[i]? = some u→l[i]? = some x→aW (aK C G st.gen w) u x) →
        ∀ (i:Nat) (u:Value) (x:A),vs[i]? = some u→(l.map (eE st.bx gs os k))[i]? = some x→aW (aK (eM C G w gs os) (iP G gs os) gen' w) u x:=by
      intro l vs hl i u x hu hx
      simp only[List.getElem?_map,Option.map_eq_some_iff] at hx
      obtain⟨y,hy,rfl⟩:=hx
      exact ih u y (hl i u y hu hy)
    cases hr with
    | any=>exact .any _
    | d hd=>exact .d (hd.mono hc)
    | ag vs l hs hd=>exact .ag vs l hs (fun i u x h1 h2=>(hd i u x h1 h2).mono hc)
    | own _ g es hd _ hx=>
      simp only[eE]
      split
      · rename_i i hp
        have hi:=cQ hp
        have hil:=(List.getElem?_eq_some_iff.1 hi).1
        refine .own _ _ es (hd.mono hc) (by simp only[aK];omega) (fun r hr'=>hx r ?_)
        have hr2:(if gs.length+i < gs.length then none else (os[gs.length+i - gs.length]?).bind G.own)=some r:=hr'
        rw[if_neg (by omega),Nat.add_sub_cancel_left,hi] at hr2
        exact hr2
      · exact .d (hd.mono hc)
    | agg vs l hs hone hd=>exact kn (by simp[hs]) hone (lst l vs hd)
    | tup vs l hs hd=>exact .any _
    | rowd b off l u hcc hd=>exact .rowd b off l u (fun j hj=>hc _ _ _ (hcc j hj).1 (hcc j hj).2) (fun j x hx=>(hd j x hx).mono hc)
    | row b off l u hcc hd=>
      refine .row b off _ u (fun j hj=>?_) (fun j x hx=>?_)
      · have:=hcc j (by simpa using hj)
        refine⟨this.1,⟨eC this.1,fun hl=>?_⟩,this.2.2⟩
        have h1:=hold b hl
        have h2:=this.2.1
        simp only[aK] at h2
        rcases h1 with h1 | h1
        · omega
        · exact h2.2 h1
      · simp only[List.getElem?_map,Option.map_eq_some_iff] at hx
        obtain⟨y,hy,rfl⟩:=hx
        exact ih _ y (hd j y hy)
    | xs _ g es hgg h1 hx=>
      simp only[eE]
      split
      · rename_i i hp
        have hi:=cQ hp
        have hil:=(List.getElem?_eq_some_iff.1 hi).1
        refine .xs _ _ es (by simp only[aK];omega) h1 (fun r hr'=>?_)
        have hr2:(if gs.length+i < gs.length then none else (os[gs.length+i - gs.length]?).bind G.own)=some r:=hr'
        rw[if_neg (by omega),Nat.add_sub_cancel_left,hi] at hr2
        exact(hx r hr2).iZ hc
      · exact .any _
    | xp=>exact .any _
    | ni t x=>exact .ni t x
    | fl _ es hd hfl=>exact .fl _ es (hd.mono hc) hfl
    | bf _ g T s hgg h1 hx=>
      simp only[eE]
      split
      · rename_i i hp
        have hi:=cQ hp
        have hil:=(List.getElem?_eq_some_iff.1 hi).1
        refine .bf _ _ T s (by simp only[aK];omega) h1 (fun r hr'=>?_)
        have hr2:(if gs.length+i < gs.length then none else (os[gs.length+i - gs.length]?).bind G.own)=some r:=hr'
        rw[if_neg (by omega),Nat.add_sub_cancel_left,hi] at hr2
        exact hx r hr2
      · exact .any _
    | mp _ g es hgg h1 hx=>
      simp only[eE]
      split
      · rename_i i hp
        have hi:=cQ hp
        have hil:=(List.getElem?_eq_some_iff.1 hi).1
        refine .mp _ _ es (by simp only[aK];omega) h1 (fun r hr'=>?_)
        have hr2:(if gs.length+i < gs.length then none else (os[gs.length+i - gs.length]?).bind G.own)=some r:=hr'
        rw[if_neg (by omega),Nat.add_sub_cancel_left,hi] at hr2
        exact(hx r hr2).iZ hc
      · exact .any _
    | np _ g T b0 hg hb0 hT u hx0=>
      simp only[eE]
      split
      · rename_i i hpp
        have hi:=cQ hpp
        have hil:=(List.getElem?_eq_some_iff.1 hi).1
        refine .np _ i T b0 (by simp only[aK];omega) ?_ (by exact hT) u hx0
        show(gs[i]?).bind G.box=some b0
        rw[hi]
        exact hb0
      · exact .any _
    | lk=>exact .any _
    | fx=>exact .any _
    | ol=>exact .any _
    | sb _ g n c b0 hg hb0 hn hx0=>
      simp only[eE]
      split
      · rename_i i hpp
        have hi:=cQ hpp
        have hil:=(List.getElem?_eq_some_iff.1 hi).1
        refine .sb _ i n c b0 (by simp only[aK];omega) ?_ hn hx0
        show(gs[i]?).bind G.box=some b0
        rw[hi]
        exact hb0
      · exact .any _
    | ptr _ g off b0 hg hb0 hx0=>
      have hp:=nM hb0 hx0
      simp only[eE]
      split
      · rename_i i hpp
        have hi:=cQ hpp
        have hil:=(List.getElem?_eq_some_iff.1 hi).1
        refine .ptr _ i off b0 (by simp only[aK];omega) ?_ hx0
        show(gs[i]?).bind G.box=some b0
        rw[hi]
        exact hb0
      · rename_i hpn
        split
        · rename_i cells hb
          obtain⟨b,cs,T',h1,h2,h3,h4,h5⟩:=h.box g cells hb
          rw[hp b h1]
          refine .row b off _ (fun j=>cs[off+j]?.getD default) (fun j hj=>?_) (fun j x hx=>?_)
          · have hj':off+j < cs.size:=by simp at hj;omega
            have e:cs[off+j]? = some cs[off+j]:=by simp[hj']
            refine⟨by show cellAt w b (off+j)=_;rw[cd h2,e];rfl,⟨(Array.getElem?_eq_some_iff.1 h2).1,?_⟩,by rw[e];exact h4 _ _ e⟩
            rintro(⟨g',hg',hb'⟩ | ⟨lim,g',hg',r,hr',hra⟩)
            · have e:=h.inj g g' b h1 hb'
              subst e
              have:∀ {l:List Nat},pos l g=none→g∉l:=by
                intro l
                induction l with
                | nil=>intro _ hm;cases hm
                | cons y l ihl=>
                  intro hpos hm
                  simp only[pos] at hpos
                  cases e:Nat.beq y g with
                  | true=>rw[e] at hpos;simp at hpos
                  | false=>
                    rw[e] at hpos
                    simp only[cond_false] at hpos
                    split at hpos
                    · cases hpos
                    · rename_i hno
                      rcases List.mem_cons.1 hm with rfl | hm
                      · simp at e
                      · exact ihl hno hm
              exact this hpn hg'
            · exact(h.rowAt hr' hra).2.1 g h1
          · simp only[List.getElem?_map,Option.map_eq_some_iff] at hx
            obtain⟨y,hy,rfl⟩:=hx
            have hy':cells[off+j]? = some y:=by simpa using hy
            have hj':off+j < cs.size:=by rw[h3];exact(List.getElem?_eq_some_iff.1 hy').1
            have e:cs[off+j]? = some cs[off+j]:=by simp[hj']
            rw[e]
            exact ih _ y (h5 _ _ _ e hy')
        · exact .any _
    | clo f vs l hs hd=>exact .clo f vs _ (by simp[hs]) (lst l vs hd)
    | bnd f vs l hs hd=>exact .bnd f vs _ (by simp[hs]) (lst l vs hd)
theorem kJ {bx:List (Nat×List A)} {gs os:List Nat}:∀ {r:List Nat} {l:List (List A)},jA bx gs os r=some l→l.length=r.length∧∀ (i g:Nat),r[i]? = some g→∃ c,aA bx g=some c∧l[i]? = some (c.map (eE bx gs os 5))
  | [],l,h=>by simp only[jA,Option.some.injEq] at h;subst h;simp
  | g0::r,l,h=>by
    simp only[jA] at h
    split at h
    · rename_i c l' hc hl
      simp only[Option.some.injEq] at h
      subst h
      obtain⟨h1,h2⟩:=kJ hl
      refine⟨by simp[h1],fun i g hi=>?_⟩
      cases i with
      | zero=>simp at hi;subst hi;exact⟨c,hc,rfl⟩
      | succ i=>simpa using h2 i g (by simpa using hi)
    · cases h
theorem nV {l:List Nat} (hnd:l.Nodup) {i j g:Nat} (h1:l[i]? = some g) (h2:l[j]? = some g):i=j:=by
  obtain⟨i1,e1⟩:=List.getElem?_eq_some_iff.1 h1
  obtain⟨i2,e2⟩:=List.getElem?_eq_some_iff.1 h2
  have hpw:=List.pairwise_iff_getElem.1 hnd
  rcases Nat.lt_trichotomy i j with hlt | heq | hgt
  · exact absurd (e1.trans e2.symm) (hpw i j i1 i2 hlt)
  · exact heq
  · exact absurd (e2.trans e1.symm) (hpw j i i2 i1 hgt)
theorem aV.vD {G:Gh} {tmps:Array Value} {w:World} (h:aV C n st G tmps w) {gs os:List Nat} {b0:List (List A)} (hgs:gs.Nodup) (hos:os.Nodup) (hov:∀ g∈os,g∈st.lv) (hb:jA st.bx gs os gs=some b0) :
    (eM C G w gs os).bx.length=b0.length∧aV (eM C G w gs os) 0 ⟨[],ju 0 b0,(List.range os.length).map (b0.length+·),b0.length+os.length⟩ (iP G gs os) #[] w:=by
  obtain⟨hl,hget⟩:=kJ hb
  refine⟨by simp[eM,hl],?_⟩
  have hown:∀ {g r},(iP G gs os).own g=some r→gs.length≤g∧∃ g0,os[g - gs.length]? = some g0∧G.own g0=some r:=by
    intro g r hr
    simp only[iP] at hr
    split at hr
    · cases hr
    · exact⟨by omega,Option.bind_eq_some_iff.1 hr⟩
  refine { size:=rfl,frame:=fun t a ha=>by simp[look] at ha,box:=fun i l' hc=>?_,gbox:=fun i b hb'=>?_,inj:=fun i j b h1 h2=>?_,live:=fun i hi=>?_,gown:=fun i r hr=>?_,
           row:=fun i b len cap sz pub hr=>?_,mrow:=fun i b hr=>?_,xold:=fun b o hx=>⟨oD h hx.1,hx.2⟩,kold:=fun b o hk=>?_,lent:=fun i b hi=>?_,fr:=⟨rfl,rfl,rfl,Nat.le_refl _,fun _ _ _=>rfl,fun _ _ _ _ h=>h,.refl w⟩ }
  · obtain⟨_,h1⟩:=pN b0 0 i l' hc
    simp only[Nat.sub_zero] at h1
    have hlt:i < gs.length:=by rw[←hl];exact(List.getElem?_eq_some_iff.1 h1).1
    have hgi:gs[i]? = some gs[i]:=by simp[hlt]
    obtain⟨c,h2,h3⟩:=hget i _ hgi
    rw[h1] at h3
    simp only[Option.some.injEq] at h3
    subst h3
    obtain⟨b,cs,T,h4,h5,h6,h7,h8⟩:=h.box _ c h2
    refine⟨b,cs,T,by simp[iP,hgi,h4],h5,by simpa using h6,h7,fun j u a hu ha=>?_⟩
    rw[List.getElem?_map,Option.map_eq_some_iff] at ha
    obtain⟨y,hy,rfl⟩:=ha
    exact aW.vD h gs os (gen':=b0.length+os.length) (by omega) 5 u y (h8 j u y hu hy)
  · obtain⟨g,h1,h2⟩:=Option.bind_eq_some_iff.1 hb'
    have hlt:i < gs.length:=(List.getElem?_eq_some_iff.1 h1).1
    refine⟨by show i < b0.length+os.length;omega,(h.gbox g b h2).2.1,.inr (.inl ⟨g,List.mem_of_getElem? h1,h2⟩),?_⟩
    rintro o ⟨lim,⟨g',_,r,hr',hra⟩,_⟩
    exact absurd h2 ((h.rowAt hr' hra).2.1 g)
  · obtain⟨g1,h3,h4⟩:=Option.bind_eq_some_iff.1 h1
    obtain⟨g2,h5,h6⟩:=Option.bind_eq_some_iff.1 h2
    have e:=h.inj g1 g2 b h4 h6
    subst e
    exact nV hgs h3 h5
  · obtain⟨j,hj,rfl⟩:=List.mem_map.1 hi
    have hj:j < os.length:=by simpa using hj
    obtain⟨r,hr⟩:=h.live _ (hov _ (List.getElem_mem hj))
    refine⟨r,?_⟩
    simp only[iP]
    rw[if_neg (by omega),hl,Nat.add_sub_cancel_left]
    simp[hj,hr]
  · obtain⟨h1,g0,h2,h3⟩:=hown hr
    have:=(List.getElem?_eq_some_iff.1 h2).1
    simp only
    omega
  · obtain⟨h1,g0,h2,h3⟩:=hown hr
    obtain⟨h4,h5,h6,h7⟩:=h.row g0 b len cap sz pub h3
    have hm:=List.mem_of_getElem? h2
    refine⟨⟨.inr (.inr ⟨_,g0,hm,_,h3,rfl,rfl⟩),?_⟩,fun j hj=>?_,fun j len' cap' sz' pub' hj=>?_,h7⟩
    · rintro o ⟨lim,⟨g',_,r',hr',hra⟩,hlt⟩
      have e:=(h.rowAt h3 ⟨rfl,rfl⟩).2.2.2 g' r' lim hr' hra
      rw[e.2] at hlt
      exact hlt
    · obtain⟨g2,_,h8⟩:=Option.bind_eq_some_iff.1 hj
      exact h5 g2 h8
    · obtain⟨h9,g2,h10,h11⟩:=hown hj
      have e:=h6 g2 len' cap' sz' pub' h11
      subst e
      have:=nV hos h10 h2
      omega
  · obtain⟨h1,g0,h2,h3⟩:=hown hr
    obtain⟨h4,h5,h6,h7⟩:=h.mrow g0 b h3
    have hm:=List.mem_of_getElem? h2
    refine⟨⟨.inr (.inr ⟨_,g0,hm,_,h3,rfl,rfl⟩),?_⟩,fun j hj=>?_,fun j hj=>?_,h7⟩
    · rintro o ⟨lim,⟨g',_,r',hr',hra⟩,hlt⟩
      have e:=(h.rowAt h3 ⟨rfl,rfl⟩).2.2.2 g' r' lim hr' hra
      rw[e.2] at hlt
      exact hlt
    · obtain⟨g2,_,h8⟩:=Option.bind_eq_some_iff.1 hj
      exact h5 g2 h8
    · obtain⟨h9,g2,h10,h11⟩:=hown hj
      have e:=h6 g2 h11
      subst e
      have:=nV hos h10 h2
      omega
  · obtain⟨lim,⟨g',_,r',hr',hra⟩,_⟩:=hk
    exact(h.rowAt hr' hra).2.2.1
  · simp only[eM,List.getElem?_map,Option.map_eq_some_iff] at hi
    obtain⟨g,hg,rfl⟩:=hi
    obtain⟨c,h2,_⟩:=hget i g hg
    obtain⟨b,_,_,h4,_⟩:=h.box _ c h2
    simp[iP,hg,h4]
theorem aW.back {E E2:En} {gs:List Nat} {m:Nat} (hc:∀ b o u,cellAt E.w b o=some u→¬ E.pv b o→cellAt E2.w b o=some u∧¬ E2.pv b o) (ho:∀ g r,g < E.gen→E2.own (g+m)=some r→E.own g=some r)
    (hg:E.gen+m≤E2.gen) (hb:∀ (i g b:Nat),gs[i]? = some g→E.box i=some b→g < E2.gen∧E2.box g=some b) (hw:E2.w=E.w) {v:Value} {a:A} (h:aW E v a):aW E2 v (back gs m a):=by
  have hc':∀ b o u,cellAt E.w b o=some u→¬ E.pv b o→cellAt E.w b o=some u∧¬ E2.pv b o:=fun b o u h1 h2=>⟨h1,(hc b o u h1 h2).2⟩
  induction h with
  | any x=>exact .any x
  | d hd=>exact .d (hd.mono hc)
  | ag vs l hs hd=>exact .ag vs l hs (fun i u x h1 h2=>(hd i u x h1 h2).mono hc)
  | own x g es hd hgg hr=>exact .own x _ es (hd.mono hc) (by omega) (fun r hr'=>hr r (ho g r hgg hr'))
  | agg vs l hs hone _ ih=>
    simp only[Ab.back,fU]
    refine .agg vs _ (by simp[hs]) hone (fun i u x hu hx=>?_)
    simp only[List.getElem?_map,Option.map_eq_some_iff] at hx
    obtain⟨y,hy,rfl⟩:=hx
    exact ih i u y hu hy
  | tup vs l hs _ ih=>
    simp only[Ab.back,fU]
    refine .tup vs _ (by simp[hs]) (fun i u x hu hx=>?_)
    simp only[List.getElem?_map,Option.map_eq_some_iff] at hx
    obtain⟨y,hy,rfl⟩:=hx
    exact ih i u y hu hy
  | rowd b off l u hcc hd=>exact .rowd b off l u (fun j hj=>hc _ _ _ (hcc j hj).1 (hcc j hj).2) (fun j x hx=>(hd j x hx).mono hc)
  | row b off l u hcc _ _=>exact .any _
  | np x i T b0 hgg hb0 hT u hp=>
    simp only[Ab.back]
    split
    · rename_i g hgi
      exact .np x g T b0 (hb i g b0 hgi hb0).1 (hb i g b0 hgi hb0).2 (hw▸hT) u hp
    · exact .any _
  | lk=>exact .any _
  | fx=>exact .any _
  | ol=>exact .any _
  | sb x i n c b0 hgg hb0 hn hp=>
    simp only[Ab.back]
    split
    · rename_i g hgi
      exact .sb x g n c b0 (hb i g b0 hgi hb0).1 (hb i g b0 hgi hb0).2 hn hp
    · exact .any _
  | ptr x i off b0 hgg hb0 hp=>
    simp only[Ab.back]
    split
    · rename_i g hgi
      exact .ptr x g off b0 (hb i g b0 hgi hb0).1 (hb i g b0 hgi hb0).2 hp
    · exact .any _
  | xs x g es hgg h1 hx=>exact .xs x _ es (by omega) h1 (fun r hr'=>hw▸(hx r (ho g r hgg hr')).iZ hc')
  | xp x g i off l hgg h1 hx=>exact .xp x _ i off l (by omega) h1 (fun r hr'=>hw▸(hx r (ho g r hgg hr')).iZ hc')
  | ni t x=>exact .ni t x
  | fl x es hd hfl=>exact .fl x es (hd.mono hc) hfl
  | bf x g T s hgg h1 hx=>exact .bf x _ T s (by omega) h1 (fun r hr'=>hw▸hx r (ho g r hgg hr'))
  | mp x g es hgg h1 hx=>exact .mp x _ es (by omega) h1 (fun r hr'=>hw▸(hx r (ho g r hgg hr')).iZ hc')
  | clo f vs l hs _ ih=>
    simp only[Ab.back,fU]
    refine .clo f vs _ (by simp[hs]) (fun i u x hu hx=>?_)
    simp only[List.getElem?_map,Option.map_eq_some_iff] at hx
    obtain⟨y,hy,rfl⟩:=hx
    exact ih i u y hu hy
  | bnd f vs l hs _ ih=>
    simp only[Ab.back,fU]
    refine .bnd f vs _ (by simp[hs]) (fun i u x hu hx=>?_)
    simp only[List.getElem?_map,Option.map_eq_some_iff] at hx
    obtain⟨y,hy,rfl⟩:=hx
    exact ih i u y hu hy
theorem aV.An {G:Gh} {tmps:Array Value} {w w':World} (h:aV C n st G tmps w) {gs os:List Nat} {b0 b1:List (List A)} (hb:jA st.bx gs os gs=some b0) (hl1:b1.length=b0.length) {k:Nat} {G1:Gh}
    (h1:aV (eM C G w gs os) 0 ⟨[],ju 0 b1,(List.range k).map (b0.length+·),b0.length+k⟩ G1 #[] w') :
    ∃ G2,(∀ v a,aW (aK (eM C G w gs os) G1 (b0.length+k) w') v a→aW (aK C G2 (b0.length+k+st.gen) w') v (back gs st.gen a)) ∧
      aV C n ⟨st.f,jO gs st.gen gs b1++st.bx,(List.range k).map (b0.length+·+st.gen)++st.lv.filter (fun g=>!os.any (Nat.beq g)),b0.length+k+st.gen⟩ G2 tmps w':=by
  obtain⟨hl,hget⟩:=kJ hb
  have memos:∀ g,os.any (Nat.beq g)=true↔g∈os:=by
    intro g
    rw[List.any_eq_true]
    exact⟨fun ⟨x,hx,he⟩=>Nat.eq_of_beq_eq_true he▸hx,fun hg=>⟨g,hg,Nat.beq_refl g⟩⟩
  let own2:Nat→Option Row:=fun g=>if g < st.gen then (if os.any (Nat.beq g) then none else G.own g) else G1.own (g - st.gen)
  let G2:Gh:=⟨G.box,own2⟩
  have hLb:∀ {b},fT G gs b→C.pD b 0∧b < w.heap.size:=by
    rintro b ⟨g,_,hg⟩
    exact⟨(h.gbox g b hg).2.2,(h.gbox g b hg).2.1⟩
  have hLr:∀ {b lim},eG G os b lim→C.pD b lim∧b < w.heap.size∧(∀ g',G.box g'≠some b):=by
    rintro b lim ⟨g,_,r,hg,hra⟩
    obtain⟨h1,h2,h3,_⟩:=h.rowAt hg hra
    exact⟨h1,h3,h2⟩
  have hLm:∀ {b},(fT G gs b∨∃ lim,eG G os b lim)→C.w0.heap.size≤b∨C.fp b:=by
    rintro b (hl | ⟨lim,hl⟩)
    · exact(hLb hl).1.1
    · exact(hLr hl).1.1
  have hG1:∀ {i g:Nat} {b:Nat},gs[i]? = some g→G.box g=some b→G1.box i=some b:=by
    intro i g b hi hg
    refine h1.lent i b ?_
    simp[eM,hi,hg]
  have old2:∀ {g r},own2 g=some r→(g < st.gen∧g∉os∧G.own g=some r)∨(st.gen≤g∧G1.own (g - st.gen)=some r):=by
    intro g r hr
    simp only[own2] at hr
    split at hr
    · rename_i hlt
      split at hr
      · cases hr
      · rename_i hno
        exact .inl ⟨hlt,fun hm=>hno ((memos g).2 hm),hr⟩
    · exact .inr ⟨by omega,hr⟩
  have hstay:∀ {b},b < w.heap.size→¬ (fT G gs b∨∃ lim,eG G os b lim)→w'.heap[b]? = w.heap[b]?:=fun hlt hn=>h1.fr.block _ hlt hn
  have hnotrow:∀ {g b lim r},G.own g=some r→r.ny b lim→g∉os→¬ (fT G gs b∨∃ lim,eG G os b lim):=by
    rintro g b lim r hg hra hno (⟨g',_,hb'⟩ | ⟨lim',g',hg',r',hr',hra'⟩)
    · exact(h.rowAt hg hra).2.1 g' hb'
    · have e:=(h.rowAt hg hra).2.2.2 g' r' lim' hr' hra'
      exact hno (e.1▸hg')
  have hnotbox:∀ {g b},G.box g=some b→g∉gs→¬ (fT G gs b∨∃ lim,eG G os b lim):=by
    rintro g b hg hno (⟨g',hg',hb'⟩ | ⟨lim,hl⟩)
    · have e:=h.inj g g' b hg hb'
      subst e
      exact hno hg'
    · exact(hLr hl).2.2 g hg
  have hnew:∀ {g b lim r},G1.own g=some r→r.ny b lim→C.pD b lim∧(∀ g',G.box g'≠some b)∧(w.heap.size≤b∨∃ lim',eG G os b lim'∧lim'≤lim):=by
    intro g b lim r hg hra
    obtain⟨⟨hm,hk⟩,hnb,_⟩:=h1.rowAt hg hra
    have hm':w.heap.size≤b∨(fT G gs b∨∃ lim,eG G os b lim):=hm
    rcases hm' with hm | hm | ⟨lim',hm⟩
    · refine⟨⟨.inl (Nat.le_trans h.fr.size hm),fun o ho=>?_⟩,fun g' hg'=>?_,.inl hm⟩
      · have:=h.kold b o ho
        have:=h.fr.size
        omega
      · have:=(h.gbox g' b hg').2.1
        omega
    · obtain⟨g0,hg0,hb0⟩:=hm
      obtain⟨i,hi⟩:=List.mem_iff_getElem?.1 hg0
      exact absurd (hG1 hi hb0) (hnb i)
    · have hlim:lim'≤lim:=by
        rcases Nat.lt_or_ge lim lim' with hlt | hge
        · exact absurd (hk lim ⟨lim',hm,hlt⟩) (Nat.lt_irrefl _)
        · exact hge
      obtain⟨q1,q2,q3⟩:=hLr hm
      exact⟨⟨q1.1,fun o ho=>Nat.lt_of_lt_of_le (q1.2 o ho) hlim⟩,q3,.inr ⟨lim',hm,hlim⟩⟩
  have hfr:Fr C w':=by
    refine⟨h1.fr.os.trans h.fr.os,h1.fr.tape.trans h.fr.tape,h1.fr.output.trans h.fr.output,Nat.le_trans h.fr.size h1.fr.size,fun b hlt hn=>?_,fun b o u hk hu=>?_,h.fr.ty.trans h1.fr.ty⟩
    · rw[hstay (Nat.lt_of_lt_of_le hlt h.fr.size) (fun hl=>(hLm hl).elim (fun h=>by omega) hn)]
      exact h.fr.block b hlt hn
    · have hu':=h.fr.cells b o u hk hu
      by_cases hl:fT G gs b∨∃ lim,eG G os b lim
      · rcases hl with hl | ⟨lim,hl⟩
        · exact absurd ((hLb hl).1.2 o hk) (Nat.not_lt_zero _)
        · exact h1.fr.cells b o u ⟨lim,hl,(hLr hl).1.2 o hk⟩ hu'
      · rw[cz (hstay (eC hu') hl)]
        exact hu'
  have hpv2:∀ {b o},bD C G2 b o→bD (eM C G w gs os) G1 b o:=by
    rintro b o (hp | ⟨g,hp⟩ | ⟨g,len,cap,sz,pub,hp,hle⟩)
    · refine rH (.inl hp) (fun hl=>?_)
      obtain⟨h2,h3⟩:=h.xold b o hp
      exact(hLm hl).elim (fun h=>by omega) h3
    · by_cases hg:g∈gs
      · obtain⟨i,hi⟩:=List.mem_iff_getElem?.1 hg
        exact .inr (.inl ⟨i,hG1 hi hp⟩)
      · exact rH (G:=G) (.inr (.inl ⟨g,hp⟩)) (hnotbox hp hg)
    · rcases old2 hp with ⟨_,h3,h4⟩ | ⟨_,h3⟩
      · exact rH (.inr (.inr ⟨g,len,cap,sz,pub,h4,hle⟩)) (hnotrow h4 ⟨rfl,rfl⟩ h3)
      · exact .inr (.inr ⟨_,len,cap,sz,pub,h3,hle⟩)
  have hback:∀ v a,aW (aK (eM C G w gs os) G1 (b0.length+k) w') v a→aW (aK C G2 (b0.length+k+st.gen) w') v (back gs st.gen a):=by
    intro v a hr
    refine aW.back (E:=aK (eM C G w gs os) G1 (b0.length+k) w') (E2:=aK C G2 (b0.length+k+st.gen) w') (fun b o u hu hn=>⟨hu,fun hp=>hn (hpv2 hp)⟩) (fun g r hg hr'=>?_) (by simp[aK]) (fun i g b hi hb1=>?_) rfl hr
    · have hr2:own2 (g+st.gen)=some r:=hr'
      rcases old2 hr2 with ⟨h3,_⟩ | ⟨_,h3⟩
      · omega
      · rw[Nat.add_sub_cancel] at h3
        exact h3
    · obtain⟨c,h2,_⟩:=hget i g hi
      obtain⟨b',_,_,h4,_⟩:=h.box _ c h2
      have h5:=hG1 hi h4
      have h6:G1.box i=some b:=hb1
      rw[h5] at h6
      simp only[Option.some.injEq] at h6
      subst h6
      have:=(h.gbox g b' h4).1
      exact⟨by simp only[aK];omega,h4⟩
  have hle:(aK C G st.gen w).le (aK C G2 (b0.length+k+st.gen) w'):=by
    refine mV h.fr hfr (fun b o u hu hn=>⟨?_,fun hp=>?_⟩) (fun _ _ h=>h) (fun g r hg hr=>?_) (by omega) (fun g b len cap sz pub hg hr=>?_) (fun g b hg hr=>?_) h1.fr.ty
    · by_cases hl:fT G gs b∨∃ lim,eG G os b lim
      · rcases hl with ⟨g,_,hg⟩ | ⟨lim,hl⟩
        · exact absurd (.inr (.inl ⟨g,hg⟩)) hn
        · refine h1.fr.cells b o u ⟨lim,hl,?_⟩ hu
          obtain⟨g,_,r,hg,hra⟩:=hl
          exact Nat.lt_of_not_le fun hle=>hn (h.Aj hg hra hu hle)
      · rw[cz (hstay (eC hu) hl)]
        exact hu
    · rcases hp with hp | ⟨g,hp⟩ | ⟨g,len,cap,sz,pub,hp,hle⟩
      · exact hn (.inl hp)
      · exact hn (.inr (.inl ⟨g,hp⟩))
      · rcases old2 hp with ⟨_,_,h4⟩ | ⟨_,h3⟩
        · exact hn (.inr (.inr ⟨g,len,cap,sz,pub,h4,hle⟩))
        · have hlt:=eC hu
          rcases(hnew h3 ⟨rfl,rfl⟩).2.2 with h5 | ⟨lim,hl,hlim⟩
          · omega
          · obtain⟨g0,_,r0,hg0,hra⟩:=hl
            exact hn (h.Aj hg0 hra hu (by omega))
    · have hr2:own2 g=some r:=hr
      rcases old2 hr2 with ⟨_,_,h3⟩ | ⟨h3,_⟩
      · exact h3
      · omega
    · have hr2:own2 g=some (.blk b len cap sz pub):=hr
      rcases old2 hr2 with ⟨_,h3,h4⟩ | ⟨h3,_⟩
      · exact hstay (h.rowAt h4 ⟨rfl,rfl⟩).2.2.1 (hnotrow h4 ⟨rfl,rfl⟩ h3)
      · omega
    · have hr2:own2 g=some (.mp b):=hr
      rcases old2 hr2 with ⟨_,h3,h4⟩ | ⟨h3,_⟩
      · exact hstay (h.rowAt h4 ⟨rfl,rfl⟩).2.2.1 (hnotrow h4 ⟨rfl,rfl⟩ h3)
      · omega
  refine⟨G2,hback,{ size:=h.size,frame:=h.eS hle,inj:=h.inj,xold:=h.xold,kold:=h.kold,lent:=h.lent,fr:=hfr,box:=?_,gbox:=?_,live:=?_,gown:=?_,row:=?_,mrow:=?_ }⟩
  · intro g cells hc
    by_cases hg:g∈gs
    · have hz:∃ c,aA (jO gs st.gen gs b1) g=some c:=by
        clear hback hle hpv2
        have:∀ (r:List Nat) (l:List (List A)),l.length=r.length→g∈r→∃ c,aA (jO gs st.gen r l) g=some c:=by
          intro r
          induction r with
          | nil=>intro l _ hm;cases hm
          | cons x r ih=>
            intro l hl hm
            cases l with
            | nil=>simp at hl
            | cons c l=>
              simp only[jO,bP]
              by_cases e:x=g
              · rw[if_pos e];exact⟨_,rfl⟩
              · rw[if_neg e]
                exact ih l (by simpa using hl) ((List.mem_cons.1 hm).resolve_left (fun h=>e h.symm))
        exact this gs b1 (by omega) hg
      obtain⟨c,hz⟩:=hz
      have hcc:c=cells:=by
        rcases jH hc with h2 | h2
        · rw[h2] at hz;exact(Option.some.inj hz).symm
        · have:aA (jO gs st.gen gs b1++st.bx) g=some c:=by
            clear hc hback hle
            revert hz
            generalize jO gs st.gen gs b1=z
            intro hz
            induction z with
            | nil=>simp[aA] at hz
            | cons x z ih=>
              obtain⟨s,y⟩:=x
              rw[bP] at hz
              rw[List.cons_append,bP]
              split
              · rename_i e;rw[if_pos e] at hz;exact hz
              · rename_i e;rw[if_neg e] at hz;exact ih hz
          rw[this] at hc
          exact Option.some.inj hc
      subst hcc
      obtain⟨i,c0,h2,h3,rfl⟩:=oC hz
      obtain⟨b,cs,T,h4,h5,h6,h7,h8⟩:=h1.box i c0 (by have:=tQ b1 0 i c0 h3;simpa using this)
      obtain⟨c2,h9,_⟩:=hget i g h2
      obtain⟨b',_,_,h10,_⟩:=h.box g c2 h9
      have e:b'=b:=by
        have:=hG1 h2 h10
        rw[h4] at this
        exact(Option.some.inj this).symm
      subst e
      refine⟨b',cs,T,h10,h5,by rw[fU,List.length_map];exact h6,h7,fun j u a hu ha=>?_⟩
      rw[fU,List.getElem?_map,Option.map_eq_some_iff] at ha
      obtain⟨y,hy,rfl⟩:=ha
      exact hback u y (h8 j u y hu hy)
    · have hc2:aA st.bx g=some cells:=by
        rcases jH hc with h2 | h2
        · obtain⟨i,c0,h3,_⟩:=oC h2
          exact absurd (List.mem_of_getElem? h3) hg
        · exact h2
      obtain⟨b,cs,T,h4,h5,h6,h7,h8⟩:=h.box g cells hc2
      refine⟨b,cs,T,h4,by rw[hstay (Array.getElem?_eq_some_iff.1 h5).1 (hnotbox h4 hg)];exact h5,h6,h7,fun j u a hu ha=>(h8 j u a hu ha).mono hle⟩
  · intro g b hgb
    obtain⟨h2,h3,h4⟩:=h.gbox g b hgb
    exact⟨by simp only;omega,Nat.lt_of_lt_of_le h3 h1.fr.size,h4⟩
  · intro g hg
    rcases List.mem_append.1 hg with hg | hg
    · obtain⟨j,hj,rfl⟩:=List.mem_map.1 hg
      obtain⟨r,hr⟩:=h1.live (b0.length+j) (List.mem_map.2 ⟨j,hj,rfl⟩)
      refine⟨r,?_⟩
      simp only[G2,own2]
      rw[if_neg (by omega),Nat.add_sub_cancel]
      exact hr
    · obtain⟨h2,h3⟩:=List.mem_filter.1 hg
      obtain⟨r,hr⟩:=h.live g h2
      refine⟨r,?_⟩
      simp only[G2,own2]
      rw[if_pos (h.gown g r hr),if_neg (by cases e:os.any (Nat.beq g) with | true=>rw[e] at h3;cases h3 | false=>simp)]
      exact hr
  · intro g r hr
    rcases old2 hr with ⟨h2,_⟩ | ⟨h2,h3⟩
    · simp only;omega
    · have:=h1.gown _ r h3
      simp only at this ⊢
      omega
  · intro g b len cap sz pub hr
    rcases old2 hr with ⟨h2,h3,h4⟩ | ⟨h2,h3⟩
    · obtain⟨h5,h6,h7,cur,T,h8,h9⟩:=h.row g b len cap sz pub h4
      refine⟨h5,h6,fun g' len' cap' sz' pub' hr'=>?_,cur,T,by rw[hstay (Array.getElem?_eq_some_iff.1 h8).1 (hnotrow h4 ⟨rfl,rfl⟩ h3)];exact h8,h9⟩
      rcases old2 hr' with ⟨_,_,h10⟩ | ⟨_,h10⟩
      · exact h7 g' len' cap' sz' pub' h10
      · rcases(hnew h10 ⟨rfl,rfl⟩).2.2 with h11 | ⟨lim,h11,_⟩
        · have:=(Array.getElem?_eq_some_iff.1 h8).1
          omega
        · exact absurd (.inr ⟨lim,h11⟩) (hnotrow h4 ⟨rfl,rfl⟩ h3)
    · obtain⟨h5,h6,h7,h8⟩:=h1.row _ b len cap sz pub h3
      refine⟨(hnew h3 ⟨rfl,rfl⟩).1,(hnew h3 ⟨rfl,rfl⟩).2.1,fun g' len' cap' sz' pub' hr'=>?_,h8⟩
      rcases old2 hr' with ⟨_,h10,h12⟩ | ⟨_,h10⟩
      · rcases(hnew h3 ⟨rfl,rfl⟩).2.2 with h11 | ⟨lim,h11,_⟩
        · have:=(h.rowAt h12 ⟨rfl,rfl⟩).2.2.1
          omega
        · exact absurd (.inr ⟨lim,h11⟩) (hnotrow h12 ⟨rfl,rfl⟩ h10)
      · have:=h7 _ len' cap' sz' pub' h10
        omega
  · intro g b hr
    rcases old2 hr with ⟨h2,h3,h4⟩ | ⟨h2,h3⟩
    · obtain⟨h5,h6,h7,me,clock,h8⟩:=h.mrow g b h4
      refine⟨h5,h6,fun g' hr'=>?_,me,clock,by rw[hstay (Array.getElem?_eq_some_iff.1 h8).1 (hnotrow h4 ⟨rfl,rfl⟩ h3)];exact h8⟩
      rcases old2 hr' with ⟨_,_,h10⟩ | ⟨_,h10⟩
      · exact h7 g' h10
      · rcases(hnew h10 ⟨rfl,rfl⟩).2.2 with h11 | ⟨lim,h11,_⟩
        · have:=(Array.getElem?_eq_some_iff.1 h8).1
          omega
        · exact absurd (.inr ⟨lim,h11⟩) (hnotrow h4 ⟨rfl,rfl⟩ h3)
    · obtain⟨h5,h6,h7,h8⟩:=h1.mrow _ b h3
      refine⟨(hnew h3 ⟨rfl,rfl⟩).1,(hnew h3 ⟨rfl,rfl⟩).2.1,fun g' hr'=>?_,h8⟩
      rcases old2 hr' with ⟨_,h10,h12⟩ | ⟨_,h10⟩
      · rcases(hnew h3 ⟨rfl,rfl⟩).2.2 with h11 | ⟨lim,h11,_⟩
        · have:=(h.rowAt h12 ⟨rfl,rfl⟩).2.2.1
          omega
        · exact absurd (.inr ⟨lim,h11⟩) (hnotrow h12 ⟨rfl,rfl⟩ h10)
      · have:=h7 _ h10
        omega
theorem WO.kQ [fw P] [GC P C] (hg:o.guard=none) (hd:ey n o.dst=true) {x:Operand} {xs:Array Operand} {tys:Array TypeId} (ho:o.op=.call ⟨.value x,xs,tys⟩) {fid:FuncId} {caps as':List A} (hx:av st.f x=some (.clo fid caps))
    (hxs:jR st.f xs.toList=some as') (gs os:List Nat) (hgs:hH gs=true) (hos:hH os=true) (hov:(os.all fun g=>st.lv.any fun h=>Nat.beq h g)=true) {args:List A} {b0 b1:List (List A)} {r:A} {m k:Nat}
    (hf:dE P fid args b0 m r b1 k) (harg:(as'++caps).map (eE st.bx gs os 5)=args) (hb:jA st.bx gs os gs=some b0) (hm:os.length=m)
    (h:WO P C n ops Q rest (St.put ⟨st.f,jO gs st.gen gs b1++st.bx,(List.range k).map (b0.length+·+st.gen)++st.lv.filter (fun g=>!os.any (Nat.beq g)),b0.length+k+st.gen⟩ o.dst (back gs st.gen r))):WO P C n ops Q (o::rest) st:=by
  subst hm
  subst harg
  refine WO.step hg fun tmps w ⟨G,hs⟩=>?_
  obtain⟨fn,hfn,hname,hbody⟩:=hf.ok
  have hr:=hs.av hx
  generalize hv:Act.eval ⟨tmps,[]⟩ x=v at hr
  cases hr with
  | clo _ vs _ hsz hcd=>
  obtain⟨h1,h2⟩:=jT hs xs.toList as' hxs
  have hrun:(execOp (Act.eval ⟨tmps,[]⟩) o).run P w=.ok (.enter fid (xs.map (Act.eval ⟨tmps,[]⟩)++vs)) w:=by
    unfold execOp
    rw[ho]
    show Sem.run P (do let d ←resolve (Act.eval ⟨tmps,[]⟩) ⟨.value x,xs,tys⟩ o.type;invoke d.target d.args) w=_
    simp only[resolve,hv,Deferred.ofValue,Sem.run_bind,Sem.run_pure,Result.andThen_ok,invoke,callFunc,run_program,hfn,hname,hbody,Bool.false_eq_true,if_false,Array.empty_append]
  obtain⟨hlen,hent⟩:=hs.vD (gs:=gs) (os:=os) (jX hgs) (jX hos) (fun g hg=>by
    obtain⟨y,hy,he⟩:=List.any_eq_true.1 (List.all_eq_true.1 hov g hg)
    exact Nat.eq_of_beq_eq_true he▸hy) hb
  have hbl:=(kJ hb).1
  unfold da
  have hrun':(execOp (Act.eval { tmps:=tmps,defers:=[] }) o).run P w=.ok (.enter fid (xs.map (Act.eval ⟨tmps,[]⟩)++vs)) w:=hrun
  rw[hrun']
  refine(hf.calls (eM C G w gs os) (iP G gs os) _ w (GC.zJ hs) rfl hlen rfl (yz rfl) hent (by simp at h1;simp[hsz,h1]) (fun i u a hu ha=>?_)).mono fun e w' ⟨v,G',he,h3,h4⟩=>?_
  · simp only[List.getElem?_map,Option.map_eq_some_iff] at ha
    obtain⟨y,hy,rfl⟩:=ha
    refine aW.vD hs gs os (by omega) 5 u y ?_
    simp only[Array.getElem?_append] at hu
    split at hu
    · rename_i hlt
      simp only[Array.size_map] at hlt
      have hlt':i < as'.length:=by simp at h1;omega
      rw[List.getElem?_append_left hlt'] at hy
      obtain⟨z,hz,hzr⟩:=h2 i y hy
      simp only[Array.getElem?_map,Option.map_eq_some_iff] at hu
      obtain⟨z',hz',rfl⟩:=hu
      have:z=z':=by simp at hz;rw[hz'] at hz;exact(Option.some.inj hz).symm
      subst this
      exact hzr
    · rename_i hge
      simp only[Array.size_map] at hge hu
      have hge':as'.length≤i:=by simp at h1;omega
      rw[List.getElem?_append_right hge'] at hy
      refine hcd (i - xs.size) u y hu ?_
      have:xs.size=as'.length:=by simpa using h1
      rw[this]
      exact hy
  · obtain⟨G2,hbk,hs2⟩:=hs.An hb hf.len h3
    exact⟨v,he,_,⟨G2,hs2.put (cP hd) (hbk v r h4)⟩,h⟩
end
end Go.Ab
namespace Go.Ab
open Go.RowKit
section
variable {P:Program} {C:Ctx} {n:Nat} {ops:Array Oper} {Q:Exit→St→Prop} {rest:List Oper} {c:Code}
variable {f:List (Nat×A)} {bx:List (Nat×List A)} {lv:List Nat} {gen:Nat} {d:Nat} {op:Op} {ty:TypeId} {pos:String} {af:Array Edge} {a:A} {dst:Option Nat}
theorem aV.yQ {st:St} {G:Gh} {tmps:Array Value} {w:World} (h:aV C n st G tmps w) {g:Nat} {cells cells':List A} (hb:aA st.bx g=some cells) (hl:cells'.length=cells.length)
    (hr:∀ (i:Nat) (u:Value) (a a':A),cells[i]? = some a→cells'[i]? = some a'→aW (aK C G st.gen w) u a→aW (aK C G st.gen w) u a'):aV C n { st with bx:=(g,cells')::st.bx } G tmps w:=by
  refine { h with box:=fun g' c hc=>?_ }
  simp only[bP] at hc
  split at hc
  · rename_i e
    subst e
    simp only[Option.some.injEq] at hc
    subst hc
    obtain⟨b,cs,T,h1,h2,h3,h4,h5⟩:=h.box g cells hb
    refine⟨b,cs,T,h1,h2,by omega,h4,fun i u a hu ha=>?_⟩
    have hlt:i < cells.length:=by rw[←hl];exact(List.getElem?_eq_some_iff.1 ha).1
    exact hr i u cells[i] a (by simp[hlt]) ha (h5 i u cells[i] hu (by simp[hlt]))
  · exact h.box g' c hc
def isNil:A→Bool
  | .d (.v (.slice none 0 0))=>true
  | _=>false
theorem xS {a:A} (h:isNil a=true):a=.d (.v (.slice none 0 0)):=by
  unfold isNil at h
  split at h
  · rfl
  · cases h
theorem iG.fv {st:St} {tmps:Array Value} {w:World} (h:iG C n st tmps w) {g j:Nat} {cells:List A} (hb:aA st.bx g=some cells) (hj:cells[j]? = some (.d (.v (.slice none 0 0)))) :
    iG C n ⟨st.f,(g,cells.set j (.own st.gen []))::st.bx,st.gen::st.lv,st.gen+1⟩ tmps w:=by
  obtain⟨G,h⟩:=h
  obtain⟨⟨G',_,hs,hv⟩⟩:=h.oK false st.lv (fun _ h=>h)
  refine⟨G',aV.yQ (st:={ st with lv:=st.gen::st.lv,gen:=st.gen+1 }) hs hb (by simp) (fun i u a a' ha ha' hr=>?_)⟩
  rw[List.getElem?_set] at ha'
  split at ha'
  · rename_i e
    subst e
    rw[hj] at ha
    simp only[Option.some.injEq] at ha
    subst ha
    split at ha'
    · simp only[Option.some.injEq] at ha'
      subst ha'
      cases hr with | d hr=>cases hr;exact hv
    · cases ha'
  · rw[ha] at ha'
    simp only[Option.some.injEq] at ha'
    subst ha'
    exact hr
theorem fv (g j:Nat) {cells cells':List A} (hb:aA bx g=some cells) (hj:cells[j]? = some (.d (.v (.slice none 0 0)))) (hc:cells.set j (.own gen [])=cells') (h:W P C n c Q ⟨f,(g,cells')::bx,gen::lv,gen+1⟩):W P C n c Q ⟨f,bx,lv,gen⟩:=by
  subst hc
  exact fun tmps w hs=>h tmps w (hs.fv hb hj)
theorem qm (g j:Nat) {cells cells':List A} (hb:aA bx g=some cells) (hj:cells[j]? = some (.d (.v (.slice none 0 0)))) (hc:cells.set j (.own gen [])=cells') (h:WO P C n ops Q rest ⟨f,(g,cells')::bx,gen::lv,gen+1⟩):WO P C n ops Q rest ⟨f,bx,lv,gen⟩:=by
  subst hc
  exact fun tmps w hs=>h tmps w (hs.fv hb hj)
theorem kQ [fw P] [GC P C] {x:Operand} {xs:Array Operand} {tys:Array TypeId} {fid:FuncId} {caps as' args:List A} {b0 b1:List (List A)} {r:A} {m k:Nat} {r':A} {bx':List (Nat×List A)} {lv':List Nat} {gen':Nat} (gs os:List Nat) (hx:av f x=some (.clo fid caps)) (hxs:jR f xs.toList=some as')
    (harg:(as'++caps).map (eE bx gs os 5)=args) (hb:jA bx gs os gs=some b0) (hm:os.length=m) (hf:dE P fid args b0 m r b1 k)
    (hgs:hH gs=true) (hos:hH os=true) (hov:(os.all fun g=>lv.any fun h=>Nat.beq h g)=true) (hd:Nat.blt d n=true)
    (hr:back gs gen r=r') (hbx:jO gs gen gs b1++bx=bx') (hlv:(List.range k).map (b0.length+·+gen)++lv.filter (fun g=>!os.any (Nat.beq g))=lv') (hgen:b0.length+k+gen=gen')
    (h:WO P C n ops Q rest ⟨(d,r')::f,bx',lv',gen'⟩) :
    WO P C n ops Q (⟨some d,.call ⟨.value x,xs,tys⟩,ty,pos,af,none⟩::rest) ⟨f,bx,lv,gen⟩:=by
  subst hr;subst hbx;subst hlv;subst hgen
  exact WO.kQ (st:=⟨f,bx,lv,gen⟩) rfl hd rfl hx hxs gs os hgs hos hov hf harg hb hm h
def rv (order:List Nat) (bx:List (Nat×List A)):Nat→List (List A)→Prop
  | _,[]=>True
  | i,c::r=>(match aA bx i with | some c0=>some (fR order c0) | none=>none)=some c∧rv order bx (i+1) r
theorem rv.get {order:List Nat} {bx:List (Nat×List A)}:∀ {l:List (List A)} {k:Nat},rv order bx k l→∀ (i:Nat) (c:List A),l[i]? = some c→∃ c0,aA bx (k+i)=some c0∧fR order c0=c
  | [],_,_,i,c,h=>by simp at h
  | b::l,k,hh,i,c,h=>by
    cases i with
    | zero=>
      simp at h
      subst h
      have:=hh.1
      split at this
      · rename_i c0 hc0
        exact⟨c0,hc0,Option.some.inj this⟩
      · cases this
    | succ i=>
      have:=rv.get hh.2 i c (by simpa using h)
      rwa [Nat.add_assoc,Nat.add_comm 1 i] at this
theorem ik.end (T:cB P) {rs:List RV} {r:A} {b1:List (List A)} {k:Nat} {e:Exit} {l:List A} (order:List Nat) (he:match e with | .normal=>True | .ret=>True | _=>False) (hl:lp T f bx rs=some l)
    (hk:order.length=k) (hnd:hH (iC b1.length order)=true) (hov:(order.all fun g=>lv.any fun h=>Nat.beq h g)=true) (hb:rv (iC b1.length order) bx 0 b1)
    (hr:bQ (iC b1.length order) (az l)=r):ik T rs r b1 k e ⟨f,bx,lv,gen⟩:=
  ik.ret (st:=⟨f,bx,lv,gen⟩) T order he hl hk hnd hov (fun i c hc=>by have:=hb.get i c hc;simpa using this) hr
end
end Go.Ab
namespace Go.Ab
open Go.RowKit
abbrev Bt:=Nat→Option (List A)
def dV (β:Bt):Option (Nat×List A)→Bt
  | some (g,c)=>fun h=>if h=g then some c else β h
  | none=>β
def jv (o:Oper):Bool:=match o.op with | .alloc _=>true | .box _ _=>true | _=>false
def Bd (o:Oper):Bool:=match o.op with | .store _ _ _=>true | _=>false
def lf (o:Oper):Option Nat:=match o.op with | .store _ (.tmp d) _=>some d | _=>none
def cW:List Oper→Nat→Nat
  | [],_=>0
  | _::_,0=>0
  | o::r,i+1=>(bif jv o then 1 else 0)+cW r i
theorem sv:∀ (l:List Oper) {i j:Nat},i≤j→cW l i≤cW l j
  | [],i,j,_=>by simp[cW]
  | o::r,0,j,_=>by simp[cW]
  | o::r,i+1,0,h=>by omega
  | o::r,i+1,j+1,h=>by have:=sv r (i:=i) (j:=j) (by omega);simp only[cW];omega
theorem pd:∀ {l:List Oper} {i:Nat} {o:Oper},l[i]? = some o→jv o=true→cW l (i+1)=cW l i+1
  | [],i,o,h,_=>by simp at h
  | x::r,0,o,h,hn=>by
    simp at h
    subst h
    cases r <;> simp[cW,hn]
  | x::r,i+1,o,h,hn=>by
    have:=pd (l:=r) (i:=i) (by simpa using h) hn
    simp only[cW] at this ⊢
    rw[this]
    omega
theorem sn {l:List Oper} {i j:Nat} {o:Oper} (h:l[i]? = some o) (hn:jv o=true) (hij:i < j):cW l i < cW l j:=by
  have h1:=pd h hn
  have h2:=sv l (i:=i+1) (j:=j) (by omega)
  omega
section
variable {P:Program} (T:cB P) {C:Ctx} {n:Nat} {bx:List (Nat×List A)} {lv:List Nat} {gen r:Nat} {ops:Array Oper} {md:Region.Mode} {m:Nat}
abbrev Sg:=dB×Bt
structure gm (C:Ctx) (n:Nat) (bx:List (Nat×List A)) (lv:List Nat) (gen r:Nat) (σ:Sg) (G:Gh) (tmps:Array Value) (w:World):Prop where
  s:aV C n ⟨[],bx,lv,gen+r⟩ G tmps w
  f:∀ t a,σ.1 t=some a→∃ v,tmps[t]? = some v∧aW (aK C G (gen+r) w) v a
  b:∀ g cells,σ.2 g=some cells→gen≤g∧∃ b cs T,G.box g=some b∧w.heap[b]? = some (.cells cs T (0,0))∧cs.size=cells.length ∧
    (∀ (i:Nat) (u:Value),cs[i]? = some u→u.oneCell'=true)∧∀ (i:Nat) (u:Value) (a:A),cs[i]? = some u→cells[i]? = some a→aW (aK C G (gen+r) w) u a
  n:∀ g,gen≤g→σ.2 g=none→G.box g=none
  o:∀ g,gen≤g→∀ c,aA bx g≠some c
theorem gm.lE {σ:Sg} {G:Gh} {tmps:Array Value} {w:World} (h:gm C n bx lv gen r σ G tmps w) {f:List (Nat×A)} {bn:List (Nat×List A)} (hf:∀ t a,look f t=some a→σ.1 t=some a) (hb:∀ g c,aA bn g=some c→σ.2 g=some c) :
    aV C n ⟨f,bn++bx,lv,gen+r⟩ G tmps w:=
  { h.s with frame:=fun t a ha=>h.f t a (hf t a ha),box:=fun g c hc=>(jH hc).elim (fun h1=>(h.b g c (hb g c h1)).2) (h.s.box g c) }
theorem gm.wz {f:List (Nat×A)} {G:Gh} {tmps:Array Value} {w:World} (h:aV C n ⟨f,bx,lv,gen⟩ G tmps w):gm C n bx lv gen r (look f,fun _=>none) G tmps w:=by
  have h2:aV C n ⟨f,bx,lv,gen+r⟩ G tmps w:=aV.yP (st:=⟨f,bx,lv,gen⟩) h (Nat.le_add_right _ _)
  refine⟨{ h2 with frame:=fun t a ha=>by simp[look] at ha },h2.frame,(fun g c hc=>nomatch hc),fun g hg _=>?_,fun g hg c hc=>?_⟩
  rotate_left
  · obtain⟨b,_,_,h1,_⟩:=h.box g c hc
    have:=(h.gbox g b h1).1
    simp only at this
    omega
  cases hb:G.box g with
  | none=>rfl
  | some b=>have:=(h.gbox g b hb).1;simp only at this;omega
theorem gm.step {σ:Sg} {G:Gh} {tmps:Array Value} {w w':World} (h:gm C n bx lv gen r σ G tmps w) (hb:Below w.heap.size w w') {dst:Option Nat} (hd:ey n dst=true) {v:Value} {a:A} (hr:aW (aK C G (gen+r) w') v a) :
    gm C n bx lv gen r (bN σ.1 dst a,σ.2) G (Act.put ⟨tmps,[]⟩ dst v).tmps w':=by
  obtain⟨hle,hs⟩:=h.s.gL hb
  have hbx:∀ g cells,σ.2 g=some cells→gen≤g∧∃ b cs T,G.box g=some b∧w'.heap[b]? = some (.cells cs T (0,0))∧cs.size=cells.length ∧
    (∀ (i:Nat) (u:Value),cs[i]? = some u→u.oneCell'=true)∧∀ (i:Nat) (u:Value) (a:A),cs[i]? = some u→cells[i]? = some a→aW (aK C G (gen+r) w') u a:=by
    intro g cells hg
    obtain⟨h0,b,cs,T,h1,h2,h3,h4,h5⟩:=h.b g cells hg
    exact⟨h0,b,cs,T,h1,by rw[hb.block b (h.s.gbox g b h1).2.1];exact h2,h3,h4,fun i u a hu ha=>(h5 i u a hu ha).mono hle⟩
  cases dst with
  | none=>exact⟨hs,fun t a ha=>let ⟨v,h1,h2⟩:=h.f t a ha;⟨v,h1,h2.mono hle⟩,hbx,h.n,h.o⟩
  | some d=>
    refine⟨{ hs with size:=by have:=hs.size;simpa [Act.put] using this,frame:=fun t a ha=>by simp[look] at ha },fun t b hb'=>?_,hbx,h.n,h.o⟩
    simp only[bN] at hb'
    split at hb'
    · rename_i e
      subst e
      simp only[Option.some.injEq] at hb'
      subst hb'
      exact⟨v,by simp[Act.put,Array.getElem?_setIfInBounds,hs.size,cP hd],hr⟩
    · rename_i e
      obtain⟨u,h1,h2⟩:=h.f t b hb'
      exact⟨u,by simp only[Act.put];rw[Array.getElem?_setIfInBounds_ne (Ne.symm e)];exact h1,h2.mono hle⟩
theorem gm.qe {σ:Sg} {G:Gh} {tmps:Array Value} {w:World} (h:gm C n bx lv gen r σ G tmps w) {g:Nat} (hg:gen≤g) (hgr:g < gen+r) (hn:σ.2 g=none) (cs:Array Value) (T:TypeId) (cells:List A) (hrc:cw (aK C G (gen+r) w) cs cells)
    {d:Nat} (hd:d < n):∃ G',gm C n bx lv gen r (bN σ.1 (some d) (.ptr g 0),dV σ.2 (some (g,cells))) G' (tmps.setIfInBounds d (.pointer (some ⟨w.heap.size,0,none⟩))) (w.alloc (.cells cs T)):=by
  obtain⟨hs,h1,hc'⟩:=hrc
  have hgn:=h.n g hg hn
  have hb:Below w.heap.size w (w.alloc (.cells cs T)):=(Below.refl _ w).alloc (Nat.le_refl _) _
  let G':Gh:=⟨fun g'=>if g'=g then some w.heap.size else G.box g',G.own⟩
  have hsz:w.heap.size < (w.alloc (.cells cs T)).heap.size:=by simp
  have hGe:∀ {g' b},G.box g'=some b→G'.box g'=some b:=by
    intro g' b hb'
    simp only[G']
    rw[if_neg (by rintro rfl;rw[hgn] at hb';cases hb')]
    exact hb'
  have hle:(aK C G (gen+r) w).le (aK C G' (gen+r) (w.alloc (.cells cs T))):=by
    refine⟨fun b o u hu hn'=>?_,fun b o u hu ho=>?_,fun g' b hb'=>hGe hb',fun _ _ _ h=>h,Nat.le_refl _,fun g b len cap sz pub _ hr=>hb.block b (by obtain⟨_,_,_,cur,T,h3,_⟩:=h.s.row g b len cap sz pub hr;exact(Array.getElem?_eq_some_iff.1 h3).1),fun g' b _ hr=>?_,.below hb⟩
    · have hlt:=eC hu
      refine⟨by show cellAt (w.alloc _) b o=_;rw[cz (hb.block b hlt)];exact hu,fun hp=>hn' ?_⟩
      rcases hp with hp | ⟨g',hp⟩ | hp
      · exact .inl hp
      · simp only[G'] at hp
        split at hp
        · simp only[Option.some.injEq] at hp
          have:b < w.heap.size:=hlt
          omega
        · exact .inr (.inl ⟨g',hp⟩)
      · exact .inr (.inr hp)
    · have hlt:=eC hu
      exact⟨by show cellAt (w.alloc _) b o=_;rw[cz (hb.block b hlt)];exact hu,ho⟩
    · obtain⟨_,_,_,me,clock,h3⟩:=h.s.mrow g' b hr
      exact hb.block b (Array.getElem?_eq_some_iff.1 h3).1
  have hrow0:∀ g' b len cap sz pub,G.own g'=some (.blk b len cap sz pub)→b < w.heap.size:=fun g' b len cap sz pub hr=>by
    obtain⟨_,_,_,cur,T',h4,_⟩:=h.s.row g' b len cap sz pub hr
    exact(Array.getElem?_eq_some_iff.1 h4).1
  refine⟨G',{ s:={ size:=(by have:=h.s.size;simpa using this),frame:=(fun t a ha=>by simp[look] at ha),xold:=h.s.xold,kold:=h.s.kold,lent:=(fun i b hb=>hGe (h.s.lent i b hb)),fr:=h.s.fr.below hb,live:=h.s.live,gown:=h.s.gown,box:=fun g' c hc=>?_,gbox:=fun g' b hb'=>?_,inj:=fun g1 g2 b hb1 hb2=>?_,row:=fun g' b len cap sz pub hr=>?_,mrow:=fun g' b hr=>?_ },f:=fun t a ha=>?_,b:=fun g' c hc=>?_,n:=fun g' hg' hn'=>?_,o:=h.o }⟩
  · obtain⟨b,cs',T',h1',h2,h3,h4,h5⟩:=h.s.box g' c hc
    exact⟨b,cs',T',hGe h1',by rw[hb.block b (h.s.gbox g' b h1').2.1];exact h2,h3,h4,fun i u a hu ha=>(h5 i u a hu ha).mono hle⟩
  · simp only[G'] at hb'
    split at hb'
    · rename_i e
      subst e
      simp only[Option.some.injEq] at hb'
      subst hb'
      exact⟨hgr,hsz,.inl h.s.fr.size,fun o ho=>absurd (h.s.kold _ o ho) (by have:=h.s.fr.size;omega)⟩
    · obtain⟨h6,h7,h8⟩:=h.s.gbox g' b hb'
      exact⟨h6,by simp;omega,h8⟩
  · simp only[G'] at hb1 hb2
    split at hb1 <;> split at hb2
    · simp_all
    · simp only[Option.some.injEq] at hb1;have:=(h.s.gbox g2 b hb2).2.1;omega
    · simp only[Option.some.injEq] at hb2;have:=(h.s.gbox g1 b hb1).2.1;omega
    · exact h.s.inj g1 g2 b hb1 hb2
  · obtain⟨h1',h2,h3,cur,T',h4,h5⟩:=h.s.row g' b len cap sz pub hr
    refine⟨h1',fun g2 hg2=>?_,h3,cur,T',by rw[hb.block b (hrow0 g' b len cap sz pub hr)];exact h4,h5⟩
    simp only[G'] at hg2
    split at hg2
    · simp only[Option.some.injEq] at hg2;have:=hrow0 g' b len cap sz pub hr;omega
    · exact h2 g2 hg2
  · obtain⟨h1',h2,h3,me,clock,h4⟩:=h.s.mrow g' b hr
    have hlt:=(Array.getElem?_eq_some_iff.1 h4).1
    refine⟨h1',fun g2 hg2=>?_,h3,me,clock,by rw[hb.block b hlt];exact h4⟩
    simp only[G'] at hg2
    split at hg2
    · simp only[Option.some.injEq] at hg2;omega
    · exact h2 g2 hg2
  · simp only[bN] at ha
    split at ha
    · rename_i e
      subst e
      simp only[Option.some.injEq] at ha
      subst ha
      exact⟨_,by have:=h.s.size;simp[Array.getElem?_setIfInBounds,this,hd],.ptr _ g 0 w.heap.size (by simp[aK];omega) (by simp[aK,G']) rfl⟩
    · rename_i e
      obtain⟨u,h6,h7⟩:=h.f t a ha
      exact⟨u,by rw[Array.getElem?_setIfInBounds_ne (Ne.symm e)];exact h6,h7.mono hle⟩
  · simp only[dV] at hc
    split at hc
    · rename_i e
      subst e
      simp only[Option.some.injEq] at hc
      subst hc
      exact⟨hg,w.heap.size,cs,T,by simp[G'],heap_alloc_new w _,hs,h1,fun i u a hu ha=>(hc' i u a hu ha).mono hle⟩
    · obtain⟨h0,b,cs',T',h1',h2,h3,h4,h5⟩:=h.b g' c hc
      exact⟨h0,b,cs',T',hGe h1',by rw[hb.block b (h.s.gbox g' b h1').2.1];exact h2,h3,h4,fun i u a hu ha=>(h5 i u a hu ha).mono hle⟩
  · simp only[dV] at hn'
    split at hn'
    · cases hn'
    · rename_i e
      simp only[G']
      rw[if_neg e]
      exact h.n g' hg' hn'
theorem gm.store {σ:Sg} {G:Gh} {tmps:Array Value} {w:World} (h:gm C n bx lv gen r σ G tmps w) {g b:Nat} {cs cs':Array Value} {T:TypeId} {cells cells':List A} (hb:σ.2 g=some cells) (hg:G.box g=some b) (hw:w.heap[b]? = some (.cells cs T (0,0)))
    (hr:cw (aK C G (gen+r) w) cs' cells'):gm C n bx lv gen r (σ.1,dV σ.2 (some (g,cells'))) G tmps (w.setRow b cs'):=by
  have hgg:=(h.b g cells hb).1
  have hb':w.heap[b]?≠none:=by rw[hw];simp
  have hm:=(h.s.gbox g b hg).2.2
  have hfr:Fr C (w.setRow b cs'):=⟨h.s.fr.os,h.s.fr.tape,h.s.fr.output,by rw[size_setRow];exact h.s.fr.size,fun b' h1 h2=>by
    rw[setRow_other w b b' cs' (fun e=>by subst e;exact hm.1.elim (fun hm=>by omega) h2)];exact h.s.fr.block b' h1 h2,fun b' o u hk hu=>by
    rw[cz (setRow_other w b b' cs' (fun e=>by subst e;exact absurd (hm.2 o hk) (Nat.not_lt_zero _)))];exact h.s.fr.cells b' o u hk hu,h.s.fr.ty.trans (.setRow w b cs')⟩
  have hle:(aK C G (gen+r) w).le (aK C G (gen+r) (w.setRow b cs')):=by
    refine mV (st:=⟨[],bx,lv,gen+r⟩) h.s.fr hfr (fun b' o u hu hn=>⟨?_,hn⟩) (fun _ _ h=>h) (fun _ _ _ h=>h) (Nat.le_refl _) (fun g' b' len cap sz pub _ hr=>?_) (fun g' b' _ hr=>?_) (.setRow w b cs')
    · have:b'≠b:=fun e=>hn (.inr (.inl ⟨g,by rw[e];exact hg⟩))
      rw[cz (setRow_other w b b' cs' this)]
      exact hu
    · have:b'≠b:=fun e=>(h.s.row g' b' len cap sz pub hr).2.1 g (by rw[e];exact hg)
      exact setRow_other w b b' cs' this
    · exact setRow_other w b b' cs' (fun e=>(h.s.mrow g' b' hr).2.1 g (by rw[e];exact hg))
  refine { s:={ size:=h.s.size,frame:=fun t a ha=>by simp[look] at ha,inj:=h.s.inj,xold:=h.s.xold,kold:=h.s.kold,lent:=h.s.lent,fr:=hfr,live:=h.s.live,gown:=h.s.gown,box:=fun g' c hc=>?_,gbox:=fun g' b' hgb=>?_,row:=fun g' b' len cap sz pub hgb=>?_,mrow:=fun g' b' hr=>?_ },f:=fun t a ha=>let ⟨v,h1,h2⟩:=h.f t a ha;⟨v,h1,h2.mono hle⟩,b:=fun g' c hc=>?_,n:=fun g' hg' hn'=>?_,o:=h.o }
  · obtain⟨b',cs2,T',h1,h2,h3,h4,h5⟩:=h.s.box g' c hc
    by_cases e:b'=b
    · subst e
      have e2:=h.s.inj g' g b' h1 hg
      subst e2
      exact absurd hc (h.o g' hgg c)
    · exact⟨b',cs2,T',h1,by rw[setRow_other w b b' cs' e];exact h2,h3,h4,fun i u a hu ha=>(h5 i u a hu ha).mono hle⟩
  · obtain⟨h1,h2,h3⟩:=h.s.gbox g' b' hgb
    exact⟨h1,by rw[size_setRow];exact h2,h3⟩
  · obtain⟨h1,h2,h3,cur,T',h4,h5⟩:=h.s.row g' b' len cap sz pub hgb
    have hne:b'≠b:=fun e=>h2 g (by rw[e];exact hg)
    exact⟨h1,h2,h3,cur,T',by rw[setRow_other w b b' cs' hne];exact h4,h5⟩
  · obtain⟨h1,h2,h3,me,clock,h4⟩:=h.s.mrow g' b' hr
    have hne:b'≠b:=fun e=>h2 g (by rw[e];exact hg)
    exact⟨h1,h2,h3,me,clock,by rw[setRow_other w b b' cs' hne];exact h4⟩
  · simp only[dV] at hc
    split at hc
    · rename_i e
      subst e
      simp only[Option.some.injEq] at hc
      subst hc
      exact⟨hgg,b,cs',T,hg,setRow_heap w b cs cs' T (0,0) hw,hr.1,hr.2.1,fun i u a hu ha=>(hr.2.2 i u a hu ha).mono hle⟩
    · rename_i e
      obtain⟨h0,b',cs2,T',h1,h2,h3,h4,h5⟩:=h.b g' c hc
      have hne:b'≠b:=fun e'=>e (h.s.inj g' g b (e'▸h1) hg)
      exact⟨h0,b',cs2,T',h1,by rw[setRow_other w b b' cs' hne];exact h2,h3,h4,fun i u a hu ha=>(h5 i u a hu ha).mono hle⟩
  · simp only[dV] at hn'
    split at hn'
    · cases hn'
    · exact h.n g' hg' hn'
def YE (P:Program) (T:cB P) (C:Ctx) (n:Nat) (bx:List (Nat×List A)) (lv:List Nat) (gen r:Nat) (ops:Array Oper) (i:Nat) (o:Oper) (a:A) (u:Option (Nat×List A)) (σ:Sg):Prop:=
  ey n o.dst=true ∧
    ((jv o=false∧u=none∧YA P C n bx lv (gen+r) ops o a σ.1) ∨
     (jv o=true∧o.guard=none∧σ.2 (gen+cW ops.toList i)=none∧cW ops.toList i < r∧a=.ptr (gen+cW ops.toList i) 0∧∃ d cells,o.dst=some d∧u=some (gen+cW ops.toList i,cells) ∧
        ((∃ e dt,o.op=.alloc e∧aA T.l e=some dt∧cells=dt.z.map fun v=>A.d (.v v)) ∨
         (∃ e x f y,o.op=.box e x∧(∀ t z,look f t=some z→σ.1 t=some z∧t∈o.looksAt ops)∧av f x=some y∧cellsOf bx y=some cells))) ∨
     (Bd o=true∧o.guard=none∧o.dst=none∧a=.any∧∃ t dx y k ok f z cells cs,o.op=.store t (.tmp dx) y∧ops[k]? = some ok∧jv ok=true∧ok.dst=some dx∧(∀ t z,look f t=some z→σ.1 t=some z∧t∈o.looksAt ops) ∧
        σ.1 dx=some (.ptr (gen+cW ops.toList k) 0)∧av f y=some z∧cellsOf bx z=some cs∧cT T t=cs.length∧cs.length≠0∧cs.length≤cells.length∧σ.2 (gen+cW ops.toList k)=some cells ∧
        u=some (gen+cW ops.toList k,setAt cells 0 cs)))
def nH (ops:Array Oper) (x y:Oper):Prop:=x.apart ops y=true∧∀ d,lf x=some d→lf y≠some d
theorem nQ {dx:Nat} {t:TypeId} {y:Operand} {o:Oper} (h:o.op=.store t (.tmp dx) y):dx∈o.looksAt ops:=by
  unfold Oper.looksAt
  rw[h]
  exact List.mem_append.2 (.inl (by simp[Op.operands]))
section
variable {T}
theorem YE.name {i:Nat} {o:Oper} {a:A} {g:Nat} {c:List A} {σ:Sg} (hi:ops[i]? = some o) (h:YE P T C n bx lv gen r ops i o a (some (g,c)) σ) :
    ∃ k ok dx,ops[k]? = some ok∧jv ok=true∧ok.dst=some dx∧g=gen+cW ops.toList k∧((k=i)∨(lf o=some dx∧dx∈o.looksAt ops)):=by
  rcases h with ⟨_,⟨_,h,_⟩ | ⟨h1,_,_,_,_,d,cells,h2,h3,_⟩ | ⟨h1,_,_,_,t,dx,y,k,ok,f,z,cells,cs,h2,h3,h4,h5,_,_,_,_,_,_,_,_,h6⟩⟩
  · cases h
  · simp only[Option.some.injEq,Prod.mk.injEq] at h3
    exact⟨i,o,d,hi,h1,h2,h3.1,.inl rfl⟩
  · simp only[Option.some.injEq,Prod.mk.injEq] at h6
    exact⟨k,ok,dx,h3,h4,h5,h6.1,.inr ⟨by unfold lf;rw[h2],nQ h2⟩⟩
theorem zA {k k':Nat} {o o':Oper} (hk:ops[k]? = some o) (hk':ops[k']? = some o') (hn:jv o=true) (hn':jv o'=true) (h:cW ops.toList k=cW ops.toList k'):k=k':=by
  rcases Nat.lt_trichotomy k k' with hlt | he | hgt
  · have:=sn (l:=ops.toList) (by simpa using hk) hn hlt;omega
  · exact he
  · have:=sn (l:=ops.toList) (by simpa using hk') hn' hgt;omega
theorem pL {i j:Nat} {oi oj:Oper} {a b:A} {g g':Nat} {c c':List A} {σ σ':Sg} (hi:ops[i]? = some oi) (hj:ops[j]? = some oj) (hij:i≠j) (hap:nH ops oi oj) (h:YE P T C n bx lv gen r ops i oi a (some (g,c)) σ)
    (h':YE P T C n bx lv gen r ops j oj b (some (g',c')) σ'):g≠g':=by
  rintro rfl
  obtain⟨k,ok,dx,h1,h2,h3,h4,h5⟩:=YE.name hi h
  obtain⟨k',ok',dx',h1',h2',h3',h4',h5'⟩:=YE.name hj h'
  have e:k=k':=zA h1 h1' h2 h2' (by omega)
  subst e
  rw[h1] at h1'
  simp only[Option.some.injEq] at h1'
  subst h1'
  rw[h3] at h3'
  simp only[Option.some.injEq] at h3'
  subst h3'
  obtain⟨ha,hs⟩:=hap
  obtain⟨a1,a2,a3⟩:=Oper.apart_spec ha
  rcases h5 with e | ⟨e,hm⟩ <;> rcases h5' with e' | ⟨e',hm'⟩
  · exact hij (e.symm.trans e')
  · subst e
    rw[hi] at h1
    simp only[Option.some.injEq] at h1
    subst h1
    exact a1 dx h3 hm'
  · subst e'
    rw[hj] at h1
    simp only[Option.some.injEq] at h1
    subst h1
    exact a3 dx h3 hm
  · exact hs dx e e'
theorem fI {φ:dB} {o:Oper} {dst:Option Nat} {x:A} (hd:∀ d,dst=some d→d∉o.looksAt ops) {t:Nat} (ht:t∈o.looksAt ops):bN φ dst x t=φ t:=by
  cases dst with
  | none=>rfl
  | some e=>
    have:t≠e:=fun h=>by subst h;exact hd t rfl ht
    simp[bN,this]
theorem Ag {i j:Nat} {oi oj:Oper} {a b:A} {u v:Option (Nat×List A)} {σ σ':Sg} (hi:ops[i]? = some oi) (hj:ops[j]? = some oj) (hij:i≠j) (hap:nH ops oi oj) (h:YE P T C n bx lv gen r ops i oi a u σ) (hj':YE P T C n bx lv gen r ops j oj b v σ') :
    YE P T C n bx lv gen r ops i oi a u (bN σ.1 oj.dst b,dV σ.2 v):=by
  obtain⟨a1,a2,a3⟩:=Oper.apart_spec hap.1
  have hv:∀ {g c},u=some (g,c)→dV σ.2 v g=σ.2 g:=by
    intro g c hu
    cases v with
    | none=>rfl
    | some x=>
      obtain⟨g',c'⟩:=x
      subst hu
      have:=pL hi hj hij hap h hj'
      simp[dV,this]
  obtain⟨h0,h | h | h⟩:=id h
  · exact⟨h0,.inl ⟨h.1,h.2.1,(en a3).2 h.2.2⟩⟩
  · obtain⟨h1,h2,h3,h4,h5,d,cells,h6,h7,h8⟩:=h
    refine⟨h0,.inr (.inl ⟨h1,h2,(hv h7).trans h3,h4,h5,d,cells,h6,h7,h8.imp id ?_⟩)⟩
    rintro⟨e,x,f,y,g1,g2,g3⟩
    exact⟨e,x,f,y,g1,fun t z hz=>⟨(fI a3 (g2 t z hz).2).trans (g2 t z hz).1,(g2 t z hz).2⟩,g3⟩
  · obtain⟨h1,h2,h3,h4,t,dx,y,k,ok,f,z,cells,cs,g1,g2,g3,g4,g5,g6,g7,g8,g9,g10,g11,g12,g13⟩:=h
    exact⟨h0,.inr (.inr ⟨h1,h2,h3,h4,t,dx,y,k,ok,f,z,cells,cs,g1,g2,g3,g4,fun t z hz=>⟨(fI a3 (g5 t z hz).2).trans (g5 t z hz).1,(g5 t z hz).2⟩,
      (fI a3 (nQ g1)).trans g6,g7,g8,g9,g10,g11,(hv g13).trans g12,g13⟩)⟩
theorem zQ {i j:Nat} {oi oj:Oper} {a b:A} {u v:Option (Nat×List A)} {σ σ':Sg} (hi:ops[i]? = some oi) (hj:ops[j]? = some oj) (hij:i≠j) (hap:nH ops oi oj) (hi':YE P T C n bx lv gen r ops i oi a u σ')
    (h:YE P T C n bx lv gen r ops j oj b v (bN σ.1 oi.dst a,dV σ.2 u)):YE P T C n bx lv gen r ops j oj b v σ:=by
  obtain⟨a1,a2,a3⟩:=Oper.apart_spec hap.1
  have hv:∀ {g c},v=some (g,c)→dV σ.2 u g=σ.2 g:=by
    intro g c hu
    cases u with
    | none=>rfl
    | some x=>
      obtain⟨g',c'⟩:=x
      subst hu
      have:=pL hi hj hij hap hi' h
      simp[dV,Ne.symm this]
  obtain⟨h0,h | h | h⟩:=id h
  · exact⟨h0,.inl ⟨h.1,h.2.1,(en a1).1 h.2.2⟩⟩
  · obtain⟨h1,h2,h3,h4,h5,d,cells,h6,h7,h8⟩:=h
    refine⟨h0,.inr (.inl ⟨h1,h2,(hv h7).symm.trans h3,h4,h5,d,cells,h6,h7,h8.imp id ?_⟩)⟩
    rintro⟨e,x,f,y,g1,g2,g3⟩
    exact⟨e,x,f,y,g1,fun t z hz=>⟨(fI a1 (g2 t z hz).2).symm.trans (g2 t z hz).1,(g2 t z hz).2⟩,g3⟩
  · obtain⟨h1,h2,h3,h4,t,dx,y,k,ok,f,z,cells,cs,g1,g2,g3,g4,g5,g6,g7,g8,g9,g10,g11,g12,g13⟩:=h
    exact⟨h0,.inr (.inr ⟨h1,h2,h3,h4,t,dx,y,k,ok,f,z,cells,cs,g1,g2,g3,g4,fun t z hz=>⟨(fI a1 (g5 t z hz).2).symm.trans (g5 t z hz).1,(g5 t z hz).2⟩,
      (fI a1 (nQ g1)).symm.trans g6,g7,g8,g9,g10,g11,(hv g13).symm.trans g12,g13⟩)⟩
theorem wU {β:Bt} {u v:Option (Nat×List A)} (h:∀ g c g' c',u=some (g,c)→v=some (g',c')→g≠g'):dV (dV β u) v=dV (dV β v) u:=by
  cases u with
  | none=>rfl
  | some x=>
    cases v with
    | none=>rfl
    | some y=>
      obtain⟨g,c⟩:=x
      obtain⟨g',c'⟩:=y
      have:=h g c g' c' rfl rfl
      funext t
      simp only[dV]
      split <;> split <;> simp_all
end
def qE (P:Program) (T:cB P) (C:Ctx) (n:Nat) (bx:List (Nat×List A)) (lv:List Nat) (gen r:Nat) (ops:Array Oper) (i:Nat) (K:Sg→Prop) (σ:Sg):Prop:=
  match ops[i]? with
  | none=>K σ
  | some o=>∃ a u,YE P T C n bx lv gen r ops i o a u σ∧K (bN σ.1 o.dst a,dV σ.2 u)
theorem zm {i:Nat} {σ:Sg} {K K':Sg→Prop} (h:∀ σ,K σ→K' σ) (hh:qE P T C n bx lv gen r ops i K σ):qE P T C n bx lv gen r ops i K' σ:=by
  unfold qE at *
  split
  · exact h _ (by simpa [*] using hh)
  · rename_i o ho
    simp only[ho] at hh
    obtain⟨a,u,h1,h2⟩:=hh
    exact⟨a,u,h1,h _ h2⟩
theorem Ar {i j:Nat} {oi oj:Oper} {a:A} {u:Option (Nat×List A)} (hi:ops[i]? = some oi) (hj:ops[j]? = some oj) (hij:i≠j) (hap:nH ops oi oj) {K:Sg→Prop} {σ:Sg} (hy:YE P T C n bx lv gen r ops i oi a u σ)
    (h:qE P T C n bx lv gen r ops j K (bN σ.1 oi.dst a,dV σ.2 u)):qE P T C n bx lv gen r ops j (fun σ'=>YE P T C n bx lv gen r ops i oi a u σ'∧K (bN σ'.1 oi.dst a,dV σ'.2 u)) σ:=by
  obtain⟨a1,a2,a3⟩:=Oper.apart_spec hap.1
  unfold qE at *
  simp only[hj] at h ⊢
  obtain⟨b,v,hb,hk⟩:=h
  have hb':=zQ hi hj hij hap hy hb
  refine⟨b,v,hb',Ag hi hj hij hap hy hb',?_⟩
  have e1:=lN σ.1 a b a2
  have e2:dV (dV σ.2 u) v=dV (dV σ.2 v) u:=wU (fun g c g' c' hu hv=>by subst hu;subst hv;exact pL hi hj hij hap hy hb')
  rw[←e1,←e2]
  exact hk
def Split (m:Nat) (ops:Array Oper) (listed:Array Bool):Prop:=listed.size=ops.size∧(∀ j,j < m→listed.getD j false=true)∧∀ j,m≤j→j < ops.size→listed.getD j true=false
def xD (P:Program) (T:cB P) (C:Ctx) (n:Nat) (bx:List (Nat×List A)) (lv:List Nat) (gen r m:Nat) (md:Region.Mode) (ops:Array Oper) (Q:Sg→Prop):Nat→Array Bool→Sg→Prop
  | 0,listed,σ=>Split m ops listed∧Q σ
  | fuel+1,listed,σ=>Region.ready md ops listed≠[]∧∀ i∈Region.ready md ops listed,qE P T C n bx lv gen r ops i (xD P T C n bx lv gen r m md ops Q fuel (listed.setIfInBounds i true)) σ
def cb (md:Region.Mode) (ops:Array Oper) (j i:Nat):Bool:=
  match ops[j]? with
  | some o=>o.after.toList.any fun e=>Nat.beq e.on i && Region.binds md e
  | none=>false
theorem kZ {j i:Nat} {oj:Oper} (hj:ops[j]? = some oj) (h:cb md ops j i=true):∃ e∈oj.after,Region.binds md e=true∧e.on=i:=by
  unfold cb at h
  rw[hj] at h
  obtain⟨e,he,hb⟩:=List.any_eq_true.1 h
  simp only[Bool.and_eq_true] at hb
  exact⟨e,by simpa using he,hb.2,Nat.eq_of_beq_eq_true hb.1⟩
theorem eu {listed:Array Bool} {i:Nat} (h:listed.getD i true=false):listed.getD i false=false:=by
  rcases Nat.lt_or_ge i listed.size with h' | h'
  · simp[h'] at h ⊢;exact h
  · simp[Array.getElem?_eq_none h'] at h
def p9 (md:Region.Mode) (ops:Array Oper) (m:Nat):Bool:=(List.range ops.size).all fun j=>decide (j < m) || (List.range j).all fun i=>cb md ops j i
def wh:List Nat→Bool
  | []=>true
  | a::r=>!(r.any (Nat.beq a)) && wh r
def jb (l:List Oper):Bool:=wh (l.filterMap lf)
theorem waits {j:Nat} (h:p9 md ops m=true) (hm:m≤j) {i:Nat} (hij:i < j) {listed:Array Bool} (hj:j∈Region.ready md ops listed):listed.getD i false=true:=by
  obtain⟨_,oj,hoj,hall⟩:=mem_ready.1 hj
  have hlt:j < ops.size:=(Array.getElem?_eq_some_iff.1 hoj).1
  have h1:=List.all_eq_true.1 h j (by simpa using hlt)
  simp only[Bool.or_eq_true,decide_eq_true_eq] at h1
  have h2:=List.all_eq_true.1 (h1.resolve_left (by omega)) i (by simpa using hij)
  obtain⟨e,he,hb,heq⟩:=kZ hoj h2
  rw[←heq]
  exact hall e he hb
theorem rh:∀ {l:List Oper} (_:jb l=true) {i j:Nat} {oi oj:Oper} (_:l[i]? = some oi) (_:l[j]? = some oj) (_:i < j) {d:Nat} (_:lf oi=some d),lf oj≠some d
  | [],_,i,j,oi,oj,h,_,_,_,_=>by simp at h
  | z::l,h,0,j+1,oi,oj,hi,hj,_,d,hd=>by
    simp at hi
    subst hi
    intro he
    simp only[jb,List.filterMap_cons,hd,wh,Bool.and_eq_true,Bool.not_eq_true'] at h
    have h1:(l.filterMap lf).any (Nat.beq d)=true:=List.any_eq_true.2 ⟨d,List.mem_filterMap.2 ⟨oj,List.mem_of_getElem? (by simpa using hj),he⟩,Nat.beq_refl d⟩
    rw[h1] at h
    cases h.1
  | z::l,h,i+1,j+1,oi,oj,hi,hj,hij,d,hd=>by
    refine rh (l:=l) ?_ (i:=i) (j:=j) (by simpa using hi) (by simpa using hj) (by omega) hd
    simp only[jb,List.filterMap_cons] at h ⊢
    cases hz:lf z with
    | none=>simpa only[hz] using h
    | some e=>
      simp only[hz,wh,Bool.and_eq_true] at h
      exact h.2
  | z::l,_,i,0,oi,oj,_,_,hij,_,_=>by omega
theorem xU {l:List Oper} (h:jb l=true) {i j:Nat} {oi oj:Oper} (hi:l[i]? = some oi) (hj:l[j]? = some oj) (hij:i≠j) (d:Nat) (hd:lf oi=some d):lf oj≠some d:=by
  rcases Nat.lt_or_ge i j with hlt | hge
  · exact rh h hi hj hlt hd
  · exact fun he=>rh h hj hi (by omega) he hd
theorem xm {Q:Sg→Prop} {i:Nat} {oi:Oper} {a:A} {u:Option (Nat×List A)} (hone:jb (ops.toList.take m)=true) (hw:p9 md ops m=true) (him:i < m) (hi:ops[i]? = some oi) :
    ∀ (fuel:Nat) (listed:Array Bool) (σ:Sg),
      (∀ j oj,ops[j]? = some oj→j≠i→listed.getD j true=false→(∀ e∈oj.after,Region.binds md e=true→e.on≠i)→oi.apart ops oj=true) →
      i∈Region.ready md ops listed→YE P T C n bx lv gen r ops i oi a u σ →
      xD P T C n bx lv gen r m md ops Q fuel (listed.setIfInBounds i true) (bN σ.1 oi.dst a,dV σ.2 u)→xD P T C n bx lv gen r m md ops Q (fuel+1) listed σ:=by
  have take:∀ {K:Sg→Prop} {σ:Sg},YE P T C n bx lv gen r ops i oi a u σ→K (bN σ.1 oi.dst a,dV σ.2 u)→qE P T C n bx lv gen r ops i K σ:=by
    intro K σ hy hk
    unfold qE
    simp only[hi]
    exact⟨a,u,hy,hk⟩
  have unl:∀ {listed:Array Bool},i∈Region.ready md ops listed→listed.getD i false=false:=by
    intro listed hr
    exact eu (mem_ready.1 hr).1
  intro fuel
  induction fuel with
  | zero=>
    intro listed σ _ hr hy H
    refine⟨fun h=>(by rw[h] at hr;cases hr),fun j hj=>?_⟩
    by_cases hji:j=i
    · subst hji;exact take hy H
    · exfalso
      obtain⟨⟨_,h1,h2⟩,_⟩:=H
      have hj1:=(mem_ready.1 hj).1
      by_cases hjm:j < m
      · have:=h1 j hjm
        rw[getD_set_ne false (Ne.symm hji)] at this
        rw[eu hj1] at this
        cases this
      · have:=waits hw (by omega) (show i < j by omega) hj
        rw[unl hr] at this
        cases this
  | succ fuel ih=>
    intro listed σ hfree hr hy H
    refine⟨fun h=>(by rw[h] at hr;cases hr),fun j hj=>?_⟩
    by_cases hji:j=i
    · subst hji;exact take hy H
    · have h1:=H.2 j (ready_mono hj hji)
      obtain⟨hjun,oj,hoj,hall⟩:=mem_ready.1 hj
      have hnot:∀ e∈oj.after,Region.binds md e=true→e.on≠i:=fun e he hb heq=>by
        have h1:=hall e he hb
        rw[heq,unl hr] at h1
        cases h1
      have hjm:j < m:=by
        rcases Nat.lt_or_ge j m with h | h
        · exact h
        · have:=waits hw h (show i < j by omega) hj
          rw[unl hr] at this
          cases this
      have hap:nH ops oi oj:=by
        refine⟨hfree j oj hoj hji hjun hnot,xU (i:=i) (j:=j) hone ?_ ?_ (Ne.symm hji)⟩
        · rw[List.getElem?_take,if_pos him];simpa using hi
        · rw[List.getElem?_take,if_pos hjm];simpa using hoj
      have h2:=Ar T hi hoj (Ne.symm hji) hap hy h1
      have hfree':∀ k ok,ops[k]? = some ok→k≠i→(listed.setIfInBounds j true).getD k true=false →
          (∀ e∈ok.after,Region.binds md e=true→e.on≠i)→oi.apart ops ok=true:=fun k ok hk hki hun hno=>by
        refine hfree k ok hk hki ?_ hno
        by_cases hjk:j=k
        · subst hjk;exact hjun
        · rw[getD_set_ne true hjk] at hun;exact hun
      refine zm T (fun σ' h3=>ih (listed.setIfInBounds j true) σ' hfree' (ready_mono hr (Ne.symm hji)) h3.1 ?_) h2
      rw[Array.setIfInBounds_comm _ _ hji]
      exact h3.2
def zI (P:Program) (T:cB P) (C:Ctx) (n:Nat) (bx:List (Nat×List A)) (lv:List Nat) (gen r:Nat) (ops:Array Oper) (Q:Sg→Prop):List Oper→Nat→Sg→Prop
  | [],_,σ=>Q σ
  | o::rest,i,σ=>∃ a u,YE P T C n bx lv gen r ops i o a u σ∧zI P T C n bx lv gen r ops Q rest (i+1) (bN σ.1 o.dst a,dV σ.2 u)
def mG (md:Region.Mode) (ops:Array Oper):Nat→Nat→Array Bool→Bool
  | 0,_,_=>true
  | t+1,k,listed=>(Region.ready md ops listed).contains k && Region.free md ops listed k && mG md ops t (k+1) (listed.setIfInBounds k true)
theorem uL {Q:Sg→Prop} (hone:jb (ops.toList.take m)=true) (hw:p9 md ops m=true):∀ (l:List Oper) (k:Nat) (listed:Array Bool) (σ:Sg),k+l.length=m→(∀ j,j < l.length→l[j]? = ops[k+j]?) →
    listed.size=ops.size→(∀ j,j < k→listed.getD j false=true)→(∀ j,k≤j→j < ops.size→listed.getD j true=false) →
    mG md ops l.length k listed=true→zI P T C n bx lv gen r ops Q l k σ→xD P T C n bx lv gen r m md ops Q l.length listed σ
  | [],k,listed,σ,hk,_,hs,h1,h2,_,h=>⟨⟨hs,fun j hj=>h1 j (by simp at hk;omega),fun j hj hj'=>h2 j (by simp at hk;omega) hj'⟩,h⟩
  | o::l,k,listed,σ,hk,hl,hs,h1,h2,hB,h=>by
    have h0:ops[k]? = some o:=by simpa using (hl 0 (by simp)).symm
    have hks:k < ops.size:=(Array.getElem?_eq_some_iff.1 h0).1
    simp only[List.length_cons,mG,Bool.and_eq_true] at hB
    obtain⟨⟨hr,hf⟩,hB'⟩:=hB
    obtain⟨a,u,hy,hK⟩:=h
    have hkm:k < m:=by simp at hk;omega
    refine xm T hone hw hkm h0 l.length listed σ (Region.free_spec h0 hf) (by simpa using hr) hy
      (uL hone hw l (k+1) _ _ (by simp at hk;omega) (fun j hj=>by have:=hl (j+1) (by simpa using hj);simpa [Nat.add_assoc,Nat.add_comm 1 j] using this) (by simpa using hs) (fun j hj=>?_) (fun j hj hj'=>?_) hB' hK)
    · rcases Nat.lt_succ_iff_lt_or_eq.1 hj with hlt | rfl
      · exact getD_set_true (h1 j hlt)
      · simp[hs,hks]
    · rw[getD_set_ne true (by omega)]
      exact h2 j (by omega) hj'
theorem wk {i:Nat} {σ:Sg} {K:Sg→Prop} {K':Act→World→Prop} {Q':Exit→Act→World→Prop} {G:Gh} {tmps:Array Value} {w:World} (hs:gm C n bx lv gen r σ G tmps w)
    (h:∀ σ G tmps w,gm C n bx lv gen r σ G tmps w→K σ→K' ⟨tmps,C.ds⟩ w) (hh:qE P T C n bx lv gen r ops i K σ):wpOp P ops Q' i K' ⟨tmps,C.ds⟩ w:=by
  unfold qE at hh
  unfold wpOp
  split
  · rename_i ho;simp only[ho] at hh;exact h _ _ _ _ hs hh
  · rename_i o ho
    simp only[ho] at hh
    obtain⟨a,u,⟨hd,hy⟩,hk⟩:=hh
    have hsF:et C n bx lv (gen+r) σ.1 G tmps w:=⟨hs.s,hs.f⟩
    rcases hy with ⟨_,rfl,_,hy⟩ | ⟨_,hgd,hnone,hr,rfl,d,cells,hdst,rfl,hy⟩ | ⟨_,hgd,hdst,rfl,t,dx,y,k,ok,f,z,cells,cs,hop,hok,hon,hod,hf,hx,hav,hcs,hsz,hz,hle,hcell,rfl⟩
    · rcases hy with ⟨hw,f,hf,hp⟩ | ⟨hw,rfl⟩
      · rw[fX hsF hw]
        simp only[if_true]
        refine .inl ?_
        have hg:da P o ⟨tmps,[]⟩ w fun v w'=>Below w.heap.size w w'∧aW (aK C G (gen+r) w') v a:=hp G tmps w (hsF.lE fun t x hx=>(hf t x hx).1)
        refine hg.ds.wp fun v w' ⟨hb,hr⟩=>?_
        rw[Act.gu]
        exact h _ _ _ _ (hs.step hb hd hr) hk
      · rw[fX hsF hw]
        simp only[Bool.false_eq_true,if_false]
        rw[Act.gu]
        exact h _ _ _ _ (hs.step (Below.refl _ _) hd (.tup #[] [] rfl (by simp))) hk
    · have hwt:Region.wanted o (yielded ops tmps)=true:=by simp[Region.wanted,hgd]
      rw[hwt]
      simp only[if_true]
      refine .inl ?_
      rw[hdst] at hk
      have hdl:d < n:=cP hd d hdst
      rcases hy with ⟨e,dt,hop,he,rfl⟩ | ⟨e,x,f,y,hop,hf,hav,hc⟩
      · obtain⟨i',zz,hi,_,_,hzz,hzc,hzl,hzk,_⟩:=T.info he
        have hall:∀ (i:Nat) (u:Value),zz.cells[i]? = some u→dq u=true:=fun i u hu=>by
          have:u∈dt.z:=by rw[←hzc,List.mem_iff_getElem?];exact⟨i,by simpa using hu⟩
          exact List.all_eq_true.1 hzk u this
        obtain⟨G',hs'⟩:=hs.qe (Nat.le_add_right _ _) (by omega) hnone zz.cells e (dt.z.map fun v=>.d (.v v)) ⟨by rw[List.length_map,←hzc];simp,fun i u hu=>kR (hall i u hu),fun i u a hu ha=>by
          simp only[List.getElem?_map,Option.map_eq_some_iff] at ha
          obtain⟨y,hy,rfl⟩:=ha
          rw[←hzc] at hy
          have:y=u:=by simp at hy;rw[hu] at hy;exact(Option.some.inj hy).symm
          subst this
          exact .d (.v _ (hall i y hu))⟩ hdl
        refine(cL (v:=.pointer (some ⟨w.heap.size,0,none⟩)) (w':=w.alloc (.cells zz.cells e)) (R:=fun v w'=>v=.pointer (some ⟨w.heap.size,0,none⟩)∧w'=w.alloc (.cells zz.cells e)) ?_ ⟨rfl,rfl⟩:da P o ⟨tmps,[]⟩ w _).ds.wp ?_
        · unfold execOp
          rw[hop]
          show Sem.run P _ w=_
          simp only[Instr.alloc,zeroValue,typeInfo,hi,hzz,newVar,newRow,Sem.run_bind,run_program,run_newObj,Result.andThen_ok,Sem.run_pure]
          rfl
        · rintro v w' ⟨rfl,rfl⟩
          rw[hdst]
          exact h _ G' _ _ hs' hk
      · have hcr:=iJ (hsF.lE fun t x hx=>(hf t x hx).1) hc (aV.av (hsF.lE fun t x hx=>(hf t x hx).1) hav)
        obtain⟨G',hs'⟩:=hs.qe (Nat.le_add_right _ _) (by omega) hnone (Act.eval ⟨tmps,[]⟩ x).cells e cells hcr hdl
        refine(cL (v:=.pointer (some ⟨w.heap.size,0,none⟩)) (w':=w.alloc (.cells (Act.eval ⟨tmps,[]⟩ x).cells e)) (R:=fun v w'=>v=.pointer (some ⟨w.heap.size,0,none⟩)∧w'=w.alloc (.cells (Act.eval ⟨tmps,[]⟩ x).cells e)) ?_ ⟨rfl,rfl⟩:da P o ⟨tmps,[]⟩ w _).ds.wp ?_
        · unfold execOp
          rw[hop]
          show Sem.run P _ w=_
          simp only[Instr.box,newVar,newRow,Sem.run_bind,run_newObj,Result.andThen_ok,Sem.run_pure]
          rfl
        · rintro v w' ⟨rfl,rfl⟩
          rw[hdst]
          exact h _ G' _ _ hs' hk
    · have hwt:Region.wanted o (yielded ops tmps)=true:=by simp[Region.wanted,hgd]
      rw[hwt]
      simp only[if_true]
      refine .inl ?_
      rw[hdst] at hk
      obtain⟨_,b,cur,T',h1,h2,h3,h4,h5⟩:=hs.b _ cells hcell
      obtain⟨v,hv1,hv2⟩:=hs.f dx _ hx
      have hv:Act.eval ⟨tmps,[]⟩ (.tmp dx)=.pointer (some ⟨b,0,none⟩):=by
        have e:Act.eval ⟨tmps,[]⟩ (.tmp dx)=v:=by simp[Act.eval,hv1]
        rw[e]
        cases hv2 with
        | ptr _ _ _ b0 _ hb0 hx0=>exact nM hb0 hx0 b h1
      have hG:=hsF.lE (f:=f) fun t x hx=>(hf t x hx).1
      have hrc:=iJ hG hcs (aV.av hG hav)
      have hst:=run_storeCells_at P b 0 T' (Act.eval ⟨tmps,[]⟩ y).cells.toList 0 cur w h2 (by have:=hrc.1;simp at this ⊢;omega) (fun v hv=>by
        obtain⟨i,hi⟩:=List.mem_iff_getElem?.1 hv
        exact hrc.2.1 i v (by simpa using hi))
      obtain⟨dt,hdt,hdn⟩:∃ d,aA T.l t=some d∧d.n=cs.length:=by
        unfold cT at hsz
        split at hsz
        · rename_i d hdt;exact⟨d,hdt,hsz⟩
        · exact absurd hsz.symm hz
      have hs':=hs.store hcell h1 h2 (cw.setAt (off:=0) ⟨h3,h4,h5⟩ hrc (by omega))
      refine(ng (R:=fun v w'=>v=undef∧w'=w.setRow b (cur.toList.take 0++(Act.eval ⟨tmps,[]⟩ y).cells.toList++cur.toList.drop (0+(Act.eval ⟨tmps,[]⟩ y).cells.toList.length)).toArray) ?_ ⟨rfl,rfl⟩:da P o ⟨tmps,[]⟩ w _).ds.wp ?_
      · unfold execOp
        rw[hop]
        show Sem.run P _ w=_
        simp only[hv,Instr.storeAt,Instr.sureAddr,storeVar,Sem.run_bind,Sem.run_pure,Result.andThen_ok,T.sizeOf hdt]
        rw[if_neg (by rw[hdn];simp;exact hrc.1)]
        simp only[Nat.add_zero] at hst
        simp only[hst,Result.andThen_ok]
      · rintro v w' ⟨rfl,rfl⟩
        rw[hdst]
        exact h _ G _ _ hs' hk
theorem re {Q:Sg→Prop} {Q':Exit→Act→World→Prop} {t:Nat} (hQ:∀ listed σ G tmps w,gm C n bx lv gen r σ G tmps w→Split m ops listed→Q σ→wpAny P md ops Q' t listed ⟨tmps,C.ds⟩ w) :
    ∀ (fuel:Nat) (listed:Array Bool) (σ:Sg) (G:Gh) (tmps:Array Value) (w:World),gm C n bx lv gen r σ G tmps w→xD P T C n bx lv gen r m md ops Q fuel listed σ→wpAny P md ops Q' (fuel+t) listed ⟨tmps,C.ds⟩ w
  | 0,_,_,_,_,_,hs,h=>by rw[Nat.zero_add];exact hQ _ _ _ _ _ hs h.1 h.2
  | fuel+1,_,_,_,_,_,hs,h=>by
    rw[Nat.add_right_comm]
    exact⟨fun h0=>absurd h0 h.1,fun i hi=>wk T hs (fun σ G tmps w hs'=>re hQ fuel _ σ G tmps w hs') (h.2 i hi)⟩
theorem qG {Q':Exit→Act→World→Prop} (hw:p9 md ops m=true) (hrd:∀ k,m≤k→∀ o,ops[k]? = some o→∀ e∈o.after,Region.binds md e=true→e.on < k) :
    ∀ (l:List Oper) (k:Nat) (listed:Array Bool) (act:Act) (w:World),m≤k→k+l.length=ops.size→(∀ j,l[j]? = ops[k+j]?)→listed.size=ops.size→(∀ j,j < k→listed.getD j false=true)→(∀ j,k≤j→j < ops.size→listed.getD j true=false) →
      iA P ops Q' l act w→wpAny P md ops Q' l.length listed act w
  | [],k,listed,act,w,hm,hk,_,hs,h1,h2,h=>by
    refine⟨?_,h⟩
    refine List.eq_nil_iff_forall_not_mem.2 fun j hj=>?_
    obtain⟨h3,oj,hoj,_⟩:=mem_ready.1 hj
    have hlt:=(Array.getElem?_eq_some_iff.1 hoj).1
    have:=h1 j (by simp at hk;omega)
    rw[eu h3] at this
    cases this
  | o::l,k,listed,act,w,hm,hk,hl,hs,h1,h2,h=>by
    have h0:ops[k]? = some o:=by simpa using (hl 0).symm
    have hks:k < ops.size:=(Array.getElem?_eq_some_iff.1 h0).1
    have hready:k∈Region.ready md ops listed:=mem_ready.2 ⟨h2 k (Nat.le_refl _) hks,o,h0,fun e he hb=>h1 _ (hrd k hm o h0 e he hb)⟩
    refine⟨fun hn=>(by rw[hn] at hready;cases hready),fun i hi=>?_⟩
    have hik:i=k:=by
      obtain⟨h3,oi,hoi,_⟩:=mem_ready.1 hi
      rcases Nat.lt_trichotomy i k with hlt | he | hgt
      · have:=h1 i hlt;rw[eu h3] at this;cases this
      · exact he
      · have:=waits hw (by omega) hgt hi
        rw[eu (h2 k (Nat.le_refl _) hks)] at this
        cases this
    subst hik
    have ih:=fun act w=>qG (Q':=Q') hw hrd l (i+1) (listed.setIfInBounds i true) act w (by omega) (by simp at hk;omega) (fun j=>by have:=hl (j+1);simpa [Nat.add_assoc,Nat.add_comm 1 j] using this) (by simpa using hs)
      (fun j hj=>by
        rcases Nat.lt_succ_iff_lt_or_eq.1 hj with hlt | rfl
        · exact getD_set_true (h1 j hlt)
        · simp[hs,hks]) (fun j hj hj'=>by rw[getD_set_ne true (by omega)];exact h2 j (by omega) hj')
    simp only[iA] at h
    unfold wpOp
    simp only[h0]
    split
    · rename_i hw'
      rw[if_pos hw'] at h
      exact .inl (Oper.wp_mono ih h)
    · rename_i hw'
      rw[if_neg hw'] at h
      exact ih _ _ h
def vB (md:Region.Mode) (ops:Array Oper) (m:Nat):Bool:=(List.range ops.size).all fun k=>decide (k < m) || match ops[k]? with | some o=>o.after.toList.all fun e=>!Region.binds md e || decide (e.on < k) | none=>true
theorem nj (h:vB md ops m=true):∀ k,m≤k→∀ o,ops[k]? = some o→∀ e∈o.after,Region.binds md e=true→e.on < k:=by
  intro k hm o ho e he hb
  have hlt:=(Array.getElem?_eq_some_iff.1 ho).1
  have h1:=List.all_eq_true.1 h k (by simpa using hlt)
  simp only[Bool.or_eq_true,decide_eq_true_eq] at h1
  have h2:=h1.resolve_left (by omega)
  rw[ho] at h2
  have h3:=List.all_eq_true.1 h2 e (by simpa using he)
  simp only[Bool.or_eq_true,Bool.not_eq_true',decide_eq_true_eq] at h3
  rcases h3 with h3 | h3
  · rw[hb] at h3;cases h3
  · exact h3
def CE (P:Program) (T:cB P) (C:Ctx) (n:Nat) (bx:List (Nat×List A)) (lv:List Nat) (gen r:Nat) (ops:Array Oper) (Q:St→Prop) (l:List Oper) (i:Nat) (f:List (Nat×A)) (bn:List (Nat×List A)):Prop:=
  zI P T C n bx lv gen r ops (fun σ=>∃ f' bn',(∀ t,look f' t=σ.1 t)∧(∀ g,aA bn' g=σ.2 g)∧Q ⟨f',bn'++bx,lv,gen+r⟩) l i (look f,aA bn)
def sd (m r:Nat) (ops:Array Oper):Bool:=
  Nat.ble m ops.size && jb (ops.toList.take m) && p9 .any ops m && vB .any ops m && mG .any ops m 0 (Array.replicate ops.size false) && Nat.beq (cW ops.toList m) r
theorem W.jV {id:Nat} {l l1 l2:List Oper} {f:List (Nat×A)} {Q:Exit→St→Prop} (m r:Nat) (hB:sd m r l.toArray=true) (h1:l.take m=l1) (h2:l.drop m=l2)
    (h:CE P T C n bx lv gen r l.toArray (WO P C n l.toArray Q l2) l1 0 f []):W P C n (.region id l.toArray true) Q ⟨f,bx,lv,gen⟩:=by
  subst h1;subst h2
  intro tmps w ⟨G,hs⟩
  simp only[sd,Bool.and_eq_true] at hB
  obtain⟨⟨⟨⟨⟨hm,hone⟩,hw⟩,hfore⟩,hlex⟩,hr⟩:=hB
  have hm:m≤l.length:=by simpa using Nat.le_of_ble_eq_true hm
  have hb:Below w.heap.size w { w with drawn:=w.drawn+1 }:=(Below.refl _ w).drew
  have hs':gm C n bx lv gen r (look f,fun _=>none) G tmps { w with drawn:=w.drawn+1 }:=gm.wz (hs.gL hb).2
  have hlen:(l.take m).length=m:=by simp;omega
  refine wp_region_any T.mixed ?_
  have hsz:l.toArray.size=(l.take m).length+(l.drop m).length:=by simp;omega
  rw[hsz]
  refine re T (m:=m) (Q:=fun σ=>∃ f' bn',(∀ t,look f' t=σ.1 t)∧(∀ g,aA bn' g=σ.2 g)∧WO P C n l.toArray Q (l.drop m) ⟨f',bn'++bx,lv,gen+r⟩) (fun listed σ G tmps w hs hsp ⟨f',bn',e1,e2,hq⟩=>?_) _ _ _ G _ _ hs' ?_
  · refine qG hw (nj hfore) (l.drop m) m listed ⟨tmps,C.ds⟩ w (Nat.le_refl _) (by simp;omega) (fun j=>by simp[List.getElem?_drop]) hsp.1 hsp.2.1 hsp.2.2 ?_
    exact hq tmps w ⟨G,hs.lE (fun t a ha=>by rw[←e1];exact ha) (fun g c hc=>by rw[←e2];exact hc)⟩
  · refine uL T hone hw (l.take m) 0 _ _ (by rw[hlen];omega) (fun j hj=>?_) (by simp;omega) (fun j hj=>by omega) (fun j _ hj=>?_) (by rw[hlen];rw[hsz,hlen] at hlex;exact hlex) h
    · rw[hlen] at hj
      rw[Nat.zero_add]
      simp[List.getElem?_take,hj]
    · have hj':j < l.length:=by simpa using hj
      have e:min m l.length+(l.length - m)=l.length:=by omega
      simp[e,hj']
variable {T}
variable {op:Op} {ty:TypeId} {pos:String} {af:Array Edge} {a:A} {d i:Nat} {rest:List Oper} {f:List (Nat×A)} {bn:List (Nat×List A)} {Q:St→Prop}
theorem CE.nil (h:Q ⟨f,bn++bx,lv,gen+r⟩):CE P T C n bx lv gen r ops Q [] i f bn:=⟨f,bn,fun _=>rfl,fun _=>rfl,h⟩
theorem bE (hn:jv ⟨some d,op,ty,pos,af,none⟩=false) (hp:Pu P C n ⟨cN f (slotsOf op),bx,lv,gen+r⟩ ⟨some d,op,ty,pos,af,none⟩ a) (hd:Nat.blt d n=true) (h:CE P T C n bx lv gen r ops Q rest (i+1) ((d,a)::f) bn) :
    CE P T C n bx lv gen r ops Q (⟨some d,op,ty,pos,af,none⟩::rest) i f bn:=by
  unfold CE at *
  rw[e5] at h
  refine⟨a,none,⟨hd,.inl ⟨hn,rfl,hd,.inl ⟨rfl,_,fun t x hx=>?_,hp⟩⟩⟩,h⟩
  obtain⟨h1,h2⟩:=ez hx
  exact⟨h1,List.mem_append.2 (.inl h2)⟩
theorem sj {g:Nat} {c:List A}:aA ((g,c)::bn)=dV (aA bn) (some (g,c)):=by
  funext t
  rw[bP]
  simp only[dV]
  split <;> split <;> simp_all
theorem gE {e:TypeId} {dt:cc} {l:List A} (c:Nat) (hg:Nat.beq (cW ops.toList i) c=true) (hr:Nat.blt c r=true) (hno:aA bn (gen+c)=none) (he:aA T.l e=some dt) (hl:(dt.z.map fun v=>A.d (.v v))=l) (hd:Nat.blt d n=true)
    (h:CE P T C n bx lv gen r ops Q rest (i+1) ((d,.ptr (gen+c) 0)::f) ((gen+c,l)::bn)):CE P T C n bx lv gen r ops Q (⟨some d,.alloc e,ty,pos,af,none⟩::rest) i f bn:=by
  unfold CE at *
  rw[e5,sj] at h
  have hg:=Nat.eq_of_beq_eq_true hg
  subst hg;subst hl
  exact⟨_,_,⟨hd,.inr (.inl ⟨rfl,rfl,hno,Nat.le_of_ble_eq_true hr,rfl,d,_,rfl,rfl,.inl ⟨e,dt,rfl,he,rfl⟩⟩)⟩,h⟩
theorem oV {t:TypeId} {y:Operand} {dx:Nat} {ok:Oper} {z:A} {cells cs cells':List A} (k c:Nat) (hx:look f dx=some (.ptr (gen+c) 0)) (hk:ops[k]? = some ok) (hkn:jv ok=true) (hkd:ok.dst=some dx) (hkg:Nat.beq (cW ops.toList k) c=true)
    (hb:aA bn (gen+c)=some cells) (hav:av (cN f (slotsOf (.store t (.tmp dx) y))) y=some z) (hc:cellsOf bx z=some cs) (hsz:cT T t=cs.length) (hz:Nat.blt 0 cs.length=true) (hle:Nat.ble cs.length cells.length=true) (hs:setAt cells 0 cs=cells')
    (h:CE P T C n bx lv gen r ops Q rest (i+1) f ((gen+c,cells')::bn)):CE P T C n bx lv gen r ops Q (⟨none,.store t (.tmp dx) y,ty,pos,af,none⟩::rest) i f bn:=by
  unfold CE at *
  rw[sj] at h
  have hkg:=Nat.eq_of_beq_eq_true hkg
  subst hs;subst hkg
  have hz:=Nat.le_of_ble_eq_true hz
  refine⟨.any,_,⟨rfl,.inr (.inr ⟨rfl,rfl,rfl,rfl,t,dx,y,k,ok,_,z,cells,cs,rfl,hk,hkn,hkd,fun t' z' hz'=>?_,hx,hav,hc,hsz,by omega,Nat.le_of_ble_eq_true hle,hb,rfl⟩)⟩,h⟩
  obtain⟨h1,h2⟩:=ez hz'
  exact⟨h1,List.mem_append.2 (.inl h2)⟩
end
end Go.Ab
namespace Go.Ab
open Go.RowKit
section
variable {P:Program} (T:cB P) {C:Ctx} {n:Nat} {ops:Array Oper} {Q:Exit→St→Prop} {rest:List Oper} {c:Code}
variable {f:List (Nat×A)} {bx:List (Nat×List A)} {lv:List Nat} {gen d:Nat} {ty:TypeId} {pos:String} {af:Array Edge} {a:A} {dst:Option Nat}
theorem mA {t e t':Nat} {x:Operand} {td:cc} {es:List (List D)} (hx:av f x=some a) (hes:gI a=some es) (ht:aA T.l t=some td) (hk:td.k=.slice e) (hd:Nat.blt d n=true)
    (h:∀ b,(b=true→es=[])→WO P C n ops Q rest ⟨(d,.d (.v (.bool b)))::f,bx,lv,gen⟩) :
    WO P C n ops Q (⟨some d,.binOp .eql t x (.const (.slice none 0 0)) t',ty,pos,af,none⟩::rest) ⟨f,bx,lv,gen⟩:=by
  refine WO.step rfl fun tmps' w' ⟨G',hs'⟩=>?_
  have hr':=gl hes (hs'.av hx)
  generalize hv':Act.eval ⟨tmps',[]⟩ x=v' at hr'
  have key':∃ ad l cp,v'=.slice ad l cp∧(ad.isNone=true→es=[]):=by
    cases hr' with
    | nil=>exact⟨none,0,0,rfl,fun _=>rfl⟩
    | emp ad cp _=>exact⟨some ad,0,cp,rfl,fun h=>by cases h⟩
    | sl b off len cap sz _ u _ _ _ _ _ _=>exact⟨some ⟨b,off,none⟩,len,cap,rfl,fun h=>by cases h⟩
  obtain⟨ad',l',cp',rfl,hn'⟩:=key'
  refine cL (v:=.bool ad'.isNone) (w':=w') ?_ ⟨⟨(d,.d (.v (.bool ad'.isNone)))::f,bx,lv,gen⟩,⟨G',hs'.set (cP (dst:=some d) hd d rfl) (.d (.v _ rfl))⟩,h _ hn'⟩
  unfold execOp
  show Sem.run P _ w'=_
  have he:Act.eval ⟨tmps',[]⟩ (.const (.slice none 0 0))=.slice none 0 0:=rfl
  have hq:=run_equal_slice_nil (P:=P) w' t e ad' l' cp' (T.dZ ht hk)
  simp only[hv',he,eqGuard,binOp,Sem.run_bind,Sem.run_pure,Result.andThen_ok]
  simp only[Bool.not_true,Bool.false_eq_true,if_false,Sem.run_pure,Result.andThen_ok]
  rw[hq]
  rfl
theorem Aw {t t':Nat} {x y:Operand} {k:IntKind} {p q:Int} (hx:av f x=some (.d (.v (.int k p)))) (hy:av f y=some (.d (.v (.int k q)))) (hq:q≠0) (ho:dq (.int k (p.tmod q))=true) :
    Pu P C n ⟨f,bx,lv,gen⟩ ⟨dst,.binOp .rem t x y t',ty,pos,af,none⟩ (.d (.v (.int k (p.tmod q)))):=by
  refine dU.pu fun G tmps w hs=>?_
  have hrx:=hs.av hx
  have hry:=hs.av hy
  generalize hvx:Act.eval ⟨tmps,[]⟩ x=vx at hrx
  generalize hvy:Act.eval ⟨tmps,[]⟩ y=vy at hry
  cases hrx with | d hrx=>cases hrx with | v _ _=>
  cases hry with | d hry=>cases hry with | v _ _=>
  refine⟨_,?_,.d (.v _ ho)⟩
  unfold execOp
  show Sem.run P _ w=_
  simp[hvx,hvy,eqGuard,binOp,Op.intDiv,hq]
  rfl
theorem yS {t:Nat} (hl:look f t=some (.d (.v (.slice none 0 0)))) (h:W P C n c Q ⟨(t,.d (.sl []))::f,bx,lv,gen⟩):W P C n c Q ⟨f,bx,lv,gen⟩:=by
  intro tmps w ⟨G,hs⟩
  refine h tmps w ⟨G,{ hs with frame:=fun s b hb=>?_ }⟩
  simp only[bl] at hb
  split at hb
  · rename_i e
    subst e
    simp only[Option.some.injEq] at hb
    subst hb
    obtain⟨v,hv,hr⟩:=hs.frame _ _ hl
    cases hr with | d hr=>cases hr;exact⟨_,hv,.d .nil⟩
  · exact hs.frame s b hb
end
end Go.Ab
namespace Go.Tb
open Go.Ab
abbrev ci (n:Int):D:=.v (.int .i64 n)
abbrev cs (s:ByteArray):D:=.v (.string s)
structure aH where
  kind:Int
  n:Int
  s:ByteArray
  deriving DecidableEq
@[reducible] def aH.c (x:aH):List D:=[ci x.kind,ci x.n,cs x.s]
structure Col where
  name:ByteArray
  type:Int
  deriving DecidableEq
@[reducible] def Col.c (x:Col):List D:=[cs x.name,ci x.type]
inductive Ex where
  | mk (op:Int) (name:ByteArray) (v:aH) (kids:List Ex)
def Ex.op:Ex→Int | .mk a _ _ _=>a
def Ex.name:Ex→ByteArray | .mk _ a _ _=>a
def Ex.v:Ex→aH | .mk _ _ a _=>a
def Ex.kids:Ex→List Ex | .mk _ _ _ a=>a
mutual
def Ex.kc:Ex→List (List D)
  | .mk _ _ _ kids=>Ex.yN kids
def Ex.yN:List Ex→List (List D)
  | []=>[]
  | e::r=>[ci e.op,cs e.name,ci e.v.kind,ci e.v.n,cs e.v.s,.sl (Ex.kc e)]::Ex.yN r
end
@[reducible] def Ex.c (e:Ex):List D:=[ci e.op,cs e.name,ci e.v.kind,ci e.v.n,cs e.v.s,.sl e.kc]
theorem Ex.xB:∀ l,Ex.yN l=l.map Ex.c
  | []=>rfl
  | e::r=>by simp[Ex.yN,Ex.xB r]
theorem Ex.yR (e:Ex):e.kc=e.kids.map Ex.c:=by cases e;simp[Ex.kc,Ex.kids,Ex.xB]
theorem Ex.aF (e:Ex):e.kc.length=e.kids.length:=by simp[Ex.yR]
theorem Ex.ld {e:Ex} {i:Nat} {k:Ex} (h:e.kids[i]? = some k):e.kc[i]? = some k.c:=by rw[Ex.yR];exact aE h
theorem Ex.ind {p:Ex→Prop} (h:∀ e,(∀ k∈e.kids,p k)→p e):∀ e,p e:=by
  intro e
  induction hn:_root_.SizeOf.sizeOf e using Nat.strongRecOn generalizing e with
  | _ m ih=>
    subst hn
    refine h e fun k hk=>ih (_root_.SizeOf.sizeOf k) ?_ k rfl
    cases e with
    | mk op name v kids=>
      have:=List.sizeOf_lt_of_mem (show k∈kids from hk)
      simp;omega
structure kE where
  e:Ex
  name:ByteArray
@[reducible] def kE.c (x:kE):List D:=[ci x.e.op,cs x.e.name,ci x.e.v.kind,ci x.e.v.n,cs x.e.v.s,.sl x.e.kc,cs x.name]
structure sB where
  fn:ByteArray
  col:ByteArray
  name:ByteArray
@[reducible] def sB.c (x:sB):List D:=[cs x.fn,cs x.col,cs x.name]
structure ly where
  col:ByteArray
  desc:Bool
@[reducible] def ly.c (x:ly):List D:=[cs x.col,.v (.bool x.desc)]
@[reducible] def sc (s:ByteArray):List D:=[cs s]
structure dK where
  op:Int
  cond:Ex
  items:List kE
  cols:List ByteArray
  aggs:List sB
  sorts:List ly
  n:Int
  table:ByteArray
@[reducible] def dK.c (x:dK):List D:=[ci x.op,ci x.cond.op,cs x.cond.name,ci x.cond.v.kind,ci x.cond.v.n,cs x.cond.v.s,.sl x.cond.kc,
  .sl (x.items.map kE.c),.sl (x.cols.map sc),.sl (x.aggs.map sB.c),.sl (x.sorts.map ly.c),ci x.n,cs x.table]
structure bo where
  cols:List Col
  rows:List (List aH)
@[reducible] def rc (r:List aH):List D:=[.sl (r.map aH.c)]
@[reducible] def bo.c (x:bo):List D:=[.sl (x.cols.map Col.c),.sl (x.rows.map rc)]
structure iH where
  name:ByteArray
  table:bo
@[reducible] def iH.c (x:iH):List D:=[cs x.name,.sl (x.table.cols.map Col.c),.sl (x.table.rows.map rc)]
structure A3 where
  from_:ByteArray
  steps:List dK
@[reducible] def A3.c (x:A3):List D:=[cs x.from_,.sl (x.steps.map dK.c)]
@[reducible] def ic (k:Int):List D:=[ci k]
/- ### typed data out of a reading -/
section
variable {P:Program} {T:cB P}
theorem sk {α:Type} {f:α→List D} {t:Nat}:∀ {es:List (List D)},(∀ x∈es,cE T t x)→(∀ x,x∈es→cE T t x→∃ a,x=f a)→∃ l:List α,es=l.map f
  | [],_,_=>⟨[],rfl⟩
  | x::r,h,hf=>by
    obtain⟨a,ha⟩:=hf x (by simp) (h x (by simp))
    obtain⟨l,hl⟩:=sk (fun y hy=>h y (by simp[hy])) (fun y hy=>hf y (by simp[hy])) (es:=r)
    exact⟨a::l,by rw[ha,hl];rfl⟩
theorem sP {t a b:Nat} {oa ob:Nat} {na nb:String} {l:List D} (h:cE T t l) (hk:bY T t=.st [(oa,a,na),(ob,b,nb)]):∃ p q,l=p++q∧cE T a p∧cE T b q:=by
  obtain⟨ps,rfl,hl,hc⟩:=h.zY hk
  match ps,hl with
  | [p,q],_=>exact⟨p,q,by simp,hc 0 _ _ _ p rfl rfl,hc 1 _ _ _ q rfl rfl⟩
theorem xT {t a b c:Nat} {oa ob oc:Nat} {na nb nc:String} {l:List D} (h:cE T t l) (hk:bY T t=.st [(oa,a,na),(ob,b,nb),(oc,c,nc)]):∃ p q r,l=p++(q++r)∧cE T a p∧cE T b q∧cE T c r:=by
  obtain⟨ps,rfl,hl,hc⟩:=h.zY hk
  match ps,hl with
  | [p,q,r],_=>exact⟨p,q,r,by simp,hc 0 _ _ _ p rfl rfl,hc 1 _ _ _ q rfl rfl,hc 2 _ _ _ r rfl rfl⟩
variable {tv tk ti ts tc tcs te teo tes:Nat} {o1 o2 o3 o4 o5 o6 o7 o8:Nat} {n1 n2 n3 n4 n5 n6 n7 n8:String} {l:List D}
theorem pI (h:cE T ti l) (hk:bY T ti=.int .i64):∃ n,l=[ci n]:=let ⟨n,h,_⟩:=h.toInt hk;⟨n,h⟩
theorem pW (h:cE T ts l) (hk:bY T ts=.str):∃ n,l=[cs n]:=let ⟨n,h,_⟩:=h.toStr hk;⟨n,h⟩
theorem yv (h:cE T tv l) (hv:bY T tv=.st [(o1,tk,n1),(o2,ti,n2),(o3,ts,n3)]) (hk:bY T tk=.int .i64) (hi:bY T ti=.int .i64) (hs:bY T ts=.str):∃ x:aH,l=x.c:=by
  obtain⟨p,q,r,rfl,h1,h2,h3⟩:=xT h hv
  obtain⟨a,rfl⟩:=pI h1 hk
  obtain⟨b,rfl⟩:=pI h2 hi
  obtain⟨c,rfl⟩:=pW h3 hs
  exact⟨⟨a,b,c⟩,rfl⟩
theorem x6 (h:cE T tc l) (hv:bY T tc=.st [(o1,ts,n1),(o2,tk,n2)]) (hs:bY T ts=.str) (hk:bY T tk=.int .i64):∃ x:Col,l=x.c:=by
  obtain⟨p,q,rfl,h1,h2⟩:=sP h hv
  obtain⟨a,rfl⟩:=pW h1 hs
  obtain⟨b,rfl⟩:=pI h2 hk
  exact⟨⟨a,b⟩,rfl⟩
theorem o9 {α:Type} {f:α→List D} {t e:Nat} (h:cE T t l) (hk:bY T t=.slice e) (hf:∀ x,cE T e x→∃ a,x=f a):∃ r:List α,l=[.sl (r.map f)]:=by
  obtain⟨es,rfl,h1,_⟩:=h.toSlice hk
  obtain⟨r,rfl⟩:=sk h1 (fun x _ hx=>hf x hx)
  exact⟨r,rfl⟩
end
end Go.Tb
namespace Go.Tb
open Go.Ab
def Still (caps:List A):Prop:=(∀ bx k,caps.map (conv bx (k+2))=caps)∧eP caps=true
def idx (o:Option Nat):Int:=match o with | some i=>i | none=>-1
theorem cF {α:Type} {l:List α} {p:α→Bool}:decide (0≤idx (l.findIdx? p))=l.any p:=by
  cases h:l.findIdx? p with
  | none=>
    have:=List.findIdx?_eq_none_iff.1 h
    simp only[idx]
    rw[Bool.eq_iff_iff]
    simp only[decide_eq_true_eq,List.any_eq_true]
    constructor
    · intro h;exact absurd h (by decide)
    · rintro⟨x,hx,hp⟩;rw[this x hx] at hp;cases hp
  | some i=>
    obtain⟨hi,hp,_⟩:=List.findIdx?_eq_some_iff_getElem.1 h
    simp only[idx]
    rw[Bool.eq_iff_iff]
    simp only[decide_eq_true_eq,List.any_eq_true]
    exact⟨fun _=>⟨_,List.getElem_mem hi,hp⟩,fun _=>decide_eq_true (Int.natCast_nonneg i)⟩
def bm {α:Type} (p:α→Bool) (l:List α) (k:Nat):Prop:=∀ j x,j < k→l[j]? = some x→p x=false
theorem bm.zero {α:Type} {p:α→Bool} {l:List α}:bm p l 0:=fun _ _ h=>by omega
theorem bm.step {α:Type} {p:α→Bool} {l:List α} {k:Nat} {x:α} (h:bm p l k) (hx:l[k]? = some x) (hp:p x=false):bm p l (k+1):=by
  intro j y hj hy
  rcases Nat.lt_succ_iff_lt_or_eq.1 hj with hlt | rfl
  · exact h j y hlt hy
  · rw[hx] at hy;simp only[Option.some.injEq] at hy;subst hy;exact hp
theorem bm.found {α:Type} {p:α→Bool} {l:List α} {k:Nat} {x:α} (h:bm p l k) (hx:l[k]? = some x) (hp:p x=true):l.findIdx? p=some k:=by
  rw[List.findIdx?_eq_some_iff_getElem]
  obtain⟨hk',hx'⟩:=List.getElem?_eq_some_iff.1 hx
  refine⟨hk',by rw[hx'];exact hp,fun j hj=>?_⟩
  rw[h j (l[j]) hj (by simp)]
  simp
theorem bm.end_ {α:Type} {p:α→Bool} {l:List α} {k:Nat} (h:bm p l k) (hk:k=l.length):l.findIdx? p=none:=by
  rw[List.findIdx?_eq_none_iff]
  intro x hx
  obtain⟨j,hj⟩:=List.mem_iff_getElem?.1 hx
  exact h j x (by rw[hk];exact(List.getElem?_eq_some_iff.1 hj).1) hj
def fits (k w:Int):Bool:=decide (k=w) || decide (k=0)
def mj (n:Int):Bool:=decide (-1000000000000000≤n) && decide (n≤1000000000000000)
abbrev B (l:Array UInt8):ByteArray:=⟨l⟩
def dT:ByteArray:=B #[109,105,110]
def dS:ByteArray:=B #[109,97,120]
def dR:ByteArray:=B #[104,97,115]
def bX:ByteArray:=B #[115,116,97,114,116,115]
def de:ByteArray:=B #[97,98,115]
def dg:ByteArray:=B #[108,101,110]
def words:List ByteArray:=[B #[97,110,100],B #[111,114],B #[110,111,116],B #[110,117,108,108],B #[116,114,117,101],B #[102,97,108,115,101]]
def arity (s:ByteArray):Int:=if s=dT∨s=dS∨s=dR∨s=bX then 2 else if s=de∨s=dg then 1 else 0
def bt (op:Int):Int:=if op=1∨op=2 then 0 else if op=3∨op=4 then 1 else if op=16 then -1 else 2
def bO (k:Int) (v:aH):Int:=
  if v.kind≠0∧(v.kind≠k∨k < 1∨3 < k) then 14
  else if (v.kind=1∧(v.n < 0∨1 < v.n))∨(v.kind=2∧mj v.n=false) then 2
  else if v.kind=3∧200 < v.s.size then 7
  else if (v.kind≠3∧v.s≠B #[])∨((v.kind=0∨v.kind=3)∧v.n≠0) then 1
  else 0
def lower (b:UInt8):Bool:=decide (97≤b.toNat) && decide (b.toNat≤122)
def gT (b:UInt8):Bool:=lower b || (decide (48≤b.toNat) && decide (b.toNat≤57)) || decide (b.toNat=95)
def ck (s:ByteArray):List UInt8:=s.data.toList
def cC (s:ByteArray):Bool:=!decide (s=B #[]) && decide (s.size≤40) && lower ((ck s).headD 0) && (ck s).all gT && !(words.any fun w=>decide (s=w))
def iw (b:UInt8):Bool:=decide (b.toNat < 32) || decide (126 < b.toNat) || decide (b.toNat=34)
def gg (v:aH):Int:=if bO v.kind v≠0 then bO v.kind v else if (ck v.s).any iw then 10 else 0
def marks:List UInt8:=[95,46,58,47,60,62,36,42,126,45]
def fm (b:UInt8):Bool:=lower b || (decide (65≤b.toNat) && decide (b.toNat≤90)) || (decide (48≤b.toNat) && decide (b.toNat≤57)) || marks.any fun c=>decide (c=b)
def c7 (s:ByteArray):Int:=if s=B #[]∨40 < s.size∨(ck s).all fm=false then 3 else 0
end Go.Tb
namespace Go.Tb
open Go.Ab
theorem iU {s:ByteArray} (h:dq (.string s)=true):(ck s).length≤maxLen:=by simpa [dq,ck] using h
theorem aL (s:ByteArray):(ck s).length=s.size:=by simp[ck]
theorem nx (c:UInt8):∀ l:List UInt8,(0≤Lib.indexByte l c)↔c∈l
  | []=>by simp[Lib.indexByte]
  | b::l=>by
    have ih:=nx c l
    have h1:=Lib.indexByte_ge l c
    simp only[Lib.indexByte,List.mem_cons]
    grind
theorem sG (l:List UInt8) (c:UInt8):decide (0≤Lib.indexByte l c)=l.any fun x=>decide (x=c):=by
  rw[Bool.eq_iff_iff]
  simp[nx]
theorem nu (c:UInt8):∀ l:List UInt8,Lib.indexByte l c≤l.length
  | []=>by simp[Lib.indexByte]
  | b::l=>by
    have ih:=nu c l
    simp only[Lib.indexByte,List.length_cons]
    grind
theorem tg {s:ByteArray} (h:dq (.string s)=true) (c:UInt8):dq (.int .i64 (Lib.indexByte (ck s) c))=true:=by
  have h1:=Lib.indexByte_ge (ck s) c
  have h2:=nu c (ck s)
  have h3:=iU h
  have h4:maxLen=9223372036854775807:=rfl
  simp only[dq,Bool.and_eq_true,decide_eq_true_eq]
  refine⟨?_,?_⟩
  · show -9223372036854775808≤_;omega
  · show _≤9223372036854775807;omega
theorem r9 {s:ByteArray} (h:s≠B #[]):s[((0:Int)).toNat]? = some ((ck s).headD 0):=by
  refine dO (k:=0) ?_
  have:ck s≠[]:=by
    intro hb
    apply h
    have:s.data=#[]:=by simpa [ck] using hb
    cases s;simp_all[B]
  show(ck s)[0]? = _
  cases hb:ck s with
  | nil=>exact absurd hb this
  | cons b l=>rfl
theorem iN {s:ByteArray}:s=B #[]↔ck s=[]:=by
  constructor
  · rintro rfl;rfl
  · intro hb
    have:s.data=#[]:=by simpa [ck] using hb
    cases s;simp_all[B]
end Go.Tb
namespace Go.Tb
open Go.Ab
theorem zj {l:List UInt8} {k:Nat} {b:UInt8} (h:l[k]? = some b):k=0→l.headD 0=b:=by
  rintro rfl;cases l <;> simp_all
theorem wZ {α:Type} {l:List α} {p:α→Bool} {k:Nat} {x:α} (h:l[k]? = some x) (hp:p x=true):l.any p=true:=List.any_eq_true.2 ⟨x,List.mem_of_getElem? h,hp⟩
theorem uq {α:Type} {l:List α} {p:α→Bool} (h:l.findIdx? p=none):l.any p=false:=by
  rw[←cF,h];rfl
section
variable {P:Program} {C:Ctx} {n:Nat} {Q:Exit→St→Prop} {c:Code} {f:List (Nat×A)} {bx:List (Nat×List A)} {lv:List Nat} {gen:Nat}
theorem AO {g j:Nat} {cells:List A} {v:Value} (hb:aA bx g=some cells) (hv:cells[j]? = some (.d (.v v))) (h:dq v=true→W P C n c Q ⟨f,bx,lv,gen⟩):W P C n c Q ⟨f,bx,lv,gen⟩:=by
  intro tmps w ⟨G,hs⟩
  obtain⟨b,cs,T,h1,h2,h3,h4,h5⟩:=hs.box g cells hb
  have hj:j < cs.size:=by rw[h3];exact(List.getElem?_eq_some_iff.1 hv).1
  have:=h5 j cs[j] _ (by simp[hj]) hv
  generalize cs[j]=u at this
  cases this with | d hd=>cases hd with | v _ hok=>exact h hok tmps w ⟨G,hs⟩
end
end Go.Tb
namespace Go.Tb
open Go.Ab
theorem nA {α:Type} {l:List α} {k:Nat} (h:k < l.length):∃ x,l[k]? = some x∧l.drop k=x::l.drop (k+1):=⟨l[k],by simp[h],List.drop_eq_getElem_cons h⟩
theorem dropEnd {α:Type} {l:List α} {k:Nat} (h:l.length≤k):l.drop k=[]:=List.drop_eq_nil_of_le h
theorem bH {P:Program} {C:Ctx} {n:Nat} {st:St} {o:Oper} {k:IntKind} {x y:Int} (h:Pu P C n st o (.d (.v (.int k x)))) (e:x=y):Pu P C n st o (.d (.v (.int k y))):=e▸h
end Go.Tb
namespace Go.Tb
open Go.Ab
section
variable {P:Program} {C:Ctx} {n:Nat} {Q:Exit→St→Prop} {c:Code} {f:List (Nat×A)} {bx:List (Nat×List A)} {lv:List Nat} {gen:Nat}
theorem gy {g j:Nat} {cells:List A} {es:List (List D)} (hb:aA bx g=some cells) (hv:cells[j]? = some (.d (.sl es))) (h:es.length≤maxLen→W P C n c Q ⟨f,bx,lv,gen⟩):W P C n c Q ⟨f,bx,lv,gen⟩:=by
  intro tmps w ⟨G,hs⟩
  obtain⟨b,cs,T,h1,h2,h3,h4,h5⟩:=hs.box g cells hb
  have hj:j < cs.size:=by rw[h3];exact(List.getElem?_eq_some_iff.1 hv).1
  have:=h5 j cs[j] _ (by simp[hj]) hv
  generalize cs[j]=u at this
  cases this with | d hd=>exact h hd.len.choose_spec.choose_spec.2 tmps w ⟨G,hs⟩
end
end Go.Tb
namespace Go.Tb
open Go.Ab
theorem Ex.oW (op:Int) (name:ByteArray) (v:aH) (kids:List Ex):(Ex.mk op name v kids).kids=kids:=rfl
mutual
def iz:Ex→Int→Int×Int
  | .mk _ _ _ kids,n=>((gH kids (n+1) 0).1,(gH kids (n+1) 0).2+1)
def gH:List Ex→Int→Int→Int×Int
  | [],n,d=>(n,d)
  | k::r,n,d=>if 200 < n then (n,d) else gH r (iz k n).1 (if d < (iz k n).2 then (iz k n).2 else d)
end
theorem wC (e:Ex) (n:Int):iz e n=((gH e.kids (n+1) 0).1,(gH e.kids (n+1) 0).2+1):=by cases e;simp[iz,Ex.oW]
mutual
def count:Ex→Int→Int
  | .mk _ _ _ kids,most=>fE kids most 1
def fE:List Ex→Int→Int→Int
  | [],_,n=>n
  | k::r,most,n=>if n≤most then fE r most (n+count k (most - n)) else n
end
theorem count_eq (e:Ex) (m:Int):count e m=fE e.kids m 1:=by cases e;simp[count,Ex.oW]
mutual
def kV:Ex→Int
  | .mk _ _ _ kids=>jE kids 0+1
def jE:List Ex→Int→Int
  | [],d=>d
  | k::r,d=>jE r (if d < kV k then kV k else d)
end
theorem zV (e:Ex):kV e=jE e.kids 0+1:=by cases e;simp[kV,Ex.oW]
mutual
def jg:Ex→Int
  | .mk _ _ _ kids=>e6 kids+1
def e6:List Ex→Int
  | []=>0
  | k::r=>jg k+e6 r
end
theorem AI (e:Ex):jg e=e6 e.kids+1:=by cases e;simp[jg,Ex.oW]
mutual
theorem oT:∀ e:Ex,1≤jg e
  | .mk _ _ _ kids=>by have:=jY kids;simp only[jg];omega
theorem jY:∀ l:List Ex,0≤e6 l
  | []=>by simp[e6]
  | k::r=>by have:=oT k;have:=jY r;simp only[e6];omega
end
mutual
theorem w9:∀ e:Ex,1≤kV e∧kV e≤jg e
  | .mk _ _ _ kids=>by have:=rL kids 0 (by omega);simp only[kV,jg];omega
theorem rL:∀ (l:List Ex) (d:Int),0≤d→d≤jE l d∧jE l d≤d+e6 l
  | [],d,h=>by simp[jE,e6]
  | k::r,d,h=>by
    have h1:=w9 k
    have h2:=jY r
    simp only[jE,e6]
    split
    · have:=rL r (kV k) (by omega);omega
    · have:=rL r d h;omega
end
mutual
theorem pQ:∀ (e:Ex) (n:Int),0≤n→n≤200→n < (iz e n).1∧(iz e n).1≤201∧1≤(iz e n).2∧(iz e n).2≤(iz e n).1 - n ∧
    (n+jg e≤200→iz e n=(n+jg e,kV e))∧(200 < n+jg e→200 < (iz e n).1)
  | .mk op name v kids,n,h0,h1=>by
    have:=sm kids (n+1) 0 (by omega) (by omega) (by omega)
    simp only[iz,jg,kV]
    refine⟨by omega,by omega,by omega,by omega,fun h=>?_,fun h=>?_⟩
    · have:=this.2.2.2.2.1 (by omega)
      rw[this];simp;omega
    · have:=this.2.2.2.2.2 (by omega)
      omega
theorem sm:∀ (l:List Ex) (n d:Int),0≤n→n≤201→0≤d→n≤(gH l n d).1∧(gH l n d).1≤201∧d≤(gH l n d).2∧(gH l n d).2≤d+((gH l n d).1 - n) ∧
    (n+e6 l≤200→gH l n d=(n+e6 l,jE l d))∧(200 < n+e6 l→200 < (gH l n d).1)
  | [],n,d,h0,h1,h2=>by simp only[gH,e6,jE];refine⟨by omega,by omega,by omega,by omega,fun h=>by simp,fun h=>by omega⟩
  | k::r,n,d,h0,h1,h2=>by
    simp only[gH]
    have c1:=oT k
    have c2:=jY r
    split
    · simp only[e6];refine⟨by omega,by omega,by omega,by omega,fun h=>by omega,fun h=>by omega⟩
    · rename_i hn
      obtain⟨a1,a2,a3,a4,a5,a6⟩:=pQ k n h0 (by omega)
      generalize hd':(if d < (iz k n).2 then (iz k n).2 else d)=d'
      have hd1:d≤d'∧d'≤d+((iz k n).1 - n)∧0≤d':=by rw[←hd'];split <;> omega
      obtain⟨b1,b2,b3,b4,b5,b6⟩:=sm r (iz k n).1 d' (by omega) (by omega) (by omega)
      simp only[e6,jE]
      refine⟨by omega,by omega,by omega,by omega,fun h=>?_,fun h=>?_⟩
      · have e:=a5 (by omega)
        rw[e] at b5 hd' ⊢
        simp only at b5 hd' ⊢
        rw[b5 (by omega),←hd']
        simp;omega
      · by_cases hk:n+jg k≤200
        · have e:=a5 hk
          rw[e] at b6 ⊢
          exact b6 (by simp only;omega)
        · have:=a6 (by omega)
          omega
end
mutual
theorem mU:∀ (e:Ex) (m:Int),0≤m→1≤count e m∧count e m≤m+1∧(jg e≤m→count e m=jg e)∧(m < jg e→m < count e m)
  | .mk _ _ _ kids,m,h=>by
    have:=pc kids m 1 (by omega) (by omega)
    simp only[count,jg]
    omega
theorem pc:∀ (l:List Ex) (m n:Int),0≤n→n≤m+1→n≤fE l m n∧fE l m n≤m+1∧(n+e6 l≤m→fE l m n=n+e6 l)∧(m < n+e6 l→m < fE l m n)
  | [],m,n,h0,h1=>by simp only[fE,e6];omega
  | k::r,m,n,h0,h1=>by
    simp only[fE,e6]
    have c1:=oT k
    have c2:=jY r
    split
    · have a:=mU k (m - n) (by omega)
      have b:=pc r m (n+count k (m - n)) (by omega) (by omega)
      omega
    · omega
end
mutual
def deep:Ex→Int→Int→Int
  | .mk op name v kids,level,left=>if level < 1∨left - 1 < 0∨300 < name.size∨300 < v.s.size then -1 else yL kids level (left - 1)
def yL:List Ex→Int→Int→Int
  | [],_,left=>left
  | k::r,level,left=>if deep k (level - 1) left < 0 then -1 else yL r level (deep k (level - 1) left)
end
def small (e:Ex):Bool:=decide (0≤deep e 40 300)
def zeroV (v:aH):Bool:=decide (v.kind=0) && (decide (v.n=0) && (decide (v.s=B #[]) && true))
def ba (e:Ex):Int:=
  if e.op < 1∨16 < e.op then 1
  else if (e.op≠2∧e.op≠16∧e.name≠B #[])∨(e.op≠1∧zeroV e.v=false)∨(0≤bt e.op∧(e.kids.length:Int)≠bt e.op) then 1
  else if e.op=1 then gg e.v
  else if e.op=2 then if cC e.name then 0 else 3
  else if e.op=16 then
    if cC e.name=false then 3 else if arity e.name=0 then 5 else if (e.kids.length:Int)≠arity e.name then 1 else 0
  else 0
mutual
def cJ:Ex→Int
  | .mk op name v kids=>if ba (.mk op name v kids)≠0 then ba (.mk op name v kids) else eg kids
def eg:List Ex→Int
  | []=>0
  | k::r=>if cJ k≠0 then cJ k else eg r
end
theorem kg (e:Ex):cJ e=if ba e≠0 then ba e else eg e.kids:=by cases e;simp[cJ,Ex.kids]
def dh (e:Ex):Int:=if 200 < jg e then 7 else if 16 < kV e then 20 else cJ e
end Go.Tb
namespace Go.Tb
open Go.Ab
def both (a b w:Int):Bool:=fits a w && fits b w
def cY (ok:Bool) (k:Int):Int×Int:=(if ok then k else 0,if ok then 0 else 14)
def eH (name:ByteArray) (a b:Int):Int×Bool:=
  if name=de then (2,fits a 2) else if name=dg then (2,fits a 3)
  else if name=dR∨name=bX then (1,both a b 3) else (if a < b then b else a,both a b 2 || both a b 3)
def eo (op:Int) (name:ByteArray) (a b:Int):Int×Bool:=
  if op=3 then (1,fits a 1) else if op=14∨op=15 then (1,both a b 1) else if op=4 then (2,fits a 2)
  else if op=10∨op=11 then (1,fits a b || fits b a) else if op=12∨op=13 then (1,both a b 2 || both a b 3)
  else if op=16 then eH name a b else (2,both a b 2)
def aY (cols:List Col) (name:ByteArray):Option Col:=cols.find? fun x=>decide (x.name=name)
mutual
def cX (cols:List Col):Ex→Int×Int
  | .mk op name v kids=>
    if op=1 then (v.kind,0)
    else if op=2 then (match aY cols name with | some c=>(c.type,0) | none=>(0,16))
    else if (fG cols kids []).1≠0 then (0,(fG cols kids []).1)
    else cY (eo op name ((fG cols kids []).2.getD 0 0) ((fG cols kids []).2.getD 1 0)).2 (eo op name ((fG cols kids []).2.getD 0 0) ((fG cols kids []).2.getD 1 0)).1
def fG (cols:List Col):List Ex→List Int→Int×List Int
  | [],ks=>(0,ks)
  | k::r,ks=>if (cX cols k).2≠0 then ((cX cols k).2,[]) else fG cols r (ks++[(cX cols k).1])
end
theorem xF (cols:List Col) (e:Ex):cX cols e=(
    if e.op=1 then (e.v.kind,0)
    else if e.op=2 then (match aY cols e.name with | some c=>(c.type,0) | none=>(0,16))
    else if (fG cols e.kids []).1≠0 then (0,(fG cols e.kids []).1)
    else cY (eo e.op e.name ((fG cols e.kids []).2.getD 0 0) ((fG cols e.kids []).2.getD 1 0)).2 (eo e.op e.name ((fG cols e.kids []).2.getD 0 0) ((fG cols e.kids []).2.getD 1 0)).1:Int×Int):=by
  cases e;simp only[cX];rfl
def lM (cols:List Col) (e:Ex):Int×Int:=if dh e≠0 then (0,dh e) else cX cols e
theorem mF {e:Ex} (h:ba e=0):(e.op=1∨e.op=2→e.kids=[])∧(e.op=3∨e.op=4→e.kids.length=1)∧(e.op=16→(e.kids.length:Int)=arity e.name∧arity e.name≠0) ∧
    (e.op≠1→e.op≠2→e.op≠3→e.op≠4→e.op≠16→e.kids.length=2)∧e.kids.length≤2∧1≤e.op∧e.op≤16:=by
  simp only[ba,bt] at h
  have ha:arity e.name≤2:=by simp only[arity];split <;> (try split) <;> omega
  have h0:e.kids=[]↔e.kids.length=0:=List.length_eq_zero_iff.symm
  grind(splits:=30)
theorem qX {k:Ex}:∀ {l:List Ex},eg l=0→k∈l→cJ k=0
  | [],_,hk=>by simp at hk
  | a::r,h,hk=>by
    simp only[eg] at h
    by_cases ha:cJ a=0
    · rw[if_neg (by simpa using ha)] at h
      rcases List.mem_cons.1 hk with rfl | hk
      · exact ha
      · exact qX h hk
    · rw[if_pos ha] at h;exact absurd h ha
theorem sA {e k:Ex} (h:cJ e=0) (hk:k∈e.kids):cJ k=0:=by
  rw[kg] at h
  by_cases ha:ba e=0
  · rw[if_neg (by simpa using ha)] at h;exact qX h hk
  · rw[if_pos ha] at h;exact absurd h ha
theorem mP {e:Ex} (h:cJ e=0):ba e=0:=by
  rw[kg] at h
  by_cases ha:ba e=0
  · exact ha
  · rw[if_pos ha] at h;exact absurd h ha
end Go.Tb
namespace Go.Tb
open Go.Ab
theorem nB {α:Type} {l:List α} (h:l.length=1):∃ a,l=[a]:=by
  match l,h with
  | [a],_=>exact⟨a,rfl⟩
theorem bW {α:Type} {l:List α} (h:l.length=2):∃ a b,l=[a,b]:=by
  match l,h with
  | [a,b],_=>exact⟨a,b,rfl⟩
theorem qM {s:ByteArray} (h:s=de∨s=dg):arity s=1:=by
  rcases h with rfl | rfl <;> decide
theorem xh {s:ByteArray} (h:arity s≠0) (h1:s≠de) (h2:s≠dg):arity s=2:=by
  simp only[arity] at *
  split
  · rfl
  · simp_all
theorem rY {s:ByteArray} (h:s=dT∨s=dS) (a b:Int):eH s a b=(if a < b then b else a,both a b 2 || both a b 3):=by
  rcases h with rfl | rfl <;> simp[eH,dT,dS,de,dg,dR,bX]
theorem xz {s:ByteArray} (h:arity s≠0) (h1:s≠dT) (h2:s≠dS) (h3:s≠de) (h4:s≠dg) (a b:Int):eH s a b=(1,both a b 3):=by
  have:s=dR∨s=bX:=by
    simp only[arity] at h
    by_cases h5:s=dR
    · exact .inl h5
    · by_cases h6:s=bX
      · exact .inr h6
      · simp_all
  simp[eH,h3,h4,this]
theorem ek {α:Type} {l:List α} {p:α→Bool} (h:¬ idx (l.findIdx? p) < 0):∃ i c,l.findIdx? p=some i∧l[i]? = some c∧l.find? p=some c∧p c=true:=by
  cases hf:l.findIdx? p with
  | none=>rw[hf] at h;exact absurd (by decide:idx none < 0) h
  | some i=>
    obtain⟨hi,hp,hmin⟩:=List.findIdx?_eq_some_iff_getElem.1 hf
    refine⟨i,l[i],rfl,by simp[hi],?_,hp⟩
    rw[List.find?_eq_some_iff_getElem]
    exact⟨hp,i,hi,rfl,fun j hj=>by simpa using hmin j hj⟩
theorem ee {α:Type} {l:List α} {p:α→Bool} (h:idx (l.findIdx? p) < 0):l.find? p=none:=by
  cases hf:l.findIdx? p with
  | some i=>rw[hf] at h;exact absurd h (by simp[idx])
  | none=>rw[List.findIdx?_eq_none_iff] at hf;rw[List.find?_eq_none];intro x hx;simp[hf x hx]
end Go.Tb
namespace Go.Tb
open Go.Ab
theorem yT {ks:List Int} (h:1≤ks.length):(ks.map ic)[((0:Int)).toNat]? = some (ic (ks.getD 0 0)):=by
  match ks,h with
  | a::_,_=>rfl
theorem yH {ks:List Int} (h:2≤ks.length):(ks.map ic)[((1:Int)).toNat]? = some (ic (ks.getD 1 0)):=by
  match ks,h with
  | _::b::_,_=>rfl
theorem dM {ks:List Int} (h:ks.length≤2):ks=[]∨(∃ a,ks=[a])∨∃ a b,ks=[a,b]:=by
  match ks,h with
  | [],_=>exact .inl rfl
  | [a],_=>exact .inr (.inl ⟨a,rfl⟩)
  | [a,b],_=>exact .inr (.inr ⟨a,b,rfl⟩)
end Go.Tb
namespace Go.Tb
theorem lC {e:Ex} (h:dh e=0):cJ e=0:=by
  simp only[dh] at h
  by_cases h1:200 < jg e
  · rw[if_pos h1] at h;exact absurd h (by decide)
  · rw[if_neg h1] at h
    by_cases h2:16 < kV e
    · rw[if_pos h2] at h;exact absurd h (by decide)
    · rw[if_neg h2] at h;exact h
end Go.Tb
namespace Go.Tb
open Go.Ab
theorem wrap_zero {x:Int} (h0:0≤x) (h1:x < 18446744073709551616):(IntKind.i64.wrap x=0)↔x=0:=by
  simp only[IntKind.wrap,IntKind.signed,IntKind.bits]
  simp
  omega
def cv (ks:List ByteArray) (s:ByteArray):Int:=if cC s=false then 3 else if ks.any (fun x=>decide (s=x)) then 4 else 0
def fe (ks:List ByteArray) (s:ByteArray):List ByteArray:=if cv ks s=0 then ks++[s] else ks
def bR:List ByteArray→List ByteArray→Int
  | _,[]=>0
  | ks,s::r=>if cv ks s≠0 then cv ks s else bR (ks++[s]) r
def jP:List ByteArray→List ByteArray→List ByteArray
  | ks,[]=>ks
  | ks,s::r=>if cv ks s≠0 then ks else jP (ks++[s]) r
theorem ky:∀ (ks l:List ByteArray) (x:ByteArray),bR ks l=0→bR ks (l++[x])=cv (ks++l) x
  | ks,[],x,_=>by simp only[List.nil_append,bR,List.append_nil];split <;> simp_all
  | ks,s::r,x,h=>by
    simp only[bR] at h
    split at h
    · rename_i h1;exact absurd h h1
    · rename_i h1
      simp only[List.cons_append,bR]
      rw[if_neg h1,ky (ks++[s]) r x h]
      simp
theorem tj:∀ (ks l:List ByteArray),bR ks l=0→jP ks l=ks++l
  | ks,[],_=>by simp[jP]
  | ks,s::r,h=>by
    simp only[bR] at h
    split at h
    · rename_i h1;exact absurd h h1
    · rename_i h1
      simp only[jP]
      rw[if_neg h1,tj (ks++[s]) r h]
      simp
def du (n least:Int):Int:=if n < least then 8 else if 16 < n then 7 else 0
def cU (l:List ByteArray) (least:Int):Int:=if du l.length least≠0 then du l.length least else bR [] l
def dW:List ByteArray→List kE→Int
  | _,[]=>0
  | ks,x::r=>if dh x.e≠0 then dh x.e else if cv ks x.name≠0 then cv ks x.name else dW (ks++[x.name]) r
def fB:ByteArray:=B #[99,111,117,110,116]
def jZ:ByteArray:=B #[115,117,109]
def ql:ByteArray:=B #[102,105,114,115,116]
def aP:ByteArray:=B #[102,114,111,109]
def bp:ByteArray:=B #[116,111]
def lA (a:sB):Bool:=decide (a.fn=jZ) || decide (a.fn=dT) || decide (a.fn=dS) || decide (a.fn=ql)
def jG (a:sB):Bool:=if a.fn=fB then !decide (a.col=B #[]) else !lA a || decide (a.col=B #[])
def gN:List ByteArray→List sB→Int
  | _,[]=>0
  | ks,a::r=>if jG a=true then 5 else if a.col≠B #[]∧cC a.col=false then 3 else if cv ks a.name≠0 then cv ks a.name else gN (ks++[a.name]) r
def iW (s:dK):Int:=
  if s.cols.length+s.aggs.length=0 then 8 else if 16 < s.cols.length∨16 < s.aggs.length then 7
  else if bR [] s.cols≠0 then bR [] s.cols else gN s.cols s.aggs
def oS (e:Ex):Bool:=decide (e.op=0) && decide (e.name=B #[]) && zeroV e.v && decide (e.kids.length=0)
def bK (op:Int):Bool:=decide (op=6) || decide (op=7) || decide (op=8)
def eB (s:dK):Bool:=
  !(decide (s.op < 1) || decide (9 < s.op)) &&
  !(!decide (s.op=1) && !oS s.cond) && !(!decide (s.op=2) && decide (0 < s.items.length)) && !(!decide (s.op=3) && decide (0 < s.aggs.length)) &&
  !(!decide (s.op=4) && decide (0 < s.sorts.length)) && !(!decide (s.op=5) && !decide (s.n=0)) && !(!bK s.op && !decide (s.table=B #[])) &&
  (decide (s.op=3) || bK s.op || decide (s.op=9) || decide (s.cols.length=0))
def bZ (s:dK):Int:=
  if eB s=false then 1
  else if s.op=1 then dh s.cond
  else if s.op=2 then (if du s.items.length 1≠0 then du s.items.length 1 else dW [] s.items)
  else if s.op=3 then iW s
  else if s.op=4 then cU (s.sorts.map ly.col) 1
  else if s.op=5 then (if s.n < 0∨20000 < s.n then 2 else 0)
  else if s.op=9 then cU s.cols 0
  else if cC s.table=false then 3
  else cU s.cols (if s.op=6 then 1 else 0)
/-! tables -/
def dH (cols:List Col) (k:Nat) (c:Col):Int:=
  if c7 c.name≠0 then c7 c.name else if (cols.take k).any (fun x=>decide (x.name=c.name)) then 4 else if c.type≠1∧c.type≠2∧c.type≠3 then 14 else 0
def dG (cols:List Col):Nat→List Col→Int
  | _,[]=>0
  | k,c::r=>if dH cols k c≠0 then dH cols k c else dG cols (k+1) r
def c8:List Col→List aH→Int
  | c::cols,v::r=>if bO c.type v≠0 then bO c.type v else c8 cols r
  | _,_=>0
def ec (cols:List Col):List (List aH)→Int
  | []=>0
  | x::r=>if x.length≠cols.length then 10 else if c8 cols x≠0 then c8 cols x else ec cols r
def bj (t:bo):Int:=if 32 < t.cols.length∨20000 < t.rows.length then 7 else if dG t.cols 0 t.cols≠0 then dG t.cols 0 t.cols else ec t.cols t.rows
def dk (d:List iH) (name:ByteArray):Option bo:=(d.find? fun x=>decide (x.name=name)).map iH.table
end Go.Tb
namespace Go.Ab
open Go.RowKit
section
variable {P:Program} (T:cB P) {C:Ctx} {n:Nat} {ops:Array Oper} {Q:Exit→St→Prop} {rest:List Oper} {c:Code}
variable {f:List (Nat×A)} {bx:List (Nat×List A)} {lv:List Nat} {gen d:Nat} {ty:TypeId} {pos:String} {af:Array Edge} {a:A} {dst:Option Nat}
theorem vO {α:Type} {fn:α→List D} {l:List α} {t e k:Nat} {x hi:Operand} {td ed:cc} {kh:IntKind} (hx:av f x=some a) (hes:gI a=some (l.map fn)) (hhi:av f hi=some (.d (.v (.int kh (k:Int))))) (ht:aA T.l t=some td) (hk:td.k=.slice e)
    (he:aA T.l e=some ed) (hl:∀ a,(fn a).length=ed.n) (h1:k≤l.length):Pu P C n ⟨f,bx,lv,gen⟩ ⟨dst,.slice t x none (some hi) none,ty,pos,af,none⟩ (.d (.sl ((l.take k).map fn))):=by
  have:=Bi T (C:=C) (n:=n) (bx:=bx) (lv:=lv) (gen:=gen) (ty:=ty) (pos:=pos) (af:=af) (dst:=dst) hx hes hhi ht hk he (Int.natCast_nonneg k) (by simpa using h1) (zi hl)
  simpa [List.map_take] using this
end
end Go.Ab
namespace Go.Tb
open Go.Ab
abbrev CT:=List Col×Int
def bA (cols:List Col):List Col→List ByteArray→CT
  | out,[]=>(out,0)
  | out,s::r=>match aY cols s with
    | none=>([],16)
    | some c=>bA cols (out++[c]) r
def cn (cols:List Col) (name:ByteArray):Int:=match aY cols name with
  | none=>16
  | some c=>if c.type≠2 then 14 else 0
def jF (cols:List Col):List Col→List kE→CT
  | out,[]=>(out,0)
  | out,x::r=>if (cX cols x.e).2≠0 then ([],(cX cols x.e).2) else if (cX cols x.e).1=0 then ([],14) else jF cols (out++[⟨x.name,(cX cols x.e).1⟩]) r
def lj (cols:List Col):List Col→List sB→CT
  | out,[]=>(out,0)
  | out,a::r=>if a.fn=fB then lj cols (out++[⟨a.name,2⟩]) r
    else match aY cols a.col with
      | none=>([],16)
      | some c=>if a.fn=jZ∧c.type≠2 then ([],14) else lj cols (out++[⟨a.name,c.type⟩]) r
def gX (cols:List Col) (s:dK):CT:=if (bA cols [] s.cols).2≠0 then ([],(bA cols [] s.cols).2) else lj cols (bA cols [] s.cols).1 s.aggs
def ff (cols:List Col) (s:dK):CT:=
  if s.cols.any (fun x=>decide (aP=x)) || s.cols.any (fun x=>decide (bp=x)) then ([],4)
  else if (bA cols [] s.cols).2≠0 then ([],(bA cols [] s.cols).2)
  else if cn cols aP≠0 then ([],cn cols aP)
  else if cn cols bp≠0 then ([],cn cols bp)
  else ((bA cols [] s.cols).1++[⟨aP,2⟩,⟨bp,2⟩],0)
def aM (op:Int):List ByteArray:=if op=7 then [aP,bp] else if op=8 then [aP] else []
def ew (cols right:List Col):List ByteArray→Int
  | []=>0
  | s::r=>match aY cols s,aY right s with
    | some a,some b=>if a.type≠b.type then 14 else ew cols right r
    | _,_=>16
def cZ (cols:List Col):List ByteArray→Int
  | []=>0
  | s::r=>if cn cols s≠0 then cn cols s else cZ cols r
def dm (on spans:List ByteArray) (right:List Col):List Col:=right.filter fun c=>!(on.any fun x=>decide (c.name=x)) && !(spans.any fun x=>decide (c.name=x))
def fu:List Col→Nat→List Col→Bool
  | _,_,[]=>false
  | all,k,c::r=>(all.take k).any (fun x=>decide (x.name=c.name)) || fu all (k+1) r
def tG (out:List Col):CT:=if fu out 0 out=true then ([],4) else if 32 < out.length then ([],7) else (out,0)
def kF (cols right:List Col) (s:dK):CT:=
  if (aM s.op).any (fun n=>s.cols.any fun x=>decide (n=x)) then ([],4)
  else if ew cols right s.cols≠0 then ([],ew cols right s.cols)
  else if cZ cols (aM s.op)≠0 then ([],cZ cols (aM s.op))
  else if cZ right (aM s.op)≠0 then ([],cZ right (aM s.op))
  else tG (cols++dm s.cols (aM s.op) right)
def gF (d:List iH) (cols:List Col) (s:dK):CT:=match dk d s.table with
  | none=>([],17)
  | some t=>kF cols t.cols s
def fK (cols:List Col) (e:Ex):Int:=if (cX cols e).2=0∧fits (cX cols e).1 1=false then 14 else (cX cols e).2
def fS (cols:List Col) (l:List ly):Bool:=l.any fun x=>!(cols.any fun c=>decide (c.name=x.col))
def dy (d:List iH) (cols:List Col) (s:dK):CT:=
  if bZ s≠0 then ([],bZ s)
  else if s.op=1 then (if fK cols s.cond≠0 then ([],fK cols s.cond) else (cols,0))
  else if s.op=2 then jF cols [] s.items
  else if s.op=3 then gX cols s
  else if s.op=4 then (if fS cols s.sorts=true then ([],16) else (cols,0))
  else if s.op=9 then ff cols s
  else if s.op=6∨s.op=7∨s.op=8 then gF d cols s
  else (cols,0)
end Go.Tb
namespace Go.Ab
open Go.RowKit
section
variable {P:Program} (T:cB P) {C:Ctx} {n:Nat} {ops:Array Oper} {Q:Exit→St→Prop} {rest:List Oper} {c:Code}
variable {f:List (Nat×A)} {bx:List (Nat×List A)} {lv:List Nat} {gen d:Nat} {ty:TypeId} {pos:String} {af:Array Edge} {a:A} {dst:Option Nat}
theorem dn {α:Type} {fn:α→List D} {l l2:List α} {x y:Operand} {t e:Nat} {td ed:cc} {g:Nat} {b:A} (hx:av f x=some (.own g (l.map fn))) (hy:av f y=some b) (hb2:gI b=some (l2.map fn)) (ht:aA T.l t=some td) (hk:td.k=.slice e)
    (he:aA T.l e=some ed) (hgl:(lv.any fun h=>Nat.beq h g)=true) (hz:Nat.blt 0 ed.n=true) (hb0:Nat.blt 0 ed.b=true) (hd:Nat.blt d n=true) (hl:∀ a,(fn a).length=ed.n) (hb:(l.length+l2.length)*ed.b≤140737488355328)
    (h:WO P C n ops Q rest ⟨(d,.own gen ((l++l2).map fn))::f,bx,gen::dw lv g,gen+1⟩):WO P C n ops Q (⟨some d,.call ⟨.builtin .append,#[x,y],#[t,t]⟩,ty,pos,af,none⟩::rest) ⟨f,bx,lv,gen⟩:=by
  obtain⟨g',hg1,hg2⟩:=List.any_eq_true.1 hgl
  have hgm:g∈lv:=Nat.eq_of_beq_eq_true hg2▸hg1
  refine uQ T hx hy hb2 ht hk he hgm hz hb0 hd (fun z hzm=>?_) (by simpa using hb) ?_
  · rcases List.mem_append.1 hzm with h | h <;> (obtain⟨a',_,rfl⟩:=List.mem_map.1 h;exact hl a')
  · rw[List.map_append] at h
    exact h
theorem mq {t e len:Nat} {parts:Array (Nat×Operand)} {td ed:cc} {es:List (List D)} (ht:aA T.l t=some td) (hk:td.k=.slice e) (he:aA T.l e=some ed) (hes:jN f 0 parts.toList=some es) (hlen:es.length=len)
    (hz:Nat.blt 0 ed.n=true) (hsm:Nat.ble (len*ed.n) 16777216=true) (hl:oU ed.n es=true) (hd:Nat.blt d n=true)
    (h:WO P C n ops Q rest ⟨(d,.own gen es)::f,bx,gen::lv,gen+1⟩):WO P C n ops Q (⟨some d,.buildSlice t len parts,ty,pos,af,none⟩::rest) ⟨f,bx,lv,gen⟩:=
  WO.buildSlice (st:=⟨f,bx,lv,gen⟩) T rfl hd rfl ht hk he hes hlen hz hsm (lV hl) h
end
end Go.Ab
namespace Go.Ab
open Go.RowKit
def qq (bx:List (Nat×List A)):List Nat→List (Nat×List A)
  | []=>[]
  | g::r=>match aA bx g with
    | some c=>(g,c)::qq bx r
    | none=>qq bx r
section
variable {P:Program} {C:Ctx} {n:Nat} {Q:Exit→St→Prop} {c:Code} {st:St}
variable {f f' fi:List (Nat×A)} {bx bx' bi:List (Nat×List A)} {lv lv':List Nat} {gen gen':Nat}
def QC (C:Ctx) (n:Nat) (S:St) (Q:Exit→St→Prop):Exit→St→Prop
  | .normal,st=>∀ (tmps:Array Value) (w:World),iG C n st tmps w→iG C n S tmps w
  | e,st=>Q e st
theorem W.we (V:List (Nat×A)) (ts:List Nat) (B:List (Nat×List A)) (bs:List Nat) (lv':List Nat) (gen':Nat) (h:W P C n c (QC C n ⟨V++cN f ts,B++qq bx bs,lv',gen'⟩ Q) ⟨f,bx,lv,gen⟩)
    (hq:Q .normal ⟨V++cN f ts,B++qq bx bs,lv',gen'⟩):W P C n c Q ⟨f,bx,lv,gen⟩:=
  fun tmps w hs=>wp_mono (h tmps w hs) fun e act w ⟨hd,st',hs,he⟩=>by
    cases e with
    | normal=>exact⟨hd,_,he _ _ hs,hq⟩
    | _=>exact⟨hd,st',hs,he⟩
theorem jQ {nb:Nat} [hnb:NB C nb] (order:List Nat) (ho:kU order gen' nb=true) (hf:oH order f f') (hfi:og f fi) (hb:kk order bx bx') (hbi:lG order bx bi) (hl:se order lv lv'=true) :
    QC C n ⟨f'++fi,bx'++bi,lv',gen'⟩ Q .normal ⟨f,bx,lv,gen⟩:=fun _ _ h=>iG.bQ order ho hf hfi hb hbi hl h
end
end Go.Ab
namespace Go.Tb
open Go.Ab
end Go.Tb
namespace Go.Ab
open Go.RowKit
mutual
def mf:D→D
  | .v x=>bif isNil (.d (.v x)) then .sl [] else .v x
  | .sl es=>.sl (qb es)
def oJ:List D→List D
  | []=>[]
  | x::r=>mf x::oJ r
def qb:List (List D)→List (List D)
  | []=>[]
  | x::r=>oJ x::qb r
end
theorem ku:∀ l,oJ l=l.map mf
  | []=>rfl
  | x::r=>by simp[oJ,ku r]
theorem qY:∀ l,qb l=l.map oJ
  | []=>rfl
  | x::r=>by simp[qb,qY r]
theorem bc.mf {w:World} {pv:Nat→Nat→Prop} {v:Value} {d:D} (h:bc w pv v d):bc w pv v (Ab.mf d):=by
  induction h with
  | v x hx=>
    simp only[Ab.mf]
    cases hn:isNil (.d (.v x)) with
    | true=>
      have:=xS hn
      simp only[A.d.injEq,D.v.injEq] at this
      subst this
      exact .nil
    | false=>exact .v x hx
  | nil=>exact .nil
  | emp a cap hm=>exact .emp a cap hm
  | sl b off len cap sz es u hl hc hm hs hu _ ih=>
    simp only[Ab.mf,qY]
    refine .sl b off len cap sz _ u (by simpa using hl) hc hm (fun i e he=>?_) hu (fun i j e d he hd=>?_)
    · rw[List.getElem?_map,Option.map_eq_some_iff] at he
      obtain⟨e0,he0,rfl⟩:=he
      rw[ku,List.length_map]
      exact hs i e0 he0
    · rw[List.getElem?_map,Option.map_eq_some_iff] at he
      obtain⟨e0,he0,rfl⟩:=he
      rw[ku,List.getElem?_map,Option.map_eq_some_iff] at hd
      obtain⟨d0,hd0,rfl⟩:=hd
      exact ih i j e0 d0 he0 hd0
def pZ:A→A
  | .d x=>.d (mf x)
  | .ag l=>.ag (oJ l)
  | a=>a
theorem aW.pZ {E:En} {v:Value} {a:A} (h:aW E v a):aW E v (Ab.pZ a):=by
  cases h with
  | d hd=>exact .d hd.mf
  | ag vs l hs hd=>
    refine .ag vs _ (by rw[ku];simpa using hs) (fun i u x hu hx=>?_)
    rw[ku,List.getElem?_map,Option.map_eq_some_iff] at hx
    obtain⟨y,hy,rfl⟩:=hx
    exact(hd i u y hu hy).mf
  | any=>exact .any _
  | ni t x=>exact .ni t x
  | fl _ es hd hfl=>exact .fl _ es hd hfl
  | own _ g es hd hg hr=>exact .own _ g es hd hg hr
  | agg vs l hs ho hd=>exact .agg vs l hs ho hd
  | tup vs l hs hd=>exact .tup vs l hs hd
  | rowd b off l u hc hd=>exact .rowd b off l u hc hd
  | row b off l u hc hd=>exact .row b off l u hc hd
  | ptr _ g off b hg hb hp=>exact .ptr _ g off b hg hb hp
  | xs _ g es hg h1 hx=>exact .xs _ g es hg h1 hx
  | xp _ g i off l hg h1 hx=>exact .xp _ g i off l hg h1 hx
  | mp _ g es hg h1 hx=>exact .mp _ g es hg h1 hx
  | bf _ g T s hg h1 hx=>exact .bf _ g T s hg h1 hx
  | np _ g T b hg hb hT u hx=>exact .np _ g T b hg hb hT u hx
  | sb _ g n c b hg hb hn hx=>exact .sb _ g n c b hg hb hn hx
  | fx _ u g es ou hx hg hu ho=>exact .fx _ u g es ou hx hg hu ho
  | ol _ u g' E' g es hx hg' hr' hg hu=>exact .ol _ u g' E' g es hx hg' hr' hg hu
  | lk _ g n c b v hg hb hn hx=>exact .lk _ g n c b v hg hb hn hx
  | clo f vs l hs hd=>exact .clo f vs l hs hd
  | bnd f vs l hs hd=>exact .bnd f vs l hs hd
theorem ax.pZ {P:Program} [fw P] {f:FuncId} {args:List A} {r:A} {k:Nat} (h:ax P f (args.map Ab.pZ) r k):ax P f args r k:=
  ⟨h.ok,fun C vals w hG hw hp hx hsz hrep=>h.calls C vals w hG hw hp hx (by simpa using hsz) (fun i u a hu ha=>by
    rw[List.getElem?_map,Option.map_eq_some_iff] at ha
    obtain⟨y,hy,rfl⟩:=ha
    exact(hrep i u y hu hy).pZ)⟩
section
variable {P:Program} {C:Ctx} {n:Nat} {ops:Array Oper} {Q:Exit→St→Prop} {rest:List Oper} {c:Code}
variable {f:List (Nat×A)} {bx:List (Nat×List A)} {lv:List Nat} {gen d:Nat} {ty:TypeId} {pos:String} {af:Array Edge} {a:A} {dst:Option Nat}
theorem rm [fw P] [GC P C] {x:Operand} {xs:Array Operand} {tys:Array TypeId} {fid:FuncId} {caps as' args:List A} (hx:av f x=some (.clo fid caps)) (hxs:jR f xs.toList=some as') (harg:((as'++caps).map (conv bx 5)).map pZ=args) (hf:ax P fid args a 0) (hr:dz a=true) :
    Pu P C n ⟨f,bx,lv,gen⟩ ⟨dst,.call ⟨.value x,xs,tys⟩,ty,pos,af,none⟩ a:=by
  subst harg
  exact Pu.call (st:=⟨f,bx,lv,gen⟩) rfl hx hxs hf.pZ hr
end
end Go.Ab
namespace Go.Tb
open Go.Ab
section
variable {P:Program} {T:cB P} {l:List D}
variable {ts ti tk tc tcs tv tr trs tt tn te teo tes tit titl ttl tag tagl tso tsol tb top tst tstl tq:Nat}
variable {o1 o2 o3 o4 o5 o6 o7 o8 p1 p2 p3 p4 p5 p6 p7 p8 q1 q2 q3 q4 q5 q6 q7 q8 r1 r2 r3 r4 r5:Nat}
variable {n1 n2 n3 n4 n5 n6 n7 n8 m1 m2 m3 m4 m5 m6 m7 m8 k1 k2 k3 k4 k5 k6 k7 k8 j1 j2 j3 j4 j5:String}
theorem ym (h:cE T tt l) (ht:bY T tt=.st [(o1,tcs,n1),(o2,trs,n2)]) (hcs:bY T tcs=.slice tc) (hc:bY T tc=.st [(o3,ts,n3),(o4,tk,n4)]) (hs:bY T ts=.str) (hk:bY T tk=.int .i64)
    (hrs:bY T trs=.slice tr) (hr:bY T tr=.slice tv) (hv:bY T tv=.st [(o5,tk,n5),(o6,ti,n6),(o7,ts,n7)]) (hi:bY T ti=.int .i64):∃ x:bo,l=x.c:=by
  obtain⟨p,q,rfl,h1,h2⟩:=sP h ht
  obtain⟨cols,rfl⟩:=o9 h1 hcs (fun x hx=>x6 hx hc hs hk)
  obtain⟨rows,rfl⟩:=o9 (f:=rc) h2 hrs (fun x hx=>by
    obtain⟨r,rfl⟩:=o9 hx hr (fun y hy=>yv hy hv hk hi hs)
    exact⟨r,rfl⟩)
  exact⟨⟨cols,rows⟩,rfl⟩
end
end Go.Tb
namespace Go.Ab
open Go.RowKit
section
variable {P:Program} {C:Ctx} {n:Nat}
variable {f:List (Nat×A)} {bx:List (Nat×List A)} {lv:List Nat} {gen:Nat} {ty:TypeId} {pos:String} {af:Array Edge} {dst:Option Nat}
theorem wi {t t':Nat} {x y:Operand} {k k':IntKind} {p q:Int} (hx:av f x=some (.d (.v (.int k p)))) (hy:av f y=some (.d (.v (.int k' q)))) (hq:0≤q) {r:Int}
    (hr:p.fdiv (2 ^ (min q.toNat k.bits))=r) (ho:dq (.int k r)=true) :
    Pu P C n ⟨f,bx,lv,gen⟩ ⟨dst,.binOp .shr t x y t',ty,pos,af,none⟩ (.d (.v (.int k r))):=by
  subst hr
  refine dU.pu fun G tmps w hs=>?_
  have hrx:=hs.av hx
  have hry:=hs.av hy
  generalize hvx:Act.eval ⟨tmps,[]⟩ x=vx at hrx
  generalize hvy:Act.eval ⟨tmps,[]⟩ y=vy at hry
  cases hrx with | d hrx=>cases hrx with | v _ _=>
  cases hry with | d hry=>cases hry with | v _ _=>
  refine⟨_,?_,.d (.v _ ho)⟩
  unfold execOp
  show Sem.run P _ w=_
  have:¬ q < 0:=by omega
  simp only[hvx,hvy,eqGuard,binOp,Op.shift,this,if_false]
  rfl
end
end Go.Ab
namespace Go.Tb
open Go.Ab
instance:Inhabited aH:=⟨⟨0,0,B #[]⟩⟩
def gh:aH:=⟨0,0,B #[]⟩
def xg (b:Bool):aH:=⟨1,if b then 1 else 0,B #[]⟩
def Af (n:Int):aH:=⟨2,n,B #[]⟩
def Au (s:ByteArray):aH:=⟨3,0,s⟩
theorem vU {k:Int} {v:aH}:bO k v=0↔v=gh∨(k=1∧∃ b,v=xg b)∨(k=2∧∃ n,mj n=true∧v=Af n)∨(k=3∧∃ s:ByteArray,s.size≤200∧v=Au s):=by
  obtain⟨vk,vn,vs⟩:=v
  simp only[bO,gh,xg,Af,Au,aH.mk.injEq]
  constructor
  · intro h
    split at h;· simp at h
    split at h;· simp at h
    split at h;· simp at h
    split at h;· simp at h
    rename_i h1 h2 h3 h4
    by_cases h0:vk=0
    · left;refine⟨h0,?_,?_⟩ <;> grind
    · right
      have hk:vk=k:=by grind
      subst hk
      rcases(by omega:vk=1∨vk=2∨vk=3) with rfl | rfl | rfl
      · left
        refine⟨rfl,decide (vn=1),rfl,?_,by grind⟩
        have:¬ (vn < 0∨1 < vn):=fun h=>h2 (.inl ⟨rfl,h⟩)
        by_cases hn:vn=1
        · simp[hn]
        · simp[hn];omega
      · right;left
        refine⟨rfl,vn,?_,rfl,rfl,by grind⟩
        cases hi:mj vn
        · exact absurd (.inr ⟨rfl,hi⟩) h2
        · rfl
      · right;right
        refine⟨rfl,vs,by omega,rfl,?_,rfl⟩
        by_cases hn:vn=0
        · exact hn
        · exact absurd (.inr ⟨.inr rfl,hn⟩) h4
  · rintro(⟨rfl,rfl,rfl⟩ | ⟨rfl,b,rfl,rfl,rfl⟩ | ⟨rfl,n,hn,rfl,rfl,rfl⟩ | ⟨rfl,s,hs,rfl,rfl,hz⟩)
    · simp
    · cases b <;> simp
    · simp[hn]
    · subst hz
      simp[show ¬ 200 < vs.size by omega]
def cI (a b:Int):Int:=if a < b then -1 else if b < a then 1 else 0
def fP (a b:ByteArray):Int:=if Op.bytesLess a.toList b.toList then -1 else if a=b then 0 else 1
def dd (a b:aH):Int:=if a.kind≠b.kind then cI a.kind b.kind else if a.kind=3 then fP a.s b.s else if a.kind=1∨a.kind=2 then cI a.n b.n else 0
end Go.Tb
namespace Go.Tb
open Go.Ab
end Go.Tb
namespace Go.Tb
open Go.Ab
abbrev cu (n:Int):D:=.v (.int .u64 n)
structure A1 where
  m:Bool
  n:Nat
@[reducible] def A1.c (x:A1):List D:=[.v (.bool x.m),cu ((x.n / 18446744073709551616:Nat):Int),cu ((x.n % 18446744073709551616:Nat):Int)]
end Go.Tb
namespace Go.Tb
open Go.Ab
def A2 (n:Int):Int:=n / 4294967296
def A4 (n:Int):Int:=n % 4294967296
theorem parts (n:Int):A2 n*4294967296+A4 n=n:=by simp only[A2,A4];omega
end Go.Tb
namespace Go.Ab
open Go.RowKit
def yE (P:Program) [fw P] (w:World):Prop:=∃ W:World,(W.ShapedOpen P∧fw.met P W)∧W.heap.size≤w.heap.size∧∀ b,b < W.heap.size→w.heap[b]? = W.heap[b]?
theorem yE.cell {P:Program} [fw P] {w:World} (h:yE P w) {b:Nat} (hc:∀ W:World,W.ShapedOpen P→∃ m,W.cell? ⟨b,0,none⟩=some (.int .i64 m)):∃ m,w.cell? ⟨b,0,none⟩=some (.int .i64 m):=by
  obtain⟨W,h1,_,h3⟩:=h
  obtain⟨m,hm⟩:=hc W h1.1
  have hlt:b < W.heap.size:=eC (o:=0) hm
  exact⟨m,(cz (h3 b hlt) 0).trans hm⟩
end Go.Ab
namespace Go.Tb
open Go.Ab
theorem ry (l:List UInt8):Op.bytesLess l l=false:=by
  induction l with
  | nil=>rfl
  | cons a r ih=>simp[Op.bytesLess,ih]
theorem kx (a:ByteArray):fP a a=0:=by simp[fP,ry]
end Go.Tb
namespace Go.Ab
section
variable {P:Program} {C:Ctx} {n:Nat} {Q:Exit→St→Prop} {c:Code} {f:List (Nat×A)} {bx:List (Nat×List A)} {lv:List Nat} {gen:Nat}
theorem bc.elem {w:World} {pv:Nat→Nat→Prop} {v:Value} {es:List (List D)} (h:bc w pv v (.sl es)) {k j:Nat} {e:List D} {x:Value} (he:es[k]? = some e) (hx:e[j]? = some (.v x)):dq x=true:=by
  cases h with
  | nil=>simp at he
  | emp=>simp at he
  | sl b off len cap sz es u hl hc hm hs hu hr=>
    have:=hr k j e _ he hx
    generalize u k j=y at this
    cases this with | v _ ho=>exact ho
theorem W.elem (t:Nat) {a:A} {es:List (List D)} {k j:Nat} {e:List D} {x:Value} (hl:look f t=some a) (hes:gI a=some es) (he:es[k]? = some e) (hx:e[j]? = some (.v x)) (h:dq x=true→W P C n c Q ⟨f,bx,lv,gen⟩):W P C n c Q ⟨f,bx,lv,gen⟩:=by
  intro tmps w ⟨G,hs⟩
  obtain⟨v,hv,hr⟩:=hs.frame t a hl
  exact h ((gl hes hr).elem he hx) tmps w ⟨G,hs⟩
theorem cD (g j:Nat) {cells cells':List A} (hb:aA bx g=some cells) (hj:cells[j]? = some (.d (.v (.slice none 0 0)))) (hc:cells.set j (.d (.sl []))=cells') (h:W P C n c Q ⟨f,(g,cells')::bx,lv,gen⟩):W P C n c Q ⟨f,bx,lv,gen⟩:=by
  subst hc
  intro tmps w ⟨G,hs⟩
  refine h tmps w ⟨G,aV.yQ hs hb (by simp) (fun i u a a' ha ha' hr=>?_)⟩
  rw[List.getElem?_set] at ha'
  split at ha'
  · rename_i e
    subst e
    rw[hj] at ha
    simp only[Option.some.injEq] at ha
    subst ha
    split at ha'
    · simp only[Option.some.injEq] at ha'
      subst ha'
      cases hr with | d hr=>cases hr with | v _ _=>exact .d .nil
    · cases ha'
  · rw[ha] at ha'
    simp only[Option.some.injEq] at ha'
    subst ha'
    exact hr
end
end Go.Ab
namespace Go.Ab
open Go.RowKit
/-! ### whatever the states are -/
section
variable {P:Program} {ops:Array Oper} {md:Region.Mode} {m:Nat} {S E:Type} (Y:Nat→E→S→Prop) (ef:Nat→E→S→S)
def eY (md:Region.Mode) (ops:Array Oper) (listed:Array Bool):Prop:=
  ∀ j oj,ops[j]? = some oj→listed.getD j false=true→∀ e∈oj.after,Region.binds md e=true→listed.getD e.on false=true
def cV (md:Region.Mode) (ops:Array Oper):Nat→Nat→Nat→Bool
  | 0,_,_=>false
  | k+1,j,i=>cb md ops j i || (match ops[j]? with | some o=>o.after.toList.any fun e=>Region.binds md e && cV md ops k e.on i | none=>false)
theorem lg {listed:Array Bool} (hc:eY md ops listed):∀ (k j i:Nat),cV md ops k j i=true→(∀ oj,ops[j]? = some oj→∀ e∈oj.after,Region.binds md e=true→listed.getD e.on false=true)→listed.getD i false=true
  | 0,_,_,h,_=>by simp[cV] at h
  | k+1,j,i,h,hj=>by
    simp only[cV,Bool.or_eq_true] at h
    cases hoj:ops[j]? with
    | none=>
      rw[hoj] at h
      simp[cb,hoj] at h
    | some oj=>
      rcases h with h | h
      · obtain⟨e,he,hb,heq⟩:=kZ hoj h
        rw[←heq]
        exact hj oj hoj e he hb
      · rw[hoj] at h
        obtain⟨e,he,hb⟩:=List.any_eq_true.1 h
        simp only[Bool.and_eq_true] at hb
        have he':e∈oj.after:=by simpa using he
        have hl:=hj oj hoj e he' hb.1
        exact lg hc k e.on i hb.2 fun o ho e' he'' hb'=>hc e.on o ho hl e' he'' hb'
def mX (md:Region.Mode) (ops:Array Oper) (m:Nat):Bool:=(List.range ops.size).all fun j=>decide (j < m) || (List.range j).all fun i=>cV md ops ops.size j i
theorem n0 {j:Nat} (h:mX md ops m=true) (hm:m≤j) {i:Nat} (hij:i < j) {listed:Array Bool} (hc:eY md ops listed) (hj:j∈Region.ready md ops listed):listed.getD i false=true:=by
  obtain⟨_,oj,hoj,hall⟩:=mem_ready.1 hj
  have hlt:j < ops.size:=(Array.getElem?_eq_some_iff.1 hoj).1
  have h1:=List.all_eq_true.1 h j (by simpa using hlt)
  simp only[Bool.or_eq_true,decide_eq_true_eq] at h1
  have h2:=List.all_eq_true.1 (h1.resolve_left (by omega)) i (by simpa using hij)
  exact lg hc _ j i h2 fun o ho e he hb=>by rw[hoj] at ho;cases ho;exact hall e he hb
theorem eY.add {listed:Array Bool} (hc:eY md ops listed) {i:Nat} (hi:i∈Region.ready md ops listed):eY md ops (listed.setIfInBounds i true):=by
  intro j oj hoj hl e he hb
  obtain⟨_,oi,hoi,hall⟩:=mem_ready.1 hi
  by_cases hji:i=j
  · subst hji
    rw[hoi] at hoj
    cases hoj
    exact getD_set_true (hall e he hb)
  · rw[getD_set_ne false hji] at hl
    exact getD_set_true (hc j oj hoj hl e he hb)
def rQ (m:Nat) (md:Region.Mode) (ops:Array Oper) (Q:S→Prop):Nat→Array Bool→S→Prop
  | 0,listed,σ=>Split m ops listed∧Q σ
  | fuel+1,listed,σ=>Region.ready md ops listed≠[]∧∀ i∈Region.ready md ops listed,∃ e,Y i e σ∧rQ m md ops Q fuel (listed.setIfInBounds i true) (ef i e σ)
def oF (i j:Nat):Prop:=∀ e e' σ,Y i e σ→Y j e' (ef i e σ)→Y j e' σ∧Y i e (ef j e' σ)∧ef j e' (ef i e σ)=ef i e (ef j e' σ)
variable {Y} {ef}
theorem w7 {Q:S→Prop} {i:Nat} {oi:Oper} {e:E} (hw:mX md ops m=true) (him:i < m) (hi:ops[i]? = some oi) :
    ∀ (fuel:Nat) (listed:Array Bool) (σ:S),eY md ops listed →
      (∀ j oj,ops[j]? = some oj→j≠i→j < m→listed.getD j true=false→(∀ e∈oj.after,Region.binds md e=true→e.on≠i)→oF Y ef i j) →
      i∈Region.ready md ops listed→Y i e σ→rQ Y ef m md ops Q fuel (listed.setIfInBounds i true) (ef i e σ)→rQ Y ef m md ops Q (fuel+1) listed σ:=by
  have unl:∀ {listed:Array Bool},i∈Region.ready md ops listed→listed.getD i false=false:=fun hr=>eu (mem_ready.1 hr).1
  intro fuel
  induction fuel with
  | zero=>
    intro listed σ hc _ hr hy H
    refine⟨fun h=>(by rw[h] at hr;cases hr),fun j hj=>?_⟩
    by_cases hji:j=i
    · subst hji;exact⟨e,hy,H⟩
    · exfalso
      obtain⟨⟨_,h1,h2⟩,_⟩:=H
      have hj1:=(mem_ready.1 hj).1
      by_cases hjm:j < m
      · have:=h1 j hjm
        rw[getD_set_ne false (Ne.symm hji)] at this
        rw[eu hj1] at this
        cases this
      · have:=n0 hw (by omega) (show i < j by omega) hc hj
        rw[unl hr] at this
        cases this
  | succ fuel ih=>
    intro listed σ hc hfree hr hy H
    refine⟨fun h=>(by rw[h] at hr;cases hr),fun j hj=>?_⟩
    by_cases hji:j=i
    · subst hji;exact⟨e,hy,H⟩
    · obtain⟨e',hy',H'⟩:=H.2 j (ready_mono hj hji)
      obtain⟨hjun,oj,hoj,hall⟩:=mem_ready.1 hj
      have hnot:∀ e∈oj.after,Region.binds md e=true→e.on≠i:=fun e he hb heq=>by
        have h1:=hall e he hb
        rw[heq,unl hr] at h1
        cases h1
      have hjm:j < m:=by
        rcases Nat.lt_or_ge j m with h | h
        · exact h
        · have:=n0 hw h (show i < j by omega) hc hj
          rw[unl hr] at this
          cases this
      obtain⟨s1,s2,s3⟩:=hfree j oj hoj hji hjm hjun hnot e e' σ hy hy'
      have hfree':∀ k ok,ops[k]? = some ok→k≠i→k < m→(listed.setIfInBounds j true).getD k true=false→(∀ e∈ok.after,Region.binds md e=true→e.on≠i)→oF Y ef i k:=fun k ok hk hki hkm hun hno=>by
        refine hfree k ok hk hki hkm ?_ hno
        by_cases hjk:j=k
        · subst hjk;exact hjun
        · rw[getD_set_ne true hjk] at hun;exact hun
      refine⟨e',s1,ih (listed.setIfInBounds j true) _ (hc.add hj) hfree' (ready_mono hr (Ne.symm hji)) s2 ?_⟩
      rw[Array.setIfInBounds_comm _ _ hji,←s3]
      exact H'
def wW (Y:Nat→E→S→Prop) (ef:Nat→E→S→S) (Q:S→Prop):List Oper→Nat→S→Prop
  | [],_,σ=>Q σ
  | _::rest,i,σ=>∃ e,Y i e σ∧wW Y ef Q rest (i+1) (ef i e σ)
theorem uE {Q:S→Prop} (hw:mX md ops m=true)
    (hsw:∀ i j oi oj,ops[i]? = some oi→ops[j]? = some oj→i≠j→i < m→j < m→oi.apart ops oj=true→(∀ e∈oj.after,Region.binds md e=true→e.on≠i)→oF Y ef i j) :
    ∀ (l:List Oper) (k:Nat) (listed:Array Bool) (σ:S),k+l.length=m→(∀ j,j < l.length→l[j]? = ops[k+j]?)→eY md ops listed →
    listed.size=ops.size→(∀ j,j < k→listed.getD j false=true)→(∀ j,k≤j→j < ops.size→listed.getD j true=false) →
    mG md ops l.length k listed=true→wW Y ef Q l k σ→rQ Y ef m md ops Q l.length listed σ
  | [],k,listed,σ,hk,_,_,hs,h1,h2,_,h=>⟨⟨hs,fun j hj=>h1 j (by simp at hk;omega),fun j hj hj'=>h2 j (by simp at hk;omega) hj'⟩,h⟩
  | o::l,k,listed,σ,hk,hl,hc,hs,h1,h2,hB,h=>by
    have h0:ops[k]? = some o:=by simpa using (hl 0 (by simp)).symm
    have hks:k < ops.size:=(Array.getElem?_eq_some_iff.1 h0).1
    simp only[List.length_cons,mG,Bool.and_eq_true] at hB
    obtain⟨⟨hr,hf⟩,hB'⟩:=hB
    have hr':k∈Region.ready md ops listed:=by simpa using hr
    obtain⟨e,hy,hK⟩:=h
    have hkm:k < m:=by simp at hk;omega
    refine w7 hw hkm h0 l.length listed σ hc (fun j oj hoj hjk hjm hun hno=>hsw k j o oj h0 hoj (Ne.symm hjk) hkm hjm (Region.free_spec h0 hf j oj hoj hjk hun hno) hno) hr' hy
      (uE hw hsw l (k+1) _ _ (by simp at hk;omega) (fun j hj=>by have:=hl (j+1) (by simpa using hj);simpa [Nat.add_assoc,Nat.add_comm 1 j] using this) (hc.add hr') (by simpa using hs) (fun j hj=>?_) (fun j hj hj'=>?_) hB' hK)
    · rcases Nat.lt_succ_iff_lt_or_eq.1 hj with hlt | rfl
      · exact getD_set_true (h1 j hlt)
      · simp[hs,hks]
    · rw[getD_set_ne true (by omega)]
      exact h2 j (by omega) hj'
theorem mC {Sm:S→Act→World→Prop} {Q:S→Prop} {Q':Exit→Act→World→Prop} {t:Nat}
    (hS:∀ i e σ act w K,Sm σ act w→Y i e σ→(∀ act w,Sm (ef i e σ) act w→K act w)→wpOp P ops Q' i K act w)
    (hQ:∀ listed σ act w,Sm σ act w→eY md ops listed→Split m ops listed→Q σ→wpAny P md ops Q' t listed act w) :
    ∀ (fuel:Nat) (listed:Array Bool) (σ:S) (act:Act) (w:World),Sm σ act w→eY md ops listed→rQ Y ef m md ops Q fuel listed σ→wpAny P md ops Q' (fuel+t) listed act w
  | 0,_,_,_,_,hs,hc,h=>by rw[Nat.zero_add];exact hQ _ _ _ _ hs hc h.1 h.2
  | fuel+1,_,_,_,_,hs,hc,h=>by
    rw[Nat.add_right_comm]
    refine⟨fun h0=>absurd h0 h.1,fun i hi=>?_⟩
    obtain⟨e,hy,hK⟩:=h.2 i hi
    exact hS i e _ _ _ _ hs hy fun act w hs'=>mC hS hQ fuel _ _ _ _ hs' (hc.add hi) hK
theorem mh {Q':Exit→Act→World→Prop} (hw:mX md ops m=true) (hrd:∀ k,m≤k→∀ o,ops[k]? = some o→∀ e∈o.after,Region.binds md e=true→e.on < k) :
    ∀ (l:List Oper) (k:Nat) (listed:Array Bool) (act:Act) (w:World),m≤k→k+l.length=ops.size→(∀ j,l[j]? = ops[k+j]?)→eY md ops listed→listed.size=ops.size→(∀ j,j < k→listed.getD j false=true)→(∀ j,k≤j→j < ops.size→listed.getD j true=false) →
      iA P ops Q' l act w→wpAny P md ops Q' l.length listed act w
  | [],k,listed,act,w,hm,hk,_,_,hs,h1,h2,h=>by
    refine⟨?_,h⟩
    refine List.eq_nil_iff_forall_not_mem.2 fun j hj=>?_
    obtain⟨h3,oj,hoj,_⟩:=mem_ready.1 hj
    have hlt:=(Array.getElem?_eq_some_iff.1 hoj).1
    have:=h1 j (by simp at hk;omega)
    rw[eu h3] at this
    cases this
  | o::l,k,listed,act,w,hm,hk,hl,hc,hs,h1,h2,h=>by
    have h0:ops[k]? = some o:=by simpa using (hl 0).symm
    have hks:k < ops.size:=(Array.getElem?_eq_some_iff.1 h0).1
    have hready:k∈Region.ready md ops listed:=mem_ready.2 ⟨h2 k (Nat.le_refl _) hks,o,h0,fun e he hb=>h1 _ (hrd k hm o h0 e he hb)⟩
    refine⟨fun hn=>(by rw[hn] at hready;cases hready),fun i hi=>?_⟩
    have hik:i=k:=by
      obtain⟨h3,oi,hoi,_⟩:=mem_ready.1 hi
      rcases Nat.lt_trichotomy i k with hlt | he | hgt
      · have:=h1 i hlt;rw[eu h3] at this;cases this
      · exact he
      · have:=n0 hw (by omega) hgt hc hi
        rw[eu (h2 k (Nat.le_refl _) hks)] at this
        cases this
    subst hik
    have ih:=fun act w=>mh (Q':=Q') hw hrd l (i+1) (listed.setIfInBounds i true) act w (by omega) (by simp at hk;omega) (fun j=>by have:=hl (j+1);simpa [Nat.add_assoc,Nat.add_comm 1 j] using this) (hc.add hready) (by simpa using hs)
      (fun j hj=>by
        rcases Nat.lt_succ_iff_lt_or_eq.1 hj with hlt | rfl
        · exact getD_set_true (h1 j hlt)
        · simp[hs,hks]) (fun j hj hj'=>by rw[getD_set_ne true (by omega)];exact h2 j (by omega) hj')
    simp only[iA] at h
    unfold wpOp
    simp only[h0]
    split
    · rename_i hw'
      rw[if_pos hw'] at h
      exact .inl (Oper.wp_mono ih h)
    · rename_i hw'
      rw[if_neg hw'] at h
      exact ih _ _ h
end
/-! ### one operation that turns the ghost -/
theorem Oper.y8 {P:Program} {o:Oper} {a:Act} {w:World} {K K':Act→World→Prop} {Q Q':Exit→Act→World→Prop} (hp:∀ c a w,¬ Q (.panic c) a w) (hL:¬ LetsOut Q) (hK:∀ a w,K a w→K' a w) (h:o.wp P a w K Q):o.wp P a w K' Q':=by
  unfold Oper.wp at *
  generalize (execOp a.eval o).run P w=r at *
  cases r with
  | ok n w'=>
    cases n <;> simp only[Oper.upon] at h ⊢ <;> first
      | exact hK _ _ h
      | exact Calls.mono h (fun e w'' he=>by
          cases e with
          | returned v=>exact hK _ _ he
          | panicked c=>exact absurd he (hp _ _ _)
          | outgrown=>exact absurd he hL)
      | exact Rows.mono h (fun _ _ he=>hK _ _ he)
      | exact h
  | halt x w'=>
    cases x <;> simp only[Oper.upon] at h ⊢ <;> first
      | exact absurd h (hp _ _ _)
      | exact h
theorem Oper.ss {P:Program} {o:Oper} {a:Act} {w:World} {K K':Act→World→Prop} {Q Q':Exit→Act→World→Prop} (hp:∀ c a w,Q (.panic c) a w→Q' (.panic c) a w) (hL:¬ LetsOut Q) (hK:∀ a w,K a w→K' a w) (h:o.wp P a w K Q):o.wp P a w K' Q':=by
  unfold Oper.wp at *
  generalize (execOp a.eval o).run P w=r at *
  cases r with
  | ok n w'=>
    cases n <;> simp only[Oper.upon] at h ⊢ <;> first
      | exact hK _ _ h
      | exact Calls.mono h (fun e w'' he=>by
          cases e with
          | returned v=>exact hK _ _ he
          | panicked c=>exact hp _ _ _ he
          | outgrown=>exact absurd he hL)
      | exact Rows.mono h (fun _ _ he=>hK _ _ he)
      | exact h
  | halt x w'=>
    cases x <;> simp only[Oper.upon] at h ⊢ <;> first
      | exact hp _ _ _ h
      | exact h
end Go.Ab
namespace Go.Ab
open Go.RowKit
structure wM where
  bx0:List (Nat×List A)
  bx1:List (Nat×List A)
  lv0:List Nat
  lv1:List Nat
  gen0:Nat
  gen1:Nat
section
variable {P:Program} {C:Ctx} {n:Nat} (S:wM) {ops:Array Oper} (c:Nat)
abbrev SC:=dB×Bool
def zX (C:Ctx) (n:Nat) (S:wM) (σ:SC) (act:Act) (w:World):Prop:=
  act.defers=C.ds∧∃ G,if σ.2=true then et C n S.bx1 S.lv1 S.gen1 σ.1 G act.tmps w else et C n S.bx0 S.lv0 S.gen0 σ.1 G act.tmps w
def zS (P:Program) (C:Ctx) (n:Nat) (S:wM) (ops:Array Oper) (o:Oper) (a:A) (φ:dB):Prop:=
  o.guard=none∧∃ p,(∀ t x,look p t=some x→φ t=some x∧t∈o.looksAt ops) ∧
    ∀ g,WO P C n ops (fun e st=>e=.normal∧st=St.put ⟨p++g,S.bx1,S.lv1,S.gen1⟩ o.dst a) [o] ⟨p++g,S.bx0,S.lv0,S.gen0⟩
def YC (P:Program) (C:Ctx) (n:Nat) (S:wM) (ops:Array Oper) (c:Nat) (i:Nat) (a:A) (σ:SC):Prop:=
  ∃ o,ops[i]? = some o∧ey n o.dst=true∧((i=c∧σ.2=false∧zS P C n S ops o a σ.1) ∨
    (i≠c∧(cb .any ops i c=false→YA P C n S.bx0 S.lv0 S.gen0 ops o a σ.1)∧(cb .any ops c i=false→YA P C n S.bx1 S.lv1 S.gen1 ops o a σ.1) ∧
      (σ.2=false→cb .any ops i c=false)∧(σ.2=true→cb .any ops c i=false)))
def uX (ops:Array Oper) (c:Nat) (i:Nat) (a:A) (σ:SC):SC:=
  match ops[i]? with
  | none=>σ
  | some o=>(bN σ.1 o.dst a,if i=c then true else σ.2)
variable {S} {c}
theorem va {o:Oper} {a:A} {φ:dB} {dst:Option Nat} {x:A} (hd:∀ d,dst=some d→d∉o.looksAt ops):zS P C n S ops o a (bN φ dst x)↔zS P C n S ops o a φ:=by
  constructor
  · rintro⟨h0,p,h1,h2⟩
    exact⟨h0,p,fun t y hy=>⟨(fI hd (h1 t y hy).2).symm.trans (h1 t y hy).1,(h1 t y hy).2⟩,h2⟩
  · rintro⟨h0,p,h1,h2⟩
    exact⟨h0,p,fun t y hy=>⟨(fI hd (h1 t y hy).2).trans (h1 t y hy).1,(h1 t y hy).2⟩,h2⟩
theorem vF {j i:Nat} {oj:Oper} (hj:ops[j]? = some oj) (h:∀ e∈oj.after,Region.binds .any e=true→e.on≠i):cb .any ops j i=false:=by
  cases q:cb .any ops j i with
  | false=>rfl
  | true=>
    obtain⟨e,he,hb,heq⟩:=kZ hj q
    exact absurd heq (h e he hb)
theorem iM {i:Nat} {o:Oper} (h:ops[i]? = some o) (a:A) (σ:SC):uX ops c i a σ=(bN σ.1 o.dst a,if i=c then true else σ.2):=by unfold uX;rw[h]
theorem AW {i j:Nat} {oi oj:Oper} (hi:ops[i]? = some oi) (hj:ops[j]? = some oj) (hij:i≠j) (hap:oi.apart ops oj=true) (hno:∀ e∈oj.after,Region.binds .any e=true→e.on≠i) :
    oF (YC P C n S ops c) (uX ops c) i j:=by
  obtain⟨a1,a2,a3⟩:=Oper.apart_spec hap
  have hnb:=vF hj hno
  rintro a b ⟨φ,ph⟩ ⟨oi',hi',di,hyi⟩ ⟨oj',hj',dj,hyj⟩
  rw[hi] at hi'
  cases hi'
  rw[hj] at hj'
  cases hj'
  rw[iM hi] at hyj
  rw[iM hi,iM hj,iM hj,iM hi]
  have hcomm:bN (bN φ oi.dst a) oj.dst b=bN (bN φ oj.dst b) oi.dst a:=lN φ a b a2
  simp only at hyi hyj ⊢
  rcases hyi with ⟨rfl,hph,hx⟩ | ⟨hic,y0,y1,y2,y3⟩
  · -- the operation itself stands first
    subst hph
    rcases hyj with ⟨e,_⟩ | ⟨hjc,z0,z1,z2,z3⟩
    · exact absurd e.symm hij
    · refine⟨⟨oj,hj,dj,.inr ⟨hjc,fun h=>(en a1).1 (z0 h),fun h=>(en a1).1 (z1 h),fun _=>hnb,fun h=>by cases h⟩⟩,⟨oi,hi,di,.inl ⟨rfl,?_,(va a3).2 hx⟩⟩,?_⟩
      · rw[if_neg hjc]
      · rw[if_pos rfl,if_neg hjc,hcomm]
        simp
  · rcases hyj with ⟨rfl,hph,hx⟩ | ⟨hjc,z0,z1,z2,z3⟩
    · rw[if_neg hic] at hph
      subst hph
      refine⟨⟨oj,hj,dj,.inl ⟨rfl,rfl,(va a1).1 hx⟩⟩,⟨oi,hi,di,.inr ⟨hic,fun h=>(en a3).2 (y0 h),fun h=>(en a3).2 (y1 h),fun h=>?_,fun _=>hnb⟩⟩,?_⟩
      · rw[if_pos rfl] at h;cases h
      · rw[if_pos rfl,if_neg hic,hcomm]
        simp
    · rw[if_neg hic] at z2 z3
      refine⟨⟨oj,hj,dj,.inr ⟨hjc,fun h=>(en a1).1 (z0 h),fun h=>(en a1).1 (z1 h),z2,z3⟩⟩,⟨oi,hi,di,.inr ⟨hic,fun h=>(en a3).2 (y0 h),fun h=>(en a3).2 (y1 h),?_,?_⟩⟩,?_⟩
      · rw[if_neg hjc];exact y2
      · rw[if_neg hjc];exact y3
      · rw[if_neg hic,if_neg hjc,hcomm,if_neg hic]
def eO (n:Nat) (φ:dB):List (Nat×A):=(List.range n).filterMap fun t=>(φ t).map fun a=>(t,a)
theorem lO (φ:dB):∀ (l:List Nat) (t:Nat),look (l.filterMap fun t=>(φ t).map fun a=>(t,a)) t=if t∈l then φ t else none
  | [],t=>rfl
  | s::l,t=>by
    rw[List.filterMap_cons]
    cases hs:φ s with
    | none=>
      simp only[Option.map_none]
      rw[lO φ l t]
      by_cases e:t=s
      · subst e;simp[hs]
      · simp[e]
    | some a=>
      simp only[Option.map_some,bl]
      by_cases e:s=t
      · subst e;simp[hs]
      · rw[if_neg e,lO φ l t]
        simp[Ne.symm e]
theorem tM (p g:List (Nat×A)) (t:Nat):look (p++g) t=match look p t with | some a=>some a | none=>look g t:=by
  induction p with
  | nil=>rfl
  | cons x p ih=>
    obtain⟨s,a⟩:=x
    rw[List.cons_append,bl,bl]
    split
    · rfl
    · exact ih
theorem Ae (i:Nat) (a:A) (σ:SC) (act:Act) (w:World) (K:Act→World→Prop) {Q':Exit→Act→World→Prop} (hs:zX C n S σ act w) (hy:YC P C n S ops c i a σ) (hK:∀ act w,zX C n S (uX ops c i a σ) act w→K act w):wpOp P ops Q' i K act w:=by
  obtain⟨tmps,dfs⟩:=act
  obtain⟨rfl,G,hs⟩:=hs
  obtain⟨φ,ph⟩:=σ
  obtain⟨o,ho,hd,hy⟩:=hy
  rw[iM ho] at hK
  simp only at hs hy hK
  unfold wpOp
  simp only[ho]
  rcases hy with ⟨rfl,rfl,hg,p,hp,hx⟩ | ⟨hic,y0,y1,y2,y3⟩
  · simp only[Bool.false_eq_true,if_false] at hs
    have hw:Region.wanted o (yielded ops tmps)=true:=by simp[Region.wanted,hg]
    rw[hw,if_pos rfl]
    refine .inl ?_
    have hlt:∀ t x,φ t=some x→t < n:=fun t x hx=>by
      obtain⟨v,h1,_⟩:=hs.2 t x hx
      have:=(Array.getElem?_eq_some_iff.1 h1).1
      rw[hs.1.size] at this
      exact this
    have hlook:∀ t,look (p++eO n φ) t=φ t:=fun t=>by
      rw[tM]
      cases q:look p t with
      | some x=>exact(hp t x q).1.symm
      | none=>
        simp only
        unfold eO
        rw[lO]
        cases e:φ t with
        | none=>split <;> rfl
        | some x=>rw[if_pos (List.mem_range.2 (hlt t x e))]
    have hs':=hs.lE (f:=p++eO n φ) fun t x hx=>by rw[←hlook];exact hx
    have h:=hx (eO n φ) tmps w ⟨G,hs'⟩
    simp only[iA,hw,if_true] at h
    refine Oper.y8 (fun c a w hq=>?_) (fun hl=>?_) (fun act2 w2 hq=>?_) h
    · obtain⟨_,st',_,he,_⟩:=hq
      cases he
    · obtain⟨_,_,hq⟩:=hl
      obtain⟨_,st',_,he,_⟩:=hq
      cases he
    · obtain⟨hdf,st',⟨G',hs2⟩,_,rfl⟩:=hq
      refine hK act2 w2 ⟨hdf,G',?_⟩
      simp only[if_true]
      show et C n S.bx1 S.lv1 S.gen1 (bN φ o.dst a) G' act2.tmps w2
      cases hdst:o.dst with
      | none=>
        rw[hdst] at hs2
        refine⟨{ hs2 with frame:=fun t a ha=>by simp[look] at ha },fun t x hx=>hs2.frame t x ?_⟩
        show look (p++eO n φ) t=some x
        rw[hlook]
        exact hx
      | some d=>
        rw[hdst] at hs2
        refine⟨{ hs2 with frame:=fun t a ha=>by simp[look] at ha },fun t x hx=>hs2.frame t x ?_⟩
        show look ((d,a)::(p++eO n φ)) t=some x
        rw[bl]
        simp only[bN] at hx
        by_cases e:t=d
        · subst e
          rw[if_pos rfl] at hx ⊢
          exact hx
        · rw[if_neg e] at hx
          rw[if_neg (Ne.symm e),hlook]
          exact hx
  · rw[if_neg hic] at hK
    have key:∀ {bx:List (Nat×List A)} {lv:List Nat} {gen:Nat},et C n bx lv gen φ G tmps w→YA P C n bx lv gen ops o a φ→(∀ tmps w,et C n bx lv gen (bN φ o.dst a) G tmps w→K ⟨tmps,C.ds⟩ w) →
        (if Region.wanted o (yielded ops tmps)=true then o.wp P ⟨tmps,C.ds⟩ w K Q'∨(o.asks P ⟨tmps,C.ds⟩ w∧LetsOut Q') else K (Act.put ⟨tmps,C.ds⟩ o.dst undef) w):=by
      intro bx lv gen hsF hya hk
      obtain⟨_,⟨hw,f,hf,hp⟩ | ⟨hw,rfl⟩⟩:=hya
      · rw[fX hsF hw]
        simp only[if_true]
        refine .inl ?_
        have hg:da P o ⟨tmps,[]⟩ w fun v w'=>Below w.heap.size w w'∧aW (aK C G gen w') v a:=hp G tmps w (hsF.lE fun t x hx=>(hf t x hx).1)
        refine hg.ds.wp fun v w' ⟨hb,hr⟩=>?_
        rw[Act.gu]
        exact hk _ _ (hsF.step hb hd hr)
      · rw[fX hsF hw]
        simp only[Bool.false_eq_true,if_false]
        rw[Act.gu]
        exact hk _ _ (hsF.step (Below.refl _ _) hd (.tup #[] [] rfl (by simp)))
    cases ph with
    | false=>
      simp only[Bool.false_eq_true,if_false] at hs
      exact key hs (y0 (y2 rfl)) fun tmps w h=>hK _ _ ⟨rfl,G,by simpa using h⟩
    | true=>
      simp only[if_true] at hs
      exact key hs (y1 (y3 rfl)) fun tmps w h=>hK _ _ ⟨rfl,G,by simpa using h⟩
def CC (P:Program) (C:Ctx) (n:Nat) (S:wM) (ops:Array Oper) (c:Nat) (Q:St→Prop) (l:List Oper) (i:Nat) (f:List (Nat×A)) (ph:Bool):Prop:=
  wW (YC P C n S ops c) (uX ops c) (fun σ=>∃ f',(∀ t,look f' t=σ.1 t)∧σ.2=true∧Q ⟨f',S.bx1,S.lv1,S.gen1⟩) l i (look f,ph)
def kl (m:Nat) (ops:Array Oper):Bool:=Nat.ble m ops.size && mX .any ops m && vB .any ops m && mG .any ops m 0 (Array.replicate ops.size false)
theorem W.j0 (T:cB P) {id:Nat} {l l1 l2:List Oper} {f:List (Nat×A)} {bx bx1:List (Nat×List A)} {lv lv1:List Nat} {gen gen1:Nat} {Q:Exit→St→Prop} (m c:Nat) (hB:kl m l.toArray=true) (h1:l.take m=l1) (h2:l.drop m=l2)
    (h:CC P C n ⟨bx,bx1,lv,lv1,gen,gen1⟩ l.toArray c (WO P C n l.toArray Q l2) l1 0 f false):W P C n (.region id l.toArray true) Q ⟨f,bx,lv,gen⟩:=by
  subst h1;subst h2
  intro tmps w ⟨G,hs⟩
  simp only[kl,Bool.and_eq_true] at hB
  obtain⟨⟨⟨hm,hw⟩,hfore⟩,hlex⟩:=hB
  have hm:m≤l.length:=by simpa using Nat.le_of_ble_eq_true hm
  have hb:Below w.heap.size w { w with drawn:=w.drawn+1 }:=(Below.refl _ w).drew
  have hs':et C n bx lv gen (look f) G tmps { w with drawn:=w.drawn+1 }:=et.wz (hs.gL hb).2
  have hlen:(l.take m).length=m:=by simp;omega
  refine wp_region_any T.mixed ?_
  have hsz:l.toArray.size=(l.take m).length+(l.drop m).length:=by simp;omega
  rw[hsz]
  have hcl:eY .any l.toArray (Array.replicate ((l.take m).length+(l.drop m).length) false):=fun j oj _ hl _ _ _=>by
    by_cases q:j < (l.take m).length+(l.drop m).length
    · simp only[Array.getD_eq_getD_getElem?,Array.getElem?_replicate] at hl
      rw[if_pos q] at hl
      cases hl
    · simp only[Array.getD_eq_getD_getElem?,Array.getElem?_replicate] at hl
      rw[if_neg q] at hl
      cases hl
  refine mC (m:=m) (Sm:=zX C n ⟨bx,bx1,lv,lv1,gen,gen1⟩) (Y:=YC P C n ⟨bx,bx1,lv,lv1,gen,gen1⟩ l.toArray c) (ef:=uX l.toArray c) (Q:=fun σ=>∃ f',(∀ t,look f' t=σ.1 t)∧σ.2=true∧WO P C n l.toArray Q (l.drop m) ⟨f',bx1,lv1,gen1⟩)
    (fun i e σ act w K hs hy hk=>Ae i e σ act w K hs hy hk) (fun listed σ act w hs hc hsp ⟨f',e1,e2,hq⟩=>?_) _ _ (look f,false) ⟨tmps,C.ds⟩ _ ⟨rfl,G,by simpa using hs'⟩ hcl ?_
  · obtain⟨tmps,dfs⟩:=act
    obtain⟨rfl,G,hs⟩:=hs
    rw[e2] at hs
    simp only[if_true] at hs
    refine mh hw (nj hfore) (l.drop m) m listed ⟨tmps,C.ds⟩ w (Nat.le_refl _) (by simp;omega) (fun j=>by simp[List.getElem?_drop]) hc hsp.1 hsp.2.1 hsp.2.2 ?_
    exact hq tmps w ⟨G,hs.lE (fun t a ha=>by rw[←e1];exact ha)⟩
  · refine uE hw (fun i j oi oj hi hj hij him hjm hap hno=>AW hi hj hij hap hno) (l.take m) 0 _ _ (by rw[hlen];omega) (fun j hj=>?_) hcl (by simp;omega) (fun j hj=>by omega) (fun j _ hj=>?_) (by rw[hlen];rw[hsz,hlen] at hlex;exact hlex) h
    · rw[hlen] at hj
      rw[Nat.zero_add]
      simp[List.getElem?_take,hj]
    · have hj':j < l.length:=by simpa using hj
      have e:min m l.length+(l.length - m)=l.length:=by omega
      simp[e,hj']
variable {op:Op} {ty:TypeId} {pos:String} {af:Array Edge} {a:A} {d i:Nat} {rest:List Oper} {f:List (Nat×A)} {Q:St→Prop} {o:Oper} {ph:Bool}
theorem CC.Bc (h:Q ⟨f,S.bx1,S.lv1,S.gen1⟩):CC P C n S ops c Q [] i f true:=⟨f,fun _=>rfl,rfl,h⟩
theorem YA.sH {bx:List (Nat×List A)} {lv:List Nat} {gen:Nat} (hp:Pu P C n ⟨cN f (slotsOf op),bx,lv,gen⟩ ⟨some d,op,ty,pos,af,none⟩ a) (hd:Nat.blt d n=true):YA P C n bx lv gen ops ⟨some d,op,ty,pos,af,none⟩ a (look f):=
  ⟨hd,.inl ⟨rfl,_,fun t x hx=>by
    obtain⟨h1,h2⟩:=ez hx
    exact⟨h1,List.mem_append.2 (.inl h2)⟩,hp⟩⟩
theorem AZ (h1:Pu P C n ⟨cN f (slotsOf op),S.bx1,S.lv1,S.gen1⟩ ⟨some d,op,ty,pos,af,none⟩ a) (h0:Pu P C n ⟨cN f (slotsOf op),S.bx0,S.lv0,S.gen0⟩ ⟨some d,op,ty,pos,af,none⟩ a)
    (hi:ops[i]? = some ⟨some d,op,ty,pos,af,none⟩) (hc:Nat.beq i c=false) (b0:cb .any ops i c=false) (b1:cb .any ops c i=false) (hd:Nat.blt d n=true)
    (h:CC P C n S ops c Q rest (i+1) ((d,a)::f) ph):CC P C n S ops c Q (⟨some d,op,ty,pos,af,none⟩::rest) i f ph:=by
  have hic:i≠c:=fun e=>by subst e;simp at hc
  refine⟨a,⟨_,hi,hd,.inr ⟨hic,fun _=>YA.sH h0 hd,fun _=>YA.sH h1 hd,fun _=>b0,fun _=>b1⟩⟩,?_⟩
  rw[iM hi]
  simp only[if_neg hic]
  unfold CC at h
  rw[e5] at h
  exact h
theorem Am (h0:Pu P C n ⟨cN f (slotsOf op),S.bx0,S.lv0,S.gen0⟩ ⟨some d,op,ty,pos,af,none⟩ a)
    (hi:ops[i]? = some ⟨some d,op,ty,pos,af,none⟩) (hc:Nat.beq i c=false) (b0:cb .any ops i c=false) (b1:cb .any ops c i=true) (hd:Nat.blt d n=true)
    (h:CC P C n S ops c Q rest (i+1) ((d,a)::f) false):CC P C n S ops c Q (⟨some d,op,ty,pos,af,none⟩::rest) i f false:=by
  have hic:i≠c:=fun e=>by subst e;simp at hc
  refine⟨a,⟨_,hi,hd,.inr ⟨hic,fun _=>YA.sH h0 hd,(fun h=>by rw[b1] at h;cases h),fun _=>b0,fun h=>by cases h⟩⟩,?_⟩
  rw[iM hi]
  simp only[if_neg hic]
  unfold CC at h
  rw[e5] at h
  exact h
theorem AX (hx:∀ g,WO P C n ops (fun e st=>e=.normal∧st=⟨cN f (slotsOf op)++g,S.bx1,S.lv1,S.gen1⟩) [⟨none,op,ty,pos,af,none⟩] ⟨cN f (slotsOf op)++g,S.bx0,S.lv0,S.gen0⟩)
    (hi:ops[i]? = some ⟨none,op,ty,pos,af,none⟩) (hc:Nat.beq i c=true) (h:CC P C n S ops c Q rest (i+1) f true):CC P C n S ops c Q (⟨none,op,ty,pos,af,none⟩::rest) i f false:=by
  have hic:i=c:=Nat.eq_of_beq_eq_true hc
  refine⟨.any,⟨_,hi,rfl,.inl ⟨hic,rfl,rfl,cN f (slotsOf op),fun t x hx=>?_,fun g=>hx g⟩⟩,?_⟩
  · obtain⟨h1,h2⟩:=ez hx
    exact⟨h1,List.mem_append.2 (.inl h2)⟩
  · rw[iM hi]
    simp only[if_pos hic]
    exact h
variable {bx0 bx1:List (Nat×List A)} {lv0 lv1:List Nat} {gen0 gen1:Nat}
theorem CC.nil (h:Q ⟨f,bx1,lv1,gen1⟩):CC P C n ⟨bx0,bx1,lv0,lv1,gen0,gen1⟩ ops c Q [] i f true:=
  CC.Bc (S:=⟨bx0,bx1,lv0,lv1,gen0,gen1⟩) h
theorem cg (h1:Pu P C n ⟨cN f (slotsOf op),bx1,lv1,gen1⟩ ⟨some d,op,ty,pos,af,none⟩ a) (h0:Pu P C n ⟨cN f (slotsOf op),bx0,lv0,gen0⟩ ⟨some d,op,ty,pos,af,none⟩ a)
    (hi:ops[i]? = some ⟨some d,op,ty,pos,af,none⟩) (hc:Nat.beq i c=false) (b0:cb .any ops i c=false) (b1:cb .any ops c i=false) (hd:Nat.blt d n=true)
    (h:CC P C n ⟨bx0,bx1,lv0,lv1,gen0,gen1⟩ ops c Q rest (i+1) ((d,a)::f) ph):CC P C n ⟨bx0,bx1,lv0,lv1,gen0,gen1⟩ ops c Q (⟨some d,op,ty,pos,af,none⟩::rest) i f ph:=
  AZ (S:=⟨bx0,bx1,lv0,lv1,gen0,gen1⟩) h1 h0 hi hc b0 b1 hd h
theorem bz (h0:Pu P C n ⟨cN f (slotsOf op),bx0,lv0,gen0⟩ ⟨some d,op,ty,pos,af,none⟩ a)
    (hi:ops[i]? = some ⟨some d,op,ty,pos,af,none⟩) (hc:Nat.beq i c=false) (b0:cb .any ops i c=false) (b1:cb .any ops c i=true) (hd:Nat.blt d n=true)
    (h:CC P C n ⟨bx0,bx1,lv0,lv1,gen0,gen1⟩ ops c Q rest (i+1) ((d,a)::f) false):CC P C n ⟨bx0,bx1,lv0,lv1,gen0,gen1⟩ ops c Q (⟨some d,op,ty,pos,af,none⟩::rest) i f false:=
  Am (S:=⟨bx0,bx1,lv0,lv1,gen0,gen1⟩) h0 hi hc b0 b1 hd h
theorem mR (hx:∀ g,WO P C n ops (fun e st=>e=.normal∧st=⟨cN f (slotsOf op)++g,bx1,lv1,gen1⟩) [⟨none,op,ty,pos,af,none⟩] ⟨cN f (slotsOf op)++g,bx0,lv0,gen0⟩)
    (hi:ops[i]? = some ⟨none,op,ty,pos,af,none⟩) (hc:Nat.beq i c=true) (h:CC P C n ⟨bx0,bx1,lv0,lv1,gen0,gen1⟩ ops c Q rest (i+1) f true):CC P C n ⟨bx0,bx1,lv0,lv1,gen0,gen1⟩ ops c Q (⟨none,op,ty,pos,af,none⟩::rest) i f false:=
  AX (S:=⟨bx0,bx1,lv0,lv1,gen0,gen1⟩) hx hi hc h
end
end Go.Ab
namespace Go.Ab
open Go.RowKit
/-! ### whatever the states are: with paths in place of edges -/
section
variable {P:Program} {ops:Array Oper} {md:Region.Mode} {m:Nat} {S E:Type} {Y:Nat→E→S→Prop} {ef:Nat→E→S→S}
def loose (md:Region.Mode) (ops:Array Oper) (i j:Nat):Prop:=cV md ops ops.size i j=false∧cV md ops ops.size j i=false
theorem vL {j i:Nat} {oj:Oper} {e:Edge} (hj:ops[j]? = some oj) (he:e∈oj.after) (hb:Region.binds md e=true) (h:e.on=i):cb md ops j i=true:=by
  unfold cb
  rw[hj]
  exact List.any_eq_true.2 ⟨e,by simpa using he,by simp[hb,h]⟩
theorem tY {j i:Nat} (h:cV md ops ops.size j i=false) (hj:j < ops.size):cb md ops j i=false:=by
  cases q:ops.size with
  | zero=>omega
  | succ k=>
    rw[q] at h
    simp only[cV,Bool.or_eq_false_iff] at h
    exact h.1
theorem pq {i j:Nat} {listed:Array Bool} (hc:eY md ops listed) (hi:i∈Region.ready md ops listed) (hj:listed.getD j true=false):cV md ops ops.size i j=false:=by
  obtain⟨_,oi,hoi,hall⟩:=mem_ready.1 hi
  cases q:cV md ops ops.size i j with
  | false=>rfl
  | true=>
    have:=lg hc _ i j q fun o ho e he hb=>by rw[hoi] at ho;cases ho;exact hall e he hb
    rw[eu hj] at this
    cases this
theorem vI {Q:S→Prop} {i:Nat} {oi:Oper} {e:E} (hw:mX md ops m=true) (him:i < m) (hi:ops[i]? = some oi) :
    ∀ (fuel:Nat) (listed:Array Bool) (σ:S),eY md ops listed →
      (∀ j oj,ops[j]? = some oj→j≠i→j < m→listed.getD j true=false→cV md ops ops.size j i=false→oF Y ef i j) →
      i∈Region.ready md ops listed→Y i e σ→rQ Y ef m md ops Q fuel (listed.setIfInBounds i true) (ef i e σ)→rQ Y ef m md ops Q (fuel+1) listed σ:=by
  have unl:∀ {listed:Array Bool},i∈Region.ready md ops listed→listed.getD i false=false:=fun hr=>eu (mem_ready.1 hr).1
  intro fuel
  induction fuel with
  | zero=>
    intro listed σ hc _ hr hy H
    refine⟨fun h=>(by rw[h] at hr;cases hr),fun j hj=>?_⟩
    by_cases hji:j=i
    · subst hji;exact⟨e,hy,H⟩
    · exfalso
      obtain⟨⟨_,h1,h2⟩,_⟩:=H
      have hj1:=(mem_ready.1 hj).1
      by_cases hjm:j < m
      · have:=h1 j hjm
        rw[getD_set_ne false (Ne.symm hji)] at this
        rw[eu hj1] at this
        cases this
      · have:=n0 hw (by omega) (show i < j by omega) hc hj
        rw[unl hr] at this
        cases this
  | succ fuel ih=>
    intro listed σ hc hfree hr hy H
    refine⟨fun h=>(by rw[h] at hr;cases hr),fun j hj=>?_⟩
    by_cases hji:j=i
    · subst hji;exact⟨e,hy,H⟩
    · obtain⟨e',hy',H'⟩:=H.2 j (ready_mono hj hji)
      obtain⟨hjun,oj,hoj,hall⟩:=mem_ready.1 hj
      have hnot:cV md ops ops.size j i=false:=pq hc hj (mem_ready.1 hr).1
      have hjm:j < m:=by
        rcases Nat.lt_or_ge j m with h | h
        · exact h
        · have:=n0 hw h (show i < j by omega) hc hj
          rw[unl hr] at this
          cases this
      obtain⟨s1,s2,s3⟩:=hfree j oj hoj hji hjm hjun hnot e e' σ hy hy'
      have hfree':∀ k ok,ops[k]? = some ok→k≠i→k < m→(listed.setIfInBounds j true).getD k true=false→cV md ops ops.size k i=false→oF Y ef i k:=fun k ok hk hki hkm hun hno=>by
        refine hfree k ok hk hki hkm ?_ hno
        by_cases hjk:j=k
        · subst hjk;exact hjun
        · rw[getD_set_ne true hjk] at hun;exact hun
      refine⟨e',s1,ih (listed.setIfInBounds j true) _ (hc.add hj) hfree' (ready_mono hr (Ne.symm hji)) s2 ?_⟩
      rw[Array.setIfInBounds_comm _ _ hji,←s3]
      exact H'
theorem sW {Q:S→Prop} (hw:mX md ops m=true)
    (hsw:∀ i j oi oj,ops[i]? = some oi→ops[j]? = some oj→i≠j→i < m→j < m→oi.apart ops oj=true→loose md ops i j→oF Y ef i j) :
    ∀ (l:List Oper) (k:Nat) (listed:Array Bool) (σ:S),k+l.length=m→(∀ j,j < l.length→l[j]? = ops[k+j]?)→eY md ops listed →
    listed.size=ops.size→(∀ j,j < k→listed.getD j false=true)→(∀ j,k≤j→j < ops.size→listed.getD j true=false) →
    mG md ops l.length k listed=true→wW Y ef Q l k σ→rQ Y ef m md ops Q l.length listed σ
  | [],k,listed,σ,hk,_,_,hs,h1,h2,_,h=>⟨⟨hs,fun j hj=>h1 j (by simp at hk;omega),fun j hj hj'=>h2 j (by simp at hk;omega) hj'⟩,h⟩
  | o::l,k,listed,σ,hk,hl,hc,hs,h1,h2,hB,h=>by
    have h0:ops[k]? = some o:=by simpa using (hl 0 (by simp)).symm
    have hks:k < ops.size:=(Array.getElem?_eq_some_iff.1 h0).1
    simp only[List.length_cons,mG,Bool.and_eq_true] at hB
    obtain⟨⟨hr,hf⟩,hB'⟩:=hB
    have hr':k∈Region.ready md ops listed:=by simpa using hr
    obtain⟨e,hy,hK⟩:=h
    have hkm:k < m:=by simp at hk;omega
    refine vI hw hkm h0 l.length listed σ hc (fun j oj hoj hjk hjm hun hno=>hsw k j o oj h0 hoj (Ne.symm hjk) hkm hjm (Region.free_spec h0 hf j oj hoj hjk hun fun e he hb heq=>?_) ⟨pq hc hr' hun,hno⟩) hr' hy
      (sW hw hsw l (k+1) _ _ (by simp at hk;omega) (fun j hj=>by have:=hl (j+1) (by simpa using hj);simpa [Nat.add_assoc,Nat.add_comm 1 j] using this) (hc.add hr') (by simpa using hs) (fun j hj=>?_) (fun j hj hj'=>?_) hB' hK)
    · have h3:=tY hno (Array.getElem?_eq_some_iff.1 hoj).1
      rw[vL hoj he hb heq] at h3
      cases h3
    · rcases Nat.lt_succ_iff_lt_or_eq.1 hj with hlt | rfl
      · exact getD_set_true (h1 j hlt)
      · simp[hs,hks]
    · rw[getD_set_ne true (by omega)]
      exact h2 j (by omega) hj'
end
/-! ### what a renumbering leaves as it is -/
mutual
theorem rq {o o':List Nat} (h:∀ g,pos o g=some g→pos o' g=some g):∀ a,bQ o a=a→bQ o' a=a
  | .own g es,e=>by
    simp only[bQ] at e ⊢
    cases q:pos o g with
    | none=>rw[q] at e;cases e
    | some i=>
      rw[q] at e
      simp only[A.own.injEq,and_true] at e
      subst e
      rw[h _ q]
  | .ptr g off,e=>by
    simp only[bQ] at e ⊢
    cases q:pos o g with
    | none=>rw[q] at e;cases e
    | some i=>
      rw[q] at e
      simp only[A.ptr.injEq,and_true] at e
      subst e
      rw[h _ q]
  | .xs g es,e=>by
    simp only[bQ] at e ⊢
    cases q:pos o g with
    | none=>rw[q] at e;cases e
    | some i=>
      rw[q] at e
      simp only[A.xs.injEq,and_true] at e
      subst e
      rw[h _ q]
  | .xp g i off l,e=>by
    simp only[bQ] at e ⊢
    cases q:pos o g with
    | none=>rw[q] at e;cases e
    | some j=>
      rw[q] at e
      simp only[A.xp.injEq,and_true] at e
      subst e
      rw[h _ q]
  | .mp g es,e=>by
    simp only[bQ] at e ⊢
    cases q:pos o g with
    | none=>rw[q] at e;cases e
    | some i=>
      rw[q] at e
      simp only[A.mp.injEq,and_true] at e
      subst e
      rw[h _ q]
  | .lk g n c v,e=>by
    simp only[bQ] at e ⊢
    cases q:pos o g with
    | none=>rw[q] at e;cases e
    | some i=>
      rw[q] at e
      simp only[A.lk.injEq,and_true] at e
      subst e
      rw[h _ q]
  | .sb g n c,e=>by
    simp only[bQ] at e ⊢
    cases q:pos o g with
    | none=>rw[q] at e;cases e
    | some i=>
      rw[q] at e
      simp only[A.sb.injEq,and_true] at e
      subst e
      rw[h _ q]
  | .np g T u,e=>by
    simp only[bQ] at e ⊢
    cases q:pos o g with
    | none=>rw[q] at e;cases e
    | some i=>
      rw[q] at e
      simp only[A.np.injEq,and_true] at e
      subst e
      rw[h _ q]
  | .bf g T s,e=>by
    simp only[bQ] at e ⊢
    cases q:pos o g with
    | none=>rw[q] at e;cases e
    | some i=>
      rw[q] at e
      simp only[A.bf.injEq,and_true] at e
      subst e
      rw[h _ q]
  | .agg l,e=>by simp only[bQ,A.agg.injEq] at e ⊢;exact j6 h l e
  | .tup l,e=>by simp only[bQ,A.tup.injEq] at e ⊢;exact j6 h l e
  | .row l,e=>by simp only[bQ,A.row.injEq] at e ⊢;exact j6 h l e
  | .clo f l,e=>by simp only[bQ,A.clo.injEq,true_and] at e ⊢;exact j6 h l e
  | .bnd f l,e=>by simp only[bQ,A.bnd.injEq,true_and] at e ⊢;exact j6 h l e
  | .d _,_=>rfl
  | .ag _,_=>rfl
  | .rowd _,_=>rfl
  | .ni,_=>rfl
  | .fl _,_=>rfl
  | .any,_=>rfl
theorem j6 {o o':List Nat} (h:∀ g,pos o g=some g→pos o' g=some g):∀ l,fR o l=l→fR o' l=l
  | [],_=>rfl
  | a::l,e=>by
    simp only[fR,List.cons.injEq] at e ⊢
    exact⟨rq h a e.1,j6 h l e.2⟩
end
def vX (o o':List Nat):Bool:=(List.range o.length).all fun g=>!(pos o g == some g) || pos o' g == some g
theorem wo {o o':List Nat} (h:vX o o'=true) (g:Nat) (hg:pos o g=some g):pos o' g=some g:=by
  have hlt:=(List.getElem?_eq_some_iff.1 (cQ hg)).1
  have:=List.all_eq_true.1 h g (List.mem_range.2 hlt)
  simp only[hg,beq_self_eq_true,Bool.not_true,Bool.false_or,beq_iff_eq] at this
  exact this
end Go.Ab
namespace Go.Ab
open Go.RowKit
theorem qC (cur:Array Value) (c:List Value) (p i:Nat) (h:p+c.length≤cur.size) :
    (cur.toList.take p++c++cur.toList.drop (p+c.length)).toArray[i]? = if p≤i∧i < p+c.length then c[i - p]? else cur[i]?:=by
  have e1:(cur.toList.take p).length=p:=by simp;omega
  rw[List.getElem?_toArray]
  rcases Nat.lt_or_ge i p with hi | hi
  · rw[if_neg (by omega),List.append_assoc,List.getElem?_append_left (by omega),List.getElem?_take,if_pos hi];simp
  · rcases Nat.lt_or_ge i (p+c.length) with hi2 | hi2
    · rw[if_pos ⟨hi,hi2⟩,List.append_assoc,List.getElem?_append_right (by omega),List.getElem?_append_left (by omega),e1]
    · rw[if_neg (by omega),List.append_assoc,List.getElem?_append_right (by omega),List.getElem?_append_right (by omega),List.getElem?_drop,e1]
      have:p+c.length+(i - p - c.length)=i:=by omega
      rw[this];simp
theorem ur (cur:Array Value) (c:List Value) (p:Nat) (h:p+c.length≤cur.size):(cur.toList.take p++c++cur.toList.drop (p+c.length)).toArray.size=cur.size:=by
  simp;omega
def gV (e:List D) (off:Nat) (cs:List D):List D:=e.take off++cs++e.drop (off+cs.length)
theorem s6 {e cs:List D} {off:Nat} (h:off+cs.length≤e.length):(gV e off cs).length=e.length:=by simp[gV];omega
theorem yf {e cs:List D} {off i:Nat} (h:off+cs.length≤e.length):(gV e off cs)[i]? = if off≤i∧i < off+cs.length then cs[i - off]? else e[i]?:=by
  have e1:(e.take off).length=off:=by simp;omega
  unfold gV
  rcases Nat.lt_or_ge i off with hi | hi
  · rw[if_neg (by omega),List.append_assoc,List.getElem?_append_left (by omega),List.getElem?_take,if_pos hi]
  · rcases Nat.lt_or_ge i (off+cs.length) with hi2 | hi2
    · rw[if_pos ⟨hi,hi2⟩,List.append_assoc,List.getElem?_append_right (by omega),List.getElem?_append_left (by omega),e1]
    · rw[if_neg (by omega),List.append_assoc,List.getElem?_append_right (by omega),List.getElem?_append_right (by omega),List.getElem?_drop,e1]
      have:off+cs.length+(i - off - cs.length)=i:=by omega
      rw[this]
theorem fZ {tmps:Array Value} {d:Nat} {v:Value} (h:tmps[d]? = some v):tmps.setIfInBounds d v=tmps:=by
  apply Array.ext_getElem?
  intro i
  rw[Array.getElem?_setIfInBounds]
  split
  · rename_i e
    subst e
    split
    · exact h.symm
    · rename_i hlt;exact absurd (Array.getElem?_eq_some_iff.1 h).1 hlt
  · rfl
section
variable {C:Ctx} {n:Nat} {st:St} {G:Gh} {tmps:Array Value} {w:World}
theorem fh.len (hs:aV C n st G tmps w) {g:Nat} {r:Row} (hg:G.own g=some r) {pv:Nat→Nat→Prop} {v:Value} {es:List (List D)} (h:fh w pv r v es) :
    ∃ a cap,v=.slice a es.length cap∧es.length≤cap∧es.length≤maxLen:=by
  cases r with
  | nil=>obtain⟨rfl,rfl⟩:=h;exact⟨none,0,rfl,Nat.le_refl _,by simp⟩
  | zero b=>obtain⟨rfl,rfl⟩:=h;exact⟨_,0,rfl,Nat.le_refl _,by simp⟩
  | mp b=>exact h.elim
  | blk b len cap sz pub=>
    obtain⟨rfl,h2,_⟩:=h
    obtain⟨_,_,_,_,_,_,_,h3,h4,_⟩:=hs.row g b len cap sz pub hg
    exact⟨_,cap,by rw[h2],by omega,by omega⟩
theorem aV.zH (h:aV C n st G tmps w) {g:Nat} {r:Row} (hg:G.own g=some r) {es:List (List D)} {v:Value} (hx:fh w (bD C G) r v es) (lv:List Nat) (hlv:∀ g'∈lv,g'∈st.lv∧g'≠g) :
    lD false C n st G tmps lv es v w w:=by
  cases r with
  | mp b=>exact hx.elim
  | nil=>
    obtain⟨rfl,rfl⟩:=hx
    exact h.nS (m:=false) hg ⟨.nil,0,by simp,rfl,rfl⟩ lv hlv
  | zero b=>
    obtain⟨rfl,rfl⟩:=hx
    exact h.nS (m:=false) hg ⟨.emp _ 0 (by simp),0,by simp,0,rfl⟩ lv hlv
  | blk b len cap sz pub=>
    obtain⟨rfl,hlen,rfl,hl,hr⟩:=hx
    obtain⟨hmine,hnb,huniq,cur,T,hcur,hcs,hlc,hcm,hz,hpos,_,hone⟩:=h.row g b len cap sz 0 hg
    let own':Nat→Option Row:=fun g'=>if g'=st.gen then some (.blk b len cap sz (len*sz)) else if g'=g then none else G.own g'
    have hgl:=h.gown g _ hg
    have hpv:∀ b' o,bD C ⟨G.box,own'⟩ b' o→bD C G b' o:=by
      rintro b' o (hp | hp | ⟨g',len',cap',sz',pub',hp,hl'⟩)
      · exact .inl hp
      · exact .inr (.inl hp)
      · simp only[own'] at hp
        split at hp
        · simp only[Option.some.injEq,Row.blk.injEq] at hp
          obtain⟨rfl,rfl,rfl,rfl,rfl⟩:=hp
          exact .inr (.inr ⟨g,len,cap,sz,0,hg,Nat.zero_le _⟩)
        · split at hp
          · cases hp
          · exact .inr (.inr ⟨g',len',cap',sz',pub',hp,hl'⟩)
    have hle:(aK C G st.gen w).le (aK C ⟨G.box,own'⟩ (st.gen+1) w):=mV h.fr h.fr (fun b o u hu hn=>⟨hu,fun hp=>hn (hpv b o hp)⟩) (fun _ _ h=>h)
      (fun g' r' hg' hr'=>by
        simp only[own',if_neg (Nat.ne_of_lt hg')] at hr'
        split at hr'
        · cases hr'
        · exact hr') (Nat.le_succ _) (fun _ _ _ _ _ _ _ _=>rfl) (fun _ _ _ _=>rfl) (.refl w)
    refine⟨⟨⟨G.box,own'⟩,rfl,{ size:=h.size,frame:=h.eS hle,inj:=h.inj,xold:=h.xold,kold:=h.kold,lent:=h.lent,fr:=h.fr,box:=?_,gbox:=?_,live:=?_,gown:=?_,row:=?_,mrow:=?_ },?_⟩⟩
    · intro g' cells hc
      obtain⟨b,cs,T,h1,h2,h3,h4,h5⟩:=h.box g' cells hc
      exact⟨b,cs,T,h1,h2,h3,h4,fun i u a hu ha=>(h5 i u a hu ha).mono hle⟩
    · intro g' b hb
      obtain⟨h1,h2⟩:=h.gbox g' b hb
      exact⟨Nat.lt_succ_of_lt h1,h2⟩
    · intro g' hg'
      rcases List.mem_cons.1 hg' with rfl | hg'
      · exact⟨_,by simp[own'];rfl⟩
      · obtain⟨h1,h2⟩:=hlv g' hg'
        obtain⟨r',hr'⟩:=h.live g' h1
        exact⟨r',by simp only[own',if_neg (Nat.ne_of_lt (h.gown g' r' hr')),if_neg h2];exact hr'⟩
    · intro g' r' hr'
      simp only[own'] at hr'
      split at hr'
      · simp only;omega
      · split at hr'
        · cases hr'
        · exact Nat.lt_succ_of_lt (h.gown g' r' hr')
    · intro g' b' len' cap' sz' pub' hr'
      simp only[own'] at hr'
      split at hr'
      · rename_i e
        simp only[Option.some.injEq,Row.blk.injEq] at hr'
        obtain⟨rfl,rfl,rfl,rfl,rfl⟩:=hr'
        refine⟨⟨hmine.1,fun o ho=>absurd (hmine.2 o ho) (Nat.not_lt_zero _)⟩,hnb,fun g2 bW cap2 sz2 pub2 h2=>?_,cur,T,hcur,hcs,hlc,hcm,hz,hpos,Nat.le_refl _,hone⟩
        simp only[own'] at h2
        split at h2
        · omega
        · split at h2
          · cases h2
          · rename_i e1 e2;exact absurd (huniq g2 bW cap2 sz2 pub2 h2) e2
      · split at hr'
        · cases hr'
        · rename_i e1 e2
          obtain⟨h4,h5,h6,h7⟩:=h.row g' b' len' cap' sz' pub' hr'
          have hne:b'≠b:=fun e=>by subst e;exact e2 (huniq g' len' cap' sz' pub' hr')
          refine⟨h4,h5,fun g2 bW cap2 sz2 pub2 h2=>?_,h7⟩
          simp only[own'] at h2
          split at h2
          · simp only[Option.some.injEq,Row.blk.injEq] at h2;exact absurd h2.1.symm hne
          · split at h2
            · cases h2
            · exact h6 g2 bW cap2 sz2 pub2 h2
    · intro g' b' hr'
      have un:∀ g2,own' g2=some (.mp b')→G.own g2=some (.mp b'):=by
        intro g2 h2
        simp only[own'] at h2
        split at h2
        · cases h2
        · split at h2
          · cases h2
          · exact h2
      obtain⟨h4,h4b,h5,h6⟩:=h.mrow g' b' (un g' hr')
      exact⟨h4,h4b,fun g2 h2=>h5 g2 (un g2 h2),h6⟩
    · subst hlen
      refine .own _ _ es (bc.ofRow hcur hlc hcm hl (fun t ht hp=>?_) (fun i j e d hi hj=>?_)) (by simp[aK]) (fun r' hr'=>?_)
      · rcases(hp:bD C ⟨G.box,own'⟩ b t) with hp | ⟨g',hp⟩ | ⟨g',len',cap',sz',pub',hp,hl'⟩
        · have:=h.xold _ _ hp;rcases hmine.1 with hm | hm
          · omega
          · exact this.2 hm
        · exact hnb g' hp
        · simp only[own'] at hp
          split at hp
          · simp only[Option.some.injEq,Row.blk.injEq] at hp
            obtain⟨_,rfl,rfl,rfl,rfl⟩:=hp
            omega
          · split at hp
            · cases hp
            · rename_i e1 e2;exact e2 (huniq g' len' cap' sz' pub' hp)
      · obtain⟨u,h1,h2⟩:=hr i j e d hi hj
        rw[cd hcur] at h1
        exact⟨u,h1,h2.mono hle.cell⟩
      · have hr2:own' st.gen=some r':=hr'
        simp only[own',if_true,Option.some.injEq] at hr2
        subst hr2
        exact⟨sz,hl,rfl,rfl,rfl,rfl⟩
theorem aV.Ba (h:aV C n st G tmps w) {g b len cap sz:Nat} (hg:G.own g=some (.blk b len cap sz 0)) {es:List (List D)} {v:Value} (hx:fh w (bD C G) (.blk b len cap sz 0) v es) {j off:Nat} {e cs:List D} (he:es[j]? = some e)
    {vc:Array Value} (hc:cw (aK C G st.gen w) vc (cs.map .d)) (hle:off+cs.length≤e.length) (lv:List Nat) (hlv:∀ g'∈lv,g'∈st.lv∧g'≠g) :
    ∃ cur T,w.heap[b]? = some (.cells cur T (0,0))∧(j*sz+off)+vc.toList.length≤cur.size ∧
      lD true C n st G tmps lv (es.set j (gV e off cs)) v w (w.setRow b (cur.toList.take (j*sz+off)++vc.toList++cur.toList.drop ((j*sz+off)+vc.toList.length)).toArray):=by
  obtain⟨rfl,hlen,_,hl,hr⟩:=hx
  obtain⟨hmine,hnb,huniq,cur,T,hcur,hcs,hlc,hcm,hz,hpos,_,hone⟩:=h.row g b len cap sz 0 hg
  have hj:j < len:=by rw[←hlen];exact(List.getElem?_eq_some_iff.1 he).1
  have hel:e.length=sz:=hl e (List.mem_of_getElem? he)
  have hvc:vc.toList.length=cs.length:=by have:=hc.1;simpa using this
  have hfit:(j*sz+off)+vc.toList.length≤cur.size:=by
    rw[hvc,hcs]
    have h1:(j+1)*sz≤cap*sz:=Nat.mul_le_mul_right _ (by omega)
    rw[Nat.succ_mul] at h1
    omega
  refine⟨cur,T,hcur,hfit,?_⟩
  have hlen':(es.set j (gV e off cs)).length=len:=by rw[List.length_set];exact hlen
  have:=h.ri true (g:=g) (b:=b) (len:=len) (cap:=cap) (sz:=sz) (es:=es.set j (gV e off cs)) (by simpa [fN] using hg) hcur (ur cur vc.toList _ hfit) (mb hone fun u hu=>by obtain⟨i,hi⟩:=List.mem_iff_getElem?.1 hu;exact hc.2.1 i u (by simpa using hi)) (fun t ht=>by simp[fN] at ht) (by omega) (by omega) (fun x hx=>?_) (fun i k x d hi hk=>?_) lv hlv
  · rw[hlen'] at this
    exact this
  · rcases List.mem_or_eq_of_mem_set hx with hx | rfl
    · exact hl x hx
    · rw[s6 hle];exact hel
  · rw[List.getElem?_set] at hi
    have hcell:∀ i k u,cellAt w b (i*sz+k)=some u→cur[i*sz+k]? = some u:=fun i k u hu=>by rw[cd hcur] at hu;exact hu
    by_cases hij:j=i
    · subst hij
      rw[if_pos rfl,if_pos (by omega)] at hi
      simp only[Option.some.injEq] at hi
      subst hi
      rw[yf hle] at hk
      rw[qC cur vc.toList _ _ hfit,hvc]
      by_cases hin:off≤k∧k < off+cs.length
      · rw[if_pos hin] at hk
        rw[if_pos (by omega)]
        have e1:j*sz+k - (j*sz+off)=k - off:=by omega
        rw[e1]
        have hlt:k - off < vc.size:=by have:=(List.getElem?_eq_some_iff.1 hk).1;simp at hvc;omega
        have hu:vc[k - off]? = some vc[k - off]:=by simp[hlt]
        have h3:=hc.2.2 (k - off) _ (.d d) hu (by rw[List.getElem?_map,hk];rfl)
        revert h3 hu
        generalize vc[k - off]=u
        intro hu h3
        cases h3 with
        | d h3=>exact⟨_,by rw[Array.getElem?_toList];exact hu,h3⟩
      · rw[if_neg hin] at hk
        rw[if_neg (by omega)]
        obtain⟨u,h1,h2⟩:=hr j k e d he hk
        exact⟨u,hcell j k u h1,h2⟩
    · rw[if_neg hij] at hi
      obtain⟨u,h1,h2⟩:=hr i k x d hi hk
      have hil:i < len:=by rw[←hlen];exact(List.getElem?_eq_some_iff.1 hi).1
      have hkl:k < sz:=by rw[←hl x (List.mem_of_getElem? hi)];exact(List.getElem?_eq_some_iff.1 hk).1
      rw[qC cur vc.toList _ _ hfit,hvc,if_neg]
      · exact⟨u,hcell i k u h1,h2⟩
      · rintro⟨h3,h4⟩
        rcases Nat.lt_or_gt_of_ne hij with hlt | hgt
        · have:(j+1)*sz≤i*sz:=Nat.mul_le_mul_right _ hlt
          rw[Nat.succ_mul] at this
          omega
        · have:(i+1)*sz≤j*sz:=Nat.mul_le_mul_right _ hgt
          rw[Nat.succ_mul] at this
          omega
end
section
variable {P:Program} (T:cB P) {C:Ctx} {n:Nat} {tmps:Array Value} {w:World} {G:Gh} {ops:Array Oper} {Q:Exit→St→Prop} {st:St} {o:Oper} {rest:List Oper}
theorem WO.y9 (hg:o.guard=none) (hd:ey n o.dst=true) {x y:Operand} {t e:Nat} {td ed:cc} (ho:o.op=.call ⟨.builtin .append,#[x,y],#[t,t]⟩) (ht:aA T.l t=some td) (hk:td.k=.slice e) (he:aA T.l e=some ed)
    {g:Nat} {es es2:List (List D)} (hx:av st.f x=some (.xs g es)) (hgl:g∈st.lv) {b:A} (hy:av st.f y=some b) (hb2:gI b=some es2) (hz:Nat.blt 0 ed.n=true) (hb0:Nat.blt 0 ed.b=true)
    (hl:∀ (x:List D),x∈es++es2→x.length=ed.n) (hb:(es.length+es2.length)*ed.b≤140737488355328)
    (h:WO P C n ops Q rest (St.put { st with lv:=st.gen::dw st.lv g,gen:=st.gen+1 } o.dst (.xs st.gen (es++es2)))):WO P C n ops Q (o::rest) st:=by
  refine WO.step hg fun tmps w ⟨G,hs⟩=>?_
  have hr:=hs.av hx
  have hr2:=gl hb2 (hs.av hy)
  obtain⟨r,hgr⟩:=hs.live g hgl
  generalize hv:Act.eval ⟨tmps,[]⟩ x=v at hr
  cases hr with
  | xs _ _ _ hgg h1 hrow=>
  have hx0:=hrow r hgr
  obtain⟨a,cap,h2,h3,_⟩:=fh.len hs hgr hx0
  obtain⟨v',w',hrun,⟨G',_,hs',hv'⟩⟩:=l8 T true hs ht hk he ⟨a,cap,h2,h3⟩ hr2 (.own g r hgr ⟨h1,hx0⟩) hl (Nat.le_of_ble_eq_true hz) (Nat.le_of_ble_eq_true hb0) hb o.type
  rw[←hv] at hrun
  exact cL (l9 ho hrun) ⟨_,⟨G',hs'.put (cP hd) hv'⟩,h⟩
theorem W.oL {c:Code} {d:Nat} (hl:look st.f d=some (.d (.v (.slice none 0 0)))) (hd:Nat.blt d n=true) (h:W P C n c Q (St.set { st with lv:=st.gen::st.lv,gen:=st.gen+1 } d (.xs st.gen []))):W P C n c Q st:=by
  intro tmps w ⟨G,hs⟩
  obtain⟨v,hv,hr⟩:=hs.frame _ _ hl
  cases hr with | d hr=>cases hr with | v _ _=>
  obtain⟨⟨G',_,hs',hv'⟩⟩:=hs.oK true st.lv (fun _ h=>h)
  refine h tmps w ⟨G',?_⟩
  have:=hs'.set (d:=d) (Nat.le_of_ble_eq_true hd) hv'
  rwa [fZ hv] at this
theorem W.freeze {c:Code} {d g:Nat} {es:List (List D)} (hl:look st.f d=some (.xs g es)) (hgl:g∈st.lv) (hd:Nat.blt d n=true)
    (h:W P C n c Q (St.set { st with lv:=st.gen::dw st.lv g,gen:=st.gen+1 } d (.own st.gen es))):W P C n c Q st:=by
  intro tmps w ⟨G,hs⟩
  obtain⟨v,hv,hr⟩:=hs.frame _ _ hl
  obtain⟨r,hgr⟩:=hs.live g hgl
  cases hr with
  | xs _ _ _ hgg h1 hrow=>
  obtain⟨⟨G',_,hs',hv'⟩⟩:=hs.zH hgr (hrow r hgr) (dw st.lv g) (fun g' hg'=>eR hg')
  refine h tmps w ⟨G',?_⟩
  have:=hs'.set (d:=d) (Nat.le_of_ble_eq_true hd) hv'
  rwa [fZ hv] at this
theorem Pu.vJ {x:Operand} {t e:Nat} {td:cc} (ho:o.op=.call ⟨.builtin .len,#[x],#[t]⟩) (ht:aA T.l t=some td) (hk:td.k=.slice e) {g:Nat} {es:List (List D)} (hx:av st.f x=some (.xs g es)) (hgl:g∈st.lv) :
    Pu P C n st o (.d (.v (.int .i64 es.length))):=by
  refine dU.pu fun G tmps w hs=>?_
  have hr:=hs.av hx
  obtain⟨r,hgr⟩:=hs.live g hgl
  generalize hv:Act.eval ⟨tmps,[]⟩ x=v at hr
  cases hr with
  | xs _ _ _ hgg h1 hrow=>
  obtain⟨a,cap,h2,_,hlen⟩:=fh.len hs hgr (hrow r hgr)
  refine⟨.int .i64 es.length,?_,.d (.v _ ?_)⟩
  · unfold execOp
    rw[ho]
    show Sem.run P (do let d ←resolve (Act.eval ⟨tmps,[]⟩) ⟨.builtin .len,#[x],#[t]⟩ o.type;invoke d.target d.args) w=_
    simp only[resolve,List.map_toArray,List.map_cons,List.map_nil,hv,h2,Sem.run_bind,Sem.run_pure,Result.andThen_ok,invoke,builtin,Builtin.len_]
    simp[run_underlying (T.dZ ht hk),goInt]
    rfl
  · simp only[maxLen] at hlen
    simp[dq,IntKind.min,IntKind.max,IntKind.signed,IntKind.bits]
    omega
theorem Pu.gA {t e:Nat} {x ix:Operand} (ho:o.op=.indexAddr t x ix) {td ed:cc} (ht:aA T.l t=some td) (hk:td.k=.slice e) (he:aA T.l e=some ed) {g:Nat} {es:List (List D)} (hx:av st.f x=some (.xs g es)) (hgl:g∈st.lv)
    {k:IntKind} {i:Int} (hi:av st.f ix=some (.d (.v (.int k i)))) (h0:0≤i) {l:List D} (hl:es[i.toNat]? = some l) (hlen:l.length=ed.n):Pu P C n st o (.xp g i.toNat 0 l):=by
  refine dU.pu fun G tmps w hs=>?_
  have hu:=T.dZ ht hk
  have hrx:=hs.av hx
  have hri:=hs.av hi
  obtain⟨r,hgr⟩:=hs.live g hgl
  generalize hvi:Act.eval ⟨tmps,[]⟩ ix=vi at hri
  cases hri with | d hri=>cases hri with | v _ _=>
  have hlt:i.toNat < es.length:=(List.getElem?_eq_some_iff.1 hl).1
  generalize hvx:Act.eval ⟨tmps,[]⟩ x=vx at hrx
  cases hrx with
  | xs _ _ _ hgg h1 hrow=>
  have hx0:=hrow r hgr
  cases r with
  | nil=>obtain⟨_,h2⟩:=hx0;rw[h2] at hlt;simp at hlt
  | zero b=>obtain⟨_,h2⟩:=hx0;rw[h2] at hlt;simp at hlt
  | mp b=>exact hx0.elim
  | blk b len cap sz pub=>
    obtain⟨rfl,h2,h3,h4,h5⟩:=hx0
    have hsz:sz=ed.n:=by rw[←h4 _ (List.mem_of_getElem? hl),hlen]
    subst hsz
    refine⟨.pointer (some ⟨b,i.toNat*ed.n,none⟩),?_,.xp _ g _ 0 l hgg rfl (fun r' hr'=>?_)⟩
    · unfold execOp
      rw[ho]
      show Sem.run P _ w=.ok _ w
      have hc2:0≤i∧i < (len:Int):=⟨h0,by omega⟩
      simp only[hvi,hvx,Instr.indexAt,asIntOf,Sem.run_bind,Sem.run_pure,Result.andThen_ok,run_underlying hu,hc2,and_self,if_true,T.sizeOf he]
      unfold Addr.add
      split
      · rename_i e;rw[e]
      · simp
    · have e2:r'=.blk b len cap ed.n pub:=Option.some.inj ((hr':G.own g=some r').symm.trans hgr)
      subst e2
      refine⟨rfl,by omega,by rw[Nat.zero_add];exact hlen,fun j d hj=>?_⟩
      obtain⟨u,h6,h7⟩:=h5 _ _ _ _ hl hj
      exact⟨u,by rw[Nat.add_zero];exact h6,h7⟩
theorem Pu.dP {t i:Nat} {x:Operand} (ho:o.op=.fieldAddr t x i) {fo ft m:Nat} (hf:mO T t i=some (fo,ft)) (hsz:cT T ft=m+1) {g j off:Nat} {l:List D} (hx:av st.f x=some (.xp g j off l)) (hgl:g∈st.lv) (hle:fo≤l.length) :
    Pu P C n st o (.xp g j (off+fo) (l.drop fo)):=by
  refine dU.pu fun G tmps w hs=>?_
  have hr:=hs.av hx
  obtain⟨r,hgr⟩:=hs.live g hgl
  generalize hv:Act.eval ⟨tmps,[]⟩ x=v at hr
  cases hr with
  | xp _ _ _ _ _ hgg h1 hrow=>
  have hx0:=hrow r hgr
  cases r with
  | nil=>exact hx0.elim
  | zero b=>exact hx0.elim
  | mp b=>exact hx0.elim
  | blk b len cap sz pub=>
    obtain⟨rfl,h2,h3,h4⟩:=hx0
    have hrun:(Instr.fieldAt t (.pointer (some ⟨b,j*sz+off,none⟩)) i).run P w=.ok (.pointer (some ⟨b,j*sz+(off+fo),none⟩)) w:=by
      have:=kj T hf hsz b (j*sz+off) w
      rwa [Nat.add_assoc] at this
    refine⟨.pointer (some ⟨b,j*sz+(off+fo),none⟩),?_,.xp _ g j (off+fo) (l.drop fo) hgg rfl (fun r' hr'=>?_)⟩
    · unfold execOp
      rw[ho]
      show Sem.run P _ w=.ok _ w
      simp only[hv,Sem.run_bind,hrun,Result.andThen_ok,Sem.run_pure]
    · have e2:r'=.blk b len cap sz pub:=Option.some.inj ((hr':G.own g=some r').symm.trans hgr)
      subst e2
      refine⟨rfl,h2,by simp;omega,fun k d hk=>?_⟩
      rw[List.getElem?_drop] at hk
      obtain⟨u,h5,h6⟩:=h4 _ _ hk
      refine⟨u,?_,h6⟩
      have e3:j*sz+(off+fo)+k=j*sz+off+(fo+k):=by omega
      rw[e3]
      exact h5
theorem Pu.ke {t:Nat} {x:Operand} (ho:o.op=.load t x) {g j off:Nat} {l:List D} (hx:av st.f x=some (.xp g j off l)) (hgl:g∈st.lv) {a:A} (ha:iR T t l=some a):Pu P C n st o a:=by
  refine dU.pu fun G tmps w hs=>?_
  have hr:=hs.av hx
  obtain⟨r,hgr⟩:=hs.live g hgl
  generalize hv:Act.eval ⟨tmps,[]⟩ x=v at hr
  cases hr with
  | xp _ _ _ _ _ hgg h1 hrow=>
  have hx0:=hrow r hgr
  cases r with
  | nil=>exact hx0.elim
  | zero b=>exact hx0.elim
  | mp b=>exact hx0.elim
  | blk b len cap sz pub=>
    obtain⟨rfl,h2,h3,h4⟩:=hx0
    have hcell:∀ k,k < l.length→∃ u,cellAt w b (j*sz+off+k)=some u:=fun k hk=>by
      obtain⟨u,h5,_⟩:=h4 k l[k] (by simp[hk])
      exact⟨u,h5⟩
    have key:=im (E:=aK C G st.gen w) T (t:=t) (a:=a) (b:=b) (off:=j*sz+off) (l:=l) (u:=fun k=>(cellAt w b (j*sz+off+k)).getD default)
      (fun k hk=>by obtain⟨u,hu⟩:=hcell k hk;show cellAt w b _=_;rw[hu];rfl) (fun k y hk=>by
        obtain⟨u,h5,h6⟩:=h4 k y hk
        have h5':cellAt w b (j*sz+off+k)=some u:=h5
        rw[h5']
        exact h6) ha
    obtain⟨v,h5,h6⟩:=key
    refine⟨v,?_,h6⟩
    rw[gG ho]
    show Sem.run P _ w=.ok _ w
    have h5':(Instr.loadAt t (.pointer (some ⟨b,j*sz+off,none⟩))).run P w=.ok v w:=h5
    simp only[hv,Sem.run_bind,h5',Result.andThen_ok,Sem.run_pure]
theorem ux {G:Gh} {tmps:Array Value} {w:World} (hs:aV C n st G tmps w) {t:TypeId} {x y:Operand} (ho:o.op=.store t x y) {g j off:Nat} {l:List D} (hx:av st.f x=some (.xp g j off l)) (hgl:g∈st.lv)
    {v:Value} {es:List (List D)} (hv:aW (aK C G st.gen w) v (.xs g es)) {e:List D} (he:es[j]? = some e) (hoff:off+l.length=e.length) {a:A} (ha:av st.f y=some a) {cs:List D} (hc:tJ a=some cs)
    (hsz:cT T t=cs.length) (hz:cs.length≠0) (hle:cs.length≤l.length) :
    ∃ w',(execOp (Act.eval ⟨tmps,[]⟩) o).run P w=.ok .skip w'∧lD true C n st G tmps (dw st.lv g) (es.set j (gV e off cs)) v w w'∧∀ b' g',G.box g'=some b'→w'.heap[b']? = w.heap[b']?:=by
  obtain⟨r,hgr⟩:=hs.live g hgl
  have hrx:=hs.av hx
  generalize hvx:Act.eval ⟨tmps,[]⟩ x=vx at hrx
  cases hv with
  | xs _ _ _ _ _ hrow=>
  cases hrx with
  | xp _ _ _ _ _ _ _ hrow2=>
  have hx1:=hrow r hgr
  have hx2:=hrow2 r hgr
  cases r with
  | nil=>exact hx2.elim
  | zero b=>exact hx2.elim
  | mp b=>exact hx2.elim
  | blk b len cap sz pub=>
    have hp0:pub=0:=hx1.2.2.1
    subst hp0
    obtain⟨rfl,_,_,_⟩:=hx2
    have hrc:=vh hc (hs.av ha)
    obtain⟨cur,T',hcur,hfit,hgrew⟩:=hs.Ba hgr hx1 he (off:=off) hrc (by omega) (dw st.lv g) (fun g' hg'=>eR hg')
    have hst:=run_storeCells_at P b (j*sz+off) T' (Act.eval ⟨tmps,[]⟩ y).cells.toList 0 cur w hcur (by simpa using hfit) (fun u hu=>by
      obtain⟨i,hi⟩:=List.mem_iff_getElem?.1 hu
      exact hrc.2.1 i u (by simpa using hi))
    obtain⟨d,hdt,hdn⟩:∃ d,aA T.l t=some d∧d.n=cs.length:=by
      unfold cT at hsz
      split at hsz
      · rename_i d hdt;exact⟨d,hdt,hsz⟩
      · exact absurd hsz.symm hz
    refine⟨_,?_,hgrew,fun b' g' hb'=>setRow_other w b b' _ (fun e=>(hs.row g b len cap sz 0 hgr).2.1 g' (e▸hb'))⟩
    unfold execOp
    rw[ho]
    show Sem.run P _ w=_
    simp only[hvx,Instr.storeAt,Instr.sureAddr,storeVar,Sem.run_bind,Sem.run_pure,Result.andThen_ok,T.sizeOf hdt]
    rw[if_neg (by rw[hdn];have:=hrc.1;simp at this ⊢;exact this)]
    simp only[Nat.add_zero] at hst
    simp only[hst,Result.andThen_ok]
theorem WO.qa (s:Nat) (hg:o.guard=none) (hd:ey n o.dst=true) {t:TypeId} {x y:Operand} (ho:o.op=.store t x y) {g j off:Nat} {l:List D} (hx:av st.f x=some (.xp g j off l)) (hgl:g∈st.lv)
    {es:List (List D)} (hl:look st.f s=some (.xs g es)) (hsn:Nat.blt s n=true) {e:List D} (he:es[j]? = some e) (hoff:off+l.length=e.length) {a:A} (ha:av st.f y=some a) {cs:List D} (hc:tJ a=some cs)
    (hsz:cT T t=cs.length) (hz:Nat.blt 0 cs.length=true) (hle:cs.length≤l.length)
    (h:WO P C n ops Q rest (St.put (St.set { st with lv:=st.gen::dw st.lv g,gen:=st.gen+1 } s (.xs st.gen (es.set j (gV e off cs)))) o.dst .any)):WO P C n ops Q (o::rest) st:=by
  refine WO.step hg fun tmps w ⟨G,hs⟩=>?_
  obtain⟨v,hv,hr⟩:=hs.frame s _ hl
  obtain⟨w',hrun,⟨G',_,hs',hv'⟩,_⟩:=ux (P:=P) T hs ho hx hgl hr he hoff ha hc hsz (by have:=Nat.le_of_ble_eq_true hz;omega) hle
  refine ng hrun ⟨_,⟨G',aV.put ?_ (cP hd) (.any _)⟩,h⟩
  have:=hs'.set (d:=s) (Nat.le_of_ble_eq_true hsn) hv'
  rwa [fZ hv] at this
end
end Go.Ab
namespace Go.Ab
open Go.RowKit
section
variable {P:Program} (T:cB P) {C:Ctx} {n:Nat} {ops:Array Oper} {Q:Exit→St→Prop} {rest:List Oper}
variable {f:List (Nat×A)} {bx:List (Nat×List A)} {lv:List Nat} {gen:Nat} {d:Nat} {op:Op} {ty:TypeId} {pos:String} {af:Array Edge} {a:A} {dst:Option Nat} {c:Code}
theorem ib {lv:List Nat} {g:Nat} (h:(lv.any fun h=>Nat.beq h g)=true):g∈lv:=by
  obtain⟨g',h1,h2⟩:=List.any_eq_true.1 h
  have:g'=g:=Nat.eq_of_beq_eq_true h2
  exact this▸h1
theorem wT {t e len:Nat} {parts:Array (Nat×Operand)} {td ed:cc} {es:List (List D)} (ht:aA T.l t=some td) (hk:td.k=.slice e) (he:aA T.l e=some ed) (hes:jN f 0 parts.toList=some es) (hlen:es.length=len)
    (hz:Nat.blt 0 ed.n=true) (hsm:Nat.ble (len*ed.n) 16777216=true) (hl:∀ (x:List D),x∈es→x.length=ed.n) (hd:Nat.blt d n=true)
    (h:WO P C n ops Q rest ⟨(d,.xs gen es)::f,bx,gen::lv,gen+1⟩):WO P C n ops Q (⟨some d,.buildSlice t len parts,ty,pos,af,none⟩::rest) ⟨f,bx,lv,gen⟩:=
  WO.pj (st:=⟨f,bx,lv,gen⟩) T true rfl hd rfl ht hk he hes hlen hz hsm hl h
theorem iY {x y:Operand} {t e:Nat} {td ed:cc} {g:Nat} {es es2:List (List D)} {b:A} (hx:av f x=some (.xs g es)) (hy:av f y=some b) (hb2:gI b=some es2) (ht:aA T.l t=some td) (hk:td.k=.slice e) (he:aA T.l e=some ed)
    (hgl:(lv.any fun h=>Nat.beq h g)=true) (hz:Nat.blt 0 ed.n=true) (hb0:Nat.blt 0 ed.b=true) (hd:Nat.blt d n=true) {r:List (List D)} (hr:es++es2=r) (hl:∀ (x:List D),x∈es++es2→x.length=ed.n)
    (hb:(es.length+es2.length)*ed.b≤140737488355328) {lv':List Nat} (hlv:gen::dw lv g=lv')
    (h:WO P C n ops Q rest ⟨(d,.xs gen r)::f,bx,lv',gen+1⟩):WO P C n ops Q (⟨some d,.call ⟨.builtin .append,#[x,y],#[t,t]⟩,ty,pos,af,none⟩::rest) ⟨f,bx,lv,gen⟩:=by
  subst hr;subst hlv
  exact WO.y9 (st:=⟨f,bx,lv,gen⟩) T rfl hd rfl ht hk he hx (ib hgl) hy hb2 hz hb0 hl hb h
theorem vJ {x:Operand} {t e:Nat} {td:cc} {g:Nat} {es:List (List D)} (hx:av f x=some (.xs g es)) (ht:aA T.l t=some td) (hk:td.k=.slice e) (hgl:(lv.any fun h=>Nat.beq h g)=true) :
    Pu P C n ⟨f,bx,lv,gen⟩ ⟨dst,.call ⟨.builtin .len,#[x],#[t]⟩,ty,pos,af,none⟩ (.d (.v (.int .i64 es.length))):=
  Pu.vJ (st:=⟨f,bx,lv,gen⟩) T rfl ht hk hx (ib hgl)
theorem gA {t e:Nat} {x ix:Operand} {td ed:cc} {g:Nat} {es:List (List D)} {k:IntKind} {i:Int} {l:List D} (hx:av f x=some (.xs g es)) (hi:av f ix=some (.d (.v (.int k i)))) (ht:aA T.l t=some td) (hk:td.k=.slice e) (he:aA T.l e=some ed)
    (hgl:(lv.any fun h=>Nat.beq h g)=true) (h0:0≤i) (hl:es[i.toNat]? = some l) (hlen:l.length=ed.n) :
    Pu P C n ⟨f,bx,lv,gen⟩ ⟨dst,.indexAddr t x ix,ty,pos,af,none⟩ (.xp g i.toNat 0 l):=
  Pu.gA (st:=⟨f,bx,lv,gen⟩) T rfl ht hk he hx (ib hgl) hi h0 hl hlen
theorem dP {t i:Nat} {x:Operand} {fo ft m:Nat} {g j off:Nat} {l:List D} (hx:av f x=some (.xp g j off l)) (hf:mO T t i=some (fo,ft)) (hsz:cT T ft=m+1) (hgl:(lv.any fun h=>Nat.beq h g)=true) (hle:Nat.ble fo l.length=true) {l':List D} (hl':l.drop fo=l') :
    Pu P C n ⟨f,bx,lv,gen⟩ ⟨dst,.fieldAddr t x i,ty,pos,af,none⟩ (.xp g j (off+fo) l'):=
  hl'▸Pu.dP (st:=⟨f,bx,lv,gen⟩) T rfl hf hsz hx (ib hgl) (Nat.le_of_ble_eq_true hle)
theorem ke {t:Nat} {x:Operand} {g j off:Nat} {l:List D} (hx:av f x=some (.xp g j off l)) (hgl:(lv.any fun h=>Nat.beq h g)=true) (ha:iR T t l=some a) :
    Pu P C n ⟨f,bx,lv,gen⟩ ⟨dst,.load t x,ty,pos,af,none⟩ a:=
  Pu.ke (st:=⟨f,bx,lv,gen⟩) T rfl hx (ib hgl) ha
theorem qa (s:Nat) {t:TypeId} {x y:Operand} {g j off:Nat} {l:List D} {es:List (List D)} {e:List D} {cs:List D} (hx:av f x=some (.xp g j off l)) (hl:look f s=some (.xs g es)) (ha:av f y=some a) (hc:tJ a=some cs) (he:es[j]? = some e) (hoff:off+l.length=e.length)
    (hgl:(lv.any fun h=>Nat.beq h g)=true) (hsn:Nat.blt s n=true) (hsz:cT T t=cs.length) (hz:Nat.blt 0 cs.length=true) (hle:Nat.ble cs.length l.length=true) {es':List (List D)} (hes:es.set j (gV e off cs)=es') {lv':List Nat} (hlv:gen::dw lv g=lv')
    (h:WO P C n ops Q rest ⟨(s,.xs gen es')::f,bx,lv',gen+1⟩):WO P C n ops Q (⟨none,.store t x y,ty,pos,af,none⟩::rest) ⟨f,bx,lv,gen⟩:=by
  subst hes;subst hlv
  exact WO.qa (st:=⟨f,bx,lv,gen⟩) T s rfl rfl rfl hx (ib hgl) hl hsn he hoff ha hc hsz hz (Nat.le_of_ble_eq_true hle) h
theorem rN (s:Nat) {g:Nat} {es:List (List D)} (hl:look f s=some (.xs g es)) (hgl:(lv.any fun h=>Nat.beq h g)=true) (hsn:Nat.blt s n=true) {lv':List Nat} (hlv:gen::dw lv g=lv')
    (h:W P C n c Q ⟨(s,.own gen es)::f,bx,lv',gen+1⟩):W P C n c Q ⟨f,bx,lv,gen⟩:=by
  subst hlv
  exact W.freeze (st:=⟨f,bx,lv,gen⟩) hl (ib hgl) hsn h
theorem aV.cellAt {st:St} {G:Gh} {tmps:Array Value} {w:World} (hs:aV C n st G tmps w) {g0 i:Nat} {cells:List A} (hb:aA st.bx g0=some cells) {x:A} (hi:cells[i]? = some x) :
    ∃ v,aW (aK C G st.gen w) v x∧∀ b cs T',G.box g0=some b→w.heap[b]? = some (.cells cs T' (0,0))→cs[i]? = some v:=by
  obtain⟨b,cs,T',h1,h2,h3,_,h5⟩:=hs.box g0 cells hb
  have hlt:i < cs.size:=by rw[h3];exact(List.getElem?_eq_some_iff.1 hi).1
  have hv:cs[i]? = some cs[i]:=by simp[hlt]
  refine⟨cs[i],h5 i _ x hv hi,fun b' cs' T2 h1' h2'=>?_⟩
  have e:b'=b:=Option.some.inj (h1'.symm.trans h1)
  subst e
  have e2:=Option.some.inj (h2'.symm.trans h2)
  injection e2 with e3 _ _
  rw[e3]
  exact hv
theorem zt {t e len:Nat} {parts:Array (Nat×Operand)} {td ed:cc} {es:List (List D)} (ht:aA T.l t=some td) (hk:td.k=.slice e) (he:aA T.l e=some ed) (hes:jN f 0 parts.toList=some es) (hlen:es.length=len)
    (hz:Nat.blt 0 ed.n=true) (hsm:Nat.ble (len*ed.n) 16777216=true) (hl:oU ed.n es=true) (hpos:Nat.blt 0 len=true):Pu P C n ⟨f,bx,lv,gen⟩ ⟨dst,.buildSlice t len parts,ty,pos,af,none⟩ (.fl es):=by
  have hz:=Nat.le_of_ble_eq_true hz
  have hsm:=Nat.le_of_ble_eq_true hsm
  have hpos:=Nat.le_of_ble_eq_true hpos
  have hl:=lV hl
  intro G tmps w hs
  obtain⟨cs',hrun,hcsz,_,hget⟩:=jI T (tmps:=tmps) hs ht hk he hes hlen hz hsm hl hpos
  have hb:Below w.heap.size w (w.alloc (.cells cs' e)):=(Below.refl _ w).alloc (Nat.le_refl _) _
  obtain⟨hle,hs'⟩:=hs.gL hb
  refine cL (v:=.slice (some ⟨w.heap.size,0,none⟩) len len) (w':=w.alloc (.cells cs' e)) ?_ ⟨hb,.fl _ _ ?_ ⟨_,by rw[hlen]⟩⟩
  · unfold execOp
    show Sem.run P _ w=.ok _ _
    simp only[Sem.run_bind,hrun,Result.andThen_ok,Sem.run_pure]
  · have:=bc.ofRow (w:=w.alloc (.cells cs' e)) (pv:=bD C G) (b:=w.heap.size) (cap:=len) (sz:=ed.n) (es:=es) (heap_alloc_new w _) (by omega) (by simp only[maxLen];have:len≤len*ed.n:=Nat.le_mul_of_pos_right _ hz;omega) hl
      (fun t _ hp=>by have:=oD hs hp;omega) (fun k j e' d hk hj=>by obtain⟨u,h1,h2⟩:=hget k j e' d hk hj;exact⟨u,h1,h2.mono hle.cell⟩)
    rw[hlen] at this
    exact this
end
end Go.Ab
namespace Go.Ab
open Go.RowKit
def rK:D→D
  | .v x=>bif isNil (.d (.v x)) then .sl [] else .v x
  | .sl es=>.sl es
theorem bc.rK {w:World} {pv:Nat→Nat→Prop} {v:Value} {d:D} (h:bc w pv v d):bc w pv v (Ab.rK d):=by
  cases d with
  | v x=>exact h.mf
  | sl es=>exact h
def vS:A→A
  | .d x=>.d (rK x)
  | .ag l=>.ag (l.map rK)
  | a=>a
theorem aW.vS {E:En} {v:Value} {a:A} (h:aW E v a):aW E v (Ab.vS a):=by
  cases a with
  | d x=>cases h with | d hd=>exact .d hd.rK
  | ag l=>
    cases h with
    | ag vs _ hs hd=>
      refine .ag vs _ (by simpa using hs) (fun i u x hu hx=>?_)
      rw[List.getElem?_map,Option.map_eq_some_iff] at hx
      obtain⟨y,hy,rfl⟩:=hx
      exact(hd i u y hu hy).rK
  | _=>exact h
section
variable {P:Program} {C:Ctx} {n:Nat} {ops:Array Oper} {Q:Exit→St→Prop} {f:List (Nat×A)} {bx:List (Nat×List A)} {lv:List Nat} {gen:Nat}
theorem tP (s:Nat) {a a':A} {l:List Oper} (hl:look f s=some a) (hsn:Nat.blt s n=true) (ha:Ab.vS a=a') (h:WO P C n ops Q l ⟨(s,a')::f,bx,lv,gen⟩):WO P C n ops Q l ⟨f,bx,lv,gen⟩:=by
  subst ha
  intro tmps w ⟨G,hs⟩
  obtain⟨v,hv,hr⟩:=hs.frame s _ hl
  refine h tmps w ⟨G,?_⟩
  have:=hs.set (d:=s) (Nat.le_of_ble_eq_true hsn) hr.vS
  rwa [fZ hv] at this
end
end Go.Ab
namespace Go.Ab
open Go.RowKit
structure jx where
  bxF:Nat→List (Nat×List A)
  bxT:Nat→List (Nat×List A)
  lv:Nat→List Nat
  gen:Nat→Nat
  ord:Nat→List Nat
  g0:Nat
  z:List A
  cs:List Nat
  al:Nat
  R:List PanicEntry→Prop
def jx.bx (S:jx) (k:Nat) (b:Bool):List (Nat×List A):=bif b then S.bxT k else S.bxF k
abbrev zN (ju:List (List (Nat×List A))) (lvs:List (List Nat)) (gens:List Nat) (cs:List Nat) (al:Nat):jx:=⟨fun _=>[],fun k=>ju.getD k [],fun k=>lvs.getD k [],fun k=>gens.getD k 0,fun _=>[],0,[],cs,al,fun _=>False⟩
def gZ (S:jx) (ops:Array Oper) (i k:Nat) (b:Bool):Bool:=
  ((List.range S.cs.length).all fun j=>bif Nat.blt j k then !cV .any ops ops.size (S.cs.getD j 0) i else !cV .any ops ops.size i (S.cs.getD j 0)) &&
  (bif b then !cV .any ops ops.size S.al i else (Nat.blt S.al ops.size && !cV .any ops ops.size i S.al))
theorem ae {S:jx} {ops:Array Oper} {i k:Nat} {b:Bool} (h:gZ S ops i k b=true) (h':gZ S ops i k b=false):False:=by rw[h] at h';cases h'
section
variable {P:Program} (T:cB P) {C:Ctx} {n:Nat} (S:jx) {ops:Array Oper}
abbrev SD:=dB×Nat×Bool
def zZ (C:Ctx) (n:Nat) (S:jx) (b0:Bool) (σ:SD) (act:Act) (w:World):Prop:=
  (b0=true→σ.2.2=true)∧act.defers=C.ds∧∃ G,et C n (S.bx σ.2.1 σ.2.2) (S.lv σ.2.1) (S.gen σ.2.1) σ.1 G act.tmps w∧(σ.2.2=false→∀ t a,σ.1 t=some a→bQ (S.ord σ.2.1) a=a)
def Aa (P:Program) (C:Ctx) (n:Nat) (S:jx) (ops:Array Oper) (o:Oper) (a:A) (k:Nat) (b:Bool) (φ:dB):Prop:=
  o.guard=none∧∃ p,(∀ t x,look p t=some x→φ t=some x∧t∈o.looksAt ops) ∧
    ∀ g,WO P C n ops (fun e st=>(e=.normal∧st=St.put ⟨p++g,S.bx (k+1) b,S.lv (k+1),S.gen (k+1)⟩ o.dst a)∨∃ c,e=.panic c∧S.R c) [o] ⟨p++g,S.bx k b,S.lv k,S.gen k⟩
def YD (P:Program) (T:cB P) (C:Ctx) (n:Nat) (S:jx) (ops:Array Oper) (i:Nat) (a:A) (σ:SD):Prop:=
  ∃ o,ops[i]? = some o∧ey n o.dst=true∧σ.2.1≤S.cs.length∧gZ S ops i σ.2.1 σ.2.2=true ∧
    ((S.cs[σ.2.1]? = some i∧i≠S.al∧(∀ b,gZ S ops i σ.2.1 b=true→Aa P C n S ops o a σ.2.1 b σ.1)∧(gZ S ops i σ.2.1 false=true→bQ (S.ord (σ.2.1+1)) a=a)) ∨
     (i∉S.cs∧i=S.al∧σ.2.2=false∧o.guard=none∧a=.ptr S.g0 0∧∃ e d dt,o.op=.alloc e∧o.dst=some d∧aA T.l e=some dt∧S.z=dt.z.map fun v=>A.d (.v v)) ∨
     (i∉S.cs∧i≠S.al∧∀ k b,k≤S.cs.length→gZ S ops i k b=true→YA P C n (S.bx k b) (S.lv k) (S.gen k) ops o a σ.1∧(b=false→bQ (S.ord k) a=a)))
def ve (S:jx) (ops:Array Oper) (i:Nat) (a:A) (σ:SD):SD:=
  match ops[i]? with
  | none=>σ
  | some o=>(bN σ.1 o.dst a,(if S.cs[σ.2.1]? = some i then σ.2.1+1 else σ.2.1),if i=S.al then true else σ.2.2)
variable {T} {S}
theorem oN {o:Oper} {a:A} {k:Nat} {b:Bool} {φ:dB} {dst:Option Nat} {x:A} (hd:∀ d,dst=some d→d∉o.looksAt ops):Aa P C n S ops o a k b (bN φ dst x)↔Aa P C n S ops o a k b φ:=by
  constructor
  · rintro⟨h0,p,h1,h2⟩
    exact⟨h0,p,fun t y hy=>⟨(fI hd (h1 t y hy).2).symm.trans (h1 t y hy).1,(h1 t y hy).2⟩,h2⟩
  · rintro⟨h0,p,h1,h2⟩
    exact⟨h0,p,fun t y hy=>⟨(fI hd (h1 t y hy).2).trans (h1 t y hy).1,(h1 t y hy).2⟩,h2⟩
theorem s7 {i k c:Nat} {b:Bool} (h:S.cs[k]? = some c) (hl:loose .any ops i c):gZ S ops i (k+1) b=gZ S ops i k b:=by
  unfold gZ
  congr 1
  rw[Bool.eq_iff_iff,List.all_eq_true,List.all_eq_true]
  have hk:S.cs.getD k 0=c:=by simp[List.getD_eq_getElem?_getD,h]
  have key:∀ j,(bif Nat.blt j (k+1) then !cV .any ops ops.size (S.cs.getD j 0) i else !cV .any ops ops.size i (S.cs.getD j 0))=(bif Nat.blt j k then !cV .any ops ops.size (S.cs.getD j 0) i else !cV .any ops ops.size i (S.cs.getD j 0)):=fun j=>by
    rcases Nat.lt_trichotomy j k with hj | rfl | hj
    · have h1:Nat.blt j (k+1)=true:=by simp[Nat.blt_eq];omega
      have h2:Nat.blt j k=true:=by simp[Nat.blt_eq];omega
      rw[h1,h2]
    · have h1:Nat.blt j (j+1)=true:=by simp[Nat.blt_eq]
      have h2:Nat.blt j j=false:=by cases q:Nat.blt j j with | false=>rfl | true=>simp[Nat.blt_eq] at q
      rw[h1,h2,hk,hl.1,hl.2]
      rfl
    · have h1:Nat.blt j (k+1)=false:=by cases q:Nat.blt j (k+1) with | false=>rfl | true=>simp[Nat.blt_eq] at q;omega
      have h2:Nat.blt j k=false:=by cases q:Nat.blt j k with | false=>rfl | true=>simp[Nat.blt_eq] at q;omega
      rw[h1,h2]
  exact⟨fun h j hj=>by rw[←key];exact h j hj,fun h j hj=>by rw[key];exact h j hj⟩
theorem qB {i k:Nat} (hlt:S.al < ops.size) (hl:loose .any ops i S.al):gZ S ops i k true=gZ S ops i k false:=by
  unfold gZ
  have h:Nat.blt S.al ops.size=true:=by rw[Nat.blt_eq];exact hlt
  rw[hl.1,hl.2,h]
  rfl
theorem loose.symm {md:Region.Mode} {i j:Nat} (h:loose md ops i j):loose md ops j i:=⟨h.2,h.1⟩
theorem mo {i:Nat} {o:Oper} (h:ops[i]? = some o) (a:A) (σ:SD):ve S ops i a σ=(bN σ.1 o.dst a,(if S.cs[σ.2.1]? = some i then σ.2.1+1 else σ.2.1),if i=S.al then true else σ.2.2):=by unfold ve;rw[h]
theorem tO {i k c:Nat} {b:Bool} (h:S.cs[k]? = some c) (hl:loose .any ops i c) (ha:gZ S ops i (k+1) b=true):gZ S ops i k b=true:=by rw[←s7 h hl];exact ha
theorem tx {i k c:Nat} {b:Bool} (h:S.cs[k]? = some c) (hl:loose .any ops i c) (ha:gZ S ops i k b=true):gZ S ops i (k+1) b=true:=by rw[s7 h hl];exact ha
theorem AJ (hch:∀ k c c',S.cs[k]? = some c→S.cs[k+1]? = some c'→cV .any ops ops.size c' c=true) {i j:Nat} {oi oj:Oper} (hi:ops[i]? = some oi) (hj:ops[j]? = some oj) (hij:i≠j) (hap:oi.apart ops oj=true) (hl:loose .any ops i j) :
    oF (YD P T C n S ops) (ve S ops) i j:=by
  obtain⟨a1,a2,a3⟩:=Oper.apart_spec hap
  rintro a b ⟨φ,k,ph⟩ ⟨oi',hi',di,hk,ai,hyi⟩ ⟨oj',hj',dj,hk2,aj,hyj⟩
  rw[hi] at hi'
  cases hi'
  rw[hj] at hj'
  cases hj'
  have hcomm:bN (bN φ oi.dst a) oj.dst b=bN (bN φ oj.dst b) oi.dst a:=lN φ a b a2
  have mem_of:∀ {k c:Nat},S.cs[k]? = some c→c∈S.cs:=fun h=>List.mem_of_getElem? h
  have klt:∀ {k c:Nat},S.cs[k]? = some c→k+1≤S.cs.length:=fun h=>(List.getElem?_eq_some_iff.1 h).1
  rw[mo hi] at aj hyj hk2
  simp only[mo hi,mo hj]
  simp only at hk ai hyi hk2 aj hyj
  rcases hyi with ⟨ci,nai,xi,fi⟩ | ⟨nci,ali,rfl,gi,ei,hi6⟩ | ⟨nci,nai,yi⟩
  · -- i is of the chain
    simp only[if_pos ci,if_neg nai] at aj hyj hk2
    rcases hyj with ⟨cj,_⟩ | ⟨ncj,alj,rfl,gj,ej,hj6⟩ | ⟨ncj,naj,yj⟩
    · exact absurd (hch k i j ci cj) (by rw[hl.2];simp)
    · have hsi:loose .any ops i S.al:=by rw[←alj];exact hl
      have hlt:S.al < ops.size:=by rw[←alj];exact(Array.getElem?_eq_some_iff.1 hj).1
      have n1:¬ S.cs[k]? = some j:=fun h=>ncj (mem_of h)
      refine⟨⟨oj,hj,dj,hk,tO ci hl.symm aj,.inr (.inl ⟨ncj,alj,rfl,gj,ej,hj6⟩)⟩,?_,?_⟩
      · refine⟨oi,hi,di,?_,?_,.inl ⟨?_,nai,fun b hb=>(oN a3).2 ?_,?_⟩⟩
        all_goals simp only[if_neg n1]
        · exact hk
        · rw[if_pos alj,qB hlt hsi];exact ai
        · exact ci
        · simp only[if_neg n1] at hb
          exact xi b hb
        · exact fi
      · simp only[if_pos ci,if_neg nai,if_pos alj,if_neg n1,hcomm]
        have n2:¬ S.cs[k+1]? = some j:=fun h=>ncj (mem_of h)
        rw[if_neg n2]
    · have n1:¬ S.cs[k]? = some j:=fun h=>ncj (mem_of h)
      have n2:¬ S.cs[k+1]? = some j:=fun h=>ncj (mem_of h)
      refine⟨⟨oj,hj,dj,hk,tO ci hl.symm aj,.inr (.inr ⟨ncj,naj,fun k b h1 h2=>⟨(en a1).1 (yj k b h1 h2).1,(yj k b h1 h2).2⟩⟩)⟩,?_,?_⟩
      · refine⟨oi,hi,di,?_,?_,.inl ⟨?_,nai,fun b hb=>(oN a3).2 ?_,?_⟩⟩
        all_goals simp only[if_neg n1]
        · exact hk
        · rw[if_neg naj];exact ai
        · exact ci
        · simp only[if_neg n1] at hb
          exact xi b hb
        · exact fi
      · simp only[if_pos ci,if_neg nai,if_neg naj,if_neg n1,if_neg n2,hcomm]
  · -- i is the allocation
    have n1:¬ S.cs[k]? = some i:=fun h=>nci (mem_of h)
    simp only[if_neg n1,if_pos ali] at aj hyj hk2
    have hsj:loose .any ops j S.al:=by rw[←ali];exact hl.symm
    have hlt:S.al < ops.size:=by rw[←ali];exact(Array.getElem?_eq_some_iff.1 hi).1
    rcases hyj with ⟨cj,naj,xj,fj⟩ | ⟨_,alj,h,_⟩ | ⟨ncj,naj,yj⟩
    · have n2:¬ S.cs[k+1]? = some i:=fun h=>nci (mem_of h)
      refine⟨⟨oj,hj,dj,hk,by rw[←qB hlt hsj];exact aj,.inl ⟨cj,naj,fun b hb=>(oN a1).1 (xj b hb),fj⟩⟩,?_,?_⟩
      · refine⟨oi,hi,di,?_,?_,.inr (.inl ⟨nci,ali,?_,gi,ei,hi6⟩)⟩
        all_goals simp only[if_pos cj,if_neg naj]
        · exact klt cj
        · exact tx cj hl ai
      · simp only[if_neg n1,if_pos ali,if_pos cj,if_neg naj,if_neg n2,hcomm]
    · exact absurd (ali.trans alj.symm) hij
    · have n3:¬ S.cs[k]? = some j:=fun h=>ncj (mem_of h)
      refine⟨⟨oj,hj,dj,hk,by rw[←qB hlt hsj];exact aj,.inr (.inr ⟨ncj,naj,fun k b h1 h2=>⟨(en a1).1 (yj k b h1 h2).1,(yj k b h1 h2).2⟩⟩)⟩,?_,?_⟩
      · refine⟨oi,hi,di,?_,?_,.inr (.inl ⟨nci,ali,?_,gi,ei,hi6⟩)⟩
        all_goals simp only[if_neg n3,if_neg naj]
        · exact hk
        · exact ai
      · simp only[if_neg n1,if_pos ali,if_neg n3,if_neg naj,hcomm]
  · -- i leaves the ghost
    have n1:¬ S.cs[k]? = some i:=fun h=>nci (mem_of h)
    simp only[if_neg n1,if_neg nai] at aj hyj hk2
    rcases hyj with ⟨cj,naj,xj,fj⟩ | ⟨ncj,alj,rfl,gj,ej,hj6⟩ | ⟨ncj,naj,yj⟩
    · have n2:¬ S.cs[k+1]? = some i:=fun h=>nci (mem_of h)
      refine⟨⟨oj,hj,dj,hk,aj,.inl ⟨cj,naj,fun b hb=>(oN a1).1 (xj b hb),fj⟩⟩,?_,?_⟩
      · refine⟨oi,hi,di,?_,?_,.inr (.inr ⟨nci,nai,fun k b h1 h2=>⟨(en a3).2 (yi k b h1 h2).1,(yi k b h1 h2).2⟩⟩)⟩
        all_goals simp only[if_pos cj,if_neg naj]
        · exact klt cj
        · exact tx cj hl ai
      · simp only[if_neg n1,if_neg nai,if_pos cj,if_neg naj,if_neg n2,hcomm]
    · have n3:¬ S.cs[k]? = some j:=fun h=>ncj (mem_of h)
      have hsi:loose .any ops i S.al:=by rw[←alj];exact hl
      have hlt:S.al < ops.size:=by rw[←alj];exact(Array.getElem?_eq_some_iff.1 hj).1
      refine⟨⟨oj,hj,dj,hk,aj,.inr (.inl ⟨ncj,alj,rfl,gj,ej,hj6⟩)⟩,?_,?_⟩
      · refine⟨oi,hi,di,?_,?_,.inr (.inr ⟨nci,nai,fun k b h1 h2=>⟨(en a3).2 (yi k b h1 h2).1,(yi k b h1 h2).2⟩⟩)⟩
        all_goals simp only[if_neg n3,if_pos alj]
        · exact hk
        · rw[qB hlt hsi];exact ai
      · simp only[if_neg n1,if_neg nai,if_neg n3,if_pos alj,hcomm]
    · have n3:¬ S.cs[k]? = some j:=fun h=>ncj (mem_of h)
      refine⟨⟨oj,hj,dj,hk,aj,.inr (.inr ⟨ncj,naj,fun k b h1 h2=>⟨(en a1).1 (yj k b h1 h2).1,(yj k b h1 h2).2⟩⟩)⟩,?_,?_⟩
      · refine⟨oi,hi,di,?_,?_,.inr (.inr ⟨nci,nai,fun k b h1 h2=>⟨(en a3).2 (yi k b h1 h2).1,(yi k b h1 h2).2⟩⟩)⟩
        all_goals simp only[if_neg n3,if_neg naj]
        · exact hk
        · exact ai
      · simp only[if_neg n1,if_neg nai,if_neg n3,if_neg naj,hcomm]
theorem WO.AQ {o:Oper} (hg:o.guard=none) {st:St} {Q1 Q2:Exit→St→Prop} (hl:∀ e st,Q1 e st→e≠.outgrown) (hq:∀ e st,Q1 e st→Q2 e st) (h:WO P C n ops Q1 [o] st):WO P C n ops Q2 [o] st:=by
  intro tmps w hs
  have hw:Region.wanted o (yielded ops tmps)=true:=by simp[Region.wanted,hg]
  have h:=h tmps w hs
  simp only[iA,hw,if_true] at h ⊢
  refine Oper.ss (fun c a w ⟨h1,st',h2,h3⟩=>⟨h1,st',h2,hq _ _ h3⟩) (fun hlo=>by obtain⟨_,_,hq0⟩:=hlo;obtain⟨_,st',_,he⟩:=hq0;exact hl _ _ he rfl) (fun act2 w2 ⟨h1,st',h2,h3⟩=>⟨h1,st',h2,hq _ _ h3⟩) h
theorem WO.Az {o:Oper} (hg:o.guard=none) {st st1:St} {G:Gh} {tmps:Array Value} {w:World} {R:List PanicEntry→Prop} {Q':Exit→Act→World→Prop} (hR:∀ c act w,R c→act.defers=C.ds→(∃ st,iG C n st act.tmps w)→Q' (.panic c) act w) (h:WO P C n ops (fun e st=>(e=.normal∧st=st1)∨∃ c,e=.panic c∧R c) [o] st) (hs:aV C n st G tmps w) :
    o.wp P ⟨tmps,C.ds⟩ w (fun act w=>act.defers=C.ds∧∃ G,aV C n st1 G act.tmps w) Q':=by
  have hw:Region.wanted o (yielded ops tmps)=true:=by simp[Region.wanted,hg]
  have h:=h tmps w ⟨G,hs⟩
  simp only[iA,hw,if_true] at h
  refine Oper.ss (fun c a w hq=>?_) (fun hl=>?_) (fun act2 w2 hq=>?_) h
  · obtain⟨h1,st',h2,he | ⟨c',he,hc⟩⟩:=hq
    · cases he.1
    · cases he
      exact hR c a w hc h1 ⟨st',h2⟩
  · obtain⟨_,_,hq⟩:=hl
    obtain⟨_,st',_,he | ⟨c',he,hc⟩⟩:=hq
    · cases he.1
    · cases he
  · obtain⟨hdf,st',⟨G',hs2⟩,he | ⟨c',he,hc⟩⟩:=hq
    · obtain⟨_,rfl⟩:=he
      exact⟨hdf,G',hs2⟩
    · cases he
theorem uF {bx:List (Nat×List A)} {lv:List Nat} {gen:Nat} {φ:dB} {G:Gh} {tmps:Array Value} {w:World} (hs:et C n bx lv gen φ G tmps w) (t:Nat) (x:A) (hx:φ t=some x):t < n:=by
  obtain⟨v,h1,_⟩:=hs.2 t x hx
  have:=(Array.getElem?_eq_some_iff.1 h1).1
  rw[hs.1.size] at this
  exact this
theorem tz {φ:dB} {p:List (Nat×A)} (hlt:∀ t x,φ t=some x→t < n) (hp:∀ t x,look p t=some x→φ t=some x) (t:Nat):look (p++eO n φ) t=φ t:=by
  rw[tM]
  cases q:look p t with
  | some x=>exact(hp t x q).symm
  | none=>
    simp only
    unfold eO
    rw[lO]
    cases e:φ t with
    | none=>split <;> rfl
    | some x=>rw[if_pos (List.mem_range.2 (hlt t x e))]
theorem rV {φ:dB} {f:List (Nat×A)} (h:∀ t,look f t=φ t) {d:Nat} {a:A} {t:Nat}:look ((d,a)::f) t=bN φ (some d) a t:=by
  rw[bl]
  simp only[bN]
  by_cases e:t=d
  · subst e
    rw[if_pos rfl,if_pos rfl]
  · rw[if_neg e,if_neg (Ne.symm e),h]
def yw (S:jx) (nb k:Nat):Prop:=(kU (S.ord k) (S.gen k) nb=true∧pos (S.ord k) (S.gen k)=some S.g0)∧kk (S.ord k) ((S.gen k,S.z)::S.bxF k) (S.bxT k)∧se (S.ord k) (S.lv k) (S.lv k)=true
def qy (S:jx) (nb:Nat):Nat→Prop
  | 0=>yw S nb 0
  | k+1=>yw S nb (k+1)∧vX (S.ord k) (S.ord (k+1))=true∧qy S nb k
theorem qy.at {nb:Nat}:∀ {m:Nat},qy S nb m→∀ k,k≤m→yw S nb k
  | 0,h,k,hk=>by
    obtain rfl:k=0:=by omega
    exact h
  | m+1,h,k,hk=>by
    rcases Nat.lt_or_ge k (m+1) with hlt | hge
    · exact qy.at h.2.2 k (by omega)
    · obtain rfl:k=m+1:=by omega
      exact h.1
theorem qy.mono {nb:Nat}:∀ {m:Nat},qy S nb m→∀ k,k < m→vX (S.ord k) (S.ord (k+1))=true
  | 0,_,k,hk=>absurd hk (Nat.not_lt_zero _)
  | m+1,h,k,hk=>by
    rcases Nat.lt_or_ge k m with hlt | hge
    · exact qy.mono h.2.2 k hlt
    · obtain rfl:k=m:=by omega
      exact h.2.1
theorem AF {nb:Nat} [hnb:NB C nb] (b0:Bool) (hok:b0=false→qy S nb S.cs.length) (i:Nat) (a:A) (σ:SD) (act:Act) (w:World) (K:Act→World→Prop) {Q':Exit→Act→World→Prop} (hR:∀ c act w,S.R c→act.defers=C.ds→(∃ st,iG C n st act.tmps w)→Q' (.panic c) act w) (hs:zZ C n S b0 σ act w) (hy:YD P T C n S ops i a σ) (hK:∀ act w,zZ C n S b0 (ve S ops i a σ) act w→K act w):wpOp P ops Q' i K act w:=by
  obtain⟨tmps,dfs⟩:=act
  obtain⟨hb0,rfl,G,hs,hfix⟩:=hs
  obtain⟨φ,k,ph⟩:=σ
  obtain⟨o,ho,hd,hkl,hal,hy⟩:=hy
  rw[mo ho] at hK
  simp only at hs hfix hkl hal hy hK hb0
  unfold wpOp
  simp only[ho]
  rcases hy with ⟨hc,nal,hx,hr⟩ | ⟨nc,hal',rfl,hg,rfl,e,d,dt,hop,hdst,he,hz⟩ | ⟨nc,nal,hya⟩
  · obtain⟨hg,p,hp,hx⟩:=hx ph hal
    rw[if_pos hc,if_neg nal] at hK
    have hw:Region.wanted o (yielded ops tmps)=true:=by simp[Region.wanted,hg]
    rw[hw,if_pos rfl]
    refine .inl ?_
    have hlook:=tz (uF hs) (fun t x hx=>(hp t x hx).1)
    have hs':=hs.lE (f:=p++eO n φ) fun t x hx=>by rw[←hlook];exact hx
    refine Oper.wp_mono (fun act2 w2 ⟨hdf,G',hs2⟩=>hK act2 w2 ⟨hb0,hdf,G',?_,fun hph t x hx=>?_⟩) (WO.Az hg hR (hx (eO n φ)) hs')
    · show et C n (S.bx (k+1) ph) (S.lv (k+1)) (S.gen (k+1)) (bN φ o.dst a) G' act2.tmps w2
      cases hdst:o.dst with
      | none=>
        rw[hdst] at hs2
        refine⟨{ hs2 with frame:=fun t a ha=>by simp[look] at ha },fun t x hx=>hs2.frame t x ?_⟩
        show look (p++eO n φ) t=some x
        rw[hlook]
        exact hx
      | some d=>
        rw[hdst] at hs2
        refine⟨{ hs2 with frame:=fun t a ha=>by simp[look] at ha },fun t x hx=>hs2.frame t x ?_⟩
        show look ((d,a)::(p++eO n φ)) t=some x
        rw[rV hlook]
        exact hx
    · simp only at hph hx
      have hbf:b0=false:=by cases b0 with | false=>rfl | true=>rw[hb0 rfl] at hph;cases hph
      have hm:=wo ((hok hbf).mono k (List.getElem?_eq_some_iff.1 hc).1)
      cases hdst:o.dst with
      | none=>rw[hdst] at hx;exact rq hm x (hfix hph t x hx)
      | some d=>
        rw[hdst] at hx
        simp only[bN] at hx
        split at hx
        · cases hx;exact hr (by rw[←hph];exact hal)
        · exact rq hm x (hfix hph t x hx)
  · have hkc:¬ S.cs[k]? = some i:=fun h=>nc (List.mem_of_getElem? h)
    rw[if_neg hkc,if_pos hal'] at hK
    have hw:Region.wanted o (yielded ops tmps)=true:=by simp[Region.wanted,hg]
    rw[hw,if_pos rfl]
    refine .inl ?_
    have hbf:b0=false:=by cases b0 with | false=>rfl | true=>cases hb0 rfl
    obtain⟨⟨hO,hpos⟩,hBR,hLR⟩:=(hok hbf).at k hkl
    have hlook:∀ t,look (eO n φ) t=φ t:=tz (p:=[]) (uF hs) (fun t x hx=>by simp[look] at hx)
    have hs':=hs.lE (f:=eO n φ) fun t x hx=>by rw[←hlook];exact hx
    have hwo:WO P C n ops (fun e st=>(e=.normal∧st=St.put ⟨eO n φ,(S.gen k,S.z)::S.bx k false,S.lv k,S.gen k+1⟩ o.dst (.ptr (S.gen k) 0))∨∃ c,e=.panic c∧False) [o] ⟨eO n φ,S.bx k false,S.lv k,S.gen k⟩:=
      WO.alloc T hg hd hop he (WO.nil (.inl ⟨rfl,by rw[hz]⟩))
    refine Oper.wp_mono (fun act2 w2 ⟨hdf,G',hs2⟩=>hK act2 w2 ⟨fun _=>rfl,hdf,mN (S.ord k) G',?_,fun h=>by cases h⟩) (WO.Az (R:=fun _=>False) hg (fun _ _ _ h=>h.elim) hwo hs')
    simp only[kU,Bool.and_eq_true] at hO
    obtain⟨⟨hO1,hO2⟩,hO3⟩:=hO
    rw[hdst] at hs2 ⊢
    have h3:aV C n ⟨(d,.ptr S.g0 0)::eO n φ,S.bxT k,S.lv k,S.gen k⟩ (mN (S.ord k) G') act2.tmps w2:=by
      refine aV.bQ (gen':=S.gen k) hs2 (S.ord k) (jX hO1) (Nat.le_of_ble_eq_true hO2) (fun i hi=>?_) (fun t x hx=>?_) (fun i l' hl'=>?_) (fun i hi=>?_)
      · have h4:=nW hO3 i (by rw[←hnb.h];exact hi)
        simpa using h4
      · rw[bl] at hx
        show ∃ a,look ((d,.ptr (S.gen k) 0)::eO n φ) t=some a∧bQ (S.ord k) a=x
        rw[bl]
        split at hx
        · rename_i e
          rw[if_pos e]
          cases hx
          exact⟨_,rfl,by simp only[bQ,hpos]⟩
        · rename_i e
          rw[if_neg e]
          rw[hlook] at hx ⊢
          exact⟨x,hx,hfix rfl t x hx⟩
      · exact kk.le hBR i l' hl'
      · exact rk hLR i hi
    refine⟨{ h3 with frame:=fun t a ha=>by simp[look] at ha },fun t x hx=>h3.frame t x ?_⟩
    show look ((d,_)::eO n φ) t=some x
    rw[rV hlook]
    exact hx
  · have hkc:¬ S.cs[k]? = some i:=fun h=>nc (List.mem_of_getElem? h)
    rw[if_neg hkc,if_neg nal] at hK
    obtain⟨hya,hr⟩:=hya k ph hkl hal
    have hfix':ph=false→∀ t x,bN φ o.dst a t=some x→bQ (S.ord k) x=x:=fun hph t x hx=>by
      cases hdst:o.dst with
      | none=>rw[hdst] at hx;exact hfix hph t x hx
      | some d=>
        rw[hdst] at hx
        simp only[bN] at hx
        split at hx
        · cases hx;exact hr hph
        · exact hfix hph t x hx
    obtain⟨_,⟨hw,f,hf,hp⟩ | ⟨hw,rfl⟩⟩:=hya
    · rw[fX hs hw]
      simp only[if_true]
      refine .inl ?_
      have hg:da P o ⟨tmps,[]⟩ w fun v w'=>Below w.heap.size w w'∧aW (aK C G (S.gen k) w') v a:=hp G tmps w (hs.lE fun t x hx=>(hf t x hx).1)
      refine hg.ds.wp fun v w' ⟨hb,hr⟩=>?_
      rw[Act.gu]
      exact hK _ _ ⟨hb0,rfl,G,hs.step hb hd hr,hfix'⟩
    · rw[fX hs hw]
      simp only[Bool.false_eq_true,if_false]
      rw[Act.gu]
      exact hK _ _ ⟨hb0,rfl,G,hs.step (Below.refl _ _) hd (.tup #[] [] rfl (by simp)),hfix'⟩
def CD (P:Program) (T:cB P) (C:Ctx) (n:Nat) (S:jx) (ops:Array Oper) (Q:St→Prop) (l:List Oper) (i:Nat) (f:List (Nat×A)) (k:Nat) (b:Bool):Prop:=
  wW (YD P T C n S ops) (ve S ops) (fun σ=>∃ f',(∀ t,look f' t=σ.1 t)∧σ.2=(S.cs.length,true)∧Q ⟨f',S.bxT S.cs.length,S.lv S.cs.length,S.gen S.cs.length⟩) l i (look f,k,b)
def nD (ops:Array Oper):List Nat→Bool
  | c::c'::r=>cV .any ops ops.size c' c && nD ops (c'::r)
  | _=>true
theorem px {ops:Array Oper}:∀ {cs:List Nat},nD ops cs=true→∀ k c c',cs[k]? = some c→cs[k+1]? = some c'→cV .any ops ops.size c' c=true
  | [],_,k,c,c',h,_=>by simp at h
  | [_],_,k,c,c',_,h=>by simp at h
  | x::y::r,h,k,c,c',h1,h2=>by
    simp only[nD,Bool.and_eq_true] at h
    cases k with
    | zero=>
      simp at h1 h2
      subst h1;subst h2
      exact h.1
    | succ k=>exact px h.2 k c c' (by simpa using h1) (by simpa using h2)
def qf (o:List Nat):List (Nat×A)→Prop
  | []=>True
  | (_,a)::r=>bQ o a=a∧qf o r
theorem qf.at {o:List Nat}:∀ {f:List (Nat×A)},qf o f→∀ t a,look f t=some a→bQ o a=a
  | [],_,t,a,h=>by simp[look] at h
  | (s,x)::r,hf,t,a,h=>by
    rw[bl] at h
    split at h
    · cases h;exact hf.1
    · exact hf.2.at t a h
theorem W.uC (T:cB P) {nb:Nat} [hnb:NB C nb] {id:Nat} {l l1 l2:List Oper} {f:List (Nat×A)} {bx:List (Nat×List A)} {lv:List Nat} {gen:Nat} {Q:Exit→St→Prop} (S:jx) (b0:Bool) (m:Nat) (hB:kl m l.toArray=true) (hch:nD l.toArray S.cs=true) (h1:l.take m=l1) (h2:l.drop m=l2)
    (hR:∀ c st,S.R c→Q (.panic c) st) (hok:b0=false→qy S nb S.cs.length∧qf (S.ord 0) f) (e1:∀ g c,aA (S.bx 0 b0) g=some c→aA bx g=some c) (e2:S.lv 0=lv) (e3:Nat.ble gen (S.gen 0)=true)
    (h:CD P T C n S l.toArray (WO P C n l.toArray Q l2) l1 0 f 0 b0):W P C n (.region id l.toArray true) Q ⟨f,bx,lv,gen⟩:=by
  subst h1;subst h2;subst e2
  intro tmps w ⟨G,hs⟩
  have hs:aV C n ⟨f,bx,S.lv 0,S.gen 0⟩ G tmps w:=aV.yP hs (g:=S.gen 0) (Nat.le_of_ble_eq_true e3)
  have hs:aV C n ⟨f,S.bx 0 b0,S.lv 0,S.gen 0⟩ G tmps w:={ hs with box:=fun g c hc=>hs.box g c (e1 g c hc) }
  simp only[kl,Bool.and_eq_true] at hB
  obtain⟨⟨⟨hm,hw⟩,hfore⟩,hlex⟩:=hB
  have hm:m≤l.length:=by simpa using Nat.le_of_ble_eq_true hm
  have hb:Below w.heap.size w { w with drawn:=w.drawn+1 }:=(Below.refl _ w).drew
  have hs':et C n (S.bx 0 b0) (S.lv 0) (S.gen 0) (look f) G tmps { w with drawn:=w.drawn+1 }:=et.wz (hs.gL hb).2
  have hlen:(l.take m).length=m:=by simp;omega
  refine wp_region_any T.mixed ?_
  have hsz:l.toArray.size=(l.take m).length+(l.drop m).length:=by simp;omega
  rw[hsz]
  have hcl:eY .any l.toArray (Array.replicate ((l.take m).length+(l.drop m).length) false):=fun j oj _ hl _ _ _=>by
    by_cases q:j < (l.take m).length+(l.drop m).length
    · simp only[Array.getD_eq_getD_getElem?,Array.getElem?_replicate] at hl
      rw[if_pos q] at hl
      cases hl
    · simp only[Array.getD_eq_getD_getElem?,Array.getElem?_replicate] at hl
      rw[if_neg q] at hl
      cases hl
  refine mC (m:=m) (Sm:=zZ C n S b0) (Y:=YD P T C n S l.toArray) (ef:=ve S l.toArray) (Q:=fun σ=>∃ f',(∀ t,look f' t=σ.1 t)∧σ.2=(S.cs.length,true)∧WO P C n l.toArray Q (l.drop m) ⟨f',S.bxT S.cs.length,S.lv S.cs.length,S.gen S.cs.length⟩)
    (fun i e σ act w K hs hy hk=>AF b0 (fun h=>(hok h).1) i e σ act w K (fun c act w hc hd ⟨st,hs⟩=>⟨hd,st,hs,hR c st hc⟩) hs hy hk) (fun listed σ act w hs hc hsp ⟨f',e1,e2,hq⟩=>?_) _ _ (look f,0,b0) ⟨tmps,C.ds⟩ _ ⟨fun h=>h,rfl,G,hs',fun h=>(hok h).2.at⟩ hcl ?_
  · obtain⟨tmps,dfs⟩:=act
    obtain⟨_,rfl,G,hs,_⟩:=hs
    rw[e2] at hs
    refine mh hw (nj hfore) (l.drop m) m listed ⟨tmps,C.ds⟩ w (Nat.le_refl _) (by simp;omega) (fun j=>by simp[List.getElem?_drop]) hc hsp.1 hsp.2.1 hsp.2.2 ?_
    exact hq tmps w ⟨G,hs.lE (fun t a ha=>by rw[←e1];exact ha)⟩
  · refine sW hw (fun i j oi oj hi hj hij him hjm hap hno=>AJ (px hch) hi hj hij hap hno) (l.take m) 0 _ _ (by rw[hlen];omega) (fun j hj=>?_) hcl (by simp;omega) (fun j hj=>by omega) (fun j _ hj=>?_) (by rw[hlen];rw[hsz,hlen] at hlex;exact hlex) h
    · rw[hlen] at hj
      rw[Nat.zero_add]
      simp[List.getElem?_take,hj]
    · have hj':j < l.length:=by simpa using hj
      have e:min m l.length+(l.length - m)=l.length:=by omega
      simp[e,hj']
variable {op:Op} {ty:TypeId} {pos:String} {af:Array Edge} {a:A} {d i k:Nat} {rest:List Oper} {f:List (Nat×A)} {Q:St→Prop} {b:Bool}
theorem CD.nil (h:Q ⟨f,S.bxT S.cs.length,S.lv S.cs.length,S.gen S.cs.length⟩) (hk:Nat.beq k S.cs.length=true):CD P T C n S ops Q [] i f k true:=by
  have:=Nat.eq_of_beq_eq_true hk
  subst this
  exact⟨f,fun _=>rfl,rfl,h⟩
def tu (p:Nat→Bool→Prop):Nat→Prop
  | 0=>p 0 false∧p 0 true
  | k+1=>p (k+1) false∧p (k+1) true∧tu p k
theorem tu.at {p:Nat→Bool→Prop}:∀ {m:Nat},tu p m→∀ k b,k≤m→p k b
  | 0,h,k,b,hk=>by
    obtain rfl:k=0:=by omega
    cases b
    · exact h.1
    · exact h.2
  | m+1,h,k,b,hk=>by
    rcases Nat.lt_or_ge k (m+1) with hlt | hge
    · exact h.2.2.at k b (by omega)
    · obtain rfl:k=m+1:=by omega
      cases b
      · exact h.1
      · exact h.2.1
def vV (x:Nat) (l:List Nat):Bool:=l.any fun y=>Nat.beq x y
theorem xY {x:Nat} {l:List Nat} (h:vV x l=false):x∉l:=fun hm=>by
  have:vV x l=true:=List.any_eq_true.2 ⟨x,hm,by simp⟩
  rw[h] at this
  cases this
theorem Bf (hp:tu (fun k b=>gZ S ops i k b=true→Pu P C n ⟨cN f (slotsOf op),S.bx k b,S.lv k,S.gen k⟩ ⟨some d,op,ty,pos,af,none⟩ a∧(b=false→bQ (S.ord k) a=a)) S.cs.length)
    (hi:ops[i]? = some ⟨some d,op,ty,pos,af,none⟩) (h1:vV i S.cs=false) (h2:Nat.beq i S.al=false) (h3:(Nat.ble k S.cs.length && gZ S ops i k b)=true) (hd:Nat.blt d n=true)
    (h:CD P T C n S ops Q rest (i+1) ((d,a)::f) k b):CD P T C n S ops Q (⟨some d,op,ty,pos,af,none⟩::rest) i f k b:=by
  simp only[Bool.and_eq_true] at h3
  have nc:=xY h1
  have na:i≠S.al:=fun e=>by subst e;simp at h2
  refine⟨a,⟨_,hi,hd,Nat.le_of_ble_eq_true h3.1,h3.2,.inr (.inr ⟨nc,na,fun k b hk ha=>⟨YA.sH (hp.at k b hk ha).1 hd,(hp.at k b hk ha).2⟩⟩)⟩,?_⟩
  rw[mo hi]
  simp only[if_neg na,if_neg (fun e=>nc (List.mem_of_getElem? e):¬ S.cs[k]? = some i)]
  unfold CD at h
  rw[e5] at h
  exact h
theorem aJ (h0:Pu P C n ⟨cN f (slotsOf op),S.bx k b,S.lv k,S.gen k⟩ ⟨some d,op,ty,pos,af,none⟩ a) (hp:tu (fun k b=>gZ S ops i k b=true→Pu P C n ⟨cN f (slotsOf op),S.bx k b,S.lv k,S.gen k⟩ ⟨some d,op,ty,pos,af,none⟩ a∧(b=false→bQ (S.ord k) a=a)) S.cs.length)
    (hi:ops[i]? = some ⟨some d,op,ty,pos,af,none⟩) (h1:vV i S.cs=false) (h2:Nat.beq i S.al=false) (h3:(Nat.ble k S.cs.length && gZ S ops i k b)=true) (hd:Nat.blt d n=true)
    (h:CD P T C n S ops Q rest (i+1) ((d,a)::f) k b):CD P T C n S ops Q (⟨some d,op,ty,pos,af,none⟩::rest) i f k b:=Bf hp hi h1 h2 h3 hd h
theorem kC (hx:∀ b,gZ S ops i k b=true→∀ g,WO P C n ops (fun e st=>e=.normal∧st=⟨(d,a)::(cN f (slotsOf op)++g),S.bx (k+1) b,S.lv (k+1),S.gen (k+1)⟩) [⟨some d,op,ty,pos,af,none⟩] ⟨cN f (slotsOf op)++g,S.bx k b,S.lv k,S.gen k⟩)
    (hi:ops[i]? = some ⟨some d,op,ty,pos,af,none⟩) (h1:S.cs[k]? = some i) (h2:Nat.beq i S.al=false) (h3:gZ S ops i k b=true) (hr:gZ S ops i k false=true→bQ (S.ord (k+1)) a=a) (hd:Nat.blt d n=true) (h:CD P T C n S ops Q rest (i+1) ((d,a)::f) (k+1) b):CD P T C n S ops Q (⟨some d,op,ty,pos,af,none⟩::rest) i f k b:=by
  have na:i≠S.al:=fun e=>by subst e;simp at h2
  refine⟨a,⟨_,hi,hd,Nat.le_of_lt (List.getElem?_eq_some_iff.1 h1).1,h3,.inl ⟨h1,na,fun b hb=>⟨rfl,cN f (slotsOf op),fun t x hx=>?_,fun g=>WO.AQ rfl (fun e st h=>by rw[h.1];simp) (fun e st h=>.inl h) (hx b hb g)⟩,hr⟩⟩,?_⟩
  · obtain⟨h1,h2⟩:=ez hx
    exact⟨h1,List.mem_append.2 (.inl h2)⟩
  · rw[mo hi]
    simp only[if_neg na,if_pos h1]
    unfold CD at h
    rw[e5] at h
    exact h
theorem W.eD (T:cB P) {nb:Nat} [hnb:NB C nb] {id:Nat} {l l1 l2:List Oper} {f:List (Nat×A)} {bx:List (Nat×List A)} {lv:List Nat} {gen:Nat} {Q:Exit→St→Prop} (ju:List (List (Nat×List A))) (lvs:List (List Nat)) (gens:List Nat) (cs:List Nat) (m:Nat) (hB:kl m l.toArray=true) (hch:nD l.toArray cs=true) (h1:l.take m=l1) (h2:l.drop m=l2)
    (h:CD P T C n (zN (bx::ju) (lv::lvs) (gen::gens) cs l.length) l.toArray (WO P C n l.toArray Q l2) l1 0 f 0 true):W P C n (.region id l.toArray true) Q ⟨f,bx,lv,gen⟩:=
  W.uC T (zN (bx::ju) (lv::lvs) (gen::gens) cs l.length) true m hB hch h1 h2 (fun _ _ h=>h.elim) (fun h=>by cases h) (fun _ _ h=>h) rfl (by show Nat.ble gen gen=true;simp) h
end
end Go.Ab
namespace Go.Ab
theorem iD {e e':Exit} {d:Nat} {a a':A} {f:List (Nat×A)} {bx bx':List (Nat×List A)} {lv lv':List Nat} {gen gen':Nat} (he:e=e') (ha:a=a') (hb:bx=bx') (hl:lv=lv') (hg:gen=gen') :
    e=e'∧(⟨(d,a)::f,bx,lv,gen⟩:St)=⟨(d,a')::f,bx',lv',gen'⟩:=by subst he ha hb hl hg;exact⟨rfl,rfl⟩
end Go.Ab
namespace Go.Ab
open Go.RowKit
def a7 (es:List (List D)) (k:Nat):List A:=es.flatten.map A.d++List.replicate k .any
section
variable {C:Ctx} {n:Nat} {st:St} {G:Gh} {tmps:Array Value} {w:World}
theorem gS {sz:Nat}:∀ {es:List (List D)},(∀ (e:List D),e∈es→e.length=sz)→es.flatten.length=es.length*sz
  | [],_=>by simp
  | e::es,h=>by rw[List.flatten_cons,List.length_append,gS (fun x hx=>h x (List.mem_cons_of_mem _ hx)),h e List.mem_cons_self,List.length_cons,Nat.succ_mul,Nat.add_comm]
theorem aV.w8 (h:aV C n st G tmps w) {g b len cap sz:Nat} (hg:G.own g=some (.blk b len cap sz 0)) {es:List (List D)} {v:Value} (hx:fh w (bD C G) (.blk b len cap sz 0) v es) (lv:List Nat) (hlv:∀ g'∈lv,g'∈st.lv∧g'≠g) :
    ∃ G',aV C n ⟨st.f,(st.gen,a7 es (cap*sz - len*sz))::st.bx,lv,st.gen+1⟩ G' tmps w∧aW (aK C G' (st.gen+1) w) v (.sb st.gen es.length cap):=by
  obtain⟨rfl,hlen,_,hl,hr⟩:=hx
  obtain⟨hmine,hnb,huniq,cur,T,hcur,hcs,hlc,hcm,hz,hpos,_,hone⟩:=h.row g b len cap sz 0 hg
  let G':Gh:=⟨fun x=>if x=st.gen then some b else G.box x,fun x=>if x=g then none else G.own x⟩
  have hgl:=h.gown g _ hg
  have hblt:b < w.heap.size:=(Array.getElem?_eq_some_iff.1 hcur).1
  have hpv:∀ b' o,bD C G' b' o→bD C G b' o:=by
    rintro b' o (hp | ⟨g',hp⟩ | ⟨g',len',cap',sz',pub',hp,hl'⟩)
    · exact .inl hp
    · simp only[G'] at hp
      split at hp
      · simp only[Option.some.injEq] at hp
        subst hp
        exact .inr (.inr ⟨g,len,cap,sz,0,hg,Nat.zero_le _⟩)
      · exact .inr (.inl ⟨g',hp⟩)
    · simp only[G'] at hp
      split at hp
      · cases hp
      · exact .inr (.inr ⟨g',len',cap',sz',pub',hp,hl'⟩)
  have hle:(aK C G st.gen w).le (aK C G' (st.gen+1) w):=mV h.fr h.fr (fun b o u hu hn=>⟨hu,fun hp=>hn (hpv b o hp)⟩) (fun g' b' hb'=>by
      simp only[G']
      rw[if_neg (Nat.ne_of_lt (h.gbox g' b' hb').1)]
      exact hb')
    (fun g' r' hg' hr'=>by
      simp only[G'] at hr'
      split at hr'
      · cases hr'
      · exact hr') (Nat.le_succ _) (fun _ _ _ _ _ _ _ _=>rfl) (fun _ _ _ _=>rfl) (.refl w)
  have hfl:=gS hl
  have hsub:len*sz≤cap*sz:=Nat.mul_le_mul_right _ hlc
  refine⟨G',{ size:=h.size,frame:=h.eS hle,xold:=h.xold,kold:=h.kold,fr:=h.fr,lent:=?_,box:=?_,gbox:=?_,inj:=?_,live:=?_,gown:=?_,row:=?_,mrow:=?_ },?_⟩
  · intro g' cells hc
    simp only[bP] at hc
    split at hc
    · rename_i e
      simp only[Option.some.injEq] at hc
      subst hc
      subst e
      refine⟨b,cur,T,by simp[G'],hcur,?_,fun i u hu=>hone i u hu,fun i u a hu ha=>?_⟩
      · simp only[a7,List.length_append,List.length_map,List.length_replicate,hfl,hlen];omega
      · unfold a7 at ha
        rcases Nat.lt_or_ge i es.flatten.length with hi | hi
        · rw[List.getElem?_append_left (by rw[List.length_map];exact hi),List.getElem?_map,Option.map_eq_some_iff] at ha
          obtain⟨d,hd,rfl⟩:=ha
          have hi2:i < len*sz:=by rw[←hlen,←hfl];exact hi
          have hdiv:i / sz < es.length:=by rw[hlen];exact Nat.div_lt_of_lt_mul (by rw[Nat.mul_comm];exact hi2)
          have he:es[i / sz]? = some es[i / sz]:=by simp[hdiv]
          have hel:=hl _ (List.mem_of_getElem? he)
          have hdd:es[i / sz][i % sz]? = some (es[i / sz][i % sz]'(by rw[hel];exact Nat.mod_lt _ hz)):=by simp
          have hfg:=fM hl _ _ _ _ he hdd
          rw[Nat.div_add_mod' i sz,hd] at hfg
          obtain⟨u',hu',hud⟩:=hr _ _ _ _ he hdd
          rw[Nat.div_add_mod' i sz,cd hcur] at hu'
          rw[hu] at hu'
          cases hu'
          rw[Option.some.inj hfg]
          exact .d (hud.mono hle.cell)
        · rw[List.getElem?_append_right (by rw[List.length_map];exact hi)] at ha
          have:=List.eq_of_mem_replicate (List.mem_of_getElem? ha)
          subst this
          exact .any _
    · obtain⟨b',cs,T',h1,h2,h3,h4,h5⟩:=h.box g' cells hc
      exact⟨b',cs,T',by simp only[G'];rw[if_neg (Nat.ne_of_lt (h.gbox g' b' h1).1)];exact h1,h2,h3,h4,fun i u a hu ha=>(h5 i u a hu ha).mono hle⟩
  · intro g' b' hb
    simp only[G'] at hb
    split at hb
    · rename_i e
      simp only[Option.some.injEq] at hb
      subst hb
      subst e
      exact⟨Nat.lt_succ_self _,hblt,hmine⟩
    · obtain⟨h1,h2⟩:=h.gbox g' b' hb
      exact⟨Nat.lt_succ_of_lt h1,h2⟩
  · intro g1 g2 b' h1 h2
    simp only[G'] at h1 h2
    split at h1 <;> split at h2
    · simp_all
    · simp only[Option.some.injEq] at h1;subst h1;exact absurd h2 (hnb g2)
    · simp only[Option.some.injEq] at h2;subst h2;exact absurd h1 (hnb g1)
    · exact h.inj g1 g2 b' h1 h2
  · intro g' hg'
    obtain⟨h1,h2⟩:=hlv g' hg'
    obtain⟨r',hr'⟩:=h.live g' h1
    exact⟨r',by simp only[G'];rw[if_neg h2];exact hr'⟩
  · intro g' r' hr'
    simp only[G'] at hr'
    split at hr'
    · cases hr'
    · exact Nat.lt_succ_of_lt (h.gown g' r' hr')
  · intro g' b' len' cap' sz' pub' hr'
    simp only[G'] at hr'
    split at hr'
    · cases hr'
    · rename_i e2
      obtain⟨h4,h5,h6,h7⟩:=h.row g' b' len' cap' sz' pub' hr'
      have hne:b'≠b:=fun e=>by subst e;exact e2 (huniq g' len' cap' sz' pub' hr')
      refine⟨h4,fun g2 h2=>?_,fun g2 bW cap2 sz2 pub2 h2=>?_,h7⟩
      · simp only[G'] at h2
        split at h2
        · simp only[Option.some.injEq] at h2;exact hne h2.symm
        · exact h5 g2 h2
      · simp only[G'] at h2
        split at h2
        · cases h2
        · exact h6 g2 bW cap2 sz2 pub2 h2
  · intro g' b' hr'
    simp only[G'] at hr'
    split at hr'
    · cases hr'
    · obtain⟨h4,h4b,h5,me,clock,h6⟩:=h.mrow g' b' hr'
      refine⟨h4,fun g2 h2=>?_,fun g2 h2=>?_,me,clock,h6⟩
      · simp only[G'] at h2
        split at h2
        · simp only[Option.some.injEq] at h2;subst h2;rw[hcur] at h6;cases h6
        · exact h4b g2 h2
      · simp only[G'] at h2
        split at h2
        · cases h2
        · exact h5 g2 h2
  · intro i b' hb
    have h1:=h.lent i b' hb
    simp only[G']
    rw[if_neg (Nat.ne_of_lt (h.gbox i b' h1).1)]
    exact h1
  · exact .sb _ st.gen es.length cap b (Nat.lt_succ_self _) (by simp[aK,G']) (by rw[hlen];exact⟨hlc,hcm⟩) (by rw[hlen])
end
section
variable {P:Program} (T:cB P) {C:Ctx} {n:Nat} {ops:Array Oper} {Q:Exit→St→Prop} {rest:List Oper}
variable {f:List (Nat×A)} {bx:List (Nat×List A)} {lv:List Nat} {gen:Nat} {d:Nat} {op:Op} {ty:TypeId} {pos:String} {af:Array Edge} {a:A} {dst:Option Nat} {c:Code}
theorem Al (s:Nat) {g:Nat} {es:List (List D)} (hl:look f s=some (.xs g es)) (hgl:(lv.any fun h=>Nat.beq h g)=true) (hsn:Nat.blt s n=true) (hp:0 < es.length) {lv':List Nat} (hlv:dw lv g=lv')
    (h:∀ cap k,W P C n c Q ⟨(s,.sb gen es.length cap)::f,(gen,a7 es k)::bx,lv',gen+1⟩):W P C n c Q ⟨f,bx,lv,gen⟩:=by
  subst hlv
  intro tmps w ⟨G,hs⟩
  obtain⟨v,hv,hr⟩:=hs.frame _ _ hl
  obtain⟨r,hgr⟩:=hs.live g (ib hgl)
  cases hr with
  | xs _ _ _ hgg h1 hrow=>
  have hx:=hrow r hgr
  cases r with
  | nil=>obtain⟨_,rfl⟩:=hx;simp at hp
  | zero b=>obtain⟨_,rfl⟩:=hx;simp at hp
  | mp b=>exact hx.elim
  | blk b len cap sz pub=>
    obtain rfl:pub=0:=hx.2.2.1
    obtain⟨G',hs',hv'⟩:=hs.w8 hgr hx (dw lv g) (fun g' hg'=>eR hg')
    refine h cap (cap*sz - len*sz) tmps w ⟨G',?_⟩
    have:=hs'.set (d:=s) (Nat.le_of_ble_eq_true hsn) hv'
    rwa [fZ hv] at this
theorem AN {x:Operand} {t e:Nat} {td:cc} {g m cap:Nat} (hx:av f x=some (.sb g m cap)) (ht:aA T.l t=some td) (hk:td.k=.slice e) :
    Pu P C n ⟨f,bx,lv,gen⟩ ⟨dst,.call ⟨.builtin .len,#[x],#[t]⟩,ty,pos,af,none⟩ (.d (.v (.int .i64 m))):=by
  refine dU.pu fun G tmps w hs=>?_
  have hr:=hs.av hx
  generalize hv:Act.eval ⟨tmps,[]⟩ x=v at hr
  cases hr with
  | sb _ _ _ _ b hgg hb hn h2=>
  refine⟨.int .i64 m,?_,.d (.v _ ?_)⟩
  · unfold execOp
    show Sem.run P (do let d ←resolve (Act.eval ⟨tmps,[]⟩) ⟨.builtin .len,#[x],#[t]⟩ ty;invoke d.target d.args) w=_
    simp only[resolve,List.map_toArray,List.map_cons,List.map_nil,hv,h2,Sem.run_bind,Sem.run_pure,Result.andThen_ok,invoke,builtin,Builtin.len_]
    simp[run_underlying (T.dZ ht hk),goInt]
    rfl
  · obtain⟨h3,h4⟩:=hn
    simp only[maxLen] at h4
    simp[dq,IntKind.min,IntKind.max,IntKind.signed,IntKind.bits]
    omega
theorem bG {t e:Nat} {x ix:Operand} {td ed:cc} {g m cap:Nat} {k:IntKind} {i:Int} (hx:av f x=some (.sb g m cap)) (hi:av f ix=some (.d (.v (.int k i)))) (ht:aA T.l t=some td) (hk:td.k=.slice e) (he:aA T.l e=some ed)
    (h0:0≤i) (hlt:i.toNat < m) {off:Nat} (ho:i.toNat*ed.n=off):Pu P C n ⟨f,bx,lv,gen⟩ ⟨dst,.indexAddr t x ix,ty,pos,af,none⟩ (.ptr g off):=by
  subst ho
  refine dU.pu fun G tmps w hs=>?_
  have hu:=T.dZ ht hk
  have hrx:=hs.av hx
  have hri:=hs.av hi
  generalize hvi:Act.eval ⟨tmps,[]⟩ ix=vi at hri
  cases hri with | d hri=>cases hri with | v _ _=>
  generalize hvx:Act.eval ⟨tmps,[]⟩ x=vx at hrx
  cases hrx with
  | sb _ _ _ _ b hgg hb hn h2=>
  refine⟨.pointer (some ⟨b,i.toNat*ed.n,none⟩),?_,.ptr _ g _ b hgg hb rfl⟩
  unfold execOp
  show Sem.run P _ w=.ok _ w
  have hc2:0≤i∧i < (m:Int):=⟨h0,by omega⟩
  simp only[hvi,hvx,h2,Instr.indexAt,asIntOf,Sem.run_bind,Sem.run_pure,Result.andThen_ok,run_underlying hu,hc2,and_self,if_true,T.sizeOf he]
  unfold Addr.add
  split
  · rename_i e;rw[e]
  · simp
theorem sC {es:List (List D)} {sz i k:Nat} {e:List D} (hl:∀ (x:List D),x∈es→x.length=sz) (he:es[i]? = some e):∃ r,(a7 es k).drop (i*sz)=e.map A.d++r:=by
  have hi:i < es.length:=(List.getElem?_eq_some_iff.1 he).1
  have h1:es=es.take i++e::es.drop (i+1):=by
    have:=List.drop_eq_getElem_cons hi
    rw[(List.getElem?_eq_some_iff.1 he).2] at this
    rw[←this,List.take_append_drop]
  have h2:(es.take i).flatten.length=i*sz:=by
    rw[gS (sz:=sz) (fun x hx=>hl x (List.mem_of_mem_take hx)),List.length_take,Nat.min_eq_left (Nat.le_of_lt hi)]
  refine⟨(es.drop (i+1)).flatten.map A.d++List.replicate k .any,?_⟩
  have e3:a7 es k=(es.take i).flatten.map A.d++(e.map A.d++((es.drop (i+1)).flatten.map A.d++List.replicate k .any)):=by
    unfold a7
    conv=>lhs;rw[h1]
    simp[List.append_assoc]
  rw[e3,←h2,←List.length_map (f:=A.d),List.drop_left]
theorem pC {es:List (List D)} {sz k:Nat} (hl:∀ (x:List D),x∈es→x.length=sz):(a7 es k).length=es.length*sz+k:=by
  unfold a7
  rw[List.length_append,List.length_map,gS hl,List.length_replicate]
theorem tK {es:List (List D)} {sz i k:Nat} {e cs:List D} (hl:∀ (x:List D),x∈es→x.length=sz) (he:es[i]? = some e) (hc:cs.length=sz):setAt (a7 es k) (i*sz) (cs.map A.d)=a7 (es.set i cs) k:=by
  have hi:i < es.length:=(List.getElem?_eq_some_iff.1 he).1
  have h1:es=es.take i++e::es.drop (i+1):=by
    have:=List.drop_eq_getElem_cons hi
    rw[(List.getElem?_eq_some_iff.1 he).2] at this
    rw[←this,List.take_append_drop]
  have h2:(es.take i).flatten.length=i*sz:=by
    rw[gS (sz:=sz) (fun x hx=>hl x (List.mem_of_mem_take hx)),List.length_take,Nat.min_eq_left (Nat.le_of_lt hi)]
  have h4:e.length=sz:=hl e (List.mem_of_getElem? he)
  have e3:a7 es k=(es.take i).flatten.map A.d++(e.map A.d++((es.drop (i+1)).flatten.map A.d++List.replicate k .any)):=by
    unfold a7
    conv=>lhs;rw[h1]
    simp[List.append_assoc]
  have e4:a7 (es.set i cs) k=(es.take i).flatten.map A.d++(cs.map A.d++((es.drop (i+1)).flatten.map A.d++List.replicate k .any)):=by
    unfold a7
    rw[List.set_eq_take_append_cons_drop,if_pos hi]
    simp[List.append_assoc]
  unfold setAt
  have h5:((es.take i).flatten.map A.d).length=i*sz:=by rw[List.length_map,h2]
  have h6:(cs.map A.d).length=(e.map A.d).length:=by rw[List.length_map,List.length_map,hc,h4]
  rw[e3,e4,←h5,List.take_left,h6,←List.drop_drop,List.drop_left,List.drop_left,List.append_assoc]
theorem eK {t:Nat} {x:Operand} {td:cc} {g i k:Nat} {es:List (List D)} {e:List D} (hx:av f x=some (.ptr g (i*td.n))) (ht:aA T.l t=some td) (hk:td.k.agg=true) (hb:aA bx g=some (a7 es k)) (hl:∀ (x:List D),x∈es→x.length=td.n) (he:es[i]? = some e) :
    Pu P C n ⟨f,bx,lv,gen⟩ ⟨dst,.load t x,ty,pos,af,none⟩ (.ag e):=by
  refine dU.pu fun G tmps w hs=>?_
  obtain⟨b,cs,T',h1,h2,h3,h4,h5⟩:=gO hs hb (hs.av hx)
  have hel:=hl e (List.mem_of_getElem? he)
  obtain⟨r,hr⟩:=sC (k:=k) hl he
  have hcell:∀ j y,e[j]? = some y→(a7 es k)[i*td.n+j]? = some (.d y):=fun j y hj=>by
    rw[←List.getElem?_drop,hr,List.getElem?_append_left (by rw[List.length_map];exact(List.getElem?_eq_some_iff.1 hj).1),List.getElem?_map,hj];rfl
  have hall:∀ j y,e[j]? = some y→bc w (bD C G) (cs[i*td.n+j]?.getD default) y:=fun j y hj=>by
    have hc:=hcell j y hj
    have hj':i*td.n+j < cs.size:=by rw[h3];exact(List.getElem?_eq_some_iff.1 hc).1
    have e1:cs[i*td.n+j]? = some cs[i*td.n+j]:=by simp[hj']
    have:=h5 _ _ _ e1 hc
    rw[e1]
    generalize cs[i*td.n+j]=u at this ⊢
    cases this with | d hd=>exact hd
  obtain⟨v,h6,h7⟩:=im (E:=aK C G gen w) T (t:=t) (a:=.ag e) (b:=b) (off:=i*td.n) (u:=fun j=>cs[i*td.n+j]?.getD default) (l:=e) (fun j hj=>by
      have hc:=hcell j e[j] (by simp[hj])
      have hj':i*td.n+j < cs.size:=by rw[h3];exact(List.getElem?_eq_some_iff.1 hc).1
      have e1:cs[i*td.n+j]? = some cs[i*td.n+j]:=by simp[hj']
      show cellAt w b (i*td.n+j)=_
      rw[cd h2,e1];rfl) hall (by unfold iR;rw[ht];simp[hk,←hel])
  refine⟨v,?_,h7⟩
  rw[gG rfl]
  show Sem.run P _ w=.ok _ w
  have h6':(Instr.loadAt t (.pointer (some ⟨b,i*td.n,none⟩))).run P w=.ok v w:=h6
  simp only[h1,Sem.run_bind,h6',Result.andThen_ok,Sem.run_pure]
theorem jh {t:TypeId} {x y:Operand} {td:cc} {g i k:Nat} {es:List (List D)} {e cs:List D} (hx:av f x=some (.ptr g (i*td.n))) (ht:aA T.l t=some td) (hb:aA bx g=some (a7 es k)) (ha:av f y=some (.ag cs)) (hl:∀ (x:List D),x∈es→x.length=td.n) (he:es[i]? = some e)
    (hc:cs.length=td.n) (hz:Nat.blt 0 td.n=true) {es':List (List D)} (hes:es.set i cs=es')
    (h:WO P C n ops Q rest ⟨f,(g,a7 es' k)::bx,lv,gen⟩):WO P C n ops Q (⟨none,.store t x y,ty,pos,af,none⟩::rest) ⟨f,bx,lv,gen⟩:=by
  have hz:=Nat.le_of_ble_eq_true hz
  have hi:i < es.length:=(List.getElem?_eq_some_iff.1 he).1
  refine WO.store (st:=⟨f,bx,lv,gen⟩) T rfl rfl rfl hx hb ha (cs:=cs.map A.d) rfl (by unfold cT;rw[ht];simp[hc]) (by rw[List.length_map];omega) ?_ ?_
  · apply Nat.ble_eq_true_of_le
    rw[List.length_map,hc,pC hl]
    have:(i+1)*td.n≤es.length*td.n:=Nat.mul_le_mul_right _ hi
    rw[Nat.succ_mul] at this
    omega
  · rw[tK hl he hc,hes]
    exact h
end
end Go.Ab
namespace Go.Tb
open Go.Ab
def bh (r:List aH) (i:Nat):aH:=r.getD i gh
def dp (cols:List Col) (s:ByteArray):Option Nat:=cols.findIdx? fun x=>decide (x.name=s)
def bw (cols:List Col) (s:ByteArray):Nat:=(dp cols s).getD 0
def wB:ByteArray:=B #[98]
def cG (op:Int) (on:List ByteArray) (aa:ByteArray):dK:=⟨op,⟨0,B #[],gh,[]⟩,[],on,[],[],0,aa⟩
def dY (op:Int) (on:List ByteArray) (a:bo):CT:=if bj a≠0 then ([],bj a) else dy [] a.cols (cG op on (B #[]))
def eL (op:Int) (on:List ByteArray) (a b:bo):CT:=if bj a≠0 then ([],bj a) else if bj b≠0 then ([],bj b) else dy [⟨wB,b⟩] a.cols (cG op on wB)
def fL:bo:=⟨[],[]⟩
def eZ:List bo→Int
  | []=>0
  | t::r=>if bj t≠0 then bj t else eZ r
def gx (op:Int) (on:List ByteArray) (l:List bo):CT:=if eZ l≠0 then ([],eZ l) else
  dy (if 1 < l.length then [⟨wB,l.getD 1 fL⟩] else []) (l.getD 0 fL).cols (cG op on (if 1 < l.length then wB else B #[]))
theorem qP (op:Int) (on:List ByteArray) (a:bo):gx op on [a]=dY op on a:=by
  unfold gx dY
  by_cases h:bj a=0 <;> simp[eZ,h]
theorem qh (op:Int) (on:List ByteArray) (a b:bo):gx op on [a,b]=eL op on a b:=by
  unfold gx eL
  by_cases h:bj a=0 <;> by_cases h2:bj b=0 <;> simp[eZ,h,h2]
theorem nP:∀ {l:List bo},eZ l=0→∀ t∈l,bj t=0
  | [],_,t,ht=>by cases ht
  | u::r,h,t,ht=>by
    simp only[eZ] at h
    split at h
    · rename_i h1;exact absurd h h1
    · rename_i h1
      rcases List.mem_cons.1 ht with rfl | ht
      · simpa using h1
      · exact nP h t ht
theorem eh {t:bo} (h:bj t=0):t.cols.length≤32∧t.rows.length≤20000:=by
  unfold bj at h
  split at h
  · cases h
  · omega
def eF (not:List ByteArray):List Col→Nat→List Nat
  | [],_=>[]
  | c::r,i=>if not.any (fun x=>decide (c.name=x)) then eF not r (i+1) else i::eF not r (i+1)
def bF (r:List aH) (at_:List Nat):List aH:=at_.map (bh r)
def kq (a b:List aH):Bool:=decide (a=b) && !(a.any fun x=>decide (gh=x))
structure qw where
  left:List Nat
  right:List Nat
  m0:Nat
  m1:Nat
  t0:Nat
  t1:Nat
  more:List Nat
def cM (r:List aH) (i j:Nat):Bool:=decide ((bh r i).kind=2) && (decide ((bh r j).kind=2) && decide ((bh r i).n < (bh r j).n))
def rU (o:qw) (x y:List aH):Int:=if (bh x o.m0).n < (bh y o.t0).n then (bh y o.t0).n else (bh x o.m0).n
def u6 (o:qw) (x y:List aH):Int:=if (bh y o.t1).n < (bh x o.m1).n then (bh y o.t1).n else (bh x o.m1).n
def lF (o:qw) (x y:List aH):Bool:=cM y o.t0 o.t1 && (decide (rU o x y < u6 o x y) && kq (bF x o.left) (bF y o.right))
def nU (r:List aH) (i:Nat) (n:Int):List aH:=r.set i ⟨(bh r i).kind,n,(bh r i).s⟩
def yA (o:qw) (x y:List aH):List aH:=nU (nU (x++bF y o.more) o.m0 (rU o x y)) o.m1 (u6 o x y)
def pP (o:qw) (x:List aH):List (List aH)→List (List aH)→Option (List (List aH))
  | [],out=>some out
  | y::r,out=>if lF o x y=true then (if out.length=20000 then none else pP o x r (out++[yA o x y])) else pP o x r out
def lL (o:qw) (bs:List (List aH)):List (List aH)→List (List aH)→Option (List (List aH))
  | [],out=>some out
  | x::r,out=>if cM x o.m0 o.m1=true then (match pP o x bs out with | none=>none | some o2=>lL o bs r o2) else lL o bs r out
def At (a b:bo) (on:List ByteArray):qw:=
  ⟨on.map (bw a.cols),on.map (bw b.cols),bw a.cols aP,bw a.cols bp,bw b.cols aP,bw b.cols bp,eF (on++[aP,bp]) b.cols 0⟩
def fF (a b:bo) (on:List ByteArray):bo×Int:=
  if (eL 7 on a b).2≠0 then (fL,(eL 7 on a b).2) else
    match lL (At a b on) b.rows a.rows [] with
    | none=>(fL,7)
    | some rows=>(⟨(eL 7 on a b).1,rows⟩,0)
structure x8 (a b:bo) (on:List ByteArray) (spans:List ByteArray):Prop where
  ga:bj a=0
  gb:bj b=0
  ons:∀ s∈on,∃ i j c d,dp a.cols s=some i∧dp b.cols s=some j∧a.cols[i]? = some c∧b.cols[j]? = some d∧c.type=d.type
  spa:∀ s∈spans,∃ i c,dp a.cols s=some i∧a.cols[i]? = some c∧c.type=2
  spb:∀ s∈spans,∃ i c,dp b.cols s=some i∧b.cols[i]? = some c∧c.type=2
  len:on.length≤16
end Go.Tb
namespace Go.Ab
section
variable {P:Program} {C:Ctx} {n:Nat} {ops:Array Oper} {c:Nat}
variable {op:Op} {ty:TypeId} {pos:String} {af:Array Edge} {a:A} {d i:Nat} {rest l:List Oper} {f:List (Nat×A)} {Q:St→Prop} {ph:Bool} {dst:Option Nat}
variable {bx0 bx1:List (Nat×List A)} {lv0 lv1:List Nat} {gen0 gen1:Nat}
theorem AB {o:Oper} (hdst:o.dst=some d) (h0:YA P C n bx0 lv0 gen0 ops o a (look f)) (h1:YA P C n bx1 lv1 gen1 ops o a (look f)) (hi:ops[i]? = some o) (hc:Nat.beq i c=false) (b0:cb .any ops i c=false) (b1:cb .any ops c i=false)
    (h:CC P C n ⟨bx0,bx1,lv0,lv1,gen0,gen1⟩ ops c Q rest (i+1) ((d,a)::f) ph):CC P C n ⟨bx0,bx1,lv0,lv1,gen0,gen1⟩ ops c Q (o::rest) i f ph:=by
  have hic:i≠c:=fun e=>by subst e;simp at hc
  refine⟨a,⟨_,hi,h0.1,.inr ⟨hic,fun _=>h0,fun _=>h1,fun _=>b0,fun _=>b1⟩⟩,?_⟩
  rw[iM hi,hdst]
  simp only[if_neg hic]
  unfold CC at h
  rw[e5] at h
  exact h
theorem ov {j e:Nat} {want:Bool} (hj:dF ops j=some e) (hl:look f e=some (.d (.v (.bool want)))) (h1:Pu P C n ⟨cN f (slotsOf op),bx1,lv1,gen1⟩ ⟨some d,op,ty,pos,af,none⟩ a) (h0:Pu P C n ⟨cN f (slotsOf op),bx0,lv0,gen0⟩ ⟨some d,op,ty,pos,af,none⟩ a)
    (hi:ops[i]? = some ⟨some d,op,ty,pos,af,some (j,want)⟩) (hc:Nat.beq i c=false) (b0:cb .any ops i c=false) (b1:cb .any ops c i=false) (hd:Nat.blt d n=true)
    (h:CC P C n ⟨bx0,bx1,lv0,lv1,gen0,gen1⟩ ops c Q rest (i+1) ((d,a)::f) ph):CC P C n ⟨bx0,bx1,lv0,lv1,gen0,gen1⟩ ops c Q (⟨some d,op,ty,pos,af,some (j,want)⟩::rest) i f ph:=by
  have hf:∀ t x,look (cN f (slotsOf op)) t=some x→look f t=some x∧t∈(⟨some d,op,ty,pos,af,some (j,want)⟩:Oper).looksAt ops:=fun t x hx=>by
    obtain⟨h1,h2⟩:=ez hx
    exact⟨h1,List.mem_append.2 (.inl h2)⟩
  have hw:iv ops ⟨some d,op,ty,pos,af,some (j,want)⟩ (look f) true:=⟨e,_,hj,hl,.inl ⟨want,rfl,by simp⟩⟩
  exact AB rfl ⟨hd,.inl ⟨hw,_,hf,h0⟩⟩ ⟨hd,.inl ⟨hw,_,hf,h1⟩⟩ hi hc b0 b1 h
theorem fQ {j e:Nat} {want b:Bool} (hj:dF ops j=some e) (hl:look f e=some (.d (.v (.bool b)))) (hb:(b == want)=false)
    (hi:ops[i]? = some ⟨some d,op,ty,pos,af,some (j,want)⟩) (hc:Nat.beq i c=false) (b0:cb .any ops i c=false) (b1:cb .any ops c i=false) (hd:Nat.blt d n=true)
    (h:CC P C n ⟨bx0,bx1,lv0,lv1,gen0,gen1⟩ ops c Q rest (i+1) ((d,.tup [])::f) ph):CC P C n ⟨bx0,bx1,lv0,lv1,gen0,gen1⟩ ops c Q (⟨some d,op,ty,pos,af,some (j,want)⟩::rest) i f ph:=by
  have hw:iv ops ⟨some d,op,ty,pos,af,some (j,want)⟩ (look f) false:=⟨e,_,hj,hl,.inl ⟨b,rfl,hb.symm⟩⟩
  exact AB rfl ⟨hd,.inr ⟨hw,rfl⟩⟩ ⟨hd,.inr ⟨hw,rfl⟩⟩ hi hc b0 b1 h
theorem ua {dst:Option Nat} {j e:Nat} {want b:Bool} (hj:dF ops j=some e) (hl:look f e=some (.d (.v (.bool b))))
    (ht:b=true→CC P C n ⟨bx0,bx1,lv0,lv1,gen0,gen1⟩ ops c Q (⟨dst,op,ty,pos,af,some (j,want)⟩::rest) i ((e,.d (.v (.bool true)))::f) ph)
    (hf:b=false→CC P C n ⟨bx0,bx1,lv0,lv1,gen0,gen1⟩ ops c Q (⟨dst,op,ty,pos,af,some (j,want)⟩::rest) i ((e,.d (.v (.bool false)))::f) ph):CC P C n ⟨bx0,bx1,lv0,lv1,gen0,gen1⟩ ops c Q (⟨dst,op,ty,pos,af,some (j,want)⟩::rest) i f ph:=by
  have key:∀ c,b=c→look ((e,A.d (.v (.bool c)))::f)=look f:=by
    intro c hc
    subst hc
    funext t
    rw[bl]
    split
    · rename_i h;subst h;exact hl.symm
    · rfl
  cases b
  · have:=hf rfl;unfold CC at *;rw[key false rfl] at this;exact this
  · have:=ht rfl;unfold CC at *;rw[key true rfl] at this;exact this
end
end Go.Ab
