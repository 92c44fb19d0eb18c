import Derived.Test.YtoojafbicmdclaaDoorQ3
import Derived.RowKit
import Derived.Laws.MakeOwn
import Derived.Laws.BytesString
import Derived.Laws.Cells
namespace Go.Ab
open Go.RowKit Go.MapKept
def qes {α : Type} (kf : α → Value) (l : List (α × Option (List D))) : List (Value × Option (List D)) := l.map fun p => (kf p.1, p.2)
theorem qes_at {α : Type} {kf : α → Value} {l : List (α × Option (List D))} {i : Nat} {k : Value} {o : Option (List D)} (h : (qes kf l)[i]? = some (k, o)) : ∃ a, l[i]? = some (a, o) ∧ k = kf a := by
  simp only [qes, List.getElem?_map, Option.map_eq_some_iff] at h
  obtain ⟨p, hp, e⟩ := h
  simp only [Prod.mk.injEq] at e
  exact ⟨p.1, by rw [← e.2]; exact hp, e.1.symm⟩
theorem qes_mem {α : Type} {kf : α → Value} {l : List (α × Option (List D))} {k : Value} {o : Option (List D)} (h : (k, o) ∈ qes kf l) : ∃ a, (a, o) ∈ l ∧ k = kf a := by
  obtain ⟨i, hi⟩ := List.mem_iff_getElem?.1 h
  obtain ⟨a, ha, e⟩ := qes_at hi
  exact ⟨a, List.mem_of_getElem? ha, e⟩
structure MqAt {α : Type} (w : World) (pv : Nat → Nat → Prop) (b : Nat) (bs : List (Nat × Nat)) (kf : α → Value) (l : List (α × Option (List D))) (me : Array MapEntry) (clock : Nat) (ps : Value → Nat) (l2 : List (α × Value)) : Prop where
  hb : w.heap[b]? = some (.map me clock)
  st : Stamped me clock
  mi : MeIs w pv kf D.v me l2
  ln : l2.length = l.length
  ks : ∀ (i : Nat) (p : α × Value) (q : α × Option (List D)), l2[i]? = some p → l[i]? = some q → p.1 = q.1
  inj : ∀ (a a' : α) (x x' : List D), (a, some x) ∈ l → (a', some x') ∈ l → ps (kf a) = ps (kf a') → kf a = kf a'
  at_ : ∀ (i : Nat) (m : MapEntry) (a : α) (x : List D), me[i]? = some m → l[i]? = some (a, some x) → m.val = .pointer (some ⟨ps (kf a), 0, none⟩) ∧ (ps (kf a), 0) ∈ bs ∧
    ∃ cur T, w.heap[ps (kf a)]? = some (.cells cur T (0, 0)) ∧ cur.size = x.length ∧ OneC cur ∧ ∀ (j : Nat) (u : Value) (d : D), cur[j]? = some u → x[j]? = some d → RepD w pv u d
theorem MqAt.of {α : Type} {kf : α → Value} {w : World} {pv : Nat → Nat → Prop} {b : Nat} {bs : List (Nat × Nat)} {v : Value} {l : List (α × Option (List D))} (h : RowQ w pv (.mp b bs) v (qes kf l)) : v = .map (some b) ∧ ∃ me clock ps l2, MqAt w pv b bs kf l me clock ps l2 := by
  obtain ⟨h1, me, clock, h2, h3, h4, ps, h5, h6⟩ := h
  have hsz : me.size = l.length := by rw [h4]; simp [qes]
  refine ⟨h1, me, clock, ps, (l.zip me.toList).map fun p => (p.1.1, p.2.val), h2, h3, ⟨by simp [hsz], fun i m p hm hp => ?_⟩, by simp [hsz], fun i p q hp hq => ?_, fun a a' x x' q1 q2 q3 => ?_, fun i m a x hm hx => ?_⟩
  · have hlt : i < l.length := by rw [← hsz]; exact (Array.getElem?_eq_some_iff.1 hm).1
    have hl : l[i]? = some l[i] := by simp [hlt]
    have hz : (l.zip me.toList)[i]? = some (l[i], m) := by rw [List.getElem?_zip_eq_some]; exact ⟨hl, by simpa using hm⟩
    rw [List.getElem?_map, hz] at hp
    simp only [Option.map_some, Option.some.injEq] at hp
    subst hp
    obtain ⟨q1, q2, q3, _⟩ := h6 i m (kf l[i].1) l[i].2 hm (by simp [qes, hl])
    exact ⟨q1, q2, .v _ q3⟩
  · rw [List.getElem?_map, Option.map_eq_some_iff] at hp
    obtain ⟨z, hz, rfl⟩ := hp
    rw [List.getElem?_zip_eq_some] at hz
    rw [hq] at hz
    exact congrArg Prod.fst (Option.some.inj hz.1).symm
  · exact h5 _ _ x x' (List.mem_map.2 ⟨_, q1, rfl⟩) (List.mem_map.2 ⟨_, q2, rfl⟩) q3
  · exact (h6 i m (kf a) (some x) hm (by simp [qes, hx])).2.2.2 x rfl
theorem MqAt.to {α : Type} {kf : α → Value} {w : World} {pv : Nat → Nat → Prop} {b : Nat} {bs : List (Nat × Nat)} {l : List (α × Option (List D))} {me : Array MapEntry} {clock : Nat} {ps : Value → Nat} {l2 : List (α × Value)} (h : MqAt w pv b bs kf l me clock ps l2) : RowQ w pv (.mp b bs) (.map (some b)) (qes kf l) := by
  refine ⟨rfl, me, clock, h.hb, h.st, by rw [h.mi.1, h.ln]; simp [qes], ps, fun k k' x x' q1 q2 q3 => ?_, fun i m k o hm hk => ?_⟩
  · obtain ⟨a, ha, rfl⟩ := qes_mem q1
    obtain ⟨a', ha', rfl⟩ := qes_mem q2
    exact h.inj a a' x x' ha ha' q3
  · obtain ⟨a, ha, rfl⟩ := qes_at hk
    have hlt : i < l2.length := by rw [h.ln]; exact (List.getElem?_eq_some_iff.1 ha).1
    have hl2 : l2[i]? = some l2[i] := by simp [hlt]
    obtain ⟨q1, q2, q3⟩ := h.mi.2 i m _ hm hl2
    have e := h.ks i _ _ hl2 ha
    rw [e] at q1 q2
    refine ⟨q1, q2, ?_, fun x hx => ?_⟩
    · generalize m.val = y at q3
      cases q3 with | v _ hok => exact hok
    · subst hx
      exact h.at_ i m a x hm ha
section
variable {P : Program} (T : Tab P) {C : Ctx} {n : Nat} {ops : Array Oper} {Q : Exit → St → Prop} {rest : List Oper}
variable {f f' : List (Nat × A)} {bx bx' : List (Nat × List A)} {lv : List Nat} {gen : Nat} {d : Nat} {ty : TypeId} {pos : String} {af : Array Edge} {dst : Option Nat} {c : Code}
variable {α : Type} [DecidableEq α] {kf : α → Value}
omit [DecidableEq α] in
theorem SimG.mqAt {st : St} {G : Gh} {tmps : Array Value} {w : World} (hs : SimG C n st G tmps w) {v : Value} {g : Nat} {l : List (α × Option (List D))} (hr : Rep (enOf C G st.gen w) v (.mq g (qes kf l))) (hgl : g ∈ st.lv) :
    ∃ b bs me clock ps l2, G.own g = some (.mp b bs) ∧ v = .map (some b) ∧ MqAt w (pvOf C G) b bs kf l me clock ps l2 := by
  obtain ⟨r, hgr⟩ := hs.live g hgl
  cases hr with
  | mq _ _ _ hgg h1 hrow =>
  have hx := hrow r hgr
  cases r with
  | nil => exact hx.elim
  | zero b => exact hx.elim
  | blk b len cap sz pub => exact hx.elim
  | mp b bs =>
    obtain ⟨h2, me, clock, ps, l2, h3⟩ := MqAt.of hx
    exact ⟨b, bs, me, clock, ps, l2, hgr, h2, h3⟩
theorem mkMapQ {t : TypeId} (hd : Nat.blt d n = true) (h : WO P C n ops Q rest ⟨(d, .mq gen []) :: f, bx, gen :: lv, gen + 1⟩) : WO P C n ops Q (⟨some d, .makeMap t none, ty, pos, af, none⟩ :: rest) ⟨f, bx, lv, gen⟩ := by
  refine WO.step (st := ⟨f, bx, lv, gen⟩) rfl fun tmps w ⟨G, hs⟩ => ?_
  obtain ⟨G', hs', hr⟩ := hs.newMap
  refine gives_value (v := .map (some w.heap.size)) (w' := w.alloc (.map #[] 0)) ?_ ⟨_, ⟨G', hs'.put (dst := some d) (dstOK_lt (dst := some d) hd) ?_⟩, h⟩
  · unfold execOp
    show Sem.run P _ w = .ok _ _
    simp [Instr.makeMap, Sem.run_bind, Result.andThen]
  · cases hr with
    | mp _ _ _ hgg h1 hrow =>
    refine .mq _ _ _ hgg h1 (fun r hr => ?_)
    have hx := hrow r hr
    cases r with
    | nil => exact hx.elim
    | zero b => exact hx.elim
    | blk b len cap sz pub => exact hx.elim
    | mp b bs =>
      obtain ⟨q1, me, clock, q2, q3, q4, _⟩ := hx
      exact ⟨q1, me, clock, q2, q3, q4, fun _ => 0, fun _ _ _ _ h => (by cases h), fun i m k x hm hk => (by simp at hk)⟩
open Classical in
theorem mapPutQ [hnb : NB C 0] (s : Nat) {mt k e : Nat} {td : TyD} {m kx x : Operand} {g gb : Nat} {l : List (α × Option (List D))} {a : α} {y : List D} (hm : av f m = some (.mq g (qes kf l))) (hl : look f s = some (.mq g (qes kf l))) (hk : av f kx = some (.d (.v (kf a)))) (hx : av f x = some (.ptr gb 0)) (hb : look' bx gb = some (y.map .d)) (hy : Nat.blt 0 y.length = true)
    (ht : look' T.l mt = some td) (htk : td.k = .map k e) (hkt : KeyT P k kf) (hgl : (lv.any fun h => Nat.beq h g) = true) (hsn : Nat.blt s n = true) (hn : (l.map (·.1)).Nodup) (hna : a ∉ l.map (·.1)) (hf : cutF gb [] f = f') (hbx : cutBg gb [] bx = some bx')
    {es' : List (Value × Option (List D))} (hes : qes kf (l ++ [(a, some y)]) = es') {lv' : List Nat} (hlv : (gen + 1) :: dropId lv g = lv')
    (h : WO P C n ops Q rest ⟨(s, .mq (gen + 1) es') :: f', bx', lv', gen + 2⟩) : WO P C n ops Q (⟨none, .mapUpdate mt m kx x, ty, pos, af, none⟩ :: rest) ⟨f, bx, lv, gen⟩ := by
  subst hes; subst hlv; subst hf
  refine WO.step (st := ⟨f, bx, lv, gen⟩) rfl fun tmps w ⟨G, hs⟩ => ?_
  have hbl : C.bx = [] := List.eq_nil_of_length_eq_zero hnb.h
  have hrm := hs.av hm
  have hrk := hs.av hk
  have hrx := hs.av hx
  obtain ⟨vs, hvs, hrs⟩ := hs.frame s _ hl
  generalize hv : Act.eval ⟨tmps, []⟩ m = v at hrm
  generalize hvk : Act.eval ⟨tmps, []⟩ kx = vk at hrk
  generalize hvx : Act.eval ⟨tmps, []⟩ x = vx at hrx
  obtain ⟨b, bs, me, clock, ps, l2, hgb, rfl, hmq⟩ := hs.mqAt hrm (memAny hgl)
  obtain ⟨b2, bs2, _, _, _, _, hgb2, rfl, _⟩ := hs.mqAt hrs (memAny hgl)
  obtain ⟨rfl, rfl⟩ : b2 = b ∧ bs2 = bs := by have := hgb2.symm.trans hgb; simpa using this
  cases hrk with | d hrk => cases hrk with | v _ hok =>
  cases hrx with
  | ptr _ _ _ c hgg hgc hvc =>
  have hgc : G.box gb = some c := hgc
  have hkeys : l2.map (·.1) = l.map (·.1) := by
    refine List.ext_getElem? fun i => ?_
    rw [List.getElem?_map, List.getElem?_map]
    rcases Nat.lt_or_ge i l2.length with hi | hi
    · have h1 : l2[i]? = some l2[i] := by simp [hi]
      have hi' : i < l.length := by rw [← hmq.ln]; exact hi
      have h2 : l[i]? = some l[i] := by simp [hi']
      rw [h1, h2]
      simp only [Option.map_some, hmq.ks i _ _ h1 h2]
    · rw [List.getElem?_eq_none hi, List.getElem?_eq_none (by rw [← hmq.ln]; exact hi)]
      rfl
  have hnew2 : ∀ p ∈ l2, p.1 ≠ a := fun p hp e => hna (by rw [← hkeys, ← e]; exact List.mem_map.2 ⟨p, hp, rfl⟩)
  obtain ⟨me', clock', hrun, hst', hmi', hwh⟩ := run_mapPutX (P := P) T (y := vx) (vf := D.v) ht htk hkt hmq.hb hmq.st hmq.mi (by rw [hkeys]; exact hn) a hok (v := vx) (.v _ (by rw [hvc]; rfl))
  have h0 : (execOp (Act.eval ⟨tmps, []⟩) ⟨none, .mapUpdate mt m kx x, ty, pos, af, none⟩).run P w = .ok .skip { w with heap := w.heap.setIfInBounds b2 (.map me' clock') } := by
    unfold execOp
    show Sem.run P _ w = .ok _ _
    simp only [hv, hvk, hvx, Sem.run_bind, hrun, Result.andThen_ok, Sem.run_pure]
  rw [mput_new hnew2] at hmi' hwh
  have hgl2 := hs.gown g _ hgb
  obtain ⟨G1, cs, T1, c1, c2, c3, c4, c5, c6, c7, hs1⟩ := hs.rowBox hbl hgc hb (Nat.le_of_ble_eq_true hy) hbx
  have hgb1 : G1.own g = some (.mp b2 bs2) := by rw [c6 g (Nat.ne_of_lt hgl2)]; exact hgb
  obtain ⟨G', hGb, ho1, hle, hs'⟩ := hs1.join (g := g) (g2 := gen) (bs' := (c, 0) :: bs2) hgb1 c5 (Ne.symm (Nat.ne_of_lt hgl2)) (fun p hp => by
    rcases List.mem_cons.1 hp with rfl | hp
    · exact .inr ⟨_, _, _, rfl⟩
    · exact .inl hp) me' clock' (dropId lv g) (fun g' hg' => by
    obtain ⟨t1, t2⟩ := dropId_mem hg'
    obtain ⟨r, hr⟩ := hs.live g' t1
    have := hs.gown g' r hr
    exact ⟨List.mem_cons_of_mem _ t1, t2, by simp only at this; omega⟩)
  obtain ⟨hnew, hoth⟩ := heap_set (o' := Obj.map me' clock') hmq.hb
  have hcells : ∀ {c : Nat} {cs : Array Value} {T : TypeId} {ff : Nat × Nat}, w.heap[c]? = some (.cells cs T ff) → (w.heap.setIfInBounds b2 (.map me' clock'))[c]? = some (.cells cs T ff) := fun {c cs T ff} hc => by
    rw [hoth c (fun e => by rw [e, hmq.hb] at hc; cases hc)]; exact hc
  have hle1 : ∀ {v : Value} {d : D}, RepD w (pvOf C G1) v d → RepD { w with heap := w.heap.setIfInBounds b2 (.map me' clock') } (pvOf C G') v d := fun hd => hd.mono fun b o u hu hp => hle.cell b o u hu hp
  have hle0 : ∀ {v : Value} {d : D}, RepD w (pvOf C G) v d → RepD { w with heap := w.heap.setIfInBounds b2 (.map me' clock') } (pvOf C G') v d := fun hd => hle1 (hd.mono fun b o u hu hp => ⟨hu, fun hp' => hp (c7 b o hp')⟩)
  have hnotc : ∀ lim, (c, lim) ∉ bs2 := fun lim hm => (hs.sub g b2 bs2 c lim hgb hm).2.1 gb hgc
  have hcl : ∀ (a' : α) (x' : List D), (a', some x') ∈ l → (ps (kf a'), 0) ∈ bs2 := fun a' x' hm => by
    obtain ⟨i, hi⟩ := List.mem_iff_getElem?.1 hm
    have hil : i < me.size := by rw [hmq.mi.1, hmq.ln]; exact (List.getElem?_eq_some_iff.1 hi).1
    exact (hmq.at_ i me[i] a' x' (by simp [hil]) hi).2.1
  have hne : ∀ (a' : α) (o : Option (List D)), (a', o) ∈ l → kf a' ≠ kf a := fun a' o hm e => hna (by rw [← hkt.inj _ _ e]; exact List.mem_map.2 ⟨_, hm, rfl⟩)
  have hmq' : MqAt { w with heap := w.heap.setIfInBounds b2 (.map me' clock') } (pvOf C G') b2 ((c, 0) :: bs2) kf (l ++ [(a, some y)]) me' clock' (fun k => if k = kf a then c else ps k) (l2 ++ [(a, vx)]) := by
    refine ⟨hnew, hst', ⟨hmi'.1, fun i m p hm hp => ?_⟩, by simp [hmq.ln], fun i p q hp hq => ?_, fun a1 a2 x1 x2 q1 q2 q3 => ?_, fun i mm a1 x1 hmm hp => ?_⟩
    · obtain ⟨q1, q2, q3⟩ := hmi'.2 i m p hm hp
      exact ⟨q1, q2, hle0 q3⟩
    · rcases Nat.lt_or_ge i l2.length with hi | hi
      · rw [List.getElem?_append_left hi] at hp
        rw [List.getElem?_append_left (by rw [← hmq.ln]; exact hi)] at hq
        exact hmq.ks i p q hp hq
      · rw [List.getElem?_append_right hi] at hp
        rw [List.getElem?_append_right (by rw [← hmq.ln]; exact hi), ← hmq.ln] at hq
        generalize i - l2.length = j at hp hq
        cases j with
        | zero =>
          simp only [List.getElem?_cons_zero, Option.some.injEq] at hp hq
          subst hp; subst hq; rfl
        | succ j => simp at hp
    · rcases List.mem_append.1 q1 with q1 | q1 <;> rcases List.mem_append.1 q2 with q2 | q2
      · rw [if_neg (hne _ _ q1), if_neg (hne _ _ q2)] at q3
        exact hmq.inj a1 a2 x1 x2 q1 q2 q3
      · simp only [List.mem_singleton, Prod.mk.injEq] at q2
        rw [if_neg (hne _ _ q1), q2.1, if_pos rfl] at q3
        exact absurd (q3 ▸ hcl a1 x1 q1) (hnotc 0)
      · simp only [List.mem_singleton, Prod.mk.injEq] at q1
        rw [if_neg (hne _ _ q2), q1.1, if_pos rfl] at q3
        exact absurd (q3 ▸ hcl a2 x2 q2) (hnotc 0)
      · simp only [List.mem_singleton, Prod.mk.injEq] at q1 q2
        rw [q1.1, q2.1]
    · rcases Nat.lt_or_ge i l.length with hi | hi
      · rw [List.getElem?_append_left hi] at hp
        have hi2 : i < l2.length := by rw [hmq.ln]; exact hi
        have hl2 : (l2 ++ [(a, vx)])[i]? = some l2[i] := by rw [List.getElem?_append_left hi2]; simp [hi2]
        have hk1 := hmq.ks i _ _ (by simp [hi2] : l2[i]? = some l2[i]) hp
        rcases hwh i mm _ hmm hl2 with ⟨e, _⟩ | ⟨_, m0, e1, e2, e3⟩
        · have hk2 : a1 = a := by rw [e] at hk1; exact hk1.symm
          exact absurd (List.mem_map.2 ⟨_, List.mem_of_getElem? hp, hk2⟩) hna
        · obtain ⟨r1, r2, cur, T2, r3, r4, r5, r6⟩ := hmq.at_ i m0 a1 x1 e1 hp
          rw [if_neg (hne _ _ (List.mem_of_getElem? hp))]
          exact ⟨e3 ▸ r1, List.mem_cons_of_mem _ r2, cur, T2, hcells r3, r4, r5, fun j u d hu hd => hle0 (r6 j u d hu hd)⟩
      · rw [List.getElem?_append_right hi] at hp
        have hi2 : l2.length ≤ i := by rw [hmq.ln]; exact hi
        have hii : i < (l2 ++ [(a, vx)]).length := by rw [← hmi'.1]; exact (Array.getElem?_eq_some_iff.1 hmm).1
        have e0 : i = l.length := by rw [List.length_append, hmq.ln] at hii; simp at hii; omega
        subst e0
        simp only [Nat.sub_self, List.getElem?_cons_zero, Option.some.injEq, Prod.mk.injEq] at hp
        obtain ⟨rfl, rfl⟩ := hp
        have hl2 : (l2 ++ [(a, vx)])[l.length]? = some (a, vx) := by rw [List.getElem?_append_right hi2, hmq.ln]; simp
        rw [if_pos rfl]
        refine ⟨?_, List.mem_cons_self, cs, T1, hcells c1, c2, c3, fun j u d hu hd => hle1 (c4 j u d hu hd)⟩
        rcases hwh _ mm _ hmm hl2 with ⟨_, e2⟩ | ⟨e, _⟩
        · rw [e2, hvc]
        · exact absurd rfl e
  refine gives_skip h0 ⟨_, ⟨G', ?_⟩, h⟩
  have := hs'.set (d := s) (Nat.le_of_ble_eq_true hsn) (v := .map (some b2)) (a := .mq (gen + 1) (qes kf (l ++ [(a, some y)]))) (.mq _ _ _ (by simp [enOf]) rfl (fun r hr => by
    have : G'.own (gen + 1) = some r := hr
    rw [ho1] at this
    cases this
    exact hmq'.to))
  rwa [set_same hvs] at this
end
end Go.Ab
namespace Go.Ab
open Go.RowKit Go.MapKept
theorem mget_pos {α β : Type} [DecidableEq α] {l : List (α × β)} {i : Nat} {a : α} {v : β} (hn : (l.map (·.1)).Nodup) (h : l[i]? = some (a, v)) : mget l a = some v := by
  induction l generalizing i with
  | nil => simp at h
  | cons p r ih =>
    rw [List.map_cons, List.nodup_cons] at hn
    rw [mget_cons]
    cases i with
    | zero =>
      simp only [List.getElem?_cons_zero, Option.some.injEq] at h
      subst h
      rw [if_pos rfl]
    | succ i =>
      simp only [List.getElem?_cons_succ] at h
      have : p.1 ≠ a := fun e => hn.1 (by rw [e]; exact List.mem_map.2 ⟨_, List.mem_of_getElem? h, rfl⟩)
      rw [if_neg this]
      exact ih hn.2 h
section
variable {P : Program} (T : Tab P) {C : Ctx} {n : Nat} {ops : Array Oper} {Q : Exit → St → Prop} {rest : List Oper}
variable {f f' : List (Nat × A)} {bx bx' : List (Nat × List A)} {lv : List Nat} {gen : Nat} {d : Nat} {ty : TypeId} {pos : String} {af : Array Edge} {dst : Option Nat} {c : Code}
variable {α : Type} [DecidableEq α] {kf : α → Value}
theorem mapTakeQ (s i : Nat) {mt k e : Nat} {td ed : TyD} {m kx : Operand} {g : Nat} {l : List (α × Option (List D))} {a : α} {y : List D} {zx : Value} (hd : Nat.blt d n = true) (hm : av f m = some (.mq g (qes kf l))) (hl : look f s = some (.mq g (qes kf l))) (hk : av f kx = some (.d (.v (kf a)))) (hy : Nat.blt 0 y.length = true)
    (ht : look' T.l mt = some td) (htk : td.k = .map k e) (he : look' T.l e = some ed) (hkt : KeyT P k kf) (hgl : (lv.any fun h => Nat.beq h g) = true) (hzc : ed.z = [zx]) (hzk : notSt ed.k = true) (hzo : okc zx = true) (hsn : Nat.blt s n = true) (hn : (l.map (·.1)).Nodup) (hi : l[i]? = some (a, some y))
    {es' : List (Value × Option (List D))} (hes : qes kf (l.set i (a, none)) = es') {lv' : List Nat} (hlv : gen :: dropId lv g = lv')
    (h : WO P C n ops Q rest ⟨(d, .tup [.ptr (gen + 2) 0, .d (.v (.bool true))]) :: (s, .mq gen es') :: f, (gen + 2, y.map .d) :: bx, lv', gen + 3⟩) : WO P C n ops Q (⟨some d, .lookup mt m kx true, ty, pos, af, none⟩ :: rest) ⟨f, bx, lv, gen⟩ := by
  subst hes; subst hlv
  refine WO.step (st := ⟨f, bx, lv, gen⟩) rfl fun tmps w ⟨G, hs⟩ => ?_
  have hrm := hs.av hm
  have hrk := hs.av hk
  obtain ⟨vs, hvs, hrs⟩ := hs.frame s _ hl
  generalize hv : Act.eval ⟨tmps, []⟩ m = v at hrm
  generalize hvk : Act.eval ⟨tmps, []⟩ kx = vk at hrk
  obtain ⟨b, bs, me, clock, ps, l2, hgb, rfl, hmq⟩ := hs.mqAt hrm (memAny hgl)
  obtain ⟨b2, bs2, _, _, _, _, hgb2, rfl, _⟩ := hs.mqAt hrs (memAny hgl)
  obtain ⟨rfl, rfl⟩ : b2 = b ∧ bs2 = bs := by have := hgb2.symm.trans hgb; simpa using this
  cases hrk with | d hrk => cases hrk with | v _ hok =>
  have hpos := Nat.le_of_ble_eq_true hy
  have hkeys : l2.map (·.1) = l.map (·.1) := by
    refine List.ext_getElem? fun i => ?_
    rw [List.getElem?_map, List.getElem?_map]
    rcases Nat.lt_or_ge i l2.length with hi | hi
    · have h1 : l2[i]? = some l2[i] := by simp [hi]
      have hi' : i < l.length := by rw [← hmq.ln]; exact hi
      have h2 : l[i]? = some l[i] := by simp [hi']
      rw [h1, h2]
      simp only [Option.map_some, hmq.ks i _ _ h1 h2]
    · rw [List.getElem?_eq_none hi, List.getElem?_eq_none (by rw [← hmq.ln]; exact hi)]
      rfl
  have hil := (List.getElem?_eq_some_iff.1 hi).1
  have hil2 : i < l2.length := by rw [hmq.ln]; exact hil
  have hime : i < me.size := by rw [hmq.mi.1]; exact hil2
  have hmei : me[i]? = some me[i] := by simp [hime]
  have hl2i : l2[i]? = some l2[i] := by simp [hil2]
  obtain ⟨r1, r2, cur, T1, r3, r4, r5, r6⟩ := hmq.at_ i me[i] a y hmei hi
  obtain ⟨q1, q2, q3⟩ := hmq.mi.2 i me[i] l2[i] hmei hl2i
  have hk1 : l2[i].1 = a := hmq.ks i _ _ hl2i hi
  have hval : l2[i].2 = .pointer (some ⟨ps (kf a), 0, none⟩) := by
    rw [← r1]
    generalize me[i].val = z at q3
    generalize l2[i].2 = z2 at q3
    cases q3; rfl
  have hget : mget l2 a = some (.pointer (some ⟨ps (kf a), 0, none⟩)) := mget_pos (i := i) (by rw [hkeys]; exact hn) (by rw [hl2i, ← hval, ← hk1])
  obtain ⟨u, h1, h2⟩ := run_mapGet (P := P) (vf := D.v) (z := zx) T ht htk he hkt hzc hzk (.v _ hzo) hmq.hb hmq.mi (by rw [hkeys]; exact hn) a true
  rw [hget] at h1 h2
  simp only [Option.getD_some] at h2
  have hu : u = .pointer (some ⟨ps (kf a), 0, none⟩) := by cases h2; rfl
  subst hu
  generalize hcc : ps (kf a) = c at *
  have h0 : (execOp (Act.eval ⟨tmps, []⟩) ⟨some d, .lookup mt m kx true, ty, pos, af, none⟩).run P w = .ok (.value (.tuple #[.pointer (some ⟨c, 0, none⟩), .bool true])) w := by
    unfold execOp
    show Sem.run P _ w = .ok _ _
    simp only [hv, hvk, Sem.run_bind, h1, Result.andThen_ok, Sem.run_pure]
    rfl
  obtain ⟨G1, hGb, ho1, ho2, hle, hs1⟩ := hs.split hgb (bs' := bs2.filter fun q => !Nat.beq q.1 c) (fun q hq => (List.mem_filter.1 hq).1) (.blk c 1 1 y.length 0) (fun _ _ h => by cases h) (fun c' len cap sz pub h => by
    simp only [Row.blk.injEq] at h
    obtain ⟨rfl, rfl, rfl, rfl, rfl⟩ := h
    exact ⟨r2, fun q hq e => by have := (List.mem_filter.1 hq).2; rw [e] at this; simp at this, cur, T1, r3, by rw [r4]; simp, Nat.le_refl _, by simp [maxLen], hpos, by decide, Nat.zero_le _, r5⟩) (dropId lv g) (fun g' hg' => dropId_mem hg')
  have hat : ∀ {a' : α} {x : List D}, (a', some x) ∈ l.set i (a, none) → (a', some x) ∈ l ∧ a' ≠ a := fun {a' x} hm => by
    obtain ⟨j, hj⟩ := List.mem_iff_getElem?.1 hm
    rw [List.getElem?_set] at hj
    split at hj
    · simp at hj
    · rename_i hne
      refine ⟨List.mem_of_getElem? hj, fun e => hne ?_⟩
      have hpw := List.pairwise_iff_getElem.1 hn
      have h6 : (l.map (·.1))[i]? = some a := by simp [hi]
      have h7 : (l.map (·.1))[j]? = some a := by simp [hj, e]
      obtain ⟨hj1, hj2⟩ := List.getElem?_eq_some_iff.1 h6
      obtain ⟨hi1, hi2⟩ := List.getElem?_eq_some_iff.1 h7
      rcases Nat.lt_trichotomy i j with hlt | heq | hgt
      · exact absurd (hj2.trans hi2.symm) (hpw i j hj1 hi1 hlt)
      · exact heq
      · exact absurd (hi2.trans hj2.symm) (hpw j i hi1 hj1 hgt)
  have hmq' : MqAt w (pvOf C G1) b2 (bs2.filter fun q => !Nat.beq q.1 c) kf (l.set i (a, none)) me clock ps l2 := by
    refine ⟨hmq.hb, hmq.st, hmq.mi.mono fun b o u hu hp => hle.cell b o u hu hp, by rw [hmq.ln]; simp, fun j p q hp hq => ?_, fun a1 a2 x1 x2 m1 m2 m3 => hmq.inj a1 a2 x1 x2 (hat m1).1 (hat m2).1 m3, fun j mm a1 x1 hmm hp => ?_⟩
    · rw [List.getElem?_set] at hq
      split at hq
      · rename_i e
        subst e
        simp only [Option.some.injEq] at hq
        subst hq
        rw [hl2i] at hp
        cases hp
        exact hk1
      · exact hmq.ks j p q hp hq
    · have hp' := hat (List.mem_of_getElem? hp)
      have hp2 : l[j]? = some (a1, some x1) := by
        rw [List.getElem?_set] at hp
        split at hp
        · simp at hp
        · exact hp
      obtain ⟨t1, t2, cur2, T2, t3, t4, t5, t6⟩ := hmq.at_ j mm a1 x1 hmm hp2
      refine ⟨t1, List.mem_filter.2 ⟨t2, ?_⟩, cur2, T2, t3, t4, t5, fun j u d hu hd => (t6 j u d hu hd).mono fun b o u hu hp => hle.cell b o u hu hp⟩
      cases hq : Nat.beq (ps (kf a1)) c with
      | false => rfl
      | true =>
        have e := Nat.eq_of_beq_eq_true hq
        exact absurd (hkt.inj _ _ (hmq.inj a1 a x1 y hp'.1 (List.mem_of_getElem? hi) (by rw [e, hcc]))) hp'.2
  have hs2 := hs1.set (d := s) (Nat.le_of_ble_eq_true hsn) (v := .map (some b2)) (a := .mq gen (qes kf (l.set i (a, none)))) (.mq _ _ _ (by simp [enOf]) rfl (fun r hr => by
    have : G1.own gen = some r := hr
    rw [ho1] at this
    cases this
    exact hmq'.to))
  rw [set_same hvs] at hs2
  have hlive1 : ∀ g' ∈ gen :: dropId lv g, g' ∈ gen :: (gen + 1) :: dropId lv g ∧ g' ≠ gen + 1 := fun g' hg' => by
    rcases List.mem_cons.1 hg' with rfl | hg'
    · exact ⟨List.mem_cons_self, by omega⟩
    · obtain ⟨t1, t2⟩ := dropId_mem hg'
      obtain ⟨r, hr⟩ := hs.live g' t1
      have := hs.gown g' r hr
      simp only at this
      exact ⟨List.mem_cons_of_mem _ (List.mem_cons_of_mem _ hg'), by omega⟩
  obtain ⟨G2, hs3, hr3⟩ := hs2.boxRow (g := gen + 1) (b := c) (len := 1) (cap := 1) (sz := y.length) ho2 (es := [y]) (v := .slice (some ⟨c, 0, none⟩) 1 1) ⟨rfl, rfl, rfl, by simp, fun i j e d he hd => by
    cases i with
    | zero =>
      simp only [List.getElem?_cons_zero, Option.some.injEq] at he
      subst he
      have hjl : j < cur.size := by rw [r4]; exact (List.getElem?_eq_some_iff.1 hd).1
      have hcj : cur[j]? = some cur[j] := by simp [hjl]
      refine ⟨cur[j], ?_, (r6 j _ d hcj hd).mono fun b o u hu hp => hle.cell b o u hu hp⟩
      rw [Nat.zero_mul, Nat.zero_add, cellAt_row r3, hcj]
    | succ i => simp at he⟩ (gen :: dropId lv g) hlive1
  have hbe : boxE [y] (1 * y.length - 1 * y.length) = y.map .d := by simp [boxE]
  rw [hbe] at hs3
  refine gives_value h0 ⟨_, ⟨G2, hs3.put (dst := some d) (dstOK_lt (dst := some d) hd) (.tup _ _ rfl (fun j u x hu hx => ?_))⟩, h⟩
  match j with
  | 0 =>
    simp at hu hx
    subst hu; subst hx
    cases hr3 with
    | sb _ _ _ _ b0 hgg hb0 hnn hp =>
    simp only [Value.slice.injEq, Option.some.injEq, Addr.mk.injEq] at hp
    refine .ptr _ _ _ c (by show gen + 2 < gen + 3; omega) ?_ rfl
    have hb0 : G2.box (gen + 2) = some b0 := hb0
    show G2.box (gen + 2) = some c
    rw [hb0, hp.1.1]
  | 1 => simp at hu hx; subst hu; subst hx; exact .d (.v _ rfl)
  | j + 2 => simp at hx
end
end Go.Ab
namespace Go.Tb
open Go.Ab
structure Thr where
  id : Int
  name : ByteArray
deriving DecidableEq
@[reducible] def Thr.c (t : Thr) : List D := [ci t.id, cs t.name, ci 0]
def domC (p : Int × Int) : List D := [ci p.1, ci p.2]
def dom0 : List (Int × Int) := [(0, 0)]
@[reducible] def hdC (ts : List Thr) : List D := [.sl (ts.map Thr.c), .sl (dom0.map domC), .sl []]
def OkT (ts : List Thr) : Prop := (∀ t ∈ ts, 0 ≤ t.id ∧ t.id ≤ 1000000000000000 ∧ nameErr t.name = 0) ∧ (ts.map Thr.id).Nodup
def headE (ts : List Thr) : Int := if ts = [] then 8 else if 64 < ts.length then 7 else 0
structure Pkt where
  thread : Int
  serial : Int
  lost : Int
  evs : List Ev
@[reducible] def Pkt.c (p : Pkt) : List D := [ci p.thread, ci p.serial, ci p.lost, .sl (p.evs.map Ev.c)]
theorem nodup_take {α β : Type} {f : α → β} {l : List α} (h : (l.map f).Nodup) (k : Nat) : ((l.take k).map f).Nodup := by
  rw [List.map_take]
  exact h.sublist (List.take_sublist _ _)
theorem nodup_at {α β : Type} {f : α → β} {l : List α} (h : (l.map f).Nodup) {k : Nat} {x : α} (hx : l[k]? = some x) : f x ∉ (l.take k).map f := by
  intro hm
  obtain ⟨y, hy, e⟩ := List.mem_map.1 hm
  obtain ⟨i, hi⟩ := List.mem_iff_getElem?.1 hy
  have hik : i < k := by
    have := (List.getElem?_eq_some_iff.1 hi).1
    simp at this
    omega
  rw [List.getElem?_take_of_lt hik] at hi
  have hpw := List.pairwise_iff_getElem.1 h
  have h6 : (l.map f)[i]? = some (f y) := by simp [hi]
  have h7 : (l.map f)[k]? = some (f x) := by simp [hx]
  obtain ⟨hj1, hj2⟩ := List.getElem?_eq_some_iff.1 h6
  obtain ⟨hi1, hi2⟩ := List.getElem?_eq_some_iff.1 h7
  exact hpw i k hj1 hi1 hik (by rw [hj2, hi2, e])
abbrev cbD (b : Bool) : D := .v (.bool b)
def seenM {α : Type} (l : List (α)) (f : α → Int) : List (Int × Bool) := l.map fun t => (f t, true)
theorem seenM_keys {α : Type} (l : List α) (f : α → Int) : (seenM l f).map (·.1) = l.map f := by unfold seenM; rw [List.map_map]; rfl
theorem seenM_get {α : Type} {f : α → Int} {l : List α} (h : (l.map f).Nodup) {k : Nat} {x : α} (hx : l[k]? = some x) : (mget (seenM (l.take k) f) (f x)).getD false = false := by
  rw [mget_new]; rfl
  intro p hp e
  have := nodup_at h hx
  rw [← seenM_keys] at this
  exact this (List.mem_map.2 ⟨p, hp, e⟩)
theorem seenM_put {α : Type} {f : α → Int} {l : List α} (h : (l.map f).Nodup) {k : Nat} {x : α} (hx : l[k]? = some x) : mput (seenM (l.take k) f) (f x) true = seenM (l.take (k + 1)) f := by
  rw [mput_new]
  · unfold seenM
    rw [List.take_add_one, hx, List.map_append]; rfl
  · intro p hp e
    have := nodup_at h hx
    rw [← seenM_keys] at this
    exact this (List.mem_map.2 ⟨p, hp, e⟩)
end Go.Tb
namespace Go.Tb
open Go.Ab
@[reducible] def z2 : List D := [ci 0, ci 0]
def tq (ids : List Int) (k : Nat) : List (Int × Option (List D)) := (ids.take k).map (fun a => (a, none)) ++ (ids.drop k).map (fun a => (a, some z2))
def tq0 (ids : List Int) (k : Nat) : List (Int × Option (List D)) := (ids.take k).map (fun a => (a, some z2))
theorem tq0_keys (ids : List Int) (k : Nat) : (tq0 ids k).map (·.1) = ids.take k := by unfold tq0; rw [List.map_map]; exact List.map_id _
theorem tq_keys (ids : List Int) (k : Nat) : (tq ids k).map (·.1) = ids := by
  unfold tq
  rw [List.map_append, List.map_map, List.map_map]
  show List.map id _ ++ List.map id _ = _
  rw [List.map_id, List.map_id, List.take_append_drop]
theorem tq0_step {ids : List Int} {k : Nat} {a : Int} (h : ids[k]? = some a) : tq0 ids k ++ [(a, some z2)] = tq0 ids (k + 1) := by
  unfold tq0
  rw [List.take_add_one, h, List.map_append]; rfl
theorem tq0_all {ids : List Int} {k : Nat} (h : k = ids.length) : tq0 ids k = tq ids 0 := by
  subst h
  unfold tq0 tq
  rw [List.take_length, List.take_zero, List.drop_zero]; rfl
theorem tq_get {ids : List Int} {k : Nat} {a : Int} (h : ids[k]? = some a) : (tq ids k)[k]? = some (a, some z2) := by
  have hk := (List.getElem?_eq_some_iff.1 h).1
  unfold tq
  rw [List.getElem?_append_right (by simp; omega)]
  have : k - ((ids.take k).map (fun a => (a, (none : Option (List D))))).length = 0 := by simp; omega
  rw [this, List.getElem?_map, List.getElem?_drop, Nat.add_zero, h]; rfl
theorem tq_set {ids : List Int} {k : Nat} {a : Int} (h : ids[k]? = some a) : (tq ids k).set k (a, none) = tq ids (k + 1) := by
  have hk := (List.getElem?_eq_some_iff.1 h).1
  have hd : ids.drop k = a :: ids.drop (k + 1) := by
    rw [List.drop_eq_getElem_cons hk]
    congr 1
    exact (List.getElem?_eq_some_iff.1 h).2
  unfold tq
  rw [List.set_append_right _ _ (by simp; omega)]
  have : k - ((ids.take k).map (fun a => (a, (none : Option (List D))))).length = 0 := by simp; omega
  rw [this, hd, List.take_add_one, h]
  simp
theorem nodup_at' {l : List Int} (h : l.Nodup) {k : Nat} {x : Int} (hx : l[k]? = some x) : x ∉ l.take k := by
  have := nodup_at (f := id) (by rw [List.map_id]; exact h) hx
  rwa [List.map_id] at this
end Go.Tb
namespace Go.Ab
open Go.RowKit
section
variable {P : Program} {C : Ctx} {n : Nat} {f : List (Nat × A)} {bx : List (Nat × List A)} {lv : List Nat} {gen : Nat} {ty : TypeId} {pos : String} {af : Array Edge} {dst : Option Nat}
theorem nilX {x : Operand} {g j off : Nat} {l : List D} (hx : av f x = some (.xp g j off l)) (hgl : (lv.any fun h => Nat.beq h g) = true) :
    Pu P C n ⟨f, bx, lv, gen⟩ ⟨dst, .nilCheck x, ty, pos, af, none⟩ (.xp g j off l) := by
  refine PuOK.pu fun G tmps w hs => ?_
  have hr := hs.av hx
  obtain ⟨r, hgr⟩ := hs.live g (memAny hgl)
  generalize hv : Act.eval ⟨tmps, []⟩ x = v at hr
  have hr0 := hr
  cases hr with
  | xp _ _ _ _ _ hgg h1 hrow =>
  have hx0 := hrow r hgr
  cases r with
  | nil => exact hx0.elim
  | zero b => exact hx0.elim
  | mp b bs => exact hx0.elim
  | blk b len cap sz pub =>
    obtain ⟨rfl, h2, h3, h4⟩ := hx0
    refine ⟨.pointer (some ⟨b, j * sz + off, none⟩), ?_, hr0⟩
    unfold execOp
    show Sem.run P _ w = .ok _ w
    simp only [hv, Sem.run_bind, Result.andThen_ok, Sem.run_pure]
end
end Go.Ab
namespace Go.Tb
open Go.Ab
def evJ (l : List Ev) : Nat → List Ev | 0 => l | _ => []
def clJ (l : List Ev) : Nat → D | 0 => .v (.slice none 0 0) | _ => .sl (l.map Ev.c)
def lateO (last : Option Int) (t : Int) : Bool := match last with | some u => decide (t < u) | none => false
def allE : List Ev → Option Int → Int
  | [], _ => 0
  | e :: r, last => if checkE e ≠ 0 then checkE e else if lateO last e.time = true then 11 else allE r (some e.time)
def checksE : List Pkt → Int
  | [] => 0
  | p :: r => if allE p.evs none ≠ 0 then allE p.evs none else checksE r
def OkP (ts : List Thr) (ps : List Pkt) : Prop := ps.map Pkt.thread = ts.map Thr.id ∧ (∀ p ∈ ps, p.serial = 0 ∧ p.lost = 0 ∧ 0 < p.evs.length ∧ p.evs.length ≤ 1000) ∧ (ps.map fun p => p.evs.length).sum ≤ 20000
structure LogR where
  ts : List Thr
  ds : List (Int × Int)
  ps : List Pkt
@[reducible] def LogR.c (l : LogR) : List D := [.sl (l.ts.map Thr.c), .sl (l.ds.map domC), .sl [], .sl (l.ps.map Pkt.c)]
def log0 : LogR := ⟨[], [], []⟩
end Go.Tb
namespace Go.Tb
open Go.Ab
theorem cutN_sum (s : ByteArray) (c : UInt8) : ((cutB s c).map ByteArray.size).sum + (cutB s c).length = s.size + 1 := by
  have key : ∀ l : List UInt8, ((cutL c l).map List.length).sum + (cutL c l).length = l.length + 1 := by
    intro l
    induction l with
    | nil => simp [cutL]
    | cons b r ih =>
      obtain ⟨h, t, e⟩ := cutL_cons c r
      simp only [cutL]
      split
      · simp only [List.map_cons, List.sum_cons, List.length_cons, List.length_nil]; omega
      · rw [e] at ih ⊢
        simp only [List.headD_cons, List.tail_cons, List.map_cons, List.sum_cons, List.length_cons] at ih ⊢
        omega
  have h1 := key s.data.toList
  have h2 : s.data.toList.length = s.size := Array.length_toList
  have h3 : (cutB s c).map ByteArray.size = (cutL c s.data.toList).map List.length := by
    unfold cutB
    rw [List.map_map]
    apply List.map_congr_left
    intro x _
    show (ofL x).size = x.length
    exact List.size_toArray
  rw [h3, ← h2, ← h1]
  unfold cutB
  rw [List.length_map]
def linesF : List ByteArray → Nat → List (Int × Ev) → Nat × List (Int × Ev)
  | [], _, acc => (0, acc)
  | w :: r, i, acc => if w = B #[] then linesF r (i + 1) acc else if (lineF w).e ≠ 0 then (i + 1, []) else linesF r (i + 1) (acc ++ lineE (lineF w))
def evsN : List ByteArray → Nat
  | [] => 0
  | w :: r => (if w = B #[] ∨ (lineF w).e ≠ 0 then 0 else (lineE (lineF w)).length) + evsN r
def thrT (id : Int) : Thr := ⟨id, B #[116] ++ numB id⟩
def pktT (p : Int × List Ev) : Pkt := ⟨p.1, 0, 0, p.2⟩
def ofF (ts : List Thr) (ps : List Pkt) : LogR × Int := if headE ts ≠ 0 then (log0, headE ts) else if checksE ps ≠ 0 then (log0, checksE ps) else (⟨ts, dom0, ps⟩, 0)
def logE (l : List (Int × Ev)) : LogR × Int := ofF ((addsF ([], []) l).1.map thrT) ((addsF ([], []) l).2.map pktT)
structure ImpR where
  l : LogR
  n : Nat
  e : Int
def impF (s : ByteArray) : ImpR :=
  if 65536 < s.size then ⟨log0, 0, 7⟩
  else if (linesF (cutB s 10) 0 []).1 ≠ 0 then ⟨log0, (linesF (cutB s 10) 0 []).1, 10⟩
  else ⟨(logE (linesF (cutB s 10) 0 []).2).1, 0, (logE (linesF (cutB s 10) 0 []).2).2⟩
/-! what a line that is accepted holds -/
def OkL (x : LineR) : Prop := (x.word = wkW ∧ x.l.length = 2) ∨ (x.word = swW ∧ x.l.length = 3) ∨ (x.word = blW ∧ x.l.length = 3)
theorem numsF_ok : ∀ (l : List ByteArray) (b : Bool), numsF l b = true → b = true ∧ ∀ w ∈ l, 0 ≤ nv w ∧ nv w ≤ 1000000000000000
  | [], b, h => ⟨h, by simp⟩
  | w :: r, b, h => by
    simp only [numsF] at h
    obtain ⟨h1, h2⟩ := numsF_ok r _ h
    simp only [Bool.and_eq_true] at h1
    refine ⟨h1.1, fun x hx => ?_⟩
    rcases List.mem_cons.1 hx with rfl | hx
    · have := h1.2
      unfold numF at this
      simp only [Bool.and_eq_true, decide_eq_true_eq] at this
      unfold nv numF
      exact ⟨this.1.2, this.2⟩
    · exact h2 x hx
theorem lineW_ok {w : List ByteArray} (h : (lineW w).e = 0) : ∃ a b k r, w = a :: b :: k :: r ∧ (r.length : Int) = cntF k ∧ cntF k ≠ 0 ∧ (∀ x ∈ r, 0 ≤ nv x ∧ nv x ≤ 1000000000000000) ∧ lineW w = ⟨(numF a 1000000000000).1, (numF b 63).1, k, r.map nv, 0⟩ := by
  match w, h with
  | [], h => cases h
  | [_], h => cases h
  | [_, _], h => cases h
  | a :: b :: k :: r, h =>
    simp only [lineW] at h
    split at h
    · cases h
    · rename_i h1
      split at h
      · cases h
      · rename_i h2
        refine ⟨a, b, k, r, rfl, Decidable.byContradiction fun q => h1 (.inr q), fun q => h1 (.inl q), ?_, ?_⟩
        · refine (numsF_ok r (numF a 1000000000000).2 ?_).2
          cases q : numsF r (numF a 1000000000000).2 with
          | true => rfl
          | false => exact absurd (.inl q) h2
        · simp only [lineW]
          rw [if_neg h1, if_neg h2]
theorem lineF_ok {s : ByteArray} (h : (lineF s).e = 0) : OkL (lineF s) ∧ (∀ x ∈ (lineF s).l, 0 ≤ x ∧ x ≤ 1000000000000000) ∧ 4 ≤ s.size := by
  obtain ⟨a, b, k, r, h1, h2, h3, h4, h5⟩ := lineW_ok (w := cutB s 32) h
  have h5 : lineF s = ⟨(numF a 1000000000000).1, (numF b 63).1, k, r.map nv, 0⟩ := h5
  rw [h5]
  have hk : (k = wkW ∧ r.length = 2) ∨ (k = swW ∧ r.length = 3) ∨ (k = blW ∧ r.length = 3) := by
    rcases cnt_val k with ⟨q, e⟩ | ⟨q, e⟩ | ⟨q, e⟩ | ⟨_, _, _, e⟩
    · exact .inr (.inl ⟨q, by omega⟩)
    · exact .inr (.inr ⟨q, by omega⟩)
    · exact .inl ⟨q, by omega⟩
    · exact absurd e h3
  refine ⟨?_, fun x hx => ?_, ?_⟩
  · simpa [OkL] using hk
  · obtain ⟨y, hy, rfl⟩ := List.mem_map.1 hx
    exact h4 y hy
  · have := cutN_sum s 32
    rw [h1] at this
    simp only [List.map_cons, List.sum_cons] at this
    simp only [List.length_cons] at this
    rcases hk with ⟨_, e⟩ | ⟨_, e⟩ | ⟨_, e⟩ <;> omega
theorem lineE_len (x : LineR) : (lineE x).length ≤ 2 := by
  unfold lineE
  split <;> simp
theorem lineE_ids {x : LineR} (h : OkL x) (h2 : ∀ y ∈ x.l, 0 ≤ y ∧ y ≤ 1000000000000000) : ∀ p ∈ lineE x, 0 ≤ p.1 ∧ p.1 ≤ 1000000000000000 := by
  have hg : ∀ i : Nat, 0 ≤ x.l[i]?.getD 0 ∧ x.l[i]?.getD 0 ≤ 1000000000000000 := fun i => by
    cases q : x.l[i]? with
    | none => simp
    | some y => exact h2 y (List.mem_of_getElem? q)
  intro p hp
  unfold lineE at hp
  split at hp
  · simp only [List.mem_singleton] at hp
    subst hp
    exact hg 0
  · simp only [List.mem_cons, List.not_mem_nil, or_false] at hp
    rcases hp with rfl | rfl
    · exact hg 0
    · exact hg 2
theorem evsN_size : ∀ l : List ByteArray, 5 * evsN l ≤ 2 * ((l.map ByteArray.size).sum + l.length)
  | [] => by simp [evsN]
  | w :: r => by
    have ih := evsN_size r
    simp only [evsN, List.map_cons, List.sum_cons, List.length_cons]
    split
    · omega
    · rename_i h
      have h4 := (lineF_ok (s := w) (Decidable.byContradiction fun q => h (.inr q))).2.2
      have := lineE_len (lineF w)
      omega
theorem evsN_le {s : ByteArray} (h : s.size ≤ 2000) : evsN (cutB s 10) ≤ 1000 := by
  have h1 := evsN_size (cutB s 10)
  rw [cutN_sum] at h1
  omega
theorem linesF_ok : ∀ (l : List ByteArray) (i : Nat) (acc : List (Int × Ev)), (∀ p ∈ acc, 0 ≤ p.1 ∧ p.1 ≤ 1000000000000000) →
    (∀ p ∈ (linesF l i acc).2, 0 ≤ p.1 ∧ p.1 ≤ 1000000000000000) ∧ (linesF l i acc).2.length ≤ acc.length + evsN l
  | [], i, acc, h => ⟨h, by simp [linesF, evsN]⟩
  | w :: r, i, acc, h => by
    simp only [linesF, evsN]
    split
    · rename_i q
      rw [if_pos (.inl q), Nat.zero_add]
      exact linesF_ok r _ acc h
    · rename_i q
      split
      · exact ⟨by simp, by simp⟩
      · rename_i q2
        have q2 : (lineF w).e = 0 := Decidable.byContradiction q2
        obtain ⟨h1, h2, _⟩ := lineF_ok q2
        rw [if_neg (by rintro (a | a); exact q a; exact a q2)]
        obtain ⟨t1, t2⟩ := linesF_ok r (i + 1) (acc ++ lineE (lineF w)) (fun p hp => (List.mem_append.1 hp).elim (h p) (lineE_ids h1 h2 p))
        refine ⟨t1, ?_⟩
        rw [List.length_append] at t2
        omega
/-! the events thread by thread -/
def KeyOk (x : InS) : Prop := x.2.map (·.1) = x.1 ∧ x.1.Nodup ∧ ∀ p ∈ x.2, p.2 ≠ []
theorem mput_mem {l : List (Int × List Ev)} {a : Int} {y : List Ev} {p : Int × List Ev} (hp : p ∈ mput l a y) : p = (a, y) ∨ p ∈ l := by
  induction l with
  | nil => simp [mput] at hp; exact .inl hp
  | cons q r ih =>
    simp only [mput] at hp
    split at hp
    · rcases List.mem_cons.1 hp with h | h
      · exact .inl h
      · exact .inr (List.mem_cons_of_mem _ h)
    · rcases List.mem_cons.1 hp with h | h
      · exact .inr (h ▸ List.mem_cons_self)
      · exact (ih h).imp id (List.mem_cons_of_mem _)
theorem mput_fst {l : List (Int × List Ev)} {a : Int} {y : List Ev} : (mput l a y).map (·.1) = if a ∈ l.map (·.1) then l.map (·.1) else l.map (·.1) ++ [a] := by
  induction l with
  | nil => simp [mput]
  | cons p r ih =>
    simp only [mput]
    by_cases h : p.1 = a
    · rw [if_pos h, if_pos (by simp [h])]
      simp [h]
    · rw [if_neg h, List.map_cons, ih]
      by_cases q : a ∈ r.map (·.1)
      · rw [if_pos q, if_pos (by rw [List.map_cons]; exact List.mem_cons_of_mem _ q)]; rfl
      · rw [if_neg q, if_neg (by rw [List.map_cons, List.mem_cons]; rintro (e | e); exact h e.symm; exact q e)]; rfl
theorem mget_empty {l : List (Int × List Ev)} (h : ∀ p ∈ l, p.2 ≠ []) (a : Int) : (mget l a).getD [] = [] ↔ a ∉ l.map (·.1) := by
  induction l with
  | nil => simp [mget_nil]
  | cons p r ih =>
    rw [mget_cons, List.map_cons, List.mem_cons]
    by_cases q : p.1 = a
    · rw [if_pos q]
      have := h p List.mem_cons_self
      simp [this, q]
    · rw [if_neg q, ih (fun p hp => h p (List.mem_cons_of_mem _ hp))]
      constructor
      · rintro h1 (e | e)
        · exact q e.symm
        · exact h1 e
      · exact fun h1 e => h1 (.inr e)
theorem KeyOk.add {x : InS} (h : KeyOk x) (th : Int) (e : Ev) : KeyOk (addF x th e) := by
  obtain ⟨h1, h2, h3⟩ := h
  unfold addF
  split
  · exact ⟨h1, h2, h3⟩
  · have hm := mget_empty h3 th
    refine ⟨?_, ?_, fun p hp => ?_⟩
    · simp only
      rw [mput_fst, h1]
      by_cases q : (mget x.2 th).getD [] = []
      · rw [if_neg (by rw [← h1]; exact hm.1 q), if_pos q]
      · rw [if_pos (Decidable.byContradiction fun q2 => q (hm.2 (by rw [h1]; exact q2))), if_neg q]
    · simp only
      split
      · rename_i q
        have := hm.1 q
        rw [h1] at this
        rw [List.nodup_append]
        exact ⟨h2, by simp, fun a ha b hb => by simp at hb; subst hb; rintro rfl; exact this ha⟩
      · exact h2
    · rcases mput_mem hp with rfl | hp
      · simp
      · exact h3 p hp
theorem KeyOk.adds : ∀ (l : List (Int × Ev)) {x : InS}, KeyOk x → KeyOk (addsF x l)
  | [], _, h => h
  | p :: r, _, h => KeyOk.adds r (h.add p.1 p.2)
theorem key0 : KeyOk ([], []) := ⟨rfl, List.nodup_nil, by simp⟩
def totN (m : List (Int × List Ev)) : Nat := (m.map fun p => p.2.length).sum
theorem totN_put : ∀ (m : List (Int × List Ev)) (a : Int) (e : Ev), totN (mput m a ((mget m a).getD [] ++ [e])) = totN m + 1
  | [], a, e => by simp [mput, totN, mget_nil]
  | p :: r, a, e => by
    have ih := totN_put r a e
    simp only [mput, mget_cons]
    by_cases h : p.1 = a
    · rw [if_pos h, if_pos h]
      simp only [totN, List.map_cons, List.sum_cons, Option.getD_some, List.length_append, List.length_singleton]
      omega
    · rw [if_neg h, if_neg h]
      simp only [totN, List.map_cons, List.sum_cons] at ih ⊢
      omega
theorem totN_add (x : InS) (th : Int) (e : Ev) : totN (addF x th e).2 ≤ totN x.2 + 1 := by
  unfold addF
  split
  · omega
  · simp only
    rw [totN_put]
    exact Nat.le_refl _
theorem totN_adds : ∀ (l : List (Int × Ev)) (x : InS), totN (addsF x l).2 ≤ totN x.2 + l.length
  | [], x => Nat.le_refl _
  | p :: r, x => by
    have h1 := totN_adds r (addF x p.1 p.2)
    have h2 := totN_add x p.1 p.2
    show totN (addsF (addF x p.1 p.2) r).2 ≤ _
    simp only [List.length_cons]
    omega
theorem totN_mem {m : List (Int × List Ev)} {p : Int × List Ev} (h : p ∈ m) : p.2.length ≤ totN m := by
  induction m with
  | nil => simp at h
  | cons q r ih =>
    simp only [totN, List.map_cons, List.sum_cons] at ih ⊢
    rcases List.mem_cons.1 h with rfl | h
    · omega
    · have := ih h
      omega
theorem totN_len {m : List (Int × List Ev)} (h : ∀ p ∈ m, p.2 ≠ []) : m.length ≤ totN m := by
  induction m with
  | nil => simp [totN]
  | cons q r ih =>
    have h1 := ih fun p hp => h p (List.mem_cons_of_mem _ hp)
    have h2 := List.length_pos_iff.2 (h q List.mem_cons_self)
    simp only [totN, List.map_cons, List.sum_cons, List.length_cons] at h1 ⊢
    omega
theorem addsF_app (x : InS) (a b : List (Int × Ev)) : addsF x (a ++ b) = addsF (addsF x a) b := List.foldl_append
theorem addsF_ids : ∀ (l : List (Int × Ev)) (x : InS), (∀ p ∈ l, 0 ≤ p.1 ∧ p.1 ≤ 1000000000000000) → (∀ a ∈ x.1, 0 ≤ a ∧ a ≤ 1000000000000000) → ∀ a ∈ (addsF x l).1, 0 ≤ a ∧ a ≤ 1000000000000000
  | [], _, _, h => h
  | p :: r, x, h1, h => by
    refine addsF_ids r (addF x p.1 p.2) (fun q hq => h1 q (List.mem_cons_of_mem _ hq)) fun a ha => ?_
    unfold addF at ha
    split at ha
    · exact h a ha
    · simp only at ha
      split at ha
      · rcases List.mem_append.1 ha with ha | ha
        · exact h a ha
        · simp only [List.mem_singleton] at ha
          subst ha
          exact h1 p List.mem_cons_self
      · exact h a ha
theorem OkIn.adds {x : InS} (h : KeyOk x) {n : Nat} (ht : totN x.2 ≤ n) : OkIn n x := by
  obtain ⟨h1, h2, h3⟩ := h
  refine ⟨by rw [h1]; exact h2, ?_, fun p hp => Nat.le_trans (totN_mem hp) ht⟩
  have := totN_len h3
  have e := congrArg List.length h1
  rw [List.length_map] at e
  omega
theorem name_T {id : Int} (h0 : 0 ≤ id) (h1 : id ≤ 1000000000000000) : nameErr (B #[116] ++ numB id) = 0 := by
  have hb : bys (B #[116] ++ numB id) = 116 :: digB id.toNat := by
    show (B #[116] ++ numB id).data.toList = _
    rw [ByteArray.data_append, Array.toList_append]
    show [116] ++ Lib.itoa id = _
    rw [numB_pos h0]; rfl
  have hsz : (B #[116] ++ numB id).size = (digB id.toNat).length + 1 := by
    have : (B #[116] ++ numB id).size = (bys (B #[116] ++ numB id)).length := Array.length_toList.symm
    rw [this, hb, List.length_cons]
  have hd := digB_len id.toNat 19 (by have : (10 : Nat) ^ (19 + 1) = 100000000000000000000 := by decide
                                      omega)
  unfold nameErr
  rw [if_neg]
  rintro (e | e | e)
  · rw [e] at hsz
    have h0 : (B #[]).size = 0 := rfl
    omega
  · omega
  · rw [hb, List.all_cons] at e
    have : (digB id.toNat).all letterB = true := List.all_eq_true.2 fun b hb => by
      have := digB_dig _ b hb
      unfold isDig at this
      simp only [Bool.and_eq_true, decide_eq_true_eq] at this
      unfold letterB
      simp [this]
    rw [this] at e
    exact absurd e (by decide)
theorem okT_of {x : InS} (h : KeyOk x) (h2 : ∀ a ∈ x.1, 0 ≤ a ∧ a ≤ 1000000000000000) : OkT (x.1.map thrT) := by
  refine ⟨fun t ht => ?_, ?_⟩
  · obtain ⟨a, ha, rfl⟩ := List.mem_map.1 ht
    exact ⟨(h2 a ha).1, (h2 a ha).2, name_T (h2 a ha).1 (h2 a ha).2⟩
  · rw [List.map_map]
    show (x.1.map id).Nodup
    rw [List.map_id]
    exact h.2.1
theorem okP_of {x : InS} (h : KeyOk x) (ht : totN x.2 ≤ 1000) : OkP (x.1.map thrT) (x.2.map pktT) := by
  refine ⟨?_, fun p hp => ?_, ?_⟩
  · rw [List.map_map, List.map_map]
    show x.2.map (·.1) = x.1.map id
    rw [List.map_id]
    exact h.1
  · obtain ⟨q, hq, rfl⟩ := List.mem_map.1 hp
    exact ⟨rfl, rfl, List.length_pos_iff.2 (h.2.2 q hq), Nat.le_trans (totN_mem hq) ht⟩
  · rw [List.map_map]
    show totN x.2 ≤ 20000
    omega
end Go.Tb
namespace Go.Ab
open Go.RowKit
section
variable {P : Program} [Met P] {C : Ctx} {n : Nat} {Q : Exit → St → Prop} {c : Code}
variable {f : List (Nat × A)} {bx : List (Nat × List A)} {lv lv' : List Nat} {gen gen' : Nat}
omit [Met P] in
theorem Wd.loopR {nb : Nat} [hnb : NB C nb] {ι : Type} (V : ι → List (Nat × A)) (fi : List (Nat × A)) (B : ι → List (Nat × List A)) (bi : List (Nat × List A)) (lv' : List Nat) (gen' : Nat) (μ : ι → Nat) (order : List Nat) (i : ι) (ho : orderB order gen' nb = true)
    (hf : SubR order f (V i)) (hfi : SubC f fi) (hb : SubBR order bx (B i)) (hbi : SubBC order bx bi) (hl : lvR order lv lv' = true)
    (hr : ∀ i, Wd P C n c (QLd C n (fun i => ⟨V i ++ fi, B i ++ bi, lv', gen'⟩) μ (μ i) Q) ⟨V i ++ fi, B i ++ bi, lv', gen'⟩) : Wd P C n (.loop c) Q ⟨f, bx, lv, gen⟩ :=
  Wd.conv (st' := ⟨V i ++ fi, B i ++ bi, lv', gen'⟩) (fun _ _ h => Sim.ren order ho hf hfi hb hbi hl h) (Wd.loop (fun i => ⟨V i ++ fi, B i ++ bi, lv', gen'⟩) μ hr i)
theorem Wd.endR {nb : Nat} [hnb : NB C nb] {ι : Type} {V : ι → List (Nat × A)} {fi : List (Nat × A)} {B : ι → List (Nat × List A)} {bi : List (Nat × List A)} {μ : ι → Nat} {m : Nat} (order : List Nat) (i : ι) (hm : μ i < m) (ho : orderB order gen' nb = true)
    (hf : SubR order f (V i)) (hfi : SubC f fi) (hb : SubBR order bx (B i)) (hbi : SubBC order bx bi) (hl : lvR order lv lv' = true) :
    QLd C n (fun i => ⟨V i ++ fi, B i ++ bi, lv', gen'⟩) μ m Q .normal ⟨f, bx, lv, gen⟩ := ⟨i, hm, fun _ _ h => Sim.ren order ho hf hfi hb hbi hl h⟩
variable {st : St} {y : Code} {id : Nat}
omit [Met P] in
theorem qnS (hno : noRowS st = true) (h : Wd P C n y Q st) : QN (QSd P C n y Q) .normal st := ⟨hno, h⟩
theorem qnQ (hno : noRowS st = true) (h : Q .normal st) : QN Q .normal st := ⟨hno, h⟩
theorem qnRet (hno : noRowS st = true) (h : Q .ret st) : QN Q .ret st := ⟨hno, h⟩
theorem qnExit (hno : noRowS st = true) (h : Q (.exit id) st) : QN Q (.exit id) st := ⟨hno, h⟩
omit [Met P] in
theorem qsd (h : Wd P C n y Q st) : QSd P C n y Q .normal st := h
omit [Met P] in
theorem qsdRet (h : Q .ret st) : QSd P C n y Q .ret st := h
omit [Met P] in
theorem qsdExit (h : Q (.exit id) st) : QSd P C n y Q (.exit id) st := h
theorem qldExit {ι : Type} {S : ι → St} {μ : ι → Nat} {m : Nat} (h : Q (.exit id) st) : QLd C n S μ m Q (.exit id) st := h
def VOk (f : List (Nat × A)) (bx : List (Nat × List A)) (gs os : List Nat) : List (Nat × A) → Prop
  | [] => True
  | (t, a') :: r => (∃ a, look f t = some a ∧ lendA bx gs os 5 a = a') ∧ VOk f bx gs os r
theorem VOk.look {gs os : List Nat} : ∀ {V : List (Nat × A)}, VOk f bx gs os V → ∀ t a', look V t = some a' → ∃ a, Ab.look f t = some a ∧ lendA bx gs os 5 a = a'
  | [], _, t, a', h => by simp [Ab.look] at h
  | (s, b) :: r, ⟨h1, h2⟩, t, a', h => by
    rw [look_cons] at h
    split at h
    · rename_i e
      subst e
      simp only [Option.some.injEq] at h
      subst h
      exact h1
    · exact VOk.look h2 t a' h
def BOk (bx : List (Nat × List A)) (o : List Nat) : Nat → List (List A) → Prop
  | _, [] => True
  | i, c :: r => (∃ c0, look' bx i = some c0 ∧ renL o c0 = c) ∧ BOk bx o (i + 1) r
theorem BOk.get {o : List Nat} : ∀ {b : List (List A)} {j : Nat}, BOk bx o j b → ∀ (i : Nat) (c : List A), b[i]? = some c → ∃ c0, look' bx (j + i) = some c0 ∧ renL o c0 = c
  | [], _, _, i, c, h => by simp at h
  | c1 :: r, j, ⟨h1, h2⟩, i, c, h => by
    cases i with
    | zero =>
      simp only [List.getElem?_cons_zero, Option.some.injEq] at h
      subst h
      exact h1
    | succ i =>
      simp only [List.getElem?_cons_succ] at h
      have := BOk.get h2 i c h
      rwa [show j + 1 + i = j + (i + 1) by omega] at this
theorem QR.mk' {b1 : List (List A)} {k : Nat} (order : List Nat) (hk : order.length = k) (hnd : nodupB (ordB b1.length order) = true) (hov : (order.all fun g => lv.any fun h => Nat.beq h g) = true)
    (hb : BOk bx (ordB b1.length order) 0 b1) : QR b1 k ⟨f, bx, lv, gen⟩ :=
  QR.mk order hk hnd hov fun i c h => by
    have := hb.get i c h
    rwa [Nat.zero_add] at this
end
end Go.Ab
namespace Go.Tb
open Go.Ab
def numQ (s : ByteArray) (most : Int) : Int :=
  if s = B #[] ∨ 16 < s.size ∨ (1 < s.size ∧ (bys s).head? = some 48) then -1
  else if (bys s).all isDig = false then -1
  else if most < (accD 0 (bys s) : Int) then -1 else (accD 0 (bys s) : Int)
theorem numQ_eq {s : ByteArray} {most : Int} (hm : most ≤ 1000000000000000) : numQ s most = if (numF s most).2 = true then (numF s most).1 else -1 := by
  have hp : (10 : Nat) ^ 16 = 10000000000000000 := by decide
  by_cases h : (numF s most).2 = true
  · rw [if_pos h]
    unfold numF at h ⊢
    simp only [Bool.and_eq_true, decide_eq_true_eq] at h
    obtain ⟨⟨h1, h2⟩, h3⟩ := h
    obtain ⟨hi, hs⟩ := numP_some (s := s) (v := (numP s).1) (by rw [← h1])
    generalize (numP s).1 = v at hs hi h2 h3 ⊢
    have hb : bys s = digB v.toNat := by rw [hs]; show Lib.itoa v = _; exact numB_pos h2
    have hl := digB_len v.toNat 15 (by omega)
    have hsz : s.size = (digB v.toNat).length := by rw [← hb]; exact Array.length_toList.symm
    have hacc : (accD 0 (bys s) : Int) = v := by rw [hb, accD_digB]; omega
    have hne : s ≠ B #[] := fun e => by
      rw [e] at hb
      exact digB_ne _ hb.symm
    have hlead : ¬ (1 < s.size ∧ (bys s).head? = some 48) := by
      rintro ⟨q1, q2⟩
      have hz : v.toNat = 0 := by
        rw [hb] at q2
        revert q2 
        generalize v.toNat = u
        refine digB_ind (p := fun u => (digB u).head? = some 48 → u = 0) (fun u h hz => ?_) (fun u h ih hz => ?_) u
        · rw [digB_small h] at hz
          simp only [List.head?_cons, Option.some.injEq] at hz
          have := dig_nat h
          rw [hz] at this
          have e : (48 : UInt8).toNat = 48 := rfl
          omega
        · rw [digB_big h] at hz
          have : (digB (u / 10)).head? = some 48 := by
            cases hd : digB (u / 10) with
            | nil => exact absurd hd (digB_ne _)
            | cons a r => rw [hd] at hz; exact hz
          have := ih this
          omega
      rw [hz, digB_small (by decide)] at hsz
      simp at hsz
      omega
    unfold numQ
    rw [if_neg (by rintro (q | q | q); exact hne q; omega; exact hlead q), if_neg, if_neg (by omega), hacc]
    rw [hb]
    have := List.all_eq_true.2 (digB_dig v.toNat)
    rw [this]
    decide
  · rw [if_neg h]
    unfold numQ
    split
    · rfl
    · rename_i h1
      split
      · rfl
      · rename_i h2
        split
        · rfl
        · rename_i h3
          exfalso
          apply h
          have hne : bys s ≠ [] := fun e => h1 (.inl (by
            have : s = ⟨(bys s).toArray⟩ := by cases s; rfl
            rw [this, e]))
          have hd : ∀ b ∈ bys s, isDig b = true := by
            have : (bys s).all isDig = true := by cases q : (bys s).all isDig with
              | true => rfl
              | false => exact absurd q h2
            exact List.all_eq_true.1 this
          have hbl : (bys s).length = s.size := Array.length_toList
          have hdig := (digB_acc _ (bys s) rfl hne hd (fun q e => h1 (.inr (.inr ⟨by omega, e⟩)))).1
          have hs : s = numB (accD 0 (bys s) : Int) := by
            show s = ⟨(Lib.itoa (accD 0 (bys s) : Int)).toArray⟩
            rw [numB_nat, hdig]
            cases s; rfl
          have hin : inR (accD 0 (bys s) : Int) = true := by
            simp only [inR, Bool.and_eq_true, decide_eq_true_eq]
            omega
          have hn : numP s = ((accD 0 (bys s) : Int), true) := by
            conv => lhs; rw [hs]
            exact numP_num hin
          unfold numF
          rw [hn]
          simp only [Bool.and_eq_true, decide_eq_true_eq, true_and]
          omega
theorem numQ_pos {s : ByteArray} {most : Int} (hm : most ≤ 1000000000000000) : decide (0 ≤ numQ s most) = (numF s most).2 := by
  rw [numQ_eq hm]
  cases h : (numF s most).2 with
  | true =>
    have : 0 ≤ (numF s most).1 := by
      unfold numF at h ⊢
      simp only [Bool.and_eq_true, decide_eq_true_eq] at h
      exact h.1.2
    simp [this]
  | false => simp
theorem numQ_val {s : ByteArray} {most : Int} (hm : most ≤ 1000000000000000) (h : (numF s most).2 = true) : numQ s most = (numF s most).1 := by rw [numQ_eq hm, if_pos h]
theorem numsF_all : ∀ (l : List ByteArray) (b : Bool), numsF l b = (b && l.all fun w => (numF w 1000000000000000).2)
  | [], b => by simp [numsF]
  | w :: r, b => by rw [numsF, numsF_all r, List.all_cons, Bool.and_assoc]
end Go.Tb
namespace Go.Tb
open Go.Ab
abbrev nq (w : ByteArray) : Int := numQ w 1000000000000000
abbrev okQ (w : ByteArray) : Bool := (numF w 1000000000000000).2
theorem nq_map : ∀ {r : List ByteArray}, r.all okQ = true → r.map nv = r.map nq
  | [], _ => rfl
  | w :: r, h => by
    rw [List.all_cons, Bool.and_eq_true] at h
    rw [List.map_cons, List.map_cons, nq_map h.2, show nq w = nv w from numQ_val (by decide) h.1]
theorem nq_all (r : List ByteArray) : (r.all fun w => decide (0 ≤ nq w)) = r.all okQ := by
  induction r with
  | nil => rfl
  | cons w r ih => rw [List.all_cons, List.all_cons, ih, show decide (0 ≤ nq w) = okQ w from numQ_pos (by decide)]
def lineQ (w : List ByteArray) : LineR :=
  match w with
  | a :: b :: k :: r =>
    if cntF k = 0 ∨ (r.length : Int) ≠ cntF k then badLine
    else if (decide (0 ≤ numQ a 1000000000000) && decide (0 ≤ numQ b 63) && r.all fun w => decide (0 ≤ nq w)) = true ∧ ¬ (k = swW ∧ ¬ ((r.map nq)[1]?.getD 0 ∈ [(0 : Int), 1, 3])) then ⟨numQ a 1000000000000, numQ b 63, k, r.map nq, 0⟩
    else badLine
  | _ => badLine
theorem lineW_Q (w : List ByteArray) : lineW w = lineQ w := by
  match w with
  | [] => rfl
  | [_] => rfl
  | [_, _] => rfl
  | a :: b :: k :: r =>
    simp only [lineW, lineQ]
    by_cases h1 : cntF k = 0 ∨ (r.length : Int) ≠ cntF k
    · rw [if_pos h1, if_pos h1]
    · rw [if_neg h1, if_neg h1, numQ_pos (by decide), numQ_pos (by decide), nq_all, numsF_all]
      cases ha : (numF a 1000000000000).2 with
      | false => rw [if_pos (.inl rfl), if_neg (by simp)]
      | true =>
        cases hb : (numF b 63).2 with
        | false => rw [if_pos (.inr (.inl rfl)), if_neg (by simp)]
        | true =>
          cases hr : r.all okQ with
          | false => rw [if_pos (.inl rfl), if_neg (by simp)]
          | true =>
            have hm : (r.map fun w => (numF w 1000000000000000).1) = r.map nq := nq_map hr
            rw [hm, numQ_val (by decide) ha, numQ_val (by decide) hb]
            by_cases hk : k = swW ∧ ¬ ((r.map nq)[1]?.getD 0 ∈ [(0 : Int), 1, 3])
            · rw [if_pos (.inr (.inr hk)), if_neg (fun h => h.2 hk)]
            · rw [if_neg, if_pos ⟨rfl, hk⟩]
              rintro (e | e | e)
              · cases e
              · cases e
              · exact hk e
theorem lineF_Q (s : ByteArray) : lineF s = lineQ (cutB s 32) := lineW_Q _
def linesQ : List ByteArray → Nat → List (Int × Ev) → Nat × List (Int × Ev)
  | [], _, acc => (0, acc)
  | w :: r, i, acc => if w = B #[] then linesQ r (i + 1) acc else if (lineQ (cutB w 32)).e ≠ 0 then (i + 1, []) else linesQ r (i + 1) (acc ++ lineE (lineQ (cutB w 32)))
theorem linesF_Q : ∀ (l : List ByteArray) (i : Nat) (acc : List (Int × Ev)), linesF l i acc = linesQ l i acc
  | [], _, _ => rfl
  | w :: r, i, acc => by
    simp only [linesF, linesQ]
    rw [linesF_Q r, linesF_Q r, lineF_Q]
abbrev live1 : ByteArray := B #[53, 32, 48, 32, 115, 119, 105, 116, 99, 104, 32, 48, 32, 48, 32, 55]
abbrev live2 : ByteArray := B #[53, 32, 48, 32, 119, 97, 107, 101, 32, 55, 32, 56]
abbrev live3 : ByteArray := B #[49, 32, 48, 32, 119, 97, 107, 101, 32, 55, 32, 56, 10, 10, 120]
theorem imp_live1 : impF live1 = ⟨⟨[thrT 7], dom0, [⟨7, 0, 0, [evR 5 0]⟩]⟩, 0, 0⟩ := by
  have h : linesF (cutB live1 10) 0 [] = (0, [(0, evS 5 0 0), (7, evR 5 0)]) := by rw [linesF_Q]; kernel_rfl
  unfold impF
  rw [if_neg (by decide), h]
  show (⟨(logE [(0, evS 5 0 0), (7, evR 5 0)]).1, 0, (logE [(0, evS 5 0 0), (7, evR 5 0)]).2⟩ : ImpR) = _
  have e : logE [(0, evS 5 0 0), (7, evR 5 0)] = (⟨[thrT 7], dom0, [⟨7, 0, 0, [evR 5 0]⟩]⟩, 0) := by kernel_rfl
  rw [e]
theorem line_live2 : lineF live2 = ⟨5, 0, wkW, [7, 8], 0⟩ := by rw [lineF_Q]; kernel_rfl
theorem imp_live3 : impF live3 = ⟨log0, 3, 10⟩ := by
  have h : linesF (cutB live3 10) 0 [] = (3, []) := by rw [linesF_Q]; kernel_rfl
  unfold impF
  rw [if_neg (by decide), h]; rfl
theorem name7 : (thrT 7).name = B #[116, 55] := by
  have : numB 7 = B #[55] := by
    show (⟨(Lib.itoa 7).toArray⟩ : ByteArray) = _
    rw [numB_pos (by decide), show (7 : Int).toNat = 7 from rfl, digB_small (by decide)]; rfl
  show B #[116] ++ numB 7 = _
  rw [this]; decide
end Go.Tb
namespace Go.Ab
open Go.RowKit
section
variable {P : Program} (T : Tab P) {C : Ctx} {n : Nat} {ops : Array Oper}
variable {f : List (Nat × A)} {bx : List (Nat × List A)} {lv : List Nat} {gen : Nat} {ty : TypeId} {pos : String} {af : Array Edge} {dst : Option Nat}
end
end Go.Ab
namespace Go.Ab
open Go.RowKit
section
variable {P : Program} (T : Tab P) {C : Ctx} {n : Nat} {ops : Array Oper} {Q : Exit → St → Prop} {rest : List Oper}
variable {f : List (Nat × A)} {bx : List (Nat × List A)} {lv : List Nat} {gen : Nat} {d : Nat} {ty : TypeId} {pos : String} {af : Array Edge} {dst : Option Nat}
theorem makeX {t e m : Nat} {x y : Operand} {td ed : TyD} {k1 k2 : IntKind} (hx : av f x = some (.d (.v (.int k1 (m : Int))))) (hy : av f y = some (.d (.v (.int k2 (m : Int))))) (ht : look' T.l t = some td) (hk : td.k = .slice e) (he : look' T.l e = some ed)
    (hd : Nat.blt d n = true) (hz : Nat.blt 0 ed.n = true) (hb : (ed.b : Int) * (m : Int) ≤ 281474976710656) (hm : m ≤ maxLen)
    {es : List (List D)} (hes : List.replicate m (ed.z.map D.v) = es) (h : WO P C n ops Q rest ⟨(d, .xs gen es) :: f, bx, gen :: lv, gen + 1⟩) : WO P C n ops Q (⟨some d, .makeSlice t x y, ty, pos, af, none⟩ :: rest) ⟨f, bx, lv, gen⟩ := by
  subst hes
  have hz := Nat.le_of_ble_eq_true hz
  refine WO.step (st := ⟨f, bx, lv, gen⟩) rfl fun tmps w ⟨G, hs⟩ => ?_
  have hu := T.u_slice ht hk
  obtain ⟨i, z, hi, hin, hib, hiz, hzc, hzl, hzk, _⟩ := T.info he
  have hzs : z.cells.size = ed.n := by rw [← hzl, ← hzc]; simp
  have hrx := hs.av hx
  have hry := hs.av hy
  generalize hvx : Act.eval ⟨tmps, []⟩ x = vx at hrx
  generalize hvy : Act.eval ⟨tmps, []⟩ y = vy at hry
  cases hrx with | d hrx => cases hrx with | v _ _ =>
  cases hry with | d hry => cases hry with | v _ _ =>
  have hrun := run_make (P := P) w t e i z hu hi hiz k1 k2 (m : Int) (m : Int) (Int.natCast_nonneg _) (Int.le_refl _) (by rw [hib]; exact hb) (by simp only [maxLen] at hm; omega)
  simp only [Int.toNat_natCast] at hrun
  have h0 : (execOp (Act.eval ⟨tmps, []⟩) ⟨some d, .makeSlice t x y, ty, pos, af, none⟩).run P w = .ok (.value (.slice (some ⟨w.heap.size, 0, none⟩) m m)) (w.alloc (.cells (madeCells z.cells (m * i.size)) e)) := by
    unfold execOp
    show Sem.run P _ w = .ok _ _
    simp only [hvx, hvy, Sem.run_bind, hrun, Result.andThen_ok, Sem.run_pure]
  have hbl : Below w.heap.size w (w.alloc (.cells (madeCells z.cells (m * i.size)) e)) := (Below.refl _ w).alloc (Nat.le_refl _) _
  rcases Nat.eq_zero_or_pos m with hm0 | hpos
  · subst hm0
    let own' : Nat → Option Row := fun g' => if g' = gen then some (.zero w.heap.size) else G.own g'
    obtain ⟨hle, hs'⟩ := hs.grow hbl own' (gen + 1) (gen :: lv) (Nat.le_succ _)
      (fun g r hg hr => by simpa only [own', if_neg (Nat.ne_of_lt hg)] using hr)
      (fun g r hr => by
        simp only [own'] at hr
        split at hr
        · omega
        · exact Nat.lt_succ_of_lt (hs.gown g r hr))
      (fun g hg => by
        rcases List.mem_cons.1 hg with rfl | hg
        · exact ⟨_, by simp [own']; rfl⟩
        · obtain ⟨r, hr⟩ := hs.live g hg
          exact ⟨r, by simp only [own', if_neg (Nat.ne_of_lt (hs.gown g r hr))]; exact hr⟩)
      (fun g b len' cap' sz' pub' hg hr => by
        simp only [own'] at hr
        split at hr
        · cases hr
        · exact absurd (hs.gown g _ hr) (by show ¬ g < gen; exact Nat.not_lt.2 hg))
      (fun g b bs hg hr => by
        simp only [own'] at hr
        split at hr
        · cases hr
        · exact absurd (hs.gown g _ hr) (by show ¬ g < gen; exact Nat.not_lt.2 hg))
      (fun g b bs c lim hg hr => by
        simp only [own'] at hr
        split at hr
        · cases hr
        · exact absurd (hs.gown g _ hr) (by show ¬ g < gen; exact Nat.not_lt.2 hg))
    refine gives_value h0 ⟨_, ⟨_, hs'.put (dst := some d) (dstOK_lt (dst := some d) hd) ?_⟩, h⟩
    have fin : ∀ r, own' gen = some r → Row.zero w.heap.size = r := fun r hr2 => by simpa only [own', if_true, Option.some.injEq] using hr2
    exact .xs _ _ [] (by simp [enOf]) rfl (fun r hr => fin r hr ▸ ⟨rfl, rfl⟩)
  · have hnr := hs.newRow true (w' := w.alloc (.cells (madeCells z.cells (m * i.size)) e)) (arr := madeCells z.cells (m * i.size)) (T := e) (cap := m) (sz := ed.n) (es := List.replicate m (ed.z.map D.v)) hbl (heap_alloc_new w _) (by simp [madeCells, hin]) (fun j u hu => by
        unfold madeCells at hu
        rw [Array.getElem?_map, Option.map_eq_some_iff] at hu
        obtain ⟨q, _, rfl⟩ := hu
        have hlt : q % z.cells.size < z.cells.size := Nat.mod_lt _ (by omega)
        rw [getElem!_pos z.cells _ hlt]
        refine okc_one (List.all_eq_true.1 hzk _ ?_)
        rw [← hzc]
        simp) (by simp) hm hz (by simp; omega)
        (fun x hx => by rw [List.eq_of_mem_replicate hx, List.length_map, hzl]) (fun k j e' d hk hj => by
          have hkm : k < m := by have := (List.getElem?_eq_some_iff.1 hk).1; simpa using this
          have he' := List.eq_of_mem_replicate (List.mem_of_getElem? hk)
          subst he'
          rw [List.getElem?_map, Option.map_eq_some_iff] at hj
          obtain ⟨u, hu, rfl⟩ := hj
          have hjn : j < ed.n := by rw [← hzl]; exact (List.getElem?_eq_some_iff.1 hu).1
          refine ⟨u, ?_, .v _ (List.all_eq_true.1 hzk u (List.mem_of_getElem? hu))⟩
          unfold madeCells
          rw [Array.getElem?_map, Array.getElem?_range, if_pos (by rw [hin]; exact idx_lt hkm hjn), Option.map_some]
          have e1 : (k * ed.n + j) % z.cells.size = j := by rw [hzs, Nat.mul_comm, Nat.mul_add_mod, Nat.mod_eq_of_lt hjn]
          rw [e1, getElem!_pos z.cells j (by rw [hzs]; exact hjn)]
          rw [← hzc] at hu
          congr 1
          simpa using (List.getElem?_eq_some_iff.1 hu).2) (fun _ => False) lv (fun g hg => ⟨hg, fun h => h⟩)
    obtain ⟨⟨G', _, hs', hv'⟩⟩ := hnr
    rw [List.length_replicate] at hv'
    exact gives_value h0 ⟨_, ⟨G', hs'.put (dst := some d) (dstOK_lt (dst := some d) hd) hv'⟩, h⟩
def byteSlB (P : Program) (t u : TypeId) : Bool := match P.underlying t, P.underlying u with
  | some (.slice e), some .string => (match P.underlying e with | some (.int .u8) => true | _ => false)
  | _, _ => false
theorem byteSlB_of {t u : TypeId} (h : byteSlB P t u = true) : ∃ e, P.underlying t = some (.slice e) ∧ P.underlying u = some .string ∧ P.underlying e = some (.int .u8) := by
  unfold byteSlB at h
  split at h
  · rename_i e h1 h2
    refine ⟨e, h1, h2, ?_⟩
    split at h
    · assumption
    · cases h
  · cases h
theorem pushes : ∀ (l : List UInt8) (r : ByteArray), (l.map fun c => (c.toNat : Int)).foldl (fun r n => r.push (UInt8.ofNat n.toNat)) r = ⟨r.data ++ l.toArray⟩
  | [], r => by simp
  | c :: l, r => by
    rw [List.map_cons, List.foldl_cons, pushes l]
    have : UInt8.ofNat (c.toNat : Int).toNat = c := by simp
    rw [this]
    show (⟨(r.data.push c) ++ l.toArray⟩ : ByteArray) = _
    congr 1
    simp
theorem convBs {t u : Nat} {x : Operand} {l : List UInt8} {a : A} (hx : av f x = some a) (ha : slOf a = some (l.map fun c => [D.v (.int .u8 (c.toNat : Int))])) (hB : byteSlB P t u = true) (hl : l.length ≤ maxLen) : Pu P C n ⟨f, bx, lv, gen⟩ ⟨dst, .convert t u x, ty, pos, af, none⟩ (.d (.v (.string ⟨l.toArray⟩))) := by
  obtain ⟨e, h1, h2, h3⟩ := byteSlB_of hB
  refine PuOK.pu fun G tmps w hs => ?_
  have hrx := slOf_rep ha (hs.av hx)
  generalize hvx : Act.eval ⟨tmps, []⟩ x = vx at hrx
  generalize hes : (l.map fun c => [D.v (.int .u8 (c.toNat : Int))]) = es at hrx
  obtain ⟨p0, n0, c0, hsl⟩ : ∃ p0 n0 c0, vx = .slice p0 n0 c0 := by cases hrx <;> exact ⟨_, _, _, rfl⟩
  have hconv : (Conv.bytesToString vx).run P w = .ok (.string ⟨l.toArray⟩) w := by
    have fin : ∀ (a : Addr) (cap : Nat), (loadCells a l.length).run P w = .ok ((l.map fun c => (c.toNat : Int)).map (Value.int .u8)).toArray w → (Conv.bytesToString (.slice (some a) l.length cap)).run P w = .ok (.string ⟨l.toArray⟩) w := fun a cap hload => by
      rw [run_bytesToString (P := P) w a l.length cap (l.map fun c => (c.toNat : Int)) hload, pushes]
      have e0 : (⟨ByteArray.empty.data ++ l.toArray⟩ : ByteArray) = ⟨l.toArray⟩ := by congr 1; exact Array.empty_append
      rw [e0]
    cases hrx with
    | nil =>
      have hl0 : l = [] := by simpa using hes
      subst hl0
      rfl
    | emp a cap _ =>
      have hl0 : l = [] := by simpa using hes
      subst hl0
      exact fin a cap (by have := run_loadCells_list (P := P) w a [] (fun j v hj => by simp at hj); simpa using this)
    | sl b off len cap sz _ u' hle hc hm hsz hu hr =>
      have hll : len = l.length := by rw [← hle, ← hes, List.length_map]
      subst hll
      refine fin _ cap ?_
      have := run_loadCells_list (P := P) w ⟨b, off, none⟩ ((l.map fun c => (c.toNat : Int)).map (Value.int .u8)) (fun j v hj => by
        rw [List.map_map, List.getElem?_map, Option.map_eq_some_iff] at hj
        obtain ⟨c, hc, rfl⟩ := hj
        have hjl : j < l.length := (List.getElem?_eq_some_iff.1 hc).1
        have hej : es[j]? = some [D.v (.int .u8 (c.toNat : Int))] := by rw [← hes]; simp [hc]
        have hz : sz = 1 := by have := hsz j _ hej; simpa using this.symm
        subst hz
        have hcell := (hu j 0 hjl (by decide)).1
        have hval := hr j 0 [D.v (.int .u8 (c.toNat : Int))] (.v (.int .u8 (c.toNat : Int))) hej rfl
        generalize u' j 0 = y at hcell hval
        cases hval
        have e1 : off + j * 1 + 0 = off + j := by omega
        rw [e1] at hcell
        unfold Addr.add
        split
        · rename_i q
          subst q
          have hcell : w.cell? ⟨b, off + 0, none⟩ = _ := hcell
          exact hcell
        · exact hcell)
      simpa using this
  refine ⟨.string ⟨l.toArray⟩, ?_, .d (.v _ (by simp only [okc, decide_eq_true_eq]; exact hl))⟩
  show Sem.run P (execOp _ _) w = .ok _ w
  subst hsl
  unfold execOp
  simp only [hvx, convert, Sem.run_bind, run_underlying h1, run_underlying h2, Result.andThen_ok, run_underlying h3]
  show Result.andThen (Sem.run P (Conv.bytesToString _) w) _ = _
  rw [hconv]
  rfl
end
end Go.Ab
namespace Go.Tb
open Go.Ab
end Go.Tb
namespace Go.Tb
open Go.Ab
theorem imp_good {s : ByteArray} {acc : List (Int × Ev)} (hs : s.size ≤ 65536) (h : linesF (cutB s 10) 0 [] = (0, acc)) : impF s = ⟨(logE acc).1, 0, (logE acc).2⟩ := by
  unfold impF
  rw [if_neg (by omega), h, if_neg (by simp)]
end Go.Tb
namespace Go.Tb
open Go.Ab
end Go.Tb
namespace Go.Tb
open Go.Ab
def feeds (n : Nat) : ByteArray := ⟨(List.replicate n (10 : UInt8)).toArray⟩
theorem cut_feeds : ∀ n : Nat, cutL 10 (List.replicate n (10 : UInt8)) = List.replicate (n + 1) []
  | 0 => rfl
  | n + 1 => by
    rw [List.replicate_succ, cutL, if_pos rfl, cut_feeds n, ← List.replicate_succ]
theorem cutB_feeds (n : Nat) : cutB (feeds n) 10 = List.replicate (n + 1) (B #[]) := by
  unfold cutB
  show (cutL 10 (List.replicate n 10)).map ofL = _
  rw [cut_feeds, List.map_replicate]; rfl
theorem lines_feeds : ∀ (n i : Nat) (acc : List (Int × Ev)), linesF (List.replicate n (B #[])) i acc = (0, acc)
  | 0, _, _ => rfl
  | n + 1, i, acc => by
    rw [List.replicate_succ]
    simp only [linesF, if_true]
    exact lines_feeds n _ _
theorem evs_feeds (n : Nat) : evsN (cutB (feeds n) 10) = 0 := by
  rw [cutB_feeds]
  induction n + 1 with
  | zero => rfl
  | succ n ih =>
    rw [List.replicate_succ]
    simp only [evsN, true_or, if_true]
    omega
theorem feeds_size (n : Nat) : (feeds n).size = n := by
  show (List.replicate n (10 : UInt8)).toArray.size = n
  simp
theorem imp_feeds {n : Nat} (h : n ≤ 65536) : impF (feeds n) = ⟨log0, 0, 8⟩ := by
  rw [imp_good (acc := []) (by rw [feeds_size]; exact h) (by rw [cutB_feeds, lines_feeds])]; rfl
theorem imp_long {n : Nat} (h : 65536 < n) : impF (feeds n) = ⟨log0, 0, 7⟩ := by
  unfold impF
  rw [if_pos (by rw [feeds_size]; exact h)]
end Go.Tb
