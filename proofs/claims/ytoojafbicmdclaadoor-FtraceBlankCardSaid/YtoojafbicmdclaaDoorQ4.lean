import Derived.Test.YtoojafbicmdclaaDoorQ3
import Derived.RowKit
namespace Go.Ab
open Go.RowKit Go.MapKept
theorem RepD.szs {w : World} {pv : Nat → Nat → Prop} {v : Value} {es : List (List D)} (h : RepD w pv v (.sl es)) : ∃ s, ∀ (e : List D), e ∈ es → e.length = s := by
  cases h with
  | nil => exact ⟨0, by simp⟩
  | emp => exact ⟨0, by simp⟩
  | sl b off len cap sz _ u hl hc hm hs hu hr => exact ⟨sz, fun e he => by obtain ⟨i, hi⟩ := List.mem_iff_getElem?.1 he; exact hs i e hi⟩
section
variable {P : Program} (T : Tab P) {C : Ctx} {n : Nat} {ops : Array Oper} {Q : Exit → St → Prop} {rest : List Oper}
variable {f : List (Nat × A)} {bx : List (Nat × List A)} {lv : List Nat} {gen : Nat} {d : Nat} {ty : TypeId} {pos : String} {af : Array Edge} {dst : Option Nat} {c : Code}
variable {α γ : Type} [DecidableEq α] {kf : α → Value} {fn : γ → List D}
theorem mapTakeN (gq jq : Nat) {mt k e : Nat} {td ed : TyD} {m kx : Operand} {g b : Nat} {cq : List A} {l : List (α × List γ)} {a : α} (hd : Nat.blt d n = true) (hm : av f m = some (.d (.v (.map (some b))))) (hq : look' bx gq = some cq) (hj : cq[jq]? = some (.mo g (moes kf fn l) none (some b)))
    (hk : av f kx = some (.d (.v (kf a)))) (ht : look' T.l mt = some td) (htk : td.k = .map k e) (he : look' T.l e = some ed) (hkt : KeyT P k kf) (hgl : (lv.any fun h => Nat.beq h g) = true) (hzc : ed.z = [.slice none 0 0]) (hzk : notSt ed.k = true) (hn : (l.map (·.1)).Nodup)
    {x : List (List D)} (hx : ((mget l a).getD []).map fn = x) {lv' : List Nat} (hlv : gen :: (gen + 1) :: dropId lv g = lv') {cq' : List A} (hcq : cq.set jq (.mo gen (moes kf fn l) (some (kf a)) (some b)) = cq')
    (h : WO P C n ops Q rest ⟨(d, .own (gen + 1) x) :: f, (gq, cq') :: bx, lv', gen + 2⟩) : WO P C n ops Q (⟨some d, .lookup mt m kx false, ty, pos, af, none⟩ :: rest) ⟨f, bx, lv, gen⟩ := by
  subst hcq; subst hlv; subst hx
  refine WO.step (st := ⟨f, bx, lv, gen⟩) rfl fun tmps w ⟨G, hs⟩ => ?_
  have hrm := hs.av hm
  have hrk := hs.av hk
  generalize hv : Act.eval ⟨tmps, []⟩ m = v at hrm
  generalize hvk : Act.eval ⟨tmps, []⟩ kx = vk at hrk
  cases hrm with | d hrm => cases hrm with | v _ hom =>
  cases hrk with | d hrk => cases hrk with | v _ hok =>
  obtain ⟨b0, cs0, T0, p1, p2, p3, p4, p5⟩ := hs.box gq cq hq
  have hjl : jq < cs0.size := by rw [p3]; exact (List.getElem?_eq_some_iff.1 hj).1
  have hx0 : cs0[jq]? = some cs0[jq] := by simp [hjl]
  have hrep := p5 jq _ _ hx0 hj
  have hvb : cs0[jq] = .map (some b) := by
    generalize cs0[jq] = y at hrep
    cases hrep with | mo _ _ _ _ _ _ h1 _ => exact h1.2 b rfl
  rw [hvb] at hrep
  obtain ⟨b', bs, me, clock, ps, hgb, hbb, hmo⟩ := hs.moAt hrep (memAny hgl)
  simp only [Value.map.injEq, Option.some.injEq] at hbb
  subst hbb
  obtain ⟨u, h1, h2⟩ := run_mapGetX (P := P) T ht htk he hkt hzc hzk hmo.hb hmo.mi hn a
  have h0 : (execOp (Act.eval ⟨tmps, []⟩) ⟨some d, .lookup mt m kx false, ty, pos, af, none⟩).run P w = .ok (.value u) w := by
    unfold execOp
    show Sem.run P _ w = .ok _ _
    simp only [hv, hvk, Sem.run_bind, h1, Result.andThen_ok, Sem.run_pure]
  have key : ∀ (x : List (List D)) (r2 : Row) (bs' : List (Nat × Nat)), (∀ p ∈ bs', p ∈ bs) → (∀ b' bs', r2 ≠ .mp b' bs') →
      (∀ c len cap sz pub, r2 = .blk c len cap sz pub → (c, pub) ∈ bs ∧ (∀ p ∈ bs', p.1 ≠ c) ∧ ∃ cur T, w.heap[c]? = some (.cells cur T (0, 0)) ∧ cur.size = cap * sz ∧ len ≤ cap ∧ cap ≤ maxLen ∧ 0 < sz ∧ 0 < len ∧ pub ≤ len * sz ∧ OneC cur) →
      (∀ (i : Nat) (mm : MapEntry) (p : α × List γ), me[i]? = some mm → l[i]? = some p → some (kf a) ≠ some (kf p.1) → SlAt w (ps (kf p.1)) bs' mm.val (p.2.map fn)) →
      RepD w (pvOf C G) u (.sl x) → (∃ s, (∀ (e : List D), e ∈ x → e.length = s) ∧ RowIs r2 u x.length s) →
      ∃ G', SimG C n ⟨(d, .own (gen + 1) x) :: f, (gq, cq.set jq (.mo gen (moes kf fn l) (some (kf a)) (some b))) :: bx, gen :: (gen + 1) :: dropId lv g, gen + 2⟩ G' (Act.put ⟨tmps, []⟩ (some d) u).tmps w := by
    intro x r2 bs' hsub hr2 hr3 hat hxd hrow
    obtain ⟨G', hGb, ho1, ho2, hle, hs'⟩ := hs.split hgb hsub r2 hr2 hr3 (dropId lv g) (fun g' hg' => dropId_mem hg')
    have hmo' : MoAt w (pvOf C G') b bs' kf fn l (some (kf a)) me clock ps := ⟨hmo.hb, hmo.st, hmo.mi.mono fun b o u hu hp => hle.cell b o u hu hp, fun p p' c hp hp' _ _ q3 q4 => hmo.inj p p' c hp hp' (by simp) (by simp) q3 q4, hat⟩
    have hs2 := hs'.recell (f := f) (bx := bx) (lv := gen :: (gen + 1) :: dropId lv g) (gen := gen + 2) hq (cells' := cq.set jq (.mo gen (moes kf fn l) (some (kf a)) (some b))) (by simp) fun b3 cs3 T3 q1 q2 q3 i x' a' hxx ha => by
      by_cases e : jq = i
      · subst e
        rw [List.getElem?_set_self (List.getElem?_eq_some_iff.1 hj).1] at ha
        simp only [Option.some.injEq] at ha
        subst ha
        rw [hGb, p1] at q1
        cases q1
        rw [p2] at q2
        cases q2
        rw [hx0, hvb] at hxx
        cases hxx
        exact .mo _ _ _ _ _ (by simp [enOf]) ⟨rfl, fun b' hb' => by cases hb'; rfl⟩ (fun r hr => by
          have : G'.own gen = some r := hr
          rw [ho1] at this
          cases this
          exact hmo'.to)
      · rw [List.getElem?_set_ne e] at ha
        exact q3 i x' a' hxx ha
    refine ⟨G', hs2.put (dst := some d) (dstOK_lt (dst := some d) hd) (.own _ _ x (hxd.mono fun b o u hu hp => hle.cell b o u hu hp) (by simp [enOf]) (fun r hr => ?_))⟩
    have : G'.own (gen + 1) = some r := hr
    rw [ho2] at this
    cases this
    exact hrow
  refine gives_value h0 ?_
  rcases h2 with ⟨q1, q2, rfl⟩ | ⟨j, mm, p, q1, q2, q3, q4, q5, q6⟩
  · obtain ⟨G', hG'⟩ := key [] .nil bs (fun _ h => h) (fun _ _ h => by cases h) (fun _ _ _ _ _ h => by cases h) (fun i mm p hm hp _ => hmo.at_ i mm p hm hp (by simp)) .nil ⟨0, by simp, rfl, rfl⟩
    refine ⟨_, ⟨G', hG'⟩, ?_⟩
    rw [q1] at h
    exact h
  · subst q3; subst q4
    have hsl := hmo.at_ j mm p q1 q2 (by simp)
    rw [q5] at h
    obtain ⟨s, hsz⟩ := q6.szs
    cases hps : ps (kf p.1) with
    | none =>
      rw [hps] at hsl
      rcases hsl with ⟨t1, t2⟩ | ⟨c, off, t1⟩
      · obtain ⟨G', hG'⟩ := key (p.2.map fn) .nil bs (fun _ h => h) (fun _ _ h => by cases h) (fun _ _ _ _ _ h => by cases h) (fun i mm p hm hp _ => hmo.at_ i mm p hm hp (by simp)) q6 ⟨s, hsz, t1, by rw [t2]; rfl⟩
        exact ⟨_, ⟨G', hG'⟩, h⟩
      · obtain ⟨G', hG'⟩ := key (p.2.map fn) (.zero c) bs (fun _ h => h) (fun _ _ h => by cases h) (fun _ _ _ _ _ h => by cases h) (fun i mm p hm hp _ => hmo.at_ i mm p hm hp (by simp)) q6 ⟨s, hsz, off, t1⟩
        exact ⟨_, ⟨G', hG'⟩, h⟩
    | some c =>
      rw [hps] at hsl
      obtain ⟨cap, sz, cur, T1, t1, t2, t3, t4, t5, t6, t7, t8, t9, t10⟩ := hsl
      obtain ⟨G', hG'⟩ := key (p.2.map fn) (.blk c (p.2.map fn).length cap sz ((p.2.map fn).length * sz)) (bs.filter fun q => !Nat.beq q.1 c) (fun q hq => (List.mem_filter.1 hq).1) (fun _ _ h => by cases h)
        (fun c' len' cap' sz' pub' h => by
          simp only [Row.blk.injEq] at h
          obtain ⟨rfl, rfl, rfl, rfl, rfl⟩ := h
          exact ⟨t2, fun q hq e => by have := (List.mem_filter.1 hq).2; rw [e] at this; simp at this, cur, T1, t8, t9, t6, t7, t4, t5, Nat.le_refl _, t10⟩)
        (fun i m2 p2 hm2 hp2 hne => (hmo.at_ i m2 p2 hm2 hp2 (by simp)).mono fun c' lim e1 e2 => ⟨List.mem_filter.2 ⟨e2, by
          have : c' ≠ c := fun e => by
            subst e
            have := hmo.inj p p2 c' (List.mem_of_getElem? q2) (List.mem_of_getElem? hp2) (by simp) (by simp) hps e1
            exact hne (by rw [this])
          cases hq : Nat.beq c' c with
          | false => rfl
          | true => exact absurd (Nat.eq_of_beq_eq_true hq) this⟩, rfl⟩) q6 ⟨sz, t3, t1, rfl, rfl, rfl⟩
      exact ⟨_, ⟨G', hG'⟩, h⟩
theorem run_mapPutX {w : World} {pv : Nat → Nat → Prop} {β : Type} {vf : β → D} {mt k e : Nat} {td : TyD} (ht : look' T.l mt = some td) (htk : td.k = .map k e) (hkt : KeyT P k kf) {b : Nat} {me : Array MapEntry} {clock : Nat} (hb : w.heap[b]? = some (.map me clock)) {l : List (α × β)}
    (hst : Stamped me clock) (h : MeIs w pv kf vf me l) (hn : (l.map (·.1)).Nodup) (a : α) (hka : okc (kf a) = true) {v : Value} {y : β} (hv : RepD w pv v (vf y)) :
    ∃ me' clock', (Instr.mapUpdate mt (.map (some b)) (kf a) v).run P w = .ok () { w with heap := w.heap.setIfInBounds b (.map me' clock') } ∧ Stamped me' clock' ∧ MeIs w pv kf vf me' (mput l a y) ∧
      ∀ (i : Nat) (m : MapEntry) (p : α × β), me'[i]? = some m → (mput l a y)[i]? = some p → (p = (a, y) ∧ m.val = v) ∨ (p.1 ≠ a ∧ ∃ m0, me[i]? = some m0 ∧ l[i]? = some p ∧ m0.val = m.val) := by
  obtain ⟨d, hd, hk⟩ := hkt.ty
  have hm := T.u_map ht htk
  rcases h.find hkt hn a with ⟨h1, h2, _⟩ | ⟨j, en, p, h1, h2, h3, h4, h5, _, _⟩
  · refine ⟨me.push ⟨kf a, v, clock⟩, clock + 1, ?_, stamped_push hst (fun x hx => ?_), ?_, ?_⟩
    · unfold Instr.mapUpdate
      simp only [Sem.run_bind, run_underlying hm, Result.andThen_ok, Go.MapKept.run_getObj_map hb, run_checkKey hd (hk a), h1]
      exact Go.MapKept.run_setObj_map _ hb
    · obtain ⟨i, hi⟩ := List.mem_iff_getElem?.1 hx
      have hi' : me[i]? = some x := by simpa using hi
      have hlt : i < l.length := by rw [← h.1]; exact (Array.getElem?_eq_some_iff.1 hi').1
      rw [(h.2 i x l[i] hi' (by simp [hlt])).1]
      exact fun e => h2 l[i] (by simp) (hkt.inj _ _ e)
    · rw [mput_new h2]
      refine ⟨by simp [h.1], fun i m p hm hp => ?_⟩
      rw [Array.getElem?_push] at hm
      split at hm
      · rename_i hi
        rw [List.getElem?_append_right (by rw [hi, h.1]; exact Nat.le_refl _)] at hp
        have : i - l.length = 0 := by rw [hi, h.1]; omega
        rw [this] at hp
        simp only [List.getElem?_cons_zero, Option.some.injEq] at hp
        simp only [Option.some.injEq] at hm
        subst hm; subst hp
        exact ⟨rfl, hka, hv⟩
      · have hlt : i < l.length := by rw [← h.1]; exact (Array.getElem?_eq_some_iff.1 hm).1
        rw [List.getElem?_append_left hlt] at hp
        exact h.2 i m p hm hp
    · rw [mput_new h2]
      intro i m p hm hp
      rw [Array.getElem?_push] at hm
      split at hm
      · rename_i hi
        rw [List.getElem?_append_right (by rw [hi, h.1]; exact Nat.le_refl _)] at hp
        have : i - l.length = 0 := by rw [hi, h.1]; omega
        rw [this] at hp
        simp only [List.getElem?_cons_zero, Option.some.injEq] at hp
        simp only [Option.some.injEq] at hm
        subst hm; subst hp
        exact .inl ⟨rfl, rfl⟩
      · have hlt : i < l.length := by rw [← h.1]; exact (Array.getElem?_eq_some_iff.1 hm).1
        rw [List.getElem?_append_left hlt] at hp
        exact .inr ⟨h2 p (List.mem_of_getElem? hp), m, hm, hp, rfl⟩
  · refine ⟨me.modify j fun e => { e with key := kf a, val := v }, clock, ?_, stamped_modify hst j _ (fun _ _ => rfl) (fun e _ he => by rw [h2] at he; cases he; exact h5.symm), ?_, ?_⟩
    · unfold Instr.mapUpdate
      simp only [Sem.run_bind, run_underlying hm, Result.andThen_ok, Go.MapKept.run_getObj_map hb, run_checkKey hd (hk a), h1, h2, Option.map_some, Option.getD_some, h5, run_keyThatStays (hk a)]
      exact Go.MapKept.run_setObj_map _ hb
    · subst h4
      rw [mput_at hn h3]
      refine ⟨by simp [h.1], fun i m q hm hq => ?_⟩
      rw [Array.getElem?_modify] at hm
      rw [List.getElem?_set] at hq
      by_cases hij : j = i
      · subst hij
        rw [if_pos rfl] at hm hq
        rw [h2] at hm
        rw [if_pos (List.getElem?_eq_some_iff.1 h3).1] at hq
        simp only [Option.map_some, Option.some.injEq] at hm hq
        subst hm; subst hq
        exact ⟨rfl, hka, hv⟩
      · rw [if_neg hij] at hm hq
        exact h.2 i m q hm hq
    · subst h4
      rw [mput_at hn h3]
      intro i m q hm hq
      rw [Array.getElem?_modify] at hm
      rw [List.getElem?_set] at hq
      by_cases hij : j = i
      · subst hij
        rw [if_pos rfl] at hm hq
        rw [h2] at hm
        rw [if_pos (List.getElem?_eq_some_iff.1 h3).1] at hq
        simp only [Option.map_some, Option.some.injEq] at hm hq
        subst hm; subst hq
        exact .inl ⟨rfl, rfl⟩
      · rw [if_neg hij] at hm hq
        refine .inr ⟨fun e => hij ?_, m, hm, hq, rfl⟩
        have h6 : (l.map (·.1))[j]? = some p.1 := by simp [h3]
        have h7 : (l.map (·.1))[i]? = some p.1 := by simp [hq, e]
        obtain ⟨hj1, hj2⟩ := List.getElem?_eq_some_iff.1 h6
        obtain ⟨hi1, hi2⟩ := List.getElem?_eq_some_iff.1 h7
        have hpw := List.pairwise_iff_getElem.1 hn
        rcases Nat.lt_trichotomy j i with hlt | heq | hgt
        · exact absurd (hj2.trans hi2.symm) (hpw j i hj1 hi1 hlt)
        · exact heq
        · exact absurd (hi2.trans hj2.symm) (hpw i j hi1 hj1 hgt)
open Classical in
theorem mapPutN (gq jq : Nat) {mt k e : Nat} {td : TyD} {m kx x : Operand} {g g2 b : Nat} {cq : List A} {l : List (α × List γ)} {a : α} {y : List γ} (hm : av f m = some (.d (.v (.map (some b))))) (hq : look' bx gq = some cq) (hj : cq[jq]? = some (.mo g (moes kf fn l) (some (kf a)) (some b)))
    (hk : av f kx = some (.d (.v (kf a)))) (hx : av f x = some (.own g2 (y.map fn))) (ht : look' T.l mt = some td) (htk : td.k = .map k e) (hkt : KeyT P k kf) (hgl : (lv.any fun h => Nat.beq h g) = true) (hgl2 : (lv.any fun h => Nat.beq h g2) = true) (hgg : Nat.beq g2 g = false) (hn : (l.map (·.1)).Nodup)
    {lv' : List Nat} (hlv : gen :: dropId (dropId lv g) g2 = lv') {cq' : List A} (hcq : cq.set jq (.mo gen (moes kf fn (mput l a y)) none none) = cq')
    (h : WO P C n ops Q rest ⟨f, (gq, cq') :: bx, lv', gen + 1⟩) : WO P C n ops Q (⟨none, .mapUpdate mt m kx x, ty, pos, af, none⟩ :: rest) ⟨f, bx, lv, gen⟩ := by
  subst hcq; subst hlv
  refine WO.step (st := ⟨f, bx, lv, gen⟩) rfl fun tmps w ⟨G, hs⟩ => ?_
  have hrm := hs.av hm
  have hrk := hs.av hk
  have hrx := hs.av hx
  generalize hv : Act.eval ⟨tmps, []⟩ m = v at hrm
  generalize hvk : Act.eval ⟨tmps, []⟩ kx = vk at hrk
  generalize hvx : Act.eval ⟨tmps, []⟩ x = vx at hrx
  cases hrm with | d hrm => cases hrm with | v _ hom =>
  cases hrk with | d hrk => cases hrk with | v _ hok =>
  obtain ⟨r2, hg2⟩ := hs.live g2 (memAny hgl2)
  cases hrx with
  | own _ _ _ hxd hgg2 hxr =>
  obtain ⟨s, hsz, hri⟩ := hxr r2 hg2
  have hne : g2 ≠ g := fun e => by subst e; simp at hgg
  obtain ⟨b0, cs0, T0, p1, p2, p3, p4, p5⟩ := hs.box gq cq hq
  have hjl : jq < cs0.size := by rw [p3]; exact (List.getElem?_eq_some_iff.1 hj).1
  have hx0 : cs0[jq]? = some cs0[jq] := by simp [hjl]
  have hrep := p5 jq _ _ hx0 hj
  have hvb : cs0[jq] = .map (some b) := by
    generalize cs0[jq] = y at hrep
    cases hrep with | mo _ _ _ _ _ _ h1 _ => exact h1.2 b rfl
  rw [hvb] at hrep
  obtain ⟨b', bs, me, clock, ps, hgb, hbb, hmo⟩ := hs.moAt hrep (memAny hgl)
  simp only [Value.map.injEq, Option.some.injEq] at hbb
  subst hbb
  obtain ⟨me', clock', hrun, hst', hmi', hwh⟩ := run_mapPutX (P := P) T (y := y) ht htk hkt hmo.hb hmo.st hmo.mi hn a hok hxd
  have h0 : (execOp (Act.eval ⟨tmps, []⟩) ⟨none, .mapUpdate mt m kx x, ty, pos, af, none⟩).run P w = .ok .skip { w with heap := w.heap.setIfInBounds b (.map me' clock') } := by
    unfold execOp
    show Sem.run P _ w = .ok _ _
    simp only [hv, hvk, hvx, Sem.run_bind, hrun, Result.andThen_ok, Sem.run_pure]
  obtain ⟨hnew, hoth⟩ := heap_set (o' := Obj.map me' clock') hmo.hb
  obtain ⟨bs', oc, hbs1, hbs2, hoc⟩ : ∃ (bs' : List (Nat × Nat)) (oc : Option Nat), (∀ p ∈ bs, p ∈ bs') ∧ (∀ p ∈ bs', p ∈ bs ∨ ∃ len cap sz, r2 = .blk p.1 len cap sz p.2) ∧ (SlAt w oc bs' vx (y.map fn) ∧ ∀ c, oc = some c → ∃ len cap sz pub, r2 = .blk c len cap sz pub) := by
    cases r2 with
    | nil => exact ⟨bs, none, fun _ h => h, fun _ h => .inl h, .inl ⟨hri.1, List.eq_nil_of_length_eq_zero hri.2⟩, fun c hc => by cases hc⟩
    | zero c => exact ⟨bs, none, fun _ h => h, fun _ h => .inl h, .inr ⟨c, hri⟩, fun c hc => by cases hc⟩
    | mp _ _ => exact hri.elim
    | blk c len cap sz pub =>
      obtain ⟨t1, t2, t3, t4⟩ := hri
      obtain ⟨_, _, _, cur, T1, u1, u2, u3, u4, u5, u6, u7, u8⟩ := hs.row g2 c len cap sz pub hg2
      refine ⟨(c, pub) :: bs, some c, fun p hp => List.mem_cons_of_mem _ hp, fun p hp => ?_, ⟨cap, sz, cur, T1, by rw [t1, t2], ?_, fun e he => (hsz e he).trans t3, u5, by omega, by omega, u4, u1, u2, u8⟩, fun c' hc' => by cases hc'; exact ⟨len, cap, sz, pub, rfl⟩⟩
      · rcases List.mem_cons.1 hp with rfl | hp
        · exact .inr ⟨len, cap, sz, rfl⟩
        · exact .inl hp
      · rw [t2, ← t4]; exact List.mem_cons_self
  obtain ⟨G', hGb, ho1, hle, hs'⟩ := hs.join hgb hg2 hne hbs2 me' clock' (dropId (dropId lv g) g2) (fun g' hg' => by
    obtain ⟨t1, t2⟩ := dropId_mem hg'
    obtain ⟨t3, t4⟩ := dropId_mem t1
    exact ⟨t3, t4, t2⟩)
  have hcells : ∀ {c : Nat} {cs : Array Value} {T : TypeId} {ff : Nat × Nat}, w.heap[c]? = some (.cells cs T ff) → (w.heap.setIfInBounds b (.map me' clock'))[c]? = w.heap[c]? := fun {c cs T ff} hc => hoth c (fun e => by rw [e, hmo.hb] at hc; cases hc)
  have hslw : ∀ {o : Option Nat} {v : Value} {z : List (List D)} {bs1 bs2 : List (Nat × Nat)}, SlAt w o bs1 v z → (∀ p ∈ bs1, p ∈ bs2) → SlAt { w with heap := w.heap.setIfInBounds b (.map me' clock') } o bs2 v z := fun {o v z bs1 bs2} hz hb2 => by
    cases o with
    | none => exact hz
    | some c =>
      obtain ⟨cap, sz, cur, T1, t1, t2, t3, t4, t5, t6, t7, t8, t9⟩ := hz
      exact ⟨cap, sz, cur, T1, t1, hb2 _ t2, t3, t4, t5, t6, t7, (hcells t8).trans t8, t9⟩
  have hclaim : ∀ (p : α × List γ) (c : Nat), p ∈ l → p.1 ≠ a → ps (kf p.1) = some c → ∃ lim, (c, lim) ∈ bs := fun p c hp hpa hc => by
    obtain ⟨i, hi⟩ := List.mem_iff_getElem?.1 hp
    have hil : i < me.size := by rw [hmo.mi.1]; exact (List.getElem?_eq_some_iff.1 hi).1
    have := hmo.at_ i me[i] p (by simp [hil]) hi (fun e => hpa (hkt.inj _ _ (Option.some.inj e)).symm)
    rw [hc] at this
    obtain ⟨cap, sz, cur, T1, t1, t2, _⟩ := this
    exact ⟨_, t2⟩
  have hmem : ∀ p ∈ mput l a y, p.1 ≠ a → p ∈ l := fun p hp hpa => by
    obtain ⟨i, hi⟩ := List.mem_iff_getElem?.1 hp
    have hil : i < me'.size := by rw [hmi'.1]; exact (List.getElem?_eq_some_iff.1 hi).1
    rcases hwh i me'[i] p (by simp [hil]) hi with ⟨e, _⟩ | ⟨_, m0, _, e, _⟩
    · rw [e] at hpa; exact absurd rfl hpa
    · exact List.mem_of_getElem? e
  have hnot : ∀ (c : Nat), oc = some c → ∀ lim, (c, lim) ∉ bs := fun c hc lim hm => by
    obtain ⟨len, cap, sz, pub, e⟩ := hoc.2 c hc
    rw [e] at hg2
    exact (hs.sub g b bs c lim hgb hm).2.2.1 _ _ _ _ _ hg2
  have hmo' : MoAt { w with heap := w.heap.setIfInBounds b (.map me' clock') } (pvOf C G') b bs' kf fn (mput l a y) none me' clock' (fun k => if k = kf a then oc else ps k) := by
    refine ⟨hnew, hst', hmi'.mono fun b o u hu hp => hle.cell b o u hu hp, fun p p' c hp hp' _ _ q3 q4 => ?_, fun i mm p hmm hp _ => ?_⟩
    · by_cases e1 : p.1 = a
      · by_cases e2 : p'.1 = a
        · rw [e1, e2]
        · rw [e1, if_pos rfl] at q3
          rw [if_neg (fun e => e2 (hkt.inj _ _ e))] at q4
          obtain ⟨lim, hm⟩ := hclaim p' c (hmem p' hp' e2) e2 q4
          exact absurd hm (hnot c q3 lim)
      · rw [if_neg (fun e => e1 (hkt.inj _ _ e))] at q3
        by_cases e2 : p'.1 = a
        · rw [e2, if_pos rfl] at q4
          obtain ⟨lim, hm⟩ := hclaim p c (hmem p hp e1) e1 q3
          exact absurd hm (hnot c q4 lim)
        · rw [if_neg (fun e => e2 (hkt.inj _ _ e))] at q4
          exact hmo.inj p p' c (hmem p hp e1) (hmem p' hp' e2) (fun e => e1 (hkt.inj _ _ (Option.some.inj e)).symm) (fun e => e2 (hkt.inj _ _ (Option.some.inj e)).symm) q3 q4
    · rcases hwh i mm p hmm hp with ⟨e, e2⟩ | ⟨e, m0, e2, e3, e4⟩
      · rw [e, e2]
        simp only [if_true]
        exact hslw hoc.1 (fun _ h => h)
      · rw [if_neg (fun e' => e (hkt.inj _ _ e')), ← e4]
        exact hslw (hmo.at_ i m0 p e2 e3 (fun e' => e (hkt.inj _ _ (Option.some.inj e')).symm)) hbs1
  refine gives_skip h0 ⟨_, ⟨G', hs'.recell (f := f) (bx := bx) (lv := gen :: dropId (dropId lv g) g2) (gen := gen + 1) hq (by simp) fun b3 cs3 T3 q1 q2 q3 i x' a' hxx ha => ?_⟩, h⟩
  by_cases e : jq = i
  · subst e
    have hlt : jq < cq.length := (List.getElem?_eq_some_iff.1 hj).1
    rw [List.getElem?_set_self hlt] at ha
    simp only [Option.some.injEq] at ha
    subst ha
    rw [hGb, p1] at q1
    cases q1
    rw [show ({ w with heap := w.heap.setIfInBounds b (.map me' clock') } : World).heap[b0]? = w.heap[b0]? from hcells p2, p2] at q2
    cases q2
    rw [hx0, hvb] at hxx
    cases hxx
    exact .mo _ _ _ _ _ (by simp [enOf]) ⟨rfl, fun b' hb' => by cases hb'⟩ (fun r hr => by
      have : G'.own gen = some r := hr
      rw [ho1] at this
      cases this
      exact hmo'.to)
  · rw [List.getElem?_set_ne e] at ha
    exact q3 i x' a' hxx ha
end
end Go.Ab
namespace Go.Ab
theorem insOf {P : Program} {C : Ctx} {n : Nat} {ops : Array Oper} {Q : Exit → St → Prop} {rest : List Oper} {st : St} {mt : TypeId} {m k x : Operand} {ty : TypeId} {pos : String} {af : Array Edge}
    (h : WO P C n ops Q (⟨none, .mapUpdate mt m k x, ty, pos, af, none⟩ :: rest) st) : WO P C n ops Q (⟨none, .insert mt m k x, ty, pos, af, none⟩ :: rest) st := fun tmps w hs => h tmps w hs
end Go.Ab
namespace Go.Ab
open Go.RowKit
def noDefer (o : Oper) : Bool := match o.op with | .defer _ => false | _ => true
section
variable {P : Program} {n : Nat}
theorem rowsIn_wide' {q : Nat} {row : String} {args : Array Value} {w : World} {R : Value → World → Prop} (h : Rows P row args w R) : RowsIn Fence.wide q P row args w R :=
  fun c cs _ => let ⟨v, w', r, s⟩ := h c cs; ⟨v, w', r, stepsIn_wide.2 s⟩
theorem oper_mono2 {o : Oper} {a : Act} {w : World} {next next' : Act → World → Prop} {Q Q' : Exit → Act → World → Prop} (h : o.wp P a w next Q) (hn : ∀ a w, next a w → next' a w) (hq : ∀ e a w, Q e a w → Q' e a w) : o.wp P a w next' Q' := by
  unfold Oper.wp at h ⊢
  generalize (execOp a.eval o).run P w = res at h ⊢
  cases res with
  | ok x w' =>
    cases x <;> simp only [Oper.upon] at h ⊢
    case value v => exact hn _ _ h
    case skip => exact hn _ _ h
    case defer d => exact hn _ _ h
    case enter f args =>
      refine h.mono fun e w'' he => ?_
      cases e with
      | returned v => exact hn _ _ he
      | panicked c => exact hq _ _ _ he
      | outgrown => exact let ⟨a, w, h⟩ := he; ⟨a, w, hq _ _ _ h⟩
    case row row args => exact h.mono fun v w'' he => hn _ _ he
  | halt x w' =>
    cases x <;> simp only [Oper.upon] at h ⊢
    exact hq _ _ _ h
theorem wpL_mono {ops : Array Oper} {Q Q' : Exit → Act → World → Prop} (hq : ∀ e a w, Q e a w → Q' e a w) : ∀ (l : List Oper) (a : Act) (w : World), wpL P ops Q l a w → wpL P ops Q' l a w
  | [], _, _, h => hq _ _ _ h
  | o :: l, a, w, h => by
    simp only [wpL] at h ⊢
    split
    · rename_i hw
      rw [if_pos hw] at h
      exact oper_mono2 h (fun a w => wpL_mono hq l a w) hq
    · rename_i hw
      rw [if_neg hw] at h
      exact wpL_mono hq l _ _ h
theorem oper_in {r q : Nat} {o : Oper} {a : Act} {w : World} {next next' : Act → World → Prop} {Q : Exit → Act → World → Prop} (hnd : noDefer o = true) (h : o.wp P a w next Q) (hn : ∀ a w, next a w → next' a w) : o.wpIn (Fence.wide.inRound r) q P a w next' Q := by
  refine ⟨fun _ _ => trivial, ?_⟩
  rw [Oper.semAt_eq _ _ _ (fun c hc => by simp [noDefer, hc] at hnd)]
  unfold Oper.wp at h
  generalize (execOp a.eval o).run P w = res at h ⊢
  cases res with
  | ok x w' =>
    cases x <;> simp only [Oper.upon] at h <;> simp only [Oper.uponIn]
    case value v => exact hn _ _ h
    case skip => exact hn _ _ h
    case defer d => exact hn _ _ h
    case enter f args =>
      refine ⟨fun hh => (by cases hh), CallsIn.inRound r ((callsIn_wide.2 h).mono fun e w'' he => ?_)⟩
      cases e with
      | returned v => exact hn _ _ he
      | panicked c => exact he
      | outgrown => exact he
    case row row args => exact ⟨fun hh => (by cases hh), (rowsIn_wide' (h.mono fun v w'' he => hn _ _ he) : RowsIn Fence.wide (q - 1) P row args w' _)⟩
  | halt x w' =>
    cases x <;> simp only [Oper.upon] at h <;> simp only [Oper.uponIn]
    exact h
theorem wpL_in {r q : Nat} {ops : Array Oper} {Q : Exit → Act → World → Prop} : ∀ (l : List Oper) (k : Nat), (∀ j : Nat, l[j]? = ops[k + j]?) → (l.all noDefer = true) → ∀ (a : Act) (w : World), wpL P ops Q l a w → wpOpsIn (Fence.wide.inRound r) q P ops Q (List.range' k l.length) a w
  | [], k, _, _, a, w, h => by simpa [wpOpsIn, wpL] using h
  | o :: l, k, hl, hd, a, w, h => by
    have h0 : ops[k]? = some o := by simpa using (hl 0).symm
    simp only [List.all_cons, Bool.and_eq_true] at hd
    simp only [List.length_cons, List.range'_succ, wpOpsIn, h0]
    simp only [wpL] at h
    have ih := fun a w => wpL_in (r := r) (q := q) (Q := Q) l (k + 1) (fun j => by have := hl (j + 1); simpa [Nat.add_assoc, Nat.add_comm 1 j] using this) hd.2 a w
    split
    · rename_i hw
      rw [if_pos hw] at h
      exact oper_in hd.1 h ih
    · rename_i hw
      rw [if_neg hw] at h
      exact ⟨fun _ _ => trivial, ih _ _ h⟩
end
def QR (b1 : List (List A)) (k : Nat) (st : St) : Prop := ∃ order, order.length = k ∧ nodupB (ordB b1.length order) = true ∧ (∀ g ∈ order, g ∈ st.lv) ∧ ∀ (i : Nat) (c : List A), b1[i]? = some c → ∃ c0, look' st.bx i = some c0 ∧ renL (ordB b1.length order) c0 = c
theorem QR.mk {b1 : List (List A)} {k : Nat} {st : St} (order : List Nat) (hk : order.length = k) (hnd : nodupB (ordB b1.length order) = true) (hov : (order.all fun g => st.lv.any fun h => Nat.beq h g) = true)
    (hb : ∀ (i : Nat) (c : List A), b1[i]? = some c → ∃ c0, look' st.bx i = some c0 ∧ renL (ordB b1.length order) c0 = c) : QR b1 k st :=
  ⟨order, hk, hnd, fun g hg => by
    obtain ⟨x, hx, he⟩ := List.any_eq_true.1 (List.all_eq_true.1 hov g hg)
    exact Nat.eq_of_beq_eq_true he ▸ hx, hb⟩
section
variable {P : Program} [Met P] {n : Nat}
theorem QR.sim {C : Ctx} {st : St} {G : Gh} {tmps : Array Value} {w : World} {b0 b1 : List (List A)} {k : Nat} (hs : SimG C n st G tmps w) (hq : QR b1 k st) (hnb : C.bx.length = b0.length) (hbl : b1.length = b0.length) :
    ∃ G', SimG C 0 ⟨[], bxs 0 b1, (List.range k).map (b0.length + ·), b0.length + k⟩ G' #[] w := by
  obtain ⟨order, hol, hnd, hov, hbx⟩ := hq
  have holen : (ordB b1.length order).length = b0.length + k := by simp [ordB, hol, hbl]
  have hget : ∀ i, i < C.bx.length → (ordB b1.length order)[i]? = some i := fun i hi => by
    unfold ordB
    rw [List.getElem?_append_left (by simp; omega), List.getElem?_range (by omega)]
  refine ⟨renG (ordB b1.length order) G, SimG.noFrame (hs.ren (f' := []) (bx' := bxs 0 b1) (lv' := (List.range k).map (b0.length + ·)) (gen' := b0.length + k) (ordB b1.length order) (nodup_of hnd) (by omega) hget (fun t a ha => by simp [look] at ha) (fun i c hc => ?_) (fun i hi => ?_)) rfl⟩
  · obtain ⟨_, h1⟩ := bxs_look b1 0 i c hc
    simp only [Nat.sub_zero] at h1
    obtain ⟨c0, h2, h3⟩ := hbx i c h1
    have hlt : i < b1.length := (List.getElem?_eq_some_iff.1 h1).1
    exact ⟨i, c0, hget i (by rw [hnb, ← hbl]; exact hlt), h2, by rw [← renL_map]; exact h3⟩
  · obtain ⟨j, hj, rfl⟩ := List.mem_map.1 hi
    have hj : j < k := by simpa using hj
    have hj2 : j < order.length := by omega
    refine ⟨order[j], ?_, hov _ (List.getElem_mem hj2)⟩
    unfold ordB
    rw [List.getElem?_append_right (by simp; omega)]
    simp [hbl, hj2]
theorem RoundB.of2 {id i1 i2 : Nat} {l1 l2 : List Oper} {V : List (Nat × A)} {b0 b1 : List (List A)} {m k : Nat} (hbl : b1.length = b0.length) (hd1 : l1.all noDefer = true) (hd2 : l2.all noDefer = true)
    (h : ∀ C, NB C b0.length → GC P C → WO P C n l1.toArray (fun e s => e = .normal ∧ WO P C n l2.toArray (fun e s => e = .normal ∧ QR b1 k s) l2 s) l1 ⟨V, bxs 0 b0, (List.range m).map (b0.length + ·), b0.length + m⟩) :
    RoundB P n (.block id (.seq (.region i1 l1.toArray false) (.region i2 l2.toArray false))) V b0 m b1 k := by
  intro C G tmps w l q hG hw hnb hds hs
  refine wpIn_block (wpIn_seq (wpIn_region ?_))
  have h1 := h C ⟨hnb⟩ hG tmps w ⟨G, hs⟩
  rw [hds] at h1
  have h2 : wpL P l1.toArray (Exit.then ((Code.region i2 l2.toArray false).wpIn (Fence.wide.inRound l) q P (Exit.inBlock id fun e _ w' => e = .normal ∧ ∃ G', SimG C 0 ⟨[], bxs 0 b1, (List.range k).map (b0.length + ·), b0.length + k⟩ G' #[] w')) (Exit.inBlock id fun e _ w' => e = .normal ∧ ∃ G', SimG C 0 ⟨[], bxs 0 b1, (List.range k).map (b0.length + ·), b0.length + k⟩ G' #[] w')) l1 ⟨tmps, []⟩ w := by
    refine wpL_mono (fun e a w' hq => ?_) l1 _ _ h1
    obtain ⟨hd, st, ⟨G2, hs2⟩, rfl, hw2⟩ := hq
    obtain ⟨tm, d⟩ := a
    have hd : d = C.ds := hd
    rw [hds] at hd
    subst hd
    refine wpIn_region ?_
    have h3 := hw2 tm w' ⟨G2, hs2⟩
    rw [hds] at h3
    have h4 : wpL P l2.toArray (Exit.inBlock id fun e _ w' => e = .normal ∧ ∃ G', SimG C 0 ⟨[], bxs 0 b1, (List.range k).map (b0.length + ·), b0.length + k⟩ G' #[] w') l2 ⟨tm, []⟩ w' := by
      refine wpL_mono (fun e a w3 hq => ?_) l2 _ _ h3
      obtain ⟨_, st3, ⟨G3, hs3⟩, rfl, hq3⟩ := hq
      exact ⟨rfl, hq3.sim hs3 hnb hbl⟩
    have := wpL_in (P := P) (r := l) (q := q) l2 0 (by simp) hd2 _ _ h4
    rw [show List.range l2.toArray.size = List.range' 0 l2.length by simp [List.range_eq_range']]
    exact this
  have := wpL_in (P := P) (r := l) (q := q) l1 0 (by simp) hd1 _ _ h2
  rw [show List.range l1.toArray.size = List.range' 0 l1.length by simp [List.range_eq_range']]
  exact this
end
section
variable {P : Program} (T : Tab P) {C : Ctx} {n : Nat} {Q : Exit → St → Prop} {c : Code}
variable {f f' : List (Nat × A)} {bx bx' : List (Nat × List A)} {lv : List Nat} {gen : Nat}
theorem freezeP [hnb : NB C 0] (s : Nat) {g : Nat} {l : List D} (hl : look f s = some (.ptr g 0)) (hb : look' bx g = some (l.map .d)) (hsn : Nat.blt s n = true) (hf : cutF g [] f = f') (hbx : cutBg g [] bx = some bx')
    (h : W P C n c Q ⟨(s, .rowd l) :: f', bx', lv, gen⟩) : W P C n c Q ⟨f, bx, lv, gen⟩ := by
  subst hf
  intro tmps w ⟨G, hs⟩
  obtain ⟨v, hv, hr⟩ := hs.frame _ _ hl
  obtain ⟨b, cs, T', hgb, hw, h3, h4, h5⟩ := hs.box _ _ hb
  cases hr with
  | ptr _ _ _ b' hgg hb' hx =>
  have hb' : G.box g = some b' := hb'
  rw [hgb] at hb'
  cases hb'
  let G' : Gh := ⟨fun x => if x = g then none else G.box x, G.own⟩
  have hpv : ∀ b' o, pvOf C G' b' o → pvOf C G b' o := by
    rintro b' o (hp | ⟨g', hp⟩ | hp)
    · exact .inl hp
    · simp only [G'] at hp
      split at hp
      · cases hp
      · exact .inr (.inl ⟨g', hp⟩)
    · exact .inr (.inr hp)
  have hnot : ∀ o, ¬ pvOf C G' b o := by
    rintro o (hp | ⟨g', hp⟩ | ⟨g', len, cap, sz, pub, hp, _⟩ | ⟨g', b2, bs, lim, hp, hm, _⟩)
    rotate_right
    · exact (hs.sub g' b2 bs b lim hp hm).2.1 g hgb
    · have := hs.xold b o hp
      rcases (hs.gbox g b hgb).2.2.1 with hm | hm
      · omega
      · exact this.2 hm
    · simp only [G'] at hp
      split at hp
      · cases hp
      · rename_i e; exact e (hs.inj g' g b hp hgb)
    · exact (hs.row g' b len cap sz pub hp).2.1 g hgb
  have hrep : ∀ {v : Value} {a : A}, Rep (enOf C G gen w) v a → noG g a = true → Rep (enOf C G' gen w) v a := fun h ha =>
    Rep.forget (E := enOf C G gen w) (E' := enOf C G' gen w) rfl (fun b o u hu hn => ⟨hu, fun hp => hn (hpv b o hp)⟩) (fun b h => h) (fun g' b hne hb => by show (if g' = g then none else G.box g') = some b; rw [if_neg hne]; exact hb) rfl rfl h ha
  have hs' : SimG C n ⟨cutF g [] f, bx', lv, gen⟩ G' tmps w := by
    refine { size := hs.size, frame := ?_, box := ?_, gbox := ?_, inj := ?_, live := hs.live, gown := hs.gown, row := ?_, mrow := ?_, sub := ?_, gcell := fun g' b2 hb2 => (by simp only [G'] at hb2; split at hb2 <;> first | (cases hb2; done) | exact hs.gcell g' b2 hb2), xold := hs.xold, kold := hs.kold, lent := ?_, fr := hs.fr }
    · intro t a ha
      obtain ⟨h1, h2, _⟩ := cutF_look ha
      obtain ⟨v, hv, hr⟩ := hs.frame t a h1
      exact ⟨v, hv, hrep hr h2⟩
    · intro g' cells hc
      obtain ⟨h1, h2, h6, _⟩ := cutB_look hbx hc
      obtain ⟨b2, cs2, T2, p1, p2, p3, p4, p5⟩ := hs.box g' cells h1
      exact ⟨b2, cs2, T2, by simp only [G']; rw [if_neg h6]; exact p1, p2, p3, p4, fun i u a hu ha => hrep (p5 i u a hu ha) (noGL_mem h2 a (List.mem_of_getElem? ha))⟩
    · intro g' b2 hb2
      simp only [G'] at hb2
      split at hb2
      · cases hb2
      · exact hs.gbox g' b2 hb2
    · intro g1 g2 b2 h1 h2
      simp only [G'] at h1 h2
      split at h1
      · cases h1
      · split at h2
        · cases h2
        · exact hs.inj g1 g2 b2 h1 h2
    · intro g' b2 len cap sz pub hr
      obtain ⟨p1, p2, p3⟩ := hs.row g' b2 len cap sz pub hr
      refine ⟨p1, fun g2 h2 => ?_, p3⟩
      simp only [G'] at h2
      split at h2
      · cases h2
      · exact p2 g2 h2
    · intro g' b2 bs hr
      obtain ⟨p1, p2, p3⟩ := hs.mrow g' b2 bs hr
      refine ⟨p1, fun g2 h2 => ?_, p3⟩
      simp only [G'] at h2
      split at h2
      · cases h2
      · exact p2 g2 h2
    · intro g' b2 bs c lim hr hm
      obtain ⟨p1, p2, p3⟩ := hs.sub g' b2 bs c lim hr hm
      refine ⟨p1, fun g2 h2 => ?_, p3⟩
      simp only [G'] at h2
      split at h2
      · cases h2
      · exact p2 g2 h2
    · intro i b2 hb2
      have := hnb.h
      have hi := (List.getElem?_eq_some_iff.1 hb2).1
      omega
  have hdata : Rep (enOf C G' gen w) v (.rowd l) := by
    rw [hx]
    refine .rowd b 0 l (fun j => cs[j]?.getD default) (fun j hj => ?_) (fun j x hx => ?_)
    · have hj' : j < cs.size := by rw [h3]; simpa using hj
      have e1 : cs[j]? = some cs[j] := by simp [hj']
      refine ⟨?_, hnot _⟩
      show cellAt w b (0 + j) = _
      rw [Nat.zero_add, cellAt_row hw, e1]; rfl
    · have hj' : j < cs.size := by rw [h3]; simpa using (List.getElem?_eq_some_iff.1 hx).1
      have e1 : cs[j]? = some cs[j] := by simp [hj']
      have := hrep (h5 j _ (.d x) e1 (by simp [hx])) rfl
      rw [e1]
      show RepD w _ cs[j] x
      generalize cs[j] = u at this
      cases this with | d hd => exact hd
  refine h tmps w ⟨G', ?_⟩
  have := hs'.set (d := s) (Nat.le_of_ble_eq_true hsn) hdata
  rwa [set_same hv] at this
end
end Go.Ab
namespace Go.Ab
theorem DoesB.nilA {P : Program} [Met P] {f : FuncId} {args args' : List A} {b0 b1 : List (List A)} {r : A} {m k : Nat} (h : DoesB P f args' b0 m r b1 k) (ha : args.map Ab.nilA = args') : DoesB P f args b0 m r b1 k := by
  subst ha
  exact ⟨h.ok, h.len, fun C G vals w hG hw hx hds hfp hs hsz hrep => h.calls C G vals w hG hw hx hds hfp hs (by simpa using hsz) (fun i u a hu ha => by
    rw [List.getElem?_map, Option.map_eq_some_iff] at ha
    obtain ⟨y, hy, rfl⟩ := ha
    exact (hrep i u y hu hy).nilA)⟩
end Go.Ab
namespace Go.Ab
open Go.RowKit Go.MapKept
theorem Rep.forgetG {E E' : En} {g : Nat} (hw : E.w = E'.w) (hc : ∀ b o u, cellAt E.w b o = some u → ¬ E.pv b o → cellAt E'.w b o = some u ∧ ¬ E'.pv b o) (hold : ∀ b, E.old b → E'.old b) (hb : ∀ g' b, g' ≠ g → E.box g' = some b → E'.box g' = some b) (ho : ∀ g' r, g' < E.gen → E'.own g' = some r → E.own g' = some r) (hg : E.gen ≤ E'.gen)
    {v : Value} {a : A} (h : Rep E v a) (ha : noG g a = true) : Rep E' v a := by
  have hne : ∀ {g'}, (!Nat.beq g' g) = true → g' ≠ g := fun h e => by subst e; simp at h
  have hc' : ∀ b o u, cellAt E.w b o = some u → ¬ E.pv b o → cellAt E.w b o = some u ∧ ¬ E'.pv b o := fun b o u h1 h2 => ⟨h1, (hc b o u h1 h2).2⟩
  induction h with
  | any x => exact .any x
  | d hd => exact .d (hd.mono hc)
  | ag vs l hs hd => exact .ag vs l hs (fun i u x h1 h2 => (hd i u x h1 h2).mono hc)
  | own x g' es hd hgg hr => exact .own x g' es (hd.mono hc) (Nat.lt_of_lt_of_le hgg hg) (fun r hr' => hr r (ho _ r hgg hr'))
  | agg vs l hs hone _ ih => exact .agg vs l hs hone (fun i u x hu hx => ih i u x hu hx (noGL_mem (by simpa [noG] using ha) x (List.mem_of_getElem? hx)))
  | tup vs l hs _ ih => exact .tup vs l hs (fun i u x hu hx => ih i u x hu hx (noGL_mem (by simpa [noG] using ha) x (List.mem_of_getElem? hx)))
  | rowd b off l u hcc hd => exact .rowd b off l u (fun j hj => hc _ _ _ (hcc j hj).1 (hcc j hj).2) (fun j x hx => (hd j x hx).mono hc)
  | row b off l u hcc _ ih => exact .row b off l u (fun j hj => ⟨by rw [← hw]; exact (hcc j hj).1, hold _ (hcc j hj).2.1, (hcc j hj).2.2⟩) (fun j x hx => ih j x hx (noGL_mem (by simpa [noG] using ha) x (List.mem_of_getElem? hx)))
  | ptr x g' off b hgg hb0 hp => exact .ptr x g' off b (Nat.lt_of_lt_of_le hgg hg) (hb g' b (hne (by simpa [noG] using ha)) hb0) hp
  | xs x g' es hgg h1 hx => exact .xs x g' es (Nat.lt_of_lt_of_le hgg hg) h1 (fun r hr' => hw ▸ (hx r (ho _ r hgg hr')).weak hc')
  | xp x g' i off l hgg h1 hx => exact .xp x g' i off l (Nat.lt_of_lt_of_le hgg hg) h1 (fun r hr' => hw ▸ (hx r (ho _ r hgg hr')).weak hc')
  | mp x g' es hgg h1 hx => exact .mp x g' es (Nat.lt_of_lt_of_le hgg hg) h1 (fun r hr' => hw ▸ (hx r (ho _ r hgg hr')).weak hc')
  | mq x g' es hgg h1 hx => exact .mq x g' es (Nat.lt_of_lt_of_le hgg hg) h1 (fun r hr' => hw ▸ (hx r (ho _ r hgg hr')).weak hc')
  | mo x g' es hole ob hgg h1 hx => exact .mo x g' es hole ob (Nat.lt_of_lt_of_le hgg hg) h1 (fun r hr' => hw ▸ (hx r (ho _ r hgg hr')).weak hc')
  | ni t x => exact .ni t x
  | fl x es hd hfl => exact .fl x es (hd.mono hc) hfl
  | bf x g' T s hgg h1 hx => exact .bf x g' T s (Nat.lt_of_lt_of_le hgg hg) h1 (fun r hr' => hw ▸ hx r (ho _ r hgg hr'))
  | np x g' T b hgg hb0 hT u hp => exact .np x g' T b (Nat.lt_of_lt_of_le hgg hg) (hb g' b (hne (by simpa [noG] using ha)) hb0) (hw ▸ hT) u hp
  | sb x g' n c b hgg hb0 hn hp => exact .sb x g' n c b (Nat.lt_of_lt_of_le hgg hg) (hb g' b (hne (by simpa [noG] using ha)) hb0) hn hp
  | fx x u g' es ou hx hgg hu hou => exact .fx x u g' es ou (hx.mono hc) (Nat.lt_of_lt_of_le hgg hg) (fun r hr' => hw ▸ (hu r (ho _ r hgg hr')).weak hc') hou
  | ol x u g1 E1 g' es hx hg1 hr1 hgg hu => exact .ol x u g1 E1 g' es (hx.mono hc) (Nat.lt_of_lt_of_le hg1 hg) (fun r hr' => hr1 r (ho _ r hg1 hr')) (Nat.lt_of_lt_of_le hgg hg) (fun r hr' => hw ▸ (hu r (ho _ r hgg hr')).weak hc')
  | ow x v g' es hd hgg hr => exact .ow x v g' es (hd.mono hc) (Nat.lt_of_lt_of_le hgg hg) (fun r hr' => hr r (ho _ r hgg hr'))
  | lk x g' n c b v hgg hb0 hn hp => exact .lk x g' n c b v (Nat.lt_of_lt_of_le hgg hg) (hb g' b (hne (by simpa [noG] using ha)) hb0) hn hp
  | clo f vs l hs _ ih => exact .clo f vs l hs (fun i u x hu hx => ih i u x hu hx (noGL_mem (by simpa [noG] using ha) x (List.mem_of_getElem? hx)))
  | bnd f vs l hs _ ih => exact .bnd f vs l hs (fun i u x hu hx => ih i u x hu hx (noGL_mem (by simpa [noG] using ha) x (List.mem_of_getElem? hx)))
section
variable {C : Ctx} {n : Nat} {G : Gh} {tmps : Array Value} {w : World}
variable {f : List (Nat × A)} {bx bx' : List (Nat × List A)} {lv : List Nat} {gen : Nat}
theorem SimG.rowBox (hs : SimG C n ⟨f, bx, lv, gen⟩ G tmps w) (hnb : C.bx = []) {g b : Nat} {l : List D} (hgb : G.box g = some b) (hb : look' bx g = some (l.map .d)) (hpos : 0 < l.length) (hbx : cutBg g [] bx = some bx') :
    ∃ G' cs T, w.heap[b]? = some (.cells cs T (0, 0)) ∧ cs.size = l.length ∧ OneC cs ∧ (∀ (j : Nat) (u : Value) (d : D), cs[j]? = some u → l[j]? = some d → RepD w (pvOf C G') u d) ∧ G'.own gen = some (.blk b 1 1 l.length 0) ∧ (∀ g', g' ≠ gen → G'.own g' = G.own g') ∧
      (∀ b' o, pvOf C G' b' o → pvOf C G b' o) ∧ SimG C n ⟨cutF g [] f, bx', gen :: lv, gen + 1⟩ G' tmps w := by
  obtain ⟨b0, cs, T', hgb0, hw, h3, h4, h5⟩ := hs.box _ _ hb
  rw [hgb] at hgb0
  cases hgb0
  simp only [List.length_map] at h3
  let own' : Nat → Option Row := fun g' => if g' = gen then some (.blk b 1 1 l.length 0) else G.own g'
  let G' : Gh := ⟨fun x => if x = g then none else G.box x, own'⟩
  have ublk : ∀ {g' c len cap sz pub}, own' g' = some (.blk c len cap sz pub) → (g' = gen ∧ c = b ∧ len = 1 ∧ cap = 1 ∧ sz = l.length ∧ pub = 0) ∨ (g' ≠ gen ∧ G.own g' = some (.blk c len cap sz pub)) := by
    intro g' c len cap sz pub hr
    simp only [own'] at hr
    split at hr
    · rename_i e
      simp only [Option.some.injEq, Row.blk.injEq] at hr
      exact .inl ⟨e, hr.1.symm, hr.2.1.symm, hr.2.2.1.symm, hr.2.2.2.1.symm, hr.2.2.2.2.symm⟩
    · rename_i e; exact .inr ⟨e, hr⟩
  have ump : ∀ {g' b2 bs2}, own' g' = some (.mp b2 bs2) → G.own g' = some (.mp b2 bs2) := by
    intro g' b2 bs2 hr
    simp only [own'] at hr
    split at hr
    · cases hr
    · exact hr
  have hpv : ∀ b' o, pvOf C G' b' o → pvOf C G b' o := by
    rintro b' o (hp | ⟨g', hp⟩ | ⟨g', len', cap', sz', pub', hp, hl'⟩ | ⟨g', b2, bs2, lim, hp, hm, hl'⟩)
    · exact .inl hp
    · simp only [G'] at hp
      split at hp
      · cases hp
      · exact .inr (.inl ⟨g', hp⟩)
    · rcases ublk hp with ⟨_, rfl, _⟩ | ⟨_, e⟩
      · exact .inr (.inl ⟨g, hgb⟩)
      · exact .inr (.inr (.inl ⟨g', len', cap', sz', pub', e, hl'⟩))
    · exact .inr (.inr (.inr ⟨g', b2, bs2, lim, ump hp, hm, hl'⟩))
  have hrep : ∀ {v : Value} {a : A}, Rep (enOf C G gen w) v a → noG g a = true → Rep (enOf C G' (gen + 1) w) v a := fun h ha =>
    Rep.forgetG (E := enOf C G gen w) (E' := enOf C G' (gen + 1) w) rfl (fun b o u hu hn => ⟨hu, fun hp => hn (hpv b o hp)⟩) (fun b h => h) (fun g' b hne hb => by show (if g' = g then none else G.box g') = some b; rw [if_neg hne]; exact hb)
      (fun g' r hg' hr => by
        have hr : own' g' = some r := hr
        have hg' : g' < gen := hg'
        simp only [own', if_neg (Nat.ne_of_lt hg')] at hr
        exact hr) (Nat.le_succ gen) h ha
  refine ⟨G', cs, T', hw, h3, h4, fun j u d hu hd => ?_, by simp [G', own'], fun g' hg' => by simp [G', own', hg'], hpv, ?_⟩
  · have := hrep (h5 j u (.d d) hu (by simp [hd])) rfl
    cases this with | d hd => exact hd
  · refine { size := hs.size, frame := ?_, box := ?_, gbox := ?_, inj := ?_, live := ?_, gown := ?_, row := ?_, mrow := ?_, sub := ?_, gcell := fun g' b2 hb2 => (by simp only [G'] at hb2; split at hb2 <;> first | (cases hb2; done) | exact hs.gcell g' b2 hb2), xold := hs.xold, kold := hs.kold, lent := ?_, fr := hs.fr }
    · intro t a ha
      obtain ⟨h1, h2, _⟩ := cutF_look ha
      obtain ⟨v, hv, hr⟩ := hs.frame t a h1
      exact ⟨v, hv, hrep hr h2⟩
    · intro g' cells hc
      obtain ⟨h1, h2, h6, _⟩ := cutB_look hbx hc
      obtain ⟨b2, cs2, T2, p1, p2, p3, p4, p5⟩ := hs.box g' cells h1
      exact ⟨b2, cs2, T2, by simp only [G']; rw [if_neg h6]; exact p1, p2, p3, p4, fun i u a hu ha => hrep (p5 i u a hu ha) (noGL_mem h2 a (List.mem_of_getElem? ha))⟩
    · intro g' b2 hb2
      simp only [G'] at hb2
      split at hb2
      · cases hb2
      · obtain ⟨q1, q2⟩ := hs.gbox g' b2 hb2
        exact ⟨Nat.lt_succ_of_lt q1, q2⟩
    · intro g1 g2 b2 h1 h2
      simp only [G'] at h1 h2
      split at h1
      · cases h1
      · split at h2
        · cases h2
        · exact hs.inj g1 g2 b2 h1 h2
    · intro g' hg'
      rcases List.mem_cons.1 hg' with rfl | hg'
      · exact ⟨_, by simp [G', own']; rfl⟩
      · obtain ⟨r, hr⟩ := hs.live g' hg'
        exact ⟨r, by simp only [G', own', if_neg (Nat.ne_of_lt (hs.gown g' r hr))]; exact hr⟩
    · intro g' r hr
      have hr : own' g' = some r := hr
      simp only [own'] at hr
      split at hr
      · simp only; omega
      · exact Nat.lt_succ_of_lt (hs.gown g' r hr)
    · intro g' b2 len cap sz pub hr
      rcases ublk hr with ⟨e, rfl, rfl, rfl, rfl, rfl⟩ | ⟨e, hr⟩
      · refine ⟨(hs.gbox g _ hgb).2.2, fun g2 h2 => ?_, fun g2 len2 cap2 sz2 pub2 h2 => ?_, cs, T', hw, by rw [h3]; simp, Nat.le_refl _, by simp [maxLen], hpos, by decide, Nat.zero_le _, h4⟩
        · simp only [G'] at h2
          split at h2
          · cases h2
          · rename_i e2; exact e2 (hs.inj _ _ _ h2 hgb)
        · rcases ublk h2 with ⟨e2, _⟩ | ⟨_, e2⟩
          · rw [e, e2]
          · exact absurd hgb ((hs.row _ _ _ _ _ _ e2).2.1 g)
      · obtain ⟨p1, p2, p3, p4⟩ := hs.row g' b2 len cap sz pub hr
        refine ⟨p1, fun g2 h2 => ?_, fun g2 len2 cap2 sz2 pub2 h2 => ?_, p4⟩
        · simp only [G'] at h2
          split at h2
          · cases h2
          · exact p2 g2 h2
        · rcases ublk h2 with ⟨_, rfl, _⟩ | ⟨_, e2⟩
          · exact absurd hgb (p2 g)
          · exact p3 _ _ _ _ _ e2
    · intro g' b2 bs hr
      obtain ⟨p1, p2, p3, p4⟩ := hs.mrow g' b2 bs (ump hr)
      refine ⟨p1, fun g2 h2 => ?_, fun g2 bs2 h2 => p3 g2 bs2 (ump h2), p4⟩
      simp only [G'] at h2
      split at h2
      · cases h2
      · exact p2 g2 h2
    · intro g' b2 bs c lim hr hm
      obtain ⟨p1, p2, p3, p4, p5⟩ := hs.sub g' b2 bs c lim (ump hr) hm
      refine ⟨p1, fun g2 h2 => ?_, fun g2 len cap sz pub h2 => ?_, fun g2 b3 bs3 lim2 h2 hm2 => p4 g2 b3 bs3 lim2 (ump h2) hm2, p5⟩
      · simp only [G'] at h2
        split at h2
        · cases h2
        · exact p2 g2 h2
      · rcases ublk h2 with ⟨_, rfl, _⟩ | ⟨_, e2⟩
        · exact p2 g hgb
        · exact p3 _ _ _ _ _ e2
    · intro i b2 hb2
      rw [hnb] at hb2
      simp at hb2
end
end Go.Ab
namespace Go.Ab
open Go.RowKit Go.MapKept
def qes {α : Type} (kf : α → Value) (l : List (α × Option (List D))) : List (Value × Option (List D)) := l.map fun p => (kf p.1, p.2)
theorem qes_at {α : Type} {kf : α → Value} {l : List (α × Option (List D))} {i : Nat} {k : Value} {o : Option (List D)} (h : (qes kf l)[i]? = some (k, o)) : ∃ a, l[i]? = some (a, o) ∧ k = kf a := by
  simp only [qes, List.getElem?_map, Option.map_eq_some_iff] at h
  obtain ⟨p, hp, e⟩ := h
  simp only [Prod.mk.injEq] at e
  exact ⟨p.1, by rw [← e.2]; exact hp, e.1.symm⟩
theorem qes_mem {α : Type} {kf : α → Value} {l : List (α × Option (List D))} {k : Value} {o : Option (List D)} (h : (k, o) ∈ qes kf l) : ∃ a, (a, o) ∈ l ∧ k = kf a := by
  obtain ⟨i, hi⟩ := List.mem_iff_getElem?.1 h
  obtain ⟨a, ha, e⟩ := qes_at hi
  exact ⟨a, List.mem_of_getElem? ha, e⟩
structure MqAt {α : Type} (w : World) (pv : Nat → Nat → Prop) (b : Nat) (bs : List (Nat × Nat)) (kf : α → Value) (l : List (α × Option (List D))) (me : Array MapEntry) (clock : Nat) (ps : Value → Nat) (l2 : List (α × Value)) : Prop where
  hb : w.heap[b]? = some (.map me clock)
  st : Stamped me clock
  mi : MeIs w pv kf D.v me l2
  ln : l2.length = l.length
  ks : ∀ (i : Nat) (p : α × Value) (q : α × Option (List D)), l2[i]? = some p → l[i]? = some q → p.1 = q.1
  inj : ∀ (a a' : α) (x x' : List D), (a, some x) ∈ l → (a', some x') ∈ l → ps (kf a) = ps (kf a') → kf a = kf a'
  at_ : ∀ (i : Nat) (m : MapEntry) (a : α) (x : List D), me[i]? = some m → l[i]? = some (a, some x) → m.val = .pointer (some ⟨ps (kf a), 0, none⟩) ∧ (ps (kf a), 0) ∈ bs ∧
    ∃ cur T, w.heap[ps (kf a)]? = some (.cells cur T (0, 0)) ∧ cur.size = x.length ∧ OneC cur ∧ ∀ (j : Nat) (u : Value) (d : D), cur[j]? = some u → x[j]? = some d → RepD w pv u d
theorem MqAt.of {α : Type} {kf : α → Value} {w : World} {pv : Nat → Nat → Prop} {b : Nat} {bs : List (Nat × Nat)} {v : Value} {l : List (α × Option (List D))} (h : RowQ w pv (.mp b bs) v (qes kf l)) : v = .map (some b) ∧ ∃ me clock ps l2, MqAt w pv b bs kf l me clock ps l2 := by
  obtain ⟨h1, me, clock, h2, h3, h4, ps, h5, h6⟩ := h
  have hsz : me.size = l.length := by rw [h4]; simp [qes]
  refine ⟨h1, me, clock, ps, (l.zip me.toList).map fun p => (p.1.1, p.2.val), h2, h3, ⟨by simp [hsz], fun i m p hm hp => ?_⟩, by simp [hsz], fun i p q hp hq => ?_, fun a a' x x' q1 q2 q3 => ?_, fun i m a x hm hx => ?_⟩
  · have hlt : i < l.length := by rw [← hsz]; exact (Array.getElem?_eq_some_iff.1 hm).1
    have hl : l[i]? = some l[i] := by simp [hlt]
    have hz : (l.zip me.toList)[i]? = some (l[i], m) := by rw [List.getElem?_zip_eq_some]; exact ⟨hl, by simpa using hm⟩
    rw [List.getElem?_map, hz] at hp
    simp only [Option.map_some, Option.some.injEq] at hp
    subst hp
    obtain ⟨q1, q2, q3, _⟩ := h6 i m (kf l[i].1) l[i].2 hm (by simp [qes, hl])
    exact ⟨q1, q2, .v _ q3⟩
  · rw [List.getElem?_map, Option.map_eq_some_iff] at hp
    obtain ⟨z, hz, rfl⟩ := hp
    rw [List.getElem?_zip_eq_some] at hz
    rw [hq] at hz
    exact congrArg Prod.fst (Option.some.inj hz.1).symm
  · exact h5 _ _ x x' (List.mem_map.2 ⟨_, q1, rfl⟩) (List.mem_map.2 ⟨_, q2, rfl⟩) q3
  · exact (h6 i m (kf a) (some x) hm (by simp [qes, hx])).2.2.2 x rfl
theorem MqAt.to {α : Type} {kf : α → Value} {w : World} {pv : Nat → Nat → Prop} {b : Nat} {bs : List (Nat × Nat)} {l : List (α × Option (List D))} {me : Array MapEntry} {clock : Nat} {ps : Value → Nat} {l2 : List (α × Value)} (h : MqAt w pv b bs kf l me clock ps l2) : RowQ w pv (.mp b bs) (.map (some b)) (qes kf l) := by
  refine ⟨rfl, me, clock, h.hb, h.st, by rw [h.mi.1, h.ln]; simp [qes], ps, fun k k' x x' q1 q2 q3 => ?_, fun i m k o hm hk => ?_⟩
  · obtain ⟨a, ha, rfl⟩ := qes_mem q1
    obtain ⟨a', ha', rfl⟩ := qes_mem q2
    exact h.inj a a' x x' ha ha' q3
  · obtain ⟨a, ha, rfl⟩ := qes_at hk
    have hlt : i < l2.length := by rw [h.ln]; exact (List.getElem?_eq_some_iff.1 ha).1
    have hl2 : l2[i]? = some l2[i] := by simp [hlt]
    obtain ⟨q1, q2, q3⟩ := h.mi.2 i m _ hm hl2
    have e := h.ks i _ _ hl2 ha
    rw [e] at q1 q2
    refine ⟨q1, q2, ?_, fun x hx => ?_⟩
    · generalize m.val = y at q3
      cases q3 with | v _ hok => exact hok
    · subst hx
      exact h.at_ i m a x hm ha
section
variable {P : Program} (T : Tab P) {C : Ctx} {n : Nat} {ops : Array Oper} {Q : Exit → St → Prop} {rest : List Oper}
variable {f f' : List (Nat × A)} {bx bx' : List (Nat × List A)} {lv : List Nat} {gen : Nat} {d : Nat} {ty : TypeId} {pos : String} {af : Array Edge} {dst : Option Nat} {c : Code}
variable {α : Type} [DecidableEq α] {kf : α → Value}
omit [DecidableEq α] in
theorem SimG.mqAt {st : St} {G : Gh} {tmps : Array Value} {w : World} (hs : SimG C n st G tmps w) {v : Value} {g : Nat} {l : List (α × Option (List D))} (hr : Rep (enOf C G st.gen w) v (.mq g (qes kf l))) (hgl : g ∈ st.lv) :
    ∃ b bs me clock ps l2, G.own g = some (.mp b bs) ∧ v = .map (some b) ∧ MqAt w (pvOf C G) b bs kf l me clock ps l2 := by
  obtain ⟨r, hgr⟩ := hs.live g hgl
  cases hr with
  | mq _ _ _ hgg h1 hrow =>
  have hx := hrow r hgr
  cases r with
  | nil => exact hx.elim
  | zero b => exact hx.elim
  | blk b len cap sz pub => exact hx.elim
  | mp b bs =>
    obtain ⟨h2, me, clock, ps, l2, h3⟩ := MqAt.of hx
    exact ⟨b, bs, me, clock, ps, l2, hgr, h2, h3⟩
theorem mkMapQ {t : TypeId} (hd : Nat.blt d n = true) (h : WO P C n ops Q rest ⟨(d, .mq gen []) :: f, bx, gen :: lv, gen + 1⟩) : WO P C n ops Q (⟨some d, .makeMap t none, ty, pos, af, none⟩ :: rest) ⟨f, bx, lv, gen⟩ := by
  refine WO.step (st := ⟨f, bx, lv, gen⟩) rfl fun tmps w ⟨G, hs⟩ => ?_
  obtain ⟨G', hs', hr⟩ := hs.newMap
  refine gives_value (v := .map (some w.heap.size)) (w' := w.alloc (.map #[] 0)) ?_ ⟨_, ⟨G', hs'.put (dst := some d) (dstOK_lt (dst := some d) hd) ?_⟩, h⟩
  · unfold execOp
    show Sem.run P _ w = .ok _ _
    simp [Instr.makeMap, Sem.run_bind, Result.andThen]
  · cases hr with
    | mp _ _ _ hgg h1 hrow =>
    refine .mq _ _ _ hgg h1 (fun r hr => ?_)
    have hx := hrow r hr
    cases r with
    | nil => exact hx.elim
    | zero b => exact hx.elim
    | blk b len cap sz pub => exact hx.elim
    | mp b bs =>
      obtain ⟨q1, me, clock, q2, q3, q4, _⟩ := hx
      exact ⟨q1, me, clock, q2, q3, q4, fun _ => 0, fun _ _ _ _ h => (by cases h), fun i m k x hm hk => (by simp at hk)⟩
open Classical in
theorem mapPutQ [hnb : NB C 0] (s : Nat) {mt k e : Nat} {td : TyD} {m kx x : Operand} {g gb : Nat} {l : List (α × Option (List D))} {a : α} {y : List D} (hm : av f m = some (.mq g (qes kf l))) (hl : look f s = some (.mq g (qes kf l))) (hk : av f kx = some (.d (.v (kf a)))) (hx : av f x = some (.ptr gb 0)) (hb : look' bx gb = some (y.map .d)) (hy : Nat.blt 0 y.length = true)
    (ht : look' T.l mt = some td) (htk : td.k = .map k e) (hkt : KeyT P k kf) (hgl : (lv.any fun h => Nat.beq h g) = true) (hsn : Nat.blt s n = true) (hn : (l.map (·.1)).Nodup) (hna : a ∉ l.map (·.1)) (hf : cutF gb [] f = f') (hbx : cutBg gb [] bx = some bx')
    {es' : List (Value × Option (List D))} (hes : qes kf (l ++ [(a, some y)]) = es') {lv' : List Nat} (hlv : (gen + 1) :: dropId lv g = lv')
    (h : WO P C n ops Q rest ⟨(s, .mq (gen + 1) es') :: f', bx', lv', gen + 2⟩) : WO P C n ops Q (⟨none, .mapUpdate mt m kx x, ty, pos, af, none⟩ :: rest) ⟨f, bx, lv, gen⟩ := by
  subst hes; subst hlv; subst hf
  refine WO.step (st := ⟨f, bx, lv, gen⟩) rfl fun tmps w ⟨G, hs⟩ => ?_
  have hbl : C.bx = [] := List.eq_nil_of_length_eq_zero hnb.h
  have hrm := hs.av hm
  have hrk := hs.av hk
  have hrx := hs.av hx
  obtain ⟨vs, hvs, hrs⟩ := hs.frame s _ hl
  generalize hv : Act.eval ⟨tmps, []⟩ m = v at hrm
  generalize hvk : Act.eval ⟨tmps, []⟩ kx = vk at hrk
  generalize hvx : Act.eval ⟨tmps, []⟩ x = vx at hrx
  obtain ⟨b, bs, me, clock, ps, l2, hgb, rfl, hmq⟩ := hs.mqAt hrm (memAny hgl)
  obtain ⟨b2, bs2, _, _, _, _, hgb2, rfl, _⟩ := hs.mqAt hrs (memAny hgl)
  obtain ⟨rfl, rfl⟩ : b2 = b ∧ bs2 = bs := by have := hgb2.symm.trans hgb; simpa using this
  cases hrk with | d hrk => cases hrk with | v _ hok =>
  cases hrx with
  | ptr _ _ _ c hgg hgc hvc =>
  have hgc : G.box gb = some c := hgc
  have hkeys : l2.map (·.1) = l.map (·.1) := by
    refine List.ext_getElem? fun i => ?_
    rw [List.getElem?_map, List.getElem?_map]
    rcases Nat.lt_or_ge i l2.length with hi | hi
    · have h1 : l2[i]? = some l2[i] := by simp [hi]
      have hi' : i < l.length := by rw [← hmq.ln]; exact hi
      have h2 : l[i]? = some l[i] := by simp [hi']
      rw [h1, h2]
      simp only [Option.map_some, hmq.ks i _ _ h1 h2]
    · rw [List.getElem?_eq_none hi, List.getElem?_eq_none (by rw [← hmq.ln]; exact hi)]
      rfl
  have hnew2 : ∀ p ∈ l2, p.1 ≠ a := fun p hp e => hna (by rw [← hkeys, ← e]; exact List.mem_map.2 ⟨p, hp, rfl⟩)
  obtain ⟨me', clock', hrun, hst', hmi', hwh⟩ := run_mapPutX (P := P) T (y := vx) (vf := D.v) ht htk hkt hmq.hb hmq.st hmq.mi (by rw [hkeys]; exact hn) a hok (v := vx) (.v _ (by rw [hvc]; rfl))
  have h0 : (execOp (Act.eval ⟨tmps, []⟩) ⟨none, .mapUpdate mt m kx x, ty, pos, af, none⟩).run P w = .ok .skip { w with heap := w.heap.setIfInBounds b2 (.map me' clock') } := by
    unfold execOp
    show Sem.run P _ w = .ok _ _
    simp only [hv, hvk, hvx, Sem.run_bind, hrun, Result.andThen_ok, Sem.run_pure]
  rw [mput_new hnew2] at hmi' hwh
  have hgl2 := hs.gown g _ hgb
  obtain ⟨G1, cs, T1, c1, c2, c3, c4, c5, c6, c7, hs1⟩ := hs.rowBox hbl hgc hb (Nat.le_of_ble_eq_true hy) hbx
  have hgb1 : G1.own g = some (.mp b2 bs2) := by rw [c6 g (Nat.ne_of_lt hgl2)]; exact hgb
  obtain ⟨G', hGb, ho1, hle, hs'⟩ := hs1.join (g := g) (g2 := gen) (bs' := (c, 0) :: bs2) hgb1 c5 (Ne.symm (Nat.ne_of_lt hgl2)) (fun p hp => by
    rcases List.mem_cons.1 hp with rfl | hp
    · exact .inr ⟨_, _, _, rfl⟩
    · exact .inl hp) me' clock' (dropId lv g) (fun g' hg' => by
    obtain ⟨t1, t2⟩ := dropId_mem hg'
    obtain ⟨r, hr⟩ := hs.live g' t1
    have := hs.gown g' r hr
    exact ⟨List.mem_cons_of_mem _ t1, t2, by simp only at this; omega⟩)
  obtain ⟨hnew, hoth⟩ := heap_set (o' := Obj.map me' clock') hmq.hb
  have hcells : ∀ {c : Nat} {cs : Array Value} {T : TypeId} {ff : Nat × Nat}, w.heap[c]? = some (.cells cs T ff) → (w.heap.setIfInBounds b2 (.map me' clock'))[c]? = some (.cells cs T ff) := fun {c cs T ff} hc => by
    rw [hoth c (fun e => by rw [e, hmq.hb] at hc; cases hc)]; exact hc
  have hle1 : ∀ {v : Value} {d : D}, RepD w (pvOf C G1) v d → RepD { w with heap := w.heap.setIfInBounds b2 (.map me' clock') } (pvOf C G') v d := fun hd => hd.mono fun b o u hu hp => hle.cell b o u hu hp
  have hle0 : ∀ {v : Value} {d : D}, RepD w (pvOf C G) v d → RepD { w with heap := w.heap.setIfInBounds b2 (.map me' clock') } (pvOf C G') v d := fun hd => hle1 (hd.mono fun b o u hu hp => ⟨hu, fun hp' => hp (c7 b o hp')⟩)
  have hnotc : ∀ lim, (c, lim) ∉ bs2 := fun lim hm => (hs.sub g b2 bs2 c lim hgb hm).2.1 gb hgc
  have hcl : ∀ (a' : α) (x' : List D), (a', some x') ∈ l → (ps (kf a'), 0) ∈ bs2 := fun a' x' hm => by
    obtain ⟨i, hi⟩ := List.mem_iff_getElem?.1 hm
    have hil : i < me.size := by rw [hmq.mi.1, hmq.ln]; exact (List.getElem?_eq_some_iff.1 hi).1
    exact (hmq.at_ i me[i] a' x' (by simp [hil]) hi).2.1
  have hne : ∀ (a' : α) (o : Option (List D)), (a', o) ∈ l → kf a' ≠ kf a := fun a' o hm e => hna (by rw [← hkt.inj _ _ e]; exact List.mem_map.2 ⟨_, hm, rfl⟩)
  have hmq' : MqAt { w with heap := w.heap.setIfInBounds b2 (.map me' clock') } (pvOf C G') b2 ((c, 0) :: bs2) kf (l ++ [(a, some y)]) me' clock' (fun k => if k = kf a then c else ps k) (l2 ++ [(a, vx)]) := by
    refine ⟨hnew, hst', ⟨hmi'.1, fun i m p hm hp => ?_⟩, by simp [hmq.ln], fun i p q hp hq => ?_, fun a1 a2 x1 x2 q1 q2 q3 => ?_, fun i mm a1 x1 hmm hp => ?_⟩
    · obtain ⟨q1, q2, q3⟩ := hmi'.2 i m p hm hp
      exact ⟨q1, q2, hle0 q3⟩
    · rcases Nat.lt_or_ge i l2.length with hi | hi
      · rw [List.getElem?_append_left hi] at hp
        rw [List.getElem?_append_left (by rw [← hmq.ln]; exact hi)] at hq
        exact hmq.ks i p q hp hq
      · rw [List.getElem?_append_right hi] at hp
        rw [List.getElem?_append_right (by rw [← hmq.ln]; exact hi), ← hmq.ln] at hq
        generalize i - l2.length = j at hp hq
        cases j with
        | zero =>
          simp only [List.getElem?_cons_zero, Option.some.injEq] at hp hq
          subst hp; subst hq; rfl
        | succ j => simp at hp
    · rcases List.mem_append.1 q1 with q1 | q1 <;> rcases List.mem_append.1 q2 with q2 | q2
      · rw [if_neg (hne _ _ q1), if_neg (hne _ _ q2)] at q3
        exact hmq.inj a1 a2 x1 x2 q1 q2 q3
      · simp only [List.mem_singleton, Prod.mk.injEq] at q2
        rw [if_neg (hne _ _ q1), q2.1, if_pos rfl] at q3
        exact absurd (q3 ▸ hcl a1 x1 q1) (hnotc 0)
      · simp only [List.mem_singleton, Prod.mk.injEq] at q1
        rw [if_neg (hne _ _ q2), q1.1, if_pos rfl] at q3
        exact absurd (q3 ▸ hcl a2 x2 q2) (hnotc 0)
      · simp only [List.mem_singleton, Prod.mk.injEq] at q1 q2
        rw [q1.1, q2.1]
    · rcases Nat.lt_or_ge i l.length with hi | hi
      · rw [List.getElem?_append_left hi] at hp
        have hi2 : i < l2.length := by rw [hmq.ln]; exact hi
        have hl2 : (l2 ++ [(a, vx)])[i]? = some l2[i] := by rw [List.getElem?_append_left hi2]; simp [hi2]
        have hk1 := hmq.ks i _ _ (by simp [hi2] : l2[i]? = some l2[i]) hp
        rcases hwh i mm _ hmm hl2 with ⟨e, _⟩ | ⟨_, m0, e1, e2, e3⟩
        · have hk2 : a1 = a := by rw [e] at hk1; exact hk1.symm
          exact absurd (List.mem_map.2 ⟨_, List.mem_of_getElem? hp, hk2⟩) hna
        · obtain ⟨r1, r2, cur, T2, r3, r4, r5, r6⟩ := hmq.at_ i m0 a1 x1 e1 hp
          rw [if_neg (hne _ _ (List.mem_of_getElem? hp))]
          exact ⟨e3 ▸ r1, List.mem_cons_of_mem _ r2, cur, T2, hcells r3, r4, r5, fun j u d hu hd => hle0 (r6 j u d hu hd)⟩
      · rw [List.getElem?_append_right hi] at hp
        have hi2 : l2.length ≤ i := by rw [hmq.ln]; exact hi
        have hii : i < (l2 ++ [(a, vx)]).length := by rw [← hmi'.1]; exact (Array.getElem?_eq_some_iff.1 hmm).1
        have e0 : i = l.length := by rw [List.length_append, hmq.ln] at hii; simp at hii; omega
        subst e0
        simp only [Nat.sub_self, List.getElem?_cons_zero, Option.some.injEq, Prod.mk.injEq] at hp
        obtain ⟨rfl, rfl⟩ := hp
        have hl2 : (l2 ++ [(a, vx)])[l.length]? = some (a, vx) := by rw [List.getElem?_append_right hi2, hmq.ln]; simp
        rw [if_pos rfl]
        refine ⟨?_, List.mem_cons_self, cs, T1, hcells c1, c2, c3, fun j u d hu hd => hle1 (c4 j u d hu hd)⟩
        rcases hwh _ mm _ hmm hl2 with ⟨_, e2⟩ | ⟨e, _⟩
        · rw [e2, hvc]
        · exact absurd rfl e
  refine gives_skip h0 ⟨_, ⟨G', ?_⟩, h⟩
  have := hs'.set (d := s) (Nat.le_of_ble_eq_true hsn) (v := .map (some b2)) (a := .mq (gen + 1) (qes kf (l ++ [(a, some y)]))) (.mq _ _ _ (by simp [enOf]) rfl (fun r hr => by
    have : G'.own (gen + 1) = some r := hr
    rw [ho1] at this
    cases this
    exact hmq'.to))
  rwa [set_same hvs] at this
end
end Go.Ab
namespace Go.Ab
open Go.RowKit Go.MapKept
theorem mget_pos {α β : Type} [DecidableEq α] {l : List (α × β)} {i : Nat} {a : α} {v : β} (hn : (l.map (·.1)).Nodup) (h : l[i]? = some (a, v)) : mget l a = some v := by
  induction l generalizing i with
  | nil => simp at h
  | cons p r ih =>
    rw [List.map_cons, List.nodup_cons] at hn
    rw [mget_cons]
    cases i with
    | zero =>
      simp only [List.getElem?_cons_zero, Option.some.injEq] at h
      subst h
      rw [if_pos rfl]
    | succ i =>
      simp only [List.getElem?_cons_succ] at h
      have : p.1 ≠ a := fun e => hn.1 (by rw [e]; exact List.mem_map.2 ⟨_, List.mem_of_getElem? h, rfl⟩)
      rw [if_neg this]
      exact ih hn.2 h
section
variable {P : Program} (T : Tab P) {C : Ctx} {n : Nat} {ops : Array Oper} {Q : Exit → St → Prop} {rest : List Oper}
variable {f f' : List (Nat × A)} {bx bx' : List (Nat × List A)} {lv : List Nat} {gen : Nat} {d : Nat} {ty : TypeId} {pos : String} {af : Array Edge} {dst : Option Nat} {c : Code}
variable {α : Type} [DecidableEq α] {kf : α → Value}
theorem mapTakeQ (s i : Nat) {mt k e : Nat} {td ed : TyD} {m kx : Operand} {g : Nat} {l : List (α × Option (List D))} {a : α} {y : List D} {zx : Value} (hd : Nat.blt d n = true) (hm : av f m = some (.mq g (qes kf l))) (hl : look f s = some (.mq g (qes kf l))) (hk : av f kx = some (.d (.v (kf a)))) (hy : Nat.blt 0 y.length = true)
    (ht : look' T.l mt = some td) (htk : td.k = .map k e) (he : look' T.l e = some ed) (hkt : KeyT P k kf) (hgl : (lv.any fun h => Nat.beq h g) = true) (hzc : ed.z = [zx]) (hzk : notSt ed.k = true) (hzo : okc zx = true) (hsn : Nat.blt s n = true) (hn : (l.map (·.1)).Nodup) (hi : l[i]? = some (a, some y))
    {es' : List (Value × Option (List D))} (hes : qes kf (l.set i (a, none)) = es') {lv' : List Nat} (hlv : gen :: dropId lv g = lv')
    (h : WO P C n ops Q rest ⟨(d, .tup [.ptr (gen + 2) 0, .d (.v (.bool true))]) :: (s, .mq gen es') :: f, (gen + 2, y.map .d) :: bx, lv', gen + 3⟩) : WO P C n ops Q (⟨some d, .lookup mt m kx true, ty, pos, af, none⟩ :: rest) ⟨f, bx, lv, gen⟩ := by
  subst hes; subst hlv
  refine WO.step (st := ⟨f, bx, lv, gen⟩) rfl fun tmps w ⟨G, hs⟩ => ?_
  have hrm := hs.av hm
  have hrk := hs.av hk
  obtain ⟨vs, hvs, hrs⟩ := hs.frame s _ hl
  generalize hv : Act.eval ⟨tmps, []⟩ m = v at hrm
  generalize hvk : Act.eval ⟨tmps, []⟩ kx = vk at hrk
  obtain ⟨b, bs, me, clock, ps, l2, hgb, rfl, hmq⟩ := hs.mqAt hrm (memAny hgl)
  obtain ⟨b2, bs2, _, _, _, _, hgb2, rfl, _⟩ := hs.mqAt hrs (memAny hgl)
  obtain ⟨rfl, rfl⟩ : b2 = b ∧ bs2 = bs := by have := hgb2.symm.trans hgb; simpa using this
  cases hrk with | d hrk => cases hrk with | v _ hok =>
  have hpos := Nat.le_of_ble_eq_true hy
  have hkeys : l2.map (·.1) = l.map (·.1) := by
    refine List.ext_getElem? fun i => ?_
    rw [List.getElem?_map, List.getElem?_map]
    rcases Nat.lt_or_ge i l2.length with hi | hi
    · have h1 : l2[i]? = some l2[i] := by simp [hi]
      have hi' : i < l.length := by rw [← hmq.ln]; exact hi
      have h2 : l[i]? = some l[i] := by simp [hi']
      rw [h1, h2]
      simp only [Option.map_some, hmq.ks i _ _ h1 h2]
    · rw [List.getElem?_eq_none hi, List.getElem?_eq_none (by rw [← hmq.ln]; exact hi)]
      rfl
  have hil := (List.getElem?_eq_some_iff.1 hi).1
  have hil2 : i < l2.length := by rw [hmq.ln]; exact hil
  have hime : i < me.size := by rw [hmq.mi.1]; exact hil2
  have hmei : me[i]? = some me[i] := by simp [hime]
  have hl2i : l2[i]? = some l2[i] := by simp [hil2]
  obtain ⟨r1, r2, cur, T1, r3, r4, r5, r6⟩ := hmq.at_ i me[i] a y hmei hi
  obtain ⟨q1, q2, q3⟩ := hmq.mi.2 i me[i] l2[i] hmei hl2i
  have hk1 : l2[i].1 = a := hmq.ks i _ _ hl2i hi
  have hval : l2[i].2 = .pointer (some ⟨ps (kf a), 0, none⟩) := by
    rw [← r1]
    generalize me[i].val = z at q3
    generalize l2[i].2 = z2 at q3
    cases q3; rfl
  have hget : mget l2 a = some (.pointer (some ⟨ps (kf a), 0, none⟩)) := mget_pos (i := i) (by rw [hkeys]; exact hn) (by rw [hl2i, ← hval, ← hk1])
  obtain ⟨u, h1, h2⟩ := run_mapGet (P := P) (vf := D.v) (z := zx) T ht htk he hkt hzc hzk (.v _ hzo) hmq.hb hmq.mi (by rw [hkeys]; exact hn) a true
  rw [hget] at h1 h2
  simp only [Option.getD_some] at h2
  have hu : u = .pointer (some ⟨ps (kf a), 0, none⟩) := by cases h2; rfl
  subst hu
  generalize hcc : ps (kf a) = c at *
  have h0 : (execOp (Act.eval ⟨tmps, []⟩) ⟨some d, .lookup mt m kx true, ty, pos, af, none⟩).run P w = .ok (.value (.tuple #[.pointer (some ⟨c, 0, none⟩), .bool true])) w := by
    unfold execOp
    show Sem.run P _ w = .ok _ _
    simp only [hv, hvk, Sem.run_bind, h1, Result.andThen_ok, Sem.run_pure]
    rfl
  obtain ⟨G1, hGb, ho1, ho2, hle, hs1⟩ := hs.split hgb (bs' := bs2.filter fun q => !Nat.beq q.1 c) (fun q hq => (List.mem_filter.1 hq).1) (.blk c 1 1 y.length 0) (fun _ _ h => by cases h) (fun c' len cap sz pub h => by
    simp only [Row.blk.injEq] at h
    obtain ⟨rfl, rfl, rfl, rfl, rfl⟩ := h
    exact ⟨r2, fun q hq e => by have := (List.mem_filter.1 hq).2; rw [e] at this; simp at this, cur, T1, r3, by rw [r4]; simp, Nat.le_refl _, by simp [maxLen], hpos, by decide, Nat.zero_le _, r5⟩) (dropId lv g) (fun g' hg' => dropId_mem hg')
  have hat : ∀ {a' : α} {x : List D}, (a', some x) ∈ l.set i (a, none) → (a', some x) ∈ l ∧ a' ≠ a := fun {a' x} hm => by
    obtain ⟨j, hj⟩ := List.mem_iff_getElem?.1 hm
    rw [List.getElem?_set] at hj
    split at hj
    · simp at hj
    · rename_i hne
      refine ⟨List.mem_of_getElem? hj, fun e => hne ?_⟩
      have hpw := List.pairwise_iff_getElem.1 hn
      have h6 : (l.map (·.1))[i]? = some a := by simp [hi]
      have h7 : (l.map (·.1))[j]? = some a := by simp [hj, e]
      obtain ⟨hj1, hj2⟩ := List.getElem?_eq_some_iff.1 h6
      obtain ⟨hi1, hi2⟩ := List.getElem?_eq_some_iff.1 h7
      rcases Nat.lt_trichotomy i j with hlt | heq | hgt
      · exact absurd (hj2.trans hi2.symm) (hpw i j hj1 hi1 hlt)
      · exact heq
      · exact absurd (hi2.trans hj2.symm) (hpw j i hi1 hj1 hgt)
  have hmq' : MqAt w (pvOf C G1) b2 (bs2.filter fun q => !Nat.beq q.1 c) kf (l.set i (a, none)) me clock ps l2 := by
    refine ⟨hmq.hb, hmq.st, hmq.mi.mono fun b o u hu hp => hle.cell b o u hu hp, by rw [hmq.ln]; simp, fun j p q hp hq => ?_, fun a1 a2 x1 x2 m1 m2 m3 => hmq.inj a1 a2 x1 x2 (hat m1).1 (hat m2).1 m3, fun j mm a1 x1 hmm hp => ?_⟩
    · rw [List.getElem?_set] at hq
      split at hq
      · rename_i e
        subst e
        simp only [Option.some.injEq] at hq
        subst hq
        rw [hl2i] at hp
        cases hp
        exact hk1
      · exact hmq.ks j p q hp hq
    · have hp' := hat (List.mem_of_getElem? hp)
      have hp2 : l[j]? = some (a1, some x1) := by
        rw [List.getElem?_set] at hp
        split at hp
        · simp at hp
        · exact hp
      obtain ⟨t1, t2, cur2, T2, t3, t4, t5, t6⟩ := hmq.at_ j mm a1 x1 hmm hp2
      refine ⟨t1, List.mem_filter.2 ⟨t2, ?_⟩, cur2, T2, t3, t4, t5, fun j u d hu hd => (t6 j u d hu hd).mono fun b o u hu hp => hle.cell b o u hu hp⟩
      cases hq : Nat.beq (ps (kf a1)) c with
      | false => rfl
      | true =>
        have e := Nat.eq_of_beq_eq_true hq
        exact absurd (hkt.inj _ _ (hmq.inj a1 a x1 y hp'.1 (List.mem_of_getElem? hi) (by rw [e, hcc]))) hp'.2
  have hs2 := hs1.set (d := s) (Nat.le_of_ble_eq_true hsn) (v := .map (some b2)) (a := .mq gen (qes kf (l.set i (a, none)))) (.mq _ _ _ (by simp [enOf]) rfl (fun r hr => by
    have : G1.own gen = some r := hr
    rw [ho1] at this
    cases this
    exact hmq'.to))
  rw [set_same hvs] at hs2
  have hlive1 : ∀ g' ∈ gen :: dropId lv g, g' ∈ gen :: (gen + 1) :: dropId lv g ∧ g' ≠ gen + 1 := fun g' hg' => by
    rcases List.mem_cons.1 hg' with rfl | hg'
    · exact ⟨List.mem_cons_self, by omega⟩
    · obtain ⟨t1, t2⟩ := dropId_mem hg'
      obtain ⟨r, hr⟩ := hs.live g' t1
      have := hs.gown g' r hr
      simp only at this
      exact ⟨List.mem_cons_of_mem _ (List.mem_cons_of_mem _ hg'), by omega⟩
  obtain ⟨G2, hs3, hr3⟩ := hs2.boxRow (g := gen + 1) (b := c) (len := 1) (cap := 1) (sz := y.length) ho2 (es := [y]) (v := .slice (some ⟨c, 0, none⟩) 1 1) ⟨rfl, rfl, rfl, by simp, fun i j e d he hd => by
    cases i with
    | zero =>
      simp only [List.getElem?_cons_zero, Option.some.injEq] at he
      subst he
      have hjl : j < cur.size := by rw [r4]; exact (List.getElem?_eq_some_iff.1 hd).1
      have hcj : cur[j]? = some cur[j] := by simp [hjl]
      refine ⟨cur[j], ?_, (r6 j _ d hcj hd).mono fun b o u hu hp => hle.cell b o u hu hp⟩
      rw [Nat.zero_mul, Nat.zero_add, cellAt_row r3, hcj]
    | succ i => simp at he⟩ (gen :: dropId lv g) hlive1
  have hbe : boxE [y] (1 * y.length - 1 * y.length) = y.map .d := by simp [boxE]
  rw [hbe] at hs3
  refine gives_value h0 ⟨_, ⟨G2, hs3.put (dst := some d) (dstOK_lt (dst := some d) hd) (.tup _ _ rfl (fun j u x hu hx => ?_))⟩, h⟩
  match j with
  | 0 =>
    simp at hu hx
    subst hu; subst hx
    cases hr3 with
    | sb _ _ _ _ b0 hgg hb0 hnn hp =>
    simp only [Value.slice.injEq, Option.some.injEq, Addr.mk.injEq] at hp
    refine .ptr _ _ _ c (by show gen + 2 < gen + 3; omega) ?_ rfl
    have hb0 : G2.box (gen + 2) = some b0 := hb0
    show G2.box (gen + 2) = some c
    rw [hb0, hp.1.1]
  | 1 => simp at hu hx; subst hu; subst hx; exact .d (.v _ rfl)
  | j + 2 => simp at hx
end
end Go.Ab
namespace Go.Tb
open Go.Ab
structure Thr where
  id : Int
  name : ByteArray
deriving DecidableEq
@[reducible] def Thr.c (t : Thr) : List D := [ci t.id, cs t.name, ci 0]
def domC (p : Int × Int) : List D := [ci p.1, ci p.2]
def dom0 : List (Int × Int) := [(0, 0)]
@[reducible] def hdC (ts : List Thr) : List D := [.sl (ts.map Thr.c), .sl (dom0.map domC), .sl []]
def OkT (ts : List Thr) : Prop := (∀ t ∈ ts, 0 ≤ t.id ∧ t.id ≤ 1000000000000000 ∧ nameErr t.name = 0) ∧ (ts.map Thr.id).Nodup
def headE (ts : List Thr) : Int := if ts = [] then 8 else if 64 < ts.length then 7 else 0
structure Pkt where
  thread : Int
  serial : Int
  lost : Int
  evs : List Ev
@[reducible] def Pkt.c (p : Pkt) : List D := [ci p.thread, ci p.serial, ci p.lost, .sl (p.evs.map Ev.c)]
theorem nodup_take {α β : Type} {f : α → β} {l : List α} (h : (l.map f).Nodup) (k : Nat) : ((l.take k).map f).Nodup := by
  rw [List.map_take]
  exact h.sublist (List.take_sublist _ _)
theorem nodup_at {α β : Type} {f : α → β} {l : List α} (h : (l.map f).Nodup) {k : Nat} {x : α} (hx : l[k]? = some x) : f x ∉ (l.take k).map f := by
  intro hm
  obtain ⟨y, hy, e⟩ := List.mem_map.1 hm
  obtain ⟨i, hi⟩ := List.mem_iff_getElem?.1 hy
  have hik : i < k := by
    have := (List.getElem?_eq_some_iff.1 hi).1
    simp at this
    omega
  rw [List.getElem?_take_of_lt hik] at hi
  have hpw := List.pairwise_iff_getElem.1 h
  have h6 : (l.map f)[i]? = some (f y) := by simp [hi]
  have h7 : (l.map f)[k]? = some (f x) := by simp [hx]
  obtain ⟨hj1, hj2⟩ := List.getElem?_eq_some_iff.1 h6
  obtain ⟨hi1, hi2⟩ := List.getElem?_eq_some_iff.1 h7
  exact hpw i k hj1 hi1 hik (by rw [hj2, hi2, e])
abbrev cbD (b : Bool) : D := .v (.bool b)
def seenM {α : Type} (l : List (α)) (f : α → Int) : List (Int × Bool) := l.map fun t => (f t, true)
theorem seenM_keys {α : Type} (l : List α) (f : α → Int) : (seenM l f).map (·.1) = l.map f := by unfold seenM; rw [List.map_map]; rfl
theorem seenM_get {α : Type} {f : α → Int} {l : List α} (h : (l.map f).Nodup) {k : Nat} {x : α} (hx : l[k]? = some x) : (mget (seenM (l.take k) f) (f x)).getD false = false := by
  rw [mget_new]; rfl
  intro p hp e
  have := nodup_at h hx
  rw [← seenM_keys] at this
  exact this (List.mem_map.2 ⟨p, hp, e⟩)
theorem seenM_put {α : Type} {f : α → Int} {l : List α} (h : (l.map f).Nodup) {k : Nat} {x : α} (hx : l[k]? = some x) : mput (seenM (l.take k) f) (f x) true = seenM (l.take (k + 1)) f := by
  rw [mput_new]
  · unfold seenM
    rw [List.take_add_one, hx, List.map_append]; rfl
  · intro p hp e
    have := nodup_at h hx
    rw [← seenM_keys] at this
    exact this (List.mem_map.2 ⟨p, hp, e⟩)
end Go.Tb
namespace Go.Tb
open Go.Ab
@[reducible] def z2 : List D := [ci 0, ci 0]
def tq (ids : List Int) (k : Nat) : List (Int × Option (List D)) := (ids.take k).map (fun a => (a, none)) ++ (ids.drop k).map (fun a => (a, some z2))
def tq0 (ids : List Int) (k : Nat) : List (Int × Option (List D)) := (ids.take k).map (fun a => (a, some z2))
theorem tq0_keys (ids : List Int) (k : Nat) : (tq0 ids k).map (·.1) = ids.take k := by unfold tq0; rw [List.map_map]; exact List.map_id _
theorem tq_keys (ids : List Int) (k : Nat) : (tq ids k).map (·.1) = ids := by
  unfold tq
  rw [List.map_append, List.map_map, List.map_map]
  show List.map id _ ++ List.map id _ = _
  rw [List.map_id, List.map_id, List.take_append_drop]
theorem tq0_step {ids : List Int} {k : Nat} {a : Int} (h : ids[k]? = some a) : tq0 ids k ++ [(a, some z2)] = tq0 ids (k + 1) := by
  unfold tq0
  rw [List.take_add_one, h, List.map_append]; rfl
theorem tq0_all {ids : List Int} {k : Nat} (h : k = ids.length) : tq0 ids k = tq ids 0 := by
  subst h
  unfold tq0 tq
  rw [List.take_length, List.take_zero, List.drop_zero]; rfl
theorem tq_get {ids : List Int} {k : Nat} {a : Int} (h : ids[k]? = some a) : (tq ids k)[k]? = some (a, some z2) := by
  have hk := (List.getElem?_eq_some_iff.1 h).1
  unfold tq
  rw [List.getElem?_append_right (by simp; omega)]
  have : k - ((ids.take k).map (fun a => (a, (none : Option (List D))))).length = 0 := by simp; omega
  rw [this, List.getElem?_map, List.getElem?_drop, Nat.add_zero, h]; rfl
theorem tq_set {ids : List Int} {k : Nat} {a : Int} (h : ids[k]? = some a) : (tq ids k).set k (a, none) = tq ids (k + 1) := by
  have hk := (List.getElem?_eq_some_iff.1 h).1
  have hd : ids.drop k = a :: ids.drop (k + 1) := by
    rw [List.drop_eq_getElem_cons hk]
    congr 1
    exact (List.getElem?_eq_some_iff.1 h).2
  unfold tq
  rw [List.set_append_right _ _ (by simp; omega)]
  have : k - ((ids.take k).map (fun a => (a, (none : Option (List D))))).length = 0 := by simp; omega
  rw [this, hd, List.take_add_one, h]
  simp
theorem nodup_at' {l : List Int} (h : l.Nodup) {k : Nat} {x : Int} (hx : l[k]? = some x) : x ∉ l.take k := by
  have := nodup_at (f := id) (by rw [List.map_id]; exact h) hx
  rwa [List.map_id] at this
end Go.Tb
namespace Go.Ab
open Go.RowKit
section
variable {P : Program} {C : Ctx} {n : Nat} {f : List (Nat × A)} {bx : List (Nat × List A)} {lv : List Nat} {gen : Nat} {ty : TypeId} {pos : String} {af : Array Edge} {dst : Option Nat}
theorem nilX {x : Operand} {g j off : Nat} {l : List D} (hx : av f x = some (.xp g j off l)) (hgl : (lv.any fun h => Nat.beq h g) = true) :
    Pu P C n ⟨f, bx, lv, gen⟩ ⟨dst, .nilCheck x, ty, pos, af, none⟩ (.xp g j off l) := by
  refine PuOK.pu fun G tmps w hs => ?_
  have hr := hs.av hx
  obtain ⟨r, hgr⟩ := hs.live g (memAny hgl)
  generalize hv : Act.eval ⟨tmps, []⟩ x = v at hr
  have hr0 := hr
  cases hr with
  | xp _ _ _ _ _ hgg h1 hrow =>
  have hx0 := hrow r hgr
  cases r with
  | nil => exact hx0.elim
  | zero b => exact hx0.elim
  | mp b bs => exact hx0.elim
  | blk b len cap sz pub =>
    obtain ⟨rfl, h2, h3, h4⟩ := hx0
    refine ⟨.pointer (some ⟨b, j * sz + off, none⟩), ?_, hr0⟩
    unfold execOp
    show Sem.run P _ w = .ok _ w
    simp only [hv, Sem.run_bind, Result.andThen_ok, Sem.run_pure]
end
end Go.Ab
namespace Go.Tb
open Go.Ab
def evJ (l : List Ev) : Nat → List Ev | 0 => l | _ => []
def clJ (l : List Ev) : Nat → D | 0 => .v (.slice none 0 0) | _ => .sl (l.map Ev.c)
def lateO (last : Option Int) (t : Int) : Bool := match last with | some u => decide (t < u) | none => false
def allE : List Ev → Option Int → Int
  | [], _ => 0
  | e :: r, last => if checkE e ≠ 0 then checkE e else if lateO last e.time = true then 11 else allE r (some e.time)
def checksE : List Pkt → Int
  | [] => 0
  | p :: r => if allE p.evs none ≠ 0 then allE p.evs none else checksE r
def OkP (ts : List Thr) (ps : List Pkt) : Prop := ps.map Pkt.thread = ts.map Thr.id ∧ (∀ p ∈ ps, p.serial = 0 ∧ p.lost = 0 ∧ 0 < p.evs.length ∧ p.evs.length ≤ 1000) ∧ (ps.map fun p => p.evs.length).sum ≤ 20000
structure LogR where
  ts : List Thr
  ds : List (Int × Int)
  ps : List Pkt
@[reducible] def LogR.c (l : LogR) : List D := [.sl (l.ts.map Thr.c), .sl (l.ds.map domC), .sl [], .sl (l.ps.map Pkt.c)]
def log0 : LogR := ⟨[], [], []⟩
end Go.Tb
namespace Go.Tb
open Go.Ab
theorem cutN_sum (s : ByteArray) (c : UInt8) : ((cutB s c).map ByteArray.size).sum + (cutB s c).length = s.size + 1 := by
  have key : ∀ l : List UInt8, ((cutL c l).map List.length).sum + (cutL c l).length = l.length + 1 := by
    intro l
    induction l with
    | nil => simp [cutL]
    | cons b r ih =>
      obtain ⟨h, t, e⟩ := cutL_cons c r
      simp only [cutL]
      split
      · simp only [List.map_cons, List.sum_cons, List.length_cons, List.length_nil]; omega
      · rw [e] at ih ⊢
        simp only [List.headD_cons, List.tail_cons, List.map_cons, List.sum_cons, List.length_cons] at ih ⊢
        omega
  have h1 := key s.data.toList
  have h2 : s.data.toList.length = s.size := Array.length_toList
  have h3 : (cutB s c).map ByteArray.size = (cutL c s.data.toList).map List.length := by
    unfold cutB
    rw [List.map_map]
    apply List.map_congr_left
    intro x _
    show (ofL x).size = x.length
    exact List.size_toArray
  rw [h3, ← h2, ← h1]
  unfold cutB
  rw [List.length_map]
def linesF : List ByteArray → Nat → List (Int × Ev) → Nat × List (Int × Ev)
  | [], _, acc => (0, acc)
  | w :: r, i, acc => if w = B #[] then linesF r (i + 1) acc else if (lineF w).e ≠ 0 then (i + 1, []) else linesF r (i + 1) (acc ++ lineE (lineF w))
def evsN : List ByteArray → Nat
  | [] => 0
  | w :: r => (if w = B #[] ∨ (lineF w).e ≠ 0 then 0 else (lineE (lineF w)).length) + evsN r
def thrT (id : Int) : Thr := ⟨id, B #[116] ++ numB id⟩
def pktT (p : Int × List Ev) : Pkt := ⟨p.1, 0, 0, p.2⟩
def ofF (ts : List Thr) (ps : List Pkt) : LogR × Int := if headE ts ≠ 0 then (log0, headE ts) else if checksE ps ≠ 0 then (log0, checksE ps) else (⟨ts, dom0, ps⟩, 0)
def logE (l : List (Int × Ev)) : LogR × Int := ofF ((addsF ([], []) l).1.map thrT) ((addsF ([], []) l).2.map pktT)
structure ImpR where
  l : LogR
  n : Nat
  e : Int
def impF (s : ByteArray) : ImpR :=
  if 65536 < s.size then ⟨log0, 0, 7⟩
  else if (linesF (cutB s 10) 0 []).1 ≠ 0 then ⟨log0, (linesF (cutB s 10) 0 []).1, 10⟩
  else ⟨(logE (linesF (cutB s 10) 0 []).2).1, 0, (logE (linesF (cutB s 10) 0 []).2).2⟩
/-! what a line that is accepted holds -/
def OkL (x : LineR) : Prop := (x.word = wkW ∧ x.l.length = 2) ∨ (x.word = swW ∧ x.l.length = 3) ∨ (x.word = blW ∧ x.l.length = 3)
theorem numsF_ok : ∀ (l : List ByteArray) (b : Bool), numsF l b = true → b = true ∧ ∀ w ∈ l, 0 ≤ nv w ∧ nv w ≤ 1000000000000000
  | [], b, h => ⟨h, by simp⟩
  | w :: r, b, h => by
    simp only [numsF] at h
    obtain ⟨h1, h2⟩ := numsF_ok r _ h
    simp only [Bool.and_eq_true] at h1
    refine ⟨h1.1, fun x hx => ?_⟩
    rcases List.mem_cons.1 hx with rfl | hx
    · have := h1.2
      unfold numF at this
      simp only [Bool.and_eq_true, decide_eq_true_eq] at this
      unfold nv numF
      exact ⟨this.1.2, this.2⟩
    · exact h2 x hx
theorem lineW_ok {w : List ByteArray} (h : (lineW w).e = 0) : ∃ a b k r, w = a :: b :: k :: r ∧ (r.length : Int) = cntF k ∧ cntF k ≠ 0 ∧ (∀ x ∈ r, 0 ≤ nv x ∧ nv x ≤ 1000000000000000) ∧ lineW w = ⟨(numF a 1000000000000).1, (numF b 63).1, k, r.map nv, 0⟩ := by
  match w, h with
  | [], h => cases h
  | [_], h => cases h
  | [_, _], h => cases h
  | a :: b :: k :: r, h =>
    simp only [lineW] at h
    split at h
    · cases h
    · rename_i h1
      split at h
      · cases h
      · rename_i h2
        refine ⟨a, b, k, r, rfl, Decidable.byContradiction fun q => h1 (.inr q), fun q => h1 (.inl q), ?_, ?_⟩
        · refine (numsF_ok r (numF a 1000000000000).2 ?_).2
          cases q : numsF r (numF a 1000000000000).2 with
          | true => rfl
          | false => exact absurd (.inl q) h2
        · simp only [lineW]
          rw [if_neg h1, if_neg h2]
theorem lineF_ok {s : ByteArray} (h : (lineF s).e = 0) : OkL (lineF s) ∧ (∀ x ∈ (lineF s).l, 0 ≤ x ∧ x ≤ 1000000000000000) ∧ 4 ≤ s.size := by
  obtain ⟨a, b, k, r, h1, h2, h3, h4, h5⟩ := lineW_ok (w := cutB s 32) h
  have h5 : lineF s = ⟨(numF a 1000000000000).1, (numF b 63).1, k, r.map nv, 0⟩ := h5
  rw [h5]
  have hk : (k = wkW ∧ r.length = 2) ∨ (k = swW ∧ r.length = 3) ∨ (k = blW ∧ r.length = 3) := by
    rcases cnt_val k with ⟨q, e⟩ | ⟨q, e⟩ | ⟨q, e⟩ | ⟨_, _, _, e⟩
    · exact .inr (.inl ⟨q, by omega⟩)
    · exact .inr (.inr ⟨q, by omega⟩)
    · exact .inl ⟨q, by omega⟩
    · exact absurd e h3
  refine ⟨?_, fun x hx => ?_, ?_⟩
  · simpa [OkL] using hk
  · obtain ⟨y, hy, rfl⟩ := List.mem_map.1 hx
    exact h4 y hy
  · have := cutN_sum s 32
    rw [h1] at this
    simp only [List.map_cons, List.sum_cons] at this
    simp only [List.length_cons] at this
    rcases hk with ⟨_, e⟩ | ⟨_, e⟩ | ⟨_, e⟩ <;> omega
theorem lineE_len (x : LineR) : (lineE x).length ≤ 2 := by
  unfold lineE
  split <;> simp
theorem lineE_ids {x : LineR} (h : OkL x) (h2 : ∀ y ∈ x.l, 0 ≤ y ∧ y ≤ 1000000000000000) : ∀ p ∈ lineE x, 0 ≤ p.1 ∧ p.1 ≤ 1000000000000000 := by
  have hg : ∀ i : Nat, 0 ≤ x.l[i]?.getD 0 ∧ x.l[i]?.getD 0 ≤ 1000000000000000 := fun i => by
    cases q : x.l[i]? with
    | none => simp
    | some y => exact h2 y (List.mem_of_getElem? q)
  intro p hp
  unfold lineE at hp
  split at hp
  · simp only [List.mem_singleton] at hp
    subst hp
    exact hg 0
  · simp only [List.mem_cons, List.not_mem_nil, or_false] at hp
    rcases hp with rfl | rfl
    · exact hg 0
    · exact hg 2
theorem evsN_size : ∀ l : List ByteArray, 5 * evsN l ≤ 2 * ((l.map ByteArray.size).sum + l.length)
  | [] => by simp [evsN]
  | w :: r => by
    have ih := evsN_size r
    simp only [evsN, List.map_cons, List.sum_cons, List.length_cons]
    split
    · omega
    · rename_i h
      have h4 := (lineF_ok (s := w) (Decidable.byContradiction fun q => h (.inr q))).2.2
      have := lineE_len (lineF w)
      omega
theorem evsN_le {s : ByteArray} (h : s.size ≤ 2000) : evsN (cutB s 10) ≤ 1000 := by
  have h1 := evsN_size (cutB s 10)
  rw [cutN_sum] at h1
  omega
theorem linesF_ok : ∀ (l : List ByteArray) (i : Nat) (acc : List (Int × Ev)), (∀ p ∈ acc, 0 ≤ p.1 ∧ p.1 ≤ 1000000000000000) →
    (∀ p ∈ (linesF l i acc).2, 0 ≤ p.1 ∧ p.1 ≤ 1000000000000000) ∧ (linesF l i acc).2.length ≤ acc.length + evsN l
  | [], i, acc, h => ⟨h, by simp [linesF, evsN]⟩
  | w :: r, i, acc, h => by
    simp only [linesF, evsN]
    split
    · rename_i q
      rw [if_pos (.inl q), Nat.zero_add]
      exact linesF_ok r _ acc h
    · rename_i q
      split
      · exact ⟨by simp, by simp⟩
      · rename_i q2
        have q2 : (lineF w).e = 0 := Decidable.byContradiction q2
        obtain ⟨h1, h2, _⟩ := lineF_ok q2
        rw [if_neg (by rintro (a | a); exact q a; exact a q2)]
        obtain ⟨t1, t2⟩ := linesF_ok r (i + 1) (acc ++ lineE (lineF w)) (fun p hp => (List.mem_append.1 hp).elim (h p) (lineE_ids h1 h2 p))
        refine ⟨t1, ?_⟩
        rw [List.length_append] at t2
        omega
/-! the events thread by thread -/
def KeyOk (x : InS) : Prop := x.2.map (·.1) = x.1 ∧ x.1.Nodup ∧ ∀ p ∈ x.2, p.2 ≠ []
theorem mput_mem {l : List (Int × List Ev)} {a : Int} {y : List Ev} {p : Int × List Ev} (hp : p ∈ mput l a y) : p = (a, y) ∨ p ∈ l := by
  induction l with
  | nil => simp [mput] at hp; exact .inl hp
  | cons q r ih =>
    simp only [mput] at hp
    split at hp
    · rcases List.mem_cons.1 hp with h | h
      · exact .inl h
      · exact .inr (List.mem_cons_of_mem _ h)
    · rcases List.mem_cons.1 hp with h | h
      · exact .inr (h ▸ List.mem_cons_self)
      · exact (ih h).imp id (List.mem_cons_of_mem _)
theorem mput_fst {l : List (Int × List Ev)} {a : Int} {y : List Ev} : (mput l a y).map (·.1) = if a ∈ l.map (·.1) then l.map (·.1) else l.map (·.1) ++ [a] := by
  induction l with
  | nil => simp [mput]
  | cons p r ih =>
    simp only [mput]
    by_cases h : p.1 = a
    · rw [if_pos h, if_pos (by simp [h])]
      simp [h]
    · rw [if_neg h, List.map_cons, ih]
      by_cases q : a ∈ r.map (·.1)
      · rw [if_pos q, if_pos (by rw [List.map_cons]; exact List.mem_cons_of_mem _ q)]; rfl
      · rw [if_neg q, if_neg (by rw [List.map_cons, List.mem_cons]; rintro (e | e); exact h e.symm; exact q e)]; rfl
theorem mget_empty {l : List (Int × List Ev)} (h : ∀ p ∈ l, p.2 ≠ []) (a : Int) : (mget l a).getD [] = [] ↔ a ∉ l.map (·.1) := by
  induction l with
  | nil => simp [mget_nil]
  | cons p r ih =>
    rw [mget_cons, List.map_cons, List.mem_cons]
    by_cases q : p.1 = a
    · rw [if_pos q]
      have := h p List.mem_cons_self
      simp [this, q]
    · rw [if_neg q, ih (fun p hp => h p (List.mem_cons_of_mem _ hp))]
      constructor
      · rintro h1 (e | e)
        · exact q e.symm
        · exact h1 e
      · exact fun h1 e => h1 (.inr e)
theorem KeyOk.add {x : InS} (h : KeyOk x) (th : Int) (e : Ev) : KeyOk (addF x th e) := by
  obtain ⟨h1, h2, h3⟩ := h
  unfold addF
  split
  · exact ⟨h1, h2, h3⟩
  · have hm := mget_empty h3 th
    refine ⟨?_, ?_, fun p hp => ?_⟩
    · simp only
      rw [mput_fst, h1]
      by_cases q : (mget x.2 th).getD [] = []
      · rw [if_neg (by rw [← h1]; exact hm.1 q), if_pos q]
      · rw [if_pos (Decidable.byContradiction fun q2 => q (hm.2 (by rw [h1]; exact q2))), if_neg q]
    · simp only
      split
      · rename_i q
        have := hm.1 q
        rw [h1] at this
        rw [List.nodup_append]
        exact ⟨h2, by simp, fun a ha b hb => by simp at hb; subst hb; rintro rfl; exact this ha⟩
      · exact h2
    · rcases mput_mem hp with rfl | hp
      · simp
      · exact h3 p hp
theorem KeyOk.adds : ∀ (l : List (Int × Ev)) {x : InS}, KeyOk x → KeyOk (addsF x l)
  | [], _, h => h
  | p :: r, _, h => KeyOk.adds r (h.add p.1 p.2)
theorem key0 : KeyOk ([], []) := ⟨rfl, List.nodup_nil, by simp⟩
def totN (m : List (Int × List Ev)) : Nat := (m.map fun p => p.2.length).sum
theorem totN_put : ∀ (m : List (Int × List Ev)) (a : Int) (e : Ev), totN (mput m a ((mget m a).getD [] ++ [e])) = totN m + 1
  | [], a, e => by simp [mput, totN, mget_nil]
  | p :: r, a, e => by
    have ih := totN_put r a e
    simp only [mput, mget_cons]
    by_cases h : p.1 = a
    · rw [if_pos h, if_pos h]
      simp only [totN, List.map_cons, List.sum_cons, Option.getD_some, List.length_append, List.length_singleton]
      omega
    · rw [if_neg h, if_neg h]
      simp only [totN, List.map_cons, List.sum_cons] at ih ⊢
      omega
theorem totN_add (x : InS) (th : Int) (e : Ev) : totN (addF x th e).2 ≤ totN x.2 + 1 := by
  unfold addF
  split
  · omega
  · simp only
    rw [totN_put]
    exact Nat.le_refl _
theorem totN_adds : ∀ (l : List (Int × Ev)) (x : InS), totN (addsF x l).2 ≤ totN x.2 + l.length
  | [], x => Nat.le_refl _
  | p :: r, x => by
    have h1 := totN_adds r (addF x p.1 p.2)
    have h2 := totN_add x p.1 p.2
    show totN (addsF (addF x p.1 p.2) r).2 ≤ _
    simp only [List.length_cons]
    omega
theorem totN_mem {m : List (Int × List Ev)} {p : Int × List Ev} (h : p ∈ m) : p.2.length ≤ totN m := by
  induction m with
  | nil => simp at h
  | cons q r ih =>
    simp only [totN, List.map_cons, List.sum_cons] at ih ⊢
    rcases List.mem_cons.1 h with rfl | h
    · omega
    · have := ih h
      omega
theorem totN_len {m : List (Int × List Ev)} (h : ∀ p ∈ m, p.2 ≠ []) : m.length ≤ totN m := by
  induction m with
  | nil => simp [totN]
  | cons q r ih =>
    have h1 := ih fun p hp => h p (List.mem_cons_of_mem _ hp)
    have h2 := List.length_pos_iff.2 (h q List.mem_cons_self)
    simp only [totN, List.map_cons, List.sum_cons, List.length_cons] at h1 ⊢
    omega
theorem addsF_app (x : InS) (a b : List (Int × Ev)) : addsF x (a ++ b) = addsF (addsF x a) b := List.foldl_append
theorem addsF_ids : ∀ (l : List (Int × Ev)) (x : InS), (∀ p ∈ l, 0 ≤ p.1 ∧ p.1 ≤ 1000000000000000) → (∀ a ∈ x.1, 0 ≤ a ∧ a ≤ 1000000000000000) → ∀ a ∈ (addsF x l).1, 0 ≤ a ∧ a ≤ 1000000000000000
  | [], _, _, h => h
  | p :: r, x, h1, h => by
    refine addsF_ids r (addF x p.1 p.2) (fun q hq => h1 q (List.mem_cons_of_mem _ hq)) fun a ha => ?_
    unfold addF at ha
    split at ha
    · exact h a ha
    · simp only at ha
      split at ha
      · rcases List.mem_append.1 ha with ha | ha
        · exact h a ha
        · simp only [List.mem_singleton] at ha
          subst ha
          exact h1 p List.mem_cons_self
      · exact h a ha
theorem OkIn.adds {x : InS} (h : KeyOk x) {n : Nat} (ht : totN x.2 ≤ n) : OkIn n x := by
  obtain ⟨h1, h2, h3⟩ := h
  refine ⟨by rw [h1]; exact h2, ?_, fun p hp => Nat.le_trans (totN_mem hp) ht⟩
  have := totN_len h3
  have e := congrArg List.length h1
  rw [List.length_map] at e
  omega
theorem name_T {id : Int} (h0 : 0 ≤ id) (h1 : id ≤ 1000000000000000) : nameErr (B #[116] ++ numB id) = 0 := by
  have hb : bys (B #[116] ++ numB id) = 116 :: digB id.toNat := by
    show (B #[116] ++ numB id).data.toList = _
    rw [ByteArray.data_append, Array.toList_append]
    show [116] ++ Lib.itoa id = _
    rw [numB_pos h0]; rfl
  have hsz : (B #[116] ++ numB id).size = (digB id.toNat).length + 1 := by
    have : (B #[116] ++ numB id).size = (bys (B #[116] ++ numB id)).length := Array.length_toList.symm
    rw [this, hb, List.length_cons]
  have hd := digB_len id.toNat 19 (by have : (10 : Nat) ^ (19 + 1) = 100000000000000000000 := by decide
                                      omega)
  unfold nameErr
  rw [if_neg]
  rintro (e | e | e)
  · rw [e] at hsz
    have h0 : (B #[]).size = 0 := rfl
    omega
  · omega
  · rw [hb, List.all_cons] at e
    have : (digB id.toNat).all letterB = true := List.all_eq_true.2 fun b hb => by
      have := digB_dig _ b hb
      unfold isDig at this
      simp only [Bool.and_eq_true, decide_eq_true_eq] at this
      unfold letterB
      simp [this]
    rw [this] at e
    exact absurd e (by decide)
theorem okT_of {x : InS} (h : KeyOk x) (h2 : ∀ a ∈ x.1, 0 ≤ a ∧ a ≤ 1000000000000000) : OkT (x.1.map thrT) := by
  refine ⟨fun t ht => ?_, ?_⟩
  · obtain ⟨a, ha, rfl⟩ := List.mem_map.1 ht
    exact ⟨(h2 a ha).1, (h2 a ha).2, name_T (h2 a ha).1 (h2 a ha).2⟩
  · rw [List.map_map]
    show (x.1.map id).Nodup
    rw [List.map_id]
    exact h.2.1
theorem okP_of {x : InS} (h : KeyOk x) (ht : totN x.2 ≤ 1000) : OkP (x.1.map thrT) (x.2.map pktT) := by
  refine ⟨?_, fun p hp => ?_, ?_⟩
  · rw [List.map_map, List.map_map]
    show x.2.map (·.1) = x.1.map id
    rw [List.map_id]
    exact h.1
  · obtain ⟨q, hq, rfl⟩ := List.mem_map.1 hp
    exact ⟨rfl, rfl, List.length_pos_iff.2 (h.2.2 q hq), Nat.le_trans (totN_mem hq) ht⟩
  · rw [List.map_map]
    show totN x.2 ≤ 20000
    omega
end Go.Tb
namespace Go.Ab
open Go.RowKit
section
variable {P : Program} [Met P] {C : Ctx} {n : Nat} {Q : Exit → St → Prop} {c : Code}
variable {f : List (Nat × A)} {bx : List (Nat × List A)} {lv lv' : List Nat} {gen gen' : Nat}
omit [Met P] in
theorem Wd.loopR {nb : Nat} [hnb : NB C nb] {ι : Type} (V : ι → List (Nat × A)) (fi : List (Nat × A)) (B : ι → List (Nat × List A)) (bi : List (Nat × List A)) (lv' : List Nat) (gen' : Nat) (μ : ι → Nat) (order : List Nat) (i : ι) (ho : orderB order gen' nb = true)
    (hf : SubR order f (V i)) (hfi : SubC f fi) (hb : SubBR order bx (B i)) (hbi : SubBC order bx bi) (hl : lvR order lv lv' = true)
    (hr : ∀ i, Wd P C n c (QLd C n (fun i => ⟨V i ++ fi, B i ++ bi, lv', gen'⟩) μ (μ i) Q) ⟨V i ++ fi, B i ++ bi, lv', gen'⟩) : Wd P C n (.loop c) Q ⟨f, bx, lv, gen⟩ :=
  Wd.conv (st' := ⟨V i ++ fi, B i ++ bi, lv', gen'⟩) (fun _ _ h => Sim.ren order ho hf hfi hb hbi hl h) (Wd.loop (fun i => ⟨V i ++ fi, B i ++ bi, lv', gen'⟩) μ hr i)
theorem Wd.endR {nb : Nat} [hnb : NB C nb] {ι : Type} {V : ι → List (Nat × A)} {fi : List (Nat × A)} {B : ι → List (Nat × List A)} {bi : List (Nat × List A)} {μ : ι → Nat} {m : Nat} (order : List Nat) (i : ι) (hm : μ i < m) (ho : orderB order gen' nb = true)
    (hf : SubR order f (V i)) (hfi : SubC f fi) (hb : SubBR order bx (B i)) (hbi : SubBC order bx bi) (hl : lvR order lv lv' = true) :
    QLd C n (fun i => ⟨V i ++ fi, B i ++ bi, lv', gen'⟩) μ m Q .normal ⟨f, bx, lv, gen⟩ := ⟨i, hm, fun _ _ h => Sim.ren order ho hf hfi hb hbi hl h⟩
variable {st : St} {y : Code} {id : Nat}
omit [Met P] in
theorem qnS (hno : noRowS st = true) (h : Wd P C n y Q st) : QN (QSd P C n y Q) .normal st := ⟨hno, h⟩
theorem qnQ (hno : noRowS st = true) (h : Q .normal st) : QN Q .normal st := ⟨hno, h⟩
theorem qnRet (hno : noRowS st = true) (h : Q .ret st) : QN Q .ret st := ⟨hno, h⟩
theorem qnExit (hno : noRowS st = true) (h : Q (.exit id) st) : QN Q (.exit id) st := ⟨hno, h⟩
omit [Met P] in
theorem qsd (h : Wd P C n y Q st) : QSd P C n y Q .normal st := h
omit [Met P] in
theorem qsdRet (h : Q .ret st) : QSd P C n y Q .ret st := h
omit [Met P] in
theorem qsdExit (h : Q (.exit id) st) : QSd P C n y Q (.exit id) st := h
theorem qldExit {ι : Type} {S : ι → St} {μ : ι → Nat} {m : Nat} (h : Q (.exit id) st) : QLd C n S μ m Q (.exit id) st := h
def VOk (f : List (Nat × A)) (bx : List (Nat × List A)) (gs os : List Nat) : List (Nat × A) → Prop
  | [] => True
  | (t, a') :: r => (∃ a, look f t = some a ∧ lendA bx gs os 5 a = a') ∧ VOk f bx gs os r
theorem VOk.look {gs os : List Nat} : ∀ {V : List (Nat × A)}, VOk f bx gs os V → ∀ t a', look V t = some a' → ∃ a, Ab.look f t = some a ∧ lendA bx gs os 5 a = a'
  | [], _, t, a', h => by simp [Ab.look] at h
  | (s, b) :: r, ⟨h1, h2⟩, t, a', h => by
    rw [look_cons] at h
    split at h
    · rename_i e
      subst e
      simp only [Option.some.injEq] at h
      subst h
      exact h1
    · exact VOk.look h2 t a' h
def BOk (bx : List (Nat × List A)) (o : List Nat) : Nat → List (List A) → Prop
  | _, [] => True
  | i, c :: r => (∃ c0, look' bx i = some c0 ∧ renL o c0 = c) ∧ BOk bx o (i + 1) r
theorem BOk.get {o : List Nat} : ∀ {b : List (List A)} {j : Nat}, BOk bx o j b → ∀ (i : Nat) (c : List A), b[i]? = some c → ∃ c0, look' bx (j + i) = some c0 ∧ renL o c0 = c
  | [], _, _, i, c, h => by simp at h
  | c1 :: r, j, ⟨h1, h2⟩, i, c, h => by
    cases i with
    | zero =>
      simp only [List.getElem?_cons_zero, Option.some.injEq] at h
      subst h
      exact h1
    | succ i =>
      simp only [List.getElem?_cons_succ] at h
      have := BOk.get h2 i c h
      rwa [show j + 1 + i = j + (i + 1) by omega] at this
theorem QR.mk' {b1 : List (List A)} {k : Nat} (order : List Nat) (hk : order.length = k) (hnd : nodupB (ordB b1.length order) = true) (hov : (order.all fun g => lv.any fun h => Nat.beq h g) = true)
    (hb : BOk bx (ordB b1.length order) 0 b1) : QR b1 k ⟨f, bx, lv, gen⟩ :=
  QR.mk order hk hnd hov fun i c h => by
    have := hb.get i c h
    rwa [Nat.zero_add] at this
end
end Go.Ab
namespace Go.Tb
open Go.Ab
def numQ (s : ByteArray) (most : Int) : Int :=
  if s = B #[] ∨ 16 < s.size ∨ (1 < s.size ∧ (bys s).head? = some 48) then -1
  else if (bys s).all isDig = false then -1
  else if most < (accD 0 (bys s) : Int) then -1 else (accD 0 (bys s) : Int)
theorem numQ_eq {s : ByteArray} {most : Int} (hm : most ≤ 1000000000000000) : numQ s most = if (numF s most).2 = true then (numF s most).1 else -1 := by
  have hp : (10 : Nat) ^ 16 = 10000000000000000 := by decide
  by_cases h : (numF s most).2 = true
  · rw [if_pos h]
    unfold numF at h ⊢
    simp only [Bool.and_eq_true, decide_eq_true_eq] at h
    obtain ⟨⟨h1, h2⟩, h3⟩ := h
    obtain ⟨hi, hs⟩ := numP_some (s := s) (v := (numP s).1) (by rw [← h1])
    generalize (numP s).1 = v at hs hi h2 h3 ⊢
    have hb : bys s = digB v.toNat := by rw [hs]; show Lib.itoa v = _; exact numB_pos h2
    have hl := digB_len v.toNat 15 (by omega)
    have hsz : s.size = (digB v.toNat).length := by rw [← hb]; exact Array.length_toList.symm
    have hacc : (accD 0 (bys s) : Int) = v := by rw [hb, accD_digB]; omega
    have hne : s ≠ B #[] := fun e => by
      rw [e] at hb
      exact digB_ne _ hb.symm
    have hlead : ¬ (1 < s.size ∧ (bys s).head? = some 48) := by
      rintro ⟨q1, q2⟩
      have hz : v.toNat = 0 := by
        rw [hb] at q2
        revert q2 
        generalize v.toNat = u
        refine digB_ind (p := fun u => (digB u).head? = some 48 → u = 0) (fun u h hz => ?_) (fun u h ih hz => ?_) u
        · rw [digB_small h] at hz
          simp only [List.head?_cons, Option.some.injEq] at hz
          have := dig_nat h
          rw [hz] at this
          have e : (48 : UInt8).toNat = 48 := rfl
          omega
        · rw [digB_big h] at hz
          have : (digB (u / 10)).head? = some 48 := by
            cases hd : digB (u / 10) with
            | nil => exact absurd hd (digB_ne _)
            | cons a r => rw [hd] at hz; exact hz
          have := ih this
          omega
      rw [hz, digB_small (by decide)] at hsz
      simp at hsz
      omega
    unfold numQ
    rw [if_neg (by rintro (q | q | q); exact hne q; omega; exact hlead q), if_neg, if_neg (by omega), hacc]
    rw [hb]
    have := List.all_eq_true.2 (digB_dig v.toNat)
    rw [this]
    decide
  · rw [if_neg h]
    unfold numQ
    split
    · rfl
    · rename_i h1
      split
      · rfl
      · rename_i h2
        split
        · rfl
        · rename_i h3
          exfalso
          apply h
          have hne : bys s ≠ [] := fun e => h1 (.inl (by
            have : s = ⟨(bys s).toArray⟩ := by cases s; rfl
            rw [this, e]))
          have hd : ∀ b ∈ bys s, isDig b = true := by
            have : (bys s).all isDig = true := by cases q : (bys s).all isDig with
              | true => rfl
              | false => exact absurd q h2
            exact List.all_eq_true.1 this
          have hbl : (bys s).length = s.size := Array.length_toList
          have hdig := (digB_acc _ (bys s) rfl hne hd (fun q e => h1 (.inr (.inr ⟨by omega, e⟩)))).1
          have hs : s = numB (accD 0 (bys s) : Int) := by
            show s = ⟨(Lib.itoa (accD 0 (bys s) : Int)).toArray⟩
            rw [numB_nat, hdig]
            cases s; rfl
          have hin : inR (accD 0 (bys s) : Int) = true := by
            simp only [inR, Bool.and_eq_true, decide_eq_true_eq]
            omega
          have hn : numP s = ((accD 0 (bys s) : Int), true) := by
            conv => lhs; rw [hs]
            exact numP_num hin
          unfold numF
          rw [hn]
          simp only [Bool.and_eq_true, decide_eq_true_eq, true_and]
          omega
theorem numQ_pos {s : ByteArray} {most : Int} (hm : most ≤ 1000000000000000) : decide (0 ≤ numQ s most) = (numF s most).2 := by
  rw [numQ_eq hm]
  cases h : (numF s most).2 with
  | true =>
    have : 0 ≤ (numF s most).1 := by
      unfold numF at h ⊢
      simp only [Bool.and_eq_true, decide_eq_true_eq] at h
      exact h.1.2
    simp [this]
  | false => simp
theorem numQ_val {s : ByteArray} {most : Int} (hm : most ≤ 1000000000000000) (h : (numF s most).2 = true) : numQ s most = (numF s most).1 := by rw [numQ_eq hm, if_pos h]
theorem numsF_all : ∀ (l : List ByteArray) (b : Bool), numsF l b = (b && l.all fun w => (numF w 1000000000000000).2)
  | [], b => by simp [numsF]
  | w :: r, b => by rw [numsF, numsF_all r, List.all_cons, Bool.and_assoc]
end Go.Tb
namespace Go.Tb
open Go.Ab
abbrev nq (w : ByteArray) : Int := numQ w 1000000000000000
abbrev okQ (w : ByteArray) : Bool := (numF w 1000000000000000).2
theorem nq_map : ∀ {r : List ByteArray}, r.all okQ = true → r.map nv = r.map nq
  | [], _ => rfl
  | w :: r, h => by
    rw [List.all_cons, Bool.and_eq_true] at h
    rw [List.map_cons, List.map_cons, nq_map h.2, show nq w = nv w from numQ_val (by decide) h.1]
theorem nq_all (r : List ByteArray) : (r.all fun w => decide (0 ≤ nq w)) = r.all okQ := by
  induction r with
  | nil => rfl
  | cons w r ih => rw [List.all_cons, List.all_cons, ih, show decide (0 ≤ nq w) = okQ w from numQ_pos (by decide)]
def lineQ (w : List ByteArray) : LineR :=
  match w with
  | a :: b :: k :: r =>
    if cntF k = 0 ∨ (r.length : Int) ≠ cntF k then badLine
    else if (decide (0 ≤ numQ a 1000000000000) && decide (0 ≤ numQ b 63) && r.all fun w => decide (0 ≤ nq w)) = true ∧ ¬ (k = swW ∧ ¬ ((r.map nq)[1]?.getD 0 ∈ [(0 : Int), 1, 3])) then ⟨numQ a 1000000000000, numQ b 63, k, r.map nq, 0⟩
    else badLine
  | _ => badLine
theorem lineW_Q (w : List ByteArray) : lineW w = lineQ w := by
  match w with
  | [] => rfl
  | [_] => rfl
  | [_, _] => rfl
  | a :: b :: k :: r =>
    simp only [lineW, lineQ]
    by_cases h1 : cntF k = 0 ∨ (r.length : Int) ≠ cntF k
    · rw [if_pos h1, if_pos h1]
    · rw [if_neg h1, if_neg h1, numQ_pos (by decide), numQ_pos (by decide), nq_all, numsF_all]
      cases ha : (numF a 1000000000000).2 with
      | false => rw [if_pos (.inl rfl), if_neg (by simp)]
      | true =>
        cases hb : (numF b 63).2 with
        | false => rw [if_pos (.inr (.inl rfl)), if_neg (by simp)]
        | true =>
          cases hr : r.all okQ with
          | false => rw [if_pos (.inl rfl), if_neg (by simp)]
          | true =>
            have hm : (r.map fun w => (numF w 1000000000000000).1) = r.map nq := nq_map hr
            rw [hm, numQ_val (by decide) ha, numQ_val (by decide) hb]
            by_cases hk : k = swW ∧ ¬ ((r.map nq)[1]?.getD 0 ∈ [(0 : Int), 1, 3])
            · rw [if_pos (.inr (.inr hk)), if_neg (fun h => h.2 hk)]
            · rw [if_neg, if_pos ⟨rfl, hk⟩]
              rintro (e | e | e)
              · cases e
              · cases e
              · exact hk e
theorem lineF_Q (s : ByteArray) : lineF s = lineQ (cutB s 32) := lineW_Q _
def linesQ : List ByteArray → Nat → List (Int × Ev) → Nat × List (Int × Ev)
  | [], _, acc => (0, acc)
  | w :: r, i, acc => if w = B #[] then linesQ r (i + 1) acc else if (lineQ (cutB w 32)).e ≠ 0 then (i + 1, []) else linesQ r (i + 1) (acc ++ lineE (lineQ (cutB w 32)))
theorem linesF_Q : ∀ (l : List ByteArray) (i : Nat) (acc : List (Int × Ev)), linesF l i acc = linesQ l i acc
  | [], _, _ => rfl
  | w :: r, i, acc => by
    simp only [linesF, linesQ]
    rw [linesF_Q r, linesF_Q r, lineF_Q]
abbrev live1 : ByteArray := B #[53, 32, 48, 32, 115, 119, 105, 116, 99, 104, 32, 48, 32, 48, 32, 55]
abbrev live2 : ByteArray := B #[53, 32, 48, 32, 119, 97, 107, 101, 32, 55, 32, 56]
abbrev live3 : ByteArray := B #[49, 32, 48, 32, 119, 97, 107, 101, 32, 55, 32, 56, 10, 10, 120]
theorem imp_live1 : impF live1 = ⟨⟨[thrT 7], dom0, [⟨7, 0, 0, [evR 5 0]⟩]⟩, 0, 0⟩ := by
  have h : linesF (cutB live1 10) 0 [] = (0, [(0, evS 5 0 0), (7, evR 5 0)]) := by rw [linesF_Q]; kernel_rfl
  unfold impF
  rw [if_neg (by decide), h]
  show (⟨(logE [(0, evS 5 0 0), (7, evR 5 0)]).1, 0, (logE [(0, evS 5 0 0), (7, evR 5 0)]).2⟩ : ImpR) = _
  have e : logE [(0, evS 5 0 0), (7, evR 5 0)] = (⟨[thrT 7], dom0, [⟨7, 0, 0, [evR 5 0]⟩]⟩, 0) := by kernel_rfl
  rw [e]
theorem line_live2 : lineF live2 = ⟨5, 0, wkW, [7, 8], 0⟩ := by rw [lineF_Q]; kernel_rfl
theorem imp_live3 : impF live3 = ⟨log0, 3, 10⟩ := by
  have h : linesF (cutB live3 10) 0 [] = (3, []) := by rw [linesF_Q]; kernel_rfl
  unfold impF
  rw [if_neg (by decide), h]; rfl
theorem name7 : (thrT 7).name = B #[116, 55] := by
  have : numB 7 = B #[55] := by
    show (⟨(Lib.itoa 7).toArray⟩ : ByteArray) = _
    rw [numB_pos (by decide), show (7 : Int).toNat = 7 from rfl, digB_small (by decide)]; rfl
  show B #[116] ++ numB 7 = _
  rw [this]; decide
end Go.Tb
namespace Go.Tb
open Go.Ab
end Go.Tb
namespace Go.Tb
open Go.Ab
theorem lines_shift : ∀ (l : List ByteArray) (i j : Nat) (acc : List (Int × Ev)), ((linesF l i acc).1 = 0 ↔ (linesF l j acc).1 = 0) ∧ (linesF l i acc).2 = (linesF l j acc).2
  | [], _, _, _ => by simp [linesF]
  | w :: r, i, j, acc => by
    simp only [linesF]
    split
    · exact lines_shift r _ _ acc
    · split
      · simp
      · exact lines_shift r _ _ _
theorem lines_blank : ∀ (a b : List ByteArray) (i j : Nat) (acc : List (Int × Ev)), ((linesF (a ++ b) i acc).1 = 0 ↔ (linesF (a ++ B #[] :: b) j acc).1 = 0) ∧ (linesF (a ++ b) i acc).2 = (linesF (a ++ B #[] :: b) j acc).2
  | [], b, i, j, acc => by
    simp only [List.nil_append]
    have h := lines_shift b i (j + 1) acc
    have e : linesF (B #[] :: b) j acc = linesF b (j + 1) acc := by simp only [linesF, if_true]
    rw [e]
    exact h
  | w :: r, b, i, j, acc => by
    simp only [List.cons_append, linesF]
    split
    · exact lines_blank r b _ _ acc
    · split
      · simp
      · exact lines_blank r b _ _ _
theorem cutL_app (c : UInt8) : ∀ (a b : List UInt8), cutL c (a ++ c :: b) = cutL c a ++ cutL c b
  | [], b => by
    simp [cutL]
  | x :: r, b => by
    have ih := cutL_app c r b
    simp only [List.cons_append, cutL]
    split
    · rw [ih]; rfl
    · obtain ⟨h, t, e⟩ := cutL_cons c r
      rw [ih, e]; rfl
theorem cutB_app (c : UInt8) (a b : ByteArray) : cutB (a ++ B #[c] ++ b) c = cutB a c ++ cutB b c := by
  unfold cutB
  rw [← List.map_append, ← cutL_app]
  congr 1
  simp
theorem imp_zero {s : ByteArray} (hs : s.size ≤ 65536) (h : (linesF (cutB s 10) 0 []).1 = 0) : impF s = ⟨(logE (linesF (cutB s 10) 0 []).2).1, 0, (logE (linesF (cutB s 10) 0 []).2).2⟩ := by
  unfold impF
  rw [if_neg (by omega), if_neg (by simpa using h)]
theorem imp_wrong {s : ByteArray} (hs : s.size ≤ 65536) (h : (linesF (cutB s 10) 0 []).1 ≠ 0) : impF s = ⟨log0, (linesF (cutB s 10) 0 []).1, 10⟩ := by
  unfold impF
  rw [if_neg (by omega), if_pos h]
theorem imp_blank {s t : ByteArray} {a b : List ByteArray} (h1 : s.size ≤ 65536) (h2 : t.size ≤ 65536) (ha : cutB s 10 = a ++ b) (hb : cutB t 10 = a ++ B #[] :: b) : (impF s).l = (impF t).l ∧ (impF s).e = (impF t).e := by
  obtain ⟨q1, q2⟩ := lines_blank a b 0 0 []
  rw [← ha, ← hb] at q1 q2
  by_cases hz : (linesF (cutB s 10) 0 []).1 = 0
  · rw [imp_zero h1 hz, imp_zero h2 (q1.1 hz), q2]
    exact ⟨rfl, rfl⟩
  · rw [imp_wrong h1 hz, imp_wrong h2 (fun e => hz (q1.2 e))]
    exact ⟨rfl, rfl⟩
theorem cut_end (s : ByteArray) : cutB (s ++ B #[10]) 10 = cutB s 10 ++ [B #[]] := by
  have h := cutB_app 10 s (B #[])
  have e : s ++ B #[10] ++ B #[] = s ++ B #[10] := by
    refine data_inj ?_
    simp
  rw [e] at h
  rw [h]; rfl
theorem cut_mid {s : ByteArray} {k : Nat} (h : (bys s)[k]? = some 10) : ∃ a b, cutB s 10 = a ++ b ∧ cutB (s.extract 0 k ++ B #[10] ++ s.extract k s.size) 10 = a ++ B #[] :: b := by
  have hlt : k < (bys s).length := (List.getElem?_eq_some_iff.1 h).1
  have hd : (bys s).drop k = 10 :: (bys s).drop (k + 1) := by
    rw [List.drop_eq_getElem_cons hlt, (List.getElem?_eq_some_iff.1 h).2]
  have h1 : bys s = (bys s).take k ++ 10 :: (bys s).drop (k + 1) := by rw [← hd, List.take_append_drop]
  refine ⟨(cutL 10 ((bys s).take k)).map ofL, (cutL 10 ((bys s).drop (k + 1))).map ofL, ?_, ?_⟩
  · show (cutL 10 (bys s)).map ofL = _
    rw [← List.map_append, ← cutL_app, ← h1]
  · have e1 : (s.extract 0 k).data.toList = (bys s).take k := by rw [ByteArray.data_extract, Array.toList_extract, List.extract_eq_take_drop]; simp [bys]
    have e2 : (s.extract k s.size).data.toList = (bys s).drop k := by
      rw [ByteArray.data_extract, Array.toList_extract, List.extract_eq_take_drop]
      have hz : s.size = (bys s).length := Array.length_toList.symm
      rw [hz]
      show ((bys s).drop k).take ((bys s).length - k) = _
      rw [List.take_of_length_le (by simp)]
    rw [cutB_app]
    unfold cutB
    rw [e1, e2, hd]
    congr 1
end Go.Tb
namespace Go.Tb
open Go.Ab
theorem ofF_err {ts : List Thr} {ps : List Pkt} (h : (ofF ts ps).2 ≠ 0) : (ofF ts ps).1 = log0 := by
  unfold ofF at h ⊢
  split
  · rfl
  · split
    · rfl
    · rename_i h1 h2
      rw [if_neg h1, if_neg h2] at h
      exact absurd rfl h
theorem ofF_ok {ts : List Thr} {ps : List Pkt} (h : (ofF ts ps).2 = 0) : (ofF ts ps).1 = ⟨ts, dom0, ps⟩ := by
  unfold ofF at h ⊢
  split
  · rename_i h1
    rw [if_pos h1] at h
    exact absurd h h1
  · rename_i h1
    rw [if_neg h1] at h
    split
    · rename_i h2
      rw [if_pos h2] at h
      exact absurd h h2
    · rfl
end Go.Tb
