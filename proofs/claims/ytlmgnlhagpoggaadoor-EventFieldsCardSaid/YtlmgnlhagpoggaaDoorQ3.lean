import Derived.Test.YtlmgnlhagpoggaaDoorQ2
/- Exclusive slices: named, grown, read, written, given up. -/
namespace Go.Ab
open Go.RowKit

/-- a list of cells in the place of others -/
theorem splice_get (cur : Array Value) (c : List Value) (p i : Nat) (h : p + c.length ≤ cur.size) :
    (cur.toList.take p ++ c ++ cur.toList.drop (p + c.length)).toArray[i]? = if p ≤ i ∧ i < p + c.length then c[i - p]? else cur[i]? := by
  have e1 : (cur.toList.take p).length = p := by simp; omega
  rw [List.getElem?_toArray]
  rcases Nat.lt_or_ge i p with hi | hi
  · rw [if_neg (by omega), List.append_assoc, List.getElem?_append_left (by omega), List.getElem?_take, if_pos hi]; simp
  · rcases Nat.lt_or_ge i (p + c.length) with hi2 | hi2
    · rw [if_pos ⟨hi, hi2⟩, List.append_assoc, List.getElem?_append_right (by omega), List.getElem?_append_left (by omega), e1]
    · rw [if_neg (by omega), List.append_assoc, List.getElem?_append_right (by omega), List.getElem?_append_right (by omega), List.getElem?_drop, e1]
      have : p + c.length + (i - p - c.length) = i := by omega
      rw [this]; simp

theorem splice_size (cur : Array Value) (c : List Value) (p : Nat) (h : p + c.length ≤ cur.size) : (cur.toList.take p ++ c ++ cur.toList.drop (p + c.length)).toArray.size = cur.size := by
  simp; omega

/-- an element's cells, some of them replaced -/
def putD (e : List D) (off : Nat) (cs : List D) : List D := e.take off ++ cs ++ e.drop (off + cs.length)
theorem putD_len {e cs : List D} {off : Nat} (h : off + cs.length ≤ e.length) : (putD e off cs).length = e.length := by simp [putD]; omega
theorem putD_get {e cs : List D} {off i : Nat} (h : off + cs.length ≤ e.length) : (putD e off cs)[i]? = if off ≤ i ∧ i < off + cs.length then cs[i - off]? else e[i]? := by
  have e1 : (e.take off).length = off := by simp; omega
  unfold putD
  rcases Nat.lt_or_ge i off with hi | hi
  · rw [if_neg (by omega), List.append_assoc, List.getElem?_append_left (by omega), List.getElem?_take, if_pos hi]
  · rcases Nat.lt_or_ge i (off + cs.length) with hi2 | hi2
    · rw [if_pos ⟨hi, hi2⟩, List.append_assoc, List.getElem?_append_right (by omega), List.getElem?_append_left (by omega), e1]
    · rw [if_neg (by omega), List.append_assoc, List.getElem?_append_right (by omega), List.getElem?_append_right (by omega), List.getElem?_drop, e1]
      have : off + cs.length + (i - off - cs.length) = i := by omega
      rw [this]

theorem set_same {tmps : Array Value} {d : Nat} {v : Value} (h : tmps[d]? = some v) : tmps.setIfInBounds d v = tmps := by
  apply Array.ext_getElem?
  intro i
  rw [Array.getElem?_setIfInBounds]
  split
  · rename_i e
    subst e
    split
    · exact h.symm
    · rename_i hlt; exact absurd (Array.getElem?_eq_some_iff.1 h).1 hlt
  · rfl

section
variable {C : Ctx} {n : Nat} {st : St} {G : Gh} {tmps : Array Value} {w : World}

theorem RowX.len (hs : SimG C n st G tmps w) {g : Nat} {r : Row} (hg : G.own g = some r) {pv : Nat → Nat → Prop} {v : Value} {es : List (List D)} (h : RowX w pv r v es) :
    ∃ a cap, v = .slice a es.length cap ∧ es.length ≤ cap ∧ es.length ≤ maxLen := by
  cases r with
  | nil => obtain ⟨rfl, rfl⟩ := h; exact ⟨none, 0, rfl, Nat.le_refl _, by simp⟩
  | zero b => obtain ⟨rfl, rfl⟩ := h; exact ⟨_, 0, rfl, Nat.le_refl _, by simp⟩
  | mp b => exact h.elim
  | blk b len cap sz pub =>
    obtain ⟨rfl, h2, _⟩ := h
    obtain ⟨_, _, _, _, _, _, _, h3, h4, _⟩ := hs.row g b len cap sz pub hg
    exact ⟨_, cap, by rw [h2], by omega, by omega⟩

/-- the row's elements become known to others -/
theorem SimG.publish (h : SimG C n st G tmps w) {g : Nat} {r : Row} (hg : G.own g = some r) {es : List (List D)} {v : Value} (hx : RowX w (pvOf C G) r v es) (lv : List Nat) (hlv : ∀ g' ∈ lv, g' ∈ st.lv ∧ g' ≠ g) :
    Grew false C n st G tmps lv es v w w := by
  cases r with
  | mp b => exact hx.elim
  | nil =>
    obtain ⟨rfl, rfl⟩ := hx
    exact h.renameRow (m := false) hg ⟨.nil, 0, by simp, rfl, rfl⟩ lv hlv
  | zero b =>
    obtain ⟨rfl, rfl⟩ := hx
    exact h.renameRow (m := false) hg ⟨.emp _ 0 (by simp), 0, by simp, rfl, rfl⟩ lv hlv
  | blk b len cap sz pub =>
    obtain ⟨rfl, hlen, rfl, hl, hr⟩ := hx
    obtain ⟨hmine, hnb, huniq, cur, T, hcur, hcs, hlc, hcm, hz, hpos, _⟩ := h.row g b len cap sz 0 hg
    let own' : Nat → Option Row := fun g' => if g' = st.gen then some (.blk b len cap sz (len * sz)) else if g' = g then none else G.own g'
    have hgl := h.gown g _ hg
    have hpv : ∀ b' o, pvOf C ⟨G.box, own'⟩ b' o → pvOf C G b' o := by
      rintro b' o (hp | hp | ⟨g', len', cap', sz', pub', hp, hl'⟩)
      · exact .inl hp
      · exact .inr (.inl hp)
      · simp only [own'] at hp
        split at hp
        · simp only [Option.some.injEq, Row.blk.injEq] at hp
          obtain ⟨rfl, rfl, rfl, rfl, rfl⟩ := hp
          exact .inr (.inr ⟨g, len, cap, sz, 0, hg, Nat.zero_le _⟩)
        · split at hp
          · cases hp
          · exact .inr (.inr ⟨g', len', cap', sz', pub', hp, hl'⟩)
    have hle : (enOf C G st.gen w).le (enOf C ⟨G.box, own'⟩ (st.gen + 1) w) := leOf h.fr h.fr (fun b o u hu hn => ⟨hu, fun hp => hn (hpv b o hp)⟩) (fun _ _ h => h)
      (fun g' r' hg' hr' => by
        simp only [own', if_neg (Nat.ne_of_lt hg')] at hr'
        split at hr'
        · cases hr'
        · exact hr') (Nat.le_succ _) (fun _ _ _ _ _ _ _ _ _ _ _ hu => hu) (fun _ _ _ _ => rfl)
    refine ⟨⟨⟨G.box, own'⟩, rfl, { size := h.size, frame := h.frame_mono hle, inj := h.inj, xold := h.xold, kold := h.kold, lent := h.lent, fr := h.fr, box := ?_, gbox := ?_, live := ?_, gown := ?_, row := ?_, mrow := ?_ }, ?_⟩⟩
    · intro g' cells hc
      obtain ⟨b, cs, T, h1, h2, h3, h4, h5⟩ := h.box g' cells hc
      exact ⟨b, cs, T, h1, h2, h3, h4, fun i u a hu ha => (h5 i u a hu ha).mono hle⟩
    · intro g' b hb
      obtain ⟨h1, h2⟩ := h.gbox g' b hb
      exact ⟨Nat.lt_succ_of_lt h1, h2⟩
    · intro g' hg'
      rcases List.mem_cons.1 hg' with rfl | hg'
      · exact ⟨_, by simp [own']; rfl⟩
      · obtain ⟨h1, h2⟩ := hlv g' hg'
        obtain ⟨r', hr'⟩ := h.live g' h1
        exact ⟨r', by simp only [own', if_neg (Nat.ne_of_lt (h.gown g' r' hr')), if_neg h2]; exact hr'⟩
    · intro g' r' hr'
      simp only [own'] at hr'
      split at hr'
      · simp only; omega
      · split at hr'
        · cases hr'
        · exact Nat.lt_succ_of_lt (h.gown g' r' hr')
    · intro g' b' len' cap' sz' pub' hr'
      simp only [own'] at hr'
      split at hr'
      · rename_i e
        simp only [Option.some.injEq, Row.blk.injEq] at hr'
        obtain ⟨rfl, rfl, rfl, rfl, rfl⟩ := hr'
        refine ⟨⟨hmine.1, fun o ho => absurd (hmine.2 o ho) (Nat.not_lt_zero _)⟩, hnb, fun g2 len2 cap2 sz2 pub2 h2 => ?_, cur, T, hcur, hcs, hlc, hcm, hz, hpos, Nat.le_refl _⟩
        simp only [own'] at h2
        split at h2
        · omega
        · split at h2
          · cases h2
          · rename_i e1 e2; exact absurd (huniq g2 len2 cap2 sz2 pub2 h2) e2
      · split at hr'
        · cases hr'
        · rename_i e1 e2
          obtain ⟨h4, h5, h6, h7⟩ := h.row g' b' len' cap' sz' pub' hr'
          have hne : b' ≠ b := fun e => by subst e; exact e2 (huniq g' len' cap' sz' pub' hr')
          refine ⟨h4, h5, fun g2 len2 cap2 sz2 pub2 h2 => ?_, h7⟩
          simp only [own'] at h2
          split at h2
          · simp only [Option.some.injEq, Row.blk.injEq] at h2; exact absurd h2.1.symm hne
          · split at h2
            · cases h2
            · exact h6 g2 len2 cap2 sz2 pub2 h2
    · intro g' b' hr'
      have un : ∀ g2, own' g2 = some (.mp b') → G.own g2 = some (.mp b') := by
        intro g2 h2
        simp only [own'] at h2
        split at h2
        · cases h2
        · split at h2
          · cases h2
          · exact h2
      obtain ⟨h4, h4b, h5, h6⟩ := h.mrow g' b' (un g' hr')
      exact ⟨h4, h4b, fun g2 h2 => h5 g2 (un g2 h2), h6⟩
    · subst hlen
      refine .own _ _ es (RepD.ofRow hcur hlc hcm hl (fun t ht hp => ?_) (fun i j e d hi hj => ?_)) (by simp [enOf]) (fun r' hr' => ?_)
      · rcases (hp : pvOf C ⟨G.box, own'⟩ b t) with hp | ⟨g', hp⟩ | ⟨g', len', cap', sz', pub', hp, hl'⟩
        · have := h.xold _ _ hp; rcases hmine.1 with hm | hm
          · omega
          · exact this.2 hm
        · exact hnb g' hp
        · simp only [own'] at hp
          split at hp
          · simp only [Option.some.injEq, Row.blk.injEq] at hp
            obtain ⟨_, rfl, rfl, rfl, rfl⟩ := hp
            omega
          · split at hp
            · cases hp
            · rename_i e1 e2; exact e2 (huniq g' len' cap' sz' pub' hp)
      · obtain ⟨u, h1, h2⟩ := hr i j e d hi hj
        rw [cellAt_row hcur] at h1
        exact ⟨u, h1, h2.mono hle.cell⟩
      · have hr2 : own' st.gen = some r' := hr'
        simp only [own', if_true, Option.some.injEq] at hr2
        subst hr2
        exact ⟨sz, hl, rfl, rfl, rfl, rfl⟩

/-- an element is written -/
theorem SimG.putX (h : SimG C n st G tmps w) {g b len cap sz : Nat} (hg : G.own g = some (.blk b len cap sz 0)) {es : List (List D)} {v : Value} (hx : RowX w (pvOf C G) (.blk b len cap sz 0) v es) {j off : Nat} {e cs : List D} (he : es[j]? = some e)
    {vc : Array Value} (hc : RepC (enOf C G st.gen w) vc (cs.map .d)) (hle : off + cs.length ≤ e.length) (lv : List Nat) (hlv : ∀ g' ∈ lv, g' ∈ st.lv ∧ g' ≠ g) :
    ∃ cur T, w.heap[b]? = some (.cells cur T (0, 0)) ∧ (j * sz + off) + vc.toList.length ≤ cur.size ∧
      Grew true C n st G tmps lv (es.set j (putD e off cs)) v w (w.setRow b (cur.toList.take (j * sz + off) ++ vc.toList ++ cur.toList.drop ((j * sz + off) + vc.toList.length)).toArray) := by
  obtain ⟨rfl, hlen, _, hl, hr⟩ := hx
  obtain ⟨hmine, hnb, huniq, cur, T, hcur, hcs, hlc, hcm, hz, hpos, _⟩ := h.row g b len cap sz 0 hg
  have hj : j < len := by rw [← hlen]; exact (List.getElem?_eq_some_iff.1 he).1
  have hel : e.length = sz := hl e (List.mem_of_getElem? he)
  have hvc : vc.toList.length = cs.length := by have := hc.1; simpa using this
  have hfit : (j * sz + off) + vc.toList.length ≤ cur.size := by
    rw [hvc, hcs]
    have h1 : (j + 1) * sz ≤ cap * sz := Nat.mul_le_mul_right _ (by omega)
    rw [Nat.succ_mul] at h1
    omega
  refine ⟨cur, T, hcur, hfit, ?_⟩
  have hlen' : (es.set j (putD e off cs)).length = len := by rw [List.length_set]; exact hlen
  have := h.growRow true (g := g) (b := b) (len := len) (cap := cap) (sz := sz) (es := es.set j (putD e off cs)) (by simpa [pubOf] using hg) hcur (splice_size cur vc.toList _ hfit) (fun t ht => by simp [pubOf] at ht) (by omega) (by omega) (fun x hx => ?_) (fun i k x d hi hk => ?_) lv hlv
  · rw [hlen'] at this
    exact this
  · rcases List.mem_or_eq_of_mem_set hx with hx | rfl
    · exact hl x hx
    · rw [putD_len hle]; exact hel
  · rw [List.getElem?_set] at hi
    have hcell : ∀ i k u, cellAt w b (i * sz + k) = some u → cur[i * sz + k]? = some u := fun i k u hu => by rw [cellAt_row hcur] at hu; exact hu
    by_cases hij : j = i
    · subst hij
      rw [if_pos rfl, if_pos (by omega)] at hi
      simp only [Option.some.injEq] at hi
      subst hi
      rw [putD_get hle] at hk
      rw [splice_get cur vc.toList _ _ hfit, hvc]
      by_cases hin : off ≤ k ∧ k < off + cs.length
      · rw [if_pos hin] at hk
        rw [if_pos (by omega)]
        have e1 : j * sz + k - (j * sz + off) = k - off := by omega
        rw [e1]
        have hlt : k - off < vc.size := by have := (List.getElem?_eq_some_iff.1 hk).1; simp at hvc; omega
        have hu : vc[k - off]? = some vc[k - off] := by simp [hlt]
        have h3 := hc.2.2 (k - off) _ (.d d) hu (by rw [List.getElem?_map, hk]; rfl)
        revert h3 hu
        generalize vc[k - off] = u
        intro hu h3
        cases h3 with
        | d h3 => exact ⟨_, by rw [Array.getElem?_toList]; exact hu, h3⟩
      · rw [if_neg hin] at hk
        rw [if_neg (by omega)]
        obtain ⟨u, h1, h2⟩ := hr j k e d he hk
        exact ⟨u, hcell j k u h1, h2⟩
    · rw [if_neg hij] at hi
      obtain ⟨u, h1, h2⟩ := hr i k x d hi hk
      have hil : i < len := by rw [← hlen]; exact (List.getElem?_eq_some_iff.1 hi).1
      have hkl : k < sz := by rw [← hl x (List.mem_of_getElem? hi)]; exact (List.getElem?_eq_some_iff.1 hk).1
      rw [splice_get cur vc.toList _ _ hfit, hvc, if_neg]
      · exact ⟨u, hcell i k u h1, h2⟩
      · rintro ⟨h3, h4⟩
        rcases Nat.lt_or_gt_of_ne hij with hlt | hgt
        · have : (j + 1) * sz ≤ i * sz := Nat.mul_le_mul_right _ hlt
          rw [Nat.succ_mul] at this
          omega
        · have : (i + 1) * sz ≤ j * sz := Nat.mul_le_mul_right _ hgt
          rw [Nat.succ_mul] at this
          omega
end

section
variable {P : Program} (T : Tab P) {C : Ctx} {n : Nat} {tmps : Array Value} {w : World} {G : Gh} {ops : Array Oper} {Q : Exit → St → Prop} {st : St} {o : Oper} {rest : List Oper}

theorem WO.appendX (hg : o.guard = none) (hd : dstOK n o.dst = true) {x y : Operand} {t e : Nat} {td ed : TyD} (ho : o.op = .call ⟨.builtin .append, #[x, y], #[t, t]⟩) (ht : look' T.l t = some td) (hk : td.k = .slice e) (he : look' T.l e = some ed)
    {g : Nat} {es es2 : List (List D)} (hx : av st.f x = some (.xs g es)) (hgl : g ∈ st.lv) {b : A} (hy : av st.f y = some b) (hb2 : slOf b = some es2) (hz : Nat.blt 0 ed.n = true) (hb0 : Nat.blt 0 ed.b = true)
    (hl : ∀ (x : List D), x ∈ es ++ es2 → x.length = ed.n) (hb : (es.length + es2.length) * ed.b ≤ 140737488355328)
    (h : WO P C n ops Q rest (St.put { st with lv := st.gen :: dropId st.lv g, gen := st.gen + 1 } o.dst (.xs st.gen (es ++ es2)))) : WO P C n ops Q (o :: rest) st := by
  refine WO.step hg fun tmps w ⟨G, hs⟩ => ?_
  have hr := hs.av hx
  have hr2 := slOf_rep hb2 (hs.av hy)
  obtain ⟨r, hgr⟩ := hs.live g hgl
  generalize hv : Act.eval ⟨tmps, []⟩ x = v at hr
  cases hr with
  | xs _ _ _ hgg h1 hrow =>
  have hx0 := hrow r hgr
  obtain ⟨a, cap, h2, h3, _⟩ := RowX.len hs hgr hx0
  obtain ⟨v', w', hrun, ⟨G', _, hs', hv'⟩⟩ := append_core T true hs ht hk he ⟨a, cap, h2, h3⟩ hr2 (.own g r hgr ⟨h1, hx0⟩) hl (Nat.le_of_ble_eq_true hz) (Nat.le_of_ble_eq_true hb0) hb o.type
  rw [← hv] at hrun
  exact gives_value (exec_append ho hrun) ⟨_, ⟨G', hs'.put (dstOK_lt hd) hv'⟩, h⟩

/-- a nil slice, taken for an exclusive one -/
theorem W.xsNil {c : Code} {d : Nat} (hl : look st.f d = some (.d (.v (.slice none 0 0)))) (hd : Nat.blt d n = true) (h : W P C n c Q (St.set { st with lv := st.gen :: st.lv, gen := st.gen + 1 } d (.xs st.gen []))) : W P C n c Q st := by
  intro tmps w ⟨G, hs⟩
  obtain ⟨v, hv, hr⟩ := hs.frame _ _ hl
  cases hr with | d hr => cases hr with | v _ _ =>
  obtain ⟨⟨G', _, hs', hv'⟩⟩ := hs.nameNil true st.lv (fun _ h => h)
  refine h tmps w ⟨G', ?_⟩
  have := hs'.set (d := d) (Nat.le_of_ble_eq_true hd) hv'
  rwa [set_same hv] at this

/-- an exclusive slice is given up: what it holds may be known to others from now on -/
theorem W.freeze {c : Code} {d g : Nat} {es : List (List D)} (hl : look st.f d = some (.xs g es)) (hgl : g ∈ st.lv) (hd : Nat.blt d n = true)
    (h : W P C n c Q (St.set { st with lv := st.gen :: dropId st.lv g, gen := st.gen + 1 } d (.own st.gen es))) : W P C n c Q st := by
  intro tmps w ⟨G, hs⟩
  obtain ⟨v, hv, hr⟩ := hs.frame _ _ hl
  obtain ⟨r, hgr⟩ := hs.live g hgl
  cases hr with
  | xs _ _ _ hgg h1 hrow =>
  obtain ⟨⟨G', _, hs', hv'⟩⟩ := hs.publish hgr (hrow r hgr) (dropId st.lv g) (fun g' hg' => dropId_mem hg')
  refine h tmps w ⟨G', ?_⟩
  have := hs'.set (d := d) (Nat.le_of_ble_eq_true hd) hv'
  rwa [set_same hv] at this

theorem Pu.lenX {x : Operand} {t e : Nat} {td : TyD} (ho : o.op = .call ⟨.builtin .len, #[x], #[t]⟩) (ht : look' T.l t = some td) (hk : td.k = .slice e) {g : Nat} {es : List (List D)} (hx : av st.f x = some (.xs g es)) (hgl : g ∈ st.lv) :
    Pu P C n st o (.d (.v (.int .i64 es.length))) := by
  refine PuOK.pu fun G tmps w hs => ?_
  have hr := hs.av hx
  obtain ⟨r, hgr⟩ := hs.live g hgl
  generalize hv : Act.eval ⟨tmps, []⟩ x = v at hr
  cases hr with
  | xs _ _ _ hgg h1 hrow =>
  obtain ⟨a, cap, h2, _, hlen⟩ := RowX.len hs hgr (hrow r hgr)
  refine ⟨.int .i64 es.length, ?_, .d (.v _ ?_)⟩
  · unfold execOp
    rw [ho]
    show Sem.run P (do let d ← resolve (Act.eval ⟨tmps, []⟩) ⟨.builtin .len, #[x], #[t]⟩ o.type; invoke d.target d.args) w = _
    simp only [resolve, List.map_toArray, List.map_cons, List.map_nil, hv, h2, Sem.run_bind, Sem.run_pure, Result.andThen_ok, invoke, builtin, Builtin.len_]
    simp [run_underlying (T.u_slice ht hk), goInt]
    rfl
  · simp only [maxLen] at hlen
    simp [okc, IntKind.min, IntKind.max, IntKind.signed, IntKind.bits]
    omega

theorem Pu.indexX {t e : Nat} {x ix : Operand} (ho : o.op = .indexAddr t x ix) {td ed : TyD} (ht : look' T.l t = some td) (hk : td.k = .slice e) (he : look' T.l e = some ed) {g : Nat} {es : List (List D)} (hx : av st.f x = some (.xs g es)) (hgl : g ∈ st.lv)
    {k : IntKind} {i : Int} (hi : av st.f ix = some (.d (.v (.int k i)))) (h0 : 0 ≤ i) {l : List D} (hl : es[i.toNat]? = some l) (hlen : l.length = ed.n) : Pu P C n st o (.xp g i.toNat 0 l) := by
  refine PuOK.pu fun G tmps w hs => ?_
  have hu := T.u_slice ht hk
  have hrx := hs.av hx
  have hri := hs.av hi
  obtain ⟨r, hgr⟩ := hs.live g hgl
  generalize hvi : Act.eval ⟨tmps, []⟩ ix = vi at hri
  cases hri with | d hri => cases hri with | v _ _ =>
  have hlt : i.toNat < es.length := (List.getElem?_eq_some_iff.1 hl).1
  generalize hvx : Act.eval ⟨tmps, []⟩ x = vx at hrx
  cases hrx with
  | xs _ _ _ hgg h1 hrow =>
  have hx0 := hrow r hgr
  cases r with
  | nil => obtain ⟨_, h2⟩ := hx0; rw [h2] at hlt; simp at hlt
  | zero b => obtain ⟨_, h2⟩ := hx0; rw [h2] at hlt; simp at hlt
  | mp b => exact hx0.elim
  | blk b len cap sz pub =>
    obtain ⟨rfl, h2, h3, h4, h5⟩ := hx0
    have hsz : sz = ed.n := by rw [← h4 _ (List.mem_of_getElem? hl), hlen]
    subst hsz
    refine ⟨.pointer (some ⟨b, i.toNat * ed.n, none⟩), ?_, .xp _ g _ 0 l hgg rfl (fun r' hr' => ?_)⟩
    · unfold execOp
      rw [ho]
      show Sem.run P _ w = .ok _ w
      have hc2 : 0 ≤ i ∧ i < (len : Int) := ⟨h0, by omega⟩
      simp only [hvi, hvx, Instr.indexAt, asIntOf, Sem.run_bind, Sem.run_pure, Result.andThen_ok, run_underlying hu, hc2, and_self, if_true, T.sizeOf he]
      unfold Addr.add
      split
      · rename_i e; rw [e]
      · simp
    · have e2 : r' = .blk b len cap ed.n pub := Option.some.inj ((hr' : G.own g = some r').symm.trans hgr)
      subst e2
      refine ⟨rfl, by omega, by rw [Nat.zero_add]; exact hlen, fun j d hj => ?_⟩
      obtain ⟨u, h6, h7⟩ := h5 _ _ _ _ hl hj
      exact ⟨u, by rw [Nat.add_zero]; exact h6, h7⟩

theorem Pu.fieldX {t i : Nat} {x : Operand} (ho : o.op = .fieldAddr t x i) {fo ft m : Nat} (hf : fldAt T t i = some (fo, ft)) (hsz : szAt T ft = m + 1) {g j off : Nat} {l : List D} (hx : av st.f x = some (.xp g j off l)) (hgl : g ∈ st.lv) (hle : fo ≤ l.length) :
    Pu P C n st o (.xp g j (off + fo) (l.drop fo)) := by
  refine PuOK.pu fun G tmps w hs => ?_
  have hr := hs.av hx
  obtain ⟨r, hgr⟩ := hs.live g hgl
  generalize hv : Act.eval ⟨tmps, []⟩ x = v at hr
  cases hr with
  | xp _ _ _ _ _ hgg h1 hrow =>
  have hx0 := hrow r hgr
  cases r with
  | nil => exact hx0.elim
  | zero b => exact hx0.elim
  | mp b => exact hx0.elim
  | blk b len cap sz pub =>
    obtain ⟨rfl, h2, h3, h4⟩ := hx0
    have hrun : (Instr.fieldAt t (.pointer (some ⟨b, j * sz + off, none⟩)) i).run P w = .ok (.pointer (some ⟨b, j * sz + (off + fo), none⟩)) w := by
      have := run_fieldAt T hf hsz b (j * sz + off) w
      rwa [Nat.add_assoc] at this
    refine ⟨.pointer (some ⟨b, j * sz + (off + fo), none⟩), ?_, .xp _ g j (off + fo) (l.drop fo) hgg rfl (fun r' hr' => ?_)⟩
    · unfold execOp
      rw [ho]
      show Sem.run P _ w = .ok _ w
      simp only [hv, Sem.run_bind, hrun, Result.andThen_ok, Sem.run_pure]
    · have e2 : r' = .blk b len cap sz pub := Option.some.inj ((hr' : G.own g = some r').symm.trans hgr)
      subst e2
      refine ⟨rfl, h2, by simp; omega, fun k d hk => ?_⟩
      rw [List.getElem?_drop] at hk
      obtain ⟨u, h5, h6⟩ := h4 _ _ hk
      refine ⟨u, ?_, h6⟩
      have e3 : j * sz + (off + fo) + k = j * sz + off + (fo + k) := by omega
      rw [e3]
      exact h5

theorem Pu.loadX {t : Nat} {x : Operand} (ho : o.op = .load t x) {g j off : Nat} {l : List D} (hx : av st.f x = some (.xp g j off l)) (hgl : g ∈ st.lv) {a : A} (ha : partD T t l = some a) : Pu P C n st o a := by
  refine PuOK.pu fun G tmps w hs => ?_
  have hr := hs.av hx
  obtain ⟨r, hgr⟩ := hs.live g hgl
  generalize hv : Act.eval ⟨tmps, []⟩ x = v at hr
  cases hr with
  | xp _ _ _ _ _ hgg h1 hrow =>
  have hx0 := hrow r hgr
  cases r with
  | nil => exact hx0.elim
  | zero b => exact hx0.elim
  | mp b => exact hx0.elim
  | blk b len cap sz pub =>
    obtain ⟨rfl, h2, h3, h4⟩ := hx0
    have hcell : ∀ k, k < l.length → ∃ u, cellAt w b (j * sz + off + k) = some u := fun k hk => by
      obtain ⟨u, h5, _⟩ := h4 k l[k] (by simp [hk])
      exact ⟨u, h5⟩
    have key := load_partD (E := enOf C G st.gen w) T (t := t) (a := a) (b := b) (off := j * sz + off) (l := l) (u := fun k => (cellAt w b (j * sz + off + k)).getD default)
      (fun k hk => by obtain ⟨u, hu⟩ := hcell k hk; show cellAt w b _ = _; rw [hu]; rfl) (fun k y hk => by
        obtain ⟨u, h5, h6⟩ := h4 k y hk
        have h5' : cellAt w b (j * sz + off + k) = some u := h5
        rw [h5']
        exact h6) ha
    obtain ⟨v, h5, h6⟩ := key
    refine ⟨v, ?_, h6⟩
    rw [execOp_load ho]
    show Sem.run P _ w = .ok _ w
    have h5' : (Instr.loadAt t (.pointer (some ⟨b, j * sz + off, none⟩))).run P w = .ok v w := h5
    simp only [hv, Sem.run_bind, h5', Result.andThen_ok, Sem.run_pure]

/-- an element's store, run -/
theorem exec_storeX {G : Gh} {tmps : Array Value} {w : World} (hs : SimG C n st G tmps w) {t : TypeId} {x y : Operand} (ho : o.op = .store t x y) {g j off : Nat} {l : List D} (hx : av st.f x = some (.xp g j off l)) (hgl : g ∈ st.lv)
    {v : Value} {es : List (List D)} (hv : Rep (enOf C G st.gen w) v (.xs g es)) {e : List D} (he : es[j]? = some e) (hoff : off + l.length = e.length) {a : A} (ha : av st.f y = some a) {cs : List D} (hc : elD a = some cs)
    (hsz : szAt T t = cs.length) (hz : cs.length ≠ 0) (hle : cs.length ≤ l.length) :
    ∃ w', (execOp (Act.eval ⟨tmps, []⟩) o).run P w = .ok .skip w' ∧ Grew true C n st G tmps (dropId st.lv g) (es.set j (putD e off cs)) v w w' ∧ ∀ b' g', G.box g' = some b' → w'.heap[b']? = w.heap[b']? := by
  obtain ⟨r, hgr⟩ := hs.live g hgl
  have hrx := hs.av hx
  generalize hvx : Act.eval ⟨tmps, []⟩ x = vx at hrx
  cases hv with
  | xs _ _ _ _ _ hrow =>
  cases hrx with
  | xp _ _ _ _ _ _ _ hrow2 =>
  have hx1 := hrow r hgr
  have hx2 := hrow2 r hgr
  cases r with
  | nil => exact hx2.elim
  | zero b => exact hx2.elim
  | mp b => exact hx2.elim
  | blk b len cap sz pub =>
    have hp0 : pub = 0 := hx1.2.2.1
    subst hp0
    obtain ⟨rfl, _, _, _⟩ := hx2
    have hrc := elD_rep hc (hs.av ha)
    obtain ⟨cur, T', hcur, hfit, hgrew⟩ := hs.putX hgr hx1 he (off := off) hrc (by omega) (dropId st.lv g) (fun g' hg' => dropId_mem hg')
    have hst := run_storeCells_at P b (j * sz + off) T' (Act.eval ⟨tmps, []⟩ y).cells.toList 0 cur w hcur (by simpa using hfit) (fun u hu => by
      obtain ⟨i, hi⟩ := List.mem_iff_getElem?.1 hu
      exact hrc.2.1 i u (by simpa using hi))
    obtain ⟨d, hdt, hdn⟩ : ∃ d, look' T.l t = some d ∧ d.n = cs.length := by
      unfold szAt at hsz
      split at hsz
      · rename_i d hdt; exact ⟨d, hdt, hsz⟩
      · exact absurd hsz.symm hz
    refine ⟨_, ?_, hgrew, fun b' g' hb' => setRow_other w b b' _ (fun e => (hs.row g b len cap sz 0 hgr).2.1 g' (e ▸ hb'))⟩
    unfold execOp
    rw [ho]
    show Sem.run P _ w = _
    simp only [hvx, Instr.storeAt, Instr.sureAddr, storeVar, Sem.run_bind, Sem.run_pure, Result.andThen_ok, T.sizeOf hdt]
    rw [if_neg (by rw [hdn]; have := hrc.1; simp at this ⊢; exact this)]
    simp only [Nat.add_zero] at hst
    simp only [hst, Result.andThen_ok]

/-- an element is written; the slice stands in a slot -/
theorem WO.storeX (s : Nat) (hg : o.guard = none) (hd : dstOK n o.dst = true) {t : TypeId} {x y : Operand} (ho : o.op = .store t x y) {g j off : Nat} {l : List D} (hx : av st.f x = some (.xp g j off l)) (hgl : g ∈ st.lv)
    {es : List (List D)} (hl : look st.f s = some (.xs g es)) (hsn : Nat.blt s n = true) {e : List D} (he : es[j]? = some e) (hoff : off + l.length = e.length) {a : A} (ha : av st.f y = some a) {cs : List D} (hc : elD a = some cs)
    (hsz : szAt T t = cs.length) (hz : Nat.blt 0 cs.length = true) (hle : cs.length ≤ l.length)
    (h : WO P C n ops Q rest (St.put (St.set { st with lv := st.gen :: dropId st.lv g, gen := st.gen + 1 } s (.xs st.gen (es.set j (putD e off cs)))) o.dst .any)) : WO P C n ops Q (o :: rest) st := by
  refine WO.step hg fun tmps w ⟨G, hs⟩ => ?_
  obtain ⟨v, hv, hr⟩ := hs.frame s _ hl
  obtain ⟨w', hrun, ⟨G', _, hs', hv'⟩, _⟩ := exec_storeX (P := P) T hs ho hx hgl hr he hoff ha hc hsz (by have := Nat.le_of_ble_eq_true hz; omega) hle
  refine gives_skip hrun ⟨_, ⟨G', SimG.put ?_ (dstOK_lt hd) (.any _)⟩, h⟩
  have := hs'.set (d := s) (Nat.le_of_ble_eq_true hsn) hv'
  rwa [set_same hv] at this

/-- a box's cell is read anew -/
theorem SimG.boxCell {st' : St} {G' : Gh} {w' : World} (hs : SimG C n st G tmps w) (hs' : SimG C n st' G' tmps w') (hbx : st'.bx = st.bx) (hG : G'.box = G.box) {g0 i : Nat} {cells : List A} (hb : look' st.bx g0 = some cells) {v : Value}
    (hold : ∀ b cs T, G.box g0 = some b → w.heap[b]? = some (.cells cs T (0, 0)) → cs[i]? = some v) (hstay : ∀ b, G.box g0 = some b → w'.heap[b]? = w.heap[b]?) {a' : A} (hr : Rep (enOf C G' st'.gen w') v a') :
    SimG C n { st' with bx := (g0, cells.set i a') :: st'.bx } G' tmps w' := by
  refine { hs' with box := fun g' c hc => ?_ }
  simp only [look'_cons] at hc
  split at hc
  · rename_i e
    subst e
    simp only [Option.some.injEq] at hc
    subst hc
    obtain ⟨b, cs, T, h1, h2, h3, h4, h5⟩ := hs'.box g0 cells (by rw [hbx]; exact hb)
    have h1' : G.box g0 = some b := by rw [← hG]; exact h1
    have h6 := hold b cs T h1' (by rw [← hstay b h1']; exact h2)
    refine ⟨b, cs, T, h1, h2, by simpa using h3, h4, fun k u a hu ha => ?_⟩
    rw [List.getElem?_set] at ha
    split at ha
    · rename_i e
      subst e
      split at ha
      · simp only [Option.some.injEq] at ha
        subst ha
        rw [h6] at hu
        simp only [Option.some.injEq] at hu
        subst hu
        exact hr
      · cases ha
    · exact h5 k u a hu ha
  · exact hs'.box g' c hc
end
end Go.Ab
/- What cells hold is in its kind's range. -/
namespace Go.Ab
section
variable {P : Program} {C : Ctx} {n : Nat} {Q : Exit → St → Prop} {c : Code} {f : List (Nat × A)} {bx : List (Nat × List A)} {lv : List Nat} {gen : Nat}

theorem RepD.elem {w : World} {pv : Nat → Nat → Prop} {v : Value} {es : List (List D)} (h : RepD w pv v (.sl es)) {k j : Nat} {e : List D} {x : Value} (he : es[k]? = some e) (hx : e[j]? = some (.v x)) : okc x = true := by
  cases h with
  | nil => simp at he
  | emp => simp at he
  | sl b off len cap sz es u hl hc hm hs hu hr =>
    have := hr k j e _ he hx
    generalize u k j = y at this
    cases this with | v _ ho => exact ho

/-- an element of a slice in a slot -/
theorem W.elem (t : Nat) {a : A} {es : List (List D)} {k j : Nat} {e : List D} {x : Value} (hl : look f t = some a) (hes : slOf a = some es) (he : es[k]? = some e) (hx : e[j]? = some (.v x)) (h : okc x = true → W P C n c Q ⟨f, bx, lv, gen⟩) : W P C n c Q ⟨f, bx, lv, gen⟩ := by
  intro tmps w ⟨G, hs⟩
  obtain ⟨v, hv, hr⟩ := hs.frame t a hl
  exact h ((slOf_rep hes hr).elem he hx) tmps w ⟨G, hs⟩

/-- all elements of a slice in a slot -/
theorem W.elems {α : Type} {fn : α → List D} {p : α → Value} (t j : Nat) {a : A} {l : List α} (hl : look f t = some a) (hes : slOf a = some (l.map fn)) (hx : ∀ a, (fn a)[j]? = some (.v (p a))) (h : (∀ a ∈ l, okc (p a) = true) → W P C n c Q ⟨f, bx, lv, gen⟩) : W P C n c Q ⟨f, bx, lv, gen⟩ := by
  intro tmps w ⟨G, hs⟩
  obtain ⟨v, hv, hr⟩ := hs.frame t a hl
  refine h (fun a ha => ?_) tmps w ⟨G, hs⟩
  obtain ⟨i, hi⟩ := List.mem_iff_getElem?.1 ha
  exact (slOf_rep hes hr).elem (idx_map hi) (hx a)
/-- a nil slice in a box, read as an empty one -/
theorem nilBox (g j : Nat) {cells cells' : List A} (hb : look' bx g = some cells) (hj : cells[j]? = some (.d (.v (.slice none 0 0)))) (hc : cells.set j (.d (.sl [])) = cells') (h : W P C n c Q ⟨f, (g, cells') :: bx, lv, gen⟩) : W P C n c Q ⟨f, bx, lv, gen⟩ := by
  subst hc
  intro tmps w ⟨G, hs⟩
  refine h tmps w ⟨G, SimG.reBox hs hb (by simp) (fun i u a a' ha ha' hr => ?_)⟩
  rw [List.getElem?_set] at ha'
  split at ha'
  · rename_i e
    subst e
    rw [hj] at ha
    simp only [Option.some.injEq] at ha
    subst ha
    split at ha'
    · simp only [Option.some.injEq] at ha'
      subst ha'
      cases hr with | d hr => cases hr with | v _ _ => exact .d .nil
    · cases ha'
  · rw [ha] at ha'
    simp only [Option.some.injEq] at ha'
    subst ha'
    exact hr
end
/-- a nil slice for an empty one, at an argument's place -/
theorem Does.nilAt {P : Program} [Met P] {f : FuncId} {xs ys : List A} {r : A} {k : Nat} (h : Does P f (xs ++ .d (.sl []) :: ys) r k) : Does P f (xs ++ .d (.v (.slice none 0 0)) :: ys) r k :=
  ⟨h.ok, fun C vals w hG hw hp hx hsz hrep => h.calls C vals w hG hw hp hx (by simpa using hsz) (fun i u a hu ha => by
    by_cases e : i = xs.length
    · subst e
      have h1 := hrep xs.length u (.d (.v (.slice none 0 0))) hu (by simp)
      simp at ha
      subst ha
      cases h1 with | d hd => cases hd with | v _ _ => exact .d .nil
    · refine hrep i u a hu ?_
      rw [List.getElem?_append] at ha ⊢
      split
      · rename_i hlt; rw [if_pos hlt] at ha; exact ha
      · rename_i hge
        rw [if_neg hge] at ha
        obtain ⟨j, hj⟩ : ∃ j, i - xs.length = j + 1 := ⟨i - xs.length - 1, by omega⟩
        rw [hj] at ha ⊢
        simpa using ha)⟩
end Go.Ab
/- Exclusive slices in the form in which a walk meets them; one that stands in a box. -/
namespace Go.Ab
open Go.RowKit

section
variable {P : Program} (T : Tab P) {C : Ctx} {n : Nat} {ops : Array Oper} {Q : Exit → St → Prop} {rest : List Oper}
variable {f : List (Nat × A)} {bx : List (Nat × List A)} {lv : List Nat} {gen : Nat} {d : Nat} {op : Op} {ty : TypeId} {pos : String} {af : Array Edge} {a : A} {dst : Option Nat} {c : Code}

theorem memAny {lv : List Nat} {g : Nat} (h : (lv.any fun h => Nat.beq h g) = true) : g ∈ lv := by
  obtain ⟨g', h1, h2⟩ := List.any_eq_true.1 h
  have : g' = g := Nat.eq_of_beq_eq_true h2
  exact this ▸ h1

theorem buildX {t e len : Nat} {parts : Array (Nat × Operand)} {td ed : TyD} {es : List (List D)} (ht : look' T.l t = some td) (hk : td.k = .slice e) (he : look' T.l e = some ed) (hes : elsA f 0 parts.toList = some es) (hlen : es.length = len)
    (hz : Nat.blt 0 ed.n = true) (hsm : Nat.ble (len * ed.n) 16777216 = true) (hl : ∀ (x : List D), x ∈ es → x.length = ed.n) (hd : Nat.blt d n = true)
    (h : WO P C n ops Q rest ⟨(d, .xs gen es) :: f, bx, gen :: lv, gen + 1⟩) : WO P C n ops Q (⟨some d, .buildSlice t len parts, ty, pos, af, none⟩ :: rest) ⟨f, bx, lv, gen⟩ :=
  WO.buildSliceM (st := ⟨f, bx, lv, gen⟩) T true rfl hd rfl ht hk he hes hlen hz hsm hl h

theorem appendXR {x y : Operand} {t e : Nat} {td ed : TyD} {g : Nat} {es es2 : List (List D)} {b : A} (hx : av f x = some (.xs g es)) (hy : av f y = some b) (hb2 : slOf b = some es2) (ht : look' T.l t = some td) (hk : td.k = .slice e) (he : look' T.l e = some ed)
    (hgl : (lv.any fun h => Nat.beq h g) = true) (hz : Nat.blt 0 ed.n = true) (hb0 : Nat.blt 0 ed.b = true) (hd : Nat.blt d n = true) {r : List (List D)} (hr : es ++ es2 = r) (hl : ∀ (x : List D), x ∈ es ++ es2 → x.length = ed.n)
    (hb : (es.length + es2.length) * ed.b ≤ 140737488355328) {lv' : List Nat} (hlv : gen :: dropId lv g = lv')
    (h : WO P C n ops Q rest ⟨(d, .xs gen r) :: f, bx, lv', gen + 1⟩) : WO P C n ops Q (⟨some d, .call ⟨.builtin .append, #[x, y], #[t, t]⟩, ty, pos, af, none⟩ :: rest) ⟨f, bx, lv, gen⟩ := by
  subst hr; subst hlv
  exact WO.appendX (st := ⟨f, bx, lv, gen⟩) T rfl hd rfl ht hk he hx (memAny hgl) hy hb2 hz hb0 hl hb h

theorem lenX {x : Operand} {t e : Nat} {td : TyD} {g : Nat} {es : List (List D)} (hx : av f x = some (.xs g es)) (ht : look' T.l t = some td) (hk : td.k = .slice e) (hgl : (lv.any fun h => Nat.beq h g) = true) :
    Pu P C n ⟨f, bx, lv, gen⟩ ⟨dst, .call ⟨.builtin .len, #[x], #[t]⟩, ty, pos, af, none⟩ (.d (.v (.int .i64 es.length))) :=
  Pu.lenX (st := ⟨f, bx, lv, gen⟩) T rfl ht hk hx (memAny hgl)

theorem indexX {t e : Nat} {x ix : Operand} {td ed : TyD} {g : Nat} {es : List (List D)} {k : IntKind} {i : Int} {l : List D} (hx : av f x = some (.xs g es)) (hi : av f ix = some (.d (.v (.int k i)))) (ht : look' T.l t = some td) (hk : td.k = .slice e) (he : look' T.l e = some ed)
    (hgl : (lv.any fun h => Nat.beq h g) = true) (h0 : 0 ≤ i) (hl : es[i.toNat]? = some l) (hlen : l.length = ed.n) :
    Pu P C n ⟨f, bx, lv, gen⟩ ⟨dst, .indexAddr t x ix, ty, pos, af, none⟩ (.xp g i.toNat 0 l) :=
  Pu.indexX (st := ⟨f, bx, lv, gen⟩) T rfl ht hk he hx (memAny hgl) hi h0 hl hlen

theorem fieldX {t i : Nat} {x : Operand} {fo ft m : Nat} {g j off : Nat} {l : List D} (hx : av f x = some (.xp g j off l)) (hf : fldAt T t i = some (fo, ft)) (hsz : szAt T ft = m + 1) (hgl : (lv.any fun h => Nat.beq h g) = true) (hle : Nat.ble fo l.length = true) {l' : List D} (hl' : l.drop fo = l') :
    Pu P C n ⟨f, bx, lv, gen⟩ ⟨dst, .fieldAddr t x i, ty, pos, af, none⟩ (.xp g j (off + fo) l') :=
  hl' ▸ Pu.fieldX (st := ⟨f, bx, lv, gen⟩) T rfl hf hsz hx (memAny hgl) (Nat.le_of_ble_eq_true hle)

theorem loadX {t : Nat} {x : Operand} {g j off : Nat} {l : List D} (hx : av f x = some (.xp g j off l)) (hgl : (lv.any fun h => Nat.beq h g) = true) (ha : partD T t l = some a) :
    Pu P C n ⟨f, bx, lv, gen⟩ ⟨dst, .load t x, ty, pos, af, none⟩ a :=
  Pu.loadX (st := ⟨f, bx, lv, gen⟩) T rfl hx (memAny hgl) ha

theorem storeX (s : Nat) {t : TypeId} {x y : Operand} {g j off : Nat} {l : List D} {es : List (List D)} {e : List D} {cs : List D} (hx : av f x = some (.xp g j off l)) (hl : look f s = some (.xs g es)) (ha : av f y = some a) (hc : elD a = some cs) (he : es[j]? = some e) (hoff : off + l.length = e.length)
    (hgl : (lv.any fun h => Nat.beq h g) = true) (hsn : Nat.blt s n = true) (hsz : szAt T t = cs.length) (hz : Nat.blt 0 cs.length = true) (hle : Nat.ble cs.length l.length = true) {es' : List (List D)} (hes : es.set j (putD e off cs) = es') {lv' : List Nat} (hlv : gen :: dropId lv g = lv')
    (h : WO P C n ops Q rest ⟨(s, .xs gen es') :: f, bx, lv', gen + 1⟩) : WO P C n ops Q (⟨none, .store t x y, ty, pos, af, none⟩ :: rest) ⟨f, bx, lv, gen⟩ := by
  subst hes; subst hlv
  exact WO.storeX (st := ⟨f, bx, lv, gen⟩) T s rfl rfl rfl hx (memAny hgl) hl hsn he hoff ha hc hsz hz (Nat.le_of_ble_eq_true hle) h

theorem freezeX (s : Nat) {g : Nat} {es : List (List D)} (hl : look f s = some (.xs g es)) (hgl : (lv.any fun h => Nat.beq h g) = true) (hsn : Nat.blt s n = true) {lv' : List Nat} (hlv : gen :: dropId lv g = lv')
    (h : W P C n c Q ⟨(s, .own gen es) :: f, bx, lv', gen + 1⟩) : W P C n c Q ⟨f, bx, lv, gen⟩ := by
  subst hlv
  exact W.freeze (st := ⟨f, bx, lv, gen⟩) hl (memAny hgl) hsn h

/-- a slot's nil slices read as empty ones -/
theorem nilO (s : Nat) {a a' : A} {l : List Oper} (hl : look f s = some a) (hsn : Nat.blt s n = true) (ha : Ab.nilA a = a') (h : WO P C n ops Q l ⟨(s, a') :: f, bx, lv, gen⟩) : WO P C n ops Q l ⟨f, bx, lv, gen⟩ := by
  subst ha
  intro tmps w ⟨G, hs⟩
  obtain ⟨v, hv, hr⟩ := hs.frame s _ hl
  refine h tmps w ⟨G, ?_⟩
  have := hs.set (d := s) (Nat.le_of_ble_eq_true hsn) hr.nilA
  rwa [set_same hv] at this

/-- the value in a box's cell -/
theorem SimG.cellAt {st : St} {G : Gh} {tmps : Array Value} {w : World} (hs : SimG C n st G tmps w) {g0 i : Nat} {cells : List A} (hb : look' st.bx g0 = some cells) {x : A} (hi : cells[i]? = some x) :
    ∃ v, Rep (enOf C G st.gen w) v x ∧ ∀ b cs T', G.box g0 = some b → w.heap[b]? = some (.cells cs T' (0, 0)) → cs[i]? = some v := by
  obtain ⟨b, cs, T', h1, h2, h3, _, h5⟩ := hs.box g0 cells hb
  have hlt : i < cs.size := by rw [h3]; exact (List.getElem?_eq_some_iff.1 hi).1
  have hv : cs[i]? = some cs[i] := by simp [hlt]
  refine ⟨cs[i], h5 i _ x hv hi, fun b' cs' T2 h1' h2' => ?_⟩
  have e : b' = b := Option.some.inj (h1'.symm.trans h1)
  subst e
  have e2 := Option.some.inj (h2'.symm.trans h2)
  injection e2 with e3 _ _
  rw [e3]
  exact hv

/-- an exclusive slice in a box's cell is given up -/
theorem freezeB (g0 i : Nat) {cells cells' : List A} {g : Nat} {es : List (List D)} (hb : look' bx g0 = some cells) (hi : cells[i]? = some (.xs g es)) (hgl : (lv.any fun h => Nat.beq h g) = true) {lv' : List Nat} (hlv : gen :: dropId lv g = lv') (hc : cells.set i (.own gen es) = cells')
    (h : W P C n c Q ⟨f, (g0, cells') :: bx, lv', gen + 1⟩) : W P C n c Q ⟨f, bx, lv, gen⟩ := by
  subst hlv; subst hc
  intro tmps w ⟨G, hs⟩
  obtain ⟨v, hr, hat⟩ := hs.cellAt hb hi
  obtain ⟨r, hgr⟩ := hs.live g (memAny hgl)
  cases hr with
  | xs _ _ _ hgg h1 hrow =>
  obtain ⟨⟨G', hG, hs', hv'⟩⟩ := hs.publish hgr (hrow r hgr) (dropId lv g) (fun g' hg' => dropId_mem hg')
  exact h tmps w ⟨G', SimG.boxCell hs hs' rfl hG hb hat (fun _ _ => rfl) hv'⟩

/-- an element is written; the slice stands in a box's cell -/
theorem storeXB (g0 i : Nat) {t : TypeId} {x y : Operand} {g j off : Nat} {l : List D} {es : List (List D)} {e : List D} {cs : List D} {cells cells' : List A} (hx : av f x = some (.xp g j off l)) (hb : look' bx g0 = some cells) (hi : cells[i]? = some (.xs g es)) (ha : av f y = some a) (hc : elD a = some cs)
    (he : es[j]? = some e) (hoff : off + l.length = e.length) (hgl : (lv.any fun h => Nat.beq h g) = true) (hsz : szAt T t = cs.length) (hz : Nat.blt 0 cs.length = true) (hle : Nat.ble cs.length l.length = true) {es' : List (List D)} (hes : es.set j (putD e off cs) = es') {lv' : List Nat} (hlv : gen :: dropId lv g = lv')
    (hcs : cells.set i (.xs gen es') = cells') (h : WO P C n ops Q rest ⟨f, (g0, cells') :: bx, lv', gen + 1⟩) : WO P C n ops Q (⟨none, .store t x y, ty, pos, af, none⟩ :: rest) ⟨f, bx, lv, gen⟩ := by
  subst hes; subst hlv; subst hcs
  refine WO.step (st := ⟨f, bx, lv, gen⟩) rfl fun tmps w ⟨G, hs⟩ => ?_
  obtain ⟨v, hr, hat⟩ := hs.cellAt hb hi
  obtain ⟨w', hrun, ⟨G', hG, hs', hv'⟩, hheap⟩ := exec_storeX (P := P) (o := ⟨none, .store t x y, ty, pos, af, none⟩) T hs rfl hx (memAny hgl) hr he hoff ha hc hsz (by have := Nat.le_of_ble_eq_true hz; omega) (Nat.le_of_ble_eq_true hle)
  exact gives_skip hrun ⟨_, ⟨G', SimG.boxCell hs hs' rfl hG hb hat (fun b hgb => hheap b g0 hgb) hv'⟩, h⟩

/-- a slice that is full is told as a plain one -/
theorem unfl (s : Nat) {es : List (List D)} {l : List Oper} (hl : look f s = some (.fl es)) (hsn : Nat.blt s n = true) (h : WO P C n ops Q l ⟨(s, .d (.sl es)) :: f, bx, lv, gen⟩) : WO P C n ops Q l ⟨f, bx, lv, gen⟩ := by
  intro tmps w ⟨G, hs⟩
  obtain ⟨v, hv, hr⟩ := hs.frame s _ hl
  cases hr with
  | fl _ _ hd _ =>
  refine h tmps w ⟨G, ?_⟩
  have := hs.set (d := s) (Nat.le_of_ble_eq_true hsn) (.d hd)
  rwa [set_same hv] at this

/-- a literal's slice is full -/
theorem buildFl {t e len : Nat} {parts : Array (Nat × Operand)} {td ed : TyD} {es : List (List D)} (ht : look' T.l t = some td) (hk : td.k = .slice e) (he : look' T.l e = some ed) (hes : elsA f 0 parts.toList = some es) (hlen : es.length = len)
    (hz : Nat.blt 0 ed.n = true) (hsm : Nat.ble (len * ed.n) 16777216 = true) (hl : lensB ed.n es = true) (hpos : Nat.blt 0 len = true) : Pu P C n ⟨f, bx, lv, gen⟩ ⟨dst, .buildSlice t len parts, ty, pos, af, none⟩ (.fl es) := by
  have hz := Nat.le_of_ble_eq_true hz
  have hsm := Nat.le_of_ble_eq_true hsm
  have hpos := Nat.le_of_ble_eq_true hpos
  have hl := lensB_mem hl
  intro G tmps w hs
  obtain ⟨cs', hrun, hcsz, hget⟩ := buildSlice_core T (tmps := tmps) hs ht hk he hes hlen hz hsm hl hpos
  have hb : Below w.heap.size w (w.alloc (.cells cs' e)) := (Below.refl _ w).alloc (Nat.le_refl _) _
  obtain ⟨hle, hs'⟩ := hs.evolve hb
  refine gives_value (v := .slice (some ⟨w.heap.size, 0, none⟩) len len) (w' := w.alloc (.cells cs' e)) ?_ ⟨hb, .fl _ _ ?_ ⟨_, by rw [hlen]⟩⟩
  · unfold execOp
    show Sem.run P _ w = .ok _ _
    simp only [Sem.run_bind, hrun, Result.andThen_ok, Sem.run_pure]
  · have := RepD.ofRow (w := w.alloc (.cells cs' e)) (pv := pvOf C G) (b := w.heap.size) (cap := len) (sz := ed.n) (es := es) (heap_alloc_new w _) (by omega) (by simp only [maxLen]; have : len ≤ len * ed.n := Nat.le_mul_of_pos_right _ hz; omega) hl
      (fun t _ hp => by have := pv_old hs hp; omega) (fun k j e' d hk hj => by obtain ⟨u, h1, h2⟩ := hget k j e' d hk hj; exact ⟨u, h1, h2.mono hle.cell⟩)
    rw [hlen] at this
    exact this

/-- something is appended to a full slice: a new block -/
theorem append_full {st : St} {G : Gh} {tmps : Array Value} {w : World} (h : SimG C n st G tmps w) {t e : Nat} {td ed : TyD} (ht : look' T.l t = some td) (hk : td.k = .slice e) (he : look' T.l e = some ed) {v v2 : Value} {es es2 : List (List D)}
    (hv : RepD w (pvOf C G) v (.sl es)) (hfl : ∃ a, v = .slice a es.length es.length) (hv2 : RepD w (pvOf C G) v2 (.sl es2)) (hne : 0 < es2.length) (hl : ∀ (x : List D), x ∈ es ++ es2 → x.length = ed.n) (hz : 0 < ed.n) (hb0 : 0 < ed.b)
    (hb : (es.length + es2.length) * ed.b ≤ 140737488355328) (ty : Nat) (hpos : 0 < es.length) :
    ∃ v' w', (Builtin.append_ #[t, t] ty #[v, v2]).run P w = .ok v' w' ∧ Grew false C n st G tmps st.lv (es ++ es2) v' w w' := by
  have hu := T.u_slice ht hk
  obtain ⟨i, z, hi, hin, hib, hiz, hzc, hzl, _, _⟩ := T.info he
  have hmax : es.length + es2.length ≤ 140737488355328 := Nat.le_trans (Nat.le_mul_of_pos_right _ hb0) hb
  have hmx : es.length + es2.length ≤ maxLen := by simp only [maxLen]; omega
  have hl1 : ∀ (x : List D), x ∈ es → x.length = ed.n := fun x hx => hl x (List.mem_append.2 (.inl hx))
  have hl2 : ∀ (x : List D), x ∈ es2 → x.length = ed.n := fun x hx => hl x (List.mem_append.2 (.inr hx))
  have cellAdd : ∀ (b off : Nat) (l : List Value), (∀ (t : Nat) (u : Value), l[t]? = some u → cellAt w b (off + t) = some u) → ∀ j u, l[j]? = some u → w.cell? ((⟨b, off, none⟩ : Addr).add j) = some u := by
    intro b off l hc j u hj
    have := hc j u hj
    unfold Addr.add
    split
    · rename_i e; subst e; simpa [cellAt] using this
    · exact this
  cases hv2 with
  | nil => simp at hne
  | emp => simp at hne
  | sl b2 off2 len2 cap2 sz2 _ u2 hlen2 hc2 hcm2 hs2 hu2 hr2 =>
  cases hv with
  | nil => simp at hpos
  | emp => simp at hpos
  | sl b1 off1 len1 cap1 sz1 _ u1 hlen1 hc1 hcm1 hs1 hu1 hr1 =>
  obtain ⟨a, ha⟩ := hfl
  simp only [Value.slice.injEq] at ha
  obtain ⟨_, _, hcap⟩ := ha
  obtain ⟨_, _, _, news, hnl, hnc, hnr⟩ := (RepD.sl b2 off2 len2 cap2 sz2 es2 u2 hlen2 hc2 hcm2 hs2 hu2 hr2).flat hl2
  obtain ⟨_, _, _, olds, hol, hoc, hor⟩ := (RepD.sl b1 off1 len1 cap1 sz1 es u1 hlen1 hc1 hcm1 hs1 hu1 hr1).flat hl1
  subst hlen1; subst hlen2; subst hcap
  have hr := run_append_grow (P := P) w t ty e i z hu hi hiz ⟨b1, off1, none⟩ es.length es.length olds (by rw [hol, hin]) (cellAdd b1 off1 olds fun t u hu => (hoc t u hu).1) ⟨b2, off2, none⟩ es2.length cap2 news (by rw [hnl, hin]) (cellAdd b2 off2 news fun t u hu => (hnc t u hu).1) (by omega) (by omega)
    (growslice_fits (by omega) (by rw [hib]; exact hb))
  refine ⟨_, _, hr, ?_⟩
  have hge := grownCap_ge w (es.length + es2.length) es.length e
  have hcm := grownCap_le_maxLen w (es.length + es2.length) es.length e (by omega)
  have hzs : z.cells.size = ed.n := by rw [← hzl, ← hzc]; simp
  have e0 : (es ++ es2).length = es.length + es2.length := by simp
  have hb' : ∀ arr, Below w.heap.size w (w.drew.alloc (.cells arr e)) := fun arr => ((Below.refl _ w).drew).alloc (Nat.le_refl _) _
  generalize grownCap w (es.length + es2.length) es.length e = cap at hge hcm ⊢
  rw [← e0]
  refine h.newRow false (hb' _) (heap_alloc_new w.drew _) ?_ (by rw [e0]; exact hge) hcm hz (by omega) hl ?_ (fun _ => False) st.lv fun g' hg' => ⟨hg', fun h => h⟩
  · simp only [Array.size_append, List.size_toArray, size_zeroCells, hol, hnl, hzs, ← Nat.add_mul]
    congr 1
    rw [e0]
    omega
  · have e1 : ∀ k, olds.toArray ++ news.toArray ++ Builtin.zeroCells z.cells k = (olds ++ news ++ (Builtin.zeroCells z.cells k).toList).toArray := fun k => by simp
    rw [e1]
    exact cat_get rfl hol hl hor hnr

theorem appendFl {x y : Operand} {t e : Nat} {td ed : TyD} {es es2 : List (List D)} {b : A} (hx : av f x = some (.fl es)) (hy : av f y = some b) (hb2 : slOf b = some es2) (ht : look' T.l t = some td) (hk : td.k = .slice e) (he : look' T.l e = some ed)
    (hz : Nat.blt 0 ed.n = true) (hb0 : Nat.blt 0 ed.b = true) (hd : Nat.blt d n = true) (hp : Nat.blt 0 es.length = true) (hne : Nat.blt 0 es2.length = true) {r : List (List D)} (hr : es ++ es2 = r) (hl : ∀ (x : List D), x ∈ es ++ es2 → x.length = ed.n)
    (hb : (es.length + es2.length) * ed.b ≤ 140737488355328)
    (h : WO P C n ops Q rest ⟨(d, .own gen r) :: f, bx, gen :: lv, gen + 1⟩) : WO P C n ops Q (⟨some d, .call ⟨.builtin .append, #[x, y], #[t, t]⟩, ty, pos, af, none⟩ :: rest) ⟨f, bx, lv, gen⟩ := by
  subst hr
  refine WO.step (st := ⟨f, bx, lv, gen⟩) rfl fun tmps w ⟨G, hs⟩ => ?_
  have hr := hs.av hx
  have hr2 := slOf_rep hb2 (hs.av hy)
  generalize hv : Act.eval ⟨tmps, []⟩ x = v at hr
  cases hr with
  | fl _ _ hd1 hfl =>
  obtain ⟨v', w', hrun, ⟨G', _, hs', hv'⟩⟩ := append_full T hs ht hk he hd1 hfl hr2 (Nat.le_of_ble_eq_true hne) hl (Nat.le_of_ble_eq_true hz) (Nat.le_of_ble_eq_true hb0) hb ty (Nat.le_of_ble_eq_true hp)
  rw [← hv] at hrun
  exact gives_value (exec_append rfl hrun) ⟨_, ⟨G', hs'.put (dst := some d) (dstOK_lt (dst := some d) hd) hv'⟩, h⟩

/-- append to a growing slice; the elements as they come -/
theorem appendO {x y : Operand} {t e : Nat} {td ed : TyD} {g : Nat} {es es2 : List (List D)} {b : A} (hx : av f x = some (.own g es)) (hy : av f y = some b) (hb2 : slOf b = some es2) (ht : look' T.l t = some td) (hk : td.k = .slice e) (he : look' T.l e = some ed)
    (hgl : (lv.any fun h => Nat.beq h g) = true) (hz : Nat.blt 0 ed.n = true) (hb0 : Nat.blt 0 ed.b = true) (hd : Nat.blt d n = true) {r : List (List D)} (hr : es ++ es2 = r) (hl : lensB ed.n (es ++ es2) = true) (hb : Nat.ble ((es.length + es2.length) * ed.b) 140737488355328 = true)
    {lv' : List Nat} (hlv : gen :: dropId lv g = lv') (h : WO P C n ops Q rest ⟨(d, .own gen r) :: f, bx, lv', gen + 1⟩) : WO P C n ops Q (⟨some d, .call ⟨.builtin .append, #[x, y], #[t, t]⟩, ty, pos, af, none⟩ :: rest) ⟨f, bx, lv, gen⟩ := by
  subst hr; subst hlv
  exact appendR T hx hy hb2 ht hk he (memAny hgl) hz hb0 hd (lensB_mem hl) (Nat.le_of_ble_eq_true hb) h
end
end Go.Ab
/- Events as text. -/
namespace Go.Tb
open Go.Ab

abbrev wStop : ByteArray := B #[115, 116, 111, 112]
abbrev wSemi : ByteArray := B #[59]
abbrev wSpace : ByteArray := B #[32]
def showsB (f : Frm) (n : Int) : Bool := f.m && (!decide (f.word = wStop) || decide (n = 2))
def stackW (l : List ByteArray) : ByteArray := if l.length = 0 then wSemi else joinB l wSemi
/-- the words of an event's text -/
def wordsF (f : Frm) (e : Ev) : List ByteArray :=
  numB e.time :: f.word :: ((if f.name then [e.name] else []) ++ (if f.n then [numB e.n] else []) ++ (if showsB f e.n then [numB e.m] else []) ++ (if f.stack then [stackW e.stack] else []))
def wordsE (e : Ev) : List ByteArray := wordsF (frmOf e.kind) e
def textE (e : Ev) : ByteArray := if checkE e = 0 then joinB (wordsE e) wSpace else B #[]

theorem joinB_le (sep : ByteArray) {m : Nat} : ∀ (l : List ByteArray), (∀ x ∈ l, x.size ≤ m) → (joinB l sep).size ≤ l.length * (m + sep.size)
  | [], _ => by simp [joinB, ofL_size, Lib.join_nil]
  | [x], h => by
    have := h x (by simp)
    have e : (joinB [x] sep).size = x.size := by
      rw [joinB, ofL_size, List.map_singleton, Lib.join_one]
      exact Array.length_toList
    rw [e]
    simp only [List.length_singleton]
    omega
  | x :: y :: r, h => by
    have h1 := h x (by simp)
    have ih := joinB_le sep (y :: r) (fun z hz => h z (by simp [hz]))
    have e : (joinB (x :: y :: r) sep).size = x.size + sep.size + (joinB (y :: r) sep).size := by
      simp only [joinB, ofL_size, List.map_cons, join_two, List.length_append]
      have e1 : x.data.toList.length = x.size := Array.length_toList
      have e2 : sep.data.toList.length = sep.size := Array.length_toList
      omega
    rw [e]
    simp only [List.length_cons, Nat.succ_mul] at ih ⊢
    omega

theorem name_ok {s : ByteArray} (h : nameErr s = 0) : s.size ≤ 40 ∧ (bys s).all letterB = true ∧ s ≠ B #[] := by
  unfold nameErr at h
  split at h
  · simp at h
  · rename_i hc
    simp only [not_or] at hc
    exact ⟨by omega, by simpa using hc.2.2, hc.1⟩
theorem frames_ok {l : List ByteArray} (h : framesErr l = 0) : l.length ≤ 32 ∧ ∀ s ∈ l, nameErr s = 0 := by
  unfold framesErr at h
  split at h
  · simp at h
  · split at h
    · simp at h
    · rename_i h1 h2
      refine ⟨by omega, fun s hs => ?_⟩
      rw [Bool.not_eq_true, List.any_eq_false] at h2
      simpa using h2 s hs
/-- what an accepted event is -/
structure Good (e : Ev) : Prop where
  time : 0 ≤ e.time ∧ e.time ≤ 1000000000000
  kind : 1 ≤ e.kind ∧ e.kind < 13
  noName : (frmOf e.kind).name = false → e.name = B #[]
  noN : (frmOf e.kind).n = false → e.n = 0
  noM : (frmOf e.kind).m = false → e.m = 0
  noStack : (frmOf e.kind).stack = false → e.stack = []
  name : (frmOf e.kind).name = true → nameErr e.name = 0
  stack : (frmOf e.kind).name = false → framesErr e.stack = 0
  n : (frmOf e.kind).n = true → (frmOf e.kind).least ≤ e.n ∧ e.n ≤ (frmOf e.kind).most
  stop : e.kind = 9 → e.n ≠ 2 → e.m = 0
  m : (frmOf e.kind).m = true → (e.kind ≠ 9 ∨ e.n = 2) → (frmOf e.kind).mLeast ≤ e.m ∧ e.m ≤ (frmOf e.kind).mMost
theorem good_of {e : Ev} (h : checkE e = 0) : Good e := by
  unfold checkE at h
  split at h; · simp at h
  split at h; · simp at h
  split at h; · rename_i h3; exact absurd h h3
  split at h; · simp at h
  split at h; · simp at h
  split at h; · simp at h
  rename_i h1 h2 h3 h4 h5 h6
  simp only [not_or] at h1 h2
  obtain ⟨hk, hn, hN, hM, hS⟩ := h2
  have hk2 : 1 ≤ e.kind ∧ e.kind < 13 := by simp [frmIs] at hk; exact hk
  have h3' : namesE (frmOf e.kind) e = 0 := by simpa using h3
  unfold namesE at h3'
  refine ⟨by omega, hk2, fun q => by simp [q] at hn; exact hn, fun q => by simp [q] at hN; exact hN, fun q => by simp [q] at hM; exact hM, fun q => by simp [q] at hS; exact hS, fun q => by simpa [q] using h3', fun q => by simpa [q] using h3', fun q => by simp only [q, true_and, not_or] at h4; omega, fun q1 q2 => by simp only [q1, true_and, not_and] at h5; have := h5 q2; simpa using this, fun q1 q2 => ?_⟩
  simp only [q1, true_and, not_and] at h6
  by_cases q : e.m < (frmOf e.kind).mLeast ∨ (frmOf e.kind).mMost < e.m
  · exact absurd q2 (h6 q)
  · omega
theorem frm_bounds {k : Int} (h : 1 ≤ k ∧ k < 13) : -1000000000000000 ≤ (frmOf k).least ∧ (frmOf k).most ≤ 1000000000000000 ∧ 0 ≤ (frmOf k).mLeast ∧ (frmOf k).mMost ≤ 1000000000000000 ∧ (frmOf k).word.size ≤ 6 := by
  rcases kinds h.1 h.2 with h | h | h | h | h | h | h | h | h | h | h | h <;> subst h <;> decide
theorem Good.nIn {e : Ev} (g : Good e) : inR e.n = true := by
  have hb := frm_bounds g.kind
  cases h : (frmOf e.kind).n with
  | false => rw [g.noN h]; decide
  | true => have := g.n h; simp only [inR, Bool.and_eq_true, decide_eq_true_eq]; omega
theorem Good.mIn {e : Ev} (g : Good e) : inR e.m = true := by
  have hb := frm_bounds g.kind
  cases h : (frmOf e.kind).m with
  | false => rw [g.noM h]; decide
  | true =>
    by_cases q : e.kind ≠ 9 ∨ e.n = 2
    · have := g.m h q; simp only [inR, Bool.and_eq_true, decide_eq_true_eq]; omega
    · simp only [not_or, Decidable.not_not] at q
      rw [g.stop q.1 q.2]
      decide
theorem inR_iff {n : Int} : inR n = true ↔ -1000000000000000 ≤ n ∧ n ≤ 1000000000000000 := by simp [inR]
theorem Good.frames {e : Ev} (g : Good e) : framesErr e.stack = 0 := by
  cases h : (frmOf e.kind).name with
  | false => exact g.stack h
  | true =>
    have : (frmOf e.kind).stack = false := by
      rcases kinds g.kind.1 g.kind.2 with q | q | q | q | q | q | q | q | q | q | q | q <;> rw [q] at h ⊢ <;> revert h <;> decide
    rw [g.noStack this]
    rfl
theorem Good.stackSize {e : Ev} (g : Good e) : (joinB e.stack wSemi).size ≤ 1400 := by
  obtain ⟨h1, h2⟩ := frames_ok g.frames
  have h3 := joinB_le wSemi e.stack (m := 40) (fun x hx => (name_ok (h2 x hx)).1)
  have : wSemi.size = 1 := rfl
  have h4 : e.stack.length * (40 + wSemi.size) ≤ 32 * (40 + wSemi.size) := Nat.mul_le_mul_right _ h1
  omega
theorem numB_small {n : Int} (h : inR n = true) : (numB n).size ≤ 17 := by
  have h1 := inR_iff.1 h
  have h2 := itoa_len (n := n) (by have : (10 : Nat) ^ 16 = 10000000000000000 := by decide
                                   omega)
  have h3 : (numB n).size = (Lib.itoa n).length := Array.length_toList.symm
  omega
theorem Good.timeIn {e : Ev} (g : Good e) : inR e.time = true := by rw [inR_iff]; have := g.time; omega
theorem Good.wordsSize {e : Ev} (g : Good e) : (wordsE e).length ≤ 6 ∧ (∀ x ∈ wordsE e, x.size ≤ 1400) ∧ (joinB (wordsE e) wSpace).size ≤ 1000000 := by
  have hl : (wordsE e).length ≤ 6 := by
    unfold wordsE wordsF
    simp only [List.length_cons, List.length_append]
    split <;> split <;> split <;> split <;> simp
  have hx : ∀ x ∈ wordsE e, x.size ≤ 1400 := by
    intro x hx
    have h1 := numB_small g.timeIn
    have h2 := numB_small g.nIn
    have h3 := numB_small g.mIn
    have h4 := (frm_bounds g.kind).2.2.2.2
    unfold wordsE wordsF at hx
    simp only [List.mem_cons, List.mem_append] at hx
    rcases hx with rfl | rfl | ((hx | hx) | hx) | hx
    · omega
    · omega
    · split at hx
      · rename_i q
        simp only [List.mem_singleton] at hx
        subst hx
        have := (name_ok (g.name q)).1
        omega
      · simp at hx
    · split at hx <;> simp at hx
      subst hx; omega
    · split at hx <;> simp at hx
      subst hx; omega
    · split at hx <;> simp at hx
      subst hx
      unfold stackW
      split
      · decide
      · exact g.stackSize
  refine ⟨hl, hx, ?_⟩
  have h3 := joinB_le wSpace _ hx
  have h4 : (wordsE e).length * (1400 + wSpace.size) ≤ 6 * (1400 + wSpace.size) := Nat.mul_le_mul_right _ hl
  have : wSpace.size = 1 := rfl
  omega
end Go.Tb
/- Events read from words. -/
namespace Go.Tb
open Go.Ab

def takeW (s : List ByteArray × Bool) : ByteArray × List ByteArray × Bool := (s.1.headD (B #[]), s.1.tail, s.2 || s.1.isEmpty)
def takeN (s : List ByteArray × Bool) : Int × List ByteArray × Bool := ((numP (s.1.headD (B #[]))).1, s.1.tail, s.2 || s.1.isEmpty || !(numP (s.1.headD (B #[]))).2)
def kindW (w : ByteArray) : Int := idx (frms.findIdx? fun f => decide (f.word = w) && !decide (w = B #[]))
def ev0 : Ev := ⟨0, 0, B #[], 0, 0, []⟩
/-- what is behind the kind -/
def restP (t k : Int) (s : List ByteArray × Bool) : Ev × List ByteArray × Bool :=
  let f := frmOf k
  let c := if f.name then takeW s else (B #[], s)
  let d := if f.n then takeN c.2 else (0, c.2)
  let m := if showsB f d.1 then takeN d.2 else (0, d.2)
  let t' := if f.stack then takeW m.2 else (wSemi, m.2)
  (⟨t, k, c.1, d.1, m.1, if t'.1 = wSemi then [] else cutB t'.1 59⟩, t'.2)
def readP (ws : List ByteArray) : Ev × List ByteArray × Bool :=
  restP (takeN (ws, false)).1 (kindW (takeW (takeN (ws, false)).2).1) (takeW (takeN (ws, false)).2).2
/-- the event of a text, and the error -/
def parseE (s : ByteArray) : Ev × Int :=
  if 2000 < s.size then (ev0, 7)
  else if kindW (takeW (takeN (cutB s 32, false)).2).1 < 0 then (ev0, 10)
  else if (readP (cutB s 32)).2.2 = true ∨ 0 < (readP (cutB s 32)).2.1.length ∨ textE (readP (cutB s 32)).1 ≠ s then (ev0, 10)
  else ((readP (cutB s 32)).1, 0)

theorem hd_le {l : List ByteArray} {m : Nat} (h : ∀ w ∈ l, w.size ≤ m) : (l.headD (B #[])).size ≤ m := by
  cases l with
  | nil => exact Nat.zero_le _
  | cons a r => exact h a (by simp)
theorem tl_le {l : List ByteArray} {m : Nat} (h : ∀ w ∈ l, w.size ≤ m) : ∀ w ∈ l.tail, w.size ≤ m := fun w hw => h w (List.mem_of_mem_tail hw)
theorem cutB_le {s : ByteArray} {c : UInt8} {m : Nat} (h : s.size ≤ m) : ∀ w ∈ cutB s c, w.size ≤ m := by
  intro w hw
  unfold cutB at hw
  obtain ⟨x, hx, rfl⟩ := List.mem_map.1 hw
  have h1 := cutL_mem c _ x hx
  have h2 : s.data.toList.length = s.size := Array.length_toList
  rw [ofL_size]
  omega

/-! what was written is read -/
theorem letter_not {b : UInt8} (h : letterB b = true) : b ≠ 32 ∧ b ≠ 59 := by
  constructor <;> (rintro rfl; revert h; decide)
theorem numB_not {n : Int} {b : UInt8} (h : b ∈ (numB n).data.toList) : b ≠ 32 ∧ b ≠ 59 := by
  rcases itoa_bytes h with h | rfl
  · constructor <;> (rintro rfl; revert h; decide)
  · decide
theorem name_not {s : ByteArray} (h : nameErr s = 0) {b : UInt8} (hb : b ∈ s.data.toList) : b ≠ 32 ∧ b ≠ 59 :=
  letter_not (List.all_eq_true.1 (name_ok h).2.1 b hb)
theorem join_mem {sep : List UInt8} {b : UInt8} : ∀ {l : List (List UInt8)}, b ∈ Lib.join l sep → b ∈ sep ∨ ∃ x ∈ l, b ∈ x
  | [], h => by simp [Lib.join_nil] at h
  | [x], h => by rw [Lib.join_one] at h; exact .inr ⟨x, by simp, h⟩
  | x :: y :: r, h => by
    rw [join_two] at h
    simp only [List.mem_append] at h
    rcases h with (h | h) | h
    · exact .inr ⟨x, by simp, h⟩
    · exact .inl h
    · rcases join_mem h with h | ⟨z, hz, h⟩
      · exact .inl h
      · exact .inr ⟨z, by simp [hz], h⟩
theorem frm_not {k : Int} (h : 1 ≤ k ∧ k < 13) : (∀ b ∈ (frmOf k).word.data.toList, b ≠ 32) ∧ kindW (frmOf k).word = k := by
  rcases kinds h.1 h.2 with h | h | h | h | h | h | h | h | h | h | h | h <;> subst h <;> decide +kernel
theorem stackW_not {e : Ev} (g : Good e) : ∀ b ∈ (stackW e.stack).data.toList, b ≠ 32 := by
  intro b hb
  unfold stackW at hb
  split at hb
  · revert hb; simp [wSemi]; rintro rfl; decide
  · rcases join_mem hb with h | ⟨x, hx, h⟩
    · revert h; simp [wSemi]; rintro rfl; decide
    · obtain ⟨y, hy, rfl⟩ := List.mem_map.1 hx
      exact (name_not ((frames_ok g.frames).2 y hy) h).1
theorem words_not {e : Ev} (g : Good e) : ∀ x ∈ wordsE e, (32 : UInt8) ∉ x.data.toList := by
  intro x hx hb
  unfold wordsE wordsF at hx
  simp only [List.mem_cons, List.mem_append] at hx
  rcases hx with rfl | rfl | ((hx | hx) | hx) | hx
  · exact (numB_not hb).1 rfl
  · exact (frm_not g.kind).1 _ hb rfl
  · split at hx
    · rename_i q
      simp only [List.mem_singleton] at hx
      subst hx
      exact (name_not (g.name q) hb).1 rfl
    · simp at hx
  · split at hx <;> simp at hx
    subst hx; exact (numB_not hb).1 rfl
  · split at hx <;> simp at hx
    subst hx; exact (numB_not hb).1 rfl
  · split at hx <;> simp at hx
    subst hx; exact stackW_not g _ hb rfl
theorem words_cut {e : Ev} (h : checkE e = 0) : cutB (textE e) 32 = wordsE e := by
  unfold textE
  rw [if_pos h]
  exact cutB_join (by unfold wordsE wordsF; simp) (words_not (good_of h))
theorem stack_cut {e : Ev} (g : Good e) : (if stackW e.stack = wSemi then [] else cutB (stackW e.stack) 59) = e.stack := by
  unfold stackW
  by_cases h0 : e.stack.length = 0
  · rw [if_pos h0, if_pos rfl]
    exact (List.eq_nil_of_length_eq_zero h0).symm
  · rw [if_neg h0]
    have hc : cutB (joinB e.stack wSemi) 59 = e.stack := cutB_join (by intro h; rw [h] at h0; exact h0 rfl) (fun x hx hb => (name_not ((frames_ok g.frames).2 x hx) hb).2 rfl)
    rw [if_neg ?_, hc]
    intro h
    rw [h] at hc
    have h2 : cutB wSemi 59 = [B #[], B #[]] := by decide +kernel
    rw [h2] at hc
    have := (name_ok ((frames_ok g.frames).2 (B #[]) (by rw [← hc]; simp))).2.2
    exact this rfl
theorem read_words {e : Ev} (h : checkE e = 0) : readP (wordsE e) = (e, [], false) := by
  have g := good_of h
  have n1 := numP_num g.timeIn
  have n2 := numP_num g.nIn
  have n3 := numP_num g.mIn
  have hk := (frm_not g.kind).2
  have hs := stack_cut g
  have a1 := g.noName
  have a2 := g.noN
  have a3 := g.noM
  have a4 := g.noStack
  have hsh : showsB (frmOf e.kind) e.n = false → e.m = 0 := by
    intro q
    obtain ⟨u1, u2, u3, u4, u5⟩ : True ∧ True ∧ True ∧ True ∧ True := ⟨trivial, trivial, trivial, trivial, trivial⟩
    cases hm : (frmOf e.kind).m with
    | false => exact a3 hm
    | true =>
      simp only [showsB, hm, Bool.true_and, Bool.or_eq_false_iff, Bool.not_eq_false', decide_eq_true_eq, decide_eq_false_iff_not] at q
      have h9 : e.kind = 9 := by
        have := q.1
        rcases kinds g.kind.1 g.kind.2 with k | k | k | k | k | k | k | k | k | k | k | k <;> rw [k] at this ⊢ <;> revert this <;> decide
      exact g.stop h9 q.2
  obtain ⟨time, kind, name, n, m, stack⟩ := e
  simp only at *
  unfold readP
  simp only [wordsE, wordsF, takeN, takeW, List.headD_cons, List.tail_cons, List.isEmpty_cons, n1, hk, restP, Bool.or_false, Bool.not_true]
  cases b1 : (frmOf kind).name <;> cases b2 : (frmOf kind).n <;> cases b3 : showsB (frmOf kind) n <;> cases b4 : (frmOf kind).stack <;> simp_all
end Go.Tb
/- The reference's way to read an event. -/
namespace Go.Tb
open Go.Ab

def wordAt (ws : List ByteArray) (i : Nat) : ByteArray := ws.getD i (B #[])
def kindR (ws : List ByteArray) : Nat → Int
  | 0 => 0
  | j + 1 => if 1 < ws.length ∧ (frmOf ((j + 1 : Nat) : Int)).word = wordAt ws 1 then ((j + 1 : Nat) : Int) else kindR ws j
def nameR (ws : List ByteArray) (k : Int) : ByteArray × Nat := if usesName k && decide (2 < ws.length) then (wordAt ws 2, 3) else (B #[], 2)
def numRd (use : Bool) (ws : List ByteArray) (i : Nat) : Int × Nat := if use && decide (i < ws.length) then ((numP (wordAt ws i)).1, i + 1) else (0, i)
def stackR (use : Bool) (ws : List ByteArray) (i : Nat) : List ByteArray := if use && decide (i < ws.length) && !decide (wordAt ws i = wSemi) then cutB (wordAt ws i) 59 else []
def readR (ws : List ByteArray) : Ev :=
  let k := kindR ws 12
  let a := nameR ws k
  let n := numRd (usesN k) ws a.2
  let m := numRd (usesM k) ws n.2
  ⟨(numP (wordAt ws 0)).1, k, a.1, n.1, m.1, stackR (usesStack k) ws m.2⟩
theorem wordAt_get {ws : List ByteArray} {i : Nat} (h : i < ws.length) : ws[i]? = some (wordAt ws i) := by
  unfold wordAt
  rw [List.getD_eq_getElem?_getD]
  simp [h]
theorem wordAt_le {ws : List ByteArray} {m : Nat} (h : ∀ w ∈ ws, w.size ≤ m) (i : Nat) : (wordAt ws i).size ≤ m := by
  rcases Nat.lt_or_ge i ws.length with q | q
  · exact h _ (List.mem_of_getElem? (wordAt_get q))
  · unfold wordAt
    rw [List.getD_eq_getElem?_getD, List.getElem?_eq_none q]
    exact Nat.zero_le _
theorem kindR_range (ws : List ByteArray) : ∀ j, j ≤ 12 → 0 ≤ kindR ws j ∧ kindR ws j < 13
  | 0, _ => by simp [kindR]
  | j + 1, h => by
    have := kindR_range ws j (by omega)
    simp only [kindR]
    split <;> omega

theorem kindR_words {e : Ev} (g : Good e) (w1 : ByteArray) (r : List ByteArray) : kindR (w1 :: (frmOf e.kind).word :: r) 12 = e.kind := by
  have hw : wordAt (w1 :: (frmOf e.kind).word :: r) 1 = (frmOf e.kind).word := rfl
  have hl : 1 < (w1 :: (frmOf e.kind).word :: r).length := by simp
  simp only [kindR, hw, hl, true_and]
  rcases kinds g.kind.1 g.kind.2 with h | h | h | h | h | h | h | h | h | h | h | h <;> rw [h] <;> decide +kernel
theorem read_wordsR {e : Ev} (h : checkE e = 0) : readR (wordsE e) = e := by
  have g := good_of h
  have n1 := numP_num g.timeIn
  have n2 := numP_num g.nIn
  have n3 := numP_num g.mIn
  have hk := kindR_words g (numB e.time) ((if (frmOf e.kind).name then [e.name] else []) ++ (if (frmOf e.kind).n then [numB e.n] else []) ++ (if showsB (frmOf e.kind) e.n then [numB e.m] else []) ++ (if (frmOf e.kind).stack then [stackW e.stack] else []))
  have hs := stack_cut g
  have a1 := g.noName
  have a2 := g.noN
  have a3 := g.noM
  have a4 := g.noStack
  have hstop := g.stop
  have hkind := g.kind
  clear h g
  obtain ⟨time, kind, name, n, m, stack⟩ := e
  simp only at *
  unfold readR wordsE wordsF
  simp only [hk]
  have n0 : (numP (wordAt (numB time :: (frmOf kind).word :: ((if (frmOf kind).name then [name] else []) ++ (if (frmOf kind).n then [numB n] else []) ++ (if showsB (frmOf kind) n then [numB m] else []) ++ (if (frmOf kind).stack then [stackW stack] else []))) 0)).1 = time := by
    show (numP (numB time)).1 = time
    rw [n1]
  rw [n0]
  rcases kinds hkind.1 hkind.2 with h | h | h | h | h | h | h | h | h | h | h | h <;> subst h <;>
    simp [nameR, numRd, stackR, usesName, usesN, usesM, usesStack, frmOf, frms, frm0, showsB, wordAt, wStop] at * <;> grind
def parseR (s : ByteArray) : Ev × Int :=
  if 2000 < s.size then (ev0, 7)
  else if s = B #[] ∨ textE (readR (cutB s 32)) ≠ s then (ev0, 10)
  else (readR (cutB s 32), 0)
theorem text_empty {e : Ev} (h : checkE e ≠ 0) : textE e = B #[] := by unfold textE; rw [if_neg h]
theorem cut_empty : cutB (B #[]) 32 = [B #[]] := by decide +kernel
theorem words_two (e : Ev) : 2 ≤ (wordsE e).length := by unfold wordsE wordsF; simp
theorem parseR_eq (s : ByteArray) : parseR s = parseE s := by
  unfold parseR parseE
  by_cases hl : 2000 < s.size
  · rw [if_pos hl, if_pos hl]
  rw [if_neg hl, if_neg hl]
  by_cases hex : ∃ e, checkE e = 0 ∧ textE e = s
  · obtain ⟨e, hc, rfl⟩ := hex
    have hcut := words_cut hc
    rw [hcut, read_wordsR hc, read_words hc]
    have hne : textE e ≠ B #[] := by
      intro h
      rw [h, cut_empty] at hcut
      have := words_two e
      rw [← hcut] at this
      simp at this
    have hk : kindW (takeW (takeN (wordsE e, false)).2).1 = e.kind := (frm_not (good_of hc).kind).2
    have := (good_of hc).kind
    rw [hk, if_neg (by simp [hne]), if_neg (by omega), if_neg (by simp)]
  · have hr : s = B #[] ∨ textE (readR (cutB s 32)) ≠ s := by
      by_cases h0 : s = B #[]
      · exact .inl h0
      · refine .inr fun h => ?_
        by_cases hc : checkE (readR (cutB s 32)) = 0
        · exact hex ⟨_, hc, h⟩
        · rw [text_empty hc] at h; exact h0 h.symm
    rw [if_pos hr]
    split
    · rfl
    · rw [if_pos]
      by_cases h0 : s = B #[]
      · subst h0
        left
        rw [cut_empty]
        decide +kernel
      · refine .inr (.inr fun h => ?_)
        by_cases hc : checkE (readP (cutB s 32)).1 = 0
        · exact hex ⟨_, hc, h⟩
        · rw [text_empty hc] at h; exact h0 h.symm
end Go.Tb
/- A valid event's text is read back. -/
namespace Go.Tb
open Go.Ab

theorem joinB_sum (sep : ByteArray) : ∀ (l : List ByteArray), (joinB l sep).size ≤ (l.map ByteArray.size).sum + l.length * sep.size
  | [] => by simp [joinB, ofL_size, Lib.join_nil]
  | [x] => by
    have e : (joinB [x] sep).size = x.size := by
      rw [joinB, ofL_size, List.map_singleton, Lib.join_one]
      exact Array.length_toList
    rw [e]
    simp
  | x :: y :: r => by
    have ih := joinB_sum sep (y :: r)
    have e : (joinB (x :: y :: r) sep).size = x.size + sep.size + (joinB (y :: r) sep).size := by
      simp only [joinB, ofL_size, List.map_cons, join_two, List.length_append]
      have e1 : x.data.toList.length = x.size := Array.length_toList
      have e2 : sep.data.toList.length = sep.size := Array.length_toList
      omega
    rw [e]
    simp only [List.map_cons, List.sum_cons, List.length_cons, Nat.succ_mul] at ih ⊢
    omega
theorem text_size {e : Ev} (h : checkE e = 0) : (textE e).size ≤ 2000 := by
  have g := good_of h
  have h1 := numB_small g.timeIn
  have h2 := numB_small g.nIn
  have h3 := numB_small g.mIn
  have h4 := (frm_bounds g.kind).2.2.2.2
  have h5 : (stackW e.stack).size ≤ 1400 := by
    unfold stackW
    split
    · decide
    · exact g.stackSize
  have h6 : (frmOf e.kind).name = true → e.name.size ≤ 40 := fun q => (name_ok (g.name q)).1
  unfold textE
  rw [if_pos h]
  have hs := joinB_sum wSpace (wordsE e)
  have hw : wSpace.size = 1 := rfl
  rw [hw] at hs
  unfold wordsE wordsF at hs ⊢
  cases b1 : (frmOf e.kind).name <;> cases b2 : (frmOf e.kind).n <;> cases b3 : showsB (frmOf e.kind) e.n <;> cases b4 : (frmOf e.kind).stack <;> simp [b1, b2, b3, b4] at hs h6 ⊢ <;> omega
/-- what was written is read -/
theorem parse_text {e : Ev} (h : checkE e = 0) : parseE (textE e) = (e, 0) := by
  have g := good_of h
  have hcut := words_cut h
  have hk : kindW (takeW (takeN (wordsE e, false)).2).1 = e.kind := (frm_not g.kind).2
  have hz := text_size h
  have := g.kind
  unfold parseE
  rw [if_neg (by omega), hcut, hk, if_neg (by omega), read_words h, if_neg (by simp)]
theorem parse_empty : parseE (B #[]) = (ev0, 10) := by
  rw [← parseR_eq]
  unfold parseR
  rw [if_neg (by decide), if_pos (.inl rfl)]
/-- what is accepted is an event's text -/
theorem parse_ok {s : ByteArray} (h : (parseE s).2 = 0) : textE (parseE s).1 = s ∧ checkE (parseE s).1 = 0 := by
  rw [← parseR_eq] at h ⊢
  unfold parseR at h ⊢
  split at h
  · simp at h
  · rename_i h1
    rw [if_neg h1]
    split at h
    · simp at h
    · rename_i h2
      rw [if_neg h2]
      simp only [not_or, ne_eq, Decidable.not_not] at h2
      refine ⟨h2.2, ?_⟩
      by_cases hc : checkE (readR (cutB s 32)) = 0
      · exact hc
      · rw [text_empty hc] at h2; exact absurd h2.2.symm h2.1
theorem text_inj {a b : Ev} (ha : checkE a = 0) (hb : checkE b = 0) (h : textE a = textE b) : a = b := by
  have h1 := parse_text ha
  rw [h, parse_text hb] at h1
  exact (congrArg Prod.fst h1).symm
end Go.Tb
