import Derived.Test.YtmhjgeneogknpaaGreatQ2
import Derived.Laws.Cover3
import Derived.Lib.Bytealg
import Derived.Laws.Externs
/- Regions that draw their order and make boxes: allocations and one store commute with the rest; the last operations, bound after all others, are walked one by one. -/
namespace Go.Ab
open Go.RowKit

abbrev Bt := Nat → Option (List A)
def putB (β : Bt) : Option (Nat × List A) → Bt
  | some (g, c) => fun h => if h = g then some c else β h
  | none => β

def isNew (o : Oper) : Bool := match o.op with | .alloc _ => true | .box _ _ => true | _ => false
def isSt (o : Oper) : Bool := match o.op with | .store _ _ _ => true | _ => false
/-- how many boxes are made before operation i -/
def cntNew : List Oper → Nat → Nat
  | [], _ => 0
  | _ :: _, 0 => 0
  | o :: r, i + 1 => (bif isNew o then 1 else 0) + cntNew r i

theorem cntNew_le : ∀ (l : List Oper) {i j : Nat}, i ≤ j → cntNew l i ≤ cntNew l j
  | [], i, j, _ => by simp [cntNew]
  | o :: r, 0, j, _ => by simp [cntNew]
  | o :: r, i + 1, 0, h => by omega
  | o :: r, i + 1, j + 1, h => by have := cntNew_le r (i := i) (j := j) (by omega); simp only [cntNew]; omega

theorem cntNew_succ : ∀ {l : List Oper} {i : Nat} {o : Oper}, l[i]? = some o → isNew o = true → cntNew l (i + 1) = cntNew l i + 1
  | [], i, o, h, _ => by simp at h
  | x :: r, 0, o, h, hn => by
    simp at h
    subst h
    cases r <;> simp [cntNew, hn]
  | x :: r, i + 1, o, h, hn => by
    have := cntNew_succ (l := r) (i := i) (by simpa using h) hn
    simp only [cntNew] at this ⊢
    rw [this]
    omega

theorem cntNew_lt {l : List Oper} {i j : Nat} {o : Oper} (h : l[i]? = some o) (hn : isNew o = true) (hij : i < j) : cntNew l i < cntNew l j := by
  have h1 := cntNew_succ h hn
  have h2 := cntNew_le l (i := i + 1) (j := j) (by omega)
  omega

section
variable {P : Program} (T : Tab P) {C : Ctx} {n : Nat} {bx : List (Nat × List A)} {lv : List Nat} {gen r : Nat} {ops : Array Oper} {md : Region.Mode} {m : Nat}

abbrev Sg := Fr' × Bt

structure SimE (C : Ctx) (n : Nat) (bx : List (Nat × List A)) (lv : List Nat) (gen r : Nat) (σ : Sg) (G : Gh) (tmps : Array Value) (w : World) : Prop where
  s : SimG C n ⟨[], bx, lv, gen + r⟩ G tmps w
  f : ∀ t a, σ.1 t = some a → ∃ v, tmps[t]? = some v ∧ Rep (enOf C G (gen + r) w) v a
  b : ∀ g cells, σ.2 g = some cells → gen ≤ g ∧ ∃ b cs T, G.box g = some b ∧ w.heap[b]? = some (.cells cs T (0, 0)) ∧ cs.size = cells.length ∧
    (∀ (i : Nat) (u : Value), cs[i]? = some u → u.oneCell' = true) ∧ ∀ (i : Nat) (u : Value) (a : A), cs[i]? = some u → cells[i]? = some a → Rep (enOf C G (gen + r) w) u a
  n : ∀ g, gen ≤ g → σ.2 g = none → G.box g = none
  o : ∀ g, gen ≤ g → ∀ c, look' bx g ≠ some c

/-- the state, told by lists -/
theorem SimE.toG {σ : Sg} {G : Gh} {tmps : Array Value} {w : World} (h : SimE C n bx lv gen r σ G tmps w) {f : List (Nat × A)} {bn : List (Nat × List A)} (hf : ∀ t a, look f t = some a → σ.1 t = some a) (hb : ∀ g c, look' bn g = some c → σ.2 g = some c) :
    SimG C n ⟨f, bn ++ bx, lv, gen + r⟩ G tmps w :=
  { h.s with frame := fun t a ha => h.f t a (hf t a ha), box := fun g c hc => (look'_append hc).elim (fun h1 => (h.b g c (hb g c h1)).2) (h.s.box g c) }

theorem SimE.ofG {f : List (Nat × A)} {G : Gh} {tmps : Array Value} {w : World} (h : SimG C n ⟨f, bx, lv, gen⟩ G tmps w) : SimE C n bx lv gen r (look f, fun _ => none) G tmps w := by
  have h2 : SimG C n ⟨f, bx, lv, gen + r⟩ G tmps w := SimG.later (st := ⟨f, bx, lv, gen⟩) h (Nat.le_add_right _ _)
  refine ⟨{ h2 with frame := fun t a ha => by simp [look] at ha }, h2.frame, (fun g c hc => nomatch hc), fun g hg _ => ?_, fun g hg c hc => ?_⟩
  rotate_left
  · obtain ⟨b, _, _, h1, _⟩ := h.box g c hc
    have := (h.gbox g b h1).1
    simp only at this
    omega
  cases hb : G.box g with
  | none => rfl
  | some b => have := (h.gbox g b hb).1; simp only at this; omega

/-- an operation that leaves the ghost as it is -/
theorem SimE.step {σ : Sg} {G : Gh} {tmps : Array Value} {w w' : World} (h : SimE C n bx lv gen r σ G tmps w) (hb : Below w.heap.size w w') {dst : Option Nat} (hd : dstOK n dst = true) {v : Value} {a : A} (hr : Rep (enOf C G (gen + r) w') v a) :
    SimE C n bx lv gen r (putF σ.1 dst a, σ.2) G (Act.put ⟨tmps, []⟩ dst v).tmps w' := by
  obtain ⟨hle, hs⟩ := h.s.evolve hb
  have hbx : ∀ g cells, σ.2 g = some cells → gen ≤ g ∧ ∃ b cs T, G.box g = some b ∧ w'.heap[b]? = some (.cells cs T (0, 0)) ∧ cs.size = cells.length ∧
    (∀ (i : Nat) (u : Value), cs[i]? = some u → u.oneCell' = true) ∧ ∀ (i : Nat) (u : Value) (a : A), cs[i]? = some u → cells[i]? = some a → Rep (enOf C G (gen + r) w') u a := by
    intro g cells hg
    obtain ⟨h0, b, cs, T, h1, h2, h3, h4, h5⟩ := h.b g cells hg
    exact ⟨h0, b, cs, T, h1, by rw [hb.block b (h.s.gbox g b h1).2.1]; exact h2, h3, h4, fun i u a hu ha => (h5 i u a hu ha).mono hle⟩
  cases dst with
  | none => exact ⟨hs, fun t a ha => let ⟨v, h1, h2⟩ := h.f t a ha; ⟨v, h1, h2.mono hle⟩, hbx, h.n, h.o⟩
  | some d =>
    refine ⟨{ hs with size := by have := hs.size; simpa [Act.put] using this, frame := fun t a ha => by simp [look] at ha }, fun t b hb' => ?_, hbx, h.n, h.o⟩
    simp only [putF] at hb'
    split at hb'
    · rename_i e
      subst e
      simp only [Option.some.injEq] at hb'
      subst hb'
      exact ⟨v, by simp [Act.put, Array.getElem?_setIfInBounds, hs.size, dstOK_lt hd], hr⟩
    · rename_i e
      obtain ⟨u, h1, h2⟩ := h.f t b hb'
      exact ⟨u, by simp only [Act.put]; rw [Array.getElem?_setIfInBounds_ne (Ne.symm e)]; exact h1, h2.mono hle⟩

/-- a box is made under a name kept for it -/
theorem SimE.mkBox {σ : Sg} {G : Gh} {tmps : Array Value} {w : World} (h : SimE C n bx lv gen r σ G tmps w) {g : Nat} (hg : gen ≤ g) (hgr : g < gen + r) (hn : σ.2 g = none) (cs : Array Value) (T : TypeId) (cells : List A) (hrc : RepC (enOf C G (gen + r) w) cs cells)
    {d : Nat} (hd : d < n) : ∃ G', SimE C n bx lv gen r (putF σ.1 (some d) (.ptr g 0), putB σ.2 (some (g, cells))) G' (tmps.setIfInBounds d (.pointer (some ⟨w.heap.size, 0, none⟩))) (w.alloc (.cells cs T)) := by
  obtain ⟨hs, h1, hc'⟩ := hrc
  have hgn := h.n g hg hn
  have hb : Below w.heap.size w (w.alloc (.cells cs T)) := (Below.refl _ w).alloc (Nat.le_refl _) _
  let G' : Gh := ⟨fun g' => if g' = g then some w.heap.size else G.box g', G.own⟩
  have hsz : w.heap.size < (w.alloc (.cells cs T)).heap.size := by simp
  have hGe : ∀ {g' b}, G.box g' = some b → G'.box g' = some b := by
    intro g' b hb'
    simp only [G']
    rw [if_neg (by rintro rfl; rw [hgn] at hb'; cases hb')]
    exact hb'
  have hle : (enOf C G (gen + r) w).le (enOf C G' (gen + r) (w.alloc (.cells cs T))) := by
    refine ⟨fun b o u hu hn' => ?_, fun b o u hu ho => ?_, fun g' b hb' => hGe hb', fun _ _ _ h => h, Nat.le_refl _⟩
    · have hlt := cellAt_lt hu
      refine ⟨by show cellAt (w.alloc _) b o = _; rw [cellAt_same (hb.block b hlt)]; exact hu, fun hp => hn' ?_⟩
      rcases hp with hp | ⟨g', hp⟩ | hp
      · exact .inl hp
      · simp only [G'] at hp
        split at hp
        · simp only [Option.some.injEq] at hp
          have : b < w.heap.size := hlt
          omega
        · exact .inr (.inl ⟨g', hp⟩)
      · exact .inr (.inr hp)
    · have hlt := cellAt_lt hu
      exact ⟨by show cellAt (w.alloc _) b o = _; rw [cellAt_same (hb.block b hlt)]; exact hu, ho⟩
  have hrow0 : ∀ g' b len cap sz, G.own g' = some (.blk b len cap sz) → b < w.heap.size := fun g' b len cap sz hr => by
    obtain ⟨_, _, _, cur, T', h4, _⟩ := h.s.row g' b len cap sz hr
    exact (Array.getElem?_eq_some_iff.1 h4).1
  refine ⟨G', { s := { size := (by have := h.s.size; simpa using this), frame := (fun t a ha => by simp [look] at ha), xold := h.s.xold, kold := h.s.kold, lent := (fun i b hb => hGe (h.s.lent i b hb)), fr := h.s.fr.below hb, live := h.s.live, gown := h.s.gown, box := fun g' c hc => ?_, gbox := fun g' b hb' => ?_, inj := fun g1 g2 b hb1 hb2 => ?_, row := fun g' b len cap sz hr => ?_ }, f := fun t a ha => ?_, b := fun g' c hc => ?_, n := fun g' hg' hn' => ?_, o := h.o }⟩
  · obtain ⟨b, cs', T', h1', h2, h3, h4, h5⟩ := h.s.box g' c hc
    exact ⟨b, cs', T', hGe h1', by rw [hb.block b (h.s.gbox g' b h1').2.1]; exact h2, h3, h4, fun i u a hu ha => (h5 i u a hu ha).mono hle⟩
  · simp only [G'] at hb'
    split at hb'
    · rename_i e
      subst e
      simp only [Option.some.injEq] at hb'
      subst hb'
      exact ⟨hgr, hsz, .inl h.s.fr.size, fun o ho => absurd (h.s.kold _ o ho) (by have := h.s.fr.size; omega)⟩
    · obtain ⟨h6, h7, h8⟩ := h.s.gbox g' b hb'
      exact ⟨h6, by simp; omega, h8⟩
  · simp only [G'] at hb1 hb2
    split at hb1 <;> split at hb2
    · simp_all
    · simp only [Option.some.injEq] at hb1; have := (h.s.gbox g2 b hb2).2.1; omega
    · simp only [Option.some.injEq] at hb2; have := (h.s.gbox g1 b hb1).2.1; omega
    · exact h.s.inj g1 g2 b hb1 hb2
  · obtain ⟨h1', h2, h3, cur, T', h4, h5⟩ := h.s.row g' b len cap sz hr
    refine ⟨h1', fun g2 hg2 => ?_, h3, cur, T', by rw [hb.block b (hrow0 g' b len cap sz hr)]; exact h4, h5⟩
    simp only [G'] at hg2
    split at hg2
    · simp only [Option.some.injEq] at hg2; have := hrow0 g' b len cap sz hr; omega
    · exact h2 g2 hg2
  · simp only [putF] at ha
    split at ha
    · rename_i e
      subst e
      simp only [Option.some.injEq] at ha
      subst ha
      exact ⟨_, by have := h.s.size; simp [Array.getElem?_setIfInBounds, this, hd], .ptr _ g 0 w.heap.size (by simp [enOf]; omega) (by simp [enOf, G']) rfl⟩
    · rename_i e
      obtain ⟨u, h6, h7⟩ := h.f t a ha
      exact ⟨u, by rw [Array.getElem?_setIfInBounds_ne (Ne.symm e)]; exact h6, h7.mono hle⟩
  · simp only [putB] at hc
    split at hc
    · rename_i e
      subst e
      simp only [Option.some.injEq] at hc
      subst hc
      exact ⟨hg, w.heap.size, cs, T, by simp [G'], heap_alloc_new w _, hs, h1, fun i u a hu ha => (hc' i u a hu ha).mono hle⟩
    · obtain ⟨h0, b, cs', T', h1', h2, h3, h4, h5⟩ := h.b g' c hc
      exact ⟨h0, b, cs', T', hGe h1', by rw [hb.block b (h.s.gbox g' b h1').2.1]; exact h2, h3, h4, fun i u a hu ha => (h5 i u a hu ha).mono hle⟩
  · simp only [putB] at hn'
    split at hn'
    · cases hn'
    · rename_i e
      simp only [G']
      rw [if_neg e]
      exact h.n g' hg' hn'

/-- a new box is written -/
theorem SimE.store {σ : Sg} {G : Gh} {tmps : Array Value} {w : World} (h : SimE C n bx lv gen r σ G tmps w) {g b : Nat} {cs cs' : Array Value} {T : TypeId} {cells cells' : List A} (hb : σ.2 g = some cells) (hg : G.box g = some b) (hw : w.heap[b]? = some (.cells cs T (0, 0)))
    (hr : RepC (enOf C G (gen + r) w) cs' cells') : SimE C n bx lv gen r (σ.1, putB σ.2 (some (g, cells'))) G tmps (w.setRow b cs') := by
  have hgg := (h.b g cells hb).1
  have hb' : w.heap[b]? ≠ none := by rw [hw]; simp
  have hm := (h.s.gbox g b hg).2.2
  have hfr : Fr C (w.setRow b cs') := ⟨h.s.fr.os, h.s.fr.tape, h.s.fr.output, by rw [size_setRow]; exact h.s.fr.size, fun b' h1 h2 => by
    rw [setRow_other w b b' cs' (fun e => by subst e; exact hm.1.elim (fun hm => by omega) h2)]; exact h.s.fr.block b' h1 h2, fun b' o u hk hu => by
    rw [cellAt_same (setRow_other w b b' cs' (fun e => by subst e; exact absurd (hm.2 o hk) (Nat.not_lt_zero _)))]; exact h.s.fr.cells b' o u hk hu⟩
  have hle : (enOf C G (gen + r) w).le (enOf C G (gen + r) (w.setRow b cs')) := by
    refine leOf (st := ⟨[], bx, lv, gen + r⟩) h.s.fr hfr (fun b' o u hu hn => ⟨?_, hn⟩) (fun _ _ h => h) (fun _ _ _ h => h) (Nat.le_refl _)
    have : b' ≠ b := fun e => hn (.inr (.inl ⟨g, by rw [e]; exact hg⟩))
    rw [cellAt_same (setRow_other w b b' cs' this)]
    exact hu
  refine { s := { size := h.s.size, frame := fun t a ha => by simp [look] at ha, inj := h.s.inj, xold := h.s.xold, kold := h.s.kold, lent := h.s.lent, fr := hfr, live := h.s.live, gown := h.s.gown, box := fun g' c hc => ?_, gbox := fun g' b' hgb => ?_, row := fun g' b' len cap sz hgb => ?_ }, f := fun t a ha => let ⟨v, h1, h2⟩ := h.f t a ha; ⟨v, h1, h2.mono hle⟩, b := fun g' c hc => ?_, n := fun g' hg' hn' => ?_, o := h.o }
  · obtain ⟨b', cs2, T', h1, h2, h3, h4, h5⟩ := h.s.box g' c hc
    by_cases e : b' = b
    · subst e
      -- then the old name is the new one; its cells are no longer told
      have e2 := h.s.inj g' g b' h1 hg
      subst e2
      exact absurd hc (h.o g' hgg c)
    · exact ⟨b', cs2, T', h1, by rw [setRow_other w b b' cs' e]; exact h2, h3, h4, fun i u a hu ha => (h5 i u a hu ha).mono hle⟩
  · obtain ⟨h1, h2, h3⟩ := h.s.gbox g' b' hgb
    exact ⟨h1, by rw [size_setRow]; exact h2, h3⟩
  · obtain ⟨h1, h2, h3, cur, T', h4, h5⟩ := h.s.row g' b' len cap sz hgb
    have hne : b' ≠ b := fun e => h2 g (by rw [e]; exact hg)
    exact ⟨h1, h2, h3, cur, T', by rw [setRow_other w b b' cs' hne]; exact h4, h5⟩
  · simp only [putB] at hc
    split at hc
    · rename_i e
      subst e
      simp only [Option.some.injEq] at hc
      subst hc
      exact ⟨hgg, b, cs', T, hg, setRow_heap w b cs cs' T (0, 0) hw, hr.1, hr.2.1, fun i u a hu ha => (hr.2.2 i u a hu ha).mono hle⟩
    · rename_i e
      obtain ⟨h0, b', cs2, T', h1, h2, h3, h4, h5⟩ := h.b g' c hc
      have hne : b' ≠ b := fun e' => e (h.s.inj g' g b (e' ▸ h1) hg)
      exact ⟨h0, b', cs2, T', h1, by rw [setRow_other w b b' cs' hne]; exact h2, h3, h4, fun i u a hu ha => (h5 i u a hu ha).mono hle⟩
  · simp only [putB] at hn'
    split at hn'
    · cases hn'
    · exact h.n g' hg' hn'


/-- in this state operation i gives 'a' and writes 'u' -/
def YE (P : Program) (T : Tab P) (C : Ctx) (n : Nat) (bx : List (Nat × List A)) (lv : List Nat) (gen r : Nat) (ops : Array Oper) (i : Nat) (o : Oper) (a : A) (u : Option (Nat × List A)) (σ : Sg) : Prop :=
  dstOK n o.dst = true ∧
    ((isNew o = false ∧ u = none ∧ YA P C n bx lv (gen + r) ops o a σ.1) ∨
     (isNew o = true ∧ o.guard = none ∧ σ.2 (gen + cntNew ops.toList i) = none ∧ cntNew ops.toList i < r ∧ a = .ptr (gen + cntNew ops.toList i) 0 ∧ ∃ d cells, o.dst = some d ∧ u = some (gen + cntNew ops.toList i, cells) ∧
        ((∃ e dt, o.op = .alloc e ∧ look' T.l e = some dt ∧ cells = dt.z.map fun v => A.d (.v v)) ∨
         (∃ e x f y, o.op = .box e x ∧ (∀ t z, look f t = some z → σ.1 t = some z ∧ t ∈ o.looksAt ops) ∧ av f x = some y ∧ cellsOf bx y = some cells))) ∨
     (isSt o = true ∧ o.guard = none ∧ o.dst = none ∧ a = .any ∧ ∃ t dx y k ok f z cells cs, o.op = .store t (.tmp dx) y ∧ ops[k]? = some ok ∧ isNew ok = true ∧ ok.dst = some dx ∧ (∀ t z, look f t = some z → σ.1 t = some z ∧ t ∈ o.looksAt ops) ∧
        σ.1 dx = some (.ptr (gen + cntNew ops.toList k) 0) ∧ av f y = some z ∧ cellsOf bx z = some cs ∧ szAt T t = cs.length ∧ cs.length ≠ 0 ∧ cs.length ≤ cells.length ∧ σ.2 (gen + cntNew ops.toList k) = some cells ∧
        u = some (gen + cntNew ops.toList k, setAt cells 0 cs)))

/-- apart, and not both stores -/
def apartE (ops : Array Oper) (x y : Oper) : Prop := x.apart ops y = true ∧ ¬ (isSt x = true ∧ isSt y = true)

theorem isNew_isSt {o : Oper} (h : isNew o = true) : isSt o = false := by
  unfold isNew at h
  unfold isSt
  split at h <;> simp_all

theorem mem_looks {dx : Nat} {t : TypeId} {y : Operand} {o : Oper} (h : o.op = .store t (.tmp dx) y) : dx ∈ o.looksAt ops := by
  unfold Oper.looksAt
  rw [h]
  exact List.mem_append.2 (.inl (by simp [Op.operands]))

section
variable {T}
/-- what u names, by operation i -/
theorem YE.name {i : Nat} {o : Oper} {a : A} {g : Nat} {c : List A} {σ : Sg} (hi : ops[i]? = some o) (h : YE P T C n bx lv gen r ops i o a (some (g, c)) σ) :
    ∃ k ok dx, ops[k]? = some ok ∧ isNew ok = true ∧ ok.dst = some dx ∧ g = gen + cntNew ops.toList k ∧ ((k = i) ∨ (isSt o = true ∧ dx ∈ o.looksAt ops)) := by
  rcases h with ⟨_, ⟨_, h, _⟩ | ⟨h1, _, _, _, _, d, cells, h2, h3, _⟩ | ⟨h1, _, _, _, t, dx, y, k, ok, f, z, cells, cs, h2, h3, h4, h5, _, _, _, _, _, _, _, _, h6⟩⟩
  · cases h
  · simp only [Option.some.injEq, Prod.mk.injEq] at h3
    exact ⟨i, o, d, hi, h1, h2, h3.1, .inl rfl⟩
  · simp only [Option.some.injEq, Prod.mk.injEq] at h6
    exact ⟨k, ok, dx, h3, h4, h5, h6.1, .inr ⟨h1, mem_looks h2⟩⟩

theorem cnt_inj {k k' : Nat} {o o' : Oper} (hk : ops[k]? = some o) (hk' : ops[k']? = some o') (hn : isNew o = true) (hn' : isNew o' = true) (h : cntNew ops.toList k = cntNew ops.toList k') : k = k' := by
  rcases Nat.lt_trichotomy k k' with hlt | he | hgt
  · have := cntNew_lt (l := ops.toList) (by simpa using hk) hn hlt; omega
  · exact he
  · have := cntNew_lt (l := ops.toList) (by simpa using hk') hn' hgt; omega

/-- two apart operations write different boxes -/
theorem names_ne {i j : Nat} {oi oj : Oper} {a b : A} {g g' : Nat} {c c' : List A} {σ σ' : Sg} (hi : ops[i]? = some oi) (hj : ops[j]? = some oj) (hij : i ≠ j) (hap : apartE ops oi oj) (h : YE P T C n bx lv gen r ops i oi a (some (g, c)) σ)
    (h' : YE P T C n bx lv gen r ops j oj b (some (g', c')) σ') : g ≠ g' := by
  rintro rfl
  obtain ⟨k, ok, dx, h1, h2, h3, h4, h5⟩ := YE.name hi h
  obtain ⟨k', ok', dx', h1', h2', h3', h4', h5'⟩ := YE.name hj h'
  have e : k = k' := cnt_inj h1 h1' h2 h2' (by omega)
  subst e
  rw [h1] at h1'
  simp only [Option.some.injEq] at h1'
  subst h1'
  rw [h3] at h3'
  simp only [Option.some.injEq] at h3'
  subst h3'
  obtain ⟨ha, hs⟩ := hap
  obtain ⟨a1, a2, a3⟩ := Oper.apart_spec ha
  rcases h5 with e | ⟨e, hm⟩ <;> rcases h5' with e' | ⟨e', hm'⟩
  · exact hij (e.symm.trans e')
  · subst e
    rw [hi] at h1
    simp only [Option.some.injEq] at h1
    subst h1
    exact a1 dx h3 hm'
  · subst e'
    rw [hj] at h1
    simp only [Option.some.injEq] at h1
    subst h1
    exact a3 dx h3 hm
  · exact hs ⟨e, e'⟩

theorem putF_key {φ : Fr'} {o : Oper} {dst : Option Nat} {x : A} (hd : ∀ d, dst = some d → d ∉ o.looksAt ops) {t : Nat} (ht : t ∈ o.looksAt ops) : putF φ dst x t = φ t := by
  cases dst with
  | none => rfl
  | some e =>
    have : t ≠ e := fun h => by subst h; exact hd t rfl ht
    simp [putF, this]

/-- what another operation's effect changes for this one: nothing -/
theorem YE_fwd {i j : Nat} {oi oj : Oper} {a b : A} {u v : Option (Nat × List A)} {σ σ' : Sg} (hi : ops[i]? = some oi) (hj : ops[j]? = some oj) (hij : i ≠ j) (hap : apartE ops oi oj) (h : YE P T C n bx lv gen r ops i oi a u σ) (hj' : YE P T C n bx lv gen r ops j oj b v σ') :
    YE P T C n bx lv gen r ops i oi a u (putF σ.1 oj.dst b, putB σ.2 v) := by
  obtain ⟨a1, a2, a3⟩ := Oper.apart_spec hap.1
  have hv : ∀ {g c}, u = some (g, c) → putB σ.2 v g = σ.2 g := by
    intro g c hu
    cases v with
    | none => rfl
    | some x =>
      obtain ⟨g', c'⟩ := x
      subst hu
      have := names_ne hi hj hij hap h hj'
      simp [putB, this]
  obtain ⟨h0, h | h | h⟩ := id h
  · exact ⟨h0, .inl ⟨h.1, h.2.1, (YA_put a3).2 h.2.2⟩⟩
  · obtain ⟨h1, h2, h3, h4, h5, d, cells, h6, h7, h8⟩ := h
    refine ⟨h0, .inr (.inl ⟨h1, h2, (hv h7).trans h3, h4, h5, d, cells, h6, h7, h8.imp id ?_⟩)⟩
    rintro ⟨e, x, f, y, g1, g2, g3⟩
    exact ⟨e, x, f, y, g1, fun t z hz => ⟨(putF_key a3 (g2 t z hz).2).trans (g2 t z hz).1, (g2 t z hz).2⟩, g3⟩
  · obtain ⟨h1, h2, h3, h4, t, dx, y, k, ok, f, z, cells, cs, g1, g2, g3, g4, g5, g6, g7, g8, g9, g10, g11, g12, g13⟩ := h
    exact ⟨h0, .inr (.inr ⟨h1, h2, h3, h4, t, dx, y, k, ok, f, z, cells, cs, g1, g2, g3, g4, fun t z hz => ⟨(putF_key a3 (g5 t z hz).2).trans (g5 t z hz).1, (g5 t z hz).2⟩,
      (putF_key a3 (mem_looks g1)).trans g6, g7, g8, g9, g10, g11, (hv g13).trans g12, g13⟩)⟩

theorem YE_bwd {i j : Nat} {oi oj : Oper} {a b : A} {u v : Option (Nat × List A)} {σ σ' : Sg} (hi : ops[i]? = some oi) (hj : ops[j]? = some oj) (hij : i ≠ j) (hap : apartE ops oi oj) (hi' : YE P T C n bx lv gen r ops i oi a u σ')
    (h : YE P T C n bx lv gen r ops j oj b v (putF σ.1 oi.dst a, putB σ.2 u)) : YE P T C n bx lv gen r ops j oj b v σ := by
  obtain ⟨a1, a2, a3⟩ := Oper.apart_spec hap.1
  have hv : ∀ {g c}, v = some (g, c) → putB σ.2 u g = σ.2 g := by
    intro g c hu
    cases u with
    | none => rfl
    | some x =>
      obtain ⟨g', c'⟩ := x
      subst hu
      have := names_ne hi hj hij hap hi' h
      simp [putB, Ne.symm this]
  obtain ⟨h0, h | h | h⟩ := id h
  · exact ⟨h0, .inl ⟨h.1, h.2.1, (YA_put a1).1 h.2.2⟩⟩
  · obtain ⟨h1, h2, h3, h4, h5, d, cells, h6, h7, h8⟩ := h
    refine ⟨h0, .inr (.inl ⟨h1, h2, (hv h7).symm.trans h3, h4, h5, d, cells, h6, h7, h8.imp id ?_⟩)⟩
    rintro ⟨e, x, f, y, g1, g2, g3⟩
    exact ⟨e, x, f, y, g1, fun t z hz => ⟨(putF_key a1 (g2 t z hz).2).symm.trans (g2 t z hz).1, (g2 t z hz).2⟩, g3⟩
  · obtain ⟨h1, h2, h3, h4, t, dx, y, k, ok, f, z, cells, cs, g1, g2, g3, g4, g5, g6, g7, g8, g9, g10, g11, g12, g13⟩ := h
    exact ⟨h0, .inr (.inr ⟨h1, h2, h3, h4, t, dx, y, k, ok, f, z, cells, cs, g1, g2, g3, g4, fun t z hz => ⟨(putF_key a1 (g5 t z hz).2).symm.trans (g5 t z hz).1, (g5 t z hz).2⟩,
      (putF_key a1 (mem_looks g1)).symm.trans g6, g7, g8, g9, g10, g11, (hv g13).symm.trans g12, g13⟩)⟩

theorem putB_comm {β : Bt} {u v : Option (Nat × List A)} (h : ∀ g c g' c', u = some (g, c) → v = some (g', c') → g ≠ g') : putB (putB β u) v = putB (putB β v) u := by
  cases u with
  | none => rfl
  | some x =>
    cases v with
    | none => rfl
    | some y =>
      obtain ⟨g, c⟩ := x
      obtain ⟨g', c'⟩ := y
      have := h g c g' c' rfl rfl
      funext t
      simp only [putB]
      split <;> split <;> simp_all
end

def qE (P : Program) (T : Tab P) (C : Ctx) (n : Nat) (bx : List (Nat × List A)) (lv : List Nat) (gen r : Nat) (ops : Array Oper) (i : Nat) (K : Sg → Prop) (σ : Sg) : Prop :=
  match ops[i]? with
  | none => K σ
  | some o => ∃ a u, YE P T C n bx lv gen r ops i o a u σ ∧ K (putF σ.1 o.dst a, putB σ.2 u)

theorem qE_mono {i : Nat} {σ : Sg} {K K' : Sg → Prop} (h : ∀ σ, K σ → K' σ) (hh : qE P T C n bx lv gen r ops i K σ) : qE P T C n bx lv gen r ops i K' σ := by
  unfold qE at *
  split
  · exact h _ (by simpa [*] using hh)
  · rename_i o ho
    simp only [ho] at hh
    obtain ⟨a, u, h1, h2⟩ := hh
    exact ⟨a, u, h1, h _ h2⟩

theorem qE_put {i j : Nat} {oi oj : Oper} {a : A} {u : Option (Nat × List A)} (hi : ops[i]? = some oi) (hj : ops[j]? = some oj) (hij : i ≠ j) (hap : apartE ops oi oj) {K : Sg → Prop} {σ : Sg} (hy : YE P T C n bx lv gen r ops i oi a u σ)
    (h : qE P T C n bx lv gen r ops j K (putF σ.1 oi.dst a, putB σ.2 u)) : qE P T C n bx lv gen r ops j (fun σ' => YE P T C n bx lv gen r ops i oi a u σ' ∧ K (putF σ'.1 oi.dst a, putB σ'.2 u)) σ := by
  obtain ⟨a1, a2, a3⟩ := Oper.apart_spec hap.1
  unfold qE at *
  simp only [hj] at h ⊢
  obtain ⟨b, v, hb, hk⟩ := h
  have hb' := YE_bwd hi hj hij hap hy hb
  refine ⟨b, v, hb', YE_fwd hi hj hij hap hy hb', ?_⟩
  have e1 := putF_comm σ.1 a b a2
  have e2 : putB (putB σ.2 u) v = putB (putB σ.2 v) u := putB_comm (fun g c g' c' hu hv => by subst hu; subst hv; exact names_ne hi hj hij hap hy hb')
  rw [← e1, ← e2]
  exact hk

/-- all of the first m are listed, none of the rest -/
def Split (m : Nat) (ops : Array Oper) (listed : Array Bool) : Prop := listed.size = ops.size ∧ (∀ j, j < m → listed.getD j false = true) ∧ ∀ j, m ≤ j → j < ops.size → listed.getD j true = false

def wpE (P : Program) (T : Tab P) (C : Ctx) (n : Nat) (bx : List (Nat × List A)) (lv : List Nat) (gen r m : Nat) (md : Region.Mode) (ops : Array Oper) (Q : Sg → Prop) : Nat → Array Bool → Sg → Prop
  | 0, listed, σ => Split m ops listed ∧ Q σ
  | fuel + 1, listed, σ => Region.ready md ops listed ≠ [] ∧ ∀ i ∈ Region.ready md ops listed, qE P T C n bx lv gen r ops i (wpE P T C n bx lv gen r m md ops Q fuel (listed.setIfInBounds i true)) σ

/-- operation j is bound to come behind operation i -/
def behindB (md : Region.Mode) (ops : Array Oper) (j i : Nat) : Bool :=
  match ops[j]? with
  | some o => o.after.toList.any fun e => Nat.beq e.on i && Region.binds md e
  | none => false

theorem behindB_spec {j i : Nat} {oj : Oper} (hj : ops[j]? = some oj) (h : behindB md ops j i = true) : ∃ e ∈ oj.after, Region.binds md e = true ∧ e.on = i := by
  unfold behindB at h
  rw [hj] at h
  obtain ⟨e, he, hb⟩ := List.any_eq_true.1 h
  simp only [Bool.and_eq_true] at hb
  exact ⟨e, by simpa using he, hb.2, Nat.eq_of_beq_eq_true hb.1⟩

theorem unlisted {listed : Array Bool} {i : Nat} (h : listed.getD i true = false) : listed.getD i false = false := by
  rcases Nat.lt_or_ge i listed.size with h' | h'
  · simp [h'] at h ⊢; exact h
  · simp [Array.getElem?_eq_none h'] at h

/-- an operation of the last part waits for all of the first -/
def waitB (md : Region.Mode) (ops : Array Oper) (m : Nat) : Bool := (List.range ops.size).all fun j => decide (j < m) || (List.range j).all fun i => behindB md ops j i
def oneStore (l : List Oper) : Bool := Nat.ble (l.countP isSt) 1

theorem waits {j : Nat} (h : waitB md ops m = true) (hm : m ≤ j) {i : Nat} (hij : i < j) {listed : Array Bool} (hj : j ∈ Region.ready md ops listed) : listed.getD i false = true := by
  obtain ⟨_, oj, hoj, hall⟩ := mem_ready.1 hj
  have hlt : j < ops.size := (Array.getElem?_eq_some_iff.1 hoj).1
  have h1 := List.all_eq_true.1 h j (by simpa using hlt)
  simp only [Bool.or_eq_true, decide_eq_true_eq] at h1
  have h2 := List.all_eq_true.1 (h1.resolve_left (by omega)) i (by simpa using hij)
  obtain ⟨e, he, hb, heq⟩ := behindB_spec hoj h2
  rw [← heq]
  exact hall e he hb

theorem countP_two {p : Oper → Bool} : ∀ {l : List Oper} {i j : Nat} {x y : Oper}, l[i]? = some x → l[j]? = some y → i < j → p x = true → p y = true → 2 ≤ l.countP p
  | [], i, j, x, y, h, _, _, _, _ => by simp at h
  | z :: l, 0, j + 1, x, y, h, h', _, hx, hy => by
    simp at h
    subst h
    rw [List.countP_cons_of_pos hx]
    have : 1 ≤ l.countP p := List.one_le_countP_iff.2 ⟨y, List.mem_of_getElem? (by simpa using h'), hy⟩
    omega
  | z :: l, i + 1, j + 1, x, y, h, h', hij, hx, hy => by
    have := countP_two (l := l) (i := i) (j := j) (by simpa using h) (by simpa using h') (by omega) hx hy
    have := List.countP_le_length (p := p) (l := l)
    rw [List.countP_cons]
    omega
  | z :: l, i + 1, 0, x, y, _, _, hij, _, _ => by omega
  | z :: l, 0, 0, x, y, _, _, hij, _, _ => by omega

theorem notBoth {l : List Oper} (h : oneStore l = true) {i j : Nat} {oi oj : Oper} (hi' : l[i]? = some oi) (hj' : l[j]? = some oj) (hij : i ≠ j) : ¬ (isSt oi = true ∧ isSt oj = true) := by
  rintro ⟨h1, h2⟩
  have h3 := Nat.le_of_ble_eq_true h
  rcases Nat.lt_or_ge i j with hlt | hge
  · have := countP_two hi' hj' hlt h1 h2; omega
  · have := countP_two hj' hi' (by omega) h2 h1; omega

theorem wpE_first {Q : Sg → Prop} {i : Nat} {oi : Oper} {a : A} {u : Option (Nat × List A)} (hone : oneStore (ops.toList.take m) = true) (hw : waitB md ops m = true) (him : i < m) (hi : ops[i]? = some oi) :
    ∀ (fuel : Nat) (listed : Array Bool) (σ : Sg),
      (∀ j oj, ops[j]? = some oj → j ≠ i → listed.getD j true = false → (∀ e ∈ oj.after, Region.binds md e = true → e.on ≠ i) → oi.apart ops oj = true) →
      i ∈ Region.ready md ops listed → YE P T C n bx lv gen r ops i oi a u σ →
      wpE P T C n bx lv gen r m md ops Q fuel (listed.setIfInBounds i true) (putF σ.1 oi.dst a, putB σ.2 u) → wpE P T C n bx lv gen r m md ops Q (fuel + 1) listed σ := by
  have take : ∀ {K : Sg → Prop} {σ : Sg}, YE P T C n bx lv gen r ops i oi a u σ → K (putF σ.1 oi.dst a, putB σ.2 u) → qE P T C n bx lv gen r ops i K σ := by
    intro K σ hy hk
    unfold qE
    simp only [hi]
    exact ⟨a, u, hy, hk⟩
  have unl : ∀ {listed : Array Bool}, i ∈ Region.ready md ops listed → listed.getD i false = false := by
    intro listed hr
    exact unlisted (mem_ready.1 hr).1
  intro fuel
  induction fuel with
  | zero =>
    intro listed σ _ hr hy H
    refine ⟨fun h => (by rw [h] at hr; cases hr), fun j hj => ?_⟩
    by_cases hji : j = i
    · subst hji; exact take hy H
    · exfalso
      obtain ⟨⟨_, h1, h2⟩, _⟩ := H
      have hj1 := (mem_ready.1 hj).1
      by_cases hjm : j < m
      · have := h1 j hjm
        rw [getD_set_ne false (Ne.symm hji)] at this
        rw [unlisted hj1] at this
        cases this
      · have := waits hw (by omega) (show i < j by omega) hj
        rw [unl hr] at this
        cases this
  | succ fuel ih =>
    intro listed σ hfree hr hy H
    refine ⟨fun h => (by rw [h] at hr; cases hr), fun j hj => ?_⟩
    by_cases hji : j = i
    · subst hji; exact take hy H
    · have h1 := H.2 j (ready_mono hj hji)
      obtain ⟨hjun, oj, hoj, hall⟩ := mem_ready.1 hj
      have hnot : ∀ e ∈ oj.after, Region.binds md e = true → e.on ≠ i := fun e he hb heq => by
        have h1 := hall e he hb
        rw [heq, unl hr] at h1
        cases h1
      have hjm : j < m := by
        rcases Nat.lt_or_ge j m with h | h
        · exact h
        · have := waits hw h (show i < j by omega) hj
          rw [unl hr] at this
          cases this
      have hap : apartE ops oi oj := by
        refine ⟨hfree j oj hoj hji hjun hnot, notBoth (i := i) (j := j) hone ?_ ?_ (Ne.symm hji)⟩
        · rw [List.getElem?_take, if_pos him]; simpa using hi
        · rw [List.getElem?_take, if_pos hjm]; simpa using hoj
      have h2 := qE_put T hi hoj (Ne.symm hji) hap hy h1
      have hfree' : ∀ k ok, ops[k]? = some ok → k ≠ i → (listed.setIfInBounds j true).getD k true = false →
          (∀ e ∈ ok.after, Region.binds md e = true → e.on ≠ i) → oi.apart ops ok = true := fun k ok hk hki hun hno => by
        refine hfree k ok hk hki ?_ hno
        by_cases hjk : j = k
        · subst hjk; exact hjun
        · rw [getD_set_ne true hjk] at hun; exact hun
      refine qE_mono T (fun σ' h3 => ih (listed.setIfInBounds j true) σ' hfree' (ready_mono hr (Ne.symm hji)) h3.1 ?_) h2
      rw [Array.setIfInBounds_comm _ _ hji]
      exact h3.2

/-- the walk in the text's order -/
def ceA (P : Program) (T : Tab P) (C : Ctx) (n : Nat) (bx : List (Nat × List A)) (lv : List Nat) (gen r : Nat) (ops : Array Oper) (Q : Sg → Prop) : List Oper → Nat → Sg → Prop
  | [], _, σ => Q σ
  | o :: rest, i, σ => ∃ a u, YE P T C n bx lv gen r ops i o a u σ ∧ ceA P T C n bx lv gen r ops Q rest (i + 1) (putF σ.1 o.dst a, putB σ.2 u)

/-- each of the first m operations can be moved before those behind it -/
def lexE (md : Region.Mode) (ops : Array Oper) : Nat → Nat → Array Bool → Bool
  | 0, _, _ => true
  | t + 1, k, listed => (Region.ready md ops listed).contains k && Region.free md ops listed k && lexE md ops t (k + 1) (listed.setIfInBounds k true)

theorem wpE_lex {Q : Sg → Prop} (hone : oneStore (ops.toList.take m) = true) (hw : waitB md ops m = true) : ∀ (l : List Oper) (k : Nat) (listed : Array Bool) (σ : Sg), k + l.length = m → (∀ j, j < l.length → l[j]? = ops[k + j]?) →
    listed.size = ops.size → (∀ j, j < k → listed.getD j false = true) → (∀ j, k ≤ j → j < ops.size → listed.getD j true = false) →
    lexE md ops l.length k listed = true → ceA P T C n bx lv gen r ops Q l k σ → wpE P T C n bx lv gen r m md ops Q l.length listed σ
  | [], k, listed, σ, hk, _, hs, h1, h2, _, h => ⟨⟨hs, fun j hj => h1 j (by simp at hk; omega), fun j hj hj' => h2 j (by simp at hk; omega) hj'⟩, h⟩
  | o :: l, k, listed, σ, hk, hl, hs, h1, h2, hB, h => by
    have h0 : ops[k]? = some o := by simpa using (hl 0 (by simp)).symm
    have hks : k < ops.size := (Array.getElem?_eq_some_iff.1 h0).1
    simp only [List.length_cons, lexE, Bool.and_eq_true] at hB
    obtain ⟨⟨hr, hf⟩, hB'⟩ := hB
    obtain ⟨a, u, hy, hK⟩ := h
    have hkm : k < m := by simp at hk; omega
    refine wpE_first T hone hw hkm h0 l.length listed σ (Region.free_spec h0 hf) (by simpa using hr) hy
      (wpE_lex hone hw l (k + 1) _ _ (by simp at hk; omega) (fun j hj => by have := hl (j + 1) (by simpa using hj); simpa [Nat.add_assoc, Nat.add_comm 1 j] using this) (by simpa using hs) (fun j hj => ?_) (fun j hj hj' => ?_) hB' hK)
    · rcases Nat.lt_succ_iff_lt_or_eq.1 hj with hlt | rfl
      · exact getD_set_true (h1 j hlt)
      · simp [hs, hks]
    · rw [getD_set_ne true (by omega)]
      exact h2 j (by omega) hj'

/-- one operation, in a world -/
theorem wpOp_of_qE {i : Nat} {σ : Sg} {K : Sg → Prop} {K' : Act → World → Prop} {Q' : Exit → Act → World → Prop} {G : Gh} {tmps : Array Value} {w : World} (hs : SimE C n bx lv gen r σ G tmps w)
    (h : ∀ σ G tmps w, SimE C n bx lv gen r σ G tmps w → K σ → K' ⟨tmps, []⟩ w) (hh : qE P T C n bx lv gen r ops i K σ) : wpOp P ops Q' i K' ⟨tmps, []⟩ w := by
  unfold qE at hh
  unfold wpOp
  split
  · rename_i ho; simp only [ho] at hh; exact h _ _ _ _ hs hh
  · rename_i o ho
    simp only [ho] at hh
    obtain ⟨a, u, ⟨hd, hy⟩, hk⟩ := hh
    have hsF : SimF C n bx lv (gen + r) σ.1 G tmps w := ⟨hs.s, hs.f⟩
    rcases hy with ⟨_, rfl, _, hy⟩ | ⟨_, hgd, hnone, hr, rfl, d, cells, hdst, rfl, hy⟩ | ⟨_, hgd, hdst, rfl, t, dx, y, k, ok, f, z, cells, cs, hop, hok, hon, hod, hf, hx, hav, hcs, hsz, hz, hle, hcell, rfl⟩
    · rcases hy with ⟨hw, f, hf, hp⟩ | ⟨hw, rfl⟩
      · rw [wanted_of hsF hw]
        simp only [if_true]
        refine .inl ?_
        have hg : Gives P o ⟨tmps, []⟩ w fun v w' => Below w.heap.size w w' ∧ Rep (enOf C G (gen + r) w') v a := hp G tmps w (hsF.toG fun t x hx => (hf t x hx).1)
        refine hg.wp fun v w' ⟨hb, hr⟩ => ?_
        rw [Act.put_eq]
        exact h _ _ _ _ (hs.step hb hd hr) hk
      · rw [wanted_of hsF hw]
        simp only [Bool.false_eq_true, if_false]
        rw [Act.put_eq]
        exact h _ _ _ _ (hs.step (Below.refl _ _) hd (.tup #[] [] rfl (by simp))) hk
    · have hwt : Region.wanted o (yielded ops tmps) = true := by simp [Region.wanted, hgd]
      rw [hwt]
      simp only [if_true]
      refine .inl ?_
      rw [hdst] at hk
      have hdl : d < n := dstOK_lt hd d hdst
      rcases hy with ⟨e, dt, hop, he, rfl⟩ | ⟨e, x, f, y, hop, hf, hav, hc⟩
      · obtain ⟨i', zz, hi, _, _, hzz, hzc, hzl, hzk, _⟩ := T.info he
        have hall : ∀ (i : Nat) (u : Value), zz.cells[i]? = some u → okc u = true := fun i u hu => by
          have : u ∈ dt.z := by rw [← hzc, List.mem_iff_getElem?]; exact ⟨i, by simpa using hu⟩
          exact List.all_eq_true.1 hzk u this
        obtain ⟨G', hs'⟩ := hs.mkBox (Nat.le_add_right _ _) (by omega) hnone zz.cells e (dt.z.map fun v => .d (.v v)) ⟨by rw [List.length_map, ← hzc]; simp, fun i u hu => okc_one (hall i u hu), fun i u a hu ha => by
          simp only [List.getElem?_map, Option.map_eq_some_iff] at ha
          obtain ⟨y, hy, rfl⟩ := ha
          rw [← hzc] at hy
          have : y = u := by simp at hy; rw [hu] at hy; exact (Option.some.inj hy).symm
          subst this
          exact .d (.v _ (hall i y hu))⟩ hdl
        refine (gives_value (v := .pointer (some ⟨w.heap.size, 0, none⟩)) (w' := w.alloc (.cells zz.cells e)) (R := fun v w' => v = .pointer (some ⟨w.heap.size, 0, none⟩) ∧ w' = w.alloc (.cells zz.cells e)) ?_ ⟨rfl, rfl⟩ : Gives P o ⟨tmps, []⟩ w _).wp ?_
        · unfold execOp
          rw [hop]
          show Sem.run P _ w = _
          simp only [Instr.alloc, zeroValue, typeInfo, hi, hzz, newVar, newRow, Sem.run_bind, run_program, run_newObj, Result.andThen_ok, Sem.run_pure]
          rfl
        · rintro v w' ⟨rfl, rfl⟩
          rw [hdst]
          exact h _ G' _ _ hs' hk
      · have hcr := cellsOf_rep (hsF.toG fun t x hx => (hf t x hx).1) hc (SimG.av (hsF.toG fun t x hx => (hf t x hx).1) hav)
        obtain ⟨G', hs'⟩ := hs.mkBox (Nat.le_add_right _ _) (by omega) hnone (Act.eval ⟨tmps, []⟩ x).cells e cells hcr hdl
        refine (gives_value (v := .pointer (some ⟨w.heap.size, 0, none⟩)) (w' := w.alloc (.cells (Act.eval ⟨tmps, []⟩ x).cells e)) (R := fun v w' => v = .pointer (some ⟨w.heap.size, 0, none⟩) ∧ w' = w.alloc (.cells (Act.eval ⟨tmps, []⟩ x).cells e)) ?_ ⟨rfl, rfl⟩ : Gives P o ⟨tmps, []⟩ w _).wp ?_
        · unfold execOp
          rw [hop]
          show Sem.run P _ w = _
          simp only [Instr.box, newVar, newRow, Sem.run_bind, run_newObj, Result.andThen_ok, Sem.run_pure]
          rfl
        · rintro v w' ⟨rfl, rfl⟩
          rw [hdst]
          exact h _ G' _ _ hs' hk
    · have hwt : Region.wanted o (yielded ops tmps) = true := by simp [Region.wanted, hgd]
      rw [hwt]
      simp only [if_true]
      refine .inl ?_
      rw [hdst] at hk
      obtain ⟨_, b, cur, T', h1, h2, h3, h4, h5⟩ := hs.b _ cells hcell
      obtain ⟨v, hv1, hv2⟩ := hs.f dx _ hx
      have hv : Act.eval ⟨tmps, []⟩ (.tmp dx) = .pointer (some ⟨b, 0, none⟩) := by
        have e : Act.eval ⟨tmps, []⟩ (.tmp dx) = v := by simp [Act.eval, hv1]
        rw [e]
        cases hv2 with
        | ptr _ _ _ b0 _ hb0 hx0 => exact ptr_at hb0 hx0 b h1
      have hG := hsF.toG (f := f) fun t x hx => (hf t x hx).1
      have hrc := cellsOf_rep hG hcs (SimG.av hG hav)
      have hst := run_storeCells_at P b 0 T' (Act.eval ⟨tmps, []⟩ y).cells.toList 0 cur w h2 (by have := hrc.1; simp at this ⊢; omega) (fun v hv => by
        obtain ⟨i, hi⟩ := List.mem_iff_getElem?.1 hv
        exact hrc.2.1 i v (by simpa using hi))
      obtain ⟨dt, hdt, hdn⟩ : ∃ d, look' T.l t = some d ∧ d.n = cs.length := by
        unfold szAt at hsz
        split at hsz
        · rename_i d hdt; exact ⟨d, hdt, hsz⟩
        · exact absurd hsz.symm hz
      have hs' := hs.store hcell h1 h2 (RepC.setAt (off := 0) ⟨h3, h4, h5⟩ hrc (by omega))
      refine (gives_skip (R := fun v w' => v = undef ∧ w' = w.setRow b (cur.toList.take 0 ++ (Act.eval ⟨tmps, []⟩ y).cells.toList ++ cur.toList.drop (0 + (Act.eval ⟨tmps, []⟩ y).cells.toList.length)).toArray) ?_ ⟨rfl, rfl⟩ : Gives P o ⟨tmps, []⟩ w _).wp ?_
      · unfold execOp
        rw [hop]
        show Sem.run P _ w = _
        simp only [hv, Instr.storeAt, Instr.sureAddr, storeVar, Sem.run_bind, Sem.run_pure, Result.andThen_ok, T.sizeOf hdt]
        rw [if_neg (by rw [hdn]; simp; exact hrc.1)]
        simp only [Nat.add_zero] at hst
        simp only [hst, Result.andThen_ok]
      · rintro v w' ⟨rfl, rfl⟩
        rw [hdst]
        exact h _ G _ _ hs' hk

theorem wpAny_of_E {Q : Sg → Prop} {Q' : Exit → Act → World → Prop} {t : Nat} (hQ : ∀ listed σ G tmps w, SimE C n bx lv gen r σ G tmps w → Split m ops listed → Q σ → wpAny P md ops Q' t listed ⟨tmps, []⟩ w) :
    ∀ (fuel : Nat) (listed : Array Bool) (σ : Sg) (G : Gh) (tmps : Array Value) (w : World), SimE C n bx lv gen r σ G tmps w → wpE P T C n bx lv gen r m md ops Q fuel listed σ → wpAny P md ops Q' (fuel + t) listed ⟨tmps, []⟩ w
  | 0, _, _, _, _, _, hs, h => by rw [Nat.zero_add]; exact hQ _ _ _ _ _ hs h.1 h.2
  | fuel + 1, _, _, _, _, _, hs, h => by
    rw [Nat.add_right_comm]
    exact ⟨fun h0 => absurd h0 h.1, fun i hi => wpOp_of_qE T hs (fun σ G tmps w hs' => wpAny_of_E hQ fuel _ σ G tmps w hs') (h.2 i hi)⟩

/-- the last part, one by one -/
theorem wpAny_tail {Q' : Exit → Act → World → Prop} (hw : waitB md ops m = true) (hrd : ∀ k, m ≤ k → ∀ o, ops[k]? = some o → ∀ e ∈ o.after, Region.binds md e = true → e.on < k) :
    ∀ (l : List Oper) (k : Nat) (listed : Array Bool) (act : Act) (w : World), m ≤ k → k + l.length = ops.size → (∀ j, l[j]? = ops[k + j]?) → listed.size = ops.size → (∀ j, j < k → listed.getD j false = true) → (∀ j, k ≤ j → j < ops.size → listed.getD j true = false) →
      wpL P ops Q' l act w → wpAny P md ops Q' l.length listed act w
  | [], k, listed, act, w, hm, hk, _, hs, h1, h2, h => by
    refine ⟨?_, h⟩
    refine List.eq_nil_iff_forall_not_mem.2 fun j hj => ?_
    obtain ⟨h3, oj, hoj, _⟩ := mem_ready.1 hj
    have hlt := (Array.getElem?_eq_some_iff.1 hoj).1
    have := h1 j (by simp at hk; omega)
    rw [unlisted h3] at this
    cases this
  | o :: l, k, listed, act, w, hm, hk, hl, hs, h1, h2, h => by
    have h0 : ops[k]? = some o := by simpa using (hl 0).symm
    have hks : k < ops.size := (Array.getElem?_eq_some_iff.1 h0).1
    have hready : k ∈ Region.ready md ops listed := mem_ready.2 ⟨h2 k (Nat.le_refl _) hks, o, h0, fun e he hb => h1 _ (hrd k hm o h0 e he hb)⟩
    refine ⟨fun hn => (by rw [hn] at hready; cases hready), fun i hi => ?_⟩
    have hik : i = k := by
      obtain ⟨h3, oi, hoi, _⟩ := mem_ready.1 hi
      rcases Nat.lt_trichotomy i k with hlt | he | hgt
      · have := h1 i hlt; rw [unlisted h3] at this; cases this
      · exact he
      · have := waits hw (by omega) hgt hi
        rw [unlisted (h2 k (Nat.le_refl _) hks)] at this
        cases this
    subst hik
    have ih := fun act w => wpAny_tail (Q' := Q') hw hrd l (i + 1) (listed.setIfInBounds i true) act w (by omega) (by simp at hk; omega) (fun j => by have := hl (j + 1); simpa [Nat.add_assoc, Nat.add_comm 1 j] using this) (by simpa using hs)
      (fun j hj => by
        rcases Nat.lt_succ_iff_lt_or_eq.1 hj with hlt | rfl
        · exact getD_set_true (h1 j hlt)
        · simp [hs, hks]) (fun j hj hj' => by rw [getD_set_ne true (by omega)]; exact h2 j (by omega) hj')
    simp only [wpL] at h
    unfold wpOp
    simp only [h0]
    split
    · rename_i hw'
      rw [if_pos hw'] at h
      exact .inl (Oper.wp_mono ih h)
    · rename_i hw'
      rw [if_neg hw'] at h
      exact ih _ _ h

/-- no operation of the last part waits for a later one -/
def foreB (md : Region.Mode) (ops : Array Oper) (m : Nat) : Bool := (List.range ops.size).all fun k => decide (k < m) || match ops[k]? with | some o => o.after.toList.all fun e => !Region.binds md e || decide (e.on < k) | none => true

theorem foreB_spec (h : foreB md ops m = true) : ∀ k, m ≤ k → ∀ o, ops[k]? = some o → ∀ e ∈ o.after, Region.binds md e = true → e.on < k := by
  intro k hm o ho e he hb
  have hlt := (Array.getElem?_eq_some_iff.1 ho).1
  have h1 := List.all_eq_true.1 h k (by simpa using hlt)
  simp only [Bool.or_eq_true, decide_eq_true_eq] at h1
  have h2 := h1.resolve_left (by omega)
  rw [ho] at h2
  have h3 := List.all_eq_true.1 h2 e (by simpa using he)
  simp only [Bool.or_eq_true, Bool.not_eq_true', decide_eq_true_eq] at h3
  rcases h3 with h3 | h3
  · rw [hb] at h3; cases h3
  · exact h3

/-- the walk of such a region, over frames and boxes that are lists -/
def CE (P : Program) (T : Tab P) (C : Ctx) (n : Nat) (bx : List (Nat × List A)) (lv : List Nat) (gen r : Nat) (ops : Array Oper) (Q : St → Prop) (l : List Oper) (i : Nat) (f : List (Nat × A)) (bn : List (Nat × List A)) : Prop :=
  ceA P T C n bx lv gen r ops (fun σ => ∃ f' bn', (∀ t, look f' t = σ.1 t) ∧ (∀ g, look' bn' g = σ.2 g) ∧ Q ⟨f', bn' ++ bx, lv, gen + r⟩) l i (look f, look' bn)

def regionOKE (m r : Nat) (ops : Array Oper) : Bool :=
  Nat.ble m ops.size && oneStore (ops.toList.take m) && waitB .any ops m && foreB .any ops m && lexE .any ops m 0 (Array.replicate ops.size false) && Nat.beq (cntNew ops.toList m) r

theorem W.regionE {id : Nat} {l l1 l2 : List Oper} {f : List (Nat × A)} {Q : Exit → St → Prop} (m r : Nat) (hB : regionOKE m r l.toArray = true) (h1 : l.take m = l1) (h2 : l.drop m = l2)
    (h : CE P T C n bx lv gen r l.toArray (WO P C n l.toArray Q l2) l1 0 f []) : W P C n (.region id l.toArray true) Q ⟨f, bx, lv, gen⟩ := by
  subst h1; subst h2
  intro tmps w ⟨G, hs⟩
  simp only [regionOKE, Bool.and_eq_true] at hB
  obtain ⟨⟨⟨⟨⟨hm, hone⟩, hw⟩, hfore⟩, hlex⟩, hr⟩ := hB
  have hm : m ≤ l.length := by simpa using Nat.le_of_ble_eq_true hm
  have hb : Below w.heap.size w { w with drawn := w.drawn + 1 } := (Below.refl _ w).drew
  have hs' : SimE C n bx lv gen r (look f, fun _ => none) G tmps { w with drawn := w.drawn + 1 } := SimE.ofG (hs.evolve hb).2
  have hlen : (l.take m).length = m := by simp; omega
  refine wp_region_any T.mixed ?_
  have hsz : l.toArray.size = (l.take m).length + (l.drop m).length := by simp; omega
  rw [hsz]
  refine wpAny_of_E T (m := m) (Q := fun σ => ∃ f' bn', (∀ t, look f' t = σ.1 t) ∧ (∀ g, look' bn' g = σ.2 g) ∧ WO P C n l.toArray Q (l.drop m) ⟨f', bn' ++ bx, lv, gen + r⟩) (fun listed σ G tmps w hs hsp ⟨f', bn', e1, e2, hq⟩ => ?_) _ _ _ G _ _ hs' ?_
  · refine wpAny_tail hw (foreB_spec hfore) (l.drop m) m listed ⟨tmps, []⟩ w (Nat.le_refl _) (by simp; omega) (fun j => by simp [List.getElem?_drop]) hsp.1 hsp.2.1 hsp.2.2 ?_
    exact hq tmps w ⟨G, hs.toG (fun t a ha => by rw [← e1]; exact ha) (fun g c hc => by rw [← e2]; exact hc)⟩
  · refine wpE_lex T hone hw (l.take m) 0 _ _ (by rw [hlen]; omega) (fun j hj => ?_) (by simp; omega) (fun j hj => by omega) (fun j _ hj => ?_) (by rw [hlen]; rw [hsz, hlen] at hlex; exact hlex) h
    · rw [hlen] at hj
      rw [Nat.zero_add]
      simp [List.getElem?_take, hj]
    · have hj' : j < l.length := by simpa using hj
      have e : min m l.length + (l.length - m) = l.length := by omega
      simp [e, hj']

variable {T}
variable {op : Op} {ty : TypeId} {pos : String} {af : Array Edge} {a : A} {d i : Nat} {rest : List Oper} {f : List (Nat × A)} {bn : List (Nat × List A)} {Q : St → Prop}

theorem CE.nil (h : Q ⟨f, bn ++ bx, lv, gen + r⟩) : CE P T C n bx lv gen r ops Q [] i f bn := ⟨f, bn, fun _ => rfl, fun _ => rfl, h⟩

theorem cePu (hn : isNew ⟨some d, op, ty, pos, af, none⟩ = false) (hp : Pu P C n ⟨restr f (slotsOf op), bx, lv, gen + r⟩ ⟨some d, op, ty, pos, af, none⟩ a) (hd : Nat.blt d n = true) (h : CE P T C n bx lv gen r ops Q rest (i + 1) ((d, a) :: f) bn) :
    CE P T C n bx lv gen r ops Q (⟨some d, op, ty, pos, af, none⟩ :: rest) i f bn := by
  unfold CE at *
  rw [look_put] at h
  refine ⟨a, none, ⟨hd, .inl ⟨hn, rfl, hd, .inl ⟨rfl, _, fun t x hx => ?_, hp⟩⟩⟩, h⟩
  obtain ⟨h1, h2⟩ := restr_look hx
  exact ⟨h1, List.mem_append.2 (.inl h2)⟩

theorem ceGo {j e : Nat} {want : Bool} (hn : isNew ⟨some d, op, ty, pos, af, none⟩ = false) (hj : gslot ops j = some e) (hl : look f e = some (.d (.v (.bool want)))) (hp : Pu P C n ⟨restr f (slotsOf op), bx, lv, gen + r⟩ ⟨some d, op, ty, pos, af, none⟩ a) (hd : Nat.blt d n = true)
    (h : CE P T C n bx lv gen r ops Q rest (i + 1) ((d, a) :: f) bn) : CE P T C n bx lv gen r ops Q (⟨some d, op, ty, pos, af, some (j, want)⟩ :: rest) i f bn := by
  unfold CE at *
  rw [look_put] at h
  refine ⟨a, none, ⟨hd, .inl ⟨hn, rfl, hd, .inl ⟨⟨e, _, hj, hl, .inl ⟨want, rfl, by simp⟩⟩, _, fun t x hx => ?_, hp⟩⟩⟩, h⟩
  obtain ⟨h1, h2⟩ := restr_look hx
  exact ⟨h1, List.mem_append.2 (.inl h2)⟩

theorem ceSkip {j e : Nat} {want b : Bool} (hn : isNew ⟨some d, op, ty, pos, af, none⟩ = false) (hj : gslot ops j = some e) (hl : look f e = some (.d (.v (.bool b)))) (hb : (b == want) = false) (hd : Nat.blt d n = true) (h : CE P T C n bx lv gen r ops Q rest (i + 1) ((d, .tup []) :: f) bn) :
    CE P T C n bx lv gen r ops Q (⟨some d, op, ty, pos, af, some (j, want)⟩ :: rest) i f bn := by
  unfold CE at *
  rw [look_put] at h
  exact ⟨.tup [], none, ⟨hd, .inl ⟨hn, rfl, hd, .inr ⟨⟨e, _, hj, hl, .inl ⟨b, rfl, hb.symm⟩⟩, rfl⟩⟩⟩, h⟩

theorem ceSkipU {j e : Nat} {want : Bool} (hn : isNew ⟨some d, op, ty, pos, af, none⟩ = false) (hj : gslot ops j = some e) (hl : look f e = some (.tup [])) (hd : Nat.blt d n = true) (h : CE P T C n bx lv gen r ops Q rest (i + 1) ((d, .tup []) :: f) bn) :
    CE P T C n bx lv gen r ops Q (⟨some d, op, ty, pos, af, some (j, want)⟩ :: rest) i f bn := by
  unfold CE at *
  rw [look_put] at h
  exact ⟨.tup [], none, ⟨hd, .inl ⟨hn, rfl, hd, .inr ⟨⟨e, _, hj, hl, .inr ⟨rfl, rfl⟩⟩, rfl⟩⟩⟩, h⟩

theorem look'_put {g : Nat} {c : List A} : look' ((g, c) :: bn) = putB (look' bn) (some (g, c)) := by
  funext t
  rw [look'_cons]
  simp only [putB]
  split <;> split <;> simp_all

theorem ceAlloc {e : TypeId} {dt : TyD} {l : List A} (c : Nat) (hg : Nat.beq (cntNew ops.toList i) c = true) (hr : Nat.blt c r = true) (hno : look' bn (gen + c) = none) (he : look' T.l e = some dt) (hl : (dt.z.map fun v => A.d (.v v)) = l) (hd : Nat.blt d n = true)
    (h : CE P T C n bx lv gen r ops Q rest (i + 1) ((d, .ptr (gen + c) 0) :: f) ((gen + c, l) :: bn)) : CE P T C n bx lv gen r ops Q (⟨some d, .alloc e, ty, pos, af, none⟩ :: rest) i f bn := by
  unfold CE at *
  rw [look_put, look'_put] at h
  have hg := Nat.eq_of_beq_eq_true hg
  subst hg; subst hl
  exact ⟨_, _, ⟨hd, .inr (.inl ⟨rfl, rfl, hno, Nat.le_of_ble_eq_true hr, rfl, d, _, rfl, rfl, .inl ⟨e, dt, rfl, he, rfl⟩⟩)⟩, h⟩

theorem ceStore {t : TypeId} {y : Operand} {dx : Nat} {ok : Oper} {z : A} {cells cs cells' : List A} (k c : Nat) (hx : look f dx = some (.ptr (gen + c) 0)) (hk : ops[k]? = some ok) (hkn : isNew ok = true) (hkd : ok.dst = some dx) (hkg : Nat.beq (cntNew ops.toList k) c = true)
    (hb : look' bn (gen + c) = some cells) (hav : av (restr f (slotsOf (.store t (.tmp dx) y))) y = some z) (hc : cellsOf bx z = some cs) (hsz : szAt T t = cs.length) (hz : Nat.blt 0 cs.length = true) (hle : Nat.ble cs.length cells.length = true) (hs : setAt cells 0 cs = cells')
    (h : CE P T C n bx lv gen r ops Q rest (i + 1) f ((gen + c, cells') :: bn)) : CE P T C n bx lv gen r ops Q (⟨none, .store t (.tmp dx) y, ty, pos, af, none⟩ :: rest) i f bn := by
  unfold CE at *
  rw [look'_put] at h
  have hkg := Nat.eq_of_beq_eq_true hkg
  subst hs; subst hkg
  have hz := Nat.le_of_ble_eq_true hz
  refine ⟨.any, _, ⟨rfl, .inr (.inr ⟨rfl, rfl, rfl, rfl, t, dx, y, k, ok, _, z, cells, cs, rfl, hk, hkn, hkd, fun t' z' hz' => ?_, hx, hav, hc, hsz, by omega, Nat.le_of_ble_eq_true hle, hb, rfl⟩)⟩, h⟩
  obtain ⟨h1, h2⟩ := restr_look hz'
  exact ⟨h1, List.mem_append.2 (.inl h2)⟩

theorem ceBox {e : TypeId} {x : Operand} {y : A} {l : List A} (c : Nat) (hg : Nat.beq (cntNew ops.toList i) c = true) (hr : Nat.blt c r = true) (hno : look' bn (gen + c) = none) (ha : av (restr f (slotsOf (.box e x))) x = some y) (hl : cellsOf bx y = some l) (hd : Nat.blt d n = true)
    (h : CE P T C n bx lv gen r ops Q rest (i + 1) ((d, .ptr (gen + c) 0) :: f) ((gen + c, l) :: bn)) : CE P T C n bx lv gen r ops Q (⟨some d, .box e x, ty, pos, af, none⟩ :: rest) i f bn := by
  unfold CE at *
  rw [look_put, look'_put] at h
  have hg := Nat.eq_of_beq_eq_true hg
  subst hg
  refine ⟨_, _, ⟨hd, .inr (.inl ⟨rfl, rfl, hno, Nat.le_of_ble_eq_true hr, rfl, d, _, rfl, rfl, .inr ⟨e, x, _, y, rfl, fun t' z' hz' => ?_, ha, hl⟩⟩)⟩, h⟩
  obtain ⟨h1, h2⟩ := restr_look hz'
  exact ⟨h1, List.mem_append.2 (.inl h2)⟩

theorem ceSplit {l : List Oper} {e : Nat} {b : Bool} (hl : look f e = some (.d (.v (.bool b)))) (ht : b = true → CE P T C n bx lv gen r ops Q l i ((e, .d (.v (.bool true))) :: f) bn) (hf : b = false → CE P T C n bx lv gen r ops Q l i ((e, .d (.v (.bool false))) :: f) bn) :
    CE P T C n bx lv gen r ops Q l i f bn := by
  have key : ∀ c, b = c → look ((e, A.d (.v (.bool c))) :: f) = look f := by
    intro c hc
    subst hc
    funext t
    rw [look_cons]
    split
    · rename_i h; subst h; exact hl.symm
    · rfl
  cases b
  · have := hf rfl; unfold CE at *; rw [key false rfl] at this; exact this
  · have := ht rfl; unfold CE at *; rw [key true rfl] at this; exact this

theorem ceSplitG {dst : Option Nat} {j e : Nat} {want b : Bool} (hj : gslot ops j = some e) (hl : look f e = some (.d (.v (.bool b)))) (ht : b = true → CE P T C n bx lv gen r ops Q (⟨dst, op, ty, pos, af, some (j, want)⟩ :: rest) i ((e, .d (.v (.bool true))) :: f) bn)
    (hf : b = false → CE P T C n bx lv gen r ops Q (⟨dst, op, ty, pos, af, some (j, want)⟩ :: rest) i ((e, .d (.v (.bool false))) :: f) bn) : CE P T C n bx lv gen r ops Q (⟨dst, op, ty, pos, af, some (j, want)⟩ :: rest) i f bn := ceSplit hl ht hf

end
end Go.Ab
/- Further operations: a slice compared with nil, quotients and remainders, texts put together. -/
namespace Go.Ab
open Go.RowKit

section
variable {P : Program} (T : Tab P) {C : Ctx} {n : Nat} {ops : Array Oper} {Q : Exit → St → Prop} {rest : List Oper} {c : Code}
variable {f : List (Nat × A)} {bx : List (Nat × List A)} {lv : List Nat} {gen d : Nat} {ty : TypeId} {pos : String} {af : Array Edge} {a : A} {dst : Option Nat}

/-- x == nil, of a slice: if it holds, there are no elements -/
theorem nilTestR {t e t' : Nat} {x : Operand} {td : TyD} {es : List (List D)} (hx : av f x = some a) (hes : slOf a = some es) (ht : look' T.l t = some td) (hk : td.k = .slice e) (hd : Nat.blt d n = true)
    (h : ∀ b, (b = true → es = []) → WO P C n ops Q rest ⟨(d, .d (.v (.bool b))) :: f, bx, lv, gen⟩) :
    WO P C n ops Q (⟨some d, .binOp .eql t x (.const (.slice none 0 0)) t', ty, pos, af, none⟩ :: rest) ⟨f, bx, lv, gen⟩ := by
  refine WO.step rfl fun tmps' w' ⟨G', hs'⟩ => ?_
  have hr' := slOf_rep hes (hs'.av hx)
  generalize hv' : Act.eval ⟨tmps', []⟩ x = v' at hr'
  have key' : ∃ ad l cp, v' = .slice ad l cp ∧ (ad.isNone = true → es = []) := by
    cases hr' with
    | nil => exact ⟨none, 0, 0, rfl, fun _ => rfl⟩
    | emp ad cp _ => exact ⟨some ad, 0, cp, rfl, fun h => by cases h⟩
    | sl b off len cap sz _ u _ _ _ _ _ _ => exact ⟨some ⟨b, off, none⟩, len, cap, rfl, fun h => by cases h⟩
  obtain ⟨ad', l', cp', rfl, hn'⟩ := key'
  refine gives_value (v := .bool ad'.isNone) (w' := w') ?_ ⟨⟨(d, .d (.v (.bool ad'.isNone))) :: f, bx, lv, gen⟩, ⟨G', hs'.set (dstOK_lt (dst := some d) hd d rfl) (.d (.v _ rfl))⟩, h _ hn'⟩
  unfold execOp
  show Sem.run P _ w' = _
  have he : Act.eval ⟨tmps', []⟩ (.const (.slice none 0 0)) = .slice none 0 0 := rfl
  have hq := run_equal_slice_nil (P := P) w' t e ad' l' cp' (T.u_slice ht hk)
  simp only [hv', he, eqGuard, binOp, Sem.run_bind, Sem.run_pure, Result.andThen_ok]
  simp only [Bool.not_true, Bool.false_eq_true, if_false, Sem.run_pure, Result.andThen_ok]
  rw [hq]
  rfl

theorem remR {t t' : Nat} {x y : Operand} {k : IntKind} {p q : Int} (hx : av f x = some (.d (.v (.int k p)))) (hy : av f y = some (.d (.v (.int k q)))) (hq : q ≠ 0) (ho : okc (.int k (p.tmod q)) = true) :
    Pu P C n ⟨f, bx, lv, gen⟩ ⟨dst, .binOp .rem t x y t', ty, pos, af, none⟩ (.d (.v (.int k (p.tmod q)))) := by
  refine PuOK.pu fun G tmps w hs => ?_
  have hrx := hs.av hx
  have hry := hs.av hy
  generalize hvx : Act.eval ⟨tmps, []⟩ x = vx at hrx
  generalize hvy : Act.eval ⟨tmps, []⟩ y = vy at hry
  cases hrx with | d hrx => cases hrx with | v _ _ =>
  cases hry with | d hry => cases hry with | v _ _ =>
  refine ⟨_, ?_, .d (.v _ ho)⟩
  unfold execOp
  show Sem.run P _ w = _
  simp [hvx, hvy, eqGuard, binOp, Op.intDiv, hq]
  rfl

theorem quoR {t t' : Nat} {x y : Operand} {k : IntKind} {p q : Int} (hx : av f x = some (.d (.v (.int k p)))) (hy : av f y = some (.d (.v (.int k q)))) (hq : q ≠ 0) (ho : okc (.int k (k.wrap (p.tdiv q))) = true) :
    Pu P C n ⟨f, bx, lv, gen⟩ ⟨dst, .binOp .quo t x y t', ty, pos, af, none⟩ (.d (.v (.int k (k.wrap (p.tdiv q))))) := by
  refine PuOK.pu fun G tmps w hs => ?_
  have hrx := hs.av hx
  have hry := hs.av hy
  generalize hvx : Act.eval ⟨tmps, []⟩ x = vx at hrx
  generalize hvy : Act.eval ⟨tmps, []⟩ y = vy at hry
  cases hrx with | d hrx => cases hrx with | v _ _ =>
  cases hry with | d hry => cases hry with | v _ _ =>
  refine ⟨_, ?_, .d (.v _ ho)⟩
  unfold execOp
  show Sem.run P _ w = _
  simp [hvx, hvy, eqGuard, binOp, Op.intDiv, hq]
  rfl

theorem strAdd {t t' : Nat} {x y : Operand} {p q : ByteArray} (hx : av f x = some (.d (.v (.string p)))) (hy : av f y = some (.d (.v (.string q)))) (hb : p.size + q.size ≤ 9223372036854775807) :
    Pu P C n ⟨f, bx, lv, gen⟩ ⟨dst, .binOp .add t x y t', ty, pos, af, none⟩ (.d (.v (.string (p ++ q)))) := by
  refine PuOK.pu fun G tmps w hs => ?_
  have hrx := hs.av hx
  have hry := hs.av hy
  generalize hvx : Act.eval ⟨tmps, []⟩ x = vx at hrx
  generalize hvy : Act.eval ⟨tmps, []⟩ y = vy at hry
  cases hrx with | d hrx => cases hrx with | v _ _ =>
  cases hry with | d hry => cases hry with | v _ _ =>
  refine ⟨_, ?_, .d (.v _ ?_)⟩
  · unfold execOp
    show Sem.run P _ w = _
    have : ¬ ((p.size + q.size : Nat) : Int) > IntKind.i64.max := by simp [IntKind.max, IntKind.signed, IntKind.bits]; omega
    simp only [hvx, hvy, eqGuard, binOp, Op.stringOp, if_neg this]
    simp
    rfl
  · simp [okc, maxLen, ByteArray.size_append]
    omega

/-- a nil slice read as one without elements -/
theorem nilSl {t : Nat} (hl : look f t = some (.d (.v (.slice none 0 0)))) (h : W P C n c Q ⟨(t, .d (.sl [])) :: f, bx, lv, gen⟩) : W P C n c Q ⟨f, bx, lv, gen⟩ := by
  intro tmps w ⟨G, hs⟩
  refine h tmps w ⟨G, { hs with frame := fun s b hb => ?_ }⟩
  simp only [look_cons] at hb
  split at hb
  · rename_i e
    subst e
    simp only [Option.some.injEq] at hb
    subst hb
    obtain ⟨v, hv, hr⟩ := hs.frame _ _ hl
    cases hr with | d hr => cases hr; exact ⟨_, hv, .d .nil⟩
  · exact hs.frame s b hb
end
end Go.Ab
/- The data of the query layers, in plain Lean, and how its cells lie. -/
namespace Go.Tb
open Go.Ab

abbrev ci (n : Int) : D := .v (.int .i64 n)
abbrev cs (s : ByteArray) : D := .v (.string s)

structure Val where
  kind : Int
  n : Int
  s : ByteArray
  deriving DecidableEq
@[reducible] def Val.c (x : Val) : List D := [ci x.kind, ci x.n, cs x.s]

structure Col where
  name : ByteArray
  type : Int
  deriving DecidableEq
@[reducible] def Col.c (x : Col) : List D := [cs x.name, ci x.type]

inductive Ex where
  | mk (op : Int) (name : ByteArray) (v : Val) (kids : List Ex)
def Ex.op : Ex → Int | .mk a _ _ _ => a
def Ex.name : Ex → ByteArray | .mk _ a _ _ => a
def Ex.v : Ex → Val | .mk _ _ a _ => a
def Ex.kids : Ex → List Ex | .mk _ _ _ a => a

mutual
def Ex.kc : Ex → List (List D)
  | .mk _ _ _ kids => Ex.kcs kids
def Ex.kcs : List Ex → List (List D)
  | [] => []
  | e :: r => [ci e.op, cs e.name, ci e.v.kind, ci e.v.n, cs e.v.s, .sl (Ex.kc e)] :: Ex.kcs r
end
@[reducible] def Ex.c (e : Ex) : List D := [ci e.op, cs e.name, ci e.v.kind, ci e.v.n, cs e.v.s, .sl e.kc]

theorem Ex.kcs_eq : ∀ l, Ex.kcs l = l.map Ex.c
  | [] => rfl
  | e :: r => by simp [Ex.kcs, Ex.kcs_eq r]
theorem Ex.kc_eq (e : Ex) : e.kc = e.kids.map Ex.c := by cases e; simp [Ex.kc, Ex.kids, Ex.kcs_eq]
theorem Ex.kc_len (e : Ex) : e.kc.length = e.kids.length := by simp [Ex.kc_eq]
theorem Ex.kc_idx {e : Ex} {i : Nat} {k : Ex} (h : e.kids[i]? = some k) : e.kc[i]? = some k.c := by rw [Ex.kc_eq]; exact idx_map h

/-- by levels -/
theorem Ex.ind {p : Ex → Prop} (h : ∀ e, (∀ k ∈ e.kids, p k) → p e) : ∀ e, p e := by
  intro e
  induction hn : _root_.SizeOf.sizeOf e using Nat.strongRecOn generalizing e with
  | _ m ih =>
    subst hn
    refine h e fun k hk => ih (_root_.SizeOf.sizeOf k) ?_ k rfl
    cases e with
    | mk op name v kids =>
      have := List.sizeOf_lt_of_mem (show k ∈ kids from hk)
      simp; omega

structure Itm where
  e : Ex
  name : ByteArray
@[reducible] def Itm.c (x : Itm) : List D := [ci x.e.op, cs x.e.name, ci x.e.v.kind, ci x.e.v.n, cs x.e.v.s, .sl x.e.kc, cs x.name]

structure Agr where
  fn : ByteArray
  col : ByteArray
  name : ByteArray
@[reducible] def Agr.c (x : Agr) : List D := [cs x.fn, cs x.col, cs x.name]

structure Srt where
  col : ByteArray
  desc : Bool
@[reducible] def Srt.c (x : Srt) : List D := [cs x.col, .v (.bool x.desc)]

@[reducible] def sc (s : ByteArray) : List D := [cs s]

structure Stp where
  op : Int
  cond : Ex
  items : List Itm
  cols : List ByteArray
  aggs : List Agr
  sorts : List Srt
  n : Int
  table : ByteArray
@[reducible] def Stp.c (x : Stp) : List D := [ci x.op, ci x.cond.op, cs x.cond.name, ci x.cond.v.kind, ci x.cond.v.n, cs x.cond.v.s, .sl x.cond.kc,
  .sl (x.items.map Itm.c), .sl (x.cols.map sc), .sl (x.aggs.map Agr.c), .sl (x.sorts.map Srt.c), ci x.n, cs x.table]

structure Tbl where
  cols : List Col
  rows : List (List Val)
@[reducible] def rc (r : List Val) : List D := [.sl (r.map Val.c)]
@[reducible] def Tbl.c (x : Tbl) : List D := [.sl (x.cols.map Col.c), .sl (x.rows.map rc)]

structure Nmd where
  name : ByteArray
  table : Tbl
@[reducible] def Nmd.c (x : Nmd) : List D := [cs x.name, .sl (x.table.cols.map Col.c), .sl (x.table.rows.map rc)]

structure Qry where
  from_ : ByteArray
  steps : List Stp
@[reducible] def Qry.c (x : Qry) : List D := [cs x.from_, .sl (x.steps.map Stp.c)]

@[reducible] def ic (k : Int) : List D := [ci k]

/- ### typed data out of a reading -/
section
variable {P : Program} {T : Tab P}

theorem conf_list {α : Type} {f : α → List D} {t : Nat} : ∀ {es : List (List D)}, (∀ x ∈ es, Conf T t x) → (∀ x, x ∈ es → Conf T t x → ∃ a, x = f a) → ∃ l : List α, es = l.map f
  | [], _, _ => ⟨[], rfl⟩
  | x :: r, h, hf => by
    obtain ⟨a, ha⟩ := hf x (by simp) (h x (by simp))
    obtain ⟨l, hl⟩ := conf_list (fun y hy => h y (by simp [hy])) (fun y hy => hf y (by simp [hy])) (es := r)
    exact ⟨a :: l, by rw [ha, hl]; rfl⟩

theorem conf_st1 {t a : Nat} {oa : Nat} {na : String} {l : List D} (h : Conf T t l) (hk : kdAt T t = .st [(oa, a, na)]) : Conf T a l := by
  obtain ⟨ps, rfl, hl, hc⟩ := h.toSt hk
  match ps, hl with
  | [p], _ => simpa using hc 0 oa a na p rfl rfl

theorem conf_st2 {t a b : Nat} {oa ob : Nat} {na nb : String} {l : List D} (h : Conf T t l) (hk : kdAt T t = .st [(oa, a, na), (ob, b, nb)]) : ∃ p q, l = p ++ q ∧ Conf T a p ∧ Conf T b q := by
  obtain ⟨ps, rfl, hl, hc⟩ := h.toSt hk
  match ps, hl with
  | [p, q], _ => exact ⟨p, q, by simp, hc 0 _ _ _ p rfl rfl, hc 1 _ _ _ q rfl rfl⟩

theorem conf_st3 {t a b c : Nat} {oa ob oc : Nat} {na nb nc : String} {l : List D} (h : Conf T t l) (hk : kdAt T t = .st [(oa, a, na), (ob, b, nb), (oc, c, nc)]) : ∃ p q r, l = p ++ (q ++ r) ∧ Conf T a p ∧ Conf T b q ∧ Conf T c r := by
  obtain ⟨ps, rfl, hl, hc⟩ := h.toSt hk
  match ps, hl with
  | [p, q, r], _ => exact ⟨p, q, r, by simp, hc 0 _ _ _ p rfl rfl, hc 1 _ _ _ q rfl rfl, hc 2 _ _ _ r rfl rfl⟩

theorem conf_st4 {t a b c d : Nat} {oa ob oc od : Nat} {na nb nc nd : String} {l : List D} (h : Conf T t l) (hk : kdAt T t = .st [(oa, a, na), (ob, b, nb), (oc, c, nc), (od, d, nd)]) :
    ∃ p q r s, l = p ++ (q ++ (r ++ s)) ∧ Conf T a p ∧ Conf T b q ∧ Conf T c r ∧ Conf T d s := by
  obtain ⟨ps, rfl, hl, hc⟩ := h.toSt hk
  match ps, hl with
  | [p, q, r, s], _ => exact ⟨p, q, r, s, by simp, hc 0 _ _ _ p rfl rfl, hc 1 _ _ _ q rfl rfl, hc 2 _ _ _ r rfl rfl, hc 3 _ _ _ s rfl rfl⟩

theorem conf_st8 {t a b c d e g i j : Nat} {oa ob oc od oe og oi oj : Nat} {na nb nc nd ne ng ni nj : String} {l : List D} (h : Conf T t l) (hk : kdAt T t = .st [(oa, a, na), (ob, b, nb), (oc, c, nc), (od, d, nd), (oe, e, ne), (og, g, ng), (oi, i, ni), (oj, j, nj)]) :
    ∃ p q r s u v x y, l = p ++ (q ++ (r ++ (s ++ (u ++ (v ++ (x ++ y)))))) ∧ Conf T a p ∧ Conf T b q ∧ Conf T c r ∧ Conf T d s ∧ Conf T e u ∧ Conf T g v ∧ Conf T i x ∧ Conf T j y := by
  obtain ⟨ps, rfl, hl, hc⟩ := h.toSt hk
  match ps, hl with
  | [p, q, r, s, u, v, x, y], _ =>
    exact ⟨p, q, r, s, u, v, x, y, by simp, hc 0 _ _ _ p rfl rfl, hc 1 _ _ _ q rfl rfl, hc 2 _ _ _ r rfl rfl, hc 3 _ _ _ s rfl rfl, hc 4 _ _ _ u rfl rfl, hc 5 _ _ _ v rfl rfl, hc 6 _ _ _ x rfl rfl, hc 7 _ _ _ y rfl rfl⟩

variable {tv tk ti ts tc tcs te teo tes : Nat} {o1 o2 o3 o4 o5 o6 o7 o8 : Nat} {n1 n2 n3 n4 n5 n6 n7 n8 : String} {l : List D}

theorem conf_int (h : Conf T ti l) (hk : kdAt T ti = .int .i64) : ∃ n, l = [ci n] := let ⟨n, h, _⟩ := h.toInt hk; ⟨n, h⟩
theorem conf_str (h : Conf T ts l) (hk : kdAt T ts = .str) : ∃ n, l = [cs n] := let ⟨n, h, _⟩ := h.toStr hk; ⟨n, h⟩

theorem conf_val (h : Conf T tv l) (hv : kdAt T tv = .st [(o1, tk, n1), (o2, ti, n2), (o3, ts, n3)]) (hk : kdAt T tk = .int .i64) (hi : kdAt T ti = .int .i64) (hs : kdAt T ts = .str) : ∃ x : Val, l = x.c := by
  obtain ⟨p, q, r, rfl, h1, h2, h3⟩ := conf_st3 h hv
  obtain ⟨a, rfl⟩ := conf_int h1 hk
  obtain ⟨b, rfl⟩ := conf_int h2 hi
  obtain ⟨c, rfl⟩ := conf_str h3 hs
  exact ⟨⟨a, b, c⟩, rfl⟩

theorem conf_col (h : Conf T tc l) (hv : kdAt T tc = .st [(o1, ts, n1), (o2, tk, n2)]) (hs : kdAt T ts = .str) (hk : kdAt T tk = .int .i64) : ∃ x : Col, l = x.c := by
  obtain ⟨p, q, rfl, h1, h2⟩ := conf_st2 h hv
  obtain ⟨a, rfl⟩ := conf_str h1 hs
  obtain ⟨b, rfl⟩ := conf_int h2 hk
  exact ⟨⟨a, b⟩, rfl⟩

theorem conf_sl {α : Type} {f : α → List D} {t e : Nat} (h : Conf T t l) (hk : kdAt T t = .slice e) (hf : ∀ x, Conf T e x → ∃ a, x = f a) : ∃ r : List α, l = [.sl (r.map f)] := by
  obtain ⟨es, rfl, h1, _⟩ := h.toSlice hk
  obtain ⟨r, rfl⟩ := conf_list h1 (fun x _ hx => hf x hx)
  exact ⟨r, rfl⟩

theorem conf_expr (he : kdAt T te = .st [(o1, teo, n1), (o2, ts, n2), (o3, tv, n3), (o4, tes, n4)]) (heo : kdAt T teo = .int .i64) (hes : kdAt T tes = .slice te)
    (hv : kdAt T tv = .st [(o5, tk, n5), (o6, ti, n6), (o7, ts, n7)]) (hk : kdAt T tk = .int .i64) (hi : kdAt T ti = .int .i64) (hs : kdAt T ts = .str) : ∀ (l : List D), Conf T te l → ∃ x : Ex, l = x.c := by
  intro l
  induction hn : _root_.SizeOf.sizeOf l using Nat.strongRecOn generalizing l with
  | _ m ih =>
    intro h
    subst hn
    obtain ⟨p, q, r, s, rfl, h1, h2, h3, h4⟩ := conf_st4 h he
    obtain ⟨a, rfl⟩ := conf_int h1 heo
    obtain ⟨b, rfl⟩ := conf_str h2 hs
    obtain ⟨v, rfl⟩ := conf_val h3 hv hk hi hs
    obtain ⟨es, rfl, h5, _⟩ := h4.toSlice hes
    obtain ⟨kids, rfl⟩ := conf_list (f := Ex.c) h5 (fun x hx hc => ih (_root_.SizeOf.sizeOf x) (by
      have := List.sizeOf_lt_of_mem hx
      simp; omega) x rfl hc)
    exact ⟨.mk a b v kids, by simp [Ex.c, Ex.op, Ex.name, Ex.v, Ex.kc_eq, Ex.kids]⟩
end
end Go.Tb
/- What the small functions of the query layers compute. -/
namespace Go.Tb
open Go.Ab

/-- captured cells that a call leaves as they are -/
def Still (caps : List A) : Prop := (∀ bx k, caps.map (conv bx (k + 2)) = caps) ∧ noIdL caps = true

def idx (o : Option Nat) : Int := match o with | some i => i | none => -1

theorem idx_nonneg {α : Type} {l : List α} {p : α → Bool} : decide (0 ≤ idx (l.findIdx? p)) = l.any p := by
  cases h : l.findIdx? p with
  | none =>
    have := List.findIdx?_eq_none_iff.1 h
    simp only [idx]
    rw [Bool.eq_iff_iff]
    simp only [decide_eq_true_eq, List.any_eq_true]
    constructor
    · intro h; exact absurd h (by decide)
    · rintro ⟨x, hx, hp⟩; rw [this x hx] at hp; cases hp
  | some i =>
    obtain ⟨hi, hp, _⟩ := List.findIdx?_eq_some_iff_getElem.1 h
    simp only [idx]
    rw [Bool.eq_iff_iff]
    simp only [decide_eq_true_eq, List.any_eq_true]
    exact ⟨fun _ => ⟨_, List.getElem_mem hi, hp⟩, fun _ => decide_eq_true (Int.natCast_nonneg i)⟩

/-- the state of a search: nothing found before k -/
def noneBefore {α : Type} (p : α → Bool) (l : List α) (k : Nat) : Prop := ∀ j x, j < k → l[j]? = some x → p x = false

theorem noneBefore.zero {α : Type} {p : α → Bool} {l : List α} : noneBefore p l 0 := fun _ _ h => by omega
theorem noneBefore.step {α : Type} {p : α → Bool} {l : List α} {k : Nat} {x : α} (h : noneBefore p l k) (hx : l[k]? = some x) (hp : p x = false) : noneBefore p l (k + 1) := by
  intro j y hj hy
  rcases Nat.lt_succ_iff_lt_or_eq.1 hj with hlt | rfl
  · exact h j y hlt hy
  · rw [hx] at hy; simp only [Option.some.injEq] at hy; subst hy; exact hp
theorem noneBefore.found {α : Type} {p : α → Bool} {l : List α} {k : Nat} {x : α} (h : noneBefore p l k) (hx : l[k]? = some x) (hp : p x = true) : l.findIdx? p = some k := by
  rw [List.findIdx?_eq_some_iff_getElem]
  obtain ⟨hk', hx'⟩ := List.getElem?_eq_some_iff.1 hx
  refine ⟨hk', by rw [hx']; exact hp, fun j hj => ?_⟩
  rw [h j (l[j]) hj (by simp)]
  simp
theorem noneBefore.end_ {α : Type} {p : α → Bool} {l : List α} {k : Nat} (h : noneBefore p l k) (hk : k = l.length) : l.findIdx? p = none := by
  rw [List.findIdx?_eq_none_iff]
  intro x hx
  obtain ⟨j, hj⟩ := List.mem_iff_getElem?.1 hx
  exact h j x (by rw [hk]; exact (List.getElem?_eq_some_iff.1 hj).1) hj

def fits (k w : Int) : Bool := decide (k = w) || decide (k = 0)
def inR (n : Int) : Bool := decide (-1000000000000000 ≤ n) && decide (n ≤ 1000000000000000)

abbrev B (l : Array UInt8) : ByteArray := ⟨l⟩
def wMin : ByteArray := B #[109, 105, 110]
def wMax : ByteArray := B #[109, 97, 120]
def wHas : ByteArray := B #[104, 97, 115]
def wStarts : ByteArray := B #[115, 116, 97, 114, 116, 115]
def wAbs : ByteArray := B #[97, 98, 115]
def wLen : ByteArray := B #[108, 101, 110]
def words : List ByteArray := [B #[97, 110, 100], B #[111, 114], B #[110, 111, 116], B #[110, 117, 108, 108], B #[116, 114, 117, 101], B #[102, 97, 108, 115, 101]]

def arity (s : ByteArray) : Int := if s = wMin ∨ s = wMax ∨ s = wHas ∨ s = wStarts then 2 else if s = wAbs ∨ s = wLen then 1 else 0

def kidsOf (op : Int) : Int := if op = 1 ∨ op = 2 then 0 else if op = 3 ∨ op = 4 then 1 else if op = 16 then -1 else 2

/-- the error of a value for a column's type -/
def valErr (k : Int) (v : Val) : Int :=
  if v.kind ≠ 0 ∧ (v.kind ≠ k ∨ k < 1 ∨ 3 < k) then 14
  else if (v.kind = 1 ∧ (v.n < 0 ∨ 1 < v.n)) ∨ (v.kind = 2 ∧ inR v.n = false) then 2
  else if v.kind = 3 ∧ 200 < v.s.size then 7
  else if (v.kind ≠ 3 ∧ v.s ≠ B #[]) ∨ ((v.kind = 0 ∨ v.kind = 3) ∧ v.n ≠ 0) then 1
  else 0

def lower (b : UInt8) : Bool := decide (97 ≤ b.toNat) && decide (b.toNat ≤ 122)
def idChar (b : UInt8) : Bool := lower b || (decide (48 ≤ b.toNat) && decide (b.toNat ≤ 57)) || decide (b.toNat = 95)
def bys (s : ByteArray) : List UInt8 := s.data.toList
def identB (s : ByteArray) : Bool := !decide (s = B #[]) && decide (s.size ≤ 40) && lower ((bys s).headD 0) && (bys s).all idChar && !(words.any fun w => decide (s = w))

def badChar (b : UInt8) : Bool := decide (b.toNat < 32) || decide (126 < b.toNat) || decide (b.toNat = 34)
def constErr (v : Val) : Int := if valErr v.kind v ≠ 0 then valErr v.kind v else if (bys v.s).any badChar then 10 else 0

def marks : List UInt8 := [95, 46, 58, 47, 60, 62, 36, 42, 126, 45]
def letterB (b : UInt8) : Bool := lower b || (decide (65 ≤ b.toNat) && decide (b.toNat ≤ 90)) || (decide (48 ≤ b.toNat) && decide (b.toNat ≤ 57)) || marks.any fun c => decide (c = b)
def nameErr (s : ByteArray) : Int := if s = B #[] ∨ 40 < s.size ∨ (bys s).all letterB = false then 3 else 0
end Go.Tb
/- Facts about bys of texts. -/
namespace Go.Tb
open Go.Ab

theorem okc_size {s : ByteArray} (h : okc (.string s) = true) : (bys s).length ≤ maxLen := by simpa [okc, bys] using h
theorem bytes_len (s : ByteArray) : (bys s).length = s.size := by simp [bys]
theorem indexByte_ge0 (c : UInt8) : ∀ l : List UInt8, (0 ≤ Lib.indexByte l c) ↔ c ∈ l
  | [] => by simp [Lib.indexByte]
  | b :: l => by
    have ih := indexByte_ge0 c l
    have h1 := Lib.indexByte_ge l c
    simp only [Lib.indexByte, List.mem_cons]
    grind
theorem indexByte_any (l : List UInt8) (c : UInt8) : decide (0 ≤ Lib.indexByte l c) = l.any fun x => decide (x = c) := by
  rw [Bool.eq_iff_iff]
  simp [indexByte_ge0]
theorem indexByte_len (c : UInt8) : ∀ l : List UInt8, Lib.indexByte l c ≤ l.length
  | [] => by simp [Lib.indexByte]
  | b :: l => by
    have ih := indexByte_len c l
    simp only [Lib.indexByte, List.length_cons]
    grind
theorem indexByte_ok {s : ByteArray} (h : okc (.string s) = true) (c : UInt8) : okc (.int .i64 (Lib.indexByte (bys s) c)) = true := by
  have h1 := Lib.indexByte_ge (bys s) c
  have h2 := indexByte_len c (bys s)
  have h3 := okc_size h
  have h4 : maxLen = 9223372036854775807 := rfl
  simp only [okc, Bool.and_eq_true, decide_eq_true_eq]
  refine ⟨?_, ?_⟩
  · show -9223372036854775808 ≤ _; omega
  · show _ ≤ 9223372036854775807; omega
theorem head_byte {s : ByteArray} (h : s ≠ B #[]) : s[((0 : Int)).toNat]? = some ((bys s).headD 0) := by
  refine byteList (k := 0) ?_
  have : bys s ≠ [] := by
    intro hb
    apply h
    have : s.data = #[] := by simpa [bys] using hb
    cases s; simp_all [B]
  show (bys s)[0]? = _
  cases hb : bys s with
  | nil => exact absurd hb this
  | cons b l => rfl
theorem empty_bytes {s : ByteArray} : s = B #[] ↔ bys s = [] := by
  constructor
  · rintro rfl; rfl
  · intro hb
    have : s.data = #[] := by simpa [bys] using hb
    cases s; simp_all [B]
end Go.Tb
namespace Go.Tb
open Go.Ab
theorem head_at {l : List UInt8} {k : Nat} {b : UInt8} (h : l[k]? = some b) : k = 0 → l.headD 0 = b := by
  rintro rfl; cases l <;> simp_all
theorem any_of_at {α : Type} {l : List α} {p : α → Bool} {k : Nat} {x : α} (h : l[k]? = some x) (hp : p x = true) : l.any p = true := List.any_eq_true.2 ⟨x, List.mem_of_getElem? h, hp⟩
theorem any_of_none {α : Type} {l : List α} {p : α → Bool} (h : l.findIdx? p = none) : l.any p = false := by
  rw [← idx_nonneg, h]; rfl
section
variable {P : Program} {C : Ctx} {n : Nat} {Q : Exit → St → Prop} {c : Code} {f : List (Nat × A)} {bx : List (Nat × List A)} {lv : List Nat} {gen : Nat}
/-- a box's cell is in its kind's range -/
theorem inBox {g j : Nat} {cells : List A} {v : Value} (hb : look' bx g = some cells) (hv : cells[j]? = some (.d (.v v))) (h : okc v = true → W P C n c Q ⟨f, bx, lv, gen⟩) : W P C n c Q ⟨f, bx, lv, gen⟩ := by
  intro tmps w ⟨G, hs⟩
  obtain ⟨b, cs, T, h1, h2, h3, h4, h5⟩ := hs.box g cells hb
  have hj : j < cs.size := by rw [h3]; exact (List.getElem?_eq_some_iff.1 hv).1
  have := h5 j cs[j] _ (by simp [hj]) hv
  generalize cs[j] = u at this
  cases this with | d hd => cases hd with | v _ hok => exact h hok tmps w ⟨G, hs⟩
end
end Go.Tb
namespace Go.Tb
open Go.Ab
theorem exAt {α : Type} {l : List α} {k : Nat} (h : k < l.length) : ∃ x, l[k]? = some x ∧ l.drop k = x :: l.drop (k + 1) := ⟨l[k], by simp [h], List.drop_eq_getElem_cons h⟩
theorem dropEnd {α : Type} {l : List α} {k : Nat} (h : l.length ≤ k) : l.drop k = [] := List.drop_eq_nil_of_le h
theorem puI {P : Program} {C : Ctx} {n : Nat} {st : St} {o : Oper} {k : IntKind} {x y : Int} (h : Pu P C n st o (.d (.v (.int k x)))) (e : x = y) : Pu P C n st o (.d (.v (.int k y))) := e ▸ h
theorem puA {P : Program} {C : Ctx} {n : Nat} {st : St} {o : Oper} {x y : A} (h : Pu P C n st o x) (e : x = y) : Pu P C n st o y := e ▸ h
end Go.Tb
namespace Go.Tb
open Go.Ab
section
variable {P : Program} {C : Ctx} {n : Nat} {Q : Exit → St → Prop} {c : Code} {f : List (Nat × A)} {bx : List (Nat × List A)} {lv : List Nat} {gen : Nat}
/-- a slice in a box is no longer than an int can tell -/
theorem lenBox {g j : Nat} {cells : List A} {es : List (List D)} (hb : look' bx g = some cells) (hv : cells[j]? = some (.d (.sl es))) (h : es.length ≤ maxLen → W P C n c Q ⟨f, bx, lv, gen⟩) : W P C n c Q ⟨f, bx, lv, gen⟩ := by
  intro tmps w ⟨G, hs⟩
  obtain ⟨b, cs, T, h1, h2, h3, h4, h5⟩ := hs.box g cells hb
  have hj : j < cs.size := by rw [h3]; exact (List.getElem?_eq_some_iff.1 hv).1
  have := h5 j cs[j] _ (by simp [hj]) hv
  generalize cs[j] = u at this
  cases this with | d hd => exact h hd.len.choose_spec.choose_spec.2 tmps w ⟨G, hs⟩
end
end Go.Tb
/- Expressions: how many nodes, how many levels; the errors of their nodes. -/
namespace Go.Tb
open Go.Ab

theorem Ex.kids_mk (op : Int) (name : ByteArray) (v : Val) (kids : List Ex) : (Ex.mk op name v kids).kids = kids := rfl

mutual
def msr : Ex → Int → Int × Int
  | .mk _ _ _ kids, n => ((msrL kids (n + 1) 0).1, (msrL kids (n + 1) 0).2 + 1)
def msrL : List Ex → Int → Int → Int × Int
  | [], n, d => (n, d)
  | k :: r, n, d => if 200 < n then (n, d) else msrL r (msr k n).1 (if d < (msr k n).2 then (msr k n).2 else d)
end
theorem msr_eq (e : Ex) (n : Int) : msr e n = ((msrL e.kids (n + 1) 0).1, (msrL e.kids (n + 1) 0).2 + 1) := by cases e; simp [msr, Ex.kids_mk]

mutual
def count : Ex → Int → Int
  | .mk _ _ _ kids, most => countL kids most 1
def countL : List Ex → Int → Int → Int
  | [], _, n => n
  | k :: r, most, n => if n ≤ most then countL r most (n + count k (most - n)) else n
end
theorem count_eq (e : Ex) (m : Int) : count e m = countL e.kids m 1 := by cases e; simp [count, Ex.kids_mk]

mutual
def lev : Ex → Int
  | .mk _ _ _ kids => levL kids 0 + 1
def levL : List Ex → Int → Int
  | [], d => d
  | k :: r, d => levL r (if d < lev k then lev k else d)
end
theorem lev_eq (e : Ex) : lev e = levL e.kids 0 + 1 := by cases e; simp [lev, Ex.kids_mk]

mutual
def cnt : Ex → Int
  | .mk _ _ _ kids => cntL kids + 1
def cntL : List Ex → Int
  | [] => 0
  | k :: r => cnt k + cntL r
end
theorem cnt_eq (e : Ex) : cnt e = cntL e.kids + 1 := by cases e; simp [cnt, Ex.kids_mk]

mutual
theorem cnt_pos : ∀ e : Ex, 1 ≤ cnt e
  | .mk _ _ _ kids => by have := cntL_pos kids; simp only [cnt]; omega
theorem cntL_pos : ∀ l : List Ex, 0 ≤ cntL l
  | [] => by simp [cntL]
  | k :: r => by have := cnt_pos k; have := cntL_pos r; simp only [cntL]; omega
end
mutual
theorem lev_le : ∀ e : Ex, 1 ≤ lev e ∧ lev e ≤ cnt e
  | .mk _ _ _ kids => by have := levL_le kids 0 (by omega); simp only [lev, cnt]; omega
theorem levL_le : ∀ (l : List Ex) (d : Int), 0 ≤ d → d ≤ levL l d ∧ levL l d ≤ d + cntL l
  | [], d, h => by simp [levL, cntL]
  | k :: r, d, h => by
    have h1 := lev_le k
    have h2 := cntL_pos r
    simp only [levL, cntL]
    split
    · have := levL_le r (lev k) (by omega); omega
    · have := levL_le r d h; omega
end

mutual
theorem msr_spec : ∀ (e : Ex) (n : Int), 0 ≤ n → n ≤ 200 → n < (msr e n).1 ∧ (msr e n).1 ≤ 201 ∧ 1 ≤ (msr e n).2 ∧ (msr e n).2 ≤ (msr e n).1 - n ∧
    (n + cnt e ≤ 200 → msr e n = (n + cnt e, lev e)) ∧ (200 < n + cnt e → 200 < (msr e n).1)
  | .mk op name v kids, n, h0, h1 => by
    have := msrL_spec kids (n + 1) 0 (by omega) (by omega) (by omega)
    simp only [msr, cnt, lev]
    refine ⟨by omega, by omega, by omega, by omega, fun h => ?_, fun h => ?_⟩
    · have := this.2.2.2.2.1 (by omega)
      rw [this]; simp; omega
    · have := this.2.2.2.2.2 (by omega)
      omega
theorem msrL_spec : ∀ (l : List Ex) (n d : Int), 0 ≤ n → n ≤ 201 → 0 ≤ d → n ≤ (msrL l n d).1 ∧ (msrL l n d).1 ≤ 201 ∧ d ≤ (msrL l n d).2 ∧ (msrL l n d).2 ≤ d + ((msrL l n d).1 - n) ∧
    (n + cntL l ≤ 200 → msrL l n d = (n + cntL l, levL l d)) ∧ (200 < n + cntL l → 200 < (msrL l n d).1)
  | [], n, d, h0, h1, h2 => by simp only [msrL, cntL, levL]; refine ⟨by omega, by omega, by omega, by omega, fun h => by simp, fun h => by omega⟩
  | k :: r, n, d, h0, h1, h2 => by
    simp only [msrL]
    have c1 := cnt_pos k
    have c2 := cntL_pos r
    split
    · simp only [cntL]; refine ⟨by omega, by omega, by omega, by omega, fun h => by omega, fun h => by omega⟩
    · rename_i hn
      obtain ⟨a1, a2, a3, a4, a5, a6⟩ := msr_spec k n h0 (by omega)
      generalize hd' : (if d < (msr k n).2 then (msr k n).2 else d) = d'
      have hd1 : d ≤ d' ∧ d' ≤ d + ((msr k n).1 - n) ∧ 0 ≤ d' := by rw [← hd']; split <;> omega
      obtain ⟨b1, b2, b3, b4, b5, b6⟩ := msrL_spec r (msr k n).1 d' (by omega) (by omega) (by omega)
      simp only [cntL, levL]
      refine ⟨by omega, by omega, by omega, by omega, fun h => ?_, fun h => ?_⟩
      · have e := a5 (by omega)
        rw [e] at b5 hd' ⊢
        simp only at b5 hd' ⊢
        rw [b5 (by omega), ← hd']
        simp; omega
      · by_cases hk : n + cnt k ≤ 200
        · have e := a5 hk
          rw [e] at b6 ⊢
          exact b6 (by simp only; omega)
        · have := a6 (by omega)
          omega
end

mutual
theorem count_spec : ∀ (e : Ex) (m : Int), 0 ≤ m → 1 ≤ count e m ∧ count e m ≤ m + 1 ∧ (cnt e ≤ m → count e m = cnt e) ∧ (m < cnt e → m < count e m)
  | .mk _ _ _ kids, m, h => by
    have := countL_spec kids m 1 (by omega) (by omega)
    simp only [count, cnt]
    omega
theorem countL_spec : ∀ (l : List Ex) (m n : Int), 0 ≤ n → n ≤ m + 1 → n ≤ countL l m n ∧ countL l m n ≤ m + 1 ∧ (n + cntL l ≤ m → countL l m n = n + cntL l) ∧ (m < n + cntL l → m < countL l m n)
  | [], m, n, h0, h1 => by simp only [countL, cntL]; omega
  | k :: r, m, n, h0, h1 => by
    simp only [countL, cntL]
    have c1 := cnt_pos k
    have c2 := cntL_pos r
    split
    · have a := count_spec k (m - n) (by omega)
      have b := countL_spec r m (n + count k (m - n)) (by omega) (by omega)
      omega
    · omega
end

/-- the limits of a test's expressions -/
def deepN : Ex → Int → Int → Int := fun e level left => if level < 1 ∨ left - 1 < 0 ∨ 300 < e.name.size ∨ 300 < e.v.s.size then -1 else 0
mutual
def deep : Ex → Int → Int → Int
  | .mk op name v kids, level, left => if level < 1 ∨ left - 1 < 0 ∨ 300 < name.size ∨ 300 < v.s.size then -1 else deepL kids level (left - 1)
def deepL : List Ex → Int → Int → Int
  | [], _, left => left
  | k :: r, level, left => if deep k (level - 1) left < 0 then -1 else deepL r level (deep k (level - 1) left)
end
theorem deep_eq (e : Ex) (level left : Int) : deep e level left = if level < 1 ∨ left - 1 < 0 ∨ 300 < e.name.size ∨ 300 < e.v.s.size then -1 else deepL e.kids level (left - 1) := by cases e; simp only [deep]; rfl
mutual
theorem deep_le : ∀ (e : Ex) (level left : Int), 0 ≤ left → -1 ≤ deep e level left ∧ deep e level left ≤ left
  | .mk _ _ _ kids, level, left, h => by
    simp only [deep]
    split
    · omega
    · have := deepL_le kids level (left - 1) (by omega); omega
theorem deepL_le : ∀ (l : List Ex) (level left : Int), 0 ≤ left → -1 ≤ deepL l level left ∧ deepL l level left ≤ left
  | [], _, left, h => by simp only [deepL]; omega
  | k :: r, level, left, h => by
    have := deep_le k (level - 1) left h
    simp only [deepL]
    split
    · omega
    · have := deepL_le r level (deep k (level - 1) left) (by omega); omega
end
def small (e : Ex) : Bool := decide (0 ≤ deep e 40 300)

/-- a value with only zero fields -/
def zeroV (v : Val) : Bool := decide (v.kind = 0) && (decide (v.n = 0) && (decide (v.s = B #[]) && true))

/-- the error of a node without what is below it -/
def nodeErr (e : Ex) : Int :=
  if e.op < 1 ∨ 16 < e.op then 1
  else if (e.op ≠ 2 ∧ e.op ≠ 16 ∧ e.name ≠ B #[]) ∨ (e.op ≠ 1 ∧ zeroV e.v = false) ∨ (0 ≤ kidsOf e.op ∧ (e.kids.length : Int) ≠ kidsOf e.op) then 1
  else if e.op = 1 then constErr e.v
  else if e.op = 2 then if identB e.name then 0 else 3
  else if e.op = 16 then
    if identB e.name = false then 3 else if arity e.name = 0 then 5 else if (e.kids.length : Int) ≠ arity e.name then 1 else 0
  else 0

mutual
def nodesErr : Ex → Int
  | .mk op name v kids => if nodeErr (.mk op name v kids) ≠ 0 then nodeErr (.mk op name v kids) else nodesErrL kids
def nodesErrL : List Ex → Int
  | [] => 0
  | k :: r => if nodesErr k ≠ 0 then nodesErr k else nodesErrL r
end
theorem nodesErr_eq (e : Ex) : nodesErr e = if nodeErr e ≠ 0 then nodeErr e else nodesErrL e.kids := by cases e; simp [nodesErr, Ex.kids]

/-- the error of an expression -/
def exprErr (e : Ex) : Int := if 200 < cnt e then 7 else if 16 < lev e then 20 else nodesErr e
end Go.Tb
/- The types of expressions. -/
namespace Go.Tb
open Go.Ab

def both (a b w : Int) : Bool := fits a w && fits b w
def whenT (ok : Bool) (k : Int) : Int × Int := (if ok then k else 0, if ok then 0 else 14)
/-- the type of a call, and whether its operands have the right ones -/
def callT (name : ByteArray) (a b : Int) : Int × Bool :=
  if name = wAbs then (2, fits a 2) else if name = wLen then (2, fits a 3)
  else if name = wHas ∨ name = wStarts then (1, both a b 3) else (if a < b then b else a, both a b 2 || both a b 3)
def opT (op : Int) (name : ByteArray) (a b : Int) : Int × Bool :=
  if op = 3 then (1, fits a 1) else if op = 14 ∨ op = 15 then (1, both a b 1) else if op = 4 then (2, fits a 2)
  else if op = 10 ∨ op = 11 then (1, fits a b || fits b a) else if op = 12 ∨ op = 13 then (1, both a b 2 || both a b 3)
  else if op = 16 then callT name a b else (2, both a b 2)

def findCol (cols : List Col) (name : ByteArray) : Option Col := cols.find? fun x => decide (x.name = name)

mutual
def typ (cols : List Col) : Ex → Int × Int
  | .mk op name v kids =>
    if op = 1 then (v.kind, 0)
    else if op = 2 then (match findCol cols name with | some c => (c.type, 0) | none => (0, 16))
    else if (typL cols kids []).1 ≠ 0 then (0, (typL cols kids []).1)
    else whenT (opT op name ((typL cols kids []).2.getD 0 0) ((typL cols kids []).2.getD 1 0)).2 (opT op name ((typL cols kids []).2.getD 0 0) ((typL cols kids []).2.getD 1 0)).1
def typL (cols : List Col) : List Ex → List Int → Int × List Int
  | [], ks => (0, ks)
  | k :: r, ks => if (typ cols k).2 ≠ 0 then ((typ cols k).2, []) else typL cols r (ks ++ [(typ cols k).1])
end
theorem typ_eq (cols : List Col) (e : Ex) : typ cols e = (
    if e.op = 1 then (e.v.kind, 0)
    else if e.op = 2 then (match findCol cols e.name with | some c => (c.type, 0) | none => (0, 16))
    else if (typL cols e.kids []).1 ≠ 0 then (0, (typL cols e.kids []).1)
    else whenT (opT e.op e.name ((typL cols e.kids []).2.getD 0 0) ((typL cols e.kids []).2.getD 1 0)).2 (opT e.op e.name ((typL cols e.kids []).2.getD 0 0) ((typL cols e.kids []).2.getD 1 0)).1 : Int × Int) := by
  cases e; simp only [typ]; rfl

/-- the type of an expression, or its error -/
def exprT (cols : List Col) (e : Ex) : Int × Int := if exprErr e ≠ 0 then (0, exprErr e) else typ cols e

theorem valid_kids {e : Ex} (h : nodeErr e = 0) : (e.op = 1 ∨ e.op = 2 → e.kids = []) ∧ (e.op = 3 ∨ e.op = 4 → e.kids.length = 1) ∧ (e.op = 16 → (e.kids.length : Int) = arity e.name ∧ arity e.name ≠ 0) ∧
    (e.op ≠ 1 → e.op ≠ 2 → e.op ≠ 3 → e.op ≠ 4 → e.op ≠ 16 → e.kids.length = 2) ∧ e.kids.length ≤ 2 ∧ 1 ≤ e.op ∧ e.op ≤ 16 := by
  simp only [nodeErr, kidsOf] at h
  have ha : arity e.name ≤ 2 := by simp only [arity]; split <;> (try split) <;> omega
  have h0 : e.kids = [] ↔ e.kids.length = 0 := List.length_eq_zero_iff.symm
  grind (splits := 30)
theorem valid_kidL {k : Ex} : ∀ {l : List Ex}, nodesErrL l = 0 → k ∈ l → nodesErr k = 0
  | [], _, hk => by simp at hk
  | a :: r, h, hk => by
    simp only [nodesErrL] at h
    by_cases ha : nodesErr a = 0
    · rw [if_neg (by simpa using ha)] at h
      rcases List.mem_cons.1 hk with rfl | hk
      · exact ha
      · exact valid_kidL h hk
    · rw [if_pos ha] at h; exact absurd h ha
theorem valid_kid {e k : Ex} (h : nodesErr e = 0) (hk : k ∈ e.kids) : nodesErr k = 0 := by
  rw [nodesErr_eq] at h
  by_cases ha : nodeErr e = 0
  · rw [if_neg (by simpa using ha)] at h; exact valid_kidL h hk
  · rw [if_pos ha] at h; exact absurd h ha
theorem valid_node {e : Ex} (h : nodesErr e = 0) : nodeErr e = 0 := by
  rw [nodesErr_eq] at h
  by_cases ha : nodeErr e = 0
  · exact ha
  · rw [if_pos ha] at h; exact absurd h ha
end Go.Tb
namespace Go.Tb
open Go.Ab
theorem len1 {α : Type} {l : List α} (h : l.length = 1) : ∃ a, l = [a] := by
  match l, h with
  | [a], _ => exact ⟨a, rfl⟩
theorem len2 {α : Type} {l : List α} (h : l.length = 2) : ∃ a b, l = [a, b] := by
  match l, h with
  | [a, b], _ => exact ⟨a, b, rfl⟩
theorem arity1 {s : ByteArray} (h : s = wAbs ∨ s = wLen) : arity s = 1 := by
  rcases h with rfl | rfl <;> decide
theorem arity2 {s : ByteArray} (h : arity s ≠ 0) (h1 : s ≠ wAbs) (h2 : s ≠ wLen) : arity s = 2 := by
  simp only [arity] at *
  split
  · rfl
  · simp_all
theorem callT_min {s : ByteArray} (h : s = wMin ∨ s = wMax) (a b : Int) : callT s a b = (if a < b then b else a, both a b 2 || both a b 3) := by
  rcases h with rfl | rfl <;> simp [callT, wMin, wMax, wAbs, wLen, wHas, wStarts]
theorem callT_two {s : ByteArray} (h : arity s ≠ 0) (h1 : s ≠ wMin) (h2 : s ≠ wMax) (h3 : s ≠ wAbs) (h4 : s ≠ wLen) (a b : Int) : callT s a b = (1, both a b 3) := by
  have : s = wHas ∨ s = wStarts := by
    simp only [arity] at h
    by_cases h5 : s = wHas
    · exact .inl h5
    · by_cases h6 : s = wStarts
      · exact .inr h6
      · simp_all
  simp [callT, h3, h4, this]
/-- a search's two ends -/
theorem find_some {α : Type} {l : List α} {p : α → Bool} (h : ¬ idx (l.findIdx? p) < 0) : ∃ i c, l.findIdx? p = some i ∧ l[i]? = some c ∧ l.find? p = some c ∧ p c = true := by
  cases hf : l.findIdx? p with
  | none => rw [hf] at h; exact absurd (by decide : idx none < 0) h
  | some i =>
    obtain ⟨hi, hp, hmin⟩ := List.findIdx?_eq_some_iff_getElem.1 hf
    refine ⟨i, l[i], rfl, by simp [hi], ?_, hp⟩
    rw [List.find?_eq_some_iff_getElem]
    exact ⟨hp, i, hi, rfl, fun j hj => by simpa using hmin j hj⟩
theorem find_none {α : Type} {l : List α} {p : α → Bool} (h : idx (l.findIdx? p) < 0) : l.find? p = none := by
  cases hf : l.findIdx? p with
  | some i => rw [hf] at h; exact absurd h (by simp [idx])
  | none => rw [List.findIdx?_eq_none_iff] at hf; rw [List.find?_eq_none]; intro x hx; simp [hf x hx]
end Go.Tb
namespace Go.Tb
open Go.Ab
theorem at0 {ks : List Int} (h : 1 ≤ ks.length) : (ks.map ic)[((0 : Int)).toNat]? = some (ic (ks.getD 0 0)) := by
  match ks, h with
  | a :: _, _ => rfl
theorem at1 {ks : List Int} (h : 2 ≤ ks.length) : (ks.map ic)[((1 : Int)).toNat]? = some (ic (ks.getD 1 0)) := by
  match ks, h with
  | _ :: b :: _, _ => rfl
theorem lenCases {ks : List Int} (h : ks.length ≤ 2) : ks = [] ∨ (∃ a, ks = [a]) ∨ ∃ a b, ks = [a, b] := by
  match ks, h with
  | [], _ => exact .inl rfl
  | [a], _ => exact .inr (.inl ⟨a, rfl⟩)
  | [a, b], _ => exact .inr (.inr ⟨a, b, rfl⟩)
end Go.Tb
namespace Go.Tb
theorem exprErr_zero {e : Ex} (h : exprErr e = 0) : nodesErr e = 0 := by
  simp only [exprErr] at h
  by_cases h1 : 200 < cnt e
  · rw [if_pos h1] at h; exact absurd h (by decide)
  · rw [if_neg h1] at h
    by_cases h2 : 16 < lev e
    · rw [if_pos h2] at h; exact absurd h (by decide)
    · rw [if_neg h2] at h; exact h
end Go.Tb
/- What the checks of steps and queries compute. -/
namespace Go.Tb
open Go.Ab

theorem wrap_zero {x : Int} (h0 : 0 ≤ x) (h1 : x < 18446744073709551616) : (IntKind.i64.wrap x = 0) ↔ x = 0 := by
  simp only [IntKind.wrap, IntKind.signed, IntKind.bits]
  simp
  omega

def addErr (ks : List ByteArray) (s : ByteArray) : Int := if identB s = false then 3 else if ks.any (fun x => decide (s = x)) then 4 else 0
def addTo (ks : List ByteArray) (s : ByteArray) : List ByteArray := if addErr ks s = 0 then ks ++ [s] else ks

def allErr : List ByteArray → List ByteArray → Int
  | _, [] => 0
  | ks, s :: r => if addErr ks s ≠ 0 then addErr ks s else allErr (ks ++ [s]) r
def allTo : List ByteArray → List ByteArray → List ByteArray
  | ks, [] => ks
  | ks, s :: r => if addErr ks s ≠ 0 then ks else allTo (ks ++ [s]) r

theorem allErr_append : ∀ (ks l : List ByteArray) (x : ByteArray), allErr ks l = 0 → allErr ks (l ++ [x]) = addErr (ks ++ l) x
  | ks, [], x, _ => by simp only [List.nil_append, allErr, List.append_nil]; split <;> simp_all
  | ks, s :: r, x, h => by
    simp only [allErr] at h
    split at h
    · rename_i h1; exact absurd h h1
    · rename_i h1
      simp only [List.cons_append, allErr]
      rw [if_neg h1, allErr_append (ks ++ [s]) r x h]
      simp

theorem allErr_cat : ∀ (ks l l2 : List ByteArray), allErr ks (l ++ l2) = if allErr ks l ≠ 0 then allErr ks l else allErr (ks ++ l) l2
  | ks, [], l2 => by simp [allErr]
  | ks, s :: r, l2 => by
    simp only [List.cons_append, allErr]
    split
    · rename_i h; simp [h]
    · rename_i h
      rw [allErr_cat (ks ++ [s]) r l2]
      simp

theorem allTo_len (ks l : List ByteArray) : (allTo ks l).length ≤ ks.length + l.length := by
  induction l generalizing ks with
  | nil => simp [allTo]
  | cons s r ih =>
    simp only [allTo]
    split
    · simp
    · have := ih (ks ++ [s]); simp at this ⊢; omega

theorem allTo_ok : ∀ (ks l : List ByteArray), allErr ks l = 0 → allTo ks l = ks ++ l
  | ks, [], _ => by simp [allTo]
  | ks, s :: r, h => by
    simp only [allErr] at h
    split at h
    · rename_i h1; exact absurd h h1
    · rename_i h1
      simp only [allTo]
      rw [if_neg h1, allTo_ok (ks ++ [s]) r h]
      simp

def sizeErr (n least : Int) : Int := if n < least then 8 else if 16 < n then 7 else 0
def columnsErr (l : List ByteArray) (least : Int) : Int := if sizeErr l.length least ≠ 0 then sizeErr l.length least else allErr [] l

def selErr : List ByteArray → List Itm → Int
  | _, [] => 0
  | ks, x :: r => if exprErr x.e ≠ 0 then exprErr x.e else if addErr ks x.name ≠ 0 then addErr ks x.name else selErr (ks ++ [x.name]) r

def wCount : ByteArray := B #[99, 111, 117, 110, 116]
def wSum : ByteArray := B #[115, 117, 109]
def wFirst : ByteArray := B #[102, 105, 114, 115, 116]
def wFrom : ByteArray := B #[102, 114, 111, 109]
def wTo : ByteArray := B #[116, 111]

def knownAgg (a : Agr) : Bool := decide (a.fn = wSum) || decide (a.fn = wMin) || decide (a.fn = wMax) || decide (a.fn = wFirst)
def badAgg (a : Agr) : Bool := if a.fn = wCount then !decide (a.col = B #[]) else !knownAgg a || decide (a.col = B #[])

def aggErr : List ByteArray → List Agr → Int
  | _, [] => 0
  | ks, a :: r => if badAgg a = true then 5 else if a.col ≠ B #[] ∧ identB a.col = false then 3 else if addErr ks a.name ≠ 0 then addErr ks a.name else aggErr (ks ++ [a.name]) r

def groupErr (s : Stp) : Int :=
  if s.cols.length + s.aggs.length = 0 then 8 else if 16 < s.cols.length ∨ 16 < s.aggs.length then 7
  else if allErr [] s.cols ≠ 0 then allErr [] s.cols else aggErr s.cols s.aggs

def zeroE (e : Ex) : Bool := decide (e.op = 0) && decide (e.name = B #[]) && zeroV e.v && decide (e.kids.length = 0)
def tableOp (op : Int) : Bool := decide (op = 6) || decide (op = 7) || decide (op = 8)
def usesB (s : Stp) : Bool :=
  !(decide (s.op < 1) || decide (9 < s.op)) &&
  !(!decide (s.op = 1) && !zeroE s.cond) && !(!decide (s.op = 2) && decide (0 < s.items.length)) && !(!decide (s.op = 3) && decide (0 < s.aggs.length)) &&
  !(!decide (s.op = 4) && decide (0 < s.sorts.length)) && !(!decide (s.op = 5) && !decide (s.n = 0)) && !(!tableOp s.op && !decide (s.table = B #[])) &&
  (decide (s.op = 3) || tableOp s.op || decide (s.op = 9) || decide (s.cols.length = 0))

def stepErr (s : Stp) : Int :=
  if usesB s = false then 1
  else if s.op = 1 then exprErr s.cond
  else if s.op = 2 then (if sizeErr s.items.length 1 ≠ 0 then sizeErr s.items.length 1 else selErr [] s.items)
  else if s.op = 3 then groupErr s
  else if s.op = 4 then columnsErr (s.sorts.map Srt.col) 1
  else if s.op = 5 then (if s.n < 0 ∨ 20000 < s.n then 2 else 0)
  else if s.op = 9 then columnsErr s.cols 0
  else if identB s.table = false then 3
  else columnsErr s.cols (if s.op = 6 then 1 else 0)

def stepsErr : List Stp → Int
  | [] => 0
  | s :: r => if stepErr s ≠ 0 then stepErr s else stepsErr r
def queryErr (q : Qry) : Int := if identB q.from_ = false then 3 else if 16 < q.steps.length then 7 else stepsErr q.steps

/-! tables -/
def colBad (cols : List Col) (k : Nat) (c : Col) : Int :=
  if nameErr c.name ≠ 0 then nameErr c.name else if (cols.take k).any (fun x => decide (x.name = c.name)) then 4 else if c.type ≠ 1 ∧ c.type ≠ 2 ∧ c.type ≠ 3 then 14 else 0
def colsErr (cols : List Col) : Nat → List Col → Int
  | _, [] => 0
  | k, c :: r => if colBad cols k c ≠ 0 then colBad cols k c else colsErr cols (k + 1) r
def cellsErr : List Col → List Val → Int
  | c :: cols, v :: r => if valErr c.type v ≠ 0 then valErr c.type v else cellsErr cols r
  | _, _ => 0
def rowsErr (cols : List Col) : List (List Val) → Int
  | [] => 0
  | x :: r => if x.length ≠ cols.length then 10 else if cellsErr cols x ≠ 0 then cellsErr cols x else rowsErr cols r
def tblErr (t : Tbl) : Int := if 32 < t.cols.length ∨ 20000 < t.rows.length then 7 else if colsErr t.cols 0 t.cols ≠ 0 then colsErr t.cols 0 t.cols else rowsErr t.cols t.rows
def nmdErr (d : List Nmd) (k : Nat) (x : Nmd) : Int :=
  if nameErr x.name ≠ 0 then nameErr x.name else if (d.take k).any (fun y => decide (y.name = x.name)) then 4 else tblErr x.table
def nmdsErr (d : List Nmd) : Nat → List Nmd → Int
  | _, [] => 0
  | k, x :: r => if nmdErr d k x ≠ 0 then nmdErr d k x else nmdsErr d (k + 1) r
def dataErr (d : List Nmd) : Int := if 32 < d.length then 7 else nmdsErr d 0 d

def findT (d : List Nmd) (name : ByteArray) : Option Tbl := (d.find? fun x => decide (x.name = name)).map Nmd.table
def noTbl : Tbl := ⟨[], []⟩
end Go.Tb
/- Parts of lists; small rules. -/
namespace Go.Ab
open Go.RowKit
section
variable {P : Program} (T : Tab P) {C : Ctx} {n : Nat} {ops : Array Oper} {Q : Exit → St → Prop} {rest : List Oper} {c : Code}
variable {f : List (Nat × A)} {bx : List (Nat × List A)} {lv : List Nat} {gen d : Nat} {ty : TypeId} {pos : String} {af : Array Edge} {a : A} {dst : Option Nat}

/-- l[:k] -/
theorem slToM {α : Type} {fn : α → List D} {l : List α} {t e k : Nat} {x hi : Operand} {td ed : TyD} {kh : IntKind} (hx : av f x = some a) (hes : slOf a = some (l.map fn)) (hhi : av f hi = some (.d (.v (.int kh (k : Int))))) (ht : look' T.l t = some td) (hk : td.k = .slice e)
    (he : look' T.l e = some ed) (hl : ∀ a, (fn a).length = ed.n) (h1 : k ≤ l.length) : Pu P C n ⟨f, bx, lv, gen⟩ ⟨dst, .slice t x none (some hi) none, ty, pos, af, none⟩ (.d (.sl ((l.take k).map fn))) := by
  have := slTo T (C := C) (n := n) (bx := bx) (lv := lv) (gen := gen) (ty := ty) (pos := pos) (af := af) (dst := dst) hx hes hhi ht hk he (Int.natCast_nonneg k) (by simpa using h1) (len_map hl)
  simpa [List.map_take] using this

/-- l[k:] -/
theorem slFromM {α : Type} {fn : α → List D} {l : List α} {t e k : Nat} {x lo : Operand} {td ed : TyD} {kh : IntKind} (hx : av f x = some a) (hes : slOf a = some (l.map fn)) (hlo : av f lo = some (.d (.v (.int kh (k : Int))))) (ht : look' T.l t = some td) (hk : td.k = .slice e)
    (he : look' T.l e = some ed) (hl : ∀ a, (fn a).length = ed.n) (h1 : k ≤ l.length) : Pu P C n ⟨f, bx, lv, gen⟩ ⟨dst, .slice t x (some lo) none none, ty, pos, af, none⟩ (.d (.sl ((l.drop k).map fn))) := by
  have := slFrom T (C := C) (n := n) (bx := bx) (lv := lv) (gen := gen) (ty := ty) (pos := pos) (af := af) (dst := dst) hx hes hlo ht hk he (Int.natCast_nonneg k) (by simpa using h1) (len_map hl)
  have e : (List.map fn l).take l.length = List.map fn l := List.take_of_length_le (by simp)
  simpa [List.map_drop, e] using this
end
end Go.Ab
/- The columns of steps. -/
namespace Go.Tb
open Go.Ab

abbrev CT := List Col × Int

def takeT (cols : List Col) : List Col → List ByteArray → CT
  | out, [] => (out, 0)
  | out, s :: r => match findCol cols s with
    | none => ([], 16)
    | some c => takeT cols (out ++ [c]) r

def intErr (cols : List Col) (name : ByteArray) : Int := match findCol cols name with
  | none => 16
  | some c => if c.type ≠ 2 then 14 else 0

def selT (cols : List Col) : List Col → List Itm → CT
  | out, [] => (out, 0)
  | out, x :: r => if (typ cols x.e).2 ≠ 0 then ([], (typ cols x.e).2) else if (typ cols x.e).1 = 0 then ([], 14) else selT cols (out ++ [⟨x.name, (typ cols x.e).1⟩]) r

def aggT (cols : List Col) : List Col → List Agr → CT
  | out, [] => (out, 0)
  | out, a :: r => if a.fn = wCount then aggT cols (out ++ [⟨a.name, 2⟩]) r
    else match findCol cols a.col with
      | none => ([], 16)
      | some c => if a.fn = wSum ∧ c.type ≠ 2 then ([], 14) else aggT cols (out ++ [⟨a.name, c.type⟩]) r
def groupT (cols : List Col) (s : Stp) : CT := if (takeT cols [] s.cols).2 ≠ 0 then ([], (takeT cols [] s.cols).2) else aggT cols (takeT cols [] s.cols).1 s.aggs

def coalT (cols : List Col) (s : Stp) : CT :=
  if s.cols.any (fun x => decide (wFrom = x)) || s.cols.any (fun x => decide (wTo = x)) then ([], 4)
  else if (takeT cols [] s.cols).2 ≠ 0 then ([], (takeT cols [] s.cols).2)
  else if intErr cols wFrom ≠ 0 then ([], intErr cols wFrom)
  else if intErr cols wTo ≠ 0 then ([], intErr cols wTo)
  else ((takeT cols [] s.cols).1 ++ [⟨wFrom, 2⟩, ⟨wTo, 2⟩], 0)

def spansOf (op : Int) : List ByteArray := if op = 7 then [wFrom, wTo] else if op = 8 then [wFrom] else []

/-- the error of the columns on which two tables are joined -/
def onErr (cols right : List Col) : List ByteArray → Int
  | [] => 0
  | s :: r => match findCol cols s, findCol right s with
    | some a, some b => if a.type ≠ b.type then 14 else onErr cols right r
    | _, _ => 16
def intsErr (cols : List Col) : List ByteArray → Int
  | [] => 0
  | s :: r => if intErr cols s ≠ 0 then intErr cols s else intsErr cols r
def restOf (on spans : List ByteArray) (right : List Col) : List Col := right.filter fun c => !(on.any fun x => decide (c.name = x)) && !(spans.any fun x => decide (c.name = x))
def twice : List Col → Nat → List Col → Bool
  | _, _, [] => false
  | all, k, c :: r => (all.take k).any (fun x => decide (x.name = c.name)) || twice all (k + 1) r
def outT (out : List Col) : CT := if twice out 0 out = true then ([], 4) else if 32 < out.length then ([], 7) else (out, 0)
def joinT (cols right : List Col) (s : Stp) : CT :=
  if (spansOf s.op).any (fun n => s.cols.any fun x => decide (n = x)) then ([], 4)
  else if onErr cols right s.cols ≠ 0 then ([], onErr cols right s.cols)
  else if intsErr cols (spansOf s.op) ≠ 0 then ([], intsErr cols (spansOf s.op))
  else if intsErr right (spansOf s.op) ≠ 0 then ([], intsErr right (spansOf s.op))
  else outT (cols ++ restOf s.cols (spansOf s.op) right)
def joinedT (d : List Nmd) (cols : List Col) (s : Stp) : CT := match findT d s.table with
  | none => ([], 17)
  | some t => joinT cols t.cols s

def whereErr (cols : List Col) (e : Ex) : Int := if (typ cols e).2 = 0 ∧ fits (typ cols e).1 1 = false then 14 else (typ cols e).2
def sortErr (cols : List Col) (l : List Srt) : Bool := l.any fun x => !(cols.any fun c => decide (c.name = x.col))

/-- the columns after a step -/
def stepCT (d : List Nmd) (cols : List Col) (s : Stp) : CT :=
  if stepErr s ≠ 0 then ([], stepErr s)
  else if s.op = 1 then (if whereErr cols s.cond ≠ 0 then ([], whereErr cols s.cond) else (cols, 0))
  else if s.op = 2 then selT cols [] s.items
  else if s.op = 3 then groupT cols s
  else if s.op = 4 then (if sortErr cols s.sorts = true then ([], 16) else (cols, 0))
  else if s.op = 9 then coalT cols s
  else if s.op = 6 ∨ s.op = 7 ∨ s.op = 8 then joinedT d cols s
  else (cols, 0)

def stepsCT (d : List Nmd) : List Col → List Stp → CT
  | cols, [] => (cols, 0)
  | cols, s :: r => if (stepCT d cols s).2 ≠ 0 then ([], (stepCT d cols s).2) else stepsCT d (stepCT d cols s).1 r
def queryCT (d : List Nmd) (q : Qry) : CT :=
  if dataErr d ≠ 0 then ([], dataErr d) else if queryErr q ≠ 0 then ([], queryErr q)
  else match findT d q.from_ with
    | none => ([], 17)
    | some t => stepsCT d t.cols q.steps
end Go.Tb
/- Appending a list. -/
namespace Go.Ab
open Go.RowKit
section
variable {P : Program} (T : Tab P) {C : Ctx} {n : Nat} {ops : Array Oper} {Q : Exit → St → Prop} {rest : List Oper} {c : Code}
variable {f : List (Nat × A)} {bx : List (Nat × List A)} {lv : List Nat} {gen d : Nat} {ty : TypeId} {pos : String} {af : Array Edge} {a : A} {dst : Option Nat}

theorem appendMs {α : Type} {fn : α → List D} {l l2 : List α} {x y : Operand} {t e : Nat} {td ed : TyD} {g : Nat} {b : A} (hx : av f x = some (.own g (l.map fn))) (hy : av f y = some b) (hb2 : slOf b = some (l2.map fn)) (ht : look' T.l t = some td) (hk : td.k = .slice e)
    (he : look' T.l e = some ed) (hgl : (lv.any fun h => Nat.beq h g) = true) (hz : Nat.blt 0 ed.n = true) (hb0 : Nat.blt 0 ed.b = true) (hd : Nat.blt d n = true) (hl : ∀ a, (fn a).length = ed.n) (hb : (l.length + l2.length) * ed.b ≤ 140737488355328)
    (h : WO P C n ops Q rest ⟨(d, .own gen ((l ++ l2).map fn)) :: f, bx, gen :: dropId lv g, gen + 1⟩) : WO P C n ops Q (⟨some d, .call ⟨.builtin .append, #[x, y], #[t, t]⟩, ty, pos, af, none⟩ :: rest) ⟨f, bx, lv, gen⟩ := by
  obtain ⟨g', hg1, hg2⟩ := List.any_eq_true.1 hgl
  have hgm : g ∈ lv := Nat.eq_of_beq_eq_true hg2 ▸ hg1
  refine appendR T hx hy hb2 ht hk he hgm hz hb0 hd (fun z hzm => ?_) (by simpa using hb) ?_
  · rcases List.mem_append.1 hzm with h | h <;> (obtain ⟨a', _, rfl⟩ := List.mem_map.1 h; exact hl a')
  · rw [List.map_append] at h
    exact h

/-- a slice's literal, to be appended to -/
theorem buildO {t e len : Nat} {parts : Array (Nat × Operand)} {td ed : TyD} {es : List (List D)} (ht : look' T.l t = some td) (hk : td.k = .slice e) (he : look' T.l e = some ed) (hes : elsA f 0 parts.toList = some es) (hlen : es.length = len)
    (hz : Nat.blt 0 ed.n = true) (hsm : Nat.ble (len * ed.n) 16777216 = true) (hl : lensB ed.n es = true) (hd : Nat.blt d n = true)
    (h : WO P C n ops Q rest ⟨(d, .own gen es) :: f, bx, gen :: lv, gen + 1⟩) : WO P C n ops Q (⟨some d, .buildSlice t len parts, ty, pos, af, none⟩ :: rest) ⟨f, bx, lv, gen⟩ :=
  WO.buildSlice (st := ⟨f, bx, lv, gen⟩) T rfl hd rfl ht hk he hes hlen hz hsm (lensB_mem hl) h
end
end Go.Ab
/- A statement told at once: what holds behind it, whatever way was gone. -/
namespace Go.Ab
open Go.RowKit

def restrB (bx : List (Nat × List A)) : List Nat → List (Nat × List A)
  | [] => []
  | g :: r => match look' bx g with
    | some c => (g, c) :: restrB bx r
    | none => restrB bx r

section
variable {P : Program} {C : Ctx} {n : Nat} {Q : Exit → St → Prop} {c : Code} {st : St}
variable {f f' fi : List (Nat × A)} {bx bx' bi : List (Nat × List A)} {lv lv' : List Nat} {gen gen' : Nat}

def QC (C : Ctx) (n : Nat) (S : St) (Q : Exit → St → Prop) : Exit → St → Prop
  | .normal, st => ∀ (tmps : Array Value) (w : World), Sim C n st tmps w → Sim C n S tmps w
  | e, st => Q e st

theorem W.cutS (V : List (Nat × A)) (ts : List Nat) (B : List (Nat × List A)) (bs : List Nat) (lv' : List Nat) (gen' : Nat) (h : W P C n c (QC C n ⟨V ++ restr f ts, B ++ restrB bx bs, lv', gen'⟩ Q) ⟨f, bx, lv, gen⟩)
    (hq : Q .normal ⟨V ++ restr f ts, B ++ restrB bx bs, lv', gen'⟩) : W P C n c Q ⟨f, bx, lv, gen⟩ :=
  fun tmps w hs => wp_mono (h tmps w hs) fun e act w ⟨hd, st', hs, he⟩ => by
    cases e with
    | normal => exact ⟨hd, _, he _ _ hs, hq⟩
    | _ => exact ⟨hd, st', hs, he⟩

theorem cutEnd {nb : Nat} [hnb : NB C nb] (order : List Nat) (ho : orderB order gen' nb = true) (hf : SubR order f f') (hfi : SubC f fi) (hb : SubBR order bx bx') (hbi : SubBC order bx bi) (hl : lvR order lv lv' = true) :
    QC C n ⟨f' ++ fi, bx' ++ bi, lv', gen'⟩ Q .normal ⟨f, bx, lv, gen⟩ := fun _ _ h => Sim.ren order ho hf hfi hb hbi hl h

theorem qcRet {S : St} (h : Q .ret st) : QC C n S Q .ret st := h
theorem qcExit {S : St} {i : Nat} (h : Q (.exit i) st) : QC C n S Q (.exit i) st := h
end
end Go.Ab
/- How large the inputs are that the laws look at. -/
namespace Go.Tb
open Go.Ab

def fewCols (l : List Col) : Bool := (l.all fun c => decide (c.name.size ≤ 300)) && decide (l.length ≤ 40)
def fewRow (r : List Val) : Bool := decide (r.length ≤ 40) && r.all fun v => decide (v.s.size ≤ 300)
def fewTable (t : Tbl) : Bool := fewCols t.cols && decide (t.rows.length ≤ 40) && t.rows.all fewRow
def fewNmd (x : Nmd) : Bool := decide (x.name.size ≤ 300) && fewTable x.table
def fewData (d : List Nmd) : Bool := decide (d.length ≤ 10) && d.all fewNmd
def fewItm (x : Itm) : Bool := small x.e && decide (x.name.size ≤ 300)
def fewTxt (s : ByteArray) : Bool := decide (s.size ≤ 300)
def fewAgr (a : Agr) : Bool := decide (a.col.size ≤ 300) && decide (a.name.size ≤ 300)
def fewStep (s : Stp) : Bool := small s.cond && decide (s.items.length ≤ 30) && decide (s.cols.length ≤ 30) && decide (s.aggs.length ≤ 30) && decide (s.sorts.length ≤ 30) && decide (s.table.size ≤ 300) &&
  s.items.all fewItm && s.cols.all fewTxt && s.aggs.all fewAgr
def fewQuery (q : Qry) : Bool := decide (q.steps.length ≤ 30) && decide (q.from_.size ≤ 300) && q.steps.all fewStep
end Go.Tb
/- Nil slices read as ones without elements, in arguments. -/
namespace Go.Ab
open Go.RowKit

mutual
def nilD : D → D
  | .v x => bif isNil (.d (.v x)) then .sl [] else .v x
  | .sl es => .sl (nilDss es)
def nilDs : List D → List D
  | [] => []
  | x :: r => nilD x :: nilDs r
def nilDss : List (List D) → List (List D)
  | [] => []
  | x :: r => nilDs x :: nilDss r
end

theorem nilDs_map : ∀ l, nilDs l = l.map nilD
  | [] => rfl
  | x :: r => by simp [nilDs, nilDs_map r]
theorem nilDss_map : ∀ l, nilDss l = l.map nilDs
  | [] => rfl
  | x :: r => by simp [nilDss, nilDss_map r]

theorem RepD.nilD {w : World} {pv : Nat → Nat → Prop} {v : Value} {d : D} (h : RepD w pv v d) : RepD w pv v (Ab.nilD d) := by
  induction h with
  | v x hx =>
    simp only [Ab.nilD]
    cases hn : isNil (.d (.v x)) with
    | true =>
      have := isNil_eq hn
      simp only [A.d.injEq, D.v.injEq] at this
      subst this
      exact .nil
    | false => exact .v x hx
  | nil => exact .nil
  | emp a cap hm => exact .emp a cap hm
  | sl b off len cap sz es u hl hc hm hs hu _ ih =>
    simp only [Ab.nilD, nilDss_map]
    refine .sl b off len cap sz _ u (by simpa using hl) hc hm (fun i e he => ?_) hu (fun i j e d he hd => ?_)
    · rw [List.getElem?_map, Option.map_eq_some_iff] at he
      obtain ⟨e0, he0, rfl⟩ := he
      rw [nilDs_map, List.length_map]
      exact hs i e0 he0
    · rw [List.getElem?_map, Option.map_eq_some_iff] at he
      obtain ⟨e0, he0, rfl⟩ := he
      rw [nilDs_map, List.getElem?_map, Option.map_eq_some_iff] at hd
      obtain ⟨d0, hd0, rfl⟩ := hd
      exact ih i j e0 d0 he0 hd0

def nilA : A → A
  | .d x => .d (nilD x)
  | .ag l => .ag (nilDs l)
  | a => a

theorem Rep.nilA {E : En} {v : Value} {a : A} (h : Rep E v a) : Rep E v (Ab.nilA a) := by
  cases h with
  | d hd => exact .d hd.nilD
  | ag vs l hs hd =>
    refine .ag vs _ (by rw [nilDs_map]; simpa using hs) (fun i u x hu hx => ?_)
    rw [nilDs_map, List.getElem?_map, Option.map_eq_some_iff] at hx
    obtain ⟨y, hy, rfl⟩ := hx
    exact (hd i u y hu hy).nilD
  | any => exact .any _
  | own _ g es hd hg hr => exact .own _ g es hd hg hr
  | agg vs l hs ho hd => exact .agg vs l hs ho hd
  | tup vs l hs hd => exact .tup vs l hs hd
  | rowd b off l u hc hd => exact .rowd b off l u hc hd
  | row b off l u hc hd => exact .row b off l u hc hd
  | ptr _ g off b hg hb hp => exact .ptr _ g off b hg hb hp
  | clo f vs l hs hd => exact .clo f vs l hs hd

theorem Does.nilA {P : Program} {f : FuncId} {args : List A} {r : A} {k : Nat} (h : Does P f (args.map Ab.nilA) r k) : Does P f args r k :=
  ⟨h.ok, fun C vals w hw hp hx hsz hrep => h.calls C vals w hw hp hx (by simpa using hsz) (fun i u a hu ha => by
    rw [List.getElem?_map, Option.map_eq_some_iff] at ha
    obtain ⟨y, hy, rfl⟩ := ha
    exact (hrep i u y hu hy).nilA)⟩

section
variable {P : Program} {C : Ctx} {n : Nat} {ops : Array Oper} {Q : Exit → St → Prop} {rest : List Oper} {c : Code}
variable {f : List (Nat × A)} {bx : List (Nat × List A)} {lv : List Nat} {gen d : Nat} {ty : TypeId} {pos : String} {af : Array Edge} {a : A} {dst : Option Nat}

theorem puCallN {x : Operand} {xs : Array Operand} {tys : Array TypeId} {fid : FuncId} {caps as args : List A} (hx : av f x = some (.clo fid caps)) (hxs : avs f xs.toList = some as) (harg : ((as ++ caps).map (conv bx 5)).map nilA = args) (hf : Does P fid args a 0) (hr : cleanA a = true) :
    Pu P C n ⟨f, bx, lv, gen⟩ ⟨dst, .call ⟨.value x, xs, tys⟩, ty, pos, af, none⟩ a := by
  subst harg
  exact Pu.call (st := ⟨f, bx, lv, gen⟩) rfl hx hxs hf.nilA hr
end
end Go.Ab
