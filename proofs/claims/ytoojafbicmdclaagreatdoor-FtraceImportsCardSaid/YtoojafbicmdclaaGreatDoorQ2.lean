import Derived.Test.YtoojafbicmdclaaGreatDoorQ1
import Derived.Still
import Derived.Laws.Cover3
import Derived.Lib.Bytealg
import Derived.Laws.Externs
import Derived.Lib.LaidTab
import Derived.Lib.SmallJoins
import Derived.Lib.AppendIntMem
import Derived.Lib.LaidU8
import Derived.LaidLaws
import Derived.HandedShaped
import Derived.Lay
import Derived.Lib.AtoiAllCases
import Derived.Lib.ItoaNum
import Derived.Lib.SplitLaws
import Derived.Lib.Join
import Derived.MapKept
import Derived.Lib.AppendStr
import Derived.Lib.Builder
import Derived.Lib.UnsafeStr
namespace Go.Ab
open Go.RowKit
abbrev cw := Nat → Option A
def bu (φ : cw) : Option Nat → A → cw
  | some d, a => fun t => if t = d then some a else φ t
  | none, _ => φ
section
variable {P : Program} {C : Ctx} {n : Nat} {bx : List (Nat × List A)} {lv : List Nat} {gen : Nat} {ops : Array Oper} {md : Region.Mode}
def db (C : Ctx) (n : Nat) (bx : List (Nat × List A)) (lv : List Nat) (gen : Nat) (φ : cw) (G : Gh) (tmps : Array Value) (w : World) : Prop :=
  ar C n ⟨[], bx, lv, gen⟩ G tmps w ∧ ∀ t a, φ t = some a → ∃ v, tmps[t]? = some v ∧ aA (ao C G gen w) v a
theorem db.ml {φ : cw} {G : Gh} {tmps : Array Value} {w : World} (h : db C n bx lv gen φ G tmps w) {f : List (Nat × A)} (hf : ∀ t a, look f t = some a → φ t = some a) : ar C n ⟨f, bx, lv, gen⟩ G tmps w :=
  { h.1 with frame := fun t a ha => h.2 t a (hf t a ha) }
theorem db.x5 {f : List (Nat × A)} {G : Gh} {tmps : Array Value} {w : World} (h : ar C n ⟨f, bx, lv, gen⟩ G tmps w) : db C n bx lv gen (look f) G tmps w :=
  ⟨{ h with frame := fun t a ha => by simp [look] at ha }, h.frame⟩
theorem db.step {φ : cw} {G : Gh} {tmps : Array Value} {w w' : World} (h : db C n bx lv gen φ G tmps w) (hb : Below w.heap.size w w') {dst : Option Nat} (hd : cZ n dst = true) {v : Value} {a : A} (hr : aA (ao C G gen w') v a) :
    db C n bx lv gen (bu φ dst a) G (Act.put ⟨tmps, []⟩ dst v).tmps w' := by
  obtain ⟨hle, hs⟩ := h.1.fU hb
  cases dst with
  | none => exact ⟨hs, fun t a ha => let ⟨v, h1, h2⟩ := h.2 t a ha; ⟨v, h1, h2.mono hle⟩⟩
  | some d =>
    refine ⟨{ hs with size := by have := hs.size; simpa [Act.put] using this, frame := fun t a ha => by simp [look] at ha }, fun t b hb' => ?_⟩
    simp only [bu] at hb'
    split at hb'
    · rename_i e
      subst e
      simp only [Option.some.injEq] at hb'
      subst hb'
      exact ⟨v, by simp [Act.put, Array.getElem?_setIfInBounds, hs.size, bL hd], hr⟩
    · rename_i e
      obtain ⟨u, h1, h2⟩ := h.2 t b hb'
      exact ⟨u, by simp only [Act.put]; rw [Array.getElem?_setIfInBounds_ne (Ne.symm e)]; exact h1, h2.mono hle⟩
def gk (ops : Array Oper) (o : Oper) (φ : cw) (b : Bool) : Prop :=
  match o.guard with
  | none => b = true
  | some (j, want) => ∃ d x, c8 ops j = some d ∧ φ d = some x ∧ ((∃ c, x = .d (.v (.bool c)) ∧ b = (c == want)) ∨ (x = .tup [] ∧ b = false))
def YA (P : Program) (C : Ctx) (n : Nat) (bx : List (Nat × List A)) (lv : List Nat) (gen : Nat) (ops : Array Oper) (o : Oper) (a : A) (φ : cw) : Prop :=
  cZ n o.dst = true ∧ ((gk ops o φ true ∧ ∃ f, (∀ t x, look f t = some x → φ t = some x ∧ t ∈ o.looksAt ops) ∧ Pu P C n ⟨f, bx, lv, gen⟩ (nR o) a) ∨ (gk ops o φ false ∧ a = .tup []))
theorem lC {o : Oper} {φ : cw} {b : Bool} {dst : Option Nat} {x : A} (hd : ∀ d, dst = some d → d ∉ o.looksAt ops) : gk ops o (bu φ dst x) b ↔ gk ops o φ b := by
  unfold gk
  cases hg : o.guard with
  | none => exact Iff.rfl
  | some jw =>
    obtain ⟨j, want⟩ := jw
    have key : ∀ d, c8 ops j = some d → bu φ dst x d = φ d := by
      intro d hj
      cases dst with
      | none => rfl
      | some e =>
        have : d ≠ e := by
          intro h
          subst h
          refine hd d rfl ?_
          unfold Oper.looksAt
          rw [hg]
          unfold c8 at hj
          simp [hj]
        simp [bu, this]
    constructor
    · rintro ⟨d, c, h1, h2, h3⟩; exact ⟨d, c, h1, by rw [← key d h1]; exact h2, h3⟩
    · rintro ⟨d, c, h1, h2, h3⟩; exact ⟨d, c, h1, by rw [key d h1]; exact h2, h3⟩
theorem dn {o : Oper} {a : A} {φ : cw} {dst : Option Nat} {x : A} (hd : ∀ d, dst = some d → d ∉ o.looksAt ops) : YA P C n bx lv gen ops o a (bu φ dst x) ↔ YA P C n bx lv gen ops o a φ := by
  unfold YA
  rw [lC hd, lC hd]
  have key : ∀ t, t ∈ o.looksAt ops → bu φ dst x t = φ t := by
    intro t ht
    cases dst with
    | none => rfl
    | some e =>
      have : t ≠ e := fun h => by subst h; exact hd t rfl ht
      simp [bu, this]
  constructor
  · rintro ⟨h0, ⟨h1, f, h2, h3⟩ | h1⟩
    · exact ⟨h0, .inl ⟨h1, f, fun t y hy => ⟨by rw [← key t (h2 t y hy).2]; exact (h2 t y hy).1, (h2 t y hy).2⟩, h3⟩⟩
    · exact ⟨h0, .inr h1⟩
  · rintro ⟨h0, ⟨h1, f, h2, h3⟩ | h1⟩
    · exact ⟨h0, .inl ⟨h1, f, fun t y hy => ⟨by rw [key t (h2 t y hy).2]; exact (h2 t y hy).1, (h2 t y hy).2⟩, h3⟩⟩
    · exact ⟨h0, .inr h1⟩
theorem lf (φ : cw) {x y : Option Nat} (a b : A) (h : ∀ d, x = some d → y ≠ some d) : bu (bu φ x a) y b = bu (bu φ y b) x a := by
  cases x with
  | none => rfl
  | some d =>
    cases y with
    | none => rfl
    | some e =>
      have hne : d ≠ e := fun he => h d rfl (by rw [he])
      funext t
      simp only [bu]
      split <;> split <;> simp_all
def qA (P : Program) (C : Ctx) (n : Nat) (bx : List (Nat × List A)) (lv : List Nat) (gen : Nat) (ops : Array Oper) (i : Nat) (K : cw → Prop) (φ : cw) : Prop :=
  match ops[i]? with
  | none => K φ
  | some o => ∃ a, YA P C n bx lv gen ops o a φ ∧ K (bu φ o.dst a)
theorem xv {i : Nat} {φ : cw} {K K' : cw → Prop} (h : ∀ φ, K φ → K' φ) (hh : qA P C n bx lv gen ops i K φ) : qA P C n bx lv gen ops i K' φ := by
  unfold qA at *
  split
  · exact h _ (by simpa [*] using hh)
  · rename_i o ho
    simp only [ho] at hh
    obtain ⟨a, h1, h2⟩ := hh
    exact ⟨a, h1, h _ h2⟩
def ku (P : Program) (C : Ctx) (n : Nat) (bx : List (Nat × List A)) (lv : List Nat) (gen : Nat) (md : Region.Mode) (ops : Array Oper) (Q : cw → Prop) : Nat → Array Bool → cw → Prop
  | 0, listed, φ => Region.ready md ops listed = [] ∧ Q φ
  | fuel + 1, listed, φ =>
    (Region.ready md ops listed = [] → Q φ) ∧ ∀ i ∈ Region.ready md ops listed, qA P C n bx lv gen ops i (ku P C n bx lv gen md ops Q fuel (listed.setIfInBounds i true)) φ
theorem fE {o : Oper} {φ : cw} {b : Bool} {G : Gh} {tmps : Array Value} {w : World} (hs : db C n bx lv gen φ G tmps w) (h : gk ops o φ b) : Region.wanted o (yielded ops tmps) = b := by
  unfold gk at h
  unfold Region.wanted
  cases hg : o.guard with
  | none => rw [hg] at h; exact h.symm
  | some jw =>
    obtain ⟨j, want⟩ := jw
    rw [hg] at h
    obtain ⟨d, x, h1, h2, h⟩ := h
    obtain ⟨v, h3, h4⟩ := hs.2 d _ h2
    rcases h with ⟨c, rfl, rfl⟩ | ⟨rfl, rfl⟩
    · cases h4 with | d h4 => cases h4 with | v _ _ =>
      simp only [ia h1 h3]
      cases c <;> cases want <;> rfl
    · have hy : yielded ops tmps j = none := by
        unfold yielded
        unfold c8 at h1
        rw [h1]
        simp only [Option.bind_some, h3]
        cases h4; rfl
      simp only [hy]
      rfl
theorem sJ {i : Nat} {φ : cw} {K : cw → Prop} {K' : Act → World → Prop} {Q' : Exit → Act → World → Prop} {G : Gh} {tmps : Array Value} {w : World} (hs : db C n bx lv gen φ G tmps w)
    (h : ∀ φ tmps w, db C n bx lv gen φ G tmps w → K φ → K' ⟨tmps, C.ds⟩ w) (hh : qA P C n bx lv gen ops i K φ) : wpOp P ops Q' i K' ⟨tmps, C.ds⟩ w := by
  unfold qA at hh
  unfold wpOp
  split
  · rename_i ho; simp only [ho] at hh; exact h _ _ _ hs hh
  · rename_i o ho
    simp only [ho] at hh
    obtain ⟨a, ⟨hd, hy⟩, hk⟩ := hh
    rcases hy with ⟨hw, f, hf, hp⟩ | ⟨hw, rfl⟩
    · rw [fE hs hw]
      simp only [if_true]
      refine .inl ?_
      have hg : cG P o ⟨tmps, []⟩ w fun v w' => Below w.heap.size w w' ∧ aA (ao C G gen w') v a := hp G tmps w (hs.ml fun t x hx => (hf t x hx).1)
      refine hg.ds.wp fun v w' ⟨hb, hr⟩ => ?_
      rw [Act.eM]
      exact h _ _ _ (hs.step hb hd hr) hk
    · rw [fE hs hw]
      simp only [Bool.false_eq_true, if_false]
      rw [Act.eM]
      exact h _ _ _ (hs.step (Below.refl _ _) hd (.tup #[] [] rfl (by simp))) hk
theorem mr {Q : cw → Prop} {Q' : Exit → Act → World → Prop} {G : Gh} (hQ : ∀ φ tmps w, db C n bx lv gen φ G tmps w → Q φ → Q' .normal ⟨tmps, C.ds⟩ w) : ∀ (fuel : Nat) (listed : Array Bool) (φ : cw) (tmps : Array Value) (w : World), db C n bx lv gen φ G tmps w →
    ku P C n bx lv gen md ops Q fuel listed φ → wpAny P md ops Q' fuel listed ⟨tmps, C.ds⟩ w
  | 0, _, _, _, _, hs, h => ⟨h.1, hQ _ _ _ hs h.2⟩
  | fuel + 1, _, _, _, _, hs, h => ⟨fun h0 => hQ _ _ _ hs (h.1 h0), fun i hi => sJ hs (fun φ tmps w hs' => mr hQ fuel _ φ tmps w hs') (h.2 i hi)⟩
theorem ya {j : Nat} {oi oj : Oper} {v : A} (hj : ops[j]? = some oj) (hap : oi.apart ops oj = true) {K : cw → Prop} {φ : cw} (hy : YA P C n bx lv gen ops oi v φ) (h : qA P C n bx lv gen ops j K (bu φ oi.dst v)) :
    qA P C n bx lv gen ops j (fun φ' => YA P C n bx lv gen ops oi v φ' ∧ K (bu φ' oi.dst v)) φ := by
  obtain ⟨h1, h2, h3⟩ := Oper.apart_spec hap
  unfold qA at *
  simp only [hj] at *
  obtain ⟨b, hb, hk⟩ := h
  exact ⟨b, (dn h1).1 hb, (dn h3).2 hy, by rw [← lf φ v b h2]; exact hk⟩
theorem oS {Q : cw → Prop} {i : Nat} {oi : Oper} {v : A} (hi : ops[i]? = some oi) :
    ∀ (fuel : Nat) (listed : Array Bool) (φ : cw),
      (∀ j oj, ops[j]? = some oj → j ≠ i → listed.getD j true = false → (∀ e ∈ oj.after, Region.binds md e = true → e.on ≠ i) → oi.apart ops oj = true) →
      i ∈ Region.ready md ops listed → YA P C n bx lv gen ops oi v φ →
      ku P C n bx lv gen md ops Q fuel (listed.setIfInBounds i true) (bu φ oi.dst v) → ku P C n bx lv gen md ops Q (fuel + 1) listed φ := by
  have take : ∀ {K : cw → Prop} {φ : cw}, YA P C n bx lv gen ops oi v φ → K (bu φ oi.dst v) → qA P C n bx lv gen ops i K φ := by
    intro K φ hy hk
    unfold qA
    simp only [hi]
    exact ⟨v, hy, hk⟩
  intro fuel
  induction fuel with
  | zero =>
    intro listed φ _ hr hy H
    refine ⟨fun h => (by rw [h] at hr; cases hr), fun j hj => ?_⟩
    by_cases hji : j = i
    · subst hji; exact take hy H
    · have := ready_mono hj hji
      rw [H.1] at this
      cases this
  | succ fuel ih =>
    intro listed φ hfree hr hy H
    refine ⟨fun h => (by rw [h] at hr; cases hr), fun j hj => ?_⟩
    by_cases hji : j = i
    · subst hji; exact take hy H
    · have h1 := H.2 j (ready_mono hj hji)
      obtain ⟨hjun, oj, hoj, hall⟩ := mem_ready.1 hj
      have hnot : ∀ e ∈ oj.after, Region.binds md e = true → e.on ≠ i := fun e he hb heq => by
        have h1 := hall e he hb
        have h0 := (mem_ready.1 hr).1
        rw [heq] at h1
        rcases Nat.lt_or_ge i listed.size with h' | h'
        · simp [h'] at h0 h1; rw [h0] at h1; cases h1
        · simp [Array.getElem?_eq_none h'] at h1
      have h2 := ya hoj (hfree j oj hoj hji hjun hnot) hy h1
      have hfree' : ∀ k ok, ops[k]? = some ok → k ≠ i → (listed.setIfInBounds j true).getD k true = false →
          (∀ e ∈ ok.after, Region.binds md e = true → e.on ≠ i) → oi.apart ops ok = true := fun k ok hk hki hun hno => by
        refine hfree k ok hk hki ?_ hno
        by_cases hjk : j = k
        · subst hjk; exact hjun
        · rw [getD_set_ne true hjk] at hun; exact hun
      refine xv (fun φ' h3 => ih (listed.setIfInBounds j true) φ' hfree' (ready_mono hr (Ne.symm hji)) h3.1 ?_) h2
      rw [Array.setIfInBounds_comm _ _ hji]
      exact h3.2
def yA (P : Program) (C : Ctx) (n : Nat) (bx : List (Nat × List A)) (lv : List Nat) (gen : Nat) (ops : Array Oper) (Q : cw → Prop) : List Oper → cw → Prop
  | [], φ => Q φ
  | o :: rest, φ => ∃ a, YA P C n bx lv gen ops o a φ ∧ yA P C n bx lv gen ops Q rest (bu φ o.dst a)
theorem mY {Q : cw → Prop} : ∀ (l : List Oper) (k : Nat) (listed : Array Bool) (φ : cw), (∀ j, l[j]? = ops[k + j]?) →
    Region.lexFrom md ops l.length k listed = true → yA P C n bx lv gen ops Q l φ → ku P C n bx lv gen md ops Q l.length listed φ
  | [], _, _, _, _, hB, h => ⟨by simpa [Region.lexFrom] using hB, h⟩
  | o :: l, k, listed, φ, hl, hB, h => by
    have h0 : ops[k]? = some o := by simpa using (hl 0).symm
    simp only [List.length_cons, Region.lexFrom, Bool.and_eq_true] at hB
    obtain ⟨⟨hr, hf⟩, hB'⟩ := hB
    obtain ⟨v, hy, hK⟩ := h
    exact oS h0 l.length listed φ (Region.free_spec h0 hf) (by simpa using hr) hy
      (mY l (k + 1) _ _ (fun j => by have := hl (j + 1); simpa [Nat.add_assoc, Nat.add_comm 1 j] using this) hB' hK)
def CH (P : Program) (C : Ctx) (n : Nat) (bx : List (Nat × List A)) (lv : List Nat) (gen : Nat) (ops : Array Oper) (Q : St → Prop) (l : List Oper) (f : List (Nat × A)) : Prop :=
  yA P C n bx lv gen ops (fun φ => ∃ f', (∀ t, look f' t = φ t) ∧ Q ⟨f', bx, lv, gen⟩) l (look f)
theorem eP {f : List (Nat × A)} {d : Nat} {a : A} : look ((d, a) :: f) = bu (look f) (some d) a := by
  funext t
  rw [aR]
  simp only [bu]
  split <;> split <;> simp_all
theorem CH.nil {Q : St → Prop} {f : List (Nat × A)} (h : Q ⟨f, bx, lv, gen⟩) : CH P C n bx lv gen ops Q [] f := ⟨f, fun _ => rfl, h⟩
def cp (f : List (Nat × A)) : List Nat → List (Nat × A)
  | [] => []
  | t :: r => match look f t with
    | some a => (t, a) :: cp f r
    | none => cp f r
theorem eo {f : List (Nat × A)} : ∀ {ts : List Nat} {t : Nat} {a : A}, look (cp f ts) t = some a → look f t = some a ∧ t ∈ ts
  | [], t, a, h => by simp [cp, look] at h
  | s :: ts, t, a, h => by
    simp only [cp] at h
    split at h
    · rename_i b hb
      rw [aR] at h
      split at h
      · rename_i e; subst e; simp only [Option.some.injEq] at h; subst h; exact ⟨hb, List.mem_cons_self⟩
      · obtain ⟨h1, h2⟩ := eo h; exact ⟨h1, List.mem_cons_of_mem _ h2⟩
    · obtain ⟨h1, h2⟩ := eo h; exact ⟨h1, List.mem_cons_of_mem _ h2⟩
variable {op : Op} {ty : TypeId} {pos : String} {af : Array Edge} {a : A} {d : Nat} {rest : List Oper} {f : List (Nat × A)} {Q : St → Prop}
def slotsOf (op : Op) : List Nat := op.operands.toList.filterMap fun | .tmp t => some t | _ => none
theorem aC (hp : Pu P C n ⟨cp f (slotsOf op), bx, lv, gen⟩ ⟨some d, op, ty, pos, af, none⟩ a) (hd : Nat.blt d n = true) (h : CH P C n bx lv gen ops Q rest ((d, a) :: f)) : CH P C n bx lv gen ops Q (⟨some d, op, ty, pos, af, none⟩ :: rest) f := by
  unfold CH at *
  rw [eP] at h
  refine ⟨a, ⟨hd, .inl ⟨rfl, _, fun t x hx => ?_, hp⟩⟩, h⟩
  obtain ⟨h1, h2⟩ := eo hx
  exact ⟨h1, List.mem_append.2 (.inl h2)⟩
theorem bN {j e : Nat} {want : Bool} (hj : c8 ops j = some e) (hl : look f e = some (.d (.v (.bool want)))) (hp : Pu P C n ⟨cp f (slotsOf op), bx, lv, gen⟩ ⟨some d, op, ty, pos, af, none⟩ a) (hd : Nat.blt d n = true) (h : CH P C n bx lv gen ops Q rest ((d, a) :: f)) :
    CH P C n bx lv gen ops Q (⟨some d, op, ty, pos, af, some (j, want)⟩ :: rest) f := by
  unfold CH at *
  rw [eP] at h
  refine ⟨a, ⟨hd, .inl ⟨⟨e, _, hj, hl, .inl ⟨want, rfl, by simp⟩⟩, _, fun t x hx => ?_, hp⟩⟩, h⟩
  obtain ⟨h1, h2⟩ := eo hx
  exact ⟨h1, List.mem_append.2 (.inl h2)⟩
theorem mI {j e : Nat} {want b : Bool} (hj : c8 ops j = some e) (hl : look f e = some (.d (.v (.bool b)))) (hb : (b == want) = false) (hd : Nat.blt d n = true) (h : CH P C n bx lv gen ops Q rest ((d, .tup []) :: f)) :
    CH P C n bx lv gen ops Q (⟨some d, op, ty, pos, af, some (j, want)⟩ :: rest) f := by
  unfold CH at *
  rw [eP] at h
  exact ⟨.tup [], ⟨hd, .inr ⟨⟨e, _, hj, hl, .inl ⟨b, rfl, hb.symm⟩⟩, rfl⟩⟩, h⟩
theorem xE {l : List Oper} {e : Nat} {b : Bool} (hl : look f e = some (.d (.v (.bool b)))) (ht : b = true → CH P C n bx lv gen ops Q l ((e, .d (.v (.bool true))) :: f)) (hf : b = false → CH P C n bx lv gen ops Q l ((e, .d (.v (.bool false))) :: f)) :
    CH P C n bx lv gen ops Q l f := by
  have key : ∀ c, b = c → look ((e, A.d (.v (.bool c))) :: f) = look f := by
    intro c hc
    subst hc
    funext t
    rw [aR]
    split
    · rename_i h; subst h; exact hl.symm
    · rfl
  cases b
  · have := hf rfl; unfold CH at *; rw [key false rfl] at this; exact this
  · have := ht rfl; unfold CH at *; rw [key true rfl] at this; exact this
theorem W.cU (T : bm P) {id : Nat} {l : List Oper} {Q : Exit → St → Prop} (hB : Region.lexB .any l.toArray = true) (h : CH P C n bx lv gen l.toArray (Q .normal) l f) : W P C n (.region id l.toArray true) Q ⟨f, bx, lv, gen⟩ := by
  intro tmps w ⟨G, hs⟩
  simp only [Region.lexB, Bool.and_eq_true] at hB
  have hb : Below w.heap.size w { w with drawn := w.drawn + 1 } := (Below.refl _ w).drew
  have hs' : db C n bx lv gen (look f) G tmps { w with drawn := w.drawn + 1 } := db.x5 (hs.fU hb).2
  refine wp_region_any T.mixed (mr (Q := fun φ => ∃ f', (∀ t, look f' t = φ t) ∧ Q .normal ⟨f', bx, lv, gen⟩) (fun φ tmps w hs ⟨f', h1, h2⟩ => ⟨rfl, _, ⟨G, hs.ml (f := f') fun t a ha => by rw [← h1]; exact ha⟩, h2⟩) _ _ _ _ _ hs' ?_)
  have := mY (P := P) (C := C) (n := n) (bx := bx) (lv := lv) (gen := gen) (md := .any) (ops := l.toArray) l 0 (Array.replicate l.toArray.size false) (look f) (by simp) (by simpa using hB.2) h
  simpa using this
end
end Go.Ab
namespace Go.Ab
open Go.RowKit
inductive RV where
  | tmp (t : Nat)
  | cell (t ty : Nat)
def RV.var : RV → ResultVar
  | .tmp t => .tmp t
  | .cell t ty => .cell t ty
def mA (tmps : Array Value) : ResultVar → Sem Value
  | .tmp t => pure (tmps.getD t undef)
  | .cell a t => do loadVar t (← asAddr (tmps.getD a undef))
section
variable {P : Program} (T : bm P)
def gn (f : List (Nat × A)) (bx : List (Nat × List A)) : List RV → Option (List A)
  | [] => some []
  | .tmp t :: r => match look f t, gn f bx r with
    | some a, some l => some (a :: l)
    | _, _ => none
  | .cell t ty :: r => match look f t with
    | some (.ptr g off) => (match ak bx g with
      | some cells => (match iR T ty (cells.drop off), gn f bx r with
        | some a, some l => some (a :: l)
        | _, _ => none)
      | none => none)
    | _ => none
def QV (rs : List RV) (r : A) (k : Nat) : Exit → St → Prop := fun e st =>
  (match e with | .normal => True | .ret => True | _ => False) ∧ ∃ l order, gn T st.f st.bx rs = some l ∧ norm order (aL l) = r ∧ order.length = k ∧ order.Nodup ∧ ∀ g ∈ order, g ∈ st.lv
theorem iv {C : Ctx} {n : Nat} {st : St} {G : Gh} {tmps : Array Value} {w : World} (hs : ar C n st G tmps w) : ∀ (rs : List RV) (l : List A), gn T st.f st.bx rs = some l →
    ∃ vs : List Value, ((rs.map RV.var).mapM (mA tmps)).run P w = .ok vs w ∧ vs.length = l.length ∧
      ∀ (i : Nat) (u : Value) (a : A), vs[i]? = some u → l[i]? = some a → aA (ao C G st.gen w) u a
  | [], l, h => by simp only [gn, Option.some.injEq] at h; subst h; exact ⟨[], by simp, rfl, by simp⟩
  | .tmp t :: r, l, h => by
    simp only [gn] at h
    split at h
    · rename_i a l' ha hl'
      simp only [Option.some.injEq] at h
      subst h
      obtain ⟨vs, h1, h2, h3⟩ := iv hs r l' hl'
      obtain ⟨v, hv, hr⟩ := hs.frame _ _ ha
      refine ⟨v :: vs, ?_, by simp [h2], fun i u a hu ha => ?_⟩
      · simp only [List.map_cons, RV.var, List.mapM_cons, Sem.run_bind, mA, Sem.run_pure, Result.andThen_ok, h1]
        simp [hv]
      · cases i with
        | zero => simp at hu ha; subst hu; subst ha; exact hr
        | succ i => exact h3 i u a (by simpa using hu) (by simpa using ha)
    · cases h
  | .cell t ty :: r, l, h => by
    simp only [gn] at h
    split at h
    · rename_i g off ht
      split at h
      · rename_i cells hb
        split at h
        · rename_i a l' ha hl'
          simp only [Option.some.injEq] at h
          subst h
          obtain ⟨vs, h1, h2, h3⟩ := iv hs r l' hl'
          obtain ⟨v, hv, hr⟩ := hs.frame _ _ ht
          obtain ⟨b, cs, T', h4, h5, h6, h7, h8⟩ := gP hs hb hr
          subst h4
          obtain ⟨u, hu1, hu2⟩ := jH (E := ao C G st.gen w) T (t := ty) (b := b) (off := off) (u := fun j => cs[off + j]?.getD default) (l := cells.drop off) (fun j hj => by
              have hj' : off + j < cs.size := by simp at hj; omega
              have e : cs[off + j]? = some cs[off + j] := by simp [hj']
              exact ⟨by show cellAt w b (off + j) = _; rw [bj h5, e]; rfl, by rw [e]; exact h7 _ _ e⟩) (fun j y hy => by
              have hy' : cells[off + j]? = some y := by simpa using hy
              have hj' : off + j < cs.size := by rw [h6]; exact (List.getElem?_eq_some_iff.1 hy').1
              have e : cs[off + j]? = some cs[off + j] := by simp [hj']
              rw [e]
              exact h8 _ _ _ e hy') ha
          have hu1' : (loadVar ty ⟨b, off, none⟩).run P w = .ok u w := hu1
          refine ⟨u :: vs, ?_, by simp [h2], fun i x a hx ha => ?_⟩
          · have hg : tmps.getD t undef = .pointer (some ⟨b, off, none⟩) := by simp [hv]
            simp only [List.map_cons, RV.var, List.mapM_cons, mA, Sem.run_bind, Sem.run_pure, Result.andThen_ok, h1, hg, asAddr, hu1']
          · cases i with
            | zero => simp at hx ha; subst hx; subst ha; exact hu2
            | succ i => exact h3 i x a (by simpa using hx) (by simpa using ha)
        · cases h
      · cases h
    · cases h
theorem iC {fn : Func} {rs : List RV} (h : fn.results = (rs.map RV.var).toArray) {tmps : Array Value} {w : World} {vs : List Value}
    (hr : ((rs.map RV.var).mapM (mA tmps)).run P w = .ok vs w) :
    (results fn tmps).run P w = .ok (gS vs) w := by
  have e : results fn tmps = (do
      let vs ← fn.results.mapM (mA tmps)
      pure (if h : vs.size = 1 then vs[0] else .tuple vs)) := by
    unfold results
    congr 2
    first | done | (congr 2; funext x; cases x <;> rfl)
  rw [e, h, Array.mapM_eq_mapM_toList]
  simp only [Sem.run_bind, Sem.run_map, hr, Result.andThen_ok, Sem.run_pure]
  match vs with
  | [] => simp [gS]
  | [v] => simp [gS]
  | v :: v2 :: vs => simp [gS]
theorem ax.iy [Met P] {f : FuncId} {fn : Func} {c : Code} {rs : List RV} {n : Nat} {args : List A} {r : A} {k : Nat} (hf : P.funcs[f]? = some fn) (hname : (fn.name == "runtime.NumGoroutine") = false) (hb : fn.body = some c) (hn : fn.ntmps = n)
    (hr : fn.results = (rs.map RV.var).toArray) (hlen : Nat.ble args.length n = true) (h : ∀ C, NB C 0 → GC P C → W P C n c (QV T rs r k) ⟨gV 0 args, [], [], 0⟩) : ax P f args r k := by
  have hlen := Nat.le_of_ble_eq_true hlen
  refine ⟨⟨fn, hf, hname, by rw [hb]; rfl⟩, fun C vals w hG hw hp hx hsz hrep => ?_⟩
  subst hw
  refine calls_of_wp hf hb (wp_mono (rI hp.2.2.2 (h C ⟨by rw [hp.2.2.1]; rfl⟩ hG (vals ++ Array.replicate (fn.ntmps - vals.size) undef) C.w0 ⟨G0, ?_⟩)) ?_)
  · refine { size := by simp [hn]; omega, frame := fun t a ha => ?_, box := fun g cells hc => by simp [ak] at hc, gbox := fun g b hb => by simp [G0] at hb, inj := fun g g' b hb => by simp [G0] at hb,
             live := fun g hg => by simp at hg, gown := fun g r hr => by simp [G0] at hr, row := fun g b len cap sz pub hr => by simp [G0] at hr, mrow := fun g b bs hr => by simp [G0] at hr, sub := fun g b bs c lim hr => by simp [G0] at hr, gcell := fun g b hb => by simp [G0] at hb, xold := fun b o hb => ⟨hx b o hb, hp.1 b⟩, kold := fun b o hb => absurd hb (hp.2.1 b o), lent := fun i b hb => by rw [hp.2.2.1] at hb; simp at hb,
             fr := ⟨rfl, rfl, rfl, Nat.le_refl _, fun _ _ _ => rfl, fun _ _ _ hb => absurd hb (hp.2.1 _ _), cu.refl _⟩ }
    obtain ⟨_, h1⟩ := fS args 0 t a ha
    have h2 : t < args.length := (List.getElem?_eq_some_iff.1 (by simpa using h1)).1
    have h3 : t < vals.size := by omega
    have h4 : vals[t]? = some vals[t] := by simp [h3]
    exact ⟨vals[t], by rw [Array.getElem?_append_left h3]; exact h4, hrep t _ a h4 (by simpa using h1)⟩
  · rintro e ⟨tmps, df⟩ w' ⟨hd, st, ⟨G, hs⟩, he, l, order, hl, hno, hol, hnd, hov⟩
    have hmain : ∃ v, (results fn tmps).run P w' = .ok v w' ∧ ∃ v_1 G', Ending.returned v = .returned v_1 ∧ ar C 0 ⟨[], [], List.range k, k⟩ G' #[] w' ∧ aA (ao C G' k w') v_1 r := by
      obtain ⟨vs, hvs, hvl, hvr⟩ := iv T hs rs l hl
      refine ⟨_, iC hr hvs, _, ⟨fun _ => none, fun i => if i < k then (order[i]?).bind G.own else none⟩, rfl, ?_, ?_⟩
      · refine { size := rfl, frame := fun t a ha => by simp [look] at ha, box := fun g cells hc => by simp [ak] at hc, gbox := fun g b hb => by simp at hb, inj := fun g g' b hb => by simp at hb,
                 live := fun g hg => ?_, gown := fun g r hr => ?_, row := fun g b len cap sz pub hr => ?_, mrow := fun g b bs hr => ?_, sub := fun g b bs c lim hr hm => ?_, gcell := fun g b hb => (by cases hb), xold := hs.xold, kold := hs.kold, lent := fun i b hb => by rw [hp.2.2.1] at hb; simp at hb, fr := hs.fr }
        · have hg' : g < k := by simpa using hg
          have hg2 : g < order.length := by omega
          obtain ⟨r', hr'⟩ := hs.live order[g] (hov _ (List.getElem_mem hg2))
          exact ⟨r', by simp [hg', hg2, hr']⟩
        · dsimp only at hr
          split at hr
          · assumption
          · cases hr
        · dsimp only at hr
          split at hr
          · rename_i hgk
            obtain ⟨g0, hg0, hr0⟩ := Option.bind_eq_some_iff.1 hr
            obtain ⟨h1, h2, h3, h4⟩ := hs.row g0 b len cap sz pub hr0
            refine ⟨h1, fun g' => by simp, fun g' len' cap' sz' pub' hr' => ?_, h4⟩
            dsimp only at hr'
            split at hr'
            · obtain ⟨g1, hg1, hr1⟩ := Option.bind_eq_some_iff.1 hr'
              have e := h3 g1 len' cap' sz' pub' hr1
              subst e
              obtain ⟨i1, e1⟩ := List.getElem?_eq_some_iff.1 hg0
              obtain ⟨i2, e2⟩ := List.getElem?_eq_some_iff.1 hg1
              have hpw := List.pairwise_iff_getElem.1 hnd
              rcases Nat.lt_trichotomy g' g with hlt | heq | hgt
              · exact absurd (e2.trans e1.symm) (hpw g' g i2 i1 hlt)
              · exact heq
              · exact absurd (e1.trans e2.symm) (hpw g g' i1 i2 hgt)
            · cases hr'
          · cases hr
        · dsimp only at hr
          split at hr
          · rename_i hgk
            obtain ⟨g0, hg0, hr0⟩ := Option.bind_eq_some_iff.1 hr
            obtain ⟨h1, _, h3, h4⟩ := hs.mrow g0 b bs hr0
            refine ⟨h1, fun g' => by simp, fun g' bs' hr' => ?_, h4⟩
            dsimp only at hr'
            split at hr'
            · obtain ⟨g1, hg1, hr1⟩ := Option.bind_eq_some_iff.1 hr'
              have e := h3 g1 bs' hr1
              subst e
              obtain ⟨i1, e1⟩ := List.getElem?_eq_some_iff.1 hg0
              obtain ⟨i2, e2⟩ := List.getElem?_eq_some_iff.1 hg1
              have hpw := List.pairwise_iff_getElem.1 hnd
              rcases Nat.lt_trichotomy g' g with hlt | heq | hgt
              · exact absurd (e2.trans e1.symm) (hpw g' g i2 i1 hlt)
              · exact heq
              · exact absurd (e1.trans e2.symm) (hpw g g' i1 i2 hgt)
            · cases hr'
          · cases hr
        · dsimp only at hr
          split at hr
          · rename_i hgk
            obtain ⟨g0, hg0, hr0⟩ := Option.bind_eq_some_iff.1 hr
            obtain ⟨h1, _, h3, h4, h5⟩ := hs.sub g0 b bs c lim hr0 hm
            refine ⟨h1, fun g' => by simp, fun g' len cap sz pub hr' => ?_, fun g' b' bs' lim' hr' hm' => ?_, h5⟩
            · dsimp only at hr'
              split at hr'
              · obtain ⟨g1, hg1, hr1⟩ := Option.bind_eq_some_iff.1 hr'
                exact h3 g1 _ _ _ _ hr1
              · cases hr'
            · dsimp only at hr'
              split at hr'
              · obtain ⟨g1, hg1, hr1⟩ := Option.bind_eq_some_iff.1 hr'
                obtain ⟨e, e0⟩ := h4 g1 _ _ _ hr1 hm'
                subst e
                refine ⟨?_, e0⟩
                obtain ⟨i1, e1⟩ := List.getElem?_eq_some_iff.1 hg0
                obtain ⟨i2, e2⟩ := List.getElem?_eq_some_iff.1 hg1
                have hpw := List.pairwise_iff_getElem.1 hnd
                rcases Nat.lt_trichotomy g' g with hlt | heq | hgt
                · exact absurd (e2.trans e1.symm) (hpw g' g i2 i1 hlt)
                · exact heq
                · exact absurd (e1.trans e2.symm) (hpw g g' i1 i2 hgt)
              · cases hr'
          · cases hr
      · rw [← hno]
        refine aA.norm (order := order) (E := ao C G st.gen w') (E2 := ao C ⟨fun _ => none, fun i => if i < k then (order[i]?).bind G.own else none⟩ k w') (fun b o u hu hn => ⟨hu, fun hp => hn ?_⟩) (fun g r' hg hr' => ?_) (by simp [ao, hol]) (j8 hvl hvr)
        · rcases (hp : aN C ⟨fun _ => none, fun i => if i < k then (order[i]?).bind G.own else none⟩ b o) with hp | ⟨g, hp⟩ | ⟨g, len, cap, sz, pub, hp, hle⟩ | ⟨g, b', bs, lim, hp, hm, hle⟩
          · exact Or.inl hp
          · cases hp
          · simp only at hp
            split at hp
            · obtain ⟨g0, _, hr0⟩ := Option.bind_eq_some_iff.1 hp
              exact Or.inr (Or.inr (.inl ⟨g0, len, cap, sz, pub, hr0, hle⟩))
            · cases hp
          · simp only at hp
            split at hp
            · obtain ⟨g0, _, hr0⟩ := Option.bind_eq_some_iff.1 hp
              exact Or.inr (Or.inr (.inr ⟨g0, b', bs, lim, hr0, hm, hle⟩))
            · cases hp
        · have hr2 : (if order.idxOf g < k then (order[order.idxOf g]?).bind G.own else none) = some r' := hr'
          rw [if_pos (by rw [← hol]; exact eS hg)] at hr2
          have : order[order.idxOf g]? = some g := by
            rw [List.getElem?_eq_some_iff]
            exact ⟨eS hg, List.getElem_idxOf (eS hg)⟩
          rw [this] at hr2
          exact hr2
    cases e with
    | normal => exact ⟨hd.trans hp.2.2.2, hmain⟩
    | ret => exact ⟨hd.trans hp.2.2.2, hmain⟩
    | exit _ => exact he.elim
    | goto _ => exact he.elim
    | panic _ => exact he.elim
    | outgrown => exact he.elim
theorem QV.az {rs : List RV} {r : A} {e : Exit} {st : St} {l : List A} (he : match e with | .normal => True | .ret => True | _ => False) (hl : gn T st.f st.bx rs = some l) (hr : norm [] (aL l) = r) : QV T rs r 0 e st :=
  ⟨he, l, [], hl, hr, rfl, List.nodup_nil, by simp⟩
variable {C : Ctx} {n : Nat} {ops : Array Oper} {Q : Exit → St → Prop} {rest l : List Oper} {c : Code}
variable {f f' : List (Nat × A)} {bx bx' : List (Nat × List A)} {lv lv' : List Nat} {gen gen' d : Nat} {op : Op} {ty : TypeId} {pos : String} {af : Array Edge} {a : A} {dst : Option Nat}
def QE (f : List (Nat × A)) (bx : List (Nat × List A)) (lv : List Nat) (gen : Nat) : Exit → St → Prop := fun e st => e = .normal ∧ Sub st.f f ∧ kE st.bx bx ∧ (∀ g ∈ lv, g ∈ st.lv) ∧ st.gen ≤ gen
theorem WO.cut (f') (bx') (lv') (gen') {st : St} (h : WO P C n ops (QE f' bx' lv' gen') l st) (hq : Q .normal ⟨f', bx', lv', gen'⟩) : WO P C n ops Q l st := by
  have key : ∀ (l : List Oper) (act : Act) (w : World), dh P ops (lift C n (QE f' bx' lv' gen')) l act w → dh P ops (lift C n Q) l act w := by
    intro l
    induction l with
    | nil =>
      rintro act w ⟨hd, st', ⟨G, hs⟩, _, h1, h2, h3, h4⟩
      exact ⟨hd, _, ⟨G, ar.bZ (f := st'.f) (bx := st'.bx) (lv := st'.lv) (gen := st'.gen) hs h1 h2 h3 h4⟩, hq⟩
    | cons o l ih =>
      intro act w h
      simp only [dh] at h ⊢
      split
      · rename_i hw
        rw [if_pos hw] at h
        refine Oper.wp_mono ?_ (Q := lift C n Q) (K := dh P ops (lift C n (QE f' bx' lv' gen')) l) ?_
        · exact ih
        · unfold Oper.wp at h ⊢
          generalize (execOp act.eval o).run P w = r at *
          cases r with
          | ok x w' =>
            cases x <;> simp only [Oper.upon] at h ⊢
            case enter f args =>
              refine h.mono fun e w'' he => ?_
              cases e with
              | returned v => exact he
              | panicked chain => exact absurd he.2.choose_spec.2.1 (by simp)
              | outgrown => obtain ⟨_, _, he⟩ := he; exact absurd he.2.choose_spec.2.1 (by simp)
            all_goals exact h
          | halt x w' =>
            cases x <;> simp only [Oper.upon] at h ⊢
            exact absurd h.2.choose_spec.2.1 (by simp)
      · rename_i hw
        rw [if_neg hw] at h
        exact ih _ _ h
  exact fun tmps w hs => key l _ w (h tmps w hs)
theorem QE.mk {st : St} (h1 : Sub st.f f) (h2 : kE st.bx bx) (h3 : ∀ g ∈ lv, g ∈ st.lv) (h4 : st.gen ≤ gen) : QE f bx lv gen .normal st := ⟨rfl, h1, h2, h3, h4⟩
theorem W.cut (f') (bx') (lv') (gen') {st : St} (h : W P C n c (fun e st => match e with | .normal => QE f' bx' lv' gen' .normal st | e => Q e st) st) (hq : Q .normal ⟨f', bx', lv', gen'⟩) : W P C n c Q st :=
  fun tmps w hs => wp_mono (h tmps w hs) fun e act w ⟨hd, st', ⟨G, hs⟩, he⟩ => by
    cases e with
    | normal => exact ⟨hd, _, ⟨G, ar.bZ (f := st'.f) (bx := st'.bx) (lv := st'.lv) (gen := st'.gen) hs he.2.1 he.2.2.1 he.2.2.2.1 he.2.2.2.2⟩, hq⟩
    | _ => exact ⟨hd, st', ⟨G, hs⟩, he⟩
theorem yZ {x : Operand} {xs : Array Operand} {tys : Array TypeId} {fid : FuncId} {vs : List Value} {r : Value} (hx : av f x = some (.clo fid [])) (hxs : iH f xs.toList = some (vs.map fun v => A.d (.v v))) (hrun : ∀ w, (callFunc fid vs.toArray).run P w = .ok (.value r) w) (hr : bK r = true) :
    Pu P C n ⟨f, bx, lv, gen⟩ ⟨dst, .call ⟨.value x, xs, tys⟩, ty, pos, af, none⟩ (.d (.v r)) := by
  intro G tmps w hs
  have hrx := hs.av hx
  generalize hv : Act.eval ⟨tmps, []⟩ x = v at hrx
  cases hrx with
  | clo _ cs _ hsz hd =>
  have hcs : cs = #[] := Array.eq_empty_of_size_eq_zero (by simpa using hsz)
  subst hcs
  obtain ⟨h1, h2⟩ := gd hs xs.toList _ hxs
  have hargs : xs.map (Act.eval ⟨tmps, []⟩) = vs.toArray := by
    apply Array.ext_getElem?
    intro i
    simp only [Array.getElem?_map, List.getElem?_toArray]
    cases hvi : vs[i]? with
    | none =>
      have : xs.size ≤ i := by have := List.getElem?_eq_none_iff.1 hvi; simp at h1; omega
      simp [this]
    | some u =>
      obtain ⟨y, hy, hr⟩ := h2 i (.d (.v u)) (by rw [List.getElem?_map, hvi]; rfl)
      have hy' : xs[i]? = some y := by simpa using hy
      rw [hy']
      simp only [Option.map_some, Option.some.injEq]
      generalize Act.eval ⟨tmps, []⟩ y = z at hr ⊢
      cases hr with | d hr => cases hr; rfl
  refine cd (v := r) (w' := w) ?_ ⟨Below.refl _ _, .d (.v _ hr)⟩
  unfold execOp
  show Sem.run P (do let d ← resolve (Act.eval ⟨tmps, []⟩) ⟨.value x, xs, tys⟩ ty; invoke d.target d.args) w = _
  simp only [resolve, hv, Deferred.ofValue, Sem.run_bind, Sem.run_pure, Result.andThen_ok, invoke, Array.empty_append, hargs, Array.append_empty]
  exact hrun w
end
end Go.Ab
namespace Go.Ab
open Go.RowKit
def oL : Bool → List Oper → Option Nat
  | _, [] => none
  | g, o :: r => match o.op, r with
    | .pick _ _ _, [] => bif g then o.dst else none
    | .pick _ _ _, [o'] => match o'.op with
      | .assign _ => bif g then o'.dst else none
      | _ => oL (g || o.guard.isSome) r
    | .assign _, _ => none
    | _, _ => oL (g || o.guard.isSome) r
abbrev gX (b : Bool) : A := .d (.v (.bool b))
def qj (d : Nat) : List (Nat × A) → List (Nat × A) → Bool
  | [], _ => true
  | (s, _) :: r, f0 => (Nat.beq s d || f0.all fun x => !Nat.beq x.1 s) && qj d r f0
section
variable {P : Program} {C : Ctx} {n : Nat} {ops : Array Oper} {Q : Exit → St → Prop} {rest l : List Oper} {c : Code}
variable {f f0 f' : List (Nat × A)} {bx bx0 bx' : List (Nat × List A)} {lv lv0 lv' : List Nat} {gen gen0 gen' d : Nat} {op : Op} {ty : TypeId} {pos : String} {af : Array Edge} {a : A} {dst : Option Nat}
def bU (d : Nat) (y : Bool) (f : List (Nat × A)) (bx : List (Nat × List A)) (lv : List Nat) (gen : Nat) : Exit → St → Prop := fun e st =>
  e = .normal ∧ (∀ t a, look ((d, gX y) :: f) t = some a → look st.f t = some a) ∧ st.bx = bx ∧ st.lv = lv ∧ st.gen = gen
theorem WO.wo {y : Bool} {st : St} (h : WO P C n ops (bU d y f bx lv gen) l st) (hq : Q .normal ⟨(d, gX y) :: f, bx, lv, gen⟩) : WO P C n ops Q l st := by
  have key : ∀ (l : List Oper) (act : Act) (w : World), dh P ops (lift C n (bU d y f bx lv gen)) l act w → dh P ops (lift C n Q) l act w := by
    intro l
    induction l with
    | nil =>
      rintro act w ⟨hd, st', ⟨G, hs⟩, _, h1, h2, h3, h4⟩
      exact ⟨hd, _, ⟨G, hs.weaken (st' := ⟨(d, gX y) :: f, bx, lv, gen⟩) ⟨h1, by rw [← h2]; exact fun _ _ h => h, by rw [← h3]; exact fun _ h => h, h4.symm⟩⟩, hq⟩
    | cons o l ih =>
      intro act w h
      simp only [dh] at h ⊢
      split
      · rename_i hw
        rw [if_pos hw] at h
        refine Oper.wp_mono ?_ (Q := lift C n Q) (K := dh P ops (lift C n (bU d y f bx lv gen)) l) ?_
        · exact ih
        · unfold Oper.wp at h ⊢
          generalize (execOp act.eval o).run P w = r at *
          cases r with
          | ok x w' =>
            cases x <;> simp only [Oper.upon] at h ⊢
            case enter f args =>
              refine h.mono fun e w'' he => ?_
              cases e with
              | returned v => exact he
              | panicked chain => exact absurd he.2.choose_spec.2.1 (by simp)
              | outgrown => obtain ⟨_, _, he⟩ := he; exact absurd he.2.choose_spec.2.1 (by simp)
            all_goals exact h
          | halt x w' =>
            cases x <;> simp only [Oper.upon] at h ⊢
            exact absurd h.2.choose_spec.2.1 (by simp)
      · rename_i hw
        rw [if_neg hw] at h
        exact ih _ _ h
  exact fun tmps w hs => key l _ w (h tmps w hs)
theorem aI {id : Nat} {y : Bool} (hb : oL false l = some d) (h : WO P C n l.toArray (bU d y f bx lv gen) l ⟨f, bx, lv, gen⟩) (hq : Q .normal ⟨(d, gX y) :: f, bx, lv, gen⟩) : W P C n (.region id l.toArray false) Q ⟨f, bx, lv, gen⟩ :=
  W.region (WO.wo h hq)
theorem ay {y : Bool} (hl : look f d = some (gX y)) (hd : f.drop (f.length - f0.length) = f0) (hj : qj d (f.take (f.length - f0.length)) f0 = true) : bU d y f0 bx lv gen .normal ⟨f, bx, lv, gen⟩ := by
  refine ⟨rfl, fun t a ha => ?_, rfl, rfl, rfl⟩
  rw [aR] at ha
  split at ha
  · rename_i e; subst e; rw [← ha]; exact hl
  · rename_i hne
    dsimp only
    rw [← List.take_append_drop (f.length - f0.length) f, hd]
    generalize f.take (f.length - f0.length) = p at hj
    clear hd hl
    induction p with
    | nil => exact ha
    | cons x p ih =>
      obtain ⟨s, b⟩ := x
      simp only [qj, Bool.and_eq_true, Bool.or_eq_true, List.all_eq_true] at hj
      rw [List.cons_append, aR, if_neg]
      · exact ih hj.2
      · rintro rfl
        rcases hj.1 with h | h
        · exact hne (Nat.eq_of_beq_eq_true h).symm
        · clear ih
          have : ∀ (l : List (Nat × A)), (∀ x ∈ l, (!Nat.beq x.1 s) = true) → look l s = none := by
            intro l
            induction l with
            | nil => intro _; rfl
            | cons y l ih =>
              intro h
              obtain ⟨u, v⟩ := y
              rw [aR, if_neg]
              · exact ih fun x hx => h x (by simp [hx])
              · rintro rfl
                have := h (u, v) (by simp)
                simp at this
          rw [this f0 h] at ha
          cases ha
theorem an {y1 y2 : Bool} {d0 : Nat} {j e : Nat} {want b : Bool} (hj : c8 ops j = some e) (hl : look f e = some (.d (.v (.bool b))))
    (ht : WO P C n ops (bU d0 y1 f0 bx0 lv0 gen0) (⟨dst, op, ty, pos, af, some (j, want)⟩ :: rest) ⟨(e, .d (.v (.bool true))) :: f, bx, lv, gen⟩)
    (hf : WO P C n ops (bU d0 y2 f0 bx0 lv0 gen0) (⟨dst, op, ty, pos, af, some (j, want)⟩ :: rest) ⟨(e, .d (.v (.bool false))) :: f, bx, lv, gen⟩) :
    WO P C n ops (bU d0 (bif b then y1 else y2) f0 bx0 lv0 gen0) (⟨dst, op, ty, pos, af, some (j, want)⟩ :: rest) ⟨f, bx, lv, gen⟩ := by
  refine WO.split (st := ⟨f, bx, lv, gen⟩) hl (fun h => ?_) (fun h => ?_)
  · subst h; exact ht
  · subst h; exact hf
end
end Go.Ab
namespace Go.Ab
open Go.RowKit
def pos : List Nat → Nat → Option Nat
  | [], _ => none
  | g :: r, h => bif Nat.beq g h then some 0 else match pos r h with
    | some i => some (i + 1)
    | none => none
theorem bq : ∀ {order : List Nat} {g i : Nat}, pos order g = some i → order[i]? = some g
  | [], g, i, h => by simp [pos] at h
  | g' :: r, g, i, h => by
    simp only [pos] at h
    cases e : Nat.beq g' g with
    | true =>
      rw [e] at h
      simp only [cond_true, Option.some.injEq] at h
      subst h
      simp [Nat.eq_of_beq_eq_true e]
    | false =>
      rw [e] at h
      simp only [cond_false] at h
      split at h
      · rename_i j hj
        simp only [Option.some.injEq] at h
        subst h
        simpa using bq hj
      · cases h
mutual
def aY (order : List Nat) : A → A
  | .own g es => match pos order g with
    | some i => .own i es
    | none => .d (.sl es)
  | .ptr g off => match pos order g with
    | some i => .ptr i off
    | none => .any
  | .xs g es => match pos order g with
    | some i => .xs i es
    | none => .any
  | .xp g i off l => match pos order g with
    | some j => .xp j i off l
    | none => .any
  | .mp g es => match pos order g with
    | some i => .mp i es
    | none => .any
  | .mq g es => match pos order g with
    | some i => .mq i es
    | none => .any
  | .mo g es h ob => match pos order g with
    | some i => .mo i es h ob
    | none => .any
  | .bf g T s => match pos order g with
    | some i => .bf i T s
    | none => .any
  | .np g T u => match pos order g with
    | some i => .np i T u
    | none => .any
  | .sb g n c => match pos order g with
    | some i => .sb i n c
    | none => .any
  | .fx _ _ _ => .any
  | .ol _ _ _ _ => .any
  | .ow g es v => match pos order g with
    | some i => .ow i es v
    | none => .any
  | .lk g n c v => match pos order g with
    | some i => .lk i n c v
    | none => .any
  | .agg l => .agg (dk order l)
  | .tup l => .tup (dk order l)
  | .row l => .row (dk order l)
  | .clo f l => .clo f (dk order l)
  | .bnd f l => .bnd f (dk order l)
  | a => a
def dk (order : List Nat) : List A → List A
  | [] => []
  | a :: l => aY order a :: dk order l
end
theorem dA (order : List Nat) : ∀ l, dk order l = l.map (aY order)
  | [] => rfl
  | a :: l => by simp [dk, dA order l]
mutual
def dJ : A → Bool
  | .own _ _ => false
  | .ptr _ _ => false
  | .xs _ _ => false
  | .xp _ _ _ _ => false
  | .mp _ _ => false
  | .mq _ _ => false
  | .mo _ _ _ _ => false
  | .bf _ _ _ => false
  | .np _ _ _ => false
  | .sb _ _ _ => false
  | .lk _ _ _ _ => false
  | .fx _ _ _ => false
  | .ol _ _ _ _ => false
  | .ow _ _ _ => false
  | .agg l => gy l
  | .tup l => gy l
  | .row l => gy l
  | .clo _ l => gy l
  | .bnd _ l => gy l
  | _ => true
def gy : List A → Bool
  | [] => true
  | a :: l => dJ a && gy l
end
mutual
theorem pw (order : List Nat) : ∀ a, dJ a = true → aY order a = a
  | .own _ _, h => by simp [dJ] at h
  | .ptr _ _, h => by simp [dJ] at h
  | .xs _ _, h => by simp [dJ] at h
  | .xp _ _ _ _, h => by simp [dJ] at h
  | .mp _ _, h => by simp [dJ] at h
  | .mq _ _, h => by simp [dJ] at h
  | .mo _ _ _ _, h => by simp [dJ] at h
  | .bf _ _ _, h => by simp [dJ] at h
  | .np _ _ _, h => by simp [dJ] at h
  | .sb _ _ _, h => by simp [dJ] at h
  | .lk _ _ _ _, h => by simp [dJ] at h
  | .fx _ _ _, h => by simp [dJ] at h
  | .ol _ _ _ _, h => by simp [dJ] at h
  | .ow _ _ _, h => by simp [dJ] at h
  | .agg l, h => by simp only [dJ] at h; simp [aY, eJ order l h]
  | .tup l, h => by simp only [dJ] at h; simp [aY, eJ order l h]
  | .row l, h => by simp only [dJ] at h; simp [aY, eJ order l h]
  | .clo _ l, h => by simp only [dJ] at h; simp [aY, eJ order l h]
  | .bnd _ l, h => by simp only [dJ] at h; simp [aY, eJ order l h]
  | .d _, _ => rfl
  | .ag _, _ => rfl
  | .rowd _, _ => rfl
  | .ni, _ => rfl
  | .fl _, _ => rfl
  | .any, _ => rfl
theorem eJ (order : List Nat) : ∀ l, gy l = true → dk order l = l
  | [], _ => rfl
  | a :: l, h => by
    simp only [gy, Bool.and_eq_true] at h
    simp [dk, pw order a h.1, eJ order l h.2]
end
def ja (order : List Nat) (G : Gh) : Gh := ⟨fun i => (order[i]?).bind G.box, fun i => (order[i]?).bind G.own⟩
theorem uV {C : Ctx} {G : Gh} {order : List Nat} {b o : Nat} (h : aN C (ja order G) b o) : aN C G b o := by
  rcases h with h | ⟨g, h⟩ | ⟨g, len, cap, sz, pub, h, hle⟩ | ⟨g, b', bs, lim, h, hm, hle⟩
  · exact Or.inl h
  · obtain ⟨g0, _, h0⟩ := Option.bind_eq_some_iff.1 h
    exact Or.inr (Or.inl ⟨g0, h0⟩)
  · obtain ⟨g0, _, h0⟩ := Option.bind_eq_some_iff.1 h
    exact Or.inr (Or.inr (.inl ⟨g0, len, cap, sz, pub, h0, hle⟩))
  · obtain ⟨g0, _, h0⟩ := Option.bind_eq_some_iff.1 h
    exact Or.inr (Or.inr (.inr ⟨g0, b', bs, lim, h0, hm, hle⟩))
theorem aA.aY {C : Ctx} {G : Gh} {gen gen' : Nat} {w : World} {order : List Nat} (hg : order.length ≤ gen') {v : Value} {a : A} (h : aA (ao C G gen w) v a) : aA (ao C (ja order G) gen' w) v (aY order a) := by
  have hc : ∀ b o u, cellAt w b o = some u → ¬ aN C G b o → cellAt w b o = some u ∧ ¬ aN C (ja order G) b o := fun b o u h hn => ⟨h, fun hp => hn (uV hp)⟩
  have hlt : ∀ {g i : Nat}, pos order g = some i → i < gen' := fun hp => Nat.lt_of_lt_of_le (List.getElem?_eq_some_iff.1 (bq hp)).1 hg
  generalize hE : ao C G gen w = E at h
  induction h with
  | any x => exact .any x
  | d hd => subst hE; exact .d (hd.mono hc)
  | ag vs l hs hd => subst hE; exact .ag vs l hs (fun i u x h1 h2 => (hd i u x h1 h2).mono hc)
  | own x g es hd hgg hr =>
    subst hE
    simp only [Ab.aY]
    split
    · rename_i i hp
      refine .own x i es (hd.mono hc) (hlt hp) (fun r hr' => hr r ?_)
      have : (order[i]?).bind G.own = some r := hr'
      rw [bq hp] at this
      exact this
    · exact .d (hd.mono hc)
  | agg vs l hs hone _ ih =>
    simp only [Ab.aY, dA]
    refine .agg vs _ (by simp [hs]) hone (fun i u x hu hx => ?_)
    simp only [List.getElem?_map, Option.map_eq_some_iff] at hx
    obtain ⟨y, hy, rfl⟩ := hx
    exact ih i u y hu hy
  | tup vs l hs _ ih =>
    simp only [Ab.aY, dA]
    refine .tup vs _ (by simp [hs]) (fun i u x hu hx => ?_)
    simp only [List.getElem?_map, Option.map_eq_some_iff] at hx
    obtain ⟨y, hy, rfl⟩ := hx
    exact ih i u y hu hy
  | rowd b off l u hcc hd => subst hE; exact .rowd b off l u (fun j hj => hc _ _ _ (hcc j hj).1 (hcc j hj).2) (fun j x hx => (hd j x hx).mono hc)
  | row b off l u hcc _ ih =>
    simp only [Ab.aY, dA]
    subst hE
    refine .row b off _ u (fun j hj => hcc j (by simpa using hj)) (fun j x hx => ?_)
    simp only [List.getElem?_map, Option.map_eq_some_iff] at hx
    obtain ⟨y, hy, rfl⟩ := hx
    exact ih j y hy
  | np x g T b0 hgg hb0 hT u hp =>
    subst hE
    simp only [Ab.aY]
    split
    · rename_i i hpp
      refine .np x i T b0 (hlt hpp) ?_ (by exact hT) u hp
      show (order[i]?).bind G.box = some b0
      rw [bq hpp]
      exact hb0
    · exact .any _
  | sb x g n c b0 hgg hb0 hn hp =>
    subst hE
    simp only [Ab.aY]
    split
    · rename_i i hpp
      refine .sb x i n c b0 (hlt hpp) ?_ hn hp
      show (order[i]?).bind G.box = some b0
      rw [bq hpp]
      exact hb0
    · exact .any _
  | fx => exact .any _
  | ol => exact .any _
  | ow x v g es hd hgg hr =>
    subst hE
    simp only [Ab.aY]
    split
    · rename_i i hp
      refine .ow x v i es (hd.mono hc) (hlt hp) (fun r hr' => hr r ?_)
      have : (order[i]?).bind G.own = some r := hr'
      rw [bq hp] at this
      exact this
    · exact .any _
  | lk x g n c b0 v hgg hb0 hn hp =>
    subst hE
    simp only [Ab.aY]
    split
    · rename_i i hpp
      refine .lk x i n c b0 v (hlt hpp) ?_ hn hp
      show (order[i]?).bind G.box = some b0
      rw [bq hpp]
      exact hb0
    · exact .any _
  | ptr x g off b0 hgg hb0 hp =>
    subst hE
    simp only [Ab.aY]
    split
    · rename_i i hpp
      refine .ptr x i off b0 (hlt hpp) ?_ hp
      show (order[i]?).bind G.box = some b0
      rw [bq hpp]
      exact hb0
    · exact .any _
  | xs x g es hgg h1 hx =>
    subst hE
    simp only [Ab.aY]
    split
    · rename_i i hpp
      refine .xs x i es (hlt hpp) h1 (fun r hr' => ?_)
      have hr : (order[i]?).bind G.own = some r := hr'
      rw [bq hpp] at hr
      exact (hx r hr).bZ hc
    · exact .any _
  | xp x g i off l hgg h1 hx =>
    subst hE
    simp only [Ab.aY]
    split
    · rename_i j hpp
      refine .xp x j i off l (hlt hpp) h1 (fun r hr' => ?_)
      have hr : (order[j]?).bind G.own = some r := hr'
      rw [bq hpp] at hr
      exact (hx r hr).bZ hc
    · exact .any _
  | ni t x => exact .ni t x
  | fl x es hd hfl => subst hE; exact .fl x es (hd.mono hc) hfl
  | bf x g T s hgg h1 hx =>
    subst hE
    simp only [Ab.aY]
    split
    · rename_i i hpp
      refine .bf x i T s (hlt hpp) h1 (fun r hr' => ?_)
      have hr : (order[i]?).bind G.own = some r := hr'
      rw [bq hpp] at hr
      exact hx r hr
    · exact .any _
  | mp x g es hgg h1 hx =>
    subst hE
    simp only [Ab.aY]
    split
    · rename_i i hpp
      refine .mp x i es (hlt hpp) h1 (fun r hr' => ?_)
      have hr : (order[i]?).bind G.own = some r := hr'
      rw [bq hpp] at hr
      exact (hx r hr).bZ hc
    · exact .any _
  | mq x g es hgg h1 hx =>
    subst hE
    simp only [Ab.aY]
    split
    · rename_i i hpp
      refine .mq x i es (hlt hpp) h1 (fun r hr' => ?_)
      have hr : (order[i]?).bind G.own = some r := hr'
      rw [bq hpp] at hr
      exact (hx r hr).bZ hc
    · exact .any _
  | mo x g es hole ob hgg h1 hx =>
    subst hE
    simp only [Ab.aY]
    split
    · rename_i i hpp
      refine .mo x i es hole ob (hlt hpp) h1 (fun r hr' => ?_)
      have hr : (order[i]?).bind G.own = some r := hr'
      rw [bq hpp] at hr
      exact (hx r hr).bZ hc
    · exact .any _
  | clo f vs l hs _ ih =>
    simp only [Ab.aY, dA]
    refine .clo f vs _ (by simp [hs]) (fun i u x hu hx => ?_)
    simp only [List.getElem?_map, Option.map_eq_some_iff] at hx
    obtain ⟨y, hy, rfl⟩ := hx
    exact ih i u y hu hy
  | bnd f vs l hs _ ih =>
    simp only [Ab.aY, dA]
    refine .bnd f vs _ (by simp [hs]) (fun i u x hu hx => ?_)
    simp only [List.getElem?_map, Option.map_eq_some_iff] at hx
    obtain ⟨y, hy, rfl⟩ := hx
    exact ih i u y hu hy
def nodupB : List Nat → Bool
  | [] => true
  | a :: l => (l.all fun b => !Nat.beq a b) && nodupB l
theorem ee : ∀ {l : List Nat}, nodupB l = true → l.Nodup
  | [], _ => List.nodup_nil
  | a :: l, h => by
    simp only [nodupB, Bool.and_eq_true, List.all_eq_true] at h
    refine List.nodup_cons.2 ⟨fun hm => ?_, ee h.2⟩
    have := h.1 a hm
    simp at this
def jk (order : List Nat) (f : List (Nat × A)) : List (Nat × A) → Prop
  | [] => True
  | (t, a) :: r => (match look f t with | some x => some (aY order x) | none => none) = some a ∧ jk order f r
def jb (f : List (Nat × A)) : List (Nat × A) → Prop
  | [] => True
  | (t, a) :: r => look f t = some a ∧ dJ a = true ∧ jb f r
def eZ (order : List Nat) (bx : List (Nat × List A)) : List (Nat × List A) → Prop
  | [] => True
  | (i, l) :: r => (match order[i]? with | some g => (match ak bx g with | some x => some (dk order x) | none => none) | none => none) = some l ∧ eZ order bx r
def gA (order : List Nat) (bx : List (Nat × List A)) : List (Nat × List A) → Prop
  | [] => True
  | (i, l) :: r => (match order[i]? with | some g => ak bx g | none => none) = some l ∧ gy l = true ∧ gA order bx r
def lB (order lv : List Nat) : List Nat → Bool
  | [] => true
  | i :: r => (match order[i]? with | some g => lv.any fun h => Nat.beq h g | none => false) && lB order lv r
theorem jk.le {order : List Nat} {f : List (Nat × A)} : ∀ {f' : List (Nat × A)}, jk order f f' → ∀ t a', look f' t = some a' → ∃ a, look f t = some a ∧ aY order a = a'
  | [], _, t, a, h => by simp [look] at h
  | (s, b) :: r, hs, t, a, h => by
    rw [aR] at h
    split at h
    · rename_i e
      subst e
      simp only [Option.some.injEq] at h
      subst h
      have := hs.1
      split at this
      · rename_i x hx
        simp only [Option.some.injEq] at this
        exact ⟨x, hx, this⟩
      · cases this
    · exact jk.le hs.2 t a h
theorem jb.le {order : List Nat} {f : List (Nat × A)} : ∀ {f' : List (Nat × A)}, jb f f' → ∀ t a', look f' t = some a' → ∃ a, look f t = some a ∧ aY order a = a'
  | [], _, t, a, h => by simp [look] at h
  | (s, b) :: r, hs, t, a, h => by
    rw [aR] at h
    split at h
    · rename_i e
      subst e
      simp only [Option.some.injEq] at h
      subst h
      exact ⟨b, hs.1, pw order b hs.2.1⟩
    · exact jb.le hs.2.2 t a h
theorem eZ.le {order : List Nat} {f : List (Nat × List A)} : ∀ {f' : List (Nat × List A)}, eZ order f f' → ∀ i l', ak f' i = some l' → ∃ g l, order[i]? = some g ∧ ak f g = some l ∧ l.map (aY order) = l'
  | [], _, t, a, h => by simp [ak] at h
  | (s, b) :: r, hs, t, a, h => by
    rw [bt] at h
    split at h
    · rename_i e
      subst e
      simp only [Option.some.injEq] at h
      subst h
      have := hs.1
      split at this
      · rename_i g hg
        split at this
        · rename_i x hx
          simp only [Option.some.injEq] at this
          exact ⟨g, x, hg, hx, by rw [← this, dA]⟩
        · cases this
      · cases this
    · exact eZ.le hs.2 t a h
theorem gA.le {order : List Nat} {f : List (Nat × List A)} : ∀ {f' : List (Nat × List A)}, gA order f f' → ∀ i l', ak f' i = some l' → ∃ g l, order[i]? = some g ∧ ak f g = some l ∧ l.map (aY order) = l'
  | [], _, t, a, h => by simp [ak] at h
  | (s, b) :: r, hs, t, a, h => by
    rw [bt] at h
    split at h
    · rename_i e
      subst e
      simp only [Option.some.injEq] at h
      subst h
      have := hs.1
      split at this
      · rename_i g hg
        exact ⟨g, b, hg, this, by rw [← dA]; exact eJ order b hs.2.1⟩
      · cases this
    · exact gA.le hs.2.2 t a h
theorem nP {order lv : List Nat} : ∀ {lv' : List Nat}, lB order lv lv' = true → ∀ i ∈ lv', ∃ g, order[i]? = some g ∧ g ∈ lv
  | [], _, i, h => by simp at h
  | j :: r, h, i, hi => by
    simp only [lB, Bool.and_eq_true] at h
    rcases List.mem_cons.1 hi with rfl | hi
    · have := h.1
      split at this
      · rename_i g hg
        obtain ⟨x, hx, he⟩ := List.any_eq_true.1 this
        exact ⟨g, hg, Nat.eq_of_beq_eq_true he ▸ hx⟩
      · cases this
    · exact nP h.2 i hi
theorem qu {f f2 : List (Nat × A)} {t : Nat} {a : A} : look (f ++ f2) t = some a → look f t = some a ∨ look f2 t = some a := by
  induction f with
  | nil => exact Or.inr
  | cons x f ih =>
    obtain ⟨s, b⟩ := x
    rw [List.cons_append, aR, aR]
    split
    · exact Or.inl
    · exact ih
theorem iz {f f2 : List (Nat × List A)} {t : Nat} {a : List A} : ak (f ++ f2) t = some a → ak f t = some a ∨ ak f2 t = some a := by
  induction f with
  | nil => exact Or.inr
  | cons x f ih =>
    obtain ⟨s, b⟩ := x
    rw [List.cons_append, bt, bt]
    split
    · exact Or.inl
    · exact ih
section
variable {P : Program} {C : Ctx} {n : Nat} {ops : Array Oper} {Q : Exit → St → Prop} {rest l : List Oper} {c : Code}
variable {f f0 f' : List (Nat × A)} {bx bx0 bx' : List (Nat × List A)} {lv lv0 lv' : List Nat} {gen gen0 gen' d : Nat}
theorem ar.aY {st : St} {G : Gh} {tmps : Array Value} {w : World} (h : ar C n st G tmps w) (order : List Nat) (hnd : order.Nodup) (hg : order.length ≤ gen') (hlt : ∀ i, i < C.bx.length → order[i]? = some i)
    (hf : ∀ t a', look f' t = some a' → ∃ a, look st.f t = some a ∧ Ab.aY order a = a')
    (hb : ∀ i l', ak bx' i = some l' → ∃ g l, order[i]? = some g ∧ ak st.bx g = some l ∧ l.map (Ab.aY order) = l')
    (hl : ∀ i ∈ lv', ∃ g, order[i]? = some g ∧ g ∈ st.lv) : ar C n ⟨f', bx', lv', gen'⟩ (ja order G) tmps w := by
  have inj' : ∀ {i j g : Nat}, order[i]? = some g → order[j]? = some g → i = j := by
    intro i j g h1 h2
    obtain ⟨i1, e1⟩ := List.getElem?_eq_some_iff.1 h1
    obtain ⟨i2, e2⟩ := List.getElem?_eq_some_iff.1 h2
    have hpw := List.pairwise_iff_getElem.1 hnd
    rcases Nat.lt_trichotomy i j with hlt | heq | hgt
    · exact absurd (e1.trans e2.symm) (hpw i j i1 i2 hlt)
    · exact heq
    · exact absurd (e2.trans e1.symm) (hpw j i i2 i1 hgt)
  have hlg : ∀ {i g : Nat}, order[i]? = some g → i < gen' := fun h => Nat.lt_of_lt_of_le (List.getElem?_eq_some_iff.1 h).1 hg
  refine { size := h.size, frame := fun t a' ha => ?_, box := fun i l' hc => ?_, gbox := fun i b hb' => ?_, inj := fun i j b h1 h2 => ?_, live := fun i hi => ?_, gown := fun i r hr => ?_,
           row := fun i b len cap sz pub hr => ?_, mrow := fun i b bs hr => ?_, sub := fun i b bs c lim hr hm => ?_, gcell := fun i b hb' => (let ⟨g, _, h2⟩ := Option.bind_eq_some_iff.1 hb'; h.gcell g b h2), xold := h.xold, kold := h.kold, lent := fun i b hb => ?_, fr := h.fr }
  · obtain ⟨a, h1, h2⟩ := hf t a' ha
    obtain ⟨v, hv, hr⟩ := h.frame t a h1
    exact ⟨v, hv, by rw [← h2]; exact hr.aY hg⟩
  · obtain ⟨g, l, h1, h2, h3⟩ := hb i l' hc
    obtain ⟨b, cs, T, h4, h5, h6, h7, h8⟩ := h.box g l h2
    refine ⟨b, cs, T, by simp [ja, h1, h4], h5, by rw [← h3]; simpa using h6, h7, fun j u a hu ha => ?_⟩
    rw [← h3, List.getElem?_map, Option.map_eq_some_iff] at ha
    obtain ⟨y, hy, rfl⟩ := ha
    exact (h8 j u y hu hy).aY hg
  · obtain ⟨g, h1, h2⟩ := Option.bind_eq_some_iff.1 hb'
    exact ⟨hlg h1, (h.gbox g b h2).2⟩
  · obtain ⟨g1, h3, h4⟩ := Option.bind_eq_some_iff.1 h1
    obtain ⟨g2, h5, h6⟩ := Option.bind_eq_some_iff.1 h2
    have e := h.inj g1 g2 b h4 h6
    subst e
    exact inj' h3 h5
  · obtain ⟨g, h1, h2⟩ := hl i hi
    obtain ⟨r, hr⟩ := h.live g h2
    exact ⟨r, by simp [ja, h1, hr]⟩
  · obtain ⟨g, h1, h2⟩ := Option.bind_eq_some_iff.1 hr
    exact hlg h1
  · obtain ⟨g, h1, h2⟩ := Option.bind_eq_some_iff.1 hr
    obtain ⟨h3, h4, h5, h6⟩ := h.row g b len cap sz pub h2
    refine ⟨h3, fun j hj => ?_, fun j len' cap' sz' pub' hj => ?_, h6⟩
    · obtain ⟨g2, _, h8⟩ := Option.bind_eq_some_iff.1 hj
      exact h4 g2 h8
    · obtain ⟨g2, h7, h8⟩ := Option.bind_eq_some_iff.1 hj
      have e := h5 g2 len' cap' sz' pub' h8
      subst e
      exact inj' h7 h1
  · obtain ⟨g, h1, h2⟩ := Option.bind_eq_some_iff.1 hr
    obtain ⟨h3, h4, h5, h6⟩ := h.mrow g b bs h2
    refine ⟨h3, fun j hj => ?_, fun j bs' hj => ?_, h6⟩
    · obtain ⟨g2, _, h8⟩ := Option.bind_eq_some_iff.1 hj
      exact h4 g2 h8
    · obtain ⟨g2, h7, h8⟩ := Option.bind_eq_some_iff.1 hj
      have e := h5 g2 bs' h8
      subst e
      exact inj' h7 h1
  · obtain ⟨g, h1, h2⟩ := Option.bind_eq_some_iff.1 hr
    obtain ⟨h3, h4, h5, h6, h7⟩ := h.sub g b bs c lim h2 hm
    refine ⟨h3, fun j hj => ?_, fun j len cap sz pub hj => ?_, fun j b' bs' lim' hj hm' => ?_, h7⟩
    · obtain ⟨g2, _, h8⟩ := Option.bind_eq_some_iff.1 hj
      exact h4 g2 h8
    · obtain ⟨g2, _, h8⟩ := Option.bind_eq_some_iff.1 hj
      exact h5 g2 _ _ _ _ h8
    · obtain ⟨g2, h8, h9⟩ := Option.bind_eq_some_iff.1 hj
      obtain ⟨e, e0⟩ := h6 g2 _ _ _ h9 hm'
      subst e
      exact ⟨inj' h8 h1, e0⟩
  · have h1 := h.lent i b hb
    have h2 := hlt i (List.getElem?_eq_some_iff.1 hb).1
    show (order[i]?).bind G.box = some b
    rw [h2]; exact h1
def LR (C : Ctx) (n : Nat) {ι : Type} (S : ι → St) (μ : ι → Nat) : Nat → St → Prop := fun m st => ∃ i, μ i = m ∧ ∀ (tmps : Array Value) (w : World), dE C n st tmps w → dE C n (S i) tmps w
def ng : Nat → List Nat → Nat → Bool
  | 0, _, _ => true
  | _ + 1, [], _ => false
  | m + 1, g :: r, i => Nat.beq g i && ng m r (i + 1)
theorem kA : ∀ {m : Nat} {l : List Nat} {i : Nat}, ng m l i = true → ∀ j, j < m → l[j]? = some (i + j)
  | 0, _, _, _, j, h => absurd h (Nat.not_lt_zero _)
  | m + 1, [], _, h, _, _ => by simp [ng] at h
  | m + 1, g :: r, i, h, j, hj => by
    simp only [ng, Bool.and_eq_true] at h
    cases j with
    | zero => simpa using Nat.eq_of_beq_eq_true h.1
    | succ j => have := kA h.2 j (by omega); simpa [Nat.add_assoc, Nat.add_comm 1 j] using this
def fV (order : List Nat) (gen nb : Nat) : Bool := nodupB order && Nat.ble order.length gen && ng nb order 0
theorem dE.aY {nb : Nat} [hnb : NB C nb] {fi : List (Nat × A)} {bi : List (Nat × List A)} (order : List Nat) (ho : fV order gen' nb = true) (hf : jk order f f') (hfi : jb f fi) (hb : eZ order bx bx') (hbi : gA order bx bi) (hl : lB order lv lv' = true)
    {tmps : Array Value} {w : World} (h : dE C n ⟨f, bx, lv, gen⟩ tmps w) : dE C n ⟨f' ++ fi, bx' ++ bi, lv', gen'⟩ tmps w := by
  obtain ⟨G, h⟩ := h
  simp only [fV, Bool.and_eq_true] at ho
  exact ⟨_, h.aY order (ee ho.1.1) (Nat.le_of_ble_eq_true ho.1.2) (fun i hi => by have := kA ho.2 i (by rw [← hnb.h]; exact hi); simpa using this) (fun t a ha => (qu ha).elim (hf.le t a) (hfi.le t a)) (fun t a ha => (iz ha).elim (hb.le t a) (hbi.le t a)) (nP hl)⟩
theorem W.aW {nb : Nat} [hnb : NB C nb] {ι : Type} (V : ι → List (Nat × A)) (fi : List (Nat × A)) (B : ι → List (Nat × List A)) (bi : List (Nat × List A)) (lv' : List Nat) (gen' : Nat) (μ : ι → Nat) (order : List Nat) (i : ι) (ho : fV order gen' nb = true)
    (hf : jk order f (V i)) (hfi : jb f fi) (hb : eZ order bx (B i)) (hbi : gA order bx bi) (hl : lB order lv lv' = true)
    (hr : ∀ i, W P C n c (QL (LR C n (fun i => ⟨V i ++ fi, B i ++ bi, lv', gen'⟩) μ) (μ i) Q) ⟨V i ++ fi, B i ++ bi, lv', gen'⟩) : W P C n (.loop c) Q ⟨f, bx, lv, gen⟩ := by
  refine W.loop (LR C n (fun i => ⟨V i ++ fi, B i ++ bi, lv', gen'⟩) μ) (fun m st ⟨i, hm, hle⟩ => ?_) (m := μ i) ⟨i, rfl, fun tmps w h => dE.aY order ho hf hfi hb hbi hl h⟩
  subst hm
  exact fun tmps w hs => hr i tmps w (hle tmps w hs)
theorem W.bb {nb : Nat} [hnb : NB C nb] {ι : Type} {V : ι → List (Nat × A)} {fi : List (Nat × A)} {B : ι → List (Nat × List A)} {bi : List (Nat × List A)} {μ : ι → Nat} {m : Nat} (order : List Nat) (i : ι) (hm : μ i < m) (ho : fV order gen' nb = true)
    (hf : jk order f (V i)) (hfi : jb f fi) (hb : eZ order bx (B i)) (hbi : gA order bx bi) (hl : lB order lv lv' = true) :
    QL (LR C n (fun i => ⟨V i ++ fi, B i ++ bi, lv', gen'⟩) μ) m Q .normal ⟨f, bx, lv, gen⟩ :=
  ⟨μ i, hm, i, rfl, fun _ _ h => dE.aY order ho hf hfi hb hbi hl h⟩
end
end Go.Ab
namespace Go.Ab
open Go.RowKit
section
variable {P : Program} {C : Ctx} {n : Nat} {Q : Exit → St → Prop} {x y : Code} {st : St} {α : Type}
theorem ba {l : List α} {k : Nat} {c : Operand} {b : Bool} (hc : av st.f c = some (.d (.v (.bool b)))) (hb : b = decide ((k : Int) < (l.length : Int))) (hk : k ≤ l.length)
    (ht : ∀ a, l[k]? = some a → l.drop k = a :: l.drop (k + 1) → k < l.length → W P C n x Q st) (hf : k = l.length → l.drop k = [] → W P C n y Q st) : W P C n (.cond c x y) Q st := by
  refine W.cond hc (fun h => ?_) (fun h => ?_)
  · subst hb
    have h : k < l.length := by simpa using h
    exact ht l[k] (by simp [h]) (List.drop_eq_getElem_cons h) h
  · subst hb
    have h : k = l.length := by
      have : ¬ (k : Int) < l.length := by simpa using h
      omega
    exact hf h (by rw [h]; simp)
theorem eL {s : ByteArray} {k : Nat} {b : UInt8} (h : s.data.toList[k]? = some b) : s[((k : Int)).toNat]? = some b := by
  have : s[k]? = s.data.toList[k]? := by
    rcases Nat.lt_or_ge k s.size with hk | hk
    · rw [getElem?_pos s k hk, List.getElem?_eq_getElem (by simpa using hk)]; rfl
    · rw [getElem?_neg s k (by simpa using hk), List.getElem?_eq_none (by simpa using hk)]
  simpa [this] using h
end
end Go.Ab
namespace Go.Ab
open Go.RowKit
def oG (m : Nat) : List (List D) → Bool
  | [] => true
  | x :: r => Nat.beq x.length m && oG m r
theorem ox {m : Nat} : ∀ {l : List (List D)}, oG m l = true → ∀ x ∈ l, x.length = m
  | [], _, x, h => by simp at h
  | y :: r, h, x, hx => by
    simp only [oG, Bool.and_eq_true] at h
    rcases List.mem_cons.1 hx with rfl | hx
    · exact Nat.eq_of_beq_eq_true h.1
    · exact ox h.2 x hx
section
variable {P : Program} (T : bm P) {C : Ctx} {n : Nat} {ops : Array Oper} {Q : Exit → St → Prop} {rest : List Oper} {c : Code}
variable {f : List (Nat × A)} {bx : List (Nat × List A)} {lv : List Nat} {gen d : Nat} {ty : TypeId} {pos : String} {af : Array Edge} {a : A} {dst : Option Nat}
theorem bl {t e len : Nat} {parts : Array (Nat × Operand)} {td ed : bo} {es : List (List D)} (ht : ak T.l t = some td) (hk : td.k = .slice e) (he : ak T.l e = some ed) (hes : l3 f 0 parts.toList = some es) (hlen : es.length = len)
    (hz : Nat.blt 0 ed.n = true) (hsm : Nat.ble (len * ed.n) 16777216 = true) (hl : oG ed.n es = true) (hpos : Nat.blt 0 len = true) : Pu P C n ⟨f, bx, lv, gen⟩ ⟨dst, .buildSlice t len parts, ty, pos, af, none⟩ (.d (.sl es)) :=
  Pu.w8 (st := ⟨f, bx, lv, gen⟩) T rfl ht hk he hes hlen hz hsm (ox hl) hpos
theorem rE {t : Nat} {x lo hi : Operand} {td : bo} {s : ByteArray} {l h : Int} {kl kh : IntKind} (hx : av f x = some (.d (.v (.string s)))) (hlo : av f lo = some (.d (.v (.int kl l)))) (hhi : av f hi = some (.d (.v (.int kh h)))) (ht : ak T.l t = some td) (hk : td.k = .str)
    (h0 : 0 ≤ l) (h1 : l ≤ h) (h2 : h ≤ s.size) : Pu P C n ⟨f, bx, lv, gen⟩ ⟨dst, .slice t x (some lo) (some hi) none, ty, pos, af, none⟩ (.d (.v (.string (s.extract l.toNat h.toNat)))) :=
  Pu.pG (st := ⟨f, bx, lv, gen⟩) T (lo := some lo) (hi := some hi) rfl ht hk hx (l := l) (h := h) ⟨kl, hlo⟩ ⟨kh, hhi⟩ h0 h1 h2
theorem wZ {t : Nat} {x lo : Operand} {td : bo} {s : ByteArray} {l : Int} {kl : IntKind} (hx : av f x = some (.d (.v (.string s)))) (hlo : av f lo = some (.d (.v (.int kl l)))) (ht : ak T.l t = some td) (hk : td.k = .str)
    (h0 : 0 ≤ l) (h1 : l ≤ s.size) : Pu P C n ⟨f, bx, lv, gen⟩ ⟨dst, .slice t x (some lo) none none, ty, pos, af, none⟩ (.d (.v (.string (s.extract l.toNat ((s.size : Int)).toNat)))) :=
  Pu.pG (st := ⟨f, bx, lv, gen⟩) T (lo := some lo) (hi := none) rfl ht hk hx (l := l) (h := s.size) ⟨kl, hlo⟩ rfl h0 h1 (Int.le_refl _)
end
end Go.Ab
namespace Go.Ab
open Go.RowKit
section
variable {P : Program} {C : Ctx} {n : Nat} {ops : Array Oper} {Q : Exit → St → Prop} {rest : List Oper} {st : St} {o : Oper}
variable {f : List (Nat × A)} {bx : List (Nat × List A)} {lv : List Nat} {gen d : Nat} {op : Op} {ty : TypeId} {pos : String} {af : Array Edge} {dst : Option Nat}
theorem aA.undef {E : En} : aA E undef (.tup []) := .tup #[] [] rfl (by simp)
theorem WO.ae {j d : Nat} {want b : Bool} (hg : o.guard = some (j, want)) (hj : c8 ops j = some d) (hl : look st.f d = some (.d (.v (.bool b)))) (hb : (b == want) = false) (hd : cZ n o.dst = true)
    (h : WO P C n ops Q rest (st.put o.dst (.tup []))) : WO P C n ops Q (o :: rest) st := by
  intro tmps w ⟨G, hs⟩
  simp only [dh, Region.wanted, hg]
  rw [ia hj (kR hs hl)]
  have hbw : (some b == some want) = false := by simpa using hb
  simp only [hbw, Bool.false_eq_true, if_false]
  rw [Act.eM]
  exact h _ _ ⟨G, hs.put (bL hd) aA.undef⟩
theorem WO.bh {j d : Nat} {want : Bool} (hg : o.guard = some (j, want)) (hj : c8 ops j = some d) (hl : look st.f d = some (.tup [])) (hd : cZ n o.dst = true)
    (h : WO P C n ops Q rest (st.put o.dst (.tup []))) : WO P C n ops Q (o :: rest) st := by
  intro tmps w ⟨G, hs⟩
  obtain ⟨v, hv, hr⟩ := hs.frame _ _ hl
  have hy : yielded ops tmps j = none := by
    unfold yielded
    unfold c8 at hj
    rw [hj]
    simp only [Option.bind_some, hv]
    cases hr; rfl
  simp only [dh, Region.wanted, hg, hy]
  have hbw : ((none : Option Bool) == some want) = false := rfl
  simp only [hbw, Bool.false_eq_true, if_false]
  rw [Act.eM]
  exact h _ _ ⟨G, hs.put (bL hd) aA.undef⟩
theorem ae {j e : Nat} {want b : Bool} (hj : c8 ops j = some e) (hl : look f e = some (.d (.v (.bool b)))) (hb : (b == want) = false) (hd : Nat.blt d n = true) (h : WO P C n ops Q rest ⟨(d, .tup []) :: f, bx, lv, gen⟩) :
    WO P C n ops Q (⟨some d, op, ty, pos, af, some (j, want)⟩ :: rest) ⟨f, bx, lv, gen⟩ :=
  WO.ae (st := ⟨f, bx, lv, gen⟩) rfl hj hl hb hd h
theorem bh {j e : Nat} {want : Bool} (hj : c8 ops j = some e) (hl : look f e = some (.tup [])) (hd : Nat.blt d n = true) (h : WO P C n ops Q rest ⟨(d, .tup []) :: f, bx, lv, gen⟩) :
    WO P C n ops Q (⟨some d, op, ty, pos, af, some (j, want)⟩ :: rest) ⟨f, bx, lv, gen⟩ :=
  WO.bh (st := ⟨f, bx, lv, gen⟩) rfl hj hl hd h
theorem cI {f0 : List (Nat × A)} {bx0 : List (Nat × List A)} {lv0 : List Nat} {gen0 : Nat} {y1 y2 : Bool} {d0 : Nat} {j e : Nat} {want b : Bool} (hj : c8 ops j = some e) (hl : look f e = some (.d (.v (.bool b))))
    (ht : b = true → WO P C n ops (bU d0 y1 f0 bx0 lv0 gen0) (⟨dst, op, ty, pos, af, some (j, want)⟩ :: rest) ⟨(e, .d (.v (.bool true))) :: f, bx, lv, gen⟩)
    (hf : b = false → WO P C n ops (bU d0 y2 f0 bx0 lv0 gen0) (⟨dst, op, ty, pos, af, some (j, want)⟩ :: rest) ⟨(e, .d (.v (.bool false))) :: f, bx, lv, gen⟩) :
    WO P C n ops (bU d0 (bif b then y1 else y2) f0 bx0 lv0 gen0) (⟨dst, op, ty, pos, af, some (j, want)⟩ :: rest) ⟨f, bx, lv, gen⟩ := by
  refine WO.split (st := ⟨f, bx, lv, gen⟩) hl (fun h => ?_) (fun h => ?_)
  · subst h; exact ht rfl
  · subst h; exact hf rfl
end
end Go.Ab
namespace Go.Ab
open Go.RowKit
section
variable {P : Program} {C : Ctx} {n : Nat} {ops : Array Oper} {Q : Exit → St → Prop} {rest l : List Oper} {c : Code}
variable {f f0 : List (Nat × A)} {bx bx0 : List (Nat × List A)} {lv lv0 : List Nat} {gen gen0 d : Nat} {op : Op} {ty : TypeId} {pos : String} {af : Array Edge} {dst : Option Nat} {a : A}
theorem au {s : Nat} {x y : Code} {b : Bool} (hl : look f s = some (.d (.v (.bool b)))) (ht : b = true → W P C n x Q ⟨(s, .d (.v (.bool true))) :: f, bx, lv, gen⟩) (hf : b = false → W P C n y Q ⟨(s, .d (.v (.bool false))) :: f, bx, lv, gen⟩) :
    W P C n (.cond (.tmp s) x y) Q ⟨f, bx, lv, gen⟩ := by
  refine W.cond (b := b) hl (fun h => ?_) (fun h => ?_)
  · exact fun tmps w ⟨G, hs⟩ => ht h tmps w ⟨G, hs.known hl (by rw [h])⟩
  · exact fun tmps w ⟨G, hs⟩ => hf h tmps w ⟨G, hs.known hl (by rw [h])⟩
theorem W.wo {y : Bool} {st : St} (h : W P C n c (bU d y f bx lv gen) st) (hq : Q .normal ⟨(d, gX y) :: f, bx, lv, gen⟩) : W P C n c Q st :=
  fun tmps w hs => wp_mono (h tmps w hs) fun e act w ⟨hd, st', ⟨G, hs⟩, he, h1, h2, h3, h4⟩ => by
    subst he
    exact ⟨hd, _, ⟨G, hs.weaken (st' := ⟨(d, gX y) :: f, bx, lv, gen⟩) ⟨h1, by rw [← h2]; exact fun _ _ h => h, by rw [← h3]; exact fun _ h => h, h4.symm⟩⟩, hq⟩
theorem ke (T : bm P) {id : Nat} {y : Bool} (hb : oL false l = some d) (hB : Region.lexB .any l.toArray = true) (h : CH P C n bx lv gen l.toArray (bU d y f bx lv gen .normal) l f) (hq : Q .normal ⟨(d, gX y) :: f, bx, lv, gen⟩) :
    W P C n (.region id l.toArray true) Q ⟨f, bx, lv, gen⟩ := W.wo (W.cU T (Q := bU d y f bx lv gen) hB h) hq
theorem jI {y1 y2 : Bool} {d0 : Nat} {j e : Nat} {want b : Bool} (hj : c8 ops j = some e) (hl : look f e = some (.d (.v (.bool b))))
    (ht : b = true → CH P C n bx lv gen ops (bU d0 y1 f0 bx0 lv0 gen0 .normal) (⟨dst, op, ty, pos, af, some (j, want)⟩ :: rest) ((e, .d (.v (.bool true))) :: f))
    (hf : b = false → CH P C n bx lv gen ops (bU d0 y2 f0 bx0 lv0 gen0 .normal) (⟨dst, op, ty, pos, af, some (j, want)⟩ :: rest) ((e, .d (.v (.bool false))) :: f)) :
    CH P C n bx lv gen ops (bU d0 (bif b then y1 else y2) f0 bx0 lv0 gen0 .normal) (⟨dst, op, ty, pos, af, some (j, want)⟩ :: rest) f := by
  refine xE hl (fun h => ?_) (fun h => ?_)
  · subst h; exact ht rfl
  · subst h; exact hf rfl
theorem vV {y1 y2 : Bool} {d0 : Nat} {j e : Nat} {want b : Bool} (hj : c8 ops j = some e) (hl : look f e = some (.d (.v (.bool b))))
    (ht : CH P C n bx lv gen ops (bU d0 y1 f0 bx0 lv0 gen0 .normal) (⟨dst, op, ty, pos, af, some (j, want)⟩ :: rest) ((e, .d (.v (.bool true))) :: f))
    (hf : CH P C n bx lv gen ops (bU d0 y2 f0 bx0 lv0 gen0 .normal) (⟨dst, op, ty, pos, af, some (j, want)⟩ :: rest) ((e, .d (.v (.bool false))) :: f)) :
    CH P C n bx lv gen ops (bU d0 (bif b then y1 else y2) f0 bx0 lv0 gen0 .normal) (⟨dst, op, ty, pos, af, some (j, want)⟩ :: rest) f :=
  jI hj hl (fun _ => ht) (fun _ => hf)
end
end Go.Ab
namespace Go.Ab
open Go.RowKit
section
variable {P : Program} (T : bm P) {C : Ctx} {n : Nat} {ops : Array Oper} {Q : Exit → St → Prop} {rest : List Oper} {c : Code}
variable {f : List (Nat × A)} {bx : List (Nat × List A)} {lv : List Nat} {gen d : Nat} {ty : TypeId} {pos : String} {af : Array Edge}
theorem eC (hl : look f d = some (.d (.v (.slice none 0 0)))) (hd : Nat.blt d n = true) (h : W P C n c Q ⟨(d, .own gen []) :: f, bx, gen :: lv, gen + 1⟩) : W P C n c Q ⟨f, bx, lv, gen⟩ :=
  W.xM (st := ⟨f, bx, lv, gen⟩) hl hd h
theorem cr {α : Type} {fn : α → List D} {l : List α} {a : α} {x y : Operand} {t e : Nat} {td ed : bo} {g : Nat} {b : A} (hx : av f x = some (.own g (l.map fn))) (hy : av f y = some b) (hb2 : fa b = some [fn a]) (ht : ak T.l t = some td) (hk : td.k = .slice e)
    (he : ak T.l e = some ed) (hgl : (lv.any fun h => Nat.beq h g) = true) (hz : Nat.blt 0 ed.n = true) (hb0 : Nat.blt 0 ed.b = true) (hd : Nat.blt d n = true) (hl : ∀ a, (fn a).length = ed.n) (hb : (l.length + 1) * ed.b ≤ 140737488355328)
    (h : WO P C n ops Q rest ⟨(d, .own gen ((l ++ [a]).map fn)) :: f, bx, gen :: bg lv g, gen + 1⟩) : WO P C n ops Q (⟨some d, .call ⟨.builtin .append, #[x, y], #[t, t]⟩, ty, pos, af, none⟩ :: rest) ⟨f, bx, lv, gen⟩ := by
  obtain ⟨g', hg1, hg2⟩ := List.any_eq_true.1 hgl
  have hgm : g ∈ lv := Nat.eq_of_beq_eq_true hg2 ▸ hg1
  refine qQ T hx hy hb2 ht hk he hgm hz hb0 hd (fun z hzm => ?_) (by simpa using hb) ?_
  · rcases List.mem_append.1 hzm with h | h
    · obtain ⟨a', _, rfl⟩ := List.mem_map.1 h; exact hl a'
    · simp only [List.mem_singleton] at h; subst h; exact hl a
  · rw [List.map_append] at h
    exact h
end
end Go.Ab
namespace Go.Ab
open Go.RowKit
def dw : Nat → List (List A) → List (Nat × List A)
  | _, [] => []
  | k, c :: r => (k, c) :: dw (k + 1) r
theorem j0 : ∀ (l : List (List A)) (k g : Nat) (c : List A), ak (dw k l) g = some c → k ≤ g ∧ l[g - k]? = some c
  | [], _, _, _, h => by simp [dw, ak] at h
  | b :: l, k, g, c, h => by
    simp only [dw, bt] at h
    split at h
    · rename_i e
      subst e
      simp only [Option.some.injEq] at h
      subst h
      exact ⟨Nat.le_refl _, by simp⟩
    · rename_i e
      obtain ⟨h1, h2⟩ := j0 l (k + 1) g c h
      refine ⟨by omega, ?_⟩
      have : g - k = (g - (k + 1)) + 1 := by omega
      rw [this]
      simpa using h2
theorem oN : ∀ (l : List (List A)) (k i : Nat) (c : List A), l[i]? = some c → ak (dw k l) (k + i) = some c
  | [], _, _, _, h => by simp at h
  | b :: l, k, i, c, h => by
    simp only [dw, bt]
    cases i with
    | zero => simpa using h
    | succ i =>
      rw [if_neg (by omega)]
      have := oN l (k + 1) i c (by simpa using h)
      rw [← this]
      congr 1
      omega
structure b9 (P : Program) [Met P] (f : FuncId) (args : List A) (b0 : List (List A)) (m : Nat) (r : A) (b1 : List (List A)) (k : Nat) : Prop where
  ok : kM P f
  len : b1.length = b0.length
  calls : ∀ (C : Ctx) (G : Gh) (vals : Array Value) (w : World), GC P C → C.w0 = w → C.bx.length = b0.length → C.ds = [] → (m = 0 → ∀ b, C.fp b → ∃ i : Nat, C.bx[i]? = some b) →
    ar C 0 ⟨[], dw 0 b0, (List.range m).map (b0.length + ·), b0.length + m⟩ G #[] w → vals.size = args.length →
    (∀ (i : Nat) (u : Value) (a : A), vals[i]? = some u → args[i]? = some a → aA (ao C G (b0.length + m) w) u a) →
    Calls P f vals w fun e w' => ∃ v G', e = .returned v ∧ ar C 0 ⟨[], dw 0 b1, (List.range k).map (b0.length + ·), b0.length + k⟩ G' #[] w' ∧ aA (ao C G' (b0.length + k) w') v r
theorem ar.qV {C : Ctx} {n n' : Nat} {bx : List (Nat × List A)} {lv : List Nat} {gen : Nat} {G : Gh} {tmps tmps' : Array Value} {w : World} (h : ar C n ⟨[], bx, lv, gen⟩ G tmps w) (hs : tmps'.size = n') :
    ar C n' ⟨[], bx, lv, gen⟩ G tmps' w :=
  { h with size := hs, frame := fun t a ha => by simp [look] at ha }
section
variable {P : Program} (T : bm P)
def cN (nb : Nat) (order : List Nat) : List Nat := List.range nb ++ order
def iE (rs : List RV) (r : A) (b1 : List (List A)) (k : Nat) : Exit → St → Prop := fun e st =>
  (match e with | .normal => True | .ret => True | _ => False) ∧ ∃ l order, gn T st.f st.bx rs = some l ∧ aY (cN b1.length order) (aL l) = r ∧ order.length = k ∧ nodupB (cN b1.length order) = true ∧ (∀ g ∈ order, g ∈ st.lv) ∧
    ∀ (i : Nat) (c : List A), b1[i]? = some c → ∃ c0, ak st.bx i = some c0 ∧ dk (cN b1.length order) c0 = c
theorem b9.yH [Met P] {f : FuncId} {fn : Func} {c : Code} {rs : List RV} {n : Nat} {args : List A} {b0 : List (List A)} {m : Nat} {r : A} {b1 : List (List A)} {k : Nat} (hf : P.funcs[f]? = some fn) (hname : (fn.name == "runtime.NumGoroutine") = false)
    (hb : fn.body = some c) (hn : fn.ntmps = n) (hr : fn.results = (rs.map RV.var).toArray) (hlen : Nat.ble args.length n = true) (hbl : b1.length = b0.length)
    (h : ∀ C, NB C b0.length → GC P C → (m = 0 → ∀ b, C.fp b → ∃ i : Nat, C.bx[i]? = some b) → (∀ i b : Nat, C.bx[i]? = some b → b < C.w0.heap.size) → W P C n c (iE T rs r b1 k) ⟨gV 0 args, dw 0 b0, (List.range m).map (b0.length + ·), b0.length + m⟩) : b9 P f args b0 m r b1 k := by
  have hlen := Nat.le_of_ble_eq_true hlen
  refine ⟨⟨fn, hf, hname, by rw [hb]; rfl⟩, hbl, fun C G vals w hG hw hnb hdn hfe hs hsz hrep => ?_⟩
  subst hw
  refine calls_of_wp hf hb (wp_mono (rI hdn (h C ⟨hnb⟩ hG hfe (fun i b hb => (hs.gbox i b (hs.lent i b hb)).2.1) (vals ++ Array.replicate (fn.ntmps - vals.size) undef) C.w0 ⟨G, ?_⟩)) ?_)
  · refine { hs with size := by simp [hn]; omega, frame := fun t a ha => ?_ }
    obtain ⟨_, h1⟩ := fS args 0 t a ha
    have h2 : t < args.length := (List.getElem?_eq_some_iff.1 (by simpa using h1)).1
    have h3 : t < vals.size := by omega
    have h4 : vals[t]? = some vals[t] := by simp [h3]
    exact ⟨vals[t], by rw [Array.getElem?_append_left h3]; exact h4, hrep t _ a h4 (by simpa using h1)⟩
  · rintro e ⟨tmps, df⟩ w' ⟨hd, st, ⟨G, hs⟩, he, l, order, hl, hno, hol, hnd, hov, hbx⟩
    have holen : (cN b1.length order).length = b0.length + k := by simp [cN, hol, hbl]
    have hget : ∀ i, i < C.bx.length → (cN b1.length order)[i]? = some i := fun i hi => by
      unfold cN
      rw [List.getElem?_append_left (by simp; omega), List.getElem?_range (by omega)]
    have hmain : ∃ v, (results fn tmps).run P w' = .ok v w' ∧ ∃ v_1 G', Ending.returned v = .returned v_1 ∧ ar C 0 ⟨[], dw 0 b1, (List.range k).map (b0.length + ·), b0.length + k⟩ G' #[] w' ∧ aA (ao C G' (b0.length + k) w') v_1 r := by
      obtain ⟨vs, hv1, hv2, hv3⟩ := iv T hs rs l hl
      refine ⟨_, iC hr hv1, _, ja (cN b1.length order) G, rfl, ?_, ?_⟩
      · refine ar.qV (hs.aY (f' := []) (bx' := dw 0 b1) (lv' := (List.range k).map (b0.length + ·)) (gen' := b0.length + k) (cN b1.length order) (ee hnd) (by omega) hget (fun t a ha => by simp [look] at ha) (fun i c hc => ?_) (fun i hi => ?_)) rfl
        · obtain ⟨_, h1⟩ := j0 b1 0 i c hc
          simp only [Nat.sub_zero] at h1
          obtain ⟨c0, h2, h3⟩ := hbx i c h1
          have hlt : i < b1.length := (List.getElem?_eq_some_iff.1 h1).1
          exact ⟨i, c0, hget i (by rw [hnb, ← hbl]; exact hlt), h2, by rw [← dA]; exact h3⟩
        · obtain ⟨j, hj, rfl⟩ := List.mem_map.1 hi
          have hj : j < k := by simpa using hj
          have hj2 : j < order.length := by omega
          refine ⟨order[j], ?_, hov _ (List.getElem_mem hj2)⟩
          unfold cN
          rw [List.getElem?_append_right (by simp; omega)]
          simp [hbl, hj2]
      · rw [← hno]
        refine aA.aY (gen := st.gen) (by omega) (j8 hv2 hv3)
    cases e with
    | normal => exact ⟨hd.trans hdn, hmain⟩
    | ret => exact ⟨hd.trans hdn, hmain⟩
    | exit _ => exact he.elim
    | goto _ => exact he.elim
    | panic _ => exact he.elim
    | outgrown => exact he.elim
theorem b9.iy [Met P] {f : FuncId} {fn : Func} {c : Code} {rs : List RV} {n : Nat} {args : List A} {b0 : List (List A)} {m : Nat} {r : A} {b1 : List (List A)} {k : Nat} (hf : P.funcs[f]? = some fn) (hname : (fn.name == "runtime.NumGoroutine") = false)
    (hb : fn.body = some c) (hn : fn.ntmps = n) (hr : fn.results = (rs.map RV.var).toArray) (hlen : Nat.ble args.length n = true) (hbl : b1.length = b0.length)
    (h : ∀ C, NB C b0.length → GC P C → W P C n c (iE T rs r b1 k) ⟨gV 0 args, dw 0 b0, (List.range m).map (b0.length + ·), b0.length + m⟩) : b9 P f args b0 m r b1 k :=
  b9.yH T hf hname hb hn hr hlen hbl fun C hC hG _ _ => h C hC hG
theorem iE.ret {rs : List RV} {r : A} {b1 : List (List A)} {k : Nat} {e : Exit} {st : St} {l : List A} (order : List Nat) (he : match e with | .normal => True | .ret => True | _ => False) (hl : gn T st.f st.bx rs = some l)
    (hk : order.length = k) (hnd : nodupB (cN b1.length order) = true) (hov : (order.all fun g => st.lv.any fun h => Nat.beq h g) = true) (hb : ∀ (i : Nat) (c : List A), b1[i]? = some c → ∃ c0, ak st.bx i = some c0 ∧ dk (cN b1.length order) c0 = c)
    (hr : aY (cN b1.length order) (aL l) = r) : iE T rs r b1 k e st :=
  ⟨he, l, order, hl, hr, hk, hnd, fun g hg => by
    obtain ⟨x, hx, he⟩ := List.any_eq_true.1 (List.all_eq_true.1 hov g hg)
    exact Nat.eq_of_beq_eq_true he ▸ hx, hb⟩
end
/-! the caller's side -/
def cM (bx : List (Nat × List A)) (gs os : List Nat) : Nat → A → A
  | 0, _ => .any
  | _ + 1, .d x => .d x
  | _ + 1, .ag l => .ag l
  | _ + 1, .own g es => match pos os g with
    | some i => .own (gs.length + i) es
    | none => .d (.sl es)
  | k + 1, .agg l => gE (l.map (cM bx gs os k))
  | _ + 1, .tup _ => .any
  | _ + 1, .rowd l => .rowd l
  | k + 1, .row l => .row (l.map (cM bx gs os k))
  | k + 1, .ptr g off => match pos gs g with
    | some i => .ptr i off
    | none => match ak bx g with
      | some cells => .row ((cells.drop off).map (cM bx gs os k))
      | none => .any
  | _ + 1, .xs g es => match pos os g with
    | some i => .xs (gs.length + i) es
    | none => .any
  | _ + 1, .xp _ _ _ _ => .any
  | _ + 1, .mp g es => match pos os g with
    | some i => .mp (gs.length + i) es
    | none => .any
  | _ + 1, .mq g es => match pos os g with
    | some i => .mq (gs.length + i) es
    | none => .any
  | _ + 1, .mo g es h ob => match pos os g with
    | some i => .mo (gs.length + i) es h ob
    | none => .any
  | k + 1, .clo f l => .clo f (l.map (cM bx gs os k))
  | k + 1, .bnd f l => .bnd f (l.map (cM bx gs os k))
  | _ + 1, .ni => .ni
  | _ + 1, .fl es => .fl es
  | _ + 1, .bf g T s => match pos os g with
    | some i => .bf (gs.length + i) T s
    | none => .any
  | _ + 1, .np g T u => match pos gs g with
    | some i => .np i T u
    | none => .any
  | _ + 1, .lk _ _ _ _ => .any
  | _ + 1, .fx _ _ _ => .any
  | _ + 1, .ol _ _ _ _ => .any
  | _ + 1, .ow _ _ _ => .any
  | _ + 1, .sb g n c => match pos gs g with
    | some i => .sb i n c
    | none => .any
  | _ + 1, .any => .any
def fO (bx : List (Nat × List A)) (gs os : List Nat) : List Nat → Option (List (List A))
  | [] => some []
  | g :: r => match ak bx g, fO bx gs os r with
    | some c, some l => some (c.map (cM bx gs os 5) :: l)
    | _, _ => none
mutual
def back (gs : List Nat) (m : Nat) : A → A
  | .own g es => .own (g + m) es
  | .agg l => .agg (hZ gs m l)
  | .tup l => .tup (hZ gs m l)
  | .clo f l => .clo f (hZ gs m l)
  | .bnd f l => .bnd f (hZ gs m l)
  | .ptr i off => match gs[i]? with
    | some g => .ptr g off
    | none => .any
  | .xs g es => .xs (g + m) es
  | .xp g i off l => .xp (g + m) i off l
  | .mp g es => .mp (g + m) es
  | .mq g es => .mq (g + m) es
  | .mo g es h ob => .mo (g + m) es h ob
  | .row _ => .any
  | .d x => .d x
  | .ag l => .ag l
  | .rowd l => .rowd l
  | .fl es => .fl es
  | .bf g T s => .bf (g + m) T s
  | .np i T u => match gs[i]? with
    | some g => .np g T u
    | none => .any
  | .lk _ _ _ _ => .any
  | .fx _ _ _ => .any
  | .ol _ _ _ _ => .any
  | .ow _ _ _ => .any
  | .sb i n c => match gs[i]? with
    | some g => .sb g n c
    | none => .any
  | .ni => .ni
  | .any => .any
def hZ (gs : List Nat) (m : Nat) : List A → List A
  | [] => []
  | a :: l => back gs m a :: hZ gs m l
end
theorem eK (gs : List Nat) (m : Nat) : ∀ l : List A, hZ gs m l = l.map (back gs m)
  | [] => rfl
  | a :: l => by simp [hZ, eK gs m l]
def fk (gs : List Nat) (m : Nat) : List Nat → List (List A) → List (Nat × List A)
  | g :: r, c :: l => (g, hZ gs m c) :: fk gs m r l
  | _, _ => []
theorem kD {gs : List Nat} {m : Nat} : ∀ {r : List Nat} {l : List (List A)} {g : Nat} {c : List A}, ak (fk gs m r l) g = some c → ∃ (i : Nat) (c0 : List A), r[i]? = some g ∧ l[i]? = some c0 ∧ hZ gs m c0 = c
  | [], _, g, c, h => by simp [fk, ak] at h
  | _ :: _, [], g, c, h => by simp [fk, ak] at h
  | g0 :: r, c0 :: l, g, c, h => by
    simp only [fk, bt] at h
    split at h
    · rename_i e
      subst e
      simp only [Option.some.injEq] at h
      exact ⟨0, c0, rfl, rfl, h⟩
    · obtain ⟨i, c1, h1, h2, h3⟩ := kD h
      exact ⟨i + 1, c1, by simpa using h1, by simpa using h2, h3⟩
section
variable {P : Program} {C : Ctx} {n : Nat} {ops : Array Oper} {Q : Exit → St → Prop} {st : St} {o : Oper} {rest : List Oper}
def ea (G : Gh) (gs : List Nat) (b : Nat) : Prop := ∃ g ∈ gs, G.box g = some b
def de (G : Gh) (os : List Nat) (b lim : Nat) : Prop := ∃ g ∈ os, ∃ r, G.own g = some r ∧ r.jV b lim
theorem ar.rowAt {C : Ctx} {n : Nat} {st : St} {G : Gh} {tmps : Array Value} {w : World} (h : ar C n st G tmps w) {g b lim : Nat} {r : Row} (hg : G.own g = some r) (hr : r.jV b lim) :
    C.iD b lim ∧ (∀ g', G.box g' ≠ some b) ∧ b < w.heap.size ∧
      (∀ g' r' lim', G.own g' = some r' → r'.jV b lim' → g' = g ∧ lim' = lim) := by
  have inj : ∀ r' lim', G.own g = some r' → r'.jV b lim' → (∀ b1 bs, r ≠ .mp b1 bs) → lim' = lim := by
    intro r' lim' h1 h2 hne
    rw [hg] at h1
    cases h1
    cases r with
    | nil => exact hr.elim
    | zero _ => exact hr.elim
    | blk b1 len cap sz pub => exact h2.2.trans hr.2.symm
    | mp b1 bs => exact absurd rfl (hne b1 bs)
  have key : ∀ g' r' lim', G.own g' = some r' → r'.jV b lim' → g' = g ∧ lim' = lim := by
    intro g' r' lim' hg' hr'
    cases r with
    | nil => exact hr.elim
    | zero _ => exact hr.elim
    | blk b1 len cap sz pub =>
      obtain ⟨rfl, rfl⟩ := hr
      obtain ⟨_, _, h3, cur, T, h4, _⟩ := h.row g b1 len cap sz lim hg
      cases r' with
      | nil => exact hr'.elim
      | zero _ => exact hr'.elim
      | blk b2 len2 cap2 sz2 pub2 =>
        have hr2 := hr'
        obtain ⟨rfl, rfl⟩ := hr'
        have e := h3 g' _ _ _ _ hg'
        subst e
        exact ⟨rfl, inj _ _ hg' hr2 (fun _ _ h => by cases h)⟩
      | mp b2 bs2 =>
        rcases hr' with ⟨rfl, rfl⟩ | hm'
        · obtain ⟨_, _, _, me, clock, h5⟩ := h.mrow g' b2 bs2 hg'
          rw [h4] at h5
          cases h5
        · exact absurd hg ((h.sub g' b2 bs2 b1 lim' hg' hm').2.2.1 g _ _ _ _)
    | mp b1 bs1 =>
      rcases hr with ⟨rfl, rfl⟩ | hm
      · obtain ⟨_, _, h3, me, clock, h4⟩ := h.mrow g b1 bs1 hg
        cases r' with
        | nil => exact hr'.elim
        | zero _ => exact hr'.elim
        | blk b2 len2 cap2 sz2 pub2 =>
          obtain ⟨rfl, rfl⟩ := hr'
          obtain ⟨_, _, _, cur, T, h5, _⟩ := h.row g' b2 _ _ _ _ hg'
          rw [h4] at h5
          cases h5
        | mp b2 bs2 =>
          rcases hr' with ⟨rfl, rfl⟩ | hm'
          · exact ⟨h3 g' bs2 hg', rfl⟩
          · obtain ⟨_, _, _, _, cur, T, h5, _⟩ := h.sub g' b2 bs2 b1 lim' hg' hm'
            rw [h4] at h5
            cases h5
      · obtain ⟨_, _, h3, h4, cur, T, h5, _⟩ := h.sub g b1 bs1 b lim hg hm
        cases r' with
        | nil => exact hr'.elim
        | zero _ => exact hr'.elim
        | blk b2 len2 cap2 sz2 pub2 =>
          obtain ⟨rfl, rfl⟩ := hr'
          exact absurd hg' (h3 g' _ _ _ _)
        | mp b2 bs2 =>
          rcases hr' with ⟨rfl, rfl⟩ | hm'
          · obtain ⟨_, _, _, me, clock, h6⟩ := h.mrow g' b2 bs2 hg'
            rw [h5] at h6
            cases h6
          · exact h4 g' _ _ _ hg' hm'
  cases r with
  | nil => exact hr.elim
  | zero _ => exact hr.elim
  | blk b1 len cap sz pub =>
    obtain ⟨rfl, rfl⟩ := hr
    obtain ⟨h1, h2, h3, cur, T, h4, _⟩ := h.row g b1 len cap sz lim hg
    exact ⟨h1, h2, (Array.getElem?_eq_some_iff.1 h4).1, key⟩
  | mp b1 bs1 =>
    rcases hr with ⟨rfl, rfl⟩ | hm
    · obtain ⟨h1, h2, h3, me, clock, h4⟩ := h.mrow g b1 bs1 hg
      exact ⟨h1, h2, (Array.getElem?_eq_some_iff.1 h4).1, key⟩
    · obtain ⟨h1, h2, _, _, cur, T, h5, _⟩ := h.sub g b1 bs1 b lim hg hm
      exact ⟨h1, h2, (Array.getElem?_eq_some_iff.1 h5).1, key⟩
theorem ar.vD {C : Ctx} {n : Nat} {st : St} {G : Gh} {tmps : Array Value} {w : World} (h : ar C n st G tmps w) {g b lim o : Nat} {r : Row} {u : Value} (hg : G.own g = some r) (hr : r.jV b lim)
    (hu : cellAt w b o = some u) (hle : lim ≤ o) : aN C G b o := by
  cases r with
  | nil => exact hr.elim
  | zero _ => exact hr.elim
  | blk b1 len cap sz pub => obtain ⟨rfl, rfl⟩ := hr; exact .inr (.inr (.inl ⟨g, len, cap, sz, lim, hg, hle⟩))
  | mp b1 bs =>
    rcases hr with ⟨rfl, rfl⟩ | hm
    · obtain ⟨_, _, _, me, clock, h4⟩ := h.mrow g b1 bs hg
      simp [cellAt, World.cell?, h4] at hu
    · exact .inr (.inr (.inr ⟨g, b1, bs, lim, hg, hm, hle⟩))
def cY (C : Ctx) (G : Gh) (w : World) (gs os : List Nat) : Ctx :=
  { w0 := w, fp := fun b => ea G gs b ∨ ∃ lim, de G os b lim, x := fun b o => aN C G b o ∧ ¬ (ea G gs b ∨ ∃ lim, de G os b lim),
    keep := fun b o => ∃ lim, de G os b lim ∧ o < lim, bx := gs.map fun g => (G.box g).getD 0 }
theorem vh {C : Ctx} {G : Gh} {w : World} {gs os : List Nat} {m : Nat} (hm : os.length = m) : m = 0 → ∀ b, (cY C G w gs os).fp b → ∃ i : Nat, (cY C G w gs os).bx[i]? = some b := by
  rintro rfl b (⟨g, hg, hb⟩ | ⟨lim, g, hg, _⟩)
  · obtain ⟨i, hi⟩ := List.mem_iff_getElem?.1 hg
    exact ⟨i, by show (gs.map _)[i]? = _; rw [List.getElem?_map, hi]; simp [hb]⟩
  · have := List.length_eq_zero_iff.1 hm; subst this; cases hg
def eg (G : Gh) (gs os : List Nat) : Gh := ⟨fun i => (gs[i]?).bind G.box, fun i => if i < gs.length then none else (os[i - gs.length]?).bind G.own⟩
theorem GC.tV {P : Program} [Met P] {C : Ctx} [hC : GC P C] {n : Nat} {st : St} {G : Gh} {tmps : Array Value} {w : World} (hs : ar C n st G tmps w) {gs os : List Nat} : GC P (cY C G w gs os) := by
  obtain ⟨W', h1', h2', h3'⟩ := hC.h
  refine ⟨W', h1', Nat.le_trans h2' hs.fr.size, fun b hb => ⟨(hs.fr.block b (Nat.lt_of_lt_of_le hb h2') (h3' b hb).2).trans (h3' b hb).1, ?_⟩⟩
  rintro (⟨g, _, hg⟩ | ⟨_, g, _, r, hg, hr⟩)
  · rcases (hs.gbox g b hg).2.2.1 with h | h
    · omega
    · exact (h3' b hb).2 h
  · rcases (hs.rowAt hg hr).1.1 with h | h
    · omega
    · exact (h3' b hb).2 h
theorem rp {C : Ctx} {G : Gh} {w : World} {gs os : List Nat} {b o : Nat} (h : aN (cY C G w gs os) (eg G gs os) b o) : aN C G b o := by
  rcases h with h | ⟨g, h⟩ | ⟨g, len, cap, sz, pub, h, hle⟩ | ⟨g, b', bs, lim, h, hm, hle⟩
  · exact h.1
  · obtain ⟨g0, _, h0⟩ := Option.bind_eq_some_iff.1 h
    exact Or.inr (Or.inl ⟨g0, h0⟩)
  · simp only [eg] at h
    split at h
    · cases h
    · obtain ⟨g0, _, h0⟩ := Option.bind_eq_some_iff.1 h
      exact Or.inr (Or.inr (.inl ⟨g0, len, cap, sz, pub, h0, hle⟩))
  · simp only [eg] at h
    split at h
    · cases h
    · obtain ⟨g0, _, h0⟩ := Option.bind_eq_some_iff.1 h
      exact Or.inr (Or.inr (.inr ⟨g0, b', bs, lim, h0, hm, hle⟩))
theorem lu {C : Ctx} {G : Gh} {w : World} {gs os : List Nat} {b o : Nat} (h : aN C G b o) (hn : ¬ (ea G gs b ∨ ∃ lim, de G os b lim)) {G1 : Gh} : aN (cY C G w gs os) G1 b o := Or.inl ⟨h, hn⟩
theorem aA.nG {G : Gh} {tmps : Array Value} {w : World} (h : ar C n st G tmps w) (gs os : List Nat) {gen' : Nat} (hgen : gs.length + os.length ≤ gen') :
    ∀ (k : Nat) (v : Value) (a : A), aA (ao C G st.gen w) v a → aA (ao (cY C G w gs os) (eg G gs os) gen' w) v (cM st.bx gs os k a) := by
  have hc : ∀ b o u, cellAt w b o = some u → ¬ aN C G b o → cellAt w b o = some u ∧ ¬ aN (cY C G w gs os) (eg G gs os) b o := fun b o u h1 h2 => ⟨h1, fun hp => h2 (rp hp)⟩
  have hold : ∀ b, (∃ g ∈ gs, G.box g = some b) ∨ (∃ lim, de G os b lim) → C.w0.heap.size ≤ b ∨ C.fp b := by
    rintro b (⟨g, _, hg⟩ | ⟨lim, g, _, r, hg, hr⟩)
    · exact (h.gbox g b hg).2.2.1
    · exact (h.rowAt hg hr).1.1
  intro k
  induction k with
  | zero => intro v a _; exact .any v
  | succ k ih =>
    intro v a hr
    have lst : ∀ (l : List A) (vs : Array Value), (∀ (i : Nat) (u : Value) (x : A), vs[i]? = some u → l[i]? = some x → aA (ao C G st.gen w) u x) →
        ∀ (i : Nat) (u : Value) (x : A), vs[i]? = some u → (l.map (cM st.bx gs os k))[i]? = some x → aA (ao (cY C G w gs os) (eg G gs os) gen' w) u x := by
      intro l vs hl i u x hu hx
      simp only [List.getElem?_map, Option.map_eq_some_iff] at hx
      obtain ⟨y, hy, rfl⟩ := hx
      exact ih u y (hl i u y hu hy)
    cases hr with
    | any => exact .any _
    | d hd => exact .d (hd.mono hc)
    | ag vs l hs hd => exact .ag vs l hs (fun i u x h1 h2 => (hd i u x h1 h2).mono hc)
    | own _ g es hd _ hx =>
      simp only [cM]
      split
      · rename_i i hp
        have hi := bq hp
        have hil := (List.getElem?_eq_some_iff.1 hi).1
        refine .own _ _ es (hd.mono hc) (by simp only [ao]; omega) (fun r hr' => hx r ?_)
        have hr2 : (if gs.length + i < gs.length then none else (os[gs.length + i - gs.length]?).bind G.own) = some r := hr'
        rw [if_neg (by omega), Nat.add_sub_cancel_left, hi] at hr2
        exact hr2
      · exact .d (hd.mono hc)
    | agg vs l hs hone hd => exact gQ (by simp [hs]) hone (lst l vs hd)
    | tup vs l hs hd => exact .any _
    | rowd b off l u hcc hd => exact .rowd b off l u (fun j hj => hc _ _ _ (hcc j hj).1 (hcc j hj).2) (fun j x hx => (hd j x hx).mono hc)
    | row b off l u hcc hd =>
      refine .row b off _ u (fun j hj => ?_) (fun j x hx => ?_)
      · have := hcc j (by simpa using hj)
        refine ⟨this.1, ⟨cv this.1, fun hl => ?_⟩, this.2.2⟩
        have h1 := hold b hl
        have h2 := this.2.1
        simp only [ao] at h2
        rcases h1 with h1 | h1
        · omega
        · exact h2.2 h1
      · simp only [List.getElem?_map, Option.map_eq_some_iff] at hx
        obtain ⟨y, hy, rfl⟩ := hx
        exact ih _ y (hd j y hy)
    | xs _ g es hgg h1 hx =>
      simp only [cM]
      split
      · rename_i i hp
        have hi := bq hp
        have hil := (List.getElem?_eq_some_iff.1 hi).1
        refine .xs _ _ es (by simp only [ao]; omega) h1 (fun r hr' => ?_)
        have hr2 : (if gs.length + i < gs.length then none else (os[gs.length + i - gs.length]?).bind G.own) = some r := hr'
        rw [if_neg (by omega), Nat.add_sub_cancel_left, hi] at hr2
        exact (hx r hr2).bZ hc
      · exact .any _
    | xp => exact .any _
    | ni t x => exact .ni t x
    | fl _ es hd hfl => exact .fl _ es (hd.mono hc) hfl
    | bf _ g T s hgg h1 hx =>
      simp only [cM]
      split
      · rename_i i hp
        have hi := bq hp
        have hil := (List.getElem?_eq_some_iff.1 hi).1
        refine .bf _ _ T s (by simp only [ao]; omega) h1 (fun r hr' => ?_)
        have hr2 : (if gs.length + i < gs.length then none else (os[gs.length + i - gs.length]?).bind G.own) = some r := hr'
        rw [if_neg (by omega), Nat.add_sub_cancel_left, hi] at hr2
        exact hx r hr2
      · exact .any _
    | mp _ g es hgg h1 hx =>
      simp only [cM]
      split
      · rename_i i hp
        have hi := bq hp
        have hil := (List.getElem?_eq_some_iff.1 hi).1
        refine .mp _ _ es (by simp only [ao]; omega) h1 (fun r hr' => ?_)
        have hr2 : (if gs.length + i < gs.length then none else (os[gs.length + i - gs.length]?).bind G.own) = some r := hr'
        rw [if_neg (by omega), Nat.add_sub_cancel_left, hi] at hr2
        exact (hx r hr2).bZ hc
      · exact .any _
    | mq _ g es hgg h1 hx =>
      simp only [cM]
      split
      · rename_i i hp
        have hi := bq hp
        have hil := (List.getElem?_eq_some_iff.1 hi).1
        refine .mq _ _ es (by simp only [ao]; omega) h1 (fun r hr' => ?_)
        have hr2 : (if gs.length + i < gs.length then none else (os[gs.length + i - gs.length]?).bind G.own) = some r := hr'
        rw [if_neg (by omega), Nat.add_sub_cancel_left, hi] at hr2
        exact (hx r hr2).bZ hc
      · exact .any _
    | mo _ g es hole ob hgg h1 hx =>
      simp only [cM]
      split
      · rename_i i hp
        have hi := bq hp
        have hil := (List.getElem?_eq_some_iff.1 hi).1
        refine .mo _ _ es hole ob (by simp only [ao]; omega) h1 (fun r hr' => ?_)
        have hr2 : (if gs.length + i < gs.length then none else (os[gs.length + i - gs.length]?).bind G.own) = some r := hr'
        rw [if_neg (by omega), Nat.add_sub_cancel_left, hi] at hr2
        exact (hx r hr2).bZ hc
      · exact .any _
    | np _ g T b0 hg hb0 hT u hx0 =>
      simp only [cM]
      split
      · rename_i i hpp
        have hi := bq hpp
        have hil := (List.getElem?_eq_some_iff.1 hi).1
        refine .np _ i T b0 (by simp only [ao]; omega) ?_ (by exact hT) u hx0
        show (gs[i]?).bind G.box = some b0
        rw [hi]
        exact hb0
      · exact .any _
    | lk => exact .any _
    | fx => exact .any _
    | ol => exact .any _
    | ow => exact .any _
    | sb _ g n c b0 hg hb0 hn hx0 =>
      simp only [cM]
      split
      · rename_i i hpp
        have hi := bq hpp
        have hil := (List.getElem?_eq_some_iff.1 hi).1
        refine .sb _ i n c b0 (by simp only [ao]; omega) ?_ hn hx0
        show (gs[i]?).bind G.box = some b0
        rw [hi]
        exact hb0
      · exact .any _
    | ptr _ g off b0 hg hb0 hx0 =>
      have hp := mD hb0 hx0
      simp only [cM]
      split
      · rename_i i hpp
        have hi := bq hpp
        have hil := (List.getElem?_eq_some_iff.1 hi).1
        refine .ptr _ i off b0 (by simp only [ao]; omega) ?_ hx0
        show (gs[i]?).bind G.box = some b0
        rw [hi]
        exact hb0
      · rename_i hpn
        split
        · rename_i cells hb
          obtain ⟨b, cs, T', h1, h2, h3, h4, h5⟩ := h.box g cells hb
          rw [hp b h1]
          refine .row b off _ (fun j => cs[off + j]?.getD default) (fun j hj => ?_) (fun j x hx => ?_)
          · have hj' : off + j < cs.size := by simp at hj; omega
            have e : cs[off + j]? = some cs[off + j] := by simp [hj']
            refine ⟨by show cellAt w b (off + j) = _; rw [bj h2, e]; rfl, ⟨(Array.getElem?_eq_some_iff.1 h2).1, ?_⟩, by rw [e]; exact h4 _ _ e⟩
            rintro (⟨g', hg', hb'⟩ | ⟨lim, g', hg', r, hr', hra⟩)
            · have e := h.inj g g' b h1 hb'
              subst e
              have : ∀ {l : List Nat}, pos l g = none → g ∉ l := by
                intro l
                induction l with
                | nil => intro _ hm; cases hm
                | cons y l ihl =>
                  intro hpos hm
                  simp only [pos] at hpos
                  cases e : Nat.beq y g with
                  | true => rw [e] at hpos; simp at hpos
                  | false =>
                    rw [e] at hpos
                    simp only [cond_false] at hpos
                    split at hpos
                    · cases hpos
                    · rename_i hno
                      rcases List.mem_cons.1 hm with rfl | hm
                      · simp at e
                      · exact ihl hno hm
              exact this hpn hg'
            · exact (h.rowAt hr' hra).2.1 g h1
          · simp only [List.getElem?_map, Option.map_eq_some_iff] at hx
            obtain ⟨y, hy, rfl⟩ := hx
            have hy' : cells[off + j]? = some y := by simpa using hy
            have hj' : off + j < cs.size := by rw [h3]; exact (List.getElem?_eq_some_iff.1 hy').1
            have e : cs[off + j]? = some cs[off + j] := by simp [hj']
            rw [e]
            exact ih _ y (h5 _ _ _ e hy')
        · exact .any _
    | clo f vs l hs hd => exact .clo f vs _ (by simp [hs]) (lst l vs hd)
    | bnd f vs l hs hd => exact .bnd f vs _ (by simp [hs]) (lst l vs hd)
theorem fL {bx : List (Nat × List A)} {gs os : List Nat} : ∀ {r : List Nat} {l : List (List A)}, fO bx gs os r = some l → l.length = r.length ∧ ∀ (i g : Nat), r[i]? = some g → ∃ c, ak bx g = some c ∧ l[i]? = some (c.map (cM bx gs os 5))
  | [], l, h => by simp only [fO, Option.some.injEq] at h; subst h; simp
  | g0 :: r, l, h => by
    simp only [fO] at h
    split at h
    · rename_i c l' hc hl
      simp only [Option.some.injEq] at h
      subst h
      obtain ⟨h1, h2⟩ := fL hl
      refine ⟨by simp [h1], fun i g hi => ?_⟩
      cases i with
      | zero => simp at hi; subst hi; exact ⟨c, hc, rfl⟩
      | succ i => simpa using h2 i g (by simpa using hi)
    · cases h
theorem iU {l : List Nat} (hnd : l.Nodup) {i j g : Nat} (h1 : l[i]? = some g) (h2 : l[j]? = some g) : i = j := by
  obtain ⟨i1, e1⟩ := List.getElem?_eq_some_iff.1 h1
  obtain ⟨i2, e2⟩ := List.getElem?_eq_some_iff.1 h2
  have hpw := List.pairwise_iff_getElem.1 hnd
  rcases Nat.lt_trichotomy i j with hlt | heq | hgt
  · exact absurd (e1.trans e2.symm) (hpw i j i1 i2 hlt)
  · exact heq
  · exact absurd (e2.trans e1.symm) (hpw j i i2 i1 hgt)
theorem ar.nG {G : Gh} {tmps : Array Value} {w : World} (h : ar C n st G tmps w) {gs os : List Nat} {b0 : List (List A)} (hgs : gs.Nodup) (hos : os.Nodup) (hov : ∀ g ∈ os, g ∈ st.lv) (hb : fO st.bx gs os gs = some b0) :
    (cY C G w gs os).bx.length = b0.length ∧ ar (cY C G w gs os) 0 ⟨[], dw 0 b0, (List.range os.length).map (b0.length + ·), b0.length + os.length⟩ (eg G gs os) #[] w := by
  obtain ⟨hl, hget⟩ := fL hb
  refine ⟨by simp [cY, hl], ?_⟩
  have hown : ∀ {g r}, (eg G gs os).own g = some r → gs.length ≤ g ∧ ∃ g0, os[g - gs.length]? = some g0 ∧ G.own g0 = some r := by
    intro g r hr
    simp only [eg] at hr
    split at hr
    · cases hr
    · exact ⟨by omega, Option.bind_eq_some_iff.1 hr⟩
  refine { size := rfl, frame := fun t a ha => by simp [look] at ha, box := fun i l' hc => ?_, gbox := fun i b hb' => ?_, inj := fun i j b h1 h2 => ?_, live := fun i hi => ?_, gown := fun i r hr => ?_,
           row := fun i b len cap sz pub hr => ?_, mrow := fun i b bs hr => ?_, sub := fun i b bs c lim hr hmb => ?_, gcell := fun i b hb' => (let ⟨g, _, h2⟩ := Option.bind_eq_some_iff.1 hb'; h.gcell g b h2), xold := fun b o hx => ⟨pW h hx.1, hx.2⟩, kold := fun b o hk => ?_, lent := fun i b hi => ?_, fr := ⟨rfl, rfl, rfl, Nat.le_refl _, fun _ _ _ => rfl, fun _ _ _ _ h => h, .refl w⟩ }
  · obtain ⟨_, h1⟩ := j0 b0 0 i l' hc
    simp only [Nat.sub_zero] at h1
    have hlt : i < gs.length := by rw [← hl]; exact (List.getElem?_eq_some_iff.1 h1).1
    have hgi : gs[i]? = some gs[i] := by simp [hlt]
    obtain ⟨c, h2, h3⟩ := hget i _ hgi
    rw [h1] at h3
    simp only [Option.some.injEq] at h3
    subst h3
    obtain ⟨b, cs, T, h4, h5, h6, h7, h8⟩ := h.box _ c h2
    refine ⟨b, cs, T, by simp [eg, hgi, h4], h5, by simpa using h6, h7, fun j u a hu ha => ?_⟩
    rw [List.getElem?_map, Option.map_eq_some_iff] at ha
    obtain ⟨y, hy, rfl⟩ := ha
    exact aA.nG h gs os (gen' := b0.length + os.length) (by omega) 5 u y (h8 j u y hu hy)
  · obtain ⟨g, h1, h2⟩ := Option.bind_eq_some_iff.1 hb'
    have hlt : i < gs.length := (List.getElem?_eq_some_iff.1 h1).1
    refine ⟨by show i < b0.length + os.length; omega, (h.gbox g b h2).2.1, .inr (.inl ⟨g, List.mem_of_getElem? h1, h2⟩), ?_⟩
    rintro o ⟨lim, ⟨g', _, r, hr', hra⟩, _⟩
    exact absurd h2 ((h.rowAt hr' hra).2.1 g)
  · obtain ⟨g1, h3, h4⟩ := Option.bind_eq_some_iff.1 h1
    obtain ⟨g2, h5, h6⟩ := Option.bind_eq_some_iff.1 h2
    have e := h.inj g1 g2 b h4 h6
    subst e
    exact iU hgs h3 h5
  · obtain ⟨j, hj, rfl⟩ := List.mem_map.1 hi
    have hj : j < os.length := by simpa using hj
    obtain ⟨r, hr⟩ := h.live _ (hov _ (List.getElem_mem hj))
    refine ⟨r, ?_⟩
    simp only [eg]
    rw [if_neg (by omega), hl, Nat.add_sub_cancel_left]
    simp [hj, hr]
  · obtain ⟨h1, g0, h2, h3⟩ := hown hr
    have := (List.getElem?_eq_some_iff.1 h2).1
    simp only
    omega
  · obtain ⟨h1, g0, h2, h3⟩ := hown hr
    obtain ⟨h4, h5, h6, h7⟩ := h.row g0 b len cap sz pub h3
    have hm := List.mem_of_getElem? h2
    refine ⟨⟨.inr (.inr ⟨_, g0, hm, _, h3, rfl, rfl⟩), ?_⟩, fun j hj => ?_, fun j len' cap' sz' pub' hj => ?_, h7⟩
    · rintro o ⟨lim, ⟨g', _, r', hr', hra⟩, hlt⟩
      have e := (h.rowAt h3 ⟨rfl, rfl⟩).2.2.2 g' r' lim hr' hra
      rw [e.2] at hlt
      exact hlt
    · obtain ⟨g2, _, h8⟩ := Option.bind_eq_some_iff.1 hj
      exact h5 g2 h8
    · obtain ⟨h9, g2, h10, h11⟩ := hown hj
      have e := h6 g2 len' cap' sz' pub' h11
      subst e
      have := iU hos h10 h2
      omega
  · obtain ⟨h1, g0, h2, h3⟩ := hown hr
    obtain ⟨h4, h5, h6, h7⟩ := h.mrow g0 b bs h3
    have hm := List.mem_of_getElem? h2
    refine ⟨⟨.inr (.inr ⟨_, g0, hm, _, h3, Or.inl ⟨rfl, rfl⟩⟩), ?_⟩, fun j hj => ?_, fun j bs' hj => ?_, h7⟩
    · rintro o ⟨lim, ⟨g', _, r', hr', hra⟩, hlt⟩
      have e := (h.rowAt h3 (Or.inl ⟨rfl, rfl⟩)).2.2.2 g' r' lim hr' hra
      rw [e.2] at hlt
      exact hlt
    · obtain ⟨g2, _, h8⟩ := Option.bind_eq_some_iff.1 hj
      exact h5 g2 h8
    · obtain ⟨h9, g2, h10, h11⟩ := hown hj
      have e := h6 g2 bs' h11
      subst e
      have := iU hos h10 h2
      omega
  · obtain ⟨h1, g0, h2, h3⟩ := hown hr
    obtain ⟨h4, h5, h6, h7, h8⟩ := h.sub g0 b bs c lim h3 hmb
    have hm := List.mem_of_getElem? h2
    refine ⟨⟨.inr (.inr ⟨_, g0, hm, _, h3, Or.inr hmb⟩), ?_⟩, fun j hj => ?_, fun j len cap sz pub hj => ?_, fun j b' bs' lim' hj hm' => ?_, h8⟩
    · rintro o ⟨lim2, ⟨g', _, r', hr', hra⟩, hlt⟩
      have e := (h.rowAt h3 (Or.inr hmb)).2.2.2 g' r' lim2 hr' hra
      rw [e.2] at hlt
      exact hlt
    · obtain ⟨g2, _, h9⟩ := Option.bind_eq_some_iff.1 hj
      exact h5 g2 h9
    · obtain ⟨_, g2, _, h11⟩ := hown hj
      exact h6 g2 _ _ _ _ h11
    · obtain ⟨h9, g2, h10, h11⟩ := hown hj
      obtain ⟨e, e0⟩ := h7 g2 _ _ _ h11 hm'
      subst e
      have := iU hos h10 h2
      exact ⟨by omega, e0⟩
  · obtain ⟨lim, ⟨g', _, r', hr', hra⟩, _⟩ := hk
    exact (h.rowAt hr' hra).2.2.1
  · simp only [cY, List.getElem?_map, Option.map_eq_some_iff] at hi
    obtain ⟨g, hg, rfl⟩ := hi
    obtain ⟨c, h2, _⟩ := hget i g hg
    obtain ⟨b, _, _, h4, _⟩ := h.box _ c h2
    simp [eg, hg, h4]
theorem aA.back {E E2 : En} {gs : List Nat} {m : Nat} (hc : ∀ b o u, cellAt E.w b o = some u → ¬ E.pv b o → cellAt E2.w b o = some u ∧ ¬ E2.pv b o) (ho : ∀ g r, g < E.gen → E2.own (g + m) = some r → E.own g = some r)
    (hg : E.gen + m ≤ E2.gen) (hb : ∀ (i g b : Nat), gs[i]? = some g → E.box i = some b → g < E2.gen ∧ E2.box g = some b) (hw : E2.w = E.w) {v : Value} {a : A} (h : aA E v a) : aA E2 v (back gs m a) := by
  have hc' : ∀ b o u, cellAt E.w b o = some u → ¬ E.pv b o → cellAt E.w b o = some u ∧ ¬ E2.pv b o := fun b o u h1 h2 => ⟨h1, (hc b o u h1 h2).2⟩
  induction h with
  | any x => exact .any x
  | d hd => exact .d (hd.mono hc)
  | ag vs l hs hd => exact .ag vs l hs (fun i u x h1 h2 => (hd i u x h1 h2).mono hc)
  | own x g es hd hgg hr => exact .own x _ es (hd.mono hc) (by omega) (fun r hr' => hr r (ho g r hgg hr'))
  | agg vs l hs hone _ ih =>
    simp only [Ab.back, eK]
    refine .agg vs _ (by simp [hs]) hone (fun i u x hu hx => ?_)
    simp only [List.getElem?_map, Option.map_eq_some_iff] at hx
    obtain ⟨y, hy, rfl⟩ := hx
    exact ih i u y hu hy
  | tup vs l hs _ ih =>
    simp only [Ab.back, eK]
    refine .tup vs _ (by simp [hs]) (fun i u x hu hx => ?_)
    simp only [List.getElem?_map, Option.map_eq_some_iff] at hx
    obtain ⟨y, hy, rfl⟩ := hx
    exact ih i u y hu hy
  | rowd b off l u hcc hd => exact .rowd b off l u (fun j hj => hc _ _ _ (hcc j hj).1 (hcc j hj).2) (fun j x hx => (hd j x hx).mono hc)
  | row b off l u hcc _ _ => exact .any _
  | np x i T b0 hgg hb0 hT u hp =>
    simp only [Ab.back]
    split
    · rename_i g hgi
      exact .np x g T b0 (hb i g b0 hgi hb0).1 (hb i g b0 hgi hb0).2 (hw ▸ hT) u hp
    · exact .any _
  | lk => exact .any _
  | fx => exact .any _
  | ol => exact .any _
  | ow => exact .any _
  | sb x i n c b0 hgg hb0 hn hp =>
    simp only [Ab.back]
    split
    · rename_i g hgi
      exact .sb x g n c b0 (hb i g b0 hgi hb0).1 (hb i g b0 hgi hb0).2 hn hp
    · exact .any _
  | ptr x i off b0 hgg hb0 hp =>
    simp only [Ab.back]
    split
    · rename_i g hgi
      exact .ptr x g off b0 (hb i g b0 hgi hb0).1 (hb i g b0 hgi hb0).2 hp
    · exact .any _
  | xs x g es hgg h1 hx => exact .xs x _ es (by omega) h1 (fun r hr' => hw ▸ (hx r (ho g r hgg hr')).bZ hc')
  | xp x g i off l hgg h1 hx => exact .xp x _ i off l (by omega) h1 (fun r hr' => hw ▸ (hx r (ho g r hgg hr')).bZ hc')
  | ni t x => exact .ni t x
  | fl x es hd hfl => exact .fl x es (hd.mono hc) hfl
  | bf x g T s hgg h1 hx => exact .bf x _ T s (by omega) h1 (fun r hr' => hw ▸ hx r (ho g r hgg hr'))
  | mp x g es hgg h1 hx => exact .mp x _ es (by omega) h1 (fun r hr' => hw ▸ (hx r (ho g r hgg hr')).bZ hc')
  | mq x g es hgg h1 hx => exact .mq x _ es (by omega) h1 (fun r hr' => hw ▸ (hx r (ho g r hgg hr')).bZ hc')
  | mo x g es hole ob hgg h1 hx => exact .mo x _ es hole ob (by omega) h1 (fun r hr' => hw ▸ (hx r (ho g r hgg hr')).bZ hc')
  | clo f vs l hs _ ih =>
    simp only [Ab.back, eK]
    refine .clo f vs _ (by simp [hs]) (fun i u x hu hx => ?_)
    simp only [List.getElem?_map, Option.map_eq_some_iff] at hx
    obtain ⟨y, hy, rfl⟩ := hx
    exact ih i u y hu hy
  | bnd f vs l hs _ ih =>
    simp only [Ab.back, eK]
    refine .bnd f vs _ (by simp [hs]) (fun i u x hu hx => ?_)
    simp only [List.getElem?_map, Option.map_eq_some_iff] at hx
    obtain ⟨y, hy, rfl⟩ := hx
    exact ih i u y hu hy
theorem ar.ug {G : Gh} {tmps : Array Value} {w w' : World} (h : ar C n st G tmps w) {gs os : List Nat} {b0 b1 : List (List A)} (hb : fO st.bx gs os gs = some b0) (hl1 : b1.length = b0.length) {k : Nat} {G1 : Gh}
    (h1 : ar (cY C G w gs os) 0 ⟨[], dw 0 b1, (List.range k).map (b0.length + ·), b0.length + k⟩ G1 #[] w') :
    ∃ G2, (∀ v a, aA (ao (cY C G w gs os) G1 (b0.length + k) w') v a → aA (ao C G2 (b0.length + k + st.gen) w') v (back gs st.gen a)) ∧
      ar C n ⟨st.f, fk gs st.gen gs b1 ++ st.bx, (List.range k).map (b0.length + · + st.gen) ++ st.lv.filter (fun g => !os.any (Nat.beq g)), b0.length + k + st.gen⟩ G2 tmps w' := by
  obtain ⟨hl, hget⟩ := fL hb
  have memos : ∀ g, os.any (Nat.beq g) = true ↔ g ∈ os := by
    intro g
    rw [List.any_eq_true]
    exact ⟨fun ⟨x, hx, he⟩ => Nat.eq_of_beq_eq_true he ▸ hx, fun hg => ⟨g, hg, Nat.beq_refl g⟩⟩
  let own2 : Nat → Option Row := fun g => if g < st.gen then (if os.any (Nat.beq g) then none else G.own g) else G1.own (g - st.gen)
  let G2 : Gh := ⟨G.box, own2⟩
  have hLb : ∀ {b}, ea G gs b → C.iD b 0 ∧ b < w.heap.size := by
    rintro b ⟨g, _, hg⟩
    exact ⟨(h.gbox g b hg).2.2, (h.gbox g b hg).2.1⟩
  have hLr : ∀ {b lim}, de G os b lim → C.iD b lim ∧ b < w.heap.size ∧ (∀ g', G.box g' ≠ some b) := by
    rintro b lim ⟨g, _, r, hg, hra⟩
    obtain ⟨h1, h2, h3, _⟩ := h.rowAt hg hra
    exact ⟨h1, h3, h2⟩
  have hLm : ∀ {b}, (ea G gs b ∨ ∃ lim, de G os b lim) → C.w0.heap.size ≤ b ∨ C.fp b := by
    rintro b (hl | ⟨lim, hl⟩)
    · exact (hLb hl).1.1
    · exact (hLr hl).1.1
  have hG1 : ∀ {i g : Nat} {b : Nat}, gs[i]? = some g → G.box g = some b → G1.box i = some b := by
    intro i g b hi hg
    refine h1.lent i b ?_
    simp [cY, hi, hg]
  have old2 : ∀ {g r}, own2 g = some r → (g < st.gen ∧ g ∉ os ∧ G.own g = some r) ∨ (st.gen ≤ g ∧ G1.own (g - st.gen) = some r) := by
    intro g r hr
    simp only [own2] at hr
    split at hr
    · rename_i hlt
      split at hr
      · cases hr
      · rename_i hno
        exact .inl ⟨hlt, fun hm => hno ((memos g).2 hm), hr⟩
    · exact .inr ⟨by omega, hr⟩
  have hstay : ∀ {b}, b < w.heap.size → ¬ (ea G gs b ∨ ∃ lim, de G os b lim) → w'.heap[b]? = w.heap[b]? := fun hlt hn => h1.fr.block _ hlt hn
  have hnotrow : ∀ {g b lim r}, G.own g = some r → r.jV b lim → g ∉ os → ¬ (ea G gs b ∨ ∃ lim, de G os b lim) := by
    rintro g b lim r hg hra hno (⟨g', _, hb'⟩ | ⟨lim', g', hg', r', hr', hra'⟩)
    · exact (h.rowAt hg hra).2.1 g' hb'
    · have e := (h.rowAt hg hra).2.2.2 g' r' lim' hr' hra'
      exact hno (e.1 ▸ hg')
  have hnotbox : ∀ {g b}, G.box g = some b → g ∉ gs → ¬ (ea G gs b ∨ ∃ lim, de G os b lim) := by
    rintro g b hg hno (⟨g', hg', hb'⟩ | ⟨lim, hl⟩)
    · have e := h.inj g g' b hg hb'
      subst e
      exact hno hg'
    · exact (hLr hl).2.2 g hg
  have hnew : ∀ {g b lim r}, G1.own g = some r → r.jV b lim → C.iD b lim ∧ (∀ g', G.box g' ≠ some b) ∧ (w.heap.size ≤ b ∨ ∃ lim', de G os b lim' ∧ lim' ≤ lim) := by
    intro g b lim r hg hra
    obtain ⟨⟨hm, hk⟩, hnb, _⟩ := h1.rowAt hg hra
    have hm' : w.heap.size ≤ b ∨ (ea G gs b ∨ ∃ lim, de G os b lim) := hm
    rcases hm' with hm | hm | ⟨lim', hm⟩
    · refine ⟨⟨.inl (Nat.le_trans h.fr.size hm), fun o ho => ?_⟩, fun g' hg' => ?_, .inl hm⟩
      · have := h.kold b o ho
        have := h.fr.size
        omega
      · have := (h.gbox g' b hg').2.1
        omega
    · obtain ⟨g0, hg0, hb0⟩ := hm
      obtain ⟨i, hi⟩ := List.mem_iff_getElem?.1 hg0
      exact absurd (hG1 hi hb0) (hnb i)
    · have hlim : lim' ≤ lim := by
        rcases Nat.lt_or_ge lim lim' with hlt | hge
        · exact absurd (hk lim ⟨lim', hm, hlt⟩) (Nat.lt_irrefl _)
        · exact hge
      obtain ⟨q1, q2, q3⟩ := hLr hm
      exact ⟨⟨q1.1, fun o ho => Nat.lt_of_lt_of_le (q1.2 o ho) hlim⟩, q3, .inr ⟨lim', hm, hlim⟩⟩
  have hfr : Fr C w' := by
    refine ⟨h1.fr.os.trans h.fr.os, h1.fr.tape.trans h.fr.tape, h1.fr.output.trans h.fr.output, Nat.le_trans h.fr.size h1.fr.size, fun b hlt hn => ?_, fun b o u hk hu => ?_, h.fr.ty.trans h1.fr.ty⟩
    · rw [hstay (Nat.lt_of_lt_of_le hlt h.fr.size) (fun hl => (hLm hl).elim (fun h => by omega) hn)]
      exact h.fr.block b hlt hn
    · have hu' := h.fr.cells b o u hk hu
      by_cases hl : ea G gs b ∨ ∃ lim, de G os b lim
      · rcases hl with hl | ⟨lim, hl⟩
        · exact absurd ((hLb hl).1.2 o hk) (Nat.not_lt_zero _)
        · exact h1.fr.cells b o u ⟨lim, hl, (hLr hl).1.2 o hk⟩ hu'
      · rw [bp (hstay (cv hu') hl)]
        exact hu'
  have hpv2 : ∀ {b o}, aN C G2 b o → aN (cY C G w gs os) G1 b o := by
    rintro b o (hp | ⟨g, hp⟩ | ⟨g, len, cap, sz, pub, hp, hle⟩ | ⟨g, b', bs, lim, hp, hm, hle⟩)
    · refine lu (.inl hp) (fun hl => ?_)
      obtain ⟨h2, h3⟩ := h.xold b o hp
      exact (hLm hl).elim (fun h => by omega) h3
    · by_cases hg : g ∈ gs
      · obtain ⟨i, hi⟩ := List.mem_iff_getElem?.1 hg
        exact .inr (.inl ⟨i, hG1 hi hp⟩)
      · exact lu (G := G) (.inr (.inl ⟨g, hp⟩)) (hnotbox hp hg)
    · rcases old2 hp with ⟨_, h3, h4⟩ | ⟨_, h3⟩
      · exact lu (.inr (.inr (.inl ⟨g, len, cap, sz, pub, h4, hle⟩))) (hnotrow h4 ⟨rfl, rfl⟩ h3)
      · exact .inr (.inr (.inl ⟨_, len, cap, sz, pub, h3, hle⟩))
    · rcases old2 hp with ⟨_, h3, h4⟩ | ⟨_, h3⟩
      · exact lu (.inr (.inr (.inr ⟨g, b', bs, lim, h4, hm, hle⟩))) (hnotrow h4 (Or.inr hm) h3)
      · exact .inr (.inr (.inr ⟨_, b', bs, lim, h3, hm, hle⟩))
  have hback : ∀ v a, aA (ao (cY C G w gs os) G1 (b0.length + k) w') v a → aA (ao C G2 (b0.length + k + st.gen) w') v (back gs st.gen a) := by
    intro v a hr
    refine aA.back (E := ao (cY C G w gs os) G1 (b0.length + k) w') (E2 := ao C G2 (b0.length + k + st.gen) w') (fun b o u hu hn => ⟨hu, fun hp => hn (hpv2 hp)⟩) (fun g r hg hr' => ?_) (by simp [ao]) (fun i g b hi hb1 => ?_) rfl hr
    · have hr2 : own2 (g + st.gen) = some r := hr'
      rcases old2 hr2 with ⟨h3, _⟩ | ⟨_, h3⟩
      · omega
      · rw [Nat.add_sub_cancel] at h3
        exact h3
    · obtain ⟨c, h2, _⟩ := hget i g hi
      obtain ⟨b', _, _, h4, _⟩ := h.box _ c h2
      have h5 := hG1 hi h4
      have h6 : G1.box i = some b := hb1
      rw [h5] at h6
      simp only [Option.some.injEq] at h6
      subst h6
      have := (h.gbox g b' h4).1
      exact ⟨by simp only [ao]; omega, h4⟩
  have hle : (ao C G st.gen w).le (ao C G2 (b0.length + k + st.gen) w') := by
    refine gf h.fr hfr (fun b o u hu hn => ⟨?_, fun hp => ?_⟩) (fun _ _ h => h) (fun g r hg hr => ?_) (by omega) (fun g b len cap sz pub hg hr => ?_) (fun g b bs hg hr => ?_) h1.fr.ty
    · by_cases hl : ea G gs b ∨ ∃ lim, de G os b lim
      · rcases hl with ⟨g, _, hg⟩ | ⟨lim, hl⟩
        · exact absurd (.inr (.inl ⟨g, hg⟩)) hn
        · refine h1.fr.cells b o u ⟨lim, hl, ?_⟩ hu
          obtain ⟨g, _, r, hg, hra⟩ := hl
          exact Nat.lt_of_not_le fun hle => hn (h.vD hg hra hu hle)
      · rw [bp (hstay (cv hu) hl)]
        exact hu
    · rcases hp with hp | ⟨g, hp⟩ | ⟨g, len, cap, sz, pub, hp, hle⟩ | ⟨g, b', bs, lim0, hp, hm, hle⟩
      · exact hn (.inl hp)
      · exact hn (.inr (.inl ⟨g, hp⟩))
      · rcases old2 hp with ⟨_, _, h4⟩ | ⟨_, h3⟩
        · exact hn (.inr (.inr (.inl ⟨g, len, cap, sz, pub, h4, hle⟩)))
        · have hlt := cv hu
          rcases (hnew h3 ⟨rfl, rfl⟩).2.2 with h5 | ⟨lim, hl, hlim⟩
          · omega
          · obtain ⟨g0, _, r0, hg0, hra⟩ := hl
            exact hn (h.vD hg0 hra hu (by omega))
      · rcases old2 hp with ⟨_, _, h4⟩ | ⟨_, h3⟩
        · exact hn (.inr (.inr (.inr ⟨g, b', bs, lim0, h4, hm, hle⟩)))
        · have hlt := cv hu
          rcases (hnew h3 (Or.inr hm)).2.2 with h5 | ⟨lim, hl, hlim⟩
          · omega
          · obtain ⟨g0, _, r0, hg0, hra⟩ := hl
            exact hn (h.vD hg0 hra hu (by omega))
    · have hr2 : own2 g = some r := hr
      rcases old2 hr2 with ⟨_, _, h3⟩ | ⟨h3, _⟩
      · exact h3
      · omega
    · have hr2 : own2 g = some (.blk b len cap sz pub) := hr
      rcases old2 hr2 with ⟨_, h3, h4⟩ | ⟨h3, _⟩
      · exact hstay (h.rowAt h4 ⟨rfl, rfl⟩).2.2.1 (hnotrow h4 ⟨rfl, rfl⟩ h3)
      · omega
    · have hr2 : own2 g = some (.mp b bs) := hr
      rcases old2 hr2 with ⟨_, h3, h4⟩ | ⟨h3, _⟩
      · exact ⟨hstay (h.rowAt h4 (Or.inl ⟨rfl, rfl⟩)).2.2.1 (hnotrow h4 (Or.inl ⟨rfl, rfl⟩) h3), fun p hp => hstay (h.rowAt (lim := p.2) h4 (Or.inr hp)).2.2.1 (hnotrow (lim := p.2) h4 (Or.inr hp) h3)⟩
      · omega
  refine ⟨G2, hback, { size := h.size, frame := h.ck hle, inj := h.inj, xold := h.xold, kold := h.kold, lent := h.lent, fr := hfr, gcell := fun g b hb' => jn h1.fr.ty (h.gcell g b hb'), box := ?_, gbox := ?_, live := ?_, gown := ?_, row := ?_, mrow := ?_, sub := ?_ }⟩
  · intro g cells hc
    by_cases hg : g ∈ gs
    · have hz : ∃ c, ak (fk gs st.gen gs b1) g = some c := by
        clear hback hle hpv2
        have : ∀ (r : List Nat) (l : List (List A)), l.length = r.length → g ∈ r → ∃ c, ak (fk gs st.gen r l) g = some c := by
          intro r
          induction r with
          | nil => intro l _ hm; cases hm
          | cons x r ih =>
            intro l hl hm
            cases l with
            | nil => simp at hl
            | cons c l =>
              simp only [fk, bt]
              by_cases e : x = g
              · rw [if_pos e]; exact ⟨_, rfl⟩
              · rw [if_neg e]
                exact ih l (by simpa using hl) ((List.mem_cons.1 hm).resolve_left (fun h => e h.symm))
        exact this gs b1 (by omega) hg
      obtain ⟨c, hz⟩ := hz
      have hcc : c = cells := by
        rcases iz hc with h2 | h2
        · rw [h2] at hz; exact (Option.some.inj hz).symm
        · have : ak (fk gs st.gen gs b1 ++ st.bx) g = some c := by
            clear hc hback hle
            revert hz
            generalize fk gs st.gen gs b1 = z
            intro hz
            induction z with
            | nil => simp [ak] at hz
            | cons x z ih =>
              obtain ⟨s, y⟩ := x
              rw [bt] at hz
              rw [List.cons_append, bt]
              split
              · rename_i e; rw [if_pos e] at hz; exact hz
              · rename_i e; rw [if_neg e] at hz; exact ih hz
          rw [this] at hc
          exact Option.some.inj hc
      subst hcc
      obtain ⟨i, c0, h2, h3, rfl⟩ := kD hz
      obtain ⟨b, cs, T, h4, h5, h6, h7, h8⟩ := h1.box i c0 (by have := oN b1 0 i c0 h3; simpa using this)
      obtain ⟨c2, h9, _⟩ := hget i g h2
      obtain ⟨b', _, _, h10, _⟩ := h.box g c2 h9
      have e : b' = b := by
        have := hG1 h2 h10
        rw [h4] at this
        exact (Option.some.inj this).symm
      subst e
      refine ⟨b', cs, T, h10, h5, by rw [eK, List.length_map]; exact h6, h7, fun j u a hu ha => ?_⟩
      rw [eK, List.getElem?_map, Option.map_eq_some_iff] at ha
      obtain ⟨y, hy, rfl⟩ := ha
      exact hback u y (h8 j u y hu hy)
    · have hc2 : ak st.bx g = some cells := by
        rcases iz hc with h2 | h2
        · obtain ⟨i, c0, h3, _⟩ := kD h2
          exact absurd (List.mem_of_getElem? h3) hg
        · exact h2
      obtain ⟨b, cs, T, h4, h5, h6, h7, h8⟩ := h.box g cells hc2
      refine ⟨b, cs, T, h4, by rw [hstay (Array.getElem?_eq_some_iff.1 h5).1 (hnotbox h4 hg)]; exact h5, h6, h7, fun j u a hu ha => (h8 j u a hu ha).mono hle⟩
  · intro g b hgb
    obtain ⟨h2, h3, h4⟩ := h.gbox g b hgb
    exact ⟨by simp only; omega, Nat.lt_of_lt_of_le h3 h1.fr.size, h4⟩
  · intro g hg
    rcases List.mem_append.1 hg with hg | hg
    · obtain ⟨j, hj, rfl⟩ := List.mem_map.1 hg
      obtain ⟨r, hr⟩ := h1.live (b0.length + j) (List.mem_map.2 ⟨j, hj, rfl⟩)
      refine ⟨r, ?_⟩
      simp only [G2, own2]
      rw [if_neg (by omega), Nat.add_sub_cancel]
      exact hr
    · obtain ⟨h2, h3⟩ := List.mem_filter.1 hg
      obtain ⟨r, hr⟩ := h.live g h2
      refine ⟨r, ?_⟩
      simp only [G2, own2]
      rw [if_pos (h.gown g r hr), if_neg (by cases e : os.any (Nat.beq g) with | true => rw [e] at h3; cases h3 | false => simp)]
      exact hr
  · intro g r hr
    rcases old2 hr with ⟨h2, _⟩ | ⟨h2, h3⟩
    · simp only; omega
    · have := h1.gown _ r h3
      simp only at this ⊢
      omega
  · intro g b len cap sz pub hr
    rcases old2 hr with ⟨h2, h3, h4⟩ | ⟨h2, h3⟩
    · obtain ⟨h5, h6, h7, cur, T, h8, h9⟩ := h.row g b len cap sz pub h4
      refine ⟨h5, h6, fun g' len' cap' sz' pub' hr' => ?_, cur, T, by rw [hstay (Array.getElem?_eq_some_iff.1 h8).1 (hnotrow h4 ⟨rfl, rfl⟩ h3)]; exact h8, h9⟩
      rcases old2 hr' with ⟨_, _, h10⟩ | ⟨_, h10⟩
      · exact h7 g' len' cap' sz' pub' h10
      · rcases (hnew h10 ⟨rfl, rfl⟩).2.2 with h11 | ⟨lim, h11, _⟩
        · have := (Array.getElem?_eq_some_iff.1 h8).1
          omega
        · exact absurd (.inr ⟨lim, h11⟩) (hnotrow h4 ⟨rfl, rfl⟩ h3)
    · obtain ⟨h5, h6, h7, h8⟩ := h1.row _ b len cap sz pub h3
      refine ⟨(hnew h3 ⟨rfl, rfl⟩).1, (hnew h3 ⟨rfl, rfl⟩).2.1, fun g' len' cap' sz' pub' hr' => ?_, h8⟩
      rcases old2 hr' with ⟨_, h10, h12⟩ | ⟨_, h10⟩
      · rcases (hnew h3 ⟨rfl, rfl⟩).2.2 with h11 | ⟨lim, h11, _⟩
        · have := (h.rowAt h12 ⟨rfl, rfl⟩).2.2.1
          omega
        · exact absurd (.inr ⟨lim, h11⟩) (hnotrow h12 ⟨rfl, rfl⟩ h10)
      · have := h7 _ len' cap' sz' pub' h10
        omega
  · intro g b bs hr
    rcases old2 hr with ⟨h2, h3, h4⟩ | ⟨h2, h3⟩
    · obtain ⟨h5, h6, h7, me, clock, h8⟩ := h.mrow g b bs h4
      have hnr := hnotrow h4 (Or.inl ⟨rfl, rfl⟩) h3
      refine ⟨h5, h6, fun g' bs' hr' => ?_, me, clock, by rw [hstay (Array.getElem?_eq_some_iff.1 h8).1 hnr]; exact h8⟩
      rcases old2 hr' with ⟨_, _, h10⟩ | ⟨_, h10⟩
      · exact h7 g' bs' h10
      · rcases (hnew h10 (Or.inl ⟨rfl, rfl⟩)).2.2 with h11 | ⟨lim, h11, _⟩
        · have := (Array.getElem?_eq_some_iff.1 h8).1
          omega
        · exact absurd (.inr ⟨lim, h11⟩) hnr
    · obtain ⟨h5, h6, h7, h8⟩ := h1.mrow _ b bs h3
      have hn := hnew h3 (Or.inl ⟨rfl, rfl⟩)
      refine ⟨hn.1, hn.2.1, fun g' bs' hr' => ?_, h8⟩
      rcases old2 hr' with ⟨_, h10, h12⟩ | ⟨_, h10⟩
      · rcases hn.2.2 with h11 | ⟨lim, h11, _⟩
        · have := (h.rowAt h12 (Or.inl ⟨rfl, rfl⟩)).2.2.1
          omega
        · exact absurd (.inr ⟨lim, h11⟩) (hnotrow h12 (Or.inl ⟨rfl, rfl⟩) h10)
      · have := h7 _ _ h10
        omega
  · intro g b bs c lim hr hm
    rcases old2 hr with ⟨h2, h3, h4⟩ | ⟨h2, h3⟩
    · obtain ⟨h5, h6, h7, h8, cur, T, h9, h10⟩ := h.sub g b bs c lim h4 hm
      have hcl := (Array.getElem?_eq_some_iff.1 h9).1
      have hnr := hnotrow h4 (Or.inr hm) h3
      refine ⟨h5, h6, fun g' len cap sz pub hr' => ?_, fun g' b' bs' lim' hr' hm' => ?_, cur, T, by rw [hstay hcl hnr]; exact h9, h10⟩
      · rcases old2 hr' with ⟨_, _, h11⟩ | ⟨_, h11⟩
        · exact h7 g' _ _ _ _ h11
        · rcases (hnew h11 ⟨rfl, rfl⟩).2.2 with h12 | ⟨lim2, h12, _⟩
          · omega
          · exact hnr (.inr ⟨lim2, h12⟩)
      · rcases old2 hr' with ⟨_, _, h11⟩ | ⟨_, h11⟩
        · exact h8 g' _ _ _ h11 hm'
        · rcases (hnew h11 (Or.inr hm')).2.2 with h12 | ⟨lim2, h12, _⟩
          · omega
          · exact absurd (.inr ⟨lim2, h12⟩) hnr
    · obtain ⟨h5, h6, h7, h8, h9⟩ := h1.sub _ b bs c lim h3 hm
      have hn := hnew h3 (Or.inr hm)
      refine ⟨hn.1, hn.2.1, fun g' len cap sz pub hr' => ?_, fun g' b' bs' lim' hr' hm' => ?_, h9⟩
      · rcases old2 hr' with ⟨_, h10, h12⟩ | ⟨_, h10⟩
        · rcases hn.2.2 with h11 | ⟨lim2, h11, _⟩
          · have := (h.rowAt h12 ⟨rfl, rfl⟩).2.2.1
            omega
          · exact absurd (.inr ⟨lim2, h11⟩) (hnotrow h12 ⟨rfl, rfl⟩ h10)
        · exact h7 _ _ _ _ _ h10
      · rcases old2 hr' with ⟨_, h10, h12⟩ | ⟨_, h10⟩
        · rcases hn.2.2 with h11 | ⟨lim2, h11, _⟩
          · have := (h.rowAt h12 (Or.inr hm')).2.2.1
            omega
          · exact absurd (.inr ⟨lim2, h11⟩) (hnotrow h12 (Or.inr hm') h10)
        · have := h8 _ _ _ _ h10 hm'
          omega
theorem WO.fP [Met P] [GC P C] (hg : o.guard = none) (hd : cZ n o.dst = true) {x : Operand} {xs : Array Operand} {tys : Array TypeId} (ho : o.op = .call ⟨.value x, xs, tys⟩) {fid : FuncId} {caps as' : List A} (hx : av st.f x = some (.clo fid caps))
    (hxs : iH st.f xs.toList = some as') (gs os : List Nat) (hgs : nodupB gs = true) (hos : nodupB os = true) (hov : (os.all fun g => st.lv.any fun h => Nat.beq h g) = true) {args : List A} {b0 b1 : List (List A)} {r : A} {m k : Nat}
    (hf : b9 P fid args b0 m r b1 k) (harg : (as' ++ caps).map (cM st.bx gs os 5) = args) (hb : fO st.bx gs os gs = some b0) (hm : os.length = m)
    (h : WO P C n ops Q rest (St.put ⟨st.f, fk gs st.gen gs b1 ++ st.bx, (List.range k).map (b0.length + · + st.gen) ++ st.lv.filter (fun g => !os.any (Nat.beq g)), b0.length + k + st.gen⟩ o.dst (back gs st.gen r))) : WO P C n ops Q (o :: rest) st := by
  subst hm
  subst harg
  refine WO.step hg fun tmps w ⟨G, hs⟩ => ?_
  obtain ⟨fn, hfn, hname, hbody⟩ := hf.ok
  have hr := hs.av hx
  generalize hv : Act.eval ⟨tmps, []⟩ x = v at hr
  cases hr with
  | clo _ vs _ hsz hcd =>
  obtain ⟨h1, h2⟩ := gd hs xs.toList as' hxs
  have hrun : (execOp (Act.eval ⟨tmps, []⟩) o).run P w = .ok (.enter fid (xs.map (Act.eval ⟨tmps, []⟩) ++ vs)) w := by
    unfold execOp
    rw [ho]
    show Sem.run P (do let d ← resolve (Act.eval ⟨tmps, []⟩) ⟨.value x, xs, tys⟩ o.type; invoke d.target d.args) w = _
    simp only [resolve, hv, Deferred.ofValue, Sem.run_bind, Sem.run_pure, Result.andThen_ok, invoke, callFunc, run_program, hfn, hname, hbody, Bool.false_eq_true, if_false, Array.empty_append]
  obtain ⟨hlen, hent⟩ := hs.nG (gs := gs) (os := os) (ee hgs) (ee hos) (fun g hg => by
    obtain ⟨y, hy, he⟩ := List.any_eq_true.1 (List.all_eq_true.1 hov g hg)
    exact Nat.eq_of_beq_eq_true he ▸ hy) hb
  have hbl := (fL hb).1
  unfold cG
  have hrun' : (execOp (Act.eval { tmps := tmps, defers := [] }) o).run P w = .ok (.enter fid (xs.map (Act.eval ⟨tmps, []⟩) ++ vs)) w := hrun
  rw [hrun']
  refine (hf.calls (cY C G w gs os) (eg G gs os) _ w (GC.tV hs) rfl hlen rfl (vh rfl) hent (by simp at h1; simp [hsz, h1]) (fun i u a hu ha => ?_)).mono fun e w' ⟨v, G', he, h3, h4⟩ => ?_
  · simp only [List.getElem?_map, Option.map_eq_some_iff] at ha
    obtain ⟨y, hy, rfl⟩ := ha
    refine aA.nG hs gs os (by omega) 5 u y ?_
    simp only [Array.getElem?_append] at hu
    split at hu
    · rename_i hlt
      simp only [Array.size_map] at hlt
      have hlt' : i < as'.length := by simp at h1; omega
      rw [List.getElem?_append_left hlt'] at hy
      obtain ⟨z, hz, hzr⟩ := h2 i y hy
      simp only [Array.getElem?_map, Option.map_eq_some_iff] at hu
      obtain ⟨z', hz', rfl⟩ := hu
      have : z = z' := by simp at hz; rw [hz'] at hz; exact (Option.some.inj hz).symm
      subst this
      exact hzr
    · rename_i hge
      simp only [Array.size_map] at hge hu
      have hge' : as'.length ≤ i := by simp at h1; omega
      rw [List.getElem?_append_right hge'] at hy
      refine hcd (i - xs.size) u y hu ?_
      have : xs.size = as'.length := by simpa using h1
      rw [this]
      exact hy
  · obtain ⟨G2, hbk, hs2⟩ := hs.ug hb hf.len h3
    exact ⟨v, he, _, ⟨G2, hs2.put (bL hd) (hbk v r h4)⟩, h⟩
end
end Go.Ab
namespace Go.Ab
open Go.RowKit
section
variable {P : Program} {C : Ctx} {n : Nat} {ops : Array Oper} {Q : Exit → St → Prop} {rest : List Oper} {c : Code}
variable {f : List (Nat × A)} {bx : List (Nat × List A)} {lv : List Nat} {gen : Nat} {d : Nat} {op : Op} {ty : TypeId} {pos : String} {af : Array Edge} {a : A} {dst : Option Nat}
theorem ar.wJ {st : St} {G : Gh} {tmps : Array Value} {w : World} (h : ar C n st G tmps w) {g : Nat} {cells cells' : List A} (hb : ak st.bx g = some cells) (hl : cells'.length = cells.length)
    (hr : ∀ (i : Nat) (u : Value) (a a' : A), cells[i]? = some a → cells'[i]? = some a' → aA (ao C G st.gen w) u a → aA (ao C G st.gen w) u a') : ar C n { st with bx := (g, cells') :: st.bx } G tmps w := by
  refine { h with box := fun g' c hc => ?_ }
  simp only [bt] at hc
  split at hc
  · rename_i e
    subst e
    simp only [Option.some.injEq] at hc
    subst hc
    obtain ⟨b, cs, T, h1, h2, h3, h4, h5⟩ := h.box g cells hb
    refine ⟨b, cs, T, h1, h2, by omega, h4, fun i u a hu ha => ?_⟩
    have hlt : i < cells.length := by rw [← hl]; exact (List.getElem?_eq_some_iff.1 ha).1
    exact hr i u cells[i] a (by simp [hlt]) ha (h5 i u cells[i] hu (by simp [hlt]))
  · exact h.box g' c hc
def isNil : A → Bool
  | .d (.v (.slice none 0 0)) => true
  | _ => false
theorem uY {a : A} (h : isNil a = true) : a = .d (.v (.slice none 0 0)) := by
  unfold isNil at h
  split at h
  · rfl
  · cases h
theorem dE.dy {st : St} {tmps : Array Value} {w : World} (h : dE C n st tmps w) {g j : Nat} {cells : List A} (hb : ak st.bx g = some cells) (hj : cells[j]? = some (.d (.v (.slice none 0 0)))) :
    dE C n ⟨st.f, (g, cells.set j (.own st.gen [])) :: st.bx, st.gen :: st.lv, st.gen + 1⟩ tmps w := by
  obtain ⟨G, h⟩ := h
  obtain ⟨⟨G', _, hs, hv⟩⟩ := h.jy false st.lv (fun _ h => h)
  refine ⟨G', ar.wJ (st := { st with lv := st.gen :: st.lv, gen := st.gen + 1 }) hs hb (by simp) (fun i u a a' ha ha' hr => ?_)⟩
  rw [List.getElem?_set] at ha'
  split at ha'
  · rename_i e
    subst e
    rw [hj] at ha
    simp only [Option.some.injEq] at ha
    subst ha
    split at ha'
    · simp only [Option.some.injEq] at ha'
      subst ha'
      cases hr with | d hr => cases hr; exact hv
    · cases ha'
  · rw [ha] at ha'
    simp only [Option.some.injEq] at ha'
    subst ha'
    exact hr
theorem dy (g j : Nat) {cells cells' : List A} (hb : ak bx g = some cells) (hj : cells[j]? = some (.d (.v (.slice none 0 0)))) (hc : cells.set j (.own gen []) = cells') (h : W P C n c Q ⟨f, (g, cells') :: bx, gen :: lv, gen + 1⟩) : W P C n c Q ⟨f, bx, lv, gen⟩ := by
  subst hc
  exact fun tmps w hs => h tmps w (hs.dy hb hj)
theorem fP [Met P] [GC P C] {x : Operand} {xs : Array Operand} {tys : Array TypeId} {fid : FuncId} {caps as' args : List A} {b0 b1 : List (List A)} {r : A} {m k : Nat} {r' : A} {bx' : List (Nat × List A)} {lv' : List Nat} {gen' : Nat} (gs os : List Nat) (hx : av f x = some (.clo fid caps)) (hxs : iH f xs.toList = some as')
    (harg : (as' ++ caps).map (cM bx gs os 5) = args) (hb : fO bx gs os gs = some b0) (hm : os.length = m) (hf : b9 P fid args b0 m r b1 k)
    (hgs : nodupB gs = true) (hos : nodupB os = true) (hov : (os.all fun g => lv.any fun h => Nat.beq h g) = true) (hd : Nat.blt d n = true)
    (hr : back gs gen r = r') (hbx : fk gs gen gs b1 ++ bx = bx') (hlv : (List.range k).map (b0.length + · + gen) ++ lv.filter (fun g => !os.any (Nat.beq g)) = lv') (hgen : b0.length + k + gen = gen')
    (h : WO P C n ops Q rest ⟨(d, r') :: f, bx', lv', gen'⟩) :
    WO P C n ops Q (⟨some d, .call ⟨.value x, xs, tys⟩, ty, pos, af, none⟩ :: rest) ⟨f, bx, lv, gen⟩ := by
  subst hr; subst hbx; subst hlv; subst hgen
  exact WO.fP (st := ⟨f, bx, lv, gen⟩) rfl hd rfl hx hxs gs os hgs hos hov hf harg hb hm h
def pH (order : List Nat) (bx : List (Nat × List A)) : Nat → List (List A) → Prop
  | _, [] => True
  | i, c :: r => (match ak bx i with | some c0 => some (dk order c0) | none => none) = some c ∧ pH order bx (i + 1) r
theorem pH.get {order : List Nat} {bx : List (Nat × List A)} : ∀ {l : List (List A)} {k : Nat}, pH order bx k l → ∀ (i : Nat) (c : List A), l[i]? = some c → ∃ c0, ak bx (k + i) = some c0 ∧ dk order c0 = c
  | [], _, _, i, c, h => by simp at h
  | b :: l, k, hh, i, c, h => by
    cases i with
    | zero =>
      simp at h
      subst h
      have := hh.1
      split at this
      · rename_i c0 hc0
        exact ⟨c0, hc0, Option.some.inj this⟩
      · cases this
    | succ i =>
      have := pH.get hh.2 i c (by simpa using h)
      rwa [Nat.add_assoc, Nat.add_comm 1 i] at this
theorem iE.end (T : bm P) {rs : List RV} {r : A} {b1 : List (List A)} {k : Nat} {e : Exit} {l : List A} (order : List Nat) (he : match e with | .normal => True | .ret => True | _ => False) (hl : gn T f bx rs = some l)
    (hk : order.length = k) (hnd : nodupB (cN b1.length order) = true) (hov : (order.all fun g => lv.any fun h => Nat.beq h g) = true) (hb : pH (cN b1.length order) bx 0 b1)
    (hr : aY (cN b1.length order) (aL l) = r) : iE T rs r b1 k e ⟨f, bx, lv, gen⟩ :=
  iE.ret (st := ⟨f, bx, lv, gen⟩) T order he hl hk hnd hov (fun i c hc => by have := hb.get i c hc; simpa using this) hr
end
end Go.Ab
namespace Go.Ab
open Go.RowKit
abbrev Bt := Nat → Option (List A)
def rL (β : Bt) : Option (Nat × List A) → Bt
  | some (g, c) => fun h => if h = g then some c else β h
  | none => β
def mQ (o : Oper) : Bool := match o.op with | .alloc _ => true | .box _ _ => true | _ => false
def zk (o : Oper) : Bool := match o.op with | .store _ _ _ => true | _ => false
def xU (o : Oper) : Option Nat := match o.op with | .store _ (.tmp d) _ => some d | _ => none
def fR : List Oper → Nat → Nat
  | [], _ => 0
  | _ :: _, 0 => 0
  | o :: r, i + 1 => (bif mQ o then 1 else 0) + fR r i
section
variable {P : Program} (T : bm P) {C : Ctx} {n : Nat} {bx : List (Nat × List A)} {lv : List Nat} {gen r : Nat} {ops : Array Oper} {md : Region.Mode} {m : Nat}
abbrev Sg := cw × Bt
structure nt (C : Ctx) (n : Nat) (bx : List (Nat × List A)) (lv : List Nat) (gen r : Nat) (σ : Sg) (G : Gh) (tmps : Array Value) (w : World) : Prop where
  s : ar C n ⟨[], bx, lv, gen + r⟩ G tmps w
  f : ∀ t a, σ.1 t = some a → ∃ v, tmps[t]? = some v ∧ aA (ao C G (gen + r) w) v a
  b : ∀ g cells, σ.2 g = some cells → gen ≤ g ∧ ∃ b cs T, G.box g = some b ∧ w.heap[b]? = some (.cells cs T (0, 0)) ∧ cs.size = cells.length ∧
    (∀ (i : Nat) (u : Value), cs[i]? = some u → u.oneCell' = true) ∧ ∀ (i : Nat) (u : Value) (a : A), cs[i]? = some u → cells[i]? = some a → aA (ao C G (gen + r) w) u a
  n : ∀ g, gen ≤ g → σ.2 g = none → G.box g = none
  o : ∀ g, gen ≤ g → ∀ c, ak bx g ≠ some c
theorem nt.step {σ : Sg} {G : Gh} {tmps : Array Value} {w w' : World} (h : nt C n bx lv gen r σ G tmps w) (hb : Below w.heap.size w w') {dst : Option Nat} (hd : cZ n dst = true) {v : Value} {a : A} (hr : aA (ao C G (gen + r) w') v a) :
    nt C n bx lv gen r (bu σ.1 dst a, σ.2) G (Act.put ⟨tmps, []⟩ dst v).tmps w' := by
  obtain ⟨hle, hs⟩ := h.s.fU hb
  have hbx : ∀ g cells, σ.2 g = some cells → gen ≤ g ∧ ∃ b cs T, G.box g = some b ∧ w'.heap[b]? = some (.cells cs T (0, 0)) ∧ cs.size = cells.length ∧
    (∀ (i : Nat) (u : Value), cs[i]? = some u → u.oneCell' = true) ∧ ∀ (i : Nat) (u : Value) (a : A), cs[i]? = some u → cells[i]? = some a → aA (ao C G (gen + r) w') u a := by
    intro g cells hg
    obtain ⟨h0, b, cs, T, h1, h2, h3, h4, h5⟩ := h.b g cells hg
    exact ⟨h0, b, cs, T, h1, by rw [hb.block b (h.s.gbox g b h1).2.1]; exact h2, h3, h4, fun i u a hu ha => (h5 i u a hu ha).mono hle⟩
  cases dst with
  | none => exact ⟨hs, fun t a ha => let ⟨v, h1, h2⟩ := h.f t a ha; ⟨v, h1, h2.mono hle⟩, hbx, h.n, h.o⟩
  | some d =>
    refine ⟨{ hs with size := by have := hs.size; simpa [Act.put] using this, frame := fun t a ha => by simp [look] at ha }, fun t b hb' => ?_, hbx, h.n, h.o⟩
    simp only [bu] at hb'
    split at hb'
    · rename_i e
      subst e
      simp only [Option.some.injEq] at hb'
      subst hb'
      exact ⟨v, by simp [Act.put, Array.getElem?_setIfInBounds, hs.size, bL hd], hr⟩
    · rename_i e
      obtain ⟨u, h1, h2⟩ := h.f t b hb'
      exact ⟨u, by simp only [Act.put]; rw [Array.getElem?_setIfInBounds_ne (Ne.symm e)]; exact h1, h2.mono hle⟩
theorem nt.store {σ : Sg} {G : Gh} {tmps : Array Value} {w : World} (h : nt C n bx lv gen r σ G tmps w) {g b : Nat} {cs cs' : Array Value} {T : TypeId} {cells cells' : List A} (hb : σ.2 g = some cells) (hg : G.box g = some b) (hw : w.heap[b]? = some (.cells cs T (0, 0)))
    (hr : bJ (ao C G (gen + r) w) cs' cells') : nt C n bx lv gen r (σ.1, rL σ.2 (some (g, cells'))) G tmps (w.setRow b cs') := by
  have hgg := (h.b g cells hb).1
  have hb' : w.heap[b]? ≠ none := by rw [hw]; simp
  have hm := (h.s.gbox g b hg).2.2
  have hfr : Fr C (w.setRow b cs') := ⟨h.s.fr.os, h.s.fr.tape, h.s.fr.output, by rw [size_setRow]; exact h.s.fr.size, fun b' h1 h2 => by
    rw [setRow_other w b b' cs' (fun e => by subst e; exact hm.1.elim (fun hm => by omega) h2)]; exact h.s.fr.block b' h1 h2, fun b' o u hk hu => by
    rw [bp (setRow_other w b b' cs' (fun e => by subst e; exact absurd (hm.2 o hk) (Nat.not_lt_zero _)))]; exact h.s.fr.cells b' o u hk hu, h.s.fr.ty.trans (.setRow w b cs')⟩
  have hle : (ao C G (gen + r) w).le (ao C G (gen + r) (w.setRow b cs')) := by
    refine gf (st := ⟨[], bx, lv, gen + r⟩) h.s.fr hfr (fun b' o u hu hn => ⟨?_, hn⟩) (fun _ _ h => h) (fun _ _ _ h => h) (Nat.le_refl _) (fun g' b' len cap sz pub _ hr => ?_) (fun g' b' bs _ hr => ⟨?_, fun p hp => ?_⟩) (.setRow w b cs')
    · have : b' ≠ b := fun e => hn (.inr (.inl ⟨g, by rw [e]; exact hg⟩))
      rw [bp (setRow_other w b b' cs' this)]
      exact hu
    · have : b' ≠ b := fun e => (h.s.row g' b' len cap sz pub hr).2.1 g (by rw [e]; exact hg)
      exact setRow_other w b b' cs' this
    · exact setRow_other w b b' cs' (fun e => (h.s.mrow g' b' bs hr).2.1 g (by rw [e]; exact hg))
    · exact setRow_other w b p.1 cs' (fun e => (h.s.sub g' b' bs p.1 p.2 hr hp).2.1 g (by rw [e]; exact hg))
  refine { s := { size := h.s.size, frame := fun t a ha => by simp [look] at ha, inj := h.s.inj, xold := h.s.xold, kold := h.s.kold, lent := h.s.lent, fr := hfr, live := h.s.live, gown := h.s.gown, box := fun g' c hc => ?_, gbox := fun g' b' hgb => ?_, row := fun g' b' len cap sz pub hgb => ?_, mrow := fun g' b' bs hr => ?_, sub := fun g' b' bs c lim hr hm => ?_, gcell := fun g' b' hb' => jn (.setRow w b cs') (h.s.gcell g' b' hb') }, f := fun t a ha => let ⟨v, h1, h2⟩ := h.f t a ha; ⟨v, h1, h2.mono hle⟩, b := fun g' c hc => ?_, n := fun g' hg' hn' => ?_, o := h.o }
  · obtain ⟨b', cs2, T', h1, h2, h3, h4, h5⟩ := h.s.box g' c hc
    by_cases e : b' = b
    · subst e
      have e2 := h.s.inj g' g b' h1 hg
      subst e2
      exact absurd hc (h.o g' hgg c)
    · exact ⟨b', cs2, T', h1, by rw [setRow_other w b b' cs' e]; exact h2, h3, h4, fun i u a hu ha => (h5 i u a hu ha).mono hle⟩
  · obtain ⟨h1, h2, h3⟩ := h.s.gbox g' b' hgb
    exact ⟨h1, by rw [size_setRow]; exact h2, h3⟩
  · obtain ⟨h1, h2, h3, cur, T', h4, h5⟩ := h.s.row g' b' len cap sz pub hgb
    have hne : b' ≠ b := fun e => h2 g (by rw [e]; exact hg)
    exact ⟨h1, h2, h3, cur, T', by rw [setRow_other w b b' cs' hne]; exact h4, h5⟩
  · obtain ⟨h1, h2, h3, me, clock, h4⟩ := h.s.mrow g' b' bs hr
    have hne : b' ≠ b := fun e => h2 g (by rw [e]; exact hg)
    exact ⟨h1, h2, h3, me, clock, by rw [setRow_other w b b' cs' hne]; exact h4⟩
  · obtain ⟨h1, h2, h3, h4, cur, T', h5, h6⟩ := h.s.sub g' b' bs c lim hr hm
    have hne : c ≠ b := fun e => h2 g (by rw [e]; exact hg)
    exact ⟨h1, h2, h3, h4, cur, T', by rw [setRow_other w b c cs' hne]; exact h5, h6⟩
  · simp only [rL] at hc
    split at hc
    · rename_i e
      subst e
      simp only [Option.some.injEq] at hc
      subst hc
      exact ⟨hgg, b, cs', T, hg, setRow_heap w b cs cs' T (0, 0) hw, hr.1, hr.2.1, fun i u a hu ha => (hr.2.2 i u a hu ha).mono hle⟩
    · rename_i e
      obtain ⟨h0, b', cs2, T', h1, h2, h3, h4, h5⟩ := h.b g' c hc
      have hne : b' ≠ b := fun e' => e (h.s.inj g' g b (e' ▸ h1) hg)
      exact ⟨h0, b', cs2, T', h1, by rw [setRow_other w b b' cs' hne]; exact h2, h3, h4, fun i u a hu ha => (h5 i u a hu ha).mono hle⟩
  · simp only [rL] at hn'
    split at hn'
    · cases hn'
    · exact h.n g' hg' hn'
def YE (P : Program) (T : bm P) (C : Ctx) (n : Nat) (bx : List (Nat × List A)) (lv : List Nat) (gen r : Nat) (ops : Array Oper) (i : Nat) (o : Oper) (a : A) (u : Option (Nat × List A)) (σ : Sg) : Prop :=
  cZ n o.dst = true ∧
    ((mQ o = false ∧ u = none ∧ YA P C n bx lv (gen + r) ops o a σ.1) ∨
     (mQ o = true ∧ o.guard = none ∧ σ.2 (gen + fR ops.toList i) = none ∧ fR ops.toList i < r ∧ a = .ptr (gen + fR ops.toList i) 0 ∧ ∃ d cells, o.dst = some d ∧ u = some (gen + fR ops.toList i, cells) ∧
        ((∃ e dt, o.op = .alloc e ∧ ak T.l e = some dt ∧ cells = dt.z.map fun v => A.d (.v v)) ∨
         (∃ e x f y, o.op = .box e x ∧ (∀ t z, look f t = some z → σ.1 t = some z ∧ t ∈ o.looksAt ops) ∧ av f x = some y ∧ cellsOf bx y = some cells))) ∨
     (zk o = true ∧ o.guard = none ∧ o.dst = none ∧ a = .any ∧ ∃ t dx y k ok f z cells cs, o.op = .store t (.tmp dx) y ∧ ops[k]? = some ok ∧ mQ ok = true ∧ ok.dst = some dx ∧ (∀ t z, look f t = some z → σ.1 t = some z ∧ t ∈ o.looksAt ops) ∧
        σ.1 dx = some (.ptr (gen + fR ops.toList k) 0) ∧ av f y = some z ∧ cellsOf bx z = some cs ∧ cc T t = cs.length ∧ cs.length ≠ 0 ∧ cs.length ≤ cells.length ∧ σ.2 (gen + fR ops.toList k) = some cells ∧
        u = some (gen + fR ops.toList k, setAt cells 0 cs)))
theorem tH {dx : Nat} {t : TypeId} {y : Operand} {o : Oper} (h : o.op = .store t (.tmp dx) y) : dx ∈ o.looksAt ops := by
  unfold Oper.looksAt
  rw [h]
  exact List.mem_append.2 (.inl (by simp [Op.operands]))
section
variable {T}
theorem YE.name {i : Nat} {o : Oper} {a : A} {g : Nat} {c : List A} {σ : Sg} (hi : ops[i]? = some o) (h : YE P T C n bx lv gen r ops i o a (some (g, c)) σ) :
    ∃ k ok dx, ops[k]? = some ok ∧ mQ ok = true ∧ ok.dst = some dx ∧ g = gen + fR ops.toList k ∧ ((k = i) ∨ (xU o = some dx ∧ dx ∈ o.looksAt ops)) := by
  rcases h with ⟨_, ⟨_, h, _⟩ | ⟨h1, _, _, _, _, d, cells, h2, h3, _⟩ | ⟨h1, _, _, _, t, dx, y, k, ok, f, z, cells, cs, h2, h3, h4, h5, _, _, _, _, _, _, _, _, h6⟩⟩
  · cases h
  · simp only [Option.some.injEq, Prod.mk.injEq] at h3
    exact ⟨i, o, d, hi, h1, h2, h3.1, .inl rfl⟩
  · simp only [Option.some.injEq, Prod.mk.injEq] at h6
    exact ⟨k, ok, dx, h3, h4, h5, h6.1, .inr ⟨by unfold xU; rw [h2], tH h2⟩⟩
theorem jR {φ : cw} {o : Oper} {dst : Option Nat} {x : A} (hd : ∀ d, dst = some d → d ∉ o.looksAt ops) {t : Nat} (ht : t ∈ o.looksAt ops) : bu φ dst x t = φ t := by
  cases dst with
  | none => rfl
  | some e =>
    have : t ≠ e := fun h => by subst h; exact hd t rfl ht
    simp [bu, this]
end
def Split (m : Nat) (ops : Array Oper) (listed : Array Bool) : Prop := listed.size = ops.size ∧ (∀ j, j < m → listed.getD j false = true) ∧ ∀ j, m ≤ j → j < ops.size → listed.getD j true = false
def bX (md : Region.Mode) (ops : Array Oper) (j i : Nat) : Bool :=
  match ops[j]? with
  | some o => o.after.toList.any fun e => Nat.beq e.on i && Region.binds md e
  | none => false
theorem kW {j i : Nat} {oj : Oper} (hj : ops[j]? = some oj) (h : bX md ops j i = true) : ∃ e ∈ oj.after, Region.binds md e = true ∧ e.on = i := by
  unfold bX at h
  rw [hj] at h
  obtain ⟨e, he, hb⟩ := List.any_eq_true.1 h
  simp only [Bool.and_eq_true] at hb
  exact ⟨e, by simpa using he, hb.2, Nat.eq_of_beq_eq_true hb.1⟩
theorem eN {listed : Array Bool} {i : Nat} (h : listed.getD i true = false) : listed.getD i false = false := by
  rcases Nat.lt_or_ge i listed.size with h' | h'
  · simp [h'] at h ⊢; exact h
  · simp [Array.getElem?_eq_none h'] at h
def zb (P : Program) (T : bm P) (C : Ctx) (n : Nat) (bx : List (Nat × List A)) (lv : List Nat) (gen r : Nat) (ops : Array Oper) (Q : Sg → Prop) : List Oper → Nat → Sg → Prop
  | [], _, σ => Q σ
  | o :: rest, i, σ => ∃ a u, YE P T C n bx lv gen r ops i o a u σ ∧ zb P T C n bx lv gen r ops Q rest (i + 1) (bu σ.1 o.dst a, rL σ.2 u)
def nS (md : Region.Mode) (ops : Array Oper) : Nat → Nat → Array Bool → Bool
  | 0, _, _ => true
  | t + 1, k, listed => (Region.ready md ops listed).contains k && Region.free md ops listed k && nS md ops t (k + 1) (listed.setIfInBounds k true)
def wA (md : Region.Mode) (ops : Array Oper) (m : Nat) : Bool := (List.range ops.size).all fun k => decide (k < m) || match ops[k]? with | some o => o.after.toList.all fun e => !Region.binds md e || decide (e.on < k) | none => true
theorem nh (h : wA md ops m = true) : ∀ k, m ≤ k → ∀ o, ops[k]? = some o → ∀ e ∈ o.after, Region.binds md e = true → e.on < k := by
  intro k hm o ho e he hb
  have hlt := (Array.getElem?_eq_some_iff.1 ho).1
  have h1 := List.all_eq_true.1 h k (by simpa using hlt)
  simp only [Bool.or_eq_true, decide_eq_true_eq] at h1
  have h2 := h1.resolve_left (by omega)
  rw [ho] at h2
  have h3 := List.all_eq_true.1 h2 e (by simpa using he)
  simp only [Bool.or_eq_true, Bool.not_eq_true', decide_eq_true_eq] at h3
  rcases h3 with h3 | h3
  · rw [hb] at h3; cases h3
  · exact h3
def CE (P : Program) (T : bm P) (C : Ctx) (n : Nat) (bx : List (Nat × List A)) (lv : List Nat) (gen r : Nat) (ops : Array Oper) (Q : St → Prop) (l : List Oper) (i : Nat) (f : List (Nat × A)) (bn : List (Nat × List A)) : Prop :=
  zb P T C n bx lv gen r ops (fun σ => ∃ f' bn', (∀ t, look f' t = σ.1 t) ∧ (∀ g, ak bn' g = σ.2 g) ∧ Q ⟨f', bn' ++ bx, lv, gen + r⟩) l i (look f, ak bn)
variable {T}
variable {op : Op} {ty : TypeId} {pos : String} {af : Array Edge} {a : A} {d i : Nat} {rest : List Oper} {f : List (Nat × A)} {bn : List (Nat × List A)} {Q : St → Prop}
theorem CE.nil (h : Q ⟨f, bn ++ bx, lv, gen + r⟩) : CE P T C n bx lv gen r ops Q [] i f bn := ⟨f, bn, fun _ => rfl, fun _ => rfl, h⟩
end
end Go.Ab
namespace Go.Ab
open Go.RowKit
section
variable {P : Program} (T : bm P) {C : Ctx} {n : Nat} {ops : Array Oper} {Q : Exit → St → Prop} {rest : List Oper} {c : Code}
variable {f : List (Nat × A)} {bx : List (Nat × List A)} {lv : List Nat} {gen d : Nat} {ty : TypeId} {pos : String} {af : Array Edge} {a : A} {dst : Option Nat}
theorem v8 {t t' : Nat} {x y : Operand} {k : IntKind} {p q : Int} (hx : av f x = some (.d (.v (.int k p)))) (hy : av f y = some (.d (.v (.int k q)))) (hq : q ≠ 0) (ho : bK (.int k (p.tmod q)) = true) :
    Pu P C n ⟨f, bx, lv, gen⟩ ⟨dst, .binOp .rem t x y t', ty, pos, af, none⟩ (.d (.v (.int k (p.tmod q)))) := by
  refine cA.pu fun G tmps w hs => ?_
  have hrx := hs.av hx
  have hry := hs.av hy
  generalize hvx : Act.eval ⟨tmps, []⟩ x = vx at hrx
  generalize hvy : Act.eval ⟨tmps, []⟩ y = vy at hry
  cases hrx with | d hrx => cases hrx with | v _ _ =>
  cases hry with | d hry => cases hry with | v _ _ =>
  refine ⟨_, ?_, .d (.v _ ho)⟩
  unfold execOp
  show Sem.run P _ w = _
  simp [hvx, hvy, eqGuard, binOp, Op.intDiv, hq]
  rfl
theorem zt {t t' : Nat} {x y : Operand} {k : IntKind} {p q : Int} (hx : av f x = some (.d (.v (.int k p)))) (hy : av f y = some (.d (.v (.int k q)))) (hq : q ≠ 0) (ho : bK (.int k (k.wrap (p.tdiv q))) = true) :
    Pu P C n ⟨f, bx, lv, gen⟩ ⟨dst, .binOp .quo t x y t', ty, pos, af, none⟩ (.d (.v (.int k (k.wrap (p.tdiv q))))) := by
  refine cA.pu fun G tmps w hs => ?_
  have hrx := hs.av hx
  have hry := hs.av hy
  generalize hvx : Act.eval ⟨tmps, []⟩ x = vx at hrx
  generalize hvy : Act.eval ⟨tmps, []⟩ y = vy at hry
  cases hrx with | d hrx => cases hrx with | v _ _ =>
  cases hry with | d hry => cases hry with | v _ _ =>
  refine ⟨_, ?_, .d (.v _ ho)⟩
  unfold execOp
  show Sem.run P _ w = _
  simp [hvx, hvy, eqGuard, binOp, Op.intDiv, hq]
  rfl
theorem ky {t t' : Nat} {x y : Operand} {p q : ByteArray} (hx : av f x = some (.d (.v (.string p)))) (hy : av f y = some (.d (.v (.string q)))) (hb : p.size + q.size ≤ 9223372036854775807) :
    Pu P C n ⟨f, bx, lv, gen⟩ ⟨dst, .binOp .add t x y t', ty, pos, af, none⟩ (.d (.v (.string (p ++ q)))) := by
  refine cA.pu fun G tmps w hs => ?_
  have hrx := hs.av hx
  have hry := hs.av hy
  generalize hvx : Act.eval ⟨tmps, []⟩ x = vx at hrx
  generalize hvy : Act.eval ⟨tmps, []⟩ y = vy at hry
  cases hrx with | d hrx => cases hrx with | v _ _ =>
  cases hry with | d hry => cases hry with | v _ _ =>
  refine ⟨_, ?_, .d (.v _ ?_)⟩
  · unfold execOp
    show Sem.run P _ w = _
    have : ¬ ((p.size + q.size : Nat) : Int) > IntKind.i64.max := by simp [IntKind.max, IntKind.signed, IntKind.bits]; omega
    simp only [hvx, hvy, eqGuard, binOp, Op.stringOp, if_neg this]
    simp
    rfl
  · simp [bK, maxLen, ByteArray.size_append]
    omega
theorem ie {t : Nat} (hl : look f t = some (.d (.v (.slice none 0 0)))) (h : W P C n c Q ⟨(t, .d (.sl [])) :: f, bx, lv, gen⟩) : W P C n c Q ⟨f, bx, lv, gen⟩ := by
  intro tmps w ⟨G, hs⟩
  refine h tmps w ⟨G, { hs with frame := fun s b hb => ?_ }⟩
  simp only [aR] at hb
  split at hb
  · rename_i e
    subst e
    simp only [Option.some.injEq] at hb
    subst hb
    obtain ⟨v, hv, hr⟩ := hs.frame _ _ hl
    cases hr with | d hr => cases hr; exact ⟨_, hv, .d .nil⟩
  · exact hs.frame s b hb
end
end Go.Ab
namespace Go.Tb
open Go.Ab
abbrev ci (n : Int) : D := .v (.int .i64 n)
abbrev cs (s : ByteArray) : D := .v (.string s)
structure pT where
  kind : Int
  n : Int
  s : ByteArray
  deriving DecidableEq
@[reducible] def pT.c (x : pT) : List D := [ci x.kind, ci x.n, cs x.s]
structure qm where
  name : ByteArray
  type : Int
  deriving DecidableEq
@[reducible] def qm.c (x : qm) : List D := [cs x.name, ci x.type]
inductive Ex where
  | mk (op : Int) (name : ByteArray) (v : pT) (kids : List Ex)
def Ex.op : Ex → Int | .mk a _ _ _ => a
def Ex.name : Ex → ByteArray | .mk _ a _ _ => a
def Ex.v : Ex → pT | .mk _ _ a _ => a
def Ex.kids : Ex → List Ex | .mk _ _ _ a => a
mutual
def Ex.kc : Ex → List (List D)
  | .mk _ _ _ kids => Ex.mP kids
def Ex.mP : List Ex → List (List D)
  | [] => []
  | e :: r => [ci e.op, cs e.name, ci e.v.kind, ci e.v.n, cs e.v.s, .sl (Ex.kc e)] :: Ex.mP r
end
@[reducible] def Ex.c (e : Ex) : List D := [ci e.op, cs e.name, ci e.v.kind, ci e.v.n, cs e.v.s, .sl e.kc]
theorem Ex.kF : ∀ l, Ex.mP l = l.map Ex.c
  | [] => rfl
  | e :: r => by simp [Ex.mP, Ex.kF r]
theorem Ex.sh (e : Ex) : e.kc = e.kids.map Ex.c := by cases e; simp [Ex.kc, Ex.kids, Ex.kF]
theorem Ex.aJ (e : Ex) : e.kc.length = e.kids.length := by simp [Ex.sh]
theorem Ex.ind {p : Ex → Prop} (h : ∀ e, (∀ k ∈ e.kids, p k) → p e) : ∀ e, p e := by
  intro e
  induction hn : _root_.SizeOf.sizeOf e using Nat.strongRecOn generalizing e with
  | _ m ih =>
    subst hn
    refine h e fun k hk => ih (_root_.SizeOf.sizeOf k) ?_ k rfl
    cases e with
    | mk op name v kids =>
      have := List.sizeOf_lt_of_mem (show k ∈ kids from hk)
      simp; omega
structure wI where
  e : Ex
  name : ByteArray
@[reducible] def wI.c (x : wI) : List D := [ci x.e.op, cs x.e.name, ci x.e.v.kind, ci x.e.v.n, cs x.e.v.s, .sl x.e.kc, cs x.name]
structure wG where
  fn : ByteArray
  col : ByteArray
  name : ByteArray
@[reducible] def wG.c (x : wG) : List D := [cs x.fn, cs x.col, cs x.name]
structure wD where
  col : ByteArray
  desc : Bool
@[reducible] def wD.c (x : wD) : List D := [cs x.col, .v (.bool x.desc)]
@[reducible] def sc (s : ByteArray) : List D := [cs s]
structure wz where
  op : Int
  cond : Ex
  items : List wI
  cols : List ByteArray
  aggs : List wG
  sorts : List wD
  n : Int
  table : ByteArray
@[reducible] def wz.c (x : wz) : List D := [ci x.op, ci x.cond.op, cs x.cond.name, ci x.cond.v.kind, ci x.cond.v.n, cs x.cond.v.s, .sl x.cond.kc,
  .sl (x.items.map wI.c), .sl (x.cols.map sc), .sl (x.aggs.map wG.c), .sl (x.sorts.map wD.c), ci x.n, cs x.table]
structure yn where
  cols : List qm
  rows : List (List pT)
@[reducible] def rc (r : List pT) : List D := [.sl (r.map pT.c)]
@[reducible] def yn.c (x : yn) : List D := [.sl (x.cols.map qm.c), .sl (x.rows.map rc)]
structure zc where
  name : ByteArray
  table : yn
@[reducible] def zc.c (x : zc) : List D := [cs x.name, .sl (x.table.cols.map qm.c), .sl (x.table.rows.map rc)]
structure za where
  from_ : ByteArray
  steps : List wz
@[reducible] def za.c (x : za) : List D := [cs x.from_, .sl (x.steps.map wz.c)]
@[reducible] def ic (k : Int) : List D := [ci k]
/- ### typed data out of a reading -/
section
variable {P : Program} {T : bm P}
variable {tv tk ti ts tc tcs te teo tes : Nat} {o1 o2 o3 o4 o5 o6 o7 o8 : Nat} {n1 n2 n3 n4 n5 n6 n7 n8 : String} {l : List D}
theorem uZ (h : dr T ts l) (hk : cD T ts = .str) : ∃ n, l = [cs n] := let ⟨n, h, _⟩ := h.toStr hk; ⟨n, h⟩
end
end Go.Tb
namespace Go.Tb
open Go.Ab
def Still (caps : List A) : Prop := (∀ bx k, caps.map (conv bx (k + 2)) = caps) ∧ gy caps = true
def idx (o : Option Nat) : Int := match o with | some i => i | none => -1
theorem mX {α : Type} {l : List α} {p : α → Bool} : decide (0 ≤ idx (l.findIdx? p)) = l.any p := by
  cases h : l.findIdx? p with
  | none =>
    have := List.findIdx?_eq_none_iff.1 h
    simp only [idx]
    rw [Bool.eq_iff_iff]
    simp only [decide_eq_true_eq, List.any_eq_true]
    constructor
    · intro h; exact absurd h (by decide)
    · rintro ⟨x, hx, hp⟩; rw [this x hx] at hp; cases hp
  | some i =>
    obtain ⟨hi, hp, _⟩ := List.findIdx?_eq_some_iff_getElem.1 h
    simp only [idx]
    rw [Bool.eq_iff_iff]
    simp only [decide_eq_true_eq, List.any_eq_true]
    exact ⟨fun _ => ⟨_, List.getElem_mem hi, hp⟩, fun _ => decide_eq_true (Int.natCast_nonneg i)⟩
def ct {α : Type} (p : α → Bool) (l : List α) (k : Nat) : Prop := ∀ j x, j < k → l[j]? = some x → p x = false
theorem ct.zero {α : Type} {p : α → Bool} {l : List α} : ct p l 0 := fun _ _ h => by omega
theorem ct.step {α : Type} {p : α → Bool} {l : List α} {k : Nat} {x : α} (h : ct p l k) (hx : l[k]? = some x) (hp : p x = false) : ct p l (k + 1) := by
  intro j y hj hy
  rcases Nat.lt_succ_iff_lt_or_eq.1 hj with hlt | rfl
  · exact h j y hlt hy
  · rw [hx] at hy; simp only [Option.some.injEq] at hy; subst hy; exact hp
theorem ct.found {α : Type} {p : α → Bool} {l : List α} {k : Nat} {x : α} (h : ct p l k) (hx : l[k]? = some x) (hp : p x = true) : l.findIdx? p = some k := by
  rw [List.findIdx?_eq_some_iff_getElem]
  obtain ⟨hk', hx'⟩ := List.getElem?_eq_some_iff.1 hx
  refine ⟨hk', by rw [hx']; exact hp, fun j hj => ?_⟩
  rw [h j (l[j]) hj (by simp)]
  simp
theorem ct.end_ {α : Type} {p : α → Bool} {l : List α} {k : Nat} (h : ct p l k) (hk : k = l.length) : l.findIdx? p = none := by
  rw [List.findIdx?_eq_none_iff]
  intro x hx
  obtain ⟨j, hj⟩ := List.mem_iff_getElem?.1 hx
  exact h j x (by rw [hk]; exact (List.getElem?_eq_some_iff.1 hj).1) hj
def fb (n : Int) : Bool := decide (-1000000000000000 ≤ n) && decide (n ≤ 1000000000000000)
abbrev B (l : Array UInt8) : ByteArray := ⟨l⟩
def words : List ByteArray := [B #[97, 110, 100], B #[111, 114], B #[110, 111, 116], B #[110, 117, 108, 108], B #[116, 114, 117, 101], B #[102, 97, 108, 115, 101]]
def lower (b : UInt8) : Bool := decide (97 ≤ b.toNat) && decide (b.toNat ≤ 122)
def aQ (s : ByteArray) : List UInt8 := s.data.toList
def marks : List UInt8 := [95, 46, 58, 47, 60, 62, 36, 42, 126, 45]
def dd (b : UInt8) : Bool := lower b || (decide (65 ≤ b.toNat) && decide (b.toNat ≤ 90)) || (decide (48 ≤ b.toNat) && decide (b.toNat ≤ 57)) || marks.any fun c => decide (c = b)
def be (s : ByteArray) : Int := if s = B #[] ∨ 40 < s.size ∨ (aQ s).all dd = false then 3 else 0
end Go.Tb
namespace Go.Tb
open Go.Ab
theorem ma {s : ByteArray} (h : bK (.string s) = true) : (aQ s).length ≤ maxLen := by simpa [bK, aQ] using h
theorem aE (s : ByteArray) : (aQ s).length = s.size := by simp [aQ]
theorem kp (c : UInt8) : ∀ l : List UInt8, (0 ≤ Lib.indexByte l c) ↔ c ∈ l
  | [] => by simp [Lib.indexByte]
  | b :: l => by
    have ih := kp c l
    have h1 := Lib.indexByte_ge l c
    simp only [Lib.indexByte, List.mem_cons]
    grind
theorem oA (l : List UInt8) (c : UInt8) : decide (0 ≤ Lib.indexByte l c) = l.any fun x => decide (x = c) := by
  rw [Bool.eq_iff_iff]
  simp [kp]
theorem kn (c : UInt8) : ∀ l : List UInt8, Lib.indexByte l c ≤ l.length
  | [] => by simp [Lib.indexByte]
  | b :: l => by
    have ih := kn c l
    simp only [Lib.indexByte, List.length_cons]
    grind
theorem oU {s : ByteArray} (h : bK (.string s) = true) (c : UInt8) : bK (.int .i64 (Lib.indexByte (aQ s) c)) = true := by
  have h1 := Lib.indexByte_ge (aQ s) c
  have h2 := kn c (aQ s)
  have h3 := ma h
  have h4 : maxLen = 9223372036854775807 := rfl
  simp only [bK, Bool.and_eq_true, decide_eq_true_eq]
  refine ⟨?_, ?_⟩
  · show -9223372036854775808 ≤ _; omega
  · show _ ≤ 9223372036854775807; omega
theorem jc {s : ByteArray} : s = B #[] ↔ aQ s = [] := by
  constructor
  · rintro rfl; rfl
  · intro hb
    have : s.data = #[] := by simpa [aQ] using hb
    cases s; simp_all [B]
end Go.Tb
namespace Go.Tb
open Go.Ab
section
variable {P : Program} {C : Ctx} {n : Nat} {Q : Exit → St → Prop} {c : Code} {f : List (Nat × A)} {bx : List (Nat × List A)} {lv : List Nat} {gen : Nat}
end
end Go.Tb
namespace Go.Tb
open Go.Ab
theorem zg {α : Type} {l : List α} {k : Nat} (h : k < l.length) : ∃ x, l[k]? = some x ∧ l.drop k = x :: l.drop (k + 1) := ⟨l[k], by simp [h], List.drop_eq_getElem_cons h⟩
theorem dropEnd {α : Type} {l : List α} {k : Nat} (h : l.length ≤ k) : l.drop k = [] := List.drop_eq_nil_of_le h
theorem cf {P : Program} {C : Ctx} {n : Nat} {st : St} {o : Oper} {k : IntKind} {x y : Int} (h : Pu P C n st o (.d (.v (.int k x)))) (e : x = y) : Pu P C n st o (.d (.v (.int k y))) := e ▸ h
end Go.Tb
namespace Go.Tb
open Go.Ab
section
variable {P : Program} {C : Ctx} {n : Nat} {Q : Exit → St → Prop} {c : Code} {f : List (Nat × A)} {bx : List (Nat × List A)} {lv : List Nat} {gen : Nat}
end
end Go.Tb
namespace Go.Tb
open Go.Ab
mutual
def deep : Ex → Int → Int → Int
  | .mk op name v kids, level, left => if level < 1 ∨ left - 1 < 0 ∨ 300 < name.size ∨ 300 < v.s.size then -1 else wC kids level (left - 1)
def wC : List Ex → Int → Int → Int
  | [], _, left => left
  | k :: r, level, left => if deep k (level - 1) left < 0 then -1 else wC r level (deep k (level - 1) left)
end
def small (e : Ex) : Bool := decide (0 ≤ deep e 40 300)
end Go.Tb
namespace Go.Tb
open Go.Ab
end Go.Tb
namespace Go.Tb
open Go.Ab
end Go.Tb
namespace Go.Tb
open Go.Ab
end Go.Tb
namespace Go.Tb
end Go.Tb
namespace Go.Tb
open Go.Ab
/-! tables -/
end Go.Tb
namespace Go.Ab
open Go.RowKit
section
variable {P : Program} (T : bm P) {C : Ctx} {n : Nat} {ops : Array Oper} {Q : Exit → St → Prop} {rest : List Oper} {c : Code}
variable {f : List (Nat × A)} {bx : List (Nat × List A)} {lv : List Nat} {gen d : Nat} {ty : TypeId} {pos : String} {af : Array Edge} {a : A} {dst : Option Nat}
end
end Go.Ab
namespace Go.Tb
open Go.Ab
def yX : List qm → Nat → List qm → Bool
  | _, _, [] => false
  | all, k, c :: r => (all.take k).any (fun x => decide (x.name = c.name)) || yX all (k + 1) r
end Go.Tb
namespace Go.Ab
open Go.RowKit
section
variable {P : Program} (T : bm P) {C : Ctx} {n : Nat} {ops : Array Oper} {Q : Exit → St → Prop} {rest : List Oper} {c : Code}
variable {f : List (Nat × A)} {bx : List (Nat × List A)} {lv : List Nat} {gen d : Nat} {ty : TypeId} {pos : String} {af : Array Edge} {a : A} {dst : Option Nat}
theorem jG {α : Type} {fn : α → List D} {l l2 : List α} {x y : Operand} {t e : Nat} {td ed : bo} {g : Nat} {b : A} (hx : av f x = some (.own g (l.map fn))) (hy : av f y = some b) (hb2 : fa b = some (l2.map fn)) (ht : ak T.l t = some td) (hk : td.k = .slice e)
    (he : ak T.l e = some ed) (hgl : (lv.any fun h => Nat.beq h g) = true) (hz : Nat.blt 0 ed.n = true) (hb0 : Nat.blt 0 ed.b = true) (hd : Nat.blt d n = true) (hl : ∀ a, (fn a).length = ed.n) (hb : (l.length + l2.length) * ed.b ≤ 140737488355328)
    (h : WO P C n ops Q rest ⟨(d, .own gen ((l ++ l2).map fn)) :: f, bx, gen :: bg lv g, gen + 1⟩) : WO P C n ops Q (⟨some d, .call ⟨.builtin .append, #[x, y], #[t, t]⟩, ty, pos, af, none⟩ :: rest) ⟨f, bx, lv, gen⟩ := by
  obtain ⟨g', hg1, hg2⟩ := List.any_eq_true.1 hgl
  have hgm : g ∈ lv := Nat.eq_of_beq_eq_true hg2 ▸ hg1
  refine qQ T hx hy hb2 ht hk he hgm hz hb0 hd (fun z hzm => ?_) (by simpa using hb) ?_
  · rcases List.mem_append.1 hzm with h | h <;> (obtain ⟨a', _, rfl⟩ := List.mem_map.1 h; exact hl a')
  · rw [List.map_append] at h
    exact h
end
end Go.Ab
namespace Go.Ab
open Go.RowKit
def mZ (bx : List (Nat × List A)) : List Nat → List (Nat × List A)
  | [] => []
  | g :: r => match ak bx g with
    | some c => (g, c) :: mZ bx r
    | none => mZ bx r
section
variable {P : Program} {C : Ctx} {n : Nat} {Q : Exit → St → Prop} {c : Code} {st : St}
variable {f f' fi : List (Nat × A)} {bx bx' bi : List (Nat × List A)} {lv lv' : List Nat} {gen gen' : Nat}
def QC (C : Ctx) (n : Nat) (S : St) (Q : Exit → St → Prop) : Exit → St → Prop
  | .normal, st => ∀ (tmps : Array Value) (w : World), dE C n st tmps w → dE C n S tmps w
  | e, st => Q e st
theorem W.yp (V : List (Nat × A)) (ts : List Nat) (B : List (Nat × List A)) (bs : List Nat) (lv' : List Nat) (gen' : Nat) (h : W P C n c (QC C n ⟨V ++ cp f ts, B ++ mZ bx bs, lv', gen'⟩ Q) ⟨f, bx, lv, gen⟩)
    (hq : Q .normal ⟨V ++ cp f ts, B ++ mZ bx bs, lv', gen'⟩) : W P C n c Q ⟨f, bx, lv, gen⟩ :=
  fun tmps w hs => wp_mono (h tmps w hs) fun e act w ⟨hd, st', hs, he⟩ => by
    cases e with
    | normal => exact ⟨hd, _, he _ _ hs, hq⟩
    | _ => exact ⟨hd, st', hs, he⟩
theorem kQ {nb : Nat} [hnb : NB C nb] (order : List Nat) (ho : fV order gen' nb = true) (hf : jk order f f') (hfi : jb f fi) (hb : eZ order bx bx') (hbi : gA order bx bi) (hl : lB order lv lv' = true) :
    QC C n ⟨f' ++ fi, bx' ++ bi, lv', gen'⟩ Q .normal ⟨f, bx, lv, gen⟩ := fun _ _ h => dE.aY order ho hf hfi hb hbi hl h
end
end Go.Ab
namespace Go.Tb
open Go.Ab
end Go.Tb
namespace Go.Ab
open Go.RowKit
mutual
def j9 : D → D
  | .v x => bif isNil (.d (.v x)) then .sl [] else .v x
  | .sl es => .sl (nk es)
def lg : List D → List D
  | [] => []
  | x :: r => j9 x :: lg r
def nk : List (List D) → List (List D)
  | [] => []
  | x :: r => lg x :: nk r
end
theorem gF : ∀ l, lg l = l.map j9
  | [] => rfl
  | x :: r => by simp [lg, gF r]
theorem mx : ∀ l, nk l = l.map lg
  | [] => rfl
  | x :: r => by simp [nk, mx r]
theorem aF.j9 {w : World} {pv : Nat → Nat → Prop} {v : Value} {d : D} (h : aF w pv v d) : aF w pv v (Ab.j9 d) := by
  induction h with
  | v x hx =>
    simp only [Ab.j9]
    cases hn : isNil (.d (.v x)) with
    | true =>
      have := uY hn
      simp only [A.d.injEq, D.v.injEq] at this
      subst this
      exact .nil
    | false => exact .v x hx
  | nil => exact .nil
  | emp a cap hm => exact .emp a cap hm
  | sl b off len cap sz es u hl hc hm hs hu _ ih =>
    simp only [Ab.j9, mx]
    refine .sl b off len cap sz _ u (by simpa using hl) hc hm (fun i e he => ?_) hu (fun i j e d he hd => ?_)
    · rw [List.getElem?_map, Option.map_eq_some_iff] at he
      obtain ⟨e0, he0, rfl⟩ := he
      rw [gF, List.length_map]
      exact hs i e0 he0
    · rw [List.getElem?_map, Option.map_eq_some_iff] at he
      obtain ⟨e0, he0, rfl⟩ := he
      rw [gF, List.getElem?_map, Option.map_eq_some_iff] at hd
      obtain ⟨d0, hd0, rfl⟩ := hd
      exact ih i j e0 d0 he0 hd0
def eD : A → A
  | .d x => .d (j9 x)
  | .ag l => .ag (lg l)
  | a => a
theorem aA.eD {E : En} {v : Value} {a : A} (h : aA E v a) : aA E v (Ab.eD a) := by
  cases h with
  | d hd => exact .d hd.j9
  | ag vs l hs hd =>
    refine .ag vs _ (by rw [gF]; simpa using hs) (fun i u x hu hx => ?_)
    rw [gF, List.getElem?_map, Option.map_eq_some_iff] at hx
    obtain ⟨y, hy, rfl⟩ := hx
    exact (hd i u y hu hy).j9
  | any => exact .any _
  | ni t x => exact .ni t x
  | fl _ es hd hfl => exact .fl _ es hd hfl
  | own _ g es hd hg hr => exact .own _ g es hd hg hr
  | agg vs l hs ho hd => exact .agg vs l hs ho hd
  | tup vs l hs hd => exact .tup vs l hs hd
  | rowd b off l u hc hd => exact .rowd b off l u hc hd
  | row b off l u hc hd => exact .row b off l u hc hd
  | ptr _ g off b hg hb hp => exact .ptr _ g off b hg hb hp
  | xs _ g es hg h1 hx => exact .xs _ g es hg h1 hx
  | xp _ g i off l hg h1 hx => exact .xp _ g i off l hg h1 hx
  | mp _ g es hg h1 hx => exact .mp _ g es hg h1 hx
  | mq _ g es hg h1 hx => exact .mq _ g es hg h1 hx
  | mo _ g es hole ob hg h1 hx => exact .mo _ g es hole ob hg h1 hx
  | bf _ g T s hg h1 hx => exact .bf _ g T s hg h1 hx
  | np _ g T b hg hb hT u hx => exact .np _ g T b hg hb hT u hx
  | sb _ g n c b hg hb hn hx => exact .sb _ g n c b hg hb hn hx
  | fx _ u g es ou hx hg hu ho => exact .fx _ u g es ou hx hg hu ho
  | ol _ u g' E' g es hx hg' hr' hg hu => exact .ol _ u g' E' g es hx hg' hr' hg hu
  | ow _ v g es hd hg hr => exact .ow _ v g es hd hg hr
  | lk _ g n c b v hg hb hn hx => exact .lk _ g n c b v hg hb hn hx
  | clo f vs l hs hd => exact .clo f vs l hs hd
  | bnd f vs l hs hd => exact .bnd f vs l hs hd
theorem ax.eD {P : Program} [Met P] {f : FuncId} {args : List A} {r : A} {k : Nat} (h : ax P f (args.map Ab.eD) r k) : ax P f args r k :=
  ⟨h.ok, fun C vals w hG hw hp hx hsz hrep => h.calls C vals w hG hw hp hx (by simpa using hsz) (fun i u a hu ha => by
    rw [List.getElem?_map, Option.map_eq_some_iff] at ha
    obtain ⟨y, hy, rfl⟩ := ha
    exact (hrep i u y hu hy).eD)⟩
section
variable {P : Program} {C : Ctx} {n : Nat} {ops : Array Oper} {Q : Exit → St → Prop} {rest : List Oper} {c : Code}
variable {f : List (Nat × A)} {bx : List (Nat × List A)} {lv : List Nat} {gen d : Nat} {ty : TypeId} {pos : String} {af : Array Edge} {a : A} {dst : Option Nat}
end
end Go.Ab
namespace Go.Tb
open Go.Ab
section
variable {P : Program} {T : bm P} {l : List D}
variable {ts ti tk tc tcs tv tr trs tt tn te teo tes tit titl ttl tag tagl tso tsol tb top tst tstl tq : Nat}
variable {o1 o2 o3 o4 o5 o6 o7 o8 p1 p2 p3 p4 p5 p6 p7 p8 q1 q2 q3 q4 q5 q6 q7 q8 r1 r2 r3 r4 r5 : Nat}
variable {n1 n2 n3 n4 n5 n6 n7 n8 m1 m2 m3 m4 m5 m6 m7 m8 k1 k2 k3 k4 k5 k6 k7 k8 j1 j2 j3 j4 j5 : String}
end
end Go.Tb
namespace Go.Ab
open Go.RowKit
section
variable {P : Program} {C : Ctx} {n : Nat}
variable {f : List (Nat × A)} {bx : List (Nat × List A)} {lv : List Nat} {gen : Nat} {ty : TypeId} {pos : String} {af : Array Edge} {dst : Option Nat}
end
end Go.Ab
namespace Go.Ab
open Go.RowKit
def gp (P : Program) [Met P] (w : World) : Prop := ∃ W : World, (W.ShapedOpen P ∧ Met.met P W) ∧ W.heap.size ≤ w.heap.size ∧ ∀ b, b < W.heap.size → w.heap[b]? = W.heap[b]?
theorem gp.cell {P : Program} [Met P] {w : World} (h : gp P w) {b : Nat} (hc : ∀ W : World, W.ShapedOpen P → ∃ m, W.cell? ⟨b, 0, none⟩ = some (.int .i64 m)) : ∃ m, w.cell? ⟨b, 0, none⟩ = some (.int .i64 m) := by
  obtain ⟨W, h1, _, h3⟩ := h
  obtain ⟨m, hm⟩ := hc W h1.1
  have hlt : b < W.heap.size := cv (o := 0) hm
  exact ⟨m, (bp (h3 b hlt) 0).trans hm⟩
end Go.Ab
namespace Go.Ab
open Go.RowKit
theorem ax.vK {P : Program} [Met P] {f : FuncId} {args : List A} {r : A} (ok : kM P f)
    (h : ∀ (w : World) (vals : Array Value) (E : En), E.w = w → gp P w → vals.size = args.length → (∀ (i : Nat) (u : Value) (a : A), vals[i]? = some u → args[i]? = some a → aA E u a) →
      Calls P f vals w fun e w' => ∃ v, e = .returned v ∧ Below w.heap.size w w' ∧ ∀ E' : En, E'.w = w' → (∀ b o, E'.pv b o → b < w.heap.size) → aA E' v r) :
    ax P f args r 0 := by
  refine ⟨ok, fun C vals w hG hw hp hx hsz hrep => ?_⟩
  have hu : gp P w := by
    obtain ⟨W, h1, h2, h3⟩ := hG.h
    rw [hw] at h2 h3
    exact ⟨W, h1, h2, fun b hb => (h3 b hb).1⟩
  refine (h w vals (ao C G0 0 w) rfl hu hsz hrep).mono fun e w' ⟨v, h1, hb, hr⟩ => ⟨v, G0, h1, ?_, hr _ rfl (fun b o hpv => hx b o ((nM C b o).1 hpv))⟩
  subst hw
  exact { size := rfl, frame := fun t a ha => by simp [look] at ha, box := fun g cells hc => by simp [ak] at hc, gbox := fun g b hb => by simp [G0] at hb, inj := fun g g' b hb => by simp [G0] at hb,
          live := fun g hg => by simp at hg, gown := fun g r hr => by simp [G0] at hr, row := fun g b len cap sz pub hr => by simp [G0] at hr, mrow := fun g b bs hr => by simp [G0] at hr, sub := fun g b bs c lim hr => by simp [G0] at hr, gcell := fun g b hb => by simp [G0] at hb, xold := fun b o hb => ⟨hx b o hb, hp.1 b⟩, kold := fun b o hb => absurd hb (hp.2.1 b o),
          lent := fun i b hb => by rw [hp.2.2.1] at hb; simp at hb, fr := ⟨hb.os, hb.tape, hb.output, hb.size, fun b h1 _ => hb.block b h1, fun _ _ _ hb => absurd hb (hp.2.1 _ _), .below hb⟩ }
theorem w9 {E : En} {xs : List Value} {vals : Array Value} (hsz : vals.size = (xs.map fun x => A.d (.v x)).length)
    (hr : ∀ (i : Nat) (u : Value) (a : A), vals[i]? = some u → (xs.map fun x => A.d (.v x))[i]? = some a → aA E u a) : vals = xs.toArray ∧ ∀ x ∈ xs, bK x = true := by
  have hv : ∀ (i : Nat) (u x : Value), vals[i]? = some u → xs[i]? = some x → u = x ∧ bK x = true := by
    intro i u x hu' hx'
    have := hr i u (.d (.v x)) hu' (by simp [hx'])
    cases this with | d hd => cases hd with | v _ ho => exact ⟨rfl, ho⟩
  have hsz' : vals.size = xs.length := by simpa using hsz
  refine ⟨Array.ext (by simpa using hsz') (fun i h1 h2 => ?_), fun x hx' => ?_⟩
  · have h2' : i < xs.length := by simpa using h2
    have := (hv i vals[i] xs[i] (by simp [h1]) (by simp [h2'])).1
    simpa using this
  · obtain ⟨i, hi, rfl⟩ := List.mem_iff_getElem.1 hx'
    exact (hv i (vals[i]'(by omega)) xs[i] (by simp [hsz', hi]) (by simp [hi])).2
theorem ax.kJ {P : Program} [Met P] {f : FuncId} {xs : List Value} {r : A} (ok : kM P f)
    (h : ∀ (w : World), gp P w → (∀ x ∈ xs, bK x = true) → Calls P f xs.toArray w fun e w' => ∃ v, e = .returned v ∧ Below w.heap.size w w' ∧ ∀ E' : En, E'.w = w' → (∀ b o, E'.pv b o → b < w.heap.size) → aA E' v r) :
    ax P f (xs.map fun x => .d (.v x)) r 0 := by
  refine ax.vK ok fun w vals E _ hu hsz hr => ?_
  obtain ⟨e, ho⟩ := w9 hsz hr
  rw [e]
  exact h w hu ho
theorem aF.wW {w : World} {pv : Nat → Nat → Prop} {b : Nat} {l : List ByteArray} {cap : Nat} {arr : Array Value} {T : TypeId} (hb : w.heap[b]? = some (.cells arr T (0, 0))) (hc : l.length ≤ cap) (hm : cap ≤ maxLen)
    (ha : ∀ (j : Nat) (s : ByteArray), l[j]? = some s → arr[j]? = some (.string s) ∧ s.size ≤ maxLen) (hp : ∀ o, ¬ pv b o) : aF w pv (.slice (some ⟨b, 0, none⟩) l.length cap) (.sl (l.map fun s => [.v (.string s)])) := by
  have := aF.ofRow (w := w) (pv := pv) (b := b) (cap := cap) (sz := 1) (es := l.map fun s => [D.v (.string s)]) hb (by simpa using hc) hm (fun e he => by
    obtain ⟨s, _, rfl⟩ := List.mem_map.1 he
    rfl) (fun t _ => hp t) (fun i j e d hi hj => by
    rw [List.getElem?_map, Option.map_eq_some_iff] at hi
    obtain ⟨s, hs, rfl⟩ := hi
    match j, hj with
    | 0, hj =>
      simp only [List.getElem?_cons_zero, Option.some.injEq] at hj
      subst hj
      obtain ⟨h1, h2⟩ := ha i s hs
      exact ⟨.string s, by simpa using h1, .v _ (by simpa [bK] using h2)⟩
    | j + 1, hj => simp at hj)
  simpa using this
theorem gp.var {P : Program} [Met P] {w : World} (h : gp P w) : ∃ W : World, Met.met P W ∧ ∀ name cs, W.var? P name = some cs → w.var? P name = some cs := by
  obtain ⟨W, h1, _, h3⟩ := h
  refine ⟨W, h1.2, fun name cs hc => ?_⟩
  unfold World.var? at hc ⊢
  cases hg : P.globalNamed name with
  | none => rw [hg] at hc; simp at hc
  | some g =>
    rw [hg] at hc
    simp only [Option.bind_some] at hc ⊢
    rcases Nat.lt_or_ge g W.heap.size with hlt | hge
    · rw [h3 g hlt]; exact hc
    · rw [Array.getElem?_eq_none hge] at hc; simp at hc
def ju (P : Program) (W : World) : Prop :=
  W.var? P "internal/strconv.uint64pow10" = some (Lib.pow10Tab.map fun z => Value.int .u64 z).toArray ∧ (∃ t p, W.var? P "strconv.ErrSyntax" = some #[.iface t p]) ∧ ∃ t p, W.var? P "strconv.ErrRange" = some #[.iface t p]
theorem gp.num {P : Program} [Met P] (hm : ∀ W, Met.met P W → ju P W) {w : World} (h : gp P w) : ju P w := by
  obtain ⟨W, h1, h2⟩ := h.var
  obtain ⟨h3, ⟨t, p, h4⟩, t', p', h5⟩ := hm W h1
  exact ⟨h2 _ _ h3, ⟨t, p, h2 _ _ h4⟩, t', p', h2 _ _ h5⟩
theorem nL {E : En} {x y : Value} {a b : A} (ha : aA E x a) (hb : aA E y b) : aA E (.tuple #[x, y]) (.tup [a, b]) :=
  .tup _ _ rfl (fun i u z hu hz => by
    match i, hu, hz with
    | 0, hu, hz =>
      simp only [List.getElem?_toArray, List.getElem?_cons_zero, Option.some.injEq] at hu hz
      subst hu; subst hz
      exact ha
    | 1, hu, hz =>
      simp only [List.getElem?_toArray, List.getElem?_cons_succ, List.getElem?_cons_zero, Option.some.injEq] at hu hz
      subst hu; subst hz
      exact hb
    | i + 2, hu, hz => simp at hz)
section
variable {P : Program} {C : Ctx} {n : Nat}
variable {f : List (Nat × A)} {bx : List (Nat × List A)} {lv : List Nat} {gen : Nat} {ty : TypeId} {pos : String} {af : Array Edge} {dst : Option Nat}
theorem tK (w : World) {t : TypeId} {ms : Array (String × TypeId)} (hu : P.underlying t = some (.interface ms)) : (Op.equal t .nilIface .nilIface).run P w = .ok true w := by
  have h : ∀ d : Nat, (Op.equalIn (d + 1) t .nilIface .nilIface).run P w = .ok true w := fun d => by simp [Op.equalIn, run_underlying hu]
  exact h 9999
theorem vF (w : World) {t u : TypeId} {v : Value} {ms : Array (String × TypeId)} (hu : P.underlying t = some (.interface ms)) : (Op.equal t (.iface u v) .nilIface).run P w = .ok false w := by
  have h : ∀ d : Nat, (Op.equalIn (d + 1) t (.iface u v) .nilIface).run P w = .ok false w := fun d => by simp [Op.equalIn, run_underlying hu]
  exact h 9999
def jD (P : Program) (t : TypeId) : Bool := match P.underlying t with | some (.interface _) => true | _ => false
theorem k9 {t : TypeId} (h : jD P t = true) : ∃ ms, P.underlying t = some (.interface ms) := by
  unfold jD at h
  split at h
  · rename_i ms hu; exact ⟨ms, hu⟩
  · cases h
theorem yY {t t' : Nat} {x : Operand} (hx : av f x = some (.d (.v .nilIface))) (hB : jD P t = true) :
    Pu P C n ⟨f, bx, lv, gen⟩ ⟨dst, .binOp .eql t x (.const .nilIface) t', ty, pos, af, none⟩ (.d (.v (.bool true))) := by
  obtain ⟨ms, hu⟩ := k9 hB
  refine cA.pu fun G tmps w hs => ?_
  have hrx := hs.av hx
  generalize hvx : Act.eval ⟨tmps, []⟩ x = vx at hrx
  cases hrx with | d hrx => cases hrx with | v _ _ =>
  refine ⟨.bool true, ?_, .d (.v _ rfl)⟩
  unfold execOp
  show Sem.run P _ w = _
  have he : (Act.eval ⟨tmps, []⟩ (Operand.const Value.nilIface)) = Value.nilIface := rfl
  simp only [hvx, he, eqGuard, binOp]
  simp [tK w hu]
  rfl
theorem yd {t t' : Nat} {x : Operand} (hx : av f x = some .ni) (hB : jD P t = true) :
    Pu P C n ⟨f, bx, lv, gen⟩ ⟨dst, .binOp .eql t x (.const .nilIface) t', ty, pos, af, none⟩ (.d (.v (.bool false))) := by
  obtain ⟨ms, hu⟩ := k9 hB
  refine cA.pu fun G tmps w hs => ?_
  have hrx := hs.av hx
  generalize hvx : Act.eval ⟨tmps, []⟩ x = vx at hrx
  cases hrx with | ni t2 x2 =>
  refine ⟨.bool false, ?_, .d (.v _ rfl)⟩
  unfold execOp
  show Sem.run P _ w = _
  have he : (Act.eval ⟨tmps, []⟩ (Operand.const Value.nilIface)) = Value.nilIface := rfl
  simp only [hvx, he, eqGuard, binOp]
  simp [vF w hu]
  rfl
end
end Go.Ab
namespace Go.Ab
open Go
variable {H : Type} {enc : TypeId × Value → H}
theorem iO {a : Assume} {C : Checked} {os : Os} {f : FuncId} {fn : Func} {s : ChangeSpec} {conds : List PathCond} {apart fresh handsOn again : Bool} {X : World → Array Value → Prop}
    (hX : ∀ (w w' : World) (args : Array Value), w.heap = w'.heap → X w args → X w' args)
    (own : ownKnob C.prog.godebug = none) (started : os.Started) (noInit : C.prog.inits.idxOf? f = none) (hfn : C.prog.funcs[f]? = some fn)
    (witness : ∃ (w : World) (tape : Tape) (i : Input), w.os = os ∧ (w.forCall tape i).Shaped C.prog ∧ i.vars = [] ∧ Input.okWide C.prog (w.forCall tape i) .any w.heap.size f i ∧
      ((s.pre enc C.prog fn conds apart (w.forCall tape i).memory i.args ∧ X (w.forCall tape i).memory i.args) ∧ sizedMet enc C.prog fn (OpenSpec.ofChange s) apart (w.forCall tape i).memory i.args) ∧ a.holds C.prog (lone (Frame.enter C.prog f i.args .normal) [] (w.forCall tape i)))
    (contract : ∀ (W : World) (base : Nat) (args : Array Value) (ds gs : List (DataW H)) (before : List MemPlace),
      (∀ (j : Nat) t v, fn.params[j]? = some t → args[j]? = some v → Value.okWide C.prog W .any base t v) →
      DataW.Whole enc C.prog fn.params.toList s.vars apart W args.toList ds gs before →
      W.ShapedOpen C.prog → X W args →
      Calls C.prog f args W fun e W' => ∃ v, e = .returned v ∧ s.post enc C.prog fn apart fresh handsOn again W args v W') :
    ReturnsInHanded a C os f .any (fun w args => (s.pre enc C.prog fn conds apart w args ∧ X w args) ∧ sizedMet enc C.prog fn (OpenSpec.ofChange s) apart w args) (s.post enc C.prog fn apart fresh handsOn again) := by
  refine returnsInHanded_of_calls own started noInit witness ?_
  intro w tape i _ hsh _ hok hpre hholds
  obtain ⟨_, _, _, fn', hfn', _, _, _, _, hval⟩ := hok
  have e : fn' = fn := Option.some.inj (hfn'.symm.trans hfn)
  subst e
  obtain ⟨⟨⟨ds, gs, before, hw, hc⟩, hx⟩, hz⟩ := hpre
  have hw' := DataW.Whole.of_heap (w' := w.forCall tape i) (by rfl) hw
  refine (contract (w.forCall tape i) w.heap.size i.args ds gs before hval hw' hsh (hX _ _ _ (by rfl) hx)).mono fun e W' ⟨v, he, hp⟩ => ?_
  subst he
  exact ChangeSpec.post_blind hp
theorem pb {C : Checked} {os : Os} {f : FuncId} {fn : Func} {s : ChangeSpec} {conds : List PathCond} {apart : Bool} {laid : List (String × DataW Unit)} (modest : Bool) (args : Array Value) (fuel : Nat)
    (hv : ((World.laidAll C.prog os laid).forCall (fun _ _ => 0) ⟨#[], args, []⟩).variablesZipB C.prog = true)
    (hr : (((World.laidAll C.prog os laid).forCall (fun _ _ => 0) ⟨#[], args, []⟩).heap.toList.drop C.prog.globals.size).take ((begin C.prog (fun _ _ => 0) default).world.heap.size - C.prog.globals.size) =
      (begin C.prog (fun _ _ => 0) default).world.heap.toList.drop C.prog.globals.size)
    (hf : (World.holding C.prog os ⟨#[], #[], []⟩).layFits C.prog laid [] = true)
    (hi : (World.holding C.prog os ⟨#[], #[], []⟩).layIfaces C.prog laid (World.laidAll C.prog os laid) = true)
    (hok : Input.okWideB C.prog ((World.laidAll C.prog os laid).forCall (fun _ _ => 0) ⟨#[], args, []⟩) f ⟨#[], args, []⟩ = true)
    (hpre : s.preB enc C.prog fn conds apart ((World.laidAll C.prog os laid).forCall (fun _ _ => 0) ⟨#[], args, []⟩).memory args fuel = true)
    (hsz : s.sizedB enc C.prog fn apart ((World.laidAll C.prog os laid).forCall (fun _ _ => 0) ⟨#[], args, []⟩).memory args fuel = true) :
    ∃ (w : World) (tape : Tape) (i : Input), w.os = os ∧ (w.forCall tape i).Shaped C.prog ∧ i.vars = [] ∧ Input.okWide C.prog (w.forCall tape i) .any w.heap.size f i ∧
      ((s.pre enc C.prog fn conds apart (w.forCall tape i).memory i.args ∧ laidMet C.prog laid (w.forCall tape i).memory) ∧ sizedMet enc C.prog fn (OpenSpec.ofChange s) apart (w.forCall tape i).memory i.args) ∧ ({ modest := modest } : Assume).holds C.prog (lone (Frame.enter C.prog f i.args .normal) [] (w.forCall tape i)) :=
  ⟨World.laidAll C.prog os laid, fun _ _ => 0, ⟨#[], args, []⟩, World.laidAll_os _ _ _, World.shaped_of_ZipB hv hr, (Input.okWide_of_okWideB (base := 0) hok).1, (Input.okWide_of_okWideB hok).2, ⟨⟨ChangeSpec.pre_of_preB hpre, laidMet_laidAll args hf hi⟩, sizedMet_of_sizedB hsz⟩, by
    simp only [Assume.holds]
    exact ⟨by simp, by simp, fun _ => Modest.zero, by simp, by simp⟩⟩
theorem ov {P : Program} {W : World} {l : List (String × DataW Unit)} (h : laidMet P l W) {n nm : String} {d : DataW Unit} (hm : (n, .iface nm d) ∈ l) {ti : TypeId}
    (hg : ((P.globalNamed n).bind fun g => (P.globals[g]?).map (·.type)) = some ti) (hi : jD P ti = true) : ∃ t p, W.var? P n = some #[.iface t p] := by
  obtain ⟨ms, hi⟩ := k9 hi
  obtain ⟨g, t, cs, fuel, p, h1, h2, h3, h4⟩ := Lib.laidMet.reads h hm
  rw [h1] at hg
  simp only [Option.bind_some] at hg
  rw [h2] at hg
  simp only [Option.some.injEq] at hg
  subst hg
  obtain ⟨f1, u, v, hcs, _⟩ := iface_of_trod hi h4
  refine ⟨u, v, h3.trans ?_⟩
  rw [show cs = #[.iface u v] from by rw [← Array.toArray_toList (xs := cs), hcs]]
theorem xd {P : Program} {W : World} {l : List (String × DataW Unit)} (h : laidMet P l W) {n : String} {k : IntKind} {zs : List Int} {d : DataW Unit} (hm : (n, d) ∈ l) (hd : d = Lib.tabData k zs) {t e : TypeId} {m : Nat}
    (hg : ((P.globalNamed n).bind fun g => (P.globals[g]?).map (·.type)) = some t) (ht : P.underlying t = some (.array m e)) (he : P.underlying e = some (.int k)) (hce : P.cellsOf e = 1) (hct : P.cellsOf t = m) :
    W.var? P n = some (zs.map fun z => Value.int k z).toArray := by
  subst hd
  obtain ⟨g, t', cs, fuel, p, h1, h2, h3, h4⟩ := Lib.laidMet.reads h hm
  rw [h1] at hg
  simp only [Option.bind_some] at hg
  rw [h2] at hg
  simp only [Option.some.injEq] at hg
  subst hg
  rw [h3, ← Lib.cells_of_tab ht he hce hct h4]
theorem tL {P : Program} {W : World} {l : List (String × DataW Unit)} (h : laidMet P l W) {d : DataW Unit} (h1 : ("internal/strconv.uint64pow10", d) ∈ l) (hd : d = Lib.tabData .u64 Lib.pow10Tab) {t e : TypeId} {m : Nat}
    (hg : ((P.globalNamed "internal/strconv.uint64pow10").bind fun g => (P.globals[g]?).map (·.type)) = some t) (ht : P.underlying t = some (.array m e)) (he : P.underlying e = some (.int .u64)) (hce : P.cellsOf e = 1) (hct : P.cellsOf t = m)
    {nm nm' : String} {d1 d2 : DataW Unit} (h2 : ("strconv.ErrSyntax", .iface nm d1) ∈ l) (h3 : ("strconv.ErrRange", .iface nm' d2) ∈ l) {ti : TypeId}
    (hg1 : ((P.globalNamed "strconv.ErrSyntax").bind fun g => (P.globals[g]?).map (·.type)) = some ti) (hg2 : ((P.globalNamed "strconv.ErrRange").bind fun g => (P.globals[g]?).map (·.type)) = some ti) (hi : jD P ti = true) : ju P W :=
  ⟨xd h h1 hd hg ht he hce hct, ov h h2 hg1 hi, ov h h3 hg2 hi⟩
end Go.Ab
namespace Go.Tb
open Go.Ab
theorem y9 {P : Program} {C : Ctx} {n : Nat} {st : St} {o : Oper} {x y : ByteArray} (h : Pu P C n st o (.d (.v (.string x)))) (e : x = y) : Pu P C n st o (.d (.v (.string y))) := e ▸ h
def bO (u : Nat) : List UInt8 := Lib.decDigits u
theorem b5 {u : Nat} (h : u < 10) : bO u = [UInt8.ofNat (48 + u)] := by unfold bO; rw [Lib.decDigits, dif_pos h]
theorem dO {u : Nat} (h : ¬ u < 10) : bO u = bO (u / 10) ++ [UInt8.ofNat (48 + u % 10)] := by unfold bO; rw [Lib.decDigits, dif_neg h]
theorem gl {p : Nat → Prop} (h1 : ∀ u, u < 10 → p u) (h2 : ∀ u, ¬ u < 10 → p (u / 10) → p u) : ∀ u, p u := by
  intro u
  induction u using Nat.strongRecOn with
  | _ u ih =>
    by_cases h : u < 10
    · exact h1 u h
    · exact h2 u h (ih _ (by omega))
theorem gm {d : Nat} (h : d < 10) : (UInt8.ofNat (48 + d)).toNat = 48 + d := by
  rw [UInt8.toNat_ofNat']
  omega
def bH (b : UInt8) : Bool := decide (48 ≤ b.toNat) && decide (b.toNat ≤ 57)
theorem er : ∀ u, ∀ b ∈ bO u, bH b = true := by
  refine gl (fun u h b hb => ?_) (fun u h ih b hb => ?_)
  · rw [b5 h] at hb
    simp only [List.mem_singleton] at hb
    subst hb
    simp only [bH, gm h, Bool.and_eq_true, decide_eq_true_eq]
    omega
  · rw [dO h] at hb
    rcases List.mem_append.1 hb with hb | hb
    · exact ih b hb
    · simp only [List.mem_singleton] at hb
      subst hb
      simp only [bH, gm (Nat.mod_lt u (show 0 < 10 by decide)), Bool.and_eq_true, decide_eq_true_eq]
      omega
theorem eb (u : Nat) : bO u ≠ [] := by
  by_cases h : u < 10
  · rw [b5 h]; simp
  · rw [dO h]; simp
def b7 (n : Nat) (l : List UInt8) : Nat := l.foldl (fun n b => if bH b then 10 * n + (b.toNat - 48) else n) n
theorem jg (n : Nat) (a b : List UInt8) : b7 n (a ++ b) = b7 (b7 n a) b := List.foldl_append ..
theorem ua : ∀ u, b7 0 (bO u) = u := by
  refine gl (fun u h => ?_) (fun u h ih => ?_)
  · rw [b5 h]
    have h0 := er u (UInt8.ofNat (48 + u)) (by rw [b5 h]; simp)
    simp only [b7, List.foldl_cons, List.foldl_nil, h0, if_true, gm h]
    omega
  · have h0 := er u (UInt8.ofNat (48 + u % 10)) (by rw [dO h]; simp)
    rw [dO h, jg, ih]
    simp only [b7, List.foldl_cons, List.foldl_nil, h0, if_true, gm (Nat.mod_lt u (show 0 < 10 by decide))]
    omega
theorem kj : ∀ u k, u < 10 ^ (k + 1) → (bO u).length ≤ k + 1 := by
  refine gl (fun u h k _ => ?_) (fun u h ih k hk => ?_)
  · rw [b5 h]; simp
  · rw [dO h]
    simp only [List.length_append, List.length_singleton]
    match k, hk with
    | 0, hk => simp at hk; omega
    | k + 1, hk =>
      have := ih k (by rw [Nat.pow_succ] at hk; omega)
      omega
theorem rF : ∀ (l : List UInt8) (n k : Nat), n < 10 ^ k → b7 n l < 10 ^ (k + l.length)
  | [], n, k, h => by simpa [b7] using h
  | b :: r, n, k, h => by
    have e : b7 n (b :: r) = b7 (if bH b then 10 * n + (b.toNat - 48) else n) r := rfl
    rw [e]
    have := rF r (if bH b then 10 * n + (b.toNat - 48) else n) (k + 1) (by
      rw [Nat.pow_succ]
      split
      · rename_i hb
        simp only [bH, Bool.and_eq_true, decide_eq_true_eq] at hb
        omega
      · omega)
    rw [List.length_cons, show k + (r.length + 1) = k + 1 + r.length by omega]
    exact this
def br (n : Int) : ByteArray := ⟨(Lib.itoa n).toArray⟩
theorem jM (u : Nat) : Lib.itoa (u : Int) = bO u := by unfold Lib.itoa bO; rw [if_neg (by omega)]; simp
theorem fY {n : Int} (h : n < 0) : Lib.itoa n = 45 :: bO n.natAbs := by unfold Lib.itoa bO; rw [if_pos h]
theorem dP {n : Int} (h : 0 ≤ n) : Lib.itoa n = bO n.toNat := by unfold Lib.itoa bO; rw [if_neg (by omega)]
theorem dL (n : Int) : (br n).data.toList = Lib.itoa n := rfl
/-! what strconv.Atoi says of a numeral -/
theorem pt : ∀ (u : Nat), u < 18446744073709551616 → ∀ (l : List UInt8), Lib.parseUint10 0 (bO u ++ l) = Lib.parseUint10 u l := by
  refine gl (fun u h hu l => ?_) (fun u h ih hu l => ?_)
  · rw [b5 h]
    have h1 := gm h
    simp only [List.singleton_append, Lib.parseUint10, h1]
    rw [if_pos (by omega), if_neg (by omega), if_neg (by omega)]
    congr 1
    omega
  · rw [dO h, List.append_assoc, ih (by omega)]
    have h1 := gm (Nat.mod_lt u (show 0 < 10 by decide))
    simp only [List.singleton_append, Lib.parseUint10, h1]
    rw [if_pos (by omega), if_neg (by omega), if_neg (by omega)]
    congr 1
    omega
theorem iV {u : Nat} (h : u < 18446744073709551616) : Lib.parseMag (bO u) = .ok u := by
  unfold Lib.parseMag
  rw [if_neg (eb u)]
  have := pt u h []
  rw [List.append_nil] at this
  exact this
theorem uI {n : Int} (h0 : -9223372036854775808 ≤ n) (h1 : n ≤ 9223372036854775807) : Lib.atoiAll (Lib.itoa n) = .ok n := by
  rcases Int.lt_or_le n 0 with hn | hn
  · rw [fY hn, Lib.atoiAll_minus, iV (by omega)]
    simp only [Lib.signed]
    rw [if_neg (by omega)]
    congr 1
    omega
  · rw [dP hn]
    obtain ⟨c, r, hc⟩ : ∃ c r, bO n.toNat = c :: r := by
      cases hd : bO n.toNat with
      | nil => exact absurd hd (eb _)
      | cons c r => exact ⟨c, r, rfl⟩
    have hdig := er n.toNat c (by rw [hc]; simp)
    simp only [bH, Bool.and_eq_true, decide_eq_true_eq] at hdig
    have hm := iV (u := n.toNat) (by omega)
    rw [hc] at hm ⊢
    rw [Lib.atoiAll_plain c r (by omega) (by omega), hm]
    simp only [Lib.signless]
    rw [if_neg (by omega)]
    congr 1
    omega
def du (s : ByteArray) : Int × Bool :=
  match Lib.atoiAll s.data.toList with
  | .ok v => if fb v = true ∧ br v = s then (v, true) else (0, false)
  | _ => (0, false)
theorem mg {n : Int} (h : fb n = true) : du (br n) = (n, true) := by
  have h' := h
  simp only [fb, Bool.and_eq_true, decide_eq_true_eq] at h'
  unfold du
  rw [dL, uI (by omega) (by omega)]
  simp only [h, true_and, if_true]
theorem sY {s : ByteArray} {v : Int} (h : du s = (v, true)) : fb v = true ∧ s = br v := by
  unfold du at h
  split at h
  · split at h
    · rename_i hc
      simp only [Prod.mk.injEq, and_true] at h
      subst h
      exact ⟨hc.1, hc.2.symm⟩
    · simp at h
  · simp at h
end Go.Tb
namespace Go.Tb
open Go.Ab
def cB (c : UInt8) : List UInt8 → List (List UInt8)
  | [] => [[]]
  | b :: r => if b = c then [] :: cB c r else (b :: (cB c r).headD []) :: (cB c r).tail
theorem xC (c : UInt8) : ∀ l, cB c l ≠ []
  | [] => by simp [cB]
  | b :: r => by simp only [cB]; split <;> simp
theorem iZ (c : UInt8) (l : List UInt8) : ∃ h t, cB c l = h :: t := by
  cases h : cB c l with
  | nil => exact absurd h (xC c l)
  | cons a t => exact ⟨a, t, rfl⟩
theorem oy {b c : UInt8} (l : List UInt8) (h : b ≠ c) : Lib.index (b :: l) [c] = if Lib.index l [c] == -1 then -1 else Lib.index l [c] + 1 := by
  have hp : ([c] : List UInt8).isPrefixOf (b :: l) = false := by simp [List.isPrefixOf, Ne.symm h]
  rw [Lib.index, hp]; simp
theorem oz (c : UInt8) (l : List UInt8) : Lib.index (c :: l) [c] = 0 := by rw [Lib.index]; simp [List.isPrefixOf]
theorem sx {c : UInt8} {l : List UInt8} (h : Lib.index l [c] ≠ -1) : Lib.count l [c] ≠ 0 := by
  have hge := Lib.index_ge l [c]
  obtain ⟨j, hj⟩ : ∃ j : Nat, Lib.index l [c] = j := ⟨(Lib.index l [c]).toNat, by omega⟩
  rw [Lib.count_hit (by simp) hj]
  omega
theorem nW (c : UInt8) : ∀ l, Lib.splitK [c] 0 (Lib.count l [c]) l = cB c l
  | [] => by rw [Lib.count_miss (by simp [Lib.index])]; rfl
  | b :: r => by
    have ih := nW c r
    simp only [cB]
    by_cases h : b = c
    · subst h
      rw [if_pos rfl, Lib.count_cons_eq, Nat.add_comm, Lib.splitK, oz, if_neg (by decide)]
      simp only [Int.toNat_zero, Nat.zero_add, List.take_zero, List.length_singleton, List.drop_succ_cons, List.drop_zero]
      rw [ih]
    · rw [if_neg h, Lib.count_cons_ne b c r h]
      by_cases hm : Lib.index r [c] = -1
      · have h0 : Lib.count r [c] = 0 := Lib.count_miss hm
        rw [h0] at ih ⊢
        simp only [Lib.splitK] at ih ⊢
        rw [← ih]
        rfl
      · obtain ⟨k, hk⟩ : ∃ k, Lib.count r [c] = k + 1 := ⟨Lib.count r [c] - 1, by have := sx hm; omega⟩
        rw [hk] at ih ⊢
        rw [Lib.splitK, if_neg (fun e => hm (beq_iff_eq.1 e))] at ih
        have hge := Lib.index_ge r [c]
        have hi : Lib.index (b :: r) [c] = Lib.index r [c] + 1 := by rw [oy r h, if_neg (fun e => hm (beq_iff_eq.1 e))]
        rw [Lib.splitK, if_neg (by rw [hi]; intro e; have := beq_iff_eq.1 e; omega), hi, ← ih]
        have e1 : (Lib.index r [c] + 1).toNat = (Lib.index r [c]).toNat + 1 := by omega
        rw [e1]
        simp only [List.length_singleton, List.headD_cons, List.tail_cons, Nat.add_zero]
        rw [show (Lib.index r [c]).toNat + 1 + 1 = ((Lib.index r [c]).toNat + 1) + 1 from rfl, List.take_succ_cons, List.drop_succ_cons]
def gL (l : List UInt8) : ByteArray := ⟨l.toArray⟩
theorem wg (l : List UInt8) : (gL l).data.toList = l := rfl
theorem nF (s : ByteArray) : gL s.data.toList = s := by cases s; rfl
theorem data_inj {a b : ByteArray} (h : a.data.toList = b.data.toList) : a = b := by rw [← nF a, ← nF b, h]
def aH (s : ByteArray) (c : UInt8) : List ByteArray := (cB c s.data.toList).map gL
theorem mN (s : ByteArray) (c : UInt8) : Lib.splitB ⟨#[c]⟩ 0 (Lib.countB s ⟨#[c]⟩) s = aH s c := by
  have h := Lib.splitB_data ⟨#[c]⟩ 0 (Lib.countB s ⟨#[c]⟩) s
  have h2 : Lib.countB s ⟨#[c]⟩ = Lib.count s.data.toList [c] := rfl
  rw [h2] at h ⊢
  rw [show (⟨#[c]⟩ : ByteArray).data.toList = [c] from rfl, nW] at h
  unfold aH
  rw [← h, List.map_map]
  conv => lhs; rw [← List.map_id (Lib.splitB _ _ _ _)]
  exact List.map_congr_left fun x _ => (nF x).symm
theorem lS (c : UInt8) : ∀ l, (cB c l).length ≤ l.length + 1
  | [] => Nat.le_refl _
  | b :: r => by
    have ih := lS c r
    obtain ⟨h, t, ht⟩ := iZ c r
    simp only [cB]
    split
    · simp only [List.length_cons]; omega
    · rw [ht] at ih ⊢; simp only [List.length_cons, List.tail_cons] at ih ⊢; omega
theorem lL (c : UInt8) : ∀ l, ∀ x ∈ cB c l, x.length ≤ l.length
  | [], x, hx => by simp only [cB, List.mem_singleton] at hx; subst hx; exact Nat.le_refl _
  | b :: r, x, hx => by
    have ih := lL c r
    obtain ⟨h, t, ht⟩ := iZ c r
    simp only [cB] at hx
    split at hx
    · rcases List.mem_cons.1 hx with rfl | hx
      · simp
      · have := ih x hx; simp only [List.length_cons]; omega
    · rw [ht] at hx ih
      simp only [List.headD_cons, List.tail_cons] at hx
      rcases List.mem_cons.1 hx with rfl | hx
      · have := ih h (by simp); simp only [List.length_cons]; omega
      · have := ih x (by simp [hx]); simp only [List.length_cons]; omega
theorem sq (a b : List UInt8) : gL a ++ gL b = gL (a ++ b) := data_inj (by simp [gL])
theorem lN (c b : UInt8) : ∀ l, cB c (l ++ [b]) = if b = c then cB c l ++ [[]] else (cB c l).dropLast ++ [(cB c l).getLastD [] ++ [b]]
  | [] => by simp [cB]
  | a :: r => by
    have ih := lN c b r
    obtain ⟨h, t, ht⟩ := iZ c r
    simp only [List.cons_append, cB]
    rw [ih, ht]
    by_cases h1 : a = c <;> by_cases h2 : b = c
    · simp [h1, h2]
    · simp only [h1, h2, if_true, if_false]
      cases t <;> simp [List.getLastD]
    · simp [h1, h2]
    · simp only [h1, h2, if_false]
      cases t <;> simp [List.getLastD]
end Go.Tb
namespace Go.Tb
open Go.Ab
structure Ev where
  time : Int
  kind : Int
  name : ByteArray
  n : Int
  m : Int
  stack : List ByteArray
@[reducible] def qY (l : List ByteArray) : List (List D) := l.map sc
@[reducible] def Ev.c (e : Ev) : List D := [ci e.time, ci e.kind, cs e.name, ci e.n, ci e.m, .sl (qY e.stack)]
structure ot where
  word : ByteArray
  name : Bool
  n : Bool
  m : Bool
  stack : Bool
  least : Int
  most : Int
  mLeast : Int
  mMost : Int
@[reducible] def ot.c (f : ot) : List D := [cs f.word, .v (.bool f.name), .v (.bool f.n), .v (.bool f.m), .v (.bool f.stack), ci f.least, ci f.most, ci f.mLeast, ci f.mMost]
def oP : ot := ⟨B #[], false, false, false, false, 0, 0, 0, 0⟩
def nI : List ot := [oP,
  ⟨B #[98, 101, 103, 105, 110], true, false, false, false, 0, 0, 0, 0⟩,
  ⟨B #[101, 110, 100], false, false, false, false, 0, 0, 0, 0⟩,
  ⟨B #[109, 97, 114, 107], true, false, false, false, 0, 0, 0, 0⟩,
  ⟨B #[99, 111, 117, 110, 116], true, true, false, false, -1000000000000000, 1000000000000000, 0, 0⟩,
  ⟨B #[115, 97, 109, 112, 108, 101], false, true, false, true, 1, 1000000000000, 0, 0⟩,
  ⟨B #[115, 101, 110, 100], false, true, false, false, 0, 1000000000000000, 0, 0⟩,
  ⟨B #[114, 101, 99, 118], false, true, false, false, 0, 1000000000000000, 0, 0⟩,
  ⟨B #[114, 117, 110], false, true, false, false, 0, 63, 0, 0⟩,
  ⟨B #[115, 116, 111, 112], false, true, true, false, 0, 3, 0, 1000000000000000⟩,
  ⟨B #[119, 97, 107, 101], false, true, false, false, 0, 1000000000000000, 0, 0⟩,
  ⟨B #[97, 108, 108, 111, 99], false, true, true, true, 0, 1000000000000000, 1, 1000000000000⟩,
  ⟨B #[102, 114, 101, 101], false, true, false, false, 0, 1000000000000000, 0, 0⟩]
def bQ (k : Int) : ot := if k < 1 ∨ 13 ≤ k then oP else nI.getD k.toNat oP
def ib (k : Int) : Bool := decide (1 ≤ k) && decide (k < 13)
def bY (l : List ByteArray) : Int := if 32 < l.length then 7 else if l.any (fun s => decide (be s ≠ 0)) then 3 else 0
def jz (f : ot) (e : Ev) : Int := if f.name then be e.name else bY e.stack
def cK (e : Ev) : Int :=
  if e.time < 0 ∨ 1000000000000 < e.time then 2
  else if ib e.kind = false ∨ ((bQ e.kind).name = false ∧ e.name ≠ B #[]) ∨ ((bQ e.kind).n = false ∧ e.n ≠ 0) ∨ ((bQ e.kind).m = false ∧ e.m ≠ 0) ∨ ((bQ e.kind).stack = false ∧ 0 < e.stack.length) then 1
  else if jz (bQ e.kind) e ≠ 0 then jz (bQ e.kind) e
  else if (bQ e.kind).n = true ∧ (e.n < (bQ e.kind).least ∨ (bQ e.kind).most < e.n) then 2
  else if e.kind = 9 ∧ e.n ≠ 2 ∧ e.m ≠ 0 then 1
  else if (bQ e.kind).m = true ∧ (e.m < (bQ e.kind).mLeast ∨ (bQ e.kind).mMost < e.m) ∧ (e.kind ≠ 9 ∨ e.n = 2) then 2
  else 0
/-! the reference's way -/
def iL (k : Int) : Bool := decide (k = 1) || decide (k = 3) || decide (k = 4)
def oE (k : Int) : Bool := decide (4 ≤ k)
def oJ (k : Int) : Bool := decide (k = 9) || decide (k = 11)
def fC (k : Int) : Bool := decide (k = 5) || decide (k = 11)
def within (n lo hi : Int) : Int := if n < lo ∨ hi < n then 2 else 0
def eG (e : Ev) : Int :=
  if e.kind = 1 ∨ e.kind = 2 ∨ e.kind = 3 then 0
  else if e.kind = 4 then within e.n (-1000000000000000) 1000000000000000
  else if e.kind = 5 then within e.n 1 1000000000000
  else if e.kind = 8 then within e.n 0 63
  else if e.kind = 9 then
    if within e.n 0 3 = 0 ∧ e.n = 2 then within e.m 0 1000000000000000
    else if within e.n 0 3 = 0 ∧ e.m ≠ 0 then 1 else within e.n 0 3
  else if within e.n 0 1000000000000000 = 0 ∧ e.kind = 11 then within e.m 1 1000000000000
  else within e.n 0 1000000000000000
def dY (e : Ev) : Int :=
  if e.time < 0 ∨ 1000000000000 < e.time then 2
  else if e.kind < 1 ∨ 12 < e.kind then 1
  else if (iL e.kind = false ∧ e.name ≠ B #[]) ∨ (oE e.kind = false ∧ e.n ≠ 0) ∨ (oJ e.kind = false ∧ e.m ≠ 0) ∨ (fC e.kind = false ∧ 0 < e.stack.length) then 1
  else if fC e.kind = true ∧ bY e.stack ≠ 0 then bY e.stack
  else if fC e.kind = false ∧ iL e.kind = true ∧ be e.name ≠ 0 then be e.name
  else eG e
theorem kinds {k : Int} (h1 : 1 ≤ k) (h2 : k < 13) : k = 1 ∨ k = 2 ∨ k = 3 ∨ k = 4 ∨ k = 5 ∨ k = 6 ∨ k = 7 ∨ k = 8 ∨ k = 9 ∨ k = 10 ∨ k = 11 ∨ k = 12 := by omega
theorem sD : bY [] = 0 := rfl
theorem uF (e : Ev) : dY e = cK e := by
  unfold dY cK
  by_cases ht : e.time < 0 ∨ 1000000000000 < e.time
  · rw [if_pos ht, if_pos ht]
  rw [if_neg ht, if_neg ht]
  by_cases hk : 1 ≤ e.kind ∧ e.kind < 13
  · rw [if_neg (by omega)]
    have hst : ∀ l : List ByteArray, ¬ 0 < l.length → l = [] := fun l h => List.eq_nil_of_length_eq_zero (by omega)
    rcases kinds hk.1 hk.2 with h | h | h | h | h | h | h | h | h | h | h | h <;>
      simp only [h, iL, oE, oJ, fC, eG, within, ib, bQ, jz] <;> simp [nI, oP] <;> grind [sD]
  · have : ib e.kind = false := by simp [ib]; omega
    rw [if_pos (by omega), if_pos (.inl this)]
end Go.Tb
namespace Go.Tb
open Go.Ab
section
variable {P : Program} {T : bm P} {l : List D}
variable {te ti tk ts tsl o1 o2 o3 o4 o5 o6 : Nat} {n1 n2 n3 n4 n5 n6 : String}
end
end Go.Tb
namespace Go.Ab
open Go.RowKit
theorem mV (cur : Array Value) (c : List Value) (p i : Nat) (h : p + c.length ≤ cur.size) :
    (cur.toList.take p ++ c ++ cur.toList.drop (p + c.length)).toArray[i]? = if p ≤ i ∧ i < p + c.length then c[i - p]? else cur[i]? := by
  have e1 : (cur.toList.take p).length = p := by simp; omega
  rw [List.getElem?_toArray]
  rcases Nat.lt_or_ge i p with hi | hi
  · rw [if_neg (by omega), List.append_assoc, List.getElem?_append_left (by omega), List.getElem?_take, if_pos hi]; simp
  · rcases Nat.lt_or_ge i (p + c.length) with hi2 | hi2
    · rw [if_pos ⟨hi, hi2⟩, List.append_assoc, List.getElem?_append_right (by omega), List.getElem?_append_left (by omega), e1]
    · rw [if_neg (by omega), List.append_assoc, List.getElem?_append_right (by omega), List.getElem?_append_right (by omega), List.getElem?_drop, e1]
      have : p + c.length + (i - p - c.length) = i := by omega
      rw [this]; simp
theorem qF (cur : Array Value) (c : List Value) (p : Nat) (h : p + c.length ≤ cur.size) : (cur.toList.take p ++ c ++ cur.toList.drop (p + c.length)).toArray.size = cur.size := by
  simp; omega
def jo (e : List D) (off : Nat) (cs : List D) : List D := e.take off ++ cs ++ e.drop (off + cs.length)
theorem vR {e cs : List D} {off : Nat} (h : off + cs.length ≤ e.length) : (jo e off cs).length = e.length := by simp [jo]; omega
theorem uP {e cs : List D} {off i : Nat} (h : off + cs.length ≤ e.length) : (jo e off cs)[i]? = if off ≤ i ∧ i < off + cs.length then cs[i - off]? else e[i]? := by
  have e1 : (e.take off).length = off := by simp; omega
  unfold jo
  rcases Nat.lt_or_ge i off with hi | hi
  · rw [if_neg (by omega), List.append_assoc, List.getElem?_append_left (by omega), List.getElem?_take, if_pos hi]
  · rcases Nat.lt_or_ge i (off + cs.length) with hi2 | hi2
    · rw [if_pos ⟨hi, hi2⟩, List.append_assoc, List.getElem?_append_right (by omega), List.getElem?_append_left (by omega), e1]
    · rw [if_neg (by omega), List.append_assoc, List.getElem?_append_right (by omega), List.getElem?_append_right (by omega), List.getElem?_drop, e1]
      have : off + cs.length + (i - off - cs.length) = i := by omega
      rw [this]
theorem dC {tmps : Array Value} {d : Nat} {v : Value} (h : tmps[d]? = some v) : tmps.setIfInBounds d v = tmps := by
  apply Array.ext_getElem?
  intro i
  rw [Array.getElem?_setIfInBounds]
  split
  · rename_i e
    subst e
    split
    · exact h.symm
    · rename_i hlt; exact absurd (Array.getElem?_eq_some_iff.1 h).1 hlt
  · rfl
section
variable {C : Ctx} {n : Nat} {st : St} {G : Gh} {tmps : Array Value} {w : World}
theorem dI.len (hs : ar C n st G tmps w) {g : Nat} {r : Row} (hg : G.own g = some r) {pv : Nat → Nat → Prop} {v : Value} {es : List (List D)} (h : dI w pv r v es) :
    ∃ a cap, v = .slice a es.length cap ∧ es.length ≤ cap ∧ es.length ≤ maxLen := by
  cases r with
  | nil => obtain ⟨rfl, rfl⟩ := h; exact ⟨none, 0, rfl, Nat.le_refl _, by simp⟩
  | zero b => obtain ⟨rfl, rfl⟩ := h; exact ⟨_, 0, rfl, Nat.le_refl _, by simp⟩
  | mp b bs => exact h.elim
  | blk b len cap sz pub =>
    obtain ⟨rfl, h2, _⟩ := h
    obtain ⟨_, _, _, _, _, _, _, h3, h4, _⟩ := hs.row g b len cap sz pub hg
    exact ⟨_, cap, by rw [h2], by omega, by omega⟩
theorem ar.xh (h : ar C n st G tmps w) {g : Nat} {r : Row} (hg : G.own g = some r) {es : List (List D)} {v : Value} (hx : dI w (aN C G) r v es) (lv : List Nat) (hlv : ∀ g' ∈ lv, g' ∈ st.lv ∧ g' ≠ g) :
    iG false C n st G tmps lv es v w w := by
  cases r with
  | mp b bs => exact hx.elim
  | nil =>
    obtain ⟨rfl, rfl⟩ := hx
    exact h.kC (m := false) hg ⟨.nil, 0, by simp, rfl, rfl⟩ lv hlv
  | zero b =>
    obtain ⟨rfl, rfl⟩ := hx
    exact h.kC (m := false) hg ⟨.emp _ 0 (by simp), 0, by simp, 0, rfl⟩ lv hlv
  | blk b len cap sz pub =>
    obtain ⟨rfl, hlen, rfl, hl, hr⟩ := hx
    obtain ⟨hmine, hnb, huniq, cur, T, hcur, hcs, hlc, hcm, hz, hpos, _, hone⟩ := h.row g b len cap sz 0 hg
    let own' : Nat → Option Row := fun g' => if g' = st.gen then some (.blk b len cap sz (len * sz)) else if g' = g then none else G.own g'
    have hgl := h.gown g _ hg
    have hpv : ∀ b' o, aN C ⟨G.box, own'⟩ b' o → aN C G b' o := by
      rintro b' o (hp | hp | ⟨g', len', cap', sz', pub', hp, hl'⟩ | ⟨g', b2, bs, lim, hp, hm, hl'⟩)
      · exact .inl hp
      · exact .inr (.inl hp)
      · simp only [own'] at hp
        split at hp
        · simp only [Option.some.injEq, Row.blk.injEq] at hp
          obtain ⟨rfl, rfl, rfl, rfl, rfl⟩ := hp
          exact .inr (.inr (.inl ⟨g, len, cap, sz, 0, hg, Nat.zero_le _⟩))
        · split at hp
          · cases hp
          · exact .inr (.inr (.inl ⟨g', len', cap', sz', pub', hp, hl'⟩))
      · simp only [own'] at hp
        split at hp
        · cases hp
        · split at hp
          · cases hp
          · exact .inr (.inr (.inr ⟨g', b2, bs, lim, hp, hm, hl'⟩))
    have hle : (ao C G st.gen w).le (ao C ⟨G.box, own'⟩ (st.gen + 1) w) := gf h.fr h.fr (fun b o u hu hn => ⟨hu, fun hp => hn (hpv b o hp)⟩) (fun _ _ h => h)
      (fun g' r' hg' hr' => by
        simp only [own', if_neg (Nat.ne_of_lt hg')] at hr'
        split at hr'
        · cases hr'
        · exact hr') (Nat.le_succ _) (fun _ _ _ _ _ _ _ _ => rfl) (fun _ _ _ _ _ => ⟨rfl, fun _ _ => rfl⟩) (.refl w)
    refine ⟨⟨⟨G.box, own'⟩, rfl, { size := h.size, frame := h.ck hle, inj := h.inj, xold := h.xold, kold := h.kold, lent := h.lent, fr := h.fr, gcell := h.gcell, box := ?_, gbox := ?_, live := ?_, gown := ?_, row := ?_, mrow := ?_, sub := ?_ }, ?_⟩⟩
    · intro g' cells hc
      obtain ⟨b, cs, T, h1, h2, h3, h4, h5⟩ := h.box g' cells hc
      exact ⟨b, cs, T, h1, h2, h3, h4, fun i u a hu ha => (h5 i u a hu ha).mono hle⟩
    · intro g' b hb
      obtain ⟨h1, h2⟩ := h.gbox g' b hb
      exact ⟨Nat.lt_succ_of_lt h1, h2⟩
    · intro g' hg'
      rcases List.mem_cons.1 hg' with rfl | hg'
      · exact ⟨_, by simp [own']; rfl⟩
      · obtain ⟨h1, h2⟩ := hlv g' hg'
        obtain ⟨r', hr'⟩ := h.live g' h1
        exact ⟨r', by simp only [own', if_neg (Nat.ne_of_lt (h.gown g' r' hr')), if_neg h2]; exact hr'⟩
    · intro g' r' hr'
      simp only [own'] at hr'
      split at hr'
      · simp only; omega
      · split at hr'
        · cases hr'
        · exact Nat.lt_succ_of_lt (h.gown g' r' hr')
    · intro g' b' len' cap' sz' pub' hr'
      simp only [own'] at hr'
      split at hr'
      · rename_i e
        simp only [Option.some.injEq, Row.blk.injEq] at hr'
        obtain ⟨rfl, rfl, rfl, rfl, rfl⟩ := hr'
        refine ⟨⟨hmine.1, fun o ho => absurd (hmine.2 o ho) (Nat.not_lt_zero _)⟩, hnb, fun g2 len2 cap2 sz2 pub2 h2 => ?_, cur, T, hcur, hcs, hlc, hcm, hz, hpos, Nat.le_refl _, hone⟩
        simp only [own'] at h2
        split at h2
        · omega
        · split at h2
          · cases h2
          · rename_i e1 e2; exact absurd (huniq g2 len2 cap2 sz2 pub2 h2) e2
      · split at hr'
        · cases hr'
        · rename_i e1 e2
          obtain ⟨h4, h5, h6, h7⟩ := h.row g' b' len' cap' sz' pub' hr'
          have hne : b' ≠ b := fun e => by subst e; exact e2 (huniq g' len' cap' sz' pub' hr')
          refine ⟨h4, h5, fun g2 len2 cap2 sz2 pub2 h2 => ?_, h7⟩
          simp only [own'] at h2
          split at h2
          · simp only [Option.some.injEq, Row.blk.injEq] at h2; exact absurd h2.1.symm hne
          · split at h2
            · cases h2
            · exact h6 g2 len2 cap2 sz2 pub2 h2
    · intro g' b' bs hr'
      have un : ∀ g2 b' bs, own' g2 = some (.mp b' bs) → G.own g2 = some (.mp b' bs) := by
        intro g2 b' bs h2
        simp only [own'] at h2
        split at h2
        · cases h2
        · split at h2
          · cases h2
          · exact h2
      obtain ⟨h4, h4b, h5, h6⟩ := h.mrow g' b' bs (un _ _ _ hr')
      exact ⟨h4, h4b, fun g2 bs2 h2 => h5 g2 bs2 (un _ _ _ h2), h6⟩
    · intro g' b' bs c lim hr' hm
      have un : ∀ g2 b' bs, own' g2 = some (.mp b' bs) → G.own g2 = some (.mp b' bs) := by
        intro g2 b' bs h2
        simp only [own'] at h2
        split at h2
        · cases h2
        · split at h2
          · cases h2
          · exact h2
      obtain ⟨h4, h5, h6, h7, h8⟩ := h.sub g' b' bs c lim (un _ _ _ hr') hm
      have hne : c ≠ b := fun e => h6 g _ _ _ _ (by rw [e]; exact hg)
      refine ⟨h4, h5, fun g2 len2 cap2 sz2 pub2 h2 => ?_, fun g2 b2 bs2 lim2 h2 hm2 => h7 g2 b2 bs2 lim2 (un _ _ _ h2) hm2, h8⟩
      simp only [own'] at h2
      split at h2
      · simp only [Option.some.injEq, Row.blk.injEq] at h2; exact hne h2.1.symm
      · split at h2
        · cases h2
        · exact h6 g2 _ _ _ _ h2
    · subst hlen
      refine .own _ _ es (aF.ofRow hcur hlc hcm hl (fun t ht hp => ?_) (fun i j e d hi hj => ?_)) (by simp [ao]) (fun r' hr' => ?_)
      · rcases (hp : aN C ⟨G.box, own'⟩ b t) with hp | ⟨g', hp⟩ | ⟨g', len', cap', sz', pub', hp, hl'⟩ | ⟨g', b', bs, lim, hp, hm', _⟩
        rotate_right
        · simp only [own'] at hp
          split at hp
          · cases hp
          · split at hp
            · cases hp
            · exact (h.sub g' b' bs b lim hp hm').2.2.1 g _ _ _ _ hg
        · have := h.xold _ _ hp; rcases hmine.1 with hm | hm
          · omega
          · exact this.2 hm
        · exact hnb g' hp
        · simp only [own'] at hp
          split at hp
          · simp only [Option.some.injEq, Row.blk.injEq] at hp
            obtain ⟨_, rfl, rfl, rfl, rfl⟩ := hp
            omega
          · split at hp
            · cases hp
            · rename_i e1 e2; exact e2 (huniq g' len' cap' sz' pub' hp)
      · obtain ⟨u, h1, h2⟩ := hr i j e d hi hj
        rw [bj hcur] at h1
        exact ⟨u, h1, h2.mono hle.cell⟩
      · have hr2 : own' st.gen = some r' := hr'
        simp only [own', if_true, Option.some.injEq] at hr2
        subst hr2
        exact ⟨sz, hl, rfl, rfl, rfl, rfl⟩
theorem ar.zi (h : ar C n st G tmps w) {g b len cap sz : Nat} (hg : G.own g = some (.blk b len cap sz 0)) {es : List (List D)} {v : Value} (hx : dI w (aN C G) (.blk b len cap sz 0) v es) {j off : Nat} {e cs : List D} (he : es[j]? = some e)
    {vc : Array Value} (hc : bJ (ao C G st.gen w) vc (cs.map .d)) (hle : off + cs.length ≤ e.length) (lv : List Nat) (hlv : ∀ g' ∈ lv, g' ∈ st.lv ∧ g' ≠ g) :
    ∃ cur T, w.heap[b]? = some (.cells cur T (0, 0)) ∧ (j * sz + off) + vc.toList.length ≤ cur.size ∧
      iG true C n st G tmps lv (es.set j (jo e off cs)) v w (w.setRow b (cur.toList.take (j * sz + off) ++ vc.toList ++ cur.toList.drop ((j * sz + off) + vc.toList.length)).toArray) := by
  obtain ⟨rfl, hlen, _, hl, hr⟩ := hx
  obtain ⟨hmine, hnb, huniq, cur, T, hcur, hcs, hlc, hcm, hz, hpos, _, hone⟩ := h.row g b len cap sz 0 hg
  have hj : j < len := by rw [← hlen]; exact (List.getElem?_eq_some_iff.1 he).1
  have hel : e.length = sz := hl e (List.mem_of_getElem? he)
  have hvc : vc.toList.length = cs.length := by have := hc.1; simpa using this
  have hfit : (j * sz + off) + vc.toList.length ≤ cur.size := by
    rw [hvc, hcs]
    have h1 : (j + 1) * sz ≤ cap * sz := Nat.mul_le_mul_right _ (by omega)
    rw [Nat.succ_mul] at h1
    omega
  refine ⟨cur, T, hcur, hfit, ?_⟩
  have hlen' : (es.set j (jo e off cs)).length = len := by rw [List.length_set]; exact hlen
  have := h.nC true (g := g) (b := b) (len := len) (cap := cap) (sz := sz) (es := es.set j (jo e off cs)) (by simpa [dS] using hg) hcur (qF cur vc.toList _ hfit) (jl hone fun u hu => by obtain ⟨i, hi⟩ := List.mem_iff_getElem?.1 hu; exact hc.2.1 i u (by simpa using hi)) (fun t ht => by simp [dS] at ht) (by omega) (by omega) (fun x hx => ?_) (fun i k x d hi hk => ?_) lv hlv
  · rw [hlen'] at this
    exact this
  · rcases List.mem_or_eq_of_mem_set hx with hx | rfl
    · exact hl x hx
    · rw [vR hle]; exact hel
  · rw [List.getElem?_set] at hi
    have hcell : ∀ i k u, cellAt w b (i * sz + k) = some u → cur[i * sz + k]? = some u := fun i k u hu => by rw [bj hcur] at hu; exact hu
    by_cases hij : j = i
    · subst hij
      rw [if_pos rfl, if_pos (by omega)] at hi
      simp only [Option.some.injEq] at hi
      subst hi
      rw [uP hle] at hk
      rw [mV cur vc.toList _ _ hfit, hvc]
      by_cases hin : off ≤ k ∧ k < off + cs.length
      · rw [if_pos hin] at hk
        rw [if_pos (by omega)]
        have e1 : j * sz + k - (j * sz + off) = k - off := by omega
        rw [e1]
        have hlt : k - off < vc.size := by have := (List.getElem?_eq_some_iff.1 hk).1; simp at hvc; omega
        have hu : vc[k - off]? = some vc[k - off] := by simp [hlt]
        have h3 := hc.2.2 (k - off) _ (.d d) hu (by rw [List.getElem?_map, hk]; rfl)
        revert h3 hu
        generalize vc[k - off] = u
        intro hu h3
        cases h3 with
        | d h3 => exact ⟨_, by rw [Array.getElem?_toList]; exact hu, h3⟩
      · rw [if_neg hin] at hk
        rw [if_neg (by omega)]
        obtain ⟨u, h1, h2⟩ := hr j k e d he hk
        exact ⟨u, hcell j k u h1, h2⟩
    · rw [if_neg hij] at hi
      obtain ⟨u, h1, h2⟩ := hr i k x d hi hk
      have hil : i < len := by rw [← hlen]; exact (List.getElem?_eq_some_iff.1 hi).1
      have hkl : k < sz := by rw [← hl x (List.mem_of_getElem? hi)]; exact (List.getElem?_eq_some_iff.1 hk).1
      rw [mV cur vc.toList _ _ hfit, hvc, if_neg]
      · exact ⟨u, hcell i k u h1, h2⟩
      · rintro ⟨h3, h4⟩
        rcases Nat.lt_or_gt_of_ne hij with hlt | hgt
        · have : (j + 1) * sz ≤ i * sz := Nat.mul_le_mul_right _ hlt
          rw [Nat.succ_mul] at this
          omega
        · have : (i + 1) * sz ≤ j * sz := Nat.mul_le_mul_right _ hgt
          rw [Nat.succ_mul] at this
          omega
end
section
variable {P : Program} (T : bm P) {C : Ctx} {n : Nat} {tmps : Array Value} {w : World} {G : Gh} {ops : Array Oper} {Q : Exit → St → Prop} {st : St} {o : Oper} {rest : List Oper}
theorem WO.xu (hg : o.guard = none) (hd : cZ n o.dst = true) {x y : Operand} {t e : Nat} {td ed : bo} (ho : o.op = .call ⟨.builtin .append, #[x, y], #[t, t]⟩) (ht : ak T.l t = some td) (hk : td.k = .slice e) (he : ak T.l e = some ed)
    {g : Nat} {es es2 : List (List D)} (hx : av st.f x = some (.xs g es)) (hgl : g ∈ st.lv) {b : A} (hy : av st.f y = some b) (hb2 : fa b = some es2) (hz : Nat.blt 0 ed.n = true) (hb0 : Nat.blt 0 ed.b = true)
    (hl : ∀ (x : List D), x ∈ es ++ es2 → x.length = ed.n) (hb : (es.length + es2.length) * ed.b ≤ 140737488355328)
    (h : WO P C n ops Q rest (St.put { st with lv := st.gen :: bg st.lv g, gen := st.gen + 1 } o.dst (.xs st.gen (es ++ es2)))) : WO P C n ops Q (o :: rest) st := by
  refine WO.step hg fun tmps w ⟨G, hs⟩ => ?_
  have hr := hs.av hx
  have hr2 := eR hb2 (hs.av hy)
  obtain ⟨r, hgr⟩ := hs.live g hgl
  generalize hv : Act.eval ⟨tmps, []⟩ x = v at hr
  cases hr with
  | xs _ _ _ hgg h1 hrow =>
  have hx0 := hrow r hgr
  obtain ⟨a, cap, h2, h3, _⟩ := dI.len hs hgr hx0
  obtain ⟨v', w', hrun, ⟨G', _, hs', hv'⟩⟩ := je T true hs ht hk he ⟨a, cap, h2, h3⟩ hr2 (.own g r hgr ⟨h1, hx0⟩) hl (Nat.le_of_ble_eq_true hz) (Nat.le_of_ble_eq_true hb0) hb o.type
  rw [← hv] at hrun
  exact cd (jj ho hrun) ⟨_, ⟨G', hs'.put (bL hd) hv'⟩, h⟩
theorem W.sO {c : Code} {d : Nat} (hl : look st.f d = some (.d (.v (.slice none 0 0)))) (hd : Nat.blt d n = true) (h : W P C n c Q (St.set { st with lv := st.gen :: st.lv, gen := st.gen + 1 } d (.xs st.gen []))) : W P C n c Q st := by
  intro tmps w ⟨G, hs⟩
  obtain ⟨v, hv, hr⟩ := hs.frame _ _ hl
  cases hr with | d hr => cases hr with | v _ _ =>
  obtain ⟨⟨G', _, hs', hv'⟩⟩ := hs.jy true st.lv (fun _ h => h)
  refine h tmps w ⟨G', ?_⟩
  have := hs'.set (d := d) (Nat.le_of_ble_eq_true hd) hv'
  rwa [dC hv] at this
theorem W.freeze {c : Code} {d g : Nat} {es : List (List D)} (hl : look st.f d = some (.xs g es)) (hgl : g ∈ st.lv) (hd : Nat.blt d n = true)
    (h : W P C n c Q (St.set { st with lv := st.gen :: bg st.lv g, gen := st.gen + 1 } d (.own st.gen es))) : W P C n c Q st := by
  intro tmps w ⟨G, hs⟩
  obtain ⟨v, hv, hr⟩ := hs.frame _ _ hl
  obtain ⟨r, hgr⟩ := hs.live g hgl
  cases hr with
  | xs _ _ _ hgg h1 hrow =>
  obtain ⟨⟨G', _, hs', hv'⟩⟩ := hs.xh hgr (hrow r hgr) (bg st.lv g) (fun g' hg' => bR hg')
  refine h tmps w ⟨G', ?_⟩
  have := hs'.set (d := d) (Nat.le_of_ble_eq_true hd) hv'
  rwa [dC hv] at this
theorem Pu.vJ {x : Operand} {t e : Nat} {td : bo} (ho : o.op = .call ⟨.builtin .len, #[x], #[t]⟩) (ht : ak T.l t = some td) (hk : td.k = .slice e) {g : Nat} {es : List (List D)} (hx : av st.f x = some (.xs g es)) (hgl : g ∈ st.lv) :
    Pu P C n st o (.d (.v (.int .i64 es.length))) := by
  refine cA.pu fun G tmps w hs => ?_
  have hr := hs.av hx
  obtain ⟨r, hgr⟩ := hs.live g hgl
  generalize hv : Act.eval ⟨tmps, []⟩ x = v at hr
  cases hr with
  | xs _ _ _ hgg h1 hrow =>
  obtain ⟨a, cap, h2, _, hlen⟩ := dI.len hs hgr (hrow r hgr)
  refine ⟨.int .i64 es.length, ?_, .d (.v _ ?_)⟩
  · unfold execOp
    rw [ho]
    show Sem.run P (do let d ← resolve (Act.eval ⟨tmps, []⟩) ⟨.builtin .len, #[x], #[t]⟩ o.type; invoke d.target d.args) w = _
    simp only [resolve, List.map_toArray, List.map_cons, List.map_nil, hv, h2, Sem.run_bind, Sem.run_pure, Result.andThen_ok, invoke, builtin, Builtin.len_]
    simp [run_underlying (T.dX ht hk), goInt]
    rfl
  · simp only [maxLen] at hlen
    simp [bK, IntKind.min, IntKind.max, IntKind.signed, IntKind.bits]
    omega
theorem Pu.pK {t e : Nat} {x ix : Operand} (ho : o.op = .indexAddr t x ix) {td ed : bo} (ht : ak T.l t = some td) (hk : td.k = .slice e) (he : ak T.l e = some ed) {g : Nat} {es : List (List D)} (hx : av st.f x = some (.xs g es)) (hgl : g ∈ st.lv)
    {k : IntKind} {i : Int} (hi : av st.f ix = some (.d (.v (.int k i)))) (h0 : 0 ≤ i) {l : List D} (hl : es[i.toNat]? = some l) (hlen : l.length = ed.n) : Pu P C n st o (.xp g i.toNat 0 l) := by
  refine cA.pu fun G tmps w hs => ?_
  have hu := T.dX ht hk
  have hrx := hs.av hx
  have hri := hs.av hi
  obtain ⟨r, hgr⟩ := hs.live g hgl
  generalize hvi : Act.eval ⟨tmps, []⟩ ix = vi at hri
  cases hri with | d hri => cases hri with | v _ _ =>
  have hlt : i.toNat < es.length := (List.getElem?_eq_some_iff.1 hl).1
  generalize hvx : Act.eval ⟨tmps, []⟩ x = vx at hrx
  cases hrx with
  | xs _ _ _ hgg h1 hrow =>
  have hx0 := hrow r hgr
  cases r with
  | nil => obtain ⟨_, h2⟩ := hx0; rw [h2] at hlt; simp at hlt
  | zero b => obtain ⟨_, h2⟩ := hx0; rw [h2] at hlt; simp at hlt
  | mp b bs => exact hx0.elim
  | blk b len cap sz pub =>
    obtain ⟨rfl, h2, h3, h4, h5⟩ := hx0
    have hsz : sz = ed.n := by rw [← h4 _ (List.mem_of_getElem? hl), hlen]
    subst hsz
    refine ⟨.pointer (some ⟨b, i.toNat * ed.n, none⟩), ?_, .xp _ g _ 0 l hgg rfl (fun r' hr' => ?_)⟩
    · unfold execOp
      rw [ho]
      show Sem.run P _ w = .ok _ w
      have hc2 : 0 ≤ i ∧ i < (len : Int) := ⟨h0, by omega⟩
      simp only [hvi, hvx, Instr.indexAt, asIntOf, Sem.run_bind, Sem.run_pure, Result.andThen_ok, run_underlying hu, hc2, and_self, if_true, T.sizeOf he]
      unfold Addr.add
      split
      · rename_i e; rw [e]
      · simp
    · have e2 : r' = .blk b len cap ed.n pub := Option.some.inj ((hr' : G.own g = some r').symm.trans hgr)
      subst e2
      refine ⟨rfl, by omega, by rw [Nat.zero_add]; exact hlen, fun j d hj => ?_⟩
      obtain ⟨u, h6, h7⟩ := h5 _ _ _ _ hl hj
      exact ⟨u, by rw [Nat.add_zero]; exact h6, h7⟩
theorem Pu.jx {t i : Nat} {x : Operand} (ho : o.op = .fieldAddr t x i) {fo ft m : Nat} (hf : km T t i = some (fo, ft)) (hsz : cc T ft = m + 1) {g j off : Nat} {l : List D} (hx : av st.f x = some (.xp g j off l)) (hgl : g ∈ st.lv) (hle : fo ≤ l.length) :
    Pu P C n st o (.xp g j (off + fo) (l.drop fo)) := by
  refine cA.pu fun G tmps w hs => ?_
  have hr := hs.av hx
  obtain ⟨r, hgr⟩ := hs.live g hgl
  generalize hv : Act.eval ⟨tmps, []⟩ x = v at hr
  cases hr with
  | xp _ _ _ _ _ hgg h1 hrow =>
  have hx0 := hrow r hgr
  cases r with
  | nil => exact hx0.elim
  | zero b => exact hx0.elim
  | mp b bs => exact hx0.elim
  | blk b len cap sz pub =>
    obtain ⟨rfl, h2, h3, h4⟩ := hx0
    have hrun : (Instr.fieldAt t (.pointer (some ⟨b, j * sz + off, none⟩)) i).run P w = .ok (.pointer (some ⟨b, j * sz + (off + fo), none⟩)) w := by
      have := gw T hf hsz b (j * sz + off) w
      rwa [Nat.add_assoc] at this
    refine ⟨.pointer (some ⟨b, j * sz + (off + fo), none⟩), ?_, .xp _ g j (off + fo) (l.drop fo) hgg rfl (fun r' hr' => ?_)⟩
    · unfold execOp
      rw [ho]
      show Sem.run P _ w = .ok _ w
      simp only [hv, Sem.run_bind, hrun, Result.andThen_ok, Sem.run_pure]
    · have e2 : r' = .blk b len cap sz pub := Option.some.inj ((hr' : G.own g = some r').symm.trans hgr)
      subst e2
      refine ⟨rfl, h2, by simp; omega, fun k d hk => ?_⟩
      rw [List.getElem?_drop] at hk
      obtain ⟨u, h5, h6⟩ := h4 _ _ hk
      refine ⟨u, ?_, h6⟩
      have e3 : j * sz + (off + fo) + k = j * sz + off + (fo + k) := by omega
      rw [e3]
      exact h5
theorem Pu.oH {t : Nat} {x : Operand} (ho : o.op = .load t x) {g j off : Nat} {l : List D} (hx : av st.f x = some (.xp g j off l)) (hgl : g ∈ st.lv) {a : A} (ha : cP T t l = some a) : Pu P C n st o a := by
  refine cA.pu fun G tmps w hs => ?_
  have hr := hs.av hx
  obtain ⟨r, hgr⟩ := hs.live g hgl
  generalize hv : Act.eval ⟨tmps, []⟩ x = v at hr
  cases hr with
  | xp _ _ _ _ _ hgg h1 hrow =>
  have hx0 := hrow r hgr
  cases r with
  | nil => exact hx0.elim
  | zero b => exact hx0.elim
  | mp b bs => exact hx0.elim
  | blk b len cap sz pub =>
    obtain ⟨rfl, h2, h3, h4⟩ := hx0
    have hcell : ∀ k, k < l.length → ∃ u, cellAt w b (j * sz + off + k) = some u := fun k hk => by
      obtain ⟨u, h5, _⟩ := h4 k l[k] (by simp [hk])
      exact ⟨u, h5⟩
    have key := gY (E := ao C G st.gen w) T (t := t) (a := a) (b := b) (off := j * sz + off) (l := l) (u := fun k => (cellAt w b (j * sz + off + k)).getD default)
      (fun k hk => by obtain ⟨u, hu⟩ := hcell k hk; show cellAt w b _ = _; rw [hu]; rfl) (fun k y hk => by
        obtain ⟨u, h5, h6⟩ := h4 k y hk
        have h5' : cellAt w b (j * sz + off + k) = some u := h5
        rw [h5']
        exact h6) ha
    obtain ⟨v, h5, h6⟩ := key
    refine ⟨v, ?_, h6⟩
    rw [gv ho]
    show Sem.run P _ w = .ok _ w
    have h5' : (Instr.loadAt t (.pointer (some ⟨b, j * sz + off, none⟩))).run P w = .ok v w := h5
    simp only [hv, Sem.run_bind, h5', Result.andThen_ok, Sem.run_pure]
theorem qL {G : Gh} {tmps : Array Value} {w : World} (hs : ar C n st G tmps w) {t : TypeId} {x y : Operand} (ho : o.op = .store t x y) {g j off : Nat} {l : List D} (hx : av st.f x = some (.xp g j off l)) (hgl : g ∈ st.lv)
    {v : Value} {es : List (List D)} (hv : aA (ao C G st.gen w) v (.xs g es)) {e : List D} (he : es[j]? = some e) (hoff : off + l.length = e.length) {a : A} (ha : av st.f y = some a) {cs : List D} (hc : re a = some cs)
    (hsz : cc T t = cs.length) (hz : cs.length ≠ 0) (hle : cs.length ≤ l.length) :
    ∃ w', (execOp (Act.eval ⟨tmps, []⟩) o).run P w = .ok .skip w' ∧ iG true C n st G tmps (bg st.lv g) (es.set j (jo e off cs)) v w w' ∧ ∀ b' g', G.box g' = some b' → w'.heap[b']? = w.heap[b']? := by
  obtain ⟨r, hgr⟩ := hs.live g hgl
  have hrx := hs.av hx
  generalize hvx : Act.eval ⟨tmps, []⟩ x = vx at hrx
  cases hv with
  | xs _ _ _ _ _ hrow =>
  cases hrx with
  | xp _ _ _ _ _ _ _ hrow2 =>
  have hx1 := hrow r hgr
  have hx2 := hrow2 r hgr
  cases r with
  | nil => exact hx2.elim
  | zero b => exact hx2.elim
  | mp b bs => exact hx2.elim
  | blk b len cap sz pub =>
    have hp0 : pub = 0 := hx1.2.2.1
    subst hp0
    obtain ⟨rfl, _, _, _⟩ := hx2
    have hrc := ra hc (hs.av ha)
    obtain ⟨cur, T', hcur, hfit, hgrew⟩ := hs.zi hgr hx1 he (off := off) hrc (by omega) (bg st.lv g) (fun g' hg' => bR hg')
    have hst := run_storeCells_at P b (j * sz + off) T' (Act.eval ⟨tmps, []⟩ y).cells.toList 0 cur w hcur (by simpa using hfit) (fun u hu => by
      obtain ⟨i, hi⟩ := List.mem_iff_getElem?.1 hu
      exact hrc.2.1 i u (by simpa using hi))
    obtain ⟨d, hdt, hdn⟩ : ∃ d, ak T.l t = some d ∧ d.n = cs.length := by
      unfold cc at hsz
      split at hsz
      · rename_i d hdt; exact ⟨d, hdt, hsz⟩
      · exact absurd hsz.symm hz
    refine ⟨_, ?_, hgrew, fun b' g' hb' => setRow_other w b b' _ (fun e => (hs.row g b len cap sz 0 hgr).2.1 g' (e ▸ hb'))⟩
    unfold execOp
    rw [ho]
    show Sem.run P _ w = _
    simp only [hvx, Instr.storeAt, Instr.sureAddr, storeVar, Sem.run_bind, Sem.run_pure, Result.andThen_ok, T.sizeOf hdt]
    rw [if_neg (by rw [hdn]; have := hrc.1; simp at this ⊢; exact this)]
    simp only [Nat.add_zero] at hst
    simp only [hst, Result.andThen_ok]
theorem WO.qd (s : Nat) (hg : o.guard = none) (hd : cZ n o.dst = true) {t : TypeId} {x y : Operand} (ho : o.op = .store t x y) {g j off : Nat} {l : List D} (hx : av st.f x = some (.xp g j off l)) (hgl : g ∈ st.lv)
    {es : List (List D)} (hl : look st.f s = some (.xs g es)) (hsn : Nat.blt s n = true) {e : List D} (he : es[j]? = some e) (hoff : off + l.length = e.length) {a : A} (ha : av st.f y = some a) {cs : List D} (hc : re a = some cs)
    (hsz : cc T t = cs.length) (hz : Nat.blt 0 cs.length = true) (hle : cs.length ≤ l.length)
    (h : WO P C n ops Q rest (St.put (St.set { st with lv := st.gen :: bg st.lv g, gen := st.gen + 1 } s (.xs st.gen (es.set j (jo e off cs)))) o.dst .any)) : WO P C n ops Q (o :: rest) st := by
  refine WO.step hg fun tmps w ⟨G, hs⟩ => ?_
  obtain ⟨v, hv, hr⟩ := hs.frame s _ hl
  obtain ⟨w', hrun, ⟨G', _, hs', hv'⟩, _⟩ := qL (P := P) T hs ho hx hgl hr he hoff ha hc hsz (by have := Nat.le_of_ble_eq_true hz; omega) hle
  refine fN hrun ⟨_, ⟨G', ar.put ?_ (bL hd) (.any _)⟩, h⟩
  have := hs'.set (d := s) (Nat.le_of_ble_eq_true hsn) hv'
  rwa [dC hv] at this
end
end Go.Ab
namespace Go.Ab
section
variable {P : Program} {C : Ctx} {n : Nat} {Q : Exit → St → Prop} {c : Code} {f : List (Nat × A)} {bx : List (Nat × List A)} {lv : List Nat} {gen : Nat}
theorem aF.elem {w : World} {pv : Nat → Nat → Prop} {v : Value} {es : List (List D)} (h : aF w pv v (.sl es)) {k j : Nat} {e : List D} {x : Value} (he : es[k]? = some e) (hx : e[j]? = some (.v x)) : bK x = true := by
  cases h with
  | nil => simp at he
  | emp => simp at he
  | sl b off len cap sz es u hl hc hm hs hu hr =>
    have := hr k j e _ he hx
    generalize u k j = y at this
    cases this with | v _ ho => exact ho
theorem W.elem (t : Nat) {a : A} {es : List (List D)} {k j : Nat} {e : List D} {x : Value} (hl : look f t = some a) (hes : fa a = some es) (he : es[k]? = some e) (hx : e[j]? = some (.v x)) (h : bK x = true → W P C n c Q ⟨f, bx, lv, gen⟩) : W P C n c Q ⟨f, bx, lv, gen⟩ := by
  intro tmps w ⟨G, hs⟩
  obtain ⟨v, hv, hr⟩ := hs.frame t a hl
  exact h ((eR hes hr).elem he hx) tmps w ⟨G, hs⟩
theorem uv (g j : Nat) {cells cells' : List A} (hb : ak bx g = some cells) (hj : cells[j]? = some (.d (.v (.slice none 0 0)))) (hc : cells.set j (.d (.sl [])) = cells') (h : W P C n c Q ⟨f, (g, cells') :: bx, lv, gen⟩) : W P C n c Q ⟨f, bx, lv, gen⟩ := by
  subst hc
  intro tmps w ⟨G, hs⟩
  refine h tmps w ⟨G, ar.wJ hs hb (by simp) (fun i u a a' ha ha' hr => ?_)⟩
  rw [List.getElem?_set] at ha'
  split at ha'
  · rename_i e
    subst e
    rw [hj] at ha
    simp only [Option.some.injEq] at ha
    subst ha
    split at ha'
    · simp only [Option.some.injEq] at ha'
      subst ha'
      cases hr with | d hr => cases hr with | v _ _ => exact .d .nil
    · cases ha'
  · rw [ha] at ha'
    simp only [Option.some.injEq] at ha'
    subst ha'
    exact hr
end
end Go.Ab
namespace Go.Ab
open Go.RowKit
section
variable {P : Program} (T : bm P) {C : Ctx} {n : Nat} {ops : Array Oper} {Q : Exit → St → Prop} {rest : List Oper}
variable {f : List (Nat × A)} {bx : List (Nat × List A)} {lv : List Nat} {gen : Nat} {d : Nat} {op : Op} {ty : TypeId} {pos : String} {af : Array Edge} {a : A} {dst : Option Nat} {c : Code}
theorem cC {lv : List Nat} {g : Nat} (h : (lv.any fun h => Nat.beq h g) = true) : g ∈ lv := by
  obtain ⟨g', h1, h2⟩ := List.any_eq_true.1 h
  have : g' = g := Nat.eq_of_beq_eq_true h2
  exact this ▸ h1
theorem l4 {x y : Operand} {t e : Nat} {td ed : bo} {g : Nat} {es es2 : List (List D)} {b : A} (hx : av f x = some (.xs g es)) (hy : av f y = some b) (hb2 : fa b = some es2) (ht : ak T.l t = some td) (hk : td.k = .slice e) (he : ak T.l e = some ed)
    (hgl : (lv.any fun h => Nat.beq h g) = true) (hz : Nat.blt 0 ed.n = true) (hb0 : Nat.blt 0 ed.b = true) (hd : Nat.blt d n = true) {r : List (List D)} (hr : es ++ es2 = r) (hl : ∀ (x : List D), x ∈ es ++ es2 → x.length = ed.n)
    (hb : (es.length + es2.length) * ed.b ≤ 140737488355328) {lv' : List Nat} (hlv : gen :: bg lv g = lv')
    (h : WO P C n ops Q rest ⟨(d, .xs gen r) :: f, bx, lv', gen + 1⟩) : WO P C n ops Q (⟨some d, .call ⟨.builtin .append, #[x, y], #[t, t]⟩, ty, pos, af, none⟩ :: rest) ⟨f, bx, lv, gen⟩ := by
  subst hr; subst hlv
  exact WO.xu (st := ⟨f, bx, lv, gen⟩) T rfl hd rfl ht hk he hx (cC hgl) hy hb2 hz hb0 hl hb h
theorem vJ {x : Operand} {t e : Nat} {td : bo} {g : Nat} {es : List (List D)} (hx : av f x = some (.xs g es)) (ht : ak T.l t = some td) (hk : td.k = .slice e) (hgl : (lv.any fun h => Nat.beq h g) = true) :
    Pu P C n ⟨f, bx, lv, gen⟩ ⟨dst, .call ⟨.builtin .len, #[x], #[t]⟩, ty, pos, af, none⟩ (.d (.v (.int .i64 es.length))) :=
  Pu.vJ (st := ⟨f, bx, lv, gen⟩) T rfl ht hk hx (cC hgl)
theorem pK {t e : Nat} {x ix : Operand} {td ed : bo} {g : Nat} {es : List (List D)} {k : IntKind} {i : Int} {l : List D} (hx : av f x = some (.xs g es)) (hi : av f ix = some (.d (.v (.int k i)))) (ht : ak T.l t = some td) (hk : td.k = .slice e) (he : ak T.l e = some ed)
    (hgl : (lv.any fun h => Nat.beq h g) = true) (h0 : 0 ≤ i) (hl : es[i.toNat]? = some l) (hlen : l.length = ed.n) :
    Pu P C n ⟨f, bx, lv, gen⟩ ⟨dst, .indexAddr t x ix, ty, pos, af, none⟩ (.xp g i.toNat 0 l) :=
  Pu.pK (st := ⟨f, bx, lv, gen⟩) T rfl ht hk he hx (cC hgl) hi h0 hl hlen
theorem jx {t i : Nat} {x : Operand} {fo ft m : Nat} {g j off : Nat} {l : List D} (hx : av f x = some (.xp g j off l)) (hf : km T t i = some (fo, ft)) (hsz : cc T ft = m + 1) (hgl : (lv.any fun h => Nat.beq h g) = true) (hle : Nat.ble fo l.length = true) {l' : List D} (hl' : l.drop fo = l') :
    Pu P C n ⟨f, bx, lv, gen⟩ ⟨dst, .fieldAddr t x i, ty, pos, af, none⟩ (.xp g j (off + fo) l') :=
  hl' ▸ Pu.jx (st := ⟨f, bx, lv, gen⟩) T rfl hf hsz hx (cC hgl) (Nat.le_of_ble_eq_true hle)
theorem oH {t : Nat} {x : Operand} {g j off : Nat} {l : List D} (hx : av f x = some (.xp g j off l)) (hgl : (lv.any fun h => Nat.beq h g) = true) (ha : cP T t l = some a) :
    Pu P C n ⟨f, bx, lv, gen⟩ ⟨dst, .load t x, ty, pos, af, none⟩ a :=
  Pu.oH (st := ⟨f, bx, lv, gen⟩) T rfl hx (cC hgl) ha
theorem qd (s : Nat) {t : TypeId} {x y : Operand} {g j off : Nat} {l : List D} {es : List (List D)} {e : List D} {cs : List D} (hx : av f x = some (.xp g j off l)) (hl : look f s = some (.xs g es)) (ha : av f y = some a) (hc : re a = some cs) (he : es[j]? = some e) (hoff : off + l.length = e.length)
    (hgl : (lv.any fun h => Nat.beq h g) = true) (hsn : Nat.blt s n = true) (hsz : cc T t = cs.length) (hz : Nat.blt 0 cs.length = true) (hle : Nat.ble cs.length l.length = true) {es' : List (List D)} (hes : es.set j (jo e off cs) = es') {lv' : List Nat} (hlv : gen :: bg lv g = lv')
    (h : WO P C n ops Q rest ⟨(s, .xs gen es') :: f, bx, lv', gen + 1⟩) : WO P C n ops Q (⟨none, .store t x y, ty, pos, af, none⟩ :: rest) ⟨f, bx, lv, gen⟩ := by
  subst hes; subst hlv
  exact WO.qd (st := ⟨f, bx, lv, gen⟩) T s rfl rfl rfl hx (cC hgl) hl hsn he hoff ha hc hsz hz (Nat.le_of_ble_eq_true hle) h
theorem xF (s : Nat) {g : Nat} {es : List (List D)} (hl : look f s = some (.xs g es)) (hgl : (lv.any fun h => Nat.beq h g) = true) (hsn : Nat.blt s n = true) {lv' : List Nat} (hlv : gen :: bg lv g = lv')
    (h : W P C n c Q ⟨(s, .own gen es) :: f, bx, lv', gen + 1⟩) : W P C n c Q ⟨f, bx, lv, gen⟩ := by
  subst hlv
  exact W.freeze (st := ⟨f, bx, lv, gen⟩) hl (cC hgl) hsn h
theorem jQ (s : Nat) {a a' : A} {l : List Oper} (hl : look f s = some a) (hsn : Nat.blt s n = true) (ha : Ab.eD a = a') (h : WO P C n ops Q l ⟨(s, a') :: f, bx, lv, gen⟩) : WO P C n ops Q l ⟨f, bx, lv, gen⟩ := by
  subst ha
  intro tmps w ⟨G, hs⟩
  obtain ⟨v, hv, hr⟩ := hs.frame s _ hl
  refine h tmps w ⟨G, ?_⟩
  have := hs.set (d := s) (Nat.le_of_ble_eq_true hsn) hr.eD
  rwa [dC hv] at this
theorem ar.cellAt {st : St} {G : Gh} {tmps : Array Value} {w : World} (hs : ar C n st G tmps w) {g0 i : Nat} {cells : List A} (hb : ak st.bx g0 = some cells) {x : A} (hi : cells[i]? = some x) :
    ∃ v, aA (ao C G st.gen w) v x ∧ ∀ b cs T', G.box g0 = some b → w.heap[b]? = some (.cells cs T' (0, 0)) → cs[i]? = some v := by
  obtain ⟨b, cs, T', h1, h2, h3, _, h5⟩ := hs.box g0 cells hb
  have hlt : i < cs.size := by rw [h3]; exact (List.getElem?_eq_some_iff.1 hi).1
  have hv : cs[i]? = some cs[i] := by simp [hlt]
  refine ⟨cs[i], h5 i _ x hv hi, fun b' cs' T2 h1' h2' => ?_⟩
  have e : b' = b := Option.some.inj (h1'.symm.trans h1)
  subst e
  have e2 := Option.some.inj (h2'.symm.trans h2)
  injection e2 with e3 _ _
  rw [e3]
  exact hv
end
end Go.Ab
namespace Go.Ab
open Go.MapKept
section
variable {α β : Type} [DecidableEq α]
def bT : List (α × β) → α → β → List (α × β)
  | [], a, b => [(a, b)]
  | p :: r, a, b => if p.1 = a then (a, b) :: r else p :: bT r a b
def cH (l : List (α × β)) (a : α) : Option β := (l.find? fun p => decide (p.1 = a)).map (·.2)
theorem lV (a : α) : cH ([] : List (α × β)) a = none := rfl
theorem cb (p : α × β) (r : List (α × β)) (a : α) : cH (p :: r) a = if p.1 = a then some p.2 else cH r a := by
  unfold cH
  rw [List.find?_cons]
  by_cases h : p.1 = a <;> simp [h]
theorem ur (l : List (α × β)) (a : α) (b : β) : ∀ x, x ∈ (bT l a b).map (·.1) ↔ x = a ∨ x ∈ l.map (·.1) := by
  induction l with
  | nil => intro x; simp [bT]
  | cons p r ih =>
    intro x
    simp only [bT]
    by_cases h : p.1 = a
    · rw [if_pos h]; simp only [List.map_cons, List.mem_cons, h]
      constructor
      · rintro (h | h); exact .inl h; exact .inr (.inr h)
      · rintro (h | h | h); exact .inl h; exact .inl h; exact .inr h
    · rw [if_neg h, List.map_cons, List.mem_cons, ih x, List.map_cons, List.mem_cons]
      constructor
      · rintro (h | h | h); exact .inr (.inl h); exact .inl h; exact .inr (.inr h)
      · rintro (h | h | h); exact .inr (.inl h); exact .inl h; exact .inr (.inr h)
theorem sA {l : List (α × β)} (h : (l.map (·.1)).Nodup) (a : α) (b : β) : ((bT l a b).map (·.1)).Nodup := by
  induction l with
  | nil => simp [bT]
  | cons p r ih =>
    rw [List.map_cons, List.nodup_cons] at h
    simp only [bT]
    by_cases q : p.1 = a
    · rw [if_pos q, List.map_cons, List.nodup_cons]
      exact ⟨by rw [← q]; exact h.1, h.2⟩
    · rw [if_neg q, List.map_cons, List.nodup_cons]
      refine ⟨fun hm => ?_, ih h.2⟩
      rcases (ur r a b p.1).1 hm with e | e
      · exact q e
      · exact h.1 e
theorem ga {l : List (α × β)} {a : α} (h : ∀ p ∈ l, p.1 ≠ a) (b : β) : bT l a b = l ++ [(a, b)] := by
  induction l with
  | nil => rfl
  | cons p r ih => simp only [bT]; rw [if_neg (h p (by simp)), ih (fun q hq => h q (by simp [hq]))]; rfl
theorem mc {l : List (α × β)} {a : α} (h : ∀ p ∈ l, p.1 ≠ a) : cH l a = none := by
  induction l with
  | nil => rfl
  | cons p r ih => rw [cb, if_neg (h p (by simp)), ih (fun q hq => h q (by simp [hq]))]
theorem ny {l : List (α × β)} (hn : (l.map (·.1)).Nodup) {j : Nat} {p : α × β} (h : l[j]? = some p) (b : β) : bT l p.1 b = l.set j (p.1, b) := by
  induction l generalizing j with
  | nil => simp at h
  | cons q r ih =>
    rw [List.map_cons, List.nodup_cons] at hn
    cases j with
    | zero => simp at h; subst h; simp [bT]
    | succ j =>
      have h' : r[j]? = some p := by simpa using h
      have hne : q.1 ≠ p.1 := fun e => hn.1 (by rw [e]; exact List.mem_map_of_mem (List.mem_of_getElem? h'))
      simp only [bT]
      rw [if_neg hne, ih hn.2 h']
      rfl
theorem xt {l : List (α × β)} (hn : (l.map (·.1)).Nodup) {j : Nat} {p : α × β} (h : l[j]? = some p) : cH l p.1 = some p.2 := by
  induction l generalizing j with
  | nil => simp at h
  | cons q r ih =>
    rw [List.map_cons, List.nodup_cons] at hn
    rw [cb]
    cases j with
    | zero => simp at h; subst h; simp
    | succ j =>
      have h' : r[j]? = some p := by simpa using h
      have hne : q.1 ≠ p.1 := fun e => hn.1 (by rw [e]; exact List.mem_map_of_mem (List.mem_of_getElem? h'))
      rw [if_neg hne, ih hn.2 h']
def eE (kf : α → Value) (vf : β → D) (l : List (α × β)) : List (Value × List D) := l.map fun p => (kf p.1, [vf p.2])
end
structure fI (P : Program) (k : TypeId) {α : Type} (kf : α → Value) : Prop where
  ty : ∃ d, P.underlying k = some d ∧ ∀ a, IsKey d (kf a)
  inj : ∀ a b, kf a = kf b → a = b
abbrev ik (n : Int) : Value := .int .i64 n
abbrev sk (s : ByteArray) : Value := .string s
theorem eU {P : Program} {k : TypeId} (h : P.underlying k = some (.int .i64)) : fI P k ik := ⟨⟨_, h, fun _ => rfl⟩, fun _ _ h => by cases h; rfl⟩
theorem kX {P : Program} {k : TypeId} (h : P.underlying k = some .string) : fI P k sk := ⟨⟨_, h, fun _ => trivial⟩, fun _ _ h => by cases h; rfl⟩
def et {α β : Type} (w : World) (pv : Nat → Nat → Prop) (kf : α → Value) (vf : β → D) (me : Array MapEntry) (l : List (α × β)) : Prop :=
  me.size = l.length ∧ ∀ (i : Nat) (m : MapEntry) (p : α × β), me[i]? = some m → l[i]? = some p → m.key = kf p.1 ∧ bK (kf p.1) = true ∧ aF w pv m.val (vf p.2)
theorem et.of {α β : Type} {w : World} {pv : Nat → Nat → Prop} {kf : α → Value} {vf : β → D} {b : Nat} {v : Value} {bs : List (Nat × Nat)} {l : List (α × β)} (h : jf w pv (.mp b bs) v (eE kf vf l)) : v = .map (some b) ∧ ∃ me clock, w.heap[b]? = some (.map me clock) ∧ Go.MapKept.Stamped me clock ∧ et w pv kf vf me l := by
  obtain ⟨h1, me, clock, h2, hst, h3, h4⟩ := h
  refine ⟨h1, me, clock, h2, hst, by rw [h3]; simp [eE], fun i m p hm hp => ?_⟩
  obtain ⟨h5, h6, h7⟩ := h4 i m (kf p.1) [vf p.2] hm (by simp [eE, hp])
  exact ⟨h5, h6, h7⟩
theorem et.to {α β : Type} {w : World} {pv : Nat → Nat → Prop} {kf : α → Value} {vf : β → D} {b : Nat} {me : Array MapEntry} {clock : Nat} {bs : List (Nat × Nat)} {l : List (α × β)} (h1 : w.heap[b]? = some (.map me clock)) (hst : Go.MapKept.Stamped me clock) (h : et w pv kf vf me l) : jf w pv (.mp b bs) (.map (some b)) (eE kf vf l) := by
  refine ⟨rfl, me, clock, h1, hst, by rw [h.1]; simp [eE], fun i m k l' hm hk => ?_⟩
  simp only [eE, List.getElem?_map, Option.map_eq_some_iff] at hk
  obtain ⟨p, hp, e⟩ := hk
  simp only [Prod.mk.injEq] at e
  obtain ⟨rfl, rfl⟩ := e
  obtain ⟨h5, h6, h7⟩ := h.2 i m p hm hp
  exact ⟨h5, h6, h7⟩
end Go.Ab
namespace Go.Ab
open Go.RowKit Go.MapKept
section
variable {C : Ctx} {n : Nat} {st : St} {G : Gh} {tmps : Array Value} {w : World}
theorem ar.pc (h : ar C n st G tmps w) : ∃ G', ar C n { st with lv := st.gen :: st.lv, gen := st.gen + 1 } G' tmps (w.alloc (.map #[] 0)) ∧
    aA (ao C G' (st.gen + 1) (w.alloc (.map #[] 0))) (.map (some w.heap.size)) (.mp st.gen []) := by
  let own' : Nat → Option Row := fun g => if g = st.gen then some (.mp w.heap.size []) else G.own g
  have hb : Below w.heap.size w (w.alloc (.map #[] 0)) := (Below.refl _ w).alloc (Nat.le_refl _) _
  have hnew : (w.alloc (.map #[] 0)).heap[w.heap.size]? = some (.map #[] 0) := heap_alloc_new w _
  obtain ⟨_, hs'⟩ := h.grow hb own' (st.gen + 1) (st.gen :: st.lv) (Nat.le_succ _) (fun g r hg hr => by simpa [own', Nat.ne_of_lt hg] using hr)
    (fun g r hr => by
      simp only [own'] at hr
      split at hr
      · omega
      · exact Nat.lt_succ_of_lt (h.gown g r hr))
    (fun g hg => by
      rcases List.mem_cons.1 hg with rfl | hg
      · exact ⟨_, by simp [own']; rfl⟩
      · obtain ⟨r, hr⟩ := h.live g hg
        exact ⟨r, by simp only [own', if_neg (Nat.ne_of_lt (h.gown g r hr))]; exact hr⟩)
    (fun g b len cap sz pub hg hr => by
      simp only [own'] at hr
      split at hr
      · cases hr
      · exact absurd (h.gown g _ hr) (by omega))
    (fun g b bs hg hr => by
      simp only [own'] at hr
      split at hr
      · simp only [Option.some.injEq, Row.mp.injEq] at hr
        obtain ⟨rfl, rfl⟩ := hr
        refine ⟨Nat.le_refl _, fun g' bs' hg' => ?_, #[], 0, hnew⟩
        simp only [own'] at hg'
        split at hg'
        · omega
        · have := (h.tO hg').1
          omega
      · exact absurd (h.gown g _ hr) (by omega))
    (fun g b bs c lim hg hr hm => by
      simp only [own'] at hr
      split at hr
      · simp only [Option.some.injEq, Row.mp.injEq] at hr
        obtain ⟨_, rfl⟩ := hr
        cases hm
      · exact absurd (h.gown g _ hr) (by omega))
  refine ⟨⟨G.box, own'⟩, hs', .mp _ _ _ (by simp [ao]) rfl (fun r hr => ?_)⟩
  have hr2 : own' st.gen = some r := hr
  simp only [own', if_true, Option.some.injEq] at hr2
  subst hr2
  exact ⟨rfl, #[], 0, hnew, Go.MapKept.stamped_empty 0, rfl, by simp⟩
theorem ar.yw (h : ar C n st G tmps w) {g b : Nat} {bs : List (Nat × Nat)} (hg : G.own g = some (.mp b bs)) (me : Array MapEntry) (clock : Nat) (hst : Stamped me clock) {es : List (Value × List D)} (hme : me.size = es.length)
    (hent : ∀ (i : Nat) (m : MapEntry) (k : Value) (l : List D), me[i]? = some m → es[i]? = some (k, l) → m.key = k ∧ bK k = true ∧ pU w (aN C G) m.val l) (lv : List Nat) (hlv : ∀ g' ∈ lv, g' ∈ st.lv ∧ g' ≠ g) :
    ∃ G' : Gh, G'.box = G.box ∧ ar C n { st with lv := st.gen :: lv, gen := st.gen + 1 } G' tmps { w with heap := w.heap.setIfInBounds b (.map me clock) } ∧
      aA (ao C G' (st.gen + 1) { w with heap := w.heap.setIfInBounds b (.map me clock) }) (.map (some b)) (.mp st.gen es) := by
  obtain ⟨hmine, hnb, huniq, me0, clock0, hcur⟩ := h.mrow g b bs hg
  have hnb2 : ∀ g' len cap sz pub, G.own g' ≠ some (.blk b len cap sz pub) := fun g' len cap sz pub e => by
    obtain ⟨_, _, _, cur, T, h4, _⟩ := h.row g' b len cap sz pub e
    rw [hcur] at h4
    cases h4
  obtain ⟨hnew, hoth⟩ := heap_set (o' := Obj.map me clock) hcur
  let own' : Nat → Option Row := fun g' => if g' = st.gen then some (.mp b bs) else if g' = g then none else G.own g'
  generalize hw' : ({ w with heap := w.heap.setIfInBounds b (.map me clock) } : World) = w'
  have e1 : w'.heap = w.heap.setIfInBounds b (.map me clock) := by rw [← hw']
  have e2 : w'.os = w.os := by rw [← hw']
  have e3 : w'.tape = w.tape := by rw [← hw']
  have e4 : w'.output = w.output := by rw [← hw']
  rw [← e1] at hnew hoth
  have hsz : w'.heap.size = w.heap.size := by rw [e1]; simp
  have hnocell : ∀ o, Ab.cellAt w b o = none := fun o => by simp [Ab.cellAt, World.cell?, hcur]
  have hcell : ∀ b' o u, Ab.cellAt w b' o = some u → Ab.cellAt w' b' o = some u := fun b' o u hu => by
    have hne : b' ≠ b := fun e => by subst e; rw [hnocell] at hu; cases hu
    rw [bp (hoth b' hne)]; exact hu
  have htk : cu w w' := fun b' cs T f h => ⟨cs, f, by rw [hoth b' (fun e => by rw [e, hcur] at h; cases h)]; exact h⟩
  have hgl := h.gown g _ hg
  have hpv : ∀ b' o, aN C ⟨G.box, own'⟩ b' o → aN C G b' o := by
    rintro b' o (hp | hp | ⟨g', len', cap', sz', pub', hp, hl'⟩ | ⟨g', b2, bs2, lim, hp, hm, hl'⟩)
    · exact .inl hp
    · exact .inr (.inl hp)
    · simp only [own'] at hp
      split at hp
      · cases hp
      · split at hp
        · cases hp
        · exact .inr (.inr (.inl ⟨g', len', cap', sz', pub', hp, hl'⟩))
    · simp only [own'] at hp
      split at hp
      · simp only [Option.some.injEq, Row.mp.injEq] at hp
        obtain ⟨rfl, rfl⟩ := hp
        exact .inr (.inr (.inr ⟨g, b, bs, lim, hg, hm, hl'⟩))
      · split at hp
        · cases hp
        · exact .inr (.inr (.inr ⟨g', b2, bs2, lim, hp, hm, hl'⟩))
  have hfr : Fr C w' := ⟨e2.trans h.fr.os, e3.trans h.fr.tape, e4.trans h.fr.output, by rw [hsz]; exact h.fr.size, fun b' h1 h2 => by
    rw [hoth b' (fun e => by subst e; exact hmine.1.elim (fun hm => by omega) h2)]; exact h.fr.block b' h1 h2, fun b' o u hk hu => hcell b' o u (h.fr.cells b' o u hk hu), h.fr.ty.trans htk⟩
  have hold : ∀ g' r', g' < st.gen → own' g' = some r' → G.own g' = some r' ∧ g' ≠ g := fun g' r' hg' hr' => by
    simp only [own', if_neg (Nat.ne_of_lt hg')] at hr'
    split at hr'
    · cases hr'
    · rename_i hne; exact ⟨hr', hne⟩
  have hle : (ao C G st.gen w).le (ao C ⟨G.box, own'⟩ (st.gen + 1) w') := gf h.fr hfr (fun b' o u hu hn => ⟨hcell b' o u hu, fun hp => hn (hpv b' o hp)⟩) (fun _ _ h => h)
    (fun g' r' hg' hr' => (hold g' r' hg' hr').1) (Nat.le_succ _) (fun g' b' len' cap' sz' pub' hg' hr' => hoth b' (fun e => by subst e; exact hnb2 _ _ _ _ _ (hold g' _ hg' hr').1)) (fun g' b' bs' hg' hr' => by
      obtain ⟨h1, h2⟩ := hold g' _ hg' hr'
      refine ⟨hoth b' (fun e => by subst e; exact h2 (huniq g' bs' h1)), fun p hp => hoth p.1 (fun e => ?_)⟩
      obtain ⟨_, _, _, _, cur, T, h3, _⟩ := h.sub g' b' bs' p.1 p.2 h1 hp
      rw [e, hcur] at h3
      cases h3) htk
  refine ⟨⟨G.box, own'⟩, rfl, { size := h.size, frame := h.ck hle, inj := h.inj, xold := h.xold, kold := h.kold, lent := h.lent, fr := hfr, gcell := fun g' b' hb' => jn htk (h.gcell g' b' hb'), box := ?_, gbox := ?_, live := ?_, gown := ?_, row := ?_, mrow := ?_, sub := ?_ }, ?_⟩
  · intro g' cells hc
    obtain ⟨b', cs, T', h1, h2, h3, h4, h5⟩ := h.box g' cells hc
    have : b' ≠ b := fun e => hnb g' (by rw [← e]; exact h1)
    exact ⟨b', cs, T', h1, by rw [hoth b' this]; exact h2, h3, h4, fun i u a hu ha => (h5 i u a hu ha).mono hle⟩
  · intro g' b' hb
    obtain ⟨h1, h2, h3⟩ := h.gbox g' b' hb
    exact ⟨Nat.lt_succ_of_lt h1, by rw [hsz]; exact h2, h3⟩
  · intro g' hg'
    rcases List.mem_cons.1 hg' with rfl | hg'
    · exact ⟨_, by simp [own']; rfl⟩
    · obtain ⟨h1, h2⟩ := hlv g' hg'
      obtain ⟨r', hr'⟩ := h.live g' h1
      exact ⟨r', by simp only [own', if_neg (Nat.ne_of_lt (h.gown g' r' hr')), if_neg h2]; exact hr'⟩
  · intro g' r' hr'
    simp only [own'] at hr'
    split at hr'
    · simp only; omega
    · split at hr'
      · cases hr'
      · exact Nat.lt_succ_of_lt (h.gown g' r' hr')
  · intro g' b' len' cap' sz' pub' hr'
    have un : ∀ g2 len2 cap2 sz2 pub2, own' g2 = some (.blk b' len2 cap2 sz2 pub2) → G.own g2 = some (.blk b' len2 cap2 sz2 pub2) := by
      intro g2 len2 cap2 sz2 pub2 h2
      simp only [own'] at h2
      split at h2
      · cases h2
      · split at h2
        · cases h2
        · exact h2
    obtain ⟨h4, h5, h6, cur2, T2, h7, h8⟩ := h.row g' b' len' cap' sz' pub' (un g' len' cap' sz' pub' hr')
    have hne : b' ≠ b := fun e => by subst e; exact hnb2 _ _ _ _ _ (un g' len' cap' sz' pub' hr')
    exact ⟨h4, h5, fun g2 len2 cap2 sz2 pub2 h2 => h6 g2 len2 cap2 sz2 pub2 (un g2 len2 cap2 sz2 pub2 h2), cur2, T2, by rw [hoth b' hne]; exact h7, h8⟩
  · intro g' b' bs' hr'
    simp only [own'] at hr'
    split at hr'
    · rename_i e
      simp only [Option.some.injEq, Row.mp.injEq] at hr'
      obtain ⟨rfl, rfl⟩ := hr'
      refine ⟨hmine, hnb, fun g2 bs2 h2 => ?_, me, clock, hnew⟩
      simp only [own'] at h2
      split at h2
      · omega
      · split at h2
        · cases h2
        · rename_i e1 e2; exact absurd (huniq g2 bs2 h2) e2
    · split at hr'
      · cases hr'
      · rename_i e1 e2
        obtain ⟨h4, h5, h6, me2, cl2, h7⟩ := h.mrow g' b' bs' hr'
        have hne : b' ≠ b := fun e => by subst e; exact e2 (huniq g' bs' hr')
        refine ⟨h4, h5, fun g2 bs2 h2 => ?_, me2, cl2, by rw [hoth b' hne]; exact h7⟩
        simp only [own'] at h2
        split at h2
        · simp only [Option.some.injEq, Row.mp.injEq] at h2; exact absurd h2.1.symm hne
        · split at h2
          · cases h2
          · exact h6 g2 bs2 h2
  · intro g' b' bs' c lim hr' hm
    have un : ∀ g2 b2 bs2, own' g2 = some (.mp b2 bs2) → ∃ g3, G.own g3 = some (.mp b2 bs2) ∧ ((g2 = st.gen ∧ g3 = g) ∨ (g2 ≠ st.gen ∧ g2 ≠ g ∧ g3 = g2)) := by
      intro g2 b2 bs2 h2
      simp only [own'] at h2
      split at h2
      · rename_i e; simp only [Option.some.injEq, Row.mp.injEq] at h2; obtain ⟨rfl, rfl⟩ := h2; exact ⟨g, hg, .inl ⟨e, rfl⟩⟩
      · split at h2
        · cases h2
        · rename_i e1 e2; exact ⟨g2, h2, .inr ⟨e1, e2, rfl⟩⟩
    obtain ⟨g3, h3, h3'⟩ := un g' _ _ hr'
    obtain ⟨h4, h5, h6, h7, cur2, T2, h8, h9⟩ := h.sub g3 b' bs' c lim h3 hm
    have hne : c ≠ b := fun e => by subst e; rw [hcur] at h8; cases h8
    refine ⟨h4, h5, fun g2 len2 cap2 sz2 pub2 h2 => ?_, fun g2 b2 bs2 lim2 h2 hm2 => ?_, cur2, T2, by rw [hoth c hne]; exact h8, h9⟩
    · simp only [own'] at h2
      split at h2
      · cases h2
      · split at h2
        · cases h2
        · exact h6 g2 _ _ _ _ h2
    · obtain ⟨g5, h10, h10'⟩ := un g2 _ _ h2
      have := h7 g5 _ _ _ h10 hm2
      omega
  · refine .mp _ _ _ (by simp [ao]) rfl (fun r hr => ?_)
    have hr2 : own' st.gen = some r := hr
    simp only [own', if_true, Option.some.injEq] at hr2
    subst hr2
    refine ⟨rfl, me, clock, hnew, hst, hme, fun i m k l hm hk => ?_⟩
    obtain ⟨h1, h2, h3⟩ := hent i m k l hm hk
    exact ⟨h1, h2, h3.mono hle.cell⟩
end
section
variable {P : Program} (T : bm P)
theorem bm.oD {t k e : Nat} {d : bo} (h : ak T.l t = some d) (hk : d.k = .map k e) : P.underlying t = some (.map k e) := by
  have := T.kd h
  rw [hk] at this
  simp only [jP] at this
  split at this
  · rename_i k' e' he; simp only [Bool.and_eq_true, beq_iff_eq] at this; rw [he, this.1, this.2]
  · cases this
def iS : Kd → Bool
  | .st _ => false
  | _ => true
variable {α β : Type} [DecidableEq α] {kf : α → Value} {vf : β → D}
theorem et.find {w : World} {pv : Nat → Nat → Prop} {k : TypeId} (hkt : fI P k kf) {me : Array MapEntry} {l : List (α × β)} (h : et w pv kf vf me l) (hn : (l.map (·.1)).Nodup) (a : α) :
    ((Instr.findKey k (kf a) me.toList).run P w = .ok none w ∧ (∀ p ∈ l, p.1 ≠ a) ∧ cH l a = none) ∨
      ∃ j e p, (Instr.findKey k (kf a) me.toList).run P w = .ok (some (j, e.val)) w ∧ me[j]? = some e ∧ l[j]? = some p ∧ p.1 = a ∧ e.key = kf a ∧ cH l a = some p.2 ∧ aF w pv e.val (vf p.2) := by
  obtain ⟨d, hd, hk⟩ := hkt.ty
  have hall : ∀ x ∈ me.toList, IsKey d x.key := by
    intro x hx
    obtain ⟨i, hi⟩ := List.mem_iff_getElem?.1 hx
    have hi' : me[i]? = some x := by simpa using hi
    have hlt : i < l.length := by rw [← h.1]; exact (Array.getElem?_eq_some_iff.1 hi').1
    rw [(h.2 i x l[i] hi' (by simp [hlt])).1]
    exact hk _
  rcases findNow_spec (hk a) me.toList 0 hall with ⟨h1, h2⟩ | ⟨j, e, h1, h2, h3⟩
  · refine .inl ⟨run_findKey hd h1, ?_, ?_⟩
    · intro p hp e
      obtain ⟨i, hi⟩ := List.mem_iff_getElem?.1 hp
      have hlt : i < me.size := by rw [h.1]; exact (List.getElem?_eq_some_iff.1 hi).1
      have := (h.2 i me[i] p (by simp [hlt]) hi).1
      exact h2 me[i] (by simp) (by rw [this, e])
    · refine mc fun p hp e => ?_
      obtain ⟨i, hi⟩ := List.mem_iff_getElem?.1 hp
      have hlt : i < me.size := by rw [h.1]; exact (List.getElem?_eq_some_iff.1 hi).1
      have := (h.2 i me[i] p (by simp [hlt]) hi).1
      exact h2 me[i] (by simp) (by rw [this, e])
  · have hj : me[j]? = some e := by simpa using h2
    have hlt : j < l.length := by rw [← h.1]; exact (Array.getElem?_eq_some_iff.1 hj).1
    obtain ⟨h4, h5, h6⟩ := h.2 j e l[j] hj (by simp [hlt])
    have h7 : (l[j]).1 = a := hkt.inj _ _ (h4.symm.trans h3)
    refine .inr ⟨j, e, l[j], ?_, hj, by simp [hlt], h7, h3, ?_, h6⟩
    · have := run_findKey (P := P) (w := w) hd h1
      simpa using this
    · have := xt hn (j := j) (p := l[j]) (by simp [hlt])
      rw [h7] at this
      exact this
theorem rH {w : World} {pv : Nat → Nat → Prop} {mt k e : Nat} {td : bo} (ht : ak T.l mt = some td) (htk : td.k = .map k e) (hkt : fI P k kf) {b : Nat} {me : Array MapEntry} {clock : Nat} (hb : w.heap[b]? = some (.map me clock)) {l : List (α × β)}
    (hst : Stamped me clock) (h : et w pv kf vf me l) (hn : (l.map (·.1)).Nodup) (a : α) (hka : bK (kf a) = true) {v : Value} {y : β} (hv : aF w pv v (vf y)) :
    ∃ me' clock', (Instr.mapUpdate mt (.map (some b)) (kf a) v).run P w = .ok () { w with heap := w.heap.setIfInBounds b (.map me' clock') } ∧ Stamped me' clock' ∧ et w pv kf vf me' (bT l a y) := by
  obtain ⟨d, hd, hk⟩ := hkt.ty
  have hm := T.oD ht htk
  rcases h.find hkt hn a with ⟨h1, h2, _⟩ | ⟨j, en, p, h1, h2, h3, h4, h5, _, _⟩
  · refine ⟨me.push ⟨kf a, v, clock⟩, clock + 1, ?_, stamped_push hst (fun x hx => ?_), ?_⟩
    · unfold Instr.mapUpdate
      simp only [Sem.run_bind, run_underlying hm, Result.andThen_ok, Go.MapKept.run_getObj_map hb, run_checkKey hd (hk a), h1]
      exact Go.MapKept.run_setObj_map _ hb
    · obtain ⟨i, hi⟩ := List.mem_iff_getElem?.1 hx
      have hi' : me[i]? = some x := by simpa using hi
      have hlt : i < l.length := by rw [← h.1]; exact (Array.getElem?_eq_some_iff.1 hi').1
      rw [(h.2 i x l[i] hi' (by simp [hlt])).1]
      exact fun e => h2 l[i] (by simp) (hkt.inj _ _ e)
    · rw [ga h2]
      refine ⟨by simp [h.1], fun i m p hm hp => ?_⟩
      rw [Array.getElem?_push] at hm
      split at hm
      · rename_i hi
        rw [List.getElem?_append_right (by rw [hi, h.1]; exact Nat.le_refl _)] at hp
        have : i - l.length = 0 := by rw [hi, h.1]; omega
        rw [this] at hp
        simp only [List.getElem?_cons_zero, Option.some.injEq] at hp
        simp only [Option.some.injEq] at hm
        subst hm; subst hp
        exact ⟨rfl, hka, hv⟩
      · have hlt : i < l.length := by rw [← h.1]; exact (Array.getElem?_eq_some_iff.1 hm).1
        rw [List.getElem?_append_left hlt] at hp
        exact h.2 i m p hm hp
  · refine ⟨me.modify j fun e => { e with key := kf a, val := v }, clock, ?_, stamped_modify hst j _ (fun _ _ => rfl) (fun e _ he => by rw [h2] at he; cases he; exact h5.symm), ?_⟩
    · unfold Instr.mapUpdate
      simp only [Sem.run_bind, run_underlying hm, Result.andThen_ok, Go.MapKept.run_getObj_map hb, run_checkKey hd (hk a), h1, h2, Option.map_some, Option.getD_some, h5, run_keyThatStays (hk a)]
      exact Go.MapKept.run_setObj_map _ hb
    · subst h4
      rw [ny hn h3]
      refine ⟨by simp [h.1], fun i m q hm hq => ?_⟩
      rw [Array.getElem?_modify] at hm
      rw [List.getElem?_set] at hq
      by_cases hij : j = i
      · subst hij
        rw [if_pos rfl] at hm hq
        rw [h2] at hm
        rw [if_pos (List.getElem?_eq_some_iff.1 h3).1] at hq
        simp only [Option.map_some, Option.some.injEq] at hm hq
        subst hm; subst hq
        exact ⟨rfl, hka, hv⟩
      · rw [if_neg hij] at hm hq
        exact h.2 i m q hm hq
theorem mj {w : World} {pv : Nat → Nat → Prop} {mt k e : Nat} {td ed : bo} (ht : ak T.l mt = some td) (htk : td.k = .map k e) (he : ak T.l e = some ed) (hkt : fI P k kf) {z : β} {zx : Value} (hzc : ed.z = [zx]) (hzk : iS ed.k = true) (hz : aF w pv zx (vf z)) {b : Nat} {me : Array MapEntry} {clock : Nat}
    (hb : w.heap[b]? = some (.map me clock)) {l : List (α × β)} (h : et w pv kf vf me l) (hn : (l.map (·.1)).Nodup) (a : α) (ok : Bool) :
    ∃ v, (Instr.lookup mt (.map (some b)) (kf a) ok).run P w = .ok (if ok then .tuple #[v, .bool (cH l a).isSome] else v) w ∧ aF w pv v (vf ((cH l a).getD z)) := by
  obtain ⟨d, hd, hk⟩ := hkt.ty
  have hm := T.oD ht htk
  rcases h.find hkt hn a with ⟨h1, h2, h3⟩ | ⟨j, en, p, h1, h2, h3, h4, h5, h6, h7⟩
  · obtain ⟨i, zv, hi, _, _, hiz, hzl, _, _, hkz⟩ := T.info he
    have hzv : zv = zx := by
      rw [hzc] at hzl
      cases hke : ed.k <;> rw [hke] at hzk hkz <;> cases zv <;> simp_all [Value.cells, iS]
    subst hzv
    refine ⟨zv, ?_, by rw [h3]; exact hz⟩
    unfold Instr.lookup
    simp only [Sem.run_bind, run_underlying hm, Result.andThen_ok, Go.MapKept.run_getObj_map hb, Sem.run_pure, run_checkKey hd (hk a), h1, h3, Option.isSome_none]
    have : (zeroValue e).run P w = .ok zv w := by simp [zeroValue, typeInfo, Sem.run_bind, run_program, hi, hiz, Result.andThen]
    simp only [this, Result.andThen_ok]
  · refine ⟨en.val, ?_, by rw [h6]; exact h7⟩
    unfold Instr.lookup
    simp only [Sem.run_bind, run_underlying hm, Result.andThen_ok, Go.MapKept.run_getObj_map hb, Sem.run_pure, run_checkKey hd (hk a), h1, h6, Option.isSome_some]
end
end Go.Ab
namespace Go.Ab
open Go.RowKit Go.MapKept
def vX : A → Option D
  | .d x => some x
  | .own _ es => some (.sl es)
  | .fl es => some (.sl es)
  | _ => none
theorem vr {E : En} {v : Value} {a : A} {x : D} (h : vX a = some x) (hr : aA E v a) : aF E.w E.pv v x := by
  cases hr <;> simp only [vX, Option.some.injEq] at h <;> first | (cases h; done) | (subst h; assumption)
def oK {α β : Type} (w : World) (pv : Nat → Nat → Prop) (b : Nat) (kf : α → Value) (vf : β → D) (l : List (α × β)) : Prop := ∃ me clock, w.heap[b]? = some (.map me clock) ∧ Go.MapKept.Stamped me clock ∧ et w pv kf vf me l
theorem oK.of {α β : Type} {w : World} {pv : Nat → Nat → Prop} {kf : α → Value} {vf : β → D} {b : Nat} {v : Value} {l : List (α × β)} {bs : List (Nat × Nat)} (h : jf w pv (.mp b bs) v (eE kf vf l)) : v = .map (some b) ∧ oK w pv b kf vf l := by
  obtain ⟨h1, me, clock, h2, h3⟩ := et.of h
  exact ⟨h1, me, clock, h2, h3⟩
theorem et.mono {α β : Type} {w w' : World} {pv pv' : Nat → Nat → Prop} {kf : α → Value} {vf : β → D} {me : Array MapEntry} {l : List (α × β)} (h : ∀ b o u, cellAt w b o = some u → ¬ pv b o → cellAt w' b o = some u ∧ ¬ pv' b o) (hm : et w pv kf vf me l) : et w' pv' kf vf me l :=
  ⟨hm.1, fun i m p h1 h2 => ⟨(hm.2 i m p h1 h2).1, (hm.2 i m p h1 h2).2.1, (hm.2 i m p h1 h2).2.2.mono h⟩⟩
section
variable {P : Program} (T : bm P) {C : Ctx} {n : Nat} {ops : Array Oper} {Q : Exit → St → Prop} {rest : List Oper}
variable {f : List (Nat × A)} {bx : List (Nat × List A)} {lv : List Nat} {gen : Nat} {d : Nat} {ty : TypeId} {pos : String} {af : Array Edge} {dst : Option Nat}
variable {α β : Type} [DecidableEq α] {kf : α → Value} {vf : β → D}
theorem mkMap {t : TypeId} (hd : Nat.blt d n = true) (h : WO P C n ops Q rest ⟨(d, .mp gen []) :: f, bx, gen :: lv, gen + 1⟩) : WO P C n ops Q (⟨some d, .makeMap t none, ty, pos, af, none⟩ :: rest) ⟨f, bx, lv, gen⟩ := by
  refine WO.step (st := ⟨f, bx, lv, gen⟩) rfl fun tmps w ⟨G, hs⟩ => ?_
  obtain ⟨G', hs', hr⟩ := hs.pc
  refine cd (v := .map (some w.heap.size)) (w' := w.alloc (.map #[] 0)) ?_ ⟨_, ⟨G', hs'.put (dst := some d) (bL (dst := some d) hd) hr⟩, h⟩
  unfold execOp
  show Sem.run P _ w = .ok _ _
  simp [Instr.makeMap, Sem.run_bind, Result.andThen]
omit [DecidableEq α] in
theorem ar.rK {st : St} {G : Gh} {tmps : Array Value} {w : World} (hs : ar C n st G tmps w) {v : Value} {g : Nat} {l : List (α × β)} (hr : aA (ao C G st.gen w) v (.mp g (eE kf vf l))) (hgl : g ∈ st.lv) :
    ∃ b bs, G.own g = some (.mp b bs) ∧ v = .map (some b) ∧ oK w (aN C G) b kf vf l := by
  obtain ⟨r, hgr⟩ := hs.live g hgl
  cases hr with
  | mp _ _ _ hgg h1 hrow =>
  have hx := hrow r hgr
  cases r with
  | nil => exact hx.elim
  | zero b => exact hx.elim
  | blk b len cap sz pub => exact hx.elim
  | mp b bs =>
    obtain ⟨h2, h3⟩ := oK.of (kf := kf) (vf := vf) hx
    exact ⟨b, bs, hgr, h2, h3⟩
theorem kG (s : Nat) {mt k e : Nat} {td : bo} {m kx x : Operand} {g : Nat} {l : List (α × β)} {a : α} {y : β} {xa : A} (hm : av f m = some (.mp g (eE kf vf l))) (hl : look f s = some (.mp g (eE kf vf l))) (hk : av f kx = some (.d (.v (kf a)))) (hx : av f x = some xa) (hxd : vX xa = some (vf y))
    (ht : ak T.l mt = some td) (htk : td.k = .map k e) (hkt : fI P k kf) (hgl : (lv.any fun h => Nat.beq h g) = true) (hsn : Nat.blt s n = true) (hn : (l.map (·.1)).Nodup) {es' : List (Value × List D)} (hes : eE kf vf (bT l a y) = es') {lv' : List Nat} (hlv : gen :: bg lv g = lv')
    (h : WO P C n ops Q rest ⟨(s, .mp gen es') :: f, bx, lv', gen + 1⟩) : WO P C n ops Q (⟨none, .mapUpdate mt m kx x, ty, pos, af, none⟩ :: rest) ⟨f, bx, lv, gen⟩ := by
  subst hes; subst hlv
  refine WO.step (st := ⟨f, bx, lv, gen⟩) rfl fun tmps w ⟨G, hs⟩ => ?_
  have hrm := hs.av hm
  have hrk := hs.av hk
  have hrx := vr hxd (hs.av hx)
  obtain ⟨vs, hvs, hrs⟩ := hs.frame s _ hl
  generalize hv : Act.eval ⟨tmps, []⟩ m = v at hrm
  generalize hvk : Act.eval ⟨tmps, []⟩ kx = vk at hrk
  obtain ⟨b, bs, hgb, rfl, me, clock, hb, hst, hmi⟩ := hs.rK hrm (cC hgl)
  obtain ⟨b2, bs2, hgb2, rfl, _⟩ := hs.rK hrs (cC hgl)
  obtain ⟨rfl, rfl⟩ : b2 = b ∧ bs2 = bs := by have := hgb2.symm.trans hgb; simpa using this
  cases hrk with | d hrk => cases hrk with | v _ hok =>
  obtain ⟨me', clock', hrun, hst', hmi'⟩ := rH T ht htk hkt hb hst hmi hn a hok hrx
  have h0 : (execOp (Act.eval ⟨tmps, []⟩) ⟨none, .mapUpdate mt m kx x, ty, pos, af, none⟩).run P w = .ok .skip { w with heap := w.heap.setIfInBounds b2 (.map me' clock') } := by
    unfold execOp
    show Sem.run P _ w = .ok _ _
    simp only [hv, hvk, Sem.run_bind, hrun, Result.andThen_ok, Sem.run_pure]
  obtain ⟨G', _, hs', hr'⟩ := hs.yw hgb me' clock' hst' (es := eE kf vf (bT l a y)) (by rw [hmi'.1]; simp [eE]) (fun i m k l' hm hk => by
    simp only [eE, List.getElem?_map, Option.map_eq_some_iff] at hk
    obtain ⟨p, hp, e⟩ := hk
    simp only [Prod.mk.injEq] at e
    obtain ⟨rfl, rfl⟩ := e
    exact hmi'.2 i m p hm hp) (bg lv g) (fun g' hg' => bR hg')
  refine fN h0 ⟨_, ⟨G', ?_⟩, h⟩
  have := hs'.set (d := s) (Nat.le_of_ble_eq_true hsn) hr'
  rwa [dC hvs] at this
theorem kU {mt k e : Nat} {td ed : bo} {m kx : Operand} {g : Nat} {l : List (α × β)} {a : α} {z : β} {zx : Value} (hm : av f m = some (.mp g (eE kf vf l))) (hk : av f kx = some (.d (.v (kf a))))
    (ht : ak T.l mt = some td) (htk : td.k = .map k e) (he : ak T.l e = some ed) (hkt : fI P k kf) (hgl : (lv.any fun h => Nat.beq h g) = true) (hzc : ed.z = [zx]) (hzk : iS ed.k = true) (hz : ∀ w pv, aF w pv zx (vf z)) (hn : (l.map (·.1)).Nodup) {r : D} (hr : vf ((cH l a).getD z) = r) :
    Pu P C n ⟨f, bx, lv, gen⟩ ⟨dst, .lookup mt m kx false, ty, pos, af, none⟩ (.d r) := by
  subst hr
  refine cA.pu fun G tmps w hs => ?_
  have hrm := hs.av hm
  have hrk := hs.av hk
  generalize hv : Act.eval ⟨tmps, []⟩ m = v at hrm
  generalize hvk : Act.eval ⟨tmps, []⟩ kx = vk at hrk
  obtain ⟨b, bs, hgb, rfl, me, clock, hb, hst, hmi⟩ := hs.rK hrm (cC hgl)
  cases hrk with | d hrk => cases hrk with | v _ hok =>
  obtain ⟨u, h1, h2⟩ := mj (P := P) T ht htk he hkt hzc hzk (hz _ _) hb hmi hn a false
  refine ⟨u, ?_, .d h2⟩
  unfold execOp
  show Sem.run P _ w = .ok _ _
  simp only [hv, hvk, Sem.run_bind, h1, Result.andThen_ok, Sem.run_pure]
  rfl
end
structure wO (P : Program) [Met P] (H : Ctx → Prop) (f : FuncId) (args : List A) (r : A) (k : Nat) : Prop where
  ok : kM P f
  calls : ∀ (C : Ctx) (vals : Array Value) (w : World), GC P C → C.w0 = w → C.pure → H C → (∀ b o, C.x b o → b < w.heap.size) → vals.size = args.length →
    (∀ (i : Nat) (u : Value) (a : A), vals[i]? = some u → args[i]? = some a → aA (ao C G0 0 w) u a) →
    Calls P f vals w fun e w' => ∃ v G', e = .returned v ∧ ar C 0 ⟨[], [], List.range k, k⟩ G' #[] w' ∧ aA (ao C G' k w') v r
section
variable {P : Program} {C : Ctx} {n : Nat}
variable {f : List (Nat × A)} {bx : List (Nat × List A)} {lv : List Nat} {gen : Nat} {d : Nat} {ty : TypeId} {pos : String} {af : Array Edge} {dst : Option Nat}
variable {α β : Type} [DecidableEq α]
end
end Go.Ab
namespace Go.Ab
open Go.RowKit
def bd (c : UInt8) : List D := [.v (.int .u8 c.toNat)]
structure sP (P : Program) (w : World) (A : Array TypeId) (ty : TypeId) (x2 : Value) (m : ByteArray) (T : TypeId) : Prop where
  emp : m.size = 0 → (Builtin.append_ A ty #[.slice none 0 0, x2]).run P w = .ok (.slice none 0 0) w
  new : 0 < m.size → (Builtin.append_ A ty #[.slice none 0 0, x2]).run P w = .ok (.slice (some ⟨w.heap.size, 0, none⟩) m.size (grownCap w m.size 0 T))
    (w.drew.alloc (.cells ((Lib.strCells m).toArray ++ Builtin.zeroCells (Value.int .u8 0).cells (grownCap w m.size 0 T - m.size)) T))
  room : ∀ (b n cap : Nat) (cur : Array Value), w.heap[b]? = some (.cells cur T (0, 0)) → n + m.size ≤ cap → n + m.size ≤ cur.size →
    (Builtin.append_ A ty #[.slice (some ⟨b, 0, none⟩) n cap, x2]).run P w = .ok (.slice (some ⟨b, 0, none⟩) (n + m.size) cap) (w.setRow b (cur.toList.take n ++ Lib.strCells m ++ cur.toList.drop (n + m.size)).toArray)
  grow : ∀ (b n cap : Nat) (olds : List Value), olds.length = n → (∀ j u, olds[j]? = some u → w.cell? ((⟨b, 0, none⟩ : Addr).add j) = some u) → cap < n + m.size → n + m.size ≤ 140737488355328 →
    (Builtin.append_ A ty #[.slice (some ⟨b, 0, none⟩) n cap, x2]).run P w = .ok (.slice (some ⟨w.heap.size, 0, none⟩) (n + m.size) (grownCap w (n + m.size) cap T))
      (w.drew.alloc (.cells (olds.toArray ++ (Lib.strCells m).toArray ++ Builtin.zeroCells (Value.int .u8 0).cells (grownCap w (n + m.size) cap T - (n + m.size))) T))
theorem sP.string {P : Program} {w : World} {t u ty T : TypeId} {i : TypeInfo} (ht : P.underlying t = some (.slice T)) (hu : P.underlying u = some .string) (hi : P.info? T = some i) (hz : i.zero = some (.int .u8 0)) (hs : i.size = 1) (hb : i.bytes = 1) {m : ByteArray} (hm : m.size ≤ 140737488355328) :
    sP P w #[t, u] ty (.string m) m T := by
  refine ⟨fun h0 => ?_, fun h0 => ?_, fun b n cap cur hc h1 h2 => Lib.run_append_room_string (P := P) w t u ty T i ht hu hi hs b n cap cur hc m h1 h2, fun b n cap olds ho hcell h1 h2 => ?_⟩
  · have hf := Lib.run_firstCells_string (P := P) w 1 m
    rw [h0] at hf
    simp [Builtin.append_, run_underlying ht, run_underlying hu, sizeOf, typeInfo, hi, hs, Builtin.lenOf, h0, hf]
  · have hr := run_append_nil_string (P := P) w t u ty T i (.int .u8 0) ht hu hi hz m h0 (by omega) (by rw [hb]; omega)
    have e1 : (m.data.map fun b => Value.int .u8 b.toNat) = (Lib.strCells m).toArray := by apply Array.ext'; simp [Lib.strCells]
    rw [e1] at hr
    exact hr
  · exact Lib.run_append_grow_string (P := P) w t u ty T i (.int .u8 0) ht hu hi hz ⟨b, 0, none⟩ n cap olds (by rw [hs]; omega) hcell m h1 (by omega) (by rw [hb]; exact growslice_fits (by omega) (by omega))
theorem sP.one {P : Program} {w : World} {t ty T : TypeId} {i : TypeInfo} (ht : P.underlying t = some (.slice T)) (hi : P.info? T = some i) (hz : i.zero = some (.int .u8 0)) (hs : i.size = 1) (hb : i.bytes = 1) {a : Addr} {c : Nat} {m : ByteArray} (hm : 0 < m.size) (hm2 : m.size ≤ 140737488355328)
    (hcell : ∀ j u, (Lib.strCells m)[j]? = some u → w.cell? (a.add j) = some u) : sP P w #[t, t] ty (.slice (some a) m.size c) m T := by
  have hl : (Lib.strCells m).length = m.size * i.size := by rw [Lib.strCells_length, hs, Nat.mul_one]
  refine ⟨fun h0 => by omega, fun h0 => ?_, fun b n cap cur hc h1 h2 => ?_, fun b n cap olds ho hcell2 h1 h2 => ?_⟩
  · have hr := run_append_nil (P := P) w t ty T i (.int .u8 0) ht hi hz a m.size c (Lib.strCells m) hl hcell h0 (by omega) (by rw [hb]; omega)
    exact hr
  · have hr := run_append_room (P := P) w t ty T i ht hi b n cap cur hc a m.size c (Lib.strCells m) hl hcell (Lib.strCells_oneCell m) h1 (by rw [hs, Nat.mul_one, Lib.strCells_length]; exact h2)
    rw [hs, Nat.mul_one, Lib.strCells_length] at hr
    exact hr
  · exact run_append_grow (P := P) w t ty T i (.int .u8 0) ht hi hz ⟨b, 0, none⟩ n cap olds (by rw [hs]; omega) hcell2 a m.size c (Lib.strCells m) hl hcell h1 (by omega) (growslice_fits (by omega) (by rw [hb]; omega))
section
variable {P : Program} {C : Ctx} {n : Nat} {st : St} {G : Gh} {tmps : Array Value} {w : World}
end
end Go.Ab
namespace Go.Ab
open Go.RowKit
section
variable {P : Program} (T : bm P) {C : Ctx} {n : Nat} {ops : Array Oper} {Q : Exit → St → Prop} {rest : List Oper}
variable {f : List (Nat × A)} {bx : List (Nat × List A)} {lv : List Nat} {gen : Nat} {d : Nat} {ty : TypeId} {pos : String} {af : Array Edge} {dst : Option Nat}
def wB (d : bo) : Bool := (Nat.beq d.n 1 && Nat.beq d.b 1 && lX d.z [.int .u8 0]) && (match d.k with | .int _ => true | _ => false)
theorem bm.byte {e : Nat} {d : bo} (h : ak T.l e = some d) (hb : wB d = true) : ∃ i, P.info? e = some i ∧ i.zero = some (.int .u8 0) ∧ i.size = 1 ∧ i.bytes = 1 := by
  simp only [wB, Bool.and_eq_true] at hb
  obtain ⟨i, z, hi, h1, h2, hz, hzc, _, _, hk⟩ := T.info h
  have e1 := Nat.eq_of_beq_eq_true hb.1.1.1
  have e2 := Nat.eq_of_beq_eq_true hb.1.1.2
  have e3 := nO hb.1.2
  have e4 := hb.2
  refine ⟨i, hi, ?_, by omega, by omega⟩
  rw [hz]
  rw [e3] at hzc
  cases hkd : d.k <;> rw [hkd] at e4 hk <;> first | (cases e4; done) | skip
  cases z <;> simp_all [Value.cells]
end
structure mu (P : Program) (e : TypeId) (f : FuncId) : Prop where
  used : ∀ (b : Nat) (w : World), w.cell? ⟨b, 0, none⟩ = some (.pointer (some ⟨b, 0, none⟩)) → Calls P f #[.pointer (some ⟨b, 0, none⟩)] w fun e w' => e = .returned (.tuple #[]) ∧ w' = w
  fresh : ∀ (b : Nat) (w : World), w.cell? ⟨b, 0, none⟩ = some (.pointer none) → w.shape? b = some (e, 2) → w.frozen? ⟨b, 0, none⟩ = false →
    Calls P f #[.pointer (some ⟨b, 0, none⟩)] w fun e w' => e = .returned (.tuple #[]) ∧ w' = w.setCell ⟨b, 0, none⟩ (.pointer (some ⟨b, 0, none⟩))
theorem qy {w : World} {b o : Nat} {cs : Array Value} {T : TypeId} {fr : Nat × Nat} (h : w.heap[b]? = some (.cells cs T fr)) (v : Value) : w.setCell ⟨b, o, none⟩ v = w.setRow b (cs.setIfInBounds o v) := by
  have hlt := (Array.getElem?_eq_some_iff.1 h).1
  have e : w.heap.modify b (fun | .cells c elem frozen => Obj.cells (c.setIfInBounds o v) elem frozen | o => o) = w.heap.modify b (fun | .cells _ elem frozen => Obj.cells (cs.setIfInBounds o v) elem frozen | o => o) := by
    apply Array.ext_getElem?
    intro k
    simp only [Array.getElem?_modify]
    by_cases hk : b = k
    · subst hk; simp only [if_pos rfl, h, Option.map_some]
    · simp only [if_neg hk]
  exact congrArg (fun h => ({ w with heap := h } : World)) e
theorem mu.zq {P : Program} [Met P] {e : TypeId} {f : FuncId} (hok : kM P f) (h : mu P e f) (u : Bool) (a : A) (m : Nat) : b9 P f [.ptr 0 0] [[.np 0 e u, a]] m (.tup []) [[.np 0 e true, a]] m := by
  refine ⟨hok, rfl, fun C G vals w hG hw hnb _ _ hs hsz hrep => ?_⟩
  obtain ⟨b, cs, T', h1, h2, h3, h4, h5⟩ := hs.box 0 [.np 0 e u, a] (by simp [dw, ak])
  have hv : vals = #[.pointer (some ⟨b, 0, none⟩)] := by
    apply Array.ext_getElem?
    intro i
    match i with
    | 0 =>
      have h0 : vals[0]? = some (vals[0]'(by simp at hsz; omega)) := by simp at hsz; simp [hsz]
      have := hrep 0 _ _ h0 rfl
      rw [h0]
      generalize vals[0]'(by simp at hsz; omega) = z at this
      cases this with
      | ptr _ _ _ b0 hg hb hx =>
        have e1 : b0 = b := by have := (hb : G.box 0 = some b0).symm.trans h1; simpa using this
        subst e1; rw [hx]; rfl
    | i + 1 => simp at hsz; simp [hsz]
  have hc0 : cs[0]? = some (cs[0]'(by simp at h3; omega)) := by simp at h3; simp [h3]
  have hr0 := h5 0 _ _ hc0 rfl
  have hcell : w.cell? ⟨b, 0, none⟩ = some (cs[0]'(by simp at h3; omega)) := by
    have := bj h2 0
    rw [hc0] at this
    exact this
  have hrt : aA (ao C G (1 + m) w) (.pointer (some ⟨b, 0, none⟩)) (.np 0 e true) ∧ ((u = true ∧ cs[0]'(by simp at h3; omega) = .pointer (some ⟨b, 0, none⟩)) ∨ (u = false ∧ cs[0]'(by simp at h3; omega) = .pointer none ∧ T' = e)) := by
    generalize cs[0]'(by simp at h3; omega) = z at hr0
    cases hr0 with
    | np _ _ _ b0 hg hb hT _ hx =>
      have e1 : b0 = b := by have := (hb : G.box 0 = some b0).symm.trans h1; simpa using this
      subst e1
      refine ⟨.np _ 0 e b0 hg hb hT true rfl, ?_⟩
      obtain ⟨cs', f', hT⟩ := hT
      have hT' : w.heap[b0]? = some (.cells cs' e f') := hT
      rw [h2] at hT'
      simp only [Option.some.injEq, Obj.cells.injEq] at hT'
      cases u with
      | true => exact .inl ⟨rfl, hx⟩
      | false => exact .inr ⟨rfl, hx, hT'.2.1⟩
  obtain ⟨hnp, hcase⟩ := hrt
  subst hv
  rcases hcase with ⟨rfl, hz⟩ | ⟨rfl, hz, rfl⟩
  · rw [hz] at hcell
    refine (h.used b w hcell).mono ?_
    rintro e' w' ⟨rfl, rfl⟩
    exact ⟨_, G, rfl, hs, .tup #[] [] rfl (by simp)⟩
  · rw [hz] at hcell
    refine (h.fresh b w hcell (by simp only [World.shape?, h2]; simp at h3; rw [h3]) (by simp [World.frozen?, h2])).mono ?_
    rintro e' w' ⟨rfl, rfl⟩
    rw [qy h2]
    have hst := hs.store (g := 0) (b := b) (cs := cs) (cs' := cs.setIfInBounds 0 (.pointer (some ⟨b, 0, none⟩))) (T := T') (cells := [.np 0 T' false, a]) (cells' := [.np 0 T' true, a]) (by simp [dw, ak]) h1 h2 ⟨by simpa using h3, fun i u hu => by
      rw [Array.getElem?_setIfInBounds] at hu
      split at hu
      · split at hu
        · simp only [Option.some.injEq] at hu; subst hu; rfl
        · cases hu
      · exact h4 i u hu, fun i u y hu hy => by
      rw [Array.getElem?_setIfInBounds] at hu
      match i with
      | 0 =>
        simp at hy; subst hy
        simp at h3
        simp [h3] at hu
        subst hu
        exact hnp
      | 1 =>
        simp at hy; subst hy
        simp at hu
        exact h5 1 u _ hu rfl
      | i + 2 => simp at hy⟩
    refine ⟨_, G, rfl, ?_, .tup #[] [] rfl (by simp)⟩
    refine { hst with box := fun g' c hc => ?_ }
    refine hst.box g' c ?_
    simp only [dw, bt] at hc ⊢
    split
    · rename_i e1; rw [if_pos e1] at hc; exact hc
    · rename_i e1; rw [if_neg e1] at hc; simp [ak] at hc
def ve : A → A
  | .d (.v x) => .d (.v x)
  | _ => .any
def su (f : List (Nat × A)) : List (Nat × A) := f.map fun p => (p.1, ve p.2)
theorem mK : ∀ (f : List (Nat × A)) (t : Nat), look (su f) t = (look f t).map ve
  | [], t => rfl
  | (s, a) :: r, t => by
    simp only [su, List.map_cons]
    rw [aR, aR]
    split
    · rfl
    · exact mK r t
theorem ar.end_ {C : Ctx} [hN : NB C 0] {n : Nat} {st : St} {G : Gh} {tmps : Array Value} {w w' : World} (h : ar C n st G tmps w) (hb : Below C.w0.heap.size w w') (hsz : w.heap.size ≤ w'.heap.size) : ar C n ⟨su st.f, [], [], st.gen⟩ G0 tmps w' where
  size := h.size
  frame := fun t a ha => by
    rw [mK] at ha
    obtain ⟨a', ha', rfl⟩ := Option.map_eq_some_iff.1 ha
    obtain ⟨v, hv, hr⟩ := h.frame t a' ha'
    refine ⟨v, hv, ?_⟩
    unfold ve
    split
    · cases hr with | d hr => cases hr with | v _ hx => exact .d (.v _ hx)
    · exact .any _
  box := fun g cells hc => by simp [ak] at hc
  gbox := fun g b hb => by simp [G0] at hb
  inj := fun g g' b hb => by simp [G0] at hb
  live := fun g hg => by simp at hg
  gown := fun g r hr => by simp [G0] at hr
  row := fun g b len cap sz pub hr => by simp [G0] at hr
  mrow := fun g b bs hr => by simp [G0] at hr
  sub := fun g b bs c lim hr => by simp [G0] at hr
  gcell := fun g b hb => by simp [G0] at hb
  xold := h.xold
  kold := h.kold
  lent := fun i b hb => by have := hN.h; rw [List.length_eq_zero_iff.1 this] at hb; simp at hb
  fr := ⟨hb.os.trans h.fr.os, hb.tape.trans h.fr.tape, hb.output.trans h.fr.output, Nat.le_trans h.fr.size hsz, fun b h1 h2 => (hb.block b h1).trans (h.fr.block b h1 h2), fun b o u h1 h2 => by
    have hlt := cv h2
    rw [bp (hb.block b hlt)]; exact h.fr.cells b o u h1 h2, fun b cs T f h1 => by
    have hlt := (Array.getElem?_eq_some_iff.1 h1).1
    rw [hb.block b hlt]; exact h.fr.ty b cs T f h1⟩
section
variable {P : Program} {C : Ctx} {n : Nat} {ops : Array Oper} {Q : Exit → St → Prop} {rest : List Oper}
variable {f : List (Nat × A)} {bx : List (Nat × List A)} {lv : List Nat} {gen : Nat} {d : Nat} {ty : TypeId} {pos : String} {af : Array Edge}
end
end Go.Ab
namespace Go.Ab
theorem wO.zq {P : Program} [Met P] {H : Ctx → Prop} {f : FuncId} {args : List A} {r : A} {k : Nat} (h : wO P H f args r k) (hH : ∀ C, H C) : ax P f args r k :=
  ⟨h.ok, fun C vals w hG hw hp hx hsz hr => h.calls C vals w hG hw hp (hH C) hx hsz hr⟩
end Go.Ab
namespace Go.Ab
open Go.RowKit
section
variable {C : Ctx} {n : Nat} {st : St}
theorem ar.left {G : Gh} {tmps : Array Value} {w w' : World} (h : ar C n st G tmps w) (hf : Fr C w') (hs : w.heap.size ≤ w'.heap.size) (ht : cu w w') : ar C n ⟨[], [], [], st.gen⟩ ⟨G.box, fun _ => none⟩ tmps w' :=
  { size := h.size, frame := fun t a ha => by simp [look] at ha, box := fun g cells hc => by simp [ak] at hc, gbox := fun g b hb => ⟨(h.gbox g b hb).1, Nat.lt_of_lt_of_le (h.gbox g b hb).2.1 hs, (h.gbox g b hb).2.2⟩,
    inj := h.inj, live := fun g hg => by simp at hg, gown := fun g r hr => by simp at hr, row := fun g b len cap sz pub hr => by simp at hr, mrow := fun g b bs hr => by simp at hr, sub := fun g b bs c lim hr => by simp at hr, gcell := fun g b hb => jn ht (h.gcell g b hb), xold := h.xold, kold := h.kold, lent := h.lent, fr := hf }
end
structure wM (P : Program) [Met P] (f : FuncId) (args : List A) (b0 : List (List A)) (m : Nat) (v : Value) : Prop where
  ok : kM P f
  calls : ∀ (C : Ctx) (G : Gh) (vals : Array Value) (w : World), GC P C → C.w0 = w → C.bx.length = b0.length → C.ds = [] → (m = 0 → ∀ b, C.fp b → ∃ i : Nat, C.bx[i]? = some b) →
    ar C 0 ⟨[], dw 0 b0, (List.range m).map (b0.length + ·), b0.length + m⟩ G #[] w → vals.size = args.length →
    (∀ (i : Nat) (u : Value) (a : A), vals[i]? = some u → args[i]? = some a → aA (ao C G (b0.length + m) w) u a) →
    Calls P f vals w fun e w' => e = .panicked [{ v := v, recovered := false }] ∧ Fr C w'
inductive Out where
  | ret (r : A) (b1 : List (List A)) (k : Nat)
  | wy (v : Value)
def oB (P : Program) [Met P] (f : FuncId) (args : List A) (b0 : List (List A)) (m : Nat) : Out → Prop
  | .ret r b1 k => b9 P f args b0 m r b1 k
  | .wy v => wM P f args b0 m v
def Out.len : Out → Nat → Bool
  | .ret _ b1 _, n => Nat.beq b1.length n
  | .wy _, _ => true
theorem oB.ret {P : Program} [Met P] {f : FuncId} {args : List A} {b0 : List (List A)} {m : Nat} {x : Out} {r : A} {b1 : List (List A)} {k : Nat} (h : oB P f args b0 m x) (hx : x = .ret r b1 k) : b9 P f args b0 m r b1 k := by subst hx; exact h
theorem oB.wy {P : Program} [Met P] {f : FuncId} {args : List A} {b0 : List (List A)} {m : Nat} {x : Out} {v : Value} (h : oB P f args b0 m x) (hx : x = .wy v) : wM P f args b0 m v := by subst hx; exact h
section
variable {P : Program} {C : Ctx} {n : Nat} {ops : Array Oper} {Q : Exit → St → Prop} {rest : List Oper} {st : St} {o : Oper}
end
section
variable {P : Program} {C : Ctx} {n : Nat} {ops : Array Oper} {Q : Exit → St → Prop} {rest : List Oper} {c : Code}
variable {f : List (Nat × A)} {bx : List (Nat × List A)} {lv : List Nat} {gen : Nat} {d : Nat} {op : Op} {ty : TypeId} {pos : String} {af : Array Edge} {a : A} {dst : Option Nat}
end
end Go.Ab
namespace Go.Tb
open Go.Ab
structure Tk where
  kind : Int
  s : ByteArray
  n : Int
  at_ : Nat
  nx : Nat
abbrev E0 : ByteArray := B #[]
@[reducible] def Tk.c (t : Tk) : List D := [ci t.kind, cs (if t.kind = 3 then E0 else t.s), ci t.n, ci (t.at_ : Int)]
def yV (k : Int) : Int := if k = 0 then 0 else if k = 1 then 5 else k - 1
@[reducible] def Tk.r (t : Tk) : List D := [ci (yV t.kind), cs t.s, ci (t.at_ : Int), ci (t.nx : Int)]
def yu (b : UInt8) : Bool := decide (97 ≤ b.toNat) && decide (b.toNat ≤ 122)
abbrev yS (k : Nat) : Tk := ⟨0, E0, 0, k, 0⟩
def Tk.stops (t : Tk) : Bool := decide (t.kind = 0) || decide (t.kind = 1)
def Tk.ok (t : Tk) : Bool :=
  (!decide (t.kind = 2) || (match aQ t.s with | c :: _ => yu c | [] => false)) && (!decide (t.kind = 5) || (match aQ t.s with | c :: _ => !yu c | [] => false)) &&
  (!decide (t.kind = 3) || decide ((du t.s).2 = true ∧ t.n = (du t.s).1)) && decide (0 ≤ t.kind) && decide (t.kind ≤ 5)
structure Wf (l : List Tk) : Prop where
  ne : l ≠ []
  last : ∀ (i : Nat) t, l[i]? = some t → (t.stops = true ↔ i + 1 = l.length)
  ok : ∀ t ∈ l, t.ok = true
end Go.Tb
namespace Go.Tb
open Go.Ab
abbrev PS := Nat × Bool
abbrev Pr (α : Type) := PS → α × PS
abbrev zp : Tk := yS 0
section
variable (L : List Tk)
def yr (st : PS) : Tk := (L[st.1]?).getD zp
/-! ### what readers do -/
structure vY {α : Type} (f : Pr α) : Prop where
  mono : ∀ st, st.1 ≤ (f st).2.1
  lt : ∀ st, st.1 < L.length → (f st).2.1 < L.length
  bad : ∀ st, st.2 = true → (f st).2 = st
variable {L}
theorem yo {st : PS} {t : Tk} (h : L[st.1]? = some t) : yr L st = t := by unfold yr; rw [h]; rfl
theorem Wf.more (hw : Wf L) {st : PS} (h : st.1 < L.length) (hs : (yr L st).stops = false) : st.1 + 1 < L.length := by
  have e : L[st.1]? = some (L[st.1]'h) := by simp
  rw [yo e] at hs
  have := hw.last _ _ e
  rcases Nat.lt_or_ge (st.1 + 1) L.length with h' | h'
  · exact h'
  · have h2 := this.2 (by omega)
    rw [h2] at hs
    cases hs
end
end Go.Tb
namespace Go.Tb
open Go.Ab
section
variable (L : List Tk)
variable {L}
/-! ### steps and queries -/
theorem vY.map {α β : Type} {f : Pr α} {h : Pr β} (hf : vY L f) (e : ∀ st, (h st).2 = (f st).2) : vY L h where
  mono st := by rw [e]; exact hf.mono st
  lt st hl := by rw [e]; exact hf.lt st hl
  bad st hb := by rw [e]; exact hf.bad st hb
end
end Go.Tb
namespace Go.Tb
open Go.Ab
/-! ### the functions -/
end Go.Tb
namespace Go.Tb
open Go.Ab
/-! ### the same as by places -/
end Go.Tb
namespace Go.Tb
open Go.Ab
theorem wh : ∀ (n : Nat) (l : List UInt8), l.length = n → l ≠ [] → (∀ b ∈ l, bH b = true) → (1 < l.length → l.head? ≠ some 48) → bO (b7 0 l) = l ∧ (l.head? ≠ some 48 → 0 < b7 0 l) := by
  intro n
  induction n with
  | zero => intro l h0 h1; exact absurd (List.length_eq_zero_iff.1 h0) h1
  | succ n ih =>
    intro l hl h1 hd hz
    obtain ⟨l', b, rfl⟩ : ∃ l' b, l = l' ++ [b] := ⟨l.dropLast, l.getLast h1, (List.dropLast_concat_getLast h1).symm⟩
    have hb := hd b (by simp)
    have hb' : 48 ≤ b.toNat ∧ b.toNat ≤ 57 := by simpa [bH] using hb
    have e1 : b7 0 (l' ++ [b]) = 10 * b7 0 l' + (b.toNat - 48) := by rw [jg]; simp [b7, hb]
    have hbn : UInt8.ofNat (48 + (b.toNat - 48)) = b := UInt8.toNat_inj.1 (by rw [UInt8.toNat_ofNat']; omega)
    by_cases q : l' = []
    · subst q
      have e2 : b7 0 ([] ++ [b]) = b.toNat - 48 := by rw [e1]; simp [b7]
      rw [e2]
      refine ⟨by rw [b5 (by omega), hbn]; rfl, fun h => ?_⟩
      have : b ≠ 48 := fun e => h (by rw [e]; rfl)
      have h2 : b.toNat ≠ 48 := fun e => this (UInt8.toNat_inj.1 e)
      omega
    · have hh : (l' ++ [b]).head? = l'.head? := by cases l' with | nil => exact absurd rfl q | cons x r => rfl
      have hlen : l'.length = n := by simpa using hl
      have hlp : 0 < l'.length := List.length_pos_iff.2 q
      have hz' : l'.head? ≠ some 48 := by rw [← hh]; exact hz (by simp; omega)
      obtain ⟨i1, i2⟩ := ih l' hlen q (fun x hx => hd x (by simp [hx])) (fun _ => hz')
      have i3 := i2 hz'
      rw [e1]
      refine ⟨?_, fun _ => by omega⟩
      rw [dO (by omega), show (10 * b7 0 l' + (b.toNat - 48)) / 10 = b7 0 l' by omega, show (10 * b7 0 l' + (b.toNat - 48)) % 10 = b.toNat - 48 by omega, i1, hbn]
end Go.Tb
