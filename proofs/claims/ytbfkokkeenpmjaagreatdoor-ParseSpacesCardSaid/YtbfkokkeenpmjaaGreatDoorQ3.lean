import Derived.Test.YtbfkokkeenpmjaaGreatDoorQ2
/- Tokens behind a blank; tokens with wider white space. -/
namespace Go.Tb
open Go.Ab

theorem dropW_head {α : Type} {p : α → Bool} {l : List α} {c : α} {r : List α} (h : l.dropWhile p = c :: r) : p c = false := by
  induction l with
  | nil => cases h
  | cons a l ih =>
    rw [List.dropWhile_cons] at h
    by_cases q : p a = true
    · rw [if_pos q] at h; exact ih h
    · rw [if_neg q] at h
      cases h
      simpa using q
theorem lex_white {c : UInt8} (h : whiB c = true) (l : List UInt8) : lex (c :: l) = lex l := by
  rw [lex_eq (c :: l), lex_eq l, List.dropWhile_cons, if_pos h]
/-! ### wider white space -/
def wideL (l : List UInt8) : List UInt8 := l.flatMap fun b => if b = 32 then [32, 9, 13, 10] else [b]
theorem wide_cons (b : UInt8) (l : List UInt8) : wideL (b :: l) = (if b = 32 then [32, 9, 13, 10] else [b]) ++ wideL l := rfl
theorem wide_ne {b : UInt8} (h : b ≠ 32) (l : List UInt8) : wideL (b :: l) = b :: wideL l := by rw [wide_cons, if_neg h]; rfl
theorem wide_len : ∀ l : List UInt8, l.length ≤ (wideL l).length
  | [] => Nat.le_refl _
  | b :: l => by
    have := wide_len l
    rw [wide_cons]
    split <;> simp <;> omega
theorem wide_app (a b : List UInt8) : wideL (a ++ b) = wideL a ++ wideL b := by unfold wideL; rw [List.flatMap_append]
/-- a run of bytes that are not blank -/
theorem wide_run {p : UInt8 → Bool} (hp : p 32 = false) (X : List UInt8) (hX : X.takeWhile p = []) : ∀ l : List UInt8, (wideL l ++ X).takeWhile p = l.takeWhile p ∧ (wideL l ++ X).dropWhile p = wideL (l.dropWhile p) ++ X
  | [] => by
    refine ⟨hX, ?_⟩
    show X.dropWhile p = X
    cases X with
    | nil => rfl
    | cons a X =>
      rw [List.takeWhile_cons] at hX
      rw [List.dropWhile_cons]
      by_cases q : p a = true
      · rw [if_pos q] at hX; cases hX
      · rw [if_neg q]
  | b :: l => by
    have ih := wide_run hp X hX l
    by_cases e : b = 32
    · subst e
      rw [List.takeWhile_cons, List.dropWhile_cons, if_neg (by simp [hp]), if_neg (by simp [hp])]
      show (32 :: _).takeWhile p = [] ∧ (32 :: ([9, 13, 10] ++ wideL l ++ X)).dropWhile p = _
      rw [List.takeWhile_cons, List.dropWhile_cons, if_neg (by simp [hp]), if_neg (by simp [hp])]
      exact ⟨rfl, rfl⟩
    · rw [wide_ne e, List.cons_append, List.takeWhile_cons, List.takeWhile_cons, List.dropWhile_cons, List.dropWhile_cons]
      by_cases q : p b = true
      · rw [if_pos q, if_pos q, if_pos q, if_pos q, ih.1, ih.2]
        exact ⟨rfl, rfl⟩
      · rw [if_neg q, if_neg q, if_neg q, if_neg q]
        refine ⟨rfl, ?_⟩
        rw [wide_ne e]
        rfl
theorem wide_white (X : List UInt8) : ∀ l : List UInt8, (wideL l ++ X).dropWhile whiB = if l.dropWhile whiB = [] then X.dropWhile whiB else wideL (l.dropWhile whiB) ++ X
  | [] => rfl
  | b :: l => by
    have ih := wide_white X l
    by_cases q : whiB b = true
    · rw [List.dropWhile_cons, if_pos q, ← ih]
      by_cases e : b = 32
      · subst e
        rw [wide_cons, if_pos rfl]
        simp only [List.cons_append, List.nil_append, List.dropWhile_cons]
        rw [if_pos (by decide), if_pos (by decide), if_pos (by decide), if_pos (by decide)]
      · rw [wide_ne e, List.cons_append, List.dropWhile_cons, if_pos q]
    · have e : b ≠ 32 := fun e => q (by rw [e]; decide)
      rw [List.dropWhile_cons, if_neg q, if_neg (by simp), wide_ne e, List.cons_append, List.dropWhile_cons, if_neg q]
/-- the tokens of the wider text, one by one -/
inductive Wider : List UInt8 → List Tk → List Tk → Prop
  | nil (l : List UInt8) : Wider l [] []
  | cons {l : List UInt8} {t t' : Tk} {a b : List Tk} (u : List UInt8) (hc : t'.core = t.core) (hu : u <:+ l) (hl : u.length = t.at_) (hl' : t'.at_ ≤ (wideL u).length + 2) (r : Wider l a b) : Wider l (t :: a) (t' :: b)
theorem Wider.up {l l' : List UInt8} {a b : List Tk} (h : Wider l a b) (hs : l <:+ l') : Wider l' a b := by
  induction h with
  | nil => exact .nil _
  | cons u hc hu hl hl' _ ih => exact .cons u hc (hu.trans hs) hl hl' ih
theorem lexA_wide (c : UInt8) (r : List UInt8) (hc : c ≠ 34) (hw : whiB c = false) : (lexA c (wideL r ++ [32, 32])).1.core = (lexA c r).1.core ∧ (lexA c (wideL r ++ [32, 32])).1.at_ = (wideL (c :: r)).length + 2 ∧ (lexA c r).1.at_ = r.length + 1 ∧
    ((lexA c r).1.kind ≠ 1 → (lexA c (wideL r ++ [32, 32])).2 = wideL (lexA c r).2 ++ [32, 32]) := by
  have e : c ≠ 32 := fun e => by rw [e] at hw; exact absurd hw (by decide)
  have hlen : (wideL r ++ [32, 32]).length + 1 = (wideL (c :: r)).length + 2 := by rw [wide_ne e]; simp
  have hcons : c :: (wideL r ++ [32, 32]) = wideL (c :: r) ++ [32, 32] := by rw [wide_ne e]; rfl
  unfold lexA
  by_cases h1 : letB c = true
  · simp only [h1, if_true]
    obtain ⟨e1, e2⟩ := wide_run (p := wrdB) (by decide) [32, 32] (by decide) (c :: r)
    rw [hcons, e1, e2]
    exact ⟨by first | rfl | trivial, hlen, by first | rfl | trivial, fun _ => rfl⟩
  simp only [h1, if_false, Bool.false_eq_true]
  by_cases h2 : isDig c = true
  · simp only [h2, if_true]
    obtain ⟨e1, e2⟩ := wide_run (p := isDig) (by decide) [32, 32] (by decide) (c :: r)
    rw [hcons, e1, e2]
    by_cases h3 : (numP (ofL ((c :: r).takeWhile isDig))).2 = true
    · simp only [h3, if_true]
      exact ⟨by first | rfl | trivial, hlen, by first | rfl | trivial, fun _ => by first | rfl | trivial⟩
    · rw [if_neg h3, if_neg h3]
      exact ⟨by first | rfl | trivial, hlen, by first | rfl | trivial, fun h => absurd rfl h⟩
  simp only [h2, if_false, Bool.false_eq_true, hc]
  have hh : (wideL r ++ [32, 32]).head? = some 61 ↔ r.head? = some 61 := by
    cases r with
    | nil => simp [wideL]
    | cons b r =>
      by_cases q : b = 32
      · subst q; rw [wide_cons, if_pos rfl]; simp
      · rw [wide_ne q]; simp
  by_cases h4 : r.head? = some 61 ∧ sgn2 c = true
  · obtain ⟨r', rfl⟩ : ∃ r', r = 61 :: r' := by
      cases r with
      | nil => simp at h4
      | cons a r' => simp at h4; exact ⟨r', by rw [h4.1]⟩
    rw [if_pos h4, if_pos ⟨hh.2 h4.1, h4.2⟩]
    refine ⟨by first | rfl | trivial, hlen, by first | rfl | trivial, fun _ => ?_⟩
    rw [wide_ne (by decide)]
    rfl
  · rw [if_neg h4, if_neg (fun ⟨a, b⟩ => h4 ⟨hh.1 a, b⟩)]
    by_cases h5 : sgn1 c = true
    · rw [if_pos h5, if_pos h5]
      exact ⟨by first | rfl | trivial, hlen, by first | rfl | trivial, fun _ => rfl⟩
    · rw [if_neg h5, if_neg h5]
      exact ⟨by first | rfl | trivial, hlen, by first | rfl | trivial, fun h => absurd rfl h⟩
theorem lexA_suf (c : UInt8) (r : List UInt8) (hc : c ≠ 34) : (lexA c r).2 <:+ c :: r := by
  unfold lexA
  split
  · exact List.dropWhile_suffix _
  · split
    · split
      · exact List.dropWhile_suffix _
      · exact List.nil_suffix
    · split
      · exact (List.tail_suffix r).trans (List.suffix_cons c r)
      · split
        · exact List.suffix_cons c r
        · exact List.nil_suffix
theorem lex_wide : ∀ (l : List UInt8), (∀ b ∈ l, b ≠ 34) → Wider l (lex l) (lex (wideL l ++ [32, 32])) := by
  intro l
  induction hn : l.length using Nat.strongRecOn generalizing l with
  | _ n ih =>
    subst hn
    intro hq
    have hw := wide_white [32, 32] l
    cases q : l.dropWhile whiB with
    | nil =>
      rw [q, if_pos rfl] at hw
      rw [lex_nil q, lex_nil (by rw [hw]; decide)]
      exact .cons [] rfl List.nil_suffix rfl (Nat.zero_le _) (.nil _)
    | cons c r =>
      rw [q, if_neg (by simp)] at hw
      have hwc := dropW_head q
      have hsuf : c :: r <:+ l := by rw [← q]; exact List.dropWhile_suffix _
      have hc : c ≠ 34 := hq c (hsuf.subset (by simp))
      have e : c ≠ 32 := fun e => by rw [e] at hwc; exact absurd hwc (by decide)
      rw [wide_ne e, List.cons_append] at hw
      obtain ⟨e1, e2, e3, e4⟩ := lexA_wide c r hc hwc
      have e5 : (lexA c (wideL r ++ [32, 32])).1.kind = (lexA c r).1.kind := by have := congrArg Tk.kind e1; exact this
      rw [lex_cons q, lex_cons hw]
      by_cases h : (lexA c r).1.kind = 1
      · rw [if_pos h, if_pos (by rw [e5]; exact h)]
        exact .cons (c :: r) e1 hsuf (by rw [e3]; rfl) (by rw [e2]; exact Nat.le_refl _) (.nil _)
      · rw [if_neg h, if_neg (by rw [e5]; exact h), e4 h]
        have hs2 := (lexA_suf c r hc).trans hsuf
        have hl : (lexA c r).2.length < l.length := by
          have h1 := hsuf.length_le
          have h2 := lexA_len c r
          simp only [List.length_cons] at h1
          omega
        exact .cons (c :: r) e1 hsuf (by rw [e3]; rfl) (by rw [e2]; exact Nat.le_refl _) ((ih _ hl _ rfl (fun b hb => hq b (hs2.subset hb))).up hs2)
theorem Wider.get {l : List UInt8} {a b : List Tk} (h : Wider l a b) : b.map Tk.core = a.map Tk.core ∧ ∀ (i : Nat) t, a[i]? = some t → ∃ t', b[i]? = some t' ∧ t'.core = t.core ∧ ∃ u, u <:+ l ∧ u.length = t.at_ ∧ t'.at_ ≤ (wideL u).length + 2 := by
  induction h with
  | nil => exact ⟨rfl, fun i t h => by simp at h⟩
  | cons u hc hu hl hl' _ ih =>
    refine ⟨by rw [List.map_cons, List.map_cons, hc, ih.1], fun i t h => ?_⟩
    cases i with
    | zero =>
      simp only [List.getElem?_cons_zero, Option.some.injEq] at h
      subst h
      exact ⟨_, rfl, hc, u, hu, hl, hl'⟩
    | succ i => exact ih.2 i t (by simpa using h)
end Go.Tb
/- A valid expression's text with parentheses around every operator, and its tokens. -/
namespace Go.Tb
open Go.Ab

theorem bys_append (a b : ByteArray) : bys (a ++ b) = bys a ++ bys b := by unfold bys; simp [ByteArray.data_append]
theorem bys_ofL (l : List UInt8) : bys (ofL l) = l := by unfold bys ofL; simp

/-- what a valid expression is -/
inductive Vx : Ex → Prop
  | const (v : Val) (h : constErr v = 0) : Vx (exK v)
  | field (s : ByteArray) (h : identB s = true) : Vx (exF s)
  | not_ (k : Ex) (h : Vx k) : Vx (mk1 3 k)
  | neg (k : Ex) (h : Vx k) : Vx (mk1 4 k)
  | bin (op : Int) (a b : Ex) (h5 : 5 ≤ op) (h15 : op ≤ 15) (ha : Vx a) (hb : Vx b) : Vx (mk2 op a b)
  | call1 (s : ByteArray) (k : Ex) (h : identB s = true) (hk : Vx k) : Vx (exC s [k])
  | call2 (s : ByteArray) (a b : Ex) (h : identB s = true) (ha : Vx a) (hb : Vx b) : Vx (exC s [a, b])
/-! ### its tokens -/
end Go.Tb
/- Regions that draw their order and hold one operation that turns the ghost (a call that lends, a store, an append): one walk of the text's order serves every order. -/
namespace Go.Ab
open Go.RowKit

/-! ### whatever the states are -/
section
variable {P : Program} {ops : Array Oper} {md : Region.Mode} {m : Nat} {S E : Type} (Y : Nat → E → S → Prop) (ef : Nat → E → S → S)

/-- what is listed waits for nothing that is not -/
def Closed (md : Region.Mode) (ops : Array Oper) (listed : Array Bool) : Prop :=
  ∀ j oj, ops[j]? = some oj → listed.getD j false = true → ∀ e ∈ oj.after, Region.binds md e = true → listed.getD e.on false = true
/-- operation j comes behind operation i, by whatever way -/
def reachB (md : Region.Mode) (ops : Array Oper) : Nat → Nat → Nat → Bool
  | 0, _, _ => false
  | k + 1, j, i => behindB md ops j i || (match ops[j]? with | some o => o.after.toList.any fun e => Region.binds md e && reachB md ops k e.on i | none => false)
theorem reach_listed {listed : Array Bool} (hc : Closed md ops listed) : ∀ (k j i : Nat), reachB md ops k j i = true → (∀ oj, ops[j]? = some oj → ∀ e ∈ oj.after, Region.binds md e = true → listed.getD e.on false = true) → listed.getD i false = true
  | 0, _, _, h, _ => by simp [reachB] at h
  | k + 1, j, i, h, hj => by
    simp only [reachB, Bool.or_eq_true] at h
    cases hoj : ops[j]? with
    | none =>
      rw [hoj] at h
      simp [behindB, hoj] at h
    | some oj =>
      rcases h with h | h
      · obtain ⟨e, he, hb, heq⟩ := behindB_spec hoj h
        rw [← heq]
        exact hj oj hoj e he hb
      · rw [hoj] at h
        obtain ⟨e, he, hb⟩ := List.any_eq_true.1 h
        simp only [Bool.and_eq_true] at hb
        have he' : e ∈ oj.after := by simpa using he
        have hl := hj oj hoj e he' hb.1
        exact reach_listed hc k e.on i hb.2 fun o ho e' he'' hb' => hc e.on o ho hl e' he'' hb'
/-- the last part waits for all of the first, and for what stands before it -/
def waitT (md : Region.Mode) (ops : Array Oper) (m : Nat) : Bool := (List.range ops.size).all fun j => decide (j < m) || (List.range j).all fun i => reachB md ops ops.size j i
theorem waitsT {j : Nat} (h : waitT md ops m = true) (hm : m ≤ j) {i : Nat} (hij : i < j) {listed : Array Bool} (hc : Closed md ops listed) (hj : j ∈ Region.ready md ops listed) : listed.getD i false = true := by
  obtain ⟨_, oj, hoj, hall⟩ := mem_ready.1 hj
  have hlt : j < ops.size := (Array.getElem?_eq_some_iff.1 hoj).1
  have h1 := List.all_eq_true.1 h j (by simpa using hlt)
  simp only [Bool.or_eq_true, decide_eq_true_eq] at h1
  have h2 := List.all_eq_true.1 (h1.resolve_left (by omega)) i (by simpa using hij)
  exact reach_listed hc _ j i h2 fun o ho e he hb => by rw [hoj] at ho; cases ho; exact hall e he hb
theorem Closed.add {listed : Array Bool} (hc : Closed md ops listed) {i : Nat} (hi : i ∈ Region.ready md ops listed) : Closed md ops (listed.setIfInBounds i true) := by
  intro j oj hoj hl e he hb
  obtain ⟨_, oi, hoi, hall⟩ := mem_ready.1 hi
  by_cases hji : i = j
  · subst hji
    rw [hoi] at hoj
    cases hoj
    exact getD_set_true (hall e he hb)
  · rw [getD_set_ne false hji] at hl
    exact getD_set_true (hc j oj hoj hl e he hb)

def wpG (m : Nat) (md : Region.Mode) (ops : Array Oper) (Q : S → Prop) : Nat → Array Bool → S → Prop
  | 0, listed, σ => Split m ops listed ∧ Q σ
  | fuel + 1, listed, σ => Region.ready md ops listed ≠ [] ∧ ∀ i ∈ Region.ready md ops listed, ∃ e, Y i e σ ∧ wpG m md ops Q fuel (listed.setIfInBounds i true) (ef i e σ)
/-- two operations may change places -/
def Swap (i j : Nat) : Prop := ∀ e e' σ, Y i e σ → Y j e' (ef i e σ) → Y j e' σ ∧ Y i e (ef j e' σ) ∧ ef j e' (ef i e σ) = ef i e (ef j e' σ)

variable {Y} {ef}
theorem wpG_first {Q : S → Prop} {i : Nat} {oi : Oper} {e : E} (hw : waitT md ops m = true) (him : i < m) (hi : ops[i]? = some oi) :
    ∀ (fuel : Nat) (listed : Array Bool) (σ : S), Closed md ops listed →
      (∀ j oj, ops[j]? = some oj → j ≠ i → j < m → listed.getD j true = false → (∀ e ∈ oj.after, Region.binds md e = true → e.on ≠ i) → Swap Y ef i j) →
      i ∈ Region.ready md ops listed → Y i e σ → wpG Y ef m md ops Q fuel (listed.setIfInBounds i true) (ef i e σ) → wpG Y ef m md ops Q (fuel + 1) listed σ := by
  have unl : ∀ {listed : Array Bool}, i ∈ Region.ready md ops listed → listed.getD i false = false := fun hr => unlisted (mem_ready.1 hr).1
  intro fuel
  induction fuel with
  | zero =>
    intro listed σ hc _ hr hy H
    refine ⟨fun h => (by rw [h] at hr; cases hr), fun j hj => ?_⟩
    by_cases hji : j = i
    · subst hji; exact ⟨e, hy, H⟩
    · exfalso
      obtain ⟨⟨_, h1, h2⟩, _⟩ := H
      have hj1 := (mem_ready.1 hj).1
      by_cases hjm : j < m
      · have := h1 j hjm
        rw [getD_set_ne false (Ne.symm hji)] at this
        rw [unlisted hj1] at this
        cases this
      · have := waitsT hw (by omega) (show i < j by omega) hc hj
        rw [unl hr] at this
        cases this
  | succ fuel ih =>
    intro listed σ hc hfree hr hy H
    refine ⟨fun h => (by rw [h] at hr; cases hr), fun j hj => ?_⟩
    by_cases hji : j = i
    · subst hji; exact ⟨e, hy, H⟩
    · obtain ⟨e', hy', H'⟩ := H.2 j (ready_mono hj hji)
      obtain ⟨hjun, oj, hoj, hall⟩ := mem_ready.1 hj
      have hnot : ∀ e ∈ oj.after, Region.binds md e = true → e.on ≠ i := fun e he hb heq => by
        have h1 := hall e he hb
        rw [heq, unl hr] at h1
        cases h1
      have hjm : j < m := by
        rcases Nat.lt_or_ge j m with h | h
        · exact h
        · have := waitsT hw h (show i < j by omega) hc hj
          rw [unl hr] at this
          cases this
      obtain ⟨s1, s2, s3⟩ := hfree j oj hoj hji hjm hjun hnot e e' σ hy hy'
      have hfree' : ∀ k ok, ops[k]? = some ok → k ≠ i → k < m → (listed.setIfInBounds j true).getD k true = false → (∀ e ∈ ok.after, Region.binds md e = true → e.on ≠ i) → Swap Y ef i k := fun k ok hk hki hkm hun hno => by
        refine hfree k ok hk hki hkm ?_ hno
        by_cases hjk : j = k
        · subst hjk; exact hjun
        · rw [getD_set_ne true hjk] at hun; exact hun
      refine ⟨e', s1, ih (listed.setIfInBounds j true) _ (hc.add hj) hfree' (ready_mono hr (Ne.symm hji)) s2 ?_⟩
      rw [Array.setIfInBounds_comm _ _ hji, ← s3]
      exact H'

/-- the walk in the text's order -/
def ceG (Y : Nat → E → S → Prop) (ef : Nat → E → S → S) (Q : S → Prop) : List Oper → Nat → S → Prop
  | [], _, σ => Q σ
  | _ :: rest, i, σ => ∃ e, Y i e σ ∧ ceG Y ef Q rest (i + 1) (ef i e σ)
theorem wpG_lex {Q : S → Prop} (hw : waitT md ops m = true)
    (hsw : ∀ i j oi oj, ops[i]? = some oi → ops[j]? = some oj → i ≠ j → i < m → j < m → oi.apart ops oj = true → (∀ e ∈ oj.after, Region.binds md e = true → e.on ≠ i) → Swap Y ef i j) :
    ∀ (l : List Oper) (k : Nat) (listed : Array Bool) (σ : S), k + l.length = m → (∀ j, j < l.length → l[j]? = ops[k + j]?) → Closed md ops listed →
    listed.size = ops.size → (∀ j, j < k → listed.getD j false = true) → (∀ j, k ≤ j → j < ops.size → listed.getD j true = false) →
    lexE md ops l.length k listed = true → ceG Y ef Q l k σ → wpG Y ef m md ops Q l.length listed σ
  | [], k, listed, σ, hk, _, _, hs, h1, h2, _, h => ⟨⟨hs, fun j hj => h1 j (by simp at hk; omega), fun j hj hj' => h2 j (by simp at hk; omega) hj'⟩, h⟩
  | o :: l, k, listed, σ, hk, hl, hc, hs, h1, h2, hB, h => by
    have h0 : ops[k]? = some o := by simpa using (hl 0 (by simp)).symm
    have hks : k < ops.size := (Array.getElem?_eq_some_iff.1 h0).1
    simp only [List.length_cons, lexE, Bool.and_eq_true] at hB
    obtain ⟨⟨hr, hf⟩, hB'⟩ := hB
    have hr' : k ∈ Region.ready md ops listed := by simpa using hr
    obtain ⟨e, hy, hK⟩ := h
    have hkm : k < m := by simp at hk; omega
    refine wpG_first hw hkm h0 l.length listed σ hc (fun j oj hoj hjk hjm hun hno => hsw k j o oj h0 hoj (Ne.symm hjk) hkm hjm (Region.free_spec h0 hf j oj hoj hjk hun hno) hno) hr' hy
      (wpG_lex hw hsw l (k + 1) _ _ (by simp at hk; omega) (fun j hj => by have := hl (j + 1) (by simpa using hj); simpa [Nat.add_assoc, Nat.add_comm 1 j] using this) (hc.add hr') (by simpa using hs) (fun j hj => ?_) (fun j hj hj' => ?_) hB' hK)
    · rcases Nat.lt_succ_iff_lt_or_eq.1 hj with hlt | rfl
      · exact getD_set_true (h1 j hlt)
      · simp [hs, hks]
    · rw [getD_set_ne true (by omega)]
      exact h2 j (by omega) hj'
theorem wpAny_of_G {Sm : S → Act → World → Prop} {Q : S → Prop} {Q' : Exit → Act → World → Prop} {t : Nat}
    (hS : ∀ i e σ act w K, Sm σ act w → Y i e σ → (∀ act w, Sm (ef i e σ) act w → K act w) → wpOp P ops Q' i K act w)
    (hQ : ∀ listed σ act w, Sm σ act w → Closed md ops listed → Split m ops listed → Q σ → wpAny P md ops Q' t listed act w) :
    ∀ (fuel : Nat) (listed : Array Bool) (σ : S) (act : Act) (w : World), Sm σ act w → Closed md ops listed → wpG Y ef m md ops Q fuel listed σ → wpAny P md ops Q' (fuel + t) listed act w
  | 0, _, _, _, _, hs, hc, h => by rw [Nat.zero_add]; exact hQ _ _ _ _ hs hc h.1 h.2
  | fuel + 1, _, _, _, _, hs, hc, h => by
    rw [Nat.add_right_comm]
    refine ⟨fun h0 => absurd h0 h.1, fun i hi => ?_⟩
    obtain ⟨e, hy, hK⟩ := h.2 i hi
    exact hS i e _ _ _ _ hs hy fun act w hs' => wpAny_of_G hS hQ fuel _ _ _ _ hs' (hc.add hi) hK
/-- the last part, one by one -/
theorem wpAny_tailT {Q' : Exit → Act → World → Prop} (hw : waitT md ops m = true) (hrd : ∀ k, m ≤ k → ∀ o, ops[k]? = some o → ∀ e ∈ o.after, Region.binds md e = true → e.on < k) :
    ∀ (l : List Oper) (k : Nat) (listed : Array Bool) (act : Act) (w : World), m ≤ k → k + l.length = ops.size → (∀ j, l[j]? = ops[k + j]?) → Closed md ops listed → listed.size = ops.size → (∀ j, j < k → listed.getD j false = true) → (∀ j, k ≤ j → j < ops.size → listed.getD j true = false) →
      wpL P ops Q' l act w → wpAny P md ops Q' l.length listed act w
  | [], k, listed, act, w, hm, hk, _, _, hs, h1, h2, h => by
    refine ⟨?_, h⟩
    refine List.eq_nil_iff_forall_not_mem.2 fun j hj => ?_
    obtain ⟨h3, oj, hoj, _⟩ := mem_ready.1 hj
    have hlt := (Array.getElem?_eq_some_iff.1 hoj).1
    have := h1 j (by simp at hk; omega)
    rw [unlisted h3] at this
    cases this
  | o :: l, k, listed, act, w, hm, hk, hl, hc, hs, h1, h2, h => by
    have h0 : ops[k]? = some o := by simpa using (hl 0).symm
    have hks : k < ops.size := (Array.getElem?_eq_some_iff.1 h0).1
    have hready : k ∈ Region.ready md ops listed := mem_ready.2 ⟨h2 k (Nat.le_refl _) hks, o, h0, fun e he hb => h1 _ (hrd k hm o h0 e he hb)⟩
    refine ⟨fun hn => (by rw [hn] at hready; cases hready), fun i hi => ?_⟩
    have hik : i = k := by
      obtain ⟨h3, oi, hoi, _⟩ := mem_ready.1 hi
      rcases Nat.lt_trichotomy i k with hlt | he | hgt
      · have := h1 i hlt; rw [unlisted h3] at this; cases this
      · exact he
      · have := waitsT hw (by omega) hgt hc hi
        rw [unlisted (h2 k (Nat.le_refl _) hks)] at this
        cases this
    subst hik
    have ih := fun act w => wpAny_tailT (Q' := Q') hw hrd l (i + 1) (listed.setIfInBounds i true) act w (by omega) (by simp at hk; omega) (fun j => by have := hl (j + 1); simpa [Nat.add_assoc, Nat.add_comm 1 j] using this) (hc.add hready) (by simpa using hs)
      (fun j hj => by
        rcases Nat.lt_succ_iff_lt_or_eq.1 hj with hlt | rfl
        · exact getD_set_true (h1 j hlt)
        · simp [hs, hks]) (fun j hj hj' => by rw [getD_set_ne true (by omega)]; exact h2 j (by omega) hj')
    simp only [wpL] at h
    unfold wpOp
    simp only [h0]
    split
    · rename_i hw'
      rw [if_pos hw'] at h
      exact .inl (Oper.wp_mono ih h)
    · rename_i hw'
      rw [if_neg hw'] at h
      exact ih _ _ h
end

/-! ### one operation that turns the ghost -/
theorem Oper.wp_only {P : Program} {o : Oper} {a : Act} {w : World} {K K' : Act → World → Prop} {Q Q' : Exit → Act → World → Prop} (hp : ∀ c a w, ¬ Q (.panic c) a w) (hL : ¬ LetsOut Q) (hK : ∀ a w, K a w → K' a w) (h : o.wp P a w K Q) : o.wp P a w K' Q' := by
  unfold Oper.wp at *
  generalize (execOp a.eval o).run P w = r at *
  cases r with
  | ok n w' =>
    cases n <;> simp only [Oper.upon] at h ⊢ <;> first
      | exact hK _ _ h
      | exact Calls.mono h (fun e w'' he => by
          cases e with
          | returned v => exact hK _ _ he
          | panicked c => exact absurd he (hp _ _ _)
          | outgrown => exact absurd he hL)
      | exact Rows.mono h (fun _ _ he => hK _ _ he)
      | exact h
  | halt x w' =>
    cases x <;> simp only [Oper.upon] at h ⊢ <;> first
      | exact absurd h (hp _ _ _)
      | exact h
end Go.Ab
/- The rule for regions that draw their order and hold one operation that turns the ghost. -/
namespace Go.Ab
open Go.RowKit

/-- the boxes, the growing slices and the names before and behind the operation -/
structure Par where
  bx0 : List (Nat × List A)
  bx1 : List (Nat × List A)
  lv0 : List Nat
  lv1 : List Nat
  gen0 : Nat
  gen1 : Nat

section
variable {P : Program} {C : Ctx} {n : Nat} (S : Par) {ops : Array Oper} (c : Nat)
abbrev SC := Fr' × Bool
def SmC (C : Ctx) (n : Nat) (S : Par) (σ : SC) (act : Act) (w : World) : Prop :=
  act.defers = [] ∧ ∃ G, if σ.2 = true then SimF C n S.bx1 S.lv1 S.gen1 σ.1 G act.tmps w else SimF C n S.bx0 S.lv0 S.gen0 σ.1 G act.tmps w
def XEv (P : Program) (C : Ctx) (n : Nat) (S : Par) (ops : Array Oper) (o : Oper) (a : A) (φ : Fr') : Prop :=
  o.guard = none ∧ ∃ p, (∀ t x, look p t = some x → φ t = some x ∧ t ∈ o.looksAt ops) ∧
    ∀ g, WO P C n ops (fun e st => e = .normal ∧ st = St.put ⟨p ++ g, S.bx1, S.lv1, S.gen1⟩ o.dst a) [o] ⟨p ++ g, S.bx0, S.lv0, S.gen0⟩
def YC (P : Program) (C : Ctx) (n : Nat) (S : Par) (ops : Array Oper) (c : Nat) (i : Nat) (a : A) (σ : SC) : Prop :=
  ∃ o, ops[i]? = some o ∧ dstOK n o.dst = true ∧ ((i = c ∧ σ.2 = false ∧ XEv P C n S ops o a σ.1) ∨
    (i ≠ c ∧ (behindB .any ops i c = false → YA P C n S.bx0 S.lv0 S.gen0 ops o a σ.1) ∧ (behindB .any ops c i = false → YA P C n S.bx1 S.lv1 S.gen1 ops o a σ.1) ∧
      (σ.2 = false → behindB .any ops i c = false) ∧ (σ.2 = true → behindB .any ops c i = false)))
def efC (ops : Array Oper) (c : Nat) (i : Nat) (a : A) (σ : SC) : SC :=
  match ops[i]? with
  | none => σ
  | some o => (putF σ.1 o.dst a, if i = c then true else σ.2)

variable {S} {c}
theorem XEv_put {o : Oper} {a : A} {φ : Fr'} {dst : Option Nat} {x : A} (hd : ∀ d, dst = some d → d ∉ o.looksAt ops) : XEv P C n S ops o a (putF φ dst x) ↔ XEv P C n S ops o a φ := by
  constructor
  · rintro ⟨h0, p, h1, h2⟩
    exact ⟨h0, p, fun t y hy => ⟨(putF_key hd (h1 t y hy).2).symm.trans (h1 t y hy).1, (h1 t y hy).2⟩, h2⟩
  · rintro ⟨h0, p, h1, h2⟩
    exact ⟨h0, p, fun t y hy => ⟨(putF_key hd (h1 t y hy).2).trans (h1 t y hy).1, (h1 t y hy).2⟩, h2⟩
theorem not_behind {j i : Nat} {oj : Oper} (hj : ops[j]? = some oj) (h : ∀ e ∈ oj.after, Region.binds .any e = true → e.on ≠ i) : behindB .any ops j i = false := by
  cases q : behindB .any ops j i with
  | false => rfl
  | true =>
    obtain ⟨e, he, hb, heq⟩ := behindB_spec hj q
    exact absurd heq (h e he hb)
theorem efC_at {i : Nat} {o : Oper} (h : ops[i]? = some o) (a : A) (σ : SC) : efC ops c i a σ = (putF σ.1 o.dst a, if i = c then true else σ.2) := by unfold efC; rw [h]
theorem swapC {i j : Nat} {oi oj : Oper} (hi : ops[i]? = some oi) (hj : ops[j]? = some oj) (hij : i ≠ j) (hap : oi.apart ops oj = true) (hno : ∀ e ∈ oj.after, Region.binds .any e = true → e.on ≠ i) :
    Swap (YC P C n S ops c) (efC ops c) i j := by
  obtain ⟨a1, a2, a3⟩ := Oper.apart_spec hap
  have hnb := not_behind hj hno
  rintro a b ⟨φ, ph⟩ ⟨oi', hi', di, hyi⟩ ⟨oj', hj', dj, hyj⟩
  rw [hi] at hi'
  cases hi'
  rw [hj] at hj'
  cases hj'
  rw [efC_at hi] at hyj
  rw [efC_at hi, efC_at hj, efC_at hj, efC_at hi]
  have hcomm : putF (putF φ oi.dst a) oj.dst b = putF (putF φ oj.dst b) oi.dst a := putF_comm φ a b a2
  simp only at hyi hyj ⊢
  rcases hyi with ⟨rfl, hph, hx⟩ | ⟨hic, y0, y1, y2, y3⟩
  · -- the operation itself stands first
    subst hph
    rcases hyj with ⟨e, _⟩ | ⟨hjc, z0, z1, z2, z3⟩
    · exact absurd e.symm hij
    · refine ⟨⟨oj, hj, dj, .inr ⟨hjc, fun h => (YA_put a1).1 (z0 h), fun h => (YA_put a1).1 (z1 h), fun _ => hnb, fun h => by cases h⟩⟩, ⟨oi, hi, di, .inl ⟨rfl, ?_, (XEv_put a3).2 hx⟩⟩, ?_⟩
      · rw [if_neg hjc]
      · rw [if_pos rfl, if_neg hjc, hcomm]
        simp
  · rcases hyj with ⟨rfl, hph, hx⟩ | ⟨hjc, z0, z1, z2, z3⟩
    · rw [if_neg hic] at hph
      subst hph
      refine ⟨⟨oj, hj, dj, .inl ⟨rfl, rfl, (XEv_put a1).1 hx⟩⟩, ⟨oi, hi, di, .inr ⟨hic, fun h => (YA_put a3).2 (y0 h), fun h => (YA_put a3).2 (y1 h), fun h => ?_, fun _ => hnb⟩⟩, ?_⟩
      · rw [if_pos rfl] at h; cases h
      · rw [if_pos rfl, if_neg hic, hcomm]
        simp
    · rw [if_neg hic] at z2 z3
      refine ⟨⟨oj, hj, dj, .inr ⟨hjc, fun h => (YA_put a1).1 (z0 h), fun h => (YA_put a1).1 (z1 h), z2, z3⟩⟩, ⟨oi, hi, di, .inr ⟨hic, fun h => (YA_put a3).2 (y0 h), fun h => (YA_put a3).2 (y1 h), ?_, ?_⟩⟩, ?_⟩
      · rw [if_neg hjc]; exact y2
      · rw [if_neg hjc]; exact y3
      · rw [if_neg hic, if_neg hjc, hcomm, if_neg hic]

/-- the frame as a list -/
def fallF (n : Nat) (φ : Fr') : List (Nat × A) := (List.range n).filterMap fun t => (φ t).map fun a => (t, a)
theorem look_fall (φ : Fr') : ∀ (l : List Nat) (t : Nat), look (l.filterMap fun t => (φ t).map fun a => (t, a)) t = if t ∈ l then φ t else none
  | [], t => rfl
  | s :: l, t => by
    rw [List.filterMap_cons]
    cases hs : φ s with
    | none =>
      simp only [Option.map_none]
      rw [look_fall φ l t]
      by_cases e : t = s
      · subst e; simp [hs]
      · simp [e]
    | some a =>
      simp only [Option.map_some, look_cons]
      by_cases e : s = t
      · subst e; simp [hs]
      · rw [if_neg e, look_fall φ l t]
        simp [Ne.symm e]
theorem look_app (p g : List (Nat × A)) (t : Nat) : look (p ++ g) t = match look p t with | some a => some a | none => look g t := by
  induction p with
  | nil => rfl
  | cons x p ih =>
    obtain ⟨s, a⟩ := x
    rw [List.cons_append, look_cons, look_cons]
    split
    · rfl
    · exact ih
theorem soundC (i : Nat) (a : A) (σ : SC) (act : Act) (w : World) (K : Act → World → Prop) {Q' : Exit → Act → World → Prop} (hs : SmC C n S σ act w) (hy : YC P C n S ops c i a σ) (hK : ∀ act w, SmC C n S (efC ops c i a σ) act w → K act w) : wpOp P ops Q' i K act w := by
  obtain ⟨tmps, dfs⟩ := act
  obtain ⟨rfl, G, hs⟩ := hs
  obtain ⟨φ, ph⟩ := σ
  obtain ⟨o, ho, hd, hy⟩ := hy
  rw [efC_at ho] at hK
  simp only at hs hy hK
  unfold wpOp
  simp only [ho]
  rcases hy with ⟨rfl, rfl, hg, p, hp, hx⟩ | ⟨hic, y0, y1, y2, y3⟩
  · simp only [Bool.false_eq_true, if_false] at hs
    have hw : Region.wanted o (yielded ops tmps) = true := by simp [Region.wanted, hg]
    rw [hw, if_pos rfl]
    refine .inl ?_
    have hlt : ∀ t x, φ t = some x → t < n := fun t x hx => by
      obtain ⟨v, h1, _⟩ := hs.2 t x hx
      have := (Array.getElem?_eq_some_iff.1 h1).1
      rw [hs.1.size] at this
      exact this
    have hlook : ∀ t, look (p ++ fallF n φ) t = φ t := fun t => by
      rw [look_app]
      cases q : look p t with
      | some x => exact (hp t x q).1.symm
      | none =>
        simp only
        unfold fallF
        rw [look_fall]
        cases e : φ t with
        | none => split <;> rfl
        | some x => rw [if_pos (List.mem_range.2 (hlt t x e))]
    have hs' := hs.toG (f := p ++ fallF n φ) fun t x hx => by rw [← hlook]; exact hx
    have h := hx (fallF n φ) tmps w ⟨G, hs'⟩
    simp only [wpL, hw, if_true] at h
    refine Oper.wp_only (fun c a w hq => ?_) (fun hl => ?_) (fun act2 w2 hq => ?_) h
    · obtain ⟨_, st', _, he, _⟩ := hq
      cases he
    · obtain ⟨_, _, hq⟩ := hl
      obtain ⟨_, st', _, he, _⟩ := hq
      cases he
    · obtain ⟨hdf, st', ⟨G', hs2⟩, _, rfl⟩ := hq
      refine hK act2 w2 ⟨hdf, G', ?_⟩
      simp only [if_true]
      show SimF C n S.bx1 S.lv1 S.gen1 (putF φ o.dst a) G' act2.tmps w2
      cases hdst : o.dst with
      | none =>
        rw [hdst] at hs2
        refine ⟨{ hs2 with frame := fun t a ha => by simp [look] at ha }, fun t x hx => hs2.frame t x ?_⟩
        show look (p ++ fallF n φ) t = some x
        rw [hlook]
        exact hx
      | some d =>
        rw [hdst] at hs2
        refine ⟨{ hs2 with frame := fun t a ha => by simp [look] at ha }, fun t x hx => hs2.frame t x ?_⟩
        show look ((d, a) :: (p ++ fallF n φ)) t = some x
        rw [look_cons]
        simp only [putF] at hx
        by_cases e : t = d
        · subst e
          rw [if_pos rfl] at hx ⊢
          exact hx
        · rw [if_neg e] at hx
          rw [if_neg (Ne.symm e), hlook]
          exact hx
  · rw [if_neg hic] at hK
    have key : ∀ {bx : List (Nat × List A)} {lv : List Nat} {gen : Nat}, SimF C n bx lv gen φ G tmps w → YA P C n bx lv gen ops o a φ → (∀ tmps w, SimF C n bx lv gen (putF φ o.dst a) G tmps w → K ⟨tmps, []⟩ w) →
        (if Region.wanted o (yielded ops tmps) = true then o.wp P ⟨tmps, []⟩ w K Q' ∨ (o.asks P ⟨tmps, []⟩ w ∧ LetsOut Q') else K (Act.put ⟨tmps, []⟩ o.dst undef) w) := by
      intro bx lv gen hsF hya hk
      obtain ⟨_, ⟨hw, f, hf, hp⟩ | ⟨hw, rfl⟩⟩ := hya
      · rw [wanted_of hsF hw]
        simp only [if_true]
        refine .inl ?_
        have hg : Gives P o ⟨tmps, []⟩ w fun v w' => Below w.heap.size w w' ∧ Rep (enOf C G gen w') v a := hp G tmps w (hsF.toG fun t x hx => (hf t x hx).1)
        refine hg.wp fun v w' ⟨hb, hr⟩ => ?_
        rw [Act.put_eq]
        exact hk _ _ (hsF.step hb hd hr)
      · rw [wanted_of hsF hw]
        simp only [Bool.false_eq_true, if_false]
        rw [Act.put_eq]
        exact hk _ _ (hsF.step (Below.refl _ _) hd (.tup #[] [] rfl (by simp)))
    cases ph with
    | false =>
      simp only [Bool.false_eq_true, if_false] at hs
      exact key hs (y0 (y2 rfl)) fun tmps w h => hK _ _ ⟨rfl, G, by simpa using h⟩
    | true =>
      simp only [if_true] at hs
      exact key hs (y1 (y3 rfl)) fun tmps w h => hK _ _ ⟨rfl, G, by simpa using h⟩

/-- the walk of such a region, over frames that are lists -/
def CC (P : Program) (C : Ctx) (n : Nat) (S : Par) (ops : Array Oper) (c : Nat) (Q : St → Prop) (l : List Oper) (i : Nat) (f : List (Nat × A)) (ph : Bool) : Prop :=
  ceG (YC P C n S ops c) (efC ops c) (fun σ => ∃ f', (∀ t, look f' t = σ.1 t) ∧ σ.2 = true ∧ Q ⟨f', S.bx1, S.lv1, S.gen1⟩) l i (look f, ph)
def regionOKC (m : Nat) (ops : Array Oper) : Bool := Nat.ble m ops.size && waitT .any ops m && foreB .any ops m && lexE .any ops m 0 (Array.replicate ops.size false)

theorem W.regionC (T : Tab P) {id : Nat} {l l1 l2 : List Oper} {f : List (Nat × A)} {bx bx1 : List (Nat × List A)} {lv lv1 : List Nat} {gen gen1 : Nat} {Q : Exit → St → Prop} (m c : Nat) (hB : regionOKC m l.toArray = true) (h1 : l.take m = l1) (h2 : l.drop m = l2)
    (h : CC P C n ⟨bx, bx1, lv, lv1, gen, gen1⟩ l.toArray c (WO P C n l.toArray Q l2) l1 0 f false) : W P C n (.region id l.toArray true) Q ⟨f, bx, lv, gen⟩ := by
  subst h1; subst h2
  intro tmps w ⟨G, hs⟩
  simp only [regionOKC, Bool.and_eq_true] at hB
  obtain ⟨⟨⟨hm, hw⟩, hfore⟩, hlex⟩ := hB
  have hm : m ≤ l.length := by simpa using Nat.le_of_ble_eq_true hm
  have hb : Below w.heap.size w { w with drawn := w.drawn + 1 } := (Below.refl _ w).drew
  have hs' : SimF C n bx lv gen (look f) G tmps { w with drawn := w.drawn + 1 } := SimF.ofG (hs.evolve hb).2
  have hlen : (l.take m).length = m := by simp; omega
  refine wp_region_any T.mixed ?_
  have hsz : l.toArray.size = (l.take m).length + (l.drop m).length := by simp; omega
  rw [hsz]
  have hcl : Closed .any l.toArray (Array.replicate ((l.take m).length + (l.drop m).length) false) := fun j oj _ hl _ _ _ => by
    by_cases q : j < (l.take m).length + (l.drop m).length
    · simp only [Array.getD_eq_getD_getElem?, Array.getElem?_replicate] at hl
      rw [if_pos q] at hl
      cases hl
    · simp only [Array.getD_eq_getD_getElem?, Array.getElem?_replicate] at hl
      rw [if_neg q] at hl
      cases hl
  refine wpAny_of_G (m := m) (Sm := SmC C n ⟨bx, bx1, lv, lv1, gen, gen1⟩) (Y := YC P C n ⟨bx, bx1, lv, lv1, gen, gen1⟩ l.toArray c) (ef := efC l.toArray c) (Q := fun σ => ∃ f', (∀ t, look f' t = σ.1 t) ∧ σ.2 = true ∧ WO P C n l.toArray Q (l.drop m) ⟨f', bx1, lv1, gen1⟩)
    (fun i e σ act w K hs hy hk => soundC i e σ act w K hs hy hk) (fun listed σ act w hs hc hsp ⟨f', e1, e2, hq⟩ => ?_) _ _ (look f, false) ⟨tmps, []⟩ _ ⟨rfl, G, by simpa using hs'⟩ hcl ?_
  · obtain ⟨tmps, dfs⟩ := act
    obtain ⟨rfl, G, hs⟩ := hs
    rw [e2] at hs
    simp only [if_true] at hs
    refine wpAny_tailT hw (foreB_spec hfore) (l.drop m) m listed ⟨tmps, []⟩ w (Nat.le_refl _) (by simp; omega) (fun j => by simp [List.getElem?_drop]) hc hsp.1 hsp.2.1 hsp.2.2 ?_
    exact hq tmps w ⟨G, hs.toG (fun t a ha => by rw [← e1]; exact ha)⟩
  · refine wpG_lex hw (fun i j oi oj hi hj hij him hjm hap hno => swapC hi hj hij hap hno) (l.take m) 0 _ _ (by rw [hlen]; omega) (fun j hj => ?_) hcl (by simp; omega) (fun j hj => by omega) (fun j _ hj => ?_) (by rw [hlen]; rw [hsz, hlen] at hlex; exact hlex) h
    · rw [hlen] at hj
      rw [Nat.zero_add]
      simp [List.getElem?_take, hj]
    · have hj' : j < l.length := by simpa using hj
      have e : min m l.length + (l.length - m) = l.length := by omega
      simp [e, hj']

variable {op : Op} {ty : TypeId} {pos : String} {af : Array Edge} {a : A} {d i : Nat} {rest : List Oper} {f : List (Nat × A)} {Q : St → Prop} {o : Oper} {ph : Bool}
theorem CC.nil_ (h : Q ⟨f, S.bx1, S.lv1, S.gen1⟩) : CC P C n S ops c Q [] i f true := ⟨f, fun _ => rfl, rfl, h⟩
theorem YA.of_pu {bx : List (Nat × List A)} {lv : List Nat} {gen : Nat} (hp : Pu P C n ⟨restr f (slotsOf op), bx, lv, gen⟩ ⟨some d, op, ty, pos, af, none⟩ a) (hd : Nat.blt d n = true) : YA P C n bx lv gen ops ⟨some d, op, ty, pos, af, none⟩ a (look f) :=
  ⟨hd, .inl ⟨rfl, _, fun t x hx => by
    obtain ⟨h1, h2⟩ := restr_look hx
    exact ⟨h1, List.mem_append.2 (.inl h2)⟩, hp⟩⟩
/-- an operation that may come before or behind -/
theorem ccPu_ (h1 : Pu P C n ⟨restr f (slotsOf op), S.bx1, S.lv1, S.gen1⟩ ⟨some d, op, ty, pos, af, none⟩ a) (h0 : Pu P C n ⟨restr f (slotsOf op), S.bx0, S.lv0, S.gen0⟩ ⟨some d, op, ty, pos, af, none⟩ a)
    (hi : ops[i]? = some ⟨some d, op, ty, pos, af, none⟩) (hc : Nat.beq i c = false) (b0 : behindB .any ops i c = false) (b1 : behindB .any ops c i = false) (hd : Nat.blt d n = true)
    (h : CC P C n S ops c Q rest (i + 1) ((d, a) :: f) ph) : CC P C n S ops c Q (⟨some d, op, ty, pos, af, none⟩ :: rest) i f ph := by
  have hic : i ≠ c := fun e => by subst e; simp at hc
  refine ⟨a, ⟨_, hi, hd, .inr ⟨hic, fun _ => YA.of_pu h0 hd, fun _ => YA.of_pu h1 hd, fun _ => b0, fun _ => b1⟩⟩, ?_⟩
  rw [efC_at hi]
  simp only [if_neg hic]
  unfold CC at h
  rw [look_put] at h
  exact h
/-- one that comes before -/
theorem ccPu0_ (h0 : Pu P C n ⟨restr f (slotsOf op), S.bx0, S.lv0, S.gen0⟩ ⟨some d, op, ty, pos, af, none⟩ a)
    (hi : ops[i]? = some ⟨some d, op, ty, pos, af, none⟩) (hc : Nat.beq i c = false) (b0 : behindB .any ops i c = false) (b1 : behindB .any ops c i = true) (hd : Nat.blt d n = true)
    (h : CC P C n S ops c Q rest (i + 1) ((d, a) :: f) false) : CC P C n S ops c Q (⟨some d, op, ty, pos, af, none⟩ :: rest) i f false := by
  have hic : i ≠ c := fun e => by subst e; simp at hc
  refine ⟨a, ⟨_, hi, hd, .inr ⟨hic, fun _ => YA.of_pu h0 hd, (fun h => by rw [b1] at h; cases h), fun _ => b0, fun h => by cases h⟩⟩, ?_⟩
  rw [efC_at hi]
  simp only [if_neg hic]
  unfold CC at h
  rw [look_put] at h
  exact h
/-- one that comes behind -/
theorem ccPu1_ (h1 : Pu P C n ⟨restr f (slotsOf op), S.bx1, S.lv1, S.gen1⟩ ⟨some d, op, ty, pos, af, none⟩ a)
    (hi : ops[i]? = some ⟨some d, op, ty, pos, af, none⟩) (hc : Nat.beq i c = false) (b0 : behindB .any ops i c = true) (b1 : behindB .any ops c i = false) (hd : Nat.blt d n = true)
    (h : CC P C n S ops c Q rest (i + 1) ((d, a) :: f) true) : CC P C n S ops c Q (⟨some d, op, ty, pos, af, none⟩ :: rest) i f true := by
  have hic : i ≠ c := fun e => by subst e; simp at hc
  refine ⟨a, ⟨_, hi, hd, .inr ⟨hic, (fun h => by rw [b0] at h; cases h), fun _ => YA.of_pu h1 hd, (fun h => by cases h), fun _ => b1⟩⟩, ?_⟩
  rw [efC_at hi]
  simp only [if_neg hic]
  unfold CC at h
  rw [look_put] at h
  exact h
/-- the operation itself, with a result -/
theorem ccX_ (hx : ∀ g, WO P C n ops (fun e st => e = .normal ∧ st = ⟨(d, a) :: (restr f (slotsOf op) ++ g), S.bx1, S.lv1, S.gen1⟩) [⟨some d, op, ty, pos, af, none⟩] ⟨restr f (slotsOf op) ++ g, S.bx0, S.lv0, S.gen0⟩)
    (hi : ops[i]? = some ⟨some d, op, ty, pos, af, none⟩) (hc : Nat.beq i c = true) (hd : Nat.blt d n = true) (h : CC P C n S ops c Q rest (i + 1) ((d, a) :: f) true) : CC P C n S ops c Q (⟨some d, op, ty, pos, af, none⟩ :: rest) i f false := by
  have hic : i = c := Nat.eq_of_beq_eq_true hc
  refine ⟨a, ⟨_, hi, hd, .inl ⟨hic, rfl, rfl, restr f (slotsOf op), fun t x hx => ?_, fun g => hx g⟩⟩, ?_⟩
  · obtain ⟨h1, h2⟩ := restr_look hx
    exact ⟨h1, List.mem_append.2 (.inl h2)⟩
  · rw [efC_at hi]
    simp only [if_pos hic]
    unfold CC at h
    rw [look_put] at h
    exact h
/-- the operation itself, without -/
theorem ccX0_ (hx : ∀ g, WO P C n ops (fun e st => e = .normal ∧ st = ⟨restr f (slotsOf op) ++ g, S.bx1, S.lv1, S.gen1⟩) [⟨none, op, ty, pos, af, none⟩] ⟨restr f (slotsOf op) ++ g, S.bx0, S.lv0, S.gen0⟩)
    (hi : ops[i]? = some ⟨none, op, ty, pos, af, none⟩) (hc : Nat.beq i c = true) (h : CC P C n S ops c Q rest (i + 1) f true) : CC P C n S ops c Q (⟨none, op, ty, pos, af, none⟩ :: rest) i f false := by
  have hic : i = c := Nat.eq_of_beq_eq_true hc
  refine ⟨.any, ⟨_, hi, rfl, .inl ⟨hic, rfl, rfl, restr f (slotsOf op), fun t x hx => ?_, fun g => hx g⟩⟩, ?_⟩
  · obtain ⟨h1, h2⟩ := restr_look hx
    exact ⟨h1, List.mem_append.2 (.inl h2)⟩
  · rw [efC_at hi]
    simp only [if_pos hic]
    exact h
variable {bx0 bx1 : List (Nat × List A)} {lv0 lv1 : List Nat} {gen0 gen1 : Nat}
theorem CC.nil (h : Q ⟨f, bx1, lv1, gen1⟩) : CC P C n ⟨bx0, bx1, lv0, lv1, gen0, gen1⟩ ops c Q [] i f true :=
  CC.nil_ (S := ⟨bx0, bx1, lv0, lv1, gen0, gen1⟩) h
theorem ccPu (h1 : Pu P C n ⟨restr f (slotsOf op), bx1, lv1, gen1⟩ ⟨some d, op, ty, pos, af, none⟩ a) (h0 : Pu P C n ⟨restr f (slotsOf op), bx0, lv0, gen0⟩ ⟨some d, op, ty, pos, af, none⟩ a)
    (hi : ops[i]? = some ⟨some d, op, ty, pos, af, none⟩) (hc : Nat.beq i c = false) (b0 : behindB .any ops i c = false) (b1 : behindB .any ops c i = false) (hd : Nat.blt d n = true)
    (h : CC P C n ⟨bx0, bx1, lv0, lv1, gen0, gen1⟩ ops c Q rest (i + 1) ((d, a) :: f) ph) : CC P C n ⟨bx0, bx1, lv0, lv1, gen0, gen1⟩ ops c Q (⟨some d, op, ty, pos, af, none⟩ :: rest) i f ph :=
  ccPu_ (S := ⟨bx0, bx1, lv0, lv1, gen0, gen1⟩) h1 h0 hi hc b0 b1 hd h
theorem ccPu0 (h0 : Pu P C n ⟨restr f (slotsOf op), bx0, lv0, gen0⟩ ⟨some d, op, ty, pos, af, none⟩ a)
    (hi : ops[i]? = some ⟨some d, op, ty, pos, af, none⟩) (hc : Nat.beq i c = false) (b0 : behindB .any ops i c = false) (b1 : behindB .any ops c i = true) (hd : Nat.blt d n = true)
    (h : CC P C n ⟨bx0, bx1, lv0, lv1, gen0, gen1⟩ ops c Q rest (i + 1) ((d, a) :: f) false) : CC P C n ⟨bx0, bx1, lv0, lv1, gen0, gen1⟩ ops c Q (⟨some d, op, ty, pos, af, none⟩ :: rest) i f false :=
  ccPu0_ (S := ⟨bx0, bx1, lv0, lv1, gen0, gen1⟩) h0 hi hc b0 b1 hd h
theorem ccPu1 (h1 : Pu P C n ⟨restr f (slotsOf op), bx1, lv1, gen1⟩ ⟨some d, op, ty, pos, af, none⟩ a)
    (hi : ops[i]? = some ⟨some d, op, ty, pos, af, none⟩) (hc : Nat.beq i c = false) (b0 : behindB .any ops i c = true) (b1 : behindB .any ops c i = false) (hd : Nat.blt d n = true)
    (h : CC P C n ⟨bx0, bx1, lv0, lv1, gen0, gen1⟩ ops c Q rest (i + 1) ((d, a) :: f) true) : CC P C n ⟨bx0, bx1, lv0, lv1, gen0, gen1⟩ ops c Q (⟨some d, op, ty, pos, af, none⟩ :: rest) i f true :=
  ccPu1_ (S := ⟨bx0, bx1, lv0, lv1, gen0, gen1⟩) h1 hi hc b0 b1 hd h
theorem ccX (hx : ∀ g, WO P C n ops (fun e st => e = .normal ∧ st = ⟨(d, a) :: (restr f (slotsOf op) ++ g), bx1, lv1, gen1⟩) [⟨some d, op, ty, pos, af, none⟩] ⟨restr f (slotsOf op) ++ g, bx0, lv0, gen0⟩)
    (hi : ops[i]? = some ⟨some d, op, ty, pos, af, none⟩) (hc : Nat.beq i c = true) (hd : Nat.blt d n = true) (h : CC P C n ⟨bx0, bx1, lv0, lv1, gen0, gen1⟩ ops c Q rest (i + 1) ((d, a) :: f) true) : CC P C n ⟨bx0, bx1, lv0, lv1, gen0, gen1⟩ ops c Q (⟨some d, op, ty, pos, af, none⟩ :: rest) i f false :=
  ccX_ (S := ⟨bx0, bx1, lv0, lv1, gen0, gen1⟩) hx hi hc hd h
theorem ccX0 (hx : ∀ g, WO P C n ops (fun e st => e = .normal ∧ st = ⟨restr f (slotsOf op) ++ g, bx1, lv1, gen1⟩) [⟨none, op, ty, pos, af, none⟩] ⟨restr f (slotsOf op) ++ g, bx0, lv0, gen0⟩)
    (hi : ops[i]? = some ⟨none, op, ty, pos, af, none⟩) (hc : Nat.beq i c = true) (h : CC P C n ⟨bx0, bx1, lv0, lv1, gen0, gen1⟩ ops c Q rest (i + 1) f true) : CC P C n ⟨bx0, bx1, lv0, lv1, gen0, gen1⟩ ops c Q (⟨none, op, ty, pos, af, none⟩ :: rest) i f false :=
  ccX0_ (S := ⟨bx0, bx1, lv0, lv1, gen0, gen1⟩) hx hi hc h
end
end Go.Ab
/- A slot's nil slices read as empty ones, at the top alone. -/
namespace Go.Ab
open Go.RowKit
def nilT : D → D
  | .v x => bif isNil (.d (.v x)) then .sl [] else .v x
  | .sl es => .sl es
theorem RepD.nilT {w : World} {pv : Nat → Nat → Prop} {v : Value} {d : D} (h : RepD w pv v d) : RepD w pv v (Ab.nilT d) := by
  cases d with
  | v x => exact h.nilD
  | sl es => exact h
def nilB : A → A
  | .d x => .d (nilT x)
  | .ag l => .ag (l.map nilT)
  | a => a
theorem Rep.nilB {E : En} {v : Value} {a : A} (h : Rep E v a) : Rep E v (Ab.nilB a) := by
  cases a with
  | d x => cases h with | d hd => exact .d hd.nilT
  | ag l =>
    cases h with
    | ag vs _ hs hd =>
      refine .ag vs _ (by simpa using hs) (fun i u x hu hx => ?_)
      rw [List.getElem?_map, Option.map_eq_some_iff] at hx
      obtain ⟨y, hy, rfl⟩ := hx
      exact (hd i u y hu hy).nilT
  | _ => exact h
section
variable {P : Program} {C : Ctx} {n : Nat} {ops : Array Oper} {Q : Exit → St → Prop} {f : List (Nat × A)} {bx : List (Nat × List A)} {lv : List Nat} {gen : Nat}
theorem nilS (s : Nat) {a a' : A} {l : List Oper} (hl : look f s = some a) (hsn : Nat.blt s n = true) (ha : Ab.nilB a = a') (h : WO P C n ops Q l ⟨(s, a') :: f, bx, lv, gen⟩) : WO P C n ops Q l ⟨f, bx, lv, gen⟩ := by
  subst ha
  intro tmps w ⟨G, hs⟩
  obtain ⟨v, hv, hr⟩ := hs.frame s _ hl
  refine h tmps w ⟨G, ?_⟩
  have := hs.set (d := s) (Nat.le_of_ble_eq_true hsn) hr.nilB
  rwa [set_same hv] at this
end
end Go.Ab
/- The examples that parse's laws ask for: what the readers make of three texts. -/
namespace Go.Tb
open Go.Ab
abbrev tx1 : ByteArray := B #[102, 114, 111, 109, 32, 115, 108, 105, 99, 101, 115, 32, 124, 32, 119, 104, 101, 114, 101, 32, 102, 114, 111, 109, 32, 60, 32, 53]
abbrev tx2 : ByteArray := B #[40, 45, 53, 41]
abbrev tx3 : ByteArray := B #[49, 32, 60]
abbrev exL : Ex := .mk 12 E0 Tb.v0 [.mk 2 (B #[102, 114, 111, 109]) Tb.v0 [], .mk 1 E0 ⟨2, 5, E0⟩ []]
abbrev ex5 : Ex := .mk 1 E0 ⟨2, -5, E0⟩ []
abbrev q1 : Qry := ⟨B #[115, 108, 105, 99, 101, 115], [{ stp0 1 with cond := exL }]⟩
theorem tx1_q : queryF true tx1 = (q1, 0, 0) := by kernel_rfl
theorem tx2_q : exprF true tx2 = (ex5, 0, 0) := by kernel_rfl
theorem tx3_q : (exprF true tx3).2 = (3, 15) := by kernel_rfl
theorem tx3_q1 : (exprF true tx3).2.1 = 3 := by rw [tx3_q]
theorem tx3_q2 : (exprF true tx3).2.2 = 15 := by rw [tx3_q]
end Go.Tb
/- A text with a limit step behind it. -/
namespace Go.Tb
open Go.Ab
theorem Wf.core {L : List Tk} (hw : Wf L) : Wf (L.map Tk.core) where
  ne := fun e => hw.ne (by simpa using e)
  last i t h := by
    rw [List.getElem?_map, Option.map_eq_some_iff] at h
    obtain ⟨t0, h1, rfl⟩ := h
    rw [List.length_map]
    exact hw.last i t0 h1
  ok t h := by
    obtain ⟨t0, h1, rfl⟩ := List.mem_map.1 h
    exact hw.ok t0 h1
theorem queryF_of {s : ByteArray} (h1 : s.size ≤ 2000) (h2 : badB (toks s 0) (queryT true (toks s 0) (0, false)).2 = false) (h3 : queryErr (queryT true (toks s 0) (0, false)).1 = 0) : queryF true s = ((queryT true (toks s 0) (0, false)).1, 0, 0) := by
  unfold queryF checkP
  have e : readP qry0 (queryT true) s = ((queryT true (toks s 0) (0, false)).1, 0, 0) := by unfold readP; rw [if_neg (by omega), if_neg (by simp [h2])]
  rw [e]
  simp [h3]
end Go.Tb
/- A text with other white space. -/
namespace Go.Tb
open Go.Ab
theorem valErr_ne (k : Int) (v : Val) : valErr k v ≠ 15 := by
  unfold valErr
  repeat' split
  all_goals first | decide | omega
theorem constErr_ne (v : Val) : constErr v ≠ 15 := by
  unfold constErr
  by_cases h : valErr v.kind v = 0
  · rw [if_neg (by simp [h])]
    split <;> decide
  · rw [if_pos h]
    exact valErr_ne _ _
theorem addErr_ne (ks : List ByteArray) (s : ByteArray) : addErr ks s ≠ 15 := by
  unfold addErr
  repeat' split
  all_goals first | decide | omega
theorem allErr_ne : ∀ ks l, allErr ks l ≠ 15
  | _, [] => by simp [allErr]
  | ks, s :: r => by
    simp only [allErr]
    split
    · exact addErr_ne ks s
    · exact allErr_ne _ r
theorem sizeErr_ne (n least : Int) : sizeErr n least ≠ 15 := by
  unfold sizeErr
  split
  · decide
  · split <;> decide
theorem columnsErr_ne (l : List ByteArray) (k : Int) : columnsErr l k ≠ 15 := by
  unfold columnsErr
  split
  · exact sizeErr_ne _ _
  · exact allErr_ne _ _
theorem nodeErr_ne (e : Ex) : nodeErr e ≠ 15 := by
  unfold nodeErr
  split
  · decide
  · split
    · decide
    · split
      · exact constErr_ne _
      · split
        · split <;> decide
        · split
          · split
            · decide
            · split
              · decide
              · split <;> decide
          · decide
mutual
theorem nodesErr_ne : ∀ e, nodesErr e ≠ 15
  | .mk op name v kids => by
    simp only [nodesErr]
    split
    · exact nodeErr_ne _
    · exact nodesErrL_ne kids
theorem nodesErrL_ne : ∀ l, nodesErrL l ≠ 15
  | [] => by simp [nodesErrL]
  | k :: r => by
    simp only [nodesErrL]
    split
    · exact nodesErr_ne k
    · exact nodesErrL_ne r
end
theorem exprErr_ne (e : Ex) : exprErr e ≠ 15 := by
  unfold exprErr
  split
  · decide
  · split
    · decide
    · exact nodesErr_ne e
theorem selErr_ne : ∀ ks l, selErr ks l ≠ 15
  | _, [] => by simp [selErr]
  | ks, x :: r => by
    simp only [selErr]
    split
    · exact exprErr_ne _
    · split
      · exact addErr_ne _ _
      · exact selErr_ne _ r
theorem aggErr_ne : ∀ ks l, aggErr ks l ≠ 15
  | _, [] => by simp [aggErr]
  | ks, x :: r => by
    simp only [aggErr]
    split
    · decide
    · split
      · decide
      · split
        · exact addErr_ne _ _
        · exact aggErr_ne _ r
theorem groupErr_ne (s : Stp) : groupErr s ≠ 15 := by
  unfold groupErr
  split
  · decide
  · split
    · decide
    · split
      · exact allErr_ne _ _
      · exact aggErr_ne _ _
theorem stepErr_ne (s : Stp) : stepErr s ≠ 15 := by
  unfold stepErr
  by_cases h0 : usesB s = false
  · rw [if_pos h0]; decide
  rw [if_neg h0]
  by_cases h1 : s.op = 1
  · rw [if_pos h1]; exact exprErr_ne _
  rw [if_neg h1]
  by_cases h2 : s.op = 2
  · rw [if_pos h2]
    split
    · exact sizeErr_ne _ _
    · exact selErr_ne _ _
  rw [if_neg h2]
  by_cases h3 : s.op = 3
  · rw [if_pos h3]; exact groupErr_ne s
  rw [if_neg h3]
  by_cases h4 : s.op = 4
  · rw [if_pos h4]; exact columnsErr_ne _ _
  rw [if_neg h4]
  by_cases h5 : s.op = 5
  · rw [if_pos h5]; split <;> decide
  rw [if_neg h5]
  by_cases h6 : s.op = 9
  · rw [if_pos h6]; exact columnsErr_ne _ _
  rw [if_neg h6]
  by_cases h7 : identB s.table = false
  · rw [if_pos h7]; decide
  rw [if_neg h7]
  exact columnsErr_ne _ _
theorem stepsErr_ne : ∀ l, stepsErr l ≠ 15
  | [] => by simp [stepsErr]
  | s :: r => by
    simp only [stepsErr]
    split
    · exact stepErr_ne s
    · exact stepsErr_ne r
theorem queryErr_ne (q : Qry) : queryErr q ≠ 15 := by
  unfold queryErr
  split
  · decide
  · split
    · decide
    · exact stepsErr_ne _
/-- the three ways in which a query is read -/
theorem queryF_or {s : ByteArray} (h : s.size ≤ 2000) :
    (badB (toks s 0) (queryT true (toks s 0) (0, false)).2 = true ∧ queryF true s = (qry0, ((tk0 (toks s 0) (queryT true (toks s 0) (0, false)).2).at_ : Int), 15)) ∨
    (badB (toks s 0) (queryT true (toks s 0) (0, false)).2 = false ∧ queryErr (queryT true (toks s 0) (0, false)).1 ≠ 0 ∧ queryF true s = (qry0, 0, queryErr (queryT true (toks s 0) (0, false)).1)) ∨
    (badB (toks s 0) (queryT true (toks s 0) (0, false)).2 = false ∧ queryErr (queryT true (toks s 0) (0, false)).1 = 0 ∧ queryF true s = ((queryT true (toks s 0) (0, false)).1, 0, 0)) := by
  by_cases h2 : badB (toks s 0) (queryT true (toks s 0) (0, false)).2 = true
  · refine .inl ⟨h2, ?_⟩
    unfold queryF checkP
    rw [show readP qry0 (queryT true) s = (qry0, ((tk0 (toks s 0) (queryT true (toks s 0) (0, false)).2).at_ : Int), 15) by unfold readP; rw [if_neg (by omega), if_pos h2]]
    rfl
  · have e : readP qry0 (queryT true) s = ((queryT true (toks s 0) (0, false)).1, 0, 0) := by unfold readP; rw [if_neg (by omega), if_neg h2]
    have h2' : badB (toks s 0) (queryT true (toks s 0) (0, false)).2 = false := by simpa using h2
    by_cases h3 : queryErr (queryT true (toks s 0) (0, false)).1 = 0
    · exact .inr (.inr ⟨h2', h3, queryF_of h h2' h3⟩)
    · refine .inr (.inl ⟨h2', h3, ?_⟩)
      unfold queryF checkP
      rw [e]
      simp [h3]
abbrev wideS (s : ByteArray) : ByteArray := B #[10] ++ ofL (wideL (bys s)) ++ B #[32, 32]
theorem wide_len4 : ∀ l : List UInt8, (wideL l).length ≤ 4 * l.length
  | [] => by simp [wideL]
  | b :: l => by
    have := wide_len4 l
    rw [wide_cons, List.length_append, List.length_cons]
    split <;> simp <;> omega
theorem bys_wideS (s : ByteArray) : bys (wideS s) = 10 :: (wideL (bys s) ++ [32, 32]) := by
  unfold wideS
  rw [bys_append, bys_append, bys_ofL]
  rfl
theorem parse_spaces {s : ByteArray} (hs : s.size ≤ 300) (hq : ∀ b ∈ bys s, b ≠ 34) :
    (queryF true (wideS s)).1 = (queryF true s).1 ∧ (queryF true (wideS s)).2.2 = (queryF true s).2.2 ∧
    ((queryF true s).2.2 = 0 → (queryF true s).2.1 = 0 ∧ (queryF true (wideS s)).2.1 = 0 ∧ queryErr (queryF true s).1 = 0) ∧
    ((queryF true s).2.2 ≠ 0 → (queryF true s).1 = qry0 ∧ ((queryF true s).2.2 = 15 → 0 ≤ (queryF true s).2.1 ∧ (queryF true s).2.1 ≤ s.size ∧ (queryF true s).2.1 < (queryF true (wideS s)).2.1)) := by
  have hsz : (wideS s).size = (wideL (bys s)).length + 3 := by
    have := bys_len' (wideS s)
    rw [bys_wideS, List.length_cons, List.length_append, List.length_cons, List.length_cons, List.length_nil] at this
    omega
  have h4 := wide_len4 (bys s)
  rw [bys_len'] at h4
  have l1 := toks_lex s 0 (Nat.zero_le _)
  have l2 := toks_lex (wideS s) 0 (Nat.zero_le _)
  rw [List.drop_zero] at l1 l2
  rw [bys_wideS, lex_white (by decide)] at l2
  have W := (lex_wide (bys s) hq).get
  have hc : (toks (wideS s) 0).map Tk.core = (toks s 0).map Tk.core := by rw [l2.1, l1.1, W.1]
  have hT := core_queryT hc true
  have hB : badB (toks (wideS s) 0) (queryT true (toks (wideS s) 0) (0, false)).2 = badB (toks s 0) (queryT true (toks s 0) (0, false)).2 := by
    rw [hT]
    unfold badB
    rw [core_kind hc]
  have o1 := queryF_or (s := s) (by omega)
  have o2 := queryF_or (s := wideS s) (by omega)
  rw [hB, hT] at o2
  have hw := toks_wf s 0
  have h0 : 0 < (toks s 0).length := List.length_pos_iff.2 hw.ne
  have hlt : (queryT true (toks s 0) (0, false)).2.1 < (toks s 0).length := (queryP_goes hw (orP_goes hw true (toks s 0).length) true).lt (0, false) h0
  rcases o1 with ⟨a1, a2⟩ | ⟨a1, a2, a3⟩ | ⟨a1, a2, a3⟩
  · rcases o2 with ⟨_, b2⟩ | ⟨b1, _⟩ | ⟨b1, _⟩
    · rw [a2, b2]
      refine ⟨rfl, rfl, fun h => (by simp at h), fun _ => ⟨rfl, fun _ => ?_⟩⟩
      simp only
      generalize (queryT true (toks s 0) (0, false)).2 = st at hlt
      have e1 : (toks s 0)[st.1]? = some (tk0 (toks s 0) st) := by rw [at_get (t := (toks s 0)[st.1]'hlt) (by simp)]; simp
      have hlt2 : st.1 < (toks (wideS s) 0).length := by rw [core_len hc]; exact hlt
      have e2 : (toks (wideS s) 0)[st.1]? = some (tk0 (toks (wideS s) 0) st) := by rw [at_get (t := (toks (wideS s) 0)[st.1]'hlt2) (by simp)]; simp
      have f1 := congrArg (fun l => l[st.1]?) l1.2
      have f2 := congrArg (fun l => l[st.1]?) l2.2
      simp only [List.getElem?_map, e1, e2, Option.map_some] at f1 f2
      cases q1 : (lex (bys s))[st.1]? with
      | none => rw [q1] at f1; cases f1
      | some t =>
        obtain ⟨t', q2, _, u, hu, hul, hle⟩ := W.2 st.1 t q1
        rw [q1] at f1
        rw [q2] at f2
        simp only [Option.map_some, Option.some.injEq] at f1 f2
        obtain ⟨p, hp⟩ := hu
        have g1 : (bys s).length = p.length + u.length := by rw [← hp]; simp
        have g2 : (wideL (bys s)).length = (wideL p).length + (wideL u).length := by rw [← hp, wide_app]; simp
        have g3 := wide_len p
        rw [bys_len'] at g1
        rw [f1, f2]
        omega
    · rw [a1] at b1; cases b1
    · rw [a1] at b1; cases b1
  · rcases o2 with ⟨b1, _⟩ | ⟨_, _, b3⟩ | ⟨_, b2, _⟩
    · rw [a1] at b1; cases b1
    · rw [a3, b3]
      exact ⟨rfl, rfl, fun h => absurd h a2, fun _ => ⟨rfl, fun h => absurd h (queryErr_ne _)⟩⟩
    · exact absurd b2 a2
  · rcases o2 with ⟨b1, _⟩ | ⟨_, b2, _⟩ | ⟨_, _, b3⟩
    · rw [a1] at b1; cases b1
    · exact absurd a2 b2
    · rw [a3, b3]
      exact ⟨rfl, rfl, fun _ => ⟨rfl, rfl, a2⟩, fun h => absurd rfl h⟩
end Go.Tb
