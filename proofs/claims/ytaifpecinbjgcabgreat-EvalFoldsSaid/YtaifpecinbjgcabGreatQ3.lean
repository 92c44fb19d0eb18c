import Derived.Test.YtaifpecinbjgcabGreatQ2
/- Facts for the walks of the aggregates. -/
namespace Go.Tb
open Go.Ab

def hiS (l : List Val) (k : Nat) : Int := ((l.take k).map fun v => hiP v.n).sum
def loS (l : List Val) (k : Nat) : Int := ((l.take k).map fun v => loP v.n).sum
theorem hiS_succ {l : List Val} {k : Nat} {v : Val} (h : l[k]? = some v) : hiS l (k + 1) = hiS l k + hiP v.n := by
  simp only [hiS, take_map_succ h, List.sum_append, List.sum_cons, List.sum_nil]; omega
theorem loS_succ {l : List Val} {k : Nat} {v : Val} (h : l[k]? = some v) : loS l (k + 1) = loS l k + loP v.n := by
  simp only [loS, take_map_succ h, List.sum_append, List.sum_cons, List.sum_nil]; omega
def okN (v : Val) : Prop := -9223372036854775808 ≤ v.n ∧ v.n ≤ 9223372036854775807
theorem hiS_bound : ∀ (l : List Val), (∀ v ∈ l, okN v) → -(2147483648 * (l.length : Int)) ≤ (l.map fun v => hiP v.n).sum ∧ (l.map fun v => hiP v.n).sum ≤ 2147483648 * (l.length : Int)
  | [], _ => by simp
  | v :: r, h => by
    have h1 := hiS_bound r (fun x hx => h x (by simp [hx]))
    have h2 := hiP_bound (h v (by simp))
    simp only [List.map_cons, List.sum_cons, List.length_cons]
    omega
theorem loS_bound : ∀ (l : List Val), 0 ≤ (l.map fun v => loP v.n).sum ∧ (l.map fun v => loP v.n).sum ≤ 4294967295 * (l.length : Int)
  | [] => by simp
  | v :: r => by
    have h1 := loS_bound r
    have h2 := loP_bound v.n
    simp only [List.map_cons, List.sum_cons, List.length_cons]
    omega
theorem hiS_le {l : List Val} {k : Nat} (hl : l.length ≤ 1000000) (h : ∀ v ∈ l.take k, okN v) : -2147483648000000 ≤ hiS l k ∧ hiS l k ≤ 2147483648000000 := by
  have h1 := hiS_bound (l.take k) h
  have h2 : (l.take k).length ≤ 1000000 := by rw [List.length_take]; omega
  simp only [hiS]
  omega
theorem loS_le {l : List Val} {k : Nat} (hl : l.length ≤ 1000000) : 0 ≤ loS l k ∧ loS l k ≤ 4294967295000000 := by
  have h1 := loS_bound (l.take k)
  have h2 : (l.take k).length ≤ 1000000 := by rw [List.length_take]; omega
  simp only [loS]
  omega
theorem intsV_all : ∀ (l : List Val), (∀ v ∈ l, v.kind = 2) → intsV l = some (l.map Val.n)
  | [], _ => rfl
  | v :: r, h => by
    have h1 := h v (by simp)
    simp only [intsV, h1]
    rw [if_neg (by decide), if_pos trivial, intsV_all r (fun x hx => h x (by simp [hx]))]
    rfl
theorem intsV_none : ∀ (l : List Val) (v : Val), v ∈ l → v.kind ≠ 0 → v.kind ≠ 2 → intsV l = none
  | [], v, h, _, _ => by simp at h
  | a :: r, v, h, h0, h2 => by
    simp only [intsV]
    rcases List.mem_cons.1 h with rfl | h
    · rw [if_neg h0, if_neg h2]
    · rw [intsV_none r v h h0 h2]; simp
theorem okc_hi {n : Int} (h : -9223372036854775808 ≤ n ∧ n ≤ 9223372036854775807) : okc (.int .i64 (hiP n)) = true := okc_i (by have := hiP_bound h; omega)
theorem mem_take_succ {α : Type} {l : List α} {k : Nat} {x : α} {p : α → Prop} (hx : l[k]? = some x) (h : ∀ v ∈ l.take k, p v) (hp : p x) : ∀ v ∈ l.take (k + 1), p v := by
  intro v hv
  rw [List.take_add_one, hx] at hv
  simp only [Option.toList_some, List.mem_append, List.mem_singleton] at hv
  rcases hv with hv | rfl
  · exact h v hv
  · exact hp
theorem sum_end {l : List Val} {k : Nat} (hk : k = l.length) (h2 : ∀ v ∈ l.take k, v.kind = 2) (hnn : ∀ v ∈ l, v.kind ≠ 0) :
    (if 1048576 < hiS l k + loS l k / 4294967296 ∨ hiS l k + loS l k / 4294967296 < -1048576 then nullV else
      okV (if inR ((hiS l k + loS l k / 4294967296) * 4294967296 + loS l k % 4294967296) = true then ((hiS l k + loS l k / 4294967296) * 4294967296 + loS l k % 4294967296, true) else (0, false))) = sumV l := by
  have ht := total_parts (H := hiS l k) (loS_bound (l.take k)).1
  simp only at ht
  rw [show (List.map (fun v => loP v.n) (l.take k)).sum = loS l k from rfl] at ht
  rw [ht]
  subst hk
  rw [List.take_length] at h2
  have hs := sum_parts (l.map Val.n)
  simp only [List.map_map] at hs
  simp only [sumV, intsV_all l h2, hiS, loS, List.take_length]
  rw [← hs]
  rfl

theorem sum_end2 {l : List Val} {k : Nat} (hk : k = l.length) (h2 : ∀ v ∈ l.take k, v.kind = 2) (hnn : ∀ v ∈ l, v.kind ≠ 0) :
    (if 1048576 < hiS l k + hiP (loS l k) ∨ hiS l k + hiP (loS l k) < -1048576 then nullV else
      okV ((hiS l k + hiP (loS l k)) * 4294967296 + loP (loS l k), inR ((hiS l k + hiP (loS l k)) * 4294967296 + loP (loS l k)))) = sumV l := by
  rw [← sum_end hk h2 hnn]
  have e : ∀ n : Int, okV (n, inR n) = okV (if inR n = true then (n, true) else (0, false)) := by
    intro n
    by_cases h : inR n = true
    · rw [if_pos h, h]
    · rw [if_neg h]; simp only [Bool.not_eq_true] at h; rw [h]; rfl
  simp only [hiP, loP, e]

theorem bestV_snoc (better : Val → Val → Bool) (v : Val) : ∀ (l : List Val) (b : Option Val), bestV better (l ++ [v]) b = some (match bestV better l b with | none => v | some m => if better v m then v else m)
  | [], none => rfl
  | [], some m => rfl
  | a :: r, none => by simp only [List.cons_append, bestV]; exact bestV_snoc better v r (some a)
  | a :: r, some m => by simp only [List.cons_append, bestV]; exact bestV_snoc better v r _
theorem someV_succ {l : List Val} {k : Nat} {v : Val} (h : l[k]? = some v) : someV (l.take (k + 1)) = if v.kind = 0 then someV (l.take k) else someV (l.take k) ++ [v] := by
  rw [List.take_add_one, h]
  simp only [someV, Option.toList_some, List.filter_append, List.filter_cons, List.filter_nil]
  by_cases hk : v.kind = 0 <;> simp [hk]
theorem someV_len (l : List Val) : (someV l).length ≤ l.length := List.length_filter_le _ _
theorem someV_nn {l : List Val} : ∀ v ∈ someV l, v.kind ≠ 0 := by
  intro v hv
  simp only [someV, List.mem_filter] at hv
  simpa using hv.2
theorem sumV_some (l : List Val) : sumV (someV l) = sumV l := by simp only [sumV, intsV_some]
/-- the reference's place of the best value so far -/
def bestAt (l : List Val) (b : Option Nat) : Option Val := b.bind fun i => l[i]?
theorem idx_some {b : Option Nat} (h : ¬ idx b < 0) : ∃ i, b = some i := by
  cases b with
  | none => exact absurd (by decide : idx none < 0) h
  | some i => exact ⟨i, rfl⟩
theorem intsV_snoc (v : Val) : ∀ (l : List Val), intsV (l ++ [v]) = if v.kind = 0 then intsV l else if v.kind = 2 then (intsV l).map (· ++ [v.n]) else none
  | [] => by
    simp only [List.nil_append, intsV]
    split
    · rfl
    · split <;> rfl
  | a :: r => by
    simp only [List.cons_append, intsV, intsV_snoc v r]
    by_cases h0 : a.kind = 0
    · simp only [if_pos h0]
    · by_cases h2 : a.kind = 2
      · simp only [if_neg h0, if_pos h2]
        split
        · rfl
        · split
          · cases intsV r <;> rfl
          · rfl
      · simp only [if_neg h0, if_neg h2]
        split
        · rfl
        · split <;> rfl
theorem intsV_step {l : List Val} {k : Nat} {v : Val} (h : l[k]? = some v) : intsV (l.take (k + 1)) = if v.kind = 0 then intsV (l.take k) else if v.kind = 2 then (intsV (l.take k)).map (· ++ [v.n]) else none := by
  rw [List.take_add_one, h]; exact intsV_snoc v _
theorem scaled1_n {n : Int} (h : -9223372036854775808 ≤ n ∧ n ≤ 9223372036854775807) : (scaledS n 1).n ≤ 9223372036854775808 := by
  simp only [scaledS]
  have : (1 : Int).natAbs = 1 := rfl
  rw [this, Nat.mul_one]
  omega
/-- the state of the reference's sum -/
structure SumAt (l : List Val) (k : Nat) (t : Sgd) : Prop where
  eq : ∃ ns, intsV (l.take k) = some ns ∧ t.val = ns.sum
  le : t.n ≤ 9223372036854775808 * k
theorem SumAt.skip {l : List Val} {k : Nat} {t : Sgd} {v : Val} (h : SumAt l k t) (hx : l[k]? = some v) (h0 : v.kind = 0) : SumAt l (k + 1) t := by
  have h1 := h.eq
  have h2 := h.le
  constructor
  · rw [intsV_step hx, if_pos h0]; exact h1
  · omega
theorem SumAt.add {l : List Val} {k : Nat} {t : Sgd} {v : Val} (h : SumAt l k t) (hx : l[k]? = some v) (h2 : v.kind = 2) (hv : -9223372036854775808 ≤ v.n ∧ v.n ≤ 9223372036854775807) : SumAt l (k + 1) (sumS t (scaledS v.n 1)) := by
  obtain ⟨⟨ns, h3, h4⟩, h5⟩ := h
  refine SumAt.mk ⟨ns ++ [v.n], ?_, ?_⟩ ?_
  · rw [intsV_step hx, if_neg (show ¬ v.kind = 0 by rw [h2]; decide), if_pos h2, h3]; rfl
  · rw [sumS_val, scaledS_val (by decide), h4]; simp
  · have := sumS_n t (scaledS v.n 1)
    have := scaled1_n hv
    omega
theorem intsV_bad {v : Val} (h0 : v.kind ≠ 0) (h2 : v.kind ≠ 2) : ∀ (l : List Val), v ∈ l → intsV l = none := fun l h => intsV_none l v h h0 h2
theorem getAt {l : List Val} {b : Option Nat} (h : ¬ idx b < 0) (hb : ∀ i, b = some i → i < l.length) : l[(idx b).toNat]? = some (l.getD (idx b).toNat nullV) := by
  obtain ⟨i, rfl⟩ := idx_some h
  have := hb i rfl
  simp [idx, List.getD_eq_getElem?_getD, this]
def better (fn : ByteArray) (v m : Val) : Bool := (decide (fn = wMin) && decide (ordV v m < 0)) || (decide (fn = wMax) && decide (0 < ordV v m))
theorem better_min : better wMin = lessV := by funext v m; simp [better, lessV, show ¬ wMin = wMax by decide]
theorem better_max : better wMax = moreV := by funext v m; simp [better, moreV, show ¬ wMax = wMin by decide]
structure BestAt (fn : ByteArray) (l : List Val) (k : Nat) (b : Option Nat) : Prop where
  lt : ∀ i, b = some i → i < l.length
  eq : bestV (better fn) (someV (l.take k)) none = b.bind (l[·]?)
theorem BestAt.skip {fn : ByteArray} {l : List Val} {k : Nat} {b : Option Nat} {v : Val} (h : BestAt fn l k b) (hx : l[k]? = some v) (h0 : v.kind = 0) : BestAt fn l (k + 1) b :=
  ⟨h.lt, by rw [someV_succ hx, if_pos h0]; exact h.eq⟩
theorem BestAt.take {fn : ByteArray} {l : List Val} {k : Nat} {b : Option Nat} {v : Val} (h : BestAt fn l k b) (hx : l[k]? = some v) (h0 : v.kind ≠ 0) (hb : idx b < 0 ∨ better fn v (l.getD (idx b).toNat nullV) = true) : BestAt fn l (k + 1) (some k) := by
  have hlt := (List.getElem?_eq_some_iff.1 hx).1
  refine ⟨fun i hi => by cases hi; exact hlt, ?_⟩
  rw [someV_succ hx, if_neg h0, bestV_snoc, h.eq]
  cases b with
  | none => simp [hx]
  | some i =>
    have := h.lt i rfl
    have hb : better fn v (l.getD i nullV) = true := hb.resolve_left (by simp [idx])
    have e : l[i]? = some (l.getD i nullV) := by simp [List.getD_eq_getElem?_getD, this]
    simp only [Option.bind_some, e, hb, if_true, hx]
theorem BestAt.keep {fn : ByteArray} {l : List Val} {k : Nat} {b : Option Nat} {v : Val} (h : BestAt fn l k b) (hx : l[k]? = some v) (h0 : v.kind ≠ 0) (hn : ¬ idx b < 0) (hb : better fn v (l.getD (idx b).toNat nullV) = false) : BestAt fn l (k + 1) b := by
  refine ⟨h.lt, ?_⟩
  rw [someV_succ hx, if_neg h0, bestV_snoc, h.eq]
  obtain ⟨i, rfl⟩ := idx_some hn
  have := h.lt i rfl
  have hb : better fn v (l.getD i nullV) = false := hb
  have e : l[i]? = some (l.getD i nullV) := by simp [List.getD_eq_getElem?_getD, this]
  simp only [Option.bind_some, e, hb, Bool.false_eq_true, if_false]
theorem aggV_best {fn : ByteArray} {l : List Val} (h : fn = wMin ∨ fn = wMax) : aggV fn l = (bestV (better fn) (someV l) none).getD nullV := by
  rcases h with rfl | rfl
  · rw [better_min]; simp [aggV, show ¬ wMin = wCount by decide, show ¬ wMin = wSum by decide, show ¬ wMin = wFirst by decide]
  · rw [better_max]; simp [aggV, show ¬ wMax = wCount by decide, show ¬ wMax = wSum by decide, show ¬ wMax = wFirst by decide, show ¬ wMax = wMin by decide]
theorem aggV_other {fn : ByteArray} {l : List Val} (h1 : fn ≠ wCount) (h2 : fn ≠ wSum) (h3 : ¬ (fn = wFirst ∧ l ≠ [])) (h4 : fn ≠ wMin) (h5 : fn ≠ wMax) : aggV fn l = nullV := by
  simp only [aggV, if_neg h1, if_neg h2, if_neg h3, if_neg h4, if_neg h5]
end Go.Tb
/- What cells hold is in its kind's range. -/
namespace Go.Ab
section
variable {P : Program} {C : Ctx} {n : Nat} {Q : Exit → St → Prop} {c : Code} {f : List (Nat × A)} {bx : List (Nat × List A)} {lv : List Nat} {gen : Nat}

theorem RepD.elem {w : World} {pv : Nat → Nat → Prop} {v : Value} {es : List (List D)} (h : RepD w pv v (.sl es)) {k j : Nat} {e : List D} {x : Value} (he : es[k]? = some e) (hx : e[j]? = some (.v x)) : okc x = true := by
  cases h with
  | nil => simp at he
  | emp => simp at he
  | sl b off len cap sz es u hl hc hm hs hu hr =>
    have := hr k j e _ he hx
    generalize u k j = y at this
    cases this with | v _ ho => exact ho

/-- an element of a slice in a slot -/
theorem W.elem (t : Nat) {a : A} {es : List (List D)} {k j : Nat} {e : List D} {x : Value} (hl : look f t = some a) (hes : slOf a = some es) (he : es[k]? = some e) (hx : e[j]? = some (.v x)) (h : okc x = true → W P C n c Q ⟨f, bx, lv, gen⟩) : W P C n c Q ⟨f, bx, lv, gen⟩ := by
  intro tmps w ⟨G, hs⟩
  obtain ⟨v, hv, hr⟩ := hs.frame t a hl
  exact h ((slOf_rep hes hr).elem he hx) tmps w ⟨G, hs⟩

/-- all elements of a slice in a slot -/
theorem W.elems {α : Type} {fn : α → List D} {p : α → Value} (t j : Nat) {a : A} {l : List α} (hl : look f t = some a) (hes : slOf a = some (l.map fn)) (hx : ∀ a, (fn a)[j]? = some (.v (p a))) (h : (∀ a ∈ l, okc (p a) = true) → W P C n c Q ⟨f, bx, lv, gen⟩) : W P C n c Q ⟨f, bx, lv, gen⟩ := by
  intro tmps w ⟨G, hs⟩
  obtain ⟨v, hv, hr⟩ := hs.frame t a hl
  refine h (fun a ha => ?_) tmps w ⟨G, hs⟩
  obtain ⟨i, hi⟩ := List.mem_iff_getElem?.1 ha
  exact (slOf_rep hes hr).elem (idx_map hi) (hx a)
/-- a nil slice in a box, read as an empty one -/
theorem nilBox (g j : Nat) {cells cells' : List A} (hb : look' bx g = some cells) (hj : cells[j]? = some (.d (.v (.slice none 0 0)))) (hc : cells.set j (.d (.sl [])) = cells') (h : W P C n c Q ⟨f, (g, cells') :: bx, lv, gen⟩) : W P C n c Q ⟨f, bx, lv, gen⟩ := by
  subst hc
  intro tmps w ⟨G, hs⟩
  refine h tmps w ⟨G, SimG.reBox hs hb (by simp) (fun i u a a' ha ha' hr => ?_)⟩
  rw [List.getElem?_set] at ha'
  split at ha'
  · rename_i e
    subst e
    rw [hj] at ha
    simp only [Option.some.injEq] at ha
    subst ha
    split at ha'
    · simp only [Option.some.injEq] at ha'
      subst ha'
      cases hr with | d hr => cases hr with | v _ _ => exact .d .nil
    · cases ha'
  · rw [ha] at ha'
    simp only [Option.some.injEq] at ha'
    subst ha'
    exact hr
end
/-- a nil slice for an empty one, at an argument's place -/
theorem Does.nilAt {P : Program} {f : FuncId} {xs ys : List A} {r : A} {k : Nat} (h : Does P f (xs ++ .d (.sl []) :: ys) r k) : Does P f (xs ++ .d (.v (.slice none 0 0)) :: ys) r k :=
  ⟨h.ok, fun C vals w hG hw hp hx hsz hrep => h.calls C vals w hG hw hp hx (by simpa using hsz) (fun i u a hu ha => by
    by_cases e : i = xs.length
    · subst e
      have h1 := hrep xs.length u (.d (.v (.slice none 0 0))) hu (by simp)
      simp at ha
      subst ha
      cases h1 with | d hd => cases hd with | v _ _ => exact .d .nil
    · refine hrep i u a hu ?_
      rw [List.getElem?_append] at ha ⊢
      split
      · rename_i hlt; rw [if_pos hlt] at ha; exact ha
      · rename_i hge
        rw [if_neg hge] at ha
        obtain ⟨j, hj⟩ : ∃ j, i - xs.length = j + 1 := ⟨i - xs.length - 1, by omega⟩
        rw [hj] at ha ⊢
        simpa using ha)⟩
end Go.Ab
namespace Go.Tb
open Go.Ab
theorem agg_cond (x m a q c : Bool) : (bif x then true else bif m then bif a then true else bif q then c else false else bif q then c else false) = (x || ((m && a) || (q && c))) := by
  cases x <;> cases m <;> cases a <;> cases q <;> cases c <;> rfl
end Go.Tb
/- Folded expressions; expressions compared; how large the inputs are that the laws look at. -/
namespace Go.Tb
open Go.Ab

def isC (e : Ex) : Bool := decide (e.op = 1)
def outE (e : Ex) (ks : List Ex) : Ex := .mk e.op e.name nullV ks
/-- a node with folded operands -/
def foldN (e : Ex) (ks : List Ex) : Ex :=
  if ks.all isC = false then outE e ks else if (exprT [] (outE e ks)).2 ≠ 0 then outE e ks else .mk 1 (B #[]) (evalV [] [] (outE e ks)) []
mutual
def foldE : Ex → Ex
  | .mk op name v kids => if kids.length = 0 then .mk op name v kids else foldN (.mk op name v kids) (foldL kids)
def foldL : List Ex → List Ex
  | [] => []
  | k :: r => foldE k :: foldL r
end
theorem foldL_eq : ∀ l, foldL l = l.map foldE
  | [] => rfl
  | e :: r => by simp [foldL, foldL_eq r]
theorem foldE_eq (e : Ex) : foldE e = if e.kids.length = 0 then e else foldN e (e.kids.map foldE) := by
  cases e; simp only [foldE, foldL_eq]; rfl
def foldX (e : Ex) : Ex := if exprErr e ≠ 0 then e else foldE e

mutual
def sameE : Ex → Ex → Bool
  | .mk op name v kids, b => decide (op = b.op) && decide (name = b.name) && decide (v = b.v) && decide (kids.length = b.kids.length) && sameL kids b.kids
def sameL : List Ex → List Ex → Bool
  | [], _ => true
  | x :: r, l => sameE x (l.headD x) && sameL r l.tail
end
theorem sameE_eq (a b : Ex) : sameE a b = (decide (a.op = b.op) && decide (a.name = b.name) && decide (a.v = b.v) && decide (a.kids.length = b.kids.length) && sameL a.kids b.kids) := by cases a; simp only [sameE]; rfl
mutual
theorem sameE_self : ∀ a : Ex, sameE a a = true
  | .mk op name v kids => by simp [sameE, Ex.op, Ex.name, Ex.v, Ex.kids, sameL_self kids]
theorem sameL_self : ∀ l : List Ex, sameL l l = true
  | [] => rfl
  | x :: r => by simp [sameL, sameE_self x, sameL_self r]
end

mutual
def textsE : Ex → Bool
  | .mk _ _ v kids => textsL kids && decide ((v.s.size : Int) ≤ 300)
def textsL : List Ex → Bool
  | [] => true
  | k :: r => textsE k && textsL r
end
theorem textsE_eq (e : Ex) : textsE e = (textsL e.kids && decide ((e.v.s.size : Int) ≤ 300)) := by cases e; simp only [textsE]; rfl
def fewV (r : List Val) : Bool := r.all fun v => !decide (300 < (v.s.size : Int))
def fewE (cols : List Col) (row : List Val) (e : Ex) : Bool := !(decide (40 < (cols.length : Int)) || (decide (40 < (row.length : Int)) || decide (200 < count e 200))) && (fewV row && textsE e)

theorem valid_zero {e : Ex} (h : nodesErr e = 0) (h1 : e.op ≠ 1) : e.v = nullV := by
  have hn := valid_node h
  simp only [nodeErr] at hn
  split at hn
  · exact absurd hn (by decide)
  · split at hn
    · exact absurd hn (by decide)
    · rename_i h2
      have hz : zeroV e.v = true := by
        cases hz : zeroV e.v with
        | true => rfl
        | false => exact absurd (.inr (.inl ⟨h1, hz⟩)) h2
      generalize e.v = x at hz
      obtain ⟨a, b, c⟩ := x
      simp only [zeroV, Bool.and_eq_true, decide_eq_true_eq] at hz
      simp only [nullV, Val.mk.injEq]
      exact ⟨hz.1, hz.2.1, hz.2.2.1⟩
theorem exprT_ok {cols : List Col} {e : Ex} (h : (exprT cols e).2 = 0) : exprErr e = 0 ∧ (typ cols e).2 = 0 := by
  simp only [exprT] at h
  split at h
  · rename_i hne; exact absurd h hne
  · rename_i hne; exact ⟨by simpa using hne, h⟩
theorem kids_op {e : Ex} (h : nodesErr e = 0) (hk : e.kids.length ≠ 0) : e.op ≠ 1 := by
  intro h1
  have := (valid_kids (valid_node h)).1 (.inl h1)
  rw [this] at hk
  exact hk rfl
theorem same_cond (p q r s : Bool) : (bif !p then true else bif !q then true else bif !r then true else !s) = !(p && q && r && s) := by cases p <;> cases q <;> cases r <;> cases s <;> rfl
theorem lenEq (a b : Ex) : decide (((a.kc.length : Nat) : Int) = ((b.kc.length : Nat) : Int)) = decide (a.kids.length = b.kids.length) := by
  rw [Ex.kc_len, Ex.kc_len, Bool.eq_iff_iff]; simp only [decide_eq_true_eq]; omega
end Go.Tb
/- The laws of values, in plain Lean. -/
namespace Go.Tb
open Go.Ab

theorem valErr_kind {k : Int} {v : Val} (h : valErr k v = 0) : v.kind = 0 ∨ v.kind = k := by
  rcases valErr_iff.1 h with rfl | ⟨rfl, b, rfl⟩ | ⟨rfl, n, _, rfl⟩ | ⟨rfl, s, _, rfl⟩
  · exact .inl rfl
  · exact .inr rfl
  · exact .inr rfl
  · exact .inr rfl
theorem exprV_ok {cols : List Col} {row : List Val} {e : Ex} (h : (exprT cols e).2 = 0) : valErr (exprT cols e).1 (exprV cols row e) = 0 := by
  obtain ⟨h1, h2⟩ := exprT_ok h
  simp only [exprV]
  split
  · rename_i hf
    have := evalV_ok hf.2 e (exprErr_zero h1) h2
    simpa [exprT, h1] using this
  · exact nullV_ok _
theorem exprV_bad {cols : List Col} {row : List Val} {e : Ex} (h : (exprT cols e).2 ≠ 0) : exprV cols row e = nullV := by
  simp only [exprV]
  rw [if_neg (fun hh => h hh.1)]

def twoE (op : Int) (a b : Ex) : Ex := .mk op (B #[]) nullV [a, b]
def notE (a : Ex) : Ex := .mk 3 (B #[]) nullV [a]
def numE (n : Int) : Ex := .mk 1 (B #[]) (numV n) []

theorem two_op (op : Int) (a b : Ex) : (twoE op a b).op = op := Eq.trans rfl rfl
theorem two_name (op : Int) (a b : Ex) : (twoE op a b).name = B #[] := Eq.trans rfl rfl
theorem two_v (op : Int) (a b : Ex) : (twoE op a b).v = nullV := Eq.trans rfl rfl
theorem two_kids (op : Int) (a b : Ex) : (twoE op a b).kids = [a, b] := Eq.trans rfl rfl
theorem not_op (a : Ex) : (notE a).op = 3 := Eq.trans rfl rfl
theorem not_name (a : Ex) : (notE a).name = B #[] := Eq.trans rfl rfl
theorem not_v (a : Ex) : (notE a).v = nullV := Eq.trans rfl rfl
theorem not_kids (a : Ex) : (notE a).kids = [a] := Eq.trans rfl rfl
theorem num_op (n : Int) : (numE n).op = 1 := Eq.trans rfl rfl
theorem num_name (n : Int) : (numE n).name = B #[] := Eq.trans rfl rfl
theorem num_v (n : Int) : (numE n).v = numV n := Eq.trans rfl rfl
theorem num_kids (n : Int) : (numE n).kids = [] := Eq.trans rfl rfl

theorem exprErr_iff {e : Ex} : exprErr e = 0 ↔ cnt e ≤ 200 ∧ lev e ≤ 16 ∧ nodesErr e = 0 := by
  simp only [exprErr]
  by_cases h1 : 200 < cnt e
  · rw [if_pos h1]; constructor
    · intro h; exact absurd h (by decide)
    · intro h; omega
  · rw [if_neg h1]
    by_cases h2 : 16 < lev e
    · rw [if_pos h2]; constructor
      · intro h; exact absurd h (by decide)
      · intro h; omega
    · rw [if_neg h2]; constructor
      · intro h; exact ⟨by omega, by omega, h⟩
      · intro h; exact h.2.2
theorem exprT_iff {cols : List Col} {e : Ex} : (exprT cols e).2 = 0 ↔ exprErr e = 0 ∧ (typ cols e).2 = 0 := by
  constructor
  · exact exprT_ok
  · rintro ⟨h1, h2⟩; simp [exprT, h1, h2]

theorem zeroV_null : zeroV nullV = true := by decide
theorem nodeErr_two {op : Int} {a b : Ex} (h : 5 ≤ op ∧ op ≤ 15) : nodeErr (twoE op a b) = 0 := by
  simp only [nodeErr, two_op, two_name, two_v, two_kids, zeroV_null]
  rw [if_neg (by omega), if_neg, if_neg (by omega), if_neg (by omega), if_neg (by omega)]
  rintro (⟨_, _, h3⟩ | ⟨_, h3⟩ | ⟨_, h3⟩)
  · exact h3 rfl
  · cases h3
  · simp only [kidsOf] at h3
    rw [if_neg (by omega), if_neg (by omega), if_neg (by omega)] at h3
    exact h3 rfl
theorem nodeErr_not {a : Ex} : nodeErr (notE a) = 0 := by
  simp only [nodeErr, not_op, not_name, not_v, not_kids, zeroV_null]
  rw [if_neg (by omega), if_neg, if_neg (by omega), if_neg (by omega), if_neg (by omega)]
  rintro (⟨_, _, h3⟩ | ⟨_, h3⟩ | ⟨_, h3⟩)
  · exact h3 rfl
  · cases h3
  · exact h3 rfl
theorem nodesErrL_one {a : Ex} : nodesErrL [a] = 0 ↔ nodesErr a = 0 := by
  simp only [nodesErrL]
  by_cases h : nodesErr a = 0 <;> simp [h]
theorem nodesErrL_two {a b : Ex} : nodesErrL [a, b] = 0 ↔ nodesErr a = 0 ∧ nodesErr b = 0 := by
  simp only [nodesErrL]
  by_cases h : nodesErr a = 0 <;> by_cases h2 : nodesErr b = 0 <;> simp [h, h2]
theorem nodes_two {op : Int} {a b : Ex} (h : 5 ≤ op ∧ op ≤ 15) : nodesErr (twoE op a b) = 0 ↔ nodesErr a = 0 ∧ nodesErr b = 0 := by
  rw [nodesErr_eq, nodeErr_two h]
  simp only [ne_eq, not_true_eq_false, if_false]
  exact nodesErrL_two
theorem nodes_not {a : Ex} : nodesErr (notE a) = 0 ↔ nodesErr a = 0 := by
  rw [nodesErr_eq, nodeErr_not]
  simp only [ne_eq, not_true_eq_false, if_false]
  exact nodesErrL_one
theorem cnt_two (op : Int) (a b : Ex) : cnt (twoE op a b) = cnt a + cnt b + 1 := by simp [twoE, cnt, cntL]
theorem cnt_not (a : Ex) : cnt (notE a) = cnt a + 1 := by simp [notE, cnt, cntL]
theorem lev_two (op : Int) (a b : Ex) : lev (twoE op a b) = (if lev a < lev b then lev b else lev a) + 1 := by
  have h1 := (lev_le a).1
  have h2 := (lev_le b).1
  simp only [twoE, lev, levL]
  rw [if_pos (show (0 : Int) < lev a by omega)]
theorem lev_not (a : Ex) : lev (notE a) = lev a + 1 := by
  have h1 := (lev_le a).1
  simp only [notE, lev, levL]
  rw [if_pos (show (0 : Int) < lev a by omega)]
theorem typ_two {cols : List Col} {op : Int} {a b : Ex} (h : 5 ≤ op ∧ op ≤ 15) : (typ cols (twoE op a b)).2 = 0 ↔ (typ cols a).2 = 0 ∧ (typ cols b).2 = 0 ∧ (opT op (B #[]) (typ cols a).1 (typ cols b).1).2 = true := by
  rw [typ_eq]
  simp only [two_op, two_kids, two_name]
  rw [if_neg (by omega), if_neg (by omega)]
  simp only [typL]
  by_cases h1 : (typ cols a).2 = 0
  · by_cases h2 : (typ cols b).2 = 0
    · simp only [h1, h2, ne_eq, not_true_eq_false, if_false, List.nil_append, List.cons_append, List.getD_cons_zero, List.getD_cons_succ]
      cases (opT op (B #[]) (typ cols a).1 (typ cols b).1).2 <;> simp [whenT]
    · simp [h1, h2]
  · simp [h1]
theorem typ_not {cols : List Col} {a : Ex} : (typ cols (notE a)).2 = 0 ↔ (typ cols a).2 = 0 ∧ fits (typ cols a).1 1 = true := by
  rw [typ_eq]
  simp only [not_op, not_kids, not_name]
  rw [if_neg (by omega), if_neg (by omega)]
  simp only [typL]
  by_cases h1 : (typ cols a).2 = 0
  · simp only [h1, ne_eq, not_true_eq_false, if_false, List.nil_append, List.getD_cons_zero, opT, if_true]
    cases fits (typ cols a).1 1 <;> simp [whenT]
  · simp [h1]
theorem typ_two1 {cols : List Col} {op : Int} {a b : Ex} (h : op = 14 ∨ op = 15) (ht : (typ cols (twoE op a b)).2 = 0) : (typ cols (twoE op a b)).1 = 1 := by
  have hh := (typ_two (by omega)).1 ht
  rw [typ_eq]
  simp only [two_op, two_kids, two_name]
  rw [if_neg (by omega), if_neg (by omega)]
  simp only [typL, hh.1, hh.2.1, ne_eq, not_true_eq_false, if_false, List.nil_append, List.cons_append, List.getD_cons_zero, List.getD_cons_succ, hh.2.2, whenT, if_true]
  simp only [opT]
  rw [if_neg (by omega), if_pos h]
theorem typ_not1 {cols : List Col} {a : Ex} (ht : (typ cols (notE a)).2 = 0) : (typ cols (notE a)).1 = 1 := by
  have hh := typ_not.1 ht
  rw [typ_eq]
  simp only [not_op, not_kids, not_name]
  rw [if_neg (by omega), if_neg (by omega)]
  simp only [typL, hh.1, ne_eq, not_true_eq_false, if_false, List.nil_append, List.getD_cons_zero, opT, if_true, hh.2, whenT]

theorem both_comm (a b w : Int) : both a b w = both b a w := Bool.and_comm _ _
theorem opT_comm {op a b : Int} (h : op = 14 ∨ op = 15 ∨ op = 5 ∨ op = 7 ∨ op = 10) : (opT op (B #[]) a b).2 = (opT op (B #[]) b a).2 := by
  simp only [opT]
  rcases h with rfl | rfl | rfl | rfl | rfl <;> simp [both_comm a b, Bool.or_comm (fits a b)]
theorem acc_comm {cols : List Col} {op : Int} {a b : Ex} (h : op = 14 ∨ op = 15 ∨ op = 5 ∨ op = 7 ∨ op = 10) : (exprT cols (twoE op a b)).2 = 0 ↔ (exprT cols (twoE op b a)).2 = 0 := by
  have h0 : 5 ≤ op ∧ op ≤ 15 := by omega
  simp only [exprT_iff, exprErr_iff, nodes_two h0, cnt_two, lev_two, typ_two h0]
  rw [opT_comm h]
  have : (if lev a < lev b then lev b else lev a) = (if lev b < lev a then lev a else lev b) := by split <;> split <;> omega
  rw [this]
  constructor <;> (rintro ⟨⟨h1, h2, h3, h4⟩, h5, h6, h7⟩; exact ⟨⟨by omega, h2, h4, h3⟩, h6, h5, h7⟩)

theorem logicV_comm {a b : Val} {s : Bool} (ha : valErr 1 a = 0) (hb : valErr 1 b = 0) : logicV a b (truthV s) = logicV b a (truthV s) := by
  rcases bool_cases ha with rfl | ⟨x, rfl⟩ <;> rcases bool_cases hb with rfl | ⟨y, rfl⟩ <;> (try cases x) <;> (try cases y) <;> cases s <;> decide
theorem evalV_two (cols : List Col) (row : List Val) {op : Int} (a b : Ex) (h1 : op ≠ 1) (h2 : op ≠ 2) : evalV cols row (twoE op a b) = opV op (B #[]) [evalV cols row a, evalV cols row b] := by
  rw [evalV_op (by rw [two_op]; exact h1) (by rw [two_op]; exact h2)]; rfl
theorem evalV_not (cols : List Col) (row : List Val) (a : Ex) : evalV cols row (notE a) = opV 3 (B #[]) [evalV cols row a] := by
  rw [evalV_op (by rw [not_op]; decide) (by rw [not_op]; decide)]; rfl
theorem opV_and (a b : Val) : opV 14 (B #[]) [a, b] = logicV a b (truthV false) := by simp [opV]
theorem opV_or (a b : Val) : opV 15 (B #[]) [a, b] = logicV a b (truthV true) := by simp [opV]
theorem opV_not1 (a : Val) : opV 3 (B #[]) [a] = if a.kind = 0 then nullV else truthV (decide (a.n = 0)) := by simp [opV]
theorem opV_comm {op : Int} {a b : Val} (h : op = 5 ∨ op = 7 ∨ op = 10) : opV op (B #[]) [a, b] = opV op (B #[]) [b, a] := by
  have ho : ordV a b = 0 ↔ ordV b a = 0 := by rw [ordV_anti b a]; omega
  rcases h with rfl | rfl | rfl <;> simp [opV, cmpV, arithV, Int.add_comm, Int.mul_comm, Bool.or_comm, ho]
theorem exprV_comm (cols : List Col) (row : List Val) {op : Int} {a b : Ex} (h : op = 14 ∨ op = 15 ∨ op = 5 ∨ op = 7 ∨ op = 10) : exprV cols row (twoE op a b) = exprV cols row (twoE op b a) := by
  simp only [exprV]
  by_cases hc : (exprT cols (twoE op a b)).2 = 0 ∧ fitsB cols row = true
  · rw [if_pos hc, if_pos ⟨(acc_comm h).1 hc.1, hc.2⟩, evalV_two _ _ _ _ (by omega) (by omega), evalV_two _ _ _ _ (by omega) (by omega)]
    have hx := exprT_ok hc.1
    have hn := exprErr_zero hx.1
    by_cases hl : op = 14 ∨ op = 15
    · obtain ⟨a', b', hk, ha, hb⟩ := logic_kids hc.2 hn hx.2 hl
      simp only [two_kids, List.cons.injEq, and_true] at hk
      obtain ⟨rfl, rfl⟩ := hk
      rcases hl with rfl | rfl
      · rw [opV_and, opV_and, logicV_comm ha hb]
      · rw [opV_or, opV_or, logicV_comm ha hb]
    · exact opV_comm (by omega)
  · rw [if_neg hc, if_neg (fun hh => hc ⟨(acc_comm h).2 hh.1, hh.2⟩)]

theorem morgan_acc {cols : List Col} {a b : Ex} : ((exprT cols (notE (twoE 14 a b))).2 = 0 ↔ (exprT cols (notE (twoE 15 a b))).2 = 0) ∧ ((exprT cols (twoE 15 (notE a) (notE b))).2 = 0 ↔ (exprT cols (twoE 14 (notE a) (notE b))).2 = 0) := by
  constructor
  · simp only [exprT_iff, exprErr_iff, nodes_not, nodes_two (show (5 : Int) ≤ 14 ∧ (14 : Int) ≤ 15 by decide), nodes_two (show (5 : Int) ≤ 15 ∧ (15 : Int) ≤ 15 by decide), cnt_not, cnt_two, lev_not, lev_two, typ_not]
    have e : ((typ cols (twoE 14 a b)).2 = 0 ∧ fits (typ cols (twoE 14 a b)).1 1 = true) ↔ ((typ cols (twoE 15 a b)).2 = 0 ∧ fits (typ cols (twoE 15 a b)).1 1 = true) := by
      have ee : (typ cols (twoE 14 a b)).2 = 0 ↔ (typ cols (twoE 15 a b)).2 = 0 := by
        rw [typ_two (by decide), typ_two (by decide)]; simp [opT]
      constructor
      · rintro ⟨h1, h2⟩; have h3 := ee.1 h1; exact ⟨h3, by rw [typ_two1 (.inr rfl) h3]; decide⟩
      · rintro ⟨h1, h2⟩; have h3 := ee.2 h1; exact ⟨h3, by rw [typ_two1 (.inl rfl) h3]; decide⟩
    rw [e]
  · simp only [exprT_iff, exprErr_iff, nodes_two (show (5 : Int) ≤ 14 ∧ (14 : Int) ≤ 15 by decide), nodes_two (show (5 : Int) ≤ 15 ∧ (15 : Int) ≤ 15 by decide), cnt_two, lev_two, typ_two (show (5 : Int) ≤ 14 ∧ (14 : Int) ≤ 15 by decide), typ_two (show (5 : Int) ≤ 15 ∧ (15 : Int) ≤ 15 by decide)]
    simp [opT]

theorem morgan_val {a b : Val} (ha : valErr 1 a = 0) (hb : valErr 1 b = 0) :
    opV 3 (B #[]) [logicV a b (truthV false)] = logicV (opV 3 (B #[]) [a]) (opV 3 (B #[]) [b]) (truthV true) ∧ opV 3 (B #[]) [logicV a b (truthV true)] = logicV (opV 3 (B #[]) [a]) (opV 3 (B #[]) [b]) (truthV false) := by
  rcases bool_cases ha with rfl | ⟨x, rfl⟩ <;> rcases bool_cases hb with rfl | ⟨y, rfl⟩ <;> (try cases x) <;> (try cases y) <;> decide

theorem morgan (cols : List Col) (row : List Val) {a b : Ex} (h1 : (exprT cols (notE (twoE 14 a b))).2 = 0) (h2 : (exprT cols (twoE 15 (notE a) (notE b))).2 = 0) :
    exprV cols row (notE (twoE 14 a b)) = exprV cols row (twoE 15 (notE a) (notE b)) ∧ exprV cols row (notE (twoE 15 a b)) = exprV cols row (twoE 14 (notE a) (notE b)) := by
  have h3 := morgan_acc.1.1 h1
  have h4 := morgan_acc.2.1 h2
  simp only [exprV]
  by_cases hf : fitsB cols row = true
  · rw [if_pos ⟨h1, hf⟩, if_pos ⟨h2, hf⟩, if_pos ⟨h3, hf⟩, if_pos ⟨h4, hf⟩]
    have hx := exprT_ok h1
    have ht := (typ_not.1 hx.2).1
    have hn := (nodes_not.1 (exprErr_zero hx.1))
    obtain ⟨a', b', hk, ha, hb⟩ := logic_kids hf hn ht (.inl rfl)
    simp only [two_kids, List.cons.injEq, and_true] at hk
    obtain ⟨rfl, rfl⟩ := hk
    have hm := morgan_val ha hb
    simp only [evalV_not, evalV_two _ _ _ _ (show (14 : Int) ≠ 1 by decide) (show (14 : Int) ≠ 2 by decide), evalV_two _ _ _ _ (show (15 : Int) ≠ 1 by decide) (show (15 : Int) ≠ 2 by decide), opV_and, opV_or]
    exact hm
  · rw [if_neg (fun hh => hf hh.2), if_neg (fun hh => hf hh.2), if_neg (fun hh => hf hh.2), if_neg (fun hh => hf hh.2)]
    exact ⟨rfl, rfl⟩

theorem num_valid {n : Int} (h : inR n = true) : nodesErr (numE n) = 0 := by
  rw [nodesErr_eq]
  have : nodeErr (numE n) = 0 := by
    simp only [nodeErr, num_op, num_name, num_v, num_kids]
    rw [if_neg (by omega), if_neg, if_pos trivial]
    · have hv : valErr (numV n).kind (numV n) = 0 := numV_ok h
      simp only [constErr, hv]
      rfl
    · rintro (⟨_, _, h3⟩ | ⟨h3, _⟩ | ⟨_, h3⟩)
      · exact h3 rfl
      · exact h3 rfl
      · exact h3 (by decide)
  rw [this]
  rfl
theorem div_expr {op a b : Int} (h : op = 8 ∨ op = 9) (ha : inR a = true) (hb : inR b = true) : exprV [] [] (twoE op (numE a) (numE b)) = arithV op a b := by
  have hc : (exprT [] (twoE op (numE a) (numE b))).2 = 0 := by
    rw [exprT_iff, exprErr_iff, nodes_two (by omega), typ_two (by omega)]
    refine ⟨⟨by rw [cnt_two]; show (1 : Int) + 1 + 1 ≤ 200; decide, by rw [lev_two]; show (if (1 : Int) < 1 then (1 : Int) else 1) + 1 ≤ 16; decide, num_valid ha, num_valid hb⟩, rfl, rfl, ?_⟩
    rcases h with rfl | rfl <;> rfl
  simp only [exprV]
  rw [if_pos ⟨hc, rfl⟩, evalV_two _ _ _ _ (by omega) (by omega)]
  have e : ∀ n, evalV [] [] (numE n) = numV n := fun n => rfl
  rw [e, e]
  simp only [opV, numV, List.any_cons, List.any_nil, List.getD_cons_zero, List.getD_cons_succ]
  rcases h with rfl | rfl <;> simp

theorem div_facts {a b : Int} (ha : inR a = true) (hb : inR b = true) (h0 : b ≠ 0) : ∃ q m : Int, arithV 8 a b = numV q ∧ arithV 9 a b = numV m ∧ q * b = a - m ∧ (-1000000000000000 ≤ q ∧ q ≤ 1000000000000000) ∧ (-1000000000000000 ≤ m ∧ m ≤ 1000000000000000) ∧
    ((m < b ∧ -m < b) ∨ (b < m ∧ b < -m)) ∧ (m = 0 ∨ (m < 0 ↔ a < 0)) := by
  have ha' := inR_iff.1 ha
  have hb' := inR_iff.1 hb
  refine ⟨a.tdiv b, a.tmod b, ?_, ?_, ?_, ?_, ?_, ?_, ?_⟩
  · simp [arithV, h0]
  · simp [arithV, h0]
  · have := Int.mul_tdiv_add_tmod a b; rw [Int.mul_comm] at this; omega
  · have h1 : (a.tdiv b).natAbs ≤ a.natAbs := by rw [Int.natAbs_tdiv]; exact Nat.div_le_self _ _
    omega
  · have h2 : (a.tmod b).natAbs ≤ a.natAbs := by rw [Int.natAbs_tmod]; exact Nat.mod_le _ _
    omega
  · have h3 : (a.tmod b).natAbs < b.natAbs := by rw [Int.natAbs_tmod]; exact Nat.mod_lt _ (by omega)
    omega
  · by_cases hn : a < 0
    · have := Int.tmod_nonneg b (show 0 ≤ -a by omega)
      rw [Int.neg_tmod] at this
      omega
    · have := Int.tmod_nonneg b (show 0 ≤ a by omega)
      omega
theorem div_facts2 {a b : Int} (ha : inR a = true) (hb : inR b = true) (h0 : b ≠ 0) : (arithV 8 a b).kind = 2 ∧ (arithV 9 a b).kind = 2 ∧ (arithV 8 a b).n * b = a - (arithV 9 a b).n ∧ (-1000000000000000 ≤ (arithV 8 a b).n ∧ (arithV 8 a b).n ≤ 1000000000000000) ∧
    (-1000000000000000 ≤ (arithV 9 a b).n ∧ (arithV 9 a b).n ≤ 1000000000000000) ∧ (((arithV 9 a b).n < b ∧ -(arithV 9 a b).n < b) ∨ (b < (arithV 9 a b).n ∧ b < -(arithV 9 a b).n)) ∧ ((arithV 9 a b).n = 0 ∨ ((arithV 9 a b).n < 0 ↔ a < 0)) := by
  obtain ⟨q, m, e1, e2, h⟩ := div_facts ha hb h0
  rw [e1, e2]
  exact ⟨rfl, rfl, h⟩
theorem sum_rep (n : Nat) (a : Int) : (List.replicate n a).sum = n * a := by
  induction n with
  | zero => simp
  | succ n ih => rw [List.replicate_succ, List.sum_cons, ih, Int.natCast_succ, Int.add_mul]; omega
theorem sums {n : Nat} {last : Int} (h : inR last = true) : aggV wSum (List.replicate n (numV 1000000000000000) ++ List.replicate n (numV (-1000000000000000)) ++ [numV last]) = numV last := by
  have ha : ∀ v ∈ (List.replicate n (numV 1000000000000000) ++ List.replicate n (numV (-1000000000000000)) ++ [numV last]), v.kind = 2 := by
    intro v hv
    simp only [List.mem_append, List.mem_replicate, List.mem_singleton] at hv
    rcases hv with (⟨_, rfl⟩ | ⟨_, rfl⟩) | rfl <;> rfl
  have hs : ((List.replicate n (numV 1000000000000000) ++ List.replicate n (numV (-1000000000000000)) ++ [numV last]).map Val.n).sum = last := by
    simp only [List.map_append, List.map_replicate, List.sum_append, List.map_cons, List.map_nil, List.sum_cons, List.sum_nil, numV, sum_rep]
    omega
  simp only [aggV, show ¬ wSum = wCount by decide, if_false, if_true, sumV, intsV_all _ ha, hs, intV, h]
theorem counts (l : List Val) : aggV wCount l = numV l.length := by simp [aggV]
def sumL (m : Nat) : List Val := List.replicate m (numV 1000000000000000) ++ List.replicate m (numV (-1000000000000000))
theorem sumL_len (m : Nat) : (sumL m).length = 2 * m := by simp [sumL]; omega
theorem sumL_lo {m k : Nat} {v : Val} (h : (sumL m)[k]? = some v) (hk : k < m) : v = numV 1000000000000000 := by
  rw [sumL, List.getElem?_append_left (by simpa using hk), List.getElem?_replicate, if_pos hk] at h
  exact (Option.some.inj h).symm
theorem sumL_hi {m k : Nat} {v : Val} (h : (sumL m)[k]? = some v) (hk : ¬ k < m) : v = numV (-1000000000000000) := by
  rw [sumL, List.getElem?_append_right (by simp; omega), List.getElem?_replicate] at h
  split at h
  · exact (Option.some.inj h).symm
  · cases h
theorem take_succ_at {α : Type} {l : List α} {k : Nat} {x : α} (h : l[k]? = some x) : l.take (k + 1) = l.take k ++ [x] := by rw [List.take_add_one, h]; rfl
end Go.Tb
/- The reference's way to the values of operators. -/
namespace Go.Tb
open Go.Ab

theorem tdiv_signs (a b : Int) : a.tdiv b = if decide (a < 0) = decide (b < 0) then ((a.natAbs / b.natAbs : Nat) : Int) else -((a.natAbs / b.natAbs : Nat) : Int) := by
  have e : ∀ x : Int, x < 0 → x = -((x.natAbs : Nat) : Int) := fun x h => by omega
  have f : ∀ x : Int, ¬ x < 0 → x = ((x.natAbs : Nat) : Int) := fun x h => by omega
  by_cases ha : a < 0 <;> by_cases hb : b < 0
  · rw [if_pos (by simp [ha, hb])]
    conv => lhs; rw [e a ha, e b hb]
    rw [Int.neg_tdiv, Int.tdiv_neg, Int.neg_neg, Int.ofNat_tdiv]
  · rw [if_neg (by simp [ha, hb])]
    conv => lhs; rw [e a ha, f b hb]
    rw [Int.neg_tdiv, Int.ofNat_tdiv]
  · rw [if_neg (by simp [ha, hb])]
    conv => lhs; rw [f a ha, e b hb]
    rw [Int.tdiv_neg, Int.ofNat_tdiv]
  · rw [if_pos (by simp [ha, hb])]
    conv => lhs; rw [f a ha, f b hb]
    rw [Int.ofNat_tdiv]

def prodS (a b : Int) : Sgd := if b < 0 then scaledS (-a) (-b) else scaledS a b
theorem prodS_val (a b : Int) : (prodS a b).val = a * b := by
  simp only [prodS]
  split
  · rw [scaledS_val (by omega), Int.neg_mul_neg]
  · rw [scaledS_val (by omega)]
theorem prodS_n {a b : Int} (ha : inR a = true) (hb : inR b = true) : (prodS a b).n ≤ 1000000000000000000000000000000 := by
  have := prodN_le ha hb
  simp only [prodN] at this
  simp only [prodS]
  split <;> simpa [scaledS] using this

theorem index_short (p : List UInt8) : ∀ l : List UInt8, l.length < p.length → Lib.index l p = -1
  | [], h => by
    have : p.isEmpty = false := by cases p with | nil => simp at h | cons a r => rfl
    simp [Lib.index, this]
  | b :: l, h => by
    have h1 : p.isPrefixOf (b :: l) = false := by
      cases hh : p.isPrefixOf (b :: l) with
      | false => rfl
      | true => have := (List.isPrefixOf_iff_prefix.1 hh).length_le; omega
    have h2 := index_short p l (by simp at h; omega)
    simp [Lib.index, h1, h2]
theorem extract_at {s p : ByteArray} {k : Nat} (h : k + p.size ≤ s.size) : decide (s.extract k (k + p.size) = p) = (bys p).isPrefixOf ((bys s).drop k) := by
  rw [Bool.eq_iff_iff, decide_eq_true_eq, List.isPrefixOf_iff_prefix, List.prefix_iff_eq_take, bys_size]
  have e := bys_extract s k (k + p.size)
  rw [← List.take_drop] at e
  constructor
  · intro h; rw [h] at e; exact e
  · intro h; apply bys_inj; rw [e]; exact h.symm
def occAt (s p : ByteArray) (k : Nat) : Bool := decide (0 ≤ Lib.index ((bys s).drop k) (bys p))
theorem occAt_hit {s p : ByteArray} {k : Nat} (h : (bys p).isPrefixOf ((bys s).drop k) = true) : occAt s p k = true := by
  simp only [occAt]
  cases hd : (bys s).drop k with
  | nil =>
    rw [hd] at h
    have : bys p = [] := by cases hp : bys p with | nil => rfl | cons a r => rw [hp] at h; simp at h
    simp [Lib.index, this]
  | cons b l => rw [hd] at h; simp [Lib.index, h]
theorem occAt_step {s p : ByteArray} {k : Nat} (h : (bys p).isPrefixOf ((bys s).drop k) = false) (hk : k < s.size) : occAt s p k = occAt s p (k + 1) := by
  simp only [occAt]
  have hd : (bys s).drop k = (bys s)[k]'(by rw [bys_size]; exact hk) :: (bys s).drop (k + 1) := List.drop_eq_getElem_cons _
  rw [hd] at h ⊢
  have hge := Lib.index_ge ((bys s).drop (k + 1)) (bys p)
  simp only [Lib.index, h, Bool.false_eq_true, if_false]
  by_cases e : Lib.index ((bys s).drop (k + 1)) (bys p) = -1
  · simp [e]
  · rw [Bool.eq_iff_iff]; simp [e]; omega
theorem occAt_end {s p : ByteArray} {k : Nat} (h : s.size < k + p.size) (hk : k ≤ s.size) : occAt s p k = false := by
  simp only [occAt]
  rw [index_short]
  · rfl
  · rw [List.length_drop, bys_size, bys_size]; omega
theorem occAt_zero (s p : ByteArray) : occAt s p 0 = occB s p := rfl
/-- is a text in another one, at its beginning if start is set -/
def occS (s p : ByteArray) (start : Bool) : Bool := if start then startB s p else occB s p
theorem prefix_nonempty {s p : ByteArray} {k : Nat} (h : (bys p).isPrefixOf ((bys s).drop k) = false) : 0 < p.size := by
  rcases Nat.eq_zero_or_pos p.size with hp | hp
  · have : bys p = [] := List.eq_nil_of_length_eq_zero (by rw [bys_size]; exact hp)
    rw [this] at h; simp at h
  · exact hp
end Go.Tb
/- Folded expressions are accepted, and have the same values. -/
namespace Go.Tb
open Go.Ab

theorem outE_op (e : Ex) (ks : List Ex) : (outE e ks).op = e.op := Eq.trans rfl rfl
theorem outE_name (e : Ex) (ks : List Ex) : (outE e ks).name = e.name := Eq.trans rfl rfl
theorem outE_v (e : Ex) (ks : List Ex) : (outE e ks).v = nullV := Eq.trans rfl rfl
theorem outE_kids (e : Ex) (ks : List Ex) : (outE e ks).kids = ks := Eq.trans rfl rfl
def constE (v : Val) : Ex := .mk 1 (B #[]) v []
theorem constE_op (v : Val) : (constE v).op = 1 := Eq.trans rfl rfl
theorem constE_name (v : Val) : (constE v).name = B #[] := Eq.trans rfl rfl
theorem constE_v (v : Val) : (constE v).v = v := Eq.trans rfl rfl
theorem constE_kids (v : Val) : (constE v).kids = [] := Eq.trans rfl rfl

/-- a kind that is the same or has become null -/
def lessT (a' a : Int) : Prop := a' = a ∨ a' = 0
theorem lessT_fits {a' a w : Int} (h : lessT a' a) (hf : fits a w = true) : fits a' w = true := by
  rcases h with rfl | rfl
  · exact hf
  · simp [fits]
theorem lessT_both {a' a b' b w : Int} (ha : lessT a' a) (hb : lessT b' b) (h : both a b w = true) : both a' b' w = true := by
  simp only [both, Bool.and_eq_true] at h ⊢
  exact ⟨lessT_fits ha h.1, lessT_fits hb h.2⟩
theorem lessT_two {a' a b' b : Int} (ha : lessT a' a) (hb : lessT b' b) (h : (both a b 2 || both a b 3) = true) : (both a' b' 2 || both a' b' 3) = true ∧ lessT (if a' < b' then b' else a') (if a < b then b else a) := by
  simp only [Bool.or_eq_true] at h ⊢
  refine ⟨h.imp (lessT_both ha hb) (lessT_both ha hb), ?_⟩
  have key : ∃ w : Int, 0 < w ∧ (a = w ∨ a = 0) ∧ (b = w ∨ b = 0) := by
    rcases h with h | h <;> simp only [both, fits, Bool.and_eq_true, Bool.or_eq_true, decide_eq_true_eq] at h
    · exact ⟨2, by decide, h.1, h.2⟩
    · exact ⟨3, by decide, h.1, h.2⟩
  obtain ⟨w, hw, h1, h2⟩ := key
  simp only [lessT] at *
  split <;> split <;> omega
theorem lessT_call {name : ByteArray} {a' a b' b : Int} (ha : lessT a' a) (hb : lessT b' b) (h : (callT name a b).2 = true) : (callT name a' b').2 = true ∧ lessT (callT name a' b').1 (callT name a b).1 := by
  simp only [callT] at h ⊢
  by_cases h1 : name = wAbs
  · simp only [if_pos h1] at h ⊢; exact ⟨lessT_fits ha h, .inl rfl⟩
  by_cases h2 : name = wLen
  · simp only [if_neg h1, if_pos h2] at h ⊢; exact ⟨lessT_fits ha h, .inl rfl⟩
  by_cases h3 : name = wHas ∨ name = wStarts
  · simp only [if_neg h1, if_neg h2, if_pos h3] at h ⊢; exact ⟨lessT_both ha hb h, .inl rfl⟩
  · simp only [if_neg h1, if_neg h2, if_neg h3] at h ⊢; exact lessT_two ha hb h
theorem lessT_op {op : Int} {name : ByteArray} {a' a b' b : Int} (ha : lessT a' a) (hb : lessT b' b) (h : (opT op name a b).2 = true) : (opT op name a' b').2 = true ∧ lessT (opT op name a' b').1 (opT op name a b).1 := by
  simp only [opT] at h ⊢
  by_cases h3 : op = 3
  · simp only [if_pos h3] at h ⊢; exact ⟨lessT_fits ha h, .inl rfl⟩
  by_cases h14 : op = 14 ∨ op = 15
  · simp only [if_neg h3, if_pos h14] at h ⊢; exact ⟨lessT_both ha hb h, .inl rfl⟩
  by_cases h4 : op = 4
  · simp only [if_neg h3, if_neg h14, if_pos h4] at h ⊢; exact ⟨lessT_fits ha h, .inl rfl⟩
  by_cases h10 : op = 10 ∨ op = 11
  · simp only [if_neg h3, if_neg h14, if_neg h4, if_pos h10] at h ⊢
    refine ⟨?_, .inl rfl⟩
    simp only [Bool.or_eq_true, fits, decide_eq_true_eq] at h ⊢
    simp only [lessT] at ha hb
    omega
  by_cases h12 : op = 12 ∨ op = 13
  · simp only [if_neg h3, if_neg h14, if_neg h4, if_neg h10, if_pos h12] at h ⊢; exact ⟨(lessT_two ha hb h).1, .inl rfl⟩
  by_cases h16 : op = 16
  · simp only [if_neg h3, if_neg h14, if_neg h4, if_neg h10, if_neg h12, if_pos h16] at h ⊢; exact lessT_call ha hb h
  · simp only [if_neg h3, if_neg h14, if_neg h4, if_neg h10, if_neg h12, if_neg h16] at h ⊢; exact ⟨lessT_both ha hb h, .inl rfl⟩

theorem lessT_getD {f g : Ex → Int} (l : List Ex) (h : ∀ k ∈ l, lessT (f k) (g k)) (i : Nat) : lessT ((l.map f).getD i 0) ((l.map g).getD i 0) := by
  rcases Nat.lt_or_ge i l.length with hi | hi
  · simp only [List.getD_eq_getElem?_getD, List.getElem?_map, List.getElem?_eq_getElem hi, Option.map_some, Option.getD_some]
    exact h _ (List.getElem_mem hi)
  · simp only [List.getD_eq_getElem?_getD, List.getElem?_map, List.getElem?_eq_none hi]
    exact .inl rfl

theorem typL_of (cols : List Col) : ∀ (l : List Ex) (ks0 : List Int), (∀ k ∈ l, (typ cols k).2 = 0) → typL cols l ks0 = (0, ks0 ++ l.map fun k => (typ cols k).1)
  | [], ks0, _ => by simp [typL]
  | k :: r, ks0, h => by
    simp only [typL]
    rw [if_neg (by rw [h k (by simp)]; decide), typL_of cols r _ (fun x hx => h x (by simp [hx]))]
    simp
/-- the type of a node whose operands have types -/
theorem typ_node {cols : List Col} {e : Ex} (h1 : e.op ≠ 1) (h2 : e.op ≠ 2) (hk : ∀ k ∈ e.kids, (typ cols k).2 = 0)
    (ho : (opT e.op e.name ((e.kids.map fun k => (typ cols k).1).getD 0 0) ((e.kids.map fun k => (typ cols k).1).getD 1 0)).2 = true) :
    typ cols e = ((opT e.op e.name ((e.kids.map fun k => (typ cols k).1).getD 0 0) ((e.kids.map fun k => (typ cols k).1).getD 1 0)).1, 0) := by
  rw [typ_eq, if_neg h1, if_neg h2, typL_of cols e.kids [] hk]
  simp only [ne_eq, not_true_eq_false, if_false, List.nil_append, whenT, ho, if_true]

theorem cntL_map {f : Ex → Ex} : ∀ (l : List Ex), (∀ k ∈ l, cnt (f k) ≤ cnt k) → cntL (l.map f) ≤ cntL l
  | [], _ => Int.le_refl _
  | k :: r, h => by
    have h1 := h k (by simp)
    have h2 := cntL_map r (fun x hx => h x (by simp [hx]))
    simp only [List.map_cons, cntL]
    omega
theorem levL_map {f : Ex → Ex} : ∀ (l : List Ex) (d d' : Int), d' ≤ d → (∀ k ∈ l, lev (f k) ≤ lev k) → levL (l.map f) d' ≤ levL l d
  | [], d, d', hd, _ => hd
  | k :: r, d, d', hd, h => by
    have h1 := h k (by simp)
    simp only [List.map_cons, levL]
    refine levL_map r _ _ ?_ (fun x hx => h x (by simp [hx]))
    split <;> split <;> omega
theorem nodesErrL_iff : ∀ (l : List Ex), nodesErrL l = 0 ↔ ∀ k ∈ l, nodesErr k = 0
  | [] => by simp [nodesErrL]
  | k :: r => by
    simp only [nodesErrL, List.forall_mem_cons]
    rw [← nodesErrL_iff r]
    by_cases h : nodesErr k = 0 <;> simp [h]
theorem nodeErr_out {e : Ex} {ks : List Ex} (h1 : e.op ≠ 1) (hl : ks.length = e.kids.length) (hv : nodesErr e = 0) : nodeErr (outE e ks) = 0 := by
  have h := valid_node hv
  have hz := valid_zero hv h1
  simp only [nodeErr, outE_op, outE_name, outE_v, outE_kids, hl] at h ⊢
  rw [hz] at h
  exact h

def goodC (v : Val) : Prop := (bys v.s).any badChar = false
theorem goodC_empty {v : Val} (h : v.s = B #[]) : goodC v := by rw [goodC, h]; rfl
theorem goodC_ite {c : Prop} [Decidable c] {a b : Val} (ha : goodC a) (hb : goodC b) : goodC (if c then a else b) := by split; exact ha; exact hb
theorem opV_goodC {op : Int} {name : ByteArray} {l : List Val} (h : ∀ v ∈ l, goodC v) : goodC (opV op name l) := by
  have hg : ∀ i, goodC (l.getD i nullV) := by
    intro i
    rcases Nat.lt_or_ge i l.length with hi | hi
    · simp only [List.getD_eq_getElem?_getD, List.getElem?_eq_getElem hi, Option.getD_some]; exact h _ (List.getElem_mem hi)
    · simp only [List.getD_eq_getElem?_getD, List.getElem?_eq_none hi, Option.getD_none]; exact goodC_empty rfl
  have ht : ∀ b, goodC (truthV b) := fun b => goodC_empty rfl
  have hn : ∀ n, goodC (numV n) := fun n => goodC_empty rfl
  have h0 : goodC nullV := goodC_empty rfl
  have hi : ∀ n, goodC (intV n) := fun n => by unfold intV; split; exact hn _; exact h0
  simp only [opV, logicV, callV, cmpV, arithV]
  repeat' first | exact h0 | exact ht _ | exact hn _ | exact hi _ | exact hg 0 | exact hg 1 | apply goodC_ite
theorem const_ok {v : Val} (h : valErr v.kind v = 0) (hc : goodC v) : nodesErr (constE v) = 0 := by
  rw [nodesErr_eq]
  have : nodeErr (constE v) = 0 := by
    simp only [nodeErr, constE_op, constE_name, constE_v, constE_kids]
    rw [if_neg (by omega), if_neg, if_pos trivial]
    · simp only [constErr, h]
      rw [if_neg (by decide), if_neg]
      rw [show (bys v.s).any badChar = false from hc]; decide
    · rintro (⟨_, _, h3⟩ | ⟨h3, _⟩ | ⟨_, h3⟩)
      · exact h3 rfl
      · exact h3 rfl
      · exact h3 rfl
  rw [this, constE_kids]
  rfl
theorem const_err {e : Ex} (h : nodesErr e = 0) (h1 : e.op = 1) : valErr e.v.kind e.v = 0 ∧ goodC e.v := by
  have hn := valid_node h
  simp only [nodeErr] at hn
  split at hn
  · exact absurd hn (by decide)
  · split at hn
    · exact absurd hn (by decide)
    · simp only [h1, if_true, constErr] at hn
      split at hn
      · rename_i h2; exact absurd hn h2
      · rename_i h2
        split at hn
        · exact absurd hn (by decide)
        · rename_i h3; exact ⟨by simpa using h2, by simpa [goodC] using h3⟩
theorem valErr_own {k : Int} {v : Val} (h : valErr k v = 0) : valErr v.kind v = 0 := by
  rcases valErr_iff.1 h with rfl | ⟨_, b, rfl⟩ | ⟨_, n, hn, rfl⟩ | ⟨_, s, hs, rfl⟩
  · exact nullV_ok _
  · exact truthV_ok _
  · exact numV_ok hn
  · exact valErr_iff.2 (.inr (.inr (.inr ⟨rfl, s, hs, rfl⟩)))
theorem evalV_const (cols : List Col) (row : List Val) {e : Ex} (h : e.op = 1) : evalV cols row e = e.v := by rw [evalV_eq, if_pos h]

/-- what folding keeps -/
structure Kept (cols : List Col) (row : List Val) (f e : Ex) : Prop where
  ok : nodesErr f = 0
  cnt : cnt f ≤ cnt e
  lev : lev f ≤ lev e
  typ : (typ cols e).2 = 0 → (typ cols f).2 = 0 ∧ lessT (Go.Tb.typ cols f).1 (Go.Tb.typ cols e).1
  val : evalV cols row f = evalV cols row e

theorem fold_kept (cols : List Col) (row : List Val) : ∀ (e : Ex), nodesErr e = 0 → Kept cols row (foldE e) e := by
  refine Ex.ind fun e ih hv => ?_
  rw [foldE_eq]
  split
  · exact ⟨hv, Int.le_refl _, Int.le_refl _, fun h => ⟨h, .inl rfl⟩, rfl⟩
  · rename_i hk
    have h1 := kids_op hv hk
    have h2 : e.op ≠ 2 := fun h2 => by have := (valid_kids (valid_node hv)).1 (.inr h2); rw [this] at hk; exact hk rfl
    have ihk : ∀ k ∈ e.kids, Kept cols row (foldE k) k := fun k hk => ih k hk (valid_kid hv hk)
    have hl : (e.kids.map foldE).length = e.kids.length := List.length_map _
    -- the node with folded operands
    have hout : Kept cols row (outE e (e.kids.map foldE)) e := by
      refine ⟨?_, ?_, ?_, fun ht => ?_, ?_⟩
      · rw [nodesErr_eq, nodeErr_out h1 hl hv, outE_kids]
        simp only [ne_eq, not_true_eq_false, if_false]
        rw [nodesErrL_iff]
        intro k hk
        obtain ⟨k0, hk0, rfl⟩ := List.mem_map.1 hk
        exact (ihk k0 hk0).ok
      · rw [cnt_eq, cnt_eq, outE_kids]
        have := cntL_map (f := foldE) e.kids (fun k hk => (ihk k hk).cnt)
        omega
      · rw [lev_eq, lev_eq, outE_kids]
        have := levL_map (f := foldE) e.kids 0 0 (Int.le_refl _) (fun k hk => (ihk k hk).lev)
        omega
      · obtain ⟨q1, q2, q3⟩ := typ_kids ht h1 h2
        have hm : ∀ i, lessT (((e.kids.map foldE).map fun k => (typ cols k).1).getD i 0) ((e.kids.map fun k => (typ cols k).1).getD i 0) := by
          intro i
          rw [List.map_map]
          exact lessT_getD e.kids (fun k hk => ((ihk k hk).typ (q1 k hk)).2) i
        obtain ⟨r1, r2⟩ := lessT_op (name := e.name) (hm 0) (hm 1) q2
        have hn := typ_node (cols := cols) (e := outE e (e.kids.map foldE)) (by rw [outE_op]; exact h1) (by rw [outE_op]; exact h2) (by
          rw [outE_kids]
          intro k hk
          obtain ⟨k0, hk0, rfl⟩ := List.mem_map.1 hk
          exact ((ihk k0 hk0).typ (q1 k0 hk0)).1) (by rw [outE_op, outE_name, outE_kids]; exact r1)
        rw [outE_op, outE_name, outE_kids] at hn
        rw [hn, q3]
        exact ⟨rfl, r2⟩
      · rw [evalV_op (by rw [outE_op]; exact h1) (by rw [outE_op]; exact h2), evalV_op h1 h2, outE_op, outE_name, outE_kids, List.map_map]
        congr 1
        exact List.map_congr_left fun k hk => (ihk k hk).val
    unfold foldN
    split
    · exact hout
    · rename_i hc
      split
      · exact hout
      · rename_i hx
        have hx : (exprT [] (outE e (e.kids.map foldE))).2 = 0 := by simpa using hx
        obtain ⟨he1, he2⟩ := exprT_ok hx
        have hcs : ∀ k ∈ e.kids.map foldE, k.op = 1 := by
          intro k hk
          have : (e.kids.map foldE).all isC = true := by simpa using hc
          have := List.all_eq_true.1 this k hk
          simpa [isC] using this
        have hsame : ∀ (c : List Col) (r : List Val), evalV c r (outE e (e.kids.map foldE)) = evalV [] [] (outE e (e.kids.map foldE)) := by
          intro c r
          rw [evalV_op (by rw [outE_op]; exact h1) (by rw [outE_op]; exact h2), evalV_op (by rw [outE_op]; exact h1) (by rw [outE_op]; exact h2), outE_kids]
          congr 1
          exact List.map_congr_left fun k hk => by rw [evalV_const c r (hcs k hk), evalV_const [] [] (hcs k hk)]
        have hval := evalV_ok (cols := []) (row := []) rfl _ (exprErr_zero he1) he2
        have hgood : goodC (evalV [] [] (outE e (e.kids.map foldE))) := by
          rw [evalV_op (by rw [outE_op]; exact h1) (by rw [outE_op]; exact h2), outE_kids]
          refine opV_goodC fun v hv => ?_
          obtain ⟨k, hk, rfl⟩ := List.mem_map.1 hv
          rw [evalV_const [] [] (hcs k hk)]
          obtain ⟨k0, hk0, rfl⟩ := List.mem_map.1 hk
          exact (const_err (ihk k0 hk0).ok (hcs _ hk)).2
        show Kept cols row (constE (evalV [] [] (outE e (e.kids.map foldE)))) e
        refine ⟨const_ok (valErr_own hval) hgood, ?_, ?_, fun ht => ?_, ?_⟩
        · have := cnt_pos e; show (1 : Int) ≤ _; exact this
        · have := (lev_le e).1; show (1 : Int) ≤ _; exact this
        · obtain ⟨t1, t2⟩ := hout.typ ht
          refine ⟨rfl, ?_⟩
          show lessT (evalV [] [] (outE e (e.kids.map foldE))).kind _
          -- the types of constants do not depend on the columns
          have htt : typ cols (outE e (e.kids.map foldE)) = typ [] (outE e (e.kids.map foldE)) := by
            have hk1 : ∀ (c : List Col), ∀ k ∈ e.kids.map foldE, typ c k = (k.v.kind, 0) := fun c k hk => by rw [typ_eq, if_pos (hcs k hk)]
            have e1 : ∀ c, typL c (e.kids.map foldE) [] = (0, (e.kids.map foldE).map fun k => k.v.kind) := by
              intro c
              rw [typL_of c _ [] (fun k hk => by rw [hk1 c k hk])]
              simp only [List.nil_append]
              congr 1
              exact List.map_congr_left fun k hk => by rw [hk1 c k hk]
            rw [typ_eq, typ_eq, outE_op, if_neg h1, if_neg h2, if_neg h1, if_neg h2, outE_kids, e1, e1]
          rcases valErr_kind hval with hk0 | hk0
          · rw [hk0]; exact .inr rfl
          · rw [hk0, ← htt]; exact t2
        · rw [evalV_const cols row (constE_op _), constE_v, ← hsame cols row]; exact hout.val

theorem fold_accepted {cols : List Col} {e : Ex} (h : (exprT cols e).2 = 0) : (exprT cols (foldX e)).2 = 0 := by
  obtain ⟨h1, h2⟩ := exprT_ok h
  have hi := exprErr_iff.1 h1
  have hk := fold_kept cols [] e hi.2.2
  rw [show foldX e = foldE e by simp [foldX, h1]]
  exact exprT_iff.2 ⟨exprErr_iff.2 ⟨Int.le_trans hk.cnt hi.1, Int.le_trans hk.lev hi.2.1, hk.ok⟩, (hk.typ h2).1⟩
theorem fold_same {cols : List Col} {row : List Val} {e : Ex} (h : (exprT cols e).2 = 0) : exprV cols row (foldX e) = exprV cols row e := by
  have h2 := fold_accepted h
  simp only [exprV]
  by_cases hf : fitsB cols row = true
  · rw [if_pos ⟨h2, hf⟩, if_pos ⟨h, hf⟩]
    obtain ⟨h1, _⟩ := exprT_ok h
    rw [show foldX e = foldE e by simp [foldX, h1]]
    exact (fold_kept cols row e (exprErr_zero h1)).val
  · rw [if_neg (fun hh => hf hh.2), if_neg (fun hh => hf hh.2)]
end Go.Tb
