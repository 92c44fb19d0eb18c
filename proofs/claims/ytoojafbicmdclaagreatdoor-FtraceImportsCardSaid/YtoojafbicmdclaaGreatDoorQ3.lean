import Derived.Test.YtoojafbicmdclaaGreatDoorQ2
import Derived.Recover
import Derived.Laws.Slices
import Derived.RangeFuncLeaves
import Derived.RangeFuncCalls
namespace Go.Tb
open Go.Ab
inductive JV where
  | mk (op n : Int) (s : ByteArray) (keys : List ByteArray) (kids : List JV)
def JV.op : JV → Int | .mk a _ _ _ _ => a
def JV.n : JV → Int | .mk _ a _ _ _ => a
def JV.s : JV → ByteArray | .mk _ _ a _ _ => a
def JV.keys : JV → List ByteArray | .mk _ _ _ a _ => a
def JV.kids : JV → List JV | .mk _ _ _ _ a => a
mutual
def JV.kc : JV → List (List D)
  | .mk _ _ _ _ kids => JV.mP kids
def JV.mP : List JV → List (List D)
  | [] => []
  | e :: r => [ci e.op, ci e.n, cs e.s, .sl (e.keys.map sc), .sl (JV.kc e)] :: JV.mP r
end
@[reducible] def JV.c (e : JV) : List D := [ci e.op, ci e.n, cs e.s, .sl (e.keys.map sc), .sl e.kc]
theorem JV.kF : ∀ l, JV.mP l = l.map JV.c
  | [] => rfl
  | e :: r => by simp [JV.mP, JV.kF r]
theorem JV.sh (e : JV) : e.kc = e.kids.map JV.c := by cases e; simp [JV.kc, JV.kids, JV.kF]
theorem JV.aJ (e : JV) : e.kc.length = e.kids.length := by simp [JV.sh]
theorem JV.ind {p : JV → Prop} (h : ∀ e, (∀ k ∈ e.kids, p k) → p e) : ∀ e, p e := by
  intro e
  induction hn : _root_.SizeOf.sizeOf e using Nat.strongRecOn generalizing e with
  | _ m ih =>
    subst hn
    refine h e fun k hk => ih (_root_.SizeOf.sizeOf k) ?_ k rfl
    cases e with
    | mk op n s keys kids =>
      have := List.sizeOf_lt_of_mem (show k ∈ kids from hk)
      simp; omega
/-! equality -/
mutual
def xI : JV → JV → Bool
  | .mk a b c d e, .mk a' b' c' d' e' => decide (a = a') && (decide (b = b') && (decide (c = c') && (decide (d = d') && lQ e e')))
def lQ : List JV → List JV → Bool
  | [], [] => true
  | x :: l, y :: m => xI x y && lQ l m
  | _, _ => false
end
mutual
theorem rB : ∀ (a b : JV), xI a b = true ↔ a = b
  | .mk a b c d e, .mk a' b' c' d' e' => by
    simp only [xI, Bool.and_eq_true, decide_eq_true_eq, JV.mk.injEq, pr e e']
theorem pr : ∀ (l m : List JV), lQ l m = true ↔ l = m
  | [], [] => by simp [lQ]
  | x :: l, y :: m => by simp only [lQ, Bool.and_eq_true, rB x y, pr l m, List.cons.injEq]
  | [], _ :: _ => by simp [lQ]
  | _ :: _, [] => by simp [lQ]
end
instance : DecidableEq JV := fun a b => decidable_of_iff _ (rB a b)
/-! checking -/
def known (b : UInt8) : Bool := decide (b.toNat = 9) || (decide (b.toNat = 10) || (decide (32 ≤ b.toNat) && decide (b.toNat ≤ 126)))
def gH (s : ByteArray) : Bool := (aQ s).all known
def nK (j : JV) : Bool :=
  if j.op = 1 then decide (j.n = 0) && (decide (j.s = B #[]) && decide (j.keys.length + j.kids.length = 0))
  else if j.op = 2 ∨ j.op = 3 then decide (j.s = B #[]) && decide (j.keys.length + j.kids.length = 0)
  else if j.op = 4 then decide (j.n = 0) && decide (j.keys.length + j.kids.length = 0)
  else if j.op = 5 then decide (j.n = 0) && (decide (j.s = B #[]) && decide (j.keys.length = 0))
  else if j.op = 6 then decide (j.n = 0) && (decide (j.s = B #[]) && decide (j.keys.length = j.kids.length))
  else false
def l9 (seen : List ByteArray) : List ByteArray → Bool
  | [] => false
  | s :: r => if seen.any (fun x => decide (x = s)) then true else l9 (seen ++ [s]) r
def mG (j : JV) (level : Int) : Int :=
  if nK j = false then 1
  else if (j.op = 2 ∧ j.n ≠ 0 ∧ j.n ≠ 1) ∨ (j.op = 3 ∧ fb j.n = false) then 2
  else if gH j.s = false ∨ (j.keys.any fun s => !gH s) = true then 10
  else if l9 [] j.keys = true then 4
  else if 5 ≤ j.op ∧ 16 < level then 20
  else 0
mutual
def iJ : JV → Int → Int
  | .mk op n s keys kids, level => if mG (.mk op n s keys kids) level ≠ 0 then mG (.mk op n s keys kids) level else fy kids (level + 1)
def fy : List JV → Int → Int
  | [], _ => 0
  | k :: r, level => if iJ k level ≠ 0 then iJ k level else fy r level
end
/-! printing -/
def ep (b : UInt8) : List UInt8 := if b = 34 ∨ b = 92 then [92, b] else if b = 10 then [92, 110] else if b = 9 then [92, 116] else [b]
def eO (l : List UInt8) : List UInt8 := 34 :: (l.flatMap ep ++ [34])
def sF : List UInt8 := [110, 117, 108, 108]
def rQ : List UInt8 := [116, 114, 117, 101]
def pg : List UInt8 := [102, 97, 108, 115, 101]
mutual
def bD : JV → List UInt8
  | .mk op n s keys kids =>
    if op = 1 then sF else if op = 2 then (if n = 1 then rQ else pg) else if op = 3 then aQ (br n) else if op = 4 then eO (aQ s)
    else if op = 6 then 123 :: (bP keys kids true ++ [125]) else 91 :: (da kids true ++ [93])
def da : List JV → Bool → List UInt8
  | [], _ => []
  | k :: r, first => (if first then [] else [44]) ++ bD k ++ da r false
def bP : List ByteArray → List JV → Bool → List UInt8
  | s :: keys, k :: r, first => (if first then [] else [44]) ++ eO (aQ s) ++ [58] ++ bD k ++ bP keys r false
  | _, _, _ => []
end
/-! parsing: 'no at why' is a fault -/
inductive PE (α : Type) where
  | ok (x : α) (i : Nat)
  | no (at_ : Nat) (why : Int)
def ns (b : UInt8) : Bool := decide (b.toNat = 32) || (decide (b.toNat = 9) || (decide (b.toNat = 10) || decide (b.toNat = 13)))
def aU (l : List UInt8) (i : Nat) : UInt8 := l.getD i 0
def iW (l : List UInt8) : Nat → Nat → Nat
  | 0, i => i
  | k + 1, i => if i < l.length ∧ ns (aU l i) = true then iW l k (i + 1) else i
def cF (l : List UInt8) (i : Nat) : Nat := iW l (l.length - i) i
def dT (l : List UInt8) (c : UInt8) (i : Nat) : PE Unit := if i < l.length ∧ aU l i = c then .ok () (i + 1) else .no i 10
def e5 (l : List UInt8) : List UInt8 → Nat → PE Unit
  | [], i => .ok () i
  | c :: r, i => match dT l c i with
    | .ok _ j => e5 l r j
    | .no a w => .no a w
def r7 (c : UInt8) : Option Nat :=
  if 48 ≤ c.toNat ∧ c.toNat ≤ 57 then some (c.toNat - 48) else if 97 ≤ (c ||| 32).toNat ∧ (c ||| 32).toNat ≤ 102 then some ((c ||| 32).toNat - 97 + 10) else none
def kT (l : List UInt8) (i : Nat) : PE UInt8 :=
  if aU l i = 34 ∨ aU l i = 92 ∨ aU l i = 47 then .ok (aU l i) (i + 1)
  else if aU l i = 110 then .ok 10 (i + 1)
  else if aU l i = 116 then .ok 9 (i + 1)
  else match e5 l [117, 48, 48] i with
    | .no a w => .no a w
    | .ok _ j => match r7 (aU l j) with
      | none => .no j 10
      | some high => if high = 1 ∨ 7 < high then .no j 10 else match r7 (aU l (j + 1)) with
        | none => .no (j + 1) 10
        | some low => if known (UInt8.ofNat (16 * high + low)) = false then .no (j + 1) 10 else .ok (UInt8.ofNat (16 * high + low)) (j + 2)
def eA (l : List UInt8) : Nat → Nat → List UInt8 → PE (List UInt8)
  | 0, i, _ => .no i 10
  | k + 1, i, acc =>
    if (aU l i).toNat < 32 ∨ 126 < (aU l i).toNat then .no i 10
    else if aU l i = 34 then .ok acc (i + 1)
    else if aU l i = 92 then (match kT l (i + 1) with
      | .no a w => .no a w
      | .ok c j => eA l k j (acc ++ [c]))
    else eA l k (i + 1) (acc ++ [aU l i])
def hJ (l : List UInt8) (i : Nat) : PE (List UInt8) := match dT l 34 i with
  | .no a w => .no a w
  | .ok _ j => eA l (l.length + 1 - j) j []
def jF (l : List UInt8) : Nat → Nat → Nat
  | 0, i => i
  | k + 1, i => if i < l.length ∧ bH (aU l i) = true then jF l k (i + 1) else i
def gW (l : List UInt8) (i : Nat) : Nat := if aU l i = 48 then i + 1 else jF l (l.length - i) i
def lZ (l : List UInt8) (i : Nat) : PE JV :=
  let i1 := if aU l i = 45 then i + 1 else i
  let i2 := gW l i1
  if i2 = i1 then .no i1 10 else
  let t : ByteArray := ⟨((l.drop i).take (i2 - i)).toArray⟩
  let u := if t = B #[45, 48] then B #[48] else t
  if (du u).2 = true then .ok (.mk 3 (du u).1 (B #[]) [] []) i2 else .no i 2
def bytesOf (l : List UInt8) : ByteArray := ⟨l.toArray⟩
mutual
def e9 (l : List UInt8) : Nat → Int → Nat → PE JV
  | 0, _, i => .no i 10
  | k + 1, level, i0 =>
    let i := cF l i0
    let c := aU l i
    if c = 110 then (match e5 l sF i with | .no a w => .no a w | .ok _ j => .ok (.mk 1 0 (B #[]) [] []) j)
    else if c = 116 then (match e5 l rQ i with | .no a w => .no a w | .ok _ j => .ok (.mk 2 1 (B #[]) [] []) j)
    else if c = 102 then (match e5 l pg i with | .no a w => .no a w | .ok _ j => .ok (.mk 2 0 (B #[]) [] []) j)
    else if c = 34 then (match hJ l i with | .no a w => .no a w | .ok t j => .ok (.mk 4 0 (bytesOf t) [] []) j)
    else if c = 91 ∨ c = 123 then
      if 16 < level then .no i 20
      else if c = 91 then jO l k level (i + 1) else jL l k level (i + 1)
    else lZ l i
def jO (l : List UInt8) : Nat → Int → Nat → PE JV
  | 0, _, i => .no i 10
  | k + 1, level, i0 =>
    let i := cF l i0
    if aU l i = 93 then .ok (.mk 5 0 (B #[]) [] []) (i + 1) else fQ l k level i []
def fQ (l : List UInt8) : Nat → Int → Nat → List JV → PE JV
  | 0, _, i, _ => .no i 10
  | k + 1, level, i, acc => match e9 l k (level + 1) i with
    | .no a w => .no a w
    | .ok v j =>
      let j1 := cF l j
      if aU l j1 = 44 then fQ l k level (j1 + 1) (acc ++ [v])
      else match dT l 93 j1 with | .no a w => .no a w | .ok _ j2 => .ok (.mk 5 0 (B #[]) [] (acc ++ [v])) j2
def jL (l : List UInt8) : Nat → Int → Nat → PE JV
  | 0, _, i => .no i 10
  | k + 1, level, i0 =>
    let i := cF l i0
    if aU l i = 125 then .ok (.mk 6 0 (B #[]) [] []) (i + 1) else fM l k level i [] []
def fM (l : List UInt8) : Nat → Int → Nat → List ByteArray → List JV → PE JV
  | 0, _, i, _, _ => .no i 10
  | k + 1, level, i0, keys, acc =>
    let i := cF l i0
    match hJ l i with
    | .no a w => .no a w
    | .ok t j =>
      if keys.any (fun x => decide (x = bytesOf t)) then .no i 4 else
      match dT l 58 (cF l j) with
      | .no a w => .no a w
      | .ok _ j1 => match e9 l k (level + 1) j1 with
        | .no a w => .no a w
        | .ok v j2 =>
          let j3 := cF l j2
          if aU l j3 = 44 then fM l k level (j3 + 1) (keys ++ [bytesOf t]) (acc ++ [v])
          else match dT l 125 j3 with | .no a w => .no a w | .ok _ j4 => .ok (.mk 6 0 (B #[]) (keys ++ [bytesOf t]) (acc ++ [v])) j4
end
end Go.Tb
namespace Go.Tb
open Go.Ab
/-! a text from a position on -/
theorem bw {l : List UInt8} {i : Nat} {a : UInt8} {r : List UInt8} (h : l.drop i = a :: r) : i < l.length ∧ aU l i = a ∧ l.drop (i + 1) = r := by
  have hlt : i < l.length := by
    rcases Nat.lt_or_ge i l.length with h1 | h1
    · exact h1
    · rw [List.drop_eq_nil_of_le h1] at h; cases h
  rw [List.drop_eq_getElem_cons hlt] at h
  injection h with h1 h2
  refine ⟨hlt, ?_, h2⟩
  unfold aU
  rw [List.getD_eq_getElem?_getD, List.getElem?_eq_getElem hlt]
  exact h1
theorem kH {l x r : List UInt8} {i : Nat} (h : l.drop i = x ++ r) : l.drop (i + x.length) = r := by
  rw [← List.drop_drop, h, List.drop_append_of_le_length (Nat.le_refl _), List.drop_length, List.nil_append]
theorem pa {l : List UInt8} {i : Nat} (h : l.length ≤ i) : aU l i = 0 := by
  unfold aU
  rw [List.getD_eq_getElem?_getD, List.getElem?_eq_none h]; rfl
theorem ec {l : List UInt8} {i : Nat} : aU l i = (l.drop i).headD 0 := by
  rcases Nat.lt_or_ge i l.length with h1 | h1
  · rw [List.drop_eq_getElem_cons h1]
    unfold aU
    rw [List.getD_eq_getElem?_getD, List.getElem?_eq_getElem h1]; rfl
  · rw [pa h1, List.drop_eq_nil_of_le h1]; rfl
/-! white space -/
theorem sr {l : List UInt8} {i : Nat} (h : ns (aU l i) = false) : ∀ k, iW l k i = i
  | 0 => rfl
  | k + 1 => by simp only [iW]; rw [if_neg (by simp [h])]
theorem cE {l : List UInt8} {i : Nat} (h : ns (aU l i) = false) : cF l i = i := sr h _
theorem qk (l : List UInt8) : ∀ (k i : Nat), i ≤ iW l k i
  | 0, _ => Nat.le_refl _
  | k + 1, i => by
    simp only [iW]
    split
    · exact Nat.le_trans (Nat.le_succ i) (qk l k (i + 1))
    · exact Nat.le_refl _
theorem pP (l : List UInt8) : ∀ (k i : Nat), i ≤ l.length → iW l k i ≤ l.length
  | 0, _, h => h
  | k + 1, i, h => by
    simp only [iW]
    split
    · rename_i q; exact pP l k (i + 1) q.1
    · exact h
theorem cO (l : List UInt8) (i : Nat) : i ≤ cF l i := qk l _ i
theorem dm {l : List UInt8} {i : Nat} (h : i ≤ l.length) : cF l i ≤ l.length := pP l _ i h
/-! words and texts -/
theorem iN {l : List UInt8} {i : Nat} {a : UInt8} {r : List UInt8} (h : l.drop i = a :: r) : dT l a i = .ok () (i + 1) := by
  obtain ⟨h1, h2, _⟩ := bw h
  unfold dT
  rw [if_pos ⟨h1, h2⟩]
theorem jN {l : List UInt8} : ∀ {x : List UInt8} {i : Nat} {r : List UInt8}, l.drop i = x ++ r → e5 l x i = .ok () (i + x.length)
  | [], i, r, _ => rfl
  | a :: x, i, r, h => by
    obtain ⟨h1, h2, h3⟩ := bw h
    simp only [e5, iN h]
    rw [jN h3, List.length_cons]
    congr 1; omega
theorem qB {b : UInt8} (h : known b = true) : b = 9 ∨ b = 10 ∨ (32 ≤ b.toNat ∧ b.toNat ≤ 126) := by
  unfold known at h
  simp only [Bool.or_eq_true, Bool.and_eq_true, decide_eq_true_eq] at h
  rcases h with h | h | h
  · exact .inl (UInt8.toNat_inj.1 h)
  · exact .inr (.inl (UInt8.toNat_inj.1 h))
  · exact .inr (.inr h)
theorem nV {l : List UInt8} : ∀ {t : List UInt8} {k i : Nat} {acc r : List UInt8}, (∀ b ∈ t, known b = true) → l.drop i = t.flatMap ep ++ 34 :: r → t.length + 1 ≤ k → eA l k i acc = .ok (acc ++ t) (i + (t.flatMap ep).length + 1)
  | [], k, i, acc, r, _, h, hk => by
    obtain ⟨k, rfl⟩ : ∃ k', k = k' + 1 := ⟨k - 1, by simp at hk; omega⟩
    obtain ⟨h1, h2, h3⟩ := bw (show l.drop i = 34 :: r from h)
    unfold eA
    rw [h2, if_neg (by decide), if_pos rfl]
    simp
  | b :: t, k, i, acc, r, hp, h, hk => by
    obtain ⟨k, rfl⟩ : ∃ k', k = k' + 1 := ⟨k - 1, by simp at hk; omega⟩
    have hb := qB (hp b (List.mem_cons_self ..))
    have ih := fun i' acc' h' => nV (l := l) (t := t) (k := k) (i := i') (acc := acc') (r := r) (fun x hx => hp x (List.mem_cons_of_mem _ hx)) h' (by simp at hk; omega)
    have e : (b :: t).flatMap ep = ep b ++ t.flatMap ep := rfl
    rw [e, List.append_assoc] at h
    have hesc : ∀ (c d : UInt8), ep b = [92, c] → (∀ j, aU l j = c → kT l j = .ok d (j + 1)) → d = b → eA l (k + 1) i acc = .ok (acc ++ b :: t) (i + ((b :: t).flatMap ep).length + 1) := by
      intro c d he hj hd
      subst hd
      rw [he] at h
      obtain ⟨h1, h2, h3⟩ := bw (show l.drop i = 92 :: (c :: (t.flatMap ep ++ 34 :: r)) from h)
      obtain ⟨h4, h5, h6⟩ := bw h3
      unfold eA
      rw [h2, if_neg (by decide), if_neg (by decide), if_pos rfl, hj _ h5]
      dsimp only
      rw [ih _ _ h6, e, he]
      simp
      omega
    by_cases q1 : b = 34 ∨ b = 92
    · refine hesc b b (by unfold ep; rw [if_pos q1]) (fun j hj => ?_) rfl
      unfold kT
      rw [if_pos (by rw [hj]; rcases q1 with q | q; exact .inl q; exact .inr (.inl q)), hj]
    by_cases q2 : b = 10
    · refine hesc 110 10 (by unfold ep; rw [if_neg q1, if_pos q2]) (fun j hj => ?_) q2.symm
      unfold kT
      rw [hj, if_neg (by decide), if_pos rfl]
    by_cases q3 : b = 9
    · refine hesc 116 9 (by unfold ep; rw [if_neg q1, if_neg q2, if_pos q3]) (fun j hj => ?_) q3.symm
      unfold kT
      rw [hj, if_neg (by decide), if_neg (by decide), if_pos rfl]
    have he : ep b = [b] := by unfold ep; rw [if_neg q1, if_neg q2, if_neg q3]
    have hr : 32 ≤ b.toNat ∧ b.toNat ≤ 126 := by
      rcases hb with h | h | h
      · exact absurd h q3
      · exact absurd h q2
      · exact h
    rw [he] at h
    obtain ⟨h1, h2, h3⟩ := bw (show l.drop i = b :: (t.flatMap ep ++ 34 :: r) from h)
    unfold eA
    rw [h2, if_neg (by omega), if_neg (fun q => q1 (.inl q)), if_neg (fun q => q1 (.inr q)), ih _ _ h3, e, he]
    simp
    omega
theorem oQ {l : List UInt8} {t : List UInt8} {i : Nat} {r : List UInt8} (hp : ∀ b ∈ t, known b = true) (h : l.drop i = eO t ++ r) : hJ l i = .ok t (i + (eO t).length) := by
  have h' : l.drop i = 34 :: (t.flatMap ep ++ 34 :: r) := by rw [h]; simp [eO]
  obtain ⟨h1, h2, h3⟩ := bw h'
  unfold hJ
  rw [iN h']
  dsimp only
  have hlen : t.length ≤ (t.flatMap ep).length := by
    clear h h' h3
    induction t with
    | nil => simp
    | cons a t ih =>
      have : 1 ≤ (ep a).length := by unfold ep; split <;> (try split) <;> (try split) <;> simp
      have := ih fun b hb => hp b (List.mem_cons_of_mem _ hb)
      simp only [List.flatMap_cons, List.length_append, List.length_cons]
      omega
  have hl : (l.drop (i + 1)).length = l.length - (i + 1) := List.length_drop ..
  rw [h3] at hl
  simp only [List.length_append, List.length_cons] at hl
  rw [nV hp h3 (by omega)]
  simp [eO]
  omega
end Go.Tb
namespace Go.Tb
open Go.Ab
theorem jm (s : ByteArray) : bytesOf (aQ s) = s := by cases s; rfl
/-! numbers -/
theorem ui : ∀ u, (bO u).headD 0 = 48 → u = 0 := by
  refine gl (fun u h hz => ?_) (fun u h ih hz => ?_)
  · rw [b5 h] at hz
    have h1 : (UInt8.ofNat (48 + u)).toNat = 48 := by
      have : (UInt8.ofNat (48 + u)) = 48 := hz
      rw [this]; rfl
    rw [UInt8.toNat_ofNat'] at h1
    omega
  · rw [dO h] at hz
    have hne := eb (u / 10)
    have : (bO (u / 10)).headD 0 = 48 := by
      cases hd : bO (u / 10) with
      | nil => exact absurd hd hne
      | cons a r => rw [hd] at hz; exact hz
    have := ih this
    omega
theorem rC {l : List UInt8} : ∀ {x : List UInt8} {k i : Nat} {r : List UInt8}, l.drop i = x ++ r → (∀ b ∈ x, bH b = true) → bH (r.headD 0) = false → x.length ≤ k → jF l k i = i + x.length
  | [], k, i, r, h, _, hr, _ => by
    have hh : aU l i = r.headD 0 := by rw [ec, h]; rfl
    cases k with
    | zero => rfl
    | succ k => simp only [jF]; rw [if_neg (by rw [hh, hr]; simp)]; rfl
  | a :: x, k, i, r, h, hd, hr, hk => by
    obtain ⟨k, rfl⟩ : ∃ k', k = k' + 1 := ⟨k - 1, by simp at hk; omega⟩
    obtain ⟨h1, h2, h3⟩ := bw h
    simp only [jF]
    rw [if_pos ⟨h1, by rw [h2]; exact hd a (List.mem_cons_self ..)⟩, rC h3 (fun b hb => hd b (List.mem_cons_of_mem _ hb)) hr (by simp at hk; omega), List.length_cons]
    omega
theorem r8 {u : Nat} : bH ((bO u).headD 0) = true := by
  cases hd : bO u with
  | nil => exact absurd hd (eb u)
  | cons a r => exact er u a (by rw [hd]; exact List.mem_cons_self ..)
theorem qo {l : List UInt8} {u i : Nat} {r : List UInt8} (h : l.drop i = bO u ++ r) (hr : bH (r.headD 0) = false) : gW l i = i + (bO u).length := by
  have hh : aU l i = (bO u).headD 0 := by
    rw [ec, h]
    cases hd : bO u with
    | nil => exact absurd hd (eb u)
    | cons a x => rfl
  unfold gW
  by_cases q : aU l i = 48
  · rw [if_pos q]
    have := ui u (by rw [← hh]; exact q)
    subst this
    rw [b5 (by decide)]; rfl
  · rw [if_neg q]
    refine rC h (er u) hr ?_
    have : (l.drop i).length = l.length - i := List.length_drop ..
    rw [h, List.length_append] at this
    omega
theorem qE {b : UInt8} (h : bH b = true) : b ≠ 45 := by rintro rfl; exact absurd h (by decide)
theorem xD {l : List UInt8} {n : Int} {i : Nat} {r : List UInt8} (hn : fb n = true) (h : l.drop i = aQ (br n) ++ r) (hr : bH (r.headD 0) = false) : lZ l i = .ok (.mk 3 n (B #[]) [] []) (i + (aQ (br n)).length) := by
  have hb : aQ (br n) = Lib.itoa n := dL n
  have key : ∀ i1 i2, (if aU l i = 45 then i + 1 else i) = i1 → gW l i1 = i2 → i2 ≠ i1 → i2 = i + (aQ (br n)).length → lZ l i = .ok (.mk 3 n (B #[]) [] []) (i + (aQ (br n)).length) := by
    intro i1 i2 h1 h2 h3 h4
    unfold lZ
    rw [h1]
    dsimp only
    rw [h2, if_neg h3]
    have ht : (⟨((l.drop i).take (i2 - i)).toArray⟩ : ByteArray) = br n := by
      rw [h4, Nat.add_sub_cancel_left, h, List.take_append_of_le_length (Nat.le_refl _), List.take_length]
      exact jm (br n)
    have hq : ¬ br n = B #[45, 48] := fun q => by
      have h5 := mg hn
      rw [q] at h5
      exact absurd h5 (by
        have : du (B #[45, 48]) = (0, false) := by decide +kernel
        rw [this]; simp)
    rw [ht]
    simp only [if_neg hq]
    rw [mg hn, if_pos rfl, h4]
  rcases Int.lt_or_le n 0 with h0 | h0
  · rw [hb, fY h0] at h
    obtain ⟨h1, h2, h3⟩ := bw (show l.drop i = 45 :: (bO n.natAbs ++ r) from h)
    have hd := qo h3 hr
    have hp := List.length_pos_iff.2 (eb n.natAbs)
    exact key (i + 1) _ (if_pos h2) hd (by omega) (by rw [hb, fY h0, List.length_cons]; omega)
  · rw [hb, dP h0] at h
    have hd := qo h hr
    have hp := List.length_pos_iff.2 (eb n.toNat)
    have hh : aU l i = (bO n.toNat).headD 0 := by
      rw [ec, h]
      cases hd : bO n.toNat with
      | nil => exact absurd hd (eb _)
      | cons a x => rfl
    refine key i _ (if_neg (by rw [hh]; exact qE r8)) hd (by omega) (by rw [hb, dP h0])
/-! what a valid node is -/
theorem pL {j : JV} {level : Int} (h : mG j level = 0) : nK j = true ∧ ¬ ((j.op = 2 ∧ j.n ≠ 0 ∧ j.n ≠ 1) ∨ (j.op = 3 ∧ fb j.n = false)) ∧ gH j.s = true ∧ (∀ s ∈ j.keys, gH s = true) ∧ l9 [] j.keys = false ∧ (5 ≤ j.op → level ≤ 16) := by
  unfold mG at h
  split at h
  · cases h
  · rename_i h1
    split at h
    · cases h
    · rename_i h2
      split at h
      · cases h
      · rename_i h3
        split at h
        · cases h
        · rename_i h4
          split at h
          · cases h
          · rename_i h5
            refine ⟨by simpa using h1, h2, ?_, fun s hs => ?_, by simpa using h4, fun q => by omega⟩
            · by_cases q : gH j.s = true
              · exact q
              · exact absurd (.inl (by simpa using q)) h3
            · by_cases q : gH s = true
              · exact q
              · exact absurd (.inr (List.any_eq_true.2 ⟨s, hs, by simpa using q⟩)) h3
theorem lD {s : ByteArray} (h : gH s = true) : ∀ b ∈ aQ s, known b = true := List.all_eq_true.1 h
theorem hU {α β : Type} {a : List α} {b : List β} (h : a.length + b.length = 0) : a = [] ∧ b = [] := ⟨List.length_eq_zero_iff.1 (by omega), List.length_eq_zero_iff.1 (by omega)⟩
/-! the first byte of a printed value -/
theorem lF (j : JV) (level : Int) (h : iJ j level = 0) : ∃ a r, bD j = a :: r ∧ ns a = false := by
  obtain ⟨op, n, s, keys, kids⟩ := j
  simp only [bD]
  split
  · exact ⟨_, _, rfl, by decide⟩
  · split
    · split
      · exact ⟨_, _, rfl, by decide⟩
      · exact ⟨_, _, rfl, by decide⟩
    · split
      · rcases Int.lt_or_le n 0 with h0 | h0
        · exact ⟨45, bO n.natAbs, by rw [show aQ (br n) = Lib.itoa n from dL n, fY h0], by decide⟩
        · rw [show aQ (br n) = Lib.itoa n from dL n, dP h0]
          cases hd : bO n.toNat with
          | nil => exact absurd hd (eb _)
          | cons a r =>
            refine ⟨a, r, rfl, ?_⟩
            have h1 := er n.toNat a (by rw [hd]; exact List.mem_cons_self ..)
            unfold bH at h1
            simp only [Bool.and_eq_true, decide_eq_true_eq] at h1
            unfold ns
            simp only [Bool.or_eq_false_iff, decide_eq_false_iff_not]
            omega
      · split
        · exact ⟨34, _, rfl, by decide⟩
        · split
          · exact ⟨123, _, rfl, by decide⟩
          · exact ⟨91, _, rfl, by decide⟩
end Go.Tb
namespace Go.Tb
open Go.Ab
theorem fe (x : JV) (r : List JV) (first : Bool) : da (x :: r) first = (if first then [] else [44]) ++ bD x ++ da r false := by simp [da]
theorem ez (s : ByteArray) (keys : List ByteArray) (x : JV) (r : List JV) (first : Bool) : bP (s :: keys) (x :: r) first = (if first then [] else [44]) ++ eO (aQ s) ++ [58] ++ bD x ++ bP keys r false := by simp [bP]
theorem tQ {seen : List ByteArray} {s : ByteArray} {r : List ByteArray} : l9 seen (s :: r) = false ↔ seen.any (fun x => decide (x = s)) = false ∧ l9 (seen ++ [s]) r = false := by
  simp only [l9]
  cases seen.any (fun x => decide (x = s)) <;> simp
theorem iu {k : JV} {r : List JV} {level : Int} (h : fy (k :: r) level = 0) : iJ k level = 0 ∧ fy r level = 0 := by
  simp only [fy] at h
  split at h
  · rename_i q; exact absurd h q
  · rename_i q; exact ⟨by simpa using q, h⟩
theorem tD {op n : Int} {s : ByteArray} {keys : List ByteArray} {kids : List JV} {level : Int} (h : iJ (.mk op n s keys kids) level = 0) : mG (.mk op n s keys kids) level = 0 ∧ fy kids (level + 1) = 0 := by
  simp only [iJ] at h
  split at h
  · rename_i q; exact absurd h q
  · rename_i q; exact ⟨by simpa using q, h⟩
theorem rP (op n : Int) (s : ByteArray) (keys : List ByteArray) (kids : List JV) : nK (.mk op n s keys kids) =
  (if op = 1 then decide (n = 0) && (decide (s = B #[]) && decide (keys.length + kids.length = 0))
  else if op = 2 ∨ op = 3 then decide (s = B #[]) && decide (keys.length + kids.length = 0)
  else if op = 4 then decide (n = 0) && decide (keys.length + kids.length = 0)
  else if op = 5 then decide (n = 0) && (decide (s = B #[]) && decide (keys.length = 0))
  else if op = 6 then decide (n = 0) && (decide (s = B #[]) && decide (keys.length = kids.length))
  else false) := rfl
def vL (v : JV) : Prop := ∀ (level : Int), iJ v level = 0 → ∀ (l : List UInt8) (i k : Nat) (r : List UInt8), l.drop i = bD v ++ r → bH (r.headD 0) = false → 3 * (bD v).length + 1 ≤ k → e9 l k level i = .ok v (i + (bD v).length)
theorem mO {level : Int} {l : List UInt8} {r : List UInt8} : ∀ (kids : List JV), (∀ x ∈ kids, vL x) → fy kids (level + 1) = 0 → kids ≠ [] → ∀ (i k : Nat) (acc : List JV), l.drop i = da kids true ++ 93 :: r → 3 * ((da kids true).length + 1) ≤ k →
    fQ l k level i acc = .ok (.mk 5 0 (B #[]) [] (acc ++ kids)) (i + (da kids true).length + 1)
  | [], _, _, hne, _, _, _, _, _ => absurd rfl hne
  | x :: kids, hb, hc, _, i, k, acc, h, hk => by
    obtain ⟨hc1, hc2⟩ := iu hc
    rw [fe] at h hk ⊢
    simp only [if_true, List.nil_append, List.append_assoc] at h
    simp only [if_true, List.nil_append, List.length_append] at hk ⊢
    obtain ⟨k, rfl⟩ : ∃ k', k = k' + 1 := ⟨k - 1, by omega⟩
    have hd : bH ((da kids false ++ 93 :: r).headD 0) = false := by
      cases kids with
      | nil => rfl
      | cons y kids => rw [fe]; rfl
    have hv := hb x (List.mem_cons_self ..) (level + 1) hc1 l i k _ h hd (by omega)
    have h2 := kH h
    unfold fQ
    rw [hv]
    dsimp only
    cases kids with
    | nil =>
      have h2' : l.drop (i + (bD x).length) = 93 :: r := h2
      obtain ⟨h3, h4, h5⟩ := bw h2'
      rw [cE (by rw [h4]; decide), h4, if_neg (by decide), iN h2']
      simp [da]
    | cons y kids =>
      have e : da (y :: kids) false = 44 :: da (y :: kids) true := by rw [fe, fe]; simp
      rw [e] at h2 hk ⊢
      obtain ⟨h3, h4, h5⟩ := bw (show l.drop (i + (bD x).length) = 44 :: (da (y :: kids) true ++ 93 :: r) from h2)
      rw [cE (by rw [h4]; decide), h4, if_pos rfl]
      have := mO (y :: kids) (fun z hz => hb z (List.mem_cons_of_mem _ hz)) hc2 (by simp) (i + (bD x).length + 1) k (acc ++ [x]) h5 (by simp only [List.length_cons] at hk; omega)
      rw [this]
      simp only [List.append_assoc, List.cons_append, List.nil_append, List.length_cons, PE.ok.injEq, true_and]
      omega
theorem kY {level : Int} {l : List UInt8} {r : List UInt8} : ∀ (keys : List ByteArray) (kids : List JV), keys.length = kids.length → (∀ s ∈ keys, gH s = true) → (∀ x ∈ kids, vL x) → fy kids (level + 1) = 0 → kids ≠ [] →
    ∀ (i k : Nat) (seen : List ByteArray) (acc : List JV), l9 seen keys = false → l.drop i = bP keys kids true ++ 125 :: r → 3 * ((bP keys kids true).length + 1) ≤ k →
    fM l k level i seen acc = .ok (.mk 6 0 (B #[]) (seen ++ keys) (acc ++ kids)) (i + (bP keys kids true).length + 1)
  | _, [], _, _, _, _, hne, _, _, _, _, _, _, _ => absurd rfl hne
  | [], _ :: _, hl, _, _, _, _, _, _, _, _, _, _, _ => by simp at hl
  | s :: keys, x :: kids, hl, hp, hb, hc, _, i, k, seen, acc, hr, h, hk => by
    obtain ⟨hc1, hc2⟩ := iu hc
    obtain ⟨hr1, hr2⟩ := tQ.1 hr
    rw [ez] at h hk ⊢
    simp only [if_true, List.nil_append, List.append_assoc, List.cons_append] at h
    simp only [if_true, List.nil_append, List.length_append, List.length_cons, List.length_nil] at hk ⊢
    obtain ⟨k, rfl⟩ : ∃ k', k = k' + 1 := ⟨k - 1, by omega⟩
    have hq : aU l i = 34 := by
      rw [ec, h]; rfl
    have ht := oQ (lD (hp s (List.mem_cons_self ..))) h
    have h2 := kH h
    obtain ⟨h3, h4, h5⟩ := bw h2
    have hd : bH ((bP keys kids false ++ 125 :: r).headD 0) = false := by
      cases keys with
      | nil => simp [bP]; decide
      | cons t keys =>
        cases kids with
        | nil => simp [bP]; decide
        | cons y kids => rw [ez]; rfl
    have hv := hb x (List.mem_cons_self ..) (level + 1) hc1 l _ k _ h5 hd (by omega)
    have h6 := kH h5
    unfold fM
    dsimp only
    rw [cE (by rw [hq]; decide), ht]
    dsimp only
    rw [jm, if_neg (by rw [hr1]; simp), cE (by rw [h4]; decide), iN h2]
    dsimp only
    rw [hv]
    dsimp only
    cases kids with
    | nil =>
      have hkz : keys = [] := List.length_eq_zero_iff.1 (by simpa using hl)
      subst hkz
      have h7 : l.drop (i + (eO (aQ s)).length + 1 + (bD x).length) = 125 :: r := by rw [h6]; rfl
      obtain ⟨h8, h9, _⟩ := bw h7
      rw [cE (by rw [h9]; decide), h9, if_neg (by decide), iN h7]
      simp [bP]
      omega
    | cons y kids =>
      cases keys with
      | nil => simp at hl
      | cons t keys =>
        have e : bP (t :: keys) (y :: kids) false = 44 :: bP (t :: keys) (y :: kids) true := by rw [ez, ez]; simp
        rw [e] at h6 hk ⊢
        obtain ⟨h8, h9, h10⟩ := bw (show l.drop (i + (eO (aQ s)).length + 1 + (bD x).length) = 44 :: (bP (t :: keys) (y :: kids) true ++ 125 :: r) from h6)
        rw [cE (by rw [h9]; decide), h9, if_pos rfl]
        have := kY (t :: keys) (y :: kids) (by simpa using hl) (fun z hz => hp z (List.mem_cons_of_mem _ hz)) (fun z hz => hb z (List.mem_cons_of_mem _ hz)) hc2 (by simp) _ k (seen ++ [s]) (acc ++ [x]) hr2 h10 (by simp only [List.length_cons] at hk; omega)
        rw [this]
        simp only [List.append_assoc, List.cons_append, List.nil_append, List.length_cons, PE.ok.injEq, true_and]
        omega
theorem back : ∀ v, vL v := by
  refine JV.ind fun v ih => ?_
  obtain ⟨op, n, s, keys, kids⟩ := v
  intro level hc l i k r h hr hk
  obtain ⟨hn, hcs⟩ := tD hc
  obtain ⟨hf, hrange, hpl, hkeys, hrep, hlev⟩ := pL hn
  simp only [JV.op, JV.n, JV.s, JV.keys] at hrange hpl hkeys hrep hlev
  obtain ⟨k, rfl⟩ : ∃ k', k = k' + 1 := ⟨k - 1, by omega⟩
  obtain ⟨a, q, hpa, hws⟩ := lF _ level hc
  have hhere : aU l i = a := by rw [ec, h, hpa]; rfl
  have hskip : cF l i = i := cE (by rw [hhere]; exact hws)
  unfold e9
  dsimp only
  rw [hskip]
  rw [rP] at hf
  by_cases o1 : op = 1
  · subst o1
    rw [if_pos rfl] at hf
    simp only [Bool.and_eq_true, decide_eq_true_eq] at hf
    obtain ⟨rfl, rfl, hz⟩ := hf
    obtain ⟨rfl, rfl⟩ := hU hz
    have hp : bD (.mk 1 0 (B #[]) [] []) = sF := by simp [bD]
    rw [hp] at h ⊢
    rw [(bw (show l.drop i = 110 :: ([117, 108, 108] ++ r) from h)).2.1, if_pos rfl, jN h]
  by_cases o2 : op = 2
  · subst o2
    rw [if_neg (show ¬ (2 : Int) = 1 by decide), if_pos (.inl rfl)] at hf
    simp only [Bool.and_eq_true, decide_eq_true_eq] at hf
    obtain ⟨rfl, hz⟩ := hf
    obtain ⟨rfl, rfl⟩ := hU hz
    by_cases n1 : n = 1
    · subst n1
      have hp : bD (.mk 2 1 (B #[]) [] []) = rQ := by simp [bD]
      rw [hp] at h ⊢
      rw [(bw (show l.drop i = 116 :: ([114, 117, 101] ++ r) from h)).2.1, if_neg (by decide), if_pos rfl, jN h]
    · have n0 : n = 0 := by
        by_cases z : n = 0
        · exact z
        · exact absurd (.inl ⟨rfl, z, n1⟩) hrange
      subst n0
      have hp : bD (.mk 2 0 (B #[]) [] []) = pg := by simp [bD]
      rw [hp] at h ⊢
      rw [(bw (show l.drop i = 102 :: ([97, 108, 115, 101] ++ r) from h)).2.1, if_neg (by decide), if_neg (by decide), if_pos rfl, jN h]
  by_cases o3 : op = 3
  · subst o3
    rw [if_neg (show ¬ (3 : Int) = 1 by decide), if_pos (.inr rfl)] at hf
    simp only [Bool.and_eq_true, decide_eq_true_eq] at hf
    obtain ⟨rfl, hz⟩ := hf
    obtain ⟨rfl, rfl⟩ := hU hz
    have hin : fb n = true := by
      by_cases z : fb n = true
      · exact z
      · exact absurd (.inr ⟨rfl, by simpa using z⟩) hrange
    have hp : bD (.mk 3 n (B #[]) [] []) = aQ (br n) := by simp [bD]
    rw [hp] at h hpa ⊢
    have hnum := xD hin h hr
    have ha : bH a = true ∨ a = 45 := by
      have hb : aQ (br n) = Lib.itoa n := dL n
      rw [hb] at hpa
      rcases Int.lt_or_le n 0 with h0 | h0
      · rw [fY h0] at hpa; injection hpa with h1 _; exact .inr h1.symm
      · rw [dP h0] at hpa
        exact .inl (er n.toNat a (by rw [hpa]; exact List.mem_cons_self ..))
    have hne : a ≠ 110 ∧ a ≠ 116 ∧ a ≠ 102 ∧ a ≠ 34 ∧ a ≠ 91 ∧ a ≠ 123 := by
      rcases ha with ha | ha
      · refine ⟨?_, ?_, ?_, ?_, ?_, ?_⟩ <;> (rintro rfl; exact absurd ha (by decide))
      · subst ha; decide
    rw [hhere, if_neg hne.1, if_neg hne.2.1, if_neg hne.2.2.1, if_neg hne.2.2.2.1, if_neg (by rintro (z | z); exact hne.2.2.2.2.1 z; exact hne.2.2.2.2.2 z), hnum]
  by_cases o4 : op = 4
  · subst o4
    rw [if_neg (by decide), if_neg (by decide), if_pos rfl] at hf
    simp only [Bool.and_eq_true, decide_eq_true_eq] at hf
    obtain ⟨rfl, hz⟩ := hf
    obtain ⟨rfl, rfl⟩ := hU hz
    have hp : bD (.mk 4 0 s [] []) = eO (aQ s) := by simp [bD]
    rw [hp] at h ⊢
    have ht := oQ (lD hpl) h
    rw [show aU l i = 34 by rw [ec, h]; rfl, if_neg (by decide), if_neg (by decide), if_neg (by decide), if_pos rfl, ht]
    dsimp only
    rw [jm]
  by_cases o5 : op = 5
  · subst o5
    rw [if_neg (by decide), if_neg (by decide), if_neg (by decide), if_pos rfl] at hf
    simp only [Bool.and_eq_true, decide_eq_true_eq] at hf
    obtain ⟨rfl, rfl, hz⟩ := hf
    have hkz := List.length_eq_zero_iff.1 hz
    subst hkz
    have hp : bD (.mk 5 0 (B #[]) [] kids) = 91 :: (da kids true ++ [93]) := by simp [bD]
    rw [hp] at h hk ⊢
    simp only [List.length_cons, List.length_append, List.length_nil] at hk ⊢
    have hl := hlev (by decide)
    obtain ⟨h1, h2, h3⟩ := bw (show l.drop i = 91 :: (da kids true ++ [93] ++ r) by rw [h]; simp)
    rw [h2, if_neg (by decide), if_neg (by decide), if_neg (by decide), if_neg (by decide), if_pos (.inl rfl), if_neg (by omega), if_pos rfl]
    obtain ⟨k, rfl⟩ : ∃ k', k = k' + 1 := ⟨k - 1, by omega⟩
    unfold jO
    dsimp only
    cases kids with
    | nil =>
      obtain ⟨h4, h5, h6⟩ := bw (show l.drop (i + 1) = 93 :: r by rw [h3]; rfl)
      rw [cE (by rw [h5]; decide), h5, if_pos rfl]
      simp [da]
    | cons x kids =>
      obtain ⟨hc1, hc2⟩ := iu hcs
      obtain ⟨b, t, hb, hbw⟩ := lF x (level + 1) hc1
      have hh : aU l (i + 1) = b := by rw [ec, h3, fe]; simp [hb]
      have hb93 : b ≠ 93 := by
        rintro rfl
        have := ih x (List.mem_cons_self ..) (level + 1) hc1 (bD x) 0 (3 * (bD x).length + 1) [] (by simp) rfl (Nat.le_refl _)
        rw [hb] at this
        simp only [e9] at this
        rw [cE (by show ns 93 = false; decide)] at this
        simp [aU, lZ, gW, jF, bH] at this
      rw [cE (by rw [hh]; exact hbw), hh, if_neg hb93]
      have h3' : l.drop (i + 1) = da (x :: kids) true ++ 93 :: r := by rw [h3]; simp
      rw [mO (x :: kids) (fun z hz => ih z hz) hcs (by simp) (i + 1) k [] h3' (by omega)]
      simp only [List.nil_append, PE.ok.injEq, true_and]
      omega
  by_cases o6 : op = 6
  · subst o6
    rw [if_neg (by decide), if_neg (by decide), if_neg (by decide), if_neg (by decide), if_pos rfl] at hf
    simp only [Bool.and_eq_true, decide_eq_true_eq] at hf
    obtain ⟨rfl, rfl, hz⟩ := hf
    have hp : bD (.mk 6 0 (B #[]) keys kids) = 123 :: (bP keys kids true ++ [125]) := by simp [bD]
    rw [hp] at h hk ⊢
    simp only [List.length_cons, List.length_append, List.length_nil] at hk ⊢
    have hl := hlev (by decide)
    obtain ⟨h1, h2, h3⟩ := bw (show l.drop i = 123 :: (bP keys kids true ++ [125] ++ r) by rw [h]; simp)
    rw [h2, if_neg (by decide), if_neg (by decide), if_neg (by decide), if_neg (by decide), if_pos (.inr rfl), if_neg (by omega), if_neg (by decide)]
    obtain ⟨k, rfl⟩ : ∃ k', k = k' + 1 := ⟨k - 1, by omega⟩
    unfold jL
    dsimp only
    cases kids with
    | nil =>
      have hkz := List.length_eq_zero_iff.1 hz
      subst hkz
      obtain ⟨h4, h5, h6⟩ := bw (show l.drop (i + 1) = 125 :: r by rw [h3]; simp [bP])
      rw [cE (by rw [h5]; decide), h5, if_pos rfl]
      simp [bP]
    | cons x kids =>
      cases keys with
      | nil => simp at hz
      | cons t keys =>
        have hh : aU l (i + 1) = 34 := by rw [ec, h3, ez]; simp [eO]
        rw [cE (by rw [hh]; decide), hh, if_neg (by decide)]
        have h3' : l.drop (i + 1) = bP (t :: keys) (x :: kids) true ++ 125 :: r := by rw [h3]; simp
        rw [kY (t :: keys) (x :: kids) hz hkeys (fun z hz => ih z hz) hcs (by simp) (i + 1) k [] [] hrep h3' (by omega)]
        simp only [List.nil_append, PE.ok.injEq, true_and]
        omega
  · rw [if_neg o1, if_neg (show ¬ (op = 2 ∨ op = 3) by rintro (z | z); exact o2 z; exact o3 z), if_neg o4, if_neg o5, if_neg o6] at hf
    cases hf
end Go.Tb
namespace Go.Tb
open Go.Ab
/-! positions -/
def Bd {α : Type} (l : List UInt8) (i : Nat) : PE α → Prop
  | .ok _ j => i < j ∧ j ≤ l.length
  | .no a _ => i ≤ a ∧ a ≤ l.length
theorem fZ {l : List UInt8} {c : UInt8} {i : Nat} (h : i ≤ l.length) : Bd l i (dT l c i) := by
  unfold dT
  split
  · rename_i q; exact ⟨Nat.lt_succ_self _, q.1⟩
  · exact ⟨Nat.le_refl _, h⟩
theorem lT {l : List UInt8} : ∀ {x : List UInt8} {i : Nat}, i ≤ l.length → (match e5 l x i with | .ok _ j => j = i + x.length ∧ j ≤ l.length | .no a _ => i ≤ a ∧ a ≤ l.length)
  | [], i, h => ⟨rfl, h⟩
  | c :: x, i, h => by
    simp only [e5]
    have h1 := fZ (c := c) h
    cases ht : dT l c i with
    | no a w => rw [ht] at h1; exact h1
    | ok u j =>
      have hj : j = i + 1 ∧ i < l.length := by
        unfold dT at ht
        split at ht
        · rename_i q; injection ht with _ h2; exact ⟨h2.symm, q.1⟩
        · cases ht
      have ih := lT (l := l) (x := x) (i := j) (by omega)
      dsimp only
      revert ih
      cases e5 l x j with
      | ok _ j2 => rintro ⟨h2, h3⟩; exact ⟨by simp only [List.length_cons]; omega, h3⟩
      | no a w => rintro ⟨h2, h3⟩; exact ⟨by omega, h3⟩
theorem cV {l : List UInt8} {i : Nat} (h : aU l i ≠ 0) : i < l.length := by
  rcases Nat.lt_or_ge i l.length with h1 | h1
  · exact h1
  · exact absurd (pa h1) h
theorem qU {l : List UInt8} {i n : Nat} (h : r7 (aU l i) = some n) : i < l.length := cV fun q => by rw [q, show r7 0 = none by decide] at h; cases h
theorem wV {l : List UInt8} {i : Nat} (h : i ≤ l.length) : Bd l i (kT l i) := by
  unfold kT
  split
  · rename_i q
    exact ⟨Nat.lt_succ_self _, cV fun z => by rw [z] at q; revert q; decide⟩
  · split
    · rename_i q; exact ⟨Nat.lt_succ_self _, cV (by rw [q]; decide)⟩
    · split
      · rename_i q; exact ⟨Nat.lt_succ_self _, cV (by rw [q]; decide)⟩
      · have hw := lT (l := l) (x := [117, 48, 48]) h
        revert hw
        cases e5 l [117, 48, 48] i with
        | no a w => exact fun hw => hw
        | ok u j =>
          rintro ⟨h1, h2⟩
          have h1 : j = i + 3 := h1
          dsimp only
          split
          · exact ⟨by omega, h2⟩
          · rename_i high hh
            have := qU hh
            split
            · exact ⟨by omega, h2⟩
            · split
              · exact ⟨by omega, by omega⟩
              · rename_i low hl
                have := qU hl
                split
                · exact ⟨by omega, by omega⟩
                · exact ⟨by omega, by omega⟩
theorem kO {l : List UInt8} : ∀ {k i : Nat} {acc : List UInt8}, i ≤ l.length → Bd l i (eA l k i acc)
  | 0, i, _, h => ⟨Nat.le_refl _, h⟩
  | k + 1, i, acc, h => by
    unfold eA
    split
    · exact ⟨Nat.le_refl _, h⟩
    · rename_i q0
      have hlt : i < l.length := cV fun z => q0 (by rw [z]; left; decide)
      split
      · exact ⟨Nat.lt_succ_self _, hlt⟩
      · split
        · have he := wV (l := l) (i := i + 1) hlt
          revert he
          cases kT l (i + 1) with
          | no a w => rintro ⟨h1, h2⟩; exact ⟨by omega, h2⟩
          | ok c j =>
            rintro ⟨h1, h2⟩
            have ih := kO (l := l) (k := k) (i := j) (acc := acc ++ [c]) h2
            dsimp only
            revert ih
            cases eA l k j (acc ++ [c]) with
            | no a w => rintro ⟨h3, h4⟩; exact ⟨by omega, h4⟩
            | ok t j2 => rintro ⟨h3, h4⟩; exact ⟨by omega, h4⟩
        · have ih := kO (l := l) (k := k) (i := i + 1) (acc := acc ++ [aU l i]) hlt
          revert ih
          cases eA l k (i + 1) (acc ++ [aU l i]) with
          | no a w => rintro ⟨h3, h4⟩; exact ⟨by omega, h4⟩
          | ok t j2 => rintro ⟨h3, h4⟩; exact ⟨by omega, h4⟩
theorem Bd.mono {α : Type} {l : List UInt8} {i i' : Nat} (h : i' ≤ i) : ∀ {x : PE α}, Bd l i x → Bd l i' x
  | .ok _ _, ⟨h1, h2⟩ => ⟨Nat.lt_of_le_of_lt h h1, h2⟩
  | .no _ _, ⟨h1, h2⟩ => ⟨Nat.le_trans h h1, h2⟩
theorem mb {l : List UInt8} {i : Nat} (h : i ≤ l.length) : Bd l i (hJ l i) := by
  unfold hJ
  have h1 := fZ (c := 34) h
  revert h1
  cases dT l 34 i with
  | no a w => exact fun h1 => h1
  | ok u j => rintro ⟨h1, h2⟩; exact (kO h2).mono (Nat.le_of_lt h1)
theorem rn {l : List UInt8} : ∀ {k i : Nat}, i ≤ l.length → i ≤ jF l k i ∧ jF l k i ≤ l.length
  | 0, i, h => ⟨Nat.le_refl _, h⟩
  | k + 1, i, h => by
    simp only [jF]
    split
    · rename_i q
      have := rn (l := l) (k := k) (i := i + 1) q.1
      exact ⟨by omega, this.2⟩
    · exact ⟨Nat.le_refl _, h⟩
theorem vH {l : List UInt8} {i : Nat} (h : i ≤ l.length) : i ≤ gW l i ∧ gW l i ≤ l.length := by
  unfold gW
  split
  · rename_i q
    exact ⟨Nat.le_succ _, cV (by rw [q]; decide)⟩
  · exact rn h
theorem yD {α : Type} {l : List UInt8} {i : Nat} {c : Prop} [Decidable c] {a b : PE α} (ha : Bd l i a) (hb : Bd l i b) : Bd l i (if c then a else b) := by split <;> assumption
theorem wX {l : List UInt8} {i : Nat} (h : i ≤ l.length) : Bd l i (lZ l i) := by
  unfold lZ
  dsimp only
  have h1 : i ≤ (if aU l i = 45 then i + 1 else i) ∧ (if aU l i = 45 then i + 1 else i) ≤ l.length := by
    split
    · rename_i q; exact ⟨Nat.le_succ _, cV (by rw [q]; decide)⟩
    · exact ⟨Nat.le_refl _, h⟩
  generalize (if aU l i = 45 then i + 1 else i) = i1 at h1 ⊢
  have h2 := vH (l := l) h1.2
  by_cases q : gW l i1 = i1
  · rw [if_pos q]; exact h1
  · rw [if_neg q]
    exact yD ⟨by omega, h2.2⟩ ⟨Nat.le_refl _, h⟩
structure yN (l : List UInt8) (k : Nat) : Prop where
  v : ∀ level i, i ≤ l.length → Bd l i (e9 l k level i)
  a : ∀ level i, i ≤ l.length → Bd l i (jO l k level i)
  ag : ∀ level i acc, i ≤ l.length → Bd l i (fQ l k level i acc)
  o : ∀ level i, i ≤ l.length → Bd l i (jL l k level i)
  og : ∀ level i keys acc, i ≤ l.length → Bd l i (fM l k level i keys acc)
theorem l6 {l x : List UInt8} {i : Nat} {v : JV} (hx : x ≠ []) (h : i ≤ l.length) : Bd l i (match e5 l x i with | .no a w => .no a w | .ok _ j => .ok v j) := by
  have hw := lT (l := l) (x := x) h
  have := List.length_pos_iff.2 hx
  revert hw
  cases e5 l x i with
  | no a w => exact fun hw => hw
  | ok u j => rintro ⟨h1, h2⟩; exact ⟨by omega, h2⟩
theorem wF (l : List UInt8) : ∀ k, yN l k
  | 0 => ⟨fun _ _ h => by unfold e9; exact ⟨Nat.le_refl _, h⟩, fun _ _ h => by unfold jO; exact ⟨Nat.le_refl _, h⟩, fun _ _ _ h => by unfold fQ; exact ⟨Nat.le_refl _, h⟩, fun _ _ h => by unfold jL; exact ⟨Nat.le_refl _, h⟩, fun _ _ _ _ h => by unfold fM; exact ⟨Nat.le_refl _, h⟩⟩
  | k + 1 => by
    have ih := wF l k
    refine ⟨fun level i0 h => ?_, fun level i0 h => ?_, fun level i acc h => ?_, fun level i0 h => ?_, fun level i0 keys acc h => ?_⟩
    · have hg := cO l i0
      have hle := dm h
      unfold e9
      dsimp only
      refine Bd.mono hg ?_
      generalize cF l i0 = i at hle ⊢
      split
      · exact l6 (by decide) hle
      · split
        · exact l6 (by decide) hle
        · split
          · exact l6 (by decide) hle
          · split
            · have ht := mb (l := l) hle
              revert ht
              cases hJ l i with
              | no a w => exact fun ht => ht
              | ok t j => exact fun ht => ht
            · split
              · rename_i q
                have hlt : i < l.length := cV fun z => by rw [z] at q; revert q; decide
                split
                · exact ⟨Nat.le_refl _, hle⟩
                · split
                  · exact (ih.a _ _ hlt).mono (Nat.le_succ _)
                  · exact (ih.o _ _ hlt).mono (Nat.le_succ _)
              · exact wX hle
    · have hg := cO l i0
      have hle := dm h
      unfold jO
      dsimp only
      refine Bd.mono hg ?_
      generalize cF l i0 = i at hle ⊢
      split
      · rename_i q; exact ⟨Nat.lt_succ_self _, cV (by rw [q]; decide)⟩
      · exact ih.ag _ _ _ hle
    · unfold fQ
      have hv := ih.v (level + 1) i h
      revert hv
      cases e9 l k (level + 1) i with
      | no a w => exact fun hv => hv
      | ok v j =>
        rintro ⟨h1, h2⟩
        dsimp only
        have hg := cO l j
        have hle := dm h2
        split
        · rename_i q
          exact (ih.ag _ _ _ (cV (by rw [q]; decide))).mono (by omega)
        · have ht := fZ (c := 93) hle
          revert ht
          cases dT l 93 (cF l j) with
          | no a w => exact fun ht => Bd.mono (x := (PE.no a w : PE JV)) (by omega) ht
          | ok u j2 => exact fun ht => Bd.mono (x := (PE.ok (JV.mk 5 0 (B #[]) [] (acc ++ [v])) j2)) (by omega) ht
    · have hg := cO l i0
      have hle := dm h
      unfold jL
      dsimp only
      refine Bd.mono hg ?_
      generalize cF l i0 = i at hle ⊢
      split
      · rename_i q; exact ⟨Nat.lt_succ_self _, cV (by rw [q]; decide)⟩
      · exact ih.og _ _ _ _ hle
    · have hg := cO l i0
      have hle := dm h
      unfold fM
      dsimp only
      refine Bd.mono hg ?_
      generalize cF l i0 = i at hle ⊢
      have ht := mb (l := l) hle
      revert ht
      cases hJ l i with
      | no a w => exact fun ht => ht
      | ok t j =>
        rintro ⟨h1, h2⟩
        dsimp only
        split
        · exact ⟨Nat.le_refl _, hle⟩
        · have hg2 := cO l j
          have hle2 := dm h2
          have ht2 := fZ (c := 58) hle2
          revert ht2
          cases dT l 58 (cF l j) with
          | no a w => exact fun ht => Bd.mono (x := (PE.no a w : PE JV)) (by omega) ht
          | ok u j1 =>
            rintro ⟨h3, h4⟩
            dsimp only
            have hv := ih.v (level + 1) j1 h4
            revert hv
            cases e9 l k (level + 1) j1 with
            | no a w => exact fun ht => Bd.mono (x := (PE.no a w : PE JV)) (by omega) ht
            | ok v j2 =>
              rintro ⟨h5, h6⟩
              dsimp only
              have hg3 := cO l j2
              have hle3 := dm h6
              split
              · rename_i q
                exact (ih.og _ _ _ _ (cV (by rw [q]; decide))).mono (by omega)
              · have ht3 := fZ (c := 125) hle3
                revert ht3
                cases dT l 125 (cF l j2) with
                | no a w => exact fun ht => Bd.mono (x := (PE.no a w : PE JV)) (by omega) ht
                | ok u j3 => exact fun ht => Bd.mono (x := (PE.ok (JV.mk 6 0 (B #[]) (keys ++ [bytesOf t]) (acc ++ [v])) j3)) (by omega) ht
/-! fuel -/
structure Fu (l : List UInt8) (k : Nat) : Prop where
  v : ∀ level i, i ≤ l.length → 3 * (l.length - i) + 1 ≤ k → e9 l (k + 1) level i = e9 l k level i
  a : ∀ level i, i ≤ l.length → 3 * (l.length - i) + 3 ≤ k → jO l (k + 1) level i = jO l k level i
  ag : ∀ level i acc, i ≤ l.length → 3 * (l.length - i) + 2 ≤ k → fQ l (k + 1) level i acc = fQ l k level i acc
  o : ∀ level i, i ≤ l.length → 3 * (l.length - i) + 3 ≤ k → jL l (k + 1) level i = jL l k level i
  og : ∀ level i keys acc, i ≤ l.length → 3 * (l.length - i) + 2 ≤ k → fM l (k + 1) level i keys acc = fM l k level i keys acc
theorem fuel (l : List UInt8) : ∀ k, Fu l k
  | 0 => ⟨fun _ _ _ h => by omega, fun _ _ _ h => by omega, fun _ _ _ _ h => by omega, fun _ _ _ h => by omega, fun _ _ _ _ _ h => by omega⟩
  | k + 1 => by
    have ih := fuel l k
    have bd := wF l k
    refine ⟨fun level i0 h hk => ?_, fun level i0 h hk => ?_, fun level i acc h hk => ?_, fun level i0 h hk => ?_, fun level i0 keys acc h hk => ?_⟩
    · have hg := cO l i0
      have hle := dm h
      rw [e9, e9]
      try dsimp only
      generalize cF l i0 = i at hg hle ⊢
      by_cases q : aU l i = 91 ∨ aU l i = 123
      · have hlt : i < l.length := cV fun z => by rw [z] at q; revert q; decide
        rw [ih.a level (i + 1) hlt (by omega), ih.o level (i + 1) hlt (by omega)]
      · simp only [if_neg q]
    · have hg := cO l i0
      have hle := dm h
      rw [jO, jO]
      try dsimp only
      rw [ih.ag level _ [] hle (by omega)]
    · rw [fQ, fQ, ih.v (level + 1) i h (by omega)]
      have hv := bd.v (level + 1) i h
      revert hv
      cases e9 l k (level + 1) i with
      | no a w => exact fun _ => rfl
      | ok v j =>
        rintro ⟨h1, h2⟩
        try dsimp only
        have hg := cO l j
        by_cases q : aU l (cF l j) = 44
        · have hlt : cF l j < l.length := cV (by rw [q]; decide)
          rw [if_pos q, if_pos q, ih.ag level _ _ hlt (by omega)]
        · rw [if_neg q, if_neg q]
    · have hg := cO l i0
      have hle := dm h
      rw [jL, jL]
      try dsimp only
      rw [ih.og level _ [] [] hle (by omega)]
    · have hg := cO l i0
      have hle := dm h
      rw [fM, fM]
      try dsimp only
      generalize cF l i0 = i at hg hle ⊢
      have ht := mb (l := l) hle
      revert ht
      cases hJ l i with
      | no a w => exact fun _ => rfl
      | ok t j =>
        rintro ⟨h1, h2⟩
        try dsimp only
        have hg2 := cO l j
        have ht2 := fZ (c := 58) (dm h2)
        revert ht2
        cases dT l 58 (cF l j) with
        | no a w => exact fun _ => rfl
        | ok u j1 =>
          rintro ⟨h3, h4⟩
          try dsimp only
          rw [ih.v (level + 1) j1 h4 (by omega)]
          have hv := bd.v (level + 1) j1 h4
          revert hv
          cases e9 l k (level + 1) j1 with
          | no a w => exact fun _ => rfl
          | ok v j2 =>
            rintro ⟨h5, h6⟩
            try dsimp only
            have hg3 := cO l j2
            by_cases q : aU l (cF l j2) = 44
            · have hlt : cF l j2 < l.length := cV (by rw [q]; decide)
              rw [if_pos q, if_pos q, ih.og level _ _ _ hlt (by omega)]
            · rw [if_neg q, if_neg q]
end Go.Tb
namespace Go.Ab
open Go.RowKit
section
variable {P : Program} {C : Ctx} {n : Nat} {Q : Exit → St → Prop} {st : St} {v : Value}
end
end Go.Ab
namespace Go.Tb
open Go.Ab
end Go.Tb
namespace Go.Ab
open Go.RowKit
section
variable {P : Program} {C : Ctx} {n : Nat} {ops : Array Oper} {Q : Exit → St → Prop} {rest : List Oper}
variable {f : List (Nat × A)} {bx : List (Nat × List A)} {lv : List Nat} {gen : Nat} {d : Nat} {ty : TypeId} {pos : String} {af : Array Edge}
end
end Go.Ab
namespace Go.Ab
open Go.RowKit
/-! ### whatever the states are -/
section
variable {P : Program} {ops : Array Oper} {md : Region.Mode} {m : Nat} {S E : Type} (Y : Nat → E → S → Prop) (ef : Nat → E → S → S)
def dF (md : Region.Mode) (ops : Array Oper) (listed : Array Bool) : Prop :=
  ∀ j oj, ops[j]? = some oj → listed.getD j false = true → ∀ e ∈ oj.after, Region.binds md e = true → listed.getD e.on false = true
def bW (md : Region.Mode) (ops : Array Oper) : Nat → Nat → Nat → Bool
  | 0, _, _ => false
  | k + 1, j, i => bX md ops j i || (match ops[j]? with | some o => o.after.toList.any fun e => Region.binds md e && bW md ops k e.on i | none => false)
theorem iB {listed : Array Bool} (hc : dF md ops listed) : ∀ (k j i : Nat), bW md ops k j i = true → (∀ oj, ops[j]? = some oj → ∀ e ∈ oj.after, Region.binds md e = true → listed.getD e.on false = true) → listed.getD i false = true
  | 0, _, _, h, _ => by simp [bW] at h
  | k + 1, j, i, h, hj => by
    simp only [bW, Bool.or_eq_true] at h
    cases hoj : ops[j]? with
    | none =>
      rw [hoj] at h
      simp [bX, hoj] at h
    | some oj =>
      rcases h with h | h
      · obtain ⟨e, he, hb, heq⟩ := kW hoj h
        rw [← heq]
        exact hj oj hoj e he hb
      · rw [hoj] at h
        obtain ⟨e, he, hb⟩ := List.any_eq_true.1 h
        simp only [Bool.and_eq_true] at hb
        have he' : e ∈ oj.after := by simpa using he
        have hl := hj oj hoj e he' hb.1
        exact iB hc k e.on i hb.2 fun o ho e' he'' hb' => hc e.on o ho hl e' he'' hb'
def j7 (md : Region.Mode) (ops : Array Oper) (m : Nat) : Bool := (List.range ops.size).all fun j => decide (j < m) || (List.range j).all fun i => bW md ops ops.size j i
theorem k0 {j : Nat} (h : j7 md ops m = true) (hm : m ≤ j) {i : Nat} (hij : i < j) {listed : Array Bool} (hc : dF md ops listed) (hj : j ∈ Region.ready md ops listed) : listed.getD i false = true := by
  obtain ⟨_, oj, hoj, hall⟩ := mem_ready.1 hj
  have hlt : j < ops.size := (Array.getElem?_eq_some_iff.1 hoj).1
  have h1 := List.all_eq_true.1 h j (by simpa using hlt)
  simp only [Bool.or_eq_true, decide_eq_true_eq] at h1
  have h2 := List.all_eq_true.1 (h1.resolve_left (by omega)) i (by simpa using hij)
  exact iB hc _ j i h2 fun o ho e he hb => by rw [hoj] at ho; cases ho; exact hall e he hb
theorem dF.add {listed : Array Bool} (hc : dF md ops listed) {i : Nat} (hi : i ∈ Region.ready md ops listed) : dF md ops (listed.setIfInBounds i true) := by
  intro j oj hoj hl e he hb
  obtain ⟨_, oi, hoi, hall⟩ := mem_ready.1 hi
  by_cases hji : i = j
  · subst hji
    rw [hoi] at hoj
    cases hoj
    exact getD_set_true (hall e he hb)
  · rw [getD_set_ne false hji] at hl
    exact getD_set_true (hc j oj hoj hl e he hb)
def oe (m : Nat) (md : Region.Mode) (ops : Array Oper) (Q : S → Prop) : Nat → Array Bool → S → Prop
  | 0, listed, σ => Split m ops listed ∧ Q σ
  | fuel + 1, listed, σ => Region.ready md ops listed ≠ [] ∧ ∀ i ∈ Region.ready md ops listed, ∃ e, Y i e σ ∧ oe m md ops Q fuel (listed.setIfInBounds i true) (ef i e σ)
def kV (i j : Nat) : Prop := ∀ e e' σ, Y i e σ → Y j e' (ef i e σ) → Y j e' σ ∧ Y i e (ef j e' σ) ∧ ef j e' (ef i e σ) = ef i e (ef j e' σ)
variable {Y} {ef}
theorem tE {Q : S → Prop} {i : Nat} {oi : Oper} {e : E} (hw : j7 md ops m = true) (him : i < m) (hi : ops[i]? = some oi) :
    ∀ (fuel : Nat) (listed : Array Bool) (σ : S), dF md ops listed →
      (∀ j oj, ops[j]? = some oj → j ≠ i → j < m → listed.getD j true = false → (∀ e ∈ oj.after, Region.binds md e = true → e.on ≠ i) → kV Y ef i j) →
      i ∈ Region.ready md ops listed → Y i e σ → oe Y ef m md ops Q fuel (listed.setIfInBounds i true) (ef i e σ) → oe Y ef m md ops Q (fuel + 1) listed σ := by
  have unl : ∀ {listed : Array Bool}, i ∈ Region.ready md ops listed → listed.getD i false = false := fun hr => eN (mem_ready.1 hr).1
  intro fuel
  induction fuel with
  | zero =>
    intro listed σ hc _ hr hy H
    refine ⟨fun h => (by rw [h] at hr; cases hr), fun j hj => ?_⟩
    by_cases hji : j = i
    · subst hji; exact ⟨e, hy, H⟩
    · exfalso
      obtain ⟨⟨_, h1, h2⟩, _⟩ := H
      have hj1 := (mem_ready.1 hj).1
      by_cases hjm : j < m
      · have := h1 j hjm
        rw [getD_set_ne false (Ne.symm hji)] at this
        rw [eN hj1] at this
        cases this
      · have := k0 hw (by omega) (show i < j by omega) hc hj
        rw [unl hr] at this
        cases this
  | succ fuel ih =>
    intro listed σ hc hfree hr hy H
    refine ⟨fun h => (by rw [h] at hr; cases hr), fun j hj => ?_⟩
    by_cases hji : j = i
    · subst hji; exact ⟨e, hy, H⟩
    · obtain ⟨e', hy', H'⟩ := H.2 j (ready_mono hj hji)
      obtain ⟨hjun, oj, hoj, hall⟩ := mem_ready.1 hj
      have hnot : ∀ e ∈ oj.after, Region.binds md e = true → e.on ≠ i := fun e he hb heq => by
        have h1 := hall e he hb
        rw [heq, unl hr] at h1
        cases h1
      have hjm : j < m := by
        rcases Nat.lt_or_ge j m with h | h
        · exact h
        · have := k0 hw h (show i < j by omega) hc hj
          rw [unl hr] at this
          cases this
      obtain ⟨s1, s2, s3⟩ := hfree j oj hoj hji hjm hjun hnot e e' σ hy hy'
      have hfree' : ∀ k ok, ops[k]? = some ok → k ≠ i → k < m → (listed.setIfInBounds j true).getD k true = false → (∀ e ∈ ok.after, Region.binds md e = true → e.on ≠ i) → kV Y ef i k := fun k ok hk hki hkm hun hno => by
        refine hfree k ok hk hki hkm ?_ hno
        by_cases hjk : j = k
        · subst hjk; exact hjun
        · rw [getD_set_ne true hjk] at hun; exact hun
      refine ⟨e', s1, ih (listed.setIfInBounds j true) _ (hc.add hj) hfree' (ready_mono hr (Ne.symm hji)) s2 ?_⟩
      rw [Array.setIfInBounds_comm _ _ hji, ← s3]
      exact H'
def tu (Y : Nat → E → S → Prop) (ef : Nat → E → S → S) (Q : S → Prop) : List Oper → Nat → S → Prop
  | [], _, σ => Q σ
  | _ :: rest, i, σ => ∃ e, Y i e σ ∧ tu Y ef Q rest (i + 1) (ef i e σ)
theorem qP {Q : S → Prop} (hw : j7 md ops m = true)
    (hsw : ∀ i j oi oj, ops[i]? = some oi → ops[j]? = some oj → i ≠ j → i < m → j < m → oi.apart ops oj = true → (∀ e ∈ oj.after, Region.binds md e = true → e.on ≠ i) → kV Y ef i j) :
    ∀ (l : List Oper) (k : Nat) (listed : Array Bool) (σ : S), k + l.length = m → (∀ j, j < l.length → l[j]? = ops[k + j]?) → dF md ops listed →
    listed.size = ops.size → (∀ j, j < k → listed.getD j false = true) → (∀ j, k ≤ j → j < ops.size → listed.getD j true = false) →
    nS md ops l.length k listed = true → tu Y ef Q l k σ → oe Y ef m md ops Q l.length listed σ
  | [], k, listed, σ, hk, _, _, hs, h1, h2, _, h => ⟨⟨hs, fun j hj => h1 j (by simp at hk; omega), fun j hj hj' => h2 j (by simp at hk; omega) hj'⟩, h⟩
  | o :: l, k, listed, σ, hk, hl, hc, hs, h1, h2, hB, h => by
    have h0 : ops[k]? = some o := by simpa using (hl 0 (by simp)).symm
    have hks : k < ops.size := (Array.getElem?_eq_some_iff.1 h0).1
    simp only [List.length_cons, nS, Bool.and_eq_true] at hB
    obtain ⟨⟨hr, hf⟩, hB'⟩ := hB
    have hr' : k ∈ Region.ready md ops listed := by simpa using hr
    obtain ⟨e, hy, hK⟩ := h
    have hkm : k < m := by simp at hk; omega
    refine tE hw hkm h0 l.length listed σ hc (fun j oj hoj hjk hjm hun hno => hsw k j o oj h0 hoj (Ne.symm hjk) hkm hjm (Region.free_spec h0 hf j oj hoj hjk hun hno) hno) hr' hy
      (qP hw hsw l (k + 1) _ _ (by simp at hk; omega) (fun j hj => by have := hl (j + 1) (by simpa using hj); simpa [Nat.add_assoc, Nat.add_comm 1 j] using this) (hc.add hr') (by simpa using hs) (fun j hj => ?_) (fun j hj hj' => ?_) hB' hK)
    · rcases Nat.lt_succ_iff_lt_or_eq.1 hj with hlt | rfl
      · exact getD_set_true (h1 j hlt)
      · simp [hs, hks]
    · rw [getD_set_ne true (by omega)]
      exact h2 j (by omega) hj'
theorem jK {Sm : S → Act → World → Prop} {Q : S → Prop} {Q' : Exit → Act → World → Prop} {t : Nat}
    (hS : ∀ i e σ act w K, Sm σ act w → Y i e σ → (∀ act w, Sm (ef i e σ) act w → K act w) → wpOp P ops Q' i K act w)
    (hQ : ∀ listed σ act w, Sm σ act w → dF md ops listed → Split m ops listed → Q σ → wpAny P md ops Q' t listed act w) :
    ∀ (fuel : Nat) (listed : Array Bool) (σ : S) (act : Act) (w : World), Sm σ act w → dF md ops listed → oe Y ef m md ops Q fuel listed σ → wpAny P md ops Q' (fuel + t) listed act w
  | 0, _, _, _, _, hs, hc, h => by rw [Nat.zero_add]; exact hQ _ _ _ _ hs hc h.1 h.2
  | fuel + 1, _, _, _, _, hs, hc, h => by
    rw [Nat.add_right_comm]
    refine ⟨fun h0 => absurd h0 h.1, fun i hi => ?_⟩
    obtain ⟨e, hy, hK⟩ := h.2 i hi
    exact hS i e _ _ _ _ hs hy fun act w hs' => jK hS hQ fuel _ _ _ _ hs' (hc.add hi) hK
theorem jd {Q' : Exit → Act → World → Prop} (hw : j7 md ops m = true) (hrd : ∀ k, m ≤ k → ∀ o, ops[k]? = some o → ∀ e ∈ o.after, Region.binds md e = true → e.on < k) :
    ∀ (l : List Oper) (k : Nat) (listed : Array Bool) (act : Act) (w : World), m ≤ k → k + l.length = ops.size → (∀ j, l[j]? = ops[k + j]?) → dF md ops listed → listed.size = ops.size → (∀ j, j < k → listed.getD j false = true) → (∀ j, k ≤ j → j < ops.size → listed.getD j true = false) →
      dh P ops Q' l act w → wpAny P md ops Q' l.length listed act w
  | [], k, listed, act, w, hm, hk, _, _, hs, h1, h2, h => by
    refine ⟨?_, h⟩
    refine List.eq_nil_iff_forall_not_mem.2 fun j hj => ?_
    obtain ⟨h3, oj, hoj, _⟩ := mem_ready.1 hj
    have hlt := (Array.getElem?_eq_some_iff.1 hoj).1
    have := h1 j (by simp at hk; omega)
    rw [eN h3] at this
    cases this
  | o :: l, k, listed, act, w, hm, hk, hl, hc, hs, h1, h2, h => by
    have h0 : ops[k]? = some o := by simpa using (hl 0).symm
    have hks : k < ops.size := (Array.getElem?_eq_some_iff.1 h0).1
    have hready : k ∈ Region.ready md ops listed := mem_ready.2 ⟨h2 k (Nat.le_refl _) hks, o, h0, fun e he hb => h1 _ (hrd k hm o h0 e he hb)⟩
    refine ⟨fun hn => (by rw [hn] at hready; cases hready), fun i hi => ?_⟩
    have hik : i = k := by
      obtain ⟨h3, oi, hoi, _⟩ := mem_ready.1 hi
      rcases Nat.lt_trichotomy i k with hlt | he | hgt
      · have := h1 i hlt; rw [eN h3] at this; cases this
      · exact he
      · have := k0 hw (by omega) hgt hc hi
        rw [eN (h2 k (Nat.le_refl _) hks)] at this
        cases this
    subst hik
    have ih := fun act w => jd (Q' := Q') hw hrd l (i + 1) (listed.setIfInBounds i true) act w (by omega) (by simp at hk; omega) (fun j => by have := hl (j + 1); simpa [Nat.add_assoc, Nat.add_comm 1 j] using this) (hc.add hready) (by simpa using hs)
      (fun j hj => by
        rcases Nat.lt_succ_iff_lt_or_eq.1 hj with hlt | rfl
        · exact getD_set_true (h1 j hlt)
        · simp [hs, hks]) (fun j hj hj' => by rw [getD_set_ne true (by omega)]; exact h2 j (by omega) hj')
    simp only [dh] at h
    unfold wpOp
    simp only [h0]
    split
    · rename_i hw'
      rw [if_pos hw'] at h
      exact .inl (Oper.wp_mono ih h)
    · rename_i hw'
      rw [if_neg hw'] at h
      exact ih _ _ h
end
/-! ### one operation that turns the ghost -/
theorem Oper.wU {P : Program} {o : Oper} {a : Act} {w : World} {K K' : Act → World → Prop} {Q Q' : Exit → Act → World → Prop} (hp : ∀ c a w, ¬ Q (.panic c) a w) (hL : ¬ LetsOut Q) (hK : ∀ a w, K a w → K' a w) (h : o.wp P a w K Q) : o.wp P a w K' Q' := by
  unfold Oper.wp at *
  generalize (execOp a.eval o).run P w = r at *
  cases r with
  | ok n w' =>
    cases n <;> simp only [Oper.upon] at h ⊢ <;> first
      | exact hK _ _ h
      | exact Calls.mono h (fun e w'' he => by
          cases e with
          | returned v => exact hK _ _ he
          | panicked c => exact absurd he (hp _ _ _)
          | outgrown => exact absurd he hL)
      | exact Rows.mono h (fun _ _ he => hK _ _ he)
      | exact h
  | halt x w' =>
    cases x <;> simp only [Oper.upon] at h ⊢ <;> first
      | exact absurd h (hp _ _ _)
      | exact h
theorem Oper.om {P : Program} {o : Oper} {a : Act} {w : World} {K K' : Act → World → Prop} {Q Q' : Exit → Act → World → Prop} (hp : ∀ c a w, Q (.panic c) a w → Q' (.panic c) a w) (hL : ¬ LetsOut Q) (hK : ∀ a w, K a w → K' a w) (h : o.wp P a w K Q) : o.wp P a w K' Q' := by
  unfold Oper.wp at *
  generalize (execOp a.eval o).run P w = r at *
  cases r with
  | ok n w' =>
    cases n <;> simp only [Oper.upon] at h ⊢ <;> first
      | exact hK _ _ h
      | exact Calls.mono h (fun e w'' he => by
          cases e with
          | returned v => exact hK _ _ he
          | panicked c => exact hp _ _ _ he
          | outgrown => exact absurd he hL)
      | exact Rows.mono h (fun _ _ he => hK _ _ he)
      | exact h
  | halt x w' =>
    cases x <;> simp only [Oper.upon] at h ⊢ <;> first
      | exact hp _ _ _ h
      | exact h
end Go.Ab
namespace Go.Ab
open Go.RowKit
structure uE where
  bx0 : List (Nat × List A)
  bx1 : List (Nat × List A)
  lv0 : List Nat
  lv1 : List Nat
  gen0 : Nat
  gen1 : Nat
section
variable {P : Program} {C : Ctx} {n : Nat} (S : uE) {ops : Array Oper} (c : Nat)
abbrev SC := cw × Bool
def yb (C : Ctx) (n : Nat) (S : uE) (σ : SC) (act : Act) (w : World) : Prop :=
  act.defers = C.ds ∧ ∃ G, if σ.2 = true then db C n S.bx1 S.lv1 S.gen1 σ.1 G act.tmps w else db C n S.bx0 S.lv0 S.gen0 σ.1 G act.tmps w
def yG (P : Program) (C : Ctx) (n : Nat) (S : uE) (ops : Array Oper) (o : Oper) (a : A) (φ : cw) : Prop :=
  o.guard = none ∧ ∃ p, (∀ t x, look p t = some x → φ t = some x ∧ t ∈ o.looksAt ops) ∧
    ∀ g, WO P C n ops (fun e st => e = .normal ∧ st = St.put ⟨p ++ g, S.bx1, S.lv1, S.gen1⟩ o.dst a) [o] ⟨p ++ g, S.bx0, S.lv0, S.gen0⟩
def YC (P : Program) (C : Ctx) (n : Nat) (S : uE) (ops : Array Oper) (c : Nat) (i : Nat) (a : A) (σ : SC) : Prop :=
  ∃ o, ops[i]? = some o ∧ cZ n o.dst = true ∧ ((i = c ∧ σ.2 = false ∧ yG P C n S ops o a σ.1) ∨
    (i ≠ c ∧ (bX .any ops i c = false → YA P C n S.bx0 S.lv0 S.gen0 ops o a σ.1) ∧ (bX .any ops c i = false → YA P C n S.bx1 S.lv1 S.gen1 ops o a σ.1) ∧
      (σ.2 = false → bX .any ops i c = false) ∧ (σ.2 = true → bX .any ops c i = false)))
def rq (ops : Array Oper) (c : Nat) (i : Nat) (a : A) (σ : SC) : SC :=
  match ops[i]? with
  | none => σ
  | some o => (bu σ.1 o.dst a, if i = c then true else σ.2)
variable {S} {c}
theorem qW {o : Oper} {a : A} {φ : cw} {dst : Option Nat} {x : A} (hd : ∀ d, dst = some d → d ∉ o.looksAt ops) : yG P C n S ops o a (bu φ dst x) ↔ yG P C n S ops o a φ := by
  constructor
  · rintro ⟨h0, p, h1, h2⟩
    exact ⟨h0, p, fun t y hy => ⟨(jR hd (h1 t y hy).2).symm.trans (h1 t y hy).1, (h1 t y hy).2⟩, h2⟩
  · rintro ⟨h0, p, h1, h2⟩
    exact ⟨h0, p, fun t y hy => ⟨(jR hd (h1 t y hy).2).trans (h1 t y hy).1, (h1 t y hy).2⟩, h2⟩
theorem so {j i : Nat} {oj : Oper} (hj : ops[j]? = some oj) (h : ∀ e ∈ oj.after, Region.binds .any e = true → e.on ≠ i) : bX .any ops j i = false := by
  cases q : bX .any ops j i with
  | false => rfl
  | true =>
    obtain ⟨e, he, hb, heq⟩ := kW hj q
    exact absurd heq (h e he hb)
theorem fH {i : Nat} {o : Oper} (h : ops[i]? = some o) (a : A) (σ : SC) : rq ops c i a σ = (bu σ.1 o.dst a, if i = c then true else σ.2) := by unfold rq; rw [h]
theorem yL {i j : Nat} {oi oj : Oper} (hi : ops[i]? = some oi) (hj : ops[j]? = some oj) (hij : i ≠ j) (hap : oi.apart ops oj = true) (hno : ∀ e ∈ oj.after, Region.binds .any e = true → e.on ≠ i) :
    kV (YC P C n S ops c) (rq ops c) i j := by
  obtain ⟨a1, a2, a3⟩ := Oper.apart_spec hap
  have hnb := so hj hno
  rintro a b ⟨φ, ph⟩ ⟨oi', hi', di, hyi⟩ ⟨oj', hj', dj, hyj⟩
  rw [hi] at hi'
  cases hi'
  rw [hj] at hj'
  cases hj'
  rw [fH hi] at hyj
  rw [fH hi, fH hj, fH hj, fH hi]
  have hcomm : bu (bu φ oi.dst a) oj.dst b = bu (bu φ oj.dst b) oi.dst a := lf φ a b a2
  simp only at hyi hyj ⊢
  rcases hyi with ⟨rfl, hph, hx⟩ | ⟨hic, y0, y1, y2, y3⟩
  · -- the operation itself stands first
    subst hph
    rcases hyj with ⟨e, _⟩ | ⟨hjc, z0, z1, z2, z3⟩
    · exact absurd e.symm hij
    · refine ⟨⟨oj, hj, dj, .inr ⟨hjc, fun h => (dn a1).1 (z0 h), fun h => (dn a1).1 (z1 h), fun _ => hnb, fun h => by cases h⟩⟩, ⟨oi, hi, di, .inl ⟨rfl, ?_, (qW a3).2 hx⟩⟩, ?_⟩
      · rw [if_neg hjc]
      · rw [if_pos rfl, if_neg hjc, hcomm]
        simp
  · rcases hyj with ⟨rfl, hph, hx⟩ | ⟨hjc, z0, z1, z2, z3⟩
    · rw [if_neg hic] at hph
      subst hph
      refine ⟨⟨oj, hj, dj, .inl ⟨rfl, rfl, (qW a1).1 hx⟩⟩, ⟨oi, hi, di, .inr ⟨hic, fun h => (dn a3).2 (y0 h), fun h => (dn a3).2 (y1 h), fun h => ?_, fun _ => hnb⟩⟩, ?_⟩
      · rw [if_pos rfl] at h; cases h
      · rw [if_pos rfl, if_neg hic, hcomm]
        simp
    · rw [if_neg hic] at z2 z3
      refine ⟨⟨oj, hj, dj, .inr ⟨hjc, fun h => (dn a1).1 (z0 h), fun h => (dn a1).1 (z1 h), z2, z3⟩⟩, ⟨oi, hi, di, .inr ⟨hic, fun h => (dn a3).2 (y0 h), fun h => (dn a3).2 (y1 h), ?_, ?_⟩⟩, ?_⟩
      · rw [if_neg hjc]; exact y2
      · rw [if_neg hjc]; exact y3
      · rw [if_neg hic, if_neg hjc, hcomm, if_neg hic]
def dp (n : Nat) (φ : cw) : List (Nat × A) := (List.range n).filterMap fun t => (φ t).map fun a => (t, a)
theorem iP (φ : cw) : ∀ (l : List Nat) (t : Nat), look (l.filterMap fun t => (φ t).map fun a => (t, a)) t = if t ∈ l then φ t else none
  | [], t => rfl
  | s :: l, t => by
    rw [List.filterMap_cons]
    cases hs : φ s with
    | none =>
      simp only [Option.map_none]
      rw [iP φ l t]
      by_cases e : t = s
      · subst e; simp [hs]
      · simp [e]
    | some a =>
      simp only [Option.map_some, aR]
      by_cases e : s = t
      · subst e; simp [hs]
      · rw [if_neg e, iP φ l t]
        simp [Ne.symm e]
theorem pV (p g : List (Nat × A)) (t : Nat) : look (p ++ g) t = match look p t with | some a => some a | none => look g t := by
  induction p with
  | nil => rfl
  | cons x p ih =>
    obtain ⟨s, a⟩ := x
    rw [List.cons_append, aR, aR]
    split
    · rfl
    · exact ih
theorem xW (i : Nat) (a : A) (σ : SC) (act : Act) (w : World) (K : Act → World → Prop) {Q' : Exit → Act → World → Prop} (hs : yb C n S σ act w) (hy : YC P C n S ops c i a σ) (hK : ∀ act w, yb C n S (rq ops c i a σ) act w → K act w) : wpOp P ops Q' i K act w := by
  obtain ⟨tmps, dfs⟩ := act
  obtain ⟨rfl, G, hs⟩ := hs
  obtain ⟨φ, ph⟩ := σ
  obtain ⟨o, ho, hd, hy⟩ := hy
  rw [fH ho] at hK
  simp only at hs hy hK
  unfold wpOp
  simp only [ho]
  rcases hy with ⟨rfl, rfl, hg, p, hp, hx⟩ | ⟨hic, y0, y1, y2, y3⟩
  · simp only [Bool.false_eq_true, if_false] at hs
    have hw : Region.wanted o (yielded ops tmps) = true := by simp [Region.wanted, hg]
    rw [hw, if_pos rfl]
    refine .inl ?_
    have hlt : ∀ t x, φ t = some x → t < n := fun t x hx => by
      obtain ⟨v, h1, _⟩ := hs.2 t x hx
      have := (Array.getElem?_eq_some_iff.1 h1).1
      rw [hs.1.size] at this
      exact this
    have hlook : ∀ t, look (p ++ dp n φ) t = φ t := fun t => by
      rw [pV]
      cases q : look p t with
      | some x => exact (hp t x q).1.symm
      | none =>
        simp only
        unfold dp
        rw [iP]
        cases e : φ t with
        | none => split <;> rfl
        | some x => rw [if_pos (List.mem_range.2 (hlt t x e))]
    have hs' := hs.ml (f := p ++ dp n φ) fun t x hx => by rw [← hlook]; exact hx
    have h := hx (dp n φ) tmps w ⟨G, hs'⟩
    simp only [dh, hw, if_true] at h
    refine Oper.wU (fun c a w hq => ?_) (fun hl => ?_) (fun act2 w2 hq => ?_) h
    · obtain ⟨_, st', _, he, _⟩ := hq
      cases he
    · obtain ⟨_, _, hq⟩ := hl
      obtain ⟨_, st', _, he, _⟩ := hq
      cases he
    · obtain ⟨hdf, st', ⟨G', hs2⟩, _, rfl⟩ := hq
      refine hK act2 w2 ⟨hdf, G', ?_⟩
      simp only [if_true]
      show db C n S.bx1 S.lv1 S.gen1 (bu φ o.dst a) G' act2.tmps w2
      cases hdst : o.dst with
      | none =>
        rw [hdst] at hs2
        refine ⟨{ hs2 with frame := fun t a ha => by simp [look] at ha }, fun t x hx => hs2.frame t x ?_⟩
        show look (p ++ dp n φ) t = some x
        rw [hlook]
        exact hx
      | some d =>
        rw [hdst] at hs2
        refine ⟨{ hs2 with frame := fun t a ha => by simp [look] at ha }, fun t x hx => hs2.frame t x ?_⟩
        show look ((d, a) :: (p ++ dp n φ)) t = some x
        rw [aR]
        simp only [bu] at hx
        by_cases e : t = d
        · subst e
          rw [if_pos rfl] at hx ⊢
          exact hx
        · rw [if_neg e] at hx
          rw [if_neg (Ne.symm e), hlook]
          exact hx
  · rw [if_neg hic] at hK
    have key : ∀ {bx : List (Nat × List A)} {lv : List Nat} {gen : Nat}, db C n bx lv gen φ G tmps w → YA P C n bx lv gen ops o a φ → (∀ tmps w, db C n bx lv gen (bu φ o.dst a) G tmps w → K ⟨tmps, C.ds⟩ w) →
        (if Region.wanted o (yielded ops tmps) = true then o.wp P ⟨tmps, C.ds⟩ w K Q' ∨ (o.asks P ⟨tmps, C.ds⟩ w ∧ LetsOut Q') else K (Act.put ⟨tmps, C.ds⟩ o.dst undef) w) := by
      intro bx lv gen hsF hya hk
      obtain ⟨_, ⟨hw, f, hf, hp⟩ | ⟨hw, rfl⟩⟩ := hya
      · rw [fE hsF hw]
        simp only [if_true]
        refine .inl ?_
        have hg : cG P o ⟨tmps, []⟩ w fun v w' => Below w.heap.size w w' ∧ aA (ao C G gen w') v a := hp G tmps w (hsF.ml fun t x hx => (hf t x hx).1)
        refine hg.ds.wp fun v w' ⟨hb, hr⟩ => ?_
        rw [Act.eM]
        exact hk _ _ (hsF.step hb hd hr)
      · rw [fE hsF hw]
        simp only [Bool.false_eq_true, if_false]
        rw [Act.eM]
        exact hk _ _ (hsF.step (Below.refl _ _) hd (.tup #[] [] rfl (by simp)))
    cases ph with
    | false =>
      simp only [Bool.false_eq_true, if_false] at hs
      exact key hs (y0 (y2 rfl)) fun tmps w h => hK _ _ ⟨rfl, G, by simpa using h⟩
    | true =>
      simp only [if_true] at hs
      exact key hs (y1 (y3 rfl)) fun tmps w h => hK _ _ ⟨rfl, G, by simpa using h⟩
def CC (P : Program) (C : Ctx) (n : Nat) (S : uE) (ops : Array Oper) (c : Nat) (Q : St → Prop) (l : List Oper) (i : Nat) (f : List (Nat × A)) (ph : Bool) : Prop :=
  tu (YC P C n S ops c) (rq ops c) (fun σ => ∃ f', (∀ t, look f' t = σ.1 t) ∧ σ.2 = true ∧ Q ⟨f', S.bx1, S.lv1, S.gen1⟩) l i (look f, ph)
def fz (m : Nat) (ops : Array Oper) : Bool := Nat.ble m ops.size && j7 .any ops m && wA .any ops m && nS .any ops m 0 (Array.replicate ops.size false)
theorem W.ij (T : bm P) {id : Nat} {l l1 l2 : List Oper} {f : List (Nat × A)} {bx bx1 : List (Nat × List A)} {lv lv1 : List Nat} {gen gen1 : Nat} {Q : Exit → St → Prop} (m c : Nat) (hB : fz m l.toArray = true) (h1 : l.take m = l1) (h2 : l.drop m = l2)
    (h : CC P C n ⟨bx, bx1, lv, lv1, gen, gen1⟩ l.toArray c (WO P C n l.toArray Q l2) l1 0 f false) : W P C n (.region id l.toArray true) Q ⟨f, bx, lv, gen⟩ := by
  subst h1; subst h2
  intro tmps w ⟨G, hs⟩
  simp only [fz, Bool.and_eq_true] at hB
  obtain ⟨⟨⟨hm, hw⟩, hfore⟩, hlex⟩ := hB
  have hm : m ≤ l.length := by simpa using Nat.le_of_ble_eq_true hm
  have hb : Below w.heap.size w { w with drawn := w.drawn + 1 } := (Below.refl _ w).drew
  have hs' : db C n bx lv gen (look f) G tmps { w with drawn := w.drawn + 1 } := db.x5 (hs.fU hb).2
  have hlen : (l.take m).length = m := by simp; omega
  refine wp_region_any T.mixed ?_
  have hsz : l.toArray.size = (l.take m).length + (l.drop m).length := by simp; omega
  rw [hsz]
  have hcl : dF .any l.toArray (Array.replicate ((l.take m).length + (l.drop m).length) false) := fun j oj _ hl _ _ _ => by
    by_cases q : j < (l.take m).length + (l.drop m).length
    · simp only [Array.getD_eq_getD_getElem?, Array.getElem?_replicate] at hl
      rw [if_pos q] at hl
      cases hl
    · simp only [Array.getD_eq_getD_getElem?, Array.getElem?_replicate] at hl
      rw [if_neg q] at hl
      cases hl
  refine jK (m := m) (Sm := yb C n ⟨bx, bx1, lv, lv1, gen, gen1⟩) (Y := YC P C n ⟨bx, bx1, lv, lv1, gen, gen1⟩ l.toArray c) (ef := rq l.toArray c) (Q := fun σ => ∃ f', (∀ t, look f' t = σ.1 t) ∧ σ.2 = true ∧ WO P C n l.toArray Q (l.drop m) ⟨f', bx1, lv1, gen1⟩)
    (fun i e σ act w K hs hy hk => xW i e σ act w K hs hy hk) (fun listed σ act w hs hc hsp ⟨f', e1, e2, hq⟩ => ?_) _ _ (look f, false) ⟨tmps, C.ds⟩ _ ⟨rfl, G, by simpa using hs'⟩ hcl ?_
  · obtain ⟨tmps, dfs⟩ := act
    obtain ⟨rfl, G, hs⟩ := hs
    rw [e2] at hs
    simp only [if_true] at hs
    refine jd hw (nh hfore) (l.drop m) m listed ⟨tmps, C.ds⟩ w (Nat.le_refl _) (by simp; omega) (fun j => by simp [List.getElem?_drop]) hc hsp.1 hsp.2.1 hsp.2.2 ?_
    exact hq tmps w ⟨G, hs.ml (fun t a ha => by rw [← e1]; exact ha)⟩
  · refine qP hw (fun i j oi oj hi hj hij him hjm hap hno => yL hi hj hij hap hno) (l.take m) 0 _ _ (by rw [hlen]; omega) (fun j hj => ?_) hcl (by simp; omega) (fun j hj => by omega) (fun j _ hj => ?_) (by rw [hlen]; rw [hsz, hlen] at hlex; exact hlex) h
    · rw [hlen] at hj
      rw [Nat.zero_add]
      simp [List.getElem?_take, hj]
    · have hj' : j < l.length := by simpa using hj
      have e : min m l.length + (l.length - m) = l.length := by omega
      simp [e, hj']
variable {op : Op} {ty : TypeId} {pos : String} {af : Array Edge} {a : A} {d i : Nat} {rest : List Oper} {f : List (Nat × A)} {Q : St → Prop} {o : Oper} {ph : Bool}
theorem CC.zl (h : Q ⟨f, S.bx1, S.lv1, S.gen1⟩) : CC P C n S ops c Q [] i f true := ⟨f, fun _ => rfl, rfl, h⟩
theorem YA.oI {bx : List (Nat × List A)} {lv : List Nat} {gen : Nat} (hp : Pu P C n ⟨cp f (slotsOf op), bx, lv, gen⟩ ⟨some d, op, ty, pos, af, none⟩ a) (hd : Nat.blt d n = true) : YA P C n bx lv gen ops ⟨some d, op, ty, pos, af, none⟩ a (look f) :=
  ⟨hd, .inl ⟨rfl, _, fun t x hx => by
    obtain ⟨h1, h2⟩ := eo hx
    exact ⟨h1, List.mem_append.2 (.inl h2)⟩, hp⟩⟩
theorem yQ (h1 : Pu P C n ⟨cp f (slotsOf op), S.bx1, S.lv1, S.gen1⟩ ⟨some d, op, ty, pos, af, none⟩ a) (h0 : Pu P C n ⟨cp f (slotsOf op), S.bx0, S.lv0, S.gen0⟩ ⟨some d, op, ty, pos, af, none⟩ a)
    (hi : ops[i]? = some ⟨some d, op, ty, pos, af, none⟩) (hc : Nat.beq i c = false) (b0 : bX .any ops i c = false) (b1 : bX .any ops c i = false) (hd : Nat.blt d n = true)
    (h : CC P C n S ops c Q rest (i + 1) ((d, a) :: f) ph) : CC P C n S ops c Q (⟨some d, op, ty, pos, af, none⟩ :: rest) i f ph := by
  have hic : i ≠ c := fun e => by subst e; simp at hc
  refine ⟨a, ⟨_, hi, hd, .inr ⟨hic, fun _ => YA.oI h0 hd, fun _ => YA.oI h1 hd, fun _ => b0, fun _ => b1⟩⟩, ?_⟩
  rw [fH hi]
  simp only [if_neg hic]
  unfold CC at h
  rw [eP] at h
  exact h
theorem yy (h0 : Pu P C n ⟨cp f (slotsOf op), S.bx0, S.lv0, S.gen0⟩ ⟨some d, op, ty, pos, af, none⟩ a)
    (hi : ops[i]? = some ⟨some d, op, ty, pos, af, none⟩) (hc : Nat.beq i c = false) (b0 : bX .any ops i c = false) (b1 : bX .any ops c i = true) (hd : Nat.blt d n = true)
    (h : CC P C n S ops c Q rest (i + 1) ((d, a) :: f) false) : CC P C n S ops c Q (⟨some d, op, ty, pos, af, none⟩ :: rest) i f false := by
  have hic : i ≠ c := fun e => by subst e; simp at hc
  refine ⟨a, ⟨_, hi, hd, .inr ⟨hic, fun _ => YA.oI h0 hd, (fun h => by rw [b1] at h; cases h), fun _ => b0, fun h => by cases h⟩⟩, ?_⟩
  rw [fH hi]
  simp only [if_neg hic]
  unfold CC at h
  rw [eP] at h
  exact h
theorem zj (hx : ∀ g, WO P C n ops (fun e st => e = .normal ∧ st = ⟨(d, a) :: (cp f (slotsOf op) ++ g), S.bx1, S.lv1, S.gen1⟩) [⟨some d, op, ty, pos, af, none⟩] ⟨cp f (slotsOf op) ++ g, S.bx0, S.lv0, S.gen0⟩)
    (hi : ops[i]? = some ⟨some d, op, ty, pos, af, none⟩) (hc : Nat.beq i c = true) (hd : Nat.blt d n = true) (h : CC P C n S ops c Q rest (i + 1) ((d, a) :: f) true) : CC P C n S ops c Q (⟨some d, op, ty, pos, af, none⟩ :: rest) i f false := by
  have hic : i = c := Nat.eq_of_beq_eq_true hc
  refine ⟨a, ⟨_, hi, hd, .inl ⟨hic, rfl, rfl, cp f (slotsOf op), fun t x hx => ?_, fun g => hx g⟩⟩, ?_⟩
  · obtain ⟨h1, h2⟩ := eo hx
    exact ⟨h1, List.mem_append.2 (.inl h2)⟩
  · rw [fH hi]
    simp only [if_pos hic]
    unfold CC at h
    rw [eP] at h
    exact h
variable {bx0 bx1 : List (Nat × List A)} {lv0 lv1 : List Nat} {gen0 gen1 : Nat}
theorem CC.nil (h : Q ⟨f, bx1, lv1, gen1⟩) : CC P C n ⟨bx0, bx1, lv0, lv1, gen0, gen1⟩ ops c Q [] i f true :=
  CC.zl (S := ⟨bx0, bx1, lv0, lv1, gen0, gen1⟩) h
theorem aX (h1 : Pu P C n ⟨cp f (slotsOf op), bx1, lv1, gen1⟩ ⟨some d, op, ty, pos, af, none⟩ a) (h0 : Pu P C n ⟨cp f (slotsOf op), bx0, lv0, gen0⟩ ⟨some d, op, ty, pos, af, none⟩ a)
    (hi : ops[i]? = some ⟨some d, op, ty, pos, af, none⟩) (hc : Nat.beq i c = false) (b0 : bX .any ops i c = false) (b1 : bX .any ops c i = false) (hd : Nat.blt d n = true)
    (h : CC P C n ⟨bx0, bx1, lv0, lv1, gen0, gen1⟩ ops c Q rest (i + 1) ((d, a) :: f) ph) : CC P C n ⟨bx0, bx1, lv0, lv1, gen0, gen1⟩ ops c Q (⟨some d, op, ty, pos, af, none⟩ :: rest) i f ph :=
  yQ (S := ⟨bx0, bx1, lv0, lv1, gen0, gen1⟩) h1 h0 hi hc b0 b1 hd h
theorem fh (h0 : Pu P C n ⟨cp f (slotsOf op), bx0, lv0, gen0⟩ ⟨some d, op, ty, pos, af, none⟩ a)
    (hi : ops[i]? = some ⟨some d, op, ty, pos, af, none⟩) (hc : Nat.beq i c = false) (b0 : bX .any ops i c = false) (b1 : bX .any ops c i = true) (hd : Nat.blt d n = true)
    (h : CC P C n ⟨bx0, bx1, lv0, lv1, gen0, gen1⟩ ops c Q rest (i + 1) ((d, a) :: f) false) : CC P C n ⟨bx0, bx1, lv0, lv1, gen0, gen1⟩ ops c Q (⟨some d, op, ty, pos, af, none⟩ :: rest) i f false :=
  yy (S := ⟨bx0, bx1, lv0, lv1, gen0, gen1⟩) h0 hi hc b0 b1 hd h
theorem qR (hx : ∀ g, WO P C n ops (fun e st => e = .normal ∧ st = ⟨(d, a) :: (cp f (slotsOf op) ++ g), bx1, lv1, gen1⟩) [⟨some d, op, ty, pos, af, none⟩] ⟨cp f (slotsOf op) ++ g, bx0, lv0, gen0⟩)
    (hi : ops[i]? = some ⟨some d, op, ty, pos, af, none⟩) (hc : Nat.beq i c = true) (hd : Nat.blt d n = true) (h : CC P C n ⟨bx0, bx1, lv0, lv1, gen0, gen1⟩ ops c Q rest (i + 1) ((d, a) :: f) true) : CC P C n ⟨bx0, bx1, lv0, lv1, gen0, gen1⟩ ops c Q (⟨some d, op, ty, pos, af, none⟩ :: rest) i f false :=
  zj (S := ⟨bx0, bx1, lv0, lv1, gen0, gen1⟩) hx hi hc hd h
end
end Go.Ab
namespace Go.Ab
open Go.RowKit
/-! ### whatever the states are: with paths in place of edges -/
section
variable {P : Program} {ops : Array Oper} {md : Region.Mode} {m : Nat} {S E : Type} {Y : Nat → E → S → Prop} {ef : Nat → E → S → S}
def loose (md : Region.Mode) (ops : Array Oper) (i j : Nat) : Prop := bW md ops ops.size i j = false ∧ bW md ops ops.size j i = false
theorem ss {j i : Nat} {oj : Oper} {e : Edge} (hj : ops[j]? = some oj) (he : e ∈ oj.after) (hb : Region.binds md e = true) (h : e.on = i) : bX md ops j i = true := by
  unfold bX
  rw [hj]
  exact List.any_eq_true.2 ⟨e, by simpa using he, by simp [hb, h]⟩
theorem py {j i : Nat} (h : bW md ops ops.size j i = false) (hj : j < ops.size) : bX md ops j i = false := by
  cases q : ops.size with
  | zero => omega
  | succ k =>
    rw [q] at h
    simp only [bW, Bool.or_eq_false_iff] at h
    exact h.1
theorem lI {i j : Nat} {listed : Array Bool} (hc : dF md ops listed) (hi : i ∈ Region.ready md ops listed) (hj : listed.getD j true = false) : bW md ops ops.size i j = false := by
  obtain ⟨_, oi, hoi, hall⟩ := mem_ready.1 hi
  cases q : bW md ops ops.size i j with
  | false => rfl
  | true =>
    have := iB hc _ i j q fun o ho e he hb => by rw [hoi] at ho; cases ho; exact hall e he hb
    rw [eN hj] at this
    cases this
theorem rJ {Q : S → Prop} {i : Nat} {oi : Oper} {e : E} (hw : j7 md ops m = true) (him : i < m) (hi : ops[i]? = some oi) :
    ∀ (fuel : Nat) (listed : Array Bool) (σ : S), dF md ops listed →
      (∀ j oj, ops[j]? = some oj → j ≠ i → j < m → listed.getD j true = false → bW md ops ops.size j i = false → kV Y ef i j) →
      i ∈ Region.ready md ops listed → Y i e σ → oe Y ef m md ops Q fuel (listed.setIfInBounds i true) (ef i e σ) → oe Y ef m md ops Q (fuel + 1) listed σ := by
  have unl : ∀ {listed : Array Bool}, i ∈ Region.ready md ops listed → listed.getD i false = false := fun hr => eN (mem_ready.1 hr).1
  intro fuel
  induction fuel with
  | zero =>
    intro listed σ hc _ hr hy H
    refine ⟨fun h => (by rw [h] at hr; cases hr), fun j hj => ?_⟩
    by_cases hji : j = i
    · subst hji; exact ⟨e, hy, H⟩
    · exfalso
      obtain ⟨⟨_, h1, h2⟩, _⟩ := H
      have hj1 := (mem_ready.1 hj).1
      by_cases hjm : j < m
      · have := h1 j hjm
        rw [getD_set_ne false (Ne.symm hji)] at this
        rw [eN hj1] at this
        cases this
      · have := k0 hw (by omega) (show i < j by omega) hc hj
        rw [unl hr] at this
        cases this
  | succ fuel ih =>
    intro listed σ hc hfree hr hy H
    refine ⟨fun h => (by rw [h] at hr; cases hr), fun j hj => ?_⟩
    by_cases hji : j = i
    · subst hji; exact ⟨e, hy, H⟩
    · obtain ⟨e', hy', H'⟩ := H.2 j (ready_mono hj hji)
      obtain ⟨hjun, oj, hoj, hall⟩ := mem_ready.1 hj
      have hnot : bW md ops ops.size j i = false := lI hc hj (mem_ready.1 hr).1
      have hjm : j < m := by
        rcases Nat.lt_or_ge j m with h | h
        · exact h
        · have := k0 hw h (show i < j by omega) hc hj
          rw [unl hr] at this
          cases this
      obtain ⟨s1, s2, s3⟩ := hfree j oj hoj hji hjm hjun hnot e e' σ hy hy'
      have hfree' : ∀ k ok, ops[k]? = some ok → k ≠ i → k < m → (listed.setIfInBounds j true).getD k true = false → bW md ops ops.size k i = false → kV Y ef i k := fun k ok hk hki hkm hun hno => by
        refine hfree k ok hk hki hkm ?_ hno
        by_cases hjk : j = k
        · subst hjk; exact hjun
        · rw [getD_set_ne true hjk] at hun; exact hun
      refine ⟨e', s1, ih (listed.setIfInBounds j true) _ (hc.add hj) hfree' (ready_mono hr (Ne.symm hji)) s2 ?_⟩
      rw [Array.setIfInBounds_comm _ _ hji, ← s3]
      exact H'
theorem oV {Q : S → Prop} (hw : j7 md ops m = true)
    (hsw : ∀ i j oi oj, ops[i]? = some oi → ops[j]? = some oj → i ≠ j → i < m → j < m → oi.apart ops oj = true → loose md ops i j → kV Y ef i j) :
    ∀ (l : List Oper) (k : Nat) (listed : Array Bool) (σ : S), k + l.length = m → (∀ j, j < l.length → l[j]? = ops[k + j]?) → dF md ops listed →
    listed.size = ops.size → (∀ j, j < k → listed.getD j false = true) → (∀ j, k ≤ j → j < ops.size → listed.getD j true = false) →
    nS md ops l.length k listed = true → tu Y ef Q l k σ → oe Y ef m md ops Q l.length listed σ
  | [], k, listed, σ, hk, _, _, hs, h1, h2, _, h => ⟨⟨hs, fun j hj => h1 j (by simp at hk; omega), fun j hj hj' => h2 j (by simp at hk; omega) hj'⟩, h⟩
  | o :: l, k, listed, σ, hk, hl, hc, hs, h1, h2, hB, h => by
    have h0 : ops[k]? = some o := by simpa using (hl 0 (by simp)).symm
    have hks : k < ops.size := (Array.getElem?_eq_some_iff.1 h0).1
    simp only [List.length_cons, nS, Bool.and_eq_true] at hB
    obtain ⟨⟨hr, hf⟩, hB'⟩ := hB
    have hr' : k ∈ Region.ready md ops listed := by simpa using hr
    obtain ⟨e, hy, hK⟩ := h
    have hkm : k < m := by simp at hk; omega
    refine rJ hw hkm h0 l.length listed σ hc (fun j oj hoj hjk hjm hun hno => hsw k j o oj h0 hoj (Ne.symm hjk) hkm hjm (Region.free_spec h0 hf j oj hoj hjk hun fun e he hb heq => ?_) ⟨lI hc hr' hun, hno⟩) hr' hy
      (oV hw hsw l (k + 1) _ _ (by simp at hk; omega) (fun j hj => by have := hl (j + 1) (by simpa using hj); simpa [Nat.add_assoc, Nat.add_comm 1 j] using this) (hc.add hr') (by simpa using hs) (fun j hj => ?_) (fun j hj hj' => ?_) hB' hK)
    · have h3 := py hno (Array.getElem?_eq_some_iff.1 hoj).1
      rw [ss hoj he hb heq] at h3
      cases h3
    · rcases Nat.lt_succ_iff_lt_or_eq.1 hj with hlt | rfl
      · exact getD_set_true (h1 j hlt)
      · simp [hs, hks]
    · rw [getD_set_ne true (by omega)]
      exact h2 j (by omega) hj'
end
/-! ### what a renumbering leaves as it is -/
mutual
theorem nA {o o' : List Nat} (h : ∀ g, pos o g = some g → pos o' g = some g) : ∀ a, aY o a = a → aY o' a = a
  | .own g es, e => by
    simp only [aY] at e ⊢
    cases q : pos o g with
    | none => rw [q] at e; cases e
    | some i =>
      rw [q] at e
      simp only [A.own.injEq, and_true] at e
      subst e
      rw [h _ q]
  | .ptr g off, e => by
    simp only [aY] at e ⊢
    cases q : pos o g with
    | none => rw [q] at e; cases e
    | some i =>
      rw [q] at e
      simp only [A.ptr.injEq, and_true] at e
      subst e
      rw [h _ q]
  | .xs g es, e => by
    simp only [aY] at e ⊢
    cases q : pos o g with
    | none => rw [q] at e; cases e
    | some i =>
      rw [q] at e
      simp only [A.xs.injEq, and_true] at e
      subst e
      rw [h _ q]
  | .xp g i off l, e => by
    simp only [aY] at e ⊢
    cases q : pos o g with
    | none => rw [q] at e; cases e
    | some j =>
      rw [q] at e
      simp only [A.xp.injEq, and_true] at e
      subst e
      rw [h _ q]
  | .mp g es, e => by
    simp only [aY] at e ⊢
    cases q : pos o g with
    | none => rw [q] at e; cases e
    | some i =>
      rw [q] at e
      simp only [A.mp.injEq, and_true] at e
      subst e
      rw [h _ q]
  | .mq g es, e => by
    simp only [aY] at e ⊢
    cases q : pos o g with
    | none => rw [q] at e; cases e
    | some i =>
      rw [q] at e
      simp only [A.mq.injEq, and_true] at e
      subst e
      rw [h _ q]
  | .mo g es hole ob, e => by
    simp only [aY] at e ⊢
    cases q : pos o g with
    | none => rw [q] at e; cases e
    | some i =>
      rw [q] at e
      simp only [A.mo.injEq, and_true] at e
      subst e
      rw [h _ q]
  | .lk g n c v, e => by
    simp only [aY] at e ⊢
    cases q : pos o g with
    | none => rw [q] at e; cases e
    | some i =>
      rw [q] at e
      simp only [A.lk.injEq, and_true] at e
      subst e
      rw [h _ q]
  | .ow g es v, e => by
    simp only [aY] at e ⊢
    cases q : pos o g with
    | none => rw [q] at e; cases e
    | some i =>
      rw [q] at e
      simp only [A.ow.injEq, and_true] at e
      subst e
      rw [h _ q]
  | .sb g n c, e => by
    simp only [aY] at e ⊢
    cases q : pos o g with
    | none => rw [q] at e; cases e
    | some i =>
      rw [q] at e
      simp only [A.sb.injEq, and_true] at e
      subst e
      rw [h _ q]
  | .np g T u, e => by
    simp only [aY] at e ⊢
    cases q : pos o g with
    | none => rw [q] at e; cases e
    | some i =>
      rw [q] at e
      simp only [A.np.injEq, and_true] at e
      subst e
      rw [h _ q]
  | .bf g T s, e => by
    simp only [aY] at e ⊢
    cases q : pos o g with
    | none => rw [q] at e; cases e
    | some i =>
      rw [q] at e
      simp only [A.bf.injEq, and_true] at e
      subst e
      rw [h _ q]
  | .agg l, e => by simp only [aY, A.agg.injEq] at e ⊢; exact gg h l e
  | .tup l, e => by simp only [aY, A.tup.injEq] at e ⊢; exact gg h l e
  | .row l, e => by simp only [aY, A.row.injEq] at e ⊢; exact gg h l e
  | .clo f l, e => by simp only [aY, A.clo.injEq, true_and] at e ⊢; exact gg h l e
  | .bnd f l, e => by simp only [aY, A.bnd.injEq, true_and] at e ⊢; exact gg h l e
  | .d _, _ => rfl
  | .ag _, _ => rfl
  | .rowd _, _ => rfl
  | .ni, _ => rfl
  | .fl _, _ => rfl
  | .any, _ => rfl
theorem gg {o o' : List Nat} (h : ∀ g, pos o g = some g → pos o' g = some g) : ∀ l, dk o l = l → dk o' l = l
  | [], _ => rfl
  | a :: l, e => by
    simp only [dk, List.cons.injEq] at e ⊢
    exact ⟨nA h a e.1, gg h l e.2⟩
end
def rM (o o' : List Nat) : Bool := (List.range o.length).all fun g => !(pos o g == some g) || pos o' g == some g
theorem rO {o o' : List Nat} (h : rM o o' = true) (g : Nat) (hg : pos o g = some g) : pos o' g = some g := by
  have hlt := (List.getElem?_eq_some_iff.1 (bq hg)).1
  have := List.all_eq_true.1 h g (List.mem_range.2 hlt)
  simp only [hg, beq_self_eq_true, Bool.not_true, Bool.false_or, beq_iff_eq] at this
  exact this
end Go.Ab
namespace Go.Ab
open Go.RowKit
section
variable {P : Program} {C : Ctx} {n : Nat} {ops : Array Oper} {Q : Exit → St → Prop} {f : List (Nat × A)} {bx : List (Nat × List A)} {lv : List Nat} {gen : Nat}
end
end Go.Ab
namespace Go.Ab
open Go.RowKit
structure fK where
  bxF : Nat → List (Nat × List A)
  bxT : Nat → List (Nat × List A)
  lv : Nat → List Nat
  gen : Nat → Nat
  ord : Nat → List Nat
  g0 : Nat
  z : List A
  cs : List Nat
  al : Nat
  R : List PanicEntry → Prop
def fK.bx (S : fK) (k : Nat) (b : Bool) : List (Nat × List A) := bif b then S.bxT k else S.bxF k
abbrev vo (dw : List (List (Nat × List A))) (lvs : List (List Nat)) (gens : List Nat) (cs : List Nat) (al : Nat) : fK := ⟨fun _ => [], fun k => dw.getD k [], fun k => lvs.getD k [], fun k => gens.getD k 0, fun _ => [], 0, [], cs, al, fun _ => False⟩
def eI (S : fK) (ops : Array Oper) (i k : Nat) (b : Bool) : Bool :=
  ((List.range S.cs.length).all fun j => bif Nat.blt j k then !bW .any ops ops.size (S.cs.getD j 0) i else !bW .any ops ops.size i (S.cs.getD j 0)) &&
  (bif b then !bW .any ops ops.size S.al i else (Nat.blt S.al ops.size && !bW .any ops ops.size i S.al))
theorem ah {S : fK} {ops : Array Oper} {i k : Nat} {b : Bool} (h : eI S ops i k b = true) (h' : eI S ops i k b = false) : False := by rw [h] at h'; cases h'
section
variable {P : Program} (T : bm P) {C : Ctx} {n : Nat} (S : fK) {ops : Array Oper}
abbrev SD := cw × Nat × Bool
def xT (C : Ctx) (n : Nat) (S : fK) (b0 : Bool) (σ : SD) (act : Act) (w : World) : Prop :=
  (b0 = true → σ.2.2 = true) ∧ act.defers = C.ds ∧ ∃ G, db C n (S.bx σ.2.1 σ.2.2) (S.lv σ.2.1) (S.gen σ.2.1) σ.1 G act.tmps w ∧ (σ.2.2 = false → ∀ t a, σ.1 t = some a → aY (S.ord σ.2.1) a = a)
def yg (P : Program) (C : Ctx) (n : Nat) (S : fK) (ops : Array Oper) (o : Oper) (a : A) (k : Nat) (b : Bool) (φ : cw) : Prop :=
  o.guard = none ∧ ∃ p, (∀ t x, look p t = some x → φ t = some x ∧ t ∈ o.looksAt ops) ∧
    ∀ g, WO P C n ops (fun e st => (e = .normal ∧ st = St.put ⟨p ++ g, S.bx (k + 1) b, S.lv (k + 1), S.gen (k + 1)⟩ o.dst a) ∨ ∃ c, e = .panic c ∧ S.R c) [o] ⟨p ++ g, S.bx k b, S.lv k, S.gen k⟩
def YD (P : Program) (T : bm P) (C : Ctx) (n : Nat) (S : fK) (ops : Array Oper) (i : Nat) (a : A) (σ : SD) : Prop :=
  ∃ o, ops[i]? = some o ∧ cZ n o.dst = true ∧ σ.2.1 ≤ S.cs.length ∧ eI S ops i σ.2.1 σ.2.2 = true ∧
    ((S.cs[σ.2.1]? = some i ∧ i ≠ S.al ∧ (∀ b, eI S ops i σ.2.1 b = true → yg P C n S ops o a σ.2.1 b σ.1) ∧ (eI S ops i σ.2.1 false = true → aY (S.ord (σ.2.1 + 1)) a = a)) ∨
     (i ∉ S.cs ∧ i = S.al ∧ σ.2.2 = false ∧ o.guard = none ∧ a = .ptr S.g0 0 ∧ ∃ e d dt, o.op = .alloc e ∧ o.dst = some d ∧ ak T.l e = some dt ∧ S.z = dt.z.map fun v => A.d (.v v)) ∨
     (i ∉ S.cs ∧ i ≠ S.al ∧ ∀ k b, k ≤ S.cs.length → eI S ops i k b = true → YA P C n (S.bx k b) (S.lv k) (S.gen k) ops o a σ.1 ∧ (b = false → aY (S.ord k) a = a)))
def rj (S : fK) (ops : Array Oper) (i : Nat) (a : A) (σ : SD) : SD :=
  match ops[i]? with
  | none => σ
  | some o => (bu σ.1 o.dst a, (if S.cs[σ.2.1]? = some i then σ.2.1 + 1 else σ.2.1), if i = S.al then true else σ.2.2)
variable {T} {S}
theorem lp {o : Oper} {a : A} {k : Nat} {b : Bool} {φ : cw} {dst : Option Nat} {x : A} (hd : ∀ d, dst = some d → d ∉ o.looksAt ops) : yg P C n S ops o a k b (bu φ dst x) ↔ yg P C n S ops o a k b φ := by
  constructor
  · rintro ⟨h0, p, h1, h2⟩
    exact ⟨h0, p, fun t y hy => ⟨(jR hd (h1 t y hy).2).symm.trans (h1 t y hy).1, (h1 t y hy).2⟩, h2⟩
  · rintro ⟨h0, p, h1, h2⟩
    exact ⟨h0, p, fun t y hy => ⟨(jR hd (h1 t y hy).2).trans (h1 t y hy).1, (h1 t y hy).2⟩, h2⟩
theorem pX {i k c : Nat} {b : Bool} (h : S.cs[k]? = some c) (hl : loose .any ops i c) : eI S ops i (k + 1) b = eI S ops i k b := by
  unfold eI
  congr 1
  rw [Bool.eq_iff_iff, List.all_eq_true, List.all_eq_true]
  have hk : S.cs.getD k 0 = c := by simp [List.getD_eq_getElem?_getD, h]
  have key : ∀ j, (bif Nat.blt j (k + 1) then !bW .any ops ops.size (S.cs.getD j 0) i else !bW .any ops ops.size i (S.cs.getD j 0)) = (bif Nat.blt j k then !bW .any ops ops.size (S.cs.getD j 0) i else !bW .any ops ops.size i (S.cs.getD j 0)) := fun j => by
    rcases Nat.lt_trichotomy j k with hj | rfl | hj
    · have h1 : Nat.blt j (k + 1) = true := by simp [Nat.blt_eq]; omega
      have h2 : Nat.blt j k = true := by simp [Nat.blt_eq]; omega
      rw [h1, h2]
    · have h1 : Nat.blt j (j + 1) = true := by simp [Nat.blt_eq]
      have h2 : Nat.blt j j = false := by cases q : Nat.blt j j with | false => rfl | true => simp [Nat.blt_eq] at q
      rw [h1, h2, hk, hl.1, hl.2]
      rfl
    · have h1 : Nat.blt j (k + 1) = false := by cases q : Nat.blt j (k + 1) with | false => rfl | true => simp [Nat.blt_eq] at q; omega
      have h2 : Nat.blt j k = false := by cases q : Nat.blt j k with | false => rfl | true => simp [Nat.blt_eq] at q; omega
      rw [h1, h2]
  exact ⟨fun h j hj => by rw [← key]; exact h j hj, fun h j hj => by rw [key]; exact h j hj⟩
theorem mE {i k : Nat} (hlt : S.al < ops.size) (hl : loose .any ops i S.al) : eI S ops i k true = eI S ops i k false := by
  unfold eI
  have h : Nat.blt S.al ops.size = true := by rw [Nat.blt_eq]; exact hlt
  rw [hl.1, hl.2, h]
  rfl
theorem loose.symm {md : Region.Mode} {i j : Nat} (h : loose md ops i j) : loose md ops j i := ⟨h.2, h.1⟩
theorem jt {i : Nat} {o : Oper} (h : ops[i]? = some o) (a : A) (σ : SD) : rj S ops i a σ = (bu σ.1 o.dst a, (if S.cs[σ.2.1]? = some i then σ.2.1 + 1 else σ.2.1), if i = S.al then true else σ.2.2) := by unfold rj; rw [h]
theorem pN {i k c : Nat} {b : Bool} (h : S.cs[k]? = some c) (hl : loose .any ops i c) (ha : eI S ops i (k + 1) b = true) : eI S ops i k b = true := by rw [← pX h hl]; exact ha
theorem pA {i k c : Nat} {b : Bool} (h : S.cs[k]? = some c) (hl : loose .any ops i c) (ha : eI S ops i k b = true) : eI S ops i (k + 1) b = true := by rw [pX h hl]; exact ha
theorem yI (hch : ∀ k c c', S.cs[k]? = some c → S.cs[k + 1]? = some c' → bW .any ops ops.size c' c = true) {i j : Nat} {oi oj : Oper} (hi : ops[i]? = some oi) (hj : ops[j]? = some oj) (hij : i ≠ j) (hap : oi.apart ops oj = true) (hl : loose .any ops i j) :
    kV (YD P T C n S ops) (rj S ops) i j := by
  obtain ⟨a1, a2, a3⟩ := Oper.apart_spec hap
  rintro a b ⟨φ, k, ph⟩ ⟨oi', hi', di, hk, ai, hyi⟩ ⟨oj', hj', dj, hk2, aj, hyj⟩
  rw [hi] at hi'
  cases hi'
  rw [hj] at hj'
  cases hj'
  have hcomm : bu (bu φ oi.dst a) oj.dst b = bu (bu φ oj.dst b) oi.dst a := lf φ a b a2
  have mem_of : ∀ {k c : Nat}, S.cs[k]? = some c → c ∈ S.cs := fun h => List.mem_of_getElem? h
  have klt : ∀ {k c : Nat}, S.cs[k]? = some c → k + 1 ≤ S.cs.length := fun h => (List.getElem?_eq_some_iff.1 h).1
  rw [jt hi] at aj hyj hk2
  simp only [jt hi, jt hj]
  simp only at hk ai hyi hk2 aj hyj
  rcases hyi with ⟨ci, nai, xi, fi⟩ | ⟨nci, ali, rfl, gi, ei, hi6⟩ | ⟨nci, nai, yi⟩
  · -- i is of the chain
    simp only [if_pos ci, if_neg nai] at aj hyj hk2
    rcases hyj with ⟨cj, _⟩ | ⟨ncj, alj, rfl, gj, ej, hj6⟩ | ⟨ncj, naj, yj⟩
    · exact absurd (hch k i j ci cj) (by rw [hl.2]; simp)
    · have hsi : loose .any ops i S.al := by rw [← alj]; exact hl
      have hlt : S.al < ops.size := by rw [← alj]; exact (Array.getElem?_eq_some_iff.1 hj).1
      have n1 : ¬ S.cs[k]? = some j := fun h => ncj (mem_of h)
      refine ⟨⟨oj, hj, dj, hk, pN ci hl.symm aj, .inr (.inl ⟨ncj, alj, rfl, gj, ej, hj6⟩)⟩, ?_, ?_⟩
      · refine ⟨oi, hi, di, ?_, ?_, .inl ⟨?_, nai, fun b hb => (lp a3).2 ?_, ?_⟩⟩
        all_goals simp only [if_neg n1]
        · exact hk
        · rw [if_pos alj, mE hlt hsi]; exact ai
        · exact ci
        · simp only [if_neg n1] at hb
          exact xi b hb
        · exact fi
      · simp only [if_pos ci, if_neg nai, if_pos alj, if_neg n1, hcomm]
        have n2 : ¬ S.cs[k + 1]? = some j := fun h => ncj (mem_of h)
        rw [if_neg n2]
    · have n1 : ¬ S.cs[k]? = some j := fun h => ncj (mem_of h)
      have n2 : ¬ S.cs[k + 1]? = some j := fun h => ncj (mem_of h)
      refine ⟨⟨oj, hj, dj, hk, pN ci hl.symm aj, .inr (.inr ⟨ncj, naj, fun k b h1 h2 => ⟨(dn a1).1 (yj k b h1 h2).1, (yj k b h1 h2).2⟩⟩)⟩, ?_, ?_⟩
      · refine ⟨oi, hi, di, ?_, ?_, .inl ⟨?_, nai, fun b hb => (lp a3).2 ?_, ?_⟩⟩
        all_goals simp only [if_neg n1]
        · exact hk
        · rw [if_neg naj]; exact ai
        · exact ci
        · simp only [if_neg n1] at hb
          exact xi b hb
        · exact fi
      · simp only [if_pos ci, if_neg nai, if_neg naj, if_neg n1, if_neg n2, hcomm]
  · -- i is the allocation
    have n1 : ¬ S.cs[k]? = some i := fun h => nci (mem_of h)
    simp only [if_neg n1, if_pos ali] at aj hyj hk2
    have hsj : loose .any ops j S.al := by rw [← ali]; exact hl.symm
    have hlt : S.al < ops.size := by rw [← ali]; exact (Array.getElem?_eq_some_iff.1 hi).1
    rcases hyj with ⟨cj, naj, xj, fj⟩ | ⟨_, alj, h, _⟩ | ⟨ncj, naj, yj⟩
    · have n2 : ¬ S.cs[k + 1]? = some i := fun h => nci (mem_of h)
      refine ⟨⟨oj, hj, dj, hk, by rw [← mE hlt hsj]; exact aj, .inl ⟨cj, naj, fun b hb => (lp a1).1 (xj b hb), fj⟩⟩, ?_, ?_⟩
      · refine ⟨oi, hi, di, ?_, ?_, .inr (.inl ⟨nci, ali, ?_, gi, ei, hi6⟩)⟩
        all_goals simp only [if_pos cj, if_neg naj]
        · exact klt cj
        · exact pA cj hl ai
      · simp only [if_neg n1, if_pos ali, if_pos cj, if_neg naj, if_neg n2, hcomm]
    · exact absurd (ali.trans alj.symm) hij
    · have n3 : ¬ S.cs[k]? = some j := fun h => ncj (mem_of h)
      refine ⟨⟨oj, hj, dj, hk, by rw [← mE hlt hsj]; exact aj, .inr (.inr ⟨ncj, naj, fun k b h1 h2 => ⟨(dn a1).1 (yj k b h1 h2).1, (yj k b h1 h2).2⟩⟩)⟩, ?_, ?_⟩
      · refine ⟨oi, hi, di, ?_, ?_, .inr (.inl ⟨nci, ali, ?_, gi, ei, hi6⟩)⟩
        all_goals simp only [if_neg n3, if_neg naj]
        · exact hk
        · exact ai
      · simp only [if_neg n1, if_pos ali, if_neg n3, if_neg naj, hcomm]
  · -- i leaves the ghost
    have n1 : ¬ S.cs[k]? = some i := fun h => nci (mem_of h)
    simp only [if_neg n1, if_neg nai] at aj hyj hk2
    rcases hyj with ⟨cj, naj, xj, fj⟩ | ⟨ncj, alj, rfl, gj, ej, hj6⟩ | ⟨ncj, naj, yj⟩
    · have n2 : ¬ S.cs[k + 1]? = some i := fun h => nci (mem_of h)
      refine ⟨⟨oj, hj, dj, hk, aj, .inl ⟨cj, naj, fun b hb => (lp a1).1 (xj b hb), fj⟩⟩, ?_, ?_⟩
      · refine ⟨oi, hi, di, ?_, ?_, .inr (.inr ⟨nci, nai, fun k b h1 h2 => ⟨(dn a3).2 (yi k b h1 h2).1, (yi k b h1 h2).2⟩⟩)⟩
        all_goals simp only [if_pos cj, if_neg naj]
        · exact klt cj
        · exact pA cj hl ai
      · simp only [if_neg n1, if_neg nai, if_pos cj, if_neg naj, if_neg n2, hcomm]
    · have n3 : ¬ S.cs[k]? = some j := fun h => ncj (mem_of h)
      have hsi : loose .any ops i S.al := by rw [← alj]; exact hl
      have hlt : S.al < ops.size := by rw [← alj]; exact (Array.getElem?_eq_some_iff.1 hj).1
      refine ⟨⟨oj, hj, dj, hk, aj, .inr (.inl ⟨ncj, alj, rfl, gj, ej, hj6⟩)⟩, ?_, ?_⟩
      · refine ⟨oi, hi, di, ?_, ?_, .inr (.inr ⟨nci, nai, fun k b h1 h2 => ⟨(dn a3).2 (yi k b h1 h2).1, (yi k b h1 h2).2⟩⟩)⟩
        all_goals simp only [if_neg n3, if_pos alj]
        · exact hk
        · rw [mE hlt hsi]; exact ai
      · simp only [if_neg n1, if_neg nai, if_neg n3, if_pos alj, hcomm]
    · have n3 : ¬ S.cs[k]? = some j := fun h => ncj (mem_of h)
      refine ⟨⟨oj, hj, dj, hk, aj, .inr (.inr ⟨ncj, naj, fun k b h1 h2 => ⟨(dn a1).1 (yj k b h1 h2).1, (yj k b h1 h2).2⟩⟩)⟩, ?_, ?_⟩
      · refine ⟨oi, hi, di, ?_, ?_, .inr (.inr ⟨nci, nai, fun k b h1 h2 => ⟨(dn a3).2 (yi k b h1 h2).1, (yi k b h1 h2).2⟩⟩)⟩
        all_goals simp only [if_neg n3, if_neg naj]
        · exact hk
        · exact ai
      · simp only [if_neg n1, if_neg nai, if_neg n3, if_neg naj, hcomm]
theorem WO.yJ {o : Oper} (hg : o.guard = none) {st : St} {Q1 Q2 : Exit → St → Prop} (hl : ∀ e st, Q1 e st → e ≠ .outgrown) (hq : ∀ e st, Q1 e st → Q2 e st) (h : WO P C n ops Q1 [o] st) : WO P C n ops Q2 [o] st := by
  intro tmps w hs
  have hw : Region.wanted o (yielded ops tmps) = true := by simp [Region.wanted, hg]
  have h := h tmps w hs
  simp only [dh, hw, if_true] at h ⊢
  refine Oper.om (fun c a w ⟨h1, st', h2, h3⟩ => ⟨h1, st', h2, hq _ _ h3⟩) (fun hlo => by obtain ⟨_, _, hq0⟩ := hlo; obtain ⟨_, st', _, he⟩ := hq0; exact hl _ _ he rfl) (fun act2 w2 ⟨h1, st', h2, h3⟩ => ⟨h1, st', h2, hq _ _ h3⟩) h
theorem WO.ye {o : Oper} (hg : o.guard = none) {st st1 : St} {G : Gh} {tmps : Array Value} {w : World} {R : List PanicEntry → Prop} {Q' : Exit → Act → World → Prop} (hR : ∀ c act w, R c → act.defers = C.ds → (∃ st, dE C n st act.tmps w) → Q' (.panic c) act w) (h : WO P C n ops (fun e st => (e = .normal ∧ st = st1) ∨ ∃ c, e = .panic c ∧ R c) [o] st) (hs : ar C n st G tmps w) :
    o.wp P ⟨tmps, C.ds⟩ w (fun act w => act.defers = C.ds ∧ ∃ G, ar C n st1 G act.tmps w) Q' := by
  have hw : Region.wanted o (yielded ops tmps) = true := by simp [Region.wanted, hg]
  have h := h tmps w ⟨G, hs⟩
  simp only [dh, hw, if_true] at h
  refine Oper.om (fun c a w hq => ?_) (fun hl => ?_) (fun act2 w2 hq => ?_) h
  · obtain ⟨h1, st', h2, he | ⟨c', he, hc⟩⟩ := hq
    · cases he.1
    · cases he
      exact hR c a w hc h1 ⟨st', h2⟩
  · obtain ⟨_, _, hq⟩ := hl
    obtain ⟨_, st', _, he | ⟨c', he, hc⟩⟩ := hq
    · cases he.1
    · cases he
  · obtain ⟨hdf, st', ⟨G', hs2⟩, he | ⟨c', he, hc⟩⟩ := hq
    · obtain ⟨_, rfl⟩ := he
      exact ⟨hdf, G', hs2⟩
    · cases he
theorem qT {bx : List (Nat × List A)} {lv : List Nat} {gen : Nat} {φ : cw} {G : Gh} {tmps : Array Value} {w : World} (hs : db C n bx lv gen φ G tmps w) (t : Nat) (x : A) (hx : φ t = some x) : t < n := by
  obtain ⟨v, h1, _⟩ := hs.2 t x hx
  have := (Array.getElem?_eq_some_iff.1 h1).1
  rw [hs.1.size] at this
  exact this
theorem pQ {φ : cw} {p : List (Nat × A)} (hlt : ∀ t x, φ t = some x → t < n) (hp : ∀ t x, look p t = some x → φ t = some x) (t : Nat) : look (p ++ dp n φ) t = φ t := by
  rw [pV]
  cases q : look p t with
  | some x => exact (hp t x q).symm
  | none =>
    simp only
    unfold dp
    rw [iP]
    cases e : φ t with
    | none => split <;> rfl
    | some x => rw [if_pos (List.mem_range.2 (hlt t x e))]
theorem n9 {φ : cw} {f : List (Nat × A)} (h : ∀ t, look f t = φ t) {d : Nat} {a : A} {t : Nat} : look ((d, a) :: f) t = bu φ (some d) a t := by
  rw [aR]
  simp only [bu]
  by_cases e : t = d
  · subst e
    rw [if_pos rfl, if_pos rfl]
  · rw [if_neg e, if_neg (Ne.symm e), h]
def wk (S : fK) (nb k : Nat) : Prop := (fV (S.ord k) (S.gen k) nb = true ∧ pos (S.ord k) (S.gen k) = some S.g0) ∧ eZ (S.ord k) ((S.gen k, S.z) :: S.bxF k) (S.bxT k) ∧ lB (S.ord k) (S.lv k) (S.lv k) = true
def mC (S : fK) (nb : Nat) : Nat → Prop
  | 0 => wk S nb 0
  | k + 1 => wk S nb (k + 1) ∧ rM (S.ord k) (S.ord (k + 1)) = true ∧ mC S nb k
theorem mC.at {nb : Nat} : ∀ {m : Nat}, mC S nb m → ∀ k, k ≤ m → wk S nb k
  | 0, h, k, hk => by
    obtain rfl : k = 0 := by omega
    exact h
  | m + 1, h, k, hk => by
    rcases Nat.lt_or_ge k (m + 1) with hlt | hge
    · exact mC.at h.2.2 k (by omega)
    · obtain rfl : k = m + 1 := by omega
      exact h.1
theorem mC.mono {nb : Nat} : ∀ {m : Nat}, mC S nb m → ∀ k, k < m → rM (S.ord k) (S.ord (k + 1)) = true
  | 0, _, k, hk => absurd hk (Nat.not_lt_zero _)
  | m + 1, h, k, hk => by
    rcases Nat.lt_or_ge k m with hlt | hge
    · exact mC.mono h.2.2 k hlt
    · obtain rfl : k = m := by omega
      exact h.2.1
theorem yl {nb : Nat} [hnb : NB C nb] (b0 : Bool) (hok : b0 = false → mC S nb S.cs.length) (i : Nat) (a : A) (σ : SD) (act : Act) (w : World) (K : Act → World → Prop) {Q' : Exit → Act → World → Prop} (hR : ∀ c act w, S.R c → act.defers = C.ds → (∃ st, dE C n st act.tmps w) → Q' (.panic c) act w) (hs : xT C n S b0 σ act w) (hy : YD P T C n S ops i a σ) (hK : ∀ act w, xT C n S b0 (rj S ops i a σ) act w → K act w) : wpOp P ops Q' i K act w := by
  obtain ⟨tmps, dfs⟩ := act
  obtain ⟨hb0, rfl, G, hs, hfix⟩ := hs
  obtain ⟨φ, k, ph⟩ := σ
  obtain ⟨o, ho, hd, hkl, hal, hy⟩ := hy
  rw [jt ho] at hK
  simp only at hs hfix hkl hal hy hK hb0
  unfold wpOp
  simp only [ho]
  rcases hy with ⟨hc, nal, hx, hr⟩ | ⟨nc, hal', rfl, hg, rfl, e, d, dt, hop, hdst, he, hz⟩ | ⟨nc, nal, hya⟩
  · obtain ⟨hg, p, hp, hx⟩ := hx ph hal
    rw [if_pos hc, if_neg nal] at hK
    have hw : Region.wanted o (yielded ops tmps) = true := by simp [Region.wanted, hg]
    rw [hw, if_pos rfl]
    refine .inl ?_
    have hlook := pQ (qT hs) (fun t x hx => (hp t x hx).1)
    have hs' := hs.ml (f := p ++ dp n φ) fun t x hx => by rw [← hlook]; exact hx
    refine Oper.wp_mono (fun act2 w2 ⟨hdf, G', hs2⟩ => hK act2 w2 ⟨hb0, hdf, G', ?_, fun hph t x hx => ?_⟩) (WO.ye hg hR (hx (dp n φ)) hs')
    · show db C n (S.bx (k + 1) ph) (S.lv (k + 1)) (S.gen (k + 1)) (bu φ o.dst a) G' act2.tmps w2
      cases hdst : o.dst with
      | none =>
        rw [hdst] at hs2
        refine ⟨{ hs2 with frame := fun t a ha => by simp [look] at ha }, fun t x hx => hs2.frame t x ?_⟩
        show look (p ++ dp n φ) t = some x
        rw [hlook]
        exact hx
      | some d =>
        rw [hdst] at hs2
        refine ⟨{ hs2 with frame := fun t a ha => by simp [look] at ha }, fun t x hx => hs2.frame t x ?_⟩
        show look ((d, a) :: (p ++ dp n φ)) t = some x
        rw [n9 hlook]
        exact hx
    · simp only at hph hx
      have hbf : b0 = false := by cases b0 with | false => rfl | true => rw [hb0 rfl] at hph; cases hph
      have hm := rO ((hok hbf).mono k (List.getElem?_eq_some_iff.1 hc).1)
      cases hdst : o.dst with
      | none => rw [hdst] at hx; exact nA hm x (hfix hph t x hx)
      | some d =>
        rw [hdst] at hx
        simp only [bu] at hx
        split at hx
        · cases hx; exact hr (by rw [← hph]; exact hal)
        · exact nA hm x (hfix hph t x hx)
  · have hkc : ¬ S.cs[k]? = some i := fun h => nc (List.mem_of_getElem? h)
    rw [if_neg hkc, if_pos hal'] at hK
    have hw : Region.wanted o (yielded ops tmps) = true := by simp [Region.wanted, hg]
    rw [hw, if_pos rfl]
    refine .inl ?_
    have hbf : b0 = false := by cases b0 with | false => rfl | true => cases hb0 rfl
    obtain ⟨⟨hO, hpos⟩, hBR, hLR⟩ := (hok hbf).at k hkl
    have hlook : ∀ t, look (dp n φ) t = φ t := pQ (p := []) (qT hs) (fun t x hx => by simp [look] at hx)
    have hs' := hs.ml (f := dp n φ) fun t x hx => by rw [← hlook]; exact hx
    have hwo : WO P C n ops (fun e st => (e = .normal ∧ st = St.put ⟨dp n φ, (S.gen k, S.z) :: S.bx k false, S.lv k, S.gen k + 1⟩ o.dst (.ptr (S.gen k) 0)) ∨ ∃ c, e = .panic c ∧ False) [o] ⟨dp n φ, S.bx k false, S.lv k, S.gen k⟩ :=
      WO.alloc T hg hd hop he (WO.nil (.inl ⟨rfl, by rw [hz]⟩))
    refine Oper.wp_mono (fun act2 w2 ⟨hdf, G', hs2⟩ => hK act2 w2 ⟨fun _ => rfl, hdf, ja (S.ord k) G', ?_, fun h => by cases h⟩) (WO.ye (R := fun _ => False) hg (fun _ _ _ h => h.elim) hwo hs')
    simp only [fV, Bool.and_eq_true] at hO
    obtain ⟨⟨hO1, hO2⟩, hO3⟩ := hO
    rw [hdst] at hs2 ⊢
    have h3 : ar C n ⟨(d, .ptr S.g0 0) :: dp n φ, S.bxT k, S.lv k, S.gen k⟩ (ja (S.ord k) G') act2.tmps w2 := by
      refine ar.aY (gen' := S.gen k) hs2 (S.ord k) (ee hO1) (Nat.le_of_ble_eq_true hO2) (fun i hi => ?_) (fun t x hx => ?_) (fun i l' hl' => ?_) (fun i hi => ?_)
      · have h4 := kA hO3 i (by rw [← hnb.h]; exact hi)
        simpa using h4
      · rw [aR] at hx
        show ∃ a, look ((d, .ptr (S.gen k) 0) :: dp n φ) t = some a ∧ aY (S.ord k) a = x
        rw [aR]
        split at hx
        · rename_i e
          rw [if_pos e]
          cases hx
          exact ⟨_, rfl, by simp only [aY, hpos]⟩
        · rename_i e
          rw [if_neg e]
          rw [hlook] at hx ⊢
          exact ⟨x, hx, hfix rfl t x hx⟩
      · exact eZ.le hBR i l' hl'
      · exact nP hLR i hi
    refine ⟨{ h3 with frame := fun t a ha => by simp [look] at ha }, fun t x hx => h3.frame t x ?_⟩
    show look ((d, _) :: dp n φ) t = some x
    rw [n9 hlook]
    exact hx
  · have hkc : ¬ S.cs[k]? = some i := fun h => nc (List.mem_of_getElem? h)
    rw [if_neg hkc, if_neg nal] at hK
    obtain ⟨hya, hr⟩ := hya k ph hkl hal
    have hfix' : ph = false → ∀ t x, bu φ o.dst a t = some x → aY (S.ord k) x = x := fun hph t x hx => by
      cases hdst : o.dst with
      | none => rw [hdst] at hx; exact hfix hph t x hx
      | some d =>
        rw [hdst] at hx
        simp only [bu] at hx
        split at hx
        · cases hx; exact hr hph
        · exact hfix hph t x hx
    obtain ⟨_, ⟨hw, f, hf, hp⟩ | ⟨hw, rfl⟩⟩ := hya
    · rw [fE hs hw]
      simp only [if_true]
      refine .inl ?_
      have hg : cG P o ⟨tmps, []⟩ w fun v w' => Below w.heap.size w w' ∧ aA (ao C G (S.gen k) w') v a := hp G tmps w (hs.ml fun t x hx => (hf t x hx).1)
      refine hg.ds.wp fun v w' ⟨hb, hr⟩ => ?_
      rw [Act.eM]
      exact hK _ _ ⟨hb0, rfl, G, hs.step hb hd hr, hfix'⟩
    · rw [fE hs hw]
      simp only [Bool.false_eq_true, if_false]
      rw [Act.eM]
      exact hK _ _ ⟨hb0, rfl, G, hs.step (Below.refl _ _) hd (.tup #[] [] rfl (by simp)), hfix'⟩
def CD (P : Program) (T : bm P) (C : Ctx) (n : Nat) (S : fK) (ops : Array Oper) (Q : St → Prop) (l : List Oper) (i : Nat) (f : List (Nat × A)) (k : Nat) (b : Bool) : Prop :=
  tu (YD P T C n S ops) (rj S ops) (fun σ => ∃ f', (∀ t, look f' t = σ.1 t) ∧ σ.2 = (S.cs.length, true) ∧ Q ⟨f', S.bxT S.cs.length, S.lv S.cs.length, S.gen S.cs.length⟩) l i (look f, k, b)
def jE (ops : Array Oper) : List Nat → Bool
  | c :: c' :: r => bW .any ops ops.size c' c && jE ops (c' :: r)
  | _ => true
theorem lE {ops : Array Oper} : ∀ {cs : List Nat}, jE ops cs = true → ∀ k c c', cs[k]? = some c → cs[k + 1]? = some c' → bW .any ops ops.size c' c = true
  | [], _, k, c, c', h, _ => by simp at h
  | [_], _, k, c, c', _, h => by simp at h
  | x :: y :: r, h, k, c, c', h1, h2 => by
    simp only [jE, Bool.and_eq_true] at h
    cases k with
    | zero =>
      simp at h1 h2
      subst h1; subst h2
      exact h.1
    | succ k => exact lE h.2 k c c' (by simpa using h1) (by simpa using h2)
def mJ (o : List Nat) : List (Nat × A) → Prop
  | [] => True
  | (_, a) :: r => aY o a = a ∧ mJ o r
theorem mJ.at {o : List Nat} : ∀ {f : List (Nat × A)}, mJ o f → ∀ t a, look f t = some a → aY o a = a
  | [], _, t, a, h => by simp [look] at h
  | (s, x) :: r, hf, t, a, h => by
    rw [aR] at h
    split at h
    · cases h; exact hf.1
    · exact hf.2.at t a h
theorem W.qH (T : bm P) {nb : Nat} [hnb : NB C nb] {id : Nat} {l l1 l2 : List Oper} {f : List (Nat × A)} {bx : List (Nat × List A)} {lv : List Nat} {gen : Nat} {Q : Exit → St → Prop} (S : fK) (b0 : Bool) (m : Nat) (hB : fz m l.toArray = true) (hch : jE l.toArray S.cs = true) (h1 : l.take m = l1) (h2 : l.drop m = l2)
    (hR : ∀ c st, S.R c → Q (.panic c) st) (hok : b0 = false → mC S nb S.cs.length ∧ mJ (S.ord 0) f) (e1 : ∀ g c, ak (S.bx 0 b0) g = some c → ak bx g = some c) (e2 : S.lv 0 = lv) (e3 : Nat.ble gen (S.gen 0) = true)
    (h : CD P T C n S l.toArray (WO P C n l.toArray Q l2) l1 0 f 0 b0) : W P C n (.region id l.toArray true) Q ⟨f, bx, lv, gen⟩ := by
  subst h1; subst h2; subst e2
  intro tmps w ⟨G, hs⟩
  have hs : ar C n ⟨f, bx, S.lv 0, S.gen 0⟩ G tmps w := ar.later hs (g := S.gen 0) (Nat.le_of_ble_eq_true e3)
  have hs : ar C n ⟨f, S.bx 0 b0, S.lv 0, S.gen 0⟩ G tmps w := { hs with box := fun g c hc => hs.box g c (e1 g c hc) }
  simp only [fz, Bool.and_eq_true] at hB
  obtain ⟨⟨⟨hm, hw⟩, hfore⟩, hlex⟩ := hB
  have hm : m ≤ l.length := by simpa using Nat.le_of_ble_eq_true hm
  have hb : Below w.heap.size w { w with drawn := w.drawn + 1 } := (Below.refl _ w).drew
  have hs' : db C n (S.bx 0 b0) (S.lv 0) (S.gen 0) (look f) G tmps { w with drawn := w.drawn + 1 } := db.x5 (hs.fU hb).2
  have hlen : (l.take m).length = m := by simp; omega
  refine wp_region_any T.mixed ?_
  have hsz : l.toArray.size = (l.take m).length + (l.drop m).length := by simp; omega
  rw [hsz]
  have hcl : dF .any l.toArray (Array.replicate ((l.take m).length + (l.drop m).length) false) := fun j oj _ hl _ _ _ => by
    by_cases q : j < (l.take m).length + (l.drop m).length
    · simp only [Array.getD_eq_getD_getElem?, Array.getElem?_replicate] at hl
      rw [if_pos q] at hl
      cases hl
    · simp only [Array.getD_eq_getD_getElem?, Array.getElem?_replicate] at hl
      rw [if_neg q] at hl
      cases hl
  refine jK (m := m) (Sm := xT C n S b0) (Y := YD P T C n S l.toArray) (ef := rj S l.toArray) (Q := fun σ => ∃ f', (∀ t, look f' t = σ.1 t) ∧ σ.2 = (S.cs.length, true) ∧ WO P C n l.toArray Q (l.drop m) ⟨f', S.bxT S.cs.length, S.lv S.cs.length, S.gen S.cs.length⟩)
    (fun i e σ act w K hs hy hk => yl b0 (fun h => (hok h).1) i e σ act w K (fun c act w hc hd ⟨st, hs⟩ => ⟨hd, st, hs, hR c st hc⟩) hs hy hk) (fun listed σ act w hs hc hsp ⟨f', e1, e2, hq⟩ => ?_) _ _ (look f, 0, b0) ⟨tmps, C.ds⟩ _ ⟨fun h => h, rfl, G, hs', fun h => (hok h).2.at⟩ hcl ?_
  · obtain ⟨tmps, dfs⟩ := act
    obtain ⟨_, rfl, G, hs, _⟩ := hs
    rw [e2] at hs
    refine jd hw (nh hfore) (l.drop m) m listed ⟨tmps, C.ds⟩ w (Nat.le_refl _) (by simp; omega) (fun j => by simp [List.getElem?_drop]) hc hsp.1 hsp.2.1 hsp.2.2 ?_
    exact hq tmps w ⟨G, hs.ml (fun t a ha => by rw [← e1]; exact ha)⟩
  · refine oV hw (fun i j oi oj hi hj hij him hjm hap hno => yI (lE hch) hi hj hij hap hno) (l.take m) 0 _ _ (by rw [hlen]; omega) (fun j hj => ?_) hcl (by simp; omega) (fun j hj => by omega) (fun j _ hj => ?_) (by rw [hlen]; rw [hsz, hlen] at hlex; exact hlex) h
    · rw [hlen] at hj
      rw [Nat.zero_add]
      simp [List.getElem?_take, hj]
    · have hj' : j < l.length := by simpa using hj
      have e : min m l.length + (l.length - m) = l.length := by omega
      simp [e, hj']
variable {op : Op} {ty : TypeId} {pos : String} {af : Array Edge} {a : A} {d i k : Nat} {rest : List Oper} {f : List (Nat × A)} {Q : St → Prop} {b : Bool}
theorem CD.nil (h : Q ⟨f, S.bxT S.cs.length, S.lv S.cs.length, S.gen S.cs.length⟩) (hk : Nat.beq k S.cs.length = true) : CD P T C n S ops Q [] i f k true := by
  have := Nat.eq_of_beq_eq_true hk
  subst this
  exact ⟨f, fun _ => rfl, rfl, h⟩
def po (p : Nat → Bool → Prop) : Nat → Prop
  | 0 => p 0 false ∧ p 0 true
  | k + 1 => p (k + 1) false ∧ p (k + 1) true ∧ po p k
theorem po.at {p : Nat → Bool → Prop} : ∀ {m : Nat}, po p m → ∀ k b, k ≤ m → p k b
  | 0, h, k, b, hk => by
    obtain rfl : k = 0 := by omega
    cases b
    · exact h.1
    · exact h.2
  | m + 1, h, k, b, hk => by
    rcases Nat.lt_or_ge k (m + 1) with hlt | hge
    · exact h.2.2.at k b (by omega)
    · obtain rfl : k = m + 1 := by omega
      cases b
      · exact h.1
      · exact h.2.1
def sT (x : Nat) (l : List Nat) : Bool := l.any fun y => Nat.beq x y
theorem vb {x : Nat} {l : List Nat} (h : sT x l = false) : x ∉ l := fun hm => by
  have : sT x l = true := List.any_eq_true.2 ⟨x, hm, by simp⟩
  rw [h] at this
  cases this
theorem zn (hp : po (fun k b => eI S ops i k b = true → Pu P C n ⟨cp f (slotsOf op), S.bx k b, S.lv k, S.gen k⟩ ⟨some d, op, ty, pos, af, none⟩ a ∧ (b = false → aY (S.ord k) a = a)) S.cs.length)
    (hi : ops[i]? = some ⟨some d, op, ty, pos, af, none⟩) (h1 : sT i S.cs = false) (h2 : Nat.beq i S.al = false) (h3 : (Nat.ble k S.cs.length && eI S ops i k b) = true) (hd : Nat.blt d n = true)
    (h : CD P T C n S ops Q rest (i + 1) ((d, a) :: f) k b) : CD P T C n S ops Q (⟨some d, op, ty, pos, af, none⟩ :: rest) i f k b := by
  simp only [Bool.and_eq_true] at h3
  have nc := vb h1
  have na : i ≠ S.al := fun e => by subst e; simp at h2
  refine ⟨a, ⟨_, hi, hd, Nat.le_of_ble_eq_true h3.1, h3.2, .inr (.inr ⟨nc, na, fun k b hk ha => ⟨YA.oI (hp.at k b hk ha).1 hd, (hp.at k b hk ha).2⟩⟩)⟩, ?_⟩
  rw [jt hi]
  simp only [if_neg na, if_neg (fun e => nc (List.mem_of_getElem? e) : ¬ S.cs[k]? = some i)]
  unfold CD at h
  rw [eP] at h
  exact h
theorem aD (h0 : Pu P C n ⟨cp f (slotsOf op), S.bx k b, S.lv k, S.gen k⟩ ⟨some d, op, ty, pos, af, none⟩ a) (hp : po (fun k b => eI S ops i k b = true → Pu P C n ⟨cp f (slotsOf op), S.bx k b, S.lv k, S.gen k⟩ ⟨some d, op, ty, pos, af, none⟩ a ∧ (b = false → aY (S.ord k) a = a)) S.cs.length)
    (hi : ops[i]? = some ⟨some d, op, ty, pos, af, none⟩) (h1 : sT i S.cs = false) (h2 : Nat.beq i S.al = false) (h3 : (Nat.ble k S.cs.length && eI S ops i k b) = true) (hd : Nat.blt d n = true)
    (h : CD P T C n S ops Q rest (i + 1) ((d, a) :: f) k b) : CD P T C n S ops Q (⟨some d, op, ty, pos, af, none⟩ :: rest) i f k b := zn hp hi h1 h2 h3 hd h
theorem ze (hx : ∀ b, eI S ops i k b = true → ∀ g, WO P C n ops (fun e st => e = .normal ∧ st = ⟨(d, a) :: (cp f (slotsOf op) ++ g), S.bx (k + 1) b, S.lv (k + 1), S.gen (k + 1)⟩) [⟨some d, op, ty, pos, af, none⟩] ⟨cp f (slotsOf op) ++ g, S.bx k b, S.lv k, S.gen k⟩)
    (hi : ops[i]? = some ⟨some d, op, ty, pos, af, none⟩) (h1 : S.cs[k]? = some i) (h2 : Nat.beq i S.al = false) (h3 : eI S ops i k b = true) (hr : eI S ops i k false = true → aY (S.ord (k + 1)) a = a) (hd : Nat.blt d n = true) (h : CD P T C n S ops Q rest (i + 1) ((d, a) :: f) (k + 1) b) : CD P T C n S ops Q (⟨some d, op, ty, pos, af, none⟩ :: rest) i f k b := by
  have na : i ≠ S.al := fun e => by subst e; simp at h2
  refine ⟨a, ⟨_, hi, hd, Nat.le_of_lt (List.getElem?_eq_some_iff.1 h1).1, h3, .inl ⟨h1, na, fun b hb => ⟨rfl, cp f (slotsOf op), fun t x hx => ?_, fun g => WO.yJ rfl (fun e st h => by rw [h.1]; simp) (fun e st h => .inl h) (hx b hb g)⟩, hr⟩⟩, ?_⟩
  · obtain ⟨h1, h2⟩ := eo hx
    exact ⟨h1, List.mem_append.2 (.inl h2)⟩
  · rw [jt hi]
    simp only [if_neg na, if_pos h1]
    unfold CD at h
    rw [eP] at h
    exact h
theorem W.eB (T : bm P) {nb : Nat} [hnb : NB C nb] {id : Nat} {l l1 l2 : List Oper} {f : List (Nat × A)} {bx : List (Nat × List A)} {lv : List Nat} {gen : Nat} {Q : Exit → St → Prop} (dw : List (List (Nat × List A))) (lvs : List (List Nat)) (gens : List Nat) (cs : List Nat) (m : Nat) (hB : fz m l.toArray = true) (hch : jE l.toArray cs = true) (h1 : l.take m = l1) (h2 : l.drop m = l2)
    (h : CD P T C n (vo (bx :: dw) (lv :: lvs) (gen :: gens) cs l.length) l.toArray (WO P C n l.toArray Q l2) l1 0 f 0 true) : W P C n (.region id l.toArray true) Q ⟨f, bx, lv, gen⟩ :=
  W.qH T (vo (bx :: dw) (lv :: lvs) (gen :: gens) cs l.length) true m hB hch h1 h2 (fun _ _ h => h.elim) (fun h => by cases h) (fun _ _ h => h) rfl (by show Nat.ble gen gen = true; simp) h
end
end Go.Ab
namespace Go.Ab
open Go.RowKit
section
variable {P : Program} {C : Ctx} {n : Nat}
theorem W.vW (T : bm P) {nb : Nat} [hnb : NB C nb] {id : Nat} {l l1 l2 : List Oper} {f : List (Nat × A)} {bx : List (Nat × List A)} {lv : List Nat} {gen : Nat} {Q : Exit → St → Prop} (F : List (Nat × List A) → List (List (Nat × List A))) (lvs : List (List Nat)) (gens : List Nat) (cs : List Nat) (m : Nat) (hB : fz m l.toArray = true) (hch : jE l.toArray cs = true) (h1 : l.take m = l1) (h2 : l.drop m = l2)
    (h : CD P T C n (vo (bx :: F bx) (lv :: lvs) (gen :: gens) cs l.length) l.toArray (WO P C n l.toArray Q l2) l1 0 f 0 true) : W P C n (.region id l.toArray true) Q ⟨f, bx, lv, gen⟩ :=
  W.eB T (F bx) lvs gens cs m hB hch h1 h2 h
end
end Go.Ab
namespace Go.Ab
open Go.RowKit
/-! ### a code whose end is told at once -/
def yv (P : Program) (C : Ctx) (n : Nat) (ops : Array Oper) (B : Exit → Act → World → Prop) (l : List Oper) (st : St) : Prop := ∀ tmps w, dE C n st tmps w → dh P ops B l ⟨tmps, C.ds⟩ w
section
variable {P : Program} {C : Ctx} {n : Nat} {ops : Array Oper} {B : Exit → Act → World → Prop} {st : St} {o : Oper} {rest : List Oper} {a : A}
theorem yv.pu (hg : o.guard = none) (hd : cZ n o.dst = true) (hp : Pu P C n st o a) (h : yv P C n ops B rest (st.put o.dst a)) : yv P C n ops B (o :: rest) st := by
  intro tmps w ⟨G, hs⟩
  simp only [dh, Region.wanted, hg, if_true]
  refine (cG.ds (hp G tmps w hs)).wp fun v w' ⟨hb, hr⟩ => ?_
  rw [Act.eM]
  exact h _ _ ⟨G, (hs.fU hb).2.put (bL hd) hr⟩
/-! ### a callee panics: the other boxes stay -/
end
section
variable {P : Program} {C : Ctx} {n : Nat} {ops : Array Oper} {Q : Exit → St → Prop} {rest : List Oper} {st : St} {o : Oper}
end
section
variable {P : Program} {C : Ctx} {n : Nat} {ops : Array Oper} {Q : Exit → St → Prop} {rest : List Oper}
variable {f : List (Nat × A)} {bx : List (Nat × List A)} {lv : List Nat} {gen : Nat} {op : Op} {ty : TypeId} {pos : String} {af : Array Edge} {dst : Option Nat}
end
/-! ### the end of a function whose results are cells -/
theorem zf {P : Program} (T : bm P) {C : Ctx} {n : Nat} {st : St} {G : Gh} {tmps : Array Value} {w : World} {fn : Func} {rs : List RV} {r : A} {l : List A} (hs : ar C n st G tmps w) (hbx : C.bx = []) (hr : fn.results = (rs.map RV.var).toArray) (hl : gn T st.f st.bx rs = some l) (hno : norm [] (aL l) = r) :
    ∃ v, (results fn tmps).run P w = .ok v w ∧ ∃ v1 G', Ending.returned v = .returned v1 ∧ ar C 0 ⟨[], [], List.range 0, 0⟩ G' #[] w ∧ aA (ao C G' 0 w) v1 r := by
  obtain ⟨vs, hvs, hvl, hvr⟩ := iv T hs rs l hl
  refine ⟨_, iC hr hvs, _, ⟨fun _ => none, fun _ => none⟩, rfl, ?_, ?_⟩
  · exact { size := rfl, frame := fun t a ha => by simp [look] at ha, box := fun g cells hc => by simp [ak] at hc, gbox := fun g b hb => by simp at hb, inj := fun g g' b hb => by simp at hb,
            live := fun g hg => by simp at hg, gown := fun g r hr => by simp at hr, row := fun g b len cap sz pub hr => by simp at hr, mrow := fun g b bs hr => by simp at hr, sub := fun g b bs c lim hr => by simp at hr, gcell := fun g b hb => by simp at hb, xold := hs.xold, kold := hs.kold, lent := fun i b hb => by rw [hbx] at hb; simp at hb, fr := hs.fr }
  · rw [← hno]
    refine aA.norm (order := []) (E := ao C G st.gen w) (E2 := ao C ⟨fun _ => none, fun _ => none⟩ 0 w) (fun b o u hu hn => ⟨hu, fun hp => hn ?_⟩) (fun g r' hg hr' => ?_) (by simp [ao]) (j8 hvl hvr)
    · rcases (hp : aN C ⟨fun _ => none, fun _ => none⟩ b o) with hp | ⟨g, hp⟩ | ⟨g, len, cap, sz, pub, hp, hle⟩ | ⟨g, b', bs, lim, hp, _⟩
      · exact Or.inl hp
      · cases hp
      · cases hp
      · cases hp
    · cases hr'
/-! ### a deferred closure that asks for the panic's value -/
section
variable {P : Program} {ops : Array Oper} {Q : Exit → Act → List Frame → World → Prop} {rest : List Nat} {i : Nat} {a : Act} {cs : List Frame} {w : World} {o : Oper}
end
end Go.Ab
namespace Go.Ab
theorem x6 {e e' : Exit} {d : Nat} {a a' : A} {f : List (Nat × A)} {bx bx' : List (Nat × List A)} {lv lv' : List Nat} {gen gen' : Nat} (he : e = e') (ha : a = a') (hb : bx = bx') (hl : lv = lv') (hg : gen = gen') :
    e = e' ∧ (⟨(d, a) :: f, bx, lv, gen⟩ : St) = ⟨(d, a') :: f, bx', lv', gen'⟩ := by subst he ha hb hl hg; exact ⟨rfl, rfl⟩
end Go.Ab
namespace Go.Ab
open Go.RowKit
def jW (es : List (List D)) (k : Nat) : List A := es.flatten.map A.d ++ List.replicate k .any
section
variable {C : Ctx} {n : Nat} {st : St} {G : Gh} {tmps : Array Value} {w : World}
theorem lR {sz : Nat} : ∀ {es : List (List D)}, (∀ (e : List D), e ∈ es → e.length = sz) → es.flatten.length = es.length * sz
  | [], _ => by simp
  | e :: es, h => by rw [List.flatten_cons, List.length_append, lR (fun x hx => h x (List.mem_cons_of_mem _ hx)), h e List.mem_cons_self, List.length_cons, Nat.succ_mul, Nat.add_comm]
theorem ar.uf (h : ar C n st G tmps w) {g b len cap sz : Nat} (hg : G.own g = some (.blk b len cap sz 0)) {es : List (List D)} {v : Value} (hx : dI w (aN C G) (.blk b len cap sz 0) v es) (lv : List Nat) (hlv : ∀ g' ∈ lv, g' ∈ st.lv ∧ g' ≠ g) :
    ∃ G', ar C n ⟨st.f, (st.gen, jW es (cap * sz - len * sz)) :: st.bx, lv, st.gen + 1⟩ G' tmps w ∧ aA (ao C G' (st.gen + 1) w) v (.sb st.gen es.length cap) := by
  obtain ⟨rfl, hlen, _, hl, hr⟩ := hx
  obtain ⟨hmine, hnb, huniq, cur, T, hcur, hcs, hlc, hcm, hz, hpos, _, hone⟩ := h.row g b len cap sz 0 hg
  let G' : Gh := ⟨fun x => if x = st.gen then some b else G.box x, fun x => if x = g then none else G.own x⟩
  have hgl := h.gown g _ hg
  have hblt : b < w.heap.size := (Array.getElem?_eq_some_iff.1 hcur).1
  have hpv : ∀ b' o, aN C G' b' o → aN C G b' o := by
    rintro b' o (hp | ⟨g', hp⟩ | ⟨g', len', cap', sz', pub', hp, hl'⟩ | ⟨g', b2, bs, lim, hp, hm, hl'⟩)
    · exact .inl hp
    · simp only [G'] at hp
      split at hp
      · simp only [Option.some.injEq] at hp
        subst hp
        exact .inr (.inr (.inl ⟨g, len, cap, sz, 0, hg, Nat.zero_le _⟩))
      · exact .inr (.inl ⟨g', hp⟩)
    · simp only [G'] at hp
      split at hp
      · cases hp
      · exact .inr (.inr (.inl ⟨g', len', cap', sz', pub', hp, hl'⟩))
    · simp only [G'] at hp
      split at hp
      · cases hp
      · exact .inr (.inr (.inr ⟨g', b2, bs, lim, hp, hm, hl'⟩))
  have hle : (ao C G st.gen w).le (ao C G' (st.gen + 1) w) := gf h.fr h.fr (fun b o u hu hn => ⟨hu, fun hp => hn (hpv b o hp)⟩) (fun g' b' hb' => by
      simp only [G']
      rw [if_neg (Nat.ne_of_lt (h.gbox g' b' hb').1)]
      exact hb')
    (fun g' r' hg' hr' => by
      simp only [G'] at hr'
      split at hr'
      · cases hr'
      · exact hr') (Nat.le_succ _) (fun _ _ _ _ _ _ _ _ => rfl) (fun _ _ _ _ _ => ⟨rfl, fun _ _ => rfl⟩) (.refl w)
  have hfl := lR hl
  have hsub : len * sz ≤ cap * sz := Nat.mul_le_mul_right _ hlc
  refine ⟨G', { size := h.size, frame := h.ck hle, xold := h.xold, kold := h.kold, fr := h.fr, gcell := fun g' b' hb' => (by simp only [G'] at hb'; split at hb' <;> first | (simp only [Option.some.injEq] at hb'; subst hb'; exact ⟨_, _, _, hcur⟩) | exact h.gcell g' b' hb'), lent := ?_, box := ?_, gbox := ?_, inj := ?_, live := ?_, gown := ?_, row := ?_, mrow := ?_, sub := ?_ }, ?_⟩
  · intro g' cells hc
    simp only [bt] at hc
    split at hc
    · rename_i e
      simp only [Option.some.injEq] at hc
      subst hc
      subst e
      refine ⟨b, cur, T, by simp [G'], hcur, ?_, fun i u hu => hone i u hu, fun i u a hu ha => ?_⟩
      · simp only [jW, List.length_append, List.length_map, List.length_replicate, hfl, hlen]; omega
      · unfold jW at ha
        rcases Nat.lt_or_ge i es.flatten.length with hi | hi
        · rw [List.getElem?_append_left (by rw [List.length_map]; exact hi), List.getElem?_map, Option.map_eq_some_iff] at ha
          obtain ⟨d, hd, rfl⟩ := ha
          have hi2 : i < len * sz := by rw [← hlen, ← hfl]; exact hi
          have hdiv : i / sz < es.length := by rw [hlen]; exact Nat.div_lt_of_lt_mul (by rw [Nat.mul_comm]; exact hi2)
          have he : es[i / sz]? = some es[i / sz] := by simp [hdiv]
          have hel := hl _ (List.mem_of_getElem? he)
          have hdd : es[i / sz][i % sz]? = some (es[i / sz][i % sz]'(by rw [hel]; exact Nat.mod_lt _ hz)) := by simp
          have hfg := gB hl _ _ _ _ he hdd
          rw [Nat.div_add_mod' i sz, hd] at hfg
          obtain ⟨u', hu', hud⟩ := hr _ _ _ _ he hdd
          rw [Nat.div_add_mod' i sz, bj hcur] at hu'
          rw [hu] at hu'
          cases hu'
          rw [Option.some.inj hfg]
          exact .d (hud.mono hle.cell)
        · rw [List.getElem?_append_right (by rw [List.length_map]; exact hi)] at ha
          have := List.eq_of_mem_replicate (List.mem_of_getElem? ha)
          subst this
          exact .any _
    · obtain ⟨b', cs, T', h1, h2, h3, h4, h5⟩ := h.box g' cells hc
      exact ⟨b', cs, T', by simp only [G']; rw [if_neg (Nat.ne_of_lt (h.gbox g' b' h1).1)]; exact h1, h2, h3, h4, fun i u a hu ha => (h5 i u a hu ha).mono hle⟩
  · intro g' b' hb
    simp only [G'] at hb
    split at hb
    · rename_i e
      simp only [Option.some.injEq] at hb
      subst hb
      subst e
      exact ⟨Nat.lt_succ_self _, hblt, hmine⟩
    · obtain ⟨h1, h2⟩ := h.gbox g' b' hb
      exact ⟨Nat.lt_succ_of_lt h1, h2⟩
  · intro g1 g2 b' h1 h2
    simp only [G'] at h1 h2
    split at h1 <;> split at h2
    · simp_all
    · simp only [Option.some.injEq] at h1; subst h1; exact absurd h2 (hnb g2)
    · simp only [Option.some.injEq] at h2; subst h2; exact absurd h1 (hnb g1)
    · exact h.inj g1 g2 b' h1 h2
  · intro g' hg'
    obtain ⟨h1, h2⟩ := hlv g' hg'
    obtain ⟨r', hr'⟩ := h.live g' h1
    exact ⟨r', by simp only [G']; rw [if_neg h2]; exact hr'⟩
  · intro g' r' hr'
    simp only [G'] at hr'
    split at hr'
    · cases hr'
    · exact Nat.lt_succ_of_lt (h.gown g' r' hr')
  · intro g' b' len' cap' sz' pub' hr'
    simp only [G'] at hr'
    split at hr'
    · cases hr'
    · rename_i e2
      obtain ⟨h4, h5, h6, h7⟩ := h.row g' b' len' cap' sz' pub' hr'
      have hne : b' ≠ b := fun e => by subst e; exact e2 (huniq g' len' cap' sz' pub' hr')
      refine ⟨h4, fun g2 h2 => ?_, fun g2 len2 cap2 sz2 pub2 h2 => ?_, h7⟩
      · simp only [G'] at h2
        split at h2
        · simp only [Option.some.injEq] at h2; exact hne h2.symm
        · exact h5 g2 h2
      · simp only [G'] at h2
        split at h2
        · cases h2
        · exact h6 g2 len2 cap2 sz2 pub2 h2
  · intro g' b' bs hr'
    simp only [G'] at hr'
    split at hr'
    · cases hr'
    · obtain ⟨h4, h4b, h5, me, clock, h6⟩ := h.mrow g' b' bs hr'
      refine ⟨h4, fun g2 h2 => ?_, fun g2 bs2 h2 => ?_, me, clock, h6⟩
      · simp only [G'] at h2
        split at h2
        · simp only [Option.some.injEq] at h2; subst h2; rw [hcur] at h6; cases h6
        · exact h4b g2 h2
      · simp only [G'] at h2
        split at h2
        · cases h2
        · exact h5 g2 bs2 h2
  · intro g' b' bs c lim hr' hm
    simp only [G'] at hr'
    split at hr'
    · cases hr'
    · obtain ⟨h4, h5, h6, h7, h8⟩ := h.sub g' b' bs c lim hr' hm
      have hne : c ≠ b := fun e => h6 g _ _ _ _ (by rw [e]; exact hg)
      refine ⟨h4, fun g2 h2 => ?_, fun g2 len2 cap2 sz2 pub2 h2 => ?_, fun g2 b2 bs2 lim2 h2 hm2 => ?_, h8⟩
      · simp only [G'] at h2
        split at h2
        · simp only [Option.some.injEq] at h2; exact hne h2.symm
        · exact h5 g2 h2
      · simp only [G'] at h2
        split at h2
        · cases h2
        · exact h6 g2 _ _ _ _ h2
      · simp only [G'] at h2
        split at h2
        · cases h2
        · exact h7 g2 _ _ _ h2 hm2
  · intro i b' hb
    have h1 := h.lent i b' hb
    simp only [G']
    rw [if_neg (Nat.ne_of_lt (h.gbox i b' h1).1)]
    exact h1
  · exact .sb _ st.gen es.length cap b (Nat.lt_succ_self _) (by simp [ao, G']) (by rw [hlen]; exact ⟨hlc, hcm⟩) (by rw [hlen])
end
section
variable {P : Program} (T : bm P) {C : Ctx} {n : Nat} {ops : Array Oper} {Q : Exit → St → Prop} {rest : List Oper}
variable {f : List (Nat × A)} {bx : List (Nat × List A)} {lv : List Nat} {gen : Nat} {d : Nat} {op : Op} {ty : TypeId} {pos : String} {af : Array Edge} {a : A} {dst : Option Nat} {c : Code}
theorem yt (s : Nat) {g : Nat} {es : List (List D)} (hl : look f s = some (.xs g es)) (hgl : (lv.any fun h => Nat.beq h g) = true) (hsn : Nat.blt s n = true) (hp : 0 < es.length) {lv' : List Nat} (hlv : bg lv g = lv')
    (h : ∀ cap k, W P C n c Q ⟨(s, .sb gen es.length cap) :: f, (gen, jW es k) :: bx, lv', gen + 1⟩) : W P C n c Q ⟨f, bx, lv, gen⟩ := by
  subst hlv
  intro tmps w ⟨G, hs⟩
  obtain ⟨v, hv, hr⟩ := hs.frame _ _ hl
  obtain ⟨r, hgr⟩ := hs.live g (cC hgl)
  cases hr with
  | xs _ _ _ hgg h1 hrow =>
  have hx := hrow r hgr
  cases r with
  | nil => obtain ⟨_, rfl⟩ := hx; simp at hp
  | zero b => obtain ⟨_, rfl⟩ := hx; simp at hp
  | mp b bs => exact hx.elim
  | blk b len cap sz pub =>
    obtain rfl : pub = 0 := hx.2.2.1
    obtain ⟨G', hs', hv'⟩ := hs.uf hgr hx (bg lv g) (fun g' hg' => bR hg')
    refine h cap (cap * sz - len * sz) tmps w ⟨G', ?_⟩
    have := hs'.set (d := s) (Nat.le_of_ble_eq_true hsn) hv'
    rwa [dC hv] at this
theorem sy {x : Operand} {t e : Nat} {td : bo} {g m cap : Nat} (hx : av f x = some (.sb g m cap)) (ht : ak T.l t = some td) (hk : td.k = .slice e) :
    Pu P C n ⟨f, bx, lv, gen⟩ ⟨dst, .call ⟨.builtin .len, #[x], #[t]⟩, ty, pos, af, none⟩ (.d (.v (.int .i64 m))) := by
  refine cA.pu fun G tmps w hs => ?_
  have hr := hs.av hx
  generalize hv : Act.eval ⟨tmps, []⟩ x = v at hr
  cases hr with
  | sb _ _ _ _ b hgg hb hn h2 =>
  refine ⟨.int .i64 m, ?_, .d (.v _ ?_)⟩
  · unfold execOp
    show Sem.run P (do let d ← resolve (Act.eval ⟨tmps, []⟩) ⟨.builtin .len, #[x], #[t]⟩ ty; invoke d.target d.args) w = _
    simp only [resolve, List.map_toArray, List.map_cons, List.map_nil, hv, h2, Sem.run_bind, Sem.run_pure, Result.andThen_ok, invoke, builtin, Builtin.len_]
    simp [run_underlying (T.dX ht hk), goInt]
    rfl
  · obtain ⟨h3, h4⟩ := hn
    simp only [maxLen] at h4
    simp [bK, IntKind.min, IntKind.max, IntKind.signed, IntKind.bits]
    omega
theorem dz {t e : Nat} {x ix : Operand} {td ed : bo} {g m cap : Nat} {k : IntKind} {i : Int} (hx : av f x = some (.sb g m cap)) (hi : av f ix = some (.d (.v (.int k i)))) (ht : ak T.l t = some td) (hk : td.k = .slice e) (he : ak T.l e = some ed)
    (h0 : 0 ≤ i) (hlt : i.toNat < m) {off : Nat} (ho : i.toNat * ed.n = off) : Pu P C n ⟨f, bx, lv, gen⟩ ⟨dst, .indexAddr t x ix, ty, pos, af, none⟩ (.ptr g off) := by
  subst ho
  refine cA.pu fun G tmps w hs => ?_
  have hu := T.dX ht hk
  have hrx := hs.av hx
  have hri := hs.av hi
  generalize hvi : Act.eval ⟨tmps, []⟩ ix = vi at hri
  cases hri with | d hri => cases hri with | v _ _ =>
  generalize hvx : Act.eval ⟨tmps, []⟩ x = vx at hrx
  cases hrx with
  | sb _ _ _ _ b hgg hb hn h2 =>
  refine ⟨.pointer (some ⟨b, i.toNat * ed.n, none⟩), ?_, .ptr _ g _ b hgg hb rfl⟩
  unfold execOp
  show Sem.run P _ w = .ok _ w
  have hc2 : 0 ≤ i ∧ i < (m : Int) := ⟨h0, by omega⟩
  simp only [hvi, hvx, h2, Instr.indexAt, asIntOf, Sem.run_bind, Sem.run_pure, Result.andThen_ok, run_underlying hu, hc2, and_self, if_true, T.sizeOf he]
  unfold Addr.add
  split
  · rename_i e; rw [e]
  · simp
end
end Go.Ab
namespace Go.Ab
section
variable {P : Program} {C : Ctx} {n : Nat} {ops : Array Oper} {Q : Exit → St → Prop} {rest : List Oper}
variable {f : List (Nat × A)} {bx : List (Nat × List A)} {lv : List Nat} {gen : Nat} {d : Nat} {ty : TypeId} {pos : String} {af : Array Edge}
end
end Go.Ab
namespace Go.Ab
open Go.RowKit
mutual
def dR (g : Nat) : A → Bool
  | .ptr g' _ => !Nat.beq g' g
  | .np g' _ _ => !Nat.beq g' g
  | .sb g' _ _ => !Nat.beq g' g
  | .lk g' _ _ _ => !Nat.beq g' g
  | .agg l => iK g l
  | .tup l => iK g l
  | .row l => iK g l
  | .clo _ l => iK g l
  | .bnd _ l => iK g l
  | _ => true
def iK (g : Nat) : List A → Bool
  | [] => true
  | a :: l => dR g a && iK g l
end
theorem cL {g : Nat} : ∀ {l : List A}, iK g l = true → ∀ a ∈ l, dR g a = true
  | [], _, a, ha => by cases ha
  | b :: l, h, a, ha => by
    simp only [iK, Bool.and_eq_true] at h
    cases ha with
    | head => exact h.1
    | tail _ ha => exact cL h.2 a ha
theorem aA.forget {E E' : En} {g : Nat} (hw : E.w = E'.w) (hc : ∀ b o u, cellAt E.w b o = some u → ¬ E.pv b o → cellAt E'.w b o = some u ∧ ¬ E'.pv b o) (hold : ∀ b, E.old b → E'.old b) (hb : ∀ g' b, g' ≠ g → E.box g' = some b → E'.box g' = some b) (ho : E'.own = E.own) (hg : E'.gen = E.gen)
    {v : Value} {a : A} (h : aA E v a) (ha : dR g a = true) : aA E' v a := by
  have hne : ∀ {g'}, (!Nat.beq g' g) = true → g' ≠ g := fun h e => by subst e; simp at h
  have hc' : ∀ b o u, cellAt E.w b o = some u → ¬ E.pv b o → cellAt E.w b o = some u ∧ ¬ E'.pv b o := fun b o u h1 h2 => ⟨h1, (hc b o u h1 h2).2⟩
  induction h with
  | any x => exact .any x
  | d hd => exact .d (hd.mono hc)
  | ag vs l hs hd => exact .ag vs l hs (fun i u x h1 h2 => (hd i u x h1 h2).mono hc)
  | own x g' es hd hgg hr => exact .own x g' es (hd.mono hc) (by rw [hg]; exact hgg) (fun r hr' => hr r (by rw [← ho]; exact hr'))
  | agg vs l hs hone _ ih => exact .agg vs l hs hone (fun i u x hu hx => ih i u x hu hx (cL (by simpa [dR] using ha) x (List.mem_of_getElem? hx)))
  | tup vs l hs _ ih => exact .tup vs l hs (fun i u x hu hx => ih i u x hu hx (cL (by simpa [dR] using ha) x (List.mem_of_getElem? hx)))
  | rowd b off l u hcc hd => exact .rowd b off l u (fun j hj => hc _ _ _ (hcc j hj).1 (hcc j hj).2) (fun j x hx => (hd j x hx).mono hc)
  | row b off l u hcc _ ih => exact .row b off l u (fun j hj => ⟨by rw [← hw]; exact (hcc j hj).1, hold _ (hcc j hj).2.1, (hcc j hj).2.2⟩) (fun j x hx => ih j x hx (cL (by simpa [dR] using ha) x (List.mem_of_getElem? hx)))
  | ptr x g' off b hgg hb0 hp => exact .ptr x g' off b (by rw [hg]; exact hgg) (hb g' b (hne (by simpa [dR] using ha)) hb0) hp
  | xs x g' es hgg h1 hx => exact .xs x g' es (by rw [hg]; exact hgg) h1 (fun r hr' => hw ▸ (hx r (by rw [← ho]; exact hr')).bZ hc')
  | xp x g' i off l hgg h1 hx => exact .xp x g' i off l (by rw [hg]; exact hgg) h1 (fun r hr' => hw ▸ (hx r (by rw [← ho]; exact hr')).bZ hc')
  | mp x g' es hgg h1 hx => exact .mp x g' es (by rw [hg]; exact hgg) h1 (fun r hr' => hw ▸ (hx r (by rw [← ho]; exact hr')).bZ hc')
  | mq x g' es hgg h1 hx => exact .mq x g' es (by rw [hg]; exact hgg) h1 (fun r hr' => hw ▸ (hx r (by rw [← ho]; exact hr')).bZ hc')
  | mo x g' es hole ob hgg h1 hx => exact .mo x g' es hole ob (by rw [hg]; exact hgg) h1 (fun r hr' => hw ▸ (hx r (by rw [← ho]; exact hr')).bZ hc')
  | ni t x => exact .ni t x
  | fl x es hd hfl => exact .fl x es (hd.mono hc) hfl
  | bf x g' T s hgg h1 hx => exact .bf x g' T s (by rw [hg]; exact hgg) h1 (fun r hr' => hw ▸ hx r (by rw [← ho]; exact hr'))
  | np x g' T b hgg hb0 hT u hp => exact .np x g' T b (by rw [hg]; exact hgg) (hb g' b (hne (by simpa [dR] using ha)) hb0) (hw ▸ hT) u hp
  | sb x g' n c b hgg hb0 hn hp => exact .sb x g' n c b (by rw [hg]; exact hgg) (hb g' b (hne (by simpa [dR] using ha)) hb0) hn hp
  | fx x u g' es ou hx hgg hu hou => exact .fx x u g' es ou (hx.mono hc) (by rw [hg]; exact hgg) (fun r hr' => hw ▸ (hu r (by rw [← ho]; exact hr')).bZ hc') hou
  | ol x u g1 E1 g' es hx hg1 hr1 hgg hu => exact .ol x u g1 E1 g' es (hx.mono hc) (by rw [hg]; exact hg1) (fun r hr' => hr1 r (by rw [← ho]; exact hr')) (by rw [hg]; exact hgg) (fun r hr' => hw ▸ (hu r (by rw [← ho]; exact hr')).bZ hc')
  | ow x v g' es hd hgg hr => exact .ow x v g' es (hd.mono hc) (by rw [hg]; exact hgg) (fun r hr' => hr r (by rw [← ho]; exact hr'))
  | lk x g' n c b v hgg hb0 hn hp => exact .lk x g' n c b v (by rw [hg]; exact hgg) (hb g' b (hne (by simpa [dR] using ha)) hb0) hn hp
  | clo f vs l hs _ ih => exact .clo f vs l hs (fun i u x hu hx => ih i u x hu hx (cL (by simpa [dR] using ha) x (List.mem_of_getElem? hx)))
  | bnd f vs l hs _ ih => exact .bnd f vs l hs (fun i u x hu hx => ih i u x hu hx (cL (by simpa [dR] using ha) x (List.mem_of_getElem? hx)))
def gR (g : Nat) : List Nat → List (Nat × A) → List (Nat × A)
  | _, [] => []
  | seen, (s, a) :: r => bif seen.any (Nat.beq s) then gR g seen r else bif dR g a then (s, a) :: gR g (s :: seen) r else gR g (s :: seen) r
theorem fF {g : Nat} : ∀ {f : List (Nat × A)} {seen : List Nat} {t : Nat} {a : A}, look (gR g seen f) t = some a → look f t = some a ∧ dR g a = true ∧ t ∉ seen
  | [], _, t, a, h => by simp [gR, look] at h
  | (s, b) :: r, seen, t, a, h => by
    simp only [gR] at h
    cases q : seen.any (Nat.beq s) with
    | true =>
      rw [q] at h
      simp only [cond_true] at h
      obtain ⟨h1, h2, h3⟩ := fF h
      have hm : s ∈ seen := by
        obtain ⟨y, hy, hb⟩ := List.any_eq_true.1 q
        rw [Nat.eq_of_beq_eq_true hb]; exact hy
      refine ⟨?_, h2, h3⟩
      rw [aR]
      rw [if_neg (fun e : s = t => h3 (e ▸ hm))]
      exact h1
    | false =>
      rw [q] at h
      simp only [cond_false] at h
      have hm : s ∉ seen := fun hm => by
        have : seen.any (Nat.beq s) = true := List.any_eq_true.2 ⟨s, hm, by simp⟩
        rw [q] at this; cases this
      cases q2 : dR g b with
      | true =>
        rw [q2] at h
        simp only [cond_true] at h
        rw [aR] at h
        split at h
        · rename_i e
          subst e
          cases h
          exact ⟨by rw [aR, if_pos rfl], q2, hm⟩
        · rename_i e
          obtain ⟨h1, h2, h3⟩ := fF h
          exact ⟨by rw [aR, if_neg e]; exact h1, h2, fun hh => h3 (List.mem_cons_of_mem _ hh)⟩
      | false =>
        rw [q2] at h
        simp only [cond_false] at h
        obtain ⟨h1, h2, h3⟩ := fF h
        exact ⟨by rw [aR, if_neg (fun e : s = t => h3 (e ▸ List.mem_cons_self))]; exact h1, h2, fun hh => h3 (List.mem_cons_of_mem _ hh)⟩
def gC (g : Nat) : List Nat → List (Nat × List A) → Option (List (Nat × List A))
  | _, [] => some []
  | seen, (s, c) :: r => bif seen.any (Nat.beq s) then gC g seen r else bif Nat.beq s g then gC g (s :: seen) r else bif iK g c then (match gC g (s :: seen) r with | some l => some ((s, c) :: l) | none => none) else none
theorem fc {α : Type} {f : List (Nat × α)} {s t : Nat} {a : α} : ak ((s, a) :: f) t = if s = t then some a else ak f t := by
  rw [bt]
theorem fw {g : Nat} : ∀ {f f' : List (Nat × List A)} {seen : List Nat} {t : Nat} {a : List A}, gC g seen f = some f' → ak f' t = some a → ak f t = some a ∧ iK g a = true ∧ t ≠ g ∧ t ∉ seen
  | [], f', _, t, a, hc, h => by simp [gC] at hc; subst hc; simp [ak] at h
  | (s, b) :: r, f', seen, t, a, hc, h => by
    simp only [gC] at hc
    cases q : seen.any (Nat.beq s) with
    | true =>
      rw [q] at hc
      simp only [cond_true] at hc
      obtain ⟨h1, h2, h3, h4⟩ := fw hc h
      have hm : s ∈ seen := by
        obtain ⟨y, hy, hb⟩ := List.any_eq_true.1 q
        rw [Nat.eq_of_beq_eq_true hb]; exact hy
      exact ⟨by rw [fc, if_neg (fun e : s = t => h4 (e ▸ hm))]; exact h1, h2, h3, h4⟩
    | false =>
      rw [q] at hc
      simp only [cond_false] at hc
      have hm : s ∉ seen := fun hm => by
        have : seen.any (Nat.beq s) = true := List.any_eq_true.2 ⟨s, hm, by simp⟩
        rw [q] at this; cases this
      cases q1 : Nat.beq s g with
      | true =>
        rw [q1] at hc
        simp only [cond_true] at hc
        obtain ⟨h1, h2, h3, h4⟩ := fw hc h
        exact ⟨by rw [fc, if_neg (fun e : s = t => h4 (e ▸ List.mem_cons_self))]; exact h1, h2, h3, fun hh => h4 (List.mem_cons_of_mem _ hh)⟩
      | false =>
        rw [q1] at hc
        simp only [cond_false] at hc
        cases q2 : iK g b with
        | false => rw [q2] at hc; cases hc
        | true =>
          rw [q2] at hc
          simp only [cond_true] at hc
          split at hc
          · rename_i l hl
            simp only [Option.some.injEq] at hc
            subst hc
            rw [fc] at h
            split at h
            · rename_i e
              subst e
              cases h
              exact ⟨by rw [fc, if_pos rfl], q2, fun e => by subst e; simp at q1, hm⟩
            · rename_i e
              obtain ⟨h1, h2, h3, h4⟩ := fw hl h
              exact ⟨by rw [fc, if_neg e]; exact h1, h2, h3, fun hh => h4 (List.mem_cons_of_mem _ hh)⟩
          · cases hc
section
variable {P : Program} (T : bm P) {C : Ctx} {n : Nat} {ops : Array Oper} {Q : Exit → St → Prop} {rest : List Oper}
variable {f f' : List (Nat × A)} {bx bx' : List (Nat × List A)} {lv : List Nat} {gen : Nat} {d : Nat} {op : Op} {ty : TypeId} {pos : String} {af : Array Edge} {a : A} {dst : Option Nat} {c : Code}
theorem qp [hnb : NB C 0] (s : Nat) {g m cap sz k : Nat} {es : List (List D)} (hl : look f s = some (.sb g m cap)) (hb : ak bx g = some (jW es k)) (hsn : Nat.blt s n = true) (hm : es.length = m) (hls : ∀ (x : List D), x ∈ es → x.length = sz) (hf : gR g [] f = f') (hbx : gC g [] bx = some bx')
    (h : W P C n c Q ⟨(s, .d (.sl es)) :: f', bx', lv, gen⟩) : W P C n c Q ⟨f, bx, lv, gen⟩ := by
  subst hf; subst hm
  intro tmps w ⟨G, hs⟩
  obtain ⟨v, hv, hr⟩ := hs.frame _ _ hl
  obtain ⟨b, cs, T', hgb, hw, h3, h4, h5⟩ := hs.box _ _ hb
  cases hr with
  | sb _ _ _ _ b' hgg hb' hn hx =>
  have hb' : G.box g = some b' := hb'
  rw [hgb] at hb'
  cases hb'
  let G' : Gh := ⟨fun x => if x = g then none else G.box x, G.own⟩
  have hpv : ∀ b' o, aN C G' b' o → aN C G b' o := by
    rintro b' o (hp | ⟨g', hp⟩ | hp)
    · exact .inl hp
    · simp only [G'] at hp
      split at hp
      · cases hp
      · exact .inr (.inl ⟨g', hp⟩)
    · exact .inr (.inr hp)
  have hnot : ∀ o, ¬ aN C G' b o := by
    rintro o (hp | ⟨g', hp⟩ | ⟨g', len, cap, sz, pub, hp, _⟩ | ⟨g', b2, bs, lim, hp, hm, _⟩)
    rotate_right
    · exact (hs.sub g' b2 bs b lim hp hm).2.1 g hgb
    · have := hs.xold b o hp
      rcases (hs.gbox g b hgb).2.2.1 with hm | hm
      · omega
      · exact this.2 hm
    · simp only [G'] at hp
      split at hp
      · cases hp
      · rename_i e; exact e (hs.inj g' g b hp hgb)
    · exact (hs.row g' b len cap sz pub hp).2.1 g hgb
  have hrep : ∀ {v : Value} {a : A}, aA (ao C G gen w) v a → dR g a = true → aA (ao C G' gen w) v a := fun h ha =>
    aA.forget (E := ao C G gen w) (E' := ao C G' gen w) rfl (fun b o u hu hn => ⟨hu, fun hp => hn (hpv b o hp)⟩) (fun b h => h) (fun g' b hne hb => by show (if g' = g then none else G.box g') = some b; rw [if_neg hne]; exact hb) rfl rfl h ha
  have hs' : ar C n ⟨gR g [] f, bx', lv, gen⟩ G' tmps w := by
    refine { size := hs.size, frame := ?_, box := ?_, gbox := ?_, inj := ?_, live := hs.live, gown := hs.gown, row := ?_, mrow := ?_, sub := ?_, gcell := fun g' b2 hb2 => (by simp only [G'] at hb2; split at hb2 <;> first | (cases hb2; done) | exact hs.gcell g' b2 hb2), xold := hs.xold, kold := hs.kold, lent := ?_, fr := hs.fr }
    · intro t a ha
      obtain ⟨h1, h2, _⟩ := fF ha
      obtain ⟨v, hv, hr⟩ := hs.frame t a h1
      exact ⟨v, hv, hrep hr h2⟩
    · intro g' cells hc
      obtain ⟨h1, h2, h6, _⟩ := fw hbx hc
      obtain ⟨b2, cs2, T2, p1, p2, p3, p4, p5⟩ := hs.box g' cells h1
      exact ⟨b2, cs2, T2, by simp only [G']; rw [if_neg h6]; exact p1, p2, p3, p4, fun i u a hu ha => hrep (p5 i u a hu ha) (cL h2 a (List.mem_of_getElem? ha))⟩
    · intro g' b2 hb2
      simp only [G'] at hb2
      split at hb2
      · cases hb2
      · exact hs.gbox g' b2 hb2
    · intro g1 g2 b2 h1 h2
      simp only [G'] at h1 h2
      split at h1
      · cases h1
      · split at h2
        · cases h2
        · exact hs.inj g1 g2 b2 h1 h2
    · intro g' b2 len cap sz pub hr
      obtain ⟨p1, p2, p3⟩ := hs.row g' b2 len cap sz pub hr
      refine ⟨p1, fun g2 h2 => ?_, p3⟩
      simp only [G'] at h2
      split at h2
      · cases h2
      · exact p2 g2 h2
    · intro g' b2 bs hr
      obtain ⟨p1, p2, p3⟩ := hs.mrow g' b2 bs hr
      refine ⟨p1, fun g2 h2 => ?_, p3⟩
      simp only [G'] at h2
      split at h2
      · cases h2
      · exact p2 g2 h2
    · intro g' b2 bs c lim hr hm
      obtain ⟨p1, p2, p3⟩ := hs.sub g' b2 bs c lim hr hm
      refine ⟨p1, fun g2 h2 => ?_, p3⟩
      simp only [G'] at h2
      split at h2
      · cases h2
      · exact p2 g2 h2
    · intro i b2 hb2
      have := hnb.h
      have hi := (List.getElem?_eq_some_iff.1 hb2).1
      omega
  have hdata : aA (ao C G' gen w) v (.d (.sl es)) := by
    rw [hx]
    have hfl := lR hls
    have hcell : ∀ i j (e : List D) (y : D), es[i]? = some e → e[j]? = some y → ∃ u, cs[i * sz + j]? = some u ∧ aF w (aN C G') u y := fun i j e y hi hj => by
      have hfg := gB hls i j e y hi hj
      have hlt : i * sz + j < es.flatten.length := (List.getElem?_eq_some_iff.1 hfg).1
      have hc : (jW es k)[i * sz + j]? = some (.d y) := by
        unfold jW
        rw [List.getElem?_append_left (by rw [List.length_map]; exact hlt), List.getElem?_map, hfg]; rfl
      have hj' : i * sz + j < cs.size := by rw [h3]; exact (List.getElem?_eq_some_iff.1 hc).1
      have e1 : cs[i * sz + j]? = some cs[i * sz + j] := by simp [hj']
      have := hrep (h5 _ _ _ e1 hc) rfl
      generalize cs[i * sz + j] = u at this e1
      cases this with | d hd => exact ⟨u, e1, hd⟩
    refine .d ?_
    exact aF.ofRow hw hn.1 hn.2 hls (fun t _ => hnot t) hcell
  refine h tmps w ⟨G', ?_⟩
  have := hs'.set (d := s) (Nat.le_of_ble_eq_true hsn) hdata
  rwa [dC hv] at this
end
end Go.Ab
namespace Go.Ab
open Go.RowKit
section
variable {P : Program} (T : bm P) {C : Ctx} {n : Nat} {ops : Array Oper} {Q : Exit → St → Prop} {rest : List Oper}
variable {f : List (Nat × A)} {bx : List (Nat × List A)} {lv : List Nat} {gen : Nat} {d : Nat} {op : Op} {ty : TypeId} {pos : String} {af : Array Edge} {a : A} {dst : Option Nat} {c : Code}
theorem dI.same {w : World} {pv : Nat → Nat → Prop} {r : Row} {v v' : Value} {es es' : List (List D)} (h : dI w pv r v es) (h' : dI w pv r v' es') : v = v' := by
  cases r with
  | nil => exact h.1.trans h'.1.symm
  | zero b => exact h.1.trans h'.1.symm
  | blk b len cap sz pub => exact h.1.trans h'.1.symm
  | mp b bs => exact h.elim
end
end Go.Ab
namespace Go.Ab
open Go.RowKit
def yf (f : List (Nat × A)) : Option Operand → Option Int
  | none => some 0
  | some x => match av f x with | some (.d (.v (.int _ v))) => some v | _ => none
def x9 (f : List (Nat × A)) (len : Nat) : Option Operand → Option Int
  | none => some (len : Int)
  | some x => match av f x with | some (.d (.v (.int _ v))) => some v | _ => none
theorem aF.sub {w : World} {pv : Nat → Nat → Prop} {v : Value} {es : List (List D)} (h : aF w pv v (.sl es)) {i j sz : Nat} (hij : i ≤ j) (hj : j ≤ es.length) (hsz : ∀ e ∈ es, e.length = sz) :
    ∃ a cap, v = .slice a es.length cap ∧ es.length ≤ cap ∧ aF w pv (sliced a i j cap sz) (.sl ((es.take j).drop i)) := by
  cases h with
  | nil =>
    have e1 : j = 0 := by simpa using hj
    subst e1
    have e2 : i = 0 := by omega
    subst e2
    exact ⟨none, 0, rfl, Nat.le_refl _, .nil⟩
  | emp a cap hm =>
    have e1 : j = 0 := by simpa using hj
    subst e1
    have e2 : i = 0 := by omega
    subst e2
    refine ⟨some a, cap, rfl, Nat.zero_le _, ?_⟩
    simp only [sliced, List.take_zero, List.drop_zero, Nat.sub_zero]
    split
    · exact .emp a cap hm
    · exact .emp _ cap hm
  | sl b off len cap sz' es u hl hc hm hs hu hr =>
    refine ⟨_, cap, by rw [hl], by omega, ?_⟩
    rcases Nat.eq_or_lt_of_le hij with e | hlt
    · subst e
      rw [show (es.take i).drop i = [] from List.drop_eq_nil_of_le (List.length_take_le _ _)]
      simp only [sliced, Nat.sub_self]
      split
      · exact .emp _ _ (by omega)
      · exact .emp _ _ (by omega)
    · have e : sz' = sz := by
        obtain ⟨x, hx⟩ : ∃ x, es[0]? = some x := ⟨es[0]'(by omega), by simp⟩
        rw [← hs 0 x hx, hsz x (List.mem_of_getElem? hx)]
      subst e
      have hne : cap ≠ i := by omega
      have ha : ∀ (k : Nat) (x : List D), ((es.take j).drop i)[k]? = some x → es[i + k]? = some x ∧ k < j - i := fun k x hk => by
        have hk' := hk
        rw [List.getElem?_drop] at hk
        have h1 := (List.getElem?_eq_some_iff.1 hk).1
        rw [List.length_take] at h1
        rw [List.getElem?_take, if_pos (by omega)] at hk
        exact ⟨hk, by omega⟩
      simp only [sliced, if_neg hne, Option.map_some]
      rw [show (Addr.add ⟨b, off, none⟩ (i * sz')) = ⟨b, off + i * sz', none⟩ from by simp [Addr.add]]
      refine .sl b (off + i * sz') (j - i) (cap - i) sz' _ (fun k c => u (i + k) c) ?_ (by omega) (by omega) (fun k x hk => hs _ x (ha k x hk).1) (fun k c hk hc' => ?_) (fun k c x d hk hd => hr _ c x d (ha k x hk).1 hd)
      · rw [List.length_drop, List.length_take]; omega
      · have := hu (i + k) c (by omega) hc'
        rw [show off + (i + k) * sz' + c = off + i * sz' + k * sz' + c from by rw [Nat.add_mul]; omega] at this
        exact this
section
variable {P : Program} (T : bm P) {C : Ctx} {n : Nat}
variable {f : List (Nat × A)} {bx : List (Nat × List A)} {lv : List Nat} {gen : Nat} {ty : TypeId} {pos : String} {af : Array Edge} {dst : Option Nat} {G : Gh} {tmps : Array Value} {w : World}
theorem rR (b : Bool) {lo hi : Option Operand} {len cap : Nat} {i j : Int} (hs : ar C n ⟨f, bx, lv, gen⟩ G tmps w) (hlo : yf f lo = some i) (hhi : x9 f len hi = some j) (h0 : 0 ≤ i) (hij : i ≤ j) (hj : j ≤ len) (hc : len ≤ cap) :
    (Instr.sliceBounds b len cap (lo.map (Act.eval ⟨tmps, []⟩)) (hi.map (Act.eval ⟨tmps, []⟩)) none).run P w = .ok (i.toNat, j.toNat, cap) w := by
  have ev : ∀ (x : Operand) (v : Int), (match av f x with | some (.d (.v (.int _ v))) => some v | _ => none) = some v → ∃ k, Act.eval ⟨tmps, []⟩ x = .int k v := fun x v h => by
    split at h
    · rename_i k v' hav
      simp only [Option.some.injEq] at h
      subst h
      have hr := hs.av hav
      generalize Act.eval ⟨tmps, []⟩ x = y at hr
      cases hr with | d hr => cases hr with | v _ _ => exact ⟨k, rfl⟩
    · cases h
  have ehj : (j.toNat : Int) = j := Int.toNat_of_nonneg (by omega)
  have hh : ((match hi.map (Act.eval ⟨tmps, []⟩) with | some v => Instr.sliceBound v cap (if b then .sliceAcap else .sliceAlen) | none => pure len : Sem Nat)).run P w = .ok j.toNat w := by
    cases hi with
    | none =>
      simp only [x9, Option.some.injEq] at hhi
      subst hhi
      simp
    | some x =>
      obtain ⟨k, e⟩ := ev x j hhi
      simp only [Option.map_some, e]
      exact run_sliceBound w k j cap _ (by omega) (by omega)
  have hl : ((match lo.map (Act.eval ⟨tmps, []⟩) with | some v => Instr.sliceBound v j.toNat (if (none : Option Value).isSome then .slice3C else .sliceB) | none => pure 0 : Sem Nat)).run P w = .ok i.toNat w := by
    cases lo with
    | none =>
      simp only [yf, Option.some.injEq] at hlo
      subst hlo
      simp
    | some x =>
      obtain ⟨k, e⟩ := ev x i hlo
      simp only [Option.map_some, e]
      exact run_sliceBound w k i j.toNat _ (by omega) (by omega)
  unfold Instr.sliceBounds
  cases hi with
  | none =>
    cases lo with
    | none =>
      simp only [Option.map_none, Sem.run_bind, Sem.run_pure, Result.andThen_ok] at hh hl ⊢
      simp_all
    | some x =>
      simp only [Option.map_none, Option.map_some, Sem.run_bind, Sem.run_pure, Result.andThen_ok] at hh hl ⊢
      simp only [Result.ok.injEq, and_true] at hh
      rw [← hh] at hl ⊢
      simp_all
  | some y =>
    cases lo with
    | none =>
      simp only [Option.map_none, Option.map_some, Sem.run_bind, Sem.run_pure, Result.andThen_ok] at hh hl ⊢
      rw [hh]
      simp_all
    | some x =>
      simp only [Option.map_some, Sem.run_bind, Sem.run_pure, Result.andThen_ok] at hh hl ⊢
      rw [hh]
      simp_all
theorem kv {α : Type} {fn : α → List D} {t e : Nat} {x : Operand} {lo hi : Option Operand} {td ed : bo} {a : A} {l r : List α} {i j : Int} (hx : av f x = some a) (hes : fa a = some (l.map fn)) (ht : ak T.l t = some td) (hk : td.k = .slice e) (he : ak T.l e = some ed)
    (hn : ∀ x, (fn x).length = ed.n) (hlo : yf f lo = some i) (hhi : x9 f l.length hi = some j) (h0 : 0 ≤ i) (hij : i ≤ j) (hj : j ≤ (l.length : Int)) (hr : (l.take j.toNat).drop i.toNat = r) :
    Pu P C n ⟨f, bx, lv, gen⟩ ⟨dst, .slice t x lo hi none, ty, pos, af, none⟩ (.d (.sl (r.map fn))) := by
  subst hr
  refine cA.pu fun G tmps w hs => ?_
  have hrx := eR hes (hs.av hx)
  obtain ⟨a', cap, hv, hcap, hrep⟩ := hrx.sub (i := i.toNat) (j := j.toNat) (sz := ed.n) (by omega) (by rw [List.length_map]; omega) (fun y hy => by obtain ⟨z, _, rfl⟩ := List.mem_map.1 hy; exact hn z)
  rw [List.length_map] at hv hcap
  have hu := T.dX ht hk
  have hpe : P.elem t = e := by simp [Program.elem, hu]
  have hu' : P.underlying t = some (.slice (P.elem t)) := by rw [hpe]; exact hu
  refine ⟨sliced a' i.toNat j.toNat cap ed.n, ?_, .d (by rw [← List.map_take, ← List.map_drop] at hrep; exact hrep)⟩
  unfold execOp
  show Sem.run P _ w = _
  simp only [Sem.run_bind, run_sliceAt_slice w t _ _ _ _ hu', hv, run_slice_any w t a' l.length cap hu', Option.map_none, rR (P := P) true hs hlo hhi h0 hij hj hcap, Result.andThen_ok, hpe, T.sizeOf he]
  rfl
end
end Go.Ab
namespace Go.Ab
open Go.RowKit
section
variable {P : Program} (T : bm P) {C : Ctx} {n : Nat} {ops : Array Oper} {Q : Exit → St → Prop} {rest : List Oper}
variable {f f' : List (Nat × A)} {bx bx' : List (Nat × List A)} {lv : List Nat} {gen : Nat} {d : Nat} {op : Op} {ty : TypeId} {pos : String} {af : Array Edge} {a : A} {dst : Option Nat} {c : Code} {o : Oper}
theorem dI.slice {w : World} {pv : Nat → Nat → Prop} {r : Row} {v : Value} {es : List (List D)} (h : dI w pv r v es) : ∃ a l c, v = .slice a l c := by
  cases r with
  | nil => exact ⟨_, _, _, h.1⟩
  | zero b => exact ⟨_, _, _, h.1⟩
  | blk b len cap sz pub => exact ⟨_, _, _, h.1⟩
  | mp b bs => exact h.elim
theorem ar.nf {G : Gh} {tmps : Array Value} {w : World} (hs : ar C n ⟨f, bx, lv, gen⟩ G tmps w) {g0 : Nat} {cells cells' : List A} (hb : ak bx g0 = some cells) (hlen : cells'.length = cells.length)
    (hc : ∀ b cs T, G.box g0 = some b → w.heap[b]? = some (.cells cs T (0, 0)) → (∀ (i : Nat) (x : Value) (a : A), cs[i]? = some x → cells[i]? = some a → aA (ao C G gen w) x a) → ∀ (i : Nat) (x : Value) (a : A), cs[i]? = some x → cells'[i]? = some a → aA (ao C G gen w) x a) :
    ar C n ⟨f, (g0, cells') :: bx, lv, gen⟩ G tmps w := by
  refine { hs with box := fun g' l hl => ?_ }
  simp only [bt] at hl
  split at hl
  · rename_i e
    subst e
    simp only [Option.some.injEq] at hl
    subst hl
    obtain ⟨b, cs, T', h1, h2, h3, h4, h5⟩ := hs.box g0 cells hb
    exact ⟨b, cs, T', h1, h2, by rw [hlen]; exact h3, h4, hc b cs T' h1 h2 h5⟩
  · exact hs.box g' l hl
end
end Go.Ab
namespace Go.Ab
open Go.RowKit Go.MapKept
section
variable {P : Program} (T : bm P) {C : Ctx} {n : Nat} {ops : Array Oper} {Q : Exit → St → Prop} {rest : List Oper}
variable {f : List (Nat × A)} {bx : List (Nat × List A)} {lv : List Nat} {gen : Nat} {d : Nat} {ty : TypeId} {pos : String} {af : Array Edge} {dst : Option Nat}
variable {α β : Type} [DecidableEq α] {kf : α → Value} {vf : β → D}
end
end Go.Ab
namespace Go.Ab
open Go.RowKit
def oM : Obj → Bool
  | .cells .. => true
  | .map .. => true
  | _ => false
theorem sW {w : World} {b o : Nat} {u : Value} (h : cellAt w b o = some u) : ∃ cs T f, w.heap[b]? = some (.cells cs T f) ∧ cs[o]? = some u := by
  unfold cellAt World.cell? at h
  cases hb : w.heap[b]? with
  | none => simp [hb] at h
  | some x =>
    cases x <;> simp_all
section
variable {C : Ctx} {n : Nat} {st : St} {G : Gh} {tmps : Array Value} {w : World}
theorem ar.agree (h : ar C n st G tmps w) {w' : World} (e1 : w'.os = w.os) (e2 : w'.tape = w.tape) (e3 : w'.output = w.output) (hsz : w.heap.size ≤ w'.heap.size)
    (hk : ∀ (b : Nat) (o : Obj), w.heap[b]? = some o → oM o = true → w'.heap[b]? = some o) (hold : ∀ b, b < C.w0.heap.size → ¬ C.fp b → w'.heap[b]? = w.heap[b]?) : ar C n st G tmps w' := by
  have hcell : ∀ {b o : Nat} {u : Value}, Ab.cellAt w b o = some u → Ab.cellAt w' b o = some u := fun {b o u} hu => by
    obtain ⟨cs, T, f, h1, h2⟩ := sW hu
    rw [bj (hk b _ h1 rfl)]; exact h2
  have htk : cu w w' := fun b cs T f h => ⟨cs, f, hk b _ h rfl⟩
  have hfr : Fr C w' := ⟨e1.trans h.fr.os, e2.trans h.fr.tape, e3.trans h.fr.output, Nat.le_trans h.fr.size hsz, fun b h1 h2 => (hold b h1 h2).trans (h.fr.block b h1 h2), fun b o u hk' hu => hcell (h.fr.cells b o u hk' hu), h.fr.ty.trans htk⟩
  have hle : (ao C G st.gen w).le (ao C G st.gen w') := gf h.fr hfr (fun b o u hu hn => ⟨hcell hu, hn⟩) (fun _ _ h => h) (fun _ _ _ h => h) (Nat.le_refl _) (fun g b len cap sz pub _ hr => by
      obtain ⟨_, _, _, cur, T, h3, _⟩ := h.row g b len cap sz pub hr
      rw [h3]; exact hk b _ h3 rfl) (fun g b bs _ hr => ⟨by
        obtain ⟨_, _, _, me, clock, h3⟩ := h.mrow g b bs hr
        rw [h3]; exact hk b _ h3 rfl, fun p hp => by
        obtain ⟨_, _, _, _, cur, T, h3, _⟩ := h.sub g b bs p.1 p.2 hr hp
        rw [h3]; exact hk p.1 _ h3 rfl⟩) htk
  refine { size := h.size, frame := h.ck hle, inj := h.inj, live := h.live, gown := h.gown, xold := h.xold, kold := h.kold, lent := h.lent, fr := hfr, gcell := fun g b hb => jn htk (h.gcell g b hb), box := ?_, gbox := ?_, row := ?_, mrow := ?_, sub := ?_ }
  · intro g cells hc
    obtain ⟨b, cs, T, h1, h2, h3, h4, h5⟩ := h.box g cells hc
    exact ⟨b, cs, T, h1, hk b _ h2 rfl, h3, h4, fun i u a hu ha => (h5 i u a hu ha).mono hle⟩
  · intro g b hb
    obtain ⟨h1, h2, h3⟩ := h.gbox g b hb
    exact ⟨h1, Nat.lt_of_lt_of_le h2 hsz, h3⟩
  · intro g b len cap sz pub hr
    obtain ⟨h1, h2, h3, cur, T, h4, h5⟩ := h.row g b len cap sz pub hr
    exact ⟨h1, h2, h3, cur, T, hk b _ h4 rfl, h5⟩
  · intro g b bs hr
    obtain ⟨h1, h2, h3, me, clock, h4⟩ := h.mrow g b bs hr
    exact ⟨h1, h2, h3, me, clock, hk b _ h4 rfl⟩
  · intro g b bs c lim hr hm
    obtain ⟨h1, h2, h3, h4, cur, T, h5, h6⟩ := h.sub g b bs c lim hr hm
    exact ⟨h1, h2, h3, h4, cur, T, hk c _ h5 rfl, h6⟩
/-! ### the walk begun anew in the world that is -/
def nN (G : Gh) (b : Nat) : Prop := (∃ g, G.box g = some b) ∨ ∃ g r lim, G.own g = some r ∧ r.jV b lim
def lA (C : Ctx) (G : Gh) (w : World) (ds : List Deferred) : Ctx := { w0 := w, fp := nN G, x := C.x, keep := C.keep, bx := [], ds := ds }
theorem ar.eV (h : ar C n st G tmps w) {b : Nat} (hc : nN G b) : C.w0.heap.size ≤ b ∨ C.fp b := by
  rcases hc with ⟨g, hg⟩ | ⟨g, r, lim, hg, hr⟩
  · exact (h.gbox g b hg).2.2.1
  · exact (h.rowAt hg hr).1.1
theorem ar.xX (h : ar C n st G tmps w) (ds : List Deferred) : ar (lA C G w ds) n st G tmps w := by
  have hfr : Fr (lA C G w ds) w := ⟨rfl, rfl, rfl, Nat.le_refl _, fun _ _ _ => rfl, fun _ _ _ _ h => h, .refl w⟩
  have hle : (ao C G st.gen w).le (ao (lA C G w ds) G st.gen w) := ⟨fun b o u hu hn => ⟨hu, hn⟩, fun b o u hu ho => ⟨hu, cv hu, fun hc => (h.eV hc).elim (fun h1 => by have := ho.1; omega) ho.2⟩, fun _ _ h => h, fun _ _ _ h => h, Nat.le_refl _, fun _ _ _ _ _ _ _ _ => rfl, fun _ _ _ _ _ => ⟨rfl, fun _ _ => rfl⟩, cu.refl _⟩
  refine { size := h.size, frame := fun t a ha => ?_, inj := h.inj, live := h.live, gown := h.gown, xold := ?_, kold := ?_, lent := fun i b hb => (by simp [lA] at hb), fr := hfr, gcell := h.gcell, box := ?_, gbox := ?_, row := ?_, mrow := ?_, sub := ?_ }
  · obtain ⟨v, h1, h2⟩ := h.frame t a ha
    exact ⟨v, h1, h2.mono hle⟩
  · intro g cells hc
    obtain ⟨b, cs, T, h1, h2, h3, h4, h5⟩ := h.box g cells hc
    exact ⟨b, cs, T, h1, h2, h3, h4, fun i u a hu ha => (h5 i u a hu ha).mono hle⟩
  · intro g b hb
    obtain ⟨h1, h2, h3⟩ := h.gbox g b hb
    exact ⟨h1, h2, .inr (.inl ⟨g, hb⟩), h3.2⟩
  · intro g b len cap sz pub hr
    obtain ⟨h1, h2⟩ := h.row g b len cap sz pub hr
    exact ⟨⟨.inr (.inr ⟨g, _, pub, hr, rfl, rfl⟩), h1.2⟩, h2⟩
  · intro g b bs hr
    obtain ⟨h1, h2⟩ := h.mrow g b bs hr
    exact ⟨⟨.inr (.inr ⟨g, _, 0, hr, Or.inl ⟨rfl, rfl⟩⟩), h1.2⟩, h2⟩
  · intro g b bs c lim hr hm
    obtain ⟨h1, h2⟩ := h.sub g b bs c lim hr hm
    exact ⟨⟨.inr (.inr ⟨g, _, lim, hr, Or.inr hm⟩), h1.2⟩, h2⟩
  · intro b o hx
    obtain ⟨h1, h2⟩ := h.xold b o hx
    exact ⟨Nat.lt_of_lt_of_le h1 h.fr.size, fun hc => (h.eV hc).elim (fun h3 => by omega) h2⟩
  · intro b o hk
    exact Nat.lt_of_lt_of_le (h.kold b o hk) h.fr.size
theorem ar.vn {P : Program} [Met P] [hC : GC P C] (h : ar C n st G tmps w) (ds : List Deferred) : GC P (lA C G w ds) := by
  obtain ⟨W, h1, h2, h3⟩ := hC.h
  refine ⟨W, h1, Nat.le_trans h2 h.fr.size, fun b hb => ⟨(h.fr.block b (Nat.lt_of_lt_of_le hb h2) (h3 b hb).2).trans (h3 b hb).1, fun hc => ?_⟩⟩
  rcases h.eV hc with h4 | h4
  · omega
  · exact (h3 b hb).2 h4
mutual
def gu : A → Bool
  | .row _ => false
  | .agg l => gG l
  | .tup l => gG l
  | .clo _ l => gG l
  | .bnd _ l => gG l
  | _ => true
def gG : List A → Bool
  | [] => true
  | a :: l => gu a && gG l
end
theorem eX : ∀ {l : List A}, gG l = true → ∀ a ∈ l, gu a = true
  | [], _, _, h => by cases h
  | b :: l, h, a, ha => by
    simp only [gG, Bool.and_eq_true] at h
    cases ha with
    | head => exact h.1
    | tail _ ha => exact eX h.2 a ha
def im (st : St) : Bool := st.f.all (fun x => gu x.2) && st.bx.all (fun x => gG x.2)
theorem aA.yz {E E' : En} (hw : E.w = E'.w) (hp : E.pv = E'.pv) (hbb : E.box = E'.box) (ho : E.own = E'.own) (hgg : E.gen = E'.gen) {v : Value} {a : A} (h : aA E v a) (ha : gu a = true) : aA E' v a := by
  obtain ⟨w', pv', old', box', own', gen'⟩ := E'
  obtain ⟨w0, pv0, old0, box0, own0, gen0⟩ := E
  simp only at hw hp hbb ho hgg
  subst hw; subst hp; subst hbb; subst ho; subst hgg
  induction h with
  | any x => exact .any x
  | d hd => exact .d hd
  | ag vs l hs hd => exact .ag vs l hs hd
  | own x g es hd hg hr => exact .own x g es hd hg hr
  | agg vs l hs hone _ ih => exact .agg vs l hs hone (fun i u x hu hx => ih i u x hu hx (eX (by simpa [gu] using ha) x (List.mem_of_getElem? hx)))
  | tup vs l hs _ ih => exact .tup vs l hs (fun i u x hu hx => ih i u x hu hx (eX (by simpa [gu] using ha) x (List.mem_of_getElem? hx)))
  | rowd b off l u hc hd => exact .rowd b off l u hc hd
  | row b off l u hc _ _ => simp [gu] at ha
  | ptr x g off b hg hb hp => exact .ptr x g off b hg hb hp
  | xs x g es hg h1 hx => exact .xs x g es hg h1 hx
  | xp x g i off l hg h1 hx => exact .xp x g i off l hg h1 hx
  | mp x g es hg h1 hx => exact .mp x g es hg h1 hx
  | mq x g es hg h1 hx => exact .mq x g es hg h1 hx
  | mo x g es hole ob hg h1 hx => exact .mo x g es hole ob hg h1 hx
  | ni t x => exact .ni t x
  | fl x es hd hc => exact .fl x es hd hc
  | bf x g T s hg h1 hx => exact .bf x g T s hg h1 hx
  | np x g T b hg hb hT u hx => exact .np (E := ⟨w0, pv0, old', box0, own0, gen0⟩) x g T b hg hb hT u hx
  | sb x g n c b hg hb hn hx => exact .sb x g n c b hg hb hn hx
  | fx x u g es ou hx hg hu ho => exact .fx x u g es ou hx hg hu ho
  | ol x u g' E' g es hx hg' hr' hg hu => exact .ol x u g' E' g es hx hg' hr' hg hu
  | ow x v g es hd hg hr => exact .ow x v g es hd hg hr
  | lk x g n c b v hg hb hn hx => exact .lk x g n c b v hg hb hn hx
  | clo f vs l hs _ ih => exact .clo f vs l hs (fun i u x hu hx => ih i u x hu hx (eX (by simpa [gu] using ha) x (List.mem_of_getElem? hx)))
  | bnd f vs l hs _ ih => exact .bnd f vs l hs (fun i u x hu hx => ih i u x hu hx (eX (by simpa [gu] using ha) x (List.mem_of_getElem? hx)))
theorem oa {f : List (Nat × A)} {t : Nat} {a : A} (h : look f t = some a) : (t, a) ∈ f := by
  induction f with
  | nil => simp [look] at h
  | cons x r ih =>
    obtain ⟨s, b⟩ := x
    rw [aR] at h
    split at h
    · rename_i e; cases h; subst e; exact List.mem_cons_self
    · exact List.mem_cons_of_mem _ (ih h)
theorem ar.xO (h : ar C n st G tmps w) (hbx : C.bx = []) {ds : List Deferred} {st' : St} {G' : Gh} {tmps' : Array Value} {w' : World} (h' : ar (lA C G w ds) n st' G' tmps' w') (hno : im st' = true) : ar C n st' G' tmps' w' := by
  simp only [im, Bool.and_eq_true, List.all_eq_true] at hno
  have hm : ∀ {b lim}, (lA C G w ds).iD b lim → C.iD b lim := fun {b lim} hm => ⟨hm.1.elim (fun h1 => .inl (Nat.le_trans h.fr.size h1)) h.eV, hm.2⟩
  have hrep : ∀ {v a}, aA (ao (lA C G w ds) G' st'.gen w') v a → gu a = true → aA (ao C G' st'.gen w') v a := fun hr ha => aA.yz (E := ao (lA C G w ds) G' st'.gen w') (E' := ao C G' st'.gen w') rfl rfl rfl rfl rfl hr ha
  refine { size := h'.size, frame := fun t a ha => ?_, inj := h'.inj, live := h'.live, gown := h'.gown, xold := h.xold, kold := h.kold, lent := fun i b hb => (by rw [hbx] at hb; simp at hb), gcell := h'.gcell, fr := ?_, box := ?_, gbox := ?_, row := ?_, mrow := ?_, sub := ?_ }
  · obtain ⟨v, h1, h2⟩ := h'.frame t a ha
    exact ⟨v, h1, hrep h2 (hno.1 _ (oa ha))⟩
  · intro g cells hc
    obtain ⟨b, cs, T, h1, h2, h3, h4, h5⟩ := h'.box g cells hc
    exact ⟨b, cs, T, h1, h2, h3, h4, fun i u a hu ha => hrep (h5 i u a hu ha) (eX (hno.2 _ (kz hc)) a (List.mem_of_getElem? ha))⟩
  · intro g b hb
    obtain ⟨h1, h2, h3⟩ := h'.gbox g b hb
    exact ⟨h1, h2, hm h3⟩
  · intro g b len cap sz pub hr
    obtain ⟨h1, h2⟩ := h'.row g b len cap sz pub hr
    exact ⟨hm h1, h2⟩
  · intro g b bs hr
    obtain ⟨h1, h2⟩ := h'.mrow g b bs hr
    exact ⟨hm h1, h2⟩
  · intro g b bs c lim hr hmm
    obtain ⟨h1, h2⟩ := h'.sub g b bs c lim hr hmm
    exact ⟨hm h1, h2⟩
  · refine ⟨h'.fr.os.trans h.fr.os, h'.fr.tape.trans h.fr.tape, h'.fr.output.trans h.fr.output, Nat.le_trans h.fr.size h'.fr.size, fun b h1 h2 => ?_, fun b o u hk hu => h'.fr.cells b o u hk (h.fr.cells b o u hk hu), h.fr.ty.trans h'.fr.ty⟩
    exact (h'.fr.block b (Nat.lt_of_lt_of_le h1 h.fr.size) (fun hc => (h.eV hc).elim (fun h3 => by omega) h2)).trans (h.fr.block b h1 h2)
end
/-! ### walks over which marks may stand on the deferred calls -/
abbrev uB (D : Nat) : Deferred := ⟨.collected D, #[]⟩
def nB (n0 : Nat) (ds : List Deferred) (w : World) : Prop := ∃ Ds : List Nat, ds = Ds.map uB ∧ Ds.Nodup ∧ ∀ D ∈ Ds, n0 ≤ D ∧ w.heap[D]? = some (Obj.deferred (some []))
def wL (C : Ctx) (n : Nat) (Q : Exit → St → Prop) : Exit → Act → World → Prop := fun e a w => nB C.w0.heap.size a.defers w ∧ ∃ st, dE C n st a.tmps w ∧ Q e st
def Wd (P : Program) (C : Ctx) (n : Nat) (c : Code) (Q : Exit → St → Prop) (st : St) : Prop := ∀ tmps ds w, dE C n st tmps w → nB C.w0.heap.size ds w → c.wp P (wL C n Q) ⟨tmps, ds⟩ w
def qt (P : Program) (C : Ctx) (n : Nat) (y : Code) (Q : Exit → St → Prop) : Exit → St → Prop
  | .normal, s => Wd P C n y Q s
  | e, s => Q e s
def QN (Q : Exit → St → Prop) : Exit → St → Prop := fun e s => im s = true ∧ Q e s
def wx {ι : Type} (C : Ctx) (n : Nat) (S : ι → St) (μ : ι → Nat) (m : Nat) (Q : Exit → St → Prop) : Exit → St → Prop
  | .normal, s => ∃ j, μ j < m ∧ ∀ (tmps : Array Value) (w : World), dE C n s tmps w → dE C n (S j) tmps w
  | e, s => Q e s
section
variable {P : Program} [Met P] {C : Ctx} {n : Nat} {Q : Exit → St → Prop} {st : St}
theorem nB.kept {n0 : Nat} {ds : List Deferred} {w w' : World} (h : nB n0 ds w) (hk : ∀ D : Nat, w.heap[D]? = some (Obj.deferred (some [])) → w'.heap[D]? = some (Obj.deferred (some []))) : nB n0 ds w' :=
  let ⟨Ds, h1, h2, h3⟩ := h; ⟨Ds, h1, h2, fun D hD => ⟨(h3 D hD).1, hk D (h3 D hD).2⟩⟩
theorem ar.uJ {G : Gh} {tmps : Array Value} {w : World} (h : ar C n st G tmps w) {D : Nat} {o : Obj} (hD : w.heap[D]? = some o) (ho : oM o = false) : ¬ nN G D := by
  rintro (⟨g, hg⟩ | ⟨g, r, lim, hg, hr⟩)
  · obtain ⟨cs, T, f, h2⟩ := h.gcell g D hg
    rw [hD] at h2; cases h2; cases ho
  · cases r with
    | nil => exact hr.elim
    | zero _ => exact hr.elim
    | blk b len cap sz pub =>
      obtain ⟨rfl, rfl⟩ := hr
      obtain ⟨_, _, _, cur, T, h4, _⟩ := h.row g b len cap sz lim hg
      rw [hD] at h4; cases h4; cases ho
    | mp b bs =>
      rcases hr with ⟨rfl, rfl⟩ | hm
      · obtain ⟨_, _, _, me, clock, h4⟩ := h.mrow g b bs hg
        rw [hD] at h4; cases h4; cases ho
      · obtain ⟨_, _, _, _, cur, T, h4, _⟩ := h.sub g b bs D lim hg hm
        rw [hD] at h4; cases h4; cases ho
end
end Go.Ab
namespace Go.Ab
open Go.RowKit
section
variable {P : Program} [Met P] {C : Ctx} {n : Nat} {Q : Exit → St → Prop} {st st' : St} {c : Code}
theorem Wd.yx [GC P C] (hbx : C.bx = []) (h : ∀ C', NB C' 0 → GC P C' → W P C' n c (QN Q) st) : Wd P C n c Q st := by
  intro tmps ds w ⟨G, hs⟩ hds
  refine wp_mono (h (lA C G w ds) ⟨rfl⟩ (hs.vn ds) tmps w ⟨G, hs.xX ds⟩) ?_
  rintro e ⟨t, d⟩ w' ⟨hd, st', ⟨G', hs'⟩, hno, hq⟩
  have hd : d = ds := hd
  subst hd
  refine ⟨hds.kept fun D hD => ?_, st', ⟨G', hs.xO hbx hs' hno⟩, hq⟩
  exact (hs'.fr.block D (Array.getElem?_eq_some_iff.1 hD).1 (hs.uJ hD rfl)).trans hD
omit [Met P] in
theorem Wd.seq {x y : Code} (h : Wd P C n x (qt P C n y Q) st) : Wd P C n (.seq x y) Q st := by
  intro tmps ds w hs hds
  refine wp_seq (wp_mono (h tmps ds w hs hds) ?_)
  rintro e ⟨t, d⟩ w' ⟨hd, st', hs', hq⟩
  cases e <;> simp only [qt] at hq <;> simp only [Exit.then]
  · exact hq t d w' hs' hd
  all_goals exact ⟨hd, st', hs', hq⟩
theorem Wd.fq [GC P C] (hbx : C.bx = []) {x y : Code} (h : ∀ C', NB C' 0 → GC P C' → W P C' n x (QN (qt P C n y Q)) st) : Wd P C n (.seq x y) Q st := Wd.seq (Wd.yx hbx h)
omit [Met P] in
theorem Wd.block {id : Nat} (h : Wd P C n c (QB id Q) st) : Wd P C n (.block id c) Q st := by
  intro tmps ds w hs hds
  refine wp_block (wp_mono (h tmps ds w hs hds) ?_)
  rintro e ⟨t, d⟩ w' ⟨hd, st', hs', hq⟩
  cases e <;> simp only [QB] at hq <;> simp only [Exit.inBlock]
  case exit i =>
    split
    · rename_i e; rw [if_pos e] at hq; exact ⟨hd, st', hs', hq⟩
    · rename_i e; rw [if_neg e] at hq; exact ⟨hd, st', hs', hq⟩
  all_goals exact ⟨hd, st', hs', hq⟩
omit [Met P] in
theorem Wd.conv (hle : ∀ (tmps : Array Value) (w : World), dE C n st tmps w → dE C n st' tmps w) (h : Wd P C n c Q st') : Wd P C n c Q st :=
  fun tmps ds w hs hds => h tmps ds w (hle tmps w hs) hds
omit [Met P] in
theorem Wd.loop {ι : Type} (S : ι → St) (μ : ι → Nat) (hr : ∀ i, Wd P C n c (wx C n S μ (μ i) Q) (S i)) (i : ι) : Wd P C n (.loop c) Q (S i) := by
  intro tmps ds w hs hds b k cs
  have key : ∀ (m : Nat) (i : ι) (tmps : Array Value) (ds : List Deferred) (w : World), μ i = m → dE C n (S i) tmps w → nB C.w0.heap.size ds w →
      ∃ e a' w', wL C n Q e a' w' ∧ Arrives P (lone (b.at ⟨tmps, ds⟩ (.code c :: .inLoop c :: k)) cs w) b k cs e a' w' := by
    intro m
    induction m using Nat.strongRecOn with
    | _ m ih =>
      intro i tmps ds w hm hs hds
      obtain ⟨e, ⟨t1, d1⟩, w1, ⟨hd, st1, hs1, hq⟩, harr⟩ := hr i tmps ds w hs hds b (.inLoop c :: k) cs
      simp only at hd
      cases e with
      | normal =>
        obtain ⟨j, hlt, hcv⟩ := hq
        obtain ⟨e2, a2, w2, hq2, harr2⟩ := ih (μ j) (hm ▸ hlt) j t1 d1 w1 rfl (hcv t1 w1 hs1) hd
        exact ⟨e2, a2, w2, hq2, .of_steps (Steps.trans harr (.one step_inLoop)) harr2⟩
      | exit id => exact ⟨_, ⟨t1, d1⟩, w1, ⟨hd, st1, hs1, hq⟩, .pass (x := .inLoop c) rfl (fun _ _ => .inl (by simp)) harr⟩
      | goto l => exact ⟨_, ⟨t1, d1⟩, w1, ⟨hd, st1, hs1, hq⟩, .pass (x := .inLoop c) rfl (fun _ _ => .inl (by simp)) harr⟩
      | ret => exact ⟨_, ⟨t1, d1⟩, w1, ⟨hd, st1, hs1, hq⟩, .pass (x := .inLoop c) rfl (fun _ _ => .inl (by simp)) harr⟩
      | panic ch => exact ⟨_, ⟨t1, d1⟩, w1, ⟨hd, st1, hs1, hq⟩, .pass (x := .inLoop c) rfl (fun _ _ => .inl (by simp)) harr⟩
      | outgrown => exact ⟨_, ⟨t1, d1⟩, w1, ⟨hd, st1, hs1, hq⟩, .pass (x := .inLoop c) rfl (fun _ _ => .inl (by simp)) harr⟩
  obtain ⟨e, a', w', hq, harr⟩ := key _ i tmps ds w rfl hs hds
  exact ⟨e, a', w', hq, .of_steps (.one step_loop) harr⟩
theorem ar.mw {G : Gh} {tmps : Array Value} {w : World} (h : ar C n st G tmps w) {r : Nat} {o : Obj} (hr : w.heap[r]? = some o) (ho : oM o = false) (hn : C.w0.heap.size ≤ r) (o' : Obj) : ar C n st G tmps (w.putObj r o') :=
  h.agree rfl rfl rfl (by simp) (fun b x hb hx => by
    rw [World.putObj_heap_other (fun e => by subst e; rw [hr] at hb; cases hb; rw [ho] at hx; cases hx)]; exact hb) (fun b hb _ => World.putObj_heap_other (by omega))
theorem ar.drew {G : Gh} {tmps : Array Value} {w : World} (h : ar C n st G tmps w) : ar C n st G tmps w.drew :=
  h.agree rfl rfl rfl (Nat.le_refl _) (fun _ _ hb _ => hb) (fun _ _ _ => rfl)
omit [Met P] in
theorem oo {fn : Func} {tmps : Array Value} {R : Ending → World → Prop} {m : Nat} : ∀ (Ds : List Nat) (w : World) (st : St) (G : Gh), ar C n st G tmps w → Ds.Nodup → (∀ D ∈ Ds, C.w0.heap.size ≤ D ∧ w.heap[D]? = some (Obj.deferred (some []))) →
    (∀ w' G, ar C n st G tmps w' → ∃ v, (results fn tmps).run P w' = .ok v w' ∧ R (.returned v) w') → LeavesInM Fence.wide m P fn tmps R (Ds.map uB) .returning w
  | [], w, st, G, hs, _, _, h => h w G hs
  | D :: Ds, w, st, G, hs, hn, hD, h => by
    obtain ⟨h1, h2⟩ := hD D (by simp)
    rw [List.nodup_cons] at hn
    refine ⟨by simp, .inl ⟨D, _, rfl, run_takeDeferred h2, oo Ds _ st G (hs.mw h2 rfl h1 _) hn.2 (fun E hE => ?_) h⟩⟩
    obtain ⟨h3, h4⟩ := hD E (by simp [hE])
    exact ⟨h3, by rw [World.putObj_heap_other (fun e => hn.1 (by rw [← e]; exact hE))]; exact h4⟩
theorem ax.yW (T : bm P) {f : FuncId} {fn : Func} {c : Code} {rs : List RV} {n : Nat} {args : List A} {r : A} (hf : P.funcs[f]? = some fn) (hname : (fn.name == "runtime.NumGoroutine") = false) (hb : fn.body = some c) (hn : fn.ntmps = n)
    (hr : fn.results = (rs.map RV.var).toArray) (hlen : Nat.ble args.length n = true)
    (h : ∀ C, C.bx = [] → GC P C → Wd P C n c (fun e st => (match e with | .normal => True | .ret => True | _ => False) ∧ ∃ l, gn T st.f st.bx rs = some l ∧ norm [] (aL l) = r) ⟨gV 0 args, [], [], 0⟩) : ax P f args r 0 := by
  have hlen := Nat.le_of_ble_eq_true hlen
  refine ⟨⟨fn, hf, hname, by rw [hb]; rfl⟩, fun C vals w hG hw hp hx hsz hrep => ?_⟩
  subst hw
  refine callsIn_wide.1 (callsIn_of_wp_marks (F := Fence.wide) (n := 0) hf hb trivial ?_ rfl)
  refine wpIn_wide.2 ?_
  refine wp_mono (h C hp.2.2.1 hG (vals ++ Array.replicate (fn.ntmps - vals.size) undef) [] C.w0 ⟨G0, ?_⟩ ⟨[], rfl, List.nodup_nil, fun D hD => by cases hD⟩) ?_
  · refine { size := by simp [hn]; omega, frame := fun t a ha => ?_, box := fun g cells hc => by simp [ak] at hc, gbox := fun g b hb => by simp [G0] at hb, inj := fun g g' b hb => by simp [G0] at hb, gcell := fun g b hb => by simp [G0] at hb,
             live := fun g hg => by simp at hg, gown := fun g r hr => by simp [G0] at hr, row := fun g b len cap sz pub hr => by simp [G0] at hr, mrow := fun g b bs hr => by simp [G0] at hr, sub := fun g b bs c lim hr => by simp [G0] at hr, xold := fun b o hb => ⟨hx b o hb, hp.1 b⟩, kold := fun b o hb => absurd hb (hp.2.1 b o), lent := fun i b hb => by rw [hp.2.2.1] at hb; simp at hb,
             fr := ⟨rfl, rfl, rfl, Nat.le_refl _, fun _ _ _ => rfl, fun _ _ _ hb => absurd hb (hp.2.1 _ _), cu.refl _⟩ }
    obtain ⟨_, h1⟩ := fS args 0 t a ha
    have h2 : t < args.length := (List.getElem?_eq_some_iff.1 (by simpa using h1)).1
    have h3 : t < vals.size := by omega
    have h4 : vals[t]? = some vals[t] := by simp [h3]
    exact ⟨vals[t], by rw [Array.getElem?_append_left h3]; exact h4, hrep t _ a h4 (by simpa using h1)⟩
  · rintro e ⟨tmps, df⟩ w' ⟨⟨Ds, hd, hnd, hDs⟩, st, ⟨G, hs⟩, he, l, hl, hno⟩
    simp only at hd
    subst hd
    have hfin : LeavesInM Fence.wide 0 P fn tmps (fun e w' => ∃ v G', e = .returned v ∧ ar C 0 ⟨[], [], List.range 0, 0⟩ G' #[] w' ∧ aA (ao C G' 0 w') v r) (Ds.map uB) .returning w' :=
      oo Ds w' st G hs hnd hDs fun w2 G2 hs2 => by
        obtain ⟨v, h1, v1, G', h2, h3, h4⟩ := zf T hs2 hp.2.2.1 hr hl hno
        exact ⟨v, h1, v1, G', h2, h3, h4⟩
    cases e with
    | normal => exact hfin
    | ret => exact hfin
    | exit _ => exact he.elim
    | goto _ => exact he.elim
    | panic _ => exact he.elim
    | outgrown => exact he.elim
end
/-! ### a range over slices.Chunk's iterator, where there is one chunk -/
def mz (P : Program) [Met P] (n : Nat) (body : Code) (V : List (Nat × A)) (b0 : List (List A)) (m : Nat) (b1 : List (List A)) (k : Nat) : Prop :=
  ∀ (C : Ctx) (G : Gh) (tmps : Array Value) (w : World) (l q : Nat), GC P C → C.w0 = w → C.bx.length = b0.length → C.ds = [] → ar C n ⟨V, dw 0 b0, (List.range m).map (b0.length + ·), b0.length + m⟩ G tmps w →
    body.wpIn (Fence.wide.inRound l) q P (fun e _ w' => e = .normal ∧ ∃ G', ar C 0 ⟨[], dw 0 b1, (List.range k).map (b0.length + ·), b0.length + k⟩ G' #[] w') ⟨tmps, []⟩ w
def rr (P : Program) (fid : FuncId) : Prop :=
  ∀ (l : Nat) (W : World) (b0 o0 b1 o1 : Nat) (a : Addr) (len cap : Nat) (R : World → Prop), cellAt W b0 o0 = some (.slice (some a) len cap) → cellAt W b1 o1 = some (.int .i64 1000) → 0 < len → len ≤ 1000 → len ≤ cap → cap ≤ maxLen →
    YieldAt Fence.wide 0 P l #[.slice (some a) len len] W.drew (fun e W' => e = .returned (.bool true) ∧ (∃ a' cap', cellAt W' b0 o0 = some (.slice a' len cap')) ∧ cellAt W' b1 o1 = some (.int .i64 1000) ∧ R W') →
    Calls P fid #[.func (.yield l) #[] #[], .pointer (some ⟨b0, o0, none⟩), .pointer (some ⟨b1, o1, none⟩)] W fun e W' => (∃ v, e = .returned v) ∧ R W'
end Go.Ab
namespace Go.Ab
open Go.RowKit
theorem sX {w : World} {pv : Nat → Nat → Prop} {v : Value} {es : List (List D)} (h : aF w pv v (.sl es)) (hp : 0 < es.length) : ∃ (a : Addr) (cap : Nat), v = .slice (some a) es.length cap ∧ es.length ≤ cap ∧ cap ≤ maxLen ∧ aF w pv (.slice (some a) es.length es.length) (.sl es) := by
  cases h with
  | nil => simp at hp
  | emp a cap hm => simp at hp
  | sl b off len cap sz _ u hl hc hm hs hu hr => subst hl; exact ⟨_, cap, rfl, hc, hm, .sl b off es.length es.length sz es u rfl (Nat.le_refl _) (by omega) hs hu hr⟩
theorem uK {w : World} {pv : Nat → Nat → Prop} {v : Value} {es : List (List D)} (h : aF w pv v (.sl es)) : ∃ (a : Option Addr) (cap : Nat), v = .slice a es.length cap := by
  cases h with
  | nil => exact ⟨_, _, rfl⟩
  | emp a cap hm => exact ⟨_, _, rfl⟩
  | sl b off len cap sz _ u hl hc hm hs hu hr => subst hl; exact ⟨_, _, rfl⟩
theorem qX {C : Ctx} {n : Nat} {st : St} {G : Gh} {tmps : Array Value} {w : World} (hs : ar C n st G tmps w) {g : Operand} {fid : FuncId} {es : List (List D)} {x : Value} (hg : av st.f g = some (.clo fid [.rowd [.sl es], .rowd [.v x]])) :
    ∃ b0 o0 b1 o1, Act.eval ⟨tmps, []⟩ g = .func (.func fid) #[] #[.pointer (some ⟨b0, o0, none⟩), .pointer (some ⟨b1, o1, none⟩)] ∧ (∃ u, cellAt w b0 o0 = some u ∧ aF w (aN C G) u (.sl es)) ∧ cellAt w b1 o1 = some x := by
  have hr := hs.av hg
  generalize Act.eval ⟨tmps, []⟩ g = v at hr
  cases hr with
  | clo _ vs _ hsz hcd =>
  have hsz : vs.size = 2 := hsz
  obtain ⟨v0, v1, rfl⟩ : ∃ v0 v1, vs = #[v0, v1] := ⟨vs[0], vs[1], by
    apply Array.ext
    · simpa using hsz
    · intro i h1 h2
      match i with
      | 0 => rfl
      | 1 => rfl
      | i + 2 => simp at h2; omega⟩
  have r0 := hcd 0 v0 _ rfl rfl
  have r1 := hcd 1 v1 _ rfl rfl
  cases r0 with
  | rowd b0 o0 _ u0 hc0 hd0 =>
  cases r1 with
  | rowd b1 o1 _ u1 hc1 hd1 =>
  refine ⟨b0, o0, b1, o1, rfl, ⟨u0 0, ?_, hd0 0 _ rfl⟩, ?_⟩
  · have h1 := (hc0 0 (by simp)).1
    rw [Nat.add_zero] at h1
    exact h1
  · have h1 := (hc1 0 (by simp)).1
    have h2 := hd1 0 _ rfl
    generalize u1 0 = y at h1 h2
    rw [Nat.add_zero] at h1
    cases h2 with | v _ _ => exact h1
section
variable {P : Program} [Met P] {C : Ctx} [GC P C] {n : Nat} {Q : Exit → St → Prop} {st : St}
theorem Wd.range {g : Operand} {par d id : Nat} {ty : TypeId} {pos : String} {af : Array Edge} {body : Code} {es : List (List D)} {fid : FuncId}
    (hg : av st.f g = some (.clo fid [.rowd [.sl es], .rowd [.v (.int .i64 1000)]])) (hok : kM P fid) (hit : rr P fid) (hes : 0 < es.length) (hes2 : es.length ≤ 1000) (hpn : Nat.blt par n = true) (hdn : Nat.blt d n = true)
    (gs os : List Nat) (hgs : nodupB gs = true) (hos : nodupB os = true) (hov : (os.all fun g => st.lv.any fun h => Nat.beq h g) = true) {V : List (Nat × A)} {b0 b1 : List (List A)} {m k : Nat} (hb : fO st.bx gs os gs = some b0) (hm : os.length = m)
    (hV : ∀ t a', look V t = some a' → ∃ a, look st.f t = some a ∧ cM st.bx gs os 5 a = a') (hVp : (V.all fun x => !Nat.beq x.1 par) = true)
    (hbody : mz P n body ((d, .d (.sl es)) :: V) b0 m b1 k) (hl1 : b1.length = b0.length)
    (h : Q .normal ⟨st.f, fk gs st.gen gs b1 ++ st.bx, (List.range k).map (b0.length + · + st.gen) ++ st.lv.filter (fun g => !os.any (Nat.beq g)), b0.length + k + st.gen⟩) :
    Wd P C n (.rangeFunc g #[par] (.region id #[⟨some d, .assign (.tmp par), ty, pos, af, none⟩] false) body) Q st := by
  subst hm
  intro tmps ds w ⟨G, hs⟩ ⟨Ds, hds, hDn, hDs⟩
  have hds : ds = Ds.map uB := hds
  subst hds
  have hpn := Nat.le_of_ble_eq_true hpn
  have hdn := Nat.le_of_ble_eq_true hdn
  obtain ⟨p0, o0, p1, o1, hev, ⟨u0, hu0, hr0⟩, hu1⟩ := qX hs hg
  obtain ⟨a, cap, rfl, hc1, hc2, hr1⟩ := sX hr0 hes
  refine (wpIn_wide (n := 1)).1 (wpIn_rangeFunc ?_)
  intro fn _
  obtain ⟨rec, hrec⟩ : ∃ rec : LoopState → Option Code → Loop, rec = fun s pe => { state := s, pending := pe, fn, tmps := tmps, params := #[par], assign := .region id #[⟨some d, .assign (.tmp par), ty, pos, af, none⟩] false, body, defers := w.heap.size } := ⟨_, rfl⟩
  obtain ⟨W1, hW1⟩ : ∃ W1, (w.alloc (.deferred (some []))).alloc (.loop (rec .ready none)) = W1 := ⟨_, rfl⟩
  have hL1 : W1.heap[w.heap.size + 1]? = some (.loop (rec .ready none)) := by
    rw [← hW1]; have := World.alloc_heap_new (w.alloc (.deferred (some []))) (.loop (rec .ready none)); rwa [World.size_alloc] at this
  have hb1 : Below w.heap.size w W1 := by
    rw [← hW1]; exact ((Below.refl _ w).alloc (Nat.le_refl _) _).alloc (by simp) _
  have hK1 : W1.heap[w.heap.size]? = some (.deferred (some [])) := by
    rw [← hW1]; exact (Below.heap_alloc _ _ _ (by simp)).trans (World.alloc_heap_new w _)
  have hs1 : ar C n st G tmps W1 := (hs.fU hb1).2
  have hsz1 : w.heap.size ≤ W1.heap.size := hb1.size
  have hcw : ∀ {b o u}, cellAt w b o = some u → cellAt W1 b o = some u := fun {b o u} hu => by rw [bp (hb1.block b (cv hu))]; exact hu
  have hwz := hs.fr.size
  refine ⟨w.heap.size + 1, [{ target := .collected w.heap.size, args := #[] }], W1, { target := .fn (.func fid) #[.pointer (some ⟨p0, o0, none⟩), .pointer (some ⟨p1, o1, none⟩)], args := #[.func (.yield (w.heap.size + 1)) #[] #[]] }, W1, fid,
    #[.func (.yield (w.heap.size + 1)) #[] #[]] ++ #[.pointer (some ⟨p0, o0, none⟩), .pointer (some ⟨p1, o1, none⟩)], W1, ?_, ?_, ?_, ?_, fun _ => Nat.le_refl _, ?_⟩
  · rw [← hW1, hrec]; exact run_enterLoop_outer _ _ _ _ _
  · have hev' : Act.eval ⟨tmps, Ds.map uB⟩ g = .func (.func fid) #[] #[.pointer (some ⟨p0, o0, none⟩), .pointer (some ⟨p1, o1, none⟩)] := by rw [Act.nu tmps _ []]; exact hev
    simp only [resolve, hev']
    simp [go_sem]
  · intro f' _; trivial
  · obtain ⟨fn2, hfn2, hname2, hbody2⟩ := hok
    simp only [Sem.run_bind, Sem.run_pure, Result.andThen_ok, invoke, callFunc, run_program, hfn2, hname2, hbody2, Bool.false_eq_true, if_false]
  refine CallsIn.mono (callsIn_wide.2 (hit (w.heap.size + 1) W1 p0 o0 p1 o1 a es.length cap
    (fun W' => ∃ G', ar C n ⟨st.f, fk gs st.gen gs b1 ++ st.bx, (List.range k).map (b0.length + · + st.gen) ++ st.lv.filter (fun g => !os.any (Nat.beq g)), b0.length + k + st.gen⟩ G' tmps W' ∧
      W'.heap[w.heap.size + 1]? = some (.loop (rec .ready none)) ∧ ∀ D : Nat, D ≠ w.heap.size + 1 → W1.heap[D]? = some (Obj.deferred (some [])) → W'.heap[D]? = some (Obj.deferred (some [])))
    (hcw hu0) (hcw hu1) hes hes2 hc1 hc2 ?_)) ?_
  · -- the round
    have hsd : ar C n st G tmps W1.drew := hs1.drew
    have hLd : W1.drew.heap[w.heap.size + 1]? = some (.loop (rec .ready none)) := hL1
    have hy := run_yield (P := P) (args := #[.slice (some a) es.length es.length]) hLd (by rw [hrec]; rfl)
    rw [hrec] at hy
    refine ⟨fn, _, _, body, hy, roundIn_of_wpIn trivial ?_⟩
    generalize hW2 : W1.drew.putObj (w.heap.size + 1) (.loop { rec .ready none with state := .busy }) = W2
    have hbr := run_beginRound (P := P) hLd (by rw [hrec])
    rw [hW2] at hbr
    have hlt1 : w.heap.size + 1 < W1.heap.size := (Array.getElem?_eq_some_iff.1 hL1).1
    have hL2 : W2.heap[w.heap.size + 1]? = some (.loop { rec .ready none with state := .busy }) := by rw [← hW2]; exact World.putObj_heap_same hlt1
    have hoth2 : ∀ b, b ≠ w.heap.size + 1 → W2.heap[b]? = W1.heap[b]? := fun b hb => by rw [← hW2, World.putObj_heap_other hb]; rfl
    have hs2 : ar C n st G tmps W2 := by rw [← hW2]; exact hsd.mw hLd rfl (by omega) _
    have hc2' : ∀ {b o u}, cellAt w b o = some u → cellAt W2 b o = some u := fun {b o u} hu => by
      have := hcw hu
      rw [bp (hoth2 b (fun e => by have := cv hu; omega))]; exact this
    obtain ⟨hlen, hent⟩ := hs2.nG (gs := gs) (os := os) (ee hgs) (ee hos) (fun g hg => by
      obtain ⟨y, hy, he⟩ := List.any_eq_true.1 (List.all_eq_true.1 hov g hg)
      exact Nat.eq_of_beq_eq_true he ▸ hy) hb
    obtain ⟨hbl, hbg⟩ := fL hb
    have hsize : tmps.size = n := hs.size
    obtain ⟨tm, htm⟩ : ∃ tm, (tmps.setIfInBounds par (.slice (some a) es.length es.length)).setIfInBounds d (.slice (some a) es.length es.length) = tm := ⟨_, rfl⟩
    have hent2 : ar (cY C G W2 gs os) n ⟨(d, .d (.sl es)) :: V, dw 0 b0, (List.range os.length).map (b0.length + ·), b0.length + os.length⟩ (eg G gs os) tm W2 := by
      refine { hent with size := by rw [← htm]; simp [hsize], frame := fun t x hx => ?_ }
      rw [aR] at hx
      split at hx
      · rename_i e
        subst e
        cases hx
        refine ⟨.slice (some a) es.length es.length, by rw [← htm, Array.getElem?_setIfInBounds_self_of_lt (by simp [hsize]; omega)], .d (hr1.mono fun b o u hu hn => ⟨hc2' hu, fun hp => hn (rp hp)⟩)⟩
      · rename_i e
        obtain ⟨y, hy1, rfl⟩ := hV t x hx
        have hne : t ≠ par := fun e2 => by
          subst e2
          have := List.all_eq_true.1 hVp _ (oa hx)
          simp at this
        obtain ⟨v, hv, hvr⟩ := hs2.frame t y hy1
        exact ⟨v, by rw [← htm, Array.getElem?_setIfInBounds_ne e, Array.getElem?_setIfInBounds_ne (Ne.symm hne)]; exact hv, aA.nG hs2 gs os (by show _ ≤ b0.length + os.length; omega) 5 v y hvr⟩
    have hrun := hbody (cY C G W2 gs os) (eg G gs os) tm W2 (w.heap.size + 1) 0 (GC.tV hs2) rfl hlen rfl hent2
    have hw : ∀ (ops : Array Oper) (t : Array Value), Region.wanted ⟨some d, .assign (.tmp par), ty, pos, af, none⟩ (yielded ops t) = true := fun _ _ => rfl
    have htp : (tmps.setIfInBounds par (.slice (some a) es.length es.length))[par]? = some (.slice (some a) es.length es.length) := Array.getElem?_setIfInBounds_self_of_lt (by omega)
    have e0 : (Array.foldl (fun (t : Array Value) (x : Nat × Value) => t.setIfInBounds x.1 x.2) tmps ((#[par] : Array Nat).zip #[Value.slice (some a) es.length es.length])) = tmps.setIfInBounds par (.slice (some a) es.length es.length) := by simp
    show (Code.region _ _ _).wpIn _ _ P _ ⟨Array.foldl (fun (t : Array Value) (x : Nat × Value) => t.setIfInBounds x.1 x.2) tmps ((#[par] : Array Nat).zip #[Value.slice (some a) es.length es.length]), []⟩ _
    rw [e0]
    refine wpIn_region ?_
    show wpOpsIn _ _ P #[_] _ [0] _ _
    simp only [wpOpsIn, List.getElem?_toArray, List.getElem?_cons_zero, hw, if_true]
    refine ⟨fun _ _ => trivial, ?_⟩
    have hex : Sem.run P (Oper.semAt (Fence.wide.inRound (w.heap.size + 1)).round (Act.eval ⟨tmps.setIfInBounds par (.slice (some a) es.length es.length), []⟩) ⟨some d, .assign (.tmp par), ty, pos, af, none⟩) W1.drew = .ok (.value (.slice (some a) es.length es.length)) W1.drew := by
      rw [Oper.semAt_eq _ _ _ (fun c h => by cases h)]
      show Sem.run P (execOp _ _) _ = _
      simp only [execOp, Act.eval]
      have hgd : (tmps.setIfInBounds par (Value.slice (some a) es.length es.length)).getD par undef = .slice (some a) es.length es.length := by
        rw [Array.getD_eq_getD_getElem?, htp]; rfl
      rw [hgd]
      rfl
    rw [hex]
    show ∃ w₂, _
    refine ⟨W2, hbr, ?_⟩
    have etm : (Act.put ⟨tmps.setIfInBounds par (.slice (some a) es.length es.length), []⟩ (some d) (.slice (some a) es.length es.length)) = ⟨tm, []⟩ := by rw [← htm]; rfl
    show body.wpIn _ _ P _ (Act.put ⟨tmps.setIfInBounds par (.slice (some a) es.length es.length), []⟩ (some d) (.slice (some a) es.length es.length)) W2
    rw [etm]
    refine wpIn_mono hrun ?_
    rintro e a3 W3 ⟨rfl, G3, hs3⟩
    obtain ⟨G4, _, hs4⟩ := hs2.ug hb hl1 hs3
    have hkeep : ∀ {b : Nat} {o : Obj}, W2.heap[b]? = some o → oM o = false → W3.heap[b]? = some o := fun {b o} hbo ho => by
      refine (hs3.fr.block b (Array.getElem?_eq_some_iff.1 hbo).1 (fun hl => hs2.uJ hbo ho ?_)).trans hbo
      rcases hl with ⟨g', _, hg'⟩ | ⟨lim, g', _, r, hr', hra⟩
      · exact .inl ⟨g', hg'⟩
      · exact .inr ⟨g', r, lim, hr', hra⟩
    have hL3 := hkeep hL2 rfl
    have her := run_endRound (P := P) none hL3
    refine ⟨_, _, her, rfl, ?_⟩
    have hs5 := hs4.mw hL3 rfl (by omega) (.loop { { rec .ready none with state := LoopState.busy } with state := if (none : Option Code).isNone then .ready else .done, pending := none })
    obtain ⟨q0, r0, q1, r1, hev2, ⟨u2, hu2, hr2⟩, hu3⟩ := qX hs5 (g := g) (fid := fid) (es := es) (x := .int .i64 1000) hg
    rw [hev] at hev2
    simp only [Value.func.injEq, true_and] at hev2
    have hev3 := congrArg Array.toList hev2
    simp only [List.cons.injEq, Value.pointer.injEq, Option.some.injEq, Addr.mk.injEq, and_true] at hev3
    obtain ⟨⟨rfl, rfl⟩, rfl, rfl⟩ := hev3
    obtain ⟨a2, cap2, rfl⟩ := uK hr2
    refine ⟨⟨a2, cap2, hu2⟩, hu3, G4, hs5, ?_, fun D hne hD => ?_⟩
    · rw [hrec]
      exact World.putObj_heap_same (Array.getElem?_eq_some_iff.1 hL3).1
    · rw [World.putObj_heap_other hne]
      exact hkeep (by rw [hoth2 D hne]; exact hD) rfl
  · rintro e W3 ⟨⟨v, rfl⟩, G', hs3, hl3, hd3⟩
    have hel := run_endLoop (P := P) hl3 (by rw [hrec]; simp)
    rw [hrec] at hel
    refine ⟨none, _, hel, ?_⟩
    have hne : ∀ D, W1.heap[D]? = some (Obj.deferred (some [])) → D ≠ w.heap.size + 1 := fun D hD e => by rw [e, hL1] at hD; cases hD
    have hfin : ∀ D : Nat, W1.heap[D]? = some (Obj.deferred (some [])) → (W3.putObj (w.heap.size + 1) (.loop { rec .ready none with state := .exhausted })).heap[D]? = some (Obj.deferred (some [])) := fun D hD => by
      rw [World.putObj_heap_other (hne D hD)]; exact hd3 D (hne D hD) hD
    rw [hrec] at hfin
    refine ⟨⟨w.heap.size :: Ds, rfl, ?_, fun D hD => ?_⟩, _, ⟨G', hs3.mw hl3 rfl (by omega) _⟩, h⟩
    · rw [List.nodup_cons]
      refine ⟨fun hm => ?_, hDn⟩
      have := (Array.getElem?_eq_some_iff.1 (hDs _ hm).2).1
      omega
    · rcases List.mem_cons.1 hD with rfl | hD
      · exact ⟨hwz, hfin _ hK1⟩
      · obtain ⟨h1, h2⟩ := hDs D hD
        exact ⟨h1, hfin D (by rw [hb1.block D (Array.getElem?_eq_some_iff.1 h2).1]; exact h2)⟩
end
end Go.Ab
namespace Go.Tb
open Go.Ab
structure Good (e : Ev) : Prop where
  time : 0 ≤ e.time ∧ e.time ≤ 1000000000000
  kind : 1 ≤ e.kind ∧ e.kind < 13
  noName : (bQ e.kind).name = false → e.name = B #[]
  noN : (bQ e.kind).n = false → e.n = 0
  noM : (bQ e.kind).m = false → e.m = 0
  noStack : (bQ e.kind).stack = false → e.stack = []
  name : (bQ e.kind).name = true → be e.name = 0
  stack : (bQ e.kind).name = false → bY e.stack = 0
  n : (bQ e.kind).n = true → (bQ e.kind).least ≤ e.n ∧ e.n ≤ (bQ e.kind).most
  stop : e.kind = 9 → e.n ≠ 2 → e.m = 0
  m : (bQ e.kind).m = true → (e.kind ≠ 9 ∨ e.n = 2) → (bQ e.kind).mLeast ≤ e.m ∧ e.m ≤ (bQ e.kind).mMost
theorem Good.zA {e : Ev} (g : Good e) : bY e.stack = 0 := by
  cases h : (bQ e.kind).name with
  | false => exact g.stack h
  | true =>
    have : (bQ e.kind).stack = false := by
      rcases kinds g.kind.1 g.kind.2 with q | q | q | q | q | q | q | q | q | q | q | q <;> rw [q] at h ⊢ <;> revert h <;> decide
    rw [g.noStack this]
    rfl
end Go.Tb
namespace Go.Tb
open Go.Ab
def b8 : ByteArray := B #[115, 119, 105, 116, 99, 104]
def fA : ByteArray := B #[98, 108, 111, 99, 107]
def ey : ByteArray := B #[119, 97, 107, 101]
def aZ (s : ByteArray) (most : Int) : Int × Bool := ((du s).1, (du s).2 && decide (0 ≤ (du s).1) && decide ((du s).1 ≤ most))
def nD : List (ByteArray × Int) := [(b8, 3), (fA, 3), (ey, 2)]
def cntF (w : ByteArray) : Int := (cH nD w).getD 0
def eF : List ByteArray → Bool → Bool
  | [], b => b
  | w :: r, b => eF r (b && (aZ w 1000000000000000).2)
structure eW where
  at_ : Int
  cpu : Int
  word : ByteArray
  l : List Int
  e : Int
deriving DecidableEq
def cQ : eW := ⟨0, 0, B #[], [], 10⟩
def eh (w : List ByteArray) : eW :=
  match w with
  | a :: b :: k :: r =>
    if cntF k = 0 ∨ (r.length : Int) ≠ cntF k then cQ
    else if eF r (aZ a 1000000000000).2 = false ∨ (aZ b 63).2 = false ∨ (k = b8 ∧ ¬ ((r.map fun w => (aZ w 1000000000000000).1)[1]?.getD 0 ∈ [(0 : Int), 1, 3])) then cQ
    else ⟨(aZ a 1000000000000).1, (aZ b 63).1, k, r.map fun w => (aZ w 1000000000000000).1, 0⟩
  | _ => cQ
def bc (s : ByteArray) : eW := eh (aH s 32)
end Go.Tb
namespace Go.Tb
open Go.Ab
theorem mR : (nD.map (·.1)).Nodup := by decide
theorem ig (k : ByteArray) : (k = b8 ∧ cntF k = 3) ∨ (k = fA ∧ cntF k = 3) ∨ (k = ey ∧ cntF k = 2) ∨ (k ≠ b8 ∧ k ≠ fA ∧ k ≠ ey ∧ cntF k = 0) := by
  unfold cntF nD
  by_cases h1 : k = b8
  · exact .inl ⟨h1, by rw [cb, if_pos h1.symm]; rfl⟩
  · by_cases h2 : k = fA
    · exact .inr (.inl ⟨h2, by rw [cb, if_neg (Ne.symm h1), cb, if_pos h2.symm]; rfl⟩)
    · by_cases h3 : k = ey
      · exact .inr (.inr (.inl ⟨h3, by rw [cb, if_neg (Ne.symm h1), cb, if_neg (Ne.symm h2), cb, if_pos h3.symm]; rfl⟩))
      · exact .inr (.inr (.inr ⟨h1, h2, h3, by rw [cb, if_neg (Ne.symm h1), cb, if_neg (Ne.symm h2), cb, if_neg (Ne.symm h3)]; rfl⟩))
def eW.res (x : eW) : A := .tup [.d (ci x.at_), .d (ci x.cpu), .d (.v (.string x.word)), .d (.sl (x.l.map ic)), .d (ci x.e)]
theorem lP {s w : ByteArray} {c : UInt8} (h : w ∈ aH s c) : w.size ≤ s.size := by
  unfold aH at h
  obtain ⟨x, hx, rfl⟩ := List.mem_map.1 h
  have h1 := lL c _ x hx
  have h2 : s.data.toList.length = s.size := Array.length_toList
  have h3 : (gL x).size = x.length := (Array.length_toList (xs := (gL x).data)).symm
  omega
theorem ly {l : List ByteArray} (h : l.length < 3) : eh l = cQ := by
  match l, h with
  | [], _ => rfl
  | [_], _ => rfl
  | [_, _], _ => rfl
theorem nZ {a b k : ByteArray} {r : List ByteArray} (h : cntF k = 0 ∨ (r.length : Int) ≠ cntF k) : eh (a :: b :: k :: r) = cQ := by
  simp only [eh]
  rw [if_pos h]
abbrev nv (w : ByteArray) : Int := (aZ w 1000000000000000).1
theorem pk {a b k : ByteArray} {r : List ByteArray} (h1 : cntF k ≠ 0) (h2 : (r.length : Int) = cntF k) (y : Int) (hy : k = b8 → (r.map nv)[1]? = some y) :
    eh (a :: b :: k :: r) = if (bif !(eF r (aZ a 1000000000000).2) then true else bif !(aZ b 63).2 then true else bif decide (k = b8) then !([0, 1, 3].any fun x => decide (y = x)) else false) = true then cQ
      else ⟨(aZ a 1000000000000).1, (aZ b 63).1, k, r.map nv, 0⟩ := by
  simp only [eh]
  rw [if_neg (by simp [h1, h2])]
  cases hA : eF r (aZ a 1000000000000).2 with
  | false => simp
  | true =>
    cases hB : (aZ b 63).2 with
    | false => simp
    | true =>
      by_cases hk : k = b8
      · have := hy hk
        unfold nv at this ⊢
        rw [this]
        by_cases q0 : y = 0 <;> by_cases q1 : y = 1 <;> by_cases q3 : y = 3 <;> simp [hk, q0, q1, q3]
      · simp [hk]
abbrev e8 := List Int × List (Int × List Ev)
def dv (x : e8) (th : Int) (e : Ev) : e8 :=
  if th = 0 then x else (if ((cH x.2 th).getD []) = [] then x.1 ++ [th] else x.1, bT x.2 th ((cH x.2 th).getD [] ++ [e]))
def sZ (at_ w m : Int) : Ev := ⟨at_, 10, B #[], w, m, []⟩
def iY (at_ n m : Int) : Ev := ⟨at_, 9, B #[], n, m, []⟩
def gK (at_ cpu : Int) : Ev := ⟨at_, 8, B #[], cpu, 0, []⟩
def ca (x : eW) : List (Int × Ev) :=
  if x.word = ey then [(x.l[0]?.getD 0, sZ x.at_ (x.l[1]?.getD 0) 0)]
  else [(x.l[0]?.getD 0, if x.word = b8 then iY x.at_ (x.l[1]?.getD 0) 0 else iY x.at_ 2 (x.l[1]?.getD 0)), (x.l[2]?.getD 0, gK x.at_ x.cpu)]
def cn (x : e8) (l : List (Int × Ev)) : e8 := l.foldl (fun x p => dv x p.1 p.2) x
def fv (n : Nat) (x : e8) : Prop := (x.2.map (·.1)).Nodup ∧ x.1.length ≤ n ∧ ∀ p ∈ x.2, p.2.length ≤ n
theorem fv.get {n : Nat} {x : e8} (h : fv n x) (th : Int) : ((cH x.2 th).getD []).length ≤ n := by
  unfold cH
  cases q : x.2.find? fun p => decide (p.1 = th) with
  | none => simp
  | some p => simpa [q] using h.2.2 p (List.mem_of_find?_eq_some q)
theorem fv.add {n : Nat} {x : e8} (h : fv n x) (th : Int) (e : Ev) : fv (n + 1) (dv x th e) := by
  unfold dv
  split
  · exact ⟨h.1, Nat.le_succ_of_le h.2.1, fun p hp => Nat.le_succ_of_le (h.2.2 p hp)⟩
  · refine ⟨sA h.1 _ _, ?_, fun p hp => ?_⟩
    · have := h.2.1
      simp only
      split <;> simp <;> omega
    · have key : ∀ {l : List (Int × List Ev)} {y : List Ev}, p ∈ bT l th y → p = (th, y) ∨ p ∈ l := by
        intro l
        induction l with
        | nil => intro y hp; simp [bT] at hp; exact .inl hp
        | cons q r ih =>
          intro y hp
          simp only [bT] at hp
          split at hp
          · rcases List.mem_cons.1 hp with h | h
            · exact .inl h
            · exact .inr (List.mem_cons_of_mem _ h)
          · rcases List.mem_cons.1 hp with h | h
            · exact .inr (h ▸ List.mem_cons_self)
            · exact (ih h).imp id (List.mem_cons_of_mem _)
      rcases key hp with rfl | hp
      · have := h.get th
        simp only [List.length_append, List.length_singleton]
        omega
      · exact Nat.le_succ_of_le (h.2.2 p hp)
theorem fv.mono {n m : Nat} {x : e8} (h : fv n x) (hn : n ≤ m) : fv m x := ⟨h.1, Nat.le_trans h.2.1 hn, fun p hp => Nat.le_trans (h.2.2 p hp) hn⟩
end Go.Tb
namespace Go.Ab
open Go.RowKit Go.MapKept
section
variable {C : Ctx} {n : Nat} {st : St} {G : Gh} {tmps : Array Value} {w : World}
theorem ar.split (h : ar C n st G tmps w) {g b : Nat} {bs bs' : List (Nat × Nat)} (hg : G.own g = some (.mp b bs)) (hsub : ∀ p ∈ bs', p ∈ bs) (r2 : Row) (hr2 : ∀ b' bs', r2 ≠ .mp b' bs')
    (hr3 : ∀ c len cap sz pub, r2 = .blk c len cap sz pub → (c, pub) ∈ bs ∧ (∀ p ∈ bs', p.1 ≠ c) ∧ ∃ cur T, w.heap[c]? = some (.cells cur T (0, 0)) ∧ cur.size = cap * sz ∧ len ≤ cap ∧ cap ≤ maxLen ∧ 0 < sz ∧ 0 < len ∧ pub ≤ len * sz ∧ dB cur)
    (lv : List Nat) (hlv : ∀ g' ∈ lv, g' ∈ st.lv ∧ g' ≠ g) :
    ∃ G' : Gh, G'.box = G.box ∧ G'.own st.gen = some (.mp b bs') ∧ G'.own (st.gen + 1) = some r2 ∧ (ao C G st.gen w).le (ao C G' (st.gen + 2) w) ∧ ar C n { st with lv := st.gen :: (st.gen + 1) :: lv, gen := st.gen + 2 } G' tmps w := by
  let own' : Nat → Option Row := fun g' => if g' = st.gen then some (.mp b bs') else if g' = st.gen + 1 then some r2 else if g' = g then none else G.own g'
  have hgl := h.gown g _ hg
  have ublk : ∀ {g' c len cap sz pub}, own' g' = some (.blk c len cap sz pub) → (g' = st.gen + 1 ∧ r2 = .blk c len cap sz pub) ∨ (g' ≠ st.gen ∧ g' ≠ st.gen + 1 ∧ g' ≠ g ∧ G.own g' = some (.blk c len cap sz pub)) := by
    intro g' c len cap sz pub hr
    simp only [own'] at hr
    split at hr
    · cases hr
    · split at hr
      · rename_i e; exact .inl ⟨e, Option.some.inj hr⟩
      · split at hr
        · cases hr
        · rename_i e1 e2 e3; exact .inr ⟨e1, e2, e3, hr⟩
  have ump : ∀ {g' b2 bs2}, own' g' = some (.mp b2 bs2) → (g' = st.gen ∧ b2 = b ∧ bs2 = bs') ∨ (g' ≠ st.gen ∧ g' ≠ st.gen + 1 ∧ g' ≠ g ∧ G.own g' = some (.mp b2 bs2)) := by
    intro g' b2 bs2 hr
    simp only [own'] at hr
    split at hr
    · rename_i e; simp only [Option.some.injEq, Row.mp.injEq] at hr; exact .inl ⟨e, hr.1.symm, hr.2.symm⟩
    · split at hr
      · exact absurd (Option.some.inj hr) (hr2 _ _)
      · split at hr
        · cases hr
        · rename_i e1 e2 e3; exact .inr ⟨e1, e2, e3, hr⟩
  have hpv : ∀ b' o, aN C ⟨G.box, own'⟩ b' o → aN C G b' o := by
    rintro b' o (hp | hp | ⟨g', len', cap', sz', pub', hp, hl'⟩ | ⟨g', b2, bs2, lim, hp, hm, hl'⟩)
    · exact .inl hp
    · exact .inr (.inl hp)
    · rcases ublk hp with ⟨_, e⟩ | ⟨_, _, _, e⟩
      · exact .inr (.inr (.inr ⟨g, b, bs, pub', hg, (hr3 _ _ _ _ _ e).1, hl'⟩))
      · exact .inr (.inr (.inl ⟨g', len', cap', sz', pub', e, hl'⟩))
    · rcases ump hp with ⟨_, rfl, rfl⟩ | ⟨_, _, _, e⟩
      · exact .inr (.inr (.inr ⟨g, _, bs, lim, hg, hsub _ hm, hl'⟩))
      · exact .inr (.inr (.inr ⟨g', b2, bs2, lim, e, hm, hl'⟩))
  have hle : (ao C G st.gen w).le (ao C ⟨G.box, own'⟩ (st.gen + 2) w) := gf h.fr h.fr (fun b' o u hu hn => ⟨hu, fun hp => hn (hpv b' o hp)⟩) (fun _ _ h => h)
    (fun g' r' hg' hr' => by
      simp only [own', if_neg (Nat.ne_of_lt hg'), if_neg (Nat.ne_of_lt (Nat.lt_succ_of_lt hg'))] at hr'
      split at hr'
      · cases hr'
      · exact hr') (by omega) (fun _ _ _ _ _ _ _ _ => rfl) (fun _ _ _ _ _ => ⟨rfl, fun _ _ => rfl⟩) (.refl w)
  refine ⟨⟨G.box, own'⟩, rfl, by simp [own'], by simp [own'], hle, { size := h.size, frame := h.ck hle, inj := h.inj, xold := h.xold, kold := h.kold, lent := h.lent, fr := h.fr, gcell := h.gcell, box := ?_, gbox := ?_, live := ?_, gown := ?_, row := ?_, mrow := ?_, sub := ?_ }⟩
  · intro g' cells hc
    obtain ⟨b', cs, T', h1, h2, h3, h4, h5⟩ := h.box g' cells hc
    exact ⟨b', cs, T', h1, h2, h3, h4, fun i u a hu ha => (h5 i u a hu ha).mono hle⟩
  · intro g' b' hb
    obtain ⟨h1, h2, h3⟩ := h.gbox g' b' hb
    exact ⟨by simp only; omega, h2, h3⟩
  · intro g' hg'
    rcases List.mem_cons.1 hg' with rfl | hg'
    · exact ⟨_, by simp [own']; rfl⟩
    · rcases List.mem_cons.1 hg' with rfl | hg'
      · exact ⟨_, by simp [own']; rfl⟩
      · obtain ⟨h1, h2⟩ := hlv g' hg'
        obtain ⟨r', hr'⟩ := h.live g' h1
        have := h.gown g' r' hr'
        exact ⟨r', by simp only [own']; rw [if_neg (by omega), if_neg (by omega), if_neg h2]; exact hr'⟩
  · intro g' r' hr'
    simp only [own'] at hr'
    split at hr'
    · simp only; omega
    · split at hr'
      · simp only; omega
      · split at hr'
        · cases hr'
        · have := h.gown g' r' hr'; simp only; omega
  · intro g' b' len cap sz pub hr'
    rcases ublk hr' with ⟨e0, e⟩ | ⟨_, e1, e2, e⟩
    · obtain ⟨q1, q2, q3⟩ := hr3 _ _ _ _ _ e
      obtain ⟨s1, s2, s3, _⟩ := h.sub g b bs b' pub hg q1
      refine ⟨s1, s2, fun g2 len2 cap2 sz2 pub2 h2 => ?_, q3⟩
      rcases ublk h2 with ⟨e3, _⟩ | ⟨_, _, _, e3⟩
      · omega
      · exact absurd e3 (s3 _ _ _ _ _)
    · obtain ⟨s1, s2, s3, s4⟩ := h.row g' b' len cap sz pub e
      refine ⟨s1, s2, fun g2 len2 cap2 sz2 pub2 h2 => ?_, s4⟩
      rcases ublk h2 with ⟨_, e3⟩ | ⟨_, _, _, e3⟩
      · exact absurd e ((h.sub g b bs b' pub2 hg (hr3 _ _ _ _ _ e3).1).2.2.1 _ _ _ _ _)
      · exact s3 _ _ _ _ _ e3
  · intro g' b' bs2 hr'
    rcases ump hr' with ⟨e0, rfl, rfl⟩ | ⟨e0, e1, e2, e⟩
    · obtain ⟨s1, s2, s3, s4⟩ := h.mrow g _ bs hg
      refine ⟨s1, s2, fun g2 bs3 h2 => ?_, s4⟩
      rcases ump h2 with ⟨e3, _⟩ | ⟨_, _, e4, e3⟩
      · omega
      · exact absurd (s3 g2 bs3 e3) e4
    · obtain ⟨s1, s2, s3, s4⟩ := h.mrow g' b' bs2 e
      refine ⟨s1, s2, fun g2 bs3 h2 => ?_, s4⟩
      rcases ump h2 with ⟨_, rfl, _⟩ | ⟨_, _, _, e3⟩
      · exact absurd (s3 g bs hg).symm e2
      · exact s3 g2 bs3 e3
  · intro g' b' bs2 c lim hr' hm
    rcases ump hr' with ⟨e0, rfl, rfl⟩ | ⟨e0, e1, e2, e⟩
    · obtain ⟨s1, s2, s3, s4, s5⟩ := h.sub g _ bs c lim hg (hsub _ hm)
      refine ⟨s1, s2, fun g2 len cap sz pub h2 => ?_, fun g2 b3 bs3 lim2 h2 hm2 => ?_, s5⟩
      · rcases ublk h2 with ⟨_, e3⟩ | ⟨_, _, _, e3⟩
        · exact (hr3 _ _ _ _ _ e3).2.1 _ hm rfl
        · exact s3 _ _ _ _ _ e3
      · rcases ump h2 with ⟨e3, rfl, rfl⟩ | ⟨_, _, e4, e3⟩
        · exact ⟨by omega, (s4 g _ bs lim2 hg (hsub _ hm2)).2⟩
        · exact absurd (s4 g2 b3 bs3 lim2 e3 hm2).1 e4
    · obtain ⟨s1, s2, s3, s4, s5⟩ := h.sub g' b' bs2 c lim e hm
      refine ⟨s1, s2, fun g2 len cap sz pub h2 => ?_, fun g2 b3 bs3 lim2 h2 hm2 => ?_, s5⟩
      · rcases ublk h2 with ⟨_, e3⟩ | ⟨_, _, _, e3⟩
        · exact e2 ((s4 g b bs pub hg (hr3 _ _ _ _ _ e3).1).1).symm
        · exact s3 _ _ _ _ _ e3
      · rcases ump h2 with ⟨_, rfl, rfl⟩ | ⟨_, _, _, e3⟩
        · exact absurd ((s4 g _ bs lim2 hg (hsub _ hm2)).1).symm e2
        · exact s4 g2 b3 bs3 lim2 e3 hm2
theorem ar.join (h : ar C n st G tmps w) {g g2 b : Nat} {bs bs' : List (Nat × Nat)} (hg : G.own g = some (.mp b bs)) {r2 : Row} (hg2 : G.own g2 = some r2) (hgg : g2 ≠ g) (hsub : ∀ p ∈ bs', p ∈ bs ∨ ∃ len cap sz, r2 = .blk p.1 len cap sz p.2) (me : Array MapEntry) (clock : Nat)
    (lv : List Nat) (hlv : ∀ g' ∈ lv, g' ∈ st.lv ∧ g' ≠ g ∧ g' ≠ g2) :
    ∃ G' : Gh, G'.box = G.box ∧ G'.own st.gen = some (.mp b bs') ∧ (ao C G st.gen w).le (ao C G' (st.gen + 1) { w with heap := w.heap.setIfInBounds b (.map me clock) }) ∧ ar C n { st with lv := st.gen :: lv, gen := st.gen + 1 } G' tmps { w with heap := w.heap.setIfInBounds b (.map me clock) } := by
  obtain ⟨hmine, hnb, huniq, me0, clock0, hcur⟩ := h.mrow g b bs hg
  obtain ⟨hnew, hoth⟩ := heap_set (o' := Obj.map me clock) hcur
  let own' : Nat → Option Row := fun g' => if g' = st.gen then some (.mp b bs') else if g' = g then none else if g' = g2 then none else G.own g'
  generalize hw' : ({ w with heap := w.heap.setIfInBounds b (.map me clock) } : World) = w'
  have e1 : w'.heap = w.heap.setIfInBounds b (.map me clock) := by rw [← hw']
  have e2 : w'.os = w.os := by rw [← hw']
  have e3 : w'.tape = w.tape := by rw [← hw']
  have e4 : w'.output = w.output := by rw [← hw']
  rw [← e1] at hnew hoth
  have hsz : w'.heap.size = w.heap.size := by rw [e1]; simp
  have hnocell : ∀ o, Ab.cellAt w b o = none := fun o => by simp [Ab.cellAt, World.cell?, hcur]
  have hcell : ∀ b' o u, Ab.cellAt w b' o = some u → Ab.cellAt w' b' o = some u := fun b' o u hu => by
    have hne : b' ≠ b := fun e => by subst e; rw [hnocell] at hu; cases hu
    rw [bp (hoth b' hne)]; exact hu
  have hcb : ∀ {c : Nat} {cs : Array Value} {T : TypeId} {f : Nat × Nat}, w.heap[c]? = some (.cells cs T f) → w'.heap[c]? = some (.cells cs T f) := fun {c cs T f} hc => by
    rw [hoth c (fun e => by rw [e, hcur] at hc; cases hc)]; exact hc
  have htk : cu w w' := fun b' cs T f h => ⟨cs, f, hcb h⟩
  have hgl := h.gown g _ hg
  have hgl2 := h.gown g2 _ hg2
  have uold : ∀ {g' r'}, own' g' = some r' → g' ≠ st.gen → G.own g' = some r' ∧ g' ≠ g ∧ g' ≠ g2 := by
    intro g' r' hr hne
    simp only [own', if_neg hne] at hr
    split at hr
    · cases hr
    · split at hr
      · cases hr
      · rename_i e1 e2; exact ⟨hr, e1, e2⟩
  have unew : ∀ {r'}, own' st.gen = some r' → r' = .mp b bs' := fun {r'} hr => by simpa [own'] using hr.symm
  have ublk : ∀ {g' c len cap sz pub}, own' g' = some (.blk c len cap sz pub) → g' ≠ st.gen ∧ g' ≠ g ∧ g' ≠ g2 ∧ G.own g' = some (.blk c len cap sz pub) := fun {g' c len cap sz pub} hr => by
    have hne : g' ≠ st.gen := fun e => by subst e; cases unew hr
    obtain ⟨q1, q2, q3⟩ := uold hr hne
    exact ⟨hne, q2, q3, q1⟩
  have ump : ∀ {g' b2 bs2}, own' g' = some (.mp b2 bs2) → (g' = st.gen ∧ b2 = b ∧ bs2 = bs') ∨ (g' ≠ st.gen ∧ g' ≠ g ∧ g' ≠ g2 ∧ G.own g' = some (.mp b2 bs2)) := fun {g' b2 bs2} hr => by
    by_cases e : g' = st.gen
    · subst e
      have := unew hr
      simp only [Row.mp.injEq] at this
      exact .inl ⟨rfl, this.1, this.2⟩
    · obtain ⟨q1, q2, q3⟩ := uold hr e
      exact .inr ⟨e, q2, q3, q1⟩
  have hclm : ∀ {c lim}, (c, lim) ∈ bs' → C.iD c lim ∧ (∀ g', G.box g' ≠ some c) ∧ (∀ g' len cap sz pub, G.own g' = some (.blk c len cap sz pub) → g' = g2 ∧ pub = lim) ∧ (∀ g' b3 bs3 lim', G.own g' = some (.mp b3 bs3) → (c, lim') ∈ bs3 → g' = g ∧ lim' = lim ∧ (c, lim) ∈ bs) ∧ ∃ cur T, w.heap[c]? = some (.cells cur T (0, 0)) ∧ lim ≤ cur.size ∧ dB cur := by
    intro c lim hm
    rcases hsub _ hm with hm | ⟨len, cap, sz, hr⟩
    · obtain ⟨s1, s2, s3, s4, s5⟩ := h.sub g b bs c lim hg hm
      exact ⟨s1, s2, fun g' len cap sz pub hr => absurd hr (s3 _ _ _ _ _), fun g' b3 bs3 lim' hr hm' => ⟨(s4 g' b3 bs3 lim' hr hm').1, (s4 g' b3 bs3 lim' hr hm').2, hm⟩, s5⟩
    · rw [hr] at hg2
      obtain ⟨s1, s2, s3, cur, T, s4, s5, s6, s7, s8, s9, s10, s11⟩ := h.row g2 c len cap sz lim hg2
      refine ⟨s1, s2, fun g' len' cap' sz' pub' hr' => ?_, fun g' b3 bs3 lim' hr' hm' => absurd hg2 ((h.sub g' b3 bs3 c lim' hr' hm').2.2.1 _ _ _ _ _), cur, T, s4, ?_, s11⟩
      · have := s3 g' len' cap' sz' pub' hr'
        subst this
        rw [hg2] at hr'
        simp only [Option.some.injEq, Row.blk.injEq] at hr'
        exact ⟨rfl, hr'.2.2.2.2.symm⟩
      · have : len * sz ≤ cap * sz := Nat.mul_le_mul_right _ s6
        omega
  have hpv : ∀ b' o, aN C ⟨G.box, own'⟩ b' o → aN C G b' o := by
    rintro b' o (hp | hp | ⟨g', len', cap', sz', pub', hp, hl'⟩ | ⟨g', b2, bs2, lim, hp, hm, hl'⟩)
    · exact .inl hp
    · exact .inr (.inl hp)
    · exact .inr (.inr (.inl ⟨g', len', cap', sz', pub', (ublk hp).2.2.2, hl'⟩))
    · rcases ump hp with ⟨_, rfl, rfl⟩ | ⟨_, _, _, e⟩
      · rcases hsub _ hm with hm | ⟨len, cap, sz, hr⟩
        · exact .inr (.inr (.inr ⟨g, _, bs, lim, hg, hm, hl'⟩))
        · rw [hr] at hg2; exact .inr (.inr (.inl ⟨g2, len, cap, sz, lim, hg2, hl'⟩))
      · exact .inr (.inr (.inr ⟨g', b2, bs2, lim, e, hm, hl'⟩))
  have hfr : Fr C w' := ⟨e2.trans h.fr.os, e3.trans h.fr.tape, e4.trans h.fr.output, by rw [hsz]; exact h.fr.size, fun b' h1 h2 => by
    rw [hoth b' (fun e => by subst e; exact hmine.1.elim (fun hm => by omega) h2)]; exact h.fr.block b' h1 h2, fun b' o u hk hu => hcell b' o u (h.fr.cells b' o u hk hu), h.fr.ty.trans htk⟩
  have hle : (ao C G st.gen w).le (ao C ⟨G.box, own'⟩ (st.gen + 1) w') := gf h.fr hfr (fun b' o u hu hn => ⟨hcell b' o u hu, fun hp => hn (hpv b' o hp)⟩) (fun _ _ h => h)
    (fun g' r' hg' hr' => (uold hr' (Nat.ne_of_lt hg')).1) (Nat.le_succ _) (fun g' b' len' cap' sz' pub' hg' hr' => by
      obtain ⟨_, _, _, cur, T, q1, _⟩ := h.row g' b' len' cap' sz' pub' (uold hr' (Nat.ne_of_lt hg')).1
      rw [q1]; exact hcb q1) (fun g' b' bs2 hg' hr' => by
      obtain ⟨q1, q2, q3⟩ := uold hr' (Nat.ne_of_lt hg')
      refine ⟨hoth b' (fun e => by subst e; exact q2 (huniq g' bs2 q1)), fun p hp => ?_⟩
      obtain ⟨_, _, _, _, cur, T, q4, _⟩ := h.sub g' b' bs2 p.1 p.2 q1 hp
      rw [q4]; exact hcb q4) htk
  refine ⟨⟨G.box, own'⟩, rfl, by simp [own'], hle, { size := h.size, frame := h.ck hle, inj := h.inj, xold := h.xold, kold := h.kold, lent := h.lent, fr := hfr, gcell := fun g' b' hb' => jn htk (h.gcell g' b' hb'), box := ?_, gbox := ?_, live := ?_, gown := ?_, row := ?_, mrow := ?_, sub := ?_ }⟩
  · intro g' cells hc
    obtain ⟨b', cs, T', h1, h2, h3, h4, h5⟩ := h.box g' cells hc
    exact ⟨b', cs, T', h1, hcb h2, h3, h4, fun i u a hu ha => (h5 i u a hu ha).mono hle⟩
  · intro g' b' hb
    obtain ⟨h1, h2, h3⟩ := h.gbox g' b' hb
    exact ⟨Nat.lt_succ_of_lt h1, by rw [hsz]; exact h2, h3⟩
  · intro g' hg'
    rcases List.mem_cons.1 hg' with rfl | hg'
    · exact ⟨_, by simp [own']; rfl⟩
    · obtain ⟨h1, h2, h3⟩ := hlv g' hg'
      obtain ⟨r', hr'⟩ := h.live g' h1
      exact ⟨r', by simp only [own', if_neg (Nat.ne_of_lt (h.gown g' r' hr')), if_neg h2, if_neg h3]; exact hr'⟩
  · intro g' r' hr'
    by_cases e : g' = st.gen
    · simp only; omega
    · exact Nat.lt_succ_of_lt (h.gown g' r' (uold hr' e).1)
  · intro g' b' len cap sz pub hr'
    obtain ⟨_, _, _, e⟩ := ublk hr'
    obtain ⟨s1, s2, s3, cur, T, s4, s5⟩ := h.row g' b' len cap sz pub e
    exact ⟨s1, s2, fun g3 len2 cap2 sz2 pub2 h2 => s3 _ _ _ _ _ (ublk h2).2.2.2, cur, T, hcb s4, s5⟩
  · intro g' b' bs2 hr'
    rcases ump hr' with ⟨n0, rfl, rfl⟩ | ⟨n0, n1, n2, e⟩
    · refine ⟨hmine, hnb, fun g3 bs3 h2 => ?_, me, clock, hnew⟩
      rcases ump h2 with ⟨q, _⟩ | ⟨_, q2, _, q3⟩
      · omega
      · exact absurd (huniq g3 bs3 q3) q2
    · obtain ⟨s1, s2, s3, me2, cl2, s4⟩ := h.mrow g' b' bs2 e
      have hne : b' ≠ b := fun e => by subst e; exact n1 (huniq g' bs2 (by assumption))
      refine ⟨s1, s2, fun g3 bs3 h2 => ?_, me2, cl2, by rw [hoth b' hne]; exact s4⟩
      rcases ump h2 with ⟨_, q, _⟩ | ⟨_, _, _, q3⟩
      · exact absurd q hne
      · exact s3 g3 bs3 q3
  · intro g' b' bs2 c lim hr' hm
    rcases ump hr' with ⟨n0, rfl, rfl⟩ | ⟨n0, n1, n2, e⟩
    · obtain ⟨s1, s2, s3, s4, cur, T, s5, s6⟩ := hclm hm
      refine ⟨s1, s2, fun g3 len cap sz pub h2 => ?_, fun g3 b3 bs3 lim2 h2 hm2 => ?_, cur, T, hcb s5, s6⟩
      · obtain ⟨_, _, q3, q4⟩ := ublk h2
        exact q3 (s3 _ _ _ _ _ q4).1
      · rcases ump h2 with ⟨q, rfl, rfl⟩ | ⟨_, q2, _, q3⟩
        · refine ⟨by omega, ?_⟩
          obtain ⟨_, _, t3, t4, _⟩ := hclm hm2
          rcases hsub _ hm with q4 | ⟨len, cap, sz, q4⟩
          · exact ((t4 g _ bs lim hg q4).2.1).symm
          · rw [q4] at hg2
            exact ((t3 g2 len cap sz lim hg2).2).symm
        · exact absurd (s4 g3 b3 bs3 lim2 q3 hm2).1 q2
    · obtain ⟨s1, s2, s3, s4, cur, T, s5, s6⟩ := h.sub g' b' bs2 c lim e hm
      refine ⟨s1, s2, fun g3 len cap sz pub h2 => s3 _ _ _ _ _ (ublk h2).2.2.2, fun g3 b3 bs3 lim2 h2 hm2 => ?_, cur, T, hcb s5, s6⟩
      rcases ump h2 with ⟨_, rfl, rfl⟩ | ⟨_, _, _, q3⟩
      · exact absurd ((hclm hm2).2.2.2.1 g' b' bs2 lim e hm).1 n1
      · exact s4 g3 b3 bs3 lim2 q3 hm2
end
end Go.Ab
namespace Go.Ab
open Go.RowKit Go.MapKept
def dN {α γ : Type} (kf : α → Value) (fn : γ → List D) (l : List (α × List γ)) : List (Value × List (List D)) := l.map fun p => (kf p.1, p.2.map fn)
section
variable {α γ : Type} {kf : α → Value} {fn : γ → List D}
theorem qN {l : List (α × List γ)} {i : Nat} {k : Value} {x : List (List D)} (h : (dN kf fn l)[i]? = some (k, x)) : ∃ p, l[i]? = some p ∧ k = kf p.1 ∧ x = p.2.map fn := by
  simp only [dN, List.getElem?_map, Option.map_eq_some_iff] at h
  obtain ⟨p, hp, e⟩ := h
  simp only [Prod.mk.injEq] at e
  exact ⟨p, hp, e.1.symm, e.2.symm⟩
theorem pZ {l : List (α × List γ)} {k : Value} {x : List (List D)} (h : (k, x) ∈ dN kf fn l) : ∃ p ∈ l, k = kf p.1 ∧ x = p.2.map fn := by
  obtain ⟨i, hi⟩ := List.mem_iff_getElem?.1 h
  obtain ⟨p, hp, e⟩ := qN hi
  exact ⟨p, List.mem_of_getElem? hp, e⟩
structure kZ (w : World) (pv : Nat → Nat → Prop) (b : Nat) (bs : List (Nat × Nat)) (kf : α → Value) (fn : γ → List D) (l : List (α × List γ)) (hole : Option Value) (me : Array MapEntry) (clock : Nat) (ps : Value → Option Nat) : Prop where
  hb : w.heap[b]? = some (.map me clock)
  st : Stamped me clock
  mi : et w pv kf (fun x : List γ => D.sl (x.map fn)) me l
  inj : ∀ p p' : α × List γ, ∀ c, p ∈ l → p' ∈ l → hole ≠ some (kf p.1) → hole ≠ some (kf p'.1) → ps (kf p.1) = some c → ps (kf p'.1) = some c → kf p.1 = kf p'.1
  at_ : ∀ (i : Nat) (m : MapEntry) (p : α × List γ), me[i]? = some m → l[i]? = some p → hole ≠ some (kf p.1) → kb w (ps (kf p.1)) bs m.val (p.2.map fn)
theorem kZ.of {w : World} {pv : Nat → Nat → Prop} {b : Nat} {bs : List (Nat × Nat)} {v : Value} {l : List (α × List γ)} {hole : Option Value} (h : gZ w pv (.mp b bs) v (dN kf fn l) hole) : v = .map (some b) ∧ ∃ me clock ps, kZ w pv b bs kf fn l hole me clock ps := by
  obtain ⟨h1, me, clock, h2, h3, h4, ps, h5, h6⟩ := h
  refine ⟨h1, me, clock, ps, h2, h3, ⟨by rw [h4]; simp [dN], fun i m p hm hp => ?_⟩, fun p p' c hp hp' q1 q2 q3 q4 => ?_, fun i m p hm hp hh => ?_⟩
  · obtain ⟨q1, q2, q3, _⟩ := h6 i m (kf p.1) (p.2.map fn) hm (by simp [dN, hp])
    exact ⟨q1, q2, q3⟩
  · exact h5 _ _ (p.2.map fn) (p'.2.map fn) c (List.mem_map.2 ⟨p, hp, rfl⟩) (List.mem_map.2 ⟨p', hp', rfl⟩) q1 q2 q3 q4
  · exact (h6 i m (kf p.1) (p.2.map fn) hm (by simp [dN, hp])).2.2.2 hh
theorem kZ.to {w : World} {pv : Nat → Nat → Prop} {b : Nat} {bs : List (Nat × Nat)} {l : List (α × List γ)} {hole : Option Value} {me : Array MapEntry} {clock : Nat} {ps : Value → Option Nat} (h : kZ w pv b bs kf fn l hole me clock ps) : gZ w pv (.mp b bs) (.map (some b)) (dN kf fn l) hole := by
  refine ⟨rfl, me, clock, h.hb, h.st, by rw [h.mi.1]; simp [dN], ps, fun k k' x x' c hk hk' q1 q2 q3 q4 => ?_, fun i m k x hm hk => ?_⟩
  · obtain ⟨p, hp, rfl, rfl⟩ := pZ hk
    obtain ⟨p', hp', rfl, rfl⟩ := pZ hk'
    exact h.inj p p' c hp hp' q1 q2 q3 q4
  · obtain ⟨p, hp, rfl, rfl⟩ := qN hk
    obtain ⟨q1, q2, q3⟩ := h.mi.2 i m p hm hp
    exact ⟨q1, q2, q3, h.at_ i m p hm hp⟩
theorem kb.mono {w w' : World} {bs bs' : List (Nat × Nat)} {o : Option Nat} {v : Value} {l : List (List D)} (h : kb w o bs v l) (hc : ∀ c lim, o = some c → (c, lim) ∈ bs → (c, lim) ∈ bs' ∧ w'.heap[c]? = w.heap[c]?) : kb w' o bs' v l := by
  cases o with
  | none => exact h
  | some c =>
    obtain ⟨cap, sz, cur, T, a1, a2, a3, a4, a5, a6, a7, a8, a9⟩ := h
    obtain ⟨q1, q2⟩ := hc c _ rfl a2
    exact ⟨cap, sz, cur, T, a1, q1, a3, a4, a5, a6, a7, by rw [q2]; exact a8, a9⟩
end
section
variable {P : Program} (T : bm P) {C : Ctx} {n : Nat} {ops : Array Oper} {Q : Exit → St → Prop} {rest : List Oper}
variable {f : List (Nat × A)} {bx : List (Nat × List A)} {lv : List Nat} {gen : Nat} {d : Nat} {ty : TypeId} {pos : String} {af : Array Edge} {dst : Option Nat} {c : Code}
variable {α γ : Type} [DecidableEq α] {kf : α → Value} {fn : γ → List D}
omit [DecidableEq α] in
theorem ar.wi {st : St} {G : Gh} {tmps : Array Value} {w : World} (hs : ar C n st G tmps w) {v : Value} {g : Nat} {l : List (α × List γ)} {hole : Option Value} {ob : Option Nat} (hr : aA (ao C G st.gen w) v (.mo g (dN kf fn l) hole ob)) (hgl : g ∈ st.lv) :
    ∃ b bs me clock ps, G.own g = some (.mp b bs) ∧ v = .map (some b) ∧ kZ w (aN C G) b bs kf fn l hole me clock ps := by
  obtain ⟨r, hgr⟩ := hs.live g hgl
  cases hr with
  | mo _ _ _ _ _ hgg h1 hrow =>
  have hx := hrow r hgr
  cases r with
  | nil => exact hx.elim
  | zero b => exact hx.elim
  | blk b len cap sz pub => exact hx.elim
  | mp b bs =>
    obtain ⟨h2, me, clock, ps, h3⟩ := kZ.of hx
    exact ⟨b, bs, me, clock, ps, hgr, h2, h3⟩
theorem yB {t : TypeId} (hd : Nat.blt d n = true) (h : WO P C n ops Q rest ⟨(d, .mo gen [] none none) :: f, bx, gen :: lv, gen + 1⟩) : WO P C n ops Q (⟨some d, .makeMap t none, ty, pos, af, none⟩ :: rest) ⟨f, bx, lv, gen⟩ := by
  refine WO.step (st := ⟨f, bx, lv, gen⟩) rfl fun tmps w ⟨G, hs⟩ => ?_
  obtain ⟨G', hs', hr⟩ := hs.pc
  refine cd (v := .map (some w.heap.size)) (w' := w.alloc (.map #[] 0)) ?_ ⟨_, ⟨G', hs'.put (dst := some d) (bL (dst := some d) hd) ?_⟩, h⟩
  · unfold execOp
    show Sem.run P _ w = .ok _ _
    simp [Instr.makeMap, Sem.run_bind, Result.andThen]
  · cases hr with
    | mp _ _ _ hgg h1 hrow =>
    refine .mo _ _ _ _ _ hgg ⟨h1, fun b hb => by cases hb⟩ (fun r hr => ?_)
    have hx := hrow r hr
    cases r with
    | nil => exact hx.elim
    | zero b => exact hx.elim
    | blk b len cap sz pub => exact hx.elim
    | mp b bs =>
      obtain ⟨q1, me, clock, q2, q3, q4, _⟩ := hx
      exact ⟨q1, me, clock, q2, q3, q4, fun _ => none, fun _ _ _ _ _ h => (by cases h), fun i m k x hm hk => (by simp at hk)⟩
theorem W.xQ (gq jq : Nat) {g : Nat} {cq : List A} {es : List (Value × List (List D))} {hole : Option Value} (hq : ak bx gq = some cq) (hj : cq[jq]? = some (.mo g es hole none)) (hgl : (lv.any fun h => Nat.beq h g) = true)
    (h : ∀ b, W P C n c Q ⟨f, (gq, cq.set jq (.mo g es hole (some b))) :: bx, lv, gen⟩) : W P C n c Q ⟨f, bx, lv, gen⟩ := by
  intro tmps w ⟨G, hs⟩
  obtain ⟨r, hgr⟩ := hs.live g (cC hgl)
  obtain ⟨b0, cs0, T0, p1, p2, p3, p4, p5⟩ := hs.box gq cq hq
  have hjl : jq < cs0.size := by rw [p3]; exact (List.getElem?_eq_some_iff.1 hj).1
  have hx0 : cs0[jq]? = some cs0[jq] := by simp [hjl]
  have hrep := p5 jq _ _ hx0 hj
  generalize hv : cs0[jq] = v at hrep hx0
  cases hrep with
  | mo _ _ _ _ _ hgg h1 hrow =>
  have hx := hrow r hgr
  cases r with
  | nil => exact hx.elim
  | zero b => exact hx.elim
  | blk b len cap sz pub => exact hx.elim
  | mp b bs =>
    have hvb : v = .map (some b) := hx.1
    refine h b tmps w ⟨G, hs.nf hq (by simp) fun b3 cs3 T3 q1 q2 q3 i x' a' hxx ha => ?_⟩
    by_cases e : jq = i
    · subst e
      rw [List.getElem?_set_self (List.getElem?_eq_some_iff.1 hj).1] at ha
      simp only [Option.some.injEq] at ha
      subst ha
      rw [p1] at q1
      cases q1
      rw [p2] at q2
      cases q2
      rw [hx0] at hxx
      cases hxx
      exact .mo _ _ _ _ _ hgg ⟨h1.1, fun b' hb' => by cases hb'; exact hvb⟩ hrow
    · rw [List.getElem?_set_ne e] at ha
      exact q3 i x' a' hxx ha
theorem lz {w : World} {pv : Nat → Nat → Prop} {β : Type} {vf : β → D} {mt k e : Nat} {td ed : bo} (ht : ak T.l mt = some td) (htk : td.k = .map k e) (he : ak T.l e = some ed) (hkt : fI P k kf) {zx : Value} (hzc : ed.z = [zx]) (hzk : iS ed.k = true) {b : Nat} {me : Array MapEntry} {clock : Nat}
    (hb : w.heap[b]? = some (.map me clock)) {l : List (α × β)} (h : et w pv kf vf me l) (hn : (l.map (·.1)).Nodup) (a : α) :
    ∃ v, (Instr.lookup mt (.map (some b)) (kf a) false).run P w = .ok v w ∧ ((cH l a = none ∧ (∀ p ∈ l, p.1 ≠ a) ∧ v = zx) ∨ ∃ (j : Nat) (m : MapEntry) (p : α × β), me[j]? = some m ∧ l[j]? = some p ∧ p.1 = a ∧ v = m.val ∧ cH l a = some p.2 ∧ aF w pv v (vf p.2)) := by
  obtain ⟨d, hd, hk⟩ := hkt.ty
  have hm := T.oD ht htk
  rcases h.find hkt hn a with ⟨h1, h2, h3⟩ | ⟨j, en, p, h1, h2, h3, h4, h5, h6, h7⟩
  · obtain ⟨i, zv, hi, _, _, hiz, hzl, _, _, hkz⟩ := T.info he
    have hzv : zv = zx := by
      rw [hzc] at hzl
      cases hke : ed.k <;> rw [hke] at hzk hkz <;> cases zv <;> simp_all [Value.cells, iS]
    subst hzv
    refine ⟨zv, ?_, .inl ⟨h3, h2, rfl⟩⟩
    unfold Instr.lookup
    simp only [Sem.run_bind, run_underlying hm, Result.andThen_ok, Go.MapKept.run_getObj_map hb, Sem.run_pure, run_checkKey hd (hk a), h1]
    have : (zeroValue e).run P w = .ok zv w := by simp [zeroValue, typeInfo, Sem.run_bind, run_program, hi, hiz, Result.andThen]
    simp only [this, Result.andThen_ok]
    rfl
  · refine ⟨en.val, ?_, .inr ⟨j, en, p, h2, h3, h4, rfl, h6, h7⟩⟩
    unfold Instr.lookup
    simp only [Sem.run_bind, run_underlying hm, Result.andThen_ok, Go.MapKept.run_getObj_map hb, Sem.run_pure, run_checkKey hd (hk a), h1]
    rfl
theorem pC {mt k e : Nat} {td ed : bo} {m kx : Operand} {g : Nat} {l : List (α × List γ)} {a : α} {ob : Option Nat} (hm : av f m = some (.mo g (dN kf fn l) none ob)) (hk : av f kx = some (.d (.v (kf a))))
    (ht : ak T.l mt = some td) (htk : td.k = .map k e) (he : ak T.l e = some ed) (hkt : fI P k kf) (hgl : (lv.any fun h => Nat.beq h g) = true) (hzc : ed.z = [.slice none 0 0]) (hzk : iS ed.k = true) (hn : (l.map (·.1)).Nodup) {r : List (List D)} (hr : ((cH l a).getD []).map fn = r) :
    Pu P C n ⟨f, bx, lv, gen⟩ ⟨dst, .lookup mt m kx false, ty, pos, af, none⟩ (.d (.sl r)) := by
  subst hr
  refine cA.pu fun G tmps w hs => ?_
  have hrm := hs.av hm
  have hrk := hs.av hk
  generalize hv : Act.eval ⟨tmps, []⟩ m = v at hrm
  generalize hvk : Act.eval ⟨tmps, []⟩ kx = vk at hrk
  obtain ⟨b, bs, me, clock, ps, hgb, rfl, hmo⟩ := hs.wi hrm (cC hgl)
  cases hrk with | d hrk => cases hrk with | v _ hok =>
  obtain ⟨u, h1, h2⟩ := lz (P := P) T ht htk he hkt hzc hzk hmo.hb hmo.mi hn a
  refine ⟨u, ?_, ?_⟩
  · unfold execOp
    show Sem.run P _ w = .ok _ _
    simp only [hv, hvk, Sem.run_bind, h1, Result.andThen_ok, Sem.run_pure]
    rfl
  · rcases h2 with ⟨q1, _, rfl⟩ | ⟨j, mm, p, _, _, _, _, q1, q2⟩
    · rw [q1]; exact .d .nil
    · rw [q1]; exact .d q2
theorem mM (gq jq : Nat) {t : TypeId} {p : Operand} {g b : Nat} {cq : List A} {es : List (Value × List (List D))} {hole : Option Value} (hp : av f p = some (.ptr gq jq)) (hq : ak bx gq = some cq) (hj : cq[jq]? = some (.mo g es hole (some b)))
    (hev : fu T f bx (.load t p) = some (.mo g es hole (some b))) : Pu P C n ⟨f, bx, lv, gen⟩ ⟨dst, .load t p, ty, pos, af, none⟩ (.d (.v (.map (some b)))) := by
  intro G tmps w hs
  refine (Pu.ev (P := P) (C := C) (n := n) (st := ⟨f, bx, lv, gen⟩) T hev G tmps w hs).mono fun v w' ⟨h1, h2⟩ => ⟨h1, ?_⟩
  cases h2 with
  | mo _ _ _ _ _ _ h3 _ => rw [h3.2 b rfl]; exact .d (.v _ rfl)
end
end Go.Ab
namespace Go.Ab
open Go.RowKit Go.MapKept
theorem aF.zw {w : World} {pv : Nat → Nat → Prop} {v : Value} {es : List (List D)} (h : aF w pv v (.sl es)) : ∃ s, ∀ (e : List D), e ∈ es → e.length = s := by
  cases h with
  | nil => exact ⟨0, by simp⟩
  | emp => exact ⟨0, by simp⟩
  | sl b off len cap sz _ u hl hc hm hs hu hr => exact ⟨sz, fun e he => by obtain ⟨i, hi⟩ := List.mem_iff_getElem?.1 he; exact hs i e hi⟩
section
variable {P : Program} (T : bm P) {C : Ctx} {n : Nat} {ops : Array Oper} {Q : Exit → St → Prop} {rest : List Oper}
variable {f : List (Nat × A)} {bx : List (Nat × List A)} {lv : List Nat} {gen : Nat} {d : Nat} {ty : TypeId} {pos : String} {af : Array Edge} {dst : Option Nat} {c : Code}
variable {α γ : Type} [DecidableEq α] {kf : α → Value} {fn : γ → List D}
theorem vj (gq jq : Nat) {mt k e : Nat} {td ed : bo} {m kx : Operand} {g b : Nat} {cq : List A} {l : List (α × List γ)} {a : α} (hd : Nat.blt d n = true) (hm : av f m = some (.d (.v (.map (some b))))) (hq : ak bx gq = some cq) (hj : cq[jq]? = some (.mo g (dN kf fn l) none (some b)))
    (hk : av f kx = some (.d (.v (kf a)))) (ht : ak T.l mt = some td) (htk : td.k = .map k e) (he : ak T.l e = some ed) (hkt : fI P k kf) (hgl : (lv.any fun h => Nat.beq h g) = true) (hzc : ed.z = [.slice none 0 0]) (hzk : iS ed.k = true) (hn : (l.map (·.1)).Nodup)
    {x : List (List D)} (hx : ((cH l a).getD []).map fn = x) {lv' : List Nat} (hlv : gen :: (gen + 1) :: bg lv g = lv') {cq' : List A} (hcq : cq.set jq (.mo gen (dN kf fn l) (some (kf a)) (some b)) = cq')
    (h : WO P C n ops Q rest ⟨(d, .own (gen + 1) x) :: f, (gq, cq') :: bx, lv', gen + 2⟩) : WO P C n ops Q (⟨some d, .lookup mt m kx false, ty, pos, af, none⟩ :: rest) ⟨f, bx, lv, gen⟩ := by
  subst hcq; subst hlv; subst hx
  refine WO.step (st := ⟨f, bx, lv, gen⟩) rfl fun tmps w ⟨G, hs⟩ => ?_
  have hrm := hs.av hm
  have hrk := hs.av hk
  generalize hv : Act.eval ⟨tmps, []⟩ m = v at hrm
  generalize hvk : Act.eval ⟨tmps, []⟩ kx = vk at hrk
  cases hrm with | d hrm => cases hrm with | v _ hom =>
  cases hrk with | d hrk => cases hrk with | v _ hok =>
  obtain ⟨b0, cs0, T0, p1, p2, p3, p4, p5⟩ := hs.box gq cq hq
  have hjl : jq < cs0.size := by rw [p3]; exact (List.getElem?_eq_some_iff.1 hj).1
  have hx0 : cs0[jq]? = some cs0[jq] := by simp [hjl]
  have hrep := p5 jq _ _ hx0 hj
  have hvb : cs0[jq] = .map (some b) := by
    generalize cs0[jq] = y at hrep
    cases hrep with | mo _ _ _ _ _ _ h1 _ => exact h1.2 b rfl
  rw [hvb] at hrep
  obtain ⟨b', bs, me, clock, ps, hgb, hbb, hmo⟩ := hs.wi hrep (cC hgl)
  simp only [Value.map.injEq, Option.some.injEq] at hbb
  subst hbb
  obtain ⟨u, h1, h2⟩ := lz (P := P) T ht htk he hkt hzc hzk hmo.hb hmo.mi hn a
  have h0 : (execOp (Act.eval ⟨tmps, []⟩) ⟨some d, .lookup mt m kx false, ty, pos, af, none⟩).run P w = .ok (.value u) w := by
    unfold execOp
    show Sem.run P _ w = .ok _ _
    simp only [hv, hvk, Sem.run_bind, h1, Result.andThen_ok, Sem.run_pure]
  have key : ∀ (x : List (List D)) (r2 : Row) (bs' : List (Nat × Nat)), (∀ p ∈ bs', p ∈ bs) → (∀ b' bs', r2 ≠ .mp b' bs') →
      (∀ c len cap sz pub, r2 = .blk c len cap sz pub → (c, pub) ∈ bs ∧ (∀ p ∈ bs', p.1 ≠ c) ∧ ∃ cur T, w.heap[c]? = some (.cells cur T (0, 0)) ∧ cur.size = cap * sz ∧ len ≤ cap ∧ cap ≤ maxLen ∧ 0 < sz ∧ 0 < len ∧ pub ≤ len * sz ∧ dB cur) →
      (∀ (i : Nat) (mm : MapEntry) (p : α × List γ), me[i]? = some mm → l[i]? = some p → some (kf a) ≠ some (kf p.1) → kb w (ps (kf p.1)) bs' mm.val (p.2.map fn)) →
      aF w (aN C G) u (.sl x) → (∃ s, (∀ (e : List D), e ∈ x → e.length = s) ∧ mv r2 u x.length s) →
      ∃ G', ar C n ⟨(d, .own (gen + 1) x) :: f, (gq, cq.set jq (.mo gen (dN kf fn l) (some (kf a)) (some b))) :: bx, gen :: (gen + 1) :: bg lv g, gen + 2⟩ G' (Act.put ⟨tmps, []⟩ (some d) u).tmps w := by
    intro x r2 bs' hsub hr2 hr3 hat hxd hrow
    obtain ⟨G', hGb, ho1, ho2, hle, hs'⟩ := hs.split hgb hsub r2 hr2 hr3 (bg lv g) (fun g' hg' => bR hg')
    have hmo' : kZ w (aN C G') b bs' kf fn l (some (kf a)) me clock ps := ⟨hmo.hb, hmo.st, hmo.mi.mono fun b o u hu hp => hle.cell b o u hu hp, fun p p' c hp hp' _ _ q3 q4 => hmo.inj p p' c hp hp' (by simp) (by simp) q3 q4, hat⟩
    have hs2 := hs'.nf (f := f) (bx := bx) (lv := gen :: (gen + 1) :: bg lv g) (gen := gen + 2) hq (cells' := cq.set jq (.mo gen (dN kf fn l) (some (kf a)) (some b))) (by simp) fun b3 cs3 T3 q1 q2 q3 i x' a' hxx ha => by
      by_cases e : jq = i
      · subst e
        rw [List.getElem?_set_self (List.getElem?_eq_some_iff.1 hj).1] at ha
        simp only [Option.some.injEq] at ha
        subst ha
        rw [hGb, p1] at q1
        cases q1
        rw [p2] at q2
        cases q2
        rw [hx0, hvb] at hxx
        cases hxx
        exact .mo _ _ _ _ _ (by simp [ao]) ⟨rfl, fun b' hb' => by cases hb'; rfl⟩ (fun r hr => by
          have : G'.own gen = some r := hr
          rw [ho1] at this
          cases this
          exact hmo'.to)
      · rw [List.getElem?_set_ne e] at ha
        exact q3 i x' a' hxx ha
    refine ⟨G', hs2.put (dst := some d) (bL (dst := some d) hd) (.own _ _ x (hxd.mono fun b o u hu hp => hle.cell b o u hu hp) (by simp [ao]) (fun r hr => ?_))⟩
    have : G'.own (gen + 1) = some r := hr
    rw [ho2] at this
    cases this
    exact hrow
  refine cd h0 ?_
  rcases h2 with ⟨q1, q2, rfl⟩ | ⟨j, mm, p, q1, q2, q3, q4, q5, q6⟩
  · obtain ⟨G', hG'⟩ := key [] .nil bs (fun _ h => h) (fun _ _ h => by cases h) (fun _ _ _ _ _ h => by cases h) (fun i mm p hm hp _ => hmo.at_ i mm p hm hp (by simp)) .nil ⟨0, by simp, rfl, rfl⟩
    refine ⟨_, ⟨G', hG'⟩, ?_⟩
    rw [q1] at h
    exact h
  · subst q3; subst q4
    have hsl := hmo.at_ j mm p q1 q2 (by simp)
    rw [q5] at h
    obtain ⟨s, hsz⟩ := q6.zw
    cases hps : ps (kf p.1) with
    | none =>
      rw [hps] at hsl
      rcases hsl with ⟨t1, t2⟩ | ⟨c, off, t1⟩
      · obtain ⟨G', hG'⟩ := key (p.2.map fn) .nil bs (fun _ h => h) (fun _ _ h => by cases h) (fun _ _ _ _ _ h => by cases h) (fun i mm p hm hp _ => hmo.at_ i mm p hm hp (by simp)) q6 ⟨s, hsz, t1, by rw [t2]; rfl⟩
        exact ⟨_, ⟨G', hG'⟩, h⟩
      · obtain ⟨G', hG'⟩ := key (p.2.map fn) (.zero c) bs (fun _ h => h) (fun _ _ h => by cases h) (fun _ _ _ _ _ h => by cases h) (fun i mm p hm hp _ => hmo.at_ i mm p hm hp (by simp)) q6 ⟨s, hsz, off, t1⟩
        exact ⟨_, ⟨G', hG'⟩, h⟩
    | some c =>
      rw [hps] at hsl
      obtain ⟨cap, sz, cur, T1, t1, t2, t3, t4, t5, t6, t7, t8, t9, t10⟩ := hsl
      obtain ⟨G', hG'⟩ := key (p.2.map fn) (.blk c (p.2.map fn).length cap sz ((p.2.map fn).length * sz)) (bs.filter fun q => !Nat.beq q.1 c) (fun q hq => (List.mem_filter.1 hq).1) (fun _ _ h => by cases h)
        (fun c' len' cap' sz' pub' h => by
          simp only [Row.blk.injEq] at h
          obtain ⟨rfl, rfl, rfl, rfl, rfl⟩ := h
          exact ⟨t2, fun q hq e => by have := (List.mem_filter.1 hq).2; rw [e] at this; simp at this, cur, T1, t8, t9, t6, t7, t4, t5, Nat.le_refl _, t10⟩)
        (fun i m2 p2 hm2 hp2 hne => (hmo.at_ i m2 p2 hm2 hp2 (by simp)).mono fun c' lim e1 e2 => ⟨List.mem_filter.2 ⟨e2, by
          have : c' ≠ c := fun e => by
            subst e
            have := hmo.inj p p2 c' (List.mem_of_getElem? q2) (List.mem_of_getElem? hp2) (by simp) (by simp) hps e1
            exact hne (by rw [this])
          cases hq : Nat.beq c' c with
          | false => rfl
          | true => exact absurd (Nat.eq_of_beq_eq_true hq) this⟩, rfl⟩) q6 ⟨sz, t3, t1, rfl, rfl, rfl⟩
      exact ⟨_, ⟨G', hG'⟩, h⟩
theorem lH {w : World} {pv : Nat → Nat → Prop} {β : Type} {vf : β → D} {mt k e : Nat} {td : bo} (ht : ak T.l mt = some td) (htk : td.k = .map k e) (hkt : fI P k kf) {b : Nat} {me : Array MapEntry} {clock : Nat} (hb : w.heap[b]? = some (.map me clock)) {l : List (α × β)}
    (hst : Stamped me clock) (h : et w pv kf vf me l) (hn : (l.map (·.1)).Nodup) (a : α) (hka : bK (kf a) = true) {v : Value} {y : β} (hv : aF w pv v (vf y)) :
    ∃ me' clock', (Instr.mapUpdate mt (.map (some b)) (kf a) v).run P w = .ok () { w with heap := w.heap.setIfInBounds b (.map me' clock') } ∧ Stamped me' clock' ∧ et w pv kf vf me' (bT l a y) ∧
      ∀ (i : Nat) (m : MapEntry) (p : α × β), me'[i]? = some m → (bT l a y)[i]? = some p → (p = (a, y) ∧ m.val = v) ∨ (p.1 ≠ a ∧ ∃ m0, me[i]? = some m0 ∧ l[i]? = some p ∧ m0.val = m.val) := by
  obtain ⟨d, hd, hk⟩ := hkt.ty
  have hm := T.oD ht htk
  rcases h.find hkt hn a with ⟨h1, h2, _⟩ | ⟨j, en, p, h1, h2, h3, h4, h5, _, _⟩
  · refine ⟨me.push ⟨kf a, v, clock⟩, clock + 1, ?_, stamped_push hst (fun x hx => ?_), ?_, ?_⟩
    · unfold Instr.mapUpdate
      simp only [Sem.run_bind, run_underlying hm, Result.andThen_ok, Go.MapKept.run_getObj_map hb, run_checkKey hd (hk a), h1]
      exact Go.MapKept.run_setObj_map _ hb
    · obtain ⟨i, hi⟩ := List.mem_iff_getElem?.1 hx
      have hi' : me[i]? = some x := by simpa using hi
      have hlt : i < l.length := by rw [← h.1]; exact (Array.getElem?_eq_some_iff.1 hi').1
      rw [(h.2 i x l[i] hi' (by simp [hlt])).1]
      exact fun e => h2 l[i] (by simp) (hkt.inj _ _ e)
    · rw [ga h2]
      refine ⟨by simp [h.1], fun i m p hm hp => ?_⟩
      rw [Array.getElem?_push] at hm
      split at hm
      · rename_i hi
        rw [List.getElem?_append_right (by rw [hi, h.1]; exact Nat.le_refl _)] at hp
        have : i - l.length = 0 := by rw [hi, h.1]; omega
        rw [this] at hp
        simp only [List.getElem?_cons_zero, Option.some.injEq] at hp
        simp only [Option.some.injEq] at hm
        subst hm; subst hp
        exact ⟨rfl, hka, hv⟩
      · have hlt : i < l.length := by rw [← h.1]; exact (Array.getElem?_eq_some_iff.1 hm).1
        rw [List.getElem?_append_left hlt] at hp
        exact h.2 i m p hm hp
    · rw [ga h2]
      intro i m p hm hp
      rw [Array.getElem?_push] at hm
      split at hm
      · rename_i hi
        rw [List.getElem?_append_right (by rw [hi, h.1]; exact Nat.le_refl _)] at hp
        have : i - l.length = 0 := by rw [hi, h.1]; omega
        rw [this] at hp
        simp only [List.getElem?_cons_zero, Option.some.injEq] at hp
        simp only [Option.some.injEq] at hm
        subst hm; subst hp
        exact .inl ⟨rfl, rfl⟩
      · have hlt : i < l.length := by rw [← h.1]; exact (Array.getElem?_eq_some_iff.1 hm).1
        rw [List.getElem?_append_left hlt] at hp
        exact .inr ⟨h2 p (List.mem_of_getElem? hp), m, hm, hp, rfl⟩
  · refine ⟨me.modify j fun e => { e with key := kf a, val := v }, clock, ?_, stamped_modify hst j _ (fun _ _ => rfl) (fun e _ he => by rw [h2] at he; cases he; exact h5.symm), ?_, ?_⟩
    · unfold Instr.mapUpdate
      simp only [Sem.run_bind, run_underlying hm, Result.andThen_ok, Go.MapKept.run_getObj_map hb, run_checkKey hd (hk a), h1, h2, Option.map_some, Option.getD_some, h5, run_keyThatStays (hk a)]
      exact Go.MapKept.run_setObj_map _ hb
    · subst h4
      rw [ny hn h3]
      refine ⟨by simp [h.1], fun i m q hm hq => ?_⟩
      rw [Array.getElem?_modify] at hm
      rw [List.getElem?_set] at hq
      by_cases hij : j = i
      · subst hij
        rw [if_pos rfl] at hm hq
        rw [h2] at hm
        rw [if_pos (List.getElem?_eq_some_iff.1 h3).1] at hq
        simp only [Option.map_some, Option.some.injEq] at hm hq
        subst hm; subst hq
        exact ⟨rfl, hka, hv⟩
      · rw [if_neg hij] at hm hq
        exact h.2 i m q hm hq
    · subst h4
      rw [ny hn h3]
      intro i m q hm hq
      rw [Array.getElem?_modify] at hm
      rw [List.getElem?_set] at hq
      by_cases hij : j = i
      · subst hij
        rw [if_pos rfl] at hm hq
        rw [h2] at hm
        rw [if_pos (List.getElem?_eq_some_iff.1 h3).1] at hq
        simp only [Option.map_some, Option.some.injEq] at hm hq
        subst hm; subst hq
        exact .inl ⟨rfl, rfl⟩
      · rw [if_neg hij] at hm hq
        refine .inr ⟨fun e => hij ?_, m, hm, hq, rfl⟩
        have h6 : (l.map (·.1))[j]? = some p.1 := by simp [h3]
        have h7 : (l.map (·.1))[i]? = some p.1 := by simp [hq, e]
        obtain ⟨hj1, hj2⟩ := List.getElem?_eq_some_iff.1 h6
        obtain ⟨hi1, hi2⟩ := List.getElem?_eq_some_iff.1 h7
        have hpw := List.pairwise_iff_getElem.1 hn
        rcases Nat.lt_trichotomy j i with hlt | heq | hgt
        · exact absurd (hj2.trans hi2.symm) (hpw j i hj1 hi1 hlt)
        · exact heq
        · exact absurd (hi2.trans hj2.symm) (hpw i j hi1 hj1 hgt)
open Classical in
theorem w6 (gq jq : Nat) {mt k e : Nat} {td : bo} {m kx x : Operand} {g g2 b : Nat} {cq : List A} {l : List (α × List γ)} {a : α} {y : List γ} (hm : av f m = some (.d (.v (.map (some b))))) (hq : ak bx gq = some cq) (hj : cq[jq]? = some (.mo g (dN kf fn l) (some (kf a)) (some b)))
    (hk : av f kx = some (.d (.v (kf a)))) (hx : av f x = some (.own g2 (y.map fn))) (ht : ak T.l mt = some td) (htk : td.k = .map k e) (hkt : fI P k kf) (hgl : (lv.any fun h => Nat.beq h g) = true) (hgl2 : (lv.any fun h => Nat.beq h g2) = true) (hgg : Nat.beq g2 g = false) (hn : (l.map (·.1)).Nodup)
    {lv' : List Nat} (hlv : gen :: bg (bg lv g) g2 = lv') {cq' : List A} (hcq : cq.set jq (.mo gen (dN kf fn (bT l a y)) none none) = cq')
    (h : WO P C n ops Q rest ⟨f, (gq, cq') :: bx, lv', gen + 1⟩) : WO P C n ops Q (⟨none, .mapUpdate mt m kx x, ty, pos, af, none⟩ :: rest) ⟨f, bx, lv, gen⟩ := by
  subst hcq; subst hlv
  refine WO.step (st := ⟨f, bx, lv, gen⟩) rfl fun tmps w ⟨G, hs⟩ => ?_
  have hrm := hs.av hm
  have hrk := hs.av hk
  have hrx := hs.av hx
  generalize hv : Act.eval ⟨tmps, []⟩ m = v at hrm
  generalize hvk : Act.eval ⟨tmps, []⟩ kx = vk at hrk
  generalize hvx : Act.eval ⟨tmps, []⟩ x = vx at hrx
  cases hrm with | d hrm => cases hrm with | v _ hom =>
  cases hrk with | d hrk => cases hrk with | v _ hok =>
  obtain ⟨r2, hg2⟩ := hs.live g2 (cC hgl2)
  cases hrx with
  | own _ _ _ hxd hgg2 hxr =>
  obtain ⟨s, hsz, hri⟩ := hxr r2 hg2
  have hne : g2 ≠ g := fun e => by subst e; simp at hgg
  obtain ⟨b0, cs0, T0, p1, p2, p3, p4, p5⟩ := hs.box gq cq hq
  have hjl : jq < cs0.size := by rw [p3]; exact (List.getElem?_eq_some_iff.1 hj).1
  have hx0 : cs0[jq]? = some cs0[jq] := by simp [hjl]
  have hrep := p5 jq _ _ hx0 hj
  have hvb : cs0[jq] = .map (some b) := by
    generalize cs0[jq] = y at hrep
    cases hrep with | mo _ _ _ _ _ _ h1 _ => exact h1.2 b rfl
  rw [hvb] at hrep
  obtain ⟨b', bs, me, clock, ps, hgb, hbb, hmo⟩ := hs.wi hrep (cC hgl)
  simp only [Value.map.injEq, Option.some.injEq] at hbb
  subst hbb
  obtain ⟨me', clock', hrun, hst', hmi', hwh⟩ := lH (P := P) T (y := y) ht htk hkt hmo.hb hmo.st hmo.mi hn a hok hxd
  have h0 : (execOp (Act.eval ⟨tmps, []⟩) ⟨none, .mapUpdate mt m kx x, ty, pos, af, none⟩).run P w = .ok .skip { w with heap := w.heap.setIfInBounds b (.map me' clock') } := by
    unfold execOp
    show Sem.run P _ w = .ok _ _
    simp only [hv, hvk, hvx, Sem.run_bind, hrun, Result.andThen_ok, Sem.run_pure]
  obtain ⟨hnew, hoth⟩ := heap_set (o' := Obj.map me' clock') hmo.hb
  obtain ⟨bs', oc, hbs1, hbs2, hoc⟩ : ∃ (bs' : List (Nat × Nat)) (oc : Option Nat), (∀ p ∈ bs, p ∈ bs') ∧ (∀ p ∈ bs', p ∈ bs ∨ ∃ len cap sz, r2 = .blk p.1 len cap sz p.2) ∧ (kb w oc bs' vx (y.map fn) ∧ ∀ c, oc = some c → ∃ len cap sz pub, r2 = .blk c len cap sz pub) := by
    cases r2 with
    | nil => exact ⟨bs, none, fun _ h => h, fun _ h => .inl h, .inl ⟨hri.1, List.eq_nil_of_length_eq_zero hri.2⟩, fun c hc => by cases hc⟩
    | zero c => exact ⟨bs, none, fun _ h => h, fun _ h => .inl h, .inr ⟨c, hri⟩, fun c hc => by cases hc⟩
    | mp _ _ => exact hri.elim
    | blk c len cap sz pub =>
      obtain ⟨t1, t2, t3, t4⟩ := hri
      obtain ⟨_, _, _, cur, T1, u1, u2, u3, u4, u5, u6, u7, u8⟩ := hs.row g2 c len cap sz pub hg2
      refine ⟨(c, pub) :: bs, some c, fun p hp => List.mem_cons_of_mem _ hp, fun p hp => ?_, ⟨cap, sz, cur, T1, by rw [t1, t2], ?_, fun e he => (hsz e he).trans t3, u5, by omega, by omega, u4, u1, u2, u8⟩, fun c' hc' => by cases hc'; exact ⟨len, cap, sz, pub, rfl⟩⟩
      · rcases List.mem_cons.1 hp with rfl | hp
        · exact .inr ⟨len, cap, sz, rfl⟩
        · exact .inl hp
      · rw [t2, ← t4]; exact List.mem_cons_self
  obtain ⟨G', hGb, ho1, hle, hs'⟩ := hs.join hgb hg2 hne hbs2 me' clock' (bg (bg lv g) g2) (fun g' hg' => by
    obtain ⟨t1, t2⟩ := bR hg'
    obtain ⟨t3, t4⟩ := bR t1
    exact ⟨t3, t4, t2⟩)
  have hcells : ∀ {c : Nat} {cs : Array Value} {T : TypeId} {ff : Nat × Nat}, w.heap[c]? = some (.cells cs T ff) → (w.heap.setIfInBounds b (.map me' clock'))[c]? = w.heap[c]? := fun {c cs T ff} hc => hoth c (fun e => by rw [e, hmo.hb] at hc; cases hc)
  have hslw : ∀ {o : Option Nat} {v : Value} {z : List (List D)} {bs1 bs2 : List (Nat × Nat)}, kb w o bs1 v z → (∀ p ∈ bs1, p ∈ bs2) → kb { w with heap := w.heap.setIfInBounds b (.map me' clock') } o bs2 v z := fun {o v z bs1 bs2} hz hb2 => by
    cases o with
    | none => exact hz
    | some c =>
      obtain ⟨cap, sz, cur, T1, t1, t2, t3, t4, t5, t6, t7, t8, t9⟩ := hz
      exact ⟨cap, sz, cur, T1, t1, hb2 _ t2, t3, t4, t5, t6, t7, (hcells t8).trans t8, t9⟩
  have hclaim : ∀ (p : α × List γ) (c : Nat), p ∈ l → p.1 ≠ a → ps (kf p.1) = some c → ∃ lim, (c, lim) ∈ bs := fun p c hp hpa hc => by
    obtain ⟨i, hi⟩ := List.mem_iff_getElem?.1 hp
    have hil : i < me.size := by rw [hmo.mi.1]; exact (List.getElem?_eq_some_iff.1 hi).1
    have := hmo.at_ i me[i] p (by simp [hil]) hi (fun e => hpa (hkt.inj _ _ (Option.some.inj e)).symm)
    rw [hc] at this
    obtain ⟨cap, sz, cur, T1, t1, t2, _⟩ := this
    exact ⟨_, t2⟩
  have hmem : ∀ p ∈ bT l a y, p.1 ≠ a → p ∈ l := fun p hp hpa => by
    obtain ⟨i, hi⟩ := List.mem_iff_getElem?.1 hp
    have hil : i < me'.size := by rw [hmi'.1]; exact (List.getElem?_eq_some_iff.1 hi).1
    rcases hwh i me'[i] p (by simp [hil]) hi with ⟨e, _⟩ | ⟨_, m0, _, e, _⟩
    · rw [e] at hpa; exact absurd rfl hpa
    · exact List.mem_of_getElem? e
  have hnot : ∀ (c : Nat), oc = some c → ∀ lim, (c, lim) ∉ bs := fun c hc lim hm => by
    obtain ⟨len, cap, sz, pub, e⟩ := hoc.2 c hc
    rw [e] at hg2
    exact (hs.sub g b bs c lim hgb hm).2.2.1 _ _ _ _ _ hg2
  have hmo' : kZ { w with heap := w.heap.setIfInBounds b (.map me' clock') } (aN C G') b bs' kf fn (bT l a y) none me' clock' (fun k => if k = kf a then oc else ps k) := by
    refine ⟨hnew, hst', hmi'.mono fun b o u hu hp => hle.cell b o u hu hp, fun p p' c hp hp' _ _ q3 q4 => ?_, fun i mm p hmm hp _ => ?_⟩
    · by_cases e1 : p.1 = a
      · by_cases e2 : p'.1 = a
        · rw [e1, e2]
        · rw [e1, if_pos rfl] at q3
          rw [if_neg (fun e => e2 (hkt.inj _ _ e))] at q4
          obtain ⟨lim, hm⟩ := hclaim p' c (hmem p' hp' e2) e2 q4
          exact absurd hm (hnot c q3 lim)
      · rw [if_neg (fun e => e1 (hkt.inj _ _ e))] at q3
        by_cases e2 : p'.1 = a
        · rw [e2, if_pos rfl] at q4
          obtain ⟨lim, hm⟩ := hclaim p c (hmem p hp e1) e1 q3
          exact absurd hm (hnot c q4 lim)
        · rw [if_neg (fun e => e2 (hkt.inj _ _ e))] at q4
          exact hmo.inj p p' c (hmem p hp e1) (hmem p' hp' e2) (fun e => e1 (hkt.inj _ _ (Option.some.inj e)).symm) (fun e => e2 (hkt.inj _ _ (Option.some.inj e)).symm) q3 q4
    · rcases hwh i mm p hmm hp with ⟨e, e2⟩ | ⟨e, m0, e2, e3, e4⟩
      · rw [e, e2]
        simp only [if_true]
        exact hslw hoc.1 (fun _ h => h)
      · rw [if_neg (fun e' => e (hkt.inj _ _ e')), ← e4]
        exact hslw (hmo.at_ i m0 p e2 e3 (fun e' => e (hkt.inj _ _ (Option.some.inj e')).symm)) hbs1
  refine fN h0 ⟨_, ⟨G', hs'.nf (f := f) (bx := bx) (lv := gen :: bg (bg lv g) g2) (gen := gen + 1) hq (by simp) fun b3 cs3 T3 q1 q2 q3 i x' a' hxx ha => ?_⟩, h⟩
  by_cases e : jq = i
  · subst e
    have hlt : jq < cq.length := (List.getElem?_eq_some_iff.1 hj).1
    rw [List.getElem?_set_self hlt] at ha
    simp only [Option.some.injEq] at ha
    subst ha
    rw [hGb, p1] at q1
    cases q1
    rw [show ({ w with heap := w.heap.setIfInBounds b (.map me' clock') } : World).heap[b0]? = w.heap[b0]? from hcells p2, p2] at q2
    cases q2
    rw [hx0, hvb] at hxx
    cases hxx
    exact .mo _ _ _ _ _ (by simp [ao]) ⟨rfl, fun b' hb' => by cases hb'⟩ (fun r hr => by
      have : G'.own gen = some r := hr
      rw [ho1] at this
      cases this
      exact hmo'.to)
  · rw [List.getElem?_set_ne e] at ha
    exact q3 i x' a' hxx ha
end
end Go.Ab
namespace Go.Ab
theorem rT {P : Program} {C : Ctx} {n : Nat} {ops : Array Oper} {Q : Exit → St → Prop} {rest : List Oper} {st : St} {mt : TypeId} {m k x : Operand} {ty : TypeId} {pos : String} {af : Array Edge}
    (h : WO P C n ops Q (⟨none, .mapUpdate mt m k x, ty, pos, af, none⟩ :: rest) st) : WO P C n ops Q (⟨none, .insert mt m k x, ty, pos, af, none⟩ :: rest) st := fun tmps w hs => h tmps w hs
end Go.Ab
namespace Go.Ab
open Go.RowKit
def jv (o : Oper) : Bool := match o.op with | .defer _ => false | _ => true
section
variable {P : Program} {n : Nat}
theorem pJ {q : Nat} {row : String} {args : Array Value} {w : World} {R : Value → World → Prop} (h : Rows P row args w R) : RowsIn Fence.wide q P row args w R :=
  fun c cs _ => let ⟨v, w', r, s⟩ := h c cs; ⟨v, w', r, stepsIn_wide.2 s⟩
theorem sR {o : Oper} {a : Act} {w : World} {next next' : Act → World → Prop} {Q Q' : Exit → Act → World → Prop} (h : o.wp P a w next Q) (hn : ∀ a w, next a w → next' a w) (hq : ∀ e a w, Q e a w → Q' e a w) : o.wp P a w next' Q' := by
  unfold Oper.wp at h ⊢
  generalize (execOp a.eval o).run P w = res at h ⊢
  cases res with
  | ok x w' =>
    cases x <;> simp only [Oper.upon] at h ⊢
    case value v => exact hn _ _ h
    case skip => exact hn _ _ h
    case defer d => exact hn _ _ h
    case enter f args =>
      refine h.mono fun e w'' he => ?_
      cases e with
      | returned v => exact hn _ _ he
      | panicked c => exact hq _ _ _ he
      | outgrown => exact let ⟨a, w, h⟩ := he; ⟨a, w, hq _ _ _ h⟩
    case row row args => exact h.mono fun v w'' he => hn _ _ he
  | halt x w' =>
    cases x <;> simp only [Oper.upon] at h ⊢
    exact hq _ _ _ h
theorem ki {ops : Array Oper} {Q Q' : Exit → Act → World → Prop} (hq : ∀ e a w, Q e a w → Q' e a w) : ∀ (l : List Oper) (a : Act) (w : World), dh P ops Q l a w → dh P ops Q' l a w
  | [], _, _, h => hq _ _ _ h
  | o :: l, a, w, h => by
    simp only [dh] at h ⊢
    split
    · rename_i hw
      rw [if_pos hw] at h
      exact sR h (fun a w => ki hq l a w) hq
    · rename_i hw
      rw [if_neg hw] at h
      exact ki hq l _ _ h
theorem xb {r q : Nat} {o : Oper} {a : Act} {w : World} {next next' : Act → World → Prop} {Q : Exit → Act → World → Prop} (hnd : jv o = true) (h : o.wp P a w next Q) (hn : ∀ a w, next a w → next' a w) : o.wpIn (Fence.wide.inRound r) q P a w next' Q := by
  refine ⟨fun _ _ => trivial, ?_⟩
  rw [Oper.semAt_eq _ _ _ (fun c hc => by simp [jv, hc] at hnd)]
  unfold Oper.wp at h
  generalize (execOp a.eval o).run P w = res at h ⊢
  cases res with
  | ok x w' =>
    cases x <;> simp only [Oper.upon] at h <;> simp only [Oper.uponIn]
    case value v => exact hn _ _ h
    case skip => exact hn _ _ h
    case defer d => exact hn _ _ h
    case enter f args =>
      refine ⟨fun hh => (by cases hh), CallsIn.inRound r ((callsIn_wide.2 h).mono fun e w'' he => ?_)⟩
      cases e with
      | returned v => exact hn _ _ he
      | panicked c => exact he
      | outgrown => exact he
    case row row args => exact ⟨fun hh => (by cases hh), (pJ (h.mono fun v w'' he => hn _ _ he) : RowsIn Fence.wide (q - 1) P row args w' _)⟩
  | halt x w' =>
    cases x <;> simp only [Oper.upon] at h <;> simp only [Oper.uponIn]
    exact h
theorem oW {r q : Nat} {ops : Array Oper} {Q : Exit → Act → World → Prop} : ∀ (l : List Oper) (k : Nat), (∀ j : Nat, l[j]? = ops[k + j]?) → (l.all jv = true) → ∀ (a : Act) (w : World), dh P ops Q l a w → wpOpsIn (Fence.wide.inRound r) q P ops Q (List.range' k l.length) a w
  | [], k, _, _, a, w, h => by simpa [wpOpsIn, dh] using h
  | o :: l, k, hl, hd, a, w, h => by
    have h0 : ops[k]? = some o := by simpa using (hl 0).symm
    simp only [List.all_cons, Bool.and_eq_true] at hd
    simp only [List.length_cons, List.range'_succ, wpOpsIn, h0]
    simp only [dh] at h
    have ih := fun a w => oW (r := r) (q := q) (Q := Q) l (k + 1) (fun j => by have := hl (j + 1); simpa [Nat.add_assoc, Nat.add_comm 1 j] using this) hd.2 a w
    split
    · rename_i hw
      rw [if_pos hw] at h
      exact xb hd.1 h ih
    · rename_i hw
      rw [if_neg hw] at h
      exact ⟨fun _ _ => trivial, ih _ _ h⟩
end
def QR (b1 : List (List A)) (k : Nat) (st : St) : Prop := ∃ order, order.length = k ∧ nodupB (cN b1.length order) = true ∧ (∀ g ∈ order, g ∈ st.lv) ∧ ∀ (i : Nat) (c : List A), b1[i]? = some c → ∃ c0, ak st.bx i = some c0 ∧ dk (cN b1.length order) c0 = c
theorem QR.mk {b1 : List (List A)} {k : Nat} {st : St} (order : List Nat) (hk : order.length = k) (hnd : nodupB (cN b1.length order) = true) (hov : (order.all fun g => st.lv.any fun h => Nat.beq h g) = true)
    (hb : ∀ (i : Nat) (c : List A), b1[i]? = some c → ∃ c0, ak st.bx i = some c0 ∧ dk (cN b1.length order) c0 = c) : QR b1 k st :=
  ⟨order, hk, hnd, fun g hg => by
    obtain ⟨x, hx, he⟩ := List.any_eq_true.1 (List.all_eq_true.1 hov g hg)
    exact Nat.eq_of_beq_eq_true he ▸ hx, hb⟩
section
variable {P : Program} [Met P] {n : Nat}
theorem QR.y8 {C : Ctx} {st : St} {G : Gh} {tmps : Array Value} {w : World} {b0 b1 : List (List A)} {k : Nat} (hs : ar C n st G tmps w) (hq : QR b1 k st) (hnb : C.bx.length = b0.length) (hbl : b1.length = b0.length) :
    ∃ G', ar C 0 ⟨[], dw 0 b1, (List.range k).map (b0.length + ·), b0.length + k⟩ G' #[] w := by
  obtain ⟨order, hol, hnd, hov, hbx⟩ := hq
  have holen : (cN b1.length order).length = b0.length + k := by simp [cN, hol, hbl]
  have hget : ∀ i, i < C.bx.length → (cN b1.length order)[i]? = some i := fun i hi => by
    unfold cN
    rw [List.getElem?_append_left (by simp; omega), List.getElem?_range (by omega)]
  refine ⟨ja (cN b1.length order) G, ar.qV (hs.aY (f' := []) (bx' := dw 0 b1) (lv' := (List.range k).map (b0.length + ·)) (gen' := b0.length + k) (cN b1.length order) (ee hnd) (by omega) hget (fun t a ha => by simp [look] at ha) (fun i c hc => ?_) (fun i hi => ?_)) rfl⟩
  · obtain ⟨_, h1⟩ := j0 b1 0 i c hc
    simp only [Nat.sub_zero] at h1
    obtain ⟨c0, h2, h3⟩ := hbx i c h1
    have hlt : i < b1.length := (List.getElem?_eq_some_iff.1 h1).1
    exact ⟨i, c0, hget i (by rw [hnb, ← hbl]; exact hlt), h2, by rw [← dA]; exact h3⟩
  · obtain ⟨j, hj, rfl⟩ := List.mem_map.1 hi
    have hj : j < k := by simpa using hj
    have hj2 : j < order.length := by omega
    refine ⟨order[j], ?_, hov _ (List.getElem_mem hj2)⟩
    unfold cN
    rw [List.getElem?_append_right (by simp; omega)]
    simp [hbl, hj2]
theorem mz.zy {id i1 i2 : Nat} {l1 l2 : List Oper} {V : List (Nat × A)} {b0 b1 : List (List A)} {m k : Nat} (hbl : b1.length = b0.length) (hd1 : l1.all jv = true) (hd2 : l2.all jv = true)
    (h : ∀ C, NB C b0.length → GC P C → WO P C n l1.toArray (fun e s => e = .normal ∧ WO P C n l2.toArray (fun e s => e = .normal ∧ QR b1 k s) l2 s) l1 ⟨V, dw 0 b0, (List.range m).map (b0.length + ·), b0.length + m⟩) :
    mz P n (.block id (.seq (.region i1 l1.toArray false) (.region i2 l2.toArray false))) V b0 m b1 k := by
  intro C G tmps w l q hG hw hnb hds hs
  refine wpIn_block (wpIn_seq (wpIn_region ?_))
  have h1 := h C ⟨hnb⟩ hG tmps w ⟨G, hs⟩
  rw [hds] at h1
  have h2 : dh P l1.toArray (Exit.then ((Code.region i2 l2.toArray false).wpIn (Fence.wide.inRound l) q P (Exit.inBlock id fun e _ w' => e = .normal ∧ ∃ G', ar C 0 ⟨[], dw 0 b1, (List.range k).map (b0.length + ·), b0.length + k⟩ G' #[] w')) (Exit.inBlock id fun e _ w' => e = .normal ∧ ∃ G', ar C 0 ⟨[], dw 0 b1, (List.range k).map (b0.length + ·), b0.length + k⟩ G' #[] w')) l1 ⟨tmps, []⟩ w := by
    refine ki (fun e a w' hq => ?_) l1 _ _ h1
    obtain ⟨hd, st, ⟨G2, hs2⟩, rfl, hw2⟩ := hq
    obtain ⟨tm, d⟩ := a
    have hd : d = C.ds := hd
    rw [hds] at hd
    subst hd
    refine wpIn_region ?_
    have h3 := hw2 tm w' ⟨G2, hs2⟩
    rw [hds] at h3
    have h4 : dh P l2.toArray (Exit.inBlock id fun e _ w' => e = .normal ∧ ∃ G', ar C 0 ⟨[], dw 0 b1, (List.range k).map (b0.length + ·), b0.length + k⟩ G' #[] w') l2 ⟨tm, []⟩ w' := by
      refine ki (fun e a w3 hq => ?_) l2 _ _ h3
      obtain ⟨_, st3, ⟨G3, hs3⟩, rfl, hq3⟩ := hq
      exact ⟨rfl, hq3.y8 hs3 hnb hbl⟩
    have := oW (P := P) (r := l) (q := q) l2 0 (by simp) hd2 _ _ h4
    rw [show List.range l2.toArray.size = List.range' 0 l2.length by simp [List.range_eq_range']]
    exact this
  have := oW (P := P) (r := l) (q := q) l1 0 (by simp) hd1 _ _ h2
  rw [show List.range l1.toArray.size = List.range' 0 l1.length by simp [List.range_eq_range']]
  exact this
end
section
variable {P : Program} (T : bm P) {C : Ctx} {n : Nat} {Q : Exit → St → Prop} {c : Code}
variable {f f' : List (Nat × A)} {bx bx' : List (Nat × List A)} {lv : List Nat} {gen : Nat}
theorem rm [hnb : NB C 0] (s : Nat) {g : Nat} {l : List D} (hl : look f s = some (.ptr g 0)) (hb : ak bx g = some (l.map .d)) (hsn : Nat.blt s n = true) (hf : gR g [] f = f') (hbx : gC g [] bx = some bx')
    (h : W P C n c Q ⟨(s, .rowd l) :: f', bx', lv, gen⟩) : W P C n c Q ⟨f, bx, lv, gen⟩ := by
  subst hf
  intro tmps w ⟨G, hs⟩
  obtain ⟨v, hv, hr⟩ := hs.frame _ _ hl
  obtain ⟨b, cs, T', hgb, hw, h3, h4, h5⟩ := hs.box _ _ hb
  cases hr with
  | ptr _ _ _ b' hgg hb' hx =>
  have hb' : G.box g = some b' := hb'
  rw [hgb] at hb'
  cases hb'
  let G' : Gh := ⟨fun x => if x = g then none else G.box x, G.own⟩
  have hpv : ∀ b' o, aN C G' b' o → aN C G b' o := by
    rintro b' o (hp | ⟨g', hp⟩ | hp)
    · exact .inl hp
    · simp only [G'] at hp
      split at hp
      · cases hp
      · exact .inr (.inl ⟨g', hp⟩)
    · exact .inr (.inr hp)
  have hnot : ∀ o, ¬ aN C G' b o := by
    rintro o (hp | ⟨g', hp⟩ | ⟨g', len, cap, sz, pub, hp, _⟩ | ⟨g', b2, bs, lim, hp, hm, _⟩)
    rotate_right
    · exact (hs.sub g' b2 bs b lim hp hm).2.1 g hgb
    · have := hs.xold b o hp
      rcases (hs.gbox g b hgb).2.2.1 with hm | hm
      · omega
      · exact this.2 hm
    · simp only [G'] at hp
      split at hp
      · cases hp
      · rename_i e; exact e (hs.inj g' g b hp hgb)
    · exact (hs.row g' b len cap sz pub hp).2.1 g hgb
  have hrep : ∀ {v : Value} {a : A}, aA (ao C G gen w) v a → dR g a = true → aA (ao C G' gen w) v a := fun h ha =>
    aA.forget (E := ao C G gen w) (E' := ao C G' gen w) rfl (fun b o u hu hn => ⟨hu, fun hp => hn (hpv b o hp)⟩) (fun b h => h) (fun g' b hne hb => by show (if g' = g then none else G.box g') = some b; rw [if_neg hne]; exact hb) rfl rfl h ha
  have hs' : ar C n ⟨gR g [] f, bx', lv, gen⟩ G' tmps w := by
    refine { size := hs.size, frame := ?_, box := ?_, gbox := ?_, inj := ?_, live := hs.live, gown := hs.gown, row := ?_, mrow := ?_, sub := ?_, gcell := fun g' b2 hb2 => (by simp only [G'] at hb2; split at hb2 <;> first | (cases hb2; done) | exact hs.gcell g' b2 hb2), xold := hs.xold, kold := hs.kold, lent := ?_, fr := hs.fr }
    · intro t a ha
      obtain ⟨h1, h2, _⟩ := fF ha
      obtain ⟨v, hv, hr⟩ := hs.frame t a h1
      exact ⟨v, hv, hrep hr h2⟩
    · intro g' cells hc
      obtain ⟨h1, h2, h6, _⟩ := fw hbx hc
      obtain ⟨b2, cs2, T2, p1, p2, p3, p4, p5⟩ := hs.box g' cells h1
      exact ⟨b2, cs2, T2, by simp only [G']; rw [if_neg h6]; exact p1, p2, p3, p4, fun i u a hu ha => hrep (p5 i u a hu ha) (cL h2 a (List.mem_of_getElem? ha))⟩
    · intro g' b2 hb2
      simp only [G'] at hb2
      split at hb2
      · cases hb2
      · exact hs.gbox g' b2 hb2
    · intro g1 g2 b2 h1 h2
      simp only [G'] at h1 h2
      split at h1
      · cases h1
      · split at h2
        · cases h2
        · exact hs.inj g1 g2 b2 h1 h2
    · intro g' b2 len cap sz pub hr
      obtain ⟨p1, p2, p3⟩ := hs.row g' b2 len cap sz pub hr
      refine ⟨p1, fun g2 h2 => ?_, p3⟩
      simp only [G'] at h2
      split at h2
      · cases h2
      · exact p2 g2 h2
    · intro g' b2 bs hr
      obtain ⟨p1, p2, p3⟩ := hs.mrow g' b2 bs hr
      refine ⟨p1, fun g2 h2 => ?_, p3⟩
      simp only [G'] at h2
      split at h2
      · cases h2
      · exact p2 g2 h2
    · intro g' b2 bs c lim hr hm
      obtain ⟨p1, p2, p3⟩ := hs.sub g' b2 bs c lim hr hm
      refine ⟨p1, fun g2 h2 => ?_, p3⟩
      simp only [G'] at h2
      split at h2
      · cases h2
      · exact p2 g2 h2
    · intro i b2 hb2
      have := hnb.h
      have hi := (List.getElem?_eq_some_iff.1 hb2).1
      omega
  have hdata : aA (ao C G' gen w) v (.rowd l) := by
    rw [hx]
    refine .rowd b 0 l (fun j => cs[j]?.getD default) (fun j hj => ?_) (fun j x hx => ?_)
    · have hj' : j < cs.size := by rw [h3]; simpa using hj
      have e1 : cs[j]? = some cs[j] := by simp [hj']
      refine ⟨?_, hnot _⟩
      show cellAt w b (0 + j) = _
      rw [Nat.zero_add, bj hw, e1]; rfl
    · have hj' : j < cs.size := by rw [h3]; simpa using (List.getElem?_eq_some_iff.1 hx).1
      have e1 : cs[j]? = some cs[j] := by simp [hj']
      have := hrep (h5 j _ (.d x) e1 (by simp [hx])) rfl
      rw [e1]
      show aF w _ cs[j] x
      generalize cs[j] = u at this
      cases this with | d hd => exact hd
  refine h tmps w ⟨G', ?_⟩
  have := hs'.set (d := s) (Nat.le_of_ble_eq_true hsn) hdata
  rwa [dC hv] at this
end
end Go.Ab
namespace Go.Ab
theorem b9.eD {P : Program} [Met P] {f : FuncId} {args args' : List A} {b0 b1 : List (List A)} {r : A} {m k : Nat} (h : b9 P f args' b0 m r b1 k) (ha : args.map Ab.eD = args') : b9 P f args b0 m r b1 k := by
  subst ha
  exact ⟨h.ok, h.len, fun C G vals w hG hw hx hds hfp hs hsz hrep => h.calls C G vals w hG hw hx hds hfp hs (by simpa using hsz) (fun i u a hu ha => by
    rw [List.getElem?_map, Option.map_eq_some_iff] at ha
    obtain ⟨y, hy, rfl⟩ := ha
    exact (hrep i u y hu hy).eD)⟩
end Go.Ab
namespace Go.Ab
open Go.RowKit Go.MapKept
theorem aA.xq {E E' : En} {g : Nat} (hw : E.w = E'.w) (hc : ∀ b o u, cellAt E.w b o = some u → ¬ E.pv b o → cellAt E'.w b o = some u ∧ ¬ E'.pv b o) (hold : ∀ b, E.old b → E'.old b) (hb : ∀ g' b, g' ≠ g → E.box g' = some b → E'.box g' = some b) (ho : ∀ g' r, g' < E.gen → E'.own g' = some r → E.own g' = some r) (hg : E.gen ≤ E'.gen)
    {v : Value} {a : A} (h : aA E v a) (ha : dR g a = true) : aA E' v a := by
  have hne : ∀ {g'}, (!Nat.beq g' g) = true → g' ≠ g := fun h e => by subst e; simp at h
  have hc' : ∀ b o u, cellAt E.w b o = some u → ¬ E.pv b o → cellAt E.w b o = some u ∧ ¬ E'.pv b o := fun b o u h1 h2 => ⟨h1, (hc b o u h1 h2).2⟩
  induction h with
  | any x => exact .any x
  | d hd => exact .d (hd.mono hc)
  | ag vs l hs hd => exact .ag vs l hs (fun i u x h1 h2 => (hd i u x h1 h2).mono hc)
  | own x g' es hd hgg hr => exact .own x g' es (hd.mono hc) (Nat.lt_of_lt_of_le hgg hg) (fun r hr' => hr r (ho _ r hgg hr'))
  | agg vs l hs hone _ ih => exact .agg vs l hs hone (fun i u x hu hx => ih i u x hu hx (cL (by simpa [dR] using ha) x (List.mem_of_getElem? hx)))
  | tup vs l hs _ ih => exact .tup vs l hs (fun i u x hu hx => ih i u x hu hx (cL (by simpa [dR] using ha) x (List.mem_of_getElem? hx)))
  | rowd b off l u hcc hd => exact .rowd b off l u (fun j hj => hc _ _ _ (hcc j hj).1 (hcc j hj).2) (fun j x hx => (hd j x hx).mono hc)
  | row b off l u hcc _ ih => exact .row b off l u (fun j hj => ⟨by rw [← hw]; exact (hcc j hj).1, hold _ (hcc j hj).2.1, (hcc j hj).2.2⟩) (fun j x hx => ih j x hx (cL (by simpa [dR] using ha) x (List.mem_of_getElem? hx)))
  | ptr x g' off b hgg hb0 hp => exact .ptr x g' off b (Nat.lt_of_lt_of_le hgg hg) (hb g' b (hne (by simpa [dR] using ha)) hb0) hp
  | xs x g' es hgg h1 hx => exact .xs x g' es (Nat.lt_of_lt_of_le hgg hg) h1 (fun r hr' => hw ▸ (hx r (ho _ r hgg hr')).bZ hc')
  | xp x g' i off l hgg h1 hx => exact .xp x g' i off l (Nat.lt_of_lt_of_le hgg hg) h1 (fun r hr' => hw ▸ (hx r (ho _ r hgg hr')).bZ hc')
  | mp x g' es hgg h1 hx => exact .mp x g' es (Nat.lt_of_lt_of_le hgg hg) h1 (fun r hr' => hw ▸ (hx r (ho _ r hgg hr')).bZ hc')
  | mq x g' es hgg h1 hx => exact .mq x g' es (Nat.lt_of_lt_of_le hgg hg) h1 (fun r hr' => hw ▸ (hx r (ho _ r hgg hr')).bZ hc')
  | mo x g' es hole ob hgg h1 hx => exact .mo x g' es hole ob (Nat.lt_of_lt_of_le hgg hg) h1 (fun r hr' => hw ▸ (hx r (ho _ r hgg hr')).bZ hc')
  | ni t x => exact .ni t x
  | fl x es hd hfl => exact .fl x es (hd.mono hc) hfl
  | bf x g' T s hgg h1 hx => exact .bf x g' T s (Nat.lt_of_lt_of_le hgg hg) h1 (fun r hr' => hw ▸ hx r (ho _ r hgg hr'))
  | np x g' T b hgg hb0 hT u hp => exact .np x g' T b (Nat.lt_of_lt_of_le hgg hg) (hb g' b (hne (by simpa [dR] using ha)) hb0) (hw ▸ hT) u hp
  | sb x g' n c b hgg hb0 hn hp => exact .sb x g' n c b (Nat.lt_of_lt_of_le hgg hg) (hb g' b (hne (by simpa [dR] using ha)) hb0) hn hp
  | fx x u g' es ou hx hgg hu hou => exact .fx x u g' es ou (hx.mono hc) (Nat.lt_of_lt_of_le hgg hg) (fun r hr' => hw ▸ (hu r (ho _ r hgg hr')).bZ hc') hou
  | ol x u g1 E1 g' es hx hg1 hr1 hgg hu => exact .ol x u g1 E1 g' es (hx.mono hc) (Nat.lt_of_lt_of_le hg1 hg) (fun r hr' => hr1 r (ho _ r hg1 hr')) (Nat.lt_of_lt_of_le hgg hg) (fun r hr' => hw ▸ (hu r (ho _ r hgg hr')).bZ hc')
  | ow x v g' es hd hgg hr => exact .ow x v g' es (hd.mono hc) (Nat.lt_of_lt_of_le hgg hg) (fun r hr' => hr r (ho _ r hgg hr'))
  | lk x g' n c b v hgg hb0 hn hp => exact .lk x g' n c b v (Nat.lt_of_lt_of_le hgg hg) (hb g' b (hne (by simpa [dR] using ha)) hb0) hn hp
  | clo f vs l hs _ ih => exact .clo f vs l hs (fun i u x hu hx => ih i u x hu hx (cL (by simpa [dR] using ha) x (List.mem_of_getElem? hx)))
  | bnd f vs l hs _ ih => exact .bnd f vs l hs (fun i u x hu hx => ih i u x hu hx (cL (by simpa [dR] using ha) x (List.mem_of_getElem? hx)))
section
variable {C : Ctx} {n : Nat} {G : Gh} {tmps : Array Value} {w : World}
variable {f : List (Nat × A)} {bx bx' : List (Nat × List A)} {lv : List Nat} {gen : Nat}
theorem ar.xL (hs : ar C n ⟨f, bx, lv, gen⟩ G tmps w) (hnb : C.bx = []) {g b : Nat} {l : List D} (hgb : G.box g = some b) (hb : ak bx g = some (l.map .d)) (hpos : 0 < l.length) (hbx : gC g [] bx = some bx') :
    ∃ G' cs T, w.heap[b]? = some (.cells cs T (0, 0)) ∧ cs.size = l.length ∧ dB cs ∧ (∀ (j : Nat) (u : Value) (d : D), cs[j]? = some u → l[j]? = some d → aF w (aN C G') u d) ∧ G'.own gen = some (.blk b 1 1 l.length 0) ∧ (∀ g', g' ≠ gen → G'.own g' = G.own g') ∧
      (∀ b' o, aN C G' b' o → aN C G b' o) ∧ ar C n ⟨gR g [] f, bx', gen :: lv, gen + 1⟩ G' tmps w := by
  obtain ⟨b0, cs, T', hgb0, hw, h3, h4, h5⟩ := hs.box _ _ hb
  rw [hgb] at hgb0
  cases hgb0
  simp only [List.length_map] at h3
  let own' : Nat → Option Row := fun g' => if g' = gen then some (.blk b 1 1 l.length 0) else G.own g'
  let G' : Gh := ⟨fun x => if x = g then none else G.box x, own'⟩
  have ublk : ∀ {g' c len cap sz pub}, own' g' = some (.blk c len cap sz pub) → (g' = gen ∧ c = b ∧ len = 1 ∧ cap = 1 ∧ sz = l.length ∧ pub = 0) ∨ (g' ≠ gen ∧ G.own g' = some (.blk c len cap sz pub)) := by
    intro g' c len cap sz pub hr
    simp only [own'] at hr
    split at hr
    · rename_i e
      simp only [Option.some.injEq, Row.blk.injEq] at hr
      exact .inl ⟨e, hr.1.symm, hr.2.1.symm, hr.2.2.1.symm, hr.2.2.2.1.symm, hr.2.2.2.2.symm⟩
    · rename_i e; exact .inr ⟨e, hr⟩
  have ump : ∀ {g' b2 bs2}, own' g' = some (.mp b2 bs2) → G.own g' = some (.mp b2 bs2) := by
    intro g' b2 bs2 hr
    simp only [own'] at hr
    split at hr
    · cases hr
    · exact hr
  have hpv : ∀ b' o, aN C G' b' o → aN C G b' o := by
    rintro b' o (hp | ⟨g', hp⟩ | ⟨g', len', cap', sz', pub', hp, hl'⟩ | ⟨g', b2, bs2, lim, hp, hm, hl'⟩)
    · exact .inl hp
    · simp only [G'] at hp
      split at hp
      · cases hp
      · exact .inr (.inl ⟨g', hp⟩)
    · rcases ublk hp with ⟨_, rfl, _⟩ | ⟨_, e⟩
      · exact .inr (.inl ⟨g, hgb⟩)
      · exact .inr (.inr (.inl ⟨g', len', cap', sz', pub', e, hl'⟩))
    · exact .inr (.inr (.inr ⟨g', b2, bs2, lim, ump hp, hm, hl'⟩))
  have hrep : ∀ {v : Value} {a : A}, aA (ao C G gen w) v a → dR g a = true → aA (ao C G' (gen + 1) w) v a := fun h ha =>
    aA.xq (E := ao C G gen w) (E' := ao C G' (gen + 1) w) rfl (fun b o u hu hn => ⟨hu, fun hp => hn (hpv b o hp)⟩) (fun b h => h) (fun g' b hne hb => by show (if g' = g then none else G.box g') = some b; rw [if_neg hne]; exact hb)
      (fun g' r hg' hr => by
        have hr : own' g' = some r := hr
        have hg' : g' < gen := hg'
        simp only [own', if_neg (Nat.ne_of_lt hg')] at hr
        exact hr) (Nat.le_succ gen) h ha
  refine ⟨G', cs, T', hw, h3, h4, fun j u d hu hd => ?_, by simp [G', own'], fun g' hg' => by simp [G', own', hg'], hpv, ?_⟩
  · have := hrep (h5 j u (.d d) hu (by simp [hd])) rfl
    cases this with | d hd => exact hd
  · refine { size := hs.size, frame := ?_, box := ?_, gbox := ?_, inj := ?_, live := ?_, gown := ?_, row := ?_, mrow := ?_, sub := ?_, gcell := fun g' b2 hb2 => (by simp only [G'] at hb2; split at hb2 <;> first | (cases hb2; done) | exact hs.gcell g' b2 hb2), xold := hs.xold, kold := hs.kold, lent := ?_, fr := hs.fr }
    · intro t a ha
      obtain ⟨h1, h2, _⟩ := fF ha
      obtain ⟨v, hv, hr⟩ := hs.frame t a h1
      exact ⟨v, hv, hrep hr h2⟩
    · intro g' cells hc
      obtain ⟨h1, h2, h6, _⟩ := fw hbx hc
      obtain ⟨b2, cs2, T2, p1, p2, p3, p4, p5⟩ := hs.box g' cells h1
      exact ⟨b2, cs2, T2, by simp only [G']; rw [if_neg h6]; exact p1, p2, p3, p4, fun i u a hu ha => hrep (p5 i u a hu ha) (cL h2 a (List.mem_of_getElem? ha))⟩
    · intro g' b2 hb2
      simp only [G'] at hb2
      split at hb2
      · cases hb2
      · obtain ⟨q1, q2⟩ := hs.gbox g' b2 hb2
        exact ⟨Nat.lt_succ_of_lt q1, q2⟩
    · intro g1 g2 b2 h1 h2
      simp only [G'] at h1 h2
      split at h1
      · cases h1
      · split at h2
        · cases h2
        · exact hs.inj g1 g2 b2 h1 h2
    · intro g' hg'
      rcases List.mem_cons.1 hg' with rfl | hg'
      · exact ⟨_, by simp [G', own']; rfl⟩
      · obtain ⟨r, hr⟩ := hs.live g' hg'
        exact ⟨r, by simp only [G', own', if_neg (Nat.ne_of_lt (hs.gown g' r hr))]; exact hr⟩
    · intro g' r hr
      have hr : own' g' = some r := hr
      simp only [own'] at hr
      split at hr
      · simp only; omega
      · exact Nat.lt_succ_of_lt (hs.gown g' r hr)
    · intro g' b2 len cap sz pub hr
      rcases ublk hr with ⟨e, rfl, rfl, rfl, rfl, rfl⟩ | ⟨e, hr⟩
      · refine ⟨(hs.gbox g _ hgb).2.2, fun g2 h2 => ?_, fun g2 len2 cap2 sz2 pub2 h2 => ?_, cs, T', hw, by rw [h3]; simp, Nat.le_refl _, by simp [maxLen], hpos, by decide, Nat.zero_le _, h4⟩
        · simp only [G'] at h2
          split at h2
          · cases h2
          · rename_i e2; exact e2 (hs.inj _ _ _ h2 hgb)
        · rcases ublk h2 with ⟨e2, _⟩ | ⟨_, e2⟩
          · rw [e, e2]
          · exact absurd hgb ((hs.row _ _ _ _ _ _ e2).2.1 g)
      · obtain ⟨p1, p2, p3, p4⟩ := hs.row g' b2 len cap sz pub hr
        refine ⟨p1, fun g2 h2 => ?_, fun g2 len2 cap2 sz2 pub2 h2 => ?_, p4⟩
        · simp only [G'] at h2
          split at h2
          · cases h2
          · exact p2 g2 h2
        · rcases ublk h2 with ⟨_, rfl, _⟩ | ⟨_, e2⟩
          · exact absurd hgb (p2 g)
          · exact p3 _ _ _ _ _ e2
    · intro g' b2 bs hr
      obtain ⟨p1, p2, p3, p4⟩ := hs.mrow g' b2 bs (ump hr)
      refine ⟨p1, fun g2 h2 => ?_, fun g2 bs2 h2 => p3 g2 bs2 (ump h2), p4⟩
      simp only [G'] at h2
      split at h2
      · cases h2
      · exact p2 g2 h2
    · intro g' b2 bs c lim hr hm
      obtain ⟨p1, p2, p3, p4, p5⟩ := hs.sub g' b2 bs c lim (ump hr) hm
      refine ⟨p1, fun g2 h2 => ?_, fun g2 len cap sz pub h2 => ?_, fun g2 b3 bs3 lim2 h2 hm2 => p4 g2 b3 bs3 lim2 (ump h2) hm2, p5⟩
      · simp only [G'] at h2
        split at h2
        · cases h2
        · exact p2 g2 h2
      · rcases ublk h2 with ⟨_, rfl, _⟩ | ⟨_, e2⟩
        · exact p2 g hgb
        · exact p3 _ _ _ _ _ e2
    · intro i b2 hb2
      rw [hnb] at hb2
      simp at hb2
end
end Go.Ab
namespace Go.Ab
open Go.RowKit Go.MapKept
def e7 {α : Type} (kf : α → Value) (l : List (α × Option (List D))) : List (Value × Option (List D)) := l.map fun p => (kf p.1, p.2)
theorem tA {α : Type} {kf : α → Value} {l : List (α × Option (List D))} {i : Nat} {k : Value} {o : Option (List D)} (h : (e7 kf l)[i]? = some (k, o)) : ∃ a, l[i]? = some (a, o) ∧ k = kf a := by
  simp only [e7, List.getElem?_map, Option.map_eq_some_iff] at h
  obtain ⟨p, hp, e⟩ := h
  simp only [Prod.mk.injEq] at e
  exact ⟨p.1, by rw [← e.2]; exact hp, e.1.symm⟩
theorem ri {α : Type} {kf : α → Value} {l : List (α × Option (List D))} {k : Value} {o : Option (List D)} (h : (k, o) ∈ e7 kf l) : ∃ a, (a, o) ∈ l ∧ k = kf a := by
  obtain ⟨i, hi⟩ := List.mem_iff_getElem?.1 h
  obtain ⟨a, ha, e⟩ := tA hi
  exact ⟨a, List.mem_of_getElem? ha, e⟩
structure kP {α : Type} (w : World) (pv : Nat → Nat → Prop) (b : Nat) (bs : List (Nat × Nat)) (kf : α → Value) (l : List (α × Option (List D))) (me : Array MapEntry) (clock : Nat) (ps : Value → Nat) (l2 : List (α × Value)) : Prop where
  hb : w.heap[b]? = some (.map me clock)
  st : Stamped me clock
  mi : et w pv kf D.v me l2
  ln : l2.length = l.length
  ks : ∀ (i : Nat) (p : α × Value) (q : α × Option (List D)), l2[i]? = some p → l[i]? = some q → p.1 = q.1
  inj : ∀ (a a' : α) (x x' : List D), (a, some x) ∈ l → (a', some x') ∈ l → ps (kf a) = ps (kf a') → kf a = kf a'
  at_ : ∀ (i : Nat) (m : MapEntry) (a : α) (x : List D), me[i]? = some m → l[i]? = some (a, some x) → m.val = .pointer (some ⟨ps (kf a), 0, none⟩) ∧ (ps (kf a), 0) ∈ bs ∧
    ∃ cur T, w.heap[ps (kf a)]? = some (.cells cur T (0, 0)) ∧ cur.size = x.length ∧ dB cur ∧ ∀ (j : Nat) (u : Value) (d : D), cur[j]? = some u → x[j]? = some d → aF w pv u d
theorem kP.of {α : Type} {kf : α → Value} {w : World} {pv : Nat → Nat → Prop} {b : Nat} {bs : List (Nat × Nat)} {v : Value} {l : List (α × Option (List D))} (h : j6 w pv (.mp b bs) v (e7 kf l)) : v = .map (some b) ∧ ∃ me clock ps l2, kP w pv b bs kf l me clock ps l2 := by
  obtain ⟨h1, me, clock, h2, h3, h4, ps, h5, h6⟩ := h
  have hsz : me.size = l.length := by rw [h4]; simp [e7]
  refine ⟨h1, me, clock, ps, (l.zip me.toList).map fun p => (p.1.1, p.2.val), h2, h3, ⟨by simp [hsz], fun i m p hm hp => ?_⟩, by simp [hsz], fun i p q hp hq => ?_, fun a a' x x' q1 q2 q3 => ?_, fun i m a x hm hx => ?_⟩
  · have hlt : i < l.length := by rw [← hsz]; exact (Array.getElem?_eq_some_iff.1 hm).1
    have hl : l[i]? = some l[i] := by simp [hlt]
    have hz : (l.zip me.toList)[i]? = some (l[i], m) := by rw [List.getElem?_zip_eq_some]; exact ⟨hl, by simpa using hm⟩
    rw [List.getElem?_map, hz] at hp
    simp only [Option.map_some, Option.some.injEq] at hp
    subst hp
    obtain ⟨q1, q2, q3, _⟩ := h6 i m (kf l[i].1) l[i].2 hm (by simp [e7, hl])
    exact ⟨q1, q2, .v _ q3⟩
  · rw [List.getElem?_map, Option.map_eq_some_iff] at hp
    obtain ⟨z, hz, rfl⟩ := hp
    rw [List.getElem?_zip_eq_some] at hz
    rw [hq] at hz
    exact congrArg Prod.fst (Option.some.inj hz.1).symm
  · exact h5 _ _ x x' (List.mem_map.2 ⟨_, q1, rfl⟩) (List.mem_map.2 ⟨_, q2, rfl⟩) q3
  · exact (h6 i m (kf a) (some x) hm (by simp [e7, hx])).2.2.2 x rfl
theorem kP.to {α : Type} {kf : α → Value} {w : World} {pv : Nat → Nat → Prop} {b : Nat} {bs : List (Nat × Nat)} {l : List (α × Option (List D))} {me : Array MapEntry} {clock : Nat} {ps : Value → Nat} {l2 : List (α × Value)} (h : kP w pv b bs kf l me clock ps l2) : j6 w pv (.mp b bs) (.map (some b)) (e7 kf l) := by
  refine ⟨rfl, me, clock, h.hb, h.st, by rw [h.mi.1, h.ln]; simp [e7], ps, fun k k' x x' q1 q2 q3 => ?_, fun i m k o hm hk => ?_⟩
  · obtain ⟨a, ha, rfl⟩ := ri q1
    obtain ⟨a', ha', rfl⟩ := ri q2
    exact h.inj a a' x x' ha ha' q3
  · obtain ⟨a, ha, rfl⟩ := tA hk
    have hlt : i < l2.length := by rw [h.ln]; exact (List.getElem?_eq_some_iff.1 ha).1
    have hl2 : l2[i]? = some l2[i] := by simp [hlt]
    obtain ⟨q1, q2, q3⟩ := h.mi.2 i m _ hm hl2
    have e := h.ks i _ _ hl2 ha
    rw [e] at q1 q2
    refine ⟨q1, q2, ?_, fun x hx => ?_⟩
    · generalize m.val = y at q3
      cases q3 with | v _ hok => exact hok
    · subst hx
      exact h.at_ i m a x hm ha
section
variable {P : Program} (T : bm P) {C : Ctx} {n : Nat} {ops : Array Oper} {Q : Exit → St → Prop} {rest : List Oper}
variable {f f' : List (Nat × A)} {bx bx' : List (Nat × List A)} {lv : List Nat} {gen : Nat} {d : Nat} {ty : TypeId} {pos : String} {af : Array Edge} {dst : Option Nat} {c : Code}
variable {α : Type} [DecidableEq α] {kf : α → Value}
omit [DecidableEq α] in
theorem ar.sg {st : St} {G : Gh} {tmps : Array Value} {w : World} (hs : ar C n st G tmps w) {v : Value} {g : Nat} {l : List (α × Option (List D))} (hr : aA (ao C G st.gen w) v (.mq g (e7 kf l))) (hgl : g ∈ st.lv) :
    ∃ b bs me clock ps l2, G.own g = some (.mp b bs) ∧ v = .map (some b) ∧ kP w (aN C G) b bs kf l me clock ps l2 := by
  obtain ⟨r, hgr⟩ := hs.live g hgl
  cases hr with
  | mq _ _ _ hgg h1 hrow =>
  have hx := hrow r hgr
  cases r with
  | nil => exact hx.elim
  | zero b => exact hx.elim
  | blk b len cap sz pub => exact hx.elim
  | mp b bs =>
    obtain ⟨h2, me, clock, ps, l2, h3⟩ := kP.of hx
    exact ⟨b, bs, me, clock, ps, l2, hgr, h2, h3⟩
theorem x7 {t : TypeId} (hd : Nat.blt d n = true) (h : WO P C n ops Q rest ⟨(d, .mq gen []) :: f, bx, gen :: lv, gen + 1⟩) : WO P C n ops Q (⟨some d, .makeMap t none, ty, pos, af, none⟩ :: rest) ⟨f, bx, lv, gen⟩ := by
  refine WO.step (st := ⟨f, bx, lv, gen⟩) rfl fun tmps w ⟨G, hs⟩ => ?_
  obtain ⟨G', hs', hr⟩ := hs.pc
  refine cd (v := .map (some w.heap.size)) (w' := w.alloc (.map #[] 0)) ?_ ⟨_, ⟨G', hs'.put (dst := some d) (bL (dst := some d) hd) ?_⟩, h⟩
  · unfold execOp
    show Sem.run P _ w = .ok _ _
    simp [Instr.makeMap, Sem.run_bind, Result.andThen]
  · cases hr with
    | mp _ _ _ hgg h1 hrow =>
    refine .mq _ _ _ hgg h1 (fun r hr => ?_)
    have hx := hrow r hr
    cases r with
    | nil => exact hx.elim
    | zero b => exact hx.elim
    | blk b len cap sz pub => exact hx.elim
    | mp b bs =>
      obtain ⟨q1, me, clock, q2, q3, q4, _⟩ := hx
      exact ⟨q1, me, clock, q2, q3, q4, fun _ => 0, fun _ _ _ _ h => (by cases h), fun i m k x hm hk => (by simp at hk)⟩
open Classical in
theorem xk [hnb : NB C 0] (s : Nat) {mt k e : Nat} {td : bo} {m kx x : Operand} {g gb : Nat} {l : List (α × Option (List D))} {a : α} {y : List D} (hm : av f m = some (.mq g (e7 kf l))) (hl : look f s = some (.mq g (e7 kf l))) (hk : av f kx = some (.d (.v (kf a)))) (hx : av f x = some (.ptr gb 0)) (hb : ak bx gb = some (y.map .d)) (hy : Nat.blt 0 y.length = true)
    (ht : ak T.l mt = some td) (htk : td.k = .map k e) (hkt : fI P k kf) (hgl : (lv.any fun h => Nat.beq h g) = true) (hsn : Nat.blt s n = true) (hn : (l.map (·.1)).Nodup) (hna : a ∉ l.map (·.1)) (hf : gR gb [] f = f') (hbx : gC gb [] bx = some bx')
    {es' : List (Value × Option (List D))} (hes : e7 kf (l ++ [(a, some y)]) = es') {lv' : List Nat} (hlv : (gen + 1) :: bg lv g = lv')
    (h : WO P C n ops Q rest ⟨(s, .mq (gen + 1) es') :: f', bx', lv', gen + 2⟩) : WO P C n ops Q (⟨none, .mapUpdate mt m kx x, ty, pos, af, none⟩ :: rest) ⟨f, bx, lv, gen⟩ := by
  subst hes; subst hlv; subst hf
  refine WO.step (st := ⟨f, bx, lv, gen⟩) rfl fun tmps w ⟨G, hs⟩ => ?_
  have hbl : C.bx = [] := List.eq_nil_of_length_eq_zero hnb.h
  have hrm := hs.av hm
  have hrk := hs.av hk
  have hrx := hs.av hx
  obtain ⟨vs, hvs, hrs⟩ := hs.frame s _ hl
  generalize hv : Act.eval ⟨tmps, []⟩ m = v at hrm
  generalize hvk : Act.eval ⟨tmps, []⟩ kx = vk at hrk
  generalize hvx : Act.eval ⟨tmps, []⟩ x = vx at hrx
  obtain ⟨b, bs, me, clock, ps, l2, hgb, rfl, hmq⟩ := hs.sg hrm (cC hgl)
  obtain ⟨b2, bs2, _, _, _, _, hgb2, rfl, _⟩ := hs.sg hrs (cC hgl)
  obtain ⟨rfl, rfl⟩ : b2 = b ∧ bs2 = bs := by have := hgb2.symm.trans hgb; simpa using this
  cases hrk with | d hrk => cases hrk with | v _ hok =>
  cases hrx with
  | ptr _ _ _ c hgg hgc hvc =>
  have hgc : G.box gb = some c := hgc
  have hkeys : l2.map (·.1) = l.map (·.1) := by
    refine List.ext_getElem? fun i => ?_
    rw [List.getElem?_map, List.getElem?_map]
    rcases Nat.lt_or_ge i l2.length with hi | hi
    · have h1 : l2[i]? = some l2[i] := by simp [hi]
      have hi' : i < l.length := by rw [← hmq.ln]; exact hi
      have h2 : l[i]? = some l[i] := by simp [hi']
      rw [h1, h2]
      simp only [Option.map_some, hmq.ks i _ _ h1 h2]
    · rw [List.getElem?_eq_none hi, List.getElem?_eq_none (by rw [← hmq.ln]; exact hi)]
      rfl
  have hnew2 : ∀ p ∈ l2, p.1 ≠ a := fun p hp e => hna (by rw [← hkeys, ← e]; exact List.mem_map.2 ⟨p, hp, rfl⟩)
  obtain ⟨me', clock', hrun, hst', hmi', hwh⟩ := lH (P := P) T (y := vx) (vf := D.v) ht htk hkt hmq.hb hmq.st hmq.mi (by rw [hkeys]; exact hn) a hok (v := vx) (.v _ (by rw [hvc]; rfl))
  have h0 : (execOp (Act.eval ⟨tmps, []⟩) ⟨none, .mapUpdate mt m kx x, ty, pos, af, none⟩).run P w = .ok .skip { w with heap := w.heap.setIfInBounds b2 (.map me' clock') } := by
    unfold execOp
    show Sem.run P _ w = .ok _ _
    simp only [hv, hvk, hvx, Sem.run_bind, hrun, Result.andThen_ok, Sem.run_pure]
  rw [ga hnew2] at hmi' hwh
  have hgl2 := hs.gown g _ hgb
  obtain ⟨G1, cs, T1, c1, c2, c3, c4, c5, c6, c7, hs1⟩ := hs.xL hbl hgc hb (Nat.le_of_ble_eq_true hy) hbx
  have hgb1 : G1.own g = some (.mp b2 bs2) := by rw [c6 g (Nat.ne_of_lt hgl2)]; exact hgb
  obtain ⟨G', hGb, ho1, hle, hs'⟩ := hs1.join (g := g) (g2 := gen) (bs' := (c, 0) :: bs2) hgb1 c5 (Ne.symm (Nat.ne_of_lt hgl2)) (fun p hp => by
    rcases List.mem_cons.1 hp with rfl | hp
    · exact .inr ⟨_, _, _, rfl⟩
    · exact .inl hp) me' clock' (bg lv g) (fun g' hg' => by
    obtain ⟨t1, t2⟩ := bR hg'
    obtain ⟨r, hr⟩ := hs.live g' t1
    have := hs.gown g' r hr
    exact ⟨List.mem_cons_of_mem _ t1, t2, by simp only at this; omega⟩)
  obtain ⟨hnew, hoth⟩ := heap_set (o' := Obj.map me' clock') hmq.hb
  have hcells : ∀ {c : Nat} {cs : Array Value} {T : TypeId} {ff : Nat × Nat}, w.heap[c]? = some (.cells cs T ff) → (w.heap.setIfInBounds b2 (.map me' clock'))[c]? = some (.cells cs T ff) := fun {c cs T ff} hc => by
    rw [hoth c (fun e => by rw [e, hmq.hb] at hc; cases hc)]; exact hc
  have hle1 : ∀ {v : Value} {d : D}, aF w (aN C G1) v d → aF { w with heap := w.heap.setIfInBounds b2 (.map me' clock') } (aN C G') v d := fun hd => hd.mono fun b o u hu hp => hle.cell b o u hu hp
  have hle0 : ∀ {v : Value} {d : D}, aF w (aN C G) v d → aF { w with heap := w.heap.setIfInBounds b2 (.map me' clock') } (aN C G') v d := fun hd => hle1 (hd.mono fun b o u hu hp => ⟨hu, fun hp' => hp (c7 b o hp')⟩)
  have hnotc : ∀ lim, (c, lim) ∉ bs2 := fun lim hm => (hs.sub g b2 bs2 c lim hgb hm).2.1 gb hgc
  have hcl : ∀ (a' : α) (x' : List D), (a', some x') ∈ l → (ps (kf a'), 0) ∈ bs2 := fun a' x' hm => by
    obtain ⟨i, hi⟩ := List.mem_iff_getElem?.1 hm
    have hil : i < me.size := by rw [hmq.mi.1, hmq.ln]; exact (List.getElem?_eq_some_iff.1 hi).1
    exact (hmq.at_ i me[i] a' x' (by simp [hil]) hi).2.1
  have hne : ∀ (a' : α) (o : Option (List D)), (a', o) ∈ l → kf a' ≠ kf a := fun a' o hm e => hna (by rw [← hkt.inj _ _ e]; exact List.mem_map.2 ⟨_, hm, rfl⟩)
  have hmq' : kP { w with heap := w.heap.setIfInBounds b2 (.map me' clock') } (aN C G') b2 ((c, 0) :: bs2) kf (l ++ [(a, some y)]) me' clock' (fun k => if k = kf a then c else ps k) (l2 ++ [(a, vx)]) := by
    refine ⟨hnew, hst', ⟨hmi'.1, fun i m p hm hp => ?_⟩, by simp [hmq.ln], fun i p q hp hq => ?_, fun a1 a2 x1 x2 q1 q2 q3 => ?_, fun i mm a1 x1 hmm hp => ?_⟩
    · obtain ⟨q1, q2, q3⟩ := hmi'.2 i m p hm hp
      exact ⟨q1, q2, hle0 q3⟩
    · rcases Nat.lt_or_ge i l2.length with hi | hi
      · rw [List.getElem?_append_left hi] at hp
        rw [List.getElem?_append_left (by rw [← hmq.ln]; exact hi)] at hq
        exact hmq.ks i p q hp hq
      · rw [List.getElem?_append_right hi] at hp
        rw [List.getElem?_append_right (by rw [← hmq.ln]; exact hi), ← hmq.ln] at hq
        generalize i - l2.length = j at hp hq
        cases j with
        | zero =>
          simp only [List.getElem?_cons_zero, Option.some.injEq] at hp hq
          subst hp; subst hq; rfl
        | succ j => simp at hp
    · rcases List.mem_append.1 q1 with q1 | q1 <;> rcases List.mem_append.1 q2 with q2 | q2
      · rw [if_neg (hne _ _ q1), if_neg (hne _ _ q2)] at q3
        exact hmq.inj a1 a2 x1 x2 q1 q2 q3
      · simp only [List.mem_singleton, Prod.mk.injEq] at q2
        rw [if_neg (hne _ _ q1), q2.1, if_pos rfl] at q3
        exact absurd (q3 ▸ hcl a1 x1 q1) (hnotc 0)
      · simp only [List.mem_singleton, Prod.mk.injEq] at q1
        rw [if_neg (hne _ _ q2), q1.1, if_pos rfl] at q3
        exact absurd (q3 ▸ hcl a2 x2 q2) (hnotc 0)
      · simp only [List.mem_singleton, Prod.mk.injEq] at q1 q2
        rw [q1.1, q2.1]
    · rcases Nat.lt_or_ge i l.length with hi | hi
      · rw [List.getElem?_append_left hi] at hp
        have hi2 : i < l2.length := by rw [hmq.ln]; exact hi
        have hl2 : (l2 ++ [(a, vx)])[i]? = some l2[i] := by rw [List.getElem?_append_left hi2]; simp [hi2]
        have hk1 := hmq.ks i _ _ (by simp [hi2] : l2[i]? = some l2[i]) hp
        rcases hwh i mm _ hmm hl2 with ⟨e, _⟩ | ⟨_, m0, e1, e2, e3⟩
        · have hk2 : a1 = a := by rw [e] at hk1; exact hk1.symm
          exact absurd (List.mem_map.2 ⟨_, List.mem_of_getElem? hp, hk2⟩) hna
        · obtain ⟨r1, r2, cur, T2, r3, r4, r5, r6⟩ := hmq.at_ i m0 a1 x1 e1 hp
          rw [if_neg (hne _ _ (List.mem_of_getElem? hp))]
          exact ⟨e3 ▸ r1, List.mem_cons_of_mem _ r2, cur, T2, hcells r3, r4, r5, fun j u d hu hd => hle0 (r6 j u d hu hd)⟩
      · rw [List.getElem?_append_right hi] at hp
        have hi2 : l2.length ≤ i := by rw [hmq.ln]; exact hi
        have hii : i < (l2 ++ [(a, vx)]).length := by rw [← hmi'.1]; exact (Array.getElem?_eq_some_iff.1 hmm).1
        have e0 : i = l.length := by rw [List.length_append, hmq.ln] at hii; simp at hii; omega
        subst e0
        simp only [Nat.sub_self, List.getElem?_cons_zero, Option.some.injEq, Prod.mk.injEq] at hp
        obtain ⟨rfl, rfl⟩ := hp
        have hl2 : (l2 ++ [(a, vx)])[l.length]? = some (a, vx) := by rw [List.getElem?_append_right hi2, hmq.ln]; simp
        rw [if_pos rfl]
        refine ⟨?_, List.mem_cons_self, cs, T1, hcells c1, c2, c3, fun j u d hu hd => hle1 (c4 j u d hu hd)⟩
        rcases hwh _ mm _ hmm hl2 with ⟨_, e2⟩ | ⟨e, _⟩
        · rw [e2, hvc]
        · exact absurd rfl e
  refine fN h0 ⟨_, ⟨G', ?_⟩, h⟩
  have := hs'.set (d := s) (Nat.le_of_ble_eq_true hsn) (v := .map (some b2)) (a := .mq (gen + 1) (e7 kf (l ++ [(a, some y)]))) (.mq _ _ _ (by simp [ao]) rfl (fun r hr => by
    have : G'.own (gen + 1) = some r := hr
    rw [ho1] at this
    cases this
    exact hmq'.to))
  rwa [dC hvs] at this
end
end Go.Ab
