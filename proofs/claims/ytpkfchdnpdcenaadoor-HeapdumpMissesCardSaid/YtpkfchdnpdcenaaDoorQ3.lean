import Derived.Test.YtpkfchdnpdcenaaDoorQ2
import Derived.Laws.Slices
/- Heaps as data: what is found, checked, printed and read. -/
namespace Go.Tb
open Go.Ab

structure Ob where
  id : Int
  size : Int
  type : ByteArray
  refs : List Int
structure Hp where
  objs : List Ob
  roots : List Int
@[reducible] def Ob.c (o : Ob) : List D := [ci o.id, ci o.size, cs o.type, .sl (o.refs.map ic)]
@[reducible] def Hp.c (h : Hp) : List D := [.sl (h.objs.map Ob.c), .sl (h.roots.map ic)]
def hp0 : Hp := ⟨[], []⟩
def findO (l : List Ob) (id : Int) : Option Nat := l.findIdx? fun o => decide (o.id = id)
def hasI (l : List Ob) (id : Int) : Bool := l.any fun o => decide (o.id = id)
theorem hasI_find (l : List Ob) (id : Int) : hasI l id = (findO l id).isSome := by
  unfold hasI findO
  rw [List.findIdx?_isSome]
def lastLe (p : Option Int) (n : Int) : Bool := match p with | some q => decide (n ≤ q) | none => false
/-- the error of ids that must exist and increase -/
def incErr (l : List Ob) : List Int → Option Int → Int
  | [], _ => 0
  | n :: r, p => if hasI l n = false then 5 else if lastLe p n = true then 11 else incErr l r (some n)
def objErr : List Ob → Option Int → Int
  | [], _ => 0
  | o :: r, p => if o.id < 0 ∨ 1000000000000000 < o.id ∨ o.size < 0 ∨ 1000000000000 < o.size then 2 else if nameErr o.type ≠ 0 then nameErr o.type else if lastLe p o.id = true then 11 else objErr r (some o.id)
def refsErr (l : List Ob) : List Ob → Int
  | [] => 0
  | o :: r => if incErr l o.refs none ≠ 0 then incErr l o.refs none else refsErr l r
def manyH (l : List Ob) : Nat := (l.map fun o => o.refs.length).sum
/-- the sum as the machine has it -/
def manyW (l : List Ob) : Int := l.foldl (fun n o => IntKind.i64.wrap (n + (o.refs.length : Int))) 0
theorem manyW_step {l : List Ob} {k : Nat} {o : Ob} (h : l[k]? = some o) : manyW (l.take (k + 1)) = IntKind.i64.wrap (manyW (l.take k) + (o.refs.length : Int)) := by
  unfold manyW
  rw [List.take_add_one, h, List.foldl_append]
  rfl
def checkH (h : Hp) : Int :=
  if 5000 < h.objs.length ∨ 20000 < manyW h.objs ∨ 5000 < h.roots.length then 7 else if objErr h.objs none ≠ 0 then objErr h.objs none else
    if refsErr h.objs h.objs ≠ 0 then refsErr h.objs h.objs else incErr h.objs h.roots none

/-- the ids' map behind the first objects -/
def idsH (l : List Ob) (k : Nat) : List (Int × Nat) := ((l.take k).zipIdx).foldl (fun m p => mput m p.1.id p.2) []
theorem idsH_step {l : List Ob} {k : Nat} {o : Ob} (h : l[k]? = some o) : idsH l (k + 1) = mput (idsH l k) o.id k := by
  have hlt := (List.getElem?_eq_some_iff.1 h).1
  have e : l.take (k + 1) = l.take k ++ [o] := by rw [List.take_add_one, h]; rfl
  unfold idsH
  rw [e, List.zipIdx_append, List.foldl_append]
  simp [Nat.min_eq_left (Nat.le_of_lt hlt)]
theorem idsH_nodup (l : List Ob) : ∀ k, k ≤ l.length → ((idsH l k).map (·.1)).Nodup
  | 0, _ => by simp [idsH]
  | k + 1, h => by
    have hk : l[k]? = some (l[k]'h) := by simp
    rw [idsH_step hk]
    exact mput_nodup (idsH_nodup l k (by omega)) _ _
theorem idsH_get (l : List Ob) (n : Int) : ∀ k, k ≤ l.length → (mget (idsH l k) n).isSome = hasI (l.take k) n
  | 0, _ => by simp [idsH, mget_nil, hasI]
  | k + 1, h => by
    have hk : l[k]? = some (l[k]'h) := by simp
    have e : l.take (k + 1) = l.take k ++ [l[k]'h] := by rw [List.take_add_one, hk]; rfl
    rw [idsH_step hk, mget_mput, e]
    have ih := idsH_get l n k (by omega)
    unfold hasI at ih ⊢
    rw [List.any_append, ← ih]
    by_cases q : (l[k]'h).id = n
    · simp [q]
    · simp [q]
theorem idsH_all (l : List Ob) (n : Int) : (mget (idsH l l.length) n).isSome = hasI l n := by
  rw [idsH_get l n _ (Nat.le_refl _), List.take_length]

/-- texts put together -/
def catB (l : List ByteArray) : ByteArray := l.foldl (· ++ ·) (B #[])
theorem catB_snoc (l : List ByteArray) (x : ByteArray) : catB (l ++ [x]) = catB l ++ x := by unfold catB; rw [List.foldl_append]; rfl
theorem catB_take {l : List ByteArray} {k : Nat} {x : ByteArray} (h : l[k]? = some x) : catB (l.take (k + 1)) = catB (l.take k) ++ x := by
  rw [List.take_add_one, h]; exact catB_snoc _ _
theorem bapp (a b c : ByteArray) : a ++ b ++ c = a ++ (b ++ c) := ByteArray.append_assoc
theorem bnil (a : ByteArray) : a ++ B #[] = a := data_inj (by simp)
theorem nilb (a : ByteArray) : B #[] ++ a = a := data_inj (by simp)
theorem catB_go : ∀ (l : List ByteArray) (a : ByteArray), l.foldl (· ++ ·) a = a ++ catB l
  | [], a => (bnil a).symm
  | x :: l, a => by
    unfold catB
    rw [List.foldl_cons, List.foldl_cons, catB_go l (a ++ x), catB_go l (B #[] ++ x), nilb, bapp]
theorem catB_cons (x : ByteArray) (l : List ByteArray) : catB (x :: l) = x ++ catB l := by
  have := catB_go l (B #[] ++ x)
  rw [nilb] at this
  exact (congrArg (fun z => l.foldl (· ++ ·) z) (nilb x)).trans this
abbrev kObj : ByteArray := B #[111, 98, 106]
abbrev kRoots : ByteArray := B #[114, 111, 111, 116, 115]
abbrev bSp : ByteArray := B #[32]
abbrev bNl : ByteArray := B #[10]
def headO (o : Ob) : List ByteArray := [kObj, numB o.id, numB o.size, o.type]
def lineB (ws : List ByteArray) (l : List Int) : ByteArray := joinB (ws ++ l.map numB) bSp ++ bNl
def lineO (o : Ob) : ByteArray := lineB (headO o) o.refs
def rootsB (l : List Int) : ByteArray := if l = [] then B #[] else lineB [kRoots] l
def bodyH (h : Hp) : ByteArray := catB (h.objs.map lineO) ++ rootsB h.roots
def printH (h : Hp) : ByteArray × Int := if checkH h ≠ 0 then (B #[], checkH h) else if 65536 < (bodyH h).size then (B #[], 7) else (bodyH h, 0)

def numsW : List ByteArray → Option (List Int)
  | [] => some []
  | w :: r => if (numP w).2 then (match numsW r with | some l => some ((numP w).1 :: l) | none => none) else none
def objW (ws : List ByteArray) : Option Ob :=
  if ws.length < 4 ∨ ws.getD 0 (B #[]) ≠ kObj ∨ ws.getD 3 (B #[]) = B #[] then none else
    match numsW ((ws.take 3).drop 1), numsW (ws.drop 4) with
    | some h, some r => some ⟨h.getD 0 0, h.getD 1 0, ws.getD 3 (B #[]), r⟩
    | _, _ => none
def rootsW (ws : List ByteArray) : Option (List Int) :=
  if ws.getD 0 (B #[]) ≠ kRoots ∨ ws.length < 2 then none else numsW (ws.drop 1)
def finH (h : Hp) : Hp × Int × Int := if checkH h ≠ 0 then (hp0, 0, checkH h) else (h, 0, 0)
def impL : List ByteArray → Nat → Hp → Hp × Int × Int
  | [], i, _ => (hp0, i, 10)
  | [l], i, h => if l = B #[] then finH h else (hp0, i, 10)
  | l :: m :: r, i, h => match objW (cutB l 32) with
    | some o => impL (m :: r) (i + 1) ⟨h.objs ++ [o], h.roots⟩
    | none => match (if r = [] ∧ m = B #[] then rootsW (cutB l 32) else none) with
      | some q => impL (m :: r) (i + 1) ⟨h.objs, q⟩
      | none => (hp0, i, 10)
def importH (s : ByteArray) : Hp × Int × Int := if 65536 < s.size then (hp0, 0, 7) else impL (cutB s 10) 1 hp0

theorem cutL_first (c : UInt8) : ∀ l, cutL c l = if (Lib.cut l [c]).2.2 then (Lib.cut l [c]).1 :: cutL c (Lib.cut l [c]).2.1 else [l]
  | [] => by
    have e : Lib.index [] [c] = -1 := by simp [Lib.index]
    simp [Lib.cut, e, cutL]
  | b :: r => by
    have ih := cutL_first c r
    by_cases h : b = c
    · subst h
      have e := index_cons_eq b r
      simp [Lib.cut, e, cutL]
    · have hi := index_cons_ne r h
      have hge := Lib.index_ge r [c]
      by_cases hm : Lib.index r [c] = -1
      · have e : Lib.index (b :: r) [c] = -1 := by rw [hi, hm]; rfl
        have e2 : cutL c r = [r] := by rw [ih]; simp [Lib.cut, hm]
        simp [Lib.cut, e, cutL, h, e2]
      · obtain ⟨j, hj⟩ : ∃ j : Nat, Lib.index r [c] = j := ⟨(Lib.index r [c]).toNat, by omega⟩
        have e : Lib.index (b :: r) [c] = ((j + 1 : Nat) : Int) := by rw [hi, hj, if_neg (by simp)]; try rfl
        have e1 : Lib.cut (b :: r) [c] = (b :: r.take j, r.drop (j + 1), true) := by unfold Lib.cut; rw [e, if_pos (by omega)]; simp
        have e2 : Lib.cut r [c] = (r.take j, r.drop (j + 1), true) := by unfold Lib.cut; rw [hj, if_pos (by omega)]; simp
        rw [e2] at ih
        rw [e1]
        simp only [cutL, if_neg h, ih, if_true, List.headD_cons, List.tail_cons]
/-- cut off the first line -/
theorem cutB_first (s : ByteArray) (c : UInt8) : cutB s c = if (Lib.cut s.data.toList [c]).2.2 then ofL (Lib.cut s.data.toList [c]).1 :: cutB (ofL (Lib.cut s.data.toList [c]).2.1) c else [s] := by
  unfold cutB
  rw [cutL_first c s.data.toList]
  split
  · simp [ofL_data]
  · simp [ofL_bys]
end Go.Tb
/- The reference's way to read an event. -/
namespace Go.Tb
open Go.Ab

end Go.Tb
/- A valid event's text is read back. -/
namespace Go.Tb
open Go.Ab

theorem joinB_sum (sep : ByteArray) : ∀ (l : List ByteArray), (joinB l sep).size ≤ (l.map ByteArray.size).sum + l.length * sep.size
  | [] => by simp [joinB, ofL_size, Lib.join_nil]
  | [x] => by
    have e : (joinB [x] sep).size = x.size := by
      rw [joinB, ofL_size, List.map_singleton, Lib.join_one]
      exact Array.length_toList
    rw [e]
    simp
  | x :: y :: r => by
    have ih := joinB_sum sep (y :: r)
    have e : (joinB (x :: y :: r) sep).size = x.size + sep.size + (joinB (y :: r) sep).size := by
      simp only [joinB, ofL_size, List.map_cons, join_two, List.length_append]
      have e1 : x.data.toList.length = x.size := Array.length_toList
      have e2 : sep.data.toList.length = sep.size := Array.length_toList
      omega
    rw [e]
    simp only [List.map_cons, List.sum_cons, List.length_cons, Nat.succ_mul] at ih ⊢
    omega
end Go.Tb
/- What a valid heap is, and how long its text is. -/
namespace Go.Tb
open Go.Ab

theorem incErr_mem {l : List Ob} : ∀ {r : List Int} {p : Option Int}, incErr l r p = 0 → ∀ n ∈ r, hasI l n = true
  | [], _, _, n, hn => by cases hn
  | m :: r, p, h, n, hn => by
    simp only [incErr] at h
    by_cases h1 : hasI l m = false
    · rw [if_pos h1] at h; omega
    · rw [if_neg h1] at h
      by_cases h2 : lastLe p m = true
      · rw [if_pos h2] at h; omega
      · rw [if_neg h2] at h
        rcases List.mem_cons.1 hn with rfl | hn
        · simpa using h1
        · exact incErr_mem h n hn
theorem refsErr_mem {l : List Ob} : ∀ {r : List Ob}, refsErr l r = 0 → ∀ o ∈ r, incErr l o.refs none = 0
  | [], _, o, ho => by cases ho
  | m :: r, h, o, ho => by
    simp only [refsErr] at h
    by_cases h1 : incErr l m.refs none ≠ 0
    · rw [if_pos h1] at h; exact absurd h h1
    · rw [if_neg h1] at h
      rcases List.mem_cons.1 ho with rfl | ho
      · simpa using h1
      · exact refsErr_mem h o ho
theorem objErr_mem : ∀ {r : List Ob} {p : Option Int}, objErr r p = 0 → ∀ o ∈ r, (0 ≤ o.id ∧ o.id ≤ 1000000000000000 ∧ 0 ≤ o.size ∧ o.size ≤ 1000000000000) ∧ nameErr o.type = 0
  | [], _, _, o, ho => by cases ho
  | m :: r, p, h, o, ho => by
    simp only [objErr] at h
    split at h
    · omega
    · rename_i h1
      split at h
      · rename_i h2; exact absurd h h2
      · rename_i h2
        split at h
        · omega
        · rcases List.mem_cons.1 ho with rfl | ho
          · exact ⟨by omega, by omega⟩
          · exact objErr_mem h o ho
structure GoodH (h : Hp) : Prop where
  len : h.objs.length ≤ 5000
  wmany : manyW h.objs ≤ 20000
  rlen : h.roots.length ≤ 5000
  obj : objErr h.objs none = 0
  refs : refsErr h.objs h.objs = 0
  roots : incErr h.objs h.roots none = 0
theorem goodH {h : Hp} : checkH h = 0 ↔ GoodH h := by
  unfold checkH
  constructor
  · intro q
    split at q
    · omega
    · rename_i h1
      split at q
      · rename_i h2; exact absurd q h2
      · rename_i h2
        split at q
        · rename_i h3; exact absurd q h3
        · rename_i h3
          exact ⟨by omega, by omega, by omega, by omega, by omega, q⟩
  · rintro ⟨h1, h2, h3, h4, h5, h6⟩
    rw [if_neg (by omega), if_neg (by simp [h4]), if_neg (by simp [h5]), h6]
theorem hasI_range {h : Hp} (g : GoodH h) {n : Int} (hn : hasI h.objs n = true) : 0 ≤ n ∧ n ≤ 1000000000000000 := by
  simp only [hasI, List.any_eq_true, decide_eq_true_eq] at hn
  obtain ⟨o, ho, rfl⟩ := hn
  have := (objErr_mem g.obj o ho).1
  omega
theorem length_sub : ∀ {r s : List Int}, r.Nodup → (∀ n ∈ r, n ∈ s) → r.length ≤ s.length
  | [], s, _, _ => Nat.zero_le _
  | a :: t, s, hn, hs => by
    rw [List.nodup_cons] at hn
    have ha : a ∈ s := hs a (by simp)
    have h1 := length_sub (r := t) (s := s.erase a) hn.2 fun n hm => by
      have hne : n ≠ a := fun e => hn.1 (e ▸ hm)
      exact (List.mem_erase_of_ne hne).2 (hs n (by simp [hm]))
    have h2 := List.length_erase_of_mem ha
    have h3 : 0 < s.length := List.length_pos_of_mem ha
    simp only [List.length_cons]
    omega
theorem incErr_lt {l : List Ob} : ∀ {r : List Int} {p : Option Int}, incErr l r p = 0 → (∀ q, p = some q → ∀ n ∈ r, q < n) ∧ r.Nodup
  | [], _, _ => ⟨fun _ _ n hn => (by cases hn), .nil⟩
  | m :: r, p, h => by
    simp only [incErr] at h
    split at h
    · omega
    · split at h
      · omega
      · rename_i h3
        obtain ⟨h4, h5⟩ := incErr_lt h
        refine ⟨fun q hq n hn => ?_, List.nodup_cons.2 ⟨fun hm => by have := h4 m rfl m hm; omega, h5⟩⟩
        have hm : q < m := by
          subst hq
          simp [lastLe] at h3
          omega
        rcases List.mem_cons.1 hn with rfl | hn
        · exact hm
        · have := h4 m rfl n hn; omega
theorem incErr_len {l : List Ob} {r : List Int} (h : incErr l r none = 0) : r.length ≤ l.length := by
  have h1 := length_sub (r := r) (s := l.map Ob.id) (incErr_lt h).2 fun n hn => by
    have := incErr_mem h n hn
    simp only [hasI, List.any_eq_true, decide_eq_true_eq] at this
    obtain ⟨o, ho, rfl⟩ := this
    exact List.mem_map_of_mem ho
  simpa using h1
theorem manyW_eq {M : Nat} {l : List Ob} (h : ∀ o ∈ l, o.refs.length ≤ M) (hb : l.length * M ≤ 1000000000) : manyW l = (manyH l : Int) ∧ manyH l ≤ l.length * M := by
  have key : ∀ k, k ≤ l.length → manyW (l.take k) = (manyH (l.take k) : Int) ∧ manyH (l.take k) ≤ k * M := by
    intro k
    induction k with
    | zero => intro _; exact ⟨rfl, Nat.zero_le _⟩
    | succ k ih =>
      intro hk
      obtain ⟨o, hx⟩ : ∃ o, l[k]? = some o := ⟨l[k]'hk, by simp⟩
      obtain ⟨h1, h2⟩ := ih (by omega)
      have h3 := h _ (List.mem_of_getElem? hx)
      have h4 : manyH (l.take (k + 1)) = manyH (l.take k) + o.refs.length := by
        unfold manyH
        rw [List.take_add_one, hx]
        simp
      have h5 : (k + 1) * M ≤ l.length * M := Nat.mul_le_mul_right _ hk
      rw [Nat.succ_mul] at h5 ⊢
      refine ⟨?_, by omega⟩
      rw [manyW_step hx, h1, h4]
      rw [wrap64 (by omega)]
      omega
  have := key l.length (Nat.le_refl _)
  rw [List.take_length] at this
  exact this
theorem GoodH.refsLen {h : Hp} (g : GoodH h) {o : Ob} (ho : o ∈ h.objs) : o.refs.length ≤ 5000 := Nat.le_trans (incErr_len (refsErr_mem g.refs o ho)) g.len
theorem GoodH.many {h : Hp} (g : GoodH h) : manyH h.objs ≤ 20000 := by
  have h1 := manyW_eq (M := 5000) (fun o ho => g.refsLen ho) (by have := g.len; omega)
  have := g.wmany
  omega
theorem GoodH.refIn {h : Hp} (g : GoodH h) {o : Ob} (ho : o ∈ h.objs) {n : Int} (hn : n ∈ o.refs) : inR n = true := by
  have := hasI_range g (incErr_mem (refsErr_mem g.refs o ho) n hn)
  rw [inR_iff]; omega
theorem GoodH.rootIn {h : Hp} (g : GoodH h) {n : Int} (hn : n ∈ h.roots) : inR n = true := by
  have := hasI_range g (incErr_mem g.roots n hn)
  rw [inR_iff]; omega
theorem GoodH.idIn {h : Hp} (g : GoodH h) {o : Ob} (ho : o ∈ h.objs) : inR o.id = true ∧ inR o.size = true := by
  have := (objErr_mem g.obj o ho).1
  rw [inR_iff, inR_iff]; omega
theorem sum_le {M : Nat} : ∀ {l : List Int}, (∀ n ∈ l, (numB n).size ≤ M) → ((l.map numB).map ByteArray.size).sum ≤ l.length * M
  | [], _ => by simp
  | n :: l, h => by
    have h1 := h n (by simp)
    have h2 := sum_le (l := l) fun m hm => h m (by simp [hm])
    simp only [List.map_cons, List.sum_cons, List.length_cons, Nat.succ_mul]
    omega
theorem lineB_size {ws : List ByteArray} {l : List Int} (hl : ∀ n ∈ l, inR n = true) : (joinB (ws ++ l.map numB) bSp).size ≤ (ws.map ByteArray.size).sum + ws.length + 18 * l.length := by
  have h1 := joinB_sum bSp (ws ++ l.map numB)
  have h2 := sum_le (M := 17) (l := l) fun n hn => numB_small (hl n hn)
  have h3 : bSp.size = 1 := rfl
  rw [h3, List.map_append, List.sum_append, List.length_append, List.length_map] at h1
  omega
theorem lineB_eq (ws : List ByteArray) (l : List Int) : (lineB ws l).size = (joinB (ws ++ l.map numB) bSp).size + 1 := by
  unfold lineB
  rw [ByteArray.size_append]
  rfl
theorem GoodH.lineO {h : Hp} (g : GoodH h) {o : Ob} (ho : o ∈ h.objs) : (joinB (headO o ++ o.refs.map numB) bSp).size ≤ 81 + 18 * o.refs.length := by
  have h1 := lineB_size (ws := headO o) (l := o.refs) fun n hn => g.refIn ho hn
  have h2 := numB_small (g.idIn ho).1
  have h3 := numB_small (g.idIn ho).2
  have h4 := (name_ok (objErr_mem g.obj o ho).2).1
  have h5 : kObj.size = 3 := rfl
  have h6 : ((headO o).map ByteArray.size).sum = kObj.size + ((numB o.id).size + ((numB o.size).size + (o.type.size + 0))) := rfl
  have h7 : (headO o).length = 4 := rfl
  omega
theorem refs_many : ∀ {l : List Ob} {o : Ob}, o ∈ l → o.refs.length ≤ manyH l
  | [], o, ho => by cases ho
  | m :: l, o, ho => by
    have e : manyH (m :: l) = m.refs.length + manyH l := rfl
    rcases List.mem_cons.1 ho with rfl | ho
    · omega
    · have := refs_many ho; omega
theorem catB_size : ∀ l : List ByteArray, (catB l).size = (l.map ByteArray.size).sum
  | [] => rfl
  | x :: l => by rw [catB_cons, ByteArray.size_append, catB_size l]; rfl
theorem linesSum {h : Hp} (g : GoodH h) : ∀ l : List Ob, (∀ o ∈ l, o ∈ h.objs) → ((l.map lineO).map ByteArray.size).sum ≤ 82 * l.length + 18 * manyH l
  | [], _ => by simp
  | o :: l, hl => by
    have h1 := linesSum g l fun q hq => hl q (by simp [hq])
    have h2 := g.lineO (hl o (by simp))
    have h3 := lineB_eq (headO o) o.refs
    simp only [List.map_cons, List.sum_cons, List.length_cons, manyH] at h1 ⊢
    unfold Go.Tb.lineO at h1 ⊢
    omega
theorem GoodH.cat {h : Hp} (g : GoodH h) (k : Nat) : (catB ((h.objs.map Go.Tb.lineO).take k)).size ≤ 770000 := by
  rw [catB_size, ← List.map_take]
  have h1 := linesSum g (h.objs.take k) fun o ho => List.mem_of_mem_take ho
  have h2 : (h.objs.take k).length ≤ h.objs.length := List.length_take_le' _ _
  have h3 : manyH (h.objs.take k) ≤ manyH h.objs := by
    have e : manyH h.objs = manyH (h.objs.take k) + manyH (h.objs.drop k) := by
      unfold manyH
      rw [← List.sum_append, ← List.map_append, List.take_append_drop]
    omega
  have := g.len
  have := g.many
  omega
theorem GoodH.rootsLine {h : Hp} (g : GoodH h) : (joinB ([kRoots] ++ h.roots.map numB) bSp).size ≤ 90010 := by
  have h1 := lineB_size (ws := [kRoots]) (l := h.roots) fun n hn => g.rootIn hn
  have h5 : kRoots.size = 5 := rfl
  simp only [List.map_cons, List.map_nil, List.sum_cons, List.sum_nil, List.length_cons, List.length_nil] at h1
  have := g.rlen
  omega
theorem GoodH.body {h : Hp} (g : GoodH h) : (bodyH h).size ≤ 900000 := by
  unfold bodyH rootsB
  have h1 := g.cat h.objs.length
  rw [List.take_of_length_le (by simp)] at h1
  rw [ByteArray.size_append]
  split
  · have : (B #[]).size = 0 := rfl
    omega
  · have h2 := g.rootsLine
    have h3 := lineB_eq [kRoots] h.roots
    omega
end Go.Tb
/- A heap's text, line by line. -/
namespace Go.Tb
open Go.Ab

def numsA (ws : List ByteArray) : List Int × Bool := match numsW ws with | some l => (l, true) | none => ([], false)
abbrev cutF (t : ByteArray) : ByteArray := ofL (Lib.cut t.data.toList [10]).1
abbrev cutN (t : ByteArray) : ByteArray := ofL (Lib.cut t.data.toList [10]).2.1
abbrev cutE (t : ByteArray) : Bool := (Lib.cut t.data.toList [10]).2.2
theorem numP_empty : numP (B #[]) = (0, false) := by decide +kernel
theorem numsW_empty : ∀ {l : List ByteArray}, B #[] ∈ l → numsW l = none
  | [], h => by cases h
  | w :: r, h => by
    simp only [numsW]
    rcases List.mem_cons.1 h with e | h
    · rw [← e, numP_empty]; rfl
    · rw [numsW_empty h]; split <;> rfl
theorem numsW_len : ∀ {l : List ByteArray} {r : List Int}, numsW l = some r → r.length = l.length
  | [], r, h => by simp only [numsW, Option.some.injEq] at h; subst h; rfl
  | w :: l, r, h => by
    simp only [numsW] at h
    split at h
    · cases q : numsW l with
      | none => rw [q] at h; cases h
      | some r2 => rw [q] at h; simp only [Option.some.injEq] at h; subst h; simp [numsW_len q]
    · cases h
def stepI (E : Bool) (ws : List ByteArray) (N : ByteArray) (h : Hp) : Bool × Hp :=
  if E = false ∨ (ws.any fun x => decide (B #[] = x)) = true then (true, h) else
    if ws.getD 0 (B #[]) = kObj ∧ 4 ≤ ws.length then
      (if (numsA ((ws.take 3).drop 1)).2 = true ∧ (numsA (ws.drop 4)).2 = true then (false, ⟨h.objs ++ [⟨(numsA ((ws.take 3).drop 1)).1.getD 0 0, (numsA ((ws.take 3).drop 1)).1.getD 1 0, ws.getD 3 (B #[]), (numsA (ws.drop 4)).1⟩], h.roots⟩) else (true, h))
    else if ws.getD 0 (B #[]) = kRoots ∧ 2 ≤ ws.length ∧ N = B #[] then (!(numsA (ws.drop 1)).2, ⟨h.objs, (numsA (ws.drop 1)).1⟩) else (true, h)

theorem cutB_empty {N : ByteArray} {c : UInt8} {m : ByteArray} {r : List ByteArray} (h : cutB N c = m :: r) : (r = [] ∧ m = B #[]) ↔ N = B #[] := by
  constructor
  · rintro ⟨rfl, rfl⟩
    have := join_cut c N.data.toList
    unfold cutB at h
    have h2 : cutL c N.data.toList = [[]] := by
      cases q : cutL c N.data.toList with
      | nil => exact absurd q (cutL_ne c _)
      | cons a t =>
        rw [q] at h
        simp only [List.map_cons, List.cons.injEq, List.map_eq_nil_iff] at h
        rw [h.2]
        have := congrArg (fun s : ByteArray => s.data.toList) h.1
        simp [ofL_data] at this
        rw [this]
    rw [h2] at this
    refine data_inj ?_
    rw [← this]
    simp [Lib.join_one]
  · rintro rfl
    have e : cutB (B #[]) c = [B #[]] := by unfold cutB; simp [cutL]; rfl
    rw [e] at h
    simp only [List.cons.injEq] at h
    exact ⟨h.2.symm, h.1.symm⟩
theorem any_empty (ws : List ByteArray) : (ws.any fun x => decide (B #[] = x)) = true ↔ B #[] ∈ ws := by simp
theorem imp_step {t : ByteArray} (ht : t ≠ B #[]) (i : Nat) (h : Hp) : impL (cutB t 10) i h =
    if (stepI (cutE t) (cutB (cutF t) 32) (cutN t) h).1 then (hp0, (i : Int), 10) else impL (cutB (cutN t) 10) (i + 1) (stepI (cutE t) (cutB (cutF t) 32) (cutN t) h).2 := by
  rw [cutB_first t 10]
  cases hE : (Lib.cut t.data.toList [10]).2.2 with
  | false =>
    have e : stepI false (cutB (cutF t) 32) (cutN t) h = (true, h) := by unfold stepI; rw [if_pos (.inl rfl)]
    have hE' : cutE t = false := hE
    rw [hE', e]
    simp only [Bool.false_eq_true, if_false, if_true, impL, if_neg ht]
  | true =>
    have hE' : cutE t = true := hE
    rw [hE', if_pos rfl]
    show impL (cutF t :: cutB (cutN t) 10) i h = _
    generalize hws : cutB (cutF t) 32 = ws
    generalize hN : cutN t = N
    obtain ⟨m, r, hmr⟩ : ∃ m r, cutB N 10 = m :: r := by
      obtain ⟨a, b, e⟩ := cutL_cons 10 N.data.toList
      exact ⟨ofL a, b.map ofL, by unfold cutB; rw [e]; rfl⟩
    rw [hmr]
    simp only [impL]
    rw [hws]
    have hNe := cutB_empty hmr
    by_cases he : B #[] ∈ ws
    · have e : stepI true ws N h = (true, h) := by unfold stepI; rw [if_pos (.inr ((any_empty ws).2 he))]
      have e1 : objW ws = none := by
        unfold objW
        split
        · rfl
        · rename_i q
          have hlen : 4 ≤ ws.length := by omega
          have h0 : ws.getD 0 (B #[]) = kObj := by
            by_cases z : ws.getD 0 (B #[]) = kObj
            · exact z
            · exact absurd (.inr (.inl z)) q
          have h3 : ws.getD 3 (B #[]) ≠ B #[] := fun z => q (.inr (.inr z))
          obtain ⟨j, hj⟩ := List.mem_iff_getElem?.1 he
          have hd : ∀ k, k < ws.length → ws.getD k (B #[]) ≠ B #[] → j ≠ k := fun k hk hne e => hne (by rw [List.getD_eq_getElem?_getD, ← e, hj]; rfl)
          have hj0 := hd 0 (by omega) (by rw [h0]; decide)
          have hj3 := hd 3 (by omega) h3
          rcases Nat.lt_or_ge j 4 with q4 | q4
          · have : B #[] ∈ (ws.take 3).drop 1 := List.mem_iff_getElem?.2 ⟨j - 1, by rw [List.getElem?_drop, List.getElem?_take, if_pos (by omega), show 1 + (j - 1) = j by omega]; exact hj⟩
            rw [numsW_empty this]
          · have : B #[] ∈ ws.drop 4 := List.mem_iff_getElem?.2 ⟨j - 4, by rw [List.getElem?_drop, show 4 + (j - 4) = j by omega]; exact hj⟩
            rw [numsW_empty this]
            cases numsW ((ws.take 3).drop 1) <;> rfl
      have e2 : rootsW ws = none := by
        unfold rootsW
        split
        · rfl
        · rename_i q
          have h0 : ws.getD 0 (B #[]) = kRoots := by
            by_cases z : ws.getD 0 (B #[]) = kRoots
            · exact z
            · exact absurd (.inl z) q
          obtain ⟨j, hj⟩ := List.mem_iff_getElem?.1 he
          have hj0 : j ≠ 0 := fun e => by
            have : ws.getD 0 (B #[]) = B #[] := by rw [List.getD_eq_getElem?_getD, ← e, hj]; rfl
            rw [this] at h0
            exact absurd h0 (by decide)
          have : B #[] ∈ ws.drop 1 := List.mem_iff_getElem?.2 ⟨j - 1, by rw [List.getElem?_drop, show 1 + (j - 1) = j by omega]; exact hj⟩
          rw [numsW_empty this]
      rw [e, e1, e2]
      simp
    · have hne : ¬ (true = false ∨ (ws.any fun x => decide (B #[] = x)) = true) := by rw [any_empty]; simp [he]
      unfold stepI
      rw [if_neg hne]
      by_cases ho : ws.getD 0 (B #[]) = kObj ∧ 4 ≤ ws.length
      · rw [if_pos ho]
        have h3 : ws.getD 3 (B #[]) ≠ B #[] := by
          have hlt : 3 < ws.length := by omega
          have : ws.getD 3 (B #[]) = ws[3] := by simp [List.getD_eq_getElem?_getD, hlt]
          rw [this]
          exact fun e => he (e ▸ List.getElem_mem hlt)
        have er : rootsW ws = none := by unfold rootsW; rw [if_pos (.inl (by rw [ho.1]; decide))]
        have eo : objW ws = match numsW ((ws.take 3).drop 1), numsW (ws.drop 4) with | some h, some r => some ⟨h.getD 0 0, h.getD 1 0, ws.getD 3 (B #[]), r⟩ | _, _ => none := by
          unfold objW
          refine if_neg ?_
          rintro (q | q | q)
          · omega
          · exact q ho.1
          · exact h3 q
        rw [eo, er]
        unfold numsA
        cases q1 : numsW ((ws.take 3).drop 1) <;> cases q2 : numsW (ws.drop 4) <;> simp
      · rw [if_neg ho]
        have eo : objW ws = none := by
          unfold objW
          rw [if_pos]
          by_cases z : ws.getD 0 (B #[]) = kObj
          · exact .inl (Nat.lt_of_not_le fun q => ho ⟨z, q⟩)
          · exact .inr (.inl z)
        rw [eo]
        simp only [hNe]
        by_cases hr : ws.getD 0 (B #[]) = kRoots ∧ 2 ≤ ws.length ∧ N = B #[]
        · rw [if_pos hr, if_pos hr.2.2]
          have er : rootsW ws = numsW (ws.drop 1) := by
            unfold rootsW
            rw [if_neg]
            rintro (q | q)
            · exact q hr.1
            · omega
          rw [er]
          unfold numsA
          cases q : numsW (ws.drop 1) <;> simp
        · rw [if_neg hr]
          have er : (if N = B #[] then rootsW ws else none) = none := by
            split
            · rename_i q
              unfold rootsW
              rw [if_pos]
              by_cases z : ws.getD 0 (B #[]) = kRoots
              · exact .inr (Nat.lt_of_not_le fun q2 => hr ⟨z, q2, q⟩)
              · exact .inl z
            · rfl
          rw [er]
          simp
end Go.Tb
namespace Go.Tb
open Go.Ab
theorem numsA_len {ws : List ByteArray} (h : (numsA ws).2 = true) : (numsA ws).1.length = ws.length := by
  unfold numsA at h ⊢
  cases q : numsW ws with
  | none => rw [q] at h; cases h
  | some l => exact numsW_len q
theorem cut_sizes (t : ByteArray) : (cutF t).size + (cutN t).size + (if cutE t then 1 else 0) ≤ t.size := by
  have e1 : (cutF t).size = (Lib.cut t.data.toList [10]).1.length := ofL_size _
  have e2 : (cutN t).size = (Lib.cut t.data.toList [10]).2.1.length := ofL_size _
  have e3 : t.data.toList.length = t.size := Array.length_toList
  rw [e1, e2]
  unfold cutE Lib.cut
  split
  · rename_i h
    have hlt : (Lib.index t.data.toList [10]).toNat < t.data.toList.length := by
      have := Lib.index_room t.data.toList [10] h
      simp only [List.length_singleton] at this
      omega
    simp only [List.length_take, List.length_drop, List.length_singleton, if_true]
    omega
  · simp
theorem cutB_len (s : ByteArray) (c : UInt8) : 0 < (cutB s c).length ∧ (cutB s c).length ≤ s.size + 1 := by
  obtain ⟨x, t, e⟩ := cutL_cons c s.data.toList
  have h1 := cutL_len c s.data.toList
  have h2 : s.data.toList.length = s.size := Array.length_toList
  unfold cutB
  rw [List.length_map]
  refine ⟨by rw [e]; simp, by omega⟩
theorem stepI_ok {E : Bool} {ws : List ByteArray} {N : ByteArray} {h : Hp} (q : (stepI E ws N h).1 = false) :
    E = true ∧ (stepI E ws N h).2.objs.length ≤ h.objs.length + 1 ∧ manyH (stepI E ws N h).2.objs ≤ manyH h.objs + (ws.length - 4) := by
  unfold stepI at q ⊢
  split at q
  · cases q
  · rename_i h1
    have hE : E = true := by cases E; exact absurd (.inl rfl) h1; rfl
    rw [if_neg h1]
    split at q
    · rename_i h2
      rw [if_pos h2]
      split at q
      · rename_i h3
        rw [if_pos h3]
        refine ⟨hE, by simp, ?_⟩
        have := numsA_len h3.2
        rw [List.length_drop] at this
        unfold manyH
        simp
        omega
      · cases q
    · rename_i h2
      rw [if_neg h2]
      split at q
      · rename_i h3
        rw [if_pos h3]
        exact ⟨hE, by simp, by simp⟩
      · cases q
theorem imp_empty (i : Nat) (h : Hp) : impL (cutB (B #[]) 10) i h = finH h := by
  have e : cutB (B #[]) 10 = [B #[]] := by unfold cutB; simp [cutL]; rfl
  rw [e]
  simp only [impL, if_true]
end Go.Tb
/- Regions that draw their order and hold one operation that turns the ghost (a call that lends, a store, an append): one walk of the text's order serves every order. -/
namespace Go.Ab
open Go.RowKit

/-! ### whatever the states are -/
section
variable {P : Program} {ops : Array Oper} {md : Region.Mode} {m : Nat} {S E : Type} (Y : Nat → E → S → Prop) (ef : Nat → E → S → S)

/-- what is listed waits for nothing that is not -/
def Closed (md : Region.Mode) (ops : Array Oper) (listed : Array Bool) : Prop :=
  ∀ j oj, ops[j]? = some oj → listed.getD j false = true → ∀ e ∈ oj.after, Region.binds md e = true → listed.getD e.on false = true
/-- operation j comes behind operation i, by whatever way -/
def reachB (md : Region.Mode) (ops : Array Oper) : Nat → Nat → Nat → Bool
  | 0, _, _ => false
  | k + 1, j, i => behindB md ops j i || (match ops[j]? with | some o => o.after.toList.any fun e => Region.binds md e && reachB md ops k e.on i | none => false)
theorem reach_listed {listed : Array Bool} (hc : Closed md ops listed) : ∀ (k j i : Nat), reachB md ops k j i = true → (∀ oj, ops[j]? = some oj → ∀ e ∈ oj.after, Region.binds md e = true → listed.getD e.on false = true) → listed.getD i false = true
  | 0, _, _, h, _ => by simp [reachB] at h
  | k + 1, j, i, h, hj => by
    simp only [reachB, Bool.or_eq_true] at h
    cases hoj : ops[j]? with
    | none =>
      rw [hoj] at h
      simp [behindB, hoj] at h
    | some oj =>
      rcases h with h | h
      · obtain ⟨e, he, hb, heq⟩ := behindB_spec hoj h
        rw [← heq]
        exact hj oj hoj e he hb
      · rw [hoj] at h
        obtain ⟨e, he, hb⟩ := List.any_eq_true.1 h
        simp only [Bool.and_eq_true] at hb
        have he' : e ∈ oj.after := by simpa using he
        have hl := hj oj hoj e he' hb.1
        exact reach_listed hc k e.on i hb.2 fun o ho e' he'' hb' => hc e.on o ho hl e' he'' hb'
/-- the last part waits for all of the first, and for what stands before it -/
def waitT (md : Region.Mode) (ops : Array Oper) (m : Nat) : Bool := (List.range ops.size).all fun j => decide (j < m) || (List.range j).all fun i => reachB md ops ops.size j i
theorem waitsT {j : Nat} (h : waitT md ops m = true) (hm : m ≤ j) {i : Nat} (hij : i < j) {listed : Array Bool} (hc : Closed md ops listed) (hj : j ∈ Region.ready md ops listed) : listed.getD i false = true := by
  obtain ⟨_, oj, hoj, hall⟩ := mem_ready.1 hj
  have hlt : j < ops.size := (Array.getElem?_eq_some_iff.1 hoj).1
  have h1 := List.all_eq_true.1 h j (by simpa using hlt)
  simp only [Bool.or_eq_true, decide_eq_true_eq] at h1
  have h2 := List.all_eq_true.1 (h1.resolve_left (by omega)) i (by simpa using hij)
  exact reach_listed hc _ j i h2 fun o ho e he hb => by rw [hoj] at ho; cases ho; exact hall e he hb
theorem Closed.add {listed : Array Bool} (hc : Closed md ops listed) {i : Nat} (hi : i ∈ Region.ready md ops listed) : Closed md ops (listed.setIfInBounds i true) := by
  intro j oj hoj hl e he hb
  obtain ⟨_, oi, hoi, hall⟩ := mem_ready.1 hi
  by_cases hji : i = j
  · subst hji
    rw [hoi] at hoj
    cases hoj
    exact getD_set_true (hall e he hb)
  · rw [getD_set_ne false hji] at hl
    exact getD_set_true (hc j oj hoj hl e he hb)

def wpG (m : Nat) (md : Region.Mode) (ops : Array Oper) (Q : S → Prop) : Nat → Array Bool → S → Prop
  | 0, listed, σ => Split m ops listed ∧ Q σ
  | fuel + 1, listed, σ => Region.ready md ops listed ≠ [] ∧ ∀ i ∈ Region.ready md ops listed, ∃ e, Y i e σ ∧ wpG m md ops Q fuel (listed.setIfInBounds i true) (ef i e σ)
/-- two operations may change places -/
def Swap (i j : Nat) : Prop := ∀ e e' σ, Y i e σ → Y j e' (ef i e σ) → Y j e' σ ∧ Y i e (ef j e' σ) ∧ ef j e' (ef i e σ) = ef i e (ef j e' σ)

variable {Y} {ef}
/-- the walk in the text's order -/
def ceG (Y : Nat → E → S → Prop) (ef : Nat → E → S → S) (Q : S → Prop) : List Oper → Nat → S → Prop
  | [], _, σ => Q σ
  | _ :: rest, i, σ => ∃ e, Y i e σ ∧ ceG Y ef Q rest (i + 1) (ef i e σ)
theorem wpAny_of_G {Sm : S → Act → World → Prop} {Q : S → Prop} {Q' : Exit → Act → World → Prop} {t : Nat}
    (hS : ∀ i e σ act w K, Sm σ act w → Y i e σ → (∀ act w, Sm (ef i e σ) act w → K act w) → wpOp P ops Q' i K act w)
    (hQ : ∀ listed σ act w, Sm σ act w → Closed md ops listed → Split m ops listed → Q σ → wpAny P md ops Q' t listed act w) :
    ∀ (fuel : Nat) (listed : Array Bool) (σ : S) (act : Act) (w : World), Sm σ act w → Closed md ops listed → wpG Y ef m md ops Q fuel listed σ → wpAny P md ops Q' (fuel + t) listed act w
  | 0, _, _, _, _, hs, hc, h => by rw [Nat.zero_add]; exact hQ _ _ _ _ hs hc h.1 h.2
  | fuel + 1, _, _, _, _, hs, hc, h => by
    rw [Nat.add_right_comm]
    refine ⟨fun h0 => absurd h0 h.1, fun i hi => ?_⟩
    obtain ⟨e, hy, hK⟩ := h.2 i hi
    exact hS i e _ _ _ _ hs hy fun act w hs' => wpAny_of_G hS hQ fuel _ _ _ _ hs' (hc.add hi) hK
/-- the last part, one by one -/
theorem wpAny_tailT {Q' : Exit → Act → World → Prop} (hw : waitT md ops m = true) (hrd : ∀ k, m ≤ k → ∀ o, ops[k]? = some o → ∀ e ∈ o.after, Region.binds md e = true → e.on < k) :
    ∀ (l : List Oper) (k : Nat) (listed : Array Bool) (act : Act) (w : World), m ≤ k → k + l.length = ops.size → (∀ j, l[j]? = ops[k + j]?) → Closed md ops listed → listed.size = ops.size → (∀ j, j < k → listed.getD j false = true) → (∀ j, k ≤ j → j < ops.size → listed.getD j true = false) →
      wpL P ops Q' l act w → wpAny P md ops Q' l.length listed act w
  | [], k, listed, act, w, hm, hk, _, _, hs, h1, h2, h => by
    refine ⟨?_, h⟩
    refine List.eq_nil_iff_forall_not_mem.2 fun j hj => ?_
    obtain ⟨h3, oj, hoj, _⟩ := mem_ready.1 hj
    have hlt := (Array.getElem?_eq_some_iff.1 hoj).1
    have := h1 j (by simp at hk; omega)
    rw [unlisted h3] at this
    cases this
  | o :: l, k, listed, act, w, hm, hk, hl, hc, hs, h1, h2, h => by
    have h0 : ops[k]? = some o := by simpa using (hl 0).symm
    have hks : k < ops.size := (Array.getElem?_eq_some_iff.1 h0).1
    have hready : k ∈ Region.ready md ops listed := mem_ready.2 ⟨h2 k (Nat.le_refl _) hks, o, h0, fun e he hb => h1 _ (hrd k hm o h0 e he hb)⟩
    refine ⟨fun hn => (by rw [hn] at hready; cases hready), fun i hi => ?_⟩
    have hik : i = k := by
      obtain ⟨h3, oi, hoi, _⟩ := mem_ready.1 hi
      rcases Nat.lt_trichotomy i k with hlt | he | hgt
      · have := h1 i hlt; rw [unlisted h3] at this; cases this
      · exact he
      · have := waitsT hw (by omega) hgt hc hi
        rw [unlisted (h2 k (Nat.le_refl _) hks)] at this
        cases this
    subst hik
    have ih := fun act w => wpAny_tailT (Q' := Q') hw hrd l (i + 1) (listed.setIfInBounds i true) act w (by omega) (by simp at hk; omega) (fun j => by have := hl (j + 1); simpa [Nat.add_assoc, Nat.add_comm 1 j] using this) (hc.add hready) (by simpa using hs)
      (fun j hj => by
        rcases Nat.lt_succ_iff_lt_or_eq.1 hj with hlt | rfl
        · exact getD_set_true (h1 j hlt)
        · simp [hs, hks]) (fun j hj hj' => by rw [getD_set_ne true (by omega)]; exact h2 j (by omega) hj')
    simp only [wpL] at h
    unfold wpOp
    simp only [h0]
    split
    · rename_i hw'
      rw [if_pos hw'] at h
      exact .inl (Oper.wp_mono ih h)
    · rename_i hw'
      rw [if_neg hw'] at h
      exact ih _ _ h
end

/-! ### one operation that turns the ghost -/
theorem Oper.wp_only {P : Program} {o : Oper} {a : Act} {w : World} {K K' : Act → World → Prop} {Q Q' : Exit → Act → World → Prop} (hp : ∀ c a w, ¬ Q (.panic c) a w) (hL : ¬ LetsOut Q) (hK : ∀ a w, K a w → K' a w) (h : o.wp P a w K Q) : o.wp P a w K' Q' := by
  unfold Oper.wp at *
  generalize (execOp a.eval o).run P w = r at *
  cases r with
  | ok n w' =>
    cases n <;> simp only [Oper.upon] at h ⊢ <;> first
      | exact hK _ _ h
      | exact Calls.mono h (fun e w'' he => by
          cases e with
          | returned v => exact hK _ _ he
          | panicked c => exact absurd he (hp _ _ _)
          | outgrown => exact absurd he hL)
      | exact Rows.mono h (fun _ _ he => hK _ _ he)
      | exact h
  | halt x w' =>
    cases x <;> simp only [Oper.upon] at h ⊢ <;> first
      | exact absurd h (hp _ _ _)
      | exact h
end Go.Ab
/- The rule for regions that draw their order and hold one operation that turns the ghost. -/
namespace Go.Ab
open Go.RowKit

/-- the boxes, the growing slices and the names before and behind the operation -/
structure Par where
  bx0 : List (Nat × List A)
  bx1 : List (Nat × List A)
  lv0 : List Nat
  lv1 : List Nat
  gen0 : Nat
  gen1 : Nat

section
variable {P : Program} {C : Ctx} {n : Nat} (S : Par) {ops : Array Oper} (c : Nat)
abbrev SC := Fr' × Bool
def XEv (P : Program) (C : Ctx) (n : Nat) (S : Par) (ops : Array Oper) (o : Oper) (a : A) (φ : Fr') : Prop :=
  o.guard = none ∧ ∃ p, (∀ t x, look p t = some x → φ t = some x ∧ t ∈ o.looksAt ops) ∧
    ∀ g, WO P C n ops (fun e st => e = .normal ∧ st = St.put ⟨p ++ g, S.bx1, S.lv1, S.gen1⟩ o.dst a) [o] ⟨p ++ g, S.bx0, S.lv0, S.gen0⟩
def YC (P : Program) (C : Ctx) (n : Nat) (S : Par) (ops : Array Oper) (c : Nat) (i : Nat) (a : A) (σ : SC) : Prop :=
  ∃ o, ops[i]? = some o ∧ dstOK n o.dst = true ∧ ((i = c ∧ σ.2 = false ∧ XEv P C n S ops o a σ.1) ∨
    (i ≠ c ∧ (behindB .any ops i c = false → YA P C n S.bx0 S.lv0 S.gen0 ops o a σ.1) ∧ (behindB .any ops c i = false → YA P C n S.bx1 S.lv1 S.gen1 ops o a σ.1) ∧
      (σ.2 = false → behindB .any ops i c = false) ∧ (σ.2 = true → behindB .any ops c i = false)))
def efC (ops : Array Oper) (c : Nat) (i : Nat) (a : A) (σ : SC) : SC :=
  match ops[i]? with
  | none => σ
  | some o => (putF σ.1 o.dst a, if i = c then true else σ.2)

variable {S} {c}
/-- the frame as a list -/
def fallF (n : Nat) (φ : Fr') : List (Nat × A) := (List.range n).filterMap fun t => (φ t).map fun a => (t, a)
theorem look_fall (φ : Fr') : ∀ (l : List Nat) (t : Nat), look (l.filterMap fun t => (φ t).map fun a => (t, a)) t = if t ∈ l then φ t else none
  | [], t => rfl
  | s :: l, t => by
    rw [List.filterMap_cons]
    cases hs : φ s with
    | none =>
      simp only [Option.map_none]
      rw [look_fall φ l t]
      by_cases e : t = s
      · subst e; simp [hs]
      · simp [e]
    | some a =>
      simp only [Option.map_some, look_cons]
      by_cases e : s = t
      · subst e; simp [hs]
      · rw [if_neg e, look_fall φ l t]
        simp [Ne.symm e]
theorem look_app (p g : List (Nat × A)) (t : Nat) : look (p ++ g) t = match look p t with | some a => some a | none => look g t := by
  induction p with
  | nil => rfl
  | cons x p ih =>
    obtain ⟨s, a⟩ := x
    rw [List.cons_append, look_cons, look_cons]
    split
    · rfl
    · exact ih
/-- the walk of such a region, over frames that are lists -/
def CC (P : Program) (C : Ctx) (n : Nat) (S : Par) (ops : Array Oper) (c : Nat) (Q : St → Prop) (l : List Oper) (i : Nat) (f : List (Nat × A)) (ph : Bool) : Prop :=
  ceG (YC P C n S ops c) (efC ops c) (fun σ => ∃ f', (∀ t, look f' t = σ.1 t) ∧ σ.2 = true ∧ Q ⟨f', S.bx1, S.lv1, S.gen1⟩) l i (look f, ph)
def regionOKC (m : Nat) (ops : Array Oper) : Bool := Nat.ble m ops.size && waitT .any ops m && foreB .any ops m && lexE .any ops m 0 (Array.replicate ops.size false)

variable {op : Op} {ty : TypeId} {pos : String} {af : Array Edge} {a : A} {d i : Nat} {rest : List Oper} {f : List (Nat × A)} {Q : St → Prop} {o : Oper} {ph : Bool}
theorem CC.nil_ (h : Q ⟨f, S.bx1, S.lv1, S.gen1⟩) : CC P C n S ops c Q [] i f true := ⟨f, fun _ => rfl, rfl, h⟩
theorem YA.of_pu {bx : List (Nat × List A)} {lv : List Nat} {gen : Nat} (hp : Pu P C n ⟨restr f (slotsOf op), bx, lv, gen⟩ ⟨some d, op, ty, pos, af, none⟩ a) (hd : Nat.blt d n = true) : YA P C n bx lv gen ops ⟨some d, op, ty, pos, af, none⟩ a (look f) :=
  ⟨hd, .inl ⟨rfl, _, fun t x hx => by
    obtain ⟨h1, h2⟩ := restr_look hx
    exact ⟨h1, List.mem_append.2 (.inl h2)⟩, hp⟩⟩
variable {bx0 bx1 : List (Nat × List A)} {lv0 lv1 : List Nat} {gen0 gen1 : Nat}
theorem CC.nil (h : Q ⟨f, bx1, lv1, gen1⟩) : CC P C n ⟨bx0, bx1, lv0, lv1, gen0, gen1⟩ ops c Q [] i f true :=
  CC.nil_ (S := ⟨bx0, bx1, lv0, lv1, gen0, gen1⟩) h
end
end Go.Ab
/- Regions that draw their order and hold several operations that turn the ghost, each behind the one before it, and one allocation that may stand anywhere. -/
namespace Go.Ab
open Go.RowKit

/-! ### whatever the states are: with paths in place of edges -/
section
variable {P : Program} {ops : Array Oper} {md : Region.Mode} {m : Nat} {S E : Type} {Y : Nat → E → S → Prop} {ef : Nat → E → S → S}

/-- neither must come before the other -/
def loose (md : Region.Mode) (ops : Array Oper) (i j : Nat) : Prop := reachB md ops ops.size i j = false ∧ reachB md ops ops.size j i = false

theorem behindB_of {j i : Nat} {oj : Oper} {e : Edge} (hj : ops[j]? = some oj) (he : e ∈ oj.after) (hb : Region.binds md e = true) (h : e.on = i) : behindB md ops j i = true := by
  unfold behindB
  rw [hj]
  exact List.any_eq_true.2 ⟨e, by simpa using he, by simp [hb, h]⟩
theorem reach_behind {j i : Nat} (h : reachB md ops ops.size j i = false) (hj : j < ops.size) : behindB md ops j i = false := by
  cases q : ops.size with
  | zero => omega
  | succ k =>
    rw [q] at h
    simp only [reachB, Bool.or_eq_false_iff] at h
    exact h.1
theorem ready_loose {i j : Nat} {listed : Array Bool} (hc : Closed md ops listed) (hi : i ∈ Region.ready md ops listed) (hj : listed.getD j true = false) : reachB md ops ops.size i j = false := by
  obtain ⟨_, oi, hoi, hall⟩ := mem_ready.1 hi
  cases q : reachB md ops ops.size i j with
  | false => rfl
  | true =>
    have := reach_listed hc _ i j q fun o ho e he hb => by rw [hoi] at ho; cases ho; exact hall e he hb
    rw [unlisted hj] at this
    cases this

theorem wpG_firstR {Q : S → Prop} {i : Nat} {oi : Oper} {e : E} (hw : waitT md ops m = true) (him : i < m) (hi : ops[i]? = some oi) :
    ∀ (fuel : Nat) (listed : Array Bool) (σ : S), Closed md ops listed →
      (∀ j oj, ops[j]? = some oj → j ≠ i → j < m → listed.getD j true = false → reachB md ops ops.size j i = false → Swap Y ef i j) →
      i ∈ Region.ready md ops listed → Y i e σ → wpG Y ef m md ops Q fuel (listed.setIfInBounds i true) (ef i e σ) → wpG Y ef m md ops Q (fuel + 1) listed σ := by
  have unl : ∀ {listed : Array Bool}, i ∈ Region.ready md ops listed → listed.getD i false = false := fun hr => unlisted (mem_ready.1 hr).1
  intro fuel
  induction fuel with
  | zero =>
    intro listed σ hc _ hr hy H
    refine ⟨fun h => (by rw [h] at hr; cases hr), fun j hj => ?_⟩
    by_cases hji : j = i
    · subst hji; exact ⟨e, hy, H⟩
    · exfalso
      obtain ⟨⟨_, h1, h2⟩, _⟩ := H
      have hj1 := (mem_ready.1 hj).1
      by_cases hjm : j < m
      · have := h1 j hjm
        rw [getD_set_ne false (Ne.symm hji)] at this
        rw [unlisted hj1] at this
        cases this
      · have := waitsT hw (by omega) (show i < j by omega) hc hj
        rw [unl hr] at this
        cases this
  | succ fuel ih =>
    intro listed σ hc hfree hr hy H
    refine ⟨fun h => (by rw [h] at hr; cases hr), fun j hj => ?_⟩
    by_cases hji : j = i
    · subst hji; exact ⟨e, hy, H⟩
    · obtain ⟨e', hy', H'⟩ := H.2 j (ready_mono hj hji)
      obtain ⟨hjun, oj, hoj, hall⟩ := mem_ready.1 hj
      have hnot : reachB md ops ops.size j i = false := ready_loose hc hj (mem_ready.1 hr).1
      have hjm : j < m := by
        rcases Nat.lt_or_ge j m with h | h
        · exact h
        · have := waitsT hw h (show i < j by omega) hc hj
          rw [unl hr] at this
          cases this
      obtain ⟨s1, s2, s3⟩ := hfree j oj hoj hji hjm hjun hnot e e' σ hy hy'
      have hfree' : ∀ k ok, ops[k]? = some ok → k ≠ i → k < m → (listed.setIfInBounds j true).getD k true = false → reachB md ops ops.size k i = false → Swap Y ef i k := fun k ok hk hki hkm hun hno => by
        refine hfree k ok hk hki hkm ?_ hno
        by_cases hjk : j = k
        · subst hjk; exact hjun
        · rw [getD_set_ne true hjk] at hun; exact hun
      refine ⟨e', s1, ih (listed.setIfInBounds j true) _ (hc.add hj) hfree' (ready_mono hr (Ne.symm hji)) s2 ?_⟩
      rw [Array.setIfInBounds_comm _ _ hji, ← s3]
      exact H'
theorem wpG_lexR {Q : S → Prop} (hw : waitT md ops m = true)
    (hsw : ∀ i j oi oj, ops[i]? = some oi → ops[j]? = some oj → i ≠ j → i < m → j < m → oi.apart ops oj = true → loose md ops i j → Swap Y ef i j) :
    ∀ (l : List Oper) (k : Nat) (listed : Array Bool) (σ : S), k + l.length = m → (∀ j, j < l.length → l[j]? = ops[k + j]?) → Closed md ops listed →
    listed.size = ops.size → (∀ j, j < k → listed.getD j false = true) → (∀ j, k ≤ j → j < ops.size → listed.getD j true = false) →
    lexE md ops l.length k listed = true → ceG Y ef Q l k σ → wpG Y ef m md ops Q l.length listed σ
  | [], k, listed, σ, hk, _, _, hs, h1, h2, _, h => ⟨⟨hs, fun j hj => h1 j (by simp at hk; omega), fun j hj hj' => h2 j (by simp at hk; omega) hj'⟩, h⟩
  | o :: l, k, listed, σ, hk, hl, hc, hs, h1, h2, hB, h => by
    have h0 : ops[k]? = some o := by simpa using (hl 0 (by simp)).symm
    have hks : k < ops.size := (Array.getElem?_eq_some_iff.1 h0).1
    simp only [List.length_cons, lexE, Bool.and_eq_true] at hB
    obtain ⟨⟨hr, hf⟩, hB'⟩ := hB
    have hr' : k ∈ Region.ready md ops listed := by simpa using hr
    obtain ⟨e, hy, hK⟩ := h
    have hkm : k < m := by simp at hk; omega
    refine wpG_firstR hw hkm h0 l.length listed σ hc (fun j oj hoj hjk hjm hun hno => hsw k j o oj h0 hoj (Ne.symm hjk) hkm hjm (Region.free_spec h0 hf j oj hoj hjk hun fun e he hb heq => ?_) ⟨ready_loose hc hr' hun, hno⟩) hr' hy
      (wpG_lexR hw hsw l (k + 1) _ _ (by simp at hk; omega) (fun j hj => by have := hl (j + 1) (by simpa using hj); simpa [Nat.add_assoc, Nat.add_comm 1 j] using this) (hc.add hr') (by simpa using hs) (fun j hj => ?_) (fun j hj hj' => ?_) hB' hK)
    · have h3 := reach_behind hno (Array.getElem?_eq_some_iff.1 hoj).1
      rw [behindB_of hoj he hb heq] at h3
      cases h3
    · rcases Nat.lt_succ_iff_lt_or_eq.1 hj with hlt | rfl
      · exact getD_set_true (h1 j hlt)
      · simp [hs, hks]
    · rw [getD_set_ne true (by omega)]
      exact h2 j (by omega) hj'
end

/-! ### what a renumbering leaves as it is -/
mutual
theorem ren_fix {o o' : List Nat} (h : ∀ g, pos o g = some g → pos o' g = some g) : ∀ a, ren o a = a → ren o' a = a
  | .own g es, e => by
    simp only [ren] at e ⊢
    cases q : pos o g with
    | none => rw [q] at e; cases e
    | some i =>
      rw [q] at e
      simp only [A.own.injEq, and_true] at e
      subst e
      rw [h _ q]
  | .ptr g off, e => by
    simp only [ren] at e ⊢
    cases q : pos o g with
    | none => rw [q] at e; cases e
    | some i =>
      rw [q] at e
      simp only [A.ptr.injEq, and_true] at e
      subst e
      rw [h _ q]
  | .xs g es, e => by
    simp only [ren] at e ⊢
    cases q : pos o g with
    | none => rw [q] at e; cases e
    | some i =>
      rw [q] at e
      simp only [A.xs.injEq, and_true] at e
      subst e
      rw [h _ q]
  | .xp g i off l, e => by
    simp only [ren] at e ⊢
    cases q : pos o g with
    | none => rw [q] at e; cases e
    | some j =>
      rw [q] at e
      simp only [A.xp.injEq, and_true] at e
      subst e
      rw [h _ q]
  | .mp g es, e => by
    simp only [ren] at e ⊢
    cases q : pos o g with
    | none => rw [q] at e; cases e
    | some i =>
      rw [q] at e
      simp only [A.mp.injEq, and_true] at e
      subst e
      rw [h _ q]
  | .np g T u, e => by
    simp only [ren] at e ⊢
    cases q : pos o g with
    | none => rw [q] at e; cases e
    | some i =>
      rw [q] at e
      simp only [A.np.injEq, and_true] at e
      subst e
      rw [h _ q]
  | .bf g T s, e => by
    simp only [ren] at e ⊢
    cases q : pos o g with
    | none => rw [q] at e; cases e
    | some i =>
      rw [q] at e
      simp only [A.bf.injEq, and_true] at e
      subst e
      rw [h _ q]
  | .agg l, e => by simp only [ren, A.agg.injEq] at e ⊢; exact renL_fix h l e
  | .tup l, e => by simp only [ren, A.tup.injEq] at e ⊢; exact renL_fix h l e
  | .row l, e => by simp only [ren, A.row.injEq] at e ⊢; exact renL_fix h l e
  | .clo f l, e => by simp only [ren, A.clo.injEq, true_and] at e ⊢; exact renL_fix h l e
  | .bnd f l, e => by simp only [ren, A.bnd.injEq, true_and] at e ⊢; exact renL_fix h l e
  | .d _, _ => rfl
  | .ag _, _ => rfl
  | .rowd _, _ => rfl
  | .ni, _ => rfl
  | .fl _, _ => rfl
  | .any, _ => rfl
theorem renL_fix {o o' : List Nat} (h : ∀ g, pos o g = some g → pos o' g = some g) : ∀ l, renL o l = l → renL o' l = l
  | [], _ => rfl
  | a :: l, e => by
    simp only [renL, List.cons.injEq] at e ⊢
    exact ⟨ren_fix h a e.1, renL_fix h l e.2⟩
end
def monoB (o o' : List Nat) : Bool := (List.range o.length).all fun g => !(pos o g == some g) || pos o' g == some g
theorem monoB_spec {o o' : List Nat} (h : monoB o o' = true) (g : Nat) (hg : pos o g = some g) : pos o' g = some g := by
  have hlt := (List.getElem?_eq_some_iff.1 (pos_some hg)).1
  have := List.all_eq_true.1 h g (List.mem_range.2 hlt)
  simp only [hg, beq_self_eq_true, Bool.not_true, Bool.false_or, beq_iff_eq] at this
  exact this
end Go.Ab
/- A slot's nil slices read as empty ones, at the top alone. -/
namespace Go.Ab
open Go.RowKit
section
variable {P : Program} {C : Ctx} {n : Nat} {ops : Array Oper} {Q : Exit → St → Prop} {f : List (Nat × A)} {bx : List (Nat × List A)} {lv : List Nat} {gen : Nat}
end
end Go.Ab
/- The rule for regions that draw their order and hold a chain of operations that turn the ghost and one free allocation. -/
namespace Go.Ab
open Go.RowKit

/-- the boxes before and behind the allocation, the growing slices and the names, behind k operations of the chain; the renumbering that puts the allocation's name first -/
structure ParD where
  bxF : Nat → List (Nat × List A)
  bxT : Nat → List (Nat × List A)
  lv : Nat → List Nat
  gen : Nat → Nat
  ord : Nat → List Nat
  g0 : Nat
  z : List A
  cs : List Nat
  al : Nat
def ParD.bx (S : ParD) (k : Nat) (b : Bool) : List (Nat × List A) := bif b then S.bxT k else S.bxF k

/-- no allocation -/
abbrev parL (bxs : List (List (Nat × List A))) (lvs : List (List Nat)) (gens : List Nat) (cs : List Nat) (al : Nat) : ParD := ⟨fun _ => [], fun k => bxs.getD k [], fun k => lvs.getD k [], fun k => gens.getD k 0, fun _ => [], 0, [], cs, al⟩
def alw (S : ParD) (ops : Array Oper) (i k : Nat) (b : Bool) : Bool :=
  ((List.range S.cs.length).all fun j => bif Nat.blt j k then !reachB .any ops ops.size (S.cs.getD j 0) i else !reachB .any ops ops.size i (S.cs.getD j 0)) &&
  (bif b then !reachB .any ops ops.size S.al i else (Nat.blt S.al ops.size && !reachB .any ops ops.size i S.al))

theorem alwNo {S : ParD} {ops : Array Oper} {i k : Nat} {b : Bool} (h : alw S ops i k b = true) (h' : alw S ops i k b = false) : False := by rw [h] at h'; cases h'

section
variable {P : Program} (T : Tab P) {C : Ctx} {n : Nat} (S : ParD) {ops : Array Oper}
abbrev SD := Fr' × Nat × Bool
def SmD (C : Ctx) (n : Nat) (S : ParD) (b0 : Bool) (σ : SD) (act : Act) (w : World) : Prop :=
  (b0 = true → σ.2.2 = true) ∧ act.defers = [] ∧ ∃ G, SimF C n (S.bx σ.2.1 σ.2.2) (S.lv σ.2.1) (S.gen σ.2.1) σ.1 G act.tmps w ∧ (σ.2.2 = false → ∀ t a, σ.1 t = some a → ren (S.ord σ.2.1) a = a)
def XEd (P : Program) (C : Ctx) (n : Nat) (S : ParD) (ops : Array Oper) (o : Oper) (a : A) (k : Nat) (b : Bool) (φ : Fr') : Prop :=
  o.guard = none ∧ ∃ p, (∀ t x, look p t = some x → φ t = some x ∧ t ∈ o.looksAt ops) ∧
    ∀ g, WO P C n ops (fun e st => e = .normal ∧ st = St.put ⟨p ++ g, S.bx (k + 1) b, S.lv (k + 1), S.gen (k + 1)⟩ o.dst a) [o] ⟨p ++ g, S.bx k b, S.lv k, S.gen k⟩
def YD (P : Program) (T : Tab P) (C : Ctx) (n : Nat) (S : ParD) (ops : Array Oper) (i : Nat) (a : A) (σ : SD) : Prop :=
  ∃ o, ops[i]? = some o ∧ dstOK n o.dst = true ∧ σ.2.1 ≤ S.cs.length ∧ alw S ops i σ.2.1 σ.2.2 = true ∧
    ((S.cs[σ.2.1]? = some i ∧ i ≠ S.al ∧ (∀ b, alw S ops i σ.2.1 b = true → XEd P C n S ops o a σ.2.1 b σ.1) ∧ (alw S ops i σ.2.1 false = true → ren (S.ord (σ.2.1 + 1)) a = a)) ∨
     (i ∉ S.cs ∧ i = S.al ∧ σ.2.2 = false ∧ o.guard = none ∧ a = .ptr S.g0 0 ∧ ∃ e d dt, o.op = .alloc e ∧ o.dst = some d ∧ look' T.l e = some dt ∧ S.z = dt.z.map fun v => A.d (.v v)) ∨
     (i ∉ S.cs ∧ i ≠ S.al ∧ ∀ k b, k ≤ S.cs.length → alw S ops i k b = true → YA P C n (S.bx k b) (S.lv k) (S.gen k) ops o a σ.1 ∧ (b = false → ren (S.ord k) a = a)))
def efD (S : ParD) (ops : Array Oper) (i : Nat) (a : A) (σ : SD) : SD :=
  match ops[i]? with
  | none => σ
  | some o => (putF σ.1 o.dst a, (if S.cs[σ.2.1]? = some i then σ.2.1 + 1 else σ.2.1), if i = S.al then true else σ.2.2)

variable {T} {S}
theorem XEd_put {o : Oper} {a : A} {k : Nat} {b : Bool} {φ : Fr'} {dst : Option Nat} {x : A} (hd : ∀ d, dst = some d → d ∉ o.looksAt ops) : XEd P C n S ops o a k b (putF φ dst x) ↔ XEd P C n S ops o a k b φ := by
  constructor
  · rintro ⟨h0, p, h1, h2⟩
    exact ⟨h0, p, fun t y hy => ⟨(putF_key hd (h1 t y hy).2).symm.trans (h1 t y hy).1, (h1 t y hy).2⟩, h2⟩
  · rintro ⟨h0, p, h1, h2⟩
    exact ⟨h0, p, fun t y hy => ⟨(putF_key hd (h1 t y hy).2).trans (h1 t y hy).1, (h1 t y hy).2⟩, h2⟩
theorem alw_step {i k c : Nat} {b : Bool} (h : S.cs[k]? = some c) (hl : loose .any ops i c) : alw S ops i (k + 1) b = alw S ops i k b := by
  unfold alw
  congr 1
  rw [Bool.eq_iff_iff, List.all_eq_true, List.all_eq_true]
  have hk : S.cs.getD k 0 = c := by simp [List.getD_eq_getElem?_getD, h]
  have key : ∀ j, (bif Nat.blt j (k + 1) then !reachB .any ops ops.size (S.cs.getD j 0) i else !reachB .any ops ops.size i (S.cs.getD j 0)) = (bif Nat.blt j k then !reachB .any ops ops.size (S.cs.getD j 0) i else !reachB .any ops ops.size i (S.cs.getD j 0)) := fun j => by
    rcases Nat.lt_trichotomy j k with hj | rfl | hj
    · have h1 : Nat.blt j (k + 1) = true := by simp [Nat.blt_eq]; omega
      have h2 : Nat.blt j k = true := by simp [Nat.blt_eq]; omega
      rw [h1, h2]
    · have h1 : Nat.blt j (j + 1) = true := by simp [Nat.blt_eq]
      have h2 : Nat.blt j j = false := by cases q : Nat.blt j j with | false => rfl | true => simp [Nat.blt_eq] at q
      rw [h1, h2, hk, hl.1, hl.2]
      rfl
    · have h1 : Nat.blt j (k + 1) = false := by cases q : Nat.blt j (k + 1) with | false => rfl | true => simp [Nat.blt_eq] at q; omega
      have h2 : Nat.blt j k = false := by cases q : Nat.blt j k with | false => rfl | true => simp [Nat.blt_eq] at q; omega
      rw [h1, h2]
  exact ⟨fun h j hj => by rw [← key]; exact h j hj, fun h j hj => by rw [key]; exact h j hj⟩
theorem alw_al {i k : Nat} (hlt : S.al < ops.size) (hl : loose .any ops i S.al) : alw S ops i k true = alw S ops i k false := by
  unfold alw
  have h : Nat.blt S.al ops.size = true := by rw [Nat.blt_eq]; exact hlt
  rw [hl.1, hl.2, h]
  rfl
theorem loose.symm {md : Region.Mode} {i j : Nat} (h : loose md ops i j) : loose md ops j i := ⟨h.2, h.1⟩
theorem efD_at {i : Nat} {o : Oper} (h : ops[i]? = some o) (a : A) (σ : SD) : efD S ops i a σ = (putF σ.1 o.dst a, (if S.cs[σ.2.1]? = some i then σ.2.1 + 1 else σ.2.1), if i = S.al then true else σ.2.2) := by unfold efD; rw [h]
theorem alw_pull {i k c : Nat} {b : Bool} (h : S.cs[k]? = some c) (hl : loose .any ops i c) (ha : alw S ops i (k + 1) b = true) : alw S ops i k b = true := by rw [← alw_step h hl]; exact ha
theorem alw_push {i k c : Nat} {b : Bool} (h : S.cs[k]? = some c) (hl : loose .any ops i c) (ha : alw S ops i k b = true) : alw S ops i (k + 1) b = true := by rw [alw_step h hl]; exact ha

theorem swapD (hch : ∀ k c c', S.cs[k]? = some c → S.cs[k + 1]? = some c' → reachB .any ops ops.size c' c = true) {i j : Nat} {oi oj : Oper} (hi : ops[i]? = some oi) (hj : ops[j]? = some oj) (hij : i ≠ j) (hap : oi.apart ops oj = true) (hl : loose .any ops i j) :
    Swap (YD P T C n S ops) (efD S ops) i j := by
  obtain ⟨a1, a2, a3⟩ := Oper.apart_spec hap
  rintro a b ⟨φ, k, ph⟩ ⟨oi', hi', di, hk, ai, hyi⟩ ⟨oj', hj', dj, hk2, aj, hyj⟩
  rw [hi] at hi'
  cases hi'
  rw [hj] at hj'
  cases hj'
  have hcomm : putF (putF φ oi.dst a) oj.dst b = putF (putF φ oj.dst b) oi.dst a := putF_comm φ a b a2
  have mem_of : ∀ {k c : Nat}, S.cs[k]? = some c → c ∈ S.cs := fun h => List.mem_of_getElem? h
  have klt : ∀ {k c : Nat}, S.cs[k]? = some c → k + 1 ≤ S.cs.length := fun h => (List.getElem?_eq_some_iff.1 h).1
  rw [efD_at hi] at aj hyj hk2
  simp only [efD_at hi, efD_at hj]
  simp only at hk ai hyi hk2 aj hyj
  rcases hyi with ⟨ci, nai, xi, fi⟩ | ⟨nci, ali, rfl, gi, ei, hi6⟩ | ⟨nci, nai, yi⟩
  · -- i is of the chain
    simp only [if_pos ci, if_neg nai] at aj hyj hk2
    rcases hyj with ⟨cj, _⟩ | ⟨ncj, alj, rfl, gj, ej, hj6⟩ | ⟨ncj, naj, yj⟩
    · exact absurd (hch k i j ci cj) (by rw [hl.2]; simp)
    · have hsi : loose .any ops i S.al := by rw [← alj]; exact hl
      have hlt : S.al < ops.size := by rw [← alj]; exact (Array.getElem?_eq_some_iff.1 hj).1
      have n1 : ¬ S.cs[k]? = some j := fun h => ncj (mem_of h)
      refine ⟨⟨oj, hj, dj, hk, alw_pull ci hl.symm aj, .inr (.inl ⟨ncj, alj, rfl, gj, ej, hj6⟩)⟩, ?_, ?_⟩
      · refine ⟨oi, hi, di, ?_, ?_, .inl ⟨?_, nai, fun b hb => (XEd_put a3).2 ?_, ?_⟩⟩
        all_goals simp only [if_neg n1]
        · exact hk
        · rw [if_pos alj, alw_al hlt hsi]; exact ai
        · exact ci
        · simp only [if_neg n1] at hb
          exact xi b hb
        · exact fi
      · simp only [if_pos ci, if_neg nai, if_pos alj, if_neg n1, hcomm]
        have n2 : ¬ S.cs[k + 1]? = some j := fun h => ncj (mem_of h)
        rw [if_neg n2]
    · have n1 : ¬ S.cs[k]? = some j := fun h => ncj (mem_of h)
      have n2 : ¬ S.cs[k + 1]? = some j := fun h => ncj (mem_of h)
      refine ⟨⟨oj, hj, dj, hk, alw_pull ci hl.symm aj, .inr (.inr ⟨ncj, naj, fun k b h1 h2 => ⟨(YA_put a1).1 (yj k b h1 h2).1, (yj k b h1 h2).2⟩⟩)⟩, ?_, ?_⟩
      · refine ⟨oi, hi, di, ?_, ?_, .inl ⟨?_, nai, fun b hb => (XEd_put a3).2 ?_, ?_⟩⟩
        all_goals simp only [if_neg n1]
        · exact hk
        · rw [if_neg naj]; exact ai
        · exact ci
        · simp only [if_neg n1] at hb
          exact xi b hb
        · exact fi
      · simp only [if_pos ci, if_neg nai, if_neg naj, if_neg n1, if_neg n2, hcomm]
  · -- i is the allocation
    have n1 : ¬ S.cs[k]? = some i := fun h => nci (mem_of h)
    simp only [if_neg n1, if_pos ali] at aj hyj hk2
    have hsj : loose .any ops j S.al := by rw [← ali]; exact hl.symm
    have hlt : S.al < ops.size := by rw [← ali]; exact (Array.getElem?_eq_some_iff.1 hi).1
    rcases hyj with ⟨cj, naj, xj, fj⟩ | ⟨_, alj, h, _⟩ | ⟨ncj, naj, yj⟩
    · have n2 : ¬ S.cs[k + 1]? = some i := fun h => nci (mem_of h)
      refine ⟨⟨oj, hj, dj, hk, by rw [← alw_al hlt hsj]; exact aj, .inl ⟨cj, naj, fun b hb => (XEd_put a1).1 (xj b hb), fj⟩⟩, ?_, ?_⟩
      · refine ⟨oi, hi, di, ?_, ?_, .inr (.inl ⟨nci, ali, ?_, gi, ei, hi6⟩)⟩
        all_goals simp only [if_pos cj, if_neg naj]
        · exact klt cj
        · exact alw_push cj hl ai
      · simp only [if_neg n1, if_pos ali, if_pos cj, if_neg naj, if_neg n2, hcomm]
    · exact absurd (ali.trans alj.symm) hij
    · have n3 : ¬ S.cs[k]? = some j := fun h => ncj (mem_of h)
      refine ⟨⟨oj, hj, dj, hk, by rw [← alw_al hlt hsj]; exact aj, .inr (.inr ⟨ncj, naj, fun k b h1 h2 => ⟨(YA_put a1).1 (yj k b h1 h2).1, (yj k b h1 h2).2⟩⟩)⟩, ?_, ?_⟩
      · refine ⟨oi, hi, di, ?_, ?_, .inr (.inl ⟨nci, ali, ?_, gi, ei, hi6⟩)⟩
        all_goals simp only [if_neg n3, if_neg naj]
        · exact hk
        · exact ai
      · simp only [if_neg n1, if_pos ali, if_neg n3, if_neg naj, hcomm]
  · -- i leaves the ghost
    have n1 : ¬ S.cs[k]? = some i := fun h => nci (mem_of h)
    simp only [if_neg n1, if_neg nai] at aj hyj hk2
    rcases hyj with ⟨cj, naj, xj, fj⟩ | ⟨ncj, alj, rfl, gj, ej, hj6⟩ | ⟨ncj, naj, yj⟩
    · have n2 : ¬ S.cs[k + 1]? = some i := fun h => nci (mem_of h)
      refine ⟨⟨oj, hj, dj, hk, aj, .inl ⟨cj, naj, fun b hb => (XEd_put a1).1 (xj b hb), fj⟩⟩, ?_, ?_⟩
      · refine ⟨oi, hi, di, ?_, ?_, .inr (.inr ⟨nci, nai, fun k b h1 h2 => ⟨(YA_put a3).2 (yi k b h1 h2).1, (yi k b h1 h2).2⟩⟩)⟩
        all_goals simp only [if_pos cj, if_neg naj]
        · exact klt cj
        · exact alw_push cj hl ai
      · simp only [if_neg n1, if_neg nai, if_pos cj, if_neg naj, if_neg n2, hcomm]
    · have n3 : ¬ S.cs[k]? = some j := fun h => ncj (mem_of h)
      have hsi : loose .any ops i S.al := by rw [← alj]; exact hl
      have hlt : S.al < ops.size := by rw [← alj]; exact (Array.getElem?_eq_some_iff.1 hj).1
      refine ⟨⟨oj, hj, dj, hk, aj, .inr (.inl ⟨ncj, alj, rfl, gj, ej, hj6⟩)⟩, ?_, ?_⟩
      · refine ⟨oi, hi, di, ?_, ?_, .inr (.inr ⟨nci, nai, fun k b h1 h2 => ⟨(YA_put a3).2 (yi k b h1 h2).1, (yi k b h1 h2).2⟩⟩)⟩
        all_goals simp only [if_neg n3, if_pos alj]
        · exact hk
        · rw [alw_al hlt hsi]; exact ai
      · simp only [if_neg n1, if_neg nai, if_neg n3, if_pos alj, hcomm]
    · have n3 : ¬ S.cs[k]? = some j := fun h => ncj (mem_of h)
      refine ⟨⟨oj, hj, dj, hk, aj, .inr (.inr ⟨ncj, naj, fun k b h1 h2 => ⟨(YA_put a1).1 (yj k b h1 h2).1, (yj k b h1 h2).2⟩⟩)⟩, ?_, ?_⟩
      · refine ⟨oi, hi, di, ?_, ?_, .inr (.inr ⟨nci, nai, fun k b h1 h2 => ⟨(YA_put a3).2 (yi k b h1 h2).1, (yi k b h1 h2).2⟩⟩)⟩
        all_goals simp only [if_neg n3, if_neg naj]
        · exact hk
        · exact ai
      · simp only [if_neg n1, if_neg nai, if_neg n3, if_neg naj, hcomm]

/-- one operation, whatever it does -/
theorem WO.one_ {o : Oper} (hg : o.guard = none) {st st1 : St} {G : Gh} {tmps : Array Value} {w : World} {Q' : Exit → Act → World → Prop} (h : WO P C n ops (fun e st => e = .normal ∧ st = st1) [o] st) (hs : SimG C n st G tmps w) :
    o.wp P ⟨tmps, []⟩ w (fun act w => act.defers = [] ∧ ∃ G, SimG C n st1 G act.tmps w) Q' := by
  have hw : Region.wanted o (yielded ops tmps) = true := by simp [Region.wanted, hg]
  have h := h tmps w ⟨G, hs⟩
  simp only [wpL, hw, if_true] at h
  refine Oper.wp_only (fun c a w hq => ?_) (fun hl => ?_) (fun act2 w2 hq => ?_) h
  · obtain ⟨_, st', _, he, _⟩ := hq
    cases he
  · obtain ⟨_, _, hq⟩ := hl
    obtain ⟨_, st', _, he, _⟩ := hq
    cases he
  · obtain ⟨hdf, st', ⟨G', hs2⟩, _, rfl⟩ := hq
    exact ⟨hdf, G', hs2⟩
theorem simF_lt {bx : List (Nat × List A)} {lv : List Nat} {gen : Nat} {φ : Fr'} {G : Gh} {tmps : Array Value} {w : World} (hs : SimF C n bx lv gen φ G tmps w) (t : Nat) (x : A) (hx : φ t = some x) : t < n := by
  obtain ⟨v, h1, _⟩ := hs.2 t x hx
  have := (Array.getElem?_eq_some_iff.1 h1).1
  rw [hs.1.size] at this
  exact this
theorem look_all {φ : Fr'} {p : List (Nat × A)} (hlt : ∀ t x, φ t = some x → t < n) (hp : ∀ t x, look p t = some x → φ t = some x) (t : Nat) : look (p ++ fallF n φ) t = φ t := by
  rw [look_app]
  cases q : look p t with
  | some x => exact (hp t x q).symm
  | none =>
    simp only
    unfold fallF
    rw [look_fall]
    cases e : φ t with
    | none => split <;> rfl
    | some x => rw [if_pos (List.mem_range.2 (hlt t x e))]
theorem putF_look {φ : Fr'} {f : List (Nat × A)} (h : ∀ t, look f t = φ t) {d : Nat} {a : A} {t : Nat} : look ((d, a) :: f) t = putF φ (some d) a t := by
  rw [look_cons]
  simp only [putF]
  by_cases e : t = d
  · subst e
    rw [if_pos rfl, if_pos rfl]
  · rw [if_neg e, if_neg (Ne.symm e), h]

/-- what the renumbering asks for behind k operations -/
def okD1 (S : ParD) (nb k : Nat) : Prop := (orderB (S.ord k) (S.gen k) nb = true ∧ pos (S.ord k) (S.gen k) = some S.g0) ∧ SubBR (S.ord k) ((S.gen k, S.z) :: S.bxF k) (S.bxT k) ∧ lvR (S.ord k) (S.lv k) (S.lv k) = true
def okD (S : ParD) (nb : Nat) : Nat → Prop
  | 0 => okD1 S nb 0
  | k + 1 => okD1 S nb (k + 1) ∧ monoB (S.ord k) (S.ord (k + 1)) = true ∧ okD S nb k
theorem okD.at {nb : Nat} : ∀ {m : Nat}, okD S nb m → ∀ k, k ≤ m → okD1 S nb k
  | 0, h, k, hk => by obtain rfl : k = 0 := by omega
                      exact h
  | m + 1, h, k, hk => by
    rcases Nat.lt_or_ge k (m + 1) with hlt | hge
    · exact okD.at h.2.2 k (by omega)
    · obtain rfl : k = m + 1 := by omega
      exact h.1
theorem okD.mono {nb : Nat} : ∀ {m : Nat}, okD S nb m → ∀ k, k < m → monoB (S.ord k) (S.ord (k + 1)) = true
  | 0, _, k, hk => absurd hk (Nat.not_lt_zero _)
  | m + 1, h, k, hk => by
    rcases Nat.lt_or_ge k m with hlt | hge
    · exact okD.mono h.2.2 k hlt
    · obtain rfl : k = m := by omega
      exact h.2.1

theorem soundD {nb : Nat} [hnb : NB C nb] (b0 : Bool) (hok : b0 = false → okD S nb S.cs.length) (i : Nat) (a : A) (σ : SD) (act : Act) (w : World) (K : Act → World → Prop) {Q' : Exit → Act → World → Prop} (hs : SmD C n S b0 σ act w) (hy : YD P T C n S ops i a σ) (hK : ∀ act w, SmD C n S b0 (efD S ops i a σ) act w → K act w) : wpOp P ops Q' i K act w := by
  obtain ⟨tmps, dfs⟩ := act
  obtain ⟨hb0, rfl, G, hs, hfix⟩ := hs
  obtain ⟨φ, k, ph⟩ := σ
  obtain ⟨o, ho, hd, hkl, hal, hy⟩ := hy
  rw [efD_at ho] at hK
  simp only at hs hfix hkl hal hy hK hb0
  unfold wpOp
  simp only [ho]
  rcases hy with ⟨hc, nal, hx, hr⟩ | ⟨nc, hal', rfl, hg, rfl, e, d, dt, hop, hdst, he, hz⟩ | ⟨nc, nal, hya⟩
  · obtain ⟨hg, p, hp, hx⟩ := hx ph hal
    rw [if_pos hc, if_neg nal] at hK
    have hw : Region.wanted o (yielded ops tmps) = true := by simp [Region.wanted, hg]
    rw [hw, if_pos rfl]
    refine .inl ?_
    have hlook := look_all (simF_lt hs) (fun t x hx => (hp t x hx).1)
    have hs' := hs.toG (f := p ++ fallF n φ) fun t x hx => by rw [← hlook]; exact hx
    refine Oper.wp_mono (fun act2 w2 ⟨hdf, G', hs2⟩ => hK act2 w2 ⟨hb0, hdf, G', ?_, fun hph t x hx => ?_⟩) (WO.one_ hg (hx (fallF n φ)) hs')
    · show SimF C n (S.bx (k + 1) ph) (S.lv (k + 1)) (S.gen (k + 1)) (putF φ o.dst a) G' act2.tmps w2
      cases hdst : o.dst with
      | none =>
        rw [hdst] at hs2
        refine ⟨{ hs2 with frame := fun t a ha => by simp [look] at ha }, fun t x hx => hs2.frame t x ?_⟩
        show look (p ++ fallF n φ) t = some x
        rw [hlook]
        exact hx
      | some d =>
        rw [hdst] at hs2
        refine ⟨{ hs2 with frame := fun t a ha => by simp [look] at ha }, fun t x hx => hs2.frame t x ?_⟩
        show look ((d, a) :: (p ++ fallF n φ)) t = some x
        rw [putF_look hlook]
        exact hx
    · simp only at hph hx
      have hbf : b0 = false := by cases b0 with | false => rfl | true => rw [hb0 rfl] at hph; cases hph
      have hm := monoB_spec ((hok hbf).mono k (List.getElem?_eq_some_iff.1 hc).1)
      cases hdst : o.dst with
      | none => rw [hdst] at hx; exact ren_fix hm x (hfix hph t x hx)
      | some d =>
        rw [hdst] at hx
        simp only [putF] at hx
        split at hx
        · cases hx; exact hr (by rw [← hph]; exact hal)
        · exact ren_fix hm x (hfix hph t x hx)
  · have hkc : ¬ S.cs[k]? = some i := fun h => nc (List.mem_of_getElem? h)
    rw [if_neg hkc, if_pos hal'] at hK
    have hw : Region.wanted o (yielded ops tmps) = true := by simp [Region.wanted, hg]
    rw [hw, if_pos rfl]
    refine .inl ?_
    have hbf : b0 = false := by cases b0 with | false => rfl | true => cases hb0 rfl
    obtain ⟨⟨hO, hpos⟩, hBR, hLR⟩ := (hok hbf).at k hkl
    have hlook : ∀ t, look (fallF n φ) t = φ t := look_all (p := []) (simF_lt hs) (fun t x hx => by simp [look] at hx)
    have hs' := hs.toG (f := fallF n φ) fun t x hx => by rw [← hlook]; exact hx
    have hwo : WO P C n ops (fun e st => e = .normal ∧ st = St.put ⟨fallF n φ, (S.gen k, S.z) :: S.bx k false, S.lv k, S.gen k + 1⟩ o.dst (.ptr (S.gen k) 0)) [o] ⟨fallF n φ, S.bx k false, S.lv k, S.gen k⟩ :=
      WO.alloc T hg hd hop he (WO.nil ⟨rfl, by rw [hz]⟩)
    refine Oper.wp_mono (fun act2 w2 ⟨hdf, G', hs2⟩ => hK act2 w2 ⟨fun _ => rfl, hdf, renG (S.ord k) G', ?_, fun h => by cases h⟩) (WO.one_ hg hwo hs')
    simp only [orderB, Bool.and_eq_true] at hO
    obtain ⟨⟨hO1, hO2⟩, hO3⟩ := hO
    rw [hdst] at hs2 ⊢
    have h3 : SimG C n ⟨(d, .ptr S.g0 0) :: fallF n φ, S.bxT k, S.lv k, S.gen k⟩ (renG (S.ord k) G') act2.tmps w2 := by
      refine SimG.ren (gen' := S.gen k) hs2 (S.ord k) (nodup_of hO1) (Nat.le_of_ble_eq_true hO2) (fun i hi => ?_) (fun t x hx => ?_) (fun i l' hl' => ?_) (fun i hi => ?_)
      · have h4 := headB_get hO3 i (by rw [← hnb.h]; exact hi)
        simpa using h4
      · rw [look_cons] at hx
        show ∃ a, look ((d, .ptr (S.gen k) 0) :: fallF n φ) t = some a ∧ ren (S.ord k) a = x
        rw [look_cons]
        split at hx
        · rename_i e
          rw [if_pos e]
          cases hx
          exact ⟨_, rfl, by simp only [ren, hpos]⟩
        · rename_i e
          rw [if_neg e]
          rw [hlook] at hx ⊢
          exact ⟨x, hx, hfix rfl t x hx⟩
      · exact SubBR.le hBR i l' hl'
      · exact lvR_mem hLR i hi
    refine ⟨{ h3 with frame := fun t a ha => by simp [look] at ha }, fun t x hx => h3.frame t x ?_⟩
    show look ((d, _) :: fallF n φ) t = some x
    rw [putF_look hlook]
    exact hx
  · have hkc : ¬ S.cs[k]? = some i := fun h => nc (List.mem_of_getElem? h)
    rw [if_neg hkc, if_neg nal] at hK
    obtain ⟨hya, hr⟩ := hya k ph hkl hal
    have hfix' : ph = false → ∀ t x, putF φ o.dst a t = some x → ren (S.ord k) x = x := fun hph t x hx => by
      cases hdst : o.dst with
      | none => rw [hdst] at hx; exact hfix hph t x hx
      | some d =>
        rw [hdst] at hx
        simp only [putF] at hx
        split at hx
        · cases hx; exact hr hph
        · exact hfix hph t x hx
    obtain ⟨_, ⟨hw, f, hf, hp⟩ | ⟨hw, rfl⟩⟩ := hya
    · rw [wanted_of hs hw]
      simp only [if_true]
      refine .inl ?_
      have hg : Gives P o ⟨tmps, []⟩ w fun v w' => Below w.heap.size w w' ∧ Rep (enOf C G (S.gen k) w') v a := hp G tmps w (hs.toG fun t x hx => (hf t x hx).1)
      refine hg.wp fun v w' ⟨hb, hr⟩ => ?_
      rw [Act.put_eq]
      exact hK _ _ ⟨hb0, rfl, G, hs.step hb hd hr, hfix'⟩
    · rw [wanted_of hs hw]
      simp only [Bool.false_eq_true, if_false]
      rw [Act.put_eq]
      exact hK _ _ ⟨hb0, rfl, G, hs.step (Below.refl _ _) hd (.tup #[] [] rfl (by simp)), hfix'⟩
/-- the walk of such a region, over frames that are lists -/
def CD (P : Program) (T : Tab P) (C : Ctx) (n : Nat) (S : ParD) (ops : Array Oper) (Q : St → Prop) (l : List Oper) (i : Nat) (f : List (Nat × A)) (k : Nat) (b : Bool) : Prop :=
  ceG (YD P T C n S ops) (efD S ops) (fun σ => ∃ f', (∀ t, look f' t = σ.1 t) ∧ σ.2 = (S.cs.length, true) ∧ Q ⟨f', S.bxT S.cs.length, S.lv S.cs.length, S.gen S.cs.length⟩) l i (look f, k, b)
def chainB (ops : Array Oper) : List Nat → Bool
  | c :: c' :: r => reachB .any ops ops.size c' c && chainB ops (c' :: r)
  | _ => true
theorem chainB_spec {ops : Array Oper} : ∀ {cs : List Nat}, chainB ops cs = true → ∀ k c c', cs[k]? = some c → cs[k + 1]? = some c' → reachB .any ops ops.size c' c = true
  | [], _, k, c, c', h, _ => by simp at h
  | [_], _, k, c, c', _, h => by simp at h
  | x :: y :: r, h, k, c, c', h1, h2 => by
    simp only [chainB, Bool.and_eq_true] at h
    cases k with
    | zero =>
      simp at h1 h2
      subst h1; subst h2
      exact h.1
    | succ k => exact chainB_spec h.2 k c c' (by simpa using h1) (by simpa using h2)
def AllFix (o : List Nat) : List (Nat × A) → Prop
  | [] => True
  | (_, a) :: r => ren o a = a ∧ AllFix o r
theorem AllFix.at {o : List Nat} : ∀ {f : List (Nat × A)}, AllFix o f → ∀ t a, look f t = some a → ren o a = a
  | [], _, t, a, h => by simp [look] at h
  | (s, x) :: r, hf, t, a, h => by
    rw [look_cons] at h
    split at h
    · cases h; exact hf.1
    · exact hf.2.at t a h

theorem W.regionChain (T : Tab P) {nb : Nat} [hnb : NB C nb] {id : Nat} {l l1 l2 : List Oper} {f : List (Nat × A)} {bx : List (Nat × List A)} {lv : List Nat} {gen : Nat} {Q : Exit → St → Prop} (S : ParD) (b0 : Bool) (m : Nat) (hB : regionOKC m l.toArray = true) (hch : chainB l.toArray S.cs = true) (h1 : l.take m = l1) (h2 : l.drop m = l2)
    (hok : b0 = false → okD S nb S.cs.length ∧ AllFix (S.ord 0) f) (e1 : ∀ g c, look' (S.bx 0 b0) g = some c → look' bx g = some c) (e2 : S.lv 0 = lv) (e3 : Nat.ble gen (S.gen 0) = true)
    (h : CD P T C n S l.toArray (WO P C n l.toArray Q l2) l1 0 f 0 b0) : W P C n (.region id l.toArray true) Q ⟨f, bx, lv, gen⟩ := by
  subst h1; subst h2; subst e2
  intro tmps w ⟨G, hs⟩
  have hs : SimG C n ⟨f, bx, S.lv 0, S.gen 0⟩ G tmps w := SimG.later hs (g := S.gen 0) (Nat.le_of_ble_eq_true e3)
  have hs : SimG C n ⟨f, S.bx 0 b0, S.lv 0, S.gen 0⟩ G tmps w := { hs with box := fun g c hc => hs.box g c (e1 g c hc) }
  simp only [regionOKC, Bool.and_eq_true] at hB
  obtain ⟨⟨⟨hm, hw⟩, hfore⟩, hlex⟩ := hB
  have hm : m ≤ l.length := by simpa using Nat.le_of_ble_eq_true hm
  have hb : Below w.heap.size w { w with drawn := w.drawn + 1 } := (Below.refl _ w).drew
  have hs' : SimF C n (S.bx 0 b0) (S.lv 0) (S.gen 0) (look f) G tmps { w with drawn := w.drawn + 1 } := SimF.ofG (hs.evolve hb).2
  have hlen : (l.take m).length = m := by simp; omega
  refine wp_region_any T.mixed ?_
  have hsz : l.toArray.size = (l.take m).length + (l.drop m).length := by simp; omega
  rw [hsz]
  have hcl : Closed .any l.toArray (Array.replicate ((l.take m).length + (l.drop m).length) false) := fun j oj _ hl _ _ _ => by
    by_cases q : j < (l.take m).length + (l.drop m).length
    · simp only [Array.getD_eq_getD_getElem?, Array.getElem?_replicate] at hl
      rw [if_pos q] at hl
      cases hl
    · simp only [Array.getD_eq_getD_getElem?, Array.getElem?_replicate] at hl
      rw [if_neg q] at hl
      cases hl
  refine wpAny_of_G (m := m) (Sm := SmD C n S b0) (Y := YD P T C n S l.toArray) (ef := efD S l.toArray) (Q := fun σ => ∃ f', (∀ t, look f' t = σ.1 t) ∧ σ.2 = (S.cs.length, true) ∧ WO P C n l.toArray Q (l.drop m) ⟨f', S.bxT S.cs.length, S.lv S.cs.length, S.gen S.cs.length⟩)
    (fun i e σ act w K hs hy hk => soundD b0 (fun h => (hok h).1) i e σ act w K hs hy hk) (fun listed σ act w hs hc hsp ⟨f', e1, e2, hq⟩ => ?_) _ _ (look f, 0, b0) ⟨tmps, []⟩ _ ⟨fun h => h, rfl, G, hs', fun h => (hok h).2.at⟩ hcl ?_
  · obtain ⟨tmps, dfs⟩ := act
    obtain ⟨_, rfl, G, hs, _⟩ := hs
    rw [e2] at hs
    refine wpAny_tailT hw (foreB_spec hfore) (l.drop m) m listed ⟨tmps, []⟩ w (Nat.le_refl _) (by simp; omega) (fun j => by simp [List.getElem?_drop]) hc hsp.1 hsp.2.1 hsp.2.2 ?_
    exact hq tmps w ⟨G, hs.toG (fun t a ha => by rw [← e1]; exact ha)⟩
  · refine wpG_lexR hw (fun i j oi oj hi hj hij him hjm hap hno => swapD (chainB_spec hch) hi hj hij hap hno) (l.take m) 0 _ _ (by rw [hlen]; omega) (fun j hj => ?_) hcl (by simp; omega) (fun j hj => by omega) (fun j _ hj => ?_) (by rw [hlen]; rw [hsz, hlen] at hlex; exact hlex) h
    · rw [hlen] at hj
      rw [Nat.zero_add]
      simp [List.getElem?_take, hj]
    · have hj' : j < l.length := by simpa using hj
      have e : min m l.length + (l.length - m) = l.length := by omega
      simp [e, hj']

variable {op : Op} {ty : TypeId} {pos : String} {af : Array Edge} {a : A} {d i k : Nat} {rest : List Oper} {f : List (Nat × A)} {Q : St → Prop} {b : Bool}
theorem CD.nil (h : Q ⟨f, S.bxT S.cs.length, S.lv S.cs.length, S.gen S.cs.length⟩) (hk : Nat.beq k S.cs.length = true) : CD P T C n S ops Q [] i f k true := by
  have := Nat.eq_of_beq_eq_true hk
  subst this
  exact ⟨f, fun _ => rfl, rfl, h⟩
def allD (p : Nat → Bool → Prop) : Nat → Prop
  | 0 => p 0 false ∧ p 0 true
  | k + 1 => p (k + 1) false ∧ p (k + 1) true ∧ allD p k
theorem allD.at {p : Nat → Bool → Prop} : ∀ {m : Nat}, allD p m → ∀ k b, k ≤ m → p k b
  | 0, h, k, b, hk => by
    obtain rfl : k = 0 := by omega
    cases b
    · exact h.1
    · exact h.2
  | m + 1, h, k, b, hk => by
    rcases Nat.lt_or_ge k (m + 1) with hlt | hge
    · exact h.2.2.at k b (by omega)
    · obtain rfl : k = m + 1 := by omega
      cases b
      · exact h.1
      · exact h.2.1
def memB (x : Nat) (l : List Nat) : Bool := l.any fun y => Nat.beq x y
theorem memB_not {x : Nat} {l : List Nat} (h : memB x l = false) : x ∉ l := fun hm => by
  have : memB x l = true := List.any_eq_true.2 ⟨x, hm, by simp⟩
  rw [h] at this
  cases this
/-- an operation that leaves the ghost -/
theorem cdPu (hp : allD (fun k b => alw S ops i k b = true → Pu P C n ⟨restr f (slotsOf op), S.bx k b, S.lv k, S.gen k⟩ ⟨some d, op, ty, pos, af, none⟩ a ∧ (b = false → ren (S.ord k) a = a)) S.cs.length)
    (hi : ops[i]? = some ⟨some d, op, ty, pos, af, none⟩) (h1 : memB i S.cs = false) (h2 : Nat.beq i S.al = false) (h3 : (Nat.ble k S.cs.length && alw S ops i k b) = true) (hd : Nat.blt d n = true)
    (h : CD P T C n S ops Q rest (i + 1) ((d, a) :: f) k b) : CD P T C n S ops Q (⟨some d, op, ty, pos, af, none⟩ :: rest) i f k b := by
  simp only [Bool.and_eq_true] at h3
  have nc := memB_not h1
  have na : i ≠ S.al := fun e => by subst e; simp at h2
  refine ⟨a, ⟨_, hi, hd, Nat.le_of_ble_eq_true h3.1, h3.2, .inr (.inr ⟨nc, na, fun k b hk ha => ⟨YA.of_pu (hp.at k b hk ha).1 hd, (hp.at k b hk ha).2⟩⟩)⟩, ?_⟩
  rw [efD_at hi]
  simp only [if_neg na, if_neg (fun e => nc (List.mem_of_getElem? e) : ¬ S.cs[k]? = some i)]
  unfold CD at h
  rw [look_put] at h
  exact h
/-- the same; what it gives is found where the walk stands -/
theorem cdPu' (h0 : Pu P C n ⟨restr f (slotsOf op), S.bx k b, S.lv k, S.gen k⟩ ⟨some d, op, ty, pos, af, none⟩ a) (hp : allD (fun k b => alw S ops i k b = true → Pu P C n ⟨restr f (slotsOf op), S.bx k b, S.lv k, S.gen k⟩ ⟨some d, op, ty, pos, af, none⟩ a ∧ (b = false → ren (S.ord k) a = a)) S.cs.length)
    (hi : ops[i]? = some ⟨some d, op, ty, pos, af, none⟩) (h1 : memB i S.cs = false) (h2 : Nat.beq i S.al = false) (h3 : (Nat.ble k S.cs.length && alw S ops i k b) = true) (hd : Nat.blt d n = true)
    (h : CD P T C n S ops Q rest (i + 1) ((d, a) :: f) k b) : CD P T C n S ops Q (⟨some d, op, ty, pos, af, none⟩ :: rest) i f k b := cdPu hp hi h1 h2 h3 hd h
/-- one of the chain -/
theorem cdX (hx : ∀ b, alw S ops i k b = true → ∀ g, WO P C n ops (fun e st => e = .normal ∧ st = ⟨(d, a) :: (restr f (slotsOf op) ++ g), S.bx (k + 1) b, S.lv (k + 1), S.gen (k + 1)⟩) [⟨some d, op, ty, pos, af, none⟩] ⟨restr f (slotsOf op) ++ g, S.bx k b, S.lv k, S.gen k⟩)
    (hi : ops[i]? = some ⟨some d, op, ty, pos, af, none⟩) (h1 : S.cs[k]? = some i) (h2 : Nat.beq i S.al = false) (h3 : alw S ops i k b = true) (hr : alw S ops i k false = true → ren (S.ord (k + 1)) a = a) (hd : Nat.blt d n = true) (h : CD P T C n S ops Q rest (i + 1) ((d, a) :: f) (k + 1) b) : CD P T C n S ops Q (⟨some d, op, ty, pos, af, none⟩ :: rest) i f k b := by
  have na : i ≠ S.al := fun e => by subst e; simp at h2
  refine ⟨a, ⟨_, hi, hd, Nat.le_of_lt (List.getElem?_eq_some_iff.1 h1).1, h3, .inl ⟨h1, na, fun b hb => ⟨rfl, restr f (slotsOf op), fun t x hx => ?_, fun g => hx b hb g⟩, hr⟩⟩, ?_⟩
  · obtain ⟨h1, h2⟩ := restr_look hx
    exact ⟨h1, List.mem_append.2 (.inl h2)⟩
  · rw [efD_at hi]
    simp only [if_neg na, if_pos h1]
    unfold CD at h
    rw [look_put] at h
    exact h
theorem W.regionL (T : Tab P) {nb : Nat} [hnb : NB C nb] {id : Nat} {l l1 l2 : List Oper} {f : List (Nat × A)} {bx : List (Nat × List A)} {lv : List Nat} {gen : Nat} {Q : Exit → St → Prop} (bxs : List (List (Nat × List A))) (lvs : List (List Nat)) (gens : List Nat) (cs : List Nat) (m : Nat) (hB : regionOKC m l.toArray = true) (hch : chainB l.toArray cs = true) (h1 : l.take m = l1) (h2 : l.drop m = l2)
    (h : CD P T C n (parL (bx :: bxs) (lv :: lvs) (gen :: gens) cs l.length) l.toArray (WO P C n l.toArray Q l2) l1 0 f 0 true) : W P C n (.region id l.toArray true) Q ⟨f, bx, lv, gen⟩ :=
  W.regionChain T (parL (bx :: bxs) (lv :: lvs) (gen :: gens) cs l.length) true m hB hch h1 h2 (fun h => by cases h) (fun _ _ h => h) rfl (by show Nat.ble gen gen = true; simp) h
end
end Go.Ab
/- Parts of slices and of texts. -/
namespace Go.Ab
open Go.RowKit

def loA (f : List (Nat × A)) : Option Operand → Option Int
  | none => some 0
  | some x => match av f x with | some (.d (.v (.int _ v))) => some v | _ => none
def hiA (f : List (Nat × A)) (len : Nat) : Option Operand → Option Int
  | none => some (len : Int)
  | some x => match av f x with | some (.d (.v (.int _ v))) => some v | _ => none

theorem RepD.sub {w : World} {pv : Nat → Nat → Prop} {v : Value} {es : List (List D)} (h : RepD w pv v (.sl es)) {i j sz : Nat} (hij : i ≤ j) (hj : j ≤ es.length) (hsz : ∀ e ∈ es, e.length = sz) :
    ∃ a cap, v = .slice a es.length cap ∧ es.length ≤ cap ∧ RepD w pv (sliced a i j cap sz) (.sl ((es.take j).drop i)) := by
  cases h with
  | nil =>
    have e1 : j = 0 := by simpa using hj
    subst e1
    have e2 : i = 0 := by omega
    subst e2
    exact ⟨none, 0, rfl, Nat.le_refl _, .nil⟩
  | emp a cap hm =>
    have e1 : j = 0 := by simpa using hj
    subst e1
    have e2 : i = 0 := by omega
    subst e2
    refine ⟨some a, cap, rfl, Nat.zero_le _, ?_⟩
    simp only [sliced, List.take_zero, List.drop_zero, Nat.sub_zero]
    split
    · exact .emp a cap hm
    · exact .emp _ cap hm
  | sl b off len cap sz' es u hl hc hm hs hu hr =>
    refine ⟨_, cap, by rw [hl], by omega, ?_⟩
    rcases Nat.eq_or_lt_of_le hij with e | hlt
    · subst e
      rw [show (es.take i).drop i = [] from List.drop_eq_nil_of_le (List.length_take_le _ _)]
      simp only [sliced, Nat.sub_self]
      split
      · exact .emp _ _ (by omega)
      · exact .emp _ _ (by omega)
    · have e : sz' = sz := by
        obtain ⟨x, hx⟩ : ∃ x, es[0]? = some x := ⟨es[0]'(by omega), by simp⟩
        rw [← hs 0 x hx, hsz x (List.mem_of_getElem? hx)]
      subst e
      have hne : cap ≠ i := by omega
      have ha : ∀ (k : Nat) (x : List D), ((es.take j).drop i)[k]? = some x → es[i + k]? = some x ∧ k < j - i := fun k x hk => by
        have hk' := hk
        rw [List.getElem?_drop] at hk
        have h1 := (List.getElem?_eq_some_iff.1 hk).1
        rw [List.length_take] at h1
        rw [List.getElem?_take, if_pos (by omega)] at hk
        exact ⟨hk, by omega⟩
      simp only [sliced, if_neg hne, Option.map_some]
      rw [show (Addr.add ⟨b, off, none⟩ (i * sz')) = ⟨b, off + i * sz', none⟩ from by simp [Addr.add]]
      refine .sl b (off + i * sz') (j - i) (cap - i) sz' _ (fun k c => u (i + k) c) ?_ (by omega) (by omega) (fun k x hk => hs _ x (ha k x hk).1) (fun k c hk hc' => ?_) (fun k c x d hk hd => hr _ c x d (ha k x hk).1 hd)
      · rw [List.length_drop, List.length_take]; omega
      · have := hu (i + k) c (by omega) hc'
        rw [show off + (i + k) * sz' + c = off + i * sz' + k * sz' + c from by rw [Nat.add_mul]; omega] at this
        exact this

section
variable {P : Program} (T : Tab P) {C : Ctx} {n : Nat}
variable {f : List (Nat × A)} {bx : List (Nat × List A)} {lv : List Nat} {gen : Nat} {ty : TypeId} {pos : String} {af : Array Edge} {dst : Option Nat} {G : Gh} {tmps : Array Value} {w : World}

theorem bounds_run (b : Bool) {lo hi : Option Operand} {len cap : Nat} {i j : Int} (hs : SimG C n ⟨f, bx, lv, gen⟩ G tmps w) (hlo : loA f lo = some i) (hhi : hiA f len hi = some j) (h0 : 0 ≤ i) (hij : i ≤ j) (hj : j ≤ len) (hc : len ≤ cap) :
    (Instr.sliceBounds b len cap (lo.map (Act.eval ⟨tmps, []⟩)) (hi.map (Act.eval ⟨tmps, []⟩)) none).run P w = .ok (i.toNat, j.toNat, cap) w := by
  have ev : ∀ (x : Operand) (v : Int), (match av f x with | some (.d (.v (.int _ v))) => some v | _ => none) = some v → ∃ k, Act.eval ⟨tmps, []⟩ x = .int k v := fun x v h => by
    split at h
    · rename_i k v' hav
      simp only [Option.some.injEq] at h
      subst h
      have hr := hs.av hav
      generalize Act.eval ⟨tmps, []⟩ x = y at hr
      cases hr with | d hr => cases hr with | v _ _ => exact ⟨k, rfl⟩
    · cases h
  have ehj : (j.toNat : Int) = j := Int.toNat_of_nonneg (by omega)
  have hh : ((match hi.map (Act.eval ⟨tmps, []⟩) with | some v => Instr.sliceBound v cap (if b then .sliceAcap else .sliceAlen) | none => pure len : Sem Nat)).run P w = .ok j.toNat w := by
    cases hi with
    | none =>
      simp only [hiA, Option.some.injEq] at hhi
      subst hhi
      simp
    | some x =>
      obtain ⟨k, e⟩ := ev x j hhi
      simp only [Option.map_some, e]
      exact run_sliceBound w k j cap _ (by omega) (by omega)
  have hl : ((match lo.map (Act.eval ⟨tmps, []⟩) with | some v => Instr.sliceBound v j.toNat (if (none : Option Value).isSome then .slice3C else .sliceB) | none => pure 0 : Sem Nat)).run P w = .ok i.toNat w := by
    cases lo with
    | none =>
      simp only [loA, Option.some.injEq] at hlo
      subst hlo
      simp
    | some x =>
      obtain ⟨k, e⟩ := ev x i hlo
      simp only [Option.map_some, e]
      exact run_sliceBound w k i j.toNat _ (by omega) (by omega)
  unfold Instr.sliceBounds
  cases hi with
  | none =>
    cases lo with
    | none =>
      simp only [Option.map_none, Sem.run_bind, Sem.run_pure, Result.andThen_ok] at hh hl ⊢
      simp_all
    | some x =>
      simp only [Option.map_none, Option.map_some, Sem.run_bind, Sem.run_pure, Result.andThen_ok] at hh hl ⊢
      simp only [Result.ok.injEq, and_true] at hh
      rw [← hh] at hl ⊢
      simp_all
  | some y =>
    cases lo with
    | none =>
      simp only [Option.map_none, Option.map_some, Sem.run_bind, Sem.run_pure, Result.andThen_ok] at hh hl ⊢
      rw [hh]
      simp_all
    | some x =>
      simp only [Option.map_some, Sem.run_bind, Sem.run_pure, Result.andThen_ok] at hh hl ⊢
      rw [hh]
      simp_all

/-- a part of a slice -/
theorem sliceV {α : Type} {fn : α → List D} {t e : Nat} {x : Operand} {lo hi : Option Operand} {td ed : TyD} {a : A} {l r : List α} {i j : Int} (hx : av f x = some a) (hes : slOf a = some (l.map fn)) (ht : look' T.l t = some td) (hk : td.k = .slice e) (he : look' T.l e = some ed)
    (hn : ∀ x, (fn x).length = ed.n) (hlo : loA f lo = some i) (hhi : hiA f l.length hi = some j) (h0 : 0 ≤ i) (hij : i ≤ j) (hj : j ≤ (l.length : Int)) (hr : (l.take j.toNat).drop i.toNat = r) :
    Pu P C n ⟨f, bx, lv, gen⟩ ⟨dst, .slice t x lo hi none, ty, pos, af, none⟩ (.d (.sl (r.map fn))) := by
  subst hr
  refine PuOK.pu fun G tmps w hs => ?_
  have hrx := slOf_rep hes (hs.av hx)
  obtain ⟨a', cap, hv, hcap, hrep⟩ := hrx.sub (i := i.toNat) (j := j.toNat) (sz := ed.n) (by omega) (by rw [List.length_map]; omega) (fun y hy => by obtain ⟨z, _, rfl⟩ := List.mem_map.1 hy; exact hn z)
  rw [List.length_map] at hv hcap
  have hu := T.u_slice ht hk
  have hpe : P.elem t = e := by simp [Program.elem, hu]
  have hu' : P.underlying t = some (.slice (P.elem t)) := by rw [hpe]; exact hu
  refine ⟨sliced a' i.toNat j.toNat cap ed.n, ?_, .d (by rw [← List.map_take, ← List.map_drop] at hrep; exact hrep)⟩
  unfold execOp
  show Sem.run P _ w = _
  simp only [Sem.run_bind, run_sliceAt_slice w t _ _ _ _ hu', hv, run_slice_any w t a' l.length cap hu', Option.map_none, bounds_run (P := P) true hs hlo hhi h0 hij hj hcap, Result.andThen_ok, hpe, T.sizeOf he]
  rfl

end
end Go.Ab
/- The reference's ways: lines out of pieces, lines by index. -/
namespace Go.Tb
open Go.Ab

end Go.Tb
/- Equal heaps, small heaps. -/
namespace Go.Tb
open Go.Ab

instance obDec : DecidableEq Ob := fun a b => decidable_of_iff (a.id = b.id ∧ a.size = b.size ∧ a.type = b.type ∧ a.refs = b.refs) ⟨fun h => by cases a; cases b; simp_all, fun h => by rw [h]; exact ⟨rfl, rfl, rfl, rfl⟩⟩
instance hpDec : DecidableEq Hp := fun a b => decidable_of_iff (a.objs = b.objs ∧ a.roots = b.roots) ⟨fun h => by cases a; cases b; simp_all, fun h => by rw [h]; exact ⟨rfl, rfl⟩⟩
def fewL : List Ob → Int → Bool
  | [], _ => true
  | o :: r, n => if 100 < o.type.size ∨ 300 < IntKind.i64.wrap (n + (o.refs.length : Int)) then false else fewL r (IntKind.i64.wrap (n + (o.refs.length : Int)))
def fewH (h : Hp) : Bool := if 60 < h.objs.length ∨ 60 < h.roots.length then false else fewL h.objs 0
theorem few_len {h : Hp} (q : fewH h = true) : h.objs.length ≤ 60 ∧ h.roots.length ≤ 60 := by
  unfold fewH at q
  split at q
  · cases q
  · omega
end Go.Tb
/- What was printed is read; what is read is printed so. -/
namespace Go.Tb
open Go.Ab

theorem numB_free {n : Int} : (32 : UInt8) ∉ (numB n).data.toList ∧ (10 : UInt8) ∉ (numB n).data.toList := by
  constructor <;> intro h <;> rw [numB_data] at h <;> rcases itoa_bytes h with q | q <;> revert q <;> decide
theorem name_free {s : ByteArray} (h : nameErr s = 0) : (32 : UInt8) ∉ s.data.toList ∧ (10 : UInt8) ∉ s.data.toList := by
  have hl := (name_ok h).2.1
  rw [List.all_eq_true] at hl
  exact ⟨fun q => by have := hl 32 q; revert this; decide, fun q => by have := hl 10 q; revert this; decide⟩
def wordsO (o : Ob) : List ByteArray := headO o ++ o.refs.map numB
theorem GoodH.words {h : Hp} (g : GoodH h) {o : Ob} (ho : o ∈ h.objs) : ∀ w ∈ wordsO o, (32 : UInt8) ∉ w.data.toList ∧ (10 : UInt8) ∉ w.data.toList := by
  intro w hw
  unfold wordsO headO at hw
  rcases List.mem_append.1 hw with hw | hw
  · simp only [List.mem_cons, List.not_mem_nil, or_false] at hw
    rcases hw with rfl | rfl | rfl | rfl
    · decide
    · exact numB_free
    · exact numB_free
    · exact name_free (objErr_mem g.obj o ho).2
  · obtain ⟨n, _, rfl⟩ := List.mem_map.1 hw
    exact numB_free
end Go.Tb
/- Small heaps have short texts; valid heaps: what is found, what is missed. -/
namespace Go.Tb
open Go.Ab

theorem few_sum : ∀ (l : List Ob) (n : Nat), (∀ o ∈ l, o.refs.length ≤ 5000) → n ≤ 300 → fewL l (n : Int) = true → n + manyH l ≤ 300
  | [], n, _, hn, _ => by simpa [manyH] using hn
  | o :: r, n, h, hn, q => by
    have ho := h o (by simp)
    have hw : IntKind.i64.wrap ((n : Int) + (o.refs.length : Int)) = ((n + o.refs.length : Nat) : Int) := by rw [wrap64 (by omega)]; rfl
    simp only [fewL] at q
    rw [hw] at q
    split at q
    · cases q
    · rename_i hc
      have := few_sum r (n + o.refs.length) (fun p hp => h p (by simp [hp])) (by omega) q
      have e : manyH (o :: r) = o.refs.length + manyH r := rfl
      omega
theorem few_many {h : Hp} (g : GoodH h) (q : fewH h = true) : manyH h.objs ≤ 300 := by
  unfold fewH at q
  split at q
  · cases q
  · have := few_sum h.objs 0 (fun o ho => g.refsLen ho) (by omega) q
    omega
theorem incErr_snoc {l : List Ob} {id : Int} (hid : hasI l id = false) : ∀ {r : List Int} {p : Option Int}, incErr l r p = 0 → incErr l (r ++ [id]) p = 5
  | [], p, _ => by simp [incErr, hid]
  | m :: r, p, h => by
    simp only [List.cons_append, incErr] at h ⊢
    split at h
    · omega
    · rename_i h1
      rw [if_neg h1]
      split at h
      · omega
      · rename_i h2
        rw [if_neg h2]
        exact incErr_snoc hid h
theorem incErr_ids {l m : List Ob} (h : ∀ n, hasI l n = hasI m n) : ∀ (r : List Int) (p : Option Int), incErr l r p = incErr m r p
  | [], _ => rfl
  | n :: r, p => by simp only [incErr, h n, incErr_ids h r]
theorem miss_roots {h : Hp} (g : GoodH h) {id : Int} (hid : hasI h.objs id = false) (hl : h.roots.length < 5000) : checkH ⟨h.objs, h.roots ++ [id]⟩ = 5 := by
  unfold checkH
  have h1 := g.len
  have h2 := g.wmany
  rw [if_neg (by simp; omega), if_neg (by simp [g.obj]), if_neg (by simp [g.refs])]
  exact incErr_snoc hid g.roots
def withRef (l : List Ob) (i : Nat) (o : Ob) (id : Int) : List Ob := l.set i ⟨o.id, o.size, o.type, o.refs ++ [id]⟩
theorem objErr_set : ∀ {l : List Ob} {i : Nat} {o : Ob} {id : Int} {p : Option Int}, l[i]? = some o → objErr (withRef l i o id) p = objErr l p
  | [], i, o, id, p, h => by simp at h
  | m :: r, 0, o, id, p, h => by
    simp at h
    subst h
    simp only [withRef, List.set_cons_zero, objErr]
  | m :: r, i + 1, o, id, p, h => by
    have h' : r[i]? = some o := by simpa using h
    have ih := fun p => objErr_set (id := id) (p := p) h'
    simp only [withRef, List.set_cons_succ, objErr] at ih ⊢
    rw [ih]
theorem hasI_set {l : List Ob} {i : Nat} {o : Ob} {id n : Int} (h : l[i]? = some o) : hasI (withRef l i o id) n = hasI l n := by
  have e : (withRef l i o id).map Ob.id = l.map Ob.id := by
    apply List.ext_getElem?
    intro j
    simp only [withRef, List.getElem?_map, List.getElem?_set]
    by_cases q : i = j
    · subst q
      have := (List.getElem?_eq_some_iff.1 h).1
      rw [if_pos rfl, if_pos this, h]
      rfl
    · rw [if_neg q]
  have key : ∀ l : List Ob, hasI l n = (l.map Ob.id).any fun x => decide (x = n) := fun l => by unfold hasI; rw [List.any_map]; rfl
  rw [key, key, e]
theorem refsErr_set {m : List Ob} {id : Int} (hid : hasI m id = false) : ∀ {l : List Ob} {i : Nat} {o : Ob}, l[i]? = some o → refsErr m l = 0 → refsErr m (withRef l i o id) = 5
  | [], i, o, h, _ => by simp at h
  | a :: r, 0, o, h, q => by
    simp at h
    subst h
    simp only [withRef, List.set_cons_zero, refsErr] at q ⊢
    split at q
    · rename_i q2; exact absurd q q2
    · rename_i q2
      have := incErr_snoc hid (r := a.refs) (p := none) (by simpa using q2)
      rw [this]
      rfl
  | a :: r, i + 1, o, h, q => by
    have h' : r[i]? = some o := by simpa using h
    simp only [withRef, List.set_cons_succ, refsErr] at q ⊢
    split at q
    · rename_i q2; exact absurd q q2
    · rename_i q2
      rw [if_neg q2]
      exact refsErr_set hid h' q
theorem many_set {l : List Ob} {i : Nat} {o : Ob} {id : Int} (h : l[i]? = some o) : manyH (withRef l i o id) = manyH l + 1 := by
  induction l generalizing i with
  | nil => simp at h
  | cons a r ih =>
    cases i with
    | zero => simp at h; subst h; simp [withRef, manyH]; omega
    | succ i =>
      have := ih (i := i) (by simpa using h)
      simp only [withRef, List.set_cons_succ, manyH, List.map_cons, List.sum_cons] at this ⊢
      omega
theorem miss_refs {h : Hp} (g : GoodH h) (q : fewH h = true) {id : Int} (hid : hasI h.objs id = false) {i : Nat} {o : Ob} (ho : h.objs[i]? = some o) : checkH ⟨withRef h.objs i o id, h.roots⟩ = 5 := by
  have h1 := g.len
  have h2 := few_many g q
  have h3 := g.rlen
  have h4 := many_set (id := id) ho
  have hmem : ∀ p ∈ withRef h.objs i o id, p.refs.length ≤ 5001 := by
    intro p hp
    have := refs_many hp
    omega
  have hl : (withRef h.objs i o id).length = h.objs.length := by simp [withRef]
  have hw := (manyW_eq (M := 5001) hmem (by rw [hl]; omega)).1
  unfold checkH
  rw [if_neg (by rw [hl, hw, h4]; simp; omega), objErr_set ho, if_neg (by simp [g.obj])]
  have e : refsErr (withRef h.objs i o id) (withRef h.objs i o id) = 5 := by
    have e1 : ∀ l, refsErr (withRef h.objs i o id) l = refsErr h.objs l := by
      intro l
      induction l with
      | nil => rfl
      | cons a r ih => simp only [refsErr, ih, incErr_ids fun n => hasI_set (n := n) (id := id) ho]
    rw [e1]
    exact refsErr_set hid ho g.refs
  rw [e, if_pos (by decide)]
end Go.Tb
/- The end of one operation of a drawn region's chain, part by part. -/
namespace Go.Ab
theorem stE1 {e e' : Exit} {d : Nat} {a a' : A} {f : List (Nat × A)} {bx bx' : List (Nat × List A)} {lv lv' : List Nat} {gen gen' : Nat} (he : e = e') (ha : a = a') (hb : bx = bx') (hl : lv = lv') (hg : gen = gen') :
    e = e' ∧ (⟨(d, a) :: f, bx, lv, gen⟩ : St) = ⟨(d, a') :: f, bx', lv', gen'⟩ := by subst he ha hb hl hg; exact ⟨rfl, rfl⟩
end Go.Ab
/- Typed data out of a reading: heaps. -/
namespace Go.Tb
open Go.Ab
section
variable {P : Program} {T : Tab P} {l : List D}
theorem conf_st4x {t a b c d : Nat} {oa ob oc od : Nat} {na nb nc nd : String} (h : Conf T t l) (hk : kdAt T t = .st [(oa, a, na), (ob, b, nb), (oc, c, nc), (od, d, nd)]) :
    ∃ p q r s, l = p ++ (q ++ (r ++ s)) ∧ Conf T a p ∧ Conf T b q ∧ Conf T c r ∧ Conf T d s := by
  obtain ⟨ps, rfl, hl, hc⟩ := h.toSt hk
  match ps, hl with
  | [p, q, r, s], _ =>
    exact ⟨p, q, r, s, by simp, hc 0 _ _ _ p rfl rfl, hc 1 _ _ _ q rfl rfl, hc 2 _ _ _ r rfl rfl, hc 3 _ _ _ s rfl rfl⟩
theorem conf_st2x {t a b : Nat} {oa ob : Nat} {na nb : String} (h : Conf T t l) (hk : kdAt T t = .st [(oa, a, na), (ob, b, nb)]) :
    ∃ p q, l = p ++ q ∧ Conf T a p ∧ Conf T b q := by
  obtain ⟨ps, rfl, hl, hc⟩ := h.toSt hk
  match ps, hl with
  | [p, q], _ => exact ⟨p, q, by simp, hc 0 _ _ _ p rfl rfl, hc 1 _ _ _ q rfl rfl⟩
variable {th tos to ti ts tis o1 o2 o3 o4 o5 o6 : Nat} {n1 n2 n3 n4 n5 n6 : String}
theorem conf_ob (h : Conf T to l) (ho : kdAt T to = .st [(o1, ti, n1), (o2, ti, n2), (o3, ts, n3), (o4, tis, n4)]) (hi : kdAt T ti = .int .i64) (hs : kdAt T ts = .str) (hl : kdAt T tis = .slice ti) : ∃ x : Ob, l = x.c := by
  obtain ⟨p, q, r, s, rfl, h1, h2, h3, h4⟩ := conf_st4x h ho
  obtain ⟨a, rfl⟩ := conf_int h1 hi
  obtain ⟨b, rfl⟩ := conf_int h2 hi
  obtain ⟨c, rfl⟩ := conf_str h3 hs
  obtain ⟨d, rfl⟩ := conf_sl (f := ic) h4 hl (fun x hx => conf_int hx hi)
  exact ⟨⟨a, b, c, d⟩, rfl⟩
theorem conf_heap (h : Conf T th l) (hh : kdAt T th = .st [(o5, tos, n5), (o6, tis, n6)]) (hos : kdAt T tos = .slice to) (ho : kdAt T to = .st [(o1, ti, n1), (o2, ti, n2), (o3, ts, n3), (o4, tis, n4)]) (hi : kdAt T ti = .int .i64) (hs : kdAt T ts = .str) (hl : kdAt T tis = .slice ti) : ∃ x : Hp, l = x.c := by
  obtain ⟨p, q, rfl, h1, h2⟩ := conf_st2x h hh
  obtain ⟨a, rfl⟩ := conf_sl (f := Ob.c) h1 hos (fun x hx => conf_ob hx ho hi hs hl)
  obtain ⟨b, rfl⟩ := conf_sl (f := ic) h2 hl (fun x hx => conf_int hx hi)
  exact ⟨⟨a, b⟩, rfl⟩
end
end Go.Tb
