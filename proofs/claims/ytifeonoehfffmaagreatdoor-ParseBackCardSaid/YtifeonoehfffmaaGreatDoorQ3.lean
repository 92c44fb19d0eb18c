import Derived.Test.YtifeonoehfffmaaGreatDoorQ2
namespace Go.Tb
open Go.Ab
theorem bys_append (a b : ByteArray) : bys (a ++ b) = bys a ++ bys b := by unfold bys; simp [ByteArray.data_append]
theorem ofL_bs (s : ByteArray) : ofL (bys s) = s := (ofL_of rfl).symm
theorem bys_ofL (l : List UInt8) : bys (ofL l) = l := by unfold bys ofL; simp
def opText : Int → ByteArray := fun op => if op = 5 then gAdd else if op = 6 then gSub else if op = 7 then gMul else if op = 8 then gDiv else if op = 9 then gMod else if op = 10 then gEq else if op = 11 then gNe else if op = 12 then gLt else if op = 13 then gLe else if op = 14 then kwAnd else kwOr
def digsB (n : Int) : ByteArray := ofL (digB n.toNat)
def plainB (v : Val) : ByteArray :=
  if v.kind = 0 then kwNull else if v.kind = 3 then B #[34] ++ v.s ++ B #[34] else if v.kind = 1 ∧ v.n = 1 then kwTrue else if v.kind = 1 then kwFalse
  else if v.n < 0 then B #[40, 45] ++ digsB (-v.n) ++ B #[41] else digsB v.n
def commaGo (x : ByteArray) (out : ByteArray) : List ByteArray → ByteArray
  | [] => out
  | s :: r => commaGo x (out ++ x ++ s) r
def commaB (x : ByteArray) (out : ByteArray) : List ByteArray → ByteArray
  | [] => out
  | s :: r => commaGo x (out ++ s) r
def fullN (op : Int) (name : ByteArray) (v : Val) (l : List ByteArray) : ByteArray :=
  if op = 1 then plainB v else if op = 2 then name
  else if op = 3 then B #[40, 110, 111, 116, 32] ++ l.headD E0 ++ B #[41]
  else if op = 4 then B #[45] ++ l.headD E0
  else if op = 16 then commaB (B #[44]) (name ++ B #[40]) l ++ B #[41]
  else B #[40] ++ l.headD E0 ++ B #[32] ++ opText op ++ B #[32] ++ l.tail.headD E0 ++ B #[41]
mutual
def fullB : Ex → ByteArray
  | .mk op name v kids => fullN op name v (fullBs kids)
def fullBs : List Ex → List ByteArray
  | [] => []
  | e :: r => fullB e :: fullBs r
end
theorem fullBs_map : ∀ l, fullBs l = l.map fullB
  | [] => rfl
  | e :: r => by simp [fullBs, fullBs_map r]
inductive Vx : Ex → Prop
  | const (v : Val) (h : constErr v = 0) : Vx (exK v)
  | field (s : ByteArray) (h : identB s = true) : Vx (exF s)
  | not_ (k : Ex) (h : Vx k) : Vx (mk1 3 k)
  | neg (k : Ex) (h : Vx k) : Vx (mk1 4 k)
  | bin (op : Int) (a b : Ex) (h5 : 5 ≤ op) (h15 : op ≤ 15) (ha : Vx a) (hb : Vx b) : Vx (mk2 op a b)
  | call1 (s : ByteArray) (k : Ex) (h : identB s = true) (hk : Vx k) : Vx (exC s [k])
  | call2 (s : ByteArray) (a b : Ex) (h : identB s = true) (ha : Vx a) (hb : Vx b) : Vx (exC s [a, b])
theorem zeroV_eq {v : Val} (h : zeroV v = true) : v = v0 := by
  simp only [zeroV, Bool.and_eq_true, decide_eq_true_eq] at h
  obtain ⟨a, b, c⟩ := v
  simp only at h
  obtain ⟨h1, h2, h3, _⟩ := h
  subst h1; subst h2; subst h3
  rfl
theorem nodesErrL_mem : ∀ {l : List Ex}, nodesErrL l = 0 → ∀ k ∈ l, nodesErr k = 0
  | [], _, k, hk => by cases hk
  | x :: r, h, k, hk => by
    simp only [nodesErrL] at h
    split at h
    · rename_i q; exact absurd h q
    · rename_i q
      rcases List.mem_cons.1 hk with e | e
      · rw [e]; simpa using q
      · exact nodesErrL_mem h k e
theorem vx_of : ∀ e : Ex, nodesErr e = 0 → Vx e := by
  refine Ex.ind fun e ih h => ?_
  rw [nodesErr_eq] at h
  by_cases q : nodeErr e ≠ 0
  · rw [if_pos q] at h; exact absurd h q
  rw [if_neg q] at h
  have hk := nodesErrL_mem h
  have q' : nodeErr e = 0 := by simpa using q
  have ihk : ∀ k ∈ e.kids, Vx k := fun k hm => ih k hm (hk k hm)
  clear q h hk ih
  unfold nodeErr at q'
  by_cases h1 : e.op < 1 ∨ 16 < e.op
  · rw [if_pos h1] at q'; cases q'
  rw [if_neg h1] at q'
  by_cases h2 : (e.op ≠ 2 ∧ e.op ≠ 16 ∧ e.name ≠ B #[]) ∨ (e.op ≠ 1 ∧ zeroV e.v = false) ∨ (0 ≤ kidsOf e.op ∧ (e.kids.length : Int) ≠ kidsOf e.op)
  · rw [if_pos h2] at q'; cases q'
  rw [if_neg h2] at q'
  simp only [not_or, not_and, Bool.not_eq_false, Decidable.not_not] at h1 h2
  obtain ⟨a1, a2, a3⟩ := h2
  obtain ⟨op, name, v, kids⟩ := e
  change ∀ k ∈ kids, Vx k at ihk
  change op ≠ 2 → op ≠ 16 → name = B #[] at a1
  change op ≠ 1 → zeroV v = true at a2
  change 0 ≤ kidsOf op → (kids.length : Int) = kidsOf op at a3
  change ¬ op < 1 ∧ ¬ 16 < op at h1
  by_cases n1 : op = 1
  · rw [if_pos (show (Ex.mk op name v kids).op = 1 from n1)] at q'
    subst n1
    have e1 : name = E0 := a1 (by decide) (by decide)
    have e3 : kids = [] := List.length_eq_zero_iff.1 (by have h0 := a3 (by decide); rw [show kidsOf 1 = 0 by decide] at h0; omega)
    subst e1; subst e3
    exact .const v q'
  rw [if_neg (show ¬ (Ex.mk op name v kids).op = 1 from n1)] at q'
  have e2 : v = v0 := zeroV_eq (a2 n1)
  subst e2
  by_cases n2 : op = 2
  · rw [if_pos (show (Ex.mk op name v0 kids).op = 2 from n2)] at q'
    subst n2
    have e3 : kids = [] := List.length_eq_zero_iff.1 (by have h0 := a3 (by decide); rw [show kidsOf 2 = 0 by decide] at h0; omega)
    subst e3
    by_cases hi : identB name = true
    · exact .field name hi
    · rw [if_neg (show ¬ identB (Ex.mk 2 name v0 []).name = true from hi)] at q'; cases q'
  rw [if_neg (show ¬ (Ex.mk op name v0 kids).op = 2 from n2)] at q'
  by_cases n16 : op = 16
  · rw [if_pos (show (Ex.mk op name v0 kids).op = 16 from n16)] at q'
    subst n16
    by_cases hi : identB name = false
    · rw [if_pos (show identB (Ex.mk 16 name v0 kids).name = false from hi)] at q'; cases q'
    rw [if_neg (show ¬ identB (Ex.mk 16 name v0 kids).name = false from hi)] at q'
    by_cases ha : arity name = 0
    · rw [if_pos (show arity (Ex.mk 16 name v0 kids).name = 0 from ha)] at q'; cases q'
    rw [if_neg (show ¬ arity (Ex.mk 16 name v0 kids).name = 0 from ha)] at q'
    by_cases hl : (kids.length : Int) ≠ arity name
    · rw [if_pos (show ((Ex.mk 16 name v0 kids).kids.length : Int) ≠ arity (Ex.mk 16 name v0 kids).name from hl)] at q'; cases q'
    have hl' : (kids.length : Int) = arity name := by simpa using hl
    have hi' : identB name = true := by simpa using hi
    have har : arity name = 1 ∨ arity name = 2 := by
      unfold arity at ha ⊢
      by_cases r1 : name = wMin ∨ name = wMax ∨ name = wHas ∨ name = wStarts
      · rw [if_pos r1]; exact .inr rfl
      · rw [if_neg r1] at ha ⊢
        by_cases r2 : name = wAbs ∨ name = wLen
        · rw [if_pos r2]; exact .inl rfl
        · rw [if_neg r2] at ha; exact absurd rfl ha
    match kids, ihk, hl' with
    | [], _, hl' => simp only [List.length_nil] at hl'; omega
    | [a], ihk, _ => exact .call1 name a hi' (ihk a (by simp))
    | [a, b], ihk, _ => exact .call2 name a b hi' (ihk a (by simp)) (ihk b (by simp))
    | a :: b :: c :: r, _, hl' => simp only [List.length_cons] at hl'; omega
  have e1 : name = E0 := a1 n2 n16
  subst e1
  by_cases h34 : op = 3 ∨ op = 4
  · have hl := a3 (by rcases h34 with rfl | rfl <;> decide)
    have hl1 : kids.length = 1 := by rcases h34 with rfl | rfl <;> (simp [kidsOf] at hl; omega)
    match kids, ihk, hl1 with
    | [a], ihk, _ =>
      rcases h34 with rfl | rfl
      · exact .not_ a (ihk a (by simp))
      · exact .neg a (ihk a (by simp))
  · have hko : kidsOf op = 2 := by unfold kidsOf; rw [if_neg (by omega), if_neg h34, if_neg n16]
    have hl := a3 (by rw [hko]; decide)
    rw [hko] at hl
    match kids, ihk, hl with
    | [], _, hl => simp at hl
    | [a], _, hl => simp at hl
    | [a, b], ihk, _ => exact .bin op a b (by omega) (by omega) (ihk a (by simp)) (ihk b (by simp))
    | a :: b :: c :: r, _, hl => simp only [List.length_cons] at hl; omega
/-! ### its tokens -/
abbrev sgT (x : ByteArray) : Tk := ⟨5, x, 0, 0, 0⟩
abbrev wdT (x : ByteArray) : Tk := ⟨2, x, 0, 0, 0⟩
abbrev txT (x : ByteArray) : Tk := ⟨4, x, 0, 0, 0⟩
abbrev nuT (n : Int) : Tk := ⟨3, digsB n, n, 0, 0⟩
def plainT (v : Val) : List Tk :=
  if v.kind = 0 then [wdT kwNull] else if v.kind = 3 then [txT v.s] else if v.kind = 1 ∧ v.n = 1 then [wdT kwTrue] else if v.kind = 1 then [wdT kwFalse]
  else if v.n < 0 then [sgT gOpen, sgT gSub, nuT (-v.n), sgT gShut] else [nuT v.n]
def opT' (op : Int) : Tk := if op = 14 ∨ op = 15 then wdT (opText op) else sgT (opText op)
def tokN (op : Int) (name : ByteArray) (v : Val) (l : List (List Tk)) : List Tk :=
  if op = 1 then plainT v else if op = 2 then [wdT name]
  else if op = 3 then sgT gOpen :: wdT kwNot :: (l.headD [] ++ [sgT gShut])
  else if op = 4 then sgT gSub :: l.headD []
  else if op = 16 then wdT name :: sgT gOpen :: (match l with | [] => [] | [a] => a | a :: b :: _ => a ++ sgT gCom :: b) ++ [sgT gShut]
  else sgT gOpen :: (l.headD [] ++ opT' op :: (l.tail.headD [] ++ [sgT gShut]))
mutual
def tokE : Ex → List Tk
  | .mk op name v kids => tokN op name v (tokEs kids)
def tokEs : List Ex → List (List Tk)
  | [] => []
  | e :: r => tokE e :: tokEs r
end
def Stop (t : List UInt8) : Prop := ∀ b, t.head? = some b → wrdB b = false
theorem stop_cons {b : UInt8} {t : List UInt8} (h : wrdB b = false) : Stop (b :: t) := fun c hc => by simp at hc; subst hc; exact h
theorem stop_nil : Stop [] := fun c hc => by cases hc
theorem takeW_all {p : UInt8 → Bool} {w t : List UInt8} (h : ∀ b ∈ w, p b = true) (ht : ∀ b, t.head? = some b → p b = false) : (w ++ t).takeWhile p = w ∧ (w ++ t).dropWhile p = t := by
  induction w with
  | nil =>
    cases t with
    | nil => exact ⟨rfl, rfl⟩
    | cons a t =>
      have := ht a rfl
      rw [List.nil_append, List.takeWhile_cons, List.dropWhile_cons, if_neg (by simp [this]), if_neg (by simp [this])]
      exact ⟨rfl, rfl⟩
  | cons a w ih =>
    have h1 := h a (by simp)
    obtain ⟨i1, i2⟩ := ih (fun b hb => h b (by simp [hb]))
    rw [List.cons_append, List.takeWhile_cons, List.dropWhile_cons, if_pos h1, if_pos h1, i1, i2]
    exact ⟨rfl, rfl⟩
abbrev lexC (l : List UInt8) : List Tk := (lex l).map Tk.core
theorem lexC_of {c : UInt8} {r t : List UInt8} {k : Tk} (hw : whiB c = false) (h1 : (lexA c r).1.core = k) (hk : k.kind ≠ 1) (h2 : (lexA c r).2 = t) : lexC (c :: r) = k :: lexC t := by
  have e : (c :: r).dropWhile whiB = c :: r := by rw [List.dropWhile_cons, if_neg (by simp [hw])]
  have h3 : (lexA c r).1.kind ≠ 1 := by
    have := congrArg Tk.kind h1
    have h4 : (lexA c r).1.kind = k.kind := this
    rw [h4]; exact hk
  unfold lexC
  rw [lex_cons e, if_neg h3, List.map_cons, h1, h2]
theorem lexC_sp (t : List UInt8) : lexC (32 :: t) = lexC t := by unfold lexC; rw [lex_white (by decide)]
theorem letB_white {c : UInt8} (h : letB c = true) : whiB c = false := by
  simp only [letB, Bool.and_eq_true, decide_eq_true_eq] at h
  simp only [whiB, Bool.or_eq_false_iff, decide_eq_false_iff_not]
  refine ⟨⟨⟨?_, ?_⟩, ?_⟩, ?_⟩ <;> (rintro rfl; exact absurd h (by decide))
theorem isDig_white {c : UInt8} (h : isDig c = true) : whiB c = false ∧ letB c = false := by
  have h' := h
  simp only [isDig, Bool.and_eq_true, decide_eq_true_eq] at h
  refine ⟨?_, ?_⟩
  · simp only [whiB, Bool.or_eq_false_iff, decide_eq_false_iff_not]
    refine ⟨⟨⟨?_, ?_⟩, ?_⟩, ?_⟩ <;> (rintro rfl; exact absurd h (by decide))
  · simp only [letB, Bool.and_eq_false_iff, decide_eq_false_iff_not]
    omega
theorem lexC_word {w : List UInt8} {c : UInt8} {r t : List UInt8} (hw : w = c :: r) (hc : letB c = true) (ha : ∀ b ∈ w, wrdB b = true) (ht : Stop t) : lexC (w ++ t) = wdT (ofL w) :: lexC t := by
  obtain ⟨e1, e2⟩ := takeW_all ha ht
  subst hw
  rw [List.cons_append] at e1 e2 ⊢
  refine lexC_of (letB_white hc) ?_ (show (2 : Int) ≠ 1 by decide) ?_
  · unfold lexA; rw [if_pos hc]; simp only [e1]
  · unfold lexA; rw [if_pos hc]; exact e2
theorem lexC_ident {s : ByteArray} {t : List UInt8} (h : identB s = true) (ht : Stop t) : lexC (bys s ++ t) = wdT s :: lexC t := by
  simp only [identB, Bool.and_eq_true, Bool.not_eq_true', decide_eq_false_iff_not] at h
  obtain ⟨⟨⟨⟨h1, _⟩, h3⟩, h4⟩, _⟩ := h
  cases q : bys s with
  | nil => exact absurd (by rw [← ofL_bs s, q]; rfl) h1
  | cons c r =>
    rw [q, List.headD_cons] at h3
    have h5 := lexC_word (w := c :: r) rfl (t := t) h3 (fun b hb => ?_) ht
    · rw [h5, ← q, ofL_bs]
    · have := List.all_eq_true.1 h4 b (by rw [q]; exact hb)
      simp only [idChar, Bool.or_eq_true, decide_eq_true_eq] at this
      simp only [wrdB, Bool.or_eq_true, decide_eq_true_eq]
      rcases this with (h | h) | h
      · exact .inl (.inl h)
      · exact .inl (.inr (by simpa [isDig] using h))
      · exact .inr (by apply UInt8.toNat_inj.1; rw [h]; rfl)
theorem digs_ok {n : Int} (h0 : 0 ≤ n) (h1 : n ≤ 1000000000000000) : numP (digsB n) = (n, true) := by
  have h := numP_num (n := n) (by simp [inR]; omega)
  have e : numB n = digsB n := by unfold numB digsB ofL; rw [numB_pos h0]
  rw [← e]; exact h
theorem lexC_num {n : Int} {t : List UInt8} (h0 : 0 ≤ n) (h1 : n ≤ 1000000000000000) (ht : Stop t) : lexC (bys (digsB n) ++ t) = nuT n :: lexC t := by
  have hb : bys (digsB n) = digB n.toNat := bys_ofL _
  rw [hb]
  have ha := digB_dig n.toNat
  obtain ⟨e1, e2⟩ := takeW_all (t := t) ha (fun b hb => by have := ht b hb; simp only [wrdB, Bool.or_eq_false_iff] at this; exact this.1.2)
  cases q : digB n.toNat with
  | nil => exact absurd q (digB_ne _)
  | cons c r =>
    rw [q, List.cons_append] at e1 e2
    have hc := ha c (by rw [q]; simp)
    obtain ⟨w1, w2⟩ := isDig_white hc
    have hn := digs_ok h0 h1
    have e3 : ofL (c :: r) = digsB n := by unfold digsB; rw [q]
    rw [List.cons_append]
    refine lexC_of w1 ?_ (show (3 : Int) ≠ 1 by decide) ?_
    · unfold lexA
      rw [if_neg (by simp [w2]), if_pos hc]
      simp only [e1, e3, hn, if_true]
    · unfold lexA
      rw [if_neg (by simp [w2]), if_pos hc]
      simp only [e1, e3, hn, if_true]
      exact e2
theorem lexC_text {s : ByteArray} {t : List UInt8} (h : (bys s).any badChar = false) : lexC (34 :: (bys s ++ 34 :: t)) = txT s :: lexC t := by
  have ha : ∀ b ∈ bys s, txtB b = true := fun b hb => by
    have := List.any_eq_false.1 h b hb
    simp only [badChar, Bool.or_eq_true, decide_eq_true_eq, not_or] at this
    simp only [txtB, Bool.and_eq_true, Bool.not_eq_true', decide_eq_true_eq, decide_eq_false_iff_not]
    refine ⟨⟨by omega, by omega⟩, fun e => this.2 (by rw [e]; rfl)⟩
  obtain ⟨e1, e2⟩ := takeW_all (t := 34 :: t) ha (fun b hb => by simp at hb; subst hb; decide)
  refine lexC_of (by decide) ?_ (show (4 : Int) ≠ 1 by decide) ?_
  · unfold lexA
    rw [if_neg (by decide), if_neg (by decide), if_pos rfl, e2, if_pos (show (34 :: t).head? = some 34 from rfl)]
    simp only [e1, ofL_bs]
  · unfold lexA
    rw [if_neg (by decide), if_neg (by decide), if_pos rfl, e2, if_pos (show (34 :: t).head? = some 34 from rfl)]
    rfl
theorem lexC_sign {c : UInt8} {t : List UInt8} (hc : letB c = false) (hd : isDig c = false) (h34 : c ≠ 34) (hw : whiB c = false) (h1 : sgn1 c = true) (h2 : t.head? ≠ some 61 ∨ sgn2 c = false) : lexC (c :: t) = sgT (ofL [c]) :: lexC t := by
  have hn : ¬ (t.head? = some 61 ∧ sgn2 c = true) := fun ⟨a, b⟩ => by rcases h2 with h | h; exact h a; rw [h] at b; cases b
  refine lexC_of hw ?_ (show (5 : Int) ≠ 1 by decide) ?_
  · unfold lexA
    rw [if_neg (by simp [hc]), if_neg (by simp [hd]), if_neg h34, if_neg hn, if_pos h1]
  · unfold lexA
    rw [if_neg (by simp [hc]), if_neg (by simp [hd]), if_neg h34, if_neg hn, if_pos h1]
theorem lexC_open (t : List UInt8) : lexC (40 :: t) = sgT gOpen :: lexC t := lexC_sign (by decide) (by decide) (by decide) (by decide) (by decide) (.inr (by decide))
theorem lexC_shut (t : List UInt8) : lexC (41 :: t) = sgT gShut :: lexC t := lexC_sign (by decide) (by decide) (by decide) (by decide) (by decide) (.inr (by decide))
theorem lexC_com (t : List UInt8) : lexC (44 :: t) = sgT gCom :: lexC t := lexC_sign (by decide) (by decide) (by decide) (by decide) (by decide) (.inr (by decide))
theorem lexC_sub (t : List UInt8) : lexC (45 :: t) = sgT gSub :: lexC t := lexC_sign (by decide) (by decide) (by decide) (by decide) (by decide) (.inr (by decide))
theorem lexC_two {c : UInt8} {t : List UInt8} (h : c = 33 ∨ c = 60) : lexC (c :: 61 :: t) = sgT (ofL [c, 61]) :: lexC t := by
  rcases h with rfl | rfl
  · exact lexC_of (by decide) (by unfold lexA; rw [if_neg (by decide), if_neg (by decide), if_neg (by decide), if_pos ⟨rfl, by decide⟩]) (by decide) (by unfold lexA; rw [if_neg (by decide), if_neg (by decide), if_neg (by decide), if_pos ⟨rfl, by decide⟩]; rfl)
  · exact lexC_of (by decide) (by unfold lexA; rw [if_neg (by decide), if_neg (by decide), if_neg (by decide), if_pos ⟨rfl, by decide⟩]) (by decide) (by unfold lexA; rw [if_neg (by decide), if_neg (by decide), if_neg (by decide), if_pos ⟨rfl, by decide⟩]; rfl)
theorem lexC_kw {s : ByteArray} {t : List UInt8} (h : s = kwNull ∨ s = kwTrue ∨ s = kwFalse ∨ s = kwNot ∨ s = kwAnd ∨ s = kwOr) (ht : Stop t) : lexC (bys s ++ t) = wdT s :: lexC t := by
  rcases h with rfl | rfl | rfl | rfl | rfl | rfl <;> (rw [lexC_word (w := bys _) (c := _) (r := _) rfl (by decide) (by decide) ht, ofL_bs])
theorem lexC_op {op : Int} (h5 : 5 ≤ op) (h15 : op ≤ 15) (t : List UInt8) : lexC (bys (opText op) ++ 32 :: t) = opT' op :: lexC (32 :: t) := by
  have sp : Stop (32 :: t) := stop_cons (by decide)
  have h : op = 5 ∨ op = 6 ∨ op = 7 ∨ op = 8 ∨ op = 9 ∨ op = 10 ∨ op = 11 ∨ op = 12 ∨ op = 13 ∨ op = 14 ∨ op = 15 := by omega
  rcases h with rfl | rfl | rfl | rfl | rfl | rfl | rfl | rfl | rfl | rfl | rfl
  · exact lexC_sign (c := 43) (by decide) (by decide) (by decide) (by decide) (by decide) (.inr (by decide))
  · exact lexC_sign (c := 45) (by decide) (by decide) (by decide) (by decide) (by decide) (.inr (by decide))
  · exact lexC_sign (c := 42) (by decide) (by decide) (by decide) (by decide) (by decide) (.inr (by decide))
  · exact lexC_sign (c := 47) (by decide) (by decide) (by decide) (by decide) (by decide) (.inr (by decide))
  · exact lexC_sign (c := 37) (by decide) (by decide) (by decide) (by decide) (by decide) (.inr (by decide))
  · exact lexC_sign (c := 61) (by decide) (by decide) (by decide) (by decide) (by decide) (.inr (by decide))
  · exact lexC_two (.inl rfl)
  · exact lexC_sign (c := 60) (by decide) (by decide) (by decide) (by decide) (by decide) (.inl (show (32 :: t).head? ≠ some 61 by simp))
  · exact lexC_two (.inr rfl)
  · exact lexC_kw (.inr (.inr (.inr (.inr (.inl rfl))))) sp
  · exact lexC_kw (.inr (.inr (.inr (.inr (.inr rfl))))) sp
theorem lex_plain {v : Val} (h : constErr v = 0) {t : List UInt8} (ht : Stop t) : lexC (bys (plainB v) ++ t) = plainT v ++ lexC t := by
  simp only [constErr] at h
  split at h
  · rename_i q; exact absurd h q
  rename_i q
  split at h
  · cases h
  rename_i hb
  have hb' : (bys v.s).any badChar = false := by simpa using hb
  have q' : valErr v.kind v = 0 := by simpa using q
  simp only [valErr] at q'
  split at q'
  · cases q'
  rename_i k1
  split at q'
  · cases q'
  rename_i k2
  simp only [not_or, not_and, Bool.not_eq_false] at k2
  unfold plainB plainT
  by_cases e0 : v.kind = 0
  · rw [if_pos e0, if_pos e0]; exact lexC_kw (.inl rfl) ht
  rw [if_neg e0, if_neg e0]
  by_cases e3 : v.kind = 3
  · rw [if_pos e3, if_pos e3, bys_append, bys_append]
    show lexC ((34 :: bys v.s) ++ [34] ++ t) = _
    rw [List.append_assoc]
    exact lexC_text hb'
  rw [if_neg e3, if_neg e3]
  by_cases e1 : v.kind = 1 ∧ v.n = 1
  · rw [if_pos e1, if_pos e1]; exact lexC_kw (.inr (.inl rfl)) ht
  rw [if_neg e1, if_neg e1]
  by_cases e2 : v.kind = 1
  · rw [if_pos e2, if_pos e2]; exact lexC_kw (.inr (.inr (.inl rfl))) ht
  rw [if_neg e2, if_neg e2]
  have ek : v.kind = 2 := by omega
  have hr := k2.2 ek
  simp only [inR, Bool.and_eq_true, decide_eq_true_eq] at hr
  by_cases en : v.n < 0
  · rw [if_pos en, if_pos en, bys_append, bys_append]
    show lexC ((40 :: 45 :: bys (digsB (-v.n))) ++ [41] ++ t) = _
    rw [List.append_assoc, List.cons_append, List.cons_append, lexC_open, lexC_sub]
    show sgT gOpen :: sgT gSub :: lexC (bys (digsB (-v.n)) ++ 41 :: t) = _
    rw [lexC_num (by omega) (by omega) (stop_cons (by decide)), lexC_shut]
    rfl
  · rw [if_neg en, if_neg en, lexC_num (by omega) (by omega) ht]
    rfl
theorem lex_full {e : Ex} (hv : Vx e) : ∀ t, Stop t → lexC (bys (fullB e) ++ t) = tokE e ++ lexC t := by
  induction hv with
  | const v h => intro t ht; exact lex_plain h ht
  | field s h => intro t ht; exact lexC_ident h ht
  | not_ k _ ih =>
    intro t ht
    show lexC (bys (B #[40, 110, 111, 116, 32] ++ fullB k ++ B #[41]) ++ t) = (sgT gOpen :: wdT kwNot :: (tokE k ++ [sgT gShut])) ++ lexC t
    rw [bys_append, bys_append]
    show lexC ((40 :: (bys kwNot ++ 32 :: bys (fullB k))) ++ [41] ++ t) = _
    rw [List.append_assoc, List.cons_append, List.append_assoc, List.cons_append, lexC_open, lexC_kw (.inr (.inr (.inr (.inl rfl)))) (stop_cons (by decide)), lexC_sp]
    show sgT gOpen :: wdT kwNot :: lexC (bys (fullB k) ++ 41 :: t) = _
    rw [ih _ (stop_cons (by decide)), lexC_shut]
    simp [List.append_assoc]
  | neg k _ ih =>
    intro t ht
    show lexC (bys (B #[45] ++ fullB k) ++ t) = (sgT gSub :: tokE k) ++ lexC t
    rw [bys_append]
    show lexC (45 :: (bys (fullB k) ++ t)) = _
    rw [lexC_sub, ih t ht]
    rfl
  | bin op a b h5 h15 _ _ iha ihb =>
    intro t ht
    have e1 : fullB (mk2 op a b) = B #[40] ++ fullB a ++ B #[32] ++ opText op ++ B #[32] ++ fullB b ++ B #[41] := by
      show fullN op E0 v0 [fullB a, fullB b] = _
      unfold fullN
      rw [if_neg (by omega), if_neg (by omega), if_neg (by omega), if_neg (by omega), if_neg (by omega)]
      rfl
    have e2 : tokE (mk2 op a b) = sgT gOpen :: (tokE a ++ opT' op :: (tokE b ++ [sgT gShut])) := by
      show tokN op E0 v0 [tokE a, tokE b] = _
      unfold tokN
      rw [if_neg (by omega), if_neg (by omega), if_neg (by omega), if_neg (by omega), if_neg (by omega)]
      rfl
    rw [e1, e2, bys_append, bys_append, bys_append, bys_append, bys_append, bys_append]
    have e3 : bys (B #[40]) ++ bys (fullB a) ++ bys (B #[32]) ++ bys (opText op) ++ bys (B #[32]) ++ bys (fullB b) ++ bys (B #[41]) ++ t = 40 :: (bys (fullB a) ++ 32 :: (bys (opText op) ++ 32 :: (bys (fullB b) ++ 41 :: t))) := by
      simp [bys, List.append_assoc]
    rw [e3, lexC_open, iha _ (stop_cons (by decide)), lexC_sp, lexC_op h5 h15, lexC_sp, ihb _ (stop_cons (by decide)), lexC_shut]
    simp [List.append_assoc]
  | call1 s k h _ ih =>
    intro t ht
    show lexC (bys (s ++ B #[40] ++ fullB k ++ B #[41]) ++ t) = (wdT s :: sgT gOpen :: tokE k ++ [sgT gShut]) ++ lexC t
    rw [bys_append, bys_append, bys_append]
    have e3 : bys s ++ bys (B #[40]) ++ bys (fullB k) ++ bys (B #[41]) ++ t = bys s ++ 40 :: (bys (fullB k) ++ 41 :: t) := by simp [bys, List.append_assoc]
    rw [e3, lexC_ident h (stop_cons (by decide)), lexC_open, ih _ (stop_cons (by decide)), lexC_shut]
    simp [List.append_assoc]
  | call2 s a b h _ _ iha ihb =>
    intro t ht
    show lexC (bys (s ++ B #[40] ++ fullB a ++ B #[44] ++ fullB b ++ B #[41]) ++ t) = (wdT s :: sgT gOpen :: (tokE a ++ sgT gCom :: tokE b) ++ [sgT gShut]) ++ lexC t
    rw [bys_append, bys_append, bys_append, bys_append, bys_append]
    have e3 : bys s ++ bys (B #[40]) ++ bys (fullB a) ++ bys (B #[44]) ++ bys (fullB b) ++ bys (B #[41]) ++ t = bys s ++ 40 :: (bys (fullB a) ++ 44 :: (bys (fullB b) ++ 41 :: t)) := by simp [bys, List.append_assoc]
    rw [e3, lexC_ident h (stop_cons (by decide)), lexC_open, iha _ (stop_cons (by decide)), lexC_com, ihb _ (stop_cons (by decide)), lexC_shut]
    simp [List.append_assoc]
end Go.Tb
namespace Go.Ab
open Go.RowKit
/-! ### whatever the states are -/
section
variable {P : Program} {ops : Array Oper} {md : Region.Mode} {m : Nat} {S E : Type} (Y : Nat → E → S → Prop) (ef : Nat → E → S → S)
def Closed (md : Region.Mode) (ops : Array Oper) (listed : Array Bool) : Prop :=
  ∀ j oj, ops[j]? = some oj → listed.getD j false = true → ∀ e ∈ oj.after, Region.binds md e = true → listed.getD e.on false = true
def reachB (md : Region.Mode) (ops : Array Oper) : Nat → Nat → Nat → Bool
  | 0, _, _ => false
  | k + 1, j, i => behindB md ops j i || (match ops[j]? with | some o => o.after.toList.any fun e => Region.binds md e && reachB md ops k e.on i | none => false)
theorem reach_listed {listed : Array Bool} (hc : Closed md ops listed) : ∀ (k j i : Nat), reachB md ops k j i = true → (∀ oj, ops[j]? = some oj → ∀ e ∈ oj.after, Region.binds md e = true → listed.getD e.on false = true) → listed.getD i false = true
  | 0, _, _, h, _ => by simp [reachB] at h
  | k + 1, j, i, h, hj => by
    simp only [reachB, Bool.or_eq_true] at h
    cases hoj : ops[j]? with
    | none =>
      rw [hoj] at h
      simp [behindB, hoj] at h
    | some oj =>
      rcases h with h | h
      · obtain ⟨e, he, hb, heq⟩ := behindB_spec hoj h
        rw [← heq]
        exact hj oj hoj e he hb
      · rw [hoj] at h
        obtain ⟨e, he, hb⟩ := List.any_eq_true.1 h
        simp only [Bool.and_eq_true] at hb
        have he' : e ∈ oj.after := by simpa using he
        have hl := hj oj hoj e he' hb.1
        exact reach_listed hc k e.on i hb.2 fun o ho e' he'' hb' => hc e.on o ho hl e' he'' hb'
def waitT (md : Region.Mode) (ops : Array Oper) (m : Nat) : Bool := (List.range ops.size).all fun j => decide (j < m) || (List.range j).all fun i => reachB md ops ops.size j i
theorem waitsT {j : Nat} (h : waitT md ops m = true) (hm : m ≤ j) {i : Nat} (hij : i < j) {listed : Array Bool} (hc : Closed md ops listed) (hj : j ∈ Region.ready md ops listed) : listed.getD i false = true := by
  obtain ⟨_, oj, hoj, hall⟩ := mem_ready.1 hj
  have hlt : j < ops.size := (Array.getElem?_eq_some_iff.1 hoj).1
  have h1 := List.all_eq_true.1 h j (by simpa using hlt)
  simp only [Bool.or_eq_true, decide_eq_true_eq] at h1
  have h2 := List.all_eq_true.1 (h1.resolve_left (by omega)) i (by simpa using hij)
  exact reach_listed hc _ j i h2 fun o ho e he hb => by rw [hoj] at ho; cases ho; exact hall e he hb
theorem Closed.add {listed : Array Bool} (hc : Closed md ops listed) {i : Nat} (hi : i ∈ Region.ready md ops listed) : Closed md ops (listed.setIfInBounds i true) := by
  intro j oj hoj hl e he hb
  obtain ⟨_, oi, hoi, hall⟩ := mem_ready.1 hi
  by_cases hji : i = j
  · subst hji
    rw [hoi] at hoj
    cases hoj
    exact getD_set_true (hall e he hb)
  · rw [getD_set_ne false hji] at hl
    exact getD_set_true (hc j oj hoj hl e he hb)
def wpG (m : Nat) (md : Region.Mode) (ops : Array Oper) (Q : S → Prop) : Nat → Array Bool → S → Prop
  | 0, listed, σ => Split m ops listed ∧ Q σ
  | fuel + 1, listed, σ => Region.ready md ops listed ≠ [] ∧ ∀ i ∈ Region.ready md ops listed, ∃ e, Y i e σ ∧ wpG m md ops Q fuel (listed.setIfInBounds i true) (ef i e σ)
def Swap (i j : Nat) : Prop := ∀ e e' σ, Y i e σ → Y j e' (ef i e σ) → Y j e' σ ∧ Y i e (ef j e' σ) ∧ ef j e' (ef i e σ) = ef i e (ef j e' σ)
variable {Y} {ef}
theorem wpG_first {Q : S → Prop} {i : Nat} {oi : Oper} {e : E} (hw : waitT md ops m = true) (him : i < m) (hi : ops[i]? = some oi) :
    ∀ (fuel : Nat) (listed : Array Bool) (σ : S), Closed md ops listed →
      (∀ j oj, ops[j]? = some oj → j ≠ i → j < m → listed.getD j true = false → (∀ e ∈ oj.after, Region.binds md e = true → e.on ≠ i) → Swap Y ef i j) →
      i ∈ Region.ready md ops listed → Y i e σ → wpG Y ef m md ops Q fuel (listed.setIfInBounds i true) (ef i e σ) → wpG Y ef m md ops Q (fuel + 1) listed σ := by
  have unl : ∀ {listed : Array Bool}, i ∈ Region.ready md ops listed → listed.getD i false = false := fun hr => unlisted (mem_ready.1 hr).1
  intro fuel
  induction fuel with
  | zero =>
    intro listed σ hc _ hr hy H
    refine ⟨fun h => (by rw [h] at hr; cases hr), fun j hj => ?_⟩
    by_cases hji : j = i
    · subst hji; exact ⟨e, hy, H⟩
    · exfalso
      obtain ⟨⟨_, h1, h2⟩, _⟩ := H
      have hj1 := (mem_ready.1 hj).1
      by_cases hjm : j < m
      · have := h1 j hjm
        rw [getD_set_ne false (Ne.symm hji)] at this
        rw [unlisted hj1] at this
        cases this
      · have := waitsT hw (by omega) (show i < j by omega) hc hj
        rw [unl hr] at this
        cases this
  | succ fuel ih =>
    intro listed σ hc hfree hr hy H
    refine ⟨fun h => (by rw [h] at hr; cases hr), fun j hj => ?_⟩
    by_cases hji : j = i
    · subst hji; exact ⟨e, hy, H⟩
    · obtain ⟨e', hy', H'⟩ := H.2 j (ready_mono hj hji)
      obtain ⟨hjun, oj, hoj, hall⟩ := mem_ready.1 hj
      have hnot : ∀ e ∈ oj.after, Region.binds md e = true → e.on ≠ i := fun e he hb heq => by
        have h1 := hall e he hb
        rw [heq, unl hr] at h1
        cases h1
      have hjm : j < m := by
        rcases Nat.lt_or_ge j m with h | h
        · exact h
        · have := waitsT hw h (show i < j by omega) hc hj
          rw [unl hr] at this
          cases this
      obtain ⟨s1, s2, s3⟩ := hfree j oj hoj hji hjm hjun hnot e e' σ hy hy'
      have hfree' : ∀ k ok, ops[k]? = some ok → k ≠ i → k < m → (listed.setIfInBounds j true).getD k true = false → (∀ e ∈ ok.after, Region.binds md e = true → e.on ≠ i) → Swap Y ef i k := fun k ok hk hki hkm hun hno => by
        refine hfree k ok hk hki hkm ?_ hno
        by_cases hjk : j = k
        · subst hjk; exact hjun
        · rw [getD_set_ne true hjk] at hun; exact hun
      refine ⟨e', s1, ih (listed.setIfInBounds j true) _ (hc.add hj) hfree' (ready_mono hr (Ne.symm hji)) s2 ?_⟩
      rw [Array.setIfInBounds_comm _ _ hji, ← s3]
      exact H'
def ceG (Y : Nat → E → S → Prop) (ef : Nat → E → S → S) (Q : S → Prop) : List Oper → Nat → S → Prop
  | [], _, σ => Q σ
  | _ :: rest, i, σ => ∃ e, Y i e σ ∧ ceG Y ef Q rest (i + 1) (ef i e σ)
theorem wpG_lex {Q : S → Prop} (hw : waitT md ops m = true)
    (hsw : ∀ i j oi oj, ops[i]? = some oi → ops[j]? = some oj → i ≠ j → i < m → j < m → oi.apart ops oj = true → (∀ e ∈ oj.after, Region.binds md e = true → e.on ≠ i) → Swap Y ef i j) :
    ∀ (l : List Oper) (k : Nat) (listed : Array Bool) (σ : S), k + l.length = m → (∀ j, j < l.length → l[j]? = ops[k + j]?) → Closed md ops listed →
    listed.size = ops.size → (∀ j, j < k → listed.getD j false = true) → (∀ j, k ≤ j → j < ops.size → listed.getD j true = false) →
    lexE md ops l.length k listed = true → ceG Y ef Q l k σ → wpG Y ef m md ops Q l.length listed σ
  | [], k, listed, σ, hk, _, _, hs, h1, h2, _, h => ⟨⟨hs, fun j hj => h1 j (by simp at hk; omega), fun j hj hj' => h2 j (by simp at hk; omega) hj'⟩, h⟩
  | o :: l, k, listed, σ, hk, hl, hc, hs, h1, h2, hB, h => by
    have h0 : ops[k]? = some o := by simpa using (hl 0 (by simp)).symm
    have hks : k < ops.size := (Array.getElem?_eq_some_iff.1 h0).1
    simp only [List.length_cons, lexE, Bool.and_eq_true] at hB
    obtain ⟨⟨hr, hf⟩, hB'⟩ := hB
    have hr' : k ∈ Region.ready md ops listed := by simpa using hr
    obtain ⟨e, hy, hK⟩ := h
    have hkm : k < m := by simp at hk; omega
    refine wpG_first hw hkm h0 l.length listed σ hc (fun j oj hoj hjk hjm hun hno => hsw k j o oj h0 hoj (Ne.symm hjk) hkm hjm (Region.free_spec h0 hf j oj hoj hjk hun hno) hno) hr' hy
      (wpG_lex hw hsw l (k + 1) _ _ (by simp at hk; omega) (fun j hj => by have := hl (j + 1) (by simpa using hj); simpa [Nat.add_assoc, Nat.add_comm 1 j] using this) (hc.add hr') (by simpa using hs) (fun j hj => ?_) (fun j hj hj' => ?_) hB' hK)
    · rcases Nat.lt_succ_iff_lt_or_eq.1 hj with hlt | rfl
      · exact getD_set_true (h1 j hlt)
      · simp [hs, hks]
    · rw [getD_set_ne true (by omega)]
      exact h2 j (by omega) hj'
theorem wpAny_of_G {Sm : S → Act → World → Prop} {Q : S → Prop} {Q' : Exit → Act → World → Prop} {t : Nat}
    (hS : ∀ i e σ act w K, Sm σ act w → Y i e σ → (∀ act w, Sm (ef i e σ) act w → K act w) → wpOp P ops Q' i K act w)
    (hQ : ∀ listed σ act w, Sm σ act w → Closed md ops listed → Split m ops listed → Q σ → wpAny P md ops Q' t listed act w) :
    ∀ (fuel : Nat) (listed : Array Bool) (σ : S) (act : Act) (w : World), Sm σ act w → Closed md ops listed → wpG Y ef m md ops Q fuel listed σ → wpAny P md ops Q' (fuel + t) listed act w
  | 0, _, _, _, _, hs, hc, h => by rw [Nat.zero_add]; exact hQ _ _ _ _ hs hc h.1 h.2
  | fuel + 1, _, _, _, _, hs, hc, h => by
    rw [Nat.add_right_comm]
    refine ⟨fun h0 => absurd h0 h.1, fun i hi => ?_⟩
    obtain ⟨e, hy, hK⟩ := h.2 i hi
    exact hS i e _ _ _ _ hs hy fun act w hs' => wpAny_of_G hS hQ fuel _ _ _ _ hs' (hc.add hi) hK
theorem wpAny_tailT {Q' : Exit → Act → World → Prop} (hw : waitT md ops m = true) (hrd : ∀ k, m ≤ k → ∀ o, ops[k]? = some o → ∀ e ∈ o.after, Region.binds md e = true → e.on < k) :
    ∀ (l : List Oper) (k : Nat) (listed : Array Bool) (act : Act) (w : World), m ≤ k → k + l.length = ops.size → (∀ j, l[j]? = ops[k + j]?) → Closed md ops listed → listed.size = ops.size → (∀ j, j < k → listed.getD j false = true) → (∀ j, k ≤ j → j < ops.size → listed.getD j true = false) →
      wpL P ops Q' l act w → wpAny P md ops Q' l.length listed act w
  | [], k, listed, act, w, hm, hk, _, _, hs, h1, h2, h => by
    refine ⟨?_, h⟩
    refine List.eq_nil_iff_forall_not_mem.2 fun j hj => ?_
    obtain ⟨h3, oj, hoj, _⟩ := mem_ready.1 hj
    have hlt := (Array.getElem?_eq_some_iff.1 hoj).1
    have := h1 j (by simp at hk; omega)
    rw [unlisted h3] at this
    cases this
  | o :: l, k, listed, act, w, hm, hk, hl, hc, hs, h1, h2, h => by
    have h0 : ops[k]? = some o := by simpa using (hl 0).symm
    have hks : k < ops.size := (Array.getElem?_eq_some_iff.1 h0).1
    have hready : k ∈ Region.ready md ops listed := mem_ready.2 ⟨h2 k (Nat.le_refl _) hks, o, h0, fun e he hb => h1 _ (hrd k hm o h0 e he hb)⟩
    refine ⟨fun hn => (by rw [hn] at hready; cases hready), fun i hi => ?_⟩
    have hik : i = k := by
      obtain ⟨h3, oi, hoi, _⟩ := mem_ready.1 hi
      rcases Nat.lt_trichotomy i k with hlt | he | hgt
      · have := h1 i hlt; rw [unlisted h3] at this; cases this
      · exact he
      · have := waitsT hw (by omega) hgt hc hi
        rw [unlisted (h2 k (Nat.le_refl _) hks)] at this
        cases this
    subst hik
    have ih := fun act w => wpAny_tailT (Q' := Q') hw hrd l (i + 1) (listed.setIfInBounds i true) act w (by omega) (by simp at hk; omega) (fun j => by have := hl (j + 1); simpa [Nat.add_assoc, Nat.add_comm 1 j] using this) (hc.add hready) (by simpa using hs)
      (fun j hj => by
        rcases Nat.lt_succ_iff_lt_or_eq.1 hj with hlt | rfl
        · exact getD_set_true (h1 j hlt)
        · simp [hs, hks]) (fun j hj hj' => by rw [getD_set_ne true (by omega)]; exact h2 j (by omega) hj')
    simp only [wpL] at h
    unfold wpOp
    simp only [h0]
    split
    · rename_i hw'
      rw [if_pos hw'] at h
      exact .inl (Oper.wp_mono ih h)
    · rename_i hw'
      rw [if_neg hw'] at h
      exact ih _ _ h
end
/-! ### one operation that turns the ghost -/
theorem Oper.wp_only {P : Program} {o : Oper} {a : Act} {w : World} {K K' : Act → World → Prop} {Q Q' : Exit → Act → World → Prop} (hp : ∀ c a w, ¬ Q (.panic c) a w) (hL : ¬ LetsOut Q) (hK : ∀ a w, K a w → K' a w) (h : o.wp P a w K Q) : o.wp P a w K' Q' := by
  unfold Oper.wp at *
  generalize (execOp a.eval o).run P w = r at *
  cases r with
  | ok n w' =>
    cases n <;> simp only [Oper.upon] at h ⊢ <;> first
      | exact hK _ _ h
      | exact Calls.mono h (fun e w'' he => by
          cases e with
          | returned v => exact hK _ _ he
          | panicked c => exact absurd he (hp _ _ _)
          | outgrown => exact absurd he hL)
      | exact Rows.mono h (fun _ _ he => hK _ _ he)
      | exact h
  | halt x w' =>
    cases x <;> simp only [Oper.upon] at h ⊢ <;> first
      | exact absurd h (hp _ _ _)
      | exact h
end Go.Ab
namespace Go.Ab
open Go.RowKit
structure Par where
  bx0 : List (Nat × List A)
  bx1 : List (Nat × List A)
  lv0 : List Nat
  lv1 : List Nat
  gen0 : Nat
  gen1 : Nat
section
variable {P : Program} {C : Ctx} {n : Nat} (S : Par) {ops : Array Oper} (c : Nat)
abbrev SC := Fr' × Bool
def SmC (C : Ctx) (n : Nat) (S : Par) (σ : SC) (act : Act) (w : World) : Prop :=
  act.defers = [] ∧ ∃ G, if σ.2 = true then SimF C n S.bx1 S.lv1 S.gen1 σ.1 G act.tmps w else SimF C n S.bx0 S.lv0 S.gen0 σ.1 G act.tmps w
def XEv (P : Program) (C : Ctx) (n : Nat) (S : Par) (ops : Array Oper) (o : Oper) (a : A) (φ : Fr') : Prop :=
  o.guard = none ∧ ∃ p, (∀ t x, look p t = some x → φ t = some x ∧ t ∈ o.looksAt ops) ∧
    ∀ g, WO P C n ops (fun e st => e = .normal ∧ st = St.put ⟨p ++ g, S.bx1, S.lv1, S.gen1⟩ o.dst a) [o] ⟨p ++ g, S.bx0, S.lv0, S.gen0⟩
def YC (P : Program) (C : Ctx) (n : Nat) (S : Par) (ops : Array Oper) (c : Nat) (i : Nat) (a : A) (σ : SC) : Prop :=
  ∃ o, ops[i]? = some o ∧ dstOK n o.dst = true ∧ ((i = c ∧ σ.2 = false ∧ XEv P C n S ops o a σ.1) ∨
    (i ≠ c ∧ (behindB .any ops i c = false → YA P C n S.bx0 S.lv0 S.gen0 ops o a σ.1) ∧ (behindB .any ops c i = false → YA P C n S.bx1 S.lv1 S.gen1 ops o a σ.1) ∧
      (σ.2 = false → behindB .any ops i c = false) ∧ (σ.2 = true → behindB .any ops c i = false)))
def efC (ops : Array Oper) (c : Nat) (i : Nat) (a : A) (σ : SC) : SC :=
  match ops[i]? with
  | none => σ
  | some o => (putF σ.1 o.dst a, if i = c then true else σ.2)
variable {S} {c}
theorem XEv_put {o : Oper} {a : A} {φ : Fr'} {dst : Option Nat} {x : A} (hd : ∀ d, dst = some d → d ∉ o.looksAt ops) : XEv P C n S ops o a (putF φ dst x) ↔ XEv P C n S ops o a φ := by
  constructor
  · rintro ⟨h0, p, h1, h2⟩
    exact ⟨h0, p, fun t y hy => ⟨(putF_key hd (h1 t y hy).2).symm.trans (h1 t y hy).1, (h1 t y hy).2⟩, h2⟩
  · rintro ⟨h0, p, h1, h2⟩
    exact ⟨h0, p, fun t y hy => ⟨(putF_key hd (h1 t y hy).2).trans (h1 t y hy).1, (h1 t y hy).2⟩, h2⟩
theorem not_behind {j i : Nat} {oj : Oper} (hj : ops[j]? = some oj) (h : ∀ e ∈ oj.after, Region.binds .any e = true → e.on ≠ i) : behindB .any ops j i = false := by
  cases q : behindB .any ops j i with
  | false => rfl
  | true =>
    obtain ⟨e, he, hb, heq⟩ := behindB_spec hj q
    exact absurd heq (h e he hb)
theorem efC_at {i : Nat} {o : Oper} (h : ops[i]? = some o) (a : A) (σ : SC) : efC ops c i a σ = (putF σ.1 o.dst a, if i = c then true else σ.2) := by unfold efC; rw [h]
theorem swapC {i j : Nat} {oi oj : Oper} (hi : ops[i]? = some oi) (hj : ops[j]? = some oj) (hij : i ≠ j) (hap : oi.apart ops oj = true) (hno : ∀ e ∈ oj.after, Region.binds .any e = true → e.on ≠ i) :
    Swap (YC P C n S ops c) (efC ops c) i j := by
  obtain ⟨a1, a2, a3⟩ := Oper.apart_spec hap
  have hnb := not_behind hj hno
  rintro a b ⟨φ, ph⟩ ⟨oi', hi', di, hyi⟩ ⟨oj', hj', dj, hyj⟩
  rw [hi] at hi'
  cases hi'
  rw [hj] at hj'
  cases hj'
  rw [efC_at hi] at hyj
  rw [efC_at hi, efC_at hj, efC_at hj, efC_at hi]
  have hcomm : putF (putF φ oi.dst a) oj.dst b = putF (putF φ oj.dst b) oi.dst a := putF_comm φ a b a2
  simp only at hyi hyj ⊢
  rcases hyi with ⟨rfl, hph, hx⟩ | ⟨hic, y0, y1, y2, y3⟩
  · -- the operation itself stands first
    subst hph
    rcases hyj with ⟨e, _⟩ | ⟨hjc, z0, z1, z2, z3⟩
    · exact absurd e.symm hij
    · refine ⟨⟨oj, hj, dj, .inr ⟨hjc, fun h => (YA_put a1).1 (z0 h), fun h => (YA_put a1).1 (z1 h), fun _ => hnb, fun h => by cases h⟩⟩, ⟨oi, hi, di, .inl ⟨rfl, ?_, (XEv_put a3).2 hx⟩⟩, ?_⟩
      · rw [if_neg hjc]
      · rw [if_pos rfl, if_neg hjc, hcomm]
        simp
  · rcases hyj with ⟨rfl, hph, hx⟩ | ⟨hjc, z0, z1, z2, z3⟩
    · rw [if_neg hic] at hph
      subst hph
      refine ⟨⟨oj, hj, dj, .inl ⟨rfl, rfl, (XEv_put a1).1 hx⟩⟩, ⟨oi, hi, di, .inr ⟨hic, fun h => (YA_put a3).2 (y0 h), fun h => (YA_put a3).2 (y1 h), fun h => ?_, fun _ => hnb⟩⟩, ?_⟩
      · rw [if_pos rfl] at h; cases h
      · rw [if_pos rfl, if_neg hic, hcomm]
        simp
    · rw [if_neg hic] at z2 z3
      refine ⟨⟨oj, hj, dj, .inr ⟨hjc, fun h => (YA_put a1).1 (z0 h), fun h => (YA_put a1).1 (z1 h), z2, z3⟩⟩, ⟨oi, hi, di, .inr ⟨hic, fun h => (YA_put a3).2 (y0 h), fun h => (YA_put a3).2 (y1 h), ?_, ?_⟩⟩, ?_⟩
      · rw [if_neg hjc]; exact y2
      · rw [if_neg hjc]; exact y3
      · rw [if_neg hic, if_neg hjc, hcomm, if_neg hic]
def fallF (n : Nat) (φ : Fr') : List (Nat × A) := (List.range n).filterMap fun t => (φ t).map fun a => (t, a)
theorem look_fall (φ : Fr') : ∀ (l : List Nat) (t : Nat), look (l.filterMap fun t => (φ t).map fun a => (t, a)) t = if t ∈ l then φ t else none
  | [], t => rfl
  | s :: l, t => by
    rw [List.filterMap_cons]
    cases hs : φ s with
    | none =>
      simp only [Option.map_none]
      rw [look_fall φ l t]
      by_cases e : t = s
      · subst e; simp [hs]
      · simp [e]
    | some a =>
      simp only [Option.map_some, look_cons]
      by_cases e : s = t
      · subst e; simp [hs]
      · rw [if_neg e, look_fall φ l t]
        simp [Ne.symm e]
theorem look_app (p g : List (Nat × A)) (t : Nat) : look (p ++ g) t = match look p t with | some a => some a | none => look g t := by
  induction p with
  | nil => rfl
  | cons x p ih =>
    obtain ⟨s, a⟩ := x
    rw [List.cons_append, look_cons, look_cons]
    split
    · rfl
    · exact ih
theorem soundC (i : Nat) (a : A) (σ : SC) (act : Act) (w : World) (K : Act → World → Prop) {Q' : Exit → Act → World → Prop} (hs : SmC C n S σ act w) (hy : YC P C n S ops c i a σ) (hK : ∀ act w, SmC C n S (efC ops c i a σ) act w → K act w) : wpOp P ops Q' i K act w := by
  obtain ⟨tmps, dfs⟩ := act
  obtain ⟨rfl, G, hs⟩ := hs
  obtain ⟨φ, ph⟩ := σ
  obtain ⟨o, ho, hd, hy⟩ := hy
  rw [efC_at ho] at hK
  simp only at hs hy hK
  unfold wpOp
  simp only [ho]
  rcases hy with ⟨rfl, rfl, hg, p, hp, hx⟩ | ⟨hic, y0, y1, y2, y3⟩
  · simp only [Bool.false_eq_true, if_false] at hs
    have hw : Region.wanted o (yielded ops tmps) = true := by simp [Region.wanted, hg]
    rw [hw, if_pos rfl]
    refine .inl ?_
    have hlt : ∀ t x, φ t = some x → t < n := fun t x hx => by
      obtain ⟨v, h1, _⟩ := hs.2 t x hx
      have := (Array.getElem?_eq_some_iff.1 h1).1
      rw [hs.1.size] at this
      exact this
    have hlook : ∀ t, look (p ++ fallF n φ) t = φ t := fun t => by
      rw [look_app]
      cases q : look p t with
      | some x => exact (hp t x q).1.symm
      | none =>
        simp only
        unfold fallF
        rw [look_fall]
        cases e : φ t with
        | none => split <;> rfl
        | some x => rw [if_pos (List.mem_range.2 (hlt t x e))]
    have hs' := hs.toG (f := p ++ fallF n φ) fun t x hx => by rw [← hlook]; exact hx
    have h := hx (fallF n φ) tmps w ⟨G, hs'⟩
    simp only [wpL, hw, if_true] at h
    refine Oper.wp_only (fun c a w hq => ?_) (fun hl => ?_) (fun act2 w2 hq => ?_) h
    · obtain ⟨_, st', _, he, _⟩ := hq
      cases he
    · obtain ⟨_, _, hq⟩ := hl
      obtain ⟨_, st', _, he, _⟩ := hq
      cases he
    · obtain ⟨hdf, st', ⟨G', hs2⟩, _, rfl⟩ := hq
      refine hK act2 w2 ⟨hdf, G', ?_⟩
      simp only [if_true]
      show SimF C n S.bx1 S.lv1 S.gen1 (putF φ o.dst a) G' act2.tmps w2
      cases hdst : o.dst with
      | none =>
        rw [hdst] at hs2
        refine ⟨{ hs2 with frame := fun t a ha => by simp [look] at ha }, fun t x hx => hs2.frame t x ?_⟩
        show look (p ++ fallF n φ) t = some x
        rw [hlook]
        exact hx
      | some d =>
        rw [hdst] at hs2
        refine ⟨{ hs2 with frame := fun t a ha => by simp [look] at ha }, fun t x hx => hs2.frame t x ?_⟩
        show look ((d, a) :: (p ++ fallF n φ)) t = some x
        rw [look_cons]
        simp only [putF] at hx
        by_cases e : t = d
        · subst e
          rw [if_pos rfl] at hx ⊢
          exact hx
        · rw [if_neg e] at hx
          rw [if_neg (Ne.symm e), hlook]
          exact hx
  · rw [if_neg hic] at hK
    have key : ∀ {bx : List (Nat × List A)} {lv : List Nat} {gen : Nat}, SimF C n bx lv gen φ G tmps w → YA P C n bx lv gen ops o a φ → (∀ tmps w, SimF C n bx lv gen (putF φ o.dst a) G tmps w → K ⟨tmps, []⟩ w) →
        (if Region.wanted o (yielded ops tmps) = true then o.wp P ⟨tmps, []⟩ w K Q' ∨ (o.asks P ⟨tmps, []⟩ w ∧ LetsOut Q') else K (Act.put ⟨tmps, []⟩ o.dst undef) w) := by
      intro bx lv gen hsF hya hk
      obtain ⟨_, ⟨hw, f, hf, hp⟩ | ⟨hw, rfl⟩⟩ := hya
      · rw [wanted_of hsF hw]
        simp only [if_true]
        refine .inl ?_
        have hg : Gives P o ⟨tmps, []⟩ w fun v w' => Below w.heap.size w w' ∧ Rep (enOf C G gen w') v a := hp G tmps w (hsF.toG fun t x hx => (hf t x hx).1)
        refine hg.wp fun v w' ⟨hb, hr⟩ => ?_
        rw [Act.put_eq]
        exact hk _ _ (hsF.step hb hd hr)
      · rw [wanted_of hsF hw]
        simp only [Bool.false_eq_true, if_false]
        rw [Act.put_eq]
        exact hk _ _ (hsF.step (Below.refl _ _) hd (.tup #[] [] rfl (by simp)))
    cases ph with
    | false =>
      simp only [Bool.false_eq_true, if_false] at hs
      exact key hs (y0 (y2 rfl)) fun tmps w h => hK _ _ ⟨rfl, G, by simpa using h⟩
    | true =>
      simp only [if_true] at hs
      exact key hs (y1 (y3 rfl)) fun tmps w h => hK _ _ ⟨rfl, G, by simpa using h⟩
def CC (P : Program) (C : Ctx) (n : Nat) (S : Par) (ops : Array Oper) (c : Nat) (Q : St → Prop) (l : List Oper) (i : Nat) (f : List (Nat × A)) (ph : Bool) : Prop :=
  ceG (YC P C n S ops c) (efC ops c) (fun σ => ∃ f', (∀ t, look f' t = σ.1 t) ∧ σ.2 = true ∧ Q ⟨f', S.bx1, S.lv1, S.gen1⟩) l i (look f, ph)
def regionOKC (m : Nat) (ops : Array Oper) : Bool := Nat.ble m ops.size && waitT .any ops m && foreB .any ops m && lexE .any ops m 0 (Array.replicate ops.size false)
theorem W.regionC (T : Tab P) {id : Nat} {l l1 l2 : List Oper} {f : List (Nat × A)} {bx bx1 : List (Nat × List A)} {lv lv1 : List Nat} {gen gen1 : Nat} {Q : Exit → St → Prop} (m c : Nat) (hB : regionOKC m l.toArray = true) (h1 : l.take m = l1) (h2 : l.drop m = l2)
    (h : CC P C n ⟨bx, bx1, lv, lv1, gen, gen1⟩ l.toArray c (WO P C n l.toArray Q l2) l1 0 f false) : W P C n (.region id l.toArray true) Q ⟨f, bx, lv, gen⟩ := by
  subst h1; subst h2
  intro tmps w ⟨G, hs⟩
  simp only [regionOKC, Bool.and_eq_true] at hB
  obtain ⟨⟨⟨hm, hw⟩, hfore⟩, hlex⟩ := hB
  have hm : m ≤ l.length := by simpa using Nat.le_of_ble_eq_true hm
  have hb : Below w.heap.size w { w with drawn := w.drawn + 1 } := (Below.refl _ w).drew
  have hs' : SimF C n bx lv gen (look f) G tmps { w with drawn := w.drawn + 1 } := SimF.ofG (hs.evolve hb).2
  have hlen : (l.take m).length = m := by simp; omega
  refine wp_region_any T.mixed ?_
  have hsz : l.toArray.size = (l.take m).length + (l.drop m).length := by simp; omega
  rw [hsz]
  have hcl : Closed .any l.toArray (Array.replicate ((l.take m).length + (l.drop m).length) false) := fun j oj _ hl _ _ _ => by
    by_cases q : j < (l.take m).length + (l.drop m).length
    · simp only [Array.getD_eq_getD_getElem?, Array.getElem?_replicate] at hl
      rw [if_pos q] at hl
      cases hl
    · simp only [Array.getD_eq_getD_getElem?, Array.getElem?_replicate] at hl
      rw [if_neg q] at hl
      cases hl
  refine wpAny_of_G (m := m) (Sm := SmC C n ⟨bx, bx1, lv, lv1, gen, gen1⟩) (Y := YC P C n ⟨bx, bx1, lv, lv1, gen, gen1⟩ l.toArray c) (ef := efC l.toArray c) (Q := fun σ => ∃ f', (∀ t, look f' t = σ.1 t) ∧ σ.2 = true ∧ WO P C n l.toArray Q (l.drop m) ⟨f', bx1, lv1, gen1⟩)
    (fun i e σ act w K hs hy hk => soundC i e σ act w K hs hy hk) (fun listed σ act w hs hc hsp ⟨f', e1, e2, hq⟩ => ?_) _ _ (look f, false) ⟨tmps, []⟩ _ ⟨rfl, G, by simpa using hs'⟩ hcl ?_
  · obtain ⟨tmps, dfs⟩ := act
    obtain ⟨rfl, G, hs⟩ := hs
    rw [e2] at hs
    simp only [if_true] at hs
    refine wpAny_tailT hw (foreB_spec hfore) (l.drop m) m listed ⟨tmps, []⟩ w (Nat.le_refl _) (by simp; omega) (fun j => by simp [List.getElem?_drop]) hc hsp.1 hsp.2.1 hsp.2.2 ?_
    exact hq tmps w ⟨G, hs.toG (fun t a ha => by rw [← e1]; exact ha)⟩
  · refine wpG_lex hw (fun i j oi oj hi hj hij him hjm hap hno => swapC hi hj hij hap hno) (l.take m) 0 _ _ (by rw [hlen]; omega) (fun j hj => ?_) hcl (by simp; omega) (fun j hj => by omega) (fun j _ hj => ?_) (by rw [hlen]; rw [hsz, hlen] at hlex; exact hlex) h
    · rw [hlen] at hj
      rw [Nat.zero_add]
      simp [List.getElem?_take, hj]
    · have hj' : j < l.length := by simpa using hj
      have e : min m l.length + (l.length - m) = l.length := by omega
      simp [e, hj']
variable {op : Op} {ty : TypeId} {pos : String} {af : Array Edge} {a : A} {d i : Nat} {rest : List Oper} {f : List (Nat × A)} {Q : St → Prop} {o : Oper} {ph : Bool}
theorem CC.nil_ (h : Q ⟨f, S.bx1, S.lv1, S.gen1⟩) : CC P C n S ops c Q [] i f true := ⟨f, fun _ => rfl, rfl, h⟩
theorem YA.of_pu {bx : List (Nat × List A)} {lv : List Nat} {gen : Nat} (hp : Pu P C n ⟨restr f (slotsOf op), bx, lv, gen⟩ ⟨some d, op, ty, pos, af, none⟩ a) (hd : Nat.blt d n = true) : YA P C n bx lv gen ops ⟨some d, op, ty, pos, af, none⟩ a (look f) :=
  ⟨hd, .inl ⟨rfl, _, fun t x hx => by
    obtain ⟨h1, h2⟩ := restr_look hx
    exact ⟨h1, List.mem_append.2 (.inl h2)⟩, hp⟩⟩
theorem ccPu_ (h1 : Pu P C n ⟨restr f (slotsOf op), S.bx1, S.lv1, S.gen1⟩ ⟨some d, op, ty, pos, af, none⟩ a) (h0 : Pu P C n ⟨restr f (slotsOf op), S.bx0, S.lv0, S.gen0⟩ ⟨some d, op, ty, pos, af, none⟩ a)
    (hi : ops[i]? = some ⟨some d, op, ty, pos, af, none⟩) (hc : Nat.beq i c = false) (b0 : behindB .any ops i c = false) (b1 : behindB .any ops c i = false) (hd : Nat.blt d n = true)
    (h : CC P C n S ops c Q rest (i + 1) ((d, a) :: f) ph) : CC P C n S ops c Q (⟨some d, op, ty, pos, af, none⟩ :: rest) i f ph := by
  have hic : i ≠ c := fun e => by subst e; simp at hc
  refine ⟨a, ⟨_, hi, hd, .inr ⟨hic, fun _ => YA.of_pu h0 hd, fun _ => YA.of_pu h1 hd, fun _ => b0, fun _ => b1⟩⟩, ?_⟩
  rw [efC_at hi]
  simp only [if_neg hic]
  unfold CC at h
  rw [look_put] at h
  exact h
theorem ccPu0_ (h0 : Pu P C n ⟨restr f (slotsOf op), S.bx0, S.lv0, S.gen0⟩ ⟨some d, op, ty, pos, af, none⟩ a)
    (hi : ops[i]? = some ⟨some d, op, ty, pos, af, none⟩) (hc : Nat.beq i c = false) (b0 : behindB .any ops i c = false) (b1 : behindB .any ops c i = true) (hd : Nat.blt d n = true)
    (h : CC P C n S ops c Q rest (i + 1) ((d, a) :: f) false) : CC P C n S ops c Q (⟨some d, op, ty, pos, af, none⟩ :: rest) i f false := by
  have hic : i ≠ c := fun e => by subst e; simp at hc
  refine ⟨a, ⟨_, hi, hd, .inr ⟨hic, fun _ => YA.of_pu h0 hd, (fun h => by rw [b1] at h; cases h), fun _ => b0, fun h => by cases h⟩⟩, ?_⟩
  rw [efC_at hi]
  simp only [if_neg hic]
  unfold CC at h
  rw [look_put] at h
  exact h
theorem ccPu1_ (h1 : Pu P C n ⟨restr f (slotsOf op), S.bx1, S.lv1, S.gen1⟩ ⟨some d, op, ty, pos, af, none⟩ a)
    (hi : ops[i]? = some ⟨some d, op, ty, pos, af, none⟩) (hc : Nat.beq i c = false) (b0 : behindB .any ops i c = true) (b1 : behindB .any ops c i = false) (hd : Nat.blt d n = true)
    (h : CC P C n S ops c Q rest (i + 1) ((d, a) :: f) true) : CC P C n S ops c Q (⟨some d, op, ty, pos, af, none⟩ :: rest) i f true := by
  have hic : i ≠ c := fun e => by subst e; simp at hc
  refine ⟨a, ⟨_, hi, hd, .inr ⟨hic, (fun h => by rw [b0] at h; cases h), fun _ => YA.of_pu h1 hd, (fun h => by cases h), fun _ => b1⟩⟩, ?_⟩
  rw [efC_at hi]
  simp only [if_neg hic]
  unfold CC at h
  rw [look_put] at h
  exact h
theorem ccX_ (hx : ∀ g, WO P C n ops (fun e st => e = .normal ∧ st = ⟨(d, a) :: (restr f (slotsOf op) ++ g), S.bx1, S.lv1, S.gen1⟩) [⟨some d, op, ty, pos, af, none⟩] ⟨restr f (slotsOf op) ++ g, S.bx0, S.lv0, S.gen0⟩)
    (hi : ops[i]? = some ⟨some d, op, ty, pos, af, none⟩) (hc : Nat.beq i c = true) (hd : Nat.blt d n = true) (h : CC P C n S ops c Q rest (i + 1) ((d, a) :: f) true) : CC P C n S ops c Q (⟨some d, op, ty, pos, af, none⟩ :: rest) i f false := by
  have hic : i = c := Nat.eq_of_beq_eq_true hc
  refine ⟨a, ⟨_, hi, hd, .inl ⟨hic, rfl, rfl, restr f (slotsOf op), fun t x hx => ?_, fun g => hx g⟩⟩, ?_⟩
  · obtain ⟨h1, h2⟩ := restr_look hx
    exact ⟨h1, List.mem_append.2 (.inl h2)⟩
  · rw [efC_at hi]
    simp only [if_pos hic]
    unfold CC at h
    rw [look_put] at h
    exact h
theorem ccX0_ (hx : ∀ g, WO P C n ops (fun e st => e = .normal ∧ st = ⟨restr f (slotsOf op) ++ g, S.bx1, S.lv1, S.gen1⟩) [⟨none, op, ty, pos, af, none⟩] ⟨restr f (slotsOf op) ++ g, S.bx0, S.lv0, S.gen0⟩)
    (hi : ops[i]? = some ⟨none, op, ty, pos, af, none⟩) (hc : Nat.beq i c = true) (h : CC P C n S ops c Q rest (i + 1) f true) : CC P C n S ops c Q (⟨none, op, ty, pos, af, none⟩ :: rest) i f false := by
  have hic : i = c := Nat.eq_of_beq_eq_true hc
  refine ⟨.any, ⟨_, hi, rfl, .inl ⟨hic, rfl, rfl, restr f (slotsOf op), fun t x hx => ?_, fun g => hx g⟩⟩, ?_⟩
  · obtain ⟨h1, h2⟩ := restr_look hx
    exact ⟨h1, List.mem_append.2 (.inl h2)⟩
  · rw [efC_at hi]
    simp only [if_pos hic]
    exact h
variable {bx0 bx1 : List (Nat × List A)} {lv0 lv1 : List Nat} {gen0 gen1 : Nat}
theorem CC.nil (h : Q ⟨f, bx1, lv1, gen1⟩) : CC P C n ⟨bx0, bx1, lv0, lv1, gen0, gen1⟩ ops c Q [] i f true :=
  CC.nil_ (S := ⟨bx0, bx1, lv0, lv1, gen0, gen1⟩) h
theorem ccPu (h1 : Pu P C n ⟨restr f (slotsOf op), bx1, lv1, gen1⟩ ⟨some d, op, ty, pos, af, none⟩ a) (h0 : Pu P C n ⟨restr f (slotsOf op), bx0, lv0, gen0⟩ ⟨some d, op, ty, pos, af, none⟩ a)
    (hi : ops[i]? = some ⟨some d, op, ty, pos, af, none⟩) (hc : Nat.beq i c = false) (b0 : behindB .any ops i c = false) (b1 : behindB .any ops c i = false) (hd : Nat.blt d n = true)
    (h : CC P C n ⟨bx0, bx1, lv0, lv1, gen0, gen1⟩ ops c Q rest (i + 1) ((d, a) :: f) ph) : CC P C n ⟨bx0, bx1, lv0, lv1, gen0, gen1⟩ ops c Q (⟨some d, op, ty, pos, af, none⟩ :: rest) i f ph :=
  ccPu_ (S := ⟨bx0, bx1, lv0, lv1, gen0, gen1⟩) h1 h0 hi hc b0 b1 hd h
theorem ccPu0 (h0 : Pu P C n ⟨restr f (slotsOf op), bx0, lv0, gen0⟩ ⟨some d, op, ty, pos, af, none⟩ a)
    (hi : ops[i]? = some ⟨some d, op, ty, pos, af, none⟩) (hc : Nat.beq i c = false) (b0 : behindB .any ops i c = false) (b1 : behindB .any ops c i = true) (hd : Nat.blt d n = true)
    (h : CC P C n ⟨bx0, bx1, lv0, lv1, gen0, gen1⟩ ops c Q rest (i + 1) ((d, a) :: f) false) : CC P C n ⟨bx0, bx1, lv0, lv1, gen0, gen1⟩ ops c Q (⟨some d, op, ty, pos, af, none⟩ :: rest) i f false :=
  ccPu0_ (S := ⟨bx0, bx1, lv0, lv1, gen0, gen1⟩) h0 hi hc b0 b1 hd h
theorem ccPu1 (h1 : Pu P C n ⟨restr f (slotsOf op), bx1, lv1, gen1⟩ ⟨some d, op, ty, pos, af, none⟩ a)
    (hi : ops[i]? = some ⟨some d, op, ty, pos, af, none⟩) (hc : Nat.beq i c = false) (b0 : behindB .any ops i c = true) (b1 : behindB .any ops c i = false) (hd : Nat.blt d n = true)
    (h : CC P C n ⟨bx0, bx1, lv0, lv1, gen0, gen1⟩ ops c Q rest (i + 1) ((d, a) :: f) true) : CC P C n ⟨bx0, bx1, lv0, lv1, gen0, gen1⟩ ops c Q (⟨some d, op, ty, pos, af, none⟩ :: rest) i f true :=
  ccPu1_ (S := ⟨bx0, bx1, lv0, lv1, gen0, gen1⟩) h1 hi hc b0 b1 hd h
theorem ccX (hx : ∀ g, WO P C n ops (fun e st => e = .normal ∧ st = ⟨(d, a) :: (restr f (slotsOf op) ++ g), bx1, lv1, gen1⟩) [⟨some d, op, ty, pos, af, none⟩] ⟨restr f (slotsOf op) ++ g, bx0, lv0, gen0⟩)
    (hi : ops[i]? = some ⟨some d, op, ty, pos, af, none⟩) (hc : Nat.beq i c = true) (hd : Nat.blt d n = true) (h : CC P C n ⟨bx0, bx1, lv0, lv1, gen0, gen1⟩ ops c Q rest (i + 1) ((d, a) :: f) true) : CC P C n ⟨bx0, bx1, lv0, lv1, gen0, gen1⟩ ops c Q (⟨some d, op, ty, pos, af, none⟩ :: rest) i f false :=
  ccX_ (S := ⟨bx0, bx1, lv0, lv1, gen0, gen1⟩) hx hi hc hd h
theorem ccX0 (hx : ∀ g, WO P C n ops (fun e st => e = .normal ∧ st = ⟨restr f (slotsOf op) ++ g, bx1, lv1, gen1⟩) [⟨none, op, ty, pos, af, none⟩] ⟨restr f (slotsOf op) ++ g, bx0, lv0, gen0⟩)
    (hi : ops[i]? = some ⟨none, op, ty, pos, af, none⟩) (hc : Nat.beq i c = true) (h : CC P C n ⟨bx0, bx1, lv0, lv1, gen0, gen1⟩ ops c Q rest (i + 1) f true) : CC P C n ⟨bx0, bx1, lv0, lv1, gen0, gen1⟩ ops c Q (⟨none, op, ty, pos, af, none⟩ :: rest) i f false :=
  ccX0_ (S := ⟨bx0, bx1, lv0, lv1, gen0, gen1⟩) hx hi hc h
end
end Go.Ab
namespace Go.Ab
open Go.RowKit
def nilT : D → D
  | .v x => bif isNil (.d (.v x)) then .sl [] else .v x
  | .sl es => .sl es
theorem RepD.nilT {w : World} {pv : Nat → Nat → Prop} {v : Value} {d : D} (h : RepD w pv v d) : RepD w pv v (Ab.nilT d) := by
  cases d with
  | v x => exact h.nilD
  | sl es => exact h
def nilB : A → A
  | .d x => .d (nilT x)
  | .ag l => .ag (l.map nilT)
  | a => a
theorem Rep.nilB {E : En} {v : Value} {a : A} (h : Rep E v a) : Rep E v (Ab.nilB a) := by
  cases a with
  | d x => cases h with | d hd => exact .d hd.nilT
  | ag l =>
    cases h with
    | ag vs _ hs hd =>
      refine .ag vs _ (by simpa using hs) (fun i u x hu hx => ?_)
      rw [List.getElem?_map, Option.map_eq_some_iff] at hx
      obtain ⟨y, hy, rfl⟩ := hx
      exact (hd i u y hu hy).nilT
  | _ => exact h
section
variable {P : Program} {C : Ctx} {n : Nat} {ops : Array Oper} {Q : Exit → St → Prop} {f : List (Nat × A)} {bx : List (Nat × List A)} {lv : List Nat} {gen : Nat}
theorem nilS (s : Nat) {a a' : A} {l : List Oper} (hl : look f s = some a) (hsn : Nat.blt s n = true) (ha : Ab.nilB a = a') (h : WO P C n ops Q l ⟨(s, a') :: f, bx, lv, gen⟩) : WO P C n ops Q l ⟨f, bx, lv, gen⟩ := by
  subst ha
  intro tmps w ⟨G, hs⟩
  obtain ⟨v, hv, hr⟩ := hs.frame s _ hl
  refine h tmps w ⟨G, ?_⟩
  have := hs.set (d := s) (Nat.le_of_ble_eq_true hsn) hr.nilB
  rwa [set_same hv] at this
end
end Go.Ab
namespace Go.Tb
open Go.Ab
abbrev tx1 : ByteArray := B #[102, 114, 111, 109, 32, 115, 108, 105, 99, 101, 115, 32, 124, 32, 119, 104, 101, 114, 101, 32, 102, 114, 111, 109, 32, 60, 32, 53]
abbrev tx2 : ByteArray := B #[40, 45, 53, 41]
abbrev tx3 : ByteArray := B #[49, 32, 60]
abbrev exL : Ex := .mk 12 E0 Tb.v0 [.mk 2 (B #[102, 114, 111, 109]) Tb.v0 [], .mk 1 E0 ⟨2, 5, E0⟩ []]
abbrev ex5 : Ex := .mk 1 E0 ⟨2, -5, E0⟩ []
abbrev q1 : Qry := ⟨B #[115, 108, 105, 99, 101, 115], [{ stp0 1 with cond := exL }]⟩
theorem tx1_q : queryF true tx1 = (q1, 0, 0) := by kernel_rfl
theorem tx2_q : exprF true tx2 = (ex5, 0, 0) := by kernel_rfl
theorem tx3_q : (exprF true tx3).2 = (3, 15) := by kernel_rfl
theorem tx3_q1 : (exprF true tx3).2.1 = 3 := by rw [tx3_q]
theorem tx3_q2 : (exprF true tx3).2.2 = 15 := by rw [tx3_q]
end Go.Tb
namespace Go.Tb
open Go.Ab
theorem Wf.core {L : List Tk} (hw : Wf L) : Wf (L.map Tk.core) where
  ne := fun e => hw.ne (by simpa using e)
  last i t h := by
    rw [List.getElem?_map, Option.map_eq_some_iff] at h
    obtain ⟨t0, h1, rfl⟩ := h
    rw [List.length_map]
    exact hw.last i t0 h1
  ok t h := by
    obtain ⟨t0, h1, rfl⟩ := List.mem_map.1 h
    exact hw.ok t0 h1
end Go.Tb
namespace Go.Tb
open Go.Ab
end Go.Tb
namespace Go.Tb
open Go.Ab
end Go.Tb
namespace Go.Ab
open Go.RowKit
/-! ### whatever the states are: with paths in place of edges -/
section
variable {P : Program} {ops : Array Oper} {md : Region.Mode} {m : Nat} {S E : Type} {Y : Nat → E → S → Prop} {ef : Nat → E → S → S}
def loose (md : Region.Mode) (ops : Array Oper) (i j : Nat) : Prop := reachB md ops ops.size i j = false ∧ reachB md ops ops.size j i = false
theorem behindB_of {j i : Nat} {oj : Oper} {e : Edge} (hj : ops[j]? = some oj) (he : e ∈ oj.after) (hb : Region.binds md e = true) (h : e.on = i) : behindB md ops j i = true := by
  unfold behindB
  rw [hj]
  exact List.any_eq_true.2 ⟨e, by simpa using he, by simp [hb, h]⟩
theorem reach_behind {j i : Nat} (h : reachB md ops ops.size j i = false) (hj : j < ops.size) : behindB md ops j i = false := by
  cases q : ops.size with
  | zero => omega
  | succ k =>
    rw [q] at h
    simp only [reachB, Bool.or_eq_false_iff] at h
    exact h.1
theorem ready_loose {i j : Nat} {listed : Array Bool} (hc : Closed md ops listed) (hi : i ∈ Region.ready md ops listed) (hj : listed.getD j true = false) : reachB md ops ops.size i j = false := by
  obtain ⟨_, oi, hoi, hall⟩ := mem_ready.1 hi
  cases q : reachB md ops ops.size i j with
  | false => rfl
  | true =>
    have := reach_listed hc _ i j q fun o ho e he hb => by rw [hoi] at ho; cases ho; exact hall e he hb
    rw [unlisted hj] at this
    cases this
theorem wpG_firstR {Q : S → Prop} {i : Nat} {oi : Oper} {e : E} (hw : waitT md ops m = true) (him : i < m) (hi : ops[i]? = some oi) :
    ∀ (fuel : Nat) (listed : Array Bool) (σ : S), Closed md ops listed →
      (∀ j oj, ops[j]? = some oj → j ≠ i → j < m → listed.getD j true = false → reachB md ops ops.size j i = false → Swap Y ef i j) →
      i ∈ Region.ready md ops listed → Y i e σ → wpG Y ef m md ops Q fuel (listed.setIfInBounds i true) (ef i e σ) → wpG Y ef m md ops Q (fuel + 1) listed σ := by
  have unl : ∀ {listed : Array Bool}, i ∈ Region.ready md ops listed → listed.getD i false = false := fun hr => unlisted (mem_ready.1 hr).1
  intro fuel
  induction fuel with
  | zero =>
    intro listed σ hc _ hr hy H
    refine ⟨fun h => (by rw [h] at hr; cases hr), fun j hj => ?_⟩
    by_cases hji : j = i
    · subst hji; exact ⟨e, hy, H⟩
    · exfalso
      obtain ⟨⟨_, h1, h2⟩, _⟩ := H
      have hj1 := (mem_ready.1 hj).1
      by_cases hjm : j < m
      · have := h1 j hjm
        rw [getD_set_ne false (Ne.symm hji)] at this
        rw [unlisted hj1] at this
        cases this
      · have := waitsT hw (by omega) (show i < j by omega) hc hj
        rw [unl hr] at this
        cases this
  | succ fuel ih =>
    intro listed σ hc hfree hr hy H
    refine ⟨fun h => (by rw [h] at hr; cases hr), fun j hj => ?_⟩
    by_cases hji : j = i
    · subst hji; exact ⟨e, hy, H⟩
    · obtain ⟨e', hy', H'⟩ := H.2 j (ready_mono hj hji)
      obtain ⟨hjun, oj, hoj, hall⟩ := mem_ready.1 hj
      have hnot : reachB md ops ops.size j i = false := ready_loose hc hj (mem_ready.1 hr).1
      have hjm : j < m := by
        rcases Nat.lt_or_ge j m with h | h
        · exact h
        · have := waitsT hw h (show i < j by omega) hc hj
          rw [unl hr] at this
          cases this
      obtain ⟨s1, s2, s3⟩ := hfree j oj hoj hji hjm hjun hnot e e' σ hy hy'
      have hfree' : ∀ k ok, ops[k]? = some ok → k ≠ i → k < m → (listed.setIfInBounds j true).getD k true = false → reachB md ops ops.size k i = false → Swap Y ef i k := fun k ok hk hki hkm hun hno => by
        refine hfree k ok hk hki hkm ?_ hno
        by_cases hjk : j = k
        · subst hjk; exact hjun
        · rw [getD_set_ne true hjk] at hun; exact hun
      refine ⟨e', s1, ih (listed.setIfInBounds j true) _ (hc.add hj) hfree' (ready_mono hr (Ne.symm hji)) s2 ?_⟩
      rw [Array.setIfInBounds_comm _ _ hji, ← s3]
      exact H'
theorem wpG_lexR {Q : S → Prop} (hw : waitT md ops m = true)
    (hsw : ∀ i j oi oj, ops[i]? = some oi → ops[j]? = some oj → i ≠ j → i < m → j < m → oi.apart ops oj = true → loose md ops i j → Swap Y ef i j) :
    ∀ (l : List Oper) (k : Nat) (listed : Array Bool) (σ : S), k + l.length = m → (∀ j, j < l.length → l[j]? = ops[k + j]?) → Closed md ops listed →
    listed.size = ops.size → (∀ j, j < k → listed.getD j false = true) → (∀ j, k ≤ j → j < ops.size → listed.getD j true = false) →
    lexE md ops l.length k listed = true → ceG Y ef Q l k σ → wpG Y ef m md ops Q l.length listed σ
  | [], k, listed, σ, hk, _, _, hs, h1, h2, _, h => ⟨⟨hs, fun j hj => h1 j (by simp at hk; omega), fun j hj hj' => h2 j (by simp at hk; omega) hj'⟩, h⟩
  | o :: l, k, listed, σ, hk, hl, hc, hs, h1, h2, hB, h => by
    have h0 : ops[k]? = some o := by simpa using (hl 0 (by simp)).symm
    have hks : k < ops.size := (Array.getElem?_eq_some_iff.1 h0).1
    simp only [List.length_cons, lexE, Bool.and_eq_true] at hB
    obtain ⟨⟨hr, hf⟩, hB'⟩ := hB
    have hr' : k ∈ Region.ready md ops listed := by simpa using hr
    obtain ⟨e, hy, hK⟩ := h
    have hkm : k < m := by simp at hk; omega
    refine wpG_firstR hw hkm h0 l.length listed σ hc (fun j oj hoj hjk hjm hun hno => hsw k j o oj h0 hoj (Ne.symm hjk) hkm hjm (Region.free_spec h0 hf j oj hoj hjk hun fun e he hb heq => ?_) ⟨ready_loose hc hr' hun, hno⟩) hr' hy
      (wpG_lexR hw hsw l (k + 1) _ _ (by simp at hk; omega) (fun j hj => by have := hl (j + 1) (by simpa using hj); simpa [Nat.add_assoc, Nat.add_comm 1 j] using this) (hc.add hr') (by simpa using hs) (fun j hj => ?_) (fun j hj hj' => ?_) hB' hK)
    · have h3 := reach_behind hno (Array.getElem?_eq_some_iff.1 hoj).1
      rw [behindB_of hoj he hb heq] at h3
      cases h3
    · rcases Nat.lt_succ_iff_lt_or_eq.1 hj with hlt | rfl
      · exact getD_set_true (h1 j hlt)
      · simp [hs, hks]
    · rw [getD_set_ne true (by omega)]
      exact h2 j (by omega) hj'
end
/-! ### what a renumbering leaves as it is -/
mutual
theorem ren_fix {o o' : List Nat} (h : ∀ g, pos o g = some g → pos o' g = some g) : ∀ a, ren o a = a → ren o' a = a
  | .own g es, e => by
    simp only [ren] at e ⊢
    cases q : pos o g with
    | none => rw [q] at e; cases e
    | some i =>
      rw [q] at e
      simp only [A.own.injEq, and_true] at e
      subst e
      rw [h _ q]
  | .ptr g off, e => by
    simp only [ren] at e ⊢
    cases q : pos o g with
    | none => rw [q] at e; cases e
    | some i =>
      rw [q] at e
      simp only [A.ptr.injEq, and_true] at e
      subst e
      rw [h _ q]
  | .xs g es, e => by
    simp only [ren] at e ⊢
    cases q : pos o g with
    | none => rw [q] at e; cases e
    | some i =>
      rw [q] at e
      simp only [A.xs.injEq, and_true] at e
      subst e
      rw [h _ q]
  | .xp g i off l, e => by
    simp only [ren] at e ⊢
    cases q : pos o g with
    | none => rw [q] at e; cases e
    | some j =>
      rw [q] at e
      simp only [A.xp.injEq, and_true] at e
      subst e
      rw [h _ q]
  | .mp g es, e => by
    simp only [ren] at e ⊢
    cases q : pos o g with
    | none => rw [q] at e; cases e
    | some i =>
      rw [q] at e
      simp only [A.mp.injEq, and_true] at e
      subst e
      rw [h _ q]
  | .agg l, e => by simp only [ren, A.agg.injEq] at e ⊢; exact renL_fix h l e
  | .tup l, e => by simp only [ren, A.tup.injEq] at e ⊢; exact renL_fix h l e
  | .row l, e => by simp only [ren, A.row.injEq] at e ⊢; exact renL_fix h l e
  | .clo f l, e => by simp only [ren, A.clo.injEq, true_and] at e ⊢; exact renL_fix h l e
  | .bnd f l, e => by simp only [ren, A.bnd.injEq, true_and] at e ⊢; exact renL_fix h l e
  | .d _, _ => rfl
  | .ag _, _ => rfl
  | .rowd _, _ => rfl
  | .ni, _ => rfl
  | .fl _, _ => rfl
  | .any, _ => rfl
theorem renL_fix {o o' : List Nat} (h : ∀ g, pos o g = some g → pos o' g = some g) : ∀ l, renL o l = l → renL o' l = l
  | [], _ => rfl
  | a :: l, e => by
    simp only [renL, List.cons.injEq] at e ⊢
    exact ⟨ren_fix h a e.1, renL_fix h l e.2⟩
end
def monoB (o o' : List Nat) : Bool := (List.range o.length).all fun g => !(pos o g == some g) || pos o' g == some g
theorem monoB_spec {o o' : List Nat} (h : monoB o o' = true) (g : Nat) (hg : pos o g = some g) : pos o' g = some g := by
  have hlt := (List.getElem?_eq_some_iff.1 (pos_some hg)).1
  have := List.all_eq_true.1 h g (List.mem_range.2 hlt)
  simp only [hg, beq_self_eq_true, Bool.not_true, Bool.false_or, beq_iff_eq] at this
  exact this
end Go.Ab
namespace Go.Ab
open Go.RowKit
structure ParD where
  bxF : Nat → List (Nat × List A)
  bxT : Nat → List (Nat × List A)
  lv : Nat → List Nat
  gen : Nat → Nat
  ord : Nat → List Nat
  g0 : Nat
  z : List A
  cs : List Nat
  al : Nat
def ParD.bx (S : ParD) (k : Nat) (b : Bool) : List (Nat × List A) := bif b then S.bxT k else S.bxF k
abbrev parL (bxs : List (List (Nat × List A))) (lvs : List (List Nat)) (gens : List Nat) (cs : List Nat) (al : Nat) : ParD := ⟨fun _ => [], fun k => bxs.getD k [], fun k => lvs.getD k [], fun k => gens.getD k 0, fun _ => [], 0, [], cs, al⟩
def alw (S : ParD) (ops : Array Oper) (i k : Nat) (b : Bool) : Bool :=
  ((List.range S.cs.length).all fun j => bif Nat.blt j k then !reachB .any ops ops.size (S.cs.getD j 0) i else !reachB .any ops ops.size i (S.cs.getD j 0)) &&
  (bif b then !reachB .any ops ops.size S.al i else (Nat.blt S.al ops.size && !reachB .any ops ops.size i S.al))
theorem Pu.nilB {P : Program} {C : Ctx} {n : Nat} {st : St} {o : Oper} {a a' : A} (h : Pu P C n st o a) (e : Ab.nilB a = a') : Pu P C n st o a' := fun G tmps w hs => by
  subst e
  exact (h G tmps w hs).mono fun v w' ⟨h1, h2⟩ => ⟨h1, h2.nilB⟩
theorem alwNo {S : ParD} {ops : Array Oper} {i k : Nat} {b : Bool} (h : alw S ops i k b = true) (h' : alw S ops i k b = false) : False := by rw [h] at h'; cases h'
section
variable {P : Program} (T : Tab P) {C : Ctx} {n : Nat} (S : ParD) {ops : Array Oper}
abbrev SD := Fr' × Nat × Bool
def SmD (C : Ctx) (n : Nat) (S : ParD) (b0 : Bool) (σ : SD) (act : Act) (w : World) : Prop :=
  (b0 = true → σ.2.2 = true) ∧ act.defers = [] ∧ ∃ G, SimF C n (S.bx σ.2.1 σ.2.2) (S.lv σ.2.1) (S.gen σ.2.1) σ.1 G act.tmps w ∧ (σ.2.2 = false → ∀ t a, σ.1 t = some a → ren (S.ord σ.2.1) a = a)
def XEd (P : Program) (C : Ctx) (n : Nat) (S : ParD) (ops : Array Oper) (o : Oper) (a : A) (k : Nat) (b : Bool) (φ : Fr') : Prop :=
  o.guard = none ∧ ∃ p, (∀ t x, look p t = some x → φ t = some x ∧ t ∈ o.looksAt ops) ∧
    ∀ g, WO P C n ops (fun e st => e = .normal ∧ st = St.put ⟨p ++ g, S.bx (k + 1) b, S.lv (k + 1), S.gen (k + 1)⟩ o.dst a) [o] ⟨p ++ g, S.bx k b, S.lv k, S.gen k⟩
def YD (P : Program) (T : Tab P) (C : Ctx) (n : Nat) (S : ParD) (ops : Array Oper) (i : Nat) (a : A) (σ : SD) : Prop :=
  ∃ o, ops[i]? = some o ∧ dstOK n o.dst = true ∧ σ.2.1 ≤ S.cs.length ∧ alw S ops i σ.2.1 σ.2.2 = true ∧
    ((S.cs[σ.2.1]? = some i ∧ i ≠ S.al ∧ (∀ b, alw S ops i σ.2.1 b = true → XEd P C n S ops o a σ.2.1 b σ.1) ∧ (alw S ops i σ.2.1 false = true → ren (S.ord (σ.2.1 + 1)) a = a)) ∨
     (i ∉ S.cs ∧ i = S.al ∧ σ.2.2 = false ∧ o.guard = none ∧ a = .ptr S.g0 0 ∧ ∃ e d dt, o.op = .alloc e ∧ o.dst = some d ∧ look' T.l e = some dt ∧ S.z = dt.z.map fun v => A.d (.v v)) ∨
     (i ∉ S.cs ∧ i ≠ S.al ∧ ∀ k b, k ≤ S.cs.length → alw S ops i k b = true → YA P C n (S.bx k b) (S.lv k) (S.gen k) ops o a σ.1 ∧ (b = false → ren (S.ord k) a = a)))
def efD (S : ParD) (ops : Array Oper) (i : Nat) (a : A) (σ : SD) : SD :=
  match ops[i]? with
  | none => σ
  | some o => (putF σ.1 o.dst a, (if S.cs[σ.2.1]? = some i then σ.2.1 + 1 else σ.2.1), if i = S.al then true else σ.2.2)
variable {T} {S}
theorem XEd_put {o : Oper} {a : A} {k : Nat} {b : Bool} {φ : Fr'} {dst : Option Nat} {x : A} (hd : ∀ d, dst = some d → d ∉ o.looksAt ops) : XEd P C n S ops o a k b (putF φ dst x) ↔ XEd P C n S ops o a k b φ := by
  constructor
  · rintro ⟨h0, p, h1, h2⟩
    exact ⟨h0, p, fun t y hy => ⟨(putF_key hd (h1 t y hy).2).symm.trans (h1 t y hy).1, (h1 t y hy).2⟩, h2⟩
  · rintro ⟨h0, p, h1, h2⟩
    exact ⟨h0, p, fun t y hy => ⟨(putF_key hd (h1 t y hy).2).trans (h1 t y hy).1, (h1 t y hy).2⟩, h2⟩
theorem alw_step {i k c : Nat} {b : Bool} (h : S.cs[k]? = some c) (hl : loose .any ops i c) : alw S ops i (k + 1) b = alw S ops i k b := by
  unfold alw
  congr 1
  rw [Bool.eq_iff_iff, List.all_eq_true, List.all_eq_true]
  have hk : S.cs.getD k 0 = c := by simp [List.getD_eq_getElem?_getD, h]
  have key : ∀ j, (bif Nat.blt j (k + 1) then !reachB .any ops ops.size (S.cs.getD j 0) i else !reachB .any ops ops.size i (S.cs.getD j 0)) = (bif Nat.blt j k then !reachB .any ops ops.size (S.cs.getD j 0) i else !reachB .any ops ops.size i (S.cs.getD j 0)) := fun j => by
    rcases Nat.lt_trichotomy j k with hj | rfl | hj
    · have h1 : Nat.blt j (k + 1) = true := by simp [Nat.blt_eq]; omega
      have h2 : Nat.blt j k = true := by simp [Nat.blt_eq]; omega
      rw [h1, h2]
    · have h1 : Nat.blt j (j + 1) = true := by simp [Nat.blt_eq]
      have h2 : Nat.blt j j = false := by cases q : Nat.blt j j with | false => rfl | true => simp [Nat.blt_eq] at q
      rw [h1, h2, hk, hl.1, hl.2]
      rfl
    · have h1 : Nat.blt j (k + 1) = false := by cases q : Nat.blt j (k + 1) with | false => rfl | true => simp [Nat.blt_eq] at q; omega
      have h2 : Nat.blt j k = false := by cases q : Nat.blt j k with | false => rfl | true => simp [Nat.blt_eq] at q; omega
      rw [h1, h2]
  exact ⟨fun h j hj => by rw [← key]; exact h j hj, fun h j hj => by rw [key]; exact h j hj⟩
theorem alw_al {i k : Nat} (hlt : S.al < ops.size) (hl : loose .any ops i S.al) : alw S ops i k true = alw S ops i k false := by
  unfold alw
  have h : Nat.blt S.al ops.size = true := by rw [Nat.blt_eq]; exact hlt
  rw [hl.1, hl.2, h]
  rfl
theorem loose.symm {md : Region.Mode} {i j : Nat} (h : loose md ops i j) : loose md ops j i := ⟨h.2, h.1⟩
theorem efD_at {i : Nat} {o : Oper} (h : ops[i]? = some o) (a : A) (σ : SD) : efD S ops i a σ = (putF σ.1 o.dst a, (if S.cs[σ.2.1]? = some i then σ.2.1 + 1 else σ.2.1), if i = S.al then true else σ.2.2) := by unfold efD; rw [h]
theorem alw_pull {i k c : Nat} {b : Bool} (h : S.cs[k]? = some c) (hl : loose .any ops i c) (ha : alw S ops i (k + 1) b = true) : alw S ops i k b = true := by rw [← alw_step h hl]; exact ha
theorem alw_push {i k c : Nat} {b : Bool} (h : S.cs[k]? = some c) (hl : loose .any ops i c) (ha : alw S ops i k b = true) : alw S ops i (k + 1) b = true := by rw [alw_step h hl]; exact ha
theorem swapD (hch : ∀ k c c', S.cs[k]? = some c → S.cs[k + 1]? = some c' → reachB .any ops ops.size c' c = true) {i j : Nat} {oi oj : Oper} (hi : ops[i]? = some oi) (hj : ops[j]? = some oj) (hij : i ≠ j) (hap : oi.apart ops oj = true) (hl : loose .any ops i j) :
    Swap (YD P T C n S ops) (efD S ops) i j := by
  obtain ⟨a1, a2, a3⟩ := Oper.apart_spec hap
  rintro a b ⟨φ, k, ph⟩ ⟨oi', hi', di, hk, ai, hyi⟩ ⟨oj', hj', dj, hk2, aj, hyj⟩
  rw [hi] at hi'
  cases hi'
  rw [hj] at hj'
  cases hj'
  have hcomm : putF (putF φ oi.dst a) oj.dst b = putF (putF φ oj.dst b) oi.dst a := putF_comm φ a b a2
  have mem_of : ∀ {k c : Nat}, S.cs[k]? = some c → c ∈ S.cs := fun h => List.mem_of_getElem? h
  have klt : ∀ {k c : Nat}, S.cs[k]? = some c → k + 1 ≤ S.cs.length := fun h => (List.getElem?_eq_some_iff.1 h).1
  rw [efD_at hi] at aj hyj hk2
  simp only [efD_at hi, efD_at hj]
  simp only at hk ai hyi hk2 aj hyj
  rcases hyi with ⟨ci, nai, xi, fi⟩ | ⟨nci, ali, rfl, gi, ei, hi6⟩ | ⟨nci, nai, yi⟩
  · -- i is of the chain
    simp only [if_pos ci, if_neg nai] at aj hyj hk2
    rcases hyj with ⟨cj, _⟩ | ⟨ncj, alj, rfl, gj, ej, hj6⟩ | ⟨ncj, naj, yj⟩
    · exact absurd (hch k i j ci cj) (by rw [hl.2]; simp)
    · have hsi : loose .any ops i S.al := by rw [← alj]; exact hl
      have hlt : S.al < ops.size := by rw [← alj]; exact (Array.getElem?_eq_some_iff.1 hj).1
      have n1 : ¬ S.cs[k]? = some j := fun h => ncj (mem_of h)
      refine ⟨⟨oj, hj, dj, hk, alw_pull ci hl.symm aj, .inr (.inl ⟨ncj, alj, rfl, gj, ej, hj6⟩)⟩, ?_, ?_⟩
      · refine ⟨oi, hi, di, ?_, ?_, .inl ⟨?_, nai, fun b hb => (XEd_put a3).2 ?_, ?_⟩⟩
        all_goals simp only [if_neg n1]
        · exact hk
        · rw [if_pos alj, alw_al hlt hsi]; exact ai
        · exact ci
        · simp only [if_neg n1] at hb
          exact xi b hb
        · exact fi
      · simp only [if_pos ci, if_neg nai, if_pos alj, if_neg n1, hcomm]
        have n2 : ¬ S.cs[k + 1]? = some j := fun h => ncj (mem_of h)
        rw [if_neg n2]
    · have n1 : ¬ S.cs[k]? = some j := fun h => ncj (mem_of h)
      have n2 : ¬ S.cs[k + 1]? = some j := fun h => ncj (mem_of h)
      refine ⟨⟨oj, hj, dj, hk, alw_pull ci hl.symm aj, .inr (.inr ⟨ncj, naj, fun k b h1 h2 => ⟨(YA_put a1).1 (yj k b h1 h2).1, (yj k b h1 h2).2⟩⟩)⟩, ?_, ?_⟩
      · refine ⟨oi, hi, di, ?_, ?_, .inl ⟨?_, nai, fun b hb => (XEd_put a3).2 ?_, ?_⟩⟩
        all_goals simp only [if_neg n1]
        · exact hk
        · rw [if_neg naj]; exact ai
        · exact ci
        · simp only [if_neg n1] at hb
          exact xi b hb
        · exact fi
      · simp only [if_pos ci, if_neg nai, if_neg naj, if_neg n1, if_neg n2, hcomm]
  · -- i is the allocation
    have n1 : ¬ S.cs[k]? = some i := fun h => nci (mem_of h)
    simp only [if_neg n1, if_pos ali] at aj hyj hk2
    have hsj : loose .any ops j S.al := by rw [← ali]; exact hl.symm
    have hlt : S.al < ops.size := by rw [← ali]; exact (Array.getElem?_eq_some_iff.1 hi).1
    rcases hyj with ⟨cj, naj, xj, fj⟩ | ⟨_, alj, h, _⟩ | ⟨ncj, naj, yj⟩
    · have n2 : ¬ S.cs[k + 1]? = some i := fun h => nci (mem_of h)
      refine ⟨⟨oj, hj, dj, hk, by rw [← alw_al hlt hsj]; exact aj, .inl ⟨cj, naj, fun b hb => (XEd_put a1).1 (xj b hb), fj⟩⟩, ?_, ?_⟩
      · refine ⟨oi, hi, di, ?_, ?_, .inr (.inl ⟨nci, ali, ?_, gi, ei, hi6⟩)⟩
        all_goals simp only [if_pos cj, if_neg naj]
        · exact klt cj
        · exact alw_push cj hl ai
      · simp only [if_neg n1, if_pos ali, if_pos cj, if_neg naj, if_neg n2, hcomm]
    · exact absurd (ali.trans alj.symm) hij
    · have n3 : ¬ S.cs[k]? = some j := fun h => ncj (mem_of h)
      refine ⟨⟨oj, hj, dj, hk, by rw [← alw_al hlt hsj]; exact aj, .inr (.inr ⟨ncj, naj, fun k b h1 h2 => ⟨(YA_put a1).1 (yj k b h1 h2).1, (yj k b h1 h2).2⟩⟩)⟩, ?_, ?_⟩
      · refine ⟨oi, hi, di, ?_, ?_, .inr (.inl ⟨nci, ali, ?_, gi, ei, hi6⟩)⟩
        all_goals simp only [if_neg n3, if_neg naj]
        · exact hk
        · exact ai
      · simp only [if_neg n1, if_pos ali, if_neg n3, if_neg naj, hcomm]
  · -- i leaves the ghost
    have n1 : ¬ S.cs[k]? = some i := fun h => nci (mem_of h)
    simp only [if_neg n1, if_neg nai] at aj hyj hk2
    rcases hyj with ⟨cj, naj, xj, fj⟩ | ⟨ncj, alj, rfl, gj, ej, hj6⟩ | ⟨ncj, naj, yj⟩
    · have n2 : ¬ S.cs[k + 1]? = some i := fun h => nci (mem_of h)
      refine ⟨⟨oj, hj, dj, hk, aj, .inl ⟨cj, naj, fun b hb => (XEd_put a1).1 (xj b hb), fj⟩⟩, ?_, ?_⟩
      · refine ⟨oi, hi, di, ?_, ?_, .inr (.inr ⟨nci, nai, fun k b h1 h2 => ⟨(YA_put a3).2 (yi k b h1 h2).1, (yi k b h1 h2).2⟩⟩)⟩
        all_goals simp only [if_pos cj, if_neg naj]
        · exact klt cj
        · exact alw_push cj hl ai
      · simp only [if_neg n1, if_neg nai, if_pos cj, if_neg naj, if_neg n2, hcomm]
    · have n3 : ¬ S.cs[k]? = some j := fun h => ncj (mem_of h)
      have hsi : loose .any ops i S.al := by rw [← alj]; exact hl
      have hlt : S.al < ops.size := by rw [← alj]; exact (Array.getElem?_eq_some_iff.1 hj).1
      refine ⟨⟨oj, hj, dj, hk, aj, .inr (.inl ⟨ncj, alj, rfl, gj, ej, hj6⟩)⟩, ?_, ?_⟩
      · refine ⟨oi, hi, di, ?_, ?_, .inr (.inr ⟨nci, nai, fun k b h1 h2 => ⟨(YA_put a3).2 (yi k b h1 h2).1, (yi k b h1 h2).2⟩⟩)⟩
        all_goals simp only [if_neg n3, if_pos alj]
        · exact hk
        · rw [alw_al hlt hsi]; exact ai
      · simp only [if_neg n1, if_neg nai, if_neg n3, if_pos alj, hcomm]
    · have n3 : ¬ S.cs[k]? = some j := fun h => ncj (mem_of h)
      refine ⟨⟨oj, hj, dj, hk, aj, .inr (.inr ⟨ncj, naj, fun k b h1 h2 => ⟨(YA_put a1).1 (yj k b h1 h2).1, (yj k b h1 h2).2⟩⟩)⟩, ?_, ?_⟩
      · refine ⟨oi, hi, di, ?_, ?_, .inr (.inr ⟨nci, nai, fun k b h1 h2 => ⟨(YA_put a3).2 (yi k b h1 h2).1, (yi k b h1 h2).2⟩⟩)⟩
        all_goals simp only [if_neg n3, if_neg naj]
        · exact hk
        · exact ai
      · simp only [if_neg n1, if_neg nai, if_neg n3, if_neg naj, hcomm]
theorem WO.one_ {o : Oper} (hg : o.guard = none) {st st1 : St} {G : Gh} {tmps : Array Value} {w : World} {Q' : Exit → Act → World → Prop} (h : WO P C n ops (fun e st => e = .normal ∧ st = st1) [o] st) (hs : SimG C n st G tmps w) :
    o.wp P ⟨tmps, []⟩ w (fun act w => act.defers = [] ∧ ∃ G, SimG C n st1 G act.tmps w) Q' := by
  have hw : Region.wanted o (yielded ops tmps) = true := by simp [Region.wanted, hg]
  have h := h tmps w ⟨G, hs⟩
  simp only [wpL, hw, if_true] at h
  refine Oper.wp_only (fun c a w hq => ?_) (fun hl => ?_) (fun act2 w2 hq => ?_) h
  · obtain ⟨_, st', _, he, _⟩ := hq
    cases he
  · obtain ⟨_, _, hq⟩ := hl
    obtain ⟨_, st', _, he, _⟩ := hq
    cases he
  · obtain ⟨hdf, st', ⟨G', hs2⟩, _, rfl⟩ := hq
    exact ⟨hdf, G', hs2⟩
theorem simF_lt {bx : List (Nat × List A)} {lv : List Nat} {gen : Nat} {φ : Fr'} {G : Gh} {tmps : Array Value} {w : World} (hs : SimF C n bx lv gen φ G tmps w) (t : Nat) (x : A) (hx : φ t = some x) : t < n := by
  obtain ⟨v, h1, _⟩ := hs.2 t x hx
  have := (Array.getElem?_eq_some_iff.1 h1).1
  rw [hs.1.size] at this
  exact this
theorem look_all {φ : Fr'} {p : List (Nat × A)} (hlt : ∀ t x, φ t = some x → t < n) (hp : ∀ t x, look p t = some x → φ t = some x) (t : Nat) : look (p ++ fallF n φ) t = φ t := by
  rw [look_app]
  cases q : look p t with
  | some x => exact (hp t x q).symm
  | none =>
    simp only
    unfold fallF
    rw [look_fall]
    cases e : φ t with
    | none => split <;> rfl
    | some x => rw [if_pos (List.mem_range.2 (hlt t x e))]
theorem putF_look {φ : Fr'} {f : List (Nat × A)} (h : ∀ t, look f t = φ t) {d : Nat} {a : A} {t : Nat} : look ((d, a) :: f) t = putF φ (some d) a t := by
  rw [look_cons]
  simp only [putF]
  by_cases e : t = d
  · subst e
    rw [if_pos rfl, if_pos rfl]
  · rw [if_neg e, if_neg (Ne.symm e), h]
def okD1 (S : ParD) (nb k : Nat) : Prop := (orderB (S.ord k) (S.gen k) nb = true ∧ pos (S.ord k) (S.gen k) = some S.g0) ∧ SubBR (S.ord k) ((S.gen k, S.z) :: S.bxF k) (S.bxT k) ∧ lvR (S.ord k) (S.lv k) (S.lv k) = true
def okD (S : ParD) (nb : Nat) : Nat → Prop
  | 0 => okD1 S nb 0
  | k + 1 => okD1 S nb (k + 1) ∧ monoB (S.ord k) (S.ord (k + 1)) = true ∧ okD S nb k
theorem okD.at {nb : Nat} : ∀ {m : Nat}, okD S nb m → ∀ k, k ≤ m → okD1 S nb k
  | 0, h, k, hk => by obtain rfl : k = 0 := by omega
                      exact h
  | m + 1, h, k, hk => by
    rcases Nat.lt_or_ge k (m + 1) with hlt | hge
    · exact okD.at h.2.2 k (by omega)
    · obtain rfl : k = m + 1 := by omega
      exact h.1
theorem okD.mono {nb : Nat} : ∀ {m : Nat}, okD S nb m → ∀ k, k < m → monoB (S.ord k) (S.ord (k + 1)) = true
  | 0, _, k, hk => absurd hk (Nat.not_lt_zero _)
  | m + 1, h, k, hk => by
    rcases Nat.lt_or_ge k m with hlt | hge
    · exact okD.mono h.2.2 k hlt
    · obtain rfl : k = m := by omega
      exact h.2.1
theorem soundD {nb : Nat} [hnb : NB C nb] (b0 : Bool) (hok : b0 = false → okD S nb S.cs.length) (i : Nat) (a : A) (σ : SD) (act : Act) (w : World) (K : Act → World → Prop) {Q' : Exit → Act → World → Prop} (hs : SmD C n S b0 σ act w) (hy : YD P T C n S ops i a σ) (hK : ∀ act w, SmD C n S b0 (efD S ops i a σ) act w → K act w) : wpOp P ops Q' i K act w := by
  obtain ⟨tmps, dfs⟩ := act
  obtain ⟨hb0, rfl, G, hs, hfix⟩ := hs
  obtain ⟨φ, k, ph⟩ := σ
  obtain ⟨o, ho, hd, hkl, hal, hy⟩ := hy
  rw [efD_at ho] at hK
  simp only at hs hfix hkl hal hy hK hb0
  unfold wpOp
  simp only [ho]
  rcases hy with ⟨hc, nal, hx, hr⟩ | ⟨nc, hal', rfl, hg, rfl, e, d, dt, hop, hdst, he, hz⟩ | ⟨nc, nal, hya⟩
  · obtain ⟨hg, p, hp, hx⟩ := hx ph hal
    rw [if_pos hc, if_neg nal] at hK
    have hw : Region.wanted o (yielded ops tmps) = true := by simp [Region.wanted, hg]
    rw [hw, if_pos rfl]
    refine .inl ?_
    have hlook := look_all (simF_lt hs) (fun t x hx => (hp t x hx).1)
    have hs' := hs.toG (f := p ++ fallF n φ) fun t x hx => by rw [← hlook]; exact hx
    refine Oper.wp_mono (fun act2 w2 ⟨hdf, G', hs2⟩ => hK act2 w2 ⟨hb0, hdf, G', ?_, fun hph t x hx => ?_⟩) (WO.one_ hg (hx (fallF n φ)) hs')
    · show SimF C n (S.bx (k + 1) ph) (S.lv (k + 1)) (S.gen (k + 1)) (putF φ o.dst a) G' act2.tmps w2
      cases hdst : o.dst with
      | none =>
        rw [hdst] at hs2
        refine ⟨{ hs2 with frame := fun t a ha => by simp [look] at ha }, fun t x hx => hs2.frame t x ?_⟩
        show look (p ++ fallF n φ) t = some x
        rw [hlook]
        exact hx
      | some d =>
        rw [hdst] at hs2
        refine ⟨{ hs2 with frame := fun t a ha => by simp [look] at ha }, fun t x hx => hs2.frame t x ?_⟩
        show look ((d, a) :: (p ++ fallF n φ)) t = some x
        rw [putF_look hlook]
        exact hx
    · simp only at hph hx
      have hbf : b0 = false := by cases b0 with | false => rfl | true => rw [hb0 rfl] at hph; cases hph
      have hm := monoB_spec ((hok hbf).mono k (List.getElem?_eq_some_iff.1 hc).1)
      cases hdst : o.dst with
      | none => rw [hdst] at hx; exact ren_fix hm x (hfix hph t x hx)
      | some d =>
        rw [hdst] at hx
        simp only [putF] at hx
        split at hx
        · cases hx; exact hr (by rw [← hph]; exact hal)
        · exact ren_fix hm x (hfix hph t x hx)
  · have hkc : ¬ S.cs[k]? = some i := fun h => nc (List.mem_of_getElem? h)
    rw [if_neg hkc, if_pos hal'] at hK
    have hw : Region.wanted o (yielded ops tmps) = true := by simp [Region.wanted, hg]
    rw [hw, if_pos rfl]
    refine .inl ?_
    have hbf : b0 = false := by cases b0 with | false => rfl | true => cases hb0 rfl
    obtain ⟨⟨hO, hpos⟩, hBR, hLR⟩ := (hok hbf).at k hkl
    have hlook : ∀ t, look (fallF n φ) t = φ t := look_all (p := []) (simF_lt hs) (fun t x hx => by simp [look] at hx)
    have hs' := hs.toG (f := fallF n φ) fun t x hx => by rw [← hlook]; exact hx
    have hwo : WO P C n ops (fun e st => e = .normal ∧ st = St.put ⟨fallF n φ, (S.gen k, S.z) :: S.bx k false, S.lv k, S.gen k + 1⟩ o.dst (.ptr (S.gen k) 0)) [o] ⟨fallF n φ, S.bx k false, S.lv k, S.gen k⟩ :=
      WO.alloc T hg hd hop he (WO.nil ⟨rfl, by rw [hz]⟩)
    refine Oper.wp_mono (fun act2 w2 ⟨hdf, G', hs2⟩ => hK act2 w2 ⟨fun _ => rfl, hdf, renG (S.ord k) G', ?_, fun h => by cases h⟩) (WO.one_ hg hwo hs')
    simp only [orderB, Bool.and_eq_true] at hO
    obtain ⟨⟨hO1, hO2⟩, hO3⟩ := hO
    rw [hdst] at hs2 ⊢
    have h3 : SimG C n ⟨(d, .ptr S.g0 0) :: fallF n φ, S.bxT k, S.lv k, S.gen k⟩ (renG (S.ord k) G') act2.tmps w2 := by
      refine SimG.ren (gen' := S.gen k) hs2 (S.ord k) (nodup_of hO1) (Nat.le_of_ble_eq_true hO2) (fun i hi => ?_) (fun t x hx => ?_) (fun i l' hl' => ?_) (fun i hi => ?_)
      · have h4 := headB_get hO3 i (by rw [← hnb.h]; exact hi)
        simpa using h4
      · rw [look_cons] at hx
        show ∃ a, look ((d, .ptr (S.gen k) 0) :: fallF n φ) t = some a ∧ ren (S.ord k) a = x
        rw [look_cons]
        split at hx
        · rename_i e
          rw [if_pos e]
          cases hx
          exact ⟨_, rfl, by simp only [ren, hpos]⟩
        · rename_i e
          rw [if_neg e]
          rw [hlook] at hx ⊢
          exact ⟨x, hx, hfix rfl t x hx⟩
      · exact SubBR.le hBR i l' hl'
      · exact lvR_mem hLR i hi
    refine ⟨{ h3 with frame := fun t a ha => by simp [look] at ha }, fun t x hx => h3.frame t x ?_⟩
    show look ((d, _) :: fallF n φ) t = some x
    rw [putF_look hlook]
    exact hx
  · have hkc : ¬ S.cs[k]? = some i := fun h => nc (List.mem_of_getElem? h)
    rw [if_neg hkc, if_neg nal] at hK
    obtain ⟨hya, hr⟩ := hya k ph hkl hal
    have hfix' : ph = false → ∀ t x, putF φ o.dst a t = some x → ren (S.ord k) x = x := fun hph t x hx => by
      cases hdst : o.dst with
      | none => rw [hdst] at hx; exact hfix hph t x hx
      | some d =>
        rw [hdst] at hx
        simp only [putF] at hx
        split at hx
        · cases hx; exact hr hph
        · exact hfix hph t x hx
    obtain ⟨_, ⟨hw, f, hf, hp⟩ | ⟨hw, rfl⟩⟩ := hya
    · rw [wanted_of hs hw]
      simp only [if_true]
      refine .inl ?_
      have hg : Gives P o ⟨tmps, []⟩ w fun v w' => Below w.heap.size w w' ∧ Rep (enOf C G (S.gen k) w') v a := hp G tmps w (hs.toG fun t x hx => (hf t x hx).1)
      refine hg.wp fun v w' ⟨hb, hr⟩ => ?_
      rw [Act.put_eq]
      exact hK _ _ ⟨hb0, rfl, G, hs.step hb hd hr, hfix'⟩
    · rw [wanted_of hs hw]
      simp only [Bool.false_eq_true, if_false]
      rw [Act.put_eq]
      exact hK _ _ ⟨hb0, rfl, G, hs.step (Below.refl _ _) hd (.tup #[] [] rfl (by simp)), hfix'⟩
def CD (P : Program) (T : Tab P) (C : Ctx) (n : Nat) (S : ParD) (ops : Array Oper) (Q : St → Prop) (l : List Oper) (i : Nat) (f : List (Nat × A)) (k : Nat) (b : Bool) : Prop :=
  ceG (YD P T C n S ops) (efD S ops) (fun σ => ∃ f', (∀ t, look f' t = σ.1 t) ∧ σ.2 = (S.cs.length, true) ∧ Q ⟨f', S.bxT S.cs.length, S.lv S.cs.length, S.gen S.cs.length⟩) l i (look f, k, b)
def chainB (ops : Array Oper) : List Nat → Bool
  | c :: c' :: r => reachB .any ops ops.size c' c && chainB ops (c' :: r)
  | _ => true
theorem chainB_spec {ops : Array Oper} : ∀ {cs : List Nat}, chainB ops cs = true → ∀ k c c', cs[k]? = some c → cs[k + 1]? = some c' → reachB .any ops ops.size c' c = true
  | [], _, k, c, c', h, _ => by simp at h
  | [_], _, k, c, c', _, h => by simp at h
  | x :: y :: r, h, k, c, c', h1, h2 => by
    simp only [chainB, Bool.and_eq_true] at h
    cases k with
    | zero =>
      simp at h1 h2
      subst h1; subst h2
      exact h.1
    | succ k => exact chainB_spec h.2 k c c' (by simpa using h1) (by simpa using h2)
def AllFix (o : List Nat) : List (Nat × A) → Prop
  | [] => True
  | (_, a) :: r => ren o a = a ∧ AllFix o r
theorem AllFix.at {o : List Nat} : ∀ {f : List (Nat × A)}, AllFix o f → ∀ t a, look f t = some a → ren o a = a
  | [], _, t, a, h => by simp [look] at h
  | (s, x) :: r, hf, t, a, h => by
    rw [look_cons] at h
    split at h
    · cases h; exact hf.1
    · exact hf.2.at t a h
theorem W.regionChain (T : Tab P) {nb : Nat} [hnb : NB C nb] {id : Nat} {l l1 l2 : List Oper} {f : List (Nat × A)} {bx : List (Nat × List A)} {lv : List Nat} {gen : Nat} {Q : Exit → St → Prop} (S : ParD) (b0 : Bool) (m : Nat) (hB : regionOKC m l.toArray = true) (hch : chainB l.toArray S.cs = true) (h1 : l.take m = l1) (h2 : l.drop m = l2)
    (hok : b0 = false → okD S nb S.cs.length ∧ AllFix (S.ord 0) f) (e1 : ∀ g c, look' (S.bx 0 b0) g = some c → look' bx g = some c) (e2 : S.lv 0 = lv) (e3 : Nat.ble gen (S.gen 0) = true)
    (h : CD P T C n S l.toArray (WO P C n l.toArray Q l2) l1 0 f 0 b0) : W P C n (.region id l.toArray true) Q ⟨f, bx, lv, gen⟩ := by
  subst h1; subst h2; subst e2
  intro tmps w ⟨G, hs⟩
  have hs : SimG C n ⟨f, bx, S.lv 0, S.gen 0⟩ G tmps w := SimG.later hs (g := S.gen 0) (Nat.le_of_ble_eq_true e3)
  have hs : SimG C n ⟨f, S.bx 0 b0, S.lv 0, S.gen 0⟩ G tmps w := { hs with box := fun g c hc => hs.box g c (e1 g c hc) }
  simp only [regionOKC, Bool.and_eq_true] at hB
  obtain ⟨⟨⟨hm, hw⟩, hfore⟩, hlex⟩ := hB
  have hm : m ≤ l.length := by simpa using Nat.le_of_ble_eq_true hm
  have hb : Below w.heap.size w { w with drawn := w.drawn + 1 } := (Below.refl _ w).drew
  have hs' : SimF C n (S.bx 0 b0) (S.lv 0) (S.gen 0) (look f) G tmps { w with drawn := w.drawn + 1 } := SimF.ofG (hs.evolve hb).2
  have hlen : (l.take m).length = m := by simp; omega
  refine wp_region_any T.mixed ?_
  have hsz : l.toArray.size = (l.take m).length + (l.drop m).length := by simp; omega
  rw [hsz]
  have hcl : Closed .any l.toArray (Array.replicate ((l.take m).length + (l.drop m).length) false) := fun j oj _ hl _ _ _ => by
    by_cases q : j < (l.take m).length + (l.drop m).length
    · simp only [Array.getD_eq_getD_getElem?, Array.getElem?_replicate] at hl
      rw [if_pos q] at hl
      cases hl
    · simp only [Array.getD_eq_getD_getElem?, Array.getElem?_replicate] at hl
      rw [if_neg q] at hl
      cases hl
  refine wpAny_of_G (m := m) (Sm := SmD C n S b0) (Y := YD P T C n S l.toArray) (ef := efD S l.toArray) (Q := fun σ => ∃ f', (∀ t, look f' t = σ.1 t) ∧ σ.2 = (S.cs.length, true) ∧ WO P C n l.toArray Q (l.drop m) ⟨f', S.bxT S.cs.length, S.lv S.cs.length, S.gen S.cs.length⟩)
    (fun i e σ act w K hs hy hk => soundD b0 (fun h => (hok h).1) i e σ act w K hs hy hk) (fun listed σ act w hs hc hsp ⟨f', e1, e2, hq⟩ => ?_) _ _ (look f, 0, b0) ⟨tmps, []⟩ _ ⟨fun h => h, rfl, G, hs', fun h => (hok h).2.at⟩ hcl ?_
  · obtain ⟨tmps, dfs⟩ := act
    obtain ⟨_, rfl, G, hs, _⟩ := hs
    rw [e2] at hs
    refine wpAny_tailT hw (foreB_spec hfore) (l.drop m) m listed ⟨tmps, []⟩ w (Nat.le_refl _) (by simp; omega) (fun j => by simp [List.getElem?_drop]) hc hsp.1 hsp.2.1 hsp.2.2 ?_
    exact hq tmps w ⟨G, hs.toG (fun t a ha => by rw [← e1]; exact ha)⟩
  · refine wpG_lexR hw (fun i j oi oj hi hj hij him hjm hap hno => swapD (chainB_spec hch) hi hj hij hap hno) (l.take m) 0 _ _ (by rw [hlen]; omega) (fun j hj => ?_) hcl (by simp; omega) (fun j hj => by omega) (fun j _ hj => ?_) (by rw [hlen]; rw [hsz, hlen] at hlex; exact hlex) h
    · rw [hlen] at hj
      rw [Nat.zero_add]
      simp [List.getElem?_take, hj]
    · have hj' : j < l.length := by simpa using hj
      have e : min m l.length + (l.length - m) = l.length := by omega
      simp [e, hj']
variable {op : Op} {ty : TypeId} {pos : String} {af : Array Edge} {a : A} {d i k : Nat} {rest : List Oper} {f : List (Nat × A)} {Q : St → Prop} {b : Bool}
theorem CD.nil (h : Q ⟨f, S.bxT S.cs.length, S.lv S.cs.length, S.gen S.cs.length⟩) (hk : Nat.beq k S.cs.length = true) : CD P T C n S ops Q [] i f k true := by
  have := Nat.eq_of_beq_eq_true hk
  subst this
  exact ⟨f, fun _ => rfl, rfl, h⟩
def allD (p : Nat → Bool → Prop) : Nat → Prop
  | 0 => p 0 false ∧ p 0 true
  | k + 1 => p (k + 1) false ∧ p (k + 1) true ∧ allD p k
theorem allD.at {p : Nat → Bool → Prop} : ∀ {m : Nat}, allD p m → ∀ k b, k ≤ m → p k b
  | 0, h, k, b, hk => by
    obtain rfl : k = 0 := by omega
    cases b
    · exact h.1
    · exact h.2
  | m + 1, h, k, b, hk => by
    rcases Nat.lt_or_ge k (m + 1) with hlt | hge
    · exact h.2.2.at k b (by omega)
    · obtain rfl : k = m + 1 := by omega
      cases b
      · exact h.1
      · exact h.2.1
def memB (x : Nat) (l : List Nat) : Bool := l.any fun y => Nat.beq x y
theorem memB_not {x : Nat} {l : List Nat} (h : memB x l = false) : x ∉ l := fun hm => by
  have : memB x l = true := List.any_eq_true.2 ⟨x, hm, by simp⟩
  rw [h] at this
  cases this
theorem cdPu (hp : allD (fun k b => alw S ops i k b = true → Pu P C n ⟨restr f (slotsOf op), S.bx k b, S.lv k, S.gen k⟩ ⟨some d, op, ty, pos, af, none⟩ a ∧ (b = false → ren (S.ord k) a = a)) S.cs.length)
    (hi : ops[i]? = some ⟨some d, op, ty, pos, af, none⟩) (h1 : memB i S.cs = false) (h2 : Nat.beq i S.al = false) (h3 : (Nat.ble k S.cs.length && alw S ops i k b) = true) (hd : Nat.blt d n = true)
    (h : CD P T C n S ops Q rest (i + 1) ((d, a) :: f) k b) : CD P T C n S ops Q (⟨some d, op, ty, pos, af, none⟩ :: rest) i f k b := by
  simp only [Bool.and_eq_true] at h3
  have nc := memB_not h1
  have na : i ≠ S.al := fun e => by subst e; simp at h2
  refine ⟨a, ⟨_, hi, hd, Nat.le_of_ble_eq_true h3.1, h3.2, .inr (.inr ⟨nc, na, fun k b hk ha => ⟨YA.of_pu (hp.at k b hk ha).1 hd, (hp.at k b hk ha).2⟩⟩)⟩, ?_⟩
  rw [efD_at hi]
  simp only [if_neg na, if_neg (fun e => nc (List.mem_of_getElem? e) : ¬ S.cs[k]? = some i)]
  unfold CD at h
  rw [look_put] at h
  exact h
theorem cdPu' (h0 : Pu P C n ⟨restr f (slotsOf op), S.bx k b, S.lv k, S.gen k⟩ ⟨some d, op, ty, pos, af, none⟩ a) (hp : allD (fun k b => alw S ops i k b = true → Pu P C n ⟨restr f (slotsOf op), S.bx k b, S.lv k, S.gen k⟩ ⟨some d, op, ty, pos, af, none⟩ a ∧ (b = false → ren (S.ord k) a = a)) S.cs.length)
    (hi : ops[i]? = some ⟨some d, op, ty, pos, af, none⟩) (h1 : memB i S.cs = false) (h2 : Nat.beq i S.al = false) (h3 : (Nat.ble k S.cs.length && alw S ops i k b) = true) (hd : Nat.blt d n = true)
    (h : CD P T C n S ops Q rest (i + 1) ((d, a) :: f) k b) : CD P T C n S ops Q (⟨some d, op, ty, pos, af, none⟩ :: rest) i f k b := cdPu hp hi h1 h2 h3 hd h
theorem W.regionL (T : Tab P) {nb : Nat} [hnb : NB C nb] {id : Nat} {l l1 l2 : List Oper} {f : List (Nat × A)} {bx : List (Nat × List A)} {lv : List Nat} {gen : Nat} {Q : Exit → St → Prop} (bxs : List (List (Nat × List A))) (lvs : List (List Nat)) (gens : List Nat) (cs : List Nat) (m : Nat) (hB : regionOKC m l.toArray = true) (hch : chainB l.toArray cs = true) (h1 : l.take m = l1) (h2 : l.drop m = l2)
    (h : CD P T C n (parL (bx :: bxs) (lv :: lvs) (gen :: gens) cs l.length) l.toArray (WO P C n l.toArray Q l2) l1 0 f 0 true) : W P C n (.region id l.toArray true) Q ⟨f, bx, lv, gen⟩ :=
  W.regionChain T (parL (bx :: bxs) (lv :: lvs) (gen :: gens) cs l.length) true m hB hch h1 h2 (fun h => by cases h) (fun _ _ h => h) rfl (by show Nat.ble gen gen = true; simp) h
end
end Go.Ab
namespace Go.Tb
open Go.Ab
/-! ### readers see kinds, texts and values -/
section
variable {L : List Tk} {g : Bool}
def Rem (L : List Tk) (k : Nat) (l : List Tk) : Prop := (L.map Tk.core).drop k = l
theorem Rem.next {k : Nat} {t : Tk} {r : List Tk} (h : Rem L k (t :: r)) : Rem L (k + 1) r := by
  unfold Rem at *
  rw [← List.drop_drop, h]
  rfl
theorem Rem.skip {k : Nat} {a r : List Tk} (h : Rem L k (a ++ r)) : Rem L (k + a.length) r := by
  unfold Rem at *
  rw [← List.drop_drop, h, List.drop_left]
theorem Rem.get {k : Nat} {t : Tk} {r : List Tk} (h : Rem L k (t :: r)) : ∃ x, L[k]? = some x ∧ x.core = t := by
  unfold Rem at h
  have h1 : ((L.map Tk.core).drop k)[0]? = some t := by rw [h]; rfl
  rw [List.getElem?_drop, List.getElem?_map, Nat.add_zero, Option.map_eq_some_iff] at h1
  exact h1
theorem Rem.lt {k : Nat} {t : Tk} {r : List Tk} (h : Rem L k (t :: r)) : k < L.length := by
  obtain ⟨x, hx, _⟩ := h.get
  exact (List.getElem?_eq_some_iff.1 hx).1
theorem Rem.len {k : Nat} {l : List Tk} (h : Rem L k l) : l.length = L.length - k := by
  unfold Rem at h
  rw [← h]
  simp
theorem Rem.tk {k : Nat} {t : Tk} {r : List Tk} (h : Rem L k (t :: r)) (b : Bool) : (tk0 L (k, b)).core = t := by
  obtain ⟨x, hx, e⟩ := h.get
  rw [at_get (st := (k, b)) hx, e]
theorem Rem.kind {k : Nat} {t : Tk} {r : List Tk} (h : Rem L k (t :: r)) (b : Bool) : (tk0 L (k, b)).kind = t.kind := by rw [← h.tk b]
theorem Rem.txt {k : Nat} {t : Tk} {r : List Tk} (h : Rem L k (t :: r)) (b : Bool) : (tk0 L (k, b)).s = t.s := by rw [← h.tk b]
theorem Rem.num {k : Nat} {t : Tk} {r : List Tk} (h : Rem L k (t :: r)) (b : Bool) : (tk0 L (k, b)).n = t.n := by rw [← h.tk b]
theorem Rem.is {k : Nat} {t : Tk} {r : List Tk} (h : Rem L k (t :: r)) (b : Bool) (x : ByteArray) : isT (tk0 L (k, b)) x = isT t x := by
  unfold isT
  rw [h.kind b, h.txt b]
theorem Rem.sk {k : Nat} {t : Tk} {r : List Tk} (h : Rem L k (t :: r)) (x : ByteArray) : skB L x (k, false) = isT t x := by
  unfold skB
  rw [h.is]
  rfl
theorem Rem.need {k : Nat} {t : Tk} {r : List Tk} (h : Rem L k (t :: r)) {x : ByteArray} (hx : isT t x = true) : needP L x (k, false) = (k + 1, false) := by
  unfold needP
  rw [h.sk, if_pos hx]
def fOp (ops : List (ByteArray × Int)) (t : Tk) : Option Int := (ops.find? fun o => isT t o.1).map (·.2)
theorem Rem.op {k : Nat} {t : Tk} {r : List Tk} (h : Rem L k (t :: r)) (ops : List (ByteArray × Int)) : findOp L ops (k, false) = fOp ops t := by
  unfold findOp fOp
  congr 2
  funext o
  exact h.sk o.1
theorem Rem.pk {k : Nat} {t0 t1 t2 t3 : Tk} {r : List Tk} (h : Rem L k (t0 :: t1 :: t2 :: t3 :: r)) : (pkT L k 1).core = t1 ∧ (pkT L k 2).core = t2 ∧ (pkT L k 3).core = t3 := by
  have h3 := h.next.next.next.lt
  refine ⟨?_, ?_, ?_⟩
  · obtain ⟨x, hx, e⟩ := h.next.get
    unfold pkT
    rw [Nat.min_eq_left (by omega), hx]
    exact e
  · obtain ⟨x, hx, e⟩ := h.next.next.get
    unfold pkT
    rw [Nat.min_eq_left (by omega), hx]
    exact e
  · obtain ⟨x, hx, e⟩ := h.next.next.next.get
    unfold pkT
    rw [Nat.min_eq_left (by omega), hx]
    exact e
theorem isT_core (t : Tk) (x : ByteArray) : isT t.core x = isT t x := rfl
theorem Rem.neg {k : Nat} {t0 t1 t2 t3 : Tk} {r : List Tk} (h : Rem L k (t0 :: t1 :: t2 :: t3 :: r)) : negB L (k, false) = (isT t0 gOpen && (isT t1 gSub && (decide (t2.kind = 3) && isT t3 gShut))) := by
  obtain ⟨h1, h2, h3⟩ := h.pk
  unfold negB
  rw [h.is, ← isT_core (pkT L k 1), h1, ← isT_core (pkT L k 3), h3, show (pkT L k 2).kind = t2.kind by rw [← h2]]
/-! ### levels -/
theorem leftP_stop {one : Pr Ex} {ops : List (ByteArray × Int)} {k k' : Nat} {e : Ex} {t : Tk} {r : List Tk} (h1 : one (k, false) = (e, (k', false))) (hr : Rem L k' (t :: r)) (ht : fOp ops t = none) : leftP L one ops (k, false) = (e, (k', false)) := by
  have hl := hr.lt
  unfold leftP
  rw [h1]
  obtain ⟨m, hm⟩ : ∃ m, L.length = m + 1 := ⟨L.length - 1, by omega⟩
  rw [hm]
  simp only [leftGo, hr.op, ht]
theorem leftP_bin {one : Pr Ex} {ops : List (ByteArray × Int)} {k k1 k2 : Nat} {a b : Ex} {op : Int} {t t2 : Tk} {r r2 : List Tk} (h1 : one (k, false) = (a, (k1, false))) (hr : Rem L k1 (t :: r)) (ht : fOp ops t = some op) (h2 : one (k1 + 1, false) = (b, (k2, false))) (hr2 : Rem L k2 (t2 :: r2)) (ht2 : fOp ops t2 = none) :
    leftP L one ops (k, false) = (mk2 op a b, (k2, false)) := by
  have hl := hr.lt
  unfold leftP
  rw [h1]
  obtain ⟨m, hm⟩ : ∃ m, L.length = m + 1 := ⟨L.length - 1, by omega⟩
  rw [hm]
  simp only [leftGo, hr.op, ht, adv, h2]
  cases m with
  | zero => rfl
  | succ m => simp only [leftGo, hr2.op, ht2]
theorem compP_stop {one : Pr Ex} {k k' : Nat} {e : Ex} {t : Tk} {r : List Tk} (h1 : one (k, false) = (e, (k', false))) (hr : Rem L k' (t :: r)) (ht : fOp opsCmp t = none) (ht' : fOp opsRev t = none) : compP L one (k, false) = (e, (k', false)) := by
  unfold compP
  simp only [h1, hr.op, ht, ht']
theorem compP_bin {one : Pr Ex} {k k1 k2 : Nat} {a b : Ex} {op : Int} {t : Tk} {r : List Tk} (h1 : one (k, false) = (a, (k1, false))) (hr : Rem L k1 (t :: r)) (ht : fOp opsCmp t = some op) (h2 : one (k1 + 1, false) = (b, (k2, false))) : compP L one (k, false) = (mk2 op a b, (k2, false)) := by
  unfold compP
  simp only [h1, hr.op, ht, adv, h2]
theorem notP_stop {comp : Pr Ex} {k : Nat} {x : Ex × PS} {t : Tk} {r : List Tk} (hr : Rem L k (t :: r)) (ht : isT t kwNot = false) (h1 : comp (k, false) = x) : ∀ m, notP L comp m (k, false) = x
  | 0 => by simp only [notP, h1]
  | m + 1 => by simp only [notP, hr.sk, ht, Bool.false_eq_true, if_false, h1]
def endT (t : Tk) : Bool := (fOp opsMul t).isNone && (fOp opsSum t).isNone && (fOp opsCmp t).isNone && (fOp opsRev t).isNone && (fOp opsAnd t).isNone && (fOp opsOr t).isNone && !isT t gOpen
def isOp (t : Tk) : Prop := ∃ op, 5 ≤ op ∧ op ≤ 15 ∧ t = opT' op
def folT (t : Tk) : Prop := endT t = true ∨ isOp t
theorem endT_spec {t : Tk} (h : endT t = true) : fOp opsMul t = none ∧ fOp opsSum t = none ∧ fOp opsCmp t = none ∧ fOp opsRev t = none ∧ fOp opsAnd t = none ∧ fOp opsOr t = none ∧ isT t gOpen = false := by
  simp only [endT, Bool.and_eq_true, Option.isNone_iff_eq_none, Bool.not_eq_true'] at h
  obtain ⟨⟨⟨⟨⟨⟨h1, h2⟩, h3⟩, h4⟩, h5⟩, h6⟩, h7⟩ := h
  exact ⟨h1, h2, h3, h4, h5, h6, h7⟩
theorem op_cases {op : Int} (h5 : 5 ≤ op) (h15 : op ≤ 15) : op = 5 ∨ op = 6 ∨ op = 7 ∨ op = 8 ∨ op = 9 ∨ op = 10 ∨ op = 11 ∨ op = 12 ∨ op = 13 ∨ op = 14 ∨ op = 15 := by omega
theorem folT_open {t : Tk} (h : folT t) : isT t gOpen = false := by
  rcases h with h | ⟨op, h5, h15, rfl⟩
  · exact (endT_spec h).2.2.2.2.2.2
  · rcases op_cases h5 h15 with rfl | rfl | rfl | rfl | rfl | rfl | rfl | rfl | rfl | rfl | rfl <;> decide
theorem folT_shut {t : Tk} (h : isOp t) : isT t gShut = false := by
  obtain ⟨op, h5, h15, rfl⟩ := h
  rcases op_cases h5 h15 with rfl | rfl | rfl | rfl | rfl | rfl | rfl | rfl | rfl | rfl | rfl <;> decide
abbrev shutT : Tk := sgT gShut
theorem shut_end : endT shutT = true := by decide
theorem com_end : endT (sgT gCom) = true := by decide
def RdU (L : List Tk) (g : Bool) (e : Ex) : Prop := ∀ n m k t r, (tokE e).length ≤ n → (tokE e).length ≤ m → Rem L k (tokE e ++ t :: r) → folT t → unaryP L (primP L g (orP L g n)) m (k, false) = (e, (k + (tokE e).length, false))
def Hd (e : Ex) : Prop := ∃ h tl, tokE e = h :: tl ∧ isT h kwNot = false ∧ isT h gShut = false
theorem Hd.pos {e : Ex} (h : Hd e) : 1 ≤ (tokE e).length := by
  obtain ⟨_, _, h, _⟩ := h
  rw [h]
  simp
theorem prod_stop {e : Ex} {n k : Nat} {t : Tk} {r : List Tk} (hu : RdU L g e) (hn : (tokE e).length ≤ n) (hr : Rem L k (tokE e ++ t :: r)) (hf : folT t) (h1 : fOp opsMul t = none) : prodP L g (orP L g n) (k, false) = (e, (k + (tokE e).length, false)) := by
  refine leftP_stop (hu n L.length k t r hn ?_ hr hf) hr.skip h1
  have := hr.len
  simp at this
  omega
theorem sum_stop {e : Ex} {n k : Nat} {t : Tk} {r : List Tk} (hu : RdU L g e) (hn : (tokE e).length ≤ n) (hr : Rem L k (tokE e ++ t :: r)) (hf : folT t) (h1 : fOp opsMul t = none) (h2 : fOp opsSum t = none) : sumP L g (orP L g n) (k, false) = (e, (k + (tokE e).length, false)) :=
  leftP_stop (prod_stop hu hn hr hf h1) hr.skip h2
theorem comp_stop {e : Ex} {n k : Nat} {t : Tk} {r : List Tk} (hu : RdU L g e) (hn : (tokE e).length ≤ n) (hr : Rem L k (tokE e ++ t :: r)) (hf : folT t) (h1 : fOp opsMul t = none) (h2 : fOp opsSum t = none) (h3 : fOp opsCmp t = none) (h4 : fOp opsRev t = none) : compP L (sumP L g (orP L g n)) (k, false) = (e, (k + (tokE e).length, false)) :=
  compP_stop (sum_stop hu hn hr hf h1 h2) hr.skip h3 h4
theorem nots_stop {e : Ex} {n k m : Nat} {t : Tk} {r : List Tk} (hh : Hd e) (hu : RdU L g e) (hn : (tokE e).length ≤ n) (hr : Rem L k (tokE e ++ t :: r)) (hf : folT t) (h1 : fOp opsMul t = none) (h2 : fOp opsSum t = none) (h3 : fOp opsCmp t = none) (h4 : fOp opsRev t = none) : notP L (compP L (sumP L g (orP L g n))) m (k, false) = (e, (k + (tokE e).length, false)) := by
  have hc := comp_stop hu hn hr hf h1 h2 h3 h4
  obtain ⟨h, tl, e1, e2, _⟩ := hh
  have hr' := hr
  rw [e1] at hr'
  exact notP_stop hr' e2 hc m
theorem and_stop {e : Ex} {n k : Nat} {t : Tk} {r : List Tk} (hh : Hd e) (hu : RdU L g e) (hn : (tokE e).length ≤ n) (hr : Rem L k (tokE e ++ t :: r)) (hf : folT t) (h1 : fOp opsMul t = none) (h2 : fOp opsSum t = none) (h3 : fOp opsCmp t = none) (h4 : fOp opsRev t = none) (h5 : fOp opsAnd t = none) : andP L g (orP L g n) (k, false) = (e, (k + (tokE e).length, false)) :=
  leftP_stop (nots_stop hh hu hn hr hf h1 h2 h3 h4) hr.skip h5
theorem or_stop {e : Ex} {n k : Nat} {t : Tk} {r : List Tk} (hh : Hd e) (hu : RdU L g e) (hn : (tokE e).length + 1 ≤ n) (hr : Rem L k (tokE e ++ t :: r)) (hf : endT t = true) : orP L g n (k, false) = (e, (k + (tokE e).length, false)) := by
  obtain ⟨m, rfl⟩ : ∃ m, n = m + 1 := ⟨n - 1, by omega⟩
  obtain ⟨h1, h2, h3, h4, h5, h6, _⟩ := endT_spec hf
  exact leftP_stop (and_stop hh hu (by omega) hr (.inl hf) h1 h2 h3 h4 h5) hr.skip h6
theorem or_not {e : Ex} {n k : Nat} {r : List Tk} (hh : Hd e) (hu : RdU L g e) (hn : (tokE e).length + 1 ≤ n) (hr : Rem L k (wdT kwNot :: (tokE e ++ shutT :: r))) : orP L g n (k, false) = (mk1 3 e, (k + 1 + (tokE e).length, false)) := by
  obtain ⟨m, rfl⟩ : ∃ m, n = m + 1 := ⟨n - 1, by omega⟩
  obtain ⟨h1, h2, h3, h4, h5, h6, _⟩ := endT_spec shut_end
  have hk := hr.next.skip
  have hn1 : notsP L g (orP L g m) (k, false) = (mk1 3 e, (k + 1 + (tokE e).length, false)) := by
    have hl := hr.lt
    obtain ⟨q, hq⟩ : ∃ q, L.length = q + 1 := ⟨L.length - 1, by omega⟩
    unfold notsP
    rw [hq]
    simp only [notP, hr.sk, show isT (wdT kwNot) kwNot = true by decide, if_true, adv]
    rw [nots_stop hh hu (by omega) hr.next (.inl shut_end) h1 h2 h3 h4]
  exact leftP_stop (leftP_stop hn1 hk h5) hk h6
theorem or_bin {a b : Ex} {op : Int} {n k : Nat} {r : List Tk} (h5 : 5 ≤ op) (h15 : op ≤ 15) (ha : Hd a) (ua : RdU L g a) (hb : Hd b) (ub : RdU L g b) (hn : (tokE a).length + 1 ≤ n) (hn' : (tokE b).length + 1 ≤ n) (hr : Rem L k (tokE a ++ opT' op :: (tokE b ++ shutT :: r))) :
    orP L g n (k, false) = (mk2 op a b, (k + (tokE a).length + 1 + (tokE b).length, false)) := by
  obtain ⟨m, rfl⟩ : ∃ m, n = m + 1 := ⟨n - 1, by omega⟩
  obtain ⟨e1, e2, e3, e4, e5, e6, _⟩ := endT_spec shut_end
  have fo : folT (opT' op) := .inr ⟨op, h5, h15, rfl⟩
  have fs : folT shutT := .inl shut_end
  have r1 := hr.skip
  have r2 := r1.next
  have r3 := r2.skip
  have ma : (tokE a).length ≤ m := by omega
  have mb : (tokE b).length ≤ m := by omega
  have la : (tokE a).length ≤ L.length := by have := hr.len; simp at this; omega
  have lb : (tokE b).length ≤ L.length := by have := r2.len; simp at this; omega
  have nN : ∀ {x : Ex}, compP L (sumP L g (orP L g m)) (k, false) = (x, (k + (tokE a).length + 1 + (tokE b).length, false)) → notsP L g (orP L g m) (k, false) = (x, (k + (tokE a).length + 1 + (tokE b).length, false)) := fun hc => by
    obtain ⟨h, tl, q1, q2, _⟩ := ha
    have hr' := hr
    rw [q1] at hr'
    exact notP_stop hr' q2 hc _
  show leftP L (andP L g (orP L g m)) opsOr (k, false) = _
  rcases op_cases h5 h15 with rfl | rfl | rfl | rfl | rfl | rfl | rfl | rfl | rfl | rfl | rfl
  · exact leftP_stop (leftP_stop (nN (compP_stop (leftP_bin (prod_stop ua ma hr fo (by decide)) r1 (by decide) (prod_stop ub mb r2 fs e1) r3 e2) r3 e3 e4)) r3 e5) r3 e6
  · exact leftP_stop (leftP_stop (nN (compP_stop (leftP_bin (prod_stop ua ma hr fo (by decide)) r1 (by decide) (prod_stop ub mb r2 fs e1) r3 e2) r3 e3 e4)) r3 e5) r3 e6
  · exact leftP_stop (leftP_stop (nN (compP_stop (leftP_stop (leftP_bin (ua m _ k _ _ ma la hr fo) r1 (by decide) (ub m _ _ _ _ mb lb r2 fs) r3 e1) r3 e2) r3 e3 e4)) r3 e5) r3 e6
  · exact leftP_stop (leftP_stop (nN (compP_stop (leftP_stop (leftP_bin (ua m _ k _ _ ma la hr fo) r1 (by decide) (ub m _ _ _ _ mb lb r2 fs) r3 e1) r3 e2) r3 e3 e4)) r3 e5) r3 e6
  · exact leftP_stop (leftP_stop (nN (compP_stop (leftP_stop (leftP_bin (ua m _ k _ _ ma la hr fo) r1 (by decide) (ub m _ _ _ _ mb lb r2 fs) r3 e1) r3 e2) r3 e3 e4)) r3 e5) r3 e6
  · exact leftP_stop (leftP_stop (nN (compP_bin (sum_stop ua ma hr fo (by decide) (by decide)) r1 (by decide) (sum_stop ub mb r2 fs e1 e2))) r3 e5) r3 e6
  · exact leftP_stop (leftP_stop (nN (compP_bin (sum_stop ua ma hr fo (by decide) (by decide)) r1 (by decide) (sum_stop ub mb r2 fs e1 e2))) r3 e5) r3 e6
  · exact leftP_stop (leftP_stop (nN (compP_bin (sum_stop ua ma hr fo (by decide) (by decide)) r1 (by decide) (sum_stop ub mb r2 fs e1 e2))) r3 e5) r3 e6
  · exact leftP_stop (leftP_stop (nN (compP_bin (sum_stop ua ma hr fo (by decide) (by decide)) r1 (by decide) (sum_stop ub mb r2 fs e1 e2))) r3 e5) r3 e6
  · exact leftP_stop (leftP_bin (nots_stop ha ua ma hr fo (by decide) (by decide) (by decide) (by decide)) r1 (by decide) (nots_stop hb ub mb r2 fs e1 e2 e3 e4) r3 e5) r3 e6
  · exact leftP_bin (and_stop ha ua ma hr fo (by decide) (by decide) (by decide) (by decide) (by decide)) r1 (by decide) (and_stop hb ub mb r2 fs e1 e2 e3 e4 e5) r3 e6
end
end Go.Tb
namespace Go.Tb
open Go.Ab
section
variable {L : List Tk} {g : Bool}
theorem Rem.pk1 {k : Nat} {t0 t1 : Tk} {r : List Tk} (h : Rem L k (t0 :: t1 :: r)) : (pkT L k 1).core = t1 := by
  have h3 := h.next.lt
  obtain ⟨x, hx, e⟩ := h.next.get
  unfold pkT
  rw [Nat.min_eq_left (by omega), hx]
  exact e
theorem Rem.pk2 {k : Nat} {t0 t1 t2 : Tk} {r : List Tk} (h : Rem L k (t0 :: t1 :: t2 :: r)) : (pkT L k 2).core = t2 := by
  have h3 := h.next.next.lt
  obtain ⟨x, hx, e⟩ := h.next.next.get
  unfold pkT
  rw [Nat.min_eq_left (by omega), hx]
  exact e
theorem Rem.neg0 {k : Nat} {t0 : Tk} {r : List Tk} (h : Rem L k (t0 :: r)) (h0 : isT t0 gOpen = false) : negB L (k, false) = false := by
  unfold negB
  rw [h.is, h0]
  rfl
theorem Rem.neg1 {k : Nat} {t0 t1 : Tk} {r : List Tk} (h : Rem L k (t0 :: t1 :: r)) (h0 : isT t1 gSub = false) : negB L (k, false) = false := by
  unfold negB
  rw [← isT_core (pkT L k 1), h.pk1, h0]
  simp
theorem Rem.neg2 {k : Nat} {t0 t1 t2 : Tk} {r : List Tk} (h : Rem L k (t0 :: t1 :: t2 :: r)) (h0 : t2.kind ≠ 3) : negB L (k, false) = false := by
  unfold negB
  rw [show (pkT L k 2).kind = t2.kind by rw [← h.pk2]]
  simp [h0]
theorem ident_ne {s x : ByteArray} (h : identB s = true) (hx : identB x = false) : s ≠ x := by
  rintro rfl
  rw [h] at hx
  cases hx
theorem ident_is {s x : ByteArray} (h : identB s = true) (hx : identB x = false) : isT (wdT s) x = false := by
  unfold isT
  simp [ident_ne h hx]
theorem ident_resvd {s : ByteArray} (h : identB s = true) : resvd s = false := by
  simp only [identB, Bool.and_eq_true, Bool.not_eq_true'] at h
  exact h.2
theorem prim_skip {k : Nat} {t : Tk} {r : List Tk} {orF : Pr Ex} (h : Rem L k (t :: r)) (h3 : t.kind ≠ 3) (h4 : t.kind ≠ 4) (n1 : isT t kwNull = false) (n2 : isT t kwTrue = false) (n3 : isT t kwFalse = false) : primP L g orF (k, false) =
    if negB L (k, false) then (exK ⟨2, -(pkT L k 2).n, E0⟩, (k + 4, false))
    else if isT t gOpen then ((orF (k + 1, false)).1, needP L gShut (orF (k + 1, false)).2)
    else if nameB L (k, false) then (if skB L gOpen (k + 1, false) then callP L orF t.s (k + 2, false) else (exF t.s, (k + 1, false)))
    else (if g then exF E0 else exZ, (k, true)) := by
  unfold primP
  rw [h.kind, h.sk, h.sk, h.sk, h.sk, h.txt, n1, n2, n3]
  simp only [Bool.false_eq_true, if_false, if_neg h3, if_neg h4, adv, failS]
theorem name_at {k : Nat} {s : ByteArray} {r : List Tk} (h : Rem L k (wdT s :: r)) (hs : identB s = true) : nameB L (k, false) = true := by
  unfold nameB
  rw [h.kind, h.txt]
  simp [ident_resvd hs]
theorem nameP_at {k : Nat} {s : ByteArray} {r : List Tk} (h : Rem L k (wdT s :: r)) (hs : identB s = true) : nameP L (k, false) = (s, (k + 1, false)) := by
  unfold nameP
  rw [name_at h hs, if_pos rfl, h.txt]
theorem un_prim {k m : Nat} {t : Tk} {r : List Tk} {orF : Pr Ex} (h : Rem L k (t :: r)) (hs : isT t gSub = false) : unaryP L (primP L g orF) m (k, false) = primP L g orF (k, false) := by
  cases m with
  | zero => rfl
  | succ m => simp only [unaryP, h.sk, hs, Bool.false_eq_true, if_false]
def Hd' (e : Ex) : Prop := ∃ h tl, tokE e = h :: tl ∧ isT h kwNot = false ∧ isT h gShut = false ∧ (h.kind = 3 → tl = []) ∧ (isT h gSub = true → ∃ h2 tl2, tl = h2 :: tl2 ∧ (h2.kind = 3 → tl2 = []))
theorem Hd'.hd {e : Ex} (h : Hd' e) : Hd e := by
  obtain ⟨a, b, c, d, e, _⟩ := h
  exact ⟨a, b, c, d, e⟩
theorem tokE_call1 (s : ByteArray) (k : Ex) : tokE (exC s [k]) = wdT s :: sgT gOpen :: (tokE k ++ [shutT]) := rfl
theorem tokE_call2 (s : ByteArray) (a b : Ex) : tokE (exC s [a, b]) = wdT s :: sgT gOpen :: (tokE a ++ sgT gCom :: tokE b ++ [shutT]) := rfl
theorem tokE_not (k : Ex) : tokE (mk1 3 k) = sgT gOpen :: wdT kwNot :: (tokE k ++ [shutT]) := rfl
theorem tokE_neg (k : Ex) : tokE (mk1 4 k) = sgT gSub :: tokE k := rfl
theorem tokE_bin {op : Int} {a b : Ex} (h5 : 5 ≤ op) (h15 : op ≤ 15) : tokE (mk2 op a b) = sgT gOpen :: (tokE a ++ opT' op :: (tokE b ++ [shutT])) := by
  show tokN op E0 v0 [tokE a, tokE b] = _
  unfold tokN
  rw [if_neg (by omega), if_neg (by omega), if_neg (by omega), if_neg (by omega), if_neg (by omega)]
  rfl
theorem const_facts {v : Val} (h : constErr v = 0) : (v.kind = 0 ∧ v = v0) ∨ (v.kind = 3 ∧ v = ⟨3, 0, v.s⟩) ∨ (v = ⟨1, 1, E0⟩) ∨ (v = ⟨1, 0, E0⟩) ∨ (v = ⟨2, v.n, E0⟩ ∧ inR v.n = true) := by
  simp only [constErr] at h
  split at h
  · rename_i q; exact absurd h q
  rename_i q
  have q' : valErr v.kind v = 0 := by simpa using q
  simp only [valErr] at q'
  split at q'
  · cases q'
  rename_i k1
  split at q'
  · cases q'
  rename_i k2
  split at q'
  · cases q'
  split at q'
  · cases q'
  rename_i k3
  obtain ⟨kind, n, s⟩ := v
  simp only [not_or, not_and, Bool.not_eq_false, Decidable.not_not] at k1 k2 k3 ⊢
  have hs : kind ≠ 3 → s = E0 := k3.1
  have hk : kind = 0 ∨ kind = 1 ∨ kind = 2 ∨ kind = 3 := by
    by_cases h0 : kind = 0
    · exact .inl h0
    · have := k1 h0
      have h1 := this.2
      omega
  rcases hk with rfl | rfl | rfl | rfl
  · refine .inl ⟨rfl, ?_⟩
    rw [hs (by decide), k3.2 (.inl rfl)]
  · have := k2.1 rfl
    have hn : n = 0 ∨ n = 1 := by omega
    rcases hn with rfl | rfl
    · exact .inr (.inr (.inr (.inl (by rw [hs (by decide)]))))
    · exact .inr (.inr (.inl (by rw [hs (by decide)])))
  · exact .inr (.inr (.inr (.inr ⟨by rw [hs (by decide)], k2.2 rfl⟩)))
  · refine .inr (.inl ⟨rfl, ?_⟩)
    rw [k3.2 (.inr rfl)]
theorem call_list {orF : Pr Ex} {s : ByteArray} {k : Nat} {l : List Ex} {k' : Nat} {t : Tk} {r r' : List Tk} (h : Rem L k (t :: r)) (ht : isT t gShut = false) (hl : listP L orF (k, false) = (l, (k', false))) (h' : Rem L k' (shutT :: r')) : callP L orF s (k, false) = (exC s l, (k' + 1, false)) := by
  unfold callP
  rw [h.sk, ht, hl]
  simp only [Bool.false_eq_true, if_false]
  rw [h'.need (by decide)]
theorem list1 {α : Type} {one : Pr α} {a : α} {k k' : Nat} {t : Tk} {r : List Tk} (h1 : one (k, false) = (a, (k', false))) (h : Rem L k' (t :: r)) (ht : isT t gCom = false) : listP L one (k, false) = ([a], (k', false)) := by
  unfold listP
  rw [h1]
  cases L.length with
  | zero => rfl
  | succ m => simp only [listGo, h.sk, ht, Bool.false_eq_true, if_false]
theorem list2 {α : Type} {one : Pr α} {a b : α} {k k1 k2 : Nat} {t2 : Tk} {r r2 : List Tk} (h1 : one (k, false) = (a, (k1, false))) (h : Rem L k1 (sgT gCom :: r)) (h2 : one (k1 + 1, false) = (b, (k2, false))) (h' : Rem L k2 (t2 :: r2)) (ht : isT t2 gCom = false) : listP L one (k, false) = ([a, b], (k2, false)) := by
  have hl := h.lt
  unfold listP
  rw [h1]
  obtain ⟨m, hm⟩ : ∃ m, L.length = m + 1 := ⟨L.length - 1, by omega⟩
  rw [hm]
  simp only [listGo, h.sk, show isT (sgT gCom) gCom = true by decide, if_true, adv, h2]
  cases m with
  | zero => rfl
  | succ m => simp only [listGo, h'.sk, ht, Bool.false_eq_true, if_false]
theorem prim_num {k : Nat} {t : Tk} {r : List Tk} {orF : Pr Ex} (h : Rem L k (t :: r)) (h3 : t.kind = 3) : primP L g orF (k, false) = (exK ⟨2, t.n, E0⟩, (k + 1, false)) := by
  unfold primP
  rw [h.kind, h.num]
  simp only [Bool.false_eq_true, if_false, if_pos h3, adv]
theorem prim_text {k : Nat} {t : Tk} {r : List Tk} {orF : Pr Ex} (h : Rem L k (t :: r)) (h4 : t.kind = 4) : primP L g orF (k, false) = (exK ⟨3, 0, t.s⟩, (k + 1, false)) := by
  unfold primP
  rw [h.kind, h.txt]
  simp only [Bool.false_eq_true, if_false, if_pos h4, if_neg (show ¬ t.kind = 3 by rw [h4]; decide), adv]
theorem prim_kw {k : Nat} {r : List Tk} {orF : Pr Ex} : (Rem L k (wdT kwNull :: r) → primP L g orF (k, false) = (exK v0, (k + 1, false))) ∧ (Rem L k (wdT kwTrue :: r) → primP L g orF (k, false) = (exK ⟨1, 1, E0⟩, (k + 1, false))) ∧ (Rem L k (wdT kwFalse :: r) → primP L g orF (k, false) = (exK ⟨1, 0, E0⟩, (k + 1, false))) := by
  refine ⟨fun h => ?_, fun h => ?_, fun h => ?_⟩
  · unfold primP
    rw [h.kind]
    simp only [h.sk, Bool.false_eq_true, if_false, if_neg (show ¬ (2 : Int) = 3 by decide), if_neg (show ¬ (2 : Int) = 4 by decide), if_pos (show isT (wdT kwNull) kwNull = true by decide), adv]
  · unfold primP
    rw [h.kind]
    simp only [h.sk, Bool.false_eq_true, if_false, if_neg (show ¬ (2 : Int) = 3 by decide), if_neg (show ¬ (2 : Int) = 4 by decide), show isT (wdT kwTrue) kwNull = false by decide, if_pos (show isT (wdT kwTrue) kwTrue = true by decide), adv]
  · unfold primP
    rw [h.kind]
    simp only [h.sk, Bool.false_eq_true, if_false, if_neg (show ¬ (2 : Int) = 3 by decide), if_neg (show ¬ (2 : Int) = 4 by decide), show isT (wdT kwFalse) kwNull = false by decide, show isT (wdT kwFalse) kwTrue = false by decide, if_pos (show isT (wdT kwFalse) kwFalse = true by decide), adv]
theorem const_reads {v : Val} (h : constErr v = 0) : Hd' (exK v) ∧ RdU L g (exK v) := by
  have ev : tokE (exK v) = plainT v := rfl
  have k3 : ∀ {x s n}, isT (⟨3, s, n, 0, 0⟩ : Tk) x = false := fun {x s n} => by unfold isT; rw [show decide ((3 : Int) = 5) = false by decide, show decide ((3 : Int) = 2) = false by decide]; rfl
  have k4 : ∀ {x s}, isT (txT s) x = false := fun {x s} => by unfold isT; rw [show decide ((4 : Int) = 5) = false by decide, show decide ((4 : Int) = 2) = false by decide]; rfl
  rcases const_facts h with ⟨_, rfl⟩ | ⟨_, e⟩ | rfl | rfl | ⟨e, hr⟩
  · exact ⟨⟨wdT kwNull, [], rfl, by decide, by decide, fun h => absurd h (by decide), fun h => absurd h (by decide)⟩, fun n m k t r _ _ (hr : Rem L k (wdT kwNull :: t :: r)) _ => by
      rw [un_prim hr (by decide)]
      exact prim_kw.1 hr⟩
  · have e2 : plainT v = [txT v.s] := by rw [e]; rfl
    refine ⟨⟨txT v.s, [], e2, k4, k4, fun h => absurd h (show ¬ (4 : Int) = 3 by decide), fun h => absurd h (by rw [k4]; simp)⟩, fun n m k t r _ _ hr _ => ?_⟩
    rw [ev, e2] at hr ⊢
    have hr' : Rem L k (txT v.s :: t :: r) := hr
    rw [un_prim hr' k4, prim_text hr' rfl]
    show (exK ⟨3, 0, v.s⟩, (k + 1, false)) = (exK v, (k + 1, false))
    rw [← e]
  · exact ⟨⟨wdT kwTrue, [], rfl, by decide, by decide, fun h => absurd h (by decide), fun h => absurd h (by decide)⟩, fun n m k t r _ _ (hr : Rem L k (wdT kwTrue :: t :: r)) _ => by
      rw [un_prim hr (by decide)]
      exact prim_kw.2.1 hr⟩
  · exact ⟨⟨wdT kwFalse, [], rfl, by decide, by decide, fun h => absurd h (by decide), fun h => absurd h (by decide)⟩, fun n m k t r _ _ (hr : Rem L k (wdT kwFalse :: t :: r)) _ => by
      rw [un_prim hr (by decide)]
      exact prim_kw.2.2 hr⟩
  · have ek : v.kind = 2 := by rw [e]
    by_cases hn : v.n < 0
    · have e2 : plainT v = [sgT gOpen, sgT gSub, nuT (-v.n), shutT] := by
        unfold plainT
        rw [ek, if_neg (by decide), if_neg (by decide), if_neg (by rintro ⟨h, _⟩; exact absurd h (by decide)), if_neg (by decide), if_pos hn]
      refine ⟨⟨_, _, ev.trans e2, by decide, by decide, fun h => absurd h (by decide), fun h => absurd h (by decide)⟩, fun n m k t r _ _ hr _ => ?_⟩
      rw [ev, e2] at hr ⊢
      have hr' : Rem L k (sgT gOpen :: sgT gSub :: nuT (-v.n) :: shutT :: t :: r) := hr
      have hng : negB L (k, false) = true := by
        rw [hr'.neg]
        simp only [show isT (sgT gOpen) gOpen = true by decide, show isT (sgT gSub) gSub = true by decide, show isT shutT gShut = true by decide, decide_true, Bool.and_self]
      have hn2 : (pkT L k 2).n = -v.n := by rw [show (pkT L k 2).n = (pkT L k 2).core.n from rfl, hr'.pk.2.1]
      rw [un_prim hr' (by decide), prim_skip hr' (by decide) (by decide) (by decide) (by decide) (by decide), hng, if_pos rfl, hn2, Int.neg_neg, ← e]
      rfl
    · have e2 : plainT v = [nuT v.n] := by
        unfold plainT
        rw [ek, if_neg (by decide), if_neg (by decide), if_neg (by rintro ⟨h, _⟩; exact absurd h (by decide)), if_neg (by decide), if_neg hn]
      refine ⟨⟨_, _, ev.trans e2, k3, k3, fun _ => rfl, fun h => absurd h (by rw [k3]; simp)⟩, fun n m k t r _ _ hr _ => ?_⟩
      rw [ev, e2] at hr ⊢
      have hr' : Rem L k (nuT v.n :: t :: r) := hr
      rw [un_prim hr' k3, prim_num hr' rfl]
      show (exK ⟨2, v.n, E0⟩, (k + 1, false)) = (exK v, (k + 1, false))
      rw [← e]
theorem reads {e : Ex} (hv : Vx e) : Hd' e ∧ RdU L g e := by
  induction hv with
  | const v h => exact const_reads h
  | field s h =>
    have i0 : isT (wdT s) gSub = false := ident_is h (by decide)
    refine ⟨⟨wdT s, [], rfl, ident_is h (by decide), ident_is h (by decide), fun h => absurd h (show ¬ (2 : Int) = 3 by decide), fun h => (by rw [i0] at h; cases h)⟩, fun n m k t r _ _ hr hf => ?_⟩
    have hr' : Rem L k (wdT s :: t :: r) := hr
    rw [un_prim hr' i0, prim_skip hr' (show ¬ (2 : Int) = 3 by decide) (show ¬ (2 : Int) = 4 by decide) (ident_is h (by decide)) (ident_is h (by decide)) (ident_is h (by decide)), hr'.neg0 (ident_is h (by decide)), if_neg (by decide), ident_is h (by decide), if_neg (by decide), name_at hr' h, if_pos rfl, hr'.next.sk, folT_open hf]
    rfl
  | not_ k hk ih =>
    obtain ⟨hh, hu⟩ := ih
    refine ⟨⟨sgT gOpen, _, tokE_not k, by decide, by decide, fun h => absurd h (by decide), fun h => absurd h (by decide)⟩, fun n m p t r hn hm hr hf => ?_⟩
    rw [tokE_not] at hr hn ⊢
    have hr' : Rem L p (sgT gOpen :: wdT kwNot :: (tokE k ++ shutT :: t :: r)) := by simpa [List.append_assoc] using hr
    have h3 := hr'.next.next.skip
    simp only [List.length_cons, List.length_append, List.length_nil] at hn ⊢
    rw [un_prim hr' (by decide), prim_skip hr' (by decide) (by decide) (by decide) (by decide) (by decide), hr'.neg1 (by decide), if_neg (by decide), if_pos (by decide), or_not hh.hd hu (by omega) hr'.next]
    simp only
    rw [h3.need (by decide)]
    congr 2
    omega
  | neg k hk ih =>
    obtain ⟨hh, hu⟩ := ih
    have hh' := hh
    obtain ⟨h2, tl2, q1, q2, q3, q4, q5⟩ := hh'
    refine ⟨⟨sgT gSub, _, tokE_neg k, by decide, by decide, fun h => absurd h (by decide), fun _ => ⟨h2, tl2, q1, q4⟩⟩, fun n m p t r hn hm hr hf => ?_⟩
    rw [tokE_neg] at hr hn hm ⊢
    have hr' : Rem L p (sgT gSub :: (tokE k ++ t :: r)) := hr
    simp only [List.length_cons] at hn hm ⊢
    obtain ⟨m, rfl⟩ : ∃ j, m = j + 1 := ⟨m - 1, by omega⟩
    simp only [unaryP, hr'.sk, show isT (sgT gSub) gSub = true by decide, if_true, adv]
    rw [hu n m (p + 1) t r (by omega) (by omega) hr'.next hf]
    simp only
    congr 2
    omega
  | bin op a b h5 h15 ha hb iha ihb =>
    obtain ⟨hha, hua⟩ := iha
    obtain ⟨hhb, hub⟩ := ihb
    refine ⟨⟨sgT gOpen, _, tokE_bin h5 h15, by decide, by decide, fun h => absurd h (by decide), fun h => absurd h (by decide)⟩, fun n m p t r hn hm hr hf => ?_⟩
    rw [tokE_bin h5 h15] at hr hn ⊢
    have hr' : Rem L p (sgT gOpen :: (tokE a ++ opT' op :: (tokE b ++ shutT :: t :: r))) := by simpa [List.append_assoc] using hr
    have h3 := hr'.next.skip.next.skip
    simp only [List.length_cons, List.length_append, List.length_nil] at hn ⊢
    have hng : negB L (p, false) = false := by
      obtain ⟨x, tl, q1, _, _, _, q5⟩ := hha
      have hr2 := hr'
      rw [q1, List.cons_append] at hr2
      by_cases hx : isT x gSub = true
      · obtain ⟨y, tl2, rfl, q6⟩ := q5 hx
        rw [List.cons_append] at hr2
        by_cases hy : y.kind = 3
        · obtain rfl := q6 hy
          rw [List.nil_append] at hr2
          rw [hr2.neg, show isT (opT' op) gShut = false from folT_shut ⟨op, h5, h15, rfl⟩]
          simp
        · exact hr2.neg2 hy
      · exact hr2.neg1 (by simpa using hx)
    rw [un_prim hr' (by decide), prim_skip hr' (by decide) (by decide) (by decide) (by decide) (by decide), hng, if_neg (by decide), if_pos (by decide), or_bin h5 h15 hha.hd hua hhb.hd hub (by omega) (by omega) hr'.next]
    simp only
    rw [h3.need (by decide)]
    congr 2
    omega
  | call1 s k h hk ih =>
    obtain ⟨hh, hu⟩ := ih
    have i0 : isT (wdT s) gSub = false := ident_is h (by decide)
    refine ⟨⟨wdT s, _, tokE_call1 s k, ident_is h (by decide), ident_is h (by decide), fun h => absurd h (show ¬ (2 : Int) = 3 by decide), fun h => (by rw [i0] at h; cases h)⟩, fun n m p t r hn hm hr hf => ?_⟩
    rw [tokE_call1] at hr hn ⊢
    have hr' : Rem L p (wdT s :: sgT gOpen :: (tokE k ++ shutT :: t :: r)) := by simpa [List.append_assoc] using hr
    have h2 := hr'.next.next
    have h3 := h2.skip
    simp only [List.length_cons, List.length_append, List.length_nil] at hn ⊢
    have hl := list1 (or_stop (g := g) (n := n) hh.hd hu (by omega) h2 shut_end) h3 (by decide)
    obtain ⟨x, tl, q1, _, q3, _⟩ := hh
    have h2' := h2
    rw [q1, List.cons_append] at h2'
    rw [un_prim hr' i0, prim_skip hr' (show ¬ (2 : Int) = 3 by decide) (show ¬ (2 : Int) = 4 by decide) (ident_is h (by decide)) (ident_is h (by decide)) (ident_is h (by decide)), hr'.neg0 (ident_is h (by decide)), if_neg (by decide), ident_is h (by decide), if_neg (by decide), name_at hr' h, if_pos rfl, hr'.next.sk, if_pos (by decide), call_list h2' q3 hl h3]
    congr 2
    omega
  | call2 s a b h ha hb iha ihb =>
    obtain ⟨hha, hua⟩ := iha
    obtain ⟨hhb, hub⟩ := ihb
    have i0 : isT (wdT s) gSub = false := ident_is h (by decide)
    refine ⟨⟨wdT s, _, tokE_call2 s a b, ident_is h (by decide), ident_is h (by decide), fun h => absurd h (show ¬ (2 : Int) = 3 by decide), fun h => (by rw [i0] at h; cases h)⟩, fun n m p t r hn hm hr hf => ?_⟩
    rw [tokE_call2] at hr hn ⊢
    have hr' : Rem L p (wdT s :: sgT gOpen :: (tokE a ++ sgT gCom :: (tokE b ++ shutT :: t :: r))) := by simpa [List.append_assoc] using hr
    have h2 := hr'.next.next
    have h3 := h2.skip
    have h4 := h3.next.skip
    simp only [List.length_cons, List.length_append, List.length_nil] at hn ⊢
    have hl := list2 (or_stop (g := g) (n := n) hha.hd hua (by omega) h2 com_end) h3 (or_stop (g := g) (n := n) hhb.hd hub (by omega) h3.next shut_end) h4 (by decide)
    obtain ⟨x, tl, q1, _, q3, _⟩ := hha
    have h2' := h2
    rw [q1, List.cons_append] at h2'
    rw [un_prim hr' i0, prim_skip hr' (show ¬ (2 : Int) = 3 by decide) (show ¬ (2 : Int) = 4 by decide) (ident_is h (by decide)) (ident_is h (by decide)) (ident_is h (by decide)), hr'.neg0 (ident_is h (by decide)), if_neg (by decide), ident_is h (by decide), if_neg (by decide), name_at hr' h, if_pos rfl, hr'.next.sk, if_pos (by decide), call_list h2' q3 hl h4]
    congr 2
    omega
end
theorem toks_core (s : ByteArray) : (toks s 0).map Tk.core = lexC (bys s) := (toks_lex s 0 (Nat.zero_le _)).1
theorem lexC_nil : lexC [] = [mkT 0 E0 0 0] := rfl
end Go.Tb
namespace Go.Tb
open Go.Ab
/-! ### texts -/
abbrev wCS : ByteArray := B #[44, 32]
def joinG (l : List ByteArray) : ByteArray := commaB wCS E0 l
abbrev tWhere : ByteArray := B #[119, 104, 101, 114, 101, 32]
abbrev tSelect : ByteArray := B #[115, 101, 108, 101, 99, 116, 32]
abbrev tGroup : ByteArray := B #[103, 114, 111, 117, 112, 32]
abbrev tSort : ByteArray := B #[115, 111, 114, 116, 32]
abbrev tLimit : ByteArray := B #[108, 105, 109, 105, 116, 32]
abbrev tJoin : ByteArray := B #[106, 111, 105, 110, 32]
abbrev tOverlap : ByteArray := B #[111, 118, 101, 114, 108, 97, 112, 32]
abbrev tNearest : ByteArray := B #[110, 101, 97, 114, 101, 115, 116, 32]
abbrev tCoal : ByteArray := B #[99, 111, 97, 108, 101, 115, 99, 101, 32]
abbrev tAs : ByteArray := B #[32, 97, 115, 32]
abbrev tOn : ByteArray := B #[32, 111, 110, 32]
abbrev tDesc : ByteArray := B #[32, 100, 101, 115, 99]
abbrev tFrom : ByteArray := B #[102, 114, 111, 109, 32]
abbrev tBar : ByteArray := B #[32, 124, 32]
abbrev tCol : ByteArray := B #[32, 58, 32]
abbrev tShutAs : ByteArray := B #[41, 32, 97, 115, 32]
def itemB (x : Itm) : ByteArray := fullB x.e ++ tAs ++ x.name
def aggB (a : Agr) : ByteArray := a.fn ++ B #[40] ++ a.col ++ tShutAs ++ a.name
def sortB (s : Srt) : ByteArray := if s.desc then s.col ++ tDesc else s.col
def onB (s : Stp) : ByteArray := if s.cols.length = 0 then s.table else s.table ++ tOn ++ joinG s.cols
def stepB (s : Stp) : ByteArray :=
  if s.op = 1 then tWhere ++ fullB s.cond else if s.op = 2 then tSelect ++ joinG (s.items.map itemB)
  else if s.op = 3 then (if s.aggs.length = 0 then tGroup ++ joinG s.cols else tGroup ++ joinG s.cols ++ tCol ++ joinG (s.aggs.map aggB))
  else if s.op = 4 then tSort ++ joinG (s.sorts.map sortB) else if s.op = 5 then tLimit ++ digsB s.n
  else if s.op = 6 then tJoin ++ onB s else if s.op = 7 then tOverlap ++ onB s else if s.op = 8 then tNearest ++ onB s else tCoal ++ joinG s.cols
def stepsB (out : ByteArray) : List Stp → ByteArray
  | [] => out
  | s :: r => stepsB (out ++ tBar ++ stepB s) r
def queryB (q : Qry) : ByteArray := stepsB (tFrom ++ q.from_) q.steps
/-! ### what a valid step is -/
def okItm (x : Itm) : Prop := exprErr x.e = 0 ∧ Vx x.e ∧ identB x.name = true
def okAgr (a : Agr) : Prop := identB a.fn = true ∧ (a.col = E0 ∨ identB a.col = true) ∧ identB a.name = true
inductive Vs : Stp → Prop
  | where_ (e : Ex) (h : exprErr e = 0) (hv : Vx e) : Vs { stp0 1 with cond := e }
  | select (x : Itm) (l : List Itm) (h : ∀ y ∈ x :: l, okItm y) : Vs { stp0 2 with items := x :: l }
  | group (cols : List ByteArray) (aggs : List Agr) (h : cols ≠ [] ∨ aggs ≠ []) (hc : ∀ c ∈ cols, identB c = true) (ha : ∀ a ∈ aggs, okAgr a) : Vs { stp0 3 with cols := cols, aggs := aggs }
  | sort (x : Srt) (l : List Srt) (h : ∀ y ∈ x :: l, identB y.col = true) : Vs { stp0 4 with sorts := x :: l }
  | limit (n : Int) (h0 : 0 ≤ n) (h1 : n ≤ 20000) : Vs { stp0 5 with n := n }
  | table (op : Int) (t : ByteArray) (cols : List ByteArray) (ho : op = 6 ∨ op = 7 ∨ op = 8) (h6 : op = 6 → cols ≠ []) (ht : identB t = true) (hc : ∀ c ∈ cols, identB c = true) : Vs { stp0 op with table := t, cols := cols }
  | coal (cols : List ByteArray) (hc : ∀ c ∈ cols, identB c = true) : Vs { stp0 9 with cols := cols }
theorem allErr_id : ∀ {l ks : List ByteArray}, allErr ks l = 0 → ∀ c ∈ l, identB c = true
  | [], _, _, c, hc => by cases hc
  | s :: r, ks, h, c, hc => by
    simp only [allErr] at h
    split at h
    · rename_i q; exact absurd h q
    · rename_i q
      rcases List.mem_cons.1 hc with rfl | hc
      · simp only [addErr] at q
        cases e : identB c with
        | true => rfl
        | false => rw [e] at q; simp at q
      · exact allErr_id h c hc
theorem columnsErr_id {l : List ByteArray} {least : Int} (h : columnsErr l least = 0) : (∀ c ∈ l, identB c = true) ∧ least ≤ l.length := by
  unfold columnsErr at h
  split at h
  · rename_i q; exact absurd h q
  · rename_i q
    refine ⟨allErr_id h, ?_⟩
    unfold sizeErr at q
    split at q
    · simp at q
    · omega
theorem addErr_id {ks : List ByteArray} {s : ByteArray} (h : ¬ addErr ks s ≠ 0) : identB s = true := by
  simp only [addErr] at h
  cases e : identB s with
  | true => rfl
  | false => rw [e] at h; simp at h
theorem expr_vx {e : Ex} (h : exprErr e = 0) : Vx e := by
  unfold exprErr at h
  split at h
  · cases h
  · split at h
    · cases h
    · exact vx_of e h
theorem selErr_ok : ∀ {l : List Itm} {ks : List ByteArray}, selErr ks l = 0 → ∀ x ∈ l, okItm x
  | [], _, _, x, hx => by cases hx
  | y :: r, ks, h, x, hx => by
    simp only [selErr] at h
    split at h
    · rename_i q; exact absurd h q
    · rename_i q
      have q' : exprErr y.e = 0 := by simpa using q
      split at h
      · rename_i q2; exact absurd h q2
      · rename_i q2
        rcases List.mem_cons.1 hx with rfl | hx
        · exact ⟨q', expr_vx q', addErr_id q2⟩
        · exact selErr_ok h x hx
theorem aggErr_ok : ∀ {l : List Agr} {ks : List ByteArray}, aggErr ks l = 0 → ∀ x ∈ l, okAgr x
  | [], _, _, x, hx => by cases hx
  | y :: r, ks, h, x, hx => by
    simp only [aggErr] at h
    split at h
    · cases h
    · rename_i q
      split at h
      · cases h
      · rename_i q1
        split at h
        · rename_i q2; exact absurd h q2
        · rename_i q2
          rcases List.mem_cons.1 hx with rfl | hx
          · refine ⟨?_, ?_, addErr_id q2⟩
            · simp only [badAgg] at q
              split at q
              · rename_i e; rw [e]; decide
              · simp only [Bool.or_eq_true, Bool.not_eq_true', not_or, Bool.not_eq_false] at q
                have hk := q.1
                simp only [knownAgg, Bool.or_eq_true, decide_eq_true_eq] at hk
                rcases hk with ((e | e) | e) | e <;> (rw [e]; decide)
            · by_cases e : x.col = E0
              · exact .inl e
              · refine .inr ?_
                cases e2 : identB x.col with
                | true => rfl
                | false => exact absurd ⟨e, e2⟩ q1
          · exact aggErr_ok h x hx
theorem zeroE_eq {e : Ex} (h : zeroE e = true) : e = exZ := by
  simp only [zeroE, Bool.and_eq_true, decide_eq_true_eq] at h
  obtain ⟨op, name, v, kids⟩ := e
  obtain ⟨⟨⟨h1, h2⟩, h3⟩, h4⟩ := h
  change op = 0 at h1
  change name = E0 at h2
  change zeroV v = true at h3
  change kids.length = 0 at h4
  rw [h1, h2, zeroV_eq h3, List.length_eq_zero_iff.1 h4]
theorem vs_of {s : Stp} (h : stepErr s = 0) : Vs s := by
  unfold stepErr at h
  split at h
  · cases h
  rename_i hu
  have hu' : usesB s = true := by simpa using hu
  simp only [usesB, Bool.and_eq_true, Bool.not_eq_true', Bool.or_eq_false_iff, decide_eq_false_iff_not, Bool.and_eq_false_iff, Bool.not_eq_false', decide_eq_true_eq, Bool.or_eq_true, tableOp, Bool.not_eq_true] at hu'
  obtain ⟨⟨⟨⟨⟨⟨⟨u0, u1⟩, u2⟩, u3⟩, u4⟩, u5⟩, u6⟩, u7⟩ := hu'
  obtain ⟨op, cond, items, cols, aggs, sorts, n, table⟩ := s
  simp only at u0 u1 u2 u3 u4 u5 u6 u7 h
  have f1 : op ≠ 1 → cond = exZ := fun e => zeroE_eq (u1.resolve_left e)
  have f2 : op ≠ 2 → items = [] := fun e => List.length_eq_zero_iff.1 (by have := u2.resolve_left e; omega)
  have f3 : op ≠ 3 → aggs = [] := fun e => List.length_eq_zero_iff.1 (by have := u3.resolve_left e; omega)
  have f4 : op ≠ 4 → sorts = [] := fun e => List.length_eq_zero_iff.1 (by have := u4.resolve_left e; omega)
  have f5 : op ≠ 5 → n = 0 := fun e => u5.resolve_left e
  have f6 : op ≠ 6 → op ≠ 7 → op ≠ 8 → table = E0 := fun e1 e2 e3 => u6.resolve_left (by omega)
  have f7 : op ≠ 3 → op ≠ 6 → op ≠ 7 → op ≠ 8 → op ≠ 9 → cols = [] := fun a b c d e => List.length_eq_zero_iff.1 (u7.resolve_left (by omega))
  by_cases e1 : op = 1
  · rw [if_pos e1] at h
    subst e1
    rw [f2 (by decide), f3 (by decide), f4 (by decide), f5 (by decide), f6 (by decide) (by decide) (by decide), f7 (by decide) (by decide) (by decide) (by decide) (by decide)]
    exact .where_ cond h (expr_vx h)
  rw [if_neg e1] at h
  rw [f1 e1]
  by_cases e2 : op = 2
  · rw [if_pos e2] at h
    subst e2
    rw [f3 (by decide), f4 (by decide), f5 (by decide), f6 (by decide) (by decide) (by decide), f7 (by decide) (by decide) (by decide) (by decide) (by decide)]
    split at h
    · rename_i q; exact absurd h q
    rename_i q
    cases items with
    | nil => simp [sizeErr] at q
    | cons x l => exact .select x l (selErr_ok h)
  rw [if_neg e2] at h
  rw [f2 e2]
  by_cases e3 : op = 3
  · rw [if_pos e3] at h
    subst e3
    rw [f4 (by decide), f5 (by decide), f6 (by decide) (by decide) (by decide)]
    simp only [groupErr] at h
    split at h
    · cases h
    rename_i g1
    split at h
    · cases h
    split at h
    · rename_i q; exact absurd h q
    rename_i q
    refine .group cols aggs ?_ (allErr_id (by simpa using q)) (aggErr_ok h)
    by_cases hc : cols = []
    · right; rintro rfl; subst hc; exact g1 rfl
    · exact .inl hc
  rw [if_neg e3] at h
  rw [f3 e3]
  by_cases e4 : op = 4
  · rw [if_pos e4] at h
    subst e4
    rw [f5 (by decide), f6 (by decide) (by decide) (by decide), f7 (by decide) (by decide) (by decide) (by decide) (by decide)]
    obtain ⟨hc, hl⟩ := columnsErr_id h
    cases sorts with
    | nil => simp at hl
    | cons x l => exact .sort x l fun y hy => hc _ (List.mem_map_of_mem hy)
  rw [if_neg e4] at h
  rw [f4 e4]
  by_cases e5 : op = 5
  · rw [if_pos e5] at h
    subst e5
    rw [f6 (by decide) (by decide) (by decide), f7 (by decide) (by decide) (by decide) (by decide) (by decide)]
    split at h
    · cases h
    exact .limit n (by omega) (by omega)
  rw [if_neg e5] at h
  rw [f5 e5]
  by_cases e9 : op = 9
  · rw [if_pos e9] at h
    subst e9
    rw [f6 (by decide) (by decide) (by decide)]
    exact .coal cols (columnsErr_id h).1
  rw [if_neg e9] at h
  split at h
  · cases h
  rename_i ht
  obtain ⟨hc, hl⟩ := columnsErr_id h
  have ho : op = 6 ∨ op = 7 ∨ op = 8 := by omega
  refine .table op table cols ho (fun e => ?_) (by simpa using ht) hc
  rw [if_pos e] at hl
  rintro rfl
  simp at hl
/-! ### tokens -/
def sepT : List (List Tk) → List Tk
  | [] => []
  | a :: r => a ++ r.flatMap fun x => sgT gCom :: x
def itemTk (x : Itm) : List Tk := tokE x.e ++ [wdT kwAs, wdT x.name]
def aggTk (a : Agr) : List Tk := wdT a.fn :: sgT gOpen :: ((if a.col = E0 then [] else [wdT a.col]) ++ [shutT, wdT kwAs, wdT a.name])
def sortTk (s : Srt) : List Tk := wdT s.col :: if s.desc then [wdT kwDesc] else []
abbrev idT (s : ByteArray) : List Tk := [wdT s]
def onTk (t : ByteArray) (cols : List ByteArray) : List Tk := wdT t :: if cols = [] then [] else wdT kwOn :: sepT (cols.map idT)
abbrev kwTab (op : Int) : ByteArray := if op = 6 then kwJoin else if op = 7 then kwOverlap else kwNearest
def stepTk (s : Stp) : List Tk :=
  if s.op = 1 then wdT kwWhere :: tokE s.cond else if s.op = 2 then wdT kwSelect :: sepT (s.items.map itemTk)
  else if s.op = 3 then wdT kwGroup :: (sepT (s.cols.map idT) ++ if s.aggs = [] then [] else sgT gCol :: sepT (s.aggs.map aggTk))
  else if s.op = 4 then wdT kwSort :: sepT (s.sorts.map sortTk) else if s.op = 5 then [wdT kwLimit, nuT s.n]
  else if s.op = 6 ∨ s.op = 7 ∨ s.op = 8 then wdT (kwTab s.op) :: onTk s.table s.cols else wdT kwCoal :: sepT (s.cols.map idT)
def Lexes (s : ByteArray) (l : List Tk) : Prop := ∀ t, Stop t → lexC (bys s ++ t) = l ++ lexC t
theorem Lexes.id {s : ByteArray} (h : identB s = true) : Lexes s [wdT s] := fun _ ht => lexC_ident h ht
theorem stop_sp (t : List UInt8) : Stop (32 :: t) := stop_cons (by decide)
theorem Lexes.nil : Lexes E0 [] := fun _ _ => rfl
theorem comma_go : ∀ {l : List (ByteArray × List Tk)} (out : ByteArray) (pre : List Tk), (∀ x ∈ l, Lexes x.1 x.2) → Lexes out pre → Lexes (commaGo wCS out (l.map (·.1))) (pre ++ (l.map (·.2)).flatMap fun x => sgT gCom :: x)
  | [], out, pre, _, ho => by simpa [commaGo] using ho
  | x :: l, out, pre, h, ho => by
    have h1 : Lexes (out ++ wCS ++ x.1) (pre ++ sgT gCom :: x.2) := fun t ht => by
      rw [bys_append, bys_append]
      show lexC (bys out ++ [44, 32] ++ bys x.1 ++ t) = _
      rw [List.append_assoc, List.append_assoc]
      show lexC (bys out ++ 44 :: 32 :: (bys x.1 ++ t)) = _
      rw [ho _ (stop_cons (by decide)), lexC_com, lexC_sp, h x (by simp) t ht]
      simp
    have := comma_go (l := l) _ _ (fun y hy => h y (by simp [hy])) h1
    simpa [commaGo, List.append_assoc] using this
theorem join_lex {l : List (ByteArray × List Tk)} (h : ∀ x ∈ l, Lexes x.1 x.2) : Lexes (joinG (l.map (·.1))) (sepT (l.map (·.2))) := by
  cases l with
  | nil => exact .nil
  | cons x l =>
    have h1 : Lexes (E0 ++ x.1) x.2 := by
      have e : E0 ++ x.1 = x.1 := by
        rw [← ofL_bs (E0 ++ x.1), bys_append]
        exact ofL_bs x.1
      rw [e]
      exact h x (by simp)
    exact comma_go (l := l) _ _ (fun y hy => h y (by simp [hy])) h1
theorem join_map {α : Type} {l : List α} {f : α → ByteArray} {t : α → List Tk} (h : ∀ x ∈ l, Lexes (f x) (t x)) : Lexes (joinG (l.map f)) (sepT (l.map t)) := by
  have := join_lex (l := l.map fun x => (f x, t x)) (fun y hy => by
    obtain ⟨x, hx, rfl⟩ := List.mem_map.1 hy
    exact h x hx)
  simpa [List.map_map, Function.comp_def] using this
theorem join_id {l : List ByteArray} (h : ∀ c ∈ l, identB c = true) : Lexes (joinG l) (sepT (l.map idT)) := by
  have := join_map (l := l) (f := fun x => x) (t := idT) (fun x hx => .id (h x hx))
  simpa using this
theorem Lexes.sp {a b : ByteArray} {x y : List Tk} (ha : Lexes a x) (hb : Lexes b y) {m : ByteArray} (hm : bys m = bys a ++ 32 :: bys b) : Lexes m (x ++ y) := fun t ht => by
  rw [hm, List.append_assoc, List.cons_append, ha _ (stop_sp _), lexC_sp, hb t ht, List.append_assoc]
theorem Lexes.kw {w m b : ByteArray} {y : List Tk} (hw : identB w = true) (hb : Lexes b y) (hm : bys m = bys w ++ 32 :: bys b) : Lexes m (wdT w :: y) := (Lexes.id hw).sp hb hm
theorem itm_lex {x : Itm} (h : okItm x) : Lexes (itemB x) (itemTk x) := by
  refine Lexes.sp (a := fullB x.e) (b := kwAs ++ B #[32] ++ x.name) (x := tokE x.e) (y := [wdT kwAs, wdT x.name]) (lex_full h.2.1) ?_ ?_
  · exact Lexes.kw (w := kwAs) (by decide) (.id h.2.2) (by rw [bys_append, bys_append]; simp [bys])
  · unfold itemB
    simp only [bys_append]
    simp [bys]
theorem agg_lex {x : Agr} (h : okAgr x) : Lexes (aggB x) (aggTk x) := fun t ht => by
  obtain ⟨h1, h2, h3⟩ := h
  unfold aggB aggTk
  simp only [bys_append, List.append_assoc]
  show lexC (bys x.fn ++ 40 :: (bys x.col ++ 41 :: 32 :: (bys kwAs ++ 32 :: (bys x.name ++ t)))) = _
  rw [lexC_ident h1 (stop_cons (by decide)), lexC_open]
  have hc : lexC (bys x.col ++ 41 :: 32 :: (bys kwAs ++ 32 :: (bys x.name ++ t))) = (if x.col = E0 then [] else [wdT x.col]) ++ lexC (41 :: 32 :: (bys kwAs ++ 32 :: (bys x.name ++ t))) := by
    by_cases e : x.col = E0
    · rw [if_pos e, e]; rfl
    · rw [if_neg e, lexC_ident (h2.resolve_left e) (stop_cons (by decide))]
      rfl
  rw [hc, lexC_shut, lexC_sp, lexC_ident (by decide) (stop_sp _), lexC_sp, lexC_ident h3 ht]
  simp
theorem sort_lex {x : Srt} (h : identB x.col = true) : Lexes (sortB x) (sortTk x) := by
  unfold sortB sortTk
  cases x.desc with
  | false => exact .id h
  | true =>
    refine Lexes.sp (a := x.col) (b := kwDesc) (x := [wdT x.col]) (y := [wdT kwDesc]) (.id h) (.id (by decide)) ?_
    simp only [if_true, bys_append]
    rfl
theorem on_lex {s : Stp} (ht : identB s.table = true) (hc : ∀ c ∈ s.cols, identB c = true) : Lexes (onB s) (onTk s.table s.cols) := by
  unfold onB onTk
  by_cases e : s.cols = []
  · rw [if_pos (by rw [e]; rfl), if_pos e]
    exact .id ht
  · rw [if_neg (fun h => e (List.length_eq_zero_iff.1 h)), if_neg e]
    refine Lexes.sp (a := s.table) (b := kwOn ++ B #[32] ++ joinG s.cols) (x := [wdT s.table]) (.id ht) (Lexes.kw (w := kwOn) (by decide) (join_id hc) ?_) ?_
    · simp only [bys_append, List.append_assoc]
      rfl
    · simp only [bys_append, List.append_assoc]
      rfl
theorem kwLex {w m b : ByteArray} {y : List Tk} (hw : identB w = true) (hb : Lexes b y) (hm : bys m = bys w ++ [32]) : Lexes (m ++ b) (wdT w :: y) :=
  Lexes.kw hw hb (by rw [bys_append, hm]; simp)
theorem step_lex {s : Stp} (h : Vs s) : Lexes (stepB s) (stepTk s) := by
  cases h with
  | where_ e h hv => exact kwLex (w := kwWhere) (m := tWhere) (by decide) (lex_full hv) rfl
  | select x l h => exact kwLex (w := kwSelect) (m := tSelect) (by decide) (join_map (fun y hy => itm_lex (h y hy))) rfl
  | group cols aggs h hc ha =>
    show Lexes (if aggs.length = 0 then tGroup ++ joinG cols else tGroup ++ joinG cols ++ tCol ++ joinG (aggs.map aggB)) (wdT kwGroup :: (sepT (cols.map idT) ++ if aggs = [] then [] else sgT gCol :: sepT (aggs.map aggTk)))
    by_cases e : aggs = []
    · rw [if_pos (by rw [e]; rfl), if_pos e, List.append_nil]
      exact kwLex (w := kwGroup) (m := tGroup) (by decide) (join_id hc) rfl
    · rw [if_neg (fun h => e (List.length_eq_zero_iff.1 h)), if_neg e]
      intro t ht
      simp only [bys_append, List.append_assoc]
      show lexC (bys kwGroup ++ 32 :: (bys (joinG cols) ++ 32 :: 58 :: 32 :: (bys (joinG (aggs.map aggB)) ++ t))) = _
      rw [lexC_ident (by decide) (stop_sp _), lexC_sp, join_id hc _ (stop_sp _), lexC_sp, lexC_sign (by decide) (by decide) (by decide) (by decide) (by decide) (.inr (by decide)), lexC_sp, join_map (fun y hy => agg_lex (ha y hy)) t ht]
      simp
      rfl
  | sort x l h => exact kwLex (w := kwSort) (m := tSort) (by decide) (join_map (fun y hy => sort_lex (h y hy))) rfl
  | limit n h0 h1 => exact kwLex (w := kwLimit) (m := tLimit) (by decide) (y := [nuT n]) (fun t ht => lexC_num h0 (Int.le_trans h1 (by decide)) ht) rfl
  | table op t cols ho h6 ht hc =>
    rcases ho with rfl | rfl | rfl
    · exact kwLex (w := kwJoin) (m := tJoin) (by decide) (on_lex (s := { stp0 6 with table := t, cols := cols }) ht hc) rfl
    · exact kwLex (w := kwOverlap) (m := tOverlap) (by decide) (on_lex (s := { stp0 7 with table := t, cols := cols }) ht hc) rfl
    · exact kwLex (w := kwNearest) (m := tNearest) (by decide) (on_lex (s := { stp0 8 with table := t, cols := cols }) ht hc) rfl
  | coal cols hc => exact kwLex (w := kwCoal) (m := tCoal) (by decide) (join_id hc) rfl
theorem steps_lex : ∀ {l : List Stp} (out : ByteArray) (pre : List Tk), (∀ s ∈ l, Vs s) → Lexes out pre → Lexes (stepsB out l) (pre ++ l.flatMap fun s => sgT gBar :: stepTk s)
  | [], out, pre, _, ho => by simpa [stepsB] using ho
  | s :: l, out, pre, h, ho => by
    have h1 : Lexes (out ++ tBar ++ stepB s) (pre ++ sgT gBar :: stepTk s) := fun t ht => by
      simp only [bys_append, List.append_assoc]
      show lexC (bys out ++ 32 :: 124 :: 32 :: (bys (stepB s) ++ t)) = _
      rw [ho _ (stop_sp _), lexC_sp, lexC_sign (by decide) (by decide) (by decide) (by decide) (by decide) (.inr (by decide)), lexC_sp, step_lex (h s (by simp)) t ht]
      simp
      rfl
    have := steps_lex (l := l) _ _ (fun y hy => h y (by simp [hy])) h1
    simpa [stepsB, List.append_assoc] using this
theorem query_lex {q : Qry} (hf : identB q.from_ = true) (h : ∀ s ∈ q.steps, Vs s) : Lexes (queryB q) (wdT kwFrom :: wdT q.from_ :: q.steps.flatMap fun s => sgT gBar :: stepTk s) :=
  steps_lex (tFrom ++ q.from_) [wdT kwFrom, wdT q.from_] h (kwLex (w := kwFrom) (m := tFrom) (by decide) (.id hf) rfl)
end Go.Tb
namespace Go.Tb
open Go.Ab
section
variable {L : List Tk} {g : Bool}
def endS (t : Tk) : Prop := t = sgT gBar ∨ t = mkT 0 E0 0 0
theorem endS_end {t : Tk} (h : endS t) : endT t = true := by rcases h with rfl | rfl <;> decide
theorem endS_name {t : Tk} {k : Nat} {r : List Tk} (h : endS t) (hr : Rem L k (t :: r)) : nameB L (k, false) = false := by
  unfold nameB
  rw [hr.kind]
  rcases h with rfl | rfl <;> rfl
def RdI {α : Type} (L : List Tk) (one : Pr α) (x : α) (l : List Tk) (E : Tk → Prop) : Prop := ∀ k t r, Rem L k (l ++ t :: r) → (t = sgT gCom ∨ E t) → one (k, false) = (x, (k + l.length, false))
theorem list_go {α : Type} {one : Pr α} {E : Tk → Prop} (hE : ∀ t, E t → isT t gCom = false) : ∀ (l : List (α × List Tk)), (∀ x ∈ l, RdI L one x.1 x.2 E) → ∀ n k t r, l.length ≤ n → E t → Rem L k ((l.flatMap fun x => sgT gCom :: x.2) ++ t :: r) → listGo L gCom one n (k, false) = (l.map (·.1), (k + (l.flatMap fun x => sgT gCom :: x.2).length, false))
  | [], _, n, k, t, r, _, ht, hr => by
    have hr' : Rem L k (t :: r) := hr
    cases n with
    | zero => rfl
    | succ n =>
      simp only [listGo, hr'.sk, hE t ht, Bool.false_eq_true, if_false]
      rfl
  | x :: l, h, n, k, t, r, hn, ht, hr => by
    obtain ⟨n, rfl⟩ : ∃ m, n = m + 1 := ⟨n - 1, by simp at hn; omega⟩
    have hr' : Rem L k (sgT gCom :: (x.2 ++ ((l.flatMap fun x => sgT gCom :: x.2) ++ t :: r))) := by simpa [List.append_assoc] using hr
    have hx : one (k + 1, false) = (x.1, (k + 1 + x.2.length, false)) := by
      cases l with
      | nil => exact h x (by simp) (k + 1) t r hr'.next (.inr ht)
      | cons y l => exact h x (by simp) (k + 1) (sgT gCom) (y.2 ++ ((l.flatMap fun x => sgT gCom :: x.2) ++ t :: r)) (by have := hr'.next; simpa [List.append_assoc] using this) (.inl rfl)
    have ih := list_go hE l (fun y hy => h y (by simp [hy])) n (k + 1 + x.2.length) t r (by simp at hn; omega) ht hr'.next.skip
    simp only [listGo, hr'.sk, show isT (sgT gCom) gCom = true by decide, if_true, adv, hx, ih, List.map_cons]
    congr 2
    simp [List.flatMap_cons]
    omega
theorem list_all {α : Type} {one : Pr α} {E : Tk → Prop} (hE : ∀ t, E t → isT t gCom = false) (x : α × List Tk) (l : List (α × List Tk)) (h : ∀ y ∈ x :: l, RdI L one y.1 y.2 E) (k : Nat) (t : Tk) (r : List Tk) (ht : E t) (hr : Rem L k (sepT ((x :: l).map (·.2)) ++ t :: r)) :
    listP L one (k, false) = ((x :: l).map (·.1), (k + (sepT ((x :: l).map (·.2))).length, false)) := by
  have e : (l.map (·.2)).flatMap (fun x => sgT gCom :: x) = l.flatMap fun x => sgT gCom :: x.2 := by rw [List.flatMap_map]
  have hr' : Rem L k (x.2 ++ ((l.flatMap fun x => sgT gCom :: x.2) ++ t :: r)) := by
    have := hr
    simp only [sepT, List.map_cons, e, List.append_assoc] at this
    exact this
  have hx : one (k, false) = (x.1, (k + x.2.length, false)) := by
    cases l with
    | nil => exact h x (by simp) k t r hr' (.inr ht)
    | cons y l => exact h x (by simp) k (sgT gCom) (y.2 ++ ((l.flatMap fun x => sgT gCom :: x.2) ++ t :: r)) (by simpa [List.append_assoc] using hr') (.inl rfl)
  have hl : l.length ≤ L.length := by
    have h1 := hr'.len
    have h2 : l.length ≤ (l.flatMap fun x => sgT gCom :: x.2).length := by
      clear h hr hr' hx e h1
      induction l with
      | nil => simp
      | cons y l ih => simp [List.flatMap_cons]; simp at ih; omega
    simp only [List.length_append, List.length_cons] at h1
    omega
  unfold listP
  rw [hx]
  simp only
  rw [list_go hE l (fun y hy => h y (by simp [hy])) L.length _ t r hl ht hr'.skip]
  simp only [sepT, List.map_cons, e, List.length_append]
  congr 2
  omega
theorem list_map {α : Type} {one : Pr α} {E : Tk → Prop} (hE : ∀ t, E t → isT t gCom = false) {f : α → List Tk} {l : List α} (hl : l ≠ []) (h : ∀ y ∈ l, RdI L one y (f y) E) {k : Nat} {t : Tk} {r : List Tk} (ht : E t) (hr : Rem L k (sepT (l.map f) ++ t :: r)) :
    listP L one (k, false) = (l, (k + (sepT (l.map f)).length, false)) := by
  cases l with
  | nil => exact absurd rfl hl
  | cons x l =>
    have := list_all hE (x, f x) (l.map fun y => (y, f y)) (fun z hz => by
      have hz' : z ∈ (x :: l).map fun y => (y, f y) := hz
      obtain ⟨y, hy, rfl⟩ := List.mem_map.1 hz'
      exact h y hy) k t r ht (by simpa [List.map_map, Function.comp_def] using hr)
    simpa [List.map_map, Function.comp_def] using this
theorem id_reads {s : ByteArray} {E : Tk → Prop} (h : identB s = true) : RdI L (nameP L) s (idT s) E := fun k t r hr _ => nameP_at hr h
theorem names_reads {E : Tk → Prop} (hE : ∀ t, E t → isT t gCom = false) {l : List ByteArray} (hl : l ≠ []) (h : ∀ c ∈ l, identB c = true) {k : Nat} {t : Tk} {r : List Tk} (ht : E t) (hr : Rem L k (sepT (l.map idT) ++ t :: r)) :
    listP L (nameP L) (k, false) = (l, (k + (sepT (l.map idT)).length, false)) :=
  list_map hE hl (fun y hy => id_reads (h y hy)) ht hr
theorem endS_com {t : Tk} (h : endS t) : isT t gCom = false := by rcases h with rfl | rfl <;> decide
theorem itm_reads {x : Itm} {n : Nat} (h : okItm x) (hn : (tokE x.e).length + 1 ≤ n) : RdI L (itemP L (orP L g n)) x (itemTk x) endS := fun k t r hr _ => by
  obtain ⟨hh, hu⟩ := reads (L := L) (g := g) h.2.1
  have hr' : Rem L k (tokE x.e ++ wdT kwAs :: wdT x.name :: t :: r) := by simpa [itemTk, List.append_assoc] using hr
  have ho := or_stop (g := g) hh.hd hu hn hr' (by decide)
  unfold itemP
  rw [ho]
  simp only
  rw [hr'.skip.need (by decide), nameP_at hr'.skip.next h.2.2]
  simp only [itemTk, List.length_append, List.length_cons, List.length_nil]
  rfl
theorem agg_reads {x : Agr} (h : okAgr x) : RdI L (aggP L) x (aggTk x) endS := fun k t r hr _ => by
  obtain ⟨h1, h2, h3⟩ := h
  obtain ⟨fn, col, name⟩ := x
  simp only at h1 h2 h3
  simp only [aggTk] at hr ⊢
  by_cases e : col = E0
  · subst e
    rw [if_pos rfl] at hr ⊢
    have hr' : Rem L k (wdT fn :: sgT gOpen :: shutT :: wdT kwAs :: wdT name :: t :: r) := hr
    have n0 : nameB L (k + 1 + 1, false) = false := by
      unfold nameB
      rw [hr'.next.next.kind]
      rfl
    unfold aggP
    simp only [nameP_at hr' h1, hr'.next.need (show isT (sgT gOpen) gOpen = true by decide), n0, Bool.false_eq_true, if_false, hr'.next.next.need (show isT shutT gShut = true by decide), hr'.next.next.next.need (show isT (wdT kwAs) kwAs = true by decide), nameP_at hr'.next.next.next.next h3]
    rfl
  · have h2' := h2.resolve_left e
    rw [if_neg e] at hr ⊢
    have hr' : Rem L k (wdT fn :: sgT gOpen :: wdT col :: shutT :: wdT kwAs :: wdT name :: t :: r) := hr
    unfold aggP
    simp only [nameP_at hr' h1, hr'.next.need (show isT (sgT gOpen) gOpen = true by decide), name_at hr'.next.next h2', if_true, nameP_at hr'.next.next h2', hr'.next.next.next.need (show isT shutT gShut = true by decide), hr'.next.next.next.next.need (show isT (wdT kwAs) kwAs = true by decide), nameP_at hr'.next.next.next.next.next h3]
    rfl
theorem sort_reads {x : Srt} (h : identB x.col = true) : RdI L (sortP L) x (sortTk x) endS := fun k t r hr ht => by
  obtain ⟨col, desc⟩ := x
  simp only at h
  cases desc with
  | false =>
    have hr' : Rem L k (wdT col :: t :: r) := hr
    have hd : isT t kwDesc = false := by rcases ht with rfl | rfl | rfl <;> decide
    unfold sortP skS
    simp only [nameP_at hr' h, hr'.next.sk, hd, Bool.false_eq_true, if_false]
    rfl
  | true =>
    have hr' : Rem L k (wdT col :: wdT kwDesc :: t :: r) := hr
    unfold sortP skS
    simp only [nameP_at hr' h, hr'.next.sk, show isT (wdT kwDesc) kwDesc = true by decide, if_true, adv]
    rfl
theorem tokE_le {x : Itm} {l : List Itm} (h : x ∈ l) : (tokE x.e).length + 2 ≤ (sepT (l.map itemTk)).length := by
  cases l with
  | nil => cases h
  | cons y l =>
    simp only [List.map_cons, sepT, List.length_append]
    rcases List.mem_cons.1 h with rfl | h
    · simp [itemTk]
    · have : (tokE x.e).length + 2 ≤ ((l.map itemTk).flatMap fun x => sgT gCom :: x).length := by
        induction l with
        | nil => cases h
        | cons z l ih =>
          simp only [List.map_cons, List.flatMap_cons, List.length_append, List.length_cons]
          rcases List.mem_cons.1 h with rfl | h
          · simp [itemTk]; omega
          · have := ih (by simp [h]) h
            omega
      omega
theorem skw {k : Nat} {w : ByteArray} {r : List Tk} (h : Rem L k (wdT w :: r)) (x : ByteArray) : skB L x (k, false) = decide (w = x) := by
  rw [h.sk]
  unfold isT
  simp
theorem step_reads {s : Stp} {n : Nat} (h : Vs s) (hn : L.length ≤ n) {k : Nat} {t : Tk} {r : List Tk} (ht : endS t) (hr : Rem L k (stepTk s ++ t :: r)) : stepP L g (orP L g n) (k, false) = (s, (k + (stepTk s).length, false)) := by
  cases h with
  | where_ e h hv =>
    have hr' : Rem L k (wdT kwWhere :: (tokE e ++ t :: r)) := hr
    have hl := hr'.len
    simp only [List.length_cons, List.length_append] at hl
    obtain ⟨hh, hu⟩ := reads (L := L) (g := g) hv
    have ho := or_stop (g := g) (n := n) hh.hd hu (by omega) hr'.next (endS_end ht)
    unfold stepP
    rw [skw hr', if_pos (by decide)]
    simp only [adv, ho]
    show _ = ({ stp0 1 with cond := e }, (k + ((tokE e).length + 1), false))
    congr 2
    omega
  | select x l h =>
    have hr' : Rem L k (wdT kwSelect :: (sepT ((x :: l).map itemTk) ++ t :: r)) := hr
    have hl := hr'.len
    simp only [List.length_cons, List.length_append] at hl
    have ho := list_map (L := L) (one := itemP L (orP L g n)) (E := endS) (fun t h => endS_com h) (f := itemTk) (l := x :: l) (by simp) (fun y hy => itm_reads (h y hy) (by have := tokE_le hy; omega)) ht hr'.next
    unfold stepP
    rw [skw hr', skw hr', if_neg (by decide), if_pos (by decide)]
    simp only [adv, ho]
    show _ = ({ stp0 2 with items := x :: l }, (k + ((sepT ((x :: l).map itemTk)).length + 1), false))
    congr 2
    omega
  | group cols aggs h hc ha =>
    have hr' : Rem L k (wdT kwGroup :: ((sepT (cols.map idT) ++ if aggs = [] then [] else sgT gCol :: sepT (aggs.map aggTk)) ++ t :: r)) := hr
    have el : (stepTk { stp0 3 with cols := cols, aggs := aggs }).length = (sepT (cols.map idT) ++ if aggs = [] then [] else sgT gCol :: sepT (aggs.map aggTk)).length + 1 := rfl
    rw [el]
    unfold stepP
    rw [skw hr', skw hr', skw hr', if_neg (by decide), if_neg (by decide), if_pos (by decide)]
    simp only [adv]
    have hr2 := hr'.next
    by_cases e : aggs = []
    · subst e
      rw [if_pos rfl, List.append_nil] at hr2 ⊢
      have hcn : cols ≠ [] := h.resolve_right (by simp)
      have ho := names_reads (E := endS) (fun t h => endS_com h) hcn hc ht hr2
      obtain ⟨c, cs, rfl⟩ : ∃ c cs, cols = c :: cs := by cases cols with | nil => exact absurd rfl hcn | cons c cs => exact ⟨c, cs, rfl⟩
      have hr3 : Rem L (k + 1) (wdT c :: ((cs.map idT).flatMap (fun x => sgT gCom :: x) ++ t :: r)) := hr2
      unfold groupP
      have hi : isT (wdT c) gCol = false := ident_is (hc c (by simp)) (by decide)
      rw [hr3.is, hi, if_pos (by rfl), ho]
      simp only
      rw [hr2.skip.sk, show isT t gCol = false by rcases ht with rfl | rfl <;> decide, if_neg (by decide)]
      congr 2
      omega
    · rw [if_neg e] at hr2 ⊢
      by_cases hcn : cols = []
      · subst hcn
        have hr3 : Rem L (k + 1) (sgT gCol :: (sepT (aggs.map aggTk) ++ t :: r)) := hr2
        have ho := list_map (L := L) (one := aggP L) (E := endS) (fun t h => endS_com h) (f := aggTk) (l := aggs) e (fun y hy => agg_reads (ha y hy)) ht hr3.next
        unfold groupP
        rw [hr3.is, show isT (sgT gCol) gCol = true by decide, if_neg (by simp), hr3.need (by decide), ho]
        simp only [List.map_nil, sepT, List.nil_append, List.length_cons]
        congr 2
        omega
      · obtain ⟨c, cs, rfl⟩ : ∃ c cs, cols = c :: cs := by cases cols with | nil => exact absurd rfl hcn | cons c cs => exact ⟨c, cs, rfl⟩
        have hr3 : Rem L (k + 1) (sepT ((c :: cs).map idT) ++ sgT gCol :: (sepT (aggs.map aggTk) ++ t :: r)) := by simpa [List.append_assoc] using hr2
        have hr4 : Rem L (k + 1) (wdT c :: ((cs.map idT).flatMap (fun x => sgT gCom :: x) ++ sgT gCol :: (sepT (aggs.map aggTk) ++ t :: r))) := hr3
        have ho := names_reads (E := fun t => t = sgT gCol) (fun t h => by subst h; decide) hcn hc rfl hr3
        have ho2 := list_map (L := L) (one := aggP L) (E := endS) (fun t h => endS_com h) (f := aggTk) (l := aggs) e (fun y hy => agg_reads (ha y hy)) ht hr3.skip.next
        unfold groupP
        have hi : isT (wdT c) gCol = false := ident_is (hc c (by simp)) (by decide)
        rw [hr4.is, hi, if_pos (by rfl), ho]
        simp only
        rw [hr3.skip.sk, if_pos (by decide), ho2]
        simp only [List.length_append, List.length_cons]
        congr 2
        omega
  | sort x l h =>
    have hr' : Rem L k (wdT kwSort :: (sepT ((x :: l).map sortTk) ++ t :: r)) := hr
    have ho := list_map (L := L) (one := sortP L) (E := endS) (fun t h => endS_com h) (f := sortTk) (l := x :: l) (by simp) (fun y hy => sort_reads (h y hy)) ht hr'.next
    unfold stepP
    rw [skw hr', skw hr', skw hr', skw hr', if_neg (by decide), if_neg (by decide), if_neg (by decide), if_pos (by decide)]
    simp only [adv, ho]
    show _ = ({ stp0 4 with sorts := x :: l }, (k + ((sepT ((x :: l).map sortTk)).length + 1), false))
    congr 2
    omega
  | limit m h0 h1 =>
    have hr' : Rem L k (wdT kwLimit :: nuT m :: t :: r) := hr
    have ho : limP L (k + 1, false) = (m, (k + 1 + 1, false)) := by
      unfold limP
      rw [hr'.next.kind, hr'.next.num]
      rfl
    unfold stepP
    rw [skw hr', skw hr', skw hr', skw hr', skw hr', if_neg (by decide), if_neg (by decide), if_neg (by decide), if_neg (by decide), if_pos (by decide)]
    simp only [adv, ho]
    rfl
  | table op tb cols ho h6 htb hc =>
    have key : ∀ (op : Int) (must : Bool), (must = true → cols ≠ []) → ∀ k', Rem L k' (onTk tb cols ++ t :: r) → withP L g op must (k', false) = ({ stp0 op with table := tb, cols := cols }, (k' + (onTk tb cols).length, false)) := by
      intro op must hm k' hk
      by_cases e : cols = []
      · subst e
        have hk' : Rem L k' (wdT tb :: t :: r) := hk
        have hmf : must = false := by cases must with | false => rfl | true => exact absurd rfl (hm rfl)
        subst hmf
        unfold withP
        rw [nameP_at hk' htb]
        simp only [Bool.false_eq_true, if_false, hk'.next.sk, show isT t kwOn = false by rcases ht with rfl | rfl <;> decide]
        rfl
      · have hk' : Rem L k' (wdT tb :: wdT kwOn :: (sepT (cols.map idT) ++ t :: r)) := by
          unfold onTk at hk
          rw [if_neg e] at hk
          exact hk
        have hl := names_reads (E := endS) (fun t h => endS_com h) e hc ht hk'.next.next
        have el : (onTk tb cols).length = (sepT (cols.map idT)).length + 1 + 1 := by unfold onTk; rw [if_neg e]; rfl
        unfold withP
        rw [nameP_at hk' htb]
        cases must with
        | true =>
          simp only [if_true, hk'.next.need (show isT (wdT kwOn) kwOn = true by decide), Bool.false_eq_true, if_false, hl, el]
          congr 2
          omega
        | false =>
          simp only [Bool.false_eq_true, if_false, hk'.next.sk, show isT (wdT kwOn) kwOn = true by decide, if_true, adv, hl, el]
          congr 2
          omega
    rcases ho with rfl | rfl | rfl
    · have hr' : Rem L k (wdT kwJoin :: (onTk tb cols ++ t :: r)) := hr
      unfold stepP
      rw [skw hr', skw hr', skw hr', skw hr', skw hr', skw hr', if_neg (by decide), if_neg (by decide), if_neg (by decide), if_neg (by decide), if_neg (by decide), if_pos (by decide)]
      simp only [adv]
      rw [key 6 true (fun _ => h6 rfl) (k + 1) hr'.next]
      show _ = ({ stp0 6 with table := tb, cols := cols }, (k + ((onTk tb cols).length + 1), false))
      congr 2
      omega
    · have hr' : Rem L k (wdT kwOverlap :: (onTk tb cols ++ t :: r)) := hr
      unfold stepP
      rw [skw hr', skw hr', skw hr', skw hr', skw hr', skw hr', skw hr', if_neg (by decide), if_neg (by decide), if_neg (by decide), if_neg (by decide), if_neg (by decide), if_neg (by decide), if_pos (by decide)]
      simp only [adv]
      rw [key 7 false (fun h => by cases h) (k + 1) hr'.next]
      show _ = ({ stp0 7 with table := tb, cols := cols }, (k + ((onTk tb cols).length + 1), false))
      congr 2
      omega
    · have hr' : Rem L k (wdT kwNearest :: (onTk tb cols ++ t :: r)) := hr
      unfold stepP
      rw [skw hr', skw hr', skw hr', skw hr', skw hr', skw hr', skw hr', skw hr', if_neg (by decide), if_neg (by decide), if_neg (by decide), if_neg (by decide), if_neg (by decide), if_neg (by decide), if_neg (by decide), if_pos (by decide)]
      simp only [adv]
      rw [key 8 false (fun h => by cases h) (k + 1) hr'.next]
      show _ = ({ stp0 8 with table := tb, cols := cols }, (k + ((onTk tb cols).length + 1), false))
      congr 2
      omega
  | coal cols hc =>
    have hr' : Rem L k (wdT kwCoal :: (sepT (cols.map idT) ++ t :: r)) := hr
    unfold stepP
    rw [skw hr', skw hr', skw hr', skw hr', skw hr', skw hr', skw hr', skw hr', skw hr', if_neg (by decide), if_neg (by decide), if_neg (by decide), if_neg (by decide), if_neg (by decide), if_neg (by decide), if_neg (by decide), if_neg (by decide), if_pos (by decide)]
    simp only [adv]
    unfold coalP
    by_cases e : cols = []
    · subst e
      have hr2 : Rem L (k + 1) (t :: r) := hr'.next
      rw [endS_name ht hr2, if_neg (by decide)]
      rfl
    · have ho := names_reads (E := endS) (fun t h => endS_com h) e hc ht hr'.next
      obtain ⟨c, cs, rfl⟩ : ∃ c cs, cols = c :: cs := by cases cols with | nil => exact absurd rfl e | cons c cs => exact ⟨c, cs, rfl⟩
      have hr3 : Rem L (k + 1) (wdT c :: ((cs.map idT).flatMap (fun x => sgT gCom :: x) ++ t :: r)) := hr'.next
      rw [name_at hr3 (hc c (by simp)), if_pos rfl, ho]
      have e2 : k + 1 + (sepT ((c :: cs).map idT)).length = k + ((sepT ((c :: cs).map idT)).length + 1) := by omega
      rw [e2]
      rfl
theorem steps_go {n : Nat} (hn : L.length ≤ n) : ∀ (l : List Stp), (∀ s ∈ l, Vs s) → ∀ m k, l.length ≤ m → Rem L k ((l.flatMap fun s => sgT gBar :: stepTk s) ++ [mkT 0 E0 0 0]) → listGo L gBar (stepP L g (orP L g n)) m (k, false) = (l, (k + (l.flatMap fun s => sgT gBar :: stepTk s).length, false))
  | [], _, m, k, _, hr => by
    have hr' : Rem L k [mkT 0 E0 0 0] := hr
    cases m with
    | zero => rfl
    | succ m =>
      simp only [listGo, hr'.sk, show isT (mkT 0 E0 0 0) gBar = false by decide, Bool.false_eq_true, if_false]
      rfl
  | s :: l, h, m, k, hm, hr => by
    obtain ⟨m, rfl⟩ : ∃ j, m = j + 1 := ⟨m - 1, by simp at hm; omega⟩
    have hr' : Rem L k (sgT gBar :: (stepTk s ++ ((l.flatMap fun s => sgT gBar :: stepTk s) ++ [mkT 0 E0 0 0]))) := by simpa [List.append_assoc] using hr
    have hx : stepP L g (orP L g n) (k + 1, false) = (s, (k + 1 + (stepTk s).length, false)) := by
      cases l with
      | nil => exact step_reads (h s (by simp)) hn (t := mkT 0 E0 0 0) (r := []) (.inr rfl) hr'.next
      | cons y l => exact step_reads (h s (by simp)) hn (t := sgT gBar) (r := stepTk y ++ ((l.flatMap fun s => sgT gBar :: stepTk s) ++ [mkT 0 E0 0 0])) (.inl rfl) (by have := hr'.next; simpa [List.append_assoc] using this)
    have ih := steps_go hn l (fun y hy => h y (by simp [hy])) m (k + 1 + (stepTk s).length) (by simp at hm; omega) hr'.next.skip
    simp only [listGo, hr'.sk, show isT (sgT gBar) gBar = true by decide, if_true, adv, hx, ih]
    have e : k + 1 + (stepTk s).length + (l.flatMap fun s => sgT gBar :: stepTk s).length = k + ((s :: l).flatMap fun s => sgT gBar :: stepTk s).length := by
      rw [List.flatMap_cons, List.length_append, List.length_cons]
      omega
    rw [e]
end
theorem stepsErr_ok : ∀ {l : List Stp}, stepsErr l = 0 → ∀ s ∈ l, Vs s
  | [], _, s, hs => by cases hs
  | x :: r, h, s, hs => by
    simp only [stepsErr] at h
    split at h
    · rename_i q; exact absurd h q
    · rename_i q
      rcases List.mem_cons.1 hs with rfl | hs
      · exact vs_of (by simpa using q)
      · exact stepsErr_ok h s hs
theorem query_back (g : Bool) {q : Qry} (hq : queryErr q = 0) (hs : (queryB q).size ≤ 2000) : queryF g (queryB q) = (q, 0, 0) := by
  have hq' := hq
  unfold queryErr at hq'
  split at hq'
  · cases hq'
  rename_i hf
  have hf : identB q.from_ = true := by simpa using hf
  split at hq'
  · cases hq'
  have hv := stepsErr_ok hq'
  have hL : (toks (queryB q) 0).map Tk.core = wdT kwFrom :: wdT q.from_ :: ((q.steps.flatMap fun s => sgT gBar :: stepTk s) ++ [mkT 0 E0 0 0]) := by
    rw [toks_core, ← List.append_nil (bys (queryB q)), query_lex hf hv [] stop_nil, lexC_nil]
    rfl
  obtain ⟨L, hLe⟩ : ∃ L, toks (queryB q) 0 = L := ⟨_, rfl⟩
  rw [hLe] at hL
  have hr : Rem L 0 (wdT kwFrom :: wdT q.from_ :: ((q.steps.flatMap fun s => sgT gBar :: stepTk s) ++ [mkT 0 E0 0 0])) := by unfold Rem; rw [hL]; rfl
  have hl := hr.len
  have h2 : q.steps.length ≤ (q.steps.flatMap fun s => sgT gBar :: stepTk s).length := by
    clear hr hL hv hq hq' hs hl
    generalize q.steps = l
    induction l with
    | nil => simp
    | cons y l ih => rw [List.flatMap_cons, List.length_append, List.length_cons, List.length_cons]; omega
  simp only [List.length_cons, List.length_append, List.length_nil] at hl
  have hgo := steps_go (g := g) (Nat.le_refl L.length) q.steps hv L.length 2 (by omega) hr.next.next
  have ho : queryP L g (orP L g L.length) (0, false) = (q, (2 + (q.steps.flatMap fun s => sgT gBar :: stepTk s).length, false)) := by
    unfold queryP
    rw [hr.need (by decide)]
    simp only
    rw [nameP_at hr.next hf]
    simp only
    rw [hgo]
  have hb : badB L (queryT g L (0, false)).2 = false := by
    show badB L (queryP L g (orP L g L.length) (0, false)).2 = false
    rw [ho]
    unfold badB
    rw [hr.next.next.skip.kind]
    rfl
  unfold queryF checkP readP
  rw [hLe, if_neg (show ¬ 2000 < (queryB q).size by omega), hb]
  simp only [Bool.false_eq_true, if_false, if_true]
  rw [show queryT g L (0, false) = (q, (2 + (q.steps.flatMap fun s => sgT gBar :: stepTk s).length, false)) from ho]
  simp only [hq]
  rfl
end Go.Tb
namespace Go.Tb
open Go.Ab
theorem commaGo_snoc (x : ByteArray) : ∀ (l : List ByteArray) (out s : ByteArray), commaGo x out (l ++ [s]) = commaGo x out l ++ x ++ s
  | [], _, _ => rfl
  | a :: l, out, s => commaGo_snoc x l (out ++ x ++ a) s
theorem commaB_snoc (x out : ByteArray) (l : List ByteArray) (s : ByteArray) : commaB x out (l ++ [s]) = if l.length = 0 then commaB x out l ++ s else commaB x out l ++ x ++ s := by
  cases l with
  | nil => rfl
  | cons a l =>
    rw [if_neg (by simp)]
    exact commaGo_snoc x l (out ++ a) s
theorem commaB_take {x out : ByteArray} {l : List ByteArray} {k : Nat} {s : ByteArray} (h : l[k]? = some s) : commaB x out (l.take (k + 1)) = if k = 0 then commaB x out (l.take k) ++ s else commaB x out (l.take k) ++ x ++ s := by
  have hk := (List.getElem?_eq_some_iff.1 h).1
  rw [List.take_add_one, h]
  show commaB x out (l.take k ++ [s]) = _
  rw [commaB_snoc, List.length_take, Nat.min_eq_left (by omega)]
theorem commaGo_size {x : ByteArray} {M : Nat} : ∀ (l : List ByteArray) (out : ByteArray), (∀ s ∈ l, s.size ≤ M) → (commaGo x out l).size ≤ out.size + l.length * (M + x.size)
  | [], _, _ => by simp [commaGo]
  | a :: l, out, h => by
    have h1 := commaGo_size (x := x) l (out ++ x ++ a) (fun s hs => h s (by simp [hs]))
    have h2 := h a (by simp)
    simp only [commaGo, List.length_cons, ByteArray.size_append] at h1 ⊢
    rw [Nat.add_mul, Nat.one_mul]
    omega
theorem commaB_size {x out : ByteArray} {M : Nat} {l : List ByteArray} (h : ∀ s ∈ l, s.size ≤ M) : (commaB x out l).size ≤ out.size + l.length * (M + x.size) := by
  cases l with
  | nil => simp [commaB]
  | cons a l =>
    have h1 := commaGo_size (x := x) l (out ++ a) (fun s hs => h s (by simp [hs]))
    have h2 := h a (by simp)
    simp only [commaB, List.length_cons, ByteArray.size_append] at h1 ⊢
    rw [Nat.add_mul, Nat.one_mul]
    omega
theorem digsB_size {n : Int} (h0 : 0 ≤ n) (h1 : n ≤ 1000000000000000) : (digsB n).size ≤ 16 := by
  have h := digB_len n.toNat 15 (by have : (10 : Nat) ^ (15 + 1) = 10000000000000000 := by decide
                                    omega)
  show (digB n.toNat).toArray.size ≤ 16
  simpa using h
theorem ident_size {s : ByteArray} (h : identB s = true) : s.size ≤ 40 := by
  simp only [identB, Bool.and_eq_true, decide_eq_true_eq] at h
  exact h.1.1.1.2
theorem const_text {v : Val} (h : constErr v = 0) : v.s.size ≤ 200 := by
  simp only [constErr] at h
  split at h
  · rename_i q; exact absurd h q
  rename_i q
  have q' : valErr v.kind v = 0 := by simpa using q
  by_cases h3 : v.kind = 3
  · simp only [valErr] at q'
    split at q'
    · cases q'
    split at q'
    · cases q'
    split at q'
    · cases q'
    · omega
  · rcases const_facts (v := v) (by simp only [constErr]; rw [if_neg q]; exact h) with ⟨_, e⟩ | ⟨e, _⟩ | e | e | ⟨e, _⟩
    · rw [e]; decide
    · exact absurd e h3
    · rw [e]; decide
    · rw [e]; decide
    · rw [e]; exact show (0 : Nat) ≤ 200 by decide
theorem plain_size {v : Val} (h : constErr v = 0) : (plainB v).size ≤ 202 := by
  have hs := const_text h
  rcases const_facts h with ⟨_, e⟩ | ⟨hk, e⟩ | e | e | ⟨e, hr⟩
  · rw [e]; decide
  · have : plainB v = B #[34] ++ v.s ++ B #[34] := by rw [e]; rfl
    rw [this, ByteArray.size_append, ByteArray.size_append]
    show 1 + v.s.size + 1 ≤ 202
    omega
  · rw [e]; decide
  · rw [e]; decide
  · have ek : v.kind = 2 := by rw [e]
    simp only [inR, Bool.and_eq_true, decide_eq_true_eq] at hr
    unfold plainB
    rw [ek, if_neg (by decide), if_neg (by decide), if_neg (by rintro ⟨h, _⟩; exact absurd h (by decide)), if_neg (by decide)]
    split
    · have := digsB_size (n := -v.n) (by omega) (by omega)
      rw [ByteArray.size_append, ByteArray.size_append]
      show 2 + (digsB (-v.n)).size + 1 ≤ 202
      omega
    · have := digsB_size (n := v.n) (by omega) (by omega)
      omega
theorem fullB_not (k : Ex) : fullB (mk1 3 k) = B #[40, 110, 111, 116, 32] ++ fullB k ++ B #[41] := rfl
theorem fullB_neg (k : Ex) : fullB (mk1 4 k) = B #[45] ++ fullB k := rfl
theorem fullB_bin {op : Int} {a b : Ex} (h5 : 5 ≤ op) (h15 : op ≤ 15) : fullB (mk2 op a b) = B #[40] ++ fullB a ++ B #[32] ++ opText op ++ B #[32] ++ fullB b ++ B #[41] := by
  show fullN op E0 v0 [fullB a, fullB b] = _
  unfold fullN
  rw [if_neg (by omega), if_neg (by omega), if_neg (by omega), if_neg (by omega), if_neg (by omega)]
  rfl
theorem fullB_call (s : ByteArray) (l : List Ex) : fullB (exC s l) = commaB (B #[44]) (s ++ B #[40]) (l.map fullB) ++ B #[41] := by
  rw [← fullBs_map]
  rfl
theorem opText_size {op : Int} (h5 : 5 ≤ op) (h15 : op ≤ 15) : (opText op).size ≤ 3 := by
  rcases op_cases h5 h15 with rfl | rfl | rfl | rfl | rfl | rfl | rfl | rfl | rfl | rfl | rfl <;> decide
theorem full_size {e : Ex} (hv : Vx e) : ((fullB e).size : Int) ≤ 300 * cnt e := by
  induction hv with
  | const v h =>
    have := plain_size h
    show ((plainB v).size : Int) ≤ 300 * cnt (exK v)
    have e : cnt (exK v) = 1 := rfl
    omega
  | field s h =>
    have := ident_size h
    show (s.size : Int) ≤ 300 * cnt (exF s)
    have e : cnt (exF s) = 1 := rfl
    omega
  | not_ k _ ih =>
    have e : cnt (mk1 3 k) = cnt k + 1 := by simp [cnt, cntL]
    rw [fullB_not, ByteArray.size_append, ByteArray.size_append, e]
    show ((5 + (fullB k).size + 1 : Nat) : Int) ≤ _
    omega
  | neg k _ ih =>
    have e : cnt (mk1 4 k) = cnt k + 1 := by simp [cnt, cntL]
    rw [fullB_neg, ByteArray.size_append, e]
    show ((1 + (fullB k).size : Nat) : Int) ≤ _
    omega
  | bin op a b h5 h15 _ _ iha ihb =>
    have e : cnt (mk2 op a b) = cnt a + cnt b + 1 := by simp [cnt, cntL]
    have ho := opText_size h5 h15
    rw [fullB_bin h5 h15, e]
    simp only [ByteArray.size_append]
    show ((1 + (fullB a).size + 1 + (opText op).size + 1 + (fullB b).size + 1 : Nat) : Int) ≤ _
    omega
  | call1 s k h _ ih =>
    have e : cnt (exC s [k]) = cnt k + 1 := by simp [cnt, cntL]
    have hs := ident_size h
    rw [fullB_call, e]
    show ((s ++ B #[40] ++ fullB k ++ B #[41]).size : Int) ≤ _
    simp only [ByteArray.size_append]
    show ((s.size + 1 + (fullB k).size + 1 : Nat) : Int) ≤ _
    omega
  | call2 s a b h _ _ iha ihb =>
    have e : cnt (exC s [a, b]) = cnt a + cnt b + 1 := by simp [cnt, cntL]
    have hs := ident_size h
    rw [fullB_call, e]
    show ((s ++ B #[40] ++ fullB a ++ B #[44] ++ fullB b ++ B #[41]).size : Int) ≤ _
    simp only [ByteArray.size_append]
    show ((s.size + 1 + (fullB a).size + 1 + (fullB b).size + 1 : Nat) : Int) ≤ _
    omega
theorem expr_size {e : Ex} (h : exprErr e = 0) : (fullB e).size ≤ 60000 := by
  have h1 := full_size (expr_vx h)
  unfold exprErr at h
  split at h
  · cases h
  · omega
end Go.Tb
namespace Go.Tb
open Go.Ab
structure SF (s : Stp) : Prop where
  cond : s.op = 1 → exprErr s.cond = 0 ∧ Vx s.cond
  items : ∀ x ∈ s.items, okItm x
  aggs : ∀ x ∈ s.aggs, okAgr x
  cols : ∀ x ∈ s.cols, identB x = true
  sorts : ∀ x ∈ s.sorts, identB x.col = true
  n : s.op = 5 → 0 ≤ s.n ∧ s.n ≤ 20000
  table : s.table.size ≤ 40
theorem mem_nil' {α : Type} {p : α → Prop} : ∀ x ∈ ([] : List α), p x := fun x hx => by cases hx
theorem vs_sf {s : Stp} (h : Vs s) : SF s := by
  have e0 : E0.size ≤ 40 := by decide
  cases h with
  | where_ e h hv => exact ⟨fun _ => ⟨h, hv⟩, mem_nil', mem_nil', mem_nil', mem_nil', fun q => absurd q (show ¬ (1 : Int) = 5 by decide), e0⟩
  | select x l h => exact ⟨fun q => absurd q (show ¬ (2 : Int) = 1 by decide), h, mem_nil', mem_nil', mem_nil', fun q => absurd q (show ¬ (2 : Int) = 5 by decide), e0⟩
  | group cols aggs h hc ha => exact ⟨fun q => absurd q (show ¬ (3 : Int) = 1 by decide), mem_nil', ha, hc, mem_nil', fun q => absurd q (show ¬ (3 : Int) = 5 by decide), e0⟩
  | sort x l h => exact ⟨fun q => absurd q (show ¬ (4 : Int) = 1 by decide), mem_nil', mem_nil', mem_nil', h, fun q => absurd q (show ¬ (4 : Int) = 5 by decide), e0⟩
  | limit n h0 h1 => exact ⟨fun q => absurd q (show ¬ (5 : Int) = 1 by decide), mem_nil', mem_nil', mem_nil', mem_nil', fun _ => ⟨h0, h1⟩, e0⟩
  | table op t cols ho h6 ht hc => exact ⟨fun q => absurd (show op = 1 from q) (by omega), mem_nil', mem_nil', hc, mem_nil', fun q => absurd (show op = 5 from q) (by omega), ident_size ht⟩
  | coal cols hc => exact ⟨fun q => absurd q (show ¬ (9 : Int) = 1 by decide), mem_nil', mem_nil', hc, mem_nil', fun q => absurd q (show ¬ (9 : Int) = 5 by decide), e0⟩
theorem sizeErr_le {n least : Int} (h : sizeErr n least = 0) : n ≤ 16 := by
  unfold sizeErr at h
  split at h
  · cases h
  · split at h
    · cases h
    · omega
theorem columnsErr_le {l : List ByteArray} {least : Int} (h : columnsErr l least = 0) : l.length ≤ 16 := by
  unfold columnsErr at h
  split at h
  · rename_i q; exact absurd h q
  · rename_i q
    have := sizeErr_le (n := l.length) (least := least) (by simpa using q)
    omega
structure S16 (s : Stp) : Prop where
  items : s.items.length ≤ 16
  aggs : s.aggs.length ≤ 16
  cols : s.cols.length ≤ 16
  sorts : s.sorts.length ≤ 16
theorem step_16 {s : Stp} (h : stepErr s = 0) : S16 s := by
  unfold stepErr at h
  split at h
  · cases h
  rename_i hu
  have hu' : usesB s = true := by simpa using hu
  simp only [usesB, Bool.and_eq_true, Bool.not_eq_true', Bool.or_eq_false_iff, decide_eq_false_iff_not, Bool.and_eq_false_iff, Bool.not_eq_false', decide_eq_true_eq, Bool.or_eq_true, tableOp, Bool.not_eq_true] at hu'
  obtain ⟨⟨⟨⟨⟨⟨⟨u0, u1⟩, u2⟩, u3⟩, u4⟩, u5⟩, u6⟩, u7⟩ := hu'
  have f2 : s.op ≠ 2 → s.items.length ≤ 16 := fun e => by have := u2.resolve_left e; omega
  have f3 : s.op ≠ 3 → s.aggs.length ≤ 16 := fun e => by have := u3.resolve_left e; omega
  have f4 : s.op ≠ 4 → s.sorts.length ≤ 16 := fun e => by have := u4.resolve_left e; omega
  have f7 : s.op ≠ 3 → s.op ≠ 6 → s.op ≠ 7 → s.op ≠ 8 → s.op ≠ 9 → s.cols.length ≤ 16 := fun a b c d e => by have := u7.resolve_left (by omega); omega
  by_cases e1 : s.op = 1
  · exact ⟨f2 (by omega), f3 (by omega), f7 (by omega) (by omega) (by omega) (by omega) (by omega), f4 (by omega)⟩
  rw [if_neg e1] at h
  by_cases e2 : s.op = 2
  · rw [if_pos e2] at h
    split at h
    · rename_i q; exact absurd h q
    rename_i q
    have := sizeErr_le (n := s.items.length) (least := 1) (by simpa using q)
    exact ⟨by omega, f3 (by omega), f7 (by omega) (by omega) (by omega) (by omega) (by omega), f4 (by omega)⟩
  rw [if_neg e2] at h
  by_cases e3 : s.op = 3
  · rw [if_pos e3] at h
    simp only [groupErr] at h
    split at h
    · cases h
    split at h
    · cases h
    rename_i q
    exact ⟨f2 e2, by omega, by omega, f4 (by omega)⟩
  rw [if_neg e3] at h
  by_cases e4 : s.op = 4
  · rw [if_pos e4] at h
    have := columnsErr_le h
    rw [List.length_map] at this
    exact ⟨f2 e2, f3 e3, f7 (by omega) (by omega) (by omega) (by omega) (by omega), this⟩
  rw [if_neg e4] at h
  by_cases e5 : s.op = 5
  · exact ⟨f2 e2, f3 e3, f7 (by omega) (by omega) (by omega) (by omega) (by omega), f4 e4⟩
  rw [if_neg e5] at h
  by_cases e9 : s.op = 9
  · rw [if_pos e9] at h
    exact ⟨f2 e2, f3 e3, columnsErr_le h, f4 e4⟩
  rw [if_neg e9] at h
  split at h
  · cases h
  exact ⟨f2 e2, f3 e3, columnsErr_le h, f4 e4⟩
theorem join_size {l : List ByteArray} {M : Nat} (hl : l.length ≤ 16) (h : ∀ s ∈ l, s.size ≤ M) : (joinG l).size ≤ 16 * (M + 2) := by
  have h1 := commaB_size (x := wCS) (out := E0) h
  have h2 : (E0).size = 0 := rfl
  have h3 : (wCS).size = 2 := rfl
  rw [h2, h3] at h1
  have h4 : l.length * (M + 2) ≤ 16 * (M + 2) := Nat.mul_le_mul hl (Nat.le_refl _)
  show (commaB wCS E0 l).size ≤ _
  omega
theorem item_size {x : Itm} (h : okItm x) : (itemB x).size ≤ 60100 := by
  have h1 := expr_size h.1
  have h2 := ident_size h.2.2
  unfold itemB
  rw [ByteArray.size_append, ByteArray.size_append]
  show (fullB x.e).size + 4 + x.name.size ≤ _
  omega
theorem agg_size {x : Agr} (h : okAgr x) : x.fn.size ≤ 40 ∧ x.col.size ≤ 40 ∧ x.name.size ≤ 40 ∧ (aggB x).size ≤ 60100 := by
  obtain ⟨h1, h2, h3⟩ := h
  have g1 := ident_size h1
  have g3 := ident_size h3
  have g2 : x.col.size ≤ 40 := by
    rcases h2 with e | h2
    · rw [e]; decide
    · exact ident_size h2
  refine ⟨g1, g2, g3, ?_⟩
  unfold aggB
  simp only [ByteArray.size_append]
  show x.fn.size + 1 + x.col.size + 5 + x.name.size ≤ _
  omega
theorem sort_size {x : Srt} (h : identB x.col = true) : x.col.size ≤ 40 ∧ (sortB x).size ≤ 60100 := by
  have g := ident_size h
  refine ⟨g, ?_⟩
  unfold sortB
  split
  · rw [ByteArray.size_append]; show x.col.size + 5 ≤ _; omega
  · omega
theorem on_size {s : Stp} (hf : SF s) (h16 : S16 s) : (onB s).size ≤ 1000000 := by
  have h1 := hf.table
  have h2 := join_size h16.cols (M := 40) (fun c hc => ident_size (hf.cols c hc))
  unfold onB
  split
  · omega
  · rw [ByteArray.size_append, ByteArray.size_append]
    show s.table.size + 4 + (joinG s.cols).size ≤ _
    omega
theorem step_size {s : Stp} (hf : SF s) (h16 : S16 s) : (stepB s).size ≤ 2000000 := by
  have hc := join_size h16.cols (M := 40) (fun c hc => ident_size (hf.cols c hc))
  have hi := join_size (l := s.items.map itemB) (by simpa using h16.items) (M := 60100) (fun c hc => by
    obtain ⟨x, hx, rfl⟩ := List.mem_map.1 hc
    exact item_size (hf.items x hx))
  have ha := join_size (l := s.aggs.map aggB) (by simpa using h16.aggs) (M := 60100) (fun c hc => by
    obtain ⟨x, hx, rfl⟩ := List.mem_map.1 hc
    exact (agg_size (hf.aggs x hx)).2.2.2)
  have hs := join_size (l := s.sorts.map sortB) (by simpa using h16.sorts) (M := 60100) (fun c hc => by
    obtain ⟨x, hx, rfl⟩ := List.mem_map.1 hc
    exact (sort_size (hf.sorts x hx)).2)
  have ho := on_size hf h16
  unfold stepB
  split
  · rename_i e
    have := expr_size (hf.cond e).1
    rw [ByteArray.size_append]; show 6 + (fullB s.cond).size ≤ _; omega
  split
  · rw [ByteArray.size_append]; show 7 + _ ≤ _; omega
  split
  · split
    · rw [ByteArray.size_append]; show 6 + _ ≤ _; omega
    · simp only [ByteArray.size_append]; show 6 + _ + 3 + _ ≤ _; omega
  split
  · rw [ByteArray.size_append]; show 5 + _ ≤ _; omega
  split
  · rename_i e
    have h5 := hf.n e
    have := digsB_size (n := s.n) h5.1 (by omega)
    rw [ByteArray.size_append]; show 6 + _ ≤ _; omega
  split
  · rw [ByteArray.size_append]; show 5 + _ ≤ _; omega
  split
  · rw [ByteArray.size_append]; show 8 + _ ≤ _; omega
  split
  · rw [ByteArray.size_append]; show 8 + _ ≤ _; omega
  · rw [ByteArray.size_append]; show 9 + _ ≤ _; omega
theorem stepsB_snoc : ∀ (l : List Stp) (out : ByteArray) (s : Stp), stepsB out (l ++ [s]) = stepsB out l ++ tBar ++ stepB s
  | [], _, _ => rfl
  | a :: l, out, s => stepsB_snoc l (out ++ tBar ++ stepB a) s
theorem stepsB_take {out : ByteArray} {l : List Stp} {k : Nat} {s : Stp} (h : l[k]? = some s) : stepsB out (l.take (k + 1)) = stepsB out (l.take k) ++ tBar ++ stepB s := by
  rw [List.take_add_one, h]
  exact stepsB_snoc _ _ _
theorem stepsB_size {M : Nat} : ∀ (l : List Stp) (out : ByteArray), (∀ s ∈ l, (stepB s).size ≤ M) → (stepsB out l).size ≤ out.size + l.length * (M + 3)
  | [], _, _ => by simp [stepsB]
  | a :: l, out, h => by
    have h1 := stepsB_size l (out ++ tBar ++ stepB a) (fun s hs => h s (by simp [hs]))
    have h2 := h a (by simp)
    have h3 : (tBar).size = 3 := rfl
    simp only [stepsB, List.length_cons, ByteArray.size_append, h3] at h1 ⊢
    rw [Nat.add_mul, Nat.one_mul]
    omega
theorem stepsErr_mem : ∀ {l : List Stp}, stepsErr l = 0 → ∀ s ∈ l, stepErr s = 0
  | [], _, s, hs => by cases hs
  | x :: r, h, s, hs => by
    simp only [stepsErr] at h
    split at h
    · rename_i q; exact absurd h q
    · rename_i q
      rcases List.mem_cons.1 hs with rfl | hs
      · simpa using q
      · exact stepsErr_mem h s hs
end Go.Tb
