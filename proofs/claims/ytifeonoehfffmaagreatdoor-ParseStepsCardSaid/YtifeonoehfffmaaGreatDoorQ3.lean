import Derived.Test.YtifeonoehfffmaaGreatDoorQ2
/- Readers see no places; what stands behind a text's end changes nothing that was read. -/
namespace Go.Tb
open Go.Ab
section
variable {L L' : List Tk} (h : L.map Tk.core = L'.map Tk.core)
include h
theorem core_len : L.length = L'.length := by simpa using congrArg List.length h
theorem core_get (k : Nat) : ((L[k]?).getD dflT).core = ((L'[k]?).getD dflT).core := by
  have h1 := congrArg (fun l => l[k]?) h
  simp only [List.getElem?_map] at h1
  cases e : L[k]? with
  | none =>
    cases e' : L'[k]? with
    | none => rfl
    | some t => rw [e, e'] at h1; cases h1
  | some t =>
    cases e' : L'[k]? with
    | none => rw [e, e'] at h1; cases h1
    | some t' =>
      rw [e, e'] at h1
      exact Option.some.inj h1
theorem core_kind (st : PS) : (tk0 L st).kind = (tk0 L' st).kind := by have := congrArg Tk.kind (core_get h st.1); exact this
theorem core_s (st : PS) : (tk0 L st).s = (tk0 L' st).s := by have := congrArg Tk.s (core_get h st.1); exact this
theorem core_n (st : PS) : (tk0 L st).n = (tk0 L' st).n := by have := congrArg Tk.n (core_get h st.1); exact this
theorem core_pk (k i : Nat) : (pkT L k i).kind = (pkT L' k i).kind ∧ (pkT L k i).s = (pkT L' k i).s ∧ (pkT L k i).n = (pkT L' k i).n := by
  unfold pkT
  rw [core_len h]
  have h1 := core_get h (min (k + i) (L'.length - 1))
  exact ⟨by have := congrArg Tk.kind h1; exact this, by have := congrArg Tk.s h1; exact this, by have := congrArg Tk.n h1; exact this⟩
theorem core_sk : skB L = skB L' := by
  funext x st
  unfold skB isT
  rw [core_kind h, core_s h]
theorem core_nameB : nameB L = nameB L' := by
  funext st
  unfold nameB
  rw [core_kind h, core_s h]
theorem core_skS : skS L = skS L' := by funext x st; unfold skS; rw [core_sk h]
theorem core_need : needP L = needP L' := by funext x st; unfold needP; rw [core_sk h]
theorem core_name : nameP L = nameP L' := by funext st; unfold nameP; rw [core_nameB h, core_s h]
theorem core_listGo {α : Type} (x : ByteArray) (one : Pr α) : ∀ n, listGo L x one n = listGo L' x one n
  | 0 => rfl
  | n + 1 => by funext st; simp only [listGo, core_sk h, core_listGo x one n]
theorem core_listP {α : Type} (one : Pr α) : listP L one = listP L' one := by funext st; simp only [listP, core_listGo h, core_len h]
theorem core_findOp : findOp L = findOp L' := by funext ops st; unfold findOp; rw [core_sk h]
theorem core_leftGo (one : Pr Ex) (ops : List (ByteArray × Int)) : ∀ n e, leftGo L one ops n e = leftGo L' one ops n e
  | 0, e => rfl
  | n + 1, e => by
    funext st
    simp only [leftGo, core_findOp h]
    split
    · rfl
    · rw [core_leftGo one ops n]
theorem core_leftP (one : Pr Ex) (ops : List (ByteArray × Int)) : leftP L one ops = leftP L' one ops := by funext st; simp only [leftP, core_leftGo h, core_len h]
theorem core_compP (sum : Pr Ex) : compP L sum = compP L' sum := by funext st; unfold compP; rw [core_findOp h]
theorem core_notP (comp : Pr Ex) : ∀ n, notP L comp n = notP L' comp n
  | 0 => rfl
  | n + 1 => by funext st; simp only [notP, core_sk h, core_notP comp n]
theorem core_unaryP (prim : Pr Ex) : ∀ n, unaryP L prim n = unaryP L' prim n
  | 0 => rfl
  | n + 1 => by funext st; simp only [unaryP, core_sk h, core_unaryP prim n]
omit h in
theorem core_isT {t t' : Tk} (h1 : t.kind = t'.kind) (h2 : t.s = t'.s) (x : ByteArray) : isT t x = isT t' x := by unfold isT; rw [h1, h2]
theorem core_negB : negB L = negB L' := by
  funext st
  unfold negB
  rw [core_isT (core_kind h st) (core_s h st), core_isT (core_pk h st.1 1).1 (core_pk h st.1 1).2.1, (core_pk h st.1 2).1, core_isT (core_pk h st.1 3).1 (core_pk h st.1 3).2.1]
theorem core_callP (o : Pr Ex) : callP L o = callP L' o := by funext s st; unfold callP; rw [core_sk h, core_listP h, core_need h]
theorem core_primP (g : Bool) (o : Pr Ex) : primP L g o = primP L' g o := by
  funext st
  unfold primP
  rw [core_kind h, core_n h, core_s h, core_sk h, core_negB h, (core_pk h st.1 2).2.2, core_need h, core_nameB h, core_callP h]
theorem core_orP (g : Bool) : ∀ n, orP L g n = orP L' g n
  | 0 => rfl
  | n + 1 => by
    show orBP L g (orP L g n) = orBP L' g (orP L' g n)
    rw [core_orP g n]
    unfold orBP andP notsP sumP prodP
    rw [core_primP h, core_unaryP h, core_leftP h, core_leftP h, core_compP h, core_notP h, core_leftP h, core_leftP h, core_len h]
theorem core_aggP : aggP L = aggP L' := by funext st; unfold aggP; rw [core_name h, core_need h, core_nameB h]
theorem core_itemP (o : Pr Ex) : itemP L o = itemP L' o := by funext st; unfold itemP; rw [core_name h, core_need h]
theorem core_sortP : sortP L = sortP L' := by funext st; unfold sortP; rw [core_name h, core_sk h, core_skS h]
theorem core_limP : limP L = limP L' := by funext st; unfold limP; rw [core_kind h, core_n h]
theorem core_groupP : groupP L = groupP L' := by
  funext st
  unfold groupP
  rw [core_isT (core_kind h st) (core_s h st), core_sk h, core_name h, core_aggP h, core_need h, core_listP h, core_listP h]
theorem core_withP (g : Bool) (op : Int) (must : Bool) : withP L g op must = withP L' g op must := by
  funext st
  unfold withP
  rw [core_name h, core_need h, core_sk h, core_listP h]
theorem core_coalP : coalP L = coalP L' := by funext st; unfold coalP; rw [core_nameB h, core_name h, core_listP h]
theorem core_stepP (g : Bool) (o : Pr Ex) : stepP L g o = stepP L' g o := by
  funext st
  unfold stepP
  rw [core_sk h, core_itemP h, core_groupP h, core_sortP h, core_limP h, core_withP h, core_withP h, core_withP h, core_coalP h, core_listP h, core_listP h]
theorem core_queryP (g : Bool) (o : Pr Ex) : queryP L g o = queryP L' g o := by
  funext st
  unfold queryP
  rw [core_name h, core_need h, core_stepP h, core_listGo h, core_len h]
theorem core_queryT (g : Bool) : queryT g L = queryT g L' := by
  unfold queryT orT
  rw [core_orP h, core_queryP h, core_len h]
end

/-! ### something behind the end -/
/-- L ends at m; L' goes on there with a bar -/
structure Tail (L L' : List Tk) (m : Nat) : Prop where
  wf : Wf L
  wf' : Wf L'
  len : L.length = m + 1
  len' : m + 1 ≤ L'.length
  same : ∀ k, k < m → L'[k]? = L[k]?
  fin : ∃ t, L[m]? = some t ∧ t.kind = 0
  bar : ∃ b, L'[m]? = some b ∧ b.kind = 5 ∧ b.s = gBar
section
variable {L L' : List Tk} {m : Nat} (ht : Tail L L' m)
include ht
theorem Tail.tk (st : PS) (h : st.1 < m) : tk0 L' st = tk0 L st := by unfold tk0; rw [ht.same _ h]
theorem Tail.sk (st : PS) (h : st.1 ≤ m) {x : ByteArray} (hx : x ≠ gBar) : skB L' x st = skB L x st := by
  rcases Nat.lt_or_eq_of_le h with h1 | h1
  · unfold skB; rw [ht.tk st h1]
  · obtain ⟨t, e1, e2⟩ := ht.fin
    obtain ⟨b, e3, e4, e5⟩ := ht.bar
    have f1 : tk0 L st = t := at_get (by rw [h1]; exact e1)
    have f2 : tk0 L' st = b := at_get (by rw [h1]; exact e3)
    unfold skB isT
    rw [f1, f2, e2, e4, e5]
    simp [Ne.symm hx]
theorem Tail.name (st : PS) (h : st.1 ≤ m) : nameP L' st = nameP L st ∧ nameB L' st = nameB L st := by
  rcases Nat.lt_or_eq_of_le h with h1 | h1
  · unfold nameP nameB; rw [ht.tk st h1]; exact ⟨rfl, rfl⟩
  · obtain ⟨t, e1, e2⟩ := ht.fin
    obtain ⟨b, e3, e4, e5⟩ := ht.bar
    have f1 : tk0 L st = t := at_get (by rw [h1]; exact e1)
    have f2 : tk0 L' st = b := at_get (by rw [h1]; exact e3)
    have g1 : nameB L st = false := by unfold nameB; rw [f1, e2]; simp
    have g2 : nameB L' st = false := by unfold nameB; rw [f2, e4]; simp
    unfold nameP
    rw [g1, g2]
    exact ⟨rfl, rfl⟩
theorem Tail.need (st : PS) (h : st.1 ≤ m) {x : ByteArray} (hx : x ≠ gBar) : needP L' x st = needP L x st := by unfold needP; rw [ht.sk st h hx]
theorem Tail.kind (st : PS) (h : st.1 ≤ m) (k : Int) (hk : k = 3 ∨ k = 4) : ((tk0 L' st).kind = k ↔ (tk0 L st).kind = k) := by
  rcases Nat.lt_or_eq_of_le h with h1 | h1
  · rw [ht.tk st h1]
  · obtain ⟨t, e1, e2⟩ := ht.fin
    obtain ⟨b, e3, e4, e5⟩ := ht.bar
    have f1 : tk0 L st = t := at_get (by rw [h1]; exact e1)
    have f2 : tk0 L' st = b := at_get (by rw [h1]; exact e3)
    rw [f1, f2, e2, e4]
    omega
theorem Tail.neg (st : PS) (h : st.1 ≤ m) : negB L' st = negB L st ∧ (negB L st = true → pkT L' st.1 2 = pkT L st.1 2) := by
  have pk : ∀ i, st.1 + i < m → pkT L' st.1 i = pkT L st.1 i := fun i hi => by
    have h1 := pkT_at (L := L) (k := st.1) (i := i) (by rw [ht.len]; omega)
    have h2 := pkT_at (L := L') (k := st.1) (i := i) (by have := ht.len'; omega)
    rw [ht.same _ hi, h1] at h2
    exact (Option.some.inj h2).symm
  have yes : ∀ (K : List Tk), Wf K → negB K st = true → ∀ b, K[m]? = some b → m < K.length → b.kind = 5 → b.s = gBar → st.1 + 3 < m ∨ m < st.1 := fun K hw hn b e1 hl e2 e3 => by
    simp only [negB, Bool.and_eq_true, decide_eq_true_eq] at hn
    obtain ⟨n0, n1, n2, n3⟩ := hn
    have no : ∀ x, isT b x = true → x = gBar := fun x hx => by simp only [isT, Bool.and_eq_true, decide_eq_true_eq] at hx; rw [← hx.2, e3]
    have at_ : ∀ i, st.1 + i = m → pkT K st.1 i = b := fun i hi => by
      have := pkT_at (L := K) (k := st.1) (i := i) (by omega)
      rw [hi, e1] at this
      exact (Option.some.inj this).symm
    rcases Nat.lt_or_ge m st.1 with h1 | h1
    · exact .inr h1
    · refine .inl ?_
      rcases Nat.lt_or_ge (st.1 + 3) m with h2 | h2
      · exact h2
      · exfalso
        have h3 : m = st.1 ∨ m = st.1 + 1 ∨ m = st.1 + 2 ∨ m = st.1 + 3 := by omega
        rcases h3 with h3 | h3 | h3 | h3
        · have : tk0 K st = b := at_get (by rw [← h3]; exact e1)
          rw [this] at n0
          exact absurd (no _ n0) (by decide)
        · rw [at_ 1 h3.symm] at n1
          exact absurd (no _ n1) (by decide)
        · rw [at_ 2 h3.symm, e2] at n2
          cases n2
        · rw [at_ 3 h3.symm] at n3
          exact absurd (no _ n3) (by decide)
  obtain ⟨b, e3, e4, e5⟩ := ht.bar
  cases q : negB L st with
  | true =>
    have h1 := negB_more ht.wf q
    rw [ht.len] at h1
    refine ⟨?_, fun _ => pk 2 (by omega)⟩
    unfold negB at q ⊢
    rw [ht.tk st (by omega), pk 1 (by omega), pk 2 (by omega), pk 3 (by omega)]
    exact q
  | false =>
    refine ⟨?_, fun h => by cases h⟩
    cases q' : negB L' st with
    | false => rfl
    | true =>
      exfalso
      rcases yes L' ht.wf' q' b e3 (by have := ht.len'; omega) e4 e5 with h1 | h1
      · unfold negB at q q'
        rw [ht.tk st (by omega), pk 1 (by omega), pk 2 (by omega), pk 3 (by omega), q] at q'
        cases q'
      · omega

/-- what was read without a fault is read the same; d bounds what is left -/
def Ext (L : List Tk) (m : Nat) {α : Type} (f f' : Pr α) (d : Nat) : Prop := ∀ st, st.1 ≤ m → L.length - st.1 ≤ d → (f st).2.2 = false → f' st = f st
omit ht in
theorem Ext.less {α : Type} {f f' : Pr α} {d e : Nat} (h : Ext L m f f' d) (he : e ≤ d) : Ext L m f f' e := fun st h1 h2 => h st h1 (by omega)
theorem Tail.le {st : PS} (h : st.1 < L.length) : st.1 ≤ m := by have := ht.len; omega
theorem Tail.lt {st : PS} (h : st.1 ≤ m) : st.1 < L.length := by have := ht.len; omega
theorem listGo_ext {α : Type} {one one' : Pr α} (ho : Goes L one) {d : Nat} (h : Ext L m one one' d) {x : ByteArray} (hx : x ≠ gBar) : ∀ n n' st, st.1 ≤ m → L.length - st.1 ≤ d → L.length - st.1 ≤ n → L.length - st.1 ≤ n' →
    (listGo L x one n st).2.2 = false → listGo L' x one' n' st = listGo L x one n st
  | 0, n', st, h1, _, h3, _, _ => by have := ht.lt h1; omega
  | n + 1, 0, st, h1, _, _, h4, _ => by have := ht.lt h1; omega
  | n + 1, n' + 1, st, h1, h2, h3, h4, h5 => by
    simp only [listGo] at h5 ⊢
    rw [ht.sk st h1 hx]
    by_cases q : skB L x st = true
    · rw [if_pos q] at h5
      rw [if_pos q, if_pos q]
      have l1 := skB_more ht.wf q (ht.lt h1)
      have l2 := ho.lt (adv st) l1
      have l3 := ho.mono (adv st)
      have l4 : st.1 + 1 ≤ (one (adv st)).2.1 := l3
      have l5 := (listGo_goes ht.wf ho x n).good h5
      have e := h (adv st) (ht.le l1) (by show L.length - (st.1 + 1) ≤ d; omega) l5
      have r := listGo_ext ho h hx n n' (one (adv st)).2 (ht.le l2) (by omega) (by omega) (by omega) h5
      rw [e, r]
    · rw [if_neg q, if_neg q]
theorem listP_ext {α : Type} {one one' : Pr α} (ho : Goes L one) {d : Nat} (h : Ext L m one one' d) : Ext L m (listP L one) (listP L' one') d := fun st h1 h2 h5 => by
  have l2 := ho.lt st (ht.lt h1)
  have l3 := ho.mono st
  have l5 := (listGo_goes ht.wf ho gCom L.length).good h5
  have e := h st h1 h2 l5
  simp only [listP] at h5 ⊢
  rw [e, listGo_ext ht ho h (by decide) L.length L'.length (one st).2 (ht.le l2) (by omega) (by omega) (by have := ht.len'; have := ht.len; omega) h5]
theorem Tail.find {ops : List (ByteArray × Int)} (hx : ∀ o ∈ ops, o.1 ≠ gBar) (st : PS) (h : st.1 ≤ m) : findOp L' ops st = findOp L ops st := by
  unfold findOp
  congr 1
  induction ops with
  | nil => rfl
  | cons o r ih =>
    rw [List.find?_cons, List.find?_cons, ht.sk st h (hx o (by simp)), ih (fun o ho => hx o (by simp [ho]))]
theorem leftGo_ext {one one' : Pr Ex} (ho : Goes L one) {d : Nat} (h : Ext L m one one' d) {ops : List (ByteArray × Int)} (hx : ∀ o ∈ ops, o.1 ≠ gBar) : ∀ n n' e st, st.1 ≤ m → L.length - st.1 ≤ d → L.length - st.1 ≤ n → L.length - st.1 ≤ n' →
    (leftGo L one ops n e st).2.2 = false → leftGo L' one' ops n' e st = leftGo L one ops n e st
  | 0, n', e, st, h1, _, h3, _, _ => by have := ht.lt h1; omega
  | n + 1, 0, e, st, h1, _, _, h4, _ => by have := ht.lt h1; omega
  | n + 1, n' + 1, e, st, h1, h2, h3, h4, h5 => by
    simp only [leftGo] at h5 ⊢
    rw [ht.find hx st h1]
    cases q : findOp L ops st with
    | none => rfl
    | some op =>
      rw [q] at h5
      simp only at h5 ⊢
      obtain ⟨x, hx'⟩ := findOp_sk q
      have l1 := skB_more ht.wf hx' (ht.lt h1)
      have l2 := ho.lt (adv st) l1
      have l4 : st.1 + 1 ≤ (one (adv st)).2.1 := ho.mono (adv st)
      have l5 := (leftGo_goes ht.wf ho ops n _).good h5
      have e1 := h (adv st) (ht.le l1) (by show L.length - (st.1 + 1) ≤ d; omega) l5
      rw [e1]
      exact leftGo_ext ho h hx n n' _ (one (adv st)).2 (ht.le l2) (by omega) (by omega) (by omega) h5
theorem leftP_ext {one one' : Pr Ex} (ho : Goes L one) {d : Nat} (h : Ext L m one one' d) {ops : List (ByteArray × Int)} (hx : ∀ o ∈ ops, o.1 ≠ gBar) : Ext L m (leftP L one ops) (leftP L' one' ops) d := fun st h1 h2 h5 => by
  have l2 := ho.lt st (ht.lt h1)
  have l3 := ho.mono st
  have l5 := (leftGo_goes ht.wf ho ops L.length _).good h5
  have e := h st h1 h2 l5
  simp only [leftP] at h5 ⊢
  rw [e, leftGo_ext ht ho h hx L.length L'.length _ (one st).2 (ht.le l2) (by omega) (by omega) (by have := ht.len'; have := ht.len; omega) h5]
theorem compP_ext {sum sum' : Pr Ex} (ho : Goes L sum) {d : Nat} (h : Ext L m sum sum' d) : Ext L m (compP L sum) (compP L' sum') d := fun st h1 h2 h5 => by
  have l2 := ho.lt st (ht.lt h1)
  have l3 := ho.mono st
  have key : (sum st).2.2 = false → sum' st = sum st := h st h1 h2
  have two : ∀ {x : ByteArray}, skB L x (sum st).2 = true → (sum (adv (sum st).2)).2.2 = false → sum' (adv (sum st).2) = sum (adv (sum st).2) := fun hx h6 => by
    have l4 := skB_more ht.wf hx l2
    exact h _ (ht.le l4) (by show L.length - ((sum st).2.1 + 1) ≤ d; omega) h6
  simp only [compP] at h5 ⊢
  cases q : findOp L opsCmp (sum st).2 with
  | some op =>
    rw [q] at h5
    simp only at h5
    obtain ⟨x, hx⟩ := findOp_sk q
    rw [key (skB_good hx), ht.find (by decide) _ (ht.le l2), q]
    simp only
    rw [two hx h5]
  | none =>
    rw [q] at h5
    cases q' : findOp L opsRev (sum st).2 with
    | some op =>
      rw [q'] at h5
      simp only at h5
      obtain ⟨x, hx⟩ := findOp_sk q'
      rw [key (skB_good hx), ht.find (by decide) _ (ht.le l2), q, ht.find (by decide) _ (ht.le l2), q']
      simp only
      rw [two hx h5]
    | none =>
      rw [q'] at h5
      rw [key h5, ht.find (by decide) _ (ht.le l2), q, ht.find (by decide) _ (ht.le l2), q']
theorem notP_ext {comp comp' : Pr Ex} {d : Nat} (h : Ext L m comp comp' d) : ∀ n n' st, st.1 ≤ m → L.length - st.1 ≤ d → L.length - st.1 ≤ n → L.length - st.1 ≤ n' → (notP L comp n st).2.2 = false → notP L' comp' n' st = notP L comp n st
  | 0, n', st, h1, _, h3, _, _ => by have := ht.lt h1; omega
  | n + 1, 0, st, h1, _, _, h4, _ => by have := ht.lt h1; omega
  | n + 1, n' + 1, st, h1, h2, h3, h4, h5 => by
    simp only [notP] at h5 ⊢
    rw [ht.sk st h1 (by decide)]
    by_cases q : skB L kwNot st = true
    · rw [if_pos q] at h5
      rw [if_pos q, if_pos q]
      have l1 := skB_more ht.wf q (ht.lt h1)
      rw [notP_ext h n n' (adv st) (ht.le l1) (by show L.length - (st.1 + 1) ≤ d; omega) (by show L.length - (st.1 + 1) ≤ n; omega) (by show L.length - (st.1 + 1) ≤ n'; omega) h5]
    · rw [if_neg q] at h5
      rw [if_neg q, if_neg q]
      exact h st h1 h2 h5
theorem unaryP_ext {prim prim' : Pr Ex} {d : Nat} (h : Ext L m prim prim' d) : ∀ n n' st, st.1 ≤ m → L.length - st.1 ≤ d → L.length - st.1 ≤ n → L.length - st.1 ≤ n' → (unaryP L prim n st).2.2 = false → unaryP L' prim' n' st = unaryP L prim n st
  | 0, n', st, h1, _, h3, _, _ => by have := ht.lt h1; omega
  | n + 1, 0, st, h1, _, _, h4, _ => by have := ht.lt h1; omega
  | n + 1, n' + 1, st, h1, h2, h3, h4, h5 => by
    simp only [unaryP] at h5 ⊢
    rw [ht.sk st h1 (by decide)]
    by_cases q : skB L gSub st = true
    · rw [if_pos q] at h5
      rw [if_pos q, if_pos q]
      have l1 := skB_more ht.wf q (ht.lt h1)
      rw [unaryP_ext h n n' (adv st) (ht.le l1) (by show L.length - (st.1 + 1) ≤ d; omega) (by show L.length - (st.1 + 1) ≤ n; omega) (by show L.length - (st.1 + 1) ≤ n'; omega) h5]
    · rw [if_neg q] at h5
      rw [if_neg q, if_neg q]
      exact h st h1 h2 h5
theorem callP_ext {o o' : Pr Ex} (ho : Goes L o) {d : Nat} (h : Ext L m o o' d) (s : ByteArray) : Ext L m (callP L o s) (callP L' o' s) d := fun st h1 h2 h5 => by
  simp only [callP] at h5 ⊢
  rw [ht.sk st h1 (by decide)]
  by_cases q : skB L gShut st = true
  · rw [if_pos q, if_pos q]
  · rw [if_neg q] at h5
    rw [if_neg q, if_neg q]
    have l2 := (listP_goes ht.wf ho).lt st (ht.lt h1)
    rw [listP_ext ht ho h st h1 h2 ((needP_goes ht.wf gShut).good h5), ht.need _ (ht.le l2) (by decide)]
theorem primP_ext {o o' : Pr Ex} (ho : Goes L o) {d : Nat} (h : Ext L m o o' d) (g : Bool) : Ext L m (primP L g o) (primP L' g o') (d + 1) := fun st h1 h2 h5 => by
  unfold primP at h5 ⊢
  by_cases h0 : st.2 = true
  · rw [if_pos h0, if_pos h0]
  rw [if_neg h0] at h5
  rw [if_neg h0, if_neg h0]
  have eq : ∀ k : Int, (k = 3 ∨ k = 4) → (tk0 L st).kind = k → tk0 L' st = tk0 L st := fun k hk e => by
    refine ht.tk st ?_
    have := ht.wf.more (ht.lt h1) (by unfold Tk.stops; rw [e]; rcases hk with rfl | rfl <;> decide)
    have := ht.len
    omega
  by_cases k3 : (tk0 L st).kind = 3
  · rw [if_pos k3, if_pos ((ht.kind st h1 3 (.inl rfl)).2 k3), eq 3 (.inl rfl) k3]
  rw [if_neg k3] at h5
  rw [if_neg k3, if_neg (fun e => k3 ((ht.kind st h1 3 (.inl rfl)).1 e))]
  by_cases k4 : (tk0 L st).kind = 4
  · rw [if_pos k4, if_pos ((ht.kind st h1 4 (.inr rfl)).2 k4), eq 4 (.inr rfl) k4]
  rw [if_neg k4] at h5
  rw [if_neg k4, if_neg (fun e => k4 ((ht.kind st h1 4 (.inr rfl)).1 e))]
  rw [ht.sk st h1 (x := kwNull) (by decide), ht.sk st h1 (x := kwTrue) (by decide), ht.sk st h1 (x := kwFalse) (by decide), ht.sk st h1 (x := gOpen) (by decide), (ht.neg st h1).1, (ht.name st h1).2]
  by_cases s1 : skB L kwNull st = true
  · rw [if_pos s1, if_pos s1]
  rw [if_neg s1] at h5
  rw [if_neg s1, if_neg s1]
  by_cases s2 : skB L kwTrue st = true
  · rw [if_pos s2, if_pos s2]
  rw [if_neg s2] at h5
  rw [if_neg s2, if_neg s2]
  by_cases s3 : skB L kwFalse st = true
  · rw [if_pos s3, if_pos s3]
  rw [if_neg s3] at h5
  rw [if_neg s3, if_neg s3]
  by_cases s4 : negB L st = true
  · rw [if_pos s4, if_pos s4, (ht.neg st h1).2 s4]
  rw [if_neg s4] at h5
  rw [if_neg s4, if_neg s4]
  by_cases s5 : skB L gOpen st = true
  · rw [if_pos s5] at h5
    rw [if_pos s5, if_pos s5]
    have l1 := skB_more ht.wf s5 (ht.lt h1)
    have l2 := ho.lt (adv st) l1
    rw [h (adv st) (ht.le l1) (by show L.length - (st.1 + 1) ≤ d; omega) ((needP_goes ht.wf gShut).good h5), ht.need _ (ht.le l2) (by decide)]
  rw [if_neg s5] at h5
  rw [if_neg s5, if_neg s5]
  by_cases s6 : nameB L st = true
  · rw [if_pos s6] at h5
    rw [if_pos s6, if_pos s6]
    have l1 := nameB_more ht.wf s6 (ht.lt h1)
    have l1' : (adv st).1 ≤ m := ht.le (st := adv st) l1
    have l1n : st.1 + 1 ≤ m := l1'
    rw [ht.sk (adv st) l1' (by decide), ht.tk st (by omega)]
    by_cases s7 : skB L gOpen (adv st) = true
    · rw [if_pos s7] at h5
      rw [if_pos s7, if_pos s7]
      have l2 := skB_more ht.wf s7 l1
      exact callP_ext ht ho h _ (adv (adv st)) (ht.le l2) (by show L.length - (st.1 + 1 + 1) ≤ d; omega) h5
    · rw [if_neg s7, if_neg s7]
  · rw [if_neg s6] at h5
    cases h5
theorem orP_ext (g : Bool) : ∀ n n', n ≤ n' → Ext L m (orP L g n) (orP L' g n') n
  | 0, n', _ => fun st h1 h2 _ => by have := ht.lt h1; omega
  | n + 1, 0, h => by omega
  | n + 1, n' + 1, h => by
    have o := orP_goes ht.wf g n
    have g1 := primP_goes ht.wf o g
    have g2 := unaryP_goes ht.wf g1 L.length
    have g3 := leftP_goes ht.wf g2 opsMul
    have g4 := leftP_goes ht.wf g3 opsSum
    have gc := compP_goes ht.wf g4
    have g5 := notP_goes ht.wf gc L.length
    have g6 := leftP_goes ht.wf g5 opsAnd
    have e1 := primP_ext ht o (orP_ext g n n' (by omega)) g
    have ll : L.length ≤ L'.length := by have := ht.len; have := ht.len'; omega
    have e2 : Ext L m (unaryP L (primP L g (orP L g n)) L.length) (unaryP L' (primP L' g (orP L' g n')) L'.length) (n + 1) := fun st h1 h2 h5 => unaryP_ext ht e1 _ _ st h1 h2 (by omega) (by omega) h5
    have e3 := leftP_ext ht g2 e2 (ops := opsMul) (by decide)
    have e4 := leftP_ext ht g3 e3 (ops := opsSum) (by decide)
    have ec := compP_ext ht g4 e4
    have e5 : Ext L m (notP L (compP L (sumP L g (orP L g n))) L.length) (notP L' (compP L' (sumP L' g (orP L' g n'))) L'.length) (n + 1) := fun st h1 h2 h5 => notP_ext ht ec _ _ st h1 h2 (by omega) (by omega) h5
    have e6 := leftP_ext ht g5 e5 (ops := opsAnd) (by decide)
    exact leftP_ext ht g6 e6 (ops := opsOr) (by decide)
end
end Go.Tb
/- A query with a further step behind it. -/
namespace Go.Tb
open Go.Ab
section
variable {L L' : List Tk} {m : Nat} (ht : Tail L L' m)
include ht
theorem Tail.isT (st : PS) (h : st.1 ≤ m) {x : ByteArray} (hx : x ≠ gBar) : Tb.isT (tk0 L' st) x = Tb.isT (tk0 L st) x := by
  have := ht.sk (st.1, false) h hx
  simp only [skB, Bool.not_false, Bool.true_and] at this
  exact this
theorem aggP_ext (d : Nat) : Ext L m (aggP L) (aggP L') d := fun st h1 _ _ => by
  have n := nameP_goes ht.wf
  have a1 := n.lt st (ht.lt h1)
  have a2 := (needP_goes ht.wf gOpen).lt (nameP L st).2 a1
  unfold aggP
  simp only [(ht.name st h1).1, ht.need _ (ht.le a1) (x := gOpen) (by decide), (ht.name _ (ht.le a2)).2, (ht.name _ (ht.le a2)).1]
  have a3 : (if nameB L (needP L gOpen (nameP L st).2) then nameP L (needP L gOpen (nameP L st).2) else (E0, needP L gOpen (nameP L st).2)).2.1 < L.length := by
    split
    · exact n.lt _ a2
    · exact a2
  have a4 := (needP_goes ht.wf gShut).lt _ a3
  have a5 := (needP_goes ht.wf kwAs).lt _ a4
  simp only at a4 a5
  rw [ht.need _ (ht.le a3) (x := gShut) (by decide), ht.need _ (ht.le a4) (x := kwAs) (by decide), (ht.name _ (ht.le a5)).1]
theorem name_ext (d : Nat) : Ext L m (nameP L) (nameP L') d := fun st h1 _ _ => (ht.name st h1).1
theorem sortP_ext (d : Nat) : Ext L m (sortP L) (sortP L') d := fun st h1 _ _ => by
  have a1 := (nameP_goes ht.wf).lt st (ht.lt h1)
  unfold sortP skS
  rw [(ht.name st h1).1, ht.sk _ (ht.le a1) (by decide)]
theorem limP_ext (st : PS) (h1 : st.1 ≤ m) : limP L' st = limP L st := by
  unfold limP
  by_cases k3 : (tk0 L st).kind = 3
  · have hl : st.1 < m := by
      have := ht.wf.more (ht.lt h1) (by unfold Tk.stops; rw [k3]; decide)
      have := ht.len
      omega
    rw [ht.tk st hl]
  · have k3' : ¬ (tk0 L' st).kind = 3 := fun e => k3 ((ht.kind st h1 3 (.inl rfl)).1 e)
    rw [if_pos (by simp [k3, k3']), if_pos (by simp [k3, k3'])]
theorem itemP_ext {o o' : Pr Ex} (ho : Goes L o) {d : Nat} (h : Ext L m o o' d) : Ext L m (itemP L o) (itemP L' o') d := fun st h1 h2 h5 => by
  have a1 := ho.lt st (ht.lt h1)
  have a2 := (needP_goes ht.wf kwAs).lt _ a1
  simp only at a2
  unfold itemP at h5 ⊢
  simp only at h5
  have g1 := (nameP_goes ht.wf).good h5
  have g2 := (needP_goes ht.wf kwAs).good g1
  rw [h st h1 h2 g2, ht.need _ (ht.le a1) (by decide), (ht.name _ (ht.le a2)).1]
theorem groupP_ext (d : Nat) : Ext L m (groupP L) (groupP L') d := fun st h1 h2 h5 => by
  have n := nameP_goes ht.wf
  have ln := listP_goes ht.wf n
  have la := listP_goes ht.wf (aggP_goes ht.wf)
  have b1 := ln.lt st (ht.lt h1)
  have m1 := ln.mono st
  unfold groupP at h5 ⊢
  rw [ht.isT st h1 (by decide)]
  by_cases q : (!st.2 && !Tb.isT (tk0 L st) gCol) = true
  · rw [if_pos q] at h5
    rw [if_pos q, if_pos q]
    by_cases r : skB L gCol (listP L (nameP L) st).2 = true
    · rw [if_pos r] at h5
      have e1 := listP_ext ht n (name_ext ht d) st h1 h2 (skB_good r)
      have b2 := skB_more ht.wf r b1
      have e2 := listP_ext ht (aggP_goes ht.wf) (aggP_ext ht d) (adv (listP L (nameP L) st).2) (ht.le b2) (by show L.length - ((listP L (nameP L) st).2.1 + 1) ≤ d; omega) h5
      rw [e1, ht.sk _ (ht.le b1) (by decide), if_pos r, if_pos r, e2]
    · rw [if_neg r] at h5
      have e1 := listP_ext ht n (name_ext ht d) st h1 h2 h5
      rw [e1, ht.sk _ (ht.le b1) (by decide), if_neg r, if_neg r]
  · rw [if_neg q] at h5
    rw [if_neg q, if_neg q, ht.need st h1 (by decide)]
    have b2 := (needP_goes ht.wf gCol).lt st (ht.lt h1)
    have m2 := (needP_goes ht.wf gCol).mono st
    simp only at b2 m2
    rw [listP_ext ht (aggP_goes ht.wf) (aggP_ext ht d) _ (ht.le b2) (by omega) h5]
theorem withP_ext (g : Bool) (op : Int) (must : Bool) (d : Nat) : Ext L m (withP L g op must) (withP L' g op must) d := fun st h1 h2 h5 => by
  have n := nameP_goes ht.wf
  have b1 := n.lt st (ht.lt h1)
  have m1 := n.mono st
  have b2 := (needP_goes ht.wf kwOn).lt (nameP L st).2 b1
  have m2 := (needP_goes ht.wf kwOn).mono (nameP L st).2
  simp only at b2 m2
  unfold withP at h5 ⊢
  rw [(ht.name st h1).1, ht.need _ (ht.le b1) (by decide), ht.sk _ (ht.le b1) (by decide)]
  cases must with
  | true =>
    simp only [if_true] at h5 ⊢
    by_cases q : (needP L kwOn (nameP L st).2).2 = true
    · rw [if_pos q, if_pos q]
    · rw [if_neg q] at h5
      rw [if_neg q, if_neg q, listP_ext ht n (name_ext ht d) _ (ht.le b2) (by omega) h5]
  | false =>
    simp only [Bool.false_eq_true, if_false] at h5 ⊢
    by_cases q : skB L kwOn (nameP L st).2 = true
    · rw [if_pos q] at h5
      have b3 := skB_more ht.wf q b1
      rw [if_pos q, if_pos q, listP_ext ht n (name_ext ht d) _ (ht.le b3) (by show L.length - ((nameP L st).2.1 + 1) ≤ d; omega) h5]
    · rw [if_neg q, if_neg q]
theorem coalP_ext (d : Nat) : Ext L m (coalP L) (coalP L') d := fun st h1 h2 h5 => by
  unfold coalP at h5 ⊢
  rw [(ht.name st h1).2]
  by_cases q : nameB L st = true
  · rw [if_pos q] at h5
    rw [if_pos q, if_pos q, listP_ext ht (nameP_goes ht.wf) (name_ext ht d) st h1 h2 h5]
  · rw [if_neg q, if_neg q]
theorem stepP_ext {o o' : Pr Ex} (ho : Goes L o) {d : Nat} (h : Ext L m o o' d) (g : Bool) : Ext L m (stepP L g o) (stepP L' g o') d := fun st h1 h2 h5 => by
  have go : ∀ {x : ByteArray}, skB L x st = true → (adv st).1 ≤ m ∧ L.length - (adv st).1 ≤ d := fun q => ⟨ht.le (st := adv st) (skB_more ht.wf q (ht.lt h1)), by show L.length - (st.1 + 1) ≤ d; omega⟩
  unfold stepP at h5 ⊢
  rw [ht.sk st h1 (x := kwWhere) (by decide), ht.sk st h1 (x := kwSelect) (by decide), ht.sk st h1 (x := kwGroup) (by decide), ht.sk st h1 (x := kwSort) (by decide), ht.sk st h1 (x := kwLimit) (by decide),
    ht.sk st h1 (x := kwJoin) (by decide), ht.sk st h1 (x := kwOverlap) (by decide), ht.sk st h1 (x := kwNearest) (by decide), ht.sk st h1 (x := kwCoal) (by decide)]
  by_cases q1 : skB L kwWhere st = true
  · rw [if_pos q1] at h5
    rw [if_pos q1, if_pos q1, h _ (go q1).1 (go q1).2 h5]
  rw [if_neg q1] at h5
  rw [if_neg q1, if_neg q1]
  by_cases q2 : skB L kwSelect st = true
  · rw [if_pos q2] at h5
    rw [if_pos q2, if_pos q2, listP_ext ht (itemP_goes ht.wf ho) (itemP_ext ht ho h) _ (go q2).1 (go q2).2 h5]
  rw [if_neg q2] at h5
  rw [if_neg q2, if_neg q2]
  by_cases q3 : skB L kwGroup st = true
  · rw [if_pos q3] at h5
    rw [if_pos q3, if_pos q3, groupP_ext ht d _ (go q3).1 (go q3).2 h5]
  rw [if_neg q3] at h5
  rw [if_neg q3, if_neg q3]
  by_cases q4 : skB L kwSort st = true
  · rw [if_pos q4] at h5
    rw [if_pos q4, if_pos q4, listP_ext ht (sortP_goes ht.wf) (sortP_ext ht d) _ (go q4).1 (go q4).2 h5]
  rw [if_neg q4] at h5
  rw [if_neg q4, if_neg q4]
  by_cases q5 : skB L kwLimit st = true
  · rw [if_pos q5, if_pos q5, limP_ext ht _ (go q5).1]
  rw [if_neg q5] at h5
  rw [if_neg q5, if_neg q5]
  by_cases q6 : skB L kwJoin st = true
  · rw [if_pos q6] at h5
    rw [if_pos q6, if_pos q6, withP_ext ht g 6 true d _ (go q6).1 (go q6).2 h5]
  rw [if_neg q6] at h5
  rw [if_neg q6, if_neg q6]
  by_cases q7 : skB L kwOverlap st = true
  · rw [if_pos q7] at h5
    rw [if_pos q7, if_pos q7, withP_ext ht g 7 false d _ (go q7).1 (go q7).2 h5]
  rw [if_neg q7] at h5
  rw [if_neg q7, if_neg q7]
  by_cases q8 : skB L kwNearest st = true
  · rw [if_pos q8] at h5
    rw [if_pos q8, if_pos q8, withP_ext ht g 8 false d _ (go q8).1 (go q8).2 h5]
  rw [if_neg q8] at h5
  rw [if_neg q8, if_neg q8]
  by_cases q9 : skB L kwCoal st = true
  · rw [if_pos q9] at h5
    rw [if_pos q9, if_pos q9, coalP_ext ht d _ (go q9).1 (go q9).2 h5]
  rw [if_neg q9] at h5
  cases h5
end
/-- what stands behind the end: a bar and a limit -/
structure TailLim (L L' : List Tk) (m : Nat) : Prop extends Tail L L' m where
  len4 : L'.length = m + 4
  lim : ∃ b, L'[m + 1]? = some b ∧ b.kind = 2 ∧ b.s = kwLimit
  num : ∃ b, L'[m + 2]? = some b ∧ b.kind = 3 ∧ b.n = 7
  fin' : ∃ b, L'[m + 3]? = some b ∧ b.kind = 0
abbrev limStep : Stp := { stp0 5 with n := 7 }
section
variable {L L' : List Tk} {m : Nat} (ht : TailLim L L' m)
include ht
theorem lim_step (g : Bool) (o' : Pr Ex) : stepP L' g o' (m + 1, false) = (limStep, (m + 3, false)) := by
  obtain ⟨b, e1, e2, e3⟩ := ht.lim
  obtain ⟨c, e4, e5, e6⟩ := ht.num
  have f1 : tk0 L' (m + 1, false) = b := at_get e1
  have f2 : tk0 L' (m + 2, false) = c := at_get e4
  have sk : ∀ x, skB L' x (m + 1, false) = decide (kwLimit = x) := fun x => by unfold skB isT; rw [f1, e2, e3]; rfl
  have l : limP L' (m + 2, false) = (7, (m + 3, false)) := by unfold limP; rw [f2, e5, e6]; rfl
  unfold stepP
  simp only [sk]
  rw [if_neg (by decide), if_neg (by decide), if_neg (by decide), if_neg (by decide), if_pos (by decide)]
  show ({ stp0 5 with n := (limP L' (m + 2, false)).1 }, (limP L' (m + 2, false)).2) = _
  rw [l]
theorem steps_lim {o o' : Pr Ex} (g : Bool) (ho : Goes L o) {d : Nat} (h : Ext L m o o' d) : ∀ n n' st, st.1 ≤ m → L.length - st.1 ≤ d → L.length - st.1 ≤ n → L.length - st.1 + 1 ≤ n' → (listGo L gBar (stepP L g o) n st).2 = (m, false) →
    listGo L' gBar (stepP L' g o') n' st = ((listGo L gBar (stepP L g o) n st).1 ++ [limStep], (m + 3, false))
  | 0, n', st, h1, _, h3, _, _ => by have := ht.toTail.lt h1; omega
  | n + 1, 0, st, h1, _, _, h4, _ => by omega
  | n + 1, n' + 1, st, h1, h2, h3, h4, h5 => by
    have hs := stepP_goes ht.wf ho g
    by_cases q : skB L gBar st = true
    · have l1 := skB_more ht.wf q (ht.toTail.lt h1)
      have l0 : st.1 < m := by have := ht.len; omega
      have q' : skB L' gBar st = true := by unfold skB at q ⊢; rw [ht.toTail.tk st l0]; exact q
      have l2 := hs.lt (adv st) l1
      have l4 : st.1 + 1 ≤ (stepP L g o (adv st)).2.1 := hs.mono (adv st)
      simp only [listGo] at h5 ⊢
      rw [if_pos q] at h5 ⊢
      rw [if_pos q']
      simp only at h5
      have l5 : (stepP L g o (adv st)).2.2 = false := (listGo_goes ht.wf hs gBar n).good (st := (stepP L g o (adv st)).2) (by rw [h5])
      have e := stepP_ext ht.toTail ho h g (adv st) (ht.toTail.le l1) (by show L.length - (st.1 + 1) ≤ d; omega) l5
      have r := steps_lim g ho h n n' (stepP L g o (adv st)).2 (ht.toTail.le l2) (by omega) (by omega) (by omega) h5
      rw [e, r]
      rfl
    · simp only [listGo] at h5 ⊢
      rw [if_neg q] at h5 ⊢
      simp only at h5
      subst h5
      obtain ⟨b, e3, e4, e5⟩ := ht.bar
      have q' : skB L' gBar (m, false) = true := by
        have f2 : tk0 L' (m, false) = b := at_get e3
        unfold skB isT
        rw [f2, e4, e5]
        rfl
      rw [if_pos q']
      show (((stepP L' g o' (m + 1, false)).1 :: (listGo L' gBar (stepP L' g o') n' (stepP L' g o' (m + 1, false)).2).1, (listGo L' gBar (stepP L' g o') n' (stepP L' g o' (m + 1, false)).2).2) : List Stp × PS) = _
      rw [lim_step ht g o']
      have : 1 ≤ n' := by have := ht.len; simp only at h4; omega
      obtain ⟨k, rfl⟩ : ∃ k, n' = k + 1 := ⟨n' - 1, by omega⟩
      obtain ⟨c, c1, c2⟩ := ht.fin'
      have f3 : tk0 L' (m + 3, false) = c := at_get c1
      have q3 : ¬ skB L' gBar (m + 3, false) = true := by unfold skB isT; rw [f3, c2]; simp
      simp only [listGo]
      rw [if_neg q3]
      rfl
/-- the whole query -/
theorem query_lim (g : Bool) (h : badB L (queryT g L (0, false)).2 = false) : queryT g L' (0, false) = (⟨(queryT g L (0, false)).1.from_, (queryT g L (0, false)).1.steps ++ [limStep]⟩, (m + 3, false)) := by
  have o := orP_goes ht.wf g L.length
  have hs := stepP_goes ht.wf o g
  have e := orP_ext ht.toTail g L.length L'.length (by have := ht.len; have := ht.len4; omega)
  have b0 : (0, false).1 ≤ m := Nat.zero_le _
  have b1 := (needP_goes ht.wf kwFrom).lt (0, false) (ht.toTail.lt b0)
  have b2 := (nameP_goes ht.wf).lt _ b1
  simp only at b1
  have e1 := ht.toTail.need (0, false) b0 (x := kwFrom) (by decide)
  have e2 := (ht.toTail.name _ (ht.toTail.le b1)).1
  have hfin : (listGo L gBar (stepP L g (orT g L)) L.length (nameP L (needP L kwFrom (0, false))).2).2 = (m, false) := by
    simp only [badB, Bool.or_eq_false_iff, Bool.not_eq_false', decide_eq_true_eq] at h
    obtain ⟨h1, h2⟩ := h
    have h3 : ((queryT g L (0, false)).2).1 < L.length := (queryP_goes ht.wf o g).lt (0, false) (ht.toTail.lt b0)
    have h4 : (queryT g L (0, false)).2 = (listGo L gBar (stepP L g (orT g L)) L.length (nameP L (needP L kwFrom (0, false))).2).2 := rfl
    rw [← h4]
    have h5 : L[(queryT g L (0, false)).2.1]? = some (L[(queryT g L (0, false)).2.1]'h3) := by simp
    rw [at_get h5] at h2
    have h6 := (ht.wf.last _ _ h5).1 (by unfold Tk.stops; rw [h2]; decide)
    have := ht.len
    exact Prod.ext (by simp only; omega) h1
  show queryP L' g (orT g L') (0, false) = _
  unfold queryP
  simp only
  rw [e1, e2, steps_lim ht g o e L.length L'.length _ (ht.toTail.le b2) (by omega) (by omega) (by have := ht.len; have := ht.len4; omega) hfin]
  rfl
end
end Go.Tb
/- Tokens behind a blank; tokens with wider white space. -/
namespace Go.Tb
open Go.Ab

theorem takeW_app {α : Type} {p : α → Bool} {x : α} (hx : p x = false) (l t : List α) : (l ++ x :: t).takeWhile p = l.takeWhile p := by
  induction l with
  | nil => rw [List.nil_append, List.takeWhile_cons, if_neg (by simp [hx])]; rfl
  | cons a l ih =>
    rw [List.cons_append, List.takeWhile_cons, List.takeWhile_cons, ih]
theorem dropW_app {α : Type} {p : α → Bool} {x : α} (hx : p x = false) (l t : List α) : (l ++ x :: t).dropWhile p = l.dropWhile p ++ x :: t := by
  induction l with
  | nil => rw [List.nil_append, List.dropWhile_cons, if_neg (by simp [hx])]; rfl
  | cons a l ih =>
    rw [List.cons_append, List.dropWhile_cons, List.dropWhile_cons, ih]
    split <;> rfl
theorem dropW_ne {α : Type} {p : α → Bool} {l : List α} (h : l.dropWhile p ≠ []) (t : List α) : (l ++ t).dropWhile p = l.dropWhile p ++ t ∧ (l ++ t).takeWhile p = l.takeWhile p := by
  induction l with
  | nil => exact absurd rfl h
  | cons a l ih =>
    rw [List.cons_append, List.dropWhile_cons, List.dropWhile_cons, List.takeWhile_cons, List.takeWhile_cons]
    rw [List.dropWhile_cons] at h
    by_cases q : p a = true
    · rw [if_pos q] at h
      rw [if_pos q, if_pos q, if_pos q, if_pos q, (ih h).1, (ih h).2]
      exact ⟨rfl, rfl⟩
    · rw [if_neg q, if_neg q, if_neg q, if_neg q]
      exact ⟨rfl, rfl⟩
theorem dropW_nil {α : Type} {p : α → Bool} {l : List α} (h : l.dropWhile p = []) (t : List α) : (l ++ t).dropWhile p = t.dropWhile p := by
  induction l with
  | nil => rfl
  | cons a l ih =>
    rw [List.dropWhile_cons] at h
    rw [List.cons_append, List.dropWhile_cons]
    by_cases q : p a = true
    · rw [if_pos q] at h
      rw [if_pos q, ih h]
    · rw [if_neg q] at h
      cases h
theorem lex_white {c : UInt8} (h : whiB c = true) (l : List UInt8) : lex (c :: l) = lex l := by
  rw [lex_eq (c :: l), lex_eq l, List.dropWhile_cons, if_pos h]
/-- a text that goes on with a blank -/
theorem lexA_app (c : UInt8) (r t : List UInt8) (h : (lexA c r).1.kind ≠ 1) : (lexA c (r ++ 32 :: t)).1.core = (lexA c r).1.core ∧ (lexA c (r ++ 32 :: t)).2 = (lexA c r).2 ++ 32 :: t := by
  unfold lexA at h ⊢
  by_cases h1 : letB c = true
  · simp only [h1, if_true]
    rw [← List.cons_append, takeW_app (by decide), dropW_app (by decide)]
    exact ⟨by first | rfl | trivial, by first | rfl | trivial⟩
  simp only [h1, if_false, Bool.false_eq_true] at h ⊢
  by_cases h2 : isDig c = true
  · simp only [h2, if_true] at h ⊢
    rw [← List.cons_append, takeW_app (by decide), dropW_app (by decide)]
    by_cases h3 : (numP (ofL ((c :: r).takeWhile isDig))).2 = true
    · simp only [h3, if_true]
      exact ⟨by first | rfl | trivial, by first | rfl | trivial⟩
    · rw [if_neg h3] at h; exact absurd rfl h
  simp only [h2, if_false, Bool.false_eq_true] at h ⊢
  by_cases h3 : c = 34
  · simp only [h3, if_true] at h ⊢
    by_cases h4 : (r.dropWhile txtB).head? = some 34
    · have hne : r.dropWhile txtB ≠ [] := fun e => by rw [e] at h4; cases h4
      obtain ⟨e1, e2⟩ := dropW_ne hne (32 :: t)
      obtain ⟨b, w, hb⟩ := List.exists_cons_of_ne_nil hne
      rw [e1, e2, hb]
      rw [hb, List.head?_cons] at h4
      simp only [List.head?_cons, List.cons_append, h4, if_true, List.tail_cons]
      exact ⟨by first | rfl | trivial, by first | rfl | trivial⟩
    · rw [if_neg h4] at h; exact absurd rfl h
  simp only [h3, if_false] at h ⊢
  by_cases h4 : r.head? = some 61 ∧ sgn2 c = true
  · obtain ⟨r', rfl⟩ : ∃ r', r = 61 :: r' := by
      cases r with
      | nil => simp at h4
      | cons a r' => simp at h4; exact ⟨r', by rw [h4.1]⟩
    rw [if_pos h4, if_pos ⟨rfl, h4.2⟩]
    exact ⟨by first | rfl | trivial, by first | rfl | trivial⟩
  · have h4' : ¬ ((r ++ 32 :: t).head? = some 61 ∧ sgn2 c = true) := fun ⟨e, f⟩ => by
      cases r with
      | nil => cases e
      | cons a r' => exact h4 ⟨e, f⟩
    rw [if_neg h4] at h
    rw [if_neg h4, if_neg h4']
    by_cases h5 : sgn1 c = true
    · rw [if_pos h5, if_pos h5]
      exact ⟨by first | rfl | trivial, by first | rfl | trivial⟩
    · rw [if_neg h5] at h; exact absurd rfl h
theorem lex_app (t : List UInt8) : ∀ (l : List UInt8), (∀ k ∈ lex l, k.kind ≠ 1) → (lex (l ++ 32 :: t)).map Tk.core = (lex l).dropLast.map Tk.core ++ (lex t).map Tk.core := by
  intro l
  induction hn : l.length using Nat.strongRecOn generalizing l with
  | _ n ih =>
    subst hn
    intro hk
    cases q : l.dropWhile whiB with
    | nil =>
      rw [lex_nil q, lex_eq (l ++ 32 :: t), dropW_nil q, ← lex_eq (32 :: t), lex_white (by decide)]
      rfl
    | cons c r =>
      have e : (l ++ 32 :: t).dropWhile whiB = c :: (r ++ 32 :: t) := by
        rw [(dropW_ne (by rw [q]; simp) _).1, q]
        rfl
      rw [lex_cons q] at hk ⊢
      rw [lex_cons e]
      have hk1 : (lexA c r).1.kind ≠ 1 := by
        by_cases h : (lexA c r).1.kind = 1
        · rw [if_pos h] at hk; exact hk _ (by simp)
        · exact h
      obtain ⟨e1, e2⟩ := lexA_app c r t hk1
      have e3 : (lexA c (r ++ 32 :: t)).1.kind = (lexA c r).1.kind := by have := congrArg Tk.kind e1; exact this
      rw [if_neg hk1] at hk ⊢
      rw [if_neg (by rw [e3]; exact hk1), e2]
      have hl : (lexA c r).2.length < l.length := by
        have h1 := dropWhile_len whiB l
        rw [q] at h1
        have h2 := lexA_len c r
        simp only [List.length_cons] at h1
        omega
      have i := ih _ hl (lexA c r).2 rfl (fun k hk' => hk k (by simp [hk']))
      have hne : lex (lexA c r).2 ≠ [] := by
        rw [lex_eq]
        split
        · simp
        · split <;> simp
      rw [List.map_cons, e1, i, List.dropLast_cons_of_ne_nil hne, List.map_cons]
      rfl

/-! ### wider white space -/
def wideL (l : List UInt8) : List UInt8 := l.flatMap fun b => if b = 32 then [32, 9, 13, 10] else [b]
/-- the tokens of the wider text, one by one -/
inductive Wider : List UInt8 → List Tk → List Tk → Prop
  | nil (l : List UInt8) : Wider l [] []
  | cons {l : List UInt8} {t t' : Tk} {a b : List Tk} (u : List UInt8) (hc : t'.core = t.core) (hu : u <:+ l) (hl : u.length = t.at_) (hl' : t'.at_ ≤ (wideL u).length + 2) (r : Wider l a b) : Wider l (t :: a) (t' :: b)
theorem Wider.up {l l' : List UInt8} {a b : List Tk} (h : Wider l a b) (hs : l <:+ l') : Wider l' a b := by
  induction h with
  | nil => exact .nil _
  | cons u hc hu hl hl' _ ih => exact .cons u hc (hu.trans hs) hl hl' ih
theorem Wider.get {l : List UInt8} {a b : List Tk} (h : Wider l a b) : b.map Tk.core = a.map Tk.core ∧ ∀ (i : Nat) t, a[i]? = some t → ∃ t', b[i]? = some t' ∧ t'.core = t.core ∧ ∃ u, u <:+ l ∧ u.length = t.at_ ∧ t'.at_ ≤ (wideL u).length + 2 := by
  induction h with
  | nil => exact ⟨rfl, fun i t h => by simp at h⟩
  | cons u hc hu hl hl' _ ih =>
    refine ⟨by rw [List.map_cons, List.map_cons, hc, ih.1], fun i t h => ?_⟩
    cases i with
    | zero =>
      simp only [List.getElem?_cons_zero, Option.some.injEq] at h
      subst h
      exact ⟨_, rfl, hc, u, hu, hl, hl'⟩
    | succ i => exact ih.2 i t (by simpa using h)
end Go.Tb
/- A valid expression's text with parentheses around every operator, and its tokens. -/
namespace Go.Tb
open Go.Ab

theorem bys_append (a b : ByteArray) : bys (a ++ b) = bys a ++ bys b := by unfold bys; simp [ByteArray.data_append]
/-- what a valid expression is -/
inductive Vx : Ex → Prop
  | const (v : Val) (h : constErr v = 0) : Vx (exK v)
  | field (s : ByteArray) (h : identB s = true) : Vx (exF s)
  | not_ (k : Ex) (h : Vx k) : Vx (mk1 3 k)
  | neg (k : Ex) (h : Vx k) : Vx (mk1 4 k)
  | bin (op : Int) (a b : Ex) (h5 : 5 ≤ op) (h15 : op ≤ 15) (ha : Vx a) (hb : Vx b) : Vx (mk2 op a b)
  | call1 (s : ByteArray) (k : Ex) (h : identB s = true) (hk : Vx k) : Vx (exC s [k])
  | call2 (s : ByteArray) (a b : Ex) (h : identB s = true) (ha : Vx a) (hb : Vx b) : Vx (exC s [a, b])
/-! ### its tokens -/
end Go.Tb
/- Regions that draw their order and hold one operation that turns the ghost (a call that lends, a store, an append): one walk of the text's order serves every order. -/
namespace Go.Ab
open Go.RowKit

/-! ### whatever the states are -/
section
variable {P : Program} {ops : Array Oper} {md : Region.Mode} {m : Nat} {S E : Type} (Y : Nat → E → S → Prop) (ef : Nat → E → S → S)

/-- what is listed waits for nothing that is not -/
def Closed (md : Region.Mode) (ops : Array Oper) (listed : Array Bool) : Prop :=
  ∀ j oj, ops[j]? = some oj → listed.getD j false = true → ∀ e ∈ oj.after, Region.binds md e = true → listed.getD e.on false = true
/-- operation j comes behind operation i, by whatever way -/
def reachB (md : Region.Mode) (ops : Array Oper) : Nat → Nat → Nat → Bool
  | 0, _, _ => false
  | k + 1, j, i => behindB md ops j i || (match ops[j]? with | some o => o.after.toList.any fun e => Region.binds md e && reachB md ops k e.on i | none => false)
theorem reach_listed {listed : Array Bool} (hc : Closed md ops listed) : ∀ (k j i : Nat), reachB md ops k j i = true → (∀ oj, ops[j]? = some oj → ∀ e ∈ oj.after, Region.binds md e = true → listed.getD e.on false = true) → listed.getD i false = true
  | 0, _, _, h, _ => by simp [reachB] at h
  | k + 1, j, i, h, hj => by
    simp only [reachB, Bool.or_eq_true] at h
    cases hoj : ops[j]? with
    | none =>
      rw [hoj] at h
      simp [behindB, hoj] at h
    | some oj =>
      rcases h with h | h
      · obtain ⟨e, he, hb, heq⟩ := behindB_spec hoj h
        rw [← heq]
        exact hj oj hoj e he hb
      · rw [hoj] at h
        obtain ⟨e, he, hb⟩ := List.any_eq_true.1 h
        simp only [Bool.and_eq_true] at hb
        have he' : e ∈ oj.after := by simpa using he
        have hl := hj oj hoj e he' hb.1
        exact reach_listed hc k e.on i hb.2 fun o ho e' he'' hb' => hc e.on o ho hl e' he'' hb'
/-- the last part waits for all of the first, and for what stands before it -/
def waitT (md : Region.Mode) (ops : Array Oper) (m : Nat) : Bool := (List.range ops.size).all fun j => decide (j < m) || (List.range j).all fun i => reachB md ops ops.size j i
theorem waitsT {j : Nat} (h : waitT md ops m = true) (hm : m ≤ j) {i : Nat} (hij : i < j) {listed : Array Bool} (hc : Closed md ops listed) (hj : j ∈ Region.ready md ops listed) : listed.getD i false = true := by
  obtain ⟨_, oj, hoj, hall⟩ := mem_ready.1 hj
  have hlt : j < ops.size := (Array.getElem?_eq_some_iff.1 hoj).1
  have h1 := List.all_eq_true.1 h j (by simpa using hlt)
  simp only [Bool.or_eq_true, decide_eq_true_eq] at h1
  have h2 := List.all_eq_true.1 (h1.resolve_left (by omega)) i (by simpa using hij)
  exact reach_listed hc _ j i h2 fun o ho e he hb => by rw [hoj] at ho; cases ho; exact hall e he hb
theorem Closed.add {listed : Array Bool} (hc : Closed md ops listed) {i : Nat} (hi : i ∈ Region.ready md ops listed) : Closed md ops (listed.setIfInBounds i true) := by
  intro j oj hoj hl e he hb
  obtain ⟨_, oi, hoi, hall⟩ := mem_ready.1 hi
  by_cases hji : i = j
  · subst hji
    rw [hoi] at hoj
    cases hoj
    exact getD_set_true (hall e he hb)
  · rw [getD_set_ne false hji] at hl
    exact getD_set_true (hc j oj hoj hl e he hb)

def wpG (m : Nat) (md : Region.Mode) (ops : Array Oper) (Q : S → Prop) : Nat → Array Bool → S → Prop
  | 0, listed, σ => Split m ops listed ∧ Q σ
  | fuel + 1, listed, σ => Region.ready md ops listed ≠ [] ∧ ∀ i ∈ Region.ready md ops listed, ∃ e, Y i e σ ∧ wpG m md ops Q fuel (listed.setIfInBounds i true) (ef i e σ)
/-- two operations may change places -/
def Swap (i j : Nat) : Prop := ∀ e e' σ, Y i e σ → Y j e' (ef i e σ) → Y j e' σ ∧ Y i e (ef j e' σ) ∧ ef j e' (ef i e σ) = ef i e (ef j e' σ)

variable {Y} {ef}
theorem wpG_first {Q : S → Prop} {i : Nat} {oi : Oper} {e : E} (hw : waitT md ops m = true) (him : i < m) (hi : ops[i]? = some oi) :
    ∀ (fuel : Nat) (listed : Array Bool) (σ : S), Closed md ops listed →
      (∀ j oj, ops[j]? = some oj → j ≠ i → j < m → listed.getD j true = false → (∀ e ∈ oj.after, Region.binds md e = true → e.on ≠ i) → Swap Y ef i j) →
      i ∈ Region.ready md ops listed → Y i e σ → wpG Y ef m md ops Q fuel (listed.setIfInBounds i true) (ef i e σ) → wpG Y ef m md ops Q (fuel + 1) listed σ := by
  have unl : ∀ {listed : Array Bool}, i ∈ Region.ready md ops listed → listed.getD i false = false := fun hr => unlisted (mem_ready.1 hr).1
  intro fuel
  induction fuel with
  | zero =>
    intro listed σ hc _ hr hy H
    refine ⟨fun h => (by rw [h] at hr; cases hr), fun j hj => ?_⟩
    by_cases hji : j = i
    · subst hji; exact ⟨e, hy, H⟩
    · exfalso
      obtain ⟨⟨_, h1, h2⟩, _⟩ := H
      have hj1 := (mem_ready.1 hj).1
      by_cases hjm : j < m
      · have := h1 j hjm
        rw [getD_set_ne false (Ne.symm hji)] at this
        rw [unlisted hj1] at this
        cases this
      · have := waitsT hw (by omega) (show i < j by omega) hc hj
        rw [unl hr] at this
        cases this
  | succ fuel ih =>
    intro listed σ hc hfree hr hy H
    refine ⟨fun h => (by rw [h] at hr; cases hr), fun j hj => ?_⟩
    by_cases hji : j = i
    · subst hji; exact ⟨e, hy, H⟩
    · obtain ⟨e', hy', H'⟩ := H.2 j (ready_mono hj hji)
      obtain ⟨hjun, oj, hoj, hall⟩ := mem_ready.1 hj
      have hnot : ∀ e ∈ oj.after, Region.binds md e = true → e.on ≠ i := fun e he hb heq => by
        have h1 := hall e he hb
        rw [heq, unl hr] at h1
        cases h1
      have hjm : j < m := by
        rcases Nat.lt_or_ge j m with h | h
        · exact h
        · have := waitsT hw h (show i < j by omega) hc hj
          rw [unl hr] at this
          cases this
      obtain ⟨s1, s2, s3⟩ := hfree j oj hoj hji hjm hjun hnot e e' σ hy hy'
      have hfree' : ∀ k ok, ops[k]? = some ok → k ≠ i → k < m → (listed.setIfInBounds j true).getD k true = false → (∀ e ∈ ok.after, Region.binds md e = true → e.on ≠ i) → Swap Y ef i k := fun k ok hk hki hkm hun hno => by
        refine hfree k ok hk hki hkm ?_ hno
        by_cases hjk : j = k
        · subst hjk; exact hjun
        · rw [getD_set_ne true hjk] at hun; exact hun
      refine ⟨e', s1, ih (listed.setIfInBounds j true) _ (hc.add hj) hfree' (ready_mono hr (Ne.symm hji)) s2 ?_⟩
      rw [Array.setIfInBounds_comm _ _ hji, ← s3]
      exact H'

/-- the walk in the text's order -/
def ceG (Y : Nat → E → S → Prop) (ef : Nat → E → S → S) (Q : S → Prop) : List Oper → Nat → S → Prop
  | [], _, σ => Q σ
  | _ :: rest, i, σ => ∃ e, Y i e σ ∧ ceG Y ef Q rest (i + 1) (ef i e σ)
theorem wpG_lex {Q : S → Prop} (hw : waitT md ops m = true)
    (hsw : ∀ i j oi oj, ops[i]? = some oi → ops[j]? = some oj → i ≠ j → i < m → j < m → oi.apart ops oj = true → (∀ e ∈ oj.after, Region.binds md e = true → e.on ≠ i) → Swap Y ef i j) :
    ∀ (l : List Oper) (k : Nat) (listed : Array Bool) (σ : S), k + l.length = m → (∀ j, j < l.length → l[j]? = ops[k + j]?) → Closed md ops listed →
    listed.size = ops.size → (∀ j, j < k → listed.getD j false = true) → (∀ j, k ≤ j → j < ops.size → listed.getD j true = false) →
    lexE md ops l.length k listed = true → ceG Y ef Q l k σ → wpG Y ef m md ops Q l.length listed σ
  | [], k, listed, σ, hk, _, _, hs, h1, h2, _, h => ⟨⟨hs, fun j hj => h1 j (by simp at hk; omega), fun j hj hj' => h2 j (by simp at hk; omega) hj'⟩, h⟩
  | o :: l, k, listed, σ, hk, hl, hc, hs, h1, h2, hB, h => by
    have h0 : ops[k]? = some o := by simpa using (hl 0 (by simp)).symm
    have hks : k < ops.size := (Array.getElem?_eq_some_iff.1 h0).1
    simp only [List.length_cons, lexE, Bool.and_eq_true] at hB
    obtain ⟨⟨hr, hf⟩, hB'⟩ := hB
    have hr' : k ∈ Region.ready md ops listed := by simpa using hr
    obtain ⟨e, hy, hK⟩ := h
    have hkm : k < m := by simp at hk; omega
    refine wpG_first hw hkm h0 l.length listed σ hc (fun j oj hoj hjk hjm hun hno => hsw k j o oj h0 hoj (Ne.symm hjk) hkm hjm (Region.free_spec h0 hf j oj hoj hjk hun hno) hno) hr' hy
      (wpG_lex hw hsw l (k + 1) _ _ (by simp at hk; omega) (fun j hj => by have := hl (j + 1) (by simpa using hj); simpa [Nat.add_assoc, Nat.add_comm 1 j] using this) (hc.add hr') (by simpa using hs) (fun j hj => ?_) (fun j hj hj' => ?_) hB' hK)
    · rcases Nat.lt_succ_iff_lt_or_eq.1 hj with hlt | rfl
      · exact getD_set_true (h1 j hlt)
      · simp [hs, hks]
    · rw [getD_set_ne true (by omega)]
      exact h2 j (by omega) hj'
theorem wpAny_of_G {Sm : S → Act → World → Prop} {Q : S → Prop} {Q' : Exit → Act → World → Prop} {t : Nat}
    (hS : ∀ i e σ act w K, Sm σ act w → Y i e σ → (∀ act w, Sm (ef i e σ) act w → K act w) → wpOp P ops Q' i K act w)
    (hQ : ∀ listed σ act w, Sm σ act w → Closed md ops listed → Split m ops listed → Q σ → wpAny P md ops Q' t listed act w) :
    ∀ (fuel : Nat) (listed : Array Bool) (σ : S) (act : Act) (w : World), Sm σ act w → Closed md ops listed → wpG Y ef m md ops Q fuel listed σ → wpAny P md ops Q' (fuel + t) listed act w
  | 0, _, _, _, _, hs, hc, h => by rw [Nat.zero_add]; exact hQ _ _ _ _ hs hc h.1 h.2
  | fuel + 1, _, _, _, _, hs, hc, h => by
    rw [Nat.add_right_comm]
    refine ⟨fun h0 => absurd h0 h.1, fun i hi => ?_⟩
    obtain ⟨e, hy, hK⟩ := h.2 i hi
    exact hS i e _ _ _ _ hs hy fun act w hs' => wpAny_of_G hS hQ fuel _ _ _ _ hs' (hc.add hi) hK
/-- the last part, one by one -/
theorem wpAny_tailT {Q' : Exit → Act → World → Prop} (hw : waitT md ops m = true) (hrd : ∀ k, m ≤ k → ∀ o, ops[k]? = some o → ∀ e ∈ o.after, Region.binds md e = true → e.on < k) :
    ∀ (l : List Oper) (k : Nat) (listed : Array Bool) (act : Act) (w : World), m ≤ k → k + l.length = ops.size → (∀ j, l[j]? = ops[k + j]?) → Closed md ops listed → listed.size = ops.size → (∀ j, j < k → listed.getD j false = true) → (∀ j, k ≤ j → j < ops.size → listed.getD j true = false) →
      wpL P ops Q' l act w → wpAny P md ops Q' l.length listed act w
  | [], k, listed, act, w, hm, hk, _, _, hs, h1, h2, h => by
    refine ⟨?_, h⟩
    refine List.eq_nil_iff_forall_not_mem.2 fun j hj => ?_
    obtain ⟨h3, oj, hoj, _⟩ := mem_ready.1 hj
    have hlt := (Array.getElem?_eq_some_iff.1 hoj).1
    have := h1 j (by simp at hk; omega)
    rw [unlisted h3] at this
    cases this
  | o :: l, k, listed, act, w, hm, hk, hl, hc, hs, h1, h2, h => by
    have h0 : ops[k]? = some o := by simpa using (hl 0).symm
    have hks : k < ops.size := (Array.getElem?_eq_some_iff.1 h0).1
    have hready : k ∈ Region.ready md ops listed := mem_ready.2 ⟨h2 k (Nat.le_refl _) hks, o, h0, fun e he hb => h1 _ (hrd k hm o h0 e he hb)⟩
    refine ⟨fun hn => (by rw [hn] at hready; cases hready), fun i hi => ?_⟩
    have hik : i = k := by
      obtain ⟨h3, oi, hoi, _⟩ := mem_ready.1 hi
      rcases Nat.lt_trichotomy i k with hlt | he | hgt
      · have := h1 i hlt; rw [unlisted h3] at this; cases this
      · exact he
      · have := waitsT hw (by omega) hgt hc hi
        rw [unlisted (h2 k (Nat.le_refl _) hks)] at this
        cases this
    subst hik
    have ih := fun act w => wpAny_tailT (Q' := Q') hw hrd l (i + 1) (listed.setIfInBounds i true) act w (by omega) (by simp at hk; omega) (fun j => by have := hl (j + 1); simpa [Nat.add_assoc, Nat.add_comm 1 j] using this) (hc.add hready) (by simpa using hs)
      (fun j hj => by
        rcases Nat.lt_succ_iff_lt_or_eq.1 hj with hlt | rfl
        · exact getD_set_true (h1 j hlt)
        · simp [hs, hks]) (fun j hj hj' => by rw [getD_set_ne true (by omega)]; exact h2 j (by omega) hj')
    simp only [wpL] at h
    unfold wpOp
    simp only [h0]
    split
    · rename_i hw'
      rw [if_pos hw'] at h
      exact .inl (Oper.wp_mono ih h)
    · rename_i hw'
      rw [if_neg hw'] at h
      exact ih _ _ h
end

/-! ### one operation that turns the ghost -/
theorem Oper.wp_only {P : Program} {o : Oper} {a : Act} {w : World} {K K' : Act → World → Prop} {Q Q' : Exit → Act → World → Prop} (hp : ∀ c a w, ¬ Q (.panic c) a w) (hL : ¬ LetsOut Q) (hK : ∀ a w, K a w → K' a w) (h : o.wp P a w K Q) : o.wp P a w K' Q' := by
  unfold Oper.wp at *
  generalize (execOp a.eval o).run P w = r at *
  cases r with
  | ok n w' =>
    cases n <;> simp only [Oper.upon] at h ⊢ <;> first
      | exact hK _ _ h
      | exact Calls.mono h (fun e w'' he => by
          cases e with
          | returned v => exact hK _ _ he
          | panicked c => exact absurd he (hp _ _ _)
          | outgrown => exact absurd he hL)
      | exact Rows.mono h (fun _ _ he => hK _ _ he)
      | exact h
  | halt x w' =>
    cases x <;> simp only [Oper.upon] at h ⊢ <;> first
      | exact absurd h (hp _ _ _)
      | exact h
end Go.Ab
/- The rule for regions that draw their order and hold one operation that turns the ghost. -/
namespace Go.Ab
open Go.RowKit

/-- the boxes, the growing slices and the names before and behind the operation -/
structure Par where
  bx0 : List (Nat × List A)
  bx1 : List (Nat × List A)
  lv0 : List Nat
  lv1 : List Nat
  gen0 : Nat
  gen1 : Nat

section
variable {P : Program} {C : Ctx} {n : Nat} (S : Par) {ops : Array Oper} (c : Nat)
abbrev SC := Fr' × Bool
def SmC (C : Ctx) (n : Nat) (S : Par) (σ : SC) (act : Act) (w : World) : Prop :=
  act.defers = [] ∧ ∃ G, if σ.2 = true then SimF C n S.bx1 S.lv1 S.gen1 σ.1 G act.tmps w else SimF C n S.bx0 S.lv0 S.gen0 σ.1 G act.tmps w
def XEv (P : Program) (C : Ctx) (n : Nat) (S : Par) (ops : Array Oper) (o : Oper) (a : A) (φ : Fr') : Prop :=
  o.guard = none ∧ ∃ p, (∀ t x, look p t = some x → φ t = some x ∧ t ∈ o.looksAt ops) ∧
    ∀ g, WO P C n ops (fun e st => e = .normal ∧ st = St.put ⟨p ++ g, S.bx1, S.lv1, S.gen1⟩ o.dst a) [o] ⟨p ++ g, S.bx0, S.lv0, S.gen0⟩
def YC (P : Program) (C : Ctx) (n : Nat) (S : Par) (ops : Array Oper) (c : Nat) (i : Nat) (a : A) (σ : SC) : Prop :=
  ∃ o, ops[i]? = some o ∧ dstOK n o.dst = true ∧ ((i = c ∧ σ.2 = false ∧ XEv P C n S ops o a σ.1) ∨
    (i ≠ c ∧ (behindB .any ops i c = false → YA P C n S.bx0 S.lv0 S.gen0 ops o a σ.1) ∧ (behindB .any ops c i = false → YA P C n S.bx1 S.lv1 S.gen1 ops o a σ.1) ∧
      (σ.2 = false → behindB .any ops i c = false) ∧ (σ.2 = true → behindB .any ops c i = false)))
def efC (ops : Array Oper) (c : Nat) (i : Nat) (a : A) (σ : SC) : SC :=
  match ops[i]? with
  | none => σ
  | some o => (putF σ.1 o.dst a, if i = c then true else σ.2)

variable {S} {c}
theorem XEv_put {o : Oper} {a : A} {φ : Fr'} {dst : Option Nat} {x : A} (hd : ∀ d, dst = some d → d ∉ o.looksAt ops) : XEv P C n S ops o a (putF φ dst x) ↔ XEv P C n S ops o a φ := by
  constructor
  · rintro ⟨h0, p, h1, h2⟩
    exact ⟨h0, p, fun t y hy => ⟨(putF_key hd (h1 t y hy).2).symm.trans (h1 t y hy).1, (h1 t y hy).2⟩, h2⟩
  · rintro ⟨h0, p, h1, h2⟩
    exact ⟨h0, p, fun t y hy => ⟨(putF_key hd (h1 t y hy).2).trans (h1 t y hy).1, (h1 t y hy).2⟩, h2⟩
theorem not_behind {j i : Nat} {oj : Oper} (hj : ops[j]? = some oj) (h : ∀ e ∈ oj.after, Region.binds .any e = true → e.on ≠ i) : behindB .any ops j i = false := by
  cases q : behindB .any ops j i with
  | false => rfl
  | true =>
    obtain ⟨e, he, hb, heq⟩ := behindB_spec hj q
    exact absurd heq (h e he hb)
theorem efC_at {i : Nat} {o : Oper} (h : ops[i]? = some o) (a : A) (σ : SC) : efC ops c i a σ = (putF σ.1 o.dst a, if i = c then true else σ.2) := by unfold efC; rw [h]
theorem swapC {i j : Nat} {oi oj : Oper} (hi : ops[i]? = some oi) (hj : ops[j]? = some oj) (hij : i ≠ j) (hap : oi.apart ops oj = true) (hno : ∀ e ∈ oj.after, Region.binds .any e = true → e.on ≠ i) :
    Swap (YC P C n S ops c) (efC ops c) i j := by
  obtain ⟨a1, a2, a3⟩ := Oper.apart_spec hap
  have hnb := not_behind hj hno
  rintro a b ⟨φ, ph⟩ ⟨oi', hi', di, hyi⟩ ⟨oj', hj', dj, hyj⟩
  rw [hi] at hi'
  cases hi'
  rw [hj] at hj'
  cases hj'
  rw [efC_at hi] at hyj
  rw [efC_at hi, efC_at hj, efC_at hj, efC_at hi]
  have hcomm : putF (putF φ oi.dst a) oj.dst b = putF (putF φ oj.dst b) oi.dst a := putF_comm φ a b a2
  simp only at hyi hyj ⊢
  rcases hyi with ⟨rfl, hph, hx⟩ | ⟨hic, y0, y1, y2, y3⟩
  · -- the operation itself stands first
    subst hph
    rcases hyj with ⟨e, _⟩ | ⟨hjc, z0, z1, z2, z3⟩
    · exact absurd e.symm hij
    · refine ⟨⟨oj, hj, dj, .inr ⟨hjc, fun h => (YA_put a1).1 (z0 h), fun h => (YA_put a1).1 (z1 h), fun _ => hnb, fun h => by cases h⟩⟩, ⟨oi, hi, di, .inl ⟨rfl, ?_, (XEv_put a3).2 hx⟩⟩, ?_⟩
      · rw [if_neg hjc]
      · rw [if_pos rfl, if_neg hjc, hcomm]
        simp
  · rcases hyj with ⟨rfl, hph, hx⟩ | ⟨hjc, z0, z1, z2, z3⟩
    · rw [if_neg hic] at hph
      subst hph
      refine ⟨⟨oj, hj, dj, .inl ⟨rfl, rfl, (XEv_put a1).1 hx⟩⟩, ⟨oi, hi, di, .inr ⟨hic, fun h => (YA_put a3).2 (y0 h), fun h => (YA_put a3).2 (y1 h), fun h => ?_, fun _ => hnb⟩⟩, ?_⟩
      · rw [if_pos rfl] at h; cases h
      · rw [if_pos rfl, if_neg hic, hcomm]
        simp
    · rw [if_neg hic] at z2 z3
      refine ⟨⟨oj, hj, dj, .inr ⟨hjc, fun h => (YA_put a1).1 (z0 h), fun h => (YA_put a1).1 (z1 h), z2, z3⟩⟩, ⟨oi, hi, di, .inr ⟨hic, fun h => (YA_put a3).2 (y0 h), fun h => (YA_put a3).2 (y1 h), ?_, ?_⟩⟩, ?_⟩
      · rw [if_neg hjc]; exact y2
      · rw [if_neg hjc]; exact y3
      · rw [if_neg hic, if_neg hjc, hcomm, if_neg hic]

/-- the frame as a list -/
def fallF (n : Nat) (φ : Fr') : List (Nat × A) := (List.range n).filterMap fun t => (φ t).map fun a => (t, a)
theorem look_fall (φ : Fr') : ∀ (l : List Nat) (t : Nat), look (l.filterMap fun t => (φ t).map fun a => (t, a)) t = if t ∈ l then φ t else none
  | [], t => rfl
  | s :: l, t => by
    rw [List.filterMap_cons]
    cases hs : φ s with
    | none =>
      simp only [Option.map_none]
      rw [look_fall φ l t]
      by_cases e : t = s
      · subst e; simp [hs]
      · simp [e]
    | some a =>
      simp only [Option.map_some, look_cons]
      by_cases e : s = t
      · subst e; simp [hs]
      · rw [if_neg e, look_fall φ l t]
        simp [Ne.symm e]
theorem look_app (p g : List (Nat × A)) (t : Nat) : look (p ++ g) t = match look p t with | some a => some a | none => look g t := by
  induction p with
  | nil => rfl
  | cons x p ih =>
    obtain ⟨s, a⟩ := x
    rw [List.cons_append, look_cons, look_cons]
    split
    · rfl
    · exact ih
theorem soundC (i : Nat) (a : A) (σ : SC) (act : Act) (w : World) (K : Act → World → Prop) {Q' : Exit → Act → World → Prop} (hs : SmC C n S σ act w) (hy : YC P C n S ops c i a σ) (hK : ∀ act w, SmC C n S (efC ops c i a σ) act w → K act w) : wpOp P ops Q' i K act w := by
  obtain ⟨tmps, dfs⟩ := act
  obtain ⟨rfl, G, hs⟩ := hs
  obtain ⟨φ, ph⟩ := σ
  obtain ⟨o, ho, hd, hy⟩ := hy
  rw [efC_at ho] at hK
  simp only at hs hy hK
  unfold wpOp
  simp only [ho]
  rcases hy with ⟨rfl, rfl, hg, p, hp, hx⟩ | ⟨hic, y0, y1, y2, y3⟩
  · simp only [Bool.false_eq_true, if_false] at hs
    have hw : Region.wanted o (yielded ops tmps) = true := by simp [Region.wanted, hg]
    rw [hw, if_pos rfl]
    refine .inl ?_
    have hlt : ∀ t x, φ t = some x → t < n := fun t x hx => by
      obtain ⟨v, h1, _⟩ := hs.2 t x hx
      have := (Array.getElem?_eq_some_iff.1 h1).1
      rw [hs.1.size] at this
      exact this
    have hlook : ∀ t, look (p ++ fallF n φ) t = φ t := fun t => by
      rw [look_app]
      cases q : look p t with
      | some x => exact (hp t x q).1.symm
      | none =>
        simp only
        unfold fallF
        rw [look_fall]
        cases e : φ t with
        | none => split <;> rfl
        | some x => rw [if_pos (List.mem_range.2 (hlt t x e))]
    have hs' := hs.toG (f := p ++ fallF n φ) fun t x hx => by rw [← hlook]; exact hx
    have h := hx (fallF n φ) tmps w ⟨G, hs'⟩
    simp only [wpL, hw, if_true] at h
    refine Oper.wp_only (fun c a w hq => ?_) (fun hl => ?_) (fun act2 w2 hq => ?_) h
    · obtain ⟨_, st', _, he, _⟩ := hq
      cases he
    · obtain ⟨_, _, hq⟩ := hl
      obtain ⟨_, st', _, he, _⟩ := hq
      cases he
    · obtain ⟨hdf, st', ⟨G', hs2⟩, _, rfl⟩ := hq
      refine hK act2 w2 ⟨hdf, G', ?_⟩
      simp only [if_true]
      show SimF C n S.bx1 S.lv1 S.gen1 (putF φ o.dst a) G' act2.tmps w2
      cases hdst : o.dst with
      | none =>
        rw [hdst] at hs2
        refine ⟨{ hs2 with frame := fun t a ha => by simp [look] at ha }, fun t x hx => hs2.frame t x ?_⟩
        show look (p ++ fallF n φ) t = some x
        rw [hlook]
        exact hx
      | some d =>
        rw [hdst] at hs2
        refine ⟨{ hs2 with frame := fun t a ha => by simp [look] at ha }, fun t x hx => hs2.frame t x ?_⟩
        show look ((d, a) :: (p ++ fallF n φ)) t = some x
        rw [look_cons]
        simp only [putF] at hx
        by_cases e : t = d
        · subst e
          rw [if_pos rfl] at hx ⊢
          exact hx
        · rw [if_neg e] at hx
          rw [if_neg (Ne.symm e), hlook]
          exact hx
  · rw [if_neg hic] at hK
    have key : ∀ {bx : List (Nat × List A)} {lv : List Nat} {gen : Nat}, SimF C n bx lv gen φ G tmps w → YA P C n bx lv gen ops o a φ → (∀ tmps w, SimF C n bx lv gen (putF φ o.dst a) G tmps w → K ⟨tmps, []⟩ w) →
        (if Region.wanted o (yielded ops tmps) = true then o.wp P ⟨tmps, []⟩ w K Q' ∨ (o.asks P ⟨tmps, []⟩ w ∧ LetsOut Q') else K (Act.put ⟨tmps, []⟩ o.dst undef) w) := by
      intro bx lv gen hsF hya hk
      obtain ⟨_, ⟨hw, f, hf, hp⟩ | ⟨hw, rfl⟩⟩ := hya
      · rw [wanted_of hsF hw]
        simp only [if_true]
        refine .inl ?_
        have hg : Gives P o ⟨tmps, []⟩ w fun v w' => Below w.heap.size w w' ∧ Rep (enOf C G gen w') v a := hp G tmps w (hsF.toG fun t x hx => (hf t x hx).1)
        refine hg.wp fun v w' ⟨hb, hr⟩ => ?_
        rw [Act.put_eq]
        exact hk _ _ (hsF.step hb hd hr)
      · rw [wanted_of hsF hw]
        simp only [Bool.false_eq_true, if_false]
        rw [Act.put_eq]
        exact hk _ _ (hsF.step (Below.refl _ _) hd (.tup #[] [] rfl (by simp)))
    cases ph with
    | false =>
      simp only [Bool.false_eq_true, if_false] at hs
      exact key hs (y0 (y2 rfl)) fun tmps w h => hK _ _ ⟨rfl, G, by simpa using h⟩
    | true =>
      simp only [if_true] at hs
      exact key hs (y1 (y3 rfl)) fun tmps w h => hK _ _ ⟨rfl, G, by simpa using h⟩

/-- the walk of such a region, over frames that are lists -/
def CC (P : Program) (C : Ctx) (n : Nat) (S : Par) (ops : Array Oper) (c : Nat) (Q : St → Prop) (l : List Oper) (i : Nat) (f : List (Nat × A)) (ph : Bool) : Prop :=
  ceG (YC P C n S ops c) (efC ops c) (fun σ => ∃ f', (∀ t, look f' t = σ.1 t) ∧ σ.2 = true ∧ Q ⟨f', S.bx1, S.lv1, S.gen1⟩) l i (look f, ph)
def regionOKC (m : Nat) (ops : Array Oper) : Bool := Nat.ble m ops.size && waitT .any ops m && foreB .any ops m && lexE .any ops m 0 (Array.replicate ops.size false)

theorem W.regionC (T : Tab P) {id : Nat} {l l1 l2 : List Oper} {f : List (Nat × A)} {bx bx1 : List (Nat × List A)} {lv lv1 : List Nat} {gen gen1 : Nat} {Q : Exit → St → Prop} (m c : Nat) (hB : regionOKC m l.toArray = true) (h1 : l.take m = l1) (h2 : l.drop m = l2)
    (h : CC P C n ⟨bx, bx1, lv, lv1, gen, gen1⟩ l.toArray c (WO P C n l.toArray Q l2) l1 0 f false) : W P C n (.region id l.toArray true) Q ⟨f, bx, lv, gen⟩ := by
  subst h1; subst h2
  intro tmps w ⟨G, hs⟩
  simp only [regionOKC, Bool.and_eq_true] at hB
  obtain ⟨⟨⟨hm, hw⟩, hfore⟩, hlex⟩ := hB
  have hm : m ≤ l.length := by simpa using Nat.le_of_ble_eq_true hm
  have hb : Below w.heap.size w { w with drawn := w.drawn + 1 } := (Below.refl _ w).drew
  have hs' : SimF C n bx lv gen (look f) G tmps { w with drawn := w.drawn + 1 } := SimF.ofG (hs.evolve hb).2
  have hlen : (l.take m).length = m := by simp; omega
  refine wp_region_any T.mixed ?_
  have hsz : l.toArray.size = (l.take m).length + (l.drop m).length := by simp; omega
  rw [hsz]
  have hcl : Closed .any l.toArray (Array.replicate ((l.take m).length + (l.drop m).length) false) := fun j oj _ hl _ _ _ => by
    by_cases q : j < (l.take m).length + (l.drop m).length
    · simp only [Array.getD_eq_getD_getElem?, Array.getElem?_replicate] at hl
      rw [if_pos q] at hl
      cases hl
    · simp only [Array.getD_eq_getD_getElem?, Array.getElem?_replicate] at hl
      rw [if_neg q] at hl
      cases hl
  refine wpAny_of_G (m := m) (Sm := SmC C n ⟨bx, bx1, lv, lv1, gen, gen1⟩) (Y := YC P C n ⟨bx, bx1, lv, lv1, gen, gen1⟩ l.toArray c) (ef := efC l.toArray c) (Q := fun σ => ∃ f', (∀ t, look f' t = σ.1 t) ∧ σ.2 = true ∧ WO P C n l.toArray Q (l.drop m) ⟨f', bx1, lv1, gen1⟩)
    (fun i e σ act w K hs hy hk => soundC i e σ act w K hs hy hk) (fun listed σ act w hs hc hsp ⟨f', e1, e2, hq⟩ => ?_) _ _ (look f, false) ⟨tmps, []⟩ _ ⟨rfl, G, by simpa using hs'⟩ hcl ?_
  · obtain ⟨tmps, dfs⟩ := act
    obtain ⟨rfl, G, hs⟩ := hs
    rw [e2] at hs
    simp only [if_true] at hs
    refine wpAny_tailT hw (foreB_spec hfore) (l.drop m) m listed ⟨tmps, []⟩ w (Nat.le_refl _) (by simp; omega) (fun j => by simp [List.getElem?_drop]) hc hsp.1 hsp.2.1 hsp.2.2 ?_
    exact hq tmps w ⟨G, hs.toG (fun t a ha => by rw [← e1]; exact ha)⟩
  · refine wpG_lex hw (fun i j oi oj hi hj hij him hjm hap hno => swapC hi hj hij hap hno) (l.take m) 0 _ _ (by rw [hlen]; omega) (fun j hj => ?_) hcl (by simp; omega) (fun j hj => by omega) (fun j _ hj => ?_) (by rw [hlen]; rw [hsz, hlen] at hlex; exact hlex) h
    · rw [hlen] at hj
      rw [Nat.zero_add]
      simp [List.getElem?_take, hj]
    · have hj' : j < l.length := by simpa using hj
      have e : min m l.length + (l.length - m) = l.length := by omega
      simp [e, hj']

variable {op : Op} {ty : TypeId} {pos : String} {af : Array Edge} {a : A} {d i : Nat} {rest : List Oper} {f : List (Nat × A)} {Q : St → Prop} {o : Oper} {ph : Bool}
theorem CC.nil_ (h : Q ⟨f, S.bx1, S.lv1, S.gen1⟩) : CC P C n S ops c Q [] i f true := ⟨f, fun _ => rfl, rfl, h⟩
theorem YA.of_pu {bx : List (Nat × List A)} {lv : List Nat} {gen : Nat} (hp : Pu P C n ⟨restr f (slotsOf op), bx, lv, gen⟩ ⟨some d, op, ty, pos, af, none⟩ a) (hd : Nat.blt d n = true) : YA P C n bx lv gen ops ⟨some d, op, ty, pos, af, none⟩ a (look f) :=
  ⟨hd, .inl ⟨rfl, _, fun t x hx => by
    obtain ⟨h1, h2⟩ := restr_look hx
    exact ⟨h1, List.mem_append.2 (.inl h2)⟩, hp⟩⟩
/-- an operation that may come before or behind -/
theorem ccPu_ (h1 : Pu P C n ⟨restr f (slotsOf op), S.bx1, S.lv1, S.gen1⟩ ⟨some d, op, ty, pos, af, none⟩ a) (h0 : Pu P C n ⟨restr f (slotsOf op), S.bx0, S.lv0, S.gen0⟩ ⟨some d, op, ty, pos, af, none⟩ a)
    (hi : ops[i]? = some ⟨some d, op, ty, pos, af, none⟩) (hc : Nat.beq i c = false) (b0 : behindB .any ops i c = false) (b1 : behindB .any ops c i = false) (hd : Nat.blt d n = true)
    (h : CC P C n S ops c Q rest (i + 1) ((d, a) :: f) ph) : CC P C n S ops c Q (⟨some d, op, ty, pos, af, none⟩ :: rest) i f ph := by
  have hic : i ≠ c := fun e => by subst e; simp at hc
  refine ⟨a, ⟨_, hi, hd, .inr ⟨hic, fun _ => YA.of_pu h0 hd, fun _ => YA.of_pu h1 hd, fun _ => b0, fun _ => b1⟩⟩, ?_⟩
  rw [efC_at hi]
  simp only [if_neg hic]
  unfold CC at h
  rw [look_put] at h
  exact h
/-- one that comes before -/
theorem ccPu0_ (h0 : Pu P C n ⟨restr f (slotsOf op), S.bx0, S.lv0, S.gen0⟩ ⟨some d, op, ty, pos, af, none⟩ a)
    (hi : ops[i]? = some ⟨some d, op, ty, pos, af, none⟩) (hc : Nat.beq i c = false) (b0 : behindB .any ops i c = false) (b1 : behindB .any ops c i = true) (hd : Nat.blt d n = true)
    (h : CC P C n S ops c Q rest (i + 1) ((d, a) :: f) false) : CC P C n S ops c Q (⟨some d, op, ty, pos, af, none⟩ :: rest) i f false := by
  have hic : i ≠ c := fun e => by subst e; simp at hc
  refine ⟨a, ⟨_, hi, hd, .inr ⟨hic, fun _ => YA.of_pu h0 hd, (fun h => by rw [b1] at h; cases h), fun _ => b0, fun h => by cases h⟩⟩, ?_⟩
  rw [efC_at hi]
  simp only [if_neg hic]
  unfold CC at h
  rw [look_put] at h
  exact h
/-- one that comes behind -/
theorem ccPu1_ (h1 : Pu P C n ⟨restr f (slotsOf op), S.bx1, S.lv1, S.gen1⟩ ⟨some d, op, ty, pos, af, none⟩ a)
    (hi : ops[i]? = some ⟨some d, op, ty, pos, af, none⟩) (hc : Nat.beq i c = false) (b0 : behindB .any ops i c = true) (b1 : behindB .any ops c i = false) (hd : Nat.blt d n = true)
    (h : CC P C n S ops c Q rest (i + 1) ((d, a) :: f) true) : CC P C n S ops c Q (⟨some d, op, ty, pos, af, none⟩ :: rest) i f true := by
  have hic : i ≠ c := fun e => by subst e; simp at hc
  refine ⟨a, ⟨_, hi, hd, .inr ⟨hic, (fun h => by rw [b0] at h; cases h), fun _ => YA.of_pu h1 hd, (fun h => by cases h), fun _ => b1⟩⟩, ?_⟩
  rw [efC_at hi]
  simp only [if_neg hic]
  unfold CC at h
  rw [look_put] at h
  exact h
/-- the operation itself, with a result -/
theorem ccX_ (hx : ∀ g, WO P C n ops (fun e st => e = .normal ∧ st = ⟨(d, a) :: (restr f (slotsOf op) ++ g), S.bx1, S.lv1, S.gen1⟩) [⟨some d, op, ty, pos, af, none⟩] ⟨restr f (slotsOf op) ++ g, S.bx0, S.lv0, S.gen0⟩)
    (hi : ops[i]? = some ⟨some d, op, ty, pos, af, none⟩) (hc : Nat.beq i c = true) (hd : Nat.blt d n = true) (h : CC P C n S ops c Q rest (i + 1) ((d, a) :: f) true) : CC P C n S ops c Q (⟨some d, op, ty, pos, af, none⟩ :: rest) i f false := by
  have hic : i = c := Nat.eq_of_beq_eq_true hc
  refine ⟨a, ⟨_, hi, hd, .inl ⟨hic, rfl, rfl, restr f (slotsOf op), fun t x hx => ?_, fun g => hx g⟩⟩, ?_⟩
  · obtain ⟨h1, h2⟩ := restr_look hx
    exact ⟨h1, List.mem_append.2 (.inl h2)⟩
  · rw [efC_at hi]
    simp only [if_pos hic]
    unfold CC at h
    rw [look_put] at h
    exact h
/-- the operation itself, without -/
theorem ccX0_ (hx : ∀ g, WO P C n ops (fun e st => e = .normal ∧ st = ⟨restr f (slotsOf op) ++ g, S.bx1, S.lv1, S.gen1⟩) [⟨none, op, ty, pos, af, none⟩] ⟨restr f (slotsOf op) ++ g, S.bx0, S.lv0, S.gen0⟩)
    (hi : ops[i]? = some ⟨none, op, ty, pos, af, none⟩) (hc : Nat.beq i c = true) (h : CC P C n S ops c Q rest (i + 1) f true) : CC P C n S ops c Q (⟨none, op, ty, pos, af, none⟩ :: rest) i f false := by
  have hic : i = c := Nat.eq_of_beq_eq_true hc
  refine ⟨.any, ⟨_, hi, rfl, .inl ⟨hic, rfl, rfl, restr f (slotsOf op), fun t x hx => ?_, fun g => hx g⟩⟩, ?_⟩
  · obtain ⟨h1, h2⟩ := restr_look hx
    exact ⟨h1, List.mem_append.2 (.inl h2)⟩
  · rw [efC_at hi]
    simp only [if_pos hic]
    exact h
variable {bx0 bx1 : List (Nat × List A)} {lv0 lv1 : List Nat} {gen0 gen1 : Nat}
theorem CC.nil (h : Q ⟨f, bx1, lv1, gen1⟩) : CC P C n ⟨bx0, bx1, lv0, lv1, gen0, gen1⟩ ops c Q [] i f true :=
  CC.nil_ (S := ⟨bx0, bx1, lv0, lv1, gen0, gen1⟩) h
theorem ccPu (h1 : Pu P C n ⟨restr f (slotsOf op), bx1, lv1, gen1⟩ ⟨some d, op, ty, pos, af, none⟩ a) (h0 : Pu P C n ⟨restr f (slotsOf op), bx0, lv0, gen0⟩ ⟨some d, op, ty, pos, af, none⟩ a)
    (hi : ops[i]? = some ⟨some d, op, ty, pos, af, none⟩) (hc : Nat.beq i c = false) (b0 : behindB .any ops i c = false) (b1 : behindB .any ops c i = false) (hd : Nat.blt d n = true)
    (h : CC P C n ⟨bx0, bx1, lv0, lv1, gen0, gen1⟩ ops c Q rest (i + 1) ((d, a) :: f) ph) : CC P C n ⟨bx0, bx1, lv0, lv1, gen0, gen1⟩ ops c Q (⟨some d, op, ty, pos, af, none⟩ :: rest) i f ph :=
  ccPu_ (S := ⟨bx0, bx1, lv0, lv1, gen0, gen1⟩) h1 h0 hi hc b0 b1 hd h
theorem ccPu0 (h0 : Pu P C n ⟨restr f (slotsOf op), bx0, lv0, gen0⟩ ⟨some d, op, ty, pos, af, none⟩ a)
    (hi : ops[i]? = some ⟨some d, op, ty, pos, af, none⟩) (hc : Nat.beq i c = false) (b0 : behindB .any ops i c = false) (b1 : behindB .any ops c i = true) (hd : Nat.blt d n = true)
    (h : CC P C n ⟨bx0, bx1, lv0, lv1, gen0, gen1⟩ ops c Q rest (i + 1) ((d, a) :: f) false) : CC P C n ⟨bx0, bx1, lv0, lv1, gen0, gen1⟩ ops c Q (⟨some d, op, ty, pos, af, none⟩ :: rest) i f false :=
  ccPu0_ (S := ⟨bx0, bx1, lv0, lv1, gen0, gen1⟩) h0 hi hc b0 b1 hd h
theorem ccPu1 (h1 : Pu P C n ⟨restr f (slotsOf op), bx1, lv1, gen1⟩ ⟨some d, op, ty, pos, af, none⟩ a)
    (hi : ops[i]? = some ⟨some d, op, ty, pos, af, none⟩) (hc : Nat.beq i c = false) (b0 : behindB .any ops i c = true) (b1 : behindB .any ops c i = false) (hd : Nat.blt d n = true)
    (h : CC P C n ⟨bx0, bx1, lv0, lv1, gen0, gen1⟩ ops c Q rest (i + 1) ((d, a) :: f) true) : CC P C n ⟨bx0, bx1, lv0, lv1, gen0, gen1⟩ ops c Q (⟨some d, op, ty, pos, af, none⟩ :: rest) i f true :=
  ccPu1_ (S := ⟨bx0, bx1, lv0, lv1, gen0, gen1⟩) h1 hi hc b0 b1 hd h
theorem ccX (hx : ∀ g, WO P C n ops (fun e st => e = .normal ∧ st = ⟨(d, a) :: (restr f (slotsOf op) ++ g), bx1, lv1, gen1⟩) [⟨some d, op, ty, pos, af, none⟩] ⟨restr f (slotsOf op) ++ g, bx0, lv0, gen0⟩)
    (hi : ops[i]? = some ⟨some d, op, ty, pos, af, none⟩) (hc : Nat.beq i c = true) (hd : Nat.blt d n = true) (h : CC P C n ⟨bx0, bx1, lv0, lv1, gen0, gen1⟩ ops c Q rest (i + 1) ((d, a) :: f) true) : CC P C n ⟨bx0, bx1, lv0, lv1, gen0, gen1⟩ ops c Q (⟨some d, op, ty, pos, af, none⟩ :: rest) i f false :=
  ccX_ (S := ⟨bx0, bx1, lv0, lv1, gen0, gen1⟩) hx hi hc hd h
theorem ccX0 (hx : ∀ g, WO P C n ops (fun e st => e = .normal ∧ st = ⟨restr f (slotsOf op) ++ g, bx1, lv1, gen1⟩) [⟨none, op, ty, pos, af, none⟩] ⟨restr f (slotsOf op) ++ g, bx0, lv0, gen0⟩)
    (hi : ops[i]? = some ⟨none, op, ty, pos, af, none⟩) (hc : Nat.beq i c = true) (h : CC P C n ⟨bx0, bx1, lv0, lv1, gen0, gen1⟩ ops c Q rest (i + 1) f true) : CC P C n ⟨bx0, bx1, lv0, lv1, gen0, gen1⟩ ops c Q (⟨none, op, ty, pos, af, none⟩ :: rest) i f false :=
  ccX0_ (S := ⟨bx0, bx1, lv0, lv1, gen0, gen1⟩) hx hi hc h
end
end Go.Ab
/- A slot's nil slices read as empty ones, at the top alone. -/
namespace Go.Ab
open Go.RowKit
def nilT : D → D
  | .v x => bif isNil (.d (.v x)) then .sl [] else .v x
  | .sl es => .sl es
theorem RepD.nilT {w : World} {pv : Nat → Nat → Prop} {v : Value} {d : D} (h : RepD w pv v d) : RepD w pv v (Ab.nilT d) := by
  cases d with
  | v x => exact h.nilD
  | sl es => exact h
def nilB : A → A
  | .d x => .d (nilT x)
  | .ag l => .ag (l.map nilT)
  | a => a
theorem Rep.nilB {E : En} {v : Value} {a : A} (h : Rep E v a) : Rep E v (Ab.nilB a) := by
  cases a with
  | d x => cases h with | d hd => exact .d hd.nilT
  | ag l =>
    cases h with
    | ag vs _ hs hd =>
      refine .ag vs _ (by simpa using hs) (fun i u x hu hx => ?_)
      rw [List.getElem?_map, Option.map_eq_some_iff] at hx
      obtain ⟨y, hy, rfl⟩ := hx
      exact (hd i u y hu hy).nilT
  | _ => exact h
section
variable {P : Program} {C : Ctx} {n : Nat} {ops : Array Oper} {Q : Exit → St → Prop} {f : List (Nat × A)} {bx : List (Nat × List A)} {lv : List Nat} {gen : Nat}
theorem nilS (s : Nat) {a a' : A} {l : List Oper} (hl : look f s = some a) (hsn : Nat.blt s n = true) (ha : Ab.nilB a = a') (h : WO P C n ops Q l ⟨(s, a') :: f, bx, lv, gen⟩) : WO P C n ops Q l ⟨f, bx, lv, gen⟩ := by
  subst ha
  intro tmps w ⟨G, hs⟩
  obtain ⟨v, hv, hr⟩ := hs.frame s _ hl
  refine h tmps w ⟨G, ?_⟩
  have := hs.set (d := s) (Nat.le_of_ble_eq_true hsn) hr.nilB
  rwa [set_same hv] at this
end
end Go.Ab
/- The examples that parse's laws ask for: what the readers make of three texts. -/
namespace Go.Tb
open Go.Ab
abbrev tx1 : ByteArray := B #[102, 114, 111, 109, 32, 115, 108, 105, 99, 101, 115, 32, 124, 32, 119, 104, 101, 114, 101, 32, 102, 114, 111, 109, 32, 60, 32, 53]
abbrev tx2 : ByteArray := B #[40, 45, 53, 41]
abbrev tx3 : ByteArray := B #[49, 32, 60]
abbrev exL : Ex := .mk 12 E0 Tb.v0 [.mk 2 (B #[102, 114, 111, 109]) Tb.v0 [], .mk 1 E0 ⟨2, 5, E0⟩ []]
abbrev ex5 : Ex := .mk 1 E0 ⟨2, -5, E0⟩ []
abbrev q1 : Qry := ⟨B #[115, 108, 105, 99, 101, 115], [{ stp0 1 with cond := exL }]⟩
theorem tx1_q : queryF true tx1 = (q1, 0, 0) := by kernel_rfl
theorem tx2_q : exprF true tx2 = (ex5, 0, 0) := by kernel_rfl
theorem tx3_q : (exprF true tx3).2 = (3, 15) := by kernel_rfl
theorem tx3_q1 : (exprF true tx3).2.1 = 3 := by rw [tx3_q]
theorem tx3_q2 : (exprF true tx3).2.2 = 15 := by rw [tx3_q]
end Go.Tb
/- A text with a limit step behind it. -/
namespace Go.Tb
open Go.Ab
theorem map_core (L : List Tk) : (L.map Tk.core).map Tk.core = L.map Tk.core := by rw [List.map_map]; rfl
theorem Wf.core {L : List Tk} (hw : Wf L) : Wf (L.map Tk.core) where
  ne := fun e => hw.ne (by simpa using e)
  last i t h := by
    rw [List.getElem?_map, Option.map_eq_some_iff] at h
    obtain ⟨t0, h1, rfl⟩ := h
    rw [List.length_map]
    exact hw.last i t0 h1
  ok t h := by
    obtain ⟨t0, h1, rfl⟩ := List.mem_map.1 h
    exact hw.ok t0 h1
theorem queryF_ok {s : ByteArray} (he : (queryF true s).2.2 = 0) : s.size ≤ 2000 ∧ badB (toks s 0) (queryT true (toks s 0) (0, false)).2 = false ∧ queryErr (queryT true (toks s 0) (0, false)).1 = 0 ∧ queryF true s = ((queryT true (toks s 0) (0, false)).1, 0, 0) := by
  unfold queryF checkP at *
  by_cases h1 : 2000 < s.size
  · rw [show readP qry0 (queryT true) s = (qry0, 0, 7) by unfold readP; rw [if_pos h1]] at he
    simp at he
  · by_cases h2 : badB (toks s 0) (queryT true (toks s 0) (0, false)).2 = true
    · rw [show readP qry0 (queryT true) s = (qry0, ((tk0 (toks s 0) (queryT true (toks s 0) (0, false)).2).at_ : Int), 15) by unfold readP; rw [if_neg h1, if_pos h2]] at he
      simp at he
    · have e : readP qry0 (queryT true) s = ((queryT true (toks s 0) (0, false)).1, 0, 0) := by unfold readP; rw [if_neg h1, if_neg h2]
      rw [e] at he ⊢
      by_cases h3 : queryErr (queryT true (toks s 0) (0, false)).1 = 0
      · exact ⟨by omega, by simpa using h2, h3, by simp [h3]⟩
      · rw [if_pos (by simpa using h3)] at he
        simp only [if_true] at he
        exact absurd he h3
theorem queryF_of {s : ByteArray} (h1 : s.size ≤ 2000) (h2 : badB (toks s 0) (queryT true (toks s 0) (0, false)).2 = false) (h3 : queryErr (queryT true (toks s 0) (0, false)).1 = 0) : queryF true s = ((queryT true (toks s 0) (0, false)).1, 0, 0) := by
  unfold queryF checkP
  have e : readP qry0 (queryT true) s = ((queryT true (toks s 0) (0, false)).1, 0, 0) := by unfold readP; rw [if_neg (by omega), if_neg (by simp [h2])]
  rw [e]
  simp [h3]
theorem stepsErr_app {x : Stp} (hx : stepErr x = 0) : ∀ l, stepsErr l = 0 → stepsErr (l ++ [x]) = 0
  | [], _ => by simp [stepsErr, hx]
  | y :: r, h => by
    simp only [stepsErr] at h
    by_cases q : stepErr y = 0
    · rw [if_neg (by simp [q])] at h
      simp only [List.cons_append, stepsErr]
      rw [if_neg (by simp [q])]
      exact stepsErr_app hx r h
    · rw [if_pos q] at h
      exact absurd h q
abbrev txLim : ByteArray := B #[32, 124, 32, 108, 105, 109, 105, 116, 32, 55]
abbrev tlT : List UInt8 := [124, 32, 108, 105, 109, 105, 116, 32, 55]
abbrev tlK : List Tk := [⟨5, gBar, 0, 0, 0⟩, ⟨2, kwLimit, 0, 0, 0⟩, ⟨3, B #[55], 7, 0, 0⟩, ⟨0, E0, 0, 0, 0⟩]
theorem tl_lex : (lex tlT).map Tk.core = tlK := by kernel_rfl
/-- what is read to the end ends with an end -/
theorem bad_last {L : List Tk} (hw : Wf L) {st : PS} (hl : st.1 < L.length) (h : badB L st = false) : st.1 + 1 = L.length ∧ (tk0 L st).kind = 0 := by
  simp only [badB, Bool.or_eq_false_iff, Bool.not_eq_false', decide_eq_true_eq] at h
  have e : L[st.1]? = some (tk0 L st) := by rw [at_get (t := L[st.1]'hl) (by simp)]; simp
  exact ⟨(hw.last _ _ e).1 (by simp [Tk.stops, h.2]), h.2⟩
theorem parse_steps {s : ByteArray} (hs : s.size ≤ 1900) (he : (queryF true s).2.2 = 0) (hl : (queryF true s).1.steps.length ≤ 15) : queryF true (s ++ txLim) = (⟨(queryF true s).1.from_, (queryF true s).1.steps ++ [limStep]⟩, 0, 0) := by
  obtain ⟨_, h2, h3, h4⟩ := queryF_ok he
  rw [h4] at hl ⊢
  simp only at hl ⊢
  have hw := toks_wf s 0
  have h0 : 0 < (toks s 0).length := List.length_pos_iff.2 hw.ne
  have hlt := (queryP_goes hw (orP_goes hw true (toks s 0).length) true).lt (0, false) h0
  obtain ⟨b1, b2⟩ := bad_last hw hlt h2
  have hm : (toks s 0).length = ((toks s 0).length - 1) + 1 := by omega
  have hk : ∀ t ∈ toks s 0, t.kind ≠ 1 := fun t ht e => by
    obtain ⟨i, hi⟩ := List.getElem?_of_mem ht
    have hi' := (hw.last i t hi).1 (by simp [Tk.stops, e])
    have : i = (queryT true (toks s 0) (0, false)).2.1 := by
      show i = (queryP (toks s 0) true (orP (toks s 0) true (toks s 0).length) (0, false)).2.1
      omega
    rw [this] at hi
    rw [at_get hi] at b2
    omega
  have hK := (toks_lex s 0 (Nat.zero_le _)).1
  rw [List.drop_zero] at hK
  have hk' : ∀ k ∈ lex (bys s), k.kind ≠ 1 := fun k hk0 e => by
    have : k.core ∈ (toks s 0).map Tk.core := by rw [hK]; exact List.mem_map_of_mem hk0
    obtain ⟨t, ht, e2⟩ := List.mem_map.1 this
    exact hk t ht (by have := congrArg Tk.kind e2; simp only at this; rw [this]; exact e)
  have hb : bys (s ++ txLim) = bys s ++ 32 :: tlT := by
    rw [bys_append]; rfl
  have hK' := (toks_lex (s ++ txLim) 0 (Nat.zero_le _)).1
  rw [List.drop_zero, hb, lex_app tlT (bys s) hk', tl_lex, List.map_dropLast, ← hK] at hK'
  have hlen : ((toks s 0).map Tk.core).dropLast.length = (toks s 0).length - 1 := by simp
  have at4 : ∀ i, (((toks s 0).map Tk.core).dropLast ++ tlK)[(toks s 0).length - 1 + i]? = tlK[i]? := fun i => by
    rw [List.getElem?_append_right (by rw [hlen]; omega), hlen, show (toks s 0).length - 1 + i - ((toks s 0).length - 1) = i by omega]
  have T : TailLim ((toks s 0).map Tk.core) ((toks (s ++ txLim) 0).map Tk.core) ((toks s 0).length - 1) := {
    wf := hw.core
    wf' := (toks_wf _ 0).core
    len := by rw [List.length_map]; omega
    len' := by rw [hK', List.length_append, hlen]; simp
    same := fun k hk => by
      rw [hK', List.getElem?_append_left (by rw [hlen]; exact hk), List.getElem?_dropLast, if_pos (by rw [List.length_map]; exact hk)]
    fin := by
      refine ⟨(tk0 (toks s 0) (queryT true (toks s 0) (0, false)).2).core, ?_, b2⟩
      have e : (queryT true (toks s 0) (0, false)).2.1 = (toks s 0).length - 1 := by
        show (queryP (toks s 0) true (orP (toks s 0) true (toks s 0).length) (0, false)).2.1 = _
        omega
      rw [List.getElem?_map]
      unfold tk0
      rw [e]
      simp [List.getElem?_eq_getElem (show (toks s 0).length - 1 < (toks s 0).length by omega)]
    bar := ⟨⟨5, gBar, 0, 0, 0⟩, by rw [hK']; exact at4 0, rfl, rfl⟩
    len4 := by rw [hK', List.length_append, hlen]; rfl
    lim := ⟨⟨2, kwLimit, 0, 0, 0⟩, by rw [hK']; exact at4 1, rfl, rfl⟩
    num := ⟨⟨3, B #[55], 7, 0, 0⟩, by rw [hK']; exact at4 2, rfl, rfl⟩
    fin' := ⟨⟨0, E0, 0, 0, 0⟩, by rw [hK']; exact at4 3, rfl⟩ }
  have c1 := core_queryT (map_core (toks s 0)) true
  have c2 := core_queryT (map_core (toks (s ++ txLim) 0)) true
  have Q := query_lim T true (by
    rw [c1]
    simp only [badB, Bool.or_eq_false_iff, Bool.not_eq_false', decide_eq_true_eq] at h2 ⊢
    exact ⟨h2.1, by rw [core_kind (map_core (toks s 0))]; exact h2.2⟩)
  rw [c1, c2] at Q
  have hb2 : badB (toks (s ++ txLim) 0) ((toks s 0).length - 1 + 3, false) = false := by
    obtain ⟨b, e1, e2⟩ := T.fin'
    have := core_kind (map_core (toks (s ++ txLim) 0)) ((toks s 0).length - 1 + 3, false)
    rw [at_get e1] at this
    simp [badB, ← this, e2]
  rw [queryF_of (by rw [ByteArray.size_append]; show s.size + 10 ≤ 2000; omega) (by rw [Q]; exact hb2) (by
    rw [Q]
    unfold queryErr at h3 ⊢
    split at h3
    · cases h3
    · rename_i i1
      rw [if_neg i1]
      split at h3
      · cases h3
      · rw [if_neg (by simp only [List.length_append, List.length_cons, List.length_nil]; omega)]
        exact stepsErr_app (by decide) _ h3), Q]
end Go.Tb
/- A text with other white space. -/
namespace Go.Tb
open Go.Ab
end Go.Tb
/- Regions that draw their order and hold several operations that turn the ghost, each behind the one before it, and one allocation that may stand anywhere. -/
namespace Go.Ab
open Go.RowKit

/-! ### whatever the states are: with paths in place of edges -/
section
variable {P : Program} {ops : Array Oper} {md : Region.Mode} {m : Nat} {S E : Type} {Y : Nat → E → S → Prop} {ef : Nat → E → S → S}

/-- neither must come before the other -/
def loose (md : Region.Mode) (ops : Array Oper) (i j : Nat) : Prop := reachB md ops ops.size i j = false ∧ reachB md ops ops.size j i = false

theorem behindB_of {j i : Nat} {oj : Oper} {e : Edge} (hj : ops[j]? = some oj) (he : e ∈ oj.after) (hb : Region.binds md e = true) (h : e.on = i) : behindB md ops j i = true := by
  unfold behindB
  rw [hj]
  exact List.any_eq_true.2 ⟨e, by simpa using he, by simp [hb, h]⟩
theorem reach_behind {j i : Nat} (h : reachB md ops ops.size j i = false) (hj : j < ops.size) : behindB md ops j i = false := by
  cases q : ops.size with
  | zero => omega
  | succ k =>
    rw [q] at h
    simp only [reachB, Bool.or_eq_false_iff] at h
    exact h.1
theorem ready_loose {i j : Nat} {listed : Array Bool} (hc : Closed md ops listed) (hi : i ∈ Region.ready md ops listed) (hj : listed.getD j true = false) : reachB md ops ops.size i j = false := by
  obtain ⟨_, oi, hoi, hall⟩ := mem_ready.1 hi
  cases q : reachB md ops ops.size i j with
  | false => rfl
  | true =>
    have := reach_listed hc _ i j q fun o ho e he hb => by rw [hoi] at ho; cases ho; exact hall e he hb
    rw [unlisted hj] at this
    cases this

theorem wpG_firstR {Q : S → Prop} {i : Nat} {oi : Oper} {e : E} (hw : waitT md ops m = true) (him : i < m) (hi : ops[i]? = some oi) :
    ∀ (fuel : Nat) (listed : Array Bool) (σ : S), Closed md ops listed →
      (∀ j oj, ops[j]? = some oj → j ≠ i → j < m → listed.getD j true = false → reachB md ops ops.size j i = false → Swap Y ef i j) →
      i ∈ Region.ready md ops listed → Y i e σ → wpG Y ef m md ops Q fuel (listed.setIfInBounds i true) (ef i e σ) → wpG Y ef m md ops Q (fuel + 1) listed σ := by
  have unl : ∀ {listed : Array Bool}, i ∈ Region.ready md ops listed → listed.getD i false = false := fun hr => unlisted (mem_ready.1 hr).1
  intro fuel
  induction fuel with
  | zero =>
    intro listed σ hc _ hr hy H
    refine ⟨fun h => (by rw [h] at hr; cases hr), fun j hj => ?_⟩
    by_cases hji : j = i
    · subst hji; exact ⟨e, hy, H⟩
    · exfalso
      obtain ⟨⟨_, h1, h2⟩, _⟩ := H
      have hj1 := (mem_ready.1 hj).1
      by_cases hjm : j < m
      · have := h1 j hjm
        rw [getD_set_ne false (Ne.symm hji)] at this
        rw [unlisted hj1] at this
        cases this
      · have := waitsT hw (by omega) (show i < j by omega) hc hj
        rw [unl hr] at this
        cases this
  | succ fuel ih =>
    intro listed σ hc hfree hr hy H
    refine ⟨fun h => (by rw [h] at hr; cases hr), fun j hj => ?_⟩
    by_cases hji : j = i
    · subst hji; exact ⟨e, hy, H⟩
    · obtain ⟨e', hy', H'⟩ := H.2 j (ready_mono hj hji)
      obtain ⟨hjun, oj, hoj, hall⟩ := mem_ready.1 hj
      have hnot : reachB md ops ops.size j i = false := ready_loose hc hj (mem_ready.1 hr).1
      have hjm : j < m := by
        rcases Nat.lt_or_ge j m with h | h
        · exact h
        · have := waitsT hw h (show i < j by omega) hc hj
          rw [unl hr] at this
          cases this
      obtain ⟨s1, s2, s3⟩ := hfree j oj hoj hji hjm hjun hnot e e' σ hy hy'
      have hfree' : ∀ k ok, ops[k]? = some ok → k ≠ i → k < m → (listed.setIfInBounds j true).getD k true = false → reachB md ops ops.size k i = false → Swap Y ef i k := fun k ok hk hki hkm hun hno => by
        refine hfree k ok hk hki hkm ?_ hno
        by_cases hjk : j = k
        · subst hjk; exact hjun
        · rw [getD_set_ne true hjk] at hun; exact hun
      refine ⟨e', s1, ih (listed.setIfInBounds j true) _ (hc.add hj) hfree' (ready_mono hr (Ne.symm hji)) s2 ?_⟩
      rw [Array.setIfInBounds_comm _ _ hji, ← s3]
      exact H'
theorem wpG_lexR {Q : S → Prop} (hw : waitT md ops m = true)
    (hsw : ∀ i j oi oj, ops[i]? = some oi → ops[j]? = some oj → i ≠ j → i < m → j < m → oi.apart ops oj = true → loose md ops i j → Swap Y ef i j) :
    ∀ (l : List Oper) (k : Nat) (listed : Array Bool) (σ : S), k + l.length = m → (∀ j, j < l.length → l[j]? = ops[k + j]?) → Closed md ops listed →
    listed.size = ops.size → (∀ j, j < k → listed.getD j false = true) → (∀ j, k ≤ j → j < ops.size → listed.getD j true = false) →
    lexE md ops l.length k listed = true → ceG Y ef Q l k σ → wpG Y ef m md ops Q l.length listed σ
  | [], k, listed, σ, hk, _, _, hs, h1, h2, _, h => ⟨⟨hs, fun j hj => h1 j (by simp at hk; omega), fun j hj hj' => h2 j (by simp at hk; omega) hj'⟩, h⟩
  | o :: l, k, listed, σ, hk, hl, hc, hs, h1, h2, hB, h => by
    have h0 : ops[k]? = some o := by simpa using (hl 0 (by simp)).symm
    have hks : k < ops.size := (Array.getElem?_eq_some_iff.1 h0).1
    simp only [List.length_cons, lexE, Bool.and_eq_true] at hB
    obtain ⟨⟨hr, hf⟩, hB'⟩ := hB
    have hr' : k ∈ Region.ready md ops listed := by simpa using hr
    obtain ⟨e, hy, hK⟩ := h
    have hkm : k < m := by simp at hk; omega
    refine wpG_firstR hw hkm h0 l.length listed σ hc (fun j oj hoj hjk hjm hun hno => hsw k j o oj h0 hoj (Ne.symm hjk) hkm hjm (Region.free_spec h0 hf j oj hoj hjk hun fun e he hb heq => ?_) ⟨ready_loose hc hr' hun, hno⟩) hr' hy
      (wpG_lexR hw hsw l (k + 1) _ _ (by simp at hk; omega) (fun j hj => by have := hl (j + 1) (by simpa using hj); simpa [Nat.add_assoc, Nat.add_comm 1 j] using this) (hc.add hr') (by simpa using hs) (fun j hj => ?_) (fun j hj hj' => ?_) hB' hK)
    · have h3 := reach_behind hno (Array.getElem?_eq_some_iff.1 hoj).1
      rw [behindB_of hoj he hb heq] at h3
      cases h3
    · rcases Nat.lt_succ_iff_lt_or_eq.1 hj with hlt | rfl
      · exact getD_set_true (h1 j hlt)
      · simp [hs, hks]
    · rw [getD_set_ne true (by omega)]
      exact h2 j (by omega) hj'
end

/-! ### what a renumbering leaves as it is -/
mutual
theorem ren_fix {o o' : List Nat} (h : ∀ g, pos o g = some g → pos o' g = some g) : ∀ a, ren o a = a → ren o' a = a
  | .own g es, e => by
    simp only [ren] at e ⊢
    cases q : pos o g with
    | none => rw [q] at e; cases e
    | some i =>
      rw [q] at e
      simp only [A.own.injEq, and_true] at e
      subst e
      rw [h _ q]
  | .ptr g off, e => by
    simp only [ren] at e ⊢
    cases q : pos o g with
    | none => rw [q] at e; cases e
    | some i =>
      rw [q] at e
      simp only [A.ptr.injEq, and_true] at e
      subst e
      rw [h _ q]
  | .xs g es, e => by
    simp only [ren] at e ⊢
    cases q : pos o g with
    | none => rw [q] at e; cases e
    | some i =>
      rw [q] at e
      simp only [A.xs.injEq, and_true] at e
      subst e
      rw [h _ q]
  | .xp g i off l, e => by
    simp only [ren] at e ⊢
    cases q : pos o g with
    | none => rw [q] at e; cases e
    | some j =>
      rw [q] at e
      simp only [A.xp.injEq, and_true] at e
      subst e
      rw [h _ q]
  | .mp g es, e => by
    simp only [ren] at e ⊢
    cases q : pos o g with
    | none => rw [q] at e; cases e
    | some i =>
      rw [q] at e
      simp only [A.mp.injEq, and_true] at e
      subst e
      rw [h _ q]
  | .agg l, e => by simp only [ren, A.agg.injEq] at e ⊢; exact renL_fix h l e
  | .tup l, e => by simp only [ren, A.tup.injEq] at e ⊢; exact renL_fix h l e
  | .row l, e => by simp only [ren, A.row.injEq] at e ⊢; exact renL_fix h l e
  | .clo f l, e => by simp only [ren, A.clo.injEq, true_and] at e ⊢; exact renL_fix h l e
  | .bnd f l, e => by simp only [ren, A.bnd.injEq, true_and] at e ⊢; exact renL_fix h l e
  | .d _, _ => rfl
  | .ag _, _ => rfl
  | .rowd _, _ => rfl
  | .ni, _ => rfl
  | .fl _, _ => rfl
  | .any, _ => rfl
theorem renL_fix {o o' : List Nat} (h : ∀ g, pos o g = some g → pos o' g = some g) : ∀ l, renL o l = l → renL o' l = l
  | [], _ => rfl
  | a :: l, e => by
    simp only [renL, List.cons.injEq] at e ⊢
    exact ⟨ren_fix h a e.1, renL_fix h l e.2⟩
end
def monoB (o o' : List Nat) : Bool := (List.range o.length).all fun g => !(pos o g == some g) || pos o' g == some g
theorem monoB_spec {o o' : List Nat} (h : monoB o o' = true) (g : Nat) (hg : pos o g = some g) : pos o' g = some g := by
  have hlt := (List.getElem?_eq_some_iff.1 (pos_some hg)).1
  have := List.all_eq_true.1 h g (List.mem_range.2 hlt)
  simp only [hg, beq_self_eq_true, Bool.not_true, Bool.false_or, beq_iff_eq] at this
  exact this
end Go.Ab
/- The rule for regions that draw their order and hold a chain of operations that turn the ghost and one free allocation. -/
namespace Go.Ab
open Go.RowKit

/-- the boxes before and behind the allocation, the growing slices and the names, behind k operations of the chain; the renumbering that puts the allocation's name first -/
structure ParD where
  bxF : Nat → List (Nat × List A)
  bxT : Nat → List (Nat × List A)
  lv : Nat → List Nat
  gen : Nat → Nat
  ord : Nat → List Nat
  g0 : Nat
  z : List A
  cs : List Nat
  al : Nat
def ParD.bx (S : ParD) (k : Nat) (b : Bool) : List (Nat × List A) := bif b then S.bxT k else S.bxF k

/-- the boxes stay as they are -/
abbrev parC (bx : List (Nat × List A)) (g0 : Nat) (z : List A) (lv : Nat → List Nat) (gen : Nat → Nat) (ord : Nat → List Nat) (cs : List Nat) (al : Nat) : ParD := ⟨fun _ => bx, fun _ => (g0, z) :: bx, lv, gen, ord, g0, z, cs, al⟩

def alw (S : ParD) (ops : Array Oper) (i k : Nat) (b : Bool) : Bool :=
  ((List.range S.cs.length).all fun j => bif Nat.blt j k then !reachB .any ops ops.size (S.cs.getD j 0) i else !reachB .any ops ops.size i (S.cs.getD j 0)) &&
  (bif b then !reachB .any ops ops.size S.al i else (Nat.blt S.al ops.size && !reachB .any ops ops.size i S.al))

theorem Pu.nilB {P : Program} {C : Ctx} {n : Nat} {st : St} {o : Oper} {a a' : A} (h : Pu P C n st o a) (e : Ab.nilB a = a') : Pu P C n st o a' := fun G tmps w hs => by
  subst e
  exact (h G tmps w hs).mono fun v w' ⟨h1, h2⟩ => ⟨h1, h2.nilB⟩
theorem alwNo {S : ParD} {ops : Array Oper} {i k : Nat} {b : Bool} (h : alw S ops i k b = true) (h' : alw S ops i k b = false) : False := by rw [h] at h'; cases h'

section
variable {P : Program} (T : Tab P) {C : Ctx} {n : Nat} (S : ParD) {ops : Array Oper}
abbrev SD := Fr' × Nat × Bool
def SmD (C : Ctx) (n : Nat) (S : ParD) (b0 : Bool) (σ : SD) (act : Act) (w : World) : Prop :=
  (b0 = true → σ.2.2 = true) ∧ act.defers = [] ∧ ∃ G, SimF C n (S.bx σ.2.1 σ.2.2) (S.lv σ.2.1) (S.gen σ.2.1) σ.1 G act.tmps w ∧ (σ.2.2 = false → ∀ t a, σ.1 t = some a → ren (S.ord σ.2.1) a = a)
def XEd (P : Program) (C : Ctx) (n : Nat) (S : ParD) (ops : Array Oper) (o : Oper) (a : A) (k : Nat) (b : Bool) (φ : Fr') : Prop :=
  o.guard = none ∧ ∃ p, (∀ t x, look p t = some x → φ t = some x ∧ t ∈ o.looksAt ops) ∧
    ∀ g, WO P C n ops (fun e st => e = .normal ∧ st = St.put ⟨p ++ g, S.bx (k + 1) b, S.lv (k + 1), S.gen (k + 1)⟩ o.dst a) [o] ⟨p ++ g, S.bx k b, S.lv k, S.gen k⟩
def YD (P : Program) (T : Tab P) (C : Ctx) (n : Nat) (S : ParD) (ops : Array Oper) (i : Nat) (a : A) (σ : SD) : Prop :=
  ∃ o, ops[i]? = some o ∧ dstOK n o.dst = true ∧ σ.2.1 ≤ S.cs.length ∧ alw S ops i σ.2.1 σ.2.2 = true ∧
    ((S.cs[σ.2.1]? = some i ∧ i ≠ S.al ∧ (∀ b, alw S ops i σ.2.1 b = true → XEd P C n S ops o a σ.2.1 b σ.1) ∧ (alw S ops i σ.2.1 false = true → ren (S.ord (σ.2.1 + 1)) a = a)) ∨
     (i ∉ S.cs ∧ i = S.al ∧ σ.2.2 = false ∧ o.guard = none ∧ a = .ptr S.g0 0 ∧ ∃ e d dt, o.op = .alloc e ∧ o.dst = some d ∧ look' T.l e = some dt ∧ S.z = dt.z.map fun v => A.d (.v v)) ∨
     (i ∉ S.cs ∧ i ≠ S.al ∧ ∀ k b, k ≤ S.cs.length → alw S ops i k b = true → YA P C n (S.bx k b) (S.lv k) (S.gen k) ops o a σ.1 ∧ (b = false → ren (S.ord k) a = a)))
def efD (S : ParD) (ops : Array Oper) (i : Nat) (a : A) (σ : SD) : SD :=
  match ops[i]? with
  | none => σ
  | some o => (putF σ.1 o.dst a, (if S.cs[σ.2.1]? = some i then σ.2.1 + 1 else σ.2.1), if i = S.al then true else σ.2.2)

variable {T} {S}
theorem XEd_put {o : Oper} {a : A} {k : Nat} {b : Bool} {φ : Fr'} {dst : Option Nat} {x : A} (hd : ∀ d, dst = some d → d ∉ o.looksAt ops) : XEd P C n S ops o a k b (putF φ dst x) ↔ XEd P C n S ops o a k b φ := by
  constructor
  · rintro ⟨h0, p, h1, h2⟩
    exact ⟨h0, p, fun t y hy => ⟨(putF_key hd (h1 t y hy).2).symm.trans (h1 t y hy).1, (h1 t y hy).2⟩, h2⟩
  · rintro ⟨h0, p, h1, h2⟩
    exact ⟨h0, p, fun t y hy => ⟨(putF_key hd (h1 t y hy).2).trans (h1 t y hy).1, (h1 t y hy).2⟩, h2⟩
theorem alw_step {i k c : Nat} {b : Bool} (h : S.cs[k]? = some c) (hl : loose .any ops i c) : alw S ops i (k + 1) b = alw S ops i k b := by
  unfold alw
  congr 1
  rw [Bool.eq_iff_iff, List.all_eq_true, List.all_eq_true]
  have hk : S.cs.getD k 0 = c := by simp [List.getD_eq_getElem?_getD, h]
  have key : ∀ j, (bif Nat.blt j (k + 1) then !reachB .any ops ops.size (S.cs.getD j 0) i else !reachB .any ops ops.size i (S.cs.getD j 0)) = (bif Nat.blt j k then !reachB .any ops ops.size (S.cs.getD j 0) i else !reachB .any ops ops.size i (S.cs.getD j 0)) := fun j => by
    rcases Nat.lt_trichotomy j k with hj | rfl | hj
    · have h1 : Nat.blt j (k + 1) = true := by simp [Nat.blt_eq]; omega
      have h2 : Nat.blt j k = true := by simp [Nat.blt_eq]; omega
      rw [h1, h2]
    · have h1 : Nat.blt j (j + 1) = true := by simp [Nat.blt_eq]
      have h2 : Nat.blt j j = false := by cases q : Nat.blt j j with | false => rfl | true => simp [Nat.blt_eq] at q
      rw [h1, h2, hk, hl.1, hl.2]
      rfl
    · have h1 : Nat.blt j (k + 1) = false := by cases q : Nat.blt j (k + 1) with | false => rfl | true => simp [Nat.blt_eq] at q; omega
      have h2 : Nat.blt j k = false := by cases q : Nat.blt j k with | false => rfl | true => simp [Nat.blt_eq] at q; omega
      rw [h1, h2]
  exact ⟨fun h j hj => by rw [← key]; exact h j hj, fun h j hj => by rw [key]; exact h j hj⟩
theorem alw_al {i k : Nat} (hlt : S.al < ops.size) (hl : loose .any ops i S.al) : alw S ops i k true = alw S ops i k false := by
  unfold alw
  have h : Nat.blt S.al ops.size = true := by rw [Nat.blt_eq]; exact hlt
  rw [hl.1, hl.2, h]
  rfl
theorem loose.symm {md : Region.Mode} {i j : Nat} (h : loose md ops i j) : loose md ops j i := ⟨h.2, h.1⟩
theorem efD_at {i : Nat} {o : Oper} (h : ops[i]? = some o) (a : A) (σ : SD) : efD S ops i a σ = (putF σ.1 o.dst a, (if S.cs[σ.2.1]? = some i then σ.2.1 + 1 else σ.2.1), if i = S.al then true else σ.2.2) := by unfold efD; rw [h]
theorem alw_pull {i k c : Nat} {b : Bool} (h : S.cs[k]? = some c) (hl : loose .any ops i c) (ha : alw S ops i (k + 1) b = true) : alw S ops i k b = true := by rw [← alw_step h hl]; exact ha
theorem alw_push {i k c : Nat} {b : Bool} (h : S.cs[k]? = some c) (hl : loose .any ops i c) (ha : alw S ops i k b = true) : alw S ops i (k + 1) b = true := by rw [alw_step h hl]; exact ha

theorem swapD (hch : ∀ k c c', S.cs[k]? = some c → S.cs[k + 1]? = some c' → reachB .any ops ops.size c' c = true) {i j : Nat} {oi oj : Oper} (hi : ops[i]? = some oi) (hj : ops[j]? = some oj) (hij : i ≠ j) (hap : oi.apart ops oj = true) (hl : loose .any ops i j) :
    Swap (YD P T C n S ops) (efD S ops) i j := by
  obtain ⟨a1, a2, a3⟩ := Oper.apart_spec hap
  rintro a b ⟨φ, k, ph⟩ ⟨oi', hi', di, hk, ai, hyi⟩ ⟨oj', hj', dj, hk2, aj, hyj⟩
  rw [hi] at hi'
  cases hi'
  rw [hj] at hj'
  cases hj'
  have hcomm : putF (putF φ oi.dst a) oj.dst b = putF (putF φ oj.dst b) oi.dst a := putF_comm φ a b a2
  have mem_of : ∀ {k c : Nat}, S.cs[k]? = some c → c ∈ S.cs := fun h => List.mem_of_getElem? h
  have klt : ∀ {k c : Nat}, S.cs[k]? = some c → k + 1 ≤ S.cs.length := fun h => (List.getElem?_eq_some_iff.1 h).1
  rw [efD_at hi] at aj hyj hk2
  simp only [efD_at hi, efD_at hj]
  simp only at hk ai hyi hk2 aj hyj
  rcases hyi with ⟨ci, nai, xi, fi⟩ | ⟨nci, ali, rfl, gi, ei, hi6⟩ | ⟨nci, nai, yi⟩
  · -- i is of the chain
    simp only [if_pos ci, if_neg nai] at aj hyj hk2
    rcases hyj with ⟨cj, _⟩ | ⟨ncj, alj, rfl, gj, ej, hj6⟩ | ⟨ncj, naj, yj⟩
    · exact absurd (hch k i j ci cj) (by rw [hl.2]; simp)
    · have hsi : loose .any ops i S.al := by rw [← alj]; exact hl
      have hlt : S.al < ops.size := by rw [← alj]; exact (Array.getElem?_eq_some_iff.1 hj).1
      have n1 : ¬ S.cs[k]? = some j := fun h => ncj (mem_of h)
      refine ⟨⟨oj, hj, dj, hk, alw_pull ci hl.symm aj, .inr (.inl ⟨ncj, alj, rfl, gj, ej, hj6⟩)⟩, ?_, ?_⟩
      · refine ⟨oi, hi, di, ?_, ?_, .inl ⟨?_, nai, fun b hb => (XEd_put a3).2 ?_, ?_⟩⟩
        all_goals simp only [if_neg n1]
        · exact hk
        · rw [if_pos alj, alw_al hlt hsi]; exact ai
        · exact ci
        · simp only [if_neg n1] at hb
          exact xi b hb
        · exact fi
      · simp only [if_pos ci, if_neg nai, if_pos alj, if_neg n1, hcomm]
        have n2 : ¬ S.cs[k + 1]? = some j := fun h => ncj (mem_of h)
        rw [if_neg n2]
    · have n1 : ¬ S.cs[k]? = some j := fun h => ncj (mem_of h)
      have n2 : ¬ S.cs[k + 1]? = some j := fun h => ncj (mem_of h)
      refine ⟨⟨oj, hj, dj, hk, alw_pull ci hl.symm aj, .inr (.inr ⟨ncj, naj, fun k b h1 h2 => ⟨(YA_put a1).1 (yj k b h1 h2).1, (yj k b h1 h2).2⟩⟩)⟩, ?_, ?_⟩
      · refine ⟨oi, hi, di, ?_, ?_, .inl ⟨?_, nai, fun b hb => (XEd_put a3).2 ?_, ?_⟩⟩
        all_goals simp only [if_neg n1]
        · exact hk
        · rw [if_neg naj]; exact ai
        · exact ci
        · simp only [if_neg n1] at hb
          exact xi b hb
        · exact fi
      · simp only [if_pos ci, if_neg nai, if_neg naj, if_neg n1, if_neg n2, hcomm]
  · -- i is the allocation
    have n1 : ¬ S.cs[k]? = some i := fun h => nci (mem_of h)
    simp only [if_neg n1, if_pos ali] at aj hyj hk2
    have hsj : loose .any ops j S.al := by rw [← ali]; exact hl.symm
    have hlt : S.al < ops.size := by rw [← ali]; exact (Array.getElem?_eq_some_iff.1 hi).1
    rcases hyj with ⟨cj, naj, xj, fj⟩ | ⟨_, alj, h, _⟩ | ⟨ncj, naj, yj⟩
    · have n2 : ¬ S.cs[k + 1]? = some i := fun h => nci (mem_of h)
      refine ⟨⟨oj, hj, dj, hk, by rw [← alw_al hlt hsj]; exact aj, .inl ⟨cj, naj, fun b hb => (XEd_put a1).1 (xj b hb), fj⟩⟩, ?_, ?_⟩
      · refine ⟨oi, hi, di, ?_, ?_, .inr (.inl ⟨nci, ali, ?_, gi, ei, hi6⟩)⟩
        all_goals simp only [if_pos cj, if_neg naj]
        · exact klt cj
        · exact alw_push cj hl ai
      · simp only [if_neg n1, if_pos ali, if_pos cj, if_neg naj, if_neg n2, hcomm]
    · exact absurd (ali.trans alj.symm) hij
    · have n3 : ¬ S.cs[k]? = some j := fun h => ncj (mem_of h)
      refine ⟨⟨oj, hj, dj, hk, by rw [← alw_al hlt hsj]; exact aj, .inr (.inr ⟨ncj, naj, fun k b h1 h2 => ⟨(YA_put a1).1 (yj k b h1 h2).1, (yj k b h1 h2).2⟩⟩)⟩, ?_, ?_⟩
      · refine ⟨oi, hi, di, ?_, ?_, .inr (.inl ⟨nci, ali, ?_, gi, ei, hi6⟩)⟩
        all_goals simp only [if_neg n3, if_neg naj]
        · exact hk
        · exact ai
      · simp only [if_neg n1, if_pos ali, if_neg n3, if_neg naj, hcomm]
  · -- i leaves the ghost
    have n1 : ¬ S.cs[k]? = some i := fun h => nci (mem_of h)
    simp only [if_neg n1, if_neg nai] at aj hyj hk2
    rcases hyj with ⟨cj, naj, xj, fj⟩ | ⟨ncj, alj, rfl, gj, ej, hj6⟩ | ⟨ncj, naj, yj⟩
    · have n2 : ¬ S.cs[k + 1]? = some i := fun h => nci (mem_of h)
      refine ⟨⟨oj, hj, dj, hk, aj, .inl ⟨cj, naj, fun b hb => (XEd_put a1).1 (xj b hb), fj⟩⟩, ?_, ?_⟩
      · refine ⟨oi, hi, di, ?_, ?_, .inr (.inr ⟨nci, nai, fun k b h1 h2 => ⟨(YA_put a3).2 (yi k b h1 h2).1, (yi k b h1 h2).2⟩⟩)⟩
        all_goals simp only [if_pos cj, if_neg naj]
        · exact klt cj
        · exact alw_push cj hl ai
      · simp only [if_neg n1, if_neg nai, if_pos cj, if_neg naj, if_neg n2, hcomm]
    · have n3 : ¬ S.cs[k]? = some j := fun h => ncj (mem_of h)
      have hsi : loose .any ops i S.al := by rw [← alj]; exact hl
      have hlt : S.al < ops.size := by rw [← alj]; exact (Array.getElem?_eq_some_iff.1 hj).1
      refine ⟨⟨oj, hj, dj, hk, aj, .inr (.inl ⟨ncj, alj, rfl, gj, ej, hj6⟩)⟩, ?_, ?_⟩
      · refine ⟨oi, hi, di, ?_, ?_, .inr (.inr ⟨nci, nai, fun k b h1 h2 => ⟨(YA_put a3).2 (yi k b h1 h2).1, (yi k b h1 h2).2⟩⟩)⟩
        all_goals simp only [if_neg n3, if_pos alj]
        · exact hk
        · rw [alw_al hlt hsi]; exact ai
      · simp only [if_neg n1, if_neg nai, if_neg n3, if_pos alj, hcomm]
    · have n3 : ¬ S.cs[k]? = some j := fun h => ncj (mem_of h)
      refine ⟨⟨oj, hj, dj, hk, aj, .inr (.inr ⟨ncj, naj, fun k b h1 h2 => ⟨(YA_put a1).1 (yj k b h1 h2).1, (yj k b h1 h2).2⟩⟩)⟩, ?_, ?_⟩
      · refine ⟨oi, hi, di, ?_, ?_, .inr (.inr ⟨nci, nai, fun k b h1 h2 => ⟨(YA_put a3).2 (yi k b h1 h2).1, (yi k b h1 h2).2⟩⟩)⟩
        all_goals simp only [if_neg n3, if_neg naj]
        · exact hk
        · exact ai
      · simp only [if_neg n1, if_neg nai, if_neg n3, if_neg naj, hcomm]

/-- one operation, whatever it does -/
theorem WO.one_ {o : Oper} (hg : o.guard = none) {st st1 : St} {G : Gh} {tmps : Array Value} {w : World} {Q' : Exit → Act → World → Prop} (h : WO P C n ops (fun e st => e = .normal ∧ st = st1) [o] st) (hs : SimG C n st G tmps w) :
    o.wp P ⟨tmps, []⟩ w (fun act w => act.defers = [] ∧ ∃ G, SimG C n st1 G act.tmps w) Q' := by
  have hw : Region.wanted o (yielded ops tmps) = true := by simp [Region.wanted, hg]
  have h := h tmps w ⟨G, hs⟩
  simp only [wpL, hw, if_true] at h
  refine Oper.wp_only (fun c a w hq => ?_) (fun hl => ?_) (fun act2 w2 hq => ?_) h
  · obtain ⟨_, st', _, he, _⟩ := hq
    cases he
  · obtain ⟨_, _, hq⟩ := hl
    obtain ⟨_, st', _, he, _⟩ := hq
    cases he
  · obtain ⟨hdf, st', ⟨G', hs2⟩, _, rfl⟩ := hq
    exact ⟨hdf, G', hs2⟩
theorem simF_lt {bx : List (Nat × List A)} {lv : List Nat} {gen : Nat} {φ : Fr'} {G : Gh} {tmps : Array Value} {w : World} (hs : SimF C n bx lv gen φ G tmps w) (t : Nat) (x : A) (hx : φ t = some x) : t < n := by
  obtain ⟨v, h1, _⟩ := hs.2 t x hx
  have := (Array.getElem?_eq_some_iff.1 h1).1
  rw [hs.1.size] at this
  exact this
theorem look_all {φ : Fr'} {p : List (Nat × A)} (hlt : ∀ t x, φ t = some x → t < n) (hp : ∀ t x, look p t = some x → φ t = some x) (t : Nat) : look (p ++ fallF n φ) t = φ t := by
  rw [look_app]
  cases q : look p t with
  | some x => exact (hp t x q).symm
  | none =>
    simp only
    unfold fallF
    rw [look_fall]
    cases e : φ t with
    | none => split <;> rfl
    | some x => rw [if_pos (List.mem_range.2 (hlt t x e))]
theorem putF_look {φ : Fr'} {f : List (Nat × A)} (h : ∀ t, look f t = φ t) {d : Nat} {a : A} {t : Nat} : look ((d, a) :: f) t = putF φ (some d) a t := by
  rw [look_cons]
  simp only [putF]
  by_cases e : t = d
  · subst e
    rw [if_pos rfl, if_pos rfl]
  · rw [if_neg e, if_neg (Ne.symm e), h]

/-- what the renumbering asks for behind k operations -/
def okD1 (S : ParD) (nb k : Nat) : Prop := (orderB (S.ord k) (S.gen k) nb = true ∧ pos (S.ord k) (S.gen k) = some S.g0) ∧ SubBR (S.ord k) ((S.gen k, S.z) :: S.bxF k) (S.bxT k) ∧ lvR (S.ord k) (S.lv k) (S.lv k) = true
def okD (S : ParD) (nb : Nat) : Nat → Prop
  | 0 => okD1 S nb 0
  | k + 1 => okD1 S nb (k + 1) ∧ monoB (S.ord k) (S.ord (k + 1)) = true ∧ okD S nb k
theorem okD.at {nb : Nat} : ∀ {m : Nat}, okD S nb m → ∀ k, k ≤ m → okD1 S nb k
  | 0, h, k, hk => by obtain rfl : k = 0 := by omega
                      exact h
  | m + 1, h, k, hk => by
    rcases Nat.lt_or_ge k (m + 1) with hlt | hge
    · exact okD.at h.2.2 k (by omega)
    · obtain rfl : k = m + 1 := by omega
      exact h.1
theorem okD.mono {nb : Nat} : ∀ {m : Nat}, okD S nb m → ∀ k, k < m → monoB (S.ord k) (S.ord (k + 1)) = true
  | 0, _, k, hk => absurd hk (Nat.not_lt_zero _)
  | m + 1, h, k, hk => by
    rcases Nat.lt_or_ge k m with hlt | hge
    · exact okD.mono h.2.2 k hlt
    · obtain rfl : k = m := by omega
      exact h.2.1

theorem soundD {nb : Nat} [hnb : NB C nb] (b0 : Bool) (hok : b0 = false → okD S nb S.cs.length) (i : Nat) (a : A) (σ : SD) (act : Act) (w : World) (K : Act → World → Prop) {Q' : Exit → Act → World → Prop} (hs : SmD C n S b0 σ act w) (hy : YD P T C n S ops i a σ) (hK : ∀ act w, SmD C n S b0 (efD S ops i a σ) act w → K act w) : wpOp P ops Q' i K act w := by
  obtain ⟨tmps, dfs⟩ := act
  obtain ⟨hb0, rfl, G, hs, hfix⟩ := hs
  obtain ⟨φ, k, ph⟩ := σ
  obtain ⟨o, ho, hd, hkl, hal, hy⟩ := hy
  rw [efD_at ho] at hK
  simp only at hs hfix hkl hal hy hK hb0
  unfold wpOp
  simp only [ho]
  rcases hy with ⟨hc, nal, hx, hr⟩ | ⟨nc, hal', rfl, hg, rfl, e, d, dt, hop, hdst, he, hz⟩ | ⟨nc, nal, hya⟩
  · obtain ⟨hg, p, hp, hx⟩ := hx ph hal
    rw [if_pos hc, if_neg nal] at hK
    have hw : Region.wanted o (yielded ops tmps) = true := by simp [Region.wanted, hg]
    rw [hw, if_pos rfl]
    refine .inl ?_
    have hlook := look_all (simF_lt hs) (fun t x hx => (hp t x hx).1)
    have hs' := hs.toG (f := p ++ fallF n φ) fun t x hx => by rw [← hlook]; exact hx
    refine Oper.wp_mono (fun act2 w2 ⟨hdf, G', hs2⟩ => hK act2 w2 ⟨hb0, hdf, G', ?_, fun hph t x hx => ?_⟩) (WO.one_ hg (hx (fallF n φ)) hs')
    · show SimF C n (S.bx (k + 1) ph) (S.lv (k + 1)) (S.gen (k + 1)) (putF φ o.dst a) G' act2.tmps w2
      cases hdst : o.dst with
      | none =>
        rw [hdst] at hs2
        refine ⟨{ hs2 with frame := fun t a ha => by simp [look] at ha }, fun t x hx => hs2.frame t x ?_⟩
        show look (p ++ fallF n φ) t = some x
        rw [hlook]
        exact hx
      | some d =>
        rw [hdst] at hs2
        refine ⟨{ hs2 with frame := fun t a ha => by simp [look] at ha }, fun t x hx => hs2.frame t x ?_⟩
        show look ((d, a) :: (p ++ fallF n φ)) t = some x
        rw [putF_look hlook]
        exact hx
    · simp only at hph hx
      have hbf : b0 = false := by cases b0 with | false => rfl | true => rw [hb0 rfl] at hph; cases hph
      have hm := monoB_spec ((hok hbf).mono k (List.getElem?_eq_some_iff.1 hc).1)
      cases hdst : o.dst with
      | none => rw [hdst] at hx; exact ren_fix hm x (hfix hph t x hx)
      | some d =>
        rw [hdst] at hx
        simp only [putF] at hx
        split at hx
        · cases hx; exact hr (by rw [← hph]; exact hal)
        · exact ren_fix hm x (hfix hph t x hx)
  · have hkc : ¬ S.cs[k]? = some i := fun h => nc (List.mem_of_getElem? h)
    rw [if_neg hkc, if_pos hal'] at hK
    have hw : Region.wanted o (yielded ops tmps) = true := by simp [Region.wanted, hg]
    rw [hw, if_pos rfl]
    refine .inl ?_
    have hbf : b0 = false := by cases b0 with | false => rfl | true => cases hb0 rfl
    obtain ⟨⟨hO, hpos⟩, hBR, hLR⟩ := (hok hbf).at k hkl
    have hlook : ∀ t, look (fallF n φ) t = φ t := look_all (p := []) (simF_lt hs) (fun t x hx => by simp [look] at hx)
    have hs' := hs.toG (f := fallF n φ) fun t x hx => by rw [← hlook]; exact hx
    have hwo : WO P C n ops (fun e st => e = .normal ∧ st = St.put ⟨fallF n φ, (S.gen k, S.z) :: S.bx k false, S.lv k, S.gen k + 1⟩ o.dst (.ptr (S.gen k) 0)) [o] ⟨fallF n φ, S.bx k false, S.lv k, S.gen k⟩ :=
      WO.alloc T hg hd hop he (WO.nil ⟨rfl, by rw [hz]⟩)
    refine Oper.wp_mono (fun act2 w2 ⟨hdf, G', hs2⟩ => hK act2 w2 ⟨fun _ => rfl, hdf, renG (S.ord k) G', ?_, fun h => by cases h⟩) (WO.one_ hg hwo hs')
    simp only [orderB, Bool.and_eq_true] at hO
    obtain ⟨⟨hO1, hO2⟩, hO3⟩ := hO
    rw [hdst] at hs2 ⊢
    have h3 : SimG C n ⟨(d, .ptr S.g0 0) :: fallF n φ, S.bxT k, S.lv k, S.gen k⟩ (renG (S.ord k) G') act2.tmps w2 := by
      refine SimG.ren (gen' := S.gen k) hs2 (S.ord k) (nodup_of hO1) (Nat.le_of_ble_eq_true hO2) (fun i hi => ?_) (fun t x hx => ?_) (fun i l' hl' => ?_) (fun i hi => ?_)
      · have h4 := headB_get hO3 i (by rw [← hnb.h]; exact hi)
        simpa using h4
      · rw [look_cons] at hx
        show ∃ a, look ((d, .ptr (S.gen k) 0) :: fallF n φ) t = some a ∧ ren (S.ord k) a = x
        rw [look_cons]
        split at hx
        · rename_i e
          rw [if_pos e]
          cases hx
          exact ⟨_, rfl, by simp only [ren, hpos]⟩
        · rename_i e
          rw [if_neg e]
          rw [hlook] at hx ⊢
          exact ⟨x, hx, hfix rfl t x hx⟩
      · exact SubBR.le hBR i l' hl'
      · exact lvR_mem hLR i hi
    refine ⟨{ h3 with frame := fun t a ha => by simp [look] at ha }, fun t x hx => h3.frame t x ?_⟩
    show look ((d, _) :: fallF n φ) t = some x
    rw [putF_look hlook]
    exact hx
  · have hkc : ¬ S.cs[k]? = some i := fun h => nc (List.mem_of_getElem? h)
    rw [if_neg hkc, if_neg nal] at hK
    obtain ⟨hya, hr⟩ := hya k ph hkl hal
    have hfix' : ph = false → ∀ t x, putF φ o.dst a t = some x → ren (S.ord k) x = x := fun hph t x hx => by
      cases hdst : o.dst with
      | none => rw [hdst] at hx; exact hfix hph t x hx
      | some d =>
        rw [hdst] at hx
        simp only [putF] at hx
        split at hx
        · cases hx; exact hr hph
        · exact hfix hph t x hx
    obtain ⟨_, ⟨hw, f, hf, hp⟩ | ⟨hw, rfl⟩⟩ := hya
    · rw [wanted_of hs hw]
      simp only [if_true]
      refine .inl ?_
      have hg : Gives P o ⟨tmps, []⟩ w fun v w' => Below w.heap.size w w' ∧ Rep (enOf C G (S.gen k) w') v a := hp G tmps w (hs.toG fun t x hx => (hf t x hx).1)
      refine hg.wp fun v w' ⟨hb, hr⟩ => ?_
      rw [Act.put_eq]
      exact hK _ _ ⟨hb0, rfl, G, hs.step hb hd hr, hfix'⟩
    · rw [wanted_of hs hw]
      simp only [Bool.false_eq_true, if_false]
      rw [Act.put_eq]
      exact hK _ _ ⟨hb0, rfl, G, hs.step (Below.refl _ _) hd (.tup #[] [] rfl (by simp)), hfix'⟩
/-- the walk of such a region, over frames that are lists -/
def CD (P : Program) (T : Tab P) (C : Ctx) (n : Nat) (S : ParD) (ops : Array Oper) (Q : St → Prop) (l : List Oper) (i : Nat) (f : List (Nat × A)) (k : Nat) (b : Bool) : Prop :=
  ceG (YD P T C n S ops) (efD S ops) (fun σ => ∃ f', (∀ t, look f' t = σ.1 t) ∧ σ.2 = (S.cs.length, true) ∧ Q ⟨f', S.bxT S.cs.length, S.lv S.cs.length, S.gen S.cs.length⟩) l i (look f, k, b)
def chainB (ops : Array Oper) : List Nat → Bool
  | c :: c' :: r => reachB .any ops ops.size c' c && chainB ops (c' :: r)
  | _ => true
theorem chainB_spec {ops : Array Oper} : ∀ {cs : List Nat}, chainB ops cs = true → ∀ k c c', cs[k]? = some c → cs[k + 1]? = some c' → reachB .any ops ops.size c' c = true
  | [], _, k, c, c', h, _ => by simp at h
  | [_], _, k, c, c', _, h => by simp at h
  | x :: y :: r, h, k, c, c', h1, h2 => by
    simp only [chainB, Bool.and_eq_true] at h
    cases k with
    | zero =>
      simp at h1 h2
      subst h1; subst h2
      exact h.1
    | succ k => exact chainB_spec h.2 k c c' (by simpa using h1) (by simpa using h2)
def AllFix (o : List Nat) : List (Nat × A) → Prop
  | [] => True
  | (_, a) :: r => ren o a = a ∧ AllFix o r
theorem AllFix.at {o : List Nat} : ∀ {f : List (Nat × A)}, AllFix o f → ∀ t a, look f t = some a → ren o a = a
  | [], _, t, a, h => by simp [look] at h
  | (s, x) :: r, hf, t, a, h => by
    rw [look_cons] at h
    split at h
    · cases h; exact hf.1
    · exact hf.2.at t a h

theorem W.regionChain (T : Tab P) {nb : Nat} [hnb : NB C nb] {id : Nat} {l l1 l2 : List Oper} {f : List (Nat × A)} {bx : List (Nat × List A)} {lv : List Nat} {gen : Nat} {Q : Exit → St → Prop} (S : ParD) (b0 : Bool) (m : Nat) (hB : regionOKC m l.toArray = true) (hch : chainB l.toArray S.cs = true) (h1 : l.take m = l1) (h2 : l.drop m = l2)
    (hok : b0 = false → okD S nb S.cs.length ∧ AllFix (S.ord 0) f) (e1 : ∀ g c, look' (S.bx 0 b0) g = some c → look' bx g = some c) (e2 : S.lv 0 = lv) (e3 : Nat.ble gen (S.gen 0) = true)
    (h : CD P T C n S l.toArray (WO P C n l.toArray Q l2) l1 0 f 0 b0) : W P C n (.region id l.toArray true) Q ⟨f, bx, lv, gen⟩ := by
  subst h1; subst h2; subst e2
  intro tmps w ⟨G, hs⟩
  have hs : SimG C n ⟨f, bx, S.lv 0, S.gen 0⟩ G tmps w := SimG.later hs (g := S.gen 0) (Nat.le_of_ble_eq_true e3)
  have hs : SimG C n ⟨f, S.bx 0 b0, S.lv 0, S.gen 0⟩ G tmps w := { hs with box := fun g c hc => hs.box g c (e1 g c hc) }
  simp only [regionOKC, Bool.and_eq_true] at hB
  obtain ⟨⟨⟨hm, hw⟩, hfore⟩, hlex⟩ := hB
  have hm : m ≤ l.length := by simpa using Nat.le_of_ble_eq_true hm
  have hb : Below w.heap.size w { w with drawn := w.drawn + 1 } := (Below.refl _ w).drew
  have hs' : SimF C n (S.bx 0 b0) (S.lv 0) (S.gen 0) (look f) G tmps { w with drawn := w.drawn + 1 } := SimF.ofG (hs.evolve hb).2
  have hlen : (l.take m).length = m := by simp; omega
  refine wp_region_any T.mixed ?_
  have hsz : l.toArray.size = (l.take m).length + (l.drop m).length := by simp; omega
  rw [hsz]
  have hcl : Closed .any l.toArray (Array.replicate ((l.take m).length + (l.drop m).length) false) := fun j oj _ hl _ _ _ => by
    by_cases q : j < (l.take m).length + (l.drop m).length
    · simp only [Array.getD_eq_getD_getElem?, Array.getElem?_replicate] at hl
      rw [if_pos q] at hl
      cases hl
    · simp only [Array.getD_eq_getD_getElem?, Array.getElem?_replicate] at hl
      rw [if_neg q] at hl
      cases hl
  refine wpAny_of_G (m := m) (Sm := SmD C n S b0) (Y := YD P T C n S l.toArray) (ef := efD S l.toArray) (Q := fun σ => ∃ f', (∀ t, look f' t = σ.1 t) ∧ σ.2 = (S.cs.length, true) ∧ WO P C n l.toArray Q (l.drop m) ⟨f', S.bxT S.cs.length, S.lv S.cs.length, S.gen S.cs.length⟩)
    (fun i e σ act w K hs hy hk => soundD b0 (fun h => (hok h).1) i e σ act w K hs hy hk) (fun listed σ act w hs hc hsp ⟨f', e1, e2, hq⟩ => ?_) _ _ (look f, 0, b0) ⟨tmps, []⟩ _ ⟨fun h => h, rfl, G, hs', fun h => (hok h).2.at⟩ hcl ?_
  · obtain ⟨tmps, dfs⟩ := act
    obtain ⟨_, rfl, G, hs, _⟩ := hs
    rw [e2] at hs
    refine wpAny_tailT hw (foreB_spec hfore) (l.drop m) m listed ⟨tmps, []⟩ w (Nat.le_refl _) (by simp; omega) (fun j => by simp [List.getElem?_drop]) hc hsp.1 hsp.2.1 hsp.2.2 ?_
    exact hq tmps w ⟨G, hs.toG (fun t a ha => by rw [← e1]; exact ha)⟩
  · refine wpG_lexR hw (fun i j oi oj hi hj hij him hjm hap hno => swapD (chainB_spec hch) hi hj hij hap hno) (l.take m) 0 _ _ (by rw [hlen]; omega) (fun j hj => ?_) hcl (by simp; omega) (fun j hj => by omega) (fun j _ hj => ?_) (by rw [hlen]; rw [hsz, hlen] at hlex; exact hlex) h
    · rw [hlen] at hj
      rw [Nat.zero_add]
      simp [List.getElem?_take, hj]
    · have hj' : j < l.length := by simpa using hj
      have e : min m l.length + (l.length - m) = l.length := by omega
      simp [e, hj']

variable {op : Op} {ty : TypeId} {pos : String} {af : Array Edge} {a : A} {d i k : Nat} {rest : List Oper} {f : List (Nat × A)} {Q : St → Prop} {b : Bool}
theorem CD.nil (h : Q ⟨f, S.bxT S.cs.length, S.lv S.cs.length, S.gen S.cs.length⟩) (hk : Nat.beq k S.cs.length = true) : CD P T C n S ops Q [] i f k true := by
  have := Nat.eq_of_beq_eq_true hk
  subst this
  exact ⟨f, fun _ => rfl, rfl, h⟩
def allD (p : Nat → Bool → Prop) : Nat → Prop
  | 0 => p 0 false ∧ p 0 true
  | k + 1 => p (k + 1) false ∧ p (k + 1) true ∧ allD p k
theorem allD.at {p : Nat → Bool → Prop} : ∀ {m : Nat}, allD p m → ∀ k b, k ≤ m → p k b
  | 0, h, k, b, hk => by
    obtain rfl : k = 0 := by omega
    cases b
    · exact h.1
    · exact h.2
  | m + 1, h, k, b, hk => by
    rcases Nat.lt_or_ge k (m + 1) with hlt | hge
    · exact h.2.2.at k b (by omega)
    · obtain rfl : k = m + 1 := by omega
      cases b
      · exact h.1
      · exact h.2.1
def memB (x : Nat) (l : List Nat) : Bool := l.any fun y => Nat.beq x y
theorem memB_not {x : Nat} {l : List Nat} (h : memB x l = false) : x ∉ l := fun hm => by
  have : memB x l = true := List.any_eq_true.2 ⟨x, hm, by simp⟩
  rw [h] at this
  cases this
/-- an operation that leaves the ghost -/
theorem cdPu (hp : allD (fun k b => alw S ops i k b = true → Pu P C n ⟨restr f (slotsOf op), S.bx k b, S.lv k, S.gen k⟩ ⟨some d, op, ty, pos, af, none⟩ a ∧ (b = false → ren (S.ord k) a = a)) S.cs.length)
    (hi : ops[i]? = some ⟨some d, op, ty, pos, af, none⟩) (h1 : memB i S.cs = false) (h2 : Nat.beq i S.al = false) (h3 : (Nat.ble k S.cs.length && alw S ops i k b) = true) (hd : Nat.blt d n = true)
    (h : CD P T C n S ops Q rest (i + 1) ((d, a) :: f) k b) : CD P T C n S ops Q (⟨some d, op, ty, pos, af, none⟩ :: rest) i f k b := by
  simp only [Bool.and_eq_true] at h3
  have nc := memB_not h1
  have na : i ≠ S.al := fun e => by subst e; simp at h2
  refine ⟨a, ⟨_, hi, hd, Nat.le_of_ble_eq_true h3.1, h3.2, .inr (.inr ⟨nc, na, fun k b hk ha => ⟨YA.of_pu (hp.at k b hk ha).1 hd, (hp.at k b hk ha).2⟩⟩)⟩, ?_⟩
  rw [efD_at hi]
  simp only [if_neg na, if_neg (fun e => nc (List.mem_of_getElem? e) : ¬ S.cs[k]? = some i)]
  unfold CD at h
  rw [look_put] at h
  exact h
/-- one of the chain -/
theorem cdX (hx : ∀ b, alw S ops i k b = true → ∀ g, WO P C n ops (fun e st => e = .normal ∧ st = ⟨(d, a) :: (restr f (slotsOf op) ++ g), S.bx (k + 1) b, S.lv (k + 1), S.gen (k + 1)⟩) [⟨some d, op, ty, pos, af, none⟩] ⟨restr f (slotsOf op) ++ g, S.bx k b, S.lv k, S.gen k⟩)
    (hi : ops[i]? = some ⟨some d, op, ty, pos, af, none⟩) (h1 : S.cs[k]? = some i) (h2 : Nat.beq i S.al = false) (h3 : alw S ops i k b = true) (hr : alw S ops i k false = true → ren (S.ord (k + 1)) a = a) (hd : Nat.blt d n = true) (h : CD P T C n S ops Q rest (i + 1) ((d, a) :: f) (k + 1) b) : CD P T C n S ops Q (⟨some d, op, ty, pos, af, none⟩ :: rest) i f k b := by
  have na : i ≠ S.al := fun e => by subst e; simp at h2
  refine ⟨a, ⟨_, hi, hd, Nat.le_of_lt (List.getElem?_eq_some_iff.1 h1).1, h3, .inl ⟨h1, na, fun b hb => ⟨rfl, restr f (slotsOf op), fun t x hx => ?_, fun g => hx b hb g⟩, hr⟩⟩, ?_⟩
  · obtain ⟨h1, h2⟩ := restr_look hx
    exact ⟨h1, List.mem_append.2 (.inl h2)⟩
  · rw [efD_at hi]
    simp only [if_neg na, if_pos h1]
    unfold CD at h
    rw [look_put] at h
    exact h
/-- the allocation -/
theorem cdAl {e : TypeId} {dt : TyD} (he : look' T.l e = some dt) (hz : S.z = dt.z.map fun v => A.d (.v v)) (hi : ops[i]? = some ⟨some d, .alloc e, ty, pos, af, none⟩) (h1 : memB i S.cs = false) (h2 : Nat.beq i S.al = true) (h3 : (Nat.ble k S.cs.length && alw S ops i k false) = true) (hd : Nat.blt d n = true)
    (h : CD P T C n S ops Q rest (i + 1) ((d, .ptr S.g0 0) :: f) k true) : CD P T C n S ops Q (⟨some d, .alloc e, ty, pos, af, none⟩ :: rest) i f k false := by
  simp only [Bool.and_eq_true] at h3
  have nc := memB_not h1
  have na : i = S.al := Nat.eq_of_beq_eq_true h2
  refine ⟨.ptr S.g0 0, ⟨_, hi, hd, Nat.le_of_ble_eq_true h3.1, h3.2, .inr (.inl ⟨nc, na, rfl, rfl, rfl, e, d, dt, rfl, rfl, he, hz⟩)⟩, ?_⟩
  rw [efD_at hi]
  simp only [if_pos na, if_neg (fun e => nc (List.mem_of_getElem? e) : ¬ S.cs[k]? = some i)]
  unfold CD at h
  rw [look_put] at h
  exact h

end
end Go.Ab
