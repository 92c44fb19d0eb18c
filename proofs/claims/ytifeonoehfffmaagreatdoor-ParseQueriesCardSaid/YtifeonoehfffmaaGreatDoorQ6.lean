import Derived.Test.YtifeonoehfffmaaGreatDoorQ5
namespace Go.Proofs.YtifeonoehfffmaaGreatDoor
open Go.Ab Go.Tb
set_option maxRecDepth 10000
attribute [local irreducible] W WO Pu QS QB QL QF QV QV1 CH QE
@[reducible] def bxR (L : List Tk) (st : PS) : List A := [.d (.sl (L.map Tk.r)), .d (.v (.int .i64 (st.1 : Int))), .d (.v (.bool st.2))]
theorem tk_get {L : List Tk} {k : Nat} {b : Bool} (h : k < L.length) : L[k]? = some (tk0 L (k, b)) := by
 unfold tk0
 rw [List.getElem?_eq_getElem h]
 rfl
def wordX (x : ByteArray) : Bool := match bys x with | c :: _ => letB c | [] => false
def signX (x : ByteArray) : Bool := match bys x with | c :: _ => !letB c | [] => false
theorem kindR_4 {t : Tk} (h : t.ok = true) : (kindR t.kind = 4) ↔ t.kind = 5 := by
 simp only [Tk.ok, Bool.and_eq_true, decide_eq_true_eq] at h
 unfold kindR
 split
 · rename_i e; rw [e]; decide
 ·
  split
  · rename_i e; rw [e]; decide
  · omega
theorem kindR_1 {t : Tk} (h : t.ok = true) : (kindR t.kind = 1) ↔ t.kind = 2 := by
 simp only [Tk.ok, Bool.and_eq_true, decide_eq_true_eq] at h
 unfold kindR
 split
 · rename_i e; rw [e]; decide
 ·
  split
  · rename_i e; rw [e]; decide
  · omega
theorem kindR_2 {t : Tk} (h : t.ok = true) : (kindR t.kind = 2) ↔ t.kind = 3 := by
 simp only [Tk.ok, Bool.and_eq_true, decide_eq_true_eq] at h
 unfold kindR
 split
 · rename_i e; rw [e]; decide
 ·
  split
  · rename_i e; rw [e]; decide
  · omega
theorem kindR_3 {t : Tk} (h : t.ok = true) : (kindR t.kind = 3) ↔ t.kind = 4 := by
 simp only [Tk.ok, Bool.and_eq_true, decide_eq_true_eq] at h
 unfold kindR
 split
 · rename_i e; rw [e]; decide
 ·
  split
  · rename_i e; rw [e]; decide
  · omega
theorem kindR_0 {t : Tk} (h : t.ok = true) : (kindR t.kind = 0) ↔ t.kind = 0 := by
 simp only [Tk.ok, Bool.and_eq_true, decide_eq_true_eq] at h
 unfold kindR
 split
 · rename_i e; rw [e]
 ·
  split
  · rename_i e; rw [e]; decide
  · omega
theorem isT_sign {t : Tk} (h : t.ok = true) {x : ByteArray} (hx : signX x = true) : isT t x = (decide (kindR t.kind = 4) && decide (t.s = x)) := by
 unfold isT
 rw [Bool.eq_iff_iff]
 simp only [Bool.and_eq_true, Bool.or_eq_true, decide_eq_true_eq, kindR_4 h]
 constructor
 ·
  rintro ⟨h5 | h2, rfl⟩
  · exact ⟨h5, rfl⟩
  ·
   simp only [Tk.ok, Bool.and_eq_true, Bool.or_eq_true, Bool.not_eq_true', decide_eq_false_iff_not] at h
   have := h.1.1.1.1.resolve_left (fun e => e h2)
   unfold signX at hx
   split at this
   · rename_i q; rw [q] at hx; simp [this] at hx
   · cases this
 ·
  rintro ⟨h5, rfl⟩
  exact ⟨.inl h5, rfl⟩
theorem isT_word {t : Tk} (h : t.ok = true) {x : ByteArray} (hx : wordX x = true) : isT t x = (decide (kindR t.kind = 1) && decide (t.s = x)) := by
 unfold isT
 rw [Bool.eq_iff_iff]
 simp only [Bool.and_eq_true, Bool.or_eq_true, decide_eq_true_eq, kindR_1 h]
 constructor
 ·
  rintro ⟨h5 | h2, rfl⟩
  ·
   simp only [Tk.ok, Bool.and_eq_true, Bool.or_eq_true, Bool.not_eq_true', decide_eq_false_iff_not] at h
   have := h.1.1.1.2.resolve_left (fun e => e h5)
   unfold wordX at hx
   split at this
   · rename_i q; rw [q] at hx; simp [hx] at this
   · cases this
  · exact ⟨h2, rfl⟩
 ·
  rintro ⟨h5, rfl⟩
  exact ⟨.inr h5, rfl⟩
theorem tk_ok {L : List Tk} (hw : Wf L) {st : PS} (h : st.1 < L.length) : (tk0 L st).ok = true := by
 obtain ⟨k, b⟩ := st
 exact hw.ok _ (List.mem_of_getElem? (tk_get h))
def isR (L : List Tk) (kind : Int) (x : ByteArray) (st : PS) : Bool := !st.2 && (decide (kindR (tk0 L st).kind = kind) && decide ((tk0 L st).s = x))
theorem ris_fn (L : List Tk) (st : PS) (h : st.1 < L.length) (hL : L.length ≤ 3000000) (kind : Int) (x : ByteArray) : DoesB Tryz.prog 66 [.ptr 0 0, .d (.v (.int .i64 kind)), .d (.v (.string x))] [bxR L st] 0 (.d (.v (.bool (isR L kind x st)))) [bxR L st] 0 := by
 obtain ⟨k, b⟩ := st
 have hx := tk_get (L := L) (k := k) (b := b) h
 refine DoesB.of_V tab (n := 42) (rs := [.tmp 6]) Tryz.func66 (by kernel_rfl) rfl Tryz.ntmps66 Tryz.results66 rfl rfl fun C hC hG => ?_
 refine W.seq (W.region ?_)
 refine pE rfl ?_
 refine WO.nil (qs (W.seq ?_))
 apply regionDB tab; (case hb => rfl); (case hB => kernel_rfl)
 ·
  iterate 3 refine chPu (ev tab rfl) rfl ?_
  first | refine chPu (ev tab rfl) rfl ?_ | refine chPu (loadRow tab rfl rfl rfl rfl) rfl ?_ | refine chPu (loadBox tab rfl rfl rfl rfl rfl) rfl ?_
  iterate 2 refine chPu (ev tab rfl) rfl ?_
  apply chSplitJ; (case hj => rfl); (case hl => rfl)
  ·
   refine chGo rfl rfl (ev tab rfl) rfl ?_
   refine chGo rfl rfl (ev tab rfl) rfl ?_
   refine chGo rfl rfl (ev tab rfl) rfl ?_
   first | refine chGo rfl rfl (ev tab rfl) rfl ?_ | refine chGo rfl rfl (loadRow tab rfl rfl rfl rfl) rfl ?_ | refine chGo rfl rfl (loadBox tab rfl rfl rfl rfl rfl) rfl ?_
   refine chGo rfl rfl (ev tab rfl) rfl ?_
   refine chGo rfl rfl (ev tab rfl) rfl ?_
   refine chGo rfl rfl (ev tab rfl) rfl ?_
   first | refine chGo rfl rfl (ev tab rfl) rfl ?_ | refine chGo rfl rfl (loadRow tab rfl rfl rfl rfl) rfl ?_ | refine chGo rfl rfl (loadBox tab rfl rfl rfl rfl rfl) rfl ?_
   refine chGo rfl rfl (indexAddr (l := (tk0 L (k, b)).r) tab rfl rfl rfl rfl rfl rfl (Int.natCast_nonneg _) (idx_map (f := Tk.r) hx) rfl) rfl ?_
   refine chGo rfl rfl (ev tab rfl) rfl ?_
   first | refine chGo rfl rfl (ev tab rfl) rfl ?_ | refine chGo rfl rfl (loadRow tab rfl rfl rfl rfl) rfl ?_ | refine chGo rfl rfl (loadBox tab rfl rfl rfl rfl rfl) rfl ?_
   refine chGo rfl rfl (ev tab rfl) rfl ?_
   refine chGo rfl rfl (ev tab rfl) rfl ?_
   iterate 2 refine chPu (ev tab rfl) rfl ?_
   apply chSplitJ; (case hj => rfl); (case hl => rfl)
   ·
    refine chGo rfl rfl (ev tab rfl) rfl ?_
    refine chGo rfl rfl (ev tab rfl) rfl ?_
    refine chGo rfl rfl (ev tab rfl) rfl ?_
    first | refine chGo rfl rfl (ev tab rfl) rfl ?_ | refine chGo rfl rfl (loadRow tab rfl rfl rfl rfl) rfl ?_ | refine chGo rfl rfl (loadBox tab rfl rfl rfl rfl rfl) rfl ?_
    refine chGo rfl rfl (ev tab rfl) rfl ?_
    refine chGo rfl rfl (ev tab rfl) rfl ?_
    refine chGo rfl rfl (ev tab rfl) rfl ?_
    first | refine chGo rfl rfl (ev tab rfl) rfl ?_ | refine chGo rfl rfl (loadRow tab rfl rfl rfl rfl) rfl ?_ | refine chGo rfl rfl (loadBox tab rfl rfl rfl rfl rfl) rfl ?_
    refine chGo rfl rfl (indexAddr (l := (tk0 L (k, b)).r) tab rfl rfl rfl rfl rfl rfl (Int.natCast_nonneg _) (idx_map (f := Tk.r) hx) rfl) rfl ?_
    refine chGo rfl rfl (ev tab rfl) rfl ?_
    first | refine chGo rfl rfl (ev tab rfl) rfl ?_ | refine chGo rfl rfl (loadRow tab rfl rfl rfl rfl) rfl ?_ | refine chGo rfl rfl (loadBox tab rfl rfl rfl rfl rfl) rfl ?_
    refine chGo rfl rfl (ev tab rfl) rfl ?_
    refine chGo rfl rfl (ev tab rfl) rfl ?_
    iterate 2 refine chPu (ev tab rfl) rfl ?_
    refine CH.nil ?_
    refine qv1 rfl rfl rfl
   ·
    iterate 13 refine chSkip rfl rfl rfl rfl ?_
    iterate 2 refine chPu (ev tab rfl) rfl ?_
    refine CH.nil ?_
    refine qv1 rfl rfl rfl
  ·
   iterate 13 refine chSkip rfl rfl rfl rfl ?_
   iterate 2 refine chPu (ev tab rfl) rfl ?_
   iterate 13 refine chSkip rfl rfl rfl rfl ?_
   iterate 2 refine chPu (ev tab rfl) rfl ?_
   refine CH.nil ?_
   refine qv1 rfl rfl rfl
 refine qs (W.ret ?_)
 refine QB1.end tab [] trivial rfl rfl rfl rfl ?_ ?_
 · exact ⟨rfl, trivial⟩
 refine bool_A ?_
 simp only [isR]
 cases b <;> simp
theorem skB_sign {L : List Tk} (hw : Wf L) {st : PS} (h : st.1 < L.length) {x : ByteArray} (hx : signX x = true) : skB L x st = isR L 4 x st := by unfold skB isR; rw [isT_sign (tk_ok hw h) hx]
theorem skB_word {L : List Tk} (hw : Wf L) {st : PS} (h : st.1 < L.length) {x : ByteArray} (hx : wordX x = true) : skB L x st = isR L 1 x st := by unfold skB isR; rw [isT_word (tk_ok hw h) hx]
theorem isR4_word {L : List Tk} (hw : Wf L) {st : PS} (h : st.1 < L.length) {x : ByteArray} (hx : wordX x = true) : isR L 4 x st = false := by
 have hk := tk_ok hw h
 have e1 := isT_word hk hx
 cases q : isR L 4 x st with
 | false => rfl
 | true =>
  simp only [isR, Bool.and_eq_true, decide_eq_true_eq] at q
  have e2 : isT (tk0 L st) x = true := by unfold isT; simp [(kindR_4 hk).1 q.2.1, q.2.2]
  rw [e2] at e1
  simp [q.2.1] at e1
theorem isR1_sign {L : List Tk} (hw : Wf L) {st : PS} (h : st.1 < L.length) {x : ByteArray} (hx : signX x = true) : isR L 1 x st = false := by
 have hk := tk_ok hw h
 have e1 := isT_sign hk hx
 cases q : isR L 1 x st with
 | false => rfl
 | true =>
  simp only [isR, Bool.and_eq_true, decide_eq_true_eq] at q
  have e2 : isT (tk0 L st) x = true := by unfold isT; simp [(kindR_1 hk).1 q.2.1, q.2.2]
  rw [e2] at e1
  simp [q.2.1] at e1
theorem rsg_any (L : List Tk) (st : PS) (h : st.1 < L.length) (hL : L.length ≤ 3000000) (x : ByteArray) : DoesB Tryz.prog 33 [.ptr 0 0, .d (.v (.string x))] [bxR L st] 0 (.d (.v (.bool (isR L 4 x st)))) [bxR L (if isR L 4 x st then adv st else st)] 0 := by
 refine DoesB.of_V tab (n := 17) (rs := [.tmp 4]) Tryz.func33 (by kernel_rfl) rfl Tryz.ntmps33 Tryz.results33 rfl rfl fun C hC hG => ?_
 refine W.seq (W.region ?_)
 refine pE rfl ?_
 refine WO.nil (qs ?_)
 iterate 2 refine W.seq ?_
 refine W.region ?_
 iterate 2 refine pE rfl ?_
 refine callB [0] [] rfl rfl rfl rfl rfl ((ris_fn L st h hL 4 x)) rfl rfl (by rfl) (by rfl) rfl rfl rfl rfl ?_
 refine pE rfl ?_
 refine WO.nil (qs ?_)
 refine condK rfl (fun h8 => ?_) (fun h8 => ?_)
 ·
  have e : isR L 4 x st = false := by simpa using h8
  rw [e]
  refine W.seq (W.region ?_)
  refine pE rfl ?_
  refine WO.nil (qs (W.ret (qsRet ?_)))
  refine QB1.end tab [] trivial rfl rfl rfl rfl ?_ ?_
  · exact ⟨rfl, trivial⟩
  rfl
 ·
  have e : isR L 4 x st = true := by simpa using h8
  rw [e]
  refine W.skip (qs (W.seq (W.region ?_)))
  iterate 4 refine pE rfl ?_
  first | refine pE rfl ?_ | refine pR rfl rfl rfl rfl rfl ?_ | refine pB rfl rfl rfl rfl rfl rfl ?_
  refine pu (puI (ev tab rfl) (y := ((st.1 + 1 : Nat) : Int)) (by rw [wrap64 (by omega)]; rfl)) rfl ?_
  iterate 2 refine pE rfl ?_
  refine storeR tab rfl rfl rfl rfl rfl rfl rfl rfl ?_
  refine WO.nil (qs (W.seq (W.region ?_)))
  refine pE rfl ?_
  refine WO.nil (qs (W.ret ?_))
  refine QB1.end tab [] trivial rfl rfl rfl rfl ?_ ?_
  · exact ⟨rfl, trivial⟩
  rfl
theorem rwd_any (L : List Tk) (st : PS) (h : st.1 < L.length) (hL : L.length ≤ 3000000) (x : ByteArray) : DoesB Tryz.prog 64 [.ptr 0 0, .d (.v (.string x))] [bxR L st] 0 (.d (.v (.bool (isR L 1 x st)))) [bxR L (if isR L 1 x st then adv st else st)] 0 := by
 refine DoesB.of_V tab (n := 17) (rs := [.tmp 4]) Tryz.func64 (by kernel_rfl) rfl Tryz.ntmps64 Tryz.results64 rfl rfl fun C hC hG => ?_
 refine W.seq (W.region ?_)
 refine pE rfl ?_
 refine WO.nil (qs ?_)
 iterate 2 refine W.seq ?_
 refine W.region ?_
 iterate 2 refine pE rfl ?_
 refine callB [0] [] rfl rfl rfl rfl rfl ((ris_fn L st h hL 1 x)) rfl rfl (by rfl) (by rfl) rfl rfl rfl rfl ?_
 refine pE rfl ?_
 refine WO.nil (qs ?_)
 refine condK rfl (fun h8 => ?_) (fun h8 => ?_)
 ·
  have e : isR L 1 x st = false := by simpa using h8
  rw [e]
  refine W.seq (W.region ?_)
  refine pE rfl ?_
  refine WO.nil (qs (W.ret (qsRet ?_)))
  refine QB1.end tab [] trivial rfl rfl rfl rfl ?_ ?_
  · exact ⟨rfl, trivial⟩
  rfl
 ·
  have e : isR L 1 x st = true := by simpa using h8
  rw [e]
  refine W.skip (qs (W.seq (W.region ?_)))
  iterate 4 refine pE rfl ?_
  first | refine pE rfl ?_ | refine pR rfl rfl rfl rfl rfl ?_ | refine pB rfl rfl rfl rfl rfl rfl ?_
  refine pu (puI (ev tab rfl) (y := ((st.1 + 1 : Nat) : Int)) (by rw [wrap64 (by omega)]; rfl)) rfl ?_
  iterate 2 refine pE rfl ?_
  refine storeR tab rfl rfl rfl rfl rfl rfl rfl rfl ?_
  refine WO.nil (qs (W.seq (W.region ?_)))
  refine pE rfl ?_
  refine WO.nil (qs (W.ret ?_))
  refine QB1.end tab [] trivial rfl rfl rfl rfl ?_ ?_
  · exact ⟨rfl, trivial⟩
  rfl
theorem rsg_fn (L : List Tk) (hw : Wf L) (x : ByteArray) (hx : signX x = true) (st : PS) (h : st.1 < L.length) (hL : L.length ≤ 3000000) : DoesB Tryz.prog 33 [.ptr 0 0, .d (.v (.string x))] [bxR L st] 0 (.d (.v (.bool (skB L x st)))) [bxR L (skS L x st)] 0 := by
 have := rsg_any L st h hL x
 rw [← skB_sign hw h hx] at this
 exact this
theorem rwd_fn (L : List Tk) (hw : Wf L) (x : ByteArray) (hx : wordX x = true) (st : PS) (h : st.1 < L.length) (hL : L.length ≤ 3000000) : DoesB Tryz.prog 64 [.ptr 0 0, .d (.v (.string x))] [bxR L st] 0 (.d (.v (.bool (skB L x st)))) [bxR L (skS L x st)] 0 := by
 have := rwd_any L st h hL x
 rw [← skB_word hw h hx] at this
 exact this
theorem isR_go {L : List Tk} (hw : Wf L) {st : PS} (h : st.1 < L.length) {kind : Int} {x : ByteArray} (hk : kind = 4 ∨ kind = 1 ∨ kind = 2 ∨ kind = 3) (hr : isR L kind x st = true) : st.1 + 1 < L.length := by
 refine hw.more h ?_
 have ht := tk_ok hw h
 simp only [isR, Bool.and_eq_true, decide_eq_true_eq] at hr
 have h2 := hr.2.1
 have : (tk0 L st).kind ≠ 0 ∧ (tk0 L st).kind ≠ 1 := by
  constructor
  · intro e; rw [e] at h2; simp [kindR] at h2; omega
  · intro e; rw [e] at h2; simp [kindR] at h2; omega
 simp [Tk.stops, this.1, this.2]
theorem rneed_fn (L : List Tk) (hw : Wf L) (x : ByteArray) (hx : signX x = true ∨ wordX x = true) (st : PS) (h : st.1 < L.length) (hL : L.length ≤ 3000000) : DoesB Tryz.prog 31 [.ptr 0 0, .d (.v (.string x))] [bxR L st] 0 (.tup []) [bxR L (needP L x st)] 0 := by
 have hk : skB L x st = (isR L 4 x st || isR L 1 x st) := by
  rcases hx with hx | hx
  · rw [skB_sign hw h hx, isR1_sign hw h hx, Bool.or_false]
  · rw [skB_word hw h hx, isR4_word hw h hx, Bool.false_or]
 have l1 : (if isR L 4 x st then adv st else st).1 < L.length := by
  by_cases q : isR L 4 x st = true
  · rw [if_pos q]; exact isR_go hw h (.inl rfl) q
  · rw [if_neg q]; exact h
 have key : needP L x st = if isR L 4 x st then adv st else if isR L 1 x st then adv st else failS st := by
  unfold needP
  rw [hk]
  cases isR L 4 x st <;> cases isR L 1 x st <;> rfl
 rw [key]
 refine DoesB.of_V tab (n := 17) (rs := []) Tryz.func31 (by kernel_rfl) rfl Tryz.ntmps31 Tryz.results31 rfl rfl fun C hC hG => ?_
 refine W.seq (W.region ?_)
 iterate 2 refine pE rfl ?_
 refine callB [0] [] rfl rfl rfl rfl rfl ((rsg_any L st h hL x)) rfl rfl (by rfl) (by rfl) rfl rfl rfl rfl ?_
 iterate 2 refine pE rfl ?_
 refine splitG rfl rfl (fun g8 => ?_) (fun g8 => ?_)
 ·
  refine goG rfl rfl ?_
  refine pE rfl ?_
  refine goG rfl rfl ?_
  refine pE rfl ?_
  refine goG rfl rfl ?_
  refine callB [0] [] rfl rfl rfl rfl rfl ((rwd_any L _ l1 hL x)) rfl rfl (by rfl) (by rfl) rfl rfl rfl rfl ?_
  refine goG rfl rfl ?_
  iterate 2 refine pE rfl ?_
  refine WO.nil (qs ?_)
  refine condK rfl (fun h13 => ?_) (fun h13 => ?_)
  ·
   refine W.region ?_
   iterate 3 refine pE rfl ?_
   refine storeR tab rfl rfl rfl rfl rfl rfl rfl rfl ?_
   refine WO.nil ?_
   refine QB1.end tab [] trivial rfl rfl rfl rfl ?_ ?_
   ·
    have e4 : isR L 4 x st = false := by simpa using g8
    simp only [e4, Bool.false_eq_true, if_false] at h13 ⊢
    have e1 : isR L 1 x st = false := by simpa using h13
    simp only [e1, Bool.false_eq_true, if_false]
    exact ⟨rfl, trivial⟩
   rfl
  ·
   refine W.skip ?_
   refine QB1.end tab [] trivial rfl rfl rfl rfl ?_ ?_
   ·
    have e4 : isR L 4 x st = false := by simpa using g8
    simp only [e4, Bool.false_eq_true, if_false] at h13 ⊢
    have e1 : isR L 1 x st = true := by simpa using h13
    simp only [e1, if_true]
    exact ⟨rfl, trivial⟩
   rfl
 ·
  iterate 4 refine skipT rfl rfl rfl rfl ?_
  refine pE rfl ?_
  refine WO.nil (qs ?_)
  refine W.condF rfl ?_
  refine W.skip ?_
  refine QB1.end tab [] trivial rfl rfl rfl rfl ?_ ?_
  ·
   have e4 : isR L 4 x st = true := by simpa using g8
   simp only [e4, if_true]
   exact ⟨rfl, trivial⟩
  rfl
theorem rresvd_fn (x : ByteArray) : Does Tryz.prog 108 [.d (.v (.string x))] (.d (.v (.bool (resvd x)))) 0 := by
 refine Does.of_W (n := 11) (ts := [2]) Tryz.func108 (by kernel_rfl) rfl Tryz.ntmps108 Tryz.results108 rfl rfl fun C hC hG => ?_
 refine W.seq (W.region ?_)
 refine pE rfl ?_
 refine WO.nil (qs ?_)
 iterate 2 refine W.seq ?_
 refine W.region ?_
 refine pE rfl ?_
 refine WO.nil (qs (W.block ?_))
 iterate 2 refine W.seq ?_
 refine W.region ?_
 iterate 2 refine pE rfl ?_
 refine WO.nil (qs ?_)
 refine condK rfl (fun h4 => ?_) (fun h4 => ?_)
 ·
  refine W.skip (qs ?_)
  refine W.condT rfl ?_
  refine W.seq (W.region ?_)
  refine pE rfl ?_
  refine WO.nil (qs (W.ret (qbRet (qsRet ?_))))
  refine QF.ret0 trivial rfl ?_
  simp only [resvd, words, List.any_cons, List.any_nil]
  simp_all
  rfl
 ·
  refine W.seq (W.region ?_)
  iterate 2 refine pE rfl ?_
  refine WO.nil (qs ?_)
  refine condK rfl (fun h4 => ?_) (fun h4 => ?_)
  ·
   refine W.skip (qs ?_)
   refine W.condT rfl ?_
   refine W.seq (W.region ?_)
   refine pE rfl ?_
   refine WO.nil (qs (W.ret (qbRet (qsRet ?_))))
   refine QF.ret0 trivial rfl ?_
   simp only [resvd, words, List.any_cons, List.any_nil]
   simp_all
   rfl
  ·
   refine W.seq (W.region ?_)
   iterate 2 refine pE rfl ?_
   refine WO.nil (qs ?_)
   refine condK rfl (fun h4 => ?_) (fun h4 => ?_)
   ·
    refine W.skip (qs ?_)
    refine W.condT rfl ?_
    refine W.seq (W.region ?_)
    refine pE rfl ?_
    refine WO.nil (qs (W.ret (qbRet (qsRet ?_))))
    refine QF.ret0 trivial rfl ?_
    simp only [resvd, words, List.any_cons, List.any_nil]
    simp_all
    rfl
   ·
    refine W.seq (W.region ?_)
    iterate 2 refine pE rfl ?_
    refine WO.nil (qs ?_)
    refine condK rfl (fun h4 => ?_) (fun h4 => ?_)
    ·
     refine W.skip (qs ?_)
     refine W.condT rfl ?_
     refine W.seq (W.region ?_)
     refine pE rfl ?_
     refine WO.nil (qs (W.ret (qbRet (qsRet ?_))))
     refine QF.ret0 trivial rfl ?_
     simp only [resvd, words, List.any_cons, List.any_nil]
     simp_all
     rfl
    ·
     refine W.seq (W.region ?_)
     iterate 2 refine pE rfl ?_
     refine WO.nil (qs ?_)
     refine condK rfl (fun h4 => ?_) (fun h4 => ?_)
     ·
      refine W.skip (qs ?_)
      refine W.condT rfl ?_
      refine W.seq (W.region ?_)
      refine pE rfl ?_
      refine WO.nil (qs (W.ret (qbRet (qsRet ?_))))
      refine QF.ret0 trivial rfl ?_
      simp only [resvd, words, List.any_cons, List.any_nil]
      simp_all
      rfl
     ·
      refine W.region ?_
      iterate 2 refine pE rfl ?_
      refine WO.nil (qs ?_)
      refine condK rfl (fun h4 => ?_) (fun h4 => ?_)
      ·
       refine W.seq (W.region ?_)
       refine pE rfl ?_
       refine WO.nil (qs (W.ret (qbRet (qsRet ?_))))
       refine QF.ret0 trivial rfl ?_
       simp only [resvd, words, List.any_cons, List.any_nil]
       simp_all
       rfl
      ·
       refine W.skip (qbN (qs (W.seq (W.region ?_))))
       refine pE rfl ?_
       refine WO.nil (qs (W.ret ?_))
       refine QF.ret0 trivial rfl ?_
       simp only [resvd, words, List.any_cons, List.any_nil]
       simp_all
       rfl
end Go.Proofs.YtifeonoehfffmaaGreatDoor
namespace Go.Proofs.YtifeonoehfffmaaGreatDoor
open Go.Ab Go.Tb
set_option maxRecDepth 10000
attribute [local irreducible] W WO Pu QS QB QL QF QV QV1 CH QE
theorem rnamed_fn (L : List Tk) (hw : Wf L) (st : PS) (h : st.1 < L.length) (hL : L.length ≤ 3000000) : DoesB Tryz.prog 65 [.ptr 0 0] [bxR L st] 0 (.d (.v (.bool (nameB L st)))) [bxR L st] 0 := by
 obtain ⟨k, b⟩ := st
 have hx := tk_get (L := L) (k := k) (b := b) h
 have hk := kindR_1 (tk_ok hw h)
 refine DoesB.of_V tab (n := 37) (rs := [.tmp 2]) Tryz.func65 (by kernel_rfl) rfl Tryz.ntmps65 Tryz.results65 rfl rfl fun C hC hG => ?_
 refine W.seq (W.region ?_)
 refine pE rfl ?_
 refine WO.nil (qs (W.seq ?_))
 apply regionDB tab; (case hb => rfl); (case hB => kernel_rfl)
 ·
  iterate 3 refine chPu (ev tab rfl) rfl ?_
  first | refine chPu (ev tab rfl) rfl ?_ | refine chPu (loadRow tab rfl rfl rfl rfl) rfl ?_ | refine chPu (loadBox tab rfl rfl rfl rfl rfl) rfl ?_
  iterate 2 refine chPu (ev tab rfl) rfl ?_
  apply chSplitJ; (case hj => rfl); (case hl => rfl)
  ·
   refine chGo rfl rfl (ev tab rfl) rfl ?_
   refine chGo rfl rfl (ev tab rfl) rfl ?_
   refine chGo rfl rfl (ev tab rfl) rfl ?_
   first | refine chGo rfl rfl (ev tab rfl) rfl ?_ | refine chGo rfl rfl (loadRow tab rfl rfl rfl rfl) rfl ?_ | refine chGo rfl rfl (loadBox tab rfl rfl rfl rfl rfl) rfl ?_
   refine chGo rfl rfl (ev tab rfl) rfl ?_
   refine chGo rfl rfl (ev tab rfl) rfl ?_
   refine chGo rfl rfl (ev tab rfl) rfl ?_
   first | refine chGo rfl rfl (ev tab rfl) rfl ?_ | refine chGo rfl rfl (loadRow tab rfl rfl rfl rfl) rfl ?_ | refine chGo rfl rfl (loadBox tab rfl rfl rfl rfl rfl) rfl ?_
   refine chGo rfl rfl (indexAddr (l := (tk0 L (k, b)).r) tab rfl rfl rfl rfl rfl rfl (Int.natCast_nonneg _) (idx_map (f := Tk.r) hx) rfl) rfl ?_
   refine chGo rfl rfl (ev tab rfl) rfl ?_
   first | refine chGo rfl rfl (ev tab rfl) rfl ?_ | refine chGo rfl rfl (loadRow tab rfl rfl rfl rfl) rfl ?_ | refine chGo rfl rfl (loadBox tab rfl rfl rfl rfl rfl) rfl ?_
   refine chGo rfl rfl (ev tab rfl) rfl ?_
   iterate 2 refine chPu (ev tab rfl) rfl ?_
   apply chSplitJ; (case hj => rfl); (case hl => rfl)
   ·
    refine chGo rfl rfl (ev tab rfl) rfl ?_
    refine chGo rfl rfl (ev tab rfl) rfl ?_
    refine chGo rfl rfl (ev tab rfl) rfl ?_
    first | refine chGo rfl rfl (ev tab rfl) rfl ?_ | refine chGo rfl rfl (loadRow tab rfl rfl rfl rfl) rfl ?_ | refine chGo rfl rfl (loadBox tab rfl rfl rfl rfl rfl) rfl ?_
    refine chGo rfl rfl (ev tab rfl) rfl ?_
    refine chGo rfl rfl (ev tab rfl) rfl ?_
    refine chGo rfl rfl (ev tab rfl) rfl ?_
    first | refine chGo rfl rfl (ev tab rfl) rfl ?_ | refine chGo rfl rfl (loadRow tab rfl rfl rfl rfl) rfl ?_ | refine chGo rfl rfl (loadBox tab rfl rfl rfl rfl rfl) rfl ?_
    refine chGo rfl rfl (indexAddr (l := (tk0 L (k, b)).r) tab rfl rfl rfl rfl rfl rfl (Int.natCast_nonneg _) (idx_map (f := Tk.r) hx) rfl) rfl ?_
    refine chGo rfl rfl (ev tab rfl) rfl ?_
    first | refine chGo rfl rfl (ev tab rfl) rfl ?_ | refine chGo rfl rfl (loadRow tab rfl rfl rfl rfl) rfl ?_ | refine chGo rfl rfl (loadBox tab rfl rfl rfl rfl rfl) rfl ?_
    refine chGo rfl rfl (puCall rfl rfl rfl (rresvd_fn ..) rfl) rfl ?_
    refine chGo rfl rfl (ev tab rfl) rfl ?_
    iterate 2 refine chPu (ev tab rfl) rfl ?_
    refine CH.nil ?_
    refine qv1 rfl rfl rfl
   ·
    iterate 13 refine chSkip rfl rfl rfl rfl ?_
    iterate 2 refine chPu (ev tab rfl) rfl ?_
    refine CH.nil ?_
    refine qv1 rfl rfl rfl
  ·
   iterate 12 refine chSkip rfl rfl rfl rfl ?_
   iterate 2 refine chPu (ev tab rfl) rfl ?_
   iterate 13 refine chSkip rfl rfl rfl rfl ?_
   iterate 2 refine chPu (ev tab rfl) rfl ?_
   refine CH.nil ?_
   refine qv1 rfl rfl rfl
 refine qs (W.ret ?_)
 refine QB1.end tab [] trivial rfl rfl rfl rfl ?_ ?_
 · exact ⟨rfl, trivial⟩
 refine bool_A ?_
 simp only [nameB, hk]
 cases b <;> simp
theorem rname_fn (L : List Tk) (hw : Wf L) (st : PS) (h : st.1 < L.length) (hL : L.length ≤ 3000000) : DoesB Tryz.prog 32 [.ptr 0 0] [bxR L st] 0 (.d (.v (.string (nameP L st).1))) [bxR L (nameP L st).2] 0 := by
 obtain ⟨k, b⟩ := st
 have hx := tk_get (L := L) (k := k) (b := b) h
 refine DoesB.of_V tab (n := 29) (rs := [.tmp 2]) Tryz.func32 (by kernel_rfl) rfl Tryz.ntmps32 Tryz.results32 rfl rfl fun C hC hG => ?_
 refine W.seq (W.region ?_)
 refine pE rfl ?_
 refine WO.nil (qs ?_)
 iterate 2 refine W.seq ?_
 refine W.region ?_
 refine pE rfl ?_
 refine callB [0] [] rfl rfl rfl rfl rfl ((rnamed_fn L hw (k, b) h hL)) rfl rfl (by rfl) (by rfl) rfl rfl rfl rfl ?_
 refine pE rfl ?_
 refine WO.nil (qs ?_)
 refine condK rfl (fun h5 => ?_) (fun h5 => ?_)
 ·
  have e : nameB L (k, b) = false := by simpa using h5
  rw [show nameP L (k, b) = (E0, failS (k, b)) by unfold nameP; rw [e]; rfl]
  refine W.seq (W.region ?_)
  iterate 3 refine pE rfl ?_
  refine storeR tab rfl rfl rfl rfl rfl rfl rfl rfl ?_
  refine WO.nil (qs (W.seq (W.region ?_)))
  refine pE rfl ?_
  refine WO.nil (qs (W.ret (qsRet ?_)))
  refine QB1.end tab [] trivial rfl rfl rfl rfl ?_ ?_
  · exact ⟨rfl, trivial⟩
  rfl
 ·
  have e : nameB L (k, b) = true := by simpa using h5
  rw [show nameP L (k, b) = ((tk0 L (k, b)).s, adv (k, b)) by unfold nameP; rw [e]; rfl]
  refine W.skip (qs (W.seq (W.region ?_)))
  iterate 4 refine pE rfl ?_
  first | refine pE rfl ?_ | refine pR rfl rfl rfl rfl rfl ?_ | refine pB rfl rfl rfl rfl rfl rfl ?_
  refine pu (puI (ev tab rfl) (y := ((k + 1 : Nat) : Int)) (by rw [wrap64 (by omega)]; rfl)) rfl ?_
  iterate 2 refine pE rfl ?_
  refine storeR tab rfl rfl rfl rfl rfl rfl rfl rfl ?_
  refine WO.nil (qs (W.seq ?_))
  refine W.regionD tab (by kernel_rfl) ?_
  iterate 3 refine chPu (ev tab rfl) rfl ?_
  first | refine chPu (ev tab rfl) rfl ?_ | refine chPu (loadRow tab rfl rfl rfl rfl) rfl ?_ | refine chPu (loadBox tab rfl rfl rfl rfl rfl) rfl ?_
  iterate 3 refine chPu (ev tab rfl) rfl ?_
  first | refine chPu (ev tab rfl) rfl ?_ | refine chPu (loadRow tab rfl rfl rfl rfl) rfl ?_ | refine chPu (loadBox tab rfl rfl rfl rfl rfl) rfl ?_
  refine chPu (puI (ev tab rfl) (y := ((k : Nat) : Int)) (by rw [wrap64 (by omega)]; omega)) rfl ?_
  refine chPu (indexAddr (l := (tk0 L (k, b)).r) tab rfl rfl rfl rfl rfl rfl (Int.natCast_nonneg _) (idx_map (f := Tk.r) hx) rfl) rfl ?_
  refine chPu (ev tab rfl) rfl ?_
  first | refine chPu (ev tab rfl) rfl ?_ | refine chPu (loadRow tab rfl rfl rfl rfl) rfl ?_ | refine chPu (loadBox tab rfl rfl rfl rfl rfl) rfl ?_
  refine chPu (ev tab rfl) rfl ?_
  refine CH.nil ?_
  refine qs (W.ret ?_)
  refine QB1.end tab [] trivial rfl rfl rfl rfl ?_ ?_
  · exact ⟨rfl, trivial⟩
  rfl
def Dg (L : List Tk) : Prop := ∀ t ∈ L, t.kind = 3 → bys t.s ≠ [] ∧ ∀ b ∈ bys t.s, isDig b = true
theorem tokF_dg (s : ByteArray) (k : Nat) (h : (tokF s k).kind = 3) : bys (tokF s k).s ≠ [] ∧ ∀ b ∈ bys (tokF s k).s, isDig b = true := by
 cases q : (bys s)[runP whiB s k]? with
 | none => rw [tokF_none q] at h; cases h
 | some c =>
  rw [tokF_some q] at h ⊢
  unfold tokAt at h ⊢
  by_cases h1 : letB c = true
  · rw [if_pos h1] at h; cases h
  rw [if_neg h1] at h ⊢
  by_cases h2 : isDig c = true
  ·
   rw [if_pos h2] at h ⊢
   by_cases h3 : (numP (s.extract (runP whiB s k) (runP isDig s (runP whiB s k)))).2 = true
   · rw [if_pos h3]; exact run_digs q h2
   · rw [if_neg h3] at h; cases h
  rw [if_neg h2] at h
  split at h
  · split at h <;> cases h
  ·
   split at h
   · cases h
   · split at h <;> cases h
theorem toks_dg (s : ByteArray) : ∀ k, Dg (toks s k) := by
 intro k
 induction hm : s.size - k using Nat.strongRecOn generalizing k with
 | _ m ih =>
  subst hm
  rw [toks_eq]
  by_cases q : (tokF s k).stops = true
  ·
   rw [if_pos q]
   intro t ht h3
   obtain rfl := List.mem_singleton.1 ht
   exact tokF_dg s k h3
  ·
   rw [if_neg q]
   have hn := tokF_nx (by simpa using q)
   intro t ht h3
   rcases List.mem_cons.1 ht with rfl | ht
   · exact tokF_dg s k h3
   · exact ih (s.size - (tokF s k).nx) (by omega) (tokF s k).nx rfl t ht h3
theorem valR_tok {t : Tk} (h : t.ok = true) (hk : t.kind = 3) : valR t.s = t.n := by
 simp only [Tk.ok, Bool.and_eq_true, Bool.or_eq_true, Bool.not_eq_true', decide_eq_false_iff_not, decide_eq_true_eq] at h
 obtain ⟨h1, h2⟩ := h.1.1.2.resolve_left (fun e => e hk)
 unfold valR
 rw [if_pos h1, h2]
theorem rnum_fn (L : List Tk) (hw : Wf L) (hd : Dg L) (st : PS) (h : st.1 < L.length) (hL : L.length ≤ 3000000) : DoesB Tryz.prog 70 [.ptr 0 0] [bxR L st] 0 (.d (.v (.int .i64 (limP L st).1))) [bxR L (limP L st).2] 0 := by
 obtain ⟨k, b⟩ := st
 have hx := tk_get (L := L) (k := k) (b := b) h
 have hm := List.mem_of_getElem? hx
 have hk := kindR_2 (tk_ok hw h)
 refine DoesB.of_V tab (n := 45) (rs := [.tmp 2]) Tryz.func70 (by kernel_rfl) rfl Tryz.ntmps70 Tryz.results70 rfl rfl fun C hC hG => ?_
 refine W.seq (W.region ?_)
 refine pE rfl ?_
 refine WO.nil (qs ?_)
 iterate 2 refine W.seq ?_
 apply regionDB tab; (case hb => rfl); (case hB => kernel_rfl)
 ·
  iterate 3 refine chPu (ev tab rfl) rfl ?_
  first | refine chPu (ev tab rfl) rfl ?_ | refine chPu (loadRow tab rfl rfl rfl rfl) rfl ?_ | refine chPu (loadBox tab rfl rfl rfl rfl rfl) rfl ?_
  refine chPu (ev tab rfl) rfl ?_
  apply chSplitJ; (case hj => rfl); (case hl => rfl)
  ·
   iterate 12 refine chSkip rfl rfl rfl rfl ?_
   refine chPu (ev tab rfl) rfl ?_
   refine CH.nil ?_
   refine qv1 rfl rfl rfl
  ·
   refine chGo rfl rfl (ev tab rfl) rfl ?_
   refine chGo rfl rfl (ev tab rfl) rfl ?_
   refine chGo rfl rfl (ev tab rfl) rfl ?_
   first | refine chGo rfl rfl (ev tab rfl) rfl ?_ | refine chGo rfl rfl (loadRow tab rfl rfl rfl rfl) rfl ?_ | refine chGo rfl rfl (loadBox tab rfl rfl rfl rfl rfl) rfl ?_
   refine chGo rfl rfl (ev tab rfl) rfl ?_
   refine chGo rfl rfl (ev tab rfl) rfl ?_
   refine chGo rfl rfl (ev tab rfl) rfl ?_
   first | refine chGo rfl rfl (ev tab rfl) rfl ?_ | refine chGo rfl rfl (loadRow tab rfl rfl rfl rfl) rfl ?_ | refine chGo rfl rfl (loadBox tab rfl rfl rfl rfl rfl) rfl ?_
   refine chGo rfl rfl (indexAddr (l := (tk0 L (k, b)).r) tab rfl rfl rfl rfl rfl rfl (Int.natCast_nonneg _) (idx_map (f := Tk.r) hx) rfl) rfl ?_
   refine chGo rfl rfl (ev tab rfl) rfl ?_
   first | refine chGo rfl rfl (ev tab rfl) rfl ?_ | refine chGo rfl rfl (loadRow tab rfl rfl rfl rfl) rfl ?_ | refine chGo rfl rfl (loadBox tab rfl rfl rfl rfl rfl) rfl ?_
   refine chGo rfl rfl (ev tab rfl) rfl ?_
   refine chPu (ev tab rfl) rfl ?_
   refine CH.nil ?_
   refine qv1 rfl rfl rfl
 refine qs ?_
 refine condK rfl (fun h20 => ?_) (fun h20 => ?_)
 ·
  have e : (b || !decide ((tk0 L (k, b)).kind = 3)) = true := by
   cases b with
   | true => rfl
   | false => simp [hk] at h20; simp [h20]
  rw [show limP L (k, b) = (0, failS (k, b)) by unfold limP; rw [if_pos e]]
  refine W.seq (W.region ?_)
  iterate 3 refine pE rfl ?_
  refine storeR tab rfl rfl rfl rfl rfl rfl rfl rfl ?_
  refine WO.nil (qs (W.seq (W.region ?_)))
  refine pE rfl ?_
  refine WO.nil (qs (W.ret (qsRet ?_)))
  refine QB1.end tab [] trivial rfl rfl rfl rfl ?_ ?_
  · exact ⟨rfl, trivial⟩
  rfl
 ·
  have hb : b = false := by
   cases b with
   | false => rfl
   | true => simp at h20
  subst hb
  have h3 : (tk0 L (k, false)).kind = 3 := by simpa [hk] using h20
  have e : ¬ (false || !decide ((tk0 L (k, false)).kind = 3)) = true := by simp [h3]
  rw [show limP L (k, false) = ((tk0 L (k, false)).n, adv (k, false)) by unfold limP; rw [if_neg e]]
  obtain ⟨d1, d2⟩ := hd _ hm h3
  have hv := vdig_fn _ d1 d2
  rw [valR_tok (tk_ok hw h) h3] at hv
  refine W.skip (qs (W.seq (W.region ?_)))
  iterate 4 refine pE rfl ?_
  first | refine pE rfl ?_ | refine pR rfl rfl rfl rfl rfl ?_ | refine pB rfl rfl rfl rfl rfl rfl ?_
  refine pu (puI (ev tab rfl) (y := ((k + 1 : Nat) : Int)) (by rw [wrap64 (by omega)]; rfl)) rfl ?_
  iterate 2 refine pE rfl ?_
  refine storeR tab rfl rfl rfl rfl rfl rfl rfl rfl ?_
  refine WO.nil (qs (W.seq ?_))
  refine W.regionD tab (by kernel_rfl) ?_
  iterate 3 refine chPu (ev tab rfl) rfl ?_
  first | refine chPu (ev tab rfl) rfl ?_ | refine chPu (loadRow tab rfl rfl rfl rfl) rfl ?_ | refine chPu (loadBox tab rfl rfl rfl rfl rfl) rfl ?_
  iterate 3 refine chPu (ev tab rfl) rfl ?_
  first | refine chPu (ev tab rfl) rfl ?_ | refine chPu (loadRow tab rfl rfl rfl rfl) rfl ?_ | refine chPu (loadBox tab rfl rfl rfl rfl rfl) rfl ?_
  refine chPu (puI (ev tab rfl) (y := ((k : Nat) : Int)) (by rw [wrap64 (by omega)]; omega)) rfl ?_
  refine chPu (indexAddr (l := (tk0 L (k, false)).r) tab rfl rfl rfl rfl rfl rfl (Int.natCast_nonneg _) (idx_map (f := Tk.r) hx) rfl) rfl ?_
  refine chPu (ev tab rfl) rfl ?_
  first | refine chPu (ev tab rfl) rfl ?_ | refine chPu (loadRow tab rfl rfl rfl rfl) rfl ?_ | refine chPu (loadBox tab rfl rfl rfl rfl rfl) rfl ?_
  refine chPu (puCall rfl rfl rfl hv rfl) rfl ?_
  refine chPu (ev tab rfl) rfl ?_
  refine CH.nil ?_
  refine qs (W.ret ?_)
  refine QB1.end tab [] trivial rfl rfl rfl rfl ?_ ?_
  · exact ⟨rfl, trivial⟩
  rfl
theorem rconst_fn (k n : Int) (s : ByteArray) : Does Tryz.prog 166 [.d (.v (.int .i64 k)), .d (.v (.int .i64 n)), .d (.v (.string s))] (.ag (exK ⟨k, n, s⟩).c) 0 := by
 refine Does.of_V tab (n := 12) (rs := [.cell 6 37]) Tryz.func166 (by kernel_rfl) rfl Tryz.ntmps166 Tryz.results166 rfl fun C hC hG => ?_
 refine W.seq (W.region ?_)
 refine allocR tab rfl rfl rfl ?_
 refine WO.nil (qs (W.seq (W.region ?_)))
 iterate 3 refine pE rfl ?_
 refine pu (build tab rfl rfl rfl rfl) rfl ?_
 try refine nilO 10 rfl rfl rfl ?_
 refine pu (build tab rfl rfl rfl rfl) rfl ?_
 try refine nilO 11 rfl rfl rfl ?_
 refine storeR tab rfl rfl rfl rfl rfl rfl rfl rfl ?_
 refine WO.nil (qs (W.ret ?_))
 refine QV.ret0 tab trivial rfl ?_
 rfl
theorem rtwo_fn (op : Int) (a b : Ex) : Does Tryz.prog 79 [.d (.v (.int .i64 op)), .ag a.c, .ag b.c] (.ag (mk2 op a b).c) 0 := by
 refine Does.of_V tab (n := 12) (rs := [.cell 6 37]) Tryz.func79 (by kernel_rfl) rfl Tryz.ntmps79 Tryz.results79 rfl fun C hC hG => ?_
 refine W.seq (W.region ?_)
 refine boxR rfl rfl rfl ?_
 refine boxR rfl rfl rfl ?_
 refine allocR tab rfl rfl rfl ?_
 refine WO.nil (qs (W.seq (W.region ?_)))
 refine pE rfl ?_
 first | refine pE rfl ?_ | refine pR rfl rfl rfl rfl rfl ?_ | refine pB rfl rfl rfl rfl rfl rfl ?_
 first | refine pE rfl ?_ | refine pR rfl rfl rfl rfl rfl ?_ | refine pB rfl rfl rfl rfl rfl rfl ?_
 refine pu (buildV tab rfl rfl rfl rfl rfl rfl rfl rfl rfl) rfl ?_
 refine pu (build tab rfl rfl rfl rfl) rfl ?_
 refine storeR tab rfl rfl rfl rfl rfl rfl rfl rfl ?_
 refine WO.nil (qs (W.ret ?_))
 refine QV.ret0 tab trivial rfl ?_
 rfl
end Go.Proofs.YtifeonoehfffmaaGreatDoor
namespace Go.Proofs.YtifeonoehfffmaaGreatDoor
open Go.Ab Go.Tb
set_option maxRecDepth 10000
attribute [local irreducible] W WO Pu QS QB QL QF QV QV1 CH QE
theorem find_cons {L : List Tk} {x : ByteArray} {op : Int} {r : List (ByteArray × Int)} {st : PS} : findOp L ((x, op) :: r) st = if skB L x st then some op else findOp L r st := by
 unfold findOp
 rw [List.find?_cons]
 cases skB L x st <;> rfl
theorem find_nil {L : List Tk} {st : PS} : findOp L [] st = none := rfl
theorem rnms_fn (L : List Tk) (hw : Wf L) (hL : L.length ≤ 3000000) (st : PS) (h : st.1 < L.length) : DoesB Tryz.prog 72 [.ptr 0 0] [bxR L st] 0 (.d (.sl ((listP L (nameP L) st).1.map sc))) [bxR L (listP L (nameP L) st).2] 0 := by
 have ho := nameP_goes hw
 have l1 := ho.lt st h
 have m1 := ho.mono st
 refine DoesB.of_V tab (n := 15) (rs := [.tmp 2]) Tryz.func72 (by kernel_rfl) rfl Tryz.ntmps72 Tryz.results72 rfl rfl fun C hC hG => ?_
 refine W.seq (W.region ?_)
 refine pE rfl ?_
 refine WO.nil (qs (W.seq (W.region ?_)))
 refine pE rfl ?_
 refine callB [0] [] rfl rfl rfl rfl rfl ((rname_fn L hw st h hL)) rfl rfl (by rfl) (by rfl) rfl rfl rfl rfl ?_
 refine buildO tab rfl rfl rfl rfl rfl rfl rfl rfl (by rfl) ?_
 refine pE rfl ?_
 refine WO.nil (qs (W.seq (W.block ?_)))
 refine W.loopR (ι := {x : Nat × PS × List ByteArray // match x with | (n, s1, acc) => s1.1 < L.length ∧ L.length - s1.1 ≤ n ∧ acc ++ (listGo L gCom (nameP L) n s1).1 = (listP L (nameP L) st).1 ∧ (listGo L gCom (nameP L) n s1).2 = (listP L (nameP L) st).2 ∧ acc.length ≤ s1.1 + 1})
  (fun x => match x.1 with | (n, s1, acc) => [(0, .ptr 0 0), (3, .own 1 (acc.map sc))]) []
  (fun x => match x.1 with | (n, s1, acc) => [(0, bxR L s1)]) [] [1] 2 (fun x => match x.1 with | (n, s1, acc) => n)
  [0, 2] ⟨(L.length, (nameP L st).2, [(nameP L st).1]), ?_⟩ rfl ?_ trivial ?_ trivial rfl ?_
 · exact ⟨l1, by omega, rfl, rfl, by simp⟩
 · repeat' first | exact trivial | refine ⟨rfl, ?_⟩ | refine ⟨step_nat (by assumption) (by assumption), ?_⟩
 · repeat' first | exact trivial | refine ⟨rfl, ?_⟩ | refine ⟨step_nat (by assumption) (by assumption), ?_⟩
 rintro ⟨⟨n, s1, acc⟩, hk, hn, hI, hJ, hA⟩
 show W _ _ _ _ _ ⟨[(0, .ptr 0 0), (3, .own 1 (acc.map sc))], [(0, bxR L s1)], [1], 2⟩
 obtain ⟨n', rfl⟩ : ∃ n', n = n' + 1 := ⟨n - 1, by omega⟩
 simp only [listGo] at hI hJ
 iterate 2 refine W.seq ?_
 refine W.region ?_
 refine pE rfl ?_
 refine callB [0] [] rfl rfl rfl rfl rfl ((rsg_fn L hw gCom rfl s1 hk hL)) rfl rfl (by rfl) (by rfl) rfl rfl rfl rfl ?_
 refine WO.nil (qs ?_)
 refine condK rfl (fun h8 => ?_) (fun h8 => ?_)
 ·
  have l2 := skB_more hw h8 hk
  have l3 := ho.lt (adv s1) l2
  have m3 : s1.1 + 1 ≤ (nameP L (adv s1)).2.1 := ho.mono (adv s1)
  rw [if_pos h8] at hI hJ
  rw [show skS L gCom s1 = adv s1 by unfold skS; rw [h8]; rfl]
  refine W.skip (qs (W.block (W.region ?_)))
  iterate 2 refine pE rfl ?_
  refine callB [0] [] rfl rfl rfl rfl rfl ((rname_fn L hw (adv s1) l2 hL)) rfl rfl (by rfl) (by rfl) rfl rfl rfl rfl ?_
  refine pu (buildV tab rfl rfl rfl rfl rfl rfl rfl rfl rfl) rfl ?_
  refine appendM (fn := sc) (a := (nameP L (adv s1)).1) tab rfl rfl rfl rfl rfl rfl rfl rfl rfl rfl (fun _ => rfl) (by show (acc.length + 1) * 16 ≤ _; omega) ?_
  refine pE rfl ?_
  refine WO.nil (qbN ?_)
  first | (refine W.endR [0, 4] ⟨(n', (nameP L (adv s1)).2, acc ++ [(nameP L (adv s1)).1]), ?_⟩ ?_ rfl ?_ trivial ?_ trivial rfl) | (refine W.endR [0, 3] ⟨(n', (nameP L (adv s1)).2, acc ++ [(nameP L (adv s1)).1]), ?_⟩ ?_ rfl ?_ trivial ?_ trivial rfl) | (refine W.endR [0, 1] ⟨(n', (nameP L (adv s1)).2, acc ++ [(nameP L (adv s1)).1]), ?_⟩ ?_ rfl ?_ trivial ?_ trivial rfl)
  · exact ⟨l3, by omega, by rw [← hI]; simp, hJ, by simp; omega⟩
  · dsimp only; omega
  · repeat' first | exact trivial | refine ⟨rfl, ?_⟩ | refine ⟨step_nat (by assumption) (by assumption), ?_⟩
  · repeat' first | exact trivial | refine ⟨rfl, ?_⟩ | refine ⟨step_nat (by assumption) (by assumption), ?_⟩
 ·
  rw [if_neg (by simp [h8])] at hI hJ
  rw [show skS L gCom s1 = s1 by unfold skS; rw [h8]; rfl]
  simp only [List.append_nil] at hI hJ
  refine W.exit (qsExit (qlExit (qbExit (qs (W.seq (W.region ?_))))))
  iterate 2 refine pE rfl ?_
  refine WO.nil (qs (W.ret ?_))
  refine QB1.end tab [] trivial rfl rfl rfl rfl ?_ ?_
  ·
   rw [← hJ]
   exact ⟨rfl, trivial⟩
  rw [← hI]
  rfl
def RdR (L : List Tk) (fid : FuncId) (f : Pr Ex) (d : Nat) : Prop := ∀ st, st.1 < L.length → L.length - st.1 ≤ d → DoesB Tryz.prog fid [.ptr 0 0] [bxR L st] 0 (.ag (f st).1.c) [bxR L (f st).2] 0
theorem ror_fn (L : List Tk) (hw : Wf L) (hL : L.length ≤ 3000000) (one : Pr Ex) (ho : Goes L one) (d : Nat) (hone : RdR L 78 one d) : RdR L 40 (leftP L one opsOr) d := by
 intro st h hd0
 have l1 := ho.lt st h
 have m1 := ho.mono st
 refine DoesB.of_V tab (n := 13) (rs := [.cell 2 37]) Tryz.func40 (by kernel_rfl) rfl Tryz.ntmps40 Tryz.results40 rfl rfl fun C hC hG => ?_
 refine W.seq (W.region ?_)
 refine allocR tab rfl rfl rfl ?_
 refine WO.nil (qs (W.seq (W.region ?_)))
 refine pE rfl ?_
 refine callB [0] [] rfl rfl rfl rfl rfl ((hone st h hd0)) rfl rfl (by rfl) (by rfl) rfl rfl rfl rfl ?_
 refine allocR tab rfl rfl rfl ?_
 refine storeR tab rfl rfl rfl rfl rfl rfl rfl rfl ?_
 refine WO.nil (qs (W.seq (W.block ?_)))
 refine W.loopR (ι := {x : Nat × Ex × PS // match x with | (n, e, s1) => s1.1 < L.length ∧ L.length - s1.1 ≤ d ∧ L.length - s1.1 ≤ n ∧ leftGo L one opsOr n e s1 = leftP L one opsOr st})
  (fun x => match x.1 with | (n, e, s1) => [(0, .ptr 0 0), (2, .ptr 1 0), (3, .ptr 2 0)]) []
  (fun x => match x.1 with | (n, e, s1) => [(0, bxR L s1), (2, e.c.map A.d)]) [(1, _)] [] 3 (fun x => match x.1 with | (n, e, s1) => n)
  [0, 1, 3] ⟨(L.length, (one st).1, (one st).2), ?_⟩ rfl ?_ trivial ?_ ⟨rfl, rfl, trivial⟩ rfl ?_
 · exact ⟨l1, by omega, by omega, rfl⟩
 · repeat' first | exact trivial | refine ⟨rfl, ?_⟩ | refine ⟨step_nat (by assumption) (by assumption), ?_⟩
 · repeat' first | exact trivial | refine ⟨rfl, ?_⟩ | refine ⟨step_nat (by assumption) (by assumption), ?_⟩
 rintro ⟨⟨n, e, s1⟩, hk, hd, hn, hI⟩
 show W _ _ _ _ _ ⟨[(0, .ptr 0 0), (2, .ptr 1 0), (3, .ptr 2 0)], [(0, bxR L s1), (2, e.c.map A.d), (1, _)], [], 3⟩
 obtain ⟨n', rfl⟩ : ∃ n', n = n' + 1 := ⟨n - 1, by omega⟩
 simp only [leftGo, find_cons, find_nil] at hI
 iterate 2 refine W.seq ?_
 refine W.region ?_
 refine pE rfl ?_
 refine callB [0] [] rfl rfl rfl rfl rfl ((rwd_fn L hw kwOr rfl s1 hk hL)) rfl rfl (by rfl) (by rfl) rfl rfl rfl rfl ?_
 refine WO.nil (qs ?_)
 refine condK rfl (fun h7 => ?_) (fun h7 => ?_)
 ·
  rw [skS_yes h7]
  rw [if_pos h7] at hI
  have l2 := skB_more hw h7 hk
  have l3 := ho.lt (adv s1) l2
  have m3 : s1.1 + 1 ≤ (one (adv s1)).2.1 := ho.mono (adv s1)
  refine W.skip (qs (W.block ?_))
  apply W.regionC tab 3 2; (case hB => kernel_rfl); (case h1 => rfl); (case h2 => rfl)
  first | (refine' ccPu ?p1_1 (ev tab rfl) rfl rfl rfl rfl rfl ?h_1) | (refine' ccPu ?p1_1 (loadRow tab rfl rfl rfl rfl) rfl rfl rfl rfl rfl ?h_1) | (refine' ccPu ?p1_1 (loadBox tab rfl rfl rfl rfl rfl) rfl rfl rfl rfl rfl ?h_1)
  case' h_1 => skip
  refine' ccPu0 (ev tab rfl) rfl rfl rfl rfl rfl ?h_2
  case' h_2 => skip
  refine' ccX (fun g => ?e_3) rfl rfl rfl ?h_3
  case e_3 =>
   refine callB [0] [] rfl rfl rfl rfl rfl ((hone (adv s1) l2 (by show L.length - (s1.1 + 1) ≤ d; omega))) rfl rfl (by rfl) (by rfl) rfl rfl rfl rfl ?_
   refine WO.nil ?_
   exact ⟨rfl, rfl⟩
  case' h_3 => skip
  case p1_1 => first | (exact (ev tab rfl)) | (exact (loadRow tab rfl rfl rfl rfl)) | (exact (loadBox tab rfl rfl rfl rfl rfl))
  refine CC.nil ?_
  refine pu (puCall rfl rfl rfl ((rtwo_fn _ _ _)) rfl) rfl ?_
  refine storeR tab rfl rfl rfl rfl rfl rfl rfl rfl ?_
  refine WO.nil (qbN ?_)
  refine W.endR [0, 1, 2] ⟨(n', mk2 15 e (one (adv s1)).1, (one (adv s1)).2), ?_⟩ ?_ rfl ?_ trivial ?_ ⟨rfl, rfl, trivial⟩ rfl
  · exact ⟨l3, by omega, by omega, hI⟩
  · dsimp only; omega
  · repeat' first | exact trivial | refine ⟨rfl, ?_⟩ | refine ⟨step_nat (by assumption) (by assumption), ?_⟩
  · repeat' first | exact trivial | refine ⟨rfl, ?_⟩ | refine ⟨step_nat (by assumption) (by assumption), ?_⟩
 ·
  rw [skS_no h7]
  rw [if_neg (by simp [h7])] at hI
  refine W.exit (qsExit (qlExit (qbExit (qs (W.seq (W.region ?_))))))
  first | refine pE rfl ?_ | refine pR rfl rfl rfl rfl rfl ?_ | refine pB rfl rfl rfl rfl rfl rfl ?_
  refine storeR tab rfl rfl rfl rfl rfl rfl rfl rfl ?_
  refine WO.nil (qs (W.ret ?_))
  refine QB1.end tab [] trivial rfl rfl rfl rfl ?_ ?_
  ·
   rw [← hI]
   exact ⟨rfl, trivial⟩
  rw [← hI]
  rfl
end Go.Proofs.YtifeonoehfffmaaGreatDoor
namespace Go.Proofs.YtifeonoehfffmaaGreatDoor
open Go.Ab Go.Tb
set_option maxRecDepth 10000
attribute [local irreducible] W WO Pu QS QB QL QF QV QV1 CH QE
theorem rand_fn (L : List Tk) (hw : Wf L) (hL : L.length ≤ 3000000) (one : Pr Ex) (ho : Goes L one) (d : Nat) (hone : RdR L 115 one d) : RdR L 78 (leftP L one opsAnd) d := by
 intro st h hd0
 have l1 := ho.lt st h
 have m1 := ho.mono st
 refine DoesB.of_V tab (n := 13) (rs := [.cell 2 37]) Tryz.func78 (by kernel_rfl) rfl Tryz.ntmps78 Tryz.results78 rfl rfl fun C hC hG => ?_
 refine W.seq (W.region ?_)
 refine allocR tab rfl rfl rfl ?_
 refine WO.nil (qs (W.seq (W.region ?_)))
 refine pE rfl ?_
 refine callB [0] [] rfl rfl rfl rfl rfl ((hone st h hd0)) rfl rfl (by rfl) (by rfl) rfl rfl rfl rfl ?_
 refine allocR tab rfl rfl rfl ?_
 refine storeR tab rfl rfl rfl rfl rfl rfl rfl rfl ?_
 refine WO.nil (qs (W.seq (W.block ?_)))
 refine W.loopR (ι := {x : Nat × Ex × PS // match x with | (n, e, s1) => s1.1 < L.length ∧ L.length - s1.1 ≤ d ∧ L.length - s1.1 ≤ n ∧ leftGo L one opsAnd n e s1 = leftP L one opsAnd st})
  (fun x => match x.1 with | (n, e, s1) => [(0, .ptr 0 0), (2, .ptr 1 0), (3, .ptr 2 0)]) []
  (fun x => match x.1 with | (n, e, s1) => [(0, bxR L s1), (2, e.c.map A.d)]) [(1, _)] [] 3 (fun x => match x.1 with | (n, e, s1) => n)
  [0, 1, 3] ⟨(L.length, (one st).1, (one st).2), ?_⟩ rfl ?_ trivial ?_ ⟨rfl, rfl, trivial⟩ rfl ?_
 · exact ⟨l1, by omega, by omega, rfl⟩
 · repeat' first | exact trivial | refine ⟨rfl, ?_⟩ | refine ⟨step_nat (by assumption) (by assumption), ?_⟩
 · repeat' first | exact trivial | refine ⟨rfl, ?_⟩ | refine ⟨step_nat (by assumption) (by assumption), ?_⟩
 rintro ⟨⟨n, e, s1⟩, hk, hd, hn, hI⟩
 show W _ _ _ _ _ ⟨[(0, .ptr 0 0), (2, .ptr 1 0), (3, .ptr 2 0)], [(0, bxR L s1), (2, e.c.map A.d), (1, _)], [], 3⟩
 obtain ⟨n', rfl⟩ : ∃ n', n = n' + 1 := ⟨n - 1, by omega⟩
 simp only [leftGo, find_cons, find_nil] at hI
 iterate 2 refine W.seq ?_
 refine W.region ?_
 refine pE rfl ?_
 refine callB [0] [] rfl rfl rfl rfl rfl ((rwd_fn L hw kwAnd rfl s1 hk hL)) rfl rfl (by rfl) (by rfl) rfl rfl rfl rfl ?_
 refine WO.nil (qs ?_)
 refine condK rfl (fun h7 => ?_) (fun h7 => ?_)
 ·
  rw [skS_yes h7]
  rw [if_pos h7] at hI
  have l2 := skB_more hw h7 hk
  have l3 := ho.lt (adv s1) l2
  have m3 : s1.1 + 1 ≤ (one (adv s1)).2.1 := ho.mono (adv s1)
  refine W.skip (qs (W.block ?_))
  apply W.regionC tab 3 2; (case hB => kernel_rfl); (case h1 => rfl); (case h2 => rfl)
  first | (refine' ccPu ?p1_1 (ev tab rfl) rfl rfl rfl rfl rfl ?h_1) | (refine' ccPu ?p1_1 (loadRow tab rfl rfl rfl rfl) rfl rfl rfl rfl rfl ?h_1) | (refine' ccPu ?p1_1 (loadBox tab rfl rfl rfl rfl rfl) rfl rfl rfl rfl rfl ?h_1)
  case' h_1 => skip
  refine' ccPu0 (ev tab rfl) rfl rfl rfl rfl rfl ?h_2
  case' h_2 => skip
  refine' ccX (fun g => ?e_3) rfl rfl rfl ?h_3
  case e_3 =>
   refine callB [0] [] rfl rfl rfl rfl rfl ((hone (adv s1) l2 (by show L.length - (s1.1 + 1) ≤ d; omega))) rfl rfl (by rfl) (by rfl) rfl rfl rfl rfl ?_
   refine WO.nil ?_
   exact ⟨rfl, rfl⟩
  case' h_3 => skip
  case p1_1 => first | (exact (ev tab rfl)) | (exact (loadRow tab rfl rfl rfl rfl)) | (exact (loadBox tab rfl rfl rfl rfl rfl))
  refine CC.nil ?_
  refine pu (puCall rfl rfl rfl ((rtwo_fn _ _ _)) rfl) rfl ?_
  refine storeR tab rfl rfl rfl rfl rfl rfl rfl rfl ?_
  refine WO.nil (qbN ?_)
  refine W.endR [0, 1, 2] ⟨(n', mk2 14 e (one (adv s1)).1, (one (adv s1)).2), ?_⟩ ?_ rfl ?_ trivial ?_ ⟨rfl, rfl, trivial⟩ rfl
  · exact ⟨l3, by omega, by omega, hI⟩
  · dsimp only; omega
  · repeat' first | exact trivial | refine ⟨rfl, ?_⟩ | refine ⟨step_nat (by assumption) (by assumption), ?_⟩
  · repeat' first | exact trivial | refine ⟨rfl, ?_⟩ | refine ⟨step_nat (by assumption) (by assumption), ?_⟩
 ·
  rw [skS_no h7]
  rw [if_neg (by simp [h7])] at hI
  refine W.exit (qsExit (qlExit (qbExit (qs (W.seq (W.region ?_))))))
  first | refine pE rfl ?_ | refine pR rfl rfl rfl rfl rfl ?_ | refine pB rfl rfl rfl rfl rfl rfl ?_
  refine storeR tab rfl rfl rfl rfl rfl rfl rfl rfl ?_
  refine WO.nil (qs (W.ret ?_))
  refine QB1.end tab [] trivial rfl rfl rfl rfl ?_ ?_
  ·
   rw [← hI]
   exact ⟨rfl, trivial⟩
  rw [← hI]
  rfl
theorem ris_sg (L : List Tk) (hw : Wf L) (x : ByteArray) (hx : signX x = true) (st : PS) (h : st.1 < L.length) (hL : L.length ≤ 3000000) : DoesB Tryz.prog 66 [.ptr 0 0, .d (.v (.int .i64 4)), .d (.v (.string x))] [bxR L st] 0 (.d (.v (.bool (skB L x st)))) [bxR L st] 0 := by
 have := ris_fn L st h hL 4 x
 rw [← skB_sign hw h hx] at this
 exact this
theorem skB_one {L : List Tk} {st : PS} {x y : ByteArray} (h : skB L x st = true) (hxy : x ≠ y) : skB L y st = false := by
 unfold skB isT at h ⊢
 simp only [Bool.and_eq_true, decide_eq_true_eq] at h
 rw [h.2.2]
 simp [hxy]
theorem rsum_fn (L : List Tk) (hw : Wf L) (hL : L.length ≤ 3000000) (one : Pr Ex) (ho : Goes L one) (d : Nat) (hone : RdR L 145 one d) : RdR L 136 (leftP L one opsSum) d := by
 intro st h hd0
 have l1 := ho.lt st h
 have m1 := ho.mono st
 refine DoesB.of_V tab (n := 29) (rs := [.cell 2 37]) Tryz.func136 (by kernel_rfl) rfl Tryz.ntmps136 Tryz.results136 rfl rfl fun C hC hG => ?_
 refine W.seq (W.region ?_)
 refine allocR tab rfl rfl rfl ?_
 refine WO.nil (qs (W.seq (W.region ?_)))
 refine pE rfl ?_
 refine callB [0] [] rfl rfl rfl rfl rfl ((hone st h hd0)) rfl rfl (by rfl) (by rfl) rfl rfl rfl rfl ?_
 refine allocR tab rfl rfl rfl ?_
 refine storeR tab rfl rfl rfl rfl rfl rfl rfl rfl ?_
 refine WO.nil (qs (W.seq (W.block ?_)))
 refine W.loopR (ι := {x : Nat × Ex × PS // match x with | (n, e, s1) => s1.1 < L.length ∧ L.length - s1.1 ≤ d ∧ L.length - s1.1 ≤ n ∧ leftGo L one opsSum n e s1 = leftP L one opsSum st})
  (fun x => match x.1 with | (n, e, s1) => [(0, .ptr 0 0), (2, .ptr 1 0), (3, .ptr 2 0)]) []
  (fun x => match x.1 with | (n, e, s1) => [(0, bxR L s1), (2, e.c.map A.d)]) [(1, _)] [] 3 (fun x => match x.1 with | (n, e, s1) => n)
  [0, 1, 3] ⟨(L.length, (one st).1, (one st).2), ?_⟩ rfl ?_ trivial ?_ ⟨rfl, rfl, trivial⟩ rfl ?_
 · exact ⟨l1, by omega, by omega, rfl⟩
 · repeat' first | exact trivial | refine ⟨rfl, ?_⟩ | refine ⟨step_nat (by assumption) (by assumption), ?_⟩
 · repeat' first | exact trivial | refine ⟨rfl, ?_⟩ | refine ⟨step_nat (by assumption) (by assumption), ?_⟩
 rintro ⟨⟨n, e, s1⟩, hk, hd, hn, hI⟩
 show W _ _ _ _ _ ⟨[(0, .ptr 0 0), (2, .ptr 1 0), (3, .ptr 2 0)], [(0, bxR L s1), (2, e.c.map A.d), (1, _)], [], 3⟩
 obtain ⟨n', rfl⟩ : ∃ n', n = n' + 1 := ⟨n - 1, by omega⟩
 simp only [leftGo, find_cons, find_nil] at hI
 iterate 2 refine W.seq ?_
 refine W.region ?_
 refine pE rfl ?_
 refine callB [0] [] rfl rfl rfl rfl rfl ((ris_sg L hw gAdd rfl s1 hk hL)) rfl rfl (by rfl) (by rfl) rfl rfl rfl rfl ?_
 refine pE rfl ?_
 refine splitG rfl rfl (fun g9 => ?_) (fun g9 => ?_)
 ·
  iterate 2 refine skipT rfl rfl rfl rfl ?_
  refine pE rfl ?_
  refine WO.nil (qs ?_)
  refine W.condT rfl ?_
  refine W.skip (qs (W.block (W.seq ?_)))
  have hgo : skB L gAdd s1 = true ∨ skB L gSub s1 = true := by first | exact .inl g9 | exact .inr h12
  have l2 : s1.1 + 1 < L.length := hgo.elim (fun q => skB_more hw q hk) fun q => skB_more hw q hk
  have l3 := ho.lt (adv s1) l2
  have m3 : s1.1 + 1 ≤ (one (adv s1)).2.1 := ho.mono (adv s1)
  refine W.region ?_
  refine pE rfl ?_
  refine WO.nil (qs ?_)
  iterate 2 refine W.seq ?_
  refine W.region ?_
  refine pE rfl ?_
  refine callB [0] [] rfl rfl rfl rfl rfl ((ris_sg L hw gSub rfl s1 hk hL)) rfl rfl (by rfl) (by rfl) rfl rfl rfl rfl ?_
  refine WO.nil (qs ?_)
  refine condK rfl (fun h14 => ?_) (fun h14 => ?_)
  ·
   let op : Int := 6
   have hI2 : leftGo L one opsSum n' (mk2 op e (one (adv s1)).1) (one (adv s1)).2 = leftP L one opsSum st := by
    rw [if_neg (by simp [skB_one h14 (show gSub ≠ gAdd by decide)]), if_pos h14] at hI
    exact hI
   refine W.region ?_
   refine pE rfl ?_
   refine WO.nil (qs (W.seq (W.region ?_)))
   iterate 4 refine pE rfl ?_
   first | refine pE rfl ?_ | refine pR rfl rfl rfl rfl rfl ?_ | refine pB rfl rfl rfl rfl rfl rfl ?_
   refine pu (puI (ev tab rfl) (y := ((s1.1 + 1 : Nat) : Int)) (by rw [wrap64 (by omega)]; rfl)) rfl ?_
   iterate 2 refine pE rfl ?_
   refine storeR tab rfl rfl rfl rfl rfl rfl rfl rfl ?_
   refine WO.nil (qs ?_)
   apply W.regionC tab 4 3; (case hB => kernel_rfl); (case h1 => rfl); (case h2 => rfl)
   refine' ccPu ?p1_1 (ev tab rfl) rfl rfl rfl rfl rfl ?h_1
   case' h_1 => skip
   first | (refine' ccPu ?p1_2 (ev tab rfl) rfl rfl rfl rfl rfl ?h_2) | (refine' ccPu ?p1_2 (loadRow tab rfl rfl rfl rfl) rfl rfl rfl rfl rfl ?h_2) | (refine' ccPu ?p1_2 (loadBox tab rfl rfl rfl rfl rfl) rfl rfl rfl rfl rfl ?h_2)
   case' h_2 => skip
   refine' ccPu0 (ev tab rfl) rfl rfl rfl rfl rfl ?h_3
   case' h_3 => skip
   refine' ccX (fun g => ?e_4) rfl rfl rfl ?h_4
   case e_4 =>
    refine callB [0] [] rfl rfl rfl rfl rfl ((hone (adv s1) l2 (by show L.length - (s1.1 + 1) ≤ d; omega))) rfl rfl (by rfl) (by rfl) rfl rfl rfl rfl ?_
    refine WO.nil ?_
    exact ⟨rfl, rfl⟩
   case' h_4 => skip
   case p1_1 => exact (ev tab rfl)
   case p1_2 => first | (exact (ev tab rfl)) | (exact (loadRow tab rfl rfl rfl rfl)) | (exact (loadBox tab rfl rfl rfl rfl rfl))
   refine CC.nil ?_
   refine pu (puCall rfl rfl rfl ((rtwo_fn _ _ _)) rfl) rfl ?_
   refine storeR tab rfl rfl rfl rfl rfl rfl rfl rfl ?_
   refine WO.nil (qbN ?_)
   refine W.endR [0, 1, 2] ⟨(n', mk2 op e (one (adv s1)).1, (one (adv s1)).2), ?_⟩ ?_ rfl ?_ trivial ?_ ⟨rfl, rfl, trivial⟩ rfl
   · exact ⟨l3, by omega, by omega, hI2⟩
   · dsimp only; omega
   · repeat' first | exact trivial | refine ⟨rfl, ?_⟩ | refine ⟨step_nat (by assumption) (by assumption), ?_⟩
   · repeat' first | exact trivial | refine ⟨rfl, ?_⟩ | refine ⟨step_nat (by assumption) (by assumption), ?_⟩
  ·
   let op : Int := 5
   have hI2 : leftGo L one opsSum n' (mk2 op e (one (adv s1)).1) (one (adv s1)).2 = leftP L one opsSum st := by
    rw [if_pos (hgo.resolve_right (by simp [h14]))] at hI
    exact hI
   refine W.skip (qs (W.seq (W.region ?_)))
   iterate 4 refine pE rfl ?_
   first | refine pE rfl ?_ | refine pR rfl rfl rfl rfl rfl ?_ | refine pB rfl rfl rfl rfl rfl rfl ?_
   refine pu (puI (ev tab rfl) (y := ((s1.1 + 1 : Nat) : Int)) (by rw [wrap64 (by omega)]; rfl)) rfl ?_
   iterate 2 refine pE rfl ?_
   refine storeR tab rfl rfl rfl rfl rfl rfl rfl rfl ?_
   refine WO.nil (qs ?_)
   apply W.regionC tab 4 3; (case hB => kernel_rfl); (case h1 => rfl); (case h2 => rfl)
   refine' ccPu ?p1_5 (ev tab rfl) rfl rfl rfl rfl rfl ?h_5
   case' h_5 => skip
   first | (refine' ccPu ?p1_6 (ev tab rfl) rfl rfl rfl rfl rfl ?h_6) | (refine' ccPu ?p1_6 (loadRow tab rfl rfl rfl rfl) rfl rfl rfl rfl rfl ?h_6) | (refine' ccPu ?p1_6 (loadBox tab rfl rfl rfl rfl rfl) rfl rfl rfl rfl rfl ?h_6)
   case' h_6 => skip
   refine' ccPu0 (ev tab rfl) rfl rfl rfl rfl rfl ?h_7
   case' h_7 => skip
   refine' ccX (fun g => ?e_8) rfl rfl rfl ?h_8
   case e_8 =>
    refine callB [0] [] rfl rfl rfl rfl rfl ((hone (adv s1) l2 (by show L.length - (s1.1 + 1) ≤ d; omega))) rfl rfl (by rfl) (by rfl) rfl rfl rfl rfl ?_
    refine WO.nil ?_
    exact ⟨rfl, rfl⟩
   case' h_8 => skip
   case p1_5 => exact (ev tab rfl)
   case p1_6 => first | (exact (ev tab rfl)) | (exact (loadRow tab rfl rfl rfl rfl)) | (exact (loadBox tab rfl rfl rfl rfl rfl))
   refine CC.nil ?_
   refine pu (puCall rfl rfl rfl ((rtwo_fn _ _ _)) rfl) rfl ?_
   refine storeR tab rfl rfl rfl rfl rfl rfl rfl rfl ?_
   refine WO.nil (qbN ?_)
   refine W.endR [0, 1, 2] ⟨(n', mk2 op e (one (adv s1)).1, (one (adv s1)).2), ?_⟩ ?_ rfl ?_ trivial ?_ ⟨rfl, rfl, trivial⟩ rfl
   · exact ⟨l3, by omega, by omega, hI2⟩
   · dsimp only; omega
   · repeat' first | exact trivial | refine ⟨rfl, ?_⟩ | refine ⟨step_nat (by assumption) (by assumption), ?_⟩
   · repeat' first | exact trivial | refine ⟨rfl, ?_⟩ | refine ⟨step_nat (by assumption) (by assumption), ?_⟩
 ·
  refine goG rfl rfl ?_
  refine pE rfl ?_
  refine goG rfl rfl ?_
  refine callB [0] [] rfl rfl rfl rfl rfl ((ris_sg L hw gSub rfl s1 hk hL)) rfl rfl (by rfl) (by rfl) rfl rfl rfl rfl ?_
  refine pE rfl ?_
  refine WO.nil (qs ?_)
  refine condK rfl (fun h12 => ?_) (fun h12 => ?_)
  ·
   refine W.skip (qs (W.block (W.seq ?_)))
   have hgo : skB L gAdd s1 = true ∨ skB L gSub s1 = true := by first | exact .inl g9 | exact .inr h12
   have l2 : s1.1 + 1 < L.length := hgo.elim (fun q => skB_more hw q hk) fun q => skB_more hw q hk
   have l3 := ho.lt (adv s1) l2
   have m3 : s1.1 + 1 ≤ (one (adv s1)).2.1 := ho.mono (adv s1)
   refine W.region ?_
   refine pE rfl ?_
   refine WO.nil (qs ?_)
   iterate 2 refine W.seq ?_
   refine W.region ?_
   refine pE rfl ?_
   refine callB [0] [] rfl rfl rfl rfl rfl ((ris_sg L hw gSub rfl s1 hk hL)) rfl rfl (by rfl) (by rfl) rfl rfl rfl rfl ?_
   refine WO.nil (qs ?_)
   refine condK rfl (fun h14 => ?_) (fun h14 => ?_)
   ·
    let op : Int := 6
    have hI2 : leftGo L one opsSum n' (mk2 op e (one (adv s1)).1) (one (adv s1)).2 = leftP L one opsSum st := by
     rw [if_neg (by simp [skB_one h14 (show gSub ≠ gAdd by decide)]), if_pos h14] at hI
     exact hI
    refine W.region ?_
    refine pE rfl ?_
    refine WO.nil (qs (W.seq (W.region ?_)))
    iterate 4 refine pE rfl ?_
    first | refine pE rfl ?_ | refine pR rfl rfl rfl rfl rfl ?_ | refine pB rfl rfl rfl rfl rfl rfl ?_
    refine pu (puI (ev tab rfl) (y := ((s1.1 + 1 : Nat) : Int)) (by rw [wrap64 (by omega)]; rfl)) rfl ?_
    iterate 2 refine pE rfl ?_
    refine storeR tab rfl rfl rfl rfl rfl rfl rfl rfl ?_
    refine WO.nil (qs ?_)
    apply W.regionC tab 4 3; (case hB => kernel_rfl); (case h1 => rfl); (case h2 => rfl)
    refine' ccPu ?p1_9 (ev tab rfl) rfl rfl rfl rfl rfl ?h_9
    case' h_9 => skip
    first | (refine' ccPu ?p1_10 (ev tab rfl) rfl rfl rfl rfl rfl ?h_10) | (refine' ccPu ?p1_10 (loadRow tab rfl rfl rfl rfl) rfl rfl rfl rfl rfl ?h_10) | (refine' ccPu ?p1_10 (loadBox tab rfl rfl rfl rfl rfl) rfl rfl rfl rfl rfl ?h_10)
    case' h_10 => skip
    refine' ccPu0 (ev tab rfl) rfl rfl rfl rfl rfl ?h_11
    case' h_11 => skip
    refine' ccX (fun g => ?e_12) rfl rfl rfl ?h_12
    case e_12 =>
     refine callB [0] [] rfl rfl rfl rfl rfl ((hone (adv s1) l2 (by show L.length - (s1.1 + 1) ≤ d; omega))) rfl rfl (by rfl) (by rfl) rfl rfl rfl rfl ?_
     refine WO.nil ?_
     exact ⟨rfl, rfl⟩
    case' h_12 => skip
    case p1_9 => exact (ev tab rfl)
    case p1_10 => first | (exact (ev tab rfl)) | (exact (loadRow tab rfl rfl rfl rfl)) | (exact (loadBox tab rfl rfl rfl rfl rfl))
    refine CC.nil ?_
    refine pu (puCall rfl rfl rfl ((rtwo_fn _ _ _)) rfl) rfl ?_
    refine storeR tab rfl rfl rfl rfl rfl rfl rfl rfl ?_
    refine WO.nil (qbN ?_)
    refine W.endR [0, 1, 2] ⟨(n', mk2 op e (one (adv s1)).1, (one (adv s1)).2), ?_⟩ ?_ rfl ?_ trivial ?_ ⟨rfl, rfl, trivial⟩ rfl
    · exact ⟨l3, by omega, by omega, hI2⟩
    · dsimp only; omega
    · repeat' first | exact trivial | refine ⟨rfl, ?_⟩ | refine ⟨step_nat (by assumption) (by assumption), ?_⟩
    · repeat' first | exact trivial | refine ⟨rfl, ?_⟩ | refine ⟨step_nat (by assumption) (by assumption), ?_⟩
   ·
    let op : Int := 5
    have hI2 : leftGo L one opsSum n' (mk2 op e (one (adv s1)).1) (one (adv s1)).2 = leftP L one opsSum st := by
     rw [if_pos (hgo.resolve_right (by simp [h14]))] at hI
     exact hI
    refine W.skip (qs (W.seq (W.region ?_)))
    iterate 4 refine pE rfl ?_
    first | refine pE rfl ?_ | refine pR rfl rfl rfl rfl rfl ?_ | refine pB rfl rfl rfl rfl rfl rfl ?_
    refine pu (puI (ev tab rfl) (y := ((s1.1 + 1 : Nat) : Int)) (by rw [wrap64 (by omega)]; rfl)) rfl ?_
    iterate 2 refine pE rfl ?_
    refine storeR tab rfl rfl rfl rfl rfl rfl rfl rfl ?_
    refine WO.nil (qs ?_)
    apply W.regionC tab 4 3; (case hB => kernel_rfl); (case h1 => rfl); (case h2 => rfl)
    refine' ccPu ?p1_13 (ev tab rfl) rfl rfl rfl rfl rfl ?h_13
    case' h_13 => skip
    first | (refine' ccPu ?p1_14 (ev tab rfl) rfl rfl rfl rfl rfl ?h_14) | (refine' ccPu ?p1_14 (loadRow tab rfl rfl rfl rfl) rfl rfl rfl rfl rfl ?h_14) | (refine' ccPu ?p1_14 (loadBox tab rfl rfl rfl rfl rfl) rfl rfl rfl rfl rfl ?h_14)
    case' h_14 => skip
    refine' ccPu0 (ev tab rfl) rfl rfl rfl rfl rfl ?h_15
    case' h_15 => skip
    refine' ccX (fun g => ?e_16) rfl rfl rfl ?h_16
    case e_16 =>
     refine callB [0] [] rfl rfl rfl rfl rfl ((hone (adv s1) l2 (by show L.length - (s1.1 + 1) ≤ d; omega))) rfl rfl (by rfl) (by rfl) rfl rfl rfl rfl ?_
     refine WO.nil ?_
     exact ⟨rfl, rfl⟩
    case' h_16 => skip
    case p1_13 => exact (ev tab rfl)
    case p1_14 => first | (exact (ev tab rfl)) | (exact (loadRow tab rfl rfl rfl rfl)) | (exact (loadBox tab rfl rfl rfl rfl rfl))
    refine CC.nil ?_
    refine pu (puCall rfl rfl rfl ((rtwo_fn _ _ _)) rfl) rfl ?_
    refine storeR tab rfl rfl rfl rfl rfl rfl rfl rfl ?_
    refine WO.nil (qbN ?_)
    refine W.endR [0, 1, 2] ⟨(n', mk2 op e (one (adv s1)).1, (one (adv s1)).2), ?_⟩ ?_ rfl ?_ trivial ?_ ⟨rfl, rfl, trivial⟩ rfl
    · exact ⟨l3, by omega, by omega, hI2⟩
    · dsimp only; omega
    · repeat' first | exact trivial | refine ⟨rfl, ?_⟩ | refine ⟨step_nat (by assumption) (by assumption), ?_⟩
    · repeat' first | exact trivial | refine ⟨rfl, ?_⟩ | refine ⟨step_nat (by assumption) (by assumption), ?_⟩
  ·
   rw [if_neg (by simp [g9]), if_neg (by simp [h12])] at hI
   refine W.exit (qsExit (qlExit (qbExit (qs (W.seq (W.region ?_))))))
   first | refine pE rfl ?_ | refine pR rfl rfl rfl rfl rfl ?_ | refine pB rfl rfl rfl rfl rfl rfl ?_
   refine storeR tab rfl rfl rfl rfl rfl rfl rfl rfl ?_
   refine WO.nil (qs (W.ret ?_))
   refine QB1.end tab [] trivial rfl rfl rfl rfl ?_ ?_
   ·
    rw [← hI]
    exact ⟨rfl, trivial⟩
   rw [← hI]
   rfl
theorem rprod_fn (L : List Tk) (hw : Wf L) (hL : L.length ≤ 3000000) (one : Pr Ex) (ho : Goes L one) (d : Nat) (hone : RdR L 152 one d) : RdR L 145 (leftP L one opsMul) d := by
 intro st h hd0
 have l1 := ho.lt st h
 have m1 := ho.mono st
 refine DoesB.of_V tab (n := 35) (rs := [.cell 2 37]) Tryz.func145 (by kernel_rfl) rfl Tryz.ntmps145 Tryz.results145 rfl rfl fun C hC hG => ?_
 refine W.seq (W.region ?_)
 refine allocR tab rfl rfl rfl ?_
 refine WO.nil (qs (W.seq (W.region ?_)))
 refine pE rfl ?_
 refine callB [0] [] rfl rfl rfl rfl rfl ((hone st h hd0)) rfl rfl (by rfl) (by rfl) rfl rfl rfl rfl ?_
 refine allocR tab rfl rfl rfl ?_
 refine storeR tab rfl rfl rfl rfl rfl rfl rfl rfl ?_
 refine WO.nil (qs (W.seq (W.block ?_)))
 refine W.loopR (ι := {x : Nat × Ex × PS // match x with | (n, e, s1) => s1.1 < L.length ∧ L.length - s1.1 ≤ d ∧ L.length - s1.1 ≤ n ∧ leftGo L one opsMul n e s1 = leftP L one opsMul st})
  (fun x => match x.1 with | (n, e, s1) => [(0, .ptr 0 0), (2, .ptr 1 0), (3, .ptr 2 0)]) []
  (fun x => match x.1 with | (n, e, s1) => [(0, bxR L s1), (2, e.c.map A.d)]) [(1, _)] [] 3 (fun x => match x.1 with | (n, e, s1) => n)
  [0, 1, 3] ⟨(L.length, (one st).1, (one st).2), ?_⟩ rfl ?_ trivial ?_ ⟨rfl, rfl, trivial⟩ rfl ?_
 · exact ⟨l1, by omega, by omega, rfl⟩
 · repeat' first | exact trivial | refine ⟨rfl, ?_⟩ | refine ⟨step_nat (by assumption) (by assumption), ?_⟩
 · repeat' first | exact trivial | refine ⟨rfl, ?_⟩ | refine ⟨step_nat (by assumption) (by assumption), ?_⟩
 rintro ⟨⟨n, e, s1⟩, hk, hd, hn, hI⟩
 show W _ _ _ _ _ ⟨[(0, .ptr 0 0), (2, .ptr 1 0), (3, .ptr 2 0)], [(0, bxR L s1), (2, e.c.map A.d), (1, _)], [], 3⟩
 obtain ⟨n', rfl⟩ : ∃ n', n = n' + 1 := ⟨n - 1, by omega⟩
 simp only [leftGo, find_cons, find_nil] at hI
 iterate 2 refine W.seq ?_
 refine W.region ?_
 refine pE rfl ?_
 refine callB [0] [] rfl rfl rfl rfl rfl ((ris_sg L hw gMul rfl s1 hk hL)) rfl rfl (by rfl) (by rfl) rfl rfl rfl rfl ?_
 refine pE rfl ?_
 refine splitG rfl rfl (fun g9 => ?_) (fun g9 => ?_)
 ·
  iterate 2 refine skipT rfl rfl rfl rfl ?_
  iterate 2 refine pE rfl ?_
  iterate 2 refine skipT rfl rfl rfl rfl ?_
  refine pE rfl ?_
  refine WO.nil (qs ?_)
  refine W.condT rfl ?_
  refine W.skip (qs (W.block (W.seq ?_)))
  have hgo : skB L gMul s1 = true ∨ skB L gDiv s1 = true ∨ skB L gMod s1 = true := by first | exact .inl g9 | exact .inr (.inr h16) | exact .inr (.inl (by simpa using g13)) | exact .inr (.inl g13)
  have l2 : s1.1 + 1 < L.length := hgo.elim (fun q => skB_more hw q hk) fun q => q.elim (fun q => skB_more hw q hk) fun q => skB_more hw q hk
  have l3 := ho.lt (adv s1) l2
  have m3 : s1.1 + 1 ≤ (one (adv s1)).2.1 := ho.mono (adv s1)
  refine W.region ?_
  refine pE rfl ?_
  refine WO.nil (qs ?_)
  iterate 2 refine W.seq ?_
  refine W.region ?_
  refine pE rfl ?_
  refine callB [0] [] rfl rfl rfl rfl rfl ((ris_sg L hw gDiv rfl s1 hk hL)) rfl rfl (by rfl) (by rfl) rfl rfl rfl rfl ?_
  refine WO.nil (qs ?_)
  refine condK rfl (fun h18 => ?_) (fun h18 => ?_)
  ·
   let op1 : Int := 8
   have hop1 : op1 = if skB L gDiv s1 then 8 else 7 := by rw [if_pos h18]
   refine W.region ?_
   refine pE rfl ?_
   refine WO.nil (qs ?_)
   iterate 2 refine W.seq ?_
   refine W.region ?_
   refine pE rfl ?_
   refine callB [0] [] rfl rfl rfl rfl rfl ((ris_sg L hw gMod rfl s1 hk hL)) rfl rfl (by rfl) (by rfl) rfl rfl rfl rfl ?_
   refine WO.nil (qs ?_)
   refine condK rfl (fun h20 => ?_) (fun h20 => ?_)
   ·
    let op : Int := 9
    have hop : op = if skB L gMod s1 then 9 else if skB L gDiv s1 then 8 else 7 := by rw [if_pos h20]
    refine W.region ?_
    refine pE rfl ?_
    refine WO.nil (qs (W.seq ?_))
    have hI2 : leftGo L one opsMul n' (mk2 op e (one (adv s1)).1) (one (adv s1)).2 = leftP L one opsMul st := by
     rw [hop]
     rcases hgo with q | q | q
     ·
      rw [if_pos q] at hI
      rw [if_neg (by simp [skB_one q (show gMul ≠ gMod by decide)]), if_neg (by simp [skB_one q (show gMul ≠ gDiv by decide)])]
      exact hI
     ·
      rw [if_neg (by simp [skB_one q (show gDiv ≠ gMul by decide)]), if_pos q] at hI
      rw [if_neg (by simp [skB_one q (show gDiv ≠ gMod by decide)]), if_pos q]
      exact hI
     ·
      rw [if_neg (by simp [skB_one q (show gMod ≠ gMul by decide)]), if_neg (by simp [skB_one q (show gMod ≠ gDiv by decide)]), if_pos q] at hI
      rw [if_pos q]
      exact hI
    refine W.region ?_
    iterate 4 refine pE rfl ?_
    first | refine pE rfl ?_ | refine pR rfl rfl rfl rfl rfl ?_ | refine pB rfl rfl rfl rfl rfl rfl ?_
    refine pu (puI (ev tab rfl) (y := ((s1.1 + 1 : Nat) : Int)) (by rw [wrap64 (by omega)]; rfl)) rfl ?_
    iterate 2 refine pE rfl ?_
    refine storeR tab rfl rfl rfl rfl rfl rfl rfl rfl ?_
    refine WO.nil (qs ?_)
    apply W.regionC tab 4 3; (case hB => kernel_rfl); (case h1 => rfl); (case h2 => rfl)
    refine' ccPu ?p1_1 (ev tab rfl) rfl rfl rfl rfl rfl ?h_1
    case' h_1 => skip
    first | (refine' ccPu ?p1_2 (ev tab rfl) rfl rfl rfl rfl rfl ?h_2) | (refine' ccPu ?p1_2 (loadRow tab rfl rfl rfl rfl) rfl rfl rfl rfl rfl ?h_2) | (refine' ccPu ?p1_2 (loadBox tab rfl rfl rfl rfl rfl) rfl rfl rfl rfl rfl ?h_2)
    case' h_2 => skip
    refine' ccPu0 (ev tab rfl) rfl rfl rfl rfl rfl ?h_3
    case' h_3 => skip
    refine' ccX (fun g => ?e_4) rfl rfl rfl ?h_4
    case e_4 =>
     refine callB [0] [] rfl rfl rfl rfl rfl ((hone (adv s1) l2 (by show L.length - (s1.1 + 1) ≤ d; omega))) rfl rfl (by rfl) (by rfl) rfl rfl rfl rfl ?_
     refine WO.nil ?_
     exact ⟨rfl, rfl⟩
    case' h_4 => skip
    case p1_1 => exact (ev tab rfl)
    case p1_2 => first | (exact (ev tab rfl)) | (exact (loadRow tab rfl rfl rfl rfl)) | (exact (loadBox tab rfl rfl rfl rfl rfl))
    refine CC.nil ?_
    refine pu (puCall rfl rfl rfl ((rtwo_fn _ _ _)) rfl) rfl ?_
    refine storeR tab rfl rfl rfl rfl rfl rfl rfl rfl ?_
    refine WO.nil (qbN ?_)
    refine W.endR [0, 1, 2] ⟨(n', mk2 op e (one (adv s1)).1, (one (adv s1)).2), ?_⟩ ?_ rfl ?_ trivial ?_ ⟨rfl, rfl, trivial⟩ rfl
    · exact ⟨l3, by omega, by omega, hI2⟩
    · dsimp only; omega
    · repeat' first | exact trivial | refine ⟨rfl, ?_⟩ | refine ⟨step_nat (by assumption) (by assumption), ?_⟩
    · repeat' first | exact trivial | refine ⟨rfl, ?_⟩ | refine ⟨step_nat (by assumption) (by assumption), ?_⟩
   ·
    let op : Int := op1
    have hop : op = if skB L gMod s1 then 9 else if skB L gDiv s1 then 8 else 7 := by rw [if_neg (by simp [h20])]; exact hop1
    refine W.skip (qs (W.seq ?_))
    have hI2 : leftGo L one opsMul n' (mk2 op e (one (adv s1)).1) (one (adv s1)).2 = leftP L one opsMul st := by
     rw [hop]
     rcases hgo with q | q | q
     ·
      rw [if_pos q] at hI
      rw [if_neg (by simp [skB_one q (show gMul ≠ gMod by decide)]), if_neg (by simp [skB_one q (show gMul ≠ gDiv by decide)])]
      exact hI
     ·
      rw [if_neg (by simp [skB_one q (show gDiv ≠ gMul by decide)]), if_pos q] at hI
      rw [if_neg (by simp [skB_one q (show gDiv ≠ gMod by decide)]), if_pos q]
      exact hI
     ·
      rw [if_neg (by simp [skB_one q (show gMod ≠ gMul by decide)]), if_neg (by simp [skB_one q (show gMod ≠ gDiv by decide)]), if_pos q] at hI
      rw [if_pos q]
      exact hI
    refine W.region ?_
    iterate 4 refine pE rfl ?_
    first | refine pE rfl ?_ | refine pR rfl rfl rfl rfl rfl ?_ | refine pB rfl rfl rfl rfl rfl rfl ?_
    refine pu (puI (ev tab rfl) (y := ((s1.1 + 1 : Nat) : Int)) (by rw [wrap64 (by omega)]; rfl)) rfl ?_
    iterate 2 refine pE rfl ?_
    refine storeR tab rfl rfl rfl rfl rfl rfl rfl rfl ?_
    refine WO.nil (qs ?_)
    apply W.regionC tab 4 3; (case hB => kernel_rfl); (case h1 => rfl); (case h2 => rfl)
    refine' ccPu ?p1_5 (ev tab rfl) rfl rfl rfl rfl rfl ?h_5
    case' h_5 => skip
    first | (refine' ccPu ?p1_6 (ev tab rfl) rfl rfl rfl rfl rfl ?h_6) | (refine' ccPu ?p1_6 (loadRow tab rfl rfl rfl rfl) rfl rfl rfl rfl rfl ?h_6) | (refine' ccPu ?p1_6 (loadBox tab rfl rfl rfl rfl rfl) rfl rfl rfl rfl rfl ?h_6)
    case' h_6 => skip
    refine' ccPu0 (ev tab rfl) rfl rfl rfl rfl rfl ?h_7
    case' h_7 => skip
    refine' ccX (fun g => ?e_8) rfl rfl rfl ?h_8
    case e_8 =>
     refine callB [0] [] rfl rfl rfl rfl rfl ((hone (adv s1) l2 (by show L.length - (s1.1 + 1) ≤ d; omega))) rfl rfl (by rfl) (by rfl) rfl rfl rfl rfl ?_
     refine WO.nil ?_
     exact ⟨rfl, rfl⟩
    case' h_8 => skip
    case p1_5 => exact (ev tab rfl)
    case p1_6 => first | (exact (ev tab rfl)) | (exact (loadRow tab rfl rfl rfl rfl)) | (exact (loadBox tab rfl rfl rfl rfl rfl))
    refine CC.nil ?_
    refine pu (puCall rfl rfl rfl ((rtwo_fn _ _ _)) rfl) rfl ?_
    refine storeR tab rfl rfl rfl rfl rfl rfl rfl rfl ?_
    refine WO.nil (qbN ?_)
    refine W.endR [0, 1, 2] ⟨(n', mk2 op e (one (adv s1)).1, (one (adv s1)).2), ?_⟩ ?_ rfl ?_ trivial ?_ ⟨rfl, rfl, trivial⟩ rfl
    · exact ⟨l3, by omega, by omega, hI2⟩
    · dsimp only; omega
    · repeat' first | exact trivial | refine ⟨rfl, ?_⟩ | refine ⟨step_nat (by assumption) (by assumption), ?_⟩
    · repeat' first | exact trivial | refine ⟨rfl, ?_⟩ | refine ⟨step_nat (by assumption) (by assumption), ?_⟩
  ·
   let op1 : Int := 7
   have hop1 : op1 = if skB L gDiv s1 then 8 else 7 := by rw [if_neg (by simp [h18])]
   refine W.skip (qs ?_)
   iterate 2 refine W.seq ?_
   refine W.region ?_
   refine pE rfl ?_
   refine callB [0] [] rfl rfl rfl rfl rfl ((ris_sg L hw gMod rfl s1 hk hL)) rfl rfl (by rfl) (by rfl) rfl rfl rfl rfl ?_
   refine WO.nil (qs ?_)
   refine condK rfl (fun h20 => ?_) (fun h20 => ?_)
   ·
    let op : Int := 9
    have hop : op = if skB L gMod s1 then 9 else if skB L gDiv s1 then 8 else 7 := by rw [if_pos h20]
    refine W.region ?_
    refine pE rfl ?_
    refine WO.nil (qs (W.seq ?_))
    have hI2 : leftGo L one opsMul n' (mk2 op e (one (adv s1)).1) (one (adv s1)).2 = leftP L one opsMul st := by
     rw [hop]
     rcases hgo with q | q | q
     ·
      rw [if_pos q] at hI
      rw [if_neg (by simp [skB_one q (show gMul ≠ gMod by decide)]), if_neg (by simp [skB_one q (show gMul ≠ gDiv by decide)])]
      exact hI
     ·
      rw [if_neg (by simp [skB_one q (show gDiv ≠ gMul by decide)]), if_pos q] at hI
      rw [if_neg (by simp [skB_one q (show gDiv ≠ gMod by decide)]), if_pos q]
      exact hI
     ·
      rw [if_neg (by simp [skB_one q (show gMod ≠ gMul by decide)]), if_neg (by simp [skB_one q (show gMod ≠ gDiv by decide)]), if_pos q] at hI
      rw [if_pos q]
      exact hI
    refine W.region ?_
    iterate 4 refine pE rfl ?_
    first | refine pE rfl ?_ | refine pR rfl rfl rfl rfl rfl ?_ | refine pB rfl rfl rfl rfl rfl rfl ?_
    refine pu (puI (ev tab rfl) (y := ((s1.1 + 1 : Nat) : Int)) (by rw [wrap64 (by omega)]; rfl)) rfl ?_
    iterate 2 refine pE rfl ?_
    refine storeR tab rfl rfl rfl rfl rfl rfl rfl rfl ?_
    refine WO.nil (qs ?_)
    apply W.regionC tab 4 3; (case hB => kernel_rfl); (case h1 => rfl); (case h2 => rfl)
    refine' ccPu ?p1_9 (ev tab rfl) rfl rfl rfl rfl rfl ?h_9
    case' h_9 => skip
    first | (refine' ccPu ?p1_10 (ev tab rfl) rfl rfl rfl rfl rfl ?h_10) | (refine' ccPu ?p1_10 (loadRow tab rfl rfl rfl rfl) rfl rfl rfl rfl rfl ?h_10) | (refine' ccPu ?p1_10 (loadBox tab rfl rfl rfl rfl rfl) rfl rfl rfl rfl rfl ?h_10)
    case' h_10 => skip
    refine' ccPu0 (ev tab rfl) rfl rfl rfl rfl rfl ?h_11
    case' h_11 => skip
    refine' ccX (fun g => ?e_12) rfl rfl rfl ?h_12
    case e_12 =>
     refine callB [0] [] rfl rfl rfl rfl rfl ((hone (adv s1) l2 (by show L.length - (s1.1 + 1) ≤ d; omega))) rfl rfl (by rfl) (by rfl) rfl rfl rfl rfl ?_
     refine WO.nil ?_
     exact ⟨rfl, rfl⟩
    case' h_12 => skip
    case p1_9 => exact (ev tab rfl)
    case p1_10 => first | (exact (ev tab rfl)) | (exact (loadRow tab rfl rfl rfl rfl)) | (exact (loadBox tab rfl rfl rfl rfl rfl))
    refine CC.nil ?_
    refine pu (puCall rfl rfl rfl ((rtwo_fn _ _ _)) rfl) rfl ?_
    refine storeR tab rfl rfl rfl rfl rfl rfl rfl rfl ?_
    refine WO.nil (qbN ?_)
    refine W.endR [0, 1, 2] ⟨(n', mk2 op e (one (adv s1)).1, (one (adv s1)).2), ?_⟩ ?_ rfl ?_ trivial ?_ ⟨rfl, rfl, trivial⟩ rfl
    · exact ⟨l3, by omega, by omega, hI2⟩
    · dsimp only; omega
    · repeat' first | exact trivial | refine ⟨rfl, ?_⟩ | refine ⟨step_nat (by assumption) (by assumption), ?_⟩
    · repeat' first | exact trivial | refine ⟨rfl, ?_⟩ | refine ⟨step_nat (by assumption) (by assumption), ?_⟩
   ·
    let op : Int := op1
    have hop : op = if skB L gMod s1 then 9 else if skB L gDiv s1 then 8 else 7 := by rw [if_neg (by simp [h20])]; exact hop1
    refine W.skip (qs (W.seq ?_))
    have hI2 : leftGo L one opsMul n' (mk2 op e (one (adv s1)).1) (one (adv s1)).2 = leftP L one opsMul st := by
     rw [hop]
     rcases hgo with q | q | q
     ·
      rw [if_pos q] at hI
      rw [if_neg (by simp [skB_one q (show gMul ≠ gMod by decide)]), if_neg (by simp [skB_one q (show gMul ≠ gDiv by decide)])]
      exact hI
     ·
      rw [if_neg (by simp [skB_one q (show gDiv ≠ gMul by decide)]), if_pos q] at hI
      rw [if_neg (by simp [skB_one q (show gDiv ≠ gMod by decide)]), if_pos q]
      exact hI
     ·
      rw [if_neg (by simp [skB_one q (show gMod ≠ gMul by decide)]), if_neg (by simp [skB_one q (show gMod ≠ gDiv by decide)]), if_pos q] at hI
      rw [if_pos q]
      exact hI
    refine W.region ?_
    iterate 4 refine pE rfl ?_
    first | refine pE rfl ?_ | refine pR rfl rfl rfl rfl rfl ?_ | refine pB rfl rfl rfl rfl rfl rfl ?_
    refine pu (puI (ev tab rfl) (y := ((s1.1 + 1 : Nat) : Int)) (by rw [wrap64 (by omega)]; rfl)) rfl ?_
    iterate 2 refine pE rfl ?_
    refine storeR tab rfl rfl rfl rfl rfl rfl rfl rfl ?_
    refine WO.nil (qs ?_)
    apply W.regionC tab 4 3; (case hB => kernel_rfl); (case h1 => rfl); (case h2 => rfl)
    refine' ccPu ?p1_13 (ev tab rfl) rfl rfl rfl rfl rfl ?h_13
    case' h_13 => skip
    first | (refine' ccPu ?p1_14 (ev tab rfl) rfl rfl rfl rfl rfl ?h_14) | (refine' ccPu ?p1_14 (loadRow tab rfl rfl rfl rfl) rfl rfl rfl rfl rfl ?h_14) | (refine' ccPu ?p1_14 (loadBox tab rfl rfl rfl rfl rfl) rfl rfl rfl rfl rfl ?h_14)
    case' h_14 => skip
    refine' ccPu0 (ev tab rfl) rfl rfl rfl rfl rfl ?h_15
    case' h_15 => skip
    refine' ccX (fun g => ?e_16) rfl rfl rfl ?h_16
    case e_16 =>
     refine callB [0] [] rfl rfl rfl rfl rfl ((hone (adv s1) l2 (by show L.length - (s1.1 + 1) ≤ d; omega))) rfl rfl (by rfl) (by rfl) rfl rfl rfl rfl ?_
     refine WO.nil ?_
     exact ⟨rfl, rfl⟩
    case' h_16 => skip
    case p1_13 => exact (ev tab rfl)
    case p1_14 => first | (exact (ev tab rfl)) | (exact (loadRow tab rfl rfl rfl rfl)) | (exact (loadBox tab rfl rfl rfl rfl rfl))
    refine CC.nil ?_
    refine pu (puCall rfl rfl rfl ((rtwo_fn _ _ _)) rfl) rfl ?_
    refine storeR tab rfl rfl rfl rfl rfl rfl rfl rfl ?_
    refine WO.nil (qbN ?_)
    refine W.endR [0, 1, 2] ⟨(n', mk2 op e (one (adv s1)).1, (one (adv s1)).2), ?_⟩ ?_ rfl ?_ trivial ?_ ⟨rfl, rfl, trivial⟩ rfl
    · exact ⟨l3, by omega, by omega, hI2⟩
    · dsimp only; omega
    · repeat' first | exact trivial | refine ⟨rfl, ?_⟩ | refine ⟨step_nat (by assumption) (by assumption), ?_⟩
    · repeat' first | exact trivial | refine ⟨rfl, ?_⟩ | refine ⟨step_nat (by assumption) (by assumption), ?_⟩
 ·
  refine goG rfl rfl ?_
  refine pE rfl ?_
  refine goG rfl rfl ?_
  refine callB [0] [] rfl rfl rfl rfl rfl ((ris_sg L hw gDiv rfl s1 hk hL)) rfl rfl (by rfl) (by rfl) rfl rfl rfl rfl ?_
  iterate 2 refine pE rfl ?_
  refine splitG rfl rfl (fun g13 => ?_) (fun g13 => ?_)
  ·
   iterate 2 refine skipT rfl rfl rfl rfl ?_
   refine pE rfl ?_
   refine WO.nil (qs ?_)
   refine W.condT rfl ?_
   refine W.skip (qs (W.block (W.seq ?_)))
   have hgo : skB L gMul s1 = true ∨ skB L gDiv s1 = true ∨ skB L gMod s1 = true := by first | exact .inl g9 | exact .inr (.inr h16) | exact .inr (.inl (by simpa using g13)) | exact .inr (.inl g13)
   have l2 : s1.1 + 1 < L.length := hgo.elim (fun q => skB_more hw q hk) fun q => q.elim (fun q => skB_more hw q hk) fun q => skB_more hw q hk
   have l3 := ho.lt (adv s1) l2
   have m3 : s1.1 + 1 ≤ (one (adv s1)).2.1 := ho.mono (adv s1)
   refine W.region ?_
   refine pE rfl ?_
   refine WO.nil (qs ?_)
   iterate 2 refine W.seq ?_
   refine W.region ?_
   refine pE rfl ?_
   refine callB [0] [] rfl rfl rfl rfl rfl ((ris_sg L hw gDiv rfl s1 hk hL)) rfl rfl (by rfl) (by rfl) rfl rfl rfl rfl ?_
   refine WO.nil (qs ?_)
   refine condK rfl (fun h18 => ?_) (fun h18 => ?_)
   ·
    let op1 : Int := 8
    have hop1 : op1 = if skB L gDiv s1 then 8 else 7 := by rw [if_pos h18]
    refine W.region ?_
    refine pE rfl ?_
    refine WO.nil (qs ?_)
    iterate 2 refine W.seq ?_
    refine W.region ?_
    refine pE rfl ?_
    refine callB [0] [] rfl rfl rfl rfl rfl ((ris_sg L hw gMod rfl s1 hk hL)) rfl rfl (by rfl) (by rfl) rfl rfl rfl rfl ?_
    refine WO.nil (qs ?_)
    refine condK rfl (fun h20 => ?_) (fun h20 => ?_)
    ·
     let op : Int := 9
     have hop : op = if skB L gMod s1 then 9 else if skB L gDiv s1 then 8 else 7 := by rw [if_pos h20]
     refine W.region ?_
     refine pE rfl ?_
     refine WO.nil (qs (W.seq ?_))
     have hI2 : leftGo L one opsMul n' (mk2 op e (one (adv s1)).1) (one (adv s1)).2 = leftP L one opsMul st := by
      rw [hop]
      rcases hgo with q | q | q
      ·
       rw [if_pos q] at hI
       rw [if_neg (by simp [skB_one q (show gMul ≠ gMod by decide)]), if_neg (by simp [skB_one q (show gMul ≠ gDiv by decide)])]
       exact hI
      ·
       rw [if_neg (by simp [skB_one q (show gDiv ≠ gMul by decide)]), if_pos q] at hI
       rw [if_neg (by simp [skB_one q (show gDiv ≠ gMod by decide)]), if_pos q]
       exact hI
      ·
       rw [if_neg (by simp [skB_one q (show gMod ≠ gMul by decide)]), if_neg (by simp [skB_one q (show gMod ≠ gDiv by decide)]), if_pos q] at hI
       rw [if_pos q]
       exact hI
     refine W.region ?_
     iterate 4 refine pE rfl ?_
     first | refine pE rfl ?_ | refine pR rfl rfl rfl rfl rfl ?_ | refine pB rfl rfl rfl rfl rfl rfl ?_
     refine pu (puI (ev tab rfl) (y := ((s1.1 + 1 : Nat) : Int)) (by rw [wrap64 (by omega)]; rfl)) rfl ?_
     iterate 2 refine pE rfl ?_
     refine storeR tab rfl rfl rfl rfl rfl rfl rfl rfl ?_
     refine WO.nil (qs ?_)
     apply W.regionC tab 4 3; (case hB => kernel_rfl); (case h1 => rfl); (case h2 => rfl)
     refine' ccPu ?p1_17 (ev tab rfl) rfl rfl rfl rfl rfl ?h_17
     case' h_17 => skip
     first | (refine' ccPu ?p1_18 (ev tab rfl) rfl rfl rfl rfl rfl ?h_18) | (refine' ccPu ?p1_18 (loadRow tab rfl rfl rfl rfl) rfl rfl rfl rfl rfl ?h_18) | (refine' ccPu ?p1_18 (loadBox tab rfl rfl rfl rfl rfl) rfl rfl rfl rfl rfl ?h_18)
     case' h_18 => skip
     refine' ccPu0 (ev tab rfl) rfl rfl rfl rfl rfl ?h_19
     case' h_19 => skip
     refine' ccX (fun g => ?e_20) rfl rfl rfl ?h_20
     case e_20 =>
      refine callB [0] [] rfl rfl rfl rfl rfl ((hone (adv s1) l2 (by show L.length - (s1.1 + 1) ≤ d; omega))) rfl rfl (by rfl) (by rfl) rfl rfl rfl rfl ?_
      refine WO.nil ?_
      exact ⟨rfl, rfl⟩
     case' h_20 => skip
     case p1_17 => exact (ev tab rfl)
     case p1_18 => first | (exact (ev tab rfl)) | (exact (loadRow tab rfl rfl rfl rfl)) | (exact (loadBox tab rfl rfl rfl rfl rfl))
     refine CC.nil ?_
     refine pu (puCall rfl rfl rfl ((rtwo_fn _ _ _)) rfl) rfl ?_
     refine storeR tab rfl rfl rfl rfl rfl rfl rfl rfl ?_
     refine WO.nil (qbN ?_)
     refine W.endR [0, 1, 2] ⟨(n', mk2 op e (one (adv s1)).1, (one (adv s1)).2), ?_⟩ ?_ rfl ?_ trivial ?_ ⟨rfl, rfl, trivial⟩ rfl
     · exact ⟨l3, by omega, by omega, hI2⟩
     · dsimp only; omega
     · repeat' first | exact trivial | refine ⟨rfl, ?_⟩ | refine ⟨step_nat (by assumption) (by assumption), ?_⟩
     · repeat' first | exact trivial | refine ⟨rfl, ?_⟩ | refine ⟨step_nat (by assumption) (by assumption), ?_⟩
    ·
     let op : Int := op1
     have hop : op = if skB L gMod s1 then 9 else if skB L gDiv s1 then 8 else 7 := by rw [if_neg (by simp [h20])]; exact hop1
     refine W.skip (qs (W.seq ?_))
     have hI2 : leftGo L one opsMul n' (mk2 op e (one (adv s1)).1) (one (adv s1)).2 = leftP L one opsMul st := by
      rw [hop]
      rcases hgo with q | q | q
      ·
       rw [if_pos q] at hI
       rw [if_neg (by simp [skB_one q (show gMul ≠ gMod by decide)]), if_neg (by simp [skB_one q (show gMul ≠ gDiv by decide)])]
       exact hI
      ·
       rw [if_neg (by simp [skB_one q (show gDiv ≠ gMul by decide)]), if_pos q] at hI
       rw [if_neg (by simp [skB_one q (show gDiv ≠ gMod by decide)]), if_pos q]
       exact hI
      ·
       rw [if_neg (by simp [skB_one q (show gMod ≠ gMul by decide)]), if_neg (by simp [skB_one q (show gMod ≠ gDiv by decide)]), if_pos q] at hI
       rw [if_pos q]
       exact hI
     refine W.region ?_
     iterate 4 refine pE rfl ?_
     first | refine pE rfl ?_ | refine pR rfl rfl rfl rfl rfl ?_ | refine pB rfl rfl rfl rfl rfl rfl ?_
     refine pu (puI (ev tab rfl) (y := ((s1.1 + 1 : Nat) : Int)) (by rw [wrap64 (by omega)]; rfl)) rfl ?_
     iterate 2 refine pE rfl ?_
     refine storeR tab rfl rfl rfl rfl rfl rfl rfl rfl ?_
     refine WO.nil (qs ?_)
     apply W.regionC tab 4 3; (case hB => kernel_rfl); (case h1 => rfl); (case h2 => rfl)
     refine' ccPu ?p1_21 (ev tab rfl) rfl rfl rfl rfl rfl ?h_21
     case' h_21 => skip
     first | (refine' ccPu ?p1_22 (ev tab rfl) rfl rfl rfl rfl rfl ?h_22) | (refine' ccPu ?p1_22 (loadRow tab rfl rfl rfl rfl) rfl rfl rfl rfl rfl ?h_22) | (refine' ccPu ?p1_22 (loadBox tab rfl rfl rfl rfl rfl) rfl rfl rfl rfl rfl ?h_22)
     case' h_22 => skip
     refine' ccPu0 (ev tab rfl) rfl rfl rfl rfl rfl ?h_23
     case' h_23 => skip
     refine' ccX (fun g => ?e_24) rfl rfl rfl ?h_24
     case e_24 =>
      refine callB [0] [] rfl rfl rfl rfl rfl ((hone (adv s1) l2 (by show L.length - (s1.1 + 1) ≤ d; omega))) rfl rfl (by rfl) (by rfl) rfl rfl rfl rfl ?_
      refine WO.nil ?_
      exact ⟨rfl, rfl⟩
     case' h_24 => skip
     case p1_21 => exact (ev tab rfl)
     case p1_22 => first | (exact (ev tab rfl)) | (exact (loadRow tab rfl rfl rfl rfl)) | (exact (loadBox tab rfl rfl rfl rfl rfl))
     refine CC.nil ?_
     refine pu (puCall rfl rfl rfl ((rtwo_fn _ _ _)) rfl) rfl ?_
     refine storeR tab rfl rfl rfl rfl rfl rfl rfl rfl ?_
     refine WO.nil (qbN ?_)
     refine W.endR [0, 1, 2] ⟨(n', mk2 op e (one (adv s1)).1, (one (adv s1)).2), ?_⟩ ?_ rfl ?_ trivial ?_ ⟨rfl, rfl, trivial⟩ rfl
     · exact ⟨l3, by omega, by omega, hI2⟩
     · dsimp only; omega
     · repeat' first | exact trivial | refine ⟨rfl, ?_⟩ | refine ⟨step_nat (by assumption) (by assumption), ?_⟩
     · repeat' first | exact trivial | refine ⟨rfl, ?_⟩ | refine ⟨step_nat (by assumption) (by assumption), ?_⟩
   ·
    let op1 : Int := 7
    have hop1 : op1 = if skB L gDiv s1 then 8 else 7 := by rw [if_neg (by simp [h18])]
    refine W.skip (qs ?_)
    iterate 2 refine W.seq ?_
    refine W.region ?_
    refine pE rfl ?_
    refine callB [0] [] rfl rfl rfl rfl rfl ((ris_sg L hw gMod rfl s1 hk hL)) rfl rfl (by rfl) (by rfl) rfl rfl rfl rfl ?_
    refine WO.nil (qs ?_)
    refine condK rfl (fun h20 => ?_) (fun h20 => ?_)
    ·
     let op : Int := 9
     have hop : op = if skB L gMod s1 then 9 else if skB L gDiv s1 then 8 else 7 := by rw [if_pos h20]
     refine W.region ?_
     refine pE rfl ?_
     refine WO.nil (qs (W.seq ?_))
     have hI2 : leftGo L one opsMul n' (mk2 op e (one (adv s1)).1) (one (adv s1)).2 = leftP L one opsMul st := by
      rw [hop]
      rcases hgo with q | q | q
      ·
       rw [if_pos q] at hI
       rw [if_neg (by simp [skB_one q (show gMul ≠ gMod by decide)]), if_neg (by simp [skB_one q (show gMul ≠ gDiv by decide)])]
       exact hI
      ·
       rw [if_neg (by simp [skB_one q (show gDiv ≠ gMul by decide)]), if_pos q] at hI
       rw [if_neg (by simp [skB_one q (show gDiv ≠ gMod by decide)]), if_pos q]
       exact hI
      ·
       rw [if_neg (by simp [skB_one q (show gMod ≠ gMul by decide)]), if_neg (by simp [skB_one q (show gMod ≠ gDiv by decide)]), if_pos q] at hI
       rw [if_pos q]
       exact hI
     refine W.region ?_
     iterate 4 refine pE rfl ?_
     first | refine pE rfl ?_ | refine pR rfl rfl rfl rfl rfl ?_ | refine pB rfl rfl rfl rfl rfl rfl ?_
     refine pu (puI (ev tab rfl) (y := ((s1.1 + 1 : Nat) : Int)) (by rw [wrap64 (by omega)]; rfl)) rfl ?_
     iterate 2 refine pE rfl ?_
     refine storeR tab rfl rfl rfl rfl rfl rfl rfl rfl ?_
     refine WO.nil (qs ?_)
     apply W.regionC tab 4 3; (case hB => kernel_rfl); (case h1 => rfl); (case h2 => rfl)
     refine' ccPu ?p1_25 (ev tab rfl) rfl rfl rfl rfl rfl ?h_25
     case' h_25 => skip
     first | (refine' ccPu ?p1_26 (ev tab rfl) rfl rfl rfl rfl rfl ?h_26) | (refine' ccPu ?p1_26 (loadRow tab rfl rfl rfl rfl) rfl rfl rfl rfl rfl ?h_26) | (refine' ccPu ?p1_26 (loadBox tab rfl rfl rfl rfl rfl) rfl rfl rfl rfl rfl ?h_26)
     case' h_26 => skip
     refine' ccPu0 (ev tab rfl) rfl rfl rfl rfl rfl ?h_27
     case' h_27 => skip
     refine' ccX (fun g => ?e_28) rfl rfl rfl ?h_28
     case e_28 =>
      refine callB [0] [] rfl rfl rfl rfl rfl ((hone (adv s1) l2 (by show L.length - (s1.1 + 1) ≤ d; omega))) rfl rfl (by rfl) (by rfl) rfl rfl rfl rfl ?_
      refine WO.nil ?_
      exact ⟨rfl, rfl⟩
     case' h_28 => skip
     case p1_25 => exact (ev tab rfl)
     case p1_26 => first | (exact (ev tab rfl)) | (exact (loadRow tab rfl rfl rfl rfl)) | (exact (loadBox tab rfl rfl rfl rfl rfl))
     refine CC.nil ?_
     refine pu (puCall rfl rfl rfl ((rtwo_fn _ _ _)) rfl) rfl ?_
     refine storeR tab rfl rfl rfl rfl rfl rfl rfl rfl ?_
     refine WO.nil (qbN ?_)
     refine W.endR [0, 1, 2] ⟨(n', mk2 op e (one (adv s1)).1, (one (adv s1)).2), ?_⟩ ?_ rfl ?_ trivial ?_ ⟨rfl, rfl, trivial⟩ rfl
     · exact ⟨l3, by omega, by omega, hI2⟩
     · dsimp only; omega
     · repeat' first | exact trivial | refine ⟨rfl, ?_⟩ | refine ⟨step_nat (by assumption) (by assumption), ?_⟩
     · repeat' first | exact trivial | refine ⟨rfl, ?_⟩ | refine ⟨step_nat (by assumption) (by assumption), ?_⟩
    ·
     let op : Int := op1
     have hop : op = if skB L gMod s1 then 9 else if skB L gDiv s1 then 8 else 7 := by rw [if_neg (by simp [h20])]; exact hop1
     refine W.skip (qs (W.seq ?_))
     have hI2 : leftGo L one opsMul n' (mk2 op e (one (adv s1)).1) (one (adv s1)).2 = leftP L one opsMul st := by
      rw [hop]
      rcases hgo with q | q | q
      ·
       rw [if_pos q] at hI
       rw [if_neg (by simp [skB_one q (show gMul ≠ gMod by decide)]), if_neg (by simp [skB_one q (show gMul ≠ gDiv by decide)])]
       exact hI
      ·
       rw [if_neg (by simp [skB_one q (show gDiv ≠ gMul by decide)]), if_pos q] at hI
       rw [if_neg (by simp [skB_one q (show gDiv ≠ gMod by decide)]), if_pos q]
       exact hI
      ·
       rw [if_neg (by simp [skB_one q (show gMod ≠ gMul by decide)]), if_neg (by simp [skB_one q (show gMod ≠ gDiv by decide)]), if_pos q] at hI
       rw [if_pos q]
       exact hI
     refine W.region ?_
     iterate 4 refine pE rfl ?_
     first | refine pE rfl ?_ | refine pR rfl rfl rfl rfl rfl ?_ | refine pB rfl rfl rfl rfl rfl rfl ?_
     refine pu (puI (ev tab rfl) (y := ((s1.1 + 1 : Nat) : Int)) (by rw [wrap64 (by omega)]; rfl)) rfl ?_
     iterate 2 refine pE rfl ?_
     refine storeR tab rfl rfl rfl rfl rfl rfl rfl rfl ?_
     refine WO.nil (qs ?_)
     apply W.regionC tab 4 3; (case hB => kernel_rfl); (case h1 => rfl); (case h2 => rfl)
     refine' ccPu ?p1_29 (ev tab rfl) rfl rfl rfl rfl rfl ?h_29
     case' h_29 => skip
     first | (refine' ccPu ?p1_30 (ev tab rfl) rfl rfl rfl rfl rfl ?h_30) | (refine' ccPu ?p1_30 (loadRow tab rfl rfl rfl rfl) rfl rfl rfl rfl rfl ?h_30) | (refine' ccPu ?p1_30 (loadBox tab rfl rfl rfl rfl rfl) rfl rfl rfl rfl rfl ?h_30)
     case' h_30 => skip
     refine' ccPu0 (ev tab rfl) rfl rfl rfl rfl rfl ?h_31
     case' h_31 => skip
     refine' ccX (fun g => ?e_32) rfl rfl rfl ?h_32
     case e_32 =>
      refine callB [0] [] rfl rfl rfl rfl rfl ((hone (adv s1) l2 (by show L.length - (s1.1 + 1) ≤ d; omega))) rfl rfl (by rfl) (by rfl) rfl rfl rfl rfl ?_
      refine WO.nil ?_
      exact ⟨rfl, rfl⟩
     case' h_32 => skip
     case p1_29 => exact (ev tab rfl)
     case p1_30 => first | (exact (ev tab rfl)) | (exact (loadRow tab rfl rfl rfl rfl)) | (exact (loadBox tab rfl rfl rfl rfl rfl))
     refine CC.nil ?_
     refine pu (puCall rfl rfl rfl ((rtwo_fn _ _ _)) rfl) rfl ?_
     refine storeR tab rfl rfl rfl rfl rfl rfl rfl rfl ?_
     refine WO.nil (qbN ?_)
     refine W.endR [0, 1, 2] ⟨(n', mk2 op e (one (adv s1)).1, (one (adv s1)).2), ?_⟩ ?_ rfl ?_ trivial ?_ ⟨rfl, rfl, trivial⟩ rfl
     · exact ⟨l3, by omega, by omega, hI2⟩
     · dsimp only; omega
     · repeat' first | exact trivial | refine ⟨rfl, ?_⟩ | refine ⟨step_nat (by assumption) (by assumption), ?_⟩
     · repeat' first | exact trivial | refine ⟨rfl, ?_⟩ | refine ⟨step_nat (by assumption) (by assumption), ?_⟩
  ·
   refine goG rfl rfl ?_
   refine pE rfl ?_
   refine goG rfl rfl ?_
   refine callB [0] [] rfl rfl rfl rfl rfl ((ris_sg L hw gMod rfl s1 hk hL)) rfl rfl (by rfl) (by rfl) rfl rfl rfl rfl ?_
   refine pE rfl ?_
   refine WO.nil (qs ?_)
   refine condK rfl (fun h16 => ?_) (fun h16 => ?_)
   ·
    refine W.skip (qs (W.block (W.seq ?_)))
    have hgo : skB L gMul s1 = true ∨ skB L gDiv s1 = true ∨ skB L gMod s1 = true := by first | exact .inl g9 | exact .inr (.inr h16) | exact .inr (.inl (by simpa using g13)) | exact .inr (.inl g13)
    have l2 : s1.1 + 1 < L.length := hgo.elim (fun q => skB_more hw q hk) fun q => q.elim (fun q => skB_more hw q hk) fun q => skB_more hw q hk
    have l3 := ho.lt (adv s1) l2
    have m3 : s1.1 + 1 ≤ (one (adv s1)).2.1 := ho.mono (adv s1)
    refine W.region ?_
    refine pE rfl ?_
    refine WO.nil (qs ?_)
    iterate 2 refine W.seq ?_
    refine W.region ?_
    refine pE rfl ?_
    refine callB [0] [] rfl rfl rfl rfl rfl ((ris_sg L hw gDiv rfl s1 hk hL)) rfl rfl (by rfl) (by rfl) rfl rfl rfl rfl ?_
    refine WO.nil (qs ?_)
    refine condK rfl (fun h18 => ?_) (fun h18 => ?_)
    ·
     let op1 : Int := 8
     have hop1 : op1 = if skB L gDiv s1 then 8 else 7 := by rw [if_pos h18]
     refine W.region ?_
     refine pE rfl ?_
     refine WO.nil (qs ?_)
     iterate 2 refine W.seq ?_
     refine W.region ?_
     refine pE rfl ?_
     refine callB [0] [] rfl rfl rfl rfl rfl ((ris_sg L hw gMod rfl s1 hk hL)) rfl rfl (by rfl) (by rfl) rfl rfl rfl rfl ?_
     refine WO.nil (qs ?_)
     refine condK rfl (fun h20 => ?_) (fun h20 => ?_)
     ·
      let op : Int := 9
      have hop : op = if skB L gMod s1 then 9 else if skB L gDiv s1 then 8 else 7 := by rw [if_pos h20]
      refine W.region ?_
      refine pE rfl ?_
      refine WO.nil (qs (W.seq ?_))
      have hI2 : leftGo L one opsMul n' (mk2 op e (one (adv s1)).1) (one (adv s1)).2 = leftP L one opsMul st := by
       rw [hop]
       rcases hgo with q | q | q
       ·
        rw [if_pos q] at hI
        rw [if_neg (by simp [skB_one q (show gMul ≠ gMod by decide)]), if_neg (by simp [skB_one q (show gMul ≠ gDiv by decide)])]
        exact hI
       ·
        rw [if_neg (by simp [skB_one q (show gDiv ≠ gMul by decide)]), if_pos q] at hI
        rw [if_neg (by simp [skB_one q (show gDiv ≠ gMod by decide)]), if_pos q]
        exact hI
       ·
        rw [if_neg (by simp [skB_one q (show gMod ≠ gMul by decide)]), if_neg (by simp [skB_one q (show gMod ≠ gDiv by decide)]), if_pos q] at hI
        rw [if_pos q]
        exact hI
      refine W.region ?_
      iterate 4 refine pE rfl ?_
      first | refine pE rfl ?_ | refine pR rfl rfl rfl rfl rfl ?_ | refine pB rfl rfl rfl rfl rfl rfl ?_
      refine pu (puI (ev tab rfl) (y := ((s1.1 + 1 : Nat) : Int)) (by rw [wrap64 (by omega)]; rfl)) rfl ?_
      iterate 2 refine pE rfl ?_
      refine storeR tab rfl rfl rfl rfl rfl rfl rfl rfl ?_
      refine WO.nil (qs ?_)
      apply W.regionC tab 4 3; (case hB => kernel_rfl); (case h1 => rfl); (case h2 => rfl)
      refine' ccPu ?p1_33 (ev tab rfl) rfl rfl rfl rfl rfl ?h_33
      case' h_33 => skip
      first | (refine' ccPu ?p1_34 (ev tab rfl) rfl rfl rfl rfl rfl ?h_34) | (refine' ccPu ?p1_34 (loadRow tab rfl rfl rfl rfl) rfl rfl rfl rfl rfl ?h_34) | (refine' ccPu ?p1_34 (loadBox tab rfl rfl rfl rfl rfl) rfl rfl rfl rfl rfl ?h_34)
      case' h_34 => skip
      refine' ccPu0 (ev tab rfl) rfl rfl rfl rfl rfl ?h_35
      case' h_35 => skip
      refine' ccX (fun g => ?e_36) rfl rfl rfl ?h_36
      case e_36 =>
       refine callB [0] [] rfl rfl rfl rfl rfl ((hone (adv s1) l2 (by show L.length - (s1.1 + 1) ≤ d; omega))) rfl rfl (by rfl) (by rfl) rfl rfl rfl rfl ?_
       refine WO.nil ?_
       exact ⟨rfl, rfl⟩
      case' h_36 => skip
      case p1_33 => exact (ev tab rfl)
      case p1_34 => first | (exact (ev tab rfl)) | (exact (loadRow tab rfl rfl rfl rfl)) | (exact (loadBox tab rfl rfl rfl rfl rfl))
      refine CC.nil ?_
      refine pu (puCall rfl rfl rfl ((rtwo_fn _ _ _)) rfl) rfl ?_
      refine storeR tab rfl rfl rfl rfl rfl rfl rfl rfl ?_
      refine WO.nil (qbN ?_)
      refine W.endR [0, 1, 2] ⟨(n', mk2 op e (one (adv s1)).1, (one (adv s1)).2), ?_⟩ ?_ rfl ?_ trivial ?_ ⟨rfl, rfl, trivial⟩ rfl
      · exact ⟨l3, by omega, by omega, hI2⟩
      · dsimp only; omega
      · repeat' first | exact trivial | refine ⟨rfl, ?_⟩ | refine ⟨step_nat (by assumption) (by assumption), ?_⟩
      · repeat' first | exact trivial | refine ⟨rfl, ?_⟩ | refine ⟨step_nat (by assumption) (by assumption), ?_⟩
     ·
      let op : Int := op1
      have hop : op = if skB L gMod s1 then 9 else if skB L gDiv s1 then 8 else 7 := by rw [if_neg (by simp [h20])]; exact hop1
      refine W.skip (qs (W.seq ?_))
      have hI2 : leftGo L one opsMul n' (mk2 op e (one (adv s1)).1) (one (adv s1)).2 = leftP L one opsMul st := by
       rw [hop]
       rcases hgo with q | q | q
       ·
        rw [if_pos q] at hI
        rw [if_neg (by simp [skB_one q (show gMul ≠ gMod by decide)]), if_neg (by simp [skB_one q (show gMul ≠ gDiv by decide)])]
        exact hI
       ·
        rw [if_neg (by simp [skB_one q (show gDiv ≠ gMul by decide)]), if_pos q] at hI
        rw [if_neg (by simp [skB_one q (show gDiv ≠ gMod by decide)]), if_pos q]
        exact hI
       ·
        rw [if_neg (by simp [skB_one q (show gMod ≠ gMul by decide)]), if_neg (by simp [skB_one q (show gMod ≠ gDiv by decide)]), if_pos q] at hI
        rw [if_pos q]
        exact hI
      refine W.region ?_
      iterate 4 refine pE rfl ?_
      first | refine pE rfl ?_ | refine pR rfl rfl rfl rfl rfl ?_ | refine pB rfl rfl rfl rfl rfl rfl ?_
      refine pu (puI (ev tab rfl) (y := ((s1.1 + 1 : Nat) : Int)) (by rw [wrap64 (by omega)]; rfl)) rfl ?_
      iterate 2 refine pE rfl ?_
      refine storeR tab rfl rfl rfl rfl rfl rfl rfl rfl ?_
      refine WO.nil (qs ?_)
      apply W.regionC tab 4 3; (case hB => kernel_rfl); (case h1 => rfl); (case h2 => rfl)
      refine' ccPu ?p1_37 (ev tab rfl) rfl rfl rfl rfl rfl ?h_37
      case' h_37 => skip
      first | (refine' ccPu ?p1_38 (ev tab rfl) rfl rfl rfl rfl rfl ?h_38) | (refine' ccPu ?p1_38 (loadRow tab rfl rfl rfl rfl) rfl rfl rfl rfl rfl ?h_38) | (refine' ccPu ?p1_38 (loadBox tab rfl rfl rfl rfl rfl) rfl rfl rfl rfl rfl ?h_38)
      case' h_38 => skip
      refine' ccPu0 (ev tab rfl) rfl rfl rfl rfl rfl ?h_39
      case' h_39 => skip
      refine' ccX (fun g => ?e_40) rfl rfl rfl ?h_40
      case e_40 =>
       refine callB [0] [] rfl rfl rfl rfl rfl ((hone (adv s1) l2 (by show L.length - (s1.1 + 1) ≤ d; omega))) rfl rfl (by rfl) (by rfl) rfl rfl rfl rfl ?_
       refine WO.nil ?_
       exact ⟨rfl, rfl⟩
      case' h_40 => skip
      case p1_37 => exact (ev tab rfl)
      case p1_38 => first | (exact (ev tab rfl)) | (exact (loadRow tab rfl rfl rfl rfl)) | (exact (loadBox tab rfl rfl rfl rfl rfl))
      refine CC.nil ?_
      refine pu (puCall rfl rfl rfl ((rtwo_fn _ _ _)) rfl) rfl ?_
      refine storeR tab rfl rfl rfl rfl rfl rfl rfl rfl ?_
      refine WO.nil (qbN ?_)
      refine W.endR [0, 1, 2] ⟨(n', mk2 op e (one (adv s1)).1, (one (adv s1)).2), ?_⟩ ?_ rfl ?_ trivial ?_ ⟨rfl, rfl, trivial⟩ rfl
      · exact ⟨l3, by omega, by omega, hI2⟩
      · dsimp only; omega
      · repeat' first | exact trivial | refine ⟨rfl, ?_⟩ | refine ⟨step_nat (by assumption) (by assumption), ?_⟩
      · repeat' first | exact trivial | refine ⟨rfl, ?_⟩ | refine ⟨step_nat (by assumption) (by assumption), ?_⟩
    ·
     let op1 : Int := 7
     have hop1 : op1 = if skB L gDiv s1 then 8 else 7 := by rw [if_neg (by simp [h18])]
     refine W.skip (qs ?_)
     iterate 2 refine W.seq ?_
     refine W.region ?_
     refine pE rfl ?_
     refine callB [0] [] rfl rfl rfl rfl rfl ((ris_sg L hw gMod rfl s1 hk hL)) rfl rfl (by rfl) (by rfl) rfl rfl rfl rfl ?_
     refine WO.nil (qs ?_)
     refine condK rfl (fun h20 => ?_) (fun h20 => ?_)
     ·
      let op : Int := 9
      have hop : op = if skB L gMod s1 then 9 else if skB L gDiv s1 then 8 else 7 := by rw [if_pos h20]
      refine W.region ?_
      refine pE rfl ?_
      refine WO.nil (qs (W.seq ?_))
      have hI2 : leftGo L one opsMul n' (mk2 op e (one (adv s1)).1) (one (adv s1)).2 = leftP L one opsMul st := by
       rw [hop]
       rcases hgo with q | q | q
       ·
        rw [if_pos q] at hI
        rw [if_neg (by simp [skB_one q (show gMul ≠ gMod by decide)]), if_neg (by simp [skB_one q (show gMul ≠ gDiv by decide)])]
        exact hI
       ·
        rw [if_neg (by simp [skB_one q (show gDiv ≠ gMul by decide)]), if_pos q] at hI
        rw [if_neg (by simp [skB_one q (show gDiv ≠ gMod by decide)]), if_pos q]
        exact hI
       ·
        rw [if_neg (by simp [skB_one q (show gMod ≠ gMul by decide)]), if_neg (by simp [skB_one q (show gMod ≠ gDiv by decide)]), if_pos q] at hI
        rw [if_pos q]
        exact hI
      refine W.region ?_
      iterate 4 refine pE rfl ?_
      first | refine pE rfl ?_ | refine pR rfl rfl rfl rfl rfl ?_ | refine pB rfl rfl rfl rfl rfl rfl ?_
      refine pu (puI (ev tab rfl) (y := ((s1.1 + 1 : Nat) : Int)) (by rw [wrap64 (by omega)]; rfl)) rfl ?_
      iterate 2 refine pE rfl ?_
      refine storeR tab rfl rfl rfl rfl rfl rfl rfl rfl ?_
      refine WO.nil (qs ?_)
      apply W.regionC tab 4 3; (case hB => kernel_rfl); (case h1 => rfl); (case h2 => rfl)
      refine' ccPu ?p1_41 (ev tab rfl) rfl rfl rfl rfl rfl ?h_41
      case' h_41 => skip
      first | (refine' ccPu ?p1_42 (ev tab rfl) rfl rfl rfl rfl rfl ?h_42) | (refine' ccPu ?p1_42 (loadRow tab rfl rfl rfl rfl) rfl rfl rfl rfl rfl ?h_42) | (refine' ccPu ?p1_42 (loadBox tab rfl rfl rfl rfl rfl) rfl rfl rfl rfl rfl ?h_42)
      case' h_42 => skip
      refine' ccPu0 (ev tab rfl) rfl rfl rfl rfl rfl ?h_43
      case' h_43 => skip
      refine' ccX (fun g => ?e_44) rfl rfl rfl ?h_44
      case e_44 =>
       refine callB [0] [] rfl rfl rfl rfl rfl ((hone (adv s1) l2 (by show L.length - (s1.1 + 1) ≤ d; omega))) rfl rfl (by rfl) (by rfl) rfl rfl rfl rfl ?_
       refine WO.nil ?_
       exact ⟨rfl, rfl⟩
      case' h_44 => skip
      case p1_41 => exact (ev tab rfl)
      case p1_42 => first | (exact (ev tab rfl)) | (exact (loadRow tab rfl rfl rfl rfl)) | (exact (loadBox tab rfl rfl rfl rfl rfl))
      refine CC.nil ?_
      refine pu (puCall rfl rfl rfl ((rtwo_fn _ _ _)) rfl) rfl ?_
      refine storeR tab rfl rfl rfl rfl rfl rfl rfl rfl ?_
      refine WO.nil (qbN ?_)
      refine W.endR [0, 1, 2] ⟨(n', mk2 op e (one (adv s1)).1, (one (adv s1)).2), ?_⟩ ?_ rfl ?_ trivial ?_ ⟨rfl, rfl, trivial⟩ rfl
      · exact ⟨l3, by omega, by omega, hI2⟩
      · dsimp only; omega
      · repeat' first | exact trivial | refine ⟨rfl, ?_⟩ | refine ⟨step_nat (by assumption) (by assumption), ?_⟩
      · repeat' first | exact trivial | refine ⟨rfl, ?_⟩ | refine ⟨step_nat (by assumption) (by assumption), ?_⟩
     ·
      let op : Int := op1
      have hop : op = if skB L gMod s1 then 9 else if skB L gDiv s1 then 8 else 7 := by rw [if_neg (by simp [h20])]; exact hop1
      refine W.skip (qs (W.seq ?_))
      have hI2 : leftGo L one opsMul n' (mk2 op e (one (adv s1)).1) (one (adv s1)).2 = leftP L one opsMul st := by
       rw [hop]
       rcases hgo with q | q | q
       ·
        rw [if_pos q] at hI
        rw [if_neg (by simp [skB_one q (show gMul ≠ gMod by decide)]), if_neg (by simp [skB_one q (show gMul ≠ gDiv by decide)])]
        exact hI
       ·
        rw [if_neg (by simp [skB_one q (show gDiv ≠ gMul by decide)]), if_pos q] at hI
        rw [if_neg (by simp [skB_one q (show gDiv ≠ gMod by decide)]), if_pos q]
        exact hI
       ·
        rw [if_neg (by simp [skB_one q (show gMod ≠ gMul by decide)]), if_neg (by simp [skB_one q (show gMod ≠ gDiv by decide)]), if_pos q] at hI
        rw [if_pos q]
        exact hI
      refine W.region ?_
      iterate 4 refine pE rfl ?_
      first | refine pE rfl ?_ | refine pR rfl rfl rfl rfl rfl ?_ | refine pB rfl rfl rfl rfl rfl rfl ?_
      refine pu (puI (ev tab rfl) (y := ((s1.1 + 1 : Nat) : Int)) (by rw [wrap64 (by omega)]; rfl)) rfl ?_
      iterate 2 refine pE rfl ?_
      refine storeR tab rfl rfl rfl rfl rfl rfl rfl rfl ?_
      refine WO.nil (qs ?_)
      apply W.regionC tab 4 3; (case hB => kernel_rfl); (case h1 => rfl); (case h2 => rfl)
      refine' ccPu ?p1_45 (ev tab rfl) rfl rfl rfl rfl rfl ?h_45
      case' h_45 => skip
      first | (refine' ccPu ?p1_46 (ev tab rfl) rfl rfl rfl rfl rfl ?h_46) | (refine' ccPu ?p1_46 (loadRow tab rfl rfl rfl rfl) rfl rfl rfl rfl rfl ?h_46) | (refine' ccPu ?p1_46 (loadBox tab rfl rfl rfl rfl rfl) rfl rfl rfl rfl rfl ?h_46)
      case' h_46 => skip
      refine' ccPu0 (ev tab rfl) rfl rfl rfl rfl rfl ?h_47
      case' h_47 => skip
      refine' ccX (fun g => ?e_48) rfl rfl rfl ?h_48
      case e_48 =>
       refine callB [0] [] rfl rfl rfl rfl rfl ((hone (adv s1) l2 (by show L.length - (s1.1 + 1) ≤ d; omega))) rfl rfl (by rfl) (by rfl) rfl rfl rfl rfl ?_
       refine WO.nil ?_
       exact ⟨rfl, rfl⟩
      case' h_48 => skip
      case p1_45 => exact (ev tab rfl)
      case p1_46 => first | (exact (ev tab rfl)) | (exact (loadRow tab rfl rfl rfl rfl)) | (exact (loadBox tab rfl rfl rfl rfl rfl))
      refine CC.nil ?_
      refine pu (puCall rfl rfl rfl ((rtwo_fn _ _ _)) rfl) rfl ?_
      refine storeR tab rfl rfl rfl rfl rfl rfl rfl rfl ?_
      refine WO.nil (qbN ?_)
      refine W.endR [0, 1, 2] ⟨(n', mk2 op e (one (adv s1)).1, (one (adv s1)).2), ?_⟩ ?_ rfl ?_ trivial ?_ ⟨rfl, rfl, trivial⟩ rfl
      · exact ⟨l3, by omega, by omega, hI2⟩
      · dsimp only; omega
      · repeat' first | exact trivial | refine ⟨rfl, ?_⟩ | refine ⟨step_nat (by assumption) (by assumption), ?_⟩
      · repeat' first | exact trivial | refine ⟨rfl, ?_⟩ | refine ⟨step_nat (by assumption) (by assumption), ?_⟩
   ·
    rw [if_neg (by simp [g9]), if_neg (by simpa using g13), if_neg (by simp [h16])] at hI
    refine W.exit (qsExit (qlExit (qbExit (qs (W.seq (W.region ?_))))))
    first | refine pE rfl ?_ | refine pR rfl rfl rfl rfl rfl ?_ | refine pB rfl rfl rfl rfl rfl rfl ?_
    refine storeR tab rfl rfl rfl rfl rfl rfl rfl rfl ?_
    refine WO.nil (qs (W.ret ?_))
    refine QB1.end tab [] trivial rfl rfl rfl rfl ?_ ?_
    ·
     rw [← hI]
     exact ⟨rfl, trivial⟩
    rw [← hI]
    rfl
end Go.Proofs.YtifeonoehfffmaaGreatDoor
namespace Go.Proofs.YtifeonoehfffmaaGreatDoor
open Go.Ab Go.Tb
set_option maxRecDepth 10000
attribute [local irreducible] W WO Pu QS QB QL QF QV QV1 CH QE
theorem cmp_op {L : List Tk} {sum : Pr Ex} {st : PS} {op : Int} (h : findOp L opsCmp (sum st).2 = some op) : compP L sum st = (mk2 op (sum st).1 (sum (adv (sum st).2)).1, (sum (adv (sum st).2)).2) := by unfold compP; rw [h]
theorem cmp_rev {L : List Tk} {sum : Pr Ex} {st : PS} {op : Int} (h0 : findOp L opsCmp (sum st).2 = none) (h : findOp L opsRev (sum st).2 = some op) : compP L sum st = (mk2 op (sum (adv (sum st).2)).1 (sum st).1, (sum (adv (sum st).2)).2) := by unfold compP; rw [h0, h]
theorem cmp_none {L : List Tk} {sum : Pr Ex} {st : PS} (h0 : findOp L opsCmp (sum st).2 = none) (h : findOp L opsRev (sum st).2 = none) : compP L sum st = sum st := by unfold compP; rw [h0, h]
set_option maxHeartbeats 4000000 in
theorem rnot_fn (L : List Tk) (hw : Wf L) (hL : L.length ≤ 3000000) (sum : Pr Ex) (ho : Goes L sum) (d : Nat) (hsum : RdR L 136 sum d) : ∀ n st, st.1 < L.length → L.length - st.1 ≤ d → L.length - st.1 ≤ n → DoesB Tryz.prog 115 [.ptr 0 0] [bxR L st] 0 (.ag (notP L (compP L sum) n st).1.c) [bxR L (notP L (compP L sum) n st).2] 0
 | 0, st, h, _, hn => by omega
 | n + 1, st, h, hd0, hn => by
  cases q : skB L kwNot st with
  | true =>
   have l1 := skB_more hw q h
   have ih := rnot_fn L hw hL sum ho d hsum n (adv st) l1 (by show L.length - (st.1 + 1) ≤ d; omega) (by show L.length - (st.1 + 1) ≤ n; omega)
   rw [show notP L (compP L sum) (n + 1) st = (mk1 3 (notP L (compP L sum) n (adv st)).1, (notP L (compP L sum) n (adv st)).2) by simp only [notP]; rw [q]; rfl]
   have hs := rwd_fn L hw kwNot rfl st h hL
   rw [skS_yes q, q] at hs
   refine DoesB.of_V tab (n := 55) (rs := [.cell 2 37]) Tryz.func115 (by kernel_rfl) rfl Tryz.ntmps115 Tryz.results115 rfl rfl fun C hC hG => ?_
   refine W.seq (W.region ?_)
   refine allocR tab rfl rfl rfl ?_
   refine WO.nil (qs ?_)
   iterate 2 refine W.seq ?_
   refine W.region ?_
   refine pE rfl ?_
   refine callB [0] [] rfl rfl rfl rfl rfl (hs ..) rfl rfl (by rfl) (by rfl) rfl rfl rfl rfl ?_
   refine WO.nil (qs ?_)
   refine condK rfl (fun h5 => ?_) (fun h5 => ?_)
   ·
    refine W.seq (W.region ?_)
    refine pE rfl ?_
    refine callB [0] [] rfl rfl rfl rfl rfl (ih ..) rfl rfl (by rfl) (by rfl) rfl rfl rfl rfl ?_
    refine pu (buildV tab rfl rfl rfl rfl rfl rfl rfl rfl rfl) rfl ?_
    refine pu (build tab rfl rfl rfl rfl) rfl ?_
    refine storeR tab rfl rfl rfl rfl rfl rfl rfl rfl ?_
    refine WO.nil (qs (W.ret (qsRet ?_)))
    refine QB1.end tab [] trivial rfl rfl rfl rfl ?_ ?_
    · exact ⟨rfl, trivial⟩
    rfl
   ·
    exfalso
    simp at h5
  | false =>
   rw [show notP L (compP L sum) (n + 1) st = compP L sum st by simp only [notP]; rw [q]; rfl]
   have hs := rwd_fn L hw kwNot rfl st h hL
   rw [skS_no q, q] at hs
   have l1 := ho.lt st h
   have m1 := ho.mono st
   have nx : ∀ {x}, skB L x (sum st).2 = true → (adv (sum st).2).1 < L.length ∧ L.length - (adv (sum st).2).1 ≤ d := fun hx => ⟨skB_more hw hx l1, by show L.length - ((sum st).2.1 + 1) ≤ d; omega⟩
   refine DoesB.of_V tab (n := 55) (rs := [.cell 2 37]) Tryz.func115 (by kernel_rfl) rfl Tryz.ntmps115 Tryz.results115 rfl rfl fun C hC hG => ?_
   refine W.seq (W.region ?_)
   refine allocR tab rfl rfl rfl ?_
   refine WO.nil (qs ?_)
   iterate 2 refine W.seq ?_
   refine W.region ?_
   refine pE rfl ?_
   refine callB [0] [] rfl rfl rfl rfl rfl (hs ..) rfl rfl (by rfl) (by rfl) rfl rfl rfl rfl ?_
   refine WO.nil (qs ?_)
   refine condK rfl (fun h5 => ?_) (fun h5 => ?_)
   ·
    exfalso
    simp at h5
   ·
    refine W.skip (qs (W.seq (W.region ?_)))
    refine pE rfl ?_
    refine callB [0] [] rfl rfl rfl rfl rfl ((hsum st h hd0)) rfl rfl (by rfl) (by rfl) rfl rfl rfl rfl ?_
    refine allocR tab rfl rfl rfl ?_
    refine storeR tab rfl rfl rfl rfl rfl rfl rfl rfl ?_
    refine WO.nil (qs (W.seq (W.block (W.seq (W.region ?_)))))
    refine pE rfl ?_
    refine callB [0] [] rfl rfl rfl rfl rfl ((rsg_fn L hw gEq rfl _ l1 hL)) rfl rfl (by rfl) (by rfl) rfl rfl rfl rfl ?_
    refine pE rfl ?_
    refine WO.nil (qs ?_)
    refine condK rfl (fun h12 => ?_) (fun h12 => ?_)
    ·
     rw [skS_yes h12]
     rw [cmp_op (op := 10) (by simp only [find_cons]; rw [if_pos h12])]
     refine W.seq ?_
     apply W.regionC tab 3 2; (case hB => kernel_rfl); (case h1 => rfl); (case h2 => rfl)
     first | (refine' ccPu ?p1_1 (ev tab rfl) rfl rfl rfl rfl rfl ?h_1) | (refine' ccPu ?p1_1 (loadRow tab rfl rfl rfl rfl) rfl rfl rfl rfl rfl ?h_1) | (refine' ccPu ?p1_1 (loadBox tab rfl rfl rfl rfl rfl) rfl rfl rfl rfl rfl ?h_1)
     case' h_1 => skip
     refine' ccPu0 (ev tab rfl) rfl rfl rfl rfl rfl ?h_2
     case' h_2 => skip
     refine' ccX (fun g => ?e_3) rfl rfl rfl ?h_3
     case e_3 =>
      refine callB [0] [] rfl rfl rfl rfl rfl ((hsum _ (nx h12).1 (nx h12).2)) rfl rfl (by rfl) (by rfl) rfl rfl rfl rfl ?_
      refine WO.nil ?_
      exact ⟨rfl, rfl⟩
     case' h_3 => skip
     case p1_1 => first | (exact (ev tab rfl)) | (exact (loadRow tab rfl rfl rfl rfl)) | (exact (loadBox tab rfl rfl rfl rfl rfl))
     refine CC.nil ?_
     refine pu (puCall rfl rfl rfl ((rtwo_fn _ _ _)) rfl) rfl ?_
     refine storeR tab rfl rfl rfl rfl rfl rfl rfl rfl ?_
     refine WO.nil (qs (W.ret (qbRet (qsRet ?_))))
     refine QB1.end tab [] trivial rfl rfl rfl rfl ?_ ?_
     · exact ⟨rfl, trivial⟩
     rfl
    ·
     rw [skS_no h12]
     refine W.seq (W.region ?_)
     refine pE rfl ?_
     refine callB [0] [] rfl rfl rfl rfl rfl ((rsg_fn L hw gNe rfl _ l1 hL)) rfl rfl (by rfl) (by rfl) rfl rfl rfl rfl ?_
     refine pE rfl ?_
     refine WO.nil (qs ?_)
     refine condK rfl (fun h19 => ?_) (fun h19 => ?_)
     ·
      rw [skS_yes h19]
      rw [cmp_op (op := 11) (by simp only [find_cons]; rw [if_neg (by simp [h12]), if_pos h19])]
      refine W.seq ?_
      apply W.regionC tab 3 2; (case hB => kernel_rfl); (case h1 => rfl); (case h2 => rfl)
      first | (refine' ccPu ?p1_4 (ev tab rfl) rfl rfl rfl rfl rfl ?h_4) | (refine' ccPu ?p1_4 (loadRow tab rfl rfl rfl rfl) rfl rfl rfl rfl rfl ?h_4) | (refine' ccPu ?p1_4 (loadBox tab rfl rfl rfl rfl rfl) rfl rfl rfl rfl rfl ?h_4)
      case' h_4 => skip
      refine' ccPu0 (ev tab rfl) rfl rfl rfl rfl rfl ?h_5
      case' h_5 => skip
      refine' ccX (fun g => ?e_6) rfl rfl rfl ?h_6
      case e_6 =>
       refine callB [0] [] rfl rfl rfl rfl rfl ((hsum _ (nx h19).1 (nx h19).2)) rfl rfl (by rfl) (by rfl) rfl rfl rfl rfl ?_
       refine WO.nil ?_
       exact ⟨rfl, rfl⟩
      case' h_6 => skip
      case p1_4 => first | (exact (ev tab rfl)) | (exact (loadRow tab rfl rfl rfl rfl)) | (exact (loadBox tab rfl rfl rfl rfl rfl))
      refine CC.nil ?_
      refine pu (puCall rfl rfl rfl ((rtwo_fn _ _ _)) rfl) rfl ?_
      refine storeR tab rfl rfl rfl rfl rfl rfl rfl rfl ?_
      refine WO.nil (qs (W.ret (qbRet (qsRet ?_))))
      refine QB1.end tab [] trivial rfl rfl rfl rfl ?_ ?_
      · exact ⟨rfl, trivial⟩
      rfl
     ·
      rw [skS_no h19]
      refine W.seq (W.region ?_)
      refine pE rfl ?_
      refine callB [0] [] rfl rfl rfl rfl rfl ((rsg_fn L hw gLt rfl _ l1 hL)) rfl rfl (by rfl) (by rfl) rfl rfl rfl rfl ?_
      refine pE rfl ?_
      refine WO.nil (qs ?_)
      refine condK rfl (fun h26 => ?_) (fun h26 => ?_)
      ·
       rw [skS_yes h26]
       rw [cmp_op (op := 12) (by simp only [find_cons]; rw [if_neg (by simp [h12]), if_neg (by simp [h19]), if_pos h26])]
       refine W.seq ?_
       apply W.regionC tab 3 2; (case hB => kernel_rfl); (case h1 => rfl); (case h2 => rfl)
       first | (refine' ccPu ?p1_7 (ev tab rfl) rfl rfl rfl rfl rfl ?h_7) | (refine' ccPu ?p1_7 (loadRow tab rfl rfl rfl rfl) rfl rfl rfl rfl rfl ?h_7) | (refine' ccPu ?p1_7 (loadBox tab rfl rfl rfl rfl rfl) rfl rfl rfl rfl rfl ?h_7)
       case' h_7 => skip
       refine' ccPu0 (ev tab rfl) rfl rfl rfl rfl rfl ?h_8
       case' h_8 => skip
       refine' ccX (fun g => ?e_9) rfl rfl rfl ?h_9
       case e_9 =>
        refine callB [0] [] rfl rfl rfl rfl rfl ((hsum _ (nx h26).1 (nx h26).2)) rfl rfl (by rfl) (by rfl) rfl rfl rfl rfl ?_
        refine WO.nil ?_
        exact ⟨rfl, rfl⟩
       case' h_9 => skip
       case p1_7 => first | (exact (ev tab rfl)) | (exact (loadRow tab rfl rfl rfl rfl)) | (exact (loadBox tab rfl rfl rfl rfl rfl))
       refine CC.nil ?_
       refine pu (puCall rfl rfl rfl ((rtwo_fn _ _ _)) rfl) rfl ?_
       refine storeR tab rfl rfl rfl rfl rfl rfl rfl rfl ?_
       refine WO.nil (qs (W.ret (qbRet (qsRet ?_))))
       refine QB1.end tab [] trivial rfl rfl rfl rfl ?_ ?_
       · exact ⟨rfl, trivial⟩
       rfl
      ·
       rw [skS_no h26]
       refine W.seq (W.region ?_)
       refine pE rfl ?_
       refine callB [0] [] rfl rfl rfl rfl rfl ((rsg_fn L hw gLe rfl _ l1 hL)) rfl rfl (by rfl) (by rfl) rfl rfl rfl rfl ?_
       refine pE rfl ?_
       refine WO.nil (qs ?_)
       refine condK rfl (fun h33 => ?_) (fun h33 => ?_)
       ·
        rw [skS_yes h33]
        rw [cmp_op (op := 13) (by simp only [find_cons]; rw [if_neg (by simp [h12]), if_neg (by simp [h19]), if_neg (by simp [h26]), if_pos h33])]
        refine W.seq ?_
        apply W.regionC tab 3 2; (case hB => kernel_rfl); (case h1 => rfl); (case h2 => rfl)
        first | (refine' ccPu ?p1_10 (ev tab rfl) rfl rfl rfl rfl rfl ?h_10) | (refine' ccPu ?p1_10 (loadRow tab rfl rfl rfl rfl) rfl rfl rfl rfl rfl ?h_10) | (refine' ccPu ?p1_10 (loadBox tab rfl rfl rfl rfl rfl) rfl rfl rfl rfl rfl ?h_10)
        case' h_10 => skip
        refine' ccPu0 (ev tab rfl) rfl rfl rfl rfl rfl ?h_11
        case' h_11 => skip
        refine' ccX (fun g => ?e_12) rfl rfl rfl ?h_12
        case e_12 =>
         refine callB [0] [] rfl rfl rfl rfl rfl ((hsum _ (nx h33).1 (nx h33).2)) rfl rfl (by rfl) (by rfl) rfl rfl rfl rfl ?_
         refine WO.nil ?_
         exact ⟨rfl, rfl⟩
        case' h_12 => skip
        case p1_10 => first | (exact (ev tab rfl)) | (exact (loadRow tab rfl rfl rfl rfl)) | (exact (loadBox tab rfl rfl rfl rfl rfl))
        refine CC.nil ?_
        refine pu (puCall rfl rfl rfl ((rtwo_fn _ _ _)) rfl) rfl ?_
        refine storeR tab rfl rfl rfl rfl rfl rfl rfl rfl ?_
        refine WO.nil (qs (W.ret (qbRet (qsRet ?_))))
        refine QB1.end tab [] trivial rfl rfl rfl rfl ?_ ?_
        · exact ⟨rfl, trivial⟩
        rfl
       ·
        rw [skS_no h33]
        have hc0 : findOp L opsCmp (sum st).2 = none := by simp only [find_cons, find_nil]; rw [if_neg (by simp [h12]), if_neg (by simp [h19]), if_neg (by simp [h26]), if_neg (by simp [h33])]
        refine W.seq (W.region ?_)
        refine pE rfl ?_
        refine callB [0] [] rfl rfl rfl rfl rfl ((rsg_fn L hw gGt rfl _ l1 hL)) rfl rfl (by rfl) (by rfl) rfl rfl rfl rfl ?_
        refine pE rfl ?_
        refine WO.nil (qs ?_)
        refine condK rfl (fun h40 => ?_) (fun h40 => ?_)
        ·
         rw [skS_yes h40]
         rw [cmp_rev (op := 12) hc0 (by simp only [find_cons]; rw [if_pos h40])]
         refine W.seq ?_
         apply W.regionC tab 3 1; (case hB => kernel_rfl); (case h1 => rfl); (case h2 => rfl)
         refine' ccPu0 (ev tab rfl) rfl rfl rfl rfl rfl ?h_13
         case' h_13 => skip
         refine' ccX (fun g => ?e_14) rfl rfl rfl ?h_14
         case e_14 =>
          refine callB [0] [] rfl rfl rfl rfl rfl ((hsum _ (nx h40).1 (nx h40).2)) rfl rfl (by rfl) (by rfl) rfl rfl rfl rfl ?_
          refine WO.nil ?_
          exact ⟨rfl, rfl⟩
         case' h_14 => skip
         first | (refine ccPu (ev tab rfl) (ev tab rfl) rfl rfl rfl rfl rfl ?_) | (refine ccPu (loadRow tab rfl rfl rfl rfl) (loadRow tab rfl rfl rfl rfl) rfl rfl rfl rfl rfl ?_) | (refine ccPu (loadBox tab rfl rfl rfl rfl rfl) (loadBox tab rfl rfl rfl rfl rfl) rfl rfl rfl rfl rfl ?_)
         refine CC.nil ?_
         refine pu (puCall rfl rfl rfl ((rtwo_fn _ _ _)) rfl) rfl ?_
         refine storeR tab rfl rfl rfl rfl rfl rfl rfl rfl ?_
         refine WO.nil (qs (W.ret (qbRet (qsRet ?_))))
         refine QB1.end tab [] trivial rfl rfl rfl rfl ?_ ?_
         · exact ⟨rfl, trivial⟩
         rfl
        ·
         rw [skS_no h40]
         refine W.seq (W.region ?_)
         refine pE rfl ?_
         refine callB [0] [] rfl rfl rfl rfl rfl ((rsg_fn L hw gGe rfl _ l1 hL)) rfl rfl (by rfl) (by rfl) rfl rfl rfl rfl ?_
         refine pE rfl ?_
         refine WO.nil (qs ?_)
         refine condK rfl (fun h47 => ?_) (fun h47 => ?_)
         ·
          rw [skS_yes h47]
          rw [cmp_rev (op := 13) hc0 (by simp only [find_cons]; rw [if_neg (by simp [h40]), if_pos h47])]
          refine W.seq ?_
          apply W.regionC tab 3 1; (case hB => kernel_rfl); (case h1 => rfl); (case h2 => rfl)
          refine' ccPu0 (ev tab rfl) rfl rfl rfl rfl rfl ?h_16
          case' h_16 => skip
          refine' ccX (fun g => ?e_17) rfl rfl rfl ?h_17
          case e_17 =>
           refine callB [0] [] rfl rfl rfl rfl rfl ((hsum _ (nx h47).1 (nx h47).2)) rfl rfl (by rfl) (by rfl) rfl rfl rfl rfl ?_
           refine WO.nil ?_
           exact ⟨rfl, rfl⟩
          case' h_17 => skip
          first | (refine ccPu (ev tab rfl) (ev tab rfl) rfl rfl rfl rfl rfl ?_) | (refine ccPu (loadRow tab rfl rfl rfl rfl) (loadRow tab rfl rfl rfl rfl) rfl rfl rfl rfl rfl ?_) | (refine ccPu (loadBox tab rfl rfl rfl rfl rfl) (loadBox tab rfl rfl rfl rfl rfl) rfl rfl rfl rfl rfl ?_)
          refine CC.nil ?_
          refine pu (puCall rfl rfl rfl ((rtwo_fn _ _ _)) rfl) rfl ?_
          refine storeR tab rfl rfl rfl rfl rfl rfl rfl rfl ?_
          refine WO.nil (qs (W.ret (qbRet (qsRet ?_))))
          refine QB1.end tab [] trivial rfl rfl rfl rfl ?_ ?_
          · exact ⟨rfl, trivial⟩
          rfl
         ·
          rw [skS_no h47]
          rw [cmp_none hc0 (by simp only [find_cons, find_nil]; rw [if_neg (by simp [h40]), if_neg (by simp [h47])])]
          refine W.skip (qbN (qs (W.seq (W.region ?_))))
          first | refine pE rfl ?_ | refine pR rfl rfl rfl rfl rfl ?_ | refine pB rfl rfl rfl rfl rfl rfl ?_
          refine storeR tab rfl rfl rfl rfl rfl rfl rfl rfl ?_
          refine WO.nil (qs (W.ret ?_))
          refine QB1.end tab [] trivial rfl rfl rfl rfl ?_ ?_
          · exact ⟨rfl, trivial⟩
          rfl
theorem runary_fn (L : List Tk) (hw : Wf L) (hL : L.length ≤ 3000000) (prim : Pr Ex) (d : Nat) (hprim : RdR L 160 prim d) : ∀ n st, st.1 < L.length → L.length - st.1 ≤ d → L.length - st.1 ≤ n → DoesB Tryz.prog 152 [.ptr 0 0] [bxR L st] 0 (.ag (unaryP L prim n st).1.c) [bxR L (unaryP L prim n st).2] 0
 | 0, st, h, _, hn => by omega
 | n + 1, st, h, hd0, hn => by
  cases q : skB L gSub st with
  | false =>
   rw [show unaryP L prim (n + 1) st = prim st by simp only [unaryP]; rw [q]; rfl]
   have hs := rsg_fn L hw gSub rfl st h hL
   rw [skS_no q, q] at hs
   refine DoesB.of_V tab (n := 11) (rs := [.cell 2 37]) Tryz.func152 (by kernel_rfl) rfl Tryz.ntmps152 Tryz.results152 rfl rfl fun C hC hG => ?_
   refine W.seq (W.region ?_)
   refine allocR tab rfl rfl rfl ?_
   refine WO.nil (qs ?_)
   iterate 2 refine W.seq ?_
   refine W.region ?_
   refine pE rfl ?_
   refine callB [0] [] rfl rfl rfl rfl rfl (hs ..) rfl rfl (by rfl) (by rfl) rfl rfl rfl rfl ?_
   refine WO.nil (qs ?_)
   refine condK rfl (fun h4 => ?_) (fun h4 => ?_)
   ·
    exfalso
    simp at h4
   ·
    refine W.skip (qs (W.seq (W.region ?_)))
    refine pE rfl ?_
    refine callB [0] [] rfl rfl rfl rfl rfl ((hprim st h hd0)) rfl rfl (by rfl) (by rfl) rfl rfl rfl rfl ?_
    refine storeR tab rfl rfl rfl rfl rfl rfl rfl rfl ?_
    refine WO.nil (qs (W.ret ?_))
    refine QB1.end tab [] trivial rfl rfl rfl rfl ?_ ?_
    · exact ⟨rfl, trivial⟩
    rfl
  | true =>
   have l1 := skB_more hw q h
   have ih := runary_fn L hw hL prim d hprim n (adv st) l1 (by show L.length - (st.1 + 1) ≤ d; omega) (by show L.length - (st.1 + 1) ≤ n; omega)
   rw [show unaryP L prim (n + 1) st = (mk1 4 (unaryP L prim n (adv st)).1, (unaryP L prim n (adv st)).2) by simp only [unaryP]; rw [q]; rfl]
   have hs := rsg_fn L hw gSub rfl st h hL
   rw [skS_yes q, q] at hs
   refine DoesB.of_V tab (n := 11) (rs := [.cell 2 37]) Tryz.func152 (by kernel_rfl) rfl Tryz.ntmps152 Tryz.results152 rfl rfl fun C hC hG => ?_
   refine W.seq (W.region ?_)
   refine allocR tab rfl rfl rfl ?_
   refine WO.nil (qs ?_)
   iterate 2 refine W.seq ?_
   refine W.region ?_
   refine pE rfl ?_
   refine callB [0] [] rfl rfl rfl rfl rfl (hs ..) rfl rfl (by rfl) (by rfl) rfl rfl rfl rfl ?_
   refine WO.nil (qs ?_)
   refine condK rfl (fun h4 => ?_) (fun h4 => ?_)
   ·
    refine W.seq (W.region ?_)
    refine pE rfl ?_
    refine callB [0] [] rfl rfl rfl rfl rfl (ih ..) rfl rfl (by rfl) (by rfl) rfl rfl rfl rfl ?_
    refine pu (buildV tab rfl rfl rfl rfl rfl rfl rfl rfl rfl) rfl ?_
    refine pu (build tab rfl rfl rfl rfl) rfl ?_
    refine storeR tab rfl rfl rfl rfl rfl rfl rfl rfl ?_
    refine WO.nil (qs (W.ret (qsRet ?_)))
    refine QB1.end tab [] trivial rfl rfl rfl rfl ?_ ?_
    · exact ⟨rfl, trivial⟩
    rfl
   ·
    exfalso
    simp at h4
end Go.Proofs.YtifeonoehfffmaaGreatDoor
namespace Go.Proofs.YtifeonoehfffmaaGreatDoor
open Go.Ab Go.Tb
set_option maxRecDepth 10000
attribute [local irreducible] W WO Pu QS QB QL QF QV QV1 CH QE
def negR (L : List Tk) (k : Nat) : Bool := decide (k + 2 < L.length) && (isT (tk0 L (k, false)) gSub && (decide ((tk0 L (k + 1, false)).kind = 3) && isT (tk0 L (k + 2, false)) gShut))
theorem tk_ok' {L : List Tk} (hw : Wf L) {k : Nat} (h : k < L.length) : (tk0 L (k, false)).ok = true := tk_ok hw (st := (k, false)) h
theorem rneg_fn (L : List Tk) (hw : Wf L) (hL : L.length ≤ 3000000) (st : PS) (h : st.1 < L.length) : DoesB Tryz.prog 168 [.ptr 0 0] [bxR L st] 0 (.d (.v (.bool (negR L st.1)))) [bxR L st] 0 := by
 obtain ⟨k, b⟩ := st
 have hk3 : k < L.length := h
 have len : (L.map Tk.r).length = L.length := by simp
 refine DoesB.of_V tab (n := 87) (rs := [.tmp 2]) Tryz.func168 (by kernel_rfl) rfl Tryz.ntmps168 Tryz.results168 rfl rfl fun C hC hG => ?_
 refine W.seq (W.region ?_)
 refine pE rfl ?_
 refine WO.nil (qs (W.seq ?_))
 apply regionDB tab; (case hb => rfl); (case hB => kernel_rfl)
 ·
  iterate 3 refine chPu (ev tab rfl) rfl ?_
  first | refine chPu (ev tab rfl) rfl ?_ | refine chPu (loadRow tab rfl rfl rfl rfl) rfl ?_ | refine chPu (loadBox tab rfl rfl rfl rfl rfl) rfl ?_
  refine chPu (puI (ev tab rfl) (y := ((k + 2 : Nat) : Int)) (by rw [wrap64 (by omega)]; rfl)) rfl ?_
  iterate 3 refine chPu (ev tab rfl) rfl ?_
  first | refine chPu (ev tab rfl) rfl ?_ | refine chPu (loadRow tab rfl rfl rfl rfl) rfl ?_ | refine chPu (loadBox tab rfl rfl rfl rfl rfl) rfl ?_
  iterate 3 refine chPu (ev tab rfl) rfl ?_
  apply chSplitH; (case hj => rfl); (case hl => rfl)
  ·
   intro g14
   refine chGo rfl rfl (ev tab rfl) rfl ?_
   refine chGo rfl rfl (ev tab rfl) rfl ?_
   refine chGo rfl rfl (ev tab rfl) rfl ?_
   first | refine chGo rfl rfl (ev tab rfl) rfl ?_ | refine chGo rfl rfl (loadRow tab rfl rfl rfl rfl) rfl ?_ | refine chGo rfl rfl (loadBox tab rfl rfl rfl rfl rfl) rfl ?_
   refine chGo rfl rfl (ev tab rfl) rfl ?_
   refine chGo rfl rfl (ev tab rfl) rfl ?_
   refine chGo rfl rfl (ev tab rfl) rfl ?_
   first | refine chGo rfl rfl (ev tab rfl) rfl ?_ | refine chGo rfl rfl (loadRow tab rfl rfl rfl rfl) rfl ?_ | refine chGo rfl rfl (loadBox tab rfl rfl rfl rfl rfl) rfl ?_
   refine chGo rfl rfl (indexAddr (l := (tk0 L (k, false)).r) tab rfl rfl rfl rfl rfl rfl (Int.natCast_nonneg _) (idx_map (f := Tk.r) (tk_get (by simp [len] at g14; omega))) rfl) rfl ?_
   refine chGo rfl rfl (ev tab rfl) rfl ?_
   first | refine chGo rfl rfl (ev tab rfl) rfl ?_ | refine chGo rfl rfl (loadRow tab rfl rfl rfl rfl) rfl ?_ | refine chGo rfl rfl (loadBox tab rfl rfl rfl rfl rfl) rfl ?_
   refine chGo rfl rfl (ev tab rfl) rfl ?_
   iterate 2 refine chPu (ev tab rfl) rfl ?_
   apply chSplitH; (case hj => rfl); (case hl => rfl)
   ·
    intro g28
    refine chGo rfl rfl (ev tab rfl) rfl ?_
    refine chGo rfl rfl (ev tab rfl) rfl ?_
    refine chGo rfl rfl (ev tab rfl) rfl ?_
    first | refine chGo rfl rfl (ev tab rfl) rfl ?_ | refine chGo rfl rfl (loadRow tab rfl rfl rfl rfl) rfl ?_ | refine chGo rfl rfl (loadBox tab rfl rfl rfl rfl rfl) rfl ?_
    refine chGo rfl rfl (ev tab rfl) rfl ?_
    refine chGo rfl rfl (ev tab rfl) rfl ?_
    refine chGo rfl rfl (ev tab rfl) rfl ?_
    first | refine chGo rfl rfl (ev tab rfl) rfl ?_ | refine chGo rfl rfl (loadRow tab rfl rfl rfl rfl) rfl ?_ | refine chGo rfl rfl (loadBox tab rfl rfl rfl rfl rfl) rfl ?_
    refine chGo rfl rfl (indexAddr (l := (tk0 L (k, false)).r) tab rfl rfl rfl rfl rfl rfl (Int.natCast_nonneg _) (idx_map (f := Tk.r) (tk_get (by simp [len] at g14; omega))) rfl) rfl ?_
    refine chGo rfl rfl (ev tab rfl) rfl ?_
    first | refine chGo rfl rfl (ev tab rfl) rfl ?_ | refine chGo rfl rfl (loadRow tab rfl rfl rfl rfl) rfl ?_ | refine chGo rfl rfl (loadBox tab rfl rfl rfl rfl rfl) rfl ?_
    refine chGo rfl rfl (ev tab rfl) rfl ?_
    iterate 2 refine chPu (ev tab rfl) rfl ?_
    apply chSplitH; (case hj => rfl); (case hl => rfl)
    ·
     intro g42
     refine chGo rfl rfl (ev tab rfl) rfl ?_
     refine chGo rfl rfl (ev tab rfl) rfl ?_
     refine chGo rfl rfl (ev tab rfl) rfl ?_
     first | refine chGo rfl rfl (ev tab rfl) rfl ?_ | refine chGo rfl rfl (loadRow tab rfl rfl rfl rfl) rfl ?_ | refine chGo rfl rfl (loadBox tab rfl rfl rfl rfl rfl) rfl ?_
     refine chGo rfl rfl (ev tab rfl) rfl ?_
     refine chGo rfl rfl (ev tab rfl) rfl ?_
     refine chGo rfl rfl (ev tab rfl) rfl ?_
     first | refine chGo rfl rfl (ev tab rfl) rfl ?_ | refine chGo rfl rfl (loadRow tab rfl rfl rfl rfl) rfl ?_ | refine chGo rfl rfl (loadBox tab rfl rfl rfl rfl rfl) rfl ?_
     refine chGo rfl rfl (puI (ev tab rfl) (y := ((k + 1 : Nat) : Int)) (by rw [wrap64 (by omega)]; rfl)) rfl ?_
     refine chGo rfl rfl (indexAddr (l := (tk0 L (k + 1, false)).r) tab rfl rfl rfl rfl rfl rfl (Int.natCast_nonneg _) (idx_map (f := Tk.r) (tk_get (by simp [len] at g14; omega))) rfl) rfl ?_
     refine chGo rfl rfl (ev tab rfl) rfl ?_
     first | refine chGo rfl rfl (ev tab rfl) rfl ?_ | refine chGo rfl rfl (loadRow tab rfl rfl rfl rfl) rfl ?_ | refine chGo rfl rfl (loadBox tab rfl rfl rfl rfl rfl) rfl ?_
     refine chGo rfl rfl (ev tab rfl) rfl ?_
     iterate 2 refine chPu (ev tab rfl) rfl ?_
     apply chSplitH; (case hj => rfl); (case hl => rfl)
     ·
      intro g57
      refine chGo rfl rfl (ev tab rfl) rfl ?_
      refine chGo rfl rfl (ev tab rfl) rfl ?_
      refine chGo rfl rfl (ev tab rfl) rfl ?_
      first | refine chGo rfl rfl (ev tab rfl) rfl ?_ | refine chGo rfl rfl (loadRow tab rfl rfl rfl rfl) rfl ?_ | refine chGo rfl rfl (loadBox tab rfl rfl rfl rfl rfl) rfl ?_
      refine chGo rfl rfl (ev tab rfl) rfl ?_
      refine chGo rfl rfl (ev tab rfl) rfl ?_
      refine chGo rfl rfl (ev tab rfl) rfl ?_
      first | refine chGo rfl rfl (ev tab rfl) rfl ?_ | refine chGo rfl rfl (loadRow tab rfl rfl rfl rfl) rfl ?_ | refine chGo rfl rfl (loadBox tab rfl rfl rfl rfl rfl) rfl ?_
      refine chGo rfl rfl (puI (ev tab rfl) (y := ((k + 2 : Nat) : Int)) (by rw [wrap64 (by omega)]; rfl)) rfl ?_
      refine chGo rfl rfl (indexAddr (l := (tk0 L (k + 2, false)).r) tab rfl rfl rfl rfl rfl rfl (Int.natCast_nonneg _) (idx_map (f := Tk.r) (tk_get (by simp [len] at g14; omega))) rfl) rfl ?_
      refine chGo rfl rfl (ev tab rfl) rfl ?_
      first | refine chGo rfl rfl (ev tab rfl) rfl ?_ | refine chGo rfl rfl (loadRow tab rfl rfl rfl rfl) rfl ?_ | refine chGo rfl rfl (loadBox tab rfl rfl rfl rfl rfl) rfl ?_
      refine chGo rfl rfl (ev tab rfl) rfl ?_
      iterate 2 refine chPu (ev tab rfl) rfl ?_
      apply chSplitH; (case hj => rfl); (case hl => rfl)
      ·
       intro g72
       refine chGo rfl rfl (ev tab rfl) rfl ?_
       refine chGo rfl rfl (ev tab rfl) rfl ?_
       refine chGo rfl rfl (ev tab rfl) rfl ?_
       first | refine chGo rfl rfl (ev tab rfl) rfl ?_ | refine chGo rfl rfl (loadRow tab rfl rfl rfl rfl) rfl ?_ | refine chGo rfl rfl (loadBox tab rfl rfl rfl rfl rfl) rfl ?_
       refine chGo rfl rfl (ev tab rfl) rfl ?_
       refine chGo rfl rfl (ev tab rfl) rfl ?_
       refine chGo rfl rfl (ev tab rfl) rfl ?_
       first | refine chGo rfl rfl (ev tab rfl) rfl ?_ | refine chGo rfl rfl (loadRow tab rfl rfl rfl rfl) rfl ?_ | refine chGo rfl rfl (loadBox tab rfl rfl rfl rfl rfl) rfl ?_
       refine chGo rfl rfl (puI (ev tab rfl) (y := ((k + 2 : Nat) : Int)) (by rw [wrap64 (by omega)]; rfl)) rfl ?_
       refine chGo rfl rfl (indexAddr (l := (tk0 L (k + 2, false)).r) tab rfl rfl rfl rfl rfl rfl (Int.natCast_nonneg _) (idx_map (f := Tk.r) (tk_get (by simp [len] at g14; omega))) rfl) rfl ?_
       refine chGo rfl rfl (ev tab rfl) rfl ?_
       first | refine chGo rfl rfl (ev tab rfl) rfl ?_ | refine chGo rfl rfl (loadRow tab rfl rfl rfl rfl) rfl ?_ | refine chGo rfl rfl (loadBox tab rfl rfl rfl rfl rfl) rfl ?_
       refine chGo rfl rfl (ev tab rfl) rfl ?_
       iterate 2 refine chPu (ev tab rfl) rfl ?_
       refine CH.nil ?_
       refine qv1 rfl rfl rfl
      ·
       intro g72
       iterate 13 refine chSkip rfl rfl rfl rfl ?_
       iterate 2 refine chPu (ev tab rfl) rfl ?_
       refine CH.nil ?_
       refine qv1 rfl rfl rfl
     ·
      intro g57
      iterate 13 refine chSkip rfl rfl rfl rfl ?_
      iterate 2 refine chPu (ev tab rfl) rfl ?_
      iterate 13 refine chSkip rfl rfl rfl rfl ?_
      iterate 2 refine chPu (ev tab rfl) rfl ?_
      refine CH.nil ?_
      refine qv1 rfl rfl rfl
    ·
     intro g42
     iterate 13 refine chSkip rfl rfl rfl rfl ?_
     iterate 2 refine chPu (ev tab rfl) rfl ?_
     iterate 13 refine chSkip rfl rfl rfl rfl ?_
     iterate 2 refine chPu (ev tab rfl) rfl ?_
     iterate 13 refine chSkip rfl rfl rfl rfl ?_
     iterate 2 refine chPu (ev tab rfl) rfl ?_
     refine CH.nil ?_
     refine qv1 rfl rfl rfl
   ·
    intro g28
    iterate 12 refine chSkip rfl rfl rfl rfl ?_
    iterate 2 refine chPu (ev tab rfl) rfl ?_
    iterate 13 refine chSkip rfl rfl rfl rfl ?_
    iterate 2 refine chPu (ev tab rfl) rfl ?_
    iterate 13 refine chSkip rfl rfl rfl rfl ?_
    iterate 2 refine chPu (ev tab rfl) rfl ?_
    iterate 13 refine chSkip rfl rfl rfl rfl ?_
    iterate 2 refine chPu (ev tab rfl) rfl ?_
    refine CH.nil ?_
    refine qv1 rfl rfl rfl
  ·
   intro g14
   iterate 12 refine chSkip rfl rfl rfl rfl ?_
   iterate 2 refine chPu (ev tab rfl) rfl ?_
   iterate 12 refine chSkip rfl rfl rfl rfl ?_
   iterate 2 refine chPu (ev tab rfl) rfl ?_
   iterate 13 refine chSkip rfl rfl rfl rfl ?_
   iterate 2 refine chPu (ev tab rfl) rfl ?_
   iterate 13 refine chSkip rfl rfl rfl rfl ?_
   iterate 2 refine chPu (ev tab rfl) rfl ?_
   iterate 13 refine chSkip rfl rfl rfl rfl ?_
   iterate 2 refine chPu (ev tab rfl) rfl ?_
   refine CH.nil ?_
   refine qv1 rfl rfl rfl
 refine qs (W.ret ?_)
 refine QB1.end tab [] trivial rfl rfl rfl rfl ?_ ?_
 · exact ⟨rfl, trivial⟩
 refine bool_A ?_
 by_cases hlt : k + 2 < L.length
 ·
  have o0 := tk_ok' hw (k := k) (by omega)
  have o1 := tk_ok' hw (k := k + 1) (by omega)
  have o2 := tk_ok' hw (k := k + 2) (by omega)
  simp only [negR]
  rw [isT_sign o0 (x := gSub) rfl, isT_sign o2 (x := gShut) rfl]
  simp only [kindR_2 o1, len]
  have e : ((k + 2 : Nat) : Int) < (L.length : Int) := by omega
  simp [hlt, e]
  try grind
 ·
  have e : ¬ ((k + 2 : Nat) : Int) < (L.length : Int) := by omega
  simp only [negR, len]
  simp [hlt]
  intro q
  omega
end Go.Proofs.YtifeonoehfffmaaGreatDoor
namespace Go.Proofs.YtifeonoehfffmaaGreatDoor
open Go.Ab Go.Tb
set_option maxRecDepth 10000
attribute [local irreducible] W WO Pu QS QB QL QF QV QV1 CH QE
theorem rcall_fn (L : List Tk) (hw : Wf L) (hL : L.length ≤ 3000000) (o : Pr Ex) (ho : Goes L o) (d : Nat) (hor : RdR L 40 o d) (nm : ByteArray) (st : PS) (h : st.1 < L.length) (hd0 : L.length - st.1 ≤ d) :
  DoesB Tryz.prog 167 [.ptr 0 0, .d (.v (.string nm))] [bxR L st] 0 (.ag (callP L o nm st).1.c) [bxR L (callP L o nm st).2] 0 := by
 have l1 := ho.lt st h
 have m1 := ho.mono st
 refine DoesB.of_V tab (n := 30) (rs := [.cell 4 37]) Tryz.func167 (by kernel_rfl) rfl Tryz.ntmps167 Tryz.results167 rfl rfl fun C hC hG => ?_
 refine W.seq (W.region ?_)
 refine allocR tab rfl rfl rfl ?_
 refine WO.nil (qs (W.seq (W.region ?_)))
 refine pE rfl ?_
 refine pu (build tab rfl rfl rfl rfl) rfl ?_
 refine allocR tab rfl rfl rfl ?_
 refine storeR tab rfl rfl rfl rfl rfl rfl rfl rfl ?_
 refine WO.nil (qs ?_)
 iterate 2 refine W.seq ?_
 refine W.region ?_
 refine pE rfl ?_
 refine callB [0] [] rfl rfl rfl rfl rfl ((rsg_fn L hw gShut rfl st h hL)) rfl rfl (by rfl) (by rfl) rfl rfl rfl rfl ?_
 refine WO.nil (qs ?_)
 refine condK rfl (fun h9 => ?_) (fun h9 => ?_)
 ·
  rw [skS_yes h9]
  rw [show callP L o nm st = (exC nm [], adv st) by unfold callP; rw [if_pos h9]]
  refine W.seq (W.region ?_)
  first | refine pE rfl ?_ | refine pR rfl rfl rfl rfl rfl ?_ | refine pB rfl rfl rfl rfl rfl rfl ?_
  refine storeR tab rfl rfl rfl rfl rfl rfl rfl rfl ?_
  refine WO.nil (qs ?_)
  try refine nilBox 1 5 rfl rfl rfl ?_
  refine W.ret (qsRet ?_)
  refine QB1.end tab [] trivial rfl rfl rfl rfl ?_ ?_
  · exact ⟨rfl, trivial⟩
  rfl
 ·
  rw [skS_no h9]
  rw [show callP L o nm st = (exC nm (listP L o st).1, needP L gShut (listP L o st).2) by unfold callP; rw [if_neg (by simp [h9])]]
  have l5 := (listP_goes hw ho).lt st h
  refine W.skip (qs (W.seq ?_))
  apply W.regionC tab 5 3; (case hB => kernel_rfl); (case h1 => rfl); (case h2 => rfl)
  refine' ccPu ?p1_1 (ev tab rfl) rfl rfl rfl rfl rfl ?h_1
  case' h_1 => skip
  first | (refine' ccPu ?p1_2 (ev tab rfl) rfl rfl rfl rfl rfl ?h_2) | (refine' ccPu ?p1_2 (loadRow tab rfl rfl rfl rfl) rfl rfl rfl rfl rfl ?h_2) | (refine' ccPu ?p1_2 (loadBox tab rfl rfl rfl rfl rfl) rfl rfl rfl rfl rfl ?h_2)
  case' h_2 => skip
  refine' ccPu0 (ev tab rfl) rfl rfl rfl rfl rfl ?h_3
  case' h_3 => skip
  refine' ccX (fun g => ?e_4) rfl rfl rfl ?h_4
  case e_4 =>
   refine callB [0] [] rfl rfl rfl rfl rfl ((hor st h hd0)) rfl rfl (by rfl) (by rfl) rfl rfl rfl rfl ?_
   refine WO.nil ?_
   exact ⟨rfl, rfl⟩
  case' h_4 => skip
  case p1_1 => exact (ev tab rfl)
  case p1_2 => first | (exact (ev tab rfl)) | (exact (loadRow tab rfl rfl rfl rfl)) | (exact (loadBox tab rfl rfl rfl rfl rfl))
  refine ccPu1 (buildV tab rfl rfl rfl rfl rfl rfl rfl rfl rfl) rfl rfl rfl rfl rfl ?_
  refine CC.nil ?_
  refine appendNilR tab rfl rfl rfl rfl rfl rfl rfl rfl rfl (es2 := [(o st).1].map Ex.c) (fun x hx => by obtain rfl := List.mem_singleton.1 hx; rfl) (by show 1 * 80 ≤ 140737488355328; decide) ?_
  refine pE rfl ?_
  refine storeR tab rfl rfl rfl rfl rfl rfl rfl rfl ?_
  refine WO.nil (qs (W.seq (W.block ?_)))
  refine W.loopR (ι := {x : Nat × PS × List Ex // match x with | (n, s1, acc) => s1.1 < L.length ∧ L.length - s1.1 ≤ d ∧ L.length - s1.1 ≤ n ∧ acc ++ (listGo L gCom o n s1).1 = (listP L o st).1 ∧ (listGo L gCom o n s1).2 = (listP L o st).2 ∧ acc.length ≤ s1.1 + 1})
   (fun x => match x.1 with | (n, s1, acc) => [(0, .ptr 0 0), (4, .ptr 1 0), (5, .ptr 2 0)]) []
   (fun x => match x.1 with | (n, s1, acc) => [(0, bxR L s1), (2, [.d (ci 16), .d (cs nm), .d (ci 0), .d (ci 0), .d (cs E0), .own 3 (acc.map Ex.c)])]) [(1, _)] [3] 4 (fun x => match x.1 with | (n, s1, acc) => n)
   [0, 1, 2, 5] ⟨(L.length, (o st).2, [(o st).1]), ?_⟩ rfl ?_ trivial ?_ ⟨rfl, rfl, trivial⟩ rfl ?_
  · exact ⟨l1, by omega, by omega, rfl, rfl, by simp⟩
  · repeat' first | exact trivial | refine ⟨rfl, ?_⟩ | refine ⟨step_nat (by assumption) (by assumption), ?_⟩
  · repeat' first | exact trivial | refine ⟨rfl, ?_⟩ | refine ⟨step_nat (by assumption) (by assumption), ?_⟩
  rintro ⟨⟨n, s1, acc⟩, hk, hd, hn, hI, hJ, hA⟩
  show W _ _ _ _ _ ⟨[(0, .ptr 0 0), (4, .ptr 1 0), (5, .ptr 2 0)], [(0, bxR L s1), (2, [.d (ci 16), .d (cs nm), .d (ci 0), .d (ci 0), .d (cs E0), .own 3 (acc.map Ex.c)]), (1, _)], [3], 4⟩
  obtain ⟨n', rfl⟩ : ∃ n', n = n' + 1 := ⟨n - 1, by omega⟩
  simp only [listGo] at hI hJ
  iterate 2 refine W.seq ?_
  refine W.region ?_
  refine pE rfl ?_
  refine callB [0] [] rfl rfl rfl rfl rfl ((rsg_fn L hw gCom rfl s1 hk hL)) rfl rfl (by rfl) (by rfl) rfl rfl rfl rfl ?_
  refine WO.nil (qs ?_)
  refine condK rfl (fun h19 => ?_) (fun h19 => ?_)
  ·
   have l2 := skB_more hw h19 hk
   have l3 := ho.lt (adv s1) l2
   have m3 : s1.1 + 1 ≤ (o (adv s1)).2.1 := ho.mono (adv s1)
   rw [if_pos h19] at hI hJ
   rw [skS_yes h19]
   refine W.skip (qs (W.block ?_))
   apply W.regionC tab 5 3; (case hB => kernel_rfl); (case h1 => rfl); (case h2 => rfl)
   refine' ccPu ?p1_6 (ev tab rfl) rfl rfl rfl rfl rfl ?h_6
   case' h_6 => skip
   first | (refine' ccPu ?p1_7 (ev tab rfl) rfl rfl rfl rfl rfl ?h_7) | (refine' ccPu ?p1_7 (loadRow tab rfl rfl rfl rfl) rfl rfl rfl rfl rfl ?h_7) | (refine' ccPu ?p1_7 (loadBox tab rfl rfl rfl rfl rfl) rfl rfl rfl rfl rfl ?h_7)
   case' h_7 => skip
   refine' ccPu0 (ev tab rfl) rfl rfl rfl rfl rfl ?h_8
   case' h_8 => skip
   refine' ccX (fun g => ?e_9) rfl rfl rfl ?h_9
   case e_9 =>
    refine callB [0] [] rfl rfl rfl rfl rfl ((hor (adv s1) l2 (by show L.length - (s1.1 + 1) ≤ d; omega))) rfl rfl (by rfl) (by rfl) rfl rfl rfl rfl ?_
    refine WO.nil ?_
    exact ⟨rfl, rfl⟩
   case' h_9 => skip
   case p1_6 => exact (ev tab rfl)
   case p1_7 => first | (exact (ev tab rfl)) | (exact (loadRow tab rfl rfl rfl rfl)) | (exact (loadBox tab rfl rfl rfl rfl rfl))
   refine ccPu1 (buildV tab rfl rfl rfl rfl rfl rfl rfl rfl rfl) rfl rfl rfl rfl rfl ?_
   refine CC.nil ?_
   refine appendM (fn := Ex.c) (a := (o (adv s1)).1) tab rfl rfl rfl rfl rfl rfl rfl rfl rfl rfl (fun _ => rfl) (by show (acc.length + 1) * 80 ≤ _; omega) ?_
   refine pE rfl ?_
   refine storeR tab rfl rfl rfl rfl rfl rfl rfl rfl ?_
   refine WO.nil (qbN ?_)
   first | (refine W.endR [0, 1, 2, 6] ⟨(n', (o (adv s1)).2, acc ++ [(o (adv s1)).1]), ?_⟩ ?_ rfl ?_ trivial ?_ ⟨rfl, rfl, trivial⟩ rfl) | (refine W.endR [0, 1, 2, 5] ⟨(n', (o (adv s1)).2, acc ++ [(o (adv s1)).1]), ?_⟩ ?_ rfl ?_ trivial ?_ ⟨rfl, rfl, trivial⟩ rfl) | (refine W.endR [0, 1, 2, 4] ⟨(n', (o (adv s1)).2, acc ++ [(o (adv s1)).1]), ?_⟩ ?_ rfl ?_ trivial ?_ ⟨rfl, rfl, trivial⟩ rfl)
   · exact ⟨l3, by omega, by omega, by rw [← hI]; simp, hJ, by simp; omega⟩
   · dsimp only; omega
   · repeat' first | exact trivial | refine ⟨rfl, ?_⟩ | refine ⟨step_nat (by assumption) (by assumption), ?_⟩
   · repeat' first | exact trivial | refine ⟨rfl, ?_⟩ | refine ⟨step_nat (by assumption) (by assumption), ?_⟩
  ·
   rw [if_neg (by simp [h19])] at hI hJ
   rw [skS_no h19]
   simp only [List.append_nil] at hI hJ
   refine W.exit (qsExit (qlExit (qbExit (qs (W.seq (W.region ?_))))))
   refine pE rfl ?_
   refine callB [0] [] rfl rfl rfl rfl rfl ((rneed_fn L hw gShut (.inl rfl) s1 hk hL)) rfl rfl (by rfl) (by rfl) rfl rfl rfl rfl ?_
   refine WO.nil (qs (W.seq (W.region ?_)))
   first | refine pE rfl ?_ | refine pR rfl rfl rfl rfl rfl ?_ | refine pB rfl rfl rfl rfl rfl rfl ?_
   refine storeR tab rfl rfl rfl rfl rfl rfl rfl rfl ?_
   refine WO.nil (qs ?_)
   try refine nilBox 1 5 rfl rfl rfl ?_
   refine W.ret ?_
   refine QB1.end tab [] trivial rfl rfl rfl rfl ?_ ?_
   ·
    rw [show needP L gShut (listP L o st).2 = needP L gShut s1 by rw [hJ]]
    exact ⟨rfl, trivial⟩
   rw [← hI]
   show _ = A.ag (exC nm acc).c
   rw [exC_c]
   rfl
end Go.Proofs.YtifeonoehfffmaaGreatDoor
namespace Go.Proofs.YtifeonoehfffmaaGreatDoor
open Go.Ab Go.Tb
set_option maxRecDepth 10000
attribute [local irreducible] W WO Pu QS QB QL QF QV QV1 CH QE
theorem negR_negB {L : List Tk} (hw : Wf L) {st : PS} (h : st.1 < L.length) (ho : isT (tk0 L st) gOpen = true) : negR L (st.1 + 1) = negB L st := by
 unfold negR negB
 rw [ho, Bool.true_and]
 by_cases hlt : st.1 + 3 < L.length
 ·
  have e1 : pkT L st.1 1 = tk0 L (st.1 + 1, false) := by unfold pkT tk0; rw [Nat.min_eq_left (by omega)]
  have e2 : pkT L st.1 2 = tk0 L (st.1 + 1 + 1, false) := by unfold pkT tk0; rw [Nat.min_eq_left (by omega)]
  have e3 : pkT L st.1 3 = tk0 L (st.1 + 1 + 2, false) := by unfold pkT tk0; rw [Nat.min_eq_left (by omega)]
  rw [e1, e2, e3, show decide (st.1 + 1 + 2 < L.length) = true by simp; omega, Bool.true_and]
 ·
  rw [show decide (st.1 + 1 + 2 < L.length) = false by simp; omega, Bool.false_and]
  have hp : (pkT L st.1 3).stops = true := by
   have hl : L[L.length - 1]? = some (pkT L st.1 3) := by
    unfold pkT
    rw [Nat.min_eq_right (by omega), List.getElem?_eq_getElem (by omega)]
    rfl
   exact (hw.last _ _ hl).2 (by omega)
  have : isT (pkT L st.1 3) gShut = false := by
   cases q : isT (pkT L st.1 3) gShut with
   | false => rfl
   | true => rw [isT_go q] at hp; cases hp
  rw [this]
  simp
set_option maxHeartbeats 8000000 in
theorem rprim_fn (L : List Tk) (hw : Wf L) (hd : Dg L) (hL : L.length ≤ 3000000) (o : Pr Ex) (ho : Goes L o) (d : Nat) (hor : RdR L 40 o d) : RdR L 160 (primP L false o) (d + 1) := by
 intro st h hd0
 obtain ⟨k, b⟩ := st
 have hx := tk_get (L := L) (k := k) (b := b) h
 have hok := tk_ok hw (st := (k, b)) h
 have hk2 := kindR_2 hok
 have hk3 := kindR_3 hok
 refine DoesB.of_V tab (n := 122) (rs := [.cell 2 37]) Tryz.func160 (by kernel_rfl) rfl Tryz.ntmps160 Tryz.results160 rfl rfl fun C hC hG => ?_
 refine W.seq (W.region ?_)
 refine allocR tab rfl rfl rfl ?_
 refine WO.nil (qs (W.seq (W.block (W.seq (W.region ?_)))))
 iterate 3 refine pE rfl ?_
 first | refine pE rfl ?_ | refine pR rfl rfl rfl rfl rfl ?_ | refine pB rfl rfl rfl rfl rfl rfl ?_
 refine pE rfl ?_
 refine WO.nil (qs ?_)
 refine condK rfl (fun h5 => ?_) (fun h5 => ?_)
 ·
  rw [show primP L false o (k, b) = (exZ, (k, b)) by unfold primP; rw [if_pos h5]]
  refine W.seq (W.region ?_)
  refine pu (build tab rfl rfl rfl rfl) rfl ?_
  refine storeR tab rfl rfl rfl rfl rfl rfl rfl rfl ?_
  refine WO.nil (qs ?_)
  try refine nilBox 1 5 rfl rfl rfl ?_
  refine W.ret (qbRet (qsRet ?_))
  refine QB1.end tab [] trivial rfl rfl rfl rfl ?_ ?_
  · exact ⟨rfl, trivial⟩
  rfl
 ·
  have hb : b = false := h5
  subst hb
  have hp0 : ¬ (k, false).2 = true := by simp
  refine W.seq ?_
  refine W.regionD tab (by kernel_rfl) ?_
  iterate 3 refine chPu (ev tab rfl) rfl ?_
  first | refine chPu (ev tab rfl) rfl ?_ | refine chPu (loadRow tab rfl rfl rfl rfl) rfl ?_ | refine chPu (loadBox tab rfl rfl rfl rfl rfl) rfl ?_
  iterate 3 refine chPu (ev tab rfl) rfl ?_
  first | refine chPu (ev tab rfl) rfl ?_ | refine chPu (loadRow tab rfl rfl rfl rfl) rfl ?_ | refine chPu (loadBox tab rfl rfl rfl rfl rfl) rfl ?_
  refine chPu (indexAddr (l := (tk0 L (k, false)).r) tab rfl rfl rfl rfl rfl rfl (Int.natCast_nonneg _) (idx_map (f := Tk.r) hx) rfl) rfl ?_
  refine chPu (ev tab rfl) rfl ?_
  first | refine chPu (ev tab rfl) rfl ?_ | refine chPu (loadRow tab rfl rfl rfl rfl) rfl ?_ | refine chPu (loadBox tab rfl rfl rfl rfl rfl) rfl ?_
  iterate 2 refine chPu (ev tab rfl) rfl ?_
  refine CH.nil ?_
  refine qs ?_
  refine condK rfl (fun h11 => ?_) (fun h11 => ?_)
  ·
   have e3 : (tk0 L (k, false)).kind = 3 := hk2.1 (by simpa using h11)
   rw [show primP L false o (k, false) = (exK ⟨2, (tk0 L (k, false)).n, E0⟩, adv (k, false)) by unfold primP; rw [if_neg hp0, if_pos e3]]
   have hn := rnum_fn L hw hd (k, false) h hL
   rw [show limP L (k, false) = ((tk0 L (k, false)).n, adv (k, false)) by unfold limP; rw [if_neg (by simp [e3])]] at hn
   refine W.seq (W.region ?_)
   refine pE rfl ?_
   refine callB [0] [] rfl rfl rfl rfl rfl (hn ..) rfl rfl (by rfl) (by rfl) rfl rfl rfl rfl ?_
   refine pu (puCall rfl rfl rfl ((rconst_fn _ _ _)) rfl) rfl ?_
   refine storeR tab rfl rfl rfl rfl rfl rfl rfl rfl ?_
   refine WO.nil (qs ?_)
   try refine nilBox 1 5 rfl rfl rfl ?_
   refine W.ret (qbRet (qsRet ?_))
   refine QB1.end tab [] trivial rfl rfl rfl rfl ?_ ?_
   · exact ⟨rfl, trivial⟩
   rfl
  ·
   have e3 : ¬ (tk0 L (k, false)).kind = 3 := fun q => by have := hk2.2 q; simp [this] at h11
   refine W.seq ?_
   refine W.regionD tab (by kernel_rfl) ?_
   iterate 3 refine chPu (ev tab rfl) rfl ?_
   first | refine chPu (ev tab rfl) rfl ?_ | refine chPu (loadRow tab rfl rfl rfl rfl) rfl ?_ | refine chPu (loadBox tab rfl rfl rfl rfl rfl) rfl ?_
   iterate 3 refine chPu (ev tab rfl) rfl ?_
   first | refine chPu (ev tab rfl) rfl ?_ | refine chPu (loadRow tab rfl rfl rfl rfl) rfl ?_ | refine chPu (loadBox tab rfl rfl rfl rfl rfl) rfl ?_
   refine chPu (indexAddr (l := (tk0 L (k, false)).r) tab rfl rfl rfl rfl rfl rfl (Int.natCast_nonneg _) (idx_map (f := Tk.r) hx) rfl) rfl ?_
   refine chPu (ev tab rfl) rfl ?_
   first | refine chPu (ev tab rfl) rfl ?_ | refine chPu (loadRow tab rfl rfl rfl rfl) rfl ?_ | refine chPu (loadBox tab rfl rfl rfl rfl rfl) rfl ?_
   iterate 2 refine chPu (ev tab rfl) rfl ?_
   refine CH.nil ?_
   refine qs ?_
   refine condK rfl (fun h27 => ?_) (fun h27 => ?_)
   ·
    have e4 : (tk0 L (k, false)).kind = 4 := hk3.1 (by simpa using h27)
    rw [show primP L false o (k, false) = (exK ⟨3, 0, (tk0 L (k, false)).s⟩, adv (k, false)) by unfold primP; rw [if_neg hp0, if_neg e3, if_pos e4]]
    refine W.seq (W.region ?_)
    iterate 4 refine pE rfl ?_
    first | refine pE rfl ?_ | refine pR rfl rfl rfl rfl rfl ?_ | refine pB rfl rfl rfl rfl rfl rfl ?_
    refine pu (puI (ev tab rfl) (y := ((k + 1 : Nat) : Int)) (by rw [wrap64 (by omega)]; rfl)) rfl ?_
    iterate 2 refine pE rfl ?_
    refine storeR tab rfl rfl rfl rfl rfl rfl rfl rfl ?_
    refine WO.nil (qs (W.seq ?_))
    refine W.regionE tab 13 0 (by kernel_rfl) rfl rfl ?_
    refine cePu rfl (ev tab rfl) rfl ?_
    refine cePu rfl (ev tab rfl) rfl ?_
    refine cePu rfl (ev tab rfl) rfl ?_
    first | refine cePu rfl (ev tab rfl) rfl ?_ | refine cePu rfl (loadRow tab rfl rfl rfl rfl) rfl ?_ | refine cePu rfl (loadBox tab rfl rfl rfl rfl rfl) rfl ?_
    refine cePu rfl (ev tab rfl) rfl ?_
    refine cePu rfl (ev tab rfl) rfl ?_
    refine cePu rfl (ev tab rfl) rfl ?_
    first | refine cePu rfl (ev tab rfl) rfl ?_ | refine cePu rfl (loadRow tab rfl rfl rfl rfl) rfl ?_ | refine cePu rfl (loadBox tab rfl rfl rfl rfl rfl) rfl ?_
    refine cePu rfl (puI (ev tab rfl) (y := ((k : Nat) : Int)) (by rw [wrap64 (by omega)]; omega)) rfl ?_
    refine cePu rfl (indexAddr (l := (tk0 L (k, false)).r) tab rfl rfl rfl rfl rfl rfl (Int.natCast_nonneg _) (idx_map (f := Tk.r) hx) rfl) rfl ?_
    refine cePu rfl (ev tab rfl) rfl ?_
    first | refine cePu rfl (ev tab rfl) rfl ?_ | refine cePu rfl (loadRow tab rfl rfl rfl rfl) rfl ?_ | refine cePu rfl (loadBox tab rfl rfl rfl rfl rfl) rfl ?_
    refine cePu rfl (puCall rfl rfl rfl ((rconst_fn _ _ _)) rfl) rfl ?_
    refine CE.nil ?_
    refine storeR tab rfl rfl rfl rfl rfl rfl rfl rfl ?_
    refine WO.nil (qs ?_)
    try refine nilBox 1 5 rfl rfl rfl ?_
    refine W.ret (qbRet (qsRet ?_))
    refine QB1.end tab [] trivial rfl rfl rfl rfl ?_ ?_
    · exact ⟨rfl, trivial⟩
    rfl
   ·
    have e4 : ¬ (tk0 L (k, false)).kind = 4 := fun q => by have := hk3.2 q; simp [this] at h27
    refine W.seq (W.region ?_)
    refine pE rfl ?_
    refine callB [0] [] rfl rfl rfl rfl rfl ((rwd_fn L hw kwNull rfl (k, false) h hL)) rfl rfl (by rfl) (by rfl) rfl rfl rfl rfl ?_
    refine pE rfl ?_
    refine WO.nil (qs ?_)
    refine condK rfl (fun h61 => ?_) (fun h61 => ?_)
    ·
     rw [skS_yes h61]
     rw [show primP L false o (k, false) = (exK Tb.v0, adv (k, false)) by unfold primP; rw [if_neg hp0, if_neg e3, if_neg e4, if_pos h61]]
     refine W.seq (W.region ?_)
     refine pu (puCall rfl rfl rfl ((rconst_fn _ _ _)) rfl) rfl ?_
     refine storeR tab rfl rfl rfl rfl rfl rfl rfl rfl ?_
     refine WO.nil (qs ?_)
     try refine nilBox 1 5 rfl rfl rfl ?_
     refine W.ret (qbRet (qsRet ?_))
     refine QB1.end tab [] trivial rfl rfl rfl rfl ?_ ?_
     · exact ⟨rfl, trivial⟩
     rfl
    ·
     rw [skS_no h61]
     refine W.seq (W.region ?_)
     refine pE rfl ?_
     refine callB [0] [] rfl rfl rfl rfl rfl ((rwd_fn L hw kwTrue rfl (k, false) h hL)) rfl rfl (by rfl) (by rfl) rfl rfl rfl rfl ?_
     refine pE rfl ?_
     refine WO.nil (qs ?_)
     refine condK rfl (fun h65 => ?_) (fun h65 => ?_)
     ·
      rw [skS_yes h65]
      rw [show primP L false o (k, false) = (exK ⟨1, 1, E0⟩, adv (k, false)) by unfold primP; rw [if_neg hp0, if_neg e3, if_neg e4, if_neg (by simp [h61]), if_pos h65]]
      refine W.seq (W.region ?_)
      refine pu (puCall rfl rfl rfl ((rconst_fn _ _ _)) rfl) rfl ?_
      refine storeR tab rfl rfl rfl rfl rfl rfl rfl rfl ?_
      refine WO.nil (qs ?_)
      try refine nilBox 1 5 rfl rfl rfl ?_
      refine W.ret (qbRet (qsRet ?_))
      refine QB1.end tab [] trivial rfl rfl rfl rfl ?_ ?_
      · exact ⟨rfl, trivial⟩
      rfl
     ·
      rw [skS_no h65]
      refine W.seq (W.region ?_)
      refine pE rfl ?_
      refine callB [0] [] rfl rfl rfl rfl rfl ((rwd_fn L hw kwFalse rfl (k, false) h hL)) rfl rfl (by rfl) (by rfl) rfl rfl rfl rfl ?_
      refine pE rfl ?_
      refine WO.nil (qs ?_)
      refine condK rfl (fun h69 => ?_) (fun h69 => ?_)
      ·
       rw [skS_yes h69]
       rw [show primP L false o (k, false) = (exK ⟨1, 0, E0⟩, adv (k, false)) by unfold primP; rw [if_neg hp0, if_neg e3, if_neg e4, if_neg (by simp [h61]), if_neg (by simp [h65]), if_pos h69]]
       refine W.seq (W.region ?_)
       refine pu (puCall rfl rfl rfl ((rconst_fn _ _ _)) rfl) rfl ?_
       refine storeR tab rfl rfl rfl rfl rfl rfl rfl rfl ?_
       refine WO.nil (qs ?_)
       try refine nilBox 1 5 rfl rfl rfl ?_
       refine W.ret (qbRet (qsRet ?_))
       refine QB1.end tab [] trivial rfl rfl rfl rfl ?_ ?_
       · exact ⟨rfl, trivial⟩
       rfl
      ·
       rw [skS_no h69]
       have hp : primP L false o (k, false) = if negB L (k, false) then (exK ⟨2, -(pkT L k 2).n, E0⟩, (k + 4, false)) else if skB L gOpen (k, false) then ((o (adv (k, false))).1, needP L gShut (o (adv (k, false))).2) else if nameB L (k, false) then (if skB L gOpen (adv (k, false)) then callP L o (tk0 L (k, false)).s (adv (adv (k, false))) else (exF (tk0 L (k, false)).s, adv (k, false))) else (exZ, failS (k, false)) := by unfold primP; rw [if_neg hp0, if_neg e3, if_neg e4, if_neg (by simp [h61]), if_neg (by simp [h65]), if_neg (by simp [h69])]; rfl
       have no_open : nameB L (k, false) = true → skB L gOpen (k, false) = false := fun q => by
        unfold nameB at q
        simp only [Bool.and_eq_true, decide_eq_true_eq] at q
        rw [skB_sign hw h (x := gOpen) rfl]
        unfold isR
        have e2 := (kindR_1 hok).2 q.2.1
        rw [e2]
        simp
       have no_neg : skB L gOpen (k, false) = false → negB L (k, false) = false := fun q => by
        unfold negB
        have : isT (tk0 L (k, false)) gOpen = false := by simpa [skB] using q
        rw [this]
        rfl
       refine W.seq (W.region ?_)
       refine pE rfl ?_
       refine callB [0] [] rfl rfl rfl rfl rfl ((rnamed_fn L hw (k, false) h hL)) rfl rfl (by rfl) (by rfl) rfl rfl rfl rfl ?_
       refine pE rfl ?_
       refine WO.nil (qs ?_)
       refine condK rfl (fun h73 => ?_) (fun h73 => ?_)
       ·
        rw [no_neg (no_open h73), no_open h73, h73, if_neg (by simp), if_neg (by simp), if_pos rfl] at hp
        have hnm := rname_fn L hw (k, false) h hL
        rw [show nameP L (k, false) = ((tk0 L (k, false)).s, adv (k, false)) by unfold nameP; rw [h73]; rfl] at hnm
        have l2 := nameB_more hw h73 h
        refine W.seq (W.region ?_)
        refine pE rfl ?_
        refine callB [0] [] rfl rfl rfl rfl rfl (hnm ..) rfl rfl (by rfl) (by rfl) rfl rfl rfl rfl ?_
        refine pE rfl ?_
        refine WO.nil (qs ?_)
        iterate 2 refine W.seq ?_
        refine W.region ?_
        refine pE rfl ?_
        refine callB [0] [] rfl rfl rfl rfl rfl ((rsg_fn L hw gOpen rfl (adv (k, false)) l2 hL)) rfl rfl (by rfl) (by rfl) rfl rfl rfl rfl ?_
        refine WO.nil (qs ?_)
        refine condK rfl (fun h79 => ?_) (fun h79 => ?_)
        ·
         rw [skS_yes h79]
         rw [if_pos h79] at hp
         rw [hp]
         have l3 := skB_more hw h79 l2
         refine W.seq (W.region ?_)
         iterate 2 refine pE rfl ?_
         refine callB [0] [] rfl rfl rfl rfl rfl ((rcall_fn L hw hL o ho d hor (tk0 L (k, false)).s (adv (adv (k, false))) l3 (by show L.length - (k + 1 + 1) ≤ d; simp only at hd0; omega))) rfl rfl (by rfl) (by rfl) rfl rfl rfl rfl ?_
         refine storeR tab rfl rfl rfl rfl rfl rfl rfl rfl ?_
         refine WO.nil (qs ?_)
         try refine nilBox 1 5 rfl rfl rfl ?_
         refine W.ret (qsRet (qbRet (qsRet ?_)))
         refine QB1.end tab [] trivial rfl rfl rfl rfl ?_ ?_
         · exact ⟨rfl, trivial⟩
         rfl
        ·
         rw [skS_no h79]
         rw [if_neg (by simp [h79])] at hp
         rw [hp]
         refine W.skip (qs (W.seq (W.region ?_)))
         refine pE rfl ?_
         refine pu (build tab rfl rfl rfl rfl) rfl ?_
         refine storeR tab rfl rfl rfl rfl rfl rfl rfl rfl ?_
         refine WO.nil (qs ?_)
         try refine nilBox 1 5 rfl rfl rfl ?_
         refine W.ret (qbRet (qsRet ?_))
         refine QB1.end tab [] trivial rfl rfl rfl rfl ?_ ?_
         · exact ⟨rfl, trivial⟩
         rfl
       ·
        refine W.seq (W.region ?_)
        refine pE rfl ?_
        refine callB [0] [] rfl rfl rfl rfl rfl ((rsg_fn L hw gOpen rfl (k, false) h hL)) rfl rfl (by rfl) (by rfl) rfl rfl rfl rfl ?_
        refine pE rfl ?_
        refine WO.nil (qs ?_)
        refine condK rfl (fun h85 => ?_) (fun h85 => ?_)
        ·
         rw [skS_yes h85]
         have l2 := skB_more hw h85 h
         have hng := rneg_fn L hw hL (adv (k, false)) l2
         rw [show negR L (adv (k, false)).1 = negB L (k, false) from negR_negB hw h (by simpa [skB] using h85)] at hng
         iterate 2 refine W.seq ?_
         refine W.region ?_
         refine pE rfl ?_
         refine callB [0] [] rfl rfl rfl rfl rfl (hng ..) rfl rfl (by rfl) (by rfl) rfl rfl rfl rfl ?_
         refine WO.nil (qs ?_)
         refine condK rfl (fun h89 => ?_) (fun h89 => ?_)
         ·
          rw [if_pos h89] at hp
          rw [hp]
          have l4 := negB_more hw h89
          simp only at l4
          have hx2 := tk_get (L := L) (k := k + 2) (b := false) (by omega)
          have e2 : pkT L k 2 = tk0 L (k + 2, false) := by unfold pkT tk0; rw [Nat.min_eq_left (by omega)]
          have hk2' : (tk0 L (k + 2, false)).kind = 3 := by
           rw [← e2]
           simp only [negB, Bool.and_eq_true, decide_eq_true_eq] at h89
           exact h89.2.2.1
          have hm2 := List.mem_of_getElem? hx2
          have hn2 := num_tok hw hm2 hk2'
          obtain ⟨d1, d2⟩ := hd _ hm2 hk2'
          have hv := vdig_fn _ d1 d2
          rw [valR_tok (hw.ok _ hm2) hk2'] at hv
          rw [e2]
          refine W.seq (W.region ?_)
          iterate 4 refine pE rfl ?_
          first | refine pE rfl ?_ | refine pR rfl rfl rfl rfl rfl ?_ | refine pB rfl rfl rfl rfl rfl rfl ?_
          refine pu (puI (ev tab rfl) (y := ((k + 4 : Nat) : Int)) (by rw [show (((adv (k, false)).1 : Nat) : Int) + 3 = ((k + 4 : Nat) : Int) by show ((k + 1 : Nat) : Int) + 3 = _; omega]; exact wrap64 (by omega))) rfl ?_
          iterate 2 refine pE rfl ?_
          refine storeR tab rfl rfl rfl rfl rfl rfl rfl rfl ?_
          refine WO.nil (qs (W.seq ?_))
          refine W.regionE tab 15 0 (by kernel_rfl) rfl rfl ?_
          refine cePu rfl (ev tab rfl) rfl ?_
          refine cePu rfl (ev tab rfl) rfl ?_
          refine cePu rfl (ev tab rfl) rfl ?_
          first | refine cePu rfl (ev tab rfl) rfl ?_ | refine cePu rfl (loadRow tab rfl rfl rfl rfl) rfl ?_ | refine cePu rfl (loadBox tab rfl rfl rfl rfl rfl) rfl ?_
          refine cePu rfl (ev tab rfl) rfl ?_
          refine cePu rfl (ev tab rfl) rfl ?_
          refine cePu rfl (ev tab rfl) rfl ?_
          first | refine cePu rfl (ev tab rfl) rfl ?_ | refine cePu rfl (loadRow tab rfl rfl rfl rfl) rfl ?_ | refine cePu rfl (loadBox tab rfl rfl rfl rfl rfl) rfl ?_
          refine cePu rfl (puI (ev tab rfl) (y := ((k + 2 : Nat) : Int)) (by rw [wrap64 (by omega)]; omega)) rfl ?_
          refine cePu rfl (indexAddr (l := (tk0 L (k + 2, false)).r) tab rfl rfl rfl rfl rfl rfl (Int.natCast_nonneg _) (idx_map (f := Tk.r) hx2) rfl) rfl ?_
          refine cePu rfl (ev tab rfl) rfl ?_
          first | refine cePu rfl (ev tab rfl) rfl ?_ | refine cePu rfl (loadRow tab rfl rfl rfl rfl) rfl ?_ | refine cePu rfl (loadBox tab rfl rfl rfl rfl rfl) rfl ?_
          refine cePu rfl (puCall rfl rfl rfl hv rfl) rfl ?_
          refine cePu rfl (puI (ev tab rfl) (show IntKind.i64.wrap (0 - (tk0 L (k + 2, false)).n) = -(tk0 L (k + 2, false)).n from by rw [Int.zero_sub]; exact wrap64 (by omega))) rfl ?_
          refine cePu rfl (puCall rfl rfl rfl ((rconst_fn _ _ _)) rfl) rfl ?_
          refine CE.nil ?_
          refine storeR tab rfl rfl rfl rfl rfl rfl rfl rfl ?_
          refine WO.nil (qs ?_)
          try refine nilBox 1 5 rfl rfl rfl ?_
          refine W.ret (qsRet (qbRet (qsRet ?_)))
          refine QB1.end tab [] trivial rfl rfl rfl rfl ?_ ?_
          · exact ⟨rfl, trivial⟩
          rfl
         ·
          rw [if_neg (by simp [h89]), if_pos h85] at hp
          rw [hp]
          have l5 := ho.lt (adv (k, false)) l2
          refine W.skip (qs (W.seq (W.region ?_)))
          refine pE rfl ?_
          refine callB [0] [] rfl rfl rfl rfl rfl ((hor (adv (k, false)) l2 (by show L.length - (k + 1) ≤ d; simp only at hd0; omega))) rfl rfl (by rfl) (by rfl) rfl rfl rfl rfl ?_
          refine allocR tab rfl rfl rfl ?_
          refine storeR tab rfl rfl rfl rfl rfl rfl rfl rfl ?_
          refine WO.nil (qs (W.seq (W.region ?_)))
          refine pE rfl ?_
          refine callB [0] [] rfl rfl rfl rfl rfl ((rneed_fn L hw gShut (.inl rfl) _ l5 hL)) rfl rfl (by rfl) (by rfl) rfl rfl rfl rfl ?_
          refine WO.nil (qs (W.seq (W.region ?_)))
          first | refine pE rfl ?_ | refine pR rfl rfl rfl rfl rfl ?_ | refine pB rfl rfl rfl rfl rfl rfl ?_
          refine storeR tab rfl rfl rfl rfl rfl rfl rfl rfl ?_
          refine WO.nil (qs ?_)
          try refine nilBox 1 5 rfl rfl rfl ?_
          refine W.ret (qbRet (qsRet ?_))
          refine QB1.end tab [] trivial rfl rfl rfl rfl ?_ ?_
          · exact ⟨rfl, trivial⟩
          rfl
        ·
         rw [skS_no h85]
         rw [no_neg h85, h85, if_neg (by simp), if_neg (by simp), show nameB L (k, false) = false from h73, if_neg (by simp)] at hp
         rw [hp]
         refine W.skip (qbN (qs (W.seq (W.region ?_))))
         iterate 3 refine pE rfl ?_
         refine storeR tab rfl rfl rfl rfl rfl rfl rfl rfl ?_
         refine WO.nil (qs (W.seq (W.region ?_)))
         refine pu (build tab rfl rfl rfl rfl) rfl ?_
         refine storeR tab rfl rfl rfl rfl rfl rfl rfl rfl ?_
         refine WO.nil (qs ?_)
         try refine nilBox 1 5 rfl rfl rfl ?_
         refine W.ret ?_
         refine QB1.end tab [] trivial rfl rfl rfl rfl ?_ ?_
         · exact ⟨rfl, trivial⟩
         rfl
end Go.Proofs.YtifeonoehfffmaaGreatDoor
namespace Go.Proofs.YtifeonoehfffmaaGreatDoor
open Go.Ab Go.Tb
set_option maxRecDepth 10000
attribute [local irreducible] W WO Pu QS QB QL QF QV QV1 CH QE
theorem ror_all (L : List Tk) (hw : Wf L) (hd : Dg L) (hL : L.length ≤ 3000000) : ∀ d, RdR L 40 (orP L false d) d
 | 0 => fun st h hd => by omega
 | d + 1 => by
  have g0 := orP_goes hw false d
  have h0 := ror_all L hw hd hL d
  have g1 := primP_goes hw g0 false
  have h1 : RdR L 160 (primP L false (orP L false d)) (d + 1) := rprim_fn L hw hd hL _ g0 d h0
  have g2 := unaryP_goes hw g1 L.length
  have h2 : RdR L 152 (unaryP L (primP L false (orP L false d)) L.length) (d + 1) := fun st h hd => runary_fn L hw hL _ (d + 1) h1 L.length st h hd (by omega)
  have g3 := leftP_goes hw g2 opsMul
  have h3 := rprod_fn L hw hL _ g2 (d + 1) h2
  have g4 := leftP_goes hw g3 opsSum
  have h4 := rsum_fn L hw hL _ g3 (d + 1) h3
  have g5 := compP_goes hw g4
  have g6 := notP_goes hw g5 L.length
  have h6 : RdR L 115 (notP L (compP L (sumP L false (orP L false d))) L.length) (d + 1) := fun st h hd => rnot_fn L hw hL _ g4 (d + 1) h4 L.length st h hd (by omega)
  have g7 := leftP_goes hw g6 opsAnd
  have h7 := rand_fn L hw hL _ g6 (d + 1) h6
  exact ror_fn L hw hL _ g7 (d + 1) h7
theorem ror_fn' (L : List Tk) (hw : Wf L) (hd : Dg L) (hL : L.length ≤ 3000000) (st : PS) (h : st.1 < L.length) : DoesB Tryz.prog 40 [.ptr 0 0] [bxR L st] 0 (.ag (orT false L st).1.c) [bxR L (orT false L st).2] 0 := ror_all L hw hd hL L.length st h (by omega)
theorem rfault_fn (L : List Tk) (hw : Wf L) (st : PS) (h : st.1 < L.length) (hL : L.length ≤ 3000000) : DoesB Tryz.prog 35 [.ptr 0 0] [bxR L st] 0 (.tup [.d (.v (.int .i64 (if badB L st then ((tk0 L st).at_ : Int) else 0))), .d (.v (.bool (badB L st)))]) [bxR L st] 0 := by
 obtain ⟨k, b⟩ := st
 have hx := tk_get (L := L) (k := k) (b := b) h
 have hk := kindR_0 (tk_ok hw (st := (k, b)) h)
 refine DoesB.of_V tab (n := 34) (rs := [.tmp 2, .tmp 3]) Tryz.func35 (by kernel_rfl) rfl Tryz.ntmps35 Tryz.results35 rfl rfl fun C hC hG => ?_
 refine W.seq (W.region ?_)
 iterate 2 refine pE rfl ?_
 refine WO.nil (qs ?_)
 iterate 2 refine W.seq ?_
 apply regionDB tab; (case hb => rfl); (case hB => kernel_rfl)
 ·
  iterate 3 refine chPu (ev tab rfl) rfl ?_
  first | refine chPu (ev tab rfl) rfl ?_ | refine chPu (loadRow tab rfl rfl rfl rfl) rfl ?_ | refine chPu (loadBox tab rfl rfl rfl rfl rfl) rfl ?_
  iterate 2 refine chPu (ev tab rfl) rfl ?_
  apply chSplitJ; (case hj => rfl); (case hl => rfl)
  ·
   refine chGo rfl rfl (ev tab rfl) rfl ?_
   refine chGo rfl rfl (ev tab rfl) rfl ?_
   refine chGo rfl rfl (ev tab rfl) rfl ?_
   first | refine chGo rfl rfl (ev tab rfl) rfl ?_ | refine chGo rfl rfl (loadRow tab rfl rfl rfl rfl) rfl ?_ | refine chGo rfl rfl (loadBox tab rfl rfl rfl rfl rfl) rfl ?_
   refine chGo rfl rfl (ev tab rfl) rfl ?_
   refine chGo rfl rfl (ev tab rfl) rfl ?_
   refine chGo rfl rfl (ev tab rfl) rfl ?_
   first | refine chGo rfl rfl (ev tab rfl) rfl ?_ | refine chGo rfl rfl (loadRow tab rfl rfl rfl rfl) rfl ?_ | refine chGo rfl rfl (loadBox tab rfl rfl rfl rfl rfl) rfl ?_
   refine chGo rfl rfl (indexAddr (l := (tk0 L (k, b)).r) tab rfl rfl rfl rfl rfl rfl (Int.natCast_nonneg _) (idx_map (f := Tk.r) hx) rfl) rfl ?_
   refine chGo rfl rfl (ev tab rfl) rfl ?_
   first | refine chGo rfl rfl (ev tab rfl) rfl ?_ | refine chGo rfl rfl (loadRow tab rfl rfl rfl rfl) rfl ?_ | refine chGo rfl rfl (loadBox tab rfl rfl rfl rfl rfl) rfl ?_
   refine chGo rfl rfl (ev tab rfl) rfl ?_
   refine chPu (ev tab rfl) rfl ?_
   refine CH.nil ?_
   refine qv1 rfl rfl rfl
  ·
   iterate 12 refine chSkip rfl rfl rfl rfl ?_
   refine chPu (ev tab rfl) rfl ?_
   refine CH.nil ?_
   refine qv1 rfl rfl rfl
 refine qs ?_
 refine condK rfl (fun h22 => ?_) (fun h22 => ?_)
 ·
  have e : badB L (k, b) = false := by
   cases b with
   | true => simp at h22
   | false => simp at h22; simp [badB, hk.1 h22]
  rw [e]
  refine W.seq (W.region ?_)
  iterate 2 refine pE rfl ?_
  refine WO.nil (qs (W.ret (qsRet ?_)))
  refine QB1.end tab [] trivial rfl rfl rfl rfl ?_ ?_
  · exact ⟨rfl, trivial⟩
  rfl
 ·
  have e : badB L (k, b) = true := by
   cases b with
   | true => rfl
   | false => simp at h22; simp only [badB, Bool.false_or, Bool.not_eq_true', decide_eq_false_iff_not]; exact fun q => h22 (hk.2 q)
  rw [e]
  refine W.skip (qs (W.seq ?_))
  refine W.regionD tab (by kernel_rfl) ?_
  iterate 3 refine chPu (ev tab rfl) rfl ?_
  first | refine chPu (ev tab rfl) rfl ?_ | refine chPu (loadRow tab rfl rfl rfl rfl) rfl ?_ | refine chPu (loadBox tab rfl rfl rfl rfl rfl) rfl ?_
  iterate 3 refine chPu (ev tab rfl) rfl ?_
  first | refine chPu (ev tab rfl) rfl ?_ | refine chPu (loadRow tab rfl rfl rfl rfl) rfl ?_ | refine chPu (loadBox tab rfl rfl rfl rfl rfl) rfl ?_
  refine chPu (indexAddr (l := (tk0 L (k, b)).r) tab rfl rfl rfl rfl rfl rfl (Int.natCast_nonneg _) (idx_map (f := Tk.r) hx) rfl) rfl ?_
  refine chPu (ev tab rfl) rfl ?_
  first | refine chPu (ev tab rfl) rfl ?_ | refine chPu (loadRow tab rfl rfl rfl rfl) rfl ?_ | refine chPu (loadBox tab rfl rfl rfl rfl rfl) rfl ?_
  iterate 2 refine chPu (ev tab rfl) rfl ?_
  refine CH.nil ?_
  refine qs (W.ret ?_)
  refine QB1.end tab [] trivial rfl rfl rfl rfl ?_ ?_
  · exact ⟨rfl, trivial⟩
  rfl
end Go.Proofs.YtifeonoehfffmaaGreatDoor
namespace Go.Proofs.YtifeonoehfffmaaGreatDoor
open Go.Ab Go.Tb
set_option maxRecDepth 10000
attribute [local irreducible] W WO Pu QS QB QL QF QV QV1 CH QE
theorem more_step {L : List Tk} {α : Type} {one : Pr α} {n : Nat} {acc : List α} {s1 : PS} {T : List α × PS} (hI : acc ++ (one s1).1 :: (listGo L gCom one n (one s1).2).1 = T.1) (hJ : (listGo L gCom one n (one s1).2).2 = T.2) (hn : L.length - s1.1 ≤ n) (hl : (one s1).2.1 < L.length) (hm : s1.1 ≤ (one s1).2.1) :
  ∃ n', n = n' + 1 ∧ (skB L gCom (one s1).2 = true → L.length - (skS L gCom (one s1).2).1 ≤ n' ∧ (acc ++ [(one s1).1]) ++ (one (skS L gCom (one s1).2)).1 :: (listGo L gCom one n' (one (skS L gCom (one s1).2)).2).1 = T.1 ∧ (listGo L gCom one n' (one (skS L gCom (one s1).2)).2).2 = T.2) ∧ (skB L gCom (one s1).2 = false → acc ++ [(one s1).1] = T.1 ∧ skS L gCom (one s1).2 = T.2) := by
 obtain ⟨n', rfl⟩ : ∃ n', n = n' + 1 := ⟨n - 1, by omega⟩
 refine ⟨n', rfl, fun h => ?_, fun h => ?_⟩
 ·
  simp only [listGo, h, if_true] at hI hJ
  rw [skS_yes h]
  exact ⟨by show L.length - ((one s1).2.1 + 1) ≤ n'; omega, by rw [← hI]; simp, hJ⟩
 ·
  simp only [listGo, h, Bool.false_eq_true, if_false] at hI hJ
  rw [skS_no h]
  exact ⟨hI, hJ⟩
theorem skS_lt {L : List Tk} (hw : Wf L) {x : ByteArray} {st : PS} (h : st.1 < L.length) : (skS L x st).1 < L.length := (skS_goes hw x).lt st h
theorem rsrts_fn (L : List Tk) (hw : Wf L) (hL : L.length ≤ 3000000) (st : PS) (h : st.1 < L.length) : DoesB Tryz.prog 69 [.ptr 0 0] [bxR L st] 0 (.d (.sl ((listP L (sortP L) st).1.map Srt.c))) [bxR L (listP L (sortP L) st).2] 0 := by
 have ho : Goes L (sortP L) := sortP_goes hw
 refine DoesB.of_V tab (n := 20) (rs := [.tmp 2]) Tryz.func69 (by kernel_rfl) rfl Tryz.ntmps69 Tryz.results69 rfl rfl fun C hC hG => ?_
 refine W.seq (W.region ?_)
 refine pE rfl ?_
 refine WO.nil (qs (W.seq (W.region ?_)))
 refine pE rfl ?_
 refine WO.nil (qs ?_)
 iterate 2 refine W.seq ?_
 refine W.region ?_
 refine pE rfl ?_
 refine WO.nil (qs (W.block ?_))
 refine ownNilR (d := 3) rfl rfl ?_
 refine W.loopR (ι := {x : Nat × PS × List Srt × Bool // match x with | (n, s1, acc, more) => s1.1 < L.length ∧ acc.length + n ≤ L.length ∧ (more = true → L.length - s1.1 ≤ n ∧ acc ++ ((sortP L) s1).1 :: (listGo L gCom (sortP L) n ((sortP L) s1).2).1 = (listP L (sortP L) st).1 ∧ (listGo L gCom (sortP L) n ((sortP L) s1).2).2 = (listP L (sortP L) st).2) ∧ (more = false → acc = (listP L (sortP L) st).1 ∧ s1 = (listP L (sortP L) st).2)})
  (fun x => match x.1 with | (n, s1, acc, more) => [(0, .ptr 0 0), (3, .own 1 (acc.map Srt.c)), (4, .d (.v (.bool (more))))]) []
  (fun x => match x.1 with | (n, s1, acc, more) => [(0, bxR L s1)]) [] [1] 2 (fun x => match x.1 with | (n, s1, acc, more) => n + 1)
  [0, 1] ⟨(L.length, st, [], true), ?_⟩ rfl ?_ trivial ?_ trivial rfl ?_
 · exact ⟨h, by simp, fun _ => ⟨by omega, rfl, rfl⟩, fun h => by cases h⟩
 · repeat' first | exact trivial | refine ⟨rfl, ?_⟩ | refine ⟨step_nat (by assumption) (by assumption), ?_⟩
 · repeat' first | exact trivial | refine ⟨rfl, ?_⟩ | refine ⟨step_nat (by assumption) (by assumption), ?_⟩
 rintro ⟨⟨n, s1, acc, more⟩, hk, hA, hY, hN⟩
 show W _ _ _ _ _ ⟨[(0, .ptr 0 0), (3, .own 1 (acc.map Srt.c)), (4, .d (.v (.bool (more))))], [(0, bxR L s1)], [1], 2⟩
 iterate 2 refine W.seq ?_
 refine W.region ?_
 refine pE rfl ?_
 refine WO.nil (qs ?_)
 refine condK rfl (fun h6 => ?_) (fun h6 => ?_)
 ·
  obtain ⟨hn, hI, hJ⟩ := hY h6
  have l2 := ho.lt s1 hk
  have m2 := ho.mono s1
  obtain ⟨n', rfl, q1, q2⟩ := more_step hI hJ hn l2 m2
  refine W.skip (qs (W.seq (W.block (W.seq (W.region ?_)))))
  refine pE rfl ?_
  refine callB [0] [] rfl rfl rfl rfl rfl ((rname_fn L hw s1 hk hL)) rfl rfl (by rfl) (by rfl) rfl rfl rfl rfl ?_
  refine pu (build tab rfl rfl rfl rfl) rfl ?_
  refine allocR tab rfl rfl rfl ?_
  refine storeR tab rfl rfl rfl rfl rfl rfl rfl rfl ?_
  refine WO.nil (qs (W.seq (W.region ?_)))
  refine pE rfl ?_
  refine callB [0] [] rfl rfl rfl rfl rfl ((rwd_fn L hw kwDesc rfl (nameP L s1).2 ((nameP_goes hw).lt s1 hk) hL)) rfl rfl (by rfl) (by rfl) rfl rfl rfl rfl ?_
  refine pE rfl ?_
  refine storeR tab rfl rfl rfl rfl rfl rfl rfl rfl ?_
  refine WO.nil (qs (W.region ?_))
  refine pE rfl ?_
  first | refine pE rfl ?_ | refine pR rfl rfl rfl rfl rfl ?_ | refine pB rfl rfl rfl rfl rfl rfl ?_
  refine pu (buildV tab rfl rfl rfl rfl rfl rfl rfl rfl rfl) rfl ?_
  refine appendM (fn := Srt.c) (a := (sortP L s1).1) tab rfl rfl rfl rfl rfl rfl rfl rfl rfl rfl (fun _ => rfl) (by show (acc.length + 1) * 24 ≤ _; omega) ?_
  refine pE rfl ?_
  refine WO.nil (qbN (qs (W.region ?_)))
  refine pE rfl ?_
  refine callB [0] [] rfl rfl rfl rfl rfl ((rsg_fn L hw gCom rfl ((sortP L) s1).2 l2 hL)) rfl rfl (by rfl) (by rfl) rfl rfl rfl rfl ?_
  refine pE rfl ?_
  refine WO.nil ?_
  first | (refine W.endR [0, 5] ⟨(n', skS L gCom ((sortP L) s1).2, acc ++ [((sortP L) s1).1], skB L gCom ((sortP L) s1).2), ?_⟩ ?_ rfl ?_ trivial ?_ trivial rfl) | (refine W.endR [0, 10] ⟨(n', skS L gCom ((sortP L) s1).2, acc ++ [((sortP L) s1).1], skB L gCom ((sortP L) s1).2), ?_⟩ ?_ rfl ?_ trivial ?_ trivial rfl)
  · exact ⟨skS_lt hw l2, by simp; omega, q1, q2⟩
  · dsimp only; omega
  · repeat' first | exact trivial | refine ⟨rfl, ?_⟩ | refine ⟨step_nat (by assumption) (by assumption), ?_⟩
  · repeat' first | exact trivial | refine ⟨rfl, ?_⟩ | refine ⟨step_nat (by assumption) (by assumption), ?_⟩
 ·
  obtain ⟨e1, e2⟩ := hN h6
  refine W.exit (qsExit (qlExit (qbExit (qs (W.seq (W.region ?_))))))
  iterate 2 refine pE rfl ?_
  refine WO.nil (qs (W.ret ?_))
  refine QB1.end tab [] trivial rfl rfl rfl rfl ?_ ?_
  ·
   rw [← e2]
   exact ⟨rfl, trivial⟩
  rw [← e1]
  rfl
theorem ritms_fn (L : List Tk) (hw : Wf L) (hd : Dg L) (hL : L.length ≤ 3000000) (st : PS) (h : st.1 < L.length) : DoesB Tryz.prog 67 [.ptr 0 0] [bxR L st] 0 (.d (.sl ((listP L (itemP L (orT false L)) st).1.map Itm.c))) [bxR L (listP L (itemP L (orT false L)) st).2] 0 := by
 have ho : Goes L (itemP L (orT false L)) := itemP_goes hw (orP_goes hw false _)
 refine DoesB.of_V tab (n := 21) (rs := [.tmp 2]) Tryz.func67 (by kernel_rfl) rfl Tryz.ntmps67 Tryz.results67 rfl rfl fun C hC hG => ?_
 refine W.seq (W.region ?_)
 refine pE rfl ?_
 refine WO.nil (qs (W.seq (W.region ?_)))
 refine pE rfl ?_
 refine WO.nil (qs ?_)
 iterate 2 refine W.seq ?_
 refine W.region ?_
 refine pE rfl ?_
 refine WO.nil (qs (W.block ?_))
 refine ownNilR (d := 3) rfl rfl ?_
 refine W.loopR (ι := {x : Nat × PS × List Itm × Bool // match x with | (n, s1, acc, more) => s1.1 < L.length ∧ acc.length + n ≤ L.length ∧ (more = true → L.length - s1.1 ≤ n ∧ acc ++ ((itemP L (orT false L)) s1).1 :: (listGo L gCom (itemP L (orT false L)) n ((itemP L (orT false L)) s1).2).1 = (listP L (itemP L (orT false L)) st).1 ∧ (listGo L gCom (itemP L (orT false L)) n ((itemP L (orT false L)) s1).2).2 = (listP L (itemP L (orT false L)) st).2) ∧ (more = false → acc = (listP L (itemP L (orT false L)) st).1 ∧ s1 = (listP L (itemP L (orT false L)) st).2)})
  (fun x => match x.1 with | (n, s1, acc, more) => [(0, .ptr 0 0), (3, .own 1 (acc.map Itm.c)), (4, .d (.v (.bool (more))))]) []
  (fun x => match x.1 with | (n, s1, acc, more) => [(0, bxR L s1)]) [] [1] 2 (fun x => match x.1 with | (n, s1, acc, more) => n + 1)
  [0, 1] ⟨(L.length, st, [], true), ?_⟩ rfl ?_ trivial ?_ trivial rfl ?_
 · exact ⟨h, by simp, fun _ => ⟨by omega, rfl, rfl⟩, fun h => by cases h⟩
 · repeat' first | exact trivial | refine ⟨rfl, ?_⟩ | refine ⟨step_nat (by assumption) (by assumption), ?_⟩
 · repeat' first | exact trivial | refine ⟨rfl, ?_⟩ | refine ⟨step_nat (by assumption) (by assumption), ?_⟩
 rintro ⟨⟨n, s1, acc, more⟩, hk, hA, hY, hN⟩
 show W _ _ _ _ _ ⟨[(0, .ptr 0 0), (3, .own 1 (acc.map Itm.c)), (4, .d (.v (.bool (more))))], [(0, bxR L s1)], [1], 2⟩
 iterate 2 refine W.seq ?_
 refine W.region ?_
 refine pE rfl ?_
 refine WO.nil (qs ?_)
 refine condK rfl (fun h6 => ?_) (fun h6 => ?_)
 ·
  obtain ⟨hn, hI, hJ⟩ := hY h6
  have l2 := ho.lt s1 hk
  have m2 := ho.mono s1
  obtain ⟨n', rfl, q1, q2⟩ := more_step hI hJ hn l2 m2
  refine W.skip (qs (W.seq (W.block (W.seq (W.region ?_)))))
  refine pE rfl ?_
  refine callB [0] [] rfl rfl rfl rfl rfl ((ror_fn' L hw hd hL s1 hk)) rfl rfl (by rfl) (by rfl) rfl rfl rfl rfl ?_
  refine allocR tab rfl rfl rfl ?_
  refine storeR tab rfl rfl rfl rfl rfl rfl rfl rfl ?_
  refine WO.nil (qs (W.seq ?_))
  have a1 : (orT false L s1).2.1 < L.length := (orP_goes hw false L.length).lt s1 hk
  have a2 : (needP L kwAs (orT false L s1).2).1 < L.length := (needP_goes hw kwAs).lt _ a1
  refine W.region ?_
  refine pE rfl ?_
  refine callB [0] [] rfl rfl rfl rfl rfl ((rneed_fn L hw kwAs (.inr rfl) _ a1 hL)) rfl rfl (by rfl) (by rfl) rfl rfl rfl rfl ?_
  refine WO.nil (qs ?_)
  apply W.regionC tab 6 3; (case hB => kernel_rfl); (case h1 => rfl); (case h2 => rfl)
  refine' ccPu ?p1_1 (ev tab rfl) rfl rfl rfl rfl rfl ?h_1
  case' h_1 => skip
  first | (refine' ccPu ?p1_2 (ev tab rfl) rfl rfl rfl rfl rfl ?h_2) | (refine' ccPu ?p1_2 (loadRow tab rfl rfl rfl rfl) rfl rfl rfl rfl rfl ?h_2) | (refine' ccPu ?p1_2 (loadBox tab rfl rfl rfl rfl rfl) rfl rfl rfl rfl rfl ?h_2)
  case' h_2 => skip
  refine' ccPu0 (ev tab rfl) rfl rfl rfl rfl rfl ?h_3
  case' h_3 => skip
  refine' ccX (fun g => ?e_4) rfl rfl rfl ?h_4
  case e_4 =>
   refine callB [0] [] rfl rfl rfl rfl rfl ((rname_fn L hw _ a2 hL)) rfl rfl (by rfl) (by rfl) rfl rfl rfl rfl ?_
   refine WO.nil ?_
   exact ⟨rfl, rfl⟩
  case' h_4 => skip
  case p1_1 => exact (ev tab rfl)
  case p1_2 => first | (exact (ev tab rfl)) | (exact (loadRow tab rfl rfl rfl rfl)) | (exact (loadBox tab rfl rfl rfl rfl rfl))
  refine ccPu1 (build tab rfl rfl rfl rfl) rfl rfl rfl rfl rfl ?_
  refine ccPu (buildV tab rfl rfl rfl rfl rfl rfl rfl rfl rfl) (buildV tab rfl rfl rfl rfl rfl rfl rfl rfl rfl) rfl rfl rfl rfl rfl ?_
  refine CC.nil ?_
  refine appendM (fn := Itm.c) (a := (itemP L (orT false L) s1).1) tab rfl rfl rfl rfl rfl rfl rfl rfl rfl rfl (fun _ => rfl) (by show (acc.length + 1) * 96 ≤ _; omega) ?_
  refine pE rfl ?_
  refine WO.nil (qbN (qs (W.region ?_)))
  refine pE rfl ?_
  refine callB [0] [] rfl rfl rfl rfl rfl ((rsg_fn L hw gCom rfl ((itemP L (orT false L)) s1).2 l2 hL)) rfl rfl (by rfl) (by rfl) rfl rfl rfl rfl ?_
  refine pE rfl ?_
  refine WO.nil ?_
  first | (refine W.endR [0, 6] ⟨(n', skS L gCom ((itemP L (orT false L)) s1).2, acc ++ [((itemP L (orT false L)) s1).1], skB L gCom ((itemP L (orT false L)) s1).2), ?_⟩ ?_ rfl ?_ trivial ?_ trivial rfl) | (refine W.endR [0, 10] ⟨(n', skS L gCom ((itemP L (orT false L)) s1).2, acc ++ [((itemP L (orT false L)) s1).1], skB L gCom ((itemP L (orT false L)) s1).2), ?_⟩ ?_ rfl ?_ trivial ?_ trivial rfl)
  · exact ⟨skS_lt hw l2, by simp; omega, q1, q2⟩
  · dsimp only; omega
  · repeat' first | exact trivial | refine ⟨rfl, ?_⟩ | refine ⟨step_nat (by assumption) (by assumption), ?_⟩
  · repeat' first | exact trivial | refine ⟨rfl, ?_⟩ | refine ⟨step_nat (by assumption) (by assumption), ?_⟩
 ·
  obtain ⟨e1, e2⟩ := hN h6
  refine W.exit (qsExit (qlExit (qbExit (qs (W.seq (W.region ?_))))))
  iterate 2 refine pE rfl ?_
  refine WO.nil (qs (W.ret ?_))
  refine QB1.end tab [] trivial rfl rfl rfl rfl ?_ ?_
  ·
   rw [← e2]
   exact ⟨rfl, trivial⟩
  rw [← e1]
  rfl
theorem raggr_fn (L : List Tk) (hw : Wf L) (hL : L.length ≤ 3000000) (st : PS) (h : st.1 < L.length) : DoesB Tryz.prog 109 [.ptr 0 0] [bxR L st] 0 (.d (.sl ((listP L (aggP L) st).1.map Agr.c))) [bxR L (listP L (aggP L) st).2] 0 := by
 have ho : Goes L (aggP L) := aggP_goes hw
 refine DoesB.of_V tab (n := 31) (rs := [.tmp 2]) Tryz.func109 (by kernel_rfl) rfl Tryz.ntmps109 Tryz.results109 rfl rfl fun C hC hG => ?_
 refine W.seq (W.region ?_)
 refine pE rfl ?_
 refine WO.nil (qs (W.seq (W.region ?_)))
 refine pE rfl ?_
 refine WO.nil (qs ?_)
 iterate 2 refine W.seq ?_
 refine W.region ?_
 refine pE rfl ?_
 refine WO.nil (qs (W.block ?_))
 refine ownNilR (d := 3) rfl rfl ?_
 refine W.loopR (ι := {x : Nat × PS × List Agr × Bool // match x with | (n, s1, acc, more) => s1.1 < L.length ∧ acc.length + n ≤ L.length ∧ (more = true → L.length - s1.1 ≤ n ∧ acc ++ ((aggP L) s1).1 :: (listGo L gCom (aggP L) n ((aggP L) s1).2).1 = (listP L (aggP L) st).1 ∧ (listGo L gCom (aggP L) n ((aggP L) s1).2).2 = (listP L (aggP L) st).2) ∧ (more = false → acc = (listP L (aggP L) st).1 ∧ s1 = (listP L (aggP L) st).2)})
  (fun x => match x.1 with | (n, s1, acc, more) => [(0, .ptr 0 0), (3, .own 1 (acc.map Agr.c)), (4, .d (.v (.bool (more))))]) []
  (fun x => match x.1 with | (n, s1, acc, more) => [(0, bxR L s1)]) [] [1] 2 (fun x => match x.1 with | (n, s1, acc, more) => n + 1)
  [0, 1] ⟨(L.length, st, [], true), ?_⟩ rfl ?_ trivial ?_ trivial rfl ?_
 · exact ⟨h, by simp, fun _ => ⟨by omega, rfl, rfl⟩, fun h => by cases h⟩
 · repeat' first | exact trivial | refine ⟨rfl, ?_⟩ | refine ⟨step_nat (by assumption) (by assumption), ?_⟩
 · repeat' first | exact trivial | refine ⟨rfl, ?_⟩ | refine ⟨step_nat (by assumption) (by assumption), ?_⟩
 rintro ⟨⟨n, s1, acc, more⟩, hk, hA, hY, hN⟩
 show W _ _ _ _ _ ⟨[(0, .ptr 0 0), (3, .own 1 (acc.map Agr.c)), (4, .d (.v (.bool (more))))], [(0, bxR L s1)], [1], 2⟩
 iterate 2 refine W.seq ?_
 refine W.region ?_
 refine pE rfl ?_
 refine WO.nil (qs ?_)
 refine condK rfl (fun h6 => ?_) (fun h6 => ?_)
 ·
  obtain ⟨hn, hI, hJ⟩ := hY h6
  have l2 := ho.lt s1 hk
  have m2 := ho.mono s1
  obtain ⟨n', rfl, q1, q2⟩ := more_step hI hJ hn l2 m2
  refine W.skip (qs (W.seq (W.block (W.seq (W.region ?_)))))
  refine pE rfl ?_
  refine callB [0] [] rfl rfl rfl rfl rfl ((rname_fn L hw s1 hk hL)) rfl rfl (by rfl) (by rfl) rfl rfl rfl rfl ?_
  refine pu (build tab rfl rfl rfl rfl) rfl ?_
  refine allocR tab rfl rfl rfl ?_
  refine storeR tab rfl rfl rfl rfl rfl rfl rfl rfl ?_
  refine WO.nil (qs (W.seq ?_))
  have a1 := (nameP_goes hw).lt s1 hk
  have a2 : (needP L gOpen (nameP L s1).2).1 < L.length := (needP_goes hw gOpen).lt _ a1
  refine W.region ?_
  refine pE rfl ?_
  refine callB [0] [] rfl rfl rfl rfl rfl ((rneed_fn L hw gOpen (.inl rfl) _ a1 hL)) rfl rfl (by rfl) (by rfl) rfl rfl rfl rfl ?_
  refine WO.nil (qs ?_)
  iterate 2 refine W.seq ?_
  refine W.region ?_
  refine pE rfl ?_
  refine callB [0] [] rfl rfl rfl rfl rfl ((rnamed_fn L hw _ a2 hL)) rfl rfl (by rfl) (by rfl) rfl rfl rfl rfl ?_
  refine WO.nil (qs ?_)
  refine condK rfl (fun h15 => ?_) (fun h15 => ?_)
  ·
   let c : ByteArray × PS := nameP L (needP L gOpen (nameP L s1).2)
   have hc : c = if nameB L (needP L gOpen (nameP L s1).2) then nameP L (needP L gOpen (nameP L s1).2) else (E0, needP L gOpen (nameP L s1).2) := by rw [if_pos h15]
   have a3 : c.2.1 < L.length := (nameP_goes hw).lt _ a2
   refine W.region ?_
   refine pE rfl ?_
   refine callB [0] [] rfl rfl rfl rfl rfl ((rname_fn L hw _ a2 hL)) rfl rfl (by rfl) (by rfl) rfl rfl rfl rfl ?_
   refine pE rfl ?_
   refine storeR tab rfl rfl rfl rfl rfl rfl rfl rfl ?_
   refine WO.nil (qs (W.seq ?_))
   have a4 : (needP L gShut c.2).1 < L.length := (needP_goes hw gShut).lt _ a3
   have a5 : (needP L kwAs (needP L gShut c.2)).1 < L.length := (needP_goes hw kwAs).lt _ a4
   let r : Agr × PS := (⟨(nameP L s1).1, c.1, (nameP L (needP L kwAs (needP L gShut c.2))).1⟩, (nameP L (needP L kwAs (needP L gShut c.2))).2)
   have hg : aggP L s1 = r := by unfold aggP; simp only [← hc]; rfl
   rw [hg] at q1 q2 l2 m2
   refine W.region ?_
   refine pE rfl ?_
   refine callB [0] [] rfl rfl rfl rfl rfl ((rneed_fn L hw gShut (.inl rfl) c.2 a3 hL)) rfl rfl (by rfl) (by rfl) rfl rfl rfl rfl ?_
   refine WO.nil (qs (W.seq (W.region ?_)))
   refine pE rfl ?_
   refine callB [0] [] rfl rfl rfl rfl rfl ((rneed_fn L hw kwAs (.inr rfl) _ a4 hL)) rfl rfl (by rfl) (by rfl) rfl rfl rfl rfl ?_
   refine WO.nil (qs (W.seq (W.region ?_)))
   refine pE rfl ?_
   refine callB [0] [] rfl rfl rfl rfl rfl ((rname_fn L hw _ a5 hL)) rfl rfl (by rfl) (by rfl) rfl rfl rfl rfl ?_
   refine pE rfl ?_
   refine storeR tab rfl rfl rfl rfl rfl rfl rfl rfl ?_
   refine WO.nil (qs (W.region ?_))
   refine pE rfl ?_
   first | refine pE rfl ?_ | refine pR rfl rfl rfl rfl rfl ?_ | refine pB rfl rfl rfl rfl rfl rfl ?_
   refine pu (buildV tab rfl rfl rfl rfl rfl rfl rfl rfl rfl) rfl ?_
   refine appendM (fn := Agr.c) (a := r.1) tab rfl rfl rfl rfl rfl rfl rfl rfl rfl rfl (fun _ => rfl) (by show (acc.length + 1) * 48 ≤ _; omega) ?_
   refine pE rfl ?_
   refine WO.nil (qbN (qs (W.region ?_)))
   refine pE rfl ?_
   refine callB [0] [] rfl rfl rfl rfl rfl ((rsg_fn L hw gCom rfl r.2 l2 hL)) rfl rfl (by rfl) (by rfl) rfl rfl rfl rfl ?_
   refine pE rfl ?_
   refine WO.nil ?_
   first | (refine W.endR [0, 9] ⟨(n', skS L gCom r.2, acc ++ [r.1], skB L gCom r.2), ?_⟩ ?_ rfl ?_ trivial ?_ trivial rfl) | (refine W.endR [0, 10] ⟨(n', skS L gCom r.2, acc ++ [r.1], skB L gCom r.2), ?_⟩ ?_ rfl ?_ trivial ?_ trivial rfl)
   · exact ⟨skS_lt hw l2, by simp; omega, q1, q2⟩
   · dsimp only; omega
   · repeat' first | exact trivial | refine ⟨rfl, ?_⟩ | refine ⟨step_nat (by assumption) (by assumption), ?_⟩
   · repeat' first | exact trivial | refine ⟨rfl, ?_⟩ | refine ⟨step_nat (by assumption) (by assumption), ?_⟩
  ·
   let c : ByteArray × PS := (E0, needP L gOpen (nameP L s1).2)
   have hc : c = if nameB L (needP L gOpen (nameP L s1).2) then nameP L (needP L gOpen (nameP L s1).2) else (E0, needP L gOpen (nameP L s1).2) := by rw [if_neg (by simp [h15])]
   have a3 : c.2.1 < L.length := a2
   refine W.skip (qs (W.seq ?_))
   have a4 : (needP L gShut c.2).1 < L.length := (needP_goes hw gShut).lt _ a3
   have a5 : (needP L kwAs (needP L gShut c.2)).1 < L.length := (needP_goes hw kwAs).lt _ a4
   let r : Agr × PS := (⟨(nameP L s1).1, c.1, (nameP L (needP L kwAs (needP L gShut c.2))).1⟩, (nameP L (needP L kwAs (needP L gShut c.2))).2)
   have hg : aggP L s1 = r := by unfold aggP; simp only [← hc]; rfl
   rw [hg] at q1 q2 l2 m2
   refine W.region ?_
   refine pE rfl ?_
   refine callB [0] [] rfl rfl rfl rfl rfl ((rneed_fn L hw gShut (.inl rfl) c.2 a3 hL)) rfl rfl (by rfl) (by rfl) rfl rfl rfl rfl ?_
   refine WO.nil (qs (W.seq (W.region ?_)))
   refine pE rfl ?_
   refine callB [0] [] rfl rfl rfl rfl rfl ((rneed_fn L hw kwAs (.inr rfl) _ a4 hL)) rfl rfl (by rfl) (by rfl) rfl rfl rfl rfl ?_
   refine WO.nil (qs (W.seq (W.region ?_)))
   refine pE rfl ?_
   refine callB [0] [] rfl rfl rfl rfl rfl ((rname_fn L hw _ a5 hL)) rfl rfl (by rfl) (by rfl) rfl rfl rfl rfl ?_
   refine pE rfl ?_
   refine storeR tab rfl rfl rfl rfl rfl rfl rfl rfl ?_
   refine WO.nil (qs (W.region ?_))
   refine pE rfl ?_
   first | refine pE rfl ?_ | refine pR rfl rfl rfl rfl rfl ?_ | refine pB rfl rfl rfl rfl rfl rfl ?_
   refine pu (buildV tab rfl rfl rfl rfl rfl rfl rfl rfl rfl) rfl ?_
   refine appendM (fn := Agr.c) (a := r.1) tab rfl rfl rfl rfl rfl rfl rfl rfl rfl rfl (fun _ => rfl) (by show (acc.length + 1) * 48 ≤ _; omega) ?_
   refine pE rfl ?_
   refine WO.nil (qbN (qs (W.region ?_)))
   refine pE rfl ?_
   refine callB [0] [] rfl rfl rfl rfl rfl ((rsg_fn L hw gCom rfl r.2 l2 hL)) rfl rfl (by rfl) (by rfl) rfl rfl rfl rfl ?_
   refine pE rfl ?_
   refine WO.nil ?_
   first | (refine W.endR [0, 9] ⟨(n', skS L gCom r.2, acc ++ [r.1], skB L gCom r.2), ?_⟩ ?_ rfl ?_ trivial ?_ trivial rfl) | (refine W.endR [0, 10] ⟨(n', skS L gCom r.2, acc ++ [r.1], skB L gCom r.2), ?_⟩ ?_ rfl ?_ trivial ?_ trivial rfl)
   · exact ⟨skS_lt hw l2, by simp; omega, q1, q2⟩
   · dsimp only; omega
   · repeat' first | exact trivial | refine ⟨rfl, ?_⟩ | refine ⟨step_nat (by assumption) (by assumption), ?_⟩
   · repeat' first | exact trivial | refine ⟨rfl, ?_⟩ | refine ⟨step_nat (by assumption) (by assumption), ?_⟩
 ·
  obtain ⟨e1, e2⟩ := hN h6
  refine W.exit (qsExit (qlExit (qbExit (qs (W.seq (W.region ?_))))))
  iterate 2 refine pE rfl ?_
  refine WO.nil (qs (W.ret ?_))
  refine QB1.end tab [] trivial rfl rfl rfl rfl ?_ ?_
  ·
   rw [← e2]
   exact ⟨rfl, trivial⟩
  rw [← e1]
  rfl
end Go.Proofs.YtifeonoehfffmaaGreatDoor
namespace Go.Proofs.YtifeonoehfffmaaGreatDoor
open Go.Ab Go.Tb
set_option maxRecDepth 10000
attribute [local irreducible] W WO Pu QS QB QL QF QV QV1 CH QE
theorem rgrp_fn (L : List Tk) (hw : Wf L) (hL : L.length ≤ 3000000) (st : PS) (h : st.1 < L.length) (hb : st.2 = false) : DoesB Tryz.prog 68 [.ptr 0 0] [bxR L st] 0 (.ag (groupP L st).1.c) [bxR L (groupP L st).2] 0 := by
 have a1 := (listP_goes hw (nameP_goes hw)).lt st h
 have hi : skB L gCol st = isT (tk0 L st) gCol := by unfold skB; rw [hb]; rfl
 have h6 := ris_sg L hw gCol rfl st h hL
 cases c0 : skB L gCol st with
 | true =>
  rw [c0] at h6
  have hc : ¬ (!st.2 && !isT (tk0 L st) gCol) = true := by rw [hb, ← hi, c0]; decide
  have hnd : needP L gCol st = adv st := by unfold needP; rw [if_pos c0]
  have l2 := skB_more hw c0 h
  rw [show groupP L st = ({ stp0 3 with aggs := (listP L (aggP L) (adv st)).1 }, (listP L (aggP L) (adv st)).2) by unfold groupP; rw [if_neg hc, hnd]]
  have hs2 := rsg_fn L hw gCol rfl st h hL
  rw [skS_yes c0, c0] at hs2
  refine DoesB.of_V tab (n := 17) (rs := [.cell 2 55]) Tryz.func68 (by kernel_rfl) rfl Tryz.ntmps68 Tryz.results68 rfl rfl fun C hC hG => ?_
  refine W.seq (W.region ?_)
  refine allocR tab rfl rfl rfl ?_
  refine WO.nil (qs (W.seq (W.region ?_)))
  refine pu (build tab rfl rfl rfl rfl) rfl ?_
  try refine nilS 4 rfl rfl rfl ?_
  refine allocR tab rfl rfl rfl ?_
  refine storeR tab rfl rfl rfl rfl rfl rfl rfl rfl ?_
  refine WO.nil (qs ?_)
  iterate 2 refine W.seq ?_
  refine W.region ?_
  refine pE rfl ?_
  refine callB [0] [] rfl rfl rfl rfl rfl (h6 ..) rfl rfl (by rfl) (by rfl) rfl rfl rfl rfl ?_
  refine pE rfl ?_
  refine WO.nil (qs ?_)
  refine condK rfl (fun h7 => ?_) (fun h7 => ?_)
  ·
   exfalso
   simp at h7
  ·
   refine W.skip (qs ?_)
   iterate 2 refine W.seq ?_
   refine W.region ?_
   refine pE rfl ?_
   refine callB [0] [] rfl rfl rfl rfl rfl (hs2 ..) rfl rfl (by rfl) (by rfl) rfl rfl rfl rfl ?_
   refine WO.nil (qs ?_)
   refine condK rfl (fun h12 => ?_) (fun h12 => ?_)
   ·
    refine W.region ?_
    refine pE rfl ?_
    refine callB [0] [] rfl rfl rfl rfl rfl ((raggr_fn L hw hL _ l2)) rfl rfl (by rfl) (by rfl) rfl rfl rfl rfl ?_
    refine pE rfl ?_
    refine storeR tab rfl rfl rfl rfl rfl rfl rfl rfl ?_
    refine WO.nil (qs (W.seq (W.region ?_)))
    first | refine pE rfl ?_ | refine pR rfl rfl rfl rfl rfl ?_ | refine pB rfl rfl rfl rfl rfl rfl ?_
    refine storeR tab rfl rfl rfl rfl rfl rfl rfl rfl ?_
    refine WO.nil (qs (W.ret ?_))
    refine QB1.end tab [] trivial rfl rfl rfl rfl ?_ ?_
    · exact ⟨rfl, trivial⟩
    rfl
   ·
    exfalso
    simp at h12
 | false =>
  rw [c0] at h6
  have hc : (!st.2 && !isT (tk0 L st) gCol) = true := by rw [hb, ← hi, c0]; rfl
  refine DoesB.of_V tab (n := 17) (rs := [.cell 2 55]) Tryz.func68 (by kernel_rfl) rfl Tryz.ntmps68 Tryz.results68 rfl rfl fun C hC hG => ?_
  refine W.seq (W.region ?_)
  refine allocR tab rfl rfl rfl ?_
  refine WO.nil (qs (W.seq (W.region ?_)))
  refine pu (build tab rfl rfl rfl rfl) rfl ?_
  try refine nilS 4 rfl rfl rfl ?_
  refine allocR tab rfl rfl rfl ?_
  refine storeR tab rfl rfl rfl rfl rfl rfl rfl rfl ?_
  refine WO.nil (qs ?_)
  iterate 2 refine W.seq ?_
  refine W.region ?_
  refine pE rfl ?_
  refine callB [0] [] rfl rfl rfl rfl rfl (h6 ..) rfl rfl (by rfl) (by rfl) rfl rfl rfl rfl ?_
  refine pE rfl ?_
  refine WO.nil (qs ?_)
  refine condK rfl (fun h7 => ?_) (fun h7 => ?_)
  ·
   refine W.region ?_
   refine pE rfl ?_
   refine callB [0] [] rfl rfl rfl rfl rfl ((rnms_fn L hw hL st h)) rfl rfl (by rfl) (by rfl) rfl rfl rfl rfl ?_
   refine pE rfl ?_
   refine storeR tab rfl rfl rfl rfl rfl rfl rfl rfl ?_
   refine WO.nil (qs ?_)
   iterate 2 refine W.seq ?_
   refine W.region ?_
   refine pE rfl ?_
   refine callB [0] [] rfl rfl rfl rfl rfl ((rsg_fn L hw gCol rfl _ a1 hL)) rfl rfl (by rfl) (by rfl) rfl rfl rfl rfl ?_
   refine WO.nil (qs ?_)
   refine condK rfl (fun h12 => ?_) (fun h12 => ?_)
   ·
    rw [skS_yes h12, show groupP L st = ({ stp0 3 with cols := (listP L (nameP L) st).1, aggs := (listP L (aggP L) (adv (listP L (nameP L) st).2)).1 }, (listP L (aggP L) (adv (listP L (nameP L) st).2)).2) by unfold groupP; rw [if_pos hc, if_pos h12]]
    refine W.region ?_
    refine pE rfl ?_
    refine callB [0] [] rfl rfl rfl rfl rfl ((raggr_fn L hw hL _ (skB_more hw h12 a1))) rfl rfl (by rfl) (by rfl) rfl rfl rfl rfl ?_
    refine pE rfl ?_
    refine storeR tab rfl rfl rfl rfl rfl rfl rfl rfl ?_
    refine WO.nil (qs (W.seq (W.region ?_)))
    first | refine pE rfl ?_ | refine pR rfl rfl rfl rfl rfl ?_ | refine pB rfl rfl rfl rfl rfl rfl ?_
    refine storeR tab rfl rfl rfl rfl rfl rfl rfl rfl ?_
    refine WO.nil (qs (W.ret ?_))
    refine QB1.end tab [] trivial rfl rfl rfl rfl ?_ ?_
    · exact ⟨rfl, trivial⟩
    rfl
   ·
    rw [skS_no h12, show groupP L st = ({ stp0 3 with cols := (listP L (nameP L) st).1 }, (listP L (nameP L) st).2) by unfold groupP; rw [if_pos hc, if_neg (by simp [h12])]]
    refine W.skip (qs (W.seq (W.region ?_)))
    first | refine pE rfl ?_ | refine pR rfl rfl rfl rfl rfl ?_ | refine pB rfl rfl rfl rfl rfl rfl ?_
    refine storeR tab rfl rfl rfl rfl rfl rfl rfl rfl ?_
    refine WO.nil (qs (W.ret ?_))
    refine QB1.end tab [] trivial rfl rfl rfl rfl ?_ ?_
    · exact ⟨rfl, trivial⟩
    rfl
  ·
   exfalso
   simp at h7
theorem rtab_fn (L : List Tk) (hw : Wf L) (hL : L.length ≤ 3000000) (op : Int) (must : Bool) (hm : must = decide (op = 6)) (st : PS) (h : st.1 < L.length) : DoesB Tryz.prog 71 [.ptr 0 0, .d (.v (.int .i64 op))] [bxR L st] 0 (.ag (withP L false op must st).1.c) [bxR L (withP L false op must st).2] 0 := by
 have a1 := (nameP_goes hw).lt st h
 have his := ris_fn L (nameP L st).2 a1 hL 1 kwOn
 rw [← skB_word hw a1 (x := kwOn) rfl] at his
 have hwd := rwd_fn L hw kwOn rfl (nameP L st).2 a1 hL
 cases q : skB L kwOn (nameP L st).2 with
 | true =>
  rw [q] at his
  rw [skS_yes q, q] at hwd
  have l2 := skB_more hw q a1
  have hbd : (nameP L st).2.2 = false := skB_good q
  have hnd : needP L kwOn (nameP L st).2 = adv (nameP L st).2 := by unfold needP; rw [if_pos q]
  have hnb : (needP L kwOn (nameP L st).2).2 = false := by rw [hnd]; exact hbd
  rw [show withP L false op must st = ({ stp0 op with table := (nameP L st).1, cols := (listP L (nameP L) (adv (nameP L st).2)).1 }, (listP L (nameP L) (adv (nameP L st).2)).2) by
   unfold withP
   cases must with
   | true => rw [if_pos rfl, if_neg (by rw [hnb]; decide), hnd]
   | false => rw [if_neg (by decide), if_pos q]]
  refine DoesB.of_V tab (n := 26) (rs := [.cell 4 55]) Tryz.func71 (by kernel_rfl) rfl Tryz.ntmps71 Tryz.results71 rfl rfl fun C hC hG => ?_
  refine W.seq (W.region ?_)
  refine allocR tab rfl rfl rfl ?_
  refine WO.nil (qs (W.seq (W.region ?_)))
  iterate 2 refine pE rfl ?_
  refine callB [0] [] rfl rfl rfl rfl rfl ((rname_fn L hw st h hL)) rfl rfl (by rfl) (by rfl) rfl rfl rfl rfl ?_
  refine pu (build tab rfl rfl rfl rfl) rfl ?_
  try refine nilS 9 rfl rfl rfl ?_
  refine allocR tab rfl rfl rfl ?_
  refine storeR tab rfl rfl rfl rfl rfl rfl rfl rfl ?_
  refine WO.nil (qs ?_)
  iterate 2 refine W.seq ?_
  refine W.region ?_
  iterate 3 refine pE rfl ?_
  refine splitG rfl rfl (fun g12 => ?_) (fun g12 => ?_)
  ·
   refine goG rfl rfl ?_
   refine pE rfl ?_
   refine goG rfl rfl ?_
   refine callB [0] [] rfl rfl rfl rfl rfl (his ..) rfl rfl (by rfl) (by rfl) rfl rfl rfl rfl ?_
   refine goG rfl rfl ?_
   iterate 2 refine pE rfl ?_
   refine WO.nil (qs ?_)
   refine condK rfl (fun h16 => ?_) (fun h16 => ?_)
   ·
    exfalso
    simp at h16
   ·
    refine W.skip (qs ?_)
    iterate 2 refine W.seq ?_
    refine W.region ?_
    refine pE rfl ?_
    refine callB [0] [] rfl rfl rfl rfl rfl (hwd ..) rfl rfl (by rfl) (by rfl) rfl rfl rfl rfl ?_
    refine WO.nil (qs ?_)
    refine condK rfl (fun h21 => ?_) (fun h21 => ?_)
    ·
     refine W.region ?_
     refine pE rfl ?_
     refine callB [0] [] rfl rfl rfl rfl rfl ((rnms_fn L hw hL _ l2)) rfl rfl (by rfl) (by rfl) rfl rfl rfl rfl ?_
     refine pE rfl ?_
     refine storeR tab rfl rfl rfl rfl rfl rfl rfl rfl ?_
     refine WO.nil (qs (W.seq (W.region ?_)))
     first | refine pE rfl ?_ | refine pR rfl rfl rfl rfl rfl ?_ | refine pB rfl rfl rfl rfl rfl rfl ?_
     refine storeR tab rfl rfl rfl rfl rfl rfl rfl rfl ?_
     refine WO.nil (qs (W.ret ?_))
     refine QB1.end tab [] trivial rfl rfl rfl rfl ?_ ?_
     · exact ⟨rfl, trivial⟩
     rfl
    ·
     exfalso
     simp at h21
  ·
   iterate 3 refine skipT rfl rfl rfl rfl ?_
   refine pE rfl ?_
   refine WO.nil (qs ?_)
   refine W.condF rfl ?_
   refine W.skip (qs ?_)
   iterate 2 refine W.seq ?_
   refine W.region ?_
   refine pE rfl ?_
   refine callB [0] [] rfl rfl rfl rfl rfl (hwd ..) rfl rfl (by rfl) (by rfl) rfl rfl rfl rfl ?_
   refine WO.nil (qs ?_)
   refine condK rfl (fun h21 => ?_) (fun h21 => ?_)
   ·
    refine W.region ?_
    refine pE rfl ?_
    refine callB [0] [] rfl rfl rfl rfl rfl ((rnms_fn L hw hL _ l2)) rfl rfl (by rfl) (by rfl) rfl rfl rfl rfl ?_
    refine pE rfl ?_
    refine storeR tab rfl rfl rfl rfl rfl rfl rfl rfl ?_
    refine WO.nil (qs (W.seq (W.region ?_)))
    first | refine pE rfl ?_ | refine pR rfl rfl rfl rfl rfl ?_ | refine pB rfl rfl rfl rfl rfl rfl ?_
    refine storeR tab rfl rfl rfl rfl rfl rfl rfl rfl ?_
    refine WO.nil (qs (W.ret ?_))
    refine QB1.end tab [] trivial rfl rfl rfl rfl ?_ ?_
    · exact ⟨rfl, trivial⟩
    rfl
   ·
    exfalso
    simp at h21
 | false =>
  rw [q] at his
  rw [skS_no q, q] at hwd
  have hnd : needP L kwOn (nameP L st).2 = failS (nameP L st).2 := by unfold needP; rw [if_neg (by simp [q])]
  have hwf := rwd_fn L hw kwOn rfl (failS (nameP L st).2) a1 hL
  have qf : skB L kwOn (failS (nameP L st).2) = false := skB_bad rfl
  rw [skS_no qf, qf] at hwf
  by_cases ho : op = 6
  ·
   have hmt : must = true := by rw [hm]; simp [ho]
   rw [show withP L false op must st = ({ stp0 op with table := (nameP L st).1 }, failS (nameP L st).2) by
    unfold withP
    rw [if_pos hmt, if_pos (by rw [hnd]), hnd]
    rfl]
   refine DoesB.of_V tab (n := 26) (rs := [.cell 4 55]) Tryz.func71 (by kernel_rfl) rfl Tryz.ntmps71 Tryz.results71 rfl rfl fun C hC hG => ?_
   refine W.seq (W.region ?_)
   refine allocR tab rfl rfl rfl ?_
   refine WO.nil (qs (W.seq (W.region ?_)))
   iterate 2 refine pE rfl ?_
   refine callB [0] [] rfl rfl rfl rfl rfl ((rname_fn L hw st h hL)) rfl rfl (by rfl) (by rfl) rfl rfl rfl rfl ?_
   refine pu (build tab rfl rfl rfl rfl) rfl ?_
   try refine nilS 9 rfl rfl rfl ?_
   refine allocR tab rfl rfl rfl ?_
   refine storeR tab rfl rfl rfl rfl rfl rfl rfl rfl ?_
   refine WO.nil (qs ?_)
   iterate 2 refine W.seq ?_
   refine W.region ?_
   iterate 3 refine pE rfl ?_
   refine splitG rfl rfl (fun g12 => ?_) (fun g12 => ?_)
   ·
    refine goG rfl rfl ?_
    refine pE rfl ?_
    refine goG rfl rfl ?_
    refine callB [0] [] rfl rfl rfl rfl rfl (his ..) rfl rfl (by rfl) (by rfl) rfl rfl rfl rfl ?_
    refine goG rfl rfl ?_
    iterate 2 refine pE rfl ?_
    refine WO.nil (qs ?_)
    refine condK rfl (fun h16 => ?_) (fun h16 => ?_)
    ·
     refine W.region ?_
     iterate 3 refine pE rfl ?_
     refine storeR tab rfl rfl rfl rfl rfl rfl rfl rfl ?_
     refine WO.nil (qs ?_)
     iterate 2 refine W.seq ?_
     refine W.region ?_
     refine pE rfl ?_
     refine callB [0] [] rfl rfl rfl rfl rfl (hwf ..) rfl rfl (by rfl) (by rfl) rfl rfl rfl rfl ?_
     refine WO.nil (qs ?_)
     refine condK rfl (fun h21 => ?_) (fun h21 => ?_)
     ·
      exfalso
      simp at h21
     ·
      refine W.skip (qs (W.seq (W.region ?_)))
      first | refine pE rfl ?_ | refine pR rfl rfl rfl rfl rfl ?_ | refine pB rfl rfl rfl rfl rfl rfl ?_
      refine storeR tab rfl rfl rfl rfl rfl rfl rfl rfl ?_
      refine WO.nil (qs (W.ret ?_))
      refine QB1.end tab [] trivial rfl rfl rfl rfl ?_ ?_
      · exact ⟨rfl, trivial⟩
      rfl
    ·
     exfalso
     simp at h16
   ·
    exfalso
    simp [ho] at g12
  ·
   have hmt : must = false := by rw [hm]; simp [ho]
   rw [show withP L false op must st = ({ stp0 op with table := (nameP L st).1 }, (nameP L st).2) by
    unfold withP
    rw [if_neg (by rw [hmt]; decide), if_neg (by simp [q])]]
   refine DoesB.of_V tab (n := 26) (rs := [.cell 4 55]) Tryz.func71 (by kernel_rfl) rfl Tryz.ntmps71 Tryz.results71 rfl rfl fun C hC hG => ?_
   refine W.seq (W.region ?_)
   refine allocR tab rfl rfl rfl ?_
   refine WO.nil (qs (W.seq (W.region ?_)))
   iterate 2 refine pE rfl ?_
   refine callB [0] [] rfl rfl rfl rfl rfl ((rname_fn L hw st h hL)) rfl rfl (by rfl) (by rfl) rfl rfl rfl rfl ?_
   refine pu (build tab rfl rfl rfl rfl) rfl ?_
   try refine nilS 9 rfl rfl rfl ?_
   refine allocR tab rfl rfl rfl ?_
   refine storeR tab rfl rfl rfl rfl rfl rfl rfl rfl ?_
   refine WO.nil (qs ?_)
   iterate 2 refine W.seq ?_
   refine W.region ?_
   iterate 3 refine pE rfl ?_
   refine splitG rfl rfl (fun g12 => ?_) (fun g12 => ?_)
   ·
    exfalso
    simp [ho] at g12
   ·
    iterate 3 refine skipT rfl rfl rfl rfl ?_
    refine pE rfl ?_
    refine WO.nil (qs ?_)
    refine W.condF rfl ?_
    refine W.skip (qs ?_)
    iterate 2 refine W.seq ?_
    refine W.region ?_
    refine pE rfl ?_
    refine callB [0] [] rfl rfl rfl rfl rfl (hwd ..) rfl rfl (by rfl) (by rfl) rfl rfl rfl rfl ?_
    refine WO.nil (qs ?_)
    refine condK rfl (fun h21 => ?_) (fun h21 => ?_)
    ·
     exfalso
     simp at h21
    ·
     refine W.skip (qs (W.seq (W.region ?_)))
     first | refine pE rfl ?_ | refine pR rfl rfl rfl rfl rfl ?_ | refine pB rfl rfl rfl rfl rfl rfl ?_
     refine storeR tab rfl rfl rfl rfl rfl rfl rfl rfl ?_
     refine WO.nil (qs (W.ret ?_))
     refine QB1.end tab [] trivial rfl rfl rfl rfl ?_ ?_
     · exact ⟨rfl, trivial⟩
     rfl
set_option maxHeartbeats 8000000 in
theorem rstp_fn (L : List Tk) (hw : Wf L) (hd : Dg L) (hL : L.length ≤ 3000000) (st : PS) (h : st.1 < L.length) : DoesB Tryz.prog 34 [.ptr 0 0] [bxR L st] 0 (.ag (stepP L false (orT false L) st).1.c) [bxR L (stepP L false (orT false L) st).2] 0 := by
 have ad : ∀ {x}, skB L x st = true → (adv st).1 < L.length := fun h1 => skB_more hw h1 h
 have gd : ∀ {x}, skB L x st = true → (adv st).2 = false := fun h1 => show st.2 = false from skB_good h1
 refine DoesB.of_V tab (n := 62) (rs := [.cell 2 55]) Tryz.func34 (by kernel_rfl) rfl Tryz.ntmps34 Tryz.results34 rfl rfl fun C hC hG => ?_
 refine W.seq (W.region ?_)
 refine allocR tab rfl rfl rfl ?_
 refine WO.nil (qs (W.seq (W.block (W.seq (W.region ?_)))))
 refine pE rfl ?_
 refine callB [0] [] rfl rfl rfl rfl rfl ((rwd_fn L hw kwWhere rfl st h hL)) rfl rfl (by rfl) (by rfl) rfl rfl rfl rfl ?_
 refine pE rfl ?_
 refine WO.nil (qs ?_)
 refine condK rfl (fun h4 => ?_) (fun h4 => ?_)
 ·
  rw [skS_yes h4, show stepP L false (orT false L) st = ({ stp0 1 with cond := (orT false L (adv st)).1 }, (orT false L (adv st)).2) by unfold stepP; rw [if_pos h4]]
  refine W.seq (W.region ?_)
  refine pE rfl ?_
  refine callB [0] [] rfl rfl rfl rfl rfl ((ror_fn' L hw hd hL _ (ad h4))) rfl rfl (by rfl) (by rfl) rfl rfl rfl rfl ?_
  refine pu (build tab rfl rfl rfl rfl) rfl ?_
  try refine nilS 9 rfl rfl rfl ?_
  refine storeR tab rfl rfl rfl rfl rfl rfl rfl rfl ?_
  refine WO.nil (qs (W.ret (qbRet (qsRet ?_))))
  refine QB1.end tab [] trivial rfl rfl rfl rfl ?_ ?_
  · exact ⟨rfl, trivial⟩
  first | rfl | (generalize orT false L (adv st) = p; rfl)
 ·
  rw [skS_no h4]
  refine W.seq (W.region ?_)
  refine pE rfl ?_
  refine callB [0] [] rfl rfl rfl rfl rfl ((rwd_fn L hw kwSelect rfl st h hL)) rfl rfl (by rfl) (by rfl) rfl rfl rfl rfl ?_
  refine pE rfl ?_
  refine WO.nil (qs ?_)
  refine condK rfl (fun h10 => ?_) (fun h10 => ?_)
  ·
   rw [skS_yes h10, show stepP L false (orT false L) st = ({ stp0 2 with items := (listP L (itemP L (orT false L)) (adv st)).1 }, (listP L (itemP L (orT false L)) (adv st)).2) by unfold stepP; rw [if_neg (by simp [h4]), if_pos h10]]
   refine W.seq (W.region ?_)
   refine pE rfl ?_
   refine callB [0] [] rfl rfl rfl rfl rfl ((ritms_fn L hw hd hL _ (ad h10))) rfl rfl (by rfl) (by rfl) rfl rfl rfl rfl ?_
   refine pu (build tab rfl rfl rfl rfl) rfl ?_
   try refine nilS 15 rfl rfl rfl ?_
   refine storeR tab rfl rfl rfl rfl rfl rfl rfl rfl ?_
   refine WO.nil (qs (W.ret (qbRet (qsRet ?_))))
   refine QB1.end tab [] trivial rfl rfl rfl rfl ?_ ?_
   · exact ⟨rfl, trivial⟩
   first | rfl | (generalize orT false L (adv st) = p; rfl)
  ·
   rw [skS_no h10]
   refine W.seq (W.region ?_)
   refine pE rfl ?_
   refine callB [0] [] rfl rfl rfl rfl rfl ((rwd_fn L hw kwGroup rfl st h hL)) rfl rfl (by rfl) (by rfl) rfl rfl rfl rfl ?_
   refine pE rfl ?_
   refine WO.nil (qs ?_)
   refine condK rfl (fun h16 => ?_) (fun h16 => ?_)
   ·
    rw [skS_yes h16, show stepP L false (orT false L) st = groupP L (adv st) by unfold stepP; rw [if_neg (by simp [h4]), if_neg (by simp [h10]), if_pos h16]]
    refine W.seq (W.region ?_)
    refine pE rfl ?_
    refine callB [0] [] rfl rfl rfl rfl rfl ((rgrp_fn L hw hL _ (ad h16) (gd h16))) rfl rfl (by rfl) (by rfl) rfl rfl rfl rfl ?_
    refine storeR tab rfl rfl rfl rfl rfl rfl rfl rfl ?_
    refine WO.nil (qs (W.ret (qbRet (qsRet ?_))))
    refine QB1.end tab [] trivial rfl rfl rfl rfl ?_ ?_
    · exact ⟨rfl, trivial⟩
    first | rfl | (generalize orT false L (adv st) = p; rfl)
   ·
    rw [skS_no h16]
    refine W.seq (W.region ?_)
    refine pE rfl ?_
    refine callB [0] [] rfl rfl rfl rfl rfl ((rwd_fn L hw kwSort rfl st h hL)) rfl rfl (by rfl) (by rfl) rfl rfl rfl rfl ?_
    refine pE rfl ?_
    refine WO.nil (qs ?_)
    refine condK rfl (fun h21 => ?_) (fun h21 => ?_)
    ·
     rw [skS_yes h21, show stepP L false (orT false L) st = ({ stp0 4 with sorts := (listP L (sortP L) (adv st)).1 }, (listP L (sortP L) (adv st)).2) by unfold stepP; rw [if_neg (by simp [h4]), if_neg (by simp [h10]), if_neg (by simp [h16]), if_pos h21]]
     refine W.seq (W.region ?_)
     refine pE rfl ?_
     refine callB [0] [] rfl rfl rfl rfl rfl ((rsrts_fn L hw hL _ (ad h21))) rfl rfl (by rfl) (by rfl) rfl rfl rfl rfl ?_
     refine pu (build tab rfl rfl rfl rfl) rfl ?_
     try refine nilS 26 rfl rfl rfl ?_
     refine storeR tab rfl rfl rfl rfl rfl rfl rfl rfl ?_
     refine WO.nil (qs (W.ret (qbRet (qsRet ?_))))
     refine QB1.end tab [] trivial rfl rfl rfl rfl ?_ ?_
     · exact ⟨rfl, trivial⟩
     first | rfl | (generalize orT false L (adv st) = p; rfl)
    ·
     rw [skS_no h21]
     refine W.seq (W.region ?_)
     refine pE rfl ?_
     refine callB [0] [] rfl rfl rfl rfl rfl ((rwd_fn L hw kwLimit rfl st h hL)) rfl rfl (by rfl) (by rfl) rfl rfl rfl rfl ?_
     refine pE rfl ?_
     refine WO.nil (qs ?_)
     refine condK rfl (fun h27 => ?_) (fun h27 => ?_)
     ·
      rw [skS_yes h27, show stepP L false (orT false L) st = ({ stp0 5 with n := (limP L (adv st)).1 }, (limP L (adv st)).2) by unfold stepP; rw [if_neg (by simp [h4]), if_neg (by simp [h10]), if_neg (by simp [h16]), if_neg (by simp [h21]), if_pos h27]]
      refine W.seq (W.region ?_)
      refine pE rfl ?_
      refine callB [0] [] rfl rfl rfl rfl rfl ((rnum_fn L hw hd _ (ad h27) hL)) rfl rfl (by rfl) (by rfl) rfl rfl rfl rfl ?_
      refine pu (build tab rfl rfl rfl rfl) rfl ?_
      try refine nilS 32 rfl rfl rfl ?_
      refine storeR tab rfl rfl rfl rfl rfl rfl rfl rfl ?_
      refine WO.nil (qs (W.ret (qbRet (qsRet ?_))))
      refine QB1.end tab [] trivial rfl rfl rfl rfl ?_ ?_
      · exact ⟨rfl, trivial⟩
      first | rfl | (generalize orT false L (adv st) = p; rfl)
     ·
      rw [skS_no h27]
      refine W.seq (W.region ?_)
      refine pE rfl ?_
      refine callB [0] [] rfl rfl rfl rfl rfl ((rwd_fn L hw kwJoin rfl st h hL)) rfl rfl (by rfl) (by rfl) rfl rfl rfl rfl ?_
      refine pE rfl ?_
      refine WO.nil (qs ?_)
      refine condK rfl (fun h33 => ?_) (fun h33 => ?_)
      ·
       rw [skS_yes h33, show stepP L false (orT false L) st = withP L false 6 true (adv st) by unfold stepP; rw [if_neg (by simp [h4]), if_neg (by simp [h10]), if_neg (by simp [h16]), if_neg (by simp [h21]), if_neg (by simp [h27]), if_pos h33]]
       refine W.seq (W.region ?_)
       refine pE rfl ?_
       refine callB [0] [] rfl rfl rfl rfl rfl ((rtab_fn L hw hL 6 true rfl _ (ad h33))) rfl rfl (by rfl) (by rfl) rfl rfl rfl rfl ?_
       refine storeR tab rfl rfl rfl rfl rfl rfl rfl rfl ?_
       refine WO.nil (qs (W.ret (qbRet (qsRet ?_))))
       refine QB1.end tab [] trivial rfl rfl rfl rfl ?_ ?_
       · exact ⟨rfl, trivial⟩
       first | rfl | (generalize orT false L (adv st) = p; rfl)
      ·
       rw [skS_no h33]
       refine W.seq (W.region ?_)
       refine pE rfl ?_
       refine callB [0] [] rfl rfl rfl rfl rfl ((rwd_fn L hw kwOverlap rfl st h hL)) rfl rfl (by rfl) (by rfl) rfl rfl rfl rfl ?_
       refine pE rfl ?_
       refine WO.nil (qs ?_)
       refine condK rfl (fun h38 => ?_) (fun h38 => ?_)
       ·
        rw [skS_yes h38, show stepP L false (orT false L) st = withP L false 7 false (adv st) by unfold stepP; rw [if_neg (by simp [h4]), if_neg (by simp [h10]), if_neg (by simp [h16]), if_neg (by simp [h21]), if_neg (by simp [h27]), if_neg (by simp [h33]), if_pos h38]]
        refine W.seq (W.region ?_)
        refine pE rfl ?_
        refine callB [0] [] rfl rfl rfl rfl rfl ((rtab_fn L hw hL 7 false rfl _ (ad h38))) rfl rfl (by rfl) (by rfl) rfl rfl rfl rfl ?_
        refine storeR tab rfl rfl rfl rfl rfl rfl rfl rfl ?_
        refine WO.nil (qs (W.ret (qbRet (qsRet ?_))))
        refine QB1.end tab [] trivial rfl rfl rfl rfl ?_ ?_
        · exact ⟨rfl, trivial⟩
        first | rfl | (generalize orT false L (adv st) = p; rfl)
       ·
        rw [skS_no h38]
        refine W.seq (W.region ?_)
        refine pE rfl ?_
        refine callB [0] [] rfl rfl rfl rfl rfl ((rwd_fn L hw kwNearest rfl st h hL)) rfl rfl (by rfl) (by rfl) rfl rfl rfl rfl ?_
        refine pE rfl ?_
        refine WO.nil (qs ?_)
        refine condK rfl (fun h43 => ?_) (fun h43 => ?_)
        ·
         rw [skS_yes h43, show stepP L false (orT false L) st = withP L false 8 false (adv st) by unfold stepP; rw [if_neg (by simp [h4]), if_neg (by simp [h10]), if_neg (by simp [h16]), if_neg (by simp [h21]), if_neg (by simp [h27]), if_neg (by simp [h33]), if_neg (by simp [h38]), if_pos h43]]
         refine W.seq (W.region ?_)
         refine pE rfl ?_
         refine callB [0] [] rfl rfl rfl rfl rfl ((rtab_fn L hw hL 8 false rfl _ (ad h43))) rfl rfl (by rfl) (by rfl) rfl rfl rfl rfl ?_
         refine storeR tab rfl rfl rfl rfl rfl rfl rfl rfl ?_
         refine WO.nil (qs (W.ret (qbRet (qsRet ?_))))
         refine QB1.end tab [] trivial rfl rfl rfl rfl ?_ ?_
         · exact ⟨rfl, trivial⟩
         first | rfl | (generalize orT false L (adv st) = p; rfl)
        ·
         rw [skS_no h43]
         refine W.seq (W.region ?_)
         refine pE rfl ?_
         refine callB [0] [] rfl rfl rfl rfl rfl ((rwd_fn L hw kwCoal rfl st h hL)) rfl rfl (by rfl) (by rfl) rfl rfl rfl rfl ?_
         refine pE rfl ?_
         refine WO.nil (qs ?_)
         refine condK rfl (fun h48 => ?_) (fun h48 => ?_)
         ·
          rw [skS_yes h48, show stepP L false (orT false L) st = coalP L (adv st) by unfold stepP; rw [if_neg (by simp [h4]), if_neg (by simp [h10]), if_neg (by simp [h16]), if_neg (by simp [h21]), if_neg (by simp [h27]), if_neg (by simp [h33]), if_neg (by simp [h38]), if_neg (by simp [h43]), if_pos h48]]
          refine W.seq (W.region ?_)
          refine pu (build tab rfl rfl rfl rfl) rfl ?_
          try refine nilS 51 rfl rfl rfl ?_
          refine allocR tab rfl rfl rfl ?_
          refine storeR tab rfl rfl rfl rfl rfl rfl rfl rfl ?_
          refine WO.nil (qs ?_)
          iterate 2 refine W.seq ?_
          refine W.region ?_
          refine pE rfl ?_
          refine callB [0] [] rfl rfl rfl rfl rfl ((rnamed_fn L hw _ (ad h48) hL)) rfl rfl (by rfl) (by rfl) rfl rfl rfl rfl ?_
          refine WO.nil (qs ?_)
          refine condK rfl (fun h53 => ?_) (fun h53 => ?_)
          ·
           rw [show coalP L (adv st) = ({ stp0 9 with cols := (listP L (nameP L) (adv st)).1 }, (listP L (nameP L) (adv st)).2) by unfold coalP; rw [if_pos h53]]
           refine W.region ?_
           refine pE rfl ?_
           refine callB [0] [] rfl rfl rfl rfl rfl ((rnms_fn L hw hL _ (ad h48))) rfl rfl (by rfl) (by rfl) rfl rfl rfl rfl ?_
           refine pE rfl ?_
           refine storeR tab rfl rfl rfl rfl rfl rfl rfl rfl ?_
           refine WO.nil (qs (W.seq (W.region ?_)))
           first | refine pE rfl ?_ | refine pR rfl rfl rfl rfl rfl ?_ | refine pB rfl rfl rfl rfl rfl rfl ?_
           refine storeR tab rfl rfl rfl rfl rfl rfl rfl rfl ?_
           refine WO.nil (qs (W.ret (qbRet (qsRet ?_))))
           refine QB1.end tab [] trivial rfl rfl rfl rfl ?_ ?_
           · exact ⟨rfl, trivial⟩
           first | rfl | (generalize orT false L (adv st) = p; rfl)
          ·
           rw [show coalP L (adv st) = (stp0 9, adv st) by unfold coalP; rw [if_neg (by simp [h53])]]
           refine W.skip (qs (W.seq (W.region ?_)))
           first | refine pE rfl ?_ | refine pR rfl rfl rfl rfl rfl ?_ | refine pB rfl rfl rfl rfl rfl rfl ?_
           refine storeR tab rfl rfl rfl rfl rfl rfl rfl rfl ?_
           refine WO.nil (qs (W.ret (qbRet (qsRet ?_))))
           refine QB1.end tab [] trivial rfl rfl rfl rfl ?_ ?_
           · exact ⟨rfl, trivial⟩
           first | rfl | (generalize orT false L (adv st) = p; rfl)
         ·
          rw [skS_no h48, show stepP L false (orT false L) st = (stp0 0, failS st) by unfold stepP; rw [if_neg (by simp [h4]), if_neg (by simp [h10]), if_neg (by simp [h16]), if_neg (by simp [h21]), if_neg (by simp [h27]), if_neg (by simp [h33]), if_neg (by simp [h38]), if_neg (by simp [h43]), if_neg (by simp [h48])]]
          refine W.skip (qbN (qs (W.seq (W.region ?_))))
          iterate 3 refine pE rfl ?_
          refine storeR tab rfl rfl rfl rfl rfl rfl rfl rfl ?_
          refine WO.nil (qs (W.seq (W.region ?_)))
          refine pu (build tab rfl rfl rfl rfl) rfl ?_
          try refine nilS 61 rfl rfl rfl ?_
          refine storeR tab rfl rfl rfl rfl rfl rfl rfl rfl ?_
          refine WO.nil (qs (W.ret ?_))
          refine QB1.end tab [] trivial rfl rfl rfl rfl ?_ ?_
          · exact ⟨rfl, trivial⟩
          first | rfl | (generalize orT false L (adv st) = p; rfl)
end Go.Proofs.YtifeonoehfffmaaGreatDoor
namespace Go.Proofs.YtifeonoehfffmaaGreatDoor
open Go.Ab Go.Tb
set_option maxRecDepth 10000
attribute [local irreducible] W WO Pu QS QB QL QF QV QV1 CH QE
def fewB (s : Stp) : Prop := s.items.length ≤ 100000 ∧ s.cols.length ≤ 100000 ∧ s.aggs.length ≤ 100000 ∧ s.sorts.length ≤ 100000
theorem rgroupsB_fn (s : Stp) (hf : fewB s) : Does Tryz.prog 83 [.ag s.c] (.d (.v (.int .i64 (groupsR s)))) 0 := by
 obtain ⟨hf1, hf2, hf3, hf4⟩ := hf
 refine Does.of_W (n := 83) (ts := [2]) Tryz.func83 (by kernel_rfl) rfl Tryz.ntmps83 Tryz.results83 rfl rfl fun C hC hG => ?_
 refine W.seq (W.region ?_)
 refine boxR rfl rfl rfl ?_
 refine pE rfl ?_
 refine WO.nil (qs (W.seq (W.region ?_)))
 refine pE rfl ?_
 first | refine pE rfl ?_ | refine pR rfl rfl rfl rfl rfl ?_ | refine pB rfl rfl rfl rfl rfl rfl ?_
 refine pu (puCall rfl rfl rfl (rnames_fn s.cols) rfl) rfl ?_
 refine pE rfl ?_
 refine WO.nil (qs (W.seq (W.region ?_)))
 refine buildO tab rfl rfl rfl rfl rfl rfl rfl rfl (by rfl) ?_
 refine pE rfl ?_
 first | refine pE rfl ?_ | refine pR rfl rfl rfl rfl rfl ?_ | refine pB rfl rfl rfl rfl rfl rfl ?_
 refine appendMs (l := []) (fn := sc) tab rfl rfl rfl rfl rfl rfl rfl rfl rfl rfl (fun _ => rfl) (by show (0 + s.cols.length) * 16 ≤ _; omega) ?_
 refine pE rfl ?_
 refine WO.nil (qs ?_)
 iterate 2 refine W.seq ?_
 refine W.region ?_
 refine pE rfl ?_
 refine WO.nil (qs (W.block ?_))
 have hlen : s.aggs.length ≤ maxLen := by simp [maxLen]; omega
 refine W.loopR (ι := {x : Nat × List ByteArray × Int // match x with | (k, ns, y) => k ≤ s.aggs.length ∧ (if y ≠ 0 then y else aggErr ns (s.aggs.drop k)) = groupsR s ∧ y = allErr [] ns ∧ ns.length ≤ 100000 + k})
  (fun x => match x.1 with | (k, ns, y) => [(1, .ptr 0 0), (3, .d (.v (.int .i64 (y)))), (4, .own 1 (ns.map sc)), (5, .d (.v (.int .i64 ((k : Nat) : Int))))]) []
  (fun x => match x.1 with | (k, ns, y) => []) [(0, _)] [1] 2 (fun x => match x.1 with | (k, ns, y) => s.aggs.length - k)
  [0, 2] ⟨(0, s.cols, allErr [] s.cols), ?_⟩ rfl ?_ trivial ?_ ⟨rfl, rfl, trivial⟩ rfl ?_
 · exact ⟨Nat.zero_le _, rfl, rfl, by omega⟩
 · repeat' first | exact trivial | refine ⟨rfl, ?_⟩ | refine ⟨step_nat (by assumption) (by assumption), ?_⟩
 · repeat' first | exact trivial | refine ⟨rfl, ?_⟩ | refine ⟨step_nat (by assumption) (by assumption), ?_⟩
 rintro ⟨⟨k, ns, y⟩, hk, hI, hY, hL⟩
 show W _ _ _ _ _ ⟨[(1, .ptr 0 0), (3, .d (.v (.int .i64 (y)))), (4, .own 1 (ns.map sc)), (5, .d (.v (.int .i64 ((k : Nat) : Int))))], [(0, _)], [1], 2⟩
 iterate 2 refine W.seq ?_
 apply regionB; (case hb => rfl)
 ·
  iterate 2 refine pE rfl ?_
  first | refine pE rfl ?_ | refine pR rfl rfl rfl rfl rfl ?_ | refine pB rfl rfl rfl rfl rfl rfl ?_
  iterate 3 refine pE rfl ?_
  apply splitJ; (case hj => rfl); (case hl => rfl)
  ·
   refine goG rfl rfl ?_
   refine pE rfl ?_
   refine goG rfl rfl ?_
   iterate 2 refine pE rfl ?_
   refine WO.nil ?_
   refine qv1 rfl rfl rfl
  ·
   iterate 2 refine skipT rfl rfl rfl rfl ?_
   refine pE rfl ?_
   refine WO.nil ?_
   refine qv1 rfl rfl rfl
 refine qs ?_
 refine condK rfl (fun h23 => ?_) (fun h23 => ?_)
 ·
  have h23' : k < s.aggs.length ∧ y = 0 := by revert h23; simp only [List.length_map]; by_cases q : (k : Int) < s.aggs.length <;> simp [q]; omega
  obtain ⟨hlt, rfl⟩ := h23'
  obtain ⟨a, hx, hd⟩ := exAt hlt
  rw [hd, if_neg (by decide)] at hI
  simp only [aggErr] at hI
  have hA : allErr [] (ns ++ [a.name]) = addErr ns a.name := allErr_append [] ns a.name hY.symm
  refine W.skip (qs (W.seq (W.block (W.seq (W.region ?_)))))
  refine pE rfl ?_
  first | refine pE rfl ?_ | refine pR rfl rfl rfl rfl rfl ?_ | refine pB rfl rfl rfl rfl rfl rfl ?_
  refine pE rfl ?_
  refine pu (indexAddr tab rfl rfl rfl rfl rfl rfl (Int.natCast_nonneg _) (idx_map hx) rfl) rfl ?_
  first | refine pE rfl ?_ | refine pR rfl rfl rfl rfl rfl ?_ | refine pB rfl rfl rfl rfl rfl rfl ?_
  refine allocR tab rfl rfl rfl ?_
  refine storeR tab rfl rfl rfl rfl rfl rfl rfl rfl ?_
  refine WO.nil (qs (W.seq ?_))
  apply regionB; (case hb => rfl)
  ·
   refine pE rfl ?_
   first | refine pE rfl ?_ | refine pR rfl rfl rfl rfl rfl ?_ | refine pB rfl rfl rfl rfl rfl rfl ?_
   iterate 2 refine pE rfl ?_
   apply splitJ; (case hj => rfl); (case hl => rfl)
   ·
    iterate 3 refine skipT rfl rfl rfl rfl ?_
    iterate 2 refine pE rfl ?_
    iterate 3 refine skipT rfl rfl rfl rfl ?_
    iterate 2 refine pE rfl ?_
    iterate 3 refine skipT rfl rfl rfl rfl ?_
    iterate 2 refine pE rfl ?_
    refine WO.nil ?_
    refine qv1 rfl rfl rfl
   ·
    refine goG rfl rfl ?_
    refine pE rfl ?_
    refine goG rfl rfl ?_
    first | refine pE rfl ?_ | refine pR rfl rfl rfl rfl rfl ?_ | refine pB rfl rfl rfl rfl rfl rfl ?_
    refine goG rfl rfl ?_
    iterate 3 refine pE rfl ?_
    apply splitJ; (case hj => rfl); (case hl => rfl)
    ·
     iterate 3 refine skipT rfl rfl rfl rfl ?_
     iterate 2 refine pE rfl ?_
     iterate 3 refine skipT rfl rfl rfl rfl ?_
     iterate 2 refine pE rfl ?_
     refine WO.nil ?_
     refine qv1 rfl rfl rfl
    ·
     refine goG rfl rfl ?_
     refine pE rfl ?_
     refine goG rfl rfl ?_
     first | refine pE rfl ?_ | refine pR rfl rfl rfl rfl rfl ?_ | refine pB rfl rfl rfl rfl rfl rfl ?_
     refine goG rfl rfl ?_
     iterate 3 refine pE rfl ?_
     apply splitJ; (case hj => rfl); (case hl => rfl)
     ·
      iterate 3 refine skipT rfl rfl rfl rfl ?_
      iterate 2 refine pE rfl ?_
      refine WO.nil ?_
      refine qv1 rfl rfl rfl
     ·
      refine goG rfl rfl ?_
      refine pE rfl ?_
      refine goG rfl rfl ?_
      first | refine pE rfl ?_ | refine pR rfl rfl rfl rfl rfl ?_ | refine pB rfl rfl rfl rfl rfl rfl ?_
      refine goG rfl rfl ?_
      iterate 3 refine pE rfl ?_
      refine WO.nil ?_
      refine qv1 rfl rfl rfl
  refine qs ?_
  iterate 2 refine W.seq ?_
  apply regionB; (case hb => rfl)
  ·
   refine pE rfl ?_
   first | refine pE rfl ?_ | refine pR rfl rfl rfl rfl rfl ?_ | refine pB rfl rfl rfl rfl rfl rfl ?_
   iterate 2 refine pE rfl ?_
   apply splitJ; (case hj => rfl); (case hl => rfl)
   ·
    iterate 3 refine skipT rfl rfl rfl rfl ?_
    iterate 2 refine pE rfl ?_
    refine goG rfl rfl ?_
    refine pE rfl ?_
    refine goG rfl rfl ?_
    refine pE rfl ?_
    refine goG rfl rfl ?_
    refine pE rfl ?_
    apply splitJ; (case hj => rfl); (case hl => rfl)
    ·
     iterate 3 refine skipT rfl rfl rfl rfl ?_
     refine goG rfl rfl ?_
     iterate 2 refine pE rfl ?_
     refine WO.nil ?_
     refine qv1 rfl rfl rfl
    ·
     refine goG rfl rfl ?_
     refine pE rfl ?_
     refine goG rfl rfl ?_
     first | refine pE rfl ?_ | refine pR rfl rfl rfl rfl rfl ?_ | refine pB rfl rfl rfl rfl rfl rfl ?_
     refine goG rfl rfl ?_
     refine pE rfl ?_
     refine goG rfl rfl ?_
     iterate 2 refine pE rfl ?_
     refine WO.nil ?_
     refine qv1 rfl rfl rfl
   ·
    refine goG rfl rfl ?_
    refine pE rfl ?_
    refine goG rfl rfl ?_
    first | refine pE rfl ?_ | refine pR rfl rfl rfl rfl rfl ?_ | refine pB rfl rfl rfl rfl rfl rfl ?_
    refine goG rfl rfl ?_
    iterate 3 refine pE rfl ?_
    apply splitJ; (case hj => rfl); (case hl => rfl)
    ·
     refine goG rfl rfl ?_
     refine pE rfl ?_
     refine goG rfl rfl ?_
     refine pE rfl ?_
     refine goG rfl rfl ?_
     refine pE rfl ?_
     apply splitJ; (case hj => rfl); (case hl => rfl)
     ·
      iterate 3 refine skipT rfl rfl rfl rfl ?_
      refine goG rfl rfl ?_
      iterate 2 refine pE rfl ?_
      refine WO.nil ?_
      refine qv1 rfl rfl rfl
     ·
      refine goG rfl rfl ?_
      refine pE rfl ?_
      refine goG rfl rfl ?_
      first | refine pE rfl ?_ | refine pR rfl rfl rfl rfl rfl ?_ | refine pB rfl rfl rfl rfl rfl rfl ?_
      refine goG rfl rfl ?_
      refine pE rfl ?_
      refine goG rfl rfl ?_
      iterate 2 refine pE rfl ?_
      refine WO.nil ?_
      refine qv1 rfl rfl rfl
    ·
     iterate 3 refine skipT rfl rfl rfl rfl ?_
     iterate 3 refine skipU rfl rfl rfl ?_
     refine skipT rfl rfl rfl rfl ?_
     refine pE rfl ?_
     refine WO.nil ?_
     refine qv1 rfl rfl rfl
  refine qs ?_
  refine condK rfl (fun h65 => ?_) (fun h65 => ?_)
  ·
   have h65 : badAgg a = true := by revert h65; simp only [badAgg, knownAgg, wCount, wSum, wMin, wMax, wFirst]; by_cases q : a.fn = B #[99, 111, 117, 110, 116] <;> by_cases q2 : a.col = B #[] <;> simp [q, q2] <;> grind
   rw [if_pos h65] at hI
   refine W.seq (W.region ?_)
   refine pE rfl ?_
   refine WO.nil (qs (W.ret (qsRet (qbRet (qsRet (qlRet (qbRet (qsRet ?_))))))))
   refine QF.ret0 trivial rfl ?_
   rw [← hI]; rfl
  ·
   have h65 : ¬ (badAgg a = true) := by revert h65; simp only [badAgg, knownAgg, wCount, wSum, wMin, wMax, wFirst]; by_cases q : a.fn = B #[99, 111, 117, 110, 116] <;> by_cases q2 : a.col = B #[] <;> simp [q, q2] <;> grind
   rw [if_neg h65] at hI
   refine W.skip (qs ?_)
   iterate 2 refine W.seq ?_
   apply regionB; (case hb => rfl)
   ·
    refine pE rfl ?_
    first | refine pE rfl ?_ | refine pR rfl rfl rfl rfl rfl ?_ | refine pB rfl rfl rfl rfl rfl rfl ?_
    iterate 2 refine pE rfl ?_
    apply splitJ; (case hj => rfl); (case hl => rfl)
    ·
     refine goG rfl rfl ?_
     refine pE rfl ?_
     refine goG rfl rfl ?_
     first | refine pE rfl ?_ | refine pR rfl rfl rfl rfl rfl ?_ | refine pB rfl rfl rfl rfl rfl rfl ?_
     refine goG rfl rfl ?_
     refine pu (puCall rfl rfl rfl (ident_fn ..) rfl) rfl ?_
     refine goG rfl rfl ?_
     iterate 2 refine pE rfl ?_
     refine WO.nil ?_
     refine qv1 rfl rfl rfl
    ·
     iterate 4 refine skipT rfl rfl rfl rfl ?_
     refine pE rfl ?_
     refine WO.nil ?_
     refine qv1 rfl rfl rfl
   refine qs ?_
   refine condK rfl (fun h74 => ?_) (fun h74 => ?_)
   ·
    have h74 : a.col ≠ B #[] ∧ identB a.col = false := by revert h74; by_cases q2 : a.col = B #[] <;> simp [q2]
    rw [if_pos h74] at hI
    refine W.seq (W.region ?_)
    refine pE rfl ?_
    refine WO.nil (qs (W.ret (qsRet (qbRet (qsRet (qlRet (qbRet (qsRet ?_))))))))
    refine QF.ret0 trivial rfl ?_
    rw [← hI]; rfl
   ·
    have h74 : ¬ (a.col ≠ B #[] ∧ identB a.col = false) := by revert h74; by_cases q2 : a.col = B #[] <;> simp [q2]
    rw [if_neg h74] at hI
    refine W.skip (qs (W.seq (W.region ?_)))
    iterate 2 refine pE rfl ?_
    first | refine pE rfl ?_ | refine pR rfl rfl rfl rfl rfl ?_ | refine pB rfl rfl rfl rfl rfl rfl ?_
    refine pu (buildV tab rfl rfl rfl rfl rfl rfl rfl rfl rfl) rfl ?_
    refine appendM (a := a.name) tab rfl rfl rfl rfl rfl rfl rfl rfl rfl rfl (fun _ => rfl) (by show (ns.length + 1) * 16 ≤ _; omega) ?_
    refine pE rfl ?_
    refine WO.nil (qs (W.region ?_))
    refine pE rfl ?_
    refine pu (puCall rfl rfl rfl (rnames_fn (ns ++ [a.name])) rfl) rfl ?_
    refine pE rfl ?_
    refine WO.nil (qbN (qs (W.region ?_)))
    iterate 3 refine pE rfl ?_
    refine WO.nil ?_
    refine W.endR [0, 3] ⟨(k + 1, ns ++ [a.name], allErr [] (ns ++ [a.name])), ?_⟩ ?_ rfl ?_ trivial ?_ ⟨rfl, rfl, trivial⟩ rfl
    ·
     refine ⟨hlt, ?_, rfl, by simp; omega⟩
     simp only [hA]
     exact hI
    · dsimp only; omega
    · repeat' first | exact trivial | refine ⟨rfl, ?_⟩ | refine ⟨step_nat (by assumption) (by assumption), ?_⟩
    · repeat' first | exact trivial | refine ⟨rfl, ?_⟩ | refine ⟨step_nat (by assumption) (by assumption), ?_⟩
 ·
  have h23' : k < s.aggs.length → y ≠ 0 := by
   intro hk2 hy
   have hk3 : (k : Int) < s.aggs.length := by omega
   simp [hk3, hy] at h23
  have hR : groupsR s = y := by
   rw [← hI]
   by_cases hy : y = 0
   ·
    have hk2 : ¬ k < s.aggs.length := fun h => h23' h hy
    rw [if_neg (by simp [hy]), dropEnd (by omega)]
    simp [aggErr, hy]
   · rw [if_pos hy]
  refine W.exit (qsExit (qlExit (qbExit (qs (W.seq (W.region ?_))))))
  iterate 2 refine pE rfl ?_
  refine WO.nil (qs (W.ret ?_))
  refine QF.ret0 trivial rfl ?_
  rw [hR]; rfl
theorem wrap_sum {a b : Nat} (ha : a ≤ maxLen) (hb : b ≤ maxLen) : (IntKind.i64.wrap ((a : Int) + (b : Int)) = 0) ↔ a + b = 0 := by
 simp only [maxLen] at ha hb
 have e : IntKind.i64.wrap ((a : Int) + (b : Int)) = if (9223372036854775808 : Int) ≤ ((a : Int) + (b : Int)) % 18446744073709551616 then ((a : Int) + (b : Int)) % 18446744073709551616 - 18446744073709551616 else ((a : Int) + (b : Int)) % 18446744073709551616 := by
  simp [IntKind.wrap, IntKind.signed, IntKind.bits]
 rw [e]
 split <;> omega
theorem rsizesB_fn (s : Stp) : Does Tryz.prog 81 [.ag s.c] (.d (.v (.int .i64 (sizesE s)))) 0 := by
 refine Does.of_W (n := 73) (ts := [2]) Tryz.func81 (by kernel_rfl) rfl Tryz.ntmps81 Tryz.results81 rfl rfl fun C hC hG => ?_
 refine W.seq (W.region ?_)
 refine boxR rfl rfl rfl ?_
 refine pE rfl ?_
 refine WO.nil (qs (W.seq ?_))
 refine lenBox (g := 0) (j := 8) rfl rfl (fun hl1 => ?_)
 refine lenBox (g := 0) (j := 9) rfl rfl (fun hl2 => ?_)
 have hw := wrap_sum (a := s.cols.length) (b := s.aggs.length) (by simpa using hl1) (by simpa using hl2)
 apply regionB; (case hb => rfl)
 ·
  refine pE rfl ?_
  first | refine pE rfl ?_ | refine pR rfl rfl rfl rfl rfl ?_ | refine pB rfl rfl rfl rfl rfl rfl ?_
  iterate 2 refine pE rfl ?_
  apply splitJ; (case hj => rfl); (case hl => rfl)
  ·
   refine goG rfl rfl ?_
   refine pE rfl ?_
   refine goG rfl rfl ?_
   first | refine pE rfl ?_ | refine pR rfl rfl rfl rfl rfl ?_ | refine pB rfl rfl rfl rfl rfl rfl ?_
   refine goG rfl rfl ?_
   refine pE rfl ?_
   refine goG rfl rfl ?_
   iterate 3 refine pE rfl ?_
   apply splitJ; (case hj => rfl); (case hl => rfl)
   ·
    iterate 4 refine skipT rfl rfl rfl rfl ?_
    iterate 8 refine skipU rfl rfl rfl ?_
    refine skipT rfl rfl rfl rfl ?_
    iterate 2 refine pE rfl ?_
    iterate 4 refine skipT rfl rfl rfl rfl ?_
    iterate 4 refine skipU rfl rfl rfl ?_
    refine skipT rfl rfl rfl rfl ?_
    iterate 2 refine pE rfl ?_
    iterate 4 refine skipT rfl rfl rfl rfl ?_
    iterate 4 refine skipU rfl rfl rfl ?_
    refine skipT rfl rfl rfl rfl ?_
    iterate 2 refine pE rfl ?_
    refine WO.nil ?_
    refine qv1 rfl rfl rfl
   ·
    refine goG rfl rfl ?_
    refine pE rfl ?_
    refine goG rfl rfl ?_
    first | refine pE rfl ?_ | refine pR rfl rfl rfl rfl rfl ?_ | refine pB rfl rfl rfl rfl rfl rfl ?_
    refine goG rfl rfl ?_
    refine pE rfl ?_
    refine goG rfl rfl ?_
    refine pE rfl ?_
    apply splitJ; (case hj => rfl); (case hl => rfl)
    ·
     refine goG rfl rfl ?_
     refine pE rfl ?_
     refine goG rfl rfl ?_
     first | refine pE rfl ?_ | refine pR rfl rfl rfl rfl rfl ?_ | refine pB rfl rfl rfl rfl rfl rfl ?_
     refine goG rfl rfl ?_
     refine pE rfl ?_
     refine goG rfl rfl ?_
     refine pE rfl ?_
     refine goG rfl rfl ?_
     first | refine pE rfl ?_ | refine pR rfl rfl rfl rfl rfl ?_ | refine pB rfl rfl rfl rfl rfl rfl ?_
     refine goG rfl rfl ?_
     refine pE rfl ?_
     refine goG rfl rfl ?_
     refine pE rfl ?_
     refine goG rfl rfl ?_
     refine pE rfl ?_
     refine goG rfl rfl ?_
     iterate 3 refine pE rfl ?_
     apply splitJ; (case hj => rfl); (case hl => rfl)
     ·
      iterate 4 refine skipT rfl rfl rfl rfl ?_
      iterate 4 refine skipU rfl rfl rfl ?_
      refine skipT rfl rfl rfl rfl ?_
      iterate 2 refine pE rfl ?_
      iterate 4 refine skipT rfl rfl rfl rfl ?_
      iterate 4 refine skipU rfl rfl rfl ?_
      refine skipT rfl rfl rfl rfl ?_
      iterate 2 refine pE rfl ?_
      refine WO.nil ?_
      refine qv1 rfl rfl rfl
     ·
      refine goG rfl rfl ?_
      refine pE rfl ?_
      refine goG rfl rfl ?_
      first | refine pE rfl ?_ | refine pR rfl rfl rfl rfl rfl ?_ | refine pB rfl rfl rfl rfl rfl rfl ?_
      refine goG rfl rfl ?_
      refine pE rfl ?_
      refine goG rfl rfl ?_
      refine pE rfl ?_
      apply splitJ; (case hj => rfl); (case hl => rfl)
      ·
       refine goG rfl rfl ?_
       refine pE rfl ?_
       refine goG rfl rfl ?_
       first | refine pE rfl ?_ | refine pR rfl rfl rfl rfl rfl ?_ | refine pB rfl rfl rfl rfl rfl rfl ?_
       refine goG rfl rfl ?_
       refine pE rfl ?_
       refine goG rfl rfl ?_
       refine pE rfl ?_
       refine goG rfl rfl ?_
       iterate 3 refine pE rfl ?_
       apply splitJ; (case hj => rfl); (case hl => rfl)
       ·
        iterate 4 refine skipT rfl rfl rfl rfl ?_
        iterate 4 refine skipU rfl rfl rfl ?_
        refine skipT rfl rfl rfl rfl ?_
        iterate 2 refine pE rfl ?_
        refine WO.nil ?_
        refine qv1 rfl rfl rfl
       ·
        refine goG rfl rfl ?_
        refine pE rfl ?_
        refine goG rfl rfl ?_
        first | refine pE rfl ?_ | refine pR rfl rfl rfl rfl rfl ?_ | refine pB rfl rfl rfl rfl rfl rfl ?_
        refine goG rfl rfl ?_
        refine pE rfl ?_
        refine goG rfl rfl ?_
        refine pE rfl ?_
        apply splitJ; (case hj => rfl); (case hl => rfl)
        ·
         refine goG rfl rfl ?_
         refine pE rfl ?_
         refine goG rfl rfl ?_
         first | refine pE rfl ?_ | refine pR rfl rfl rfl rfl rfl ?_ | refine pB rfl rfl rfl rfl rfl rfl ?_
         refine goG rfl rfl ?_
         refine pE rfl ?_
         refine goG rfl rfl ?_
         refine pE rfl ?_
         refine goG rfl rfl ?_
         iterate 3 refine pE rfl ?_
         refine WO.nil ?_
         refine qv1 rfl rfl rfl
        ·
         iterate 4 refine skipT rfl rfl rfl rfl ?_
         refine goG rfl rfl ?_
         iterate 3 refine pE rfl ?_
         refine WO.nil ?_
         refine qv1 rfl rfl rfl
      ·
       iterate 4 refine skipT rfl rfl rfl rfl ?_
       refine goG rfl rfl ?_
       iterate 3 refine pE rfl ?_
       refine goG rfl rfl ?_
       refine pE rfl ?_
       refine goG rfl rfl ?_
       first | refine pE rfl ?_ | refine pR rfl rfl rfl rfl rfl ?_ | refine pB rfl rfl rfl rfl rfl rfl ?_
       refine goG rfl rfl ?_
       refine pE rfl ?_
       refine goG rfl rfl ?_
       refine pE rfl ?_
       apply splitJ; (case hj => rfl); (case hl => rfl)
       ·
        refine goG rfl rfl ?_
        refine pE rfl ?_
        refine goG rfl rfl ?_
        first | refine pE rfl ?_ | refine pR rfl rfl rfl rfl rfl ?_ | refine pB rfl rfl rfl rfl rfl rfl ?_
        refine goG rfl rfl ?_
        refine pE rfl ?_
        refine goG rfl rfl ?_
        refine pE rfl ?_
        refine goG rfl rfl ?_
        iterate 3 refine pE rfl ?_
        refine WO.nil ?_
        refine qv1 rfl rfl rfl
       ·
        iterate 4 refine skipT rfl rfl rfl rfl ?_
        refine goG rfl rfl ?_
        iterate 3 refine pE rfl ?_
        refine WO.nil ?_
        refine qv1 rfl rfl rfl
    ·
     iterate 8 refine skipT rfl rfl rfl rfl ?_
     refine goG rfl rfl ?_
     iterate 3 refine pE rfl ?_
     refine goG rfl rfl ?_
     refine pE rfl ?_
     refine goG rfl rfl ?_
     first | refine pE rfl ?_ | refine pR rfl rfl rfl rfl rfl ?_ | refine pB rfl rfl rfl rfl rfl rfl ?_
     refine goG rfl rfl ?_
     refine pE rfl ?_
     refine goG rfl rfl ?_
     refine pE rfl ?_
     apply splitJ; (case hj => rfl); (case hl => rfl)
     ·
      refine goG rfl rfl ?_
      refine pE rfl ?_
      refine goG rfl rfl ?_
      first | refine pE rfl ?_ | refine pR rfl rfl rfl rfl rfl ?_ | refine pB rfl rfl rfl rfl rfl rfl ?_
      refine goG rfl rfl ?_
      refine pE rfl ?_
      refine goG rfl rfl ?_
      refine pE rfl ?_
      refine goG rfl rfl ?_
      iterate 3 refine pE rfl ?_
      apply splitJ; (case hj => rfl); (case hl => rfl)
      ·
       iterate 4 refine skipT rfl rfl rfl rfl ?_
       iterate 4 refine skipU rfl rfl rfl ?_
       refine skipT rfl rfl rfl rfl ?_
       iterate 2 refine pE rfl ?_
       refine WO.nil ?_
       refine qv1 rfl rfl rfl
      ·
       refine goG rfl rfl ?_
       refine pE rfl ?_
       refine goG rfl rfl ?_
       first | refine pE rfl ?_ | refine pR rfl rfl rfl rfl rfl ?_ | refine pB rfl rfl rfl rfl rfl rfl ?_
       refine goG rfl rfl ?_
       refine pE rfl ?_
       refine goG rfl rfl ?_
       refine pE rfl ?_
       apply splitJ; (case hj => rfl); (case hl => rfl)
       ·
        refine goG rfl rfl ?_
        refine pE rfl ?_
        refine goG rfl rfl ?_
        first | refine pE rfl ?_ | refine pR rfl rfl rfl rfl rfl ?_ | refine pB rfl rfl rfl rfl rfl rfl ?_
        refine goG rfl rfl ?_
        refine pE rfl ?_
        refine goG rfl rfl ?_
        refine pE rfl ?_
        refine goG rfl rfl ?_
        iterate 3 refine pE rfl ?_
        refine WO.nil ?_
        refine qv1 rfl rfl rfl
       ·
        iterate 4 refine skipT rfl rfl rfl rfl ?_
        refine goG rfl rfl ?_
        iterate 3 refine pE rfl ?_
        refine WO.nil ?_
        refine qv1 rfl rfl rfl
     ·
      iterate 4 refine skipT rfl rfl rfl rfl ?_
      refine goG rfl rfl ?_
      iterate 3 refine pE rfl ?_
      refine goG rfl rfl ?_
      refine pE rfl ?_
      refine goG rfl rfl ?_
      first | refine pE rfl ?_ | refine pR rfl rfl rfl rfl rfl ?_ | refine pB rfl rfl rfl rfl rfl rfl ?_
      refine goG rfl rfl ?_
      refine pE rfl ?_
      refine goG rfl rfl ?_
      refine pE rfl ?_
      apply splitJ; (case hj => rfl); (case hl => rfl)
      ·
       refine goG rfl rfl ?_
       refine pE rfl ?_
       refine goG rfl rfl ?_
       first | refine pE rfl ?_ | refine pR rfl rfl rfl rfl rfl ?_ | refine pB rfl rfl rfl rfl rfl rfl ?_
       refine goG rfl rfl ?_
       refine pE rfl ?_
       refine goG rfl rfl ?_
       refine pE rfl ?_
       refine goG rfl rfl ?_
       iterate 3 refine pE rfl ?_
       refine WO.nil ?_
       refine qv1 rfl rfl rfl
      ·
       iterate 4 refine skipT rfl rfl rfl rfl ?_
       refine goG rfl rfl ?_
       iterate 3 refine pE rfl ?_
       refine WO.nil ?_
       refine qv1 rfl rfl rfl
  ·
   iterate 4 refine skipT rfl rfl rfl rfl ?_
   iterate 2 refine pE rfl ?_
   refine goG rfl rfl ?_
   refine pE rfl ?_
   refine goG rfl rfl ?_
   first | refine pE rfl ?_ | refine pR rfl rfl rfl rfl rfl ?_ | refine pB rfl rfl rfl rfl rfl rfl ?_
   refine goG rfl rfl ?_
   refine pE rfl ?_
   refine goG rfl rfl ?_
   refine pE rfl ?_
   apply splitJ; (case hj => rfl); (case hl => rfl)
   ·
    refine goG rfl rfl ?_
    refine pE rfl ?_
    refine goG rfl rfl ?_
    first | refine pE rfl ?_ | refine pR rfl rfl rfl rfl rfl ?_ | refine pB rfl rfl rfl rfl rfl rfl ?_
    refine goG rfl rfl ?_
    refine pE rfl ?_
    refine goG rfl rfl ?_
    refine pE rfl ?_
    refine goG rfl rfl ?_
    first | refine pE rfl ?_ | refine pR rfl rfl rfl rfl rfl ?_ | refine pB rfl rfl rfl rfl rfl rfl ?_
    refine goG rfl rfl ?_
    refine pE rfl ?_
    refine goG rfl rfl ?_
    refine pE rfl ?_
    refine goG rfl rfl ?_
    refine pE rfl ?_
    refine goG rfl rfl ?_
    iterate 3 refine pE rfl ?_
    apply splitJ; (case hj => rfl); (case hl => rfl)
    ·
     iterate 4 refine skipT rfl rfl rfl rfl ?_
     iterate 4 refine skipU rfl rfl rfl ?_
     refine skipT rfl rfl rfl rfl ?_
     iterate 2 refine pE rfl ?_
     iterate 4 refine skipT rfl rfl rfl rfl ?_
     iterate 4 refine skipU rfl rfl rfl ?_
     refine skipT rfl rfl rfl rfl ?_
     iterate 2 refine pE rfl ?_
     refine WO.nil ?_
     refine qv1 rfl rfl rfl
    ·
     refine goG rfl rfl ?_
     refine pE rfl ?_
     refine goG rfl rfl ?_
     first | refine pE rfl ?_ | refine pR rfl rfl rfl rfl rfl ?_ | refine pB rfl rfl rfl rfl rfl rfl ?_
     refine goG rfl rfl ?_
     refine pE rfl ?_
     refine goG rfl rfl ?_
     refine pE rfl ?_
     apply splitJ; (case hj => rfl); (case hl => rfl)
     ·
      refine goG rfl rfl ?_
      refine pE rfl ?_
      refine goG rfl rfl ?_
      first | refine pE rfl ?_ | refine pR rfl rfl rfl rfl rfl ?_ | refine pB rfl rfl rfl rfl rfl rfl ?_
      refine goG rfl rfl ?_
      refine pE rfl ?_
      refine goG rfl rfl ?_
      refine pE rfl ?_
      refine goG rfl rfl ?_
      iterate 3 refine pE rfl ?_
      apply splitJ; (case hj => rfl); (case hl => rfl)
      ·
       iterate 4 refine skipT rfl rfl rfl rfl ?_
       iterate 4 refine skipU rfl rfl rfl ?_
       refine skipT rfl rfl rfl rfl ?_
       iterate 2 refine pE rfl ?_
       refine WO.nil ?_
       refine qv1 rfl rfl rfl
      ·
       refine goG rfl rfl ?_
       refine pE rfl ?_
       refine goG rfl rfl ?_
       first | refine pE rfl ?_ | refine pR rfl rfl rfl rfl rfl ?_ | refine pB rfl rfl rfl rfl rfl rfl ?_
       refine goG rfl rfl ?_
       refine pE rfl ?_
       refine goG rfl rfl ?_
       refine pE rfl ?_
       apply splitJ; (case hj => rfl); (case hl => rfl)
       ·
        refine goG rfl rfl ?_
        refine pE rfl ?_
        refine goG rfl rfl ?_
        first | refine pE rfl ?_ | refine pR rfl rfl rfl rfl rfl ?_ | refine pB rfl rfl rfl rfl rfl rfl ?_
        refine goG rfl rfl ?_
        refine pE rfl ?_
        refine goG rfl rfl ?_
        refine pE rfl ?_
        refine goG rfl rfl ?_
        iterate 3 refine pE rfl ?_
        refine WO.nil ?_
        refine qv1 rfl rfl rfl
       ·
        iterate 4 refine skipT rfl rfl rfl rfl ?_
        refine goG rfl rfl ?_
        iterate 3 refine pE rfl ?_
        refine WO.nil ?_
        refine qv1 rfl rfl rfl
     ·
      iterate 4 refine skipT rfl rfl rfl rfl ?_
      refine goG rfl rfl ?_
      iterate 3 refine pE rfl ?_
      refine goG rfl rfl ?_
      refine pE rfl ?_
      refine goG rfl rfl ?_
      first | refine pE rfl ?_ | refine pR rfl rfl rfl rfl rfl ?_ | refine pB rfl rfl rfl rfl rfl rfl ?_
      refine goG rfl rfl ?_
      refine pE rfl ?_
      refine goG rfl rfl ?_
      refine pE rfl ?_
      apply splitJ; (case hj => rfl); (case hl => rfl)
      ·
       refine goG rfl rfl ?_
       refine pE rfl ?_
       refine goG rfl rfl ?_
       first | refine pE rfl ?_ | refine pR rfl rfl rfl rfl rfl ?_ | refine pB rfl rfl rfl rfl rfl rfl ?_
       refine goG rfl rfl ?_
       refine pE rfl ?_
       refine goG rfl rfl ?_
       refine pE rfl ?_
       refine goG rfl rfl ?_
       iterate 3 refine pE rfl ?_
       refine WO.nil ?_
       refine qv1 rfl rfl rfl
      ·
       iterate 4 refine skipT rfl rfl rfl rfl ?_
       refine goG rfl rfl ?_
       iterate 3 refine pE rfl ?_
       refine WO.nil ?_
       refine qv1 rfl rfl rfl
   ·
    iterate 8 refine skipT rfl rfl rfl rfl ?_
    refine goG rfl rfl ?_
    iterate 3 refine pE rfl ?_
    refine goG rfl rfl ?_
    refine pE rfl ?_
    refine goG rfl rfl ?_
    first | refine pE rfl ?_ | refine pR rfl rfl rfl rfl rfl ?_ | refine pB rfl rfl rfl rfl rfl rfl ?_
    refine goG rfl rfl ?_
    refine pE rfl ?_
    refine goG rfl rfl ?_
    refine pE rfl ?_
    apply splitJ; (case hj => rfl); (case hl => rfl)
    ·
     refine goG rfl rfl ?_
     refine pE rfl ?_
     refine goG rfl rfl ?_
     first | refine pE rfl ?_ | refine pR rfl rfl rfl rfl rfl ?_ | refine pB rfl rfl rfl rfl rfl rfl ?_
     refine goG rfl rfl ?_
     refine pE rfl ?_
     refine goG rfl rfl ?_
     refine pE rfl ?_
     refine goG rfl rfl ?_
     iterate 3 refine pE rfl ?_
     apply splitJ; (case hj => rfl); (case hl => rfl)
     ·
      iterate 4 refine skipT rfl rfl rfl rfl ?_
      iterate 4 refine skipU rfl rfl rfl ?_
      refine skipT rfl rfl rfl rfl ?_
      iterate 2 refine pE rfl ?_
      refine WO.nil ?_
      refine qv1 rfl rfl rfl
     ·
      refine goG rfl rfl ?_
      refine pE rfl ?_
      refine goG rfl rfl ?_
      first | refine pE rfl ?_ | refine pR rfl rfl rfl rfl rfl ?_ | refine pB rfl rfl rfl rfl rfl rfl ?_
      refine goG rfl rfl ?_
      refine pE rfl ?_
      refine goG rfl rfl ?_
      refine pE rfl ?_
      apply splitJ; (case hj => rfl); (case hl => rfl)
      ·
       refine goG rfl rfl ?_
       refine pE rfl ?_
       refine goG rfl rfl ?_
       first | refine pE rfl ?_ | refine pR rfl rfl rfl rfl rfl ?_ | refine pB rfl rfl rfl rfl rfl rfl ?_
       refine goG rfl rfl ?_
       refine pE rfl ?_
       refine goG rfl rfl ?_
       refine pE rfl ?_
       refine goG rfl rfl ?_
       iterate 3 refine pE rfl ?_
       refine WO.nil ?_
       refine qv1 rfl rfl rfl
      ·
       iterate 4 refine skipT rfl rfl rfl rfl ?_
       refine goG rfl rfl ?_
       iterate 3 refine pE rfl ?_
       refine WO.nil ?_
       refine qv1 rfl rfl rfl
    ·
     iterate 4 refine skipT rfl rfl rfl rfl ?_
     refine goG rfl rfl ?_
     iterate 3 refine pE rfl ?_
     refine goG rfl rfl ?_
     refine pE rfl ?_
     refine goG rfl rfl ?_
     first | refine pE rfl ?_ | refine pR rfl rfl rfl rfl rfl ?_ | refine pB rfl rfl rfl rfl rfl rfl ?_
     refine goG rfl rfl ?_
     refine pE rfl ?_
     refine goG rfl rfl ?_
     refine pE rfl ?_
     apply splitJ; (case hj => rfl); (case hl => rfl)
     ·
      refine goG rfl rfl ?_
      refine pE rfl ?_
      refine goG rfl rfl ?_
      first | refine pE rfl ?_ | refine pR rfl rfl rfl rfl rfl ?_ | refine pB rfl rfl rfl rfl rfl rfl ?_
      refine goG rfl rfl ?_
      refine pE rfl ?_
      refine goG rfl rfl ?_
      refine pE rfl ?_
      refine goG rfl rfl ?_
      iterate 3 refine pE rfl ?_
      refine WO.nil ?_
      refine qv1 rfl rfl rfl
     ·
      iterate 4 refine skipT rfl rfl rfl rfl ?_
      refine goG rfl rfl ?_
      iterate 3 refine pE rfl ?_
      refine WO.nil ?_
      refine qv1 rfl rfl rfl
 refine qs ?_
 iterate 2 refine W.seq ?_
 refine W.region ?_
 refine pE rfl ?_
 refine WO.nil (qs ?_)
 refine condK rfl (fun h50 => ?_) (fun h50 => ?_)
 ·
  have h50 : shortB s = true := by revert h50; simp only [shortB, List.length_map, hw]; grind
  refine W.seq (W.region ?_)
  refine pE rfl ?_
  refine WO.nil (qs (W.ret (qsRet ?_)))
  refine QF.ret0 trivial rfl ?_
  simp only [norm, oneA]; unfold sizesE; rw [if_pos h50]
 ·
  have h50 : ¬ (shortB s = true) := by revert h50; simp only [shortB, List.length_map, hw]; grind
  refine W.skip (qs ?_)
  iterate 2 refine W.seq ?_
  apply regionB; (case hb => rfl)
  ·
   refine pE rfl ?_
   first | refine pE rfl ?_ | refine pR rfl rfl rfl rfl rfl ?_ | refine pB rfl rfl rfl rfl rfl rfl ?_
   iterate 3 refine pE rfl ?_
   apply splitJ; (case hj => rfl); (case hl => rfl)
   ·
    iterate 4 refine skipT rfl rfl rfl rfl ?_
    iterate 2 refine pE rfl ?_
    iterate 4 refine skipT rfl rfl rfl rfl ?_
    iterate 2 refine pE rfl ?_
    iterate 4 refine skipT rfl rfl rfl rfl ?_
    refine pE rfl ?_
    refine WO.nil ?_
    refine qv1 rfl rfl rfl
   ·
    refine goG rfl rfl ?_
    refine pE rfl ?_
    refine goG rfl rfl ?_
    first | refine pE rfl ?_ | refine pR rfl rfl rfl rfl rfl ?_ | refine pB rfl rfl rfl rfl rfl rfl ?_
    refine goG rfl rfl ?_
    refine pE rfl ?_
    refine goG rfl rfl ?_
    iterate 3 refine pE rfl ?_
    apply splitJ; (case hj => rfl); (case hl => rfl)
    ·
     iterate 4 refine skipT rfl rfl rfl rfl ?_
     iterate 2 refine pE rfl ?_
     iterate 4 refine skipT rfl rfl rfl rfl ?_
     refine pE rfl ?_
     refine WO.nil ?_
     refine qv1 rfl rfl rfl
    ·
     refine goG rfl rfl ?_
     refine pE rfl ?_
     refine goG rfl rfl ?_
     first | refine pE rfl ?_ | refine pR rfl rfl rfl rfl rfl ?_ | refine pB rfl rfl rfl rfl rfl rfl ?_
     refine goG rfl rfl ?_
     refine pE rfl ?_
     refine goG rfl rfl ?_
     iterate 3 refine pE rfl ?_
     apply splitJ; (case hj => rfl); (case hl => rfl)
     ·
      iterate 4 refine skipT rfl rfl rfl rfl ?_
      refine pE rfl ?_
      refine WO.nil ?_
      refine qv1 rfl rfl rfl
     ·
      refine goG rfl rfl ?_
      refine pE rfl ?_
      refine goG rfl rfl ?_
      first | refine pE rfl ?_ | refine pR rfl rfl rfl rfl rfl ?_ | refine pB rfl rfl rfl rfl rfl rfl ?_
      refine goG rfl rfl ?_
      refine pE rfl ?_
      refine goG rfl rfl ?_
      iterate 2 refine pE rfl ?_
      refine WO.nil ?_
      refine qv1 rfl rfl rfl
  refine qs ?_
  refine condK rfl (fun h72 => ?_) (fun h72 => ?_)
  ·
   refine W.seq (W.region ?_)
   refine pE rfl ?_
   refine WO.nil (qs (W.ret (qsRet ?_)))
   refine QF.ret0 trivial rfl ?_
   simp only [norm, oneA]; unfold sizesE; rw [if_neg h50, if_pos (by revert h72; simp only [List.length_map]; grind)]
  ·
   refine W.skip (qs (W.seq (W.region ?_)))
   refine pE rfl ?_
   refine WO.nil (qs (W.ret ?_))
   refine QF.ret0 trivial rfl ?_
   simp only [norm, oneA]; unfold sizesE; rw [if_neg h50, if_neg (by revert h72; simp only [List.length_map]; grind)]
theorem stepR_eqB (s : Stp) : stepR s = stepErr s := by
 unfold stepR stepErr
 by_cases hu : usesB s = false
 · rw [if_pos hu, if_pos hu]
 ·
  rw [if_neg hu, if_neg hu]
  have hu : usesB s = true := by simpa using hu
  simp only [usesB, Bool.and_eq_true, Bool.not_eq_true', Bool.or_eq_true, Bool.or_eq_false_iff, Bool.and_eq_false_iff, decide_eq_true_eq, decide_eq_false_iff_not] at hu
  obtain ⟨⟨⟨⟨⟨⟨⟨⟨h0, h0'⟩, h1⟩, h2⟩, h3⟩, h4⟩, h5⟩, h6⟩, h7⟩ := hu
  have hop : s.op = 1 ∨ s.op = 2 ∨ s.op = 3 ∨ s.op = 4 ∨ s.op = 5 ∨ s.op = 6 ∨ s.op = 7 ∨ s.op = 8 ∨ s.op = 9 := by omega
  have hil : s.op ≠ 2 → s.items.length = 0 := fun h => by rcases h2 with h2 | h2 <;> simp_all
  have hal : s.op ≠ 3 → s.aggs.length = 0 := fun h => by rcases h3 with h3 | h3 <;> simp_all
  have hsl : s.op ≠ 4 → s.sorts.length = 0 := fun h => by rcases h4 with h4 | h4 <;> simp_all
  have hcl : s.op ≠ 3 → tableOp s.op = false → s.op ≠ 9 → s.cols.length = 0 := fun a b c => by
   rcases h7 with ((h7 | h7) | h7) | h7
   · exact absurd h7 a
   · rw [b] at h7; cases h7
   · exact absurd h7 c
   · exact h7
  rcases hop with h | h | h | h | h | h | h | h | h
  ·
   have a1 := hil (by omega); have a2 := hal (by omega); have a3 := hsl (by omega); have a4 := hcl (by omega) (by simp [tableOp, h]) (by omega)
   simp [tableOp, h, sizesE, shortB, a1, a2, a3, a4]
  ·
   have a2 := hal (by omega); have a3 := hsl (by omega); have a4 := hcl (by omega) (by simp [tableOp, h]) (by omega)
   simp only [tableOp, h, sizesE, shortB, a2, a3, a4, sizeErr]
   by_cases q : s.items.length = 0 <;> by_cases q2 : 16 < s.items.length <;> simp [q, q2] <;> omega
  ·
   have a1 := hil (by omega); have a3 := hsl (by omega)
   simp only [tableOp, h, sizesE, shortB, a1, a3, groupErr, groupsR]
   by_cases q : s.cols.length + s.aggs.length = 0 <;> by_cases q2 : 16 < s.cols.length <;> by_cases q3 : 16 < s.aggs.length <;> simp [q, q2, q3] <;> first | omega | (by_cases q4 : s.cols = [] ∧ s.aggs = [] <;> simp [q4])
  ·
   have a1 := hil (by omega); have a2 := hal (by omega); have a4 := hcl (by omega) (by simp [tableOp, h]) (by omega)
   simp only [tableOp, h, sizesE, shortB, a1, a2, a4, columnsErr, sizeErr, List.length_map]
   by_cases q : s.sorts.length = 0 <;> by_cases q2 : 16 < s.sorts.length <;> simp [q, q2] <;> omega
  ·
   have a1 := hil (by omega); have a2 := hal (by omega); have a3 := hsl (by omega); have a4 := hcl (by omega) (by simp [tableOp, h]) (by omega)
   simp [tableOp, h, sizesE, shortB, a1, a2, a3, a4]
  ·
   have a1 := hil (by omega); have a2 := hal (by omega); have a3 := hsl (by omega)
   simp only [tableOp, h, sizesE, shortB, a1, a2, a3, columnsErr, sizeErr]
   cases identB s.table <;> by_cases q : s.cols.length = 0 <;> by_cases q2 : 16 < s.cols.length <;> simp [q, q2] <;> omega
  ·
   have a1 := hil (by omega); have a2 := hal (by omega); have a3 := hsl (by omega)
   simp only [tableOp, h, sizesE, shortB, a1, a2, a3, columnsErr, sizeErr]
   cases identB s.table <;> by_cases q2 : 16 < s.cols.length <;> simp [q2] <;> omega
  ·
   have a1 := hil (by omega); have a2 := hal (by omega); have a3 := hsl (by omega)
   simp only [tableOp, h, sizesE, shortB, a1, a2, a3, columnsErr, sizeErr]
   cases identB s.table <;> by_cases q2 : 16 < s.cols.length <;> simp [q2] <;> omega
  ·
   have a1 := hil (by omega); have a2 := hal (by omega); have a3 := hsl (by omega)
   simp only [tableOp, h, sizesE, shortB, a1, a2, a3, columnsErr, sizeErr]
   by_cases q2 : 16 < s.cols.length <;> simp [q2] <;> omega
theorem rstepB_fn (s : Stp) : Does Tryz.prog 42 [.ag s.c] (.d (.v (.int .i64 (stepErr s)))) 0 := by
 rw [← stepR_eqB]
 have hg : stepR s = stepR s := rfl
 conv at hg => rhs; unfold stepR
 refine Does.of_W (n := 78) (ts := [2]) Tryz.func42 (by kernel_rfl) rfl Tryz.ntmps42 Tryz.results42 rfl rfl fun C hC hG => ?_
 refine W.seq (W.region ?_)
 refine boxR rfl rfl rfl ?_
 refine pE rfl ?_
 refine WO.nil (qs ?_)
 iterate 2 refine W.seq ?_
 apply regionB; (case hb => rfl)
 ·
  refine pE rfl ?_
  first | refine pE rfl ?_ | refine pR rfl rfl rfl rfl rfl ?_ | refine pB rfl rfl rfl rfl rfl rfl ?_
  iterate 2 refine pE rfl ?_
  apply splitJ; (case hj => rfl); (case hl => rfl)
  ·
   iterate 3 refine skipT rfl rfl rfl rfl ?_
   iterate 2 refine pE rfl ?_
   iterate 3 refine skipT rfl rfl rfl rfl ?_
   refine pE rfl ?_
   refine WO.nil ?_
   refine qv1 rfl rfl rfl
  ·
   refine goG rfl rfl ?_
   refine pE rfl ?_
   refine goG rfl rfl ?_
   first | refine pE rfl ?_ | refine pR rfl rfl rfl rfl rfl ?_ | refine pB rfl rfl rfl rfl rfl rfl ?_
   refine goG rfl rfl ?_
   iterate 3 refine pE rfl ?_
   apply splitJ; (case hj => rfl); (case hl => rfl)
   ·
    iterate 3 refine skipT rfl rfl rfl rfl ?_
    refine pE rfl ?_
    refine WO.nil ?_
    refine qv1 rfl rfl rfl
   ·
    refine goG rfl rfl ?_
    first | refine pE rfl ?_ | refine pR rfl rfl rfl rfl rfl ?_ | refine pB rfl rfl rfl rfl rfl rfl ?_
    refine goG rfl rfl ?_
    refine pu (puCall rfl rfl rfl (runused_fn s) rfl) rfl ?_
    refine goG rfl rfl ?_
    iterate 2 refine pE rfl ?_
    refine WO.nil ?_
    refine qv1 rfl rfl rfl
 refine qs ?_
 refine condK rfl (fun h17 => ?_) (fun h17 => ?_)
 ·
  have h17 : usesB s = false := by rw [usesB_eq]; revert h17; by_cases q : s.op < 1 <;> by_cases q2 : 9 < s.op <;> cases unusedB s <;> simp [q, q2]
  rw [if_pos h17] at hg
  refine W.seq (W.region ?_)
  refine pE rfl ?_
  refine WO.nil (qs (W.ret (qsRet ?_)))
  refine QF.ret0 trivial rfl ?_
  rw [hg]; rfl
 ·
  have h17 : ¬ (usesB s = false) := by rw [usesB_eq]; revert h17; by_cases q : s.op < 1 <;> by_cases q2 : 9 < s.op <;> cases unusedB s <;> simp [q, q2]
  rw [if_neg h17] at hg
  refine W.skip (qs (W.seq ?_))
  apply regionB; (case hb => rfl)
  ·
   refine pE rfl ?_
   first | refine pE rfl ?_ | refine pR rfl rfl rfl rfl rfl ?_ | refine pB rfl rfl rfl rfl rfl rfl ?_
   iterate 2 refine pE rfl ?_
   apply splitJ; (case hj => rfl); (case hl => rfl)
   ·
    iterate 3 refine skipT rfl rfl rfl rfl ?_
    iterate 2 refine pE rfl ?_
    iterate 3 refine skipT rfl rfl rfl rfl ?_
    iterate 2 refine pE rfl ?_
    refine WO.nil ?_
    refine qv1 rfl rfl rfl
   ·
    refine goG rfl rfl ?_
    refine pE rfl ?_
    refine goG rfl rfl ?_
    first | refine pE rfl ?_ | refine pR rfl rfl rfl rfl rfl ?_ | refine pB rfl rfl rfl rfl rfl rfl ?_
    refine goG rfl rfl ?_
    iterate 3 refine pE rfl ?_
    apply splitJ; (case hj => rfl); (case hl => rfl)
    ·
     iterate 3 refine skipT rfl rfl rfl rfl ?_
     iterate 2 refine pE rfl ?_
     refine WO.nil ?_
     refine qv1 rfl rfl rfl
    ·
     refine goG rfl rfl ?_
     refine pE rfl ?_
     refine goG rfl rfl ?_
     first | refine pE rfl ?_ | refine pR rfl rfl rfl rfl rfl ?_ | refine pB rfl rfl rfl rfl rfl rfl ?_
     refine goG rfl rfl ?_
     iterate 3 refine pE rfl ?_
     refine WO.nil ?_
     refine qv1 rfl rfl rfl
  refine qs ?_
  iterate 2 refine W.seq ?_
  apply regionB; (case hb => rfl)
  ·
   iterate 2 refine pE rfl ?_
   apply splitJ; (case hj => rfl); (case hl => rfl)
   ·
    refine goG rfl rfl ?_
    refine pE rfl ?_
    refine goG rfl rfl ?_
    first | refine pE rfl ?_ | refine pR rfl rfl rfl rfl rfl ?_ | refine pB rfl rfl rfl rfl rfl rfl ?_
    refine goG rfl rfl ?_
    refine pu (puCall rfl rfl rfl (ident_fn ..) rfl) rfl ?_
    refine goG rfl rfl ?_
    iterate 2 refine pE rfl ?_
    refine WO.nil ?_
    refine qv1 rfl rfl rfl
   ·
    iterate 4 refine skipT rfl rfl rfl rfl ?_
    refine pE rfl ?_
    refine WO.nil ?_
    refine qv1 rfl rfl rfl
  refine qs ?_
  refine condK rfl (fun h37 => ?_) (fun h37 => ?_)
  ·
   have h37 : (tableOp s.op && !identB s.table) = true := by revert h37; simp only [tableOp]; by_cases q : s.op = 6 <;> by_cases q2 : s.op = 7 <;> by_cases q3 : s.op = 8 <;> cases identB s.table <;> simp [q, q2, q3]
   rw [if_pos h37] at hg
   refine W.seq (W.region ?_)
   refine pE rfl ?_
   refine WO.nil (qs (W.ret (qsRet ?_)))
   refine QF.ret0 trivial rfl ?_
   rw [hg]; rfl
  ·
   have h37 : ¬ ((tableOp s.op && !identB s.table) = true) := by revert h37; simp only [tableOp]; by_cases q : s.op = 6 <;> by_cases q2 : s.op = 7 <;> by_cases q3 : s.op = 8 <;> cases identB s.table <;> simp [q, q2, q3]
   rw [if_neg h37] at hg
   refine W.skip (qs (W.seq (W.region ?_)))
   first | refine pE rfl ?_ | refine pR rfl rfl rfl rfl rfl ?_ | refine pB rfl rfl rfl rfl rfl rfl ?_
   refine pu (puCall rfl rfl rfl (rsizesB_fn s) rfl) rfl ?_
   refine pE rfl ?_
   refine WO.nil (qs ?_)
   iterate 2 refine W.seq ?_
   refine W.region ?_
   iterate 2 refine pE rfl ?_
   refine WO.nil (qs ?_)
   refine condK rfl (fun h41 => ?_) (fun h41 => ?_)
   ·
    rw [if_pos (by simpa using h41)] at hg
    refine W.seq (W.region ?_)
    iterate 2 refine pE rfl ?_
    refine WO.nil (qs (W.ret (qsRet ?_)))
    refine QF.ret0 trivial rfl ?_
    rw [hg]; rfl
   ·
    rw [if_neg (by simpa using h41)] at hg
    have hf : fewB s := by
     have hz : sizesE s = 0 := by simpa using h41
     unfold sizesE at hz
     split at hz
     · cases hz
     ·
      split at hz
      · cases hz
      · exact ⟨by omega, by omega, by omega, by omega⟩
    refine W.skip (qs ?_)
    iterate 2 refine W.seq ?_
    refine W.region ?_
    refine pE rfl ?_
    first | refine pE rfl ?_ | refine pR rfl rfl rfl rfl rfl ?_ | refine pB rfl rfl rfl rfl rfl rfl ?_
    refine WO.nil (qs (W.block (W.seq (W.region ?_))))
    iterate 2 refine pE rfl ?_
    refine WO.nil (qs ?_)
    refine condK rfl (fun h45 => ?_) (fun h45 => ?_)
    ·
     rw [if_pos (by simpa using h45)] at hg
     refine W.seq (W.region ?_)
     refine pE rfl ?_
     first | refine pE rfl ?_ | refine pR rfl rfl rfl rfl rfl ?_ | refine pB rfl rfl rfl rfl rfl rfl ?_
     refine pu (puCall rfl rfl rfl (rexpr_fn s.cond) rfl) rfl ?_
     refine pE rfl ?_
     refine WO.nil (qs (W.ret (qbRet (qsRet ?_))))
     refine QF.ret0 trivial rfl ?_
     rw [hg]; rfl
    ·
     rw [if_neg (by simpa using h45)] at hg
     refine W.seq (W.region ?_)
     iterate 2 refine pE rfl ?_
     refine WO.nil (qs ?_)
     refine condK rfl (fun h50 => ?_) (fun h50 => ?_)
     ·
      rw [if_pos (by simpa using h50)] at hg
      refine W.seq (W.region ?_)
      refine pE rfl ?_
      first | refine pE rfl ?_ | refine pR rfl rfl rfl rfl rfl ?_ | refine pB rfl rfl rfl rfl rfl rfl ?_
      refine pu (puCall rfl rfl rfl (rselects_fn s.items (by have := hf.1; omega)) rfl) rfl ?_
      refine pE rfl ?_
      refine WO.nil (qs (W.ret (qbRet (qsRet ?_))))
      refine QF.ret0 trivial rfl ?_
      rw [hg]; rfl
     ·
      rw [if_neg (by simpa using h50)] at hg
      refine W.seq (W.region ?_)
      iterate 2 refine pE rfl ?_
      refine WO.nil (qs ?_)
      refine condK rfl (fun h55 => ?_) (fun h55 => ?_)
      ·
       rw [if_pos (by simpa using h55)] at hg
       refine W.seq (W.region ?_)
       first | refine pE rfl ?_ | refine pR rfl rfl rfl rfl rfl ?_ | refine pB rfl rfl rfl rfl rfl rfl ?_
       refine pu (puCall rfl rfl rfl (rgroupsB_fn s hf) rfl) rfl ?_
       refine pE rfl ?_
       refine WO.nil (qs (W.ret (qbRet (qsRet ?_))))
       refine QF.ret0 trivial rfl ?_
       rw [hg]; rfl
      ·
       rw [if_neg (by simpa using h55)] at hg
       refine W.seq (W.region ?_)
       iterate 2 refine pE rfl ?_
       refine WO.nil (qs ?_)
       refine condK rfl (fun h59 => ?_) (fun h59 => ?_)
       ·
        rw [if_pos (by simpa using h59)] at hg
        refine W.seq (W.region ?_)
        refine pE rfl ?_
        first | refine pE rfl ?_ | refine pR rfl rfl rfl rfl rfl ?_ | refine pB rfl rfl rfl rfl rfl rfl ?_
        refine pu (puCall rfl rfl rfl (rsorts_fn s.sorts (by have := hf.2.2.2; omega)) rfl) rfl ?_
        refine pu (puCall rfl rfl rfl (rnames_fn (s.sorts.map Srt.col)) rfl) rfl ?_
        refine pE rfl ?_
        refine WO.nil (qs (W.ret (qbRet (qsRet ?_))))
        refine QF.ret0 trivial rfl ?_
        rw [hg]; rfl
       ·
        rw [if_neg (by simpa using h59)] at hg
        refine W.seq (W.region ?_)
        iterate 2 refine pE rfl ?_
        refine WO.nil (qs ?_)
        refine condK rfl (fun h65 => ?_) (fun h65 => ?_)
        ·
         rw [if_pos (by simpa using h65)] at hg
         iterate 2 refine W.seq ?_
         apply regionB; (case hb => rfl)
         ·
          refine pE rfl ?_
          first | refine pE rfl ?_ | refine pR rfl rfl rfl rfl rfl ?_ | refine pB rfl rfl rfl rfl rfl rfl ?_
          iterate 2 refine pE rfl ?_
          apply splitJ; (case hj => rfl); (case hl => rfl)
          ·
           iterate 3 refine skipT rfl rfl rfl rfl ?_
           refine pE rfl ?_
           refine WO.nil ?_
           refine qv1 rfl rfl rfl
          ·
           refine goG rfl rfl ?_
           refine pE rfl ?_
           refine goG rfl rfl ?_
           first | refine pE rfl ?_ | refine pR rfl rfl rfl rfl rfl ?_ | refine pB rfl rfl rfl rfl rfl rfl ?_
           refine goG rfl rfl ?_
           iterate 2 refine pE rfl ?_
           refine WO.nil ?_
           refine qv1 rfl rfl rfl
         refine qs ?_
         refine condK rfl (fun h74 => ?_) (fun h74 => ?_)
         ·
          rw [if_pos (by revert h74; grind)] at hg
          refine W.seq (W.region ?_)
          refine pE rfl ?_
          refine WO.nil (qs (W.ret (qsRet (qbRet (qsRet ?_)))))
          refine QF.ret0 trivial rfl ?_
          rw [hg]; rfl
         ·
          rw [if_neg (by revert h74; grind)] at hg
          refine W.skip (qs (W.seq (W.region ?_)))
          refine pE rfl ?_
          refine WO.nil (qs (W.ret (qbRet (qsRet ?_))))
          refine QF.ret0 trivial rfl ?_
          rw [hg]; rfl
        ·
         rw [if_neg (by simpa using h65)] at hg
         refine W.skip (qbN (qs (W.seq (W.region ?_))))
         refine pE rfl ?_
         first | refine pE rfl ?_ | refine pR rfl rfl rfl rfl rfl ?_ | refine pB rfl rfl rfl rfl rfl rfl ?_
         refine pu (puCall rfl rfl rfl (rnames_fn s.cols) rfl) rfl ?_
         refine pE rfl ?_
         refine WO.nil (qs (W.ret ?_))
         refine QF.ret0 trivial rfl ?_
         rw [hg]; rfl
theorem rqueryB_fn (q : Qry) : Does Tryz.prog 16 [.ag q.c] (.d (.v (.int .i64 (queryErr q)))) 0 := by
 refine Does.of_W (n := 29) (ts := [2]) Tryz.func16 (by kernel_rfl) rfl Tryz.ntmps16 Tryz.results16 rfl rfl fun C hC hG => ?_
 refine W.seq (W.region ?_)
 refine boxR rfl rfl rfl ?_
 refine pE rfl ?_
 refine WO.nil (qs ?_)
 iterate 2 refine W.seq ?_
 refine W.region ?_
 refine pE rfl ?_
 first | refine pE rfl ?_ | refine pR rfl rfl rfl rfl rfl ?_ | refine pB rfl rfl rfl rfl rfl rfl ?_
 refine pu (puCall rfl rfl rfl (ident_fn ..) rfl) rfl ?_
 refine pE rfl ?_
 refine WO.nil (qs ?_)
 refine condK rfl (fun h8 => ?_) (fun h8 => ?_)
 ·
  refine W.seq (W.region ?_)
  refine pE rfl ?_
  refine WO.nil (qs (W.ret (qsRet ?_)))
  refine QF.ret0 trivial rfl ?_
  simp only [norm, oneA] at *; grind [queryErr]
 ·
  refine W.skip (qs ?_)
  iterate 2 refine W.seq ?_
  refine W.region ?_
  refine pE rfl ?_
  first | refine pE rfl ?_ | refine pR rfl rfl rfl rfl rfl ?_ | refine pB rfl rfl rfl rfl rfl rfl ?_
  iterate 2 refine pE rfl ?_
  refine WO.nil (qs ?_)
  refine condK rfl (fun h12 => ?_) (fun h12 => ?_)
  ·
   refine W.seq (W.region ?_)
   refine pE rfl ?_
   refine WO.nil (qs (W.ret (qsRet ?_)))
   refine QF.ret0 trivial rfl ?_
   simp only [norm, oneA, List.length_map] at *; grind [queryErr]
  ·
   have hq : queryErr q = stepsErr q.steps := by simp only [List.length_map] at *; grind [queryErr]
   refine W.skip (qs ?_)
   iterate 2 refine W.seq ?_
   refine W.region ?_
   refine pE rfl ?_
   refine WO.nil (qs (W.block ?_))
   refine lenBox (g := 0) (j := 1) rfl rfl (fun hlen => ?_)
   rw [List.length_map] at hlen
   refine W.loopR (ι := {x : Nat // match x with | k => k ≤ q.steps.length ∧ stepsErr (q.steps.drop k) = stepsErr q.steps})
    (fun x => match x.1 with | k => [(1, .ptr 0 0), (3, .d (.v (.int .i64 ((k : Nat) : Int))))]) []
    (fun x => match x.1 with | k => []) [(0, _)] [] 1 (fun x => match x.1 with | k => q.steps.length - k)
    [0] ⟨0, ?_⟩ rfl ?_ trivial ?_ ⟨rfl, rfl, trivial⟩ rfl ?_
   · first | exact ⟨Nat.zero_le _, rfl⟩ | exact trivial | simp
   · repeat' first | exact trivial | refine ⟨rfl, ?_⟩ | refine ⟨step_nat (by assumption) (by assumption), ?_⟩
   · repeat' first | exact trivial | refine ⟨rfl, ?_⟩ | refine ⟨step_nat (by assumption) (by assumption), ?_⟩
   rintro ⟨k, hk, hI⟩
   show W _ _ _ _ _ ⟨[(1, .ptr 0 0), (3, .d (.v (.int .i64 ((k : Nat) : Int))))], [(0, _)], [], 1⟩
   iterate 2 refine W.seq ?_
   refine W.region ?_
   iterate 2 refine pE rfl ?_
   first | refine pE rfl ?_ | refine pR rfl rfl rfl rfl rfl ?_ | refine pB rfl rfl rfl rfl rfl rfl ?_
   iterate 2 refine pE rfl ?_
   refine WO.nil (qs ?_)
   refine eachR (l := q.steps) (k := k) rfl (by simp [Ex.kc_len, bytes_len]) hk (fun x hx hd hlt => ?_) (fun he hd => ?_)
   ·
    rw [hd] at hI
    simp only [stepsErr] at hI
    refine W.skip (qs (W.seq (W.block (W.seq (W.region ?_)))))
    refine pE rfl ?_
    first | refine pE rfl ?_ | refine pR rfl rfl rfl rfl rfl ?_ | refine pB rfl rfl rfl rfl rfl rfl ?_
    refine pE rfl ?_
    refine pu (indexAddr tab rfl rfl rfl rfl rfl rfl (Int.natCast_nonneg _) (idx_map hx) rfl) rfl ?_
    first | refine pE rfl ?_ | refine pR rfl rfl rfl rfl rfl ?_ | refine pB rfl rfl rfl rfl rfl rfl ?_
    refine pu (puCall rfl rfl rfl (rstepB_fn x) rfl) rfl ?_
    refine pE rfl ?_
    refine WO.nil (qs (W.seq (W.region ?_)))
    iterate 2 refine pE rfl ?_
    refine WO.nil (qs ?_)
    refine condK rfl (fun h27 => ?_) (fun h27 => ?_)
    ·
     rw [if_pos (by simpa using h27)] at hI
     refine W.seq (W.region ?_)
     iterate 2 refine pE rfl ?_
     refine WO.nil (qs (W.ret (qbRet (qsRet (qlRet (qbRet (qsRet ?_)))))))
     refine QF.ret0 trivial rfl ?_
     rw [hq, ← hI]; rfl
    ·
     rw [if_neg (by simpa using h27)] at hI
     refine W.skip (qbN (qs (W.region ?_)))
     iterate 3 refine pE rfl ?_
     refine WO.nil ?_
     refine W.endR [0] ⟨k + 1, ?_⟩ ?_ rfl ?_ trivial ?_ ⟨rfl, rfl, trivial⟩ rfl
     · exact ⟨hlt, hI⟩
     · dsimp only; omega
     · repeat' first | exact trivial | refine ⟨rfl, ?_⟩ | refine ⟨step_nat (by assumption) (by assumption), ?_⟩
     · repeat' first | exact trivial | refine ⟨rfl, ?_⟩ | refine ⟨step_nat (by assumption) (by assumption), ?_⟩
   ·
    rw [hd] at hI
    simp only [stepsErr] at hI
    refine W.exit (qsExit (qlExit (qbExit (qs (W.seq (W.region ?_))))))
    refine pE rfl ?_
    refine WO.nil (qs (W.ret ?_))
    refine QF.ret0 trivial rfl ?_
    rw [hq, ← hI]; rfl
end Go.Proofs.YtifeonoehfffmaaGreatDoor
namespace Go.Proofs.YtifeonoehfffmaaGreatDoor
open Go.Ab Go.Tb
set_option maxRecDepth 10000
attribute [local irreducible] W WO Pu QS QB QL QF QV QV1 CH QE
theorem rqry_fn (s : ByteArray) (hs : s.size ≤ 1000000) : Does Tryz.prog 11 [.d (.v (.string s))] (.tup [.ag (queryF false s).1.c, .d (.v (.int .i64 (queryF false s).2.1)), .d (.v (.int .i64 (queryF false s).2.2))]) 0 := by
 obtain ⟨L, hLe⟩ : ∃ L, toks s 0 = L := ⟨_, rfl⟩
 have hw := toks_wf s 0
 have hd := toks_dg s 0
 have hl := toks_len s 0
 have htk := rtokens_fn s hs
 rw [hLe] at hw hd hl htk
 have hL : L.length ≤ 3000000 := by omega
 have h0 : 0 < L.length := List.length_pos_iff.2 hw.ne
 have a1 : (needP L kwFrom (0, false)).1 < L.length := (needP_goes hw kwFrom).lt (0, false) h0
 have a2 := (nameP_goes hw).lt _ a1
 have hqf : queryF false s = checkP qry0 queryErr (if 2000 < s.size then (qry0, 0, 7) else if badB L (queryT false L (0, false)).2 then (qry0, (tk0 L (queryT false L (0, false)).2).at_, 15) else ((queryT false L (0, false)).1, 0, 0)) := by unfold queryF readP; rw [hLe]
 have hgo := stepP_goes hw (orP_goes hw false L.length) false
 refine Does.of_V tab (n := 47) (rs := [.cell 2 25, .tmp 3, .tmp 4]) Tryz.func11 (by kernel_rfl) rfl Tryz.ntmps11 Tryz.results11 rfl fun C hC hG => ?_
 refine W.seq (W.region ?_)
 refine allocR tab rfl rfl rfl ?_
 iterate 2 refine pE rfl ?_
 refine WO.nil (qs ?_)
 iterate 2 refine W.seq ?_
 refine W.region ?_
 iterate 3 refine pE rfl ?_
 refine WO.nil (qs ?_)
 refine condK rfl (fun h12 => ?_) (fun h12 => ?_)
 ·
  have h12' : 2000 < s.size := by have := of_decide_eq_true h12; omega
  rw [hqf, if_pos h12']
  refine W.seq (W.region ?_)
  refine pu (build tab rfl rfl rfl rfl) rfl ?_
  refine storeR tab rfl rfl rfl rfl rfl rfl rfl rfl ?_
  iterate 2 refine pE rfl ?_
  refine WO.nil (qs ?_)
  try refine nilBox 0 1 rfl rfl rfl ?_
  refine W.ret (qsRet ?_)
  refine QV.ret0 tab trivial rfl ?_
  rfl
 ·
  have h12' : ¬ 2000 < s.size := by have := of_decide_eq_false h12; omega
  rw [if_neg h12'] at hqf
  refine W.skip (qs (W.seq (W.region ?_)))
  refine pE rfl ?_
  refine pu (puCall rfl rfl rfl htk rfl) rfl ?_
  refine pu (build tab rfl rfl rfl rfl) rfl ?_
  refine boxR rfl rfl rfl ?_
  refine pE rfl ?_
  refine WO.nil (qs (W.seq (W.region ?_)))
  refine pE rfl ?_
  refine callB [1] [] rfl rfl rfl rfl rfl ((rneed_fn L hw kwFrom (.inr rfl) (0, false) h0 hL)) rfl rfl (by rfl) (by rfl) rfl rfl rfl rfl ?_
  refine WO.nil (qs (W.seq (W.region ?_)))
  refine pE rfl ?_
  refine callB [1] [] rfl rfl rfl rfl rfl ((rname_fn L hw _ a1 hL)) rfl rfl (by rfl) (by rfl) rfl rfl rfl rfl ?_
  refine pu (build tab rfl rfl rfl rfl) rfl ?_
  refine allocR tab rfl rfl rfl ?_
  refine storeR tab rfl rfl rfl rfl rfl rfl rfl rfl ?_
  refine WO.nil (qs (W.seq (W.block ?_)))
  refine ownNilBox 4 1 rfl rfl rfl ?_
  refine W.loopR (ι := {x : Nat × PS × List Stp // match x with | (n, s1, acc) => s1.1 < L.length ∧ L.length - s1.1 ≤ n ∧ acc ++ (listGo L gBar (stepP L false (orT false L)) n s1).1 = (queryT false L (0, false)).1.steps ∧ (listGo L gBar (stepP L false (orT false L)) n s1).2 = (queryT false L (0, false)).2 ∧ acc.length ≤ s1.1 + 1})
   (fun x => match x.1 with | (n, s1, acc) => [(2, .ptr 0 0), (5, .ptr 1 0), (6, .ptr 2 0)]) []
   (fun x => match x.1 with | (n, s1, acc) => [(1, bxR L s1), (2, [.d (cs (nameP L (needP L kwFrom (0, false))).1), .own 3 (acc.map Stp.c)])]) [(0, _)] [3] 4 (fun x => match x.1 with | (n, s1, acc) => n)
   [0, 1, 4, 5] ⟨(L.length, (nameP L (needP L kwFrom (0, false))).2, []), ?_⟩ rfl ?_ trivial ?_ ⟨rfl, rfl, trivial⟩ rfl ?_
  · exact ⟨a2, by omega, rfl, rfl, by simp⟩
  · repeat' first | exact trivial | refine ⟨rfl, ?_⟩ | refine ⟨step_nat (by assumption) (by assumption), ?_⟩
  · repeat' first | exact trivial | refine ⟨rfl, ?_⟩ | refine ⟨step_nat (by assumption) (by assumption), ?_⟩
  rintro ⟨⟨n, s1, acc⟩, hk, hn, hI, hJ, hA⟩
  show W _ _ _ _ _ ⟨[(2, .ptr 0 0), (5, .ptr 1 0), (6, .ptr 2 0)], [(1, bxR L s1), (2, [.d (cs (nameP L (needP L kwFrom (0, false))).1), .own 3 (acc.map Stp.c)]), (0, _)], [3], 4⟩
  obtain ⟨n', rfl⟩ : ∃ n', n = n' + 1 := ⟨n - 1, by omega⟩
  simp only [listGo] at hI hJ
  iterate 2 refine W.seq ?_
  refine W.region ?_
  refine pE rfl ?_
  refine callB [1] [] rfl rfl rfl rfl rfl ((rsg_fn L hw gBar rfl s1 hk hL)) rfl rfl (by rfl) (by rfl) rfl rfl rfl rfl ?_
  refine WO.nil (qs ?_)
  refine condK rfl (fun h24 => ?_) (fun h24 => ?_)
  ·
   have l2 := skB_more hw h24 hk
   have l3 := hgo.lt (adv s1) l2
   have m3 : s1.1 + 1 ≤ (stepP L false (orT false L) (adv s1)).2.1 := hgo.mono (adv s1)
   rw [if_pos h24] at hI hJ
   rw [skS_yes h24]
   refine W.skip (qs (W.block ?_))
   apply W.regionC tab 5 3; (case hB => kernel_rfl); (case h1 => rfl); (case h2 => rfl)
   refine' ccPu ?p1_1 (ev tab rfl) rfl rfl rfl rfl rfl ?h_1
   case' h_1 => skip
   first | (refine' ccPu ?p1_2 (ev tab rfl) rfl rfl rfl rfl rfl ?h_2) | (refine' ccPu ?p1_2 (loadRow tab rfl rfl rfl rfl) rfl rfl rfl rfl rfl ?h_2) | (refine' ccPu ?p1_2 (loadBox tab rfl rfl rfl rfl rfl) rfl rfl rfl rfl rfl ?h_2)
   case' h_2 => skip
   refine' ccPu0 (ev tab rfl) rfl rfl rfl rfl rfl ?h_3
   case' h_3 => skip
   refine' ccX (fun g => ?e_4) rfl rfl rfl ?h_4
   case e_4 =>
    refine callB [1] [] rfl rfl rfl rfl rfl ((rstp_fn L hw hd hL (adv s1) l2)) rfl rfl (by rfl) (by rfl) rfl rfl rfl rfl ?_
    refine WO.nil ?_
    exact ⟨rfl, rfl⟩
   case' h_4 => skip
   case p1_1 => exact (ev tab rfl)
   case p1_2 => first | (exact (ev tab rfl)) | (exact (loadRow tab rfl rfl rfl rfl)) | (exact (loadBox tab rfl rfl rfl rfl rfl))
   refine ccPu1 (buildV tab rfl rfl rfl rfl rfl rfl rfl rfl rfl) rfl rfl rfl rfl rfl ?_
   refine CC.nil ?_
   refine appendM (fn := Stp.c) (a := (stepP L false (orT false L) (adv s1)).1) tab rfl rfl rfl rfl rfl rfl rfl rfl rfl rfl (fun _ => rfl) (by show (acc.length + 1) * 208 ≤ _; omega) ?_
   refine pE rfl ?_
   refine storeR tab rfl rfl rfl rfl rfl rfl rfl rfl ?_
   refine WO.nil (qbN ?_)
   refine W.endR [0, 1, 2, 6] ⟨(n', (stepP L false (orT false L) (adv s1)).2, acc ++ [(stepP L false (orT false L) (adv s1)).1]), ?_⟩ ?_ rfl ?_ trivial ?_ ⟨rfl, rfl, trivial⟩ rfl
   · exact ⟨l3, by omega, by rw [← hI]; simp, hJ, by simp; omega⟩
   · dsimp only; omega
   · repeat' first | exact trivial | refine ⟨rfl, ?_⟩ | refine ⟨step_nat (by assumption) (by assumption), ?_⟩
   · repeat' first | exact trivial | refine ⟨rfl, ?_⟩ | refine ⟨step_nat (by assumption) (by assumption), ?_⟩
  ·
   rw [if_neg (by simp [h24])] at hI hJ
   rw [skS_no h24]
   simp only [List.append_nil] at hI hJ
   have hq : (queryT false L (0, false)).1 = ⟨(nameP L (needP L kwFrom (0, false))).1, acc⟩ := by rw [hI]; rfl
   rw [← hJ, hq] at hqf
   refine W.exit (qsExit (qlExit (qbExit (qs (W.seq (W.region ?_))))))
   refine pE rfl ?_
   refine callB [1] [] rfl rfl rfl rfl rfl ((rfault_fn L hw s1 hk hL)) rfl rfl (by rfl) (by rfl) rfl rfl rfl rfl ?_
   iterate 5 refine pE rfl ?_
   refine WO.nil (qs ?_)
   iterate 2 refine W.seq ?_
   refine W.region ?_
   refine pE rfl ?_
   refine WO.nil (qs ?_)
   refine condK rfl (fun h37 => ?_) (fun h37 => ?_)
   ·
    rw [h37, if_pos rfl] at hqf
    rw [hqf, h37]
    refine W.seq (W.region ?_)
    refine pu (build tab rfl rfl rfl rfl) rfl ?_
    refine pE rfl ?_
    refine storeR tab rfl rfl rfl rfl rfl rfl rfl rfl ?_
    iterate 2 refine pE rfl ?_
    refine WO.nil (qs ?_)
    try refine nilBox 0 1 rfl rfl rfl ?_
    refine W.ret (qsRet ?_)
    refine QV.ret0 tab trivial rfl ?_
    rfl
   ·
    rw [h37, if_neg (by decide)] at hqf
    have hqe : queryF false s = if queryErr ⟨(nameP L (needP L kwFrom (0, false))).1, acc⟩ ≠ 0 then (qry0, 0, queryErr ⟨(nameP L (needP L kwFrom (0, false))).1, acc⟩) else (⟨(nameP L (needP L kwFrom (0, false))).1, acc⟩, 0, 0) := by rw [hqf]; rfl
    refine W.skip (qs (W.seq (W.region ?_)))
    first | refine pE rfl ?_ | refine pR rfl rfl rfl rfl rfl ?_ | refine pB rfl rfl rfl rfl rfl rfl ?_
    refine pu (puCall rfl rfl rfl (rqueryB_fn ⟨(nameP L (needP L kwFrom (0, false))).1, acc⟩) rfl) rfl ?_
    refine pE rfl ?_
    refine WO.nil (qs ?_)
    iterate 2 refine W.seq ?_
    refine W.region ?_
    iterate 2 refine pE rfl ?_
    refine WO.nil (qs ?_)
    refine condK rfl (fun h43 => ?_) (fun h43 => ?_)
    ·
     rw [if_pos (by simpa using h43)] at hqe
     rw [hqe]
     refine W.seq (W.region ?_)
     refine pu (build tab rfl rfl rfl rfl) rfl ?_
     refine pE rfl ?_
     refine storeR tab rfl rfl rfl rfl rfl rfl rfl rfl ?_
     iterate 2 refine pE rfl ?_
     refine WO.nil (qs ?_)
     try refine nilBox 0 1 rfl rfl rfl ?_
     refine W.ret (qsRet ?_)
     refine QV.ret0 tab trivial rfl ?_
     rfl
    ·
     rw [if_neg (by simpa using h43)] at hqe
     rw [hqe]
     refine W.skip (qs (W.seq (W.region ?_)))
     first | refine pE rfl ?_ | refine pR rfl rfl rfl rfl rfl ?_ | refine pB rfl rfl rfl rfl rfl rfl ?_
     refine storeR tab rfl rfl rfl rfl rfl rfl rfl rfl ?_
     iterate 2 refine pE rfl ?_
     refine WO.nil (qs ?_)
     try refine nilBox 0 1 rfl rfl rfl ?_
     refine W.ret ?_
     refine QV.ret0 tab trivial rfl ?_
     rfl
theorem lqueries_fn (s : ByteArray) : Does Tryz.prog 3 [.d (.v (.string s))] (.d (.v (.bool true))) 0 := by
 refine Does.of_W (n := 41) (ts := [2]) Tryz.func3 (by kernel_rfl) rfl Tryz.ntmps3 Tryz.results3 rfl rfl fun C hC hG => ?_
 refine W.seq (W.region ?_)
 refine pE rfl ?_
 refine WO.nil (qs ?_)
 iterate 2 refine W.seq ?_
 refine W.region ?_
 iterate 3 refine pE rfl ?_
 refine WO.nil (qs ?_)
 refine condK rfl (fun h11 => ?_) (fun h11 => ?_)
 ·
  refine W.seq (W.region ?_)
  refine pu (puCall rfl rfl rfl (lives37_fn ..) rfl) rfl ?_
  refine pE rfl ?_
  refine WO.nil (qs (W.ret (qsRet ?_)))
  refine QF.ret0 trivial rfl ?_
  rfl
 ·
  have hs : s.size ≤ 2100 := by simp at h11; omega
  have hq1 := pquery_fn s (by omega)
  have hq2 := rqry_fn s (by omega)
  rw [← queryF_eq] at hq2
  refine W.skip (qs (W.seq (W.region ?_)))
  refine pE rfl ?_
  refine pu (puCall rfl rfl rfl hq1 rfl) rfl ?_
  iterate 4 refine pE rfl ?_
  refine allocR tab rfl rfl rfl ?_
  refine storeR tab rfl rfl rfl rfl rfl rfl rfl rfl ?_
  iterate 2 refine pE rfl ?_
  refine WO.nil (qs (W.seq (W.region ?_)))
  refine pE rfl ?_
  refine pu (puCall rfl rfl rfl hq2 rfl) rfl ?_
  iterate 4 refine pE rfl ?_
  refine allocR tab rfl rfl rfl ?_
  refine storeR tab rfl rfl rfl rfl rfl rfl rfl rfl ?_
  iterate 2 refine pE rfl ?_
  refine WO.nil (qs (W.seq ?_))
  apply regionB; (case hb => rfl)
  ·
   first | refine pE rfl ?_ | refine pR rfl rfl rfl rfl rfl ?_ | refine pB rfl rfl rfl rfl rfl rfl ?_
   first | refine pE rfl ?_ | refine pR rfl rfl rfl rfl rfl ?_ | refine pB rfl rfl rfl rfl rfl rfl ?_
   refine pu (puCall rfl rfl rfl (sameQ_fn (queryF true s).1) rfl) rfl ?_
   refine pE rfl ?_
   apply splitJ; (case hj => rfl); (case hl => rfl)
   ·
    refine goG rfl rfl ?_
    refine pE rfl ?_
    refine goG rfl rfl ?_
    refine pE rfl ?_
    refine goG rfl rfl ?_
    iterate 3 refine pE rfl ?_
    apply splitJ; (case hj => rfl); (case hl => rfl)
    ·
     refine goG rfl rfl ?_
     refine pE rfl ?_
     refine goG rfl rfl ?_
     refine pE rfl ?_
     refine goG rfl rfl ?_
     iterate 3 refine pE rfl ?_
     apply splitJ; (case hj => rfl); (case hl => rfl)
     ·
      refine goG rfl rfl ?_
      refine pu (puCall rfl rfl rfl (lives37_fn ..) rfl) rfl ?_
      iterate 2 refine pE rfl ?_
      refine WO.nil ?_
      refine qv1 rfl rfl rfl
     ·
      refine skipT rfl rfl rfl rfl ?_
      iterate 2 refine pE rfl ?_
      refine WO.nil ?_
      refine qv1 rfl rfl rfl
    ·
     iterate 3 refine skipT rfl rfl rfl rfl ?_
     iterate 2 refine pE rfl ?_
     refine skipT rfl rfl rfl rfl ?_
     iterate 2 refine pE rfl ?_
     refine WO.nil ?_
     refine qv1 rfl rfl rfl
   ·
    iterate 3 refine skipT rfl rfl rfl rfl ?_
    iterate 2 refine pE rfl ?_
    iterate 3 refine skipT rfl rfl rfl rfl ?_
    iterate 2 refine pE rfl ?_
    refine skipT rfl rfl rfl rfl ?_
    iterate 2 refine pE rfl ?_
    refine WO.nil ?_
    refine qv1 rfl rfl rfl
  refine qs (W.ret ?_)
  refine QF.ret0 trivial rfl ?_
  simp
  try rfl
end Go.Proofs.YtifeonoehfffmaaGreatDoor
