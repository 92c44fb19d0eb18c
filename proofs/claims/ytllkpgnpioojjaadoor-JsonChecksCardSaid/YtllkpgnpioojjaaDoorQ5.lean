import Derived.Test.YtllkpgnpioojjaaDoorQ4
namespace Go.Proofs.YtllkpgnpioojjaaDoor
open Go.Ab Go.Tb
set_option maxRecDepth 10000
attribute [local irreducible] W WO Pu QS QB QL QF QV QV1 CH QE
theorem fails_fn (a w : Int) : DoesP Tryd.prog 34 [.d (.v (.int .i64 a)), .d (.v (.int .i64 w))] [] 0 (.iface 57 (.agg #[.int .i64 a, .int .i64 w])) := by
 refine DoesP.of_W (n := 8) Tryd.func34 (by kernel_rfl) rfl Tryd.ntmps34 rfl fun C hC hG => ?_
 refine W.region ?_
 iterate 2 refine pE rfl ?_
 refine pu (build tab rfl rfl rfl rfl) rfl ?_
 refine pu (mkIface (l := [.int .i64 a, .int .i64 w]) tab rfl rfl rfl) rfl ?_
 refine panicO rfl (fun st' => ?_)
 repeat' first | refine qsPan ?_ | refine qbPan ?_ | refine qlPan ?_ | refine qcPan ?_
 exact rfl
theorem here_at {s : ByteArray} {i : Nat} (h : i < s.size) : (bys s)[i]? = some (hereB (bys s) i) := by
 have : i < (bys s).length := by rw [bytes_len]; exact h
 rw [List.getElem?_eq_getElem this]
 simp [hereB, List.getD_eq_getElem?_getD, List.getElem?_eq_getElem this]
theorem here_fn (s : ByteArray) (i : Nat) : DoesB Tryd.prog 56 [.ptr 0 0] [pbox s i] 0 (.d (.v (.int .u8 (hereB (bys s) i).toNat))) [pbox s i] 0 := by
 refine DoesB.of_V tab (n := 22) (rs := [.tmp 2]) Tryd.func56 (by kernel_rfl) rfl Tryd.ntmps56 Tryd.results56 rfl rfl fun C hC hG => ?_
 refine W.seq (W.region ?_)
 refine pE rfl ?_
 refine WO.nil (qs ?_)
 iterate 2 refine W.seq ?_
 refine W.regionD tab (by kernel_rfl) ?_
 iterate 3 refine chPu (ev tab rfl) rfl ?_
 first | refine chPu (ev tab rfl) rfl ?_ | refine chPu (loadRow tab rfl rfl rfl rfl) rfl ?_ | refine chPu (loadBox tab rfl rfl rfl rfl rfl) rfl ?_
 iterate 3 refine chPu (ev tab rfl) rfl ?_
 first | refine chPu (ev tab rfl) rfl ?_ | refine chPu (loadRow tab rfl rfl rfl rfl) rfl ?_ | refine chPu (loadBox tab rfl rfl rfl rfl rfl) rfl ?_
 iterate 2 refine chPu (ev tab rfl) rfl ?_
 refine CH.nil ?_
 refine qs ?_
 refine condK rfl (fun h12 => ?_) (fun h12 => ?_)
 ·
  have hg : hereB (bys s) i = 0 := here_end (by rw [bytes_len]; simpa using h12)
  refine W.seq (W.region ?_)
  refine pE rfl ?_
  refine WO.nil (qs (W.ret (qsRet ?_)))
  refine QB1.end tab [] trivial rfl rfl rfl rfl ?_ ?_
  · exact ⟨rfl, trivial⟩
  rw [hg]; rfl
 ·
  have hb := here_at (s := s) (i := i) (by simpa using h12)
  refine W.skip (qs (W.seq ?_))
  refine W.regionD tab (by kernel_rfl) ?_
  iterate 3 refine chPu (ev tab rfl) rfl ?_
  first | refine chPu (ev tab rfl) rfl ?_ | refine chPu (loadRow tab rfl rfl rfl rfl) rfl ?_ | refine chPu (loadBox tab rfl rfl rfl rfl rfl) rfl ?_
  iterate 3 refine chPu (ev tab rfl) rfl ?_
  first | refine chPu (ev tab rfl) rfl ?_ | refine chPu (loadRow tab rfl rfl rfl rfl) rfl ?_ | refine chPu (loadBox tab rfl rfl rfl rfl rfl) rfl ?_
  refine chPu (indexStr tab rfl rfl rfl rfl (Int.natCast_nonneg _) (byteList hb)) rfl ?_
  refine chPu (ev tab rfl) rfl ?_
  refine CH.nil ?_
  refine qs (W.ret ?_)
  refine QB1.end tab [] trivial rfl rfl rfl rfl ?_ ?_
  · exact ⟨rfl, trivial⟩
  rfl
end Go.Proofs.YtllkpgnpioojjaaDoor
namespace Go.Proofs.YtllkpgnpioojjaaDoor
open Go.Ab Go.Tb
set_option maxRecDepth 10000
attribute [local irreducible] W WO Pu QS QB QL QF QV QV1 CH QE
theorem isWs_idx (b : UInt8) : decide (0 ≤ Lib.indexByte (bys (B #[32, 9, 10, 13])) b) = isWs b := by
 rw [Bool.eq_iff_iff, decide_eq_true_eq, indexByte_ge0]
 unfold isWs
 simp only [bys, Bool.or_eq_true, decide_eq_true_eq]
 show b ∈ [32, 9, 10, 13] ↔ _
 simp only [List.mem_cons, List.mem_nil_iff, or_false, ← UInt8.toNat_inj]
 rfl
theorem peek_fn (s : ByteArray) (i : Nat) (hi : i ≤ s.size) (hs : s.size ≤ 1000000000) : DoesB Tryd.prog 33 [.ptr 0 0] [pbox s i] 0 (.d (.v (.int .u8 (hereB (bys s) (skipB (bys s) i)).toNat))) [pbox s (skipB (bys s) i)] 0 := by
 refine DoesB.of_V tab (n := 35) (rs := [.tmp 2]) Tryd.func33 (by kernel_rfl) rfl Tryd.ntmps33 Tryd.results33 rfl rfl fun C hC hG => ?_
 refine W.seq (W.region ?_)
 refine pE rfl ?_
 refine WO.nil (qs (W.seq (W.block ?_)))
 refine W.loopR (ι := {x : Nat // match x with | j => j ≤ s.size ∧ skipB (bys s) j = skipB (bys s) i})
  (fun x => match x.1 with | j => [(0, .ptr 0 0)]) []
  (fun x => match x.1 with | j => [(0, [.d (cs s), .d (.v (.int .i64 (j : Int)))])]) [] [] 1 (fun x => match x.1 with | j => s.size - j)
  [0] ⟨i, ?_⟩ rfl ?_ trivial ?_ trivial rfl ?_
 · exact ⟨hi, rfl⟩
 · repeat' first | exact trivial | refine ⟨rfl, ?_⟩ | refine ⟨congrArg some (renL_boxE _ _ _), ?_⟩ | refine ⟨step_nat (by assumption) (by assumption), ?_⟩
 · repeat' first | exact trivial | refine ⟨rfl, ?_⟩ | refine ⟨congrArg some (renL_boxE _ _ _), ?_⟩ | refine ⟨step_nat (by assumption) (by assumption), ?_⟩
 rintro ⟨j, hk, hI⟩
 show W _ _ _ _ _ ⟨[(0, .ptr 0 0)], [(0, [.d (cs s), .d (.v (.int .i64 (j : Int)))])], [], 1⟩
 iterate 2 refine W.seq ?_
 apply regionDB tab; (case hb => rfl); (case hB => kernel_rfl)
 ·
  iterate 3 refine chPu (ev tab rfl) rfl ?_
  first | refine chPu (ev tab rfl) rfl ?_ | refine chPu (loadRow tab rfl rfl rfl rfl) rfl ?_ | refine chPu (loadBox tab rfl rfl rfl rfl rfl) rfl ?_
  iterate 3 refine chPu (ev tab rfl) rfl ?_
  first | refine chPu (ev tab rfl) rfl ?_ | refine chPu (loadRow tab rfl rfl rfl rfl) rfl ?_ | refine chPu (loadBox tab rfl rfl rfl rfl rfl) rfl ?_
  iterate 3 refine chPu (ev tab rfl) rfl ?_
  apply chSplitH; (case hj => rfl); (case hl => rfl)
  ·
   intro g13
   refine chGo rfl rfl (ev tab rfl) rfl ?_
   refine chGo rfl rfl (ev tab rfl) rfl ?_
   refine chGo rfl rfl (ev tab rfl) rfl ?_
   first | refine chGo rfl rfl (ev tab rfl) rfl ?_ | refine chGo rfl rfl (loadRow tab rfl rfl rfl rfl) rfl ?_ | refine chGo rfl rfl (loadBox tab rfl rfl rfl rfl rfl) rfl ?_
   refine chGo rfl rfl (ev tab rfl) rfl ?_
   refine chGo rfl rfl (ev tab rfl) rfl ?_
   refine chGo rfl rfl (ev tab rfl) rfl ?_
   first | refine chGo rfl rfl (ev tab rfl) rfl ?_ | refine chGo rfl rfl (loadRow tab rfl rfl rfl rfl) rfl ?_ | refine chGo rfl rfl (loadBox tab rfl rfl rfl rfl rfl) rfl ?_
   refine chGo rfl rfl (indexStr tab rfl rfl rfl rfl (Int.natCast_nonneg _) (byteList (here_at (s := s) (i := j) (by simpa using g13)))) rfl ?_
   refine chGo rfl rfl (puCall rfl rfl rfl (sixb_fn (B #[32, 9, 10, 13]) (hereB (bys s) j)) rfl) rfl ?_
   refine chGo rfl rfl (ev tab rfl) rfl ?_
   refine chPu (ev tab rfl) rfl ?_
   refine CH.nil ?_
   refine qv1 rfl rfl rfl
  ·
   intro g13
   iterate 11 refine chSkip rfl rfl rfl rfl ?_
   refine chPu (ev tab rfl) rfl ?_
   refine CH.nil ?_
   refine qv1 rfl rfl rfl
 refine qs ?_
 refine condK rfl (fun h25 => ?_) (fun h25 => ?_)
 ·
  have q : j < s.size ∧ isWs (hereB (bys s) j) = true := by revert h25; rw [isWs_idx]; simp
  have hst := skipB_step (l := bys s) (i := j) (by rw [bytes_len]; exact q.1) q.2
  refine W.skip (qs (W.block (W.region ?_)))
  iterate 3 refine pE rfl ?_
  first | refine pE rfl ?_ | refine pR rfl rfl rfl rfl rfl ?_ | refine pB rfl rfl rfl rfl rfl rfl ?_
  refine pu (puI (ev tab rfl) (y := ((j + 1 : Nat) : Int)) (wrap64 (by omega))) rfl ?_
  iterate 2 refine pE rfl ?_
  refine storeR tab rfl rfl rfl rfl rfl rfl rfl rfl ?_
  refine WO.nil (qbN ?_)
  refine W.endR [0] ⟨j + 1, ?_⟩ ?_ rfl ?_ trivial ?_ trivial rfl
  · exact ⟨q.1, by rw [← hst, hI]⟩
  · dsimp only; omega
  · repeat' first | exact trivial | refine ⟨rfl, ?_⟩ | refine ⟨congrArg some (renL_boxE _ _ _), ?_⟩ | refine ⟨step_nat (by assumption) (by assumption), ?_⟩
  · repeat' first | exact trivial | refine ⟨rfl, ?_⟩ | refine ⟨congrArg some (renL_boxE _ _ _), ?_⟩ | refine ⟨step_nat (by assumption) (by assumption), ?_⟩
 ·
  have q : skipB (bys s) i = j := by
   rw [← hI]
   by_cases q1 : j < s.size
   · exact skipB_stay (by revert h25; rw [isWs_idx]; simp [q1])
   · exact skipB_end (by rw [bytes_len]; omega)
  refine W.exit (qsExit (qlExit (qbExit (qs (W.seq (W.region ?_))))))
  refine pE rfl ?_
  refine callB [0] [] rfl rfl rfl rfl rfl ((here_fn s j)) rfl rfl (by rfl) (by rfl) rfl rfl rfl rfl ?_
  refine pE rfl ?_
  refine WO.nil (qs (W.ret ?_))
  refine QB1.end tab [] trivial rfl rfl rfl rfl ?_ ?_
  · rw [q]; exact ⟨rfl, trivial⟩
  rw [q]; rfl
theorem take_fn (s : ByteArray) (c : UInt8) (i : Nat) (hs : s.size ≤ 1000000000) : DoesE Tryd.prog 70 [.ptr 0 0, .d (.v (.int .u8 c.toNat))] [pbox s i] 0 (outP 57 s (fun _ => .tup []) (takeJ (bys s) c i)) := by
 refine DoesE.of_V tab (n := 39) (rs := []) Tryd.func70 (by kernel_rfl) rfl Tryd.ntmps70 Tryd.results70 rfl (outP_len ..) fun C hC hG => ?_
 iterate 2 refine W.seq ?_
 apply regionDB tab; (case hb => rfl); (case hB => kernel_rfl)
 ·
  iterate 3 refine chPu (ev tab rfl) rfl ?_
  first | refine chPu (ev tab rfl) rfl ?_ | refine chPu (loadRow tab rfl rfl rfl rfl) rfl ?_ | refine chPu (loadBox tab rfl rfl rfl rfl rfl) rfl ?_
  iterate 3 refine chPu (ev tab rfl) rfl ?_
  first | refine chPu (ev tab rfl) rfl ?_ | refine chPu (loadRow tab rfl rfl rfl rfl) rfl ?_ | refine chPu (loadBox tab rfl rfl rfl rfl rfl) rfl ?_
  iterate 3 refine chPu (ev tab rfl) rfl ?_
  apply chSplitH; (case hj => rfl); (case hl => rfl)
  ·
   intro g14
   iterate 11 refine chSkip rfl rfl rfl rfl ?_
   refine chPu (ev tab rfl) rfl ?_
   refine CH.nil ?_
   refine qv1 rfl rfl rfl
  ·
   intro g14
   refine chGo rfl rfl (ev tab rfl) rfl ?_
   refine chGo rfl rfl (ev tab rfl) rfl ?_
   refine chGo rfl rfl (ev tab rfl) rfl ?_
   first | refine chGo rfl rfl (ev tab rfl) rfl ?_ | refine chGo rfl rfl (loadRow tab rfl rfl rfl rfl) rfl ?_ | refine chGo rfl rfl (loadBox tab rfl rfl rfl rfl rfl) rfl ?_
   refine chGo rfl rfl (ev tab rfl) rfl ?_
   refine chGo rfl rfl (ev tab rfl) rfl ?_
   refine chGo rfl rfl (ev tab rfl) rfl ?_
   first | refine chGo rfl rfl (ev tab rfl) rfl ?_ | refine chGo rfl rfl (loadRow tab rfl rfl rfl rfl) rfl ?_ | refine chGo rfl rfl (loadBox tab rfl rfl rfl rfl rfl) rfl ?_
   refine chGo rfl rfl (indexStr tab rfl rfl rfl rfl (Int.natCast_nonneg _) (byteList (here_at (s := s) (i := i) (by simpa using g14)))) rfl ?_
   refine chGo rfl rfl (ev tab rfl) rfl ?_
   refine chGo rfl rfl (ev tab rfl) rfl ?_
   refine chPu (ev tab rfl) rfl ?_
   refine CH.nil ?_
   refine qv1 rfl rfl rfl
 refine qs ?_
 refine condK rfl (fun h26 => ?_) (fun h26 => ?_)
 ·
  have hx : takeJ (bys s) c i = .no i 10 := by
   unfold takeJ
   rw [if_neg]
   rintro ⟨q1, q2⟩
   rw [bytes_len] at q1
   revert h26; simp [q1, q2]
  refine W.region ?_
  iterate 3 refine pE rfl ?_
  first | refine pE rfl ?_ | refine pR rfl rfl rfl rfl rfl ?_ | refine pB rfl rfl rfl rfl rfl rfl ?_
  refine callP [] [] rfl rfl rfl rfl rfl (fails_fn i 10) rfl rfl (by rfl) (fun st' => ?_)
  repeat' first | refine qsPan ?_ | refine qbPan ?_ | refine qlPan ?_ | refine qcPan ?_
  exact qxPan (outP_no hx)
 ·
  have hx : takeJ (bys s) c i = .ok () (i + 1) ∧ i < s.size := by
   have q : i < s.size ∧ hereB (bys s) i = c := by
    revert h26; simp; intro q1 q2; exact ⟨q1, UInt8.toNat_inj.1 (by omega)⟩
   exact ⟨by unfold takeJ; rw [if_pos ⟨by rw [bytes_len]; exact q.1, q.2⟩], q.1⟩
  refine W.skip (qs (W.region ?_))
  iterate 3 refine pE rfl ?_
  first | refine pE rfl ?_ | refine pR rfl rfl rfl rfl rfl ?_ | refine pB rfl rfl rfl rfl rfl rfl ?_
  refine pu (puI (ev tab rfl) (y := ((i + 1 : Nat) : Int)) (wrap64 (by omega))) rfl ?_
  iterate 2 refine pE rfl ?_
  refine storeR tab rfl rfl rfl rfl rfl rfl rfl rfl ?_
  refine WO.nil ?_
  refine qxRet (outP_ok (hx.1)) ?_
  refine QB1.end tab [] trivial rfl rfl rfl rfl ?_ ?_
  · exact ⟨rfl, trivial⟩
  rfl
end Go.Proofs.YtllkpgnpioojjaaDoor
namespace Go.Proofs.YtllkpgnpioojjaaDoor
open Go.Ab Go.Tb
set_option maxRecDepth 10000
attribute [local irreducible] W WO Pu QS QB QL QF QV QV1 CH QE
theorem word_fn (s w : ByteArray) (i : Nat) (hs : s.size ≤ 1000000000) : DoesE Tryd.prog 50 [.ptr 0 0, .d (.v (.string w))] [pbox s i] 0 (outP 57 s (fun _ => .tup []) (wordJ (bys s) (bys w) i)) := by
 refine DoesE.of_V tab (n := 16) (rs := []) Tryd.func50 (by kernel_rfl) rfl Tryd.ntmps50 Tryd.results50 rfl (outP_len ..) fun C hC hG => ?_
 refine W.seq (W.region ?_)
 iterate 3 refine pE rfl ?_
 refine WO.nil (qs (W.block ?_))
 refine W.inRange (t := 1) rfl (fun hok => ?_)
 have hlen := okc_size hok
 refine W.loopR (ι := {x : Nat × Nat // match x with | (k, j) => k ≤ (bys w).length ∧ wordJ (bys s) ((bys w).drop k) j = wordJ (bys s) (bys w) i})
  (fun x => match x.1 with | (k, j) => [(0, .ptr 0 0), (7, .d (.v (.int .i64 ((k : Nat) : Int))))]) [(1, _), (6, _)]
  (fun x => match x.1 with | (k, j) => [(0, [.d (cs s), .d (.v (.int .i64 (j : Int)))])]) [] [] 1 (fun x => match x.1 with | (k, j) => (bys w).length - k)
  [0] ⟨(0, i), ?_⟩ rfl ?_ ⟨rfl, rfl, rfl, rfl, trivial⟩ ?_ trivial rfl ?_
 · exact ⟨Nat.zero_le _, rfl⟩
 · repeat' first | exact trivial | refine ⟨rfl, ?_⟩ | refine ⟨congrArg some (renL_boxE _ _ _), ?_⟩ | refine ⟨step_nat (by assumption) (by assumption), ?_⟩
 · repeat' first | exact trivial | refine ⟨rfl, ?_⟩ | refine ⟨congrArg some (renL_boxE _ _ _), ?_⟩ | refine ⟨step_nat (by assumption) (by assumption), ?_⟩
 rintro ⟨⟨k, j⟩, hk, hI⟩
 show W _ _ _ _ _ ⟨[(0, .ptr 0 0), (7, .d (.v (.int .i64 ((k : Nat) : Int)))), (1, _), (6, _)], [(0, [.d (cs s), .d (.v (.int .i64 (j : Int)))])], [], 1⟩
 refine W.seq (W.region ?_)
 refine pE rfl ?_
 refine WO.nil (qs (W.seq ?_))
 refine eachR (l := bys w) (k := k) rfl (by simp [Ex.kc_len, bytes_len]) hk (fun b hx hd hlt => ?_) (fun he hd => ?_)
 ·
  rw [hd] at hI
  simp only [wordJ] at hI
  refine W.skip (qs (W.seq (W.block (W.seq (W.region ?_)))))
  iterate 2 refine pE rfl ?_
  refine WO.nil (qs (W.region ?_))
  iterate 3 refine pE rfl ?_
  refine pu (indexStr tab rfl rfl rfl rfl (Int.natCast_nonneg _) (byteList (by assumption))) rfl ?_
  cases hc14 : takeJ (bys s) b j with
  | no a14 w14 =>
   refine callP [0] [] rfl rfl rfl rfl rfl ((take_fn s b j hs).pan (outP_no hc14)) rfl rfl (by rfl) (fun st' => ?_)
   repeat' first | refine qsPan ?_ | refine qbPan ?_ | refine qlPan ?_ | refine qcPan ?_
   refine qxPan (outP_no (by rw [← hI, hc14]))
  | ok y14 i14 =>
   refine callB [0] [] rfl rfl rfl rfl rfl ((take_fn s b j hs).ret (outP_ok hc14)) rfl rfl (by rfl) (by rfl) rfl rfl rfl rfl ?_
   refine WO.nil (qbN (qs (W.region ?_)))
   iterate 2 refine pE rfl ?_
   refine WO.nil ?_
   refine W.endR [0] ⟨(k + 1, i14), ?_⟩ ?_ rfl ?_ ⟨rfl, rfl, rfl, rfl, trivial⟩ ?_ trivial rfl
   · exact ⟨hlt, by rw [← hI, hc14]⟩
   · dsimp only; omega
   · repeat' first | exact trivial | refine ⟨rfl, ?_⟩ | refine ⟨congrArg some (renL_boxE _ _ _), ?_⟩ | refine ⟨step_nat (by assumption) (by assumption), ?_⟩
   · repeat' first | exact trivial | refine ⟨rfl, ?_⟩ | refine ⟨congrArg some (renL_boxE _ _ _), ?_⟩ | refine ⟨step_nat (by assumption) (by assumption), ?_⟩
 ·
  rw [hd] at hI
  simp only [wordJ] at hI
  refine W.exit (qsExit (qlExit (qbExit ?_)))
  refine qxRet (outP_ok (hI.symm)) ?_
  refine QB1.end tab [] trivial rfl rfl rfl rfl ?_ ?_
  · exact ⟨rfl, trivial⟩
  rfl
def nextJ (l : List UInt8) (c : UInt8) (i : Nat) : PE Bool :=
 if hereB l (skipB l i) = 44 then .ok true (skipB l i + 1) else match takeJ l c (skipB l i) with | .no a w => .no a w | .ok _ j => .ok false j
theorem next_fn (s : ByteArray) (c : UInt8) (i : Nat) (hi : i ≤ s.size) (hs : s.size ≤ 1000000000) : DoesE Tryd.prog 72 [.ptr 0 0, .d (.v (.int .u8 c.toNat))] [pbox s i] 0 (outP 57 s (fun b => .d (.v (.bool b))) (nextJ (bys s) c i)) := by
 have hle : skipB (bys s) i ≤ s.size := by have := skipB_le (l := bys s) (i := i) (by rw [bytes_len]; exact hi); rwa [bytes_len] at this
 refine DoesE.of_V tab (n := 18) (rs := [.tmp 4]) Tryd.func72 (by kernel_rfl) rfl Tryd.ntmps72 Tryd.results72 rfl (outP_len ..) fun C hC hG => ?_
 refine W.seq (W.region ?_)
 refine pE rfl ?_
 refine WO.nil (qs ?_)
 iterate 2 refine W.seq ?_
 refine W.region ?_
 refine pE rfl ?_
 refine callB [0] [] rfl rfl rfl rfl rfl ((peek_fn s i hi hs)) rfl rfl (by rfl) (by rfl) rfl rfl rfl rfl ?_
 refine pE rfl ?_
 refine WO.nil (qs ?_)
 refine condK rfl (fun h7 => ?_) (fun h7 => ?_)
 ·
  have q : hereB (bys s) (skipB (bys s) i) = 44 := UInt8.toNat_inj.1 (by show _ = 44; simp at h7; omega)
  have hg : nextJ (bys s) c i = .ok true (skipB (bys s) i + 1) := by unfold nextJ; rw [if_pos q]
  refine W.seq (W.region ?_)
  iterate 3 refine pE rfl ?_
  first | refine pE rfl ?_ | refine pR rfl rfl rfl rfl rfl ?_ | refine pB rfl rfl rfl rfl rfl rfl ?_
  refine pu (puI (ev tab rfl) (y := ((skipB (bys s) i + 1 : Nat) : Int)) (wrap64 (by omega))) rfl ?_
  iterate 2 refine pE rfl ?_
  refine storeR tab rfl rfl rfl rfl rfl rfl rfl rfl ?_
  refine WO.nil (qs (W.seq (W.region ?_)))
  refine pE rfl ?_
  refine WO.nil (qs (W.ret (qsRet ?_)))
  refine qxRet (outP_ok (hg)) ?_
  refine QB1.end tab [] trivial rfl rfl rfl rfl ?_ ?_
  · exact ⟨rfl, trivial⟩
  rfl
 ·
  have q : ¬ hereB (bys s) (skipB (bys s) i) = 44 := by intro q; rw [q] at h7; simp at h7
  have hg : nextJ (bys s) c i = match takeJ (bys s) c (skipB (bys s) i) with | .no a w => .no a w | .ok _ j => .ok false j := by unfold nextJ; rw [if_neg q]
  refine W.skip (qs (W.seq (W.region ?_)))
  iterate 2 refine pE rfl ?_
  cases hc17 : takeJ (bys s) c (skipB (bys s) i) with
  | no a17 w17 =>
   refine callP [0] [] rfl rfl rfl rfl rfl ((take_fn s c (skipB (bys s) i) hs).pan (outP_no hc17)) rfl rfl (by rfl) (fun st' => ?_)
   repeat' first | refine qsPan ?_ | refine qbPan ?_ | refine qlPan ?_ | refine qcPan ?_
   refine qxPan (outP_no (by rw [hg, hc17]))
  | ok y17 i17 =>
   refine callB [0] [] rfl rfl rfl rfl rfl ((take_fn s c (skipB (bys s) i) hs).ret (outP_ok hc17)) rfl rfl (by rfl) (by rfl) rfl rfl rfl rfl ?_
   refine WO.nil (qs (W.seq (W.region ?_)))
   refine pE rfl ?_
   refine WO.nil (qs (W.ret ?_))
   refine qxRet (outP_ok ((by rw [hg, hc17]))) ?_
   refine QB1.end tab [] trivial rfl rfl rfl rfl ?_ ?_
   · exact ⟨rfl, trivial⟩
   rfl
def digitJ (l : List UInt8) (i : Nat) : PE Nat := match hexV (hereB l i) with | some n => .ok n i | none => .no i 10
theorem orFin : ∀ n : Fin 256, IntKind.u8.wrap (((BitVec.ofInt IntKind.u8.bits (n.val : Int)) ||| BitVec.ofInt IntKind.u8.bits 32).toNat : Int) = (((UInt8.ofNat n.val) ||| 32).toNat : Int) := by decide +kernel
theorem or32 (b : UInt8) : IntKind.u8.wrap (((BitVec.ofInt IntKind.u8.bits (b.toNat : Int)) ||| BitVec.ofInt IntKind.u8.bits 32).toNat : Int) = ((b ||| 32).toNat : Int) := by
 have h := orFin ⟨b.toNat, b.toNat_lt⟩
 rw [h]
 simp
theorem digit_fn (s : ByteArray) (i : Nat) : DoesE Tryd.prog 81 [.ptr 0 0] [pbox s i] 0 (outP 57 s (fun n : Nat => .d (.v (.int .i64 (n : Int)))) (digitJ (bys s) i)) := by
 have hlt : (hereB (bys s) i).toNat < 256 := (hereB (bys s) i).toNat_lt
 have hlt2 : (hereB (bys s) i ||| 32).toNat < 256 := (hereB (bys s) i ||| 32).toNat_lt
 refine DoesE.of_V tab (n := 35) (rs := [.tmp 2]) Tryd.func81 (by kernel_rfl) rfl Tryd.ntmps81 Tryd.results81 rfl (outP_len ..) fun C hC hG => ?_
 refine W.seq (W.region ?_)
 refine pE rfl ?_
 refine WO.nil (qs ?_)
 iterate 2 refine W.seq ?_
 refine W.region ?_
 refine pE rfl ?_
 refine callB [0] [] rfl rfl rfl rfl rfl ((here_fn s i)) rfl rfl (by rfl) (by rfl) rfl rfl rfl rfl ?_
 refine pE rfl ?_
 refine WO.nil (qs (W.block (W.seq ?_)))
 apply regionB; (case hb => rfl)
 ·
  iterate 3 refine pE rfl ?_
  apply splitJ; (case hj => rfl); (case hl => rfl)
  ·
   refine goG rfl rfl ?_
   refine pE rfl ?_
   refine goG rfl rfl ?_
   iterate 3 refine pE rfl ?_
   refine WO.nil ?_
   refine qv1 rfl rfl rfl
  ·
   iterate 2 refine skipT rfl rfl rfl rfl ?_
   iterate 2 refine pE rfl ?_
   refine WO.nil ?_
   refine qv1 rfl rfl rfl
 refine qs ?_
 refine condK rfl (fun h6 => ?_) (fun h6 => ?_)
 ·
  have q : 48 ≤ (hereB (bys s) i).toNat ∧ (hereB (bys s) i).toNat ≤ 57 := by revert h6; simp; omega
  have hg : digitJ (bys s) i = .ok ((hereB (bys s) i).toNat - 48) i := by unfold digitJ hexV; rw [if_pos q]
  refine W.seq (W.region ?_)
  refine pE rfl ?_
  refine pu (puI (ev tab rfl) (y := (((hereB (bys s) i).toNat - 48 : Nat) : Int)) (Eq.trans (wrap_u8 (by omega)) (by omega))) rfl ?_
  refine pu (puI (ev tab rfl) (y := (((hereB (bys s) i).toNat - 48 : Nat) : Int)) (wrap64 (by omega))) rfl ?_
  refine pE rfl ?_
  refine WO.nil (qs (W.ret (qbRet (qsRet ?_))))
  refine qxRet (outP_ok (hg)) ?_
  refine QB1.end tab [] trivial rfl rfl rfl rfl ?_ ?_
  · exact ⟨rfl, trivial⟩
  rfl
 ·
  have q : ¬ (48 ≤ (hereB (bys s) i).toNat ∧ (hereB (bys s) i).toNat ≤ 57) := by revert h6; simp; omega
  refine W.seq ?_
  apply regionB; (case hb => rfl)
  ·
   refine pE rfl ?_
   refine pu (puI (ev tab rfl) (or32 (hereB (bys s) i))) rfl ?_
   iterate 2 refine pE rfl ?_
   apply splitJ; (case hj => rfl); (case hl => rfl)
   ·
    refine goG rfl rfl ?_
    refine pE rfl ?_
    refine goG rfl rfl ?_
    refine pu (puI (ev tab rfl) (or32 (hereB (bys s) i))) rfl ?_
    refine goG rfl rfl ?_
    iterate 3 refine pE rfl ?_
    refine WO.nil ?_
    refine qv1 rfl rfl rfl
   ·
    iterate 3 refine skipT rfl rfl rfl rfl ?_
    iterate 2 refine pE rfl ?_
    refine WO.nil ?_
    refine qv1 rfl rfl rfl
  refine qs ?_
  refine condK rfl (fun h16 => ?_) (fun h16 => ?_)
  ·
   have q2 : 97 ≤ (hereB (bys s) i ||| 32).toNat ∧ (hereB (bys s) i ||| 32).toNat ≤ 102 := by revert h16; simp only [Bool.cond_false_right, Bool.and_eq_true, decide_eq_true_eq]; omega
   have hg : digitJ (bys s) i = .ok ((hereB (bys s) i ||| 32).toNat - 97 + 10) i := by unfold digitJ hexV; rw [if_neg q, if_pos q2]
   refine W.seq (W.region ?_)
   refine pE rfl ?_
   refine pu (puI (ev tab rfl) (or32 (hereB (bys s) i))) rfl ?_
   refine pu (puI (ev tab rfl) (y := (((hereB (bys s) i ||| 32).toNat - 97 : Nat) : Int)) (Eq.trans (wrap_u8 (by omega)) (by omega))) rfl ?_
   refine pu (puI (ev tab rfl) (y := (((hereB (bys s) i ||| 32).toNat - 97 : Nat) : Int)) (wrap64 (by omega))) rfl ?_
   refine pu (puI (ev tab rfl) (y := (((hereB (bys s) i ||| 32).toNat - 97 + 10 : Nat) : Int)) (Eq.trans (wrap64 (by omega)) (by omega))) rfl ?_
   refine pE rfl ?_
   refine WO.nil (qs (W.ret (qbRet (qsRet ?_))))
   refine qxRet (outP_ok (hg)) ?_
   refine QB1.end tab [] trivial rfl rfl rfl rfl ?_ ?_
   · exact ⟨rfl, trivial⟩
   rfl
  ·
   have q2 : ¬ (97 ≤ (hereB (bys s) i ||| 32).toNat ∧ (hereB (bys s) i ||| 32).toNat ≤ 102) := by revert h16; simp only [Bool.cond_false_right, Bool.and_eq_false_iff, decide_eq_false_iff_not]; omega
   have hg : digitJ (bys s) i = .no i 10 := by unfold digitJ hexV; rw [if_neg q, if_neg q2]
   refine W.skip (qbN (qs (W.seq (W.region ?_))))
   iterate 3 refine pE rfl ?_
   first | refine pE rfl ?_ | refine pR rfl rfl rfl rfl rfl ?_ | refine pB rfl rfl rfl rfl rfl rfl ?_
   refine callP [] [] rfl rfl rfl rfl rfl (fails_fn i 10) rfl rfl (by rfl) (fun st' => ?_)
   repeat' first | refine qsPan ?_ | refine qbPan ?_ | refine qlPan ?_ | refine qcPan ?_
   exact qxPan (outP_no hg)
end Go.Proofs.YtllkpgnpioojjaaDoor
namespace Go.Proofs.YtllkpgnpioojjaaDoor
open Go.Ab Go.Tb
set_option maxRecDepth 10000
attribute [local irreducible] W WO Pu QS QB QL QF QV QV1 CH QE
def escR (l : List UInt8) (i : Nat) : PE UInt8 := match wordJ l [117, 48, 48] i with
 | .no a w => .no a w
 | .ok _ j => match digitJ l j with
  | .no a w => .no a w
  | .ok high j1 => if high = 1 ∨ 7 < high then .no j1 10 else match digitJ l (j1 + 1) with
   | .no a w => .no a w
   | .ok low j2 => if known (UInt8.ofNat (16 * high + low)) = false then .no j2 10 else .ok (UInt8.ofNat (16 * high + low)) (j2 + 1)
theorem u8_of {c : UInt8} {n : Nat} (hn : n < 256) (h : (c.toNat : Int) = (n : Int)) : c = UInt8.ofNat n := UInt8.toNat_inj.1 (by rw [UInt8.toNat_ofNat_of_lt' hn]; omega)
theorem esc_same {l : List UInt8} {i : Nat} (h : ((hereB l i).toNat : Int) = 34 ∨ ((hereB l i).toNat : Int) = 92 ∨ ((hereB l i).toNat : Int) = 47) : escJ l i = .ok (hereB l i) (i + 1) := by
 unfold escJ
 rw [if_pos]
 rcases h with h | h | h
 · exact .inl (u8_of (n := 34) (by decide) h)
 · exact .inr (.inl (u8_of (n := 92) (by decide) h))
 · exact .inr (.inr (u8_of (n := 47) (by decide) h))
theorem esc_n {l : List UInt8} {i : Nat} (h : ((hereB l i).toNat : Int) = 110) : escJ l i = .ok 10 (i + 1) := by
 have e := u8_of (n := 110) (by decide) h
 unfold escJ
 rw [e]; rfl
theorem esc_t {l : List UInt8} {i : Nat} (h : ((hereB l i).toNat : Int) = 116) : escJ l i = .ok 9 (i + 1) := by
 have e := u8_of (n := 116) (by decide) h
 unfold escJ
 rw [e]; rfl
theorem esc_rest {l : List UInt8} {i : Nat} (h1 : ¬ ((hereB l i).toNat : Int) = 34) (h2 : ¬ ((hereB l i).toNat : Int) = 92) (h3 : ¬ ((hereB l i).toNat : Int) = 47) (h4 : ¬ ((hereB l i).toNat : Int) = 110) (h5 : ¬ ((hereB l i).toNat : Int) = 116) : escJ l i = escR l i := by
 unfold escJ escR digitJ
 rw [if_neg (by rintro (e | e | e) <;> rw [e] at h1 h2 h3 <;> simp at h1 h2 h3), if_neg (by intro e; rw [e] at h4; simp at h4), if_neg (by intro e; rw [e] at h5; simp at h5)]
 cases wordJ l [117, 48, 48] i with
 | no a w => rfl
 | ok y j =>
  simp only
  cases hexV (hereB l j) with
  | none => rfl
  | some high =>
   simp only
   by_cases q : high = 1 ∨ 7 < high
   · rw [if_pos q, if_pos q]
   ·
    rw [if_neg q, if_neg q]
    cases hexV (hereB l (j + 1)) with
    | none => rfl
    | some low => rfl
theorem digit_ok {l : List UInt8} {i n j : Nat} (h : digitJ l i = .ok n j) : j = i ∧ n < 16 := by
 unfold digitJ at h
 cases hx : hexV (hereB l i) with
 | none => rw [hx] at h; cases h
 | some m =>
  rw [hx] at h
  cases h
  refine ⟨rfl, ?_⟩
  unfold hexV at hx
  split at hx
  · cases hx; omega
  ·
   split at hx
   · cases hx; omega
   · cases hx
theorem known8 {n : Nat} (h : n < 256) : ((UInt8.ofNat n).toNat : Int) = (n : Int) := by rw [UInt8.toNat_ofNat_of_lt' h]
theorem escape_fn (s : ByteArray) (i : Nat) (hi : i ≤ s.size) (hs : s.size ≤ 1000000000) : DoesE Tryd.prog 71 [.ptr 0 0] [pbox s i] 0 (outP 57 s (fun c : UInt8 => .d (.v (.int .u8 c.toNat))) (escJ (bys s) i)) := by
 have hwb := wordJ_bd (l := bys s) (x := [117, 48, 48]) (i := i) (by rw [bytes_len]; exact hi)
 refine DoesE.of_V tab (n := 83) (rs := [.tmp 2]) Tryd.func71 (by kernel_rfl) rfl Tryd.ntmps71 Tryd.results71 rfl (outP_len ..) fun C hC hG => ?_
 refine W.seq (W.region ?_)
 refine pE rfl ?_
 refine WO.nil (qs (W.seq (W.region ?_)))
 refine pE rfl ?_
 refine callB [0] [] rfl rfl rfl rfl rfl ((here_fn s i)) rfl rfl (by rfl) (by rfl) rfl rfl rfl rfl ?_
 refine pE rfl ?_
 refine WO.nil (qs ?_)
 iterate 2 refine W.seq ?_
 refine W.region ?_
 refine pE rfl ?_
 refine WO.nil (qs (W.block ?_))
 iterate 2 refine W.seq ?_
 refine W.region ?_
 iterate 2 refine pE rfl ?_
 refine WO.nil (qs ?_)
 refine condK rfl (fun h9 => ?_) (fun h9 => ?_)
 ·
  have hg : escJ (bys s) i = .ok (hereB (bys s) i) (i + 1) := esc_same (by have := of_decide_eq_true h9; omega)
  refine W.skip (qs ?_)
  refine W.condT rfl ?_
  refine W.seq (W.region ?_)
  iterate 3 refine pE rfl ?_
  first | refine pE rfl ?_ | refine pR rfl rfl rfl rfl rfl ?_ | refine pB rfl rfl rfl rfl rfl rfl ?_
  refine pu (puI (ev tab rfl) (y := ((i + 1 : Nat) : Int)) (wrap64 (by omega))) rfl ?_
  iterate 2 refine pE rfl ?_
  refine storeR tab rfl rfl rfl rfl rfl rfl rfl rfl ?_
  refine WO.nil (qs (W.seq (W.region ?_)))
  iterate 2 refine pE rfl ?_
  refine WO.nil (qs (W.ret (qbRet (qsRet ?_))))
  refine qxRet (outP_ok (hg)) ?_
  refine QB1.end tab [] trivial rfl rfl rfl rfl ?_ ?_
  · exact ⟨rfl, trivial⟩
  rfl
 ·
  refine W.seq (W.region ?_)
  iterate 2 refine pE rfl ?_
  refine WO.nil (qs ?_)
  refine condK rfl (fun h9 => ?_) (fun h9 => ?_)
  ·
   have hg : escJ (bys s) i = .ok (hereB (bys s) i) (i + 1) := esc_same (by have := of_decide_eq_true h9; omega)
   refine W.skip (qs ?_)
   refine W.condT rfl ?_
   refine W.seq (W.region ?_)
   iterate 3 refine pE rfl ?_
   first | refine pE rfl ?_ | refine pR rfl rfl rfl rfl rfl ?_ | refine pB rfl rfl rfl rfl rfl rfl ?_
   refine pu (puI (ev tab rfl) (y := ((i + 1 : Nat) : Int)) (wrap64 (by omega))) rfl ?_
   iterate 2 refine pE rfl ?_
   refine storeR tab rfl rfl rfl rfl rfl rfl rfl rfl ?_
   refine WO.nil (qs (W.seq (W.region ?_)))
   iterate 2 refine pE rfl ?_
   refine WO.nil (qs (W.ret (qbRet (qsRet ?_))))
   refine qxRet (outP_ok (hg)) ?_
   refine QB1.end tab [] trivial rfl rfl rfl rfl ?_ ?_
   · exact ⟨rfl, trivial⟩
   rfl
  ·
   refine W.region ?_
   iterate 2 refine pE rfl ?_
   refine WO.nil (qs ?_)
   refine condK rfl (fun h9 => ?_) (fun h9 => ?_)
   ·
    have hg : escJ (bys s) i = .ok (hereB (bys s) i) (i + 1) := esc_same (by have := of_decide_eq_true h9; omega)
    refine W.seq (W.region ?_)
    iterate 3 refine pE rfl ?_
    first | refine pE rfl ?_ | refine pR rfl rfl rfl rfl rfl ?_ | refine pB rfl rfl rfl rfl rfl rfl ?_
    refine pu (puI (ev tab rfl) (y := ((i + 1 : Nat) : Int)) (wrap64 (by omega))) rfl ?_
    iterate 2 refine pE rfl ?_
    refine storeR tab rfl rfl rfl rfl rfl rfl rfl rfl ?_
    refine WO.nil (qs (W.seq (W.region ?_)))
    iterate 2 refine pE rfl ?_
    refine WO.nil (qs (W.ret (qbRet (qsRet ?_))))
    refine qxRet (outP_ok (hg)) ?_
    refine QB1.end tab [] trivial rfl rfl rfl rfl ?_ ?_
    · exact ⟨rfl, trivial⟩
    rfl
   ·
    refine W.seq (W.region ?_)
    iterate 2 refine pE rfl ?_
    refine WO.nil (qs ?_)
    refine condK rfl (fun h21 => ?_) (fun h21 => ?_)
    ·
     have hg : escJ (bys s) i = .ok 10 (i + 1) := esc_n (of_decide_eq_true h21)
     refine W.seq (W.region ?_)
     iterate 3 refine pE rfl ?_
     first | refine pE rfl ?_ | refine pR rfl rfl rfl rfl rfl ?_ | refine pB rfl rfl rfl rfl rfl rfl ?_
     refine pu (puI (ev tab rfl) (y := ((i + 1 : Nat) : Int)) (wrap64 (by omega))) rfl ?_
     iterate 2 refine pE rfl ?_
     refine storeR tab rfl rfl rfl rfl rfl rfl rfl rfl ?_
     refine WO.nil (qs (W.seq (W.region ?_)))
     refine pE rfl ?_
     refine WO.nil (qs (W.ret (qbRet (qsRet ?_))))
     refine qxRet (outP_ok (hg)) ?_
     refine QB1.end tab [] trivial rfl rfl rfl rfl ?_ ?_
     · exact ⟨rfl, trivial⟩
     rfl
    ·
     refine W.seq (W.region ?_)
     iterate 2 refine pE rfl ?_
     refine WO.nil (qs ?_)
     refine condK rfl (fun h30 => ?_) (fun h30 => ?_)
     ·
      have hg : escJ (bys s) i = .ok 9 (i + 1) := esc_t (of_decide_eq_true h30)
      refine W.seq (W.region ?_)
      iterate 3 refine pE rfl ?_
      first | refine pE rfl ?_ | refine pR rfl rfl rfl rfl rfl ?_ | refine pB rfl rfl rfl rfl rfl rfl ?_
      refine pu (puI (ev tab rfl) (y := ((i + 1 : Nat) : Int)) (wrap64 (by omega))) rfl ?_
      iterate 2 refine pE rfl ?_
      refine storeR tab rfl rfl rfl rfl rfl rfl rfl rfl ?_
      refine WO.nil (qs (W.seq (W.region ?_)))
      refine pE rfl ?_
      refine WO.nil (qs (W.ret (qbRet (qsRet ?_))))
      refine qxRet (outP_ok (hg)) ?_
      refine QB1.end tab [] trivial rfl rfl rfl rfl ?_ ?_
      · exact ⟨rfl, trivial⟩
      rfl
     ·
      have hg : escJ (bys s) i = escR (bys s) i := esc_rest (by simp_all) (by simp_all) (by simp_all) (by simp_all) (by simp_all)
      unfold escR at hg
      refine W.skip (qbN (qs (W.seq (W.region ?_))))
      refine pE rfl ?_
      cases hc40 : wordJ (bys s) [117, 48, 48] i with
      | no a40 w40 =>
       refine callP [0] [] rfl rfl rfl rfl rfl ((word_fn s (B #[117, 48, 48]) i hs).pan (outP_no hc40)) rfl rfl (by rfl) (fun st' => ?_)
       repeat' first | refine qsPan ?_ | refine qbPan ?_ | refine qlPan ?_ | refine qcPan ?_
       refine qxPan (outP_no (by rw [hg, hc40]))
      | ok y40 i40 =>
       refine callB [0] [] rfl rfl rfl rfl rfl ((word_fn s (B #[117, 48, 48]) i hs).ret (outP_ok hc40)) rfl rfl (by rfl) (by rfl) rfl rfl rfl rfl ?_
       rw [hc40] at hg hwb
       rw [bytes_len] at hwb
       simp only at hg
       refine WO.nil (qs (W.seq (W.region ?_)))
       refine pE rfl ?_
       cases hc42 : digitJ (bys s) i40 with
       | no a42 w42 =>
        refine callP [0] [] rfl rfl rfl rfl rfl ((digit_fn s i40).pan (outP_no hc42)) rfl rfl (by rfl) (fun st' => ?_)
        repeat' first | refine qsPan ?_ | refine qbPan ?_ | refine qlPan ?_ | refine qcPan ?_
        refine qxPan (outP_no (by rw [hg, hc42]))
       | ok y42 i42 =>
        refine callB [0] [] rfl rfl rfl rfl rfl ((digit_fn s i40).ret (outP_ok hc42)) rfl rfl (by rfl) (by rfl) rfl rfl rfl rfl ?_
        rw [hc42] at hg
        simp only at hg
        obtain ⟨e42, l42⟩ := digit_ok hc42
        refine pE rfl ?_
        refine WO.nil (qs ?_)
        iterate 2 refine W.seq ?_
        apply regionB; (case hb => rfl)
        ·
         iterate 3 refine pE rfl ?_
         apply splitJ; (case hj => rfl); (case hl => rfl)
         ·
          iterate 2 refine skipT rfl rfl rfl rfl ?_
          refine pE rfl ?_
          refine WO.nil ?_
          refine qv1 rfl rfl rfl
         ·
          refine goG rfl rfl ?_
          refine pE rfl ?_
          refine goG rfl rfl ?_
          iterate 2 refine pE rfl ?_
          refine WO.nil ?_
          refine qv1 rfl rfl rfl
        refine qs ?_
        refine condK rfl (fun h48 => ?_) (fun h48 => ?_)
        ·
         have q : y42 = 1 ∨ 7 < y42 := by revert h48; simp; omega
         rw [if_pos q] at hg
         refine W.region ?_
         iterate 3 refine pE rfl ?_
         first | refine pE rfl ?_ | refine pR rfl rfl rfl rfl rfl ?_ | refine pB rfl rfl rfl rfl rfl rfl ?_
         refine callP [] [] rfl rfl rfl rfl rfl (fails_fn i42 10) rfl rfl (by rfl) (fun st' => ?_)
         repeat' first | refine qsPan ?_ | refine qbPan ?_ | refine qlPan ?_ | refine qcPan ?_
         exact qxPan (outP_no hg)
        ·
         have q : ¬ (y42 = 1 ∨ 7 < y42) := by revert h48; simp; omega
         rw [if_neg q] at hg
         refine W.skip (qs (W.seq (W.region ?_)))
         iterate 3 refine pE rfl ?_
         first | refine pE rfl ?_ | refine pR rfl rfl rfl rfl rfl ?_ | refine pB rfl rfl rfl rfl rfl rfl ?_
         refine pu (puI (ev tab rfl) (y := ((i42 + 1 : Nat) : Int)) (wrap64 (by omega))) rfl ?_
         iterate 2 refine pE rfl ?_
         refine storeR tab rfl rfl rfl rfl rfl rfl rfl rfl ?_
         refine WO.nil (qs (W.seq (W.region ?_)))
         refine pE rfl ?_
         refine pu (puI (ev tab rfl) (y := ((16 * y42 : Nat) : Int)) (Eq.trans (wrap64 (by omega)) (by omega))) rfl ?_
         refine pE rfl ?_
         cases hc64 : digitJ (bys s) (i42 + 1) with
         | no a64 w64 =>
          refine callP [0] [] rfl rfl rfl rfl rfl ((digit_fn s (i42 + 1)).pan (outP_no hc64)) rfl rfl (by rfl) (fun st' => ?_)
          repeat' first | refine qsPan ?_ | refine qbPan ?_ | refine qlPan ?_ | refine qcPan ?_
          refine qxPan (outP_no (by rw [hg, hc64]))
         | ok y64 i64 =>
          refine callB [0] [] rfl rfl rfl rfl rfl ((digit_fn s (i42 + 1)).ret (outP_ok hc64)) rfl rfl (by rfl) (by rfl) rfl rfl rfl rfl ?_
          rw [hc64] at hg
          simp only at hg
          obtain ⟨e64, l64⟩ := digit_ok hc64
          refine pu (puI (ev tab rfl) (y := ((16 * y42 + y64 : Nat) : Int)) (Eq.trans (wrap64 (by omega)) (by omega))) rfl ?_
          refine pu (puI (ev tab rfl) (y := ((UInt8.ofNat (16 * y42 + y64)).toNat : Int)) (Eq.trans (wrap_u8 (by omega)) (known8 (by omega)).symm)) rfl ?_
          refine pE rfl ?_
          refine WO.nil (qs ?_)
          iterate 2 refine W.seq ?_
          refine W.region ?_
          refine pE rfl ?_
          refine pu (puCall rfl rfl rfl (known_fn (UInt8.ofNat (16 * y42 + y64))) rfl) rfl ?_
          refine pE rfl ?_
          refine WO.nil (qs ?_)
          refine condK rfl (fun h69 => ?_) (fun h69 => ?_)
          ·
           have q2 : known (UInt8.ofNat (16 * y42 + y64)) = false := by simpa using h69
           rw [if_pos q2] at hg
           refine W.region ?_
           iterate 3 refine pE rfl ?_
           first | refine pE rfl ?_ | refine pR rfl rfl rfl rfl rfl ?_ | refine pB rfl rfl rfl rfl rfl rfl ?_
           refine callP [] [] rfl rfl rfl rfl rfl (fails_fn i64 10) rfl rfl (by rfl) (fun st' => ?_)
           repeat' first | refine qsPan ?_ | refine qbPan ?_ | refine qlPan ?_ | refine qcPan ?_
           exact qxPan (outP_no hg)
          ·
           have q2 : ¬ known (UInt8.ofNat (16 * y42 + y64)) = false := by simpa using h69
           rw [if_neg q2] at hg
           refine W.skip (qs (W.seq (W.region ?_)))
           iterate 3 refine pE rfl ?_
           first | refine pE rfl ?_ | refine pR rfl rfl rfl rfl rfl ?_ | refine pB rfl rfl rfl rfl rfl rfl ?_
           refine pu (puI (ev tab rfl) (y := ((i64 + 1 : Nat) : Int)) (wrap64 (by omega))) rfl ?_
           iterate 2 refine pE rfl ?_
           refine storeR tab rfl rfl rfl rfl rfl rfl rfl rfl ?_
           refine WO.nil (qs (W.seq (W.region ?_)))
           iterate 2 refine pE rfl ?_
           refine WO.nil (qs (W.ret ?_))
           refine qxRet (outP_ok (hg)) ?_
           refine QB1.end tab [] trivial rfl rfl rfl rfl ?_ ?_
           · exact ⟨rfl, trivial⟩
           rfl
end Go.Proofs.YtllkpgnpioojjaaDoor
namespace Go.Proofs.YtllkpgnpioojjaaDoor
open Go.Ab Go.Tb
set_option maxRecDepth 10000
attribute [local irreducible] W WO Pu QS QB QL QF QV QV1 CH QE
def textAt (l : List UInt8) (i j : Nat) : ByteArray := ⟨((l.drop i).take (j - i)).toArray⟩
def numU (l : List UInt8) (i j : Nat) (u : ByteArray) : PE JV := if (numP u).2 = true then .ok (.mk 3 (numP u).1 (B #[]) [] []) j else .no i 2
def numK (l : List UInt8) (i i1 j : Nat) : PE JV := if j = i1 then .no i1 10 else numU l i j (if textAt l i j = B #[45, 48] then B #[48] else textAt l i j)
theorem num_neg {l : List UInt8} {i : Nat} (h : hereB l i = 45) : numJ l i = numK l i (i + 1) (digsJ l (i + 1)) := by unfold numJ numK numU textAt; rw [if_pos h]
theorem num_pos {l : List UInt8} {i : Nat} (h : ¬ hereB l i = 45) : numJ l i = numK l i i (digsJ l i) := by unfold numJ numK numU textAt; rw [if_neg h]
theorem extr (s : ByteArray) (i j : Nat) : s.extract i j = textAt (bys s) i j := by
 refine bys_inj ?_
 show bys _ = _
 rw [Go.Tb.bys_extract]
 unfold textAt
 simp [List.drop_take]
theorem dig_iff (b : UInt8) : isDig b = true ↔ 48 ≤ b.toNat ∧ b.toNat ≤ 57 := by unfold isDig; simp
theorem runD_stop {l : List UInt8} {k j : Nat} (h : isDig (hereB l j) = false) : runD l k j = j := by cases k <;> simp [runD, h]
theorem runD_step {l : List UInt8} {j : Nat} (hj : j < l.length) (h : isDig (hereB l j) = true) : runD l (l.length - j) j = runD l (l.length - (j + 1)) (j + 1) := by
 rw [show l.length - j = (l.length - (j + 1)) + 1 by omega, runD, if_pos ⟨hj, h⟩]
theorem number_neg (s : ByteArray) (i : Nat) (hi : i ≤ s.size) (hs : s.size ≤ 1000000000) (hm : hereB (bys s) i = 45) : DoesE Tryd.prog 54 [.ptr 0 0] [pbox s i] 0 (outP 57 s (fun v : JV => .ag v.c) (numJ (bys s) i)) := by
 have hK := num_neg (l := bys s) (i := i) hm
 have hil : i < s.size := by
  have := here_lt (l := bys s) (i := i) (by rw [hm]; decide)
  rwa [bytes_len] at this
 have hdb := digsJ_bd (l := bys s) (i := i + 1) (by rw [bytes_len]; omega)
 rw [bytes_len] at hdb
 refine DoesE.of_V tab (n := 85) (rs := [.cell 2 26]) Tryd.func54 (by kernel_rfl) rfl Tryd.ntmps54 Tryd.results54 rfl (outP_len ..) fun C hC hG => ?_
 refine W.seq (W.region ?_)
 refine allocR tab rfl rfl rfl ?_
 refine WO.nil (qs (W.seq (W.region ?_)))
 iterate 3 refine pE rfl ?_
 first | refine pE rfl ?_ | refine pR rfl rfl rfl rfl rfl ?_ | refine pB rfl rfl rfl rfl rfl rfl ?_
 refine pE rfl ?_
 refine WO.nil (qs ?_)
 iterate 2 refine W.seq ?_
 refine W.region ?_
 refine pE rfl ?_
 refine callB [0] [] rfl rfl rfl rfl rfl ((here_fn s i)) rfl rfl (by rfl) (by rfl) rfl rfl rfl rfl ?_
 refine pE rfl ?_
 refine WO.nil (qs ?_)
 refine condK rfl (fun h15 => ?_) (fun h15 => ?_)
 ·
  refine W.region ?_
  iterate 3 refine pE rfl ?_
  first | refine pE rfl ?_ | refine pR rfl rfl rfl rfl rfl ?_ | refine pB rfl rfl rfl rfl rfl rfl ?_
  refine pu (puI (ev tab rfl) (y := ((i + 1 : Nat) : Int)) (wrap64 (by omega))) rfl ?_
  iterate 2 refine pE rfl ?_
  refine storeR tab rfl rfl rfl rfl rfl rfl rfl rfl ?_
  refine WO.nil (qs (W.seq (W.region ?_)))
  iterate 3 refine pE rfl ?_
  first | refine pE rfl ?_ | refine pR rfl rfl rfl rfl rfl ?_ | refine pB rfl rfl rfl rfl rfl rfl ?_
  refine pE rfl ?_
  refine WO.nil (qs ?_)
  iterate 2 refine W.seq ?_
  refine W.region ?_
  refine pE rfl ?_
  refine callB [0] [] rfl rfl rfl rfl rfl ((here_fn s (i + 1))) rfl rfl (by rfl) (by rfl) rfl rfl rfl rfl ?_
  refine pE rfl ?_
  refine WO.nil (qs (W.block ?_))
  refine W.loopR (ι := {x : Nat // match x with | j => (i + 1) ≤ j ∧ j ≤ s.size ∧ (j = (i + 1) ∨ hereB (bys s) (i + 1) ≠ 48) ∧ (hereB (bys s) (i + 1) ≠ 48 → runD (bys s) ((bys s).length - j) j = runD (bys s) ((bys s).length - (i + 1)) (i + 1))})
   (fun x => match x.1 with | j => [(0, .ptr 0 0), (2, .ptr 1 0), (5, .d (.v (.int .u8 (hereB (bys s) j).toNat)))]) [(3, _), (4, _)]
   (fun x => match x.1 with | j => [(0, [.d (cs s), .d (.v (.int .i64 (j : Int)))])]) [(1, _)] [] 2 (fun x => match x.1 with | j => s.size - j)
   [0, 1] ⟨(i + 1), ?_⟩ rfl ?_ ⟨rfl, rfl, rfl, rfl, trivial⟩ ?_ ⟨rfl, rfl, trivial⟩ rfl ?_
  · exact ⟨Nat.le_refl _, hil, .inl rfl, fun _ => rfl⟩
  · repeat' first | exact trivial | refine ⟨rfl, ?_⟩ | refine ⟨congrArg some (renL_boxE _ _ _), ?_⟩ | refine ⟨step_nat (by assumption) (by assumption), ?_⟩
  · repeat' first | exact trivial | refine ⟨rfl, ?_⟩ | refine ⟨congrArg some (renL_boxE _ _ _), ?_⟩ | refine ⟨step_nat (by assumption) (by assumption), ?_⟩
  rintro ⟨j, hj1, hj2, hj3, hj4⟩
  show W _ _ _ _ _ ⟨[(0, .ptr 0 0), (2, .ptr 1 0), (5, .d (.v (.int .u8 (hereB (bys s) j).toNat))), (3, _), (4, _)], [(0, [.d (cs s), .d (.v (.int .i64 (j : Int)))]), (1, _)], [], 2⟩
  iterate 2 refine W.seq ?_
  apply regionB; (case hb => rfl)
  ·
   iterate 3 refine pE rfl ?_
   apply splitH; (case hj => rfl); (case hl => rfl)
   ·
    intro g31
    refine goG rfl rfl ?_
    refine pE rfl ?_
    refine goG rfl rfl ?_
    iterate 2 refine pE rfl ?_
    refine WO.nil ?_
    refine qv1 rfl rfl rfl
   ·
    intro g31
    iterate 2 refine skipT rfl rfl rfl rfl ?_
    refine pE rfl ?_
    refine WO.nil ?_
    refine qv1 rfl rfl rfl
  refine qs ?_
  refine condK rfl (fun h34 => ?_) (fun h34 => ?_)
  ·
   have hd : isDig (hereB (bys s) j) = true := by rw [dig_iff]; revert h34; simp; omega
   have hjs : j < s.size := by
    have := here_lt (l := bys s) (i := j) (by intro q; rw [q] at hd; exact absurd hd (by decide))
    rwa [bytes_len] at this
   refine W.skip (qs (W.seq (W.block (W.seq (W.region ?_)))))
   iterate 3 refine pE rfl ?_
   first | refine pE rfl ?_ | refine pR rfl rfl rfl rfl rfl ?_ | refine pB rfl rfl rfl rfl rfl rfl ?_
   refine pu (puI (ev tab rfl) (y := ((j + 1 : Nat) : Int)) (wrap64 (by omega))) rfl ?_
   iterate 2 refine pE rfl ?_
   refine storeR tab rfl rfl rfl rfl rfl rfl rfl rfl ?_
   refine WO.nil (qs (W.seq (W.region ?_)))
   iterate 3 refine pE rfl ?_
   first | refine pE rfl ?_ | refine pR rfl rfl rfl rfl rfl ?_ | refine pB rfl rfl rfl rfl rfl rfl ?_
   refine pE rfl ?_
   refine pu (indexStr tab rfl rfl rfl rfl (Int.natCast_nonneg _) (byteList (here_at (s := s) (i := (i + 1)) (by omega)))) rfl ?_
   refine pE rfl ?_
   refine WO.nil (qs ?_)
   refine condK rfl (fun h50 => ?_) (fun h50 => ?_)
   ·
    have h48 : hereB (bys s) (i + 1) = 48 := u8_of (n := 48) (by decide) (of_decide_eq_true h50)
    have hE : j + 1 = digsJ (bys s) (i + 1) := by
     unfold digsJ; rw [if_pos h48]
     rcases hj3 with e | e
     · rw [e]
     · exact absurd h48 e
    rw [hE]
    refine W.exit ?_
    refine qbExit' rfl ?_
    refine qsExit (qlExit (qbExit (qs ?_)))
    iterate 2 refine W.seq ?_
    refine W.region ?_
    iterate 3 refine pE rfl ?_
    first | refine pE rfl ?_ | refine pR rfl rfl rfl rfl rfl ?_ | refine pB rfl rfl rfl rfl rfl rfl ?_
    iterate 2 refine pE rfl ?_
    refine WO.nil (qs ?_)
    refine condK rfl (fun h56 => ?_) (fun h56 => ?_)
    ·
     have q : digsJ (bys s) (i + 1) = (i + 1) := by have := of_decide_eq_true h56; omega
     have hg : numJ (bys s) i = .no (digsJ (bys s) (i + 1)) 10 := by rw [hK]; unfold numK; rw [if_pos q, q]
     refine W.region ?_
     iterate 3 refine pE rfl ?_
     first | refine pE rfl ?_ | refine pR rfl rfl rfl rfl rfl ?_ | refine pB rfl rfl rfl rfl rfl rfl ?_
     refine callP [] [] rfl rfl rfl rfl rfl (fails_fn (digsJ (bys s) (i + 1)) 10) rfl rfl (by rfl) (fun st' => ?_)
     repeat' first | refine qsPan ?_ | refine qbPan ?_ | refine qlPan ?_ | refine qcPan ?_
     exact qxPan (outP_no hg)
    ·
     have q : ¬ digsJ (bys s) (i + 1) = (i + 1) := by have := of_decide_eq_false h56; omega
     unfold numK at hK
     rw [if_neg q] at hK
     refine W.skip (qs (W.seq ?_))
     refine W.regionD tab (by kernel_rfl) ?_
     iterate 3 refine chPu (ev tab rfl) rfl ?_
     first | refine chPu (ev tab rfl) rfl ?_ | refine chPu (loadRow tab rfl rfl rfl rfl) rfl ?_ | refine chPu (loadBox tab rfl rfl rfl rfl rfl) rfl ?_
     iterate 4 refine chPu (ev tab rfl) rfl ?_
     first | refine chPu (ev tab rfl) rfl ?_ | refine chPu (loadRow tab rfl rfl rfl rfl) rfl ?_ | refine chPu (loadBox tab rfl rfl rfl rfl rfl) rfl ?_
     refine chPu (puS (strPart (l := (i : Int)) (h := ((digsJ (bys s) (i + 1) : Nat) : Int)) tab rfl rfl rfl rfl rfl (by omega) (by omega) (by omega)) (show _ = textAt (bys s) i (digsJ (bys s) (i + 1)) from extr s i _)) rfl ?_
     refine chPu (ev tab rfl) rfl ?_
     refine CH.nil ?_
     refine qs ?_
     iterate 2 refine W.seq ?_
     refine W.region ?_
     iterate 2 refine pE rfl ?_
     refine WO.nil (qs ?_)
     refine condK rfl (fun h73 => ?_) (fun h73 => ?_)
     ·
      have hg := hK
      rw [if_pos (of_decide_eq_true h73)] at hg
      refine W.region ?_
      refine pE rfl ?_
      refine WO.nil (qs (W.seq (W.region ?_)))
      refine pE rfl ?_
      refine pu (puCall rfl rfl rfl (nparse_fn _ (by first | (rw [show (B #[48]).size = 1 from rfl]; omega) | (rw [← extr, ByteArray.size_extract]; omega))) rfl) rfl ?_
      iterate 5 refine pE rfl ?_
      refine WO.nil (qs ?_)
      iterate 2 refine W.seq ?_
      refine W.region ?_
      iterate 2 refine pE rfl ?_
      refine WO.nil (qs ?_)
      refine condK rfl (fun h80 => ?_) (fun h80 => ?_)
      ·
       have hg2 : numJ (bys s) i = .no i 2 := by rw [hg]; unfold numU; rw [if_neg (by simpa using h80)]
       refine W.region ?_
       refine pE rfl ?_
       refine callP [] [] rfl rfl rfl rfl rfl (fails_fn i 2) rfl rfl (by rfl) (fun st' => ?_)
       repeat' first | refine qsPan ?_ | refine qbPan ?_ | refine qlPan ?_ | refine qcPan ?_
       exact qxPan (outP_no hg2)
      ·
       have hg2 := hg
       unfold numU at hg2
       rw [if_pos (by simpa using h80)] at hg2
       refine W.skip (qs (W.seq (W.region ?_)))
       refine pE rfl ?_
       refine pu (build tab rfl rfl rfl rfl) rfl ?_
       try refine nilO 84 rfl rfl rfl ?_
       refine storeR tab rfl rfl rfl rfl rfl rfl rfl rfl ?_
       refine WO.nil (qs (W.ret ?_))
       refine qxRet (outP_ok (hg2)) ?_
       refine QB1.end tab [] trivial rfl rfl rfl rfl ?_ ?_
       · exact ⟨rfl, trivial⟩
       rfl
     ·
      have hg := hK
      rw [if_neg (of_decide_eq_false h73)] at hg
      refine W.skip (qs (W.seq (W.region ?_)))
      refine pE rfl ?_
      refine pu (puCall rfl rfl rfl (nparse_fn _ (by first | (rw [show (B #[48]).size = 1 from rfl]; omega) | (rw [← extr, ByteArray.size_extract]; omega))) rfl) rfl ?_
      iterate 5 refine pE rfl ?_
      refine WO.nil (qs ?_)
      iterate 2 refine W.seq ?_
      refine W.region ?_
      iterate 2 refine pE rfl ?_
      refine WO.nil (qs ?_)
      refine condK rfl (fun h80 => ?_) (fun h80 => ?_)
      ·
       have hg2 : numJ (bys s) i = .no i 2 := by rw [hg]; unfold numU; rw [if_neg (by simpa using h80)]
       refine W.region ?_
       refine pE rfl ?_
       refine callP [] [] rfl rfl rfl rfl rfl (fails_fn i 2) rfl rfl (by rfl) (fun st' => ?_)
       repeat' first | refine qsPan ?_ | refine qbPan ?_ | refine qlPan ?_ | refine qcPan ?_
       exact qxPan (outP_no hg2)
      ·
       have hg2 := hg
       unfold numU at hg2
       rw [if_pos (by simpa using h80)] at hg2
       refine W.skip (qs (W.seq (W.region ?_)))
       refine pE rfl ?_
       refine pu (build tab rfl rfl rfl rfl) rfl ?_
       try refine nilO 84 rfl rfl rfl ?_
       refine storeR tab rfl rfl rfl rfl rfl rfl rfl rfl ?_
       refine WO.nil (qs (W.ret ?_))
       refine qxRet (outP_ok (hg2)) ?_
       refine QB1.end tab [] trivial rfl rfl rfl rfl ?_ ?_
       · exact ⟨rfl, trivial⟩
       rfl
   ·
    have h48 : hereB (bys s) (i + 1) ≠ 48 := by intro q; rw [q] at h50; simp at h50
    refine W.skip (qbN (qs (W.region ?_)))
    refine pE rfl ?_
    refine callB [0] [] rfl rfl rfl rfl rfl ((here_fn s (j + 1))) rfl rfl (by rfl) (by rfl) rfl rfl rfl rfl ?_
    refine pE rfl ?_
    refine WO.nil ?_
    refine W.endR [0, 1] ⟨j + 1, ?_⟩ ?_ rfl ?_ ⟨rfl, rfl, rfl, rfl, trivial⟩ ?_ ⟨rfl, rfl, trivial⟩ rfl
    · exact ⟨by omega, by omega, .inr h48, fun q => by rw [← hj4 q, runD_step (by rw [bytes_len]; exact hjs) hd]⟩
    · dsimp only; omega
    · repeat' first | exact trivial | refine ⟨rfl, ?_⟩ | refine ⟨congrArg some (renL_boxE _ _ _), ?_⟩ | refine ⟨step_nat (by assumption) (by assumption), ?_⟩
    · repeat' first | exact trivial | refine ⟨rfl, ?_⟩ | refine ⟨congrArg some (renL_boxE _ _ _), ?_⟩ | refine ⟨step_nat (by assumption) (by assumption), ?_⟩
  ·
   have hd : isDig (hereB (bys s) j) = false := by
    cases q : isDig (hereB (bys s) j) with
    | false => rfl
    | true => rw [dig_iff] at q; revert h34; simp; omega
   have h48 : hereB (bys s) (i + 1) ≠ 48 := by
    rcases hj3 with e | e
    · rw [← e]; intro q; rw [q] at hd; exact absurd hd (by decide)
    · exact e
   have hE : digsJ (bys s) (i + 1) = j := by unfold digsJ; rw [if_neg h48, ← hj4 h48, runD_stop hd]
   subst hE
   refine W.exit (qsExit (qlExit (qbExit (qs ?_))))
   iterate 2 refine W.seq ?_
   refine W.region ?_
   iterate 3 refine pE rfl ?_
   first | refine pE rfl ?_ | refine pR rfl rfl rfl rfl rfl ?_ | refine pB rfl rfl rfl rfl rfl rfl ?_
   iterate 2 refine pE rfl ?_
   refine WO.nil (qs ?_)
   refine condK rfl (fun h56 => ?_) (fun h56 => ?_)
   ·
    have q : digsJ (bys s) (i + 1) = (i + 1) := by have := of_decide_eq_true h56; omega
    have hg : numJ (bys s) i = .no (digsJ (bys s) (i + 1)) 10 := by rw [hK]; unfold numK; rw [if_pos q, q]
    refine W.region ?_
    iterate 3 refine pE rfl ?_
    first | refine pE rfl ?_ | refine pR rfl rfl rfl rfl rfl ?_ | refine pB rfl rfl rfl rfl rfl rfl ?_
    refine callP [] [] rfl rfl rfl rfl rfl (fails_fn (digsJ (bys s) (i + 1)) 10) rfl rfl (by rfl) (fun st' => ?_)
    repeat' first | refine qsPan ?_ | refine qbPan ?_ | refine qlPan ?_ | refine qcPan ?_
    exact qxPan (outP_no hg)
   ·
    have q : ¬ digsJ (bys s) (i + 1) = (i + 1) := by have := of_decide_eq_false h56; omega
    unfold numK at hK
    rw [if_neg q] at hK
    refine W.skip (qs (W.seq ?_))
    refine W.regionD tab (by kernel_rfl) ?_
    iterate 3 refine chPu (ev tab rfl) rfl ?_
    first | refine chPu (ev tab rfl) rfl ?_ | refine chPu (loadRow tab rfl rfl rfl rfl) rfl ?_ | refine chPu (loadBox tab rfl rfl rfl rfl rfl) rfl ?_
    iterate 4 refine chPu (ev tab rfl) rfl ?_
    first | refine chPu (ev tab rfl) rfl ?_ | refine chPu (loadRow tab rfl rfl rfl rfl) rfl ?_ | refine chPu (loadBox tab rfl rfl rfl rfl rfl) rfl ?_
    refine chPu (puS (strPart (l := (i : Int)) (h := ((digsJ (bys s) (i + 1) : Nat) : Int)) tab rfl rfl rfl rfl rfl (by omega) (by omega) (by omega)) (show _ = textAt (bys s) i (digsJ (bys s) (i + 1)) from extr s i _)) rfl ?_
    refine chPu (ev tab rfl) rfl ?_
    refine CH.nil ?_
    refine qs ?_
    iterate 2 refine W.seq ?_
    refine W.region ?_
    iterate 2 refine pE rfl ?_
    refine WO.nil (qs ?_)
    refine condK rfl (fun h73 => ?_) (fun h73 => ?_)
    ·
     have hg := hK
     rw [if_pos (of_decide_eq_true h73)] at hg
     refine W.region ?_
     refine pE rfl ?_
     refine WO.nil (qs (W.seq (W.region ?_)))
     refine pE rfl ?_
     refine pu (puCall rfl rfl rfl (nparse_fn _ (by first | (rw [show (B #[48]).size = 1 from rfl]; omega) | (rw [← extr, ByteArray.size_extract]; omega))) rfl) rfl ?_
     iterate 5 refine pE rfl ?_
     refine WO.nil (qs ?_)
     iterate 2 refine W.seq ?_
     refine W.region ?_
     iterate 2 refine pE rfl ?_
     refine WO.nil (qs ?_)
     refine condK rfl (fun h80 => ?_) (fun h80 => ?_)
     ·
      have hg2 : numJ (bys s) i = .no i 2 := by rw [hg]; unfold numU; rw [if_neg (by simpa using h80)]
      refine W.region ?_
      refine pE rfl ?_
      refine callP [] [] rfl rfl rfl rfl rfl (fails_fn i 2) rfl rfl (by rfl) (fun st' => ?_)
      repeat' first | refine qsPan ?_ | refine qbPan ?_ | refine qlPan ?_ | refine qcPan ?_
      exact qxPan (outP_no hg2)
     ·
      have hg2 := hg
      unfold numU at hg2
      rw [if_pos (by simpa using h80)] at hg2
      refine W.skip (qs (W.seq (W.region ?_)))
      refine pE rfl ?_
      refine pu (build tab rfl rfl rfl rfl) rfl ?_
      try refine nilO 84 rfl rfl rfl ?_
      refine storeR tab rfl rfl rfl rfl rfl rfl rfl rfl ?_
      refine WO.nil (qs (W.ret ?_))
      refine qxRet (outP_ok (hg2)) ?_
      refine QB1.end tab [] trivial rfl rfl rfl rfl ?_ ?_
      · exact ⟨rfl, trivial⟩
      rfl
    ·
     have hg := hK
     rw [if_neg (of_decide_eq_false h73)] at hg
     refine W.skip (qs (W.seq (W.region ?_)))
     refine pE rfl ?_
     refine pu (puCall rfl rfl rfl (nparse_fn _ (by first | (rw [show (B #[48]).size = 1 from rfl]; omega) | (rw [← extr, ByteArray.size_extract]; omega))) rfl) rfl ?_
     iterate 5 refine pE rfl ?_
     refine WO.nil (qs ?_)
     iterate 2 refine W.seq ?_
     refine W.region ?_
     iterate 2 refine pE rfl ?_
     refine WO.nil (qs ?_)
     refine condK rfl (fun h80 => ?_) (fun h80 => ?_)
     ·
      have hg2 : numJ (bys s) i = .no i 2 := by rw [hg]; unfold numU; rw [if_neg (by simpa using h80)]
      refine W.region ?_
      refine pE rfl ?_
      refine callP [] [] rfl rfl rfl rfl rfl (fails_fn i 2) rfl rfl (by rfl) (fun st' => ?_)
      repeat' first | refine qsPan ?_ | refine qbPan ?_ | refine qlPan ?_ | refine qcPan ?_
      exact qxPan (outP_no hg2)
     ·
      have hg2 := hg
      unfold numU at hg2
      rw [if_pos (by simpa using h80)] at hg2
      refine W.skip (qs (W.seq (W.region ?_)))
      refine pE rfl ?_
      refine pu (build tab rfl rfl rfl rfl) rfl ?_
      try refine nilO 84 rfl rfl rfl ?_
      refine storeR tab rfl rfl rfl rfl rfl rfl rfl rfl ?_
      refine WO.nil (qs (W.ret ?_))
      refine qxRet (outP_ok (hg2)) ?_
      refine QB1.end tab [] trivial rfl rfl rfl rfl ?_ ?_
      · exact ⟨rfl, trivial⟩
      rfl
 ·
  exfalso; rw [hm] at h15; simp at h15
theorem number_pos (s : ByteArray) (i : Nat) (hi : i ≤ s.size) (hs : s.size ≤ 1000000000) (hm : ¬ hereB (bys s) i = 45) : DoesE Tryd.prog 54 [.ptr 0 0] [pbox s i] 0 (outP 57 s (fun v : JV => .ag v.c) (numJ (bys s) i)) := by
 have hK := num_pos (l := bys s) (i := i) hm
 have hdb := digsJ_bd (l := bys s) (i := i) (by rw [bytes_len]; omega)
 rw [bytes_len] at hdb
 refine DoesE.of_V tab (n := 85) (rs := [.cell 2 26]) Tryd.func54 (by kernel_rfl) rfl Tryd.ntmps54 Tryd.results54 rfl (outP_len ..) fun C hC hG => ?_
 refine W.seq (W.region ?_)
 refine allocR tab rfl rfl rfl ?_
 refine WO.nil (qs (W.seq (W.region ?_)))
 iterate 3 refine pE rfl ?_
 first | refine pE rfl ?_ | refine pR rfl rfl rfl rfl rfl ?_ | refine pB rfl rfl rfl rfl rfl rfl ?_
 refine pE rfl ?_
 refine WO.nil (qs ?_)
 iterate 2 refine W.seq ?_
 refine W.region ?_
 refine pE rfl ?_
 refine callB [0] [] rfl rfl rfl rfl rfl ((here_fn s i)) rfl rfl (by rfl) (by rfl) rfl rfl rfl rfl ?_
 refine pE rfl ?_
 refine WO.nil (qs ?_)
 refine condK rfl (fun h15 => ?_) (fun h15 => ?_)
 ·
  exfalso; exact hm (u8_of (n := 45) (by decide) (of_decide_eq_true h15))
 ·
  refine W.skip (qs (W.seq (W.region ?_)))
  iterate 3 refine pE rfl ?_
  first | refine pE rfl ?_ | refine pR rfl rfl rfl rfl rfl ?_ | refine pB rfl rfl rfl rfl rfl rfl ?_
  refine pE rfl ?_
  refine WO.nil (qs ?_)
  iterate 2 refine W.seq ?_
  refine W.region ?_
  refine pE rfl ?_
  refine callB [0] [] rfl rfl rfl rfl rfl ((here_fn s i)) rfl rfl (by rfl) (by rfl) rfl rfl rfl rfl ?_
  refine pE rfl ?_
  refine WO.nil (qs (W.block ?_))
  refine W.loopR (ι := {x : Nat // match x with | j => i ≤ j ∧ j ≤ s.size ∧ (j = i ∨ hereB (bys s) i ≠ 48) ∧ (hereB (bys s) i ≠ 48 → runD (bys s) ((bys s).length - j) j = runD (bys s) ((bys s).length - i) i)})
   (fun x => match x.1 with | j => [(0, .ptr 0 0), (2, .ptr 1 0), (5, .d (.v (.int .u8 (hereB (bys s) j).toNat)))]) [(3, _), (4, _)]
   (fun x => match x.1 with | j => [(0, [.d (cs s), .d (.v (.int .i64 (j : Int)))])]) [(1, _)] [] 2 (fun x => match x.1 with | j => s.size - j)
   [0, 1] ⟨i, ?_⟩ rfl ?_ ⟨rfl, rfl, rfl, rfl, trivial⟩ ?_ ⟨rfl, rfl, trivial⟩ rfl ?_
  · exact ⟨Nat.le_refl _, hi, .inl rfl, fun _ => rfl⟩
  · repeat' first | exact trivial | refine ⟨rfl, ?_⟩ | refine ⟨congrArg some (renL_boxE _ _ _), ?_⟩ | refine ⟨step_nat (by assumption) (by assumption), ?_⟩
  · repeat' first | exact trivial | refine ⟨rfl, ?_⟩ | refine ⟨congrArg some (renL_boxE _ _ _), ?_⟩ | refine ⟨step_nat (by assumption) (by assumption), ?_⟩
  rintro ⟨j, hj1, hj2, hj3, hj4⟩
  show W _ _ _ _ _ ⟨[(0, .ptr 0 0), (2, .ptr 1 0), (5, .d (.v (.int .u8 (hereB (bys s) j).toNat))), (3, _), (4, _)], [(0, [.d (cs s), .d (.v (.int .i64 (j : Int)))]), (1, _)], [], 2⟩
  iterate 2 refine W.seq ?_
  apply regionB; (case hb => rfl)
  ·
   iterate 3 refine pE rfl ?_
   apply splitH; (case hj => rfl); (case hl => rfl)
   ·
    intro g31
    refine goG rfl rfl ?_
    refine pE rfl ?_
    refine goG rfl rfl ?_
    iterate 2 refine pE rfl ?_
    refine WO.nil ?_
    refine qv1 rfl rfl rfl
   ·
    intro g31
    iterate 2 refine skipT rfl rfl rfl rfl ?_
    refine pE rfl ?_
    refine WO.nil ?_
    refine qv1 rfl rfl rfl
  refine qs ?_
  refine condK rfl (fun h34 => ?_) (fun h34 => ?_)
  ·
   have hd : isDig (hereB (bys s) j) = true := by rw [dig_iff]; revert h34; simp; omega
   have hjs : j < s.size := by
    have := here_lt (l := bys s) (i := j) (by intro q; rw [q] at hd; exact absurd hd (by decide))
    rwa [bytes_len] at this
   refine W.skip (qs (W.seq (W.block (W.seq (W.region ?_)))))
   iterate 3 refine pE rfl ?_
   first | refine pE rfl ?_ | refine pR rfl rfl rfl rfl rfl ?_ | refine pB rfl rfl rfl rfl rfl rfl ?_
   refine pu (puI (ev tab rfl) (y := ((j + 1 : Nat) : Int)) (wrap64 (by omega))) rfl ?_
   iterate 2 refine pE rfl ?_
   refine storeR tab rfl rfl rfl rfl rfl rfl rfl rfl ?_
   refine WO.nil (qs (W.seq (W.region ?_)))
   iterate 3 refine pE rfl ?_
   first | refine pE rfl ?_ | refine pR rfl rfl rfl rfl rfl ?_ | refine pB rfl rfl rfl rfl rfl rfl ?_
   refine pE rfl ?_
   refine pu (indexStr tab rfl rfl rfl rfl (Int.natCast_nonneg _) (byteList (here_at (s := s) (i := i) (by omega)))) rfl ?_
   refine pE rfl ?_
   refine WO.nil (qs ?_)
   refine condK rfl (fun h50 => ?_) (fun h50 => ?_)
   ·
    have h48 : hereB (bys s) i = 48 := u8_of (n := 48) (by decide) (of_decide_eq_true h50)
    have hE : j + 1 = digsJ (bys s) i := by
     unfold digsJ; rw [if_pos h48]
     rcases hj3 with e | e
     · rw [e]
     · exact absurd h48 e
    rw [hE]
    refine W.exit ?_
    refine qbExit' rfl ?_
    refine qsExit (qlExit (qbExit (qs ?_)))
    iterate 2 refine W.seq ?_
    refine W.region ?_
    iterate 3 refine pE rfl ?_
    first | refine pE rfl ?_ | refine pR rfl rfl rfl rfl rfl ?_ | refine pB rfl rfl rfl rfl rfl rfl ?_
    iterate 2 refine pE rfl ?_
    refine WO.nil (qs ?_)
    refine condK rfl (fun h56 => ?_) (fun h56 => ?_)
    ·
     have q : digsJ (bys s) i = i := by have := of_decide_eq_true h56; omega
     have hg : numJ (bys s) i = .no (digsJ (bys s) i) 10 := by rw [hK]; unfold numK; rw [if_pos q, q]
     refine W.region ?_
     iterate 3 refine pE rfl ?_
     first | refine pE rfl ?_ | refine pR rfl rfl rfl rfl rfl ?_ | refine pB rfl rfl rfl rfl rfl rfl ?_
     refine callP [] [] rfl rfl rfl rfl rfl (fails_fn (digsJ (bys s) i) 10) rfl rfl (by rfl) (fun st' => ?_)
     repeat' first | refine qsPan ?_ | refine qbPan ?_ | refine qlPan ?_ | refine qcPan ?_
     exact qxPan (outP_no hg)
    ·
     have q : ¬ digsJ (bys s) i = i := by have := of_decide_eq_false h56; omega
     unfold numK at hK
     rw [if_neg q] at hK
     refine W.skip (qs (W.seq ?_))
     refine W.regionD tab (by kernel_rfl) ?_
     iterate 3 refine chPu (ev tab rfl) rfl ?_
     first | refine chPu (ev tab rfl) rfl ?_ | refine chPu (loadRow tab rfl rfl rfl rfl) rfl ?_ | refine chPu (loadBox tab rfl rfl rfl rfl rfl) rfl ?_
     iterate 4 refine chPu (ev tab rfl) rfl ?_
     first | refine chPu (ev tab rfl) rfl ?_ | refine chPu (loadRow tab rfl rfl rfl rfl) rfl ?_ | refine chPu (loadBox tab rfl rfl rfl rfl rfl) rfl ?_
     refine chPu (puS (strPart (l := (i : Int)) (h := ((digsJ (bys s) i : Nat) : Int)) tab rfl rfl rfl rfl rfl (by omega) (by omega) (by omega)) (show _ = textAt (bys s) i (digsJ (bys s) i) from extr s i _)) rfl ?_
     refine chPu (ev tab rfl) rfl ?_
     refine CH.nil ?_
     refine qs ?_
     iterate 2 refine W.seq ?_
     refine W.region ?_
     iterate 2 refine pE rfl ?_
     refine WO.nil (qs ?_)
     refine condK rfl (fun h73 => ?_) (fun h73 => ?_)
     ·
      have hg := hK
      rw [if_pos (of_decide_eq_true h73)] at hg
      refine W.region ?_
      refine pE rfl ?_
      refine WO.nil (qs (W.seq (W.region ?_)))
      refine pE rfl ?_
      refine pu (puCall rfl rfl rfl (nparse_fn _ (by first | (rw [show (B #[48]).size = 1 from rfl]; omega) | (rw [← extr, ByteArray.size_extract]; omega))) rfl) rfl ?_
      iterate 5 refine pE rfl ?_
      refine WO.nil (qs ?_)
      iterate 2 refine W.seq ?_
      refine W.region ?_
      iterate 2 refine pE rfl ?_
      refine WO.nil (qs ?_)
      refine condK rfl (fun h80 => ?_) (fun h80 => ?_)
      ·
       have hg2 : numJ (bys s) i = .no i 2 := by rw [hg]; unfold numU; rw [if_neg (by simpa using h80)]
       refine W.region ?_
       refine pE rfl ?_
       refine callP [] [] rfl rfl rfl rfl rfl (fails_fn i 2) rfl rfl (by rfl) (fun st' => ?_)
       repeat' first | refine qsPan ?_ | refine qbPan ?_ | refine qlPan ?_ | refine qcPan ?_
       exact qxPan (outP_no hg2)
      ·
       have hg2 := hg
       unfold numU at hg2
       rw [if_pos (by simpa using h80)] at hg2
       refine W.skip (qs (W.seq (W.region ?_)))
       refine pE rfl ?_
       refine pu (build tab rfl rfl rfl rfl) rfl ?_
       try refine nilO 84 rfl rfl rfl ?_
       refine storeR tab rfl rfl rfl rfl rfl rfl rfl rfl ?_
       refine WO.nil (qs (W.ret ?_))
       refine qxRet (outP_ok (hg2)) ?_
       refine QB1.end tab [] trivial rfl rfl rfl rfl ?_ ?_
       · exact ⟨rfl, trivial⟩
       rfl
     ·
      have hg := hK
      rw [if_neg (of_decide_eq_false h73)] at hg
      refine W.skip (qs (W.seq (W.region ?_)))
      refine pE rfl ?_
      refine pu (puCall rfl rfl rfl (nparse_fn _ (by first | (rw [show (B #[48]).size = 1 from rfl]; omega) | (rw [← extr, ByteArray.size_extract]; omega))) rfl) rfl ?_
      iterate 5 refine pE rfl ?_
      refine WO.nil (qs ?_)
      iterate 2 refine W.seq ?_
      refine W.region ?_
      iterate 2 refine pE rfl ?_
      refine WO.nil (qs ?_)
      refine condK rfl (fun h80 => ?_) (fun h80 => ?_)
      ·
       have hg2 : numJ (bys s) i = .no i 2 := by rw [hg]; unfold numU; rw [if_neg (by simpa using h80)]
       refine W.region ?_
       refine pE rfl ?_
       refine callP [] [] rfl rfl rfl rfl rfl (fails_fn i 2) rfl rfl (by rfl) (fun st' => ?_)
       repeat' first | refine qsPan ?_ | refine qbPan ?_ | refine qlPan ?_ | refine qcPan ?_
       exact qxPan (outP_no hg2)
      ·
       have hg2 := hg
       unfold numU at hg2
       rw [if_pos (by simpa using h80)] at hg2
       refine W.skip (qs (W.seq (W.region ?_)))
       refine pE rfl ?_
       refine pu (build tab rfl rfl rfl rfl) rfl ?_
       try refine nilO 84 rfl rfl rfl ?_
       refine storeR tab rfl rfl rfl rfl rfl rfl rfl rfl ?_
       refine WO.nil (qs (W.ret ?_))
       refine qxRet (outP_ok (hg2)) ?_
       refine QB1.end tab [] trivial rfl rfl rfl rfl ?_ ?_
       · exact ⟨rfl, trivial⟩
       rfl
   ·
    have h48 : hereB (bys s) i ≠ 48 := by intro q; rw [q] at h50; simp at h50
    refine W.skip (qbN (qs (W.region ?_)))
    refine pE rfl ?_
    refine callB [0] [] rfl rfl rfl rfl rfl ((here_fn s (j + 1))) rfl rfl (by rfl) (by rfl) rfl rfl rfl rfl ?_
    refine pE rfl ?_
    refine WO.nil ?_
    refine W.endR [0, 1] ⟨j + 1, ?_⟩ ?_ rfl ?_ ⟨rfl, rfl, rfl, rfl, trivial⟩ ?_ ⟨rfl, rfl, trivial⟩ rfl
    · exact ⟨by omega, by omega, .inr h48, fun q => by rw [← hj4 q, runD_step (by rw [bytes_len]; exact hjs) hd]⟩
    · dsimp only; omega
    · repeat' first | exact trivial | refine ⟨rfl, ?_⟩ | refine ⟨congrArg some (renL_boxE _ _ _), ?_⟩ | refine ⟨step_nat (by assumption) (by assumption), ?_⟩
    · repeat' first | exact trivial | refine ⟨rfl, ?_⟩ | refine ⟨congrArg some (renL_boxE _ _ _), ?_⟩ | refine ⟨step_nat (by assumption) (by assumption), ?_⟩
  ·
   have hd : isDig (hereB (bys s) j) = false := by
    cases q : isDig (hereB (bys s) j) with
    | false => rfl
    | true => rw [dig_iff] at q; revert h34; simp; omega
   have h48 : hereB (bys s) i ≠ 48 := by
    rcases hj3 with e | e
    · rw [← e]; intro q; rw [q] at hd; exact absurd hd (by decide)
    · exact e
   have hE : digsJ (bys s) i = j := by unfold digsJ; rw [if_neg h48, ← hj4 h48, runD_stop hd]
   subst hE
   refine W.exit (qsExit (qlExit (qbExit (qs ?_))))
   iterate 2 refine W.seq ?_
   refine W.region ?_
   iterate 3 refine pE rfl ?_
   first | refine pE rfl ?_ | refine pR rfl rfl rfl rfl rfl ?_ | refine pB rfl rfl rfl rfl rfl rfl ?_
   iterate 2 refine pE rfl ?_
   refine WO.nil (qs ?_)
   refine condK rfl (fun h56 => ?_) (fun h56 => ?_)
   ·
    have q : digsJ (bys s) i = i := by have := of_decide_eq_true h56; omega
    have hg : numJ (bys s) i = .no (digsJ (bys s) i) 10 := by rw [hK]; unfold numK; rw [if_pos q, q]
    refine W.region ?_
    iterate 3 refine pE rfl ?_
    first | refine pE rfl ?_ | refine pR rfl rfl rfl rfl rfl ?_ | refine pB rfl rfl rfl rfl rfl rfl ?_
    refine callP [] [] rfl rfl rfl rfl rfl (fails_fn (digsJ (bys s) i) 10) rfl rfl (by rfl) (fun st' => ?_)
    repeat' first | refine qsPan ?_ | refine qbPan ?_ | refine qlPan ?_ | refine qcPan ?_
    exact qxPan (outP_no hg)
   ·
    have q : ¬ digsJ (bys s) i = i := by have := of_decide_eq_false h56; omega
    unfold numK at hK
    rw [if_neg q] at hK
    refine W.skip (qs (W.seq ?_))
    refine W.regionD tab (by kernel_rfl) ?_
    iterate 3 refine chPu (ev tab rfl) rfl ?_
    first | refine chPu (ev tab rfl) rfl ?_ | refine chPu (loadRow tab rfl rfl rfl rfl) rfl ?_ | refine chPu (loadBox tab rfl rfl rfl rfl rfl) rfl ?_
    iterate 4 refine chPu (ev tab rfl) rfl ?_
    first | refine chPu (ev tab rfl) rfl ?_ | refine chPu (loadRow tab rfl rfl rfl rfl) rfl ?_ | refine chPu (loadBox tab rfl rfl rfl rfl rfl) rfl ?_
    refine chPu (puS (strPart (l := (i : Int)) (h := ((digsJ (bys s) i : Nat) : Int)) tab rfl rfl rfl rfl rfl (by omega) (by omega) (by omega)) (show _ = textAt (bys s) i (digsJ (bys s) i) from extr s i _)) rfl ?_
    refine chPu (ev tab rfl) rfl ?_
    refine CH.nil ?_
    refine qs ?_
    iterate 2 refine W.seq ?_
    refine W.region ?_
    iterate 2 refine pE rfl ?_
    refine WO.nil (qs ?_)
    refine condK rfl (fun h73 => ?_) (fun h73 => ?_)
    ·
     have hg := hK
     rw [if_pos (of_decide_eq_true h73)] at hg
     refine W.region ?_
     refine pE rfl ?_
     refine WO.nil (qs (W.seq (W.region ?_)))
     refine pE rfl ?_
     refine pu (puCall rfl rfl rfl (nparse_fn _ (by first | (rw [show (B #[48]).size = 1 from rfl]; omega) | (rw [← extr, ByteArray.size_extract]; omega))) rfl) rfl ?_
     iterate 5 refine pE rfl ?_
     refine WO.nil (qs ?_)
     iterate 2 refine W.seq ?_
     refine W.region ?_
     iterate 2 refine pE rfl ?_
     refine WO.nil (qs ?_)
     refine condK rfl (fun h80 => ?_) (fun h80 => ?_)
     ·
      have hg2 : numJ (bys s) i = .no i 2 := by rw [hg]; unfold numU; rw [if_neg (by simpa using h80)]
      refine W.region ?_
      refine pE rfl ?_
      refine callP [] [] rfl rfl rfl rfl rfl (fails_fn i 2) rfl rfl (by rfl) (fun st' => ?_)
      repeat' first | refine qsPan ?_ | refine qbPan ?_ | refine qlPan ?_ | refine qcPan ?_
      exact qxPan (outP_no hg2)
     ·
      have hg2 := hg
      unfold numU at hg2
      rw [if_pos (by simpa using h80)] at hg2
      refine W.skip (qs (W.seq (W.region ?_)))
      refine pE rfl ?_
      refine pu (build tab rfl rfl rfl rfl) rfl ?_
      try refine nilO 84 rfl rfl rfl ?_
      refine storeR tab rfl rfl rfl rfl rfl rfl rfl rfl ?_
      refine WO.nil (qs (W.ret ?_))
      refine qxRet (outP_ok (hg2)) ?_
      refine QB1.end tab [] trivial rfl rfl rfl rfl ?_ ?_
      · exact ⟨rfl, trivial⟩
      rfl
    ·
     have hg := hK
     rw [if_neg (of_decide_eq_false h73)] at hg
     refine W.skip (qs (W.seq (W.region ?_)))
     refine pE rfl ?_
     refine pu (puCall rfl rfl rfl (nparse_fn _ (by first | (rw [show (B #[48]).size = 1 from rfl]; omega) | (rw [← extr, ByteArray.size_extract]; omega))) rfl) rfl ?_
     iterate 5 refine pE rfl ?_
     refine WO.nil (qs ?_)
     iterate 2 refine W.seq ?_
     refine W.region ?_
     iterate 2 refine pE rfl ?_
     refine WO.nil (qs ?_)
     refine condK rfl (fun h80 => ?_) (fun h80 => ?_)
     ·
      have hg2 : numJ (bys s) i = .no i 2 := by rw [hg]; unfold numU; rw [if_neg (by simpa using h80)]
      refine W.region ?_
      refine pE rfl ?_
      refine callP [] [] rfl rfl rfl rfl rfl (fails_fn i 2) rfl rfl (by rfl) (fun st' => ?_)
      repeat' first | refine qsPan ?_ | refine qbPan ?_ | refine qlPan ?_ | refine qcPan ?_
      exact qxPan (outP_no hg2)
     ·
      have hg2 := hg
      unfold numU at hg2
      rw [if_pos (by simpa using h80)] at hg2
      refine W.skip (qs (W.seq (W.region ?_)))
      refine pE rfl ?_
      refine pu (build tab rfl rfl rfl rfl) rfl ?_
      try refine nilO 84 rfl rfl rfl ?_
      refine storeR tab rfl rfl rfl rfl rfl rfl rfl rfl ?_
      refine WO.nil (qs (W.ret ?_))
      refine qxRet (outP_ok (hg2)) ?_
      refine QB1.end tab [] trivial rfl rfl rfl rfl ?_ ?_
      · exact ⟨rfl, trivial⟩
      rfl
theorem number_fn (s : ByteArray) (i : Nat) (hi : i ≤ s.size) (hs : s.size ≤ 1000000000) : DoesE Tryd.prog 54 [.ptr 0 0] [pbox s i] 0 (outP 57 s (fun v : JV => .ag v.c) (numJ (bys s) i)) := by
 by_cases hm : hereB (bys s) i = 45
 · exact number_neg s i hi hs hm
 · exact number_pos s i hi hs hm
end Go.Proofs.YtllkpgnpioojjaaDoor
namespace Go.Proofs.YtllkpgnpioojjaaDoor
open Go.Ab Go.Tb
set_option maxRecDepth 10000
attribute [local irreducible] W WO Pu QS QB QL QF QV QV1 CH QE
theorem text_step {l : List UInt8} {k i : Nat} {acc : List UInt8} (h1 : ¬ ((hereB l i).toNat < 32 ∨ 126 < (hereB l i).toNat)) (h2 : hereB l i ≠ 34) (h3 : hereB l i ≠ 92) : textGo l (k + 1) i acc = textGo l k (i + 1) (acc ++ [hereB l i]) := by
 rw [textGo, if_neg h1, if_neg h2, if_neg h3]
theorem text_esc {l : List UInt8} {k i : Nat} {acc : List UInt8} (h3 : hereB l i = 92) : textGo l (k + 1) i acc = match escJ l (i + 1) with | .no a w => .no a w | .ok c j => textGo l k j (acc ++ [c]) := by
 rw [textGo, h3]; rfl
theorem text_end {l : List UInt8} {k i : Nat} {acc : List UInt8} (h3 : hereB l i = 34) : textGo l (k + 1) i acc = .ok acc (i + 1) := by
 rw [textGo, h3]; rfl
theorem text_no {l : List UInt8} {k i : Nat} {acc : List UInt8} (h1 : (hereB l i).toNat < 32 ∨ 126 < (hereB l i).toNat) : textGo l (k + 1) i acc = .no i 10 := by
 rw [textGo, if_pos h1]
theorem catC (a : List UInt8) (b : UInt8) : bytesOf a ++ bytesOf [b] = bytesOf (a ++ [b]) := bys_inj (by show bys _ = bys _; rw [cat_bytes, bys_bytesOf, bys_bytesOf])
theorem ptext_fn (s : ByteArray) (i : Nat) (hi : i ≤ s.size) (hs : s.size ≤ 1000000000) : DoesE Tryd.prog 51 [.ptr 0 0] [pbox s i] 0 (outP 57 s (fun t : List UInt8 => .d (.v (.string (bytesOf t)))) (textJ (bys s) i)) := by
 refine DoesE.of_VF tab (n := 53) (rs := [.tmp 2]) Tryd.func51 (by kernel_rfl) rfl Tryd.ntmps51 Tryd.results51 rfl (outP_len ..) fun C hC hG hfe hlo => ?_
 refine W.seq (W.region ?_)
 refine pE rfl ?_
 refine WO.nil (qs (W.seq (W.region ?_)))
 refine pE rfl ?_
 cases hc6 : takeJ (bys s) 34 i with
 | no a6 w6 =>
  refine callP [0] [] rfl rfl rfl rfl rfl ((take_fn s 34 i hs).pan (outP_no hc6)) rfl rfl (by rfl) (fun st' => ?_)
  repeat' first | refine qsPan ?_ | refine qbPan ?_ | refine qlPan ?_ | refine qcPan ?_
  refine qxPan (outP_no (by unfold textJ; rw [hc6]))
 | ok y6 i6 =>
  refine callB [0] [] rfl rfl rfl rfl rfl ((take_fn s 34 i hs).ret (outP_ok hc6)) rfl rfl (by rfl) (by rfl) rfl rfl rfl rfl ?_
  have hg : textJ (bys s) i = textGo (bys s) ((bys s).length + 1 - i6) i6 [] := by unfold textJ; rw [hc6]
  have hb6 := takeJ_bd (l := bys s) (c := 34) (i := i) (by rw [bytes_len]; exact hi)
  rw [hc6] at hb6
  refine WO.nil (qs (W.seq (W.region ?_)))
  refine allocB tab tU rfl rfl rfl ?_
  refine WO.nil (qs (W.block ?_))
  refine W.loopR (ι := {x : Nat × List UInt8 × Bool // match x with | (j, acc, u) => j ≤ s.size ∧ acc.length ≤ j ∧ ∃ kk, (bys s).length ≤ kk + j ∧ textGo (bys s) (kk + 1) j acc = textJ (bys s) i})
   (fun x => match x.1 with | (j, acc, u) => [(0, .ptr 0 0), (3, .ptr 1 0)]) []
   (fun x => match x.1 with | (j, acc, u) => [(0, [.d (cs s), .d (.v (.int .i64 (j : Int)))]), (1, [.np 1 tB u, .bf 2 tU (bytesOf acc)])]) [] [2] 3 (fun x => match x.1 with | (j, acc, u) => s.size - j)
   [0, 2, 3] ⟨(i6, [], false), ?_⟩ rfl ?_ trivial ?_ trivial rfl ?_
  · exact ⟨by have := hb6.2; rwa [bytes_len] at this, Nat.zero_le _, (bys s).length - i6, by omega, by rw [hg, show (bys s).length + 1 - i6 = (bys s).length - i6 + 1 by have := hb6.2; omega]⟩
  · repeat' first | exact trivial | refine ⟨rfl, ?_⟩ | refine ⟨congrArg some (renL_boxE _ _ _), ?_⟩ | refine ⟨step_nat (by assumption) (by assumption), ?_⟩
  · repeat' first | exact trivial | refine ⟨rfl, ?_⟩ | refine ⟨congrArg some (renL_boxE _ _ _), ?_⟩ | refine ⟨step_nat (by assumption) (by assumption), ?_⟩
  rintro ⟨⟨j, acc, u⟩, hj, ha, hX⟩
  show W _ _ _ _ _ ⟨[(0, .ptr 0 0), (3, .ptr 1 0)], [(0, [.d (cs s), .d (.v (.int .i64 (j : Int)))]), (1, [.np 1 tB u, .bf 2 tU (bytesOf acc)])], [2], 3⟩
  refine W.block (W.seq ?_)
  obtain ⟨kk, hkk, hI⟩ := hX
  refine W.region ?_
  refine pE rfl ?_
  refine callB [0] [] rfl rfl rfl rfl rfl ((here_fn s j)) rfl rfl (by rfl) (by rfl) rfl rfl rfl rfl ?_
  refine pE rfl ?_
  refine WO.nil (qs (W.seq (W.block (W.seq ?_))))
  apply regionB; (case hb => rfl)
  ·
   iterate 3 refine pE rfl ?_
   apply splitJ; (case hj => rfl); (case hl => rfl)
   ·
    iterate 2 refine skipT rfl rfl rfl rfl ?_
    iterate 2 refine pE rfl ?_
    refine WO.nil ?_
    refine qv1 rfl rfl rfl
   ·
    refine goG rfl rfl ?_
    refine pE rfl ?_
    refine goG rfl rfl ?_
    iterate 3 refine pE rfl ?_
    refine WO.nil ?_
    refine qv1 rfl rfl rfl
  refine qs ?_
  refine condK rfl (fun h16 => ?_) (fun h16 => ?_)
  ·
   have q : (hereB (bys s) j).toNat < 32 ∨ 126 < (hereB (bys s) j).toNat := by revert h16; simp; omega
   have hx : textJ (bys s) i = .no j 10 := by rw [← hI, text_no q]
   refine W.region ?_
   iterate 3 refine pE rfl ?_
   first | refine pE rfl ?_ | refine pR rfl rfl rfl rfl rfl ?_ | refine pB rfl rfl rfl rfl rfl rfl ?_
   refine callP [] [] rfl rfl rfl rfl rfl (fails_fn j 10) rfl rfl (by rfl) (fun st' => ?_)
   repeat' first | refine qsPan ?_ | refine qbPan ?_ | refine qlPan ?_ | refine qcPan ?_
   exact qxPan (outP_no hx)
  ·
   have q : ¬ ((hereB (bys s) j).toNat < 32 ∨ 126 < (hereB (bys s) j).toNat) := by revert h16; simp; omega
   have hjs : j < s.size := by
    have := here_lt (l := bys s) (i := j) (by intro e; rw [e] at q; exact q (.inl (by decide)))
    rwa [bytes_len] at this
   refine W.seq (W.region ?_)
   iterate 3 refine pE rfl ?_
   refine WO.nil (qs ?_)
   refine condK rfl (fun h28 => ?_) (fun h28 => ?_)
   ·
    have hx : textJ (bys s) i = .ok acc (j + 1) := by rw [← hI, text_end (u8_of (n := 34) (by decide) (of_decide_eq_true h28))]
    refine W.seq (W.region ?_)
    iterate 3 refine pE rfl ?_
    first | refine pE rfl ?_ | refine pR rfl rfl rfl rfl rfl ?_ | refine pB rfl rfl rfl rfl rfl rfl ?_
    refine pu (puI (ev tab rfl) (y := ((j + 1 : Nat) : Int)) (wrap64 (by omega))) rfl ?_
    iterate 2 refine pE rfl ?_
    refine storeR tab rfl rfl rfl rfl rfl rfl rfl rfl ?_
    refine WO.nil (qs (W.seq (W.region ?_)))
    refine strKeep (hfe rfl) hlo rfl rfl rfl rfl bld_st bld_str (by rw [sz_of]; simp only [maxLen]; omega) rfl rfl ?_
    refine pE rfl ?_
    refine WO.nil (qs (W.ret (qbRet (qsRet (qbRet (qlRet (qbRet ?_)))))))
    refine qxRet (outP_ok (hx)) ?_
    refine QB1.end tab [] trivial rfl rfl rfl rfl ?_ ?_
    · exact ⟨rfl, trivial⟩
    rfl
   ·
    have q2 : hereB (bys s) j ≠ 34 := by intro e; rw [e] at h28; simp at h28
    refine W.seq (W.region ?_)
    iterate 3 refine pE rfl ?_
    refine WO.nil (qs ?_)
    refine condK rfl (fun h39 => ?_) (fun h39 => ?_)
    ·
     have hI2 := hI
     rw [text_esc (u8_of (n := 92) (by decide) (of_decide_eq_true h39))] at hI2
     have hbd := escJ_bd (l := bys s) (i := j + 1) (by rw [bytes_len]; omega)
     refine W.seq (W.region ?_)
     iterate 3 refine pE rfl ?_
     first | refine pE rfl ?_ | refine pR rfl rfl rfl rfl rfl ?_ | refine pB rfl rfl rfl rfl rfl rfl ?_
     refine pu (puI (ev tab rfl) (y := ((j + 1 : Nat) : Int)) (wrap64 (by omega))) rfl ?_
     iterate 2 refine pE rfl ?_
     refine storeR tab rfl rfl rfl rfl rfl rfl rfl rfl ?_
     refine WO.nil (qs (W.region ?_))
     refine pE rfl ?_
     cases hc50 : escJ (bys s) (j + 1) with
     | no a50 w50 =>
      refine callP [0] [] rfl rfl rfl rfl rfl ((escape_fn s (j + 1) (by omega) hs).pan (outP_no hc50)) rfl rfl (by rfl) (fun st' => ?_)
      repeat' first | refine qsPan ?_ | refine qbPan ?_ | refine qlPan ?_ | refine qcPan ?_
      refine qxPan (outP_no (by rw [← hI2, hc50]))
     | ok y50 i50 =>
      refine callB [0] [] rfl rfl rfl rfl rfl ((escape_fn s (j + 1) (by omega) hs).ret (outP_ok hc50)) rfl rfl (by rfl) (by rfl) rfl rfl rfl rfl ?_
      rw [hc50] at hI2 hbd
      have hbd2 : j + 1 < i50 ∧ i50 ≤ s.size := by have := hbd; rw [← bytes_len s]; exact this
      have hW := bbyte_to (u := u) (s := bytesOf acc) (m := bytesOf [y50]) (r := bytesOf (acc ++ [y50])) (c := y50.toNat) (catC ..) rfl (one_bb _).2 (by rw [sz_of]; omega)
      refine pE rfl ?_
      refine WO.nil (qbN (qs (W.region ?_)))
      refine pE rfl ?_
      refine callB [1] [2] rfl rfl rfl rfl rfl hW rfl rfl (by rfl) (by rfl) rfl rfl rfl rfl ?_
      refine WO.nil (qbN ?_)
      first | (refine W.endR [0, 1, 6] ⟨(i50, acc ++ [y50], true), ?_⟩ ?_ rfl ?_ trivial ?_ trivial rfl) | (refine W.endR [0, 1, 5] ⟨(j + 1, acc ++ [hereB (bys s) j], true), ?_⟩ ?_ rfl ?_ trivial ?_ trivial rfl)
      ·
       obtain ⟨k2, rfl⟩ : ∃ k2, kk = k2 + 1 := ⟨kk - 1, by rw [bytes_len] at hkk; omega⟩
       exact ⟨by omega, by rw [List.length_append, List.length_singleton]; omega, k2, by omega, hI2⟩
      · dsimp only; omega
      · repeat' first | exact trivial | refine ⟨rfl, ?_⟩ | refine ⟨congrArg some (renL_boxE _ _ _), ?_⟩ | refine ⟨step_nat (by assumption) (by assumption), ?_⟩
      · repeat' first | exact trivial | refine ⟨rfl, ?_⟩ | refine ⟨congrArg some (renL_boxE _ _ _), ?_⟩ | refine ⟨step_nat (by assumption) (by assumption), ?_⟩
    ·
     have q3 : hereB (bys s) j ≠ 92 := by intro e; rw [e] at h39; simp at h39
     have hI2 := hI
     rw [text_step q q2 q3] at hI2
     have hW := bbyte_to (u := u) (s := bytesOf acc) (m := bytesOf [hereB (bys s) j]) (r := bytesOf (acc ++ [hereB (bys s) j])) (c := (hereB (bys s) j).toNat) (catC ..) rfl (one_bb _).2 (by rw [sz_of]; omega)
     refine W.region ?_
     iterate 3 refine pE rfl ?_
     first | refine pE rfl ?_ | refine pR rfl rfl rfl rfl rfl ?_ | refine pB rfl rfl rfl rfl rfl rfl ?_
     refine pu (puI (ev tab rfl) (y := ((j + 1 : Nat) : Int)) (wrap64 (by omega))) rfl ?_
     iterate 2 refine pE rfl ?_
     refine storeR tab rfl rfl rfl rfl rfl rfl rfl rfl ?_
     refine WO.nil (qbN (qs (W.region ?_)))
     refine pE rfl ?_
     refine callB [1] [2] rfl rfl rfl rfl rfl hW rfl rfl (by rfl) (by rfl) rfl rfl rfl rfl ?_
     refine WO.nil (qbN ?_)
     first | (refine W.endR [0, 1, 6] ⟨(i50, acc ++ [y50], true), ?_⟩ ?_ rfl ?_ trivial ?_ trivial rfl) | (refine W.endR [0, 1, 5] ⟨(j + 1, acc ++ [hereB (bys s) j], true), ?_⟩ ?_ rfl ?_ trivial ?_ trivial rfl)
     ·
      obtain ⟨k2, rfl⟩ : ∃ k2, kk = k2 + 1 := ⟨kk - 1, by rw [bytes_len] at hkk; omega⟩
      exact ⟨by omega, by rw [List.length_append, List.length_singleton]; omega, k2, by omega, hI2⟩
     · dsimp only; omega
     · repeat' first | exact trivial | refine ⟨rfl, ?_⟩ | refine ⟨congrArg some (renL_boxE _ _ _), ?_⟩ | refine ⟨step_nat (by assumption) (by assumption), ?_⟩
     · repeat' first | exact trivial | refine ⟨rfl, ?_⟩ | refine ⟨congrArg some (renL_boxE _ _ _), ?_⟩ | refine ⟨step_nat (by assumption) (by assumption), ?_⟩
end Go.Proofs.YtllkpgnpioojjaaDoor
namespace Go.Proofs.YtllkpgnpioojjaaDoor
open Go.Ab Go.Tb
set_option maxRecDepth 10000
attribute [local irreducible] W WO Pu QS QB QL QF QV QV1 CH QE
theorem val_eq (l : List UInt8) (k : Nat) (level : Int) (i0 : Nat) : valJ l (k + 1) level i0 =
  if hereB l (skipB l i0) = 110 then (match wordJ l nullL (skipB l i0) with | .no a w => .no a w | .ok _ j => .ok (.mk 1 0 (B #[]) [] []) j)
  else if hereB l (skipB l i0) = 116 then (match wordJ l trueL (skipB l i0) with | .no a w => .no a w | .ok _ j => .ok (.mk 2 1 (B #[]) [] []) j)
  else if hereB l (skipB l i0) = 102 then (match wordJ l falseL (skipB l i0) with | .no a w => .no a w | .ok _ j => .ok (.mk 2 0 (B #[]) [] []) j)
  else if hereB l (skipB l i0) = 34 then (match textJ l (skipB l i0) with | .no a w => .no a w | .ok t j => .ok (.mk 4 0 (bytesOf t) [] []) j)
  else if hereB l (skipB l i0) = 91 ∨ hereB l (skipB l i0) = 123 then
   if 16 < level then .no (skipB l i0) 20
   else if hereB l (skipB l i0) = 91 then arrJ l k level (skipB l i0 + 1) else objJ l k level (skipB l i0 + 1)
  else numJ l (skipB l i0) := by rw [valJ]; rfl
theorem ne_of {c d : UInt8} (h : decide ((c.toNat : Int) = (d.toNat : Int)) = false) : c ≠ d := by rintro rfl; simp at h
theorem eq_of {c d : UInt8} (h : decide ((c.toNat : Int) = (d.toNat : Int)) = true) : c = d := UInt8.toNat_inj.1 (by have := of_decide_eq_true h; omega)
theorem value_step (s : ByteArray) (k : Nat) (hs : s.size ≤ 1000000000) (level : Int) (i0 : Nat) (hi : i0 ≤ s.size)
  (hA : ∀ i, i0 < i → i ≤ s.size → level ≤ 16 → DoesE Tryd.prog 52 [.ptr 0 0, .d (.v (.int .i64 level))] [pbox s i] 0 (outP 57 s (fun v : JV => .ag v.c) (arrJ (bys s) k level i)))
  (hO : ∀ i, i0 < i → i ≤ s.size → level ≤ 16 → DoesE Tryd.prog 53 [.ptr 0 0, .d (.v (.int .i64 level))] [pbox s i] 0 (outP 57 s (fun v : JV => .ag v.c) (objJ (bys s) k level i))) :
  DoesE Tryd.prog 32 [.ptr 0 0, .d (.v (.int .i64 level))] [pbox s i0] 0 (outP 57 s (fun v : JV => .ag v.c) (valJ (bys s) (k + 1) level i0)) := by
 have hle : skipB (bys s) i0 ≤ s.size := by have := skipB_le (l := bys s) (i := i0) (by rw [bytes_len]; exact hi); rwa [bytes_len] at this
 have hge := skipB_ge (bys s) i0
 have hv := val_eq (bys s) k level i0
 refine DoesE.of_V tab (n := 63) (rs := [.cell 4 26]) Tryd.func32 (by kernel_rfl) rfl Tryd.ntmps32 Tryd.results32 rfl (outP_len ..) fun C hC hG => ?_
 refine W.seq (W.region ?_)
 refine allocR tab rfl rfl rfl ?_
 refine WO.nil (qs ?_)
 iterate 2 refine W.seq ?_
 refine W.region ?_
 refine pE rfl ?_
 refine callB [0] [] rfl rfl rfl rfl rfl ((peek_fn s i0 hi hs)) rfl rfl (by rfl) (by rfl) rfl rfl rfl rfl ?_
 refine pE rfl ?_
 refine WO.nil (qs (W.block (W.seq (W.region ?_))))
 iterate 3 refine pE rfl ?_
 refine WO.nil (qs ?_)
 refine condK rfl (fun h8 => ?_) (fun h8 => ?_)
 ·
  rw [if_pos (eq_of (d := 110) h8)] at hv
  refine W.seq (W.region ?_)
  refine pE rfl ?_
  cases hc12 : wordJ (bys s) nullL (skipB (bys s) i0) with
  | no a12 w12 =>
   refine callP [0] [] rfl rfl rfl rfl rfl ((word_fn s (B #[110, 117, 108, 108]) (skipB (bys s) i0) hs).pan (outP_no hc12)) rfl rfl (by rfl) (fun st' => ?_)
   repeat' first | refine qsPan ?_ | refine qbPan ?_ | refine qlPan ?_ | refine qcPan ?_
   refine qxPan (outP_no (by rw [hv, hc12]))
  | ok y12 i12 =>
   refine callB [0] [] rfl rfl rfl rfl rfl ((word_fn s (B #[110, 117, 108, 108]) (skipB (bys s) i0) hs).ret (outP_ok hc12)) rfl rfl (by rfl) (by rfl) rfl rfl rfl rfl ?_
   refine WO.nil (qs (W.seq (W.region ?_)))
   refine pu (build tab rfl rfl rfl rfl) rfl ?_
   try refine nilO 13 rfl rfl rfl ?_
   refine storeR tab rfl rfl rfl rfl rfl rfl rfl rfl ?_
   refine WO.nil (qs (W.ret (qbRet (qsRet ?_))))
   refine qxRet (outP_ok ((by rw [hv, hc12]))) ?_
   refine QB1.end tab [] trivial rfl rfl rfl rfl ?_ ?_
   · exact ⟨rfl, trivial⟩
   rfl
 ·
  rw [if_neg (ne_of (d := 110) h8)] at hv
  refine W.seq (W.region ?_)
  iterate 3 refine pE rfl ?_
  refine WO.nil (qs ?_)
  refine condK rfl (fun h14 => ?_) (fun h14 => ?_)
  ·
   rw [if_pos (eq_of (d := 116) h14)] at hv
   refine W.seq (W.region ?_)
   refine pE rfl ?_
   cases hc18 : wordJ (bys s) trueL (skipB (bys s) i0) with
   | no a18 w18 =>
    refine callP [0] [] rfl rfl rfl rfl rfl ((word_fn s (B #[116, 114, 117, 101]) (skipB (bys s) i0) hs).pan (outP_no hc18)) rfl rfl (by rfl) (fun st' => ?_)
    repeat' first | refine qsPan ?_ | refine qbPan ?_ | refine qlPan ?_ | refine qcPan ?_
    refine qxPan (outP_no (by rw [hv, hc18]))
   | ok y18 i18 =>
    refine callB [0] [] rfl rfl rfl rfl rfl ((word_fn s (B #[116, 114, 117, 101]) (skipB (bys s) i0) hs).ret (outP_ok hc18)) rfl rfl (by rfl) (by rfl) rfl rfl rfl rfl ?_
    refine WO.nil (qs (W.seq (W.region ?_)))
    refine pu (build tab rfl rfl rfl rfl) rfl ?_
    try refine nilO 19 rfl rfl rfl ?_
    refine storeR tab rfl rfl rfl rfl rfl rfl rfl rfl ?_
    refine WO.nil (qs (W.ret (qbRet (qsRet ?_))))
    refine qxRet (outP_ok ((by rw [hv, hc18]))) ?_
    refine QB1.end tab [] trivial rfl rfl rfl rfl ?_ ?_
    · exact ⟨rfl, trivial⟩
    rfl
  ·
   rw [if_neg (ne_of (d := 116) h14)] at hv
   refine W.seq (W.region ?_)
   iterate 3 refine pE rfl ?_
   refine WO.nil (qs ?_)
   refine condK rfl (fun h20 => ?_) (fun h20 => ?_)
   ·
    rw [if_pos (eq_of (d := 102) h20)] at hv
    refine W.seq (W.region ?_)
    refine pE rfl ?_
    cases hc24 : wordJ (bys s) falseL (skipB (bys s) i0) with
    | no a24 w24 =>
     refine callP [0] [] rfl rfl rfl rfl rfl ((word_fn s (B #[102, 97, 108, 115, 101]) (skipB (bys s) i0) hs).pan (outP_no hc24)) rfl rfl (by rfl) (fun st' => ?_)
     repeat' first | refine qsPan ?_ | refine qbPan ?_ | refine qlPan ?_ | refine qcPan ?_
     refine qxPan (outP_no (by rw [hv, hc24]))
    | ok y24 i24 =>
     refine callB [0] [] rfl rfl rfl rfl rfl ((word_fn s (B #[102, 97, 108, 115, 101]) (skipB (bys s) i0) hs).ret (outP_ok hc24)) rfl rfl (by rfl) (by rfl) rfl rfl rfl rfl ?_
     refine WO.nil (qs (W.seq (W.region ?_)))
     refine pu (build tab rfl rfl rfl rfl) rfl ?_
     try refine nilO 25 rfl rfl rfl ?_
     refine storeR tab rfl rfl rfl rfl rfl rfl rfl rfl ?_
     refine WO.nil (qs (W.ret (qbRet (qsRet ?_))))
     refine qxRet (outP_ok ((by rw [hv, hc24]))) ?_
     refine QB1.end tab [] trivial rfl rfl rfl rfl ?_ ?_
     · exact ⟨rfl, trivial⟩
     rfl
   ·
    rw [if_neg (ne_of (d := 102) h20)] at hv
    refine W.seq (W.region ?_)
    iterate 3 refine pE rfl ?_
    refine WO.nil (qs ?_)
    refine condK rfl (fun h26 => ?_) (fun h26 => ?_)
    ·
     rw [if_pos (eq_of (d := 34) h26)] at hv
     refine W.seq (W.region ?_)
     refine pE rfl ?_
     cases hc30 : textJ (bys s) (skipB (bys s) i0) with
     | no a30 w30 =>
      refine callP [0] [] rfl rfl rfl rfl rfl ((ptext_fn s (skipB (bys s) i0) hle hs).pan (outP_no hc30)) rfl rfl (by rfl) (fun st' => ?_)
      repeat' first | refine qsPan ?_ | refine qbPan ?_ | refine qlPan ?_ | refine qcPan ?_
      refine qxPan (outP_no (by rw [hv, hc30]))
     | ok y30 i30 =>
      refine callB [0] [] rfl rfl rfl rfl rfl ((ptext_fn s (skipB (bys s) i0) hle hs).ret (outP_ok hc30)) rfl rfl (by rfl) (by rfl) rfl rfl rfl rfl ?_
      refine pu (build tab rfl rfl rfl rfl) rfl ?_
      try refine nilO 31 rfl rfl rfl ?_
      refine storeR tab rfl rfl rfl rfl rfl rfl rfl rfl ?_
      refine WO.nil (qs (W.ret (qbRet (qsRet ?_))))
      refine qxRet (outP_ok ((by rw [hv, hc30]))) ?_
      refine QB1.end tab [] trivial rfl rfl rfl rfl ?_ ?_
      · exact ⟨rfl, trivial⟩
      rfl
    ·
     rw [if_neg (ne_of (d := 34) h26)] at hv
     refine W.seq ?_
     apply regionB; (case hb => rfl)
     ·
      iterate 3 refine pE rfl ?_
      apply splitJ; (case hj => rfl); (case hl => rfl)
      ·
       iterate 2 refine skipT rfl rfl rfl rfl ?_
       iterate 2 refine pE rfl ?_
       refine WO.nil ?_
       refine qv1 rfl rfl rfl
      ·
       refine goG rfl rfl ?_
       refine pE rfl ?_
       refine goG rfl rfl ?_
       iterate 3 refine pE rfl ?_
       refine WO.nil ?_
       refine qv1 rfl rfl rfl
     refine qs ?_
     refine condK rfl (fun h32 => ?_) (fun h32 => ?_)
     ·
      have q : hereB (bys s) (skipB (bys s) i0) = 91 ∨ hereB (bys s) (skipB (bys s) i0) = 123 := by
       by_cases e : hereB (bys s) (skipB (bys s) i0) = 91
       · exact .inl e
       ·
        refine .inr (u8_of (n := 123) (by decide) ?_)
        have e2 : ¬ ((hereB (bys s) (skipB (bys s) i0)).toNat : Int) = 91 := fun h => e (u8_of (n := 91) (by decide) h)
        revert h32; simp [e2]
      rw [if_pos q] at hv
      have hjs : skipB (bys s) i0 < s.size := by
       have := here_lt (l := bys s) (i := skipB (bys s) i0) (by rcases q with q | q <;> rw [q] <;> decide)
       rwa [bytes_len] at this
      iterate 2 refine W.seq ?_
      refine W.region ?_
      iterate 2 refine pE rfl ?_
      refine WO.nil (qs ?_)
      refine condK rfl (fun h40 => ?_) (fun h40 => ?_)
      ·
       rw [if_pos (of_decide_eq_true h40)] at hv
       refine W.region ?_
       iterate 3 refine pE rfl ?_
       first | refine pE rfl ?_ | refine pR rfl rfl rfl rfl rfl ?_ | refine pB rfl rfl rfl rfl rfl rfl ?_
       refine callP [] [] rfl rfl rfl rfl rfl (fails_fn (skipB (bys s) i0) 20) rfl rfl (by rfl) (fun st' => ?_)
       repeat' first | refine qsPan ?_ | refine qbPan ?_ | refine qlPan ?_ | refine qcPan ?_
       exact qxPan (outP_no hv)
      ·
       have hl16 : ¬ 16 < level := of_decide_eq_false h40
       rw [if_neg hl16] at hv
       refine W.skip (qs (W.seq (W.region ?_)))
       iterate 3 refine pE rfl ?_
       first | refine pE rfl ?_ | refine pR rfl rfl rfl rfl rfl ?_ | refine pB rfl rfl rfl rfl rfl rfl ?_
       refine pu (puI (ev tab rfl) (y := ((skipB (bys s) i0 + 1 : Nat) : Int)) (wrap64 (by omega))) rfl ?_
       iterate 2 refine pE rfl ?_
       refine storeR tab rfl rfl rfl rfl rfl rfl rfl rfl ?_
       refine WO.nil (qs ?_)
       iterate 2 refine W.seq ?_
       refine W.region ?_
       iterate 2 refine pE rfl ?_
       refine WO.nil (qs ?_)
       refine condK rfl (fun h54 => ?_) (fun h54 => ?_)
       ·
        rw [if_pos (eq_of (d := 91) h54)] at hv
        refine W.seq (W.region ?_)
        iterate 2 refine pE rfl ?_
        cases hc57 : arrJ (bys s) k level (skipB (bys s) i0 + 1) with
        | no a57 w57 =>
         refine callP [0] [] rfl rfl rfl rfl rfl ((hA (skipB (bys s) i0 + 1) (by omega) (by omega) (by omega)).pan (outP_no hc57)) rfl rfl (by rfl) (fun st' => ?_)
         repeat' first | refine qsPan ?_ | refine qbPan ?_ | refine qlPan ?_ | refine qcPan ?_
         refine qxPan (outP_no (by rw [hv, hc57]))
        | ok y57 i57 =>
         refine callB [0] [] rfl rfl rfl rfl rfl ((hA (skipB (bys s) i0 + 1) (by omega) (by omega) (by omega)).ret (outP_ok hc57)) rfl rfl (by rfl) (by rfl) rfl rfl rfl rfl ?_
         refine storeR tab rfl rfl rfl rfl rfl rfl rfl rfl ?_
         refine WO.nil (qs (W.ret (qsRet (qbRet (qsRet ?_)))))
         refine qxRet (outP_ok ((by rw [hv, hc57]))) ?_
         refine QB1.end tab [] trivial rfl rfl rfl rfl ?_ ?_
         · exact ⟨rfl, trivial⟩
         rfl
       ·
        rw [if_neg (ne_of (d := 91) h54)] at hv
        refine W.skip (qs (W.seq (W.region ?_)))
        iterate 2 refine pE rfl ?_
        cases hc60 : objJ (bys s) k level (skipB (bys s) i0 + 1) with
        | no a60 w60 =>
         refine callP [0] [] rfl rfl rfl rfl rfl ((hO (skipB (bys s) i0 + 1) (by omega) (by omega) (by omega)).pan (outP_no hc60)) rfl rfl (by rfl) (fun st' => ?_)
         repeat' first | refine qsPan ?_ | refine qbPan ?_ | refine qlPan ?_ | refine qcPan ?_
         refine qxPan (outP_no (by rw [hv, hc60]))
        | ok y60 i60 =>
         refine callB [0] [] rfl rfl rfl rfl rfl ((hO (skipB (bys s) i0 + 1) (by omega) (by omega) (by omega)).ret (outP_ok hc60)) rfl rfl (by rfl) (by rfl) rfl rfl rfl rfl ?_
         refine storeR tab rfl rfl rfl rfl rfl rfl rfl rfl ?_
         refine WO.nil (qs (W.ret (qbRet (qsRet ?_))))
         refine qxRet (outP_ok ((by rw [hv, hc60]))) ?_
         refine QB1.end tab [] trivial rfl rfl rfl rfl ?_ ?_
         · exact ⟨rfl, trivial⟩
         rfl
     ·
      have q : ¬ (hereB (bys s) (skipB (bys s) i0) = 91 ∨ hereB (bys s) (skipB (bys s) i0) = 123) := by
       rintro (e | e) <;> rw [e] at h32 <;> simp at h32
      rw [if_neg q] at hv
      refine W.skip (qbN (qs (W.seq (W.region ?_))))
      refine pE rfl ?_
      cases hc62 : numJ (bys s) (skipB (bys s) i0) with
      | no a62 w62 =>
       refine callP [0] [] rfl rfl rfl rfl rfl ((number_fn s (skipB (bys s) i0) hle hs).pan (outP_no hc62)) rfl rfl (by rfl) (fun st' => ?_)
       repeat' first | refine qsPan ?_ | refine qbPan ?_ | refine qlPan ?_ | refine qcPan ?_
       refine qxPan (outP_no (by rw [hv, hc62]))
      | ok y62 i62 =>
       refine callB [0] [] rfl rfl rfl rfl rfl ((number_fn s (skipB (bys s) i0) hle hs).ret (outP_ok hc62)) rfl rfl (by rfl) (by rfl) rfl rfl rfl rfl ?_
       refine storeR tab rfl rfl rfl rfl rfl rfl rfl rfl ?_
       refine WO.nil (qs (W.ret ?_))
       refine qxRet (outP_ok ((by rw [hv, hc62]))) ?_
       refine QB1.end tab [] trivial rfl rfl rfl rfl ?_ ?_
       · exact ⟨rfl, trivial⟩
       rfl
end Go.Proofs.YtllkpgnpioojjaaDoor
namespace Go.Proofs.YtllkpgnpioojjaaDoor
open Go.Ab Go.Tb
set_option maxRecDepth 10000
attribute [local irreducible] W WO Pu QS QB QL QF QV QV1 CH QE
theorem nextJ_bd {l : List UInt8} {c : UInt8} {i : Nat} (h : i ≤ l.length) : Bd l i (nextJ l c i) := by
 have hg := skipB_ge l i
 have hle := skipB_le h
 unfold nextJ
 split
 ·
  rename_i q
  exact ⟨by omega, here_lt (by rw [q]; decide)⟩
 ·
  have ht := takeJ_bd (c := c) hle
  cases hr : takeJ l c (skipB l i) with
  | no a w => rw [hr] at ht; exact ⟨Nat.le_trans hg ht.1, ht.2⟩
  | ok u j => rw [hr] at ht; exact ⟨Nat.lt_of_le_of_lt hg ht.1, ht.2⟩
theorem next_no {l : List UInt8} {c : UInt8} {i a : Nat} {w : Int} (h : nextJ l c i = .no a w) : ¬ hereB l (skipB l i) = 44 ∧ takeJ l c (skipB l i) = .no a w := by
 unfold nextJ at h
 split at h
 · cases h
 ·
  rename_i q
  refine ⟨q, ?_⟩
  cases hr : takeJ l c (skipB l i) with
  | no a' w' => rw [hr] at h; injection h with h1 h2; rw [h1, h2]
  | ok u j => rw [hr] at h; cases h
theorem next_true {l : List UInt8} {c : UInt8} {i j : Nat} (h : nextJ l c i = .ok true j) : hereB l (skipB l i) = 44 ∧ j = skipB l i + 1 := by
 unfold nextJ at h
 split at h
 · rename_i q; injection h with _ h2; exact ⟨q, h2.symm⟩
 ·
  cases hr : takeJ l c (skipB l i) with
  | no a' w' => rw [hr] at h; cases h
  | ok u j => rw [hr] at h; cases h
theorem next_false {l : List UInt8} {c : UInt8} {i j : Nat} (h : nextJ l c i = .ok false j) : ¬ hereB l (skipB l i) = 44 ∧ takeJ l c (skipB l i) = .ok () j := by
 unfold nextJ at h
 split at h
 · cases h
 ·
  rename_i q
  refine ⟨q, ?_⟩
  cases hr : takeJ l c (skipB l i) with
  | no a' w' => rw [hr] at h; cases h
  | ok u j' => rw [hr] at h; injection h with _ h2; rw [h2]
theorem jvc_arr (acc : List JV) : (JV.mk 5 0 (B #[]) [] acc).c = [ci 5, ci 0, cs (B #[]), .sl [], .sl (acc.map JV.c)] := by simp [JV.c, JV.kc_eq, JV.op, JV.n, JV.s, JV.keys, JV.kids]
def ValD (s : ByteArray) (K : Nat) : Prop := ∀ k, k < K → ∀ (level : Int) (i : Nat), 1 ≤ level → level ≤ 17 → i ≤ s.size → 3 * (s.size - i) + 1 ≤ k →
 DoesE Tryd.prog 32 [.ptr 0 0, .d (.v (.int .i64 level))] [pbox s i] 0 (outP 57 s (fun v : JV => .ag v.c) (valJ (bys s) k level i))
theorem array_step (s : ByteArray) (K : Nat) (hs : s.size ≤ 1000000000) (hV : ValD s K) (level : Int) (i0 : Nat) (hi : i0 ≤ s.size) (hl1 : 1 ≤ level) (hl2 : level ≤ 16) (hK : 3 * (s.size - i0) + 3 ≤ K) :
  DoesE Tryd.prog 52 [.ptr 0 0, .d (.v (.int .i64 level))] [pbox s i0] 0 (outP 57 s (fun v : JV => .ag v.c) (arrJ (bys s) K level i0)) := by
 have hle : skipB (bys s) i0 ≤ s.size := by have := skipB_le (l := bys s) (i := i0) (by rw [bytes_len]; exact hi); rwa [bytes_len] at this
 have hge := skipB_ge (bys s) i0
 obtain ⟨K', rfl⟩ : ∃ K', K = K' + 1 := ⟨K - 1, by omega⟩
 have hv := arrJ_eq (bys s) K' level i0
 generalize hA : arrJ (bys s) (K' + 1) level i0 = A at hv ⊢
 clear hA
 refine DoesE.of_V tab (n := 32) (rs := [.cell 4 26]) Tryd.func52 (by kernel_rfl) rfl Tryd.ntmps52 Tryd.results52 rfl (outP_len ..) fun C hC hG => ?_
 refine W.seq (W.region ?_)
 refine allocR tab rfl rfl rfl ?_
 refine WO.nil (qs (W.seq (W.region ?_)))
 refine pu (build tab rfl rfl rfl rfl) rfl ?_
 refine allocR tab rfl rfl rfl ?_
 refine storeR tab rfl rfl rfl rfl rfl rfl rfl rfl ?_
 refine WO.nil (qs ?_)
 iterate 2 refine W.seq ?_
 refine W.region ?_
 refine pE rfl ?_
 refine callB [0] [] rfl rfl rfl rfl rfl ((peek_fn s i0 hi hs)) rfl rfl (by rfl) (by rfl) rfl rfl rfl rfl ?_
 refine pE rfl ?_
 refine WO.nil (qs ?_)
 refine condK rfl (fun h10 => ?_) (fun h10 => ?_)
 ·
  rw [if_pos (eq_of (d := 93) h10)] at hv
  have hjs : skipB (bys s) i0 < s.size := by
   have := here_lt (l := bys s) (i := skipB (bys s) i0) (by rw [eq_of (d := 93) h10]; decide)
   rwa [bytes_len] at this
  refine W.seq (W.region ?_)
  iterate 3 refine pE rfl ?_
  first | refine pE rfl ?_ | refine pR rfl rfl rfl rfl rfl ?_ | refine pB rfl rfl rfl rfl rfl rfl ?_
  refine pu (puI (ev tab rfl) (y := ((skipB (bys s) i0 + 1 : Nat) : Int)) (wrap64 (by omega))) rfl ?_
  iterate 2 refine pE rfl ?_
  refine storeR tab rfl rfl rfl rfl rfl rfl rfl rfl ?_
  refine WO.nil (qs (W.seq (W.region ?_)))
  first | refine pE rfl ?_ | refine pR rfl rfl rfl rfl rfl ?_ | refine pB rfl rfl rfl rfl rfl rfl ?_
  refine storeR tab rfl rfl rfl rfl rfl rfl rfl rfl ?_
  refine WO.nil (qs ?_)
  try refine nilBox 1 3 rfl rfl rfl ?_
  try refine nilBox 1 4 rfl rfl rfl ?_
  refine W.ret (qsRet ?_)
  refine qxRet (outP_ok (hv)) ?_
  refine QB1.end tab [] trivial rfl rfl rfl rfl ?_ ?_
  · exact ⟨rfl, trivial⟩
  rfl
 ·
  rw [if_neg (ne_of (d := 93) h10)] at hv
  refine W.skip (qs ?_)
  iterate 2 refine W.seq ?_
  refine W.region ?_
  refine pE rfl ?_
  refine WO.nil (qs (W.block ?_))
  refine ownNilBox 2 4 rfl rfl rfl ?_
  refine W.loopR (ι := {x : Nat × Nat × List JV × Bool // match x with | (k, j, acc, on) => k ≤ K' ∧ (on = true → j ≤ s.size ∧ acc.length ≤ j ∧ 3 * (s.size - j) + 2 ≤ k ∧ arrGo (bys s) k level j acc = A) ∧ (on = false → A = .ok (.mk 5 0 (B #[]) [] acc) j)})
   (fun x => match x.1 with | (k, j, acc, on) => [(0, .ptr 0 0), (1, .d (.v (.int .i64 level))), (4, .ptr 1 0), (5, .ptr 2 0), (6, .d (.v (.bool on)))]) []
   (fun x => match x.1 with | (k, j, acc, on) => [(0, pbox s j), (2, [.d (ci 5), .d (ci 0), .d (cs (B #[])), .d (.v (.slice none 0 0)), .own 3 (acc.map JV.c)])]) [(1, _)] [3] 4 (fun x => match x.1 with | (k, j, acc, on) => k)
   [0, 1, 2, 4] ⟨(K', skipB (bys s) i0, [], true), ?_⟩ rfl ?_ trivial ?_ ⟨rfl, rfl, trivial⟩ rfl ?_
  · exact ⟨Nat.le_refl _, fun _ => ⟨hle, Nat.zero_le _, by omega, hv.symm⟩, fun h => by cases h⟩
  · repeat' first | exact trivial | refine ⟨rfl, ?_⟩ | refine ⟨congrArg some (renL_boxE _ _ _), ?_⟩ | refine ⟨step_nat (by assumption) (by assumption), ?_⟩
  · repeat' first | exact trivial | refine ⟨rfl, ?_⟩ | refine ⟨congrArg some (renL_boxE _ _ _), ?_⟩ | refine ⟨step_nat (by assumption) (by assumption), ?_⟩
  rintro ⟨⟨k, j, acc, on⟩, hkK, hT, hF⟩
  show W _ _ _ _ _ ⟨[(0, .ptr 0 0), (1, .d (.v (.int .i64 level))), (4, .ptr 1 0), (5, .ptr 2 0), (6, .d (.v (.bool on)))], [(0, pbox s j), (2, [.d (ci 5), .d (ci 0), .d (cs (B #[])), .d (.v (.slice none 0 0)), .own 3 (acc.map JV.c)]), (1, _)], [3], 4⟩
  iterate 2 refine W.seq ?_
  refine W.region ?_
  refine pE rfl ?_
  refine WO.nil (qs ?_)
  refine condK rfl (fun h19 => ?_) (fun h19 => ?_)
  ·
   obtain ⟨hj, ha, hk, hI⟩ := hT h19
   obtain ⟨k', rfl⟩ : ∃ k', k = k' + 1 := ⟨k - 1, by omega⟩
   rw [arrGo_eq] at hI
   have hb := (allBd (bys s) k').v (level + 1) j (by rw [bytes_len]; exact hj)
   refine W.skip (qs (W.seq (W.block ?_)))
   cases hc27 : valJ (bys s) k' (level + 1) j with
   | no a27 w27 =>
    refine' W.regionP1 tab (faultV 57 a27 w27) [5, 6] 7 (by kernel_rfl) (by kernel_rfl) rfl rfl (fun st => ?hQ_1) ?hL_1
    case hQ_1 =>
     repeat' first | refine qsPan ?_ | refine qbPan ?_ | refine qlPan ?_ | refine qcPan ?_
     refine qxPan (outP_no (by rw [← hI, hc27]))
    case' hL_1 => skip
    refine' cdPu' (ev tab rfl) ?p_2 rfl rfl rfl (by kernel_rfl) rfl ?h_2
    case' h_2 => skip
    first | (refine' cdPu' (ev tab rfl) ?p_3 rfl rfl rfl (by kernel_rfl) rfl ?h_3) | (refine' cdPu' (loadRow tab rfl rfl rfl rfl) ?p_3 rfl rfl rfl (by kernel_rfl) rfl ?h_3) | (refine' cdPu' (loadBox tab rfl rfl rfl rfl rfl) ?p_3 rfl rfl rfl (by kernel_rfl) rfl ?h_3)
    case' h_3 => skip
    refine' cdPu' (ev tab rfl) ?p_4 rfl rfl rfl (by kernel_rfl) rfl ?h_4
    case' h_4 => skip
    refine' cdPu' (ev tab rfl) ?p_5 rfl rfl rfl (by kernel_rfl) rfl ?h_5
    case' h_5 => skip
    refine' cdPu' (puI (ev tab rfl) (y := level + 1) (wrap64 (by omega))) ?p_6 rfl rfl rfl (by kernel_rfl) rfl ?h_6
    case' h_6 => skip
    refine' cdP ?x_7 rfl rfl rfl (by kernel_rfl) rfl ?h_7
    case x_7 =>
     intro b hb g; cases b
     · exact (alwNo hb (by kernel_rfl)).elim
     · exact callP [0] [] rfl rfl rfl rfl rfl ((hV k' (by omega) (level + 1) j (by omega) (by omega) hj (by omega)).pan (outP_no hc27)) rfl rfl (by rfl) (fun st' => ⟨_, rfl, rfl⟩)
    case' h_7 => skip
    refine cdB 27 rfl rfl rfl rfl (by kernel_rfl) rfl ?_
    case p_2 => refine ⟨fun ha => (alwNo ha (by kernel_rfl)).elim, ?_, fun ha => (alwNo ha (by kernel_rfl)).elim, ?_, fun ha => (alwNo ha (by kernel_rfl)).elim, ?_⟩ <;> intro ha <;> first | exact ⟨ev tab rfl, fun h => nomatch h⟩ | exact (alwNo ha (by kernel_rfl)).elim
    case p_3 => refine ⟨fun ha => (alwNo ha (by kernel_rfl)).elim, ?_, fun ha => (alwNo ha (by kernel_rfl)).elim, ?_, fun ha => (alwNo ha (by kernel_rfl)).elim, ?_⟩ <;> intro ha <;> first | exact ⟨ev tab rfl, fun h => nomatch h⟩ | exact ⟨loadRow tab rfl rfl rfl rfl, fun h => nomatch h⟩ | exact ⟨loadBox tab rfl rfl rfl rfl rfl, fun h => nomatch h⟩ | exact (alwNo ha (by kernel_rfl)).elim
    case p_4 => refine ⟨fun ha => (alwNo ha (by kernel_rfl)).elim, ?_, fun ha => (alwNo ha (by kernel_rfl)).elim, ?_, fun ha => (alwNo ha (by kernel_rfl)).elim, ?_⟩ <;> intro ha <;> first | exact ⟨ev tab rfl, fun h => nomatch h⟩ | exact (alwNo ha (by kernel_rfl)).elim
    case p_5 => refine ⟨fun ha => (alwNo ha (by kernel_rfl)).elim, ?_, fun ha => (alwNo ha (by kernel_rfl)).elim, ?_, fun ha => (alwNo ha (by kernel_rfl)).elim, ?_⟩ <;> intro ha <;> first | exact ⟨ev tab rfl, fun h => nomatch h⟩ | exact (alwNo ha (by kernel_rfl)).elim
    case p_6 => refine ⟨fun ha => (alwNo ha (by kernel_rfl)).elim, ?_, fun ha => (alwNo ha (by kernel_rfl)).elim, ?_, fun ha => (alwNo ha (by kernel_rfl)).elim, ?_⟩ <;> intro ha <;> first | exact ⟨puI (ev tab rfl) (y := level + 1) (wrap64 (by omega)), fun h => nomatch h⟩ | exact (alwNo ha (by kernel_rfl)).elim
    refine CD.nil ?_ rfl
    exact botO 27 rfl
   | ok y27 i27 =>
    rw [hc27] at hI hb
    dsimp only at hI
    have hb1 : j < i27 := hb.1
    have hb2 : i27 ≤ s.size := by have := hb.2; rwa [bytes_len] at this
    have hbn := nextJ_bd (l := bys s) (c := 93) (i := i27) (by rw [bytes_len]; exact hb2)
    apply W.regionC tab 7 5; (case hB => kernel_rfl); (case h1 => rfl); (case h2 => rfl)
    refine' ccPu ?p1_9 (ev tab rfl) rfl rfl rfl rfl rfl ?h_9
    case' h_9 => skip
    first | (refine' ccPu ?p1_10 (ev tab rfl) rfl rfl rfl rfl rfl ?h_10) | (refine' ccPu ?p1_10 (loadRow tab rfl rfl rfl rfl) rfl rfl rfl rfl rfl ?h_10) | (refine' ccPu ?p1_10 (loadBox tab rfl rfl rfl rfl rfl) rfl rfl rfl rfl rfl ?h_10)
    case' h_10 => skip
    refine' ccPu0 (ev tab rfl) rfl rfl rfl rfl rfl ?h_11
    case' h_11 => skip
    refine' ccPu ?p1_12 (ev tab rfl) rfl rfl rfl rfl rfl ?h_12
    case' h_12 => skip
    refine' ccPu0 (puI (ev tab rfl) (y := level + 1) (wrap64 (by omega))) rfl rfl rfl rfl rfl ?h_13
    case' h_13 => skip
    refine' ccX (fun g => ?e_14) rfl rfl rfl ?h_14
    case e_14 =>
     refine callB [0] [] rfl rfl rfl rfl rfl (((hV k' (by omega) (level + 1) j (by omega) (by omega) hj (by omega)).ret (outP_ok hc27))) rfl rfl (by rfl) (by rfl) rfl rfl rfl rfl ?_
     refine WO.nil ?_
     exact ⟨rfl, rfl⟩
    case' h_14 => skip
    case p1_9 => exact (ev tab rfl)
    case p1_10 => first | (exact (ev tab rfl)) | (exact (loadRow tab rfl rfl rfl rfl)) | (exact (loadBox tab rfl rfl rfl rfl rfl))
    case p1_12 => exact (ev tab rfl)
    refine ccPu1 (buildV tab rfl rfl rfl rfl rfl rfl rfl rfl rfl) rfl rfl rfl rfl rfl ?_
    refine CC.nil ?_
    refine appendM (fn := JV.c) (a := y27) tab rfl rfl rfl rfl rfl rfl rfl rfl rfl rfl (fun _ => rfl) (by show (acc.length + 1) * 80 ≤ _; omega) ?_
    refine pE rfl ?_
    refine storeR tab rfl rfl rfl rfl rfl rfl rfl rfl ?_
    refine WO.nil (qbN (qs (W.region ?_)))
    refine pE rfl ?_
    cases hc21 : nextJ (bys s) 93 i27 with
    | no a21 w21 =>
     refine callP [0] [] rfl rfl rfl rfl rfl ((next_fn s 93 i27 hb2 hs).pan (outP_no hc21)) rfl rfl (by rfl) (fun st' => ?_)
     repeat' first | refine qsPan ?_ | refine qbPan ?_ | refine qlPan ?_ | refine qcPan ?_
     refine qxPan (outP_no (by rw [← hI, if_neg (next_no hc21).1, (next_no hc21).2]))
    | ok y21 i21 =>
     refine callB [0] [] rfl rfl rfl rfl rfl ((next_fn s 93 i27 hb2 hs).ret (outP_ok hc21)) rfl rfl (by rfl) (by rfl) rfl rfl rfl rfl ?_
     rw [hc21] at hbn
     have hb3 : i27 < i21 := hbn.1
     have hb4 : i21 ≤ s.size := by have := hbn.2; rwa [bytes_len] at this
     refine pE rfl ?_
     refine WO.nil ?_
     refine W.endR [0, 1, 2, 5] ⟨(k', i21, acc ++ [y27], y21), ?_⟩ ?_ rfl ?_ trivial ?_ ⟨rfl, rfl, trivial⟩ rfl
     ·
      refine ⟨by omega, fun h => ?_, fun h => ?_⟩
      ·
       subst h
       rw [if_pos (next_true hc21).1, ← (next_true hc21).2] at hI
       exact ⟨hb4, by rw [List.length_append, List.length_singleton]; omega, by omega, hI⟩
      ·
       subst h
       rw [if_neg (next_false hc21).1, (next_false hc21).2] at hI
       exact hI.symm
     · dsimp only; omega
     · repeat' first | exact trivial | refine ⟨rfl, ?_⟩ | refine ⟨congrArg some (renL_boxE _ _ _), ?_⟩ | refine ⟨step_nat (by assumption) (by assumption), ?_⟩
     · repeat' first | exact trivial | refine ⟨rfl, ?_⟩ | refine ⟨congrArg some (renL_boxE _ _ _), ?_⟩ | refine ⟨step_nat (by assumption) (by assumption), ?_⟩
  ·
   have hx := hF h19
   refine W.exit (qsExit (qlExit (qbExit (qs (W.seq (W.region ?_))))))
   first | refine pE rfl ?_ | refine pR rfl rfl rfl rfl rfl ?_ | refine pB rfl rfl rfl rfl rfl rfl ?_
   refine storeR tab rfl rfl rfl rfl rfl rfl rfl rfl ?_
   refine WO.nil (qs ?_)
   try refine nilBox 1 3 rfl rfl rfl ?_
   try refine nilBox 1 4 rfl rfl rfl ?_
   refine W.ret ?_
   refine qxRet (outP_ok (hx)) ?_
   refine QB1.end tab [] trivial rfl rfl rfl rfl ?_ ?_
   · exact ⟨rfl, trivial⟩
   rw [jvc_arr]
   rfl
end Go.Proofs.YtllkpgnpioojjaaDoor
namespace Go.Proofs.YtllkpgnpioojjaaDoor
open Go.Ab Go.Tb
set_option maxRecDepth 10000
attribute [local irreducible] W WO Pu QS QB QL QF QV QV1 CH QE
theorem jvc_obj (keys : List ByteArray) (acc : List JV) : (JV.mk 6 0 (B #[]) keys acc).c = [ci 6, ci 0, cs (B #[]), .sl (keys.map sc), .sl (acc.map JV.c)] := by simp [JV.c, JV.kc_eq, JV.op, JV.n, JV.s, JV.keys, JV.kids]
theorem object_step (s : ByteArray) (K : Nat) (hs : s.size ≤ 1000000000) (hV : ValD s K) (level : Int) (i0 : Nat) (hi : i0 ≤ s.size) (hl1 : 1 ≤ level) (hl2 : level ≤ 16) (hK : 3 * (s.size - i0) + 3 ≤ K) :
  DoesE Tryd.prog 53 [.ptr 0 0, .d (.v (.int .i64 level))] [pbox s i0] 0 (outP 57 s (fun v : JV => .ag v.c) (objJ (bys s) K level i0)) := by
 have hle : skipB (bys s) i0 ≤ s.size := by have := skipB_le (l := bys s) (i := i0) (by rw [bytes_len]; exact hi); rwa [bytes_len] at this
 have hge := skipB_ge (bys s) i0
 obtain ⟨K', rfl⟩ : ∃ K', K = K' + 1 := ⟨K - 1, by omega⟩
 have hv := objJ_eq (bys s) K' level i0
 generalize hA : objJ (bys s) (K' + 1) level i0 = A at hv ⊢
 clear hA
 refine DoesE.of_V tab (n := 61) (rs := [.cell 4 26]) Tryd.func53 (by kernel_rfl) rfl Tryd.ntmps53 Tryd.results53 rfl (outP_len ..) fun C hC hG => ?_
 refine W.seq (W.region ?_)
 refine allocR tab rfl rfl rfl ?_
 refine WO.nil (qs (W.seq (W.region ?_)))
 refine pu (build tab rfl rfl rfl rfl) rfl ?_
 refine allocR tab rfl rfl rfl ?_
 refine storeR tab rfl rfl rfl rfl rfl rfl rfl rfl ?_
 refine WO.nil (qs ?_)
 iterate 2 refine W.seq ?_
 refine W.region ?_
 refine pE rfl ?_
 refine callB [0] [] rfl rfl rfl rfl rfl ((peek_fn s i0 hi hs)) rfl rfl (by rfl) (by rfl) rfl rfl rfl rfl ?_
 refine pE rfl ?_
 refine WO.nil (qs ?_)
 refine condK rfl (fun h13 => ?_) (fun h13 => ?_)
 ·
  rw [if_pos (eq_of (d := 125) h13)] at hv
  have hjs : skipB (bys s) i0 < s.size := by
   have := here_lt (l := bys s) (i := skipB (bys s) i0) (by rw [eq_of (d := 125) h13]; decide)
   rwa [bytes_len] at this
  refine W.seq (W.region ?_)
  iterate 3 refine pE rfl ?_
  first | refine pE rfl ?_ | refine pR rfl rfl rfl rfl rfl ?_ | refine pB rfl rfl rfl rfl rfl rfl ?_
  refine pu (puI (ev tab rfl) (y := ((skipB (bys s) i0 + 1 : Nat) : Int)) (wrap64 (by omega))) rfl ?_
  iterate 2 refine pE rfl ?_
  refine storeR tab rfl rfl rfl rfl rfl rfl rfl rfl ?_
  refine WO.nil (qs (W.seq (W.region ?_)))
  first | refine pE rfl ?_ | refine pR rfl rfl rfl rfl rfl ?_ | refine pB rfl rfl rfl rfl rfl rfl ?_
  refine storeR tab rfl rfl rfl rfl rfl rfl rfl rfl ?_
  refine WO.nil (qs ?_)
  try refine nilBox 1 3 rfl rfl rfl ?_
  try refine nilBox 1 4 rfl rfl rfl ?_
  refine W.ret (qsRet ?_)
  refine qxRet (outP_ok (hv)) ?_
  refine QB1.end tab [] trivial rfl rfl rfl rfl ?_ ?_
  · exact ⟨rfl, trivial⟩
  rfl
 ·
  rw [if_neg (ne_of (d := 125) h13)] at hv
  refine W.skip (qs (W.seq (W.region ?_)))
  refine mkMap rfl ?_
  refine pE rfl ?_
  refine WO.nil (qs ?_)
  iterate 2 refine W.seq ?_
  refine W.region ?_
  refine pE rfl ?_
  refine WO.nil (qs (W.block ?_))
  refine ownNilBox 2 3 rfl rfl rfl ?_
  refine ownNilBox 2 4 rfl rfl rfl ?_
  refine W.loopR (ι := {x : Nat × Nat × List ByteArray × List JV × Bool // match x with | (k, j, keys, acc, on) => k ≤ K' ∧ keys.Nodup ∧ (on = true → j ≤ s.size ∧ keys.length ≤ j ∧ acc.length ≤ j ∧ 3 * (s.size - j) + 2 ≤ k ∧ objGo (bys s) k level j keys acc = A) ∧ (on = false → A = .ok (.mk 6 0 (B #[]) keys acc) j)})
   (fun x => match x.1 with | (k, j, keys, acc, on) => [(0, .ptr 0 0), (1, .d (.v (.int .i64 level))), (4, .ptr 1 0), (5, .ptr 2 0), (6, .mp 3 (mes sk bv (seenM keys))), (7, .d (.v (.bool on)))]) []
   (fun x => match x.1 with | (k, j, keys, acc, on) => [(0, pbox s j), (2, [.d (ci 6), .d (ci 0), .d (cs (B #[])), .own 4 (keys.map sc), .own 5 (acc.map JV.c)])]) [(1, _)] [5, 4, 3] 6 (fun x => match x.1 with | (k, j, keys, acc, on) => k)
   [0, 1, 2, 4, 5, 6] ⟨(K', skipB (bys s) i0, [], [], true), ?_⟩ rfl ?_ trivial ?_ ⟨rfl, rfl, trivial⟩ rfl ?_
  · exact ⟨Nat.le_refl _, List.nodup_nil, fun _ => ⟨hle, Nat.zero_le _, Nat.zero_le _, by omega, hv.symm⟩, fun h => by cases h⟩
  · repeat' first | exact trivial | refine ⟨rfl, ?_⟩ | refine ⟨congrArg some (renL_boxE _ _ _), ?_⟩ | refine ⟨step_nat (by assumption) (by assumption), ?_⟩
  · repeat' first | exact trivial | refine ⟨rfl, ?_⟩ | refine ⟨congrArg some (renL_boxE _ _ _), ?_⟩ | refine ⟨step_nat (by assumption) (by assumption), ?_⟩
  rintro ⟨⟨k, j, keys, acc, on⟩, hkK, hn, hT, hF⟩
  show W _ _ _ _ _ ⟨[(0, .ptr 0 0), (1, .d (.v (.int .i64 level))), (4, .ptr 1 0), (5, .ptr 2 0), (6, .mp 3 (mes sk bv (seenM keys))), (7, .d (.v (.bool on)))], [(0, pbox s j), (2, [.d (ci 6), .d (ci 0), .d (cs (B #[])), .own 4 (keys.map sc), .own 5 (acc.map JV.c)]), (1, _)], [5, 4, 3], 6⟩
  iterate 2 refine W.seq ?_
  refine W.region ?_
  refine pE rfl ?_
  refine WO.nil (qs ?_)
  refine condK rfl (fun h23 => ?_) (fun h23 => ?_)
  ·
   obtain ⟨hj, hka, ha, hk, hI⟩ := hT h23
   obtain ⟨k', rfl⟩ : ∃ k', k = k' + 1 := ⟨k - 1, by omega⟩
   rw [objGo_eq] at hI
   have hle1 : skipB (bys s) j ≤ s.size := by have := skipB_le (l := bys s) (i := j) (by rw [bytes_len]; exact hj); rwa [bytes_len] at this
   have hge1 := skipB_ge (bys s) j
   have hbt := textJ_bd (l := bys s) (i := skipB (bys s) j) (by rw [bytes_len]; exact hle1)
   refine W.skip (qs (W.seq (W.block (W.seq (W.region ?_)))))
   refine pE rfl ?_
   refine callB [0] [] rfl rfl rfl rfl rfl ((peek_fn s j hj hs)) rfl rfl (by rfl) (by rfl) rfl rfl rfl rfl ?_
   refine WO.nil (qs (W.seq (W.region ?_)))
   iterate 3 refine pE rfl ?_
   first | refine pE rfl ?_ | refine pR rfl rfl rfl rfl rfl ?_ | refine pB rfl rfl rfl rfl rfl rfl ?_
   refine pE rfl ?_
   refine WO.nil (qs (W.seq (W.region ?_)))
   refine pE rfl ?_
   cases hc33 : textJ (bys s) (skipB (bys s) j) with
   | no a33 w33 =>
    refine callP [0] [] rfl rfl rfl rfl rfl ((ptext_fn s (skipB (bys s) j) hle1 hs).pan (outP_no hc33)) rfl rfl (by rfl) (fun st' => ?_)
    repeat' first | refine qsPan ?_ | refine qbPan ?_ | refine qlPan ?_ | refine qcPan ?_
    refine qxPan (outP_no (by rw [← hI, hc33]))
   | ok y33 i33 =>
    refine callB [0] [] rfl rfl rfl rfl rfl ((ptext_fn s (skipB (bys s) j) hle1 hs).ret (outP_ok hc33)) rfl rfl (by rfl) (by rfl) rfl rfl rfl rfl ?_
    rw [hc33] at hI hbt
    dsimp only at hI
    have hb1 : skipB (bys s) j < i33 := hbt.1
    have hb2 : i33 ≤ s.size := by have := hbt.2; rwa [bytes_len] at this
    have hle2 : skipB (bys s) i33 ≤ s.size := by have := skipB_le (l := bys s) (i := i33) (by rw [bytes_len]; exact hb2); rwa [bytes_len] at this
    have hge2 := skipB_ge (bys s) i33
    refine pE rfl ?_
    refine WO.nil (qs ?_)
    iterate 2 refine W.seq ?_
    refine W.region ?_
    iterate 2 refine pE rfl ?_
    refine pu (mapGet (kf := sk) (vf := bv) (l := seenM keys) (a := bytesOf y33) (z := false) (zx := .bool false) tab rfl rfl rfl rfl rfl (keyStr (tab.u_str rfl rfl)) rfl rfl rfl (fun w pv => .v _ rfl) (by rw [seenM_keys]; exact hn) (congrArg bv (seenM_get hn (bytesOf y33)))) rfl ?_
    refine WO.nil (qs ?_)
    refine condK rfl (fun h36 => ?_) (fun h36 => ?_)
    ·
     rw [if_pos h36] at hI
     refine W.region ?_
     refine pE rfl ?_
     refine callP [] [] rfl rfl rfl rfl rfl (fails_fn (skipB (bys s) j) 4) rfl rfl (by rfl) (fun st' => ?_)
     repeat' first | refine qsPan ?_ | refine qbPan ?_ | refine qlPan ?_ | refine qcPan ?_
     exact qxPan (outP_no hI.symm)
    ·
     rw [if_neg (by rw [h36]; decide)] at hI
     have hn2 := nodup_snoc hn h36
     refine W.skip (qs (W.seq (W.region ?_)))
     iterate 2 refine pE rfl ?_
     refine mapPut (kf := sk) (vf := bv) (l := seenM keys) (a := bytesOf y33) (y := true) tab 6 rfl rfl rfl rfl rfl rfl rfl (keyStr (tab.u_str rfl rfl)) rfl rfl (by rw [seenM_keys]; exact hn) (congrArg (mes sk bv) (seenM_put h36)) rfl ?_
     refine WO.nil (qs (W.seq (W.region ?_)))
     refine pE rfl ?_
     refine callB [0] [] rfl rfl rfl rfl rfl ((peek_fn s i33 hb2 hs)) rfl rfl (by rfl) (by rfl) rfl rfl rfl rfl ?_
     refine WO.nil (qs (W.seq (W.region ?_)))
     refine pE rfl ?_
     cases hc44 : takeJ (bys s) 58 (skipB (bys s) i33) with
     | no a44 w44 =>
      refine callP [0] [] rfl rfl rfl rfl rfl ((take_fn s 58 (skipB (bys s) i33) hs).pan (outP_no hc44)) rfl rfl (by rfl) (fun st' => ?_)
      repeat' first | refine qsPan ?_ | refine qbPan ?_ | refine qlPan ?_ | refine qcPan ?_
      refine qxPan (outP_no (by rw [← hI, hc44]))
     | ok y44 i44 =>
      refine callB [0] [] rfl rfl rfl rfl rfl ((take_fn s 58 (skipB (bys s) i33) hs).ret (outP_ok hc44)) rfl rfl (by rfl) (by rfl) rfl rfl rfl rfl ?_
      rw [hc44] at hI
      dsimp only at hI
      obtain ⟨e44, hlt44⟩ := takeJ_at hc44
      rw [bytes_len] at hlt44
      have hb := (allBd (bys s) k').v (level + 1) i44 (by rw [bytes_len]; omega)
      refine WO.nil (qs ?_)
      cases hc55 : valJ (bys s) k' (level + 1) i44 with
      | no a55 w55 =>
       refine' W.regionP2 tab (faultV 57 a55 w55) [11, 8, 5] 12 _ [4, 10, 11, 12] 14 (by kernel_rfl) (by kernel_rfl) rfl rfl (fun st => ?hQ_1) ?hL_1
       case hQ_1 =>
        repeat' first | refine qsPan ?_ | refine qbPan ?_ | refine qlPan ?_ | refine qcPan ?_
        refine qxPan (outP_no (by rw [← hI, hc55]))
       case' hL_1 => skip
       refine' cdPu' (ev tab rfl) ?p_2 rfl rfl rfl (by kernel_rfl) rfl ?h_2
       case' h_2 => skip
       first | (refine' cdPu' (ev tab rfl) ?p_3 rfl rfl rfl (by kernel_rfl) rfl ?h_3) | (refine' cdPu' (loadRow tab rfl rfl rfl rfl) ?p_3 rfl rfl rfl (by kernel_rfl) rfl ?h_3) | (refine' cdPu' (loadBox tab rfl rfl rfl rfl rfl) ?p_3 rfl rfl rfl (by kernel_rfl) rfl ?h_3)
       case' h_3 => skip
       refine' cdPu' (ev tab rfl) ?p_4 rfl rfl rfl (by kernel_rfl) rfl ?h_4
       case' h_4 => skip
       refine' cdPu' (buildV tab rfl rfl rfl rfl rfl rfl rfl rfl rfl) ?p_5 rfl rfl rfl (by kernel_rfl) rfl ?h_5
       case' h_5 => skip
       refine' cdX ?x_6 rfl rfl rfl (by kernel_rfl) (fun h => (alwNo h (by kernel_rfl)).elim) rfl ?h_6
       case x_6 =>
        intro b hb g; cases b
        · exact (alwNo hb (by kernel_rfl)).elim
        ·
         refine appendM (fn := sc) (a := bytesOf y33) tab rfl rfl rfl rfl rfl rfl rfl rfl rfl rfl (fun _ => rfl) (by show (keys.length + 1) * 16 ≤ _; omega) ?_
         refine WO.nil ?_
         refine' stE1 rfl ?_ ?_ ?_ ?_
         all_goals try exact rfl
       case' h_6 => skip
       refine' cdPu' (ev tab rfl) ?p_7 rfl rfl rfl (by kernel_rfl) rfl ?h_7
       case' h_7 => skip
       first | (refine' cdPu' (ev tab rfl) ?p_8 rfl rfl rfl (by kernel_rfl) rfl ?h_8) | (refine' cdPu' (loadRow tab rfl rfl rfl rfl) ?p_8 rfl rfl rfl (by kernel_rfl) rfl ?h_8) | (refine' cdPu' (loadBox tab rfl rfl rfl rfl rfl) ?p_8 rfl rfl rfl (by kernel_rfl) rfl ?h_8)
       case' h_8 => skip
       refine' cdPu' (ev tab rfl) ?p_9 rfl rfl rfl (by kernel_rfl) rfl ?h_9
       case' h_9 => skip
       refine' cdPu' (ev tab rfl) ?p_10 rfl rfl rfl (by kernel_rfl) rfl ?h_10
       case' h_10 => skip
       refine' cdPu' (puI (ev tab rfl) (y := level + 1) (wrap64 (by omega))) ?p_11 rfl rfl rfl (by kernel_rfl) rfl ?h_11
       case' h_11 => skip
       refine' cdP ?x_12 rfl rfl rfl (by kernel_rfl) rfl ?h_12
       case x_12 =>
        intro b hb g; cases b
        · exact (alwNo hb (by kernel_rfl)).elim
        · exact callP [0] [] rfl rfl rfl rfl rfl ((hV k' (by omega) (level + 1) i44 (by omega) (by omega) (by omega) (by omega)).pan (outP_no hc55)) rfl rfl (by rfl) (fun st' => ⟨_, rfl, rfl⟩)
       case' h_12 => skip
       refine cdB 55 rfl rfl rfl rfl (by kernel_rfl) rfl ?_
       refine cdB 56 rfl rfl rfl rfl (by kernel_rfl) rfl ?_
       refine' cdPu' (ev tab rfl) ?p_15 rfl rfl rfl (by kernel_rfl) rfl ?h_15
       case' h_15 => skip
       case p_2 => refine ⟨fun ha => (alwNo ha (by kernel_rfl)).elim, ?_, fun ha => (alwNo ha (by kernel_rfl)).elim, ?_, fun ha => (alwNo ha (by kernel_rfl)).elim, ?_, fun ha => (alwNo ha (by kernel_rfl)).elim, ?_, fun ha => (alwNo ha (by kernel_rfl)).elim, ?_⟩ <;> intro ha <;> first | exact ⟨ev tab rfl, fun h => nomatch h⟩ | exact (alwNo ha (by kernel_rfl)).elim
       case p_3 => refine ⟨fun ha => (alwNo ha (by kernel_rfl)).elim, ?_, fun ha => (alwNo ha (by kernel_rfl)).elim, ?_, fun ha => (alwNo ha (by kernel_rfl)).elim, ?_, fun ha => (alwNo ha (by kernel_rfl)).elim, ?_, fun ha => (alwNo ha (by kernel_rfl)).elim, ?_⟩ <;> intro ha <;> first | exact ⟨ev tab rfl, fun h => nomatch h⟩ | exact ⟨loadRow tab rfl rfl rfl rfl, fun h => nomatch h⟩ | exact ⟨loadBox tab rfl rfl rfl rfl rfl, fun h => nomatch h⟩ | exact (alwNo ha (by kernel_rfl)).elim
       case p_4 => refine ⟨fun ha => (alwNo ha (by kernel_rfl)).elim, ?_, fun ha => (alwNo ha (by kernel_rfl)).elim, ?_, fun ha => (alwNo ha (by kernel_rfl)).elim, ?_, fun ha => (alwNo ha (by kernel_rfl)).elim, ?_, fun ha => (alwNo ha (by kernel_rfl)).elim, ?_⟩ <;> intro ha <;> first | exact ⟨ev tab rfl, fun h => nomatch h⟩ | exact (alwNo ha (by kernel_rfl)).elim
       case p_5 => refine ⟨fun ha => (alwNo ha (by kernel_rfl)).elim, ?_, fun ha => (alwNo ha (by kernel_rfl)).elim, ?_, fun ha => (alwNo ha (by kernel_rfl)).elim, ?_, fun ha => (alwNo ha (by kernel_rfl)).elim, ?_, fun ha => (alwNo ha (by kernel_rfl)).elim, ?_⟩ <;> intro ha <;> first | exact ⟨buildV tab rfl rfl rfl rfl rfl rfl rfl rfl rfl, fun h => nomatch h⟩ | exact (alwNo ha (by kernel_rfl)).elim
       case p_7 => refine ⟨fun ha => (alwNo ha (by kernel_rfl)).elim, ?_, fun ha => (alwNo ha (by kernel_rfl)).elim, ?_, fun ha => (alwNo ha (by kernel_rfl)).elim, ?_, fun ha => (alwNo ha (by kernel_rfl)).elim, ?_, fun ha => (alwNo ha (by kernel_rfl)).elim, ?_⟩ <;> intro ha <;> first | exact ⟨ev tab rfl, fun h => nomatch h⟩ | exact (alwNo ha (by kernel_rfl)).elim
       case p_8 => refine ⟨fun ha => (alwNo ha (by kernel_rfl)).elim, ?_, fun ha => (alwNo ha (by kernel_rfl)).elim, ?_, fun ha => (alwNo ha (by kernel_rfl)).elim, ?_, fun ha => (alwNo ha (by kernel_rfl)).elim, ?_, fun ha => (alwNo ha (by kernel_rfl)).elim, ?_⟩ <;> intro ha <;> first | exact ⟨ev tab rfl, fun h => nomatch h⟩ | exact ⟨loadRow tab rfl rfl rfl rfl, fun h => nomatch h⟩ | exact ⟨loadBox tab rfl rfl rfl rfl rfl, fun h => nomatch h⟩ | exact (alwNo ha (by kernel_rfl)).elim
       case p_9 => refine ⟨fun ha => (alwNo ha (by kernel_rfl)).elim, ?_, fun ha => (alwNo ha (by kernel_rfl)).elim, ?_, fun ha => (alwNo ha (by kernel_rfl)).elim, ?_, fun ha => (alwNo ha (by kernel_rfl)).elim, ?_, fun ha => (alwNo ha (by kernel_rfl)).elim, ?_⟩ <;> intro ha <;> first | exact ⟨ev tab rfl, fun h => nomatch h⟩ | exact (alwNo ha (by kernel_rfl)).elim
       case p_10 => refine ⟨fun ha => (alwNo ha (by kernel_rfl)).elim, ?_, fun ha => (alwNo ha (by kernel_rfl)).elim, ?_, fun ha => (alwNo ha (by kernel_rfl)).elim, ?_, fun ha => (alwNo ha (by kernel_rfl)).elim, ?_, fun ha => (alwNo ha (by kernel_rfl)).elim, ?_⟩ <;> intro ha <;> first | exact ⟨ev tab rfl, fun h => nomatch h⟩ | exact (alwNo ha (by kernel_rfl)).elim
       case p_11 => refine ⟨fun ha => (alwNo ha (by kernel_rfl)).elim, ?_, fun ha => (alwNo ha (by kernel_rfl)).elim, ?_, fun ha => (alwNo ha (by kernel_rfl)).elim, ?_, fun ha => (alwNo ha (by kernel_rfl)).elim, ?_, fun ha => (alwNo ha (by kernel_rfl)).elim, ?_⟩ <;> intro ha <;> first | exact ⟨puI (ev tab rfl) (y := level + 1) (wrap64 (by omega)), fun h => nomatch h⟩ | exact (alwNo ha (by kernel_rfl)).elim
       case p_15 => refine ⟨fun ha => (alwNo ha (by kernel_rfl)).elim, ?_, fun ha => (alwNo ha (by kernel_rfl)).elim, ?_, fun ha => (alwNo ha (by kernel_rfl)).elim, ?_, fun ha => (alwNo ha (by kernel_rfl)).elim, ?_, fun ha => (alwNo ha (by kernel_rfl)).elim, ?_⟩ <;> intro ha <;> first | exact ⟨ev tab rfl, fun h => nomatch h⟩ | exact (alwNo ha (by kernel_rfl)).elim
       refine CD.nil ?_ rfl
       exact botO 55 rfl
      | ok y55 i55 =>
       rw [hc55] at hI hb
       dsimp only at hI
       have hb3 : i44 < i55 := hb.1
       have hb4 : i55 ≤ s.size := by have := hb.2; rwa [bytes_len] at this
       have hbn := nextJ_bd (l := bys s) (c := 125) (i := i55) (by rw [bytes_len]; exact hb4)
       refine' W.regionLF tab (fun bx => [bx, (0, pbox s i55) :: bx, (0, pbox s i55) :: bx]) [[11, 8, 5], [11, 8, 5], [13, 11, 8]] [12, 13, 14] [4, 10, 12] 14 (by kernel_rfl) (by kernel_rfl) rfl rfl ?hL_16
       case' hL_16 => skip
       refine' cdPu' (ev tab rfl) ?p_17 rfl rfl rfl (by kernel_rfl) rfl ?h_17
       case' h_17 => skip
       first | (refine' cdPu' (ev tab rfl) ?p_18 rfl rfl rfl (by kernel_rfl) rfl ?h_18) | (refine' cdPu' (loadRow tab rfl rfl rfl rfl) ?p_18 rfl rfl rfl (by kernel_rfl) rfl ?h_18) | (refine' cdPu' (loadBox tab rfl rfl rfl rfl rfl) ?p_18 rfl rfl rfl (by kernel_rfl) rfl ?h_18)
       case' h_18 => skip
       refine' cdPu' (ev tab rfl) ?p_19 rfl rfl rfl (by kernel_rfl) rfl ?h_19
       case' h_19 => skip
       refine' cdPu' (buildV tab rfl rfl rfl rfl rfl rfl rfl rfl rfl) ?p_20 rfl rfl rfl (by kernel_rfl) rfl ?h_20
       case' h_20 => skip
       refine' cdX ?x_21 rfl rfl rfl (by kernel_rfl) (fun h => (alwNo h (by kernel_rfl)).elim) rfl ?h_21
       case x_21 =>
        intro b hb g; cases b
        · exact (alwNo hb (by kernel_rfl)).elim
        ·
         refine appendM (fn := sc) (a := bytesOf y33) tab rfl rfl rfl rfl rfl rfl rfl rfl rfl rfl (fun _ => rfl) (by show (keys.length + 1) * 16 ≤ _; omega) ?_
         refine WO.nil ?_
         refine' stE1 rfl ?_ ?_ ?_ ?_
         all_goals try exact rfl
       case' h_21 => skip
       refine' cdPu' (ev tab rfl) ?p_22 rfl rfl rfl (by kernel_rfl) rfl ?h_22
       case' h_22 => skip
       first | (refine' cdPu' (ev tab rfl) ?p_23 rfl rfl rfl (by kernel_rfl) rfl ?h_23) | (refine' cdPu' (loadRow tab rfl rfl rfl rfl) ?p_23 rfl rfl rfl (by kernel_rfl) rfl ?h_23) | (refine' cdPu' (loadBox tab rfl rfl rfl rfl rfl) ?p_23 rfl rfl rfl (by kernel_rfl) rfl ?h_23)
       case' h_23 => skip
       refine' cdPu' (ev tab rfl) ?p_24 rfl rfl rfl (by kernel_rfl) rfl ?h_24
       case' h_24 => skip
       refine' cdPu' (ev tab rfl) ?p_25 rfl rfl rfl (by kernel_rfl) rfl ?h_25
       case' h_25 => skip
       refine' cdPu' (puI (ev tab rfl) (y := level + 1) (wrap64 (by omega))) ?p_26 rfl rfl rfl (by kernel_rfl) rfl ?h_26
       case' h_26 => skip
       refine' cdX ?x_27 rfl rfl rfl (by kernel_rfl) (fun h => (alwNo h (by kernel_rfl)).elim) rfl ?h_27
       case x_27 =>
        intro b hb g; cases b
        · exact (alwNo hb (by kernel_rfl)).elim
        ·
         refine callB [0] [] rfl rfl rfl rfl rfl (((hV k' (by omega) (level + 1) i44 (by omega) (by omega) (by omega) (by omega)).ret (outP_ok hc55))) rfl rfl (by rfl) (by rfl) rfl rfl rfl rfl ?_
         refine WO.nil ?_
         refine' stE1 rfl ?_ ?_ ?_ ?_
         all_goals try exact rfl
       case' h_27 => skip
       refine' cdPu' (buildV tab rfl rfl rfl rfl rfl rfl rfl rfl rfl) ?p_28 rfl rfl rfl (by kernel_rfl) rfl ?h_28
       case' h_28 => skip
       refine' cdX ?x_29 rfl rfl rfl (by kernel_rfl) (fun h => (alwNo h (by kernel_rfl)).elim) rfl ?h_29
       case x_29 =>
        intro b hb g; cases b
        · exact (alwNo hb (by kernel_rfl)).elim
        ·
         refine appendM (fn := JV.c) (a := y55) tab rfl rfl rfl rfl rfl rfl rfl rfl rfl rfl (fun _ => rfl) (by show (acc.length + 1) * 80 ≤ _; omega) ?_
         refine WO.nil ?_
         refine' stE1 rfl ?_ ?_ ?_ ?_
         all_goals try exact rfl
       case' h_29 => skip
       case p_17 => refine ⟨fun ha => (alwNo ha (by kernel_rfl)).elim, ?_, fun ha => (alwNo ha (by kernel_rfl)).elim, ?_, fun ha => (alwNo ha (by kernel_rfl)).elim, ?_, fun ha => (alwNo ha (by kernel_rfl)).elim, ?_⟩ <;> intro ha <;> first | exact ⟨ev tab rfl, fun h => nomatch h⟩ | exact (alwNo ha (by kernel_rfl)).elim
       case p_18 => refine ⟨fun ha => (alwNo ha (by kernel_rfl)).elim, ?_, fun ha => (alwNo ha (by kernel_rfl)).elim, ?_, fun ha => (alwNo ha (by kernel_rfl)).elim, ?_, fun ha => (alwNo ha (by kernel_rfl)).elim, ?_⟩ <;> intro ha <;> first | exact ⟨ev tab rfl, fun h => nomatch h⟩ | exact ⟨loadRow tab rfl rfl rfl rfl, fun h => nomatch h⟩ | exact ⟨loadBox tab rfl rfl rfl rfl rfl, fun h => nomatch h⟩ | exact (alwNo ha (by kernel_rfl)).elim
       case p_19 => refine ⟨fun ha => (alwNo ha (by kernel_rfl)).elim, ?_, fun ha => (alwNo ha (by kernel_rfl)).elim, ?_, fun ha => (alwNo ha (by kernel_rfl)).elim, ?_, fun ha => (alwNo ha (by kernel_rfl)).elim, ?_⟩ <;> intro ha <;> first | exact ⟨ev tab rfl, fun h => nomatch h⟩ | exact (alwNo ha (by kernel_rfl)).elim
       case p_20 => refine ⟨fun ha => (alwNo ha (by kernel_rfl)).elim, ?_, fun ha => (alwNo ha (by kernel_rfl)).elim, ?_, fun ha => (alwNo ha (by kernel_rfl)).elim, ?_, fun ha => (alwNo ha (by kernel_rfl)).elim, ?_⟩ <;> intro ha <;> first | exact ⟨buildV tab rfl rfl rfl rfl rfl rfl rfl rfl rfl, fun h => nomatch h⟩ | exact (alwNo ha (by kernel_rfl)).elim
       case p_22 => refine ⟨fun ha => (alwNo ha (by kernel_rfl)).elim, ?_, fun ha => (alwNo ha (by kernel_rfl)).elim, ?_, fun ha => (alwNo ha (by kernel_rfl)).elim, ?_, fun ha => (alwNo ha (by kernel_rfl)).elim, ?_⟩ <;> intro ha <;> first | exact ⟨ev tab rfl, fun h => nomatch h⟩ | exact (alwNo ha (by kernel_rfl)).elim
       case p_23 => refine ⟨fun ha => (alwNo ha (by kernel_rfl)).elim, ?_, fun ha => (alwNo ha (by kernel_rfl)).elim, ?_, fun ha => (alwNo ha (by kernel_rfl)).elim, ?_, fun ha => (alwNo ha (by kernel_rfl)).elim, ?_⟩ <;> intro ha <;> first | exact ⟨ev tab rfl, fun h => nomatch h⟩ | exact ⟨loadRow tab rfl rfl rfl rfl, fun h => nomatch h⟩ | exact ⟨loadBox tab rfl rfl rfl rfl rfl, fun h => nomatch h⟩ | exact (alwNo ha (by kernel_rfl)).elim
       case p_24 => refine ⟨fun ha => (alwNo ha (by kernel_rfl)).elim, ?_, fun ha => (alwNo ha (by kernel_rfl)).elim, ?_, fun ha => (alwNo ha (by kernel_rfl)).elim, ?_, fun ha => (alwNo ha (by kernel_rfl)).elim, ?_⟩ <;> intro ha <;> first | exact ⟨ev tab rfl, fun h => nomatch h⟩ | exact (alwNo ha (by kernel_rfl)).elim
       case p_25 => refine ⟨fun ha => (alwNo ha (by kernel_rfl)).elim, ?_, fun ha => (alwNo ha (by kernel_rfl)).elim, ?_, fun ha => (alwNo ha (by kernel_rfl)).elim, ?_, fun ha => (alwNo ha (by kernel_rfl)).elim, ?_⟩ <;> intro ha <;> first | exact ⟨ev tab rfl, fun h => nomatch h⟩ | exact (alwNo ha (by kernel_rfl)).elim
       case p_26 => refine ⟨fun ha => (alwNo ha (by kernel_rfl)).elim, ?_, fun ha => (alwNo ha (by kernel_rfl)).elim, ?_, fun ha => (alwNo ha (by kernel_rfl)).elim, ?_, fun ha => (alwNo ha (by kernel_rfl)).elim, ?_⟩ <;> intro ha <;> first | exact ⟨puI (ev tab rfl) (y := level + 1) (wrap64 (by omega)), fun h => nomatch h⟩ | exact (alwNo ha (by kernel_rfl)).elim
       case p_28 => refine ⟨fun ha => (alwNo ha (by kernel_rfl)).elim, ?_, fun ha => (alwNo ha (by kernel_rfl)).elim, ?_, fun ha => (alwNo ha (by kernel_rfl)).elim, ?_, fun ha => (alwNo ha (by kernel_rfl)).elim, ?_⟩ <;> intro ha <;> first | exact ⟨buildV tab rfl rfl rfl rfl rfl rfl rfl rfl rfl, fun h => nomatch h⟩ | exact (alwNo ha (by kernel_rfl)).elim
       refine' cdPu' (ev tab rfl) ?p_30 rfl rfl rfl (by kernel_rfl) rfl ?h_30
       case' h_30 => skip
       case p_30 => refine ⟨fun ha => (alwNo ha (by kernel_rfl)).elim, ?_, fun ha => (alwNo ha (by kernel_rfl)).elim, ?_, fun ha => (alwNo ha (by kernel_rfl)).elim, ?_, fun ha => (alwNo ha (by kernel_rfl)).elim, ?_⟩ <;> intro ha <;> first | exact ⟨ev tab rfl, fun h => nomatch h⟩ | exact (alwNo ha (by kernel_rfl)).elim
       refine CD.nil ?_ rfl
       refine storeR tab rfl rfl rfl rfl rfl rfl rfl rfl ?_
       refine pE rfl ?_
       refine storeR tab rfl rfl rfl rfl rfl rfl rfl rfl ?_
       refine WO.nil (qbN (qs (W.region ?_)))
       refine pE rfl ?_
       cases hc25 : nextJ (bys s) 125 i55 with
       | no a25 w25 =>
        refine callP [0] [] rfl rfl rfl rfl rfl ((next_fn s 125 i55 hb4 hs).pan (outP_no hc25)) rfl rfl (by rfl) (fun st' => ?_)
        repeat' first | refine qsPan ?_ | refine qbPan ?_ | refine qlPan ?_ | refine qcPan ?_
        refine qxPan (outP_no (by rw [← hI, if_neg (next_no hc25).1, (next_no hc25).2]))
       | ok y25 i25 =>
        refine callB [0] [] rfl rfl rfl rfl rfl ((next_fn s 125 i55 hb4 hs).ret (outP_ok hc25)) rfl rfl (by rfl) (by rfl) rfl rfl rfl rfl ?_
        rw [hc25] at hbn
        have hb5 : i55 < i25 := hbn.1
        have hb6 : i25 ≤ s.size := by have := hbn.2; rwa [bytes_len] at this
        refine pE rfl ?_
        refine WO.nil ?_
        refine W.endR [0, 1, 2, 8, 11, 13] ⟨(k', i25, keys ++ [bytesOf y33], acc ++ [y55], y25), ?_⟩ ?_ rfl ?_ trivial ?_ ⟨rfl, rfl, trivial⟩ rfl
        ·
         refine ⟨by omega, hn2, fun h => ?_, fun h => ?_⟩
         ·
          subst h
          rw [if_pos (next_true hc25).1, ← (next_true hc25).2] at hI
          exact ⟨hb6, by rw [List.length_append, List.length_singleton]; omega, by rw [List.length_append, List.length_singleton]; omega, by omega, hI⟩
         ·
          subst h
          rw [if_neg (next_false hc25).1, (next_false hc25).2] at hI
          exact hI.symm
        · dsimp only; omega
        · repeat' first | exact trivial | refine ⟨rfl, ?_⟩ | refine ⟨congrArg some (renL_boxE _ _ _), ?_⟩ | refine ⟨step_nat (by assumption) (by assumption), ?_⟩
        · repeat' first | exact trivial | refine ⟨rfl, ?_⟩ | refine ⟨congrArg some (renL_boxE _ _ _), ?_⟩ | refine ⟨step_nat (by assumption) (by assumption), ?_⟩
  ·
   have hx := hF h23
   refine W.exit (qsExit (qlExit (qbExit (qs (W.seq (W.region ?_))))))
   first | refine pE rfl ?_ | refine pR rfl rfl rfl rfl rfl ?_ | refine pB rfl rfl rfl rfl rfl rfl ?_
   refine storeR tab rfl rfl rfl rfl rfl rfl rfl rfl ?_
   refine WO.nil (qs ?_)
   try refine nilBox 1 3 rfl rfl rfl ?_
   try refine nilBox 1 4 rfl rfl rfl ?_
   refine W.ret ?_
   refine qxRet (outP_ok (hx)) ?_
   refine QB1.end tab [] trivial rfl rfl rfl rfl ?_ ?_
   · exact ⟨rfl, trivial⟩
   rw [jvc_obj]
   rfl
end Go.Proofs.YtllkpgnpioojjaaDoor
namespace Go.Proofs.YtllkpgnpioojjaaDoor
open Go.Ab Go.Tb
set_option maxRecDepth 10000
attribute [local irreducible] W WO Pu QS QB QL QF QV QV1 CH QE
theorem value_all (s : ByteArray) (hs : s.size ≤ 1000000000) : ∀ K, ValD s K
 | 0 => fun k hk => by omega
 | K + 1 => fun k hk level i hl1 hl2 hi hf => by
  obtain ⟨k', rfl⟩ : ∃ k', k = k' + 1 := ⟨k - 1, by omega⟩
  have ih : ValD s k' := fun k hk2 => value_all s hs K k (by omega)
  exact value_step s k' hs level i hi (fun j h1 h2 h3 => array_step s k' hs ih level j h2 hl1 h3 (by omega)) (fun j h1 h2 h3 => object_step s k' hs ih level j h2 hl1 h3 (by omega))
theorem value_fn (s : ByteArray) (hs : s.size ≤ 1000000000) : DoesE Tryd.prog 32 [.ptr 0 0, .d (.v (.int .i64 1))] [pbox s 0] 0 (outP 57 s (fun v : JV => .ag v.c) (valJ (bys s) (3 * (bys s).length + 1) 1 0)) :=
 value_all s hs (3 * (bys s).length + 2) _ (Nat.lt_succ_self _) 1 0 (by decide) (by decide) (Nat.zero_le _) (by rw [bytes_len]; omega)
end Go.Proofs.YtllkpgnpioojjaaDoor
namespace Go.Proofs.YtllkpgnpioojjaaDoor
open Go.Ab Go.Tb
set_option maxRecDepth 10000
attribute [local irreducible] W WO Pu QS QB QL QF QV QV1 CH QE
abbrev zc : List A := [.d (ci 0), .d (ci 0), .d (cs (B #[])), .d (.sl []), .d (.sl [])]
theorem clo_sim {C : Ctx} {n : Nat} {f : List (Nat × A)} {bx : List (Nat × List A)} {gen : Nat} {G : Gh} {tmps : Array Value} {w : World} {b0 b1 b2 : Nat} {ds2 : List Deferred} (hbx : C.bx = [b0, b1, b2]) (hs : SimG C n ⟨f, bx, [], gen⟩ G tmps w) {X : Value} (hX : okc X = true) {k : Nat} (hk : k = 22) :
  SimG { C with bx := [b0, b1, b2], ds := ds2 } 22 ⟨[(3, .d (.v X)), (0, .ptr 0 0), (1, .ptr 1 0), (2, .ptr 2 0)], bx, [], gen⟩ G (((#[pp b0, pp b1, pp b2] ++ Array.replicate (k - #[pp b0, pp b1, pp b2].size) undef).setIfInBounds 6 X).setIfInBounds 3 X) w := by
 subst hk
 have h5 := hs.chg (bs := [b0, b1, b2]) (ds := ds2) (fun i b hb => hs.lent i b (by rw [hbx]; exact hb))
 have hl : ∀ (i b : Nat), [b0, b1, b2][i]? = some b → i < gen ∧ G.box i = some b := fun i b hb => by
  have := hs.lent i b (by rw [hbx]; exact hb)
  exact ⟨(hs.gbox i b this).1, this⟩
 have t3 : (((#[pp b0, pp b1, pp b2] ++ Array.replicate (22 - #[pp b0, pp b1, pp b2].size) undef).setIfInBounds 6 X).setIfInBounds 3 X)[3]? = some X := by simp [Array.getElem?_setIfInBounds]
 have t0 : (((#[pp b0, pp b1, pp b2] ++ Array.replicate (22 - #[pp b0, pp b1, pp b2].size) undef).setIfInBounds 6 X).setIfInBounds 3 X)[0]? = some (pp b0) := by simp [Array.getElem?_setIfInBounds]
 have t1 : (((#[pp b0, pp b1, pp b2] ++ Array.replicate (22 - #[pp b0, pp b1, pp b2].size) undef).setIfInBounds 6 X).setIfInBounds 3 X)[1]? = some (pp b1) := by simp [Array.getElem?_setIfInBounds]
 have t2 : (((#[pp b0, pp b1, pp b2] ++ Array.replicate (22 - #[pp b0, pp b1, pp b2].size) undef).setIfInBounds 6 X).setIfInBounds 3 X)[2]? = some (pp b2) := by simp [Array.getElem?_setIfInBounds]
 have ts : (((#[pp b0, pp b1, pp b2] ++ Array.replicate (22 - #[pp b0, pp b1, pp b2].size) undef).setIfInBounds 6 X).setIfInBounds 3 X).size = 22 := by simp
 generalize (((#[pp b0, pp b1, pp b2] ++ Array.replicate (22 - #[pp b0, pp b1, pp b2].size) undef).setIfInBounds 6 X).setIfInBounds 3 X) = tm at t3 t0 t1 t2 ts ⊢
 exact { h5 with
  size := ts
  frame := fun t a ha => by
   have ha : Go.Ab.look [(3, A.d (.v X)), (0, .ptr 0 0), (1, .ptr 1 0), (2, .ptr 2 0)] t = some a := ha
   rw [look_cons, look_cons, look_cons, look_cons] at ha
   split at ha
   ·
    rename_i e
    cases ha; subst e
    exact ⟨X, t3, .d (.v X hX)⟩
   ·
    split at ha
    ·
     rename_i e
     cases ha; subst e
     exact ⟨pp b0, t0, .ptr _ _ _ b0 (hl 0 b0 rfl).1 (hl 0 b0 rfl).2 rfl⟩
    ·
     split at ha
     ·
      rename_i e
      cases ha; subst e
      exact ⟨pp b1, t1, .ptr _ _ _ b1 (hl 1 b1 rfl).1 (hl 1 b1 rfl).2 rfl⟩
     ·
      split at ha
      ·
       rename_i e
       cases ha; subst e
       exact ⟨pp b2, t2, .ptr _ _ _ b2 (hl 2 b2 rfl).1 (hl 2 b2 rfl).2 rfl⟩
      · cases ha }
theorem clo_ret {C : Ctx} (hG : GC Tryd.prog C) {n : Nat} {f : List (Nat × A)} {bx : List (Nat × List A)} {gen : Nat} {G : Gh} {tmps : Array Value} {w : World} {b0 b1 b2 : Nat} (hbx : C.bx = [b0, b1, b2]) (hs : SimG C n ⟨f, bx, [], gen⟩ G tmps w) :
  CallsD Tryd.prog 31 #[pp b0, pp b1, pp b2] .returning w fun e u' w' => ∃ v G', e = .returned v ∧ u' = .returning ∧ SimG { C with bx := [b0, b1, b2], ds := [] } 0 ⟨[], bx, [], gen⟩ G' #[] w' := by
 refine callsD_of_wpS Tryd.func31 rfl (fun c0 cs0 hu => ?_)
 refine wpS_seq (wpS_region (opsS_recover (d := 6) rfl rfl rfl rfl ?_))
 have hrec : recoverD (c0 :: cs0) = none := by cases c0 with | mk a b c d e f g => subst hu; rfl
 rw [hrec]
 refine opsS_copy (d := 3) (d0 := 6) (v := .nilIface) rfl rfl rfl rfl (by rw [Array.getElem?_setIfInBounds_self, if_pos (by rw [Array.size_append, Array.size_replicate, Tryd.ntmps31]; show 6 < 3 + (22 - 3); omega)]) (opsS_nil ?_)
 refine wpS_of_wp ?_
 haveI : NB { C with bx := [b0, b1, b2], ds := [] } 3 := ⟨rfl⟩
 haveI : GC Tryd.prog { C with bx := [b0, b1, b2], ds := [] } := hG.chg
 refine wp_of_W (C := { C with bx := [b0, b1, b2], ds := [] }) (n := 22) (st := ⟨[(3, .d (.v .nilIface)), (0, .ptr 0 0), (1, .ptr 1 0), (2, .ptr 2 0)], bx, [], gen⟩) (Q := fun e st => e = .normal ∧ st.bx = bx ∧ st.gen = gen ∧ st.lv = []) ⟨G, clo_sim hbx hs rfl Tryd.ntmps31⟩ ?hW ?hB
 case hW =>
  refine W.seq (W.region ?_)
  refine pE rfl ?_
  refine pu (nilNeq rfl (by kernel_rfl)) rfl ?_
  refine WO.nil (qs ?_)
  refine W.condF rfl ?_
  refine W.skip ?_
  exact ⟨rfl, rfl, rfl, rfl⟩
 case hB =>
  rintro e ⟨t, df⟩ w' ⟨hd, ⟨f', bx', lv', gen'⟩, ⟨G', hs'⟩, he, e1, e2, e3⟩
  have e1 : bx' = bx := e1
  have e2 : gen' = gen := e2
  have e3 : lv' = [] := e3
  subst he; subst e1; subst e2; subst e3
  refine ⟨hd, .returning, by rw [← hu], _, run_resultsV (rs := []) Tryd.results31 (vs := []) rfl, _, G', rfl, rfl, ?_⟩
  exact { hs' with size := rfl, frame := fun t a ha => by cases ha }
theorem clo_pan {C : Ctx} (hG : GC Tryd.prog C) {n : Nat} {f : List (Nat × A)} {bx : List (Nat × List A)} {gen : Nat} {G : Gh} {tmps : Array Value} {w : World} {b0 b1 b2 : Nat} {a : Nat} {e : Int} (hl : okc (.int .i64 (a : Int)) = true ∧ okc (.int .i64 e) = true) (hbx : C.bx = [b0, b1, b2]) (hs : SimG C n ⟨f, bx, [], gen⟩ G tmps w)
  {x0 x1 x2 x3 x4 y0 z0 : A} (h0 : look' bx 0 = some [x0, x1, x2, x3, x4]) (h1 : look' bx 1 = some [y0]) (h2 : look' bx 2 = some [z0]) :
  CallsD Tryd.prog 31 #[pp b0, pp b1, pp b2] (.panicking [{ v := faultV 57 a e, recovered := false }]) w fun r u' w' => ∃ v G' bx' gen', r = .returned v ∧ u' = .panicking [{ v := faultV 57 a e, recovered := true }] ∧ look' bx' 0 = some zc ∧ look' bx' 1 = some [.d (ci a)] ∧ look' bx' 2 = some [.d (ci e)] ∧ SimG { C with bx := [b0, b1, b2], ds := [] } 0 ⟨[], bx', [], gen'⟩ G' #[] w' := by
 refine callsD_of_wpS Tryd.func31 rfl (fun c0 cs0 hu => ?_)
 refine wpS_seq (wpS_region (opsS_recover (d := 6) rfl rfl rfl rfl ?_))
 have hrec : recoverD (c0 :: cs0) = some (faultV 57 a e, { c0 with mode := .panicking [{ v := faultV 57 a e, recovered := true }] } :: cs0) := by cases c0 with | mk a b c d e f g => subst hu; rfl
 rw [hrec]
 refine opsS_copy (d := 3) (d0 := 6) (v := faultV 57 a e) rfl rfl rfl rfl (by rw [Array.getElem?_setIfInBounds_self, if_pos (by rw [Array.size_append, Array.size_replicate, Tryd.ntmps31]; show 6 < 3 + (22 - 3); omega)]) (opsS_nil ?_)
 refine wpS_of_wp ?_
 haveI : NB { C with bx := [b0, b1, b2], ds := [] } 3 := ⟨rfl⟩
 haveI : GC Tryd.prog { C with bx := [b0, b1, b2], ds := [] } := hG.chg
 have hs' : SimG C n ⟨[], [(0, [.any, .any, .any, .any, .any]), (1, [.any]), (2, [.any])], [], 3⟩ ⟨fun g => if g < 3 then G.box g else none, fun _ => none⟩ tmps w := by
  have hget : ∀ g b, (if g < 3 then G.box g else none) = some b → g < 3 ∧ G.box g = some b := fun g b h => by
   split at h
   · rename_i q; exact ⟨q, h⟩
   · cases h
  have hb : ∀ (g : Nat) (cells cells' : List A), g < 3 → look' bx g = some cells → cells'.length = cells.length → (∀ (i : Nat) (a : A), cells'[i]? = some a → a = .any) → ∃ b cs T, (if g < 3 then G.box g else none) = some b ∧ w.heap[b]? = some (.cells cs T (0, 0)) ∧ cs.size = cells'.length ∧
    (∀ (i : Nat) (u : Value), cs[i]? = some u → u.oneCell' = true) ∧ ∀ (i : Nat) (u : Value) (a : A), cs[i]? = some u → cells'[i]? = some a → Rep (enOf C ⟨fun g => if g < 3 then G.box g else none, fun _ => none⟩ 3 w) u a := fun g cells cells' hg hc hlen hany => by
   obtain ⟨b, cs, T, q1, q2, q3, q4, _⟩ := hs.box g cells hc
   exact ⟨b, cs, T, by rw [if_pos hg]; exact q1, q2, by rw [q3, hlen], q4, fun i u a _ ha => by rw [hany i a ha]; exact .any _⟩
  have hbox : ∀ (g : Nat) (cells : List A), Go.Ab.look' [(0, [A.any, A.any, A.any, A.any, A.any]), (1, [A.any]), (2, [A.any])] g = some cells → ∃ b cs T, (if g < 3 then G.box g else none) = some b ∧ w.heap[b]? = some (.cells cs T (0, 0)) ∧ cs.size = cells.length ∧ (∀ (i : Nat) (u : Value), cs[i]? = some u → u.oneCell' = true) ∧ ∀ (i : Nat) (u : Value) (a : A), cs[i]? = some u → cells[i]? = some a → Rep (enOf C ⟨fun g => if g < 3 then G.box g else none, fun _ => none⟩ 3 w) u a := by
   intro g cells hc
   match g, hc with
   | 0, hc => cases hc; exact hb 0 _ _ (by decide) h0 rfl (fun i a h => by have := List.mem_of_getElem? h; simpa using this)
   | 1, hc => cases hc; exact hb 1 _ _ (by decide) h1 rfl (fun i a h => by have := List.mem_of_getElem? h; simpa using this)
   | 2, hc => cases hc; exact hb 2 _ _ (by decide) h2 rfl (fun i a h => by have := List.mem_of_getElem? h; simpa using this)
   | g + 3, hc => cases hc
  have hlent : ∀ (i b : Nat), C.bx[i]? = some b → (if i < 3 then G.box i else none) = some b := by
   intro i b h
   have hi : i < 3 := by rw [hbx] at h; have := (List.getElem?_eq_some_iff.1 h).1; simpa using this
   rw [if_pos hi]; exact hs.lent i b h
  exact { size := hs.size, frame := fun t a ha => (by cases ha), box := hbox, gbox := fun g b h => ⟨(hget g b h).1, (hs.gbox g b (hget g b h).2).2⟩, inj := fun g g' b h h' => hs.inj g g' b (hget g b h).2 (hget g' b h').2, live := fun g hg => (by cases hg), gown := fun g r hr => (by cases hr), row := fun g b len cap sz pub hr => (by cases hr), mrow := fun g b hr => (by cases hr), xold := hs.xold, kold := hs.kold, lent := hlent, fr := hs.fr }
 refine wp_of_W (C := { C with bx := [b0, b1, b2], ds := [] }) (n := 22) (st := ⟨[(3, .d (.v (faultV 57 a e))), (0, .ptr 0 0), (1, .ptr 1 0), (2, .ptr 2 0)], [(0, [.any, .any, .any, .any, .any]), (1, [.any]), (2, [.any])], [], 3⟩) (Q := fun r st => r = .normal ∧ st.lv = [] ∧ look' st.bx 0 = some zc ∧ look' st.bx 1 = some [.d (ci a)] ∧ look' st.bx 2 = some [.d (ci e)]) ⟨_, clo_sim hbx hs' rfl Tryd.ntmps31⟩ ?hW ?hB
 case hW =>
  refine W.seq (W.region ?_)
  refine pE rfl ?_
  refine pu (ifNeq rfl (by kernel_rfl)) rfl ?_
  refine WO.nil (qs ?_)
  refine W.condT rfl ?_
  refine W.seq (W.region ?_)
  refine pE rfl ?_
  refine pu (assertYes (l := [.int .i64 (a : Int), .int .i64 e]) tab rfl rfl (fun v hv => by rcases List.mem_cons.1 hv with rfl | hv; exact hl.1; rcases List.mem_cons.1 hv with rfl | hv; exact hl.2; cases hv) rfl) rfl ?_
  iterate 3 refine pE rfl ?_
  refine allocR tab rfl rfl rfl ?_
  refine storeR tab rfl rfl rfl rfl rfl rfl rfl rfl ?_
  refine pE rfl ?_
  refine WO.nil (qs ?_)
  iterate 2 refine W.seq ?_
  refine W.region ?_
  iterate 2 refine pE rfl ?_
  refine WO.nil (qs ?_)
  refine W.condF rfl ?_
  refine W.skip (qs ?_)
  refine' W.regionLF tab (fun bx => [(0, zc) :: bx, (1, [.d (ci a)]) :: (0, zc) :: bx]) [[], []] [4, 4] [5, 6] 7 (by kernel_rfl) (by kernel_rfl) rfl rfl ?hL_9
  case' hL_9 => skip
  refine' cdPu' (Pu.nilB (build tab rfl rfl rfl rfl) rfl) ?p_10 rfl rfl rfl (by kernel_rfl) rfl ?h_10
  case' h_10 => skip
  refine' cdPu' (ev tab rfl) ?p_11 rfl rfl rfl (by kernel_rfl) rfl ?h_11
  case' h_11 => skip
  first | (refine' cdPu' (ev tab rfl) ?p_12 rfl rfl rfl (by kernel_rfl) rfl ?h_12) | (refine' cdPu' (loadRow tab rfl rfl rfl rfl) ?p_12 rfl rfl rfl (by kernel_rfl) rfl ?h_12) | (refine' cdPu' (loadBox tab rfl rfl rfl rfl rfl) ?p_12 rfl rfl rfl (by kernel_rfl) rfl ?h_12)
  case' h_12 => skip
  refine' cdPu' (ev tab rfl) ?p_13 rfl rfl rfl (by kernel_rfl) rfl ?h_13
  case' h_13 => skip
  first | (refine' cdPu' (ev tab rfl) ?p_14 rfl rfl rfl (by kernel_rfl) rfl ?h_14) | (refine' cdPu' (loadRow tab rfl rfl rfl rfl) ?p_14 rfl rfl rfl (by kernel_rfl) rfl ?h_14) | (refine' cdPu' (loadBox tab rfl rfl rfl rfl rfl) ?p_14 rfl rfl rfl (by kernel_rfl) rfl ?h_14)
  case' h_14 => skip
  refine' cdX0 ?x_15 rfl rfl rfl (by kernel_rfl) ?h_15
  case x_15 =>
   intro b hb g; cases b
   · exact (alwNo hb (by kernel_rfl)).elim
   ·
    refine storeR tab rfl rfl rfl rfl rfl rfl rfl rfl ?_
    refine WO.nil ?_
    refine' stE0 rfl ?_ ?_ ?_
    all_goals try exact rfl
  case' h_15 => skip
  refine' cdX0 ?x_16 rfl rfl rfl (by kernel_rfl) ?h_16
  case x_16 =>
   intro b hb g; cases b
   · exact (alwNo hb (by kernel_rfl)).elim
   ·
    refine storeR tab rfl rfl rfl rfl rfl rfl rfl rfl ?_
    refine WO.nil ?_
    refine' stE0 rfl ?_ ?_ ?_
    all_goals try exact rfl
  case' h_16 => skip
  case p_10 => refine ⟨fun ha => (alwNo ha (by kernel_rfl)).elim, ?_, fun ha => (alwNo ha (by kernel_rfl)).elim, ?_, fun ha => (alwNo ha (by kernel_rfl)).elim, ?_⟩ <;> intro ha <;> first | exact ⟨Pu.nilB (build tab rfl rfl rfl rfl) rfl, fun h => nomatch h⟩ | exact (alwNo ha (by kernel_rfl)).elim
  case p_11 => refine ⟨fun ha => (alwNo ha (by kernel_rfl)).elim, ?_, fun ha => (alwNo ha (by kernel_rfl)).elim, ?_, fun ha => (alwNo ha (by kernel_rfl)).elim, ?_⟩ <;> intro ha <;> first | exact ⟨ev tab rfl, fun h => nomatch h⟩ | exact (alwNo ha (by kernel_rfl)).elim
  case p_12 => refine ⟨fun ha => (alwNo ha (by kernel_rfl)).elim, ?_, fun ha => (alwNo ha (by kernel_rfl)).elim, ?_, fun ha => (alwNo ha (by kernel_rfl)).elim, ?_⟩ <;> intro ha <;> first | exact ⟨ev tab rfl, fun h => nomatch h⟩ | exact ⟨loadRow tab rfl rfl rfl rfl, fun h => nomatch h⟩ | exact ⟨loadBox tab rfl rfl rfl rfl rfl, fun h => nomatch h⟩ | exact (alwNo ha (by kernel_rfl)).elim
  case p_13 => refine ⟨fun ha => (alwNo ha (by kernel_rfl)).elim, ?_, fun ha => (alwNo ha (by kernel_rfl)).elim, ?_, fun ha => (alwNo ha (by kernel_rfl)).elim, ?_⟩ <;> intro ha <;> first | exact ⟨ev tab rfl, fun h => nomatch h⟩ | exact (alwNo ha (by kernel_rfl)).elim
  case p_14 => refine ⟨fun ha => (alwNo ha (by kernel_rfl)).elim, ?_, fun ha => (alwNo ha (by kernel_rfl)).elim, ?_, fun ha => (alwNo ha (by kernel_rfl)).elim, ?_⟩ <;> intro ha <;> first | exact ⟨ev tab rfl, fun h => nomatch h⟩ | exact ⟨loadRow tab rfl rfl rfl rfl, fun h => nomatch h⟩ | exact ⟨loadBox tab rfl rfl rfl rfl rfl, fun h => nomatch h⟩ | exact (alwNo ha (by kernel_rfl)).elim
  refine CD.nil ?_ rfl
  refine storeR tab rfl rfl rfl rfl rfl rfl rfl rfl ?_
  refine WO.nil ?_
  exact ⟨rfl, rfl, rfl, rfl, rfl⟩
 case hB =>
  rintro r ⟨t, df⟩ w' ⟨hd, ⟨f', bx', lv', gen'⟩, ⟨G', hs'⟩, he, e3, q0, q1, q2⟩
  have e3 : lv' = [] := e3
  subst he; subst e3
  refine ⟨hd, _, rfl, _, run_resultsV (rs := []) Tryd.results31 (vs := []) rfl, _, G', bx', gen', rfl, rfl, q0, q1, q2, ?_⟩
  exact { hs' with size := rfl, frame := fun t a ha => by cases ha }
end Go.Proofs.YtllkpgnpioojjaaDoor
namespace Go.Proofs.YtllkpgnpioojjaaDoor
open Go.Ab Go.Tb
set_option maxRecDepth 10000
attribute [local irreducible] W WO Pu QS QB QL QF QV QV1 CH QE
def parseR (s : ByteArray) : A := if 65536 < s.size then .tup [.ag zeroJ.c, .d (ci 0), .d (ci 7)] else match parseJ (bys s) with
 | .ok v _ => .tup [.ag v.c, .d (ci 0), .d (ci 0)]
 | .no a w => .tup [.ag zeroJ.c, .d (ci a), .d (ci w)]
def PQ (x : PE JV) : Exit → St → Prop := fun e st => (match x with
 | .ok v _ => e = .ret ∧ look' st.bx 0 = some (v.c.map .d) ∧ look' st.bx 1 = some [.d (ci 0)] ∧ look' st.bx 2 = some [.d (ci 0)]
 | .no a w => e = panOf (faultV 57 a w) ∧ ∃ x0 x1 x2 x3 x4 y0 z0, look' st.bx 0 = some [x0, x1, x2, x3, x4] ∧ look' st.bx 1 = some [y0] ∧ look' st.bx 2 = some [z0]) ∧
 Go.Ab.look st.f 2 = some (A.ptr 0 0) ∧ Go.Ab.look st.f 3 = some (A.ptr 1 0) ∧ Go.Ab.look st.f 4 = some (A.ptr 2 0)
theorem sim3 {C : Ctx} {n : Nat} {f : List (Nat × A)} {bx : List (Nat × List A)} {lv : List Nat} {gen : Nat} {G : Gh} {tmps : Array Value} {w : World} {c0 c1 c2 : List A} (hs : SimG C n ⟨f, bx, lv, gen⟩ G tmps w) (h0 : look' bx 0 = some c0) (h1 : look' bx 1 = some c1) (h2 : look' bx 2 = some c2) : SimG C n ⟨f, [(0, c0), (1, c1), (2, c2)], lv, gen⟩ G tmps w := by
 refine { hs with box := fun g cells hc => ?_ }
 have hc : Go.Ab.look' [(0, c0), (1, c1), (2, c2)] g = some cells := hc
 match g, hc with
 | 0, hc => cases hc; exact hs.box 0 _ h0
 | 1, hc => cases hc; exact hs.box 1 _ h1
 | 2, hc => cases hc; exact hs.box 2 _ h2
 | g + 3, hc => cases hc
theorem ok31 : FnOK Tryd.prog 31 := ⟨_, Tryd.func31, by kernel_rfl, rfl⟩
theorem inv31 (b0 b1 b2 : Nat) (w : World) : (invoke (.fn (.func 31) #[pp b0, pp b1, pp b2]) #[]).run Tryd.prog w = .ok (.enter 31 #[pp b0, pp b1, pp b2]) w := by
 obtain ⟨fn, hfn, hname, hbody⟩ := ok31
 simp only [invoke, callFunc, Sem.run_bind, Sem.run_pure, Result.andThen_ok, run_program, hfn, hname, hbody, Bool.false_eq_true, if_false, Array.empty_append]
theorem parse_fn (s : ByteArray) : Does Tryd.prog 19 [.d (.v (.string s))] (parseR s) 0 := by
 refine Does.of_W' (n := 34) Tryd.func19 (by kernel_rfl) rfl Tryd.ntmps19 rfl fun C hC hG hbx hds => ?_
 refine W'.seq ?_
 refine W.region ?_
 iterate 3 refine allocR tab rfl rfl rfl ?_
 refine WO.nil ?_
 refine W'.seq ?_
 refine W.seq (W.region ?_)
 iterate 3 refine pE rfl ?_
 refine WO.nil (qs ?_)
 refine condK rfl (fun h8 => ?_) (fun h8 => ?_)
 ·
  refine W.seq (W.region ?_)
  refine pu (build tab rfl rfl rfl rfl) rfl ?_
  refine nilO 9 rfl rfl rfl ?_
  iterate 3 refine storeR tab rfl rfl rfl rfl rfl rfl rfl rfl ?_
  refine WO.nil (qs (W.ret ?_))
  intro tmps w ⟨G, hs⟩
  have hg : parseR s = .tup [.ag zeroJ.c, .d (ci 0), .d (ci 7)] := by unfold parseR; rw [if_pos (by simp at h8; omega)]
  show Leaves _ _ tmps _ C.ds .returning w
  rw [hds, hg]
  exact fin0 tab (rs := [.cell 2 26, .cell 3 3, .cell 4 29]) hs hbx Tryd.results19 rfl rfl
 ·
  have h65 : ¬ 65536 < s.size := by simp at h8; omega
  have hsz : s.size ≤ 1000000000 := by omega
  have hgR : parseR s = match parseJ (bys s) with | .ok v _ => .tup [.ag v.c, .d (ci 0), .d (ci 0)] | .no a w => .tup [.ag zeroJ.c, .d (ci a), .d (ci w)] := by unfold parseR; rw [if_neg h65]
  refine W.skip ?_
  refine W'.seqRegion ?_
  refine WO'.pu rfl rfl (ev tab rfl) ?_
  refine WO'.deferEnd rfl (fun b0 b1 b2 tmps w G hs e0 e1 e2 => ?_)
  have hNB : NB { C with bx := [b0, b1, b2], ds := dfr 31 b0 b1 b2 :: C.ds } 3 := ⟨rfl⟩
  have hGC : GC Tryd.prog { C with bx := [b0, b1, b2], ds := dfr 31 b0 b1 b2 :: C.ds } := hG.chg
  refine wp_of_W (C := { C with bx := [b0, b1, b2], ds := dfr 31 b0 b1 b2 :: C.ds }) (n := 34) (Q := PQ (parseJ (bys s))) ⟨G, hs.chg (fun i b hb => ?hl)⟩ ?hW ?hB
  case hl =>
   match i, hb with
   | 0, hb => cases hb; exact e0
   | 1, hb => cases hb; exact e1
   | 2, hb => cases hb; exact e2
   | i + 3, hb => cases hb
  case hW =>
   refine W.seq (W.region ?_)
   refine pE rfl ?_
   refine pu (build tab rfl rfl rfl rfl) rfl ?_
   refine boxR rfl rfl rfl ?_
   refine pE rfl ?_
   refine WO.nil (qs (W.seq (W.region ?_)))
   refine pE rfl ?_
   cases hc15 : valJ (bys s) (3 * (bys s).length + 1) 1 0 with
   | no a15 w15 =>
    have hp : parseJ (bys s) = .no a15 w15 := by unfold parseJ; rw [hc15]
    refine callPk [3] [] rfl rfl rfl rfl rfl ((value_fn s hsz).pan (outP_no hc15)) rfl rfl (by rfl) ?_
    repeat' first | refine qsPan ?_ | refine qbPan ?_ | refine qlPan ?_ | refine qcPan ?_
    rw [hp]
    exact ⟨⟨rfl, _, _, _, _, _, _, _, rfl, rfl, rfl⟩, rfl, rfl, rfl⟩
   | ok y15 i15 =>
    have hb := (allBd (bys s) (3 * (bys s).length + 1)).v 1 0 (Nat.zero_le _)
    rw [hc15] at hb
    have hi : i15 ≤ s.size := by have := hb.2; rwa [bytes_len] at this
    refine callB [3] [] rfl rfl rfl rfl rfl ((value_fn s hsz).ret (outP_ok hc15)) rfl rfl (by rfl) (by rfl) rfl rfl rfl rfl ?_
    refine storeR tab rfl rfl rfl rfl rfl rfl rfl rfl ?_
    refine WO.nil (qs ?_)
    iterate 2 refine W.seq ?_
    refine W.region ?_
    refine pE rfl ?_
    refine callB [3] [] rfl rfl rfl rfl rfl ((peek_fn s i15 hi hsz)) rfl rfl (by rfl) (by rfl) rfl rfl rfl rfl ?_
    iterate 2 refine pE rfl ?_
    refine splitG rfl rfl (fun g19 => ?_) (fun g19 => ?_)
    ·
     iterate 7 refine skipT rfl rfl rfl rfl ?_
     refine pE rfl ?_
     refine WO.nil (qs ?_)
     refine W.condT rfl ?_
     refine W.region ?_
     iterate 3 refine pE rfl ?_
     first | refine pE rfl ?_ | refine pR rfl rfl rfl rfl rfl ?_ | refine pB rfl rfl rfl rfl rfl rfl ?_
     have hlt : skipB (bys s) i15 < (bys s).length := here_lt fun e => by rw [e] at g19; simp at g19
     have hp : parseJ (bys s) = .no (skipB (bys s) i15) 10 := by unfold parseJ; rw [hc15]; dsimp only; rw [if_pos hlt]
     refine callPk [] [] rfl rfl rfl rfl rfl (fails_fn (skipB (bys s) i15) 10) rfl rfl (by rfl) ?_
     repeat' first | refine qsPan ?_ | refine qbPan ?_ | refine qlPan ?_ | refine qcPan ?_
     rw [hp]
     exact ⟨⟨rfl, _, _, _, _, _, _, _, rfl, rfl, rfl⟩, rfl, rfl, rfl⟩
    ·
     refine goG rfl rfl ?_
     refine pE rfl ?_
     refine goG rfl rfl ?_
     refine pE rfl ?_
     refine goG rfl rfl ?_
     refine pE rfl ?_
     refine goG rfl rfl ?_
     first | refine pE rfl ?_ | refine pR rfl rfl rfl rfl rfl ?_ | refine pB rfl rfl rfl rfl rfl rfl ?_
     refine goG rfl rfl ?_
     refine pE rfl ?_
     refine goG rfl rfl ?_
     refine pE rfl ?_
     refine goG rfl rfl ?_
     iterate 2 refine pE rfl ?_
     refine WO.nil (qs ?_)
     refine condK rfl (fun h27 => ?_) (fun h27 => ?_)
     ·
      refine W.region ?_
      iterate 3 refine pE rfl ?_
      first | refine pE rfl ?_ | refine pR rfl rfl rfl rfl rfl ?_ | refine pB rfl rfl rfl rfl rfl rfl ?_
      have hlt : skipB (bys s) i15 < (bys s).length := by rw [bytes_len]; simp at h27; omega
      have hp : parseJ (bys s) = .no (skipB (bys s) i15) 10 := by unfold parseJ; rw [hc15]; dsimp only; rw [if_pos hlt]
      refine callPk [] [] rfl rfl rfl rfl rfl (fails_fn (skipB (bys s) i15) 10) rfl rfl (by rfl) ?_
      repeat' first | refine qsPan ?_ | refine qbPan ?_ | refine qlPan ?_ | refine qcPan ?_
      rw [hp]
      exact ⟨⟨rfl, _, _, _, _, _, _, _, rfl, rfl, rfl⟩, rfl, rfl, rfl⟩
     ·
      have hlt : ¬ skipB (bys s) i15 < (bys s).length := by rw [bytes_len]; simp at h27; omega
      have hp : parseJ (bys s) = .ok y15 0 := by unfold parseJ; rw [hc15]; dsimp only; rw [if_neg hlt]
      refine W.skip (qs (W.seq (W.region ?_)))
      first | refine pE rfl ?_ | refine pR rfl rfl rfl rfl rfl ?_ | refine pB rfl rfl rfl rfl rfl rfl ?_
      iterate 3 refine storeR tab rfl rfl rfl rfl rfl rfl rfl rfl ?_
      refine WO.nil (qs (W.ret ?_))
      rw [hp]
      exact ⟨⟨rfl, rfl, rfl, rfl⟩, rfl, rfl, rfl⟩
  case hB =>
   rintro e ⟨tmps2, df⟩ w2 ⟨hd2, ⟨f2, bx2, lv2, gen2⟩, ⟨G2, hs2⟩, hq, k0, k1, k2⟩
   have hd2 : df = dfr 31 b0 b1 b2 :: C.ds := hd2
   subst hd2
   have hs2' : SimG { C with bx := [b0, b1, b2], ds := dfr 31 b0 b1 b2 :: C.ds } 34 ⟨f2, bx2, [], gen2⟩ G2 tmps2 w2 := { hs2 with live := fun g h => by cases h }
   rw [hgR]
   have hE := parse_e (l := bys s)
   have hpl := fun a w => parse_le (l := bys s) (a := a) (w := w)
   cases hA : parseJ (bys s) with
   | ok v i =>
    rw [hA] at hq
    obtain ⟨rfl, q0, q1, q2⟩ := hq
    show Leaves _ _ tmps2 _ (dfr 31 b0 b1 b2 :: C.ds) .returning w2
    rw [hds]
    refine leaves_cons (by simp) (inv31 b0 b1 b2 w2) (CallsD.mono (clo_ret hGC rfl hs2') ?_)
    rintro r u' w3 ⟨v3, G3, rfl, rfl, hs3⟩
    exact leaves_fin tab (rs := [.cell 2 26, .cell 3 3, .cell 4 29]) hbx hs2 k0 k1 k2 (sim3 hs3 q0 q1 q2) Tryd.results19 rfl rfl
   | no a w =>
    rw [hA] at hq hE
    obtain ⟨rfl, x0, x1, x2, x3, x4, y0, z0, q0, q1, q2⟩ := hq
    have ha : a ≤ s.size := by have := hpl a w hA; rwa [bytes_len] at this
    have hw : okc (.int .i64 (a : Int)) = true ∧ okc (.int .i64 w) = true := by
     refine ⟨by simp [okc, IntKind.min, IntKind.max, IntKind.signed, IntKind.bits]; omega, ?_⟩
     rcases hE with rfl | rfl | rfl | rfl <;> rfl
    show Leaves _ _ tmps2 _ (dfr 31 b0 b1 b2 :: C.ds) (.panicking [{ v := faultV 57 a w, recovered := false }]) w2
    rw [hds]
    refine leaves_cons (by simp) (inv31 b0 b1 b2 w2) (CallsD.mono (clo_pan hGC hw rfl hs2' q0 q1 q2) ?_)
    rintro r u' w3 ⟨v3, G3, bx3, gen3, rfl, rfl, r0, r1, r2, hs3⟩
    exact leaves_fin tab (rs := [.cell 2 26, .cell 3 3, .cell 4 29]) hbx hs2 k0 k1 k2 (sim3 hs3 r0 r1 r2) Tryd.results19 rfl rfl
end Go.Proofs.YtllkpgnpioojjaaDoor
namespace Go.Proofs.YtllkpgnpioojjaaDoor
open Go.Ab Go.Tb
set_option maxRecDepth 10000
attribute [local irreducible] W WO Pu QS QB QL QF QV QV1 CH QE
def parsed (s : ByteArray) : JV × Int × Int := if 65536 < s.size then (zeroJ, 0, 7) else match parseJ (bys s) with
 | .ok v _ => (v, 0, 0)
 | .no a w => (zeroJ, (a : Int), w)
theorem parseR_eq (s : ByteArray) : parseR s = .tup [.ag (parsed s).1.c, .d (ci (parsed s).2.1), .d (ci (parsed s).2.2)] := by
 unfold parseR parsed
 split
 · rfl
 · cases parseJ (bys s) <;> rfl
theorem parse_fn' (s : ByteArray) : Does Tryd.prog 19 [.d (.v (.string s))] (.tup [.ag (parsed s).1.c, .d (ci (parsed s).2.1), .d (ci (parsed s).2.2)]) 0 := by
 have := parse_fn s
 rwa [parseR_eq] at this
def faultS (s : ByteArray) (a e : Int) : Bool := eqJ (parsed s).1 zeroJ && (decide ((parsed s).2.1 = a) && decide ((parsed s).2.2 = e))
theorem fault_fn (s : ByteArray) (a e : Int) : Does Tryd.prog 21 [.d (.v (.string s)), .d (.v (.int .i64 a)), .d (.v (.int .i64 e))] (.d (.v (.bool (faultS s a e)))) 0 := by
 refine Does.of_W (n := 29) (ts := [6]) Tryd.func21 (by kernel_rfl) rfl Tryd.ntmps21 Tryd.results21 rfl rfl fun C hC hG => ?_
 refine W.seq (W.region ?_)
 refine pE rfl ?_
 refine WO.nil (qs (W.seq (W.region ?_)))
 refine pE rfl ?_
 refine pu (puCall rfl rfl rfl (parse_fn' s) rfl) rfl ?_
 iterate 4 refine pE rfl ?_
 refine allocR tab rfl rfl rfl ?_
 refine storeR tab rfl rfl rfl rfl rfl rfl rfl rfl ?_
 iterate 2 refine pE rfl ?_
 refine WO.nil (qs (W.seq ?_))
 apply regionB; (case hb => rfl)
 ·
  first | refine pE rfl ?_ | refine pR rfl rfl rfl rfl rfl ?_ | refine pB rfl rfl rfl rfl rfl rfl ?_
  refine pu (build tab rfl rfl rfl rfl) rfl ?_
  try refine nilO 17 rfl rfl rfl ?_
  refine pu (puCall rfl rfl rfl (rSame_fn (parsed s).1 zeroJ) rfl) rfl ?_
  refine pE rfl ?_
  apply splitJ; (case hj => rfl); (case hl => rfl)
  ·
   refine goG rfl rfl ?_
   refine pE rfl ?_
   refine goG rfl rfl ?_
   refine pE rfl ?_
   refine goG rfl rfl ?_
   iterate 3 refine pE rfl ?_
   apply splitJ; (case hj => rfl); (case hl => rfl)
   ·
    refine goG rfl rfl ?_
    refine pE rfl ?_
    refine goG rfl rfl ?_
    refine pE rfl ?_
    refine goG rfl rfl ?_
    iterate 3 refine pE rfl ?_
    refine WO.nil ?_
    refine qv1 rfl rfl rfl
   ·
    iterate 3 refine skipT rfl rfl rfl rfl ?_
    iterate 2 refine pE rfl ?_
    refine WO.nil ?_
    refine qv1 rfl rfl rfl
  ·
   iterate 3 refine skipT rfl rfl rfl rfl ?_
   iterate 2 refine pE rfl ?_
   iterate 3 refine skipT rfl rfl rfl rfl ?_
   iterate 2 refine pE rfl ?_
   refine WO.nil ?_
   refine qv1 rfl rfl rfl
 refine qs (W.ret ?_)
 refine QF.ret0 trivial rfl ?_
 unfold faultS; first | rfl | (simp only [norm, oneA, scal]; cases eqJ (parsed s).1 zeroJ <;> cases decide ((parsed s).2.1 = a) <;> rfl)
end Go.Proofs.YtllkpgnpioojjaaDoor
namespace Go.Proofs.YtllkpgnpioojjaaDoor
open Go.Ab Go.Tb
set_option maxRecDepth 10000
attribute [local irreducible] W WO Pu QS QB QL QF QV QV1 CH QE
def alistJ : JV := .mk 5 0 (B #[]) [] [.mk 1 0 (B #[]) [] [], .mk 2 1 (B #[]) [] [], .mk 3 (-3) (B #[]) [] []]
def txtJ (s : ByteArray) : JV := .mk 4 0 s [] []
def wantJ : JV := .mk 6 0 (B #[]) [B #[97], B #[98]] [alistJ, txtJ (B #[120, 9, 121])]
instance : DecidableEq (JV × Int × Int) := inferInstance
theorem aw1 : parsed (B #[32, 123, 34, 97, 34, 58, 32, 91, 110, 117, 108, 108, 44, 32, 116, 114, 117, 101, 44, 32, 45, 51, 93, 44, 32, 34, 98, 34, 58, 32, 34, 120, 92, 116, 121, 34, 125, 32]) = (wantJ, 0, 0) := by decide +kernel
theorem aw2 : checkJ wantJ 1 = 0 ∧ textOf wantJ = B #[123, 34, 97, 34, 58, 91, 110, 117, 108, 108, 44, 116, 114, 117, 101, 44, 45, 51, 93, 44, 34, 98, 34, 58, 34, 120, 92, 116, 121, 34, 125] := by decide +kernel
theorem aw3 : checkJ (txtJ (B #[34, 10, 47])) 1 = 0 ∧ textOf (txtJ (B #[34, 10, 47])) = B #[34, 92, 34, 92, 110, 47, 34] := by decide +kernel
theorem aw4 : parsed (B #[45, 48]) = (.mk 3 0 (B #[]) [] [], 0, 0) := by decide +kernel
theorem aw5 : getJ wantJ (B #[98]) = some (txtJ (B #[120, 9, 121])) ∧ getJ wantJ (B #[99]) = none := by decide +kernel
theorem aw6 : eqJ wantJ wantJ = true := by decide +kernel
theorem af0 : faultS (B #[91, 49, 44, 93]) 3 10 = true := by decide +kernel
theorem af1 : faultS (B #[91, 49]) 2 10 = true := by decide +kernel
theorem af2 : faultS (B #[48, 49]) 1 10 = true := by decide +kernel
theorem af3 : faultS (B #[]) 0 10 = true := by decide +kernel
theorem af4 : faultS (B #[34, 92, 117, 48, 48, 55, 102, 34]) 6 10 = true := by decide +kernel
theorem af5 : faultS (B #[123, 34, 97, 34, 58, 49, 44, 34, 97, 34, 58, 50, 125]) 7 4 = true := by decide +kernel
theorem af6 : faultS (B #[91, 49, 48, 48, 48, 48, 48, 48, 48, 48, 48, 48, 48, 48, 48, 48, 49, 120]) 1 2 = true := by decide +kernel
theorem af7 : faultS (B #[91, 91, 91, 91, 91, 91, 91, 91, 91, 91, 91, 91, 91, 91, 91, 91, 91]) 16 20 = true := by decide +kernel
theorem awp1 : Does Tryd.prog 19 [.d (.v (.string (B #[32, 123, 34, 97, 34, 58, 32, 91, 110, 117, 108, 108, 44, 32, 116, 114, 117, 101, 44, 32, 45, 51, 93, 44, 32, 34, 98, 34, 58, 32, 34, 120, 92, 116, 121, 34, 125, 32])))] (.tup [.ag wantJ.c, .d (ci 0), .d (ci 0)]) 0 := by
 have h := parse_fn' (B #[32, 123, 34, 97, 34, 58, 32, 91, 110, 117, 108, 108, 44, 32, 116, 114, 117, 101, 44, 32, 45, 51, 93, 44, 32, 34, 98, 34, 58, 32, 34, 120, 92, 116, 121, 34, 125, 32])
 rw [aw1] at h
 exact h
theorem awp4 : Does Tryd.prog 19 [.d (.v (.string (B #[45, 48])))] (.tup [.ag (JV.mk 3 0 (B #[]) [] []).c, .d (ci 0), .d (ci 0)]) 0 := by
 have h := parse_fn' (B #[45, 48])
 rw [aw4] at h
 exact h
theorem awp2 : Does Tryd.prog 11 [.ag wantJ.c] (.tup [.d (.v (.string (B #[123, 34, 97, 34, 58, 91, 110, 117, 108, 108, 44, 116, 114, 117, 101, 44, 45, 51, 93, 44, 34, 98, 34, 58, 34, 120, 92, 116, 121, 34, 125]))), .d (ci 0)]) 0 := by
 have h := pPrint_fn wantJ (fun _ => by decide +kernel)
 rw [aw2.1, aw2.2] at h
 exact h
theorem awp3 : Does Tryd.prog 11 [.ag (txtJ (B #[34, 10, 47])).c] (.tup [.d (.v (.string (B #[34, 92, 34, 92, 110, 47, 34]))), .d (ci 0)]) 0 := by
 have h := pPrint_fn (txtJ (B #[34, 10, 47])) (fun _ => by decide +kernel)
 rw [aw3.1, aw3.2] at h
 exact h
theorem awp5 : Does Tryd.prog 13 [.ag wantJ.c, .d (.v (.string (B #[98])))] (.tup [.ag (txtJ (B #[120, 9, 121])).c, .d (.v (.bool true))]) 0 := by
 have h := pGet_fn wantJ (B #[98])
 rw [aw5.1] at h
 exact h
theorem awp6 : Does Tryd.prog 13 [.ag wantJ.c, .d (.v (.string (B #[99])))] (.tup [.ag zeroJ.c, .d (.v (.bool false))]) 0 := by
 have h := pGet_fn wantJ (B #[99])
 rw [aw5.2] at h
 exact h
theorem awp7 : Does Tryd.prog 17 [.ag wantJ.c, .ag wantJ.c] (.d (.v (.bool true))) 0 := by
 have h := rSame_fn wantJ wantJ
 rw [aw6] at h
 exact h
theorem awp8 : Does Tryd.prog 18 [.ag wantJ.c, .ag wantJ.c] (.d (.v (.bool true))) 0 := by
 have h := pSame_fn wantJ wantJ
 rw [aw6] at h
 exact h
theorem awf0 : Does Tryd.prog 21 [.d (.v (.string (B #[91, 49, 44, 93]))), .d (.v (.int .i64 3)), .d (.v (.int .i64 10))] (.d (.v (.bool true))) 0 := by
 have h := fault_fn (B #[91, 49, 44, 93]) 3 10
 rw [af0] at h
 exact h
theorem awf1 : Does Tryd.prog 21 [.d (.v (.string (B #[91, 49]))), .d (.v (.int .i64 2)), .d (.v (.int .i64 10))] (.d (.v (.bool true))) 0 := by
 have h := fault_fn (B #[91, 49]) 2 10
 rw [af1] at h
 exact h
theorem awf2 : Does Tryd.prog 21 [.d (.v (.string (B #[48, 49]))), .d (.v (.int .i64 1)), .d (.v (.int .i64 10))] (.d (.v (.bool true))) 0 := by
 have h := fault_fn (B #[48, 49]) 1 10
 rw [af2] at h
 exact h
theorem awf3 : Does Tryd.prog 21 [.d (.v (.string (B #[]))), .d (.v (.int .i64 0)), .d (.v (.int .i64 10))] (.d (.v (.bool true))) 0 := by
 have h := fault_fn (B #[]) 0 10
 rw [af3] at h
 exact h
theorem awf4 : Does Tryd.prog 21 [.d (.v (.string (B #[34, 92, 117, 48, 48, 55, 102, 34]))), .d (.v (.int .i64 6)), .d (.v (.int .i64 10))] (.d (.v (.bool true))) 0 := by
 have h := fault_fn (B #[34, 92, 117, 48, 48, 55, 102, 34]) 6 10
 rw [af4] at h
 exact h
theorem awf5 : Does Tryd.prog 21 [.d (.v (.string (B #[123, 34, 97, 34, 58, 49, 44, 34, 97, 34, 58, 50, 125]))), .d (.v (.int .i64 7)), .d (.v (.int .i64 4))] (.d (.v (.bool true))) 0 := by
 have h := fault_fn (B #[123, 34, 97, 34, 58, 49, 44, 34, 97, 34, 58, 50, 125]) 7 4
 rw [af5] at h
 exact h
theorem awf6 : Does Tryd.prog 21 [.d (.v (.string (B #[91, 49, 48, 48, 48, 48, 48, 48, 48, 48, 48, 48, 48, 48, 48, 48, 49, 120]))), .d (.v (.int .i64 1)), .d (.v (.int .i64 2))] (.d (.v (.bool true))) 0 := by
 have h := fault_fn (B #[91, 49, 48, 48, 48, 48, 48, 48, 48, 48, 48, 48, 48, 48, 48, 48, 49, 120]) 1 2
 rw [af6] at h
 exact h
theorem awf7 : Does Tryd.prog 21 [.d (.v (.string (B #[91, 91, 91, 91, 91, 91, 91, 91, 91, 91, 91, 91, 91, 91, 91, 91, 91]))), .d (.v (.int .i64 16)), .d (.v (.int .i64 20))] (.d (.v (.bool true))) 0 := by
 have h := fault_fn (B #[91, 91, 91, 91, 91, 91, 91, 91, 91, 91, 91, 91, 91, 91, 91, 91, 91]) 16 20
 rw [af7] at h
 exact h
theorem awake_fn : Does Tryd.prog 10 [] (.d (.v (.bool true))) 0 := by
 refine Does.of_W (n := 139) (ts := [0]) Tryd.func10 (by kernel_rfl) rfl Tryd.ntmps10 Tryd.results10 rfl rfl fun C hC hG => ?_
 refine W.seq (W.region ?_)
 refine pE rfl ?_
 refine WO.nil (qs (W.seq (W.region ?_)))
 refine pu (puCall rfl rfl rfl awp1 rfl) rfl ?_
 iterate 4 refine pE rfl ?_
 refine allocR tab rfl rfl rfl ?_
 refine storeR tab rfl rfl rfl rfl rfl rfl rfl rfl ?_
 iterate 2 refine pE rfl ?_
 refine WO.nil (qs (W.seq (W.region ?_)))
 refine pu (build tab rfl rfl rfl rfl) rfl ?_
 try refine nilS 22 rfl rfl rfl ?_
 refine pu (build tab rfl rfl rfl rfl) rfl ?_
 try refine nilS 23 rfl rfl rfl ?_
 refine pu (build tab rfl rfl rfl rfl) rfl ?_
 try refine nilS 24 rfl rfl rfl ?_
 refine pu (buildV tab rfl rfl rfl rfl rfl rfl rfl rfl rfl) rfl ?_
 refine pu (build tab rfl rfl rfl rfl) rfl ?_
 try refine nilS 26 rfl rfl rfl ?_
 refine allocR tab rfl rfl rfl ?_
 refine storeR tab rfl rfl rfl rfl rfl rfl rfl rfl ?_
 refine WO.nil (qs (W.seq (W.region ?_)))
 refine pu (buildV tab rfl rfl rfl rfl rfl rfl rfl rfl rfl) rfl ?_
 first | refine pE rfl ?_ | refine pR rfl rfl rfl rfl rfl ?_ | refine pB rfl rfl rfl rfl rfl rfl ?_
 refine pu (build tab rfl rfl rfl rfl) rfl ?_
 try refine nilS 29 rfl rfl rfl ?_
 refine pu (buildV tab rfl rfl rfl rfl rfl rfl rfl rfl rfl) rfl ?_
 refine pu (build tab rfl rfl rfl rfl) rfl ?_
 try refine nilS 31 rfl rfl rfl ?_
 refine allocR tab rfl rfl rfl ?_
 refine storeR tab rfl rfl rfl rfl rfl rfl rfl rfl ?_
 refine WO.nil (qs (W.seq (W.region ?_)))
 first | refine pE rfl ?_ | refine pR rfl rfl rfl rfl rfl ?_ | refine pB rfl rfl rfl rfl rfl rfl ?_
 refine pu (puCall rfl rfl rfl awp2 rfl) rfl ?_
 iterate 5 refine pE rfl ?_
 refine WO.nil (qs (W.seq (W.region ?_)))
 refine pu (build tab rfl rfl rfl rfl) rfl ?_
 try refine nilS 38 rfl rfl rfl ?_
 refine pu (puCall rfl rfl rfl awp3 rfl) rfl ?_
 iterate 5 refine pE rfl ?_
 refine WO.nil (qs (W.seq (W.region ?_)))
 refine pu (puCall rfl rfl rfl awp4 rfl) rfl ?_
 iterate 4 refine pE rfl ?_
 refine allocR tab rfl rfl rfl ?_
 refine storeR tab rfl rfl rfl rfl rfl rfl rfl rfl ?_
 iterate 2 refine pE rfl ?_
 refine WO.nil (qs (W.seq (W.region ?_)))
 first | refine pE rfl ?_ | refine pR rfl rfl rfl rfl rfl ?_ | refine pB rfl rfl rfl rfl rfl rfl ?_
 refine pu (puCall rfl rfl rfl awp5 rfl) rfl ?_
 iterate 3 refine pE rfl ?_
 refine allocR tab rfl rfl rfl ?_
 refine storeR tab rfl rfl rfl rfl rfl rfl rfl rfl ?_
 refine pE rfl ?_
 refine WO.nil (qs (W.seq (W.region ?_)))
 first | refine pE rfl ?_ | refine pR rfl rfl rfl rfl rfl ?_ | refine pB rfl rfl rfl rfl rfl rfl ?_
 refine pu (puCall rfl rfl rfl awp6 rfl) rfl ?_
 iterate 3 refine pE rfl ?_
 refine allocR tab rfl rfl rfl ?_
 refine storeR tab rfl rfl rfl rfl rfl rfl rfl rfl ?_
 refine pE rfl ?_
 refine WO.nil (qs ?_)
 iterate 2 refine W.seq ?_
 refine W.region ?_
 first | refine pE rfl ?_ | refine pR rfl rfl rfl rfl rfl ?_ | refine pB rfl rfl rfl rfl rfl rfl ?_
 first | refine pE rfl ?_ | refine pR rfl rfl rfl rfl rfl ?_ | refine pB rfl rfl rfl rfl rfl rfl ?_
 refine pu (puCall rfl rfl rfl awp7 rfl) rfl ?_
 iterate 2 refine pE rfl ?_
 refine splitG rfl rfl (fun g61 => ?_) (fun g61 => ?_)
 ·
  exfalso
  exact absurd g61 (by decide)
 ·
  refine goG rfl rfl ?_
  first | refine pE rfl ?_ | refine pR rfl rfl rfl rfl rfl ?_ | refine pB rfl rfl rfl rfl rfl rfl ?_
  refine goG rfl rfl ?_
  first | refine pE rfl ?_ | refine pR rfl rfl rfl rfl rfl ?_ | refine pB rfl rfl rfl rfl rfl rfl ?_
  refine goG rfl rfl ?_
  refine pu (puCall rfl rfl rfl awp8 rfl) rfl ?_
  refine goG rfl rfl ?_
  iterate 3 refine pE rfl ?_
  refine splitG rfl rfl (fun g67 => ?_) (fun g67 => ?_)
  ·
   exfalso
   exact absurd g67 (by decide)
  ·
   refine goG rfl rfl ?_
   refine pE rfl ?_
   refine goG rfl rfl ?_
   iterate 3 refine pE rfl ?_
   refine splitG rfl rfl (fun g71 => ?_) (fun g71 => ?_)
   ·
    exfalso
    exact absurd g71 (by decide)
   ·
    refine goG rfl rfl ?_
    refine pE rfl ?_
    refine goG rfl rfl ?_
    iterate 3 refine pE rfl ?_
    refine splitG rfl rfl (fun g75 => ?_) (fun g75 => ?_)
    ·
     exfalso
     exact absurd g75 (by decide)
    ·
     refine goG rfl rfl ?_
     refine pE rfl ?_
     refine goG rfl rfl ?_
     iterate 3 refine pE rfl ?_
     refine splitG rfl rfl (fun g79 => ?_) (fun g79 => ?_)
     ·
      exfalso
      exact absurd g79 (by decide)
     ·
      refine goG rfl rfl ?_
      refine pE rfl ?_
      refine goG rfl rfl ?_
      iterate 3 refine pE rfl ?_
      refine splitG rfl rfl (fun g83 => ?_) (fun g83 => ?_)
      ·
       exfalso
       exact absurd g83 (by decide)
      ·
       refine goG rfl rfl ?_
       refine pE rfl ?_
       refine goG rfl rfl ?_
       iterate 3 refine pE rfl ?_
       refine splitG rfl rfl (fun g87 => ?_) (fun g87 => ?_)
       ·
        exfalso
        exact absurd g87 (by decide)
       ·
        refine goG rfl rfl ?_
        refine pE rfl ?_
        refine goG rfl rfl ?_
        iterate 3 refine pE rfl ?_
        refine splitG rfl rfl (fun g91 => ?_) (fun g91 => ?_)
        ·
         exfalso
         exact absurd g91 (by decide)
        ·
         refine goG rfl rfl ?_
         refine pE rfl ?_
         refine goG rfl rfl ?_
         iterate 3 refine pE rfl ?_
         refine splitG rfl rfl (fun g95 => ?_) (fun g95 => ?_)
         ·
          exfalso
          exact absurd g95 (by decide)
         ·
          refine goG rfl rfl ?_
          refine pE rfl ?_
          refine goG rfl rfl ?_
          first | refine pE rfl ?_ | refine pR rfl rfl rfl rfl rfl ?_ | refine pB rfl rfl rfl rfl rfl rfl ?_
          refine goG rfl rfl ?_
          iterate 3 refine pE rfl ?_
          refine splitG rfl rfl (fun g100 => ?_) (fun g100 => ?_)
          ·
           exfalso
           exact absurd g100 (by decide)
          ·
           refine goG rfl rfl ?_
           refine pE rfl ?_
           refine goG rfl rfl ?_
           first | refine pE rfl ?_ | refine pR rfl rfl rfl rfl rfl ?_ | refine pB rfl rfl rfl rfl rfl rfl ?_
           refine goG rfl rfl ?_
           iterate 3 refine pE rfl ?_
           refine splitG rfl rfl (fun g105 => ?_) (fun g105 => ?_)
           ·
            exfalso
            exact absurd g105 (by decide)
           ·
            refine goG rfl rfl ?_
            refine pE rfl ?_
            refine goG rfl rfl ?_
            iterate 3 refine pE rfl ?_
            refine splitG rfl rfl (fun g109 => ?_) (fun g109 => ?_)
            ·
             exfalso
             exact absurd g109 (by decide)
            ·
             refine goG rfl rfl ?_
             refine pE rfl ?_
             refine goG rfl rfl ?_
             first | refine pE rfl ?_ | refine pR rfl rfl rfl rfl rfl ?_ | refine pB rfl rfl rfl rfl rfl rfl ?_
             refine goG rfl rfl ?_
             iterate 3 refine pE rfl ?_
             refine splitG rfl rfl (fun g114 => ?_) (fun g114 => ?_)
             ·
              exfalso
              exact absurd g114 (by decide)
             ·
              refine goG rfl rfl ?_
              iterate 2 refine pE rfl ?_
              refine WO.nil (qs ?_)
              refine condK rfl (fun h116 => ?_) (fun h116 => ?_)
              ·
               exfalso
               exact absurd h116 (by decide)
              ·
               refine W.skip (qs (W.seq (W.region ?_)))
               refine pu (puCall rfl rfl rfl awf0 rfl) rfl ?_
               refine pE rfl ?_
               refine splitG rfl rfl (fun g118 => ?_) (fun g118 => ?_)
               ·
                refine goG rfl rfl ?_
                refine pu (puCall rfl rfl rfl awf1 rfl) rfl ?_
                iterate 2 refine pE rfl ?_
                refine splitG rfl rfl (fun g121 => ?_) (fun g121 => ?_)
                ·
                 refine goG rfl rfl ?_
                 refine pu (puCall rfl rfl rfl awf2 rfl) rfl ?_
                 iterate 2 refine pE rfl ?_
                 refine splitG rfl rfl (fun g124 => ?_) (fun g124 => ?_)
                 ·
                  refine goG rfl rfl ?_
                  refine pu (puCall rfl rfl rfl awf3 rfl) rfl ?_
                  iterate 2 refine pE rfl ?_
                  refine splitG rfl rfl (fun g127 => ?_) (fun g127 => ?_)
                  ·
                   refine goG rfl rfl ?_
                   refine pu (puCall rfl rfl rfl awf4 rfl) rfl ?_
                   iterate 2 refine pE rfl ?_
                   refine splitG rfl rfl (fun g130 => ?_) (fun g130 => ?_)
                   ·
                    refine goG rfl rfl ?_
                    refine pu (puCall rfl rfl rfl awf5 rfl) rfl ?_
                    iterate 2 refine pE rfl ?_
                    refine splitG rfl rfl (fun g133 => ?_) (fun g133 => ?_)
                    ·
                     refine goG rfl rfl ?_
                     refine pu (puCall rfl rfl rfl awf6 rfl) rfl ?_
                     iterate 2 refine pE rfl ?_
                     refine splitG rfl rfl (fun g136 => ?_) (fun g136 => ?_)
                     ·
                      refine goG rfl rfl ?_
                      refine pu (puCall rfl rfl rfl awf7 rfl) rfl ?_
                      iterate 2 refine pE rfl ?_
                      refine WO.nil (qs (W.ret ?_))
                      refine QF.ret0 trivial rfl ?_
                      rfl
                     ·
                      exfalso
                      exact absurd g136 (by decide)
                    ·
                     exfalso
                     exact absurd g133 (by decide)
                   ·
                    exfalso
                    exact absurd g130 (by decide)
                  ·
                   exfalso
                   exact absurd g127 (by decide)
                 ·
                  exfalso
                  exact absurd g124 (by decide)
                ·
                 exfalso
                 exact absurd g121 (by decide)
               ·
                exfalso
                exact absurd g118 (by decide)
end Go.Proofs.YtllkpgnpioojjaaDoor
namespace Go.Proofs.YtllkpgnpioojjaaDoor
open Go.Ab Go.Tb
set_option maxRecDepth 10000
attribute [local irreducible] W WO Pu QS QB QL QF QV QV1 CH QE
inductive FitJ : JV → Prop
 | mk (j : JV) (hs : j.s.size ≤ maxLen) (hk : j.keys.length ≤ maxLen) (hks : ∀ s ∈ j.keys, s.size ≤ maxLen) (hz : ∀ z ∈ j.kids, FitJ z) : FitJ j
theorem fif_eq {s : ByteArray} (h : s.size ≤ maxLen) : fif s = ((s.size / 50 : Nat) : Int) := by
 have e : maxLen = 9223372036854775807 := rfl
 show IntKind.i64.wrap _ = _
 rw [Int.tdiv_eq_ediv_of_nonneg (Int.natCast_nonneg _), show ((s.size : Int) / 50) = ((s.size / 50 : Nat) : Int) from rfl, wrap64 (by omega)]
theorem w64_id {n : Int} (h : -9223372036854775808 ≤ n ∧ n ≤ 9223372036854775807) : w64 n = n := wrap64 h
def keysLen : List ByteArray → Nat
 | [] => 0
 | s :: r => (quoteL (bys s)).length + 1 + keysLen r
def kidsLen : List JV → Nat
 | [] => 0
 | z :: r => (printJ z).length + 1 + kidsLen r
theorem quote_le (s : ByteArray) : (quoteL (bys s)).length ≤ 2 * s.size + 2 := by
 have h := esc_len (bys s)
 rw [bytes_len] at h
 simp only [quoteL, List.length_cons, List.length_append, List.length_nil]; omega
theorem keys_cost : ∀ (l : List ByteArray) (n : Int), (∀ s ∈ l, s.size ≤ maxLen) → n ≤ 1000 → 0 < leftKeys l n → leftKeys l n ≤ n ∧ (keysLen l : Int) ≤ 150 * (n - leftKeys l n) + 101 * l.length
 | [], n, _, _, _ => by simp [leftKeys, keysLen]
 | s :: r, n, hf, hn, h0 => by
  have e : maxLen = 9223372036854775807 := rfl
  have hs := hf s List.mem_cons_self
  by_cases q : 0 < n
  ·
   rw [leftKeys, if_pos q, fif_eq hs, w64_id (by omega)] at h0 ⊢
   obtain ⟨h1, h2⟩ := keys_cost r _ (fun x hx => hf x (List.mem_cons_of_mem _ hx)) (by omega) h0
   have hq := quote_le s
   refine ⟨by omega, ?_⟩
   simp only [keysLen, List.length_cons]
   omega
  · rw [leftKeys_le q] at h0; omega
theorem items_le : ∀ (l : List JV) (first : Bool), (itemsJ l first).length ≤ kidsLen l
 | [], _ => by simp [itemsJ, kidsLen]
 | z :: r, first => by
  have h := items_le r false
  simp only [itemsJ, kidsLen, List.length_append]
  have : (if first = true then ([] : List UInt8) else [44]).length ≤ 1 := by split <;> simp
  omega
theorem members_le : ∀ (ks : List ByteArray) (l : List JV) (first : Bool), (membersJ ks l first).length ≤ kidsLen l + keysLen ks
 | [], _, _ => by simp [membersJ]
 | _ :: _, [], _ => by simp [membersJ]
 | s :: ks, z :: r, first => by
  have h := members_le ks r false
  simp only [membersJ, kidsLen, keysLen, List.length_append, List.length_cons, List.length_nil]
  have : (if first = true then ([] : List UInt8) else [44]).length ≤ 1 := by split <;> simp
  omega
def Cost (z : JV) : Prop := ∀ (lv m : Int), checkJ z lv = 0 → FitJ z → m ≤ 1000 → 0 < m → 0 < leftJ z m → leftJ z m ≤ m ∧ ((printJ z).length : Int) + 1 ≤ 150 * (m - leftJ z m)
theorem kids_cost : ∀ (l : List JV) (lv n : Int), (∀ z ∈ l, Cost z) → (∀ z ∈ l, checkJ z lv = 0) → (∀ z ∈ l, FitJ z) → n ≤ 1000 → 0 < leftKs l n → leftKs l n ≤ n ∧ (kidsLen l : Int) ≤ 150 * (n - leftKs l n)
 | [], _, n, _, _, _, _, _ => by simp [leftKs, kidsLen]
 | z :: r, lv, n, hc, hk, hf, hn, h0 => by
  by_cases q : 0 < n
  ·
   rw [leftKs, if_pos q] at h0 ⊢
   by_cases q2 : 0 < leftJ z n
   ·
    obtain ⟨h1, h2⟩ := hc z List.mem_cons_self lv n (hk z List.mem_cons_self) (hf z List.mem_cons_self) hn q q2
    obtain ⟨h3, h4⟩ := kids_cost r lv _ (fun x hx => hc x (List.mem_cons_of_mem _ hx)) (fun x hx => hk x (List.mem_cons_of_mem _ hx)) (fun x hx => hf x (List.mem_cons_of_mem _ hx)) (by omega) h0
    refine ⟨by omega, ?_⟩
    simp only [kidsLen]
    omega
   · rw [leftKs_le q2] at h0; omega
  · rw [leftKs_le q] at h0; omega
theorem fieldsOK {j : JV} (hf : fieldsJ j = true) : (j.op ≠ 4 → j.s = B #[]) ∧ (j.op ≠ 6 → j.keys = []) ∧ (j.op < 5 → j.kids = []) := by
 unfold fieldsJ at hf
 by_cases e1 : j.op = 1
 ·
  rw [if_pos e1] at hf
  simp only [Bool.and_eq_true, decide_eq_true_eq] at hf
  exact ⟨fun _ => hf.2.1, fun _ => List.length_eq_zero_iff.1 (by omega), fun _ => List.length_eq_zero_iff.1 (by omega)⟩
 rw [if_neg e1] at hf
 by_cases e2 : j.op = 2 ∨ j.op = 3
 ·
  rw [if_pos e2] at hf
  simp only [Bool.and_eq_true, decide_eq_true_eq] at hf
  exact ⟨fun _ => hf.1, fun _ => List.length_eq_zero_iff.1 (by omega), fun _ => List.length_eq_zero_iff.1 (by omega)⟩
 rw [if_neg e2] at hf
 by_cases e4 : j.op = 4
 ·
  rw [if_pos e4] at hf
  simp only [Bool.and_eq_true, decide_eq_true_eq] at hf
  exact ⟨fun h => absurd e4 h, fun _ => List.length_eq_zero_iff.1 (by omega), fun _ => List.length_eq_zero_iff.1 (by omega)⟩
 rw [if_neg e4] at hf
 by_cases e5 : j.op = 5
 ·
  rw [if_pos e5] at hf
  simp only [Bool.and_eq_true, decide_eq_true_eq] at hf
  exact ⟨fun _ => hf.2.1, fun _ => List.length_eq_zero_iff.1 hf.2.2, fun h => by omega⟩
 rw [if_neg e5] at hf
 by_cases e6 : j.op = 6
 ·
  rw [if_pos e6] at hf
  simp only [Bool.and_eq_true, decide_eq_true_eq] at hf
  exact ⟨fun _ => hf.2.1, fun h => absurd e6 h, fun h => by omega⟩
 rw [if_neg e6] at hf
 cases hf
theorem cost : ∀ z, Cost z := by
 refine JV.ind fun j ih => ?_
 intro lv m hc hf hm hm0 h0
 have e : maxLen = 9223372036854775807 := rfl
 obtain ⟨hop, htwo, hnum, hlen6, hkids⟩ := okN hc
 cases hf with
 | mk _ hs hk hks hz =>
  have hfld : fieldsJ j = true := by
   rw [checkJ_eq] at hc
   have hn0 : nodeJ j lv = 0 := by
    by_cases q : nodeJ j lv = 0
    · exact q
    · rw [if_pos q] at hc; exact hc
   exact (nodeJ_fields hn0).1
  obtain ⟨hS, hK, hC⟩ := fieldsOK hfld
  have hz1 : j.s.size = 0 ∨ j.keys.length = 0 := by
   by_cases q : j.op = 4
   · exact .inr (by rw [hK (by omega)]; rfl)
   · exact .inl (by rw [hS q]; rfl)
  have hS0 : j.op ≠ 4 → j.s.size = 0 := fun q => by rw [hS q]; rfl
  have hn1 : w64 (w64 (w64 (m - 1) - fif j.s) - (j.keys.length : Int)) = m - 1 - ((j.s.size / 50 : Nat) : Int) - (j.keys.length : Int) := by
   rw [fif_eq hs, w64_id (n := m - 1) (by omega), w64_id (n := m - 1 - _) (by omega), w64_id (by omega)]
  rw [leftJ_eq, hn1] at h0 ⊢
  generalize hN : m - 1 - ((j.s.size / 50 : Nat) : Int) - (j.keys.length : Int) = n1 at *
  have p2 : 0 < leftKeys j.keys n1 := by
   by_cases q : 0 < leftKeys j.keys n1
   · exact q
   · rw [leftKs_le q] at h0; exact h0
  obtain ⟨k1, k2⟩ := keys_cost j.keys n1 hks (by omega) p2
  obtain ⟨k3, k4⟩ := kids_cost j.kids (lv + 1) _ ih hkids hz (by omega) h0
  refine ⟨by omega, ?_⟩
  by_cases e1 : j.op = 1
  · rw [print1 e1, show nullL.length = 4 from rfl]; omega
  by_cases e2 : j.op = 2
  ·
   rw [print2 e2]
   have : (if j.n = 1 then trueL else falseL).length ≤ 5 := by split <;> decide
   omega
  by_cases e3 : j.op = 3
  ·
   rw [print3 e3]
   have hi := hnum e3
   unfold inR at hi
   simp only [Bool.and_eq_true, decide_eq_true_eq] at hi
   have h21 := numB_size (n := j.n) (by have : (10 : Nat) ^ 20 = 100000000000000000000 := by decide
                                        omega)
   rw [bytes_len]
   omega
  by_cases e4 : j.op = 4
  ·
   rw [print4 e4]
   have h4 := quote_le j.s
   have hk0 : j.keys.length = 0 := by rw [hK (by omega)]; rfl
   omega
  have hs0 := hS0 e4
  by_cases e6 : j.op = 6
  ·
   have h6 := members_le j.keys j.kids true
   rw [print_obj e6]
   simp only [List.length_cons, List.length_append, List.length_nil]
   omega
  ·
   have h6 := items_le j.kids true
   have hk0 : j.keys = [] := hK e6
   have hk1 : j.keys.length = 0 := by rw [hk0]; rfl
   have hk2 : keysLen j.keys = 0 := by rw [hk0]; rfl
   rw [print_arr e1 e2 e3 e4 e6]
   simp only [List.length_cons, List.length_append, List.length_nil]
   omega
theorem small_size {j : JV} (hf : FitJ j) (hc : checkJ j 1 = 0) (h : smallJ j = true) : (printJ j).length ≤ 150000 := by
 have h0 : 0 < leftJ j 1000 := by simpa [smallJ] using h
 have := (cost j 1 1000 hc hf (by omega) (by omega) h0).2
 omega
end Go.Proofs.YtllkpgnpioojjaaDoor
namespace Go.Proofs.YtllkpgnpioojjaaDoor
open Go.Ab Go.Tb
set_option maxRecDepth 10000
attribute [local irreducible] W WO Pu QS QB QL QF QV QV1 CH QE
theorem conf_jvF {P : Program} {T : Tab P} {tj to ti ts tss tjs : Nat} {o1 o2 o3 o4 o5 : Nat} {n1 n2 n3 n4 n5 : String}
  (hj : kdAt T tj = .st [(o1, to, n1), (o2, ti, n2), (o3, ts, n3), (o4, tss, n4), (o5, tjs, n5)]) (ho : kdAt T to = .int .i64) (hi : kdAt T ti = .int .i64) (hs : kdAt T ts = .str) (hss : kdAt T tss = .slice ts) (hjs : kdAt T tjs = .slice tj) : ∀ (l : List D), Conf T tj l → ∃ x : JV, l = x.c ∧ FitJ x := by
 intro l
 induction hn : _root_.SizeOf.sizeOf l using Nat.strongRecOn generalizing l with
 | _ m ih =>
  intro h
  subst hn
  obtain ⟨p, q, r, s, u, rfl, h1, h2, h3, h4, h5⟩ := conf_st5 h hj
  obtain ⟨a, rfl⟩ := conf_int h1 ho
  obtain ⟨b, rfl⟩ := conf_int h2 hi
  obtain ⟨c, rfl, hc⟩ := h3.toStr hs
  obtain ⟨ks, rfl, hks, hkl⟩ := h4.toSlice hss
  have hkey : ∀ (l : List (List D)), (∀ x ∈ l, Conf T ts x) → ∃ keys : List ByteArray, l = keys.map sc ∧ ∀ s ∈ keys, s.size ≤ maxLen := by
   intro l
   induction l with
   | nil => intro _; exact ⟨[], rfl, by simp⟩
   | cons x l ihl =>
    intro hl
    obtain ⟨y, rfl, hy⟩ := (hl x List.mem_cons_self).toStr hs
    obtain ⟨keys, rfl, hk⟩ := ihl (fun z hz => hl z (List.mem_cons_of_mem _ hz))
    exact ⟨y :: keys, rfl, fun s h => by rcases List.mem_cons.1 h with rfl | h; exact hy; exact hk s h⟩
  obtain ⟨keys, rfl, hkeys⟩ := hkey ks hks
  obtain ⟨es, rfl, h6, _⟩ := h5.toSlice hjs
  have hkid : ∀ (l : List (List D)), (∀ x ∈ l, x ∈ es) → ∃ kids : List JV, l = kids.map JV.c ∧ ∀ z ∈ kids, FitJ z := by
   intro l
   induction l with
   | nil => intro _; exact ⟨[], rfl, by simp⟩
   | cons x l ihl =>
    intro hl
    have hxm := hl x List.mem_cons_self
    obtain ⟨y, hxy, hy⟩ := ih (_root_.SizeOf.sizeOf x) (by
     have := List.sizeOf_lt_of_mem hxm
     simp; omega) x rfl (h6 x hxm)
    obtain ⟨kids, hkd, hk⟩ := ihl (fun z hz => hl z (List.mem_cons_of_mem _ hz))
    exact ⟨y :: kids, by rw [hkd, hxy]; rfl, fun s h => by rcases List.mem_cons.1 h with rfl | h; exact hy; exact hk s h⟩
  obtain ⟨kids, rfl, hkf⟩ := hkid es (fun x hx => hx)
  exact ⟨.mk a b c keys kids, by simp [JV.c, JV.op, JV.n, JV.s, JV.keys, JV.kc_eq, JV.kids], FitJ.mk _ hc (by simpa [JV.keys] using hkl) hkeys hkf⟩
end Go.Proofs.YtllkpgnpioojjaaDoor
namespace Go.Proofs.YtllkpgnpioojjaaDoor
open Go.Ab Go.Tb
set_option maxRecDepth 10000
attribute [local irreducible] W WO Pu QS QB QL QF QV QV1 CH QE
theorem eqJ_refl (a : JV) : eqJ a a = true := (eqJ_iff a a).2 rfl
theorem jchecks_fn (a b : JV) (key : ByteArray) (ha : FitJ a) (_ : FitJ b) : Does Tryd.prog 3 [.ag a.c, .ag b.c, .d (.v (.string key))] (.d (.v (.bool true))) 0 := by
 refine Does.of_W (n := 93) (ts := [6]) Tryd.func3 (by kernel_rfl) rfl Tryd.ntmps3 Tryd.results3 rfl rfl fun C hC hG => ?_
 refine W.seq (W.region ?_)
 refine boxR rfl rfl rfl ?_
 refine boxR rfl rfl rfl ?_
 refine pE rfl ?_
 refine WO.nil (qs ?_)
 iterate 2 refine W.seq ?_
 apply regionB; (case hb => rfl)
 ·
  first | refine pE rfl ?_ | refine pR rfl rfl rfl rfl rfl ?_ | refine pB rfl rfl rfl rfl rfl rfl ?_
  refine pu (puCall rfl rfl rfl (small_fn a) rfl) rfl ?_
  iterate 2 refine pE rfl ?_
  apply splitJ; (case hj => rfl); (case hl => rfl)
  ·
   iterate 3 refine skipT rfl rfl rfl rfl ?_
   iterate 2 refine pE rfl ?_
   iterate 3 refine skipT rfl rfl rfl rfl ?_
   refine pE rfl ?_
   refine WO.nil ?_
   refine qv1 rfl rfl rfl
  ·
   refine goG rfl rfl ?_
   first | refine pE rfl ?_ | refine pR rfl rfl rfl rfl rfl ?_ | refine pB rfl rfl rfl rfl rfl rfl ?_
   refine goG rfl rfl ?_
   refine pu (puCall rfl rfl rfl (small_fn b) rfl) rfl ?_
   refine goG rfl rfl ?_
   iterate 3 refine pE rfl ?_
   apply splitJ; (case hj => rfl); (case hl => rfl)
   ·
    iterate 3 refine skipT rfl rfl rfl rfl ?_
    refine pE rfl ?_
    refine WO.nil ?_
    refine qv1 rfl rfl rfl
   ·
    refine goG rfl rfl ?_
    refine pE rfl ?_
    refine goG rfl rfl ?_
    refine pE rfl ?_
    refine goG rfl rfl ?_
    iterate 2 refine pE rfl ?_
    refine WO.nil ?_
    refine qv1 rfl rfl rfl
 refine qs ?_
 refine condK rfl (fun h27 => ?_) (fun h27 => ?_)
 ·
  refine W.seq (W.region ?_)
  refine pu (puCall rfl rfl rfl (awake_fn ..) rfl) rfl ?_
  refine pE rfl ?_
  refine WO.nil (qs (W.ret (qsRet ?_)))
  refine QF.ret0 trivial rfl ?_
  first | rfl | (simp [norm, oneA, eqJ_refl]; done)
 ·
  have hsa : smallJ a = true := by
   cases h : smallJ a with
   | true => rfl
   | false => rw [h] at h27; exact absurd h27 (by simp)
  have hz : checkJ a 1 = 0 → (printJ a).length ≤ 1000000000000 := fun hc => Nat.le_trans (small_size ha hc hsa) (by decide)
  refine W.skip (qs (W.seq (W.region ?_)))
  first | refine pE rfl ?_ | refine pR rfl rfl rfl rfl rfl ?_ | refine pB rfl rfl rfl rfl rfl rfl ?_
  refine pu (puCall rfl rfl rfl (pPrint_fn a hz) rfl) rfl ?_
  iterate 5 refine pE rfl ?_
  refine WO.nil (qs (W.seq (W.region ?_)))
  first | refine pE rfl ?_ | refine pR rfl rfl rfl rfl rfl ?_ | refine pB rfl rfl rfl rfl rfl rfl ?_
  refine pu (puCall rfl rfl rfl (rPrint_fn a hz) rfl) rfl ?_
  iterate 5 refine pE rfl ?_
  refine WO.nil (qs (W.seq (W.region ?_)))
  first | refine pE rfl ?_ | refine pR rfl rfl rfl rfl rfl ?_ | refine pB rfl rfl rfl rfl rfl rfl ?_
  refine pE rfl ?_
  refine pu (puCall rfl rfl rfl (pGet_fn a key) rfl) rfl ?_
  iterate 3 refine pE rfl ?_
  refine allocR tab rfl rfl rfl ?_
  refine storeR tab rfl rfl rfl rfl rfl rfl rfl rfl ?_
  refine pE rfl ?_
  refine WO.nil (qs (W.seq (W.region ?_)))
  first | refine pE rfl ?_ | refine pR rfl rfl rfl rfl rfl ?_ | refine pB rfl rfl rfl rfl rfl rfl ?_
  refine pE rfl ?_
  refine pu (puCall rfl rfl rfl (rGet_fn a key) rfl) rfl ?_
  iterate 3 refine pE rfl ?_
  refine allocR tab rfl rfl rfl ?_
  refine storeR tab rfl rfl rfl rfl rfl rfl rfl rfl ?_
  refine pE rfl ?_
  refine WO.nil (qs (W.seq ?_))
  apply regionDB tab; (case hb => rfl); (case hB => kernel_rfl)
  ·
   first | refine chPu (ev tab rfl) rfl ?_ | refine chPu (loadRow tab rfl rfl rfl rfl) rfl ?_ | refine chPu (loadBox tab rfl rfl rfl rfl rfl) rfl ?_
   refine chPu (puCall rfl rfl rfl (pCheck_fn a) rfl) rfl ?_
   first | refine chPu (ev tab rfl) rfl ?_ | refine chPu (loadRow tab rfl rfl rfl rfl) rfl ?_ | refine chPu (loadBox tab rfl rfl rfl rfl rfl) rfl ?_
   refine chPu (puCall rfl rfl rfl (rCheck_fn a) rfl) rfl ?_
   iterate 2 refine chPu (ev tab rfl) rfl ?_
   apply chSplitJ; (case hj => rfl); (case hl => rfl)
   ·
    refine chGo rfl rfl (ev tab rfl) rfl ?_
    refine chGo rfl rfl (ev tab rfl) rfl ?_
    refine chGo rfl rfl (ev tab rfl) rfl ?_
    iterate 2 refine chPu (ev tab rfl) rfl ?_
    apply chSplitJ; (case hj => rfl); (case hl => rfl)
    ·
     refine chGo rfl rfl (ev tab rfl) rfl ?_
     refine chGo rfl rfl (ev tab rfl) rfl ?_
     refine chGo rfl rfl (ev tab rfl) rfl ?_
     iterate 2 refine chPu (ev tab rfl) rfl ?_
     apply chSplitJ; (case hj => rfl); (case hl => rfl)
     ·
      first | refine chGo rfl rfl (ev tab rfl) rfl ?_ | refine chGo rfl rfl (loadRow tab rfl rfl rfl rfl) rfl ?_ | refine chGo rfl rfl (loadBox tab rfl rfl rfl rfl rfl) rfl ?_
      first | refine chGo rfl rfl (ev tab rfl) rfl ?_ | refine chGo rfl rfl (loadRow tab rfl rfl rfl rfl) rfl ?_ | refine chGo rfl rfl (loadBox tab rfl rfl rfl rfl rfl) rfl ?_
      refine chGo rfl rfl (puCall rfl rfl rfl (rSame_fn (oJ (getJ a key)) (oJ (getJ a key))) rfl) rfl ?_
      iterate 2 refine chPu (ev tab rfl) rfl ?_
      apply chSplitJ; (case hj => rfl); (case hl => rfl)
      ·
       refine chGo rfl rfl (ev tab rfl) rfl ?_
       refine chGo rfl rfl (ev tab rfl) rfl ?_
       refine chGo rfl rfl (ev tab rfl) rfl ?_
       iterate 2 refine chPu (ev tab rfl) rfl ?_
       apply chSplitJ; (case hj => rfl); (case hl => rfl)
       ·
        first | refine chGo rfl rfl (ev tab rfl) rfl ?_ | refine chGo rfl rfl (loadRow tab rfl rfl rfl rfl) rfl ?_ | refine chGo rfl rfl (loadBox tab rfl rfl rfl rfl rfl) rfl ?_
        first | refine chGo rfl rfl (ev tab rfl) rfl ?_ | refine chGo rfl rfl (loadRow tab rfl rfl rfl rfl) rfl ?_ | refine chGo rfl rfl (loadBox tab rfl rfl rfl rfl rfl) rfl ?_
        refine chGo rfl rfl (puCall rfl rfl rfl (pSame_fn a b) rfl) rfl ?_
        first | refine chGo rfl rfl (ev tab rfl) rfl ?_ | refine chGo rfl rfl (loadRow tab rfl rfl rfl rfl) rfl ?_ | refine chGo rfl rfl (loadBox tab rfl rfl rfl rfl rfl) rfl ?_
        first | refine chGo rfl rfl (ev tab rfl) rfl ?_ | refine chGo rfl rfl (loadRow tab rfl rfl rfl rfl) rfl ?_ | refine chGo rfl rfl (loadBox tab rfl rfl rfl rfl rfl) rfl ?_
        refine chGo rfl rfl (puCall rfl rfl rfl (rSame_fn a b) rfl) rfl ?_
        refine chGo rfl rfl (ev tab rfl) rfl ?_
        iterate 2 refine chPu (ev tab rfl) rfl ?_
        apply chSplitJ; (case hj => rfl); (case hl => rfl)
        ·
         first | refine chGo rfl rfl (ev tab rfl) rfl ?_ | refine chGo rfl rfl (loadRow tab rfl rfl rfl rfl) rfl ?_ | refine chGo rfl rfl (loadBox tab rfl rfl rfl rfl rfl) rfl ?_
         first | refine chGo rfl rfl (ev tab rfl) rfl ?_ | refine chGo rfl rfl (loadRow tab rfl rfl rfl rfl) rfl ?_ | refine chGo rfl rfl (loadBox tab rfl rfl rfl rfl rfl) rfl ?_
         refine chGo rfl rfl (puCall rfl rfl rfl (pSame_fn a a) rfl) rfl ?_
         iterate 2 refine chPu (ev tab rfl) rfl ?_
         apply chSplitJ; (case hj => rfl); (case hl => rfl)
         ·
          refine chGo rfl rfl (puCall rfl rfl rfl (awake_fn ..) rfl) rfl ?_
          iterate 2 refine chPu (ev tab rfl) rfl ?_
          refine CH.nil ?_
          refine qv1 rfl rfl rfl
         ·
          refine chSkip rfl rfl rfl rfl ?_
          iterate 2 refine chPu (ev tab rfl) rfl ?_
          refine CH.nil ?_
          refine qv1 rfl rfl rfl
        ·
         iterate 3 refine chSkip rfl rfl rfl rfl ?_
         iterate 2 refine chPu (ev tab rfl) rfl ?_
         refine chSkip rfl rfl rfl rfl ?_
         iterate 2 refine chPu (ev tab rfl) rfl ?_
         refine CH.nil ?_
         refine qv1 rfl rfl rfl
       ·
        iterate 7 refine chSkip rfl rfl rfl rfl ?_
        iterate 2 refine chPu (ev tab rfl) rfl ?_
        iterate 3 refine chSkip rfl rfl rfl rfl ?_
        iterate 2 refine chPu (ev tab rfl) rfl ?_
        refine chSkip rfl rfl rfl rfl ?_
        iterate 2 refine chPu (ev tab rfl) rfl ?_
        refine CH.nil ?_
        refine qv1 rfl rfl rfl
      ·
       iterate 3 refine chSkip rfl rfl rfl rfl ?_
       iterate 2 refine chPu (ev tab rfl) rfl ?_
       iterate 7 refine chSkip rfl rfl rfl rfl ?_
       iterate 2 refine chPu (ev tab rfl) rfl ?_
       iterate 3 refine chSkip rfl rfl rfl rfl ?_
       iterate 2 refine chPu (ev tab rfl) rfl ?_
       refine chSkip rfl rfl rfl rfl ?_
       iterate 2 refine chPu (ev tab rfl) rfl ?_
       refine CH.nil ?_
       refine qv1 rfl rfl rfl
     ·
      iterate 3 refine chSkip rfl rfl rfl rfl ?_
      iterate 2 refine chPu (ev tab rfl) rfl ?_
      iterate 3 refine chSkip rfl rfl rfl rfl ?_
      iterate 2 refine chPu (ev tab rfl) rfl ?_
      iterate 7 refine chSkip rfl rfl rfl rfl ?_
      iterate 2 refine chPu (ev tab rfl) rfl ?_
      iterate 3 refine chSkip rfl rfl rfl rfl ?_
      iterate 2 refine chPu (ev tab rfl) rfl ?_
      refine chSkip rfl rfl rfl rfl ?_
      iterate 2 refine chPu (ev tab rfl) rfl ?_
      refine CH.nil ?_
      refine qv1 rfl rfl rfl
    ·
     iterate 3 refine chSkip rfl rfl rfl rfl ?_
     iterate 2 refine chPu (ev tab rfl) rfl ?_
     iterate 3 refine chSkip rfl rfl rfl rfl ?_
     iterate 2 refine chPu (ev tab rfl) rfl ?_
     iterate 3 refine chSkip rfl rfl rfl rfl ?_
     iterate 2 refine chPu (ev tab rfl) rfl ?_
     iterate 7 refine chSkip rfl rfl rfl rfl ?_
     iterate 2 refine chPu (ev tab rfl) rfl ?_
     iterate 3 refine chSkip rfl rfl rfl rfl ?_
     iterate 2 refine chPu (ev tab rfl) rfl ?_
     refine chSkip rfl rfl rfl rfl ?_
     iterate 2 refine chPu (ev tab rfl) rfl ?_
     refine CH.nil ?_
     refine qv1 rfl rfl rfl
   ·
    iterate 3 refine chSkip rfl rfl rfl rfl ?_
    iterate 2 refine chPu (ev tab rfl) rfl ?_
    iterate 3 refine chSkip rfl rfl rfl rfl ?_
    iterate 2 refine chPu (ev tab rfl) rfl ?_
    iterate 3 refine chSkip rfl rfl rfl rfl ?_
    iterate 2 refine chPu (ev tab rfl) rfl ?_
    iterate 3 refine chSkip rfl rfl rfl rfl ?_
    iterate 2 refine chPu (ev tab rfl) rfl ?_
    iterate 7 refine chSkip rfl rfl rfl rfl ?_
    iterate 2 refine chPu (ev tab rfl) rfl ?_
    iterate 3 refine chSkip rfl rfl rfl rfl ?_
    iterate 2 refine chPu (ev tab rfl) rfl ?_
    refine chSkip rfl rfl rfl rfl ?_
    iterate 2 refine chPu (ev tab rfl) rfl ?_
    refine CH.nil ?_
    refine qv1 rfl rfl rfl
  refine qs (W.ret ?_)
  refine QF.ret0 trivial rfl ?_
  first | rfl | (simp [norm, oneA, eqJ_refl]; done)
end Go.Proofs.YtllkpgnpioojjaaDoor
