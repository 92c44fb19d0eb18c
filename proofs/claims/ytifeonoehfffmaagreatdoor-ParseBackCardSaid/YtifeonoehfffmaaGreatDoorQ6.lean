import Derived.Test.YtifeonoehfffmaaGreatDoorQ5
namespace Go.Proofs.YtifeonoehfffmaaGreatDoor
open Go.Ab Go.Tb
set_option maxRecDepth 10000
attribute [local irreducible] W WO Pu QS QB QL QF QV QV1 CH QE
def fewB (s : Stp) : Prop := s.items.length ≤ 100000 ∧ s.cols.length ≤ 100000 ∧ s.aggs.length ≤ 100000 ∧ s.sorts.length ≤ 100000
theorem rgroupsB_fn (s : Stp) (hf : fewB s) : Does Tryz.prog 83 [.ag s.c] (.d (.v (.int .i64 (groupsR s)))) 0 := by
 obtain ⟨hf1, hf2, hf3, hf4⟩ := hf
 refine Does.of_W (n := 83) (ts := [2]) Tryz.func83 (by kernel_rfl) rfl Tryz.ntmps83 Tryz.results83 rfl rfl fun C hC hG => ?_
 refine W.seq (W.region ?_)
 refine boxR rfl rfl rfl ?_
 refine pE rfl ?_
 refine WO.nil (qs (W.seq (W.region ?_)))
 refine pE rfl ?_
 first | refine pE rfl ?_ | refine pR rfl rfl rfl rfl rfl ?_ | refine pB rfl rfl rfl rfl rfl rfl ?_
 refine pu (puCall rfl rfl rfl (rnames_fn s.cols) rfl) rfl ?_
 refine pE rfl ?_
 refine WO.nil (qs (W.seq (W.region ?_)))
 refine buildO tab rfl rfl rfl rfl rfl rfl rfl rfl (by rfl) ?_
 refine pE rfl ?_
 first | refine pE rfl ?_ | refine pR rfl rfl rfl rfl rfl ?_ | refine pB rfl rfl rfl rfl rfl rfl ?_
 refine appendMs (l := []) (fn := sc) tab rfl rfl rfl rfl rfl rfl rfl rfl rfl rfl (fun _ => rfl) (by show (0 + s.cols.length) * 16 ≤ _; omega) ?_
 refine pE rfl ?_
 refine WO.nil (qs ?_)
 iterate 2 refine W.seq ?_
 refine W.region ?_
 refine pE rfl ?_
 refine WO.nil (qs (W.block ?_))
 have hlen : s.aggs.length ≤ maxLen := by simp [maxLen]; omega
 refine W.loopR (ι := {x : Nat × List ByteArray × Int // match x with | (k, ns, y) => k ≤ s.aggs.length ∧ (if y ≠ 0 then y else aggErr ns (s.aggs.drop k)) = groupsR s ∧ y = allErr [] ns ∧ ns.length ≤ 100000 + k})
  (fun x => match x.1 with | (k, ns, y) => [(1, .ptr 0 0), (3, .d (.v (.int .i64 (y)))), (4, .own 1 (ns.map sc)), (5, .d (.v (.int .i64 ((k : Nat) : Int))))]) []
  (fun x => match x.1 with | (k, ns, y) => []) [(0, _)] [1] 2 (fun x => match x.1 with | (k, ns, y) => s.aggs.length - k)
  [0, 2] ⟨(0, s.cols, allErr [] s.cols), ?_⟩ rfl ?_ trivial ?_ ⟨rfl, rfl, trivial⟩ rfl ?_
 · exact ⟨Nat.zero_le _, rfl, rfl, by omega⟩
 · repeat' first | exact trivial | refine ⟨rfl, ?_⟩ | refine ⟨step_nat (by assumption) (by assumption), ?_⟩
 · repeat' first | exact trivial | refine ⟨rfl, ?_⟩ | refine ⟨step_nat (by assumption) (by assumption), ?_⟩
 rintro ⟨⟨k, ns, y⟩, hk, hI, hY, hL⟩
 show W _ _ _ _ _ ⟨[(1, .ptr 0 0), (3, .d (.v (.int .i64 (y)))), (4, .own 1 (ns.map sc)), (5, .d (.v (.int .i64 ((k : Nat) : Int))))], [(0, _)], [1], 2⟩
 iterate 2 refine W.seq ?_
 apply regionB; (case hb => rfl)
 ·
  iterate 2 refine pE rfl ?_
  first | refine pE rfl ?_ | refine pR rfl rfl rfl rfl rfl ?_ | refine pB rfl rfl rfl rfl rfl rfl ?_
  iterate 3 refine pE rfl ?_
  apply splitJ; (case hj => rfl); (case hl => rfl)
  ·
   refine goG rfl rfl ?_
   refine pE rfl ?_
   refine goG rfl rfl ?_
   iterate 2 refine pE rfl ?_
   refine WO.nil ?_
   refine qv1 rfl rfl rfl
  ·
   iterate 2 refine skipT rfl rfl rfl rfl ?_
   refine pE rfl ?_
   refine WO.nil ?_
   refine qv1 rfl rfl rfl
 refine qs ?_
 refine condK rfl (fun h23 => ?_) (fun h23 => ?_)
 ·
  have h23' : k < s.aggs.length ∧ y = 0 := by revert h23; simp only [List.length_map]; by_cases q : (k : Int) < s.aggs.length <;> simp [q]; omega
  obtain ⟨hlt, rfl⟩ := h23'
  obtain ⟨a, hx, hd⟩ := exAt hlt
  rw [hd, if_neg (by decide)] at hI
  simp only [aggErr] at hI
  have hA : allErr [] (ns ++ [a.name]) = addErr ns a.name := allErr_append [] ns a.name hY.symm
  refine W.skip (qs (W.seq (W.block (W.seq (W.region ?_)))))
  refine pE rfl ?_
  first | refine pE rfl ?_ | refine pR rfl rfl rfl rfl rfl ?_ | refine pB rfl rfl rfl rfl rfl rfl ?_
  refine pE rfl ?_
  refine pu (indexAddr tab rfl rfl rfl rfl rfl rfl (Int.natCast_nonneg _) (idx_map hx) rfl) rfl ?_
  first | refine pE rfl ?_ | refine pR rfl rfl rfl rfl rfl ?_ | refine pB rfl rfl rfl rfl rfl rfl ?_
  refine allocR tab rfl rfl rfl ?_
  refine storeR tab rfl rfl rfl rfl rfl rfl rfl rfl ?_
  refine WO.nil (qs (W.seq ?_))
  apply regionB; (case hb => rfl)
  ·
   refine pE rfl ?_
   first | refine pE rfl ?_ | refine pR rfl rfl rfl rfl rfl ?_ | refine pB rfl rfl rfl rfl rfl rfl ?_
   iterate 2 refine pE rfl ?_
   apply splitJ; (case hj => rfl); (case hl => rfl)
   ·
    iterate 3 refine skipT rfl rfl rfl rfl ?_
    iterate 2 refine pE rfl ?_
    iterate 3 refine skipT rfl rfl rfl rfl ?_
    iterate 2 refine pE rfl ?_
    iterate 3 refine skipT rfl rfl rfl rfl ?_
    iterate 2 refine pE rfl ?_
    refine WO.nil ?_
    refine qv1 rfl rfl rfl
   ·
    refine goG rfl rfl ?_
    refine pE rfl ?_
    refine goG rfl rfl ?_
    first | refine pE rfl ?_ | refine pR rfl rfl rfl rfl rfl ?_ | refine pB rfl rfl rfl rfl rfl rfl ?_
    refine goG rfl rfl ?_
    iterate 3 refine pE rfl ?_
    apply splitJ; (case hj => rfl); (case hl => rfl)
    ·
     iterate 3 refine skipT rfl rfl rfl rfl ?_
     iterate 2 refine pE rfl ?_
     iterate 3 refine skipT rfl rfl rfl rfl ?_
     iterate 2 refine pE rfl ?_
     refine WO.nil ?_
     refine qv1 rfl rfl rfl
    ·
     refine goG rfl rfl ?_
     refine pE rfl ?_
     refine goG rfl rfl ?_
     first | refine pE rfl ?_ | refine pR rfl rfl rfl rfl rfl ?_ | refine pB rfl rfl rfl rfl rfl rfl ?_
     refine goG rfl rfl ?_
     iterate 3 refine pE rfl ?_
     apply splitJ; (case hj => rfl); (case hl => rfl)
     ·
      iterate 3 refine skipT rfl rfl rfl rfl ?_
      iterate 2 refine pE rfl ?_
      refine WO.nil ?_
      refine qv1 rfl rfl rfl
     ·
      refine goG rfl rfl ?_
      refine pE rfl ?_
      refine goG rfl rfl ?_
      first | refine pE rfl ?_ | refine pR rfl rfl rfl rfl rfl ?_ | refine pB rfl rfl rfl rfl rfl rfl ?_
      refine goG rfl rfl ?_
      iterate 3 refine pE rfl ?_
      refine WO.nil ?_
      refine qv1 rfl rfl rfl
  refine qs ?_
  iterate 2 refine W.seq ?_
  apply regionB; (case hb => rfl)
  ·
   refine pE rfl ?_
   first | refine pE rfl ?_ | refine pR rfl rfl rfl rfl rfl ?_ | refine pB rfl rfl rfl rfl rfl rfl ?_
   iterate 2 refine pE rfl ?_
   apply splitJ; (case hj => rfl); (case hl => rfl)
   ·
    iterate 3 refine skipT rfl rfl rfl rfl ?_
    iterate 2 refine pE rfl ?_
    refine goG rfl rfl ?_
    refine pE rfl ?_
    refine goG rfl rfl ?_
    refine pE rfl ?_
    refine goG rfl rfl ?_
    refine pE rfl ?_
    apply splitJ; (case hj => rfl); (case hl => rfl)
    ·
     iterate 3 refine skipT rfl rfl rfl rfl ?_
     refine goG rfl rfl ?_
     iterate 2 refine pE rfl ?_
     refine WO.nil ?_
     refine qv1 rfl rfl rfl
    ·
     refine goG rfl rfl ?_
     refine pE rfl ?_
     refine goG rfl rfl ?_
     first | refine pE rfl ?_ | refine pR rfl rfl rfl rfl rfl ?_ | refine pB rfl rfl rfl rfl rfl rfl ?_
     refine goG rfl rfl ?_
     refine pE rfl ?_
     refine goG rfl rfl ?_
     iterate 2 refine pE rfl ?_
     refine WO.nil ?_
     refine qv1 rfl rfl rfl
   ·
    refine goG rfl rfl ?_
    refine pE rfl ?_
    refine goG rfl rfl ?_
    first | refine pE rfl ?_ | refine pR rfl rfl rfl rfl rfl ?_ | refine pB rfl rfl rfl rfl rfl rfl ?_
    refine goG rfl rfl ?_
    iterate 3 refine pE rfl ?_
    apply splitJ; (case hj => rfl); (case hl => rfl)
    ·
     refine goG rfl rfl ?_
     refine pE rfl ?_
     refine goG rfl rfl ?_
     refine pE rfl ?_
     refine goG rfl rfl ?_
     refine pE rfl ?_
     apply splitJ; (case hj => rfl); (case hl => rfl)
     ·
      iterate 3 refine skipT rfl rfl rfl rfl ?_
      refine goG rfl rfl ?_
      iterate 2 refine pE rfl ?_
      refine WO.nil ?_
      refine qv1 rfl rfl rfl
     ·
      refine goG rfl rfl ?_
      refine pE rfl ?_
      refine goG rfl rfl ?_
      first | refine pE rfl ?_ | refine pR rfl rfl rfl rfl rfl ?_ | refine pB rfl rfl rfl rfl rfl rfl ?_
      refine goG rfl rfl ?_
      refine pE rfl ?_
      refine goG rfl rfl ?_
      iterate 2 refine pE rfl ?_
      refine WO.nil ?_
      refine qv1 rfl rfl rfl
    ·
     iterate 3 refine skipT rfl rfl rfl rfl ?_
     iterate 3 refine skipU rfl rfl rfl ?_
     refine skipT rfl rfl rfl rfl ?_
     refine pE rfl ?_
     refine WO.nil ?_
     refine qv1 rfl rfl rfl
  refine qs ?_
  refine condK rfl (fun h65 => ?_) (fun h65 => ?_)
  ·
   have h65 : badAgg a = true := by revert h65; simp only [badAgg, knownAgg, wCount, wSum, wMin, wMax, wFirst]; by_cases q : a.fn = B #[99, 111, 117, 110, 116] <;> by_cases q2 : a.col = B #[] <;> simp [q, q2] <;> grind
   rw [if_pos h65] at hI
   refine W.seq (W.region ?_)
   refine pE rfl ?_
   refine WO.nil (qs (W.ret (qsRet (qbRet (qsRet (qlRet (qbRet (qsRet ?_))))))))
   refine QF.ret0 trivial rfl ?_
   rw [← hI]; rfl
  ·
   have h65 : ¬ (badAgg a = true) := by revert h65; simp only [badAgg, knownAgg, wCount, wSum, wMin, wMax, wFirst]; by_cases q : a.fn = B #[99, 111, 117, 110, 116] <;> by_cases q2 : a.col = B #[] <;> simp [q, q2] <;> grind
   rw [if_neg h65] at hI
   refine W.skip (qs ?_)
   iterate 2 refine W.seq ?_
   apply regionB; (case hb => rfl)
   ·
    refine pE rfl ?_
    first | refine pE rfl ?_ | refine pR rfl rfl rfl rfl rfl ?_ | refine pB rfl rfl rfl rfl rfl rfl ?_
    iterate 2 refine pE rfl ?_
    apply splitJ; (case hj => rfl); (case hl => rfl)
    ·
     refine goG rfl rfl ?_
     refine pE rfl ?_
     refine goG rfl rfl ?_
     first | refine pE rfl ?_ | refine pR rfl rfl rfl rfl rfl ?_ | refine pB rfl rfl rfl rfl rfl rfl ?_
     refine goG rfl rfl ?_
     refine pu (puCall rfl rfl rfl (ident_fn ..) rfl) rfl ?_
     refine goG rfl rfl ?_
     iterate 2 refine pE rfl ?_
     refine WO.nil ?_
     refine qv1 rfl rfl rfl
    ·
     iterate 4 refine skipT rfl rfl rfl rfl ?_
     refine pE rfl ?_
     refine WO.nil ?_
     refine qv1 rfl rfl rfl
   refine qs ?_
   refine condK rfl (fun h74 => ?_) (fun h74 => ?_)
   ·
    have h74 : a.col ≠ B #[] ∧ identB a.col = false := by revert h74; by_cases q2 : a.col = B #[] <;> simp [q2]
    rw [if_pos h74] at hI
    refine W.seq (W.region ?_)
    refine pE rfl ?_
    refine WO.nil (qs (W.ret (qsRet (qbRet (qsRet (qlRet (qbRet (qsRet ?_))))))))
    refine QF.ret0 trivial rfl ?_
    rw [← hI]; rfl
   ·
    have h74 : ¬ (a.col ≠ B #[] ∧ identB a.col = false) := by revert h74; by_cases q2 : a.col = B #[] <;> simp [q2]
    rw [if_neg h74] at hI
    refine W.skip (qs (W.seq (W.region ?_)))
    iterate 2 refine pE rfl ?_
    first | refine pE rfl ?_ | refine pR rfl rfl rfl rfl rfl ?_ | refine pB rfl rfl rfl rfl rfl rfl ?_
    refine pu (buildV tab rfl rfl rfl rfl rfl rfl rfl rfl rfl) rfl ?_
    refine appendM (a := a.name) tab rfl rfl rfl rfl rfl rfl rfl rfl rfl rfl (fun _ => rfl) (by show (ns.length + 1) * 16 ≤ _; omega) ?_
    refine pE rfl ?_
    refine WO.nil (qs (W.region ?_))
    refine pE rfl ?_
    refine pu (puCall rfl rfl rfl (rnames_fn (ns ++ [a.name])) rfl) rfl ?_
    refine pE rfl ?_
    refine WO.nil (qbN (qs (W.region ?_)))
    iterate 3 refine pE rfl ?_
    refine WO.nil ?_
    refine W.endR [0, 3] ⟨(k + 1, ns ++ [a.name], allErr [] (ns ++ [a.name])), ?_⟩ ?_ rfl ?_ trivial ?_ ⟨rfl, rfl, trivial⟩ rfl
    ·
     refine ⟨hlt, ?_, rfl, by simp; omega⟩
     simp only [hA]
     exact hI
    · dsimp only; omega
    · repeat' first | exact trivial | refine ⟨rfl, ?_⟩ | refine ⟨step_nat (by assumption) (by assumption), ?_⟩
    · repeat' first | exact trivial | refine ⟨rfl, ?_⟩ | refine ⟨step_nat (by assumption) (by assumption), ?_⟩
 ·
  have h23' : k < s.aggs.length → y ≠ 0 := by
   intro hk2 hy
   have hk3 : (k : Int) < s.aggs.length := by omega
   simp [hk3, hy] at h23
  have hR : groupsR s = y := by
   rw [← hI]
   by_cases hy : y = 0
   ·
    have hk2 : ¬ k < s.aggs.length := fun h => h23' h hy
    rw [if_neg (by simp [hy]), dropEnd (by omega)]
    simp [aggErr, hy]
   · rw [if_pos hy]
  refine W.exit (qsExit (qlExit (qbExit (qs (W.seq (W.region ?_))))))
  iterate 2 refine pE rfl ?_
  refine WO.nil (qs (W.ret ?_))
  refine QF.ret0 trivial rfl ?_
  rw [hR]; rfl
theorem wrap_sum {a b : Nat} (ha : a ≤ maxLen) (hb : b ≤ maxLen) : (IntKind.i64.wrap ((a : Int) + (b : Int)) = 0) ↔ a + b = 0 := by
 simp only [maxLen] at ha hb
 have e : IntKind.i64.wrap ((a : Int) + (b : Int)) = if (9223372036854775808 : Int) ≤ ((a : Int) + (b : Int)) % 18446744073709551616 then ((a : Int) + (b : Int)) % 18446744073709551616 - 18446744073709551616 else ((a : Int) + (b : Int)) % 18446744073709551616 := by
  simp [IntKind.wrap, IntKind.signed, IntKind.bits]
 rw [e]
 split <;> omega
theorem rsizesB_fn (s : Stp) : Does Tryz.prog 81 [.ag s.c] (.d (.v (.int .i64 (sizesE s)))) 0 := by
 refine Does.of_W (n := 73) (ts := [2]) Tryz.func81 (by kernel_rfl) rfl Tryz.ntmps81 Tryz.results81 rfl rfl fun C hC hG => ?_
 refine W.seq (W.region ?_)
 refine boxR rfl rfl rfl ?_
 refine pE rfl ?_
 refine WO.nil (qs (W.seq ?_))
 refine lenBox (g := 0) (j := 8) rfl rfl (fun hl1 => ?_)
 refine lenBox (g := 0) (j := 9) rfl rfl (fun hl2 => ?_)
 have hw := wrap_sum (a := s.cols.length) (b := s.aggs.length) (by simpa using hl1) (by simpa using hl2)
 apply regionB; (case hb => rfl)
 ·
  refine pE rfl ?_
  first | refine pE rfl ?_ | refine pR rfl rfl rfl rfl rfl ?_ | refine pB rfl rfl rfl rfl rfl rfl ?_
  iterate 2 refine pE rfl ?_
  apply splitJ; (case hj => rfl); (case hl => rfl)
  ·
   refine goG rfl rfl ?_
   refine pE rfl ?_
   refine goG rfl rfl ?_
   first | refine pE rfl ?_ | refine pR rfl rfl rfl rfl rfl ?_ | refine pB rfl rfl rfl rfl rfl rfl ?_
   refine goG rfl rfl ?_
   refine pE rfl ?_
   refine goG rfl rfl ?_
   iterate 3 refine pE rfl ?_
   apply splitJ; (case hj => rfl); (case hl => rfl)
   ·
    iterate 4 refine skipT rfl rfl rfl rfl ?_
    iterate 8 refine skipU rfl rfl rfl ?_
    refine skipT rfl rfl rfl rfl ?_
    iterate 2 refine pE rfl ?_
    iterate 4 refine skipT rfl rfl rfl rfl ?_
    iterate 4 refine skipU rfl rfl rfl ?_
    refine skipT rfl rfl rfl rfl ?_
    iterate 2 refine pE rfl ?_
    iterate 4 refine skipT rfl rfl rfl rfl ?_
    iterate 4 refine skipU rfl rfl rfl ?_
    refine skipT rfl rfl rfl rfl ?_
    iterate 2 refine pE rfl ?_
    refine WO.nil ?_
    refine qv1 rfl rfl rfl
   ·
    refine goG rfl rfl ?_
    refine pE rfl ?_
    refine goG rfl rfl ?_
    first | refine pE rfl ?_ | refine pR rfl rfl rfl rfl rfl ?_ | refine pB rfl rfl rfl rfl rfl rfl ?_
    refine goG rfl rfl ?_
    refine pE rfl ?_
    refine goG rfl rfl ?_
    refine pE rfl ?_
    apply splitJ; (case hj => rfl); (case hl => rfl)
    ·
     refine goG rfl rfl ?_
     refine pE rfl ?_
     refine goG rfl rfl ?_
     first | refine pE rfl ?_ | refine pR rfl rfl rfl rfl rfl ?_ | refine pB rfl rfl rfl rfl rfl rfl ?_
     refine goG rfl rfl ?_
     refine pE rfl ?_
     refine goG rfl rfl ?_
     refine pE rfl ?_
     refine goG rfl rfl ?_
     first | refine pE rfl ?_ | refine pR rfl rfl rfl rfl rfl ?_ | refine pB rfl rfl rfl rfl rfl rfl ?_
     refine goG rfl rfl ?_
     refine pE rfl ?_
     refine goG rfl rfl ?_
     refine pE rfl ?_
     refine goG rfl rfl ?_
     refine pE rfl ?_
     refine goG rfl rfl ?_
     iterate 3 refine pE rfl ?_
     apply splitJ; (case hj => rfl); (case hl => rfl)
     ·
      iterate 4 refine skipT rfl rfl rfl rfl ?_
      iterate 4 refine skipU rfl rfl rfl ?_
      refine skipT rfl rfl rfl rfl ?_
      iterate 2 refine pE rfl ?_
      iterate 4 refine skipT rfl rfl rfl rfl ?_
      iterate 4 refine skipU rfl rfl rfl ?_
      refine skipT rfl rfl rfl rfl ?_
      iterate 2 refine pE rfl ?_
      refine WO.nil ?_
      refine qv1 rfl rfl rfl
     ·
      refine goG rfl rfl ?_
      refine pE rfl ?_
      refine goG rfl rfl ?_
      first | refine pE rfl ?_ | refine pR rfl rfl rfl rfl rfl ?_ | refine pB rfl rfl rfl rfl rfl rfl ?_
      refine goG rfl rfl ?_
      refine pE rfl ?_
      refine goG rfl rfl ?_
      refine pE rfl ?_
      apply splitJ; (case hj => rfl); (case hl => rfl)
      ·
       refine goG rfl rfl ?_
       refine pE rfl ?_
       refine goG rfl rfl ?_
       first | refine pE rfl ?_ | refine pR rfl rfl rfl rfl rfl ?_ | refine pB rfl rfl rfl rfl rfl rfl ?_
       refine goG rfl rfl ?_
       refine pE rfl ?_
       refine goG rfl rfl ?_
       refine pE rfl ?_
       refine goG rfl rfl ?_
       iterate 3 refine pE rfl ?_
       apply splitJ; (case hj => rfl); (case hl => rfl)
       ·
        iterate 4 refine skipT rfl rfl rfl rfl ?_
        iterate 4 refine skipU rfl rfl rfl ?_
        refine skipT rfl rfl rfl rfl ?_
        iterate 2 refine pE rfl ?_
        refine WO.nil ?_
        refine qv1 rfl rfl rfl
       ·
        refine goG rfl rfl ?_
        refine pE rfl ?_
        refine goG rfl rfl ?_
        first | refine pE rfl ?_ | refine pR rfl rfl rfl rfl rfl ?_ | refine pB rfl rfl rfl rfl rfl rfl ?_
        refine goG rfl rfl ?_
        refine pE rfl ?_
        refine goG rfl rfl ?_
        refine pE rfl ?_
        apply splitJ; (case hj => rfl); (case hl => rfl)
        ·
         refine goG rfl rfl ?_
         refine pE rfl ?_
         refine goG rfl rfl ?_
         first | refine pE rfl ?_ | refine pR rfl rfl rfl rfl rfl ?_ | refine pB rfl rfl rfl rfl rfl rfl ?_
         refine goG rfl rfl ?_
         refine pE rfl ?_
         refine goG rfl rfl ?_
         refine pE rfl ?_
         refine goG rfl rfl ?_
         iterate 3 refine pE rfl ?_
         refine WO.nil ?_
         refine qv1 rfl rfl rfl
        ·
         iterate 4 refine skipT rfl rfl rfl rfl ?_
         refine goG rfl rfl ?_
         iterate 3 refine pE rfl ?_
         refine WO.nil ?_
         refine qv1 rfl rfl rfl
      ·
       iterate 4 refine skipT rfl rfl rfl rfl ?_
       refine goG rfl rfl ?_
       iterate 3 refine pE rfl ?_
       refine goG rfl rfl ?_
       refine pE rfl ?_
       refine goG rfl rfl ?_
       first | refine pE rfl ?_ | refine pR rfl rfl rfl rfl rfl ?_ | refine pB rfl rfl rfl rfl rfl rfl ?_
       refine goG rfl rfl ?_
       refine pE rfl ?_
       refine goG rfl rfl ?_
       refine pE rfl ?_
       apply splitJ; (case hj => rfl); (case hl => rfl)
       ·
        refine goG rfl rfl ?_
        refine pE rfl ?_
        refine goG rfl rfl ?_
        first | refine pE rfl ?_ | refine pR rfl rfl rfl rfl rfl ?_ | refine pB rfl rfl rfl rfl rfl rfl ?_
        refine goG rfl rfl ?_
        refine pE rfl ?_
        refine goG rfl rfl ?_
        refine pE rfl ?_
        refine goG rfl rfl ?_
        iterate 3 refine pE rfl ?_
        refine WO.nil ?_
        refine qv1 rfl rfl rfl
       ·
        iterate 4 refine skipT rfl rfl rfl rfl ?_
        refine goG rfl rfl ?_
        iterate 3 refine pE rfl ?_
        refine WO.nil ?_
        refine qv1 rfl rfl rfl
    ·
     iterate 8 refine skipT rfl rfl rfl rfl ?_
     refine goG rfl rfl ?_
     iterate 3 refine pE rfl ?_
     refine goG rfl rfl ?_
     refine pE rfl ?_
     refine goG rfl rfl ?_
     first | refine pE rfl ?_ | refine pR rfl rfl rfl rfl rfl ?_ | refine pB rfl rfl rfl rfl rfl rfl ?_
     refine goG rfl rfl ?_
     refine pE rfl ?_
     refine goG rfl rfl ?_
     refine pE rfl ?_
     apply splitJ; (case hj => rfl); (case hl => rfl)
     ·
      refine goG rfl rfl ?_
      refine pE rfl ?_
      refine goG rfl rfl ?_
      first | refine pE rfl ?_ | refine pR rfl rfl rfl rfl rfl ?_ | refine pB rfl rfl rfl rfl rfl rfl ?_
      refine goG rfl rfl ?_
      refine pE rfl ?_
      refine goG rfl rfl ?_
      refine pE rfl ?_
      refine goG rfl rfl ?_
      iterate 3 refine pE rfl ?_
      apply splitJ; (case hj => rfl); (case hl => rfl)
      ·
       iterate 4 refine skipT rfl rfl rfl rfl ?_
       iterate 4 refine skipU rfl rfl rfl ?_
       refine skipT rfl rfl rfl rfl ?_
       iterate 2 refine pE rfl ?_
       refine WO.nil ?_
       refine qv1 rfl rfl rfl
      ·
       refine goG rfl rfl ?_
       refine pE rfl ?_
       refine goG rfl rfl ?_
       first | refine pE rfl ?_ | refine pR rfl rfl rfl rfl rfl ?_ | refine pB rfl rfl rfl rfl rfl rfl ?_
       refine goG rfl rfl ?_
       refine pE rfl ?_
       refine goG rfl rfl ?_
       refine pE rfl ?_
       apply splitJ; (case hj => rfl); (case hl => rfl)
       ·
        refine goG rfl rfl ?_
        refine pE rfl ?_
        refine goG rfl rfl ?_
        first | refine pE rfl ?_ | refine pR rfl rfl rfl rfl rfl ?_ | refine pB rfl rfl rfl rfl rfl rfl ?_
        refine goG rfl rfl ?_
        refine pE rfl ?_
        refine goG rfl rfl ?_
        refine pE rfl ?_
        refine goG rfl rfl ?_
        iterate 3 refine pE rfl ?_
        refine WO.nil ?_
        refine qv1 rfl rfl rfl
       ·
        iterate 4 refine skipT rfl rfl rfl rfl ?_
        refine goG rfl rfl ?_
        iterate 3 refine pE rfl ?_
        refine WO.nil ?_
        refine qv1 rfl rfl rfl
     ·
      iterate 4 refine skipT rfl rfl rfl rfl ?_
      refine goG rfl rfl ?_
      iterate 3 refine pE rfl ?_
      refine goG rfl rfl ?_
      refine pE rfl ?_
      refine goG rfl rfl ?_
      first | refine pE rfl ?_ | refine pR rfl rfl rfl rfl rfl ?_ | refine pB rfl rfl rfl rfl rfl rfl ?_
      refine goG rfl rfl ?_
      refine pE rfl ?_
      refine goG rfl rfl ?_
      refine pE rfl ?_
      apply splitJ; (case hj => rfl); (case hl => rfl)
      ·
       refine goG rfl rfl ?_
       refine pE rfl ?_
       refine goG rfl rfl ?_
       first | refine pE rfl ?_ | refine pR rfl rfl rfl rfl rfl ?_ | refine pB rfl rfl rfl rfl rfl rfl ?_
       refine goG rfl rfl ?_
       refine pE rfl ?_
       refine goG rfl rfl ?_
       refine pE rfl ?_
       refine goG rfl rfl ?_
       iterate 3 refine pE rfl ?_
       refine WO.nil ?_
       refine qv1 rfl rfl rfl
      ·
       iterate 4 refine skipT rfl rfl rfl rfl ?_
       refine goG rfl rfl ?_
       iterate 3 refine pE rfl ?_
       refine WO.nil ?_
       refine qv1 rfl rfl rfl
  ·
   iterate 4 refine skipT rfl rfl rfl rfl ?_
   iterate 2 refine pE rfl ?_
   refine goG rfl rfl ?_
   refine pE rfl ?_
   refine goG rfl rfl ?_
   first | refine pE rfl ?_ | refine pR rfl rfl rfl rfl rfl ?_ | refine pB rfl rfl rfl rfl rfl rfl ?_
   refine goG rfl rfl ?_
   refine pE rfl ?_
   refine goG rfl rfl ?_
   refine pE rfl ?_
   apply splitJ; (case hj => rfl); (case hl => rfl)
   ·
    refine goG rfl rfl ?_
    refine pE rfl ?_
    refine goG rfl rfl ?_
    first | refine pE rfl ?_ | refine pR rfl rfl rfl rfl rfl ?_ | refine pB rfl rfl rfl rfl rfl rfl ?_
    refine goG rfl rfl ?_
    refine pE rfl ?_
    refine goG rfl rfl ?_
    refine pE rfl ?_
    refine goG rfl rfl ?_
    first | refine pE rfl ?_ | refine pR rfl rfl rfl rfl rfl ?_ | refine pB rfl rfl rfl rfl rfl rfl ?_
    refine goG rfl rfl ?_
    refine pE rfl ?_
    refine goG rfl rfl ?_
    refine pE rfl ?_
    refine goG rfl rfl ?_
    refine pE rfl ?_
    refine goG rfl rfl ?_
    iterate 3 refine pE rfl ?_
    apply splitJ; (case hj => rfl); (case hl => rfl)
    ·
     iterate 4 refine skipT rfl rfl rfl rfl ?_
     iterate 4 refine skipU rfl rfl rfl ?_
     refine skipT rfl rfl rfl rfl ?_
     iterate 2 refine pE rfl ?_
     iterate 4 refine skipT rfl rfl rfl rfl ?_
     iterate 4 refine skipU rfl rfl rfl ?_
     refine skipT rfl rfl rfl rfl ?_
     iterate 2 refine pE rfl ?_
     refine WO.nil ?_
     refine qv1 rfl rfl rfl
    ·
     refine goG rfl rfl ?_
     refine pE rfl ?_
     refine goG rfl rfl ?_
     first | refine pE rfl ?_ | refine pR rfl rfl rfl rfl rfl ?_ | refine pB rfl rfl rfl rfl rfl rfl ?_
     refine goG rfl rfl ?_
     refine pE rfl ?_
     refine goG rfl rfl ?_
     refine pE rfl ?_
     apply splitJ; (case hj => rfl); (case hl => rfl)
     ·
      refine goG rfl rfl ?_
      refine pE rfl ?_
      refine goG rfl rfl ?_
      first | refine pE rfl ?_ | refine pR rfl rfl rfl rfl rfl ?_ | refine pB rfl rfl rfl rfl rfl rfl ?_
      refine goG rfl rfl ?_
      refine pE rfl ?_
      refine goG rfl rfl ?_
      refine pE rfl ?_
      refine goG rfl rfl ?_
      iterate 3 refine pE rfl ?_
      apply splitJ; (case hj => rfl); (case hl => rfl)
      ·
       iterate 4 refine skipT rfl rfl rfl rfl ?_
       iterate 4 refine skipU rfl rfl rfl ?_
       refine skipT rfl rfl rfl rfl ?_
       iterate 2 refine pE rfl ?_
       refine WO.nil ?_
       refine qv1 rfl rfl rfl
      ·
       refine goG rfl rfl ?_
       refine pE rfl ?_
       refine goG rfl rfl ?_
       first | refine pE rfl ?_ | refine pR rfl rfl rfl rfl rfl ?_ | refine pB rfl rfl rfl rfl rfl rfl ?_
       refine goG rfl rfl ?_
       refine pE rfl ?_
       refine goG rfl rfl ?_
       refine pE rfl ?_
       apply splitJ; (case hj => rfl); (case hl => rfl)
       ·
        refine goG rfl rfl ?_
        refine pE rfl ?_
        refine goG rfl rfl ?_
        first | refine pE rfl ?_ | refine pR rfl rfl rfl rfl rfl ?_ | refine pB rfl rfl rfl rfl rfl rfl ?_
        refine goG rfl rfl ?_
        refine pE rfl ?_
        refine goG rfl rfl ?_
        refine pE rfl ?_
        refine goG rfl rfl ?_
        iterate 3 refine pE rfl ?_
        refine WO.nil ?_
        refine qv1 rfl rfl rfl
       ·
        iterate 4 refine skipT rfl rfl rfl rfl ?_
        refine goG rfl rfl ?_
        iterate 3 refine pE rfl ?_
        refine WO.nil ?_
        refine qv1 rfl rfl rfl
     ·
      iterate 4 refine skipT rfl rfl rfl rfl ?_
      refine goG rfl rfl ?_
      iterate 3 refine pE rfl ?_
      refine goG rfl rfl ?_
      refine pE rfl ?_
      refine goG rfl rfl ?_
      first | refine pE rfl ?_ | refine pR rfl rfl rfl rfl rfl ?_ | refine pB rfl rfl rfl rfl rfl rfl ?_
      refine goG rfl rfl ?_
      refine pE rfl ?_
      refine goG rfl rfl ?_
      refine pE rfl ?_
      apply splitJ; (case hj => rfl); (case hl => rfl)
      ·
       refine goG rfl rfl ?_
       refine pE rfl ?_
       refine goG rfl rfl ?_
       first | refine pE rfl ?_ | refine pR rfl rfl rfl rfl rfl ?_ | refine pB rfl rfl rfl rfl rfl rfl ?_
       refine goG rfl rfl ?_
       refine pE rfl ?_
       refine goG rfl rfl ?_
       refine pE rfl ?_
       refine goG rfl rfl ?_
       iterate 3 refine pE rfl ?_
       refine WO.nil ?_
       refine qv1 rfl rfl rfl
      ·
       iterate 4 refine skipT rfl rfl rfl rfl ?_
       refine goG rfl rfl ?_
       iterate 3 refine pE rfl ?_
       refine WO.nil ?_
       refine qv1 rfl rfl rfl
   ·
    iterate 8 refine skipT rfl rfl rfl rfl ?_
    refine goG rfl rfl ?_
    iterate 3 refine pE rfl ?_
    refine goG rfl rfl ?_
    refine pE rfl ?_
    refine goG rfl rfl ?_
    first | refine pE rfl ?_ | refine pR rfl rfl rfl rfl rfl ?_ | refine pB rfl rfl rfl rfl rfl rfl ?_
    refine goG rfl rfl ?_
    refine pE rfl ?_
    refine goG rfl rfl ?_
    refine pE rfl ?_
    apply splitJ; (case hj => rfl); (case hl => rfl)
    ·
     refine goG rfl rfl ?_
     refine pE rfl ?_
     refine goG rfl rfl ?_
     first | refine pE rfl ?_ | refine pR rfl rfl rfl rfl rfl ?_ | refine pB rfl rfl rfl rfl rfl rfl ?_
     refine goG rfl rfl ?_
     refine pE rfl ?_
     refine goG rfl rfl ?_
     refine pE rfl ?_
     refine goG rfl rfl ?_
     iterate 3 refine pE rfl ?_
     apply splitJ; (case hj => rfl); (case hl => rfl)
     ·
      iterate 4 refine skipT rfl rfl rfl rfl ?_
      iterate 4 refine skipU rfl rfl rfl ?_
      refine skipT rfl rfl rfl rfl ?_
      iterate 2 refine pE rfl ?_
      refine WO.nil ?_
      refine qv1 rfl rfl rfl
     ·
      refine goG rfl rfl ?_
      refine pE rfl ?_
      refine goG rfl rfl ?_
      first | refine pE rfl ?_ | refine pR rfl rfl rfl rfl rfl ?_ | refine pB rfl rfl rfl rfl rfl rfl ?_
      refine goG rfl rfl ?_
      refine pE rfl ?_
      refine goG rfl rfl ?_
      refine pE rfl ?_
      apply splitJ; (case hj => rfl); (case hl => rfl)
      ·
       refine goG rfl rfl ?_
       refine pE rfl ?_
       refine goG rfl rfl ?_
       first | refine pE rfl ?_ | refine pR rfl rfl rfl rfl rfl ?_ | refine pB rfl rfl rfl rfl rfl rfl ?_
       refine goG rfl rfl ?_
       refine pE rfl ?_
       refine goG rfl rfl ?_
       refine pE rfl ?_
       refine goG rfl rfl ?_
       iterate 3 refine pE rfl ?_
       refine WO.nil ?_
       refine qv1 rfl rfl rfl
      ·
       iterate 4 refine skipT rfl rfl rfl rfl ?_
       refine goG rfl rfl ?_
       iterate 3 refine pE rfl ?_
       refine WO.nil ?_
       refine qv1 rfl rfl rfl
    ·
     iterate 4 refine skipT rfl rfl rfl rfl ?_
     refine goG rfl rfl ?_
     iterate 3 refine pE rfl ?_
     refine goG rfl rfl ?_
     refine pE rfl ?_
     refine goG rfl rfl ?_
     first | refine pE rfl ?_ | refine pR rfl rfl rfl rfl rfl ?_ | refine pB rfl rfl rfl rfl rfl rfl ?_
     refine goG rfl rfl ?_
     refine pE rfl ?_
     refine goG rfl rfl ?_
     refine pE rfl ?_
     apply splitJ; (case hj => rfl); (case hl => rfl)
     ·
      refine goG rfl rfl ?_
      refine pE rfl ?_
      refine goG rfl rfl ?_
      first | refine pE rfl ?_ | refine pR rfl rfl rfl rfl rfl ?_ | refine pB rfl rfl rfl rfl rfl rfl ?_
      refine goG rfl rfl ?_
      refine pE rfl ?_
      refine goG rfl rfl ?_
      refine pE rfl ?_
      refine goG rfl rfl ?_
      iterate 3 refine pE rfl ?_
      refine WO.nil ?_
      refine qv1 rfl rfl rfl
     ·
      iterate 4 refine skipT rfl rfl rfl rfl ?_
      refine goG rfl rfl ?_
      iterate 3 refine pE rfl ?_
      refine WO.nil ?_
      refine qv1 rfl rfl rfl
 refine qs ?_
 iterate 2 refine W.seq ?_
 refine W.region ?_
 refine pE rfl ?_
 refine WO.nil (qs ?_)
 refine condK rfl (fun h50 => ?_) (fun h50 => ?_)
 ·
  have h50 : shortB s = true := by revert h50; simp only [shortB, List.length_map, hw]; grind
  refine W.seq (W.region ?_)
  refine pE rfl ?_
  refine WO.nil (qs (W.ret (qsRet ?_)))
  refine QF.ret0 trivial rfl ?_
  simp only [norm, oneA]; unfold sizesE; rw [if_pos h50]
 ·
  have h50 : ¬ (shortB s = true) := by revert h50; simp only [shortB, List.length_map, hw]; grind
  refine W.skip (qs ?_)
  iterate 2 refine W.seq ?_
  apply regionB; (case hb => rfl)
  ·
   refine pE rfl ?_
   first | refine pE rfl ?_ | refine pR rfl rfl rfl rfl rfl ?_ | refine pB rfl rfl rfl rfl rfl rfl ?_
   iterate 3 refine pE rfl ?_
   apply splitJ; (case hj => rfl); (case hl => rfl)
   ·
    iterate 4 refine skipT rfl rfl rfl rfl ?_
    iterate 2 refine pE rfl ?_
    iterate 4 refine skipT rfl rfl rfl rfl ?_
    iterate 2 refine pE rfl ?_
    iterate 4 refine skipT rfl rfl rfl rfl ?_
    refine pE rfl ?_
    refine WO.nil ?_
    refine qv1 rfl rfl rfl
   ·
    refine goG rfl rfl ?_
    refine pE rfl ?_
    refine goG rfl rfl ?_
    first | refine pE rfl ?_ | refine pR rfl rfl rfl rfl rfl ?_ | refine pB rfl rfl rfl rfl rfl rfl ?_
    refine goG rfl rfl ?_
    refine pE rfl ?_
    refine goG rfl rfl ?_
    iterate 3 refine pE rfl ?_
    apply splitJ; (case hj => rfl); (case hl => rfl)
    ·
     iterate 4 refine skipT rfl rfl rfl rfl ?_
     iterate 2 refine pE rfl ?_
     iterate 4 refine skipT rfl rfl rfl rfl ?_
     refine pE rfl ?_
     refine WO.nil ?_
     refine qv1 rfl rfl rfl
    ·
     refine goG rfl rfl ?_
     refine pE rfl ?_
     refine goG rfl rfl ?_
     first | refine pE rfl ?_ | refine pR rfl rfl rfl rfl rfl ?_ | refine pB rfl rfl rfl rfl rfl rfl ?_
     refine goG rfl rfl ?_
     refine pE rfl ?_
     refine goG rfl rfl ?_
     iterate 3 refine pE rfl ?_
     apply splitJ; (case hj => rfl); (case hl => rfl)
     ·
      iterate 4 refine skipT rfl rfl rfl rfl ?_
      refine pE rfl ?_
      refine WO.nil ?_
      refine qv1 rfl rfl rfl
     ·
      refine goG rfl rfl ?_
      refine pE rfl ?_
      refine goG rfl rfl ?_
      first | refine pE rfl ?_ | refine pR rfl rfl rfl rfl rfl ?_ | refine pB rfl rfl rfl rfl rfl rfl ?_
      refine goG rfl rfl ?_
      refine pE rfl ?_
      refine goG rfl rfl ?_
      iterate 2 refine pE rfl ?_
      refine WO.nil ?_
      refine qv1 rfl rfl rfl
  refine qs ?_
  refine condK rfl (fun h72 => ?_) (fun h72 => ?_)
  ·
   refine W.seq (W.region ?_)
   refine pE rfl ?_
   refine WO.nil (qs (W.ret (qsRet ?_)))
   refine QF.ret0 trivial rfl ?_
   simp only [norm, oneA]; unfold sizesE; rw [if_neg h50, if_pos (by revert h72; simp only [List.length_map]; grind)]
  ·
   refine W.skip (qs (W.seq (W.region ?_)))
   refine pE rfl ?_
   refine WO.nil (qs (W.ret ?_))
   refine QF.ret0 trivial rfl ?_
   simp only [norm, oneA]; unfold sizesE; rw [if_neg h50, if_neg (by revert h72; simp only [List.length_map]; grind)]
theorem stepR_eqB (s : Stp) : stepR s = stepErr s := by
 unfold stepR stepErr
 by_cases hu : usesB s = false
 · rw [if_pos hu, if_pos hu]
 ·
  rw [if_neg hu, if_neg hu]
  have hu : usesB s = true := by simpa using hu
  simp only [usesB, Bool.and_eq_true, Bool.not_eq_true', Bool.or_eq_true, Bool.or_eq_false_iff, Bool.and_eq_false_iff, decide_eq_true_eq, decide_eq_false_iff_not] at hu
  obtain ⟨⟨⟨⟨⟨⟨⟨⟨h0, h0'⟩, h1⟩, h2⟩, h3⟩, h4⟩, h5⟩, h6⟩, h7⟩ := hu
  have hop : s.op = 1 ∨ s.op = 2 ∨ s.op = 3 ∨ s.op = 4 ∨ s.op = 5 ∨ s.op = 6 ∨ s.op = 7 ∨ s.op = 8 ∨ s.op = 9 := by omega
  have hil : s.op ≠ 2 → s.items.length = 0 := fun h => by rcases h2 with h2 | h2 <;> simp_all
  have hal : s.op ≠ 3 → s.aggs.length = 0 := fun h => by rcases h3 with h3 | h3 <;> simp_all
  have hsl : s.op ≠ 4 → s.sorts.length = 0 := fun h => by rcases h4 with h4 | h4 <;> simp_all
  have hcl : s.op ≠ 3 → tableOp s.op = false → s.op ≠ 9 → s.cols.length = 0 := fun a b c => by
   rcases h7 with ((h7 | h7) | h7) | h7
   · exact absurd h7 a
   · rw [b] at h7; cases h7
   · exact absurd h7 c
   · exact h7
  rcases hop with h | h | h | h | h | h | h | h | h
  ·
   have a1 := hil (by omega); have a2 := hal (by omega); have a3 := hsl (by omega); have a4 := hcl (by omega) (by simp [tableOp, h]) (by omega)
   simp [tableOp, h, sizesE, shortB, a1, a2, a3, a4]
  ·
   have a2 := hal (by omega); have a3 := hsl (by omega); have a4 := hcl (by omega) (by simp [tableOp, h]) (by omega)
   simp only [tableOp, h, sizesE, shortB, a2, a3, a4, sizeErr]
   by_cases q : s.items.length = 0 <;> by_cases q2 : 16 < s.items.length <;> simp [q, q2] <;> omega
  ·
   have a1 := hil (by omega); have a3 := hsl (by omega)
   simp only [tableOp, h, sizesE, shortB, a1, a3, groupErr, groupsR]
   by_cases q : s.cols.length + s.aggs.length = 0 <;> by_cases q2 : 16 < s.cols.length <;> by_cases q3 : 16 < s.aggs.length <;> simp [q, q2, q3] <;> first | omega | (by_cases q4 : s.cols = [] ∧ s.aggs = [] <;> simp [q4])
  ·
   have a1 := hil (by omega); have a2 := hal (by omega); have a4 := hcl (by omega) (by simp [tableOp, h]) (by omega)
   simp only [tableOp, h, sizesE, shortB, a1, a2, a4, columnsErr, sizeErr, List.length_map]
   by_cases q : s.sorts.length = 0 <;> by_cases q2 : 16 < s.sorts.length <;> simp [q, q2] <;> omega
  ·
   have a1 := hil (by omega); have a2 := hal (by omega); have a3 := hsl (by omega); have a4 := hcl (by omega) (by simp [tableOp, h]) (by omega)
   simp [tableOp, h, sizesE, shortB, a1, a2, a3, a4]
  ·
   have a1 := hil (by omega); have a2 := hal (by omega); have a3 := hsl (by omega)
   simp only [tableOp, h, sizesE, shortB, a1, a2, a3, columnsErr, sizeErr]
   cases identB s.table <;> by_cases q : s.cols.length = 0 <;> by_cases q2 : 16 < s.cols.length <;> simp [q, q2] <;> omega
  ·
   have a1 := hil (by omega); have a2 := hal (by omega); have a3 := hsl (by omega)
   simp only [tableOp, h, sizesE, shortB, a1, a2, a3, columnsErr, sizeErr]
   cases identB s.table <;> by_cases q2 : 16 < s.cols.length <;> simp [q2] <;> omega
  ·
   have a1 := hil (by omega); have a2 := hal (by omega); have a3 := hsl (by omega)
   simp only [tableOp, h, sizesE, shortB, a1, a2, a3, columnsErr, sizeErr]
   cases identB s.table <;> by_cases q2 : 16 < s.cols.length <;> simp [q2] <;> omega
  ·
   have a1 := hil (by omega); have a2 := hal (by omega); have a3 := hsl (by omega)
   simp only [tableOp, h, sizesE, shortB, a1, a2, a3, columnsErr, sizeErr]
   by_cases q2 : 16 < s.cols.length <;> simp [q2] <;> omega
theorem rstepB_fn (s : Stp) : Does Tryz.prog 42 [.ag s.c] (.d (.v (.int .i64 (stepErr s)))) 0 := by
 rw [← stepR_eqB]
 have hg : stepR s = stepR s := rfl
 conv at hg => rhs; unfold stepR
 refine Does.of_W (n := 78) (ts := [2]) Tryz.func42 (by kernel_rfl) rfl Tryz.ntmps42 Tryz.results42 rfl rfl fun C hC hG => ?_
 refine W.seq (W.region ?_)
 refine boxR rfl rfl rfl ?_
 refine pE rfl ?_
 refine WO.nil (qs ?_)
 iterate 2 refine W.seq ?_
 apply regionB; (case hb => rfl)
 ·
  refine pE rfl ?_
  first | refine pE rfl ?_ | refine pR rfl rfl rfl rfl rfl ?_ | refine pB rfl rfl rfl rfl rfl rfl ?_
  iterate 2 refine pE rfl ?_
  apply splitJ; (case hj => rfl); (case hl => rfl)
  ·
   iterate 3 refine skipT rfl rfl rfl rfl ?_
   iterate 2 refine pE rfl ?_
   iterate 3 refine skipT rfl rfl rfl rfl ?_
   refine pE rfl ?_
   refine WO.nil ?_
   refine qv1 rfl rfl rfl
  ·
   refine goG rfl rfl ?_
   refine pE rfl ?_
   refine goG rfl rfl ?_
   first | refine pE rfl ?_ | refine pR rfl rfl rfl rfl rfl ?_ | refine pB rfl rfl rfl rfl rfl rfl ?_
   refine goG rfl rfl ?_
   iterate 3 refine pE rfl ?_
   apply splitJ; (case hj => rfl); (case hl => rfl)
   ·
    iterate 3 refine skipT rfl rfl rfl rfl ?_
    refine pE rfl ?_
    refine WO.nil ?_
    refine qv1 rfl rfl rfl
   ·
    refine goG rfl rfl ?_
    first | refine pE rfl ?_ | refine pR rfl rfl rfl rfl rfl ?_ | refine pB rfl rfl rfl rfl rfl rfl ?_
    refine goG rfl rfl ?_
    refine pu (puCall rfl rfl rfl (runused_fn s) rfl) rfl ?_
    refine goG rfl rfl ?_
    iterate 2 refine pE rfl ?_
    refine WO.nil ?_
    refine qv1 rfl rfl rfl
 refine qs ?_
 refine condK rfl (fun h17 => ?_) (fun h17 => ?_)
 ·
  have h17 : usesB s = false := by rw [usesB_eq]; revert h17; by_cases q : s.op < 1 <;> by_cases q2 : 9 < s.op <;> cases unusedB s <;> simp [q, q2]
  rw [if_pos h17] at hg
  refine W.seq (W.region ?_)
  refine pE rfl ?_
  refine WO.nil (qs (W.ret (qsRet ?_)))
  refine QF.ret0 trivial rfl ?_
  rw [hg]; rfl
 ·
  have h17 : ¬ (usesB s = false) := by rw [usesB_eq]; revert h17; by_cases q : s.op < 1 <;> by_cases q2 : 9 < s.op <;> cases unusedB s <;> simp [q, q2]
  rw [if_neg h17] at hg
  refine W.skip (qs (W.seq ?_))
  apply regionB; (case hb => rfl)
  ·
   refine pE rfl ?_
   first | refine pE rfl ?_ | refine pR rfl rfl rfl rfl rfl ?_ | refine pB rfl rfl rfl rfl rfl rfl ?_
   iterate 2 refine pE rfl ?_
   apply splitJ; (case hj => rfl); (case hl => rfl)
   ·
    iterate 3 refine skipT rfl rfl rfl rfl ?_
    iterate 2 refine pE rfl ?_
    iterate 3 refine skipT rfl rfl rfl rfl ?_
    iterate 2 refine pE rfl ?_
    refine WO.nil ?_
    refine qv1 rfl rfl rfl
   ·
    refine goG rfl rfl ?_
    refine pE rfl ?_
    refine goG rfl rfl ?_
    first | refine pE rfl ?_ | refine pR rfl rfl rfl rfl rfl ?_ | refine pB rfl rfl rfl rfl rfl rfl ?_
    refine goG rfl rfl ?_
    iterate 3 refine pE rfl ?_
    apply splitJ; (case hj => rfl); (case hl => rfl)
    ·
     iterate 3 refine skipT rfl rfl rfl rfl ?_
     iterate 2 refine pE rfl ?_
     refine WO.nil ?_
     refine qv1 rfl rfl rfl
    ·
     refine goG rfl rfl ?_
     refine pE rfl ?_
     refine goG rfl rfl ?_
     first | refine pE rfl ?_ | refine pR rfl rfl rfl rfl rfl ?_ | refine pB rfl rfl rfl rfl rfl rfl ?_
     refine goG rfl rfl ?_
     iterate 3 refine pE rfl ?_
     refine WO.nil ?_
     refine qv1 rfl rfl rfl
  refine qs ?_
  iterate 2 refine W.seq ?_
  apply regionB; (case hb => rfl)
  ·
   iterate 2 refine pE rfl ?_
   apply splitJ; (case hj => rfl); (case hl => rfl)
   ·
    refine goG rfl rfl ?_
    refine pE rfl ?_
    refine goG rfl rfl ?_
    first | refine pE rfl ?_ | refine pR rfl rfl rfl rfl rfl ?_ | refine pB rfl rfl rfl rfl rfl rfl ?_
    refine goG rfl rfl ?_
    refine pu (puCall rfl rfl rfl (ident_fn ..) rfl) rfl ?_
    refine goG rfl rfl ?_
    iterate 2 refine pE rfl ?_
    refine WO.nil ?_
    refine qv1 rfl rfl rfl
   ·
    iterate 4 refine skipT rfl rfl rfl rfl ?_
    refine pE rfl ?_
    refine WO.nil ?_
    refine qv1 rfl rfl rfl
  refine qs ?_
  refine condK rfl (fun h37 => ?_) (fun h37 => ?_)
  ·
   have h37 : (tableOp s.op && !identB s.table) = true := by revert h37; simp only [tableOp]; by_cases q : s.op = 6 <;> by_cases q2 : s.op = 7 <;> by_cases q3 : s.op = 8 <;> cases identB s.table <;> simp [q, q2, q3]
   rw [if_pos h37] at hg
   refine W.seq (W.region ?_)
   refine pE rfl ?_
   refine WO.nil (qs (W.ret (qsRet ?_)))
   refine QF.ret0 trivial rfl ?_
   rw [hg]; rfl
  ·
   have h37 : ¬ ((tableOp s.op && !identB s.table) = true) := by revert h37; simp only [tableOp]; by_cases q : s.op = 6 <;> by_cases q2 : s.op = 7 <;> by_cases q3 : s.op = 8 <;> cases identB s.table <;> simp [q, q2, q3]
   rw [if_neg h37] at hg
   refine W.skip (qs (W.seq (W.region ?_)))
   first | refine pE rfl ?_ | refine pR rfl rfl rfl rfl rfl ?_ | refine pB rfl rfl rfl rfl rfl rfl ?_
   refine pu (puCall rfl rfl rfl (rsizesB_fn s) rfl) rfl ?_
   refine pE rfl ?_
   refine WO.nil (qs ?_)
   iterate 2 refine W.seq ?_
   refine W.region ?_
   iterate 2 refine pE rfl ?_
   refine WO.nil (qs ?_)
   refine condK rfl (fun h41 => ?_) (fun h41 => ?_)
   ·
    rw [if_pos (by simpa using h41)] at hg
    refine W.seq (W.region ?_)
    iterate 2 refine pE rfl ?_
    refine WO.nil (qs (W.ret (qsRet ?_)))
    refine QF.ret0 trivial rfl ?_
    rw [hg]; rfl
   ·
    rw [if_neg (by simpa using h41)] at hg
    have hf : fewB s := by
     have hz : sizesE s = 0 := by simpa using h41
     unfold sizesE at hz
     split at hz
     · cases hz
     ·
      split at hz
      · cases hz
      · exact ⟨by omega, by omega, by omega, by omega⟩
    refine W.skip (qs ?_)
    iterate 2 refine W.seq ?_
    refine W.region ?_
    refine pE rfl ?_
    first | refine pE rfl ?_ | refine pR rfl rfl rfl rfl rfl ?_ | refine pB rfl rfl rfl rfl rfl rfl ?_
    refine WO.nil (qs (W.block (W.seq (W.region ?_))))
    iterate 2 refine pE rfl ?_
    refine WO.nil (qs ?_)
    refine condK rfl (fun h45 => ?_) (fun h45 => ?_)
    ·
     rw [if_pos (by simpa using h45)] at hg
     refine W.seq (W.region ?_)
     refine pE rfl ?_
     first | refine pE rfl ?_ | refine pR rfl rfl rfl rfl rfl ?_ | refine pB rfl rfl rfl rfl rfl rfl ?_
     refine pu (puCall rfl rfl rfl (rexpr_fn s.cond) rfl) rfl ?_
     refine pE rfl ?_
     refine WO.nil (qs (W.ret (qbRet (qsRet ?_))))
     refine QF.ret0 trivial rfl ?_
     rw [hg]; rfl
    ·
     rw [if_neg (by simpa using h45)] at hg
     refine W.seq (W.region ?_)
     iterate 2 refine pE rfl ?_
     refine WO.nil (qs ?_)
     refine condK rfl (fun h50 => ?_) (fun h50 => ?_)
     ·
      rw [if_pos (by simpa using h50)] at hg
      refine W.seq (W.region ?_)
      refine pE rfl ?_
      first | refine pE rfl ?_ | refine pR rfl rfl rfl rfl rfl ?_ | refine pB rfl rfl rfl rfl rfl rfl ?_
      refine pu (puCall rfl rfl rfl (rselects_fn s.items (by have := hf.1; omega)) rfl) rfl ?_
      refine pE rfl ?_
      refine WO.nil (qs (W.ret (qbRet (qsRet ?_))))
      refine QF.ret0 trivial rfl ?_
      rw [hg]; rfl
     ·
      rw [if_neg (by simpa using h50)] at hg
      refine W.seq (W.region ?_)
      iterate 2 refine pE rfl ?_
      refine WO.nil (qs ?_)
      refine condK rfl (fun h55 => ?_) (fun h55 => ?_)
      ·
       rw [if_pos (by simpa using h55)] at hg
       refine W.seq (W.region ?_)
       first | refine pE rfl ?_ | refine pR rfl rfl rfl rfl rfl ?_ | refine pB rfl rfl rfl rfl rfl rfl ?_
       refine pu (puCall rfl rfl rfl (rgroupsB_fn s hf) rfl) rfl ?_
       refine pE rfl ?_
       refine WO.nil (qs (W.ret (qbRet (qsRet ?_))))
       refine QF.ret0 trivial rfl ?_
       rw [hg]; rfl
      ·
       rw [if_neg (by simpa using h55)] at hg
       refine W.seq (W.region ?_)
       iterate 2 refine pE rfl ?_
       refine WO.nil (qs ?_)
       refine condK rfl (fun h59 => ?_) (fun h59 => ?_)
       ·
        rw [if_pos (by simpa using h59)] at hg
        refine W.seq (W.region ?_)
        refine pE rfl ?_
        first | refine pE rfl ?_ | refine pR rfl rfl rfl rfl rfl ?_ | refine pB rfl rfl rfl rfl rfl rfl ?_
        refine pu (puCall rfl rfl rfl (rsorts_fn s.sorts (by have := hf.2.2.2; omega)) rfl) rfl ?_
        refine pu (puCall rfl rfl rfl (rnames_fn (s.sorts.map Srt.col)) rfl) rfl ?_
        refine pE rfl ?_
        refine WO.nil (qs (W.ret (qbRet (qsRet ?_))))
        refine QF.ret0 trivial rfl ?_
        rw [hg]; rfl
       ·
        rw [if_neg (by simpa using h59)] at hg
        refine W.seq (W.region ?_)
        iterate 2 refine pE rfl ?_
        refine WO.nil (qs ?_)
        refine condK rfl (fun h65 => ?_) (fun h65 => ?_)
        ·
         rw [if_pos (by simpa using h65)] at hg
         iterate 2 refine W.seq ?_
         apply regionB; (case hb => rfl)
         ·
          refine pE rfl ?_
          first | refine pE rfl ?_ | refine pR rfl rfl rfl rfl rfl ?_ | refine pB rfl rfl rfl rfl rfl rfl ?_
          iterate 2 refine pE rfl ?_
          apply splitJ; (case hj => rfl); (case hl => rfl)
          ·
           iterate 3 refine skipT rfl rfl rfl rfl ?_
           refine pE rfl ?_
           refine WO.nil ?_
           refine qv1 rfl rfl rfl
          ·
           refine goG rfl rfl ?_
           refine pE rfl ?_
           refine goG rfl rfl ?_
           first | refine pE rfl ?_ | refine pR rfl rfl rfl rfl rfl ?_ | refine pB rfl rfl rfl rfl rfl rfl ?_
           refine goG rfl rfl ?_
           iterate 2 refine pE rfl ?_
           refine WO.nil ?_
           refine qv1 rfl rfl rfl
         refine qs ?_
         refine condK rfl (fun h74 => ?_) (fun h74 => ?_)
         ·
          rw [if_pos (by revert h74; grind)] at hg
          refine W.seq (W.region ?_)
          refine pE rfl ?_
          refine WO.nil (qs (W.ret (qsRet (qbRet (qsRet ?_)))))
          refine QF.ret0 trivial rfl ?_
          rw [hg]; rfl
         ·
          rw [if_neg (by revert h74; grind)] at hg
          refine W.skip (qs (W.seq (W.region ?_)))
          refine pE rfl ?_
          refine WO.nil (qs (W.ret (qbRet (qsRet ?_))))
          refine QF.ret0 trivial rfl ?_
          rw [hg]; rfl
        ·
         rw [if_neg (by simpa using h65)] at hg
         refine W.skip (qbN (qs (W.seq (W.region ?_))))
         refine pE rfl ?_
         first | refine pE rfl ?_ | refine pR rfl rfl rfl rfl rfl ?_ | refine pB rfl rfl rfl rfl rfl rfl ?_
         refine pu (puCall rfl rfl rfl (rnames_fn s.cols) rfl) rfl ?_
         refine pE rfl ?_
         refine WO.nil (qs (W.ret ?_))
         refine QF.ret0 trivial rfl ?_
         rw [hg]; rfl
theorem rqueryB_fn (q : Qry) : Does Tryz.prog 16 [.ag q.c] (.d (.v (.int .i64 (queryErr q)))) 0 := by
 refine Does.of_W (n := 29) (ts := [2]) Tryz.func16 (by kernel_rfl) rfl Tryz.ntmps16 Tryz.results16 rfl rfl fun C hC hG => ?_
 refine W.seq (W.region ?_)
 refine boxR rfl rfl rfl ?_
 refine pE rfl ?_
 refine WO.nil (qs ?_)
 iterate 2 refine W.seq ?_
 refine W.region ?_
 refine pE rfl ?_
 first | refine pE rfl ?_ | refine pR rfl rfl rfl rfl rfl ?_ | refine pB rfl rfl rfl rfl rfl rfl ?_
 refine pu (puCall rfl rfl rfl (ident_fn ..) rfl) rfl ?_
 refine pE rfl ?_
 refine WO.nil (qs ?_)
 refine condK rfl (fun h8 => ?_) (fun h8 => ?_)
 ·
  refine W.seq (W.region ?_)
  refine pE rfl ?_
  refine WO.nil (qs (W.ret (qsRet ?_)))
  refine QF.ret0 trivial rfl ?_
  simp only [norm, oneA] at *; grind [queryErr]
 ·
  refine W.skip (qs ?_)
  iterate 2 refine W.seq ?_
  refine W.region ?_
  refine pE rfl ?_
  first | refine pE rfl ?_ | refine pR rfl rfl rfl rfl rfl ?_ | refine pB rfl rfl rfl rfl rfl rfl ?_
  iterate 2 refine pE rfl ?_
  refine WO.nil (qs ?_)
  refine condK rfl (fun h12 => ?_) (fun h12 => ?_)
  ·
   refine W.seq (W.region ?_)
   refine pE rfl ?_
   refine WO.nil (qs (W.ret (qsRet ?_)))
   refine QF.ret0 trivial rfl ?_
   simp only [norm, oneA, List.length_map] at *; grind [queryErr]
  ·
   have hq : queryErr q = stepsErr q.steps := by simp only [List.length_map] at *; grind [queryErr]
   refine W.skip (qs ?_)
   iterate 2 refine W.seq ?_
   refine W.region ?_
   refine pE rfl ?_
   refine WO.nil (qs (W.block ?_))
   refine lenBox (g := 0) (j := 1) rfl rfl (fun hlen => ?_)
   rw [List.length_map] at hlen
   refine W.loopR (ι := {x : Nat // match x with | k => k ≤ q.steps.length ∧ stepsErr (q.steps.drop k) = stepsErr q.steps})
    (fun x => match x.1 with | k => [(1, .ptr 0 0), (3, .d (.v (.int .i64 ((k : Nat) : Int))))]) []
    (fun x => match x.1 with | k => []) [(0, _)] [] 1 (fun x => match x.1 with | k => q.steps.length - k)
    [0] ⟨0, ?_⟩ rfl ?_ trivial ?_ ⟨rfl, rfl, trivial⟩ rfl ?_
   · first | exact ⟨Nat.zero_le _, rfl⟩ | exact trivial | simp
   · repeat' first | exact trivial | refine ⟨rfl, ?_⟩ | refine ⟨step_nat (by assumption) (by assumption), ?_⟩
   · repeat' first | exact trivial | refine ⟨rfl, ?_⟩ | refine ⟨step_nat (by assumption) (by assumption), ?_⟩
   rintro ⟨k, hk, hI⟩
   show W _ _ _ _ _ ⟨[(1, .ptr 0 0), (3, .d (.v (.int .i64 ((k : Nat) : Int))))], [(0, _)], [], 1⟩
   iterate 2 refine W.seq ?_
   refine W.region ?_
   iterate 2 refine pE rfl ?_
   first | refine pE rfl ?_ | refine pR rfl rfl rfl rfl rfl ?_ | refine pB rfl rfl rfl rfl rfl rfl ?_
   iterate 2 refine pE rfl ?_
   refine WO.nil (qs ?_)
   refine eachR (l := q.steps) (k := k) rfl (by simp [Ex.kc_len, bytes_len]) hk (fun x hx hd hlt => ?_) (fun he hd => ?_)
   ·
    rw [hd] at hI
    simp only [stepsErr] at hI
    refine W.skip (qs (W.seq (W.block (W.seq (W.region ?_)))))
    refine pE rfl ?_
    first | refine pE rfl ?_ | refine pR rfl rfl rfl rfl rfl ?_ | refine pB rfl rfl rfl rfl rfl rfl ?_
    refine pE rfl ?_
    refine pu (indexAddr tab rfl rfl rfl rfl rfl rfl (Int.natCast_nonneg _) (idx_map hx) rfl) rfl ?_
    first | refine pE rfl ?_ | refine pR rfl rfl rfl rfl rfl ?_ | refine pB rfl rfl rfl rfl rfl rfl ?_
    refine pu (puCall rfl rfl rfl (rstepB_fn x) rfl) rfl ?_
    refine pE rfl ?_
    refine WO.nil (qs (W.seq (W.region ?_)))
    iterate 2 refine pE rfl ?_
    refine WO.nil (qs ?_)
    refine condK rfl (fun h27 => ?_) (fun h27 => ?_)
    ·
     rw [if_pos (by simpa using h27)] at hI
     refine W.seq (W.region ?_)
     iterate 2 refine pE rfl ?_
     refine WO.nil (qs (W.ret (qbRet (qsRet (qlRet (qbRet (qsRet ?_)))))))
     refine QF.ret0 trivial rfl ?_
     rw [hq, ← hI]; rfl
    ·
     rw [if_neg (by simpa using h27)] at hI
     refine W.skip (qbN (qs (W.region ?_)))
     iterate 3 refine pE rfl ?_
     refine WO.nil ?_
     refine W.endR [0] ⟨k + 1, ?_⟩ ?_ rfl ?_ trivial ?_ ⟨rfl, rfl, trivial⟩ rfl
     · exact ⟨hlt, hI⟩
     · dsimp only; omega
     · repeat' first | exact trivial | refine ⟨rfl, ?_⟩ | refine ⟨step_nat (by assumption) (by assumption), ?_⟩
     · repeat' first | exact trivial | refine ⟨rfl, ?_⟩ | refine ⟨step_nat (by assumption) (by assumption), ?_⟩
   ·
    rw [hd] at hI
    simp only [stepsErr] at hI
    refine W.exit (qsExit (qlExit (qbExit (qs (W.seq (W.region ?_))))))
    refine pE rfl ?_
    refine WO.nil (qs (W.ret ?_))
    refine QF.ret0 trivial rfl ?_
    rw [hq, ← hI]; rfl
end Go.Proofs.YtifeonoehfffmaaGreatDoor
namespace Go.Proofs.YtifeonoehfffmaaGreatDoor
open Go.Ab Go.Tb
set_option maxRecDepth 10000
attribute [local irreducible] W WO Pu QS QB QL QF QV QV1 CH QE
end Go.Proofs.YtifeonoehfffmaaGreatDoor
namespace Go.Proofs.YtifeonoehfffmaaGreatDoor
open Go.Ab Go.Tb
set_option maxRecDepth 10000
attribute [local irreducible] W WO Pu QS QB QL QF QV QV1 CH QE
theorem fullQuery_fn (q : Qry) (hq : queryErr q = 0) : Does Tryz.prog 17 [.ag q.c] (.d (.v (.string (queryB q)))) 0 := by
 unfold queryErr at hq
 split at hq
 · cases hq
 rename_i hfr
 have hfs : q.from_.size ≤ 40 := ident_size (by simpa using hfr)
 split at hq
 · cases hq
 rename_i hl16
 have hst := stepsErr_mem hq
 have hml : q.steps.length ≤ maxLen := by simp only [maxLen]; omega
 have hsz : ∀ s ∈ q.steps, (stepB s).size ≤ 2000000 := fun s hs => step_size (vs_sf (vs_of (hst s hs))) (step_16 (hst s hs))
 have hcs : ∀ k, (stepsB (tFrom ++ q.from_) (q.steps.take k)).size ≤ 40000000 := fun k => by
  have h1 := stepsB_size (M := 2000000) (q.steps.take k) (tFrom ++ q.from_) fun s hs => hsz s (List.mem_of_mem_take hs)
  have h2 : (q.steps.take k).length * 2000003 ≤ 16 * 2000003 := Nat.mul_le_mul (by rw [List.length_take]; omega) (Nat.le_refl _)
  have h3 : (tFrom ++ q.from_).size ≤ 45 := by rw [ByteArray.size_append]; show 5 + _ ≤ 45; omega
  omega
 refine Does.of_W (n := 25) (ts := [2]) Tryz.func17 (by kernel_rfl) rfl Tryz.ntmps17 Tryz.results17 rfl rfl fun C hC hG => ?_
 refine W.seq (W.region ?_)
 refine boxR rfl rfl rfl ?_
 refine pE rfl ?_
 refine WO.nil (qs (W.seq (W.region ?_)))
 refine pE rfl ?_
 first | refine pE rfl ?_ | refine pR rfl rfl rfl rfl rfl ?_ | refine pB rfl rfl rfl rfl rfl rfl ?_
 refine pu (puS (strAdd rfl rfl (by show 5 + q.from_.size ≤ _; omega)) (show _ = stepsB (tFrom ++ q.from_) (q.steps.take 0) from rfl)) rfl ?_
 refine pE rfl ?_
 refine WO.nil (qs ?_)
 iterate 2 refine W.seq ?_
 refine W.region ?_
 refine pE rfl ?_
 refine WO.nil (qs (W.block ?_))
 refine W.loopR (ι := {x : Nat // match x with | k => k ≤ q.steps.length})
  (fun x => match x.1 with | k => [(1, .ptr 0 0), (3, .d (.v (.string ((stepsB (tFrom ++ q.from_) (q.steps.take k)))))), (4, .d (.v (.int .i64 ((k : Nat) : Int))))]) []
  (fun x => match x.1 with | k => []) [(0, _)] [] 1 (fun x => match x.1 with | k => q.steps.length - k)
  [0] ⟨0, ?_⟩ rfl ?_ trivial ?_ ⟨rfl, rfl, trivial⟩ rfl ?_
 · exact Nat.zero_le _
 · repeat' first | exact trivial | refine ⟨rfl, ?_⟩ | refine ⟨step_nat (by assumption) (by assumption), ?_⟩
 · repeat' first | exact trivial | refine ⟨rfl, ?_⟩ | refine ⟨step_nat (by assumption) (by assumption), ?_⟩
 rintro ⟨k, hk⟩
 show W _ _ _ _ _ ⟨[(1, .ptr 0 0), (3, .d (.v (.string ((stepsB (tFrom ++ q.from_) (q.steps.take k)))))), (4, .d (.v (.int .i64 ((k : Nat) : Int))))], [(0, _)], [], 1⟩
 iterate 2 refine W.seq ?_
 refine W.region ?_
 iterate 2 refine pE rfl ?_
 first | refine pE rfl ?_ | refine pR rfl rfl rfl rfl rfl ?_ | refine pB rfl rfl rfl rfl rfl rfl ?_
 iterate 2 refine pE rfl ?_
 refine WO.nil (qs ?_)
 refine eachR (l := q.steps) (k := k) rfl (by simp [Ex.kc_len, bytes_len]) hk (fun x hx hd hlt => ?_) (fun he hd => ?_)
 ·
  have hxm := List.mem_of_getElem? hx
  have hz := hsz x hxm
  have hfx := fullStep_fn x (vs_sf (vs_of (hst x hxm))) (step_16 (hst x hxm))
  have hck := hcs k
  have htk := stepsB_take (out := tFrom ++ q.from_) hx
  refine W.skip (qs (W.seq (W.block (W.region ?_))))
  refine pE rfl ?_
  refine pu (strAdd rfl rfl (by show _ + 3 ≤ _; omega)) rfl ?_
  refine pE rfl ?_
  first | refine pE rfl ?_ | refine pR rfl rfl rfl rfl rfl ?_ | refine pB rfl rfl rfl rfl rfl rfl ?_
  refine pE rfl ?_
  refine pu (indexAddr (l := x.c) tab rfl rfl rfl rfl rfl rfl (Int.natCast_nonneg _) (idx_map (f := Stp.c) hx) rfl) rfl ?_
  first | refine pE rfl ?_ | refine pR rfl rfl rfl rfl rfl ?_ | refine pB rfl rfl rfl rfl rfl rfl ?_
  refine pu (puCall rfl rfl rfl hfx rfl) rfl ?_
  refine pu (puS (strAdd rfl rfl (by rw [ByteArray.size_append]; show _ + 3 + _ ≤ _; omega)) (show _ = stepsB (tFrom ++ q.from_) (q.steps.take (k + 1)) from by rw [htk])) rfl ?_
  refine pE rfl ?_
  refine WO.nil (qbN (qs (W.region ?_)))
  iterate 3 refine pE rfl ?_
  refine WO.nil ?_
  refine W.endR [0] ⟨k + 1, ?_⟩ ?_ rfl ?_ trivial ?_ ⟨rfl, rfl, trivial⟩ rfl
  · exact hlt
  · dsimp only; omega
  · repeat' first | exact trivial | refine ⟨rfl, ?_⟩ | refine ⟨step_nat (by assumption) (by assumption), ?_⟩
  · repeat' first | exact trivial | refine ⟨rfl, ?_⟩ | refine ⟨step_nat (by assumption) (by assumption), ?_⟩
 ·
  have htk : q.steps.take k = q.steps := List.take_of_length_le (by omega)
  rw [htk]
  refine W.exit (qsExit (qlExit (qbExit (qs (W.seq (W.region ?_))))))
  iterate 2 refine pE rfl ?_
  refine WO.nil (qs (W.ret ?_))
  refine QF.ret0 trivial rfl ?_
  rfl
theorem lqback_fn (q : Qry) : Does Tryz.prog 5 [.ag q.c] (.d (.v (.bool true))) 0 := by
 refine Does.of_W (n := 43) (ts := [2]) Tryz.func5 (by kernel_rfl) rfl Tryz.ntmps5 Tryz.results5 rfl rfl fun C hC hG => ?_
 refine W.seq (W.region ?_)
 refine boxR rfl rfl rfl ?_
 refine pE rfl ?_
 refine WO.nil (qs ?_)
 iterate 2 refine W.seq ?_
 apply regionB; (case hb => rfl)
 ·
  refine pE rfl ?_
  first | refine pE rfl ?_ | refine pR rfl rfl rfl rfl rfl ?_ | refine pB rfl rfl rfl rfl rfl rfl ?_
  iterate 3 refine pE rfl ?_
  apply splitH; (case hj => rfl); (case hl => rfl)
  ·
   intro g11
   iterate 3 refine skipT rfl rfl rfl rfl ?_
   refine pE rfl ?_
   refine WO.nil ?_
   refine qv1 rfl rfl rfl
  ·
   intro g11
   refine goG rfl rfl ?_
   first | refine pE rfl ?_ | refine pR rfl rfl rfl rfl rfl ?_ | refine pB rfl rfl rfl rfl rfl rfl ?_
   refine goG rfl rfl ?_
   refine pu (puCall rfl rfl rfl (rqueryB_fn q) rfl) rfl ?_
   refine goG rfl rfl ?_
   iterate 2 refine pE rfl ?_
   refine WO.nil ?_
   refine qv1 rfl rfl rfl
 refine qs ?_
 refine condK rfl (fun h15 => ?_) (fun h15 => ?_)
 ·
  refine W.seq (W.region ?_)
  refine pu (puCall rfl rfl rfl (lives37_fn ..) rfl) rfl ?_
  refine pE rfl ?_
  refine WO.nil (qs (W.ret (qsRet ?_)))
  refine QF.ret0 trivial rfl ?_
  rfl
 ·
  have he : queryErr q = 0 := by simp at h15; exact h15.2
  refine W.skip (qs (W.seq (W.region ?_)))
  first | refine pE rfl ?_ | refine pR rfl rfl rfl rfl rfl ?_ | refine pB rfl rfl rfl rfl rfl rfl ?_
  refine pu (puCall rfl rfl rfl (fullQuery_fn q he) rfl) rfl ?_
  refine pE rfl ?_
  refine WO.nil (qs ?_)
  iterate 2 refine W.seq ?_
  refine W.region ?_
  iterate 3 refine pE rfl ?_
  refine WO.nil (qs ?_)
  refine condK rfl (fun h21 => ?_) (fun h21 => ?_)
  ·
   refine W.seq (W.region ?_)
   refine pu (puCall rfl rfl rfl (lives37_fn ..) rfl) rfl ?_
   refine pE rfl ?_
   refine WO.nil (qs (W.ret (qsRet ?_)))
   refine QF.ret0 trivial rfl ?_
   rfl
  ·
   have hs : (queryB q).size ≤ 2000 := by simp at h21; omega
   have hq := pquery_fn (queryB q) (by omega)
   rw [query_back true he hs] at hq
   refine W.skip (qs (W.seq (W.region ?_)))
   refine pE rfl ?_
   refine pu (puCall rfl rfl rfl hq rfl) rfl ?_
   iterate 4 refine pE rfl ?_
   refine allocR tab rfl rfl rfl ?_
   refine storeR tab rfl rfl rfl rfl rfl rfl rfl rfl ?_
   iterate 2 refine pE rfl ?_
   refine WO.nil (qs (W.seq ?_))
   apply regionB; (case hb => rfl)
   ·
    first | refine pE rfl ?_ | refine pR rfl rfl rfl rfl rfl ?_ | refine pB rfl rfl rfl rfl rfl rfl ?_
    first | refine pE rfl ?_ | refine pR rfl rfl rfl rfl rfl ?_ | refine pB rfl rfl rfl rfl rfl rfl ?_
    refine pu (puCall rfl rfl rfl (sameQ_fn q) rfl) rfl ?_
    refine pE rfl ?_
    apply splitH; (case hj => rfl); (case hl => rfl)
    ·
     intro g32
     refine goG rfl rfl ?_
     refine pE rfl ?_
     refine goG rfl rfl ?_
     iterate 3 refine pE rfl ?_
     apply splitH; (case hj => rfl); (case hl => rfl)
     ·
      intro g36
      refine goG rfl rfl ?_
      refine pE rfl ?_
      refine goG rfl rfl ?_
      iterate 3 refine pE rfl ?_
      apply splitH; (case hj => rfl); (case hl => rfl)
      ·
       intro g40
       refine goG rfl rfl ?_
       refine pu (puCall rfl rfl rfl (lives37_fn ..) rfl) rfl ?_
       iterate 2 refine pE rfl ?_
       refine WO.nil ?_
       refine qv1 rfl rfl rfl
      ·
       intro g40
       refine skipT rfl rfl rfl rfl ?_
       iterate 2 refine pE rfl ?_
       refine WO.nil ?_
       refine qv1 rfl rfl rfl
     ·
      intro g36
      iterate 2 refine skipT rfl rfl rfl rfl ?_
      iterate 2 refine pE rfl ?_
      refine skipT rfl rfl rfl rfl ?_
      iterate 2 refine pE rfl ?_
      refine WO.nil ?_
      refine qv1 rfl rfl rfl
    ·
     intro g32
     iterate 2 refine skipT rfl rfl rfl rfl ?_
     iterate 2 refine pE rfl ?_
     iterate 2 refine skipT rfl rfl rfl rfl ?_
     iterate 2 refine pE rfl ?_
     refine skipT rfl rfl rfl rfl ?_
     iterate 2 refine pE rfl ?_
     refine WO.nil ?_
     refine qv1 rfl rfl rfl
   refine qs (W.ret ?_)
   refine QF.ret0 trivial rfl ?_
   rfl
end Go.Proofs.YtifeonoehfffmaaGreatDoor
