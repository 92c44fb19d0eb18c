import Derived.Test.YtmhjgeneogknpaaGreatQ7
namespace Go.Proofs.YtmhjgeneogknpaaGreat
open Go.Ab Go.Tb
set_option maxRecDepth 10000
attribute [local irreducible] W WO Pu QS QB QL QF QV QV1 CH QE
def groupsR (s : Stp) : Int := if allErr [] s.cols ≠ 0 then allErr [] s.cols else aggErr s.cols s.aggs

theorem rgroups_fn (s : Stp) (hf : fewS s) : Does Tryz.prog 65 [.ag s.c] (.d (.v (.int .i64 (groupsR s)))) 0 := by
  obtain ⟨hf1, hf2, hf3, hf4⟩ := hf
  refine Does.of_W (n := 83) (ts := [2]) Tryz.func65 (by kernel_rfl) rfl Tryz.ntmps65 Tryz.results65 rfl rfl fun C hC => ?_
  refine W.seq ?_
  refine W.region ?_
  refine boxR rfl rfl rfl ?_
  refine pu (ev tab rfl) rfl ?_
  refine WO.nil ?_
  refine qs ?_
  refine W.seq ?_
  refine W.region ?_
  refine pu (ev tab rfl) rfl ?_
  first | refine pu (ev tab rfl) rfl ?_ | refine pu (loadRow tab rfl rfl rfl rfl) rfl ?_ | refine pu (loadBox tab rfl rfl rfl rfl rfl) rfl ?_
  refine pu (puCall rfl rfl rfl (rnames_fn s.cols) rfl) rfl ?_
  refine pu (ev tab rfl) rfl ?_
  refine WO.nil ?_
  refine qs ?_
  refine W.seq ?_
  refine W.region ?_
  refine buildO tab rfl rfl rfl rfl rfl rfl rfl rfl (by rfl) ?_
  refine pu (ev tab rfl) rfl ?_
  first | refine pu (ev tab rfl) rfl ?_ | refine pu (loadRow tab rfl rfl rfl rfl) rfl ?_ | refine pu (loadBox tab rfl rfl rfl rfl rfl) rfl ?_
  refine appendMs (l := []) (fn := sc) tab rfl rfl rfl rfl rfl rfl rfl rfl rfl rfl (fun _ => rfl) (by show (0 + s.cols.length) * 16 ≤ _; omega) ?_
  refine pu (ev tab rfl) rfl ?_
  refine WO.nil ?_
  refine qs ?_
  refine W.seq ?_
  refine W.seq ?_
  refine W.region ?_
  refine pu (ev tab rfl) rfl ?_
  refine WO.nil ?_
  refine qs ?_
  refine W.block ?_
  have hlen : s.aggs.length ≤ maxLen := by simp [maxLen]; omega
  refine W.loopR (ι := {x : Nat × List ByteArray × Int // match x with | (k, ns, y) => k ≤ s.aggs.length ∧ (if y ≠ 0 then y else aggErr ns (s.aggs.drop k)) = groupsR s ∧ y = allErr [] ns ∧ ns.length ≤ 400 + k})
    (fun x => match x.1 with | (k, ns, y) => [(1, .ptr 0 0), (3, .d (.v (.int .i64 (y)))), (4, .own 1 (ns.map sc)), (5, .d (.v (.int .i64 ((k : Nat) : Int))))]) []
    (fun x => match x.1 with | (k, ns, y) => []) [(0, _)] [1] 2 (fun x => match x.1 with | (k, ns, y) => s.aggs.length - k)
    [0, 2] ⟨(0, s.cols, allErr [] s.cols), ?_⟩ rfl ?_ trivial ?_ ⟨rfl, rfl, trivial⟩ rfl ?_
  · exact ⟨Nat.zero_le _, rfl, rfl, by omega⟩
  · repeat' first | exact trivial | refine ⟨rfl, ?_⟩ | refine ⟨step_nat (by assumption) (by assumption), ?_⟩
  · repeat' first | exact trivial | refine ⟨rfl, ?_⟩ | refine ⟨step_nat (by assumption) (by assumption), ?_⟩
  rintro ⟨⟨k, ns, y⟩, hk, hI, hY, hL⟩
  show W _ _ _ _ _ ⟨[(1, .ptr 0 0), (3, .d (.v (.int .i64 (y)))), (4, .own 1 (ns.map sc)), (5, .d (.v (.int .i64 ((k : Nat) : Int))))], [(0, _)], [1], 2⟩
  refine W.seq ?_
  refine W.seq ?_
  apply regionB; (case hb => rfl)
  · skip
    iterate 2 refine pu (ev tab rfl) rfl ?_
    first | refine pu (ev tab rfl) rfl ?_ | refine pu (loadRow tab rfl rfl rfl rfl) rfl ?_ | refine pu (loadBox tab rfl rfl rfl rfl rfl) rfl ?_
    iterate 3 refine pu (ev tab rfl) rfl ?_
    apply splitJ; (case hj => rfl); (case hl => rfl)
    · skip
      refine goG rfl rfl ?_
      refine pu (ev tab rfl) rfl ?_
      refine goG rfl rfl ?_
      iterate 2 refine pu (ev tab rfl) rfl ?_
      refine WO.nil ?_
      refine qv1 rfl rfl rfl
    · skip
      refine skipT rfl rfl rfl rfl ?_
      refine skipT rfl rfl rfl rfl ?_
      refine pu (ev tab rfl) rfl ?_
      refine WO.nil ?_
      refine qv1 rfl rfl rfl
  refine qs ?_
  refine condK rfl (fun h23 => ?_) (fun h23 => ?_)
  · skip
    have h23' : k < s.aggs.length ∧ y = 0 := by revert h23; simp only [List.length_map]; by_cases q : (k : Int) < s.aggs.length <;> simp [q]; omega
    obtain ⟨hlt, rfl⟩ := h23'
    obtain ⟨a, hx, hd⟩ := exAt hlt
    rw [hd, if_neg (by decide)] at hI
    simp only [aggErr] at hI
    have hA : allErr [] (ns ++ [a.name]) = addErr ns a.name := allErr_append [] ns a.name hY.symm
    refine W.skip ?_
    refine qs ?_
    refine W.seq ?_
    refine W.block ?_
    refine W.seq ?_
    refine W.region ?_
    refine pu (ev tab rfl) rfl ?_
    first | refine pu (ev tab rfl) rfl ?_ | refine pu (loadRow tab rfl rfl rfl rfl) rfl ?_ | refine pu (loadBox tab rfl rfl rfl rfl rfl) rfl ?_
    refine pu (ev tab rfl) rfl ?_
    refine pu (indexAddr tab rfl rfl rfl rfl rfl rfl (Int.natCast_nonneg _) (idx_map hx) rfl) rfl ?_
    first | refine pu (ev tab rfl) rfl ?_ | refine pu (loadRow tab rfl rfl rfl rfl) rfl ?_ | refine pu (loadBox tab rfl rfl rfl rfl rfl) rfl ?_
    refine allocR tab rfl rfl rfl ?_
    refine storeR tab rfl rfl rfl rfl rfl rfl rfl rfl ?_
    refine WO.nil ?_
    refine qs ?_
    refine W.seq ?_
    apply regionB; (case hb => rfl)
    · skip
      refine pu (ev tab rfl) rfl ?_
      first | refine pu (ev tab rfl) rfl ?_ | refine pu (loadRow tab rfl rfl rfl rfl) rfl ?_ | refine pu (loadBox tab rfl rfl rfl rfl rfl) rfl ?_
      iterate 2 refine pu (ev tab rfl) rfl ?_
      apply splitJ; (case hj => rfl); (case hl => rfl)
      · skip
        refine skipT rfl rfl rfl rfl ?_
        refine skipT rfl rfl rfl rfl ?_
        refine skipT rfl rfl rfl rfl ?_
        iterate 2 refine pu (ev tab rfl) rfl ?_
        refine skipT rfl rfl rfl rfl ?_
        refine skipT rfl rfl rfl rfl ?_
        refine skipT rfl rfl rfl rfl ?_
        iterate 2 refine pu (ev tab rfl) rfl ?_
        refine skipT rfl rfl rfl rfl ?_
        refine skipT rfl rfl rfl rfl ?_
        refine skipT rfl rfl rfl rfl ?_
        iterate 2 refine pu (ev tab rfl) rfl ?_
        refine WO.nil ?_
        refine qv1 rfl rfl rfl
      · skip
        refine goG rfl rfl ?_
        refine pu (ev tab rfl) rfl ?_
        refine goG rfl rfl ?_
        first | refine pu (ev tab rfl) rfl ?_ | refine pu (loadRow tab rfl rfl rfl rfl) rfl ?_ | refine pu (loadBox tab rfl rfl rfl rfl rfl) rfl ?_
        refine goG rfl rfl ?_
        iterate 3 refine pu (ev tab rfl) rfl ?_
        apply splitJ; (case hj => rfl); (case hl => rfl)
        · skip
          refine skipT rfl rfl rfl rfl ?_
          refine skipT rfl rfl rfl rfl ?_
          refine skipT rfl rfl rfl rfl ?_
          iterate 2 refine pu (ev tab rfl) rfl ?_
          refine skipT rfl rfl rfl rfl ?_
          refine skipT rfl rfl rfl rfl ?_
          refine skipT rfl rfl rfl rfl ?_
          iterate 2 refine pu (ev tab rfl) rfl ?_
          refine WO.nil ?_
          refine qv1 rfl rfl rfl
        · skip
          refine goG rfl rfl ?_
          refine pu (ev tab rfl) rfl ?_
          refine goG rfl rfl ?_
          first | refine pu (ev tab rfl) rfl ?_ | refine pu (loadRow tab rfl rfl rfl rfl) rfl ?_ | refine pu (loadBox tab rfl rfl rfl rfl rfl) rfl ?_
          refine goG rfl rfl ?_
          iterate 3 refine pu (ev tab rfl) rfl ?_
          apply splitJ; (case hj => rfl); (case hl => rfl)
          · skip
            refine skipT rfl rfl rfl rfl ?_
            refine skipT rfl rfl rfl rfl ?_
            refine skipT rfl rfl rfl rfl ?_
            iterate 2 refine pu (ev tab rfl) rfl ?_
            refine WO.nil ?_
            refine qv1 rfl rfl rfl
          · skip
            refine goG rfl rfl ?_
            refine pu (ev tab rfl) rfl ?_
            refine goG rfl rfl ?_
            first | refine pu (ev tab rfl) rfl ?_ | refine pu (loadRow tab rfl rfl rfl rfl) rfl ?_ | refine pu (loadBox tab rfl rfl rfl rfl rfl) rfl ?_
            refine goG rfl rfl ?_
            iterate 3 refine pu (ev tab rfl) rfl ?_
            refine WO.nil ?_
            refine qv1 rfl rfl rfl
    refine qs ?_
    refine W.seq ?_
    refine W.seq ?_
    apply regionB; (case hb => rfl)
    · skip
      refine pu (ev tab rfl) rfl ?_
      first | refine pu (ev tab rfl) rfl ?_ | refine pu (loadRow tab rfl rfl rfl rfl) rfl ?_ | refine pu (loadBox tab rfl rfl rfl rfl rfl) rfl ?_
      iterate 2 refine pu (ev tab rfl) rfl ?_
      apply splitJ; (case hj => rfl); (case hl => rfl)
      · skip
        refine skipT rfl rfl rfl rfl ?_
        refine skipT rfl rfl rfl rfl ?_
        refine skipT rfl rfl rfl rfl ?_
        iterate 2 refine pu (ev tab rfl) rfl ?_
        refine goG rfl rfl ?_
        refine pu (ev tab rfl) rfl ?_
        refine goG rfl rfl ?_
        refine pu (ev tab rfl) rfl ?_
        refine goG rfl rfl ?_
        refine pu (ev tab rfl) rfl ?_
        apply splitJ; (case hj => rfl); (case hl => rfl)
        · skip
          refine skipT rfl rfl rfl rfl ?_
          refine skipT rfl rfl rfl rfl ?_
          refine skipT rfl rfl rfl rfl ?_
          refine goG rfl rfl ?_
          iterate 2 refine pu (ev tab rfl) rfl ?_
          refine WO.nil ?_
          refine qv1 rfl rfl rfl
        · skip
          refine goG rfl rfl ?_
          refine pu (ev tab rfl) rfl ?_
          refine goG rfl rfl ?_
          first | refine pu (ev tab rfl) rfl ?_ | refine pu (loadRow tab rfl rfl rfl rfl) rfl ?_ | refine pu (loadBox tab rfl rfl rfl rfl rfl) rfl ?_
          refine goG rfl rfl ?_
          refine pu (ev tab rfl) rfl ?_
          refine goG rfl rfl ?_
          iterate 2 refine pu (ev tab rfl) rfl ?_
          refine WO.nil ?_
          refine qv1 rfl rfl rfl
      · skip
        refine goG rfl rfl ?_
        refine pu (ev tab rfl) rfl ?_
        refine goG rfl rfl ?_
        first | refine pu (ev tab rfl) rfl ?_ | refine pu (loadRow tab rfl rfl rfl rfl) rfl ?_ | refine pu (loadBox tab rfl rfl rfl rfl rfl) rfl ?_
        refine goG rfl rfl ?_
        iterate 3 refine pu (ev tab rfl) rfl ?_
        apply splitJ; (case hj => rfl); (case hl => rfl)
        · skip
          refine goG rfl rfl ?_
          refine pu (ev tab rfl) rfl ?_
          refine goG rfl rfl ?_
          refine pu (ev tab rfl) rfl ?_
          refine goG rfl rfl ?_
          refine pu (ev tab rfl) rfl ?_
          apply splitJ; (case hj => rfl); (case hl => rfl)
          · skip
            refine skipT rfl rfl rfl rfl ?_
            refine skipT rfl rfl rfl rfl ?_
            refine skipT rfl rfl rfl rfl ?_
            refine goG rfl rfl ?_
            iterate 2 refine pu (ev tab rfl) rfl ?_
            refine WO.nil ?_
            refine qv1 rfl rfl rfl
          · skip
            refine goG rfl rfl ?_
            refine pu (ev tab rfl) rfl ?_
            refine goG rfl rfl ?_
            first | refine pu (ev tab rfl) rfl ?_ | refine pu (loadRow tab rfl rfl rfl rfl) rfl ?_ | refine pu (loadBox tab rfl rfl rfl rfl rfl) rfl ?_
            refine goG rfl rfl ?_
            refine pu (ev tab rfl) rfl ?_
            refine goG rfl rfl ?_
            iterate 2 refine pu (ev tab rfl) rfl ?_
            refine WO.nil ?_
            refine qv1 rfl rfl rfl
        · skip
          refine skipT rfl rfl rfl rfl ?_
          refine skipT rfl rfl rfl rfl ?_
          refine skipT rfl rfl rfl rfl ?_
          refine skipU rfl rfl rfl ?_
          refine skipU rfl rfl rfl ?_
          refine skipU rfl rfl rfl ?_
          refine skipT rfl rfl rfl rfl ?_
          refine pu (ev tab rfl) rfl ?_
          refine WO.nil ?_
          refine qv1 rfl rfl rfl
    refine qs ?_
    refine condK rfl (fun h65 => ?_) (fun h65 => ?_)
    · skip
      have h65 : badAgg a = true := by revert h65; simp only [badAgg, knownAgg, wCount, wSum, wMin, wMax, wFirst]; by_cases q : a.fn = B #[99, 111, 117, 110, 116] <;> by_cases q2 : a.col = B #[] <;> simp [q, q2] <;> grind
      rw [if_pos h65] at hI
      refine W.seq ?_
      refine W.region ?_
      refine pu (ev tab rfl) rfl ?_
      refine WO.nil ?_
      refine qs ?_
      refine W.ret ?_
      refine qsRet ?_
      refine qbRet ?_
      refine qsRet ?_
      refine qlRet ?_
      refine qbRet ?_
      refine qsRet ?_
      refine QF.ret0 trivial rfl ?_
      rw [← hI]; rfl
    · skip
      have h65 : ¬ (badAgg a = true) := by revert h65; simp only [badAgg, knownAgg, wCount, wSum, wMin, wMax, wFirst]; by_cases q : a.fn = B #[99, 111, 117, 110, 116] <;> by_cases q2 : a.col = B #[] <;> simp [q, q2] <;> grind
      rw [if_neg h65] at hI
      refine W.skip ?_
      refine qs ?_
      refine W.seq ?_
      refine W.seq ?_
      apply regionB; (case hb => rfl)
      · skip
        refine pu (ev tab rfl) rfl ?_
        first | refine pu (ev tab rfl) rfl ?_ | refine pu (loadRow tab rfl rfl rfl rfl) rfl ?_ | refine pu (loadBox tab rfl rfl rfl rfl rfl) rfl ?_
        iterate 2 refine pu (ev tab rfl) rfl ?_
        apply splitJ; (case hj => rfl); (case hl => rfl)
        · skip
          refine goG rfl rfl ?_
          refine pu (ev tab rfl) rfl ?_
          refine goG rfl rfl ?_
          first | refine pu (ev tab rfl) rfl ?_ | refine pu (loadRow tab rfl rfl rfl rfl) rfl ?_ | refine pu (loadBox tab rfl rfl rfl rfl rfl) rfl ?_
          refine goG rfl rfl ?_
          refine pu (puCall rfl rfl rfl (ident_fn ..) rfl) rfl ?_
          refine goG rfl rfl ?_
          iterate 2 refine pu (ev tab rfl) rfl ?_
          refine WO.nil ?_
          refine qv1 rfl rfl rfl
        · skip
          refine skipT rfl rfl rfl rfl ?_
          refine skipT rfl rfl rfl rfl ?_
          refine skipT rfl rfl rfl rfl ?_
          refine skipT rfl rfl rfl rfl ?_
          refine pu (ev tab rfl) rfl ?_
          refine WO.nil ?_
          refine qv1 rfl rfl rfl
      refine qs ?_
      refine condK rfl (fun h74 => ?_) (fun h74 => ?_)
      · skip
        have h74 : a.col ≠ B #[] ∧ identB a.col = false := by revert h74; by_cases q2 : a.col = B #[] <;> simp [q2]
        rw [if_pos h74] at hI
        refine W.seq ?_
        refine W.region ?_
        refine pu (ev tab rfl) rfl ?_
        refine WO.nil ?_
        refine qs ?_
        refine W.ret ?_
        refine qsRet ?_
        refine qbRet ?_
        refine qsRet ?_
        refine qlRet ?_
        refine qbRet ?_
        refine qsRet ?_
        refine QF.ret0 trivial rfl ?_
        rw [← hI]; rfl
      · skip
        have h74 : ¬ (a.col ≠ B #[] ∧ identB a.col = false) := by revert h74; by_cases q2 : a.col = B #[] <;> simp [q2]
        rw [if_neg h74] at hI
        refine W.skip ?_
        refine qs ?_
        refine W.seq ?_
        refine W.region ?_
        iterate 2 refine pu (ev tab rfl) rfl ?_
        first | refine pu (ev tab rfl) rfl ?_ | refine pu (loadRow tab rfl rfl rfl rfl) rfl ?_ | refine pu (loadBox tab rfl rfl rfl rfl rfl) rfl ?_
        refine pu (buildV tab rfl rfl rfl rfl rfl rfl rfl rfl rfl) rfl ?_
        refine appendM (a := a.name) tab rfl rfl rfl rfl rfl rfl rfl rfl rfl rfl (fun _ => rfl) (by show (ns.length + 1) * 16 ≤ _; omega) ?_
        refine pu (ev tab rfl) rfl ?_
        refine WO.nil ?_
        refine qs ?_
        refine W.region ?_
        refine pu (ev tab rfl) rfl ?_
        refine pu (puCall rfl rfl rfl (rnames_fn (ns ++ [a.name])) rfl) rfl ?_
        refine pu (ev tab rfl) rfl ?_
        refine WO.nil ?_
        refine qbN ?_
        refine qs ?_
        refine W.region ?_
        iterate 3 refine pu (ev tab rfl) rfl ?_
        refine WO.nil ?_
        refine W.endR [0, 3] ⟨(k + 1, ns ++ [a.name], allErr [] (ns ++ [a.name])), ?_⟩ ?_ rfl ?_ trivial ?_ ⟨rfl, rfl, trivial⟩ rfl
        · refine ⟨hlt, ?_, rfl, by simp; omega⟩
          simp only [hA]
          exact hI
        · dsimp only; omega
        · repeat' first | exact trivial | refine ⟨rfl, ?_⟩ | refine ⟨step_nat (by assumption) (by assumption), ?_⟩
        · repeat' first | exact trivial | refine ⟨rfl, ?_⟩ | refine ⟨step_nat (by assumption) (by assumption), ?_⟩
  · skip
    have h23' : k < s.aggs.length → y ≠ 0 := by
      intro hk2 hy
      have hk3 : (k : Int) < s.aggs.length := by omega
      simp [hk3, hy] at h23
    have hR : groupsR s = y := by
      rw [← hI]
      by_cases hy : y = 0
      · have hk2 : ¬ k < s.aggs.length := fun h => h23' h hy
        rw [if_neg (by simp [hy]), dropEnd (by omega)]
        simp [aggErr, hy]
      · rw [if_pos hy]
    refine W.exit ?_
    refine qsExit ?_
    refine qlExit ?_
    refine qbExit ?_
    refine qs ?_
    refine W.seq ?_
    refine W.region ?_
    iterate 2 refine pu (ev tab rfl) rfl ?_
    refine WO.nil ?_
    refine qs ?_
    refine W.ret ?_
    refine QF.ret0 trivial rfl ?_
    rw [hR]; rfl

def shortB (s : Stp) : Bool := (decide (s.op = 2) && decide (s.items.length = 0)) || (decide (s.op = 3) && decide (s.cols.length + s.aggs.length = 0)) || (decide (s.op = 4) && decide (s.sorts.length = 0)) || (decide (s.op = 6) && decide (s.cols.length = 0))
def sizesE (s : Stp) : Int := if shortB s = true then 8 else if 16 < s.items.length ∨ 16 < s.cols.length ∨ 16 < s.aggs.length ∨ 16 < s.sorts.length then 7 else 0

theorem rsizes_fn (s : Stp) (hf : fewS s) : Does Tryz.prog 62 [.ag s.c] (.d (.v (.int .i64 (sizesE s)))) 0 := by
  obtain ⟨hf1, hf2, hf3, hf4⟩ := hf
  refine Does.of_W (n := 73) (ts := [2]) Tryz.func62 (by kernel_rfl) rfl Tryz.ntmps62 Tryz.results62 rfl rfl fun C hC => ?_
  refine W.seq ?_
  refine W.region ?_
  refine boxR rfl rfl rfl ?_
  refine pu (ev tab rfl) rfl ?_
  refine WO.nil ?_
  refine qs ?_
  refine W.seq ?_
  apply regionB; (case hb => rfl)
  · skip
    refine pu (ev tab rfl) rfl ?_
    first | refine pu (ev tab rfl) rfl ?_ | refine pu (loadRow tab rfl rfl rfl rfl) rfl ?_ | refine pu (loadBox tab rfl rfl rfl rfl rfl) rfl ?_
    iterate 2 refine pu (ev tab rfl) rfl ?_
    apply splitJ; (case hj => rfl); (case hl => rfl)
    · skip
      refine goG rfl rfl ?_
      refine pu (ev tab rfl) rfl ?_
      refine goG rfl rfl ?_
      first | refine pu (ev tab rfl) rfl ?_ | refine pu (loadRow tab rfl rfl rfl rfl) rfl ?_ | refine pu (loadBox tab rfl rfl rfl rfl rfl) rfl ?_
      refine goG rfl rfl ?_
      refine pu (ev tab rfl) rfl ?_
      refine goG rfl rfl ?_
      iterate 3 refine pu (ev tab rfl) rfl ?_
      apply splitJ; (case hj => rfl); (case hl => rfl)
      · skip
        refine skipT rfl rfl rfl rfl ?_
        refine skipT rfl rfl rfl rfl ?_
        refine skipT rfl rfl rfl rfl ?_
        refine skipT rfl rfl rfl rfl ?_
        refine skipU rfl rfl rfl ?_
        refine skipU rfl rfl rfl ?_
        refine skipU rfl rfl rfl ?_
        refine skipU rfl rfl rfl ?_
        refine skipU rfl rfl rfl ?_
        refine skipU rfl rfl rfl ?_
        refine skipU rfl rfl rfl ?_
        refine skipU rfl rfl rfl ?_
        refine skipT rfl rfl rfl rfl ?_
        iterate 2 refine pu (ev tab rfl) rfl ?_
        refine skipT rfl rfl rfl rfl ?_
        refine skipT rfl rfl rfl rfl ?_
        refine skipT rfl rfl rfl rfl ?_
        refine skipT rfl rfl rfl rfl ?_
        refine skipU rfl rfl rfl ?_
        refine skipU rfl rfl rfl ?_
        refine skipU rfl rfl rfl ?_
        refine skipU rfl rfl rfl ?_
        refine skipT rfl rfl rfl rfl ?_
        iterate 2 refine pu (ev tab rfl) rfl ?_
        refine skipT rfl rfl rfl rfl ?_
        refine skipT rfl rfl rfl rfl ?_
        refine skipT rfl rfl rfl rfl ?_
        refine skipT rfl rfl rfl rfl ?_
        refine skipU rfl rfl rfl ?_
        refine skipU rfl rfl rfl ?_
        refine skipU rfl rfl rfl ?_
        refine skipU rfl rfl rfl ?_
        refine skipT rfl rfl rfl rfl ?_
        iterate 2 refine pu (ev tab rfl) rfl ?_
        refine WO.nil ?_
        refine qv1 rfl rfl rfl
      · skip
        refine goG rfl rfl ?_
        refine pu (ev tab rfl) rfl ?_
        refine goG rfl rfl ?_
        first | refine pu (ev tab rfl) rfl ?_ | refine pu (loadRow tab rfl rfl rfl rfl) rfl ?_ | refine pu (loadBox tab rfl rfl rfl rfl rfl) rfl ?_
        refine goG rfl rfl ?_
        refine pu (ev tab rfl) rfl ?_
        refine goG rfl rfl ?_
        refine pu (ev tab rfl) rfl ?_
        apply splitJ; (case hj => rfl); (case hl => rfl)
        · skip
          refine goG rfl rfl ?_
          refine pu (ev tab rfl) rfl ?_
          refine goG rfl rfl ?_
          first | refine pu (ev tab rfl) rfl ?_ | refine pu (loadRow tab rfl rfl rfl rfl) rfl ?_ | refine pu (loadBox tab rfl rfl rfl rfl rfl) rfl ?_
          refine goG rfl rfl ?_
          refine pu (ev tab rfl) rfl ?_
          refine goG rfl rfl ?_
          refine pu (ev tab rfl) rfl ?_
          refine goG rfl rfl ?_
          first | refine pu (ev tab rfl) rfl ?_ | refine pu (loadRow tab rfl rfl rfl rfl) rfl ?_ | refine pu (loadBox tab rfl rfl rfl rfl rfl) rfl ?_
          refine goG rfl rfl ?_
          refine pu (ev tab rfl) rfl ?_
          refine goG rfl rfl ?_
          refine pu (puI (ev tab rfl) (y := ((s.cols.length + s.aggs.length : Nat) : Int)) (by simp only [List.length_map]; rw [wrap64 (by omega)]; omega)) rfl ?_
          refine goG rfl rfl ?_
          refine pu (ev tab rfl) rfl ?_
          refine goG rfl rfl ?_
          iterate 3 refine pu (ev tab rfl) rfl ?_
          apply splitJ; (case hj => rfl); (case hl => rfl)
          · skip
            refine skipT rfl rfl rfl rfl ?_
            refine skipT rfl rfl rfl rfl ?_
            refine skipT rfl rfl rfl rfl ?_
            refine skipT rfl rfl rfl rfl ?_
            refine skipU rfl rfl rfl ?_
            refine skipU rfl rfl rfl ?_
            refine skipU rfl rfl rfl ?_
            refine skipU rfl rfl rfl ?_
            refine skipT rfl rfl rfl rfl ?_
            iterate 2 refine pu (ev tab rfl) rfl ?_
            refine skipT rfl rfl rfl rfl ?_
            refine skipT rfl rfl rfl rfl ?_
            refine skipT rfl rfl rfl rfl ?_
            refine skipT rfl rfl rfl rfl ?_
            refine skipU rfl rfl rfl ?_
            refine skipU rfl rfl rfl ?_
            refine skipU rfl rfl rfl ?_
            refine skipU rfl rfl rfl ?_
            refine skipT rfl rfl rfl rfl ?_
            iterate 2 refine pu (ev tab rfl) rfl ?_
            refine WO.nil ?_
            refine qv1 rfl rfl rfl
          · skip
            refine goG rfl rfl ?_
            refine pu (ev tab rfl) rfl ?_
            refine goG rfl rfl ?_
            first | refine pu (ev tab rfl) rfl ?_ | refine pu (loadRow tab rfl rfl rfl rfl) rfl ?_ | refine pu (loadBox tab rfl rfl rfl rfl rfl) rfl ?_
            refine goG rfl rfl ?_
            refine pu (ev tab rfl) rfl ?_
            refine goG rfl rfl ?_
            refine pu (ev tab rfl) rfl ?_
            apply splitJ; (case hj => rfl); (case hl => rfl)
            · skip
              refine goG rfl rfl ?_
              refine pu (ev tab rfl) rfl ?_
              refine goG rfl rfl ?_
              first | refine pu (ev tab rfl) rfl ?_ | refine pu (loadRow tab rfl rfl rfl rfl) rfl ?_ | refine pu (loadBox tab rfl rfl rfl rfl rfl) rfl ?_
              refine goG rfl rfl ?_
              refine pu (ev tab rfl) rfl ?_
              refine goG rfl rfl ?_
              refine pu (ev tab rfl) rfl ?_
              refine goG rfl rfl ?_
              iterate 3 refine pu (ev tab rfl) rfl ?_
              apply splitJ; (case hj => rfl); (case hl => rfl)
              · skip
                refine skipT rfl rfl rfl rfl ?_
                refine skipT rfl rfl rfl rfl ?_
                refine skipT rfl rfl rfl rfl ?_
                refine skipT rfl rfl rfl rfl ?_
                refine skipU rfl rfl rfl ?_
                refine skipU rfl rfl rfl ?_
                refine skipU rfl rfl rfl ?_
                refine skipU rfl rfl rfl ?_
                refine skipT rfl rfl rfl rfl ?_
                iterate 2 refine pu (ev tab rfl) rfl ?_
                refine WO.nil ?_
                refine qv1 rfl rfl rfl
              · skip
                refine goG rfl rfl ?_
                refine pu (ev tab rfl) rfl ?_
                refine goG rfl rfl ?_
                first | refine pu (ev tab rfl) rfl ?_ | refine pu (loadRow tab rfl rfl rfl rfl) rfl ?_ | refine pu (loadBox tab rfl rfl rfl rfl rfl) rfl ?_
                refine goG rfl rfl ?_
                refine pu (ev tab rfl) rfl ?_
                refine goG rfl rfl ?_
                refine pu (ev tab rfl) rfl ?_
                apply splitJ; (case hj => rfl); (case hl => rfl)
                · skip
                  refine goG rfl rfl ?_
                  refine pu (ev tab rfl) rfl ?_
                  refine goG rfl rfl ?_
                  first | refine pu (ev tab rfl) rfl ?_ | refine pu (loadRow tab rfl rfl rfl rfl) rfl ?_ | refine pu (loadBox tab rfl rfl rfl rfl rfl) rfl ?_
                  refine goG rfl rfl ?_
                  refine pu (ev tab rfl) rfl ?_
                  refine goG rfl rfl ?_
                  refine pu (ev tab rfl) rfl ?_
                  refine goG rfl rfl ?_
                  iterate 3 refine pu (ev tab rfl) rfl ?_
                  refine WO.nil ?_
                  refine qv1 rfl rfl rfl
                · skip
                  refine skipT rfl rfl rfl rfl ?_
                  refine skipT rfl rfl rfl rfl ?_
                  refine skipT rfl rfl rfl rfl ?_
                  refine skipT rfl rfl rfl rfl ?_
                  refine goG rfl rfl ?_
                  iterate 3 refine pu (ev tab rfl) rfl ?_
                  refine WO.nil ?_
                  refine qv1 rfl rfl rfl
            · skip
              refine skipT rfl rfl rfl rfl ?_
              refine skipT rfl rfl rfl rfl ?_
              refine skipT rfl rfl rfl rfl ?_
              refine skipT rfl rfl rfl rfl ?_
              refine goG rfl rfl ?_
              iterate 3 refine pu (ev tab rfl) rfl ?_
              refine goG rfl rfl ?_
              refine pu (ev tab rfl) rfl ?_
              refine goG rfl rfl ?_
              first | refine pu (ev tab rfl) rfl ?_ | refine pu (loadRow tab rfl rfl rfl rfl) rfl ?_ | refine pu (loadBox tab rfl rfl rfl rfl rfl) rfl ?_
              refine goG rfl rfl ?_
              refine pu (ev tab rfl) rfl ?_
              refine goG rfl rfl ?_
              refine pu (ev tab rfl) rfl ?_
              apply splitJ; (case hj => rfl); (case hl => rfl)
              · skip
                refine goG rfl rfl ?_
                refine pu (ev tab rfl) rfl ?_
                refine goG rfl rfl ?_
                first | refine pu (ev tab rfl) rfl ?_ | refine pu (loadRow tab rfl rfl rfl rfl) rfl ?_ | refine pu (loadBox tab rfl rfl rfl rfl rfl) rfl ?_
                refine goG rfl rfl ?_
                refine pu (ev tab rfl) rfl ?_
                refine goG rfl rfl ?_
                refine pu (ev tab rfl) rfl ?_
                refine goG rfl rfl ?_
                iterate 3 refine pu (ev tab rfl) rfl ?_
                refine WO.nil ?_
                refine qv1 rfl rfl rfl
              · skip
                refine skipT rfl rfl rfl rfl ?_
                refine skipT rfl rfl rfl rfl ?_
                refine skipT rfl rfl rfl rfl ?_
                refine skipT rfl rfl rfl rfl ?_
                refine goG rfl rfl ?_
                iterate 3 refine pu (ev tab rfl) rfl ?_
                refine WO.nil ?_
                refine qv1 rfl rfl rfl
        · skip
          refine skipT rfl rfl rfl rfl ?_
          refine skipT rfl rfl rfl rfl ?_
          refine skipT rfl rfl rfl rfl ?_
          refine skipT rfl rfl rfl rfl ?_
          refine skipT rfl rfl rfl rfl ?_
          refine skipT rfl rfl rfl rfl ?_
          refine skipT rfl rfl rfl rfl ?_
          refine skipT rfl rfl rfl rfl ?_
          refine goG rfl rfl ?_
          iterate 3 refine pu (ev tab rfl) rfl ?_
          refine goG rfl rfl ?_
          refine pu (ev tab rfl) rfl ?_
          refine goG rfl rfl ?_
          first | refine pu (ev tab rfl) rfl ?_ | refine pu (loadRow tab rfl rfl rfl rfl) rfl ?_ | refine pu (loadBox tab rfl rfl rfl rfl rfl) rfl ?_
          refine goG rfl rfl ?_
          refine pu (ev tab rfl) rfl ?_
          refine goG rfl rfl ?_
          refine pu (ev tab rfl) rfl ?_
          apply splitJ; (case hj => rfl); (case hl => rfl)
          · skip
            refine goG rfl rfl ?_
            refine pu (ev tab rfl) rfl ?_
            refine goG rfl rfl ?_
            first | refine pu (ev tab rfl) rfl ?_ | refine pu (loadRow tab rfl rfl rfl rfl) rfl ?_ | refine pu (loadBox tab rfl rfl rfl rfl rfl) rfl ?_
            refine goG rfl rfl ?_
            refine pu (ev tab rfl) rfl ?_
            refine goG rfl rfl ?_
            refine pu (ev tab rfl) rfl ?_
            refine goG rfl rfl ?_
            iterate 3 refine pu (ev tab rfl) rfl ?_
            apply splitJ; (case hj => rfl); (case hl => rfl)
            · skip
              refine skipT rfl rfl rfl rfl ?_
              refine skipT rfl rfl rfl rfl ?_
              refine skipT rfl rfl rfl rfl ?_
              refine skipT rfl rfl rfl rfl ?_
              refine skipU rfl rfl rfl ?_
              refine skipU rfl rfl rfl ?_
              refine skipU rfl rfl rfl ?_
              refine skipU rfl rfl rfl ?_
              refine skipT rfl rfl rfl rfl ?_
              iterate 2 refine pu (ev tab rfl) rfl ?_
              refine WO.nil ?_
              refine qv1 rfl rfl rfl
            · skip
              refine goG rfl rfl ?_
              refine pu (ev tab rfl) rfl ?_
              refine goG rfl rfl ?_
              first | refine pu (ev tab rfl) rfl ?_ | refine pu (loadRow tab rfl rfl rfl rfl) rfl ?_ | refine pu (loadBox tab rfl rfl rfl rfl rfl) rfl ?_
              refine goG rfl rfl ?_
              refine pu (ev tab rfl) rfl ?_
              refine goG rfl rfl ?_
              refine pu (ev tab rfl) rfl ?_
              apply splitJ; (case hj => rfl); (case hl => rfl)
              · skip
                refine goG rfl rfl ?_
                refine pu (ev tab rfl) rfl ?_
                refine goG rfl rfl ?_
                first | refine pu (ev tab rfl) rfl ?_ | refine pu (loadRow tab rfl rfl rfl rfl) rfl ?_ | refine pu (loadBox tab rfl rfl rfl rfl rfl) rfl ?_
                refine goG rfl rfl ?_
                refine pu (ev tab rfl) rfl ?_
                refine goG rfl rfl ?_
                refine pu (ev tab rfl) rfl ?_
                refine goG rfl rfl ?_
                iterate 3 refine pu (ev tab rfl) rfl ?_
                refine WO.nil ?_
                refine qv1 rfl rfl rfl
              · skip
                refine skipT rfl rfl rfl rfl ?_
                refine skipT rfl rfl rfl rfl ?_
                refine skipT rfl rfl rfl rfl ?_
                refine skipT rfl rfl rfl rfl ?_
                refine goG rfl rfl ?_
                iterate 3 refine pu (ev tab rfl) rfl ?_
                refine WO.nil ?_
                refine qv1 rfl rfl rfl
          · skip
            refine skipT rfl rfl rfl rfl ?_
            refine skipT rfl rfl rfl rfl ?_
            refine skipT rfl rfl rfl rfl ?_
            refine skipT rfl rfl rfl rfl ?_
            refine goG rfl rfl ?_
            iterate 3 refine pu (ev tab rfl) rfl ?_
            refine goG rfl rfl ?_
            refine pu (ev tab rfl) rfl ?_
            refine goG rfl rfl ?_
            first | refine pu (ev tab rfl) rfl ?_ | refine pu (loadRow tab rfl rfl rfl rfl) rfl ?_ | refine pu (loadBox tab rfl rfl rfl rfl rfl) rfl ?_
            refine goG rfl rfl ?_
            refine pu (ev tab rfl) rfl ?_
            refine goG rfl rfl ?_
            refine pu (ev tab rfl) rfl ?_
            apply splitJ; (case hj => rfl); (case hl => rfl)
            · skip
              refine goG rfl rfl ?_
              refine pu (ev tab rfl) rfl ?_
              refine goG rfl rfl ?_
              first | refine pu (ev tab rfl) rfl ?_ | refine pu (loadRow tab rfl rfl rfl rfl) rfl ?_ | refine pu (loadBox tab rfl rfl rfl rfl rfl) rfl ?_
              refine goG rfl rfl ?_
              refine pu (ev tab rfl) rfl ?_
              refine goG rfl rfl ?_
              refine pu (ev tab rfl) rfl ?_
              refine goG rfl rfl ?_
              iterate 3 refine pu (ev tab rfl) rfl ?_
              refine WO.nil ?_
              refine qv1 rfl rfl rfl
            · skip
              refine skipT rfl rfl rfl rfl ?_
              refine skipT rfl rfl rfl rfl ?_
              refine skipT rfl rfl rfl rfl ?_
              refine skipT rfl rfl rfl rfl ?_
              refine goG rfl rfl ?_
              iterate 3 refine pu (ev tab rfl) rfl ?_
              refine WO.nil ?_
              refine qv1 rfl rfl rfl
    · skip
      refine skipT rfl rfl rfl rfl ?_
      refine skipT rfl rfl rfl rfl ?_
      refine skipT rfl rfl rfl rfl ?_
      refine skipT rfl rfl rfl rfl ?_
      iterate 2 refine pu (ev tab rfl) rfl ?_
      refine goG rfl rfl ?_
      refine pu (ev tab rfl) rfl ?_
      refine goG rfl rfl ?_
      first | refine pu (ev tab rfl) rfl ?_ | refine pu (loadRow tab rfl rfl rfl rfl) rfl ?_ | refine pu (loadBox tab rfl rfl rfl rfl rfl) rfl ?_
      refine goG rfl rfl ?_
      refine pu (ev tab rfl) rfl ?_
      refine goG rfl rfl ?_
      refine pu (ev tab rfl) rfl ?_
      apply splitJ; (case hj => rfl); (case hl => rfl)
      · skip
        refine goG rfl rfl ?_
        refine pu (ev tab rfl) rfl ?_
        refine goG rfl rfl ?_
        first | refine pu (ev tab rfl) rfl ?_ | refine pu (loadRow tab rfl rfl rfl rfl) rfl ?_ | refine pu (loadBox tab rfl rfl rfl rfl rfl) rfl ?_
        refine goG rfl rfl ?_
        refine pu (ev tab rfl) rfl ?_
        refine goG rfl rfl ?_
        refine pu (ev tab rfl) rfl ?_
        refine goG rfl rfl ?_
        first | refine pu (ev tab rfl) rfl ?_ | refine pu (loadRow tab rfl rfl rfl rfl) rfl ?_ | refine pu (loadBox tab rfl rfl rfl rfl rfl) rfl ?_
        refine goG rfl rfl ?_
        refine pu (ev tab rfl) rfl ?_
        refine goG rfl rfl ?_
        refine pu (puI (ev tab rfl) (y := ((s.cols.length + s.aggs.length : Nat) : Int)) (by simp only [List.length_map]; rw [wrap64 (by omega)]; omega)) rfl ?_
        refine goG rfl rfl ?_
        refine pu (ev tab rfl) rfl ?_
        refine goG rfl rfl ?_
        iterate 3 refine pu (ev tab rfl) rfl ?_
        apply splitJ; (case hj => rfl); (case hl => rfl)
        · skip
          refine skipT rfl rfl rfl rfl ?_
          refine skipT rfl rfl rfl rfl ?_
          refine skipT rfl rfl rfl rfl ?_
          refine skipT rfl rfl rfl rfl ?_
          refine skipU rfl rfl rfl ?_
          refine skipU rfl rfl rfl ?_
          refine skipU rfl rfl rfl ?_
          refine skipU rfl rfl rfl ?_
          refine skipT rfl rfl rfl rfl ?_
          iterate 2 refine pu (ev tab rfl) rfl ?_
          refine skipT rfl rfl rfl rfl ?_
          refine skipT rfl rfl rfl rfl ?_
          refine skipT rfl rfl rfl rfl ?_
          refine skipT rfl rfl rfl rfl ?_
          refine skipU rfl rfl rfl ?_
          refine skipU rfl rfl rfl ?_
          refine skipU rfl rfl rfl ?_
          refine skipU rfl rfl rfl ?_
          refine skipT rfl rfl rfl rfl ?_
          iterate 2 refine pu (ev tab rfl) rfl ?_
          refine WO.nil ?_
          refine qv1 rfl rfl rfl
        · skip
          refine goG rfl rfl ?_
          refine pu (ev tab rfl) rfl ?_
          refine goG rfl rfl ?_
          first | refine pu (ev tab rfl) rfl ?_ | refine pu (loadRow tab rfl rfl rfl rfl) rfl ?_ | refine pu (loadBox tab rfl rfl rfl rfl rfl) rfl ?_
          refine goG rfl rfl ?_
          refine pu (ev tab rfl) rfl ?_
          refine goG rfl rfl ?_
          refine pu (ev tab rfl) rfl ?_
          apply splitJ; (case hj => rfl); (case hl => rfl)
          · skip
            refine goG rfl rfl ?_
            refine pu (ev tab rfl) rfl ?_
            refine goG rfl rfl ?_
            first | refine pu (ev tab rfl) rfl ?_ | refine pu (loadRow tab rfl rfl rfl rfl) rfl ?_ | refine pu (loadBox tab rfl rfl rfl rfl rfl) rfl ?_
            refine goG rfl rfl ?_
            refine pu (ev tab rfl) rfl ?_
            refine goG rfl rfl ?_
            refine pu (ev tab rfl) rfl ?_
            refine goG rfl rfl ?_
            iterate 3 refine pu (ev tab rfl) rfl ?_
            apply splitJ; (case hj => rfl); (case hl => rfl)
            · skip
              refine skipT rfl rfl rfl rfl ?_
              refine skipT rfl rfl rfl rfl ?_
              refine skipT rfl rfl rfl rfl ?_
              refine skipT rfl rfl rfl rfl ?_
              refine skipU rfl rfl rfl ?_
              refine skipU rfl rfl rfl ?_
              refine skipU rfl rfl rfl ?_
              refine skipU rfl rfl rfl ?_
              refine skipT rfl rfl rfl rfl ?_
              iterate 2 refine pu (ev tab rfl) rfl ?_
              refine WO.nil ?_
              refine qv1 rfl rfl rfl
            · skip
              refine goG rfl rfl ?_
              refine pu (ev tab rfl) rfl ?_
              refine goG rfl rfl ?_
              first | refine pu (ev tab rfl) rfl ?_ | refine pu (loadRow tab rfl rfl rfl rfl) rfl ?_ | refine pu (loadBox tab rfl rfl rfl rfl rfl) rfl ?_
              refine goG rfl rfl ?_
              refine pu (ev tab rfl) rfl ?_
              refine goG rfl rfl ?_
              refine pu (ev tab rfl) rfl ?_
              apply splitJ; (case hj => rfl); (case hl => rfl)
              · skip
                refine goG rfl rfl ?_
                refine pu (ev tab rfl) rfl ?_
                refine goG rfl rfl ?_
                first | refine pu (ev tab rfl) rfl ?_ | refine pu (loadRow tab rfl rfl rfl rfl) rfl ?_ | refine pu (loadBox tab rfl rfl rfl rfl rfl) rfl ?_
                refine goG rfl rfl ?_
                refine pu (ev tab rfl) rfl ?_
                refine goG rfl rfl ?_
                refine pu (ev tab rfl) rfl ?_
                refine goG rfl rfl ?_
                iterate 3 refine pu (ev tab rfl) rfl ?_
                refine WO.nil ?_
                refine qv1 rfl rfl rfl
              · skip
                refine skipT rfl rfl rfl rfl ?_
                refine skipT rfl rfl rfl rfl ?_
                refine skipT rfl rfl rfl rfl ?_
                refine skipT rfl rfl rfl rfl ?_
                refine goG rfl rfl ?_
                iterate 3 refine pu (ev tab rfl) rfl ?_
                refine WO.nil ?_
                refine qv1 rfl rfl rfl
          · skip
            refine skipT rfl rfl rfl rfl ?_
            refine skipT rfl rfl rfl rfl ?_
            refine skipT rfl rfl rfl rfl ?_
            refine skipT rfl rfl rfl rfl ?_
            refine goG rfl rfl ?_
            iterate 3 refine pu (ev tab rfl) rfl ?_
            refine goG rfl rfl ?_
            refine pu (ev tab rfl) rfl ?_
            refine goG rfl rfl ?_
            first | refine pu (ev tab rfl) rfl ?_ | refine pu (loadRow tab rfl rfl rfl rfl) rfl ?_ | refine pu (loadBox tab rfl rfl rfl rfl rfl) rfl ?_
            refine goG rfl rfl ?_
            refine pu (ev tab rfl) rfl ?_
            refine goG rfl rfl ?_
            refine pu (ev tab rfl) rfl ?_
            apply splitJ; (case hj => rfl); (case hl => rfl)
            · skip
              refine goG rfl rfl ?_
              refine pu (ev tab rfl) rfl ?_
              refine goG rfl rfl ?_
              first | refine pu (ev tab rfl) rfl ?_ | refine pu (loadRow tab rfl rfl rfl rfl) rfl ?_ | refine pu (loadBox tab rfl rfl rfl rfl rfl) rfl ?_
              refine goG rfl rfl ?_
              refine pu (ev tab rfl) rfl ?_
              refine goG rfl rfl ?_
              refine pu (ev tab rfl) rfl ?_
              refine goG rfl rfl ?_
              iterate 3 refine pu (ev tab rfl) rfl ?_
              refine WO.nil ?_
              refine qv1 rfl rfl rfl
            · skip
              refine skipT rfl rfl rfl rfl ?_
              refine skipT rfl rfl rfl rfl ?_
              refine skipT rfl rfl rfl rfl ?_
              refine skipT rfl rfl rfl rfl ?_
              refine goG rfl rfl ?_
              iterate 3 refine pu (ev tab rfl) rfl ?_
              refine WO.nil ?_
              refine qv1 rfl rfl rfl
      · skip
        refine skipT rfl rfl rfl rfl ?_
        refine skipT rfl rfl rfl rfl ?_
        refine skipT rfl rfl rfl rfl ?_
        refine skipT rfl rfl rfl rfl ?_
        refine skipT rfl rfl rfl rfl ?_
        refine skipT rfl rfl rfl rfl ?_
        refine skipT rfl rfl rfl rfl ?_
        refine skipT rfl rfl rfl rfl ?_
        refine goG rfl rfl ?_
        iterate 3 refine pu (ev tab rfl) rfl ?_
        refine goG rfl rfl ?_
        refine pu (ev tab rfl) rfl ?_
        refine goG rfl rfl ?_
        first | refine pu (ev tab rfl) rfl ?_ | refine pu (loadRow tab rfl rfl rfl rfl) rfl ?_ | refine pu (loadBox tab rfl rfl rfl rfl rfl) rfl ?_
        refine goG rfl rfl ?_
        refine pu (ev tab rfl) rfl ?_
        refine goG rfl rfl ?_
        refine pu (ev tab rfl) rfl ?_
        apply splitJ; (case hj => rfl); (case hl => rfl)
        · skip
          refine goG rfl rfl ?_
          refine pu (ev tab rfl) rfl ?_
          refine goG rfl rfl ?_
          first | refine pu (ev tab rfl) rfl ?_ | refine pu (loadRow tab rfl rfl rfl rfl) rfl ?_ | refine pu (loadBox tab rfl rfl rfl rfl rfl) rfl ?_
          refine goG rfl rfl ?_
          refine pu (ev tab rfl) rfl ?_
          refine goG rfl rfl ?_
          refine pu (ev tab rfl) rfl ?_
          refine goG rfl rfl ?_
          iterate 3 refine pu (ev tab rfl) rfl ?_
          apply splitJ; (case hj => rfl); (case hl => rfl)
          · skip
            refine skipT rfl rfl rfl rfl ?_
            refine skipT rfl rfl rfl rfl ?_
            refine skipT rfl rfl rfl rfl ?_
            refine skipT rfl rfl rfl rfl ?_
            refine skipU rfl rfl rfl ?_
            refine skipU rfl rfl rfl ?_
            refine skipU rfl rfl rfl ?_
            refine skipU rfl rfl rfl ?_
            refine skipT rfl rfl rfl rfl ?_
            iterate 2 refine pu (ev tab rfl) rfl ?_
            refine WO.nil ?_
            refine qv1 rfl rfl rfl
          · skip
            refine goG rfl rfl ?_
            refine pu (ev tab rfl) rfl ?_
            refine goG rfl rfl ?_
            first | refine pu (ev tab rfl) rfl ?_ | refine pu (loadRow tab rfl rfl rfl rfl) rfl ?_ | refine pu (loadBox tab rfl rfl rfl rfl rfl) rfl ?_
            refine goG rfl rfl ?_
            refine pu (ev tab rfl) rfl ?_
            refine goG rfl rfl ?_
            refine pu (ev tab rfl) rfl ?_
            apply splitJ; (case hj => rfl); (case hl => rfl)
            · skip
              refine goG rfl rfl ?_
              refine pu (ev tab rfl) rfl ?_
              refine goG rfl rfl ?_
              first | refine pu (ev tab rfl) rfl ?_ | refine pu (loadRow tab rfl rfl rfl rfl) rfl ?_ | refine pu (loadBox tab rfl rfl rfl rfl rfl) rfl ?_
              refine goG rfl rfl ?_
              refine pu (ev tab rfl) rfl ?_
              refine goG rfl rfl ?_
              refine pu (ev tab rfl) rfl ?_
              refine goG rfl rfl ?_
              iterate 3 refine pu (ev tab rfl) rfl ?_
              refine WO.nil ?_
              refine qv1 rfl rfl rfl
            · skip
              refine skipT rfl rfl rfl rfl ?_
              refine skipT rfl rfl rfl rfl ?_
              refine skipT rfl rfl rfl rfl ?_
              refine skipT rfl rfl rfl rfl ?_
              refine goG rfl rfl ?_
              iterate 3 refine pu (ev tab rfl) rfl ?_
              refine WO.nil ?_
              refine qv1 rfl rfl rfl
        · skip
          refine skipT rfl rfl rfl rfl ?_
          refine skipT rfl rfl rfl rfl ?_
          refine skipT rfl rfl rfl rfl ?_
          refine skipT rfl rfl rfl rfl ?_
          refine goG rfl rfl ?_
          iterate 3 refine pu (ev tab rfl) rfl ?_
          refine goG rfl rfl ?_
          refine pu (ev tab rfl) rfl ?_
          refine goG rfl rfl ?_
          first | refine pu (ev tab rfl) rfl ?_ | refine pu (loadRow tab rfl rfl rfl rfl) rfl ?_ | refine pu (loadBox tab rfl rfl rfl rfl rfl) rfl ?_
          refine goG rfl rfl ?_
          refine pu (ev tab rfl) rfl ?_
          refine goG rfl rfl ?_
          refine pu (ev tab rfl) rfl ?_
          apply splitJ; (case hj => rfl); (case hl => rfl)
          · skip
            refine goG rfl rfl ?_
            refine pu (ev tab rfl) rfl ?_
            refine goG rfl rfl ?_
            first | refine pu (ev tab rfl) rfl ?_ | refine pu (loadRow tab rfl rfl rfl rfl) rfl ?_ | refine pu (loadBox tab rfl rfl rfl rfl rfl) rfl ?_
            refine goG rfl rfl ?_
            refine pu (ev tab rfl) rfl ?_
            refine goG rfl rfl ?_
            refine pu (ev tab rfl) rfl ?_
            refine goG rfl rfl ?_
            iterate 3 refine pu (ev tab rfl) rfl ?_
            refine WO.nil ?_
            refine qv1 rfl rfl rfl
          · skip
            refine skipT rfl rfl rfl rfl ?_
            refine skipT rfl rfl rfl rfl ?_
            refine skipT rfl rfl rfl rfl ?_
            refine skipT rfl rfl rfl rfl ?_
            refine goG rfl rfl ?_
            iterate 3 refine pu (ev tab rfl) rfl ?_
            refine WO.nil ?_
            refine qv1 rfl rfl rfl
  refine qs ?_
  refine W.seq ?_
  refine W.seq ?_
  refine W.region ?_
  refine pu (ev tab rfl) rfl ?_
  refine WO.nil ?_
  refine qs ?_
  refine condK rfl (fun h50 => ?_) (fun h50 => ?_)
  · skip
    have h50 : shortB s = true := by revert h50; simp only [shortB, List.length_map]; grind
    refine W.seq ?_
    refine W.region ?_
    refine pu (ev tab rfl) rfl ?_
    refine WO.nil ?_
    refine qs ?_
    refine W.ret ?_
    refine qsRet ?_
    refine QF.ret0 trivial rfl ?_
    simp only [norm, oneA]; unfold sizesE; rw [if_pos h50]
  · skip
    have h50 : ¬ (shortB s = true) := by revert h50; simp only [shortB, List.length_map]; grind
    refine W.skip ?_
    refine qs ?_
    refine W.seq ?_
    refine W.seq ?_
    apply regionB; (case hb => rfl)
    · skip
      refine pu (ev tab rfl) rfl ?_
      first | refine pu (ev tab rfl) rfl ?_ | refine pu (loadRow tab rfl rfl rfl rfl) rfl ?_ | refine pu (loadBox tab rfl rfl rfl rfl rfl) rfl ?_
      iterate 3 refine pu (ev tab rfl) rfl ?_
      apply splitJ; (case hj => rfl); (case hl => rfl)
      · skip
        refine skipT rfl rfl rfl rfl ?_
        refine skipT rfl rfl rfl rfl ?_
        refine skipT rfl rfl rfl rfl ?_
        refine skipT rfl rfl rfl rfl ?_
        iterate 2 refine pu (ev tab rfl) rfl ?_
        refine skipT rfl rfl rfl rfl ?_
        refine skipT rfl rfl rfl rfl ?_
        refine skipT rfl rfl rfl rfl ?_
        refine skipT rfl rfl rfl rfl ?_
        iterate 2 refine pu (ev tab rfl) rfl ?_
        refine skipT rfl rfl rfl rfl ?_
        refine skipT rfl rfl rfl rfl ?_
        refine skipT rfl rfl rfl rfl ?_
        refine skipT rfl rfl rfl rfl ?_
        refine pu (ev tab rfl) rfl ?_
        refine WO.nil ?_
        refine qv1 rfl rfl rfl
      · skip
        refine goG rfl rfl ?_
        refine pu (ev tab rfl) rfl ?_
        refine goG rfl rfl ?_
        first | refine pu (ev tab rfl) rfl ?_ | refine pu (loadRow tab rfl rfl rfl rfl) rfl ?_ | refine pu (loadBox tab rfl rfl rfl rfl rfl) rfl ?_
        refine goG rfl rfl ?_
        refine pu (ev tab rfl) rfl ?_
        refine goG rfl rfl ?_
        iterate 3 refine pu (ev tab rfl) rfl ?_
        apply splitJ; (case hj => rfl); (case hl => rfl)
        · skip
          refine skipT rfl rfl rfl rfl ?_
          refine skipT rfl rfl rfl rfl ?_
          refine skipT rfl rfl rfl rfl ?_
          refine skipT rfl rfl rfl rfl ?_
          iterate 2 refine pu (ev tab rfl) rfl ?_
          refine skipT rfl rfl rfl rfl ?_
          refine skipT rfl rfl rfl rfl ?_
          refine skipT rfl rfl rfl rfl ?_
          refine skipT rfl rfl rfl rfl ?_
          refine pu (ev tab rfl) rfl ?_
          refine WO.nil ?_
          refine qv1 rfl rfl rfl
        · skip
          refine goG rfl rfl ?_
          refine pu (ev tab rfl) rfl ?_
          refine goG rfl rfl ?_
          first | refine pu (ev tab rfl) rfl ?_ | refine pu (loadRow tab rfl rfl rfl rfl) rfl ?_ | refine pu (loadBox tab rfl rfl rfl rfl rfl) rfl ?_
          refine goG rfl rfl ?_
          refine pu (ev tab rfl) rfl ?_
          refine goG rfl rfl ?_
          iterate 3 refine pu (ev tab rfl) rfl ?_
          apply splitJ; (case hj => rfl); (case hl => rfl)
          · skip
            refine skipT rfl rfl rfl rfl ?_
            refine skipT rfl rfl rfl rfl ?_
            refine skipT rfl rfl rfl rfl ?_
            refine skipT rfl rfl rfl rfl ?_
            refine pu (ev tab rfl) rfl ?_
            refine WO.nil ?_
            refine qv1 rfl rfl rfl
          · skip
            refine goG rfl rfl ?_
            refine pu (ev tab rfl) rfl ?_
            refine goG rfl rfl ?_
            first | refine pu (ev tab rfl) rfl ?_ | refine pu (loadRow tab rfl rfl rfl rfl) rfl ?_ | refine pu (loadBox tab rfl rfl rfl rfl rfl) rfl ?_
            refine goG rfl rfl ?_
            refine pu (ev tab rfl) rfl ?_
            refine goG rfl rfl ?_
            iterate 2 refine pu (ev tab rfl) rfl ?_
            refine WO.nil ?_
            refine qv1 rfl rfl rfl
    refine qs ?_
    refine condK rfl (fun h72 => ?_) (fun h72 => ?_)
    · skip
      refine W.seq ?_
      refine W.region ?_
      refine pu (ev tab rfl) rfl ?_
      refine WO.nil ?_
      refine qs ?_
      refine W.ret ?_
      refine qsRet ?_
      refine QF.ret0 trivial rfl ?_
      simp only [norm, oneA]; unfold sizesE; rw [if_neg h50, if_pos (by revert h72; simp only [List.length_map]; grind)]
    · skip
      refine W.skip ?_
      refine qs ?_
      refine W.seq ?_
      refine W.region ?_
      refine pu (ev tab rfl) rfl ?_
      refine WO.nil ?_
      refine qs ?_
      refine W.ret ?_
      refine QF.ret0 trivial rfl ?_
      simp only [norm, oneA]; unfold sizesE; rw [if_neg h50, if_neg (by revert h72; simp only [List.length_map]; grind)]

def stepR (s : Stp) : Int :=
  if usesB s = false then 1 else if (tableOp s.op && !identB s.table) = true then 3 else if sizesE s ≠ 0 then sizesE s
  else if s.op = 1 then exprErr s.cond else if s.op = 2 then selErr [] s.items else if s.op = 3 then groupsR s else if s.op = 4 then allErr [] (s.sorts.map Srt.col)
  else if s.op = 5 then (if s.n < 0 ∨ 20000 < s.n then 2 else 0) else allErr [] s.cols

theorem stepR_eq (s : Stp) : stepR s = stepErr s := by
  unfold stepR stepErr
  by_cases hu : usesB s = false
  · rw [if_pos hu, if_pos hu]
  · rw [if_neg hu, if_neg hu]
    have hu : usesB s = true := by simpa using hu
    simp only [usesB, Bool.and_eq_true, Bool.not_eq_true', Bool.or_eq_true, Bool.or_eq_false_iff, Bool.and_eq_false_iff, decide_eq_true_eq, decide_eq_false_iff_not] at hu
    obtain ⟨⟨⟨⟨⟨⟨⟨⟨h0, h0'⟩, h1⟩, h2⟩, h3⟩, h4⟩, h5⟩, h6⟩, h7⟩ := hu
    have hop : s.op = 1 ∨ s.op = 2 ∨ s.op = 3 ∨ s.op = 4 ∨ s.op = 5 ∨ s.op = 6 ∨ s.op = 7 ∨ s.op = 8 ∨ s.op = 9 := by omega
    have hil : s.op ≠ 2 → s.items.length = 0 := fun h => by rcases h2 with h2 | h2 <;> simp_all
    have hal : s.op ≠ 3 → s.aggs.length = 0 := fun h => by rcases h3 with h3 | h3 <;> simp_all
    have hsl : s.op ≠ 4 → s.sorts.length = 0 := fun h => by rcases h4 with h4 | h4 <;> simp_all
    have hcl : s.op ≠ 3 → tableOp s.op = false → s.op ≠ 9 → s.cols.length = 0 := fun a b c => by
      rcases h7 with ((h7 | h7) | h7) | h7
      · exact absurd h7 a
      · rw [b] at h7; cases h7
      · exact absurd h7 c
      · exact h7
    rcases hop with h | h | h | h | h | h | h | h | h
    · have a1 := hil (by omega); have a2 := hal (by omega); have a3 := hsl (by omega); have a4 := hcl (by omega) (by simp [tableOp, h]) (by omega)
      simp [tableOp, h, sizesE, shortB, a1, a2, a3, a4]
    · have a2 := hal (by omega); have a3 := hsl (by omega); have a4 := hcl (by omega) (by simp [tableOp, h]) (by omega)
      simp only [tableOp, h, sizesE, shortB, a2, a3, a4, sizeErr]
      by_cases q : s.items.length = 0 <;> by_cases q2 : 16 < s.items.length <;> simp [q, q2] <;> omega
    · have a1 := hil (by omega); have a3 := hsl (by omega)
      simp only [tableOp, h, sizesE, shortB, a1, a3, groupErr, groupsR]
      by_cases q : s.cols.length + s.aggs.length = 0 <;> by_cases q2 : 16 < s.cols.length <;> by_cases q3 : 16 < s.aggs.length <;> simp [q, q2, q3] <;> first | omega | (by_cases q4 : s.cols = [] ∧ s.aggs = [] <;> simp [q4])
    · have a1 := hil (by omega); have a2 := hal (by omega); have a4 := hcl (by omega) (by simp [tableOp, h]) (by omega)
      simp only [tableOp, h, sizesE, shortB, a1, a2, a4, columnsErr, sizeErr, List.length_map]
      by_cases q : s.sorts.length = 0 <;> by_cases q2 : 16 < s.sorts.length <;> simp [q, q2] <;> omega
    · have a1 := hil (by omega); have a2 := hal (by omega); have a3 := hsl (by omega); have a4 := hcl (by omega) (by simp [tableOp, h]) (by omega)
      simp [tableOp, h, sizesE, shortB, a1, a2, a3, a4]
    · have a1 := hil (by omega); have a2 := hal (by omega); have a3 := hsl (by omega)
      simp only [tableOp, h, sizesE, shortB, a1, a2, a3, columnsErr, sizeErr]
      cases identB s.table <;> by_cases q : s.cols.length = 0 <;> by_cases q2 : 16 < s.cols.length <;> simp [q, q2] <;> omega
    · have a1 := hil (by omega); have a2 := hal (by omega); have a3 := hsl (by omega)
      simp only [tableOp, h, sizesE, shortB, a1, a2, a3, columnsErr, sizeErr]
      cases identB s.table <;> by_cases q2 : 16 < s.cols.length <;> simp [q2] <;> omega
    · have a1 := hil (by omega); have a2 := hal (by omega); have a3 := hsl (by omega)
      simp only [tableOp, h, sizesE, shortB, a1, a2, a3, columnsErr, sizeErr]
      cases identB s.table <;> by_cases q2 : 16 < s.cols.length <;> simp [q2] <;> omega
    · have a1 := hil (by omega); have a2 := hal (by omega); have a3 := hsl (by omega)
      simp only [tableOp, h, sizesE, shortB, a1, a2, a3, columnsErr, sizeErr]
      by_cases q2 : 16 < s.cols.length <;> simp [q2] <;> omega

theorem rstep_fn (s : Stp) (hf : fewS s) : Does Tryz.prog 28 [.ag s.c] (.d (.v (.int .i64 (stepErr s)))) 0 := by
  rw [← stepR_eq]
  have hg : stepR s = stepR s := rfl
  conv at hg => rhs; unfold stepR
  refine Does.of_W (n := 78) (ts := [2]) Tryz.func28 (by kernel_rfl) rfl Tryz.ntmps28 Tryz.results28 rfl rfl fun C hC => ?_
  refine W.seq ?_
  refine W.region ?_
  refine boxR rfl rfl rfl ?_
  refine pu (ev tab rfl) rfl ?_
  refine WO.nil ?_
  refine qs ?_
  refine W.seq ?_
  refine W.seq ?_
  apply regionB; (case hb => rfl)
  · skip
    refine pu (ev tab rfl) rfl ?_
    first | refine pu (ev tab rfl) rfl ?_ | refine pu (loadRow tab rfl rfl rfl rfl) rfl ?_ | refine pu (loadBox tab rfl rfl rfl rfl rfl) rfl ?_
    iterate 2 refine pu (ev tab rfl) rfl ?_
    apply splitJ; (case hj => rfl); (case hl => rfl)
    · skip
      refine skipT rfl rfl rfl rfl ?_
      refine skipT rfl rfl rfl rfl ?_
      refine skipT rfl rfl rfl rfl ?_
      iterate 2 refine pu (ev tab rfl) rfl ?_
      refine skipT rfl rfl rfl rfl ?_
      refine skipT rfl rfl rfl rfl ?_
      refine skipT rfl rfl rfl rfl ?_
      refine pu (ev tab rfl) rfl ?_
      refine WO.nil ?_
      refine qv1 rfl rfl rfl
    · skip
      refine goG rfl rfl ?_
      refine pu (ev tab rfl) rfl ?_
      refine goG rfl rfl ?_
      first | refine pu (ev tab rfl) rfl ?_ | refine pu (loadRow tab rfl rfl rfl rfl) rfl ?_ | refine pu (loadBox tab rfl rfl rfl rfl rfl) rfl ?_
      refine goG rfl rfl ?_
      iterate 3 refine pu (ev tab rfl) rfl ?_
      apply splitJ; (case hj => rfl); (case hl => rfl)
      · skip
        refine skipT rfl rfl rfl rfl ?_
        refine skipT rfl rfl rfl rfl ?_
        refine skipT rfl rfl rfl rfl ?_
        refine pu (ev tab rfl) rfl ?_
        refine WO.nil ?_
        refine qv1 rfl rfl rfl
      · skip
        refine goG rfl rfl ?_
        first | refine pu (ev tab rfl) rfl ?_ | refine pu (loadRow tab rfl rfl rfl rfl) rfl ?_ | refine pu (loadBox tab rfl rfl rfl rfl rfl) rfl ?_
        refine goG rfl rfl ?_
        refine pu (puCall rfl rfl rfl (runused_fn s) rfl) rfl ?_
        refine goG rfl rfl ?_
        iterate 2 refine pu (ev tab rfl) rfl ?_
        refine WO.nil ?_
        refine qv1 rfl rfl rfl
  refine qs ?_
  refine condK rfl (fun h17 => ?_) (fun h17 => ?_)
  · skip
    have h17 : usesB s = false := by rw [usesB_eq]; revert h17; by_cases q : s.op < 1 <;> by_cases q2 : 9 < s.op <;> cases unusedB s <;> simp [q, q2]
    rw [if_pos h17] at hg
    refine W.seq ?_
    refine W.region ?_
    refine pu (ev tab rfl) rfl ?_
    refine WO.nil ?_
    refine qs ?_
    refine W.ret ?_
    refine qsRet ?_
    refine QF.ret0 trivial rfl ?_
    rw [hg]; rfl
  · skip
    have h17 : ¬ (usesB s = false) := by rw [usesB_eq]; revert h17; by_cases q : s.op < 1 <;> by_cases q2 : 9 < s.op <;> cases unusedB s <;> simp [q, q2]
    rw [if_neg h17] at hg
    refine W.skip ?_
    refine qs ?_
    refine W.seq ?_
    apply regionB; (case hb => rfl)
    · skip
      refine pu (ev tab rfl) rfl ?_
      first | refine pu (ev tab rfl) rfl ?_ | refine pu (loadRow tab rfl rfl rfl rfl) rfl ?_ | refine pu (loadBox tab rfl rfl rfl rfl rfl) rfl ?_
      iterate 2 refine pu (ev tab rfl) rfl ?_
      apply splitJ; (case hj => rfl); (case hl => rfl)
      · skip
        refine skipT rfl rfl rfl rfl ?_
        refine skipT rfl rfl rfl rfl ?_
        refine skipT rfl rfl rfl rfl ?_
        iterate 2 refine pu (ev tab rfl) rfl ?_
        refine skipT rfl rfl rfl rfl ?_
        refine skipT rfl rfl rfl rfl ?_
        refine skipT rfl rfl rfl rfl ?_
        iterate 2 refine pu (ev tab rfl) rfl ?_
        refine WO.nil ?_
        refine qv1 rfl rfl rfl
      · skip
        refine goG rfl rfl ?_
        refine pu (ev tab rfl) rfl ?_
        refine goG rfl rfl ?_
        first | refine pu (ev tab rfl) rfl ?_ | refine pu (loadRow tab rfl rfl rfl rfl) rfl ?_ | refine pu (loadBox tab rfl rfl rfl rfl rfl) rfl ?_
        refine goG rfl rfl ?_
        iterate 3 refine pu (ev tab rfl) rfl ?_
        apply splitJ; (case hj => rfl); (case hl => rfl)
        · skip
          refine skipT rfl rfl rfl rfl ?_
          refine skipT rfl rfl rfl rfl ?_
          refine skipT rfl rfl rfl rfl ?_
          iterate 2 refine pu (ev tab rfl) rfl ?_
          refine WO.nil ?_
          refine qv1 rfl rfl rfl
        · skip
          refine goG rfl rfl ?_
          refine pu (ev tab rfl) rfl ?_
          refine goG rfl rfl ?_
          first | refine pu (ev tab rfl) rfl ?_ | refine pu (loadRow tab rfl rfl rfl rfl) rfl ?_ | refine pu (loadBox tab rfl rfl rfl rfl rfl) rfl ?_
          refine goG rfl rfl ?_
          iterate 3 refine pu (ev tab rfl) rfl ?_
          refine WO.nil ?_
          refine qv1 rfl rfl rfl
    refine qs ?_
    refine W.seq ?_
    refine W.seq ?_
    apply regionB; (case hb => rfl)
    · skip
      iterate 2 refine pu (ev tab rfl) rfl ?_
      apply splitJ; (case hj => rfl); (case hl => rfl)
      · skip
        refine goG rfl rfl ?_
        refine pu (ev tab rfl) rfl ?_
        refine goG rfl rfl ?_
        first | refine pu (ev tab rfl) rfl ?_ | refine pu (loadRow tab rfl rfl rfl rfl) rfl ?_ | refine pu (loadBox tab rfl rfl rfl rfl rfl) rfl ?_
        refine goG rfl rfl ?_
        refine pu (puCall rfl rfl rfl (ident_fn ..) rfl) rfl ?_
        refine goG rfl rfl ?_
        iterate 2 refine pu (ev tab rfl) rfl ?_
        refine WO.nil ?_
        refine qv1 rfl rfl rfl
      · skip
        refine skipT rfl rfl rfl rfl ?_
        refine skipT rfl rfl rfl rfl ?_
        refine skipT rfl rfl rfl rfl ?_
        refine skipT rfl rfl rfl rfl ?_
        refine pu (ev tab rfl) rfl ?_
        refine WO.nil ?_
        refine qv1 rfl rfl rfl
    refine qs ?_
    refine condK rfl (fun h37 => ?_) (fun h37 => ?_)
    · skip
      have h37 : (tableOp s.op && !identB s.table) = true := by revert h37; simp only [tableOp]; by_cases q : s.op = 6 <;> by_cases q2 : s.op = 7 <;> by_cases q3 : s.op = 8 <;> cases identB s.table <;> simp [q, q2, q3]
      rw [if_pos h37] at hg
      refine W.seq ?_
      refine W.region ?_
      refine pu (ev tab rfl) rfl ?_
      refine WO.nil ?_
      refine qs ?_
      refine W.ret ?_
      refine qsRet ?_
      refine QF.ret0 trivial rfl ?_
      rw [hg]; rfl
    · skip
      have h37 : ¬ ((tableOp s.op && !identB s.table) = true) := by revert h37; simp only [tableOp]; by_cases q : s.op = 6 <;> by_cases q2 : s.op = 7 <;> by_cases q3 : s.op = 8 <;> cases identB s.table <;> simp [q, q2, q3]
      rw [if_neg h37] at hg
      refine W.skip ?_
      refine qs ?_
      refine W.seq ?_
      refine W.region ?_
      first | refine pu (ev tab rfl) rfl ?_ | refine pu (loadRow tab rfl rfl rfl rfl) rfl ?_ | refine pu (loadBox tab rfl rfl rfl rfl rfl) rfl ?_
      refine pu (puCall rfl rfl rfl (rsizes_fn s hf) rfl) rfl ?_
      refine pu (ev tab rfl) rfl ?_
      refine WO.nil ?_
      refine qs ?_
      refine W.seq ?_
      refine W.seq ?_
      refine W.region ?_
      iterate 2 refine pu (ev tab rfl) rfl ?_
      refine WO.nil ?_
      refine qs ?_
      refine condK rfl (fun h41 => ?_) (fun h41 => ?_)
      · skip
        rw [if_pos (by simpa using h41)] at hg
        refine W.seq ?_
        refine W.region ?_
        iterate 2 refine pu (ev tab rfl) rfl ?_
        refine WO.nil ?_
        refine qs ?_
        refine W.ret ?_
        refine qsRet ?_
        refine QF.ret0 trivial rfl ?_
        rw [hg]; rfl
      · skip
        rw [if_neg (by simpa using h41)] at hg
        refine W.skip ?_
        refine qs ?_
        refine W.seq ?_
        refine W.seq ?_
        refine W.region ?_
        refine pu (ev tab rfl) rfl ?_
        first | refine pu (ev tab rfl) rfl ?_ | refine pu (loadRow tab rfl rfl rfl rfl) rfl ?_ | refine pu (loadBox tab rfl rfl rfl rfl rfl) rfl ?_
        refine WO.nil ?_
        refine qs ?_
        refine W.block ?_
        refine W.seq ?_
        refine W.region ?_
        iterate 2 refine pu (ev tab rfl) rfl ?_
        refine WO.nil ?_
        refine qs ?_
        refine condK rfl (fun h45 => ?_) (fun h45 => ?_)
        · skip
          rw [if_pos (by simpa using h45)] at hg
          refine W.seq ?_
          refine W.region ?_
          refine pu (ev tab rfl) rfl ?_
          first | refine pu (ev tab rfl) rfl ?_ | refine pu (loadRow tab rfl rfl rfl rfl) rfl ?_ | refine pu (loadBox tab rfl rfl rfl rfl rfl) rfl ?_
          refine pu (puCall rfl rfl rfl (rexpr_fn s.cond) rfl) rfl ?_
          refine pu (ev tab rfl) rfl ?_
          refine WO.nil ?_
          refine qs ?_
          refine W.ret ?_
          refine qbRet ?_
          refine qsRet ?_
          refine QF.ret0 trivial rfl ?_
          rw [hg]; rfl
        · skip
          rw [if_neg (by simpa using h45)] at hg
          refine W.seq ?_
          refine W.region ?_
          iterate 2 refine pu (ev tab rfl) rfl ?_
          refine WO.nil ?_
          refine qs ?_
          refine condK rfl (fun h50 => ?_) (fun h50 => ?_)
          · skip
            rw [if_pos (by simpa using h50)] at hg
            refine W.seq ?_
            refine W.region ?_
            refine pu (ev tab rfl) rfl ?_
            first | refine pu (ev tab rfl) rfl ?_ | refine pu (loadRow tab rfl rfl rfl rfl) rfl ?_ | refine pu (loadBox tab rfl rfl rfl rfl rfl) rfl ?_
            refine pu (puCall rfl rfl rfl (rselects_fn s.items (by have := hf.1; omega)) rfl) rfl ?_
            refine pu (ev tab rfl) rfl ?_
            refine WO.nil ?_
            refine qs ?_
            refine W.ret ?_
            refine qbRet ?_
            refine qsRet ?_
            refine QF.ret0 trivial rfl ?_
            rw [hg]; rfl
          · skip
            rw [if_neg (by simpa using h50)] at hg
            refine W.seq ?_
            refine W.region ?_
            iterate 2 refine pu (ev tab rfl) rfl ?_
            refine WO.nil ?_
            refine qs ?_
            refine condK rfl (fun h55 => ?_) (fun h55 => ?_)
            · skip
              rw [if_pos (by simpa using h55)] at hg
              refine W.seq ?_
              refine W.region ?_
              first | refine pu (ev tab rfl) rfl ?_ | refine pu (loadRow tab rfl rfl rfl rfl) rfl ?_ | refine pu (loadBox tab rfl rfl rfl rfl rfl) rfl ?_
              refine pu (puCall rfl rfl rfl (rgroups_fn s hf) rfl) rfl ?_
              refine pu (ev tab rfl) rfl ?_
              refine WO.nil ?_
              refine qs ?_
              refine W.ret ?_
              refine qbRet ?_
              refine qsRet ?_
              refine QF.ret0 trivial rfl ?_
              rw [hg]; rfl
            · skip
              rw [if_neg (by simpa using h55)] at hg
              refine W.seq ?_
              refine W.region ?_
              iterate 2 refine pu (ev tab rfl) rfl ?_
              refine WO.nil ?_
              refine qs ?_
              refine condK rfl (fun h59 => ?_) (fun h59 => ?_)
              · skip
                rw [if_pos (by simpa using h59)] at hg
                refine W.seq ?_
                refine W.region ?_
                refine pu (ev tab rfl) rfl ?_
                first | refine pu (ev tab rfl) rfl ?_ | refine pu (loadRow tab rfl rfl rfl rfl) rfl ?_ | refine pu (loadBox tab rfl rfl rfl rfl rfl) rfl ?_
                refine pu (puCall rfl rfl rfl (rsorts_fn s.sorts (by have := hf.2.2.2; omega)) rfl) rfl ?_
                refine pu (puCall rfl rfl rfl (rnames_fn (s.sorts.map Srt.col)) rfl) rfl ?_
                refine pu (ev tab rfl) rfl ?_
                refine WO.nil ?_
                refine qs ?_
                refine W.ret ?_
                refine qbRet ?_
                refine qsRet ?_
                refine QF.ret0 trivial rfl ?_
                rw [hg]; rfl
              · skip
                rw [if_neg (by simpa using h59)] at hg
                refine W.seq ?_
                refine W.region ?_
                iterate 2 refine pu (ev tab rfl) rfl ?_
                refine WO.nil ?_
                refine qs ?_
                refine condK rfl (fun h65 => ?_) (fun h65 => ?_)
                · skip
                  rw [if_pos (by simpa using h65)] at hg
                  refine W.seq ?_
                  refine W.seq ?_
                  apply regionB; (case hb => rfl)
                  · skip
                    refine pu (ev tab rfl) rfl ?_
                    first | refine pu (ev tab rfl) rfl ?_ | refine pu (loadRow tab rfl rfl rfl rfl) rfl ?_ | refine pu (loadBox tab rfl rfl rfl rfl rfl) rfl ?_
                    iterate 2 refine pu (ev tab rfl) rfl ?_
                    apply splitJ; (case hj => rfl); (case hl => rfl)
                    · skip
                      refine skipT rfl rfl rfl rfl ?_
                      refine skipT rfl rfl rfl rfl ?_
                      refine skipT rfl rfl rfl rfl ?_
                      refine pu (ev tab rfl) rfl ?_
                      refine WO.nil ?_
                      refine qv1 rfl rfl rfl
                    · skip
                      refine goG rfl rfl ?_
                      refine pu (ev tab rfl) rfl ?_
                      refine goG rfl rfl ?_
                      first | refine pu (ev tab rfl) rfl ?_ | refine pu (loadRow tab rfl rfl rfl rfl) rfl ?_ | refine pu (loadBox tab rfl rfl rfl rfl rfl) rfl ?_
                      refine goG rfl rfl ?_
                      iterate 2 refine pu (ev tab rfl) rfl ?_
                      refine WO.nil ?_
                      refine qv1 rfl rfl rfl
                  refine qs ?_
                  refine condK rfl (fun h74 => ?_) (fun h74 => ?_)
                  · skip
                    rw [if_pos (by revert h74; grind)] at hg
                    refine W.seq ?_
                    refine W.region ?_
                    refine pu (ev tab rfl) rfl ?_
                    refine WO.nil ?_
                    refine qs ?_
                    refine W.ret ?_
                    refine qsRet ?_
                    refine qbRet ?_
                    refine qsRet ?_
                    refine QF.ret0 trivial rfl ?_
                    rw [hg]; rfl
                  · skip
                    rw [if_neg (by revert h74; grind)] at hg
                    refine W.skip ?_
                    refine qs ?_
                    refine W.seq ?_
                    refine W.region ?_
                    refine pu (ev tab rfl) rfl ?_
                    refine WO.nil ?_
                    refine qs ?_
                    refine W.ret ?_
                    refine qbRet ?_
                    refine qsRet ?_
                    refine QF.ret0 trivial rfl ?_
                    rw [hg]; rfl
                · skip
                  rw [if_neg (by simpa using h65)] at hg
                  refine W.skip ?_
                  refine qbN ?_
                  refine qs ?_
                  refine W.seq ?_
                  refine W.region ?_
                  refine pu (ev tab rfl) rfl ?_
                  first | refine pu (ev tab rfl) rfl ?_ | refine pu (loadRow tab rfl rfl rfl rfl) rfl ?_ | refine pu (loadBox tab rfl rfl rfl rfl rfl) rfl ?_
                  refine pu (puCall rfl rfl rfl (rnames_fn s.cols) rfl) rfl ?_
                  refine pu (ev tab rfl) rfl ?_
                  refine WO.nil ?_
                  refine qs ?_
                  refine W.ret ?_
                  refine QF.ret0 trivial rfl ?_
                  rw [hg]; rfl

theorem rquery_fn (q : Qry) (hs : ∀ s ∈ q.steps, fewS s) : Does Tryz.prog 41 [.ag q.c] (.d (.v (.int .i64 (queryErr q)))) 0 := by
  refine Does.of_W (n := 29) (ts := [2]) Tryz.func41 (by kernel_rfl) rfl Tryz.ntmps41 Tryz.results41 rfl rfl fun C hC => ?_
  refine W.seq ?_
  refine W.region ?_
  refine boxR rfl rfl rfl ?_
  refine pu (ev tab rfl) rfl ?_
  refine WO.nil ?_
  refine qs ?_
  refine W.seq ?_
  refine W.seq ?_
  refine W.region ?_
  refine pu (ev tab rfl) rfl ?_
  first | refine pu (ev tab rfl) rfl ?_ | refine pu (loadRow tab rfl rfl rfl rfl) rfl ?_ | refine pu (loadBox tab rfl rfl rfl rfl rfl) rfl ?_
  refine pu (puCall rfl rfl rfl (ident_fn ..) rfl) rfl ?_
  refine pu (ev tab rfl) rfl ?_
  refine WO.nil ?_
  refine qs ?_
  refine condK rfl (fun h8 => ?_) (fun h8 => ?_)
  · skip
    refine W.seq ?_
    refine W.region ?_
    refine pu (ev tab rfl) rfl ?_
    refine WO.nil ?_
    refine qs ?_
    refine W.ret ?_
    refine qsRet ?_
    refine QF.ret0 trivial rfl ?_
    simp only [norm, oneA] at *; grind [queryErr]
  · skip
    refine W.skip ?_
    refine qs ?_
    refine W.seq ?_
    refine W.seq ?_
    refine W.region ?_
    refine pu (ev tab rfl) rfl ?_
    first | refine pu (ev tab rfl) rfl ?_ | refine pu (loadRow tab rfl rfl rfl rfl) rfl ?_ | refine pu (loadBox tab rfl rfl rfl rfl rfl) rfl ?_
    iterate 2 refine pu (ev tab rfl) rfl ?_
    refine WO.nil ?_
    refine qs ?_
    refine condK rfl (fun h12 => ?_) (fun h12 => ?_)
    · skip
      refine W.seq ?_
      refine W.region ?_
      refine pu (ev tab rfl) rfl ?_
      refine WO.nil ?_
      refine qs ?_
      refine W.ret ?_
      refine qsRet ?_
      refine QF.ret0 trivial rfl ?_
      simp only [norm, oneA, List.length_map] at *; grind [queryErr]
    · skip
      have hq : queryErr q = stepsErr q.steps := by simp only [List.length_map] at *; grind [queryErr]
      refine W.skip ?_
      refine qs ?_
      refine W.seq ?_
      refine W.seq ?_
      refine W.region ?_
      refine pu (ev tab rfl) rfl ?_
      refine WO.nil ?_
      refine qs ?_
      refine W.block ?_
      refine lenBox (g := 0) (j := 1) rfl rfl (fun hlen => ?_)
      rw [List.length_map] at hlen
      refine W.loopR (ι := {x : Nat // match x with | k => k ≤ q.steps.length ∧ stepsErr (q.steps.drop k) = stepsErr q.steps})
        (fun x => match x.1 with | k => [(1, .ptr 0 0), (3, .d (.v (.int .i64 ((k : Nat) : Int))))]) []
        (fun x => match x.1 with | k => []) [(0, _)] [] 1 (fun x => match x.1 with | k => q.steps.length - k)
        [0] ⟨0, ?_⟩ rfl ?_ trivial ?_ ⟨rfl, rfl, trivial⟩ rfl ?_
      · first | exact ⟨Nat.zero_le _, rfl⟩ | exact trivial | simp
      · repeat' first | exact trivial | refine ⟨rfl, ?_⟩ | refine ⟨step_nat (by assumption) (by assumption), ?_⟩
      · repeat' first | exact trivial | refine ⟨rfl, ?_⟩ | refine ⟨step_nat (by assumption) (by assumption), ?_⟩
      rintro ⟨k, hk, hI⟩
      show W _ _ _ _ _ ⟨[(1, .ptr 0 0), (3, .d (.v (.int .i64 ((k : Nat) : Int))))], [(0, _)], [], 1⟩
      refine W.seq ?_
      refine W.seq ?_
      refine W.region ?_
      iterate 2 refine pu (ev tab rfl) rfl ?_
      first | refine pu (ev tab rfl) rfl ?_ | refine pu (loadRow tab rfl rfl rfl rfl) rfl ?_ | refine pu (loadBox tab rfl rfl rfl rfl rfl) rfl ?_
      iterate 2 refine pu (ev tab rfl) rfl ?_
      refine WO.nil ?_
      refine qs ?_
      refine eachR (l := q.steps) (k := k) rfl (by simp [Ex.kc_len, bytes_len]) hk (fun x hx hd hlt => ?_) (fun he hd => ?_)
      · skip
        rw [hd] at hI
        simp only [stepsErr] at hI
        refine W.skip ?_
        refine qs ?_
        refine W.seq ?_
        refine W.block ?_
        refine W.seq ?_
        refine W.region ?_
        refine pu (ev tab rfl) rfl ?_
        first | refine pu (ev tab rfl) rfl ?_ | refine pu (loadRow tab rfl rfl rfl rfl) rfl ?_ | refine pu (loadBox tab rfl rfl rfl rfl rfl) rfl ?_
        refine pu (ev tab rfl) rfl ?_
        refine pu (indexAddr tab rfl rfl rfl rfl rfl rfl (Int.natCast_nonneg _) (idx_map hx) rfl) rfl ?_
        first | refine pu (ev tab rfl) rfl ?_ | refine pu (loadRow tab rfl rfl rfl rfl) rfl ?_ | refine pu (loadBox tab rfl rfl rfl rfl rfl) rfl ?_
        refine pu (puCall rfl rfl rfl (rstep_fn x (hs x (List.mem_of_getElem? hx))) rfl) rfl ?_
        refine pu (ev tab rfl) rfl ?_
        refine WO.nil ?_
        refine qs ?_
        refine W.seq ?_
        refine W.region ?_
        iterate 2 refine pu (ev tab rfl) rfl ?_
        refine WO.nil ?_
        refine qs ?_
        refine condK rfl (fun h27 => ?_) (fun h27 => ?_)
        · skip
          rw [if_pos (by simpa using h27)] at hI
          refine W.seq ?_
          refine W.region ?_
          iterate 2 refine pu (ev tab rfl) rfl ?_
          refine WO.nil ?_
          refine qs ?_
          refine W.ret ?_
          refine qbRet ?_
          refine qsRet ?_
          refine qlRet ?_
          refine qbRet ?_
          refine qsRet ?_
          refine QF.ret0 trivial rfl ?_
          rw [hq, ← hI]; rfl
        · skip
          rw [if_neg (by simpa using h27)] at hI
          refine W.skip ?_
          refine qbN ?_
          refine qs ?_
          refine W.region ?_
          iterate 3 refine pu (ev tab rfl) rfl ?_
          refine WO.nil ?_
          refine W.endR [0] ⟨k + 1, ?_⟩ ?_ rfl ?_ trivial ?_ ⟨rfl, rfl, trivial⟩ rfl
          · exact ⟨hlt, hI⟩
          · dsimp only; omega
          · repeat' first | exact trivial | refine ⟨rfl, ?_⟩ | refine ⟨step_nat (by assumption) (by assumption), ?_⟩
          · repeat' first | exact trivial | refine ⟨rfl, ?_⟩ | refine ⟨step_nat (by assumption) (by assumption), ?_⟩
      · skip
        rw [hd] at hI
        simp only [stepsErr] at hI
        refine W.exit ?_
        refine qsExit ?_
        refine qlExit ?_
        refine qbExit ?_
        refine qs ?_
        refine W.seq ?_
        refine W.region ?_
        refine pu (ev tab rfl) rfl ?_
        refine WO.nil ?_
        refine qs ?_
        refine W.ret ?_
        refine QF.ret0 trivial rfl ?_
        rw [hq, ← hI]; rfl

theorem rfew_fn (q : Qry) : Does Tryz.prog 12 [.ag q.c] (.d (.v (.bool (fewQuery q)))) 0 := by
  refine Does.of_W (n := 28) (ts := [2]) Tryz.func12 (by kernel_rfl) rfl Tryz.ntmps12 Tryz.results12 rfl rfl fun C hC => ?_
  refine W.seq ?_
  refine W.region ?_
  refine boxR rfl rfl rfl ?_
  refine pu (ev tab rfl) rfl ?_
  refine WO.nil ?_
  refine qs ?_
  refine W.seq ?_
  refine W.seq ?_
  apply regionB; (case hb => rfl)
  · skip
    refine pu (ev tab rfl) rfl ?_
    first | refine pu (ev tab rfl) rfl ?_ | refine pu (loadRow tab rfl rfl rfl rfl) rfl ?_ | refine pu (loadBox tab rfl rfl rfl rfl rfl) rfl ?_
    iterate 3 refine pu (ev tab rfl) rfl ?_
    apply splitJ; (case hj => rfl); (case hl => rfl)
    · skip
      refine skipT rfl rfl rfl rfl ?_
      refine skipT rfl rfl rfl rfl ?_
      refine skipT rfl rfl rfl rfl ?_
      refine skipT rfl rfl rfl rfl ?_
      refine pu (ev tab rfl) rfl ?_
      refine WO.nil ?_
      refine qv1 rfl rfl rfl
    · skip
      refine goG rfl rfl ?_
      refine pu (ev tab rfl) rfl ?_
      refine goG rfl rfl ?_
      first | refine pu (ev tab rfl) rfl ?_ | refine pu (loadRow tab rfl rfl rfl rfl) rfl ?_ | refine pu (loadBox tab rfl rfl rfl rfl rfl) rfl ?_
      refine goG rfl rfl ?_
      refine pu (ev tab rfl) rfl ?_
      refine goG rfl rfl ?_
      iterate 2 refine pu (ev tab rfl) rfl ?_
      refine WO.nil ?_
      refine qv1 rfl rfl rfl
  refine qs ?_
  refine condK rfl (fun h13 => ?_) (fun h13 => ?_)
  · skip
    have hg : fewQuery q = false := by revert h13; unfold fewQuery; simp only [List.length_map]; by_cases q1 : q.steps.length ≤ 30 <;> by_cases q2 : q.from_.size ≤ 300 <;> simp [q1, q2] <;> omega
    refine W.seq ?_
    refine W.region ?_
    refine pu (ev tab rfl) rfl ?_
    refine WO.nil ?_
    refine qs ?_
    refine W.ret ?_
    refine qsRet ?_
    refine QF.ret0 trivial rfl ?_
    rw [hg]; rfl
  · skip
    have hg : fewQuery q = q.steps.all fewStep := by revert h13; unfold fewQuery; simp only [List.length_map]; by_cases q1 : q.steps.length ≤ 30 <;> by_cases q2 : q.from_.size ≤ 300 <;> simp [q1, q2] <;> omega
    refine W.skip ?_
    refine qs ?_
    refine W.seq ?_
    refine W.seq ?_
    refine W.region ?_
    refine pu (ev tab rfl) rfl ?_
    refine WO.nil ?_
    refine qs ?_
    refine W.block ?_
    refine lenBox (g := 0) (j := 1) rfl rfl (fun hlen => ?_)
    rw [List.length_map] at hlen
    refine W.loopR (ι := {x : Nat // match x with | k => k ≤ q.steps.length ∧ (q.steps.drop k).all fewStep = q.steps.all fewStep})
      (fun x => match x.1 with | k => [(1, .ptr 0 0), (3, .d (.v (.int .i64 ((k : Nat) : Int))))]) []
      (fun x => match x.1 with | k => []) [(0, _)] [] 1 (fun x => match x.1 with | k => q.steps.length - k)
      [0] ⟨0, ?_⟩ rfl ?_ trivial ?_ ⟨rfl, rfl, trivial⟩ rfl ?_
    · first | exact ⟨Nat.zero_le _, rfl⟩ | exact trivial | simp
    · repeat' first | exact trivial | refine ⟨rfl, ?_⟩ | refine ⟨step_nat (by assumption) (by assumption), ?_⟩
    · repeat' first | exact trivial | refine ⟨rfl, ?_⟩ | refine ⟨step_nat (by assumption) (by assumption), ?_⟩
    rintro ⟨k, hk, hI⟩
    show W _ _ _ _ _ ⟨[(1, .ptr 0 0), (3, .d (.v (.int .i64 ((k : Nat) : Int))))], [(0, _)], [], 1⟩
    refine W.seq ?_
    refine W.seq ?_
    refine W.region ?_
    iterate 2 refine pu (ev tab rfl) rfl ?_
    first | refine pu (ev tab rfl) rfl ?_ | refine pu (loadRow tab rfl rfl rfl rfl) rfl ?_ | refine pu (loadBox tab rfl rfl rfl rfl rfl) rfl ?_
    iterate 2 refine pu (ev tab rfl) rfl ?_
    refine WO.nil ?_
    refine qs ?_
    refine eachR (l := q.steps) (k := k) rfl (by simp [Ex.kc_len, bytes_len]) hk (fun x hx hd hlt => ?_) (fun he hd => ?_)
    · skip
      rw [hd, List.all_cons] at hI
      refine W.skip ?_
      refine qs ?_
      refine W.seq ?_
      refine W.block ?_
      refine W.seq ?_
      refine W.region ?_
      refine pu (ev tab rfl) rfl ?_
      first | refine pu (ev tab rfl) rfl ?_ | refine pu (loadRow tab rfl rfl rfl rfl) rfl ?_ | refine pu (loadBox tab rfl rfl rfl rfl rfl) rfl ?_
      refine pu (ev tab rfl) rfl ?_
      refine pu (indexAddr tab rfl rfl rfl rfl rfl rfl (Int.natCast_nonneg _) (idx_map hx) rfl) rfl ?_
      first | refine pu (ev tab rfl) rfl ?_ | refine pu (loadRow tab rfl rfl rfl rfl) rfl ?_ | refine pu (loadBox tab rfl rfl rfl rfl rfl) rfl ?_
      refine pu (puCall rfl rfl rfl (fewStep_fn x) rfl) rfl ?_
      refine pu (ev tab rfl) rfl ?_
      refine WO.nil ?_
      refine qs ?_
      refine condK rfl (fun h27 => ?_) (fun h27 => ?_)
      · skip
        have h27 : fewStep x = false := by simpa using h27
        rw [h27, Bool.false_and] at hI
        refine W.seq ?_
        refine W.region ?_
        refine pu (ev tab rfl) rfl ?_
        refine WO.nil ?_
        refine qs ?_
        refine W.ret ?_
        refine qbRet ?_
        refine qsRet ?_
        refine qlRet ?_
        refine qbRet ?_
        refine qsRet ?_
        refine QF.ret0 trivial rfl ?_
        rw [hg, ← hI]; rfl
      · skip
        have h27 : fewStep x = true := by simpa using h27
        rw [h27, Bool.true_and] at hI
        refine W.skip ?_
        refine qbN ?_
        refine qs ?_
        refine W.region ?_
        iterate 3 refine pu (ev tab rfl) rfl ?_
        refine WO.nil ?_
        refine W.endR [0] ⟨k + 1, ?_⟩ ?_ rfl ?_ trivial ?_ ⟨rfl, rfl, trivial⟩ rfl
        · exact ⟨hlt, hI⟩
        · dsimp only; omega
        · repeat' first | exact trivial | refine ⟨rfl, ?_⟩ | refine ⟨step_nat (by assumption) (by assumption), ?_⟩
        · repeat' first | exact trivial | refine ⟨rfl, ?_⟩ | refine ⟨step_nat (by assumption) (by assumption), ?_⟩
    · skip
      rw [hd, List.all_nil] at hI
      refine W.exit ?_
      refine qsExit ?_
      refine qlExit ?_
      refine qbExit ?_
      refine qs ?_
      refine W.seq ?_
      refine W.region ?_
      refine pu (ev tab rfl) rfl ?_
      refine WO.nil ?_
      refine qs ?_
      refine W.ret ?_
      refine QF.ret0 trivial rfl ?_
      rw [hg, ← hI]; rfl
end Go.Proofs.YtmhjgeneogknpaaGreat
namespace Go.Proofs.YtmhjgeneogknpaaGreat
open Go.Ab Go.Tb
set_option maxRecDepth 10000
attribute [local irreducible] W WO Pu QS QB QL QF QV QV1 CH QE
theorem any_comm (l : List ByteArray) (s : ByteArray) : (l.any fun x => decide (x = s)) = l.any fun x => decide (s = x) := by
  congr 1; funext x; simp only [eq_comm]
theorem rhas_fn (l : List ByteArray) (s : ByteArray) : Does Tryz.prog 70 [.d (.sl (l.map sc)), .d (.v (.string s))] (.d (.v (.bool (l.any fun x => decide (s = x))))) 0 := by
  refine Does.of_W (n := 18) (ts := [4]) Tryz.func70 (by kernel_rfl) rfl Tryz.ntmps70 Tryz.results70 rfl rfl fun C hC => ?_
  refine W.seq ?_
  refine W.region ?_
  refine pu (ev tab rfl) rfl ?_
  refine WO.nil ?_
  refine qs ?_
  refine W.seq ?_
  refine W.seq ?_
  refine W.region ?_
  refine pu (ev tab rfl) rfl ?_
  refine WO.nil ?_
  refine qs ?_
  refine W.block ?_
  refine W.len (t := 0) rfl rfl (fun hlen => ?_)
  try simp only [List.length_map, Ex.kc_len] at hlen
  refine W.loopR (ι := {x : Nat // match x with | k => k ≤ l.length ∧ (l.drop k).any (fun x => decide (s = x)) = l.any (fun x => decide (s = x))})
    (fun x => match x.1 with | k => [(5, .d (.v (.int .i64 ((k : Nat) : Int))))]) [(0, _), (1, _)]
    (fun x => match x.1 with | k => []) [] [] 0 (fun x => match x.1 with | k => l.length - k)
    [] ⟨0, ?_⟩ rfl ?_ ⟨rfl, rfl, rfl, rfl, trivial⟩ ?_ trivial rfl ?_
  · first | exact ⟨Nat.zero_le _, rfl⟩ | exact trivial | simp
  · repeat' first | exact trivial | refine ⟨rfl, ?_⟩ | refine ⟨step_nat (by assumption) (by assumption), ?_⟩
  · repeat' first | exact trivial | refine ⟨rfl, ?_⟩ | refine ⟨step_nat (by assumption) (by assumption), ?_⟩
  rintro ⟨k, hk, hI⟩
  show W _ _ _ _ _ ⟨[(5, .d (.v (.int .i64 ((k : Nat) : Int)))), (0, _), (1, _)], [], [], 0⟩
  refine W.seq ?_
  refine W.seq ?_
  refine W.region ?_
  iterate 4 refine pu (ev tab rfl) rfl ?_
  refine WO.nil ?_
  refine qs ?_
  refine eachR (l := l) (k := k) rfl (by simp [Ex.kc_len, bytes_len]) hk (fun x hx hd hlt => ?_) (fun he hd => ?_)
  · skip
    rw [hd, List.any_cons] at hI
    refine W.skip ?_
    refine qs ?_
    refine W.seq ?_
    refine W.block ?_
    refine W.seq ?_
    refine W.region ?_
    iterate 2 refine pu (ev tab rfl) rfl ?_
    refine pu (indexAddr tab rfl rfl rfl rfl rfl rfl (Int.natCast_nonneg _) (idx_map hx) rfl) rfl ?_
    first | refine pu (ev tab rfl) rfl ?_ | refine pu (loadRow tab rfl rfl rfl rfl) rfl ?_ | refine pu (loadBox tab rfl rfl rfl rfl rfl) rfl ?_
    iterate 2 refine pu (ev tab rfl) rfl ?_
    refine WO.nil ?_
    refine qs ?_
    refine condK rfl (fun h17 => ?_) (fun h17 => ?_)
    · skip
      have h17 : decide (s = x) = true := by simp at h17 ⊢; exact h17.symm
      rw [h17, Bool.true_or] at hI
      refine W.seq ?_
      refine W.region ?_
      refine pu (ev tab rfl) rfl ?_
      refine WO.nil ?_
      refine qs ?_
      refine W.ret ?_
      refine qbRet ?_
      refine qsRet ?_
      refine qlRet ?_
      refine qbRet ?_
      refine qsRet ?_
      refine QF.ret0 trivial rfl ?_
      rw [← hI]; rfl
    · skip
      have h17 : decide (s = x) = false := by simp at h17 ⊢; exact fun h => h17 h.symm
      rw [h17, Bool.false_or] at hI
      refine W.skip ?_
      refine qbN ?_
      refine qs ?_
      refine W.region ?_
      iterate 3 refine pu (ev tab rfl) rfl ?_
      refine WO.nil ?_
      refine W.endR [] ⟨k + 1, ?_⟩ ?_ rfl ?_ ⟨rfl, rfl, rfl, rfl, trivial⟩ ?_ trivial rfl
      · exact ⟨hlt, hI⟩
      · dsimp only; omega
      · repeat' first | exact trivial | refine ⟨rfl, ?_⟩ | refine ⟨step_nat (by assumption) (by assumption), ?_⟩
      · repeat' first | exact trivial | refine ⟨rfl, ?_⟩ | refine ⟨step_nat (by assumption) (by assumption), ?_⟩
  · skip
    rw [hd, List.any_nil] at hI
    refine W.exit ?_
    refine qsExit ?_
    refine qlExit ?_
    refine qbExit ?_
    refine qs ?_
    refine W.seq ?_
    refine W.region ?_
    refine pu (ev tab rfl) rfl ?_
    refine WO.nil ?_
    refine qs ?_
    refine W.ret ?_
    refine QF.ret0 trivial rfl ?_
    rw [← hI]; rfl

theorem rnumber_fn (cols : List Col) (name : ByteArray) : Does Tryz.prog 71 [.d (.sl (cols.map Col.c)), .d (.v (.string name))] (.d (.v (.int .i64 (intErr cols name)))) 0 := by
  refine Does.of_W (n := 17) (ts := [4]) Tryz.func71 (by kernel_rfl) rfl Tryz.ntmps71 Tryz.results71 rfl rfl fun C hC => ?_
  refine W.seq ?_
  refine W.region ?_
  refine pu (ev tab rfl) rfl ?_
  refine WO.nil ?_
  refine qs ?_
  refine W.seq ?_
  refine W.region ?_
  iterate 2 refine pu (ev tab rfl) rfl ?_
  refine pu (puCall rfl rfl rfl (rfind_fn ..) rfl) rfl ?_
  refine pu (ev tab rfl) rfl ?_
  refine WO.nil ?_
  refine qs ?_
  refine W.seq ?_
  refine W.seq ?_
  refine W.region ?_
  iterate 2 refine pu (ev tab rfl) rfl ?_
  refine WO.nil ?_
  refine qs ?_
  refine condK rfl (fun h10 => ?_) (fun h10 => ?_)
  · skip
    have h5 : findCol cols name = none := find_none (of_decide_eq_true h10)
    refine W.seq ?_
    refine W.region ?_
    refine pu (ev tab rfl) rfl ?_
    refine WO.nil ?_
    refine qs ?_
    refine W.ret ?_
    refine qsRet ?_
    refine QF.ret0 trivial rfl ?_
    simp only [norm, oneA, intErr, h5] <;> simp_all
  · skip
    obtain ⟨i, c, h3, h4, h5, h6⟩ := find_some (of_decide_eq_false h10)
    have h5 : findCol cols name = some c := h5
    refine W.skip ?_
    refine qs ?_
    refine W.seq ?_
    refine W.seq ?_
    refine W.region ?_
    iterate 2 refine pu (ev tab rfl) rfl ?_
    refine pu (indexAddr tab rfl rfl rfl rfl rfl rfl (i := idx _) (by rw [h3]; exact Int.natCast_nonneg _) (by rw [h3]; exact idx_map h4) rfl) rfl ?_
    refine pu (ev tab rfl) rfl ?_
    first | refine pu (ev tab rfl) rfl ?_ | refine pu (loadRow tab rfl rfl rfl rfl) rfl ?_ | refine pu (loadBox tab rfl rfl rfl rfl rfl) rfl ?_
    refine pu (ev tab rfl) rfl ?_
    refine WO.nil ?_
    refine qs ?_
    refine condK rfl (fun h16 => ?_) (fun h16 => ?_)
    · skip
      refine W.seq ?_
      refine W.region ?_
      refine pu (ev tab rfl) rfl ?_
      refine WO.nil ?_
      refine qs ?_
      refine W.ret ?_
      refine qsRet ?_
      refine QF.ret0 trivial rfl ?_
      simp only [norm, oneA, intErr, h5] <;> simp_all
    · skip
      refine W.skip ?_
      refine qs ?_
      refine W.seq ?_
      refine W.region ?_
      refine pu (ev tab rfl) rfl ?_
      refine WO.nil ?_
      refine qs ?_
      refine W.ret ?_
      refine QF.ret0 trivial rfl ?_
      simp only [norm, oneA, intErr, h5] <;> simp_all

theorem rpick_fn (cols : List Col) (names : List ByteArray) (h : names.length ≤ 100000) : Does Tryz.prog 69 [.d (.sl (cols.map Col.c)), .d (.sl (names.map sc))]
    (.tup [.own 0 ((takeT cols [] names).1.map Col.c), .d (.v (.int .i64 (takeT cols [] names).2))]) 1 := by
  refine Does.of_W (n := 31) (ts := [4, 5]) Tryz.func69 (by kernel_rfl) rfl Tryz.ntmps69 Tryz.results69 rfl rfl fun C hC => ?_
  refine W.seq ?_
  refine W.region ?_
  iterate 2 refine pu (ev tab rfl) rfl ?_
  refine WO.nil ?_
  refine qs ?_
  refine W.seq ?_
  refine W.region ?_
  refine pu (ev tab rfl) rfl ?_
  refine WO.nil ?_
  refine qs ?_
  refine W.seq ?_
  refine W.seq ?_
  refine W.region ?_
  refine pu (ev tab rfl) rfl ?_
  refine WO.nil ?_
  refine qs ?_
  refine W.block ?_
  refine ownNilR (d := 6) rfl rfl ?_
  refine W.len (t := 1) rfl rfl (fun hlen => ?_)
  try simp only [List.length_map, Ex.kc_len] at hlen
  refine W.loopR (ι := {x : Nat × List Col // match x with | (k, out) => k ≤ names.length ∧ takeT cols out (names.drop k) = takeT cols [] names ∧ out.length = k})
    (fun x => match x.1 with | (k, out) => [(6, .own 0 (out.map Col.c)), (7, .d (.v (.int .i64 ((k : Nat) : Int))))]) [(0, _), (1, _)]
    (fun x => match x.1 with | (k, out) => []) [] [0] 1 (fun x => match x.1 with | (k, out) => names.length - k)
    [0] ⟨(0, []), ?_⟩ rfl ?_ ⟨rfl, rfl, rfl, rfl, trivial⟩ ?_ trivial rfl ?_
  · exact ⟨Nat.zero_le _, rfl, rfl⟩
  · repeat' first | exact trivial | refine ⟨rfl, ?_⟩ | refine ⟨step_nat (by assumption) (by assumption), ?_⟩
  · repeat' first | exact trivial | refine ⟨rfl, ?_⟩ | refine ⟨step_nat (by assumption) (by assumption), ?_⟩
  rintro ⟨⟨k, out⟩, hk, hI, hL⟩
  show W _ _ _ _ _ ⟨[(6, .own 0 (out.map Col.c)), (7, .d (.v (.int .i64 ((k : Nat) : Int)))), (0, _), (1, _)], [], [0], 1⟩
  refine W.seq ?_
  refine W.seq ?_
  refine W.region ?_
  iterate 4 refine pu (ev tab rfl) rfl ?_
  refine WO.nil ?_
  refine qs ?_
  refine eachR (l := names) (k := k) rfl (by simp [Ex.kc_len, bytes_len]) hk (fun x hx hd hlt => ?_) (fun he hd => ?_)
  · skip
    rw [hd] at hI
    simp only [takeT] at hI
    refine W.skip ?_
    refine qs ?_
    refine W.seq ?_
    refine W.block ?_
    refine W.seq ?_
    refine W.region ?_
    iterate 3 refine pu (ev tab rfl) rfl ?_
    refine pu (indexAddr tab rfl rfl rfl rfl rfl rfl (Int.natCast_nonneg _) (idx_map hx) rfl) rfl ?_
    first | refine pu (ev tab rfl) rfl ?_ | refine pu (loadRow tab rfl rfl rfl rfl) rfl ?_ | refine pu (loadBox tab rfl rfl rfl rfl rfl) rfl ?_
    refine pu (puCall rfl rfl rfl (rfind_fn cols x) rfl) rfl ?_
    refine pu (ev tab rfl) rfl ?_
    refine WO.nil ?_
    refine qs ?_
    refine W.seq ?_
    refine W.seq ?_
    refine W.region ?_
    iterate 2 refine pu (ev tab rfl) rfl ?_
    refine WO.nil ?_
    refine qs ?_
    refine condK rfl (fun h22 => ?_) (fun h22 => ?_)
    · skip
      have h5 : findCol cols x = none := find_none (of_decide_eq_true h22)
      rw [h5] at hI
      refine W.seq ?_
      refine W.region ?_
      iterate 2 refine pu (ev tab rfl) rfl ?_
      refine WO.nil ?_
      refine qs ?_
      try refine ownNilR (d := 4) rfl rfl ?_
      refine W.ret ?_
      refine qsRet ?_
      refine qbRet ?_
      refine qsRet ?_
      refine qlRet ?_
      refine qbRet ?_
      refine qsRet ?_
      refine QF.ret1 1 trivial rfl (by simp) ?_
      rw [← hI]; rfl
    · skip
      obtain ⟨i, c, h3, h4, h5, h6⟩ := find_some (of_decide_eq_false h22)
      have h5 : findCol cols x = some c := h5
      rw [h5] at hI
      refine W.skip ?_
      refine qs ?_
      refine W.region ?_
      iterate 3 refine pu (ev tab rfl) rfl ?_
      refine pu (indexAddr tab rfl rfl rfl rfl rfl rfl (i := idx _) (by rw [h3]; exact Int.natCast_nonneg _) (by rw [h3]; exact idx_map h4) rfl) rfl ?_
      first | refine pu (ev tab rfl) rfl ?_ | refine pu (loadRow tab rfl rfl rfl rfl) rfl ?_ | refine pu (loadBox tab rfl rfl rfl rfl rfl) rfl ?_
      refine pu (buildV tab rfl rfl rfl rfl rfl rfl rfl rfl rfl) rfl ?_
      refine appendM (fn := Col.c) (a := c) tab rfl rfl rfl rfl rfl rfl rfl rfl rfl rfl (fun _ => rfl) (by show (out.length + 1) * 24 ≤ _; omega) ?_
      refine pu (ev tab rfl) rfl ?_
      refine WO.nil ?_
      refine qbN ?_
      refine qs ?_
      refine W.region ?_
      iterate 3 refine pu (ev tab rfl) rfl ?_
      refine WO.nil ?_
      refine W.endR [1] ⟨(k + 1, out ++ [c]), ?_⟩ ?_ rfl ?_ ⟨rfl, rfl, rfl, rfl, trivial⟩ ?_ trivial rfl
      · exact ⟨hlt, hI, by simp [hL]⟩
      · dsimp only; omega
      · repeat' first | exact trivial | refine ⟨rfl, ?_⟩ | refine ⟨step_nat (by assumption) (by assumption), ?_⟩
      · repeat' first | exact trivial | refine ⟨rfl, ?_⟩ | refine ⟨step_nat (by assumption) (by assumption), ?_⟩
  · skip
    rw [hd] at hI
    simp only [takeT] at hI
    refine W.exit ?_
    refine qsExit ?_
    refine qlExit ?_
    refine qbExit ?_
    refine qs ?_
    refine W.seq ?_
    refine W.region ?_
    iterate 3 refine pu (ev tab rfl) rfl ?_
    refine WO.nil ?_
    refine qs ?_
    try refine ownNilR (d := 4) rfl rfl ?_
    refine W.ret ?_
    refine QF.ret1 0 trivial rfl (by simp) ?_
    rw [← hI]; rfl

theorem rsel_fn (cols : List Col) (l : List Itm) (h : l.length ≤ 100000) (hv : ∀ x ∈ l, exprErr x.e = 0) : Does Tryz.prog 31 [.d (.sl (cols.map Col.c)), .d (.sl (l.map Itm.c))]
    (.tup [.d (.sl ((selT cols [] l).1.map Col.c)), .d (.v (.int .i64 (selT cols [] l).2))]) 0 := by
  refine Does.of_W (n := 46) (ts := [4, 5]) Tryz.func31 (by kernel_rfl) rfl Tryz.ntmps31 Tryz.results31 rfl rfl fun C hC => ?_
  refine W.seq ?_
  refine W.region ?_
  iterate 2 refine pu (ev tab rfl) rfl ?_
  refine WO.nil ?_
  refine qs ?_
  refine W.seq ?_
  refine W.region ?_
  refine pu (ev tab rfl) rfl ?_
  refine WO.nil ?_
  refine qs ?_
  refine W.seq ?_
  refine W.seq ?_
  refine W.region ?_
  refine pu (ev tab rfl) rfl ?_
  refine WO.nil ?_
  refine qs ?_
  refine W.block ?_
  refine ownNilR (d := 6) rfl rfl ?_
  refine W.len (t := 1) rfl rfl (fun hlen => ?_)
  try simp only [List.length_map, Ex.kc_len] at hlen
  refine W.loopR (ι := {x : Nat × List Col // match x with | (k, out) => k ≤ l.length ∧ selT cols out (l.drop k) = selT cols [] l ∧ out.length = k})
    (fun x => match x.1 with | (k, out) => [(6, .own 0 (out.map Col.c)), (7, .d (.v (.int .i64 ((k : Nat) : Int))))]) [(0, _), (1, _)]
    (fun x => match x.1 with | (k, out) => []) [] [0] 1 (fun x => match x.1 with | (k, out) => l.length - k)
    [0] ⟨(0, []), ?_⟩ rfl ?_ ⟨rfl, rfl, rfl, rfl, trivial⟩ ?_ trivial rfl ?_
  · exact ⟨Nat.zero_le _, rfl, rfl⟩
  · repeat' first | exact trivial | refine ⟨rfl, ?_⟩ | refine ⟨step_nat (by assumption) (by assumption), ?_⟩
  · repeat' first | exact trivial | refine ⟨rfl, ?_⟩ | refine ⟨step_nat (by assumption) (by assumption), ?_⟩
  rintro ⟨⟨k, out⟩, hk, hI, hL⟩
  show W _ _ _ _ _ ⟨[(6, .own 0 (out.map Col.c)), (7, .d (.v (.int .i64 ((k : Nat) : Int)))), (0, _), (1, _)], [], [0], 1⟩
  refine W.seq ?_
  refine W.seq ?_
  refine W.region ?_
  iterate 4 refine pu (ev tab rfl) rfl ?_
  refine WO.nil ?_
  refine qs ?_
  refine eachR (l := l) (k := k) rfl (by simp [Ex.kc_len, bytes_len]) hk (fun x hx hd hlt => ?_) (fun he hd => ?_)
  · skip
    rw [hd] at hI
    simp only [selT] at hI
    have hX := rtexpr_fn cols x.e
    rw [show exprT cols x.e = typ cols x.e by unfold exprT; rw [if_neg (by simp [hv x (List.mem_of_getElem? hx)])]] at hX
    refine W.skip ?_
    refine qs ?_
    refine W.seq ?_
    refine W.block ?_
    refine W.seq ?_
    refine W.region ?_
    iterate 3 refine pu (ev tab rfl) rfl ?_
    refine pu (indexAddr tab rfl rfl rfl rfl rfl rfl (Int.natCast_nonneg _) (idx_map hx) rfl) rfl ?_
    refine pu (ev tab rfl) rfl ?_
    first | refine pu (ev tab rfl) rfl ?_ | refine pu (loadRow tab rfl rfl rfl rfl) rfl ?_ | refine pu (loadBox tab rfl rfl rfl rfl rfl) rfl ?_
    refine pu (puCall rfl rfl rfl hX rfl) rfl ?_
    iterate 5 refine pu (ev tab rfl) rfl ?_
    refine WO.nil ?_
    refine qs ?_
    refine W.seq ?_
    refine W.seq ?_
    apply regionB; (case hb => rfl)
    · skip
      iterate 3 refine pu (ev tab rfl) rfl ?_
      apply splitJ; (case hj => rfl); (case hl => rfl)
      · skip
        refine goG rfl rfl ?_
        refine pu (ev tab rfl) rfl ?_
        refine goG rfl rfl ?_
        iterate 2 refine pu (ev tab rfl) rfl ?_
        refine WO.nil ?_
        refine qv1 rfl rfl rfl
      · skip
        refine skipT rfl rfl rfl rfl ?_
        refine skipT rfl rfl rfl rfl ?_
        refine pu (ev tab rfl) rfl ?_
        refine WO.nil ?_
        refine qv1 rfl rfl rfl
    refine qs ?_
    refine condK rfl (fun h31 => ?_) (fun h31 => ?_)
    · skip
      have h31 : (typ cols x.e).2 = 0 ∧ (typ cols x.e).1 = 0 := by revert h31; by_cases q : (typ cols x.e).2 = 0 <;> simp [q]
      rw [if_neg (by simp [h31.1]), if_pos h31.2] at hI
      refine W.region ?_
      refine pu (ev tab rfl) rfl ?_
      refine WO.nil ?_
      refine qs ?_
      refine W.seq ?_
      refine W.seq ?_
      refine W.region ?_
      iterate 2 refine pu (ev tab rfl) rfl ?_
      refine WO.nil ?_
      refine qs ?_
      refine condK rfl (fun h33 => ?_) (fun h33 => ?_)
      · skip
        try rw [if_pos (by simpa using h33)] at hI
        refine W.seq ?_
        refine W.region ?_
        iterate 3 refine pu (ev tab rfl) rfl ?_
        refine WO.nil ?_
        refine qs ?_
        try refine ownNilR (d := 4) rfl rfl ?_
        refine W.ret ?_
        refine qsRet ?_
        refine qbRet ?_
        refine qsRet ?_
        refine qlRet ?_
        refine qbRet ?_
        refine qsRet ?_
        refine QF.ret0 trivial rfl ?_
        rw [← hI]; rfl
      · skip
        try rw [if_neg (by simpa using h33), if_neg (h31 (by simpa using h33))] at hI
        refine W.skip ?_
        refine qs ?_
        refine W.region ?_
        iterate 3 refine pu (ev tab rfl) rfl ?_
        refine pu (indexAddr tab rfl rfl rfl rfl rfl rfl (Int.natCast_nonneg _) (idx_map hx) rfl) rfl ?_
        refine pu (ev tab rfl) rfl ?_
        first | refine pu (ev tab rfl) rfl ?_ | refine pu (loadRow tab rfl rfl rfl rfl) rfl ?_ | refine pu (loadBox tab rfl rfl rfl rfl rfl) rfl ?_
        refine pu (ev tab rfl) rfl ?_
        refine pu (build tab rfl rfl rfl rfl) rfl ?_
        refine pu (buildV tab rfl rfl rfl rfl rfl rfl rfl rfl rfl) rfl ?_
        refine appendM (fn := Col.c) (a := ⟨x.name, (typ cols x.e).1⟩) tab rfl rfl rfl rfl rfl rfl rfl rfl rfl rfl (fun _ => rfl) (by show (out.length + 1) * 24 ≤ _; omega) ?_
        refine pu (ev tab rfl) rfl ?_
        refine WO.nil ?_
        refine qbN ?_
        refine qs ?_
        refine W.region ?_
        iterate 3 refine pu (ev tab rfl) rfl ?_
        refine WO.nil ?_
        refine W.endR [1] ⟨(k + 1, out ++ [⟨x.name, (typ cols x.e).1⟩]), ?_⟩ ?_ rfl ?_ ⟨rfl, rfl, rfl, rfl, trivial⟩ ?_ trivial rfl
        · first | exact ⟨hlt, hI, by simp [hL]⟩ | (exfalso; simp at h33)
        · dsimp only; omega
        · repeat' first | exact trivial | refine ⟨rfl, ?_⟩ | refine ⟨step_nat (by assumption) (by assumption), ?_⟩
        · repeat' first | exact trivial | refine ⟨rfl, ?_⟩ | refine ⟨step_nat (by assumption) (by assumption), ?_⟩
    · skip
      have h31 : (typ cols x.e).2 = 0 → ¬ (typ cols x.e).1 = 0 := by revert h31; by_cases q : (typ cols x.e).2 = 0 <;> simp [q]
      refine W.skip ?_
      refine qs ?_
      refine W.seq ?_
      refine W.seq ?_
      refine W.region ?_
      iterate 2 refine pu (ev tab rfl) rfl ?_
      refine WO.nil ?_
      refine qs ?_
      refine condK rfl (fun h33 => ?_) (fun h33 => ?_)
      · skip
        try rw [if_pos (by simpa using h33)] at hI
        refine W.seq ?_
        refine W.region ?_
        iterate 3 refine pu (ev tab rfl) rfl ?_
        refine WO.nil ?_
        refine qs ?_
        try refine ownNilR (d := 4) rfl rfl ?_
        refine W.ret ?_
        refine qsRet ?_
        refine qbRet ?_
        refine qsRet ?_
        refine qlRet ?_
        refine qbRet ?_
        refine qsRet ?_
        refine QF.ret0 trivial rfl ?_
        rw [← hI]; rfl
      · skip
        try rw [if_neg (by simpa using h33), if_neg (h31 (by simpa using h33))] at hI
        refine W.skip ?_
        refine qs ?_
        refine W.region ?_
        iterate 3 refine pu (ev tab rfl) rfl ?_
        refine pu (indexAddr tab rfl rfl rfl rfl rfl rfl (Int.natCast_nonneg _) (idx_map hx) rfl) rfl ?_
        refine pu (ev tab rfl) rfl ?_
        first | refine pu (ev tab rfl) rfl ?_ | refine pu (loadRow tab rfl rfl rfl rfl) rfl ?_ | refine pu (loadBox tab rfl rfl rfl rfl rfl) rfl ?_
        refine pu (ev tab rfl) rfl ?_
        refine pu (build tab rfl rfl rfl rfl) rfl ?_
        refine pu (buildV tab rfl rfl rfl rfl rfl rfl rfl rfl rfl) rfl ?_
        refine appendM (fn := Col.c) (a := ⟨x.name, (typ cols x.e).1⟩) tab rfl rfl rfl rfl rfl rfl rfl rfl rfl rfl (fun _ => rfl) (by show (out.length + 1) * 24 ≤ _; omega) ?_
        refine pu (ev tab rfl) rfl ?_
        refine WO.nil ?_
        refine qbN ?_
        refine qs ?_
        refine W.region ?_
        iterate 3 refine pu (ev tab rfl) rfl ?_
        refine WO.nil ?_
        refine W.endR [1] ⟨(k + 1, out ++ [⟨x.name, (typ cols x.e).1⟩]), ?_⟩ ?_ rfl ?_ ⟨rfl, rfl, rfl, rfl, trivial⟩ ?_ trivial rfl
        · first | exact ⟨hlt, hI, by simp [hL]⟩ | (exfalso; simp at h33)
        · dsimp only; omega
        · repeat' first | exact trivial | refine ⟨rfl, ?_⟩ | refine ⟨step_nat (by assumption) (by assumption), ?_⟩
        · repeat' first | exact trivial | refine ⟨rfl, ?_⟩ | refine ⟨step_nat (by assumption) (by assumption), ?_⟩
  · skip
    rw [hd] at hI
    simp only [selT] at hI
    refine W.exit ?_
    refine qsExit ?_
    refine qlExit ?_
    refine qbExit ?_
    refine qs ?_
    refine W.seq ?_
    refine W.region ?_
    iterate 3 refine pu (ev tab rfl) rfl ?_
    refine WO.nil ?_
    refine qs ?_
    try refine ownNilR (d := 4) rfl rfl ?_
    refine W.ret ?_
    refine QF.ret0 trivial rfl ?_
    rw [← hI]; rfl

theorem rgroup_fn (cols : List Col) (s : Stp) (hf : fewS s) : Does Tryz.prog 32 [.d (.sl (cols.map Col.c)), .ag s.c]
    (.tup [.d (.sl ((groupT cols s).1.map Col.c)), .d (.v (.int .i64 (groupT cols s).2))]) 0 := by
  obtain ⟨hf1, hf2, hf3, hf4⟩ := hf
  have htl := takeT_len cols s.cols []
  have hg : groupT cols s = groupT cols s := rfl
  conv at hg => rhs; unfold groupT
  refine Does.of_W (n := 72) (ts := [4, 5]) Tryz.func32 (by kernel_rfl) rfl Tryz.ntmps32 Tryz.results32 rfl rfl fun C hC => ?_
  refine W.seq ?_
  refine W.region ?_
  refine boxR rfl rfl rfl ?_
  iterate 2 refine pu (ev tab rfl) rfl ?_
  refine WO.nil ?_
  refine qs ?_
  refine W.seq ?_
  refine W.region ?_
  iterate 2 refine pu (ev tab rfl) rfl ?_
  first | refine pu (ev tab rfl) rfl ?_ | refine pu (loadRow tab rfl rfl rfl rfl) rfl ?_ | refine pu (loadBox tab rfl rfl rfl rfl rfl) rfl ?_
  refine callR rfl rfl rfl (rpick_fn cols s.cols (by omega)) (by rfl) rfl rfl ?_
  iterate 5 refine pu (ev tab rfl) rfl ?_
  refine WO.nil ?_
  refine qs ?_
  refine W.seq ?_
  refine W.seq ?_
  refine W.region ?_
  refine pu (ev tab rfl) rfl ?_
  refine WO.nil ?_
  refine qs ?_
  refine W.block ?_
  have hlen : s.aggs.length ≤ maxLen := by simp [maxLen]; omega
  refine W.loopR (ι := {x : Nat × List Col // match x with | (k, out) => k ≤ s.aggs.length ∧ ((takeT cols [] s.cols).2 = 0 → aggT cols out (s.aggs.drop k) = aggT cols (takeT cols [] s.cols).1 s.aggs) ∧ out.length ≤ 400 + k})
    (fun x => match x.1 with | (k, out) => [(3, .ptr 0 0), (6, .own 1 (out.map Col.c)), (8, .d (.v (.int .i64 ((k : Nat) : Int))))]) [(0, _), (7, _)]
    (fun x => match x.1 with | (k, out) => []) [(0, _)] [1] 2 (fun x => match x.1 with | (k, out) => s.aggs.length - k)
    [0, 1] ⟨(0, (takeT cols [] s.cols).1), ?_⟩ rfl ?_ ⟨rfl, rfl, rfl, rfl, trivial⟩ ?_ ⟨rfl, rfl, trivial⟩ rfl ?_
  · exact ⟨Nat.zero_le _, fun _ => rfl, by simp at htl; omega⟩
  · repeat' first | exact trivial | refine ⟨rfl, ?_⟩ | refine ⟨step_nat (by assumption) (by assumption), ?_⟩
  · repeat' first | exact trivial | refine ⟨rfl, ?_⟩ | refine ⟨step_nat (by assumption) (by assumption), ?_⟩
  rintro ⟨⟨k, out⟩, hk, hI, hL⟩
  show W _ _ _ _ _ ⟨[(3, .ptr 0 0), (6, .own 1 (out.map Col.c)), (8, .d (.v (.int .i64 ((k : Nat) : Int)))), (0, _), (7, _)], [(0, _)], [1], 2⟩
  refine W.seq ?_
  refine W.seq ?_
  apply regionB; (case hb => rfl)
  · skip
    iterate 2 refine pu (ev tab rfl) rfl ?_
    first | refine pu (ev tab rfl) rfl ?_ | refine pu (loadRow tab rfl rfl rfl rfl) rfl ?_ | refine pu (loadBox tab rfl rfl rfl rfl rfl) rfl ?_
    iterate 3 refine pu (ev tab rfl) rfl ?_
    apply splitJ; (case hj => rfl); (case hl => rfl)
    · skip
      refine goG rfl rfl ?_
      refine pu (ev tab rfl) rfl ?_
      refine goG rfl rfl ?_
      iterate 2 refine pu (ev tab rfl) rfl ?_
      refine WO.nil ?_
      refine qv1 rfl rfl rfl
    · skip
      refine skipT rfl rfl rfl rfl ?_
      refine skipT rfl rfl rfl rfl ?_
      refine pu (ev tab rfl) rfl ?_
      refine WO.nil ?_
      refine qv1 rfl rfl rfl
  refine qs ?_
  refine condK rfl (fun h27 => ?_) (fun h27 => ?_)
  · skip
    have h27' : k < s.aggs.length ∧ (takeT cols [] s.cols).2 = 0 := by revert h27; simp only [List.length_map]; by_cases q : (k : Int) < s.aggs.length <;> simp [q]; omega
    obtain ⟨hlt, hz⟩ := h27'
    obtain ⟨x, hx, hd⟩ := exAt hlt
    rw [if_neg (by simp [hz])] at hg
    have hI := hI hz
    rw [hd] at hI
    simp only [aggT] at hI
    refine W.skip ?_
    refine qs ?_
    refine W.seq ?_
    refine W.block ?_
    refine W.seq ?_
    refine W.region ?_
    refine pu (ev tab rfl) rfl ?_
    first | refine pu (ev tab rfl) rfl ?_ | refine pu (loadRow tab rfl rfl rfl rfl) rfl ?_ | refine pu (loadBox tab rfl rfl rfl rfl rfl) rfl ?_
    refine pu (ev tab rfl) rfl ?_
    refine pu (indexAddr tab rfl rfl rfl rfl rfl rfl (Int.natCast_nonneg _) (idx_map hx) rfl) rfl ?_
    first | refine pu (ev tab rfl) rfl ?_ | refine pu (loadRow tab rfl rfl rfl rfl) rfl ?_ | refine pu (loadBox tab rfl rfl rfl rfl rfl) rfl ?_
    refine allocR tab rfl rfl rfl ?_
    refine storeR tab rfl rfl rfl rfl rfl rfl rfl rfl ?_
    refine WO.nil ?_
    refine qs ?_
    refine W.seq ?_
    refine W.region ?_
    refine pu (ev tab rfl) rfl ?_
    first | refine pu (ev tab rfl) rfl ?_ | refine pu (loadRow tab rfl rfl rfl rfl) rfl ?_ | refine pu (loadBox tab rfl rfl rfl rfl rfl) rfl ?_
    refine pu (build tab rfl rfl rfl rfl) rfl ?_
    refine allocR tab rfl rfl rfl ?_
    refine storeR tab rfl rfl rfl rfl rfl rfl rfl rfl ?_
    refine WO.nil ?_
    refine qs ?_
    refine W.seq ?_
    refine W.seq ?_
    refine W.region ?_
    refine pu (ev tab rfl) rfl ?_
    first | refine pu (ev tab rfl) rfl ?_ | refine pu (loadRow tab rfl rfl rfl rfl) rfl ?_ | refine pu (loadBox tab rfl rfl rfl rfl rfl) rfl ?_
    refine pu (ev tab rfl) rfl ?_
    refine WO.nil ?_
    refine qs ?_
    refine condK rfl (fun h40 => ?_) (fun h40 => ?_)
    · skip
      have h40 : ¬ (x.fn = wCount) := by simpa [wCount] using h40
      rw [if_neg h40] at hI
      refine W.seq ?_
      refine W.region ?_
      iterate 2 refine pu (ev tab rfl) rfl ?_
      first | refine pu (ev tab rfl) rfl ?_ | refine pu (loadRow tab rfl rfl rfl rfl) rfl ?_ | refine pu (loadBox tab rfl rfl rfl rfl rfl) rfl ?_
      refine pu (puCall rfl rfl rfl (rfind_fn cols x.col) rfl) rfl ?_
      refine pu (ev tab rfl) rfl ?_
      refine WO.nil ?_
      refine qs ?_
      refine W.seq ?_
      refine W.seq ?_
      refine W.region ?_
      iterate 2 refine pu (ev tab rfl) rfl ?_
      refine WO.nil ?_
      refine qs ?_
      refine condK rfl (fun h46 => ?_) (fun h46 => ?_)
      · skip
        have h5 : findCol cols x.col = none := find_none (of_decide_eq_true h46)
        rw [h5] at hI
        refine W.seq ?_
        refine W.region ?_
        iterate 2 refine pu (ev tab rfl) rfl ?_
        refine WO.nil ?_
        refine qs ?_
        try refine ownNilR (d := 4) rfl rfl ?_
        refine W.ret ?_
        refine qsRet ?_
        refine qsRet ?_
        refine qbRet ?_
        refine qsRet ?_
        refine qlRet ?_
        refine qbRet ?_
        refine qsRet ?_
        refine QF.ret0 trivial rfl ?_
        rw [hg, ← hI]; rfl
      · skip
        obtain ⟨i, c, h3, h4, h5, h6⟩ := find_some (of_decide_eq_false h46)
        have h5 : findCol cols x.col = some c := h5
        rw [h5] at hI
        simp only at hI
        refine W.skip ?_
        refine qs ?_
        refine W.seq ?_
        refine W.seq ?_
        apply regionB; (case hb => rfl)
        · skip
          refine pu (ev tab rfl) rfl ?_
          first | refine pu (ev tab rfl) rfl ?_ | refine pu (loadRow tab rfl rfl rfl rfl) rfl ?_ | refine pu (loadBox tab rfl rfl rfl rfl rfl) rfl ?_
          iterate 2 refine pu (ev tab rfl) rfl ?_
          apply splitJ; (case hj => rfl); (case hl => rfl)
          · skip
            refine goG rfl rfl ?_
            refine pu (ev tab rfl) rfl ?_
            refine goG rfl rfl ?_
            refine pu (ev tab rfl) rfl ?_
            refine goG rfl rfl ?_
            refine pu (indexAddr tab rfl rfl rfl rfl rfl rfl (i := idx _) (by rw [h3]; exact Int.natCast_nonneg _) (by rw [h3]; exact idx_map h4) rfl) rfl ?_
            refine goG rfl rfl ?_
            refine pu (ev tab rfl) rfl ?_
            refine goG rfl rfl ?_
            first | refine pu (ev tab rfl) rfl ?_ | refine pu (loadRow tab rfl rfl rfl rfl) rfl ?_ | refine pu (loadBox tab rfl rfl rfl rfl rfl) rfl ?_
            refine goG rfl rfl ?_
            iterate 2 refine pu (ev tab rfl) rfl ?_
            refine WO.nil ?_
            refine qv1 rfl rfl rfl
          · skip
            refine skipT rfl rfl rfl rfl ?_
            refine skipT rfl rfl rfl rfl ?_
            refine skipT rfl rfl rfl rfl ?_
            refine skipT rfl rfl rfl rfl ?_
            refine skipT rfl rfl rfl rfl ?_
            refine skipT rfl rfl rfl rfl ?_
            refine pu (ev tab rfl) rfl ?_
            refine WO.nil ?_
            refine qv1 rfl rfl rfl
        refine qs ?_
        refine condK rfl (fun h57 => ?_) (fun h57 => ?_)
        · skip
          have h57 : x.fn = wSum ∧ c.type ≠ 2 := by revert h57; simp only [wSum]; by_cases q : x.fn = B #[115, 117, 109] <;> simp [q]
          rw [if_pos h57] at hI
          refine W.seq ?_
          refine W.region ?_
          iterate 2 refine pu (ev tab rfl) rfl ?_
          refine WO.nil ?_
          refine qs ?_
          try refine ownNilR (d := 4) rfl rfl ?_
          refine W.ret ?_
          refine qsRet ?_
          refine qsRet ?_
          refine qbRet ?_
          refine qsRet ?_
          refine qlRet ?_
          refine qbRet ?_
          refine qsRet ?_
          refine QF.ret0 trivial rfl ?_
          rw [hg, ← hI]; rfl
        · skip
          have h57 : ¬ (x.fn = wSum ∧ c.type ≠ 2) := by revert h57; simp only [wSum]; by_cases q : x.fn = B #[115, 117, 109] <;> simp [q]
          rw [if_neg h57] at hI
          let ty : Int := c.type
          refine W.skip ?_
          refine qs ?_
          refine W.region ?_
          iterate 2 refine pu (ev tab rfl) rfl ?_
          refine pu (indexAddr tab rfl rfl rfl rfl rfl rfl (i := idx _) (by rw [h3]; exact Int.natCast_nonneg _) (by rw [h3]; exact idx_map h4) rfl) rfl ?_
          refine pu (ev tab rfl) rfl ?_
          first | refine pu (ev tab rfl) rfl ?_ | refine pu (loadRow tab rfl rfl rfl rfl) rfl ?_ | refine pu (loadBox tab rfl rfl rfl rfl rfl) rfl ?_
          refine pu (ev tab rfl) rfl ?_
          refine storeR tab rfl rfl rfl rfl rfl rfl rfl rfl ?_
          refine WO.nil ?_
          refine qs ?_
          refine W.region ?_
          refine pu (ev tab rfl) rfl ?_
          first | refine pu (ev tab rfl) rfl ?_ | refine pu (loadRow tab rfl rfl rfl rfl) rfl ?_ | refine pu (loadBox tab rfl rfl rfl rfl rfl) rfl ?_
          refine pu (buildV tab rfl rfl rfl rfl rfl rfl rfl rfl rfl) rfl ?_
          refine appendM (fn := Col.c) (a := ⟨x.name, ty⟩) tab rfl rfl rfl rfl rfl rfl rfl rfl rfl rfl (fun _ => rfl) (by show (out.length + 1) * 24 ≤ _; omega) ?_
          refine pu (ev tab rfl) rfl ?_
          refine WO.nil ?_
          refine qbN ?_
          refine qs ?_
          refine W.region ?_
          iterate 3 refine pu (ev tab rfl) rfl ?_
          refine WO.nil ?_
          refine W.endR [0, 4] ⟨(k + 1, out ++ [⟨x.name, ty⟩]), ?_⟩ ?_ rfl ?_ ⟨rfl, rfl, rfl, rfl, trivial⟩ ?_ ⟨rfl, rfl, trivial⟩ rfl
          · exact ⟨hlt, fun _ => hI, by simp; omega⟩
          · dsimp only; omega
          · repeat' first | exact trivial | refine ⟨rfl, ?_⟩ | refine ⟨step_nat (by assumption) (by assumption), ?_⟩
          · repeat' first | exact trivial | refine ⟨rfl, ?_⟩ | refine ⟨step_nat (by assumption) (by assumption), ?_⟩
    · skip
      have h40 : x.fn = wCount := by simpa [wCount] using h40
      rw [if_pos h40] at hI
      let ty : Int := 2
      refine W.skip ?_
      refine qs ?_
      refine W.region ?_
      refine pu (ev tab rfl) rfl ?_
      first | refine pu (ev tab rfl) rfl ?_ | refine pu (loadRow tab rfl rfl rfl rfl) rfl ?_ | refine pu (loadBox tab rfl rfl rfl rfl rfl) rfl ?_
      refine pu (buildV tab rfl rfl rfl rfl rfl rfl rfl rfl rfl) rfl ?_
      refine appendM (fn := Col.c) (a := ⟨x.name, ty⟩) tab rfl rfl rfl rfl rfl rfl rfl rfl rfl rfl (fun _ => rfl) (by show (out.length + 1) * 24 ≤ _; omega) ?_
      refine pu (ev tab rfl) rfl ?_
      refine WO.nil ?_
      refine qbN ?_
      refine qs ?_
      refine W.region ?_
      iterate 3 refine pu (ev tab rfl) rfl ?_
      refine WO.nil ?_
      refine W.endR [0, 4] ⟨(k + 1, out ++ [⟨x.name, ty⟩]), ?_⟩ ?_ rfl ?_ ⟨rfl, rfl, rfl, rfl, trivial⟩ ?_ ⟨rfl, rfl, trivial⟩ rfl
      · exact ⟨hlt, fun _ => hI, by simp; omega⟩
      · dsimp only; omega
      · repeat' first | exact trivial | refine ⟨rfl, ?_⟩ | refine ⟨step_nat (by assumption) (by assumption), ?_⟩
      · repeat' first | exact trivial | refine ⟨rfl, ?_⟩ | refine ⟨step_nat (by assumption) (by assumption), ?_⟩
  · skip
    have h27' : k < s.aggs.length → ¬ (takeT cols [] s.cols).2 = 0 := by
      intro hk2 hy
      have hk3 : (k : Int) < s.aggs.length := by omega
      simp [hk3, hy] at h27
    refine W.exit ?_
    refine qsExit ?_
    refine qlExit ?_
    refine qbExit ?_
    refine qs ?_
    refine W.seq ?_
    refine W.seq ?_
    refine W.region ?_
    iterate 2 refine pu (ev tab rfl) rfl ?_
    refine WO.nil ?_
    refine qs ?_
    refine condK rfl (fun h69 => ?_) (fun h69 => ?_)
    · skip
      rw [if_pos (by simpa using h69)] at hg
      refine W.seq ?_
      refine W.region ?_
      iterate 3 refine pu (ev tab rfl) rfl ?_
      refine WO.nil ?_
      refine qs ?_
      try refine ownNilR (d := 4) rfl rfl ?_
      refine W.ret ?_
      refine qsRet ?_
      refine QF.ret0 trivial rfl ?_
      rw [hg]; rfl
    · skip
      have hz : (takeT cols [] s.cols).2 = 0 := by simpa using h69
      rw [if_neg (by simp [hz])] at hg
      have hI := hI hz
      rw [dropEnd (by have := fun h => h27' h hz; omega)] at hI
      simp only [aggT] at hI
      refine W.skip ?_
      refine qs ?_
      refine W.seq ?_
      refine W.region ?_
      iterate 3 refine pu (ev tab rfl) rfl ?_
      refine WO.nil ?_
      refine qs ?_
      try refine ownNilR (d := 4) rfl rfl ?_
      refine W.ret ?_
      refine QF.ret0 trivial rfl ?_
      rw [hg, ← hI]; rfl

theorem rcoal_fn (cols : List Col) (s : Stp) (hf : fewS s) : Does Tryz.prog 34 [.d (.sl (cols.map Col.c)), .ag s.c]
    (.tup [.d (.sl ((coalT cols s).1.map Col.c)), .d (.v (.int .i64 (coalT cols s).2))]) 0 := by
  obtain ⟨hf1, hf2, hf3, hf4⟩ := hf
  have htl := takeT_len cols s.cols []
  have hg : coalT cols s = coalT cols s := rfl
  conv at hg => rhs; unfold coalT
  refine Does.of_W (n := 39) (ts := [4, 5]) Tryz.func34 (by kernel_rfl) rfl Tryz.ntmps34 Tryz.results34 rfl rfl fun C hC => ?_
  refine W.seq ?_
  refine W.region ?_
  refine boxR rfl rfl rfl ?_
  iterate 2 refine pu (ev tab rfl) rfl ?_
  refine WO.nil ?_
  refine qs ?_
  refine W.seq ?_
  refine W.seq ?_
  apply regionB; (case hb => rfl)
  · skip
    refine pu (ev tab rfl) rfl ?_
    first | refine pu (ev tab rfl) rfl ?_ | refine pu (loadRow tab rfl rfl rfl rfl) rfl ?_ | refine pu (loadBox tab rfl rfl rfl rfl rfl) rfl ?_
    refine pu (puCall rfl rfl rfl (rhas_fn s.cols wFrom) rfl) rfl ?_
    refine pu (ev tab rfl) rfl ?_
    apply splitJ; (case hj => rfl); (case hl => rfl)
    · skip
      refine skipT rfl rfl rfl rfl ?_
      refine skipT rfl rfl rfl rfl ?_
      refine skipT rfl rfl rfl rfl ?_
      refine pu (ev tab rfl) rfl ?_
      refine WO.nil ?_
      refine qv1 rfl rfl rfl
    · skip
      refine goG rfl rfl ?_
      refine pu (ev tab rfl) rfl ?_
      refine goG rfl rfl ?_
      first | refine pu (ev tab rfl) rfl ?_ | refine pu (loadRow tab rfl rfl rfl rfl) rfl ?_ | refine pu (loadBox tab rfl rfl rfl rfl rfl) rfl ?_
      refine goG rfl rfl ?_
      refine pu (puCall rfl rfl rfl (rhas_fn s.cols wTo) rfl) rfl ?_
      refine pu (ev tab rfl) rfl ?_
      refine WO.nil ?_
      refine qv1 rfl rfl rfl
  refine qs ?_
  refine condK rfl (fun h15 => ?_) (fun h15 => ?_)
  · skip
    rw [if_pos (by revert h15; generalize s.cols.any (fun x => decide (wFrom = x)) = a; generalize s.cols.any (fun x => decide (wTo = x)) = b; cases a <;> cases b <;> simp)] at hg
    refine W.seq ?_
    refine W.region ?_
    iterate 2 refine pu (ev tab rfl) rfl ?_
    refine WO.nil ?_
    refine qs ?_
    try refine ownNilR (d := 4) rfl rfl ?_
    refine W.ret ?_
    refine qsRet ?_
    refine QF.ret0 trivial rfl ?_
    first | (rw [hg]; rfl) | (exfalso; simp_all)
  · skip
    rw [if_neg (by revert h15; generalize s.cols.any (fun x => decide (wFrom = x)) = a; generalize s.cols.any (fun x => decide (wTo = x)) = b; cases a <;> cases b <;> simp)] at hg
    refine W.skip ?_
    refine qs ?_
    refine W.seq ?_
    refine W.region ?_
    iterate 2 refine pu (ev tab rfl) rfl ?_
    first | refine pu (ev tab rfl) rfl ?_ | refine pu (loadRow tab rfl rfl rfl rfl) rfl ?_ | refine pu (loadBox tab rfl rfl rfl rfl rfl) rfl ?_
    refine callR rfl rfl rfl (rpick_fn cols s.cols (by omega)) (by rfl) rfl rfl ?_
    iterate 5 refine pu (ev tab rfl) rfl ?_
    refine WO.nil ?_
    refine qs ?_
    refine W.seq ?_
    refine W.seq ?_
    refine W.region ?_
    iterate 2 refine pu (ev tab rfl) rfl ?_
    refine WO.nil ?_
    refine qs ?_
    refine condK rfl (fun h24 => ?_) (fun h24 => ?_)
    · skip
      have h24 : (takeT cols [] s.cols).2 = 0 := by simpa using h24
      rw [if_neg (by simp [h24])] at hg
      refine W.region ?_
      refine pu (ev tab rfl) rfl ?_
      refine pu (puCall rfl rfl rfl (rnumber_fn cols wFrom) rfl) rfl ?_
      refine pu (ev tab rfl) rfl ?_
      refine WO.nil ?_
      refine qs ?_
      refine W.seq ?_
      refine W.seq ?_
      refine W.region ?_
      iterate 2 refine pu (ev tab rfl) rfl ?_
      refine WO.nil ?_
      refine qs ?_
      refine condK rfl (fun h28 => ?_) (fun h28 => ?_)
      · skip
        try rw [if_neg (by simpa using h28)] at hg
        refine W.region ?_
        refine pu (ev tab rfl) rfl ?_
        refine pu (puCall rfl rfl rfl (rnumber_fn cols wTo) rfl) rfl ?_
        refine pu (ev tab rfl) rfl ?_
        refine WO.nil ?_
        refine qs ?_
        refine W.seq ?_
        refine W.seq ?_
        refine W.region ?_
        iterate 2 refine pu (ev tab rfl) rfl ?_
        refine WO.nil ?_
        refine qs ?_
        refine condK rfl (fun h32 => ?_) (fun h32 => ?_)
        · skip
          try rw [if_pos (by simpa using h32)] at hg
          refine W.seq ?_
          refine W.region ?_
          iterate 3 refine pu (ev tab rfl) rfl ?_
          refine WO.nil ?_
          refine qs ?_
          try refine ownNilR (d := 4) rfl rfl ?_
          refine W.ret ?_
          refine qsRet ?_
          refine QF.ret0 trivial rfl ?_
          first | (rw [hg]; rfl) | (exfalso; simp_all)
        · skip
          try rw [if_neg (by simpa using h32)] at hg
          refine W.skip ?_
          refine qs ?_
          refine W.seq ?_
          refine W.region ?_
          refine pu (ev tab rfl) rfl ?_
          refine pu (build tab rfl rfl rfl rfl) rfl ?_
          refine pu (build tab rfl rfl rfl rfl) rfl ?_
          refine pu (buildV tab rfl rfl rfl rfl rfl rfl rfl rfl rfl) rfl ?_
          refine appendMs (l2 := [⟨wFrom, 2⟩, ⟨wTo, 2⟩]) (fn := Col.c) tab rfl rfl rfl rfl rfl rfl rfl rfl rfl rfl (fun _ => rfl) (by show ((takeT cols [] s.cols).1.length + 2) * 24 ≤ _; simp at htl; omega) ?_
          iterate 2 refine pu (ev tab rfl) rfl ?_
          refine WO.nil ?_
          refine qs ?_
          try refine ownNilR (d := 4) rfl rfl ?_
          refine W.ret ?_
          refine QF.ret0 trivial rfl ?_
          first | (rw [hg]; rfl) | (exfalso; simp_all)
      · skip
        try rw [if_pos (by simpa using h28)] at hg
        refine W.skip ?_
        refine qs ?_
        refine W.seq ?_
        refine W.seq ?_
        refine W.region ?_
        iterate 2 refine pu (ev tab rfl) rfl ?_
        refine WO.nil ?_
        refine qs ?_
        refine condK rfl (fun h32 => ?_) (fun h32 => ?_)
        · skip
          try rw [if_pos (by simpa using h32)] at hg
          refine W.seq ?_
          refine W.region ?_
          iterate 3 refine pu (ev tab rfl) rfl ?_
          refine WO.nil ?_
          refine qs ?_
          try refine ownNilR (d := 4) rfl rfl ?_
          refine W.ret ?_
          refine qsRet ?_
          refine QF.ret0 trivial rfl ?_
          first | (rw [hg]; rfl) | (exfalso; simp_all)
        · skip
          try rw [if_neg (by simpa using h32)] at hg
          refine W.skip ?_
          refine qs ?_
          refine W.seq ?_
          refine W.region ?_
          refine pu (ev tab rfl) rfl ?_
          refine pu (build tab rfl rfl rfl rfl) rfl ?_
          refine pu (build tab rfl rfl rfl rfl) rfl ?_
          refine pu (buildV tab rfl rfl rfl rfl rfl rfl rfl rfl rfl) rfl ?_
          refine appendMs (l2 := [⟨wFrom, 2⟩, ⟨wTo, 2⟩]) (fn := Col.c) tab rfl rfl rfl rfl rfl rfl rfl rfl rfl rfl (fun _ => rfl) (by show ((takeT cols [] s.cols).1.length + 2) * 24 ≤ _; simp at htl; omega) ?_
          iterate 2 refine pu (ev tab rfl) rfl ?_
          refine WO.nil ?_
          refine qs ?_
          try refine ownNilR (d := 4) rfl rfl ?_
          refine W.ret ?_
          refine QF.ret0 trivial rfl ?_
          first | (rw [hg]; rfl) | (exfalso; simp_all)
    · skip
      have h24 : (takeT cols [] s.cols).2 ≠ 0 := by simpa using h24
      rw [if_pos h24] at hg
      refine W.skip ?_
      refine qs ?_
      refine W.seq ?_
      refine W.seq ?_
      refine W.region ?_
      iterate 2 refine pu (ev tab rfl) rfl ?_
      refine WO.nil ?_
      refine qs ?_
      refine condK rfl (fun h28 => ?_) (fun h28 => ?_)
      · skip
        try rw [if_neg (by simpa using h28)] at hg
        refine W.region ?_
        refine pu (ev tab rfl) rfl ?_
        refine pu (puCall rfl rfl rfl (rnumber_fn cols wTo) rfl) rfl ?_
        refine pu (ev tab rfl) rfl ?_
        refine WO.nil ?_
        refine qs ?_
        refine W.seq ?_
        refine W.seq ?_
        refine W.region ?_
        iterate 2 refine pu (ev tab rfl) rfl ?_
        refine WO.nil ?_
        refine qs ?_
        refine condK rfl (fun h32 => ?_) (fun h32 => ?_)
        · skip
          try rw [if_pos (by simpa using h32)] at hg
          refine W.seq ?_
          refine W.region ?_
          iterate 3 refine pu (ev tab rfl) rfl ?_
          refine WO.nil ?_
          refine qs ?_
          try refine ownNilR (d := 4) rfl rfl ?_
          refine W.ret ?_
          refine qsRet ?_
          refine QF.ret0 trivial rfl ?_
          first | (rw [hg]; rfl) | (exfalso; simp_all)
        · skip
          try rw [if_neg (by simpa using h32)] at hg
          refine W.skip ?_
          refine qs ?_
          refine W.seq ?_
          refine W.region ?_
          refine pu (ev tab rfl) rfl ?_
          refine pu (build tab rfl rfl rfl rfl) rfl ?_
          refine pu (build tab rfl rfl rfl rfl) rfl ?_
          refine pu (buildV tab rfl rfl rfl rfl rfl rfl rfl rfl rfl) rfl ?_
          refine appendMs (l2 := [⟨wFrom, 2⟩, ⟨wTo, 2⟩]) (fn := Col.c) tab rfl rfl rfl rfl rfl rfl rfl rfl rfl rfl (fun _ => rfl) (by show ((takeT cols [] s.cols).1.length + 2) * 24 ≤ _; simp at htl; omega) ?_
          iterate 2 refine pu (ev tab rfl) rfl ?_
          refine WO.nil ?_
          refine qs ?_
          try refine ownNilR (d := 4) rfl rfl ?_
          refine W.ret ?_
          refine QF.ret0 trivial rfl ?_
          first | (rw [hg]; rfl) | (exfalso; simp_all)
      · skip
        try rw [if_pos (by simpa using h28)] at hg
        refine W.skip ?_
        refine qs ?_
        refine W.seq ?_
        refine W.seq ?_
        refine W.region ?_
        iterate 2 refine pu (ev tab rfl) rfl ?_
        refine WO.nil ?_
        refine qs ?_
        refine condK rfl (fun h32 => ?_) (fun h32 => ?_)
        · skip
          try rw [if_pos (by simpa using h32)] at hg
          refine W.seq ?_
          refine W.region ?_
          iterate 3 refine pu (ev tab rfl) rfl ?_
          refine WO.nil ?_
          refine qs ?_
          try refine ownNilR (d := 4) rfl rfl ?_
          refine W.ret ?_
          refine qsRet ?_
          refine QF.ret0 trivial rfl ?_
          first | (rw [hg]; rfl) | (exfalso; simp_all)
        · skip
          try rw [if_neg (by simpa using h32)] at hg
          refine W.skip ?_
          refine qs ?_
          refine W.seq ?_
          refine W.region ?_
          refine pu (ev tab rfl) rfl ?_
          refine pu (build tab rfl rfl rfl rfl) rfl ?_
          refine pu (build tab rfl rfl rfl rfl) rfl ?_
          refine pu (buildV tab rfl rfl rfl rfl rfl rfl rfl rfl rfl) rfl ?_
          refine appendMs (l2 := [⟨wFrom, 2⟩, ⟨wTo, 2⟩]) (fn := Col.c) tab rfl rfl rfl rfl rfl rfl rfl rfl rfl rfl (fun _ => rfl) (by show ((takeT cols [] s.cols).1.length + 2) * 24 ≤ _; simp at htl; omega) ?_
          iterate 2 refine pu (ev tab rfl) rfl ?_
          refine WO.nil ?_
          refine qs ?_
          try refine ownNilR (d := 4) rfl rfl ?_
          refine W.ret ?_
          refine QF.ret0 trivial rfl ?_
          first | (rw [hg]; rfl) | (exfalso; simp_all)

theorem rspans_fn (op : Int) : Does Tryz.prog 73 [.d (.v (.int .i64 op))] (.d (.sl ((spansOf op).map sc))) 0 := by
  refine Does.of_W (n := 9) (ts := [2]) Tryz.func73 (by kernel_rfl) rfl Tryz.ntmps73 Tryz.results73 rfl rfl fun C hC => ?_
  refine W.seq ?_
  refine W.region ?_
  refine pu (ev tab rfl) rfl ?_
  refine WO.nil ?_
  refine qs ?_
  refine W.seq ?_
  refine W.seq ?_
  refine W.region ?_
  iterate 2 refine pu (ev tab rfl) rfl ?_
  refine WO.nil ?_
  refine qs ?_
  refine condK rfl (fun h4 => ?_) (fun h4 => ?_)
  · skip
    refine W.seq ?_
    refine W.region ?_
    refine pu (buildV (es := [wFrom, wTo].map sc) tab rfl rfl rfl rfl rfl rfl rfl rfl rfl) rfl ?_
    refine pu (ev tab rfl) rfl ?_
    refine WO.nil ?_
    refine qs ?_
    try refine ownNilR (d := 2) rfl rfl ?_
    refine W.ret ?_
    refine qsRet ?_
    refine QF.ret0 trivial rfl ?_
    rw [show spansOf op = [wFrom, wTo] by unfold spansOf; rw [if_pos (by simpa using h4)]]; rfl
  · skip
    refine W.skip ?_
    refine qs ?_
    refine W.seq ?_
    refine W.seq ?_
    refine W.region ?_
    iterate 2 refine pu (ev tab rfl) rfl ?_
    refine WO.nil ?_
    refine qs ?_
    refine condK rfl (fun h7 => ?_) (fun h7 => ?_)
    · skip
      refine W.seq ?_
      refine W.region ?_
      refine pu (buildV (es := [wFrom].map sc) tab rfl rfl rfl rfl rfl rfl rfl rfl rfl) rfl ?_
      refine pu (ev tab rfl) rfl ?_
      refine WO.nil ?_
      refine qs ?_
      try refine ownNilR (d := 2) rfl rfl ?_
      refine W.ret ?_
      refine qsRet ?_
      refine QF.ret0 trivial rfl ?_
      rw [show spansOf op = [wFrom] by unfold spansOf; rw [if_neg (by simpa using h4), if_pos (by simpa using h7)]]; rfl
    · skip
      refine W.skip ?_
      refine qs ?_
      refine W.seq ?_
      refine W.region ?_
      refine pu (ev tab rfl) rfl ?_
      refine WO.nil ?_
      refine qs ?_
      try refine ownNilR (d := 2) rfl rfl ?_
      refine W.ret ?_
      refine QF.ret0 trivial rfl ?_
      rw [show spansOf op = [] by unfold spansOf; rw [if_neg (by simpa using h4), if_neg (by simpa using h7)]]; rfl
end Go.Proofs.YtmhjgeneogknpaaGreat
namespace Go.Proofs.YtmhjgeneogknpaaGreat
open Go.Ab Go.Tb
set_option maxRecDepth 10000
attribute [local irreducible] W WO Pu QS QB QL QF QV QV1 CH QE
theorem spans_len (op : Int) : (spansOf op).length ≤ 2 := by unfold spansOf; split <;> (try split) <;> simp

/-- both sides' columns, one after the other -/
def pairsOf (cols right : List Col) (l : List ByteArray) : List (List Col × ByteArray) := l.map (fun s => (cols, s)) ++ l.map (fun s => (right, s))
def pairsErr : List (List Col × ByteArray) → Int
  | [] => 0
  | x :: r => if intErr x.1 x.2 ≠ 0 then intErr x.1 x.2 else pairsErr r
theorem pairsErr_cat : ∀ (a b : List (List Col × ByteArray)), pairsErr (a ++ b) = if pairsErr a ≠ 0 then pairsErr a else pairsErr b
  | [], b => by simp [pairsErr]
  | x :: r, b => by
    simp only [List.cons_append, pairsErr, pairsErr_cat r b]
    split
    · rename_i h; simp [h]
    · rfl
theorem pairsErr_one (c : List Col) : ∀ (l : List ByteArray), pairsErr (l.map (fun s => (c, s))) = intsErr c l
  | [] => rfl
  | s :: r => by simp only [List.map_cons, pairsErr, intsErr, pairsErr_one c r]

theorem joinR_eq (cols right : List Col) (s : Stp) : joinT cols right s =
    if (spansOf s.op).any (fun n => s.cols.any fun x => decide (n = x)) then ([], 4)
    else if onErr cols right s.cols ≠ 0 then ([], onErr cols right s.cols)
    else if pairsErr (pairsOf cols right (spansOf s.op)) ≠ 0 then ([], pairsErr (pairsOf cols right (spansOf s.op)))
    else outT (cols ++ restOf s.cols (spansOf s.op) right) := by
  unfold joinT pairsOf
  simp only [pairsErr_cat, pairsErr_one]
  by_cases h1 : intsErr cols (spansOf s.op) = 0 <;> by_cases h2 : intsErr right (spansOf s.op) = 0 <;> simp [h1, h2]

theorem pairs_get {cols right : List Col} {l : List ByteArray} {i : Nat} (h : i < 2 * l.length) : ∃ (j : Nat) (m : ByteArray), l[j]? = some m ∧ ((i : Int).tmod (l.length : Int)) = (j : Int) ∧
    (pairsOf cols right l)[i]? = some (if i < l.length then cols else right, m) := by
  by_cases hi : i < l.length
  · refine ⟨i, l[i], by simp [hi], ?_, ?_⟩
    · rw [Int.tmod_eq_of_lt (by omega) (by omega)]
    · unfold pairsOf
      rw [List.getElem?_append_left (by simpa using hi), List.getElem?_map]
      simp [hi]
  · refine ⟨i - l.length, l[i - l.length]'(by omega), by simp, ?_, ?_⟩
    · have e : (i : Int) = ((i - l.length : Nat) : Int) + l.length := by omega
      rw [Int.tmod_eq_emod_of_nonneg (by omega)]
      calc (i : Int) % (l.length : Int) = (((i - l.length : Nat) : Int) + l.length) % (l.length : Int) := by rw [← e]
        _ = ((i - l.length : Nat) : Int) := by rw [Int.add_emod_right, Int.emod_eq_of_lt (by omega) (by omega)]
    · unfold pairsOf
      rw [List.getElem?_append_right (by simp; omega), List.getElem?_map]
      have : i - l.length < l.length := by omega
      simp [hi, this]

theorem rjoins_fn (cols right : List Col) (s : Stp) (hf : fewS s) (hc : cols.length ≤ 1000) (htc : right.length ≤ 1000) : Does Tryz.prog 36 [.d (.sl (cols.map Col.c)), .d (.sl (right.map Col.c)), .ag s.c]
    (.tup [.d (.sl ((joinT cols right s).1.map Col.c)), .d (.v (.int .i64 (joinT cols right s).2))]) 0 := by
  obtain ⟨hf1, hf2, hf3, hf4⟩ := hf
  have hsl := spans_len s.op
  have hg := joinR_eq cols right s
  generalize hP : pairsErr (pairsOf cols right (spansOf s.op)) = PP at hg
  refine Does.of_W (n := 153) (ts := [6, 7]) Tryz.func36 (by kernel_rfl) rfl Tryz.ntmps36 Tryz.results36 rfl rfl fun C hC => ?_
  refine W.seq ?_
  refine W.region ?_
  refine boxR rfl rfl rfl ?_
  iterate 2 refine pu (ev tab rfl) rfl ?_
  refine WO.nil ?_
  refine qs ?_
  refine W.seq ?_
  refine W.region ?_
  refine pu (ev tab rfl) rfl ?_
  first | refine pu (ev tab rfl) rfl ?_ | refine pu (loadRow tab rfl rfl rfl rfl) rfl ?_ | refine pu (loadBox tab rfl rfl rfl rfl rfl) rfl ?_
  refine pu (puCall rfl rfl rfl (rspans_fn s.op) rfl) rfl ?_
  refine pu (ev tab rfl) rfl ?_
  refine WO.nil ?_
  refine qs ?_
  refine W.seq ?_
  refine W.seq ?_
  refine W.region ?_
  refine pu (ev tab rfl) rfl ?_
  refine WO.nil ?_
  refine qs ?_
  refine W.block ?_
  have hlen : (spansOf s.op).length ≤ maxLen := by simp [maxLen]; omega
  refine W.loopR (ι := {x : Nat // match x with | k => k ≤ (spansOf s.op).length ∧ ((spansOf s.op).drop k).any (fun n => s.cols.any fun x => decide (n = x)) = (spansOf s.op).any (fun n => s.cols.any fun x => decide (n = x))})
    (fun x => match x.1 with | k => [(5, .ptr 0 0), (9, .d (.v (.int .i64 ((k : Nat) : Int))))]) [(0, _), (1, _), (8, _)]
    (fun x => match x.1 with | k => []) [(0, _)] [] 1 (fun x => match x.1 with | k => (spansOf s.op).length - k)
    [0] ⟨0, ?_⟩ rfl ?_ ⟨rfl, rfl, rfl, rfl, rfl, rfl, trivial⟩ ?_ ⟨rfl, rfl, trivial⟩ rfl ?_
  · first | exact ⟨Nat.zero_le _, rfl⟩ | exact trivial | simp
  · repeat' first | exact trivial | refine ⟨rfl, ?_⟩ | refine ⟨step_nat (by assumption) (by assumption), ?_⟩
  · repeat' first | exact trivial | refine ⟨rfl, ?_⟩ | refine ⟨step_nat (by assumption) (by assumption), ?_⟩
  rintro ⟨k, hk, hI⟩
  show W _ _ _ _ _ ⟨[(5, .ptr 0 0), (9, .d (.v (.int .i64 ((k : Nat) : Int)))), (0, _), (1, _), (8, _)], [(0, _)], [], 1⟩
  refine W.seq ?_
  refine W.seq ?_
  refine W.region ?_
  iterate 4 refine pu (ev tab rfl) rfl ?_
  refine WO.nil ?_
  refine qs ?_
  refine eachR (l := spansOf s.op) (k := k) rfl (by simp [Ex.kc_len, bytes_len]) hk (fun z hx hd hlt => ?_) (fun he hd => ?_)
  · skip
    rw [hd, List.any_cons] at hI
    refine W.skip ?_
    refine qs ?_
    refine W.seq ?_
    refine W.block ?_
    refine W.seq ?_
    refine W.regionD tab (by kernel_rfl) ?_
    refine chPu (ev tab rfl) rfl ?_
    first | refine chPu (ev tab rfl) rfl ?_ | refine chPu (loadRow tab rfl rfl rfl rfl) rfl ?_ | refine chPu (loadBox tab rfl rfl rfl rfl rfl) rfl ?_
    refine chPu (ev tab rfl) rfl ?_
    refine chPu (ev tab rfl) rfl ?_
    refine chPu (indexAddr tab rfl rfl rfl rfl rfl rfl (Int.natCast_nonneg _) (idx_map hx) rfl) rfl ?_
    first | refine chPu (ev tab rfl) rfl ?_ | refine chPu (loadRow tab rfl rfl rfl rfl) rfl ?_ | refine chPu (loadBox tab rfl rfl rfl rfl rfl) rfl ?_
    refine chPu (puCall rfl rfl rfl (rhas_fn s.cols z) rfl) rfl ?_
    refine CH.nil ?_
    refine qs ?_
    refine condK rfl (fun h34 => ?_) (fun h34 => ?_)
    · skip
      rw [h34, Bool.true_or] at hI
      rw [if_pos hI.symm] at hg
      refine W.seq ?_
      refine W.region ?_
      iterate 2 refine pu (ev tab rfl) rfl ?_
      refine WO.nil ?_
      refine qs ?_
      try refine ownNilR (d := 6) rfl rfl ?_
      refine W.ret ?_
      refine qbRet ?_
      refine qsRet ?_
      refine qlRet ?_
      refine qbRet ?_
      refine qsRet ?_
      refine QF.ret0 trivial rfl ?_
      rw [hg]; rfl
    · skip
      rw [h34, Bool.false_or] at hI
      refine W.skip ?_
      refine qbN ?_
      refine qs ?_
      refine W.region ?_
      iterate 3 refine pu (ev tab rfl) rfl ?_
      refine WO.nil ?_
      refine W.endR [0] ⟨k + 1, ?_⟩ ?_ rfl ?_ ⟨rfl, rfl, rfl, rfl, rfl, rfl, trivial⟩ ?_ ⟨rfl, rfl, trivial⟩ rfl
      · exact ⟨hlt, hI⟩
      · dsimp only; omega
      · repeat' first | exact trivial | refine ⟨rfl, ?_⟩ | refine ⟨step_nat (by assumption) (by assumption), ?_⟩
      · repeat' first | exact trivial | refine ⟨rfl, ?_⟩ | refine ⟨step_nat (by assumption) (by assumption), ?_⟩
  · skip
    rw [hd, List.any_nil] at hI
    rw [if_neg (by rw [← hI]; decide)] at hg
    refine W.exit ?_
    refine qsExit ?_
    refine qlExit ?_
    refine qbExit ?_
    refine qs ?_
    refine W.seq ?_
    refine W.seq ?_
    refine W.region ?_
    refine pu (ev tab rfl) rfl ?_
    refine WO.nil ?_
    refine qs ?_
    refine W.block ?_
    have hlen : s.cols.length ≤ maxLen := by simp [maxLen]; omega
    refine W.loopR (ι := {x : Nat // match x with | k => k ≤ s.cols.length ∧ onErr cols right (s.cols.drop k) = onErr cols right s.cols})
      (fun x => match x.1 with | k => [(5, .ptr 0 0), (10, .d (.v (.int .i64 ((k : Nat) : Int))))]) [(0, _), (1, _), (8, _)]
      (fun x => match x.1 with | k => []) [(0, _)] [] 1 (fun x => match x.1 with | k => s.cols.length - k)
      [0] ⟨0, ?_⟩ rfl ?_ ⟨rfl, rfl, rfl, rfl, rfl, rfl, trivial⟩ ?_ ⟨rfl, rfl, trivial⟩ rfl ?_
    · first | exact ⟨Nat.zero_le _, rfl⟩ | exact trivial | simp
    · repeat' first | exact trivial | refine ⟨rfl, ?_⟩ | refine ⟨step_nat (by assumption) (by assumption), ?_⟩
    · repeat' first | exact trivial | refine ⟨rfl, ?_⟩ | refine ⟨step_nat (by assumption) (by assumption), ?_⟩
    rintro ⟨k, hk, hJ⟩
    show W _ _ _ _ _ ⟨[(5, .ptr 0 0), (10, .d (.v (.int .i64 ((k : Nat) : Int)))), (0, _), (1, _), (8, _)], [(0, _)], [], 1⟩
    refine W.seq ?_
    refine W.seq ?_
    refine W.region ?_
    iterate 2 refine pu (ev tab rfl) rfl ?_
    first | refine pu (ev tab rfl) rfl ?_ | refine pu (loadRow tab rfl rfl rfl rfl) rfl ?_ | refine pu (loadBox tab rfl rfl rfl rfl rfl) rfl ?_
    iterate 2 refine pu (ev tab rfl) rfl ?_
    refine WO.nil ?_
    refine qs ?_
    refine eachR (l := s.cols) (k := k) rfl (by simp [Ex.kc_len, bytes_len]) hk (fun z hx hd hlt => ?_) (fun he hd => ?_)
    · skip
      rw [hd] at hJ
      refine W.skip ?_
      refine qs ?_
      refine W.seq ?_
      refine W.block ?_
      refine W.seq ?_
      refine W.regionD tab (by kernel_rfl) ?_
      refine chPu (ev tab rfl) rfl ?_
      refine chPu (ev tab rfl) rfl ?_
      first | refine chPu (ev tab rfl) rfl ?_ | refine chPu (loadRow tab rfl rfl rfl rfl) rfl ?_ | refine chPu (loadBox tab rfl rfl rfl rfl rfl) rfl ?_
      refine chPu (ev tab rfl) rfl ?_
      refine chPu (indexAddr tab rfl rfl rfl rfl rfl rfl (Int.natCast_nonneg _) (idx_map hx) rfl) rfl ?_
      first | refine chPu (ev tab rfl) rfl ?_ | refine chPu (loadRow tab rfl rfl rfl rfl) rfl ?_ | refine chPu (loadBox tab rfl rfl rfl rfl rfl) rfl ?_
      refine chPu (puCall rfl rfl rfl (rfind_fn cols z) rfl) rfl ?_
      refine chPu (ev tab rfl) rfl ?_
      refine chPu (ev tab rfl) rfl ?_
      first | refine chPu (ev tab rfl) rfl ?_ | refine chPu (loadRow tab rfl rfl rfl rfl) rfl ?_ | refine chPu (loadBox tab rfl rfl rfl rfl rfl) rfl ?_
      refine chPu (ev tab rfl) rfl ?_
      refine chPu (indexAddr tab rfl rfl rfl rfl rfl rfl (Int.natCast_nonneg _) (idx_map hx) rfl) rfl ?_
      first | refine chPu (ev tab rfl) rfl ?_ | refine chPu (loadRow tab rfl rfl rfl rfl) rfl ?_ | refine chPu (loadBox tab rfl rfl rfl rfl rfl) rfl ?_
      refine chPu (puCall rfl rfl rfl (rfind_fn right z) rfl) rfl ?_
      refine chPu (ev tab rfl) rfl ?_
      refine chPu (ev tab rfl) rfl ?_
      refine CH.nil ?_
      refine qs ?_
      refine W.seq ?_
      refine W.seq ?_
      apply regionB; (case hb => rfl)
      · skip
        iterate 3 refine pu (ev tab rfl) rfl ?_
        apply splitJ; (case hj => rfl); (case hl => rfl)
        · skip
          refine skipT rfl rfl rfl rfl ?_
          refine skipT rfl rfl rfl rfl ?_
          refine pu (ev tab rfl) rfl ?_
          refine WO.nil ?_
          refine qv1 rfl rfl rfl
        · skip
          refine goG rfl rfl ?_
          refine pu (ev tab rfl) rfl ?_
          refine goG rfl rfl ?_
          iterate 2 refine pu (ev tab rfl) rfl ?_
          refine WO.nil ?_
          refine qv1 rfl rfl rfl
      refine qs ?_
      refine condK rfl (fun h61 => ?_) (fun h61 => ?_)
      · skip
        have h5 : findCol cols z = none ∨ findCol right z = none := by
          by_cases q1 : idx (cols.findIdx? fun c => decide (c.name = z)) < 0
          · exact .inl (find_none q1)
          · refine .inr (find_none ?_)
            revert h61
            simp [q1]
        rw [onErr_none h5] at hJ
        rw [← hJ, if_pos (by decide)] at hg
        refine W.seq ?_
        refine W.region ?_
        iterate 2 refine pu (ev tab rfl) rfl ?_
        refine WO.nil ?_
        refine qs ?_
        try refine ownNilR (d := 6) rfl rfl ?_
        refine W.ret ?_
        refine qsRet ?_
        refine qbRet ?_
        refine qsRet ?_
        refine qlRet ?_
        refine qbRet ?_
        refine qsRet ?_
        refine QF.ret0 trivial rfl ?_
        rw [hg]; rfl
      · skip
        have h59' : ¬ (idx (cols.findIdx? fun c => decide (c.name = z)) < 0) ∧ ¬ (idx (right.findIdx? fun c => decide (c.name = z)) < 0) := by
          revert h61
          generalize idx (cols.findIdx? fun c => decide (c.name = z)) = u
          generalize idx (right.findIdx? fun c => decide (c.name = z)) = v
          by_cases q1 : u < 0 <;> by_cases q2 : v < 0 <;> simp [q1, q2]
        obtain ⟨i, a, a3, a4, a5, a6⟩ := find_some h59'.1
        obtain ⟨j, b, b3, b4, b5, b6⟩ := find_some h59'.2
        rw [onErr_some (c := a) (e := b) a5 b5] at hJ
        refine W.skip ?_
        refine qs ?_
        refine W.seq ?_
        refine W.regionD tab (by kernel_rfl) ?_
        refine chPu (ev tab rfl) rfl ?_
        refine chPu (ev tab rfl) rfl ?_
        refine chPu (indexAddr tab rfl rfl rfl rfl rfl rfl (i := idx _) (by rw [a3]; exact Int.natCast_nonneg _) (by rw [a3]; exact idx_map a4) rfl) rfl ?_
        refine chPu (ev tab rfl) rfl ?_
        first | refine chPu (ev tab rfl) rfl ?_ | refine chPu (loadRow tab rfl rfl rfl rfl) rfl ?_ | refine chPu (loadBox tab rfl rfl rfl rfl rfl) rfl ?_
        refine chPu (ev tab rfl) rfl ?_
        refine chPu (ev tab rfl) rfl ?_
        refine chPu (indexAddr tab rfl rfl rfl rfl rfl rfl (i := idx _) (by rw [b3]; exact Int.natCast_nonneg _) (by rw [b3]; exact idx_map b4) rfl) rfl ?_
        refine chPu (ev tab rfl) rfl ?_
        first | refine chPu (ev tab rfl) rfl ?_ | refine chPu (loadRow tab rfl rfl rfl rfl) rfl ?_ | refine chPu (loadBox tab rfl rfl rfl rfl rfl) rfl ?_
        refine chPu (ev tab rfl) rfl ?_
        refine CH.nil ?_
        refine qs ?_
        refine condK rfl (fun h72 => ?_) (fun h72 => ?_)
        · skip
          have h72 : a.type ≠ b.type := by simpa using h72
          rw [if_pos h72] at hJ
          rw [← hJ, if_pos (by decide)] at hg
          refine W.seq ?_
          refine W.region ?_
          iterate 2 refine pu (ev tab rfl) rfl ?_
          refine WO.nil ?_
          refine qs ?_
          try refine ownNilR (d := 6) rfl rfl ?_
          refine W.ret ?_
          refine qbRet ?_
          refine qsRet ?_
          refine qlRet ?_
          refine qbRet ?_
          refine qsRet ?_
          refine QF.ret0 trivial rfl ?_
          rw [hg]; rfl
        · skip
          have h72 : ¬ (a.type ≠ b.type) := by simpa using h72
          rw [if_neg h72] at hJ
          refine W.skip ?_
          refine qbN ?_
          refine qs ?_
          refine W.region ?_
          iterate 3 refine pu (ev tab rfl) rfl ?_
          refine WO.nil ?_
          refine W.endR [0] ⟨k + 1, ?_⟩ ?_ rfl ?_ ⟨rfl, rfl, rfl, rfl, rfl, rfl, trivial⟩ ?_ ⟨rfl, rfl, trivial⟩ rfl
          · exact ⟨hlt, hJ⟩
          · dsimp only; omega
          · repeat' first | exact trivial | refine ⟨rfl, ?_⟩ | refine ⟨step_nat (by assumption) (by assumption), ?_⟩
          · repeat' first | exact trivial | refine ⟨rfl, ?_⟩ | refine ⟨step_nat (by assumption) (by assumption), ?_⟩
    · skip
      rw [hd] at hJ
      simp only [onErr] at hJ
      rw [← hJ] at hg
      simp only [ne_eq, not_true_eq_false, if_false] at hg
      refine W.exit ?_
      refine qsExit ?_
      refine qlExit ?_
      refine qbExit ?_
      refine qs ?_
      refine W.seq ?_
      refine W.seq ?_
      refine W.region ?_
      refine pu (ev tab rfl) rfl ?_
      refine WO.nil ?_
      refine qs ?_
      refine W.block ?_
      have hpl : (pairsOf cols right (spansOf s.op)).length = 2 * (spansOf s.op).length := by unfold pairsOf; simp; omega
      have hlen : (pairsOf cols right (spansOf s.op)).length ≤ maxLen := by rw [hpl]; simp [maxLen]; omega
      refine W.loopR (ι := {x : Nat // match x with | i => i ≤ (pairsOf cols right (spansOf s.op)).length ∧ pairsErr ((pairsOf cols right (spansOf s.op)).drop i) = PP})
        (fun x => match x.1 with | i => [(5, .ptr 0 0), (13, .d (.v (.int .i64 ((i : Nat) : Int))))]) [(0, _), (1, _), (8, _)]
        (fun x => match x.1 with | i => []) [(0, _)] [] 1 (fun x => match x.1 with | i => (pairsOf cols right (spansOf s.op)).length - i)
        [0] ⟨0, ?_⟩ rfl ?_ ⟨rfl, rfl, rfl, rfl, rfl, rfl, trivial⟩ ?_ ⟨rfl, rfl, trivial⟩ rfl ?_
      · exact ⟨Nat.zero_le _, hP⟩
      · repeat' first | exact trivial | refine ⟨rfl, ?_⟩ | refine ⟨step_nat (by assumption) (by assumption), ?_⟩
      · repeat' first | exact trivial | refine ⟨rfl, ?_⟩ | refine ⟨step_nat (by assumption) (by assumption), ?_⟩
      rintro ⟨i, hk, hK⟩
      show W _ _ _ _ _ ⟨[(5, .ptr 0 0), (13, .d (.v (.int .i64 ((i : Nat) : Int)))), (0, _), (1, _), (8, _)], [(0, _)], [], 1⟩
      refine W.seq ?_
      refine W.seq ?_
      refine W.region ?_
      iterate 3 refine pu (ev tab rfl) rfl ?_
      refine pu (puI (ev tab rfl) (y := (((pairsOf cols right (spansOf s.op)).length : Nat) : Int)) (by rw [hpl, List.length_map, wrap64 (by omega)]; omega)) rfl ?_
      refine pu (ev tab rfl) rfl ?_
      refine WO.nil ?_
      refine qs ?_
      refine eachR (l := pairsOf cols right (spansOf s.op)) (k := i) rfl (by rfl) hk (fun z hx hd hlt => ?_) (fun he hd => ?_)
      · skip
        rw [hd] at hK
        simp only [pairsErr] at hK
        obtain ⟨j, m, hm, hmod, hz⟩ := pairs_get (cols := cols) (right := right) (l := spansOf s.op) (i := i) (by omega)
        rw [hx] at hz
        simp only [Option.some.injEq] at hz
        have hne : ((spansOf s.op).length : Int) ≠ 0 := by omega
        refine W.skip ?_
        refine qs ?_
        refine W.seq ?_
        refine W.block ?_
        refine W.seq ?_
        refine W.region ?_
        iterate 2 refine pu (ev tab rfl) rfl ?_
        refine WO.nil ?_
        refine qs ?_
        refine W.seq ?_
        refine W.seq ?_
        refine W.region ?_
        iterate 4 refine pu (ev tab rfl) rfl ?_
        refine WO.nil ?_
        refine qs ?_
        refine condK rfl (fun h84 => ?_) (fun h84 => ?_)
        · skip
          have hnl : ¬ i < (spansOf s.op).length := by simp at h84; omega
          rw [if_neg hnl] at hz
          subst hz
          simp only at hK
          have hnum := rnumber_fn right m
          refine W.region ?_
          iterate 2 refine pu (ev tab rfl) rfl ?_
          refine WO.nil ?_
          refine qs ?_
          refine W.seq ?_
          refine W.region ?_
          iterate 5 refine pu (ev tab rfl) rfl ?_
          refine pu (puI (remR rfl rfl (by rw [List.length_map]; exact hne) (by rw [List.length_map, hmod]; simp [okc, IntKind.min, IntKind.max, IntKind.signed, IntKind.bits]; have := (List.getElem?_eq_some_iff.1 hm).1; omega)) (y := (j : Int)) (by rw [List.length_map]; exact hmod)) rfl ?_
          refine pu (indexAddr tab rfl rfl rfl rfl rfl rfl (Int.natCast_nonneg _) (idx_map hm) rfl) rfl ?_
          first | refine pu (ev tab rfl) rfl ?_ | refine pu (loadRow tab rfl rfl rfl rfl) rfl ?_ | refine pu (loadBox tab rfl rfl rfl rfl rfl) rfl ?_
          refine pu (puCall rfl rfl rfl hnum rfl) rfl ?_
          refine pu (ev tab rfl) rfl ?_
          refine WO.nil ?_
          refine qs ?_
          refine W.seq ?_
          refine W.region ?_
          iterate 2 refine pu (ev tab rfl) rfl ?_
          refine WO.nil ?_
          refine qs ?_
          refine condK rfl (fun h96 => ?_) (fun h96 => ?_)
          · skip
            have h96 := h96
            simp only [Bool.not_eq_true', decide_eq_false_iff_not] at h96
            rw [if_pos h96] at hK
            simp only [← hK] at hg
            rw [if_pos h96] at hg
            refine W.seq ?_
            refine W.region ?_
            iterate 3 refine pu (ev tab rfl) rfl ?_
            refine WO.nil ?_
            refine qs ?_
            try refine ownNilR (d := 6) rfl rfl ?_
            refine W.ret ?_
            refine qbRet ?_
            refine qsRet ?_
            refine qlRet ?_
            refine qbRet ?_
            refine qsRet ?_
            refine QF.ret0 trivial rfl ?_
            rw [hg]; rfl
          · skip
            have h96 := h96
            simp only [Bool.not_eq_false', decide_eq_true_eq] at h96
            rw [if_neg (by simp [h96])] at hK
            refine W.skip ?_
            refine qbN ?_
            refine qs ?_
            refine W.region ?_
            iterate 3 refine pu (ev tab rfl) rfl ?_
            refine WO.nil ?_
            refine W.endR [0] ⟨i + 1, ?_⟩ ?_ rfl ?_ ⟨rfl, rfl, rfl, rfl, rfl, rfl, trivial⟩ ?_ ⟨rfl, rfl, trivial⟩ rfl
            · exact ⟨hlt, hK⟩
            · dsimp only; omega
            · repeat' first | exact trivial | refine ⟨rfl, ?_⟩ | refine ⟨step_nat (by assumption) (by assumption), ?_⟩
            · repeat' first | exact trivial | refine ⟨rfl, ?_⟩ | refine ⟨step_nat (by assumption) (by assumption), ?_⟩
        · skip
          have hnl : i < (spansOf s.op).length := by simp at h84; omega
          rw [if_pos hnl] at hz
          subst hz
          simp only at hK
          have hnum := rnumber_fn cols m
          refine W.skip ?_
          refine qs ?_
          refine W.seq ?_
          refine W.region ?_
          iterate 5 refine pu (ev tab rfl) rfl ?_
          refine pu (puI (remR rfl rfl (by rw [List.length_map]; exact hne) (by rw [List.length_map, hmod]; simp [okc, IntKind.min, IntKind.max, IntKind.signed, IntKind.bits]; have := (List.getElem?_eq_some_iff.1 hm).1; omega)) (y := (j : Int)) (by rw [List.length_map]; exact hmod)) rfl ?_
          refine pu (indexAddr tab rfl rfl rfl rfl rfl rfl (Int.natCast_nonneg _) (idx_map hm) rfl) rfl ?_
          first | refine pu (ev tab rfl) rfl ?_ | refine pu (loadRow tab rfl rfl rfl rfl) rfl ?_ | refine pu (loadBox tab rfl rfl rfl rfl rfl) rfl ?_
          refine pu (puCall rfl rfl rfl hnum rfl) rfl ?_
          refine pu (ev tab rfl) rfl ?_
          refine WO.nil ?_
          refine qs ?_
          refine W.seq ?_
          refine W.region ?_
          iterate 2 refine pu (ev tab rfl) rfl ?_
          refine WO.nil ?_
          refine qs ?_
          refine condK rfl (fun h96 => ?_) (fun h96 => ?_)
          · skip
            have h96 := h96
            simp only [Bool.not_eq_true', decide_eq_false_iff_not] at h96
            rw [if_pos h96] at hK
            simp only [← hK] at hg
            rw [if_pos h96] at hg
            refine W.seq ?_
            refine W.region ?_
            iterate 3 refine pu (ev tab rfl) rfl ?_
            refine WO.nil ?_
            refine qs ?_
            try refine ownNilR (d := 6) rfl rfl ?_
            refine W.ret ?_
            refine qbRet ?_
            refine qsRet ?_
            refine qlRet ?_
            refine qbRet ?_
            refine qsRet ?_
            refine QF.ret0 trivial rfl ?_
            rw [hg]; rfl
          · skip
            have h96 := h96
            simp only [Bool.not_eq_false', decide_eq_true_eq] at h96
            rw [if_neg (by simp [h96])] at hK
            refine W.skip ?_
            refine qbN ?_
            refine qs ?_
            refine W.region ?_
            iterate 3 refine pu (ev tab rfl) rfl ?_
            refine WO.nil ?_
            refine W.endR [0] ⟨i + 1, ?_⟩ ?_ rfl ?_ ⟨rfl, rfl, rfl, rfl, rfl, rfl, trivial⟩ ?_ ⟨rfl, rfl, trivial⟩ rfl
            · exact ⟨hlt, hK⟩
            · dsimp only; omega
            · repeat' first | exact trivial | refine ⟨rfl, ?_⟩ | refine ⟨step_nat (by assumption) (by assumption), ?_⟩
            · repeat' first | exact trivial | refine ⟨rfl, ?_⟩ | refine ⟨step_nat (by assumption) (by assumption), ?_⟩
      · skip
        rw [hd] at hK
        simp only [pairsErr] at hK
        rw [← hK] at hg
        simp only [ne_eq, not_true_eq_false, if_false] at hg
        refine W.exit ?_
        refine qsExit ?_
        refine qlExit ?_
        refine qbExit ?_
        refine qs ?_
        refine W.seq ?_
        refine W.region ?_
        refine buildO tab rfl rfl rfl rfl rfl rfl rfl rfl (by rfl) ?_
        refine pu (ev tab rfl) rfl ?_
        refine appendMs (l := []) (l2 := cols) (fn := Col.c) tab rfl rfl rfl rfl rfl rfl rfl rfl rfl rfl (fun _ => rfl) (by show (0 + cols.length) * 24 ≤ _; omega) ?_
        refine pu (ev tab rfl) rfl ?_
        refine WO.nil ?_
        refine qs ?_
        refine W.seq ?_
        refine W.seq ?_
        refine W.region ?_
        refine pu (ev tab rfl) rfl ?_
        refine WO.nil ?_
        refine qs ?_
        refine W.block ?_
        have hlen : right.length ≤ maxLen := by simp [maxLen]; omega
        refine W.loopR (ι := {x : Nat × List Col // match x with | (k, out) => k ≤ right.length ∧ out ++ restOf s.cols (spansOf s.op) (right.drop k) = cols ++ restOf s.cols (spansOf s.op) right ∧ out.length ≤ 1000 + k})
          (fun x => match x.1 with | (k, out) => [(5, .ptr 0 0), (16, .own 1 (out.map Col.c)), (17, .d (.v (.int .i64 ((k : Nat) : Int))))]) [(1, _), (8, _)]
          (fun x => match x.1 with | (k, out) => []) [(0, _)] [1] 2 (fun x => match x.1 with | (k, out) => right.length - k)
          [0, 2] ⟨(0, cols), ?_⟩ rfl ?_ ⟨rfl, rfl, rfl, rfl, trivial⟩ ?_ ⟨rfl, rfl, trivial⟩ rfl ?_
        · exact ⟨Nat.zero_le _, rfl, by omega⟩
        · repeat' first | exact trivial | refine ⟨rfl, ?_⟩ | refine ⟨step_nat (by assumption) (by assumption), ?_⟩
        · repeat' first | exact trivial | refine ⟨rfl, ?_⟩ | refine ⟨step_nat (by assumption) (by assumption), ?_⟩
        rintro ⟨⟨k, out⟩, hk, hL, hN⟩
        show W _ _ _ _ _ ⟨[(5, .ptr 0 0), (16, .own 1 (out.map Col.c)), (17, .d (.v (.int .i64 ((k : Nat) : Int)))), (1, _), (8, _)], [(0, _)], [1], 2⟩
        refine W.seq ?_
        refine W.seq ?_
        refine W.region ?_
        iterate 4 refine pu (ev tab rfl) rfl ?_
        refine WO.nil ?_
        refine qs ?_
        refine eachR (l := right) (k := k) rfl (by simp [Ex.kc_len, bytes_len]) hk (fun c hx hd hlt => ?_) (fun he hd => ?_)
        · skip
          rw [hd] at hL
          refine W.skip ?_
          refine qs ?_
          refine W.seq ?_
          refine W.block ?_
          refine W.seq ?_
          apply regionDB tab; (case hb => rfl); (case hB => kernel_rfl)
          · skip
            refine chPu (ev tab rfl) rfl ?_
            first | refine chPu (ev tab rfl) rfl ?_ | refine chPu (loadRow tab rfl rfl rfl rfl) rfl ?_ | refine chPu (loadBox tab rfl rfl rfl rfl rfl) rfl ?_
            refine chPu (ev tab rfl) rfl ?_
            refine chPu (ev tab rfl) rfl ?_
            refine chPu (indexAddr tab rfl rfl rfl rfl rfl rfl (Int.natCast_nonneg _) (idx_map hx) rfl) rfl ?_
            refine chPu (ev tab rfl) rfl ?_
            first | refine chPu (ev tab rfl) rfl ?_ | refine chPu (loadRow tab rfl rfl rfl rfl) rfl ?_ | refine chPu (loadBox tab rfl rfl rfl rfl rfl) rfl ?_
            refine chPu (puCall rfl rfl rfl (rhas_fn s.cols c.name) rfl) rfl ?_
            refine chPu (ev tab rfl) rfl ?_
            refine chPu (ev tab rfl) rfl ?_
            apply chSplitJ; (case hj => rfl); (case hl => rfl)
            · skip
              refine chGo rfl rfl (ev tab rfl) rfl ?_
              refine chGo rfl rfl (ev tab rfl) rfl ?_
              refine chGo rfl rfl (ev tab rfl) rfl ?_
              refine chGo rfl rfl (indexAddr tab rfl rfl rfl rfl rfl rfl (Int.natCast_nonneg _) (idx_map hx) rfl) rfl ?_
              refine chGo rfl rfl (ev tab rfl) rfl ?_
              first | refine chGo rfl rfl (ev tab rfl) rfl ?_ | refine chGo rfl rfl (loadRow tab rfl rfl rfl rfl) rfl ?_ | refine chGo rfl rfl (loadBox tab rfl rfl rfl rfl rfl) rfl ?_
              refine chGo rfl rfl (puCall rfl rfl rfl (rhas_fn (spansOf s.op) c.name) rfl) rfl ?_
              refine chGo rfl rfl (ev tab rfl) rfl ?_
              refine chPu (ev tab rfl) rfl ?_
              refine CH.nil ?_
              refine qv1 rfl rfl rfl
            · skip
              refine chSkip rfl rfl rfl rfl ?_
              refine chSkip rfl rfl rfl rfl ?_
              refine chSkip rfl rfl rfl rfl ?_
              refine chSkip rfl rfl rfl rfl ?_
              refine chSkip rfl rfl rfl rfl ?_
              refine chSkip rfl rfl rfl rfl ?_
              refine chSkip rfl rfl rfl rfl ?_
              refine chSkip rfl rfl rfl rfl ?_
              refine chPu (ev tab rfl) rfl ?_
              refine CH.nil ?_
              refine qv1 rfl rfl rfl
          refine qs ?_
          refine condK rfl (fun h125 => ?_) (fun h125 => ?_)
          · skip
            have hr : restOf s.cols (spansOf s.op) (c :: right.drop (k + 1)) = c :: restOf s.cols (spansOf s.op) (right.drop (k + 1)) := by
              simp only [restOf]
              rw [List.filter_cons_of_pos]
              revert h125
              generalize s.cols.any (fun x => decide (c.name = x)) = u
              generalize (spansOf s.op).any (fun x => decide (c.name = x)) = v
              cases u <;> cases v <;> simp
            rw [hr] at hL
            refine W.region ?_
            iterate 3 refine pu (ev tab rfl) rfl ?_
            refine pu (indexAddr tab rfl rfl rfl rfl rfl rfl (Int.natCast_nonneg _) (idx_map hx) rfl) rfl ?_
            first | refine pu (ev tab rfl) rfl ?_ | refine pu (loadRow tab rfl rfl rfl rfl) rfl ?_ | refine pu (loadBox tab rfl rfl rfl rfl rfl) rfl ?_
            refine pu (buildV tab rfl rfl rfl rfl rfl rfl rfl rfl rfl) rfl ?_
            refine appendM (fn := Col.c) (a := c) tab rfl rfl rfl rfl rfl rfl rfl rfl rfl rfl (fun _ => rfl) (by show (out.length + 1) * 24 ≤ _; omega) ?_
            refine pu (ev tab rfl) rfl ?_
            refine WO.nil ?_
            refine qbN ?_
            refine qs ?_
            refine W.region ?_
            iterate 3 refine pu (ev tab rfl) rfl ?_
            refine WO.nil ?_
            first | (refine W.endR [0, 2] ⟨(k + 1, out ++ [c]), ?_⟩ ?_ rfl ?_ ⟨rfl, rfl, rfl, rfl, trivial⟩ ?_ ⟨rfl, rfl, trivial⟩ rfl) | (refine W.endR [0, 1] ⟨(k + 1, out), ?_⟩ ?_ rfl ?_ ⟨rfl, rfl, rfl, rfl, trivial⟩ ?_ ⟨rfl, rfl, trivial⟩ rfl)
            · first | exact ⟨hlt, by rw [← hL]; simp, by simp; omega⟩ | exact ⟨hlt, hL, by omega⟩
            · dsimp only; omega
            · repeat' first | exact trivial | refine ⟨rfl, ?_⟩ | refine ⟨step_nat (by assumption) (by assumption), ?_⟩
            · repeat' first | exact trivial | refine ⟨rfl, ?_⟩ | refine ⟨step_nat (by assumption) (by assumption), ?_⟩
          · skip
            have hr : restOf s.cols (spansOf s.op) (c :: right.drop (k + 1)) = restOf s.cols (spansOf s.op) (right.drop (k + 1)) := by
              simp only [restOf]
              rw [List.filter_cons_of_neg]
              revert h125
              generalize s.cols.any (fun x => decide (c.name = x)) = u
              generalize (spansOf s.op).any (fun x => decide (c.name = x)) = v
              cases u <;> cases v <;> simp
            rw [hr] at hL
            refine W.skip ?_
            refine qbN ?_
            refine qs ?_
            refine W.region ?_
            iterate 3 refine pu (ev tab rfl) rfl ?_
            refine WO.nil ?_
            first | (refine W.endR [0, 2] ⟨(k + 1, out ++ [c]), ?_⟩ ?_ rfl ?_ ⟨rfl, rfl, rfl, rfl, trivial⟩ ?_ ⟨rfl, rfl, trivial⟩ rfl) | (refine W.endR [0, 1] ⟨(k + 1, out), ?_⟩ ?_ rfl ?_ ⟨rfl, rfl, rfl, rfl, trivial⟩ ?_ ⟨rfl, rfl, trivial⟩ rfl)
            · first | exact ⟨hlt, by rw [← hL]; simp, by simp; omega⟩ | exact ⟨hlt, hL, by omega⟩
            · dsimp only; omega
            · repeat' first | exact trivial | refine ⟨rfl, ?_⟩ | refine ⟨step_nat (by assumption) (by assumption), ?_⟩
            · repeat' first | exact trivial | refine ⟨rfl, ?_⟩ | refine ⟨step_nat (by assumption) (by assumption), ?_⟩
        · skip
          rw [hd] at hL
          rw [show restOf s.cols (spansOf s.op) [] = [] from rfl, List.append_nil] at hL
          rw [← hL] at hg
          unfold outT at hg
          refine W.exit ?_
          refine qsExit ?_
          refine qlExit ?_
          refine qbExit ?_
          refine qs ?_
          refine W.seq ?_
          refine W.seq ?_
          refine W.region ?_
          refine pu (ev tab rfl) rfl ?_
          refine WO.nil ?_
          refine qs ?_
          refine W.block ?_
          have hlen : out.length ≤ maxLen := by simp [maxLen]; omega
          refine W.loopR (ι := {x : Nat // match x with | k => k ≤ out.length ∧ twice out k (out.drop k) = twice out 0 out})
            (fun x => match x.1 with | k => [(16, .own 0 (out.map Col.c)), (18, .d (.v (.int .i64 ((k : Nat) : Int))))]) []
            (fun x => match x.1 with | k => []) [] [0] 1 (fun x => match x.1 with | k => out.length - k)
            [1] ⟨0, ?_⟩ rfl ?_ trivial ?_ trivial rfl ?_
          · first | exact ⟨Nat.zero_le _, rfl⟩ | exact trivial | simp
          · repeat' first | exact trivial | refine ⟨rfl, ?_⟩ | refine ⟨step_nat (by assumption) (by assumption), ?_⟩
          · repeat' first | exact trivial | refine ⟨rfl, ?_⟩ | refine ⟨step_nat (by assumption) (by assumption), ?_⟩
          rintro ⟨k, hk, hM⟩
          show W _ _ _ _ _ ⟨[(16, .own 0 (out.map Col.c)), (18, .d (.v (.int .i64 ((k : Nat) : Int))))], [], [0], 1⟩
          refine W.seq ?_
          refine W.seq ?_
          refine W.region ?_
          iterate 4 refine pu (ev tab rfl) rfl ?_
          refine WO.nil ?_
          refine qs ?_
          refine eachR (l := out) (k := k) rfl (by simp [Ex.kc_len, bytes_len]) hk (fun c hx hd hlt => ?_) (fun he hd => ?_)
          · skip
            rw [hd] at hM
            simp only [twice] at hM
            refine W.skip ?_
            refine qs ?_
            refine W.seq ?_
            refine W.block ?_
            refine W.seq ?_
            refine W.regionD tab (by kernel_rfl) ?_
            refine chPu (ev tab rfl) rfl ?_
            refine chPu (ev tab rfl) rfl ?_
            refine chPu (slToM (fn := Col.c) tab rfl rfl rfl rfl rfl rfl (fun _ => rfl) (by omega)) rfl ?_
            refine chPu (ev tab rfl) rfl ?_
            refine chPu (ev tab rfl) rfl ?_
            refine chPu (indexAddr tab rfl rfl rfl rfl rfl rfl (Int.natCast_nonneg _) (idx_map hx) rfl) rfl ?_
            refine chPu (ev tab rfl) rfl ?_
            first | refine chPu (ev tab rfl) rfl ?_ | refine chPu (loadRow tab rfl rfl rfl rfl) rfl ?_ | refine chPu (loadBox tab rfl rfl rfl rfl rfl) rfl ?_
            refine chPu (puCall rfl rfl rfl (rfind_fn (out.take k) c.name) rfl) rfl ?_
            refine chPu (ev tab rfl) rfl ?_
            refine CH.nil ?_
            refine qs ?_
            refine condK rfl (fun h148 => ?_) (fun h148 => ?_)
            · skip
              have h148 : ((out.take k).any fun y => decide (y.name = c.name)) = true := idx_nonneg.symm.trans h148
              rw [h148, Bool.true_or] at hM
              rw [if_pos hM.symm] at hg
              refine W.seq ?_
              refine W.region ?_
              iterate 2 refine pu (ev tab rfl) rfl ?_
              refine WO.nil ?_
              refine qs ?_
              try refine ownNilR (d := 6) rfl rfl ?_
              refine W.ret ?_
              refine qbRet ?_
              refine qsRet ?_
              refine qlRet ?_
              refine qbRet ?_
              refine qsRet ?_
              refine QF.ret0 trivial rfl ?_
              rw [hg]; rfl
            · skip
              have h148 : ((out.take k).any fun y => decide (y.name = c.name)) = false := idx_nonneg.symm.trans h148
              rw [h148, Bool.false_or] at hM
              refine W.skip ?_
              refine qbN ?_
              refine qs ?_
              refine W.region ?_
              iterate 3 refine pu (ev tab rfl) rfl ?_
              refine WO.nil ?_
              refine W.endR [0] ⟨k + 1, ?_⟩ ?_ rfl ?_ trivial ?_ trivial rfl
              · exact ⟨hlt, hM⟩
              · dsimp only; omega
              · repeat' first | exact trivial | refine ⟨rfl, ?_⟩ | refine ⟨step_nat (by assumption) (by assumption), ?_⟩
              · repeat' first | exact trivial | refine ⟨rfl, ?_⟩ | refine ⟨step_nat (by assumption) (by assumption), ?_⟩
          · skip
            rw [hd] at hM
            simp only [twice] at hM
            rw [if_neg (by rw [← hM]; decide)] at hg
            refine W.exit ?_
            refine qsExit ?_
            refine qlExit ?_
            refine qbExit ?_
            refine qs ?_
            refine W.seq ?_
            refine W.seq ?_
            refine W.region ?_
            iterate 3 refine pu (ev tab rfl) rfl ?_
            refine WO.nil ?_
            refine qs ?_
            refine condK rfl (fun h151 => ?_) (fun h151 => ?_)
            · skip
              rw [if_pos (by simp at h151; omega)] at hg
              refine W.seq ?_
              refine W.region ?_
              iterate 2 refine pu (ev tab rfl) rfl ?_
              refine WO.nil ?_
              refine qs ?_
              try refine ownNilR (d := 6) rfl rfl ?_
              refine W.ret ?_
              refine qsRet ?_
              refine QF.ret0 trivial rfl ?_
              rw [hg]; rfl
            · skip
              rw [if_neg (by simp at h151; omega)] at hg
              refine W.skip ?_
              refine qs ?_
              refine W.seq ?_
              refine W.region ?_
              iterate 3 refine pu (ev tab rfl) rfl ?_
              refine WO.nil ?_
              refine qs ?_
              try refine ownNilR (d := 6) rfl rfl ?_
              refine W.ret ?_
              refine QF.ret0 trivial rfl ?_
              rw [hg]; rfl
end Go.Proofs.YtmhjgeneogknpaaGreat
