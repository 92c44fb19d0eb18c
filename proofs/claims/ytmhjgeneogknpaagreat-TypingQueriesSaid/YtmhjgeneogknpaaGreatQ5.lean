import Derived.Test.YtmhjgeneogknpaaGreatQ4
namespace Go.Proofs.YtmhjgeneogknpaaGreat
open Go.Ab Go.Tb
set_option maxRecDepth 10000
attribute [local irreducible] W WO Pu QS QB QL QF QV QV1 CH QE
theorem called_fn (e : Ex) : Does Tryz.prog 114 [.ag e.c] (.d (.v (.int .i64 (if identB e.name = false then 3 else if arity e.name = 0 then 5 else if (e.kids.length : Int) ≠ arity e.name then 1 else 0)))) 0 := by
  refine Does.of_W (n := 41) (ts := [2]) Tryz.func114 (by kernel_rfl) rfl Tryz.ntmps114 Tryz.results114 rfl rfl fun C hC => ?_
  have hkl := Ex.kc_len e
  refine W.seq ?_
  refine W.region ?_
  refine boxR rfl rfl rfl ?_
  refine pu (ev tab rfl) rfl ?_
  refine WO.nil ?_
  refine qs ?_
  refine W.seq ?_
  refine W.seq ?_
  refine W.region ?_
  refine pu (ev tab rfl) rfl ?_
  first | refine pu (ev tab rfl) rfl ?_ | refine pu (loadRow tab rfl rfl rfl rfl) rfl ?_ | refine pu (loadBox tab rfl rfl rfl rfl rfl) rfl ?_
  refine pu (puCall rfl rfl rfl (ident_fn ..) rfl) rfl ?_
  refine pu (ev tab rfl) rfl ?_
  refine WO.nil ?_
  refine qs ?_
  refine condK rfl (fun h7 => ?_) (fun h7 => ?_)
  · skip
    refine W.seq ?_
    refine W.region ?_
    refine pu (ev tab rfl) rfl ?_
    refine WO.nil ?_
    refine qs ?_
    refine W.ret ?_
    refine qsRet ?_
    refine QF.ret0 trivial rfl ?_
    simp only [norm, oneA, arity, wMin, wMax, wHas, wStarts, wAbs, wLen] at *; grind
  · skip
    refine W.skip ?_
    refine qs ?_
    refine W.seq ?_
    refine W.region ?_
    refine pu (ev tab rfl) rfl ?_
    refine WO.nil ?_
    refine qs ?_
    refine W.seq ?_
    refine W.seq ?_
    apply regionB; (case hb => rfl)
    · skip
      refine pu (ev tab rfl) rfl ?_
      first | refine pu (ev tab rfl) rfl ?_ | refine pu (loadRow tab rfl rfl rfl rfl) rfl ?_ | refine pu (loadBox tab rfl rfl rfl rfl rfl) rfl ?_
      iterate 2 refine pu (ev tab rfl) rfl ?_
      apply splitJ; (case hj => rfl); (case hl => rfl)
      · skip
        refine skipT rfl rfl rfl rfl ?_
        refine skipT rfl rfl rfl rfl ?_
        refine skipT rfl rfl rfl rfl ?_
        iterate 2 refine pu (ev tab rfl) rfl ?_
        refine skipT rfl rfl rfl rfl ?_
        refine skipT rfl rfl rfl rfl ?_
        refine skipT rfl rfl rfl rfl ?_
        iterate 2 refine pu (ev tab rfl) rfl ?_
        refine skipT rfl rfl rfl rfl ?_
        refine skipT rfl rfl rfl rfl ?_
        refine skipT rfl rfl rfl rfl ?_
        refine pu (ev tab rfl) rfl ?_
        refine WO.nil ?_
        refine qv1 rfl rfl rfl
      · skip
        refine goG rfl rfl ?_
        refine pu (ev tab rfl) rfl ?_
        refine goG rfl rfl ?_
        first | refine pu (ev tab rfl) rfl ?_ | refine pu (loadRow tab rfl rfl rfl rfl) rfl ?_ | refine pu (loadBox tab rfl rfl rfl rfl rfl) rfl ?_
        refine goG rfl rfl ?_
        iterate 3 refine pu (ev tab rfl) rfl ?_
        apply splitJ; (case hj => rfl); (case hl => rfl)
        · skip
          refine skipT rfl rfl rfl rfl ?_
          refine skipT rfl rfl rfl rfl ?_
          refine skipT rfl rfl rfl rfl ?_
          iterate 2 refine pu (ev tab rfl) rfl ?_
          refine skipT rfl rfl rfl rfl ?_
          refine skipT rfl rfl rfl rfl ?_
          refine skipT rfl rfl rfl rfl ?_
          refine pu (ev tab rfl) rfl ?_
          refine WO.nil ?_
          refine qv1 rfl rfl rfl
        · skip
          refine goG rfl rfl ?_
          refine pu (ev tab rfl) rfl ?_
          refine goG rfl rfl ?_
          first | refine pu (ev tab rfl) rfl ?_ | refine pu (loadRow tab rfl rfl rfl rfl) rfl ?_ | refine pu (loadBox tab rfl rfl rfl rfl rfl) rfl ?_
          refine goG rfl rfl ?_
          iterate 3 refine pu (ev tab rfl) rfl ?_
          apply splitJ; (case hj => rfl); (case hl => rfl)
          · skip
            refine skipT rfl rfl rfl rfl ?_
            refine skipT rfl rfl rfl rfl ?_
            refine skipT rfl rfl rfl rfl ?_
            refine pu (ev tab rfl) rfl ?_
            refine WO.nil ?_
            refine qv1 rfl rfl rfl
          · skip
            refine goG rfl rfl ?_
            refine pu (ev tab rfl) rfl ?_
            refine goG rfl rfl ?_
            first | refine pu (ev tab rfl) rfl ?_ | refine pu (loadRow tab rfl rfl rfl rfl) rfl ?_ | refine pu (loadBox tab rfl rfl rfl rfl rfl) rfl ?_
            refine goG rfl rfl ?_
            iterate 2 refine pu (ev tab rfl) rfl ?_
            refine WO.nil ?_
            refine qv1 rfl rfl rfl
    refine qs ?_
    refine condK rfl (fun h25 => ?_) (fun h25 => ?_)
    · skip
      refine W.region ?_
      refine pu (ev tab rfl) rfl ?_
      refine WO.nil ?_
      refine qs ?_
      refine W.seq ?_
      refine W.seq ?_
      apply regionB; (case hb => rfl)
      · skip
        refine pu (ev tab rfl) rfl ?_
        first | refine pu (ev tab rfl) rfl ?_ | refine pu (loadRow tab rfl rfl rfl rfl) rfl ?_ | refine pu (loadBox tab rfl rfl rfl rfl rfl) rfl ?_
        iterate 2 refine pu (ev tab rfl) rfl ?_
        apply splitJ; (case hj => rfl); (case hl => rfl)
        · skip
          refine skipT rfl rfl rfl rfl ?_
          refine skipT rfl rfl rfl rfl ?_
          refine skipT rfl rfl rfl rfl ?_
          refine pu (ev tab rfl) rfl ?_
          refine WO.nil ?_
          refine qv1 rfl rfl rfl
        · skip
          refine goG rfl rfl ?_
          refine pu (ev tab rfl) rfl ?_
          refine goG rfl rfl ?_
          first | refine pu (ev tab rfl) rfl ?_ | refine pu (loadRow tab rfl rfl rfl rfl) rfl ?_ | refine pu (loadBox tab rfl rfl rfl rfl rfl) rfl ?_
          refine goG rfl rfl ?_
          iterate 2 refine pu (ev tab rfl) rfl ?_
          refine WO.nil ?_
          refine qv1 rfl rfl rfl
      refine qs ?_
      refine condK rfl (fun h33 => ?_) (fun h33 => ?_)
      · skip
        refine W.region ?_
        refine pu (ev tab rfl) rfl ?_
        refine WO.nil ?_
        refine qs ?_
        refine W.seq ?_
        refine W.seq ?_
        refine W.region ?_
        iterate 2 refine pu (ev tab rfl) rfl ?_
        refine WO.nil ?_
        refine qs ?_
        refine condK rfl (fun h35 => ?_) (fun h35 => ?_)
        · skip
          refine W.seq ?_
          refine W.region ?_
          refine pu (ev tab rfl) rfl ?_
          refine WO.nil ?_
          refine qs ?_
          refine W.ret ?_
          refine qsRet ?_
          refine QF.ret0 trivial rfl ?_
          simp only [norm, oneA, arity, wMin, wMax, wHas, wStarts, wAbs, wLen] at *; grind
        · skip
          refine W.skip ?_
          refine qs ?_
          refine W.seq ?_
          refine W.seq ?_
          refine W.region ?_
          refine pu (ev tab rfl) rfl ?_
          first | refine pu (ev tab rfl) rfl ?_ | refine pu (loadRow tab rfl rfl rfl rfl) rfl ?_ | refine pu (loadBox tab rfl rfl rfl rfl rfl) rfl ?_
          iterate 3 refine pu (ev tab rfl) rfl ?_
          refine WO.nil ?_
          refine qs ?_
          refine condK rfl (fun h40 => ?_) (fun h40 => ?_)
          · skip
            refine W.seq ?_
            refine W.region ?_
            refine pu (ev tab rfl) rfl ?_
            refine WO.nil ?_
            refine qs ?_
            refine W.ret ?_
            refine qsRet ?_
            refine QF.ret0 trivial rfl ?_
            simp only [norm, oneA, arity, wMin, wMax, wHas, wStarts, wAbs, wLen] at *; grind
          · skip
            refine W.skip ?_
            refine qs ?_
            refine W.seq ?_
            refine W.region ?_
            refine pu (ev tab rfl) rfl ?_
            refine WO.nil ?_
            refine qs ?_
            refine W.ret ?_
            refine QF.ret0 trivial rfl ?_
            simp only [norm, oneA, arity, wMin, wMax, wHas, wStarts, wAbs, wLen] at *; grind
      · skip
        refine W.skip ?_
        refine qs ?_
        refine W.seq ?_
        refine W.seq ?_
        refine W.region ?_
        iterate 2 refine pu (ev tab rfl) rfl ?_
        refine WO.nil ?_
        refine qs ?_
        refine condK rfl (fun h35 => ?_) (fun h35 => ?_)
        · skip
          refine W.seq ?_
          refine W.region ?_
          refine pu (ev tab rfl) rfl ?_
          refine WO.nil ?_
          refine qs ?_
          refine W.ret ?_
          refine qsRet ?_
          refine QF.ret0 trivial rfl ?_
          simp only [norm, oneA, arity, wMin, wMax, wHas, wStarts, wAbs, wLen] at *; grind
        · skip
          refine W.skip ?_
          refine qs ?_
          refine W.seq ?_
          refine W.seq ?_
          refine W.region ?_
          refine pu (ev tab rfl) rfl ?_
          first | refine pu (ev tab rfl) rfl ?_ | refine pu (loadRow tab rfl rfl rfl rfl) rfl ?_ | refine pu (loadBox tab rfl rfl rfl rfl rfl) rfl ?_
          iterate 3 refine pu (ev tab rfl) rfl ?_
          refine WO.nil ?_
          refine qs ?_
          refine condK rfl (fun h40 => ?_) (fun h40 => ?_)
          · skip
            refine W.seq ?_
            refine W.region ?_
            refine pu (ev tab rfl) rfl ?_
            refine WO.nil ?_
            refine qs ?_
            refine W.ret ?_
            refine qsRet ?_
            refine QF.ret0 trivial rfl ?_
            simp only [norm, oneA, arity, wMin, wMax, wHas, wStarts, wAbs, wLen] at *; grind
          · skip
            refine W.skip ?_
            refine qs ?_
            refine W.seq ?_
            refine W.region ?_
            refine pu (ev tab rfl) rfl ?_
            refine WO.nil ?_
            refine qs ?_
            refine W.ret ?_
            refine QF.ret0 trivial rfl ?_
            simp only [norm, oneA, arity, wMin, wMax, wHas, wStarts, wAbs, wLen] at *; grind
    · skip
      refine W.skip ?_
      refine qs ?_
      refine W.seq ?_
      refine W.seq ?_
      apply regionB; (case hb => rfl)
      · skip
        refine pu (ev tab rfl) rfl ?_
        first | refine pu (ev tab rfl) rfl ?_ | refine pu (loadRow tab rfl rfl rfl rfl) rfl ?_ | refine pu (loadBox tab rfl rfl rfl rfl rfl) rfl ?_
        iterate 2 refine pu (ev tab rfl) rfl ?_
        apply splitJ; (case hj => rfl); (case hl => rfl)
        · skip
          refine skipT rfl rfl rfl rfl ?_
          refine skipT rfl rfl rfl rfl ?_
          refine skipT rfl rfl rfl rfl ?_
          refine pu (ev tab rfl) rfl ?_
          refine WO.nil ?_
          refine qv1 rfl rfl rfl
        · skip
          refine goG rfl rfl ?_
          refine pu (ev tab rfl) rfl ?_
          refine goG rfl rfl ?_
          first | refine pu (ev tab rfl) rfl ?_ | refine pu (loadRow tab rfl rfl rfl rfl) rfl ?_ | refine pu (loadBox tab rfl rfl rfl rfl rfl) rfl ?_
          refine goG rfl rfl ?_
          iterate 2 refine pu (ev tab rfl) rfl ?_
          refine WO.nil ?_
          refine qv1 rfl rfl rfl
      refine qs ?_
      refine condK rfl (fun h33 => ?_) (fun h33 => ?_)
      · skip
        refine W.region ?_
        refine pu (ev tab rfl) rfl ?_
        refine WO.nil ?_
        refine qs ?_
        refine W.seq ?_
        refine W.seq ?_
        refine W.region ?_
        iterate 2 refine pu (ev tab rfl) rfl ?_
        refine WO.nil ?_
        refine qs ?_
        refine condK rfl (fun h35 => ?_) (fun h35 => ?_)
        · skip
          refine W.seq ?_
          refine W.region ?_
          refine pu (ev tab rfl) rfl ?_
          refine WO.nil ?_
          refine qs ?_
          refine W.ret ?_
          refine qsRet ?_
          refine QF.ret0 trivial rfl ?_
          simp only [norm, oneA, arity, wMin, wMax, wHas, wStarts, wAbs, wLen] at *; grind
        · skip
          refine W.skip ?_
          refine qs ?_
          refine W.seq ?_
          refine W.seq ?_
          refine W.region ?_
          refine pu (ev tab rfl) rfl ?_
          first | refine pu (ev tab rfl) rfl ?_ | refine pu (loadRow tab rfl rfl rfl rfl) rfl ?_ | refine pu (loadBox tab rfl rfl rfl rfl rfl) rfl ?_
          iterate 3 refine pu (ev tab rfl) rfl ?_
          refine WO.nil ?_
          refine qs ?_
          refine condK rfl (fun h40 => ?_) (fun h40 => ?_)
          · skip
            refine W.seq ?_
            refine W.region ?_
            refine pu (ev tab rfl) rfl ?_
            refine WO.nil ?_
            refine qs ?_
            refine W.ret ?_
            refine qsRet ?_
            refine QF.ret0 trivial rfl ?_
            simp only [norm, oneA, arity, wMin, wMax, wHas, wStarts, wAbs, wLen] at *; grind
          · skip
            refine W.skip ?_
            refine qs ?_
            refine W.seq ?_
            refine W.region ?_
            refine pu (ev tab rfl) rfl ?_
            refine WO.nil ?_
            refine qs ?_
            refine W.ret ?_
            refine QF.ret0 trivial rfl ?_
            simp only [norm, oneA, arity, wMin, wMax, wHas, wStarts, wAbs, wLen] at *; grind
      · skip
        refine W.skip ?_
        refine qs ?_
        refine W.seq ?_
        refine W.seq ?_
        refine W.region ?_
        iterate 2 refine pu (ev tab rfl) rfl ?_
        refine WO.nil ?_
        refine qs ?_
        refine condK rfl (fun h35 => ?_) (fun h35 => ?_)
        · skip
          refine W.seq ?_
          refine W.region ?_
          refine pu (ev tab rfl) rfl ?_
          refine WO.nil ?_
          refine qs ?_
          refine W.ret ?_
          refine qsRet ?_
          refine QF.ret0 trivial rfl ?_
          simp only [norm, oneA, arity, wMin, wMax, wHas, wStarts, wAbs, wLen] at *; grind
        · skip
          refine W.skip ?_
          refine qs ?_
          refine W.seq ?_
          refine W.seq ?_
          refine W.region ?_
          refine pu (ev tab rfl) rfl ?_
          first | refine pu (ev tab rfl) rfl ?_ | refine pu (loadRow tab rfl rfl rfl rfl) rfl ?_ | refine pu (loadBox tab rfl rfl rfl rfl rfl) rfl ?_
          iterate 3 refine pu (ev tab rfl) rfl ?_
          refine WO.nil ?_
          refine qs ?_
          refine condK rfl (fun h40 => ?_) (fun h40 => ?_)
          · skip
            refine W.seq ?_
            refine W.region ?_
            refine pu (ev tab rfl) rfl ?_
            refine WO.nil ?_
            refine qs ?_
            refine W.ret ?_
            refine qsRet ?_
            refine QF.ret0 trivial rfl ?_
            simp only [norm, oneA, arity, wMin, wMax, wHas, wStarts, wAbs, wLen] at *; grind
          · skip
            refine W.skip ?_
            refine qs ?_
            refine W.seq ?_
            refine W.region ?_
            refine pu (ev tab rfl) rfl ?_
            refine WO.nil ?_
            refine qs ?_
            refine W.ret ?_
            refine QF.ret0 trivial rfl ?_
            simp only [norm, oneA, arity, wMin, wMax, wHas, wStarts, wAbs, wLen] at *; grind
theorem rnode_fn (e : Ex) : Does Tryz.prog 103 [.ag e.c] (.d (.v (.int .i64 (nodeErr e)))) 0 := by
  refine Does.of_W (n := 73) (ts := [2]) Tryz.func103 (by kernel_rfl) rfl Tryz.ntmps103 Tryz.results103 rfl rfl fun C hC => ?_
  have hkl := Ex.kc_len e
  refine W.seq ?_
  refine W.region ?_
  refine boxR rfl rfl rfl ?_
  refine pu (ev tab rfl) rfl ?_
  refine WO.nil ?_
  refine qs ?_
  refine W.seq ?_
  refine W.seq ?_
  apply regionB; (case hb => rfl)
  · skip
    refine pu (ev tab rfl) rfl ?_
    first | refine pu (ev tab rfl) rfl ?_ | refine pu (loadRow tab rfl rfl rfl rfl) rfl ?_ | refine pu (loadBox tab rfl rfl rfl rfl rfl) rfl ?_
    iterate 2 refine pu (ev tab rfl) rfl ?_
    apply splitJ; (case hj => rfl); (case hl => rfl)
    · skip
      refine skipT rfl rfl rfl rfl ?_
      refine skipT rfl rfl rfl rfl ?_
      refine skipT rfl rfl rfl rfl ?_
      refine pu (ev tab rfl) rfl ?_
      refine WO.nil ?_
      refine qv1 rfl rfl rfl
    · skip
      refine goG rfl rfl ?_
      refine pu (ev tab rfl) rfl ?_
      refine goG rfl rfl ?_
      first | refine pu (ev tab rfl) rfl ?_ | refine pu (loadRow tab rfl rfl rfl rfl) rfl ?_ | refine pu (loadBox tab rfl rfl rfl rfl rfl) rfl ?_
      refine goG rfl rfl ?_
      iterate 2 refine pu (ev tab rfl) rfl ?_
      refine WO.nil ?_
      refine qv1 rfl rfl rfl
  refine qs ?_
  refine condK rfl (fun h11 => ?_) (fun h11 => ?_)
  · skip
    refine W.seq ?_
    refine W.region ?_
    refine pu (ev tab rfl) rfl ?_
    refine WO.nil ?_
    refine qs ?_
    refine W.ret ?_
    refine qsRet ?_
    refine QF.ret0 trivial rfl ?_
    simp only [norm, oneA, nodeErr, zeroV] at *; generalize kidsOf e.op = q at *; grind
  · skip
    refine W.skip ?_
    refine qs ?_
    refine W.seq ?_
    apply regionB; (case hb => rfl)
    · skip
      refine pu (ev tab rfl) rfl ?_
      first | refine pu (ev tab rfl) rfl ?_ | refine pu (loadRow tab rfl rfl rfl rfl) rfl ?_ | refine pu (loadBox tab rfl rfl rfl rfl rfl) rfl ?_
      iterate 2 refine pu (ev tab rfl) rfl ?_
      apply splitJ; (case hj => rfl); (case hl => rfl)
      · skip
        refine skipT rfl rfl rfl rfl ?_
        refine skipT rfl rfl rfl rfl ?_
        refine skipT rfl rfl rfl rfl ?_
        iterate 2 refine pu (ev tab rfl) rfl ?_
        refine WO.nil ?_
        refine qv1 rfl rfl rfl
      · skip
        refine goG rfl rfl ?_
        refine pu (ev tab rfl) rfl ?_
        refine goG rfl rfl ?_
        first | refine pu (ev tab rfl) rfl ?_ | refine pu (loadRow tab rfl rfl rfl rfl) rfl ?_ | refine pu (loadBox tab rfl rfl rfl rfl rfl) rfl ?_
        refine goG rfl rfl ?_
        iterate 3 refine pu (ev tab rfl) rfl ?_
        refine WO.nil ?_
        refine qv1 rfl rfl rfl
    refine qs ?_
    refine W.seq ?_
    refine W.seq ?_
    apply regionDB tab; (case hb => rfl); (case hB => kernel_rfl)
    · skip
      refine chPu (ev tab rfl) rfl ?_
      refine chPu (ev tab rfl) rfl ?_
      refine chPu (ev tab rfl) rfl ?_
      apply chSplitJ; (case hj => rfl); (case hl => rfl)
      · skip
        refine chGo rfl rfl (ev tab rfl) rfl ?_
        first | refine chGo rfl rfl (ev tab rfl) rfl ?_ | refine chGo rfl rfl (loadRow tab rfl rfl rfl rfl) rfl ?_ | refine chGo rfl rfl (loadBox tab rfl rfl rfl rfl rfl) rfl ?_
        refine chGo rfl rfl (ev tab rfl) rfl ?_
        refine chPu (ev tab rfl) rfl ?_
        refine chPu (ev tab rfl) rfl ?_
        apply chSplitJ; (case hj => rfl); (case hl => rfl)
        · skip
          refine chSkip rfl rfl rfl rfl ?_
          refine chSkip rfl rfl rfl rfl ?_
          refine chSkip rfl rfl rfl rfl ?_
          refine chSkip rfl rfl rfl rfl ?_
          refine chSkipU rfl rfl rfl ?_
          refine chSkipU rfl rfl rfl ?_
          refine chSkipU rfl rfl rfl ?_
          refine chSkipU rfl rfl rfl ?_
          refine chSkip rfl rfl rfl rfl ?_
          refine chPu (ev tab rfl) rfl ?_
          refine chPu (ev tab rfl) rfl ?_
          refine chSkip rfl rfl rfl rfl ?_
          refine chSkip rfl rfl rfl rfl ?_
          refine chSkip rfl rfl rfl rfl ?_
          refine chSkip rfl rfl rfl rfl ?_
          refine chSkip rfl rfl rfl rfl ?_
          refine chSkipU rfl rfl rfl ?_
          refine chSkipU rfl rfl rfl ?_
          refine chSkipU rfl rfl rfl ?_
          refine chSkipU rfl rfl rfl ?_
          refine chSkipU rfl rfl rfl ?_
          refine chSkipU rfl rfl rfl ?_
          refine chSkipU rfl rfl rfl ?_
          refine chSkip rfl rfl rfl rfl ?_
          refine chPu (ev tab rfl) rfl ?_
          refine CH.nil ?_
          refine qv1 rfl rfl rfl
        · skip
          refine chGo rfl rfl (ev tab rfl) rfl ?_
          first | refine chGo rfl rfl (ev tab rfl) rfl ?_ | refine chGo rfl rfl (loadRow tab rfl rfl rfl rfl) rfl ?_ | refine chGo rfl rfl (loadBox tab rfl rfl rfl rfl rfl) rfl ?_
          refine chGo rfl rfl (ev tab rfl) rfl ?_
          refine chGo rfl rfl (ev tab rfl) rfl ?_
          apply chSplitJ; (case hj => rfl); (case hl => rfl)
          · skip
            refine chGo rfl rfl (ev tab rfl) rfl ?_
            first | refine chGo rfl rfl (ev tab rfl) rfl ?_ | refine chGo rfl rfl (loadRow tab rfl rfl rfl rfl) rfl ?_ | refine chGo rfl rfl (loadBox tab rfl rfl rfl rfl rfl) rfl ?_
            refine chGo rfl rfl (build tab rfl rfl rfl rfl) rfl ?_
            refine chGo rfl rfl (ev tab rfl) rfl ?_
            refine chGo rfl rfl (ev tab rfl) rfl ?_
            refine chPu (ev tab rfl) rfl ?_
            refine chPu (ev tab rfl) rfl ?_
            apply chSplitJ; (case hj => rfl); (case hl => rfl)
            · skip
              refine chSkip rfl rfl rfl rfl ?_
              refine chSkip rfl rfl rfl rfl ?_
              refine chSkip rfl rfl rfl rfl ?_
              refine chSkip rfl rfl rfl rfl ?_
              refine chSkip rfl rfl rfl rfl ?_
              refine chSkipU rfl rfl rfl ?_
              refine chSkipU rfl rfl rfl ?_
              refine chSkipU rfl rfl rfl ?_
              refine chSkipU rfl rfl rfl ?_
              refine chSkipU rfl rfl rfl ?_
              refine chSkipU rfl rfl rfl ?_
              refine chSkipU rfl rfl rfl ?_
              refine chSkip rfl rfl rfl rfl ?_
              refine chPu (ev tab rfl) rfl ?_
              refine CH.nil ?_
              refine qv1 rfl rfl rfl
            · skip
              refine chGo rfl rfl (ev tab rfl) rfl ?_
              first | refine chGo rfl rfl (ev tab rfl) rfl ?_ | refine chGo rfl rfl (loadRow tab rfl rfl rfl rfl) rfl ?_ | refine chGo rfl rfl (loadBox tab rfl rfl rfl rfl rfl) rfl ?_
              refine chGo rfl rfl (puCall rfl rfl rfl (kids_fn ..) rfl) rfl ?_
              refine chGo rfl rfl (ev tab rfl) rfl ?_
              refine chGo rfl rfl (ev tab rfl) rfl ?_
              apply chSplitJ; (case hj => rfl); (case hl => rfl)
              · skip
                refine chGo rfl rfl (ev tab rfl) rfl ?_
                first | refine chGo rfl rfl (ev tab rfl) rfl ?_ | refine chGo rfl rfl (loadRow tab rfl rfl rfl rfl) rfl ?_ | refine chGo rfl rfl (loadBox tab rfl rfl rfl rfl rfl) rfl ?_
                refine chGo rfl rfl (ev tab rfl) rfl ?_
                refine chGo rfl rfl (ev tab rfl) rfl ?_
                first | refine chGo rfl rfl (ev tab rfl) rfl ?_ | refine chGo rfl rfl (loadRow tab rfl rfl rfl rfl) rfl ?_ | refine chGo rfl rfl (loadBox tab rfl rfl rfl rfl rfl) rfl ?_
                refine chGo rfl rfl (puCall rfl rfl rfl (kids_fn ..) rfl) rfl ?_
                refine chGo rfl rfl (ev tab rfl) rfl ?_
                refine chGo rfl rfl (ev tab rfl) rfl ?_
                refine chPu (ev tab rfl) rfl ?_
                refine CH.nil ?_
                refine qv1 rfl rfl rfl
              · skip
                refine chSkip rfl rfl rfl rfl ?_
                refine chSkip rfl rfl rfl rfl ?_
                refine chSkip rfl rfl rfl rfl ?_
                refine chSkip rfl rfl rfl rfl ?_
                refine chSkip rfl rfl rfl rfl ?_
                refine chSkip rfl rfl rfl rfl ?_
                refine chSkip rfl rfl rfl rfl ?_
                refine chGo rfl rfl (ev tab rfl) rfl ?_
                refine chPu (ev tab rfl) rfl ?_
                refine CH.nil ?_
                refine qv1 rfl rfl rfl
          · skip
            refine chSkip rfl rfl rfl rfl ?_
            refine chSkip rfl rfl rfl rfl ?_
            refine chSkip rfl rfl rfl rfl ?_
            refine chSkip rfl rfl rfl rfl ?_
            refine chGo rfl rfl (ev tab rfl) rfl ?_
            refine chPu (ev tab rfl) rfl ?_
            refine chPu (ev tab rfl) rfl ?_
            refine chGo rfl rfl (ev tab rfl) rfl ?_
            first | refine chGo rfl rfl (ev tab rfl) rfl ?_ | refine chGo rfl rfl (loadRow tab rfl rfl rfl rfl) rfl ?_ | refine chGo rfl rfl (loadBox tab rfl rfl rfl rfl rfl) rfl ?_
            refine chGo rfl rfl (puCall rfl rfl rfl (kids_fn ..) rfl) rfl ?_
            refine chGo rfl rfl (ev tab rfl) rfl ?_
            refine chGo rfl rfl (ev tab rfl) rfl ?_
            apply chSplitJ; (case hj => rfl); (case hl => rfl)
            · skip
              refine chGo rfl rfl (ev tab rfl) rfl ?_
              first | refine chGo rfl rfl (ev tab rfl) rfl ?_ | refine chGo rfl rfl (loadRow tab rfl rfl rfl rfl) rfl ?_ | refine chGo rfl rfl (loadBox tab rfl rfl rfl rfl rfl) rfl ?_
              refine chGo rfl rfl (ev tab rfl) rfl ?_
              refine chGo rfl rfl (ev tab rfl) rfl ?_
              first | refine chGo rfl rfl (ev tab rfl) rfl ?_ | refine chGo rfl rfl (loadRow tab rfl rfl rfl rfl) rfl ?_ | refine chGo rfl rfl (loadBox tab rfl rfl rfl rfl rfl) rfl ?_
              refine chGo rfl rfl (puCall rfl rfl rfl (kids_fn ..) rfl) rfl ?_
              refine chGo rfl rfl (ev tab rfl) rfl ?_
              refine chGo rfl rfl (ev tab rfl) rfl ?_
              refine chPu (ev tab rfl) rfl ?_
              refine CH.nil ?_
              refine qv1 rfl rfl rfl
            · skip
              refine chSkip rfl rfl rfl rfl ?_
              refine chSkip rfl rfl rfl rfl ?_
              refine chSkip rfl rfl rfl rfl ?_
              refine chSkip rfl rfl rfl rfl ?_
              refine chSkip rfl rfl rfl rfl ?_
              refine chSkip rfl rfl rfl rfl ?_
              refine chSkip rfl rfl rfl rfl ?_
              refine chGo rfl rfl (ev tab rfl) rfl ?_
              refine chPu (ev tab rfl) rfl ?_
              refine CH.nil ?_
              refine qv1 rfl rfl rfl
      · skip
        refine chSkip rfl rfl rfl rfl ?_
        refine chSkip rfl rfl rfl rfl ?_
        refine chSkip rfl rfl rfl rfl ?_
        refine chPu (ev tab rfl) rfl ?_
        refine chPu (ev tab rfl) rfl ?_
        refine chGo rfl rfl (ev tab rfl) rfl ?_
        first | refine chGo rfl rfl (ev tab rfl) rfl ?_ | refine chGo rfl rfl (loadRow tab rfl rfl rfl rfl) rfl ?_ | refine chGo rfl rfl (loadBox tab rfl rfl rfl rfl rfl) rfl ?_
        refine chGo rfl rfl (ev tab rfl) rfl ?_
        refine chGo rfl rfl (ev tab rfl) rfl ?_
        apply chSplitJ; (case hj => rfl); (case hl => rfl)
        · skip
          refine chGo rfl rfl (ev tab rfl) rfl ?_
          first | refine chGo rfl rfl (ev tab rfl) rfl ?_ | refine chGo rfl rfl (loadRow tab rfl rfl rfl rfl) rfl ?_ | refine chGo rfl rfl (loadBox tab rfl rfl rfl rfl rfl) rfl ?_
          refine chGo rfl rfl (build tab rfl rfl rfl rfl) rfl ?_
          refine chGo rfl rfl (ev tab rfl) rfl ?_
          refine chGo rfl rfl (ev tab rfl) rfl ?_
          refine chPu (ev tab rfl) rfl ?_
          refine chPu (ev tab rfl) rfl ?_
          apply chSplitJ; (case hj => rfl); (case hl => rfl)
          · skip
            refine chSkip rfl rfl rfl rfl ?_
            refine chSkip rfl rfl rfl rfl ?_
            refine chSkip rfl rfl rfl rfl ?_
            refine chSkip rfl rfl rfl rfl ?_
            refine chSkip rfl rfl rfl rfl ?_
            refine chSkipU rfl rfl rfl ?_
            refine chSkipU rfl rfl rfl ?_
            refine chSkipU rfl rfl rfl ?_
            refine chSkipU rfl rfl rfl ?_
            refine chSkipU rfl rfl rfl ?_
            refine chSkipU rfl rfl rfl ?_
            refine chSkipU rfl rfl rfl ?_
            refine chSkip rfl rfl rfl rfl ?_
            refine chPu (ev tab rfl) rfl ?_
            refine CH.nil ?_
            refine qv1 rfl rfl rfl
          · skip
            refine chGo rfl rfl (ev tab rfl) rfl ?_
            first | refine chGo rfl rfl (ev tab rfl) rfl ?_ | refine chGo rfl rfl (loadRow tab rfl rfl rfl rfl) rfl ?_ | refine chGo rfl rfl (loadBox tab rfl rfl rfl rfl rfl) rfl ?_
            refine chGo rfl rfl (puCall rfl rfl rfl (kids_fn ..) rfl) rfl ?_
            refine chGo rfl rfl (ev tab rfl) rfl ?_
            refine chGo rfl rfl (ev tab rfl) rfl ?_
            apply chSplitJ; (case hj => rfl); (case hl => rfl)
            · skip
              refine chGo rfl rfl (ev tab rfl) rfl ?_
              first | refine chGo rfl rfl (ev tab rfl) rfl ?_ | refine chGo rfl rfl (loadRow tab rfl rfl rfl rfl) rfl ?_ | refine chGo rfl rfl (loadBox tab rfl rfl rfl rfl rfl) rfl ?_
              refine chGo rfl rfl (ev tab rfl) rfl ?_
              refine chGo rfl rfl (ev tab rfl) rfl ?_
              first | refine chGo rfl rfl (ev tab rfl) rfl ?_ | refine chGo rfl rfl (loadRow tab rfl rfl rfl rfl) rfl ?_ | refine chGo rfl rfl (loadBox tab rfl rfl rfl rfl rfl) rfl ?_
              refine chGo rfl rfl (puCall rfl rfl rfl (kids_fn ..) rfl) rfl ?_
              refine chGo rfl rfl (ev tab rfl) rfl ?_
              refine chGo rfl rfl (ev tab rfl) rfl ?_
              refine chPu (ev tab rfl) rfl ?_
              refine CH.nil ?_
              refine qv1 rfl rfl rfl
            · skip
              refine chSkip rfl rfl rfl rfl ?_
              refine chSkip rfl rfl rfl rfl ?_
              refine chSkip rfl rfl rfl rfl ?_
              refine chSkip rfl rfl rfl rfl ?_
              refine chSkip rfl rfl rfl rfl ?_
              refine chSkip rfl rfl rfl rfl ?_
              refine chSkip rfl rfl rfl rfl ?_
              refine chGo rfl rfl (ev tab rfl) rfl ?_
              refine chPu (ev tab rfl) rfl ?_
              refine CH.nil ?_
              refine qv1 rfl rfl rfl
        · skip
          refine chSkip rfl rfl rfl rfl ?_
          refine chSkip rfl rfl rfl rfl ?_
          refine chSkip rfl rfl rfl rfl ?_
          refine chSkip rfl rfl rfl rfl ?_
          refine chGo rfl rfl (ev tab rfl) rfl ?_
          refine chPu (ev tab rfl) rfl ?_
          refine chPu (ev tab rfl) rfl ?_
          refine chGo rfl rfl (ev tab rfl) rfl ?_
          first | refine chGo rfl rfl (ev tab rfl) rfl ?_ | refine chGo rfl rfl (loadRow tab rfl rfl rfl rfl) rfl ?_ | refine chGo rfl rfl (loadBox tab rfl rfl rfl rfl rfl) rfl ?_
          refine chGo rfl rfl (puCall rfl rfl rfl (kids_fn ..) rfl) rfl ?_
          refine chGo rfl rfl (ev tab rfl) rfl ?_
          refine chGo rfl rfl (ev tab rfl) rfl ?_
          apply chSplitJ; (case hj => rfl); (case hl => rfl)
          · skip
            refine chGo rfl rfl (ev tab rfl) rfl ?_
            first | refine chGo rfl rfl (ev tab rfl) rfl ?_ | refine chGo rfl rfl (loadRow tab rfl rfl rfl rfl) rfl ?_ | refine chGo rfl rfl (loadBox tab rfl rfl rfl rfl rfl) rfl ?_
            refine chGo rfl rfl (ev tab rfl) rfl ?_
            refine chGo rfl rfl (ev tab rfl) rfl ?_
            first | refine chGo rfl rfl (ev tab rfl) rfl ?_ | refine chGo rfl rfl (loadRow tab rfl rfl rfl rfl) rfl ?_ | refine chGo rfl rfl (loadBox tab rfl rfl rfl rfl rfl) rfl ?_
            refine chGo rfl rfl (puCall rfl rfl rfl (kids_fn ..) rfl) rfl ?_
            refine chGo rfl rfl (ev tab rfl) rfl ?_
            refine chGo rfl rfl (ev tab rfl) rfl ?_
            refine chPu (ev tab rfl) rfl ?_
            refine CH.nil ?_
            refine qv1 rfl rfl rfl
          · skip
            refine chSkip rfl rfl rfl rfl ?_
            refine chSkip rfl rfl rfl rfl ?_
            refine chSkip rfl rfl rfl rfl ?_
            refine chSkip rfl rfl rfl rfl ?_
            refine chSkip rfl rfl rfl rfl ?_
            refine chSkip rfl rfl rfl rfl ?_
            refine chSkip rfl rfl rfl rfl ?_
            refine chGo rfl rfl (ev tab rfl) rfl ?_
            refine chPu (ev tab rfl) rfl ?_
            refine CH.nil ?_
            refine qv1 rfl rfl rfl
    refine qs ?_
    refine condK rfl (fun h52 => ?_) (fun h52 => ?_)
    · skip
      refine W.seq ?_
      refine W.region ?_
      refine pu (ev tab rfl) rfl ?_
      refine WO.nil ?_
      refine qs ?_
      refine W.ret ?_
      refine qsRet ?_
      refine QF.ret0 trivial rfl ?_
      simp only [norm, oneA, nodeErr, zeroV] at *; generalize kidsOf e.op = q at *; grind
    · skip
      refine W.skip ?_
      refine qs ?_
      refine W.seq ?_
      refine W.seq ?_
      refine W.region ?_
      refine pu (ev tab rfl) rfl ?_
      first | refine pu (ev tab rfl) rfl ?_ | refine pu (loadRow tab rfl rfl rfl rfl) rfl ?_ | refine pu (loadBox tab rfl rfl rfl rfl rfl) rfl ?_
      refine pu (ev tab rfl) rfl ?_
      refine WO.nil ?_
      refine qs ?_
      refine condK rfl (fun h55 => ?_) (fun h55 => ?_)
      · skip
        refine W.seq ?_
        refine W.region ?_
        refine pu (ev tab rfl) rfl ?_
        first | refine pu (ev tab rfl) rfl ?_ | refine pu (loadRow tab rfl rfl rfl rfl) rfl ?_ | refine pu (loadBox tab rfl rfl rfl rfl rfl) rfl ?_
        refine pu (puCall rfl rfl rfl (rconstant_fn ..) rfl) rfl ?_
        refine pu (ev tab rfl) rfl ?_
        refine WO.nil ?_
        refine qs ?_
        refine W.ret ?_
        refine qsRet ?_
        refine QF.ret0 trivial rfl ?_
        simp only [norm, oneA, nodeErr, zeroV] at *; generalize kidsOf e.op = q at *; grind
      · skip
        refine W.skip ?_
        refine qs ?_
        refine W.seq ?_
        refine W.seq ?_
        apply regionB; (case hb => rfl)
        · skip
          refine pu (ev tab rfl) rfl ?_
          first | refine pu (ev tab rfl) rfl ?_ | refine pu (loadRow tab rfl rfl rfl rfl) rfl ?_ | refine pu (loadBox tab rfl rfl rfl rfl rfl) rfl ?_
          iterate 2 refine pu (ev tab rfl) rfl ?_
          apply splitJ; (case hj => rfl); (case hl => rfl)
          · skip
            refine goG rfl rfl ?_
            refine pu (ev tab rfl) rfl ?_
            refine goG rfl rfl ?_
            first | refine pu (ev tab rfl) rfl ?_ | refine pu (loadRow tab rfl rfl rfl rfl) rfl ?_ | refine pu (loadBox tab rfl rfl rfl rfl rfl) rfl ?_
            refine goG rfl rfl ?_
            refine pu (puCall rfl rfl rfl (ident_fn ..) rfl) rfl ?_
            refine goG rfl rfl ?_
            iterate 2 refine pu (ev tab rfl) rfl ?_
            refine WO.nil ?_
            refine qv1 rfl rfl rfl
          · skip
            refine skipT rfl rfl rfl rfl ?_
            refine skipT rfl rfl rfl rfl ?_
            refine skipT rfl rfl rfl rfl ?_
            refine skipT rfl rfl rfl rfl ?_
            refine pu (ev tab rfl) rfl ?_
            refine WO.nil ?_
            refine qv1 rfl rfl rfl
        refine qs ?_
        refine condK rfl (fun h67 => ?_) (fun h67 => ?_)
        · skip
          refine W.seq ?_
          refine W.region ?_
          refine pu (ev tab rfl) rfl ?_
          refine WO.nil ?_
          refine qs ?_
          refine W.ret ?_
          refine qsRet ?_
          refine QF.ret0 trivial rfl ?_
          simp only [norm, oneA, nodeErr, zeroV] at *; generalize kidsOf e.op = q at *; grind
        · skip
          refine W.skip ?_
          refine qs ?_
          refine W.seq ?_
          refine W.seq ?_
          refine W.region ?_
          refine pu (ev tab rfl) rfl ?_
          first | refine pu (ev tab rfl) rfl ?_ | refine pu (loadRow tab rfl rfl rfl rfl) rfl ?_ | refine pu (loadBox tab rfl rfl rfl rfl rfl) rfl ?_
          refine pu (ev tab rfl) rfl ?_
          refine WO.nil ?_
          refine qs ?_
          refine condK rfl (fun h70 => ?_) (fun h70 => ?_)
          · skip
            refine W.seq ?_
            refine W.region ?_
            first | refine pu (ev tab rfl) rfl ?_ | refine pu (loadRow tab rfl rfl rfl rfl) rfl ?_ | refine pu (loadBox tab rfl rfl rfl rfl rfl) rfl ?_
            refine pu (puCall rfl rfl rfl (called_fn ..) rfl) rfl ?_
            refine pu (ev tab rfl) rfl ?_
            refine WO.nil ?_
            refine qs ?_
            refine W.ret ?_
            refine qsRet ?_
            refine QF.ret0 trivial rfl ?_
            simp only [norm, oneA, nodeErr, zeroV] at *; generalize kidsOf e.op = q at *; grind
          · skip
            refine W.skip ?_
            refine qs ?_
            refine W.seq ?_
            refine W.region ?_
            refine pu (ev tab rfl) rfl ?_
            refine WO.nil ?_
            refine qs ?_
            refine W.ret ?_
            refine QF.ret0 trivial rfl ?_
            simp only [norm, oneA, nodeErr, zeroV] at *; generalize kidsOf e.op = q at *; grind
theorem node_fn (e : Ex) : Does Tryz.prog 100 [.ag e.c] (.d (.v (.int .i64 (nodeErr e)))) 0 := by
  refine Does.of_W (n := 94) (ts := [2]) Tryz.func100 (by kernel_rfl) rfl Tryz.ntmps100 Tryz.results100 rfl rfl fun C hC => ?_
  have hkl := Ex.kc_len e
  refine W.seq ?_
  refine W.region ?_
  refine boxR rfl rfl rfl ?_
  refine pu (ev tab rfl) rfl ?_
  refine WO.nil ?_
  refine qs ?_
  refine W.seq ?_
  refine W.region ?_
  iterate 3 refine pu (ev tab rfl) rfl ?_
  refine WO.nil ?_
  refine qs ?_
  refine W.seq ?_
  refine W.block ?_
  refine W.seq ?_
  refine W.region ?_
  refine pu (ev tab rfl) rfl ?_
  first | refine pu (ev tab rfl) rfl ?_ | refine pu (loadRow tab rfl rfl rfl rfl) rfl ?_ | refine pu (loadBox tab rfl rfl rfl rfl rfl) rfl ?_
  iterate 2 refine pu (ev tab rfl) rfl ?_
  refine WO.nil ?_
  refine qs ?_
  refine condK rfl (fun h6 => ?_) (fun h6 => ?_)
  · skip
    refine W.region ?_
    iterate 2 refine pu (ev tab rfl) rfl ?_
    refine WO.nil ?_
    refine qbN ?_
    refine qs ?_
    refine W.seq ?_
    refine W.block ?_
    refine W.seq ?_
    refine W.seq ?_
    refine W.region ?_
    refine pu (ev tab rfl) rfl ?_
    first | refine pu (ev tab rfl) rfl ?_ | refine pu (loadRow tab rfl rfl rfl rfl) rfl ?_ | refine pu (loadBox tab rfl rfl rfl rfl rfl) rfl ?_
    iterate 4 refine pu (ev tab rfl) rfl ?_
    refine WO.nil ?_
    refine qs ?_
    refine condK rfl (fun h39 => ?_) (fun h39 => ?_)
    · skip
      refine W.skip ?_
      refine qs ?_
      refine W.condT rfl ?_
      refine W.seq ?_
      refine W.region ?_
      refine pu (ev tab rfl) rfl ?_
      refine WO.nil ?_
      refine qs ?_
      refine W.ret ?_
      refine qbRet ?_
      refine qsRet ?_
      refine QF.ret0 trivial rfl ?_
      simp only [norm, oneA, nodeErr, kidsOf, zeroV] at *; grind
    · skip
      refine W.seq ?_
      apply regionB; (case hb => rfl)
      · skip
        refine pu (ev tab rfl) rfl ?_
        first | refine pu (ev tab rfl) rfl ?_ | refine pu (loadRow tab rfl rfl rfl rfl) rfl ?_ | refine pu (loadBox tab rfl rfl rfl rfl rfl) rfl ?_
        iterate 2 refine pu (ev tab rfl) rfl ?_
        apply splitJ; (case hj => rfl); (case hl => rfl)
        · skip
          refine goG rfl rfl ?_
          refine pu (ev tab rfl) rfl ?_
          refine goG rfl rfl ?_
          iterate 3 refine pu (ev tab rfl) rfl ?_
          refine WO.nil ?_
          refine qv1 rfl rfl rfl
        · skip
          refine skipT rfl rfl rfl rfl ?_
          refine skipT rfl rfl rfl rfl ?_
          iterate 2 refine pu (ev tab rfl) rfl ?_
          refine WO.nil ?_
          refine qv1 rfl rfl rfl
      refine qs ?_
      refine condK rfl (fun h39 => ?_) (fun h39 => ?_)
      · skip
        refine W.skip ?_
        refine qs ?_
        refine W.condT rfl ?_
        refine W.seq ?_
        refine W.region ?_
        refine pu (ev tab rfl) rfl ?_
        refine WO.nil ?_
        refine qs ?_
        refine W.ret ?_
        refine qbRet ?_
        refine qsRet ?_
        refine QF.ret0 trivial rfl ?_
        simp only [norm, oneA, nodeErr, kidsOf, zeroV] at *; grind
      · skip
        apply regionB; (case hb => rfl)
        · skip
          refine pu (ev tab rfl) rfl ?_
          first | refine pu (ev tab rfl) rfl ?_ | refine pu (loadRow tab rfl rfl rfl rfl) rfl ?_ | refine pu (loadBox tab rfl rfl rfl rfl rfl) rfl ?_
          refine pu (build tab rfl rfl rfl rfl) rfl ?_
          iterate 2 refine pu (ev tab rfl) rfl ?_
          apply splitJ; (case hj => rfl); (case hl => rfl)
          · skip
            refine goG rfl rfl ?_
            refine pu (ev tab rfl) rfl ?_
            refine goG rfl rfl ?_
            iterate 3 refine pu (ev tab rfl) rfl ?_
            refine WO.nil ?_
            refine qv1 rfl rfl rfl
          · skip
            refine skipT rfl rfl rfl rfl ?_
            refine skipT rfl rfl rfl rfl ?_
            iterate 2 refine pu (ev tab rfl) rfl ?_
            refine WO.nil ?_
            refine qv1 rfl rfl rfl
        refine qs ?_
        refine condK rfl (fun h39 => ?_) (fun h39 => ?_)
        · skip
          refine W.seq ?_
          refine W.region ?_
          refine pu (ev tab rfl) rfl ?_
          refine WO.nil ?_
          refine qs ?_
          refine W.ret ?_
          refine qbRet ?_
          refine qsRet ?_
          refine QF.ret0 trivial rfl ?_
          simp only [norm, oneA, nodeErr, kidsOf, zeroV] at *; grind
        · skip
          refine W.seq ?_
          refine W.region ?_
          iterate 2 refine pu (ev tab rfl) rfl ?_
          refine WO.nil ?_
          refine qs ?_
          refine W.condT rfl ?_
          refine W.seq ?_
          refine W.region ?_
          refine pu (ev tab rfl) rfl ?_
          first | refine pu (ev tab rfl) rfl ?_ | refine pu (loadRow tab rfl rfl rfl rfl) rfl ?_ | refine pu (loadBox tab rfl rfl rfl rfl rfl) rfl ?_
          refine pu (puCall rfl rfl rfl (constant_fn ..) rfl) rfl ?_
          refine pu (ev tab rfl) rfl ?_
          refine WO.nil ?_
          refine qs ?_
          refine W.ret ?_
          refine qbRet ?_
          refine qsRet ?_
          refine QF.ret0 trivial rfl ?_
          simp only [norm, oneA, nodeErr, kidsOf, zeroV] at *; grind
  · skip
    refine W.seq ?_
    refine W.region ?_
    refine pu (ev tab rfl) rfl ?_
    first | refine pu (ev tab rfl) rfl ?_ | refine pu (loadRow tab rfl rfl rfl rfl) rfl ?_ | refine pu (loadBox tab rfl rfl rfl rfl rfl) rfl ?_
    iterate 2 refine pu (ev tab rfl) rfl ?_
    refine WO.nil ?_
    refine qs ?_
    refine condK rfl (fun h10 => ?_) (fun h10 => ?_)
    · skip
      refine W.region ?_
      iterate 2 refine pu (ev tab rfl) rfl ?_
      refine WO.nil ?_
      refine qbN ?_
      refine qs ?_
      refine W.seq ?_
      refine W.block ?_
      refine W.seq ?_
      refine W.seq ?_
      refine W.region ?_
      refine pu (ev tab rfl) rfl ?_
      first | refine pu (ev tab rfl) rfl ?_ | refine pu (loadRow tab rfl rfl rfl rfl) rfl ?_ | refine pu (loadBox tab rfl rfl rfl rfl rfl) rfl ?_
      iterate 4 refine pu (ev tab rfl) rfl ?_
      refine WO.nil ?_
      refine qs ?_
      refine condK rfl (fun h39 => ?_) (fun h39 => ?_)
      · skip
        refine W.skip ?_
        refine qs ?_
        refine W.condT rfl ?_
        refine W.seq ?_
        refine W.region ?_
        refine pu (ev tab rfl) rfl ?_
        refine WO.nil ?_
        refine qs ?_
        refine W.ret ?_
        refine qbRet ?_
        refine qsRet ?_
        refine QF.ret0 trivial rfl ?_
        simp only [norm, oneA, nodeErr, kidsOf, zeroV] at *; grind
      · skip
        refine W.seq ?_
        apply regionB; (case hb => rfl)
        · skip
          refine pu (ev tab rfl) rfl ?_
          first | refine pu (ev tab rfl) rfl ?_ | refine pu (loadRow tab rfl rfl rfl rfl) rfl ?_ | refine pu (loadBox tab rfl rfl rfl rfl rfl) rfl ?_
          iterate 2 refine pu (ev tab rfl) rfl ?_
          apply splitJ; (case hj => rfl); (case hl => rfl)
          · skip
            refine goG rfl rfl ?_
            refine pu (ev tab rfl) rfl ?_
            refine goG rfl rfl ?_
            iterate 3 refine pu (ev tab rfl) rfl ?_
            refine WO.nil ?_
            refine qv1 rfl rfl rfl
          · skip
            refine skipT rfl rfl rfl rfl ?_
            refine skipT rfl rfl rfl rfl ?_
            iterate 2 refine pu (ev tab rfl) rfl ?_
            refine WO.nil ?_
            refine qv1 rfl rfl rfl
        refine qs ?_
        refine condK rfl (fun h39 => ?_) (fun h39 => ?_)
        · skip
          refine W.skip ?_
          refine qs ?_
          refine W.condT rfl ?_
          refine W.seq ?_
          refine W.region ?_
          refine pu (ev tab rfl) rfl ?_
          refine WO.nil ?_
          refine qs ?_
          refine W.ret ?_
          refine qbRet ?_
          refine qsRet ?_
          refine QF.ret0 trivial rfl ?_
          simp only [norm, oneA, nodeErr, kidsOf, zeroV] at *; grind
        · skip
          apply regionB; (case hb => rfl)
          · skip
            refine pu (ev tab rfl) rfl ?_
            first | refine pu (ev tab rfl) rfl ?_ | refine pu (loadRow tab rfl rfl rfl rfl) rfl ?_ | refine pu (loadBox tab rfl rfl rfl rfl rfl) rfl ?_
            refine pu (build tab rfl rfl rfl rfl) rfl ?_
            iterate 2 refine pu (ev tab rfl) rfl ?_
            apply splitJ; (case hj => rfl); (case hl => rfl)
            · skip
              refine goG rfl rfl ?_
              refine pu (ev tab rfl) rfl ?_
              refine goG rfl rfl ?_
              iterate 3 refine pu (ev tab rfl) rfl ?_
              refine WO.nil ?_
              refine qv1 rfl rfl rfl
            · skip
              refine skipT rfl rfl rfl rfl ?_
              refine skipT rfl rfl rfl rfl ?_
              iterate 2 refine pu (ev tab rfl) rfl ?_
              refine WO.nil ?_
              refine qv1 rfl rfl rfl
          refine qs ?_
          refine condK rfl (fun h39 => ?_) (fun h39 => ?_)
          · skip
            refine W.seq ?_
            refine W.region ?_
            refine pu (ev tab rfl) rfl ?_
            refine WO.nil ?_
            refine qs ?_
            refine W.ret ?_
            refine qbRet ?_
            refine qsRet ?_
            refine QF.ret0 trivial rfl ?_
            simp only [norm, oneA, nodeErr, kidsOf, zeroV] at *; grind
          · skip
            refine W.seq ?_
            refine W.region ?_
            iterate 2 refine pu (ev tab rfl) rfl ?_
            refine WO.nil ?_
            refine qs ?_
            refine W.condF rfl ?_
            refine W.seq ?_
            apply regionB; (case hb => rfl)
            · skip
              iterate 2 refine pu (ev tab rfl) rfl ?_
              refine goG rfl rfl ?_
              refine pu (ev tab rfl) rfl ?_
              refine goG rfl rfl ?_
              first | refine pu (ev tab rfl) rfl ?_ | refine pu (loadRow tab rfl rfl rfl rfl) rfl ?_ | refine pu (loadBox tab rfl rfl rfl rfl rfl) rfl ?_
              refine goG rfl rfl ?_
              refine pu (puCall rfl rfl rfl (identifier_fn ..) rfl) rfl ?_
              refine goG rfl rfl ?_
              iterate 3 refine pu (ev tab rfl) rfl ?_
              refine WO.nil ?_
              refine qv1 rfl rfl rfl
            refine qs ?_
            refine condK rfl (fun h65 => ?_) (fun h65 => ?_)
            · skip
              refine W.seq ?_
              refine W.region ?_
              refine pu (ev tab rfl) rfl ?_
              refine WO.nil ?_
              refine qs ?_
              refine W.ret ?_
              refine qbRet ?_
              refine qsRet ?_
              refine QF.ret0 trivial rfl ?_
              simp only [norm, oneA, nodeErr, kidsOf, zeroV] at *; grind
            · skip
              refine W.seq ?_
              apply regionB; (case hb => rfl)
              · skip
                refine pu (ev tab rfl) rfl ?_
                first | refine pu (ev tab rfl) rfl ?_ | refine pu (loadRow tab rfl rfl rfl rfl) rfl ?_ | refine pu (loadBox tab rfl rfl rfl rfl rfl) rfl ?_
                iterate 2 refine pu (ev tab rfl) rfl ?_
                apply splitJ; (case hj => rfl); (case hl => rfl)
                · skip
                  refine goG rfl rfl ?_
                  refine pu (ev tab rfl) rfl ?_
                  refine goG rfl rfl ?_
                  first | refine pu (ev tab rfl) rfl ?_ | refine pu (loadRow tab rfl rfl rfl rfl) rfl ?_ | refine pu (loadBox tab rfl rfl rfl rfl rfl) rfl ?_
                  refine goG rfl rfl ?_
                  refine pu (puCall rfl rfl rfl (arity_fn ..) rfl) rfl ?_
                  refine goG rfl rfl ?_
                  iterate 3 refine pu (ev tab rfl) rfl ?_
                  refine WO.nil ?_
                  refine qv1 rfl rfl rfl
                · skip
                  refine skipT rfl rfl rfl rfl ?_
                  refine skipT rfl rfl rfl rfl ?_
                  refine skipT rfl rfl rfl rfl ?_
                  refine skipT rfl rfl rfl rfl ?_
                  iterate 2 refine pu (ev tab rfl) rfl ?_
                  refine WO.nil ?_
                  refine qv1 rfl rfl rfl
              refine qs ?_
              refine condK rfl (fun h73 => ?_) (fun h73 => ?_)
              · skip
                refine W.seq ?_
                refine W.region ?_
                refine pu (ev tab rfl) rfl ?_
                refine WO.nil ?_
                refine qs ?_
                refine W.ret ?_
                refine qbRet ?_
                refine qsRet ?_
                refine QF.ret0 trivial rfl ?_
                simp only [norm, oneA, nodeErr, kidsOf, zeroV] at *; grind
              · skip
                refine W.seq ?_
                apply regionB; (case hb => rfl)
                · skip
                  refine pu (ev tab rfl) rfl ?_
                  first | refine pu (ev tab rfl) rfl ?_ | refine pu (loadRow tab rfl rfl rfl rfl) rfl ?_ | refine pu (loadBox tab rfl rfl rfl rfl rfl) rfl ?_
                  iterate 2 refine pu (ev tab rfl) rfl ?_
                  apply splitJ; (case hj => rfl); (case hl => rfl)
                  · skip
                    refine goG rfl rfl ?_
                    refine pu (ev tab rfl) rfl ?_
                    refine goG rfl rfl ?_
                    first | refine pu (ev tab rfl) rfl ?_ | refine pu (loadRow tab rfl rfl rfl rfl) rfl ?_ | refine pu (loadBox tab rfl rfl rfl rfl rfl) rfl ?_
                    refine goG rfl rfl ?_
                    refine pu (puCall rfl rfl rfl (arity_fn ..) rfl) rfl ?_
                    refine goG rfl rfl ?_
                    refine pu (ev tab rfl) rfl ?_
                    refine goG rfl rfl ?_
                    iterate 3 refine pu (ev tab rfl) rfl ?_
                    refine WO.nil ?_
                    refine qv1 rfl rfl rfl
                  · skip
                    refine skipT rfl rfl rfl rfl ?_
                    refine skipT rfl rfl rfl rfl ?_
                    refine skipT rfl rfl rfl rfl ?_
                    refine skipT rfl rfl rfl rfl ?_
                    refine skipT rfl rfl rfl rfl ?_
                    iterate 2 refine pu (ev tab rfl) rfl ?_
                    refine WO.nil ?_
                    refine qv1 rfl rfl rfl
                refine qs ?_
                refine condK rfl (fun h83 => ?_) (fun h83 => ?_)
                · skip
                  refine W.seq ?_
                  refine W.region ?_
                  refine pu (ev tab rfl) rfl ?_
                  refine WO.nil ?_
                  refine qs ?_
                  refine W.ret ?_
                  refine qbRet ?_
                  refine qsRet ?_
                  refine QF.ret0 trivial rfl ?_
                  simp only [norm, oneA, nodeErr, kidsOf, zeroV] at *; grind
                · skip
                  refine W.skip ?_
                  refine qbN ?_
                  refine qs ?_
                  refine W.seq ?_
                  refine W.region ?_
                  refine pu (ev tab rfl) rfl ?_
                  refine WO.nil ?_
                  refine qs ?_
                  refine W.ret ?_
                  refine QF.ret0 trivial rfl ?_
                  simp only [norm, oneA, nodeErr, kidsOf, zeroV] at *; grind
    · skip
      refine W.seq ?_
      apply regionB; (case hb => rfl)
      · skip
        refine pu (ev tab rfl) rfl ?_
        first | refine pu (ev tab rfl) rfl ?_ | refine pu (loadRow tab rfl rfl rfl rfl) rfl ?_ | refine pu (loadBox tab rfl rfl rfl rfl rfl) rfl ?_
        iterate 2 refine pu (ev tab rfl) rfl ?_
        apply splitJ; (case hj => rfl); (case hl => rfl)
        · skip
          refine skipT rfl rfl rfl rfl ?_
          refine skipT rfl rfl rfl rfl ?_
          refine skipT rfl rfl rfl rfl ?_
          iterate 2 refine pu (ev tab rfl) rfl ?_
          refine WO.nil ?_
          refine qv1 rfl rfl rfl
        · skip
          refine goG rfl rfl ?_
          refine pu (ev tab rfl) rfl ?_
          refine goG rfl rfl ?_
          first | refine pu (ev tab rfl) rfl ?_ | refine pu (loadRow tab rfl rfl rfl rfl) rfl ?_ | refine pu (loadBox tab rfl rfl rfl rfl rfl) rfl ?_
          refine goG rfl rfl ?_
          iterate 3 refine pu (ev tab rfl) rfl ?_
          refine WO.nil ?_
          refine qv1 rfl rfl rfl
      refine qs ?_
      refine condK rfl (fun h14 => ?_) (fun h14 => ?_)
      · skip
        refine W.region ?_
        refine pu (ev tab rfl) rfl ?_
        refine WO.nil ?_
        refine qbN ?_
        refine qs ?_
        refine W.seq ?_
        refine W.block ?_
        refine W.seq ?_
        refine W.seq ?_
        refine W.region ?_
        refine pu (ev tab rfl) rfl ?_
        first | refine pu (ev tab rfl) rfl ?_ | refine pu (loadRow tab rfl rfl rfl rfl) rfl ?_ | refine pu (loadBox tab rfl rfl rfl rfl rfl) rfl ?_
        iterate 4 refine pu (ev tab rfl) rfl ?_
        refine WO.nil ?_
        refine qs ?_
        refine condK rfl (fun h39 => ?_) (fun h39 => ?_)
        · skip
          refine W.skip ?_
          refine qs ?_
          refine W.condT rfl ?_
          refine W.seq ?_
          refine W.region ?_
          refine pu (ev tab rfl) rfl ?_
          refine WO.nil ?_
          refine qs ?_
          refine W.ret ?_
          refine qbRet ?_
          refine qsRet ?_
          refine QF.ret0 trivial rfl ?_
          simp only [norm, oneA, nodeErr, kidsOf, zeroV] at *; grind
        · skip
          refine W.seq ?_
          apply regionB; (case hb => rfl)
          · skip
            refine pu (ev tab rfl) rfl ?_
            first | refine pu (ev tab rfl) rfl ?_ | refine pu (loadRow tab rfl rfl rfl rfl) rfl ?_ | refine pu (loadBox tab rfl rfl rfl rfl rfl) rfl ?_
            iterate 2 refine pu (ev tab rfl) rfl ?_
            apply splitJ; (case hj => rfl); (case hl => rfl)
            · skip
              refine goG rfl rfl ?_
              refine pu (ev tab rfl) rfl ?_
              refine goG rfl rfl ?_
              iterate 3 refine pu (ev tab rfl) rfl ?_
              refine WO.nil ?_
              refine qv1 rfl rfl rfl
            · skip
              refine skipT rfl rfl rfl rfl ?_
              refine skipT rfl rfl rfl rfl ?_
              iterate 2 refine pu (ev tab rfl) rfl ?_
              refine WO.nil ?_
              refine qv1 rfl rfl rfl
          refine qs ?_
          refine condK rfl (fun h39 => ?_) (fun h39 => ?_)
          · skip
            refine W.skip ?_
            refine qs ?_
            refine W.condT rfl ?_
            refine W.seq ?_
            refine W.region ?_
            refine pu (ev tab rfl) rfl ?_
            refine WO.nil ?_
            refine qs ?_
            refine W.ret ?_
            refine qbRet ?_
            refine qsRet ?_
            refine QF.ret0 trivial rfl ?_
            simp only [norm, oneA, nodeErr, kidsOf, zeroV] at *; grind
          · skip
            apply regionB; (case hb => rfl)
            · skip
              refine pu (ev tab rfl) rfl ?_
              first | refine pu (ev tab rfl) rfl ?_ | refine pu (loadRow tab rfl rfl rfl rfl) rfl ?_ | refine pu (loadBox tab rfl rfl rfl rfl rfl) rfl ?_
              refine pu (build tab rfl rfl rfl rfl) rfl ?_
              iterate 2 refine pu (ev tab rfl) rfl ?_
              apply splitJ; (case hj => rfl); (case hl => rfl)
              · skip
                refine goG rfl rfl ?_
                refine pu (ev tab rfl) rfl ?_
                refine goG rfl rfl ?_
                iterate 3 refine pu (ev tab rfl) rfl ?_
                refine WO.nil ?_
                refine qv1 rfl rfl rfl
              · skip
                refine skipT rfl rfl rfl rfl ?_
                refine skipT rfl rfl rfl rfl ?_
                iterate 2 refine pu (ev tab rfl) rfl ?_
                refine WO.nil ?_
                refine qv1 rfl rfl rfl
            refine qs ?_
            refine condK rfl (fun h39 => ?_) (fun h39 => ?_)
            · skip
              refine W.seq ?_
              refine W.region ?_
              refine pu (ev tab rfl) rfl ?_
              refine WO.nil ?_
              refine qs ?_
              refine W.ret ?_
              refine qbRet ?_
              refine qsRet ?_
              refine QF.ret0 trivial rfl ?_
              simp only [norm, oneA, nodeErr, kidsOf, zeroV] at *; grind
            · skip
              refine W.seq ?_
              refine W.region ?_
              iterate 2 refine pu (ev tab rfl) rfl ?_
              refine WO.nil ?_
              refine qs ?_
              refine W.condF rfl ?_
              refine W.seq ?_
              apply regionB; (case hb => rfl)
              · skip
                iterate 2 refine pu (ev tab rfl) rfl ?_
                refine skipT rfl rfl rfl rfl ?_
                refine skipT rfl rfl rfl rfl ?_
                refine skipT rfl rfl rfl rfl ?_
                refine skipT rfl rfl rfl rfl ?_
                iterate 2 refine pu (ev tab rfl) rfl ?_
                refine WO.nil ?_
                refine qv1 rfl rfl rfl
              refine qs ?_
              refine condK rfl (fun h65 => ?_) (fun h65 => ?_)
              · skip
                refine W.seq ?_
                refine W.region ?_
                refine pu (ev tab rfl) rfl ?_
                refine WO.nil ?_
                refine qs ?_
                refine W.ret ?_
                refine qbRet ?_
                refine qsRet ?_
                refine QF.ret0 trivial rfl ?_
                simp only [norm, oneA, nodeErr, kidsOf, zeroV] at *; grind
              · skip
                refine W.seq ?_
                apply regionB; (case hb => rfl)
                · skip
                  refine pu (ev tab rfl) rfl ?_
                  first | refine pu (ev tab rfl) rfl ?_ | refine pu (loadRow tab rfl rfl rfl rfl) rfl ?_ | refine pu (loadBox tab rfl rfl rfl rfl rfl) rfl ?_
                  iterate 2 refine pu (ev tab rfl) rfl ?_
                  apply splitJ; (case hj => rfl); (case hl => rfl)
                  · skip
                    refine goG rfl rfl ?_
                    refine pu (ev tab rfl) rfl ?_
                    refine goG rfl rfl ?_
                    first | refine pu (ev tab rfl) rfl ?_ | refine pu (loadRow tab rfl rfl rfl rfl) rfl ?_ | refine pu (loadBox tab rfl rfl rfl rfl rfl) rfl ?_
                    refine goG rfl rfl ?_
                    refine pu (puCall rfl rfl rfl (arity_fn ..) rfl) rfl ?_
                    refine goG rfl rfl ?_
                    iterate 3 refine pu (ev tab rfl) rfl ?_
                    refine WO.nil ?_
                    refine qv1 rfl rfl rfl
                  · skip
                    refine skipT rfl rfl rfl rfl ?_
                    refine skipT rfl rfl rfl rfl ?_
                    refine skipT rfl rfl rfl rfl ?_
                    refine skipT rfl rfl rfl rfl ?_
                    iterate 2 refine pu (ev tab rfl) rfl ?_
                    refine WO.nil ?_
                    refine qv1 rfl rfl rfl
                refine qs ?_
                refine condK rfl (fun h73 => ?_) (fun h73 => ?_)
                · skip
                  refine W.seq ?_
                  refine W.region ?_
                  refine pu (ev tab rfl) rfl ?_
                  refine WO.nil ?_
                  refine qs ?_
                  refine W.ret ?_
                  refine qbRet ?_
                  refine qsRet ?_
                  refine QF.ret0 trivial rfl ?_
                  simp only [norm, oneA, nodeErr, kidsOf, zeroV] at *; grind
                · skip
                  refine W.seq ?_
                  apply regionB; (case hb => rfl)
                  · skip
                    refine pu (ev tab rfl) rfl ?_
                    first | refine pu (ev tab rfl) rfl ?_ | refine pu (loadRow tab rfl rfl rfl rfl) rfl ?_ | refine pu (loadBox tab rfl rfl rfl rfl rfl) rfl ?_
                    iterate 2 refine pu (ev tab rfl) rfl ?_
                    apply splitJ; (case hj => rfl); (case hl => rfl)
                    · skip
                      refine goG rfl rfl ?_
                      refine pu (ev tab rfl) rfl ?_
                      refine goG rfl rfl ?_
                      first | refine pu (ev tab rfl) rfl ?_ | refine pu (loadRow tab rfl rfl rfl rfl) rfl ?_ | refine pu (loadBox tab rfl rfl rfl rfl rfl) rfl ?_
                      refine goG rfl rfl ?_
                      refine pu (puCall rfl rfl rfl (arity_fn ..) rfl) rfl ?_
                      refine goG rfl rfl ?_
                      refine pu (ev tab rfl) rfl ?_
                      refine goG rfl rfl ?_
                      iterate 3 refine pu (ev tab rfl) rfl ?_
                      refine WO.nil ?_
                      refine qv1 rfl rfl rfl
                    · skip
                      refine skipT rfl rfl rfl rfl ?_
                      refine skipT rfl rfl rfl rfl ?_
                      refine skipT rfl rfl rfl rfl ?_
                      refine skipT rfl rfl rfl rfl ?_
                      refine skipT rfl rfl rfl rfl ?_
                      iterate 2 refine pu (ev tab rfl) rfl ?_
                      refine WO.nil ?_
                      refine qv1 rfl rfl rfl
                  refine qs ?_
                  refine condK rfl (fun h83 => ?_) (fun h83 => ?_)
                  · skip
                    refine W.seq ?_
                    refine W.region ?_
                    refine pu (ev tab rfl) rfl ?_
                    refine WO.nil ?_
                    refine qs ?_
                    refine W.ret ?_
                    refine qbRet ?_
                    refine qsRet ?_
                    refine QF.ret0 trivial rfl ?_
                    simp only [norm, oneA, nodeErr, kidsOf, zeroV] at *; grind
                  · skip
                    refine W.skip ?_
                    refine qbN ?_
                    refine qs ?_
                    refine W.seq ?_
                    refine W.region ?_
                    refine pu (ev tab rfl) rfl ?_
                    refine WO.nil ?_
                    refine qs ?_
                    refine W.ret ?_
                    refine QF.ret0 trivial rfl ?_
                    simp only [norm, oneA, nodeErr, kidsOf, zeroV] at *; grind
      · skip
        refine W.seq ?_
        refine W.region ?_
        refine pu (ev tab rfl) rfl ?_
        first | refine pu (ev tab rfl) rfl ?_ | refine pu (loadRow tab rfl rfl rfl rfl) rfl ?_ | refine pu (loadBox tab rfl rfl rfl rfl rfl) rfl ?_
        iterate 2 refine pu (ev tab rfl) rfl ?_
        refine WO.nil ?_
        refine qs ?_
        refine condK rfl (fun h23 => ?_) (fun h23 => ?_)
        · skip
          refine W.region ?_
          refine pu (ev tab rfl) rfl ?_
          first | refine pu (ev tab rfl) rfl ?_ | refine pu (loadRow tab rfl rfl rfl rfl) rfl ?_ | refine pu (loadBox tab rfl rfl rfl rfl rfl) rfl ?_
          iterate 3 refine pu (ev tab rfl) rfl ?_
          refine WO.nil ?_
          refine qbN ?_
          refine qs ?_
          refine W.seq ?_
          refine W.block ?_
          refine W.seq ?_
          refine W.seq ?_
          refine W.region ?_
          refine pu (ev tab rfl) rfl ?_
          first | refine pu (ev tab rfl) rfl ?_ | refine pu (loadRow tab rfl rfl rfl rfl) rfl ?_ | refine pu (loadBox tab rfl rfl rfl rfl rfl) rfl ?_
          iterate 4 refine pu (ev tab rfl) rfl ?_
          refine WO.nil ?_
          refine qs ?_
          refine condK rfl (fun h39 => ?_) (fun h39 => ?_)
          · skip
            refine W.skip ?_
            refine qs ?_
            refine W.condT rfl ?_
            refine W.seq ?_
            refine W.region ?_
            refine pu (ev tab rfl) rfl ?_
            refine WO.nil ?_
            refine qs ?_
            refine W.ret ?_
            refine qbRet ?_
            refine qsRet ?_
            refine QF.ret0 trivial rfl ?_
            simp only [norm, oneA, nodeErr, kidsOf, zeroV] at *; grind
          · skip
            refine W.seq ?_
            apply regionB; (case hb => rfl)
            · skip
              refine pu (ev tab rfl) rfl ?_
              first | refine pu (ev tab rfl) rfl ?_ | refine pu (loadRow tab rfl rfl rfl rfl) rfl ?_ | refine pu (loadBox tab rfl rfl rfl rfl rfl) rfl ?_
              iterate 2 refine pu (ev tab rfl) rfl ?_
              apply splitJ; (case hj => rfl); (case hl => rfl)
              · skip
                refine goG rfl rfl ?_
                refine pu (ev tab rfl) rfl ?_
                refine goG rfl rfl ?_
                iterate 3 refine pu (ev tab rfl) rfl ?_
                refine WO.nil ?_
                refine qv1 rfl rfl rfl
              · skip
                refine skipT rfl rfl rfl rfl ?_
                refine skipT rfl rfl rfl rfl ?_
                iterate 2 refine pu (ev tab rfl) rfl ?_
                refine WO.nil ?_
                refine qv1 rfl rfl rfl
            refine qs ?_
            refine condK rfl (fun h39 => ?_) (fun h39 => ?_)
            · skip
              refine W.skip ?_
              refine qs ?_
              refine W.condT rfl ?_
              refine W.seq ?_
              refine W.region ?_
              refine pu (ev tab rfl) rfl ?_
              refine WO.nil ?_
              refine qs ?_
              refine W.ret ?_
              refine qbRet ?_
              refine qsRet ?_
              refine QF.ret0 trivial rfl ?_
              simp only [norm, oneA, nodeErr, kidsOf, zeroV] at *; grind
            · skip
              apply regionB; (case hb => rfl)
              · skip
                refine pu (ev tab rfl) rfl ?_
                first | refine pu (ev tab rfl) rfl ?_ | refine pu (loadRow tab rfl rfl rfl rfl) rfl ?_ | refine pu (loadBox tab rfl rfl rfl rfl rfl) rfl ?_
                refine pu (build tab rfl rfl rfl rfl) rfl ?_
                iterate 2 refine pu (ev tab rfl) rfl ?_
                apply splitJ; (case hj => rfl); (case hl => rfl)
                · skip
                  refine goG rfl rfl ?_
                  refine pu (ev tab rfl) rfl ?_
                  refine goG rfl rfl ?_
                  iterate 3 refine pu (ev tab rfl) rfl ?_
                  refine WO.nil ?_
                  refine qv1 rfl rfl rfl
                · skip
                  refine skipT rfl rfl rfl rfl ?_
                  refine skipT rfl rfl rfl rfl ?_
                  iterate 2 refine pu (ev tab rfl) rfl ?_
                  refine WO.nil ?_
                  refine qv1 rfl rfl rfl
              refine qs ?_
              refine condK rfl (fun h39 => ?_) (fun h39 => ?_)
              · skip
                refine W.seq ?_
                refine W.region ?_
                refine pu (ev tab rfl) rfl ?_
                refine WO.nil ?_
                refine qs ?_
                refine W.ret ?_
                refine qbRet ?_
                refine qsRet ?_
                refine QF.ret0 trivial rfl ?_
                simp only [norm, oneA, nodeErr, kidsOf, zeroV] at *; grind
              · skip
                refine W.seq ?_
                refine W.region ?_
                iterate 2 refine pu (ev tab rfl) rfl ?_
                refine WO.nil ?_
                refine qs ?_
                refine W.condF rfl ?_
                refine W.seq ?_
                apply regionB; (case hb => rfl)
                · skip
                  iterate 2 refine pu (ev tab rfl) rfl ?_
                  refine goG rfl rfl ?_
                  refine pu (ev tab rfl) rfl ?_
                  refine goG rfl rfl ?_
                  first | refine pu (ev tab rfl) rfl ?_ | refine pu (loadRow tab rfl rfl rfl rfl) rfl ?_ | refine pu (loadBox tab rfl rfl rfl rfl rfl) rfl ?_
                  refine goG rfl rfl ?_
                  refine pu (puCall rfl rfl rfl (identifier_fn ..) rfl) rfl ?_
                  refine goG rfl rfl ?_
                  iterate 3 refine pu (ev tab rfl) rfl ?_
                  refine WO.nil ?_
                  refine qv1 rfl rfl rfl
                refine qs ?_
                refine condK rfl (fun h65 => ?_) (fun h65 => ?_)
                · skip
                  refine W.seq ?_
                  refine W.region ?_
                  refine pu (ev tab rfl) rfl ?_
                  refine WO.nil ?_
                  refine qs ?_
                  refine W.ret ?_
                  refine qbRet ?_
                  refine qsRet ?_
                  refine QF.ret0 trivial rfl ?_
                  simp only [norm, oneA, nodeErr, kidsOf, zeroV] at *; grind
                · skip
                  refine W.seq ?_
                  apply regionB; (case hb => rfl)
                  · skip
                    refine pu (ev tab rfl) rfl ?_
                    first | refine pu (ev tab rfl) rfl ?_ | refine pu (loadRow tab rfl rfl rfl rfl) rfl ?_ | refine pu (loadBox tab rfl rfl rfl rfl rfl) rfl ?_
                    iterate 2 refine pu (ev tab rfl) rfl ?_
                    apply splitJ; (case hj => rfl); (case hl => rfl)
                    · skip
                      refine goG rfl rfl ?_
                      refine pu (ev tab rfl) rfl ?_
                      refine goG rfl rfl ?_
                      first | refine pu (ev tab rfl) rfl ?_ | refine pu (loadRow tab rfl rfl rfl rfl) rfl ?_ | refine pu (loadBox tab rfl rfl rfl rfl rfl) rfl ?_
                      refine goG rfl rfl ?_
                      refine pu (puCall rfl rfl rfl (arity_fn ..) rfl) rfl ?_
                      refine goG rfl rfl ?_
                      iterate 3 refine pu (ev tab rfl) rfl ?_
                      refine WO.nil ?_
                      refine qv1 rfl rfl rfl
                    · skip
                      refine skipT rfl rfl rfl rfl ?_
                      refine skipT rfl rfl rfl rfl ?_
                      refine skipT rfl rfl rfl rfl ?_
                      refine skipT rfl rfl rfl rfl ?_
                      iterate 2 refine pu (ev tab rfl) rfl ?_
                      refine WO.nil ?_
                      refine qv1 rfl rfl rfl
                  refine qs ?_
                  refine condK rfl (fun h73 => ?_) (fun h73 => ?_)
                  · skip
                    refine W.seq ?_
                    refine W.region ?_
                    refine pu (ev tab rfl) rfl ?_
                    refine WO.nil ?_
                    refine qs ?_
                    refine W.ret ?_
                    refine qbRet ?_
                    refine qsRet ?_
                    refine QF.ret0 trivial rfl ?_
                    simp only [norm, oneA, nodeErr, kidsOf, zeroV] at *; grind
                  · skip
                    refine W.seq ?_
                    apply regionB; (case hb => rfl)
                    · skip
                      refine pu (ev tab rfl) rfl ?_
                      first | refine pu (ev tab rfl) rfl ?_ | refine pu (loadRow tab rfl rfl rfl rfl) rfl ?_ | refine pu (loadBox tab rfl rfl rfl rfl rfl) rfl ?_
                      iterate 2 refine pu (ev tab rfl) rfl ?_
                      apply splitJ; (case hj => rfl); (case hl => rfl)
                      · skip
                        refine goG rfl rfl ?_
                        refine pu (ev tab rfl) rfl ?_
                        refine goG rfl rfl ?_
                        first | refine pu (ev tab rfl) rfl ?_ | refine pu (loadRow tab rfl rfl rfl rfl) rfl ?_ | refine pu (loadBox tab rfl rfl rfl rfl rfl) rfl ?_
                        refine goG rfl rfl ?_
                        refine pu (puCall rfl rfl rfl (arity_fn ..) rfl) rfl ?_
                        refine goG rfl rfl ?_
                        refine pu (ev tab rfl) rfl ?_
                        refine goG rfl rfl ?_
                        iterate 3 refine pu (ev tab rfl) rfl ?_
                        refine WO.nil ?_
                        refine qv1 rfl rfl rfl
                      · skip
                        refine skipT rfl rfl rfl rfl ?_
                        refine skipT rfl rfl rfl rfl ?_
                        refine skipT rfl rfl rfl rfl ?_
                        refine skipT rfl rfl rfl rfl ?_
                        refine skipT rfl rfl rfl rfl ?_
                        iterate 2 refine pu (ev tab rfl) rfl ?_
                        refine WO.nil ?_
                        refine qv1 rfl rfl rfl
                    refine qs ?_
                    refine condK rfl (fun h83 => ?_) (fun h83 => ?_)
                    · skip
                      refine W.seq ?_
                      refine W.region ?_
                      refine pu (ev tab rfl) rfl ?_
                      refine WO.nil ?_
                      refine qs ?_
                      refine W.ret ?_
                      refine qbRet ?_
                      refine qsRet ?_
                      refine QF.ret0 trivial rfl ?_
                      simp only [norm, oneA, nodeErr, kidsOf, zeroV] at *; grind
                    · skip
                      refine W.skip ?_
                      refine qbN ?_
                      refine qs ?_
                      refine W.seq ?_
                      refine W.region ?_
                      refine pu (ev tab rfl) rfl ?_
                      refine WO.nil ?_
                      refine qs ?_
                      refine W.ret ?_
                      refine QF.ret0 trivial rfl ?_
                      simp only [norm, oneA, nodeErr, kidsOf, zeroV] at *; grind
        · skip
          refine W.seq ?_
          apply regionB; (case hb => rfl)
          · skip
            refine pu (ev tab rfl) rfl ?_
            first | refine pu (ev tab rfl) rfl ?_ | refine pu (loadRow tab rfl rfl rfl rfl) rfl ?_ | refine pu (loadBox tab rfl rfl rfl rfl rfl) rfl ?_
            iterate 2 refine pu (ev tab rfl) rfl ?_
            apply splitJ; (case hj => rfl); (case hl => rfl)
            · skip
              refine skipT rfl rfl rfl rfl ?_
              refine skipT rfl rfl rfl rfl ?_
              refine skipT rfl rfl rfl rfl ?_
              iterate 2 refine pu (ev tab rfl) rfl ?_
              refine WO.nil ?_
              refine qv1 rfl rfl rfl
            · skip
              refine goG rfl rfl ?_
              refine pu (ev tab rfl) rfl ?_
              refine goG rfl rfl ?_
              first | refine pu (ev tab rfl) rfl ?_ | refine pu (loadRow tab rfl rfl rfl rfl) rfl ?_ | refine pu (loadBox tab rfl rfl rfl rfl rfl) rfl ?_
              refine goG rfl rfl ?_
              iterate 3 refine pu (ev tab rfl) rfl ?_
              refine WO.nil ?_
              refine qv1 rfl rfl rfl
          refine qs ?_
          refine condK rfl (fun h30 => ?_) (fun h30 => ?_)
          · skip
            refine W.seq ?_
            refine W.region ?_
            refine pu (ev tab rfl) rfl ?_
            refine WO.nil ?_
            refine qs ?_
            refine W.ret ?_
            refine qbRet ?_
            refine qsRet ?_
            refine QF.ret0 trivial rfl ?_
            simp only [norm, oneA, nodeErr, kidsOf, zeroV] at *; grind
          · skip
            refine W.skip ?_
            refine qbN ?_
            refine qs ?_
            refine W.seq ?_
            refine W.block ?_
            refine W.seq ?_
            refine W.seq ?_
            refine W.region ?_
            refine pu (ev tab rfl) rfl ?_
            first | refine pu (ev tab rfl) rfl ?_ | refine pu (loadRow tab rfl rfl rfl rfl) rfl ?_ | refine pu (loadBox tab rfl rfl rfl rfl rfl) rfl ?_
            iterate 4 refine pu (ev tab rfl) rfl ?_
            refine WO.nil ?_
            refine qs ?_
            refine condK rfl (fun h39 => ?_) (fun h39 => ?_)
            · skip
              refine W.skip ?_
              refine qs ?_
              refine W.condT rfl ?_
              refine W.seq ?_
              refine W.region ?_
              refine pu (ev tab rfl) rfl ?_
              refine WO.nil ?_
              refine qs ?_
              refine W.ret ?_
              refine qbRet ?_
              refine qsRet ?_
              refine QF.ret0 trivial rfl ?_
              simp only [norm, oneA, nodeErr, kidsOf, zeroV] at *; grind
            · skip
              refine W.seq ?_
              apply regionB; (case hb => rfl)
              · skip
                refine pu (ev tab rfl) rfl ?_
                first | refine pu (ev tab rfl) rfl ?_ | refine pu (loadRow tab rfl rfl rfl rfl) rfl ?_ | refine pu (loadBox tab rfl rfl rfl rfl rfl) rfl ?_
                iterate 2 refine pu (ev tab rfl) rfl ?_
                apply splitJ; (case hj => rfl); (case hl => rfl)
                · skip
                  refine goG rfl rfl ?_
                  refine pu (ev tab rfl) rfl ?_
                  refine goG rfl rfl ?_
                  iterate 3 refine pu (ev tab rfl) rfl ?_
                  refine WO.nil ?_
                  refine qv1 rfl rfl rfl
                · skip
                  refine skipT rfl rfl rfl rfl ?_
                  refine skipT rfl rfl rfl rfl ?_
                  iterate 2 refine pu (ev tab rfl) rfl ?_
                  refine WO.nil ?_
                  refine qv1 rfl rfl rfl
              refine qs ?_
              refine condK rfl (fun h39 => ?_) (fun h39 => ?_)
              · skip
                refine W.skip ?_
                refine qs ?_
                refine W.condT rfl ?_
                refine W.seq ?_
                refine W.region ?_
                refine pu (ev tab rfl) rfl ?_
                refine WO.nil ?_
                refine qs ?_
                refine W.ret ?_
                refine qbRet ?_
                refine qsRet ?_
                refine QF.ret0 trivial rfl ?_
                simp only [norm, oneA, nodeErr, kidsOf, zeroV] at *; grind
              · skip
                apply regionB; (case hb => rfl)
                · skip
                  refine pu (ev tab rfl) rfl ?_
                  first | refine pu (ev tab rfl) rfl ?_ | refine pu (loadRow tab rfl rfl rfl rfl) rfl ?_ | refine pu (loadBox tab rfl rfl rfl rfl rfl) rfl ?_
                  refine pu (build tab rfl rfl rfl rfl) rfl ?_
                  iterate 2 refine pu (ev tab rfl) rfl ?_
                  apply splitJ; (case hj => rfl); (case hl => rfl)
                  · skip
                    refine goG rfl rfl ?_
                    refine pu (ev tab rfl) rfl ?_
                    refine goG rfl rfl ?_
                    iterate 3 refine pu (ev tab rfl) rfl ?_
                    refine WO.nil ?_
                    refine qv1 rfl rfl rfl
                  · skip
                    refine skipT rfl rfl rfl rfl ?_
                    refine skipT rfl rfl rfl rfl ?_
                    iterate 2 refine pu (ev tab rfl) rfl ?_
                    refine WO.nil ?_
                    refine qv1 rfl rfl rfl
                refine qs ?_
                refine condK rfl (fun h39 => ?_) (fun h39 => ?_)
                · skip
                  refine W.seq ?_
                  refine W.region ?_
                  refine pu (ev tab rfl) rfl ?_
                  refine WO.nil ?_
                  refine qs ?_
                  refine W.ret ?_
                  refine qbRet ?_
                  refine qsRet ?_
                  refine QF.ret0 trivial rfl ?_
                  simp only [norm, oneA, nodeErr, kidsOf, zeroV] at *; grind
                · skip
                  refine W.seq ?_
                  refine W.region ?_
                  iterate 2 refine pu (ev tab rfl) rfl ?_
                  refine WO.nil ?_
                  refine qs ?_
                  refine W.condF rfl ?_
                  refine W.seq ?_
                  apply regionB; (case hb => rfl)
                  · skip
                    iterate 2 refine pu (ev tab rfl) rfl ?_
                    refine skipT rfl rfl rfl rfl ?_
                    refine skipT rfl rfl rfl rfl ?_
                    refine skipT rfl rfl rfl rfl ?_
                    refine skipT rfl rfl rfl rfl ?_
                    iterate 2 refine pu (ev tab rfl) rfl ?_
                    refine WO.nil ?_
                    refine qv1 rfl rfl rfl
                  refine qs ?_
                  refine condK rfl (fun h65 => ?_) (fun h65 => ?_)
                  · skip
                    refine W.seq ?_
                    refine W.region ?_
                    refine pu (ev tab rfl) rfl ?_
                    refine WO.nil ?_
                    refine qs ?_
                    refine W.ret ?_
                    refine qbRet ?_
                    refine qsRet ?_
                    refine QF.ret0 trivial rfl ?_
                    simp only [norm, oneA, nodeErr, kidsOf, zeroV] at *; grind
                  · skip
                    refine W.seq ?_
                    apply regionB; (case hb => rfl)
                    · skip
                      refine pu (ev tab rfl) rfl ?_
                      first | refine pu (ev tab rfl) rfl ?_ | refine pu (loadRow tab rfl rfl rfl rfl) rfl ?_ | refine pu (loadBox tab rfl rfl rfl rfl rfl) rfl ?_
                      iterate 2 refine pu (ev tab rfl) rfl ?_
                      apply splitJ; (case hj => rfl); (case hl => rfl)
                      · skip
                        refine goG rfl rfl ?_
                        refine pu (ev tab rfl) rfl ?_
                        refine goG rfl rfl ?_
                        first | refine pu (ev tab rfl) rfl ?_ | refine pu (loadRow tab rfl rfl rfl rfl) rfl ?_ | refine pu (loadBox tab rfl rfl rfl rfl rfl) rfl ?_
                        refine goG rfl rfl ?_
                        refine pu (puCall rfl rfl rfl (arity_fn ..) rfl) rfl ?_
                        refine goG rfl rfl ?_
                        iterate 3 refine pu (ev tab rfl) rfl ?_
                        refine WO.nil ?_
                        refine qv1 rfl rfl rfl
                      · skip
                        refine skipT rfl rfl rfl rfl ?_
                        refine skipT rfl rfl rfl rfl ?_
                        refine skipT rfl rfl rfl rfl ?_
                        refine skipT rfl rfl rfl rfl ?_
                        iterate 2 refine pu (ev tab rfl) rfl ?_
                        refine WO.nil ?_
                        refine qv1 rfl rfl rfl
                    refine qs ?_
                    refine condK rfl (fun h73 => ?_) (fun h73 => ?_)
                    · skip
                      refine W.seq ?_
                      refine W.region ?_
                      refine pu (ev tab rfl) rfl ?_
                      refine WO.nil ?_
                      refine qs ?_
                      refine W.ret ?_
                      refine qbRet ?_
                      refine qsRet ?_
                      refine QF.ret0 trivial rfl ?_
                      simp only [norm, oneA, nodeErr, kidsOf, zeroV] at *; grind
                    · skip
                      refine W.seq ?_
                      apply regionB; (case hb => rfl)
                      · skip
                        refine pu (ev tab rfl) rfl ?_
                        first | refine pu (ev tab rfl) rfl ?_ | refine pu (loadRow tab rfl rfl rfl rfl) rfl ?_ | refine pu (loadBox tab rfl rfl rfl rfl rfl) rfl ?_
                        iterate 2 refine pu (ev tab rfl) rfl ?_
                        apply splitJ; (case hj => rfl); (case hl => rfl)
                        · skip
                          refine goG rfl rfl ?_
                          refine pu (ev tab rfl) rfl ?_
                          refine goG rfl rfl ?_
                          first | refine pu (ev tab rfl) rfl ?_ | refine pu (loadRow tab rfl rfl rfl rfl) rfl ?_ | refine pu (loadBox tab rfl rfl rfl rfl rfl) rfl ?_
                          refine goG rfl rfl ?_
                          refine pu (puCall rfl rfl rfl (arity_fn ..) rfl) rfl ?_
                          refine goG rfl rfl ?_
                          refine pu (ev tab rfl) rfl ?_
                          refine goG rfl rfl ?_
                          iterate 3 refine pu (ev tab rfl) rfl ?_
                          refine WO.nil ?_
                          refine qv1 rfl rfl rfl
                        · skip
                          refine skipT rfl rfl rfl rfl ?_
                          refine skipT rfl rfl rfl rfl ?_
                          refine skipT rfl rfl rfl rfl ?_
                          refine skipT rfl rfl rfl rfl ?_
                          refine skipT rfl rfl rfl rfl ?_
                          iterate 2 refine pu (ev tab rfl) rfl ?_
                          refine WO.nil ?_
                          refine qv1 rfl rfl rfl
                      refine qs ?_
                      refine condK rfl (fun h83 => ?_) (fun h83 => ?_)
                      · skip
                        refine W.seq ?_
                        refine W.region ?_
                        refine pu (ev tab rfl) rfl ?_
                        refine WO.nil ?_
                        refine qs ?_
                        refine W.ret ?_
                        refine qbRet ?_
                        refine qsRet ?_
                        refine QF.ret0 trivial rfl ?_
                        simp only [norm, oneA, nodeErr, kidsOf, zeroV] at *; grind
                      · skip
                        refine W.skip ?_
                        refine qbN ?_
                        refine qs ?_
                        refine W.seq ?_
                        refine W.region ?_
                        refine pu (ev tab rfl) rfl ?_
                        refine WO.nil ?_
                        refine qs ?_
                        refine W.ret ?_
                        refine QF.ret0 trivial rfl ?_
                        simp only [norm, oneA, nodeErr, kidsOf, zeroV] at *; grind
theorem nodes_fn : ∀ (e : Ex), Does Tryz.prog 79 [.ag e.c] (.d (.v (.int .i64 (nodesErr e)))) 0 := by
  refine Ex.ind fun e ih => ?_
  have hq := nodesErr_eq e
  refine Does.of_W (n := 25) (ts := [2]) Tryz.func79 (by kernel_rfl) rfl Tryz.ntmps79 Tryz.results79 rfl rfl fun C hC => ?_
  refine W.seq ?_
  refine W.region ?_
  refine boxR rfl rfl rfl ?_
  refine pu (ev tab rfl) rfl ?_
  refine WO.nil ?_
  refine qs ?_
  refine W.seq ?_
  refine W.seq ?_
  refine W.region ?_
  first | refine pu (ev tab rfl) rfl ?_ | refine pu (loadRow tab rfl rfl rfl rfl) rfl ?_ | refine pu (loadBox tab rfl rfl rfl rfl rfl) rfl ?_
  refine pu (puCall rfl rfl rfl (node_fn ..) rfl) rfl ?_
  refine pu (ev tab rfl) rfl ?_
  refine WO.nil ?_
  refine qs ?_
  refine W.seq ?_
  refine W.region ?_
  iterate 2 refine pu (ev tab rfl) rfl ?_
  refine WO.nil ?_
  refine qs ?_
  refine condK rfl (fun h10 => ?_) (fun h10 => ?_)
  · skip
    rw [if_pos (by simpa using h10)] at hq
    refine W.seq ?_
    refine W.region ?_
    iterate 2 refine pu (ev tab rfl) rfl ?_
    refine WO.nil ?_
    refine qs ?_
    refine W.ret ?_
    refine qsRet ?_
    refine QF.ret0 trivial rfl ?_
    rw [hq]; rfl
  · skip
    rw [if_neg (by simpa using h10)] at hq
    refine W.skip ?_
    refine qs ?_
    refine W.seq ?_
    refine W.seq ?_
    refine W.region ?_
    refine pu (ev tab rfl) rfl ?_
    first | refine pu (ev tab rfl) rfl ?_ | refine pu (loadRow tab rfl rfl rfl rfl) rfl ?_ | refine pu (loadBox tab rfl rfl rfl rfl rfl) rfl ?_
    iterate 2 refine pu (ev tab rfl) rfl ?_
    refine WO.nil ?_
    refine qs ?_
    refine W.block ?_
    refine W.len (t := 13) rfl rfl (fun hlen => ?_)
    try simp only [List.length_map, Ex.kc_len] at hlen
    refine W.loopR (ι := {x : Nat // match x with | k => k ≤ e.kids.length ∧ nodesErrL (e.kids.drop k) = nodesErrL e.kids})
      (fun x => match x.1 with | k => [(15, .d (.v (.int .i64 ((k : Nat) : Int))))]) [(13, _), (14, _)]
      (fun x => match x.1 with | k => []) [] [] 0 (fun x => match x.1 with | k => e.kids.length - k)
      [] ⟨0, ?_⟩ rfl ?_ ⟨rfl, rfl, rfl, rfl, trivial⟩ ?_ trivial rfl ?_
    · first | exact ⟨Nat.zero_le _, rfl⟩ | exact trivial | simp
    · repeat' first | exact trivial | refine ⟨rfl, ?_⟩ | refine ⟨step_nat (by assumption) (by assumption), ?_⟩
    · repeat' first | exact trivial | refine ⟨rfl, ?_⟩ | refine ⟨step_nat (by assumption) (by assumption), ?_⟩
    rintro ⟨k, hk, hI⟩
    show W _ _ _ _ _ ⟨[(15, .d (.v (.int .i64 ((k : Nat) : Int)))), (13, _), (14, _)], [], [], 0⟩
    refine W.seq ?_
    refine W.region ?_
    refine pu (ev tab rfl) rfl ?_
    refine WO.nil ?_
    refine qs ?_
    refine W.seq ?_
    refine eachR (l := e.kids) (k := k) rfl (by simp [Ex.kc_len, bytes_len]) hk (fun x hx hd hlt => ?_) (fun he hd => ?_)
    · skip
      rw [hd] at hI
      simp only [nodesErrL] at hI
      refine W.skip ?_
      refine qs ?_
      refine W.seq ?_
      refine W.block ?_
      refine W.seq ?_
      refine W.region ?_
      refine pu (indexAddr tab rfl rfl rfl rfl rfl rfl (Int.natCast_nonneg _) (Ex.kc_idx hx) rfl) rfl ?_
      first | refine pu (ev tab rfl) rfl ?_ | refine pu (loadRow tab rfl rfl rfl rfl) rfl ?_ | refine pu (loadBox tab rfl rfl rfl rfl rfl) rfl ?_
      refine allocR tab rfl rfl rfl ?_
      refine storeR tab rfl rfl rfl rfl rfl rfl rfl rfl ?_
      refine WO.nil ?_
      refine qs ?_
      refine W.seq ?_
      refine W.region ?_
      first | refine pu (ev tab rfl) rfl ?_ | refine pu (loadRow tab rfl rfl rfl rfl) rfl ?_ | refine pu (loadBox tab rfl rfl rfl rfl rfl) rfl ?_
      refine pu (puCall rfl rfl rfl (ih x (List.mem_of_getElem? hx)) rfl) rfl ?_
      refine pu (ev tab rfl) rfl ?_
      refine WO.nil ?_
      refine qs ?_
      refine W.seq ?_
      refine W.region ?_
      iterate 2 refine pu (ev tab rfl) rfl ?_
      refine WO.nil ?_
      refine qs ?_
      refine condK rfl (fun h22 => ?_) (fun h22 => ?_)
      · skip
        rw [if_pos (by simpa using h22)] at hI
        refine W.seq ?_
        refine W.region ?_
        iterate 2 refine pu (ev tab rfl) rfl ?_
        refine WO.nil ?_
        refine qs ?_
        refine W.ret ?_
        refine qbRet ?_
        refine qsRet ?_
        refine qlRet ?_
        refine qbRet ?_
        refine qsRet ?_
        refine QF.ret0 trivial rfl ?_
        rw [hq, ← hI]; rfl
      · skip
        rw [if_neg (by simpa using h22)] at hI
        refine W.skip ?_
        refine qbN ?_
        refine qs ?_
        refine W.region ?_
        iterate 2 refine pu (ev tab rfl) rfl ?_
        refine WO.nil ?_
        refine W.endR [] ⟨k + 1, ?_⟩ ?_ rfl ?_ ⟨rfl, rfl, rfl, rfl, trivial⟩ ?_ trivial rfl
        · exact ⟨hlt, hI⟩
        · dsimp only; omega
        · repeat' first | exact trivial | refine ⟨rfl, ?_⟩ | refine ⟨step_nat (by assumption) (by assumption), ?_⟩
        · repeat' first | exact trivial | refine ⟨rfl, ?_⟩ | refine ⟨step_nat (by assumption) (by assumption), ?_⟩
    · skip
      rw [hd] at hI
      simp only [nodesErrL] at hI
      refine W.exit ?_
      refine qsExit ?_
      refine qlExit ?_
      refine qbExit ?_
      refine qs ?_
      refine W.seq ?_
      refine W.region ?_
      refine pu (ev tab rfl) rfl ?_
      refine WO.nil ?_
      refine qs ?_
      refine W.ret ?_
      refine QF.ret0 trivial rfl ?_
      rw [hq, ← hI]; rfl
theorem rnodes_fn : ∀ (e : Ex), Does Tryz.prog 92 [.ag e.c] (.d (.v (.int .i64 (nodesErr e)))) 0 := by
  refine Ex.ind fun e ih => ?_
  have hq := nodesErr_eq e
  refine Does.of_W (n := 25) (ts := [2]) Tryz.func92 (by kernel_rfl) rfl Tryz.ntmps92 Tryz.results92 rfl rfl fun C hC => ?_
  refine W.seq ?_
  refine W.region ?_
  refine boxR rfl rfl rfl ?_
  refine pu (ev tab rfl) rfl ?_
  refine WO.nil ?_
  refine qs ?_
  refine W.seq ?_
  refine W.region ?_
  first | refine pu (ev tab rfl) rfl ?_ | refine pu (loadRow tab rfl rfl rfl rfl) rfl ?_ | refine pu (loadBox tab rfl rfl rfl rfl rfl) rfl ?_
  refine pu (puCall rfl rfl rfl (rnode_fn ..) rfl) rfl ?_
  refine pu (ev tab rfl) rfl ?_
  refine WO.nil ?_
  refine qs ?_
  refine W.seq ?_
  refine W.seq ?_
  refine W.region ?_
  refine pu (ev tab rfl) rfl ?_
  refine WO.nil ?_
  refine qs ?_
  refine W.block ?_
  refine lenBox (g := 0) (j := 5) rfl rfl (fun hlen => ?_)
  rw [Ex.kc_len] at hlen
  refine W.loopR (ι := {x : Nat × Int // match x with | (k, x') => k ≤ e.kids.length ∧ nodesErr e = (if x' ≠ 0 then x' else nodesErrL (e.kids.drop k))})
    (fun x => match x.1 with | (k, x') => [(1, .ptr 0 0), (3, .d (.v (.int .i64 (x')))), (4, .d (.v (.int .i64 ((k : Nat) : Int))))]) []
    (fun x => match x.1 with | (k, x') => []) [(0, _)] [] 1 (fun x => match x.1 with | (k, x') => e.kids.length - k)
    [0] ⟨(0, nodeErr e), ?_⟩ rfl ?_ trivial ?_ ⟨rfl, rfl, trivial⟩ rfl ?_
  · exact ⟨Nat.zero_le _, hq⟩
  · repeat' first | exact trivial | refine ⟨rfl, ?_⟩ | refine ⟨step_nat (by assumption) (by assumption), ?_⟩
  · repeat' first | exact trivial | refine ⟨rfl, ?_⟩ | refine ⟨step_nat (by assumption) (by assumption), ?_⟩
  rintro ⟨⟨k, x'⟩, hk, hI⟩
  show W _ _ _ _ _ ⟨[(1, .ptr 0 0), (3, .d (.v (.int .i64 (x')))), (4, .d (.v (.int .i64 ((k : Nat) : Int))))], [(0, _)], [], 1⟩
  refine W.seq ?_
  refine W.seq ?_
  apply regionB; (case hb => rfl)
  · skip
    iterate 2 refine pu (ev tab rfl) rfl ?_
    first | refine pu (ev tab rfl) rfl ?_ | refine pu (loadRow tab rfl rfl rfl rfl) rfl ?_ | refine pu (loadBox tab rfl rfl rfl rfl rfl) rfl ?_
    iterate 3 refine pu (ev tab rfl) rfl ?_
    apply splitJ; (case hj => rfl); (case hl => rfl)
    · skip
      refine goG rfl rfl ?_
      refine pu (ev tab rfl) rfl ?_
      refine goG rfl rfl ?_
      iterate 2 refine pu (ev tab rfl) rfl ?_
      refine WO.nil ?_
      refine qv1 rfl rfl rfl
    · skip
      refine skipT rfl rfl rfl rfl ?_
      refine skipT rfl rfl rfl rfl ?_
      refine pu (ev tab rfl) rfl ?_
      refine WO.nil ?_
      refine qv1 rfl rfl rfl
  refine qs ?_
  refine condK rfl (fun h15 => ?_) (fun h15 => ?_)
  · skip
    have h15 : k < e.kids.length ∧ x' = 0 := by simpa [Ex.kc_len] using h15
    have hlt := h15.1
    obtain ⟨x, hx, hd⟩ := exAt hlt
    rw [hd, h15.2] at hI
    simp only [nodesErrL, ne_eq, not_true_eq_false, if_false] at hI
    refine W.skip ?_
    refine qs ?_
    refine W.seq ?_
    refine W.block ?_
    refine W.region ?_
    refine pu (ev tab rfl) rfl ?_
    first | refine pu (ev tab rfl) rfl ?_ | refine pu (loadRow tab rfl rfl rfl rfl) rfl ?_ | refine pu (loadBox tab rfl rfl rfl rfl rfl) rfl ?_
    refine pu (ev tab rfl) rfl ?_
    refine pu (indexAddr tab rfl rfl rfl rfl rfl rfl (Int.natCast_nonneg _) (Ex.kc_idx hx) rfl) rfl ?_
    first | refine pu (ev tab rfl) rfl ?_ | refine pu (loadRow tab rfl rfl rfl rfl) rfl ?_ | refine pu (loadBox tab rfl rfl rfl rfl rfl) rfl ?_
    refine pu (puCall rfl rfl rfl (ih x (List.mem_of_getElem? hx)) rfl) rfl ?_
    refine pu (ev tab rfl) rfl ?_
    refine WO.nil ?_
    refine qbN ?_
    refine qs ?_
    refine W.region ?_
    iterate 3 refine pu (ev tab rfl) rfl ?_
    refine WO.nil ?_
    refine W.endR [0] ⟨(k + 1, nodesErr x), ?_⟩ ?_ rfl ?_ trivial ?_ ⟨rfl, rfl, trivial⟩ rfl
    · exact ⟨hlt, hI⟩
    · dsimp only; omega
    · repeat' first | exact trivial | refine ⟨rfl, ?_⟩ | refine ⟨step_nat (by assumption) (by assumption), ?_⟩
    · repeat' first | exact trivial | refine ⟨rfl, ?_⟩ | refine ⟨step_nat (by assumption) (by assumption), ?_⟩
  · skip
    have h15 : k < e.kids.length → x' ≠ 0 := by simpa [Ex.kc_len] using h15
    have hfin : nodesErr e = x' := by
      rw [hI]
      rcases Nat.lt_or_ge k e.kids.length with h | h
      · rw [if_pos (h15 h)]
      · rw [dropEnd h]; simp only [nodesErrL]; split <;> simp_all
    refine W.exit ?_
    refine qsExit ?_
    refine qlExit ?_
    refine qbExit ?_
    refine qs ?_
    refine W.seq ?_
    refine W.region ?_
    iterate 2 refine pu (ev tab rfl) rfl ?_
    refine WO.nil ?_
    refine qs ?_
    refine W.ret ?_
    refine QF.ret0 trivial rfl ?_
    rw [hfin]; rfl
theorem expr_fn (e : Ex) : Does Tryz.prog 42 [.ag e.c] (.d (.v (.int .i64 (exprErr e)))) 0 := by
  have hm := msr_spec e 0 (by omega) (by omega)
  refine Does.of_W (n := 18) (ts := [2]) Tryz.func42 (by kernel_rfl) rfl Tryz.ntmps42 Tryz.results42 rfl rfl fun C hC => ?_
  refine W.seq ?_
  refine W.region ?_
  refine boxR rfl rfl rfl ?_
  refine pu (ev tab rfl) rfl ?_
  refine WO.nil ?_
  refine qs ?_
  refine W.seq ?_
  refine W.region ?_
  first | refine pu (ev tab rfl) rfl ?_ | refine pu (loadRow tab rfl rfl rfl rfl) rfl ?_ | refine pu (loadBox tab rfl rfl rfl rfl rfl) rfl ?_
  refine pu (puCall rfl rfl rfl (measure_fn e 0 (by omega) (by omega)) rfl) rfl ?_
  iterate 5 refine pu (ev tab rfl) rfl ?_
  refine WO.nil ?_
  refine qs ?_
  refine W.seq ?_
  refine W.block ?_
  refine W.seq ?_
  refine W.region ?_
  iterate 3 refine pu (ev tab rfl) rfl ?_
  refine WO.nil ?_
  refine qs ?_
  refine condK rfl (fun h10 => ?_) (fun h10 => ?_)
  · skip
    refine W.seq ?_
    refine W.region ?_
    refine pu (ev tab rfl) rfl ?_
    refine WO.nil ?_
    refine qs ?_
    refine W.ret ?_
    refine qbRet ?_
    refine qsRet ?_
    refine QF.ret0 trivial rfl ?_
    simp only [norm, oneA, exprErr] at *; grind
  · skip
    refine W.seq ?_
    refine W.region ?_
    iterate 3 refine pu (ev tab rfl) rfl ?_
    refine WO.nil ?_
    refine qs ?_
    refine condK rfl (fun h13 => ?_) (fun h13 => ?_)
    · skip
      refine W.seq ?_
      refine W.region ?_
      refine pu (ev tab rfl) rfl ?_
      refine WO.nil ?_
      refine qs ?_
      refine W.ret ?_
      refine qbRet ?_
      refine qsRet ?_
      refine QF.ret0 trivial rfl ?_
      simp only [norm, oneA, exprErr] at *; grind
    · skip
      refine W.skip ?_
      refine qbN ?_
      refine qs ?_
      refine W.seq ?_
      refine W.region ?_
      first | refine pu (ev tab rfl) rfl ?_ | refine pu (loadRow tab rfl rfl rfl rfl) rfl ?_ | refine pu (loadBox tab rfl rfl rfl rfl rfl) rfl ?_
      refine pu (puCall rfl rfl rfl (nodes_fn ..) rfl) rfl ?_
      refine pu (ev tab rfl) rfl ?_
      refine WO.nil ?_
      refine qs ?_
      refine W.ret ?_
      refine QF.ret0 trivial rfl ?_
      simp only [norm, oneA, exprErr] at *; grind
theorem rexpr_fn (e : Ex) : Does Tryz.prog 63 [.ag e.c] (.d (.v (.int .i64 (exprErr e)))) 0 := by
  have hm := count_spec e 200 (by omega)
  refine Does.of_W (n := 11) (ts := [2]) Tryz.func63 (by kernel_rfl) rfl Tryz.ntmps63 Tryz.results63 rfl rfl fun C hC => ?_
  refine W.seq ?_
  refine W.region ?_
  refine boxR rfl rfl rfl ?_
  refine pu (ev tab rfl) rfl ?_
  refine WO.nil ?_
  refine qs ?_
  refine W.seq ?_
  refine W.seq ?_
  refine W.region ?_
  first | refine pu (ev tab rfl) rfl ?_ | refine pu (loadRow tab rfl rfl rfl rfl) rfl ?_ | refine pu (loadBox tab rfl rfl rfl rfl rfl) rfl ?_
  refine pu (puCall rfl rfl rfl (count_fn e 200 (by omega) (by omega)) rfl) rfl ?_
  refine pu (ev tab rfl) rfl ?_
  refine WO.nil ?_
  refine qs ?_
  refine condK rfl (fun h5 => ?_) (fun h5 => ?_)
  · skip
    refine W.seq ?_
    refine W.region ?_
    refine pu (ev tab rfl) rfl ?_
    refine WO.nil ?_
    refine qs ?_
    refine W.ret ?_
    refine qsRet ?_
    refine QF.ret0 trivial rfl ?_
    simp only [norm, oneA, exprErr] at *; grind
  · skip
    have h5 : count e 200 ≤ 200 := by simpa using h5
    have hc : cnt e ≤ 200 := by omega
    refine W.skip ?_
    refine qs ?_
    refine W.seq ?_
    refine W.seq ?_
    refine W.region ?_
    first | refine pu (ev tab rfl) rfl ?_ | refine pu (loadRow tab rfl rfl rfl rfl) rfl ?_ | refine pu (loadBox tab rfl rfl rfl rfl rfl) rfl ?_
    refine pu (puCall rfl rfl rfl (levels_fn e hc) rfl) rfl ?_
    refine pu (ev tab rfl) rfl ?_
    refine WO.nil ?_
    refine qs ?_
    refine condK rfl (fun h8 => ?_) (fun h8 => ?_)
    · skip
      refine W.seq ?_
      refine W.region ?_
      refine pu (ev tab rfl) rfl ?_
      refine WO.nil ?_
      refine qs ?_
      refine W.ret ?_
      refine qsRet ?_
      refine QF.ret0 trivial rfl ?_
      simp only [norm, oneA, exprErr] at *; grind
    · skip
      refine W.skip ?_
      refine qs ?_
      refine W.seq ?_
      refine W.region ?_
      first | refine pu (ev tab rfl) rfl ?_ | refine pu (loadRow tab rfl rfl rfl rfl) rfl ?_ | refine pu (loadBox tab rfl rfl rfl rfl rfl) rfl ?_
      refine pu (puCall rfl rfl rfl (rnodes_fn ..) rfl) rfl ?_
      refine pu (ev tab rfl) rfl ?_
      refine WO.nil ?_
      refine qs ?_
      refine W.ret ?_
      refine QF.ret0 trivial rfl ?_
      simp only [norm, oneA, exprErr] at *; grind
end Go.Proofs.YtmhjgeneogknpaaGreat
namespace Go.Proofs.YtmhjgeneogknpaaGreat
open Go.Ab Go.Tb
set_option maxRecDepth 10000
attribute [local irreducible] W WO Pu QS QB QL QF QV QV1 CH QE
theorem rfind_fn (cols : List Col) (name : ByteArray) : Does Tryz.prog 33 [.d (.sl (cols.map Col.c)), .d (.v (.string name))] (.d (.v (.int .i64 (idx (cols.findIdx? fun x => decide (x.name = name)))))) 0 := by
  refine Does.of_W (n := 20) (ts := [4]) Tryz.func33 (by kernel_rfl) rfl Tryz.ntmps33 Tryz.results33 rfl rfl fun C hC => ?_
  refine W.seq ?_
  refine W.region ?_
  refine pu (ev tab rfl) rfl ?_
  refine WO.nil ?_
  refine qs ?_
  refine W.seq ?_
  refine W.seq ?_
  refine W.region ?_
  refine pu (ev tab rfl) rfl ?_
  refine WO.nil ?_
  refine qs ?_
  refine W.block ?_
  refine W.len (t := 0) rfl rfl (fun hlen => ?_)
  try simp only [List.length_map, Ex.kc_len] at hlen
  refine W.loopR (ι := {x : Nat // match x with | k => k ≤ cols.length ∧ noneBefore (fun x => decide (x.name = name)) cols k})
    (fun x => match x.1 with | k => [(5, .d (.v (.int .i64 ((k : Nat) : Int))))]) [(0, _), (1, _)]
    (fun x => match x.1 with | k => []) [] [] 0 (fun x => match x.1 with | k => cols.length - k)
    [] ⟨0, ?_⟩ rfl ?_ ⟨rfl, rfl, rfl, rfl, trivial⟩ ?_ trivial rfl ?_
  · exact ⟨Nat.zero_le _, noneBefore.zero⟩
  · repeat' first | exact trivial | refine ⟨rfl, ?_⟩ | refine ⟨step_nat (by assumption) (by assumption), ?_⟩
  · repeat' first | exact trivial | refine ⟨rfl, ?_⟩ | refine ⟨step_nat (by assumption) (by assumption), ?_⟩
  rintro ⟨k, hk, hI⟩
  show W _ _ _ _ _ ⟨[(5, .d (.v (.int .i64 ((k : Nat) : Int)))), (0, _), (1, _)], [], [], 0⟩
  refine W.seq ?_
  refine W.seq ?_
  refine W.region ?_
  iterate 4 refine pu (ev tab rfl) rfl ?_
  refine WO.nil ?_
  refine qs ?_
  refine eachR (l := cols) (k := k) rfl (by simp [Ex.kc_len, bytes_len]) hk (fun x hx hd hlt => ?_) (fun he hd => ?_)
  · skip
    refine W.skip ?_
    refine qs ?_
    refine W.seq ?_
    refine W.block ?_
    refine W.seq ?_
    refine W.region ?_
    iterate 2 refine pu (ev tab rfl) rfl ?_
    refine pu (indexAddr tab rfl rfl rfl rfl rfl rfl (Int.natCast_nonneg _) (idx_map (by assumption)) rfl) rfl ?_
    refine pu (ev tab rfl) rfl ?_
    first | refine pu (ev tab rfl) rfl ?_ | refine pu (loadRow tab rfl rfl rfl rfl) rfl ?_ | refine pu (loadBox tab rfl rfl rfl rfl rfl) rfl ?_
    iterate 2 refine pu (ev tab rfl) rfl ?_
    refine WO.nil ?_
    refine qs ?_
    refine condK rfl (fun h18 => ?_) (fun h18 => ?_)
    · skip
      refine W.seq ?_
      refine W.region ?_
      iterate 2 refine pu (ev tab rfl) rfl ?_
      refine WO.nil ?_
      refine qs ?_
      refine W.ret ?_
      refine qbRet ?_
      refine qsRet ?_
      refine qlRet ?_
      refine qbRet ?_
      refine qsRet ?_
      refine QF.ret0 trivial rfl ?_
      simp only [norm, oneA]; rw [hI.found hx h18]; rfl
    · skip
      refine W.skip ?_
      refine qbN ?_
      refine qs ?_
      refine W.region ?_
      iterate 3 refine pu (ev tab rfl) rfl ?_
      refine WO.nil ?_
      refine W.endR [] ⟨k + 1, ?_⟩ ?_ rfl ?_ ⟨rfl, rfl, rfl, rfl, trivial⟩ ?_ trivial rfl
      · exact ⟨hlt, hI.step hx h18⟩
      · dsimp only; omega
      · repeat' first | exact trivial | refine ⟨rfl, ?_⟩ | refine ⟨step_nat (by assumption) (by assumption), ?_⟩
      · repeat' first | exact trivial | refine ⟨rfl, ?_⟩ | refine ⟨step_nat (by assumption) (by assumption), ?_⟩
  · skip
    refine W.exit ?_
    refine qsExit ?_
    refine qlExit ?_
    refine qbExit ?_
    refine qs ?_
    refine W.seq ?_
    refine W.region ?_
    refine pu (ev tab rfl) rfl ?_
    refine WO.nil ?_
    refine qs ?_
    refine W.ret ?_
    refine QF.ret0 trivial rfl ?_
    simp only [norm, oneA]; rw [hI.end_ he]; rfl
theorem call_fn (s : ByteArray) (ks : List Int) (h : (ks.length : Int) = arity s) (h0 : arity s ≠ 0) : Does Tryz.prog 52 [.d (.v (.string s)), .d (.sl (ks.map ic))]
    (.tup [.d (.v (.int .i64 (whenT (callT s (ks.getD 0 0) (ks.getD 1 0)).2 (callT s (ks.getD 0 0) (ks.getD 1 0)).1).1)), .d (.v (.int .i64 (whenT (callT s (ks.getD 0 0) (ks.getD 1 0)).2 (callT s (ks.getD 0 0) (ks.getD 1 0)).1).2))]) 0 := by
  refine Does.of_W (n := 45) (ts := [4, 5]) Tryz.func52 (by kernel_rfl) rfl Tryz.ntmps52 Tryz.results52 rfl rfl fun C hC => ?_
  refine W.seq ?_
  refine W.region ?_
  iterate 2 refine pu (ev tab rfl) rfl ?_
  refine WO.nil ?_
  refine qs ?_
  refine W.seq ?_
  refine W.seq ?_
  refine W.region ?_
  refine pu (ev tab rfl) rfl ?_
  refine WO.nil ?_
  refine qs ?_
  refine W.block ?_
  refine W.seq ?_
  refine W.seq ?_
  refine W.region ?_
  iterate 2 refine pu (ev tab rfl) rfl ?_
  refine WO.nil ?_
  refine qs ?_
  refine condK rfl (fun h7 => ?_) (fun h7 => ?_)
  · skip
    have hs : s = wMin ∨ s = wMax := by first | exact .inl (of_decide_eq_true h7) | exact .inr (of_decide_eq_true h7)
    have hc := callT_min hs
    have ha : arity s = 2 := by rcases hs with rfl | rfl <;> decide
    obtain ⟨a, b, rfl⟩ := len2 (l := ks) (by omega)
    refine W.skip ?_
    refine qs ?_
    refine W.condT rfl ?_
    refine W.seq ?_
    refine W.regionD tab (by kernel_rfl) ?_
    refine chPu (ev tab rfl) rfl ?_
    refine chPu (puCall rfl rfl rfl (all_fn ..) rfl) rfl ?_
    refine chPu (ev tab rfl) rfl ?_
    refine chSplitG rfl rfl (fun _ => ?_) (fun _ => ?_)
    · skip
      refine chSkip rfl rfl rfl rfl ?_
      refine chSkip rfl rfl rfl rfl ?_
      refine chPu (ev tab rfl) rfl ?_
      refine chPu (ev tab rfl) rfl ?_
      refine chPu (indexAddr tab rfl rfl rfl rfl rfl rfl (Int.le_refl _) rfl rfl) rfl ?_
      first | refine chPu (ev tab rfl) rfl ?_ | refine chPu (loadRow tab rfl rfl rfl rfl) rfl ?_ | refine chPu (loadBox tab rfl rfl rfl rfl rfl) rfl ?_
      refine chPu (ev tab rfl) rfl ?_
      refine chPu (indexAddr tab rfl rfl rfl rfl rfl rfl (by decide) rfl rfl) rfl ?_
      first | refine chPu (ev tab rfl) rfl ?_ | refine chPu (loadRow tab rfl rfl rfl rfl) rfl ?_ | refine chPu (loadBox tab rfl rfl rfl rfl rfl) rfl ?_
      refine chPu (ev tab rfl) rfl ?_
      refine chPu (puCall rfl rfl rfl (when_fn ..) rfl) rfl ?_
      refine chPu (ev tab rfl) rfl ?_
      refine chPu (ev tab rfl) rfl ?_
      refine chPu (ev tab rfl) rfl ?_
      refine chPu (ev tab rfl) rfl ?_
      refine CH.nil ?_
      refine qs ?_
      refine W.ret ?_
      refine qbRet ?_
      refine qsRet ?_
      refine QF.ret0 trivial rfl ?_
      simp only [norm, normL, oneA, hc, whenT, both] at *; simp_all <;> grind
    · skip
      refine chGo rfl rfl (ev tab rfl) rfl ?_
      refine chGo rfl rfl (puCall rfl rfl rfl (all_fn ..) rfl) rfl ?_
      refine chPu (ev tab rfl) rfl ?_
      refine chPu (ev tab rfl) rfl ?_
      refine chPu (indexAddr tab rfl rfl rfl rfl rfl rfl (Int.le_refl _) rfl rfl) rfl ?_
      first | refine chPu (ev tab rfl) rfl ?_ | refine chPu (loadRow tab rfl rfl rfl rfl) rfl ?_ | refine chPu (loadBox tab rfl rfl rfl rfl rfl) rfl ?_
      refine chPu (ev tab rfl) rfl ?_
      refine chPu (indexAddr tab rfl rfl rfl rfl rfl rfl (by decide) rfl rfl) rfl ?_
      first | refine chPu (ev tab rfl) rfl ?_ | refine chPu (loadRow tab rfl rfl rfl rfl) rfl ?_ | refine chPu (loadBox tab rfl rfl rfl rfl rfl) rfl ?_
      refine chPu (ev tab rfl) rfl ?_
      refine chPu (puCall rfl rfl rfl (when_fn ..) rfl) rfl ?_
      refine chPu (ev tab rfl) rfl ?_
      refine chPu (ev tab rfl) rfl ?_
      refine chPu (ev tab rfl) rfl ?_
      refine chPu (ev tab rfl) rfl ?_
      refine CH.nil ?_
      refine qs ?_
      refine W.ret ?_
      refine qbRet ?_
      refine qsRet ?_
      refine QF.ret0 trivial rfl ?_
      simp only [norm, normL, oneA, hc, whenT, both] at *; simp_all <;> grind
  · skip
    first | (have h7b := h7a; skip) | have h7a := h7
    refine W.region ?_
    iterate 2 refine pu (ev tab rfl) rfl ?_
    refine WO.nil ?_
    refine qs ?_
    refine condK rfl (fun h7 => ?_) (fun h7 => ?_)
    · skip
      have hs : s = wMin ∨ s = wMax := by first | exact .inl (of_decide_eq_true h7) | exact .inr (of_decide_eq_true h7)
      have hc := callT_min hs
      have ha : arity s = 2 := by rcases hs with rfl | rfl <;> decide
      obtain ⟨a, b, rfl⟩ := len2 (l := ks) (by omega)
      refine W.seq ?_
      refine W.regionD tab (by kernel_rfl) ?_
      refine chPu (ev tab rfl) rfl ?_
      refine chPu (puCall rfl rfl rfl (all_fn ..) rfl) rfl ?_
      refine chPu (ev tab rfl) rfl ?_
      refine chSplitG rfl rfl (fun _ => ?_) (fun _ => ?_)
      · skip
        refine chSkip rfl rfl rfl rfl ?_
        refine chSkip rfl rfl rfl rfl ?_
        refine chPu (ev tab rfl) rfl ?_
        refine chPu (ev tab rfl) rfl ?_
        refine chPu (indexAddr tab rfl rfl rfl rfl rfl rfl (Int.le_refl _) rfl rfl) rfl ?_
        first | refine chPu (ev tab rfl) rfl ?_ | refine chPu (loadRow tab rfl rfl rfl rfl) rfl ?_ | refine chPu (loadBox tab rfl rfl rfl rfl rfl) rfl ?_
        refine chPu (ev tab rfl) rfl ?_
        refine chPu (indexAddr tab rfl rfl rfl rfl rfl rfl (by decide) rfl rfl) rfl ?_
        first | refine chPu (ev tab rfl) rfl ?_ | refine chPu (loadRow tab rfl rfl rfl rfl) rfl ?_ | refine chPu (loadBox tab rfl rfl rfl rfl rfl) rfl ?_
        refine chPu (ev tab rfl) rfl ?_
        refine chPu (puCall rfl rfl rfl (when_fn ..) rfl) rfl ?_
        refine chPu (ev tab rfl) rfl ?_
        refine chPu (ev tab rfl) rfl ?_
        refine chPu (ev tab rfl) rfl ?_
        refine chPu (ev tab rfl) rfl ?_
        refine CH.nil ?_
        refine qs ?_
        refine W.ret ?_
        refine qbRet ?_
        refine qsRet ?_
        refine QF.ret0 trivial rfl ?_
        simp only [norm, normL, oneA, hc, whenT, both] at *; simp_all <;> grind
      · skip
        refine chGo rfl rfl (ev tab rfl) rfl ?_
        refine chGo rfl rfl (puCall rfl rfl rfl (all_fn ..) rfl) rfl ?_
        refine chPu (ev tab rfl) rfl ?_
        refine chPu (ev tab rfl) rfl ?_
        refine chPu (indexAddr tab rfl rfl rfl rfl rfl rfl (Int.le_refl _) rfl rfl) rfl ?_
        first | refine chPu (ev tab rfl) rfl ?_ | refine chPu (loadRow tab rfl rfl rfl rfl) rfl ?_ | refine chPu (loadBox tab rfl rfl rfl rfl rfl) rfl ?_
        refine chPu (ev tab rfl) rfl ?_
        refine chPu (indexAddr tab rfl rfl rfl rfl rfl rfl (by decide) rfl rfl) rfl ?_
        first | refine chPu (ev tab rfl) rfl ?_ | refine chPu (loadRow tab rfl rfl rfl rfl) rfl ?_ | refine chPu (loadBox tab rfl rfl rfl rfl rfl) rfl ?_
        refine chPu (ev tab rfl) rfl ?_
        refine chPu (puCall rfl rfl rfl (when_fn ..) rfl) rfl ?_
        refine chPu (ev tab rfl) rfl ?_
        refine chPu (ev tab rfl) rfl ?_
        refine chPu (ev tab rfl) rfl ?_
        refine chPu (ev tab rfl) rfl ?_
        refine CH.nil ?_
        refine qs ?_
        refine W.ret ?_
        refine qbRet ?_
        refine qsRet ?_
        refine QF.ret0 trivial rfl ?_
        simp only [norm, normL, oneA, hc, whenT, both] at *; simp_all <;> grind
    · skip
      first | (have h7b := h7a; skip) | have h7a := h7
      refine W.seq ?_
      refine W.region ?_
      iterate 2 refine pu (ev tab rfl) rfl ?_
      refine WO.nil ?_
      refine qs ?_
      refine condK rfl (fun h26 => ?_) (fun h26 => ?_)
      · skip
        have hs : s = wAbs := of_decide_eq_true h26
        have hc : ∀ a b, callT s a b = (2, fits a 2) := fun a b => by simp [callT, hs]
        have ha := arity1 (.inl hs)
        obtain ⟨a, rfl⟩ := len1 (l := ks) (by omega)
        refine W.seq ?_
        refine W.region ?_
        refine pu (ev tab rfl) rfl ?_
        refine pu (puCall rfl rfl rfl (all_fn ..) rfl) rfl ?_
        refine pu (puCall rfl rfl rfl (when_fn ..) rfl) rfl ?_
        iterate 4 refine pu (ev tab rfl) rfl ?_
        refine WO.nil ?_
        refine qs ?_
        refine W.ret ?_
        refine qbRet ?_
        refine qsRet ?_
        refine QF.ret0 trivial rfl ?_
        simp only [norm, normL, oneA, hc, whenT, both] at *; simp_all <;> grind
      · skip
        refine W.seq ?_
        refine W.region ?_
        iterate 2 refine pu (ev tab rfl) rfl ?_
        refine WO.nil ?_
        refine qs ?_
        refine condK rfl (fun h33 => ?_) (fun h33 => ?_)
        · skip
          have hs : s = wLen := of_decide_eq_true h33
          have hc : ∀ a b, callT s a b = (2, fits a 3) := fun a b => by simp [callT, hs, wLen, wAbs]
          have ha := arity1 (.inr hs)
          obtain ⟨a, rfl⟩ := len1 (l := ks) (by omega)
          refine W.seq ?_
          refine W.region ?_
          refine pu (ev tab rfl) rfl ?_
          refine pu (puCall rfl rfl rfl (all_fn ..) rfl) rfl ?_
          refine pu (puCall rfl rfl rfl (when_fn ..) rfl) rfl ?_
          iterate 4 refine pu (ev tab rfl) rfl ?_
          refine WO.nil ?_
          refine qs ?_
          refine W.ret ?_
          refine qbRet ?_
          refine qsRet ?_
          refine QF.ret0 trivial rfl ?_
          simp only [norm, normL, oneA, hc, whenT, both] at *; simp_all <;> grind
        · skip
          have hs1 : s ≠ wAbs := of_decide_eq_false h26
          have hs2 : s ≠ wLen := of_decide_eq_false h33
          have hc := callT_two h0 (of_decide_eq_false h7a) (of_decide_eq_false h7) hs1 hs2
          have ha := arity2 h0 hs1 hs2
          obtain ⟨a, b, rfl⟩ := len2 (l := ks) (by omega)
          refine W.skip ?_
          refine qbN ?_
          refine qs ?_
          refine W.seq ?_
          refine W.region ?_
          refine pu (ev tab rfl) rfl ?_
          refine pu (puCall rfl rfl rfl (all_fn ..) rfl) rfl ?_
          refine pu (puCall rfl rfl rfl (when_fn ..) rfl) rfl ?_
          iterate 4 refine pu (ev tab rfl) rfl ?_
          refine WO.nil ?_
          refine qs ?_
          refine W.ret ?_
          refine QF.ret0 trivial rfl ?_
          simp only [norm, normL, oneA, hc, whenT, both] at *; simp_all <;> grind
theorem rcall_fn (s : ByteArray) (ks : List Int) (h : (ks.length : Int) = arity s) (h0 : arity s ≠ 0) : Does Tryz.prog 105 [.d (.v (.string s)), .d (.sl (ks.map ic))]
    (.tup [.d (.v (.int .i64 (callT s (ks.getD 0 0) (ks.getD 1 0)).1)), .d (.v (.bool (callT s (ks.getD 0 0) (ks.getD 1 0)).2))]) 0 := by
  refine Does.of_W (n := 56) (ts := [4, 5]) Tryz.func105 (by kernel_rfl) rfl Tryz.ntmps105 Tryz.results105 rfl rfl fun C hC => ?_
  refine W.seq ?_
  refine W.region ?_
  iterate 2 refine pu (ev tab rfl) rfl ?_
  refine WO.nil ?_
  refine qs ?_
  refine W.seq ?_
  refine W.seq ?_
  refine W.region ?_
  iterate 2 refine pu (ev tab rfl) rfl ?_
  refine WO.nil ?_
  refine qs ?_
  refine condK rfl (fun h8 => ?_) (fun h8 => ?_)
  · skip
    have hs : s = wAbs := of_decide_eq_true h8
    have ha := arity1 (.inl hs)
    obtain ⟨a, rfl⟩ := len1 (l := ks) (by omega)
    refine W.seq ?_
    refine W.region ?_
    refine pu (ev tab rfl) rfl ?_
    refine pu (indexAddr tab rfl rfl rfl rfl rfl rfl (Int.le_refl _) rfl rfl) rfl ?_
    first | refine pu (ev tab rfl) rfl ?_ | refine pu (loadRow tab rfl rfl rfl rfl) rfl ?_ | refine pu (loadBox tab rfl rfl rfl rfl rfl) rfl ?_
    refine pu (puCall rfl rfl rfl (rfits_fn ..) rfl) rfl ?_
    iterate 2 refine pu (ev tab rfl) rfl ?_
    refine WO.nil ?_
    refine qs ?_
    refine W.ret ?_
    refine qsRet ?_
    refine QF.ret0 trivial rfl ?_
    simp only [norm, normL, oneA, callT, wAbs, wLen, wHas, wStarts, both] at *; simp_all <;> grind
  · skip
    refine W.skip ?_
    refine qs ?_
    refine W.seq ?_
    refine W.seq ?_
    refine W.region ?_
    iterate 2 refine pu (ev tab rfl) rfl ?_
    refine WO.nil ?_
    refine qs ?_
    refine condK rfl (fun h14 => ?_) (fun h14 => ?_)
    · skip
      have hs : s = wLen := of_decide_eq_true h14
      have ha := arity1 (.inr hs)
      obtain ⟨a, rfl⟩ := len1 (l := ks) (by omega)
      refine W.seq ?_
      refine W.region ?_
      refine pu (ev tab rfl) rfl ?_
      refine pu (indexAddr tab rfl rfl rfl rfl rfl rfl (Int.le_refl _) rfl rfl) rfl ?_
      first | refine pu (ev tab rfl) rfl ?_ | refine pu (loadRow tab rfl rfl rfl rfl) rfl ?_ | refine pu (loadBox tab rfl rfl rfl rfl rfl) rfl ?_
      refine pu (puCall rfl rfl rfl (rfits_fn ..) rfl) rfl ?_
      iterate 2 refine pu (ev tab rfl) rfl ?_
      refine WO.nil ?_
      refine qs ?_
      refine W.ret ?_
      refine qsRet ?_
      refine QF.ret0 trivial rfl ?_
      simp only [norm, normL, oneA, callT, wAbs, wLen, wHas, wStarts, both] at *; simp_all <;> grind
    · skip
      have hs1 : s ≠ wAbs := of_decide_eq_false h8
      have hs2 : s ≠ wLen := of_decide_eq_false h14
      have ha := arity2 h0 hs1 hs2
      obtain ⟨a, b, rfl⟩ := len2 (l := ks) (by omega)
      refine W.skip ?_
      refine qs ?_
      refine W.seq ?_
      refine W.seq ?_
      apply regionB; (case hb => rfl)
      · skip
        iterate 3 refine pu (ev tab rfl) rfl ?_
        apply splitJ; (case hj => rfl); (case hl => rfl)
        · skip
          refine skipT rfl rfl rfl rfl ?_
          refine skipT rfl rfl rfl rfl ?_
          refine pu (ev tab rfl) rfl ?_
          refine WO.nil ?_
          refine qv1 rfl rfl rfl
        · skip
          refine goG rfl rfl ?_
          refine pu (ev tab rfl) rfl ?_
          refine goG rfl rfl ?_
          iterate 2 refine pu (ev tab rfl) rfl ?_
          refine WO.nil ?_
          refine qv1 rfl rfl rfl
      refine qs ?_
      refine condK rfl (fun h24 => ?_) (fun h24 => ?_)
      · skip
        refine W.seq ?_
        refine W.regionD tab (by kernel_rfl) ?_
        refine chPu (ev tab rfl) rfl ?_
        refine chPu (indexAddr tab rfl rfl rfl rfl rfl rfl (Int.le_refl _) rfl rfl) rfl ?_
        first | refine chPu (ev tab rfl) rfl ?_ | refine chPu (loadRow tab rfl rfl rfl rfl) rfl ?_ | refine chPu (loadBox tab rfl rfl rfl rfl rfl) rfl ?_
        refine chPu (ev tab rfl) rfl ?_
        refine chPu (indexAddr tab rfl rfl rfl rfl rfl rfl (by decide) rfl rfl) rfl ?_
        first | refine chPu (ev tab rfl) rfl ?_ | refine chPu (loadRow tab rfl rfl rfl rfl) rfl ?_ | refine chPu (loadBox tab rfl rfl rfl rfl rfl) rfl ?_
        refine chPu (puCall rfl rfl rfl (both_fn ..) rfl) rfl ?_
        refine chPu (ev tab rfl) rfl ?_
        refine chPu (ev tab rfl) rfl ?_
        refine CH.nil ?_
        refine qs ?_
        refine W.ret ?_
        refine qsRet ?_
        refine QF.ret0 trivial rfl ?_
        simp only [norm, normL, oneA, callT, wAbs, wLen, wHas, wStarts, both] at *; simp_all <;> grind
      · skip
        refine W.skip ?_
        refine qs ?_
        refine W.seq ?_
        refine W.regionD tab (by kernel_rfl) ?_
        refine chPu (ev tab rfl) rfl ?_
        refine chPu (indexAddr tab rfl rfl rfl rfl rfl rfl (Int.le_refl _) rfl rfl) rfl ?_
        first | refine chPu (ev tab rfl) rfl ?_ | refine chPu (loadRow tab rfl rfl rfl rfl) rfl ?_ | refine chPu (loadBox tab rfl rfl rfl rfl rfl) rfl ?_
        refine chPu (ev tab rfl) rfl ?_
        refine chPu (indexAddr tab rfl rfl rfl rfl rfl rfl (by decide) rfl rfl) rfl ?_
        first | refine chPu (ev tab rfl) rfl ?_ | refine chPu (loadRow tab rfl rfl rfl rfl) rfl ?_ | refine chPu (loadBox tab rfl rfl rfl rfl rfl) rfl ?_
        refine chPu (ev tab rfl) rfl ?_
        refine chPu (ev tab rfl) rfl ?_
        refine CH.nil ?_
        refine qs ?_
        refine W.seq ?_
        refine W.regionD tab (by kernel_rfl) ?_
        refine chPu (ev tab rfl) rfl ?_
        refine chPu (ev tab rfl) rfl ?_
        refine chPu (indexAddr tab rfl rfl rfl rfl rfl rfl (Int.le_refl _) rfl rfl) rfl ?_
        first | refine chPu (ev tab rfl) rfl ?_ | refine chPu (loadRow tab rfl rfl rfl rfl) rfl ?_ | refine chPu (loadBox tab rfl rfl rfl rfl rfl) rfl ?_
        refine chPu (ev tab rfl) rfl ?_
        refine chPu (indexAddr tab rfl rfl rfl rfl rfl rfl (by decide) rfl rfl) rfl ?_
        first | refine chPu (ev tab rfl) rfl ?_ | refine chPu (loadRow tab rfl rfl rfl rfl) rfl ?_ | refine chPu (loadBox tab rfl rfl rfl rfl rfl) rfl ?_
        refine chPu (puCall rfl rfl rfl (both_fn ..) rfl) rfl ?_
        refine chPu (ev tab rfl) rfl ?_
        refine chSplitG rfl rfl (fun _ => ?_) (fun _ => ?_)
        · skip
          refine chSkip rfl rfl rfl rfl ?_
          refine chSkip rfl rfl rfl rfl ?_
          refine chSkip rfl rfl rfl rfl ?_
          refine chSkip rfl rfl rfl rfl ?_
          refine chSkip rfl rfl rfl rfl ?_
          refine chSkip rfl rfl rfl rfl ?_
          refine chSkip rfl rfl rfl rfl ?_
          refine chPu (ev tab rfl) rfl ?_
          refine chPu (ev tab rfl) rfl ?_
          refine chPu (ev tab rfl) rfl ?_
          refine CH.nil ?_
          refine qs ?_
          refine W.ret ?_
          refine QF.ret0 trivial rfl ?_
          simp only [norm, normL, oneA, callT, wAbs, wLen, wHas, wStarts, both] at *; simp_all <;> grind
        · skip
          refine chGo rfl rfl (ev tab rfl) rfl ?_
          refine chGo rfl rfl (indexAddr tab rfl rfl rfl rfl rfl rfl (Int.le_refl _) rfl rfl) rfl ?_
          first | refine chGo rfl rfl (ev tab rfl) rfl ?_ | refine chGo rfl rfl (loadRow tab rfl rfl rfl rfl) rfl ?_ | refine chGo rfl rfl (loadBox tab rfl rfl rfl rfl rfl) rfl ?_
          refine chGo rfl rfl (ev tab rfl) rfl ?_
          refine chGo rfl rfl (indexAddr tab rfl rfl rfl rfl rfl rfl (by decide) rfl rfl) rfl ?_
          first | refine chGo rfl rfl (ev tab rfl) rfl ?_ | refine chGo rfl rfl (loadRow tab rfl rfl rfl rfl) rfl ?_ | refine chGo rfl rfl (loadBox tab rfl rfl rfl rfl rfl) rfl ?_
          refine chGo rfl rfl (puCall rfl rfl rfl (both_fn ..) rfl) rfl ?_
          refine chPu (ev tab rfl) rfl ?_
          refine chPu (ev tab rfl) rfl ?_
          refine chPu (ev tab rfl) rfl ?_
          refine CH.nil ?_
          refine qs ?_
          refine W.ret ?_
          refine QF.ret0 trivial rfl ?_
          simp only [norm, normL, oneA, callT, wAbs, wLen, wHas, wStarts, both] at *; simp_all <;> grind
theorem operator_fn (e : Ex) (ks : List Int) (hv : nodeErr e = 0) (hl : ks.length = e.kids.length) (h1 : e.op ≠ 1) (h2 : e.op ≠ 2) : Does Tryz.prog 93 [.ag e.c, .d (.sl (ks.map ic))]
    (.tup [.d (.v (.int .i64 (opT e.op e.name (ks.getD 0 0) (ks.getD 1 0)).1)), .d (.v (.bool (opT e.op e.name (ks.getD 0 0) (ks.getD 1 0)).2))]) 0 := by
  have hk := valid_kids hv
  refine Does.of_W (n := 83) (ts := [4, 5]) Tryz.func93 (by kernel_rfl) rfl Tryz.ntmps93 Tryz.results93 rfl rfl fun C hC => ?_
  refine W.seq ?_
  refine W.region ?_
  refine boxR rfl rfl rfl ?_
  iterate 2 refine pu (ev tab rfl) rfl ?_
  refine WO.nil ?_
  refine qs ?_
  refine W.seq ?_
  refine W.seq ?_
  refine W.region ?_
  refine pu (ev tab rfl) rfl ?_
  first | refine pu (ev tab rfl) rfl ?_ | refine pu (loadRow tab rfl rfl rfl rfl) rfl ?_ | refine pu (loadBox tab rfl rfl rfl rfl rfl) rfl ?_
  refine WO.nil ?_
  refine qs ?_
  refine W.block ?_
  refine W.seq ?_
  refine W.region ?_
  iterate 2 refine pu (ev tab rfl) rfl ?_
  refine WO.nil ?_
  refine qs ?_
  refine condK rfl (fun h8 => ?_) (fun h8 => ?_)
  · skip
    obtain ⟨a, rfl⟩ := len1 (l := ks) (by rw [hl]; exact hk.2.1 (.inl (by simpa using h8)))
    refine W.seq ?_
    refine W.region ?_
    refine pu (ev tab rfl) rfl ?_
    refine pu (indexAddr tab rfl rfl rfl rfl rfl rfl (Int.le_refl _) rfl rfl) rfl ?_
    first | refine pu (ev tab rfl) rfl ?_ | refine pu (loadRow tab rfl rfl rfl rfl) rfl ?_ | refine pu (loadBox tab rfl rfl rfl rfl rfl) rfl ?_
    refine pu (puCall rfl rfl rfl (rfits_fn ..) rfl) rfl ?_
    iterate 2 refine pu (ev tab rfl) rfl ?_
    refine WO.nil ?_
    refine qs ?_
    refine W.ret ?_
    refine qbRet ?_
    refine qsRet ?_
    refine QF.ret0 trivial rfl ?_
    simp only [norm, normL, oneA, opT, both] at *; simp_all <;> grind
  · skip
    refine W.seq ?_
    refine W.seq ?_
    refine W.region ?_
    iterate 2 refine pu (ev tab rfl) rfl ?_
    refine WO.nil ?_
    refine qs ?_
    refine condK rfl (fun h14 => ?_) (fun h14 => ?_)
    · skip
      obtain ⟨a, b, rfl⟩ := len2 (l := ks) (by rw [hl]; apply hk.2.2.2.1 <;> grind)
      refine W.skip ?_
      refine qs ?_
      refine W.condT rfl ?_
      refine W.seq ?_
      refine W.regionD tab (by kernel_rfl) ?_
      refine chPu (ev tab rfl) rfl ?_
      refine chPu (indexAddr tab rfl rfl rfl rfl rfl rfl (Int.le_refl _) rfl rfl) rfl ?_
      first | refine chPu (ev tab rfl) rfl ?_ | refine chPu (loadRow tab rfl rfl rfl rfl) rfl ?_ | refine chPu (loadBox tab rfl rfl rfl rfl rfl) rfl ?_
      refine chPu (ev tab rfl) rfl ?_
      refine chPu (indexAddr tab rfl rfl rfl rfl rfl rfl (by decide) rfl rfl) rfl ?_
      first | refine chPu (ev tab rfl) rfl ?_ | refine chPu (loadRow tab rfl rfl rfl rfl) rfl ?_ | refine chPu (loadBox tab rfl rfl rfl rfl rfl) rfl ?_
      refine chPu (puCall rfl rfl rfl (both_fn ..) rfl) rfl ?_
      refine chPu (ev tab rfl) rfl ?_
      refine chPu (ev tab rfl) rfl ?_
      refine CH.nil ?_
      refine qs ?_
      refine W.ret ?_
      refine qbRet ?_
      refine qsRet ?_
      refine QF.ret0 trivial rfl ?_
      simp only [norm, normL, oneA, opT, both] at *; simp_all <;> grind
    · skip
      refine W.region ?_
      iterate 2 refine pu (ev tab rfl) rfl ?_
      refine WO.nil ?_
      refine qs ?_
      refine condK rfl (fun h14 => ?_) (fun h14 => ?_)
      · skip
        obtain ⟨a, b, rfl⟩ := len2 (l := ks) (by rw [hl]; apply hk.2.2.2.1 <;> grind)
        refine W.seq ?_
        refine W.regionD tab (by kernel_rfl) ?_
        refine chPu (ev tab rfl) rfl ?_
        refine chPu (indexAddr tab rfl rfl rfl rfl rfl rfl (Int.le_refl _) rfl rfl) rfl ?_
        first | refine chPu (ev tab rfl) rfl ?_ | refine chPu (loadRow tab rfl rfl rfl rfl) rfl ?_ | refine chPu (loadBox tab rfl rfl rfl rfl rfl) rfl ?_
        refine chPu (ev tab rfl) rfl ?_
        refine chPu (indexAddr tab rfl rfl rfl rfl rfl rfl (by decide) rfl rfl) rfl ?_
        first | refine chPu (ev tab rfl) rfl ?_ | refine chPu (loadRow tab rfl rfl rfl rfl) rfl ?_ | refine chPu (loadBox tab rfl rfl rfl rfl rfl) rfl ?_
        refine chPu (puCall rfl rfl rfl (both_fn ..) rfl) rfl ?_
        refine chPu (ev tab rfl) rfl ?_
        refine chPu (ev tab rfl) rfl ?_
        refine CH.nil ?_
        refine qs ?_
        refine W.ret ?_
        refine qbRet ?_
        refine qsRet ?_
        refine QF.ret0 trivial rfl ?_
        simp only [norm, normL, oneA, opT, both] at *; simp_all <;> grind
      · skip
        refine W.seq ?_
        refine W.region ?_
        iterate 2 refine pu (ev tab rfl) rfl ?_
        refine WO.nil ?_
        refine qs ?_
        refine condK rfl (fun h24 => ?_) (fun h24 => ?_)
        · skip
          obtain ⟨a, rfl⟩ := len1 (l := ks) (by rw [hl]; exact hk.2.1 (.inr (by simpa using h24)))
          refine W.seq ?_
          refine W.region ?_
          refine pu (ev tab rfl) rfl ?_
          refine pu (indexAddr tab rfl rfl rfl rfl rfl rfl (Int.le_refl _) rfl rfl) rfl ?_
          first | refine pu (ev tab rfl) rfl ?_ | refine pu (loadRow tab rfl rfl rfl rfl) rfl ?_ | refine pu (loadBox tab rfl rfl rfl rfl rfl) rfl ?_
          refine pu (puCall rfl rfl rfl (rfits_fn ..) rfl) rfl ?_
          iterate 2 refine pu (ev tab rfl) rfl ?_
          refine WO.nil ?_
          refine qs ?_
          refine W.ret ?_
          refine qbRet ?_
          refine qsRet ?_
          refine QF.ret0 trivial rfl ?_
          simp only [norm, normL, oneA, opT, both] at *; simp_all <;> grind
        · skip
          refine W.seq ?_
          refine W.seq ?_
          refine W.region ?_
          iterate 2 refine pu (ev tab rfl) rfl ?_
          refine WO.nil ?_
          refine qs ?_
          refine condK rfl (fun h30 => ?_) (fun h30 => ?_)
          · skip
            obtain ⟨a, b, rfl⟩ := len2 (l := ks) (by rw [hl]; apply hk.2.2.2.1 <;> grind)
            refine W.skip ?_
            refine qs ?_
            refine W.condT rfl ?_
            refine W.seq ?_
            refine W.regionD tab (by kernel_rfl) ?_
            refine chPu (ev tab rfl) rfl ?_
            refine chPu (indexAddr tab rfl rfl rfl rfl rfl rfl (Int.le_refl _) rfl rfl) rfl ?_
            first | refine chPu (ev tab rfl) rfl ?_ | refine chPu (loadRow tab rfl rfl rfl rfl) rfl ?_ | refine chPu (loadBox tab rfl rfl rfl rfl rfl) rfl ?_
            refine chPu (ev tab rfl) rfl ?_
            refine chPu (indexAddr tab rfl rfl rfl rfl rfl rfl (by decide) rfl rfl) rfl ?_
            first | refine chPu (ev tab rfl) rfl ?_ | refine chPu (loadRow tab rfl rfl rfl rfl) rfl ?_ | refine chPu (loadBox tab rfl rfl rfl rfl rfl) rfl ?_
            refine chPu (puCall rfl rfl rfl (rfits_fn ..) rfl) rfl ?_
            refine chPu (ev tab rfl) rfl ?_
            refine chSplitG rfl rfl (fun _ => ?_) (fun _ => ?_)
            · skip
              refine chSkip rfl rfl rfl rfl ?_
              refine chSkip rfl rfl rfl rfl ?_
              refine chSkip rfl rfl rfl rfl ?_
              refine chSkip rfl rfl rfl rfl ?_
              refine chSkip rfl rfl rfl rfl ?_
              refine chSkip rfl rfl rfl rfl ?_
              refine chSkip rfl rfl rfl rfl ?_
              refine chPu (ev tab rfl) rfl ?_
              refine chPu (ev tab rfl) rfl ?_
              refine chPu (ev tab rfl) rfl ?_
              refine CH.nil ?_
              refine qs ?_
              refine W.ret ?_
              refine qbRet ?_
              refine qsRet ?_
              refine QF.ret0 trivial rfl ?_
              simp only [norm, normL, oneA, opT, both] at *; simp_all <;> grind
            · skip
              refine chGo rfl rfl (ev tab rfl) rfl ?_
              refine chGo rfl rfl (indexAddr tab rfl rfl rfl rfl rfl rfl (by decide) rfl rfl) rfl ?_
              first | refine chGo rfl rfl (ev tab rfl) rfl ?_ | refine chGo rfl rfl (loadRow tab rfl rfl rfl rfl) rfl ?_ | refine chGo rfl rfl (loadBox tab rfl rfl rfl rfl rfl) rfl ?_
              refine chGo rfl rfl (ev tab rfl) rfl ?_
              refine chGo rfl rfl (indexAddr tab rfl rfl rfl rfl rfl rfl (Int.le_refl _) rfl rfl) rfl ?_
              first | refine chGo rfl rfl (ev tab rfl) rfl ?_ | refine chGo rfl rfl (loadRow tab rfl rfl rfl rfl) rfl ?_ | refine chGo rfl rfl (loadBox tab rfl rfl rfl rfl rfl) rfl ?_
              refine chGo rfl rfl (puCall rfl rfl rfl (rfits_fn ..) rfl) rfl ?_
              refine chPu (ev tab rfl) rfl ?_
              refine chPu (ev tab rfl) rfl ?_
              refine chPu (ev tab rfl) rfl ?_
              refine CH.nil ?_
              refine qs ?_
              refine W.ret ?_
              refine qbRet ?_
              refine qsRet ?_
              refine QF.ret0 trivial rfl ?_
              simp only [norm, normL, oneA, opT, both] at *; simp_all <;> grind
          · skip
            refine W.region ?_
            iterate 2 refine pu (ev tab rfl) rfl ?_
            refine WO.nil ?_
            refine qs ?_
            refine condK rfl (fun h30 => ?_) (fun h30 => ?_)
            · skip
              obtain ⟨a, b, rfl⟩ := len2 (l := ks) (by rw [hl]; apply hk.2.2.2.1 <;> grind)
              refine W.seq ?_
              refine W.regionD tab (by kernel_rfl) ?_
              refine chPu (ev tab rfl) rfl ?_
              refine chPu (indexAddr tab rfl rfl rfl rfl rfl rfl (Int.le_refl _) rfl rfl) rfl ?_
              first | refine chPu (ev tab rfl) rfl ?_ | refine chPu (loadRow tab rfl rfl rfl rfl) rfl ?_ | refine chPu (loadBox tab rfl rfl rfl rfl rfl) rfl ?_
              refine chPu (ev tab rfl) rfl ?_
              refine chPu (indexAddr tab rfl rfl rfl rfl rfl rfl (by decide) rfl rfl) rfl ?_
              first | refine chPu (ev tab rfl) rfl ?_ | refine chPu (loadRow tab rfl rfl rfl rfl) rfl ?_ | refine chPu (loadBox tab rfl rfl rfl rfl rfl) rfl ?_
              refine chPu (puCall rfl rfl rfl (rfits_fn ..) rfl) rfl ?_
              refine chPu (ev tab rfl) rfl ?_
              refine chSplitG rfl rfl (fun _ => ?_) (fun _ => ?_)
              · skip
                refine chSkip rfl rfl rfl rfl ?_
                refine chSkip rfl rfl rfl rfl ?_
                refine chSkip rfl rfl rfl rfl ?_
                refine chSkip rfl rfl rfl rfl ?_
                refine chSkip rfl rfl rfl rfl ?_
                refine chSkip rfl rfl rfl rfl ?_
                refine chSkip rfl rfl rfl rfl ?_
                refine chPu (ev tab rfl) rfl ?_
                refine chPu (ev tab rfl) rfl ?_
                refine chPu (ev tab rfl) rfl ?_
                refine CH.nil ?_
                refine qs ?_
                refine W.ret ?_
                refine qbRet ?_
                refine qsRet ?_
                refine QF.ret0 trivial rfl ?_
                simp only [norm, normL, oneA, opT, both] at *; simp_all <;> grind
              · skip
                refine chGo rfl rfl (ev tab rfl) rfl ?_
                refine chGo rfl rfl (indexAddr tab rfl rfl rfl rfl rfl rfl (by decide) rfl rfl) rfl ?_
                first | refine chGo rfl rfl (ev tab rfl) rfl ?_ | refine chGo rfl rfl (loadRow tab rfl rfl rfl rfl) rfl ?_ | refine chGo rfl rfl (loadBox tab rfl rfl rfl rfl rfl) rfl ?_
                refine chGo rfl rfl (ev tab rfl) rfl ?_
                refine chGo rfl rfl (indexAddr tab rfl rfl rfl rfl rfl rfl (Int.le_refl _) rfl rfl) rfl ?_
                first | refine chGo rfl rfl (ev tab rfl) rfl ?_ | refine chGo rfl rfl (loadRow tab rfl rfl rfl rfl) rfl ?_ | refine chGo rfl rfl (loadBox tab rfl rfl rfl rfl rfl) rfl ?_
                refine chGo rfl rfl (puCall rfl rfl rfl (rfits_fn ..) rfl) rfl ?_
                refine chPu (ev tab rfl) rfl ?_
                refine chPu (ev tab rfl) rfl ?_
                refine chPu (ev tab rfl) rfl ?_
                refine CH.nil ?_
                refine qs ?_
                refine W.ret ?_
                refine qbRet ?_
                refine qsRet ?_
                refine QF.ret0 trivial rfl ?_
                simp only [norm, normL, oneA, opT, both] at *; simp_all <;> grind
            · skip
              refine W.seq ?_
              refine W.seq ?_
              refine W.region ?_
              iterate 2 refine pu (ev tab rfl) rfl ?_
              refine WO.nil ?_
              refine qs ?_
              refine condK rfl (fun h49 => ?_) (fun h49 => ?_)
              · skip
                obtain ⟨a, b, rfl⟩ := len2 (l := ks) (by rw [hl]; apply hk.2.2.2.1 <;> grind)
                refine W.skip ?_
                refine qs ?_
                refine W.condT rfl ?_
                refine W.seq ?_
                refine W.regionD tab (by kernel_rfl) ?_
                refine chPu (ev tab rfl) rfl ?_
                refine chPu (indexAddr tab rfl rfl rfl rfl rfl rfl (Int.le_refl _) rfl rfl) rfl ?_
                first | refine chPu (ev tab rfl) rfl ?_ | refine chPu (loadRow tab rfl rfl rfl rfl) rfl ?_ | refine chPu (loadBox tab rfl rfl rfl rfl rfl) rfl ?_
                refine chPu (ev tab rfl) rfl ?_
                refine chPu (indexAddr tab rfl rfl rfl rfl rfl rfl (by decide) rfl rfl) rfl ?_
                first | refine chPu (ev tab rfl) rfl ?_ | refine chPu (loadRow tab rfl rfl rfl rfl) rfl ?_ | refine chPu (loadBox tab rfl rfl rfl rfl rfl) rfl ?_
                refine chPu (puCall rfl rfl rfl (both_fn ..) rfl) rfl ?_
                refine chPu (ev tab rfl) rfl ?_
                refine chSplitG rfl rfl (fun _ => ?_) (fun _ => ?_)
                · skip
                  refine chSkip rfl rfl rfl rfl ?_
                  refine chSkip rfl rfl rfl rfl ?_
                  refine chSkip rfl rfl rfl rfl ?_
                  refine chSkip rfl rfl rfl rfl ?_
                  refine chSkip rfl rfl rfl rfl ?_
                  refine chSkip rfl rfl rfl rfl ?_
                  refine chSkip rfl rfl rfl rfl ?_
                  refine chPu (ev tab rfl) rfl ?_
                  refine chPu (ev tab rfl) rfl ?_
                  refine chPu (ev tab rfl) rfl ?_
                  refine CH.nil ?_
                  refine qs ?_
                  refine W.ret ?_
                  refine qbRet ?_
                  refine qsRet ?_
                  refine QF.ret0 trivial rfl ?_
                  simp only [norm, normL, oneA, opT, both] at *; simp_all <;> grind
                · skip
                  refine chGo rfl rfl (ev tab rfl) rfl ?_
                  refine chGo rfl rfl (indexAddr tab rfl rfl rfl rfl rfl rfl (Int.le_refl _) rfl rfl) rfl ?_
                  first | refine chGo rfl rfl (ev tab rfl) rfl ?_ | refine chGo rfl rfl (loadRow tab rfl rfl rfl rfl) rfl ?_ | refine chGo rfl rfl (loadBox tab rfl rfl rfl rfl rfl) rfl ?_
                  refine chGo rfl rfl (ev tab rfl) rfl ?_
                  refine chGo rfl rfl (indexAddr tab rfl rfl rfl rfl rfl rfl (by decide) rfl rfl) rfl ?_
                  first | refine chGo rfl rfl (ev tab rfl) rfl ?_ | refine chGo rfl rfl (loadRow tab rfl rfl rfl rfl) rfl ?_ | refine chGo rfl rfl (loadBox tab rfl rfl rfl rfl rfl) rfl ?_
                  refine chGo rfl rfl (puCall rfl rfl rfl (both_fn ..) rfl) rfl ?_
                  refine chPu (ev tab rfl) rfl ?_
                  refine chPu (ev tab rfl) rfl ?_
                  refine chPu (ev tab rfl) rfl ?_
                  refine CH.nil ?_
                  refine qs ?_
                  refine W.ret ?_
                  refine qbRet ?_
                  refine qsRet ?_
                  refine QF.ret0 trivial rfl ?_
                  simp only [norm, normL, oneA, opT, both] at *; simp_all <;> grind
              · skip
                refine W.region ?_
                iterate 2 refine pu (ev tab rfl) rfl ?_
                refine WO.nil ?_
                refine qs ?_
                refine condK rfl (fun h49 => ?_) (fun h49 => ?_)
                · skip
                  obtain ⟨a, b, rfl⟩ := len2 (l := ks) (by rw [hl]; apply hk.2.2.2.1 <;> grind)
                  refine W.seq ?_
                  refine W.regionD tab (by kernel_rfl) ?_
                  refine chPu (ev tab rfl) rfl ?_
                  refine chPu (indexAddr tab rfl rfl rfl rfl rfl rfl (Int.le_refl _) rfl rfl) rfl ?_
                  first | refine chPu (ev tab rfl) rfl ?_ | refine chPu (loadRow tab rfl rfl rfl rfl) rfl ?_ | refine chPu (loadBox tab rfl rfl rfl rfl rfl) rfl ?_
                  refine chPu (ev tab rfl) rfl ?_
                  refine chPu (indexAddr tab rfl rfl rfl rfl rfl rfl (by decide) rfl rfl) rfl ?_
                  first | refine chPu (ev tab rfl) rfl ?_ | refine chPu (loadRow tab rfl rfl rfl rfl) rfl ?_ | refine chPu (loadBox tab rfl rfl rfl rfl rfl) rfl ?_
                  refine chPu (puCall rfl rfl rfl (both_fn ..) rfl) rfl ?_
                  refine chPu (ev tab rfl) rfl ?_
                  refine chSplitG rfl rfl (fun _ => ?_) (fun _ => ?_)
                  · skip
                    refine chSkip rfl rfl rfl rfl ?_
                    refine chSkip rfl rfl rfl rfl ?_
                    refine chSkip rfl rfl rfl rfl ?_
                    refine chSkip rfl rfl rfl rfl ?_
                    refine chSkip rfl rfl rfl rfl ?_
                    refine chSkip rfl rfl rfl rfl ?_
                    refine chSkip rfl rfl rfl rfl ?_
                    refine chPu (ev tab rfl) rfl ?_
                    refine chPu (ev tab rfl) rfl ?_
                    refine chPu (ev tab rfl) rfl ?_
                    refine CH.nil ?_
                    refine qs ?_
                    refine W.ret ?_
                    refine qbRet ?_
                    refine qsRet ?_
                    refine QF.ret0 trivial rfl ?_
                    simp only [norm, normL, oneA, opT, both] at *; simp_all <;> grind
                  · skip
                    refine chGo rfl rfl (ev tab rfl) rfl ?_
                    refine chGo rfl rfl (indexAddr tab rfl rfl rfl rfl rfl rfl (Int.le_refl _) rfl rfl) rfl ?_
                    first | refine chGo rfl rfl (ev tab rfl) rfl ?_ | refine chGo rfl rfl (loadRow tab rfl rfl rfl rfl) rfl ?_ | refine chGo rfl rfl (loadBox tab rfl rfl rfl rfl rfl) rfl ?_
                    refine chGo rfl rfl (ev tab rfl) rfl ?_
                    refine chGo rfl rfl (indexAddr tab rfl rfl rfl rfl rfl rfl (by decide) rfl rfl) rfl ?_
                    first | refine chGo rfl rfl (ev tab rfl) rfl ?_ | refine chGo rfl rfl (loadRow tab rfl rfl rfl rfl) rfl ?_ | refine chGo rfl rfl (loadBox tab rfl rfl rfl rfl rfl) rfl ?_
                    refine chGo rfl rfl (puCall rfl rfl rfl (both_fn ..) rfl) rfl ?_
                    refine chPu (ev tab rfl) rfl ?_
                    refine chPu (ev tab rfl) rfl ?_
                    refine chPu (ev tab rfl) rfl ?_
                    refine CH.nil ?_
                    refine qs ?_
                    refine W.ret ?_
                    refine qbRet ?_
                    refine qsRet ?_
                    refine QF.ret0 trivial rfl ?_
                    simp only [norm, normL, oneA, opT, both] at *; simp_all <;> grind
                · skip
                  refine W.seq ?_
                  refine W.region ?_
                  iterate 2 refine pu (ev tab rfl) rfl ?_
                  refine WO.nil ?_
                  refine qs ?_
                  refine condK rfl (fun h68 => ?_) (fun h68 => ?_)
                  · skip
                    have hc := hk.2.2.1 (by simpa using h68)
                    refine W.seq ?_
                    refine W.region ?_
                    refine pu (ev tab rfl) rfl ?_
                    first | refine pu (ev tab rfl) rfl ?_ | refine pu (loadRow tab rfl rfl rfl rfl) rfl ?_ | refine pu (loadBox tab rfl rfl rfl rfl rfl) rfl ?_
                    refine pu (ev tab rfl) rfl ?_
                    refine pu (puCall rfl rfl rfl (rcall_fn e.name ks (by rw [hl]; exact hc.1) hc.2) rfl) rfl ?_
                    iterate 4 refine pu (ev tab rfl) rfl ?_
                    refine WO.nil ?_
                    refine qs ?_
                    refine W.ret ?_
                    refine qbRet ?_
                    refine qsRet ?_
                    refine QF.ret0 trivial rfl ?_
                    simp only [norm, normL, oneA, opT, both] at *; simp_all <;> grind
                  · skip
                    obtain ⟨a, b, rfl⟩ := len2 (l := ks) (by rw [hl]; apply hk.2.2.2.1 <;> grind)
                    refine W.skip ?_
                    refine qbN ?_
                    refine qs ?_
                    refine W.seq ?_
                    refine W.regionD tab (by kernel_rfl) ?_
                    refine chPu (ev tab rfl) rfl ?_
                    refine chPu (indexAddr tab rfl rfl rfl rfl rfl rfl (Int.le_refl _) rfl rfl) rfl ?_
                    first | refine chPu (ev tab rfl) rfl ?_ | refine chPu (loadRow tab rfl rfl rfl rfl) rfl ?_ | refine chPu (loadBox tab rfl rfl rfl rfl rfl) rfl ?_
                    refine chPu (ev tab rfl) rfl ?_
                    refine chPu (indexAddr tab rfl rfl rfl rfl rfl rfl (by decide) rfl rfl) rfl ?_
                    first | refine chPu (ev tab rfl) rfl ?_ | refine chPu (loadRow tab rfl rfl rfl rfl) rfl ?_ | refine chPu (loadBox tab rfl rfl rfl rfl rfl) rfl ?_
                    refine chPu (puCall rfl rfl rfl (both_fn ..) rfl) rfl ?_
                    refine chPu (ev tab rfl) rfl ?_
                    refine chPu (ev tab rfl) rfl ?_
                    refine CH.nil ?_
                    refine qs ?_
                    refine W.ret ?_
                    refine QF.ret0 trivial rfl ?_
                    simp only [norm, normL, oneA, opT, both] at *; simp_all <;> grind
end Go.Proofs.YtmhjgeneogknpaaGreat
namespace Go.Proofs.YtmhjgeneogknpaaGreat
open Go.Ab Go.Tb
set_option maxRecDepth 10000
attribute [local irreducible] W WO Pu QS QB QL QF QV QV1 CH QE
theorem tnode_fn (cols : List Col) : ∀ (e : Ex), nodesErr e = 0 → Does Tryz.prog 20 [.d (.sl (cols.map Col.c)), .ag e.c] (.tup [.d (.v (.int .i64 (typ cols e).1)), .d (.v (.int .i64 (typ cols e).2))]) 0 := by
  refine Ex.ind fun e ih => ?_
  intro hv
  have hkv := valid_kids (valid_node hv)
  have hq := typ_eq cols e
  refine Does.of_W (n := 109) (ts := [4, 5]) Tryz.func20 (by kernel_rfl) rfl Tryz.ntmps20 Tryz.results20 rfl rfl fun C hC => ?_
  refine W.seq ?_
  refine W.region ?_
  refine boxR rfl rfl rfl ?_
  iterate 2 refine pu (ev tab rfl) rfl ?_
  refine WO.nil ?_
  refine qs ?_
  refine W.seq ?_
  refine W.region ?_
  refine pu (ev tab rfl) rfl ?_
  refine WO.nil ?_
  refine qs ?_
  refine W.seq ?_
  refine W.seq ?_
  refine W.region ?_
  refine pu (ev tab rfl) rfl ?_
  first | refine pu (ev tab rfl) rfl ?_ | refine pu (loadRow tab rfl rfl rfl rfl) rfl ?_ | refine pu (loadBox tab rfl rfl rfl rfl rfl) rfl ?_
  iterate 2 refine pu (ev tab rfl) rfl ?_
  refine WO.nil ?_
  refine qs ?_
  refine W.block ?_
  refine ownNilR (d := 6) rfl rfl ?_
  refine W.len (t := 13) rfl rfl (fun hlen => ?_)
  try simp only [List.length_map, Ex.kc_len] at hlen
  refine W.loopR (ι := {x : Nat × List Int // match x with | (k, ks) => k ≤ e.kids.length ∧ typL cols (e.kids.drop k) ks = typL cols e.kids [] ∧ ks.length = k})
    (fun x => match x.1 with | (k, ks) => [(3, .ptr 0 0), (6, .own 1 (ks.map ic)), (15, .d (.v (.int .i64 ((k : Nat) : Int))))]) [(0, _), (13, _), (14, _)]
    (fun x => match x.1 with | (k, ks) => []) [(0, _)] [1] 2 (fun x => match x.1 with | (k, ks) => e.kids.length - k)
    [0, 1] ⟨(0, []), ?_⟩ rfl ?_ ⟨rfl, rfl, rfl, rfl, rfl, rfl, trivial⟩ ?_ ⟨rfl, rfl, trivial⟩ rfl ?_
  · exact ⟨Nat.zero_le _, rfl, rfl⟩
  · repeat' first | exact trivial | refine ⟨rfl, ?_⟩ | refine ⟨step_nat (by assumption) (by assumption), ?_⟩
  · repeat' first | exact trivial | refine ⟨rfl, ?_⟩ | refine ⟨step_nat (by assumption) (by assumption), ?_⟩
  rintro ⟨⟨k, ks⟩, hk, hI, h2⟩
  show W _ _ _ _ _ ⟨[(3, .ptr 0 0), (6, .own 1 (ks.map ic)), (15, .d (.v (.int .i64 ((k : Nat) : Int)))), (0, _), (13, _), (14, _)], [(0, _)], [1], 2⟩
  refine W.seq ?_
  refine W.region ?_
  refine pu (ev tab rfl) rfl ?_
  refine WO.nil ?_
  refine qs ?_
  refine W.seq ?_
  refine eachR (l := e.kids) (k := k) rfl (by simp [Ex.kc_len, bytes_len]) hk (fun x hx hd hlt => ?_) (fun he hd => ?_)
  · skip
    rw [hd] at hI
    simp only [typL] at hI
    have hmem := List.mem_of_getElem? hx
    have hne : e.kids ≠ [] := by rintro h; rw [h] at hmem; simp at hmem
    refine W.skip ?_
    refine qs ?_
    refine W.seq ?_
    refine W.block ?_
    refine W.seq ?_
    refine W.region ?_
    refine pu (indexAddr tab rfl rfl rfl rfl rfl rfl (Int.natCast_nonneg _) (Ex.kc_idx hx) rfl) rfl ?_
    first | refine pu (ev tab rfl) rfl ?_ | refine pu (loadRow tab rfl rfl rfl rfl) rfl ?_ | refine pu (loadBox tab rfl rfl rfl rfl rfl) rfl ?_
    refine allocR tab rfl rfl rfl ?_
    refine storeR tab rfl rfl rfl rfl rfl rfl rfl rfl ?_
    refine WO.nil ?_
    refine qs ?_
    refine W.seq ?_
    refine W.region ?_
    refine pu (ev tab rfl) rfl ?_
    first | refine pu (ev tab rfl) rfl ?_ | refine pu (loadRow tab rfl rfl rfl rfl) rfl ?_ | refine pu (loadBox tab rfl rfl rfl rfl rfl) rfl ?_
    refine pu (puCall rfl rfl rfl (ih x hmem (valid_kid hv hmem)) rfl) rfl ?_
    iterate 5 refine pu (ev tab rfl) rfl ?_
    refine WO.nil ?_
    refine qs ?_
    refine W.seq ?_
    refine W.seq ?_
    refine W.region ?_
    iterate 2 refine pu (ev tab rfl) rfl ?_
    refine WO.nil ?_
    refine qs ?_
    refine condK rfl (fun h26 => ?_) (fun h26 => ?_)
    · skip
      rw [if_pos (by simpa using h26)] at hI
      refine W.seq ?_
      refine W.region ?_
      iterate 3 refine pu (ev tab rfl) rfl ?_
      refine WO.nil ?_
      refine qs ?_
      refine W.ret ?_
      refine qsRet ?_
      refine qbRet ?_
      refine qsRet ?_
      refine qlRet ?_
      refine qbRet ?_
      refine qsRet ?_
      refine QF.ret0 trivial rfl ?_
      rw [hq, ← hI]
      simp only [norm, normL, oneA]
      grind
    · skip
      rw [if_neg (by simpa using h26)] at hI
      refine W.skip ?_
      refine qs ?_
      refine W.region ?_
      iterate 2 refine pu (ev tab rfl) rfl ?_
      refine pu (buildV tab rfl rfl rfl rfl rfl rfl rfl rfl rfl) rfl ?_
      refine appendM tab rfl rfl rfl rfl rfl rfl rfl rfl rfl rfl (fun _ => rfl) (by show (ks.length + 1) * 8 ≤ _; omega) ?_
      refine pu (ev tab rfl) rfl ?_
      refine WO.nil ?_
      refine qbN ?_
      refine qs ?_
      refine W.region ?_
      iterate 2 refine pu (ev tab rfl) rfl ?_
      refine WO.nil ?_
      refine W.endR [0, 3] ⟨(k + 1, ks ++ [(typ cols x).1]), ?_⟩ ?_ rfl ?_ ⟨rfl, rfl, rfl, rfl, rfl, rfl, trivial⟩ ?_ ⟨rfl, rfl, trivial⟩ rfl
      · exact ⟨hlt, hI, by simp [h2]⟩
      · dsimp only; omega
      · repeat' first | exact trivial | refine ⟨rfl, ?_⟩ | refine ⟨step_nat (by assumption) (by assumption), ?_⟩
      · repeat' first | exact trivial | refine ⟨rfl, ?_⟩ | refine ⟨step_nat (by assumption) (by assumption), ?_⟩
  · skip
    rw [hd] at hI
    simp only [typL] at hI
    have hkl : ks.length = e.kids.length := by omega
    refine W.exit ?_
    refine qsExit ?_
    refine qlExit ?_
    refine qbExit ?_
    refine qs ?_
    refine W.seq ?_
    refine W.seq ?_
    refine W.region ?_
    refine pu (ev tab rfl) rfl ?_
    first | refine pu (ev tab rfl) rfl ?_ | refine pu (loadRow tab rfl rfl rfl rfl) rfl ?_ | refine pu (loadBox tab rfl rfl rfl rfl rfl) rfl ?_
    refine WO.nil ?_
    refine qs ?_
    refine W.block ?_
    refine W.seq ?_
    refine W.region ?_
    iterate 2 refine pu (ev tab rfl) rfl ?_
    refine WO.nil ?_
    refine qs ?_
    refine condK rfl (fun h35 => ?_) (fun h35 => ?_)
    · skip
      refine W.seq ?_
      refine W.region ?_
      iterate 2 refine pu (ev tab rfl) rfl ?_
      first | refine pu (ev tab rfl) rfl ?_ | refine pu (loadRow tab rfl rfl rfl rfl) rfl ?_ | refine pu (loadBox tab rfl rfl rfl rfl rfl) rfl ?_
      iterate 2 refine pu (ev tab rfl) rfl ?_
      refine WO.nil ?_
      refine qs ?_
      refine W.ret ?_
      refine qbRet ?_
      refine qsRet ?_
      refine QF.ret0 trivial rfl ?_
      rw [hq, ← hI]
      clear hq hI ih
      simp only [norm, normL, oneA, findCol] at *
      rcases lenCases (ks := ks) (by omega) with rfl | ⟨a, rfl⟩ | ⟨a, b, rfl⟩ <;> simp_all [opT, whenT, both] <;> grind
    · skip
      refine W.seq ?_
      refine W.region ?_
      iterate 2 refine pu (ev tab rfl) rfl ?_
      refine WO.nil ?_
      refine qs ?_
      refine condK rfl (fun h40 => ?_) (fun h40 => ?_)
      · skip
        refine W.seq ?_
        refine W.region ?_
        iterate 2 refine pu (ev tab rfl) rfl ?_
        first | refine pu (ev tab rfl) rfl ?_ | refine pu (loadRow tab rfl rfl rfl rfl) rfl ?_ | refine pu (loadBox tab rfl rfl rfl rfl rfl) rfl ?_
        refine pu (puCall rfl rfl rfl (column_fn ..) rfl) rfl ?_
        refine pu (ev tab rfl) rfl ?_
        refine WO.nil ?_
        refine qs ?_
        refine W.seq ?_
        refine W.seq ?_
        refine W.region ?_
        iterate 2 refine pu (ev tab rfl) rfl ?_
        refine WO.nil ?_
        refine qs ?_
        refine condK rfl (fun h47 => ?_) (fun h47 => ?_)
        · skip
          have h5 := find_none (of_decide_eq_true h47)
          refine W.seq ?_
          refine W.region ?_
          iterate 2 refine pu (ev tab rfl) rfl ?_
          refine WO.nil ?_
          refine qs ?_
          refine W.ret ?_
          refine qsRet ?_
          refine qbRet ?_
          refine qsRet ?_
          refine QF.ret0 trivial rfl ?_
          rw [hq, ← hI]
          clear hq hI ih
          simp only [norm, normL, oneA, findCol] at *
          rcases lenCases (ks := ks) (by omega) with rfl | ⟨a, rfl⟩ | ⟨a, b, rfl⟩ <;> simp_all [opT, whenT, both] <;> grind
        · skip
          obtain ⟨i, c, h3, h4, h5, h6⟩ := find_some (of_decide_eq_false h47)
          refine W.skip ?_
          refine qs ?_
          refine W.seq ?_
          refine W.region ?_
          iterate 2 refine pu (ev tab rfl) rfl ?_
          refine pu (indexAddr tab rfl rfl rfl rfl rfl rfl (i := idx _) (by rw [h3]; exact Int.natCast_nonneg _) (by rw [h3]; exact idx_map h4) rfl) rfl ?_
          refine pu (ev tab rfl) rfl ?_
          first | refine pu (ev tab rfl) rfl ?_ | refine pu (loadRow tab rfl rfl rfl rfl) rfl ?_ | refine pu (loadBox tab rfl rfl rfl rfl rfl) rfl ?_
          iterate 2 refine pu (ev tab rfl) rfl ?_
          refine WO.nil ?_
          refine qs ?_
          refine W.ret ?_
          refine qbRet ?_
          refine qsRet ?_
          refine QF.ret0 trivial rfl ?_
          rw [hq, ← hI]
          clear hq hI ih
          simp only [norm, normL, oneA, findCol] at *
          rcases lenCases (ks := ks) (by omega) with rfl | ⟨a, rfl⟩ | ⟨a, b, rfl⟩ <;> simp_all [opT, whenT, both] <;> grind
      · skip
        refine W.seq ?_
        refine W.seq ?_
        refine W.region ?_
        iterate 2 refine pu (ev tab rfl) rfl ?_
        refine WO.nil ?_
        refine qs ?_
        refine condK rfl (fun h53 => ?_) (fun h53 => ?_)
        · skip
          refine W.skip ?_
          refine qs ?_
          refine W.condT rfl ?_
          refine W.seq ?_
          refine W.region ?_
          refine pu (ev tab rfl) rfl ?_
          refine pu (puCall rfl rfl rfl (all_fn ..) rfl) rfl ?_
          refine pu (puCall rfl rfl rfl (when_fn ..) rfl) rfl ?_
          iterate 4 refine pu (ev tab rfl) rfl ?_
          refine WO.nil ?_
          refine qs ?_
          refine W.ret ?_
          refine qbRet ?_
          refine qsRet ?_
          refine QF.ret0 trivial rfl ?_
          rw [hq, ← hI]
          clear hq hI ih
          simp only [norm, normL, oneA, findCol] at *
          rcases lenCases (ks := ks) (by omega) with rfl | ⟨a, rfl⟩ | ⟨a, b, rfl⟩ <;> simp_all [opT, whenT, both] <;> grind
        · skip
          refine W.seq ?_
          refine W.region ?_
          iterate 2 refine pu (ev tab rfl) rfl ?_
          refine WO.nil ?_
          refine qs ?_
          refine condK rfl (fun h53 => ?_) (fun h53 => ?_)
          · skip
            refine W.skip ?_
            refine qs ?_
            refine W.condT rfl ?_
            refine W.seq ?_
            refine W.region ?_
            refine pu (ev tab rfl) rfl ?_
            refine pu (puCall rfl rfl rfl (all_fn ..) rfl) rfl ?_
            refine pu (puCall rfl rfl rfl (when_fn ..) rfl) rfl ?_
            iterate 4 refine pu (ev tab rfl) rfl ?_
            refine WO.nil ?_
            refine qs ?_
            refine W.ret ?_
            refine qbRet ?_
            refine qsRet ?_
            refine QF.ret0 trivial rfl ?_
            rw [hq, ← hI]
            clear hq hI ih
            simp only [norm, normL, oneA, findCol] at *
            rcases lenCases (ks := ks) (by omega) with rfl | ⟨a, rfl⟩ | ⟨a, b, rfl⟩ <;> simp_all [opT, whenT, both] <;> grind
          · skip
            refine W.region ?_
            iterate 2 refine pu (ev tab rfl) rfl ?_
            refine WO.nil ?_
            refine qs ?_
            refine condK rfl (fun h53 => ?_) (fun h53 => ?_)
            · skip
              refine W.seq ?_
              refine W.region ?_
              refine pu (ev tab rfl) rfl ?_
              refine pu (puCall rfl rfl rfl (all_fn ..) rfl) rfl ?_
              refine pu (puCall rfl rfl rfl (when_fn ..) rfl) rfl ?_
              iterate 4 refine pu (ev tab rfl) rfl ?_
              refine WO.nil ?_
              refine qs ?_
              refine W.ret ?_
              refine qbRet ?_
              refine qsRet ?_
              refine QF.ret0 trivial rfl ?_
              rw [hq, ← hI]
              clear hq hI ih
              simp only [norm, normL, oneA, findCol] at *
              rcases lenCases (ks := ks) (by omega) with rfl | ⟨a, rfl⟩ | ⟨a, b, rfl⟩ <;> simp_all [opT, whenT, both] <;> grind
            · skip
              refine W.seq ?_
              refine W.seq ?_
              refine W.region ?_
              iterate 2 refine pu (ev tab rfl) rfl ?_
              refine WO.nil ?_
              refine qs ?_
              refine condK rfl (fun h62 => ?_) (fun h62 => ?_)
              · skip
                have h2l : ks.length = 2 := by rw [hkl]; apply hkv.2.2.2.1 <;> grind
                refine W.skip ?_
                refine qs ?_
                refine W.condT rfl ?_
                refine W.seq ?_
                refine W.regionD tab (by kernel_rfl) ?_
                refine chPu (ev tab rfl) rfl ?_
                refine chPu (indexAddr tab rfl rfl rfl rfl rfl rfl (Int.le_refl _) (at0 (by omega)) rfl) rfl ?_
                first | refine chPu (ev tab rfl) rfl ?_ | refine chPu (loadRow tab rfl rfl rfl rfl) rfl ?_ | refine chPu (loadBox tab rfl rfl rfl rfl rfl) rfl ?_
                refine chPu (ev tab rfl) rfl ?_
                refine chPu (indexAddr tab rfl rfl rfl rfl rfl rfl (by decide) (at1 (by omega)) rfl) rfl ?_
                first | refine chPu (ev tab rfl) rfl ?_ | refine chPu (loadRow tab rfl rfl rfl rfl) rfl ?_ | refine chPu (loadBox tab rfl rfl rfl rfl rfl) rfl ?_
                refine chPu (puCall rfl rfl rfl (fits_fn ..) rfl) rfl ?_
                refine chPu (ev tab rfl) rfl ?_
                refine chSplitG rfl rfl (fun _ => ?_) (fun _ => ?_)
                · skip
                  refine chSkip rfl rfl rfl rfl ?_
                  refine chSkip rfl rfl rfl rfl ?_
                  refine chSkip rfl rfl rfl rfl ?_
                  refine chSkip rfl rfl rfl rfl ?_
                  refine chSkip rfl rfl rfl rfl ?_
                  refine chSkip rfl rfl rfl rfl ?_
                  refine chSkip rfl rfl rfl rfl ?_
                  refine chPu (ev tab rfl) rfl ?_
                  refine chPu (puCall rfl rfl rfl (when_fn ..) rfl) rfl ?_
                  refine chPu (ev tab rfl) rfl ?_
                  refine chPu (ev tab rfl) rfl ?_
                  refine chPu (ev tab rfl) rfl ?_
                  refine chPu (ev tab rfl) rfl ?_
                  refine CH.nil ?_
                  refine qs ?_
                  refine W.ret ?_
                  refine qbRet ?_
                  refine qsRet ?_
                  refine QF.ret0 trivial rfl ?_
                  rw [hq, ← hI]
                  clear hq hI ih
                  simp only [norm, normL, oneA, findCol] at *
                  rcases lenCases (ks := ks) (by omega) with rfl | ⟨a, rfl⟩ | ⟨a, b, rfl⟩ <;> simp_all [opT, whenT, both] <;> grind
                · skip
                  refine chGo rfl rfl (ev tab rfl) rfl ?_
                  refine chGo rfl rfl (indexAddr tab rfl rfl rfl rfl rfl rfl (by decide) (at1 (by omega)) rfl) rfl ?_
                  first | refine chGo rfl rfl (ev tab rfl) rfl ?_ | refine chGo rfl rfl (loadRow tab rfl rfl rfl rfl) rfl ?_ | refine chGo rfl rfl (loadBox tab rfl rfl rfl rfl rfl) rfl ?_
                  refine chGo rfl rfl (ev tab rfl) rfl ?_
                  refine chGo rfl rfl (indexAddr tab rfl rfl rfl rfl rfl rfl (Int.le_refl _) (at0 (by omega)) rfl) rfl ?_
                  first | refine chGo rfl rfl (ev tab rfl) rfl ?_ | refine chGo rfl rfl (loadRow tab rfl rfl rfl rfl) rfl ?_ | refine chGo rfl rfl (loadBox tab rfl rfl rfl rfl rfl) rfl ?_
                  refine chGo rfl rfl (puCall rfl rfl rfl (fits_fn ..) rfl) rfl ?_
                  refine chPu (ev tab rfl) rfl ?_
                  refine chPu (puCall rfl rfl rfl (when_fn ..) rfl) rfl ?_
                  refine chPu (ev tab rfl) rfl ?_
                  refine chPu (ev tab rfl) rfl ?_
                  refine chPu (ev tab rfl) rfl ?_
                  refine chPu (ev tab rfl) rfl ?_
                  refine CH.nil ?_
                  refine qs ?_
                  refine W.ret ?_
                  refine qbRet ?_
                  refine qsRet ?_
                  refine QF.ret0 trivial rfl ?_
                  rw [hq, ← hI]
                  clear hq hI ih
                  simp only [norm, normL, oneA, findCol] at *
                  rcases lenCases (ks := ks) (by omega) with rfl | ⟨a, rfl⟩ | ⟨a, b, rfl⟩ <;> simp_all [opT, whenT, both] <;> grind
              · skip
                refine W.region ?_
                iterate 2 refine pu (ev tab rfl) rfl ?_
                refine WO.nil ?_
                refine qs ?_
                refine condK rfl (fun h62 => ?_) (fun h62 => ?_)
                · skip
                  have h2l : ks.length = 2 := by rw [hkl]; apply hkv.2.2.2.1 <;> grind
                  refine W.seq ?_
                  refine W.regionD tab (by kernel_rfl) ?_
                  refine chPu (ev tab rfl) rfl ?_
                  refine chPu (indexAddr tab rfl rfl rfl rfl rfl rfl (Int.le_refl _) (at0 (by omega)) rfl) rfl ?_
                  first | refine chPu (ev tab rfl) rfl ?_ | refine chPu (loadRow tab rfl rfl rfl rfl) rfl ?_ | refine chPu (loadBox tab rfl rfl rfl rfl rfl) rfl ?_
                  refine chPu (ev tab rfl) rfl ?_
                  refine chPu (indexAddr tab rfl rfl rfl rfl rfl rfl (by decide) (at1 (by omega)) rfl) rfl ?_
                  first | refine chPu (ev tab rfl) rfl ?_ | refine chPu (loadRow tab rfl rfl rfl rfl) rfl ?_ | refine chPu (loadBox tab rfl rfl rfl rfl rfl) rfl ?_
                  refine chPu (puCall rfl rfl rfl (fits_fn ..) rfl) rfl ?_
                  refine chPu (ev tab rfl) rfl ?_
                  refine chSplitG rfl rfl (fun _ => ?_) (fun _ => ?_)
                  · skip
                    refine chSkip rfl rfl rfl rfl ?_
                    refine chSkip rfl rfl rfl rfl ?_
                    refine chSkip rfl rfl rfl rfl ?_
                    refine chSkip rfl rfl rfl rfl ?_
                    refine chSkip rfl rfl rfl rfl ?_
                    refine chSkip rfl rfl rfl rfl ?_
                    refine chSkip rfl rfl rfl rfl ?_
                    refine chPu (ev tab rfl) rfl ?_
                    refine chPu (puCall rfl rfl rfl (when_fn ..) rfl) rfl ?_
                    refine chPu (ev tab rfl) rfl ?_
                    refine chPu (ev tab rfl) rfl ?_
                    refine chPu (ev tab rfl) rfl ?_
                    refine chPu (ev tab rfl) rfl ?_
                    refine CH.nil ?_
                    refine qs ?_
                    refine W.ret ?_
                    refine qbRet ?_
                    refine qsRet ?_
                    refine QF.ret0 trivial rfl ?_
                    rw [hq, ← hI]
                    clear hq hI ih
                    simp only [norm, normL, oneA, findCol] at *
                    rcases lenCases (ks := ks) (by omega) with rfl | ⟨a, rfl⟩ | ⟨a, b, rfl⟩ <;> simp_all [opT, whenT, both] <;> grind
                  · skip
                    refine chGo rfl rfl (ev tab rfl) rfl ?_
                    refine chGo rfl rfl (indexAddr tab rfl rfl rfl rfl rfl rfl (by decide) (at1 (by omega)) rfl) rfl ?_
                    first | refine chGo rfl rfl (ev tab rfl) rfl ?_ | refine chGo rfl rfl (loadRow tab rfl rfl rfl rfl) rfl ?_ | refine chGo rfl rfl (loadBox tab rfl rfl rfl rfl rfl) rfl ?_
                    refine chGo rfl rfl (ev tab rfl) rfl ?_
                    refine chGo rfl rfl (indexAddr tab rfl rfl rfl rfl rfl rfl (Int.le_refl _) (at0 (by omega)) rfl) rfl ?_
                    first | refine chGo rfl rfl (ev tab rfl) rfl ?_ | refine chGo rfl rfl (loadRow tab rfl rfl rfl rfl) rfl ?_ | refine chGo rfl rfl (loadBox tab rfl rfl rfl rfl rfl) rfl ?_
                    refine chGo rfl rfl (puCall rfl rfl rfl (fits_fn ..) rfl) rfl ?_
                    refine chPu (ev tab rfl) rfl ?_
                    refine chPu (puCall rfl rfl rfl (when_fn ..) rfl) rfl ?_
                    refine chPu (ev tab rfl) rfl ?_
                    refine chPu (ev tab rfl) rfl ?_
                    refine chPu (ev tab rfl) rfl ?_
                    refine chPu (ev tab rfl) rfl ?_
                    refine CH.nil ?_
                    refine qs ?_
                    refine W.ret ?_
                    refine qbRet ?_
                    refine qsRet ?_
                    refine QF.ret0 trivial rfl ?_
                    rw [hq, ← hI]
                    clear hq hI ih
                    simp only [norm, normL, oneA, findCol] at *
                    rcases lenCases (ks := ks) (by omega) with rfl | ⟨a, rfl⟩ | ⟨a, b, rfl⟩ <;> simp_all [opT, whenT, both] <;> grind
                · skip
                  refine W.seq ?_
                  refine W.seq ?_
                  refine W.region ?_
                  iterate 2 refine pu (ev tab rfl) rfl ?_
                  refine WO.nil ?_
                  refine qs ?_
                  refine condK rfl (fun h84 => ?_) (fun h84 => ?_)
                  · skip
                    refine W.skip ?_
                    refine qs ?_
                    refine W.condT rfl ?_
                    refine W.seq ?_
                    refine W.region ?_
                    refine pu (ev tab rfl) rfl ?_
                    refine pu (puCall rfl rfl rfl (all_fn ..) rfl) rfl ?_
                    refine pu (ev tab rfl) rfl ?_
                    refine splitG rfl rfl (fun _ => ?_) (fun _ => ?_)
                    · skip
                      refine skipT rfl rfl rfl rfl ?_
                      refine skipT rfl rfl rfl rfl ?_
                      refine pu (ev tab rfl) rfl ?_
                      refine pu (puCall rfl rfl rfl (when_fn ..) rfl) rfl ?_
                      iterate 4 refine pu (ev tab rfl) rfl ?_
                      refine WO.nil ?_
                      refine qs ?_
                      refine W.ret ?_
                      refine qbRet ?_
                      refine qsRet ?_
                      refine QF.ret0 trivial rfl ?_
                      rw [hq, ← hI]
                      clear hq hI ih
                      simp only [norm, normL, oneA, findCol] at *
                      rcases lenCases (ks := ks) (by omega) with rfl | ⟨a, rfl⟩ | ⟨a, b, rfl⟩ <;> simp_all [opT, whenT, both] <;> grind
                    · skip
                      refine goG rfl rfl ?_
                      refine pu (ev tab rfl) rfl ?_
                      refine goG rfl rfl ?_
                      refine pu (puCall rfl rfl rfl (all_fn ..) rfl) rfl ?_
                      refine pu (ev tab rfl) rfl ?_
                      refine pu (puCall rfl rfl rfl (when_fn ..) rfl) rfl ?_
                      iterate 4 refine pu (ev tab rfl) rfl ?_
                      refine WO.nil ?_
                      refine qs ?_
                      refine W.ret ?_
                      refine qbRet ?_
                      refine qsRet ?_
                      refine QF.ret0 trivial rfl ?_
                      rw [hq, ← hI]
                      clear hq hI ih
                      simp only [norm, normL, oneA, findCol] at *
                      rcases lenCases (ks := ks) (by omega) with rfl | ⟨a, rfl⟩ | ⟨a, b, rfl⟩ <;> simp_all [opT, whenT, both] <;> grind
                  · skip
                    refine W.region ?_
                    iterate 2 refine pu (ev tab rfl) rfl ?_
                    refine WO.nil ?_
                    refine qs ?_
                    refine condK rfl (fun h84 => ?_) (fun h84 => ?_)
                    · skip
                      refine W.seq ?_
                      refine W.region ?_
                      refine pu (ev tab rfl) rfl ?_
                      refine pu (puCall rfl rfl rfl (all_fn ..) rfl) rfl ?_
                      refine pu (ev tab rfl) rfl ?_
                      refine splitG rfl rfl (fun _ => ?_) (fun _ => ?_)
                      · skip
                        refine skipT rfl rfl rfl rfl ?_
                        refine skipT rfl rfl rfl rfl ?_
                        refine pu (ev tab rfl) rfl ?_
                        refine pu (puCall rfl rfl rfl (when_fn ..) rfl) rfl ?_
                        iterate 4 refine pu (ev tab rfl) rfl ?_
                        refine WO.nil ?_
                        refine qs ?_
                        refine W.ret ?_
                        refine qbRet ?_
                        refine qsRet ?_
                        refine QF.ret0 trivial rfl ?_
                        rw [hq, ← hI]
                        clear hq hI ih
                        simp only [norm, normL, oneA, findCol] at *
                        rcases lenCases (ks := ks) (by omega) with rfl | ⟨a, rfl⟩ | ⟨a, b, rfl⟩ <;> simp_all [opT, whenT, both] <;> grind
                      · skip
                        refine goG rfl rfl ?_
                        refine pu (ev tab rfl) rfl ?_
                        refine goG rfl rfl ?_
                        refine pu (puCall rfl rfl rfl (all_fn ..) rfl) rfl ?_
                        refine pu (ev tab rfl) rfl ?_
                        refine pu (puCall rfl rfl rfl (when_fn ..) rfl) rfl ?_
                        iterate 4 refine pu (ev tab rfl) rfl ?_
                        refine WO.nil ?_
                        refine qs ?_
                        refine W.ret ?_
                        refine qbRet ?_
                        refine qsRet ?_
                        refine QF.ret0 trivial rfl ?_
                        rw [hq, ← hI]
                        clear hq hI ih
                        simp only [norm, normL, oneA, findCol] at *
                        rcases lenCases (ks := ks) (by omega) with rfl | ⟨a, rfl⟩ | ⟨a, b, rfl⟩ <;> simp_all [opT, whenT, both] <;> grind
                    · skip
                      refine W.seq ?_
                      refine W.region ?_
                      iterate 2 refine pu (ev tab rfl) rfl ?_
                      refine WO.nil ?_
                      refine qs ?_
                      refine condK rfl (fun h96 => ?_) (fun h96 => ?_)
                      · skip
                        have hc := hkv.2.2.1 (by simpa using h96)
                        refine W.seq ?_
                        refine W.region ?_
                        refine pu (ev tab rfl) rfl ?_
                        first | refine pu (ev tab rfl) rfl ?_ | refine pu (loadRow tab rfl rfl rfl rfl) rfl ?_ | refine pu (loadBox tab rfl rfl rfl rfl rfl) rfl ?_
                        refine pu (ev tab rfl) rfl ?_
                        refine pu (puCall rfl rfl rfl (call_fn e.name ks (by rw [hkl]; exact hc.1) hc.2) rfl) rfl ?_
                        iterate 4 refine pu (ev tab rfl) rfl ?_
                        refine WO.nil ?_
                        refine qs ?_
                        refine W.ret ?_
                        refine qbRet ?_
                        refine qsRet ?_
                        refine QF.ret0 trivial rfl ?_
                        rw [hq, ← hI]
                        clear hq hI ih
                        simp only [norm, normL, oneA, findCol] at *
                        rcases lenCases (ks := ks) (by omega) with rfl | ⟨a, rfl⟩ | ⟨a, b, rfl⟩ <;> simp_all [opT, whenT, both] <;> grind
                      · skip
                        refine W.skip ?_
                        refine qbN ?_
                        refine qs ?_
                        refine W.seq ?_
                        refine W.region ?_
                        refine pu (ev tab rfl) rfl ?_
                        refine pu (puCall rfl rfl rfl (all_fn ..) rfl) rfl ?_
                        refine pu (puCall rfl rfl rfl (when_fn ..) rfl) rfl ?_
                        iterate 4 refine pu (ev tab rfl) rfl ?_
                        refine WO.nil ?_
                        refine qs ?_
                        refine W.ret ?_
                        refine QF.ret0 trivial rfl ?_
                        rw [hq, ← hI]
                        by_cases h4 : e.op = 4
                        · obtain ⟨a, rfl⟩ := len1 (l := ks) (by rw [hkl]; exact hkv.2.1 (.inr h4))
                          clear hq hI ih hkv hkl h2 hk hd
                          simp only [norm, normL, oneA, opT, whenT, both, List.getD_cons_zero, List.all_cons, List.all_nil, Bool.and_true, h4]
                          simp
                        · have h2l : ks.length = 2 := by rw [hkl]; apply hkv.2.2.2.1 <;> grind
                          obtain ⟨a, b, rfl⟩ := len2 h2l
                          clear hq hI ih hkv hkl h2l h2 hk hd
                          simp only [norm, normL, oneA, opT, whenT, both, List.getD_cons_zero, List.getD_cons_succ, List.all_cons, List.all_nil, Bool.and_true]
                          simp_all
theorem rtyped_fn (cols : List Col) : ∀ (e : Ex), nodesErr e = 0 → Does Tryz.prog 68 [.d (.sl (cols.map Col.c)), .ag e.c] (.tup [.d (.v (.int .i64 (typ cols e).1)), .d (.v (.int .i64 (typ cols e).2))]) 0 := by
  refine Ex.ind fun e ih => ?_
  intro hv
  have hkv := valid_kids (valid_node hv)
  have hq := typ_eq cols e
  refine Does.of_W (n := 66) (ts := [4, 5]) Tryz.func68 (by kernel_rfl) rfl Tryz.ntmps68 Tryz.results68 rfl rfl fun C hC => ?_
  refine W.seq ?_
  refine W.region ?_
  refine boxR rfl rfl rfl ?_
  iterate 2 refine pu (ev tab rfl) rfl ?_
  refine WO.nil ?_
  refine qs ?_
  refine W.seq ?_
  refine W.seq ?_
  refine W.region ?_
  refine pu (ev tab rfl) rfl ?_
  first | refine pu (ev tab rfl) rfl ?_ | refine pu (loadRow tab rfl rfl rfl rfl) rfl ?_ | refine pu (loadBox tab rfl rfl rfl rfl rfl) rfl ?_
  refine pu (ev tab rfl) rfl ?_
  refine WO.nil ?_
  refine qs ?_
  refine condK rfl (fun h15 => ?_) (fun h15 => ?_)
  · skip
    refine W.seq ?_
    refine W.region ?_
    iterate 2 refine pu (ev tab rfl) rfl ?_
    first | refine pu (ev tab rfl) rfl ?_ | refine pu (loadRow tab rfl rfl rfl rfl) rfl ?_ | refine pu (loadBox tab rfl rfl rfl rfl rfl) rfl ?_
    iterate 2 refine pu (ev tab rfl) rfl ?_
    refine WO.nil ?_
    refine qs ?_
    refine W.ret ?_
    refine qsRet ?_
    refine QF.ret0 trivial rfl ?_
    rw [hq]; simp only [norm, normL, oneA]; simp_all
  · skip
    refine W.skip ?_
    refine qs ?_
    refine W.seq ?_
    refine W.seq ?_
    refine W.region ?_
    refine pu (ev tab rfl) rfl ?_
    first | refine pu (ev tab rfl) rfl ?_ | refine pu (loadRow tab rfl rfl rfl rfl) rfl ?_ | refine pu (loadBox tab rfl rfl rfl rfl rfl) rfl ?_
    refine pu (ev tab rfl) rfl ?_
    refine WO.nil ?_
    refine qs ?_
    refine condK rfl (fun h21 => ?_) (fun h21 => ?_)
    · skip
      refine W.seq ?_
      refine W.region ?_
      iterate 2 refine pu (ev tab rfl) rfl ?_
      first | refine pu (ev tab rfl) rfl ?_ | refine pu (loadRow tab rfl rfl rfl rfl) rfl ?_ | refine pu (loadBox tab rfl rfl rfl rfl rfl) rfl ?_
      refine pu (puCall rfl rfl rfl (rfind_fn ..) rfl) rfl ?_
      refine pu (ev tab rfl) rfl ?_
      refine WO.nil ?_
      refine qs ?_
      refine W.seq ?_
      refine W.seq ?_
      refine W.region ?_
      iterate 2 refine pu (ev tab rfl) rfl ?_
      refine WO.nil ?_
      refine qs ?_
      refine condK rfl (fun h27 => ?_) (fun h27 => ?_)
      · skip
        have h5 := find_none (of_decide_eq_true h27)
        refine W.seq ?_
        refine W.region ?_
        iterate 2 refine pu (ev tab rfl) rfl ?_
        refine WO.nil ?_
        refine qs ?_
        refine W.ret ?_
        refine qsRet ?_
        refine qsRet ?_
        refine QF.ret0 trivial rfl ?_
        rw [hq]; simp only [norm, normL, oneA, findCol, h5]; simp_all
      · skip
        obtain ⟨i, c, h3, h4, h5, h6⟩ := find_some (of_decide_eq_false h27)
        refine W.skip ?_
        refine qs ?_
        refine W.seq ?_
        refine W.region ?_
        iterate 2 refine pu (ev tab rfl) rfl ?_
        refine pu (indexAddr tab rfl rfl rfl rfl rfl rfl (i := idx _) (by rw [h3]; exact Int.natCast_nonneg _) (by rw [h3]; exact idx_map h4) rfl) rfl ?_
        refine pu (ev tab rfl) rfl ?_
        first | refine pu (ev tab rfl) rfl ?_ | refine pu (loadRow tab rfl rfl rfl rfl) rfl ?_ | refine pu (loadBox tab rfl rfl rfl rfl rfl) rfl ?_
        iterate 2 refine pu (ev tab rfl) rfl ?_
        refine WO.nil ?_
        refine qs ?_
        refine W.ret ?_
        refine qsRet ?_
        refine QF.ret0 trivial rfl ?_
        rw [hq]; simp only [norm, normL, oneA, findCol]; simp_all
    · skip
      refine W.skip ?_
      refine qs ?_
      refine W.seq ?_
      refine W.region ?_
      refine pu (ev tab rfl) rfl ?_
      refine WO.nil ?_
      refine qs ?_
      refine W.seq ?_
      refine W.seq ?_
      refine W.region ?_
      refine pu (ev tab rfl) rfl ?_
      refine WO.nil ?_
      refine qs ?_
      refine W.block ?_
      refine lenBox (g := 0) (j := 5) rfl rfl (fun hlen => ?_)
      rw [Ex.kc_len] at hlen
      refine ownNilR (d := 7) rfl rfl ?_
      refine W.loopR (ι := {x : Nat × List Int // match x with | (k, ks) => k ≤ e.kids.length ∧ typL cols (e.kids.drop k) ks = typL cols e.kids [] ∧ ks.length = k})
        (fun x => match x.1 with | (k, ks) => [(3, .ptr 0 0), (7, .own 1 (ks.map ic)), (8, .d (.v (.int .i64 ((k : Nat) : Int))))]) [(0, _)]
        (fun x => match x.1 with | (k, ks) => []) [(0, _)] [1] 2 (fun x => match x.1 with | (k, ks) => e.kids.length - k)
        [0, 1] ⟨(0, []), ?_⟩ rfl ?_ ⟨rfl, rfl, trivial⟩ ?_ ⟨rfl, rfl, trivial⟩ rfl ?_
      · exact ⟨Nat.zero_le _, rfl, rfl⟩
      · repeat' first | exact trivial | refine ⟨rfl, ?_⟩ | refine ⟨step_nat (by assumption) (by assumption), ?_⟩
      · repeat' first | exact trivial | refine ⟨rfl, ?_⟩ | refine ⟨step_nat (by assumption) (by assumption), ?_⟩
      rintro ⟨⟨k, ks⟩, hk, hI, h2⟩
      show W _ _ _ _ _ ⟨[(3, .ptr 0 0), (7, .own 1 (ks.map ic)), (8, .d (.v (.int .i64 ((k : Nat) : Int)))), (0, _)], [(0, _)], [1], 2⟩
      refine W.seq ?_
      refine W.seq ?_
      refine W.region ?_
      iterate 2 refine pu (ev tab rfl) rfl ?_
      first | refine pu (ev tab rfl) rfl ?_ | refine pu (loadRow tab rfl rfl rfl rfl) rfl ?_ | refine pu (loadBox tab rfl rfl rfl rfl rfl) rfl ?_
      iterate 2 refine pu (ev tab rfl) rfl ?_
      refine WO.nil ?_
      refine qs ?_
      refine eachR (l := e.kids) (k := k) rfl (by simp [Ex.kc_len, bytes_len]) hk (fun x hx hd hlt => ?_) (fun he hd => ?_)
      · skip
        rw [hd] at hI
        simp only [typL] at hI
        have hmem := List.mem_of_getElem? hx
        have hne : e.kids ≠ [] := by rintro h; rw [h] at hmem; simp at hmem
        refine W.skip ?_
        refine qs ?_
        refine W.seq ?_
        refine W.block ?_
        refine W.seq ?_
        refine W.region ?_
        iterate 2 refine pu (ev tab rfl) rfl ?_
        first | refine pu (ev tab rfl) rfl ?_ | refine pu (loadRow tab rfl rfl rfl rfl) rfl ?_ | refine pu (loadBox tab rfl rfl rfl rfl rfl) rfl ?_
        refine pu (ev tab rfl) rfl ?_
        refine pu (indexAddr tab rfl rfl rfl rfl rfl rfl (Int.natCast_nonneg _) (Ex.kc_idx hx) rfl) rfl ?_
        first | refine pu (ev tab rfl) rfl ?_ | refine pu (loadRow tab rfl rfl rfl rfl) rfl ?_ | refine pu (loadBox tab rfl rfl rfl rfl rfl) rfl ?_
        refine pu (puCall rfl rfl rfl (ih x hmem (valid_kid hv hmem)) rfl) rfl ?_
        iterate 5 refine pu (ev tab rfl) rfl ?_
        refine WO.nil ?_
        refine qs ?_
        refine W.seq ?_
        refine W.seq ?_
        refine W.region ?_
        iterate 2 refine pu (ev tab rfl) rfl ?_
        refine WO.nil ?_
        refine qs ?_
        refine condK rfl (fun h51 => ?_) (fun h51 => ?_)
        · skip
          rw [if_pos (by simpa using h51)] at hI
          refine W.seq ?_
          refine W.region ?_
          iterate 3 refine pu (ev tab rfl) rfl ?_
          refine WO.nil ?_
          refine qs ?_
          refine W.ret ?_
          refine qsRet ?_
          refine qbRet ?_
          refine qsRet ?_
          refine qlRet ?_
          refine qbRet ?_
          refine qsRet ?_
          refine QF.ret0 trivial rfl ?_
          rw [hq, ← hI]
          simp only [norm, normL, oneA]
          grind
        · skip
          rw [if_neg (by simpa using h51)] at hI
          refine W.skip ?_
          refine qs ?_
          refine W.region ?_
          iterate 2 refine pu (ev tab rfl) rfl ?_
          refine pu (buildV tab rfl rfl rfl rfl rfl rfl rfl rfl rfl) rfl ?_
          refine appendM tab rfl rfl rfl rfl rfl rfl rfl rfl rfl rfl (fun _ => rfl) (by show (ks.length + 1) * 8 ≤ _; omega) ?_
          refine pu (ev tab rfl) rfl ?_
          refine WO.nil ?_
          refine qbN ?_
          refine qs ?_
          refine W.region ?_
          iterate 3 refine pu (ev tab rfl) rfl ?_
          refine WO.nil ?_
          refine W.endR [0, 2] ⟨(k + 1, ks ++ [(typ cols x).1]), ?_⟩ ?_ rfl ?_ ⟨rfl, rfl, trivial⟩ ?_ ⟨rfl, rfl, trivial⟩ rfl
          · exact ⟨hlt, hI, by simp [h2]⟩
          · dsimp only; omega
          · repeat' first | exact trivial | refine ⟨rfl, ?_⟩ | refine ⟨step_nat (by assumption) (by assumption), ?_⟩
          · repeat' first | exact trivial | refine ⟨rfl, ?_⟩ | refine ⟨step_nat (by assumption) (by assumption), ?_⟩
      · skip
        rw [hd] at hI
        simp only [typL] at hI
        have hkl : ks.length = e.kids.length := by omega
        refine W.exit ?_
        refine qsExit ?_
        refine qlExit ?_
        refine qbExit ?_
        refine qs ?_
        refine W.seq ?_
        refine W.region ?_
        first | refine pu (ev tab rfl) rfl ?_ | refine pu (loadRow tab rfl rfl rfl rfl) rfl ?_ | refine pu (loadBox tab rfl rfl rfl rfl rfl) rfl ?_
        refine pu (ev tab rfl) rfl ?_
        refine pu (puCall rfl rfl rfl (operator_fn e ks (valid_node hv) hkl (of_decide_eq_false h15) (of_decide_eq_false h21)) rfl) rfl ?_
        iterate 5 refine pu (ev tab rfl) rfl ?_
        refine WO.nil ?_
        refine qs ?_
        refine W.seq ?_
        refine W.seq ?_
        refine W.region ?_
        iterate 2 refine pu (ev tab rfl) rfl ?_
        refine WO.nil ?_
        refine qs ?_
        refine condK rfl (fun h64 => ?_) (fun h64 => ?_)
        · skip
          refine W.seq ?_
          refine W.region ?_
          iterate 2 refine pu (ev tab rfl) rfl ?_
          refine WO.nil ?_
          refine qs ?_
          refine W.ret ?_
          refine qsRet ?_
          refine QF.ret0 trivial rfl ?_
          rw [hq, ← hI]
          clear hq hI ih hkv hkl h2 hk hd
          simp only [norm, normL, oneA, whenT]
          simp_all
        · skip
          refine W.skip ?_
          refine qs ?_
          refine W.seq ?_
          refine W.region ?_
          iterate 3 refine pu (ev tab rfl) rfl ?_
          refine WO.nil ?_
          refine qs ?_
          refine W.ret ?_
          refine QF.ret0 trivial rfl ?_
          rw [hq, ← hI]
          clear hq hI ih hkv hkl h2 hk hd
          simp only [norm, normL, oneA, whenT]
          simp_all
theorem texpr_fn (cols : List Col) (e : Ex) : Does Tryz.prog 15 [.d (.sl (cols.map Col.c)), .ag e.c] (.tup [.d (.v (.int .i64 (exprT cols e).1)), .d (.v (.int .i64 (exprT cols e).2))]) 0 := by
  refine Does.of_W (n := 17) (ts := [4, 5]) Tryz.func15 (by kernel_rfl) rfl Tryz.ntmps15 Tryz.results15 rfl rfl fun C hC => ?_
  refine W.seq ?_
  refine W.region ?_
  refine boxR rfl rfl rfl ?_
  iterate 2 refine pu (ev tab rfl) rfl ?_
  refine WO.nil ?_
  refine qs ?_
  refine W.seq ?_
  refine W.seq ?_
  refine W.region ?_
  first | refine pu (ev tab rfl) rfl ?_ | refine pu (loadRow tab rfl rfl rfl rfl) rfl ?_ | refine pu (loadBox tab rfl rfl rfl rfl rfl) rfl ?_
  refine pu (puCall rfl rfl rfl (expr_fn ..) rfl) rfl ?_
  refine pu (ev tab rfl) rfl ?_
  refine WO.nil ?_
  refine qs ?_
  refine W.seq ?_
  refine W.region ?_
  iterate 2 refine pu (ev tab rfl) rfl ?_
  refine WO.nil ?_
  refine qs ?_
  refine condK rfl (fun h10 => ?_) (fun h10 => ?_)
  · skip
    refine W.seq ?_
    refine W.region ?_
    iterate 3 refine pu (ev tab rfl) rfl ?_
    refine WO.nil ?_
    refine qs ?_
    refine W.ret ?_
    refine qsRet ?_
    refine QF.ret0 trivial rfl ?_
    simp only [norm, normL, oneA, exprT]; simp_all
  · skip
    have hv := exprErr_zero (by simpa using h10)
    refine W.skip ?_
    refine qs ?_
    refine W.seq ?_
    refine W.region ?_
    refine pu (ev tab rfl) rfl ?_
    first | refine pu (ev tab rfl) rfl ?_ | refine pu (loadRow tab rfl rfl rfl rfl) rfl ?_ | refine pu (loadBox tab rfl rfl rfl rfl rfl) rfl ?_
    refine pu (puCall rfl rfl rfl (tnode_fn cols e hv) rfl) rfl ?_
    iterate 4 refine pu (ev tab rfl) rfl ?_
    refine WO.nil ?_
    refine qs ?_
    refine W.ret ?_
    refine QF.ret0 trivial rfl ?_
    simp only [norm, normL, oneA, exprT]; simp_all
theorem rtexpr_fn (cols : List Col) (e : Ex) : Does Tryz.prog 29 [.d (.sl (cols.map Col.c)), .ag e.c] (.tup [.d (.v (.int .i64 (exprT cols e).1)), .d (.v (.int .i64 (exprT cols e).2))]) 0 := by
  refine Does.of_W (n := 17) (ts := [4, 5]) Tryz.func29 (by kernel_rfl) rfl Tryz.ntmps29 Tryz.results29 rfl rfl fun C hC => ?_
  refine W.seq ?_
  refine W.region ?_
  refine boxR rfl rfl rfl ?_
  iterate 2 refine pu (ev tab rfl) rfl ?_
  refine WO.nil ?_
  refine qs ?_
  refine W.seq ?_
  refine W.region ?_
  first | refine pu (ev tab rfl) rfl ?_ | refine pu (loadRow tab rfl rfl rfl rfl) rfl ?_ | refine pu (loadBox tab rfl rfl rfl rfl rfl) rfl ?_
  refine pu (puCall rfl rfl rfl (rexpr_fn ..) rfl) rfl ?_
  refine pu (ev tab rfl) rfl ?_
  refine WO.nil ?_
  refine qs ?_
  refine W.seq ?_
  refine W.seq ?_
  refine W.region ?_
  iterate 2 refine pu (ev tab rfl) rfl ?_
  refine WO.nil ?_
  refine qs ?_
  refine condK rfl (fun h10 => ?_) (fun h10 => ?_)
  · skip
    refine W.seq ?_
    refine W.region ?_
    iterate 3 refine pu (ev tab rfl) rfl ?_
    refine WO.nil ?_
    refine qs ?_
    refine W.ret ?_
    refine qsRet ?_
    refine QF.ret0 trivial rfl ?_
    simp only [norm, normL, oneA, exprT]; simp_all
  · skip
    have hv := exprErr_zero (by simpa using h10)
    refine W.skip ?_
    refine qs ?_
    refine W.seq ?_
    refine W.region ?_
    refine pu (ev tab rfl) rfl ?_
    first | refine pu (ev tab rfl) rfl ?_ | refine pu (loadRow tab rfl rfl rfl rfl) rfl ?_ | refine pu (loadBox tab rfl rfl rfl rfl rfl) rfl ?_
    refine pu (puCall rfl rfl rfl (rtyped_fn cols e hv) rfl) rfl ?_
    iterate 4 refine pu (ev tab rfl) rfl ?_
    refine WO.nil ?_
    refine qs ?_
    refine W.ret ?_
    refine QF.ret0 trivial rfl ?_
    simp only [norm, normL, oneA, exprT]; simp_all
end Go.Proofs.YtmhjgeneogknpaaGreat
namespace Go.Proofs.YtmhjgeneogknpaaGreat
open Go.Ab Go.Tb
set_option maxRecDepth 10000
attribute [local irreducible] W WO Pu QS QB QL QF QV QV1 CH QE
theorem add_fn (ks : List ByteArray) (s : ByteArray) (h : ks.length ≤ 1000) : DoesB Tryz.prog 83 [.ptr 0 0, .d (.v (.string s))] [[.own 1 (ks.map sc)]] 1 (.d (.v (.int .i64 (addErr ks s)))) [[.own 1 ((addTo ks s).map sc)]] 1 := by
  refine DoesB.of_V tab (n := 24) (rs := [.tmp 4]) Tryz.func83 (by kernel_rfl) rfl Tryz.ntmps83 Tryz.results83 rfl rfl fun C hC => ?_
  refine W.seq ?_
  refine W.region ?_
  refine pu (ev tab rfl) rfl ?_
  refine WO.nil ?_
  refine qs ?_
  refine W.seq ?_
  refine W.seq ?_
  refine W.region ?_
  refine pu (ev tab rfl) rfl ?_
  refine pu (puCall rfl rfl rfl (identifier_fn ..) rfl) rfl ?_
  refine pu (ev tab rfl) rfl ?_
  refine WO.nil ?_
  refine qs ?_
  refine condK rfl (fun h7 => ?_) (fun h7 => ?_)
  · skip
    refine W.seq ?_
    refine W.region ?_
    refine pu (ev tab rfl) rfl ?_
    refine WO.nil ?_
    refine qs ?_
    refine W.ret ?_
    refine qsRet ?_
    refine QB1.end tab [1] trivial rfl rfl rfl rfl ?_ ?_
    · refine ⟨?_, trivial⟩
      have h6 : addTo ks s = ks := by grind [addTo, addErr]
      rw [h6]; rfl
    simp only [ren, oneA, A.d.injEq, D.v.injEq, Value.int.injEq, true_and]; grind [addErr]
  · skip
    refine W.skip ?_
    refine qs ?_
    refine W.seq ?_
    refine W.seq ?_
    refine W.region ?_
    iterate 3 refine pu (ev tab rfl) rfl ?_
    first | refine pu (ev tab rfl) rfl ?_ | refine pu (loadRow tab rfl rfl rfl rfl) rfl ?_ | refine pu (loadBox tab rfl rfl rfl rfl rfl) rfl ?_
    refine pu (ev tab rfl) rfl ?_
    refine pu (puCall rfl rfl rfl (contains_fn ..) rfl) rfl ?_
    refine WO.nil ?_
    refine qs ?_
    refine condK rfl (fun h13 => ?_) (fun h13 => ?_)
    · skip
      refine W.seq ?_
      refine W.region ?_
      refine pu (ev tab rfl) rfl ?_
      refine WO.nil ?_
      refine qs ?_
      refine W.ret ?_
      refine qsRet ?_
      refine QB1.end tab [1] trivial rfl rfl rfl rfl ?_ ?_
      · refine ⟨?_, trivial⟩
        have h6 : addTo ks s = ks := by grind [addTo, addErr]
        rw [h6]; rfl
      simp only [ren, oneA, A.d.injEq, D.v.injEq, Value.int.injEq, true_and]; grind [addErr]
    · skip
      refine W.skip ?_
      refine qs ?_
      refine W.seq ?_
      refine W.region ?_
      iterate 4 refine pu (ev tab rfl) rfl ?_
      first | refine pu (ev tab rfl) rfl ?_ | refine pu (loadRow tab rfl rfl rfl rfl) rfl ?_ | refine pu (loadBox tab rfl rfl rfl rfl rfl) rfl ?_
      refine pu (ev tab rfl) rfl ?_
      refine pu (buildV tab rfl rfl rfl rfl rfl rfl rfl rfl rfl) rfl ?_
      refine appendM tab rfl rfl rfl rfl rfl rfl rfl rfl rfl rfl (fun _ => rfl) (by show (ks.length + 1) * 16 ≤ _; omega) ?_
      iterate 2 refine pu (ev tab rfl) rfl ?_
      refine storeR tab rfl rfl rfl rfl rfl rfl rfl rfl ?_
      refine WO.nil ?_
      refine qs ?_
      refine W.seq ?_
      refine W.region ?_
      refine pu (ev tab rfl) rfl ?_
      refine WO.nil ?_
      refine qs ?_
      refine W.ret ?_
      refine QB1.end tab [2] trivial rfl rfl rfl rfl ?_ ?_
      · refine ⟨?_, trivial⟩
        have h6 : addTo ks s = ks ++ [s] := by grind [addTo, addErr]
        rw [h6]; rfl
      simp only [ren, oneA, A.d.injEq, D.v.injEq, Value.int.injEq, true_and]; grind [addErr]

theorem allNames_fn (ks l : List ByteArray) (h : ks.length + l.length ≤ 1000) : DoesB Tryz.prog 84 [.ptr 0 0, .d (.sl (l.map sc))] [[.own 1 (ks.map sc)]] 1 (.d (.v (.int .i64 (allErr ks l)))) [[.own 1 ((allTo ks l).map sc)]] 1 := by
  refine DoesB.of_V tab (n := 21) (rs := [.tmp 4]) Tryz.func84 (by kernel_rfl) rfl Tryz.ntmps84 Tryz.results84 rfl rfl fun C hC => ?_
  refine W.seq ?_
  refine W.region ?_
  refine pu (ev tab rfl) rfl ?_
  refine WO.nil ?_
  refine qs ?_
  refine W.seq ?_
  refine W.seq ?_
  refine W.region ?_
  iterate 3 refine pu (ev tab rfl) rfl ?_
  refine WO.nil ?_
  refine qs ?_
  refine W.block ?_
  refine W.len (t := 8) rfl rfl (fun hlen => ?_)
  try simp only [List.length_map, Ex.kc_len] at hlen
  refine W.loopR (ι := {x : Nat × List ByteArray // match x with | (k, ns) => k ≤ l.length ∧ allErr ns (l.drop k) = allErr ks l ∧ allTo ns (l.drop k) = allTo ks l ∧ ns.length ≤ ks.length + k})
    (fun x => match x.1 with | (k, ns) => [(0, .ptr 0 0), (10, .d (.v (.int .i64 ((k : Nat) : Int))))]) [(8, _), (9, _)]
    (fun x => match x.1 with | (k, ns) => [(0, [.own 1 (ns.map sc)])]) [] [1] 2 (fun x => match x.1 with | (k, ns) => l.length - k)
    [0, 1] ⟨(0, ks), ?_⟩ rfl ?_ ⟨rfl, rfl, rfl, rfl, trivial⟩ ?_ trivial rfl ?_
  · exact ⟨Nat.zero_le _, rfl, rfl, Nat.le_refl _⟩
  · repeat' first | exact trivial | refine ⟨rfl, ?_⟩ | refine ⟨step_nat (by assumption) (by assumption), ?_⟩
  · repeat' first | exact trivial | refine ⟨rfl, ?_⟩ | refine ⟨step_nat (by assumption) (by assumption), ?_⟩
  rintro ⟨⟨k, ns⟩, hk, hI, hJ, hL⟩
  show W _ _ _ _ _ ⟨[(0, .ptr 0 0), (10, .d (.v (.int .i64 ((k : Nat) : Int)))), (8, _), (9, _)], [(0, [.own 1 (ns.map sc)])], [1], 2⟩
  refine W.seq ?_
  refine W.region ?_
  refine pu (ev tab rfl) rfl ?_
  refine WO.nil ?_
  refine qs ?_
  refine W.seq ?_
  refine eachR (l := l) (k := k) rfl (by simp [Ex.kc_len, bytes_len]) hk (fun x hx hd hlt => ?_) (fun he hd => ?_)
  · skip
    rw [hd] at hI hJ
    simp only [allErr, allTo] at hI hJ
    refine W.skip ?_
    refine qs ?_
    refine W.seq ?_
    refine W.block ?_
    refine W.seq ?_
    refine W.region ?_
    refine pu (indexAddr tab rfl rfl rfl rfl rfl rfl (Int.natCast_nonneg _) (idx_map hx) rfl) rfl ?_
    first | refine pu (ev tab rfl) rfl ?_ | refine pu (loadRow tab rfl rfl rfl rfl) rfl ?_ | refine pu (loadBox tab rfl rfl rfl rfl rfl) rfl ?_
    refine pu (ev tab rfl) rfl ?_
    refine WO.nil ?_
    refine qs ?_
    refine W.seq ?_
    refine W.region ?_
    iterate 2 refine pu (ev tab rfl) rfl ?_
    refine callB [0] [1] rfl rfl rfl rfl rfl ((add_fn ns x (by omega))) rfl rfl (by rfl) (by rfl) rfl rfl rfl rfl ?_
    refine pu (ev tab rfl) rfl ?_
    refine WO.nil ?_
    refine qs ?_
    refine W.seq ?_
    refine W.region ?_
    iterate 2 refine pu (ev tab rfl) rfl ?_
    refine WO.nil ?_
    refine qs ?_
    refine condK rfl (fun h18 => ?_) (fun h18 => ?_)
    · skip
      have h18 : addErr ns x ≠ 0 := by simpa using h18
      rw [if_pos h18] at hI hJ
      refine W.seq ?_
      refine W.region ?_
      iterate 2 refine pu (ev tab rfl) rfl ?_
      refine WO.nil ?_
      refine qs ?_
      refine W.ret ?_
      refine qbRet ?_
      refine qsRet ?_
      refine qlRet ?_
      refine qbRet ?_
      refine qsRet ?_
      refine QB1.end tab [3] trivial rfl rfl rfl rfl ?_ ?_
      · refine ⟨?_, trivial⟩
        have hto : addTo ns x = allTo ks l := by rw [← hJ]; simp [addTo, h18]
        rw [← hto]; rfl
      rw [← hI]; rfl
    · skip
      have h18 : addErr ns x = 0 := by simpa using h18
      rw [if_neg (by simp [h18])] at hI hJ
      have hto : addTo ns x = ns ++ [x] := by simp [addTo, h18]
      refine W.skip ?_
      refine qbN ?_
      refine qs ?_
      refine W.region ?_
      iterate 2 refine pu (ev tab rfl) rfl ?_
      refine WO.nil ?_
      refine W.endR [0, 3] ⟨(k + 1, addTo ns x), ?_⟩ ?_ rfl ?_ ⟨rfl, rfl, rfl, rfl, trivial⟩ ?_ trivial rfl
      · refine ⟨hlt, ?_, ?_, ?_⟩
        · rw [hto]; exact hI
        · rw [hto]; exact hJ
        · rw [hto]; simp; omega
      · dsimp only; omega
      · repeat' first | exact trivial | refine ⟨rfl, ?_⟩ | refine ⟨step_nat (by assumption) (by assumption), ?_⟩
      · repeat' first | exact trivial | refine ⟨rfl, ?_⟩ | refine ⟨step_nat (by assumption) (by assumption), ?_⟩
  · skip
    rw [hd] at hI hJ
    simp only [allErr, allTo] at hI hJ
    refine W.exit ?_
    refine qsExit ?_
    refine qlExit ?_
    refine qbExit ?_
    refine qs ?_
    refine W.seq ?_
    refine W.region ?_
    refine pu (ev tab rfl) rfl ?_
    refine WO.nil ?_
    refine qs ?_
    refine W.ret ?_
    refine QB1.end tab [1] trivial rfl rfl rfl rfl ?_ ?_
    · refine ⟨?_, trivial⟩
      rw [← hJ]; rfl
    rw [← hI]; rfl

theorem size_fn (n m : Int) : Does Tryz.prog 45 [.d (.v (.int .i64 n)), .d (.v (.int .i64 m))] (.d (.v (.int .i64 (sizeErr n m)))) 0 := by
  refine Does.of_W (n := 12) (ts := [4]) Tryz.func45 (by kernel_rfl) rfl Tryz.ntmps45 Tryz.results45 rfl rfl fun C hC => ?_
  refine W.seq ?_
  refine W.region ?_
  refine pu (ev tab rfl) rfl ?_
  refine WO.nil ?_
  refine qs ?_
  refine W.seq ?_
  refine W.block ?_
  refine W.seq ?_
  refine W.region ?_
  iterate 4 refine pu (ev tab rfl) rfl ?_
  refine WO.nil ?_
  refine qs ?_
  refine condK rfl (fun h5 => ?_) (fun h5 => ?_)
  · skip
    refine W.seq ?_
    refine W.region ?_
    refine pu (ev tab rfl) rfl ?_
    refine WO.nil ?_
    refine qs ?_
    refine W.ret ?_
    refine qbRet ?_
    refine qsRet ?_
    refine QF.ret0 trivial rfl ?_
    simp only [norm, oneA] at *; grind [sizeErr]
  · skip
    refine W.seq ?_
    refine W.region ?_
    iterate 3 refine pu (ev tab rfl) rfl ?_
    refine WO.nil ?_
    refine qs ?_
    refine condK rfl (fun h9 => ?_) (fun h9 => ?_)
    · skip
      refine W.seq ?_
      refine W.region ?_
      refine pu (ev tab rfl) rfl ?_
      refine WO.nil ?_
      refine qs ?_
      refine W.ret ?_
      refine qbRet ?_
      refine qsRet ?_
      refine QF.ret0 trivial rfl ?_
      simp only [norm, oneA] at *; grind [sizeErr]
    · skip
      refine W.skip ?_
      refine qbN ?_
      refine qs ?_
      refine W.seq ?_
      refine W.region ?_
      refine pu (ev tab rfl) rfl ?_
      refine WO.nil ?_
      refine qs ?_
      refine W.ret ?_
      refine QF.ret0 trivial rfl ?_
      simp only [norm, oneA] at *; grind [sizeErr]

theorem columns_fn (l : List ByteArray) (m : Int) : Does Tryz.prog 48 [.d (.sl (l.map sc)), .d (.v (.int .i64 m))] (.d (.v (.int .i64 (columnsErr l m)))) 0 := by
  refine Does.of_W (n := 16) (ts := [4]) Tryz.func48 (by kernel_rfl) rfl Tryz.ntmps48 Tryz.results48 rfl rfl fun C hC => ?_
  refine W.seq ?_
  refine W.region ?_
  refine pu (ev tab rfl) rfl ?_
  refine WO.nil ?_
  refine qs ?_
  refine W.seq ?_
  refine W.seq ?_
  refine W.region ?_
  iterate 3 refine pu (ev tab rfl) rfl ?_
  refine pu (puCall rfl rfl rfl (size_fn ..) rfl) rfl ?_
  refine pu (ev tab rfl) rfl ?_
  refine WO.nil ?_
  refine qs ?_
  refine W.seq ?_
  refine W.region ?_
  iterate 2 refine pu (ev tab rfl) rfl ?_
  refine WO.nil ?_
  refine qs ?_
  refine condK rfl (fun h12 => ?_) (fun h12 => ?_)
  · skip
    refine W.seq ?_
    refine W.region ?_
    iterate 2 refine pu (ev tab rfl) rfl ?_
    refine WO.nil ?_
    refine qs ?_
    refine W.ret ?_
    refine qsRet ?_
    refine QF.ret0 trivial rfl ?_
    simp only [norm, oneA, back] at *; grind [columnsErr]
  · skip
    have h12 : sizeErr l.length m = 0 := by simpa using h12
    have hl16 : l.length ≤ 16 := by unfold sizeErr at h12; split at h12; omega; split at h12 <;> omega
    refine W.skip ?_
    refine qs ?_
    refine W.seq ?_
    refine W.region ?_
    refine allocR tab rfl rfl rfl ?_
    refine WO.nil ?_
    refine qs ?_
    refine W.seq ?_
    refine W.region ?_
    refine ownNilBoxO 0 0 rfl rfl rfl ?_
    refine pu (ev tab rfl) rfl ?_
    refine callB [0] [1] rfl rfl rfl rfl rfl ((allNames_fn [] l (by simp; omega))) rfl rfl (by rfl) (by rfl) rfl rfl rfl rfl ?_
    refine pu (ev tab rfl) rfl ?_
    refine WO.nil ?_
    refine qs ?_
    refine W.ret ?_
    refine QF.ret0 trivial rfl ?_
    simp only [norm, oneA, back] at *; grind [columnsErr]
end Go.Proofs.YtmhjgeneogknpaaGreat
