import Derived.Test.YtlmgnlhagpoggaaQ2
import Derived.Test.YtlmgnlhagpoggaaChecked
import Derived.KernelRfl
/- The table of the program's types, for the data level. Made by a program of this repo (gentab.py). -/
namespace Go.Proofs.Ytlmgnlhagpoggaa
open Go.Ab
abbrev tabL : List (Nat × TyD) := [
  (2, ⟨.int .i64, 1, 8, [.int .i64 0]⟩),
  (3, ⟨.int .i64, 1, 8, [.int .i64 0]⟩),
  (4, ⟨.bool, 1, 1, [.bool false]⟩),
  (5, ⟨.int .u8, 1, 1, [.int .u8 0]⟩),
  (9, ⟨.str, 1, 16, [.string ⟨#[]⟩]⟩),
  (12, ⟨.int .u64, 1, 8, [.int .u64 0]⟩),
  (20, ⟨.leaf, 1, 16, [.nilIface]⟩),
  (21, ⟨.int .i32, 1, 4, [.int .i32 0]⟩),
  (22, ⟨.slice 38, 1, 24, [.slice none 0 0]⟩),
  (23, ⟨.int .i64, 1, 8, [.int .i64 0]⟩),
  (24, ⟨.int .i64, 1, 8, [.int .i64 0]⟩),
  (26, ⟨.st [(0, 24, "Kind"), (1, 3, "N"), (2, 9, "S")], 3, 32, [.int .i64 0, .int .i64 0, .string ⟨#[]⟩]⟩),
  (27, ⟨.slice 29, 1, 24, [.slice none 0 0]⟩),
  (29, ⟨.st [(0, 23, "Op"), (1, 9, "Name"), (2, 26, "V"), (5, 27, "Kids")], 6, 80, [.int .i64 0, .string ⟨#[]⟩, .int .i64 0, .int .i64 0, .string ⟨#[]⟩, .slice none 0 0]⟩),
  (33, ⟨.int .i64, 1, 8, [.int .i64 0]⟩),
  (38, ⟨.st [(0, 9, "Name"), (1, 24, "Type")], 2, 24, [.string ⟨#[]⟩, .int .i64 0]⟩),
  (40, ⟨.int .i64, 1, 8, [.int .i64 0]⟩),
  (41, ⟨.slice 9, 1, 24, [.slice none 0 0]⟩),
  (43, ⟨.st [(0, 9, "Fn"), (1, 9, "Col"), (2, 9, "As")], 3, 48, [.string ⟨#[]⟩, .string ⟨#[]⟩, .string ⟨#[]⟩]⟩),
  (44, ⟨.slice 43, 1, 24, [.slice none 0 0]⟩),
  (45, ⟨.slice 90, 1, 24, [.slice none 0 0]⟩),
  (46, ⟨.slice 74, 1, 24, [.slice none 0 0]⟩),
  (48, ⟨.st [(0, 40, "Op"), (1, 29, "Cond"), (7, 45, "Items"), (8, 41, "Cols"), (9, 44, "Aggs"), (10, 46, "Sorts"), (11, 3, "N"), (12, 9, "Table")], 13, 208, [.int .i64 0, .int .i64 0, .string ⟨#[]⟩, .int .i64 0, .int .i64 0, .string ⟨#[]⟩, .slice none 0 0, .slice none 0 0, .slice none 0 0, .slice none 0 0, .slice none 0 0, .int .i64 0, .string ⟨#[]⟩]⟩),
  (51, ⟨.slice 102, 1, 24, [.slice none 0 0]⟩),
  (53, ⟨.st [(0, 22, "Cols"), (1, 51, "Rows")], 2, 48, [.slice none 0 0, .slice none 0 0]⟩),
  (55, ⟨.st [(0, 9, "Name"), (1, 53, "Table")], 3, 64, [.string ⟨#[]⟩, .slice none 0 0, .slice none 0 0]⟩),
  (56, ⟨.slice 55, 1, 24, [.slice none 0 0]⟩),
  (57, ⟨.slice 48, 1, 24, [.slice none 0 0]⟩),
  (59, ⟨.st [(0, 9, "From"), (1, 57, "Steps")], 2, 40, [.string ⟨#[]⟩, .slice none 0 0]⟩),
  (74, ⟨.st [(0, 9, "Col"), (1, 4, "Desc")], 2, 24, [.string ⟨#[]⟩, .bool false]⟩),
  (78, ⟨.slice 24, 1, 24, [.slice none 0 0]⟩),
  (90, ⟨.st [(0, 29, "E"), (6, 9, "As")], 7, 96, [.int .i64 0, .string ⟨#[]⟩, .int .i64 0, .int .i64 0, .string ⟨#[]⟩, .slice none 0 0, .string ⟨#[]⟩]⟩),
  (97, ⟨.slice 22, 1, 24, [.slice none 0 0]⟩),
  (102, ⟨.slice 26, 1, 24, [.slice none 0 0]⟩),
  (104, ⟨.slice 40, 1, 24, [.slice none 0 0]⟩),
  (108, ⟨.st [(0, 41, "names")], 1, 24, [.slice none 0 0]⟩),
  (118, ⟨.ptr 108, 1, 8, [.pointer none]⟩),
  (126, ⟨.int .u32, 1, 4, [.int .u32 0]⟩),
  (130, ⟨.ptr 5, 1, 8, [.pointer none]⟩)]
theorem tab_ok : tabL.all (fun x => tyOK Try.prog x.1 x.2) = true := by kernel_rfl
abbrev tab : Tab Try.prog := ⟨tabL, tab_ok, by kernel_rfl⟩
instance progMet : Met Try.prog := ⟨fun _ => True⟩
end Go.Proofs.Ytlmgnlhagpoggaa
namespace Go.Proofs.Ytlmgnlhagpoggaa
open Go.Ab Go.Tb
set_option maxRecDepth 10000
attribute [local irreducible] W WO Pu QS QB QL QF QV QV1 CH QE
theorem fits_fn (k want : Int) : Does Try.prog 20 [.d (.v (.int .i64 k)), .d (.v (.int .i64 want))] (.d (.v (.bool (fits k want)))) 0 := by
  refine Does.of_W (n := 12) (ts := [4]) Try.func20 (by kernel_rfl) rfl Try.ntmps20 Try.results20 rfl rfl fun C hC hG => ?_
  refine W.seq ?_
  refine W.region ?_
  refine pu (ev tab rfl) rfl ?_
  refine WO.nil ?_
  refine qs ?_
  refine W.seq ?_
  apply regionB; (case hb => rfl)
  · skip
    iterate 4 refine pu (ev tab rfl) rfl ?_
    apply splitJ; (case hj => rfl); (case hl => rfl)
    · skip
      refine skipT rfl rfl rfl rfl ?_
      refine skipT rfl rfl rfl rfl ?_
      iterate 2 refine pu (ev tab rfl) rfl ?_
      refine WO.nil ?_
      refine qv1 rfl rfl rfl
    · skip
      refine goG rfl rfl ?_
      refine pu (ev tab rfl) rfl ?_
      refine goG rfl rfl ?_
      iterate 3 refine pu (ev tab rfl) rfl ?_
      refine WO.nil ?_
      refine qv1 rfl rfl rfl
  refine qs ?_
  refine W.ret ?_
  refine QF.ret0 trivial rfl ?_
  simp [norm, oneA, fits]



theorem in_fn (n : Int) : Does Try.prog 64 [.d (.v (.int .i64 n))] (.d (.v (.bool (inR n)))) 0 := by
  refine Does.of_W (n := 9) (ts := [2]) Try.func64 (by kernel_rfl) rfl Try.ntmps64 Try.results64 rfl rfl fun C hC hG => ?_
  refine W.seq ?_
  refine W.region ?_
  refine pu (ev tab rfl) rfl ?_
  refine WO.nil ?_
  refine qs ?_
  refine W.seq ?_
  apply regionB; (case hb => rfl)
  · skip
    iterate 3 refine pu (ev tab rfl) rfl ?_
    apply splitJ; (case hj => rfl); (case hl => rfl)
    · skip
      refine goG rfl rfl ?_
      refine pu (ev tab rfl) rfl ?_
      refine goG rfl rfl ?_
      iterate 3 refine pu (ev tab rfl) rfl ?_
      refine WO.nil ?_
      refine qv1 rfl rfl rfl
    · skip
      refine skipT rfl rfl rfl rfl ?_
      refine skipT rfl rfl rfl rfl ?_
      iterate 2 refine pu (ev tab rfl) rfl ?_
      refine WO.nil ?_
      refine qv1 rfl rfl rfl
  refine qs ?_
  refine W.ret ?_
  refine QF.ret0 trivial rfl ?_
  simp [norm, oneA, inR]

theorem when_fn (ok : Bool) (k : Int) : Does Try.prog 28 [.d (.v (.bool ok)), .d (.v (.int .i64 k))] (.tup [.d (.v (.int .i64 (if ok then k else 0))), .d (.v (.int .i64 (if ok then 0 else 14)))]) 0 := by
  refine Does.of_W (n := 9) (ts := [4, 5]) Try.func28 (by kernel_rfl) rfl Try.ntmps28 Try.results28 rfl rfl fun C hC hG => ?_
  refine W.seq ?_
  refine W.region ?_
  iterate 2 refine pu (ev tab rfl) rfl ?_
  refine WO.nil ?_
  refine qs ?_
  refine W.seq ?_
  refine W.seq ?_
  refine W.region ?_
  iterate 2 refine pu (ev tab rfl) rfl ?_
  refine WO.nil ?_
  refine qs ?_
  refine condK rfl (fun h7 => ?_) (fun h7 => ?_)
  · skip
    refine W.seq ?_
    refine W.region ?_
    iterate 2 refine pu (ev tab rfl) rfl ?_
    refine WO.nil ?_
    refine qs ?_
    refine W.ret ?_
    refine qsRet ?_
    refine QF.ret0 trivial rfl ?_
    simp_all [norm, oneA, normL]
  · skip
    refine W.skip ?_
    refine qs ?_
    refine W.seq ?_
    refine W.region ?_
    iterate 3 refine pu (ev tab rfl) rfl ?_
    refine WO.nil ?_
    refine qs ?_
    refine W.ret ?_
    refine QF.ret0 trivial rfl ?_
    simp_all [norm, oneA, normL]

theorem arity_fn (s : ByteArray) : Does Try.prog 60 [.d (.v (.string s))] (.d (.v (.int .i64 (arity s)))) 0 := by
  refine Does.of_W (n := 12) (ts := [2]) Try.func60 (by kernel_rfl) rfl Try.ntmps60 Try.results60 rfl rfl fun C hC hG => ?_
  refine W.seq ?_
  refine W.region ?_
  refine pu (ev tab rfl) rfl ?_
  refine WO.nil ?_
  refine qs ?_
  refine W.seq ?_
  refine W.seq ?_
  refine W.region ?_
  refine pu (ev tab rfl) rfl ?_
  refine WO.nil ?_
  refine qs ?_
  refine W.block ?_
  refine W.seq ?_
  refine W.seq ?_
  refine W.region ?_
  iterate 2 refine pu (ev tab rfl) rfl ?_
  refine WO.nil ?_
  refine qs ?_
  refine condK rfl (fun h4 => ?_) (fun h4 => ?_)
  · skip
    refine W.skip ?_
    refine qs ?_
    refine W.condT rfl ?_
    refine W.seq ?_
    refine W.region ?_
    refine pu (ev tab rfl) rfl ?_
    refine WO.nil ?_
    refine qs ?_
    refine W.ret ?_
    refine qbRet ?_
    refine qsRet ?_
    refine QF.ret0 trivial rfl ?_
    simp_all [norm, oneA, arity, wMin, wMax, wHas, wStarts, wAbs, wLen]
  · skip
    refine W.seq ?_
    refine W.region ?_
    iterate 2 refine pu (ev tab rfl) rfl ?_
    refine WO.nil ?_
    refine qs ?_
    refine condK rfl (fun h4 => ?_) (fun h4 => ?_)
    · skip
      refine W.skip ?_
      refine qs ?_
      refine W.condT rfl ?_
      refine W.seq ?_
      refine W.region ?_
      refine pu (ev tab rfl) rfl ?_
      refine WO.nil ?_
      refine qs ?_
      refine W.ret ?_
      refine qbRet ?_
      refine qsRet ?_
      refine QF.ret0 trivial rfl ?_
      simp_all [norm, oneA, arity, wMin, wMax, wHas, wStarts, wAbs, wLen]
    · skip
      refine W.seq ?_
      refine W.region ?_
      iterate 2 refine pu (ev tab rfl) rfl ?_
      refine WO.nil ?_
      refine qs ?_
      refine condK rfl (fun h4 => ?_) (fun h4 => ?_)
      · skip
        refine W.skip ?_
        refine qs ?_
        refine W.condT rfl ?_
        refine W.seq ?_
        refine W.region ?_
        refine pu (ev tab rfl) rfl ?_
        refine WO.nil ?_
        refine qs ?_
        refine W.ret ?_
        refine qbRet ?_
        refine qsRet ?_
        refine QF.ret0 trivial rfl ?_
        simp_all [norm, oneA, arity, wMin, wMax, wHas, wStarts, wAbs, wLen]
      · skip
        refine W.region ?_
        iterate 2 refine pu (ev tab rfl) rfl ?_
        refine WO.nil ?_
        refine qs ?_
        refine condK rfl (fun h4 => ?_) (fun h4 => ?_)
        · skip
          refine W.seq ?_
          refine W.region ?_
          refine pu (ev tab rfl) rfl ?_
          refine WO.nil ?_
          refine qs ?_
          refine W.ret ?_
          refine qbRet ?_
          refine qsRet ?_
          refine QF.ret0 trivial rfl ?_
          simp_all [norm, oneA, arity, wMin, wMax, wHas, wStarts, wAbs, wLen]
        · skip
          refine W.seq ?_
          refine W.seq ?_
          refine W.region ?_
          iterate 2 refine pu (ev tab rfl) rfl ?_
          refine WO.nil ?_
          refine qs ?_
          refine condK rfl (fun h9 => ?_) (fun h9 => ?_)
          · skip
            refine W.skip ?_
            refine qs ?_
            refine W.condT rfl ?_
            refine W.seq ?_
            refine W.region ?_
            refine pu (ev tab rfl) rfl ?_
            refine WO.nil ?_
            refine qs ?_
            refine W.ret ?_
            refine qbRet ?_
            refine qsRet ?_
            refine QF.ret0 trivial rfl ?_
            simp_all [norm, oneA, arity, wMin, wMax, wHas, wStarts, wAbs, wLen]
          · skip
            refine W.region ?_
            iterate 2 refine pu (ev tab rfl) rfl ?_
            refine WO.nil ?_
            refine qs ?_
            refine condK rfl (fun h9 => ?_) (fun h9 => ?_)
            · skip
              refine W.seq ?_
              refine W.region ?_
              refine pu (ev tab rfl) rfl ?_
              refine WO.nil ?_
              refine qs ?_
              refine W.ret ?_
              refine qbRet ?_
              refine qsRet ?_
              refine QF.ret0 trivial rfl ?_
              simp_all [norm, oneA, arity, wMin, wMax, wHas, wStarts, wAbs, wLen]
            · skip
              refine W.skip ?_
              refine qbN ?_
              refine qs ?_
              refine W.seq ?_
              refine W.region ?_
              refine pu (ev tab rfl) rfl ?_
              refine WO.nil ?_
              refine qs ?_
              refine W.ret ?_
              refine QF.ret0 trivial rfl ?_
              simp_all [norm, oneA, arity, wMin, wMax, wHas, wStarts, wAbs, wLen]


theorem value_fn (k : Int) (v : Val) : Does Try.prog 51 [.d (.v (.int .i64 k)), .ag v.c] (.d (.v (.int .i64 (valErr k v)))) 0 := by
  refine Does.of_W (n := 85) (ts := [4]) Try.func51 (by kernel_rfl) rfl Try.ntmps51 Try.results51 rfl rfl fun C hC hG => ?_
  refine W.seq ?_
  refine W.region ?_
  refine boxR rfl rfl rfl ?_
  refine pu (ev tab rfl) rfl ?_
  refine WO.nil ?_
  refine qs ?_
  refine W.seq ?_
  apply regionB; (case hb => rfl)
  · skip
    iterate 3 refine pu (ev tab rfl) rfl ?_
    apply splitJ; (case hj => rfl); (case hl => rfl)
    · skip
      refine skipT rfl rfl rfl rfl ?_
      refine skipT rfl rfl rfl rfl ?_
      iterate 2 refine pu (ev tab rfl) rfl ?_
      refine skipT rfl rfl rfl rfl ?_
      refine skipT rfl rfl rfl rfl ?_
      iterate 2 refine pu (ev tab rfl) rfl ?_
      refine WO.nil ?_
      refine qv1 rfl rfl rfl
    · skip
      refine goG rfl rfl ?_
      refine pu (ev tab rfl) rfl ?_
      refine goG rfl rfl ?_
      iterate 3 refine pu (ev tab rfl) rfl ?_
      apply splitJ; (case hj => rfl); (case hl => rfl)
      · skip
        refine skipT rfl rfl rfl rfl ?_
        refine skipT rfl rfl rfl rfl ?_
        iterate 2 refine pu (ev tab rfl) rfl ?_
        refine WO.nil ?_
        refine qv1 rfl rfl rfl
      · skip
        refine goG rfl rfl ?_
        refine pu (ev tab rfl) rfl ?_
        refine goG rfl rfl ?_
        iterate 3 refine pu (ev tab rfl) rfl ?_
        refine WO.nil ?_
        refine qv1 rfl rfl rfl
  refine qs ?_
  refine W.seq ?_
  refine W.block ?_
  refine W.seq ?_
  apply regionB; (case hb => rfl)
  · skip
    refine pu (ev tab rfl) rfl ?_
    first | refine pu (ev tab rfl) rfl ?_ | refine pu (loadRow tab rfl rfl rfl rfl) rfl ?_ | refine pu (loadBox tab rfl rfl rfl rfl rfl) rfl ?_
    iterate 2 refine pu (ev tab rfl) rfl ?_
    apply splitJ; (case hj => rfl); (case hl => rfl)
    · skip
      refine goG rfl rfl ?_
      refine pu (ev tab rfl) rfl ?_
      refine goG rfl rfl ?_
      first | refine pu (ev tab rfl) rfl ?_ | refine pu (loadRow tab rfl rfl rfl rfl) rfl ?_ | refine pu (loadBox tab rfl rfl rfl rfl rfl) rfl ?_
      refine goG rfl rfl ?_
      refine pu (ev tab rfl) rfl ?_
      refine goG rfl rfl ?_
      refine pu (ev tab rfl) rfl ?_
      refine goG rfl rfl ?_
      refine pu (ev tab rfl) rfl ?_
      apply splitJ; (case hj => rfl); (case hl => rfl)
      · skip
        refine skipT rfl rfl rfl rfl ?_
        refine skipT rfl rfl rfl rfl ?_
        refine goG rfl rfl ?_
        iterate 3 refine pu (ev tab rfl) rfl ?_
        refine WO.nil ?_
        refine qv1 rfl rfl rfl
      · skip
        refine goG rfl rfl ?_
        refine pu (ev tab rfl) rfl ?_
        refine goG rfl rfl ?_
        refine pu (ev tab rfl) rfl ?_
        refine goG rfl rfl ?_
        iterate 3 refine pu (ev tab rfl) rfl ?_
        refine WO.nil ?_
        refine qv1 rfl rfl rfl
    · skip
      refine skipT rfl rfl rfl rfl ?_
      refine skipT rfl rfl rfl rfl ?_
      refine skipT rfl rfl rfl rfl ?_
      refine skipT rfl rfl rfl rfl ?_
      refine skipT rfl rfl rfl rfl ?_
      refine skipU rfl rfl rfl ?_
      refine skipU rfl rfl rfl ?_
      refine skipT rfl rfl rfl rfl ?_
      iterate 2 refine pu (ev tab rfl) rfl ?_
      refine WO.nil ?_
      refine qv1 rfl rfl rfl
  refine qs ?_
  refine condK rfl (fun h16 => ?_) (fun h16 => ?_)
  · skip
    refine W.seq ?_
    refine W.region ?_
    refine pu (ev tab rfl) rfl ?_
    refine WO.nil ?_
    refine qs ?_
    refine W.ret ?_
    refine qbRet ?_
    refine qsRet ?_
    refine QF.ret0 trivial rfl ?_
    simp only [norm, oneA, Val.c] at *; grind [valErr]
  · skip
    refine W.seq ?_
    refine W.seq ?_
    apply regionB; (case hb => rfl)
    · skip
      refine pu (ev tab rfl) rfl ?_
      first | refine pu (ev tab rfl) rfl ?_ | refine pu (loadRow tab rfl rfl rfl rfl) rfl ?_ | refine pu (loadBox tab rfl rfl rfl rfl rfl) rfl ?_
      iterate 2 refine pu (ev tab rfl) rfl ?_
      apply splitJ; (case hj => rfl); (case hl => rfl)
      · skip
        refine goG rfl rfl ?_
        refine pu (ev tab rfl) rfl ?_
        refine goG rfl rfl ?_
        first | refine pu (ev tab rfl) rfl ?_ | refine pu (loadRow tab rfl rfl rfl rfl) rfl ?_ | refine pu (loadBox tab rfl rfl rfl rfl rfl) rfl ?_
        refine goG rfl rfl ?_
        iterate 3 refine pu (ev tab rfl) rfl ?_
        apply splitJ; (case hj => rfl); (case hl => rfl)
        · skip
          refine goG rfl rfl ?_
          refine pu (ev tab rfl) rfl ?_
          refine goG rfl rfl ?_
          first | refine pu (ev tab rfl) rfl ?_ | refine pu (loadRow tab rfl rfl rfl rfl) rfl ?_ | refine pu (loadBox tab rfl rfl rfl rfl rfl) rfl ?_
          refine goG rfl rfl ?_
          iterate 3 refine pu (ev tab rfl) rfl ?_
          refine WO.nil ?_
          refine qv1 rfl rfl rfl
        · skip
          refine skipT rfl rfl rfl rfl ?_
          refine skipT rfl rfl rfl rfl ?_
          refine skipT rfl rfl rfl rfl ?_
          iterate 2 refine pu (ev tab rfl) rfl ?_
          refine WO.nil ?_
          refine qv1 rfl rfl rfl
      · skip
        refine skipT rfl rfl rfl rfl ?_
        refine skipT rfl rfl rfl rfl ?_
        refine skipT rfl rfl rfl rfl ?_
        iterate 2 refine pu (ev tab rfl) rfl ?_
        refine skipT rfl rfl rfl rfl ?_
        refine skipT rfl rfl rfl rfl ?_
        refine skipT rfl rfl rfl rfl ?_
        iterate 2 refine pu (ev tab rfl) rfl ?_
        refine WO.nil ?_
        refine qv1 rfl rfl rfl
    refine qs ?_
    refine condK rfl (fun h30 => ?_) (fun h30 => ?_)
    · skip
      refine W.skip ?_
      refine qs ?_
      refine W.condT rfl ?_
      refine W.seq ?_
      refine W.region ?_
      refine pu (ev tab rfl) rfl ?_
      refine WO.nil ?_
      refine qs ?_
      refine W.ret ?_
      refine qbRet ?_
      refine qsRet ?_
      refine QF.ret0 trivial rfl ?_
      simp only [norm, oneA, Val.c] at *; grind [valErr]
    · skip
      apply regionB; (case hb => rfl)
      · skip
        refine pu (ev tab rfl) rfl ?_
        first | refine pu (ev tab rfl) rfl ?_ | refine pu (loadRow tab rfl rfl rfl rfl) rfl ?_ | refine pu (loadBox tab rfl rfl rfl rfl rfl) rfl ?_
        iterate 2 refine pu (ev tab rfl) rfl ?_
        apply splitJ; (case hj => rfl); (case hl => rfl)
        · skip
          refine goG rfl rfl ?_
          refine pu (ev tab rfl) rfl ?_
          refine goG rfl rfl ?_
          first | refine pu (ev tab rfl) rfl ?_ | refine pu (loadRow tab rfl rfl rfl rfl) rfl ?_ | refine pu (loadBox tab rfl rfl rfl rfl rfl) rfl ?_
          refine goG rfl rfl ?_
          refine pu (puCall rfl rfl rfl (in_fn ..) rfl) rfl ?_
          refine goG rfl rfl ?_
          iterate 3 refine pu (ev tab rfl) rfl ?_
          refine WO.nil ?_
          refine qv1 rfl rfl rfl
        · skip
          refine skipT rfl rfl rfl rfl ?_
          refine skipT rfl rfl rfl rfl ?_
          refine skipT rfl rfl rfl rfl ?_
          refine skipT rfl rfl rfl rfl ?_
          iterate 2 refine pu (ev tab rfl) rfl ?_
          refine WO.nil ?_
          refine qv1 rfl rfl rfl
      refine qs ?_
      refine condK rfl (fun h30 => ?_) (fun h30 => ?_)
      · skip
        refine W.seq ?_
        refine W.region ?_
        refine pu (ev tab rfl) rfl ?_
        refine WO.nil ?_
        refine qs ?_
        refine W.ret ?_
        refine qbRet ?_
        refine qsRet ?_
        refine QF.ret0 trivial rfl ?_
        simp only [norm, oneA, Val.c] at *; grind [valErr]
      · skip
        refine W.seq ?_
        apply regionB; (case hb => rfl)
        · skip
          refine pu (ev tab rfl) rfl ?_
          first | refine pu (ev tab rfl) rfl ?_ | refine pu (loadRow tab rfl rfl rfl rfl) rfl ?_ | refine pu (loadBox tab rfl rfl rfl rfl rfl) rfl ?_
          iterate 2 refine pu (ev tab rfl) rfl ?_
          apply splitJ; (case hj => rfl); (case hl => rfl)
          · skip
            refine goG rfl rfl ?_
            refine pu (ev tab rfl) rfl ?_
            refine goG rfl rfl ?_
            first | refine pu (ev tab rfl) rfl ?_ | refine pu (loadRow tab rfl rfl rfl rfl) rfl ?_ | refine pu (loadBox tab rfl rfl rfl rfl rfl) rfl ?_
            refine goG rfl rfl ?_
            refine pu (ev tab rfl) rfl ?_
            refine goG rfl rfl ?_
            iterate 3 refine pu (ev tab rfl) rfl ?_
            refine WO.nil ?_
            refine qv1 rfl rfl rfl
          · skip
            refine skipT rfl rfl rfl rfl ?_
            refine skipT rfl rfl rfl rfl ?_
            refine skipT rfl rfl rfl rfl ?_
            refine skipT rfl rfl rfl rfl ?_
            iterate 2 refine pu (ev tab rfl) rfl ?_
            refine WO.nil ?_
            refine qv1 rfl rfl rfl
        refine qs ?_
        refine condK rfl (fun h53 => ?_) (fun h53 => ?_)
        · skip
          refine W.seq ?_
          refine W.region ?_
          refine pu (ev tab rfl) rfl ?_
          refine WO.nil ?_
          refine qs ?_
          refine W.ret ?_
          refine qbRet ?_
          refine qsRet ?_
          refine QF.ret0 trivial rfl ?_
          simp only [norm, oneA, Val.c] at *; grind [valErr]
        · skip
          refine W.seq ?_
          refine W.seq ?_
          apply regionB; (case hb => rfl)
          · skip
            refine pu (ev tab rfl) rfl ?_
            first | refine pu (ev tab rfl) rfl ?_ | refine pu (loadRow tab rfl rfl rfl rfl) rfl ?_ | refine pu (loadBox tab rfl rfl rfl rfl rfl) rfl ?_
            iterate 2 refine pu (ev tab rfl) rfl ?_
            apply splitJ; (case hj => rfl); (case hl => rfl)
            · skip
              refine goG rfl rfl ?_
              refine pu (ev tab rfl) rfl ?_
              refine goG rfl rfl ?_
              first | refine pu (ev tab rfl) rfl ?_ | refine pu (loadRow tab rfl rfl rfl rfl) rfl ?_ | refine pu (loadBox tab rfl rfl rfl rfl rfl) rfl ?_
              refine goG rfl rfl ?_
              iterate 3 refine pu (ev tab rfl) rfl ?_
              refine WO.nil ?_
              refine qv1 rfl rfl rfl
            · skip
              refine skipT rfl rfl rfl rfl ?_
              refine skipT rfl rfl rfl rfl ?_
              refine skipT rfl rfl rfl rfl ?_
              iterate 2 refine pu (ev tab rfl) rfl ?_
              refine WO.nil ?_
              refine qv1 rfl rfl rfl
          refine qs ?_
          refine condK rfl (fun h63 => ?_) (fun h63 => ?_)
          · skip
            refine W.skip ?_
            refine qs ?_
            refine W.condT rfl ?_
            refine W.seq ?_
            refine W.region ?_
            refine pu (ev tab rfl) rfl ?_
            refine WO.nil ?_
            refine qs ?_
            refine W.ret ?_
            refine qbRet ?_
            refine qsRet ?_
            refine QF.ret0 trivial rfl ?_
            simp only [norm, oneA, Val.c] at *; grind [valErr]
          · skip
            apply regionB; (case hb => rfl)
            · skip
              refine pu (ev tab rfl) rfl ?_
              first | refine pu (ev tab rfl) rfl ?_ | refine pu (loadRow tab rfl rfl rfl rfl) rfl ?_ | refine pu (loadBox tab rfl rfl rfl rfl rfl) rfl ?_
              iterate 2 refine pu (ev tab rfl) rfl ?_
              apply splitJ; (case hj => rfl); (case hl => rfl)
              · skip
                refine skipT rfl rfl rfl rfl ?_
                refine skipT rfl rfl rfl rfl ?_
                refine skipT rfl rfl rfl rfl ?_
                iterate 2 refine pu (ev tab rfl) rfl ?_
                refine goG rfl rfl ?_
                refine pu (ev tab rfl) rfl ?_
                refine goG rfl rfl ?_
                first | refine pu (ev tab rfl) rfl ?_ | refine pu (loadRow tab rfl rfl rfl rfl) rfl ?_ | refine pu (loadBox tab rfl rfl rfl rfl rfl) rfl ?_
                refine goG rfl rfl ?_
                iterate 3 refine pu (ev tab rfl) rfl ?_
                refine WO.nil ?_
                refine qv1 rfl rfl rfl
              · skip
                refine goG rfl rfl ?_
                refine pu (ev tab rfl) rfl ?_
                refine goG rfl rfl ?_
                first | refine pu (ev tab rfl) rfl ?_ | refine pu (loadRow tab rfl rfl rfl rfl) rfl ?_ | refine pu (loadBox tab rfl rfl rfl rfl rfl) rfl ?_
                refine goG rfl rfl ?_
                iterate 3 refine pu (ev tab rfl) rfl ?_
                apply splitJ; (case hj => rfl); (case hl => rfl)
                · skip
                  refine goG rfl rfl ?_
                  refine pu (ev tab rfl) rfl ?_
                  refine goG rfl rfl ?_
                  first | refine pu (ev tab rfl) rfl ?_ | refine pu (loadRow tab rfl rfl rfl rfl) rfl ?_ | refine pu (loadBox tab rfl rfl rfl rfl rfl) rfl ?_
                  refine goG rfl rfl ?_
                  iterate 3 refine pu (ev tab rfl) rfl ?_
                  refine WO.nil ?_
                  refine qv1 rfl rfl rfl
                · skip
                  refine skipT rfl rfl rfl rfl ?_
                  refine skipT rfl rfl rfl rfl ?_
                  refine skipT rfl rfl rfl rfl ?_
                  iterate 2 refine pu (ev tab rfl) rfl ?_
                  refine WO.nil ?_
                  refine qv1 rfl rfl rfl
            refine qs ?_
            refine condK rfl (fun h63 => ?_) (fun h63 => ?_)
            · skip
              refine W.seq ?_
              refine W.region ?_
              refine pu (ev tab rfl) rfl ?_
              refine WO.nil ?_
              refine qs ?_
              refine W.ret ?_
              refine qbRet ?_
              refine qsRet ?_
              refine QF.ret0 trivial rfl ?_
              simp only [norm, oneA, Val.c] at *; grind [valErr]
            · skip
              refine W.skip ?_
              refine qbN ?_
              refine qs ?_
              refine W.seq ?_
              refine W.region ?_
              refine pu (ev tab rfl) rfl ?_
              refine WO.nil ?_
              refine qs ?_
              refine W.ret ?_
              refine QF.ret0 trivial rfl ?_
              simp only [norm, oneA, Val.c] at *; grind [valErr]

end Go.Proofs.Ytlmgnlhagpoggaa
namespace Go.Proofs.Ytlmgnlhagpoggaa
open Go.Ab Go.Tb
set_option maxRecDepth 10000
attribute [local irreducible] W WO Pu QS QB QL QF QV QV1 CH QE
theorem idxCol_fn (fid : Nat) (caps : List A) (hc : Still caps) (p : Col → Bool) (hp : ∀ x : Col, Does Try.prog fid (.ag x.c :: caps) (.d (.v (.bool (p x)))) 0) (l : List Col) :
    Does Try.prog 40 [.d (.sl (l.map Col.c)), .clo fid caps] (.d (.v (.int .i64 (idx (l.findIdx? p))))) 0 := by
  refine Does.of_W (n := 19) (ts := [4]) Try.func40 (by kernel_rfl) rfl Try.ntmps40 Try.results40 rfl rfl fun C hC hG => ?_
  refine W.seq ?_
  refine W.region ?_
  refine pu (ev tab rfl) rfl ?_
  refine WO.nil ?_
  refine qs ?_
  refine W.seq ?_
  refine W.seq ?_
  refine W.region ?_
  iterate 3 refine pu (ev tab rfl) rfl ?_
  refine WO.nil ?_
  refine qs ?_
  refine W.block ?_
  refine W.len (t := 0) rfl rfl (fun hlen => ?_)
  try simp only [List.length_map, Ex.kc_len] at hlen
  refine W.loopR (ι := {x : Nat // match x with | k => k ≤ l.length ∧ noneBefore p l k})
    (fun x => match x.1 with | k => [(8, .d (.v (.int .i64 ((k : Nat) : Int))))]) [(0, _), (1, _), (7, _)]
    (fun x => match x.1 with | k => []) [] [] 0 (fun x => match x.1 with | k => l.length - k)
    [] ⟨0, ?_⟩ rfl ?_ ⟨rfl, (by first | rfl | exact hc.2), rfl, (by first | rfl | exact hc.2), rfl, (by first | rfl | exact hc.2), trivial⟩ ?_ trivial rfl ?_
  · exact ⟨Nat.zero_le _, noneBefore.zero⟩
  · repeat' first | exact trivial | refine ⟨rfl, ?_⟩ | refine ⟨step_nat (by assumption) (by assumption), ?_⟩
  · repeat' first | exact trivial | refine ⟨rfl, ?_⟩ | refine ⟨step_nat (by assumption) (by assumption), ?_⟩
  rintro ⟨k, hk, hI⟩
  show W _ _ _ _ _ ⟨[(8, .d (.v (.int .i64 ((k : Nat) : Int)))), (0, _), (1, _), (7, _)], [], [], 0⟩
  refine W.seq ?_
  refine W.region ?_
  refine pu (ev tab rfl) rfl ?_
  refine WO.nil ?_
  refine qs ?_
  refine W.seq ?_
  refine eachR (l := l) (k := k) rfl (by simp [Ex.kc_len, bytes_len]) hk (fun x hx hd hlt => ?_) (fun he hd => ?_)
  · skip
    refine W.skip ?_
    refine qs ?_
    refine W.seq ?_
    refine W.block ?_
    refine W.seq ?_
    refine W.region ?_
    iterate 2 refine pu (ev tab rfl) rfl ?_
    refine WO.nil ?_
    refine qs ?_
    refine W.seq ?_
    refine W.region ?_
    iterate 3 refine pu (ev tab rfl) rfl ?_
    refine pu (indexAddr tab rfl rfl rfl rfl rfl rfl (Int.natCast_nonneg _) (idx_map (by assumption)) rfl) rfl ?_
    first | refine pu (ev tab rfl) rfl ?_ | refine pu (loadRow tab rfl rfl rfl rfl) rfl ?_ | refine pu (loadBox tab rfl rfl rfl rfl rfl) rfl ?_
    refine pu (puCall rfl rfl (by rw [List.map_append, hc.1 _ 3]; rfl) (hp x) rfl) rfl ?_
    refine WO.nil ?_
    refine qs ?_
    refine condK rfl (fun h16 => ?_) (fun h16 => ?_)
    · skip
      refine W.seq ?_
      refine W.region ?_
      iterate 2 refine pu (ev tab rfl) rfl ?_
      refine WO.nil ?_
      refine qs ?_
      refine W.ret ?_
      refine qbRet ?_
      refine qsRet ?_
      refine qlRet ?_
      refine qbRet ?_
      refine qsRet ?_
      refine QF.ret0 trivial rfl ?_
      simp only [norm, oneA]; rw [hI.found hx h16]; rfl
    · skip
      refine W.skip ?_
      refine qbN ?_
      refine qs ?_
      refine W.region ?_
      iterate 2 refine pu (ev tab rfl) rfl ?_
      refine WO.nil ?_
      refine W.endR [] ⟨k + 1, ?_⟩ ?_ rfl ?_ ⟨rfl, (by first | rfl | exact hc.2), rfl, (by first | rfl | exact hc.2), rfl, (by first | rfl | exact hc.2), trivial⟩ ?_ trivial rfl
      · exact ⟨hlt, hI.step hx h16⟩
      · dsimp only; omega
      · repeat' first | exact trivial | refine ⟨rfl, ?_⟩ | refine ⟨step_nat (by assumption) (by assumption), ?_⟩
      · repeat' first | exact trivial | refine ⟨rfl, ?_⟩ | refine ⟨step_nat (by assumption) (by assumption), ?_⟩
  · skip
    refine W.exit ?_
    refine qsExit ?_
    refine qlExit ?_
    refine qbExit ?_
    refine qs ?_
    refine W.seq ?_
    refine W.region ?_
    refine pu (ev tab rfl) rfl ?_
    refine WO.nil ?_
    refine qs ?_
    refine W.ret ?_
    refine QF.ret0 trivial rfl ?_
    simp only [norm, oneA]; rw [hI.end_ he]; rfl
theorem idxStr_fn (fid : Nat) (caps : List A) (hc : Still caps) (p : ByteArray → Bool) (hp : ∀ x : ByteArray, Does Try.prog fid (.d (.v (.string x)) :: caps) (.d (.v (.bool (p x)))) 0) (l : List ByteArray) :
    Does Try.prog 58 [.d (.sl (l.map sc)), .clo fid caps] (.d (.v (.int .i64 (idx (l.findIdx? p))))) 0 := by
  refine Does.of_W (n := 19) (ts := [4]) Try.func58 (by kernel_rfl) rfl Try.ntmps58 Try.results58 rfl rfl fun C hC hG => ?_
  refine W.seq ?_
  refine W.region ?_
  refine pu (ev tab rfl) rfl ?_
  refine WO.nil ?_
  refine qs ?_
  refine W.seq ?_
  refine W.seq ?_
  refine W.region ?_
  iterate 3 refine pu (ev tab rfl) rfl ?_
  refine WO.nil ?_
  refine qs ?_
  refine W.block ?_
  refine W.len (t := 0) rfl rfl (fun hlen => ?_)
  try simp only [List.length_map, Ex.kc_len] at hlen
  refine W.loopR (ι := {x : Nat // match x with | k => k ≤ l.length ∧ noneBefore p l k})
    (fun x => match x.1 with | k => [(8, .d (.v (.int .i64 ((k : Nat) : Int))))]) [(0, _), (1, _), (7, _)]
    (fun x => match x.1 with | k => []) [] [] 0 (fun x => match x.1 with | k => l.length - k)
    [] ⟨0, ?_⟩ rfl ?_ ⟨rfl, (by first | rfl | exact hc.2), rfl, (by first | rfl | exact hc.2), rfl, (by first | rfl | exact hc.2), trivial⟩ ?_ trivial rfl ?_
  · exact ⟨Nat.zero_le _, noneBefore.zero⟩
  · repeat' first | exact trivial | refine ⟨rfl, ?_⟩ | refine ⟨step_nat (by assumption) (by assumption), ?_⟩
  · repeat' first | exact trivial | refine ⟨rfl, ?_⟩ | refine ⟨step_nat (by assumption) (by assumption), ?_⟩
  rintro ⟨k, hk, hI⟩
  show W _ _ _ _ _ ⟨[(8, .d (.v (.int .i64 ((k : Nat) : Int)))), (0, _), (1, _), (7, _)], [], [], 0⟩
  refine W.seq ?_
  refine W.region ?_
  refine pu (ev tab rfl) rfl ?_
  refine WO.nil ?_
  refine qs ?_
  refine W.seq ?_
  refine eachR (l := l) (k := k) rfl (by simp [Ex.kc_len, bytes_len]) hk (fun x hx hd hlt => ?_) (fun he hd => ?_)
  · skip
    refine W.skip ?_
    refine qs ?_
    refine W.seq ?_
    refine W.block ?_
    refine W.seq ?_
    refine W.region ?_
    iterate 2 refine pu (ev tab rfl) rfl ?_
    refine WO.nil ?_
    refine qs ?_
    refine W.seq ?_
    refine W.region ?_
    iterate 3 refine pu (ev tab rfl) rfl ?_
    refine pu (indexAddr tab rfl rfl rfl rfl rfl rfl (Int.natCast_nonneg _) (idx_map (by assumption)) rfl) rfl ?_
    first | refine pu (ev tab rfl) rfl ?_ | refine pu (loadRow tab rfl rfl rfl rfl) rfl ?_ | refine pu (loadBox tab rfl rfl rfl rfl rfl) rfl ?_
    refine pu (puCall rfl rfl (by rw [List.map_append, hc.1 _ 3]; rfl) (hp x) rfl) rfl ?_
    refine WO.nil ?_
    refine qs ?_
    refine condK rfl (fun h16 => ?_) (fun h16 => ?_)
    · skip
      refine W.seq ?_
      refine W.region ?_
      iterate 2 refine pu (ev tab rfl) rfl ?_
      refine WO.nil ?_
      refine qs ?_
      refine W.ret ?_
      refine qbRet ?_
      refine qsRet ?_
      refine qlRet ?_
      refine qbRet ?_
      refine qsRet ?_
      refine QF.ret0 trivial rfl ?_
      simp only [norm, oneA]; rw [hI.found hx h16]; rfl
    · skip
      refine W.skip ?_
      refine qbN ?_
      refine qs ?_
      refine W.region ?_
      iterate 2 refine pu (ev tab rfl) rfl ?_
      refine WO.nil ?_
      refine W.endR [] ⟨k + 1, ?_⟩ ?_ rfl ?_ ⟨rfl, (by first | rfl | exact hc.2), rfl, (by first | rfl | exact hc.2), rfl, (by first | rfl | exact hc.2), trivial⟩ ?_ trivial rfl
      · exact ⟨hlt, hI.step hx h16⟩
      · dsimp only; omega
      · repeat' first | exact trivial | refine ⟨rfl, ?_⟩ | refine ⟨step_nat (by assumption) (by assumption), ?_⟩
      · repeat' first | exact trivial | refine ⟨rfl, ?_⟩ | refine ⟨step_nat (by assumption) (by assumption), ?_⟩
  · skip
    refine W.exit ?_
    refine qsExit ?_
    refine qlExit ?_
    refine qbExit ?_
    refine qs ?_
    refine W.seq ?_
    refine W.region ?_
    refine pu (ev tab rfl) rfl ?_
    refine WO.nil ?_
    refine qs ?_
    refine W.ret ?_
    refine QF.ret0 trivial rfl ?_
    simp only [norm, oneA]; rw [hI.end_ he]; rfl
theorem idxKind_fn (fid : Nat) (caps : List A) (hc : Still caps) (p : Int → Bool) (hp : ∀ x : Int, Does Try.prog fid (.d (.v (.int .i64 x)) :: caps) (.d (.v (.bool (p x)))) 0) (l : List Int) :
    Does Try.prog 61 [.d (.sl (l.map ic)), .clo fid caps] (.d (.v (.int .i64 (idx (l.findIdx? p))))) 0 := by
  refine Does.of_W (n := 19) (ts := [4]) Try.func61 (by kernel_rfl) rfl Try.ntmps61 Try.results61 rfl rfl fun C hC hG => ?_
  refine W.seq ?_
  refine W.region ?_
  refine pu (ev tab rfl) rfl ?_
  refine WO.nil ?_
  refine qs ?_
  refine W.seq ?_
  refine W.seq ?_
  refine W.region ?_
  iterate 3 refine pu (ev tab rfl) rfl ?_
  refine WO.nil ?_
  refine qs ?_
  refine W.block ?_
  refine W.len (t := 0) rfl rfl (fun hlen => ?_)
  try simp only [List.length_map, Ex.kc_len] at hlen
  refine W.loopR (ι := {x : Nat // match x with | k => k ≤ l.length ∧ noneBefore p l k})
    (fun x => match x.1 with | k => [(8, .d (.v (.int .i64 ((k : Nat) : Int))))]) [(0, _), (1, _), (7, _)]
    (fun x => match x.1 with | k => []) [] [] 0 (fun x => match x.1 with | k => l.length - k)
    [] ⟨0, ?_⟩ rfl ?_ ⟨rfl, (by first | rfl | exact hc.2), rfl, (by first | rfl | exact hc.2), rfl, (by first | rfl | exact hc.2), trivial⟩ ?_ trivial rfl ?_
  · exact ⟨Nat.zero_le _, noneBefore.zero⟩
  · repeat' first | exact trivial | refine ⟨rfl, ?_⟩ | refine ⟨step_nat (by assumption) (by assumption), ?_⟩
  · repeat' first | exact trivial | refine ⟨rfl, ?_⟩ | refine ⟨step_nat (by assumption) (by assumption), ?_⟩
  rintro ⟨k, hk, hI⟩
  show W _ _ _ _ _ ⟨[(8, .d (.v (.int .i64 ((k : Nat) : Int)))), (0, _), (1, _), (7, _)], [], [], 0⟩
  refine W.seq ?_
  refine W.region ?_
  refine pu (ev tab rfl) rfl ?_
  refine WO.nil ?_
  refine qs ?_
  refine W.seq ?_
  refine eachR (l := l) (k := k) rfl (by simp [Ex.kc_len, bytes_len]) hk (fun x hx hd hlt => ?_) (fun he hd => ?_)
  · skip
    refine W.skip ?_
    refine qs ?_
    refine W.seq ?_
    refine W.block ?_
    refine W.seq ?_
    refine W.region ?_
    iterate 2 refine pu (ev tab rfl) rfl ?_
    refine WO.nil ?_
    refine qs ?_
    refine W.seq ?_
    refine W.region ?_
    iterate 3 refine pu (ev tab rfl) rfl ?_
    refine pu (indexAddr tab rfl rfl rfl rfl rfl rfl (Int.natCast_nonneg _) (idx_map (by assumption)) rfl) rfl ?_
    first | refine pu (ev tab rfl) rfl ?_ | refine pu (loadRow tab rfl rfl rfl rfl) rfl ?_ | refine pu (loadBox tab rfl rfl rfl rfl rfl) rfl ?_
    refine pu (puCall rfl rfl (by rw [List.map_append, hc.1 _ 3]; rfl) (hp x) rfl) rfl ?_
    refine WO.nil ?_
    refine qs ?_
    refine condK rfl (fun h16 => ?_) (fun h16 => ?_)
    · skip
      refine W.seq ?_
      refine W.region ?_
      iterate 2 refine pu (ev tab rfl) rfl ?_
      refine WO.nil ?_
      refine qs ?_
      refine W.ret ?_
      refine qbRet ?_
      refine qsRet ?_
      refine qlRet ?_
      refine qbRet ?_
      refine qsRet ?_
      refine QF.ret0 trivial rfl ?_
      simp only [norm, oneA]; rw [hI.found hx h16]; rfl
    · skip
      refine W.skip ?_
      refine qbN ?_
      refine qs ?_
      refine W.region ?_
      iterate 2 refine pu (ev tab rfl) rfl ?_
      refine WO.nil ?_
      refine W.endR [] ⟨k + 1, ?_⟩ ?_ rfl ?_ ⟨rfl, (by first | rfl | exact hc.2), rfl, (by first | rfl | exact hc.2), rfl, (by first | rfl | exact hc.2), trivial⟩ ?_ trivial rfl
      · exact ⟨hlt, hI.step hx h16⟩
      · dsimp only; omega
      · repeat' first | exact trivial | refine ⟨rfl, ?_⟩ | refine ⟨step_nat (by assumption) (by assumption), ?_⟩
      · repeat' first | exact trivial | refine ⟨rfl, ?_⟩ | refine ⟨step_nat (by assumption) (by assumption), ?_⟩
  · skip
    refine W.exit ?_
    refine qsExit ?_
    refine qlExit ?_
    refine qbExit ?_
    refine qs ?_
    refine W.seq ?_
    refine W.region ?_
    refine pu (ev tab rfl) rfl ?_
    refine WO.nil ?_
    refine qs ?_
    refine W.ret ?_
    refine QF.ret0 trivial rfl ?_
    simp only [norm, oneA]; rw [hI.end_ he]; rfl
theorem index_fn (l : List ByteArray) (s : ByteArray) : Does Try.prog 57 [.d (.sl (l.map sc)), .d (.v (.string s))] (.d (.v (.int .i64 (idx (l.findIdx? fun x => decide (s = x)))))) 0 := by
  refine Does.of_W (n := 19) (ts := [4]) Try.func57 (by kernel_rfl) rfl Try.ntmps57 Try.results57 rfl rfl fun C hC hG => ?_
  refine W.seq ?_
  refine W.region ?_
  refine pu (ev tab rfl) rfl ?_
  refine WO.nil ?_
  refine qs ?_
  refine W.seq ?_
  refine W.seq ?_
  refine W.region ?_
  iterate 3 refine pu (ev tab rfl) rfl ?_
  refine WO.nil ?_
  refine qs ?_
  refine W.block ?_
  refine W.len (t := 0) rfl rfl (fun hlen => ?_)
  try simp only [List.length_map, Ex.kc_len] at hlen
  refine W.loopR (ι := {x : Nat // match x with | k => k ≤ l.length ∧ noneBefore (fun x => decide (s = x)) l k})
    (fun x => match x.1 with | k => [(8, .d (.v (.int .i64 ((k : Nat) : Int))))]) [(0, _), (1, _), (7, _)]
    (fun x => match x.1 with | k => []) [] [] 0 (fun x => match x.1 with | k => l.length - k)
    [] ⟨0, ?_⟩ rfl ?_ ⟨rfl, rfl, rfl, rfl, rfl, rfl, trivial⟩ ?_ trivial rfl ?_
  · exact ⟨Nat.zero_le _, noneBefore.zero⟩
  · repeat' first | exact trivial | refine ⟨rfl, ?_⟩ | refine ⟨step_nat (by assumption) (by assumption), ?_⟩
  · repeat' first | exact trivial | refine ⟨rfl, ?_⟩ | refine ⟨step_nat (by assumption) (by assumption), ?_⟩
  rintro ⟨k, hk, hI⟩
  show W _ _ _ _ _ ⟨[(8, .d (.v (.int .i64 ((k : Nat) : Int)))), (0, _), (1, _), (7, _)], [], [], 0⟩
  refine W.seq ?_
  refine W.region ?_
  refine pu (ev tab rfl) rfl ?_
  refine WO.nil ?_
  refine qs ?_
  refine W.seq ?_
  refine eachR (l := l) (k := k) rfl (by simp [Ex.kc_len, bytes_len]) hk (fun x hx hd hlt => ?_) (fun he hd => ?_)
  · skip
    refine W.skip ?_
    refine qs ?_
    refine W.seq ?_
    refine W.block ?_
    refine W.seq ?_
    refine W.region ?_
    iterate 2 refine pu (ev tab rfl) rfl ?_
    refine WO.nil ?_
    refine qs ?_
    refine W.seq ?_
    refine W.region ?_
    iterate 3 refine pu (ev tab rfl) rfl ?_
    refine pu (indexAddr tab rfl rfl rfl rfl rfl rfl (Int.natCast_nonneg _) (idx_map (by assumption)) rfl) rfl ?_
    first | refine pu (ev tab rfl) rfl ?_ | refine pu (loadRow tab rfl rfl rfl rfl) rfl ?_ | refine pu (loadBox tab rfl rfl rfl rfl rfl) rfl ?_
    refine pu (ev tab rfl) rfl ?_
    refine WO.nil ?_
    refine qs ?_
    refine condK rfl (fun h16 => ?_) (fun h16 => ?_)
    · skip
      refine W.seq ?_
      refine W.region ?_
      iterate 2 refine pu (ev tab rfl) rfl ?_
      refine WO.nil ?_
      refine qs ?_
      refine W.ret ?_
      refine qbRet ?_
      refine qsRet ?_
      refine qlRet ?_
      refine qbRet ?_
      refine qsRet ?_
      refine QF.ret0 trivial rfl ?_
      simp only [norm, oneA]; rw [hI.found hx h16]; rfl
    · skip
      refine W.skip ?_
      refine qbN ?_
      refine qs ?_
      refine W.region ?_
      iterate 2 refine pu (ev tab rfl) rfl ?_
      refine WO.nil ?_
      refine W.endR [] ⟨k + 1, ?_⟩ ?_ rfl ?_ ⟨rfl, rfl, rfl, rfl, rfl, rfl, trivial⟩ ?_ trivial rfl
      · exact ⟨hlt, hI.step hx h16⟩
      · dsimp only; omega
      · repeat' first | exact trivial | refine ⟨rfl, ?_⟩ | refine ⟨step_nat (by assumption) (by assumption), ?_⟩
      · repeat' first | exact trivial | refine ⟨rfl, ?_⟩ | refine ⟨step_nat (by assumption) (by assumption), ?_⟩
  · skip
    refine W.exit ?_
    refine qsExit ?_
    refine qlExit ?_
    refine qbExit ?_
    refine qs ?_
    refine W.seq ?_
    refine W.region ?_
    refine pu (ev tab rfl) rfl ?_
    refine WO.nil ?_
    refine qs ?_
    refine W.ret ?_
    refine QF.ret0 trivial rfl ?_
    simp only [norm, oneA]; rw [hI.end_ he]; rfl

theorem indexOp_fn (l : List Int) (s : Int) : Does Try.prog 65 [.d (.sl (l.map ic)), .d (.v (.int .i64 s))] (.d (.v (.int .i64 (idx (l.findIdx? fun x => decide (s = x)))))) 0 := by
  refine Does.of_W (n := 19) (ts := [4]) Try.func65 (by kernel_rfl) rfl Try.ntmps65 Try.results65 rfl rfl fun C hC hG => ?_
  refine W.seq ?_
  refine W.region ?_
  refine pu (ev tab rfl) rfl ?_
  refine WO.nil ?_
  refine qs ?_
  refine W.seq ?_
  refine W.seq ?_
  refine W.region ?_
  iterate 3 refine pu (ev tab rfl) rfl ?_
  refine WO.nil ?_
  refine qs ?_
  refine W.block ?_
  refine W.len (t := 0) rfl rfl (fun hlen => ?_)
  try simp only [List.length_map, Ex.kc_len] at hlen
  refine W.loopR (ι := {x : Nat // match x with | k => k ≤ l.length ∧ noneBefore (fun x => decide (s = x)) l k})
    (fun x => match x.1 with | k => [(8, .d (.v (.int .i64 ((k : Nat) : Int))))]) [(0, _), (1, _), (7, _)]
    (fun x => match x.1 with | k => []) [] [] 0 (fun x => match x.1 with | k => l.length - k)
    [] ⟨0, ?_⟩ rfl ?_ ⟨rfl, rfl, rfl, rfl, rfl, rfl, trivial⟩ ?_ trivial rfl ?_
  · exact ⟨Nat.zero_le _, noneBefore.zero⟩
  · repeat' first | exact trivial | refine ⟨rfl, ?_⟩ | refine ⟨step_nat (by assumption) (by assumption), ?_⟩
  · repeat' first | exact trivial | refine ⟨rfl, ?_⟩ | refine ⟨step_nat (by assumption) (by assumption), ?_⟩
  rintro ⟨k, hk, hI⟩
  show W _ _ _ _ _ ⟨[(8, .d (.v (.int .i64 ((k : Nat) : Int)))), (0, _), (1, _), (7, _)], [], [], 0⟩
  refine W.seq ?_
  refine W.region ?_
  refine pu (ev tab rfl) rfl ?_
  refine WO.nil ?_
  refine qs ?_
  refine W.seq ?_
  refine eachR (l := l) (k := k) rfl (by simp [Ex.kc_len, bytes_len]) hk (fun x hx hd hlt => ?_) (fun he hd => ?_)
  · skip
    refine W.skip ?_
    refine qs ?_
    refine W.seq ?_
    refine W.block ?_
    refine W.seq ?_
    refine W.region ?_
    iterate 2 refine pu (ev tab rfl) rfl ?_
    refine WO.nil ?_
    refine qs ?_
    refine W.seq ?_
    refine W.region ?_
    iterate 3 refine pu (ev tab rfl) rfl ?_
    refine pu (indexAddr tab rfl rfl rfl rfl rfl rfl (Int.natCast_nonneg _) (idx_map (by assumption)) rfl) rfl ?_
    first | refine pu (ev tab rfl) rfl ?_ | refine pu (loadRow tab rfl rfl rfl rfl) rfl ?_ | refine pu (loadBox tab rfl rfl rfl rfl rfl) rfl ?_
    refine pu (ev tab rfl) rfl ?_
    refine WO.nil ?_
    refine qs ?_
    refine condK rfl (fun h16 => ?_) (fun h16 => ?_)
    · skip
      refine W.seq ?_
      refine W.region ?_
      iterate 2 refine pu (ev tab rfl) rfl ?_
      refine WO.nil ?_
      refine qs ?_
      refine W.ret ?_
      refine qbRet ?_
      refine qsRet ?_
      refine qlRet ?_
      refine qbRet ?_
      refine qsRet ?_
      refine QF.ret0 trivial rfl ?_
      simp only [norm, oneA]; rw [hI.found hx h16]; rfl
    · skip
      refine W.skip ?_
      refine qbN ?_
      refine qs ?_
      refine W.region ?_
      iterate 2 refine pu (ev tab rfl) rfl ?_
      refine WO.nil ?_
      refine W.endR [] ⟨k + 1, ?_⟩ ?_ rfl ?_ ⟨rfl, rfl, rfl, rfl, rfl, rfl, trivial⟩ ?_ trivial rfl
      · exact ⟨hlt, hI.step hx h16⟩
      · dsimp only; omega
      · repeat' first | exact trivial | refine ⟨rfl, ?_⟩ | refine ⟨step_nat (by assumption) (by assumption), ?_⟩
      · repeat' first | exact trivial | refine ⟨rfl, ?_⟩ | refine ⟨step_nat (by assumption) (by assumption), ?_⟩
  · skip
    refine W.exit ?_
    refine qsExit ?_
    refine qlExit ?_
    refine qbExit ?_
    refine qs ?_
    refine W.seq ?_
    refine W.region ?_
    refine pu (ev tab rfl) rfl ?_
    refine WO.nil ?_
    refine qs ?_
    refine W.ret ?_
    refine QF.ret0 trivial rfl ?_
    simp only [norm, oneA]; rw [hI.end_ he]; rfl

theorem contains_fn (l : List ByteArray) (s : ByteArray) : Does Try.prog 42 [.d (.sl (l.map sc)), .d (.v (.string s))] (.d (.v (.bool (l.any fun x => decide (s = x))))) 0 := by
  refine Does.of_W (n := 9) (ts := [4]) Try.func42 (by kernel_rfl) rfl Try.ntmps42 Try.results42 rfl rfl fun C hC hG => ?_
  refine W.seq ?_
  refine W.region ?_
  refine pu (ev tab rfl) rfl ?_
  refine WO.nil ?_
  refine qs ?_
  refine W.seq ?_
  refine W.region ?_
  iterate 2 refine pu (ev tab rfl) rfl ?_
  refine pu (puCall rfl rfl rfl (index_fn ..) rfl) rfl ?_
  iterate 2 refine pu (ev tab rfl) rfl ?_
  refine WO.nil ?_
  refine qs ?_
  refine W.ret ?_
  refine QF.ret0 trivial rfl ?_
  simp only [norm, oneA]; rw [← idx_nonneg]

theorem containsOp_fn (l : List Int) (s : Int) : Does Try.prog 53 [.d (.sl (l.map ic)), .d (.v (.int .i64 s))] (.d (.v (.bool (l.any fun x => decide (s = x))))) 0 := by
  refine Does.of_W (n := 9) (ts := [4]) Try.func53 (by kernel_rfl) rfl Try.ntmps53 Try.results53 rfl rfl fun C hC hG => ?_
  refine W.seq ?_
  refine W.region ?_
  refine pu (ev tab rfl) rfl ?_
  refine WO.nil ?_
  refine qs ?_
  refine W.seq ?_
  refine W.region ?_
  iterate 2 refine pu (ev tab rfl) rfl ?_
  refine pu (puCall rfl rfl rfl (indexOp_fn ..) rfl) rfl ?_
  iterate 2 refine pu (ev tab rfl) rfl ?_
  refine WO.nil ?_
  refine qs ?_
  refine W.ret ?_
  refine QF.ret0 trivial rfl ?_
  simp only [norm, oneA]; rw [← idx_nonneg]

theorem containsStr_fn (fid : Nat) (caps : List A) (hc : Still caps) (p : ByteArray → Bool) (hp : ∀ x : ByteArray, Does Try.prog fid (.d (.v (.string x)) :: caps) (.d (.v (.bool (p x)))) 0) (l : List ByteArray) :
    Does Try.prog 44 [.d (.sl (l.map sc)), .clo fid caps] (.d (.v (.bool (l.any p)))) 0 := by
  refine Does.of_W (n := 9) (ts := [4]) Try.func44 (by kernel_rfl) rfl Try.ntmps44 Try.results44 rfl rfl fun C hC hG => ?_
  refine W.seq ?_
  refine W.region ?_
  refine pu (ev tab rfl) rfl ?_
  refine WO.nil ?_
  refine qs ?_
  refine W.seq ?_
  refine W.region ?_
  iterate 2 refine pu (ev tab rfl) rfl ?_
  refine pu (puCall (args := [.d (.sl (l.map sc)), .clo fid caps]) rfl rfl (by simp [conv, hc.1 _ 2]) (idxStr_fn fid caps hc p hp l) rfl) rfl ?_
  iterate 2 refine pu (ev tab rfl) rfl ?_
  refine WO.nil ?_
  refine qs ?_
  refine W.ret ?_
  refine QF.ret0 trivial rfl ?_
  simp only [norm, oneA]; rw [← idx_nonneg]
theorem containsKind_fn (fid : Nat) (caps : List A) (hc : Still caps) (p : Int → Bool) (hp : ∀ x : Int, Does Try.prog fid (.d (.v (.int .i64 x)) :: caps) (.d (.v (.bool (p x)))) 0) (l : List Int) :
    Does Try.prog 47 [.d (.sl (l.map ic)), .clo fid caps] (.d (.v (.bool (l.any p)))) 0 := by
  refine Does.of_W (n := 9) (ts := [4]) Try.func47 (by kernel_rfl) rfl Try.ntmps47 Try.results47 rfl rfl fun C hC hG => ?_
  refine W.seq ?_
  refine W.region ?_
  refine pu (ev tab rfl) rfl ?_
  refine WO.nil ?_
  refine qs ?_
  refine W.seq ?_
  refine W.region ?_
  iterate 2 refine pu (ev tab rfl) rfl ?_
  refine pu (puCall (args := [.d (.sl (l.map ic)), .clo fid caps]) rfl rfl (by simp [conv, hc.1 _ 2]) (idxKind_fn fid caps hc p hp l) rfl) rfl ?_
  iterate 2 refine pu (ev tab rfl) rfl ?_
  refine WO.nil ?_
  refine qs ?_
  refine W.ret ?_
  refine QF.ret0 trivial rfl ?_
  simp only [norm, oneA]; rw [← idx_nonneg]
theorem colEq_fn (name : ByteArray) (x : Col) : Does Try.prog 41 [.ag x.c, .row [.d (.v (.string name))]] (.d (.v (.bool (decide (x.name = name))))) 0 := by
  refine Does.of_W (n := 8) (ts := [3]) Try.func41 (by kernel_rfl) rfl Try.ntmps41 Try.results41 rfl rfl fun C hC hG => ?_
  refine W.seq ?_
  refine W.region ?_
  refine boxR rfl rfl rfl ?_
  refine pu (ev tab rfl) rfl ?_
  refine WO.nil ?_
  refine qs ?_
  refine W.seq ?_
  refine W.region ?_
  refine pu (ev tab rfl) rfl ?_
  first | refine pu (ev tab rfl) rfl ?_ | refine pu (loadRow tab rfl rfl rfl rfl) rfl ?_ | refine pu (loadBox tab rfl rfl rfl rfl rfl) rfl ?_
  first | refine pu (ev tab rfl) rfl ?_ | refine pu (loadRow tab rfl rfl rfl rfl) rfl ?_ | refine pu (loadBox tab rfl rfl rfl rfl rfl) rfl ?_
  iterate 2 refine pu (ev tab rfl) rfl ?_
  refine WO.nil ?_
  refine qs ?_
  refine W.ret ?_
  refine QF.ret0 trivial rfl ?_
  rfl
theorem column_fn (cols : List Col) (name : ByteArray) : Does Try.prog 23 [.d (.sl (cols.map Col.c)), .d (.v (.string name))] (.d (.v (.int .i64 (idx (cols.findIdx? fun x => decide (x.name = name)))))) 0 := by
  refine Does.of_W (n := 8) (ts := [4]) Try.func23 (by kernel_rfl) rfl Try.ntmps23 Try.results23 rfl rfl fun C hC hG => ?_
  refine W.seq ?_
  refine W.region ?_
  refine boxR rfl rfl rfl ?_
  refine pu (ev tab rfl) rfl ?_
  refine WO.nil ?_
  refine qs ?_
  refine W.seq ?_
  refine W.region ?_
  iterate 2 refine pu (ev tab rfl) rfl ?_
  refine pu (puCall rfl rfl rfl (idxCol_fn _ _ ⟨fun _ _ => rfl, rfl⟩ _ (colEq_fn name) cols) rfl) rfl ?_
  refine pu (ev tab rfl) rfl ?_
  refine WO.nil ?_
  refine qs ?_
  refine W.ret ?_
  refine QF.ret0 trivial rfl ?_
  rfl
theorem tcolEq_fn (name : ByteArray) (x : Col) : Does Try.prog 63 [.ag x.c, .row [.d (.v (.string name))]] (.d (.v (.bool (decide (x.name = name))))) 0 := by
  refine Does.of_W (n := 8) (ts := [3]) Try.func63 (by kernel_rfl) rfl Try.ntmps63 Try.results63 rfl rfl fun C hC hG => ?_
  refine W.seq ?_
  refine W.region ?_
  refine boxR rfl rfl rfl ?_
  refine pu (ev tab rfl) rfl ?_
  refine WO.nil ?_
  refine qs ?_
  refine W.seq ?_
  refine W.region ?_
  refine pu (ev tab rfl) rfl ?_
  first | refine pu (ev tab rfl) rfl ?_ | refine pu (loadRow tab rfl rfl rfl rfl) rfl ?_ | refine pu (loadBox tab rfl rfl rfl rfl rfl) rfl ?_
  first | refine pu (ev tab rfl) rfl ?_ | refine pu (loadRow tab rfl rfl rfl rfl) rfl ?_ | refine pu (loadBox tab rfl rfl rfl rfl rfl) rfl ?_
  iterate 2 refine pu (ev tab rfl) rfl ?_
  refine WO.nil ?_
  refine qs ?_
  refine W.ret ?_
  refine QF.ret0 trivial rfl ?_
  rfl
theorem tcol_fn (t : Tbl) (name : ByteArray) : Does Try.prog 50 [.ag t.c, .d (.v (.string name))] (.d (.v (.int .i64 (idx (t.cols.findIdx? fun x => decide (x.name = name)))))) 0 := by
  refine Does.of_W (n := 9) (ts := [4]) Try.func50 (by kernel_rfl) rfl Try.ntmps50 Try.results50 rfl rfl fun C hC hG => ?_
  refine W.seq ?_
  refine W.region ?_
  refine boxR rfl rfl rfl ?_
  refine boxR rfl rfl rfl ?_
  refine pu (ev tab rfl) rfl ?_
  refine WO.nil ?_
  refine qs ?_
  refine W.seq ?_
  refine W.region ?_
  refine pu (ev tab rfl) rfl ?_
  first | refine pu (ev tab rfl) rfl ?_ | refine pu (loadRow tab rfl rfl rfl rfl) rfl ?_ | refine pu (loadBox tab rfl rfl rfl rfl rfl) rfl ?_
  refine pu (ev tab rfl) rfl ?_
  refine pu (puCall rfl rfl rfl (idxCol_fn _ _ ⟨fun _ _ => rfl, rfl⟩ _ (tcolEq_fn name) t.cols) rfl) rfl ?_
  refine pu (ev tab rfl) rfl ?_
  refine WO.nil ?_
  refine qs ?_
  refine W.ret ?_
  refine QF.ret0 trivial rfl ?_
  rfl
theorem allk_fn (want : Int) (x : Int) : Does Try.prog 48 [.d (.v (.int .i64 x)), .row [.d (.v (.int .i64 want))]] (.d (.v (.bool (!fits x want)))) 0 := by
  refine Does.of_W (n := 8) (ts := [3]) Try.func48 (by kernel_rfl) rfl Try.ntmps48 Try.results48 rfl rfl fun C hC hG => ?_
  refine W.seq ?_
  refine W.region ?_
  refine pu (ev tab rfl) rfl ?_
  refine WO.nil ?_
  refine qs ?_
  refine W.seq ?_
  refine W.region ?_
  refine pu (ev tab rfl) rfl ?_
  first | refine pu (ev tab rfl) rfl ?_ | refine pu (loadRow tab rfl rfl rfl rfl) rfl ?_ | refine pu (loadBox tab rfl rfl rfl rfl rfl) rfl ?_
  refine pu (puCall rfl rfl rfl (fits_fn ..) rfl) rfl ?_
  iterate 2 refine pu (ev tab rfl) rfl ?_
  refine WO.nil ?_
  refine qs ?_
  refine W.ret ?_
  refine QF.ret0 trivial rfl ?_
  rfl
theorem all_fn (l : List Int) (want : Int) : Does Try.prog 29 [.d (.sl (l.map ic)), .d (.v (.int .i64 want))] (.d (.v (.bool (l.all fun k => fits k want)))) 0 := by
  refine Does.of_W (n := 9) (ts := [4]) Try.func29 (by kernel_rfl) rfl Try.ntmps29 Try.results29 rfl rfl fun C hC hG => ?_
  refine W.seq ?_
  refine W.region ?_
  refine boxR rfl rfl rfl ?_
  refine pu (ev tab rfl) rfl ?_
  refine WO.nil ?_
  refine qs ?_
  refine W.seq ?_
  refine W.region ?_
  iterate 2 refine pu (ev tab rfl) rfl ?_
  refine pu (puCall rfl rfl rfl (containsKind_fn _ _ ⟨fun _ _ => rfl, rfl⟩ _ (allk_fn want) l) rfl) rfl ?_
  iterate 2 refine pu (ev tab rfl) rfl ?_
  refine WO.nil ?_
  refine qs ?_
  refine W.ret ?_
  refine QF.ret0 trivial rfl ?_
  simp [norm, oneA, List.all_eq_not_any_not]
end Go.Proofs.Ytlmgnlhagpoggaa
namespace Go.Proofs.Ytlmgnlhagpoggaa
open Go.Ab Go.Tb
set_option maxRecDepth 10000
attribute [local irreducible] W WO Pu QS QB QL QF QV QV1 CH QE
theorem ixb_fn (s : ByteArray) (b : UInt8) : Does Try.prog 66 [.d (.v (.string s)), .d (.v (.int .u8 b.toNat))] (.d (.v (.int .i64 (Lib.indexByte (bys s) b)))) 0 := by
  refine Does.of_W (n := 8) (ts := [4]) Try.func66 (by kernel_rfl) rfl Try.ntmps66 Try.results66 rfl rfl fun C hC hG => ?_
  refine W.inRange (t := 0) rfl (fun hok => ?_)
  refine W.seq ?_
  refine W.region ?_
  refine pu (ev tab rfl) rfl ?_
  refine WO.nil ?_
  refine qs ?_
  refine W.seq ?_
  refine W.region ?_
  iterate 2 refine pu (ev tab rfl) rfl ?_
  refine pu (puExt (vs := [.string s, .int .u8 b.toNat]) rfl rfl (fun w => (run_callFunc_extern Try.func67 (by kernel_rfl) (by kernel_rfl) (by kernel_rfl) (by kernel_rfl) #[.string s, .int .u8 b.toNat] w).trans (by rw [show (Extern.BytealgIndexByte.indexByte #[.string s, .int .u8 b.toNat]).run Try.prog w = _ from Lib.run_indexByteString s b.toNat w]; rfl)) (indexByte_ok hok _)) rfl ?_
  refine pu (ev tab rfl) rfl ?_
  refine WO.nil ?_
  refine qs ?_
  refine W.ret ?_
  refine QF.ret0 trivial rfl ?_
  simp [norm, oneA, bys]
theorem sixb_fn (s : ByteArray) (b : UInt8) : Does Try.prog 62 [.d (.v (.string s)), .d (.v (.int .u8 b.toNat))] (.d (.v (.int .i64 (Lib.indexByte (bys s) b)))) 0 := by
  refine Does.of_W (n := 8) (ts := [4]) Try.func62 (by kernel_rfl) rfl Try.ntmps62 Try.results62 rfl rfl fun C hC hG => ?_
  refine W.seq ?_
  refine W.region ?_
  refine pu (ev tab rfl) rfl ?_
  refine WO.nil ?_
  refine qs ?_
  refine W.seq ?_
  refine W.region ?_
  iterate 2 refine pu (ev tab rfl) rfl ?_
  refine pu (puCall rfl rfl rfl (ixb_fn ..) rfl) rfl ?_
  refine pu (ev tab rfl) rfl ?_
  refine WO.nil ?_
  refine qs ?_
  refine W.ret ?_
  refine QF.ret0 trivial rfl ?_
  rfl
theorem letter_fn (b : UInt8) : Does Try.prog 49 [.d (.v (.int .u8 b.toNat))] (.d (.v (.bool (letterB b)))) 0 := by
  refine Does.of_W (n := 30) (ts := [2]) Try.func49 (by kernel_rfl) rfl Try.ntmps49 Try.results49 rfl rfl fun C hC hG => ?_
  refine W.seq ?_
  refine W.region ?_
  refine pu (ev tab rfl) rfl ?_
  refine WO.nil ?_
  refine qs ?_
  refine W.seq ?_
  apply regionB; (case hb => rfl)
  · skip
    iterate 3 refine pu (ev tab rfl) rfl ?_
    apply splitJ; (case hj => rfl); (case hl => rfl)
    · skip
      refine goG rfl rfl ?_
      refine pu (ev tab rfl) rfl ?_
      refine goG rfl rfl ?_
      iterate 3 refine pu (ev tab rfl) rfl ?_
      apply splitJ; (case hj => rfl); (case hl => rfl)
      · skip
        refine skipT rfl rfl rfl rfl ?_
        refine skipT rfl rfl rfl rfl ?_
        refine skipT rfl rfl rfl rfl ?_
        refine skipU rfl rfl rfl ?_
        refine skipU rfl rfl rfl ?_
        refine skipT rfl rfl rfl rfl ?_
        iterate 2 refine pu (ev tab rfl) rfl ?_
        refine skipT rfl rfl rfl rfl ?_
        refine skipT rfl rfl rfl rfl ?_
        refine skipT rfl rfl rfl rfl ?_
        refine skipU rfl rfl rfl ?_
        refine skipU rfl rfl rfl ?_
        refine skipT rfl rfl rfl rfl ?_
        iterate 2 refine pu (ev tab rfl) rfl ?_
        refine skipT rfl rfl rfl rfl ?_
        refine skipT rfl rfl rfl rfl ?_
        refine skipT rfl rfl rfl rfl ?_
        iterate 2 refine pu (ev tab rfl) rfl ?_
        refine WO.nil ?_
        refine qv1 rfl rfl rfl
      · skip
        refine goG rfl rfl ?_
        refine pu (ev tab rfl) rfl ?_
        refine goG rfl rfl ?_
        refine pu (ev tab rfl) rfl ?_
        refine goG rfl rfl ?_
        refine pu (ev tab rfl) rfl ?_
        apply splitJ; (case hj => rfl); (case hl => rfl)
        · skip
          refine goG rfl rfl ?_
          refine pu (ev tab rfl) rfl ?_
          refine goG rfl rfl ?_
          refine pu (ev tab rfl) rfl ?_
          refine goG rfl rfl ?_
          iterate 3 refine pu (ev tab rfl) rfl ?_
          apply splitJ; (case hj => rfl); (case hl => rfl)
          · skip
            refine skipT rfl rfl rfl rfl ?_
            refine skipT rfl rfl rfl rfl ?_
            refine skipT rfl rfl rfl rfl ?_
            refine skipU rfl rfl rfl ?_
            refine skipU rfl rfl rfl ?_
            refine skipT rfl rfl rfl rfl ?_
            iterate 2 refine pu (ev tab rfl) rfl ?_
            refine skipT rfl rfl rfl rfl ?_
            refine skipT rfl rfl rfl rfl ?_
            refine skipT rfl rfl rfl rfl ?_
            iterate 2 refine pu (ev tab rfl) rfl ?_
            refine WO.nil ?_
            refine qv1 rfl rfl rfl
          · skip
            refine goG rfl rfl ?_
            refine pu (ev tab rfl) rfl ?_
            refine goG rfl rfl ?_
            refine pu (ev tab rfl) rfl ?_
            refine goG rfl rfl ?_
            refine pu (ev tab rfl) rfl ?_
            apply splitJ; (case hj => rfl); (case hl => rfl)
            · skip
              refine goG rfl rfl ?_
              refine pu (ev tab rfl) rfl ?_
              refine goG rfl rfl ?_
              refine pu (ev tab rfl) rfl ?_
              refine goG rfl rfl ?_
              iterate 3 refine pu (ev tab rfl) rfl ?_
              apply splitJ; (case hj => rfl); (case hl => rfl)
              · skip
                refine skipT rfl rfl rfl rfl ?_
                refine skipT rfl rfl rfl rfl ?_
                refine skipT rfl rfl rfl rfl ?_
                iterate 2 refine pu (ev tab rfl) rfl ?_
                refine WO.nil ?_
                refine qv1 rfl rfl rfl
              · skip
                refine goG rfl rfl ?_
                refine pu (ev tab rfl) rfl ?_
                refine goG rfl rfl ?_
                refine pu (puCall rfl rfl rfl (sixb_fn ..) rfl) rfl ?_
                refine goG rfl rfl ?_
                iterate 3 refine pu (ev tab rfl) rfl ?_
                refine WO.nil ?_
                refine qv1 rfl rfl rfl
            · skip
              refine skipT rfl rfl rfl rfl ?_
              refine skipT rfl rfl rfl rfl ?_
              refine goG rfl rfl ?_
              iterate 3 refine pu (ev tab rfl) rfl ?_
              refine goG rfl rfl ?_
              refine pu (ev tab rfl) rfl ?_
              refine goG rfl rfl ?_
              refine pu (puCall rfl rfl rfl (sixb_fn ..) rfl) rfl ?_
              refine goG rfl rfl ?_
              iterate 3 refine pu (ev tab rfl) rfl ?_
              refine WO.nil ?_
              refine qv1 rfl rfl rfl
        · skip
          refine skipT rfl rfl rfl rfl ?_
          refine skipT rfl rfl rfl rfl ?_
          refine goG rfl rfl ?_
          iterate 3 refine pu (ev tab rfl) rfl ?_
          refine goG rfl rfl ?_
          refine pu (ev tab rfl) rfl ?_
          refine goG rfl rfl ?_
          refine pu (ev tab rfl) rfl ?_
          refine goG rfl rfl ?_
          refine pu (ev tab rfl) rfl ?_
          apply splitJ; (case hj => rfl); (case hl => rfl)
          · skip
            refine goG rfl rfl ?_
            refine pu (ev tab rfl) rfl ?_
            refine goG rfl rfl ?_
            refine pu (ev tab rfl) rfl ?_
            refine goG rfl rfl ?_
            iterate 3 refine pu (ev tab rfl) rfl ?_
            apply splitJ; (case hj => rfl); (case hl => rfl)
            · skip
              refine skipT rfl rfl rfl rfl ?_
              refine skipT rfl rfl rfl rfl ?_
              refine skipT rfl rfl rfl rfl ?_
              iterate 2 refine pu (ev tab rfl) rfl ?_
              refine WO.nil ?_
              refine qv1 rfl rfl rfl
            · skip
              refine goG rfl rfl ?_
              refine pu (ev tab rfl) rfl ?_
              refine goG rfl rfl ?_
              refine pu (puCall rfl rfl rfl (sixb_fn ..) rfl) rfl ?_
              refine goG rfl rfl ?_
              iterate 3 refine pu (ev tab rfl) rfl ?_
              refine WO.nil ?_
              refine qv1 rfl rfl rfl
          · skip
            refine skipT rfl rfl rfl rfl ?_
            refine skipT rfl rfl rfl rfl ?_
            refine goG rfl rfl ?_
            iterate 3 refine pu (ev tab rfl) rfl ?_
            refine goG rfl rfl ?_
            refine pu (ev tab rfl) rfl ?_
            refine goG rfl rfl ?_
            refine pu (puCall rfl rfl rfl (sixb_fn ..) rfl) rfl ?_
            refine goG rfl rfl ?_
            iterate 3 refine pu (ev tab rfl) rfl ?_
            refine WO.nil ?_
            refine qv1 rfl rfl rfl
    · skip
      refine skipT rfl rfl rfl rfl ?_
      refine skipT rfl rfl rfl rfl ?_
      iterate 2 refine pu (ev tab rfl) rfl ?_
      refine goG rfl rfl ?_
      refine pu (ev tab rfl) rfl ?_
      refine goG rfl rfl ?_
      refine pu (ev tab rfl) rfl ?_
      refine goG rfl rfl ?_
      refine pu (ev tab rfl) rfl ?_
      apply splitJ; (case hj => rfl); (case hl => rfl)
      · skip
        refine goG rfl rfl ?_
        refine pu (ev tab rfl) rfl ?_
        refine goG rfl rfl ?_
        refine pu (ev tab rfl) rfl ?_
        refine goG rfl rfl ?_
        iterate 3 refine pu (ev tab rfl) rfl ?_
        apply splitJ; (case hj => rfl); (case hl => rfl)
        · skip
          refine skipT rfl rfl rfl rfl ?_
          refine skipT rfl rfl rfl rfl ?_
          refine skipT rfl rfl rfl rfl ?_
          refine skipU rfl rfl rfl ?_
          refine skipU rfl rfl rfl ?_
          refine skipT rfl rfl rfl rfl ?_
          iterate 2 refine pu (ev tab rfl) rfl ?_
          refine skipT rfl rfl rfl rfl ?_
          refine skipT rfl rfl rfl rfl ?_
          refine skipT rfl rfl rfl rfl ?_
          iterate 2 refine pu (ev tab rfl) rfl ?_
          refine WO.nil ?_
          refine qv1 rfl rfl rfl
        · skip
          refine goG rfl rfl ?_
          refine pu (ev tab rfl) rfl ?_
          refine goG rfl rfl ?_
          refine pu (ev tab rfl) rfl ?_
          refine goG rfl rfl ?_
          refine pu (ev tab rfl) rfl ?_
          apply splitJ; (case hj => rfl); (case hl => rfl)
          · skip
            refine goG rfl rfl ?_
            refine pu (ev tab rfl) rfl ?_
            refine goG rfl rfl ?_
            refine pu (ev tab rfl) rfl ?_
            refine goG rfl rfl ?_
            iterate 3 refine pu (ev tab rfl) rfl ?_
            apply splitJ; (case hj => rfl); (case hl => rfl)
            · skip
              refine skipT rfl rfl rfl rfl ?_
              refine skipT rfl rfl rfl rfl ?_
              refine skipT rfl rfl rfl rfl ?_
              iterate 2 refine pu (ev tab rfl) rfl ?_
              refine WO.nil ?_
              refine qv1 rfl rfl rfl
            · skip
              refine goG rfl rfl ?_
              refine pu (ev tab rfl) rfl ?_
              refine goG rfl rfl ?_
              refine pu (puCall rfl rfl rfl (sixb_fn ..) rfl) rfl ?_
              refine goG rfl rfl ?_
              iterate 3 refine pu (ev tab rfl) rfl ?_
              refine WO.nil ?_
              refine qv1 rfl rfl rfl
          · skip
            refine skipT rfl rfl rfl rfl ?_
            refine skipT rfl rfl rfl rfl ?_
            refine goG rfl rfl ?_
            iterate 3 refine pu (ev tab rfl) rfl ?_
            refine goG rfl rfl ?_
            refine pu (ev tab rfl) rfl ?_
            refine goG rfl rfl ?_
            refine pu (puCall rfl rfl rfl (sixb_fn ..) rfl) rfl ?_
            refine goG rfl rfl ?_
            iterate 3 refine pu (ev tab rfl) rfl ?_
            refine WO.nil ?_
            refine qv1 rfl rfl rfl
      · skip
        refine skipT rfl rfl rfl rfl ?_
        refine skipT rfl rfl rfl rfl ?_
        refine goG rfl rfl ?_
        iterate 3 refine pu (ev tab rfl) rfl ?_
        refine goG rfl rfl ?_
        refine pu (ev tab rfl) rfl ?_
        refine goG rfl rfl ?_
        refine pu (ev tab rfl) rfl ?_
        refine goG rfl rfl ?_
        refine pu (ev tab rfl) rfl ?_
        apply splitJ; (case hj => rfl); (case hl => rfl)
        · skip
          refine goG rfl rfl ?_
          refine pu (ev tab rfl) rfl ?_
          refine goG rfl rfl ?_
          refine pu (ev tab rfl) rfl ?_
          refine goG rfl rfl ?_
          iterate 3 refine pu (ev tab rfl) rfl ?_
          apply splitJ; (case hj => rfl); (case hl => rfl)
          · skip
            refine skipT rfl rfl rfl rfl ?_
            refine skipT rfl rfl rfl rfl ?_
            refine skipT rfl rfl rfl rfl ?_
            iterate 2 refine pu (ev tab rfl) rfl ?_
            refine WO.nil ?_
            refine qv1 rfl rfl rfl
          · skip
            refine goG rfl rfl ?_
            refine pu (ev tab rfl) rfl ?_
            refine goG rfl rfl ?_
            refine pu (puCall rfl rfl rfl (sixb_fn ..) rfl) rfl ?_
            refine goG rfl rfl ?_
            iterate 3 refine pu (ev tab rfl) rfl ?_
            refine WO.nil ?_
            refine qv1 rfl rfl rfl
        · skip
          refine skipT rfl rfl rfl rfl ?_
          refine skipT rfl rfl rfl rfl ?_
          refine goG rfl rfl ?_
          iterate 3 refine pu (ev tab rfl) rfl ?_
          refine goG rfl rfl ?_
          refine pu (ev tab rfl) rfl ?_
          refine goG rfl rfl ?_
          refine pu (puCall rfl rfl rfl (sixb_fn ..) rfl) rfl ?_
          refine goG rfl rfl ?_
          iterate 3 refine pu (ev tab rfl) rfl ?_
          refine WO.nil ?_
          refine qv1 rfl rfl rfl
  refine qs ?_
  refine W.ret ?_
  refine QF.ret0 trivial rfl ?_
  simp only [norm, oneA]; rw [indexByte_any]; simp only [letterB, lower, marks]; simp [bys]; grind
theorem name_fn (s : ByteArray) : Does Try.prog 31 [.d (.v (.string s))] (.d (.v (.int .i64 (nameErr s)))) 0 := by
  refine Does.of_W (n := 22) (ts := [2]) Try.func31 (by kernel_rfl) rfl Try.ntmps31 Try.results31 rfl rfl fun C hC hG => ?_
  refine W.seq ?_
  refine W.region ?_
  refine pu (ev tab rfl) rfl ?_
  refine WO.nil ?_
  refine qs ?_
  refine W.seq ?_
  refine W.seq ?_
  apply regionB; (case hb => rfl)
  · skip
    iterate 3 refine pu (ev tab rfl) rfl ?_
    apply splitJ; (case hj => rfl); (case hl => rfl)
    · skip
      refine skipT rfl rfl rfl rfl ?_
      refine skipT rfl rfl rfl rfl ?_
      refine skipT rfl rfl rfl rfl ?_
      refine pu (ev tab rfl) rfl ?_
      refine WO.nil ?_
      refine qv1 rfl rfl rfl
    · skip
      refine goG rfl rfl ?_
      refine pu (ev tab rfl) rfl ?_
      refine goG rfl rfl ?_
      refine pu (ev tab rfl) rfl ?_
      refine goG rfl rfl ?_
      iterate 2 refine pu (ev tab rfl) rfl ?_
      refine WO.nil ?_
      refine qv1 rfl rfl rfl
  refine qs ?_
  refine condK rfl (fun h10 => ?_) (fun h10 => ?_)
  · skip
    refine W.seq ?_
    refine W.region ?_
    refine pu (ev tab rfl) rfl ?_
    refine WO.nil ?_
    refine qs ?_
    refine W.ret ?_
    refine qsRet ?_
    refine QF.ret0 trivial rfl ?_
    simp only [norm, oneA]; grind [nameErr, empty_bytes]
  · skip
    refine W.skip ?_
    refine qs ?_
    refine W.seq ?_
    refine W.seq ?_
    refine W.region ?_
    iterate 3 refine pu (ev tab rfl) rfl ?_
    refine WO.nil ?_
    refine qs ?_
    refine W.block ?_
    refine W.inRange (t := 0) rfl (fun hok => ?_)
    have hlen := okc_size hok
    refine W.loopR (ι := {x : Nat // match x with | k => k ≤ (bys s).length ∧ ((bys s).drop k).all letterB = (bys s).all letterB})
      (fun x => match x.1 with | k => [(13, .d (.v (.int .i64 ((k : Nat) : Int))))]) [(0, _), (12, _)]
      (fun x => match x.1 with | k => []) [] [] 0 (fun x => match x.1 with | k => (bys s).length - k)
      [] ⟨0, ?_⟩ rfl ?_ ⟨rfl, rfl, rfl, rfl, trivial⟩ ?_ trivial rfl ?_
    · first | exact ⟨Nat.zero_le _, rfl⟩ | exact trivial | simp
    · repeat' first | exact trivial | refine ⟨rfl, ?_⟩ | refine ⟨step_nat (by assumption) (by assumption), ?_⟩
    · repeat' first | exact trivial | refine ⟨rfl, ?_⟩ | refine ⟨step_nat (by assumption) (by assumption), ?_⟩
    rintro ⟨k, hk, hI⟩
    show W _ _ _ _ _ ⟨[(13, .d (.v (.int .i64 ((k : Nat) : Int)))), (0, _), (12, _)], [], [], 0⟩
    refine W.seq ?_
    refine W.region ?_
    refine pu (ev tab rfl) rfl ?_
    refine WO.nil ?_
    refine qs ?_
    refine W.seq ?_
    refine eachR (l := bys s) (k := k) rfl (by simp [Ex.kc_len, bytes_len]) hk (fun b hx hd hlt => ?_) (fun he hd => ?_)
    · skip
      rw [hd, List.all_cons] at hI
      refine W.skip ?_
      refine qs ?_
      refine W.seq ?_
      refine W.block ?_
      refine W.seq ?_
      refine W.region ?_
      iterate 2 refine pu (ev tab rfl) rfl ?_
      refine WO.nil ?_
      refine qs ?_
      refine W.seq ?_
      refine W.region ?_
      iterate 2 refine pu (ev tab rfl) rfl ?_
      refine pu (indexStr tab rfl rfl rfl rfl (Int.natCast_nonneg _) (byteList (by assumption))) rfl ?_
      refine pu (puCall rfl rfl rfl (letter_fn ..) rfl) rfl ?_
      refine pu (ev tab rfl) rfl ?_
      refine WO.nil ?_
      refine qs ?_
      refine condK rfl (fun h20 => ?_) (fun h20 => ?_)
      · skip
        refine W.seq ?_
        refine W.region ?_
        refine pu (ev tab rfl) rfl ?_
        refine WO.nil ?_
        refine qs ?_
        refine W.ret ?_
        refine qbRet ?_
        refine qsRet ?_
        refine qlRet ?_
        refine qbRet ?_
        refine qsRet ?_
        refine QF.ret0 trivial rfl ?_
        simp only [norm, oneA]; grind [nameErr, empty_bytes]
      · skip
        refine W.skip ?_
        refine qbN ?_
        refine qs ?_
        refine W.region ?_
        iterate 2 refine pu (ev tab rfl) rfl ?_
        refine WO.nil ?_
        refine W.endR [] ⟨k + 1, ?_⟩ ?_ rfl ?_ ⟨rfl, rfl, rfl, rfl, trivial⟩ ?_ trivial rfl
        · exact ⟨hlt, by rw [← hI]; simp_all⟩
        · dsimp only; omega
        · repeat' first | exact trivial | refine ⟨rfl, ?_⟩ | refine ⟨step_nat (by assumption) (by assumption), ?_⟩
        · repeat' first | exact trivial | refine ⟨rfl, ?_⟩ | refine ⟨step_nat (by assumption) (by assumption), ?_⟩
    · skip
      rw [hd] at hI
      refine W.exit ?_
      refine qsExit ?_
      refine qlExit ?_
      refine qbExit ?_
      refine qs ?_
      refine W.seq ?_
      refine W.region ?_
      refine pu (ev tab rfl) rfl ?_
      refine WO.nil ?_
      refine qs ?_
      refine W.ret ?_
      refine QF.ret0 trivial rfl ?_
      simp only [norm, oneA]; grind [nameErr, empty_bytes]
theorem identifier_fn (s : ByteArray) : Does Try.prog 33 [.d (.v (.string s))] (.d (.v (.bool (identB s)))) 0 := by
  refine Does.of_W (n := 53) (ts := [2]) Try.func33 (by kernel_rfl) rfl Try.ntmps33 Try.results33 rfl rfl fun C hC hG => ?_
  refine W.seq ?_
  refine W.region ?_
  refine pu (ev tab rfl) rfl ?_
  refine WO.nil ?_
  refine qs ?_
  refine W.seq ?_
  refine W.seq ?_
  apply regionB; (case hb => rfl)
  · skip
    iterate 3 refine pu (ev tab rfl) rfl ?_
    apply splitH; (case hj => rfl); (case hl => rfl)
    · intro g7
      refine skipT rfl rfl rfl rfl ?_
      refine skipT rfl rfl rfl rfl ?_
      refine skipT rfl rfl rfl rfl ?_
      iterate 2 refine pu (ev tab rfl) rfl ?_
      refine skipT rfl rfl rfl rfl ?_
      refine skipT rfl rfl rfl rfl ?_
      refine skipT rfl rfl rfl rfl ?_
      iterate 2 refine pu (ev tab rfl) rfl ?_
      refine skipT rfl rfl rfl rfl ?_
      refine skipT rfl rfl rfl rfl ?_
      refine skipT rfl rfl rfl rfl ?_
      refine pu (ev tab rfl) rfl ?_
      refine WO.nil ?_
      refine qv1 rfl rfl rfl
    · intro g7
      refine goG rfl rfl ?_
      refine pu (ev tab rfl) rfl ?_
      refine goG rfl rfl ?_
      refine pu (ev tab rfl) rfl ?_
      refine goG rfl rfl ?_
      iterate 3 refine pu (ev tab rfl) rfl ?_
      apply splitH; (case hj => rfl); (case hl => rfl)
      · intro g12
        refine skipT rfl rfl rfl rfl ?_
        refine skipT rfl rfl rfl rfl ?_
        refine skipT rfl rfl rfl rfl ?_
        iterate 2 refine pu (ev tab rfl) rfl ?_
        refine skipT rfl rfl rfl rfl ?_
        refine skipT rfl rfl rfl rfl ?_
        refine skipT rfl rfl rfl rfl ?_
        refine pu (ev tab rfl) rfl ?_
        refine WO.nil ?_
        refine qv1 rfl rfl rfl
      · intro g12
        refine goG rfl rfl ?_
        refine pu (ev tab rfl) rfl ?_
        refine goG rfl rfl ?_
        refine pu (indexStr tab rfl rfl rfl rfl (Int.le_refl _) (head_byte (by simpa using g7))) rfl ?_
        refine goG rfl rfl ?_
        iterate 3 refine pu (ev tab rfl) rfl ?_
        apply splitH; (case hj => rfl); (case hl => rfl)
        · intro g17
          refine skipT rfl rfl rfl rfl ?_
          refine skipT rfl rfl rfl rfl ?_
          refine skipT rfl rfl rfl rfl ?_
          refine pu (ev tab rfl) rfl ?_
          refine WO.nil ?_
          refine qv1 rfl rfl rfl
        · intro g17
          refine goG rfl rfl ?_
          refine pu (ev tab rfl) rfl ?_
          refine goG rfl rfl ?_
          refine pu (indexStr tab rfl rfl rfl rfl (Int.le_refl _) (head_byte (by simpa using g7))) rfl ?_
          refine goG rfl rfl ?_
          iterate 2 refine pu (ev tab rfl) rfl ?_
          refine WO.nil ?_
          refine qv1 rfl rfl rfl
  refine qs ?_
  refine condK rfl (fun h21 => ?_) (fun h21 => ?_)
  · skip
    refine W.seq ?_
    refine W.region ?_
    refine pu (ev tab rfl) rfl ?_
    refine WO.nil ?_
    refine qs ?_
    refine W.ret ?_
    refine qsRet ?_
    refine QF.ret0 trivial rfl ?_
    simp only [norm, oneA]; grind [identB, empty_bytes, lower]
  · skip
    refine W.skip ?_
    refine qs ?_
    refine W.seq ?_
    refine W.seq ?_
    refine W.region ?_
    iterate 3 refine pu (ev tab rfl) rfl ?_
    refine WO.nil ?_
    refine qs ?_
    refine W.block ?_
    refine W.inRange (t := 0) rfl (fun hok => ?_)
    have hlen := okc_size hok
    refine W.loopR (ι := {x : Nat // match x with | k => k ≤ (bys s).length ∧ ((bys s).drop k).all idChar = (bys s).all idChar})
      (fun x => match x.1 with | k => [(24, .d (.v (.int .i64 ((k : Nat) : Int))))]) [(0, _), (23, _)]
      (fun x => match x.1 with | k => []) [] [] 0 (fun x => match x.1 with | k => (bys s).length - k)
      [] ⟨0, ?_⟩ rfl ?_ ⟨rfl, rfl, rfl, rfl, trivial⟩ ?_ trivial rfl ?_
    · first | exact ⟨Nat.zero_le _, rfl⟩ | exact trivial | simp
    · repeat' first | exact trivial | refine ⟨rfl, ?_⟩ | refine ⟨step_nat (by assumption) (by assumption), ?_⟩
    · repeat' first | exact trivial | refine ⟨rfl, ?_⟩ | refine ⟨step_nat (by assumption) (by assumption), ?_⟩
    rintro ⟨k, hk, hI⟩
    show W _ _ _ _ _ ⟨[(24, .d (.v (.int .i64 ((k : Nat) : Int)))), (0, _), (23, _)], [], [], 0⟩
    refine W.seq ?_
    refine W.region ?_
    refine pu (ev tab rfl) rfl ?_
    refine WO.nil ?_
    refine qs ?_
    refine W.seq ?_
    refine eachR (l := bys s) (k := k) rfl (by simp [Ex.kc_len, bytes_len]) hk (fun b hx hd hlt => ?_) (fun he hd => ?_)
    · skip
      rw [hd, List.all_cons] at hI
      refine W.skip ?_
      refine qs ?_
      refine W.seq ?_
      refine W.block ?_
      refine W.seq ?_
      refine W.region ?_
      iterate 2 refine pu (ev tab rfl) rfl ?_
      refine WO.nil ?_
      refine qs ?_
      refine W.seq ?_
      refine W.region ?_
      iterate 2 refine pu (ev tab rfl) rfl ?_
      refine pu (indexStr tab rfl rfl rfl rfl (Int.natCast_nonneg _) (byteList (by assumption))) rfl ?_
      refine pu (ev tab rfl) rfl ?_
      refine WO.nil ?_
      refine qs ?_
      refine W.seq ?_
      apply regionB; (case hb => rfl)
      · skip
        iterate 3 refine pu (ev tab rfl) rfl ?_
        apply splitH; (case hj => rfl); (case hl => rfl)
        · intro g32
          refine skipT rfl rfl rfl rfl ?_
          refine skipT rfl rfl rfl rfl ?_
          iterate 2 refine pu (ev tab rfl) rfl ?_
          refine goG rfl rfl ?_
          refine pu (ev tab rfl) rfl ?_
          refine goG rfl rfl ?_
          refine pu (ev tab rfl) rfl ?_
          refine goG rfl rfl ?_
          refine pu (ev tab rfl) rfl ?_
          apply splitH; (case hj => rfl); (case hl => rfl)
          · intro g39
            refine skipT rfl rfl rfl rfl ?_
            refine skipT rfl rfl rfl rfl ?_
            refine goG rfl rfl ?_
            iterate 3 refine pu (ev tab rfl) rfl ?_
            refine goG rfl rfl ?_
            refine pu (ev tab rfl) rfl ?_
            refine goG rfl rfl ?_
            iterate 2 refine pu (ev tab rfl) rfl ?_
            refine WO.nil ?_
            refine qv1 rfl rfl rfl
          · intro g39
            refine goG rfl rfl ?_
            refine pu (ev tab rfl) rfl ?_
            refine goG rfl rfl ?_
            refine pu (ev tab rfl) rfl ?_
            refine goG rfl rfl ?_
            iterate 3 refine pu (ev tab rfl) rfl ?_
            apply splitH; (case hj => rfl); (case hl => rfl)
            · intro g44
              refine goG rfl rfl ?_
              refine pu (ev tab rfl) rfl ?_
              refine goG rfl rfl ?_
              iterate 2 refine pu (ev tab rfl) rfl ?_
              refine WO.nil ?_
              refine qv1 rfl rfl rfl
            · intro g44
              refine skipT rfl rfl rfl rfl ?_
              refine skipT rfl rfl rfl rfl ?_
              refine pu (ev tab rfl) rfl ?_
              refine WO.nil ?_
              refine qv1 rfl rfl rfl
        · intro g32
          refine goG rfl rfl ?_
          refine pu (ev tab rfl) rfl ?_
          refine goG rfl rfl ?_
          iterate 3 refine pu (ev tab rfl) rfl ?_
          apply splitH; (case hj => rfl); (case hl => rfl)
          · intro g36
            refine goG rfl rfl ?_
            refine pu (ev tab rfl) rfl ?_
            refine goG rfl rfl ?_
            refine pu (ev tab rfl) rfl ?_
            refine goG rfl rfl ?_
            refine pu (ev tab rfl) rfl ?_
            apply splitH; (case hj => rfl); (case hl => rfl)
            · intro g39
              refine skipT rfl rfl rfl rfl ?_
              refine skipT rfl rfl rfl rfl ?_
              refine goG rfl rfl ?_
              iterate 3 refine pu (ev tab rfl) rfl ?_
              refine goG rfl rfl ?_
              refine pu (ev tab rfl) rfl ?_
              refine goG rfl rfl ?_
              iterate 2 refine pu (ev tab rfl) rfl ?_
              refine WO.nil ?_
              refine qv1 rfl rfl rfl
            · intro g39
              refine goG rfl rfl ?_
              refine pu (ev tab rfl) rfl ?_
              refine goG rfl rfl ?_
              refine pu (ev tab rfl) rfl ?_
              refine goG rfl rfl ?_
              iterate 3 refine pu (ev tab rfl) rfl ?_
              apply splitH; (case hj => rfl); (case hl => rfl)
              · intro g44
                refine goG rfl rfl ?_
                refine pu (ev tab rfl) rfl ?_
                refine goG rfl rfl ?_
                iterate 2 refine pu (ev tab rfl) rfl ?_
                refine WO.nil ?_
                refine qv1 rfl rfl rfl
              · intro g44
                refine skipT rfl rfl rfl rfl ?_
                refine skipT rfl rfl rfl rfl ?_
                refine pu (ev tab rfl) rfl ?_
                refine WO.nil ?_
                refine qv1 rfl rfl rfl
          · intro g36
            refine skipT rfl rfl rfl rfl ?_
            refine skipT rfl rfl rfl rfl ?_
            refine skipT rfl rfl rfl rfl ?_
            refine skipU rfl rfl rfl ?_
            refine skipU rfl rfl rfl ?_
            refine skipT rfl rfl rfl rfl ?_
            iterate 2 refine pu (ev tab rfl) rfl ?_
            refine skipT rfl rfl rfl rfl ?_
            refine skipT rfl rfl rfl rfl ?_
            refine pu (ev tab rfl) rfl ?_
            refine WO.nil ?_
            refine qv1 rfl rfl rfl
      refine qs ?_
      refine condK rfl (fun h47 => ?_) (fun h47 => ?_)
      · skip
        refine W.seq ?_
        refine W.region ?_
        refine pu (ev tab rfl) rfl ?_
        refine WO.nil ?_
        refine qs ?_
        refine W.ret ?_
        refine qbRet ?_
        refine qsRet ?_
        refine qlRet ?_
        refine qbRet ?_
        refine qsRet ?_
        refine QF.ret0 trivial rfl ?_
        simp only [norm, oneA]; simp [identB, ← hI, idChar, lower]; grind
      · skip
        refine W.skip ?_
        refine qbN ?_
        refine qs ?_
        refine W.region ?_
        iterate 2 refine pu (ev tab rfl) rfl ?_
        refine WO.nil ?_
        refine W.endR [] ⟨k + 1, ?_⟩ ?_ rfl ?_ ⟨rfl, rfl, rfl, rfl, trivial⟩ ?_ trivial rfl
        · exact ⟨hlt, by rw [← hI]; simp [idChar, lower]; grind⟩
        · dsimp only; omega
        · repeat' first | exact trivial | refine ⟨rfl, ?_⟩ | refine ⟨step_nat (by assumption) (by assumption), ?_⟩
        · repeat' first | exact trivial | refine ⟨rfl, ?_⟩ | refine ⟨step_nat (by assumption) (by assumption), ?_⟩
    · skip
      rw [hd] at hI
      refine W.exit ?_
      refine qsExit ?_
      refine qlExit ?_
      refine qbExit ?_
      refine qs ?_
      refine W.seq ?_
      refine W.region ?_
      refine pu (buildV tab rfl rfl rfl rfl rfl rfl rfl rfl rfl) rfl ?_
      refine pu (ev tab rfl) rfl ?_
      refine pu (puCall rfl rfl rfl (contains_fn words s) rfl) rfl ?_
      iterate 2 refine pu (ev tab rfl) rfl ?_
      refine WO.nil ?_
      refine qs ?_
      refine W.ret ?_
      refine QF.ret0 trivial rfl ?_
      simp only [norm, oneA, identB, ← hI]; generalize words.any (fun w => decide (s = w)) = z; clear hI hd hok hlen hk he; simp only [List.all_nil, lower]; generalize (bys s).headD 0 = b at *; grind
end Go.Proofs.Ytlmgnlhagpoggaa
namespace Go.Proofs.Ytlmgnlhagpoggaa
open Go.Ab Go.Tb
set_option maxRecDepth 10000
attribute [local irreducible] W WO Pu QS QB QL QF QV QV1 CH QE
theorem constant_fn (v : Val) : Does Try.prog 59 [.ag v.c] (.d (.v (.int .i64 (constErr v)))) 0 := by
  refine Does.of_W (n := 34) (ts := [2]) Try.func59 (by kernel_rfl) rfl Try.ntmps59 Try.results59 rfl rfl fun C hC hG => ?_
  refine W.seq ?_
  refine W.region ?_
  refine boxR rfl rfl rfl ?_
  refine pu (ev tab rfl) rfl ?_
  refine WO.nil ?_
  refine qs ?_
  refine W.seq ?_
  refine W.seq ?_
  refine W.region ?_
  refine pu (ev tab rfl) rfl ?_
  first | refine pu (ev tab rfl) rfl ?_ | refine pu (loadRow tab rfl rfl rfl rfl) rfl ?_ | refine pu (loadBox tab rfl rfl rfl rfl rfl) rfl ?_
  first | refine pu (ev tab rfl) rfl ?_ | refine pu (loadRow tab rfl rfl rfl rfl) rfl ?_ | refine pu (loadBox tab rfl rfl rfl rfl rfl) rfl ?_
  refine pu (puCall rfl rfl rfl (value_fn ..) rfl) rfl ?_
  refine pu (ev tab rfl) rfl ?_
  refine WO.nil ?_
  refine qs ?_
  refine W.seq ?_
  refine W.region ?_
  iterate 2 refine pu (ev tab rfl) rfl ?_
  refine WO.nil ?_
  refine qs ?_
  refine condK rfl (fun h11 => ?_) (fun h11 => ?_)
  · skip
    refine W.seq ?_
    refine W.region ?_
    iterate 2 refine pu (ev tab rfl) rfl ?_
    refine WO.nil ?_
    refine qs ?_
    refine W.ret ?_
    refine qsRet ?_
    refine QF.ret0 trivial rfl ?_
    simp only [norm, oneA]; grind [constErr]
  · skip
    refine W.skip ?_
    refine qs ?_
    refine W.seq ?_
    refine W.seq ?_
    refine W.region ?_
    refine pu (ev tab rfl) rfl ?_
    first | refine pu (ev tab rfl) rfl ?_ | refine pu (loadRow tab rfl rfl rfl rfl) rfl ?_ | refine pu (loadBox tab rfl rfl rfl rfl rfl) rfl ?_
    iterate 2 refine pu (ev tab rfl) rfl ?_
    refine WO.nil ?_
    refine qs ?_
    refine W.block ?_
    refine W.inRange (t := 14) rfl (fun hok => ?_)
    have hlen := okc_size hok
    refine W.loopR (ι := {x : Nat // match x with | k => k ≤ (bys v.s).length ∧ ((bys v.s).drop k).any badChar = (bys v.s).any badChar})
      (fun x => match x.1 with | k => [(1, .ptr 0 0), (16, .d (.v (.int .i64 ((k : Nat) : Int))))]) [(15, _)]
      (fun x => match x.1 with | k => []) [(0, _)] [] 1 (fun x => match x.1 with | k => (bys v.s).length - k)
      [0] ⟨0, ?_⟩ rfl ?_ ⟨rfl, rfl, trivial⟩ ?_ ⟨rfl, rfl, trivial⟩ rfl ?_
    · first | exact ⟨Nat.zero_le _, rfl⟩ | exact trivial | simp
    · repeat' first | exact trivial | refine ⟨rfl, ?_⟩ | refine ⟨step_nat (by assumption) (by assumption), ?_⟩
    · repeat' first | exact trivial | refine ⟨rfl, ?_⟩ | refine ⟨step_nat (by assumption) (by assumption), ?_⟩
    rintro ⟨k, hk, hI⟩
    show W _ _ _ _ _ ⟨[(1, .ptr 0 0), (16, .d (.v (.int .i64 ((k : Nat) : Int)))), (15, _)], [(0, _)], [], 1⟩
    refine W.seq ?_
    refine W.region ?_
    refine pu (ev tab rfl) rfl ?_
    refine WO.nil ?_
    refine qs ?_
    refine W.seq ?_
    refine eachR (l := bys v.s) (k := k) rfl (by simp [Ex.kc_len, bytes_len]) hk (fun b hx hd hlt => ?_) (fun he hd => ?_)
    · skip
      rw [hd, List.any_cons] at hI
      refine W.skip ?_
      refine qs ?_
      refine W.seq ?_
      refine W.block ?_
      refine W.seq ?_
      refine W.region ?_
      iterate 2 refine pu (ev tab rfl) rfl ?_
      refine WO.nil ?_
      refine qs ?_
      refine W.seq ?_
      refine W.region ?_
      refine pu (ev tab rfl) rfl ?_
      first | refine pu (ev tab rfl) rfl ?_ | refine pu (loadRow tab rfl rfl rfl rfl) rfl ?_ | refine pu (loadBox tab rfl rfl rfl rfl rfl) rfl ?_
      refine pu (ev tab rfl) rfl ?_
      refine pu (indexStr tab rfl rfl rfl rfl (Int.natCast_nonneg _) (byteList (by assumption))) rfl ?_
      refine pu (ev tab rfl) rfl ?_
      refine WO.nil ?_
      refine qs ?_
      refine W.seq ?_
      apply regionB; (case hb => rfl)
      · skip
        iterate 3 refine pu (ev tab rfl) rfl ?_
        apply splitJ; (case hj => rfl); (case hl => rfl)
        · skip
          refine skipT rfl rfl rfl rfl ?_
          refine skipT rfl rfl rfl rfl ?_
          iterate 2 refine pu (ev tab rfl) rfl ?_
          refine skipT rfl rfl rfl rfl ?_
          refine skipT rfl rfl rfl rfl ?_
          refine pu (ev tab rfl) rfl ?_
          refine WO.nil ?_
          refine qv1 rfl rfl rfl
        · skip
          refine goG rfl rfl ?_
          refine pu (ev tab rfl) rfl ?_
          refine goG rfl rfl ?_
          iterate 3 refine pu (ev tab rfl) rfl ?_
          apply splitJ; (case hj => rfl); (case hl => rfl)
          · skip
            refine skipT rfl rfl rfl rfl ?_
            refine skipT rfl rfl rfl rfl ?_
            refine pu (ev tab rfl) rfl ?_
            refine WO.nil ?_
            refine qv1 rfl rfl rfl
          · skip
            refine goG rfl rfl ?_
            refine pu (ev tab rfl) rfl ?_
            refine goG rfl rfl ?_
            iterate 2 refine pu (ev tab rfl) rfl ?_
            refine WO.nil ?_
            refine qv1 rfl rfl rfl
      refine qs ?_
      refine condK rfl (fun h32 => ?_) (fun h32 => ?_)
      · skip
        refine W.seq ?_
        refine W.region ?_
        refine pu (ev tab rfl) rfl ?_
        refine WO.nil ?_
        refine qs ?_
        refine W.ret ?_
        refine qbRet ?_
        refine qsRet ?_
        refine qlRet ?_
        refine qbRet ?_
        refine qsRet ?_
        refine QF.ret0 trivial rfl ?_
        simp only [norm, oneA, constErr, ← hI]; clear hI; simp only [badChar]; grind
      · skip
        refine W.skip ?_
        refine qbN ?_
        refine qs ?_
        refine W.region ?_
        iterate 2 refine pu (ev tab rfl) rfl ?_
        refine WO.nil ?_
        refine W.endR [0] ⟨k + 1, ?_⟩ ?_ rfl ?_ ⟨rfl, rfl, trivial⟩ ?_ ⟨rfl, rfl, trivial⟩ rfl
        · exact ⟨hlt, by rw [← hI]; simp only [badChar]; grind⟩
        · dsimp only; omega
        · repeat' first | exact trivial | refine ⟨rfl, ?_⟩ | refine ⟨step_nat (by assumption) (by assumption), ?_⟩
        · repeat' first | exact trivial | refine ⟨rfl, ?_⟩ | refine ⟨step_nat (by assumption) (by assumption), ?_⟩
    · skip
      rw [hd] at hI
      refine W.exit ?_
      refine qsExit ?_
      refine qlExit ?_
      refine qbExit ?_
      refine qs ?_
      refine W.seq ?_
      refine W.region ?_
      refine pu (ev tab rfl) rfl ?_
      refine WO.nil ?_
      refine qs ?_
      refine W.ret ?_
      refine QF.ret0 trivial rfl ?_
      simp only [norm, oneA, constErr, ← hI]; simp_all
end Go.Proofs.Ytlmgnlhagpoggaa
namespace Go.Proofs.Ytlmgnlhagpoggaa
open Go.Ab Go.Tb
set_option maxRecDepth 10000
attribute [local irreducible] W WO Pu QS QB QL QF QV QV1 CH QE
theorem measure_fn : ∀ (e : Ex) (n : Int), 0 ≤ n → n ≤ 200 → Does Try.prog 26 [.ag e.c, .d (.v (.int .i64 n))] (.tup [.d (.v (.int .i64 (msr e n).1)), .d (.v (.int .i64 (msr e n).2))]) 0 := by
  refine Ex.ind fun e ih => ?_
  intro n h0 h1
  refine Does.of_W (n := 34) (ts := [4, 5]) Try.func26 (by kernel_rfl) rfl Try.ntmps26 Try.results26 rfl rfl fun C hC hG => ?_
  refine W.seq ?_
  refine W.region ?_
  refine boxR rfl rfl rfl ?_
  iterate 2 refine pu (ev tab rfl) rfl ?_
  refine WO.nil ?_
  refine qs ?_
  refine W.seq ?_
  refine W.region ?_
  refine pu (ev tab rfl) rfl ?_
  refine pu (puI (ev tab rfl) (wrap64 (by omega))) rfl ?_
  refine pu (ev tab rfl) rfl ?_
  refine WO.nil ?_
  refine qs ?_
  refine W.seq ?_
  refine W.region ?_
  refine pu (ev tab rfl) rfl ?_
  refine WO.nil ?_
  refine qs ?_
  refine W.seq ?_
  refine W.seq ?_
  refine W.region ?_
  refine pu (ev tab rfl) rfl ?_
  first | refine pu (ev tab rfl) rfl ?_ | refine pu (loadRow tab rfl rfl rfl rfl) rfl ?_ | refine pu (loadBox tab rfl rfl rfl rfl rfl) rfl ?_
  iterate 2 refine pu (ev tab rfl) rfl ?_
  refine WO.nil ?_
  refine qs ?_
  refine W.block ?_
  refine W.len (t := 13) rfl rfl (fun hlen => ?_)
  try simp only [List.length_map, Ex.kc_len] at hlen
  refine W.loopR (ι := {x : Nat × Int × Int // match x with | (k, n', d) => k ≤ e.kids.length ∧ msrL (e.kids.drop k) n' d = msrL e.kids (n + 1) 0 ∧ 0 ≤ n' ∧ n' ≤ 201 ∧ 0 ≤ d ∧ d ≤ n'})
    (fun x => match x.1 with | (k, n', d) => [(1, .d (.v (.int .i64 (n')))), (6, .d (.v (.int .i64 (d)))), (15, .d (.v (.int .i64 ((k : Nat) : Int))))]) [(13, _), (14, _)]
    (fun x => match x.1 with | (k, n', d) => []) [] [] 0 (fun x => match x.1 with | (k, n', d) => e.kids.length - k)
    [] ⟨(0, n + 1, 0), ?_⟩ rfl ?_ ⟨rfl, rfl, rfl, rfl, trivial⟩ ?_ trivial rfl ?_
  · exact ⟨Nat.zero_le _, rfl, by omega, by omega, by omega, by omega⟩
  · repeat' first | exact trivial | refine ⟨rfl, ?_⟩ | refine ⟨step_nat (by assumption) (by assumption), ?_⟩
  · repeat' first | exact trivial | refine ⟨rfl, ?_⟩ | refine ⟨step_nat (by assumption) (by assumption), ?_⟩
  rintro ⟨⟨k, n', d⟩, hk, hI, h2, h3, h4, h5⟩
  show W _ _ _ _ _ ⟨[(1, .d (.v (.int .i64 (n')))), (6, .d (.v (.int .i64 (d)))), (15, .d (.v (.int .i64 ((k : Nat) : Int)))), (13, _), (14, _)], [], [], 0⟩
  refine W.seq ?_
  refine W.region ?_
  refine pu (ev tab rfl) rfl ?_
  refine WO.nil ?_
  refine qs ?_
  refine W.seq ?_
  refine eachR (l := e.kids) (k := k) rfl (by simp [Ex.kc_len, bytes_len]) hk (fun x hx hd hlt => ?_) (fun he hd => ?_)
  · skip
    rw [hd] at hI
    refine W.skip ?_
    refine qs ?_
    refine W.seq ?_
    refine W.block ?_
    refine W.seq ?_
    refine W.region ?_
    refine pu (indexAddr tab rfl rfl rfl rfl rfl rfl (Int.natCast_nonneg _) (Ex.kc_idx hx) rfl) rfl ?_
    first | refine pu (ev tab rfl) rfl ?_ | refine pu (loadRow tab rfl rfl rfl rfl) rfl ?_ | refine pu (loadBox tab rfl rfl rfl rfl rfl) rfl ?_
    refine allocR tab rfl rfl rfl ?_
    refine storeR tab rfl rfl rfl rfl rfl rfl rfl rfl ?_
    refine WO.nil ?_
    refine qs ?_
    refine W.seq ?_
    refine W.seq ?_
    refine W.region ?_
    iterate 2 refine pu (ev tab rfl) rfl ?_
    refine WO.nil ?_
    refine qs ?_
    refine condK rfl (fun h20 => ?_) (fun h20 => ?_)
    · skip
      have h20 : 200 < n' := by simpa using h20
      simp only [msrL, h20, if_true] at hI
      refine W.exit ?_
      refine qsExit ?_
      refine qbExit' rfl ?_
      refine qsExit ?_
      refine qlExit ?_
      refine qbExit ?_
      refine qs ?_
      refine W.seq ?_
      refine W.region ?_
      iterate 2 refine pu (ev tab rfl) rfl ?_
      refine pu (puI (ev tab rfl) (wrap64 (by omega))) rfl ?_
      iterate 2 refine pu (ev tab rfl) rfl ?_
      refine WO.nil ?_
      refine qs ?_
      refine W.ret ?_
      refine QF.ret0 trivial rfl ?_
      rw [msr_eq, ← hI]; rfl
    · skip
      have h20 : ¬ 200 < n' := by simpa using h20
      simp only [msrL, h20, if_false] at hI
      have hm := msr_spec x n' h2 (by omega)
      refine W.skip ?_
      refine qs ?_
      refine W.seq ?_
      refine W.region ?_
      refine pu (ev tab rfl) rfl ?_
      refine WO.nil ?_
      refine qs ?_
      refine W.seq ?_
      refine W.region ?_
      first | refine pu (ev tab rfl) rfl ?_ | refine pu (loadRow tab rfl rfl rfl rfl) rfl ?_ | refine pu (loadBox tab rfl rfl rfl rfl rfl) rfl ?_
      refine pu (ev tab rfl) rfl ?_
      refine pu (puCall rfl rfl rfl (ih x (List.mem_of_getElem? hx) _ h2 (by omega)) rfl) rfl ?_
      iterate 5 refine pu (ev tab rfl) rfl ?_
      refine WO.nil ?_
      refine qs ?_
      refine W.region ?_
      iterate 4 refine pu (ev tab rfl) rfl ?_
      refine WO.nil ?_
      refine qbN ?_
      refine qs ?_
      refine W.region ?_
      iterate 2 refine pu (ev tab rfl) rfl ?_
      refine WO.nil ?_
      refine W.endR [] ⟨(k + 1, (msr x n').1, if d < (msr x n').2 then (msr x n').2 else d), ?_⟩ ?_ rfl ?_ ⟨rfl, rfl, rfl, rfl, trivial⟩ ?_ trivial rfl
      · refine ⟨hlt, hI, by omega, by omega, ?_, ?_⟩ <;> split <;> omega
      · dsimp only; omega
      · repeat' first | exact trivial | refine ⟨rfl, ?_⟩ | refine ⟨step_nat (by assumption) (by assumption), ?_⟩
      · repeat' first | exact trivial | refine ⟨rfl, ?_⟩ | refine ⟨step_nat (by assumption) (by assumption), ?_⟩
  · skip
    rw [hd] at hI
    refine W.exit ?_
    refine qsExit ?_
    refine qlExit ?_
    refine qbExit ?_
    refine qs ?_
    refine W.seq ?_
    refine W.region ?_
    iterate 2 refine pu (ev tab rfl) rfl ?_
    refine pu (puI (ev tab rfl) (wrap64 (by omega))) rfl ?_
    iterate 2 refine pu (ev tab rfl) rfl ?_
    refine WO.nil ?_
    refine qs ?_
    refine W.ret ?_
    refine QF.ret0 trivial rfl ?_
    rw [msr_eq, ← hI]; rfl



theorem deep_fn : ∀ (e : Ex) (level left : Int), -1000 ≤ level → level ≤ 40 → 0 ≤ left → left ≤ 300 → Does Try.prog 12 [.ag e.c, .d (.v (.int .i64 level)), .d (.v (.int .i64 left))] (.d (.v (.int .i64 (deep e level left)))) 0 := by
  refine Ex.ind fun e ih => ?_
  intro level left h0 h1 h2 h3
  have hq := deep_eq e level left
  refine Does.of_W (n := 48) (ts := [6]) Try.func12 (by kernel_rfl) rfl Try.ntmps12 Try.results12 rfl rfl fun C hC hG => ?_
  refine W.seq ?_
  refine W.region ?_
  refine boxR rfl rfl rfl ?_
  refine pu (ev tab rfl) rfl ?_
  refine WO.nil ?_
  refine qs ?_
  refine W.seq ?_
  refine W.region ?_
  refine pu (ev tab rfl) rfl ?_
  refine pu (puI (ev tab rfl) (wrap64 (by omega))) rfl ?_
  refine pu (ev tab rfl) rfl ?_
  refine WO.nil ?_
  refine qs ?_
  refine W.seq ?_
  refine W.seq ?_
  apply regionB; (case hb => rfl)
  · skip
    iterate 3 refine pu (ev tab rfl) rfl ?_
    apply splitJ; (case hj => rfl); (case hl => rfl)
    · skip
      refine skipT rfl rfl rfl rfl ?_
      refine skipT rfl rfl rfl rfl ?_
      iterate 2 refine pu (ev tab rfl) rfl ?_
      refine skipT rfl rfl rfl rfl ?_
      refine skipT rfl rfl rfl rfl ?_
      refine skipT rfl rfl rfl rfl ?_
      refine skipT rfl rfl rfl rfl ?_
      iterate 2 refine pu (ev tab rfl) rfl ?_
      refine skipT rfl rfl rfl rfl ?_
      refine skipT rfl rfl rfl rfl ?_
      refine skipT rfl rfl rfl rfl ?_
      refine skipT rfl rfl rfl rfl ?_
      refine skipT rfl rfl rfl rfl ?_
      refine pu (ev tab rfl) rfl ?_
      refine WO.nil ?_
      refine qv1 rfl rfl rfl
    · skip
      refine goG rfl rfl ?_
      refine pu (ev tab rfl) rfl ?_
      refine goG rfl rfl ?_
      iterate 3 refine pu (ev tab rfl) rfl ?_
      apply splitJ; (case hj => rfl); (case hl => rfl)
      · skip
        refine skipT rfl rfl rfl rfl ?_
        refine skipT rfl rfl rfl rfl ?_
        refine skipT rfl rfl rfl rfl ?_
        refine skipT rfl rfl rfl rfl ?_
        iterate 2 refine pu (ev tab rfl) rfl ?_
        refine skipT rfl rfl rfl rfl ?_
        refine skipT rfl rfl rfl rfl ?_
        refine skipT rfl rfl rfl rfl ?_
        refine skipT rfl rfl rfl rfl ?_
        refine skipT rfl rfl rfl rfl ?_
        refine pu (ev tab rfl) rfl ?_
        refine WO.nil ?_
        refine qv1 rfl rfl rfl
      · skip
        refine goG rfl rfl ?_
        refine pu (ev tab rfl) rfl ?_
        refine goG rfl rfl ?_
        first | refine pu (ev tab rfl) rfl ?_ | refine pu (loadRow tab rfl rfl rfl rfl) rfl ?_ | refine pu (loadBox tab rfl rfl rfl rfl rfl) rfl ?_
        refine goG rfl rfl ?_
        refine pu (ev tab rfl) rfl ?_
        refine goG rfl rfl ?_
        iterate 3 refine pu (ev tab rfl) rfl ?_
        apply splitJ; (case hj => rfl); (case hl => rfl)
        · skip
          refine skipT rfl rfl rfl rfl ?_
          refine skipT rfl rfl rfl rfl ?_
          refine skipT rfl rfl rfl rfl ?_
          refine skipT rfl rfl rfl rfl ?_
          refine skipT rfl rfl rfl rfl ?_
          refine pu (ev tab rfl) rfl ?_
          refine WO.nil ?_
          refine qv1 rfl rfl rfl
        · skip
          refine goG rfl rfl ?_
          refine pu (ev tab rfl) rfl ?_
          refine goG rfl rfl ?_
          refine pu (ev tab rfl) rfl ?_
          refine goG rfl rfl ?_
          first | refine pu (ev tab rfl) rfl ?_ | refine pu (loadRow tab rfl rfl rfl rfl) rfl ?_ | refine pu (loadBox tab rfl rfl rfl rfl rfl) rfl ?_
          refine goG rfl rfl ?_
          refine pu (ev tab rfl) rfl ?_
          refine goG rfl rfl ?_
          iterate 2 refine pu (ev tab rfl) rfl ?_
          refine WO.nil ?_
          refine qv1 rfl rfl rfl
  refine qs ?_
  refine condK rfl (fun h28 => ?_) (fun h28 => ?_)
  · skip
    have h28 : level < 1 ∨ left - 1 < 0 ∨ 300 < e.name.size ∨ 300 < e.v.s.size := by grind
    rw [if_pos h28] at hq
    refine W.seq ?_
    refine W.region ?_
    refine pu (ev tab rfl) rfl ?_
    refine WO.nil ?_
    refine qs ?_
    refine W.ret ?_
    refine qsRet ?_
    refine QF.ret0 trivial rfl ?_
    rw [hq]; rfl
  · skip
    have h28 : ¬ (level < 1 ∨ left - 1 < 0 ∨ 300 < e.name.size ∨ 300 < e.v.s.size) := by grind
    rw [if_neg h28] at hq
    refine W.skip ?_
    refine qs ?_
    refine W.seq ?_
    refine W.seq ?_
    refine W.region ?_
    refine pu (ev tab rfl) rfl ?_
    refine WO.nil ?_
    refine qs ?_
    refine W.block ?_
    refine lenBox (g := 0) (j := 5) rfl rfl (fun hlen => ?_)
    rw [Ex.kc_len] at hlen
    refine W.loopR (ι := {x : Nat × Int // match x with | (k, l) => k ≤ e.kids.length ∧ deepL (e.kids.drop k) level l = deepL e.kids level (left - 1) ∧ 0 ≤ l ∧ l ≤ 300})
      (fun x => match x.1 with | (k, l) => [(2, .d (.v (.int .i64 (l)))), (3, .ptr 0 0), (7, .d (.v (.int .i64 ((k : Nat) : Int))))]) [(1, _)]
      (fun x => match x.1 with | (k, l) => []) [(0, _)] [] 1 (fun x => match x.1 with | (k, l) => e.kids.length - k)
      [0] ⟨(0, left - 1), ?_⟩ rfl ?_ ⟨rfl, rfl, trivial⟩ ?_ ⟨rfl, rfl, trivial⟩ rfl ?_
    · exact ⟨Nat.zero_le _, rfl, by omega, by omega⟩
    · repeat' first | exact trivial | refine ⟨rfl, ?_⟩ | refine ⟨step_nat (by assumption) (by assumption), ?_⟩
    · repeat' first | exact trivial | refine ⟨rfl, ?_⟩ | refine ⟨step_nat (by assumption) (by assumption), ?_⟩
    rintro ⟨⟨k, l⟩, hk, hI, h4, h5⟩
    show W _ _ _ _ _ ⟨[(2, .d (.v (.int .i64 (l)))), (3, .ptr 0 0), (7, .d (.v (.int .i64 ((k : Nat) : Int)))), (1, _)], [(0, _)], [], 1⟩
    refine W.seq ?_
    refine W.seq ?_
    refine W.region ?_
    iterate 2 refine pu (ev tab rfl) rfl ?_
    first | refine pu (ev tab rfl) rfl ?_ | refine pu (loadRow tab rfl rfl rfl rfl) rfl ?_ | refine pu (loadBox tab rfl rfl rfl rfl rfl) rfl ?_
    iterate 2 refine pu (ev tab rfl) rfl ?_
    refine WO.nil ?_
    refine qs ?_
    refine eachR (l := e.kids) (k := k) rfl (by simp [Ex.kc_len, bytes_len]) hk (fun x hx hd hlt => ?_) (fun he hd => ?_)
    · skip
      rw [hd] at hI
      simp only [deepL] at hI
      have hx1 := deep_le x (level - 1) l h4
      refine W.skip ?_
      refine qs ?_
      refine W.seq ?_
      refine W.block ?_
      refine W.seq ?_
      refine W.region ?_
      refine pu (ev tab rfl) rfl ?_
      first | refine pu (ev tab rfl) rfl ?_ | refine pu (loadRow tab rfl rfl rfl rfl) rfl ?_ | refine pu (loadBox tab rfl rfl rfl rfl rfl) rfl ?_
      refine pu (ev tab rfl) rfl ?_
      refine pu (indexAddr tab rfl rfl rfl rfl rfl rfl (Int.natCast_nonneg _) (Ex.kc_idx hx) rfl) rfl ?_
      first | refine pu (ev tab rfl) rfl ?_ | refine pu (loadRow tab rfl rfl rfl rfl) rfl ?_ | refine pu (loadBox tab rfl rfl rfl rfl rfl) rfl ?_
      refine pu (ev tab rfl) rfl ?_
      refine pu (puI (ev tab rfl) (wrap64 (by omega))) rfl ?_
      refine pu (ev tab rfl) rfl ?_
      refine pu (puCall rfl rfl rfl (ih x (List.mem_of_getElem? hx) _ _ (by omega) (by omega) (by omega) (by omega)) rfl) rfl ?_
      refine pu (ev tab rfl) rfl ?_
      refine WO.nil ?_
      refine qs ?_
      refine W.seq ?_
      refine W.region ?_
      iterate 2 refine pu (ev tab rfl) rfl ?_
      refine WO.nil ?_
      refine qs ?_
      refine condK rfl (fun h46 => ?_) (fun h46 => ?_)
      · skip
        rw [if_pos (by simpa using h46)] at hI
        refine W.seq ?_
        refine W.region ?_
        refine pu (ev tab rfl) rfl ?_
        refine WO.nil ?_
        refine qs ?_
        refine W.ret ?_
        refine qbRet ?_
        refine qsRet ?_
        refine qlRet ?_
        refine qbRet ?_
        refine qsRet ?_
        refine QF.ret0 trivial rfl ?_
        rw [hq, ← hI]; rfl
      · skip
        rw [if_neg (by simpa using h46)] at hI
        have h46 : 0 ≤ deep x (level - 1) l := by simpa using h46
        refine W.skip ?_
        refine qbN ?_
        refine qs ?_
        refine W.region ?_
        iterate 3 refine pu (ev tab rfl) rfl ?_
        refine WO.nil ?_
        refine W.endR [0] ⟨(k + 1, deep x (level - 1) l), ?_⟩ ?_ rfl ?_ ⟨rfl, rfl, trivial⟩ ?_ ⟨rfl, rfl, trivial⟩ rfl
        · exact ⟨hlt, hI, by omega, by omega⟩
        · dsimp only; omega
        · repeat' first | exact trivial | refine ⟨rfl, ?_⟩ | refine ⟨step_nat (by assumption) (by assumption), ?_⟩
        · repeat' first | exact trivial | refine ⟨rfl, ?_⟩ | refine ⟨step_nat (by assumption) (by assumption), ?_⟩
    · skip
      rw [hd] at hI
      simp only [deepL] at hI
      refine W.exit ?_
      refine qsExit ?_
      refine qlExit ?_
      refine qbExit ?_
      refine qs ?_
      refine W.seq ?_
      refine W.region ?_
      iterate 2 refine pu (ev tab rfl) rfl ?_
      refine WO.nil ?_
      refine qs ?_
      refine W.ret ?_
      refine QF.ret0 trivial rfl ?_
      rw [hq, ← hI]; rfl
theorem small_fn (e : Ex) : Does Try.prog 6 [.ag e.c] (.d (.v (.bool (small e)))) 0 := by
  refine Does.of_W (n := 6) (ts := [2]) Try.func6 (by kernel_rfl) rfl Try.ntmps6 Try.results6 rfl rfl fun C hC hG => ?_
  refine W.seq ?_
  refine W.region ?_
  refine boxR rfl rfl rfl ?_
  refine pu (ev tab rfl) rfl ?_
  refine WO.nil ?_
  refine qs ?_
  refine W.seq ?_
  refine W.region ?_
  first | refine pu (ev tab rfl) rfl ?_ | refine pu (loadRow tab rfl rfl rfl rfl) rfl ?_ | refine pu (loadBox tab rfl rfl rfl rfl rfl) rfl ?_
  refine pu (puCall rfl rfl rfl (deep_fn e 40 300 (by omega) (by omega) (by omega) (by omega)) rfl) rfl ?_
  iterate 2 refine pu (ev tab rfl) rfl ?_
  refine WO.nil ?_
  refine qs ?_
  refine W.ret ?_
  refine QF.ret0 trivial rfl ?_
  rfl
end Go.Proofs.Ytlmgnlhagpoggaa
namespace Go.Proofs.Ytlmgnlhagpoggaa
open Go.Ab Go.Tb
set_option maxRecDepth 10000
attribute [local irreducible] W WO Pu QS QB QL QF QV QV1 CH QE
theorem node_fn (e : Ex) : Does Try.prog 46 [.ag e.c] (.d (.v (.int .i64 (nodeErr e)))) 0 := by
  refine Does.of_W (n := 94) (ts := [2]) Try.func46 (by kernel_rfl) rfl Try.ntmps46 Try.results46 rfl rfl fun C hC hG => ?_
  have hkl := Ex.kc_len e
  refine W.seq ?_
  refine W.region ?_
  refine boxR rfl rfl rfl ?_
  refine pu (ev tab rfl) rfl ?_
  refine WO.nil ?_
  refine qs ?_
  refine W.seq ?_
  refine W.region ?_
  iterate 3 refine pu (ev tab rfl) rfl ?_
  refine WO.nil ?_
  refine qs ?_
  refine W.seq ?_
  refine W.block ?_
  refine W.seq ?_
  refine W.region ?_
  refine pu (ev tab rfl) rfl ?_
  first | refine pu (ev tab rfl) rfl ?_ | refine pu (loadRow tab rfl rfl rfl rfl) rfl ?_ | refine pu (loadBox tab rfl rfl rfl rfl rfl) rfl ?_
  iterate 2 refine pu (ev tab rfl) rfl ?_
  refine WO.nil ?_
  refine qs ?_
  refine condK rfl (fun h6 => ?_) (fun h6 => ?_)
  · skip
    refine W.region ?_
    iterate 2 refine pu (ev tab rfl) rfl ?_
    refine WO.nil ?_
    refine qbN ?_
    refine qs ?_
    refine W.seq ?_
    refine W.block ?_
    refine W.seq ?_
    refine W.seq ?_
    refine W.region ?_
    refine pu (ev tab rfl) rfl ?_
    first | refine pu (ev tab rfl) rfl ?_ | refine pu (loadRow tab rfl rfl rfl rfl) rfl ?_ | refine pu (loadBox tab rfl rfl rfl rfl rfl) rfl ?_
    iterate 4 refine pu (ev tab rfl) rfl ?_
    refine WO.nil ?_
    refine qs ?_
    refine condK rfl (fun h39 => ?_) (fun h39 => ?_)
    · skip
      refine W.skip ?_
      refine qs ?_
      refine W.condT rfl ?_
      refine W.seq ?_
      refine W.region ?_
      refine pu (ev tab rfl) rfl ?_
      refine WO.nil ?_
      refine qs ?_
      refine W.ret ?_
      refine qbRet ?_
      refine qsRet ?_
      refine QF.ret0 trivial rfl ?_
      simp only [norm, oneA, nodeErr, kidsOf, zeroV] at *; grind
    · skip
      refine W.seq ?_
      apply regionB; (case hb => rfl)
      · skip
        refine pu (ev tab rfl) rfl ?_
        first | refine pu (ev tab rfl) rfl ?_ | refine pu (loadRow tab rfl rfl rfl rfl) rfl ?_ | refine pu (loadBox tab rfl rfl rfl rfl rfl) rfl ?_
        iterate 2 refine pu (ev tab rfl) rfl ?_
        apply splitJ; (case hj => rfl); (case hl => rfl)
        · skip
          refine goG rfl rfl ?_
          refine pu (ev tab rfl) rfl ?_
          refine goG rfl rfl ?_
          iterate 3 refine pu (ev tab rfl) rfl ?_
          refine WO.nil ?_
          refine qv1 rfl rfl rfl
        · skip
          refine skipT rfl rfl rfl rfl ?_
          refine skipT rfl rfl rfl rfl ?_
          iterate 2 refine pu (ev tab rfl) rfl ?_
          refine WO.nil ?_
          refine qv1 rfl rfl rfl
      refine qs ?_
      refine condK rfl (fun h39 => ?_) (fun h39 => ?_)
      · skip
        refine W.skip ?_
        refine qs ?_
        refine W.condT rfl ?_
        refine W.seq ?_
        refine W.region ?_
        refine pu (ev tab rfl) rfl ?_
        refine WO.nil ?_
        refine qs ?_
        refine W.ret ?_
        refine qbRet ?_
        refine qsRet ?_
        refine QF.ret0 trivial rfl ?_
        simp only [norm, oneA, nodeErr, kidsOf, zeroV] at *; grind
      · skip
        apply regionB; (case hb => rfl)
        · skip
          refine pu (ev tab rfl) rfl ?_
          first | refine pu (ev tab rfl) rfl ?_ | refine pu (loadRow tab rfl rfl rfl rfl) rfl ?_ | refine pu (loadBox tab rfl rfl rfl rfl rfl) rfl ?_
          refine pu (build tab rfl rfl rfl rfl) rfl ?_
          iterate 2 refine pu (ev tab rfl) rfl ?_
          apply splitJ; (case hj => rfl); (case hl => rfl)
          · skip
            refine goG rfl rfl ?_
            refine pu (ev tab rfl) rfl ?_
            refine goG rfl rfl ?_
            iterate 3 refine pu (ev tab rfl) rfl ?_
            refine WO.nil ?_
            refine qv1 rfl rfl rfl
          · skip
            refine skipT rfl rfl rfl rfl ?_
            refine skipT rfl rfl rfl rfl ?_
            iterate 2 refine pu (ev tab rfl) rfl ?_
            refine WO.nil ?_
            refine qv1 rfl rfl rfl
        refine qs ?_
        refine condK rfl (fun h39 => ?_) (fun h39 => ?_)
        · skip
          refine W.seq ?_
          refine W.region ?_
          refine pu (ev tab rfl) rfl ?_
          refine WO.nil ?_
          refine qs ?_
          refine W.ret ?_
          refine qbRet ?_
          refine qsRet ?_
          refine QF.ret0 trivial rfl ?_
          simp only [norm, oneA, nodeErr, kidsOf, zeroV] at *; grind
        · skip
          refine W.seq ?_
          refine W.region ?_
          iterate 2 refine pu (ev tab rfl) rfl ?_
          refine WO.nil ?_
          refine qs ?_
          refine W.condT rfl ?_
          refine W.seq ?_
          refine W.region ?_
          refine pu (ev tab rfl) rfl ?_
          first | refine pu (ev tab rfl) rfl ?_ | refine pu (loadRow tab rfl rfl rfl rfl) rfl ?_ | refine pu (loadBox tab rfl rfl rfl rfl rfl) rfl ?_
          refine pu (puCall rfl rfl rfl (constant_fn ..) rfl) rfl ?_
          refine pu (ev tab rfl) rfl ?_
          refine WO.nil ?_
          refine qs ?_
          refine W.ret ?_
          refine qbRet ?_
          refine qsRet ?_
          refine QF.ret0 trivial rfl ?_
          simp only [norm, oneA, nodeErr, kidsOf, zeroV] at *; grind
  · skip
    refine W.seq ?_
    refine W.region ?_
    refine pu (ev tab rfl) rfl ?_
    first | refine pu (ev tab rfl) rfl ?_ | refine pu (loadRow tab rfl rfl rfl rfl) rfl ?_ | refine pu (loadBox tab rfl rfl rfl rfl rfl) rfl ?_
    iterate 2 refine pu (ev tab rfl) rfl ?_
    refine WO.nil ?_
    refine qs ?_
    refine condK rfl (fun h10 => ?_) (fun h10 => ?_)
    · skip
      refine W.region ?_
      iterate 2 refine pu (ev tab rfl) rfl ?_
      refine WO.nil ?_
      refine qbN ?_
      refine qs ?_
      refine W.seq ?_
      refine W.block ?_
      refine W.seq ?_
      refine W.seq ?_
      refine W.region ?_
      refine pu (ev tab rfl) rfl ?_
      first | refine pu (ev tab rfl) rfl ?_ | refine pu (loadRow tab rfl rfl rfl rfl) rfl ?_ | refine pu (loadBox tab rfl rfl rfl rfl rfl) rfl ?_
      iterate 4 refine pu (ev tab rfl) rfl ?_
      refine WO.nil ?_
      refine qs ?_
      refine condK rfl (fun h39 => ?_) (fun h39 => ?_)
      · skip
        refine W.skip ?_
        refine qs ?_
        refine W.condT rfl ?_
        refine W.seq ?_
        refine W.region ?_
        refine pu (ev tab rfl) rfl ?_
        refine WO.nil ?_
        refine qs ?_
        refine W.ret ?_
        refine qbRet ?_
        refine qsRet ?_
        refine QF.ret0 trivial rfl ?_
        simp only [norm, oneA, nodeErr, kidsOf, zeroV] at *; grind
      · skip
        refine W.seq ?_
        apply regionB; (case hb => rfl)
        · skip
          refine pu (ev tab rfl) rfl ?_
          first | refine pu (ev tab rfl) rfl ?_ | refine pu (loadRow tab rfl rfl rfl rfl) rfl ?_ | refine pu (loadBox tab rfl rfl rfl rfl rfl) rfl ?_
          iterate 2 refine pu (ev tab rfl) rfl ?_
          apply splitJ; (case hj => rfl); (case hl => rfl)
          · skip
            refine goG rfl rfl ?_
            refine pu (ev tab rfl) rfl ?_
            refine goG rfl rfl ?_
            iterate 3 refine pu (ev tab rfl) rfl ?_
            refine WO.nil ?_
            refine qv1 rfl rfl rfl
          · skip
            refine skipT rfl rfl rfl rfl ?_
            refine skipT rfl rfl rfl rfl ?_
            iterate 2 refine pu (ev tab rfl) rfl ?_
            refine WO.nil ?_
            refine qv1 rfl rfl rfl
        refine qs ?_
        refine condK rfl (fun h39 => ?_) (fun h39 => ?_)
        · skip
          refine W.skip ?_
          refine qs ?_
          refine W.condT rfl ?_
          refine W.seq ?_
          refine W.region ?_
          refine pu (ev tab rfl) rfl ?_
          refine WO.nil ?_
          refine qs ?_
          refine W.ret ?_
          refine qbRet ?_
          refine qsRet ?_
          refine QF.ret0 trivial rfl ?_
          simp only [norm, oneA, nodeErr, kidsOf, zeroV] at *; grind
        · skip
          apply regionB; (case hb => rfl)
          · skip
            refine pu (ev tab rfl) rfl ?_
            first | refine pu (ev tab rfl) rfl ?_ | refine pu (loadRow tab rfl rfl rfl rfl) rfl ?_ | refine pu (loadBox tab rfl rfl rfl rfl rfl) rfl ?_
            refine pu (build tab rfl rfl rfl rfl) rfl ?_
            iterate 2 refine pu (ev tab rfl) rfl ?_
            apply splitJ; (case hj => rfl); (case hl => rfl)
            · skip
              refine goG rfl rfl ?_
              refine pu (ev tab rfl) rfl ?_
              refine goG rfl rfl ?_
              iterate 3 refine pu (ev tab rfl) rfl ?_
              refine WO.nil ?_
              refine qv1 rfl rfl rfl
            · skip
              refine skipT rfl rfl rfl rfl ?_
              refine skipT rfl rfl rfl rfl ?_
              iterate 2 refine pu (ev tab rfl) rfl ?_
              refine WO.nil ?_
              refine qv1 rfl rfl rfl
          refine qs ?_
          refine condK rfl (fun h39 => ?_) (fun h39 => ?_)
          · skip
            refine W.seq ?_
            refine W.region ?_
            refine pu (ev tab rfl) rfl ?_
            refine WO.nil ?_
            refine qs ?_
            refine W.ret ?_
            refine qbRet ?_
            refine qsRet ?_
            refine QF.ret0 trivial rfl ?_
            simp only [norm, oneA, nodeErr, kidsOf, zeroV] at *; grind
          · skip
            refine W.seq ?_
            refine W.region ?_
            iterate 2 refine pu (ev tab rfl) rfl ?_
            refine WO.nil ?_
            refine qs ?_
            refine W.condF rfl ?_
            refine W.seq ?_
            apply regionB; (case hb => rfl)
            · skip
              iterate 2 refine pu (ev tab rfl) rfl ?_
              refine goG rfl rfl ?_
              refine pu (ev tab rfl) rfl ?_
              refine goG rfl rfl ?_
              first | refine pu (ev tab rfl) rfl ?_ | refine pu (loadRow tab rfl rfl rfl rfl) rfl ?_ | refine pu (loadBox tab rfl rfl rfl rfl rfl) rfl ?_
              refine goG rfl rfl ?_
              refine pu (puCall rfl rfl rfl (identifier_fn ..) rfl) rfl ?_
              refine goG rfl rfl ?_
              iterate 3 refine pu (ev tab rfl) rfl ?_
              refine WO.nil ?_
              refine qv1 rfl rfl rfl
            refine qs ?_
            refine condK rfl (fun h65 => ?_) (fun h65 => ?_)
            · skip
              refine W.seq ?_
              refine W.region ?_
              refine pu (ev tab rfl) rfl ?_
              refine WO.nil ?_
              refine qs ?_
              refine W.ret ?_
              refine qbRet ?_
              refine qsRet ?_
              refine QF.ret0 trivial rfl ?_
              simp only [norm, oneA, nodeErr, kidsOf, zeroV] at *; grind
            · skip
              refine W.seq ?_
              apply regionB; (case hb => rfl)
              · skip
                refine pu (ev tab rfl) rfl ?_
                first | refine pu (ev tab rfl) rfl ?_ | refine pu (loadRow tab rfl rfl rfl rfl) rfl ?_ | refine pu (loadBox tab rfl rfl rfl rfl rfl) rfl ?_
                iterate 2 refine pu (ev tab rfl) rfl ?_
                apply splitJ; (case hj => rfl); (case hl => rfl)
                · skip
                  refine goG rfl rfl ?_
                  refine pu (ev tab rfl) rfl ?_
                  refine goG rfl rfl ?_
                  first | refine pu (ev tab rfl) rfl ?_ | refine pu (loadRow tab rfl rfl rfl rfl) rfl ?_ | refine pu (loadBox tab rfl rfl rfl rfl rfl) rfl ?_
                  refine goG rfl rfl ?_
                  refine pu (puCall rfl rfl rfl (arity_fn ..) rfl) rfl ?_
                  refine goG rfl rfl ?_
                  iterate 3 refine pu (ev tab rfl) rfl ?_
                  refine WO.nil ?_
                  refine qv1 rfl rfl rfl
                · skip
                  refine skipT rfl rfl rfl rfl ?_
                  refine skipT rfl rfl rfl rfl ?_
                  refine skipT rfl rfl rfl rfl ?_
                  refine skipT rfl rfl rfl rfl ?_
                  iterate 2 refine pu (ev tab rfl) rfl ?_
                  refine WO.nil ?_
                  refine qv1 rfl rfl rfl
              refine qs ?_
              refine condK rfl (fun h73 => ?_) (fun h73 => ?_)
              · skip
                refine W.seq ?_
                refine W.region ?_
                refine pu (ev tab rfl) rfl ?_
                refine WO.nil ?_
                refine qs ?_
                refine W.ret ?_
                refine qbRet ?_
                refine qsRet ?_
                refine QF.ret0 trivial rfl ?_
                simp only [norm, oneA, nodeErr, kidsOf, zeroV] at *; grind
              · skip
                refine W.seq ?_
                apply regionB; (case hb => rfl)
                · skip
                  refine pu (ev tab rfl) rfl ?_
                  first | refine pu (ev tab rfl) rfl ?_ | refine pu (loadRow tab rfl rfl rfl rfl) rfl ?_ | refine pu (loadBox tab rfl rfl rfl rfl rfl) rfl ?_
                  iterate 2 refine pu (ev tab rfl) rfl ?_
                  apply splitJ; (case hj => rfl); (case hl => rfl)
                  · skip
                    refine goG rfl rfl ?_
                    refine pu (ev tab rfl) rfl ?_
                    refine goG rfl rfl ?_
                    first | refine pu (ev tab rfl) rfl ?_ | refine pu (loadRow tab rfl rfl rfl rfl) rfl ?_ | refine pu (loadBox tab rfl rfl rfl rfl rfl) rfl ?_
                    refine goG rfl rfl ?_
                    refine pu (puCall rfl rfl rfl (arity_fn ..) rfl) rfl ?_
                    refine goG rfl rfl ?_
                    refine pu (ev tab rfl) rfl ?_
                    refine goG rfl rfl ?_
                    iterate 3 refine pu (ev tab rfl) rfl ?_
                    refine WO.nil ?_
                    refine qv1 rfl rfl rfl
                  · skip
                    refine skipT rfl rfl rfl rfl ?_
                    refine skipT rfl rfl rfl rfl ?_
                    refine skipT rfl rfl rfl rfl ?_
                    refine skipT rfl rfl rfl rfl ?_
                    refine skipT rfl rfl rfl rfl ?_
                    iterate 2 refine pu (ev tab rfl) rfl ?_
                    refine WO.nil ?_
                    refine qv1 rfl rfl rfl
                refine qs ?_
                refine condK rfl (fun h83 => ?_) (fun h83 => ?_)
                · skip
                  refine W.seq ?_
                  refine W.region ?_
                  refine pu (ev tab rfl) rfl ?_
                  refine WO.nil ?_
                  refine qs ?_
                  refine W.ret ?_
                  refine qbRet ?_
                  refine qsRet ?_
                  refine QF.ret0 trivial rfl ?_
                  simp only [norm, oneA, nodeErr, kidsOf, zeroV] at *; grind
                · skip
                  refine W.skip ?_
                  refine qbN ?_
                  refine qs ?_
                  refine W.seq ?_
                  refine W.region ?_
                  refine pu (ev tab rfl) rfl ?_
                  refine WO.nil ?_
                  refine qs ?_
                  refine W.ret ?_
                  refine QF.ret0 trivial rfl ?_
                  simp only [norm, oneA, nodeErr, kidsOf, zeroV] at *; grind
    · skip
      refine W.seq ?_
      apply regionB; (case hb => rfl)
      · skip
        refine pu (ev tab rfl) rfl ?_
        first | refine pu (ev tab rfl) rfl ?_ | refine pu (loadRow tab rfl rfl rfl rfl) rfl ?_ | refine pu (loadBox tab rfl rfl rfl rfl rfl) rfl ?_
        iterate 2 refine pu (ev tab rfl) rfl ?_
        apply splitJ; (case hj => rfl); (case hl => rfl)
        · skip
          refine skipT rfl rfl rfl rfl ?_
          refine skipT rfl rfl rfl rfl ?_
          refine skipT rfl rfl rfl rfl ?_
          iterate 2 refine pu (ev tab rfl) rfl ?_
          refine WO.nil ?_
          refine qv1 rfl rfl rfl
        · skip
          refine goG rfl rfl ?_
          refine pu (ev tab rfl) rfl ?_
          refine goG rfl rfl ?_
          first | refine pu (ev tab rfl) rfl ?_ | refine pu (loadRow tab rfl rfl rfl rfl) rfl ?_ | refine pu (loadBox tab rfl rfl rfl rfl rfl) rfl ?_
          refine goG rfl rfl ?_
          iterate 3 refine pu (ev tab rfl) rfl ?_
          refine WO.nil ?_
          refine qv1 rfl rfl rfl
      refine qs ?_
      refine condK rfl (fun h14 => ?_) (fun h14 => ?_)
      · skip
        refine W.region ?_
        refine pu (ev tab rfl) rfl ?_
        refine WO.nil ?_
        refine qbN ?_
        refine qs ?_
        refine W.seq ?_
        refine W.block ?_
        refine W.seq ?_
        refine W.seq ?_
        refine W.region ?_
        refine pu (ev tab rfl) rfl ?_
        first | refine pu (ev tab rfl) rfl ?_ | refine pu (loadRow tab rfl rfl rfl rfl) rfl ?_ | refine pu (loadBox tab rfl rfl rfl rfl rfl) rfl ?_
        iterate 4 refine pu (ev tab rfl) rfl ?_
        refine WO.nil ?_
        refine qs ?_
        refine condK rfl (fun h39 => ?_) (fun h39 => ?_)
        · skip
          refine W.skip ?_
          refine qs ?_
          refine W.condT rfl ?_
          refine W.seq ?_
          refine W.region ?_
          refine pu (ev tab rfl) rfl ?_
          refine WO.nil ?_
          refine qs ?_
          refine W.ret ?_
          refine qbRet ?_
          refine qsRet ?_
          refine QF.ret0 trivial rfl ?_
          simp only [norm, oneA, nodeErr, kidsOf, zeroV] at *; grind
        · skip
          refine W.seq ?_
          apply regionB; (case hb => rfl)
          · skip
            refine pu (ev tab rfl) rfl ?_
            first | refine pu (ev tab rfl) rfl ?_ | refine pu (loadRow tab rfl rfl rfl rfl) rfl ?_ | refine pu (loadBox tab rfl rfl rfl rfl rfl) rfl ?_
            iterate 2 refine pu (ev tab rfl) rfl ?_
            apply splitJ; (case hj => rfl); (case hl => rfl)
            · skip
              refine goG rfl rfl ?_
              refine pu (ev tab rfl) rfl ?_
              refine goG rfl rfl ?_
              iterate 3 refine pu (ev tab rfl) rfl ?_
              refine WO.nil ?_
              refine qv1 rfl rfl rfl
            · skip
              refine skipT rfl rfl rfl rfl ?_
              refine skipT rfl rfl rfl rfl ?_
              iterate 2 refine pu (ev tab rfl) rfl ?_
              refine WO.nil ?_
              refine qv1 rfl rfl rfl
          refine qs ?_
          refine condK rfl (fun h39 => ?_) (fun h39 => ?_)
          · skip
            refine W.skip ?_
            refine qs ?_
            refine W.condT rfl ?_
            refine W.seq ?_
            refine W.region ?_
            refine pu (ev tab rfl) rfl ?_
            refine WO.nil ?_
            refine qs ?_
            refine W.ret ?_
            refine qbRet ?_
            refine qsRet ?_
            refine QF.ret0 trivial rfl ?_
            simp only [norm, oneA, nodeErr, kidsOf, zeroV] at *; grind
          · skip
            apply regionB; (case hb => rfl)
            · skip
              refine pu (ev tab rfl) rfl ?_
              first | refine pu (ev tab rfl) rfl ?_ | refine pu (loadRow tab rfl rfl rfl rfl) rfl ?_ | refine pu (loadBox tab rfl rfl rfl rfl rfl) rfl ?_
              refine pu (build tab rfl rfl rfl rfl) rfl ?_
              iterate 2 refine pu (ev tab rfl) rfl ?_
              apply splitJ; (case hj => rfl); (case hl => rfl)
              · skip
                refine goG rfl rfl ?_
                refine pu (ev tab rfl) rfl ?_
                refine goG rfl rfl ?_
                iterate 3 refine pu (ev tab rfl) rfl ?_
                refine WO.nil ?_
                refine qv1 rfl rfl rfl
              · skip
                refine skipT rfl rfl rfl rfl ?_
                refine skipT rfl rfl rfl rfl ?_
                iterate 2 refine pu (ev tab rfl) rfl ?_
                refine WO.nil ?_
                refine qv1 rfl rfl rfl
            refine qs ?_
            refine condK rfl (fun h39 => ?_) (fun h39 => ?_)
            · skip
              refine W.seq ?_
              refine W.region ?_
              refine pu (ev tab rfl) rfl ?_
              refine WO.nil ?_
              refine qs ?_
              refine W.ret ?_
              refine qbRet ?_
              refine qsRet ?_
              refine QF.ret0 trivial rfl ?_
              simp only [norm, oneA, nodeErr, kidsOf, zeroV] at *; grind
            · skip
              refine W.seq ?_
              refine W.region ?_
              iterate 2 refine pu (ev tab rfl) rfl ?_
              refine WO.nil ?_
              refine qs ?_
              refine W.condF rfl ?_
              refine W.seq ?_
              apply regionB; (case hb => rfl)
              · skip
                iterate 2 refine pu (ev tab rfl) rfl ?_
                refine skipT rfl rfl rfl rfl ?_
                refine skipT rfl rfl rfl rfl ?_
                refine skipT rfl rfl rfl rfl ?_
                refine skipT rfl rfl rfl rfl ?_
                iterate 2 refine pu (ev tab rfl) rfl ?_
                refine WO.nil ?_
                refine qv1 rfl rfl rfl
              refine qs ?_
              refine condK rfl (fun h65 => ?_) (fun h65 => ?_)
              · skip
                refine W.seq ?_
                refine W.region ?_
                refine pu (ev tab rfl) rfl ?_
                refine WO.nil ?_
                refine qs ?_
                refine W.ret ?_
                refine qbRet ?_
                refine qsRet ?_
                refine QF.ret0 trivial rfl ?_
                simp only [norm, oneA, nodeErr, kidsOf, zeroV] at *; grind
              · skip
                refine W.seq ?_
                apply regionB; (case hb => rfl)
                · skip
                  refine pu (ev tab rfl) rfl ?_
                  first | refine pu (ev tab rfl) rfl ?_ | refine pu (loadRow tab rfl rfl rfl rfl) rfl ?_ | refine pu (loadBox tab rfl rfl rfl rfl rfl) rfl ?_
                  iterate 2 refine pu (ev tab rfl) rfl ?_
                  apply splitJ; (case hj => rfl); (case hl => rfl)
                  · skip
                    refine goG rfl rfl ?_
                    refine pu (ev tab rfl) rfl ?_
                    refine goG rfl rfl ?_
                    first | refine pu (ev tab rfl) rfl ?_ | refine pu (loadRow tab rfl rfl rfl rfl) rfl ?_ | refine pu (loadBox tab rfl rfl rfl rfl rfl) rfl ?_
                    refine goG rfl rfl ?_
                    refine pu (puCall rfl rfl rfl (arity_fn ..) rfl) rfl ?_
                    refine goG rfl rfl ?_
                    iterate 3 refine pu (ev tab rfl) rfl ?_
                    refine WO.nil ?_
                    refine qv1 rfl rfl rfl
                  · skip
                    refine skipT rfl rfl rfl rfl ?_
                    refine skipT rfl rfl rfl rfl ?_
                    refine skipT rfl rfl rfl rfl ?_
                    refine skipT rfl rfl rfl rfl ?_
                    iterate 2 refine pu (ev tab rfl) rfl ?_
                    refine WO.nil ?_
                    refine qv1 rfl rfl rfl
                refine qs ?_
                refine condK rfl (fun h73 => ?_) (fun h73 => ?_)
                · skip
                  refine W.seq ?_
                  refine W.region ?_
                  refine pu (ev tab rfl) rfl ?_
                  refine WO.nil ?_
                  refine qs ?_
                  refine W.ret ?_
                  refine qbRet ?_
                  refine qsRet ?_
                  refine QF.ret0 trivial rfl ?_
                  simp only [norm, oneA, nodeErr, kidsOf, zeroV] at *; grind
                · skip
                  refine W.seq ?_
                  apply regionB; (case hb => rfl)
                  · skip
                    refine pu (ev tab rfl) rfl ?_
                    first | refine pu (ev tab rfl) rfl ?_ | refine pu (loadRow tab rfl rfl rfl rfl) rfl ?_ | refine pu (loadBox tab rfl rfl rfl rfl rfl) rfl ?_
                    iterate 2 refine pu (ev tab rfl) rfl ?_
                    apply splitJ; (case hj => rfl); (case hl => rfl)
                    · skip
                      refine goG rfl rfl ?_
                      refine pu (ev tab rfl) rfl ?_
                      refine goG rfl rfl ?_
                      first | refine pu (ev tab rfl) rfl ?_ | refine pu (loadRow tab rfl rfl rfl rfl) rfl ?_ | refine pu (loadBox tab rfl rfl rfl rfl rfl) rfl ?_
                      refine goG rfl rfl ?_
                      refine pu (puCall rfl rfl rfl (arity_fn ..) rfl) rfl ?_
                      refine goG rfl rfl ?_
                      refine pu (ev tab rfl) rfl ?_
                      refine goG rfl rfl ?_
                      iterate 3 refine pu (ev tab rfl) rfl ?_
                      refine WO.nil ?_
                      refine qv1 rfl rfl rfl
                    · skip
                      refine skipT rfl rfl rfl rfl ?_
                      refine skipT rfl rfl rfl rfl ?_
                      refine skipT rfl rfl rfl rfl ?_
                      refine skipT rfl rfl rfl rfl ?_
                      refine skipT rfl rfl rfl rfl ?_
                      iterate 2 refine pu (ev tab rfl) rfl ?_
                      refine WO.nil ?_
                      refine qv1 rfl rfl rfl
                  refine qs ?_
                  refine condK rfl (fun h83 => ?_) (fun h83 => ?_)
                  · skip
                    refine W.seq ?_
                    refine W.region ?_
                    refine pu (ev tab rfl) rfl ?_
                    refine WO.nil ?_
                    refine qs ?_
                    refine W.ret ?_
                    refine qbRet ?_
                    refine qsRet ?_
                    refine QF.ret0 trivial rfl ?_
                    simp only [norm, oneA, nodeErr, kidsOf, zeroV] at *; grind
                  · skip
                    refine W.skip ?_
                    refine qbN ?_
                    refine qs ?_
                    refine W.seq ?_
                    refine W.region ?_
                    refine pu (ev tab rfl) rfl ?_
                    refine WO.nil ?_
                    refine qs ?_
                    refine W.ret ?_
                    refine QF.ret0 trivial rfl ?_
                    simp only [norm, oneA, nodeErr, kidsOf, zeroV] at *; grind
      · skip
        refine W.seq ?_
        refine W.region ?_
        refine pu (ev tab rfl) rfl ?_
        first | refine pu (ev tab rfl) rfl ?_ | refine pu (loadRow tab rfl rfl rfl rfl) rfl ?_ | refine pu (loadBox tab rfl rfl rfl rfl rfl) rfl ?_
        iterate 2 refine pu (ev tab rfl) rfl ?_
        refine WO.nil ?_
        refine qs ?_
        refine condK rfl (fun h23 => ?_) (fun h23 => ?_)
        · skip
          refine W.region ?_
          refine pu (ev tab rfl) rfl ?_
          first | refine pu (ev tab rfl) rfl ?_ | refine pu (loadRow tab rfl rfl rfl rfl) rfl ?_ | refine pu (loadBox tab rfl rfl rfl rfl rfl) rfl ?_
          iterate 3 refine pu (ev tab rfl) rfl ?_
          refine WO.nil ?_
          refine qbN ?_
          refine qs ?_
          refine W.seq ?_
          refine W.block ?_
          refine W.seq ?_
          refine W.seq ?_
          refine W.region ?_
          refine pu (ev tab rfl) rfl ?_
          first | refine pu (ev tab rfl) rfl ?_ | refine pu (loadRow tab rfl rfl rfl rfl) rfl ?_ | refine pu (loadBox tab rfl rfl rfl rfl rfl) rfl ?_
          iterate 4 refine pu (ev tab rfl) rfl ?_
          refine WO.nil ?_
          refine qs ?_
          refine condK rfl (fun h39 => ?_) (fun h39 => ?_)
          · skip
            refine W.skip ?_
            refine qs ?_
            refine W.condT rfl ?_
            refine W.seq ?_
            refine W.region ?_
            refine pu (ev tab rfl) rfl ?_
            refine WO.nil ?_
            refine qs ?_
            refine W.ret ?_
            refine qbRet ?_
            refine qsRet ?_
            refine QF.ret0 trivial rfl ?_
            simp only [norm, oneA, nodeErr, kidsOf, zeroV] at *; grind
          · skip
            refine W.seq ?_
            apply regionB; (case hb => rfl)
            · skip
              refine pu (ev tab rfl) rfl ?_
              first | refine pu (ev tab rfl) rfl ?_ | refine pu (loadRow tab rfl rfl rfl rfl) rfl ?_ | refine pu (loadBox tab rfl rfl rfl rfl rfl) rfl ?_
              iterate 2 refine pu (ev tab rfl) rfl ?_
              apply splitJ; (case hj => rfl); (case hl => rfl)
              · skip
                refine goG rfl rfl ?_
                refine pu (ev tab rfl) rfl ?_
                refine goG rfl rfl ?_
                iterate 3 refine pu (ev tab rfl) rfl ?_
                refine WO.nil ?_
                refine qv1 rfl rfl rfl
              · skip
                refine skipT rfl rfl rfl rfl ?_
                refine skipT rfl rfl rfl rfl ?_
                iterate 2 refine pu (ev tab rfl) rfl ?_
                refine WO.nil ?_
                refine qv1 rfl rfl rfl
            refine qs ?_
            refine condK rfl (fun h39 => ?_) (fun h39 => ?_)
            · skip
              refine W.skip ?_
              refine qs ?_
              refine W.condT rfl ?_
              refine W.seq ?_
              refine W.region ?_
              refine pu (ev tab rfl) rfl ?_
              refine WO.nil ?_
              refine qs ?_
              refine W.ret ?_
              refine qbRet ?_
              refine qsRet ?_
              refine QF.ret0 trivial rfl ?_
              simp only [norm, oneA, nodeErr, kidsOf, zeroV] at *; grind
            · skip
              apply regionB; (case hb => rfl)
              · skip
                refine pu (ev tab rfl) rfl ?_
                first | refine pu (ev tab rfl) rfl ?_ | refine pu (loadRow tab rfl rfl rfl rfl) rfl ?_ | refine pu (loadBox tab rfl rfl rfl rfl rfl) rfl ?_
                refine pu (build tab rfl rfl rfl rfl) rfl ?_
                iterate 2 refine pu (ev tab rfl) rfl ?_
                apply splitJ; (case hj => rfl); (case hl => rfl)
                · skip
                  refine goG rfl rfl ?_
                  refine pu (ev tab rfl) rfl ?_
                  refine goG rfl rfl ?_
                  iterate 3 refine pu (ev tab rfl) rfl ?_
                  refine WO.nil ?_
                  refine qv1 rfl rfl rfl
                · skip
                  refine skipT rfl rfl rfl rfl ?_
                  refine skipT rfl rfl rfl rfl ?_
                  iterate 2 refine pu (ev tab rfl) rfl ?_
                  refine WO.nil ?_
                  refine qv1 rfl rfl rfl
              refine qs ?_
              refine condK rfl (fun h39 => ?_) (fun h39 => ?_)
              · skip
                refine W.seq ?_
                refine W.region ?_
                refine pu (ev tab rfl) rfl ?_
                refine WO.nil ?_
                refine qs ?_
                refine W.ret ?_
                refine qbRet ?_
                refine qsRet ?_
                refine QF.ret0 trivial rfl ?_
                simp only [norm, oneA, nodeErr, kidsOf, zeroV] at *; grind
              · skip
                refine W.seq ?_
                refine W.region ?_
                iterate 2 refine pu (ev tab rfl) rfl ?_
                refine WO.nil ?_
                refine qs ?_
                refine W.condF rfl ?_
                refine W.seq ?_
                apply regionB; (case hb => rfl)
                · skip
                  iterate 2 refine pu (ev tab rfl) rfl ?_
                  refine goG rfl rfl ?_
                  refine pu (ev tab rfl) rfl ?_
                  refine goG rfl rfl ?_
                  first | refine pu (ev tab rfl) rfl ?_ | refine pu (loadRow tab rfl rfl rfl rfl) rfl ?_ | refine pu (loadBox tab rfl rfl rfl rfl rfl) rfl ?_
                  refine goG rfl rfl ?_
                  refine pu (puCall rfl rfl rfl (identifier_fn ..) rfl) rfl ?_
                  refine goG rfl rfl ?_
                  iterate 3 refine pu (ev tab rfl) rfl ?_
                  refine WO.nil ?_
                  refine qv1 rfl rfl rfl
                refine qs ?_
                refine condK rfl (fun h65 => ?_) (fun h65 => ?_)
                · skip
                  refine W.seq ?_
                  refine W.region ?_
                  refine pu (ev tab rfl) rfl ?_
                  refine WO.nil ?_
                  refine qs ?_
                  refine W.ret ?_
                  refine qbRet ?_
                  refine qsRet ?_
                  refine QF.ret0 trivial rfl ?_
                  simp only [norm, oneA, nodeErr, kidsOf, zeroV] at *; grind
                · skip
                  refine W.seq ?_
                  apply regionB; (case hb => rfl)
                  · skip
                    refine pu (ev tab rfl) rfl ?_
                    first | refine pu (ev tab rfl) rfl ?_ | refine pu (loadRow tab rfl rfl rfl rfl) rfl ?_ | refine pu (loadBox tab rfl rfl rfl rfl rfl) rfl ?_
                    iterate 2 refine pu (ev tab rfl) rfl ?_
                    apply splitJ; (case hj => rfl); (case hl => rfl)
                    · skip
                      refine goG rfl rfl ?_
                      refine pu (ev tab rfl) rfl ?_
                      refine goG rfl rfl ?_
                      first | refine pu (ev tab rfl) rfl ?_ | refine pu (loadRow tab rfl rfl rfl rfl) rfl ?_ | refine pu (loadBox tab rfl rfl rfl rfl rfl) rfl ?_
                      refine goG rfl rfl ?_
                      refine pu (puCall rfl rfl rfl (arity_fn ..) rfl) rfl ?_
                      refine goG rfl rfl ?_
                      iterate 3 refine pu (ev tab rfl) rfl ?_
                      refine WO.nil ?_
                      refine qv1 rfl rfl rfl
                    · skip
                      refine skipT rfl rfl rfl rfl ?_
                      refine skipT rfl rfl rfl rfl ?_
                      refine skipT rfl rfl rfl rfl ?_
                      refine skipT rfl rfl rfl rfl ?_
                      iterate 2 refine pu (ev tab rfl) rfl ?_
                      refine WO.nil ?_
                      refine qv1 rfl rfl rfl
                  refine qs ?_
                  refine condK rfl (fun h73 => ?_) (fun h73 => ?_)
                  · skip
                    refine W.seq ?_
                    refine W.region ?_
                    refine pu (ev tab rfl) rfl ?_
                    refine WO.nil ?_
                    refine qs ?_
                    refine W.ret ?_
                    refine qbRet ?_
                    refine qsRet ?_
                    refine QF.ret0 trivial rfl ?_
                    simp only [norm, oneA, nodeErr, kidsOf, zeroV] at *; grind
                  · skip
                    refine W.seq ?_
                    apply regionB; (case hb => rfl)
                    · skip
                      refine pu (ev tab rfl) rfl ?_
                      first | refine pu (ev tab rfl) rfl ?_ | refine pu (loadRow tab rfl rfl rfl rfl) rfl ?_ | refine pu (loadBox tab rfl rfl rfl rfl rfl) rfl ?_
                      iterate 2 refine pu (ev tab rfl) rfl ?_
                      apply splitJ; (case hj => rfl); (case hl => rfl)
                      · skip
                        refine goG rfl rfl ?_
                        refine pu (ev tab rfl) rfl ?_
                        refine goG rfl rfl ?_
                        first | refine pu (ev tab rfl) rfl ?_ | refine pu (loadRow tab rfl rfl rfl rfl) rfl ?_ | refine pu (loadBox tab rfl rfl rfl rfl rfl) rfl ?_
                        refine goG rfl rfl ?_
                        refine pu (puCall rfl rfl rfl (arity_fn ..) rfl) rfl ?_
                        refine goG rfl rfl ?_
                        refine pu (ev tab rfl) rfl ?_
                        refine goG rfl rfl ?_
                        iterate 3 refine pu (ev tab rfl) rfl ?_
                        refine WO.nil ?_
                        refine qv1 rfl rfl rfl
                      · skip
                        refine skipT rfl rfl rfl rfl ?_
                        refine skipT rfl rfl rfl rfl ?_
                        refine skipT rfl rfl rfl rfl ?_
                        refine skipT rfl rfl rfl rfl ?_
                        refine skipT rfl rfl rfl rfl ?_
                        iterate 2 refine pu (ev tab rfl) rfl ?_
                        refine WO.nil ?_
                        refine qv1 rfl rfl rfl
                    refine qs ?_
                    refine condK rfl (fun h83 => ?_) (fun h83 => ?_)
                    · skip
                      refine W.seq ?_
                      refine W.region ?_
                      refine pu (ev tab rfl) rfl ?_
                      refine WO.nil ?_
                      refine qs ?_
                      refine W.ret ?_
                      refine qbRet ?_
                      refine qsRet ?_
                      refine QF.ret0 trivial rfl ?_
                      simp only [norm, oneA, nodeErr, kidsOf, zeroV] at *; grind
                    · skip
                      refine W.skip ?_
                      refine qbN ?_
                      refine qs ?_
                      refine W.seq ?_
                      refine W.region ?_
                      refine pu (ev tab rfl) rfl ?_
                      refine WO.nil ?_
                      refine qs ?_
                      refine W.ret ?_
                      refine QF.ret0 trivial rfl ?_
                      simp only [norm, oneA, nodeErr, kidsOf, zeroV] at *; grind
        · skip
          refine W.seq ?_
          apply regionB; (case hb => rfl)
          · skip
            refine pu (ev tab rfl) rfl ?_
            first | refine pu (ev tab rfl) rfl ?_ | refine pu (loadRow tab rfl rfl rfl rfl) rfl ?_ | refine pu (loadBox tab rfl rfl rfl rfl rfl) rfl ?_
            iterate 2 refine pu (ev tab rfl) rfl ?_
            apply splitJ; (case hj => rfl); (case hl => rfl)
            · skip
              refine skipT rfl rfl rfl rfl ?_
              refine skipT rfl rfl rfl rfl ?_
              refine skipT rfl rfl rfl rfl ?_
              iterate 2 refine pu (ev tab rfl) rfl ?_
              refine WO.nil ?_
              refine qv1 rfl rfl rfl
            · skip
              refine goG rfl rfl ?_
              refine pu (ev tab rfl) rfl ?_
              refine goG rfl rfl ?_
              first | refine pu (ev tab rfl) rfl ?_ | refine pu (loadRow tab rfl rfl rfl rfl) rfl ?_ | refine pu (loadBox tab rfl rfl rfl rfl rfl) rfl ?_
              refine goG rfl rfl ?_
              iterate 3 refine pu (ev tab rfl) rfl ?_
              refine WO.nil ?_
              refine qv1 rfl rfl rfl
          refine qs ?_
          refine condK rfl (fun h30 => ?_) (fun h30 => ?_)
          · skip
            refine W.seq ?_
            refine W.region ?_
            refine pu (ev tab rfl) rfl ?_
            refine WO.nil ?_
            refine qs ?_
            refine W.ret ?_
            refine qbRet ?_
            refine qsRet ?_
            refine QF.ret0 trivial rfl ?_
            simp only [norm, oneA, nodeErr, kidsOf, zeroV] at *; grind
          · skip
            refine W.skip ?_
            refine qbN ?_
            refine qs ?_
            refine W.seq ?_
            refine W.block ?_
            refine W.seq ?_
            refine W.seq ?_
            refine W.region ?_
            refine pu (ev tab rfl) rfl ?_
            first | refine pu (ev tab rfl) rfl ?_ | refine pu (loadRow tab rfl rfl rfl rfl) rfl ?_ | refine pu (loadBox tab rfl rfl rfl rfl rfl) rfl ?_
            iterate 4 refine pu (ev tab rfl) rfl ?_
            refine WO.nil ?_
            refine qs ?_
            refine condK rfl (fun h39 => ?_) (fun h39 => ?_)
            · skip
              refine W.skip ?_
              refine qs ?_
              refine W.condT rfl ?_
              refine W.seq ?_
              refine W.region ?_
              refine pu (ev tab rfl) rfl ?_
              refine WO.nil ?_
              refine qs ?_
              refine W.ret ?_
              refine qbRet ?_
              refine qsRet ?_
              refine QF.ret0 trivial rfl ?_
              simp only [norm, oneA, nodeErr, kidsOf, zeroV] at *; grind
            · skip
              refine W.seq ?_
              apply regionB; (case hb => rfl)
              · skip
                refine pu (ev tab rfl) rfl ?_
                first | refine pu (ev tab rfl) rfl ?_ | refine pu (loadRow tab rfl rfl rfl rfl) rfl ?_ | refine pu (loadBox tab rfl rfl rfl rfl rfl) rfl ?_
                iterate 2 refine pu (ev tab rfl) rfl ?_
                apply splitJ; (case hj => rfl); (case hl => rfl)
                · skip
                  refine goG rfl rfl ?_
                  refine pu (ev tab rfl) rfl ?_
                  refine goG rfl rfl ?_
                  iterate 3 refine pu (ev tab rfl) rfl ?_
                  refine WO.nil ?_
                  refine qv1 rfl rfl rfl
                · skip
                  refine skipT rfl rfl rfl rfl ?_
                  refine skipT rfl rfl rfl rfl ?_
                  iterate 2 refine pu (ev tab rfl) rfl ?_
                  refine WO.nil ?_
                  refine qv1 rfl rfl rfl
              refine qs ?_
              refine condK rfl (fun h39 => ?_) (fun h39 => ?_)
              · skip
                refine W.skip ?_
                refine qs ?_
                refine W.condT rfl ?_
                refine W.seq ?_
                refine W.region ?_
                refine pu (ev tab rfl) rfl ?_
                refine WO.nil ?_
                refine qs ?_
                refine W.ret ?_
                refine qbRet ?_
                refine qsRet ?_
                refine QF.ret0 trivial rfl ?_
                simp only [norm, oneA, nodeErr, kidsOf, zeroV] at *; grind
              · skip
                apply regionB; (case hb => rfl)
                · skip
                  refine pu (ev tab rfl) rfl ?_
                  first | refine pu (ev tab rfl) rfl ?_ | refine pu (loadRow tab rfl rfl rfl rfl) rfl ?_ | refine pu (loadBox tab rfl rfl rfl rfl rfl) rfl ?_
                  refine pu (build tab rfl rfl rfl rfl) rfl ?_
                  iterate 2 refine pu (ev tab rfl) rfl ?_
                  apply splitJ; (case hj => rfl); (case hl => rfl)
                  · skip
                    refine goG rfl rfl ?_
                    refine pu (ev tab rfl) rfl ?_
                    refine goG rfl rfl ?_
                    iterate 3 refine pu (ev tab rfl) rfl ?_
                    refine WO.nil ?_
                    refine qv1 rfl rfl rfl
                  · skip
                    refine skipT rfl rfl rfl rfl ?_
                    refine skipT rfl rfl rfl rfl ?_
                    iterate 2 refine pu (ev tab rfl) rfl ?_
                    refine WO.nil ?_
                    refine qv1 rfl rfl rfl
                refine qs ?_
                refine condK rfl (fun h39 => ?_) (fun h39 => ?_)
                · skip
                  refine W.seq ?_
                  refine W.region ?_
                  refine pu (ev tab rfl) rfl ?_
                  refine WO.nil ?_
                  refine qs ?_
                  refine W.ret ?_
                  refine qbRet ?_
                  refine qsRet ?_
                  refine QF.ret0 trivial rfl ?_
                  simp only [norm, oneA, nodeErr, kidsOf, zeroV] at *; grind
                · skip
                  refine W.seq ?_
                  refine W.region ?_
                  iterate 2 refine pu (ev tab rfl) rfl ?_
                  refine WO.nil ?_
                  refine qs ?_
                  refine W.condF rfl ?_
                  refine W.seq ?_
                  apply regionB; (case hb => rfl)
                  · skip
                    iterate 2 refine pu (ev tab rfl) rfl ?_
                    refine skipT rfl rfl rfl rfl ?_
                    refine skipT rfl rfl rfl rfl ?_
                    refine skipT rfl rfl rfl rfl ?_
                    refine skipT rfl rfl rfl rfl ?_
                    iterate 2 refine pu (ev tab rfl) rfl ?_
                    refine WO.nil ?_
                    refine qv1 rfl rfl rfl
                  refine qs ?_
                  refine condK rfl (fun h65 => ?_) (fun h65 => ?_)
                  · skip
                    refine W.seq ?_
                    refine W.region ?_
                    refine pu (ev tab rfl) rfl ?_
                    refine WO.nil ?_
                    refine qs ?_
                    refine W.ret ?_
                    refine qbRet ?_
                    refine qsRet ?_
                    refine QF.ret0 trivial rfl ?_
                    simp only [norm, oneA, nodeErr, kidsOf, zeroV] at *; grind
                  · skip
                    refine W.seq ?_
                    apply regionB; (case hb => rfl)
                    · skip
                      refine pu (ev tab rfl) rfl ?_
                      first | refine pu (ev tab rfl) rfl ?_ | refine pu (loadRow tab rfl rfl rfl rfl) rfl ?_ | refine pu (loadBox tab rfl rfl rfl rfl rfl) rfl ?_
                      iterate 2 refine pu (ev tab rfl) rfl ?_
                      apply splitJ; (case hj => rfl); (case hl => rfl)
                      · skip
                        refine goG rfl rfl ?_
                        refine pu (ev tab rfl) rfl ?_
                        refine goG rfl rfl ?_
                        first | refine pu (ev tab rfl) rfl ?_ | refine pu (loadRow tab rfl rfl rfl rfl) rfl ?_ | refine pu (loadBox tab rfl rfl rfl rfl rfl) rfl ?_
                        refine goG rfl rfl ?_
                        refine pu (puCall rfl rfl rfl (arity_fn ..) rfl) rfl ?_
                        refine goG rfl rfl ?_
                        iterate 3 refine pu (ev tab rfl) rfl ?_
                        refine WO.nil ?_
                        refine qv1 rfl rfl rfl
                      · skip
                        refine skipT rfl rfl rfl rfl ?_
                        refine skipT rfl rfl rfl rfl ?_
                        refine skipT rfl rfl rfl rfl ?_
                        refine skipT rfl rfl rfl rfl ?_
                        iterate 2 refine pu (ev tab rfl) rfl ?_
                        refine WO.nil ?_
                        refine qv1 rfl rfl rfl
                    refine qs ?_
                    refine condK rfl (fun h73 => ?_) (fun h73 => ?_)
                    · skip
                      refine W.seq ?_
                      refine W.region ?_
                      refine pu (ev tab rfl) rfl ?_
                      refine WO.nil ?_
                      refine qs ?_
                      refine W.ret ?_
                      refine qbRet ?_
                      refine qsRet ?_
                      refine QF.ret0 trivial rfl ?_
                      simp only [norm, oneA, nodeErr, kidsOf, zeroV] at *; grind
                    · skip
                      refine W.seq ?_
                      apply regionB; (case hb => rfl)
                      · skip
                        refine pu (ev tab rfl) rfl ?_
                        first | refine pu (ev tab rfl) rfl ?_ | refine pu (loadRow tab rfl rfl rfl rfl) rfl ?_ | refine pu (loadBox tab rfl rfl rfl rfl rfl) rfl ?_
                        iterate 2 refine pu (ev tab rfl) rfl ?_
                        apply splitJ; (case hj => rfl); (case hl => rfl)
                        · skip
                          refine goG rfl rfl ?_
                          refine pu (ev tab rfl) rfl ?_
                          refine goG rfl rfl ?_
                          first | refine pu (ev tab rfl) rfl ?_ | refine pu (loadRow tab rfl rfl rfl rfl) rfl ?_ | refine pu (loadBox tab rfl rfl rfl rfl rfl) rfl ?_
                          refine goG rfl rfl ?_
                          refine pu (puCall rfl rfl rfl (arity_fn ..) rfl) rfl ?_
                          refine goG rfl rfl ?_
                          refine pu (ev tab rfl) rfl ?_
                          refine goG rfl rfl ?_
                          iterate 3 refine pu (ev tab rfl) rfl ?_
                          refine WO.nil ?_
                          refine qv1 rfl rfl rfl
                        · skip
                          refine skipT rfl rfl rfl rfl ?_
                          refine skipT rfl rfl rfl rfl ?_
                          refine skipT rfl rfl rfl rfl ?_
                          refine skipT rfl rfl rfl rfl ?_
                          refine skipT rfl rfl rfl rfl ?_
                          iterate 2 refine pu (ev tab rfl) rfl ?_
                          refine WO.nil ?_
                          refine qv1 rfl rfl rfl
                      refine qs ?_
                      refine condK rfl (fun h83 => ?_) (fun h83 => ?_)
                      · skip
                        refine W.seq ?_
                        refine W.region ?_
                        refine pu (ev tab rfl) rfl ?_
                        refine WO.nil ?_
                        refine qs ?_
                        refine W.ret ?_
                        refine qbRet ?_
                        refine qsRet ?_
                        refine QF.ret0 trivial rfl ?_
                        simp only [norm, oneA, nodeErr, kidsOf, zeroV] at *; grind
                      · skip
                        refine W.skip ?_
                        refine qbN ?_
                        refine qs ?_
                        refine W.seq ?_
                        refine W.region ?_
                        refine pu (ev tab rfl) rfl ?_
                        refine WO.nil ?_
                        refine qs ?_
                        refine W.ret ?_
                        refine QF.ret0 trivial rfl ?_
                        simp only [norm, oneA, nodeErr, kidsOf, zeroV] at *; grind
theorem nodes_fn : ∀ (e : Ex), Does Try.prog 27 [.ag e.c] (.d (.v (.int .i64 (nodesErr e)))) 0 := by
  refine Ex.ind fun e ih => ?_
  have hq := nodesErr_eq e
  refine Does.of_W (n := 25) (ts := [2]) Try.func27 (by kernel_rfl) rfl Try.ntmps27 Try.results27 rfl rfl fun C hC hG => ?_
  refine W.seq ?_
  refine W.region ?_
  refine boxR rfl rfl rfl ?_
  refine pu (ev tab rfl) rfl ?_
  refine WO.nil ?_
  refine qs ?_
  refine W.seq ?_
  refine W.seq ?_
  refine W.region ?_
  first | refine pu (ev tab rfl) rfl ?_ | refine pu (loadRow tab rfl rfl rfl rfl) rfl ?_ | refine pu (loadBox tab rfl rfl rfl rfl rfl) rfl ?_
  refine pu (puCall rfl rfl rfl (node_fn ..) rfl) rfl ?_
  refine pu (ev tab rfl) rfl ?_
  refine WO.nil ?_
  refine qs ?_
  refine W.seq ?_
  refine W.region ?_
  iterate 2 refine pu (ev tab rfl) rfl ?_
  refine WO.nil ?_
  refine qs ?_
  refine condK rfl (fun h10 => ?_) (fun h10 => ?_)
  · skip
    rw [if_pos (by simpa using h10)] at hq
    refine W.seq ?_
    refine W.region ?_
    iterate 2 refine pu (ev tab rfl) rfl ?_
    refine WO.nil ?_
    refine qs ?_
    refine W.ret ?_
    refine qsRet ?_
    refine QF.ret0 trivial rfl ?_
    rw [hq]; rfl
  · skip
    rw [if_neg (by simpa using h10)] at hq
    refine W.skip ?_
    refine qs ?_
    refine W.seq ?_
    refine W.seq ?_
    refine W.region ?_
    refine pu (ev tab rfl) rfl ?_
    first | refine pu (ev tab rfl) rfl ?_ | refine pu (loadRow tab rfl rfl rfl rfl) rfl ?_ | refine pu (loadBox tab rfl rfl rfl rfl rfl) rfl ?_
    iterate 2 refine pu (ev tab rfl) rfl ?_
    refine WO.nil ?_
    refine qs ?_
    refine W.block ?_
    refine W.len (t := 13) rfl rfl (fun hlen => ?_)
    try simp only [List.length_map, Ex.kc_len] at hlen
    refine W.loopR (ι := {x : Nat // match x with | k => k ≤ e.kids.length ∧ nodesErrL (e.kids.drop k) = nodesErrL e.kids})
      (fun x => match x.1 with | k => [(15, .d (.v (.int .i64 ((k : Nat) : Int))))]) [(13, _), (14, _)]
      (fun x => match x.1 with | k => []) [] [] 0 (fun x => match x.1 with | k => e.kids.length - k)
      [] ⟨0, ?_⟩ rfl ?_ ⟨rfl, rfl, rfl, rfl, trivial⟩ ?_ trivial rfl ?_
    · first | exact ⟨Nat.zero_le _, rfl⟩ | exact trivial | simp
    · repeat' first | exact trivial | refine ⟨rfl, ?_⟩ | refine ⟨step_nat (by assumption) (by assumption), ?_⟩
    · repeat' first | exact trivial | refine ⟨rfl, ?_⟩ | refine ⟨step_nat (by assumption) (by assumption), ?_⟩
    rintro ⟨k, hk, hI⟩
    show W _ _ _ _ _ ⟨[(15, .d (.v (.int .i64 ((k : Nat) : Int)))), (13, _), (14, _)], [], [], 0⟩
    refine W.seq ?_
    refine W.region ?_
    refine pu (ev tab rfl) rfl ?_
    refine WO.nil ?_
    refine qs ?_
    refine W.seq ?_
    refine eachR (l := e.kids) (k := k) rfl (by simp [Ex.kc_len, bytes_len]) hk (fun x hx hd hlt => ?_) (fun he hd => ?_)
    · skip
      rw [hd] at hI
      simp only [nodesErrL] at hI
      refine W.skip ?_
      refine qs ?_
      refine W.seq ?_
      refine W.block ?_
      refine W.seq ?_
      refine W.region ?_
      refine pu (indexAddr tab rfl rfl rfl rfl rfl rfl (Int.natCast_nonneg _) (Ex.kc_idx hx) rfl) rfl ?_
      first | refine pu (ev tab rfl) rfl ?_ | refine pu (loadRow tab rfl rfl rfl rfl) rfl ?_ | refine pu (loadBox tab rfl rfl rfl rfl rfl) rfl ?_
      refine allocR tab rfl rfl rfl ?_
      refine storeR tab rfl rfl rfl rfl rfl rfl rfl rfl ?_
      refine WO.nil ?_
      refine qs ?_
      refine W.seq ?_
      refine W.region ?_
      first | refine pu (ev tab rfl) rfl ?_ | refine pu (loadRow tab rfl rfl rfl rfl) rfl ?_ | refine pu (loadBox tab rfl rfl rfl rfl rfl) rfl ?_
      refine pu (puCall rfl rfl rfl (ih x (List.mem_of_getElem? hx)) rfl) rfl ?_
      refine pu (ev tab rfl) rfl ?_
      refine WO.nil ?_
      refine qs ?_
      refine W.seq ?_
      refine W.region ?_
      iterate 2 refine pu (ev tab rfl) rfl ?_
      refine WO.nil ?_
      refine qs ?_
      refine condK rfl (fun h22 => ?_) (fun h22 => ?_)
      · skip
        rw [if_pos (by simpa using h22)] at hI
        refine W.seq ?_
        refine W.region ?_
        iterate 2 refine pu (ev tab rfl) rfl ?_
        refine WO.nil ?_
        refine qs ?_
        refine W.ret ?_
        refine qbRet ?_
        refine qsRet ?_
        refine qlRet ?_
        refine qbRet ?_
        refine qsRet ?_
        refine QF.ret0 trivial rfl ?_
        rw [hq, ← hI]; rfl
      · skip
        rw [if_neg (by simpa using h22)] at hI
        refine W.skip ?_
        refine qbN ?_
        refine qs ?_
        refine W.region ?_
        iterate 2 refine pu (ev tab rfl) rfl ?_
        refine WO.nil ?_
        refine W.endR [] ⟨k + 1, ?_⟩ ?_ rfl ?_ ⟨rfl, rfl, rfl, rfl, trivial⟩ ?_ trivial rfl
        · exact ⟨hlt, hI⟩
        · dsimp only; omega
        · repeat' first | exact trivial | refine ⟨rfl, ?_⟩ | refine ⟨step_nat (by assumption) (by assumption), ?_⟩
        · repeat' first | exact trivial | refine ⟨rfl, ?_⟩ | refine ⟨step_nat (by assumption) (by assumption), ?_⟩
    · skip
      rw [hd] at hI
      simp only [nodesErrL] at hI
      refine W.exit ?_
      refine qsExit ?_
      refine qlExit ?_
      refine qbExit ?_
      refine qs ?_
      refine W.seq ?_
      refine W.region ?_
      refine pu (ev tab rfl) rfl ?_
      refine WO.nil ?_
      refine qs ?_
      refine W.ret ?_
      refine QF.ret0 trivial rfl ?_
      rw [hq, ← hI]; rfl
theorem expr_fn (e : Ex) : Does Try.prog 13 [.ag e.c] (.d (.v (.int .i64 (exprErr e)))) 0 := by
  have hm := msr_spec e 0 (by omega) (by omega)
  refine Does.of_W (n := 18) (ts := [2]) Try.func13 (by kernel_rfl) rfl Try.ntmps13 Try.results13 rfl rfl fun C hC hG => ?_
  refine W.seq ?_
  refine W.region ?_
  refine boxR rfl rfl rfl ?_
  refine pu (ev tab rfl) rfl ?_
  refine WO.nil ?_
  refine qs ?_
  refine W.seq ?_
  refine W.region ?_
  first | refine pu (ev tab rfl) rfl ?_ | refine pu (loadRow tab rfl rfl rfl rfl) rfl ?_ | refine pu (loadBox tab rfl rfl rfl rfl rfl) rfl ?_
  refine pu (puCall rfl rfl rfl (measure_fn e 0 (by omega) (by omega)) rfl) rfl ?_
  iterate 5 refine pu (ev tab rfl) rfl ?_
  refine WO.nil ?_
  refine qs ?_
  refine W.seq ?_
  refine W.block ?_
  refine W.seq ?_
  refine W.region ?_
  iterate 3 refine pu (ev tab rfl) rfl ?_
  refine WO.nil ?_
  refine qs ?_
  refine condK rfl (fun h10 => ?_) (fun h10 => ?_)
  · skip
    refine W.seq ?_
    refine W.region ?_
    refine pu (ev tab rfl) rfl ?_
    refine WO.nil ?_
    refine qs ?_
    refine W.ret ?_
    refine qbRet ?_
    refine qsRet ?_
    refine QF.ret0 trivial rfl ?_
    simp only [norm, oneA, exprErr] at *; grind
  · skip
    refine W.seq ?_
    refine W.region ?_
    iterate 3 refine pu (ev tab rfl) rfl ?_
    refine WO.nil ?_
    refine qs ?_
    refine condK rfl (fun h13 => ?_) (fun h13 => ?_)
    · skip
      refine W.seq ?_
      refine W.region ?_
      refine pu (ev tab rfl) rfl ?_
      refine WO.nil ?_
      refine qs ?_
      refine W.ret ?_
      refine qbRet ?_
      refine qsRet ?_
      refine QF.ret0 trivial rfl ?_
      simp only [norm, oneA, exprErr] at *; grind
    · skip
      refine W.skip ?_
      refine qbN ?_
      refine qs ?_
      refine W.seq ?_
      refine W.region ?_
      first | refine pu (ev tab rfl) rfl ?_ | refine pu (loadRow tab rfl rfl rfl rfl) rfl ?_ | refine pu (loadBox tab rfl rfl rfl rfl rfl) rfl ?_
      refine pu (puCall rfl rfl rfl (nodes_fn ..) rfl) rfl ?_
      refine pu (ev tab rfl) rfl ?_
      refine WO.nil ?_
      refine qs ?_
      refine W.ret ?_
      refine QF.ret0 trivial rfl ?_
      simp only [norm, oneA, exprErr] at *; grind
end Go.Proofs.Ytlmgnlhagpoggaa
namespace Go.Proofs.Ytlmgnlhagpoggaa
open Go.Ab Go.Tb
set_option maxRecDepth 10000
attribute [local irreducible] W WO Pu QS QB QL QF QV QV1 CH QE
theorem call_fn (s : ByteArray) (ks : List Int) (h : (ks.length : Int) = arity s) (h0 : arity s ≠ 0) : Does Try.prog 30 [.d (.v (.string s)), .d (.sl (ks.map ic))]
    (.tup [.d (.v (.int .i64 (whenT (callT s (ks.getD 0 0) (ks.getD 1 0)).2 (callT s (ks.getD 0 0) (ks.getD 1 0)).1).1)), .d (.v (.int .i64 (whenT (callT s (ks.getD 0 0) (ks.getD 1 0)).2 (callT s (ks.getD 0 0) (ks.getD 1 0)).1).2))]) 0 := by
  refine Does.of_W (n := 45) (ts := [4, 5]) Try.func30 (by kernel_rfl) rfl Try.ntmps30 Try.results30 rfl rfl fun C hC hG => ?_
  refine W.seq ?_
  refine W.region ?_
  iterate 2 refine pu (ev tab rfl) rfl ?_
  refine WO.nil ?_
  refine qs ?_
  refine W.seq ?_
  refine W.seq ?_
  refine W.region ?_
  refine pu (ev tab rfl) rfl ?_
  refine WO.nil ?_
  refine qs ?_
  refine W.block ?_
  refine W.seq ?_
  refine W.seq ?_
  refine W.region ?_
  iterate 2 refine pu (ev tab rfl) rfl ?_
  refine WO.nil ?_
  refine qs ?_
  refine condK rfl (fun h7 => ?_) (fun h7 => ?_)
  · skip
    have hs : s = wMin ∨ s = wMax := by first | exact .inl (of_decide_eq_true h7) | exact .inr (of_decide_eq_true h7)
    have hc := callT_min hs
    have ha : arity s = 2 := by rcases hs with rfl | rfl <;> decide
    obtain ⟨a, b, rfl⟩ := len2 (l := ks) (by omega)
    refine W.skip ?_
    refine qs ?_
    refine W.condT rfl ?_
    refine W.seq ?_
    refine W.regionD tab (by kernel_rfl) ?_
    refine chPu (ev tab rfl) rfl ?_
    refine chPu (puCall rfl rfl rfl (all_fn ..) rfl) rfl ?_
    refine chPu (ev tab rfl) rfl ?_
    refine chSplitG rfl rfl (fun _ => ?_) (fun _ => ?_)
    · skip
      refine chSkip rfl rfl rfl rfl ?_
      refine chSkip rfl rfl rfl rfl ?_
      refine chPu (ev tab rfl) rfl ?_
      refine chPu (ev tab rfl) rfl ?_
      refine chPu (indexAddr tab rfl rfl rfl rfl rfl rfl (Int.le_refl _) rfl rfl) rfl ?_
      first | refine chPu (ev tab rfl) rfl ?_ | refine chPu (loadRow tab rfl rfl rfl rfl) rfl ?_ | refine chPu (loadBox tab rfl rfl rfl rfl rfl) rfl ?_
      refine chPu (ev tab rfl) rfl ?_
      refine chPu (indexAddr tab rfl rfl rfl rfl rfl rfl (by decide) rfl rfl) rfl ?_
      first | refine chPu (ev tab rfl) rfl ?_ | refine chPu (loadRow tab rfl rfl rfl rfl) rfl ?_ | refine chPu (loadBox tab rfl rfl rfl rfl rfl) rfl ?_
      refine chPu (ev tab rfl) rfl ?_
      refine chPu (puCall rfl rfl rfl (when_fn ..) rfl) rfl ?_
      refine chPu (ev tab rfl) rfl ?_
      refine chPu (ev tab rfl) rfl ?_
      refine chPu (ev tab rfl) rfl ?_
      refine chPu (ev tab rfl) rfl ?_
      refine CH.nil ?_
      refine qs ?_
      refine W.ret ?_
      refine qbRet ?_
      refine qsRet ?_
      refine QF.ret0 trivial rfl ?_
      simp only [norm, normL, oneA, hc, whenT, both] at *; simp_all <;> grind
    · skip
      refine chGo rfl rfl (ev tab rfl) rfl ?_
      refine chGo rfl rfl (puCall rfl rfl rfl (all_fn ..) rfl) rfl ?_
      refine chPu (ev tab rfl) rfl ?_
      refine chPu (ev tab rfl) rfl ?_
      refine chPu (indexAddr tab rfl rfl rfl rfl rfl rfl (Int.le_refl _) rfl rfl) rfl ?_
      first | refine chPu (ev tab rfl) rfl ?_ | refine chPu (loadRow tab rfl rfl rfl rfl) rfl ?_ | refine chPu (loadBox tab rfl rfl rfl rfl rfl) rfl ?_
      refine chPu (ev tab rfl) rfl ?_
      refine chPu (indexAddr tab rfl rfl rfl rfl rfl rfl (by decide) rfl rfl) rfl ?_
      first | refine chPu (ev tab rfl) rfl ?_ | refine chPu (loadRow tab rfl rfl rfl rfl) rfl ?_ | refine chPu (loadBox tab rfl rfl rfl rfl rfl) rfl ?_
      refine chPu (ev tab rfl) rfl ?_
      refine chPu (puCall rfl rfl rfl (when_fn ..) rfl) rfl ?_
      refine chPu (ev tab rfl) rfl ?_
      refine chPu (ev tab rfl) rfl ?_
      refine chPu (ev tab rfl) rfl ?_
      refine chPu (ev tab rfl) rfl ?_
      refine CH.nil ?_
      refine qs ?_
      refine W.ret ?_
      refine qbRet ?_
      refine qsRet ?_
      refine QF.ret0 trivial rfl ?_
      simp only [norm, normL, oneA, hc, whenT, both] at *; simp_all <;> grind
  · skip
    first | (have h7b := h7a; skip) | have h7a := h7
    refine W.region ?_
    iterate 2 refine pu (ev tab rfl) rfl ?_
    refine WO.nil ?_
    refine qs ?_
    refine condK rfl (fun h7 => ?_) (fun h7 => ?_)
    · skip
      have hs : s = wMin ∨ s = wMax := by first | exact .inl (of_decide_eq_true h7) | exact .inr (of_decide_eq_true h7)
      have hc := callT_min hs
      have ha : arity s = 2 := by rcases hs with rfl | rfl <;> decide
      obtain ⟨a, b, rfl⟩ := len2 (l := ks) (by omega)
      refine W.seq ?_
      refine W.regionD tab (by kernel_rfl) ?_
      refine chPu (ev tab rfl) rfl ?_
      refine chPu (puCall rfl rfl rfl (all_fn ..) rfl) rfl ?_
      refine chPu (ev tab rfl) rfl ?_
      refine chSplitG rfl rfl (fun _ => ?_) (fun _ => ?_)
      · skip
        refine chSkip rfl rfl rfl rfl ?_
        refine chSkip rfl rfl rfl rfl ?_
        refine chPu (ev tab rfl) rfl ?_
        refine chPu (ev tab rfl) rfl ?_
        refine chPu (indexAddr tab rfl rfl rfl rfl rfl rfl (Int.le_refl _) rfl rfl) rfl ?_
        first | refine chPu (ev tab rfl) rfl ?_ | refine chPu (loadRow tab rfl rfl rfl rfl) rfl ?_ | refine chPu (loadBox tab rfl rfl rfl rfl rfl) rfl ?_
        refine chPu (ev tab rfl) rfl ?_
        refine chPu (indexAddr tab rfl rfl rfl rfl rfl rfl (by decide) rfl rfl) rfl ?_
        first | refine chPu (ev tab rfl) rfl ?_ | refine chPu (loadRow tab rfl rfl rfl rfl) rfl ?_ | refine chPu (loadBox tab rfl rfl rfl rfl rfl) rfl ?_
        refine chPu (ev tab rfl) rfl ?_
        refine chPu (puCall rfl rfl rfl (when_fn ..) rfl) rfl ?_
        refine chPu (ev tab rfl) rfl ?_
        refine chPu (ev tab rfl) rfl ?_
        refine chPu (ev tab rfl) rfl ?_
        refine chPu (ev tab rfl) rfl ?_
        refine CH.nil ?_
        refine qs ?_
        refine W.ret ?_
        refine qbRet ?_
        refine qsRet ?_
        refine QF.ret0 trivial rfl ?_
        simp only [norm, normL, oneA, hc, whenT, both] at *; simp_all <;> grind
      · skip
        refine chGo rfl rfl (ev tab rfl) rfl ?_
        refine chGo rfl rfl (puCall rfl rfl rfl (all_fn ..) rfl) rfl ?_
        refine chPu (ev tab rfl) rfl ?_
        refine chPu (ev tab rfl) rfl ?_
        refine chPu (indexAddr tab rfl rfl rfl rfl rfl rfl (Int.le_refl _) rfl rfl) rfl ?_
        first | refine chPu (ev tab rfl) rfl ?_ | refine chPu (loadRow tab rfl rfl rfl rfl) rfl ?_ | refine chPu (loadBox tab rfl rfl rfl rfl rfl) rfl ?_
        refine chPu (ev tab rfl) rfl ?_
        refine chPu (indexAddr tab rfl rfl rfl rfl rfl rfl (by decide) rfl rfl) rfl ?_
        first | refine chPu (ev tab rfl) rfl ?_ | refine chPu (loadRow tab rfl rfl rfl rfl) rfl ?_ | refine chPu (loadBox tab rfl rfl rfl rfl rfl) rfl ?_
        refine chPu (ev tab rfl) rfl ?_
        refine chPu (puCall rfl rfl rfl (when_fn ..) rfl) rfl ?_
        refine chPu (ev tab rfl) rfl ?_
        refine chPu (ev tab rfl) rfl ?_
        refine chPu (ev tab rfl) rfl ?_
        refine chPu (ev tab rfl) rfl ?_
        refine CH.nil ?_
        refine qs ?_
        refine W.ret ?_
        refine qbRet ?_
        refine qsRet ?_
        refine QF.ret0 trivial rfl ?_
        simp only [norm, normL, oneA, hc, whenT, both] at *; simp_all <;> grind
    · skip
      first | (have h7b := h7a; skip) | have h7a := h7
      refine W.seq ?_
      refine W.region ?_
      iterate 2 refine pu (ev tab rfl) rfl ?_
      refine WO.nil ?_
      refine qs ?_
      refine condK rfl (fun h26 => ?_) (fun h26 => ?_)
      · skip
        have hs : s = wAbs := of_decide_eq_true h26
        have hc : ∀ a b, callT s a b = (2, fits a 2) := fun a b => by simp [callT, hs]
        have ha := arity1 (.inl hs)
        obtain ⟨a, rfl⟩ := len1 (l := ks) (by omega)
        refine W.seq ?_
        refine W.region ?_
        refine pu (ev tab rfl) rfl ?_
        refine pu (puCall rfl rfl rfl (all_fn ..) rfl) rfl ?_
        refine pu (puCall rfl rfl rfl (when_fn ..) rfl) rfl ?_
        iterate 4 refine pu (ev tab rfl) rfl ?_
        refine WO.nil ?_
        refine qs ?_
        refine W.ret ?_
        refine qbRet ?_
        refine qsRet ?_
        refine QF.ret0 trivial rfl ?_
        simp only [norm, normL, oneA, hc, whenT, both] at *; simp_all <;> grind
      · skip
        refine W.seq ?_
        refine W.region ?_
        iterate 2 refine pu (ev tab rfl) rfl ?_
        refine WO.nil ?_
        refine qs ?_
        refine condK rfl (fun h33 => ?_) (fun h33 => ?_)
        · skip
          have hs : s = wLen := of_decide_eq_true h33
          have hc : ∀ a b, callT s a b = (2, fits a 3) := fun a b => by simp [callT, hs, wLen, wAbs]
          have ha := arity1 (.inr hs)
          obtain ⟨a, rfl⟩ := len1 (l := ks) (by omega)
          refine W.seq ?_
          refine W.region ?_
          refine pu (ev tab rfl) rfl ?_
          refine pu (puCall rfl rfl rfl (all_fn ..) rfl) rfl ?_
          refine pu (puCall rfl rfl rfl (when_fn ..) rfl) rfl ?_
          iterate 4 refine pu (ev tab rfl) rfl ?_
          refine WO.nil ?_
          refine qs ?_
          refine W.ret ?_
          refine qbRet ?_
          refine qsRet ?_
          refine QF.ret0 trivial rfl ?_
          simp only [norm, normL, oneA, hc, whenT, both] at *; simp_all <;> grind
        · skip
          have hs1 : s ≠ wAbs := of_decide_eq_false h26
          have hs2 : s ≠ wLen := of_decide_eq_false h33
          have hc := callT_two h0 (of_decide_eq_false h7a) (of_decide_eq_false h7) hs1 hs2
          have ha := arity2 h0 hs1 hs2
          obtain ⟨a, b, rfl⟩ := len2 (l := ks) (by omega)
          refine W.skip ?_
          refine qbN ?_
          refine qs ?_
          refine W.seq ?_
          refine W.region ?_
          refine pu (ev tab rfl) rfl ?_
          refine pu (puCall rfl rfl rfl (all_fn ..) rfl) rfl ?_
          refine pu (puCall rfl rfl rfl (when_fn ..) rfl) rfl ?_
          iterate 4 refine pu (ev tab rfl) rfl ?_
          refine WO.nil ?_
          refine qs ?_
          refine W.ret ?_
          refine QF.ret0 trivial rfl ?_
          simp only [norm, normL, oneA, hc, whenT, both] at *; simp_all <;> grind
end Go.Proofs.Ytlmgnlhagpoggaa
namespace Go.Proofs.Ytlmgnlhagpoggaa
open Go.Ab Go.Tb
set_option maxRecDepth 10000
attribute [local irreducible] W WO Pu QS QB QL QF QV QV1 CH QE
theorem tnode_fn (cols : List Col) : ∀ (e : Ex), nodesErr e = 0 → Does Try.prog 14 [.d (.sl (cols.map Col.c)), .ag e.c] (.tup [.d (.v (.int .i64 (typ cols e).1)), .d (.v (.int .i64 (typ cols e).2))]) 0 := by
  refine Ex.ind fun e ih => ?_
  intro hv
  have hkv := valid_kids (valid_node hv)
  have hq := typ_eq cols e
  refine Does.of_W (n := 109) (ts := [4, 5]) Try.func14 (by kernel_rfl) rfl Try.ntmps14 Try.results14 rfl rfl fun C hC hG => ?_
  refine W.seq ?_
  refine W.region ?_
  refine boxR rfl rfl rfl ?_
  iterate 2 refine pu (ev tab rfl) rfl ?_
  refine WO.nil ?_
  refine qs ?_
  refine W.seq ?_
  refine W.region ?_
  refine pu (ev tab rfl) rfl ?_
  refine WO.nil ?_
  refine qs ?_
  refine W.seq ?_
  refine W.seq ?_
  refine W.region ?_
  refine pu (ev tab rfl) rfl ?_
  first | refine pu (ev tab rfl) rfl ?_ | refine pu (loadRow tab rfl rfl rfl rfl) rfl ?_ | refine pu (loadBox tab rfl rfl rfl rfl rfl) rfl ?_
  iterate 2 refine pu (ev tab rfl) rfl ?_
  refine WO.nil ?_
  refine qs ?_
  refine W.block ?_
  refine ownNilR (d := 6) rfl rfl ?_
  refine W.len (t := 13) rfl rfl (fun hlen => ?_)
  try simp only [List.length_map, Ex.kc_len] at hlen
  refine W.loopR (ι := {x : Nat × List Int // match x with | (k, ks) => k ≤ e.kids.length ∧ typL cols (e.kids.drop k) ks = typL cols e.kids [] ∧ ks.length = k})
    (fun x => match x.1 with | (k, ks) => [(3, .ptr 0 0), (6, .own 1 (ks.map ic)), (15, .d (.v (.int .i64 ((k : Nat) : Int))))]) [(0, _), (13, _), (14, _)]
    (fun x => match x.1 with | (k, ks) => []) [(0, _)] [1] 2 (fun x => match x.1 with | (k, ks) => e.kids.length - k)
    [0, 1] ⟨(0, []), ?_⟩ rfl ?_ ⟨rfl, rfl, rfl, rfl, rfl, rfl, trivial⟩ ?_ ⟨rfl, rfl, trivial⟩ rfl ?_
  · exact ⟨Nat.zero_le _, rfl, rfl⟩
  · repeat' first | exact trivial | refine ⟨rfl, ?_⟩ | refine ⟨step_nat (by assumption) (by assumption), ?_⟩
  · repeat' first | exact trivial | refine ⟨rfl, ?_⟩ | refine ⟨step_nat (by assumption) (by assumption), ?_⟩
  rintro ⟨⟨k, ks⟩, hk, hI, h2⟩
  show W _ _ _ _ _ ⟨[(3, .ptr 0 0), (6, .own 1 (ks.map ic)), (15, .d (.v (.int .i64 ((k : Nat) : Int)))), (0, _), (13, _), (14, _)], [(0, _)], [1], 2⟩
  refine W.seq ?_
  refine W.region ?_
  refine pu (ev tab rfl) rfl ?_
  refine WO.nil ?_
  refine qs ?_
  refine W.seq ?_
  refine eachR (l := e.kids) (k := k) rfl (by simp [Ex.kc_len, bytes_len]) hk (fun x hx hd hlt => ?_) (fun he hd => ?_)
  · skip
    rw [hd] at hI
    simp only [typL] at hI
    have hmem := List.mem_of_getElem? hx
    have hne : e.kids ≠ [] := by rintro h; rw [h] at hmem; simp at hmem
    refine W.skip ?_
    refine qs ?_
    refine W.seq ?_
    refine W.block ?_
    refine W.seq ?_
    refine W.region ?_
    refine pu (indexAddr tab rfl rfl rfl rfl rfl rfl (Int.natCast_nonneg _) (Ex.kc_idx hx) rfl) rfl ?_
    first | refine pu (ev tab rfl) rfl ?_ | refine pu (loadRow tab rfl rfl rfl rfl) rfl ?_ | refine pu (loadBox tab rfl rfl rfl rfl rfl) rfl ?_
    refine allocR tab rfl rfl rfl ?_
    refine storeR tab rfl rfl rfl rfl rfl rfl rfl rfl ?_
    refine WO.nil ?_
    refine qs ?_
    refine W.seq ?_
    refine W.region ?_
    refine pu (ev tab rfl) rfl ?_
    first | refine pu (ev tab rfl) rfl ?_ | refine pu (loadRow tab rfl rfl rfl rfl) rfl ?_ | refine pu (loadBox tab rfl rfl rfl rfl rfl) rfl ?_
    refine pu (puCall rfl rfl rfl (ih x hmem (valid_kid hv hmem)) rfl) rfl ?_
    iterate 5 refine pu (ev tab rfl) rfl ?_
    refine WO.nil ?_
    refine qs ?_
    refine W.seq ?_
    refine W.seq ?_
    refine W.region ?_
    iterate 2 refine pu (ev tab rfl) rfl ?_
    refine WO.nil ?_
    refine qs ?_
    refine condK rfl (fun h26 => ?_) (fun h26 => ?_)
    · skip
      rw [if_pos (by simpa using h26)] at hI
      refine W.seq ?_
      refine W.region ?_
      iterate 3 refine pu (ev tab rfl) rfl ?_
      refine WO.nil ?_
      refine qs ?_
      refine W.ret ?_
      refine qsRet ?_
      refine qbRet ?_
      refine qsRet ?_
      refine qlRet ?_
      refine qbRet ?_
      refine qsRet ?_
      refine QF.ret0 trivial rfl ?_
      rw [hq, ← hI]
      simp only [norm, normL, oneA]
      grind
    · skip
      rw [if_neg (by simpa using h26)] at hI
      refine W.skip ?_
      refine qs ?_
      refine W.region ?_
      iterate 2 refine pu (ev tab rfl) rfl ?_
      refine pu (buildV tab rfl rfl rfl rfl rfl rfl rfl rfl rfl) rfl ?_
      refine appendM tab rfl rfl rfl rfl rfl rfl rfl rfl rfl rfl (fun _ => rfl) (by show (ks.length + 1) * 8 ≤ _; omega) ?_
      refine pu (ev tab rfl) rfl ?_
      refine WO.nil ?_
      refine qbN ?_
      refine qs ?_
      refine W.region ?_
      iterate 2 refine pu (ev tab rfl) rfl ?_
      refine WO.nil ?_
      refine W.endR [0, 3] ⟨(k + 1, ks ++ [(typ cols x).1]), ?_⟩ ?_ rfl ?_ ⟨rfl, rfl, rfl, rfl, rfl, rfl, trivial⟩ ?_ ⟨rfl, rfl, trivial⟩ rfl
      · exact ⟨hlt, hI, by simp [h2]⟩
      · dsimp only; omega
      · repeat' first | exact trivial | refine ⟨rfl, ?_⟩ | refine ⟨step_nat (by assumption) (by assumption), ?_⟩
      · repeat' first | exact trivial | refine ⟨rfl, ?_⟩ | refine ⟨step_nat (by assumption) (by assumption), ?_⟩
  · skip
    rw [hd] at hI
    simp only [typL] at hI
    have hkl : ks.length = e.kids.length := by omega
    refine W.exit ?_
    refine qsExit ?_
    refine qlExit ?_
    refine qbExit ?_
    refine qs ?_
    refine W.seq ?_
    refine W.seq ?_
    refine W.region ?_
    refine pu (ev tab rfl) rfl ?_
    first | refine pu (ev tab rfl) rfl ?_ | refine pu (loadRow tab rfl rfl rfl rfl) rfl ?_ | refine pu (loadBox tab rfl rfl rfl rfl rfl) rfl ?_
    refine WO.nil ?_
    refine qs ?_
    refine W.block ?_
    refine W.seq ?_
    refine W.region ?_
    iterate 2 refine pu (ev tab rfl) rfl ?_
    refine WO.nil ?_
    refine qs ?_
    refine condK rfl (fun h35 => ?_) (fun h35 => ?_)
    · skip
      refine W.seq ?_
      refine W.region ?_
      iterate 2 refine pu (ev tab rfl) rfl ?_
      first | refine pu (ev tab rfl) rfl ?_ | refine pu (loadRow tab rfl rfl rfl rfl) rfl ?_ | refine pu (loadBox tab rfl rfl rfl rfl rfl) rfl ?_
      iterate 2 refine pu (ev tab rfl) rfl ?_
      refine WO.nil ?_
      refine qs ?_
      refine W.ret ?_
      refine qbRet ?_
      refine qsRet ?_
      refine QF.ret0 trivial rfl ?_
      rw [hq, ← hI]
      clear hq hI ih
      simp only [norm, normL, oneA, findCol] at *
      rcases lenCases (ks := ks) (by omega) with rfl | ⟨a, rfl⟩ | ⟨a, b, rfl⟩ <;> simp_all [opT, whenT, both] <;> grind
    · skip
      refine W.seq ?_
      refine W.region ?_
      iterate 2 refine pu (ev tab rfl) rfl ?_
      refine WO.nil ?_
      refine qs ?_
      refine condK rfl (fun h40 => ?_) (fun h40 => ?_)
      · skip
        refine W.seq ?_
        refine W.region ?_
        iterate 2 refine pu (ev tab rfl) rfl ?_
        first | refine pu (ev tab rfl) rfl ?_ | refine pu (loadRow tab rfl rfl rfl rfl) rfl ?_ | refine pu (loadBox tab rfl rfl rfl rfl rfl) rfl ?_
        refine pu (puCall rfl rfl rfl (column_fn ..) rfl) rfl ?_
        refine pu (ev tab rfl) rfl ?_
        refine WO.nil ?_
        refine qs ?_
        refine W.seq ?_
        refine W.seq ?_
        refine W.region ?_
        iterate 2 refine pu (ev tab rfl) rfl ?_
        refine WO.nil ?_
        refine qs ?_
        refine condK rfl (fun h47 => ?_) (fun h47 => ?_)
        · skip
          have h5 := find_none (of_decide_eq_true h47)
          refine W.seq ?_
          refine W.region ?_
          iterate 2 refine pu (ev tab rfl) rfl ?_
          refine WO.nil ?_
          refine qs ?_
          refine W.ret ?_
          refine qsRet ?_
          refine qbRet ?_
          refine qsRet ?_
          refine QF.ret0 trivial rfl ?_
          rw [hq, ← hI]
          clear hq hI ih
          simp only [norm, normL, oneA, findCol] at *
          rcases lenCases (ks := ks) (by omega) with rfl | ⟨a, rfl⟩ | ⟨a, b, rfl⟩ <;> simp_all [opT, whenT, both] <;> grind
        · skip
          obtain ⟨i, c, h3, h4, h5, h6⟩ := find_some (of_decide_eq_false h47)
          refine W.skip ?_
          refine qs ?_
          refine W.seq ?_
          refine W.region ?_
          iterate 2 refine pu (ev tab rfl) rfl ?_
          refine pu (indexAddr tab rfl rfl rfl rfl rfl rfl (i := idx _) (by rw [h3]; exact Int.natCast_nonneg _) (by rw [h3]; exact idx_map h4) rfl) rfl ?_
          refine pu (ev tab rfl) rfl ?_
          first | refine pu (ev tab rfl) rfl ?_ | refine pu (loadRow tab rfl rfl rfl rfl) rfl ?_ | refine pu (loadBox tab rfl rfl rfl rfl rfl) rfl ?_
          iterate 2 refine pu (ev tab rfl) rfl ?_
          refine WO.nil ?_
          refine qs ?_
          refine W.ret ?_
          refine qbRet ?_
          refine qsRet ?_
          refine QF.ret0 trivial rfl ?_
          rw [hq, ← hI]
          clear hq hI ih
          simp only [norm, normL, oneA, findCol] at *
          rcases lenCases (ks := ks) (by omega) with rfl | ⟨a, rfl⟩ | ⟨a, b, rfl⟩ <;> simp_all [opT, whenT, both] <;> grind
      · skip
        refine W.seq ?_
        refine W.seq ?_
        refine W.region ?_
        iterate 2 refine pu (ev tab rfl) rfl ?_
        refine WO.nil ?_
        refine qs ?_
        refine condK rfl (fun h53 => ?_) (fun h53 => ?_)
        · skip
          refine W.skip ?_
          refine qs ?_
          refine W.condT rfl ?_
          refine W.seq ?_
          refine W.region ?_
          refine pu (ev tab rfl) rfl ?_
          refine pu (puCall rfl rfl rfl (all_fn ..) rfl) rfl ?_
          refine pu (puCall rfl rfl rfl (when_fn ..) rfl) rfl ?_
          iterate 4 refine pu (ev tab rfl) rfl ?_
          refine WO.nil ?_
          refine qs ?_
          refine W.ret ?_
          refine qbRet ?_
          refine qsRet ?_
          refine QF.ret0 trivial rfl ?_
          rw [hq, ← hI]
          clear hq hI ih
          simp only [norm, normL, oneA, findCol] at *
          rcases lenCases (ks := ks) (by omega) with rfl | ⟨a, rfl⟩ | ⟨a, b, rfl⟩ <;> simp_all [opT, whenT, both] <;> grind
        · skip
          refine W.seq ?_
          refine W.region ?_
          iterate 2 refine pu (ev tab rfl) rfl ?_
          refine WO.nil ?_
          refine qs ?_
          refine condK rfl (fun h53 => ?_) (fun h53 => ?_)
          · skip
            refine W.skip ?_
            refine qs ?_
            refine W.condT rfl ?_
            refine W.seq ?_
            refine W.region ?_
            refine pu (ev tab rfl) rfl ?_
            refine pu (puCall rfl rfl rfl (all_fn ..) rfl) rfl ?_
            refine pu (puCall rfl rfl rfl (when_fn ..) rfl) rfl ?_
            iterate 4 refine pu (ev tab rfl) rfl ?_
            refine WO.nil ?_
            refine qs ?_
            refine W.ret ?_
            refine qbRet ?_
            refine qsRet ?_
            refine QF.ret0 trivial rfl ?_
            rw [hq, ← hI]
            clear hq hI ih
            simp only [norm, normL, oneA, findCol] at *
            rcases lenCases (ks := ks) (by omega) with rfl | ⟨a, rfl⟩ | ⟨a, b, rfl⟩ <;> simp_all [opT, whenT, both] <;> grind
          · skip
            refine W.region ?_
            iterate 2 refine pu (ev tab rfl) rfl ?_
            refine WO.nil ?_
            refine qs ?_
            refine condK rfl (fun h53 => ?_) (fun h53 => ?_)
            · skip
              refine W.seq ?_
              refine W.region ?_
              refine pu (ev tab rfl) rfl ?_
              refine pu (puCall rfl rfl rfl (all_fn ..) rfl) rfl ?_
              refine pu (puCall rfl rfl rfl (when_fn ..) rfl) rfl ?_
              iterate 4 refine pu (ev tab rfl) rfl ?_
              refine WO.nil ?_
              refine qs ?_
              refine W.ret ?_
              refine qbRet ?_
              refine qsRet ?_
              refine QF.ret0 trivial rfl ?_
              rw [hq, ← hI]
              clear hq hI ih
              simp only [norm, normL, oneA, findCol] at *
              rcases lenCases (ks := ks) (by omega) with rfl | ⟨a, rfl⟩ | ⟨a, b, rfl⟩ <;> simp_all [opT, whenT, both] <;> grind
            · skip
              refine W.seq ?_
              refine W.seq ?_
              refine W.region ?_
              iterate 2 refine pu (ev tab rfl) rfl ?_
              refine WO.nil ?_
              refine qs ?_
              refine condK rfl (fun h62 => ?_) (fun h62 => ?_)
              · skip
                have h2l : ks.length = 2 := by rw [hkl]; apply hkv.2.2.2.1 <;> grind
                refine W.skip ?_
                refine qs ?_
                refine W.condT rfl ?_
                refine W.seq ?_
                refine W.regionD tab (by kernel_rfl) ?_
                refine chPu (ev tab rfl) rfl ?_
                refine chPu (indexAddr tab rfl rfl rfl rfl rfl rfl (Int.le_refl _) (at0 (by omega)) rfl) rfl ?_
                first | refine chPu (ev tab rfl) rfl ?_ | refine chPu (loadRow tab rfl rfl rfl rfl) rfl ?_ | refine chPu (loadBox tab rfl rfl rfl rfl rfl) rfl ?_
                refine chPu (ev tab rfl) rfl ?_
                refine chPu (indexAddr tab rfl rfl rfl rfl rfl rfl (by decide) (at1 (by omega)) rfl) rfl ?_
                first | refine chPu (ev tab rfl) rfl ?_ | refine chPu (loadRow tab rfl rfl rfl rfl) rfl ?_ | refine chPu (loadBox tab rfl rfl rfl rfl rfl) rfl ?_
                refine chPu (puCall rfl rfl rfl (fits_fn ..) rfl) rfl ?_
                refine chPu (ev tab rfl) rfl ?_
                refine chSplitG rfl rfl (fun _ => ?_) (fun _ => ?_)
                · skip
                  refine chSkip rfl rfl rfl rfl ?_
                  refine chSkip rfl rfl rfl rfl ?_
                  refine chSkip rfl rfl rfl rfl ?_
                  refine chSkip rfl rfl rfl rfl ?_
                  refine chSkip rfl rfl rfl rfl ?_
                  refine chSkip rfl rfl rfl rfl ?_
                  refine chSkip rfl rfl rfl rfl ?_
                  refine chPu (ev tab rfl) rfl ?_
                  refine chPu (puCall rfl rfl rfl (when_fn ..) rfl) rfl ?_
                  refine chPu (ev tab rfl) rfl ?_
                  refine chPu (ev tab rfl) rfl ?_
                  refine chPu (ev tab rfl) rfl ?_
                  refine chPu (ev tab rfl) rfl ?_
                  refine CH.nil ?_
                  refine qs ?_
                  refine W.ret ?_
                  refine qbRet ?_
                  refine qsRet ?_
                  refine QF.ret0 trivial rfl ?_
                  rw [hq, ← hI]
                  clear hq hI ih
                  simp only [norm, normL, oneA, findCol] at *
                  rcases lenCases (ks := ks) (by omega) with rfl | ⟨a, rfl⟩ | ⟨a, b, rfl⟩ <;> simp_all [opT, whenT, both] <;> grind
                · skip
                  refine chGo rfl rfl (ev tab rfl) rfl ?_
                  refine chGo rfl rfl (indexAddr tab rfl rfl rfl rfl rfl rfl (by decide) (at1 (by omega)) rfl) rfl ?_
                  first | refine chGo rfl rfl (ev tab rfl) rfl ?_ | refine chGo rfl rfl (loadRow tab rfl rfl rfl rfl) rfl ?_ | refine chGo rfl rfl (loadBox tab rfl rfl rfl rfl rfl) rfl ?_
                  refine chGo rfl rfl (ev tab rfl) rfl ?_
                  refine chGo rfl rfl (indexAddr tab rfl rfl rfl rfl rfl rfl (Int.le_refl _) (at0 (by omega)) rfl) rfl ?_
                  first | refine chGo rfl rfl (ev tab rfl) rfl ?_ | refine chGo rfl rfl (loadRow tab rfl rfl rfl rfl) rfl ?_ | refine chGo rfl rfl (loadBox tab rfl rfl rfl rfl rfl) rfl ?_
                  refine chGo rfl rfl (puCall rfl rfl rfl (fits_fn ..) rfl) rfl ?_
                  refine chPu (ev tab rfl) rfl ?_
                  refine chPu (puCall rfl rfl rfl (when_fn ..) rfl) rfl ?_
                  refine chPu (ev tab rfl) rfl ?_
                  refine chPu (ev tab rfl) rfl ?_
                  refine chPu (ev tab rfl) rfl ?_
                  refine chPu (ev tab rfl) rfl ?_
                  refine CH.nil ?_
                  refine qs ?_
                  refine W.ret ?_
                  refine qbRet ?_
                  refine qsRet ?_
                  refine QF.ret0 trivial rfl ?_
                  rw [hq, ← hI]
                  clear hq hI ih
                  simp only [norm, normL, oneA, findCol] at *
                  rcases lenCases (ks := ks) (by omega) with rfl | ⟨a, rfl⟩ | ⟨a, b, rfl⟩ <;> simp_all [opT, whenT, both] <;> grind
              · skip
                refine W.region ?_
                iterate 2 refine pu (ev tab rfl) rfl ?_
                refine WO.nil ?_
                refine qs ?_
                refine condK rfl (fun h62 => ?_) (fun h62 => ?_)
                · skip
                  have h2l : ks.length = 2 := by rw [hkl]; apply hkv.2.2.2.1 <;> grind
                  refine W.seq ?_
                  refine W.regionD tab (by kernel_rfl) ?_
                  refine chPu (ev tab rfl) rfl ?_
                  refine chPu (indexAddr tab rfl rfl rfl rfl rfl rfl (Int.le_refl _) (at0 (by omega)) rfl) rfl ?_
                  first | refine chPu (ev tab rfl) rfl ?_ | refine chPu (loadRow tab rfl rfl rfl rfl) rfl ?_ | refine chPu (loadBox tab rfl rfl rfl rfl rfl) rfl ?_
                  refine chPu (ev tab rfl) rfl ?_
                  refine chPu (indexAddr tab rfl rfl rfl rfl rfl rfl (by decide) (at1 (by omega)) rfl) rfl ?_
                  first | refine chPu (ev tab rfl) rfl ?_ | refine chPu (loadRow tab rfl rfl rfl rfl) rfl ?_ | refine chPu (loadBox tab rfl rfl rfl rfl rfl) rfl ?_
                  refine chPu (puCall rfl rfl rfl (fits_fn ..) rfl) rfl ?_
                  refine chPu (ev tab rfl) rfl ?_
                  refine chSplitG rfl rfl (fun _ => ?_) (fun _ => ?_)
                  · skip
                    refine chSkip rfl rfl rfl rfl ?_
                    refine chSkip rfl rfl rfl rfl ?_
                    refine chSkip rfl rfl rfl rfl ?_
                    refine chSkip rfl rfl rfl rfl ?_
                    refine chSkip rfl rfl rfl rfl ?_
                    refine chSkip rfl rfl rfl rfl ?_
                    refine chSkip rfl rfl rfl rfl ?_
                    refine chPu (ev tab rfl) rfl ?_
                    refine chPu (puCall rfl rfl rfl (when_fn ..) rfl) rfl ?_
                    refine chPu (ev tab rfl) rfl ?_
                    refine chPu (ev tab rfl) rfl ?_
                    refine chPu (ev tab rfl) rfl ?_
                    refine chPu (ev tab rfl) rfl ?_
                    refine CH.nil ?_
                    refine qs ?_
                    refine W.ret ?_
                    refine qbRet ?_
                    refine qsRet ?_
                    refine QF.ret0 trivial rfl ?_
                    rw [hq, ← hI]
                    clear hq hI ih
                    simp only [norm, normL, oneA, findCol] at *
                    rcases lenCases (ks := ks) (by omega) with rfl | ⟨a, rfl⟩ | ⟨a, b, rfl⟩ <;> simp_all [opT, whenT, both] <;> grind
                  · skip
                    refine chGo rfl rfl (ev tab rfl) rfl ?_
                    refine chGo rfl rfl (indexAddr tab rfl rfl rfl rfl rfl rfl (by decide) (at1 (by omega)) rfl) rfl ?_
                    first | refine chGo rfl rfl (ev tab rfl) rfl ?_ | refine chGo rfl rfl (loadRow tab rfl rfl rfl rfl) rfl ?_ | refine chGo rfl rfl (loadBox tab rfl rfl rfl rfl rfl) rfl ?_
                    refine chGo rfl rfl (ev tab rfl) rfl ?_
                    refine chGo rfl rfl (indexAddr tab rfl rfl rfl rfl rfl rfl (Int.le_refl _) (at0 (by omega)) rfl) rfl ?_
                    first | refine chGo rfl rfl (ev tab rfl) rfl ?_ | refine chGo rfl rfl (loadRow tab rfl rfl rfl rfl) rfl ?_ | refine chGo rfl rfl (loadBox tab rfl rfl rfl rfl rfl) rfl ?_
                    refine chGo rfl rfl (puCall rfl rfl rfl (fits_fn ..) rfl) rfl ?_
                    refine chPu (ev tab rfl) rfl ?_
                    refine chPu (puCall rfl rfl rfl (when_fn ..) rfl) rfl ?_
                    refine chPu (ev tab rfl) rfl ?_
                    refine chPu (ev tab rfl) rfl ?_
                    refine chPu (ev tab rfl) rfl ?_
                    refine chPu (ev tab rfl) rfl ?_
                    refine CH.nil ?_
                    refine qs ?_
                    refine W.ret ?_
                    refine qbRet ?_
                    refine qsRet ?_
                    refine QF.ret0 trivial rfl ?_
                    rw [hq, ← hI]
                    clear hq hI ih
                    simp only [norm, normL, oneA, findCol] at *
                    rcases lenCases (ks := ks) (by omega) with rfl | ⟨a, rfl⟩ | ⟨a, b, rfl⟩ <;> simp_all [opT, whenT, both] <;> grind
                · skip
                  refine W.seq ?_
                  refine W.seq ?_
                  refine W.region ?_
                  iterate 2 refine pu (ev tab rfl) rfl ?_
                  refine WO.nil ?_
                  refine qs ?_
                  refine condK rfl (fun h84 => ?_) (fun h84 => ?_)
                  · skip
                    refine W.skip ?_
                    refine qs ?_
                    refine W.condT rfl ?_
                    refine W.seq ?_
                    refine W.region ?_
                    refine pu (ev tab rfl) rfl ?_
                    refine pu (puCall rfl rfl rfl (all_fn ..) rfl) rfl ?_
                    refine pu (ev tab rfl) rfl ?_
                    refine splitG rfl rfl (fun _ => ?_) (fun _ => ?_)
                    · skip
                      refine skipT rfl rfl rfl rfl ?_
                      refine skipT rfl rfl rfl rfl ?_
                      refine pu (ev tab rfl) rfl ?_
                      refine pu (puCall rfl rfl rfl (when_fn ..) rfl) rfl ?_
                      iterate 4 refine pu (ev tab rfl) rfl ?_
                      refine WO.nil ?_
                      refine qs ?_
                      refine W.ret ?_
                      refine qbRet ?_
                      refine qsRet ?_
                      refine QF.ret0 trivial rfl ?_
                      rw [hq, ← hI]
                      clear hq hI ih
                      simp only [norm, normL, oneA, findCol] at *
                      rcases lenCases (ks := ks) (by omega) with rfl | ⟨a, rfl⟩ | ⟨a, b, rfl⟩ <;> simp_all [opT, whenT, both] <;> grind
                    · skip
                      refine goG rfl rfl ?_
                      refine pu (ev tab rfl) rfl ?_
                      refine goG rfl rfl ?_
                      refine pu (puCall rfl rfl rfl (all_fn ..) rfl) rfl ?_
                      refine pu (ev tab rfl) rfl ?_
                      refine pu (puCall rfl rfl rfl (when_fn ..) rfl) rfl ?_
                      iterate 4 refine pu (ev tab rfl) rfl ?_
                      refine WO.nil ?_
                      refine qs ?_
                      refine W.ret ?_
                      refine qbRet ?_
                      refine qsRet ?_
                      refine QF.ret0 trivial rfl ?_
                      rw [hq, ← hI]
                      clear hq hI ih
                      simp only [norm, normL, oneA, findCol] at *
                      rcases lenCases (ks := ks) (by omega) with rfl | ⟨a, rfl⟩ | ⟨a, b, rfl⟩ <;> simp_all [opT, whenT, both] <;> grind
                  · skip
                    refine W.region ?_
                    iterate 2 refine pu (ev tab rfl) rfl ?_
                    refine WO.nil ?_
                    refine qs ?_
                    refine condK rfl (fun h84 => ?_) (fun h84 => ?_)
                    · skip
                      refine W.seq ?_
                      refine W.region ?_
                      refine pu (ev tab rfl) rfl ?_
                      refine pu (puCall rfl rfl rfl (all_fn ..) rfl) rfl ?_
                      refine pu (ev tab rfl) rfl ?_
                      refine splitG rfl rfl (fun _ => ?_) (fun _ => ?_)
                      · skip
                        refine skipT rfl rfl rfl rfl ?_
                        refine skipT rfl rfl rfl rfl ?_
                        refine pu (ev tab rfl) rfl ?_
                        refine pu (puCall rfl rfl rfl (when_fn ..) rfl) rfl ?_
                        iterate 4 refine pu (ev tab rfl) rfl ?_
                        refine WO.nil ?_
                        refine qs ?_
                        refine W.ret ?_
                        refine qbRet ?_
                        refine qsRet ?_
                        refine QF.ret0 trivial rfl ?_
                        rw [hq, ← hI]
                        clear hq hI ih
                        simp only [norm, normL, oneA, findCol] at *
                        rcases lenCases (ks := ks) (by omega) with rfl | ⟨a, rfl⟩ | ⟨a, b, rfl⟩ <;> simp_all [opT, whenT, both] <;> grind
                      · skip
                        refine goG rfl rfl ?_
                        refine pu (ev tab rfl) rfl ?_
                        refine goG rfl rfl ?_
                        refine pu (puCall rfl rfl rfl (all_fn ..) rfl) rfl ?_
                        refine pu (ev tab rfl) rfl ?_
                        refine pu (puCall rfl rfl rfl (when_fn ..) rfl) rfl ?_
                        iterate 4 refine pu (ev tab rfl) rfl ?_
                        refine WO.nil ?_
                        refine qs ?_
                        refine W.ret ?_
                        refine qbRet ?_
                        refine qsRet ?_
                        refine QF.ret0 trivial rfl ?_
                        rw [hq, ← hI]
                        clear hq hI ih
                        simp only [norm, normL, oneA, findCol] at *
                        rcases lenCases (ks := ks) (by omega) with rfl | ⟨a, rfl⟩ | ⟨a, b, rfl⟩ <;> simp_all [opT, whenT, both] <;> grind
                    · skip
                      refine W.seq ?_
                      refine W.region ?_
                      iterate 2 refine pu (ev tab rfl) rfl ?_
                      refine WO.nil ?_
                      refine qs ?_
                      refine condK rfl (fun h96 => ?_) (fun h96 => ?_)
                      · skip
                        have hc := hkv.2.2.1 (by simpa using h96)
                        refine W.seq ?_
                        refine W.region ?_
                        refine pu (ev tab rfl) rfl ?_
                        first | refine pu (ev tab rfl) rfl ?_ | refine pu (loadRow tab rfl rfl rfl rfl) rfl ?_ | refine pu (loadBox tab rfl rfl rfl rfl rfl) rfl ?_
                        refine pu (ev tab rfl) rfl ?_
                        refine pu (puCall rfl rfl rfl (call_fn e.name ks (by rw [hkl]; exact hc.1) hc.2) rfl) rfl ?_
                        iterate 4 refine pu (ev tab rfl) rfl ?_
                        refine WO.nil ?_
                        refine qs ?_
                        refine W.ret ?_
                        refine qbRet ?_
                        refine qsRet ?_
                        refine QF.ret0 trivial rfl ?_
                        rw [hq, ← hI]
                        clear hq hI ih
                        simp only [norm, normL, oneA, findCol] at *
                        rcases lenCases (ks := ks) (by omega) with rfl | ⟨a, rfl⟩ | ⟨a, b, rfl⟩ <;> simp_all [opT, whenT, both] <;> grind
                      · skip
                        refine W.skip ?_
                        refine qbN ?_
                        refine qs ?_
                        refine W.seq ?_
                        refine W.region ?_
                        refine pu (ev tab rfl) rfl ?_
                        refine pu (puCall rfl rfl rfl (all_fn ..) rfl) rfl ?_
                        refine pu (puCall rfl rfl rfl (when_fn ..) rfl) rfl ?_
                        iterate 4 refine pu (ev tab rfl) rfl ?_
                        refine WO.nil ?_
                        refine qs ?_
                        refine W.ret ?_
                        refine QF.ret0 trivial rfl ?_
                        rw [hq, ← hI]
                        by_cases h4 : e.op = 4
                        · obtain ⟨a, rfl⟩ := len1 (l := ks) (by rw [hkl]; exact hkv.2.1 (.inr h4))
                          clear hq hI ih hkv hkl h2 hk hd
                          simp only [norm, normL, oneA, opT, whenT, both, List.getD_cons_zero, List.all_cons, List.all_nil, Bool.and_true, h4]
                          simp
                        · have h2l : ks.length = 2 := by rw [hkl]; apply hkv.2.2.2.1 <;> grind
                          obtain ⟨a, b, rfl⟩ := len2 h2l
                          clear hq hI ih hkv hkl h2l h2 hk hd
                          simp only [norm, normL, oneA, opT, whenT, both, List.getD_cons_zero, List.getD_cons_succ, List.all_cons, List.all_nil, Bool.and_true]
                          simp_all
theorem texpr_fn (cols : List Col) (e : Ex) : Does Try.prog 7 [.d (.sl (cols.map Col.c)), .ag e.c] (.tup [.d (.v (.int .i64 (exprT cols e).1)), .d (.v (.int .i64 (exprT cols e).2))]) 0 := by
  refine Does.of_W (n := 17) (ts := [4, 5]) Try.func7 (by kernel_rfl) rfl Try.ntmps7 Try.results7 rfl rfl fun C hC hG => ?_
  refine W.seq ?_
  refine W.region ?_
  refine boxR rfl rfl rfl ?_
  iterate 2 refine pu (ev tab rfl) rfl ?_
  refine WO.nil ?_
  refine qs ?_
  refine W.seq ?_
  refine W.seq ?_
  refine W.region ?_
  first | refine pu (ev tab rfl) rfl ?_ | refine pu (loadRow tab rfl rfl rfl rfl) rfl ?_ | refine pu (loadBox tab rfl rfl rfl rfl rfl) rfl ?_
  refine pu (puCall rfl rfl rfl (expr_fn ..) rfl) rfl ?_
  refine pu (ev tab rfl) rfl ?_
  refine WO.nil ?_
  refine qs ?_
  refine W.seq ?_
  refine W.region ?_
  iterate 2 refine pu (ev tab rfl) rfl ?_
  refine WO.nil ?_
  refine qs ?_
  refine condK rfl (fun h10 => ?_) (fun h10 => ?_)
  · skip
    refine W.seq ?_
    refine W.region ?_
    iterate 3 refine pu (ev tab rfl) rfl ?_
    refine WO.nil ?_
    refine qs ?_
    refine W.ret ?_
    refine qsRet ?_
    refine QF.ret0 trivial rfl ?_
    simp only [norm, normL, oneA, exprT]; simp_all
  · skip
    have hv := exprErr_zero (by simpa using h10)
    refine W.skip ?_
    refine qs ?_
    refine W.seq ?_
    refine W.region ?_
    refine pu (ev tab rfl) rfl ?_
    first | refine pu (ev tab rfl) rfl ?_ | refine pu (loadRow tab rfl rfl rfl rfl) rfl ?_ | refine pu (loadBox tab rfl rfl rfl rfl rfl) rfl ?_
    refine pu (puCall rfl rfl rfl (tnode_fn cols e hv) rfl) rfl ?_
    iterate 4 refine pu (ev tab rfl) rfl ?_
    refine WO.nil ?_
    refine qs ?_
    refine W.ret ?_
    refine QF.ret0 trivial rfl ?_
    simp only [norm, normL, oneA, exprT]; simp_all
end Go.Proofs.Ytlmgnlhagpoggaa
namespace Go.Proofs.Ytlmgnlhagpoggaa
open Go.Ab Go.Tb
set_option maxRecDepth 10000
attribute [local irreducible] W WO Pu QS QB QL QF QV QV1 CH QE
theorem add_fn (ks : List ByteArray) (s : ByteArray) (h : ks.length ≤ 1000) : DoesB Try.prog 55 [.ptr 0 0, .d (.v (.string s))] [[.own 1 (ks.map sc)]] 1 (.d (.v (.int .i64 (addErr ks s)))) [[.own 1 ((addTo ks s).map sc)]] 1 := by
  refine DoesB.of_V tab (n := 24) (rs := [.tmp 4]) Try.func55 (by kernel_rfl) rfl Try.ntmps55 Try.results55 rfl rfl fun C hC hG => ?_
  refine W.seq ?_
  refine W.region ?_
  refine pu (ev tab rfl) rfl ?_
  refine WO.nil ?_
  refine qs ?_
  refine W.seq ?_
  refine W.seq ?_
  refine W.region ?_
  refine pu (ev tab rfl) rfl ?_
  refine pu (puCall rfl rfl rfl (identifier_fn ..) rfl) rfl ?_
  refine pu (ev tab rfl) rfl ?_
  refine WO.nil ?_
  refine qs ?_
  refine condK rfl (fun h7 => ?_) (fun h7 => ?_)
  · skip
    refine W.seq ?_
    refine W.region ?_
    refine pu (ev tab rfl) rfl ?_
    refine WO.nil ?_
    refine qs ?_
    refine W.ret ?_
    refine qsRet ?_
    refine QB1.end tab [1] trivial rfl rfl rfl rfl ?_ ?_
    · refine ⟨?_, trivial⟩
      have h6 : addTo ks s = ks := by grind [addTo, addErr]
      rw [h6]; rfl
    simp only [ren, oneA, A.d.injEq, D.v.injEq, Value.int.injEq, true_and]; grind [addErr]
  · skip
    refine W.skip ?_
    refine qs ?_
    refine W.seq ?_
    refine W.seq ?_
    refine W.region ?_
    iterate 3 refine pu (ev tab rfl) rfl ?_
    first | refine pu (ev tab rfl) rfl ?_ | refine pu (loadRow tab rfl rfl rfl rfl) rfl ?_ | refine pu (loadBox tab rfl rfl rfl rfl rfl) rfl ?_
    refine pu (ev tab rfl) rfl ?_
    refine pu (puCall rfl rfl rfl (contains_fn ..) rfl) rfl ?_
    refine WO.nil ?_
    refine qs ?_
    refine condK rfl (fun h13 => ?_) (fun h13 => ?_)
    · skip
      refine W.seq ?_
      refine W.region ?_
      refine pu (ev tab rfl) rfl ?_
      refine WO.nil ?_
      refine qs ?_
      refine W.ret ?_
      refine qsRet ?_
      refine QB1.end tab [1] trivial rfl rfl rfl rfl ?_ ?_
      · refine ⟨?_, trivial⟩
        have h6 : addTo ks s = ks := by grind [addTo, addErr]
        rw [h6]; rfl
      simp only [ren, oneA, A.d.injEq, D.v.injEq, Value.int.injEq, true_and]; grind [addErr]
    · skip
      refine W.skip ?_
      refine qs ?_
      refine W.seq ?_
      refine W.region ?_
      iterate 4 refine pu (ev tab rfl) rfl ?_
      first | refine pu (ev tab rfl) rfl ?_ | refine pu (loadRow tab rfl rfl rfl rfl) rfl ?_ | refine pu (loadBox tab rfl rfl rfl rfl rfl) rfl ?_
      refine pu (ev tab rfl) rfl ?_
      refine pu (buildV tab rfl rfl rfl rfl rfl rfl rfl rfl rfl) rfl ?_
      refine appendM tab rfl rfl rfl rfl rfl rfl rfl rfl rfl rfl (fun _ => rfl) (by show (ks.length + 1) * 16 ≤ _; omega) ?_
      iterate 2 refine pu (ev tab rfl) rfl ?_
      refine storeR tab rfl rfl rfl rfl rfl rfl rfl rfl ?_
      refine WO.nil ?_
      refine qs ?_
      refine W.seq ?_
      refine W.region ?_
      refine pu (ev tab rfl) rfl ?_
      refine WO.nil ?_
      refine qs ?_
      refine W.ret ?_
      refine QB1.end tab [2] trivial rfl rfl rfl rfl ?_ ?_
      · refine ⟨?_, trivial⟩
        have h6 : addTo ks s = ks ++ [s] := by grind [addTo, addErr]
        rw [h6]; rfl
      simp only [ren, oneA, A.d.injEq, D.v.injEq, Value.int.injEq, true_and]; grind [addErr]

theorem allNames_fn (ks l : List ByteArray) (h : ks.length + l.length ≤ 1000) : DoesB Try.prog 56 [.ptr 0 0, .d (.sl (l.map sc))] [[.own 1 (ks.map sc)]] 1 (.d (.v (.int .i64 (allErr ks l)))) [[.own 1 ((allTo ks l).map sc)]] 1 := by
  refine DoesB.of_V tab (n := 21) (rs := [.tmp 4]) Try.func56 (by kernel_rfl) rfl Try.ntmps56 Try.results56 rfl rfl fun C hC hG => ?_
  refine W.seq ?_
  refine W.region ?_
  refine pu (ev tab rfl) rfl ?_
  refine WO.nil ?_
  refine qs ?_
  refine W.seq ?_
  refine W.seq ?_
  refine W.region ?_
  iterate 3 refine pu (ev tab rfl) rfl ?_
  refine WO.nil ?_
  refine qs ?_
  refine W.block ?_
  refine W.len (t := 8) rfl rfl (fun hlen => ?_)
  try simp only [List.length_map, Ex.kc_len] at hlen
  refine W.loopR (ι := {x : Nat × List ByteArray // match x with | (k, ns) => k ≤ l.length ∧ allErr ns (l.drop k) = allErr ks l ∧ allTo ns (l.drop k) = allTo ks l ∧ ns.length ≤ ks.length + k})
    (fun x => match x.1 with | (k, ns) => [(0, .ptr 0 0), (10, .d (.v (.int .i64 ((k : Nat) : Int))))]) [(8, _), (9, _)]
    (fun x => match x.1 with | (k, ns) => [(0, [.own 1 (ns.map sc)])]) [] [1] 2 (fun x => match x.1 with | (k, ns) => l.length - k)
    [0, 1] ⟨(0, ks), ?_⟩ rfl ?_ ⟨rfl, rfl, rfl, rfl, trivial⟩ ?_ trivial rfl ?_
  · exact ⟨Nat.zero_le _, rfl, rfl, Nat.le_refl _⟩
  · repeat' first | exact trivial | refine ⟨rfl, ?_⟩ | refine ⟨step_nat (by assumption) (by assumption), ?_⟩
  · repeat' first | exact trivial | refine ⟨rfl, ?_⟩ | refine ⟨step_nat (by assumption) (by assumption), ?_⟩
  rintro ⟨⟨k, ns⟩, hk, hI, hJ, hL⟩
  show W _ _ _ _ _ ⟨[(0, .ptr 0 0), (10, .d (.v (.int .i64 ((k : Nat) : Int)))), (8, _), (9, _)], [(0, [.own 1 (ns.map sc)])], [1], 2⟩
  refine W.seq ?_
  refine W.region ?_
  refine pu (ev tab rfl) rfl ?_
  refine WO.nil ?_
  refine qs ?_
  refine W.seq ?_
  refine eachR (l := l) (k := k) rfl (by simp [Ex.kc_len, bytes_len]) hk (fun x hx hd hlt => ?_) (fun he hd => ?_)
  · skip
    rw [hd] at hI hJ
    simp only [allErr, allTo] at hI hJ
    refine W.skip ?_
    refine qs ?_
    refine W.seq ?_
    refine W.block ?_
    refine W.seq ?_
    refine W.region ?_
    refine pu (indexAddr tab rfl rfl rfl rfl rfl rfl (Int.natCast_nonneg _) (idx_map hx) rfl) rfl ?_
    first | refine pu (ev tab rfl) rfl ?_ | refine pu (loadRow tab rfl rfl rfl rfl) rfl ?_ | refine pu (loadBox tab rfl rfl rfl rfl rfl) rfl ?_
    refine pu (ev tab rfl) rfl ?_
    refine WO.nil ?_
    refine qs ?_
    refine W.seq ?_
    refine W.region ?_
    iterate 2 refine pu (ev tab rfl) rfl ?_
    refine callB [0] [1] rfl rfl rfl rfl rfl ((add_fn ns x (by omega))) rfl rfl (by rfl) (by rfl) rfl rfl rfl rfl ?_
    refine pu (ev tab rfl) rfl ?_
    refine WO.nil ?_
    refine qs ?_
    refine W.seq ?_
    refine W.region ?_
    iterate 2 refine pu (ev tab rfl) rfl ?_
    refine WO.nil ?_
    refine qs ?_
    refine condK rfl (fun h18 => ?_) (fun h18 => ?_)
    · skip
      have h18 : addErr ns x ≠ 0 := by simpa using h18
      rw [if_pos h18] at hI hJ
      refine W.seq ?_
      refine W.region ?_
      iterate 2 refine pu (ev tab rfl) rfl ?_
      refine WO.nil ?_
      refine qs ?_
      refine W.ret ?_
      refine qbRet ?_
      refine qsRet ?_
      refine qlRet ?_
      refine qbRet ?_
      refine qsRet ?_
      refine QB1.end tab [3] trivial rfl rfl rfl rfl ?_ ?_
      · refine ⟨?_, trivial⟩
        have hto : addTo ns x = allTo ks l := by rw [← hJ]; simp [addTo, h18]
        rw [← hto]; rfl
      rw [← hI]; rfl
    · skip
      have h18 : addErr ns x = 0 := by simpa using h18
      rw [if_neg (by simp [h18])] at hI hJ
      have hto : addTo ns x = ns ++ [x] := by simp [addTo, h18]
      refine W.skip ?_
      refine qbN ?_
      refine qs ?_
      refine W.region ?_
      iterate 2 refine pu (ev tab rfl) rfl ?_
      refine WO.nil ?_
      refine W.endR [0, 3] ⟨(k + 1, addTo ns x), ?_⟩ ?_ rfl ?_ ⟨rfl, rfl, rfl, rfl, trivial⟩ ?_ trivial rfl
      · refine ⟨hlt, ?_, ?_, ?_⟩
        · rw [hto]; exact hI
        · rw [hto]; exact hJ
        · rw [hto]; simp; omega
      · dsimp only; omega
      · repeat' first | exact trivial | refine ⟨rfl, ?_⟩ | refine ⟨step_nat (by assumption) (by assumption), ?_⟩
      · repeat' first | exact trivial | refine ⟨rfl, ?_⟩ | refine ⟨step_nat (by assumption) (by assumption), ?_⟩
  · skip
    rw [hd] at hI hJ
    simp only [allErr, allTo] at hI hJ
    refine W.exit ?_
    refine qsExit ?_
    refine qlExit ?_
    refine qbExit ?_
    refine qs ?_
    refine W.seq ?_
    refine W.region ?_
    refine pu (ev tab rfl) rfl ?_
    refine WO.nil ?_
    refine qs ?_
    refine W.ret ?_
    refine QB1.end tab [1] trivial rfl rfl rfl rfl ?_ ?_
    · refine ⟨?_, trivial⟩
      rw [← hJ]; rfl
    rw [← hI]; rfl

theorem size_fn (n m : Int) : Does Try.prog 35 [.d (.v (.int .i64 n)), .d (.v (.int .i64 m))] (.d (.v (.int .i64 (sizeErr n m)))) 0 := by
  refine Does.of_W (n := 12) (ts := [4]) Try.func35 (by kernel_rfl) rfl Try.ntmps35 Try.results35 rfl rfl fun C hC hG => ?_
  refine W.seq ?_
  refine W.region ?_
  refine pu (ev tab rfl) rfl ?_
  refine WO.nil ?_
  refine qs ?_
  refine W.seq ?_
  refine W.block ?_
  refine W.seq ?_
  refine W.region ?_
  iterate 4 refine pu (ev tab rfl) rfl ?_
  refine WO.nil ?_
  refine qs ?_
  refine condK rfl (fun h5 => ?_) (fun h5 => ?_)
  · skip
    refine W.seq ?_
    refine W.region ?_
    refine pu (ev tab rfl) rfl ?_
    refine WO.nil ?_
    refine qs ?_
    refine W.ret ?_
    refine qbRet ?_
    refine qsRet ?_
    refine QF.ret0 trivial rfl ?_
    simp only [norm, oneA] at *; grind [sizeErr]
  · skip
    refine W.seq ?_
    refine W.region ?_
    iterate 3 refine pu (ev tab rfl) rfl ?_
    refine WO.nil ?_
    refine qs ?_
    refine condK rfl (fun h9 => ?_) (fun h9 => ?_)
    · skip
      refine W.seq ?_
      refine W.region ?_
      refine pu (ev tab rfl) rfl ?_
      refine WO.nil ?_
      refine qs ?_
      refine W.ret ?_
      refine qbRet ?_
      refine qsRet ?_
      refine QF.ret0 trivial rfl ?_
      simp only [norm, oneA] at *; grind [sizeErr]
    · skip
      refine W.skip ?_
      refine qbN ?_
      refine qs ?_
      refine W.seq ?_
      refine W.region ?_
      refine pu (ev tab rfl) rfl ?_
      refine WO.nil ?_
      refine qs ?_
      refine W.ret ?_
      refine QF.ret0 trivial rfl ?_
      simp only [norm, oneA] at *; grind [sizeErr]

theorem columns_fn (l : List ByteArray) (m : Int) : Does Try.prog 38 [.d (.sl (l.map sc)), .d (.v (.int .i64 m))] (.d (.v (.int .i64 (columnsErr l m)))) 0 := by
  refine Does.of_W (n := 16) (ts := [4]) Try.func38 (by kernel_rfl) rfl Try.ntmps38 Try.results38 rfl rfl fun C hC hG => ?_
  refine W.seq ?_
  refine W.region ?_
  refine pu (ev tab rfl) rfl ?_
  refine WO.nil ?_
  refine qs ?_
  refine W.seq ?_
  refine W.seq ?_
  refine W.region ?_
  iterate 3 refine pu (ev tab rfl) rfl ?_
  refine pu (puCall rfl rfl rfl (size_fn ..) rfl) rfl ?_
  refine pu (ev tab rfl) rfl ?_
  refine WO.nil ?_
  refine qs ?_
  refine W.seq ?_
  refine W.region ?_
  iterate 2 refine pu (ev tab rfl) rfl ?_
  refine WO.nil ?_
  refine qs ?_
  refine condK rfl (fun h12 => ?_) (fun h12 => ?_)
  · skip
    refine W.seq ?_
    refine W.region ?_
    iterate 2 refine pu (ev tab rfl) rfl ?_
    refine WO.nil ?_
    refine qs ?_
    refine W.ret ?_
    refine qsRet ?_
    refine QF.ret0 trivial rfl ?_
    simp only [norm, oneA, back] at *; grind [columnsErr]
  · skip
    have h12 : sizeErr l.length m = 0 := by simpa using h12
    have hl16 : l.length ≤ 16 := by unfold sizeErr at h12; split at h12; omega; split at h12 <;> omega
    refine W.skip ?_
    refine qs ?_
    refine W.seq ?_
    refine W.region ?_
    refine allocR tab rfl rfl rfl ?_
    refine WO.nil ?_
    refine qs ?_
    refine W.seq ?_
    refine W.region ?_
    refine ownNilBoxO 0 0 rfl rfl rfl ?_
    refine pu (ev tab rfl) rfl ?_
    refine callB [0] [1] rfl rfl rfl rfl rfl ((allNames_fn [] l (by simp; omega))) rfl rfl (by rfl) (by rfl) rfl rfl rfl rfl ?_
    refine pu (ev tab rfl) rfl ?_
    refine WO.nil ?_
    refine qs ?_
    refine W.ret ?_
    refine QF.ret0 trivial rfl ?_
    simp only [norm, oneA, back] at *; grind [columnsErr]
end Go.Proofs.Ytlmgnlhagpoggaa
namespace Go.Proofs.Ytlmgnlhagpoggaa
open Go.Ab Go.Tb
set_option maxRecDepth 10000
attribute [local irreducible] W WO Pu QS QB QL QF QV QV1 CH QE
theorem zero_fn (e : Ex) : Does Try.prog 54 [.ag e.c] (.d (.v (.bool (zeroE e)))) 0 := by
  refine Does.of_W (n := 23) (ts := [2]) Try.func54 (by kernel_rfl) rfl Try.ntmps54 Try.results54 rfl rfl fun C hC hG => ?_
  have hkl := Ex.kc_len e
  refine W.seq ?_
  refine W.region ?_
  refine boxR rfl rfl rfl ?_
  refine pu (ev tab rfl) rfl ?_
  refine WO.nil ?_
  refine qs ?_
  refine W.seq ?_
  apply regionB; (case hb => rfl)
  · skip
    refine pu (ev tab rfl) rfl ?_
    first | refine pu (ev tab rfl) rfl ?_ | refine pu (loadRow tab rfl rfl rfl rfl) rfl ?_ | refine pu (loadBox tab rfl rfl rfl rfl rfl) rfl ?_
    iterate 2 refine pu (ev tab rfl) rfl ?_
    apply splitJ; (case hj => rfl); (case hl => rfl)
    · skip
      refine goG rfl rfl ?_
      refine pu (ev tab rfl) rfl ?_
      refine goG rfl rfl ?_
      first | refine pu (ev tab rfl) rfl ?_ | refine pu (loadRow tab rfl rfl rfl rfl) rfl ?_ | refine pu (loadBox tab rfl rfl rfl rfl rfl) rfl ?_
      refine goG rfl rfl ?_
      iterate 3 refine pu (ev tab rfl) rfl ?_
      apply splitJ; (case hj => rfl); (case hl => rfl)
      · skip
        refine goG rfl rfl ?_
        refine pu (ev tab rfl) rfl ?_
        refine goG rfl rfl ?_
        first | refine pu (ev tab rfl) rfl ?_ | refine pu (loadRow tab rfl rfl rfl rfl) rfl ?_ | refine pu (loadBox tab rfl rfl rfl rfl rfl) rfl ?_
        refine goG rfl rfl ?_
        refine pu (build tab rfl rfl rfl rfl) rfl ?_
        refine goG rfl rfl ?_
        iterate 3 refine pu (ev tab rfl) rfl ?_
        apply splitJ; (case hj => rfl); (case hl => rfl)
        · skip
          refine goG rfl rfl ?_
          refine pu (ev tab rfl) rfl ?_
          refine goG rfl rfl ?_
          first | refine pu (ev tab rfl) rfl ?_ | refine pu (loadRow tab rfl rfl rfl rfl) rfl ?_ | refine pu (loadBox tab rfl rfl rfl rfl rfl) rfl ?_
          refine goG rfl rfl ?_
          refine pu (ev tab rfl) rfl ?_
          refine goG rfl rfl ?_
          iterate 3 refine pu (ev tab rfl) rfl ?_
          refine WO.nil ?_
          refine qv1 rfl rfl rfl
        · skip
          refine skipT rfl rfl rfl rfl ?_
          refine skipT rfl rfl rfl rfl ?_
          refine skipT rfl rfl rfl rfl ?_
          refine skipT rfl rfl rfl rfl ?_
          iterate 2 refine pu (ev tab rfl) rfl ?_
          refine WO.nil ?_
          refine qv1 rfl rfl rfl
      · skip
        refine skipT rfl rfl rfl rfl ?_
        refine skipT rfl rfl rfl rfl ?_
        refine skipT rfl rfl rfl rfl ?_
        refine skipT rfl rfl rfl rfl ?_
        iterate 2 refine pu (ev tab rfl) rfl ?_
        refine skipT rfl rfl rfl rfl ?_
        refine skipT rfl rfl rfl rfl ?_
        refine skipT rfl rfl rfl rfl ?_
        refine skipT rfl rfl rfl rfl ?_
        iterate 2 refine pu (ev tab rfl) rfl ?_
        refine WO.nil ?_
        refine qv1 rfl rfl rfl
    · skip
      refine skipT rfl rfl rfl rfl ?_
      refine skipT rfl rfl rfl rfl ?_
      refine skipT rfl rfl rfl rfl ?_
      iterate 2 refine pu (ev tab rfl) rfl ?_
      refine skipT rfl rfl rfl rfl ?_
      refine skipT rfl rfl rfl rfl ?_
      refine skipT rfl rfl rfl rfl ?_
      refine skipT rfl rfl rfl rfl ?_
      iterate 2 refine pu (ev tab rfl) rfl ?_
      refine skipT rfl rfl rfl rfl ?_
      refine skipT rfl rfl rfl rfl ?_
      refine skipT rfl rfl rfl rfl ?_
      refine skipT rfl rfl rfl rfl ?_
      iterate 2 refine pu (ev tab rfl) rfl ?_
      refine WO.nil ?_
      refine qv1 rfl rfl rfl
  refine qs ?_
  refine W.ret ?_
  refine QF.ret0 trivial rfl ?_
  simp only [norm, oneA, zeroE, zeroV, hkl, Int.natCast_eq_zero]; grind

theorem uses1_fn (l : List Int) (s : Stp) : Does Try.prog 52 [.d (.sl (l.map ic)), .row (s.c.map A.d)] (.d (.v (.bool (l.any fun x => decide (s.op = x))))) 0 := by
  refine Does.of_W (n := 8) (ts := [3]) Try.func52 (by kernel_rfl) rfl Try.ntmps52 Try.results52 rfl rfl fun C hC hG => ?_
  refine W.seq ?_
  refine W.region ?_
  refine pu (ev tab rfl) rfl ?_
  refine WO.nil ?_
  refine qs ?_
  refine W.seq ?_
  refine W.region ?_
  iterate 2 refine pu (ev tab rfl) rfl ?_
  first | refine pu (ev tab rfl) rfl ?_ | refine pu (loadRow tab rfl rfl rfl rfl) rfl ?_ | refine pu (loadBox tab rfl rfl rfl rfl rfl) rfl ?_
  refine pu (puCall rfl rfl rfl (containsOp_fn l s.op) rfl) rfl ?_
  refine pu (ev tab rfl) rfl ?_
  refine WO.nil ?_
  refine qs ?_
  refine W.ret ?_
  refine QF.ret0 trivial rfl ?_
  rfl
theorem items_fn (l : List Itm) (h : l.length ≤ 16) : Does Try.prog 36 [.d (.sl (l.map Itm.c))] (.d (.v (.int .i64 (selErr [] l)))) 0 := by
  refine Does.of_W (n := 27) (ts := [2]) Try.func36 (by kernel_rfl) rfl Try.ntmps36 Try.results36 rfl rfl fun C hC hG => ?_
  refine W.seq ?_
  refine W.region ?_
  refine pu (ev tab rfl) rfl ?_
  refine WO.nil ?_
  refine qs ?_
  refine W.seq ?_
  refine W.region ?_
  refine allocR tab rfl rfl rfl ?_
  refine WO.nil ?_
  refine qs ?_
  refine W.seq ?_
  refine W.seq ?_
  refine W.region ?_
  iterate 3 refine pu (ev tab rfl) rfl ?_
  refine WO.nil ?_
  refine qs ?_
  refine W.block ?_
  refine ownNilBox 0 0 rfl rfl rfl ?_
  refine W.len (t := 8) rfl rfl (fun hlen => ?_)
  try simp only [List.length_map, Ex.kc_len] at hlen
  refine W.loopR (ι := {x : Nat × List ByteArray // match x with | (k, ns) => k ≤ l.length ∧ selErr ns (l.drop k) = selErr [] l ∧ ns.length ≤ k})
    (fun x => match x.1 with | (k, ns) => [(3, .ptr 0 0), (10, .d (.v (.int .i64 ((k : Nat) : Int))))]) [(8, _), (9, _)]
    (fun x => match x.1 with | (k, ns) => [(0, [.own 1 (ns.map sc)])]) [] [1] 2 (fun x => match x.1 with | (k, ns) => l.length - k)
    [0, 1] ⟨(0, []), ?_⟩ rfl ?_ ⟨rfl, rfl, rfl, rfl, trivial⟩ ?_ trivial rfl ?_
  · exact ⟨Nat.zero_le _, rfl, Nat.le_refl _⟩
  · repeat' first | exact trivial | refine ⟨rfl, ?_⟩ | refine ⟨step_nat (by assumption) (by assumption), ?_⟩
  · repeat' first | exact trivial | refine ⟨rfl, ?_⟩ | refine ⟨step_nat (by assumption) (by assumption), ?_⟩
  rintro ⟨⟨k, ns⟩, hk, hI, hL⟩
  show W _ _ _ _ _ ⟨[(3, .ptr 0 0), (10, .d (.v (.int .i64 ((k : Nat) : Int)))), (8, _), (9, _)], [(0, [.own 1 (ns.map sc)])], [1], 2⟩
  refine W.seq ?_
  refine W.region ?_
  refine pu (ev tab rfl) rfl ?_
  refine WO.nil ?_
  refine qs ?_
  refine W.seq ?_
  refine eachR (l := l) (k := k) rfl (by simp [Ex.kc_len, bytes_len]) hk (fun x hx hd hlt => ?_) (fun he hd => ?_)
  · skip
    rw [hd] at hI
    simp only [selErr] at hI
    refine W.skip ?_
    refine qs ?_
    refine W.seq ?_
    refine W.block ?_
    refine W.seq ?_
    refine W.region ?_
    refine pu (indexAddr tab rfl rfl rfl rfl rfl rfl (Int.natCast_nonneg _) (idx_map hx) rfl) rfl ?_
    first | refine pu (ev tab rfl) rfl ?_ | refine pu (loadRow tab rfl rfl rfl rfl) rfl ?_ | refine pu (loadBox tab rfl rfl rfl rfl rfl) rfl ?_
    refine allocR tab rfl rfl rfl ?_
    refine storeR tab rfl rfl rfl rfl rfl rfl rfl rfl ?_
    refine WO.nil ?_
    refine qs ?_
    refine W.seq ?_
    refine W.seq ?_
    refine W.region ?_
    refine pu (ev tab rfl) rfl ?_
    first | refine pu (ev tab rfl) rfl ?_ | refine pu (loadRow tab rfl rfl rfl rfl) rfl ?_ | refine pu (loadBox tab rfl rfl rfl rfl rfl) rfl ?_
    refine pu (puCall rfl rfl rfl (expr_fn x.e) rfl) rfl ?_
    refine pu (ev tab rfl) rfl ?_
    refine WO.nil ?_
    refine qs ?_
    refine W.seq ?_
    refine W.region ?_
    iterate 2 refine pu (ev tab rfl) rfl ?_
    refine WO.nil ?_
    refine qs ?_
    refine condK rfl (fun h18 => ?_) (fun h18 => ?_)
    · skip
      rw [if_pos (by simpa using h18)] at hI
      refine W.seq ?_
      refine W.region ?_
      iterate 2 refine pu (ev tab rfl) rfl ?_
      refine WO.nil ?_
      refine qs ?_
      refine W.ret ?_
      refine qsRet ?_
      refine qbRet ?_
      refine qsRet ?_
      refine qlRet ?_
      refine qbRet ?_
      refine qsRet ?_
      refine QF.ret0 trivial rfl ?_
      rw [← hI]; rfl
    · skip
      rw [if_neg (by simpa using h18)] at hI
      refine W.skip ?_
      refine qs ?_
      refine W.seq ?_
      refine W.region ?_
      refine pu (ev tab rfl) rfl ?_
      first | refine pu (ev tab rfl) rfl ?_ | refine pu (loadRow tab rfl rfl rfl rfl) rfl ?_ | refine pu (loadBox tab rfl rfl rfl rfl rfl) rfl ?_
      refine callB [0] [1] rfl rfl rfl rfl rfl ((add_fn ns x.name (by omega))) rfl rfl (by rfl) (by rfl) rfl rfl rfl rfl ?_
      refine pu (ev tab rfl) rfl ?_
      refine WO.nil ?_
      refine qs ?_
      refine W.seq ?_
      refine W.region ?_
      iterate 2 refine pu (ev tab rfl) rfl ?_
      refine WO.nil ?_
      refine qs ?_
      refine condK rfl (fun h24 => ?_) (fun h24 => ?_)
      · skip
        have h24 : addErr ns x.name ≠ 0 := by simpa using h24
        rw [if_pos h24] at hI
        refine W.seq ?_
        refine W.region ?_
        iterate 2 refine pu (ev tab rfl) rfl ?_
        refine WO.nil ?_
        refine qs ?_
        refine W.ret ?_
        refine qbRet ?_
        refine qsRet ?_
        refine qlRet ?_
        refine qbRet ?_
        refine qsRet ?_
        refine QF.ret0 trivial rfl ?_
        rw [← hI]; rfl
      · skip
        have h24 : addErr ns x.name = 0 := by simpa using h24
        rw [if_neg (by simp [h24])] at hI
        have hto : addTo ns x.name = ns ++ [x.name] := by simp [addTo, h24]
        refine W.skip ?_
        refine qbN ?_
        refine qs ?_
        refine W.region ?_
        iterate 2 refine pu (ev tab rfl) rfl ?_
        refine WO.nil ?_
        refine W.endR [0, 4] ⟨(k + 1, addTo ns x.name), ?_⟩ ?_ rfl ?_ ⟨rfl, rfl, rfl, rfl, trivial⟩ ?_ trivial rfl
        · refine ⟨hlt, ?_, ?_⟩
          · rw [hto]; exact hI
          · rw [hto]; simp; omega
        · dsimp only; omega
        · repeat' first | exact trivial | refine ⟨rfl, ?_⟩ | refine ⟨step_nat (by assumption) (by assumption), ?_⟩
        · repeat' first | exact trivial | refine ⟨rfl, ?_⟩ | refine ⟨step_nat (by assumption) (by assumption), ?_⟩
  · skip
    rw [hd] at hI
    simp only [selErr] at hI
    refine W.exit ?_
    refine qsExit ?_
    refine qlExit ?_
    refine qbExit ?_
    refine qs ?_
    refine W.seq ?_
    refine W.region ?_
    refine pu (ev tab rfl) rfl ?_
    refine WO.nil ?_
    refine qs ?_
    refine W.ret ?_
    refine QF.ret0 trivial rfl ?_
    rw [← hI]; rfl

theorem group_fn (s : Stp) : Does Try.prog 37 [.ag s.c] (.d (.v (.int .i64 (groupErr s)))) 0 := by
  refine Does.of_W (n := 77) (ts := [2]) Try.func37 (by kernel_rfl) rfl Try.ntmps37 Try.results37 rfl rfl fun C hC hG => ?_
  refine W.seq ?_
  refine W.region ?_
  refine boxR rfl rfl rfl ?_
  refine pu (ev tab rfl) rfl ?_
  refine WO.nil ?_
  refine qs ?_
  refine W.seq ?_
  refine W.block ?_
  refine W.seq ?_
  refine lenBox (g := 0) (j := 8) rfl rfl (fun hl1 => ?_)
  refine lenBox (g := 0) (j := 9) rfl rfl (fun hl2 => ?_)
  simp only [List.length_map, maxLen] at hl1 hl2
  refine W.region ?_
  refine pu (ev tab rfl) rfl ?_
  first | refine pu (ev tab rfl) rfl ?_ | refine pu (loadRow tab rfl rfl rfl rfl) rfl ?_ | refine pu (loadBox tab rfl rfl rfl rfl rfl) rfl ?_
  iterate 2 refine pu (ev tab rfl) rfl ?_
  first | refine pu (ev tab rfl) rfl ?_ | refine pu (loadRow tab rfl rfl rfl rfl) rfl ?_ | refine pu (loadBox tab rfl rfl rfl rfl rfl) rfl ?_
  iterate 4 refine pu (ev tab rfl) rfl ?_
  refine WO.nil ?_
  refine qs ?_
  refine condK rfl (fun h9 => ?_) (fun h9 => ?_)
  · skip
    have h9 : s.cols.length + s.aggs.length = 0 := by have h9' := of_decide_eq_true h9; rw [wrap_zero (by omega) (by simp only [List.length_map]; omega)] at h9'; simp only [List.length_map] at h9'; omega
    refine W.seq ?_
    refine W.region ?_
    refine pu (ev tab rfl) rfl ?_
    refine WO.nil ?_
    refine qs ?_
    refine W.ret ?_
    refine qbRet ?_
    refine qsRet ?_
    refine QF.ret0 trivial rfl ?_
    simp only [norm, oneA, List.length_map] at *; grind [groupErr]
  · skip
    have h9 : ¬ (s.cols.length + s.aggs.length = 0) := by have h9' := of_decide_eq_false h9; rw [wrap_zero (by omega) (by simp only [List.length_map]; omega)] at h9'; simp only [List.length_map] at h9'; omega
    refine W.seq ?_
    apply regionB; (case hb => rfl)
    · skip
      refine pu (ev tab rfl) rfl ?_
      first | refine pu (ev tab rfl) rfl ?_ | refine pu (loadRow tab rfl rfl rfl rfl) rfl ?_ | refine pu (loadBox tab rfl rfl rfl rfl rfl) rfl ?_
      iterate 3 refine pu (ev tab rfl) rfl ?_
      apply splitJ; (case hj => rfl); (case hl => rfl)
      · skip
        refine skipT rfl rfl rfl rfl ?_
        refine skipT rfl rfl rfl rfl ?_
        refine skipT rfl rfl rfl rfl ?_
        refine skipT rfl rfl rfl rfl ?_
        iterate 2 refine pu (ev tab rfl) rfl ?_
        refine WO.nil ?_
        refine qv1 rfl rfl rfl
      · skip
        refine goG rfl rfl ?_
        refine pu (ev tab rfl) rfl ?_
        refine goG rfl rfl ?_
        first | refine pu (ev tab rfl) rfl ?_ | refine pu (loadRow tab rfl rfl rfl rfl) rfl ?_ | refine pu (loadBox tab rfl rfl rfl rfl rfl) rfl ?_
        refine goG rfl rfl ?_
        refine pu (ev tab rfl) rfl ?_
        refine goG rfl rfl ?_
        iterate 3 refine pu (ev tab rfl) rfl ?_
        refine WO.nil ?_
        refine qv1 rfl rfl rfl
    refine qs ?_
    refine condK rfl (fun h18 => ?_) (fun h18 => ?_)
    · skip
      refine W.seq ?_
      refine W.region ?_
      refine pu (ev tab rfl) rfl ?_
      refine WO.nil ?_
      refine qs ?_
      refine W.ret ?_
      refine qbRet ?_
      refine qsRet ?_
      refine QF.ret0 trivial rfl ?_
      simp only [norm, oneA, List.length_map] at *; grind [groupErr]
    · skip
      have h18 : ¬ (16 < s.cols.length ∨ 16 < s.aggs.length) := by simp only [List.length_map] at h18; intro h; simp at h18; omega
      have hge : groupErr s = if allErr [] s.cols ≠ 0 then allErr [] s.cols else aggErr s.cols s.aggs := by unfold groupErr; rw [if_neg h9, if_neg h18]
      refine W.skip ?_
      refine qbN ?_
      refine qs ?_
      refine W.seq ?_
      refine W.region ?_
      refine allocR tab rfl rfl rfl ?_
      refine WO.nil ?_
      refine qs ?_
      refine W.seq ?_
      refine W.seq ?_
      refine W.region ?_
      refine ownNilBoxO 1 0 rfl rfl rfl ?_
      refine pu (ev tab rfl) rfl ?_
      first | refine pu (ev tab rfl) rfl ?_ | refine pu (loadRow tab rfl rfl rfl rfl) rfl ?_ | refine pu (loadBox tab rfl rfl rfl rfl rfl) rfl ?_
      refine callB [1] [2] rfl rfl rfl rfl rfl ((allNames_fn [] s.cols (by simp; omega))) rfl rfl (by rfl) (by rfl) rfl rfl rfl rfl ?_
      refine pu (ev tab rfl) rfl ?_
      refine WO.nil ?_
      refine qs ?_
      refine W.seq ?_
      refine W.region ?_
      iterate 2 refine pu (ev tab rfl) rfl ?_
      refine WO.nil ?_
      refine qs ?_
      refine condK rfl (fun h33 => ?_) (fun h33 => ?_)
      · skip
        rw [if_pos (by simpa using h33)] at hge
        refine W.seq ?_
        refine W.region ?_
        iterate 2 refine pu (ev tab rfl) rfl ?_
        refine WO.nil ?_
        refine qs ?_
        refine W.ret ?_
        refine qsRet ?_
        refine QF.ret0 trivial rfl ?_
        rw [hge]; rfl
      · skip
        have h33 : allErr [] s.cols = 0 := by simpa using h33
        rw [if_neg (by simp [h33])] at hge
        have hto := allTo_ok [] s.cols h33
        refine W.skip ?_
        refine qs ?_
        refine W.seq ?_
        refine W.seq ?_
        refine W.region ?_
        refine pu (ev tab rfl) rfl ?_
        first | refine pu (ev tab rfl) rfl ?_ | refine pu (loadRow tab rfl rfl rfl rfl) rfl ?_ | refine pu (loadBox tab rfl rfl rfl rfl rfl) rfl ?_
        iterate 2 refine pu (ev tab rfl) rfl ?_
        refine WO.nil ?_
        refine qs ?_
        refine W.block ?_
        refine W.loopR (ι := {x : Nat × List ByteArray // match x with | (k, ns) => k ≤ s.aggs.length ∧ aggErr ns (s.aggs.drop k) = aggErr s.cols s.aggs ∧ ns.length ≤ s.cols.length + k})
          (fun x => match x.1 with | (k, ns) => [(3, .ptr 0 0), (38, .d (.v (.int .i64 ((k : Nat) : Int))))]) [(36, _), (37, _)]
          (fun x => match x.1 with | (k, ns) => [(0, [.own 1 (ns.map sc)])]) [] [1] 2 (fun x => match x.1 with | (k, ns) => s.aggs.length - k)
          [1, 4] ⟨(0, allTo [] s.cols), ?_⟩ rfl ?_ ⟨rfl, rfl, rfl, rfl, trivial⟩ ?_ trivial rfl ?_
        · exact ⟨Nat.zero_le _, by rw [hto]; rfl, by rw [hto]; simp⟩
        · repeat' first | exact trivial | refine ⟨rfl, ?_⟩ | refine ⟨step_nat (by assumption) (by assumption), ?_⟩
        · repeat' first | exact trivial | refine ⟨rfl, ?_⟩ | refine ⟨step_nat (by assumption) (by assumption), ?_⟩
        rintro ⟨⟨k, ns⟩, hk, hI, hL⟩
        show W _ _ _ _ _ ⟨[(3, .ptr 0 0), (38, .d (.v (.int .i64 ((k : Nat) : Int)))), (36, _), (37, _)], [(0, [.own 1 (ns.map sc)])], [1], 2⟩
        refine W.seq ?_
        refine W.region ?_
        refine pu (ev tab rfl) rfl ?_
        refine WO.nil ?_
        refine qs ?_
        refine W.seq ?_
        refine eachR (l := s.aggs) (k := k) rfl (by simp [Ex.kc_len, bytes_len]) hk (fun x hx hd hlt => ?_) (fun he hd => ?_)
        · skip
          rw [hd] at hI
          simp only [aggErr] at hI
          refine W.skip ?_
          refine qs ?_
          refine W.seq ?_
          refine W.block ?_
          refine W.seq ?_
          refine W.region ?_
          refine pu (indexAddr tab rfl rfl rfl rfl rfl rfl (Int.natCast_nonneg _) (idx_map hx) rfl) rfl ?_
          first | refine pu (ev tab rfl) rfl ?_ | refine pu (loadRow tab rfl rfl rfl rfl) rfl ?_ | refine pu (loadBox tab rfl rfl rfl rfl rfl) rfl ?_
          refine allocR tab rfl rfl rfl ?_
          refine storeR tab rfl rfl rfl rfl rfl rfl rfl rfl ?_
          refine WO.nil ?_
          refine qs ?_
          refine W.seq ?_
          refine W.region ?_
          refine pu (ev tab rfl) rfl ?_
          first | refine pu (ev tab rfl) rfl ?_ | refine pu (loadRow tab rfl rfl rfl rfl) rfl ?_ | refine pu (loadBox tab rfl rfl rfl rfl rfl) rfl ?_
          iterate 2 refine pu (ev tab rfl) rfl ?_
          refine WO.nil ?_
          refine qs ?_
          refine W.seq ?_
          refine W.seq ?_
          apply regionB; (case hb => rfl)
          · skip
            iterate 3 refine pu (ev tab rfl) rfl ?_
            apply splitJ; (case hj => rfl); (case hl => rfl)
            · skip
              refine goG rfl rfl ?_
              refine pu (buildV tab rfl rfl rfl rfl rfl rfl rfl rfl rfl) rfl ?_
              refine goG rfl rfl ?_
              refine pu (ev tab rfl) rfl ?_
              refine goG rfl rfl ?_
              first | refine pu (ev tab rfl) rfl ?_ | refine pu (loadRow tab rfl rfl rfl rfl) rfl ?_ | refine pu (loadBox tab rfl rfl rfl rfl rfl) rfl ?_
              refine goG rfl rfl ?_
              refine pu (puCall rfl rfl rfl (contains_fn [wSum, wMin, wMax, wFirst] x.fn) rfl) rfl ?_
              refine goG rfl rfl ?_
              iterate 3 refine pu (ev tab rfl) rfl ?_
              apply splitJ; (case hj => rfl); (case hl => rfl)
              · skip
                refine skipT rfl rfl rfl rfl ?_
                refine skipT rfl rfl rfl rfl ?_
                refine skipT rfl rfl rfl rfl ?_
                refine skipT rfl rfl rfl rfl ?_
                refine skipT rfl rfl rfl rfl ?_
                refine pu (ev tab rfl) rfl ?_
                refine WO.nil ?_
                refine qv1 rfl rfl rfl
              · skip
                refine goG rfl rfl ?_
                refine pu (ev tab rfl) rfl ?_
                refine goG rfl rfl ?_
                refine pu (ev tab rfl) rfl ?_
                refine goG rfl rfl ?_
                first | refine pu (ev tab rfl) rfl ?_ | refine pu (loadRow tab rfl rfl rfl rfl) rfl ?_ | refine pu (loadBox tab rfl rfl rfl rfl rfl) rfl ?_
                refine goG rfl rfl ?_
                refine pu (ev tab rfl) rfl ?_
                refine goG rfl rfl ?_
                iterate 2 refine pu (ev tab rfl) rfl ?_
                refine WO.nil ?_
                refine qv1 rfl rfl rfl
            · skip
              refine skipT rfl rfl rfl rfl ?_
              refine skipT rfl rfl rfl rfl ?_
              refine skipT rfl rfl rfl rfl ?_
              refine skipT rfl rfl rfl rfl ?_
              refine skipT rfl rfl rfl rfl ?_
              iterate 2 refine pu (ev tab rfl) rfl ?_
              refine goG rfl rfl ?_
              refine pu (ev tab rfl) rfl ?_
              refine goG rfl rfl ?_
              refine pu (ev tab rfl) rfl ?_
              refine goG rfl rfl ?_
              first | refine pu (ev tab rfl) rfl ?_ | refine pu (loadRow tab rfl rfl rfl rfl) rfl ?_ | refine pu (loadBox tab rfl rfl rfl rfl rfl) rfl ?_
              refine goG rfl rfl ?_
              refine pu (ev tab rfl) rfl ?_
              refine goG rfl rfl ?_
              iterate 2 refine pu (ev tab rfl) rfl ?_
              refine WO.nil ?_
              refine qv1 rfl rfl rfl
          refine qs ?_
          refine condK rfl (fun h60 => ?_) (fun h60 => ?_)
          · skip
            have h60 : badAgg x = true := by revert h60; simp only [badAgg, knownAgg, wCount]; by_cases q : x.fn = B #[99, 111, 117, 110, 116] <;> by_cases q2 : x.col = B #[] <;> simp [q, q2] <;> grind
            rw [if_pos h60] at hI
            refine W.seq ?_
            refine W.region ?_
            refine pu (ev tab rfl) rfl ?_
            refine WO.nil ?_
            refine qs ?_
            refine W.ret ?_
            refine qsRet ?_
            refine qbRet ?_
            refine qsRet ?_
            refine qlRet ?_
            refine qbRet ?_
            refine qsRet ?_
            refine QF.ret0 trivial rfl ?_
            rw [hge, ← hI]; rfl
          · skip
            have h60 : ¬ (badAgg x = true) := by revert h60; simp only [badAgg, knownAgg, wCount]; by_cases q : x.fn = B #[99, 111, 117, 110, 116] <;> by_cases q2 : x.col = B #[] <;> simp [q, q2] <;> grind
            rw [if_neg h60] at hI
            refine W.skip ?_
            refine qs ?_
            refine W.seq ?_
            refine W.seq ?_
            apply regionB; (case hb => rfl)
            · skip
              refine pu (ev tab rfl) rfl ?_
              first | refine pu (ev tab rfl) rfl ?_ | refine pu (loadRow tab rfl rfl rfl rfl) rfl ?_ | refine pu (loadBox tab rfl rfl rfl rfl rfl) rfl ?_
              iterate 2 refine pu (ev tab rfl) rfl ?_
              apply splitJ; (case hj => rfl); (case hl => rfl)
              · skip
                refine goG rfl rfl ?_
                refine pu (ev tab rfl) rfl ?_
                refine goG rfl rfl ?_
                first | refine pu (ev tab rfl) rfl ?_ | refine pu (loadRow tab rfl rfl rfl rfl) rfl ?_ | refine pu (loadBox tab rfl rfl rfl rfl rfl) rfl ?_
                refine goG rfl rfl ?_
                refine pu (puCall rfl rfl rfl (identifier_fn ..) rfl) rfl ?_
                refine goG rfl rfl ?_
                iterate 2 refine pu (ev tab rfl) rfl ?_
                refine WO.nil ?_
                refine qv1 rfl rfl rfl
              · skip
                refine skipT rfl rfl rfl rfl ?_
                refine skipT rfl rfl rfl rfl ?_
                refine skipT rfl rfl rfl rfl ?_
                refine skipT rfl rfl rfl rfl ?_
                refine pu (ev tab rfl) rfl ?_
                refine WO.nil ?_
                refine qv1 rfl rfl rfl
            refine qs ?_
            refine condK rfl (fun h69 => ?_) (fun h69 => ?_)
            · skip
              have h69 : x.col ≠ B #[] ∧ identB x.col = false := by revert h69; by_cases q2 : x.col = B #[] <;> simp [q2]
              rw [if_pos h69] at hI
              refine W.seq ?_
              refine W.region ?_
              refine pu (ev tab rfl) rfl ?_
              refine WO.nil ?_
              refine qs ?_
              refine W.ret ?_
              refine qsRet ?_
              refine qbRet ?_
              refine qsRet ?_
              refine qlRet ?_
              refine qbRet ?_
              refine qsRet ?_
              refine QF.ret0 trivial rfl ?_
              rw [hge, ← hI]; rfl
            · skip
              have h69 : ¬ (x.col ≠ B #[] ∧ identB x.col = false) := by revert h69; by_cases q2 : x.col = B #[] <;> simp [q2]
              rw [if_neg h69] at hI
              refine W.skip ?_
              refine qs ?_
              refine W.seq ?_
              refine W.region ?_
              refine pu (ev tab rfl) rfl ?_
              first | refine pu (ev tab rfl) rfl ?_ | refine pu (loadRow tab rfl rfl rfl rfl) rfl ?_ | refine pu (loadBox tab rfl rfl rfl rfl rfl) rfl ?_
              refine callB [0] [1] rfl rfl rfl rfl rfl ((add_fn ns x.name (by omega))) rfl rfl (by rfl) (by rfl) rfl rfl rfl rfl ?_
              refine pu (ev tab rfl) rfl ?_
              refine WO.nil ?_
              refine qs ?_
              refine W.seq ?_
              refine W.region ?_
              iterate 2 refine pu (ev tab rfl) rfl ?_
              refine WO.nil ?_
              refine qs ?_
              refine condK rfl (fun h74 => ?_) (fun h74 => ?_)
              · skip
                rw [if_pos (by simpa using h74)] at hI
                refine W.seq ?_
                refine W.region ?_
                iterate 2 refine pu (ev tab rfl) rfl ?_
                refine WO.nil ?_
                refine qs ?_
                refine W.ret ?_
                refine qbRet ?_
                refine qsRet ?_
                refine qlRet ?_
                refine qbRet ?_
                refine qsRet ?_
                refine QF.ret0 trivial rfl ?_
                rw [hge, ← hI]; rfl
              · skip
                have h74 : addErr ns x.name = 0 := by simpa using h74
                rw [if_neg (by simp [h74])] at hI
                have hto : addTo ns x.name = ns ++ [x.name] := by simp [addTo, h74]
                refine W.skip ?_
                refine qbN ?_
                refine qs ?_
                refine W.region ?_
                iterate 2 refine pu (ev tab rfl) rfl ?_
                refine WO.nil ?_
                refine W.endR [0, 4] ⟨(k + 1, addTo ns x.name), ?_⟩ ?_ rfl ?_ ⟨rfl, rfl, rfl, rfl, trivial⟩ ?_ trivial rfl
                · refine ⟨hlt, ?_, ?_⟩
                  · rw [hto]; exact hI
                  · rw [hto]; simp; omega
                · dsimp only; omega
                · repeat' first | exact trivial | refine ⟨rfl, ?_⟩ | refine ⟨step_nat (by assumption) (by assumption), ?_⟩
                · repeat' first | exact trivial | refine ⟨rfl, ?_⟩ | refine ⟨step_nat (by assumption) (by assumption), ?_⟩
        · skip
          rw [hd] at hI
          simp only [aggErr] at hI
          refine W.exit ?_
          refine qsExit ?_
          refine qlExit ?_
          refine qbExit ?_
          refine qs ?_
          refine W.seq ?_
          refine W.region ?_
          refine pu (ev tab rfl) rfl ?_
          refine WO.nil ?_
          refine qs ?_
          refine W.ret ?_
          refine QF.ret0 trivial rfl ?_
          rw [hge, ← hI]; rfl
end Go.Proofs.Ytlmgnlhagpoggaa
namespace Go.Proofs.Ytlmgnlhagpoggaa
open Go.Ab Go.Tb
set_option maxRecDepth 10000
attribute [local irreducible] W WO Pu QS QB QL QF QV QV1 CH QE
theorem uses_fn (s : Stp) : Does Try.prog 34 [.ag s.c] (.d (.v (.bool (usesB s)))) 0 := by
  refine Does.of_W (n := 83) (ts := [2]) Try.func34 (by kernel_rfl) rfl Try.ntmps34 Try.results34 rfl rfl fun C hC hG => ?_
  refine W.seq ?_
  refine W.region ?_
  refine boxR rfl rfl rfl ?_
  refine pu (ev tab rfl) rfl ?_
  refine WO.nil ?_
  refine qs ?_
  refine W.seq ?_
  refine W.region ?_
  iterate 2 refine pu (ev tab rfl) rfl ?_
  refine WO.nil ?_
  refine qs ?_
  refine W.seq ?_
  refine W.block ?_
  refine W.seq ?_
  apply regionB; (case hb => rfl)
  · skip
    refine pu (ev tab rfl) rfl ?_
    first | refine pu (ev tab rfl) rfl ?_ | refine pu (loadRow tab rfl rfl rfl rfl) rfl ?_ | refine pu (loadBox tab rfl rfl rfl rfl rfl) rfl ?_
    iterate 2 refine pu (ev tab rfl) rfl ?_
    apply splitJ; (case hj => rfl); (case hl => rfl)
    · skip
      refine skipT rfl rfl rfl rfl ?_
      refine skipT rfl rfl rfl rfl ?_
      refine skipT rfl rfl rfl rfl ?_
      iterate 2 refine pu (ev tab rfl) rfl ?_
      refine WO.nil ?_
      refine qv1 rfl rfl rfl
    · skip
      refine goG rfl rfl ?_
      refine pu (ev tab rfl) rfl ?_
      refine goG rfl rfl ?_
      first | refine pu (ev tab rfl) rfl ?_ | refine pu (loadRow tab rfl rfl rfl rfl) rfl ?_ | refine pu (loadBox tab rfl rfl rfl rfl rfl) rfl ?_
      refine goG rfl rfl ?_
      iterate 3 refine pu (ev tab rfl) rfl ?_
      refine WO.nil ?_
      refine qv1 rfl rfl rfl
  refine qs ?_
  refine condK rfl (fun h5 => ?_) (fun h5 => ?_)
  · skip
    refine W.seq ?_
    refine W.region ?_
    refine pu (ev tab rfl) rfl ?_
    refine WO.nil ?_
    refine qs ?_
    refine W.ret ?_
    refine qbRet ?_
    refine qsRet ?_
    refine QF.ret0 trivial rfl ?_
    simp only [norm, oneA, List.length_map, List.any_cons, List.any_nil, Bool.or_false] at *; congr 3; simp only [usesB, tableOp]; grind
  · skip
    refine W.seq ?_
    refine W.seq ?_
    apply regionB; (case hb => rfl)
    · skip
      refine pu (ev tab rfl) rfl ?_
      refine pu (buildV tab rfl rfl rfl rfl rfl rfl rfl rfl rfl) rfl ?_
      refine pu (puCall rfl rfl rfl (uses1_fn [1] s) rfl) rfl ?_
      iterate 2 refine pu (ev tab rfl) rfl ?_
      apply splitJ; (case hj => rfl); (case hl => rfl)
      · skip
        refine goG rfl rfl ?_
        refine pu (ev tab rfl) rfl ?_
        refine goG rfl rfl ?_
        first | refine pu (ev tab rfl) rfl ?_ | refine pu (loadRow tab rfl rfl rfl rfl) rfl ?_ | refine pu (loadBox tab rfl rfl rfl rfl rfl) rfl ?_
        refine goG rfl rfl ?_
        refine pu (puCall rfl rfl rfl (zero_fn s.cond) rfl) rfl ?_
        refine goG rfl rfl ?_
        iterate 3 refine pu (ev tab rfl) rfl ?_
        refine WO.nil ?_
        refine qv1 rfl rfl rfl
      · skip
        refine skipT rfl rfl rfl rfl ?_
        refine skipT rfl rfl rfl rfl ?_
        refine skipT rfl rfl rfl rfl ?_
        refine skipT rfl rfl rfl rfl ?_
        iterate 2 refine pu (ev tab rfl) rfl ?_
        refine WO.nil ?_
        refine qv1 rfl rfl rfl
    refine qs ?_
    refine condK rfl (fun h14 => ?_) (fun h14 => ?_)
    · skip
      refine W.skip ?_
      refine qs ?_
      refine W.condT rfl ?_
      refine W.seq ?_
      refine W.region ?_
      refine pu (ev tab rfl) rfl ?_
      refine WO.nil ?_
      refine qs ?_
      refine W.ret ?_
      refine qbRet ?_
      refine qsRet ?_
      refine QF.ret0 trivial rfl ?_
      simp only [norm, oneA, List.length_map, List.any_cons, List.any_nil, Bool.or_false] at *; congr 3; simp only [usesB, tableOp]; grind
    · skip
      refine W.seq ?_
      apply regionB; (case hb => rfl)
      · skip
        refine pu (ev tab rfl) rfl ?_
        refine pu (buildV tab rfl rfl rfl rfl rfl rfl rfl rfl rfl) rfl ?_
        refine pu (puCall rfl rfl rfl (uses1_fn [2] s) rfl) rfl ?_
        iterate 2 refine pu (ev tab rfl) rfl ?_
        apply splitJ; (case hj => rfl); (case hl => rfl)
        · skip
          refine goG rfl rfl ?_
          refine pu (ev tab rfl) rfl ?_
          refine goG rfl rfl ?_
          first | refine pu (ev tab rfl) rfl ?_ | refine pu (loadRow tab rfl rfl rfl rfl) rfl ?_ | refine pu (loadBox tab rfl rfl rfl rfl rfl) rfl ?_
          refine goG rfl rfl ?_
          refine pu (ev tab rfl) rfl ?_
          refine goG rfl rfl ?_
          iterate 3 refine pu (ev tab rfl) rfl ?_
          refine WO.nil ?_
          refine qv1 rfl rfl rfl
        · skip
          refine skipT rfl rfl rfl rfl ?_
          refine skipT rfl rfl rfl rfl ?_
          refine skipT rfl rfl rfl rfl ?_
          refine skipT rfl rfl rfl rfl ?_
          iterate 2 refine pu (ev tab rfl) rfl ?_
          refine WO.nil ?_
          refine qv1 rfl rfl rfl
      refine qs ?_
      refine condK rfl (fun h14 => ?_) (fun h14 => ?_)
      · skip
        refine W.skip ?_
        refine qs ?_
        refine W.condT rfl ?_
        refine W.seq ?_
        refine W.region ?_
        refine pu (ev tab rfl) rfl ?_
        refine WO.nil ?_
        refine qs ?_
        refine W.ret ?_
        refine qbRet ?_
        refine qsRet ?_
        refine QF.ret0 trivial rfl ?_
        simp only [norm, oneA, List.length_map, List.any_cons, List.any_nil, Bool.or_false] at *; congr 3; simp only [usesB, tableOp]; grind
      · skip
        refine W.seq ?_
        apply regionB; (case hb => rfl)
        · skip
          refine pu (ev tab rfl) rfl ?_
          refine pu (buildV tab rfl rfl rfl rfl rfl rfl rfl rfl rfl) rfl ?_
          refine pu (puCall rfl rfl rfl (uses1_fn [3] s) rfl) rfl ?_
          iterate 2 refine pu (ev tab rfl) rfl ?_
          apply splitJ; (case hj => rfl); (case hl => rfl)
          · skip
            refine goG rfl rfl ?_
            refine pu (ev tab rfl) rfl ?_
            refine goG rfl rfl ?_
            first | refine pu (ev tab rfl) rfl ?_ | refine pu (loadRow tab rfl rfl rfl rfl) rfl ?_ | refine pu (loadBox tab rfl rfl rfl rfl rfl) rfl ?_
            refine goG rfl rfl ?_
            refine pu (ev tab rfl) rfl ?_
            refine goG rfl rfl ?_
            iterate 3 refine pu (ev tab rfl) rfl ?_
            refine WO.nil ?_
            refine qv1 rfl rfl rfl
          · skip
            refine skipT rfl rfl rfl rfl ?_
            refine skipT rfl rfl rfl rfl ?_
            refine skipT rfl rfl rfl rfl ?_
            refine skipT rfl rfl rfl rfl ?_
            iterate 2 refine pu (ev tab rfl) rfl ?_
            refine WO.nil ?_
            refine qv1 rfl rfl rfl
        refine qs ?_
        refine condK rfl (fun h14 => ?_) (fun h14 => ?_)
        · skip
          refine W.skip ?_
          refine qs ?_
          refine W.condT rfl ?_
          refine W.seq ?_
          refine W.region ?_
          refine pu (ev tab rfl) rfl ?_
          refine WO.nil ?_
          refine qs ?_
          refine W.ret ?_
          refine qbRet ?_
          refine qsRet ?_
          refine QF.ret0 trivial rfl ?_
          simp only [norm, oneA, List.length_map, List.any_cons, List.any_nil, Bool.or_false] at *; congr 3; simp only [usesB, tableOp]; grind
        · skip
          refine W.seq ?_
          apply regionB; (case hb => rfl)
          · skip
            refine pu (ev tab rfl) rfl ?_
            refine pu (buildV tab rfl rfl rfl rfl rfl rfl rfl rfl rfl) rfl ?_
            refine pu (puCall rfl rfl rfl (uses1_fn [4] s) rfl) rfl ?_
            iterate 2 refine pu (ev tab rfl) rfl ?_
            apply splitJ; (case hj => rfl); (case hl => rfl)
            · skip
              refine goG rfl rfl ?_
              refine pu (ev tab rfl) rfl ?_
              refine goG rfl rfl ?_
              first | refine pu (ev tab rfl) rfl ?_ | refine pu (loadRow tab rfl rfl rfl rfl) rfl ?_ | refine pu (loadBox tab rfl rfl rfl rfl rfl) rfl ?_
              refine goG rfl rfl ?_
              refine pu (ev tab rfl) rfl ?_
              refine goG rfl rfl ?_
              iterate 3 refine pu (ev tab rfl) rfl ?_
              refine WO.nil ?_
              refine qv1 rfl rfl rfl
            · skip
              refine skipT rfl rfl rfl rfl ?_
              refine skipT rfl rfl rfl rfl ?_
              refine skipT rfl rfl rfl rfl ?_
              refine skipT rfl rfl rfl rfl ?_
              iterate 2 refine pu (ev tab rfl) rfl ?_
              refine WO.nil ?_
              refine qv1 rfl rfl rfl
          refine qs ?_
          refine condK rfl (fun h14 => ?_) (fun h14 => ?_)
          · skip
            refine W.skip ?_
            refine qs ?_
            refine W.condT rfl ?_
            refine W.seq ?_
            refine W.region ?_
            refine pu (ev tab rfl) rfl ?_
            refine WO.nil ?_
            refine qs ?_
            refine W.ret ?_
            refine qbRet ?_
            refine qsRet ?_
            refine QF.ret0 trivial rfl ?_
            simp only [norm, oneA, List.length_map, List.any_cons, List.any_nil, Bool.or_false] at *; congr 3; simp only [usesB, tableOp]; grind
          · skip
            apply regionB; (case hb => rfl)
            · skip
              refine pu (ev tab rfl) rfl ?_
              refine pu (buildV tab rfl rfl rfl rfl rfl rfl rfl rfl rfl) rfl ?_
              refine pu (puCall rfl rfl rfl (uses1_fn [5] s) rfl) rfl ?_
              iterate 2 refine pu (ev tab rfl) rfl ?_
              apply splitJ; (case hj => rfl); (case hl => rfl)
              · skip
                refine goG rfl rfl ?_
                refine pu (ev tab rfl) rfl ?_
                refine goG rfl rfl ?_
                first | refine pu (ev tab rfl) rfl ?_ | refine pu (loadRow tab rfl rfl rfl rfl) rfl ?_ | refine pu (loadBox tab rfl rfl rfl rfl rfl) rfl ?_
                refine goG rfl rfl ?_
                iterate 3 refine pu (ev tab rfl) rfl ?_
                refine WO.nil ?_
                refine qv1 rfl rfl rfl
              · skip
                refine skipT rfl rfl rfl rfl ?_
                refine skipT rfl rfl rfl rfl ?_
                refine skipT rfl rfl rfl rfl ?_
                iterate 2 refine pu (ev tab rfl) rfl ?_
                refine WO.nil ?_
                refine qv1 rfl rfl rfl
            refine qs ?_
            refine condK rfl (fun h14 => ?_) (fun h14 => ?_)
            · skip
              refine W.seq ?_
              refine W.region ?_
              refine pu (ev tab rfl) rfl ?_
              refine WO.nil ?_
              refine qs ?_
              refine W.ret ?_
              refine qbRet ?_
              refine qsRet ?_
              refine QF.ret0 trivial rfl ?_
              simp only [norm, oneA, List.length_map, List.any_cons, List.any_nil, Bool.or_false] at *; congr 3; simp only [usesB, tableOp]; grind
            · skip
              refine W.seq ?_
              apply regionB; (case hb => rfl)
              · skip
                refine pu (ev tab rfl) rfl ?_
                refine pu (buildV tab rfl rfl rfl rfl rfl rfl rfl rfl rfl) rfl ?_
                refine pu (puCall rfl rfl rfl (uses1_fn [6, 7, 8] s) rfl) rfl ?_
                iterate 2 refine pu (ev tab rfl) rfl ?_
                apply splitJ; (case hj => rfl); (case hl => rfl)
                · skip
                  refine goG rfl rfl ?_
                  refine pu (ev tab rfl) rfl ?_
                  refine goG rfl rfl ?_
                  first | refine pu (ev tab rfl) rfl ?_ | refine pu (loadRow tab rfl rfl rfl rfl) rfl ?_ | refine pu (loadBox tab rfl rfl rfl rfl rfl) rfl ?_
                  refine goG rfl rfl ?_
                  iterate 3 refine pu (ev tab rfl) rfl ?_
                  refine WO.nil ?_
                  refine qv1 rfl rfl rfl
                · skip
                  refine skipT rfl rfl rfl rfl ?_
                  refine skipT rfl rfl rfl rfl ?_
                  refine skipT rfl rfl rfl rfl ?_
                  iterate 2 refine pu (ev tab rfl) rfl ?_
                  refine WO.nil ?_
                  refine qv1 rfl rfl rfl
              refine qs ?_
              refine condK rfl (fun h64 => ?_) (fun h64 => ?_)
              · skip
                refine W.seq ?_
                refine W.region ?_
                refine pu (ev tab rfl) rfl ?_
                refine WO.nil ?_
                refine qs ?_
                refine W.ret ?_
                refine qbRet ?_
                refine qsRet ?_
                refine QF.ret0 trivial rfl ?_
                simp only [norm, oneA, List.length_map, List.any_cons, List.any_nil, Bool.or_false] at *; congr 3; simp only [usesB, tableOp]; grind
              · skip
                refine W.skip ?_
                refine qbN ?_
                refine qs ?_
                refine W.seq ?_
                apply regionB; (case hb => rfl)
                · skip
                  refine pu (ev tab rfl) rfl ?_
                  refine pu (buildV tab rfl rfl rfl rfl rfl rfl rfl rfl rfl) rfl ?_
                  refine pu (puCall rfl rfl rfl (uses1_fn [3, 6, 7, 8, 9] s) rfl) rfl ?_
                  refine pu (ev tab rfl) rfl ?_
                  apply splitJ; (case hj => rfl); (case hl => rfl)
                  · skip
                    refine skipT rfl rfl rfl rfl ?_
                    refine skipT rfl rfl rfl rfl ?_
                    refine skipT rfl rfl rfl rfl ?_
                    refine skipT rfl rfl rfl rfl ?_
                    iterate 2 refine pu (ev tab rfl) rfl ?_
                    refine WO.nil ?_
                    refine qv1 rfl rfl rfl
                  · skip
                    refine goG rfl rfl ?_
                    refine pu (ev tab rfl) rfl ?_
                    refine goG rfl rfl ?_
                    first | refine pu (ev tab rfl) rfl ?_ | refine pu (loadRow tab rfl rfl rfl rfl) rfl ?_ | refine pu (loadBox tab rfl rfl rfl rfl rfl) rfl ?_
                    refine goG rfl rfl ?_
                    refine pu (ev tab rfl) rfl ?_
                    refine goG rfl rfl ?_
                    iterate 3 refine pu (ev tab rfl) rfl ?_
                    refine WO.nil ?_
                    refine qv1 rfl rfl rfl
                refine qs ?_
                refine W.ret ?_
                refine QF.ret0 trivial rfl ?_
                simp only [norm, oneA, List.length_map, List.any_cons, List.any_nil, Bool.or_false] at *; congr 3; simp only [usesB, tableOp]; grind

theorem step_fn (s : Stp) (hs : s.sorts.length ≤ 100000) : Does Try.prog 19 [.ag s.c] (.d (.v (.int .i64 (stepErr s)))) 0 := by
  refine Does.of_W (n := 77) (ts := [2]) Try.func19 (by kernel_rfl) rfl Try.ntmps19 Try.results19 rfl rfl fun C hC hG => ?_
  refine W.seq ?_
  refine W.region ?_
  refine boxR rfl rfl rfl ?_
  refine pu (ev tab rfl) rfl ?_
  refine WO.nil ?_
  refine qs ?_
  refine W.seq ?_
  refine W.seq ?_
  refine W.region ?_
  first | refine pu (ev tab rfl) rfl ?_ | refine pu (loadRow tab rfl rfl rfl rfl) rfl ?_ | refine pu (loadBox tab rfl rfl rfl rfl rfl) rfl ?_
  refine pu (puCall rfl rfl rfl (uses_fn s) rfl) rfl ?_
  refine pu (ev tab rfl) rfl ?_
  refine WO.nil ?_
  refine qs ?_
  refine condK rfl (fun h10 => ?_) (fun h10 => ?_)
  · skip
    have h10 : usesB s = false := by simpa using h10
    refine W.seq ?_
    refine W.region ?_
    refine pu (ev tab rfl) rfl ?_
    refine WO.nil ?_
    refine qs ?_
    refine W.ret ?_
    refine qsRet ?_
    refine QF.ret0 trivial rfl ?_
    simp only [norm, oneA, List.length_map] at *; grind [stepErr]
  · skip
    have h10 : usesB s = true := by simpa using h10
    refine W.skip ?_
    refine qs ?_
    refine W.seq ?_
    refine W.seq ?_
    refine W.region ?_
    refine pu (ev tab rfl) rfl ?_
    first | refine pu (ev tab rfl) rfl ?_ | refine pu (loadRow tab rfl rfl rfl rfl) rfl ?_ | refine pu (loadBox tab rfl rfl rfl rfl rfl) rfl ?_
    refine WO.nil ?_
    refine qs ?_
    refine W.block ?_
    refine W.seq ?_
    refine W.region ?_
    iterate 2 refine pu (ev tab rfl) rfl ?_
    refine WO.nil ?_
    refine qs ?_
    refine condK rfl (fun h13 => ?_) (fun h13 => ?_)
    · skip
      refine W.seq ?_
      refine W.region ?_
      refine pu (ev tab rfl) rfl ?_
      first | refine pu (ev tab rfl) rfl ?_ | refine pu (loadRow tab rfl rfl rfl rfl) rfl ?_ | refine pu (loadBox tab rfl rfl rfl rfl rfl) rfl ?_
      refine pu (puCall rfl rfl rfl (expr_fn s.cond) rfl) rfl ?_
      refine pu (ev tab rfl) rfl ?_
      refine WO.nil ?_
      refine qs ?_
      refine W.ret ?_
      refine qbRet ?_
      refine qsRet ?_
      refine QF.ret0 trivial rfl ?_
      simp only [norm, oneA, List.length_map] at *; grind [stepErr]
    · skip
      refine W.seq ?_
      refine W.region ?_
      iterate 2 refine pu (ev tab rfl) rfl ?_
      refine WO.nil ?_
      refine qs ?_
      refine condK rfl (fun h18 => ?_) (fun h18 => ?_)
      · skip
        refine W.seq ?_
        refine W.seq ?_
        refine W.region ?_
        refine pu (ev tab rfl) rfl ?_
        first | refine pu (ev tab rfl) rfl ?_ | refine pu (loadRow tab rfl rfl rfl rfl) rfl ?_ | refine pu (loadBox tab rfl rfl rfl rfl rfl) rfl ?_
        refine pu (ev tab rfl) rfl ?_
        refine pu (puCall rfl rfl rfl (size_fn ..) rfl) rfl ?_
        refine pu (ev tab rfl) rfl ?_
        refine WO.nil ?_
        refine qs ?_
        refine W.seq ?_
        refine W.region ?_
        iterate 2 refine pu (ev tab rfl) rfl ?_
        refine WO.nil ?_
        refine qs ?_
        refine condK rfl (fun h25 => ?_) (fun h25 => ?_)
        · skip
          refine W.seq ?_
          refine W.region ?_
          iterate 2 refine pu (ev tab rfl) rfl ?_
          refine WO.nil ?_
          refine qs ?_
          refine W.ret ?_
          refine qsRet ?_
          refine qbRet ?_
          refine qsRet ?_
          refine QF.ret0 trivial rfl ?_
          simp only [norm, oneA, List.length_map] at *; grind [stepErr]
        · skip
          have h25 : sizeErr s.items.length 1 = 0 := by simpa using h25
          have hl16 : s.items.length ≤ 16 := by unfold sizeErr at h25; split at h25; omega; split at h25 <;> omega
          refine W.skip ?_
          refine qs ?_
          refine W.seq ?_
          refine W.region ?_
          refine pu (ev tab rfl) rfl ?_
          first | refine pu (ev tab rfl) rfl ?_ | refine pu (loadRow tab rfl rfl rfl rfl) rfl ?_ | refine pu (loadBox tab rfl rfl rfl rfl rfl) rfl ?_
          refine pu (puCall rfl rfl rfl (items_fn s.items hl16) rfl) rfl ?_
          refine pu (ev tab rfl) rfl ?_
          refine WO.nil ?_
          refine qs ?_
          refine W.ret ?_
          refine qbRet ?_
          refine qsRet ?_
          refine QF.ret0 trivial rfl ?_
          simp only [norm, oneA, List.length_map] at *; grind [stepErr]
      · skip
        refine W.seq ?_
        refine W.region ?_
        iterate 2 refine pu (ev tab rfl) rfl ?_
        refine WO.nil ?_
        refine qs ?_
        refine condK rfl (fun h30 => ?_) (fun h30 => ?_)
        · skip
          refine W.seq ?_
          refine W.region ?_
          first | refine pu (ev tab rfl) rfl ?_ | refine pu (loadRow tab rfl rfl rfl rfl) rfl ?_ | refine pu (loadBox tab rfl rfl rfl rfl rfl) rfl ?_
          refine pu (puCall rfl rfl rfl (group_fn s) rfl) rfl ?_
          refine pu (ev tab rfl) rfl ?_
          refine WO.nil ?_
          refine qs ?_
          refine W.ret ?_
          refine qbRet ?_
          refine qsRet ?_
          refine QF.ret0 trivial rfl ?_
          simp only [norm, oneA, List.length_map] at *; grind [stepErr]
        · skip
          refine W.seq ?_
          refine W.region ?_
          iterate 2 refine pu (ev tab rfl) rfl ?_
          refine WO.nil ?_
          refine qs ?_
          refine condK rfl (fun h34 => ?_) (fun h34 => ?_)
          · skip
            refine W.seq ?_
            refine W.region ?_
            refine pu (ev tab rfl) rfl ?_
            refine WO.nil ?_
            refine qs ?_
            refine W.seq ?_
            refine W.seq ?_
            refine W.region ?_
            refine pu (ev tab rfl) rfl ?_
            first | refine pu (ev tab rfl) rfl ?_ | refine pu (loadRow tab rfl rfl rfl rfl) rfl ?_ | refine pu (loadBox tab rfl rfl rfl rfl rfl) rfl ?_
            iterate 2 refine pu (ev tab rfl) rfl ?_
            refine WO.nil ?_
            refine qs ?_
            refine W.block ?_
            refine ownNilR (d := 4) rfl rfl ?_
            refine W.len (t := 37) rfl rfl (fun hlen => ?_)
            try simp only [List.length_map, Ex.kc_len] at hlen
            refine W.loopR (ι := {x : Nat × List ByteArray // match x with | (k, ns) => k ≤ s.sorts.length ∧ ns = (s.sorts.take k).map Srt.col})
              (fun x => match x.1 with | (k, ns) => [(4, .own 0 (ns.map sc)), (39, .d (.v (.int .i64 ((k : Nat) : Int))))]) [(37, _), (38, _)]
              (fun x => match x.1 with | (k, ns) => []) [] [0] 1 (fun x => match x.1 with | (k, ns) => s.sorts.length - k)
              [1] ⟨(0, []), ?_⟩ rfl ?_ ⟨rfl, rfl, rfl, rfl, trivial⟩ ?_ trivial rfl ?_
            · exact ⟨Nat.zero_le _, rfl⟩
            · repeat' first | exact trivial | refine ⟨rfl, ?_⟩ | refine ⟨step_nat (by assumption) (by assumption), ?_⟩
            · repeat' first | exact trivial | refine ⟨rfl, ?_⟩ | refine ⟨step_nat (by assumption) (by assumption), ?_⟩
            rintro ⟨⟨k, ns⟩, hk, hI⟩
            show W _ _ _ _ _ ⟨[(4, .own 0 (ns.map sc)), (39, .d (.v (.int .i64 ((k : Nat) : Int)))), (37, _), (38, _)], [], [0], 1⟩
            refine W.seq ?_
            refine W.region ?_
            refine pu (ev tab rfl) rfl ?_
            refine WO.nil ?_
            refine qs ?_
            refine W.seq ?_
            refine eachR (l := s.sorts) (k := k) rfl (by simp [Ex.kc_len, bytes_len]) hk (fun x hx hd hlt => ?_) (fun he hd => ?_)
            · skip
              have hnl : ns.length = k := by rw [hI]; simp; omega
              refine W.skip ?_
              refine qs ?_
              refine W.seq ?_
              refine W.block ?_
              refine W.seq ?_
              refine W.region ?_
              refine pu (indexAddr tab rfl rfl rfl rfl rfl rfl (Int.natCast_nonneg _) (idx_map hx) rfl) rfl ?_
              first | refine pu (ev tab rfl) rfl ?_ | refine pu (loadRow tab rfl rfl rfl rfl) rfl ?_ | refine pu (loadBox tab rfl rfl rfl rfl rfl) rfl ?_
              refine allocR tab rfl rfl rfl ?_
              refine storeR tab rfl rfl rfl rfl rfl rfl rfl rfl ?_
              refine WO.nil ?_
              refine qs ?_
              refine W.region ?_
              iterate 2 refine pu (ev tab rfl) rfl ?_
              first | refine pu (ev tab rfl) rfl ?_ | refine pu (loadRow tab rfl rfl rfl rfl) rfl ?_ | refine pu (loadBox tab rfl rfl rfl rfl rfl) rfl ?_
              refine pu (buildV tab rfl rfl rfl rfl rfl rfl rfl rfl rfl) rfl ?_
              refine appendM tab rfl rfl rfl rfl rfl rfl rfl rfl rfl rfl (fun _ => rfl) (by show (ns.length + 1) * 16 ≤ _; omega) ?_
              refine pu (ev tab rfl) rfl ?_
              refine WO.nil ?_
              refine qbN ?_
              refine qs ?_
              refine W.region ?_
              iterate 2 refine pu (ev tab rfl) rfl ?_
              refine WO.nil ?_
              refine W.endR [2] ⟨(k + 1, ns ++ [x.col]), ?_⟩ ?_ rfl ?_ ⟨rfl, rfl, rfl, rfl, trivial⟩ ?_ trivial rfl
              · exact ⟨hlt, by rw [hI, List.take_add_one, hx]; simp⟩
              · dsimp only; omega
              · repeat' first | exact trivial | refine ⟨rfl, ?_⟩ | refine ⟨step_nat (by assumption) (by assumption), ?_⟩
              · repeat' first | exact trivial | refine ⟨rfl, ?_⟩ | refine ⟨step_nat (by assumption) (by assumption), ?_⟩
            · skip
              have hns : ns = s.sorts.map Srt.col := by rw [hI, he, List.take_length]
              refine W.exit ?_
              refine qsExit ?_
              refine qlExit ?_
              refine qbExit ?_
              refine qs ?_
              refine W.seq ?_
              refine W.region ?_
              refine pu (ev tab rfl) rfl ?_
              refine pu (puCall rfl rfl rfl (columns_fn ns 1) rfl) rfl ?_
              refine pu (ev tab rfl) rfl ?_
              refine WO.nil ?_
              refine qs ?_
              refine W.ret ?_
              refine qbRet ?_
              refine qsRet ?_
              refine QF.ret0 trivial rfl ?_
              simp only [norm, oneA, List.length_map] at *; grind [stepErr]
          · skip
            refine W.seq ?_
            refine W.region ?_
            iterate 2 refine pu (ev tab rfl) rfl ?_
            refine WO.nil ?_
            refine qs ?_
            refine condK rfl (fun h51 => ?_) (fun h51 => ?_)
            · skip
              refine W.seq ?_
              refine W.seq ?_
              apply regionB; (case hb => rfl)
              · skip
                refine pu (ev tab rfl) rfl ?_
                first | refine pu (ev tab rfl) rfl ?_ | refine pu (loadRow tab rfl rfl rfl rfl) rfl ?_ | refine pu (loadBox tab rfl rfl rfl rfl rfl) rfl ?_
                iterate 2 refine pu (ev tab rfl) rfl ?_
                apply splitJ; (case hj => rfl); (case hl => rfl)
                · skip
                  refine skipT rfl rfl rfl rfl ?_
                  refine skipT rfl rfl rfl rfl ?_
                  refine skipT rfl rfl rfl rfl ?_
                  refine pu (ev tab rfl) rfl ?_
                  refine WO.nil ?_
                  refine qv1 rfl rfl rfl
                · skip
                  refine goG rfl rfl ?_
                  refine pu (ev tab rfl) rfl ?_
                  refine goG rfl rfl ?_
                  first | refine pu (ev tab rfl) rfl ?_ | refine pu (loadRow tab rfl rfl rfl rfl) rfl ?_ | refine pu (loadBox tab rfl rfl rfl rfl rfl) rfl ?_
                  refine goG rfl rfl ?_
                  iterate 2 refine pu (ev tab rfl) rfl ?_
                  refine WO.nil ?_
                  refine qv1 rfl rfl rfl
              refine qs ?_
              refine condK rfl (fun h60 => ?_) (fun h60 => ?_)
              · skip
                refine W.seq ?_
                refine W.region ?_
                refine pu (ev tab rfl) rfl ?_
                refine WO.nil ?_
                refine qs ?_
                refine W.ret ?_
                refine qsRet ?_
                refine qbRet ?_
                refine qsRet ?_
                refine QF.ret0 trivial rfl ?_
                simp only [norm, oneA, List.length_map] at *; grind [stepErr]
              · skip
                refine W.skip ?_
                refine qs ?_
                refine W.seq ?_
                refine W.region ?_
                refine pu (ev tab rfl) rfl ?_
                refine WO.nil ?_
                refine qs ?_
                refine W.ret ?_
                refine qbRet ?_
                refine qsRet ?_
                refine QF.ret0 trivial rfl ?_
                simp only [norm, oneA, List.length_map] at *; grind [stepErr]
            · skip
              refine W.seq ?_
              refine W.region ?_
              iterate 2 refine pu (ev tab rfl) rfl ?_
              refine WO.nil ?_
              refine qs ?_
              refine condK rfl (fun h61 => ?_) (fun h61 => ?_)
              · skip
                refine W.seq ?_
                refine W.region ?_
                refine pu (ev tab rfl) rfl ?_
                first | refine pu (ev tab rfl) rfl ?_ | refine pu (loadRow tab rfl rfl rfl rfl) rfl ?_ | refine pu (loadBox tab rfl rfl rfl rfl rfl) rfl ?_
                refine pu (puCall rfl rfl rfl (columns_fn ..) rfl) rfl ?_
                refine pu (ev tab rfl) rfl ?_
                refine WO.nil ?_
                refine qs ?_
                refine W.ret ?_
                refine qbRet ?_
                refine qsRet ?_
                refine QF.ret0 trivial rfl ?_
                simp only [norm, oneA, List.length_map] at *; grind [stepErr]
              · skip
                refine W.skip ?_
                refine qbN ?_
                refine qs ?_
                refine W.seq ?_
                refine W.seq ?_
                refine W.region ?_
                refine pu (ev tab rfl) rfl ?_
                first | refine pu (ev tab rfl) rfl ?_ | refine pu (loadRow tab rfl rfl rfl rfl) rfl ?_ | refine pu (loadBox tab rfl rfl rfl rfl rfl) rfl ?_
                refine pu (puCall rfl rfl rfl (identifier_fn ..) rfl) rfl ?_
                refine pu (ev tab rfl) rfl ?_
                refine WO.nil ?_
                refine qs ?_
                refine condK rfl (fun h69 => ?_) (fun h69 => ?_)
                · skip
                  refine W.seq ?_
                  refine W.region ?_
                  refine pu (ev tab rfl) rfl ?_
                  refine WO.nil ?_
                  refine qs ?_
                  refine W.ret ?_
                  refine qsRet ?_
                  refine QF.ret0 trivial rfl ?_
                  simp only [norm, oneA, List.length_map] at *; grind [stepErr]
                · skip
                  refine W.skip ?_
                  refine qs ?_
                  refine W.seq ?_
                  refine W.region ?_
                  refine pu (ev tab rfl) rfl ?_
                  refine WO.nil ?_
                  refine qs ?_
                  refine W.seq ?_
                  refine W.seq ?_
                  refine W.region ?_
                  refine pu (ev tab rfl) rfl ?_
                  first | refine pu (ev tab rfl) rfl ?_ | refine pu (loadRow tab rfl rfl rfl rfl) rfl ?_ | refine pu (loadBox tab rfl rfl rfl rfl rfl) rfl ?_
                  refine pu (ev tab rfl) rfl ?_
                  refine WO.nil ?_
                  refine qs ?_
                  refine condK rfl (fun h72 => ?_) (fun h72 => ?_)
                  · skip
                    refine W.region ?_
                    refine pu (ev tab rfl) rfl ?_
                    refine WO.nil ?_
                    refine qs ?_
                    refine W.seq ?_
                    refine W.region ?_
                    refine pu (ev tab rfl) rfl ?_
                    first | refine pu (ev tab rfl) rfl ?_ | refine pu (loadRow tab rfl rfl rfl rfl) rfl ?_ | refine pu (loadBox tab rfl rfl rfl rfl rfl) rfl ?_
                    refine pu (ev tab rfl) rfl ?_
                    refine pu (puCall rfl rfl rfl (columns_fn ..) rfl) rfl ?_
                    refine pu (ev tab rfl) rfl ?_
                    refine WO.nil ?_
                    refine qs ?_
                    refine W.ret ?_
                    refine QF.ret0 trivial rfl ?_
                    simp only [norm, oneA, List.length_map] at *; grind [stepErr]
                  · skip
                    refine W.skip ?_
                    refine qs ?_
                    refine W.seq ?_
                    refine W.region ?_
                    refine pu (ev tab rfl) rfl ?_
                    first | refine pu (ev tab rfl) rfl ?_ | refine pu (loadRow tab rfl rfl rfl rfl) rfl ?_ | refine pu (loadBox tab rfl rfl rfl rfl rfl) rfl ?_
                    refine pu (ev tab rfl) rfl ?_
                    refine pu (puCall rfl rfl rfl (columns_fn ..) rfl) rfl ?_
                    refine pu (ev tab rfl) rfl ?_
                    refine WO.nil ?_
                    refine qs ?_
                    refine W.ret ?_
                    refine QF.ret0 trivial rfl ?_
                    simp only [norm, oneA, List.length_map] at *; grind [stepErr]
end Go.Proofs.Ytlmgnlhagpoggaa
