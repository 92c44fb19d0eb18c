import Derived.Test.YtmhjgeneogknpaaGreatQ3
import Derived.Test.YtmhjgeneogknpaaGreatChecked
import Derived.KernelRfl
/- The table of the program's types, for the data level. Made by a program of this repo (gentab.py). -/
namespace Go.Proofs.YtmhjgeneogknpaaGreat
open Go.Ab
abbrev tabL : List (Nat × TyD) := [
  (2, ⟨.int .i64, 1, 8, [.int .i64 0]⟩),
  (3, ⟨.int .i64, 1, 8, [.int .i64 0]⟩),
  (4, ⟨.bool, 1, 1, [.bool false]⟩),
  (5, ⟨.int .u8, 1, 1, [.int .u8 0]⟩),
  (9, ⟨.str, 1, 16, [.string ⟨#[]⟩]⟩),
  (12, ⟨.int .u64, 1, 8, [.int .u64 0]⟩),
  (20, ⟨.leaf, 1, 16, [.nilIface]⟩),
  (21, ⟨.int .i32, 1, 4, [.int .i32 0]⟩),
  (22, ⟨.slice 64, 1, 24, [.slice none 0 0]⟩),
  (23, ⟨.slice 54, 1, 24, [.slice none 0 0]⟩),
  (24, ⟨.int .i64, 1, 8, [.int .i64 0]⟩),
  (25, ⟨.int .i64, 1, 8, [.int .i64 0]⟩),
  (26, ⟨.int .i64, 1, 8, [.int .i64 0]⟩),
  (28, ⟨.st [(0, 26, "Kind"), (1, 3, "N"), (2, 9, "S")], 3, 32, [.int .i64 0, .int .i64 0, .string ⟨#[]⟩]⟩),
  (29, ⟨.slice 31, 1, 24, [.slice none 0 0]⟩),
  (31, ⟨.st [(0, 25, "Op"), (1, 9, "Name"), (2, 28, "V"), (5, 29, "Kids")], 6, 80, [.int .i64 0, .string ⟨#[]⟩, .int .i64 0, .int .i64 0, .string ⟨#[]⟩, .slice none 0 0]⟩),
  (32, ⟨.slice 68, 1, 24, [.slice none 0 0]⟩),
  (33, ⟨.slice 9, 1, 24, [.slice none 0 0]⟩),
  (34, ⟨.slice 59, 1, 24, [.slice none 0 0]⟩),
  (35, ⟨.slice 74, 1, 24, [.slice none 0 0]⟩),
  (37, ⟨.st [(0, 24, "Op"), (1, 31, "Cond"), (7, 32, "Items"), (8, 33, "Cols"), (9, 34, "Aggs"), (10, 35, "Sorts"), (11, 3, "N"), (12, 9, "Table")], 13, 208, [.int .i64 0, .int .i64 0, .string ⟨#[]⟩, .int .i64 0, .int .i64 0, .string ⟨#[]⟩, .slice none 0 0, .slice none 0 0, .slice none 0 0, .slice none 0 0, .slice none 0 0, .int .i64 0, .string ⟨#[]⟩]⟩),
  (42, ⟨.int .i64, 1, 8, [.int .i64 0]⟩),
  (47, ⟨.slice 37, 1, 24, [.slice none 0 0]⟩),
  (49, ⟨.st [(0, 9, "From"), (1, 47, "Steps")], 2, 40, [.string ⟨#[]⟩, .slice none 0 0]⟩),
  (54, ⟨.st [(0, 9, "Name"), (1, 26, "Type")], 2, 24, [.string ⟨#[]⟩, .int .i64 0]⟩),
  (59, ⟨.st [(0, 9, "Fn"), (1, 9, "Col"), (2, 9, "As")], 3, 48, [.string ⟨#[]⟩, .string ⟨#[]⟩, .string ⟨#[]⟩]⟩),
  (60, ⟨.slice 83, 1, 24, [.slice none 0 0]⟩),
  (62, ⟨.st [(0, 23, "Cols"), (1, 60, "Rows")], 2, 48, [.slice none 0 0, .slice none 0 0]⟩),
  (64, ⟨.st [(0, 9, "Name"), (1, 62, "Table")], 3, 64, [.string ⟨#[]⟩, .slice none 0 0, .slice none 0 0]⟩),
  (68, ⟨.st [(0, 31, "E"), (6, 9, "As")], 7, 96, [.int .i64 0, .string ⟨#[]⟩, .int .i64 0, .int .i64 0, .string ⟨#[]⟩, .slice none 0 0, .string ⟨#[]⟩]⟩),
  (74, ⟨.st [(0, 9, "Col"), (1, 4, "Desc")], 2, 24, [.string ⟨#[]⟩, .bool false]⟩),
  (83, ⟨.slice 28, 1, 24, [.slice none 0 0]⟩),
  (89, ⟨.slice 26, 1, 24, [.slice none 0 0]⟩),
  (99, ⟨.slice 23, 1, 24, [.slice none 0 0]⟩),
  (108, ⟨.slice 24, 1, 24, [.slice none 0 0]⟩),
  (112, ⟨.st [(0, 33, "names")], 1, 24, [.slice none 0 0]⟩),
  (125, ⟨.ptr 112, 1, 8, [.pointer none]⟩),
  (141, ⟨.int .u32, 1, 4, [.int .u32 0]⟩),
  (145, ⟨.ptr 5, 1, 8, [.pointer none]⟩)]
theorem tab_ok : tabL.all (fun x => tyOK Tryz.prog x.1 x.2) = true := by kernel_rfl
abbrev tab : Tab Tryz.prog := ⟨tabL, tab_ok, by kernel_rfl⟩
end Go.Proofs.YtmhjgeneogknpaaGreat
namespace Go.Proofs.YtmhjgeneogknpaaGreat
open Go.Ab Go.Tb
set_option maxRecDepth 10000
attribute [local irreducible] W WO Pu QS QB QL QF QV QV1 CH QE
theorem fits_fn (k want : Int) : Does Tryz.prog 21 [.d (.v (.int .i64 k)), .d (.v (.int .i64 want))] (.d (.v (.bool (fits k want)))) 0 := by
  refine Does.of_W (n := 12) (ts := [4]) Tryz.func21 (by kernel_rfl) rfl Tryz.ntmps21 Tryz.results21 rfl rfl fun C hC => ?_
  refine W.seq ?_
  refine W.region ?_
  refine pu (ev tab rfl) rfl ?_
  refine WO.nil ?_
  refine qs ?_
  refine W.seq ?_
  apply regionB; (case hb => rfl)
  · skip
    iterate 4 refine pu (ev tab rfl) rfl ?_
    apply splitJ; (case hj => rfl); (case hl => rfl)
    · skip
      refine skipT rfl rfl rfl rfl ?_
      refine skipT rfl rfl rfl rfl ?_
      iterate 2 refine pu (ev tab rfl) rfl ?_
      refine WO.nil ?_
      refine qv1 rfl rfl rfl
    · skip
      refine goG rfl rfl ?_
      refine pu (ev tab rfl) rfl ?_
      refine goG rfl rfl ?_
      iterate 3 refine pu (ev tab rfl) rfl ?_
      refine WO.nil ?_
      refine qv1 rfl rfl rfl
  refine qs ?_
  refine W.ret ?_
  refine QF.ret0 trivial rfl ?_
  simp [norm, oneA, fits]

theorem rfits_fn (k want : Int) : Does Tryz.prog 30 [.d (.v (.int .i64 k)), .d (.v (.int .i64 want))] (.d (.v (.bool (fits k want)))) 0 := by
  refine Does.of_W (n := 12) (ts := [4]) Tryz.func30 (by kernel_rfl) rfl Tryz.ntmps30 Tryz.results30 rfl rfl fun C hC => ?_
  refine W.seq ?_
  refine W.region ?_
  refine pu (ev tab rfl) rfl ?_
  refine WO.nil ?_
  refine qs ?_
  refine W.seq ?_
  apply regionB; (case hb => rfl)
  · skip
    iterate 4 refine pu (ev tab rfl) rfl ?_
    apply splitJ; (case hj => rfl); (case hl => rfl)
    · skip
      refine skipT rfl rfl rfl rfl ?_
      refine skipT rfl rfl rfl rfl ?_
      iterate 2 refine pu (ev tab rfl) rfl ?_
      refine WO.nil ?_
      refine qv1 rfl rfl rfl
    · skip
      refine goG rfl rfl ?_
      refine pu (ev tab rfl) rfl ?_
      refine goG rfl rfl ?_
      iterate 3 refine pu (ev tab rfl) rfl ?_
      refine WO.nil ?_
      refine qv1 rfl rfl rfl
  refine qs ?_
  refine W.ret ?_
  refine QF.ret0 trivial rfl ?_
  simp [norm, oneA, fits]

theorem both_fn (a b want : Int) : Does Tryz.prog 104 [.d (.v (.int .i64 a)), .d (.v (.int .i64 b)), .d (.v (.int .i64 want))] (.d (.v (.bool (fits a want && fits b want)))) 0 := by
  refine Does.of_W (n := 15) (ts := [6]) Tryz.func104 (by kernel_rfl) rfl Tryz.ntmps104 Tryz.results104 rfl rfl fun C hC => ?_
  refine W.seq ?_
  refine W.region ?_
  refine pu (ev tab rfl) rfl ?_
  refine WO.nil ?_
  refine qs ?_
  refine W.seq ?_
  apply regionB; (case hb => rfl)
  · skip
    iterate 2 refine pu (ev tab rfl) rfl ?_
    refine pu (puCall rfl rfl rfl (rfits_fn ..) rfl) rfl ?_
    refine pu (ev tab rfl) rfl ?_
    apply splitJ; (case hj => rfl); (case hl => rfl)
    · skip
      refine goG rfl rfl ?_
      refine pu (ev tab rfl) rfl ?_
      refine goG rfl rfl ?_
      refine pu (ev tab rfl) rfl ?_
      refine goG rfl rfl ?_
      refine pu (puCall rfl rfl rfl (rfits_fn ..) rfl) rfl ?_
      iterate 2 refine pu (ev tab rfl) rfl ?_
      refine WO.nil ?_
      refine qv1 rfl rfl rfl
    · skip
      refine skipT rfl rfl rfl rfl ?_
      refine skipT rfl rfl rfl rfl ?_
      refine skipT rfl rfl rfl rfl ?_
      iterate 2 refine pu (ev tab rfl) rfl ?_
      refine WO.nil ?_
      refine qv1 rfl rfl rfl
  refine qs ?_
  refine W.ret ?_
  refine QF.ret0 trivial rfl ?_
  simp [norm, oneA]

theorem in_fn (n : Int) : Does Tryz.prog 108 [.d (.v (.int .i64 n))] (.d (.v (.bool (inR n)))) 0 := by
  refine Does.of_W (n := 9) (ts := [2]) Tryz.func108 (by kernel_rfl) rfl Tryz.ntmps108 Tryz.results108 rfl rfl fun C hC => ?_
  refine W.seq ?_
  refine W.region ?_
  refine pu (ev tab rfl) rfl ?_
  refine WO.nil ?_
  refine qs ?_
  refine W.seq ?_
  apply regionB; (case hb => rfl)
  · skip
    iterate 3 refine pu (ev tab rfl) rfl ?_
    apply splitJ; (case hj => rfl); (case hl => rfl)
    · skip
      refine goG rfl rfl ?_
      refine pu (ev tab rfl) rfl ?_
      refine goG rfl rfl ?_
      iterate 3 refine pu (ev tab rfl) rfl ?_
      refine WO.nil ?_
      refine qv1 rfl rfl rfl
    · skip
      refine skipT rfl rfl rfl rfl ?_
      refine skipT rfl rfl rfl rfl ?_
      iterate 2 refine pu (ev tab rfl) rfl ?_
      refine WO.nil ?_
      refine qv1 rfl rfl rfl
  refine qs ?_
  refine W.ret ?_
  refine QF.ret0 trivial rfl ?_
  simp [norm, oneA, inR]
theorem rin_fn (n : Int) : Does Tryz.prog 109 [.d (.v (.int .i64 n))] (.d (.v (.bool (inR n)))) 0 := by
  refine Does.of_W (n := 9) (ts := [2]) Tryz.func109 (by kernel_rfl) rfl Tryz.ntmps109 Tryz.results109 rfl rfl fun C hC => ?_
  refine W.seq ?_
  refine W.region ?_
  refine pu (ev tab rfl) rfl ?_
  refine WO.nil ?_
  refine qs ?_
  refine W.seq ?_
  apply regionB; (case hb => rfl)
  · skip
    iterate 3 refine pu (ev tab rfl) rfl ?_
    apply splitJ; (case hj => rfl); (case hl => rfl)
    · skip
      refine goG rfl rfl ?_
      refine pu (ev tab rfl) rfl ?_
      refine goG rfl rfl ?_
      iterate 3 refine pu (ev tab rfl) rfl ?_
      refine WO.nil ?_
      refine qv1 rfl rfl rfl
    · skip
      refine skipT rfl rfl rfl rfl ?_
      refine skipT rfl rfl rfl rfl ?_
      iterate 2 refine pu (ev tab rfl) rfl ?_
      refine WO.nil ?_
      refine qv1 rfl rfl rfl
  refine qs ?_
  refine W.ret ?_
  refine QF.ret0 trivial rfl ?_
  simp [norm, oneA, inR]

theorem when_fn (ok : Bool) (k : Int) : Does Tryz.prog 50 [.d (.v (.bool ok)), .d (.v (.int .i64 k))] (.tup [.d (.v (.int .i64 (if ok then k else 0))), .d (.v (.int .i64 (if ok then 0 else 14)))]) 0 := by
  refine Does.of_W (n := 9) (ts := [4, 5]) Tryz.func50 (by kernel_rfl) rfl Tryz.ntmps50 Tryz.results50 rfl rfl fun C hC => ?_
  refine W.seq ?_
  refine W.region ?_
  iterate 2 refine pu (ev tab rfl) rfl ?_
  refine WO.nil ?_
  refine qs ?_
  refine W.seq ?_
  refine W.seq ?_
  refine W.region ?_
  iterate 2 refine pu (ev tab rfl) rfl ?_
  refine WO.nil ?_
  refine qs ?_
  refine condK rfl (fun h7 => ?_) (fun h7 => ?_)
  · skip
    refine W.seq ?_
    refine W.region ?_
    iterate 2 refine pu (ev tab rfl) rfl ?_
    refine WO.nil ?_
    refine qs ?_
    refine W.ret ?_
    refine qsRet ?_
    refine QF.ret0 trivial rfl ?_
    simp_all [norm, oneA, normL]
  · skip
    refine W.skip ?_
    refine qs ?_
    refine W.seq ?_
    refine W.region ?_
    iterate 3 refine pu (ev tab rfl) rfl ?_
    refine WO.nil ?_
    refine qs ?_
    refine W.ret ?_
    refine QF.ret0 trivial rfl ?_
    simp_all [norm, oneA, normL]

theorem arity_fn (s : ByteArray) : Does Tryz.prog 111 [.d (.v (.string s))] (.d (.v (.int .i64 (arity s)))) 0 := by
  refine Does.of_W (n := 12) (ts := [2]) Tryz.func111 (by kernel_rfl) rfl Tryz.ntmps111 Tryz.results111 rfl rfl fun C hC => ?_
  refine W.seq ?_
  refine W.region ?_
  refine pu (ev tab rfl) rfl ?_
  refine WO.nil ?_
  refine qs ?_
  refine W.seq ?_
  refine W.seq ?_
  refine W.region ?_
  refine pu (ev tab rfl) rfl ?_
  refine WO.nil ?_
  refine qs ?_
  refine W.block ?_
  refine W.seq ?_
  refine W.seq ?_
  refine W.region ?_
  iterate 2 refine pu (ev tab rfl) rfl ?_
  refine WO.nil ?_
  refine qs ?_
  refine condK rfl (fun h4 => ?_) (fun h4 => ?_)
  · skip
    refine W.skip ?_
    refine qs ?_
    refine W.condT rfl ?_
    refine W.seq ?_
    refine W.region ?_
    refine pu (ev tab rfl) rfl ?_
    refine WO.nil ?_
    refine qs ?_
    refine W.ret ?_
    refine qbRet ?_
    refine qsRet ?_
    refine QF.ret0 trivial rfl ?_
    simp_all [norm, oneA, arity, wMin, wMax, wHas, wStarts, wAbs, wLen]
  · skip
    refine W.seq ?_
    refine W.region ?_
    iterate 2 refine pu (ev tab rfl) rfl ?_
    refine WO.nil ?_
    refine qs ?_
    refine condK rfl (fun h4 => ?_) (fun h4 => ?_)
    · skip
      refine W.skip ?_
      refine qs ?_
      refine W.condT rfl ?_
      refine W.seq ?_
      refine W.region ?_
      refine pu (ev tab rfl) rfl ?_
      refine WO.nil ?_
      refine qs ?_
      refine W.ret ?_
      refine qbRet ?_
      refine qsRet ?_
      refine QF.ret0 trivial rfl ?_
      simp_all [norm, oneA, arity, wMin, wMax, wHas, wStarts, wAbs, wLen]
    · skip
      refine W.seq ?_
      refine W.region ?_
      iterate 2 refine pu (ev tab rfl) rfl ?_
      refine WO.nil ?_
      refine qs ?_
      refine condK rfl (fun h4 => ?_) (fun h4 => ?_)
      · skip
        refine W.skip ?_
        refine qs ?_
        refine W.condT rfl ?_
        refine W.seq ?_
        refine W.region ?_
        refine pu (ev tab rfl) rfl ?_
        refine WO.nil ?_
        refine qs ?_
        refine W.ret ?_
        refine qbRet ?_
        refine qsRet ?_
        refine QF.ret0 trivial rfl ?_
        simp_all [norm, oneA, arity, wMin, wMax, wHas, wStarts, wAbs, wLen]
      · skip
        refine W.region ?_
        iterate 2 refine pu (ev tab rfl) rfl ?_
        refine WO.nil ?_
        refine qs ?_
        refine condK rfl (fun h4 => ?_) (fun h4 => ?_)
        · skip
          refine W.seq ?_
          refine W.region ?_
          refine pu (ev tab rfl) rfl ?_
          refine WO.nil ?_
          refine qs ?_
          refine W.ret ?_
          refine qbRet ?_
          refine qsRet ?_
          refine QF.ret0 trivial rfl ?_
          simp_all [norm, oneA, arity, wMin, wMax, wHas, wStarts, wAbs, wLen]
        · skip
          refine W.seq ?_
          refine W.seq ?_
          refine W.region ?_
          iterate 2 refine pu (ev tab rfl) rfl ?_
          refine WO.nil ?_
          refine qs ?_
          refine condK rfl (fun h9 => ?_) (fun h9 => ?_)
          · skip
            refine W.skip ?_
            refine qs ?_
            refine W.condT rfl ?_
            refine W.seq ?_
            refine W.region ?_
            refine pu (ev tab rfl) rfl ?_
            refine WO.nil ?_
            refine qs ?_
            refine W.ret ?_
            refine qbRet ?_
            refine qsRet ?_
            refine QF.ret0 trivial rfl ?_
            simp_all [norm, oneA, arity, wMin, wMax, wHas, wStarts, wAbs, wLen]
          · skip
            refine W.region ?_
            iterate 2 refine pu (ev tab rfl) rfl ?_
            refine WO.nil ?_
            refine qs ?_
            refine condK rfl (fun h9 => ?_) (fun h9 => ?_)
            · skip
              refine W.seq ?_
              refine W.region ?_
              refine pu (ev tab rfl) rfl ?_
              refine WO.nil ?_
              refine qs ?_
              refine W.ret ?_
              refine qbRet ?_
              refine qsRet ?_
              refine QF.ret0 trivial rfl ?_
              simp_all [norm, oneA, arity, wMin, wMax, wHas, wStarts, wAbs, wLen]
            · skip
              refine W.skip ?_
              refine qbN ?_
              refine qs ?_
              refine W.seq ?_
              refine W.region ?_
              refine pu (ev tab rfl) rfl ?_
              refine WO.nil ?_
              refine qs ?_
              refine W.ret ?_
              refine QF.ret0 trivial rfl ?_
              simp_all [norm, oneA, arity, wMin, wMax, wHas, wStarts, wAbs, wLen]

theorem kids_fn (op : Int) : Does Tryz.prog 112 [.d (.v (.int .i64 op))] (.d (.v (.int .i64 (kidsOf op)))) 0 := by
  refine Does.of_W (n := 17) (ts := [2]) Tryz.func112 (by kernel_rfl) rfl Tryz.ntmps112 Tryz.results112 rfl rfl fun C hC => ?_
  refine W.seq ?_
  refine W.region ?_
  refine pu (ev tab rfl) rfl ?_
  refine WO.nil ?_
  refine qs ?_
  refine W.seq ?_
  refine W.seq ?_
  apply regionB; (case hb => rfl)
  · skip
    iterate 3 refine pu (ev tab rfl) rfl ?_
    apply splitJ; (case hj => rfl); (case hl => rfl)
    · skip
      refine skipT rfl rfl rfl rfl ?_
      refine skipT rfl rfl rfl rfl ?_
      refine pu (ev tab rfl) rfl ?_
      refine WO.nil ?_
      refine qv1 rfl rfl rfl
    · skip
      refine goG rfl rfl ?_
      refine pu (ev tab rfl) rfl ?_
      refine goG rfl rfl ?_
      iterate 2 refine pu (ev tab rfl) rfl ?_
      refine WO.nil ?_
      refine qv1 rfl rfl rfl
  refine qs ?_
  refine condK rfl (fun h8 => ?_) (fun h8 => ?_)
  · skip
    refine W.seq ?_
    refine W.region ?_
    refine pu (ev tab rfl) rfl ?_
    refine WO.nil ?_
    refine qs ?_
    refine W.ret ?_
    refine qsRet ?_
    refine QF.ret0 trivial rfl ?_
    simp_all [norm, oneA, kidsOf]
  · skip
    refine W.skip ?_
    refine qs ?_
    refine W.seq ?_
    refine W.seq ?_
    apply regionB; (case hb => rfl)
    · skip
      iterate 3 refine pu (ev tab rfl) rfl ?_
      apply splitJ; (case hj => rfl); (case hl => rfl)
      · skip
        refine skipT rfl rfl rfl rfl ?_
        refine skipT rfl rfl rfl rfl ?_
        refine pu (ev tab rfl) rfl ?_
        refine WO.nil ?_
        refine qv1 rfl rfl rfl
      · skip
        refine goG rfl rfl ?_
        refine pu (ev tab rfl) rfl ?_
        refine goG rfl rfl ?_
        iterate 2 refine pu (ev tab rfl) rfl ?_
        refine WO.nil ?_
        refine qv1 rfl rfl rfl
    refine qs ?_
    refine condK rfl (fun h14 => ?_) (fun h14 => ?_)
    · skip
      refine W.seq ?_
      refine W.region ?_
      refine pu (ev tab rfl) rfl ?_
      refine WO.nil ?_
      refine qs ?_
      refine W.ret ?_
      refine qsRet ?_
      refine QF.ret0 trivial rfl ?_
      simp_all [norm, oneA, kidsOf]
    · skip
      refine W.skip ?_
      refine qs ?_
      refine W.seq ?_
      refine W.seq ?_
      refine W.region ?_
      iterate 2 refine pu (ev tab rfl) rfl ?_
      refine WO.nil ?_
      refine qs ?_
      refine condK rfl (fun h16 => ?_) (fun h16 => ?_)
      · skip
        refine W.seq ?_
        refine W.region ?_
        refine pu (ev tab rfl) rfl ?_
        refine WO.nil ?_
        refine qs ?_
        refine W.ret ?_
        refine qsRet ?_
        refine QF.ret0 trivial rfl ?_
        simp_all [norm, oneA, kidsOf]
      · skip
        refine W.skip ?_
        refine qs ?_
        refine W.seq ?_
        refine W.region ?_
        refine pu (ev tab rfl) rfl ?_
        refine WO.nil ?_
        refine qs ?_
        refine W.ret ?_
        refine QF.ret0 trivial rfl ?_
        simp_all [norm, oneA, kidsOf]

theorem value_fn (k : Int) (v : Val) : Does Tryz.prog 96 [.d (.v (.int .i64 k)), .ag v.c] (.d (.v (.int .i64 (valErr k v)))) 0 := by
  refine Does.of_W (n := 85) (ts := [4]) Tryz.func96 (by kernel_rfl) rfl Tryz.ntmps96 Tryz.results96 rfl rfl fun C hC => ?_
  refine W.seq ?_
  refine W.region ?_
  refine boxR rfl rfl rfl ?_
  refine pu (ev tab rfl) rfl ?_
  refine WO.nil ?_
  refine qs ?_
  refine W.seq ?_
  apply regionB; (case hb => rfl)
  · skip
    iterate 3 refine pu (ev tab rfl) rfl ?_
    apply splitJ; (case hj => rfl); (case hl => rfl)
    · skip
      refine skipT rfl rfl rfl rfl ?_
      refine skipT rfl rfl rfl rfl ?_
      iterate 2 refine pu (ev tab rfl) rfl ?_
      refine skipT rfl rfl rfl rfl ?_
      refine skipT rfl rfl rfl rfl ?_
      iterate 2 refine pu (ev tab rfl) rfl ?_
      refine WO.nil ?_
      refine qv1 rfl rfl rfl
    · skip
      refine goG rfl rfl ?_
      refine pu (ev tab rfl) rfl ?_
      refine goG rfl rfl ?_
      iterate 3 refine pu (ev tab rfl) rfl ?_
      apply splitJ; (case hj => rfl); (case hl => rfl)
      · skip
        refine skipT rfl rfl rfl rfl ?_
        refine skipT rfl rfl rfl rfl ?_
        iterate 2 refine pu (ev tab rfl) rfl ?_
        refine WO.nil ?_
        refine qv1 rfl rfl rfl
      · skip
        refine goG rfl rfl ?_
        refine pu (ev tab rfl) rfl ?_
        refine goG rfl rfl ?_
        iterate 3 refine pu (ev tab rfl) rfl ?_
        refine WO.nil ?_
        refine qv1 rfl rfl rfl
  refine qs ?_
  refine W.seq ?_
  refine W.block ?_
  refine W.seq ?_
  apply regionB; (case hb => rfl)
  · skip
    refine pu (ev tab rfl) rfl ?_
    first | refine pu (ev tab rfl) rfl ?_ | refine pu (loadRow tab rfl rfl rfl rfl) rfl ?_ | refine pu (loadBox tab rfl rfl rfl rfl rfl) rfl ?_
    iterate 2 refine pu (ev tab rfl) rfl ?_
    apply splitJ; (case hj => rfl); (case hl => rfl)
    · skip
      refine goG rfl rfl ?_
      refine pu (ev tab rfl) rfl ?_
      refine goG rfl rfl ?_
      first | refine pu (ev tab rfl) rfl ?_ | refine pu (loadRow tab rfl rfl rfl rfl) rfl ?_ | refine pu (loadBox tab rfl rfl rfl rfl rfl) rfl ?_
      refine goG rfl rfl ?_
      refine pu (ev tab rfl) rfl ?_
      refine goG rfl rfl ?_
      refine pu (ev tab rfl) rfl ?_
      refine goG rfl rfl ?_
      refine pu (ev tab rfl) rfl ?_
      apply splitJ; (case hj => rfl); (case hl => rfl)
      · skip
        refine skipT rfl rfl rfl rfl ?_
        refine skipT rfl rfl rfl rfl ?_
        refine goG rfl rfl ?_
        iterate 3 refine pu (ev tab rfl) rfl ?_
        refine WO.nil ?_
        refine qv1 rfl rfl rfl
      · skip
        refine goG rfl rfl ?_
        refine pu (ev tab rfl) rfl ?_
        refine goG rfl rfl ?_
        refine pu (ev tab rfl) rfl ?_
        refine goG rfl rfl ?_
        iterate 3 refine pu (ev tab rfl) rfl ?_
        refine WO.nil ?_
        refine qv1 rfl rfl rfl
    · skip
      refine skipT rfl rfl rfl rfl ?_
      refine skipT rfl rfl rfl rfl ?_
      refine skipT rfl rfl rfl rfl ?_
      refine skipT rfl rfl rfl rfl ?_
      refine skipT rfl rfl rfl rfl ?_
      refine skipU rfl rfl rfl ?_
      refine skipU rfl rfl rfl ?_
      refine skipT rfl rfl rfl rfl ?_
      iterate 2 refine pu (ev tab rfl) rfl ?_
      refine WO.nil ?_
      refine qv1 rfl rfl rfl
  refine qs ?_
  refine condK rfl (fun h16 => ?_) (fun h16 => ?_)
  · skip
    refine W.seq ?_
    refine W.region ?_
    refine pu (ev tab rfl) rfl ?_
    refine WO.nil ?_
    refine qs ?_
    refine W.ret ?_
    refine qbRet ?_
    refine qsRet ?_
    refine QF.ret0 trivial rfl ?_
    simp only [norm, oneA, Val.c] at *; grind [valErr]
  · skip
    refine W.seq ?_
    refine W.seq ?_
    apply regionB; (case hb => rfl)
    · skip
      refine pu (ev tab rfl) rfl ?_
      first | refine pu (ev tab rfl) rfl ?_ | refine pu (loadRow tab rfl rfl rfl rfl) rfl ?_ | refine pu (loadBox tab rfl rfl rfl rfl rfl) rfl ?_
      iterate 2 refine pu (ev tab rfl) rfl ?_
      apply splitJ; (case hj => rfl); (case hl => rfl)
      · skip
        refine goG rfl rfl ?_
        refine pu (ev tab rfl) rfl ?_
        refine goG rfl rfl ?_
        first | refine pu (ev tab rfl) rfl ?_ | refine pu (loadRow tab rfl rfl rfl rfl) rfl ?_ | refine pu (loadBox tab rfl rfl rfl rfl rfl) rfl ?_
        refine goG rfl rfl ?_
        iterate 3 refine pu (ev tab rfl) rfl ?_
        apply splitJ; (case hj => rfl); (case hl => rfl)
        · skip
          refine goG rfl rfl ?_
          refine pu (ev tab rfl) rfl ?_
          refine goG rfl rfl ?_
          first | refine pu (ev tab rfl) rfl ?_ | refine pu (loadRow tab rfl rfl rfl rfl) rfl ?_ | refine pu (loadBox tab rfl rfl rfl rfl rfl) rfl ?_
          refine goG rfl rfl ?_
          iterate 3 refine pu (ev tab rfl) rfl ?_
          refine WO.nil ?_
          refine qv1 rfl rfl rfl
        · skip
          refine skipT rfl rfl rfl rfl ?_
          refine skipT rfl rfl rfl rfl ?_
          refine skipT rfl rfl rfl rfl ?_
          iterate 2 refine pu (ev tab rfl) rfl ?_
          refine WO.nil ?_
          refine qv1 rfl rfl rfl
      · skip
        refine skipT rfl rfl rfl rfl ?_
        refine skipT rfl rfl rfl rfl ?_
        refine skipT rfl rfl rfl rfl ?_
        iterate 2 refine pu (ev tab rfl) rfl ?_
        refine skipT rfl rfl rfl rfl ?_
        refine skipT rfl rfl rfl rfl ?_
        refine skipT rfl rfl rfl rfl ?_
        iterate 2 refine pu (ev tab rfl) rfl ?_
        refine WO.nil ?_
        refine qv1 rfl rfl rfl
    refine qs ?_
    refine condK rfl (fun h30 => ?_) (fun h30 => ?_)
    · skip
      refine W.skip ?_
      refine qs ?_
      refine W.condT rfl ?_
      refine W.seq ?_
      refine W.region ?_
      refine pu (ev tab rfl) rfl ?_
      refine WO.nil ?_
      refine qs ?_
      refine W.ret ?_
      refine qbRet ?_
      refine qsRet ?_
      refine QF.ret0 trivial rfl ?_
      simp only [norm, oneA, Val.c] at *; grind [valErr]
    · skip
      apply regionB; (case hb => rfl)
      · skip
        refine pu (ev tab rfl) rfl ?_
        first | refine pu (ev tab rfl) rfl ?_ | refine pu (loadRow tab rfl rfl rfl rfl) rfl ?_ | refine pu (loadBox tab rfl rfl rfl rfl rfl) rfl ?_
        iterate 2 refine pu (ev tab rfl) rfl ?_
        apply splitJ; (case hj => rfl); (case hl => rfl)
        · skip
          refine goG rfl rfl ?_
          refine pu (ev tab rfl) rfl ?_
          refine goG rfl rfl ?_
          first | refine pu (ev tab rfl) rfl ?_ | refine pu (loadRow tab rfl rfl rfl rfl) rfl ?_ | refine pu (loadBox tab rfl rfl rfl rfl rfl) rfl ?_
          refine goG rfl rfl ?_
          refine pu (puCall rfl rfl rfl (in_fn ..) rfl) rfl ?_
          refine goG rfl rfl ?_
          iterate 3 refine pu (ev tab rfl) rfl ?_
          refine WO.nil ?_
          refine qv1 rfl rfl rfl
        · skip
          refine skipT rfl rfl rfl rfl ?_
          refine skipT rfl rfl rfl rfl ?_
          refine skipT rfl rfl rfl rfl ?_
          refine skipT rfl rfl rfl rfl ?_
          iterate 2 refine pu (ev tab rfl) rfl ?_
          refine WO.nil ?_
          refine qv1 rfl rfl rfl
      refine qs ?_
      refine condK rfl (fun h30 => ?_) (fun h30 => ?_)
      · skip
        refine W.seq ?_
        refine W.region ?_
        refine pu (ev tab rfl) rfl ?_
        refine WO.nil ?_
        refine qs ?_
        refine W.ret ?_
        refine qbRet ?_
        refine qsRet ?_
        refine QF.ret0 trivial rfl ?_
        simp only [norm, oneA, Val.c] at *; grind [valErr]
      · skip
        refine W.seq ?_
        apply regionB; (case hb => rfl)
        · skip
          refine pu (ev tab rfl) rfl ?_
          first | refine pu (ev tab rfl) rfl ?_ | refine pu (loadRow tab rfl rfl rfl rfl) rfl ?_ | refine pu (loadBox tab rfl rfl rfl rfl rfl) rfl ?_
          iterate 2 refine pu (ev tab rfl) rfl ?_
          apply splitJ; (case hj => rfl); (case hl => rfl)
          · skip
            refine goG rfl rfl ?_
            refine pu (ev tab rfl) rfl ?_
            refine goG rfl rfl ?_
            first | refine pu (ev tab rfl) rfl ?_ | refine pu (loadRow tab rfl rfl rfl rfl) rfl ?_ | refine pu (loadBox tab rfl rfl rfl rfl rfl) rfl ?_
            refine goG rfl rfl ?_
            refine pu (ev tab rfl) rfl ?_
            refine goG rfl rfl ?_
            iterate 3 refine pu (ev tab rfl) rfl ?_
            refine WO.nil ?_
            refine qv1 rfl rfl rfl
          · skip
            refine skipT rfl rfl rfl rfl ?_
            refine skipT rfl rfl rfl rfl ?_
            refine skipT rfl rfl rfl rfl ?_
            refine skipT rfl rfl rfl rfl ?_
            iterate 2 refine pu (ev tab rfl) rfl ?_
            refine WO.nil ?_
            refine qv1 rfl rfl rfl
        refine qs ?_
        refine condK rfl (fun h53 => ?_) (fun h53 => ?_)
        · skip
          refine W.seq ?_
          refine W.region ?_
          refine pu (ev tab rfl) rfl ?_
          refine WO.nil ?_
          refine qs ?_
          refine W.ret ?_
          refine qbRet ?_
          refine qsRet ?_
          refine QF.ret0 trivial rfl ?_
          simp only [norm, oneA, Val.c] at *; grind [valErr]
        · skip
          refine W.seq ?_
          refine W.seq ?_
          apply regionB; (case hb => rfl)
          · skip
            refine pu (ev tab rfl) rfl ?_
            first | refine pu (ev tab rfl) rfl ?_ | refine pu (loadRow tab rfl rfl rfl rfl) rfl ?_ | refine pu (loadBox tab rfl rfl rfl rfl rfl) rfl ?_
            iterate 2 refine pu (ev tab rfl) rfl ?_
            apply splitJ; (case hj => rfl); (case hl => rfl)
            · skip
              refine goG rfl rfl ?_
              refine pu (ev tab rfl) rfl ?_
              refine goG rfl rfl ?_
              first | refine pu (ev tab rfl) rfl ?_ | refine pu (loadRow tab rfl rfl rfl rfl) rfl ?_ | refine pu (loadBox tab rfl rfl rfl rfl rfl) rfl ?_
              refine goG rfl rfl ?_
              iterate 3 refine pu (ev tab rfl) rfl ?_
              refine WO.nil ?_
              refine qv1 rfl rfl rfl
            · skip
              refine skipT rfl rfl rfl rfl ?_
              refine skipT rfl rfl rfl rfl ?_
              refine skipT rfl rfl rfl rfl ?_
              iterate 2 refine pu (ev tab rfl) rfl ?_
              refine WO.nil ?_
              refine qv1 rfl rfl rfl
          refine qs ?_
          refine condK rfl (fun h63 => ?_) (fun h63 => ?_)
          · skip
            refine W.skip ?_
            refine qs ?_
            refine W.condT rfl ?_
            refine W.seq ?_
            refine W.region ?_
            refine pu (ev tab rfl) rfl ?_
            refine WO.nil ?_
            refine qs ?_
            refine W.ret ?_
            refine qbRet ?_
            refine qsRet ?_
            refine QF.ret0 trivial rfl ?_
            simp only [norm, oneA, Val.c] at *; grind [valErr]
          · skip
            apply regionB; (case hb => rfl)
            · skip
              refine pu (ev tab rfl) rfl ?_
              first | refine pu (ev tab rfl) rfl ?_ | refine pu (loadRow tab rfl rfl rfl rfl) rfl ?_ | refine pu (loadBox tab rfl rfl rfl rfl rfl) rfl ?_
              iterate 2 refine pu (ev tab rfl) rfl ?_
              apply splitJ; (case hj => rfl); (case hl => rfl)
              · skip
                refine skipT rfl rfl rfl rfl ?_
                refine skipT rfl rfl rfl rfl ?_
                refine skipT rfl rfl rfl rfl ?_
                iterate 2 refine pu (ev tab rfl) rfl ?_
                refine goG rfl rfl ?_
                refine pu (ev tab rfl) rfl ?_
                refine goG rfl rfl ?_
                first | refine pu (ev tab rfl) rfl ?_ | refine pu (loadRow tab rfl rfl rfl rfl) rfl ?_ | refine pu (loadBox tab rfl rfl rfl rfl rfl) rfl ?_
                refine goG rfl rfl ?_
                iterate 3 refine pu (ev tab rfl) rfl ?_
                refine WO.nil ?_
                refine qv1 rfl rfl rfl
              · skip
                refine goG rfl rfl ?_
                refine pu (ev tab rfl) rfl ?_
                refine goG rfl rfl ?_
                first | refine pu (ev tab rfl) rfl ?_ | refine pu (loadRow tab rfl rfl rfl rfl) rfl ?_ | refine pu (loadBox tab rfl rfl rfl rfl rfl) rfl ?_
                refine goG rfl rfl ?_
                iterate 3 refine pu (ev tab rfl) rfl ?_
                apply splitJ; (case hj => rfl); (case hl => rfl)
                · skip
                  refine goG rfl rfl ?_
                  refine pu (ev tab rfl) rfl ?_
                  refine goG rfl rfl ?_
                  first | refine pu (ev tab rfl) rfl ?_ | refine pu (loadRow tab rfl rfl rfl rfl) rfl ?_ | refine pu (loadBox tab rfl rfl rfl rfl rfl) rfl ?_
                  refine goG rfl rfl ?_
                  iterate 3 refine pu (ev tab rfl) rfl ?_
                  refine WO.nil ?_
                  refine qv1 rfl rfl rfl
                · skip
                  refine skipT rfl rfl rfl rfl ?_
                  refine skipT rfl rfl rfl rfl ?_
                  refine skipT rfl rfl rfl rfl ?_
                  iterate 2 refine pu (ev tab rfl) rfl ?_
                  refine WO.nil ?_
                  refine qv1 rfl rfl rfl
            refine qs ?_
            refine condK rfl (fun h63 => ?_) (fun h63 => ?_)
            · skip
              refine W.seq ?_
              refine W.region ?_
              refine pu (ev tab rfl) rfl ?_
              refine WO.nil ?_
              refine qs ?_
              refine W.ret ?_
              refine qbRet ?_
              refine qsRet ?_
              refine QF.ret0 trivial rfl ?_
              simp only [norm, oneA, Val.c] at *; grind [valErr]
            · skip
              refine W.skip ?_
              refine qbN ?_
              refine qs ?_
              refine W.seq ?_
              refine W.region ?_
              refine pu (ev tab rfl) rfl ?_
              refine WO.nil ?_
              refine qs ?_
              refine W.ret ?_
              refine QF.ret0 trivial rfl ?_
              simp only [norm, oneA, Val.c] at *; grind [valErr]

theorem rvalue_fn (k : Int) (v : Val) : Does Tryz.prog 99 [.d (.v (.int .i64 k)), .ag v.c] (.d (.v (.int .i64 (valErr k v)))) 0 := by
  refine Does.of_W (n := 78) (ts := [4]) Tryz.func99 (by kernel_rfl) rfl Tryz.ntmps99 Tryz.results99 rfl rfl fun C hC => ?_
  refine W.seq ?_
  refine W.region ?_
  refine boxR rfl rfl rfl ?_
  refine pu (ev tab rfl) rfl ?_
  refine WO.nil ?_
  refine qs ?_
  refine W.seq ?_
  refine W.seq ?_
  apply regionB; (case hb => rfl)
  · skip
    refine pu (ev tab rfl) rfl ?_
    first | refine pu (ev tab rfl) rfl ?_ | refine pu (loadRow tab rfl rfl rfl rfl) rfl ?_ | refine pu (loadBox tab rfl rfl rfl rfl rfl) rfl ?_
    iterate 2 refine pu (ev tab rfl) rfl ?_
    apply splitJ; (case hj => rfl); (case hl => rfl)
    · skip
      refine goG rfl rfl ?_
      refine pu (ev tab rfl) rfl ?_
      refine goG rfl rfl ?_
      first | refine pu (ev tab rfl) rfl ?_ | refine pu (loadRow tab rfl rfl rfl rfl) rfl ?_ | refine pu (loadBox tab rfl rfl rfl rfl rfl) rfl ?_
      refine goG rfl rfl ?_
      refine pu (ev tab rfl) rfl ?_
      refine goG rfl rfl ?_
      refine pu (ev tab rfl) rfl ?_
      refine goG rfl rfl ?_
      refine pu (ev tab rfl) rfl ?_
      apply splitJ; (case hj => rfl); (case hl => rfl)
      · skip
        refine skipT rfl rfl rfl rfl ?_
        refine skipT rfl rfl rfl rfl ?_
        refine goG rfl rfl ?_
        refine pu (ev tab rfl) rfl ?_
        refine goG rfl rfl ?_
        refine pu (ev tab rfl) rfl ?_
        refine skipT rfl rfl rfl rfl ?_
        refine skipT rfl rfl rfl rfl ?_
        refine goG rfl rfl ?_
        iterate 2 refine pu (ev tab rfl) rfl ?_
        refine WO.nil ?_
        refine qv1 rfl rfl rfl
      · skip
        refine goG rfl rfl ?_
        refine pu (ev tab rfl) rfl ?_
        refine goG rfl rfl ?_
        refine pu (ev tab rfl) rfl ?_
        refine goG rfl rfl ?_
        refine pu (ev tab rfl) rfl ?_
        refine goG rfl rfl ?_
        refine pu (ev tab rfl) rfl ?_
        apply splitJ; (case hj => rfl); (case hl => rfl)
        · skip
          refine skipT rfl rfl rfl rfl ?_
          refine skipT rfl rfl rfl rfl ?_
          refine goG rfl rfl ?_
          iterate 2 refine pu (ev tab rfl) rfl ?_
          refine WO.nil ?_
          refine qv1 rfl rfl rfl
        · skip
          refine goG rfl rfl ?_
          refine pu (ev tab rfl) rfl ?_
          refine goG rfl rfl ?_
          refine pu (ev tab rfl) rfl ?_
          refine goG rfl rfl ?_
          iterate 2 refine pu (ev tab rfl) rfl ?_
          refine WO.nil ?_
          refine qv1 rfl rfl rfl
    · skip
      refine skipT rfl rfl rfl rfl ?_
      refine skipT rfl rfl rfl rfl ?_
      refine skipT rfl rfl rfl rfl ?_
      refine skipT rfl rfl rfl rfl ?_
      refine skipT rfl rfl rfl rfl ?_
      refine skipU rfl rfl rfl ?_
      refine skipU rfl rfl rfl ?_
      refine skipT rfl rfl rfl rfl ?_
      refine skipT rfl rfl rfl rfl ?_
      refine skipU rfl rfl rfl ?_
      refine skipU rfl rfl rfl ?_
      refine skipT rfl rfl rfl rfl ?_
      refine pu (ev tab rfl) rfl ?_
      refine WO.nil ?_
      refine qv1 rfl rfl rfl
  refine qs ?_
  refine condK rfl (fun h21 => ?_) (fun h21 => ?_)
  · skip
    refine W.seq ?_
    refine W.region ?_
    refine pu (ev tab rfl) rfl ?_
    refine WO.nil ?_
    refine qs ?_
    refine W.ret ?_
    refine qsRet ?_
    refine QF.ret0 trivial rfl ?_
    simp only [norm, oneA, Val.c] at *; grind [valErr]
  · skip
    refine W.skip ?_
    refine qs ?_
    refine W.seq ?_
    refine W.seq ?_
    apply regionB; (case hb => rfl)
    · skip
      refine pu (ev tab rfl) rfl ?_
      first | refine pu (ev tab rfl) rfl ?_ | refine pu (loadRow tab rfl rfl rfl rfl) rfl ?_ | refine pu (loadBox tab rfl rfl rfl rfl rfl) rfl ?_
      iterate 2 refine pu (ev tab rfl) rfl ?_
      apply splitJ; (case hj => rfl); (case hl => rfl)
      · skip
        refine goG rfl rfl ?_
        refine pu (ev tab rfl) rfl ?_
        refine goG rfl rfl ?_
        first | refine pu (ev tab rfl) rfl ?_ | refine pu (loadRow tab rfl rfl rfl rfl) rfl ?_ | refine pu (loadBox tab rfl rfl rfl rfl rfl) rfl ?_
        refine goG rfl rfl ?_
        refine pu (ev tab rfl) rfl ?_
        refine goG rfl rfl ?_
        refine pu (ev tab rfl) rfl ?_
        apply splitJ; (case hj => rfl); (case hl => rfl)
        · skip
          refine skipT rfl rfl rfl rfl ?_
          refine skipT rfl rfl rfl rfl ?_
          refine skipT rfl rfl rfl rfl ?_
          refine goG rfl rfl ?_
          iterate 3 refine pu (ev tab rfl) rfl ?_
          refine skipT rfl rfl rfl rfl ?_
          refine skipT rfl rfl rfl rfl ?_
          refine skipT rfl rfl rfl rfl ?_
          refine skipT rfl rfl rfl rfl ?_
          refine skipU rfl rfl rfl ?_
          refine skipU rfl rfl rfl ?_
          refine skipU rfl rfl rfl ?_
          refine skipU rfl rfl rfl ?_
          refine skipT rfl rfl rfl rfl ?_
          refine pu (ev tab rfl) rfl ?_
          refine WO.nil ?_
          refine qv1 rfl rfl rfl
        · skip
          refine goG rfl rfl ?_
          refine pu (ev tab rfl) rfl ?_
          refine goG rfl rfl ?_
          first | refine pu (ev tab rfl) rfl ?_ | refine pu (loadRow tab rfl rfl rfl rfl) rfl ?_ | refine pu (loadBox tab rfl rfl rfl rfl rfl) rfl ?_
          refine goG rfl rfl ?_
          refine pu (ev tab rfl) rfl ?_
          refine goG rfl rfl ?_
          iterate 3 refine pu (ev tab rfl) rfl ?_
          apply splitJ; (case hj => rfl); (case hl => rfl)
          · skip
            refine skipT rfl rfl rfl rfl ?_
            refine skipT rfl rfl rfl rfl ?_
            refine skipT rfl rfl rfl rfl ?_
            refine skipT rfl rfl rfl rfl ?_
            refine skipU rfl rfl rfl ?_
            refine skipU rfl rfl rfl ?_
            refine skipU rfl rfl rfl ?_
            refine skipU rfl rfl rfl ?_
            refine skipT rfl rfl rfl rfl ?_
            refine pu (ev tab rfl) rfl ?_
            refine WO.nil ?_
            refine qv1 rfl rfl rfl
          · skip
            refine goG rfl rfl ?_
            refine pu (ev tab rfl) rfl ?_
            refine goG rfl rfl ?_
            first | refine pu (ev tab rfl) rfl ?_ | refine pu (loadRow tab rfl rfl rfl rfl) rfl ?_ | refine pu (loadBox tab rfl rfl rfl rfl rfl) rfl ?_
            refine goG rfl rfl ?_
            refine pu (ev tab rfl) rfl ?_
            refine goG rfl rfl ?_
            refine pu (ev tab rfl) rfl ?_
            apply splitJ; (case hj => rfl); (case hl => rfl)
            · skip
              refine goG rfl rfl ?_
              refine pu (ev tab rfl) rfl ?_
              refine goG rfl rfl ?_
              first | refine pu (ev tab rfl) rfl ?_ | refine pu (loadRow tab rfl rfl rfl rfl) rfl ?_ | refine pu (loadBox tab rfl rfl rfl rfl rfl) rfl ?_
              refine goG rfl rfl ?_
              refine pu (puCall rfl rfl rfl (rin_fn ..) rfl) rfl ?_
              refine goG rfl rfl ?_
              refine pu (ev tab rfl) rfl ?_
              refine goG rfl rfl ?_
              iterate 2 refine pu (ev tab rfl) rfl ?_
              refine WO.nil ?_
              refine qv1 rfl rfl rfl
            · skip
              refine skipT rfl rfl rfl rfl ?_
              refine skipT rfl rfl rfl rfl ?_
              refine skipT rfl rfl rfl rfl ?_
              refine skipT rfl rfl rfl rfl ?_
              refine goG rfl rfl ?_
              iterate 2 refine pu (ev tab rfl) rfl ?_
              refine WO.nil ?_
              refine qv1 rfl rfl rfl
      · skip
        refine skipT rfl rfl rfl rfl ?_
        refine skipT rfl rfl rfl rfl ?_
        refine skipT rfl rfl rfl rfl ?_
        refine skipT rfl rfl rfl rfl ?_
        refine skipU rfl rfl rfl ?_
        refine skipU rfl rfl rfl ?_
        refine skipU rfl rfl rfl ?_
        refine skipT rfl rfl rfl rfl ?_
        iterate 2 refine pu (ev tab rfl) rfl ?_
        refine goG rfl rfl ?_
        refine pu (ev tab rfl) rfl ?_
        refine goG rfl rfl ?_
        first | refine pu (ev tab rfl) rfl ?_ | refine pu (loadRow tab rfl rfl rfl rfl) rfl ?_ | refine pu (loadBox tab rfl rfl rfl rfl rfl) rfl ?_
        refine goG rfl rfl ?_
        refine pu (ev tab rfl) rfl ?_
        refine goG rfl rfl ?_
        refine pu (ev tab rfl) rfl ?_
        apply splitJ; (case hj => rfl); (case hl => rfl)
        · skip
          refine goG rfl rfl ?_
          refine pu (ev tab rfl) rfl ?_
          refine goG rfl rfl ?_
          first | refine pu (ev tab rfl) rfl ?_ | refine pu (loadRow tab rfl rfl rfl rfl) rfl ?_ | refine pu (loadBox tab rfl rfl rfl rfl rfl) rfl ?_
          refine goG rfl rfl ?_
          refine pu (puCall rfl rfl rfl (rin_fn ..) rfl) rfl ?_
          refine goG rfl rfl ?_
          refine pu (ev tab rfl) rfl ?_
          refine goG rfl rfl ?_
          iterate 2 refine pu (ev tab rfl) rfl ?_
          refine WO.nil ?_
          refine qv1 rfl rfl rfl
        · skip
          refine skipT rfl rfl rfl rfl ?_
          refine skipT rfl rfl rfl rfl ?_
          refine skipT rfl rfl rfl rfl ?_
          refine skipT rfl rfl rfl rfl ?_
          refine goG rfl rfl ?_
          iterate 2 refine pu (ev tab rfl) rfl ?_
          refine WO.nil ?_
          refine qv1 rfl rfl rfl
    refine qs ?_
    refine condK rfl (fun h45 => ?_) (fun h45 => ?_)
    · skip
      refine W.seq ?_
      refine W.region ?_
      refine pu (ev tab rfl) rfl ?_
      refine WO.nil ?_
      refine qs ?_
      refine W.ret ?_
      refine qsRet ?_
      refine QF.ret0 trivial rfl ?_
      simp only [norm, oneA, Val.c] at *; grind [valErr]
    · skip
      refine W.skip ?_
      refine qs ?_
      refine W.seq ?_
      refine W.seq ?_
      apply regionB; (case hb => rfl)
      · skip
        refine pu (ev tab rfl) rfl ?_
        first | refine pu (ev tab rfl) rfl ?_ | refine pu (loadRow tab rfl rfl rfl rfl) rfl ?_ | refine pu (loadBox tab rfl rfl rfl rfl rfl) rfl ?_
        iterate 2 refine pu (ev tab rfl) rfl ?_
        apply splitJ; (case hj => rfl); (case hl => rfl)
        · skip
          refine goG rfl rfl ?_
          refine pu (ev tab rfl) rfl ?_
          refine goG rfl rfl ?_
          first | refine pu (ev tab rfl) rfl ?_ | refine pu (loadRow tab rfl rfl rfl rfl) rfl ?_ | refine pu (loadBox tab rfl rfl rfl rfl rfl) rfl ?_
          refine goG rfl rfl ?_
          refine pu (ev tab rfl) rfl ?_
          refine goG rfl rfl ?_
          iterate 2 refine pu (ev tab rfl) rfl ?_
          refine WO.nil ?_
          refine qv1 rfl rfl rfl
        · skip
          refine skipT rfl rfl rfl rfl ?_
          refine skipT rfl rfl rfl rfl ?_
          refine skipT rfl rfl rfl rfl ?_
          refine skipT rfl rfl rfl rfl ?_
          refine pu (ev tab rfl) rfl ?_
          refine WO.nil ?_
          refine qv1 rfl rfl rfl
      refine qs ?_
      refine condK rfl (fun h54 => ?_) (fun h54 => ?_)
      · skip
        refine W.seq ?_
        refine W.region ?_
        refine pu (ev tab rfl) rfl ?_
        refine WO.nil ?_
        refine qs ?_
        refine W.ret ?_
        refine qsRet ?_
        refine QF.ret0 trivial rfl ?_
        simp only [norm, oneA, Val.c] at *; grind [valErr]
      · skip
        refine W.skip ?_
        refine qs ?_
        refine W.seq ?_
        refine W.seq ?_
        apply regionB; (case hb => rfl)
        · skip
          refine pu (ev tab rfl) rfl ?_
          first | refine pu (ev tab rfl) rfl ?_ | refine pu (loadRow tab rfl rfl rfl rfl) rfl ?_ | refine pu (loadBox tab rfl rfl rfl rfl rfl) rfl ?_
          iterate 2 refine pu (ev tab rfl) rfl ?_
          apply splitJ; (case hj => rfl); (case hl => rfl)
          · skip
            refine goG rfl rfl ?_
            refine pu (ev tab rfl) rfl ?_
            refine goG rfl rfl ?_
            first | refine pu (ev tab rfl) rfl ?_ | refine pu (loadRow tab rfl rfl rfl rfl) rfl ?_ | refine pu (loadBox tab rfl rfl rfl rfl rfl) rfl ?_
            refine goG rfl rfl ?_
            iterate 3 refine pu (ev tab rfl) rfl ?_
            apply splitJ; (case hj => rfl); (case hl => rfl)
            · skip
              refine skipT rfl rfl rfl rfl ?_
              refine skipT rfl rfl rfl rfl ?_
              refine skipT rfl rfl rfl rfl ?_
              refine skipT rfl rfl rfl rfl ?_
              refine skipU rfl rfl rfl ?_
              refine skipU rfl rfl rfl ?_
              refine skipU rfl rfl rfl ?_
              refine skipT rfl rfl rfl rfl ?_
              refine skipT rfl rfl rfl rfl ?_
              refine skipU rfl rfl rfl ?_
              refine skipU rfl rfl rfl ?_
              refine skipU rfl rfl rfl ?_
              refine skipT rfl rfl rfl rfl ?_
              refine pu (ev tab rfl) rfl ?_
              refine WO.nil ?_
              refine qv1 rfl rfl rfl
            · skip
              refine goG rfl rfl ?_
              refine pu (ev tab rfl) rfl ?_
              refine goG rfl rfl ?_
              first | refine pu (ev tab rfl) rfl ?_ | refine pu (loadRow tab rfl rfl rfl rfl) rfl ?_ | refine pu (loadBox tab rfl rfl rfl rfl rfl) rfl ?_
              refine goG rfl rfl ?_
              refine pu (ev tab rfl) rfl ?_
              refine goG rfl rfl ?_
              refine pu (ev tab rfl) rfl ?_
              apply splitJ; (case hj => rfl); (case hl => rfl)
              · skip
                refine skipT rfl rfl rfl rfl ?_
                refine skipT rfl rfl rfl rfl ?_
                refine skipT rfl rfl rfl rfl ?_
                refine goG rfl rfl ?_
                refine pu (ev tab rfl) rfl ?_
                refine goG rfl rfl ?_
                refine pu (ev tab rfl) rfl ?_
                refine goG rfl rfl ?_
                refine pu (ev tab rfl) rfl ?_
                refine goG rfl rfl ?_
                first | refine pu (ev tab rfl) rfl ?_ | refine pu (loadRow tab rfl rfl rfl rfl) rfl ?_ | refine pu (loadBox tab rfl rfl rfl rfl rfl) rfl ?_
                refine goG rfl rfl ?_
                refine pu (ev tab rfl) rfl ?_
                refine goG rfl rfl ?_
                iterate 2 refine pu (ev tab rfl) rfl ?_
                refine WO.nil ?_
                refine qv1 rfl rfl rfl
              · skip
                refine goG rfl rfl ?_
                refine pu (ev tab rfl) rfl ?_
                refine goG rfl rfl ?_
                first | refine pu (ev tab rfl) rfl ?_ | refine pu (loadRow tab rfl rfl rfl rfl) rfl ?_ | refine pu (loadBox tab rfl rfl rfl rfl rfl) rfl ?_
                refine goG rfl rfl ?_
                refine pu (ev tab rfl) rfl ?_
                refine goG rfl rfl ?_
                refine pu (ev tab rfl) rfl ?_
                refine goG rfl rfl ?_
                refine pu (ev tab rfl) rfl ?_
                apply splitJ; (case hj => rfl); (case hl => rfl)
                · skip
                  refine goG rfl rfl ?_
                  refine pu (ev tab rfl) rfl ?_
                  refine goG rfl rfl ?_
                  first | refine pu (ev tab rfl) rfl ?_ | refine pu (loadRow tab rfl rfl rfl rfl) rfl ?_ | refine pu (loadBox tab rfl rfl rfl rfl rfl) rfl ?_
                  refine goG rfl rfl ?_
                  refine pu (ev tab rfl) rfl ?_
                  refine goG rfl rfl ?_
                  iterate 2 refine pu (ev tab rfl) rfl ?_
                  refine WO.nil ?_
                  refine qv1 rfl rfl rfl
                · skip
                  refine skipT rfl rfl rfl rfl ?_
                  refine skipT rfl rfl rfl rfl ?_
                  refine skipT rfl rfl rfl rfl ?_
                  refine goG rfl rfl ?_
                  iterate 2 refine pu (ev tab rfl) rfl ?_
                  refine WO.nil ?_
                  refine qv1 rfl rfl rfl
          · skip
            refine skipT rfl rfl rfl rfl ?_
            refine skipT rfl rfl rfl rfl ?_
            refine skipT rfl rfl rfl rfl ?_
            iterate 2 refine pu (ev tab rfl) rfl ?_
            refine goG rfl rfl ?_
            refine pu (ev tab rfl) rfl ?_
            refine goG rfl rfl ?_
            first | refine pu (ev tab rfl) rfl ?_ | refine pu (loadRow tab rfl rfl rfl rfl) rfl ?_ | refine pu (loadBox tab rfl rfl rfl rfl rfl) rfl ?_
            refine goG rfl rfl ?_
            refine pu (ev tab rfl) rfl ?_
            refine goG rfl rfl ?_
            refine pu (ev tab rfl) rfl ?_
            apply splitJ; (case hj => rfl); (case hl => rfl)
            · skip
              refine skipT rfl rfl rfl rfl ?_
              refine skipT rfl rfl rfl rfl ?_
              refine skipT rfl rfl rfl rfl ?_
              refine goG rfl rfl ?_
              refine pu (ev tab rfl) rfl ?_
              refine goG rfl rfl ?_
              refine pu (ev tab rfl) rfl ?_
              refine goG rfl rfl ?_
              refine pu (ev tab rfl) rfl ?_
              refine goG rfl rfl ?_
              first | refine pu (ev tab rfl) rfl ?_ | refine pu (loadRow tab rfl rfl rfl rfl) rfl ?_ | refine pu (loadBox tab rfl rfl rfl rfl rfl) rfl ?_
              refine goG rfl rfl ?_
              refine pu (ev tab rfl) rfl ?_
              refine goG rfl rfl ?_
              iterate 2 refine pu (ev tab rfl) rfl ?_
              refine WO.nil ?_
              refine qv1 rfl rfl rfl
            · skip
              refine goG rfl rfl ?_
              refine pu (ev tab rfl) rfl ?_
              refine goG rfl rfl ?_
              first | refine pu (ev tab rfl) rfl ?_ | refine pu (loadRow tab rfl rfl rfl rfl) rfl ?_ | refine pu (loadBox tab rfl rfl rfl rfl rfl) rfl ?_
              refine goG rfl rfl ?_
              refine pu (ev tab rfl) rfl ?_
              refine goG rfl rfl ?_
              refine pu (ev tab rfl) rfl ?_
              refine goG rfl rfl ?_
              refine pu (ev tab rfl) rfl ?_
              apply splitJ; (case hj => rfl); (case hl => rfl)
              · skip
                refine goG rfl rfl ?_
                refine pu (ev tab rfl) rfl ?_
                refine goG rfl rfl ?_
                first | refine pu (ev tab rfl) rfl ?_ | refine pu (loadRow tab rfl rfl rfl rfl) rfl ?_ | refine pu (loadBox tab rfl rfl rfl rfl rfl) rfl ?_
                refine goG rfl rfl ?_
                refine pu (ev tab rfl) rfl ?_
                refine goG rfl rfl ?_
                iterate 2 refine pu (ev tab rfl) rfl ?_
                refine WO.nil ?_
                refine qv1 rfl rfl rfl
              · skip
                refine skipT rfl rfl rfl rfl ?_
                refine skipT rfl rfl rfl rfl ?_
                refine skipT rfl rfl rfl rfl ?_
                refine goG rfl rfl ?_
                iterate 2 refine pu (ev tab rfl) rfl ?_
                refine WO.nil ?_
                refine qv1 rfl rfl rfl
        refine qs ?_
        refine condK rfl (fun h77 => ?_) (fun h77 => ?_)
        · skip
          refine W.seq ?_
          refine W.region ?_
          refine pu (ev tab rfl) rfl ?_
          refine WO.nil ?_
          refine qs ?_
          refine W.ret ?_
          refine qsRet ?_
          refine QF.ret0 trivial rfl ?_
          simp only [norm, oneA, Val.c] at *; grind [valErr]
        · skip
          refine W.skip ?_
          refine qs ?_
          refine W.seq ?_
          refine W.region ?_
          refine pu (ev tab rfl) rfl ?_
          refine WO.nil ?_
          refine qs ?_
          refine W.ret ?_
          refine QF.ret0 trivial rfl ?_
          simp only [norm, oneA, Val.c] at *; grind [valErr]
end Go.Proofs.YtmhjgeneogknpaaGreat
namespace Go.Proofs.YtmhjgeneogknpaaGreat
open Go.Ab Go.Tb
set_option maxRecDepth 10000
attribute [local irreducible] W WO Pu QS QB QL QF QV QV1 CH QE
theorem idxCol_fn (fid : Nat) (caps : List A) (hc : Still caps) (p : Col → Bool) (hp : ∀ x : Col, Does Tryz.prog fid (.ag x.c :: caps) (.d (.v (.bool (p x)))) 0) (l : List Col) :
    Does Tryz.prog 54 [.d (.sl (l.map Col.c)), .clo fid caps] (.d (.v (.int .i64 (idx (l.findIdx? p))))) 0 := by
  refine Does.of_W (n := 19) (ts := [4]) Tryz.func54 (by kernel_rfl) rfl Tryz.ntmps54 Tryz.results54 rfl rfl fun C hC => ?_
  refine W.seq ?_
  refine W.region ?_
  refine pu (ev tab rfl) rfl ?_
  refine WO.nil ?_
  refine qs ?_
  refine W.seq ?_
  refine W.seq ?_
  refine W.region ?_
  iterate 3 refine pu (ev tab rfl) rfl ?_
  refine WO.nil ?_
  refine qs ?_
  refine W.block ?_
  refine W.len (t := 0) rfl rfl (fun hlen => ?_)
  try simp only [List.length_map, Ex.kc_len] at hlen
  refine W.loopR (ι := {x : Nat // match x with | k => k ≤ l.length ∧ noneBefore p l k})
    (fun x => match x.1 with | k => [(8, .d (.v (.int .i64 ((k : Nat) : Int))))]) [(0, _), (1, _), (7, _)]
    (fun x => match x.1 with | k => []) [] [] 0 (fun x => match x.1 with | k => l.length - k)
    [] ⟨0, ?_⟩ rfl ?_ ⟨rfl, (by first | rfl | exact hc.2), rfl, (by first | rfl | exact hc.2), rfl, (by first | rfl | exact hc.2), trivial⟩ ?_ trivial rfl ?_
  · exact ⟨Nat.zero_le _, noneBefore.zero⟩
  · repeat' first | exact trivial | refine ⟨rfl, ?_⟩ | refine ⟨step_nat (by assumption) (by assumption), ?_⟩
  · repeat' first | exact trivial | refine ⟨rfl, ?_⟩ | refine ⟨step_nat (by assumption) (by assumption), ?_⟩
  rintro ⟨k, hk, hI⟩
  show W _ _ _ _ _ ⟨[(8, .d (.v (.int .i64 ((k : Nat) : Int)))), (0, _), (1, _), (7, _)], [], [], 0⟩
  refine W.seq ?_
  refine W.region ?_
  refine pu (ev tab rfl) rfl ?_
  refine WO.nil ?_
  refine qs ?_
  refine W.seq ?_
  refine eachR (l := l) (k := k) rfl (by simp [Ex.kc_len, bytes_len]) hk (fun x hx hd hlt => ?_) (fun he hd => ?_)
  · skip
    refine W.skip ?_
    refine qs ?_
    refine W.seq ?_
    refine W.block ?_
    refine W.seq ?_
    refine W.region ?_
    iterate 2 refine pu (ev tab rfl) rfl ?_
    refine WO.nil ?_
    refine qs ?_
    refine W.seq ?_
    refine W.region ?_
    iterate 3 refine pu (ev tab rfl) rfl ?_
    refine pu (indexAddr tab rfl rfl rfl rfl rfl rfl (Int.natCast_nonneg _) (idx_map (by assumption)) rfl) rfl ?_
    first | refine pu (ev tab rfl) rfl ?_ | refine pu (loadRow tab rfl rfl rfl rfl) rfl ?_ | refine pu (loadBox tab rfl rfl rfl rfl rfl) rfl ?_
    refine pu (puCall rfl rfl (by rw [List.map_append, hc.1 _ 3]; rfl) (hp x) rfl) rfl ?_
    refine WO.nil ?_
    refine qs ?_
    refine condK rfl (fun h16 => ?_) (fun h16 => ?_)
    · skip
      refine W.seq ?_
      refine W.region ?_
      iterate 2 refine pu (ev tab rfl) rfl ?_
      refine WO.nil ?_
      refine qs ?_
      refine W.ret ?_
      refine qbRet ?_
      refine qsRet ?_
      refine qlRet ?_
      refine qbRet ?_
      refine qsRet ?_
      refine QF.ret0 trivial rfl ?_
      simp only [norm, oneA]; rw [hI.found hx h16]; rfl
    · skip
      refine W.skip ?_
      refine qbN ?_
      refine qs ?_
      refine W.region ?_
      iterate 2 refine pu (ev tab rfl) rfl ?_
      refine WO.nil ?_
      refine W.endR [] ⟨k + 1, ?_⟩ ?_ rfl ?_ ⟨rfl, (by first | rfl | exact hc.2), rfl, (by first | rfl | exact hc.2), rfl, (by first | rfl | exact hc.2), trivial⟩ ?_ trivial rfl
      · exact ⟨hlt, hI.step hx h16⟩
      · dsimp only; omega
      · repeat' first | exact trivial | refine ⟨rfl, ?_⟩ | refine ⟨step_nat (by assumption) (by assumption), ?_⟩
      · repeat' first | exact trivial | refine ⟨rfl, ?_⟩ | refine ⟨step_nat (by assumption) (by assumption), ?_⟩
  · skip
    refine W.exit ?_
    refine qsExit ?_
    refine qlExit ?_
    refine qbExit ?_
    refine qs ?_
    refine W.seq ?_
    refine W.region ?_
    refine pu (ev tab rfl) rfl ?_
    refine WO.nil ?_
    refine qs ?_
    refine W.ret ?_
    refine QF.ret0 trivial rfl ?_
    simp only [norm, oneA]; rw [hI.end_ he]; rfl
theorem idxStr_fn (fid : Nat) (caps : List A) (hc : Still caps) (p : ByteArray → Bool) (hp : ∀ x : ByteArray, Does Tryz.prog fid (.d (.v (.string x)) :: caps) (.d (.v (.bool (p x)))) 0) (l : List ByteArray) :
    Does Tryz.prog 88 [.d (.sl (l.map sc)), .clo fid caps] (.d (.v (.int .i64 (idx (l.findIdx? p))))) 0 := by
  refine Does.of_W (n := 19) (ts := [4]) Tryz.func88 (by kernel_rfl) rfl Tryz.ntmps88 Tryz.results88 rfl rfl fun C hC => ?_
  refine W.seq ?_
  refine W.region ?_
  refine pu (ev tab rfl) rfl ?_
  refine WO.nil ?_
  refine qs ?_
  refine W.seq ?_
  refine W.seq ?_
  refine W.region ?_
  iterate 3 refine pu (ev tab rfl) rfl ?_
  refine WO.nil ?_
  refine qs ?_
  refine W.block ?_
  refine W.len (t := 0) rfl rfl (fun hlen => ?_)
  try simp only [List.length_map, Ex.kc_len] at hlen
  refine W.loopR (ι := {x : Nat // match x with | k => k ≤ l.length ∧ noneBefore p l k})
    (fun x => match x.1 with | k => [(8, .d (.v (.int .i64 ((k : Nat) : Int))))]) [(0, _), (1, _), (7, _)]
    (fun x => match x.1 with | k => []) [] [] 0 (fun x => match x.1 with | k => l.length - k)
    [] ⟨0, ?_⟩ rfl ?_ ⟨rfl, (by first | rfl | exact hc.2), rfl, (by first | rfl | exact hc.2), rfl, (by first | rfl | exact hc.2), trivial⟩ ?_ trivial rfl ?_
  · exact ⟨Nat.zero_le _, noneBefore.zero⟩
  · repeat' first | exact trivial | refine ⟨rfl, ?_⟩ | refine ⟨step_nat (by assumption) (by assumption), ?_⟩
  · repeat' first | exact trivial | refine ⟨rfl, ?_⟩ | refine ⟨step_nat (by assumption) (by assumption), ?_⟩
  rintro ⟨k, hk, hI⟩
  show W _ _ _ _ _ ⟨[(8, .d (.v (.int .i64 ((k : Nat) : Int)))), (0, _), (1, _), (7, _)], [], [], 0⟩
  refine W.seq ?_
  refine W.region ?_
  refine pu (ev tab rfl) rfl ?_
  refine WO.nil ?_
  refine qs ?_
  refine W.seq ?_
  refine eachR (l := l) (k := k) rfl (by simp [Ex.kc_len, bytes_len]) hk (fun x hx hd hlt => ?_) (fun he hd => ?_)
  · skip
    refine W.skip ?_
    refine qs ?_
    refine W.seq ?_
    refine W.block ?_
    refine W.seq ?_
    refine W.region ?_
    iterate 2 refine pu (ev tab rfl) rfl ?_
    refine WO.nil ?_
    refine qs ?_
    refine W.seq ?_
    refine W.region ?_
    iterate 3 refine pu (ev tab rfl) rfl ?_
    refine pu (indexAddr tab rfl rfl rfl rfl rfl rfl (Int.natCast_nonneg _) (idx_map (by assumption)) rfl) rfl ?_
    first | refine pu (ev tab rfl) rfl ?_ | refine pu (loadRow tab rfl rfl rfl rfl) rfl ?_ | refine pu (loadBox tab rfl rfl rfl rfl rfl) rfl ?_
    refine pu (puCall rfl rfl (by rw [List.map_append, hc.1 _ 3]; rfl) (hp x) rfl) rfl ?_
    refine WO.nil ?_
    refine qs ?_
    refine condK rfl (fun h16 => ?_) (fun h16 => ?_)
    · skip
      refine W.seq ?_
      refine W.region ?_
      iterate 2 refine pu (ev tab rfl) rfl ?_
      refine WO.nil ?_
      refine qs ?_
      refine W.ret ?_
      refine qbRet ?_
      refine qsRet ?_
      refine qlRet ?_
      refine qbRet ?_
      refine qsRet ?_
      refine QF.ret0 trivial rfl ?_
      simp only [norm, oneA]; rw [hI.found hx h16]; rfl
    · skip
      refine W.skip ?_
      refine qbN ?_
      refine qs ?_
      refine W.region ?_
      iterate 2 refine pu (ev tab rfl) rfl ?_
      refine WO.nil ?_
      refine W.endR [] ⟨k + 1, ?_⟩ ?_ rfl ?_ ⟨rfl, (by first | rfl | exact hc.2), rfl, (by first | rfl | exact hc.2), rfl, (by first | rfl | exact hc.2), trivial⟩ ?_ trivial rfl
      · exact ⟨hlt, hI.step hx h16⟩
      · dsimp only; omega
      · repeat' first | exact trivial | refine ⟨rfl, ?_⟩ | refine ⟨step_nat (by assumption) (by assumption), ?_⟩
      · repeat' first | exact trivial | refine ⟨rfl, ?_⟩ | refine ⟨step_nat (by assumption) (by assumption), ?_⟩
  · skip
    refine W.exit ?_
    refine qsExit ?_
    refine qlExit ?_
    refine qbExit ?_
    refine qs ?_
    refine W.seq ?_
    refine W.region ?_
    refine pu (ev tab rfl) rfl ?_
    refine WO.nil ?_
    refine qs ?_
    refine W.ret ?_
    refine QF.ret0 trivial rfl ?_
    simp only [norm, oneA]; rw [hI.end_ he]; rfl
theorem idxKind_fn (fid : Nat) (caps : List A) (hc : Still caps) (p : Int → Bool) (hp : ∀ x : Int, Does Tryz.prog fid (.d (.v (.int .i64 x)) :: caps) (.d (.v (.bool (p x)))) 0) (l : List Int) :
    Does Tryz.prog 102 [.d (.sl (l.map ic)), .clo fid caps] (.d (.v (.int .i64 (idx (l.findIdx? p))))) 0 := by
  refine Does.of_W (n := 19) (ts := [4]) Tryz.func102 (by kernel_rfl) rfl Tryz.ntmps102 Tryz.results102 rfl rfl fun C hC => ?_
  refine W.seq ?_
  refine W.region ?_
  refine pu (ev tab rfl) rfl ?_
  refine WO.nil ?_
  refine qs ?_
  refine W.seq ?_
  refine W.seq ?_
  refine W.region ?_
  iterate 3 refine pu (ev tab rfl) rfl ?_
  refine WO.nil ?_
  refine qs ?_
  refine W.block ?_
  refine W.len (t := 0) rfl rfl (fun hlen => ?_)
  try simp only [List.length_map, Ex.kc_len] at hlen
  refine W.loopR (ι := {x : Nat // match x with | k => k ≤ l.length ∧ noneBefore p l k})
    (fun x => match x.1 with | k => [(8, .d (.v (.int .i64 ((k : Nat) : Int))))]) [(0, _), (1, _), (7, _)]
    (fun x => match x.1 with | k => []) [] [] 0 (fun x => match x.1 with | k => l.length - k)
    [] ⟨0, ?_⟩ rfl ?_ ⟨rfl, (by first | rfl | exact hc.2), rfl, (by first | rfl | exact hc.2), rfl, (by first | rfl | exact hc.2), trivial⟩ ?_ trivial rfl ?_
  · exact ⟨Nat.zero_le _, noneBefore.zero⟩
  · repeat' first | exact trivial | refine ⟨rfl, ?_⟩ | refine ⟨step_nat (by assumption) (by assumption), ?_⟩
  · repeat' first | exact trivial | refine ⟨rfl, ?_⟩ | refine ⟨step_nat (by assumption) (by assumption), ?_⟩
  rintro ⟨k, hk, hI⟩
  show W _ _ _ _ _ ⟨[(8, .d (.v (.int .i64 ((k : Nat) : Int)))), (0, _), (1, _), (7, _)], [], [], 0⟩
  refine W.seq ?_
  refine W.region ?_
  refine pu (ev tab rfl) rfl ?_
  refine WO.nil ?_
  refine qs ?_
  refine W.seq ?_
  refine eachR (l := l) (k := k) rfl (by simp [Ex.kc_len, bytes_len]) hk (fun x hx hd hlt => ?_) (fun he hd => ?_)
  · skip
    refine W.skip ?_
    refine qs ?_
    refine W.seq ?_
    refine W.block ?_
    refine W.seq ?_
    refine W.region ?_
    iterate 2 refine pu (ev tab rfl) rfl ?_
    refine WO.nil ?_
    refine qs ?_
    refine W.seq ?_
    refine W.region ?_
    iterate 3 refine pu (ev tab rfl) rfl ?_
    refine pu (indexAddr tab rfl rfl rfl rfl rfl rfl (Int.natCast_nonneg _) (idx_map (by assumption)) rfl) rfl ?_
    first | refine pu (ev tab rfl) rfl ?_ | refine pu (loadRow tab rfl rfl rfl rfl) rfl ?_ | refine pu (loadBox tab rfl rfl rfl rfl rfl) rfl ?_
    refine pu (puCall rfl rfl (by rw [List.map_append, hc.1 _ 3]; rfl) (hp x) rfl) rfl ?_
    refine WO.nil ?_
    refine qs ?_
    refine condK rfl (fun h16 => ?_) (fun h16 => ?_)
    · skip
      refine W.seq ?_
      refine W.region ?_
      iterate 2 refine pu (ev tab rfl) rfl ?_
      refine WO.nil ?_
      refine qs ?_
      refine W.ret ?_
      refine qbRet ?_
      refine qsRet ?_
      refine qlRet ?_
      refine qbRet ?_
      refine qsRet ?_
      refine QF.ret0 trivial rfl ?_
      simp only [norm, oneA]; rw [hI.found hx h16]; rfl
    · skip
      refine W.skip ?_
      refine qbN ?_
      refine qs ?_
      refine W.region ?_
      iterate 2 refine pu (ev tab rfl) rfl ?_
      refine WO.nil ?_
      refine W.endR [] ⟨k + 1, ?_⟩ ?_ rfl ?_ ⟨rfl, (by first | rfl | exact hc.2), rfl, (by first | rfl | exact hc.2), rfl, (by first | rfl | exact hc.2), trivial⟩ ?_ trivial rfl
      · exact ⟨hlt, hI.step hx h16⟩
      · dsimp only; omega
      · repeat' first | exact trivial | refine ⟨rfl, ?_⟩ | refine ⟨step_nat (by assumption) (by assumption), ?_⟩
      · repeat' first | exact trivial | refine ⟨rfl, ?_⟩ | refine ⟨step_nat (by assumption) (by assumption), ?_⟩
  · skip
    refine W.exit ?_
    refine qsExit ?_
    refine qlExit ?_
    refine qbExit ?_
    refine qs ?_
    refine W.seq ?_
    refine W.region ?_
    refine pu (ev tab rfl) rfl ?_
    refine WO.nil ?_
    refine qs ?_
    refine W.ret ?_
    refine QF.ret0 trivial rfl ?_
    simp only [norm, oneA]; rw [hI.end_ he]; rfl
theorem index_fn (l : List ByteArray) (s : ByteArray) : Does Tryz.prog 87 [.d (.sl (l.map sc)), .d (.v (.string s))] (.d (.v (.int .i64 (idx (l.findIdx? fun x => decide (s = x)))))) 0 := by
  refine Does.of_W (n := 19) (ts := [4]) Tryz.func87 (by kernel_rfl) rfl Tryz.ntmps87 Tryz.results87 rfl rfl fun C hC => ?_
  refine W.seq ?_
  refine W.region ?_
  refine pu (ev tab rfl) rfl ?_
  refine WO.nil ?_
  refine qs ?_
  refine W.seq ?_
  refine W.seq ?_
  refine W.region ?_
  iterate 3 refine pu (ev tab rfl) rfl ?_
  refine WO.nil ?_
  refine qs ?_
  refine W.block ?_
  refine W.len (t := 0) rfl rfl (fun hlen => ?_)
  try simp only [List.length_map, Ex.kc_len] at hlen
  refine W.loopR (ι := {x : Nat // match x with | k => k ≤ l.length ∧ noneBefore (fun x => decide (s = x)) l k})
    (fun x => match x.1 with | k => [(8, .d (.v (.int .i64 ((k : Nat) : Int))))]) [(0, _), (1, _), (7, _)]
    (fun x => match x.1 with | k => []) [] [] 0 (fun x => match x.1 with | k => l.length - k)
    [] ⟨0, ?_⟩ rfl ?_ ⟨rfl, rfl, rfl, rfl, rfl, rfl, trivial⟩ ?_ trivial rfl ?_
  · exact ⟨Nat.zero_le _, noneBefore.zero⟩
  · repeat' first | exact trivial | refine ⟨rfl, ?_⟩ | refine ⟨step_nat (by assumption) (by assumption), ?_⟩
  · repeat' first | exact trivial | refine ⟨rfl, ?_⟩ | refine ⟨step_nat (by assumption) (by assumption), ?_⟩
  rintro ⟨k, hk, hI⟩
  show W _ _ _ _ _ ⟨[(8, .d (.v (.int .i64 ((k : Nat) : Int)))), (0, _), (1, _), (7, _)], [], [], 0⟩
  refine W.seq ?_
  refine W.region ?_
  refine pu (ev tab rfl) rfl ?_
  refine WO.nil ?_
  refine qs ?_
  refine W.seq ?_
  refine eachR (l := l) (k := k) rfl (by simp [Ex.kc_len, bytes_len]) hk (fun x hx hd hlt => ?_) (fun he hd => ?_)
  · skip
    refine W.skip ?_
    refine qs ?_
    refine W.seq ?_
    refine W.block ?_
    refine W.seq ?_
    refine W.region ?_
    iterate 2 refine pu (ev tab rfl) rfl ?_
    refine WO.nil ?_
    refine qs ?_
    refine W.seq ?_
    refine W.region ?_
    iterate 3 refine pu (ev tab rfl) rfl ?_
    refine pu (indexAddr tab rfl rfl rfl rfl rfl rfl (Int.natCast_nonneg _) (idx_map (by assumption)) rfl) rfl ?_
    first | refine pu (ev tab rfl) rfl ?_ | refine pu (loadRow tab rfl rfl rfl rfl) rfl ?_ | refine pu (loadBox tab rfl rfl rfl rfl rfl) rfl ?_
    refine pu (ev tab rfl) rfl ?_
    refine WO.nil ?_
    refine qs ?_
    refine condK rfl (fun h16 => ?_) (fun h16 => ?_)
    · skip
      refine W.seq ?_
      refine W.region ?_
      iterate 2 refine pu (ev tab rfl) rfl ?_
      refine WO.nil ?_
      refine qs ?_
      refine W.ret ?_
      refine qbRet ?_
      refine qsRet ?_
      refine qlRet ?_
      refine qbRet ?_
      refine qsRet ?_
      refine QF.ret0 trivial rfl ?_
      simp only [norm, oneA]; rw [hI.found hx h16]; rfl
    · skip
      refine W.skip ?_
      refine qbN ?_
      refine qs ?_
      refine W.region ?_
      iterate 2 refine pu (ev tab rfl) rfl ?_
      refine WO.nil ?_
      refine W.endR [] ⟨k + 1, ?_⟩ ?_ rfl ?_ ⟨rfl, rfl, rfl, rfl, rfl, rfl, trivial⟩ ?_ trivial rfl
      · exact ⟨hlt, hI.step hx h16⟩
      · dsimp only; omega
      · repeat' first | exact trivial | refine ⟨rfl, ?_⟩ | refine ⟨step_nat (by assumption) (by assumption), ?_⟩
      · repeat' first | exact trivial | refine ⟨rfl, ?_⟩ | refine ⟨step_nat (by assumption) (by assumption), ?_⟩
  · skip
    refine W.exit ?_
    refine qsExit ?_
    refine qlExit ?_
    refine qbExit ?_
    refine qs ?_
    refine W.seq ?_
    refine W.region ?_
    refine pu (ev tab rfl) rfl ?_
    refine WO.nil ?_
    refine qs ?_
    refine W.ret ?_
    refine QF.ret0 trivial rfl ?_
    simp only [norm, oneA]; rw [hI.end_ he]; rfl

theorem indexOp_fn (l : List Int) (s : Int) : Does Tryz.prog 101 [.d (.sl (l.map ic)), .d (.v (.int .i64 s))] (.d (.v (.int .i64 (idx (l.findIdx? fun x => decide (s = x)))))) 0 := by
  refine Does.of_W (n := 19) (ts := [4]) Tryz.func101 (by kernel_rfl) rfl Tryz.ntmps101 Tryz.results101 rfl rfl fun C hC => ?_
  refine W.seq ?_
  refine W.region ?_
  refine pu (ev tab rfl) rfl ?_
  refine WO.nil ?_
  refine qs ?_
  refine W.seq ?_
  refine W.seq ?_
  refine W.region ?_
  iterate 3 refine pu (ev tab rfl) rfl ?_
  refine WO.nil ?_
  refine qs ?_
  refine W.block ?_
  refine W.len (t := 0) rfl rfl (fun hlen => ?_)
  try simp only [List.length_map, Ex.kc_len] at hlen
  refine W.loopR (ι := {x : Nat // match x with | k => k ≤ l.length ∧ noneBefore (fun x => decide (s = x)) l k})
    (fun x => match x.1 with | k => [(8, .d (.v (.int .i64 ((k : Nat) : Int))))]) [(0, _), (1, _), (7, _)]
    (fun x => match x.1 with | k => []) [] [] 0 (fun x => match x.1 with | k => l.length - k)
    [] ⟨0, ?_⟩ rfl ?_ ⟨rfl, rfl, rfl, rfl, rfl, rfl, trivial⟩ ?_ trivial rfl ?_
  · exact ⟨Nat.zero_le _, noneBefore.zero⟩
  · repeat' first | exact trivial | refine ⟨rfl, ?_⟩ | refine ⟨step_nat (by assumption) (by assumption), ?_⟩
  · repeat' first | exact trivial | refine ⟨rfl, ?_⟩ | refine ⟨step_nat (by assumption) (by assumption), ?_⟩
  rintro ⟨k, hk, hI⟩
  show W _ _ _ _ _ ⟨[(8, .d (.v (.int .i64 ((k : Nat) : Int)))), (0, _), (1, _), (7, _)], [], [], 0⟩
  refine W.seq ?_
  refine W.region ?_
  refine pu (ev tab rfl) rfl ?_
  refine WO.nil ?_
  refine qs ?_
  refine W.seq ?_
  refine eachR (l := l) (k := k) rfl (by simp [Ex.kc_len, bytes_len]) hk (fun x hx hd hlt => ?_) (fun he hd => ?_)
  · skip
    refine W.skip ?_
    refine qs ?_
    refine W.seq ?_
    refine W.block ?_
    refine W.seq ?_
    refine W.region ?_
    iterate 2 refine pu (ev tab rfl) rfl ?_
    refine WO.nil ?_
    refine qs ?_
    refine W.seq ?_
    refine W.region ?_
    iterate 3 refine pu (ev tab rfl) rfl ?_
    refine pu (indexAddr tab rfl rfl rfl rfl rfl rfl (Int.natCast_nonneg _) (idx_map (by assumption)) rfl) rfl ?_
    first | refine pu (ev tab rfl) rfl ?_ | refine pu (loadRow tab rfl rfl rfl rfl) rfl ?_ | refine pu (loadBox tab rfl rfl rfl rfl rfl) rfl ?_
    refine pu (ev tab rfl) rfl ?_
    refine WO.nil ?_
    refine qs ?_
    refine condK rfl (fun h16 => ?_) (fun h16 => ?_)
    · skip
      refine W.seq ?_
      refine W.region ?_
      iterate 2 refine pu (ev tab rfl) rfl ?_
      refine WO.nil ?_
      refine qs ?_
      refine W.ret ?_
      refine qbRet ?_
      refine qsRet ?_
      refine qlRet ?_
      refine qbRet ?_
      refine qsRet ?_
      refine QF.ret0 trivial rfl ?_
      simp only [norm, oneA]; rw [hI.found hx h16]; rfl
    · skip
      refine W.skip ?_
      refine qbN ?_
      refine qs ?_
      refine W.region ?_
      iterate 2 refine pu (ev tab rfl) rfl ?_
      refine WO.nil ?_
      refine W.endR [] ⟨k + 1, ?_⟩ ?_ rfl ?_ ⟨rfl, rfl, rfl, rfl, rfl, rfl, trivial⟩ ?_ trivial rfl
      · exact ⟨hlt, hI.step hx h16⟩
      · dsimp only; omega
      · repeat' first | exact trivial | refine ⟨rfl, ?_⟩ | refine ⟨step_nat (by assumption) (by assumption), ?_⟩
      · repeat' first | exact trivial | refine ⟨rfl, ?_⟩ | refine ⟨step_nat (by assumption) (by assumption), ?_⟩
  · skip
    refine W.exit ?_
    refine qsExit ?_
    refine qlExit ?_
    refine qbExit ?_
    refine qs ?_
    refine W.seq ?_
    refine W.region ?_
    refine pu (ev tab rfl) rfl ?_
    refine WO.nil ?_
    refine qs ?_
    refine W.ret ?_
    refine QF.ret0 trivial rfl ?_
    simp only [norm, oneA]; rw [hI.end_ he]; rfl

theorem contains_fn (l : List ByteArray) (s : ByteArray) : Does Tryz.prog 56 [.d (.sl (l.map sc)), .d (.v (.string s))] (.d (.v (.bool (l.any fun x => decide (s = x))))) 0 := by
  refine Does.of_W (n := 9) (ts := [4]) Tryz.func56 (by kernel_rfl) rfl Tryz.ntmps56 Tryz.results56 rfl rfl fun C hC => ?_
  refine W.seq ?_
  refine W.region ?_
  refine pu (ev tab rfl) rfl ?_
  refine WO.nil ?_
  refine qs ?_
  refine W.seq ?_
  refine W.region ?_
  iterate 2 refine pu (ev tab rfl) rfl ?_
  refine pu (puCall rfl rfl rfl (index_fn ..) rfl) rfl ?_
  iterate 2 refine pu (ev tab rfl) rfl ?_
  refine WO.nil ?_
  refine qs ?_
  refine W.ret ?_
  refine QF.ret0 trivial rfl ?_
  simp only [norm, oneA]; rw [← idx_nonneg]

theorem containsOp_fn (l : List Int) (s : Int) : Does Tryz.prog 81 [.d (.sl (l.map ic)), .d (.v (.int .i64 s))] (.d (.v (.bool (l.any fun x => decide (s = x))))) 0 := by
  refine Does.of_W (n := 9) (ts := [4]) Tryz.func81 (by kernel_rfl) rfl Tryz.ntmps81 Tryz.results81 rfl rfl fun C hC => ?_
  refine W.seq ?_
  refine W.region ?_
  refine pu (ev tab rfl) rfl ?_
  refine WO.nil ?_
  refine qs ?_
  refine W.seq ?_
  refine W.region ?_
  iterate 2 refine pu (ev tab rfl) rfl ?_
  refine pu (puCall rfl rfl rfl (indexOp_fn ..) rfl) rfl ?_
  iterate 2 refine pu (ev tab rfl) rfl ?_
  refine WO.nil ?_
  refine qs ?_
  refine W.ret ?_
  refine QF.ret0 trivial rfl ?_
  simp only [norm, oneA]; rw [← idx_nonneg]

theorem containsStr_fn (fid : Nat) (caps : List A) (hc : Still caps) (p : ByteArray → Bool) (hp : ∀ x : ByteArray, Does Tryz.prog fid (.d (.v (.string x)) :: caps) (.d (.v (.bool (p x)))) 0) (l : List ByteArray) :
    Does Tryz.prog 58 [.d (.sl (l.map sc)), .clo fid caps] (.d (.v (.bool (l.any p)))) 0 := by
  refine Does.of_W (n := 9) (ts := [4]) Tryz.func58 (by kernel_rfl) rfl Tryz.ntmps58 Tryz.results58 rfl rfl fun C hC => ?_
  refine W.seq ?_
  refine W.region ?_
  refine pu (ev tab rfl) rfl ?_
  refine WO.nil ?_
  refine qs ?_
  refine W.seq ?_
  refine W.region ?_
  iterate 2 refine pu (ev tab rfl) rfl ?_
  refine pu (puCall (args := [.d (.sl (l.map sc)), .clo fid caps]) rfl rfl (by simp [conv, hc.1 _ 2]) (idxStr_fn fid caps hc p hp l) rfl) rfl ?_
  iterate 2 refine pu (ev tab rfl) rfl ?_
  refine WO.nil ?_
  refine qs ?_
  refine W.ret ?_
  refine QF.ret0 trivial rfl ?_
  simp only [norm, oneA]; rw [← idx_nonneg]
theorem containsKind_fn (fid : Nat) (caps : List A) (hc : Still caps) (p : Int → Bool) (hp : ∀ x : Int, Does Tryz.prog fid (.d (.v (.int .i64 x)) :: caps) (.d (.v (.bool (p x)))) 0) (l : List Int) :
    Does Tryz.prog 85 [.d (.sl (l.map ic)), .clo fid caps] (.d (.v (.bool (l.any p)))) 0 := by
  refine Does.of_W (n := 9) (ts := [4]) Tryz.func85 (by kernel_rfl) rfl Tryz.ntmps85 Tryz.results85 rfl rfl fun C hC => ?_
  refine W.seq ?_
  refine W.region ?_
  refine pu (ev tab rfl) rfl ?_
  refine WO.nil ?_
  refine qs ?_
  refine W.seq ?_
  refine W.region ?_
  iterate 2 refine pu (ev tab rfl) rfl ?_
  refine pu (puCall (args := [.d (.sl (l.map ic)), .clo fid caps]) rfl rfl (by simp [conv, hc.1 _ 2]) (idxKind_fn fid caps hc p hp l) rfl) rfl ?_
  iterate 2 refine pu (ev tab rfl) rfl ?_
  refine WO.nil ?_
  refine qs ?_
  refine W.ret ?_
  refine QF.ret0 trivial rfl ?_
  simp only [norm, oneA]; rw [← idx_nonneg]
theorem colEq_fn (name : ByteArray) (x : Col) : Does Tryz.prog 55 [.ag x.c, .row [.d (.v (.string name))]] (.d (.v (.bool (decide (x.name = name))))) 0 := by
  refine Does.of_W (n := 8) (ts := [3]) Tryz.func55 (by kernel_rfl) rfl Tryz.ntmps55 Tryz.results55 rfl rfl fun C hC => ?_
  refine W.seq ?_
  refine W.region ?_
  refine boxR rfl rfl rfl ?_
  refine pu (ev tab rfl) rfl ?_
  refine WO.nil ?_
  refine qs ?_
  refine W.seq ?_
  refine W.region ?_
  refine pu (ev tab rfl) rfl ?_
  first | refine pu (ev tab rfl) rfl ?_ | refine pu (loadRow tab rfl rfl rfl rfl) rfl ?_ | refine pu (loadBox tab rfl rfl rfl rfl rfl) rfl ?_
  first | refine pu (ev tab rfl) rfl ?_ | refine pu (loadRow tab rfl rfl rfl rfl) rfl ?_ | refine pu (loadBox tab rfl rfl rfl rfl rfl) rfl ?_
  iterate 2 refine pu (ev tab rfl) rfl ?_
  refine WO.nil ?_
  refine qs ?_
  refine W.ret ?_
  refine QF.ret0 trivial rfl ?_
  rfl
theorem column_fn (cols : List Col) (name : ByteArray) : Does Tryz.prog 24 [.d (.sl (cols.map Col.c)), .d (.v (.string name))] (.d (.v (.int .i64 (idx (cols.findIdx? fun x => decide (x.name = name)))))) 0 := by
  refine Does.of_W (n := 8) (ts := [4]) Tryz.func24 (by kernel_rfl) rfl Tryz.ntmps24 Tryz.results24 rfl rfl fun C hC => ?_
  refine W.seq ?_
  refine W.region ?_
  refine boxR rfl rfl rfl ?_
  refine pu (ev tab rfl) rfl ?_
  refine WO.nil ?_
  refine qs ?_
  refine W.seq ?_
  refine W.region ?_
  iterate 2 refine pu (ev tab rfl) rfl ?_
  refine pu (puCall rfl rfl rfl (idxCol_fn _ _ ⟨fun _ _ => rfl, rfl⟩ _ (colEq_fn name) cols) rfl) rfl ?_
  refine pu (ev tab rfl) rfl ?_
  refine WO.nil ?_
  refine qs ?_
  refine W.ret ?_
  refine QF.ret0 trivial rfl ?_
  rfl
theorem tcolEq_fn (name : ByteArray) (x : Col) : Does Tryz.prog 107 [.ag x.c, .row [.d (.v (.string name))]] (.d (.v (.bool (decide (x.name = name))))) 0 := by
  refine Does.of_W (n := 8) (ts := [3]) Tryz.func107 (by kernel_rfl) rfl Tryz.ntmps107 Tryz.results107 rfl rfl fun C hC => ?_
  refine W.seq ?_
  refine W.region ?_
  refine boxR rfl rfl rfl ?_
  refine pu (ev tab rfl) rfl ?_
  refine WO.nil ?_
  refine qs ?_
  refine W.seq ?_
  refine W.region ?_
  refine pu (ev tab rfl) rfl ?_
  first | refine pu (ev tab rfl) rfl ?_ | refine pu (loadRow tab rfl rfl rfl rfl) rfl ?_ | refine pu (loadBox tab rfl rfl rfl rfl rfl) rfl ?_
  first | refine pu (ev tab rfl) rfl ?_ | refine pu (loadRow tab rfl rfl rfl rfl) rfl ?_ | refine pu (loadBox tab rfl rfl rfl rfl rfl) rfl ?_
  iterate 2 refine pu (ev tab rfl) rfl ?_
  refine WO.nil ?_
  refine qs ?_
  refine W.ret ?_
  refine QF.ret0 trivial rfl ?_
  rfl
theorem tcol_fn (t : Tbl) (name : ByteArray) : Does Tryz.prog 95 [.ag t.c, .d (.v (.string name))] (.d (.v (.int .i64 (idx (t.cols.findIdx? fun x => decide (x.name = name)))))) 0 := by
  refine Does.of_W (n := 9) (ts := [4]) Tryz.func95 (by kernel_rfl) rfl Tryz.ntmps95 Tryz.results95 rfl rfl fun C hC => ?_
  refine W.seq ?_
  refine W.region ?_
  refine boxR rfl rfl rfl ?_
  refine boxR rfl rfl rfl ?_
  refine pu (ev tab rfl) rfl ?_
  refine WO.nil ?_
  refine qs ?_
  refine W.seq ?_
  refine W.region ?_
  refine pu (ev tab rfl) rfl ?_
  first | refine pu (ev tab rfl) rfl ?_ | refine pu (loadRow tab rfl rfl rfl rfl) rfl ?_ | refine pu (loadBox tab rfl rfl rfl rfl rfl) rfl ?_
  refine pu (ev tab rfl) rfl ?_
  refine pu (puCall rfl rfl rfl (idxCol_fn _ _ ⟨fun _ _ => rfl, rfl⟩ _ (tcolEq_fn name) t.cols) rfl) rfl ?_
  refine pu (ev tab rfl) rfl ?_
  refine WO.nil ?_
  refine qs ?_
  refine W.ret ?_
  refine QF.ret0 trivial rfl ?_
  rfl
theorem allk_fn (want : Int) (x : Int) : Does Tryz.prog 86 [.d (.v (.int .i64 x)), .row [.d (.v (.int .i64 want))]] (.d (.v (.bool (!fits x want)))) 0 := by
  refine Does.of_W (n := 8) (ts := [3]) Tryz.func86 (by kernel_rfl) rfl Tryz.ntmps86 Tryz.results86 rfl rfl fun C hC => ?_
  refine W.seq ?_
  refine W.region ?_
  refine pu (ev tab rfl) rfl ?_
  refine WO.nil ?_
  refine qs ?_
  refine W.seq ?_
  refine W.region ?_
  refine pu (ev tab rfl) rfl ?_
  first | refine pu (ev tab rfl) rfl ?_ | refine pu (loadRow tab rfl rfl rfl rfl) rfl ?_ | refine pu (loadBox tab rfl rfl rfl rfl rfl) rfl ?_
  refine pu (puCall rfl rfl rfl (fits_fn ..) rfl) rfl ?_
  iterate 2 refine pu (ev tab rfl) rfl ?_
  refine WO.nil ?_
  refine qs ?_
  refine W.ret ?_
  refine QF.ret0 trivial rfl ?_
  rfl
theorem all_fn (l : List Int) (want : Int) : Does Tryz.prog 51 [.d (.sl (l.map ic)), .d (.v (.int .i64 want))] (.d (.v (.bool (l.all fun k => fits k want)))) 0 := by
  refine Does.of_W (n := 9) (ts := [4]) Tryz.func51 (by kernel_rfl) rfl Tryz.ntmps51 Tryz.results51 rfl rfl fun C hC => ?_
  refine W.seq ?_
  refine W.region ?_
  refine boxR rfl rfl rfl ?_
  refine pu (ev tab rfl) rfl ?_
  refine WO.nil ?_
  refine qs ?_
  refine W.seq ?_
  refine W.region ?_
  iterate 2 refine pu (ev tab rfl) rfl ?_
  refine pu (puCall rfl rfl rfl (containsKind_fn _ _ ⟨fun _ _ => rfl, rfl⟩ _ (allk_fn want) l) rfl) rfl ?_
  iterate 2 refine pu (ev tab rfl) rfl ?_
  refine WO.nil ?_
  refine qs ?_
  refine W.ret ?_
  refine QF.ret0 trivial rfl ?_
  simp [norm, oneA, List.all_eq_not_any_not]
end Go.Proofs.YtmhjgeneogknpaaGreat
namespace Go.Proofs.YtmhjgeneogknpaaGreat
open Go.Ab Go.Tb
set_option maxRecDepth 10000
attribute [local irreducible] W WO Pu QS QB QL QF QV QV1 CH QE
theorem ixb_fn (s : ByteArray) (b : UInt8) : Does Tryz.prog 115 [.d (.v (.string s)), .d (.v (.int .u8 b.toNat))] (.d (.v (.int .i64 (Lib.indexByte (bys s) b)))) 0 := by
  refine Does.of_W (n := 8) (ts := [4]) Tryz.func115 (by kernel_rfl) rfl Tryz.ntmps115 Tryz.results115 rfl rfl fun C hC => ?_
  refine W.inRange (t := 0) rfl (fun hok => ?_)
  refine W.seq ?_
  refine W.region ?_
  refine pu (ev tab rfl) rfl ?_
  refine WO.nil ?_
  refine qs ?_
  refine W.seq ?_
  refine W.region ?_
  iterate 2 refine pu (ev tab rfl) rfl ?_
  refine pu (puExt (vs := [.string s, .int .u8 b.toNat]) rfl rfl (fun w => (run_callFunc_extern Tryz.func116 (by kernel_rfl) (by kernel_rfl) (by kernel_rfl) (by kernel_rfl) #[.string s, .int .u8 b.toNat] w).trans (by rw [show (Extern.BytealgIndexByte.indexByte #[.string s, .int .u8 b.toNat]).run Tryz.prog w = _ from Lib.run_indexByteString s b.toNat w]; rfl)) (indexByte_ok hok _)) rfl ?_
  refine pu (ev tab rfl) rfl ?_
  refine WO.nil ?_
  refine qs ?_
  refine W.ret ?_
  refine QF.ret0 trivial rfl ?_
  simp [norm, oneA, bys]
theorem sixb_fn (s : ByteArray) (b : UInt8) : Does Tryz.prog 106 [.d (.v (.string s)), .d (.v (.int .u8 b.toNat))] (.d (.v (.int .i64 (Lib.indexByte (bys s) b)))) 0 := by
  refine Does.of_W (n := 8) (ts := [4]) Tryz.func106 (by kernel_rfl) rfl Tryz.ntmps106 Tryz.results106 rfl rfl fun C hC => ?_
  refine W.seq ?_
  refine W.region ?_
  refine pu (ev tab rfl) rfl ?_
  refine WO.nil ?_
  refine qs ?_
  refine W.seq ?_
  refine W.region ?_
  iterate 2 refine pu (ev tab rfl) rfl ?_
  refine pu (puCall rfl rfl rfl (ixb_fn ..) rfl) rfl ?_
  refine pu (ev tab rfl) rfl ?_
  refine WO.nil ?_
  refine qs ?_
  refine W.ret ?_
  refine QF.ret0 trivial rfl ?_
  rfl
theorem letter_fn (b : UInt8) : Does Tryz.prog 94 [.d (.v (.int .u8 b.toNat))] (.d (.v (.bool (letterB b)))) 0 := by
  refine Does.of_W (n := 30) (ts := [2]) Tryz.func94 (by kernel_rfl) rfl Tryz.ntmps94 Tryz.results94 rfl rfl fun C hC => ?_
  refine W.seq ?_
  refine W.region ?_
  refine pu (ev tab rfl) rfl ?_
  refine WO.nil ?_
  refine qs ?_
  refine W.seq ?_
  apply regionB; (case hb => rfl)
  · skip
    iterate 3 refine pu (ev tab rfl) rfl ?_
    apply splitJ; (case hj => rfl); (case hl => rfl)
    · skip
      refine goG rfl rfl ?_
      refine pu (ev tab rfl) rfl ?_
      refine goG rfl rfl ?_
      iterate 3 refine pu (ev tab rfl) rfl ?_
      apply splitJ; (case hj => rfl); (case hl => rfl)
      · skip
        refine skipT rfl rfl rfl rfl ?_
        refine skipT rfl rfl rfl rfl ?_
        refine skipT rfl rfl rfl rfl ?_
        refine skipU rfl rfl rfl ?_
        refine skipU rfl rfl rfl ?_
        refine skipT rfl rfl rfl rfl ?_
        iterate 2 refine pu (ev tab rfl) rfl ?_
        refine skipT rfl rfl rfl rfl ?_
        refine skipT rfl rfl rfl rfl ?_
        refine skipT rfl rfl rfl rfl ?_
        refine skipU rfl rfl rfl ?_
        refine skipU rfl rfl rfl ?_
        refine skipT rfl rfl rfl rfl ?_
        iterate 2 refine pu (ev tab rfl) rfl ?_
        refine skipT rfl rfl rfl rfl ?_
        refine skipT rfl rfl rfl rfl ?_
        refine skipT rfl rfl rfl rfl ?_
        iterate 2 refine pu (ev tab rfl) rfl ?_
        refine WO.nil ?_
        refine qv1 rfl rfl rfl
      · skip
        refine goG rfl rfl ?_
        refine pu (ev tab rfl) rfl ?_
        refine goG rfl rfl ?_
        refine pu (ev tab rfl) rfl ?_
        refine goG rfl rfl ?_
        refine pu (ev tab rfl) rfl ?_
        apply splitJ; (case hj => rfl); (case hl => rfl)
        · skip
          refine goG rfl rfl ?_
          refine pu (ev tab rfl) rfl ?_
          refine goG rfl rfl ?_
          refine pu (ev tab rfl) rfl ?_
          refine goG rfl rfl ?_
          iterate 3 refine pu (ev tab rfl) rfl ?_
          apply splitJ; (case hj => rfl); (case hl => rfl)
          · skip
            refine skipT rfl rfl rfl rfl ?_
            refine skipT rfl rfl rfl rfl ?_
            refine skipT rfl rfl rfl rfl ?_
            refine skipU rfl rfl rfl ?_
            refine skipU rfl rfl rfl ?_
            refine skipT rfl rfl rfl rfl ?_
            iterate 2 refine pu (ev tab rfl) rfl ?_
            refine skipT rfl rfl rfl rfl ?_
            refine skipT rfl rfl rfl rfl ?_
            refine skipT rfl rfl rfl rfl ?_
            iterate 2 refine pu (ev tab rfl) rfl ?_
            refine WO.nil ?_
            refine qv1 rfl rfl rfl
          · skip
            refine goG rfl rfl ?_
            refine pu (ev tab rfl) rfl ?_
            refine goG rfl rfl ?_
            refine pu (ev tab rfl) rfl ?_
            refine goG rfl rfl ?_
            refine pu (ev tab rfl) rfl ?_
            apply splitJ; (case hj => rfl); (case hl => rfl)
            · skip
              refine goG rfl rfl ?_
              refine pu (ev tab rfl) rfl ?_
              refine goG rfl rfl ?_
              refine pu (ev tab rfl) rfl ?_
              refine goG rfl rfl ?_
              iterate 3 refine pu (ev tab rfl) rfl ?_
              apply splitJ; (case hj => rfl); (case hl => rfl)
              · skip
                refine skipT rfl rfl rfl rfl ?_
                refine skipT rfl rfl rfl rfl ?_
                refine skipT rfl rfl rfl rfl ?_
                iterate 2 refine pu (ev tab rfl) rfl ?_
                refine WO.nil ?_
                refine qv1 rfl rfl rfl
              · skip
                refine goG rfl rfl ?_
                refine pu (ev tab rfl) rfl ?_
                refine goG rfl rfl ?_
                refine pu (puCall rfl rfl rfl (sixb_fn ..) rfl) rfl ?_
                refine goG rfl rfl ?_
                iterate 3 refine pu (ev tab rfl) rfl ?_
                refine WO.nil ?_
                refine qv1 rfl rfl rfl
            · skip
              refine skipT rfl rfl rfl rfl ?_
              refine skipT rfl rfl rfl rfl ?_
              refine goG rfl rfl ?_
              iterate 3 refine pu (ev tab rfl) rfl ?_
              refine goG rfl rfl ?_
              refine pu (ev tab rfl) rfl ?_
              refine goG rfl rfl ?_
              refine pu (puCall rfl rfl rfl (sixb_fn ..) rfl) rfl ?_
              refine goG rfl rfl ?_
              iterate 3 refine pu (ev tab rfl) rfl ?_
              refine WO.nil ?_
              refine qv1 rfl rfl rfl
        · skip
          refine skipT rfl rfl rfl rfl ?_
          refine skipT rfl rfl rfl rfl ?_
          refine goG rfl rfl ?_
          iterate 3 refine pu (ev tab rfl) rfl ?_
          refine goG rfl rfl ?_
          refine pu (ev tab rfl) rfl ?_
          refine goG rfl rfl ?_
          refine pu (ev tab rfl) rfl ?_
          refine goG rfl rfl ?_
          refine pu (ev tab rfl) rfl ?_
          apply splitJ; (case hj => rfl); (case hl => rfl)
          · skip
            refine goG rfl rfl ?_
            refine pu (ev tab rfl) rfl ?_
            refine goG rfl rfl ?_
            refine pu (ev tab rfl) rfl ?_
            refine goG rfl rfl ?_
            iterate 3 refine pu (ev tab rfl) rfl ?_
            apply splitJ; (case hj => rfl); (case hl => rfl)
            · skip
              refine skipT rfl rfl rfl rfl ?_
              refine skipT rfl rfl rfl rfl ?_
              refine skipT rfl rfl rfl rfl ?_
              iterate 2 refine pu (ev tab rfl) rfl ?_
              refine WO.nil ?_
              refine qv1 rfl rfl rfl
            · skip
              refine goG rfl rfl ?_
              refine pu (ev tab rfl) rfl ?_
              refine goG rfl rfl ?_
              refine pu (puCall rfl rfl rfl (sixb_fn ..) rfl) rfl ?_
              refine goG rfl rfl ?_
              iterate 3 refine pu (ev tab rfl) rfl ?_
              refine WO.nil ?_
              refine qv1 rfl rfl rfl
          · skip
            refine skipT rfl rfl rfl rfl ?_
            refine skipT rfl rfl rfl rfl ?_
            refine goG rfl rfl ?_
            iterate 3 refine pu (ev tab rfl) rfl ?_
            refine goG rfl rfl ?_
            refine pu (ev tab rfl) rfl ?_
            refine goG rfl rfl ?_
            refine pu (puCall rfl rfl rfl (sixb_fn ..) rfl) rfl ?_
            refine goG rfl rfl ?_
            iterate 3 refine pu (ev tab rfl) rfl ?_
            refine WO.nil ?_
            refine qv1 rfl rfl rfl
    · skip
      refine skipT rfl rfl rfl rfl ?_
      refine skipT rfl rfl rfl rfl ?_
      iterate 2 refine pu (ev tab rfl) rfl ?_
      refine goG rfl rfl ?_
      refine pu (ev tab rfl) rfl ?_
      refine goG rfl rfl ?_
      refine pu (ev tab rfl) rfl ?_
      refine goG rfl rfl ?_
      refine pu (ev tab rfl) rfl ?_
      apply splitJ; (case hj => rfl); (case hl => rfl)
      · skip
        refine goG rfl rfl ?_
        refine pu (ev tab rfl) rfl ?_
        refine goG rfl rfl ?_
        refine pu (ev tab rfl) rfl ?_
        refine goG rfl rfl ?_
        iterate 3 refine pu (ev tab rfl) rfl ?_
        apply splitJ; (case hj => rfl); (case hl => rfl)
        · skip
          refine skipT rfl rfl rfl rfl ?_
          refine skipT rfl rfl rfl rfl ?_
          refine skipT rfl rfl rfl rfl ?_
          refine skipU rfl rfl rfl ?_
          refine skipU rfl rfl rfl ?_
          refine skipT rfl rfl rfl rfl ?_
          iterate 2 refine pu (ev tab rfl) rfl ?_
          refine skipT rfl rfl rfl rfl ?_
          refine skipT rfl rfl rfl rfl ?_
          refine skipT rfl rfl rfl rfl ?_
          iterate 2 refine pu (ev tab rfl) rfl ?_
          refine WO.nil ?_
          refine qv1 rfl rfl rfl
        · skip
          refine goG rfl rfl ?_
          refine pu (ev tab rfl) rfl ?_
          refine goG rfl rfl ?_
          refine pu (ev tab rfl) rfl ?_
          refine goG rfl rfl ?_
          refine pu (ev tab rfl) rfl ?_
          apply splitJ; (case hj => rfl); (case hl => rfl)
          · skip
            refine goG rfl rfl ?_
            refine pu (ev tab rfl) rfl ?_
            refine goG rfl rfl ?_
            refine pu (ev tab rfl) rfl ?_
            refine goG rfl rfl ?_
            iterate 3 refine pu (ev tab rfl) rfl ?_
            apply splitJ; (case hj => rfl); (case hl => rfl)
            · skip
              refine skipT rfl rfl rfl rfl ?_
              refine skipT rfl rfl rfl rfl ?_
              refine skipT rfl rfl rfl rfl ?_
              iterate 2 refine pu (ev tab rfl) rfl ?_
              refine WO.nil ?_
              refine qv1 rfl rfl rfl
            · skip
              refine goG rfl rfl ?_
              refine pu (ev tab rfl) rfl ?_
              refine goG rfl rfl ?_
              refine pu (puCall rfl rfl rfl (sixb_fn ..) rfl) rfl ?_
              refine goG rfl rfl ?_
              iterate 3 refine pu (ev tab rfl) rfl ?_
              refine WO.nil ?_
              refine qv1 rfl rfl rfl
          · skip
            refine skipT rfl rfl rfl rfl ?_
            refine skipT rfl rfl rfl rfl ?_
            refine goG rfl rfl ?_
            iterate 3 refine pu (ev tab rfl) rfl ?_
            refine goG rfl rfl ?_
            refine pu (ev tab rfl) rfl ?_
            refine goG rfl rfl ?_
            refine pu (puCall rfl rfl rfl (sixb_fn ..) rfl) rfl ?_
            refine goG rfl rfl ?_
            iterate 3 refine pu (ev tab rfl) rfl ?_
            refine WO.nil ?_
            refine qv1 rfl rfl rfl
      · skip
        refine skipT rfl rfl rfl rfl ?_
        refine skipT rfl rfl rfl rfl ?_
        refine goG rfl rfl ?_
        iterate 3 refine pu (ev tab rfl) rfl ?_
        refine goG rfl rfl ?_
        refine pu (ev tab rfl) rfl ?_
        refine goG rfl rfl ?_
        refine pu (ev tab rfl) rfl ?_
        refine goG rfl rfl ?_
        refine pu (ev tab rfl) rfl ?_
        apply splitJ; (case hj => rfl); (case hl => rfl)
        · skip
          refine goG rfl rfl ?_
          refine pu (ev tab rfl) rfl ?_
          refine goG rfl rfl ?_
          refine pu (ev tab rfl) rfl ?_
          refine goG rfl rfl ?_
          iterate 3 refine pu (ev tab rfl) rfl ?_
          apply splitJ; (case hj => rfl); (case hl => rfl)
          · skip
            refine skipT rfl rfl rfl rfl ?_
            refine skipT rfl rfl rfl rfl ?_
            refine skipT rfl rfl rfl rfl ?_
            iterate 2 refine pu (ev tab rfl) rfl ?_
            refine WO.nil ?_
            refine qv1 rfl rfl rfl
          · skip
            refine goG rfl rfl ?_
            refine pu (ev tab rfl) rfl ?_
            refine goG rfl rfl ?_
            refine pu (puCall rfl rfl rfl (sixb_fn ..) rfl) rfl ?_
            refine goG rfl rfl ?_
            iterate 3 refine pu (ev tab rfl) rfl ?_
            refine WO.nil ?_
            refine qv1 rfl rfl rfl
        · skip
          refine skipT rfl rfl rfl rfl ?_
          refine skipT rfl rfl rfl rfl ?_
          refine goG rfl rfl ?_
          iterate 3 refine pu (ev tab rfl) rfl ?_
          refine goG rfl rfl ?_
          refine pu (ev tab rfl) rfl ?_
          refine goG rfl rfl ?_
          refine pu (puCall rfl rfl rfl (sixb_fn ..) rfl) rfl ?_
          refine goG rfl rfl ?_
          iterate 3 refine pu (ev tab rfl) rfl ?_
          refine WO.nil ?_
          refine qv1 rfl rfl rfl
  refine qs ?_
  refine W.ret ?_
  refine QF.ret0 trivial rfl ?_
  simp only [norm, oneA]; rw [indexByte_any]; simp only [letterB, lower, marks]; simp [bys]; grind
theorem name_fn (s : ByteArray) : Does Tryz.prog 74 [.d (.v (.string s))] (.d (.v (.int .i64 (nameErr s)))) 0 := by
  refine Does.of_W (n := 22) (ts := [2]) Tryz.func74 (by kernel_rfl) rfl Tryz.ntmps74 Tryz.results74 rfl rfl fun C hC => ?_
  refine W.seq ?_
  refine W.region ?_
  refine pu (ev tab rfl) rfl ?_
  refine WO.nil ?_
  refine qs ?_
  refine W.seq ?_
  refine W.seq ?_
  apply regionB; (case hb => rfl)
  · skip
    iterate 3 refine pu (ev tab rfl) rfl ?_
    apply splitJ; (case hj => rfl); (case hl => rfl)
    · skip
      refine skipT rfl rfl rfl rfl ?_
      refine skipT rfl rfl rfl rfl ?_
      refine skipT rfl rfl rfl rfl ?_
      refine pu (ev tab rfl) rfl ?_
      refine WO.nil ?_
      refine qv1 rfl rfl rfl
    · skip
      refine goG rfl rfl ?_
      refine pu (ev tab rfl) rfl ?_
      refine goG rfl rfl ?_
      refine pu (ev tab rfl) rfl ?_
      refine goG rfl rfl ?_
      iterate 2 refine pu (ev tab rfl) rfl ?_
      refine WO.nil ?_
      refine qv1 rfl rfl rfl
  refine qs ?_
  refine condK rfl (fun h10 => ?_) (fun h10 => ?_)
  · skip
    refine W.seq ?_
    refine W.region ?_
    refine pu (ev tab rfl) rfl ?_
    refine WO.nil ?_
    refine qs ?_
    refine W.ret ?_
    refine qsRet ?_
    refine QF.ret0 trivial rfl ?_
    simp only [norm, oneA]; grind [nameErr, empty_bytes]
  · skip
    refine W.skip ?_
    refine qs ?_
    refine W.seq ?_
    refine W.seq ?_
    refine W.region ?_
    iterate 3 refine pu (ev tab rfl) rfl ?_
    refine WO.nil ?_
    refine qs ?_
    refine W.block ?_
    refine W.inRange (t := 0) rfl (fun hok => ?_)
    have hlen := okc_size hok
    refine W.loopR (ι := {x : Nat // match x with | k => k ≤ (bys s).length ∧ ((bys s).drop k).all letterB = (bys s).all letterB})
      (fun x => match x.1 with | k => [(13, .d (.v (.int .i64 ((k : Nat) : Int))))]) [(0, _), (12, _)]
      (fun x => match x.1 with | k => []) [] [] 0 (fun x => match x.1 with | k => (bys s).length - k)
      [] ⟨0, ?_⟩ rfl ?_ ⟨rfl, rfl, rfl, rfl, trivial⟩ ?_ trivial rfl ?_
    · first | exact ⟨Nat.zero_le _, rfl⟩ | exact trivial | simp
    · repeat' first | exact trivial | refine ⟨rfl, ?_⟩ | refine ⟨step_nat (by assumption) (by assumption), ?_⟩
    · repeat' first | exact trivial | refine ⟨rfl, ?_⟩ | refine ⟨step_nat (by assumption) (by assumption), ?_⟩
    rintro ⟨k, hk, hI⟩
    show W _ _ _ _ _ ⟨[(13, .d (.v (.int .i64 ((k : Nat) : Int)))), (0, _), (12, _)], [], [], 0⟩
    refine W.seq ?_
    refine W.region ?_
    refine pu (ev tab rfl) rfl ?_
    refine WO.nil ?_
    refine qs ?_
    refine W.seq ?_
    refine eachR (l := bys s) (k := k) rfl (by simp [Ex.kc_len, bytes_len]) hk (fun b hx hd hlt => ?_) (fun he hd => ?_)
    · skip
      rw [hd, List.all_cons] at hI
      refine W.skip ?_
      refine qs ?_
      refine W.seq ?_
      refine W.block ?_
      refine W.seq ?_
      refine W.region ?_
      iterate 2 refine pu (ev tab rfl) rfl ?_
      refine WO.nil ?_
      refine qs ?_
      refine W.seq ?_
      refine W.region ?_
      iterate 2 refine pu (ev tab rfl) rfl ?_
      refine pu (indexStr tab rfl rfl rfl rfl (Int.natCast_nonneg _) (byteList (by assumption))) rfl ?_
      refine pu (puCall rfl rfl rfl (letter_fn ..) rfl) rfl ?_
      refine pu (ev tab rfl) rfl ?_
      refine WO.nil ?_
      refine qs ?_
      refine condK rfl (fun h20 => ?_) (fun h20 => ?_)
      · skip
        refine W.seq ?_
        refine W.region ?_
        refine pu (ev tab rfl) rfl ?_
        refine WO.nil ?_
        refine qs ?_
        refine W.ret ?_
        refine qbRet ?_
        refine qsRet ?_
        refine qlRet ?_
        refine qbRet ?_
        refine qsRet ?_
        refine QF.ret0 trivial rfl ?_
        simp only [norm, oneA]; grind [nameErr, empty_bytes]
      · skip
        refine W.skip ?_
        refine qbN ?_
        refine qs ?_
        refine W.region ?_
        iterate 2 refine pu (ev tab rfl) rfl ?_
        refine WO.nil ?_
        refine W.endR [] ⟨k + 1, ?_⟩ ?_ rfl ?_ ⟨rfl, rfl, rfl, rfl, trivial⟩ ?_ trivial rfl
        · exact ⟨hlt, by rw [← hI]; simp_all⟩
        · dsimp only; omega
        · repeat' first | exact trivial | refine ⟨rfl, ?_⟩ | refine ⟨step_nat (by assumption) (by assumption), ?_⟩
        · repeat' first | exact trivial | refine ⟨rfl, ?_⟩ | refine ⟨step_nat (by assumption) (by assumption), ?_⟩
    · skip
      rw [hd] at hI
      refine W.exit ?_
      refine qsExit ?_
      refine qlExit ?_
      refine qbExit ?_
      refine qs ?_
      refine W.seq ?_
      refine W.region ?_
      refine pu (ev tab rfl) rfl ?_
      refine WO.nil ?_
      refine qs ?_
      refine W.ret ?_
      refine QF.ret0 trivial rfl ?_
      simp only [norm, oneA]; grind [nameErr, empty_bytes]
theorem identifier_fn (s : ByteArray) : Does Tryz.prog 49 [.d (.v (.string s))] (.d (.v (.bool (identB s)))) 0 := by
  refine Does.of_W (n := 53) (ts := [2]) Tryz.func49 (by kernel_rfl) rfl Tryz.ntmps49 Tryz.results49 rfl rfl fun C hC => ?_
  refine W.seq ?_
  refine W.region ?_
  refine pu (ev tab rfl) rfl ?_
  refine WO.nil ?_
  refine qs ?_
  refine W.seq ?_
  refine W.seq ?_
  apply regionB; (case hb => rfl)
  · skip
    iterate 3 refine pu (ev tab rfl) rfl ?_
    apply splitH; (case hj => rfl); (case hl => rfl)
    · intro g7
      refine skipT rfl rfl rfl rfl ?_
      refine skipT rfl rfl rfl rfl ?_
      refine skipT rfl rfl rfl rfl ?_
      iterate 2 refine pu (ev tab rfl) rfl ?_
      refine skipT rfl rfl rfl rfl ?_
      refine skipT rfl rfl rfl rfl ?_
      refine skipT rfl rfl rfl rfl ?_
      iterate 2 refine pu (ev tab rfl) rfl ?_
      refine skipT rfl rfl rfl rfl ?_
      refine skipT rfl rfl rfl rfl ?_
      refine skipT rfl rfl rfl rfl ?_
      refine pu (ev tab rfl) rfl ?_
      refine WO.nil ?_
      refine qv1 rfl rfl rfl
    · intro g7
      refine goG rfl rfl ?_
      refine pu (ev tab rfl) rfl ?_
      refine goG rfl rfl ?_
      refine pu (ev tab rfl) rfl ?_
      refine goG rfl rfl ?_
      iterate 3 refine pu (ev tab rfl) rfl ?_
      apply splitH; (case hj => rfl); (case hl => rfl)
      · intro g12
        refine skipT rfl rfl rfl rfl ?_
        refine skipT rfl rfl rfl rfl ?_
        refine skipT rfl rfl rfl rfl ?_
        iterate 2 refine pu (ev tab rfl) rfl ?_
        refine skipT rfl rfl rfl rfl ?_
        refine skipT rfl rfl rfl rfl ?_
        refine skipT rfl rfl rfl rfl ?_
        refine pu (ev tab rfl) rfl ?_
        refine WO.nil ?_
        refine qv1 rfl rfl rfl
      · intro g12
        refine goG rfl rfl ?_
        refine pu (ev tab rfl) rfl ?_
        refine goG rfl rfl ?_
        refine pu (indexStr tab rfl rfl rfl rfl (Int.le_refl _) (head_byte (by simpa using g7))) rfl ?_
        refine goG rfl rfl ?_
        iterate 3 refine pu (ev tab rfl) rfl ?_
        apply splitH; (case hj => rfl); (case hl => rfl)
        · intro g17
          refine skipT rfl rfl rfl rfl ?_
          refine skipT rfl rfl rfl rfl ?_
          refine skipT rfl rfl rfl rfl ?_
          refine pu (ev tab rfl) rfl ?_
          refine WO.nil ?_
          refine qv1 rfl rfl rfl
        · intro g17
          refine goG rfl rfl ?_
          refine pu (ev tab rfl) rfl ?_
          refine goG rfl rfl ?_
          refine pu (indexStr tab rfl rfl rfl rfl (Int.le_refl _) (head_byte (by simpa using g7))) rfl ?_
          refine goG rfl rfl ?_
          iterate 2 refine pu (ev tab rfl) rfl ?_
          refine WO.nil ?_
          refine qv1 rfl rfl rfl
  refine qs ?_
  refine condK rfl (fun h21 => ?_) (fun h21 => ?_)
  · skip
    refine W.seq ?_
    refine W.region ?_
    refine pu (ev tab rfl) rfl ?_
    refine WO.nil ?_
    refine qs ?_
    refine W.ret ?_
    refine qsRet ?_
    refine QF.ret0 trivial rfl ?_
    simp only [norm, oneA]; grind [identB, empty_bytes, lower]
  · skip
    refine W.skip ?_
    refine qs ?_
    refine W.seq ?_
    refine W.seq ?_
    refine W.region ?_
    iterate 3 refine pu (ev tab rfl) rfl ?_
    refine WO.nil ?_
    refine qs ?_
    refine W.block ?_
    refine W.inRange (t := 0) rfl (fun hok => ?_)
    have hlen := okc_size hok
    refine W.loopR (ι := {x : Nat // match x with | k => k ≤ (bys s).length ∧ ((bys s).drop k).all idChar = (bys s).all idChar})
      (fun x => match x.1 with | k => [(24, .d (.v (.int .i64 ((k : Nat) : Int))))]) [(0, _), (23, _)]
      (fun x => match x.1 with | k => []) [] [] 0 (fun x => match x.1 with | k => (bys s).length - k)
      [] ⟨0, ?_⟩ rfl ?_ ⟨rfl, rfl, rfl, rfl, trivial⟩ ?_ trivial rfl ?_
    · first | exact ⟨Nat.zero_le _, rfl⟩ | exact trivial | simp
    · repeat' first | exact trivial | refine ⟨rfl, ?_⟩ | refine ⟨step_nat (by assumption) (by assumption), ?_⟩
    · repeat' first | exact trivial | refine ⟨rfl, ?_⟩ | refine ⟨step_nat (by assumption) (by assumption), ?_⟩
    rintro ⟨k, hk, hI⟩
    show W _ _ _ _ _ ⟨[(24, .d (.v (.int .i64 ((k : Nat) : Int)))), (0, _), (23, _)], [], [], 0⟩
    refine W.seq ?_
    refine W.region ?_
    refine pu (ev tab rfl) rfl ?_
    refine WO.nil ?_
    refine qs ?_
    refine W.seq ?_
    refine eachR (l := bys s) (k := k) rfl (by simp [Ex.kc_len, bytes_len]) hk (fun b hx hd hlt => ?_) (fun he hd => ?_)
    · skip
      rw [hd, List.all_cons] at hI
      refine W.skip ?_
      refine qs ?_
      refine W.seq ?_
      refine W.block ?_
      refine W.seq ?_
      refine W.region ?_
      iterate 2 refine pu (ev tab rfl) rfl ?_
      refine WO.nil ?_
      refine qs ?_
      refine W.seq ?_
      refine W.region ?_
      iterate 2 refine pu (ev tab rfl) rfl ?_
      refine pu (indexStr tab rfl rfl rfl rfl (Int.natCast_nonneg _) (byteList (by assumption))) rfl ?_
      refine pu (ev tab rfl) rfl ?_
      refine WO.nil ?_
      refine qs ?_
      refine W.seq ?_
      apply regionB; (case hb => rfl)
      · skip
        iterate 3 refine pu (ev tab rfl) rfl ?_
        apply splitH; (case hj => rfl); (case hl => rfl)
        · intro g32
          refine skipT rfl rfl rfl rfl ?_
          refine skipT rfl rfl rfl rfl ?_
          iterate 2 refine pu (ev tab rfl) rfl ?_
          refine goG rfl rfl ?_
          refine pu (ev tab rfl) rfl ?_
          refine goG rfl rfl ?_
          refine pu (ev tab rfl) rfl ?_
          refine goG rfl rfl ?_
          refine pu (ev tab rfl) rfl ?_
          apply splitH; (case hj => rfl); (case hl => rfl)
          · intro g39
            refine skipT rfl rfl rfl rfl ?_
            refine skipT rfl rfl rfl rfl ?_
            refine goG rfl rfl ?_
            iterate 3 refine pu (ev tab rfl) rfl ?_
            refine goG rfl rfl ?_
            refine pu (ev tab rfl) rfl ?_
            refine goG rfl rfl ?_
            iterate 2 refine pu (ev tab rfl) rfl ?_
            refine WO.nil ?_
            refine qv1 rfl rfl rfl
          · intro g39
            refine goG rfl rfl ?_
            refine pu (ev tab rfl) rfl ?_
            refine goG rfl rfl ?_
            refine pu (ev tab rfl) rfl ?_
            refine goG rfl rfl ?_
            iterate 3 refine pu (ev tab rfl) rfl ?_
            apply splitH; (case hj => rfl); (case hl => rfl)
            · intro g44
              refine goG rfl rfl ?_
              refine pu (ev tab rfl) rfl ?_
              refine goG rfl rfl ?_
              iterate 2 refine pu (ev tab rfl) rfl ?_
              refine WO.nil ?_
              refine qv1 rfl rfl rfl
            · intro g44
              refine skipT rfl rfl rfl rfl ?_
              refine skipT rfl rfl rfl rfl ?_
              refine pu (ev tab rfl) rfl ?_
              refine WO.nil ?_
              refine qv1 rfl rfl rfl
        · intro g32
          refine goG rfl rfl ?_
          refine pu (ev tab rfl) rfl ?_
          refine goG rfl rfl ?_
          iterate 3 refine pu (ev tab rfl) rfl ?_
          apply splitH; (case hj => rfl); (case hl => rfl)
          · intro g36
            refine goG rfl rfl ?_
            refine pu (ev tab rfl) rfl ?_
            refine goG rfl rfl ?_
            refine pu (ev tab rfl) rfl ?_
            refine goG rfl rfl ?_
            refine pu (ev tab rfl) rfl ?_
            apply splitH; (case hj => rfl); (case hl => rfl)
            · intro g39
              refine skipT rfl rfl rfl rfl ?_
              refine skipT rfl rfl rfl rfl ?_
              refine goG rfl rfl ?_
              iterate 3 refine pu (ev tab rfl) rfl ?_
              refine goG rfl rfl ?_
              refine pu (ev tab rfl) rfl ?_
              refine goG rfl rfl ?_
              iterate 2 refine pu (ev tab rfl) rfl ?_
              refine WO.nil ?_
              refine qv1 rfl rfl rfl
            · intro g39
              refine goG rfl rfl ?_
              refine pu (ev tab rfl) rfl ?_
              refine goG rfl rfl ?_
              refine pu (ev tab rfl) rfl ?_
              refine goG rfl rfl ?_
              iterate 3 refine pu (ev tab rfl) rfl ?_
              apply splitH; (case hj => rfl); (case hl => rfl)
              · intro g44
                refine goG rfl rfl ?_
                refine pu (ev tab rfl) rfl ?_
                refine goG rfl rfl ?_
                iterate 2 refine pu (ev tab rfl) rfl ?_
                refine WO.nil ?_
                refine qv1 rfl rfl rfl
              · intro g44
                refine skipT rfl rfl rfl rfl ?_
                refine skipT rfl rfl rfl rfl ?_
                refine pu (ev tab rfl) rfl ?_
                refine WO.nil ?_
                refine qv1 rfl rfl rfl
          · intro g36
            refine skipT rfl rfl rfl rfl ?_
            refine skipT rfl rfl rfl rfl ?_
            refine skipT rfl rfl rfl rfl ?_
            refine skipU rfl rfl rfl ?_
            refine skipU rfl rfl rfl ?_
            refine skipT rfl rfl rfl rfl ?_
            iterate 2 refine pu (ev tab rfl) rfl ?_
            refine skipT rfl rfl rfl rfl ?_
            refine skipT rfl rfl rfl rfl ?_
            refine pu (ev tab rfl) rfl ?_
            refine WO.nil ?_
            refine qv1 rfl rfl rfl
      refine qs ?_
      refine condK rfl (fun h47 => ?_) (fun h47 => ?_)
      · skip
        refine W.seq ?_
        refine W.region ?_
        refine pu (ev tab rfl) rfl ?_
        refine WO.nil ?_
        refine qs ?_
        refine W.ret ?_
        refine qbRet ?_
        refine qsRet ?_
        refine qlRet ?_
        refine qbRet ?_
        refine qsRet ?_
        refine QF.ret0 trivial rfl ?_
        simp only [norm, oneA]; simp [identB, ← hI, idChar, lower]; grind
      · skip
        refine W.skip ?_
        refine qbN ?_
        refine qs ?_
        refine W.region ?_
        iterate 2 refine pu (ev tab rfl) rfl ?_
        refine WO.nil ?_
        refine W.endR [] ⟨k + 1, ?_⟩ ?_ rfl ?_ ⟨rfl, rfl, rfl, rfl, trivial⟩ ?_ trivial rfl
        · exact ⟨hlt, by rw [← hI]; simp [idChar, lower]; grind⟩
        · dsimp only; omega
        · repeat' first | exact trivial | refine ⟨rfl, ?_⟩ | refine ⟨step_nat (by assumption) (by assumption), ?_⟩
        · repeat' first | exact trivial | refine ⟨rfl, ?_⟩ | refine ⟨step_nat (by assumption) (by assumption), ?_⟩
    · skip
      rw [hd] at hI
      refine W.exit ?_
      refine qsExit ?_
      refine qlExit ?_
      refine qbExit ?_
      refine qs ?_
      refine W.seq ?_
      refine W.region ?_
      refine pu (buildV tab rfl rfl rfl rfl rfl rfl rfl rfl rfl) rfl ?_
      refine pu (ev tab rfl) rfl ?_
      refine pu (puCall rfl rfl rfl (contains_fn words s) rfl) rfl ?_
      iterate 2 refine pu (ev tab rfl) rfl ?_
      refine WO.nil ?_
      refine qs ?_
      refine W.ret ?_
      refine QF.ret0 trivial rfl ?_
      simp only [norm, oneA, identB, ← hI]; generalize words.any (fun w => decide (s = w)) = z; clear hI hd hok hlen hk he; simp only [List.all_nil, lower]; generalize (bys s).headD 0 = b at *; grind
end Go.Proofs.YtmhjgeneogknpaaGreat
namespace Go.Proofs.YtmhjgeneogknpaaGreat
open Go.Ab Go.Tb
set_option maxRecDepth 10000
attribute [local irreducible] W WO Pu QS QB QL QF QV QV1 CH QE
theorem ident_fn (s : ByteArray) : Does Tryz.prog 61 [.d (.v (.string s))] (.d (.v (.bool (identB s)))) 0 := by
  refine Does.of_W (n := 71) (ts := [2]) Tryz.func61 (by kernel_rfl) rfl Tryz.ntmps61 Tryz.results61 rfl rfl fun C hC => ?_
  refine W.inRange (t := 0) rfl (fun hok => ?_)
  have hlen2 := okc_size hok
  have hlen : words.length ≤ maxLen := by decide
  refine W.seq ?_
  refine W.region ?_
  refine pu (ev tab rfl) rfl ?_
  refine WO.nil ?_
  refine qs ?_
  refine W.seq ?_
  refine W.region ?_
  refine pu (buildV tab rfl rfl rfl rfl rfl rfl rfl rfl rfl) rfl ?_
  refine pu (ev tab rfl) rfl ?_
  refine WO.nil ?_
  refine qs ?_
  refine W.seq ?_
  refine W.seq ?_
  refine W.region ?_
  refine pu (ev tab rfl) rfl ?_
  refine WO.nil ?_
  refine qs ?_
  refine W.block ?_
  refine W.loopR (ι := {x : Nat // match x with | k => k ≤ words.length ∧ noneBefore (fun x => decide (s = x)) words k})
    (fun x => match x.1 with | k => [(4, .d (.v (.int .i64 ((k : Nat) : Int))))]) [(0, _), (3, _)]
    (fun x => match x.1 with | k => []) [] [] 0 (fun x => match x.1 with | k => words.length - k)
    [] ⟨0, ?_⟩ rfl ?_ ⟨rfl, rfl, rfl, rfl, trivial⟩ ?_ trivial rfl ?_
  · exact ⟨Nat.zero_le _, noneBefore.zero⟩
  · repeat' first | exact trivial | refine ⟨rfl, ?_⟩ | refine ⟨step_nat (by assumption) (by assumption), ?_⟩
  · repeat' first | exact trivial | refine ⟨rfl, ?_⟩ | refine ⟨step_nat (by assumption) (by assumption), ?_⟩
  rintro ⟨k, hk, hI⟩
  show W _ _ _ _ _ ⟨[(4, .d (.v (.int .i64 ((k : Nat) : Int)))), (0, _), (3, _)], [], [], 0⟩
  refine W.seq ?_
  refine W.seq ?_
  refine W.region ?_
  iterate 4 refine pu (ev tab rfl) rfl ?_
  refine WO.nil ?_
  refine qs ?_
  refine eachR (l := words) (k := k) rfl (by rfl) hk (fun x hx hd hlt => ?_) (fun he hd => ?_)
  · skip
    refine W.skip ?_
    refine qs ?_
    refine W.seq ?_
    refine W.block ?_
    refine W.seq ?_
    refine W.region ?_
    iterate 3 refine pu (ev tab rfl) rfl ?_
    refine pu (indexAddr tab rfl rfl rfl rfl rfl rfl (Int.natCast_nonneg _) (idx_map (f := sc) (l := words) hx) rfl) rfl ?_
    first | refine pu (ev tab rfl) rfl ?_ | refine pu (loadRow tab rfl rfl rfl rfl) rfl ?_ | refine pu (loadBox tab rfl rfl rfl rfl rfl) rfl ?_
    refine pu (ev tab rfl) rfl ?_
    refine WO.nil ?_
    refine qs ?_
    refine condK rfl (fun h20 => ?_) (fun h20 => ?_)
    · skip
      refine W.seq ?_
      refine W.region ?_
      refine pu (ev tab rfl) rfl ?_
      refine WO.nil ?_
      refine qs ?_
      refine W.ret ?_
      refine qbRet ?_
      refine qsRet ?_
      refine qlRet ?_
      refine qbRet ?_
      refine qsRet ?_
      refine QF.ret0 trivial rfl ?_
      simp only [norm, oneA, identB]; rw [any_of_at hx h20]; simp
    · skip
      refine W.skip ?_
      refine qbN ?_
      refine qs ?_
      refine W.region ?_
      iterate 3 refine pu (ev tab rfl) rfl ?_
      refine WO.nil ?_
      refine W.endR [] ⟨k + 1, ?_⟩ ?_ rfl ?_ ⟨rfl, rfl, rfl, rfl, trivial⟩ ?_ trivial rfl
      · exact ⟨hlt, hI.step hx h20⟩
      · dsimp only; omega
      · repeat' first | exact trivial | refine ⟨rfl, ?_⟩ | refine ⟨step_nat (by assumption) (by assumption), ?_⟩
      · repeat' first | exact trivial | refine ⟨rfl, ?_⟩ | refine ⟨step_nat (by assumption) (by assumption), ?_⟩
  · skip
    refine W.exit ?_
    refine qsExit ?_
    refine qlExit ?_
    refine qbExit ?_
    refine qs ?_
    refine W.seq ?_
    refine W.seq ?_
    refine W.region ?_
    refine pu (ev tab rfl) rfl ?_
    refine WO.nil ?_
    refine qs ?_
    refine W.block ?_
    have hw := hI.end_ he
    clear hI hk he hd hlen
    have hlen := hlen2
    refine W.loopR (ι := {x : Nat // match x with | k => k ≤ (bys s).length ∧ ((bys s).drop k).all idChar = (bys s).all idChar ∧ (0 < k → lower ((bys s).headD 0) = true)})
      (fun x => match x.1 with | k => [(5, .d (.v (.int .i64 ((k : Nat) : Int))))]) [(0, _)]
      (fun x => match x.1 with | k => []) [] [] 0 (fun x => match x.1 with | k => (bys s).length - k)
      [] ⟨0, ?_⟩ rfl ?_ ⟨rfl, rfl, trivial⟩ ?_ trivial rfl ?_
    · exact ⟨Nat.zero_le _, rfl, fun h => absurd h (Nat.lt_irrefl _)⟩
    · repeat' first | exact trivial | refine ⟨rfl, ?_⟩ | refine ⟨step_nat (by assumption) (by assumption), ?_⟩
    · repeat' first | exact trivial | refine ⟨rfl, ?_⟩ | refine ⟨step_nat (by assumption) (by assumption), ?_⟩
    rintro ⟨k, hk, hI, hJ⟩
    show W _ _ _ _ _ ⟨[(5, .d (.v (.int .i64 ((k : Nat) : Int)))), (0, _)], [], [], 0⟩
    refine W.seq ?_
    refine W.seq ?_
    refine W.region ?_
    iterate 4 refine pu (ev tab rfl) rfl ?_
    refine WO.nil ?_
    refine qs ?_
    refine eachR (l := bys s) (k := k) rfl (by simp [Ex.kc_len, bytes_len]) hk (fun b hx hd hlt => ?_) (fun he hd => ?_)
    · skip
      rw [hd, List.all_cons] at hI
      have hh := head_at hx
      refine W.skip ?_
      refine qs ?_
      refine W.seq ?_
      refine W.block ?_
      refine W.seq ?_
      apply regionB; (case hb => rfl)
      · skip
        iterate 2 refine pu (ev tab rfl) rfl ?_
        refine pu (indexStr tab rfl rfl rfl rfl (Int.natCast_nonneg _) (byteList (by assumption))) rfl ?_
        iterate 2 refine pu (ev tab rfl) rfl ?_
        apply splitJ; (case hj => rfl); (case hl => rfl)
        · skip
          refine goG rfl rfl ?_
          refine pu (ev tab rfl) rfl ?_
          refine goG rfl rfl ?_
          refine pu (ev tab rfl) rfl ?_
          refine goG rfl rfl ?_
          refine pu (indexStr tab rfl rfl rfl rfl (Int.natCast_nonneg _) (byteList (by assumption))) rfl ?_
          refine goG rfl rfl ?_
          iterate 3 refine pu (ev tab rfl) rfl ?_
          refine WO.nil ?_
          refine qv1 rfl rfl rfl
        · skip
          refine skipT rfl rfl rfl rfl ?_
          refine skipT rfl rfl rfl rfl ?_
          refine skipT rfl rfl rfl rfl ?_
          refine skipT rfl rfl rfl rfl ?_
          iterate 2 refine pu (ev tab rfl) rfl ?_
          refine WO.nil ?_
          refine qv1 rfl rfl rfl
      refine qs ?_
      refine W.seq ?_
      apply regionB; (case hb => rfl)
      · skip
        iterate 2 refine pu (ev tab rfl) rfl ?_
        refine pu (indexStr tab rfl rfl rfl rfl (Int.natCast_nonneg _) (byteList (by assumption))) rfl ?_
        iterate 2 refine pu (ev tab rfl) rfl ?_
        apply splitJ; (case hj => rfl); (case hl => rfl)
        · skip
          refine goG rfl rfl ?_
          refine pu (ev tab rfl) rfl ?_
          refine goG rfl rfl ?_
          refine pu (ev tab rfl) rfl ?_
          refine goG rfl rfl ?_
          refine pu (indexStr tab rfl rfl rfl rfl (Int.natCast_nonneg _) (byteList (by assumption))) rfl ?_
          refine goG rfl rfl ?_
          iterate 3 refine pu (ev tab rfl) rfl ?_
          apply splitJ; (case hj => rfl); (case hl => rfl)
          · skip
            refine skipT rfl rfl rfl rfl ?_
            refine skipT rfl rfl rfl rfl ?_
            refine skipT rfl rfl rfl rfl ?_
            refine skipT rfl rfl rfl rfl ?_
            iterate 2 refine pu (ev tab rfl) rfl ?_
            refine WO.nil ?_
            refine qv1 rfl rfl rfl
          · skip
            refine goG rfl rfl ?_
            refine pu (ev tab rfl) rfl ?_
            refine goG rfl rfl ?_
            refine pu (ev tab rfl) rfl ?_
            refine goG rfl rfl ?_
            refine pu (indexStr tab rfl rfl rfl rfl (Int.natCast_nonneg _) (byteList (by assumption))) rfl ?_
            refine goG rfl rfl ?_
            iterate 3 refine pu (ev tab rfl) rfl ?_
            refine WO.nil ?_
            refine qv1 rfl rfl rfl
        · skip
          refine skipT rfl rfl rfl rfl ?_
          refine skipT rfl rfl rfl rfl ?_
          refine skipT rfl rfl rfl rfl ?_
          refine skipT rfl rfl rfl rfl ?_
          iterate 2 refine pu (ev tab rfl) rfl ?_
          refine goG rfl rfl ?_
          refine pu (ev tab rfl) rfl ?_
          refine goG rfl rfl ?_
          refine pu (ev tab rfl) rfl ?_
          refine goG rfl rfl ?_
          refine pu (indexStr tab rfl rfl rfl rfl (Int.natCast_nonneg _) (byteList (by assumption))) rfl ?_
          refine goG rfl rfl ?_
          iterate 3 refine pu (ev tab rfl) rfl ?_
          refine WO.nil ?_
          refine qv1 rfl rfl rfl
      refine qs ?_
      refine W.seq ?_
      apply regionB; (case hb => rfl)
      · skip
        iterate 3 refine pu (ev tab rfl) rfl ?_
        apply splitJ; (case hj => rfl); (case hl => rfl)
        · skip
          refine goG rfl rfl ?_
          refine pu (ev tab rfl) rfl ?_
          refine goG rfl rfl ?_
          refine pu (ev tab rfl) rfl ?_
          refine goG rfl rfl ?_
          refine pu (ev tab rfl) rfl ?_
          apply splitJ; (case hj => rfl); (case hl => rfl)
          · skip
            refine skipT rfl rfl rfl rfl ?_
            refine skipT rfl rfl rfl rfl ?_
            refine goG rfl rfl ?_
            iterate 2 refine pu (ev tab rfl) rfl ?_
            refine WO.nil ?_
            refine qv1 rfl rfl rfl
          · skip
            refine goG rfl rfl ?_
            refine pu (ev tab rfl) rfl ?_
            refine goG rfl rfl ?_
            refine pu (ev tab rfl) rfl ?_
            refine goG rfl rfl ?_
            iterate 2 refine pu (ev tab rfl) rfl ?_
            refine WO.nil ?_
            refine qv1 rfl rfl rfl
        · skip
          refine skipT rfl rfl rfl rfl ?_
          refine skipT rfl rfl rfl rfl ?_
          refine skipT rfl rfl rfl rfl ?_
          refine skipU rfl rfl rfl ?_
          refine skipU rfl rfl rfl ?_
          refine skipT rfl rfl rfl rfl ?_
          refine pu (ev tab rfl) rfl ?_
          refine WO.nil ?_
          refine qv1 rfl rfl rfl
      refine qs ?_
      refine condK rfl (fun h62 => ?_) (fun h62 => ?_)
      · skip
        refine W.seq ?_
        refine W.region ?_
        refine pu (ev tab rfl) rfl ?_
        refine WO.nil ?_
        refine qs ?_
        refine W.ret ?_
        refine qbRet ?_
        refine qsRet ?_
        refine qlRet ?_
        refine qbRet ?_
        refine qsRet ?_
        refine QF.ret0 trivial rfl ?_
        have key : idChar b = false ∨ (k = 0 ∧ lower b = false) := by clear hh hlt hd hx hJ hI hk hw hlen hlen2 hok; simp only [idChar, lower]; grind
        simp only [norm, oneA, identB, ← hI]
        rcases key with h | ⟨h, h'⟩
        · simp [h]
        · rw [hh h, h']; simp
      · skip
        refine W.skip ?_
        refine qbN ?_
        refine qs ?_
        refine W.region ?_
        iterate 3 refine pu (ev tab rfl) rfl ?_
        refine WO.nil ?_
        refine W.endR [] ⟨k + 1, ?_⟩ ?_ rfl ?_ ⟨rfl, rfl, trivial⟩ ?_ trivial rfl
        · have key : idChar b = true ∧ (k = 0 → lower b = true) := by clear hh hlt hd hx hJ hI hk hw hlen hlen2 hok; simp only [idChar, lower]; grind
          refine ⟨hlt, ?_, fun _ => ?_⟩
          · rw [← hI, key.1]; rfl
          · rcases Nat.eq_zero_or_pos k with h | h
            · rw [hh h]; exact key.2 h
            · exact hJ h
        · dsimp only; omega
        · repeat' first | exact trivial | refine ⟨rfl, ?_⟩ | refine ⟨step_nat (by assumption) (by assumption), ?_⟩
        · repeat' first | exact trivial | refine ⟨rfl, ?_⟩ | refine ⟨step_nat (by assumption) (by assumption), ?_⟩
    · skip
      rw [hd] at hI
      refine W.exit ?_
      refine qsExit ?_
      refine qlExit ?_
      refine qbExit ?_
      refine qs ?_
      refine W.seq ?_
      apply regionB; (case hb => rfl)
      · skip
        iterate 4 refine pu (ev tab rfl) rfl ?_
        apply splitJ; (case hj => rfl); (case hl => rfl)
        · skip
          refine goG rfl rfl ?_
          refine pu (ev tab rfl) rfl ?_
          refine goG rfl rfl ?_
          refine pu (ev tab rfl) rfl ?_
          refine goG rfl rfl ?_
          iterate 3 refine pu (ev tab rfl) rfl ?_
          refine WO.nil ?_
          refine qv1 rfl rfl rfl
        · skip
          refine skipT rfl rfl rfl rfl ?_
          refine skipT rfl rfl rfl rfl ?_
          refine skipT rfl rfl rfl rfl ?_
          iterate 2 refine pu (ev tab rfl) rfl ?_
          refine WO.nil ?_
          refine qv1 rfl rfl rfl
      refine qs ?_
      refine W.ret ?_
      refine QF.ret0 trivial rfl ?_
      simp only [norm, oneA, identB, ← hI]
      rw [any_of_none hw]
      have e : s = B #[] ↔ s.size = 0 := by rw [empty_bytes, ← bytes_len]; exact List.length_eq_zero_iff.symm
      have e2 : ¬ s.size = 0 → lower ((bys s).headD 0) = true := fun h => hJ (by have := bytes_len s; omega)
      clear hI hJ hw hlen hlen2 hok hd
      simp only [List.all_nil, B, e]
      rcases Nat.eq_zero_or_pos s.size with h | h
      · simp [h]
      · have h' := e2 (by omega)
        rw [h']
        refine congrArg (fun z => A.d (.v (.bool z))) ?_
        rw [Bool.eq_iff_iff]
        generalize s.size = m at h
        simp
        omega
theorem constant_fn (v : Val) : Does Tryz.prog 110 [.ag v.c] (.d (.v (.int .i64 (constErr v)))) 0 := by
  refine Does.of_W (n := 34) (ts := [2]) Tryz.func110 (by kernel_rfl) rfl Tryz.ntmps110 Tryz.results110 rfl rfl fun C hC => ?_
  refine W.seq ?_
  refine W.region ?_
  refine boxR rfl rfl rfl ?_
  refine pu (ev tab rfl) rfl ?_
  refine WO.nil ?_
  refine qs ?_
  refine W.seq ?_
  refine W.seq ?_
  refine W.region ?_
  refine pu (ev tab rfl) rfl ?_
  first | refine pu (ev tab rfl) rfl ?_ | refine pu (loadRow tab rfl rfl rfl rfl) rfl ?_ | refine pu (loadBox tab rfl rfl rfl rfl rfl) rfl ?_
  first | refine pu (ev tab rfl) rfl ?_ | refine pu (loadRow tab rfl rfl rfl rfl) rfl ?_ | refine pu (loadBox tab rfl rfl rfl rfl rfl) rfl ?_
  refine pu (puCall rfl rfl rfl (value_fn ..) rfl) rfl ?_
  refine pu (ev tab rfl) rfl ?_
  refine WO.nil ?_
  refine qs ?_
  refine W.seq ?_
  refine W.region ?_
  iterate 2 refine pu (ev tab rfl) rfl ?_
  refine WO.nil ?_
  refine qs ?_
  refine condK rfl (fun h11 => ?_) (fun h11 => ?_)
  · skip
    refine W.seq ?_
    refine W.region ?_
    iterate 2 refine pu (ev tab rfl) rfl ?_
    refine WO.nil ?_
    refine qs ?_
    refine W.ret ?_
    refine qsRet ?_
    refine QF.ret0 trivial rfl ?_
    simp only [norm, oneA]; grind [constErr]
  · skip
    refine W.skip ?_
    refine qs ?_
    refine W.seq ?_
    refine W.seq ?_
    refine W.region ?_
    refine pu (ev tab rfl) rfl ?_
    first | refine pu (ev tab rfl) rfl ?_ | refine pu (loadRow tab rfl rfl rfl rfl) rfl ?_ | refine pu (loadBox tab rfl rfl rfl rfl rfl) rfl ?_
    iterate 2 refine pu (ev tab rfl) rfl ?_
    refine WO.nil ?_
    refine qs ?_
    refine W.block ?_
    refine W.inRange (t := 14) rfl (fun hok => ?_)
    have hlen := okc_size hok
    refine W.loopR (ι := {x : Nat // match x with | k => k ≤ (bys v.s).length ∧ ((bys v.s).drop k).any badChar = (bys v.s).any badChar})
      (fun x => match x.1 with | k => [(1, .ptr 0 0), (16, .d (.v (.int .i64 ((k : Nat) : Int))))]) [(15, _)]
      (fun x => match x.1 with | k => []) [(0, _)] [] 1 (fun x => match x.1 with | k => (bys v.s).length - k)
      [0] ⟨0, ?_⟩ rfl ?_ ⟨rfl, rfl, trivial⟩ ?_ ⟨rfl, rfl, trivial⟩ rfl ?_
    · first | exact ⟨Nat.zero_le _, rfl⟩ | exact trivial | simp
    · repeat' first | exact trivial | refine ⟨rfl, ?_⟩ | refine ⟨step_nat (by assumption) (by assumption), ?_⟩
    · repeat' first | exact trivial | refine ⟨rfl, ?_⟩ | refine ⟨step_nat (by assumption) (by assumption), ?_⟩
    rintro ⟨k, hk, hI⟩
    show W _ _ _ _ _ ⟨[(1, .ptr 0 0), (16, .d (.v (.int .i64 ((k : Nat) : Int)))), (15, _)], [(0, _)], [], 1⟩
    refine W.seq ?_
    refine W.region ?_
    refine pu (ev tab rfl) rfl ?_
    refine WO.nil ?_
    refine qs ?_
    refine W.seq ?_
    refine eachR (l := bys v.s) (k := k) rfl (by simp [Ex.kc_len, bytes_len]) hk (fun b hx hd hlt => ?_) (fun he hd => ?_)
    · skip
      rw [hd, List.any_cons] at hI
      refine W.skip ?_
      refine qs ?_
      refine W.seq ?_
      refine W.block ?_
      refine W.seq ?_
      refine W.region ?_
      iterate 2 refine pu (ev tab rfl) rfl ?_
      refine WO.nil ?_
      refine qs ?_
      refine W.seq ?_
      refine W.region ?_
      refine pu (ev tab rfl) rfl ?_
      first | refine pu (ev tab rfl) rfl ?_ | refine pu (loadRow tab rfl rfl rfl rfl) rfl ?_ | refine pu (loadBox tab rfl rfl rfl rfl rfl) rfl ?_
      refine pu (ev tab rfl) rfl ?_
      refine pu (indexStr tab rfl rfl rfl rfl (Int.natCast_nonneg _) (byteList (by assumption))) rfl ?_
      refine pu (ev tab rfl) rfl ?_
      refine WO.nil ?_
      refine qs ?_
      refine W.seq ?_
      apply regionB; (case hb => rfl)
      · skip
        iterate 3 refine pu (ev tab rfl) rfl ?_
        apply splitJ; (case hj => rfl); (case hl => rfl)
        · skip
          refine skipT rfl rfl rfl rfl ?_
          refine skipT rfl rfl rfl rfl ?_
          iterate 2 refine pu (ev tab rfl) rfl ?_
          refine skipT rfl rfl rfl rfl ?_
          refine skipT rfl rfl rfl rfl ?_
          refine pu (ev tab rfl) rfl ?_
          refine WO.nil ?_
          refine qv1 rfl rfl rfl
        · skip
          refine goG rfl rfl ?_
          refine pu (ev tab rfl) rfl ?_
          refine goG rfl rfl ?_
          iterate 3 refine pu (ev tab rfl) rfl ?_
          apply splitJ; (case hj => rfl); (case hl => rfl)
          · skip
            refine skipT rfl rfl rfl rfl ?_
            refine skipT rfl rfl rfl rfl ?_
            refine pu (ev tab rfl) rfl ?_
            refine WO.nil ?_
            refine qv1 rfl rfl rfl
          · skip
            refine goG rfl rfl ?_
            refine pu (ev tab rfl) rfl ?_
            refine goG rfl rfl ?_
            iterate 2 refine pu (ev tab rfl) rfl ?_
            refine WO.nil ?_
            refine qv1 rfl rfl rfl
      refine qs ?_
      refine condK rfl (fun h32 => ?_) (fun h32 => ?_)
      · skip
        refine W.seq ?_
        refine W.region ?_
        refine pu (ev tab rfl) rfl ?_
        refine WO.nil ?_
        refine qs ?_
        refine W.ret ?_
        refine qbRet ?_
        refine qsRet ?_
        refine qlRet ?_
        refine qbRet ?_
        refine qsRet ?_
        refine QF.ret0 trivial rfl ?_
        simp only [norm, oneA, constErr, ← hI]; clear hI; simp only [badChar]; grind
      · skip
        refine W.skip ?_
        refine qbN ?_
        refine qs ?_
        refine W.region ?_
        iterate 2 refine pu (ev tab rfl) rfl ?_
        refine WO.nil ?_
        refine W.endR [0] ⟨k + 1, ?_⟩ ?_ rfl ?_ ⟨rfl, rfl, trivial⟩ ?_ ⟨rfl, rfl, trivial⟩ rfl
        · exact ⟨hlt, by rw [← hI]; simp only [badChar]; grind⟩
        · dsimp only; omega
        · repeat' first | exact trivial | refine ⟨rfl, ?_⟩ | refine ⟨step_nat (by assumption) (by assumption), ?_⟩
        · repeat' first | exact trivial | refine ⟨rfl, ?_⟩ | refine ⟨step_nat (by assumption) (by assumption), ?_⟩
    · skip
      rw [hd] at hI
      refine W.exit ?_
      refine qsExit ?_
      refine qlExit ?_
      refine qbExit ?_
      refine qs ?_
      refine W.seq ?_
      refine W.region ?_
      refine pu (ev tab rfl) rfl ?_
      refine WO.nil ?_
      refine qs ?_
      refine W.ret ?_
      refine QF.ret0 trivial rfl ?_
      simp only [norm, oneA, constErr, ← hI]; simp_all
theorem rconstant_fn (v : Val) : Does Tryz.prog 113 [.ag v.c] (.d (.v (.int .i64 (constErr v)))) 0 := by
  refine Does.of_W (n := 38) (ts := [2]) Tryz.func113 (by kernel_rfl) rfl Tryz.ntmps113 Tryz.results113 rfl rfl fun C hC => ?_
  refine W.seq ?_
  refine W.region ?_
  refine boxR rfl rfl rfl ?_
  refine pu (ev tab rfl) rfl ?_
  refine WO.nil ?_
  refine qs ?_
  refine W.seq ?_
  refine W.region ?_
  refine pu (ev tab rfl) rfl ?_
  first | refine pu (ev tab rfl) rfl ?_ | refine pu (loadRow tab rfl rfl rfl rfl) rfl ?_ | refine pu (loadBox tab rfl rfl rfl rfl rfl) rfl ?_
  first | refine pu (ev tab rfl) rfl ?_ | refine pu (loadRow tab rfl rfl rfl rfl) rfl ?_ | refine pu (loadBox tab rfl rfl rfl rfl rfl) rfl ?_
  refine pu (puCall rfl rfl rfl (rvalue_fn ..) rfl) rfl ?_
  refine pu (ev tab rfl) rfl ?_
  refine WO.nil ?_
  refine qs ?_
  refine W.seq ?_
  refine W.seq ?_
  refine W.region ?_
  iterate 2 refine pu (ev tab rfl) rfl ?_
  refine WO.nil ?_
  refine qs ?_
  refine condK rfl (fun h10 => ?_) (fun h10 => ?_)
  · skip
    refine W.seq ?_
    refine W.region ?_
    iterate 2 refine pu (ev tab rfl) rfl ?_
    refine WO.nil ?_
    refine qs ?_
    refine W.ret ?_
    refine qsRet ?_
    refine QF.ret0 trivial rfl ?_
    simp only [norm, oneA]; grind [constErr]
  · skip
    refine W.skip ?_
    refine qs ?_
    refine W.seq ?_
    refine W.seq ?_
    refine W.region ?_
    refine pu (ev tab rfl) rfl ?_
    refine WO.nil ?_
    refine qs ?_
    refine W.block ?_
    refine inBox (g := 0) (j := 2) rfl rfl (fun hok => ?_)
    have hlen := okc_size hok
    refine W.loopR (ι := {x : Nat // match x with | k => k ≤ (bys v.s).length ∧ ((bys v.s).drop k).any badChar = (bys v.s).any badChar})
      (fun x => match x.1 with | k => [(1, .ptr 0 0), (4, .d (.v (.int .i64 ((k : Nat) : Int))))]) []
      (fun x => match x.1 with | k => []) [(0, _)] [] 1 (fun x => match x.1 with | k => (bys v.s).length - k)
      [0] ⟨0, ?_⟩ rfl ?_ trivial ?_ ⟨rfl, rfl, trivial⟩ rfl ?_
    · first | exact ⟨Nat.zero_le _, rfl⟩ | exact trivial | simp
    · repeat' first | exact trivial | refine ⟨rfl, ?_⟩ | refine ⟨step_nat (by assumption) (by assumption), ?_⟩
    · repeat' first | exact trivial | refine ⟨rfl, ?_⟩ | refine ⟨step_nat (by assumption) (by assumption), ?_⟩
    rintro ⟨k, hk, hI⟩
    show W _ _ _ _ _ ⟨[(1, .ptr 0 0), (4, .d (.v (.int .i64 ((k : Nat) : Int))))], [(0, _)], [], 1⟩
    refine W.seq ?_
    refine W.seq ?_
    refine W.region ?_
    iterate 2 refine pu (ev tab rfl) rfl ?_
    first | refine pu (ev tab rfl) rfl ?_ | refine pu (loadRow tab rfl rfl rfl rfl) rfl ?_ | refine pu (loadBox tab rfl rfl rfl rfl rfl) rfl ?_
    iterate 2 refine pu (ev tab rfl) rfl ?_
    refine WO.nil ?_
    refine qs ?_
    refine eachR (l := bys v.s) (k := k) rfl (by simp [Ex.kc_len, bytes_len]) hk (fun b hx hd hlt => ?_) (fun he hd => ?_)
    · skip
      rw [hd, List.any_cons] at hI
      refine W.skip ?_
      refine qs ?_
      refine W.seq ?_
      refine W.block ?_
      refine W.seq ?_
      apply regionB; (case hb => rfl)
      · skip
        refine pu (ev tab rfl) rfl ?_
        first | refine pu (ev tab rfl) rfl ?_ | refine pu (loadRow tab rfl rfl rfl rfl) rfl ?_ | refine pu (loadBox tab rfl rfl rfl rfl rfl) rfl ?_
        refine pu (ev tab rfl) rfl ?_
        refine pu (indexStr tab rfl rfl rfl rfl (Int.natCast_nonneg _) (byteList (by assumption))) rfl ?_
        iterate 2 refine pu (ev tab rfl) rfl ?_
        apply splitJ; (case hj => rfl); (case hl => rfl)
        · skip
          refine skipT rfl rfl rfl rfl ?_
          refine skipT rfl rfl rfl rfl ?_
          refine skipT rfl rfl rfl rfl ?_
          refine skipT rfl rfl rfl rfl ?_
          refine skipT rfl rfl rfl rfl ?_
          iterate 2 refine pu (ev tab rfl) rfl ?_
          refine skipT rfl rfl rfl rfl ?_
          refine skipT rfl rfl rfl rfl ?_
          refine skipT rfl rfl rfl rfl ?_
          refine skipT rfl rfl rfl rfl ?_
          refine skipT rfl rfl rfl rfl ?_
          refine pu (ev tab rfl) rfl ?_
          refine WO.nil ?_
          refine qv1 rfl rfl rfl
        · skip
          refine goG rfl rfl ?_
          refine pu (ev tab rfl) rfl ?_
          refine goG rfl rfl ?_
          first | refine pu (ev tab rfl) rfl ?_ | refine pu (loadRow tab rfl rfl rfl rfl) rfl ?_ | refine pu (loadBox tab rfl rfl rfl rfl rfl) rfl ?_
          refine goG rfl rfl ?_
          refine pu (ev tab rfl) rfl ?_
          refine goG rfl rfl ?_
          refine pu (indexStr tab rfl rfl rfl rfl (Int.natCast_nonneg _) (byteList (by assumption))) rfl ?_
          refine goG rfl rfl ?_
          iterate 3 refine pu (ev tab rfl) rfl ?_
          apply splitJ; (case hj => rfl); (case hl => rfl)
          · skip
            refine skipT rfl rfl rfl rfl ?_
            refine skipT rfl rfl rfl rfl ?_
            refine skipT rfl rfl rfl rfl ?_
            refine skipT rfl rfl rfl rfl ?_
            refine skipT rfl rfl rfl rfl ?_
            refine pu (ev tab rfl) rfl ?_
            refine WO.nil ?_
            refine qv1 rfl rfl rfl
          · skip
            refine goG rfl rfl ?_
            refine pu (ev tab rfl) rfl ?_
            refine goG rfl rfl ?_
            first | refine pu (ev tab rfl) rfl ?_ | refine pu (loadRow tab rfl rfl rfl rfl) rfl ?_ | refine pu (loadBox tab rfl rfl rfl rfl rfl) rfl ?_
            refine goG rfl rfl ?_
            refine pu (ev tab rfl) rfl ?_
            refine goG rfl rfl ?_
            refine pu (indexStr tab rfl rfl rfl rfl (Int.natCast_nonneg _) (byteList (by assumption))) rfl ?_
            refine goG rfl rfl ?_
            iterate 2 refine pu (ev tab rfl) rfl ?_
            refine WO.nil ?_
            refine qv1 rfl rfl rfl
      refine qs ?_
      refine condK rfl (fun h37 => ?_) (fun h37 => ?_)
      · skip
        refine W.seq ?_
        refine W.region ?_
        refine pu (ev tab rfl) rfl ?_
        refine WO.nil ?_
        refine qs ?_
        refine W.ret ?_
        refine qbRet ?_
        refine qsRet ?_
        refine qlRet ?_
        refine qbRet ?_
        refine qsRet ?_
        refine QF.ret0 trivial rfl ?_
        simp only [norm, oneA, constErr, ← hI]; clear hI; simp only [badChar]; grind
      · skip
        refine W.skip ?_
        refine qbN ?_
        refine qs ?_
        refine W.region ?_
        iterate 3 refine pu (ev tab rfl) rfl ?_
        refine WO.nil ?_
        refine W.endR [0] ⟨k + 1, ?_⟩ ?_ rfl ?_ trivial ?_ ⟨rfl, rfl, trivial⟩ rfl
        · exact ⟨hlt, by rw [← hI]; simp only [badChar]; grind⟩
        · dsimp only; omega
        · repeat' first | exact trivial | refine ⟨rfl, ?_⟩ | refine ⟨step_nat (by assumption) (by assumption), ?_⟩
        · repeat' first | exact trivial | refine ⟨rfl, ?_⟩ | refine ⟨step_nat (by assumption) (by assumption), ?_⟩
    · skip
      rw [hd] at hI
      refine W.exit ?_
      refine qsExit ?_
      refine qlExit ?_
      refine qbExit ?_
      refine qs ?_
      refine W.seq ?_
      refine W.region ?_
      refine pu (ev tab rfl) rfl ?_
      refine WO.nil ?_
      refine qs ?_
      refine W.ret ?_
      refine QF.ret0 trivial rfl ?_
      simp only [norm, oneA, constErr, ← hI]; simp_all
end Go.Proofs.YtmhjgeneogknpaaGreat
namespace Go.Proofs.YtmhjgeneogknpaaGreat
open Go.Ab Go.Tb
set_option maxRecDepth 10000
attribute [local irreducible] W WO Pu QS QB QL QF QV QV1 CH QE
theorem measure_fn : ∀ (e : Ex) (n : Int), 0 ≤ n → n ≤ 200 → Does Tryz.prog 78 [.ag e.c, .d (.v (.int .i64 n))] (.tup [.d (.v (.int .i64 (msr e n).1)), .d (.v (.int .i64 (msr e n).2))]) 0 := by
  refine Ex.ind fun e ih => ?_
  intro n h0 h1
  refine Does.of_W (n := 34) (ts := [4, 5]) Tryz.func78 (by kernel_rfl) rfl Tryz.ntmps78 Tryz.results78 rfl rfl fun C hC => ?_
  refine W.seq ?_
  refine W.region ?_
  refine boxR rfl rfl rfl ?_
  iterate 2 refine pu (ev tab rfl) rfl ?_
  refine WO.nil ?_
  refine qs ?_
  refine W.seq ?_
  refine W.region ?_
  refine pu (ev tab rfl) rfl ?_
  refine pu (puI (ev tab rfl) (wrap64 (by omega))) rfl ?_
  refine pu (ev tab rfl) rfl ?_
  refine WO.nil ?_
  refine qs ?_
  refine W.seq ?_
  refine W.region ?_
  refine pu (ev tab rfl) rfl ?_
  refine WO.nil ?_
  refine qs ?_
  refine W.seq ?_
  refine W.seq ?_
  refine W.region ?_
  refine pu (ev tab rfl) rfl ?_
  first | refine pu (ev tab rfl) rfl ?_ | refine pu (loadRow tab rfl rfl rfl rfl) rfl ?_ | refine pu (loadBox tab rfl rfl rfl rfl rfl) rfl ?_
  iterate 2 refine pu (ev tab rfl) rfl ?_
  refine WO.nil ?_
  refine qs ?_
  refine W.block ?_
  refine W.len (t := 13) rfl rfl (fun hlen => ?_)
  try simp only [List.length_map, Ex.kc_len] at hlen
  refine W.loopR (ι := {x : Nat × Int × Int // match x with | (k, n', d) => k ≤ e.kids.length ∧ msrL (e.kids.drop k) n' d = msrL e.kids (n + 1) 0 ∧ 0 ≤ n' ∧ n' ≤ 201 ∧ 0 ≤ d ∧ d ≤ n'})
    (fun x => match x.1 with | (k, n', d) => [(1, .d (.v (.int .i64 (n')))), (6, .d (.v (.int .i64 (d)))), (15, .d (.v (.int .i64 ((k : Nat) : Int))))]) [(13, _), (14, _)]
    (fun x => match x.1 with | (k, n', d) => []) [] [] 0 (fun x => match x.1 with | (k, n', d) => e.kids.length - k)
    [] ⟨(0, n + 1, 0), ?_⟩ rfl ?_ ⟨rfl, rfl, rfl, rfl, trivial⟩ ?_ trivial rfl ?_
  · exact ⟨Nat.zero_le _, rfl, by omega, by omega, by omega, by omega⟩
  · repeat' first | exact trivial | refine ⟨rfl, ?_⟩ | refine ⟨step_nat (by assumption) (by assumption), ?_⟩
  · repeat' first | exact trivial | refine ⟨rfl, ?_⟩ | refine ⟨step_nat (by assumption) (by assumption), ?_⟩
  rintro ⟨⟨k, n', d⟩, hk, hI, h2, h3, h4, h5⟩
  show W _ _ _ _ _ ⟨[(1, .d (.v (.int .i64 (n')))), (6, .d (.v (.int .i64 (d)))), (15, .d (.v (.int .i64 ((k : Nat) : Int)))), (13, _), (14, _)], [], [], 0⟩
  refine W.seq ?_
  refine W.region ?_
  refine pu (ev tab rfl) rfl ?_
  refine WO.nil ?_
  refine qs ?_
  refine W.seq ?_
  refine eachR (l := e.kids) (k := k) rfl (by simp [Ex.kc_len, bytes_len]) hk (fun x hx hd hlt => ?_) (fun he hd => ?_)
  · skip
    rw [hd] at hI
    refine W.skip ?_
    refine qs ?_
    refine W.seq ?_
    refine W.block ?_
    refine W.seq ?_
    refine W.region ?_
    refine pu (indexAddr tab rfl rfl rfl rfl rfl rfl (Int.natCast_nonneg _) (Ex.kc_idx hx) rfl) rfl ?_
    first | refine pu (ev tab rfl) rfl ?_ | refine pu (loadRow tab rfl rfl rfl rfl) rfl ?_ | refine pu (loadBox tab rfl rfl rfl rfl rfl) rfl ?_
    refine allocR tab rfl rfl rfl ?_
    refine storeR tab rfl rfl rfl rfl rfl rfl rfl rfl ?_
    refine WO.nil ?_
    refine qs ?_
    refine W.seq ?_
    refine W.seq ?_
    refine W.region ?_
    iterate 2 refine pu (ev tab rfl) rfl ?_
    refine WO.nil ?_
    refine qs ?_
    refine condK rfl (fun h20 => ?_) (fun h20 => ?_)
    · skip
      have h20 : 200 < n' := by simpa using h20
      simp only [msrL, h20, if_true] at hI
      refine W.exit ?_
      refine qsExit ?_
      refine qbExit' rfl ?_
      refine qsExit ?_
      refine qlExit ?_
      refine qbExit ?_
      refine qs ?_
      refine W.seq ?_
      refine W.region ?_
      iterate 2 refine pu (ev tab rfl) rfl ?_
      refine pu (puI (ev tab rfl) (wrap64 (by omega))) rfl ?_
      iterate 2 refine pu (ev tab rfl) rfl ?_
      refine WO.nil ?_
      refine qs ?_
      refine W.ret ?_
      refine QF.ret0 trivial rfl ?_
      rw [msr_eq, ← hI]; rfl
    · skip
      have h20 : ¬ 200 < n' := by simpa using h20
      simp only [msrL, h20, if_false] at hI
      have hm := msr_spec x n' h2 (by omega)
      refine W.skip ?_
      refine qs ?_
      refine W.seq ?_
      refine W.region ?_
      refine pu (ev tab rfl) rfl ?_
      refine WO.nil ?_
      refine qs ?_
      refine W.seq ?_
      refine W.region ?_
      first | refine pu (ev tab rfl) rfl ?_ | refine pu (loadRow tab rfl rfl rfl rfl) rfl ?_ | refine pu (loadBox tab rfl rfl rfl rfl rfl) rfl ?_
      refine pu (ev tab rfl) rfl ?_
      refine pu (puCall rfl rfl rfl (ih x (List.mem_of_getElem? hx) _ h2 (by omega)) rfl) rfl ?_
      iterate 5 refine pu (ev tab rfl) rfl ?_
      refine WO.nil ?_
      refine qs ?_
      refine W.region ?_
      iterate 4 refine pu (ev tab rfl) rfl ?_
      refine WO.nil ?_
      refine qbN ?_
      refine qs ?_
      refine W.region ?_
      iterate 2 refine pu (ev tab rfl) rfl ?_
      refine WO.nil ?_
      refine W.endR [] ⟨(k + 1, (msr x n').1, if d < (msr x n').2 then (msr x n').2 else d), ?_⟩ ?_ rfl ?_ ⟨rfl, rfl, rfl, rfl, trivial⟩ ?_ trivial rfl
      · refine ⟨hlt, hI, by omega, by omega, ?_, ?_⟩ <;> split <;> omega
      · dsimp only; omega
      · repeat' first | exact trivial | refine ⟨rfl, ?_⟩ | refine ⟨step_nat (by assumption) (by assumption), ?_⟩
      · repeat' first | exact trivial | refine ⟨rfl, ?_⟩ | refine ⟨step_nat (by assumption) (by assumption), ?_⟩
  · skip
    rw [hd] at hI
    refine W.exit ?_
    refine qsExit ?_
    refine qlExit ?_
    refine qbExit ?_
    refine qs ?_
    refine W.seq ?_
    refine W.region ?_
    iterate 2 refine pu (ev tab rfl) rfl ?_
    refine pu (puI (ev tab rfl) (wrap64 (by omega))) rfl ?_
    iterate 2 refine pu (ev tab rfl) rfl ?_
    refine WO.nil ?_
    refine qs ?_
    refine W.ret ?_
    refine QF.ret0 trivial rfl ?_
    rw [msr_eq, ← hI]; rfl

theorem count_fn : ∀ (e : Ex) (m : Int), 0 ≤ m → m ≤ 200 → Does Tryz.prog 90 [.ag e.c, .d (.v (.int .i64 m))] (.d (.v (.int .i64 (count e m)))) 0 := by
  refine Ex.ind fun e ih => ?_
  intro m h0 h1
  refine Does.of_W (n := 31) (ts := [4]) Tryz.func90 (by kernel_rfl) rfl Tryz.ntmps90 Tryz.results90 rfl rfl fun C hC => ?_
  refine W.seq ?_
  refine W.region ?_
  refine boxR rfl rfl rfl ?_
  refine pu (ev tab rfl) rfl ?_
  refine WO.nil ?_
  refine qs ?_
  refine W.seq ?_
  refine W.region ?_
  refine pu (ev tab rfl) rfl ?_
  refine WO.nil ?_
  refine qs ?_
  refine W.seq ?_
  refine W.seq ?_
  refine W.region ?_
  refine pu (ev tab rfl) rfl ?_
  refine WO.nil ?_
  refine qs ?_
  refine W.block ?_
  refine lenBox (g := 0) (j := 5) rfl rfl (fun hlen => ?_)
  rw [Ex.kc_len] at hlen
  refine W.loopR (ι := {x : Nat × Int // match x with | (k, n') => k ≤ e.kids.length ∧ countL (e.kids.drop k) m n' = countL e.kids m 1 ∧ 0 ≤ n' ∧ n' ≤ m + 1})
    (fun x => match x.1 with | (k, n') => [(2, .ptr 0 0), (5, .d (.v (.int .i64 (n')))), (6, .d (.v (.int .i64 ((k : Nat) : Int))))]) [(1, _)]
    (fun x => match x.1 with | (k, n') => []) [(0, _)] [] 1 (fun x => match x.1 with | (k, n') => e.kids.length - k)
    [0] ⟨(0, 1), ?_⟩ rfl ?_ ⟨rfl, rfl, trivial⟩ ?_ ⟨rfl, rfl, trivial⟩ rfl ?_
  · exact ⟨Nat.zero_le _, rfl, by omega, by omega⟩
  · repeat' first | exact trivial | refine ⟨rfl, ?_⟩ | refine ⟨step_nat (by assumption) (by assumption), ?_⟩
  · repeat' first | exact trivial | refine ⟨rfl, ?_⟩ | refine ⟨step_nat (by assumption) (by assumption), ?_⟩
  rintro ⟨⟨k, n'⟩, hk, hI, h2, h3⟩
  show W _ _ _ _ _ ⟨[(2, .ptr 0 0), (5, .d (.v (.int .i64 (n')))), (6, .d (.v (.int .i64 ((k : Nat) : Int)))), (1, _)], [(0, _)], [], 1⟩
  refine W.seq ?_
  refine W.seq ?_
  apply regionB; (case hb => rfl)
  · skip
    iterate 2 refine pu (ev tab rfl) rfl ?_
    first | refine pu (ev tab rfl) rfl ?_ | refine pu (loadRow tab rfl rfl rfl rfl) rfl ?_ | refine pu (loadBox tab rfl rfl rfl rfl rfl) rfl ?_
    iterate 3 refine pu (ev tab rfl) rfl ?_
    apply splitJ; (case hj => rfl); (case hl => rfl)
    · skip
      refine goG rfl rfl ?_
      refine pu (ev tab rfl) rfl ?_
      refine goG rfl rfl ?_
      refine pu (ev tab rfl) rfl ?_
      refine goG rfl rfl ?_
      iterate 2 refine pu (ev tab rfl) rfl ?_
      refine WO.nil ?_
      refine qv1 rfl rfl rfl
    · skip
      refine skipT rfl rfl rfl rfl ?_
      refine skipT rfl rfl rfl rfl ?_
      refine skipT rfl rfl rfl rfl ?_
      refine pu (ev tab rfl) rfl ?_
      refine WO.nil ?_
      refine qv1 rfl rfl rfl
  refine qs ?_
  refine condK rfl (fun h16 => ?_) (fun h16 => ?_)
  · skip
    have h16 : k < e.kids.length ∧ n' ≤ m := by simpa [Ex.kc_len] using h16
    have hlt := h16.1
    obtain ⟨x, hx, hd⟩ := exAt hlt
    rw [hd] at hI
    simp only [countL, h16.2, if_true] at hI
    have hm := count_spec x (m - n') (by omega)
    refine W.skip ?_
    refine qs ?_
    refine W.seq ?_
    refine W.block ?_
    refine W.region ?_
    iterate 2 refine pu (ev tab rfl) rfl ?_
    first | refine pu (ev tab rfl) rfl ?_ | refine pu (loadRow tab rfl rfl rfl rfl) rfl ?_ | refine pu (loadBox tab rfl rfl rfl rfl rfl) rfl ?_
    refine pu (ev tab rfl) rfl ?_
    refine pu (indexAddr tab rfl rfl rfl rfl rfl rfl (Int.natCast_nonneg _) (Ex.kc_idx hx) rfl) rfl ?_
    first | refine pu (ev tab rfl) rfl ?_ | refine pu (loadRow tab rfl rfl rfl rfl) rfl ?_ | refine pu (loadBox tab rfl rfl rfl rfl rfl) rfl ?_
    iterate 2 refine pu (ev tab rfl) rfl ?_
    refine pu (puI (ev tab rfl) (wrap64 (by omega))) rfl ?_
    refine pu (puCall rfl rfl rfl (ih x (List.mem_of_getElem? hx) _ (by omega) (by omega)) rfl) rfl ?_
    refine pu (puI (ev tab rfl) (wrap64 (by omega))) rfl ?_
    refine pu (ev tab rfl) rfl ?_
    refine WO.nil ?_
    refine qbN ?_
    refine qs ?_
    refine W.region ?_
    iterate 3 refine pu (ev tab rfl) rfl ?_
    refine WO.nil ?_
    refine W.endR [0] ⟨(k + 1, n' + count x (m - n')), ?_⟩ ?_ rfl ?_ ⟨rfl, rfl, trivial⟩ ?_ ⟨rfl, rfl, trivial⟩ rfl
    · exact ⟨hlt, hI, by omega, by omega⟩
    · dsimp only; omega
    · repeat' first | exact trivial | refine ⟨rfl, ?_⟩ | refine ⟨step_nat (by assumption) (by assumption), ?_⟩
    · repeat' first | exact trivial | refine ⟨rfl, ?_⟩ | refine ⟨step_nat (by assumption) (by assumption), ?_⟩
  · skip
    have h16 : k < e.kids.length → m < n' := by simpa [Ex.kc_len] using h16
    have hfin : n' = countL e.kids m 1 := by
      rw [← hI]
      rcases Nat.lt_or_ge k e.kids.length with h | h
      · obtain ⟨x, hx, hd⟩ := exAt h
        rw [hd]; simp only [countL, if_neg (show ¬ n' ≤ m by have := h16 h; omega)]
      · rw [dropEnd h]; rfl
    refine W.exit ?_
    refine qsExit ?_
    refine qlExit ?_
    refine qbExit ?_
    refine qs ?_
    refine W.seq ?_
    refine W.region ?_
    iterate 2 refine pu (ev tab rfl) rfl ?_
    refine WO.nil ?_
    refine qs ?_
    refine W.ret ?_
    refine QF.ret0 trivial rfl ?_
    rw [count_eq, ← hfin]; rfl

theorem levels_fn : ∀ (e : Ex), cnt e ≤ 200 → Does Tryz.prog 91 [.ag e.c] (.d (.v (.int .i64 (lev e)))) 0 := by
  refine Ex.ind fun e ih => ?_
  intro h0
  have hc := cnt_eq e
  refine Does.of_W (n := 22) (ts := [2]) Tryz.func91 (by kernel_rfl) rfl Tryz.ntmps91 Tryz.results91 rfl rfl fun C hC => ?_
  refine W.seq ?_
  refine W.region ?_
  refine boxR rfl rfl rfl ?_
  refine pu (ev tab rfl) rfl ?_
  refine WO.nil ?_
  refine qs ?_
  refine W.seq ?_
  refine W.region ?_
  refine pu (ev tab rfl) rfl ?_
  refine WO.nil ?_
  refine qs ?_
  refine W.seq ?_
  refine W.seq ?_
  refine W.region ?_
  refine pu (ev tab rfl) rfl ?_
  refine WO.nil ?_
  refine qs ?_
  refine W.block ?_
  refine lenBox (g := 0) (j := 5) rfl rfl (fun hlen => ?_)
  rw [Ex.kc_len] at hlen
  refine W.loopR (ι := {x : Nat × Int // match x with | (k, d) => k ≤ e.kids.length ∧ levL (e.kids.drop k) d = levL e.kids 0 ∧ 0 ≤ d ∧ cntL (e.kids.drop k) ≤ cntL e.kids ∧ d ≤ 200})
    (fun x => match x.1 with | (k, d) => [(1, .ptr 0 0), (3, .d (.v (.int .i64 (d)))), (4, .d (.v (.int .i64 ((k : Nat) : Int))))]) []
    (fun x => match x.1 with | (k, d) => []) [(0, _)] [] 1 (fun x => match x.1 with | (k, d) => e.kids.length - k)
    [0] ⟨(0, 0), ?_⟩ rfl ?_ trivial ?_ ⟨rfl, rfl, trivial⟩ rfl ?_
  · exact ⟨Nat.zero_le _, rfl, by omega, by simp, by omega⟩
  · repeat' first | exact trivial | refine ⟨rfl, ?_⟩ | refine ⟨step_nat (by assumption) (by assumption), ?_⟩
  · repeat' first | exact trivial | refine ⟨rfl, ?_⟩ | refine ⟨step_nat (by assumption) (by assumption), ?_⟩
  rintro ⟨⟨k, d⟩, hk, hI, h2, h3, h4⟩
  show W _ _ _ _ _ ⟨[(1, .ptr 0 0), (3, .d (.v (.int .i64 (d)))), (4, .d (.v (.int .i64 ((k : Nat) : Int))))], [(0, _)], [], 1⟩
  refine W.seq ?_
  refine W.seq ?_
  refine W.region ?_
  iterate 2 refine pu (ev tab rfl) rfl ?_
  first | refine pu (ev tab rfl) rfl ?_ | refine pu (loadRow tab rfl rfl rfl rfl) rfl ?_ | refine pu (loadBox tab rfl rfl rfl rfl rfl) rfl ?_
  iterate 2 refine pu (ev tab rfl) rfl ?_
  refine WO.nil ?_
  refine qs ?_
  refine eachR (l := e.kids) (k := k) rfl (by simp [Ex.kc_len, bytes_len]) hk (fun x hx hd hlt => ?_) (fun he hd => ?_)
  · skip
    rw [hd] at hI h3
    simp only [levL, cntL] at hI h3
    have hx1 := lev_le x
    have hx2 := cntL_pos (e.kids.drop (k + 1))
    have hx3 := cnt_pos x
    refine W.skip ?_
    refine qs ?_
    refine W.seq ?_
    refine W.block ?_
    refine W.region ?_
    iterate 2 refine pu (ev tab rfl) rfl ?_
    first | refine pu (ev tab rfl) rfl ?_ | refine pu (loadRow tab rfl rfl rfl rfl) rfl ?_ | refine pu (loadBox tab rfl rfl rfl rfl rfl) rfl ?_
    refine pu (ev tab rfl) rfl ?_
    refine pu (indexAddr tab rfl rfl rfl rfl rfl rfl (Int.natCast_nonneg _) (Ex.kc_idx hx) rfl) rfl ?_
    first | refine pu (ev tab rfl) rfl ?_ | refine pu (loadRow tab rfl rfl rfl rfl) rfl ?_ | refine pu (loadBox tab rfl rfl rfl rfl rfl) rfl ?_
    refine pu (puCall rfl rfl rfl (ih x (List.mem_of_getElem? hx) (by omega)) rfl) rfl ?_
    iterate 2 refine pu (ev tab rfl) rfl ?_
    refine WO.nil ?_
    refine qbN ?_
    refine qs ?_
    refine W.region ?_
    iterate 3 refine pu (ev tab rfl) rfl ?_
    refine WO.nil ?_
    refine W.endR [0] ⟨(k + 1, if d < lev x then lev x else d), ?_⟩ ?_ rfl ?_ trivial ?_ ⟨rfl, rfl, trivial⟩ rfl
    · refine ⟨hlt, hI, ?_, by omega, ?_⟩ <;> split <;> omega
    · dsimp only; omega
    · repeat' first | exact trivial | refine ⟨rfl, ?_⟩ | refine ⟨step_nat (by assumption) (by assumption), ?_⟩
    · repeat' first | exact trivial | refine ⟨rfl, ?_⟩ | refine ⟨step_nat (by assumption) (by assumption), ?_⟩
  · skip
    rw [hd] at hI
    simp only [levL] at hI
    refine W.exit ?_
    refine qsExit ?_
    refine qlExit ?_
    refine qbExit ?_
    refine qs ?_
    refine W.seq ?_
    refine W.region ?_
    refine pu (ev tab rfl) rfl ?_
    refine pu (puI (ev tab rfl) (wrap64 (by omega))) rfl ?_
    refine pu (ev tab rfl) rfl ?_
    refine WO.nil ?_
    refine qs ?_
    refine W.ret ?_
    refine QF.ret0 trivial rfl ?_
    rw [lev_eq, ← hI]; rfl

theorem deep_fn : ∀ (e : Ex) (level left : Int), -1000 ≤ level → level ≤ 40 → 0 ≤ left → left ≤ 300 → Does Tryz.prog 43 [.ag e.c, .d (.v (.int .i64 level)), .d (.v (.int .i64 left))] (.d (.v (.int .i64 (deep e level left)))) 0 := by
  refine Ex.ind fun e ih => ?_
  intro level left h0 h1 h2 h3
  have hq := deep_eq e level left
  refine Does.of_W (n := 48) (ts := [6]) Tryz.func43 (by kernel_rfl) rfl Tryz.ntmps43 Tryz.results43 rfl rfl fun C hC => ?_
  refine W.seq ?_
  refine W.region ?_
  refine boxR rfl rfl rfl ?_
  refine pu (ev tab rfl) rfl ?_
  refine WO.nil ?_
  refine qs ?_
  refine W.seq ?_
  refine W.region ?_
  refine pu (ev tab rfl) rfl ?_
  refine pu (puI (ev tab rfl) (wrap64 (by omega))) rfl ?_
  refine pu (ev tab rfl) rfl ?_
  refine WO.nil ?_
  refine qs ?_
  refine W.seq ?_
  refine W.seq ?_
  apply regionB; (case hb => rfl)
  · skip
    iterate 3 refine pu (ev tab rfl) rfl ?_
    apply splitJ; (case hj => rfl); (case hl => rfl)
    · skip
      refine skipT rfl rfl rfl rfl ?_
      refine skipT rfl rfl rfl rfl ?_
      iterate 2 refine pu (ev tab rfl) rfl ?_
      refine skipT rfl rfl rfl rfl ?_
      refine skipT rfl rfl rfl rfl ?_
      refine skipT rfl rfl rfl rfl ?_
      refine skipT rfl rfl rfl rfl ?_
      iterate 2 refine pu (ev tab rfl) rfl ?_
      refine skipT rfl rfl rfl rfl ?_
      refine skipT rfl rfl rfl rfl ?_
      refine skipT rfl rfl rfl rfl ?_
      refine skipT rfl rfl rfl rfl ?_
      refine skipT rfl rfl rfl rfl ?_
      refine pu (ev tab rfl) rfl ?_
      refine WO.nil ?_
      refine qv1 rfl rfl rfl
    · skip
      refine goG rfl rfl ?_
      refine pu (ev tab rfl) rfl ?_
      refine goG rfl rfl ?_
      iterate 3 refine pu (ev tab rfl) rfl ?_
      apply splitJ; (case hj => rfl); (case hl => rfl)
      · skip
        refine skipT rfl rfl rfl rfl ?_
        refine skipT rfl rfl rfl rfl ?_
        refine skipT rfl rfl rfl rfl ?_
        refine skipT rfl rfl rfl rfl ?_
        iterate 2 refine pu (ev tab rfl) rfl ?_
        refine skipT rfl rfl rfl rfl ?_
        refine skipT rfl rfl rfl rfl ?_
        refine skipT rfl rfl rfl rfl ?_
        refine skipT rfl rfl rfl rfl ?_
        refine skipT rfl rfl rfl rfl ?_
        refine pu (ev tab rfl) rfl ?_
        refine WO.nil ?_
        refine qv1 rfl rfl rfl
      · skip
        refine goG rfl rfl ?_
        refine pu (ev tab rfl) rfl ?_
        refine goG rfl rfl ?_
        first | refine pu (ev tab rfl) rfl ?_ | refine pu (loadRow tab rfl rfl rfl rfl) rfl ?_ | refine pu (loadBox tab rfl rfl rfl rfl rfl) rfl ?_
        refine goG rfl rfl ?_
        refine pu (ev tab rfl) rfl ?_
        refine goG rfl rfl ?_
        iterate 3 refine pu (ev tab rfl) rfl ?_
        apply splitJ; (case hj => rfl); (case hl => rfl)
        · skip
          refine skipT rfl rfl rfl rfl ?_
          refine skipT rfl rfl rfl rfl ?_
          refine skipT rfl rfl rfl rfl ?_
          refine skipT rfl rfl rfl rfl ?_
          refine skipT rfl rfl rfl rfl ?_
          refine pu (ev tab rfl) rfl ?_
          refine WO.nil ?_
          refine qv1 rfl rfl rfl
        · skip
          refine goG rfl rfl ?_
          refine pu (ev tab rfl) rfl ?_
          refine goG rfl rfl ?_
          refine pu (ev tab rfl) rfl ?_
          refine goG rfl rfl ?_
          first | refine pu (ev tab rfl) rfl ?_ | refine pu (loadRow tab rfl rfl rfl rfl) rfl ?_ | refine pu (loadBox tab rfl rfl rfl rfl rfl) rfl ?_
          refine goG rfl rfl ?_
          refine pu (ev tab rfl) rfl ?_
          refine goG rfl rfl ?_
          iterate 2 refine pu (ev tab rfl) rfl ?_
          refine WO.nil ?_
          refine qv1 rfl rfl rfl
  refine qs ?_
  refine condK rfl (fun h28 => ?_) (fun h28 => ?_)
  · skip
    have h28 : level < 1 ∨ left - 1 < 0 ∨ 300 < e.name.size ∨ 300 < e.v.s.size := by grind
    rw [if_pos h28] at hq
    refine W.seq ?_
    refine W.region ?_
    refine pu (ev tab rfl) rfl ?_
    refine WO.nil ?_
    refine qs ?_
    refine W.ret ?_
    refine qsRet ?_
    refine QF.ret0 trivial rfl ?_
    rw [hq]; rfl
  · skip
    have h28 : ¬ (level < 1 ∨ left - 1 < 0 ∨ 300 < e.name.size ∨ 300 < e.v.s.size) := by grind
    rw [if_neg h28] at hq
    refine W.skip ?_
    refine qs ?_
    refine W.seq ?_
    refine W.seq ?_
    refine W.region ?_
    refine pu (ev tab rfl) rfl ?_
    refine WO.nil ?_
    refine qs ?_
    refine W.block ?_
    refine lenBox (g := 0) (j := 5) rfl rfl (fun hlen => ?_)
    rw [Ex.kc_len] at hlen
    refine W.loopR (ι := {x : Nat × Int // match x with | (k, l) => k ≤ e.kids.length ∧ deepL (e.kids.drop k) level l = deepL e.kids level (left - 1) ∧ 0 ≤ l ∧ l ≤ 300})
      (fun x => match x.1 with | (k, l) => [(2, .d (.v (.int .i64 (l)))), (3, .ptr 0 0), (7, .d (.v (.int .i64 ((k : Nat) : Int))))]) [(1, _)]
      (fun x => match x.1 with | (k, l) => []) [(0, _)] [] 1 (fun x => match x.1 with | (k, l) => e.kids.length - k)
      [0] ⟨(0, left - 1), ?_⟩ rfl ?_ ⟨rfl, rfl, trivial⟩ ?_ ⟨rfl, rfl, trivial⟩ rfl ?_
    · exact ⟨Nat.zero_le _, rfl, by omega, by omega⟩
    · repeat' first | exact trivial | refine ⟨rfl, ?_⟩ | refine ⟨step_nat (by assumption) (by assumption), ?_⟩
    · repeat' first | exact trivial | refine ⟨rfl, ?_⟩ | refine ⟨step_nat (by assumption) (by assumption), ?_⟩
    rintro ⟨⟨k, l⟩, hk, hI, h4, h5⟩
    show W _ _ _ _ _ ⟨[(2, .d (.v (.int .i64 (l)))), (3, .ptr 0 0), (7, .d (.v (.int .i64 ((k : Nat) : Int)))), (1, _)], [(0, _)], [], 1⟩
    refine W.seq ?_
    refine W.seq ?_
    refine W.region ?_
    iterate 2 refine pu (ev tab rfl) rfl ?_
    first | refine pu (ev tab rfl) rfl ?_ | refine pu (loadRow tab rfl rfl rfl rfl) rfl ?_ | refine pu (loadBox tab rfl rfl rfl rfl rfl) rfl ?_
    iterate 2 refine pu (ev tab rfl) rfl ?_
    refine WO.nil ?_
    refine qs ?_
    refine eachR (l := e.kids) (k := k) rfl (by simp [Ex.kc_len, bytes_len]) hk (fun x hx hd hlt => ?_) (fun he hd => ?_)
    · skip
      rw [hd] at hI
      simp only [deepL] at hI
      have hx1 := deep_le x (level - 1) l h4
      refine W.skip ?_
      refine qs ?_
      refine W.seq ?_
      refine W.block ?_
      refine W.seq ?_
      refine W.region ?_
      refine pu (ev tab rfl) rfl ?_
      first | refine pu (ev tab rfl) rfl ?_ | refine pu (loadRow tab rfl rfl rfl rfl) rfl ?_ | refine pu (loadBox tab rfl rfl rfl rfl rfl) rfl ?_
      refine pu (ev tab rfl) rfl ?_
      refine pu (indexAddr tab rfl rfl rfl rfl rfl rfl (Int.natCast_nonneg _) (Ex.kc_idx hx) rfl) rfl ?_
      first | refine pu (ev tab rfl) rfl ?_ | refine pu (loadRow tab rfl rfl rfl rfl) rfl ?_ | refine pu (loadBox tab rfl rfl rfl rfl rfl) rfl ?_
      refine pu (ev tab rfl) rfl ?_
      refine pu (puI (ev tab rfl) (wrap64 (by omega))) rfl ?_
      refine pu (ev tab rfl) rfl ?_
      refine pu (puCall rfl rfl rfl (ih x (List.mem_of_getElem? hx) _ _ (by omega) (by omega) (by omega) (by omega)) rfl) rfl ?_
      refine pu (ev tab rfl) rfl ?_
      refine WO.nil ?_
      refine qs ?_
      refine W.seq ?_
      refine W.region ?_
      iterate 2 refine pu (ev tab rfl) rfl ?_
      refine WO.nil ?_
      refine qs ?_
      refine condK rfl (fun h46 => ?_) (fun h46 => ?_)
      · skip
        rw [if_pos (by simpa using h46)] at hI
        refine W.seq ?_
        refine W.region ?_
        refine pu (ev tab rfl) rfl ?_
        refine WO.nil ?_
        refine qs ?_
        refine W.ret ?_
        refine qbRet ?_
        refine qsRet ?_
        refine qlRet ?_
        refine qbRet ?_
        refine qsRet ?_
        refine QF.ret0 trivial rfl ?_
        rw [hq, ← hI]; rfl
      · skip
        rw [if_neg (by simpa using h46)] at hI
        have h46 : 0 ≤ deep x (level - 1) l := by simpa using h46
        refine W.skip ?_
        refine qbN ?_
        refine qs ?_
        refine W.region ?_
        iterate 3 refine pu (ev tab rfl) rfl ?_
        refine WO.nil ?_
        refine W.endR [0] ⟨(k + 1, deep x (level - 1) l), ?_⟩ ?_ rfl ?_ ⟨rfl, rfl, trivial⟩ ?_ ⟨rfl, rfl, trivial⟩ rfl
        · exact ⟨hlt, hI, by omega, by omega⟩
        · dsimp only; omega
        · repeat' first | exact trivial | refine ⟨rfl, ?_⟩ | refine ⟨step_nat (by assumption) (by assumption), ?_⟩
        · repeat' first | exact trivial | refine ⟨rfl, ?_⟩ | refine ⟨step_nat (by assumption) (by assumption), ?_⟩
    · skip
      rw [hd] at hI
      simp only [deepL] at hI
      refine W.exit ?_
      refine qsExit ?_
      refine qlExit ?_
      refine qbExit ?_
      refine qs ?_
      refine W.seq ?_
      refine W.region ?_
      iterate 2 refine pu (ev tab rfl) rfl ?_
      refine WO.nil ?_
      refine qs ?_
      refine W.ret ?_
      refine QF.ret0 trivial rfl ?_
      rw [hq, ← hI]; rfl
theorem small_fn (e : Ex) : Does Tryz.prog 18 [.ag e.c] (.d (.v (.bool (small e)))) 0 := by
  refine Does.of_W (n := 6) (ts := [2]) Tryz.func18 (by kernel_rfl) rfl Tryz.ntmps18 Tryz.results18 rfl rfl fun C hC => ?_
  refine W.seq ?_
  refine W.region ?_
  refine boxR rfl rfl rfl ?_
  refine pu (ev tab rfl) rfl ?_
  refine WO.nil ?_
  refine qs ?_
  refine W.seq ?_
  refine W.region ?_
  first | refine pu (ev tab rfl) rfl ?_ | refine pu (loadRow tab rfl rfl rfl rfl) rfl ?_ | refine pu (loadBox tab rfl rfl rfl rfl rfl) rfl ?_
  refine pu (puCall rfl rfl rfl (deep_fn e 40 300 (by omega) (by omega) (by omega) (by omega)) rfl) rfl ?_
  iterate 2 refine pu (ev tab rfl) rfl ?_
  refine WO.nil ?_
  refine qs ?_
  refine W.ret ?_
  refine QF.ret0 trivial rfl ?_
  rfl
end Go.Proofs.YtmhjgeneogknpaaGreat
