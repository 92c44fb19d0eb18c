import Derived.Test.YtifeonoehfffmaaDoorQ2
import Derived.Test.YtifeonoehfffmaaDoorChecked
import Derived.KernelRfl
import Derived.Test.YtifeonoehfffmaaDoorRows
import Derived.Shelf.Strings.Builder1
import Derived.Shelf.Strings.Builder2
import Derived.Shelf.Strings.OnBuilder
import Derived.Shelf.Small.Strs
import Derived.Shelf.Strconv.Atoi
import Derived.Shelf.Strconv.Itoa0
import Derived.Shelf.Strconv.Itoa1
import Derived.Shelf.LaysM
import Derived.Shelf.Strconv.Itoa2
import Derived.Shelf.Strconv.Itoa3
import Derived.Shelf.Strconv.AtoiErrFast
import Derived.Shelf.Strconv.ParseIntEmpty
import Derived.Shelf.Strconv.AtoiFail
import Derived.Shelf.Strconv.Clone
import Derived.Shelf.Strconv.SyntaxError
import Derived.Shelf.LaysC
import Derived.Shelf.Strconv.ToError
import Derived.Shelf.Strconv.AtoiErr
import Derived.Shelf.Strconv.ErrVar
import Derived.Shelf.Strconv.Lower
import Derived.Shelf.Strconv.ParseUint10
import Derived.Shelf.Strconv.ParseUint10Empty
import Derived.Shelf.Strconv.ParseUint10Any
import Derived.Shelf.Strconv.ParseInt10
import Derived.Shelf.Strconv.AtoiLong
import Derived.Shelf.Strconv.AtoiInnerAll
import Derived.Shelf.Strconv.RangeError
import Derived.Shelf.Strconv.ToErrorRange
import Derived.Shelf.Strconv.AtoiAll
import Derived.Shelf.Strconv.ErrVarAll
import Derived.Shelf.Strings.Search1
import Derived.Shelf.Strings.Search2
import Derived.Shelf.Strings.Search3
import Derived.Shelf.Strings.Count
import Derived.Shelf.Strings.Shaped
import Derived.Shelf.Strings.Split
import Derived.Shelf.Strings.SplitShaped
import Derived.Shelf.Unicode.DecodeSlow
import Derived.Shelf.Slices.Equal
import Derived.Shelf.Slices.Empties2
import Derived.Test.YtifeonoehfffmaaDoorProg
/- The table of the program's types, for the data level. Made by a program of this repo (gentab.py). -/
namespace Go.Proofs.YtifeonoehfffmaaDoor
open Go.Ab
abbrev tabL : List (Nat × TyD) := [
  (2, ⟨.int .i64, 1, 8, [.int .i64 0]⟩),
  (3, ⟨.int .i64, 1, 8, [.int .i64 0]⟩),
  (4, ⟨.bool, 1, 1, [.bool false]⟩),
  (5, ⟨.int .u8, 1, 1, [.int .u8 0]⟩),
  (9, ⟨.str, 1, 16, [.string ⟨#[]⟩]⟩),
  (12, ⟨.int .u64, 1, 8, [.int .u64 0]⟩),
  (21, ⟨.int .i32, 1, 4, [.int .i32 0]⟩),
  (22, ⟨.int .i64, 1, 8, [.int .i64 0]⟩),
  (23, ⟨.slice 9, 1, 24, [.slice none 0 0]⟩),
  (25, ⟨.st [(0, 3, "At"), (1, 22, "Kind"), (2, 9, "Name"), (3, 3, "N"), (4, 3, "M"), (5, 23, "Stack")], 6, 72, [.int .i64 0, .int .i64 0, .string ⟨#[]⟩, .int .i64 0, .int .i64 0, .slice none 0 0]⟩),
  (28, ⟨.int .i64, 1, 8, [.int .i64 0]⟩),
  (36, ⟨.slice 25, 1, 24, [.slice none 0 0]⟩),
  (40, ⟨.st [(0, 9, "word"), (1, 4, "name"), (2, 4, "n"), (3, 4, "m"), (4, 4, "stack"), (5, 3, "least"), (6, 3, "most"), (7, 3, "mLeast"), (8, 3, "mMost")], 9, 56, [.string ⟨#[]⟩, .bool false, .bool false, .bool false, .bool false, .int .i64 0, .int .i64 0, .int .i64 0, .int .i64 0]⟩),
  (52, ⟨.ptr 55, 1, 8, [.pointer none]⟩),
  (55, ⟨.st [(0, 23, "words"), (1, 4, "bad")], 2, 32, [.slice none 0 0, .bool false]⟩),
  (59, ⟨.slice 40, 1, 24, [.slice none 0 0]⟩),
  (67, ⟨.ptr 70, 1, 8, [.pointer none]⟩),
  (68, ⟨.slice 5, 1, 24, [.slice none 0 0]⟩),
  (70, ⟨.st [(0, 67, "addr"), (1, 68, "buf")], 2, 32, [.pointer none, .slice none 0 0]⟩),
  (79, ⟨.ptr 5, 1, 8, [.pointer none]⟩),
  (94, ⟨.int .u64, 1, 8, [.int .u64 0]⟩),
  (100, ⟨.int .u64, 1, 8, [.int .u64 0]⟩),
  (101, ⟨.int .i64, 1, 8, [.int .i64 0]⟩),
  (104, ⟨.ptr 122, 1, 8, [.pointer none]⟩),
  (109, ⟨.int .u32, 1, 4, [.int .u32 0]⟩),
  (114, ⟨.st [(0, 5, "lo"), (1, 5, "hi")], 2, 2, [.int .u8 0, .int .u8 0]⟩),
  (126, ⟨.ptr 128, 1, 8, [.pointer none]⟩),
  (128, ⟨.st [(0, 9, "s")], 1, 16, [.string ⟨#[]⟩]⟩)]
theorem tab_ok : tabL.all (fun x => tyOK Tryd.prog x.1 x.2) = true := by kernel_rfl
abbrev tab : Tab Tryd.prog := ⟨tabL, tab_ok, by kernel_rfl⟩
instance progMet : Go.Ab.Met Tryd.prog := ⟨fun W => MetNum Tryd.prog W⟩
end Go.Proofs.YtifeonoehfffmaaDoor
/- What the row's listed variables give: strconv's tables and errors. -/
namespace Go.Proofs.YtifeonoehfffmaaDoor
open Go.Ab
theorem lmet (W : World) (h : laidMet Tryd.prog Rows.eventListsRow.laid W) : MetNum Tryd.prog W :=
  metNum_of (t := 108) (e := 94) (m := 20) (ti := 73) h (d := Rows.laid_internal_strconv_uint64pow10) (.tail _ (.tail _ (.head _))) (by kernel_rfl) (by kernel_rfl) (by kernel_rfl) (by kernel_rfl) (by kernel_rfl) (by kernel_rfl)
    (nm := "*errors.errorString") (nm' := "*errors.errorString") (.tail _ (.tail _ (.tail _ (.tail _ (.tail _ (.head _)))))) (.tail _ (.tail _ (.tail _ (.tail _ (.head _))))) (by kernel_rfl) (by kernel_rfl) (by kernel_rfl)
end Go.Proofs.YtifeonoehfffmaaDoor
namespace Go.Proofs.YtifeonoehfffmaaDoor
open Go.Ab Go.Tb
set_option maxRecDepth 10000
attribute [local irreducible] W WO Pu QS QB QL QF QV QV1 CH QE



theorem in_fn (n : Int) : Does Tryd.prog 74 [.d (.v (.int .i64 n))] (.d (.v (.bool (inR n)))) 0 := by
  refine Does.of_W (n := 9) (ts := [2]) Tryd.func74 (by kernel_rfl) rfl Tryd.ntmps74 Tryd.results74 rfl rfl fun C hC hG => ?_
  refine W.seq ?_
  refine W.region ?_
  refine pu (ev tab rfl) rfl ?_
  refine WO.nil ?_
  refine qs ?_
  refine W.seq ?_
  apply regionB; (case hb => rfl)
  · skip
    iterate 3 refine pu (ev tab rfl) rfl ?_
    apply splitJ; (case hj => rfl); (case hl => rfl)
    · skip
      refine goG rfl rfl ?_
      refine pu (ev tab rfl) rfl ?_
      refine goG rfl rfl ?_
      iterate 3 refine pu (ev tab rfl) rfl ?_
      refine WO.nil ?_
      refine qv1 rfl rfl rfl
    · skip
      refine skipT rfl rfl rfl rfl ?_
      refine skipT rfl rfl rfl rfl ?_
      iterate 2 refine pu (ev tab rfl) rfl ?_
      refine WO.nil ?_
      refine qv1 rfl rfl rfl
  refine qs ?_
  refine W.ret ?_
  refine QF.ret0 trivial rfl ?_
  simp [norm, oneA, inR]
end Go.Proofs.YtifeonoehfffmaaDoor
namespace Go.Proofs.YtifeonoehfffmaaDoor
open Go.Ab Go.Tb
set_option maxRecDepth 10000
attribute [local irreducible] W WO Pu QS QB QL QF QV QV1 CH QE




end Go.Proofs.YtifeonoehfffmaaDoor
namespace Go.Proofs.YtifeonoehfffmaaDoor
open Go.Ab Go.Tb
set_option maxRecDepth 10000
attribute [local irreducible] W WO Pu QS QB QL QF QV QV1 CH QE
theorem ixb_fn (s : ByteArray) (b : UInt8) : Does Tryd.prog 75 [.d (.v (.string s)), .d (.v (.int .u8 b.toNat))] (.d (.v (.int .i64 (Lib.indexByte (bys s) b)))) 0 := by
  refine Does.of_W (n := 8) (ts := [4]) Tryd.func75 (by kernel_rfl) rfl Tryd.ntmps75 Tryd.results75 rfl rfl fun C hC hG => ?_
  refine W.inRange (t := 0) rfl (fun hok => ?_)
  refine W.seq ?_
  refine W.region ?_
  refine pu (ev tab rfl) rfl ?_
  refine WO.nil ?_
  refine qs ?_
  refine W.seq ?_
  refine W.region ?_
  iterate 2 refine pu (ev tab rfl) rfl ?_
  refine pu (puExt (vs := [.string s, .int .u8 b.toNat]) rfl rfl (fun w => (run_callFunc_extern Tryd.func89 (by kernel_rfl) (by kernel_rfl) (by kernel_rfl) (by kernel_rfl) #[.string s, .int .u8 b.toNat] w).trans (by rw [show (Extern.BytealgIndexByte.indexByte #[.string s, .int .u8 b.toNat]).run Tryd.prog w = _ from Lib.run_indexByteString s b.toNat w]; rfl)) (indexByte_ok hok _)) rfl ?_
  refine pu (ev tab rfl) rfl ?_
  refine WO.nil ?_
  refine qs ?_
  refine W.ret ?_
  refine QF.ret0 trivial rfl ?_
  simp [norm, oneA, bys]
theorem sixb_fn (s : ByteArray) (b : UInt8) : Does Tryd.prog 64 [.d (.v (.string s)), .d (.v (.int .u8 b.toNat))] (.d (.v (.int .i64 (Lib.indexByte (bys s) b)))) 0 := by
  refine Does.of_W (n := 8) (ts := [4]) Tryd.func64 (by kernel_rfl) rfl Tryd.ntmps64 Tryd.results64 rfl rfl fun C hC hG => ?_
  refine W.seq ?_
  refine W.region ?_
  refine pu (ev tab rfl) rfl ?_
  refine WO.nil ?_
  refine qs ?_
  refine W.seq ?_
  refine W.region ?_
  iterate 2 refine pu (ev tab rfl) rfl ?_
  refine pu (puCall rfl rfl rfl (ixb_fn ..) rfl) rfl ?_
  refine pu (ev tab rfl) rfl ?_
  refine WO.nil ?_
  refine qs ?_
  refine W.ret ?_
  refine QF.ret0 trivial rfl ?_
  rfl
theorem letter_fn (b : UInt8) : Does Tryd.prog 54 [.d (.v (.int .u8 b.toNat))] (.d (.v (.bool (letterB b)))) 0 := by
  refine Does.of_W (n := 30) (ts := [2]) Tryd.func54 (by kernel_rfl) rfl Tryd.ntmps54 Tryd.results54 rfl rfl fun C hC hG => ?_
  refine W.seq ?_
  refine W.region ?_
  refine pu (ev tab rfl) rfl ?_
  refine WO.nil ?_
  refine qs ?_
  refine W.seq ?_
  apply regionB; (case hb => rfl)
  · skip
    iterate 3 refine pu (ev tab rfl) rfl ?_
    apply splitJ; (case hj => rfl); (case hl => rfl)
    · skip
      refine goG rfl rfl ?_
      refine pu (ev tab rfl) rfl ?_
      refine goG rfl rfl ?_
      iterate 3 refine pu (ev tab rfl) rfl ?_
      apply splitJ; (case hj => rfl); (case hl => rfl)
      · skip
        refine skipT rfl rfl rfl rfl ?_
        refine skipT rfl rfl rfl rfl ?_
        refine skipT rfl rfl rfl rfl ?_
        refine skipU rfl rfl rfl ?_
        refine skipU rfl rfl rfl ?_
        refine skipT rfl rfl rfl rfl ?_
        iterate 2 refine pu (ev tab rfl) rfl ?_
        refine skipT rfl rfl rfl rfl ?_
        refine skipT rfl rfl rfl rfl ?_
        refine skipT rfl rfl rfl rfl ?_
        refine skipU rfl rfl rfl ?_
        refine skipU rfl rfl rfl ?_
        refine skipT rfl rfl rfl rfl ?_
        iterate 2 refine pu (ev tab rfl) rfl ?_
        refine skipT rfl rfl rfl rfl ?_
        refine skipT rfl rfl rfl rfl ?_
        refine skipT rfl rfl rfl rfl ?_
        iterate 2 refine pu (ev tab rfl) rfl ?_
        refine WO.nil ?_
        refine qv1 rfl rfl rfl
      · skip
        refine goG rfl rfl ?_
        refine pu (ev tab rfl) rfl ?_
        refine goG rfl rfl ?_
        refine pu (ev tab rfl) rfl ?_
        refine goG rfl rfl ?_
        refine pu (ev tab rfl) rfl ?_
        apply splitJ; (case hj => rfl); (case hl => rfl)
        · skip
          refine goG rfl rfl ?_
          refine pu (ev tab rfl) rfl ?_
          refine goG rfl rfl ?_
          refine pu (ev tab rfl) rfl ?_
          refine goG rfl rfl ?_
          iterate 3 refine pu (ev tab rfl) rfl ?_
          apply splitJ; (case hj => rfl); (case hl => rfl)
          · skip
            refine skipT rfl rfl rfl rfl ?_
            refine skipT rfl rfl rfl rfl ?_
            refine skipT rfl rfl rfl rfl ?_
            refine skipU rfl rfl rfl ?_
            refine skipU rfl rfl rfl ?_
            refine skipT rfl rfl rfl rfl ?_
            iterate 2 refine pu (ev tab rfl) rfl ?_
            refine skipT rfl rfl rfl rfl ?_
            refine skipT rfl rfl rfl rfl ?_
            refine skipT rfl rfl rfl rfl ?_
            iterate 2 refine pu (ev tab rfl) rfl ?_
            refine WO.nil ?_
            refine qv1 rfl rfl rfl
          · skip
            refine goG rfl rfl ?_
            refine pu (ev tab rfl) rfl ?_
            refine goG rfl rfl ?_
            refine pu (ev tab rfl) rfl ?_
            refine goG rfl rfl ?_
            refine pu (ev tab rfl) rfl ?_
            apply splitJ; (case hj => rfl); (case hl => rfl)
            · skip
              refine goG rfl rfl ?_
              refine pu (ev tab rfl) rfl ?_
              refine goG rfl rfl ?_
              refine pu (ev tab rfl) rfl ?_
              refine goG rfl rfl ?_
              iterate 3 refine pu (ev tab rfl) rfl ?_
              apply splitJ; (case hj => rfl); (case hl => rfl)
              · skip
                refine skipT rfl rfl rfl rfl ?_
                refine skipT rfl rfl rfl rfl ?_
                refine skipT rfl rfl rfl rfl ?_
                iterate 2 refine pu (ev tab rfl) rfl ?_
                refine WO.nil ?_
                refine qv1 rfl rfl rfl
              · skip
                refine goG rfl rfl ?_
                refine pu (ev tab rfl) rfl ?_
                refine goG rfl rfl ?_
                refine pu (puCall rfl rfl rfl (sixb_fn ..) rfl) rfl ?_
                refine goG rfl rfl ?_
                iterate 3 refine pu (ev tab rfl) rfl ?_
                refine WO.nil ?_
                refine qv1 rfl rfl rfl
            · skip
              refine skipT rfl rfl rfl rfl ?_
              refine skipT rfl rfl rfl rfl ?_
              refine goG rfl rfl ?_
              iterate 3 refine pu (ev tab rfl) rfl ?_
              refine goG rfl rfl ?_
              refine pu (ev tab rfl) rfl ?_
              refine goG rfl rfl ?_
              refine pu (puCall rfl rfl rfl (sixb_fn ..) rfl) rfl ?_
              refine goG rfl rfl ?_
              iterate 3 refine pu (ev tab rfl) rfl ?_
              refine WO.nil ?_
              refine qv1 rfl rfl rfl
        · skip
          refine skipT rfl rfl rfl rfl ?_
          refine skipT rfl rfl rfl rfl ?_
          refine goG rfl rfl ?_
          iterate 3 refine pu (ev tab rfl) rfl ?_
          refine goG rfl rfl ?_
          refine pu (ev tab rfl) rfl ?_
          refine goG rfl rfl ?_
          refine pu (ev tab rfl) rfl ?_
          refine goG rfl rfl ?_
          refine pu (ev tab rfl) rfl ?_
          apply splitJ; (case hj => rfl); (case hl => rfl)
          · skip
            refine goG rfl rfl ?_
            refine pu (ev tab rfl) rfl ?_
            refine goG rfl rfl ?_
            refine pu (ev tab rfl) rfl ?_
            refine goG rfl rfl ?_
            iterate 3 refine pu (ev tab rfl) rfl ?_
            apply splitJ; (case hj => rfl); (case hl => rfl)
            · skip
              refine skipT rfl rfl rfl rfl ?_
              refine skipT rfl rfl rfl rfl ?_
              refine skipT rfl rfl rfl rfl ?_
              iterate 2 refine pu (ev tab rfl) rfl ?_
              refine WO.nil ?_
              refine qv1 rfl rfl rfl
            · skip
              refine goG rfl rfl ?_
              refine pu (ev tab rfl) rfl ?_
              refine goG rfl rfl ?_
              refine pu (puCall rfl rfl rfl (sixb_fn ..) rfl) rfl ?_
              refine goG rfl rfl ?_
              iterate 3 refine pu (ev tab rfl) rfl ?_
              refine WO.nil ?_
              refine qv1 rfl rfl rfl
          · skip
            refine skipT rfl rfl rfl rfl ?_
            refine skipT rfl rfl rfl rfl ?_
            refine goG rfl rfl ?_
            iterate 3 refine pu (ev tab rfl) rfl ?_
            refine goG rfl rfl ?_
            refine pu (ev tab rfl) rfl ?_
            refine goG rfl rfl ?_
            refine pu (puCall rfl rfl rfl (sixb_fn ..) rfl) rfl ?_
            refine goG rfl rfl ?_
            iterate 3 refine pu (ev tab rfl) rfl ?_
            refine WO.nil ?_
            refine qv1 rfl rfl rfl
    · skip
      refine skipT rfl rfl rfl rfl ?_
      refine skipT rfl rfl rfl rfl ?_
      iterate 2 refine pu (ev tab rfl) rfl ?_
      refine goG rfl rfl ?_
      refine pu (ev tab rfl) rfl ?_
      refine goG rfl rfl ?_
      refine pu (ev tab rfl) rfl ?_
      refine goG rfl rfl ?_
      refine pu (ev tab rfl) rfl ?_
      apply splitJ; (case hj => rfl); (case hl => rfl)
      · skip
        refine goG rfl rfl ?_
        refine pu (ev tab rfl) rfl ?_
        refine goG rfl rfl ?_
        refine pu (ev tab rfl) rfl ?_
        refine goG rfl rfl ?_
        iterate 3 refine pu (ev tab rfl) rfl ?_
        apply splitJ; (case hj => rfl); (case hl => rfl)
        · skip
          refine skipT rfl rfl rfl rfl ?_
          refine skipT rfl rfl rfl rfl ?_
          refine skipT rfl rfl rfl rfl ?_
          refine skipU rfl rfl rfl ?_
          refine skipU rfl rfl rfl ?_
          refine skipT rfl rfl rfl rfl ?_
          iterate 2 refine pu (ev tab rfl) rfl ?_
          refine skipT rfl rfl rfl rfl ?_
          refine skipT rfl rfl rfl rfl ?_
          refine skipT rfl rfl rfl rfl ?_
          iterate 2 refine pu (ev tab rfl) rfl ?_
          refine WO.nil ?_
          refine qv1 rfl rfl rfl
        · skip
          refine goG rfl rfl ?_
          refine pu (ev tab rfl) rfl ?_
          refine goG rfl rfl ?_
          refine pu (ev tab rfl) rfl ?_
          refine goG rfl rfl ?_
          refine pu (ev tab rfl) rfl ?_
          apply splitJ; (case hj => rfl); (case hl => rfl)
          · skip
            refine goG rfl rfl ?_
            refine pu (ev tab rfl) rfl ?_
            refine goG rfl rfl ?_
            refine pu (ev tab rfl) rfl ?_
            refine goG rfl rfl ?_
            iterate 3 refine pu (ev tab rfl) rfl ?_
            apply splitJ; (case hj => rfl); (case hl => rfl)
            · skip
              refine skipT rfl rfl rfl rfl ?_
              refine skipT rfl rfl rfl rfl ?_
              refine skipT rfl rfl rfl rfl ?_
              iterate 2 refine pu (ev tab rfl) rfl ?_
              refine WO.nil ?_
              refine qv1 rfl rfl rfl
            · skip
              refine goG rfl rfl ?_
              refine pu (ev tab rfl) rfl ?_
              refine goG rfl rfl ?_
              refine pu (puCall rfl rfl rfl (sixb_fn ..) rfl) rfl ?_
              refine goG rfl rfl ?_
              iterate 3 refine pu (ev tab rfl) rfl ?_
              refine WO.nil ?_
              refine qv1 rfl rfl rfl
          · skip
            refine skipT rfl rfl rfl rfl ?_
            refine skipT rfl rfl rfl rfl ?_
            refine goG rfl rfl ?_
            iterate 3 refine pu (ev tab rfl) rfl ?_
            refine goG rfl rfl ?_
            refine pu (ev tab rfl) rfl ?_
            refine goG rfl rfl ?_
            refine pu (puCall rfl rfl rfl (sixb_fn ..) rfl) rfl ?_
            refine goG rfl rfl ?_
            iterate 3 refine pu (ev tab rfl) rfl ?_
            refine WO.nil ?_
            refine qv1 rfl rfl rfl
      · skip
        refine skipT rfl rfl rfl rfl ?_
        refine skipT rfl rfl rfl rfl ?_
        refine goG rfl rfl ?_
        iterate 3 refine pu (ev tab rfl) rfl ?_
        refine goG rfl rfl ?_
        refine pu (ev tab rfl) rfl ?_
        refine goG rfl rfl ?_
        refine pu (ev tab rfl) rfl ?_
        refine goG rfl rfl ?_
        refine pu (ev tab rfl) rfl ?_
        apply splitJ; (case hj => rfl); (case hl => rfl)
        · skip
          refine goG rfl rfl ?_
          refine pu (ev tab rfl) rfl ?_
          refine goG rfl rfl ?_
          refine pu (ev tab rfl) rfl ?_
          refine goG rfl rfl ?_
          iterate 3 refine pu (ev tab rfl) rfl ?_
          apply splitJ; (case hj => rfl); (case hl => rfl)
          · skip
            refine skipT rfl rfl rfl rfl ?_
            refine skipT rfl rfl rfl rfl ?_
            refine skipT rfl rfl rfl rfl ?_
            iterate 2 refine pu (ev tab rfl) rfl ?_
            refine WO.nil ?_
            refine qv1 rfl rfl rfl
          · skip
            refine goG rfl rfl ?_
            refine pu (ev tab rfl) rfl ?_
            refine goG rfl rfl ?_
            refine pu (puCall rfl rfl rfl (sixb_fn ..) rfl) rfl ?_
            refine goG rfl rfl ?_
            iterate 3 refine pu (ev tab rfl) rfl ?_
            refine WO.nil ?_
            refine qv1 rfl rfl rfl
        · skip
          refine skipT rfl rfl rfl rfl ?_
          refine skipT rfl rfl rfl rfl ?_
          refine goG rfl rfl ?_
          iterate 3 refine pu (ev tab rfl) rfl ?_
          refine goG rfl rfl ?_
          refine pu (ev tab rfl) rfl ?_
          refine goG rfl rfl ?_
          refine pu (puCall rfl rfl rfl (sixb_fn ..) rfl) rfl ?_
          refine goG rfl rfl ?_
          iterate 3 refine pu (ev tab rfl) rfl ?_
          refine WO.nil ?_
          refine qv1 rfl rfl rfl
  refine qs ?_
  refine W.ret ?_
  refine QF.ret0 trivial rfl ?_
  simp only [norm, oneA]; rw [indexByte_any]; simp only [letterB, lower, marks]; simp [bys]; grind
theorem name_fn (s : ByteArray) : Does Tryd.prog 43 [.d (.v (.string s))] (.d (.v (.int .i64 (nameErr s)))) 0 := by
  refine Does.of_W (n := 22) (ts := [2]) Tryd.func43 (by kernel_rfl) rfl Tryd.ntmps43 Tryd.results43 rfl rfl fun C hC hG => ?_
  refine W.seq ?_
  refine W.region ?_
  refine pu (ev tab rfl) rfl ?_
  refine WO.nil ?_
  refine qs ?_
  refine W.seq ?_
  refine W.seq ?_
  apply regionB; (case hb => rfl)
  · skip
    iterate 3 refine pu (ev tab rfl) rfl ?_
    apply splitJ; (case hj => rfl); (case hl => rfl)
    · skip
      refine skipT rfl rfl rfl rfl ?_
      refine skipT rfl rfl rfl rfl ?_
      refine skipT rfl rfl rfl rfl ?_
      refine pu (ev tab rfl) rfl ?_
      refine WO.nil ?_
      refine qv1 rfl rfl rfl
    · skip
      refine goG rfl rfl ?_
      refine pu (ev tab rfl) rfl ?_
      refine goG rfl rfl ?_
      refine pu (ev tab rfl) rfl ?_
      refine goG rfl rfl ?_
      iterate 2 refine pu (ev tab rfl) rfl ?_
      refine WO.nil ?_
      refine qv1 rfl rfl rfl
  refine qs ?_
  refine condK rfl (fun h10 => ?_) (fun h10 => ?_)
  · skip
    refine W.seq ?_
    refine W.region ?_
    refine pu (ev tab rfl) rfl ?_
    refine WO.nil ?_
    refine qs ?_
    refine W.ret ?_
    refine qsRet ?_
    refine QF.ret0 trivial rfl ?_
    simp only [norm, oneA]; grind [nameErr, empty_bytes]
  · skip
    refine W.skip ?_
    refine qs ?_
    refine W.seq ?_
    refine W.seq ?_
    refine W.region ?_
    iterate 3 refine pu (ev tab rfl) rfl ?_
    refine WO.nil ?_
    refine qs ?_
    refine W.block ?_
    refine W.inRange (t := 0) rfl (fun hok => ?_)
    have hlen := okc_size hok
    refine W.loopR (ι := {x : Nat // match x with | k => k ≤ (bys s).length ∧ ((bys s).drop k).all letterB = (bys s).all letterB})
      (fun x => match x.1 with | k => [(13, .d (.v (.int .i64 ((k : Nat) : Int))))]) [(0, _), (12, _)]
      (fun x => match x.1 with | k => []) [] [] 0 (fun x => match x.1 with | k => (bys s).length - k)
      [] ⟨0, ?_⟩ rfl ?_ ⟨rfl, rfl, rfl, rfl, trivial⟩ ?_ trivial rfl ?_
    · first | exact ⟨Nat.zero_le _, rfl⟩ | exact trivial | simp
    · repeat' first | exact trivial | refine ⟨rfl, ?_⟩ | refine ⟨step_nat (by assumption) (by assumption), ?_⟩
    · repeat' first | exact trivial | refine ⟨rfl, ?_⟩ | refine ⟨step_nat (by assumption) (by assumption), ?_⟩
    rintro ⟨k, hk, hI⟩
    show W _ _ _ _ _ ⟨[(13, .d (.v (.int .i64 ((k : Nat) : Int)))), (0, _), (12, _)], [], [], 0⟩
    refine W.seq ?_
    refine W.region ?_
    refine pu (ev tab rfl) rfl ?_
    refine WO.nil ?_
    refine qs ?_
    refine W.seq ?_
    refine eachR (l := bys s) (k := k) rfl (by simp [Ex.kc_len, bytes_len]) hk (fun b hx hd hlt => ?_) (fun he hd => ?_)
    · skip
      rw [hd, List.all_cons] at hI
      refine W.skip ?_
      refine qs ?_
      refine W.seq ?_
      refine W.block ?_
      refine W.seq ?_
      refine W.region ?_
      iterate 2 refine pu (ev tab rfl) rfl ?_
      refine WO.nil ?_
      refine qs ?_
      refine W.seq ?_
      refine W.region ?_
      iterate 2 refine pu (ev tab rfl) rfl ?_
      refine pu (indexStr tab rfl rfl rfl rfl (Int.natCast_nonneg _) (byteList (by assumption))) rfl ?_
      refine pu (puCall rfl rfl rfl (letter_fn ..) rfl) rfl ?_
      refine pu (ev tab rfl) rfl ?_
      refine WO.nil ?_
      refine qs ?_
      refine condK rfl (fun h20 => ?_) (fun h20 => ?_)
      · skip
        refine W.seq ?_
        refine W.region ?_
        refine pu (ev tab rfl) rfl ?_
        refine WO.nil ?_
        refine qs ?_
        refine W.ret ?_
        refine qbRet ?_
        refine qsRet ?_
        refine qlRet ?_
        refine qbRet ?_
        refine qsRet ?_
        refine QF.ret0 trivial rfl ?_
        simp only [norm, oneA]; grind [nameErr, empty_bytes]
      · skip
        refine W.skip ?_
        refine qbN ?_
        refine qs ?_
        refine W.region ?_
        iterate 2 refine pu (ev tab rfl) rfl ?_
        refine WO.nil ?_
        refine W.endR [] ⟨k + 1, ?_⟩ ?_ rfl ?_ ⟨rfl, rfl, rfl, rfl, trivial⟩ ?_ trivial rfl
        · exact ⟨hlt, by rw [← hI]; simp_all⟩
        · dsimp only; omega
        · repeat' first | exact trivial | refine ⟨rfl, ?_⟩ | refine ⟨step_nat (by assumption) (by assumption), ?_⟩
        · repeat' first | exact trivial | refine ⟨rfl, ?_⟩ | refine ⟨step_nat (by assumption) (by assumption), ?_⟩
    · skip
      rw [hd] at hI
      refine W.exit ?_
      refine qsExit ?_
      refine qlExit ?_
      refine qbExit ?_
      refine qs ?_
      refine W.seq ?_
      refine W.region ?_
      refine pu (ev tab rfl) rfl ?_
      refine WO.nil ?_
      refine qs ?_
      refine W.ret ?_
      refine QF.ret0 trivial rfl ?_
      simp only [norm, oneA]; grind [nameErr, empty_bytes]
end Go.Proofs.YtifeonoehfffmaaDoor
/-
  DERIVED: THE SHELF's CONTRACTS AT THIS DUMP, IN PLAIN WORDS (tools/lay-plain.mjs out of 'TrydShelf.lean', which tools/lay-shelf.mjs wrote): THE SAME DECLARATIONS UNDER THE SAME NAMES: 'import', 'namespace', 'open', 'def', 'theorem' AND NOTHING ELSE: no command of the shelf's: FOR A HAND-IN. Each laying: the table of numbers ('.._ren') and one theorem, a field a fact of the dump's own or the kernel's comparison; each contract: ONE APPLICATION.
-/
namespace Go.Proofs
open Go.Shelf
def Tryd.lays156_ren : Go.Shelf.Ren := ⟨fun | 156 => 29 | 165 => 48 | 166 => 49 | 169 => 50 | 240 => 56 | 241 => 57 | 276 => 66 | 277 => 67 | n => n, fun | 31 => 23 | 9 => 9 | 3 => 3 | 4 => 4 | 0 => 0 | 20 => 20 | 72 => 70 | 76 => 74 | 70 => 67 | 37 => 68 | 75 => 73 | 127 => 79 | 164 => 86 | 5 => 5 | 80 => 57 | n => n, fun | n => n⟩
theorem Tryd.lays156 : Go.Proofs.Lays.n156 Tryd.prog Tryd.lays156_ren := {
  mixed := by kernel_rfl
  f156 := Tryd.func29.trans (congrArg some (by kernel_rfl))
  f165 := Tryd.func48.trans (congrArg some (by kernel_rfl))
  f166 := Tryd.func49.trans (congrArg some (by kernel_rfl))
  f169 := Tryd.func50.trans (congrArg some (by kernel_rfl))
  f240 := Tryd.func56.trans (congrArg some (by kernel_rfl))
  f241 := Tryd.func57.trans (congrArg some (by kernel_rfl))
  f276 := Tryd.func66.trans (congrArg some (by kernel_rfl))
  f277 := Tryd.func67.trans (congrArg some (by kernel_rfl))
  t0 := Tryd.underlying0
  a0 := Tryd.isAgg0
  z0 := Tryd.sizeOf0
  v0 := Tryd.zeroValue0
  t3 := Tryd.underlying3
  a3 := Tryd.isAgg3
  z3 := Tryd.sizeOf3
  v3 := Tryd.zeroValue3
  t4 := Tryd.underlying4
  a4 := Tryd.isAgg4
  z4 := Tryd.sizeOf4
  v4 := Tryd.zeroValue4
  t9 := Tryd.underlying9
  a9 := Tryd.isAgg9
  z9 := Tryd.sizeOf9
  v9 := Tryd.zeroValue9
  t20 := Tryd.underlying20
  a20 := Tryd.isAgg20
  z20 := Tryd.sizeOf20
  v20 := Tryd.zeroValue20
  t31 := Tryd.underlying23
  a31 := Tryd.isAgg23
  z31 := Tryd.sizeOf23
  v31 := Tryd.zeroValue23
  t37 := Tryd.underlying68
  a37 := Tryd.isAgg68
  z37 := Tryd.sizeOf68
  v37 := Tryd.zeroValue68
  t70 := Tryd.underlying67
  a70 := Tryd.isAgg67
  z70 := Tryd.sizeOf67
  v70 := Tryd.zeroValue67
  t72 := Tryd.underlying70
  a72 := Tryd.isAgg70
  z72 := Tryd.sizeOf70
  v72 := Tryd.zeroValue70
  t75 := Tryd.underlying73
  a75 := Tryd.isAgg73
  z75 := Tryd.sizeOf73
  v75 := Tryd.zeroValue73
  t76 := Tryd.underlying74
  a76 := Tryd.isAgg74
  z76 := Tryd.sizeOf74
  v76 := Tryd.zeroValue74
  t127 := Tryd.underlying79
  a127 := Tryd.isAgg79
  z127 := Tryd.sizeOf79
  v127 := Tryd.zeroValue79
  t164 := Tryd.underlying86
  a164 := Tryd.isAgg86
  z164 := Tryd.sizeOf86
  v164 := Tryd.zeroValue86 }
theorem Tryd.Builder_Extra_156 : Builder.Extra Tryd.prog Tryd.lays156_ren := {
  sizeBuilder := by kernel_rfl
  liesBuilder := by kernel_rfl
  t5 := Tryd.underlying5
  a5 := Tryd.isAgg5
  z5 := Tryd.sizeOf5
  v5 := Tryd.zeroValue5
  infoByte := by kernel_rfl
  cellsByte := by kernel_rfl
  sizeByte := by kernel_rfl
  neB5 := by decide }
open Go.RowKit in
/-- No element: the empty string; the world is as it was. (Whatever the slice's address and capacity: a nil slice too.) (LAID: no walk: one application.) -/
theorem Tryd.strings_Join_none (a : Option Addr) (c : Nat) (sep : ByteArray) (w : World) :
    Calls Tryd.prog 29 #[.slice a 0 c, .string sep] w fun e w' => e = .returned (.string ⟨#[]⟩) ∧ w' = w := Any.strings_Join_none Tryd.lays156 Tryd.Builder_Extra_156 a c sep w
open Go.RowKit in
/-- strings.Join: "Join concatenates the elements of its first argument to create a single string. The separator string sep is placed between elements in the resulting string.": HOWEVER MANY ELEMENTS. Below the heap's end the world is as it was. (LAID: no walk: one application.) -/
theorem Tryd.strings_Join (bk o c : Nat) (xs : List ByteArray) (sep : ByteArray) (w : World) (hcells : ∀ (j : Nat) x, xs[j]? = some x → w.cell? ⟨bk, o + j, none⟩ = some (.string x)) (hbk : bk < w.heap.size) (hN : xs.length ≤ 140737488355328) (hcap : xs.length ≤ c) (hlen : (Lib.join (xs.map (·.data.toList)) sep.data.toList).length ≤ 140737488355328) :
    Calls Tryd.prog 29 #[.slice (some ⟨bk, o, none⟩) xs.length c, .string sep] w fun e w' => e = .returned (.string ⟨(Lib.join (xs.map (·.data.toList)) sep.data.toList).toArray⟩) ∧ Below w.heap.size w w' := Any.strings_Join Tryd.lays156 Tryd.Builder_Extra_156 bk o c xs sep w hcells hbk hN hcap hlen
def Tryd.laysM171_ren : Go.Shelf.Ren := ⟨fun | 171 => 47 | 243 => 55 | 246 => 65 | 283 => 76 | 284 => 77 | 285 => 78 | 286 => 79 | 129 => 91 | 317 => 90 | 318 => 92 | 319 => 93 | 320 => 94 | 337 => 99 | 338 => 100 | n => n, fun | 3 => 3 | 9 => 9 | 2 => 2 | 4 => 4 | 171 => 93 | 0 => 0 | 53 => 94 | 37 => 68 | 5 => 5 | 173 => 97 | 212 => 108 | 51 => 109 | 20 => 20 | 213 => 110 | 46 => 100 | 232 => 129 | 233 => 130 | n => n, fun | 17 => 1 | 18 => 6 | 19 => 7 | n => n⟩
theorem Tryd.laysM171 : Go.Proofs.LaysM.n171 Tryd.prog Tryd.laysM171_ren := {
  mixed := by kernel_rfl
  f129 := Tryd.func91.trans (congrArg some (by kernel_rfl))
  f171 := Tryd.func47.trans (congrArg some (by kernel_rfl))
  f243 := Tryd.func55.trans (congrArg some (by kernel_rfl))
  f246 := Tryd.func65.trans (congrArg some (by kernel_rfl))
  f283 := Tryd.func76.trans (congrArg some (by kernel_rfl))
  f284 := Tryd.func77.trans (congrArg some (by kernel_rfl))
  f285 := Tryd.func78.trans (congrArg some (by kernel_rfl))
  f286 := Tryd.func79.trans (congrArg some (by kernel_rfl))
  f317 := Tryd.func90.trans (congrArg some (by kernel_rfl))
  f318 := Tryd.func92.trans (congrArg some (by kernel_rfl))
  f319 := Tryd.func93.trans (congrArg some (by kernel_rfl))
  f320 := Tryd.func94.trans (congrArg some (by kernel_rfl))
  f337 := Tryd.func99.trans (congrArg some (by kernel_rfl))
  f338 := Tryd.func100.trans (congrArg some (by kernel_rfl))
  t0 := Tryd.underlying0
  a0 := Tryd.isAgg0
  z0 := Tryd.sizeOf0
  v0 := Tryd.zeroValue0
  t2 := Tryd.underlying2
  a2 := Tryd.isAgg2
  z2 := Tryd.sizeOf2
  v2 := Tryd.zeroValue2
  t3 := Tryd.underlying3
  a3 := Tryd.isAgg3
  z3 := Tryd.sizeOf3
  v3 := Tryd.zeroValue3
  t4 := Tryd.underlying4
  a4 := Tryd.isAgg4
  z4 := Tryd.sizeOf4
  v4 := Tryd.zeroValue4
  t5 := Tryd.underlying5
  a5 := Tryd.isAgg5
  z5 := Tryd.sizeOf5
  v5 := Tryd.zeroValue5
  t9 := Tryd.underlying9
  a9 := Tryd.isAgg9
  z9 := Tryd.sizeOf9
  v9 := Tryd.zeroValue9
  t20 := Tryd.underlying20
  a20 := Tryd.isAgg20
  z20 := Tryd.sizeOf20
  v20 := Tryd.zeroValue20
  t37 := Tryd.underlying68
  a37 := Tryd.isAgg68
  z37 := Tryd.sizeOf68
  v37 := Tryd.zeroValue68
  t46 := Tryd.underlying100
  a46 := Tryd.isAgg100
  z46 := Tryd.sizeOf100
  v46 := Tryd.zeroValue100
  t51 := Tryd.underlying109
  a51 := Tryd.isAgg109
  z51 := Tryd.sizeOf109
  v51 := Tryd.zeroValue109
  t53 := Tryd.underlying94
  a53 := Tryd.isAgg94
  z53 := Tryd.sizeOf94
  v53 := Tryd.zeroValue94
  t171 := Tryd.underlying93
  a171 := Tryd.isAgg93
  z171 := Tryd.sizeOf93
  v171 := Tryd.zeroValue93
  t173 := Tryd.underlying97
  a173 := Tryd.isAgg97
  z173 := Tryd.sizeOf97
  v173 := Tryd.zeroValue97
  t212 := Tryd.underlying108
  a212 := Tryd.isAgg108
  z212 := Tryd.sizeOf108
  v212 := Tryd.zeroValue108
  t213 := Tryd.underlying110
  a213 := Tryd.isAgg110
  z213 := Tryd.sizeOf110
  t232 := Tryd.underlying129
  a232 := Tryd.isAgg129
  z232 := Tryd.sizeOf129
  v232 := Tryd.zeroValue129
  t233 := Tryd.underlying130
  a233 := Tryd.isAgg130
  z233 := Tryd.sizeOf130
  v233 := Tryd.zeroValue130
  g17 := by kernel_rfl
  g18 := by kernel_rfl
  g19 := by kernel_rfl
  i0 := by kernel_rfl
  i2 := by kernel_rfl
  i3 := by kernel_rfl
  i4 := by kernel_rfl
  i5 := by kernel_rfl
  i9 := by kernel_rfl
  i20 := by kernel_rfl
  i37 := by kernel_rfl
  i46 := by kernel_rfl
  i51 := by kernel_rfl
  i53 := by kernel_rfl
  i171 := by kernel_rfl
  i173 := by kernel_rfl
  i212 := by kernel_rfl
  i232 := by kernel_rfl
  i233 := by kernel_rfl
  m17 := by kernel_rfl
  m18 := by kernel_rfl
  m19 := by kernel_rfl }
open Go.RowKit Go.Sort Go.Lib in
/-- strconv.Itoa: "Itoa is equivalent to FormatInt(int64(i), 10).": i's DECIMAL NUMERAL ('Lib.itoa': a '-' where i is negative, then the digits), FOR EVERY int. The world behind the call: the world before it, new blocks behind the heap (the library's 'var a [24]byte'), draws. (LAID: no walk: one application.) -/
theorem Tryd.strconv_Itoa (n : Int) (h0 : -9223372036854775808 ≤ n) (h1 : n ≤ 9223372036854775807) (w : World) (htab : Lib.TabIs Tryd.prog w "internal/strconv.uint64pow10" .u64 Lib.pow10Tab) :
    Calls Tryd.prog 47 #[.int .i64 n] w fun e w' => e = .returned (.string ⟨(Lib.itoa n).toArray⟩) ∧ ∃ k os, w' = grow (w.drewN k) os := Any.strconv_Itoa Tryd.laysM171 n h0 h1 w htab
def Tryd.laysC172_ren : Go.Shelf.Ren := ⟨fun | 172 => 61 | 244 => 72 | 245 => 73 | 247 => 84 | 279 => 85 | 280 => 86 | 281 => 87 | 282 => 88 | 287 => 96 | 316 => 97 | 171 => 47 | 205 => 98 | 321 => 101 | 322 => 102 | 243 => 55 | 246 => 65 | 283 => 76 | 284 => 77 | 285 => 78 | 286 => 79 | 129 => 91 | 317 => 90 | 318 => 92 | 319 => 93 | 320 => 94 | 337 => 99 | 338 => 100 | n => n, fun | 9 => 9 | 3 => 3 | 75 => 73 | 76 => 74 | 4 => 4 | 5 => 5 | 167 => 101 | 37 => 68 | 0 => 0 | 85 => 102 | 2 => 2 | 168 => 104 | 53 => 94 | 175 => 118 | 46 => 100 | 210 => 122 | 127 => 79 | 145 => 128 | 143 => 126 | 21 => 21 | 171 => 93 | 173 => 97 | 212 => 108 | 51 => 109 | 20 => 20 | 213 => 110 | 232 => 129 | 233 => 130 | 80 => 57 | n => n, fun | 15 => 4 | 16 => 5 | 17 => 1 | 18 => 6 | 19 => 7 | n => n⟩
theorem Tryd.laysC172 : Go.Proofs.LaysC.n172 Tryd.prog Tryd.laysC172_ren := {
  mixed := by kernel_rfl
  f129 := Tryd.func91.trans (congrArg some (by kernel_rfl))
  f171 := Tryd.func47.trans (congrArg some (by kernel_rfl))
  f172 := Tryd.func61.trans (congrArg some (by kernel_rfl))
  f205 := Tryd.func98.trans (congrArg some (by kernel_rfl))
  f243 := Tryd.func55.trans (congrArg some (by kernel_rfl))
  f244 := Tryd.func72.trans (congrArg some (by kernel_rfl))
  f245 := Tryd.func73.trans (congrArg some (by kernel_rfl))
  f246 := Tryd.func65.trans (congrArg some (by kernel_rfl))
  f247 := Tryd.func84.trans (congrArg some (by kernel_rfl))
  f279 := Tryd.func85.trans (congrArg some (by kernel_rfl))
  f280 := Tryd.func86.trans (congrArg some (by kernel_rfl))
  f281 := Tryd.func87.trans (congrArg some (by kernel_rfl))
  f282 := Tryd.func88.trans (congrArg some (by kernel_rfl))
  f283 := Tryd.func76.trans (congrArg some (by kernel_rfl))
  f284 := Tryd.func77.trans (congrArg some (by kernel_rfl))
  f285 := Tryd.func78.trans (congrArg some (by kernel_rfl))
  f286 := Tryd.func79.trans (congrArg some (by kernel_rfl))
  f287 := Tryd.func96.trans (congrArg some (by kernel_rfl))
  f316 := Tryd.func97.trans (congrArg some (by kernel_rfl))
  f317 := Tryd.func90.trans (congrArg some (by kernel_rfl))
  f318 := Tryd.func92.trans (congrArg some (by kernel_rfl))
  f319 := Tryd.func93.trans (congrArg some (by kernel_rfl))
  f320 := Tryd.func94.trans (congrArg some (by kernel_rfl))
  f321 := Tryd.func101.trans (congrArg some (by kernel_rfl))
  f322 := Tryd.func102.trans (congrArg some (by kernel_rfl))
  f337 := Tryd.func99.trans (congrArg some (by kernel_rfl))
  f338 := Tryd.func100.trans (congrArg some (by kernel_rfl))
  t0 := Tryd.underlying0
  a0 := Tryd.isAgg0
  z0 := Tryd.sizeOf0
  v0 := Tryd.zeroValue0
  t2 := Tryd.underlying2
  a2 := Tryd.isAgg2
  z2 := Tryd.sizeOf2
  v2 := Tryd.zeroValue2
  t3 := Tryd.underlying3
  a3 := Tryd.isAgg3
  z3 := Tryd.sizeOf3
  v3 := Tryd.zeroValue3
  t4 := Tryd.underlying4
  a4 := Tryd.isAgg4
  z4 := Tryd.sizeOf4
  v4 := Tryd.zeroValue4
  t5 := Tryd.underlying5
  a5 := Tryd.isAgg5
  z5 := Tryd.sizeOf5
  v5 := Tryd.zeroValue5
  t9 := Tryd.underlying9
  a9 := Tryd.isAgg9
  z9 := Tryd.sizeOf9
  v9 := Tryd.zeroValue9
  t20 := Tryd.underlying20
  a20 := Tryd.isAgg20
  z20 := Tryd.sizeOf20
  v20 := Tryd.zeroValue20
  t21 := Tryd.underlying21
  a21 := Tryd.isAgg21
  z21 := Tryd.sizeOf21
  v21 := Tryd.zeroValue21
  t37 := Tryd.underlying68
  a37 := Tryd.isAgg68
  z37 := Tryd.sizeOf68
  v37 := Tryd.zeroValue68
  t46 := Tryd.underlying100
  a46 := Tryd.isAgg100
  z46 := Tryd.sizeOf100
  v46 := Tryd.zeroValue100
  t51 := Tryd.underlying109
  a51 := Tryd.isAgg109
  z51 := Tryd.sizeOf109
  v51 := Tryd.zeroValue109
  t53 := Tryd.underlying94
  a53 := Tryd.isAgg94
  z53 := Tryd.sizeOf94
  v53 := Tryd.zeroValue94
  t75 := Tryd.underlying73
  a75 := Tryd.isAgg73
  z75 := Tryd.sizeOf73
  v75 := Tryd.zeroValue73
  t76 := Tryd.underlying74
  a76 := Tryd.isAgg74
  z76 := Tryd.sizeOf74
  v76 := Tryd.zeroValue74
  t85 := Tryd.underlying102
  a85 := Tryd.isAgg102
  z85 := Tryd.sizeOf102
  v85 := Tryd.zeroValue102
  t127 := Tryd.underlying79
  a127 := Tryd.isAgg79
  z127 := Tryd.sizeOf79
  v127 := Tryd.zeroValue79
  t143 := Tryd.underlying126
  a143 := Tryd.isAgg126
  z143 := Tryd.sizeOf126
  v143 := Tryd.zeroValue126
  t145 := Tryd.underlying128
  a145 := Tryd.isAgg128
  z145 := Tryd.sizeOf128
  v145 := Tryd.zeroValue128
  t167 := Tryd.underlying101
  a167 := Tryd.isAgg101
  z167 := Tryd.sizeOf101
  v167 := Tryd.zeroValue101
  t168 := Tryd.underlying104
  a168 := Tryd.isAgg104
  z168 := Tryd.sizeOf104
  v168 := Tryd.zeroValue104
  t171 := Tryd.underlying93
  a171 := Tryd.isAgg93
  z171 := Tryd.sizeOf93
  v171 := Tryd.zeroValue93
  t173 := Tryd.underlying97
  a173 := Tryd.isAgg97
  z173 := Tryd.sizeOf97
  v173 := Tryd.zeroValue97
  t175 := Tryd.underlying118
  a175 := Tryd.isAgg118
  z175 := Tryd.sizeOf118
  v175 := Tryd.zeroValue118
  t210 := Tryd.underlying122
  a210 := Tryd.isAgg122
  z210 := Tryd.sizeOf122
  v210 := Tryd.zeroValue122
  t212 := Tryd.underlying108
  a212 := Tryd.isAgg108
  z212 := Tryd.sizeOf108
  v212 := Tryd.zeroValue108
  t213 := Tryd.underlying110
  a213 := Tryd.isAgg110
  z213 := Tryd.sizeOf110
  t232 := Tryd.underlying129
  a232 := Tryd.isAgg129
  z232 := Tryd.sizeOf129
  v232 := Tryd.zeroValue129
  t233 := Tryd.underlying130
  a233 := Tryd.isAgg130
  z233 := Tryd.sizeOf130
  v233 := Tryd.zeroValue130
  g15 := by kernel_rfl
  g16 := by kernel_rfl
  g17 := by kernel_rfl
  g18 := by kernel_rfl
  g19 := by kernel_rfl
  t80 := Tryd.underlying57
  a80 := Tryd.isAgg57
  z80 := Tryd.sizeOf57
  v80 := Tryd.zeroValue57
  i0 := by kernel_rfl
  i2 := by kernel_rfl
  i3 := by kernel_rfl
  i4 := by kernel_rfl
  i5 := by kernel_rfl
  i9 := by kernel_rfl
  i20 := by kernel_rfl
  i21 := by kernel_rfl
  i37 := by kernel_rfl
  i46 := by kernel_rfl
  i51 := by kernel_rfl
  i53 := by kernel_rfl
  i75 := by kernel_rfl
  i76 := by kernel_rfl
  i80 := by kernel_rfl
  i85 := by kernel_rfl
  i127 := by kernel_rfl
  i143 := by kernel_rfl
  i145 := by kernel_rfl
  i167 := by kernel_rfl
  i168 := by kernel_rfl
  i171 := by kernel_rfl
  i173 := by kernel_rfl
  i175 := by kernel_rfl
  i210 := by kernel_rfl
  i212 := by kernel_rfl
  i232 := by kernel_rfl
  i233 := by kernel_rfl
  m15 := by kernel_rfl
  m16 := by kernel_rfl
  m17 := by kernel_rfl
  m18 := by kernel_rfl
  m19 := by kernel_rfl
  c0 := by kernel_rfl
  c2 := by kernel_rfl
  c3 := by kernel_rfl
  c4 := by kernel_rfl
  c5 := by kernel_rfl
  c9 := by kernel_rfl
  c20 := by kernel_rfl
  c21 := by kernel_rfl
  c37 := by kernel_rfl
  c46 := by kernel_rfl
  c51 := by kernel_rfl
  c53 := by kernel_rfl
  c75 := by kernel_rfl
  c76 := by kernel_rfl
  c80 := by kernel_rfl
  c85 := by kernel_rfl
  c127 := by kernel_rfl
  c143 := by kernel_rfl
  c145 := by kernel_rfl
  c167 := by kernel_rfl
  c168 := by kernel_rfl
  c171 := by kernel_rfl
  c173 := by kernel_rfl
  c175 := by kernel_rfl
  c210 := by kernel_rfl
  c212 := by kernel_rfl
  c213 := by kernel_rfl
  c232 := by kernel_rfl
  c233 := by kernel_rfl }
open Go.RowKit in
/-- strconv.Atoi, AT EVERY STRING THAT SPELLS AN int ('Lib.atoiAll .. = .ok v'; of whatever length: leading zeros count): v, AND NO ERROR. The world: as it was, or with the one new row that '[]byte(..)' lays. (LAID: no walk: one application.) -/
theorem Tryd.strconv_Atoi_ok (s : ByteArray) (hmax : s.size ≤ 9223372036854775806) (v : Int) (h : Lib.atoiAll s.data.toList = .ok v) (w : World) :
    Calls Tryd.prog 61 #[.string s] w fun e w' => e = .returned (.tuple #[.int .i64 v, .nilIface]) ∧ (w' = w ∨ ∃ t, w' = Lib.bytesWorld w 5 t) := Any.strconv_Atoi_ok Tryd.laysC172 s hmax v h w
open Go.RowKit in
theorem Tryd.strconv_Atoi_syntax_var (s : ByteArray) (hlim : s.size ≤ 281474976710656) (h : Lib.atoiAll s.data.toList = Lib.atoiAll []) (tp : TypeId) (p : Value) (w : World) (hvar : w.var? Tryd.prog "strconv.ErrSyntax" = some #[.iface tp p]) :
    Calls Tryd.prog 61 #[.string s] w fun e w' => ∃ N, e = .returned (.tuple #[.int .i64 0, .iface 104 (.pointer (some ⟨N, 0, none⟩))]) ∧ w.heap.size ≤ N ∧ w'.heap[N]? = some (.cells #[.string ⟨#[65, 116, 111, 105]⟩, .string s, .iface tp p] 122 (0, 0)) ∧ Below w.heap.size w w' := Any.strconv_Atoi_syntax_var Tryd.laysC172 s hlim h tp p w hvar
open Go.RowKit in
theorem Tryd.strconv_Atoi_range_var (s : ByteArray) (hlim : s.size ≤ 281474976710656) (h : Lib.atoiAll s.data.toList = .range) (tp : TypeId) (p : Value) (w : World) (hvar : w.var? Tryd.prog "strconv.ErrRange" = some #[.iface tp p]) :
    Calls Tryd.prog 61 #[.string s] w fun e w' => ∃ N, e = .returned (.tuple #[.int .i64 (Lib.atoiSat s.data.toList), .iface 104 (.pointer (some ⟨N, 0, none⟩))]) ∧ w.heap.size ≤ N ∧ w'.heap[N]? = some (.cells #[.string ⟨#[65, 116, 111, 105]⟩, .string s, .iface tp p] 122 (0, 0)) ∧ Below w.heap.size w w' := Any.strconv_Atoi_range_var Tryd.laysC172 s hlim h tp p w hvar
def Tryd.lays146_ren : Go.Shelf.Ren := ⟨fun | 146 => 33 | 221 => 51 | 268 => 58 | 138 => 59 | 143 => 60 | 195 => 68 | 197 => 69 | 218 => 70 | 219 => 71 | 260 => 80 | 217 => 75 | 225 => 81 | 224 => 82 | 267 => 83 | 266 => 89 | 314 => 95 | n => n, fun | 9 => 9 | 31 => 23 | 3 => 3 | 4 => 4 | 0 => 0 | 105 => 90 | 21 => 21 | 5 => 5 | 46 => 100 | 119 => 112 | 139 => 115 | 138 => 114 | 146 => 116 | 51 => 109 | n => n, fun | 1 => 0 | 3 => 2 | 4 => 3 | n => n⟩
theorem Tryd.lays146 : Go.Proofs.Lays.n146 Tryd.prog Tryd.lays146_ren := {
  mixed := by kernel_rfl
  f138 := Tryd.func59.trans (congrArg some (by kernel_rfl))
  f143 := Tryd.func60.trans (congrArg some (by kernel_rfl))
  f146 := Tryd.func33.trans (congrArg some (by kernel_rfl))
  f195 := Tryd.func68.trans (congrArg some (by kernel_rfl))
  f197 := Tryd.func69.trans (congrArg some (by kernel_rfl))
  f217 := Tryd.func75.trans (congrArg some (by kernel_rfl))
  f218 := Tryd.func70.trans (congrArg some (by kernel_rfl))
  f219 := Tryd.func71.trans (congrArg some (by kernel_rfl))
  f221 := Tryd.func51.trans (congrArg some (by kernel_rfl))
  f224 := Tryd.func82.trans (congrArg some (by kernel_rfl))
  f225 := Tryd.func81.trans (congrArg some (by kernel_rfl))
  f260 := Tryd.func80.trans (congrArg some (by kernel_rfl))
  f266 := Tryd.func89.trans (congrArg some (by kernel_rfl))
  f267 := Tryd.func83.trans (congrArg some (by kernel_rfl))
  f268 := Tryd.func58.trans (congrArg some (by kernel_rfl))
  f314 := Tryd.func95.trans (congrArg some (by kernel_rfl))
  t0 := Tryd.underlying0
  a0 := Tryd.isAgg0
  z0 := Tryd.sizeOf0
  v0 := Tryd.zeroValue0
  t3 := Tryd.underlying3
  a3 := Tryd.isAgg3
  z3 := Tryd.sizeOf3
  v3 := Tryd.zeroValue3
  t4 := Tryd.underlying4
  a4 := Tryd.isAgg4
  z4 := Tryd.sizeOf4
  v4 := Tryd.zeroValue4
  t5 := Tryd.underlying5
  a5 := Tryd.isAgg5
  z5 := Tryd.sizeOf5
  v5 := Tryd.zeroValue5
  t9 := Tryd.underlying9
  a9 := Tryd.isAgg9
  z9 := Tryd.sizeOf9
  v9 := Tryd.zeroValue9
  t21 := Tryd.underlying21
  a21 := Tryd.isAgg21
  z21 := Tryd.sizeOf21
  v21 := Tryd.zeroValue21
  t31 := Tryd.underlying23
  a31 := Tryd.isAgg23
  z31 := Tryd.sizeOf23
  v31 := Tryd.zeroValue23
  t46 := Tryd.underlying100
  a46 := Tryd.isAgg100
  z46 := Tryd.sizeOf100
  v46 := Tryd.zeroValue100
  t51 := Tryd.underlying109
  a51 := Tryd.isAgg109
  z51 := Tryd.sizeOf109
  v51 := Tryd.zeroValue109
  t105 := Tryd.underlying90
  a105 := Tryd.isAgg90
  z105 := Tryd.sizeOf90
  v105 := Tryd.zeroValue90
  t119 := Tryd.underlying112
  a119 := Tryd.isAgg112
  z119 := Tryd.sizeOf112
  t138 := Tryd.underlying114
  a138 := Tryd.isAgg114
  z138 := Tryd.sizeOf114
  v138 := Tryd.zeroValue114
  t139 := Tryd.underlying115
  a139 := Tryd.isAgg115
  z139 := Tryd.sizeOf115
  v139 := Tryd.zeroValue115
  t146 := Tryd.underlying116
  a146 := Tryd.isAgg116
  z146 := Tryd.sizeOf116
  v146 := Tryd.zeroValue116
  g1 := by kernel_rfl
  g3 := by kernel_rfl
  g4 := by kernel_rfl }
open Go.RowKit Go.Lib in
/-- strings.Split. (LAID: no walk: one application.) -/
theorem Tryd.strings_Split (s sep : ByteArray) (m : Int) (w : World) (hs : s.size < 4294967281) (hm : w.cell? ⟨0, 0, none⟩ = some (.int .i64 m)) (h1 : 1 ≤ sep.size) :
    Calls Tryd.prog 33 #[.string s, .string sep] w fun e w' =>
      e = .returned (.slice (some ⟨w.heap.size, 0, none⟩) (Lib.countB s sep + 1) (Lib.countB s sep + 1)) ∧ w' = w.alloc (.cells ((Lib.splitB sep 0 (Lib.countB s sep) s).map Value.string).toArray 9) := Any.strings_Split Tryd.lays146 (by kernel_rfl) s sep m w hs hm h1
def Tryd.laysM146_ren : Go.Shelf.Ren := ⟨fun | 146 => 33 | 221 => 51 | 268 => 58 | 138 => 59 | 143 => 60 | 195 => 68 | 197 => 69 | 218 => 70 | 219 => 71 | 260 => 80 | 217 => 75 | 225 => 81 | 224 => 82 | 267 => 83 | 266 => 89 | 314 => 95 | n => n, fun | 9 => 9 | 31 => 23 | 3 => 3 | 4 => 4 | 0 => 0 | 105 => 90 | 21 => 21 | 5 => 5 | 46 => 100 | 119 => 112 | 139 => 115 | 138 => 114 | 146 => 116 | 51 => 109 | n => n, fun | 1 => 0 | 3 => 2 | 4 => 3 | n => n⟩
theorem Tryd.laysM146 : Go.Proofs.LaysM.n146 Tryd.prog Tryd.laysM146_ren := {
  mixed := by kernel_rfl
  f138 := Tryd.func59.trans (congrArg some (by kernel_rfl))
  f143 := Tryd.func60.trans (congrArg some (by kernel_rfl))
  f146 := Tryd.func33.trans (congrArg some (by kernel_rfl))
  f195 := Tryd.func68.trans (congrArg some (by kernel_rfl))
  f197 := Tryd.func69.trans (congrArg some (by kernel_rfl))
  f217 := Tryd.func75.trans (congrArg some (by kernel_rfl))
  f218 := Tryd.func70.trans (congrArg some (by kernel_rfl))
  f219 := Tryd.func71.trans (congrArg some (by kernel_rfl))
  f221 := Tryd.func51.trans (congrArg some (by kernel_rfl))
  f224 := Tryd.func82.trans (congrArg some (by kernel_rfl))
  f225 := Tryd.func81.trans (congrArg some (by kernel_rfl))
  f260 := Tryd.func80.trans (congrArg some (by kernel_rfl))
  f266 := Tryd.func89.trans (congrArg some (by kernel_rfl))
  f267 := Tryd.func83.trans (congrArg some (by kernel_rfl))
  f268 := Tryd.func58.trans (congrArg some (by kernel_rfl))
  f314 := Tryd.func95.trans (congrArg some (by kernel_rfl))
  t0 := Tryd.underlying0
  a0 := Tryd.isAgg0
  z0 := Tryd.sizeOf0
  v0 := Tryd.zeroValue0
  t3 := Tryd.underlying3
  a3 := Tryd.isAgg3
  z3 := Tryd.sizeOf3
  v3 := Tryd.zeroValue3
  t4 := Tryd.underlying4
  a4 := Tryd.isAgg4
  z4 := Tryd.sizeOf4
  v4 := Tryd.zeroValue4
  t5 := Tryd.underlying5
  a5 := Tryd.isAgg5
  z5 := Tryd.sizeOf5
  v5 := Tryd.zeroValue5
  t9 := Tryd.underlying9
  a9 := Tryd.isAgg9
  z9 := Tryd.sizeOf9
  v9 := Tryd.zeroValue9
  t21 := Tryd.underlying21
  a21 := Tryd.isAgg21
  z21 := Tryd.sizeOf21
  v21 := Tryd.zeroValue21
  t31 := Tryd.underlying23
  a31 := Tryd.isAgg23
  z31 := Tryd.sizeOf23
  v31 := Tryd.zeroValue23
  t46 := Tryd.underlying100
  a46 := Tryd.isAgg100
  z46 := Tryd.sizeOf100
  v46 := Tryd.zeroValue100
  t51 := Tryd.underlying109
  a51 := Tryd.isAgg109
  z51 := Tryd.sizeOf109
  v51 := Tryd.zeroValue109
  t105 := Tryd.underlying90
  a105 := Tryd.isAgg90
  z105 := Tryd.sizeOf90
  v105 := Tryd.zeroValue90
  t119 := Tryd.underlying112
  a119 := Tryd.isAgg112
  z119 := Tryd.sizeOf112
  t138 := Tryd.underlying114
  a138 := Tryd.isAgg114
  z138 := Tryd.sizeOf114
  v138 := Tryd.zeroValue114
  t139 := Tryd.underlying115
  a139 := Tryd.isAgg115
  z139 := Tryd.sizeOf115
  v139 := Tryd.zeroValue115
  t146 := Tryd.underlying116
  a146 := Tryd.isAgg116
  z146 := Tryd.sizeOf116
  v146 := Tryd.zeroValue116
  g1 := by kernel_rfl
  g3 := by kernel_rfl
  g4 := by kernel_rfl
  i0 := by kernel_rfl
  i3 := by kernel_rfl
  i4 := by kernel_rfl
  i5 := by kernel_rfl
  i9 := by kernel_rfl
  i21 := by kernel_rfl
  i31 := by kernel_rfl
  i46 := by kernel_rfl
  i51 := by kernel_rfl
  i105 := by kernel_rfl
  i138 := by kernel_rfl
  i139 := by kernel_rfl
  i146 := by kernel_rfl
  m1 := by kernel_rfl
  s1_3 := fun w h => Go.Proofs.cell_of_shapedOpen_int (zero := #[.int .i64 0]) (t := 3) h (of_decide_eq_true (by kernel_rfl)) (by kernel_rfl) rfl (by kernel_rfl) (by kernel_rfl) Tryd.underlying3
  m3 := by kernel_rfl
  m4 := by kernel_rfl }
end Go.Proofs
namespace Go.Proofs.YtifeonoehfffmaaDoor
open Go.Ab Go.Tb
set_option maxRecDepth 10000
attribute [local irreducible] W WO Pu QS QB QL QF QV QV1 CH QE
theorem numB_size {n : Int} (h : n.natAbs < 10 ^ 20) : (numB n).size ≤ 21 := by
  have e : (numB n).size = (Lib.itoa n).length := Array.length_toList.symm
  rw [e]
  rcases Int.lt_or_le n 0 with hn | hn
  · rw [numB_neg hn, List.length_cons]; have := digB_len n.natAbs 19 h; omega
  · rw [numB_pos hn]; have := digB_len n.toNat 19 (by omega); omega
theorem within_fn (n : Int) (ok : Bool) : Does Tryd.prog 62 [.d (.v (.int .i64 n)), .d (.v (.bool ok))] (.tup [.d (.v (.int .i64 (if ok && inR n then n else 0))), .d (.v (.bool (ok && inR n)))]) 0 := by
  refine Does.of_W (n := 14) (ts := [4, 5]) Tryd.func62 (by kernel_rfl) rfl Tryd.ntmps62 Tryd.results62 rfl rfl fun C hC hG => ?_
  refine W.seq ?_
  refine W.region ?_
  iterate 2 refine pu (ev tab rfl) rfl ?_
  refine WO.nil ?_
  refine qs ?_
  refine W.seq ?_
  refine W.seq ?_
  apply regionB; (case hb => rfl)
  · skip
    iterate 3 refine pu (ev tab rfl) rfl ?_
    apply splitJ; (case hj => rfl); (case hl => rfl)
    · skip
      refine skipT rfl rfl rfl rfl ?_
      refine skipT rfl rfl rfl rfl ?_
      refine skipT rfl rfl rfl rfl ?_
      refine pu (ev tab rfl) rfl ?_
      refine WO.nil ?_
      refine qv1 rfl rfl rfl
    · skip
      refine goG rfl rfl ?_
      refine pu (ev tab rfl) rfl ?_
      refine goG rfl rfl ?_
      refine pu (puCall rfl rfl rfl (in_fn ..) rfl) rfl ?_
      refine goG rfl rfl ?_
      iterate 2 refine pu (ev tab rfl) rfl ?_
      refine WO.nil ?_
      refine qv1 rfl rfl rfl
  refine qs ?_
  refine condK rfl (fun h12 => ?_) (fun h12 => ?_)
  · skip
    refine W.seq ?_
    refine W.region ?_
    iterate 2 refine pu (ev tab rfl) rfl ?_
    refine WO.nil ?_
    refine qs ?_
    refine W.ret ?_
    refine qsRet ?_
    refine QF.ret0 trivial rfl ?_
    cases ok <;> cases h : inR n <;> simp_all [norm, normL, oneA]
  · skip
    refine W.skip ?_
    refine qs ?_
    refine W.seq ?_
    refine W.region ?_
    iterate 3 refine pu (ev tab rfl) rfl ?_
    refine WO.nil ?_
    refine qs ?_
    refine W.ret ?_
    refine QF.ret0 trivial rfl ?_
    cases ok <;> cases h : inR n <;> simp_all [norm, normL, oneA]
end Go.Proofs.YtifeonoehfffmaaDoor
namespace Go.Proofs.YtifeonoehfffmaaDoor
open Go.Ab Go.Tb
set_option maxRecDepth 10000
attribute [local irreducible] W WO Pu QS QB QL QF QV QV1 CH QE
theorem num_of {w : World} (hu : Under Tryd.prog w) : MetNum Tryd.prog w := hu.num (fun _ h => h)
theorem numB_ok {n : Int} (h : n.natAbs < 10 ^ 20) : okc (.string (numB n)) = true := by
  have := numB_size h
  exact decide_eq_true (by simp only [maxLen]; omega)
theorem abs_int {n : Int} (h0 : -9223372036854775808 ≤ n) (h1 : n ≤ 9223372036854775807) : n.natAbs < 10 ^ 20 := by
  have hp : (10 : Nat) ^ 20 = 100000000000000000000 := by decide
  omega
open Go.RowKit in
theorem itoa_fn (n : Int) (h0 : -9223372036854775808 ≤ n) (h1 : n ≤ 9223372036854775807) : Does Tryd.prog 47 [.d (.v (.int .i64 n))] (.d (.v (.string (numB n)))) 0 :=
  Does.of_freshV (xs := [.int .i64 n]) ⟨_, Tryd.func47, by kernel_rfl, by kernel_rfl⟩ fun w hu _ =>
    (Tryd.strconv_Itoa n h0 h1 w (num_of hu).1).mono fun e w' ⟨he, k, os, hw⟩ =>
      ⟨_, he, hw ▸ Lib.below_grow _ w (Nat.le_refl _) k os, fun _ _ _ => .d (.v _ (numB_ok (abs_int h0 h1)))⟩
theorem text_fn (n : Int) (h0 : -9223372036854775808 ≤ n) (h1 : n ≤ 9223372036854775807) : Does Tryd.prog 27 [.d (.v (.int .i64 n))] (.d (.v (.string (numB n)))) 0 := by
  refine Does.of_W (n := 5) (ts := [2]) Tryd.func27 (by kernel_rfl) rfl Tryd.ntmps27 Tryd.results27 rfl rfl fun C hC hG => ?_
  refine W.seq ?_
  refine W.region ?_
  refine pu (ev tab rfl) rfl ?_
  refine WO.nil ?_
  refine qs ?_
  refine W.seq ?_
  refine W.region ?_
  refine pu (ev tab rfl) rfl ?_
  refine pu (puCall rfl rfl rfl ((itoa_fn _ (by assumption) (by assumption))) rfl) rfl ?_
  refine pu (ev tab rfl) rfl ?_
  refine WO.nil ?_
  refine qs ?_
  refine W.ret ?_
  refine QF.ret0 trivial rfl ?_
  rfl
/-- how strconv.Atoi ends -/
def atoiA (s : ByteArray) : A :=
  match Lib.atoiAll s.data.toList with
  | .ok v => .tup [.d (.v (.int .i64 v)), .d (.v .nilIface)]
  | .range => .tup [.d (.v (.int .i64 (Lib.atoiSat s.data.toList))), .ni]
  | _ => .tup [.d (.v (.int .i64 0)), .ni]
theorem sat_ok (l : List UInt8) : okc (.int .i64 (Lib.atoiSat l)) = true := by
  unfold Lib.atoiSat
  split <;> (try split) <;> decide
open Go.RowKit in
theorem atoi_fn (s : ByteArray) (hs : s.size ≤ 281474976710656) : Does Tryd.prog 61 [.d (.v (.string s))] (atoiA s) 0 :=
  Does.of_freshV (xs := [.string s]) ⟨_, Tryd.func61, by kernel_rfl, by kernel_rfl⟩ fun w hu _ => by
    obtain ⟨_, ⟨t, p, h2⟩, t', p', h3⟩ := num_of hu
    unfold atoiA
    cases h : Lib.atoiAll s.data.toList with
    | ok v =>
      have hb := Lib.atoiAll_bounds h
      refine (Tryd.strconv_Atoi_ok s (by omega) v h w).mono fun e w' ⟨he, hw⟩ => ⟨_, he, ?_, fun _ _ _ => pairRep (.d (.v _ ?_)) (.d (.v _ rfl))⟩
      · rcases hw with rfl | ⟨t, rfl⟩
        · exact Below.refl _ _
        · exact Joins.below_bytesWorld _ w _ _ (Nat.le_refl _)
      · simp [okc, IntKind.min, IntKind.max, IntKind.signed, IntKind.bits]
        omega
    | range =>
      exact (Tryd.strconv_Atoi_range_var s hs h t' p' w h3).mono fun e w' ⟨N, he, _, _, hb⟩ => ⟨_, he, hb, fun _ _ _ => pairRep (.d (.v _ (sat_ok _))) (.ni _ _)⟩
    | _ =>
      exact (Tryd.strconv_Atoi_syntax_var s hs h t p w h2).mono fun e w' ⟨N, he, _, _, hb⟩ => ⟨_, he, hb, fun _ _ _ => pairRep (.d (.v _ (by decide))) (.ni _ _)⟩
end Go.Proofs.YtifeonoehfffmaaDoor
namespace Go.Proofs.YtifeonoehfffmaaDoor
open Go.Ab Go.Tb
set_option maxRecDepth 10000
attribute [local irreducible] W WO Pu QS QB QL QF QV QV1 CH QE
open Go.RowKit in
theorem join_fn (l : List ByteArray) (sep : ByteArray) (hl : l.length ≤ 100000) (hb : (joinB l sep).size ≤ 1000000) : Does Tryd.prog 29 [.d (.sl (l.map fun s => [.v (.string s)])), .d (.v (.string sep))] (.d (.v (.string (joinB l sep)))) 0 := by
  have hok : okc (.string (joinB l sep)) = true := decide_eq_true (by simp only [maxLen]; omega)
  have hdl : (Lib.join (l.map (·.data.toList)) sep.data.toList).length = (joinB l sep).size := by
    have : (joinB l sep).data.toList.length = (joinB l sep).size := Array.length_toList
    rw [← this]; rfl
  refine Does.of_fresh ⟨_, Tryd.func29, by kernel_rfl, by kernel_rfl⟩ fun w vals E hE hu hsz hr => ?_
  have hsz2 : vals.size = 2 := hsz
  obtain ⟨v0, v1, rfl⟩ : ∃ v0 v1, vals = #[v0, v1] := ⟨vals[0], vals[1], by apply Array.ext (by simp [hsz2]); intro i h1 h2; match i, h1, h2 with
    | 0, _, _ => rfl
    | 1, _, _ => rfl
    | k + 2, h1, _ => omega⟩
  have r0 := hr 0 v0 _ rfl rfl
  have r1 := hr 1 v1 _ rfl rfl
  cases r1 with | d r1 => cases r1 with | v _ h1 =>
  cases r0 with | d r0 =>
  subst hE
  rcases r0.strs with ⟨rfl, a, c, rfl⟩ | ⟨b, off, c, rfl, h3, h4, h5⟩
  · refine (Tryd.strings_Join_none a c sep E.w).mono fun e w' ⟨he, hw⟩ => ⟨_, he, hw ▸ Below.refl _ _, fun _ _ _ => .d (.v _ hok)⟩
  · rcases Nat.eq_zero_or_pos l.length with hz | hp
    · have : l = [] := List.eq_nil_of_length_eq_zero hz
      subst this
      exact (Tryd.strings_Join_none _ c sep E.w).mono fun e w' ⟨he, hw⟩ => ⟨_, he, hw ▸ Below.refl _ _, fun _ _ _ => .d (.v _ hok)⟩
    · have hbk : b < E.w.heap.size := cellAt_lt (o := off + 0) (h5 0 l[0] (by simp [hp])).1
      exact (Tryd.strings_Join b off c l sep E.w (fun j x hx => (h5 j x hx).1) hbk (by omega) h3 (by omega)).mono fun e w' ⟨he, hb⟩ => ⟨_, he, hb, fun _ _ _ => .d (.v _ hok)⟩
open Go.RowKit in
theorem split_fn (s : ByteArray) (c : UInt8) (hs : s.size ≤ 1000000) : Does Tryd.prog 33 [.d (.v (.string s)), .d (.v (.string ⟨#[c]⟩))] (.d (.sl ((cutB s c).map fun s => [.v (.string s)]))) 0 :=
  Does.of_freshV (xs := [.string s, .string ⟨#[c]⟩]) ⟨_, Tryd.func33, by kernel_rfl, by kernel_rfl⟩ fun w hu _ => by
    obtain ⟨m, hm⟩ := hu.cell (b := _) Tryd.laysM146.s1_3
    refine (Tryd.strings_Split s ⟨#[c]⟩ m w (by omega) hm (Nat.le_refl 1)).mono fun e w' ⟨he, hw⟩ => ⟨_, he, ?_, fun E' hE hpv => .d ?_⟩
    · rw [hw]; exact (Below.refl _ _).alloc (Nat.le_refl _) _
    · have hlen : Lib.countB s ⟨#[c]⟩ + 1 = (cutB s c).length := by rw [← splitB_cut]; exact (Lib.splitB_all ⟨#[c]⟩ (Nat.le_refl 1) 0 _ s rfl).symm
      rw [hlen]
      rw [splitB_cut] at hw
      have hcl : (cutB s c).length ≤ s.size + 1 := by
        have h1 := cutL_len c s.data.toList
        have h2 : s.data.toList.length = s.size := Array.length_toList
        unfold cutB
        rw [List.length_map]
        omega
      refine RepD.newStrs (b := w.heap.size) (arr := ((cutB s c).map Value.string).toArray) (T := 9) ?_ (Nat.le_refl _) (by simp only [maxLen]; omega) (fun j t hj => ⟨by simp [hj], ?_⟩) (fun o hp => absurd (hpv _ _ hp) (Nat.lt_irrefl _))
      · rw [hE, hw]; exact (MapKept.heap_alloc w _).1
      · have hm2 : t ∈ cutB s c := List.mem_of_getElem? hj
        unfold cutB at hm2
        obtain ⟨x, hx, rfl⟩ := List.mem_map.1 hm2
        have h1 := cutL_mem c _ x hx
        have h2 : s.data.toList.length = s.size := Array.length_toList
        have h3 : (ofL x).size = x.length := (Array.length_toList (xs := (ofL x).data)).symm
        simp only [maxLen]
        omega
end Go.Proofs.YtifeonoehfffmaaDoor
namespace Go.Proofs.YtifeonoehfffmaaDoor
open Go.Ab Go.Tb
set_option maxRecDepth 10000
attribute [local irreducible] W WO Pu QS QB QL QF QV QV1 CH QE
def evSigns : ByteArray := B #[95, 46, 58, 47, 60, 62, 36, 42, 126, 45]
theorem rletter_fn (b : UInt8) : Does Tryd.prog 45 [.d (.v (.int .u8 b.toNat))] (.d (.v (.bool (letterB b)))) 0 := by
  refine Does.of_W (n := 38) (ts := [2]) Tryd.func45 (by kernel_rfl) rfl Tryd.ntmps45 Tryd.results45 rfl rfl fun C hC hG => ?_
  refine W.seq ?_
  refine W.region ?_
  refine pu (ev tab rfl) rfl ?_
  refine WO.nil ?_
  refine qs ?_
  refine W.seq ?_
  refine W.seq ?_
  apply regionB; (case hb => rfl)
  · skip
    iterate 3 refine pu (ev tab rfl) rfl ?_
    apply splitJ; (case hj => rfl); (case hl => rfl)
    · skip
      refine goG rfl rfl ?_
      refine pu (ev tab rfl) rfl ?_
      refine goG rfl rfl ?_
      iterate 3 refine pu (ev tab rfl) rfl ?_
      apply splitJ; (case hj => rfl); (case hl => rfl)
      · skip
        refine skipT rfl rfl rfl rfl ?_
        refine skipT rfl rfl rfl rfl ?_
        refine skipT rfl rfl rfl rfl ?_
        refine skipU rfl rfl rfl ?_
        refine skipU rfl rfl rfl ?_
        refine skipT rfl rfl rfl rfl ?_
        iterate 2 refine pu (ev tab rfl) rfl ?_
        refine skipT rfl rfl rfl rfl ?_
        refine skipT rfl rfl rfl rfl ?_
        refine skipT rfl rfl rfl rfl ?_
        refine skipU rfl rfl rfl ?_
        refine skipU rfl rfl rfl ?_
        refine skipT rfl rfl rfl rfl ?_
        refine pu (ev tab rfl) rfl ?_
        refine WO.nil ?_
        refine qv1 rfl rfl rfl
      · skip
        refine goG rfl rfl ?_
        refine pu (ev tab rfl) rfl ?_
        refine goG rfl rfl ?_
        refine pu (ev tab rfl) rfl ?_
        refine goG rfl rfl ?_
        refine pu (ev tab rfl) rfl ?_
        apply splitJ; (case hj => rfl); (case hl => rfl)
        · skip
          refine goG rfl rfl ?_
          refine pu (ev tab rfl) rfl ?_
          refine goG rfl rfl ?_
          refine pu (ev tab rfl) rfl ?_
          refine goG rfl rfl ?_
          iterate 3 refine pu (ev tab rfl) rfl ?_
          apply splitJ; (case hj => rfl); (case hl => rfl)
          · skip
            refine skipT rfl rfl rfl rfl ?_
            refine skipT rfl rfl rfl rfl ?_
            refine skipT rfl rfl rfl rfl ?_
            refine skipU rfl rfl rfl ?_
            refine skipU rfl rfl rfl ?_
            refine skipT rfl rfl rfl rfl ?_
            refine pu (ev tab rfl) rfl ?_
            refine WO.nil ?_
            refine qv1 rfl rfl rfl
          · skip
            refine goG rfl rfl ?_
            refine pu (ev tab rfl) rfl ?_
            refine goG rfl rfl ?_
            refine pu (ev tab rfl) rfl ?_
            refine goG rfl rfl ?_
            refine pu (ev tab rfl) rfl ?_
            apply splitJ; (case hj => rfl); (case hl => rfl)
            · skip
              refine goG rfl rfl ?_
              refine pu (ev tab rfl) rfl ?_
              refine goG rfl rfl ?_
              refine pu (ev tab rfl) rfl ?_
              refine goG rfl rfl ?_
              iterate 2 refine pu (ev tab rfl) rfl ?_
              refine WO.nil ?_
              refine qv1 rfl rfl rfl
            · skip
              refine skipT rfl rfl rfl rfl ?_
              refine skipT rfl rfl rfl rfl ?_
              refine goG rfl rfl ?_
              iterate 2 refine pu (ev tab rfl) rfl ?_
              refine WO.nil ?_
              refine qv1 rfl rfl rfl
        · skip
          refine skipT rfl rfl rfl rfl ?_
          refine skipT rfl rfl rfl rfl ?_
          refine goG rfl rfl ?_
          iterate 3 refine pu (ev tab rfl) rfl ?_
          refine goG rfl rfl ?_
          refine pu (ev tab rfl) rfl ?_
          refine goG rfl rfl ?_
          refine pu (ev tab rfl) rfl ?_
          refine goG rfl rfl ?_
          refine pu (ev tab rfl) rfl ?_
          apply splitJ; (case hj => rfl); (case hl => rfl)
          · skip
            refine goG rfl rfl ?_
            refine pu (ev tab rfl) rfl ?_
            refine goG rfl rfl ?_
            refine pu (ev tab rfl) rfl ?_
            refine goG rfl rfl ?_
            iterate 2 refine pu (ev tab rfl) rfl ?_
            refine WO.nil ?_
            refine qv1 rfl rfl rfl
          · skip
            refine skipT rfl rfl rfl rfl ?_
            refine skipT rfl rfl rfl rfl ?_
            refine goG rfl rfl ?_
            iterate 2 refine pu (ev tab rfl) rfl ?_
            refine WO.nil ?_
            refine qv1 rfl rfl rfl
    · skip
      refine skipT rfl rfl rfl rfl ?_
      refine skipT rfl rfl rfl rfl ?_
      iterate 2 refine pu (ev tab rfl) rfl ?_
      refine goG rfl rfl ?_
      refine pu (ev tab rfl) rfl ?_
      refine goG rfl rfl ?_
      refine pu (ev tab rfl) rfl ?_
      refine goG rfl rfl ?_
      refine pu (ev tab rfl) rfl ?_
      apply splitJ; (case hj => rfl); (case hl => rfl)
      · skip
        refine goG rfl rfl ?_
        refine pu (ev tab rfl) rfl ?_
        refine goG rfl rfl ?_
        refine pu (ev tab rfl) rfl ?_
        refine goG rfl rfl ?_
        iterate 3 refine pu (ev tab rfl) rfl ?_
        apply splitJ; (case hj => rfl); (case hl => rfl)
        · skip
          refine skipT rfl rfl rfl rfl ?_
          refine skipT rfl rfl rfl rfl ?_
          refine skipT rfl rfl rfl rfl ?_
          refine skipU rfl rfl rfl ?_
          refine skipU rfl rfl rfl ?_
          refine skipT rfl rfl rfl rfl ?_
          refine pu (ev tab rfl) rfl ?_
          refine WO.nil ?_
          refine qv1 rfl rfl rfl
        · skip
          refine goG rfl rfl ?_
          refine pu (ev tab rfl) rfl ?_
          refine goG rfl rfl ?_
          refine pu (ev tab rfl) rfl ?_
          refine goG rfl rfl ?_
          refine pu (ev tab rfl) rfl ?_
          apply splitJ; (case hj => rfl); (case hl => rfl)
          · skip
            refine goG rfl rfl ?_
            refine pu (ev tab rfl) rfl ?_
            refine goG rfl rfl ?_
            refine pu (ev tab rfl) rfl ?_
            refine goG rfl rfl ?_
            iterate 2 refine pu (ev tab rfl) rfl ?_
            refine WO.nil ?_
            refine qv1 rfl rfl rfl
          · skip
            refine skipT rfl rfl rfl rfl ?_
            refine skipT rfl rfl rfl rfl ?_
            refine goG rfl rfl ?_
            iterate 2 refine pu (ev tab rfl) rfl ?_
            refine WO.nil ?_
            refine qv1 rfl rfl rfl
      · skip
        refine skipT rfl rfl rfl rfl ?_
        refine skipT rfl rfl rfl rfl ?_
        refine goG rfl rfl ?_
        iterate 3 refine pu (ev tab rfl) rfl ?_
        refine goG rfl rfl ?_
        refine pu (ev tab rfl) rfl ?_
        refine goG rfl rfl ?_
        refine pu (ev tab rfl) rfl ?_
        refine goG rfl rfl ?_
        refine pu (ev tab rfl) rfl ?_
        apply splitJ; (case hj => rfl); (case hl => rfl)
        · skip
          refine goG rfl rfl ?_
          refine pu (ev tab rfl) rfl ?_
          refine goG rfl rfl ?_
          refine pu (ev tab rfl) rfl ?_
          refine goG rfl rfl ?_
          iterate 2 refine pu (ev tab rfl) rfl ?_
          refine WO.nil ?_
          refine qv1 rfl rfl rfl
        · skip
          refine skipT rfl rfl rfl rfl ?_
          refine skipT rfl rfl rfl rfl ?_
          refine goG rfl rfl ?_
          iterate 2 refine pu (ev tab rfl) rfl ?_
          refine WO.nil ?_
          refine qv1 rfl rfl rfl
  refine qs ?_
  refine condK rfl (fun h26 => ?_) (fun h26 => ?_)
  · skip
    have hg : letterB b = true := by revert h26; simp only [letterB, lower]; grind
    refine W.seq ?_
    refine W.region ?_
    refine pu (ev tab rfl) rfl ?_
    refine WO.nil ?_
    refine qs ?_
    refine W.ret ?_
    refine qsRet ?_
    refine QF.ret0 trivial rfl ?_
    rw [hg]; rfl
  · skip
    have hg : letterB b = marks.any fun c => decide (c = b) := by revert h26; simp only [letterB, lower]; grind
    refine W.skip ?_
    refine qs ?_
    refine W.seq ?_
    refine W.region ?_
    refine pu (ev tab rfl) rfl ?_
    refine WO.nil ?_
    refine qs ?_
    refine W.seq ?_
    refine W.seq ?_
    refine W.region ?_
    refine pu (ev tab rfl) rfl ?_
    refine WO.nil ?_
    refine qs ?_
    refine W.block ?_
    have hlen : (bys evSigns).length ≤ maxLen := by decide
    refine W.loopR (ι := {x : Nat // match x with | k => k ≤ (bys evSigns).length ∧ ((bys evSigns).drop k).any (fun c => decide (c = b)) = marks.any (fun c => decide (c = b))})
      (fun x => match x.1 with | k => [(4, .d (.v (.int .i64 ((k : Nat) : Int))))]) [(0, _), (3, _)]
      (fun x => match x.1 with | k => []) [] [] 0 (fun x => match x.1 with | k => (bys evSigns).length - k)
      [] ⟨0, ?_⟩ rfl ?_ ⟨rfl, rfl, rfl, rfl, trivial⟩ ?_ trivial rfl ?_
    · first | exact ⟨Nat.zero_le _, rfl⟩ | exact trivial | simp
    · repeat' first | exact trivial | refine ⟨rfl, ?_⟩ | refine ⟨step_nat (by assumption) (by assumption), ?_⟩
    · repeat' first | exact trivial | refine ⟨rfl, ?_⟩ | refine ⟨step_nat (by assumption) (by assumption), ?_⟩
    rintro ⟨k, hk, hI⟩
    show W _ _ _ _ _ ⟨[(4, .d (.v (.int .i64 ((k : Nat) : Int)))), (0, _), (3, _)], [], [], 0⟩
    refine W.seq ?_
    refine W.seq ?_
    refine W.region ?_
    iterate 4 refine pu (ev tab rfl) rfl ?_
    refine WO.nil ?_
    refine qs ?_
    refine eachR (l := bys evSigns) (k := k) rfl (by rfl) hk (fun c hx hd hlt => ?_) (fun he hd => ?_)
    · skip
      rw [hd, List.any_cons] at hI
      refine W.skip ?_
      refine qs ?_
      refine W.seq ?_
      refine W.block ?_
      refine W.seq ?_
      refine W.region ?_
      iterate 2 refine pu (ev tab rfl) rfl ?_
      refine pu (indexStr (s := evSigns) tab rfl rfl rfl rfl (Int.natCast_nonneg _) (byteList hx)) rfl ?_
      iterate 2 refine pu (ev tab rfl) rfl ?_
      refine WO.nil ?_
      refine qs ?_
      refine condK rfl (fun h37 => ?_) (fun h37 => ?_)
      · skip
        have h37 : decide (c = b) = true := by simp at h37 ⊢; exact UInt8.toNat_inj.1 (by omega)
        rw [h37, Bool.true_or] at hI
        refine W.seq ?_
        refine W.region ?_
        refine pu (ev tab rfl) rfl ?_
        refine WO.nil ?_
        refine qs ?_
        refine W.ret ?_
        refine qbRet ?_
        refine qsRet ?_
        refine qlRet ?_
        refine qbRet ?_
        refine qsRet ?_
        refine QF.ret0 trivial rfl ?_
        rw [hg, ← hI]; rfl
      · skip
        have h37 : decide (c = b) = false := by simp at h37 ⊢; rintro rfl; exact h37 rfl
        rw [h37, Bool.false_or] at hI
        refine W.skip ?_
        refine qbN ?_
        refine qs ?_
        refine W.region ?_
        iterate 3 refine pu (ev tab rfl) rfl ?_
        refine WO.nil ?_
        refine W.endR [] ⟨k + 1, ?_⟩ ?_ rfl ?_ ⟨rfl, rfl, rfl, rfl, trivial⟩ ?_ trivial rfl
        · exact ⟨hlt, hI⟩
        · dsimp only; omega
        · repeat' first | exact trivial | refine ⟨rfl, ?_⟩ | refine ⟨step_nat (by assumption) (by assumption), ?_⟩
        · repeat' first | exact trivial | refine ⟨rfl, ?_⟩ | refine ⟨step_nat (by assumption) (by assumption), ?_⟩
    · skip
      rw [hd, List.any_nil] at hI
      refine W.exit ?_
      refine qsExit ?_
      refine qlExit ?_
      refine qbExit ?_
      refine qs ?_
      refine W.seq ?_
      refine W.region ?_
      refine pu (ev tab rfl) rfl ?_
      refine WO.nil ?_
      refine qs ?_
      refine W.ret ?_
      refine QF.ret0 trivial rfl ?_
      rw [hg, ← hI]; rfl

theorem vsize0 (s : ByteArray) : s.size < 1 ↔ s = B #[] := by
  constructor
  · intro h
    obtain ⟨l⟩ := s
    have : l = #[] := Array.eq_empty_of_size_eq_zero (by have : l.size < 1 := h; omega)
    rw [this]
  · rintro rfl; decide

theorem rname_fn (s : ByteArray) : Does Tryd.prog 24 [.d (.v (.string s))] (.d (.v (.int .i64 (nameErr s)))) 0 := by
  refine Does.of_W (n := 23) (ts := [2]) Tryd.func24 (by kernel_rfl) rfl Tryd.ntmps24 Tryd.results24 rfl rfl fun C hC hG => ?_
  refine W.seq ?_
  refine W.region ?_
  refine pu (ev tab rfl) rfl ?_
  refine WO.nil ?_
  refine qs ?_
  refine W.seq ?_
  refine W.seq ?_
  apply regionB; (case hb => rfl)
  · skip
    iterate 4 refine pu (ev tab rfl) rfl ?_
    apply splitJ; (case hj => rfl); (case hl => rfl)
    · skip
      refine skipT rfl rfl rfl rfl ?_
      refine skipT rfl rfl rfl rfl ?_
      refine skipT rfl rfl rfl rfl ?_
      refine pu (ev tab rfl) rfl ?_
      refine WO.nil ?_
      refine qv1 rfl rfl rfl
    · skip
      refine goG rfl rfl ?_
      refine pu (ev tab rfl) rfl ?_
      refine goG rfl rfl ?_
      refine pu (ev tab rfl) rfl ?_
      refine goG rfl rfl ?_
      iterate 2 refine pu (ev tab rfl) rfl ?_
      refine WO.nil ?_
      refine qv1 rfl rfl rfl
  refine qs ?_
  refine condK rfl (fun h11 => ?_) (fun h11 => ?_)
  · skip
    have h11 : s = B #[] ∨ 40 < s.size := by
      rw [← vsize0]
      by_cases q : s.size < 1
      · exact .inl q
      · have q' : ¬ ((s.size : Int) < 1) := by omega
        simp [q'] at h11
        exact .inr (by omega)
    have hg : nameErr s = 3 := by unfold nameErr; rw [if_pos (by grind)]
    refine W.seq ?_
    refine W.region ?_
    refine pu (ev tab rfl) rfl ?_
    refine WO.nil ?_
    refine qs ?_
    refine W.ret ?_
    refine qsRet ?_
    refine QF.ret0 trivial rfl ?_
    rw [hg]; rfl
  · skip
    have h11 : ¬ (s = B #[] ∨ 40 < s.size) := by
      rw [← vsize0]
      by_cases q : (s.size : Int) < 1
      · simp [q] at h11
      · simp [q] at h11
        omega
    refine W.skip ?_
    refine qs ?_
    refine W.seq ?_
    refine W.seq ?_
    refine W.region ?_
    refine pu (ev tab rfl) rfl ?_
    refine WO.nil ?_
    refine qs ?_
    refine W.block ?_
    refine W.inRange (t := 0) rfl (fun hok => ?_)
    have hlen := okc_size hok
    refine W.loopR (ι := {x : Nat // match x with | k => k ≤ (bys s).length ∧ ((bys s).drop k).all letterB = (bys s).all letterB})
      (fun x => match x.1 with | k => [(3, .d (.v (.int .i64 ((k : Nat) : Int))))]) [(0, _)]
      (fun x => match x.1 with | k => []) [] [] 0 (fun x => match x.1 with | k => (bys s).length - k)
      [] ⟨0, ?_⟩ rfl ?_ ⟨rfl, rfl, trivial⟩ ?_ trivial rfl ?_
    · first | exact ⟨Nat.zero_le _, rfl⟩ | exact trivial | simp
    · repeat' first | exact trivial | refine ⟨rfl, ?_⟩ | refine ⟨step_nat (by assumption) (by assumption), ?_⟩
    · repeat' first | exact trivial | refine ⟨rfl, ?_⟩ | refine ⟨step_nat (by assumption) (by assumption), ?_⟩
    rintro ⟨k, hk, hI⟩
    show W _ _ _ _ _ ⟨[(3, .d (.v (.int .i64 ((k : Nat) : Int)))), (0, _)], [], [], 0⟩
    refine W.seq ?_
    refine W.seq ?_
    refine W.region ?_
    iterate 4 refine pu (ev tab rfl) rfl ?_
    refine WO.nil ?_
    refine qs ?_
    refine eachR (l := bys s) (k := k) rfl (by simp [Ex.kc_len, bytes_len]) hk (fun b hx hd hlt => ?_) (fun he hd => ?_)
    · skip
      rw [hd, List.all_cons] at hI
      refine W.skip ?_
      refine qs ?_
      refine W.seq ?_
      refine W.block ?_
      refine W.seq ?_
      refine W.region ?_
      iterate 2 refine pu (ev tab rfl) rfl ?_
      refine pu (indexStr tab rfl rfl rfl rfl (Int.natCast_nonneg _) (byteList (by assumption))) rfl ?_
      refine pu (puCall rfl rfl rfl (rletter_fn ..) rfl) rfl ?_
      refine pu (ev tab rfl) rfl ?_
      refine WO.nil ?_
      refine qs ?_
      refine condK rfl (fun h22 => ?_) (fun h22 => ?_)
      · skip
        refine W.seq ?_
        refine W.region ?_
        refine pu (ev tab rfl) rfl ?_
        refine WO.nil ?_
        refine qs ?_
        refine W.ret ?_
        refine qbRet ?_
        refine qsRet ?_
        refine qlRet ?_
        refine qbRet ?_
        refine qsRet ?_
        refine QF.ret0 trivial rfl ?_
        simp only [norm, oneA]; unfold nameErr; grind
      · skip
        refine W.skip ?_
        refine qbN ?_
        refine qs ?_
        refine W.region ?_
        iterate 3 refine pu (ev tab rfl) rfl ?_
        refine WO.nil ?_
        refine W.endR [] ⟨k + 1, ?_⟩ ?_ rfl ?_ ⟨rfl, rfl, trivial⟩ ?_ trivial rfl
        · exact ⟨hlt, by rw [← hI]; simp_all⟩
        · dsimp only; omega
        · repeat' first | exact trivial | refine ⟨rfl, ?_⟩ | refine ⟨step_nat (by assumption) (by assumption), ?_⟩
        · repeat' first | exact trivial | refine ⟨rfl, ?_⟩ | refine ⟨step_nat (by assumption) (by assumption), ?_⟩
    · skip
      rw [hd] at hI
      refine W.exit ?_
      refine qsExit ?_
      refine qlExit ?_
      refine qbExit ?_
      refine qs ?_
      refine W.seq ?_
      refine W.region ?_
      refine pu (ev tab rfl) rfl ?_
      refine WO.nil ?_
      refine qs ?_
      refine W.ret ?_
      refine QF.ret0 trivial rfl ?_
      simp only [norm, oneA]; unfold nameErr; grind


theorem name_03 (s : ByteArray) : nameErr s = 0 ∨ nameErr s = 3 := by unfold nameErr; split <;> simp
theorem frames_fn (l : List ByteArray) : Does Tryd.prog 44 [.d (.sl (txs l))] (.d (.v (.int .i64 (framesErr l)))) 0 := by
  refine Does.of_W (n := 21) (ts := [2]) Tryd.func44 (by kernel_rfl) rfl Tryd.ntmps44 Tryd.results44 rfl rfl fun C hC hG => ?_
  refine W.seq ?_
  refine W.region ?_
  refine pu (ev tab rfl) rfl ?_
  refine WO.nil ?_
  refine qs ?_
  refine W.seq ?_
  refine W.seq ?_
  refine W.region ?_
  iterate 3 refine pu (ev tab rfl) rfl ?_
  refine WO.nil ?_
  refine qs ?_
  refine condK rfl (fun h8 => ?_) (fun h8 => ?_)
  · skip
    have hg : framesErr l = 7 := by unfold framesErr; rw [if_pos (by simp at h8; omega)]
    refine W.seq ?_
    refine W.region ?_
    refine pu (ev tab rfl) rfl ?_
    refine WO.nil ?_
    refine qs ?_
    refine W.ret ?_
    refine qsRet ?_
    refine QF.ret0 trivial rfl ?_
    rw [hg]; rfl
  · skip
    have hg : framesErr l = if l.any (fun s => decide (nameErr s ≠ 0)) then 3 else 0 := by unfold framesErr; rw [if_neg (by simp at h8; omega)]
    refine W.skip ?_
    refine qs ?_
    refine W.seq ?_
    refine W.seq ?_
    refine W.region ?_
    iterate 3 refine pu (ev tab rfl) rfl ?_
    refine WO.nil ?_
    refine qs ?_
    refine W.block ?_
    refine W.len (t := 0) rfl rfl (fun hlen => ?_)
    try simp only [List.length_map, Ex.kc_len] at hlen
    refine W.loopR (ι := {x : Nat // match x with | k => k ≤ l.length ∧ (l.drop k).any (fun s => decide (nameErr s ≠ 0)) = l.any (fun s => decide (nameErr s ≠ 0))})
      (fun x => match x.1 with | k => [(11, .d (.v (.int .i64 ((k : Nat) : Int))))]) [(9, _), (10, _)]
      (fun x => match x.1 with | k => []) [] [] 0 (fun x => match x.1 with | k => l.length - k)
      [] ⟨0, ?_⟩ rfl ?_ ⟨rfl, rfl, rfl, rfl, trivial⟩ ?_ trivial rfl ?_
    · first | exact ⟨Nat.zero_le _, rfl⟩ | exact trivial | simp
    · repeat' first | exact trivial | refine ⟨rfl, ?_⟩ | refine ⟨step_nat (by assumption) (by assumption), ?_⟩
    · repeat' first | exact trivial | refine ⟨rfl, ?_⟩ | refine ⟨step_nat (by assumption) (by assumption), ?_⟩
    rintro ⟨k, hk, hI⟩
    show W _ _ _ _ _ ⟨[(11, .d (.v (.int .i64 ((k : Nat) : Int)))), (9, _), (10, _)], [], [], 0⟩
    refine W.seq ?_
    refine W.region ?_
    refine pu (ev tab rfl) rfl ?_
    refine WO.nil ?_
    refine qs ?_
    refine W.seq ?_
    refine eachR (l := l) (k := k) rfl (by simp [Ex.kc_len, bytes_len]) hk (fun s hx hd hlt => ?_) (fun he hd => ?_)
    · skip
      rw [hd, List.any_cons] at hI
      refine W.skip ?_
      refine qs ?_
      refine W.seq ?_
      refine W.block ?_
      refine W.seq ?_
      refine W.region ?_
      refine pu (indexAddr tab rfl rfl rfl rfl rfl rfl (Int.natCast_nonneg _) (idx_map hx) rfl) rfl ?_
      first | refine pu (ev tab rfl) rfl ?_ | refine pu (loadRow tab rfl rfl rfl rfl) rfl ?_ | refine pu (loadBox tab rfl rfl rfl rfl rfl) rfl ?_
      refine pu (ev tab rfl) rfl ?_
      refine WO.nil ?_
      refine qs ?_
      refine W.seq ?_
      refine W.region ?_
      refine pu (ev tab rfl) rfl ?_
      refine pu (puCall rfl rfl rfl (name_fn s) rfl) rfl ?_
      refine pu (ev tab rfl) rfl ?_
      refine WO.nil ?_
      refine qs ?_
      refine W.seq ?_
      refine W.region ?_
      iterate 2 refine pu (ev tab rfl) rfl ?_
      refine WO.nil ?_
      refine qs ?_
      refine condK rfl (fun h18 => ?_) (fun h18 => ?_)
      · skip
        have hn : nameErr s = 3 := by rcases name_03 s with q | q <;> simp_all
        rw [hn] at hI
        refine W.seq ?_
        refine W.region ?_
        iterate 2 refine pu (ev tab rfl) rfl ?_
        refine WO.nil ?_
        refine qs ?_
        refine W.ret ?_
        refine qbRet ?_
        refine qsRet ?_
        refine qlRet ?_
        refine qbRet ?_
        refine qsRet ?_
        refine QF.ret0 trivial rfl ?_
        rw [hg, ← hI]; simp [norm, oneA, hn]
      · skip
        have hn : nameErr s = 0 := by simpa using h18
        rw [hn] at hI
        refine W.skip ?_
        refine qbN ?_
        refine qs ?_
        refine W.region ?_
        iterate 2 refine pu (ev tab rfl) rfl ?_
        refine WO.nil ?_
        refine W.endR [] ⟨k + 1, ?_⟩ ?_ rfl ?_ ⟨rfl, rfl, rfl, rfl, trivial⟩ ?_ trivial rfl
        · exact ⟨hlt, by simpa using hI⟩
        · dsimp only; omega
        · repeat' first | exact trivial | refine ⟨rfl, ?_⟩ | refine ⟨step_nat (by assumption) (by assumption), ?_⟩
        · repeat' first | exact trivial | refine ⟨rfl, ?_⟩ | refine ⟨step_nat (by assumption) (by assumption), ?_⟩
    · skip
      rw [hd, List.any_nil] at hI
      refine W.exit ?_
      refine qsExit ?_
      refine qlExit ?_
      refine qbExit ?_
      refine qs ?_
      refine W.seq ?_
      refine W.region ?_
      refine pu (ev tab rfl) rfl ?_
      refine WO.nil ?_
      refine qs ?_
      refine W.ret ?_
      refine QF.ret0 trivial rfl ?_
      rw [hg, ← hI]; rfl
theorem rframes_fn (l : List ByteArray) : Does Tryd.prog 25 [.d (.sl (txs l))] (.d (.v (.int .i64 (framesErr l)))) 0 := by
  refine Does.of_W (n := 19) (ts := [2]) Tryd.func25 (by kernel_rfl) rfl Tryd.ntmps25 Tryd.results25 rfl rfl fun C hC hG => ?_
  refine W.seq ?_
  refine W.region ?_
  refine pu (ev tab rfl) rfl ?_
  refine WO.nil ?_
  refine qs ?_
  refine W.seq ?_
  refine W.seq ?_
  refine W.region ?_
  iterate 3 refine pu (ev tab rfl) rfl ?_
  refine WO.nil ?_
  refine qs ?_
  refine condK rfl (fun h6 => ?_) (fun h6 => ?_)
  · skip
    have hg : framesErr l = 7 := by unfold framesErr; rw [if_pos (by simp at h6; omega)]
    refine W.seq ?_
    refine W.region ?_
    refine pu (ev tab rfl) rfl ?_
    refine WO.nil ?_
    refine qs ?_
    refine W.ret ?_
    refine qsRet ?_
    refine QF.ret0 trivial rfl ?_
    rw [hg]; rfl
  · skip
    have hg : framesErr l = if l.any (fun s => decide (nameErr s ≠ 0)) then 3 else 0 := by unfold framesErr; rw [if_neg (by simp at h6; omega)]
    refine W.skip ?_
    refine qs ?_
    refine W.seq ?_
    refine W.seq ?_
    refine W.region ?_
    refine pu (ev tab rfl) rfl ?_
    refine WO.nil ?_
    refine qs ?_
    refine W.block ?_
    refine W.len (t := 0) rfl rfl (fun hlen => ?_)
    try simp only [List.length_map, Ex.kc_len] at hlen
    refine W.loopR (ι := {x : Nat // match x with | k => k ≤ l.length ∧ (l.drop k).any (fun s => decide (nameErr s ≠ 0)) = l.any (fun s => decide (nameErr s ≠ 0))})
      (fun x => match x.1 with | k => [(3, .d (.v (.int .i64 ((k : Nat) : Int))))]) [(0, _)]
      (fun x => match x.1 with | k => []) [] [] 0 (fun x => match x.1 with | k => l.length - k)
      [] ⟨0, ?_⟩ rfl ?_ ⟨rfl, rfl, trivial⟩ ?_ trivial rfl ?_
    · first | exact ⟨Nat.zero_le _, rfl⟩ | exact trivial | simp
    · repeat' first | exact trivial | refine ⟨rfl, ?_⟩ | refine ⟨step_nat (by assumption) (by assumption), ?_⟩
    · repeat' first | exact trivial | refine ⟨rfl, ?_⟩ | refine ⟨step_nat (by assumption) (by assumption), ?_⟩
    rintro ⟨k, hk, hI⟩
    show W _ _ _ _ _ ⟨[(3, .d (.v (.int .i64 ((k : Nat) : Int)))), (0, _)], [], [], 0⟩
    refine W.seq ?_
    refine W.seq ?_
    refine W.region ?_
    iterate 4 refine pu (ev tab rfl) rfl ?_
    refine WO.nil ?_
    refine qs ?_
    refine eachR (l := l) (k := k) rfl (by simp [Ex.kc_len, bytes_len]) hk (fun s hx hd hlt => ?_) (fun he hd => ?_)
    · skip
      rw [hd, List.any_cons] at hI
      refine W.skip ?_
      refine qs ?_
      refine W.seq ?_
      refine W.block ?_
      refine W.seq ?_
      refine W.region ?_
      iterate 2 refine pu (ev tab rfl) rfl ?_
      refine pu (indexAddr tab rfl rfl rfl rfl rfl rfl (Int.natCast_nonneg _) (idx_map hx) rfl) rfl ?_
      first | refine pu (ev tab rfl) rfl ?_ | refine pu (loadRow tab rfl rfl rfl rfl) rfl ?_ | refine pu (loadBox tab rfl rfl rfl rfl rfl) rfl ?_
      refine pu (puCall rfl rfl rfl (rname_fn s) rfl) rfl ?_
      refine pu (ev tab rfl) rfl ?_
      refine WO.nil ?_
      refine qs ?_
      refine condK rfl (fun h18 => ?_) (fun h18 => ?_)
      · skip
        have hn : nameErr s = 3 := by rcases name_03 s with q | q <;> simp_all
        rw [hn] at hI
        refine W.seq ?_
        refine W.region ?_
        refine pu (ev tab rfl) rfl ?_
        refine WO.nil ?_
        refine qs ?_
        refine W.ret ?_
        refine qbRet ?_
        refine qsRet ?_
        refine qlRet ?_
        refine qbRet ?_
        refine qsRet ?_
        refine QF.ret0 trivial rfl ?_
        rw [hg, ← hI]; rfl
      · skip
        have hn : nameErr s = 0 := by simpa using h18
        rw [hn] at hI
        refine W.skip ?_
        refine qbN ?_
        refine qs ?_
        refine W.region ?_
        iterate 3 refine pu (ev tab rfl) rfl ?_
        refine WO.nil ?_
        refine W.endR [] ⟨k + 1, ?_⟩ ?_ rfl ?_ ⟨rfl, rfl, trivial⟩ ?_ trivial rfl
        · exact ⟨hlt, by simpa using hI⟩
        · dsimp only; omega
        · repeat' first | exact trivial | refine ⟨rfl, ?_⟩ | refine ⟨step_nat (by assumption) (by assumption), ?_⟩
        · repeat' first | exact trivial | refine ⟨rfl, ?_⟩ | refine ⟨step_nat (by assumption) (by assumption), ?_⟩
    · skip
      rw [hd, List.any_nil] at hI
      refine W.exit ?_
      refine qsExit ?_
      refine qlExit ?_
      refine qbExit ?_
      refine qs ?_
      refine W.seq ?_
      refine W.region ?_
      refine pu (ev tab rfl) rfl ?_
      refine WO.nil ?_
      refine qs ?_
      refine W.ret ?_
      refine QF.ret0 trivial rfl ?_
      rw [hg, ← hI]; rfl
theorem forms_fn : Does Tryd.prog 37 [] (.d (.sl (frms.map Frm.c))) 0 := by
  refine Does.of_W (n := 15) (ts := [0]) Tryd.func37 (by kernel_rfl) rfl Tryd.ntmps37 Tryd.results37 rfl rfl fun C hC hG => ?_
  refine W.seq ?_
  refine W.region ?_
  refine pu (ev tab rfl) rfl ?_
  refine WO.nil ?_
  refine qs ?_
  refine W.seq ?_
  refine W.region ?_
  refine pu (build tab rfl rfl rfl rfl) rfl ?_
  refine pu (build tab rfl rfl rfl rfl) rfl ?_
  refine pu (build tab rfl rfl rfl rfl) rfl ?_
  refine pu (build tab rfl rfl rfl rfl) rfl ?_
  refine pu (build tab rfl rfl rfl rfl) rfl ?_
  refine pu (build tab rfl rfl rfl rfl) rfl ?_
  refine pu (build tab rfl rfl rfl rfl) rfl ?_
  refine pu (build tab rfl rfl rfl rfl) rfl ?_
  refine pu (build tab rfl rfl rfl rfl) rfl ?_
  refine pu (build tab rfl rfl rfl rfl) rfl ?_
  refine pu (build tab rfl rfl rfl rfl) rfl ?_
  refine pu (build tab rfl rfl rfl rfl) rfl ?_
  refine pu (build tab rfl rfl rfl rfl) rfl ?_
  refine pu (buildV tab rfl rfl rfl rfl rfl rfl rfl rfl rfl) rfl ?_
  refine pu (ev tab rfl) rfl ?_
  refine WO.nil ?_
  refine qs ?_
  refine W.ret ?_
  refine QF.ret0 trivial rfl ?_
  rfl
theorem frm_at {k : Int} (h1 : 1 ≤ k) (h2 : k < 13) : frms[k.toNat]? = some (frmOf k) := by
  rcases kinds h1 h2 with h | h | h | h | h | h | h | h | h | h | h | h <;> subst h <;> rfl
theorem formOf_fn (k : Int) : Does Tryd.prog 21 [.d (.v (.int .i64 k))] (.tup [.ag (frmOf k).c, .d (.v (.bool (frmIs k)))]) 0 := by
  refine Does.of_V tab (n := 19) (rs := [.cell 2 40, .tmp 3]) Tryd.func21 (by kernel_rfl) rfl Tryd.ntmps21 Tryd.results21 rfl fun C hC hG => ?_
  refine W.seq ?_
  refine W.region ?_
  refine allocR tab rfl rfl rfl ?_
  refine pu (ev tab rfl) rfl ?_
  refine WO.nil ?_
  refine qs ?_
  refine W.seq ?_
  refine W.region ?_
  refine pu (puCall rfl rfl rfl (forms_fn ..) rfl) rfl ?_
  refine pu (ev tab rfl) rfl ?_
  refine WO.nil ?_
  refine qs ?_
  refine W.seq ?_
  refine W.seq ?_
  apply regionB; (case hb => rfl)
  · skip
    iterate 3 refine pu (ev tab rfl) rfl ?_
    apply splitJ; (case hj => rfl); (case hl => rfl)
    · skip
      refine skipT rfl rfl rfl rfl ?_
      refine skipT rfl rfl rfl rfl ?_
      refine skipT rfl rfl rfl rfl ?_
      refine skipT rfl rfl rfl rfl ?_
      refine pu (ev tab rfl) rfl ?_
      refine WO.nil ?_
      refine qv1 rfl rfl rfl
    · skip
      refine goG rfl rfl ?_
      refine pu (ev tab rfl) rfl ?_
      refine goG rfl rfl ?_
      refine pu (ev tab rfl) rfl ?_
      refine goG rfl rfl ?_
      refine pu (ev tab rfl) rfl ?_
      refine goG rfl rfl ?_
      iterate 2 refine pu (ev tab rfl) rfl ?_
      refine WO.nil ?_
      refine qv1 rfl rfl rfl
  refine qs ?_
  refine condK rfl (fun h13 => ?_) (fun h13 => ?_)
  · skip
    have hg : frmOf k = frm0 ∧ frmIs k = false := by
      have : k < 1 ∨ 13 ≤ k := by simp at h13; revert h13; show _ → _; intro h; simpa [frms] using h
      exact ⟨by unfold frmOf; rw [if_pos this], by simp [frmIs]; omega⟩
    refine W.seq ?_
    refine W.region ?_
    refine pu (build tab rfl rfl rfl rfl) rfl ?_
    refine storeR tab rfl rfl rfl rfl rfl rfl rfl rfl ?_
    refine pu (ev tab rfl) rfl ?_
    refine WO.nil ?_
    refine qs ?_
    refine W.ret ?_
    refine qsRet ?_
    refine QV.ret0 tab trivial rfl ?_
    rw [hg.1, hg.2]; rfl
  · skip
    have h12 : 1 ≤ k ∧ k < 13 := by simp at h13; simpa [frms] using h13
    have hg : frmIs k = true := by simp [frmIs]; omega
    refine W.skip ?_
    refine qs ?_
    refine W.seq ?_
    refine W.region ?_
    iterate 2 refine pu (ev tab rfl) rfl ?_
    refine pu (indexAddr tab rfl rfl rfl rfl rfl rfl (by omega) (idx_map (frm_at h12.1 h12.2)) rfl) rfl ?_
    first | refine pu (ev tab rfl) rfl ?_ | refine pu (loadRow tab rfl rfl rfl rfl) rfl ?_ | refine pu (loadBox tab rfl rfl rfl rfl rfl) rfl ?_
    refine storeR tab rfl rfl rfl rfl rfl rfl rfl rfl ?_
    refine pu (ev tab rfl) rfl ?_
    refine WO.nil ?_
    refine qs ?_
    refine W.ret ?_
    refine QV.ret0 tab trivial rfl ?_
    rw [hg]; rfl
theorem names_fn (f : Frm) (e : Ev) : Does Tryd.prog 22 [.ag f.c, .ag e.c] (.d (.v (.int .i64 (namesE f e)))) 0 := by
  refine Does.of_W (n := 13) (ts := [4]) Tryd.func22 (by kernel_rfl) rfl Tryd.ntmps22 Tryd.results22 rfl rfl fun C hC hG => ?_
  refine W.seq ?_
  refine W.region ?_
  refine boxR rfl rfl rfl ?_
  refine boxR rfl rfl rfl ?_
  refine pu (ev tab rfl) rfl ?_
  refine WO.nil ?_
  refine qs ?_
  refine W.seq ?_
  refine W.seq ?_
  refine W.region ?_
  refine pu (ev tab rfl) rfl ?_
  first | refine pu (ev tab rfl) rfl ?_ | refine pu (loadRow tab rfl rfl rfl rfl) rfl ?_ | refine pu (loadBox tab rfl rfl rfl rfl rfl) rfl ?_
  refine WO.nil ?_
  refine qs ?_
  refine condK rfl (fun h6 => ?_) (fun h6 => ?_)
  · skip
    refine W.seq ?_
    refine W.region ?_
    refine pu (ev tab rfl) rfl ?_
    first | refine pu (ev tab rfl) rfl ?_ | refine pu (loadRow tab rfl rfl rfl rfl) rfl ?_ | refine pu (loadBox tab rfl rfl rfl rfl rfl) rfl ?_
    refine pu (puCall rfl rfl rfl (name_fn ..) rfl) rfl ?_
    refine pu (ev tab rfl) rfl ?_
    refine WO.nil ?_
    refine qs ?_
    refine W.ret ?_
    refine qsRet ?_
    refine QF.ret0 trivial rfl ?_
    simp only [norm, oneA]; grind [namesE]
  · skip
    refine W.skip ?_
    refine qs ?_
    refine W.seq ?_
    refine W.region ?_
    refine pu (ev tab rfl) rfl ?_
    first | refine pu (ev tab rfl) rfl ?_ | refine pu (loadRow tab rfl rfl rfl rfl) rfl ?_ | refine pu (loadBox tab rfl rfl rfl rfl rfl) rfl ?_
    refine pu (puCall rfl rfl rfl (frames_fn ..) rfl) rfl ?_
    refine pu (ev tab rfl) rfl ?_
    refine WO.nil ?_
    refine qs ?_
    refine W.ret ?_
    refine QF.ret0 trivial rfl ?_
    simp only [norm, oneA]; grind [namesE]
theorem shows_fn (f : Frm) (n : Int) : Does Tryd.prog 28 [.ag f.c, .d (.v (.int .i64 n))] (.d (.v (.bool (f.m && (!decide (f.word = B #[115, 116, 111, 112]) || decide (n = 2)))))) 0 := by
  refine Does.of_W (n := 16) (ts := [4]) Tryd.func28 (by kernel_rfl) rfl Tryd.ntmps28 Tryd.results28 rfl rfl fun C hC hG => ?_
  refine W.seq ?_
  refine W.region ?_
  refine boxR rfl rfl rfl ?_
  refine pu (ev tab rfl) rfl ?_
  refine WO.nil ?_
  refine qs ?_
  refine W.seq ?_
  apply regionB; (case hb => rfl)
  · skip
    refine pu (ev tab rfl) rfl ?_
    first | refine pu (ev tab rfl) rfl ?_ | refine pu (loadRow tab rfl rfl rfl rfl) rfl ?_ | refine pu (loadBox tab rfl rfl rfl rfl rfl) rfl ?_
    refine pu (ev tab rfl) rfl ?_
    apply splitJ; (case hj => rfl); (case hl => rfl)
    · skip
      refine goG rfl rfl ?_
      refine pu (ev tab rfl) rfl ?_
      refine goG rfl rfl ?_
      first | refine pu (ev tab rfl) rfl ?_ | refine pu (loadRow tab rfl rfl rfl rfl) rfl ?_ | refine pu (loadBox tab rfl rfl rfl rfl rfl) rfl ?_
      refine goG rfl rfl ?_
      refine pu (ev tab rfl) rfl ?_
      refine goG rfl rfl ?_
      refine pu (ev tab rfl) rfl ?_
      apply splitJ; (case hj => rfl); (case hl => rfl)
      · skip
        refine skipT rfl rfl rfl rfl ?_
        refine skipT rfl rfl rfl rfl ?_
        refine goG rfl rfl ?_
        iterate 3 refine pu (ev tab rfl) rfl ?_
        refine WO.nil ?_
        refine qv1 rfl rfl rfl
      · skip
        refine goG rfl rfl ?_
        refine pu (ev tab rfl) rfl ?_
        refine goG rfl rfl ?_
        refine pu (ev tab rfl) rfl ?_
        refine goG rfl rfl ?_
        iterate 3 refine pu (ev tab rfl) rfl ?_
        refine WO.nil ?_
        refine qv1 rfl rfl rfl
    · skip
      refine skipT rfl rfl rfl rfl ?_
      refine skipT rfl rfl rfl rfl ?_
      refine skipT rfl rfl rfl rfl ?_
      refine skipT rfl rfl rfl rfl ?_
      refine skipU rfl rfl rfl ?_
      refine skipU rfl rfl rfl ?_
      refine skipT rfl rfl rfl rfl ?_
      iterate 2 refine pu (ev tab rfl) rfl ?_
      refine WO.nil ?_
      refine qv1 rfl rfl rfl
  refine qs ?_
  refine W.ret ?_
  refine QF.ret0 trivial rfl ?_
  simp only [norm, oneA]; grind
theorem within_fn2 (n lo hi : Int) : Does Tryd.prog 46 [.d (.v (.int .i64 n)), .d (.v (.int .i64 lo)), .d (.v (.int .i64 hi))] (.d (.v (.int .i64 (within n lo hi)))) 0 := by
  refine Does.of_W (n := 15) (ts := [6]) Tryd.func46 (by kernel_rfl) rfl Tryd.ntmps46 Tryd.results46 rfl rfl fun C hC hG => ?_
  refine W.seq ?_
  refine W.region ?_
  refine pu (ev tab rfl) rfl ?_
  refine WO.nil ?_
  refine qs ?_
  refine W.seq ?_
  refine W.seq ?_
  apply regionB; (case hb => rfl)
  · skip
    iterate 4 refine pu (ev tab rfl) rfl ?_
    apply splitJ; (case hj => rfl); (case hl => rfl)
    · skip
      refine skipT rfl rfl rfl rfl ?_
      refine skipT rfl rfl rfl rfl ?_
      refine skipT rfl rfl rfl rfl ?_
      refine pu (ev tab rfl) rfl ?_
      refine WO.nil ?_
      refine qv1 rfl rfl rfl
    · skip
      refine goG rfl rfl ?_
      refine pu (ev tab rfl) rfl ?_
      refine goG rfl rfl ?_
      refine pu (ev tab rfl) rfl ?_
      refine goG rfl rfl ?_
      iterate 2 refine pu (ev tab rfl) rfl ?_
      refine WO.nil ?_
      refine qv1 rfl rfl rfl
  refine qs ?_
  refine condK rfl (fun h14 => ?_) (fun h14 => ?_)
  · skip
    refine W.seq ?_
    refine W.region ?_
    refine pu (ev tab rfl) rfl ?_
    refine WO.nil ?_
    refine qs ?_
    refine W.ret ?_
    refine qsRet ?_
    refine QF.ret0 trivial rfl ?_
    simp only [norm, oneA]; grind [within]
  · skip
    refine W.skip ?_
    refine qs ?_
    refine W.seq ?_
    refine W.region ?_
    refine pu (ev tab rfl) rfl ?_
    refine WO.nil ?_
    refine qs ?_
    refine W.ret ?_
    refine QF.ret0 trivial rfl ?_
    simp only [norm, oneA]; grind [within]
theorem uses_fn2 (k : Int) : Does Tryd.prog 23 [.d (.v (.int .i64 k))] (.tup [.d (.v (.bool (usesName k))), .d (.v (.bool (usesN k))), .d (.v (.bool (usesM k))), .d (.v (.bool (usesStack k)))]) 0 := by
  refine Does.of_W (n := 38) (ts := [2, 3, 4, 5]) Tryd.func23 (by kernel_rfl) rfl Tryd.ntmps23 Tryd.results23 rfl rfl fun C hC hG => ?_
  refine W.seq ?_
  refine W.region ?_
  iterate 4 refine pu (ev tab rfl) rfl ?_
  refine WO.nil ?_
  refine qs ?_
  refine W.seq ?_
  apply regionB; (case hb => rfl)
  · skip
    iterate 3 refine pu (ev tab rfl) rfl ?_
    apply splitJ; (case hj => rfl); (case hl => rfl)
    · skip
      refine skipT rfl rfl rfl rfl ?_
      refine skipT rfl rfl rfl rfl ?_
      iterate 2 refine pu (ev tab rfl) rfl ?_
      refine skipT rfl rfl rfl rfl ?_
      refine skipT rfl rfl rfl rfl ?_
      iterate 2 refine pu (ev tab rfl) rfl ?_
      refine WO.nil ?_
      refine qv1 rfl rfl rfl
    · skip
      refine goG rfl rfl ?_
      refine pu (ev tab rfl) rfl ?_
      refine goG rfl rfl ?_
      iterate 3 refine pu (ev tab rfl) rfl ?_
      apply splitJ; (case hj => rfl); (case hl => rfl)
      · skip
        refine skipT rfl rfl rfl rfl ?_
        refine skipT rfl rfl rfl rfl ?_
        iterate 2 refine pu (ev tab rfl) rfl ?_
        refine WO.nil ?_
        refine qv1 rfl rfl rfl
      · skip
        refine goG rfl rfl ?_
        refine pu (ev tab rfl) rfl ?_
        refine goG rfl rfl ?_
        iterate 3 refine pu (ev tab rfl) rfl ?_
        refine WO.nil ?_
        refine qv1 rfl rfl rfl
  refine qs ?_
  refine W.seq ?_
  refine W.region ?_
  iterate 3 refine pu (ev tab rfl) rfl ?_
  refine WO.nil ?_
  refine qs ?_
  refine W.seq ?_
  apply regionB; (case hb => rfl)
  · skip
    iterate 3 refine pu (ev tab rfl) rfl ?_
    apply splitJ; (case hj => rfl); (case hl => rfl)
    · skip
      refine skipT rfl rfl rfl rfl ?_
      refine skipT rfl rfl rfl rfl ?_
      iterate 2 refine pu (ev tab rfl) rfl ?_
      refine WO.nil ?_
      refine qv1 rfl rfl rfl
    · skip
      refine goG rfl rfl ?_
      refine pu (ev tab rfl) rfl ?_
      refine goG rfl rfl ?_
      iterate 3 refine pu (ev tab rfl) rfl ?_
      refine WO.nil ?_
      refine qv1 rfl rfl rfl
  refine qs ?_
  refine W.seq ?_
  apply regionB; (case hb => rfl)
  · skip
    iterate 3 refine pu (ev tab rfl) rfl ?_
    apply splitJ; (case hj => rfl); (case hl => rfl)
    · skip
      refine skipT rfl rfl rfl rfl ?_
      refine skipT rfl rfl rfl rfl ?_
      iterate 2 refine pu (ev tab rfl) rfl ?_
      refine WO.nil ?_
      refine qv1 rfl rfl rfl
    · skip
      refine goG rfl rfl ?_
      refine pu (ev tab rfl) rfl ?_
      refine goG rfl rfl ?_
      iterate 3 refine pu (ev tab rfl) rfl ?_
      refine WO.nil ?_
      refine qv1 rfl rfl rfl
  refine qs ?_
  refine W.seq ?_
  refine W.region ?_
  iterate 8 refine pu (ev tab rfl) rfl ?_
  refine WO.nil ?_
  refine qs ?_
  refine W.ret ?_
  refine QF.ret0 trivial rfl ?_
  simp only [norm, normL, oneA]; simp only [usesName, usesN, usesM, usesStack]; grind
theorem numbers_fn2 (e : Ev) : Does Tryd.prog 26 [.ag e.c] (.d (.v (.int .i64 (numsE e)))) 0 := by
  refine Does.of_W (n := 63) (ts := [2]) Tryd.func26 (by kernel_rfl) rfl Tryd.ntmps26 Tryd.results26 rfl rfl fun C hC hG => ?_
  refine W.seq ?_
  refine W.region ?_
  refine boxR rfl rfl rfl ?_
  refine pu (ev tab rfl) rfl ?_
  refine WO.nil ?_
  refine qs ?_
  refine W.seq ?_
  refine W.seq ?_
  refine W.region ?_
  refine pu (ev tab rfl) rfl ?_
  first | refine pu (ev tab rfl) rfl ?_ | refine pu (loadRow tab rfl rfl rfl rfl) rfl ?_ | refine pu (loadBox tab rfl rfl rfl rfl rfl) rfl ?_
  refine WO.nil ?_
  refine qs ?_
  refine W.block ?_
  refine W.seq ?_
  refine W.seq ?_
  refine W.region ?_
  iterate 2 refine pu (ev tab rfl) rfl ?_
  refine WO.nil ?_
  refine qs ?_
  refine condK rfl (fun h7 => ?_) (fun h7 => ?_)
  · skip
    refine W.skip ?_
    refine qs ?_
    refine W.condT rfl ?_
    refine W.seq ?_
    refine W.region ?_
    refine pu (ev tab rfl) rfl ?_
    refine WO.nil ?_
    refine qs ?_
    refine W.ret ?_
    refine qbRet ?_
    refine qsRet ?_
    refine QF.ret0 trivial rfl ?_
    simp only [norm, oneA]; grind [numsE]
  · skip
    refine W.seq ?_
    refine W.region ?_
    iterate 2 refine pu (ev tab rfl) rfl ?_
    refine WO.nil ?_
    refine qs ?_
    refine condK rfl (fun h7 => ?_) (fun h7 => ?_)
    · skip
      refine W.skip ?_
      refine qs ?_
      refine W.condT rfl ?_
      refine W.seq ?_
      refine W.region ?_
      refine pu (ev tab rfl) rfl ?_
      refine WO.nil ?_
      refine qs ?_
      refine W.ret ?_
      refine qbRet ?_
      refine qsRet ?_
      refine QF.ret0 trivial rfl ?_
      simp only [norm, oneA]; grind [numsE]
    · skip
      refine W.region ?_
      iterate 2 refine pu (ev tab rfl) rfl ?_
      refine WO.nil ?_
      refine qs ?_
      refine condK rfl (fun h7 => ?_) (fun h7 => ?_)
      · skip
        refine W.seq ?_
        refine W.region ?_
        refine pu (ev tab rfl) rfl ?_
        refine WO.nil ?_
        refine qs ?_
        refine W.ret ?_
        refine qbRet ?_
        refine qsRet ?_
        refine QF.ret0 trivial rfl ?_
        simp only [norm, oneA]; grind [numsE]
      · skip
        refine W.seq ?_
        refine W.region ?_
        iterate 2 refine pu (ev tab rfl) rfl ?_
        refine WO.nil ?_
        refine qs ?_
        refine condK rfl (fun h11 => ?_) (fun h11 => ?_)
        · skip
          refine W.seq ?_
          refine W.region ?_
          refine pu (ev tab rfl) rfl ?_
          first | refine pu (ev tab rfl) rfl ?_ | refine pu (loadRow tab rfl rfl rfl rfl) rfl ?_ | refine pu (loadBox tab rfl rfl rfl rfl rfl) rfl ?_
          refine pu (puCall rfl rfl rfl (within_fn2 ..) rfl) rfl ?_
          refine pu (ev tab rfl) rfl ?_
          refine WO.nil ?_
          refine qs ?_
          refine W.ret ?_
          refine qbRet ?_
          refine qsRet ?_
          refine QF.ret0 trivial rfl ?_
          simp only [norm, oneA]; grind [numsE]
        · skip
          refine W.seq ?_
          refine W.region ?_
          iterate 2 refine pu (ev tab rfl) rfl ?_
          refine WO.nil ?_
          refine qs ?_
          refine condK rfl (fun h16 => ?_) (fun h16 => ?_)
          · skip
            refine W.seq ?_
            refine W.region ?_
            refine pu (ev tab rfl) rfl ?_
            first | refine pu (ev tab rfl) rfl ?_ | refine pu (loadRow tab rfl rfl rfl rfl) rfl ?_ | refine pu (loadBox tab rfl rfl rfl rfl rfl) rfl ?_
            refine pu (puCall rfl rfl rfl (within_fn2 ..) rfl) rfl ?_
            refine pu (ev tab rfl) rfl ?_
            refine WO.nil ?_
            refine qs ?_
            refine W.ret ?_
            refine qbRet ?_
            refine qsRet ?_
            refine QF.ret0 trivial rfl ?_
            simp only [norm, oneA]; grind [numsE]
          · skip
            refine W.seq ?_
            refine W.region ?_
            iterate 2 refine pu (ev tab rfl) rfl ?_
            refine WO.nil ?_
            refine qs ?_
            refine condK rfl (fun h21 => ?_) (fun h21 => ?_)
            · skip
              refine W.seq ?_
              refine W.region ?_
              refine pu (ev tab rfl) rfl ?_
              first | refine pu (ev tab rfl) rfl ?_ | refine pu (loadRow tab rfl rfl rfl rfl) rfl ?_ | refine pu (loadBox tab rfl rfl rfl rfl rfl) rfl ?_
              refine pu (puCall rfl rfl rfl (within_fn2 ..) rfl) rfl ?_
              refine pu (ev tab rfl) rfl ?_
              refine WO.nil ?_
              refine qs ?_
              refine W.ret ?_
              refine qbRet ?_
              refine qsRet ?_
              refine QF.ret0 trivial rfl ?_
              simp only [norm, oneA]; grind [numsE]
            · skip
              refine W.seq ?_
              refine W.region ?_
              iterate 2 refine pu (ev tab rfl) rfl ?_
              refine WO.nil ?_
              refine qs ?_
              refine condK rfl (fun h26 => ?_) (fun h26 => ?_)
              · skip
                refine W.seq ?_
                refine W.region ?_
                refine pu (ev tab rfl) rfl ?_
                first | refine pu (ev tab rfl) rfl ?_ | refine pu (loadRow tab rfl rfl rfl rfl) rfl ?_ | refine pu (loadBox tab rfl rfl rfl rfl rfl) rfl ?_
                refine pu (puCall rfl rfl rfl (within_fn2 ..) rfl) rfl ?_
                refine pu (ev tab rfl) rfl ?_
                refine WO.nil ?_
                refine qs ?_
                refine W.seq ?_
                refine W.seq ?_
                apply regionB; (case hb => rfl)
                · skip
                  iterate 3 refine pu (ev tab rfl) rfl ?_
                  apply splitJ; (case hj => rfl); (case hl => rfl)
                  · skip
                    refine goG rfl rfl ?_
                    refine pu (ev tab rfl) rfl ?_
                    refine goG rfl rfl ?_
                    first | refine pu (ev tab rfl) rfl ?_ | refine pu (loadRow tab rfl rfl rfl rfl) rfl ?_ | refine pu (loadBox tab rfl rfl rfl rfl rfl) rfl ?_
                    refine goG rfl rfl ?_
                    iterate 2 refine pu (ev tab rfl) rfl ?_
                    refine WO.nil ?_
                    refine qv1 rfl rfl rfl
                  · skip
                    refine skipT rfl rfl rfl rfl ?_
                    refine skipT rfl rfl rfl rfl ?_
                    refine skipT rfl rfl rfl rfl ?_
                    refine pu (ev tab rfl) rfl ?_
                    refine WO.nil ?_
                    refine qv1 rfl rfl rfl
                refine qs ?_
                refine condK rfl (fun h37 => ?_) (fun h37 => ?_)
                · skip
                  refine W.seq ?_
                  refine W.region ?_
                  refine pu (ev tab rfl) rfl ?_
                  first | refine pu (ev tab rfl) rfl ?_ | refine pu (loadRow tab rfl rfl rfl rfl) rfl ?_ | refine pu (loadBox tab rfl rfl rfl rfl rfl) rfl ?_
                  refine pu (puCall rfl rfl rfl (within_fn2 ..) rfl) rfl ?_
                  refine pu (ev tab rfl) rfl ?_
                  refine WO.nil ?_
                  refine qs ?_
                  refine W.ret ?_
                  refine qsRet ?_
                  refine qbRet ?_
                  refine qsRet ?_
                  refine QF.ret0 trivial rfl ?_
                  simp only [norm, oneA]; grind [numsE]
                · skip
                  refine W.skip ?_
                  refine qs ?_
                  refine W.seq ?_
                  refine W.seq ?_
                  apply regionB; (case hb => rfl)
                  · skip
                    iterate 3 refine pu (ev tab rfl) rfl ?_
                    apply splitJ; (case hj => rfl); (case hl => rfl)
                    · skip
                      refine goG rfl rfl ?_
                      refine pu (ev tab rfl) rfl ?_
                      refine goG rfl rfl ?_
                      first | refine pu (ev tab rfl) rfl ?_ | refine pu (loadRow tab rfl rfl rfl rfl) rfl ?_ | refine pu (loadBox tab rfl rfl rfl rfl rfl) rfl ?_
                      refine goG rfl rfl ?_
                      iterate 2 refine pu (ev tab rfl) rfl ?_
                      refine WO.nil ?_
                      refine qv1 rfl rfl rfl
                    · skip
                      refine skipT rfl rfl rfl rfl ?_
                      refine skipT rfl rfl rfl rfl ?_
                      refine skipT rfl rfl rfl rfl ?_
                      refine pu (ev tab rfl) rfl ?_
                      refine WO.nil ?_
                      refine qv1 rfl rfl rfl
                  refine qs ?_
                  refine condK rfl (fun h47 => ?_) (fun h47 => ?_)
                  · skip
                    refine W.seq ?_
                    refine W.region ?_
                    refine pu (ev tab rfl) rfl ?_
                    refine WO.nil ?_
                    refine qs ?_
                    refine W.ret ?_
                    refine qsRet ?_
                    refine qbRet ?_
                    refine qsRet ?_
                    refine QF.ret0 trivial rfl ?_
                    simp only [norm, oneA]; grind [numsE]
                  · skip
                    refine W.skip ?_
                    refine qs ?_
                    refine W.seq ?_
                    refine W.region ?_
                    iterate 2 refine pu (ev tab rfl) rfl ?_
                    refine WO.nil ?_
                    refine qs ?_
                    refine W.ret ?_
                    refine qbRet ?_
                    refine qsRet ?_
                    refine QF.ret0 trivial rfl ?_
                    simp only [norm, oneA]; grind [numsE]
              · skip
                refine W.skip ?_
                refine qbN ?_
                refine qs ?_
                refine W.seq ?_
                refine W.region ?_
                refine pu (ev tab rfl) rfl ?_
                first | refine pu (ev tab rfl) rfl ?_ | refine pu (loadRow tab rfl rfl rfl rfl) rfl ?_ | refine pu (loadBox tab rfl rfl rfl rfl rfl) rfl ?_
                refine pu (puCall rfl rfl rfl (within_fn2 ..) rfl) rfl ?_
                refine pu (ev tab rfl) rfl ?_
                refine WO.nil ?_
                refine qs ?_
                refine W.seq ?_
                refine W.seq ?_
                apply regionB; (case hb => rfl)
                · skip
                  iterate 3 refine pu (ev tab rfl) rfl ?_
                  apply splitJ; (case hj => rfl); (case hl => rfl)
                  · skip
                    refine goG rfl rfl ?_
                    refine pu (ev tab rfl) rfl ?_
                    refine goG rfl rfl ?_
                    first | refine pu (ev tab rfl) rfl ?_ | refine pu (loadRow tab rfl rfl rfl rfl) rfl ?_ | refine pu (loadBox tab rfl rfl rfl rfl rfl) rfl ?_
                    refine goG rfl rfl ?_
                    iterate 2 refine pu (ev tab rfl) rfl ?_
                    refine WO.nil ?_
                    refine qv1 rfl rfl rfl
                  · skip
                    refine skipT rfl rfl rfl rfl ?_
                    refine skipT rfl rfl rfl rfl ?_
                    refine skipT rfl rfl rfl rfl ?_
                    refine pu (ev tab rfl) rfl ?_
                    refine WO.nil ?_
                    refine qv1 rfl rfl rfl
                refine qs ?_
                refine condK rfl (fun h58 => ?_) (fun h58 => ?_)
                · skip
                  refine W.seq ?_
                  refine W.region ?_
                  refine pu (ev tab rfl) rfl ?_
                  first | refine pu (ev tab rfl) rfl ?_ | refine pu (loadRow tab rfl rfl rfl rfl) rfl ?_ | refine pu (loadBox tab rfl rfl rfl rfl rfl) rfl ?_
                  refine pu (puCall rfl rfl rfl (within_fn2 ..) rfl) rfl ?_
                  refine pu (ev tab rfl) rfl ?_
                  refine WO.nil ?_
                  refine qs ?_
                  refine W.ret ?_
                  refine qsRet ?_
                  refine QF.ret0 trivial rfl ?_
                  simp only [norm, oneA]; grind [numsE]
                · skip
                  refine W.skip ?_
                  refine qs ?_
                  refine W.seq ?_
                  refine W.region ?_
                  iterate 2 refine pu (ev tab rfl) rfl ?_
                  refine WO.nil ?_
                  refine qs ?_
                  refine W.ret ?_
                  refine QF.ret0 trivial rfl ?_
                  simp only [norm, oneA]; grind [numsE]
end Go.Proofs.YtifeonoehfffmaaDoor
namespace Go.Proofs.YtifeonoehfffmaaDoor
open Go.Ab Go.Tb
set_option maxRecDepth 10000
attribute [local irreducible] W WO Pu QS QB QL QF QV QV1 CH QE
theorem equal_fn (a b : List ByteArray) : Does Tryd.prog 42 [.d (.sl (txs a)), .d (.sl (txs b))] (.d (.v (.bool (decide (a = b))))) 0 := by
  refine Does.of_W (n := 26) (ts := [4]) Tryd.func42 (by kernel_rfl) rfl Tryd.ntmps42 Tryd.results42 rfl rfl fun C hC hG => ?_
  refine W.seq ?_
  refine W.region ?_
  refine pu (ev tab rfl) rfl ?_
  refine WO.nil ?_
  refine qs ?_
  refine W.seq ?_
  refine W.seq ?_
  refine W.region ?_
  iterate 5 refine pu (ev tab rfl) rfl ?_
  refine WO.nil ?_
  refine qs ?_
  refine condK rfl (fun h10 => ?_) (fun h10 => ?_)
  · skip
    have hg : decide (a = b) = false := by simp at h10 ⊢; rintro rfl; simp at h10
    refine W.seq ?_
    refine W.region ?_
    refine pu (ev tab rfl) rfl ?_
    refine WO.nil ?_
    refine qs ?_
    refine W.ret ?_
    refine qsRet ?_
    refine QF.ret0 trivial rfl ?_
    rw [hg]; rfl
  · skip
    have hl : a.length = b.length := by simp at h10; omega
    refine W.skip ?_
    refine qs ?_
    refine W.seq ?_
    refine W.seq ?_
    refine W.region ?_
    iterate 3 refine pu (ev tab rfl) rfl ?_
    refine WO.nil ?_
    refine qs ?_
    refine W.block ?_
    refine W.len (t := 0) rfl rfl (fun hlen => ?_)
    try simp only [List.length_map, Ex.kc_len] at hlen
    refine W.loopR (ι := {x : Nat // match x with | k => k ≤ a.length ∧ decide (a.drop k = b.drop k) = decide (a = b)})
      (fun x => match x.1 with | k => [(13, .d (.v (.int .i64 ((k : Nat) : Int))))]) [(0, _), (1, _), (12, _)]
      (fun x => match x.1 with | k => []) [] [] 0 (fun x => match x.1 with | k => a.length - k)
      [] ⟨0, ?_⟩ rfl ?_ ⟨rfl, rfl, rfl, rfl, rfl, rfl, trivial⟩ ?_ trivial rfl ?_
    · first | exact ⟨Nat.zero_le _, rfl⟩ | exact trivial | simp
    · repeat' first | exact trivial | refine ⟨rfl, ?_⟩ | refine ⟨step_nat (by assumption) (by assumption), ?_⟩
    · repeat' first | exact trivial | refine ⟨rfl, ?_⟩ | refine ⟨step_nat (by assumption) (by assumption), ?_⟩
    rintro ⟨k, hk, hI⟩
    show W _ _ _ _ _ ⟨[(13, .d (.v (.int .i64 ((k : Nat) : Int)))), (0, _), (1, _), (12, _)], [], [], 0⟩
    refine W.seq ?_
    refine W.region ?_
    refine pu (ev tab rfl) rfl ?_
    refine WO.nil ?_
    refine qs ?_
    refine W.seq ?_
    refine eachR (l := a) (k := k) rfl (by simp [Ex.kc_len, bytes_len]) hk (fun x hx hd hlt => ?_) (fun he hd => ?_)
    · skip
      obtain ⟨y, hy, hyd⟩ := exAt (l := b) (k := k) (by omega)
      rw [hd, hyd] at hI
      refine W.skip ?_
      refine qs ?_
      refine W.seq ?_
      refine W.block ?_
      refine W.seq ?_
      refine W.region ?_
      iterate 2 refine pu (ev tab rfl) rfl ?_
      refine WO.nil ?_
      refine qs ?_
      refine W.seq ?_
      refine W.regionD tab (by kernel_rfl) ?_
      refine chPu (ev tab rfl) rfl ?_
      refine chPu (ev tab rfl) rfl ?_
      refine chPu (indexAddr tab rfl rfl rfl rfl rfl rfl (Int.natCast_nonneg _) (idx_map hx) rfl) rfl ?_
      first | refine chPu (ev tab rfl) rfl ?_ | refine chPu (loadRow tab rfl rfl rfl rfl) rfl ?_ | refine chPu (loadBox tab rfl rfl rfl rfl rfl) rfl ?_
      refine chPu (ev tab rfl) rfl ?_
      refine chPu (ev tab rfl) rfl ?_
      refine chPu (indexAddr tab rfl rfl rfl rfl rfl rfl (Int.natCast_nonneg _) (idx_map hy) rfl) rfl ?_
      first | refine chPu (ev tab rfl) rfl ?_ | refine chPu (loadRow tab rfl rfl rfl rfl) rfl ?_ | refine chPu (loadBox tab rfl rfl rfl rfl rfl) rfl ?_
      refine chPu (ev tab rfl) rfl ?_
      refine CH.nil ?_
      refine qs ?_
      refine condK rfl (fun h24 => ?_) (fun h24 => ?_)
      · skip
        have hxy : x ≠ y := by rintro rfl; simp at h24
        have hg : decide (a = b) = false := by rw [← hI]; simp [hxy]
        refine W.seq ?_
        refine W.region ?_
        refine pu (ev tab rfl) rfl ?_
        refine WO.nil ?_
        refine qs ?_
        refine W.ret ?_
        refine qbRet ?_
        refine qsRet ?_
        refine qlRet ?_
        refine qbRet ?_
        refine qsRet ?_
        refine QF.ret0 trivial rfl ?_
        rw [hg]; rfl
      · skip
        have hxy : x = y := by simpa using h24
        refine W.skip ?_
        refine qbN ?_
        refine qs ?_
        refine W.region ?_
        iterate 2 refine pu (ev tab rfl) rfl ?_
        refine WO.nil ?_
        refine W.endR [] ⟨k + 1, ?_⟩ ?_ rfl ?_ ⟨rfl, rfl, rfl, rfl, rfl, rfl, trivial⟩ ?_ trivial rfl
        · refine ⟨hlt, ?_⟩
          rw [← hI, hxy]
          simp
        · dsimp only; omega
        · repeat' first | exact trivial | refine ⟨rfl, ?_⟩ | refine ⟨step_nat (by assumption) (by assumption), ?_⟩
        · repeat' first | exact trivial | refine ⟨rfl, ?_⟩ | refine ⟨step_nat (by assumption) (by assumption), ?_⟩
    · skip
      rw [hd, dropEnd (l := b) (by omega)] at hI
      refine W.exit ?_
      refine qsExit ?_
      refine qlExit ?_
      refine qbExit ?_
      refine qs ?_
      refine W.seq ?_
      refine W.region ?_
      refine pu (ev tab rfl) rfl ?_
      refine WO.nil ?_
      refine qs ?_
      refine W.ret ?_
      refine QF.ret0 trivial rfl ?_
      rw [← hI]; rfl
/-- equality, field by field -/
def sameEv (a b : Ev) : Bool := decide (a.time = b.time) && decide (a.kind = b.kind) && decide (a.name = b.name) && decide (a.n = b.n) && decide (a.m = b.m) && decide (a.stack = b.stack)
theorem sameEv_iff (a b : Ev) : sameEv a b = true ↔ a = b := by
  cases a; cases b
  simp only [sameEv, Bool.and_eq_true, decide_eq_true_eq, Ev.mk.injEq]
  constructor
  · rintro ⟨⟨⟨⟨⟨h1, h2⟩, h3⟩, h4⟩, h5⟩, h6⟩; exact ⟨h1, h2, h3, h4, h5, h6⟩
  · rintro ⟨h1, h2, h3, h4, h5, h6⟩; exact ⟨⟨⟨⟨⟨h1, h2⟩, h3⟩, h4⟩, h5⟩, h6⟩
theorem same_fn (a b : Ev) : Does Tryd.prog 18 [.ag a.c, .ag b.c] (.d (.v (.bool (sameEv a b)))) 0 := by
  refine Does.of_W (n := 45) (ts := [4]) Tryd.func18 (by kernel_rfl) rfl Tryd.ntmps18 Tryd.results18 rfl rfl fun C hC hG => ?_
  refine W.seq ?_
  refine W.region ?_
  refine boxR rfl rfl rfl ?_
  refine boxR rfl rfl rfl ?_
  refine pu (ev tab rfl) rfl ?_
  refine WO.nil ?_
  refine qs ?_
  refine W.seq ?_
  apply regionB; (case hb => rfl)
  · skip
    refine pu (ev tab rfl) rfl ?_
    first | refine pu (ev tab rfl) rfl ?_ | refine pu (loadRow tab rfl rfl rfl rfl) rfl ?_ | refine pu (loadBox tab rfl rfl rfl rfl rfl) rfl ?_
    refine pu (ev tab rfl) rfl ?_
    first | refine pu (ev tab rfl) rfl ?_ | refine pu (loadRow tab rfl rfl rfl rfl) rfl ?_ | refine pu (loadBox tab rfl rfl rfl rfl rfl) rfl ?_
    iterate 2 refine pu (ev tab rfl) rfl ?_
    apply splitJ; (case hj => rfl); (case hl => rfl)
    · skip
      refine goG rfl rfl ?_
      refine pu (ev tab rfl) rfl ?_
      refine goG rfl rfl ?_
      first | refine pu (ev tab rfl) rfl ?_ | refine pu (loadRow tab rfl rfl rfl rfl) rfl ?_ | refine pu (loadBox tab rfl rfl rfl rfl rfl) rfl ?_
      refine goG rfl rfl ?_
      refine pu (ev tab rfl) rfl ?_
      refine goG rfl rfl ?_
      first | refine pu (ev tab rfl) rfl ?_ | refine pu (loadRow tab rfl rfl rfl rfl) rfl ?_ | refine pu (loadBox tab rfl rfl rfl rfl rfl) rfl ?_
      refine goG rfl rfl ?_
      iterate 3 refine pu (ev tab rfl) rfl ?_
      apply splitJ; (case hj => rfl); (case hl => rfl)
      · skip
        refine goG rfl rfl ?_
        refine pu (ev tab rfl) rfl ?_
        refine goG rfl rfl ?_
        first | refine pu (ev tab rfl) rfl ?_ | refine pu (loadRow tab rfl rfl rfl rfl) rfl ?_ | refine pu (loadBox tab rfl rfl rfl rfl rfl) rfl ?_
        refine goG rfl rfl ?_
        refine pu (ev tab rfl) rfl ?_
        refine goG rfl rfl ?_
        first | refine pu (ev tab rfl) rfl ?_ | refine pu (loadRow tab rfl rfl rfl rfl) rfl ?_ | refine pu (loadBox tab rfl rfl rfl rfl rfl) rfl ?_
        refine goG rfl rfl ?_
        iterate 3 refine pu (ev tab rfl) rfl ?_
        apply splitJ; (case hj => rfl); (case hl => rfl)
        · skip
          refine goG rfl rfl ?_
          refine pu (ev tab rfl) rfl ?_
          refine goG rfl rfl ?_
          first | refine pu (ev tab rfl) rfl ?_ | refine pu (loadRow tab rfl rfl rfl rfl) rfl ?_ | refine pu (loadBox tab rfl rfl rfl rfl rfl) rfl ?_
          refine goG rfl rfl ?_
          refine pu (ev tab rfl) rfl ?_
          refine goG rfl rfl ?_
          first | refine pu (ev tab rfl) rfl ?_ | refine pu (loadRow tab rfl rfl rfl rfl) rfl ?_ | refine pu (loadBox tab rfl rfl rfl rfl rfl) rfl ?_
          refine goG rfl rfl ?_
          iterate 3 refine pu (ev tab rfl) rfl ?_
          apply splitJ; (case hj => rfl); (case hl => rfl)
          · skip
            refine goG rfl rfl ?_
            refine pu (ev tab rfl) rfl ?_
            refine goG rfl rfl ?_
            first | refine pu (ev tab rfl) rfl ?_ | refine pu (loadRow tab rfl rfl rfl rfl) rfl ?_ | refine pu (loadBox tab rfl rfl rfl rfl rfl) rfl ?_
            refine goG rfl rfl ?_
            refine pu (ev tab rfl) rfl ?_
            refine goG rfl rfl ?_
            first | refine pu (ev tab rfl) rfl ?_ | refine pu (loadRow tab rfl rfl rfl rfl) rfl ?_ | refine pu (loadBox tab rfl rfl rfl rfl rfl) rfl ?_
            refine goG rfl rfl ?_
            iterate 3 refine pu (ev tab rfl) rfl ?_
            apply splitJ; (case hj => rfl); (case hl => rfl)
            · skip
              refine goG rfl rfl ?_
              refine pu (ev tab rfl) rfl ?_
              refine goG rfl rfl ?_
              first | refine pu (ev tab rfl) rfl ?_ | refine pu (loadRow tab rfl rfl rfl rfl) rfl ?_ | refine pu (loadBox tab rfl rfl rfl rfl rfl) rfl ?_
              refine goG rfl rfl ?_
              refine pu (ev tab rfl) rfl ?_
              refine goG rfl rfl ?_
              first | refine pu (ev tab rfl) rfl ?_ | refine pu (loadRow tab rfl rfl rfl rfl) rfl ?_ | refine pu (loadBox tab rfl rfl rfl rfl rfl) rfl ?_
              refine goG rfl rfl ?_
              refine pu (puCall rfl rfl rfl (equal_fn ..) rfl) rfl ?_
              iterate 2 refine pu (ev tab rfl) rfl ?_
              refine WO.nil ?_
              refine qv1 rfl rfl rfl
            · skip
              refine skipT rfl rfl rfl rfl ?_
              refine skipT rfl rfl rfl rfl ?_
              refine skipT rfl rfl rfl rfl ?_
              refine skipT rfl rfl rfl rfl ?_
              refine skipT rfl rfl rfl rfl ?_
              iterate 2 refine pu (ev tab rfl) rfl ?_
              refine WO.nil ?_
              refine qv1 rfl rfl rfl
          · skip
            refine skipT rfl rfl rfl rfl ?_
            refine skipT rfl rfl rfl rfl ?_
            refine skipT rfl rfl rfl rfl ?_
            refine skipT rfl rfl rfl rfl ?_
            refine skipT rfl rfl rfl rfl ?_
            iterate 2 refine pu (ev tab rfl) rfl ?_
            refine skipT rfl rfl rfl rfl ?_
            refine skipT rfl rfl rfl rfl ?_
            refine skipT rfl rfl rfl rfl ?_
            refine skipT rfl rfl rfl rfl ?_
            refine skipT rfl rfl rfl rfl ?_
            iterate 2 refine pu (ev tab rfl) rfl ?_
            refine WO.nil ?_
            refine qv1 rfl rfl rfl
        · skip
          refine skipT rfl rfl rfl rfl ?_
          refine skipT rfl rfl rfl rfl ?_
          refine skipT rfl rfl rfl rfl ?_
          refine skipT rfl rfl rfl rfl ?_
          refine skipT rfl rfl rfl rfl ?_
          iterate 2 refine pu (ev tab rfl) rfl ?_
          refine skipT rfl rfl rfl rfl ?_
          refine skipT rfl rfl rfl rfl ?_
          refine skipT rfl rfl rfl rfl ?_
          refine skipT rfl rfl rfl rfl ?_
          refine skipT rfl rfl rfl rfl ?_
          iterate 2 refine pu (ev tab rfl) rfl ?_
          refine skipT rfl rfl rfl rfl ?_
          refine skipT rfl rfl rfl rfl ?_
          refine skipT rfl rfl rfl rfl ?_
          refine skipT rfl rfl rfl rfl ?_
          refine skipT rfl rfl rfl rfl ?_
          iterate 2 refine pu (ev tab rfl) rfl ?_
          refine WO.nil ?_
          refine qv1 rfl rfl rfl
      · skip
        refine skipT rfl rfl rfl rfl ?_
        refine skipT rfl rfl rfl rfl ?_
        refine skipT rfl rfl rfl rfl ?_
        refine skipT rfl rfl rfl rfl ?_
        refine skipT rfl rfl rfl rfl ?_
        iterate 2 refine pu (ev tab rfl) rfl ?_
        refine skipT rfl rfl rfl rfl ?_
        refine skipT rfl rfl rfl rfl ?_
        refine skipT rfl rfl rfl rfl ?_
        refine skipT rfl rfl rfl rfl ?_
        refine skipT rfl rfl rfl rfl ?_
        iterate 2 refine pu (ev tab rfl) rfl ?_
        refine skipT rfl rfl rfl rfl ?_
        refine skipT rfl rfl rfl rfl ?_
        refine skipT rfl rfl rfl rfl ?_
        refine skipT rfl rfl rfl rfl ?_
        refine skipT rfl rfl rfl rfl ?_
        iterate 2 refine pu (ev tab rfl) rfl ?_
        refine skipT rfl rfl rfl rfl ?_
        refine skipT rfl rfl rfl rfl ?_
        refine skipT rfl rfl rfl rfl ?_
        refine skipT rfl rfl rfl rfl ?_
        refine skipT rfl rfl rfl rfl ?_
        iterate 2 refine pu (ev tab rfl) rfl ?_
        refine WO.nil ?_
        refine qv1 rfl rfl rfl
    · skip
      refine skipT rfl rfl rfl rfl ?_
      refine skipT rfl rfl rfl rfl ?_
      refine skipT rfl rfl rfl rfl ?_
      refine skipT rfl rfl rfl rfl ?_
      refine skipT rfl rfl rfl rfl ?_
      iterate 2 refine pu (ev tab rfl) rfl ?_
      refine skipT rfl rfl rfl rfl ?_
      refine skipT rfl rfl rfl rfl ?_
      refine skipT rfl rfl rfl rfl ?_
      refine skipT rfl rfl rfl rfl ?_
      refine skipT rfl rfl rfl rfl ?_
      iterate 2 refine pu (ev tab rfl) rfl ?_
      refine skipT rfl rfl rfl rfl ?_
      refine skipT rfl rfl rfl rfl ?_
      refine skipT rfl rfl rfl rfl ?_
      refine skipT rfl rfl rfl rfl ?_
      refine skipT rfl rfl rfl rfl ?_
      iterate 2 refine pu (ev tab rfl) rfl ?_
      refine skipT rfl rfl rfl rfl ?_
      refine skipT rfl rfl rfl rfl ?_
      refine skipT rfl rfl rfl rfl ?_
      refine skipT rfl rfl rfl rfl ?_
      refine skipT rfl rfl rfl rfl ?_
      iterate 2 refine pu (ev tab rfl) rfl ?_
      refine skipT rfl rfl rfl rfl ?_
      refine skipT rfl rfl rfl rfl ?_
      refine skipT rfl rfl rfl rfl ?_
      refine skipT rfl rfl rfl rfl ?_
      refine skipT rfl rfl rfl rfl ?_
      iterate 2 refine pu (ev tab rfl) rfl ?_
      refine WO.nil ?_
      refine qv1 rfl rfl rfl
  refine qs ?_
  refine W.ret ?_
  refine QF.ret0 trivial rfl ?_
  simp only [norm, oneA, sameEv]; grind
theorem echeck_fn (e : Ev) : Does Tryd.prog 11 [.ag e.c] (.d (.v (.int .i64 (checkE e)))) 0 := by
  refine Does.of_W (n := 127) (ts := [2]) Tryd.func11 (by kernel_rfl) rfl Tryd.ntmps11 Tryd.results11 rfl rfl fun C hC hG => ?_
  refine W.seq ?_
  refine W.region ?_
  refine boxR rfl rfl rfl ?_
  refine pu (ev tab rfl) rfl ?_
  refine WO.nil ?_
  refine qs ?_
  refine W.seq ?_
  refine W.seq ?_
  apply regionB; (case hb => rfl)
  · skip
    refine pu (ev tab rfl) rfl ?_
    first | refine pu (ev tab rfl) rfl ?_ | refine pu (loadRow tab rfl rfl rfl rfl) rfl ?_ | refine pu (loadBox tab rfl rfl rfl rfl rfl) rfl ?_
    iterate 2 refine pu (ev tab rfl) rfl ?_
    apply splitJ; (case hj => rfl); (case hl => rfl)
    · skip
      refine skipT rfl rfl rfl rfl ?_
      refine skipT rfl rfl rfl rfl ?_
      refine skipT rfl rfl rfl rfl ?_
      refine pu (ev tab rfl) rfl ?_
      refine WO.nil ?_
      refine qv1 rfl rfl rfl
    · skip
      refine goG rfl rfl ?_
      refine pu (ev tab rfl) rfl ?_
      refine goG rfl rfl ?_
      first | refine pu (ev tab rfl) rfl ?_ | refine pu (loadRow tab rfl rfl rfl rfl) rfl ?_ | refine pu (loadBox tab rfl rfl rfl rfl rfl) rfl ?_
      refine goG rfl rfl ?_
      iterate 2 refine pu (ev tab rfl) rfl ?_
      refine WO.nil ?_
      refine qv1 rfl rfl rfl
  refine qs ?_
  refine condK rfl (fun h13 => ?_) (fun h13 => ?_)
  · skip
    refine W.seq ?_
    refine W.region ?_
    refine pu (ev tab rfl) rfl ?_
    refine WO.nil ?_
    refine qs ?_
    refine W.ret ?_
    refine qsRet ?_
    refine QF.ret0 trivial rfl ?_
    simp only [norm, oneA]; grind [checkE]
  · skip
    refine W.skip ?_
    refine qs ?_
    refine W.seq ?_
    refine W.region ?_
    refine pu (ev tab rfl) rfl ?_
    first | refine pu (ev tab rfl) rfl ?_ | refine pu (loadRow tab rfl rfl rfl rfl) rfl ?_ | refine pu (loadBox tab rfl rfl rfl rfl rfl) rfl ?_
    refine pu (puCall rfl rfl rfl (formOf_fn ..) rfl) rfl ?_
    iterate 3 refine pu (ev tab rfl) rfl ?_
    refine allocR tab rfl rfl rfl ?_
    refine storeR tab rfl rfl rfl rfl rfl rfl rfl rfl ?_
    refine pu (ev tab rfl) rfl ?_
    refine WO.nil ?_
    refine qs ?_
    refine W.seq ?_
    refine W.seq ?_
    apply regionB; (case hb => rfl)
    · skip
      iterate 3 refine pu (ev tab rfl) rfl ?_
      apply splitJ; (case hj => rfl); (case hl => rfl)
      · skip
        refine skipT rfl rfl rfl rfl ?_
        refine skipT rfl rfl rfl rfl ?_
        refine skipT rfl rfl rfl rfl ?_
        refine skipT rfl rfl rfl rfl ?_
        refine skipU rfl rfl rfl ?_
        refine skipU rfl rfl rfl ?_
        refine skipU rfl rfl rfl ?_
        refine skipT rfl rfl rfl rfl ?_
        iterate 2 refine pu (ev tab rfl) rfl ?_
        refine skipT rfl rfl rfl rfl ?_
        refine skipT rfl rfl rfl rfl ?_
        refine skipT rfl rfl rfl rfl ?_
        refine skipT rfl rfl rfl rfl ?_
        refine skipU rfl rfl rfl ?_
        refine skipU rfl rfl rfl ?_
        refine skipU rfl rfl rfl ?_
        refine skipT rfl rfl rfl rfl ?_
        iterate 2 refine pu (ev tab rfl) rfl ?_
        refine skipT rfl rfl rfl rfl ?_
        refine skipT rfl rfl rfl rfl ?_
        refine skipT rfl rfl rfl rfl ?_
        refine skipT rfl rfl rfl rfl ?_
        refine skipU rfl rfl rfl ?_
        refine skipU rfl rfl rfl ?_
        refine skipU rfl rfl rfl ?_
        refine skipT rfl rfl rfl rfl ?_
        iterate 2 refine pu (ev tab rfl) rfl ?_
        refine skipT rfl rfl rfl rfl ?_
        refine skipT rfl rfl rfl rfl ?_
        refine skipT rfl rfl rfl rfl ?_
        refine skipT rfl rfl rfl rfl ?_
        refine skipU rfl rfl rfl ?_
        refine skipU rfl rfl rfl ?_
        refine skipU rfl rfl rfl ?_
        refine skipU rfl rfl rfl ?_
        refine skipT rfl rfl rfl rfl ?_
        refine pu (ev tab rfl) rfl ?_
        refine WO.nil ?_
        refine qv1 rfl rfl rfl
      · skip
        refine goG rfl rfl ?_
        refine pu (ev tab rfl) rfl ?_
        refine goG rfl rfl ?_
        first | refine pu (ev tab rfl) rfl ?_ | refine pu (loadRow tab rfl rfl rfl rfl) rfl ?_ | refine pu (loadBox tab rfl rfl rfl rfl rfl) rfl ?_
        refine goG rfl rfl ?_
        refine pu (ev tab rfl) rfl ?_
        refine goG rfl rfl ?_
        refine pu (ev tab rfl) rfl ?_
        apply splitJ; (case hj => rfl); (case hl => rfl)
        · skip
          refine goG rfl rfl ?_
          refine pu (ev tab rfl) rfl ?_
          refine goG rfl rfl ?_
          first | refine pu (ev tab rfl) rfl ?_ | refine pu (loadRow tab rfl rfl rfl rfl) rfl ?_ | refine pu (loadBox tab rfl rfl rfl rfl rfl) rfl ?_
          refine goG rfl rfl ?_
          refine pu (ev tab rfl) rfl ?_
          refine goG rfl rfl ?_
          iterate 3 refine pu (ev tab rfl) rfl ?_
          apply splitJ; (case hj => rfl); (case hl => rfl)
          · skip
            refine skipT rfl rfl rfl rfl ?_
            refine skipT rfl rfl rfl rfl ?_
            refine skipT rfl rfl rfl rfl ?_
            refine skipT rfl rfl rfl rfl ?_
            refine skipU rfl rfl rfl ?_
            refine skipU rfl rfl rfl ?_
            refine skipU rfl rfl rfl ?_
            refine skipT rfl rfl rfl rfl ?_
            iterate 2 refine pu (ev tab rfl) rfl ?_
            refine skipT rfl rfl rfl rfl ?_
            refine skipT rfl rfl rfl rfl ?_
            refine skipT rfl rfl rfl rfl ?_
            refine skipT rfl rfl rfl rfl ?_
            refine skipU rfl rfl rfl ?_
            refine skipU rfl rfl rfl ?_
            refine skipU rfl rfl rfl ?_
            refine skipT rfl rfl rfl rfl ?_
            iterate 2 refine pu (ev tab rfl) rfl ?_
            refine skipT rfl rfl rfl rfl ?_
            refine skipT rfl rfl rfl rfl ?_
            refine skipT rfl rfl rfl rfl ?_
            refine skipT rfl rfl rfl rfl ?_
            refine skipU rfl rfl rfl ?_
            refine skipU rfl rfl rfl ?_
            refine skipU rfl rfl rfl ?_
            refine skipU rfl rfl rfl ?_
            refine skipT rfl rfl rfl rfl ?_
            refine pu (ev tab rfl) rfl ?_
            refine WO.nil ?_
            refine qv1 rfl rfl rfl
          · skip
            refine goG rfl rfl ?_
            refine pu (ev tab rfl) rfl ?_
            refine goG rfl rfl ?_
            first | refine pu (ev tab rfl) rfl ?_ | refine pu (loadRow tab rfl rfl rfl rfl) rfl ?_ | refine pu (loadBox tab rfl rfl rfl rfl rfl) rfl ?_
            refine goG rfl rfl ?_
            refine pu (ev tab rfl) rfl ?_
            refine goG rfl rfl ?_
            refine pu (ev tab rfl) rfl ?_
            apply splitJ; (case hj => rfl); (case hl => rfl)
            · skip
              refine goG rfl rfl ?_
              refine pu (ev tab rfl) rfl ?_
              refine goG rfl rfl ?_
              first | refine pu (ev tab rfl) rfl ?_ | refine pu (loadRow tab rfl rfl rfl rfl) rfl ?_ | refine pu (loadBox tab rfl rfl rfl rfl rfl) rfl ?_
              refine goG rfl rfl ?_
              refine pu (ev tab rfl) rfl ?_
              refine goG rfl rfl ?_
              iterate 3 refine pu (ev tab rfl) rfl ?_
              apply splitJ; (case hj => rfl); (case hl => rfl)
              · skip
                refine skipT rfl rfl rfl rfl ?_
                refine skipT rfl rfl rfl rfl ?_
                refine skipT rfl rfl rfl rfl ?_
                refine skipT rfl rfl rfl rfl ?_
                refine skipU rfl rfl rfl ?_
                refine skipU rfl rfl rfl ?_
                refine skipU rfl rfl rfl ?_
                refine skipT rfl rfl rfl rfl ?_
                iterate 2 refine pu (ev tab rfl) rfl ?_
                refine skipT rfl rfl rfl rfl ?_
                refine skipT rfl rfl rfl rfl ?_
                refine skipT rfl rfl rfl rfl ?_
                refine skipT rfl rfl rfl rfl ?_
                refine skipU rfl rfl rfl ?_
                refine skipU rfl rfl rfl ?_
                refine skipU rfl rfl rfl ?_
                refine skipU rfl rfl rfl ?_
                refine skipT rfl rfl rfl rfl ?_
                refine pu (ev tab rfl) rfl ?_
                refine WO.nil ?_
                refine qv1 rfl rfl rfl
              · skip
                refine goG rfl rfl ?_
                refine pu (ev tab rfl) rfl ?_
                refine goG rfl rfl ?_
                first | refine pu (ev tab rfl) rfl ?_ | refine pu (loadRow tab rfl rfl rfl rfl) rfl ?_ | refine pu (loadBox tab rfl rfl rfl rfl rfl) rfl ?_
                refine goG rfl rfl ?_
                refine pu (ev tab rfl) rfl ?_
                refine goG rfl rfl ?_
                refine pu (ev tab rfl) rfl ?_
                apply splitJ; (case hj => rfl); (case hl => rfl)
                · skip
                  refine goG rfl rfl ?_
                  refine pu (ev tab rfl) rfl ?_
                  refine goG rfl rfl ?_
                  first | refine pu (ev tab rfl) rfl ?_ | refine pu (loadRow tab rfl rfl rfl rfl) rfl ?_ | refine pu (loadBox tab rfl rfl rfl rfl rfl) rfl ?_
                  refine goG rfl rfl ?_
                  refine pu (ev tab rfl) rfl ?_
                  refine goG rfl rfl ?_
                  iterate 3 refine pu (ev tab rfl) rfl ?_
                  apply splitJ; (case hj => rfl); (case hl => rfl)
                  · skip
                    refine skipT rfl rfl rfl rfl ?_
                    refine skipT rfl rfl rfl rfl ?_
                    refine skipT rfl rfl rfl rfl ?_
                    refine skipT rfl rfl rfl rfl ?_
                    refine skipU rfl rfl rfl ?_
                    refine skipU rfl rfl rfl ?_
                    refine skipU rfl rfl rfl ?_
                    refine skipU rfl rfl rfl ?_
                    refine skipT rfl rfl rfl rfl ?_
                    refine pu (ev tab rfl) rfl ?_
                    refine WO.nil ?_
                    refine qv1 rfl rfl rfl
                  · skip
                    refine goG rfl rfl ?_
                    refine pu (ev tab rfl) rfl ?_
                    refine goG rfl rfl ?_
                    first | refine pu (ev tab rfl) rfl ?_ | refine pu (loadRow tab rfl rfl rfl rfl) rfl ?_ | refine pu (loadBox tab rfl rfl rfl rfl rfl) rfl ?_
                    refine goG rfl rfl ?_
                    refine pu (ev tab rfl) rfl ?_
                    refine goG rfl rfl ?_
                    refine pu (ev tab rfl) rfl ?_
                    apply splitJ; (case hj => rfl); (case hl => rfl)
                    · skip
                      refine goG rfl rfl ?_
                      refine pu (ev tab rfl) rfl ?_
                      refine goG rfl rfl ?_
                      first | refine pu (ev tab rfl) rfl ?_ | refine pu (loadRow tab rfl rfl rfl rfl) rfl ?_ | refine pu (loadBox tab rfl rfl rfl rfl rfl) rfl ?_
                      refine goG rfl rfl ?_
                      refine pu (ev tab rfl) rfl ?_
                      refine goG rfl rfl ?_
                      refine pu (ev tab rfl) rfl ?_
                      refine goG rfl rfl ?_
                      iterate 2 refine pu (ev tab rfl) rfl ?_
                      refine WO.nil ?_
                      refine qv1 rfl rfl rfl
                    · skip
                      refine skipT rfl rfl rfl rfl ?_
                      refine skipT rfl rfl rfl rfl ?_
                      refine skipT rfl rfl rfl rfl ?_
                      refine skipT rfl rfl rfl rfl ?_
                      refine goG rfl rfl ?_
                      iterate 2 refine pu (ev tab rfl) rfl ?_
                      refine WO.nil ?_
                      refine qv1 rfl rfl rfl
                · skip
                  refine skipT rfl rfl rfl rfl ?_
                  refine skipT rfl rfl rfl rfl ?_
                  refine skipT rfl rfl rfl rfl ?_
                  refine goG rfl rfl ?_
                  iterate 3 refine pu (ev tab rfl) rfl ?_
                  refine goG rfl rfl ?_
                  refine pu (ev tab rfl) rfl ?_
                  refine goG rfl rfl ?_
                  first | refine pu (ev tab rfl) rfl ?_ | refine pu (loadRow tab rfl rfl rfl rfl) rfl ?_ | refine pu (loadBox tab rfl rfl rfl rfl rfl) rfl ?_
                  refine goG rfl rfl ?_
                  refine pu (ev tab rfl) rfl ?_
                  refine goG rfl rfl ?_
                  refine pu (ev tab rfl) rfl ?_
                  apply splitJ; (case hj => rfl); (case hl => rfl)
                  · skip
                    refine goG rfl rfl ?_
                    refine pu (ev tab rfl) rfl ?_
                    refine goG rfl rfl ?_
                    first | refine pu (ev tab rfl) rfl ?_ | refine pu (loadRow tab rfl rfl rfl rfl) rfl ?_ | refine pu (loadBox tab rfl rfl rfl rfl rfl) rfl ?_
                    refine goG rfl rfl ?_
                    refine pu (ev tab rfl) rfl ?_
                    refine goG rfl rfl ?_
                    refine pu (ev tab rfl) rfl ?_
                    refine goG rfl rfl ?_
                    iterate 2 refine pu (ev tab rfl) rfl ?_
                    refine WO.nil ?_
                    refine qv1 rfl rfl rfl
                  · skip
                    refine skipT rfl rfl rfl rfl ?_
                    refine skipT rfl rfl rfl rfl ?_
                    refine skipT rfl rfl rfl rfl ?_
                    refine skipT rfl rfl rfl rfl ?_
                    refine goG rfl rfl ?_
                    iterate 2 refine pu (ev tab rfl) rfl ?_
                    refine WO.nil ?_
                    refine qv1 rfl rfl rfl
            · skip
              refine skipT rfl rfl rfl rfl ?_
              refine skipT rfl rfl rfl rfl ?_
              refine skipT rfl rfl rfl rfl ?_
              refine goG rfl rfl ?_
              iterate 3 refine pu (ev tab rfl) rfl ?_
              refine goG rfl rfl ?_
              refine pu (ev tab rfl) rfl ?_
              refine goG rfl rfl ?_
              first | refine pu (ev tab rfl) rfl ?_ | refine pu (loadRow tab rfl rfl rfl rfl) rfl ?_ | refine pu (loadBox tab rfl rfl rfl rfl rfl) rfl ?_
              refine goG rfl rfl ?_
              refine pu (ev tab rfl) rfl ?_
              refine goG rfl rfl ?_
              refine pu (ev tab rfl) rfl ?_
              apply splitJ; (case hj => rfl); (case hl => rfl)
              · skip
                refine goG rfl rfl ?_
                refine pu (ev tab rfl) rfl ?_
                refine goG rfl rfl ?_
                first | refine pu (ev tab rfl) rfl ?_ | refine pu (loadRow tab rfl rfl rfl rfl) rfl ?_ | refine pu (loadBox tab rfl rfl rfl rfl rfl) rfl ?_
                refine goG rfl rfl ?_
                refine pu (ev tab rfl) rfl ?_
                refine goG rfl rfl ?_
                iterate 3 refine pu (ev tab rfl) rfl ?_
                apply splitJ; (case hj => rfl); (case hl => rfl)
                · skip
                  refine skipT rfl rfl rfl rfl ?_
                  refine skipT rfl rfl rfl rfl ?_
                  refine skipT rfl rfl rfl rfl ?_
                  refine skipT rfl rfl rfl rfl ?_
                  refine skipU rfl rfl rfl ?_
                  refine skipU rfl rfl rfl ?_
                  refine skipU rfl rfl rfl ?_
                  refine skipU rfl rfl rfl ?_
                  refine skipT rfl rfl rfl rfl ?_
                  refine pu (ev tab rfl) rfl ?_
                  refine WO.nil ?_
                  refine qv1 rfl rfl rfl
                · skip
                  refine goG rfl rfl ?_
                  refine pu (ev tab rfl) rfl ?_
                  refine goG rfl rfl ?_
                  first | refine pu (ev tab rfl) rfl ?_ | refine pu (loadRow tab rfl rfl rfl rfl) rfl ?_ | refine pu (loadBox tab rfl rfl rfl rfl rfl) rfl ?_
                  refine goG rfl rfl ?_
                  refine pu (ev tab rfl) rfl ?_
                  refine goG rfl rfl ?_
                  refine pu (ev tab rfl) rfl ?_
                  apply splitJ; (case hj => rfl); (case hl => rfl)
                  · skip
                    refine goG rfl rfl ?_
                    refine pu (ev tab rfl) rfl ?_
                    refine goG rfl rfl ?_
                    first | refine pu (ev tab rfl) rfl ?_ | refine pu (loadRow tab rfl rfl rfl rfl) rfl ?_ | refine pu (loadBox tab rfl rfl rfl rfl rfl) rfl ?_
                    refine goG rfl rfl ?_
                    refine pu (ev tab rfl) rfl ?_
                    refine goG rfl rfl ?_
                    refine pu (ev tab rfl) rfl ?_
                    refine goG rfl rfl ?_
                    iterate 2 refine pu (ev tab rfl) rfl ?_
                    refine WO.nil ?_
                    refine qv1 rfl rfl rfl
                  · skip
                    refine skipT rfl rfl rfl rfl ?_
                    refine skipT rfl rfl rfl rfl ?_
                    refine skipT rfl rfl rfl rfl ?_
                    refine skipT rfl rfl rfl rfl ?_
                    refine goG rfl rfl ?_
                    iterate 2 refine pu (ev tab rfl) rfl ?_
                    refine WO.nil ?_
                    refine qv1 rfl rfl rfl
              · skip
                refine skipT rfl rfl rfl rfl ?_
                refine skipT rfl rfl rfl rfl ?_
                refine skipT rfl rfl rfl rfl ?_
                refine goG rfl rfl ?_
                iterate 3 refine pu (ev tab rfl) rfl ?_
                refine goG rfl rfl ?_
                refine pu (ev tab rfl) rfl ?_
                refine goG rfl rfl ?_
                first | refine pu (ev tab rfl) rfl ?_ | refine pu (loadRow tab rfl rfl rfl rfl) rfl ?_ | refine pu (loadBox tab rfl rfl rfl rfl rfl) rfl ?_
                refine goG rfl rfl ?_
                refine pu (ev tab rfl) rfl ?_
                refine goG rfl rfl ?_
                refine pu (ev tab rfl) rfl ?_
                apply splitJ; (case hj => rfl); (case hl => rfl)
                · skip
                  refine goG rfl rfl ?_
                  refine pu (ev tab rfl) rfl ?_
                  refine goG rfl rfl ?_
                  first | refine pu (ev tab rfl) rfl ?_ | refine pu (loadRow tab rfl rfl rfl rfl) rfl ?_ | refine pu (loadBox tab rfl rfl rfl rfl rfl) rfl ?_
                  refine goG rfl rfl ?_
                  refine pu (ev tab rfl) rfl ?_
                  refine goG rfl rfl ?_
                  refine pu (ev tab rfl) rfl ?_
                  refine goG rfl rfl ?_
                  iterate 2 refine pu (ev tab rfl) rfl ?_
                  refine WO.nil ?_
                  refine qv1 rfl rfl rfl
                · skip
                  refine skipT rfl rfl rfl rfl ?_
                  refine skipT rfl rfl rfl rfl ?_
                  refine skipT rfl rfl rfl rfl ?_
                  refine skipT rfl rfl rfl rfl ?_
                  refine goG rfl rfl ?_
                  iterate 2 refine pu (ev tab rfl) rfl ?_
                  refine WO.nil ?_
                  refine qv1 rfl rfl rfl
        · skip
          refine skipT rfl rfl rfl rfl ?_
          refine skipT rfl rfl rfl rfl ?_
          refine skipT rfl rfl rfl rfl ?_
          refine goG rfl rfl ?_
          iterate 3 refine pu (ev tab rfl) rfl ?_
          refine goG rfl rfl ?_
          refine pu (ev tab rfl) rfl ?_
          refine goG rfl rfl ?_
          first | refine pu (ev tab rfl) rfl ?_ | refine pu (loadRow tab rfl rfl rfl rfl) rfl ?_ | refine pu (loadBox tab rfl rfl rfl rfl rfl) rfl ?_
          refine goG rfl rfl ?_
          refine pu (ev tab rfl) rfl ?_
          refine goG rfl rfl ?_
          refine pu (ev tab rfl) rfl ?_
          apply splitJ; (case hj => rfl); (case hl => rfl)
          · skip
            refine goG rfl rfl ?_
            refine pu (ev tab rfl) rfl ?_
            refine goG rfl rfl ?_
            first | refine pu (ev tab rfl) rfl ?_ | refine pu (loadRow tab rfl rfl rfl rfl) rfl ?_ | refine pu (loadBox tab rfl rfl rfl rfl rfl) rfl ?_
            refine goG rfl rfl ?_
            refine pu (ev tab rfl) rfl ?_
            refine goG rfl rfl ?_
            iterate 3 refine pu (ev tab rfl) rfl ?_
            apply splitJ; (case hj => rfl); (case hl => rfl)
            · skip
              refine skipT rfl rfl rfl rfl ?_
              refine skipT rfl rfl rfl rfl ?_
              refine skipT rfl rfl rfl rfl ?_
              refine skipT rfl rfl rfl rfl ?_
              refine skipU rfl rfl rfl ?_
              refine skipU rfl rfl rfl ?_
              refine skipU rfl rfl rfl ?_
              refine skipT rfl rfl rfl rfl ?_
              iterate 2 refine pu (ev tab rfl) rfl ?_
              refine skipT rfl rfl rfl rfl ?_
              refine skipT rfl rfl rfl rfl ?_
              refine skipT rfl rfl rfl rfl ?_
              refine skipT rfl rfl rfl rfl ?_
              refine skipU rfl rfl rfl ?_
              refine skipU rfl rfl rfl ?_
              refine skipU rfl rfl rfl ?_
              refine skipU rfl rfl rfl ?_
              refine skipT rfl rfl rfl rfl ?_
              refine pu (ev tab rfl) rfl ?_
              refine WO.nil ?_
              refine qv1 rfl rfl rfl
            · skip
              refine goG rfl rfl ?_
              refine pu (ev tab rfl) rfl ?_
              refine goG rfl rfl ?_
              first | refine pu (ev tab rfl) rfl ?_ | refine pu (loadRow tab rfl rfl rfl rfl) rfl ?_ | refine pu (loadBox tab rfl rfl rfl rfl rfl) rfl ?_
              refine goG rfl rfl ?_
              refine pu (ev tab rfl) rfl ?_
              refine goG rfl rfl ?_
              refine pu (ev tab rfl) rfl ?_
              apply splitJ; (case hj => rfl); (case hl => rfl)
              · skip
                refine goG rfl rfl ?_
                refine pu (ev tab rfl) rfl ?_
                refine goG rfl rfl ?_
                first | refine pu (ev tab rfl) rfl ?_ | refine pu (loadRow tab rfl rfl rfl rfl) rfl ?_ | refine pu (loadBox tab rfl rfl rfl rfl rfl) rfl ?_
                refine goG rfl rfl ?_
                refine pu (ev tab rfl) rfl ?_
                refine goG rfl rfl ?_
                iterate 3 refine pu (ev tab rfl) rfl ?_
                apply splitJ; (case hj => rfl); (case hl => rfl)
                · skip
                  refine skipT rfl rfl rfl rfl ?_
                  refine skipT rfl rfl rfl rfl ?_
                  refine skipT rfl rfl rfl rfl ?_
                  refine skipT rfl rfl rfl rfl ?_
                  refine skipU rfl rfl rfl ?_
                  refine skipU rfl rfl rfl ?_
                  refine skipU rfl rfl rfl ?_
                  refine skipU rfl rfl rfl ?_
                  refine skipT rfl rfl rfl rfl ?_
                  refine pu (ev tab rfl) rfl ?_
                  refine WO.nil ?_
                  refine qv1 rfl rfl rfl
                · skip
                  refine goG rfl rfl ?_
                  refine pu (ev tab rfl) rfl ?_
                  refine goG rfl rfl ?_
                  first | refine pu (ev tab rfl) rfl ?_ | refine pu (loadRow tab rfl rfl rfl rfl) rfl ?_ | refine pu (loadBox tab rfl rfl rfl rfl rfl) rfl ?_
                  refine goG rfl rfl ?_
                  refine pu (ev tab rfl) rfl ?_
                  refine goG rfl rfl ?_
                  refine pu (ev tab rfl) rfl ?_
                  apply splitJ; (case hj => rfl); (case hl => rfl)
                  · skip
                    refine goG rfl rfl ?_
                    refine pu (ev tab rfl) rfl ?_
                    refine goG rfl rfl ?_
                    first | refine pu (ev tab rfl) rfl ?_ | refine pu (loadRow tab rfl rfl rfl rfl) rfl ?_ | refine pu (loadBox tab rfl rfl rfl rfl rfl) rfl ?_
                    refine goG rfl rfl ?_
                    refine pu (ev tab rfl) rfl ?_
                    refine goG rfl rfl ?_
                    refine pu (ev tab rfl) rfl ?_
                    refine goG rfl rfl ?_
                    iterate 2 refine pu (ev tab rfl) rfl ?_
                    refine WO.nil ?_
                    refine qv1 rfl rfl rfl
                  · skip
                    refine skipT rfl rfl rfl rfl ?_
                    refine skipT rfl rfl rfl rfl ?_
                    refine skipT rfl rfl rfl rfl ?_
                    refine skipT rfl rfl rfl rfl ?_
                    refine goG rfl rfl ?_
                    iterate 2 refine pu (ev tab rfl) rfl ?_
                    refine WO.nil ?_
                    refine qv1 rfl rfl rfl
              · skip
                refine skipT rfl rfl rfl rfl ?_
                refine skipT rfl rfl rfl rfl ?_
                refine skipT rfl rfl rfl rfl ?_
                refine goG rfl rfl ?_
                iterate 3 refine pu (ev tab rfl) rfl ?_
                refine goG rfl rfl ?_
                refine pu (ev tab rfl) rfl ?_
                refine goG rfl rfl ?_
                first | refine pu (ev tab rfl) rfl ?_ | refine pu (loadRow tab rfl rfl rfl rfl) rfl ?_ | refine pu (loadBox tab rfl rfl rfl rfl rfl) rfl ?_
                refine goG rfl rfl ?_
                refine pu (ev tab rfl) rfl ?_
                refine goG rfl rfl ?_
                refine pu (ev tab rfl) rfl ?_
                apply splitJ; (case hj => rfl); (case hl => rfl)
                · skip
                  refine goG rfl rfl ?_
                  refine pu (ev tab rfl) rfl ?_
                  refine goG rfl rfl ?_
                  first | refine pu (ev tab rfl) rfl ?_ | refine pu (loadRow tab rfl rfl rfl rfl) rfl ?_ | refine pu (loadBox tab rfl rfl rfl rfl rfl) rfl ?_
                  refine goG rfl rfl ?_
                  refine pu (ev tab rfl) rfl ?_
                  refine goG rfl rfl ?_
                  refine pu (ev tab rfl) rfl ?_
                  refine goG rfl rfl ?_
                  iterate 2 refine pu (ev tab rfl) rfl ?_
                  refine WO.nil ?_
                  refine qv1 rfl rfl rfl
                · skip
                  refine skipT rfl rfl rfl rfl ?_
                  refine skipT rfl rfl rfl rfl ?_
                  refine skipT rfl rfl rfl rfl ?_
                  refine skipT rfl rfl rfl rfl ?_
                  refine goG rfl rfl ?_
                  iterate 2 refine pu (ev tab rfl) rfl ?_
                  refine WO.nil ?_
                  refine qv1 rfl rfl rfl
          · skip
            refine skipT rfl rfl rfl rfl ?_
            refine skipT rfl rfl rfl rfl ?_
            refine skipT rfl rfl rfl rfl ?_
            refine goG rfl rfl ?_
            iterate 3 refine pu (ev tab rfl) rfl ?_
            refine goG rfl rfl ?_
            refine pu (ev tab rfl) rfl ?_
            refine goG rfl rfl ?_
            first | refine pu (ev tab rfl) rfl ?_ | refine pu (loadRow tab rfl rfl rfl rfl) rfl ?_ | refine pu (loadBox tab rfl rfl rfl rfl rfl) rfl ?_
            refine goG rfl rfl ?_
            refine pu (ev tab rfl) rfl ?_
            refine goG rfl rfl ?_
            refine pu (ev tab rfl) rfl ?_
            apply splitJ; (case hj => rfl); (case hl => rfl)
            · skip
              refine goG rfl rfl ?_
              refine pu (ev tab rfl) rfl ?_
              refine goG rfl rfl ?_
              first | refine pu (ev tab rfl) rfl ?_ | refine pu (loadRow tab rfl rfl rfl rfl) rfl ?_ | refine pu (loadBox tab rfl rfl rfl rfl rfl) rfl ?_
              refine goG rfl rfl ?_
              refine pu (ev tab rfl) rfl ?_
              refine goG rfl rfl ?_
              iterate 3 refine pu (ev tab rfl) rfl ?_
              apply splitJ; (case hj => rfl); (case hl => rfl)
              · skip
                refine skipT rfl rfl rfl rfl ?_
                refine skipT rfl rfl rfl rfl ?_
                refine skipT rfl rfl rfl rfl ?_
                refine skipT rfl rfl rfl rfl ?_
                refine skipU rfl rfl rfl ?_
                refine skipU rfl rfl rfl ?_
                refine skipU rfl rfl rfl ?_
                refine skipU rfl rfl rfl ?_
                refine skipT rfl rfl rfl rfl ?_
                refine pu (ev tab rfl) rfl ?_
                refine WO.nil ?_
                refine qv1 rfl rfl rfl
              · skip
                refine goG rfl rfl ?_
                refine pu (ev tab rfl) rfl ?_
                refine goG rfl rfl ?_
                first | refine pu (ev tab rfl) rfl ?_ | refine pu (loadRow tab rfl rfl rfl rfl) rfl ?_ | refine pu (loadBox tab rfl rfl rfl rfl rfl) rfl ?_
                refine goG rfl rfl ?_
                refine pu (ev tab rfl) rfl ?_
                refine goG rfl rfl ?_
                refine pu (ev tab rfl) rfl ?_
                apply splitJ; (case hj => rfl); (case hl => rfl)
                · skip
                  refine goG rfl rfl ?_
                  refine pu (ev tab rfl) rfl ?_
                  refine goG rfl rfl ?_
                  first | refine pu (ev tab rfl) rfl ?_ | refine pu (loadRow tab rfl rfl rfl rfl) rfl ?_ | refine pu (loadBox tab rfl rfl rfl rfl rfl) rfl ?_
                  refine goG rfl rfl ?_
                  refine pu (ev tab rfl) rfl ?_
                  refine goG rfl rfl ?_
                  refine pu (ev tab rfl) rfl ?_
                  refine goG rfl rfl ?_
                  iterate 2 refine pu (ev tab rfl) rfl ?_
                  refine WO.nil ?_
                  refine qv1 rfl rfl rfl
                · skip
                  refine skipT rfl rfl rfl rfl ?_
                  refine skipT rfl rfl rfl rfl ?_
                  refine skipT rfl rfl rfl rfl ?_
                  refine skipT rfl rfl rfl rfl ?_
                  refine goG rfl rfl ?_
                  iterate 2 refine pu (ev tab rfl) rfl ?_
                  refine WO.nil ?_
                  refine qv1 rfl rfl rfl
            · skip
              refine skipT rfl rfl rfl rfl ?_
              refine skipT rfl rfl rfl rfl ?_
              refine skipT rfl rfl rfl rfl ?_
              refine goG rfl rfl ?_
              iterate 3 refine pu (ev tab rfl) rfl ?_
              refine goG rfl rfl ?_
              refine pu (ev tab rfl) rfl ?_
              refine goG rfl rfl ?_
              first | refine pu (ev tab rfl) rfl ?_ | refine pu (loadRow tab rfl rfl rfl rfl) rfl ?_ | refine pu (loadBox tab rfl rfl rfl rfl rfl) rfl ?_
              refine goG rfl rfl ?_
              refine pu (ev tab rfl) rfl ?_
              refine goG rfl rfl ?_
              refine pu (ev tab rfl) rfl ?_
              apply splitJ; (case hj => rfl); (case hl => rfl)
              · skip
                refine goG rfl rfl ?_
                refine pu (ev tab rfl) rfl ?_
                refine goG rfl rfl ?_
                first | refine pu (ev tab rfl) rfl ?_ | refine pu (loadRow tab rfl rfl rfl rfl) rfl ?_ | refine pu (loadBox tab rfl rfl rfl rfl rfl) rfl ?_
                refine goG rfl rfl ?_
                refine pu (ev tab rfl) rfl ?_
                refine goG rfl rfl ?_
                refine pu (ev tab rfl) rfl ?_
                refine goG rfl rfl ?_
                iterate 2 refine pu (ev tab rfl) rfl ?_
                refine WO.nil ?_
                refine qv1 rfl rfl rfl
              · skip
                refine skipT rfl rfl rfl rfl ?_
                refine skipT rfl rfl rfl rfl ?_
                refine skipT rfl rfl rfl rfl ?_
                refine skipT rfl rfl rfl rfl ?_
                refine goG rfl rfl ?_
                iterate 2 refine pu (ev tab rfl) rfl ?_
                refine WO.nil ?_
                refine qv1 rfl rfl rfl
    refine qs ?_
    refine condK rfl (fun h62 => ?_) (fun h62 => ?_)
    · skip
      refine W.seq ?_
      refine W.region ?_
      refine pu (ev tab rfl) rfl ?_
      refine WO.nil ?_
      refine qs ?_
      refine W.ret ?_
      refine qsRet ?_
      refine QF.ret0 trivial rfl ?_
      simp only [norm, oneA]; grind [checkE]
    · skip
      refine W.skip ?_
      refine qs ?_
      refine W.seq ?_
      refine W.seq ?_
      refine W.region ?_
      first | refine pu (ev tab rfl) rfl ?_ | refine pu (loadRow tab rfl rfl rfl rfl) rfl ?_ | refine pu (loadBox tab rfl rfl rfl rfl rfl) rfl ?_
      first | refine pu (ev tab rfl) rfl ?_ | refine pu (loadRow tab rfl rfl rfl rfl) rfl ?_ | refine pu (loadBox tab rfl rfl rfl rfl rfl) rfl ?_
      refine pu (puCall rfl rfl rfl (names_fn ..) rfl) rfl ?_
      refine pu (ev tab rfl) rfl ?_
      refine WO.nil ?_
      refine qs ?_
      refine W.seq ?_
      refine W.region ?_
      iterate 2 refine pu (ev tab rfl) rfl ?_
      refine WO.nil ?_
      refine qs ?_
      refine condK rfl (fun h67 => ?_) (fun h67 => ?_)
      · skip
        refine W.seq ?_
        refine W.region ?_
        iterate 2 refine pu (ev tab rfl) rfl ?_
        refine WO.nil ?_
        refine qs ?_
        refine W.ret ?_
        refine qsRet ?_
        refine QF.ret0 trivial rfl ?_
        simp only [norm, oneA]; grind [checkE]
      · skip
        refine W.skip ?_
        refine qs ?_
        refine W.seq ?_
        refine W.block ?_
        refine W.seq ?_
        apply regionB; (case hb => rfl)
        · skip
          refine pu (ev tab rfl) rfl ?_
          first | refine pu (ev tab rfl) rfl ?_ | refine pu (loadRow tab rfl rfl rfl rfl) rfl ?_ | refine pu (loadBox tab rfl rfl rfl rfl rfl) rfl ?_
          refine pu (ev tab rfl) rfl ?_
          apply splitJ; (case hj => rfl); (case hl => rfl)
          · skip
            refine goG rfl rfl ?_
            refine pu (ev tab rfl) rfl ?_
            refine goG rfl rfl ?_
            first | refine pu (ev tab rfl) rfl ?_ | refine pu (loadRow tab rfl rfl rfl rfl) rfl ?_ | refine pu (loadBox tab rfl rfl rfl rfl rfl) rfl ?_
            refine goG rfl rfl ?_
            refine pu (ev tab rfl) rfl ?_
            refine goG rfl rfl ?_
            first | refine pu (ev tab rfl) rfl ?_ | refine pu (loadRow tab rfl rfl rfl rfl) rfl ?_ | refine pu (loadBox tab rfl rfl rfl rfl rfl) rfl ?_
            refine goG rfl rfl ?_
            refine pu (ev tab rfl) rfl ?_
            refine goG rfl rfl ?_
            refine pu (ev tab rfl) rfl ?_
            apply splitJ; (case hj => rfl); (case hl => rfl)
            · skip
              refine skipT rfl rfl rfl rfl ?_
              refine skipT rfl rfl rfl rfl ?_
              refine skipT rfl rfl rfl rfl ?_
              refine skipT rfl rfl rfl rfl ?_
              refine skipT rfl rfl rfl rfl ?_
              refine goG rfl rfl ?_
              iterate 3 refine pu (ev tab rfl) rfl ?_
              refine WO.nil ?_
              refine qv1 rfl rfl rfl
            · skip
              refine goG rfl rfl ?_
              refine pu (ev tab rfl) rfl ?_
              refine goG rfl rfl ?_
              first | refine pu (ev tab rfl) rfl ?_ | refine pu (loadRow tab rfl rfl rfl rfl) rfl ?_ | refine pu (loadBox tab rfl rfl rfl rfl rfl) rfl ?_
              refine goG rfl rfl ?_
              refine pu (ev tab rfl) rfl ?_
              refine goG rfl rfl ?_
              first | refine pu (ev tab rfl) rfl ?_ | refine pu (loadRow tab rfl rfl rfl rfl) rfl ?_ | refine pu (loadBox tab rfl rfl rfl rfl rfl) rfl ?_
              refine goG rfl rfl ?_
              refine pu (ev tab rfl) rfl ?_
              refine goG rfl rfl ?_
              iterate 3 refine pu (ev tab rfl) rfl ?_
              refine WO.nil ?_
              refine qv1 rfl rfl rfl
          · skip
            refine skipT rfl rfl rfl rfl ?_
            refine skipT rfl rfl rfl rfl ?_
            refine skipT rfl rfl rfl rfl ?_
            refine skipT rfl rfl rfl rfl ?_
            refine skipT rfl rfl rfl rfl ?_
            refine skipT rfl rfl rfl rfl ?_
            refine skipU rfl rfl rfl ?_
            refine skipU rfl rfl rfl ?_
            refine skipU rfl rfl rfl ?_
            refine skipU rfl rfl rfl ?_
            refine skipU rfl rfl rfl ?_
            refine skipT rfl rfl rfl rfl ?_
            iterate 2 refine pu (ev tab rfl) rfl ?_
            refine WO.nil ?_
            refine qv1 rfl rfl rfl
        refine qs ?_
        refine condK rfl (fun h69 => ?_) (fun h69 => ?_)
        · skip
          refine W.seq ?_
          refine W.region ?_
          refine pu (ev tab rfl) rfl ?_
          refine WO.nil ?_
          refine qs ?_
          refine W.ret ?_
          refine qbRet ?_
          refine qsRet ?_
          refine QF.ret0 trivial rfl ?_
          simp only [norm, oneA]; grind [checkE]
        · skip
          refine W.seq ?_
          apply regionB; (case hb => rfl)
          · skip
            refine pu (ev tab rfl) rfl ?_
            first | refine pu (ev tab rfl) rfl ?_ | refine pu (loadRow tab rfl rfl rfl rfl) rfl ?_ | refine pu (loadBox tab rfl rfl rfl rfl rfl) rfl ?_
            iterate 2 refine pu (ev tab rfl) rfl ?_
            apply splitJ; (case hj => rfl); (case hl => rfl)
            · skip
              refine goG rfl rfl ?_
              refine pu (ev tab rfl) rfl ?_
              refine goG rfl rfl ?_
              first | refine pu (ev tab rfl) rfl ?_ | refine pu (loadRow tab rfl rfl rfl rfl) rfl ?_ | refine pu (loadBox tab rfl rfl rfl rfl rfl) rfl ?_
              refine goG rfl rfl ?_
              iterate 3 refine pu (ev tab rfl) rfl ?_
              apply splitJ; (case hj => rfl); (case hl => rfl)
              · skip
                refine goG rfl rfl ?_
                refine pu (ev tab rfl) rfl ?_
                refine goG rfl rfl ?_
                first | refine pu (ev tab rfl) rfl ?_ | refine pu (loadRow tab rfl rfl rfl rfl) rfl ?_ | refine pu (loadBox tab rfl rfl rfl rfl rfl) rfl ?_
                refine goG rfl rfl ?_
                iterate 3 refine pu (ev tab rfl) rfl ?_
                refine WO.nil ?_
                refine qv1 rfl rfl rfl
              · skip
                refine skipT rfl rfl rfl rfl ?_
                refine skipT rfl rfl rfl rfl ?_
                refine skipT rfl rfl rfl rfl ?_
                iterate 2 refine pu (ev tab rfl) rfl ?_
                refine WO.nil ?_
                refine qv1 rfl rfl rfl
            · skip
              refine skipT rfl rfl rfl rfl ?_
              refine skipT rfl rfl rfl rfl ?_
              refine skipT rfl rfl rfl rfl ?_
              iterate 2 refine pu (ev tab rfl) rfl ?_
              refine skipT rfl rfl rfl rfl ?_
              refine skipT rfl rfl rfl rfl ?_
              refine skipT rfl rfl rfl rfl ?_
              iterate 2 refine pu (ev tab rfl) rfl ?_
              refine WO.nil ?_
              refine qv1 rfl rfl rfl
          refine qs ?_
          refine condK rfl (fun h86 => ?_) (fun h86 => ?_)
          · skip
            refine W.seq ?_
            refine W.region ?_
            refine pu (ev tab rfl) rfl ?_
            refine WO.nil ?_
            refine qs ?_
            refine W.ret ?_
            refine qbRet ?_
            refine qsRet ?_
            refine QF.ret0 trivial rfl ?_
            simp only [norm, oneA]; grind [checkE]
          · skip
            refine W.seq ?_
            apply regionB; (case hb => rfl)
            · skip
              refine pu (ev tab rfl) rfl ?_
              first | refine pu (ev tab rfl) rfl ?_ | refine pu (loadRow tab rfl rfl rfl rfl) rfl ?_ | refine pu (loadBox tab rfl rfl rfl rfl rfl) rfl ?_
              refine pu (ev tab rfl) rfl ?_
              apply splitJ; (case hj => rfl); (case hl => rfl)
              · skip
                refine goG rfl rfl ?_
                refine pu (ev tab rfl) rfl ?_
                refine goG rfl rfl ?_
                first | refine pu (ev tab rfl) rfl ?_ | refine pu (loadRow tab rfl rfl rfl rfl) rfl ?_ | refine pu (loadBox tab rfl rfl rfl rfl rfl) rfl ?_
                refine goG rfl rfl ?_
                refine pu (ev tab rfl) rfl ?_
                refine goG rfl rfl ?_
                first | refine pu (ev tab rfl) rfl ?_ | refine pu (loadRow tab rfl rfl rfl rfl) rfl ?_ | refine pu (loadBox tab rfl rfl rfl rfl rfl) rfl ?_
                refine goG rfl rfl ?_
                refine pu (ev tab rfl) rfl ?_
                refine goG rfl rfl ?_
                refine pu (ev tab rfl) rfl ?_
                apply splitJ; (case hj => rfl); (case hl => rfl)
                · skip
                  refine skipT rfl rfl rfl rfl ?_
                  refine skipT rfl rfl rfl rfl ?_
                  refine skipT rfl rfl rfl rfl ?_
                  refine skipT rfl rfl rfl rfl ?_
                  refine skipT rfl rfl rfl rfl ?_
                  refine goG rfl rfl ?_
                  iterate 3 refine pu (ev tab rfl) rfl ?_
                  refine goG rfl rfl ?_
                  refine pu (ev tab rfl) rfl ?_
                  refine goG rfl rfl ?_
                  first | refine pu (ev tab rfl) rfl ?_ | refine pu (loadRow tab rfl rfl rfl rfl) rfl ?_ | refine pu (loadBox tab rfl rfl rfl rfl rfl) rfl ?_
                  refine goG rfl rfl ?_
                  refine pu (ev tab rfl) rfl ?_
                  refine goG rfl rfl ?_
                  refine pu (ev tab rfl) rfl ?_
                  apply splitJ; (case hj => rfl); (case hl => rfl)
                  · skip
                    refine skipT rfl rfl rfl rfl ?_
                    refine skipT rfl rfl rfl rfl ?_
                    refine skipT rfl rfl rfl rfl ?_
                    refine goG rfl rfl ?_
                    iterate 3 refine pu (ev tab rfl) rfl ?_
                    refine WO.nil ?_
                    refine qv1 rfl rfl rfl
                  · skip
                    refine goG rfl rfl ?_
                    refine pu (ev tab rfl) rfl ?_
                    refine goG rfl rfl ?_
                    first | refine pu (ev tab rfl) rfl ?_ | refine pu (loadRow tab rfl rfl rfl rfl) rfl ?_ | refine pu (loadBox tab rfl rfl rfl rfl rfl) rfl ?_
                    refine goG rfl rfl ?_
                    refine pu (ev tab rfl) rfl ?_
                    refine goG rfl rfl ?_
                    iterate 3 refine pu (ev tab rfl) rfl ?_
                    refine WO.nil ?_
                    refine qv1 rfl rfl rfl
                · skip
                  refine goG rfl rfl ?_
                  refine pu (ev tab rfl) rfl ?_
                  refine goG rfl rfl ?_
                  first | refine pu (ev tab rfl) rfl ?_ | refine pu (loadRow tab rfl rfl rfl rfl) rfl ?_ | refine pu (loadBox tab rfl rfl rfl rfl rfl) rfl ?_
                  refine goG rfl rfl ?_
                  refine pu (ev tab rfl) rfl ?_
                  refine goG rfl rfl ?_
                  first | refine pu (ev tab rfl) rfl ?_ | refine pu (loadRow tab rfl rfl rfl rfl) rfl ?_ | refine pu (loadBox tab rfl rfl rfl rfl rfl) rfl ?_
                  refine goG rfl rfl ?_
                  refine pu (ev tab rfl) rfl ?_
                  refine goG rfl rfl ?_
                  iterate 3 refine pu (ev tab rfl) rfl ?_
                  apply splitJ; (case hj => rfl); (case hl => rfl)
                  · skip
                    refine goG rfl rfl ?_
                    refine pu (ev tab rfl) rfl ?_
                    refine goG rfl rfl ?_
                    first | refine pu (ev tab rfl) rfl ?_ | refine pu (loadRow tab rfl rfl rfl rfl) rfl ?_ | refine pu (loadBox tab rfl rfl rfl rfl rfl) rfl ?_
                    refine goG rfl rfl ?_
                    refine pu (ev tab rfl) rfl ?_
                    refine goG rfl rfl ?_
                    refine pu (ev tab rfl) rfl ?_
                    apply splitJ; (case hj => rfl); (case hl => rfl)
                    · skip
                      refine skipT rfl rfl rfl rfl ?_
                      refine skipT rfl rfl rfl rfl ?_
                      refine skipT rfl rfl rfl rfl ?_
                      refine goG rfl rfl ?_
                      iterate 3 refine pu (ev tab rfl) rfl ?_
                      refine WO.nil ?_
                      refine qv1 rfl rfl rfl
                    · skip
                      refine goG rfl rfl ?_
                      refine pu (ev tab rfl) rfl ?_
                      refine goG rfl rfl ?_
                      first | refine pu (ev tab rfl) rfl ?_ | refine pu (loadRow tab rfl rfl rfl rfl) rfl ?_ | refine pu (loadBox tab rfl rfl rfl rfl rfl) rfl ?_
                      refine goG rfl rfl ?_
                      refine pu (ev tab rfl) rfl ?_
                      refine goG rfl rfl ?_
                      iterate 3 refine pu (ev tab rfl) rfl ?_
                      refine WO.nil ?_
                      refine qv1 rfl rfl rfl
                  · skip
                    refine skipT rfl rfl rfl rfl ?_
                    refine skipT rfl rfl rfl rfl ?_
                    refine skipT rfl rfl rfl rfl ?_
                    refine skipT rfl rfl rfl rfl ?_
                    refine skipU rfl rfl rfl ?_
                    refine skipU rfl rfl rfl ?_
                    refine skipU rfl rfl rfl ?_
                    refine skipT rfl rfl rfl rfl ?_
                    iterate 2 refine pu (ev tab rfl) rfl ?_
                    refine WO.nil ?_
                    refine qv1 rfl rfl rfl
              · skip
                refine skipT rfl rfl rfl rfl ?_
                refine skipT rfl rfl rfl rfl ?_
                refine skipT rfl rfl rfl rfl ?_
                refine skipT rfl rfl rfl rfl ?_
                refine skipT rfl rfl rfl rfl ?_
                refine skipT rfl rfl rfl rfl ?_
                refine skipU rfl rfl rfl ?_
                refine skipU rfl rfl rfl ?_
                refine skipU rfl rfl rfl ?_
                refine skipU rfl rfl rfl ?_
                refine skipU rfl rfl rfl ?_
                refine skipT rfl rfl rfl rfl ?_
                iterate 2 refine pu (ev tab rfl) rfl ?_
                refine skipT rfl rfl rfl rfl ?_
                refine skipT rfl rfl rfl rfl ?_
                refine skipT rfl rfl rfl rfl ?_
                refine skipT rfl rfl rfl rfl ?_
                refine skipU rfl rfl rfl ?_
                refine skipU rfl rfl rfl ?_
                refine skipU rfl rfl rfl ?_
                refine skipT rfl rfl rfl rfl ?_
                iterate 2 refine pu (ev tab rfl) rfl ?_
                refine WO.nil ?_
                refine qv1 rfl rfl rfl
            refine qs ?_
            refine condK rfl (fun h100 => ?_) (fun h100 => ?_)
            · skip
              refine W.seq ?_
              refine W.region ?_
              refine pu (ev tab rfl) rfl ?_
              refine WO.nil ?_
              refine qs ?_
              refine W.ret ?_
              refine qbRet ?_
              refine qsRet ?_
              refine QF.ret0 trivial rfl ?_
              simp only [norm, oneA]; grind [checkE]
            · skip
              refine W.skip ?_
              refine qbN ?_
              refine qs ?_
              refine W.seq ?_
              refine W.region ?_
              refine pu (ev tab rfl) rfl ?_
              refine WO.nil ?_
              refine qs ?_
              refine W.ret ?_
              refine QF.ret0 trivial rfl ?_
              simp only [norm, oneA]; grind [checkE]
theorem rcheck_fn (e : Ev) : Does Tryd.prog 12 [.ag e.c] (.d (.v (.int .i64 (checkE e)))) 0 := by
  rw [← checkR_eq]
  refine Does.of_W (n := 80) (ts := [2]) Tryd.func12 (by kernel_rfl) rfl Tryd.ntmps12 Tryd.results12 rfl rfl fun C hC hG => ?_
  refine W.seq ?_
  refine W.region ?_
  refine boxR rfl rfl rfl ?_
  refine pu (ev tab rfl) rfl ?_
  refine WO.nil ?_
  refine qs ?_
  refine W.seq ?_
  refine W.seq ?_
  apply regionB; (case hb => rfl)
  · skip
    refine pu (ev tab rfl) rfl ?_
    first | refine pu (ev tab rfl) rfl ?_ | refine pu (loadRow tab rfl rfl rfl rfl) rfl ?_ | refine pu (loadBox tab rfl rfl rfl rfl rfl) rfl ?_
    iterate 2 refine pu (ev tab rfl) rfl ?_
    apply splitJ; (case hj => rfl); (case hl => rfl)
    · skip
      refine skipT rfl rfl rfl rfl ?_
      refine skipT rfl rfl rfl rfl ?_
      refine skipT rfl rfl rfl rfl ?_
      refine pu (ev tab rfl) rfl ?_
      refine WO.nil ?_
      refine qv1 rfl rfl rfl
    · skip
      refine goG rfl rfl ?_
      refine pu (ev tab rfl) rfl ?_
      refine goG rfl rfl ?_
      first | refine pu (ev tab rfl) rfl ?_ | refine pu (loadRow tab rfl rfl rfl rfl) rfl ?_ | refine pu (loadBox tab rfl rfl rfl rfl rfl) rfl ?_
      refine goG rfl rfl ?_
      iterate 2 refine pu (ev tab rfl) rfl ?_
      refine WO.nil ?_
      refine qv1 rfl rfl rfl
  refine qs ?_
  refine condK rfl (fun h15 => ?_) (fun h15 => ?_)
  · skip
    refine W.seq ?_
    refine W.region ?_
    refine pu (ev tab rfl) rfl ?_
    refine WO.nil ?_
    refine qs ?_
    refine W.ret ?_
    refine qsRet ?_
    refine QF.ret0 trivial rfl ?_
    simp only [norm, oneA]; grind [checkR]
  · skip
    refine W.skip ?_
    refine qs ?_
    refine W.seq ?_
    refine W.seq ?_
    apply regionB; (case hb => rfl)
    · skip
      refine pu (ev tab rfl) rfl ?_
      first | refine pu (ev tab rfl) rfl ?_ | refine pu (loadRow tab rfl rfl rfl rfl) rfl ?_ | refine pu (loadBox tab rfl rfl rfl rfl rfl) rfl ?_
      iterate 2 refine pu (ev tab rfl) rfl ?_
      apply splitJ; (case hj => rfl); (case hl => rfl)
      · skip
        refine skipT rfl rfl rfl rfl ?_
        refine skipT rfl rfl rfl rfl ?_
        refine skipT rfl rfl rfl rfl ?_
        refine pu (ev tab rfl) rfl ?_
        refine WO.nil ?_
        refine qv1 rfl rfl rfl
      · skip
        refine goG rfl rfl ?_
        refine pu (ev tab rfl) rfl ?_
        refine goG rfl rfl ?_
        first | refine pu (ev tab rfl) rfl ?_ | refine pu (loadRow tab rfl rfl rfl rfl) rfl ?_ | refine pu (loadBox tab rfl rfl rfl rfl rfl) rfl ?_
        refine goG rfl rfl ?_
        iterate 2 refine pu (ev tab rfl) rfl ?_
        refine WO.nil ?_
        refine qv1 rfl rfl rfl
    refine qs ?_
    refine condK rfl (fun h23 => ?_) (fun h23 => ?_)
    · skip
      refine W.seq ?_
      refine W.region ?_
      refine pu (ev tab rfl) rfl ?_
      refine WO.nil ?_
      refine qs ?_
      refine W.ret ?_
      refine qsRet ?_
      refine QF.ret0 trivial rfl ?_
      simp only [norm, oneA]; grind [checkR]
    · skip
      refine W.skip ?_
      refine qs ?_
      refine W.seq ?_
      refine W.region ?_
      refine pu (ev tab rfl) rfl ?_
      first | refine pu (ev tab rfl) rfl ?_ | refine pu (loadRow tab rfl rfl rfl rfl) rfl ?_ | refine pu (loadBox tab rfl rfl rfl rfl rfl) rfl ?_
      refine pu (puCall rfl rfl rfl (uses_fn2 ..) rfl) rfl ?_
      iterate 9 refine pu (ev tab rfl) rfl ?_
      refine WO.nil ?_
      refine qs ?_
      refine W.seq ?_
      refine W.seq ?_
      apply regionB; (case hb => rfl)
      · skip
        iterate 3 refine pu (ev tab rfl) rfl ?_
        apply splitJ; (case hj => rfl); (case hl => rfl)
        · skip
          refine goG rfl rfl ?_
          refine pu (ev tab rfl) rfl ?_
          refine goG rfl rfl ?_
          first | refine pu (ev tab rfl) rfl ?_ | refine pu (loadRow tab rfl rfl rfl rfl) rfl ?_ | refine pu (loadBox tab rfl rfl rfl rfl rfl) rfl ?_
          refine goG rfl rfl ?_
          iterate 3 refine pu (ev tab rfl) rfl ?_
          apply splitJ; (case hj => rfl); (case hl => rfl)
          · skip
            refine skipT rfl rfl rfl rfl ?_
            refine skipT rfl rfl rfl rfl ?_
            refine skipT rfl rfl rfl rfl ?_
            refine skipU rfl rfl rfl ?_
            refine skipU rfl rfl rfl ?_
            refine skipU rfl rfl rfl ?_
            refine skipT rfl rfl rfl rfl ?_
            iterate 2 refine pu (ev tab rfl) rfl ?_
            refine skipT rfl rfl rfl rfl ?_
            refine skipT rfl rfl rfl rfl ?_
            refine skipT rfl rfl rfl rfl ?_
            refine skipU rfl rfl rfl ?_
            refine skipU rfl rfl rfl ?_
            refine skipU rfl rfl rfl ?_
            refine skipT rfl rfl rfl rfl ?_
            iterate 2 refine pu (ev tab rfl) rfl ?_
            refine skipT rfl rfl rfl rfl ?_
            refine skipT rfl rfl rfl rfl ?_
            refine skipT rfl rfl rfl rfl ?_
            refine skipU rfl rfl rfl ?_
            refine skipU rfl rfl rfl ?_
            refine skipU rfl rfl rfl ?_
            refine skipU rfl rfl rfl ?_
            refine skipT rfl rfl rfl rfl ?_
            refine pu (ev tab rfl) rfl ?_
            refine WO.nil ?_
            refine qv1 rfl rfl rfl
          · skip
            refine goG rfl rfl ?_
            refine pu (ev tab rfl) rfl ?_
            refine goG rfl rfl ?_
            refine pu (ev tab rfl) rfl ?_
            refine goG rfl rfl ?_
            refine pu (ev tab rfl) rfl ?_
            apply splitJ; (case hj => rfl); (case hl => rfl)
            · skip
              refine goG rfl rfl ?_
              refine pu (ev tab rfl) rfl ?_
              refine goG rfl rfl ?_
              first | refine pu (ev tab rfl) rfl ?_ | refine pu (loadRow tab rfl rfl rfl rfl) rfl ?_ | refine pu (loadBox tab rfl rfl rfl rfl rfl) rfl ?_
              refine goG rfl rfl ?_
              refine pu (ev tab rfl) rfl ?_
              refine goG rfl rfl ?_
              iterate 3 refine pu (ev tab rfl) rfl ?_
              apply splitJ; (case hj => rfl); (case hl => rfl)
              · skip
                refine skipT rfl rfl rfl rfl ?_
                refine skipT rfl rfl rfl rfl ?_
                refine skipT rfl rfl rfl rfl ?_
                refine skipU rfl rfl rfl ?_
                refine skipU rfl rfl rfl ?_
                refine skipU rfl rfl rfl ?_
                refine skipT rfl rfl rfl rfl ?_
                iterate 2 refine pu (ev tab rfl) rfl ?_
                refine skipT rfl rfl rfl rfl ?_
                refine skipT rfl rfl rfl rfl ?_
                refine skipT rfl rfl rfl rfl ?_
                refine skipU rfl rfl rfl ?_
                refine skipU rfl rfl rfl ?_
                refine skipU rfl rfl rfl ?_
                refine skipU rfl rfl rfl ?_
                refine skipT rfl rfl rfl rfl ?_
                refine pu (ev tab rfl) rfl ?_
                refine WO.nil ?_
                refine qv1 rfl rfl rfl
              · skip
                refine goG rfl rfl ?_
                refine pu (ev tab rfl) rfl ?_
                refine goG rfl rfl ?_
                refine pu (ev tab rfl) rfl ?_
                refine goG rfl rfl ?_
                refine pu (ev tab rfl) rfl ?_
                apply splitJ; (case hj => rfl); (case hl => rfl)
                · skip
                  refine goG rfl rfl ?_
                  refine pu (ev tab rfl) rfl ?_
                  refine goG rfl rfl ?_
                  first | refine pu (ev tab rfl) rfl ?_ | refine pu (loadRow tab rfl rfl rfl rfl) rfl ?_ | refine pu (loadBox tab rfl rfl rfl rfl rfl) rfl ?_
                  refine goG rfl rfl ?_
                  refine pu (ev tab rfl) rfl ?_
                  refine goG rfl rfl ?_
                  iterate 3 refine pu (ev tab rfl) rfl ?_
                  apply splitJ; (case hj => rfl); (case hl => rfl)
                  · skip
                    refine skipT rfl rfl rfl rfl ?_
                    refine skipT rfl rfl rfl rfl ?_
                    refine skipT rfl rfl rfl rfl ?_
                    refine skipU rfl rfl rfl ?_
                    refine skipU rfl rfl rfl ?_
                    refine skipU rfl rfl rfl ?_
                    refine skipU rfl rfl rfl ?_
                    refine skipT rfl rfl rfl rfl ?_
                    refine pu (ev tab rfl) rfl ?_
                    refine WO.nil ?_
                    refine qv1 rfl rfl rfl
                  · skip
                    refine goG rfl rfl ?_
                    refine pu (ev tab rfl) rfl ?_
                    refine goG rfl rfl ?_
                    refine pu (ev tab rfl) rfl ?_
                    refine goG rfl rfl ?_
                    refine pu (ev tab rfl) rfl ?_
                    apply splitJ; (case hj => rfl); (case hl => rfl)
                    · skip
                      refine goG rfl rfl ?_
                      refine pu (ev tab rfl) rfl ?_
                      refine goG rfl rfl ?_
                      first | refine pu (ev tab rfl) rfl ?_ | refine pu (loadRow tab rfl rfl rfl rfl) rfl ?_ | refine pu (loadBox tab rfl rfl rfl rfl rfl) rfl ?_
                      refine goG rfl rfl ?_
                      refine pu (ev tab rfl) rfl ?_
                      refine goG rfl rfl ?_
                      refine pu (ev tab rfl) rfl ?_
                      refine goG rfl rfl ?_
                      iterate 2 refine pu (ev tab rfl) rfl ?_
                      refine WO.nil ?_
                      refine qv1 rfl rfl rfl
                    · skip
                      refine skipT rfl rfl rfl rfl ?_
                      refine skipT rfl rfl rfl rfl ?_
                      refine skipT rfl rfl rfl rfl ?_
                      refine skipT rfl rfl rfl rfl ?_
                      refine goG rfl rfl ?_
                      iterate 2 refine pu (ev tab rfl) rfl ?_
                      refine WO.nil ?_
                      refine qv1 rfl rfl rfl
                · skip
                  refine skipT rfl rfl rfl rfl ?_
                  refine skipT rfl rfl rfl rfl ?_
                  refine skipT rfl rfl rfl rfl ?_
                  refine goG rfl rfl ?_
                  iterate 3 refine pu (ev tab rfl) rfl ?_
                  refine goG rfl rfl ?_
                  refine pu (ev tab rfl) rfl ?_
                  refine goG rfl rfl ?_
                  refine pu (ev tab rfl) rfl ?_
                  refine goG rfl rfl ?_
                  refine pu (ev tab rfl) rfl ?_
                  apply splitJ; (case hj => rfl); (case hl => rfl)
                  · skip
                    refine goG rfl rfl ?_
                    refine pu (ev tab rfl) rfl ?_
                    refine goG rfl rfl ?_
                    first | refine pu (ev tab rfl) rfl ?_ | refine pu (loadRow tab rfl rfl rfl rfl) rfl ?_ | refine pu (loadBox tab rfl rfl rfl rfl rfl) rfl ?_
                    refine goG rfl rfl ?_
                    refine pu (ev tab rfl) rfl ?_
                    refine goG rfl rfl ?_
                    refine pu (ev tab rfl) rfl ?_
                    refine goG rfl rfl ?_
                    iterate 2 refine pu (ev tab rfl) rfl ?_
                    refine WO.nil ?_
                    refine qv1 rfl rfl rfl
                  · skip
                    refine skipT rfl rfl rfl rfl ?_
                    refine skipT rfl rfl rfl rfl ?_
                    refine skipT rfl rfl rfl rfl ?_
                    refine skipT rfl rfl rfl rfl ?_
                    refine goG rfl rfl ?_
                    iterate 2 refine pu (ev tab rfl) rfl ?_
                    refine WO.nil ?_
                    refine qv1 rfl rfl rfl
            · skip
              refine skipT rfl rfl rfl rfl ?_
              refine skipT rfl rfl rfl rfl ?_
              refine skipT rfl rfl rfl rfl ?_
              refine goG rfl rfl ?_
              iterate 3 refine pu (ev tab rfl) rfl ?_
              refine goG rfl rfl ?_
              refine pu (ev tab rfl) rfl ?_
              refine goG rfl rfl ?_
              refine pu (ev tab rfl) rfl ?_
              refine goG rfl rfl ?_
              refine pu (ev tab rfl) rfl ?_
              apply splitJ; (case hj => rfl); (case hl => rfl)
              · skip
                refine goG rfl rfl ?_
                refine pu (ev tab rfl) rfl ?_
                refine goG rfl rfl ?_
                first | refine pu (ev tab rfl) rfl ?_ | refine pu (loadRow tab rfl rfl rfl rfl) rfl ?_ | refine pu (loadBox tab rfl rfl rfl rfl rfl) rfl ?_
                refine goG rfl rfl ?_
                refine pu (ev tab rfl) rfl ?_
                refine goG rfl rfl ?_
                iterate 3 refine pu (ev tab rfl) rfl ?_
                apply splitJ; (case hj => rfl); (case hl => rfl)
                · skip
                  refine skipT rfl rfl rfl rfl ?_
                  refine skipT rfl rfl rfl rfl ?_
                  refine skipT rfl rfl rfl rfl ?_
                  refine skipU rfl rfl rfl ?_
                  refine skipU rfl rfl rfl ?_
                  refine skipU rfl rfl rfl ?_
                  refine skipU rfl rfl rfl ?_
                  refine skipT rfl rfl rfl rfl ?_
                  refine pu (ev tab rfl) rfl ?_
                  refine WO.nil ?_
                  refine qv1 rfl rfl rfl
                · skip
                  refine goG rfl rfl ?_
                  refine pu (ev tab rfl) rfl ?_
                  refine goG rfl rfl ?_
                  refine pu (ev tab rfl) rfl ?_
                  refine goG rfl rfl ?_
                  refine pu (ev tab rfl) rfl ?_
                  apply splitJ; (case hj => rfl); (case hl => rfl)
                  · skip
                    refine goG rfl rfl ?_
                    refine pu (ev tab rfl) rfl ?_
                    refine goG rfl rfl ?_
                    first | refine pu (ev tab rfl) rfl ?_ | refine pu (loadRow tab rfl rfl rfl rfl) rfl ?_ | refine pu (loadBox tab rfl rfl rfl rfl rfl) rfl ?_
                    refine goG rfl rfl ?_
                    refine pu (ev tab rfl) rfl ?_
                    refine goG rfl rfl ?_
                    refine pu (ev tab rfl) rfl ?_
                    refine goG rfl rfl ?_
                    iterate 2 refine pu (ev tab rfl) rfl ?_
                    refine WO.nil ?_
                    refine qv1 rfl rfl rfl
                  · skip
                    refine skipT rfl rfl rfl rfl ?_
                    refine skipT rfl rfl rfl rfl ?_
                    refine skipT rfl rfl rfl rfl ?_
                    refine skipT rfl rfl rfl rfl ?_
                    refine goG rfl rfl ?_
                    iterate 2 refine pu (ev tab rfl) rfl ?_
                    refine WO.nil ?_
                    refine qv1 rfl rfl rfl
              · skip
                refine skipT rfl rfl rfl rfl ?_
                refine skipT rfl rfl rfl rfl ?_
                refine skipT rfl rfl rfl rfl ?_
                refine goG rfl rfl ?_
                iterate 3 refine pu (ev tab rfl) rfl ?_
                refine goG rfl rfl ?_
                refine pu (ev tab rfl) rfl ?_
                refine goG rfl rfl ?_
                refine pu (ev tab rfl) rfl ?_
                refine goG rfl rfl ?_
                refine pu (ev tab rfl) rfl ?_
                apply splitJ; (case hj => rfl); (case hl => rfl)
                · skip
                  refine goG rfl rfl ?_
                  refine pu (ev tab rfl) rfl ?_
                  refine goG rfl rfl ?_
                  first | refine pu (ev tab rfl) rfl ?_ | refine pu (loadRow tab rfl rfl rfl rfl) rfl ?_ | refine pu (loadBox tab rfl rfl rfl rfl rfl) rfl ?_
                  refine goG rfl rfl ?_
                  refine pu (ev tab rfl) rfl ?_
                  refine goG rfl rfl ?_
                  refine pu (ev tab rfl) rfl ?_
                  refine goG rfl rfl ?_
                  iterate 2 refine pu (ev tab rfl) rfl ?_
                  refine WO.nil ?_
                  refine qv1 rfl rfl rfl
                · skip
                  refine skipT rfl rfl rfl rfl ?_
                  refine skipT rfl rfl rfl rfl ?_
                  refine skipT rfl rfl rfl rfl ?_
                  refine skipT rfl rfl rfl rfl ?_
                  refine goG rfl rfl ?_
                  iterate 2 refine pu (ev tab rfl) rfl ?_
                  refine WO.nil ?_
                  refine qv1 rfl rfl rfl
        · skip
          refine skipT rfl rfl rfl rfl ?_
          refine skipT rfl rfl rfl rfl ?_
          refine skipT rfl rfl rfl rfl ?_
          iterate 2 refine pu (ev tab rfl) rfl ?_
          refine goG rfl rfl ?_
          refine pu (ev tab rfl) rfl ?_
          refine goG rfl rfl ?_
          refine pu (ev tab rfl) rfl ?_
          refine goG rfl rfl ?_
          refine pu (ev tab rfl) rfl ?_
          apply splitJ; (case hj => rfl); (case hl => rfl)
          · skip
            refine goG rfl rfl ?_
            refine pu (ev tab rfl) rfl ?_
            refine goG rfl rfl ?_
            first | refine pu (ev tab rfl) rfl ?_ | refine pu (loadRow tab rfl rfl rfl rfl) rfl ?_ | refine pu (loadBox tab rfl rfl rfl rfl rfl) rfl ?_
            refine goG rfl rfl ?_
            refine pu (ev tab rfl) rfl ?_
            refine goG rfl rfl ?_
            iterate 3 refine pu (ev tab rfl) rfl ?_
            apply splitJ; (case hj => rfl); (case hl => rfl)
            · skip
              refine skipT rfl rfl rfl rfl ?_
              refine skipT rfl rfl rfl rfl ?_
              refine skipT rfl rfl rfl rfl ?_
              refine skipU rfl rfl rfl ?_
              refine skipU rfl rfl rfl ?_
              refine skipU rfl rfl rfl ?_
              refine skipT rfl rfl rfl rfl ?_
              iterate 2 refine pu (ev tab rfl) rfl ?_
              refine skipT rfl rfl rfl rfl ?_
              refine skipT rfl rfl rfl rfl ?_
              refine skipT rfl rfl rfl rfl ?_
              refine skipU rfl rfl rfl ?_
              refine skipU rfl rfl rfl ?_
              refine skipU rfl rfl rfl ?_
              refine skipU rfl rfl rfl ?_
              refine skipT rfl rfl rfl rfl ?_
              refine pu (ev tab rfl) rfl ?_
              refine WO.nil ?_
              refine qv1 rfl rfl rfl
            · skip
              refine goG rfl rfl ?_
              refine pu (ev tab rfl) rfl ?_
              refine goG rfl rfl ?_
              refine pu (ev tab rfl) rfl ?_
              refine goG rfl rfl ?_
              refine pu (ev tab rfl) rfl ?_
              apply splitJ; (case hj => rfl); (case hl => rfl)
              · skip
                refine goG rfl rfl ?_
                refine pu (ev tab rfl) rfl ?_
                refine goG rfl rfl ?_
                first | refine pu (ev tab rfl) rfl ?_ | refine pu (loadRow tab rfl rfl rfl rfl) rfl ?_ | refine pu (loadBox tab rfl rfl rfl rfl rfl) rfl ?_
                refine goG rfl rfl ?_
                refine pu (ev tab rfl) rfl ?_
                refine goG rfl rfl ?_
                iterate 3 refine pu (ev tab rfl) rfl ?_
                apply splitJ; (case hj => rfl); (case hl => rfl)
                · skip
                  refine skipT rfl rfl rfl rfl ?_
                  refine skipT rfl rfl rfl rfl ?_
                  refine skipT rfl rfl rfl rfl ?_
                  refine skipU rfl rfl rfl ?_
                  refine skipU rfl rfl rfl ?_
                  refine skipU rfl rfl rfl ?_
                  refine skipU rfl rfl rfl ?_
                  refine skipT rfl rfl rfl rfl ?_
                  refine pu (ev tab rfl) rfl ?_
                  refine WO.nil ?_
                  refine qv1 rfl rfl rfl
                · skip
                  refine goG rfl rfl ?_
                  refine pu (ev tab rfl) rfl ?_
                  refine goG rfl rfl ?_
                  refine pu (ev tab rfl) rfl ?_
                  refine goG rfl rfl ?_
                  refine pu (ev tab rfl) rfl ?_
                  apply splitJ; (case hj => rfl); (case hl => rfl)
                  · skip
                    refine goG rfl rfl ?_
                    refine pu (ev tab rfl) rfl ?_
                    refine goG rfl rfl ?_
                    first | refine pu (ev tab rfl) rfl ?_ | refine pu (loadRow tab rfl rfl rfl rfl) rfl ?_ | refine pu (loadBox tab rfl rfl rfl rfl rfl) rfl ?_
                    refine goG rfl rfl ?_
                    refine pu (ev tab rfl) rfl ?_
                    refine goG rfl rfl ?_
                    refine pu (ev tab rfl) rfl ?_
                    refine goG rfl rfl ?_
                    iterate 2 refine pu (ev tab rfl) rfl ?_
                    refine WO.nil ?_
                    refine qv1 rfl rfl rfl
                  · skip
                    refine skipT rfl rfl rfl rfl ?_
                    refine skipT rfl rfl rfl rfl ?_
                    refine skipT rfl rfl rfl rfl ?_
                    refine skipT rfl rfl rfl rfl ?_
                    refine goG rfl rfl ?_
                    iterate 2 refine pu (ev tab rfl) rfl ?_
                    refine WO.nil ?_
                    refine qv1 rfl rfl rfl
              · skip
                refine skipT rfl rfl rfl rfl ?_
                refine skipT rfl rfl rfl rfl ?_
                refine skipT rfl rfl rfl rfl ?_
                refine goG rfl rfl ?_
                iterate 3 refine pu (ev tab rfl) rfl ?_
                refine goG rfl rfl ?_
                refine pu (ev tab rfl) rfl ?_
                refine goG rfl rfl ?_
                refine pu (ev tab rfl) rfl ?_
                refine goG rfl rfl ?_
                refine pu (ev tab rfl) rfl ?_
                apply splitJ; (case hj => rfl); (case hl => rfl)
                · skip
                  refine goG rfl rfl ?_
                  refine pu (ev tab rfl) rfl ?_
                  refine goG rfl rfl ?_
                  first | refine pu (ev tab rfl) rfl ?_ | refine pu (loadRow tab rfl rfl rfl rfl) rfl ?_ | refine pu (loadBox tab rfl rfl rfl rfl rfl) rfl ?_
                  refine goG rfl rfl ?_
                  refine pu (ev tab rfl) rfl ?_
                  refine goG rfl rfl ?_
                  refine pu (ev tab rfl) rfl ?_
                  refine goG rfl rfl ?_
                  iterate 2 refine pu (ev tab rfl) rfl ?_
                  refine WO.nil ?_
                  refine qv1 rfl rfl rfl
                · skip
                  refine skipT rfl rfl rfl rfl ?_
                  refine skipT rfl rfl rfl rfl ?_
                  refine skipT rfl rfl rfl rfl ?_
                  refine skipT rfl rfl rfl rfl ?_
                  refine goG rfl rfl ?_
                  iterate 2 refine pu (ev tab rfl) rfl ?_
                  refine WO.nil ?_
                  refine qv1 rfl rfl rfl
          · skip
            refine skipT rfl rfl rfl rfl ?_
            refine skipT rfl rfl rfl rfl ?_
            refine skipT rfl rfl rfl rfl ?_
            refine goG rfl rfl ?_
            iterate 3 refine pu (ev tab rfl) rfl ?_
            refine goG rfl rfl ?_
            refine pu (ev tab rfl) rfl ?_
            refine goG rfl rfl ?_
            refine pu (ev tab rfl) rfl ?_
            refine goG rfl rfl ?_
            refine pu (ev tab rfl) rfl ?_
            apply splitJ; (case hj => rfl); (case hl => rfl)
            · skip
              refine goG rfl rfl ?_
              refine pu (ev tab rfl) rfl ?_
              refine goG rfl rfl ?_
              first | refine pu (ev tab rfl) rfl ?_ | refine pu (loadRow tab rfl rfl rfl rfl) rfl ?_ | refine pu (loadBox tab rfl rfl rfl rfl rfl) rfl ?_
              refine goG rfl rfl ?_
              refine pu (ev tab rfl) rfl ?_
              refine goG rfl rfl ?_
              iterate 3 refine pu (ev tab rfl) rfl ?_
              apply splitJ; (case hj => rfl); (case hl => rfl)
              · skip
                refine skipT rfl rfl rfl rfl ?_
                refine skipT rfl rfl rfl rfl ?_
                refine skipT rfl rfl rfl rfl ?_
                refine skipU rfl rfl rfl ?_
                refine skipU rfl rfl rfl ?_
                refine skipU rfl rfl rfl ?_
                refine skipU rfl rfl rfl ?_
                refine skipT rfl rfl rfl rfl ?_
                refine pu (ev tab rfl) rfl ?_
                refine WO.nil ?_
                refine qv1 rfl rfl rfl
              · skip
                refine goG rfl rfl ?_
                refine pu (ev tab rfl) rfl ?_
                refine goG rfl rfl ?_
                refine pu (ev tab rfl) rfl ?_
                refine goG rfl rfl ?_
                refine pu (ev tab rfl) rfl ?_
                apply splitJ; (case hj => rfl); (case hl => rfl)
                · skip
                  refine goG rfl rfl ?_
                  refine pu (ev tab rfl) rfl ?_
                  refine goG rfl rfl ?_
                  first | refine pu (ev tab rfl) rfl ?_ | refine pu (loadRow tab rfl rfl rfl rfl) rfl ?_ | refine pu (loadBox tab rfl rfl rfl rfl rfl) rfl ?_
                  refine goG rfl rfl ?_
                  refine pu (ev tab rfl) rfl ?_
                  refine goG rfl rfl ?_
                  refine pu (ev tab rfl) rfl ?_
                  refine goG rfl rfl ?_
                  iterate 2 refine pu (ev tab rfl) rfl ?_
                  refine WO.nil ?_
                  refine qv1 rfl rfl rfl
                · skip
                  refine skipT rfl rfl rfl rfl ?_
                  refine skipT rfl rfl rfl rfl ?_
                  refine skipT rfl rfl rfl rfl ?_
                  refine skipT rfl rfl rfl rfl ?_
                  refine goG rfl rfl ?_
                  iterate 2 refine pu (ev tab rfl) rfl ?_
                  refine WO.nil ?_
                  refine qv1 rfl rfl rfl
            · skip
              refine skipT rfl rfl rfl rfl ?_
              refine skipT rfl rfl rfl rfl ?_
              refine skipT rfl rfl rfl rfl ?_
              refine goG rfl rfl ?_
              iterate 3 refine pu (ev tab rfl) rfl ?_
              refine goG rfl rfl ?_
              refine pu (ev tab rfl) rfl ?_
              refine goG rfl rfl ?_
              refine pu (ev tab rfl) rfl ?_
              refine goG rfl rfl ?_
              refine pu (ev tab rfl) rfl ?_
              apply splitJ; (case hj => rfl); (case hl => rfl)
              · skip
                refine goG rfl rfl ?_
                refine pu (ev tab rfl) rfl ?_
                refine goG rfl rfl ?_
                first | refine pu (ev tab rfl) rfl ?_ | refine pu (loadRow tab rfl rfl rfl rfl) rfl ?_ | refine pu (loadBox tab rfl rfl rfl rfl rfl) rfl ?_
                refine goG rfl rfl ?_
                refine pu (ev tab rfl) rfl ?_
                refine goG rfl rfl ?_
                refine pu (ev tab rfl) rfl ?_
                refine goG rfl rfl ?_
                iterate 2 refine pu (ev tab rfl) rfl ?_
                refine WO.nil ?_
                refine qv1 rfl rfl rfl
              · skip
                refine skipT rfl rfl rfl rfl ?_
                refine skipT rfl rfl rfl rfl ?_
                refine skipT rfl rfl rfl rfl ?_
                refine skipT rfl rfl rfl rfl ?_
                refine goG rfl rfl ?_
                iterate 2 refine pu (ev tab rfl) rfl ?_
                refine WO.nil ?_
                refine qv1 rfl rfl rfl
      refine qs ?_
      refine condK rfl (fun h66 => ?_) (fun h66 => ?_)
      · skip
        refine W.seq ?_
        refine W.region ?_
        refine pu (ev tab rfl) rfl ?_
        refine WO.nil ?_
        refine qs ?_
        refine W.ret ?_
        refine qsRet ?_
        refine QF.ret0 trivial rfl ?_
        simp only [norm, oneA]; grind [checkR]
      · skip
        refine W.skip ?_
        refine qs ?_
        refine W.seq ?_
        refine W.region ?_
        refine pu (ev tab rfl) rfl ?_
        refine WO.nil ?_
        refine qs ?_
        refine W.seq ?_
        refine W.seq ?_
        refine W.region ?_
        refine pu (ev tab rfl) rfl ?_
        refine WO.nil ?_
        refine qs ?_
        refine condK rfl (fun h67 => ?_) (fun h67 => ?_)
        · skip
          refine W.region ?_
          refine pu (ev tab rfl) rfl ?_
          first | refine pu (ev tab rfl) rfl ?_ | refine pu (loadRow tab rfl rfl rfl rfl) rfl ?_ | refine pu (loadBox tab rfl rfl rfl rfl rfl) rfl ?_
          refine pu (puCall rfl rfl rfl (rname_fn ..) rfl) rfl ?_
          refine pu (ev tab rfl) rfl ?_
          refine WO.nil ?_
          refine qs ?_
          refine W.seq ?_
          refine W.seq ?_
          refine W.region ?_
          refine pu (ev tab rfl) rfl ?_
          refine WO.nil ?_
          refine qs ?_
          refine condK rfl (fun h71 => ?_) (fun h71 => ?_)
          · skip
            refine W.region ?_
            refine pu (ev tab rfl) rfl ?_
            first | refine pu (ev tab rfl) rfl ?_ | refine pu (loadRow tab rfl rfl rfl rfl) rfl ?_ | refine pu (loadBox tab rfl rfl rfl rfl rfl) rfl ?_
            refine pu (puCall rfl rfl rfl (rframes_fn ..) rfl) rfl ?_
            refine pu (ev tab rfl) rfl ?_
            refine WO.nil ?_
            refine qs ?_
            refine W.seq ?_
            refine W.seq ?_
            refine W.region ?_
            iterate 2 refine pu (ev tab rfl) rfl ?_
            refine WO.nil ?_
            refine qs ?_
            refine condK rfl (fun h76 => ?_) (fun h76 => ?_)
            · skip
              refine W.seq ?_
              refine W.region ?_
              iterate 2 refine pu (ev tab rfl) rfl ?_
              refine WO.nil ?_
              refine qs ?_
              refine W.ret ?_
              refine qsRet ?_
              refine QF.ret0 trivial rfl ?_
              simp only [norm, oneA]; grind [checkR]
            · skip
              refine W.skip ?_
              refine qs ?_
              refine W.seq ?_
              refine W.region ?_
              first | refine pu (ev tab rfl) rfl ?_ | refine pu (loadRow tab rfl rfl rfl rfl) rfl ?_ | refine pu (loadBox tab rfl rfl rfl rfl rfl) rfl ?_
              refine pu (puCall rfl rfl rfl (numbers_fn2 ..) rfl) rfl ?_
              refine pu (ev tab rfl) rfl ?_
              refine WO.nil ?_
              refine qs ?_
              refine W.ret ?_
              refine QF.ret0 trivial rfl ?_
              simp only [norm, oneA]; grind [checkR]
          · skip
            refine W.skip ?_
            refine qs ?_
            refine W.seq ?_
            refine W.seq ?_
            refine W.region ?_
            iterate 2 refine pu (ev tab rfl) rfl ?_
            refine WO.nil ?_
            refine qs ?_
            refine condK rfl (fun h76 => ?_) (fun h76 => ?_)
            · skip
              refine W.seq ?_
              refine W.region ?_
              iterate 2 refine pu (ev tab rfl) rfl ?_
              refine WO.nil ?_
              refine qs ?_
              refine W.ret ?_
              refine qsRet ?_
              refine QF.ret0 trivial rfl ?_
              simp only [norm, oneA]; grind [checkR]
            · skip
              refine W.skip ?_
              refine qs ?_
              refine W.seq ?_
              refine W.region ?_
              first | refine pu (ev tab rfl) rfl ?_ | refine pu (loadRow tab rfl rfl rfl rfl) rfl ?_ | refine pu (loadBox tab rfl rfl rfl rfl rfl) rfl ?_
              refine pu (puCall rfl rfl rfl (numbers_fn2 ..) rfl) rfl ?_
              refine pu (ev tab rfl) rfl ?_
              refine WO.nil ?_
              refine qs ?_
              refine W.ret ?_
              refine QF.ret0 trivial rfl ?_
              simp only [norm, oneA]; grind [checkR]
        · skip
          refine W.skip ?_
          refine qs ?_
          refine W.seq ?_
          refine W.seq ?_
          refine W.region ?_
          refine pu (ev tab rfl) rfl ?_
          refine WO.nil ?_
          refine qs ?_
          refine condK rfl (fun h71 => ?_) (fun h71 => ?_)
          · skip
            refine W.region ?_
            refine pu (ev tab rfl) rfl ?_
            first | refine pu (ev tab rfl) rfl ?_ | refine pu (loadRow tab rfl rfl rfl rfl) rfl ?_ | refine pu (loadBox tab rfl rfl rfl rfl rfl) rfl ?_
            refine pu (puCall rfl rfl rfl (rframes_fn ..) rfl) rfl ?_
            refine pu (ev tab rfl) rfl ?_
            refine WO.nil ?_
            refine qs ?_
            refine W.seq ?_
            refine W.seq ?_
            refine W.region ?_
            iterate 2 refine pu (ev tab rfl) rfl ?_
            refine WO.nil ?_
            refine qs ?_
            refine condK rfl (fun h76 => ?_) (fun h76 => ?_)
            · skip
              refine W.seq ?_
              refine W.region ?_
              iterate 2 refine pu (ev tab rfl) rfl ?_
              refine WO.nil ?_
              refine qs ?_
              refine W.ret ?_
              refine qsRet ?_
              refine QF.ret0 trivial rfl ?_
              simp only [norm, oneA]; grind [checkR]
            · skip
              refine W.skip ?_
              refine qs ?_
              refine W.seq ?_
              refine W.region ?_
              first | refine pu (ev tab rfl) rfl ?_ | refine pu (loadRow tab rfl rfl rfl rfl) rfl ?_ | refine pu (loadBox tab rfl rfl rfl rfl rfl) rfl ?_
              refine pu (puCall rfl rfl rfl (numbers_fn2 ..) rfl) rfl ?_
              refine pu (ev tab rfl) rfl ?_
              refine WO.nil ?_
              refine qs ?_
              refine W.ret ?_
              refine QF.ret0 trivial rfl ?_
              simp only [norm, oneA]; grind [checkR]
          · skip
            refine W.skip ?_
            refine qs ?_
            refine W.seq ?_
            refine W.seq ?_
            refine W.region ?_
            iterate 2 refine pu (ev tab rfl) rfl ?_
            refine WO.nil ?_
            refine qs ?_
            refine condK rfl (fun h76 => ?_) (fun h76 => ?_)
            · skip
              refine W.seq ?_
              refine W.region ?_
              iterate 2 refine pu (ev tab rfl) rfl ?_
              refine WO.nil ?_
              refine qs ?_
              refine W.ret ?_
              refine qsRet ?_
              refine QF.ret0 trivial rfl ?_
              simp only [norm, oneA]; grind [checkR]
            · skip
              refine W.skip ?_
              refine qs ?_
              refine W.seq ?_
              refine W.region ?_
              first | refine pu (ev tab rfl) rfl ?_ | refine pu (loadRow tab rfl rfl rfl rfl) rfl ?_ | refine pu (loadBox tab rfl rfl rfl rfl rfl) rfl ?_
              refine pu (puCall rfl rfl rfl (numbers_fn2 ..) rfl) rfl ?_
              refine pu (ev tab rfl) rfl ?_
              refine WO.nil ?_
              refine qs ?_
              refine W.ret ?_
              refine QF.ret0 trivial rfl ?_
              simp only [norm, oneA]; grind [checkR]
end Go.Proofs.YtifeonoehfffmaaDoor
namespace Go.Proofs.YtifeonoehfffmaaDoor
open Go.Ab Go.Tb
set_option maxRecDepth 10000
attribute [local irreducible] W WO Pu QS QB QL QF QV QV1 CH QE
theorem nparse_ok (s : ByteArray) (v : Int) (h : Lib.atoiAll s.data.toList = .ok v) : numP s = (if (if numB v = s then true else false) && inR v then (v, true) else (0, false)) := by
  unfold numP
  rw [h]
  by_cases h1 : numB v = s <;> by_cases h2 : inR v = true <;> simp [h1, h2]
theorem sat_in (l : List UInt8) : -9223372036854775808 ≤ Lib.atoiSat l ∧ Lib.atoiSat l ≤ 9223372036854775807 := by
  unfold Lib.atoiSat
  split <;> decide
theorem nparse_fn (s : ByteArray) (hs : s.size ≤ 281474976710656) : Does Tryd.prog 52 [.d (.v (.string s))] (.tup [.d (.v (.int .i64 (numP s).1)), .d (.v (.bool (numP s).2))]) 0 := by
  have ha := atoi_fn s hs
  unfold atoiA at ha
  cases h : Lib.atoiAll s.data.toList with
  | ok v =>
    rw [h] at ha
    have hb := Lib.atoiAll_bounds h
    have hp := nparse_ok s v h
    refine Does.of_W (n := 23) (ts := [2, 3]) Tryd.func52 (by kernel_rfl) rfl Tryd.ntmps52 Tryd.results52 rfl rfl fun C hC hG => ?_
    refine W.seq ?_
    refine W.region ?_
    iterate 2 refine pu (ev tab rfl) rfl ?_
    refine WO.nil ?_
    refine qs ?_
    refine W.seq ?_
    refine W.region ?_
    refine pu (ev tab rfl) rfl ?_
    refine pu (puCall rfl rfl rfl ha rfl) rfl ?_
    iterate 5 refine pu (ev tab rfl) rfl ?_
    refine WO.nil ?_
    refine qs ?_
    refine W.seq ?_
    refine W.region ?_
    iterate 2 refine pu (ev tab rfl) rfl ?_
    refine pu (nilEq rfl (by kernel_rfl)) rfl ?_
    refine pu (ev tab rfl) rfl ?_
    refine splitG rfl rfl (fun _ => ?_) (fun _ => ?_)
    · skip
      refine goG rfl rfl ?_
      refine pu (ev tab rfl) rfl ?_
      refine goG rfl rfl ?_
      refine pu (puCall rfl rfl rfl (text_fn v hb.1 hb.2) rfl) rfl ?_
      refine goG rfl rfl ?_
      refine pu (ev tab rfl) rfl ?_
      refine goG rfl rfl ?_
      iterate 2 refine pu (ev tab rfl) rfl ?_
      refine pu (puCall rfl rfl rfl (within_fn ..) rfl) rfl ?_
      iterate 4 refine pu (ev tab rfl) rfl ?_
      refine WO.nil ?_
      refine qs ?_
      refine W.ret ?_
      refine QF.ret0 trivial rfl ?_
      first | contradiction | (rw [hp]; simp only [norm, normL, oneA]; by_cases h1 : numB v = s <;> by_cases h2 : inR v = true <;> simp [h1, h2])
    · skip
      refine skipT rfl rfl rfl rfl ?_
      refine skipT rfl rfl rfl rfl ?_
      refine skipT rfl rfl rfl rfl ?_
      refine skipT rfl rfl rfl rfl ?_
      refine pu (ev tab rfl) rfl ?_
      refine pu (puCall rfl rfl rfl (within_fn ..) rfl) rfl ?_
      iterate 4 refine pu (ev tab rfl) rfl ?_
      refine WO.nil ?_
      refine qs ?_
      refine W.ret ?_
      refine QF.ret0 trivial rfl ?_
      first | contradiction | (rw [hp]; simp only [norm, normL, oneA]; by_cases h1 : numB v = s <;> by_cases h2 : inR v = true <;> simp [h1, h2])
  | range =>
    rw [h] at ha
    have hp : numP s = (0, false) := by unfold numP; rw [h]
    refine Does.of_W (n := 23) (ts := [2, 3]) Tryd.func52 (by kernel_rfl) rfl Tryd.ntmps52 Tryd.results52 rfl rfl fun C hC hG => ?_
    refine W.seq ?_
    refine W.region ?_
    iterate 2 refine pu (ev tab rfl) rfl ?_
    refine WO.nil ?_
    refine qs ?_
    refine W.seq ?_
    refine W.region ?_
    refine pu (ev tab rfl) rfl ?_
    refine pu (puCall rfl rfl rfl ha rfl) rfl ?_
    iterate 5 refine pu (ev tab rfl) rfl ?_
    refine WO.nil ?_
    refine qs ?_
    refine W.seq ?_
    refine W.region ?_
    iterate 2 refine pu (ev tab rfl) rfl ?_
    refine pu (niEq rfl (by kernel_rfl)) rfl ?_
    refine pu (ev tab rfl) rfl ?_
    refine splitG rfl rfl (fun _ => ?_) (fun _ => ?_)
    · skip
      refine goG rfl rfl ?_
      refine pu (ev tab rfl) rfl ?_
      refine goG rfl rfl ?_
      refine pu (puCall rfl rfl rfl (text_fn _ (sat_in _).1 (sat_in _).2) rfl) rfl ?_
      refine goG rfl rfl ?_
      refine pu (ev tab rfl) rfl ?_
      refine goG rfl rfl ?_
      iterate 2 refine pu (ev tab rfl) rfl ?_
      refine pu (puCall rfl rfl rfl (within_fn ..) rfl) rfl ?_
      iterate 4 refine pu (ev tab rfl) rfl ?_
      refine WO.nil ?_
      refine qs ?_
      refine W.ret ?_
      refine QF.ret0 trivial rfl ?_
      first | contradiction | (rw [hp]; rfl)
    · skip
      refine skipT rfl rfl rfl rfl ?_
      refine skipT rfl rfl rfl rfl ?_
      refine skipT rfl rfl rfl rfl ?_
      refine skipT rfl rfl rfl rfl ?_
      refine pu (ev tab rfl) rfl ?_
      refine pu (puCall rfl rfl rfl (within_fn ..) rfl) rfl ?_
      iterate 4 refine pu (ev tab rfl) rfl ?_
      refine WO.nil ?_
      refine qs ?_
      refine W.ret ?_
      refine QF.ret0 trivial rfl ?_
      first | contradiction | (rw [hp]; rfl)
  | _ =>
    rw [h] at ha
    have hp : numP s = (0, false) := by unfold numP; rw [h]
    refine Does.of_W (n := 23) (ts := [2, 3]) Tryd.func52 (by kernel_rfl) rfl Tryd.ntmps52 Tryd.results52 rfl rfl fun C hC hG => ?_
    refine W.seq ?_
    refine W.region ?_
    iterate 2 refine pu (ev tab rfl) rfl ?_
    refine WO.nil ?_
    refine qs ?_
    refine W.seq ?_
    refine W.region ?_
    refine pu (ev tab rfl) rfl ?_
    refine pu (puCall rfl rfl rfl ha rfl) rfl ?_
    iterate 5 refine pu (ev tab rfl) rfl ?_
    refine WO.nil ?_
    refine qs ?_
    refine W.seq ?_
    refine W.region ?_
    iterate 2 refine pu (ev tab rfl) rfl ?_
    refine pu (niEq rfl (by kernel_rfl)) rfl ?_
    refine pu (ev tab rfl) rfl ?_
    refine splitG rfl rfl (fun _ => ?_) (fun _ => ?_)
    · skip
      refine goG rfl rfl ?_
      refine pu (ev tab rfl) rfl ?_
      refine goG rfl rfl ?_
      refine pu (puCall rfl rfl rfl (text_fn 0 (by decide) (by decide)) rfl) rfl ?_
      refine goG rfl rfl ?_
      refine pu (ev tab rfl) rfl ?_
      refine goG rfl rfl ?_
      iterate 2 refine pu (ev tab rfl) rfl ?_
      refine pu (puCall rfl rfl rfl (within_fn ..) rfl) rfl ?_
      iterate 4 refine pu (ev tab rfl) rfl ?_
      refine WO.nil ?_
      refine qs ?_
      refine W.ret ?_
      refine QF.ret0 trivial rfl ?_
      first | contradiction | (rw [hp]; rfl)
    · skip
      refine skipT rfl rfl rfl rfl ?_
      refine skipT rfl rfl rfl rfl ?_
      refine skipT rfl rfl rfl rfl ?_
      refine skipT rfl rfl rfl rfl ?_
      refine pu (ev tab rfl) rfl ?_
      refine pu (puCall rfl rfl rfl (within_fn ..) rfl) rfl ?_
      iterate 4 refine pu (ev tab rfl) rfl ?_
      refine WO.nil ?_
      refine qs ?_
      refine W.ret ?_
      refine QF.ret0 trivial rfl ?_
      first | contradiction | (rw [hp]; rfl)
end Go.Proofs.YtifeonoehfffmaaDoor
namespace Go.Proofs.YtifeonoehfffmaaDoor
open Go.Ab Go.Tb
set_option maxRecDepth 10000
attribute [local irreducible] W WO Pu QS QB QL QF QV QV1 CH QE
theorem idxFrm_fn (fid : Nat) (caps : List A) (hc : Still caps) (p : Frm → Bool) (hp : ∀ x : Frm, Does Tryd.prog fid (.ag x.c :: caps) (.d (.v (.bool (p x)))) 0) (l : List Frm) :
    Does Tryd.prog 36 [.d (.sl (l.map Frm.c)), .clo fid caps] (.d (.v (.int .i64 (idx (l.findIdx? p))))) 0 := by
  refine Does.of_W (n := 19) (ts := [4]) Tryd.func36 (by kernel_rfl) rfl Tryd.ntmps36 Tryd.results36 rfl rfl fun C hC hG => ?_
  refine W.seq ?_
  refine W.region ?_
  refine pu (ev tab rfl) rfl ?_
  refine WO.nil ?_
  refine qs ?_
  refine W.seq ?_
  refine W.seq ?_
  refine W.region ?_
  iterate 3 refine pu (ev tab rfl) rfl ?_
  refine WO.nil ?_
  refine qs ?_
  refine W.block ?_
  refine W.len (t := 0) rfl rfl (fun hlen => ?_)
  try simp only [List.length_map, Ex.kc_len] at hlen
  refine W.loopR (ι := {x : Nat // match x with | k => k ≤ l.length ∧ noneBefore p l k})
    (fun x => match x.1 with | k => [(8, .d (.v (.int .i64 ((k : Nat) : Int))))]) [(0, _), (1, _), (7, _)]
    (fun x => match x.1 with | k => []) [] [] 0 (fun x => match x.1 with | k => l.length - k)
    [] ⟨0, ?_⟩ rfl ?_ ⟨rfl, (by first | rfl | exact hc.2), rfl, (by first | rfl | exact hc.2), rfl, (by first | rfl | exact hc.2), trivial⟩ ?_ trivial rfl ?_
  · exact ⟨Nat.zero_le _, noneBefore.zero⟩
  · repeat' first | exact trivial | refine ⟨rfl, ?_⟩ | refine ⟨step_nat (by assumption) (by assumption), ?_⟩
  · repeat' first | exact trivial | refine ⟨rfl, ?_⟩ | refine ⟨step_nat (by assumption) (by assumption), ?_⟩
  rintro ⟨k, hk, hI⟩
  show W _ _ _ _ _ ⟨[(8, .d (.v (.int .i64 ((k : Nat) : Int)))), (0, _), (1, _), (7, _)], [], [], 0⟩
  refine W.seq ?_
  refine W.region ?_
  refine pu (ev tab rfl) rfl ?_
  refine WO.nil ?_
  refine qs ?_
  refine W.seq ?_
  refine eachR (l := l) (k := k) rfl (by simp [Ex.kc_len, bytes_len]) hk (fun x hx hd hlt => ?_) (fun he hd => ?_)
  · skip
    refine W.skip ?_
    refine qs ?_
    refine W.seq ?_
    refine W.block ?_
    refine W.seq ?_
    refine W.region ?_
    iterate 2 refine pu (ev tab rfl) rfl ?_
    refine WO.nil ?_
    refine qs ?_
    refine W.seq ?_
    refine W.region ?_
    iterate 3 refine pu (ev tab rfl) rfl ?_
    refine pu (indexAddr tab rfl rfl rfl rfl rfl rfl (Int.natCast_nonneg _) (idx_map hx) rfl) rfl ?_
    first | refine pu (ev tab rfl) rfl ?_ | refine pu (loadRow tab rfl rfl rfl rfl) rfl ?_ | refine pu (loadBox tab rfl rfl rfl rfl rfl) rfl ?_
    refine pu (puCall rfl rfl (by rw [List.map_append, hc.1 _ 3]; rfl) (hp x) rfl) rfl ?_
    refine WO.nil ?_
    refine qs ?_
    refine condK rfl (fun h16 => ?_) (fun h16 => ?_)
    · skip
      refine W.seq ?_
      refine W.region ?_
      iterate 2 refine pu (ev tab rfl) rfl ?_
      refine WO.nil ?_
      refine qs ?_
      refine W.ret ?_
      refine qbRet ?_
      refine qsRet ?_
      refine qlRet ?_
      refine qbRet ?_
      refine qsRet ?_
      refine QF.ret0 trivial rfl ?_
      simp only [norm, oneA]; rw [hI.found hx h16]; rfl
    · skip
      refine W.skip ?_
      refine qbN ?_
      refine qs ?_
      refine W.region ?_
      iterate 2 refine pu (ev tab rfl) rfl ?_
      refine WO.nil ?_
      refine W.endR [] ⟨k + 1, ?_⟩ ?_ rfl ?_ ⟨rfl, (by first | rfl | exact hc.2), rfl, (by first | rfl | exact hc.2), rfl, (by first | rfl | exact hc.2), trivial⟩ ?_ trivial rfl
      · exact ⟨hlt, hI.step hx h16⟩
      · dsimp only; omega
      · repeat' first | exact trivial | refine ⟨rfl, ?_⟩ | refine ⟨step_nat (by assumption) (by assumption), ?_⟩
      · repeat' first | exact trivial | refine ⟨rfl, ?_⟩ | refine ⟨step_nat (by assumption) (by assumption), ?_⟩
  · skip
    refine W.exit ?_
    refine qsExit ?_
    refine qlExit ?_
    refine qbExit ?_
    refine qs ?_
    refine W.seq ?_
    refine W.region ?_
    refine pu (ev tab rfl) rfl ?_
    refine WO.nil ?_
    refine qs ?_
    refine W.ret ?_
    refine QF.ret0 trivial rfl ?_
    simp only [norm, oneA]; rw [hI.end_ he]; rfl
theorem isWord_fn (w : ByteArray) (f : Frm) : Does Tryd.prog 38 [.ag f.c, .row [.d (.v (.string w))]] (.d (.v (.bool (decide (f.word = w) && !decide (w = B #[]))))) 0 := by
  refine Does.of_W (n := 12) (ts := [3]) Tryd.func38 (by kernel_rfl) rfl Tryd.ntmps38 Tryd.results38 rfl rfl fun C hC hG => ?_
  refine W.seq ?_
  refine W.region ?_
  refine boxR rfl rfl rfl ?_
  refine pu (ev tab rfl) rfl ?_
  refine WO.nil ?_
  refine qs ?_
  refine W.seq ?_
  apply regionB; (case hb => rfl)
  · skip
    refine pu (ev tab rfl) rfl ?_
    first | refine pu (ev tab rfl) rfl ?_ | refine pu (loadRow tab rfl rfl rfl rfl) rfl ?_ | refine pu (loadBox tab rfl rfl rfl rfl rfl) rfl ?_
    first | refine pu (ev tab rfl) rfl ?_ | refine pu (loadRow tab rfl rfl rfl rfl) rfl ?_ | refine pu (loadBox tab rfl rfl rfl rfl rfl) rfl ?_
    iterate 2 refine pu (ev tab rfl) rfl ?_
    apply splitJ; (case hj => rfl); (case hl => rfl)
    · skip
      refine goG rfl rfl ?_
      first | refine pu (ev tab rfl) rfl ?_ | refine pu (loadRow tab rfl rfl rfl rfl) rfl ?_ | refine pu (loadBox tab rfl rfl rfl rfl rfl) rfl ?_
      refine goG rfl rfl ?_
      iterate 3 refine pu (ev tab rfl) rfl ?_
      refine WO.nil ?_
      refine qv1 rfl rfl rfl
    · skip
      refine skipT rfl rfl rfl rfl ?_
      refine skipT rfl rfl rfl rfl ?_
      iterate 2 refine pu (ev tab rfl) rfl ?_
      refine WO.nil ?_
      refine qv1 rfl rfl rfl
  refine qs ?_
  refine W.ret ?_
  refine QF.ret0 trivial rfl ?_
  simp only [norm, oneA]; grind
def rb (ws : List ByteArray) (bad : Bool) : List A := [.d (.sl (txs ws)), .d (.v (.bool bad))]
theorem take_fn (ws : List ByteArray) (bad : Bool) : DoesB Tryd.prog 35 [.ptr 0 0] [[.d (.sl (txs ws)), .d (.v (.bool bad))]] 0 (.d (.v (.string (ws.headD (B #[]))))) [[.d (.sl (txs ws.tail)), .d (.v (.bool (bad || ws.isEmpty)))]] 0 := by
  cases ws with
  | nil =>
    have hb : (bad || ([] : List ByteArray).isEmpty) = true := by simp
    rw [hb]
    refine DoesB.of_V tab (n := 28) (rs := [.tmp 2]) Tryd.func35 (by kernel_rfl) rfl Tryd.ntmps35 Tryd.results35 rfl rfl fun C hC hG => ?_
    refine W.seq ?_
    refine W.region ?_
    refine pu (ev tab rfl) rfl ?_
    refine WO.nil ?_
    refine qs ?_
    refine W.seq ?_
    refine W.seq ?_
    refine W.region ?_
    iterate 3 refine pu (ev tab rfl) rfl ?_
    first | refine pu (ev tab rfl) rfl ?_ | refine pu (loadRow tab rfl rfl rfl rfl) rfl ?_ | refine pu (loadBox tab rfl rfl rfl rfl rfl) rfl ?_
    iterate 2 refine pu (ev tab rfl) rfl ?_
    refine WO.nil ?_
    refine qs ?_
    refine W.condT rfl ?_
    refine W.seq ?_
    refine W.region ?_
    iterate 3 refine pu (ev tab rfl) rfl ?_
    refine storeR tab rfl rfl rfl rfl rfl rfl rfl rfl ?_
    refine WO.nil ?_
    refine qs ?_
    refine W.seq ?_
    refine W.region ?_
    refine pu (ev tab rfl) rfl ?_
    refine WO.nil ?_
    refine qs ?_
    refine W.ret ?_
    refine qsRet ?_
    refine QB1.end tab [] trivial rfl rfl rfl rfl ?_ ?_
    · exact ⟨rfl, trivial⟩
    rfl
  | cons w r =>
    have hb : (bad || (w :: r).isEmpty) = bad := by simp
    rw [hb]
    refine DoesB.of_V tab (n := 28) (rs := [.tmp 2]) Tryd.func35 (by kernel_rfl) rfl Tryd.ntmps35 Tryd.results35 rfl rfl fun C hC hG => ?_
    refine W.seq ?_
    refine W.region ?_
    refine pu (ev tab rfl) rfl ?_
    refine WO.nil ?_
    refine qs ?_
    refine W.seq ?_
    refine W.seq ?_
    refine W.region ?_
    iterate 3 refine pu (ev tab rfl) rfl ?_
    first | refine pu (ev tab rfl) rfl ?_ | refine pu (loadRow tab rfl rfl rfl rfl) rfl ?_ | refine pu (loadBox tab rfl rfl rfl rfl rfl) rfl ?_
    iterate 2 refine pu (ev tab rfl) rfl ?_
    refine WO.nil ?_
    refine qs ?_
    refine condK rfl (fun h9 => ?_) (fun h9 => ?_)
    · skip
      exfalso
      simp at h9
      omega
    · skip
      refine W.skip ?_
      refine qs ?_
      refine W.seq ?_
      refine W.region ?_
      iterate 3 refine pu (ev tab rfl) rfl ?_
      first | refine pu (ev tab rfl) rfl ?_ | refine pu (loadRow tab rfl rfl rfl rfl) rfl ?_ | refine pu (loadBox tab rfl rfl rfl rfl rfl) rfl ?_
      refine pu (indexAddr (l := sc w) tab rfl rfl rfl rfl rfl rfl (Int.le_refl _) rfl rfl) rfl ?_
      first | refine pu (ev tab rfl) rfl ?_ | refine pu (loadRow tab rfl rfl rfl rfl) rfl ?_ | refine pu (loadBox tab rfl rfl rfl rfl rfl) rfl ?_
      refine pu (ev tab rfl) rfl ?_
      refine WO.nil ?_
      refine qs ?_
      refine W.seq ?_
      refine W.region ?_
      iterate 4 refine pu (ev tab rfl) rfl ?_
      first | refine pu (ev tab rfl) rfl ?_ | refine pu (loadRow tab rfl rfl rfl rfl) rfl ?_ | refine pu (loadBox tab rfl rfl rfl rfl rfl) rfl ?_
      refine pu (slFromM (fn := sc) (l := w :: r) (k := 1) tab rfl rfl rfl rfl rfl rfl (fun _ => rfl) (by simp)) rfl ?_
      iterate 2 refine pu (ev tab rfl) rfl ?_
      refine storeR tab rfl rfl rfl rfl rfl rfl rfl rfl ?_
      refine WO.nil ?_
      refine qs ?_
      refine W.seq ?_
      refine W.region ?_
      iterate 2 refine pu (ev tab rfl) rfl ?_
      refine WO.nil ?_
      refine qs ?_
      refine W.ret ?_
      refine QB1.end tab [] trivial rfl rfl rfl rfl ?_ ?_
      · exact ⟨rfl, trivial⟩
      rfl
theorem takeNum_fn (ws : List ByteArray) (bad : Bool) (hs : (ws.headD (B #[])).size ≤ 281474976710656) : DoesB Tryd.prog 34 [.ptr 0 0] [[.d (.sl (txs ws)), .d (.v (.bool bad))]] 0 (.d (.v (.int .i64 (numP (ws.headD (B #[]))).1))) [[.d (.sl (txs ws.tail)), .d (.v (.bool (bad || ws.isEmpty || !(numP (ws.headD (B #[]))).2)))]] 0 := by
  refine DoesB.of_V tab (n := 23) (rs := [.tmp 2]) Tryd.func34 (by kernel_rfl) rfl Tryd.ntmps34 Tryd.results34 rfl rfl fun C hC hG => ?_
  refine W.seq ?_
  refine W.region ?_
  refine pu (ev tab rfl) rfl ?_
  refine WO.nil ?_
  refine qs ?_
  refine W.seq ?_
  refine W.region ?_
  refine pu (ev tab rfl) rfl ?_
  refine callB [0] [] rfl rfl rfl rfl rfl ((take_fn ws bad)) rfl rfl (by rfl) (by rfl) rfl rfl rfl rfl ?_
  refine pu (puCall rfl rfl rfl ((nparse_fn _ (by assumption))) rfl) rfl ?_
  iterate 5 refine pu (ev tab rfl) rfl ?_
  refine WO.nil ?_
  refine qs ?_
  refine W.seq ?_
  refine W.region ?_
  iterate 4 refine pu (ev tab rfl) rfl ?_
  first | refine pu (ev tab rfl) rfl ?_ | refine pu (loadRow tab rfl rfl rfl rfl) rfl ?_ | refine pu (loadBox tab rfl rfl rfl rfl rfl) rfl ?_
  refine pu (ev tab rfl) rfl ?_
  refine splitG rfl rfl (fun _ => ?_) (fun _ => ?_)
  · skip
    refine skipT rfl rfl rfl rfl ?_
    refine skipT rfl rfl rfl rfl ?_
    iterate 3 refine pu (ev tab rfl) rfl ?_
    refine storeR tab rfl rfl rfl rfl rfl rfl rfl rfl ?_
    refine WO.nil ?_
    refine qs ?_
    refine W.seq ?_
    refine W.region ?_
    iterate 2 refine pu (ev tab rfl) rfl ?_
    refine WO.nil ?_
    refine qs ?_
    refine W.ret ?_
    refine QB1.end tab [] trivial rfl rfl rfl rfl ?_ ?_
    · rename_i hx
      rw [hx]
      exact ⟨rfl, trivial⟩
    rfl
  · skip
    refine goG rfl rfl ?_
    refine pu (ev tab rfl) rfl ?_
    refine goG rfl rfl ?_
    iterate 4 refine pu (ev tab rfl) rfl ?_
    refine storeR tab rfl rfl rfl rfl rfl rfl rfl rfl ?_
    refine WO.nil ?_
    refine qs ?_
    refine W.seq ?_
    refine W.region ?_
    iterate 2 refine pu (ev tab rfl) rfl ?_
    refine WO.nil ?_
    refine qs ?_
    refine W.ret ?_
    refine QB1.end tab [] trivial rfl rfl rfl rfl ?_ ?_
    · rename_i hx
      rw [hx]
      exact ⟨rfl, trivial⟩
    rfl
end Go.Proofs.YtifeonoehfffmaaDoor
namespace Go.Proofs.YtifeonoehfffmaaDoor
open Go.Ab Go.Tb
set_option maxRecDepth 10000
attribute [local irreducible] W WO Pu QS QB QL QF QV QV1 CH QE
end Go.Proofs.YtifeonoehfffmaaDoor
namespace Go.Proofs.YtifeonoehfffmaaDoor
open Go.Ab Go.Tb
set_option maxRecDepth 10000
attribute [local irreducible] W WO Pu QS QB QL QF QV QV1 CH QE
theorem joinW_fn {es : List (List D)} (l : List ByteArray) (sep : ByteArray) (he : es = l.map sc) (hl : l.length ≤ 100000) (hb : (joinB l sep).size ≤ 1000000) : Does Tryd.prog 29 [.d (.sl es), .d (.v (.string sep))] (.d (.v (.string (joinB l sep)))) 0 := by
  subst he
  exact join_fn l sep hl hb
theorem int_of {n : Int} (h : inR n = true) : -9223372036854775808 ≤ n ∧ n ≤ 9223372036854775807 := by have := inR_iff.1 h; omega
theorem etext_fn (e : Ev) : Does Tryd.prog 13 [.ag e.c] (.d (.v (.string (textE e)))) 0 := by
  refine Does.of_W (n := 67) (ts := [2]) Tryd.func13 (by kernel_rfl) rfl Tryd.ntmps13 Tryd.results13 rfl rfl fun C hC hG => ?_
  refine W.seq ?_
  refine W.region ?_
  refine boxR rfl rfl rfl ?_
  refine pu (ev tab rfl) rfl ?_
  refine WO.nil ?_
  refine qs ?_
  refine W.seq ?_
  refine W.seq ?_
  refine W.region ?_
  first | refine pu (ev tab rfl) rfl ?_ | refine pu (loadRow tab rfl rfl rfl rfl) rfl ?_ | refine pu (loadBox tab rfl rfl rfl rfl rfl) rfl ?_
  refine pu (puCall rfl rfl rfl (echeck_fn ..) rfl) rfl ?_
  refine pu (ev tab rfl) rfl ?_
  refine WO.nil ?_
  refine qs ?_
  refine condK rfl (fun h8 => ?_) (fun h8 => ?_)
  · skip
    have hg : textE e = B #[] := by unfold textE; rw [if_neg (by simpa using h8)]
    refine W.seq ?_
    refine W.region ?_
    refine pu (ev tab rfl) rfl ?_
    refine WO.nil ?_
    refine qs ?_
    refine W.ret ?_
    refine qsRet ?_
    refine QF.ret0 trivial rfl ?_
    rw [hg]; rfl
  · skip
    have hc : checkE e = 0 := by simpa using h8
    have g := good_of hc
    obtain ⟨w1, w2, w3⟩ := g.wordsSize
    have hg : textE e = joinB (wordsE e) wSpace := by unfold textE; rw [if_pos hc]
    refine W.skip ?_
    refine qs ?_
    refine W.seq ?_
    refine W.region ?_
    refine pu (ev tab rfl) rfl ?_
    first | refine pu (ev tab rfl) rfl ?_ | refine pu (loadRow tab rfl rfl rfl rfl) rfl ?_ | refine pu (loadBox tab rfl rfl rfl rfl rfl) rfl ?_
    refine pu (puCall rfl rfl rfl (formOf_fn ..) rfl) rfl ?_
    iterate 3 refine pu (ev tab rfl) rfl ?_
    refine allocR tab rfl rfl rfl ?_
    refine storeR tab rfl rfl rfl rfl rfl rfl rfl rfl ?_
    refine pu (ev tab rfl) rfl ?_
    refine WO.nil ?_
    refine qs ?_
    refine W.seq ?_
    refine W.regionD tab (by kernel_rfl) ?_
    refine chPu (ev tab rfl) rfl ?_
    first | refine chPu (ev tab rfl) rfl ?_ | refine chPu (loadRow tab rfl rfl rfl rfl) rfl ?_ | refine chPu (loadBox tab rfl rfl rfl rfl rfl) rfl ?_
    refine chPu (puCall rfl rfl rfl (text_fn e.time (int_of g.timeIn).1 (int_of g.timeIn).2) rfl) rfl ?_
    refine chPu (ev tab rfl) rfl ?_
    first | refine chPu (ev tab rfl) rfl ?_ | refine chPu (loadRow tab rfl rfl rfl rfl) rfl ?_ | refine chPu (loadBox tab rfl rfl rfl rfl rfl) rfl ?_
    refine chPu (buildFl tab rfl rfl rfl rfl rfl rfl rfl rfl rfl) rfl ?_
    refine chPu (ev tab rfl) rfl ?_
    refine CH.nil ?_
    refine qs ?_
    refine W.seq ?_
    refine W.seq ?_
    refine W.region ?_
    refine pu (ev tab rfl) rfl ?_
    first | refine pu (ev tab rfl) rfl ?_ | refine pu (loadRow tab rfl rfl rfl rfl) rfl ?_ | refine pu (loadBox tab rfl rfl rfl rfl rfl) rfl ?_
    refine WO.nil ?_
    refine qs ?_
    refine condK rfl (fun h22 => ?_) (fun h22 => ?_)
    · skip
      refine W.region ?_
      iterate 2 refine pu (ev tab rfl) rfl ?_
      first | refine pu (ev tab rfl) rfl ?_ | refine pu (loadRow tab rfl rfl rfl rfl) rfl ?_ | refine pu (loadBox tab rfl rfl rfl rfl rfl) rfl ?_
      refine pu (buildV tab rfl rfl rfl rfl rfl rfl rfl rfl rfl) rfl ?_
      first | refine appendFl tab rfl rfl rfl rfl rfl rfl rfl rfl rfl rfl rfl rfl (lensB_mem rfl) (Nat.le_of_ble_eq_true rfl) ?_ | refine appendO tab rfl rfl rfl rfl rfl rfl rfl rfl rfl rfl rfl rfl rfl rfl ?_
      refine pu (ev tab rfl) rfl ?_
      refine WO.nil ?_
      refine qs ?_
      refine W.seq ?_
      refine W.seq ?_
      refine W.region ?_
      refine pu (ev tab rfl) rfl ?_
      first | refine pu (ev tab rfl) rfl ?_ | refine pu (loadRow tab rfl rfl rfl rfl) rfl ?_ | refine pu (loadBox tab rfl rfl rfl rfl rfl) rfl ?_
      refine WO.nil ?_
      refine qs ?_
      refine condK rfl (fun h29 => ?_) (fun h29 => ?_)
      · skip
        refine W.region ?_
        iterate 2 refine pu (ev tab rfl) rfl ?_
        first | refine pu (ev tab rfl) rfl ?_ | refine pu (loadRow tab rfl rfl rfl rfl) rfl ?_ | refine pu (loadBox tab rfl rfl rfl rfl rfl) rfl ?_
        refine pu (puCall rfl rfl rfl (text_fn e.n (int_of g.nIn).1 (int_of g.nIn).2) rfl) rfl ?_
        refine pu (buildV tab rfl rfl rfl rfl rfl rfl rfl rfl rfl) rfl ?_
        first | refine appendFl tab rfl rfl rfl rfl rfl rfl rfl rfl rfl rfl rfl rfl (lensB_mem rfl) (Nat.le_of_ble_eq_true rfl) ?_ | refine appendO tab rfl rfl rfl rfl rfl rfl rfl rfl rfl rfl rfl rfl rfl rfl ?_
        refine pu (ev tab rfl) rfl ?_
        refine WO.nil ?_
        refine qs ?_
        refine W.seq ?_
        refine W.seq ?_
        refine W.region ?_
        first | refine pu (ev tab rfl) rfl ?_ | refine pu (loadRow tab rfl rfl rfl rfl) rfl ?_ | refine pu (loadBox tab rfl rfl rfl rfl rfl) rfl ?_
        refine pu (ev tab rfl) rfl ?_
        first | refine pu (ev tab rfl) rfl ?_ | refine pu (loadRow tab rfl rfl rfl rfl) rfl ?_ | refine pu (loadBox tab rfl rfl rfl rfl rfl) rfl ?_
        refine pu (puCall rfl rfl rfl (shows_fn ..) rfl) rfl ?_
        refine WO.nil ?_
        refine qs ?_
        refine condK rfl (fun h39 => ?_) (fun h39 => ?_)
        · skip
          refine W.region ?_
          iterate 2 refine pu (ev tab rfl) rfl ?_
          first | refine pu (ev tab rfl) rfl ?_ | refine pu (loadRow tab rfl rfl rfl rfl) rfl ?_ | refine pu (loadBox tab rfl rfl rfl rfl rfl) rfl ?_
          refine pu (puCall rfl rfl rfl (text_fn e.m (int_of g.mIn).1 (int_of g.mIn).2) rfl) rfl ?_
          refine pu (buildV tab rfl rfl rfl rfl rfl rfl rfl rfl rfl) rfl ?_
          first | refine appendFl tab rfl rfl rfl rfl rfl rfl rfl rfl rfl rfl rfl rfl (lensB_mem rfl) (Nat.le_of_ble_eq_true rfl) ?_ | refine appendO tab rfl rfl rfl rfl rfl rfl rfl rfl rfl rfl rfl rfl rfl rfl ?_
          refine pu (ev tab rfl) rfl ?_
          refine WO.nil ?_
          refine qs ?_
          refine W.seq ?_
          refine W.seq ?_
          apply regionB; (case hb => rfl)
          · skip
            refine pu (ev tab rfl) rfl ?_
            first | refine pu (ev tab rfl) rfl ?_ | refine pu (loadRow tab rfl rfl rfl rfl) rfl ?_ | refine pu (loadBox tab rfl rfl rfl rfl rfl) rfl ?_
            refine pu (ev tab rfl) rfl ?_
            apply splitJ; (case hj => rfl); (case hl => rfl)
            · skip
              refine goG rfl rfl ?_
              refine pu (ev tab rfl) rfl ?_
              refine goG rfl rfl ?_
              first | refine pu (ev tab rfl) rfl ?_ | refine pu (loadRow tab rfl rfl rfl rfl) rfl ?_ | refine pu (loadBox tab rfl rfl rfl rfl rfl) rfl ?_
              refine goG rfl rfl ?_
              refine pu (ev tab rfl) rfl ?_
              refine goG rfl rfl ?_
              iterate 2 refine pu (ev tab rfl) rfl ?_
              refine WO.nil ?_
              refine qv1 rfl rfl rfl
            · skip
              refine skipT rfl rfl rfl rfl ?_
              refine skipT rfl rfl rfl rfl ?_
              refine skipT rfl rfl rfl rfl ?_
              refine skipT rfl rfl rfl rfl ?_
              refine pu (ev tab rfl) rfl ?_
              refine WO.nil ?_
              refine qv1 rfl rfl rfl
          refine qs ?_
          refine condK rfl (fun h53 => ?_) (fun h53 => ?_)
          · skip
            refine W.region ?_
            refine pu (ev tab rfl) rfl ?_
            refine pu (buildV tab rfl rfl rfl rfl rfl rfl rfl rfl rfl) rfl ?_
            first | refine appendFl tab rfl rfl rfl rfl rfl rfl rfl rfl rfl rfl rfl rfl (lensB_mem rfl) (Nat.le_of_ble_eq_true rfl) ?_ | refine appendO tab rfl rfl rfl rfl rfl rfl rfl rfl rfl rfl rfl rfl rfl rfl ?_
            refine pu (ev tab rfl) rfl ?_
            refine WO.nil ?_
            refine qs ?_
            refine W.seq ?_
            refine W.region ?_
            refine pu (ev tab rfl) rfl ?_
            try refine unfl 65 rfl rfl ?_
            refine pu (puCall rfl rfl rfl (joinW_fn (wordsE e) wSpace (by unfold wordsE wordsF stackW showsB; simp_all [sc, wSemi, wStop]) (by omega) w3) rfl) rfl ?_
            refine pu (ev tab rfl) rfl ?_
            refine WO.nil ?_
            refine qs ?_
            refine W.ret ?_
            refine QF.ret0 trivial rfl ?_
            rw [hg]; rfl
          · skip
            refine W.seq ?_
            refine W.region ?_
            refine pu (ev tab rfl) rfl ?_
            first | refine pu (ev tab rfl) rfl ?_ | refine pu (loadRow tab rfl rfl rfl rfl) rfl ?_ | refine pu (loadBox tab rfl rfl rfl rfl rfl) rfl ?_
            refine WO.nil ?_
            refine qs ?_
            refine condK rfl (fun h58 => ?_) (fun h58 => ?_)
            · skip
              refine W.region ?_
              iterate 2 refine pu (ev tab rfl) rfl ?_
              first | refine pu (ev tab rfl) rfl ?_ | refine pu (loadRow tab rfl rfl rfl rfl) rfl ?_ | refine pu (loadBox tab rfl rfl rfl rfl rfl) rfl ?_
              refine pu (puCall rfl rfl rfl (join_fn e.stack wSemi (by have := (frames_ok g.frames).1; omega) (by have := g.stackSize; omega)) rfl) rfl ?_
              refine pu (buildV tab rfl rfl rfl rfl rfl rfl rfl rfl rfl) rfl ?_
              first | refine appendFl tab rfl rfl rfl rfl rfl rfl rfl rfl rfl rfl rfl rfl (lensB_mem rfl) (Nat.le_of_ble_eq_true rfl) ?_ | refine appendO tab rfl rfl rfl rfl rfl rfl rfl rfl rfl rfl rfl rfl rfl rfl ?_
              refine pu (ev tab rfl) rfl ?_
              refine WO.nil ?_
              refine qs ?_
              refine W.seq ?_
              refine W.region ?_
              refine pu (ev tab rfl) rfl ?_
              try refine unfl 65 rfl rfl ?_
              refine pu (puCall rfl rfl rfl (joinW_fn (wordsE e) wSpace (by unfold wordsE wordsF stackW showsB; simp_all [sc, wSemi, wStop]) (by omega) w3) rfl) rfl ?_
              refine pu (ev tab rfl) rfl ?_
              refine WO.nil ?_
              refine qs ?_
              refine W.ret ?_
              refine QF.ret0 trivial rfl ?_
              rw [hg]; rfl
            · skip
              refine W.skip ?_
              refine qs ?_
              refine W.seq ?_
              refine W.region ?_
              refine pu (ev tab rfl) rfl ?_
              try refine unfl 65 rfl rfl ?_
              refine pu (puCall rfl rfl rfl (joinW_fn (wordsE e) wSpace (by unfold wordsE wordsF stackW showsB; simp_all [sc, wSemi, wStop]) (by omega) w3) rfl) rfl ?_
              refine pu (ev tab rfl) rfl ?_
              refine WO.nil ?_
              refine qs ?_
              refine W.ret ?_
              refine QF.ret0 trivial rfl ?_
              rw [hg]; rfl
        · skip
          refine W.skip ?_
          refine qs ?_
          refine W.seq ?_
          refine W.seq ?_
          apply regionB; (case hb => rfl)
          · skip
            refine pu (ev tab rfl) rfl ?_
            first | refine pu (ev tab rfl) rfl ?_ | refine pu (loadRow tab rfl rfl rfl rfl) rfl ?_ | refine pu (loadBox tab rfl rfl rfl rfl rfl) rfl ?_
            refine pu (ev tab rfl) rfl ?_
            apply splitJ; (case hj => rfl); (case hl => rfl)
            · skip
              refine goG rfl rfl ?_
              refine pu (ev tab rfl) rfl ?_
              refine goG rfl rfl ?_
              first | refine pu (ev tab rfl) rfl ?_ | refine pu (loadRow tab rfl rfl rfl rfl) rfl ?_ | refine pu (loadBox tab rfl rfl rfl rfl rfl) rfl ?_
              refine goG rfl rfl ?_
              refine pu (ev tab rfl) rfl ?_
              refine goG rfl rfl ?_
              iterate 2 refine pu (ev tab rfl) rfl ?_
              refine WO.nil ?_
              refine qv1 rfl rfl rfl
            · skip
              refine skipT rfl rfl rfl rfl ?_
              refine skipT rfl rfl rfl rfl ?_
              refine skipT rfl rfl rfl rfl ?_
              refine skipT rfl rfl rfl rfl ?_
              refine pu (ev tab rfl) rfl ?_
              refine WO.nil ?_
              refine qv1 rfl rfl rfl
          refine qs ?_
          refine condK rfl (fun h53 => ?_) (fun h53 => ?_)
          · skip
            refine W.region ?_
            refine pu (ev tab rfl) rfl ?_
            refine pu (buildV tab rfl rfl rfl rfl rfl rfl rfl rfl rfl) rfl ?_
            first | refine appendFl tab rfl rfl rfl rfl rfl rfl rfl rfl rfl rfl rfl rfl (lensB_mem rfl) (Nat.le_of_ble_eq_true rfl) ?_ | refine appendO tab rfl rfl rfl rfl rfl rfl rfl rfl rfl rfl rfl rfl rfl rfl ?_
            refine pu (ev tab rfl) rfl ?_
            refine WO.nil ?_
            refine qs ?_
            refine W.seq ?_
            refine W.region ?_
            refine pu (ev tab rfl) rfl ?_
            try refine unfl 65 rfl rfl ?_
            refine pu (puCall rfl rfl rfl (joinW_fn (wordsE e) wSpace (by unfold wordsE wordsF stackW showsB; simp_all [sc, wSemi, wStop]) (by omega) w3) rfl) rfl ?_
            refine pu (ev tab rfl) rfl ?_
            refine WO.nil ?_
            refine qs ?_
            refine W.ret ?_
            refine QF.ret0 trivial rfl ?_
            rw [hg]; rfl
          · skip
            refine W.seq ?_
            refine W.region ?_
            refine pu (ev tab rfl) rfl ?_
            first | refine pu (ev tab rfl) rfl ?_ | refine pu (loadRow tab rfl rfl rfl rfl) rfl ?_ | refine pu (loadBox tab rfl rfl rfl rfl rfl) rfl ?_
            refine WO.nil ?_
            refine qs ?_
            refine condK rfl (fun h58 => ?_) (fun h58 => ?_)
            · skip
              refine W.region ?_
              iterate 2 refine pu (ev tab rfl) rfl ?_
              first | refine pu (ev tab rfl) rfl ?_ | refine pu (loadRow tab rfl rfl rfl rfl) rfl ?_ | refine pu (loadBox tab rfl rfl rfl rfl rfl) rfl ?_
              refine pu (puCall rfl rfl rfl (join_fn e.stack wSemi (by have := (frames_ok g.frames).1; omega) (by have := g.stackSize; omega)) rfl) rfl ?_
              refine pu (buildV tab rfl rfl rfl rfl rfl rfl rfl rfl rfl) rfl ?_
              first | refine appendFl tab rfl rfl rfl rfl rfl rfl rfl rfl rfl rfl rfl rfl (lensB_mem rfl) (Nat.le_of_ble_eq_true rfl) ?_ | refine appendO tab rfl rfl rfl rfl rfl rfl rfl rfl rfl rfl rfl rfl rfl rfl ?_
              refine pu (ev tab rfl) rfl ?_
              refine WO.nil ?_
              refine qs ?_
              refine W.seq ?_
              refine W.region ?_
              refine pu (ev tab rfl) rfl ?_
              try refine unfl 65 rfl rfl ?_
              refine pu (puCall rfl rfl rfl (joinW_fn (wordsE e) wSpace (by unfold wordsE wordsF stackW showsB; simp_all [sc, wSemi, wStop]) (by omega) w3) rfl) rfl ?_
              refine pu (ev tab rfl) rfl ?_
              refine WO.nil ?_
              refine qs ?_
              refine W.ret ?_
              refine QF.ret0 trivial rfl ?_
              rw [hg]; rfl
            · skip
              refine W.skip ?_
              refine qs ?_
              refine W.seq ?_
              refine W.region ?_
              refine pu (ev tab rfl) rfl ?_
              try refine unfl 65 rfl rfl ?_
              refine pu (puCall rfl rfl rfl (joinW_fn (wordsE e) wSpace (by unfold wordsE wordsF stackW showsB; simp_all [sc, wSemi, wStop]) (by omega) w3) rfl) rfl ?_
              refine pu (ev tab rfl) rfl ?_
              refine WO.nil ?_
              refine qs ?_
              refine W.ret ?_
              refine QF.ret0 trivial rfl ?_
              rw [hg]; rfl
      · skip
        refine W.skip ?_
        refine qs ?_
        refine W.seq ?_
        refine W.seq ?_
        refine W.region ?_
        first | refine pu (ev tab rfl) rfl ?_ | refine pu (loadRow tab rfl rfl rfl rfl) rfl ?_ | refine pu (loadBox tab rfl rfl rfl rfl rfl) rfl ?_
        refine pu (ev tab rfl) rfl ?_
        first | refine pu (ev tab rfl) rfl ?_ | refine pu (loadRow tab rfl rfl rfl rfl) rfl ?_ | refine pu (loadBox tab rfl rfl rfl rfl rfl) rfl ?_
        refine pu (puCall rfl rfl rfl (shows_fn ..) rfl) rfl ?_
        refine WO.nil ?_
        refine qs ?_
        refine condK rfl (fun h39 => ?_) (fun h39 => ?_)
        · skip
          refine W.region ?_
          iterate 2 refine pu (ev tab rfl) rfl ?_
          first | refine pu (ev tab rfl) rfl ?_ | refine pu (loadRow tab rfl rfl rfl rfl) rfl ?_ | refine pu (loadBox tab rfl rfl rfl rfl rfl) rfl ?_
          refine pu (puCall rfl rfl rfl (text_fn e.m (int_of g.mIn).1 (int_of g.mIn).2) rfl) rfl ?_
          refine pu (buildV tab rfl rfl rfl rfl rfl rfl rfl rfl rfl) rfl ?_
          first | refine appendFl tab rfl rfl rfl rfl rfl rfl rfl rfl rfl rfl rfl rfl (lensB_mem rfl) (Nat.le_of_ble_eq_true rfl) ?_ | refine appendO tab rfl rfl rfl rfl rfl rfl rfl rfl rfl rfl rfl rfl rfl rfl ?_
          refine pu (ev tab rfl) rfl ?_
          refine WO.nil ?_
          refine qs ?_
          refine W.seq ?_
          refine W.seq ?_
          apply regionB; (case hb => rfl)
          · skip
            refine pu (ev tab rfl) rfl ?_
            first | refine pu (ev tab rfl) rfl ?_ | refine pu (loadRow tab rfl rfl rfl rfl) rfl ?_ | refine pu (loadBox tab rfl rfl rfl rfl rfl) rfl ?_
            refine pu (ev tab rfl) rfl ?_
            apply splitJ; (case hj => rfl); (case hl => rfl)
            · skip
              refine goG rfl rfl ?_
              refine pu (ev tab rfl) rfl ?_
              refine goG rfl rfl ?_
              first | refine pu (ev tab rfl) rfl ?_ | refine pu (loadRow tab rfl rfl rfl rfl) rfl ?_ | refine pu (loadBox tab rfl rfl rfl rfl rfl) rfl ?_
              refine goG rfl rfl ?_
              refine pu (ev tab rfl) rfl ?_
              refine goG rfl rfl ?_
              iterate 2 refine pu (ev tab rfl) rfl ?_
              refine WO.nil ?_
              refine qv1 rfl rfl rfl
            · skip
              refine skipT rfl rfl rfl rfl ?_
              refine skipT rfl rfl rfl rfl ?_
              refine skipT rfl rfl rfl rfl ?_
              refine skipT rfl rfl rfl rfl ?_
              refine pu (ev tab rfl) rfl ?_
              refine WO.nil ?_
              refine qv1 rfl rfl rfl
          refine qs ?_
          refine condK rfl (fun h53 => ?_) (fun h53 => ?_)
          · skip
            refine W.region ?_
            refine pu (ev tab rfl) rfl ?_
            refine pu (buildV tab rfl rfl rfl rfl rfl rfl rfl rfl rfl) rfl ?_
            first | refine appendFl tab rfl rfl rfl rfl rfl rfl rfl rfl rfl rfl rfl rfl (lensB_mem rfl) (Nat.le_of_ble_eq_true rfl) ?_ | refine appendO tab rfl rfl rfl rfl rfl rfl rfl rfl rfl rfl rfl rfl rfl rfl ?_
            refine pu (ev tab rfl) rfl ?_
            refine WO.nil ?_
            refine qs ?_
            refine W.seq ?_
            refine W.region ?_
            refine pu (ev tab rfl) rfl ?_
            try refine unfl 65 rfl rfl ?_
            refine pu (puCall rfl rfl rfl (joinW_fn (wordsE e) wSpace (by unfold wordsE wordsF stackW showsB; simp_all [sc, wSemi, wStop]) (by omega) w3) rfl) rfl ?_
            refine pu (ev tab rfl) rfl ?_
            refine WO.nil ?_
            refine qs ?_
            refine W.ret ?_
            refine QF.ret0 trivial rfl ?_
            rw [hg]; rfl
          · skip
            refine W.seq ?_
            refine W.region ?_
            refine pu (ev tab rfl) rfl ?_
            first | refine pu (ev tab rfl) rfl ?_ | refine pu (loadRow tab rfl rfl rfl rfl) rfl ?_ | refine pu (loadBox tab rfl rfl rfl rfl rfl) rfl ?_
            refine WO.nil ?_
            refine qs ?_
            refine condK rfl (fun h58 => ?_) (fun h58 => ?_)
            · skip
              refine W.region ?_
              iterate 2 refine pu (ev tab rfl) rfl ?_
              first | refine pu (ev tab rfl) rfl ?_ | refine pu (loadRow tab rfl rfl rfl rfl) rfl ?_ | refine pu (loadBox tab rfl rfl rfl rfl rfl) rfl ?_
              refine pu (puCall rfl rfl rfl (join_fn e.stack wSemi (by have := (frames_ok g.frames).1; omega) (by have := g.stackSize; omega)) rfl) rfl ?_
              refine pu (buildV tab rfl rfl rfl rfl rfl rfl rfl rfl rfl) rfl ?_
              first | refine appendFl tab rfl rfl rfl rfl rfl rfl rfl rfl rfl rfl rfl rfl (lensB_mem rfl) (Nat.le_of_ble_eq_true rfl) ?_ | refine appendO tab rfl rfl rfl rfl rfl rfl rfl rfl rfl rfl rfl rfl rfl rfl ?_
              refine pu (ev tab rfl) rfl ?_
              refine WO.nil ?_
              refine qs ?_
              refine W.seq ?_
              refine W.region ?_
              refine pu (ev tab rfl) rfl ?_
              try refine unfl 65 rfl rfl ?_
              refine pu (puCall rfl rfl rfl (joinW_fn (wordsE e) wSpace (by unfold wordsE wordsF stackW showsB; simp_all [sc, wSemi, wStop]) (by omega) w3) rfl) rfl ?_
              refine pu (ev tab rfl) rfl ?_
              refine WO.nil ?_
              refine qs ?_
              refine W.ret ?_
              refine QF.ret0 trivial rfl ?_
              rw [hg]; rfl
            · skip
              refine W.skip ?_
              refine qs ?_
              refine W.seq ?_
              refine W.region ?_
              refine pu (ev tab rfl) rfl ?_
              try refine unfl 65 rfl rfl ?_
              refine pu (puCall rfl rfl rfl (joinW_fn (wordsE e) wSpace (by unfold wordsE wordsF stackW showsB; simp_all [sc, wSemi, wStop]) (by omega) w3) rfl) rfl ?_
              refine pu (ev tab rfl) rfl ?_
              refine WO.nil ?_
              refine qs ?_
              refine W.ret ?_
              refine QF.ret0 trivial rfl ?_
              rw [hg]; rfl
        · skip
          refine W.skip ?_
          refine qs ?_
          refine W.seq ?_
          refine W.seq ?_
          apply regionB; (case hb => rfl)
          · skip
            refine pu (ev tab rfl) rfl ?_
            first | refine pu (ev tab rfl) rfl ?_ | refine pu (loadRow tab rfl rfl rfl rfl) rfl ?_ | refine pu (loadBox tab rfl rfl rfl rfl rfl) rfl ?_
            refine pu (ev tab rfl) rfl ?_
            apply splitJ; (case hj => rfl); (case hl => rfl)
            · skip
              refine goG rfl rfl ?_
              refine pu (ev tab rfl) rfl ?_
              refine goG rfl rfl ?_
              first | refine pu (ev tab rfl) rfl ?_ | refine pu (loadRow tab rfl rfl rfl rfl) rfl ?_ | refine pu (loadBox tab rfl rfl rfl rfl rfl) rfl ?_
              refine goG rfl rfl ?_
              refine pu (ev tab rfl) rfl ?_
              refine goG rfl rfl ?_
              iterate 2 refine pu (ev tab rfl) rfl ?_
              refine WO.nil ?_
              refine qv1 rfl rfl rfl
            · skip
              refine skipT rfl rfl rfl rfl ?_
              refine skipT rfl rfl rfl rfl ?_
              refine skipT rfl rfl rfl rfl ?_
              refine skipT rfl rfl rfl rfl ?_
              refine pu (ev tab rfl) rfl ?_
              refine WO.nil ?_
              refine qv1 rfl rfl rfl
          refine qs ?_
          refine condK rfl (fun h53 => ?_) (fun h53 => ?_)
          · skip
            refine W.region ?_
            refine pu (ev tab rfl) rfl ?_
            refine pu (buildV tab rfl rfl rfl rfl rfl rfl rfl rfl rfl) rfl ?_
            first | refine appendFl tab rfl rfl rfl rfl rfl rfl rfl rfl rfl rfl rfl rfl (lensB_mem rfl) (Nat.le_of_ble_eq_true rfl) ?_ | refine appendO tab rfl rfl rfl rfl rfl rfl rfl rfl rfl rfl rfl rfl rfl rfl ?_
            refine pu (ev tab rfl) rfl ?_
            refine WO.nil ?_
            refine qs ?_
            refine W.seq ?_
            refine W.region ?_
            refine pu (ev tab rfl) rfl ?_
            try refine unfl 65 rfl rfl ?_
            refine pu (puCall rfl rfl rfl (joinW_fn (wordsE e) wSpace (by unfold wordsE wordsF stackW showsB; simp_all [sc, wSemi, wStop]) (by omega) w3) rfl) rfl ?_
            refine pu (ev tab rfl) rfl ?_
            refine WO.nil ?_
            refine qs ?_
            refine W.ret ?_
            refine QF.ret0 trivial rfl ?_
            rw [hg]; rfl
          · skip
            refine W.seq ?_
            refine W.region ?_
            refine pu (ev tab rfl) rfl ?_
            first | refine pu (ev tab rfl) rfl ?_ | refine pu (loadRow tab rfl rfl rfl rfl) rfl ?_ | refine pu (loadBox tab rfl rfl rfl rfl rfl) rfl ?_
            refine WO.nil ?_
            refine qs ?_
            refine condK rfl (fun h58 => ?_) (fun h58 => ?_)
            · skip
              refine W.region ?_
              iterate 2 refine pu (ev tab rfl) rfl ?_
              first | refine pu (ev tab rfl) rfl ?_ | refine pu (loadRow tab rfl rfl rfl rfl) rfl ?_ | refine pu (loadBox tab rfl rfl rfl rfl rfl) rfl ?_
              refine pu (puCall rfl rfl rfl (join_fn e.stack wSemi (by have := (frames_ok g.frames).1; omega) (by have := g.stackSize; omega)) rfl) rfl ?_
              refine pu (buildV tab rfl rfl rfl rfl rfl rfl rfl rfl rfl) rfl ?_
              first | refine appendFl tab rfl rfl rfl rfl rfl rfl rfl rfl rfl rfl rfl rfl (lensB_mem rfl) (Nat.le_of_ble_eq_true rfl) ?_ | refine appendO tab rfl rfl rfl rfl rfl rfl rfl rfl rfl rfl rfl rfl rfl rfl ?_
              refine pu (ev tab rfl) rfl ?_
              refine WO.nil ?_
              refine qs ?_
              refine W.seq ?_
              refine W.region ?_
              refine pu (ev tab rfl) rfl ?_
              try refine unfl 65 rfl rfl ?_
              refine pu (puCall rfl rfl rfl (joinW_fn (wordsE e) wSpace (by unfold wordsE wordsF stackW showsB; simp_all [sc, wSemi, wStop]) (by omega) w3) rfl) rfl ?_
              refine pu (ev tab rfl) rfl ?_
              refine WO.nil ?_
              refine qs ?_
              refine W.ret ?_
              refine QF.ret0 trivial rfl ?_
              rw [hg]; rfl
            · skip
              refine W.skip ?_
              refine qs ?_
              refine W.seq ?_
              refine W.region ?_
              refine pu (ev tab rfl) rfl ?_
              try refine unfl 65 rfl rfl ?_
              refine pu (puCall rfl rfl rfl (joinW_fn (wordsE e) wSpace (by unfold wordsE wordsF stackW showsB; simp_all [sc, wSemi, wStop]) (by omega) w3) rfl) rfl ?_
              refine pu (ev tab rfl) rfl ?_
              refine WO.nil ?_
              refine qs ?_
              refine W.ret ?_
              refine QF.ret0 trivial rfl ?_
              rw [hg]; rfl
    · skip
      refine W.skip ?_
      refine qs ?_
      refine W.seq ?_
      refine W.seq ?_
      refine W.region ?_
      refine pu (ev tab rfl) rfl ?_
      first | refine pu (ev tab rfl) rfl ?_ | refine pu (loadRow tab rfl rfl rfl rfl) rfl ?_ | refine pu (loadBox tab rfl rfl rfl rfl rfl) rfl ?_
      refine WO.nil ?_
      refine qs ?_
      refine condK rfl (fun h29 => ?_) (fun h29 => ?_)
      · skip
        refine W.region ?_
        iterate 2 refine pu (ev tab rfl) rfl ?_
        first | refine pu (ev tab rfl) rfl ?_ | refine pu (loadRow tab rfl rfl rfl rfl) rfl ?_ | refine pu (loadBox tab rfl rfl rfl rfl rfl) rfl ?_
        refine pu (puCall rfl rfl rfl (text_fn e.n (int_of g.nIn).1 (int_of g.nIn).2) rfl) rfl ?_
        refine pu (buildV tab rfl rfl rfl rfl rfl rfl rfl rfl rfl) rfl ?_
        first | refine appendFl tab rfl rfl rfl rfl rfl rfl rfl rfl rfl rfl rfl rfl (lensB_mem rfl) (Nat.le_of_ble_eq_true rfl) ?_ | refine appendO tab rfl rfl rfl rfl rfl rfl rfl rfl rfl rfl rfl rfl rfl rfl ?_
        refine pu (ev tab rfl) rfl ?_
        refine WO.nil ?_
        refine qs ?_
        refine W.seq ?_
        refine W.seq ?_
        refine W.region ?_
        first | refine pu (ev tab rfl) rfl ?_ | refine pu (loadRow tab rfl rfl rfl rfl) rfl ?_ | refine pu (loadBox tab rfl rfl rfl rfl rfl) rfl ?_
        refine pu (ev tab rfl) rfl ?_
        first | refine pu (ev tab rfl) rfl ?_ | refine pu (loadRow tab rfl rfl rfl rfl) rfl ?_ | refine pu (loadBox tab rfl rfl rfl rfl rfl) rfl ?_
        refine pu (puCall rfl rfl rfl (shows_fn ..) rfl) rfl ?_
        refine WO.nil ?_
        refine qs ?_
        refine condK rfl (fun h39 => ?_) (fun h39 => ?_)
        · skip
          refine W.region ?_
          iterate 2 refine pu (ev tab rfl) rfl ?_
          first | refine pu (ev tab rfl) rfl ?_ | refine pu (loadRow tab rfl rfl rfl rfl) rfl ?_ | refine pu (loadBox tab rfl rfl rfl rfl rfl) rfl ?_
          refine pu (puCall rfl rfl rfl (text_fn e.m (int_of g.mIn).1 (int_of g.mIn).2) rfl) rfl ?_
          refine pu (buildV tab rfl rfl rfl rfl rfl rfl rfl rfl rfl) rfl ?_
          first | refine appendFl tab rfl rfl rfl rfl rfl rfl rfl rfl rfl rfl rfl rfl (lensB_mem rfl) (Nat.le_of_ble_eq_true rfl) ?_ | refine appendO tab rfl rfl rfl rfl rfl rfl rfl rfl rfl rfl rfl rfl rfl rfl ?_
          refine pu (ev tab rfl) rfl ?_
          refine WO.nil ?_
          refine qs ?_
          refine W.seq ?_
          refine W.seq ?_
          apply regionB; (case hb => rfl)
          · skip
            refine pu (ev tab rfl) rfl ?_
            first | refine pu (ev tab rfl) rfl ?_ | refine pu (loadRow tab rfl rfl rfl rfl) rfl ?_ | refine pu (loadBox tab rfl rfl rfl rfl rfl) rfl ?_
            refine pu (ev tab rfl) rfl ?_
            apply splitJ; (case hj => rfl); (case hl => rfl)
            · skip
              refine goG rfl rfl ?_
              refine pu (ev tab rfl) rfl ?_
              refine goG rfl rfl ?_
              first | refine pu (ev tab rfl) rfl ?_ | refine pu (loadRow tab rfl rfl rfl rfl) rfl ?_ | refine pu (loadBox tab rfl rfl rfl rfl rfl) rfl ?_
              refine goG rfl rfl ?_
              refine pu (ev tab rfl) rfl ?_
              refine goG rfl rfl ?_
              iterate 2 refine pu (ev tab rfl) rfl ?_
              refine WO.nil ?_
              refine qv1 rfl rfl rfl
            · skip
              refine skipT rfl rfl rfl rfl ?_
              refine skipT rfl rfl rfl rfl ?_
              refine skipT rfl rfl rfl rfl ?_
              refine skipT rfl rfl rfl rfl ?_
              refine pu (ev tab rfl) rfl ?_
              refine WO.nil ?_
              refine qv1 rfl rfl rfl
          refine qs ?_
          refine condK rfl (fun h53 => ?_) (fun h53 => ?_)
          · skip
            refine W.region ?_
            refine pu (ev tab rfl) rfl ?_
            refine pu (buildV tab rfl rfl rfl rfl rfl rfl rfl rfl rfl) rfl ?_
            first | refine appendFl tab rfl rfl rfl rfl rfl rfl rfl rfl rfl rfl rfl rfl (lensB_mem rfl) (Nat.le_of_ble_eq_true rfl) ?_ | refine appendO tab rfl rfl rfl rfl rfl rfl rfl rfl rfl rfl rfl rfl rfl rfl ?_
            refine pu (ev tab rfl) rfl ?_
            refine WO.nil ?_
            refine qs ?_
            refine W.seq ?_
            refine W.region ?_
            refine pu (ev tab rfl) rfl ?_
            try refine unfl 65 rfl rfl ?_
            refine pu (puCall rfl rfl rfl (joinW_fn (wordsE e) wSpace (by unfold wordsE wordsF stackW showsB; simp_all [sc, wSemi, wStop]) (by omega) w3) rfl) rfl ?_
            refine pu (ev tab rfl) rfl ?_
            refine WO.nil ?_
            refine qs ?_
            refine W.ret ?_
            refine QF.ret0 trivial rfl ?_
            rw [hg]; rfl
          · skip
            refine W.seq ?_
            refine W.region ?_
            refine pu (ev tab rfl) rfl ?_
            first | refine pu (ev tab rfl) rfl ?_ | refine pu (loadRow tab rfl rfl rfl rfl) rfl ?_ | refine pu (loadBox tab rfl rfl rfl rfl rfl) rfl ?_
            refine WO.nil ?_
            refine qs ?_
            refine condK rfl (fun h58 => ?_) (fun h58 => ?_)
            · skip
              refine W.region ?_
              iterate 2 refine pu (ev tab rfl) rfl ?_
              first | refine pu (ev tab rfl) rfl ?_ | refine pu (loadRow tab rfl rfl rfl rfl) rfl ?_ | refine pu (loadBox tab rfl rfl rfl rfl rfl) rfl ?_
              refine pu (puCall rfl rfl rfl (join_fn e.stack wSemi (by have := (frames_ok g.frames).1; omega) (by have := g.stackSize; omega)) rfl) rfl ?_
              refine pu (buildV tab rfl rfl rfl rfl rfl rfl rfl rfl rfl) rfl ?_
              first | refine appendFl tab rfl rfl rfl rfl rfl rfl rfl rfl rfl rfl rfl rfl (lensB_mem rfl) (Nat.le_of_ble_eq_true rfl) ?_ | refine appendO tab rfl rfl rfl rfl rfl rfl rfl rfl rfl rfl rfl rfl rfl rfl ?_
              refine pu (ev tab rfl) rfl ?_
              refine WO.nil ?_
              refine qs ?_
              refine W.seq ?_
              refine W.region ?_
              refine pu (ev tab rfl) rfl ?_
              try refine unfl 65 rfl rfl ?_
              refine pu (puCall rfl rfl rfl (joinW_fn (wordsE e) wSpace (by unfold wordsE wordsF stackW showsB; simp_all [sc, wSemi, wStop]) (by omega) w3) rfl) rfl ?_
              refine pu (ev tab rfl) rfl ?_
              refine WO.nil ?_
              refine qs ?_
              refine W.ret ?_
              refine QF.ret0 trivial rfl ?_
              rw [hg]; rfl
            · skip
              refine W.skip ?_
              refine qs ?_
              refine W.seq ?_
              refine W.region ?_
              refine pu (ev tab rfl) rfl ?_
              try refine unfl 65 rfl rfl ?_
              refine pu (puCall rfl rfl rfl (joinW_fn (wordsE e) wSpace (by unfold wordsE wordsF stackW showsB; simp_all [sc, wSemi, wStop]) (by omega) w3) rfl) rfl ?_
              refine pu (ev tab rfl) rfl ?_
              refine WO.nil ?_
              refine qs ?_
              refine W.ret ?_
              refine QF.ret0 trivial rfl ?_
              rw [hg]; rfl
        · skip
          refine W.skip ?_
          refine qs ?_
          refine W.seq ?_
          refine W.seq ?_
          apply regionB; (case hb => rfl)
          · skip
            refine pu (ev tab rfl) rfl ?_
            first | refine pu (ev tab rfl) rfl ?_ | refine pu (loadRow tab rfl rfl rfl rfl) rfl ?_ | refine pu (loadBox tab rfl rfl rfl rfl rfl) rfl ?_
            refine pu (ev tab rfl) rfl ?_
            apply splitJ; (case hj => rfl); (case hl => rfl)
            · skip
              refine goG rfl rfl ?_
              refine pu (ev tab rfl) rfl ?_
              refine goG rfl rfl ?_
              first | refine pu (ev tab rfl) rfl ?_ | refine pu (loadRow tab rfl rfl rfl rfl) rfl ?_ | refine pu (loadBox tab rfl rfl rfl rfl rfl) rfl ?_
              refine goG rfl rfl ?_
              refine pu (ev tab rfl) rfl ?_
              refine goG rfl rfl ?_
              iterate 2 refine pu (ev tab rfl) rfl ?_
              refine WO.nil ?_
              refine qv1 rfl rfl rfl
            · skip
              refine skipT rfl rfl rfl rfl ?_
              refine skipT rfl rfl rfl rfl ?_
              refine skipT rfl rfl rfl rfl ?_
              refine skipT rfl rfl rfl rfl ?_
              refine pu (ev tab rfl) rfl ?_
              refine WO.nil ?_
              refine qv1 rfl rfl rfl
          refine qs ?_
          refine condK rfl (fun h53 => ?_) (fun h53 => ?_)
          · skip
            refine W.region ?_
            refine pu (ev tab rfl) rfl ?_
            refine pu (buildV tab rfl rfl rfl rfl rfl rfl rfl rfl rfl) rfl ?_
            first | refine appendFl tab rfl rfl rfl rfl rfl rfl rfl rfl rfl rfl rfl rfl (lensB_mem rfl) (Nat.le_of_ble_eq_true rfl) ?_ | refine appendO tab rfl rfl rfl rfl rfl rfl rfl rfl rfl rfl rfl rfl rfl rfl ?_
            refine pu (ev tab rfl) rfl ?_
            refine WO.nil ?_
            refine qs ?_
            refine W.seq ?_
            refine W.region ?_
            refine pu (ev tab rfl) rfl ?_
            try refine unfl 65 rfl rfl ?_
            refine pu (puCall rfl rfl rfl (joinW_fn (wordsE e) wSpace (by unfold wordsE wordsF stackW showsB; simp_all [sc, wSemi, wStop]) (by omega) w3) rfl) rfl ?_
            refine pu (ev tab rfl) rfl ?_
            refine WO.nil ?_
            refine qs ?_
            refine W.ret ?_
            refine QF.ret0 trivial rfl ?_
            rw [hg]; rfl
          · skip
            refine W.seq ?_
            refine W.region ?_
            refine pu (ev tab rfl) rfl ?_
            first | refine pu (ev tab rfl) rfl ?_ | refine pu (loadRow tab rfl rfl rfl rfl) rfl ?_ | refine pu (loadBox tab rfl rfl rfl rfl rfl) rfl ?_
            refine WO.nil ?_
            refine qs ?_
            refine condK rfl (fun h58 => ?_) (fun h58 => ?_)
            · skip
              refine W.region ?_
              iterate 2 refine pu (ev tab rfl) rfl ?_
              first | refine pu (ev tab rfl) rfl ?_ | refine pu (loadRow tab rfl rfl rfl rfl) rfl ?_ | refine pu (loadBox tab rfl rfl rfl rfl rfl) rfl ?_
              refine pu (puCall rfl rfl rfl (join_fn e.stack wSemi (by have := (frames_ok g.frames).1; omega) (by have := g.stackSize; omega)) rfl) rfl ?_
              refine pu (buildV tab rfl rfl rfl rfl rfl rfl rfl rfl rfl) rfl ?_
              first | refine appendFl tab rfl rfl rfl rfl rfl rfl rfl rfl rfl rfl rfl rfl (lensB_mem rfl) (Nat.le_of_ble_eq_true rfl) ?_ | refine appendO tab rfl rfl rfl rfl rfl rfl rfl rfl rfl rfl rfl rfl rfl rfl ?_
              refine pu (ev tab rfl) rfl ?_
              refine WO.nil ?_
              refine qs ?_
              refine W.seq ?_
              refine W.region ?_
              refine pu (ev tab rfl) rfl ?_
              try refine unfl 65 rfl rfl ?_
              refine pu (puCall rfl rfl rfl (joinW_fn (wordsE e) wSpace (by unfold wordsE wordsF stackW showsB; simp_all [sc, wSemi, wStop]) (by omega) w3) rfl) rfl ?_
              refine pu (ev tab rfl) rfl ?_
              refine WO.nil ?_
              refine qs ?_
              refine W.ret ?_
              refine QF.ret0 trivial rfl ?_
              rw [hg]; rfl
            · skip
              refine W.skip ?_
              refine qs ?_
              refine W.seq ?_
              refine W.region ?_
              refine pu (ev tab rfl) rfl ?_
              try refine unfl 65 rfl rfl ?_
              refine pu (puCall rfl rfl rfl (joinW_fn (wordsE e) wSpace (by unfold wordsE wordsF stackW showsB; simp_all [sc, wSemi, wStop]) (by omega) w3) rfl) rfl ?_
              refine pu (ev tab rfl) rfl ?_
              refine WO.nil ?_
              refine qs ?_
              refine W.ret ?_
              refine QF.ret0 trivial rfl ?_
              rw [hg]; rfl
      · skip
        refine W.skip ?_
        refine qs ?_
        refine W.seq ?_
        refine W.seq ?_
        refine W.region ?_
        first | refine pu (ev tab rfl) rfl ?_ | refine pu (loadRow tab rfl rfl rfl rfl) rfl ?_ | refine pu (loadBox tab rfl rfl rfl rfl rfl) rfl ?_
        refine pu (ev tab rfl) rfl ?_
        first | refine pu (ev tab rfl) rfl ?_ | refine pu (loadRow tab rfl rfl rfl rfl) rfl ?_ | refine pu (loadBox tab rfl rfl rfl rfl rfl) rfl ?_
        refine pu (puCall rfl rfl rfl (shows_fn ..) rfl) rfl ?_
        refine WO.nil ?_
        refine qs ?_
        refine condK rfl (fun h39 => ?_) (fun h39 => ?_)
        · skip
          refine W.region ?_
          iterate 2 refine pu (ev tab rfl) rfl ?_
          first | refine pu (ev tab rfl) rfl ?_ | refine pu (loadRow tab rfl rfl rfl rfl) rfl ?_ | refine pu (loadBox tab rfl rfl rfl rfl rfl) rfl ?_
          refine pu (puCall rfl rfl rfl (text_fn e.m (int_of g.mIn).1 (int_of g.mIn).2) rfl) rfl ?_
          refine pu (buildV tab rfl rfl rfl rfl rfl rfl rfl rfl rfl) rfl ?_
          first | refine appendFl tab rfl rfl rfl rfl rfl rfl rfl rfl rfl rfl rfl rfl (lensB_mem rfl) (Nat.le_of_ble_eq_true rfl) ?_ | refine appendO tab rfl rfl rfl rfl rfl rfl rfl rfl rfl rfl rfl rfl rfl rfl ?_
          refine pu (ev tab rfl) rfl ?_
          refine WO.nil ?_
          refine qs ?_
          refine W.seq ?_
          refine W.seq ?_
          apply regionB; (case hb => rfl)
          · skip
            refine pu (ev tab rfl) rfl ?_
            first | refine pu (ev tab rfl) rfl ?_ | refine pu (loadRow tab rfl rfl rfl rfl) rfl ?_ | refine pu (loadBox tab rfl rfl rfl rfl rfl) rfl ?_
            refine pu (ev tab rfl) rfl ?_
            apply splitJ; (case hj => rfl); (case hl => rfl)
            · skip
              refine goG rfl rfl ?_
              refine pu (ev tab rfl) rfl ?_
              refine goG rfl rfl ?_
              first | refine pu (ev tab rfl) rfl ?_ | refine pu (loadRow tab rfl rfl rfl rfl) rfl ?_ | refine pu (loadBox tab rfl rfl rfl rfl rfl) rfl ?_
              refine goG rfl rfl ?_
              refine pu (ev tab rfl) rfl ?_
              refine goG rfl rfl ?_
              iterate 2 refine pu (ev tab rfl) rfl ?_
              refine WO.nil ?_
              refine qv1 rfl rfl rfl
            · skip
              refine skipT rfl rfl rfl rfl ?_
              refine skipT rfl rfl rfl rfl ?_
              refine skipT rfl rfl rfl rfl ?_
              refine skipT rfl rfl rfl rfl ?_
              refine pu (ev tab rfl) rfl ?_
              refine WO.nil ?_
              refine qv1 rfl rfl rfl
          refine qs ?_
          refine condK rfl (fun h53 => ?_) (fun h53 => ?_)
          · skip
            refine W.region ?_
            refine pu (ev tab rfl) rfl ?_
            refine pu (buildV tab rfl rfl rfl rfl rfl rfl rfl rfl rfl) rfl ?_
            first | refine appendFl tab rfl rfl rfl rfl rfl rfl rfl rfl rfl rfl rfl rfl (lensB_mem rfl) (Nat.le_of_ble_eq_true rfl) ?_ | refine appendO tab rfl rfl rfl rfl rfl rfl rfl rfl rfl rfl rfl rfl rfl rfl ?_
            refine pu (ev tab rfl) rfl ?_
            refine WO.nil ?_
            refine qs ?_
            refine W.seq ?_
            refine W.region ?_
            refine pu (ev tab rfl) rfl ?_
            try refine unfl 65 rfl rfl ?_
            refine pu (puCall rfl rfl rfl (joinW_fn (wordsE e) wSpace (by unfold wordsE wordsF stackW showsB; simp_all [sc, wSemi, wStop]) (by omega) w3) rfl) rfl ?_
            refine pu (ev tab rfl) rfl ?_
            refine WO.nil ?_
            refine qs ?_
            refine W.ret ?_
            refine QF.ret0 trivial rfl ?_
            rw [hg]; rfl
          · skip
            refine W.seq ?_
            refine W.region ?_
            refine pu (ev tab rfl) rfl ?_
            first | refine pu (ev tab rfl) rfl ?_ | refine pu (loadRow tab rfl rfl rfl rfl) rfl ?_ | refine pu (loadBox tab rfl rfl rfl rfl rfl) rfl ?_
            refine WO.nil ?_
            refine qs ?_
            refine condK rfl (fun h58 => ?_) (fun h58 => ?_)
            · skip
              refine W.region ?_
              iterate 2 refine pu (ev tab rfl) rfl ?_
              first | refine pu (ev tab rfl) rfl ?_ | refine pu (loadRow tab rfl rfl rfl rfl) rfl ?_ | refine pu (loadBox tab rfl rfl rfl rfl rfl) rfl ?_
              refine pu (puCall rfl rfl rfl (join_fn e.stack wSemi (by have := (frames_ok g.frames).1; omega) (by have := g.stackSize; omega)) rfl) rfl ?_
              refine pu (buildV tab rfl rfl rfl rfl rfl rfl rfl rfl rfl) rfl ?_
              first | refine appendFl tab rfl rfl rfl rfl rfl rfl rfl rfl rfl rfl rfl rfl (lensB_mem rfl) (Nat.le_of_ble_eq_true rfl) ?_ | refine appendO tab rfl rfl rfl rfl rfl rfl rfl rfl rfl rfl rfl rfl rfl rfl ?_
              refine pu (ev tab rfl) rfl ?_
              refine WO.nil ?_
              refine qs ?_
              refine W.seq ?_
              refine W.region ?_
              refine pu (ev tab rfl) rfl ?_
              try refine unfl 65 rfl rfl ?_
              refine pu (puCall rfl rfl rfl (joinW_fn (wordsE e) wSpace (by unfold wordsE wordsF stackW showsB; simp_all [sc, wSemi, wStop]) (by omega) w3) rfl) rfl ?_
              refine pu (ev tab rfl) rfl ?_
              refine WO.nil ?_
              refine qs ?_
              refine W.ret ?_
              refine QF.ret0 trivial rfl ?_
              rw [hg]; rfl
            · skip
              refine W.skip ?_
              refine qs ?_
              refine W.seq ?_
              refine W.region ?_
              refine pu (ev tab rfl) rfl ?_
              try refine unfl 65 rfl rfl ?_
              refine pu (puCall rfl rfl rfl (joinW_fn (wordsE e) wSpace (by unfold wordsE wordsF stackW showsB; simp_all [sc, wSemi, wStop]) (by omega) w3) rfl) rfl ?_
              refine pu (ev tab rfl) rfl ?_
              refine WO.nil ?_
              refine qs ?_
              refine W.ret ?_
              refine QF.ret0 trivial rfl ?_
              rw [hg]; rfl
        · skip
          refine W.skip ?_
          refine qs ?_
          refine W.seq ?_
          refine W.seq ?_
          apply regionB; (case hb => rfl)
          · skip
            refine pu (ev tab rfl) rfl ?_
            first | refine pu (ev tab rfl) rfl ?_ | refine pu (loadRow tab rfl rfl rfl rfl) rfl ?_ | refine pu (loadBox tab rfl rfl rfl rfl rfl) rfl ?_
            refine pu (ev tab rfl) rfl ?_
            apply splitJ; (case hj => rfl); (case hl => rfl)
            · skip
              refine goG rfl rfl ?_
              refine pu (ev tab rfl) rfl ?_
              refine goG rfl rfl ?_
              first | refine pu (ev tab rfl) rfl ?_ | refine pu (loadRow tab rfl rfl rfl rfl) rfl ?_ | refine pu (loadBox tab rfl rfl rfl rfl rfl) rfl ?_
              refine goG rfl rfl ?_
              refine pu (ev tab rfl) rfl ?_
              refine goG rfl rfl ?_
              iterate 2 refine pu (ev tab rfl) rfl ?_
              refine WO.nil ?_
              refine qv1 rfl rfl rfl
            · skip
              refine skipT rfl rfl rfl rfl ?_
              refine skipT rfl rfl rfl rfl ?_
              refine skipT rfl rfl rfl rfl ?_
              refine skipT rfl rfl rfl rfl ?_
              refine pu (ev tab rfl) rfl ?_
              refine WO.nil ?_
              refine qv1 rfl rfl rfl
          refine qs ?_
          refine condK rfl (fun h53 => ?_) (fun h53 => ?_)
          · skip
            refine W.region ?_
            refine pu (ev tab rfl) rfl ?_
            refine pu (buildV tab rfl rfl rfl rfl rfl rfl rfl rfl rfl) rfl ?_
            first | refine appendFl tab rfl rfl rfl rfl rfl rfl rfl rfl rfl rfl rfl rfl (lensB_mem rfl) (Nat.le_of_ble_eq_true rfl) ?_ | refine appendO tab rfl rfl rfl rfl rfl rfl rfl rfl rfl rfl rfl rfl rfl rfl ?_
            refine pu (ev tab rfl) rfl ?_
            refine WO.nil ?_
            refine qs ?_
            refine W.seq ?_
            refine W.region ?_
            refine pu (ev tab rfl) rfl ?_
            try refine unfl 65 rfl rfl ?_
            refine pu (puCall rfl rfl rfl (joinW_fn (wordsE e) wSpace (by unfold wordsE wordsF stackW showsB; simp_all [sc, wSemi, wStop]) (by omega) w3) rfl) rfl ?_
            refine pu (ev tab rfl) rfl ?_
            refine WO.nil ?_
            refine qs ?_
            refine W.ret ?_
            refine QF.ret0 trivial rfl ?_
            rw [hg]; rfl
          · skip
            refine W.seq ?_
            refine W.region ?_
            refine pu (ev tab rfl) rfl ?_
            first | refine pu (ev tab rfl) rfl ?_ | refine pu (loadRow tab rfl rfl rfl rfl) rfl ?_ | refine pu (loadBox tab rfl rfl rfl rfl rfl) rfl ?_
            refine WO.nil ?_
            refine qs ?_
            refine condK rfl (fun h58 => ?_) (fun h58 => ?_)
            · skip
              refine W.region ?_
              iterate 2 refine pu (ev tab rfl) rfl ?_
              first | refine pu (ev tab rfl) rfl ?_ | refine pu (loadRow tab rfl rfl rfl rfl) rfl ?_ | refine pu (loadBox tab rfl rfl rfl rfl rfl) rfl ?_
              refine pu (puCall rfl rfl rfl (join_fn e.stack wSemi (by have := (frames_ok g.frames).1; omega) (by have := g.stackSize; omega)) rfl) rfl ?_
              refine pu (buildV tab rfl rfl rfl rfl rfl rfl rfl rfl rfl) rfl ?_
              first | refine appendFl tab rfl rfl rfl rfl rfl rfl rfl rfl rfl rfl rfl rfl (lensB_mem rfl) (Nat.le_of_ble_eq_true rfl) ?_ | refine appendO tab rfl rfl rfl rfl rfl rfl rfl rfl rfl rfl rfl rfl rfl rfl ?_
              refine pu (ev tab rfl) rfl ?_
              refine WO.nil ?_
              refine qs ?_
              refine W.seq ?_
              refine W.region ?_
              refine pu (ev tab rfl) rfl ?_
              try refine unfl 65 rfl rfl ?_
              refine pu (puCall rfl rfl rfl (joinW_fn (wordsE e) wSpace (by unfold wordsE wordsF stackW showsB; simp_all [sc, wSemi, wStop]) (by omega) w3) rfl) rfl ?_
              refine pu (ev tab rfl) rfl ?_
              refine WO.nil ?_
              refine qs ?_
              refine W.ret ?_
              refine QF.ret0 trivial rfl ?_
              rw [hg]; rfl
            · skip
              refine W.skip ?_
              refine qs ?_
              refine W.seq ?_
              refine W.region ?_
              refine pu (ev tab rfl) rfl ?_
              try refine unfl 65 rfl rfl ?_
              refine pu (puCall rfl rfl rfl (joinW_fn (wordsE e) wSpace (by unfold wordsE wordsF stackW showsB; simp_all [sc, wSemi, wStop]) (by omega) w3) rfl) rfl ?_
              refine pu (ev tab rfl) rfl ?_
              refine WO.nil ?_
              refine qs ?_
              refine W.ret ?_
              refine QF.ret0 trivial rfl ?_
              rw [hg]; rfl
end Go.Proofs.YtifeonoehfffmaaDoor
namespace Go.Proofs.YtifeonoehfffmaaDoor
open Go.Ab Go.Tb
set_option maxRecDepth 10000
attribute [local irreducible] W WO Pu QS QB QL QF QV QV1 CH QE
end Go.Proofs.YtifeonoehfffmaaDoor
namespace Go.Proofs.YtifeonoehfffmaaDoor
open Go.Ab Go.Tb
set_option maxRecDepth 10000
attribute [local irreducible] W WO Pu QS QB QL QF QV QV1 CH QE
@[reducible] def ev0n : List A := [.d (ci 0), .d (ci 0), .d (cs (B #[])), .d (ci 0), .d (ci 0), .d (.v (.slice none 0 0))]
@[reducible] def evB (t k : Int) (name : ByteArray) (n m : Int) : List A := [.d (ci t), .d (ci k), .d (cs name), .d (ci n), .d (ci m), .d (.v (.slice none 0 0))]
theorem kindF_fn (w : ByteArray) : Does Tryd.prog 36 [.d (.sl (frms.map Frm.c)), .clo 38 [.row [.d (.v (.string w))]]] (.d (.v (.int .i64 (kindW w)))) 0 :=
  idxFrm_fn _ _ ⟨fun _ _ => rfl, rfl⟩ _ (isWord_fn w) frms
theorem eparse_fn (s : ByteArray) (hs : s.size ≤ 1000000) : Does Tryd.prog 15 [.d (.v (.string s))] (.tup [.ag (parseE s).1.c, .d (.v (.int .i64 (parseE s).2))]) 0 := by
  refine Does.of_V tab (n := 84) (rs := [.cell 2 25, .tmp 3]) Tryd.func15 (by kernel_rfl) rfl Tryd.ntmps15 Tryd.results15 rfl fun C hC hG => ?_
  refine W.seq ?_
  refine W.region ?_
  refine allocR tab rfl rfl rfl ?_
  refine pu (ev tab rfl) rfl ?_
  refine WO.nil ?_
  refine qs ?_
  refine W.seq ?_
  refine W.seq ?_
  refine W.region ?_
  iterate 3 refine pu (ev tab rfl) rfl ?_
  refine WO.nil ?_
  refine qs ?_
  refine condK rfl (fun h13 => ?_) (fun h13 => ?_)
  · skip
    have hg : parseE s = (ev0, 7) := by unfold parseE; rw [if_pos (by simp at h13; omega)]
    refine W.seq ?_
    refine W.region ?_
    refine pu (build tab rfl rfl rfl rfl) rfl ?_
    refine storeR tab rfl rfl rfl rfl rfl rfl rfl rfl ?_
    refine pu (ev tab rfl) rfl ?_
    refine WO.nil ?_
    refine qs ?_
    try refine nilBox 0 5 rfl rfl rfl ?_
    refine W.ret ?_
    refine qsRet ?_
    refine QV.ret0 tab trivial rfl ?_
    rw [hg]; rfl
  · skip
    have h2000 : ¬ 2000 < s.size := by simp at h13; omega
    have hsz := cutB_le (s := s) (c := 32) (m := 2000) (by omega)
    have hg0 : parseE s = if kindW (takeW (takeN (cutB s 32, false)).2).1 < 0 then (ev0, 10) else if (readP (cutB s 32)).2.2 = true ∨ 0 < (readP (cutB s 32)).2.1.length ∨ textE (readP (cutB s 32)).1 ≠ s then (ev0, 10) else ((readP (cutB s 32)).1, 0) := by unfold parseE; rw [if_neg h2000]
    generalize hws : cutB s 32 = ws at hg0 hsz
    refine W.skip ?_
    refine qs ?_
    refine W.seq ?_
    refine W.region ?_
    refine pu (ev tab rfl) rfl ?_
    refine pu (puCall rfl rfl rfl (hws ▸ split_fn s 32 hs) rfl) rfl ?_
    refine pu (build tab rfl rfl rfl rfl) rfl ?_
    refine boxR rfl rfl rfl ?_
    refine pu (ev tab rfl) rfl ?_
    refine WO.nil ?_
    refine qs ?_
    refine W.seq ?_
    refine W.region ?_
    refine pu (ev tab rfl) rfl ?_
    refine callB [1] [] rfl rfl rfl rfl rfl ((takeNum_fn ws false (Nat.le_trans (hd_le hsz) (by decide)))) rfl rfl (by rfl) (by rfl) rfl rfl rfl rfl ?_
    refine pu (build tab rfl rfl rfl rfl) rfl ?_
    refine allocR tab rfl rfl rfl ?_
    refine storeR tab rfl rfl rfl rfl rfl rfl rfl rfl ?_
    refine WO.nil ?_
    refine qs ?_
    refine W.seq ?_
    refine W.region ?_
    refine pu (ev tab rfl) rfl ?_
    refine callB [1] [] rfl rfl rfl rfl rfl ((take_fn _ _)) rfl rfl (by rfl) (by rfl) rfl rfl rfl rfl ?_
    refine allocR tab rfl rfl rfl ?_
    refine storeR tab rfl rfl rfl rfl rfl rfl rfl rfl ?_
    refine WO.nil ?_
    refine qs ?_
    refine W.seq ?_
    refine W.region ?_
    refine pu (puCall rfl rfl rfl forms_fn rfl) rfl ?_
    refine pu (ev tab rfl) rfl ?_
    refine pu (puCall rfl rfl rfl (kindF_fn _) rfl) rfl ?_
    refine pu (ev tab rfl) rfl ?_
    refine WO.nil ?_
    refine qs ?_
    refine W.seq ?_
    refine W.seq ?_
    refine W.region ?_
    iterate 2 refine pu (ev tab rfl) rfl ?_
    refine WO.nil ?_
    refine qs ?_
    refine condK rfl (fun h28 => ?_) (fun h28 => ?_)
    · skip
      have hg : parseE s = (ev0, 10) := by rw [hg0, if_pos (by simpa [takeW, takeN] using h28)]
      refine W.seq ?_
      refine W.region ?_
      refine pu (build tab rfl rfl rfl rfl) rfl ?_
      refine storeR tab rfl rfl rfl rfl rfl rfl rfl rfl ?_
      refine pu (ev tab rfl) rfl ?_
      refine WO.nil ?_
      refine qs ?_
      try refine nilBox 0 5 rfl rfl rfl ?_
      refine W.ret ?_
      refine qsRet ?_
      refine QV.ret0 tab trivial rfl ?_
      rw [hg]; rfl
    · skip
      have hkn : ¬ kindW (takeW (takeN (ws, false)).2).1 < 0 := by simpa [takeW, takeN] using h28
      rw [if_neg hkn] at hg0
      obtain ⟨K, hK⟩ : ∃ K, K = kindW (takeW (takeN (ws, false)).2).1 := ⟨_, rfl⟩
      obtain ⟨S2, hS⟩ : ∃ S2, S2 = (takeW (takeN (ws, false)).2).2 := ⟨_, rfl⟩
      obtain ⟨T0, hT⟩ : ∃ T0, T0 = (takeN (ws, false)).1 := ⟨_, rfl⟩
      obtain ⟨c, hC⟩ : ∃ c, c = if (frmOf K).name then takeW S2 else (B #[], S2) := ⟨_, rfl⟩
      obtain ⟨d, hD⟩ : ∃ d, d = if (frmOf K).n then takeN c.2 else (0, c.2) := ⟨_, rfl⟩
      obtain ⟨m, hM⟩ : ∃ m, m = if showsB (frmOf K) d.1 then takeN d.2 else (0, d.2) := ⟨_, rfl⟩
      obtain ⟨t, hTt⟩ : ∃ t, t = if (frmOf K).stack then takeW m.2 else (wSemi, m.2) := ⟨_, rfl⟩
      obtain ⟨st, hst⟩ : ∃ st, st = if t.1 = wSemi then [] else cutB t.1 59 := ⟨_, rfl⟩
      have hR : readP ws = (⟨T0, K, c.1, d.1, m.1, st⟩, t.2) := by subst hst; subst hTt; subst hM; subst hD; subst hC; subst hT; subst hS; subst hK; rfl
      rw [hR] at hg0
      have z2 : ∀ w ∈ S2.1, w.size ≤ 2000 := by rw [hS]; exact tl_le (tl_le hsz)
      have zc : ∀ w ∈ c.2.1, w.size ≤ 2000 := by rw [hC]; split; exact tl_le z2; exact z2
      have zd : ∀ w ∈ d.2.1, w.size ≤ 2000 := by rw [hD]; split; exact tl_le zc; exact zc
      have zm : ∀ w ∈ m.2.1, w.size ≤ 2000 := by rw [hM]; split; exact tl_le zd; exact zd
      refine W.skip ?_
      refine qs ?_
      refine W.seq ?_
      refine W.region ?_
      iterate 2 refine pu (ev tab rfl) rfl ?_
      refine storeR tab rfl rfl rfl rfl rfl rfl rfl rfl ?_
      refine WO.nil ?_
      refine qs ?_
      refine W.seq ?_
      refine W.region ?_
      refine pu (ev tab rfl) rfl ?_
      first | refine pu (ev tab rfl) rfl ?_ | refine pu (loadRow tab rfl rfl rfl rfl) rfl ?_ | refine pu (loadBox tab rfl rfl rfl rfl rfl) rfl ?_
      refine pu (puCall rfl rfl rfl (formOf_fn (kindW _)) rfl) rfl ?_
      iterate 3 refine pu (ev tab rfl) rfl ?_
      refine allocR tab rfl rfl rfl ?_
      refine storeR tab rfl rfl rfl rfl rfl rfl rfl rfl ?_
      refine pu (ev tab rfl) rfl ?_
      refine WO.nil ?_
      refine qs ?_
      refine W.seq ?_
      refine W.seq ?_
      refine W.region ?_
      refine pu (ev tab rfl) rfl ?_
      first | refine pu (ev tab rfl) rfl ?_ | refine pu (loadRow tab rfl rfl rfl rfl) rfl ?_ | refine pu (loadBox tab rfl rfl rfl rfl rfl) rfl ?_
      refine WO.nil ?_
      refine qs ?_
      refine W.cutS [(0, .d (.v (.string (s)))), (2, .ptr 0 0), (4, .ptr 1 0), (5, .ptr 2 0), (8, .ptr 3 0)] [] [(0, ev0n), (1, rb c.2.1 c.2.2), (2, evB T0 K c.1 0 0), (3, (frmOf K).c.map A.d)] [] [] 4 ?_ ?_
      · skip
        refine condK rfl (fun h39 => ?_) (fun h39 => ?_)
        · skip
          have hc' : c = takeW S2 := by rw [hC, hK]; exact if_pos h39
          refine W.region ?_
          refine pu (ev tab rfl) rfl ?_
          refine callB [1] [] rfl rfl rfl rfl rfl ((take_fn _ _)) rfl rfl (by rfl) (by rfl) rfl rfl rfl rfl ?_
          refine pu (ev tab rfl) rfl ?_
          refine storeR tab rfl rfl rfl rfl rfl rfl rfl rfl ?_
          refine WO.nil ?_
          refine cutEnd [0, 1, 3, 6] rfl ?_ trivial ?_ trivial rfl
          · repeat' first | exact trivial | refine ⟨rfl, ?_⟩ | refine ⟨step_nat (by assumption) (by assumption), ?_⟩
          · rw [hc', hS, hK, hT]
            repeat' first | exact trivial | refine ⟨rfl, ?_⟩
        · skip
          have hc' : c = (B #[], S2) := by rw [hC, hK]; exact if_neg (fun q => Bool.noConfusion (q.symm.trans h39))
          refine W.skip ?_
          refine cutEnd [0, 1, 3, 6] rfl ?_ trivial ?_ trivial rfl
          · repeat' first | exact trivial | refine ⟨rfl, ?_⟩ | refine ⟨step_nat (by assumption) (by assumption), ?_⟩
          · rw [hc', hS, hK, hT]
            repeat' first | exact trivial | refine ⟨rfl, ?_⟩
      refine qs ?_
      refine W.seq ?_
      refine W.seq ?_
      refine W.region ?_
      refine pu (ev tab rfl) rfl ?_
      first | refine pu (ev tab rfl) rfl ?_ | refine pu (loadRow tab rfl rfl rfl rfl) rfl ?_ | refine pu (loadBox tab rfl rfl rfl rfl rfl) rfl ?_
      refine WO.nil ?_
      refine qs ?_
      refine W.cutS [(0, .d (.v (.string (s)))), (2, .ptr 0 0), (4, .ptr 1 0), (5, .ptr 2 0), (8, .ptr 3 0)] [] [(0, ev0n), (1, rb d.2.1 d.2.2), (2, evB T0 K c.1 d.1 0), (3, (frmOf K).c.map A.d)] [] [] 4 ?_ ?_
      · skip
        refine condK rfl (fun h44 => ?_) (fun h44 => ?_)
        · skip
          have hd' : d = takeN c.2 := by rw [hD]; exact if_pos h44
          refine W.region ?_
          refine pu (ev tab rfl) rfl ?_
          refine callB [1] [] rfl rfl rfl rfl rfl ((takeNum_fn c.2.1 c.2.2 (Nat.le_trans (hd_le zc) (by decide)))) rfl rfl (by rfl) (by rfl) rfl rfl rfl rfl ?_
          refine pu (ev tab rfl) rfl ?_
          refine storeR tab rfl rfl rfl rfl rfl rfl rfl rfl ?_
          refine WO.nil ?_
          refine cutEnd [0, 1, 2, 3] rfl ?_ trivial ?_ trivial rfl
          · repeat' first | exact trivial | refine ⟨rfl, ?_⟩ | refine ⟨step_nat (by assumption) (by assumption), ?_⟩
          · rw [hd']
            repeat' first | exact trivial | refine ⟨rfl, ?_⟩
        · skip
          have hd' : d = (0, c.2) := by rw [hD]; exact if_neg (fun q => Bool.noConfusion (q.symm.trans h44))
          refine W.skip ?_
          refine cutEnd [0, 1, 2, 3] rfl ?_ trivial ?_ trivial rfl
          · repeat' first | exact trivial | refine ⟨rfl, ?_⟩ | refine ⟨step_nat (by assumption) (by assumption), ?_⟩
          · rw [hd']
            repeat' first | exact trivial | refine ⟨rfl, ?_⟩
      refine qs ?_
      refine W.seq ?_
      refine W.seq ?_
      refine W.region ?_
      first | refine pu (ev tab rfl) rfl ?_ | refine pu (loadRow tab rfl rfl rfl rfl) rfl ?_ | refine pu (loadBox tab rfl rfl rfl rfl rfl) rfl ?_
      refine pu (ev tab rfl) rfl ?_
      first | refine pu (ev tab rfl) rfl ?_ | refine pu (loadRow tab rfl rfl rfl rfl) rfl ?_ | refine pu (loadBox tab rfl rfl rfl rfl rfl) rfl ?_
      refine pu (puCall rfl rfl rfl (shows_fn (frmOf K) d.1) rfl) rfl ?_
      refine WO.nil ?_
      refine qs ?_
      refine W.cutS [(0, .d (.v (.string (s)))), (2, .ptr 0 0), (4, .ptr 1 0), (5, .ptr 2 0), (8, .ptr 3 0)] [] [(0, ev0n), (1, rb m.2.1 m.2.2), (2, evB T0 K c.1 d.1 m.1), (3, (frmOf K).c.map A.d)] [] [] 4 ?_ ?_
      · skip
        refine condK rfl (fun h51 => ?_) (fun h51 => ?_)
        · skip
          have hm' : m = takeN d.2 := by rw [hM]; exact if_pos h51
          refine W.region ?_
          refine pu (ev tab rfl) rfl ?_
          refine callB [1] [] rfl rfl rfl rfl rfl ((takeNum_fn d.2.1 d.2.2 (Nat.le_trans (hd_le zd) (by decide)))) rfl rfl (by rfl) (by rfl) rfl rfl rfl rfl ?_
          refine pu (ev tab rfl) rfl ?_
          refine storeR tab rfl rfl rfl rfl rfl rfl rfl rfl ?_
          refine WO.nil ?_
          refine cutEnd [0, 1, 2, 3] rfl ?_ trivial ?_ trivial rfl
          · repeat' first | exact trivial | refine ⟨rfl, ?_⟩ | refine ⟨step_nat (by assumption) (by assumption), ?_⟩
          · rw [hm']
            repeat' first | exact trivial | refine ⟨rfl, ?_⟩
        · skip
          have hm' : m = (0, d.2) := by rw [hM]; exact if_neg (fun q => Bool.noConfusion (q.symm.trans h51))
          refine W.skip ?_
          refine cutEnd [0, 1, 2, 3] rfl ?_ trivial ?_ trivial rfl
          · repeat' first | exact trivial | refine ⟨rfl, ?_⟩ | refine ⟨step_nat (by assumption) (by assumption), ?_⟩
          · rw [hm']
            repeat' first | exact trivial | refine ⟨rfl, ?_⟩
      refine qs ?_
      refine W.seq ?_
      refine W.seq ?_
      refine W.region ?_
      refine pu (ev tab rfl) rfl ?_
      first | refine pu (ev tab rfl) rfl ?_ | refine pu (loadRow tab rfl rfl rfl rfl) rfl ?_ | refine pu (loadBox tab rfl rfl rfl rfl rfl) rfl ?_
      refine WO.nil ?_
      refine qs ?_
      refine W.cutS [(0, .d (.v (.string (s)))), (2, .ptr 0 0), (4, .ptr 1 0), (5, .ptr 2 0), (8, .ptr 3 0)] [] [(0, ev0n), (1, rb t.2.1 t.2.2), (2, (Ev.mk T0 K c.1 d.1 m.1 st).c.map A.d), (3, (frmOf K).c.map A.d)] [] [] 4 ?_ ?_
      · skip
        refine condK rfl (fun h56 => ?_) (fun h56 => ?_)
        · skip
          have ht' : t = takeW m.2 := by rw [hTt]; exact if_pos h56
          refine W.seq ?_
          refine W.region ?_
          refine pu (ev tab rfl) rfl ?_
          refine callB [1] [] rfl rfl rfl rfl rfl ((take_fn m.2.1 m.2.2)) rfl rfl (by rfl) (by rfl) rfl rfl rfl rfl ?_
          refine pu (ev tab rfl) rfl ?_
          refine WO.nil ?_
          refine qs ?_
          refine W.seq ?_
          refine W.region ?_
          iterate 2 refine pu (ev tab rfl) rfl ?_
          refine WO.nil ?_
          refine qs ?_
          refine condK rfl (fun h60 => ?_) (fun h60 => ?_)
          · skip
            have hst' : st = cutB (m.2.1.headD (B #[])) 59 := by rw [hst, ht']; exact if_neg (show ¬ m.2.1.headD (B #[]) = wSemi from of_decide_eq_false (by rw [Bool.not_eq_true'] at h60; exact h60))
            refine W.region ?_
            refine pu (ev tab rfl) rfl ?_
            refine pu (puCall rfl rfl rfl (split_fn (m.2.1.headD (B #[])) 59 (Nat.le_trans (hd_le zm) (by decide))) rfl) rfl ?_
            refine pu (ev tab rfl) rfl ?_
            refine storeR tab rfl rfl rfl rfl rfl rfl rfl rfl ?_
            refine WO.nil ?_
            refine cutEnd [0, 1, 2, 3] rfl ?_ trivial ?_ trivial rfl
            · repeat' first | exact trivial | refine ⟨rfl, ?_⟩ | refine ⟨step_nat (by assumption) (by assumption), ?_⟩
            · rw [hst', ht']
              repeat' first | exact trivial | refine ⟨rfl, ?_⟩
          · skip
            have hst' : st = [] := by rw [hst, ht']; exact if_pos (show m.2.1.headD (B #[]) = wSemi from of_decide_eq_true (by rw [Bool.not_eq_false'] at h60; exact h60))
            refine nilBox 2 5 rfl rfl rfl ?_
            refine W.skip ?_
            refine cutEnd [0, 1, 2, 3] rfl ?_ trivial ?_ trivial rfl
            · repeat' first | exact trivial | refine ⟨rfl, ?_⟩ | refine ⟨step_nat (by assumption) (by assumption), ?_⟩
            · rw [hst', ht']
              repeat' first | exact trivial | refine ⟨rfl, ?_⟩
        · skip
          have ht' : t = (wSemi, m.2) := by rw [hTt]; exact if_neg (fun q => Bool.noConfusion (q.symm.trans h56))
          have hst' : st = [] := by rw [hst, ht']; exact if_pos rfl
          refine nilBox 2 5 rfl rfl rfl ?_
          refine W.skip ?_
          refine cutEnd [0, 1, 2, 3] rfl ?_ trivial ?_ trivial rfl
          · repeat' first | exact trivial | refine ⟨rfl, ?_⟩ | refine ⟨step_nat (by assumption) (by assumption), ?_⟩
          · rw [hst', ht']
            repeat' first | exact trivial | refine ⟨rfl, ?_⟩
      refine qs ?_
      refine W.seq ?_
      refine W.seq ?_
      apply regionB; (case hb => rfl)
      · skip
        iterate 3 refine pu (ev tab rfl) rfl ?_
        first | refine pu (ev tab rfl) rfl ?_ | refine pu (loadRow tab rfl rfl rfl rfl) rfl ?_ | refine pu (loadBox tab rfl rfl rfl rfl rfl) rfl ?_
        refine pu (ev tab rfl) rfl ?_
        apply splitJ; (case hj => rfl); (case hl => rfl)
        · skip
          refine skipT rfl rfl rfl rfl ?_
          refine skipT rfl rfl rfl rfl ?_
          refine skipT rfl rfl rfl rfl ?_
          refine skipT rfl rfl rfl rfl ?_
          refine skipT rfl rfl rfl rfl ?_
          refine skipT rfl rfl rfl rfl ?_
          iterate 2 refine pu (ev tab rfl) rfl ?_
          refine skipT rfl rfl rfl rfl ?_
          refine skipT rfl rfl rfl rfl ?_
          refine skipT rfl rfl rfl rfl ?_
          refine skipT rfl rfl rfl rfl ?_
          refine pu (ev tab rfl) rfl ?_
          refine WO.nil ?_
          refine qv1 rfl rfl rfl
        · skip
          refine goG rfl rfl ?_
          refine pu (ev tab rfl) rfl ?_
          refine goG rfl rfl ?_
          refine pu (ev tab rfl) rfl ?_
          refine goG rfl rfl ?_
          refine pu (ev tab rfl) rfl ?_
          refine goG rfl rfl ?_
          first | refine pu (ev tab rfl) rfl ?_ | refine pu (loadRow tab rfl rfl rfl rfl) rfl ?_ | refine pu (loadBox tab rfl rfl rfl rfl rfl) rfl ?_
          refine goG rfl rfl ?_
          refine pu (ev tab rfl) rfl ?_
          refine goG rfl rfl ?_
          iterate 3 refine pu (ev tab rfl) rfl ?_
          apply splitJ; (case hj => rfl); (case hl => rfl)
          · skip
            refine skipT rfl rfl rfl rfl ?_
            refine skipT rfl rfl rfl rfl ?_
            refine skipT rfl rfl rfl rfl ?_
            refine skipT rfl rfl rfl rfl ?_
            refine pu (ev tab rfl) rfl ?_
            refine WO.nil ?_
            refine qv1 rfl rfl rfl
          · skip
            refine goG rfl rfl ?_
            first | refine pu (ev tab rfl) rfl ?_ | refine pu (loadRow tab rfl rfl rfl rfl) rfl ?_ | refine pu (loadBox tab rfl rfl rfl rfl rfl) rfl ?_
            refine goG rfl rfl ?_
            refine pu (puCall rfl rfl rfl (etext_fn (Ev.mk T0 K c.1 d.1 m.1 st)) rfl) rfl ?_
            refine goG rfl rfl ?_
            refine pu (ev tab rfl) rfl ?_
            refine goG rfl rfl ?_
            iterate 2 refine pu (ev tab rfl) rfl ?_
            refine WO.nil ?_
            refine qv1 rfl rfl rfl
      refine qs ?_
      refine condK rfl (fun h81 => ?_) (fun h81 => ?_)
      · skip
        refine W.seq ?_
        refine W.region ?_
        refine pu (build tab rfl rfl rfl rfl) rfl ?_
        refine storeR tab rfl rfl rfl rfl rfl rfl rfl rfl ?_
        refine pu (ev tab rfl) rfl ?_
        refine WO.nil ?_
        refine qs ?_
        try refine nilBox 0 5 rfl rfl rfl ?_
        refine W.ret ?_
        refine qsRet ?_
        refine QV.ret0 tab trivial rfl ?_
        have hg : parseE s = (ev0, 10) := by
          rw [hg0, if_pos]
          revert h81
          cases t.2.2 <;> by_cases q : 0 < t.2.1.length <;> simp [q, txs]
        rw [hg]
        rfl
      · skip
        refine W.skip ?_
        refine qs ?_
        refine W.seq ?_
        refine W.region ?_
        first | refine pu (ev tab rfl) rfl ?_ | refine pu (loadRow tab rfl rfl rfl rfl) rfl ?_ | refine pu (loadBox tab rfl rfl rfl rfl rfl) rfl ?_
        refine storeR tab rfl rfl rfl rfl rfl rfl rfl rfl ?_
        refine pu (ev tab rfl) rfl ?_
        refine WO.nil ?_
        refine qs ?_
        try refine nilBox 0 5 rfl rfl rfl ?_
        refine W.ret ?_
        refine QV.ret0 tab trivial rfl ?_
        have hg : parseE s = (Ev.mk T0 K c.1 d.1 m.1 st, 0) := by
          rw [hg0, if_neg]
          revert h81
          cases t.2.2 <;> by_cases q : 0 < t.2.1.length <;> simp [q, txs]
        rw [hg]
        rfl
end Go.Proofs.YtifeonoehfffmaaDoor
