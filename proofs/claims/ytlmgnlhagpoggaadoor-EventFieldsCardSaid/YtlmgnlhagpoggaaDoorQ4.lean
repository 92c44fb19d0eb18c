import Derived.Test.YtlmgnlhagpoggaaDoorQ3
import Derived.Test.YtlmgnlhagpoggaaDoorChecked
import Derived.KernelRfl
import Derived.Test.YtlmgnlhagpoggaaDoorRows
import Derived.Shelf.Strings.Builder1
import Derived.Shelf.Strings.Builder2
import Derived.Shelf.Strings.OnBuilder
import Derived.Shelf.Small.Strs
import Derived.Shelf.Strings.BuilderF
import Derived.Shelf.Strings.BuilderK
import Derived.Shelf.Utf8.RuneCount
import Derived.Shelf.Strings.Builder2Cap
import Derived.Shelf.Strconv.Atoi
import Derived.Shelf.Strconv.Itoa0
import Derived.Shelf.Strconv.Itoa1
import Derived.Shelf.LaysM
import Derived.Shelf.Strconv.Itoa2
import Derived.Shelf.Strconv.Itoa3
import Derived.Shelf.Strconv.AtoiErrFast
import Derived.Shelf.Strconv.ParseIntEmpty
import Derived.Shelf.Strconv.AtoiFail
import Derived.Shelf.Strconv.Clone
import Derived.Shelf.Strconv.SyntaxError
import Derived.Shelf.LaysC
import Derived.Shelf.Strconv.ToError
import Derived.Shelf.Strconv.AtoiErr
import Derived.Shelf.Strconv.ErrVar
import Derived.Shelf.Strconv.Lower
import Derived.Shelf.Strconv.ParseUint10
import Derived.Shelf.Strconv.ParseUint10Empty
import Derived.Shelf.Strconv.ParseUint10Any
import Derived.Shelf.Strconv.ParseInt10
import Derived.Shelf.Strconv.AtoiLong
import Derived.Shelf.Strconv.AtoiInnerAll
import Derived.Shelf.Strconv.RangeError
import Derived.Shelf.Strconv.ToErrorRange
import Derived.Shelf.Strconv.AtoiAll
import Derived.Shelf.Strconv.ErrVarAll
import Derived.Shelf.Strconv.ParseUintEmpty
import Derived.Shelf.Strconv.ParseUint10b64
import Derived.Shelf.Strconv.ParseUint10b32
import Derived.Shelf.Strconv.ParseUint10b16
import Derived.Shelf.Strconv.ParseUint10b8
import Derived.Shelf.Strconv.ParseUint10At
import Derived.Shelf.Strconv.ParseInt10At64
import Derived.Shelf.Strconv.ParseInt10At32
import Derived.Shelf.Strconv.ParseInt10At16
import Derived.Shelf.Strconv.ParseInt10At8
import Derived.Shelf.Strconv.ParseInt10All
import Derived.Shelf.Strings.Search1
import Derived.Shelf.Strings.Search2
import Derived.Shelf.Strings.Search3
import Derived.Shelf.Strings.Count
import Derived.Shelf.Strings.Shaped
import Derived.Shelf.Strings.Split
import Derived.Shelf.Strings.SplitShaped
import Derived.Shelf.Unicode.Decode
import Derived.Shelf.Strings.RuneCount
import Derived.Shelf.Strings.Explode
import Derived.Shelf.Unicode.DecodeSlow
import Derived.Shelf.Unicode.DecodeAny
import Derived.Shelf.Strings.BuilderCap
import Derived.Shelf.Slices.Equal
import Derived.Shelf.Slices.Empties2
import Derived.Test.YtlmgnlhagpoggaaDoorProg
/- The table of the program's types, for the data level. Made by a program of this repo (gentab.py). -/
namespace Go.Proofs.YtlmgnlhagpoggaaDoor
open Go.Ab
abbrev tabL : List (Nat × TyD) := [
  (2, ⟨.int .i64, 1, 8, [.int .i64 0]⟩),
  (3, ⟨.int .i64, 1, 8, [.int .i64 0]⟩),
  (4, ⟨.bool, 1, 1, [.bool false]⟩),
  (5, ⟨.int .u8, 1, 1, [.int .u8 0]⟩),
  (9, ⟨.str, 1, 16, [.string ⟨#[]⟩]⟩),
  (12, ⟨.int .u64, 1, 8, [.int .u64 0]⟩),
  (21, ⟨.int .i32, 1, 4, [.int .i32 0]⟩),
  (22, ⟨.int .i64, 1, 8, [.int .i64 0]⟩),
  (23, ⟨.slice 9, 1, 24, [.slice none 0 0]⟩),
  (25, ⟨.st [(0, 3, "At"), (1, 22, "Kind"), (2, 9, "Name"), (3, 3, "N"), (4, 3, "M"), (5, 23, "Stack")], 6, 72, [.int .i64 0, .int .i64 0, .string ⟨#[]⟩, .int .i64 0, .int .i64 0, .slice none 0 0]⟩),
  (28, ⟨.int .i64, 1, 8, [.int .i64 0]⟩),
  (37, ⟨.slice 25, 1, 24, [.slice none 0 0]⟩),
  (39, ⟨.st [(0, 9, "word"), (1, 4, "name"), (2, 4, "n"), (3, 4, "m"), (4, 4, "stack"), (5, 3, "least"), (6, 3, "most"), (7, 3, "mLeast"), (8, 3, "mMost")], 9, 56, [.string ⟨#[]⟩, .bool false, .bool false, .bool false, .bool false, .int .i64 0, .int .i64 0, .int .i64 0, .int .i64 0]⟩),
  (51, ⟨.ptr 54, 1, 8, [.pointer none]⟩),
  (54, ⟨.st [(0, 23, "words"), (1, 4, "bad")], 2, 32, [.slice none 0 0, .bool false]⟩),
  (58, ⟨.slice 39, 1, 24, [.slice none 0 0]⟩),
  (66, ⟨.ptr 69, 1, 8, [.pointer none]⟩),
  (67, ⟨.slice 5, 1, 24, [.slice none 0 0]⟩),
  (69, ⟨.st [(0, 66, "addr"), (1, 67, "buf")], 2, 32, [.pointer none, .slice none 0 0]⟩),
  (78, ⟨.ptr 5, 1, 8, [.pointer none]⟩),
  (93, ⟨.int .u64, 1, 8, [.int .u64 0]⟩),
  (99, ⟨.int .u64, 1, 8, [.int .u64 0]⟩),
  (100, ⟨.int .i64, 1, 8, [.int .i64 0]⟩),
  (103, ⟨.ptr 121, 1, 8, [.pointer none]⟩),
  (108, ⟨.int .u32, 1, 4, [.int .u32 0]⟩),
  (113, ⟨.st [(0, 5, "lo"), (1, 5, "hi")], 2, 2, [.int .u8 0, .int .u8 0]⟩),
  (125, ⟨.ptr 127, 1, 8, [.pointer none]⟩),
  (127, ⟨.st [(0, 9, "s")], 1, 16, [.string ⟨#[]⟩]⟩)]
theorem tab_ok : tabL.all (fun x => tyOK Tryd.prog x.1 x.2) = true := by kernel_rfl
abbrev tab : Tab Tryd.prog := ⟨tabL, tab_ok, by kernel_rfl⟩
instance progMet : Go.Ab.Met Tryd.prog := ⟨fun W => MetNum Tryd.prog W⟩
end Go.Proofs.YtlmgnlhagpoggaaDoor
/- What the row's listed variables give: strconv's tables and errors. -/
namespace Go.Proofs.YtlmgnlhagpoggaaDoor
open Go.Ab
theorem lmet (W : World) (h : laidMet Tryd.prog Rows.eventSameRow.laid W) : MetNum Tryd.prog W :=
  metNum_of (t := 107) (e := 93) (m := 20) (ti := 72) h (d := Rows.laid_internal_strconv_uint64pow10) (.tail _ (.tail _ (.head _))) (by kernel_rfl) (by kernel_rfl) (by kernel_rfl) (by kernel_rfl) (by kernel_rfl) (by kernel_rfl)
    (nm := "*errors.errorString") (nm' := "*errors.errorString") (.tail _ (.tail _ (.tail _ (.tail _ (.tail _ (.head _)))))) (.tail _ (.tail _ (.tail _ (.tail _ (.head _))))) (by kernel_rfl) (by kernel_rfl) (by kernel_rfl)
end Go.Proofs.YtlmgnlhagpoggaaDoor
namespace Go.Proofs.YtlmgnlhagpoggaaDoor
open Go.Ab Go.Tb
set_option maxRecDepth 10000
attribute [local irreducible] W WO Pu QS QB QL QF QV QV1 CH QE



theorem in_fn (n : Int) : Does Tryd.prog 72 [.d (.v (.int .i64 n))] (.d (.v (.bool (inR n)))) 0 := by
  refine Does.of_W (n := 9) (ts := [2]) Tryd.func72 (by kernel_rfl) rfl Tryd.ntmps72 Tryd.results72 rfl rfl fun C hC hG => ?_
  refine W.seq ?_
  refine W.region ?_
  refine pu (ev tab rfl) rfl ?_
  refine WO.nil ?_
  refine qs ?_
  refine W.seq ?_
  apply regionB; (case hb => rfl)
  · skip
    iterate 3 refine pu (ev tab rfl) rfl ?_
    apply splitJ; (case hj => rfl); (case hl => rfl)
    · skip
      refine goG rfl rfl ?_
      refine pu (ev tab rfl) rfl ?_
      refine goG rfl rfl ?_
      iterate 3 refine pu (ev tab rfl) rfl ?_
      refine WO.nil ?_
      refine qv1 rfl rfl rfl
    · skip
      refine skipT rfl rfl rfl rfl ?_
      refine skipT rfl rfl rfl rfl ?_
      iterate 2 refine pu (ev tab rfl) rfl ?_
      refine WO.nil ?_
      refine qv1 rfl rfl rfl
  refine qs ?_
  refine W.ret ?_
  refine QF.ret0 trivial rfl ?_
  simp [norm, oneA, inR]
theorem rin_fn (n : Int) : Does Tryd.prog 61 [.d (.v (.int .i64 n))] (.d (.v (.bool (inR n)))) 0 := by
  refine Does.of_W (n := 9) (ts := [2]) Tryd.func61 (by kernel_rfl) rfl Tryd.ntmps61 Tryd.results61 rfl rfl fun C hC hG => ?_
  refine W.seq ?_
  refine W.region ?_
  refine pu (ev tab rfl) rfl ?_
  refine WO.nil ?_
  refine qs ?_
  refine W.seq ?_
  apply regionB; (case hb => rfl)
  · skip
    iterate 3 refine pu (ev tab rfl) rfl ?_
    apply splitJ; (case hj => rfl); (case hl => rfl)
    · skip
      refine goG rfl rfl ?_
      refine pu (ev tab rfl) rfl ?_
      refine goG rfl rfl ?_
      iterate 3 refine pu (ev tab rfl) rfl ?_
      refine WO.nil ?_
      refine qv1 rfl rfl rfl
    · skip
      refine skipT rfl rfl rfl rfl ?_
      refine skipT rfl rfl rfl rfl ?_
      iterate 2 refine pu (ev tab rfl) rfl ?_
      refine WO.nil ?_
      refine qv1 rfl rfl rfl
  refine qs ?_
  refine W.ret ?_
  refine QF.ret0 trivial rfl ?_
  simp [norm, oneA, inR]





end Go.Proofs.YtlmgnlhagpoggaaDoor
namespace Go.Proofs.YtlmgnlhagpoggaaDoor
open Go.Ab Go.Tb
set_option maxRecDepth 10000
attribute [local irreducible] W WO Pu QS QB QL QF QV QV1 CH QE




end Go.Proofs.YtlmgnlhagpoggaaDoor
namespace Go.Proofs.YtlmgnlhagpoggaaDoor
open Go.Ab Go.Tb
set_option maxRecDepth 10000
attribute [local irreducible] W WO Pu QS QB QL QF QV QV1 CH QE
theorem ixb_fn (s : ByteArray) (b : UInt8) : Does Tryd.prog 73 [.d (.v (.string s)), .d (.v (.int .u8 b.toNat))] (.d (.v (.int .i64 (Lib.indexByte (bys s) b)))) 0 := by
  refine Does.of_W (n := 8) (ts := [4]) Tryd.func73 (by kernel_rfl) rfl Tryd.ntmps73 Tryd.results73 rfl rfl fun C hC hG => ?_
  refine W.inRange (t := 0) rfl (fun hok => ?_)
  refine W.seq ?_
  refine W.region ?_
  refine pu (ev tab rfl) rfl ?_
  refine WO.nil ?_
  refine qs ?_
  refine W.seq ?_
  refine W.region ?_
  iterate 2 refine pu (ev tab rfl) rfl ?_
  refine pu (puExt (vs := [.string s, .int .u8 b.toNat]) rfl rfl (fun w => (run_callFunc_extern Tryd.func87 (by kernel_rfl) (by kernel_rfl) (by kernel_rfl) (by kernel_rfl) #[.string s, .int .u8 b.toNat] w).trans (by rw [show (Extern.BytealgIndexByte.indexByte #[.string s, .int .u8 b.toNat]).run Tryd.prog w = _ from Lib.run_indexByteString s b.toNat w]; rfl)) (indexByte_ok hok _)) rfl ?_
  refine pu (ev tab rfl) rfl ?_
  refine WO.nil ?_
  refine qs ?_
  refine W.ret ?_
  refine QF.ret0 trivial rfl ?_
  simp [norm, oneA, bys]
theorem sixb_fn (s : ByteArray) (b : UInt8) : Does Tryd.prog 62 [.d (.v (.string s)), .d (.v (.int .u8 b.toNat))] (.d (.v (.int .i64 (Lib.indexByte (bys s) b)))) 0 := by
  refine Does.of_W (n := 8) (ts := [4]) Tryd.func62 (by kernel_rfl) rfl Tryd.ntmps62 Tryd.results62 rfl rfl fun C hC hG => ?_
  refine W.seq ?_
  refine W.region ?_
  refine pu (ev tab rfl) rfl ?_
  refine WO.nil ?_
  refine qs ?_
  refine W.seq ?_
  refine W.region ?_
  iterate 2 refine pu (ev tab rfl) rfl ?_
  refine pu (puCall rfl rfl rfl (ixb_fn ..) rfl) rfl ?_
  refine pu (ev tab rfl) rfl ?_
  refine WO.nil ?_
  refine qs ?_
  refine W.ret ?_
  refine QF.ret0 trivial rfl ?_
  rfl
theorem letter_fn (b : UInt8) : Does Tryd.prog 52 [.d (.v (.int .u8 b.toNat))] (.d (.v (.bool (letterB b)))) 0 := by
  refine Does.of_W (n := 30) (ts := [2]) Tryd.func52 (by kernel_rfl) rfl Tryd.ntmps52 Tryd.results52 rfl rfl fun C hC hG => ?_
  refine W.seq ?_
  refine W.region ?_
  refine pu (ev tab rfl) rfl ?_
  refine WO.nil ?_
  refine qs ?_
  refine W.seq ?_
  apply regionB; (case hb => rfl)
  · skip
    iterate 3 refine pu (ev tab rfl) rfl ?_
    apply splitJ; (case hj => rfl); (case hl => rfl)
    · skip
      refine goG rfl rfl ?_
      refine pu (ev tab rfl) rfl ?_
      refine goG rfl rfl ?_
      iterate 3 refine pu (ev tab rfl) rfl ?_
      apply splitJ; (case hj => rfl); (case hl => rfl)
      · skip
        refine skipT rfl rfl rfl rfl ?_
        refine skipT rfl rfl rfl rfl ?_
        refine skipT rfl rfl rfl rfl ?_
        refine skipU rfl rfl rfl ?_
        refine skipU rfl rfl rfl ?_
        refine skipT rfl rfl rfl rfl ?_
        iterate 2 refine pu (ev tab rfl) rfl ?_
        refine skipT rfl rfl rfl rfl ?_
        refine skipT rfl rfl rfl rfl ?_
        refine skipT rfl rfl rfl rfl ?_
        refine skipU rfl rfl rfl ?_
        refine skipU rfl rfl rfl ?_
        refine skipT rfl rfl rfl rfl ?_
        iterate 2 refine pu (ev tab rfl) rfl ?_
        refine skipT rfl rfl rfl rfl ?_
        refine skipT rfl rfl rfl rfl ?_
        refine skipT rfl rfl rfl rfl ?_
        iterate 2 refine pu (ev tab rfl) rfl ?_
        refine WO.nil ?_
        refine qv1 rfl rfl rfl
      · skip
        refine goG rfl rfl ?_
        refine pu (ev tab rfl) rfl ?_
        refine goG rfl rfl ?_
        refine pu (ev tab rfl) rfl ?_
        refine goG rfl rfl ?_
        refine pu (ev tab rfl) rfl ?_
        apply splitJ; (case hj => rfl); (case hl => rfl)
        · skip
          refine goG rfl rfl ?_
          refine pu (ev tab rfl) rfl ?_
          refine goG rfl rfl ?_
          refine pu (ev tab rfl) rfl ?_
          refine goG rfl rfl ?_
          iterate 3 refine pu (ev tab rfl) rfl ?_
          apply splitJ; (case hj => rfl); (case hl => rfl)
          · skip
            refine skipT rfl rfl rfl rfl ?_
            refine skipT rfl rfl rfl rfl ?_
            refine skipT rfl rfl rfl rfl ?_
            refine skipU rfl rfl rfl ?_
            refine skipU rfl rfl rfl ?_
            refine skipT rfl rfl rfl rfl ?_
            iterate 2 refine pu (ev tab rfl) rfl ?_
            refine skipT rfl rfl rfl rfl ?_
            refine skipT rfl rfl rfl rfl ?_
            refine skipT rfl rfl rfl rfl ?_
            iterate 2 refine pu (ev tab rfl) rfl ?_
            refine WO.nil ?_
            refine qv1 rfl rfl rfl
          · skip
            refine goG rfl rfl ?_
            refine pu (ev tab rfl) rfl ?_
            refine goG rfl rfl ?_
            refine pu (ev tab rfl) rfl ?_
            refine goG rfl rfl ?_
            refine pu (ev tab rfl) rfl ?_
            apply splitJ; (case hj => rfl); (case hl => rfl)
            · skip
              refine goG rfl rfl ?_
              refine pu (ev tab rfl) rfl ?_
              refine goG rfl rfl ?_
              refine pu (ev tab rfl) rfl ?_
              refine goG rfl rfl ?_
              iterate 3 refine pu (ev tab rfl) rfl ?_
              apply splitJ; (case hj => rfl); (case hl => rfl)
              · skip
                refine skipT rfl rfl rfl rfl ?_
                refine skipT rfl rfl rfl rfl ?_
                refine skipT rfl rfl rfl rfl ?_
                iterate 2 refine pu (ev tab rfl) rfl ?_
                refine WO.nil ?_
                refine qv1 rfl rfl rfl
              · skip
                refine goG rfl rfl ?_
                refine pu (ev tab rfl) rfl ?_
                refine goG rfl rfl ?_
                refine pu (puCall rfl rfl rfl (sixb_fn ..) rfl) rfl ?_
                refine goG rfl rfl ?_
                iterate 3 refine pu (ev tab rfl) rfl ?_
                refine WO.nil ?_
                refine qv1 rfl rfl rfl
            · skip
              refine skipT rfl rfl rfl rfl ?_
              refine skipT rfl rfl rfl rfl ?_
              refine goG rfl rfl ?_
              iterate 3 refine pu (ev tab rfl) rfl ?_
              refine goG rfl rfl ?_
              refine pu (ev tab rfl) rfl ?_
              refine goG rfl rfl ?_
              refine pu (puCall rfl rfl rfl (sixb_fn ..) rfl) rfl ?_
              refine goG rfl rfl ?_
              iterate 3 refine pu (ev tab rfl) rfl ?_
              refine WO.nil ?_
              refine qv1 rfl rfl rfl
        · skip
          refine skipT rfl rfl rfl rfl ?_
          refine skipT rfl rfl rfl rfl ?_
          refine goG rfl rfl ?_
          iterate 3 refine pu (ev tab rfl) rfl ?_
          refine goG rfl rfl ?_
          refine pu (ev tab rfl) rfl ?_
          refine goG rfl rfl ?_
          refine pu (ev tab rfl) rfl ?_
          refine goG rfl rfl ?_
          refine pu (ev tab rfl) rfl ?_
          apply splitJ; (case hj => rfl); (case hl => rfl)
          · skip
            refine goG rfl rfl ?_
            refine pu (ev tab rfl) rfl ?_
            refine goG rfl rfl ?_
            refine pu (ev tab rfl) rfl ?_
            refine goG rfl rfl ?_
            iterate 3 refine pu (ev tab rfl) rfl ?_
            apply splitJ; (case hj => rfl); (case hl => rfl)
            · skip
              refine skipT rfl rfl rfl rfl ?_
              refine skipT rfl rfl rfl rfl ?_
              refine skipT rfl rfl rfl rfl ?_
              iterate 2 refine pu (ev tab rfl) rfl ?_
              refine WO.nil ?_
              refine qv1 rfl rfl rfl
            · skip
              refine goG rfl rfl ?_
              refine pu (ev tab rfl) rfl ?_
              refine goG rfl rfl ?_
              refine pu (puCall rfl rfl rfl (sixb_fn ..) rfl) rfl ?_
              refine goG rfl rfl ?_
              iterate 3 refine pu (ev tab rfl) rfl ?_
              refine WO.nil ?_
              refine qv1 rfl rfl rfl
          · skip
            refine skipT rfl rfl rfl rfl ?_
            refine skipT rfl rfl rfl rfl ?_
            refine goG rfl rfl ?_
            iterate 3 refine pu (ev tab rfl) rfl ?_
            refine goG rfl rfl ?_
            refine pu (ev tab rfl) rfl ?_
            refine goG rfl rfl ?_
            refine pu (puCall rfl rfl rfl (sixb_fn ..) rfl) rfl ?_
            refine goG rfl rfl ?_
            iterate 3 refine pu (ev tab rfl) rfl ?_
            refine WO.nil ?_
            refine qv1 rfl rfl rfl
    · skip
      refine skipT rfl rfl rfl rfl ?_
      refine skipT rfl rfl rfl rfl ?_
      iterate 2 refine pu (ev tab rfl) rfl ?_
      refine goG rfl rfl ?_
      refine pu (ev tab rfl) rfl ?_
      refine goG rfl rfl ?_
      refine pu (ev tab rfl) rfl ?_
      refine goG rfl rfl ?_
      refine pu (ev tab rfl) rfl ?_
      apply splitJ; (case hj => rfl); (case hl => rfl)
      · skip
        refine goG rfl rfl ?_
        refine pu (ev tab rfl) rfl ?_
        refine goG rfl rfl ?_
        refine pu (ev tab rfl) rfl ?_
        refine goG rfl rfl ?_
        iterate 3 refine pu (ev tab rfl) rfl ?_
        apply splitJ; (case hj => rfl); (case hl => rfl)
        · skip
          refine skipT rfl rfl rfl rfl ?_
          refine skipT rfl rfl rfl rfl ?_
          refine skipT rfl rfl rfl rfl ?_
          refine skipU rfl rfl rfl ?_
          refine skipU rfl rfl rfl ?_
          refine skipT rfl rfl rfl rfl ?_
          iterate 2 refine pu (ev tab rfl) rfl ?_
          refine skipT rfl rfl rfl rfl ?_
          refine skipT rfl rfl rfl rfl ?_
          refine skipT rfl rfl rfl rfl ?_
          iterate 2 refine pu (ev tab rfl) rfl ?_
          refine WO.nil ?_
          refine qv1 rfl rfl rfl
        · skip
          refine goG rfl rfl ?_
          refine pu (ev tab rfl) rfl ?_
          refine goG rfl rfl ?_
          refine pu (ev tab rfl) rfl ?_
          refine goG rfl rfl ?_
          refine pu (ev tab rfl) rfl ?_
          apply splitJ; (case hj => rfl); (case hl => rfl)
          · skip
            refine goG rfl rfl ?_
            refine pu (ev tab rfl) rfl ?_
            refine goG rfl rfl ?_
            refine pu (ev tab rfl) rfl ?_
            refine goG rfl rfl ?_
            iterate 3 refine pu (ev tab rfl) rfl ?_
            apply splitJ; (case hj => rfl); (case hl => rfl)
            · skip
              refine skipT rfl rfl rfl rfl ?_
              refine skipT rfl rfl rfl rfl ?_
              refine skipT rfl rfl rfl rfl ?_
              iterate 2 refine pu (ev tab rfl) rfl ?_
              refine WO.nil ?_
              refine qv1 rfl rfl rfl
            · skip
              refine goG rfl rfl ?_
              refine pu (ev tab rfl) rfl ?_
              refine goG rfl rfl ?_
              refine pu (puCall rfl rfl rfl (sixb_fn ..) rfl) rfl ?_
              refine goG rfl rfl ?_
              iterate 3 refine pu (ev tab rfl) rfl ?_
              refine WO.nil ?_
              refine qv1 rfl rfl rfl
          · skip
            refine skipT rfl rfl rfl rfl ?_
            refine skipT rfl rfl rfl rfl ?_
            refine goG rfl rfl ?_
            iterate 3 refine pu (ev tab rfl) rfl ?_
            refine goG rfl rfl ?_
            refine pu (ev tab rfl) rfl ?_
            refine goG rfl rfl ?_
            refine pu (puCall rfl rfl rfl (sixb_fn ..) rfl) rfl ?_
            refine goG rfl rfl ?_
            iterate 3 refine pu (ev tab rfl) rfl ?_
            refine WO.nil ?_
            refine qv1 rfl rfl rfl
      · skip
        refine skipT rfl rfl rfl rfl ?_
        refine skipT rfl rfl rfl rfl ?_
        refine goG rfl rfl ?_
        iterate 3 refine pu (ev tab rfl) rfl ?_
        refine goG rfl rfl ?_
        refine pu (ev tab rfl) rfl ?_
        refine goG rfl rfl ?_
        refine pu (ev tab rfl) rfl ?_
        refine goG rfl rfl ?_
        refine pu (ev tab rfl) rfl ?_
        apply splitJ; (case hj => rfl); (case hl => rfl)
        · skip
          refine goG rfl rfl ?_
          refine pu (ev tab rfl) rfl ?_
          refine goG rfl rfl ?_
          refine pu (ev tab rfl) rfl ?_
          refine goG rfl rfl ?_
          iterate 3 refine pu (ev tab rfl) rfl ?_
          apply splitJ; (case hj => rfl); (case hl => rfl)
          · skip
            refine skipT rfl rfl rfl rfl ?_
            refine skipT rfl rfl rfl rfl ?_
            refine skipT rfl rfl rfl rfl ?_
            iterate 2 refine pu (ev tab rfl) rfl ?_
            refine WO.nil ?_
            refine qv1 rfl rfl rfl
          · skip
            refine goG rfl rfl ?_
            refine pu (ev tab rfl) rfl ?_
            refine goG rfl rfl ?_
            refine pu (puCall rfl rfl rfl (sixb_fn ..) rfl) rfl ?_
            refine goG rfl rfl ?_
            iterate 3 refine pu (ev tab rfl) rfl ?_
            refine WO.nil ?_
            refine qv1 rfl rfl rfl
        · skip
          refine skipT rfl rfl rfl rfl ?_
          refine skipT rfl rfl rfl rfl ?_
          refine goG rfl rfl ?_
          iterate 3 refine pu (ev tab rfl) rfl ?_
          refine goG rfl rfl ?_
          refine pu (ev tab rfl) rfl ?_
          refine goG rfl rfl ?_
          refine pu (puCall rfl rfl rfl (sixb_fn ..) rfl) rfl ?_
          refine goG rfl rfl ?_
          iterate 3 refine pu (ev tab rfl) rfl ?_
          refine WO.nil ?_
          refine qv1 rfl rfl rfl
  refine qs ?_
  refine W.ret ?_
  refine QF.ret0 trivial rfl ?_
  simp only [norm, oneA]; rw [indexByte_any]; simp only [letterB, lower, marks]; simp [bys]; grind
theorem name_fn (s : ByteArray) : Does Tryd.prog 41 [.d (.v (.string s))] (.d (.v (.int .i64 (nameErr s)))) 0 := by
  refine Does.of_W (n := 22) (ts := [2]) Tryd.func41 (by kernel_rfl) rfl Tryd.ntmps41 Tryd.results41 rfl rfl fun C hC hG => ?_
  refine W.seq ?_
  refine W.region ?_
  refine pu (ev tab rfl) rfl ?_
  refine WO.nil ?_
  refine qs ?_
  refine W.seq ?_
  refine W.seq ?_
  apply regionB; (case hb => rfl)
  · skip
    iterate 3 refine pu (ev tab rfl) rfl ?_
    apply splitJ; (case hj => rfl); (case hl => rfl)
    · skip
      refine skipT rfl rfl rfl rfl ?_
      refine skipT rfl rfl rfl rfl ?_
      refine skipT rfl rfl rfl rfl ?_
      refine pu (ev tab rfl) rfl ?_
      refine WO.nil ?_
      refine qv1 rfl rfl rfl
    · skip
      refine goG rfl rfl ?_
      refine pu (ev tab rfl) rfl ?_
      refine goG rfl rfl ?_
      refine pu (ev tab rfl) rfl ?_
      refine goG rfl rfl ?_
      iterate 2 refine pu (ev tab rfl) rfl ?_
      refine WO.nil ?_
      refine qv1 rfl rfl rfl
  refine qs ?_
  refine condK rfl (fun h10 => ?_) (fun h10 => ?_)
  · skip
    refine W.seq ?_
    refine W.region ?_
    refine pu (ev tab rfl) rfl ?_
    refine WO.nil ?_
    refine qs ?_
    refine W.ret ?_
    refine qsRet ?_
    refine QF.ret0 trivial rfl ?_
    simp only [norm, oneA]; grind [nameErr, empty_bytes]
  · skip
    refine W.skip ?_
    refine qs ?_
    refine W.seq ?_
    refine W.seq ?_
    refine W.region ?_
    iterate 3 refine pu (ev tab rfl) rfl ?_
    refine WO.nil ?_
    refine qs ?_
    refine W.block ?_
    refine W.inRange (t := 0) rfl (fun hok => ?_)
    have hlen := okc_size hok
    refine W.loopR (ι := {x : Nat // match x with | k => k ≤ (bys s).length ∧ ((bys s).drop k).all letterB = (bys s).all letterB})
      (fun x => match x.1 with | k => [(13, .d (.v (.int .i64 ((k : Nat) : Int))))]) [(0, _), (12, _)]
      (fun x => match x.1 with | k => []) [] [] 0 (fun x => match x.1 with | k => (bys s).length - k)
      [] ⟨0, ?_⟩ rfl ?_ ⟨rfl, rfl, rfl, rfl, trivial⟩ ?_ trivial rfl ?_
    · first | exact ⟨Nat.zero_le _, rfl⟩ | exact trivial | simp
    · repeat' first | exact trivial | refine ⟨rfl, ?_⟩ | refine ⟨step_nat (by assumption) (by assumption), ?_⟩
    · repeat' first | exact trivial | refine ⟨rfl, ?_⟩ | refine ⟨step_nat (by assumption) (by assumption), ?_⟩
    rintro ⟨k, hk, hI⟩
    show W _ _ _ _ _ ⟨[(13, .d (.v (.int .i64 ((k : Nat) : Int)))), (0, _), (12, _)], [], [], 0⟩
    refine W.seq ?_
    refine W.region ?_
    refine pu (ev tab rfl) rfl ?_
    refine WO.nil ?_
    refine qs ?_
    refine W.seq ?_
    refine eachR (l := bys s) (k := k) rfl (by simp [Ex.kc_len, bytes_len]) hk (fun b hx hd hlt => ?_) (fun he hd => ?_)
    · skip
      rw [hd, List.all_cons] at hI
      refine W.skip ?_
      refine qs ?_
      refine W.seq ?_
      refine W.block ?_
      refine W.seq ?_
      refine W.region ?_
      iterate 2 refine pu (ev tab rfl) rfl ?_
      refine WO.nil ?_
      refine qs ?_
      refine W.seq ?_
      refine W.region ?_
      iterate 2 refine pu (ev tab rfl) rfl ?_
      refine pu (indexStr tab rfl rfl rfl rfl (Int.natCast_nonneg _) (byteList (by assumption))) rfl ?_
      refine pu (puCall rfl rfl rfl (letter_fn ..) rfl) rfl ?_
      refine pu (ev tab rfl) rfl ?_
      refine WO.nil ?_
      refine qs ?_
      refine condK rfl (fun h20 => ?_) (fun h20 => ?_)
      · skip
        refine W.seq ?_
        refine W.region ?_
        refine pu (ev tab rfl) rfl ?_
        refine WO.nil ?_
        refine qs ?_
        refine W.ret ?_
        refine qbRet ?_
        refine qsRet ?_
        refine qlRet ?_
        refine qbRet ?_
        refine qsRet ?_
        refine QF.ret0 trivial rfl ?_
        simp only [norm, oneA]; grind [nameErr, empty_bytes]
      · skip
        refine W.skip ?_
        refine qbN ?_
        refine qs ?_
        refine W.region ?_
        iterate 2 refine pu (ev tab rfl) rfl ?_
        refine WO.nil ?_
        refine W.endR [] ⟨k + 1, ?_⟩ ?_ rfl ?_ ⟨rfl, rfl, rfl, rfl, trivial⟩ ?_ trivial rfl
        · exact ⟨hlt, by rw [← hI]; simp_all⟩
        · dsimp only; omega
        · repeat' first | exact trivial | refine ⟨rfl, ?_⟩ | refine ⟨step_nat (by assumption) (by assumption), ?_⟩
        · repeat' first | exact trivial | refine ⟨rfl, ?_⟩ | refine ⟨step_nat (by assumption) (by assumption), ?_⟩
    · skip
      rw [hd] at hI
      refine W.exit ?_
      refine qsExit ?_
      refine qlExit ?_
      refine qbExit ?_
      refine qs ?_
      refine W.seq ?_
      refine W.region ?_
      refine pu (ev tab rfl) rfl ?_
      refine WO.nil ?_
      refine qs ?_
      refine W.ret ?_
      refine QF.ret0 trivial rfl ?_
      simp only [norm, oneA]; grind [nameErr, empty_bytes]
end Go.Proofs.YtlmgnlhagpoggaaDoor
/-
  DERIVED: THE SHELF's CONTRACTS AT THIS DUMP, IN PLAIN WORDS (tools/lay-plain.mjs out of 'TrydShelf.lean', which tools/lay-shelf.mjs wrote): THE SAME DECLARATIONS UNDER THE SAME NAMES: 'import', 'namespace', 'open', 'def', 'theorem' AND NOTHING ELSE: no command of the shelf's: FOR A HAND-IN. Each laying: the table of numbers ('.._ren') and one theorem, a field a fact of the dump's own or the kernel's comparison; each contract: ONE APPLICATION.
-/
namespace Go.Proofs
open Go.Shelf
def Tryd.lays169_ren : Go.Shelf.Ren := ⟨fun | 169 => 48 | n => n, fun | 70 => 66 | 9 => 9 | 0 => 0 | 72 => 69 | 37 => 67 | 127 => 78 | 3 => 3 | 5 => 5 | n => n, fun | n => n⟩
theorem Tryd.lays169 : Go.Proofs.Lays.n169 Tryd.prog Tryd.lays169_ren := {
  mixed := by kernel_rfl
  f169 := Tryd.func48.trans (congrArg some (by kernel_rfl))
  t0 := Tryd.underlying0
  a0 := Tryd.isAgg0
  z0 := Tryd.sizeOf0
  v0 := Tryd.zeroValue0
  t3 := Tryd.underlying3
  a3 := Tryd.isAgg3
  z3 := Tryd.sizeOf3
  v3 := Tryd.zeroValue3
  t9 := Tryd.underlying9
  a9 := Tryd.isAgg9
  z9 := Tryd.sizeOf9
  v9 := Tryd.zeroValue9
  t37 := Tryd.underlying67
  a37 := Tryd.isAgg67
  z37 := Tryd.sizeOf67
  v37 := Tryd.zeroValue67
  t70 := Tryd.underlying66
  a70 := Tryd.isAgg66
  z70 := Tryd.sizeOf66
  v70 := Tryd.zeroValue66
  t72 := Tryd.underlying69
  a72 := Tryd.isAgg69
  z72 := Tryd.sizeOf69
  v72 := Tryd.zeroValue69
  t127 := Tryd.underlying78
  a127 := Tryd.isAgg78
  z127 := Tryd.sizeOf78
  v127 := Tryd.zeroValue78 }
theorem Tryd.Builder_Extra_169 : Builder.Extra Tryd.prog Tryd.lays169_ren := {
  sizeBuilder := by kernel_rfl
  liesBuilder := by kernel_rfl
  t5 := Tryd.underlying5
  a5 := Tryd.isAgg5
  z5 := Tryd.sizeOf5
  v5 := Tryd.zeroValue5
  infoByte := by kernel_rfl
  cellsByte := by kernel_rfl
  sizeByte := by kernel_rfl
  neB5 := by decide }
open Go.RowKit in
/-- (*strings.Builder).String: "String returns the accumulated string.": OF A BUILDER THAT HOLDS AT LEAST ONE BYTE. ✋ THE MODEL FREEZES THOSE BYTES IN THE BUFFER (unsafe.String): a later write INTO them ends the model's run without an answer; a later append BEHIND them goes on. The statement's order of evaluation is drawn: one draw. (LAID: no walk: one application.) -/
theorem Tryd.Builder_String (B b : Nat) (l : List UInt8) (w : World) (h : Lib.IsBuilder 69 5 B b (Lib.byteCells l) w) (h0 : l ≠ []) :
    Calls Tryd.prog 48 #[.pointer (some ⟨b, 0, none⟩)] w fun e w' => e = .returned (.string ⟨l.toArray⟩) ∧ Below B w w' := Any.Builder_String Tryd.lays169 Tryd.Builder_Extra_169 B b l w h h0
open Go.RowKit in
/-- (*strings.Builder).String OF A BUILDER THAT HOLDS NO BYTE: the empty string. (Its buffer is nil, or a row of which it has taken nothing yet; where that row has NO capacity the model lays one new block for unsafe.SliceData's 'some address'.) One draw. (LAID: no walk: one application.) -/
theorem Tryd.Builder_String_empty (B b : Nat) (w : World) (h : Lib.IsBuilder 69 5 B b [] w) (hBw : B ≤ w.heap.size) :
    Calls Tryd.prog 48 #[.pointer (some ⟨b, 0, none⟩)] w fun e w' => e = .returned (.string ⟨#[]⟩) ∧ Below B w w' := Any.Builder_String_empty Tryd.lays169 Tryd.Builder_Extra_169 B b w h hBw
open Go.RowKit in
/-- (*strings.Builder).String: "String returns the accumulated string.": WHATEVER THE BUILDER HOLDS. (LAID: no walk: one application.) -/
theorem Tryd.Builder_String_any (B b : Nat) (l : List UInt8) (w : World) (h : Lib.IsBuilder 69 5 B b (Lib.byteCells l) w) (hBw : B ≤ w.heap.size) :
    Calls Tryd.prog 48 #[.pointer (some ⟨b, 0, none⟩)] w fun e w' => e = .returned (.string ⟨l.toArray⟩) ∧ Below B w w' := Any.Builder_String_any Tryd.lays169 Tryd.Builder_Extra_169 B b l w h hBw
def Tryd.lays241_ren : Go.Shelf.Ren := ⟨fun | 241 => 55 | 277 => 65 | n => n, fun | 70 => 66 | 3 => 3 | 0 => 0 | 72 => 69 | 37 => 67 | 5 => 5 | n => n, fun | n => n⟩
theorem Tryd.lays241 : Go.Proofs.Lays.n241 Tryd.prog Tryd.lays241_ren := {
  mixed := by kernel_rfl
  f241 := Tryd.func55.trans (congrArg some (by kernel_rfl))
  f277 := Tryd.func65.trans (congrArg some (by kernel_rfl))
  t0 := Tryd.underlying0
  a0 := Tryd.isAgg0
  z0 := Tryd.sizeOf0
  v0 := Tryd.zeroValue0
  t3 := Tryd.underlying3
  a3 := Tryd.isAgg3
  z3 := Tryd.sizeOf3
  v3 := Tryd.zeroValue3
  t37 := Tryd.underlying67
  a37 := Tryd.isAgg67
  z37 := Tryd.sizeOf67
  v37 := Tryd.zeroValue67
  t70 := Tryd.underlying66
  a70 := Tryd.isAgg66
  z70 := Tryd.sizeOf66
  v70 := Tryd.zeroValue66
  t72 := Tryd.underlying69
  a72 := Tryd.isAgg69
  z72 := Tryd.sizeOf69
  v72 := Tryd.zeroValue69 }
theorem Tryd.Builder_Extra_241 : Builder.Extra Tryd.prog Tryd.lays241_ren := {
  sizeBuilder := by kernel_rfl
  liesBuilder := by kernel_rfl
  t5 := Tryd.underlying5
  a5 := Tryd.isAgg5
  z5 := Tryd.sizeOf5
  v5 := Tryd.zeroValue5
  infoByte := by kernel_rfl
  cellsByte := by kernel_rfl
  sizeByte := by kernel_rfl
  neB5 := by decide }
open Go.RowKit in
/-- (*strings.Builder).grow (no doc but "grow copies the buffer to a new, larger buffer so that there are at least n bytes of capacity beyond len(b.buf)."): AT A BUILDER WITHOUT A BUFFER: a new row of whatever bytes for its buffer, none of them its own yet. Three draws. (LAID: no walk: one application.) -/
theorem Tryd.Builder_grow_fresh (B b n : Nat) (w : World) (hB : B ≤ b) (hbk : w.heap[b]? = some (.cells #[.pointer (some ⟨b, 0, none⟩), .slice none 0 0] 69 (0, 0))) (hBw : B ≤ w.heap.size) (hn : n ≤ 281474976710656) :
    Calls Tryd.prog 55 #[.pointer (some ⟨b, 0, none⟩), .int .i64 n] w fun e w' => e = .returned (.tuple #[]) ∧ (Lib.BuilderAt 69 5 B b (.pointer (some ⟨b, 0, none⟩)) [] w' ∧ Below B w w') := Any.Builder_grow_fresh Tryd.lays241 Tryd.Builder_Extra_241 B b n w hB hbk hBw hn
def Tryd.lays165_ren : Go.Shelf.Ren := ⟨fun | 165 => 46 | 240 => 54 | 241 => 55 | 276 => 64 | 277 => 65 | n => n, fun | 70 => 66 | 3 => 3 | 0 => 0 | 4 => 4 | 9 => 9 | 20 => 20 | 72 => 69 | 37 => 67 | 164 => 85 | 5 => 5 | n => n, fun | n => n⟩
theorem Tryd.lays165 : Go.Proofs.Lays.n165 Tryd.prog Tryd.lays165_ren := {
  mixed := by kernel_rfl
  f165 := Tryd.func46.trans (congrArg some (by kernel_rfl))
  f240 := Tryd.func54.trans (congrArg some (by kernel_rfl))
  f241 := Tryd.func55.trans (congrArg some (by kernel_rfl))
  f276 := Tryd.func64.trans (congrArg some (by kernel_rfl))
  f277 := Tryd.func65.trans (congrArg some (by kernel_rfl))
  t0 := Tryd.underlying0
  a0 := Tryd.isAgg0
  z0 := Tryd.sizeOf0
  v0 := Tryd.zeroValue0
  t3 := Tryd.underlying3
  a3 := Tryd.isAgg3
  z3 := Tryd.sizeOf3
  v3 := Tryd.zeroValue3
  t4 := Tryd.underlying4
  a4 := Tryd.isAgg4
  z4 := Tryd.sizeOf4
  v4 := Tryd.zeroValue4
  t9 := Tryd.underlying9
  a9 := Tryd.isAgg9
  z9 := Tryd.sizeOf9
  v9 := Tryd.zeroValue9
  t20 := Tryd.underlying20
  a20 := Tryd.isAgg20
  z20 := Tryd.sizeOf20
  v20 := Tryd.zeroValue20
  t37 := Tryd.underlying67
  a37 := Tryd.isAgg67
  z37 := Tryd.sizeOf67
  v37 := Tryd.zeroValue67
  t70 := Tryd.underlying66
  a70 := Tryd.isAgg66
  z70 := Tryd.sizeOf66
  v70 := Tryd.zeroValue66
  t72 := Tryd.underlying69
  a72 := Tryd.isAgg69
  z72 := Tryd.sizeOf69
  v72 := Tryd.zeroValue69
  t164 := Tryd.underlying85
  a164 := Tryd.isAgg85
  z164 := Tryd.sizeOf85
  v164 := Tryd.zeroValue85 }
theorem Tryd.Builder_Extra_165 : Builder.Extra Tryd.prog Tryd.lays165_ren := {
  sizeBuilder := by kernel_rfl
  liesBuilder := by kernel_rfl
  t5 := Tryd.underlying5
  a5 := Tryd.isAgg5
  z5 := Tryd.sizeOf5
  v5 := Tryd.zeroValue5
  infoByte := by kernel_rfl
  cellsByte := by kernel_rfl
  sizeByte := by kernel_rfl
  neB5 := by decide }
open Go.RowKit in
/-- (*strings.Builder).Grow AT A BUILDER THAT HAS NOT BEEN WRITTEN ('var b strings.Builder; b.Grow(n)'): "Grow grows b's capacity, if necessary, to guarantee space for another n bytes.": it holds no byte behind it as before it. (LAID: no walk: one application.) -/
theorem Tryd.Builder_Grow_fresh (B b n : Nat) (w : World) (hB : B ≤ b) (hbk : w.heap[b]? = some (.cells #[.pointer none, .slice none 0 0] 69 (0, 0))) (hBw : B ≤ w.heap.size) (hn : n ≤ 281474976710656) :
    Calls Tryd.prog 46 #[.pointer (some ⟨b, 0, none⟩), .int .i64 n] w fun e w' => e = .returned (.tuple #[]) ∧ (Lib.BuilderAt 69 5 B b (.pointer (some ⟨b, 0, none⟩)) [] w' ∧ Below B w w') := Any.Builder_Grow_fresh Tryd.lays165 Tryd.Builder_Extra_165 B b n w hB hbk hBw hn
def Tryd.lays156_ren : Go.Shelf.Ren := ⟨fun | 156 => 27 | 165 => 46 | 166 => 47 | 169 => 48 | 240 => 54 | 241 => 55 | 276 => 64 | 277 => 65 | n => n, fun | 31 => 23 | 9 => 9 | 3 => 3 | 4 => 4 | 0 => 0 | 20 => 20 | 72 => 69 | 76 => 73 | 70 => 66 | 37 => 67 | 75 => 72 | 127 => 78 | 164 => 85 | 5 => 5 | 80 => 56 | n => n, fun | n => n⟩
theorem Tryd.lays156 : Go.Proofs.Lays.n156 Tryd.prog Tryd.lays156_ren := {
  mixed := by kernel_rfl
  f156 := Tryd.func27.trans (congrArg some (by kernel_rfl))
  f165 := Tryd.func46.trans (congrArg some (by kernel_rfl))
  f166 := Tryd.func47.trans (congrArg some (by kernel_rfl))
  f169 := Tryd.func48.trans (congrArg some (by kernel_rfl))
  f240 := Tryd.func54.trans (congrArg some (by kernel_rfl))
  f241 := Tryd.func55.trans (congrArg some (by kernel_rfl))
  f276 := Tryd.func64.trans (congrArg some (by kernel_rfl))
  f277 := Tryd.func65.trans (congrArg some (by kernel_rfl))
  t0 := Tryd.underlying0
  a0 := Tryd.isAgg0
  z0 := Tryd.sizeOf0
  v0 := Tryd.zeroValue0
  t3 := Tryd.underlying3
  a3 := Tryd.isAgg3
  z3 := Tryd.sizeOf3
  v3 := Tryd.zeroValue3
  t4 := Tryd.underlying4
  a4 := Tryd.isAgg4
  z4 := Tryd.sizeOf4
  v4 := Tryd.zeroValue4
  t9 := Tryd.underlying9
  a9 := Tryd.isAgg9
  z9 := Tryd.sizeOf9
  v9 := Tryd.zeroValue9
  t20 := Tryd.underlying20
  a20 := Tryd.isAgg20
  z20 := Tryd.sizeOf20
  v20 := Tryd.zeroValue20
  t31 := Tryd.underlying23
  a31 := Tryd.isAgg23
  z31 := Tryd.sizeOf23
  v31 := Tryd.zeroValue23
  t37 := Tryd.underlying67
  a37 := Tryd.isAgg67
  z37 := Tryd.sizeOf67
  v37 := Tryd.zeroValue67
  t70 := Tryd.underlying66
  a70 := Tryd.isAgg66
  z70 := Tryd.sizeOf66
  v70 := Tryd.zeroValue66
  t72 := Tryd.underlying69
  a72 := Tryd.isAgg69
  z72 := Tryd.sizeOf69
  v72 := Tryd.zeroValue69
  t75 := Tryd.underlying72
  a75 := Tryd.isAgg72
  z75 := Tryd.sizeOf72
  v75 := Tryd.zeroValue72
  t76 := Tryd.underlying73
  a76 := Tryd.isAgg73
  z76 := Tryd.sizeOf73
  v76 := Tryd.zeroValue73
  t127 := Tryd.underlying78
  a127 := Tryd.isAgg78
  z127 := Tryd.sizeOf78
  v127 := Tryd.zeroValue78
  t164 := Tryd.underlying85
  a164 := Tryd.isAgg85
  z164 := Tryd.sizeOf85
  v164 := Tryd.zeroValue85 }
theorem Tryd.Builder_Extra_156 : Builder.Extra Tryd.prog Tryd.lays156_ren := {
  sizeBuilder := by kernel_rfl
  liesBuilder := by kernel_rfl
  t5 := Tryd.underlying5
  a5 := Tryd.isAgg5
  z5 := Tryd.sizeOf5
  v5 := Tryd.zeroValue5
  infoByte := by kernel_rfl
  cellsByte := by kernel_rfl
  sizeByte := by kernel_rfl
  neB5 := by decide }
open Go.RowKit in
/-- No element: the empty string; the world is as it was. (Whatever the slice's address and capacity: a nil slice too.) (LAID: no walk: one application.) -/
theorem Tryd.strings_Join_none (a : Option Addr) (c : Nat) (sep : ByteArray) (w : World) :
    Calls Tryd.prog 27 #[.slice a 0 c, .string sep] w fun e w' => e = .returned (.string ⟨#[]⟩) ∧ w' = w := Any.strings_Join_none Tryd.lays156 Tryd.Builder_Extra_156 a c sep w
open Go.RowKit in
/-- strings.Join: "Join concatenates the elements of its first argument to create a single string. The separator string sep is placed between elements in the resulting string.": HOWEVER MANY ELEMENTS. Below the heap's end the world is as it was. (LAID: no walk: one application.) -/
theorem Tryd.strings_Join (bk o c : Nat) (xs : List ByteArray) (sep : ByteArray) (w : World) (hcells : ∀ (j : Nat) x, xs[j]? = some x → w.cell? ⟨bk, o + j, none⟩ = some (.string x)) (hbk : bk < w.heap.size) (hN : xs.length ≤ 140737488355328) (hcap : xs.length ≤ c) (hlen : (Lib.join (xs.map (·.data.toList)) sep.data.toList).length ≤ 140737488355328) :
    Calls Tryd.prog 27 #[.slice (some ⟨bk, o, none⟩) xs.length c, .string sep] w fun e w' => e = .returned (.string ⟨(Lib.join (xs.map (·.data.toList)) sep.data.toList).toArray⟩) ∧ Below w.heap.size w w' := Any.strings_Join Tryd.lays156 Tryd.Builder_Extra_156 bk o c xs sep w hcells hbk hN hcap hlen
def Tryd.lays137_ren : Go.Shelf.Ren := ⟨fun | 137 => 62 | 217 => 73 | 266 => 87 | n => n, fun | 9 => 9 | 5 => 5 | 3 => 3 | n => n, fun | n => n⟩
theorem Tryd.lays137 : Go.Proofs.Lays.n137 Tryd.prog Tryd.lays137_ren := {
  mixed := by kernel_rfl
  f137 := Tryd.func62.trans (congrArg some (by kernel_rfl))
  f217 := Tryd.func73.trans (congrArg some (by kernel_rfl))
  f266 := Tryd.func87.trans (congrArg some (by kernel_rfl))
  t3 := Tryd.underlying3
  a3 := Tryd.isAgg3
  z3 := Tryd.sizeOf3
  v3 := Tryd.zeroValue3
  t5 := Tryd.underlying5
  a5 := Tryd.isAgg5
  z5 := Tryd.sizeOf5
  v5 := Tryd.zeroValue5
  t9 := Tryd.underlying9
  a9 := Tryd.isAgg9
  z9 := Tryd.sizeOf9
  v9 := Tryd.zeroValue9 }
open Go.RowKit in
/-- strings.IndexByte: "IndexByte returns the index of the first instance of c in s, or -1 if c is not present in s.": IT RETURNS 'Lib.indexByte s c'; the world is as it was. (LAID: no walk: one application.) -/
theorem Tryd.strings_IndexByte (s : ByteArray) (c : Int) (w : World) :
    Calls Tryd.prog 62 #[.string s, .int .u8 c] w fun e w' => e = .returned (.int .i64 (Lib.indexByte s.data.toList c.toNat.toUInt8)) ∧ w' = w := Any.strings_IndexByte Tryd.lays137 s c w
open Go.RowKit in
/-- (*strings.Builder).String: "String returns the accumulated string.": OF A BUILDER THAT HOLDS AT LEAST ONE BYTE. ✋ THE MODEL FREEZES THOSE BYTES IN THE BUFFER (unsafe.String): a later write INTO them ends the model's run without an answer; a later append BEHIND them goes on. The statement's order of evaluation is drawn: one draw. THE FORM '_f': IT SAYS BESIDES THAT THE BUILDER IS A BUILDER STILL ('Lib.IsBuilderF', the same bytes): SO IT CAN BE WRITTEN ON: 'b.WriteString(b.String()[:k])'. (LAID: no walk: one application.) -/
theorem Tryd.Builder_String_f (B b : Nat) (l : List UInt8) (w : World) (h : Lib.IsBuilderF 69 5 B b (Lib.byteCells l) w) (h0 : l ≠ []) :
    Calls Tryd.prog 48 #[.pointer (some ⟨b, 0, none⟩)] w fun e w' => e = .returned (.string ⟨l.toArray⟩) ∧ (Lib.IsBuilderF 69 5 B b (Lib.byteCells l) w' ∧ Below B w w') := Any.Builder_String_f Tryd.lays169 Tryd.Builder_Extra_169 B b l w h h0
open Go.RowKit in
/-- (*strings.Builder).String OF A BUILDER THAT HOLDS NO BYTE: the empty string; THE FORM '_f': a builder still. (LAID: no walk: one application.) -/
theorem Tryd.Builder_String_empty_f (B b : Nat) (w : World) (h : Lib.IsBuilderF 69 5 B b [] w) (hBw : B ≤ w.heap.size) :
    Calls Tryd.prog 48 #[.pointer (some ⟨b, 0, none⟩)] w fun e w' => e = .returned (.string ⟨#[]⟩) ∧ (Lib.IsBuilderF 69 5 B b [] w' ∧ Below B w w') := Any.Builder_String_empty_f Tryd.lays169 Tryd.Builder_Extra_169 B b w h hBw
open Go.RowKit in
/-- (*strings.Builder).String: "String returns the accumulated string.": WHATEVER THE BUILDER HOLDS; THE FORM '_f': OF A BUILDER THAT MAY HAVE BEEN READ BEFORE; AND IT IS A BUILDER STILL, holding the same bytes: it can be written on. (LAID: no walk: one application.) -/
theorem Tryd.Builder_String_any_f (B b : Nat) (l : List UInt8) (w : World) (h : Lib.IsBuilderF 69 5 B b (Lib.byteCells l) w) (hBw : B ≤ w.heap.size) :
    Calls Tryd.prog 48 #[.pointer (some ⟨b, 0, none⟩)] w fun e w' => e = .returned (.string ⟨l.toArray⟩) ∧ (Lib.IsBuilderF 69 5 B b (Lib.byteCells l) w' ∧ Below B w w') := Any.Builder_String_any_f Tryd.lays169 Tryd.Builder_Extra_169 B b l w h hBw
open Go.RowKit in
/-- (*strings.Builder).String: "String returns the accumulated string.": OF A BUILDER THAT HOLDS AT LEAST ONE BYTE. ✋ THE MODEL FREEZES THOSE BYTES IN THE BUFFER (unsafe.String): a later write INTO them ends the model's run without an answer; a later append BEHIND them goes on. The statement's order of evaluation is drawn: one draw. THE FORM '_k': OVER 'Lib.IsBuilderF' (a builder that 'String()' may have read), AND WITH THE FRAME THAT REACHES ABOVE THE BUILDER: 'Lib.OthersKept': every block that is not b and is no row of uint8's stands as it stood: the iterator of a range among them. (LAID: no walk: one application.) -/
theorem Tryd.Builder_String_k (B b : Nat) (l : List UInt8) (w : World) (h : Lib.IsBuilderF 69 5 B b (Lib.byteCells l) w) (h0 : l ≠ []) :
    Calls Tryd.prog 48 #[.pointer (some ⟨b, 0, none⟩)] w fun e w' => e = .returned (.string ⟨l.toArray⟩) ∧ (Lib.IsBuilderF 69 5 B b (Lib.byteCells l) w' ∧ Below B w w' ∧ Lib.OthersKept 5 (some b) w w') := Any.Builder_String_k Tryd.lays169 Tryd.Builder_Extra_169 B b l w h h0
open Go.RowKit in
/-- (*strings.Builder).String OF A BUILDER THAT HOLDS NO BYTE: the empty string; THE FORM '_k': OVER 'Lib.IsBuilderF' (a builder that 'String()' may have read), AND WITH THE FRAME THAT REACHES ABOVE THE BUILDER: 'Lib.OthersKept': every block that is not b and is no row of uint8's stands as it stood: the iterator of a range among them. (LAID: no walk: one application.) -/
theorem Tryd.Builder_String_empty_k (B b : Nat) (w : World) (h : Lib.IsBuilderF 69 5 B b [] w) (hBw : B ≤ w.heap.size) :
    Calls Tryd.prog 48 #[.pointer (some ⟨b, 0, none⟩)] w fun e w' => e = .returned (.string ⟨#[]⟩) ∧ (Lib.IsBuilderF 69 5 B b [] w' ∧ Below B w w' ∧ Lib.OthersKept 5 (some b) w w') := Any.Builder_String_empty_k Tryd.lays169 Tryd.Builder_Extra_169 B b w h hBw
open Go.RowKit in
/-- (*strings.Builder).String: "String returns the accumulated string.": WHATEVER THE BUILDER HOLDS; THE FORM '_k': OVER 'Lib.IsBuilderF' (a builder that 'String()' may have read), AND WITH THE FRAME THAT REACHES ABOVE THE BUILDER: 'Lib.OthersKept': every block that is not b and is no row of uint8's stands as it stood: the iterator of a range among them. (LAID: no walk: one application.) -/
theorem Tryd.Builder_String_any_k (B b : Nat) (l : List UInt8) (w : World) (h : Lib.IsBuilderF 69 5 B b (Lib.byteCells l) w) (hBw : B ≤ w.heap.size) :
    Calls Tryd.prog 48 #[.pointer (some ⟨b, 0, none⟩)] w fun e w' => e = .returned (.string ⟨l.toArray⟩) ∧ (Lib.IsBuilderF 69 5 B b (Lib.byteCells l) w' ∧ Below B w w' ∧ Lib.OthersKept 5 (some b) w w') := Any.Builder_String_any_k Tryd.lays169 Tryd.Builder_Extra_169 B b l w h hBw
def Tryd.lays195_ren : Go.Shelf.Ren := ⟨fun | 195 => 66 | n => n, fun | 9 => 9 | 3 => 3 | 0 => 0 | 4 => 4 | n => n, fun | n => n⟩
theorem Tryd.lays195 : Go.Proofs.Lays.n195 Tryd.prog Tryd.lays195_ren := {
  mixed := by kernel_rfl
  f195 := Tryd.func66.trans (congrArg some (by kernel_rfl))
  t0 := Tryd.underlying0
  a0 := Tryd.isAgg0
  z0 := Tryd.sizeOf0
  v0 := Tryd.zeroValue0
  t3 := Tryd.underlying3
  a3 := Tryd.isAgg3
  z3 := Tryd.sizeOf3
  v3 := Tryd.zeroValue3
  t4 := Tryd.underlying4
  a4 := Tryd.isAgg4
  z4 := Tryd.sizeOf4
  v4 := Tryd.zeroValue4
  t9 := Tryd.underlying9
  a9 := Tryd.isAgg9
  z9 := Tryd.sizeOf9
  v9 := Tryd.zeroValue9 }
open Go.RowKit in
/-- unicode/utf8.RuneCountInString: "RuneCountInString is like RuneCount but its input is a string." ("RuneCount returns the number of runes in p. Erroneous and short encodings are treated as single runes of width 1 byte."): EVERY STRING, valid UTF-8 or not: 'Lib.runeCount s' (plain Lean over the model's own 'Utf8.decode'; 'Lib.runeCount_le': at most len(s); 'Lib.runeCount_ascii': on ASCII: len(s)). THE ONE CONDITION: len(s) below 2^63 - 1 (the counter does not wrap): the form's reach pays it. THE WORLD BEHIND THE CALL: ONE BLOCK MORE: the model's iterator over s, at its end: all else as it was. (LAID: no walk: one application.) -/
theorem Tryd.utf8_RuneCountInString (s : ByteArray) (w : World) (hs : s.size < 9223372036854775807) :
    Calls Tryd.prog 66 #[.string s] w fun e w' => e = .returned (.int .i64 (Lib.runeCount s)) ∧ ∃ pos, w' = w.iter s pos := Any.utf8_RuneCountInString Tryd.lays195 s w hs
open Go.RowKit in
/-- (*strings.Builder).grow (no doc but "grow copies the buffer to a new, larger buffer so that there are at least n bytes of capacity beyond len(b.buf)."): AT A BUILDER WITHOUT A BUFFER: a new row of whatever bytes for its buffer, none of them its own yet. Three draws. (LAID: no walk: one application.) -/
theorem Tryd.Builder_grow_fresh_cap (B b n : Nat) (w : World) (hB : B ≤ b) (hbk : w.heap[b]? = some (.cells #[.pointer (some ⟨b, 0, none⟩), .slice none 0 0] 69 (0, 0))) (hBw : B ≤ w.heap.size) (hn : n ≤ 281474976710656) :
    Calls Tryd.prog 55 #[.pointer (some ⟨b, 0, none⟩), .int .i64 n] w fun e w' => e = .returned (.tuple #[]) ∧ (Lib.BuilderAt 69 5 B b (.pointer (some ⟨b, 0, none⟩)) [] w' ∧ Below B w w') ∧ ∃ p cap, w'.cell? ⟨b, 1, none⟩ = some (.slice p 0 cap) ∧ n ≤ cap := Any.Builder_grow_fresh_cap Tryd.lays241 Tryd.Builder_Extra_241 B b n w hB hbk hBw hn
open Go.RowKit in
/-- (*strings.Builder).Grow AT A BUILDER THAT HAS NOT BEEN WRITTEN ('var b strings.Builder; b.Grow(n)'): "Grow grows b's capacity, if necessary, to guarantee space for another n bytes.": it holds no byte behind it as before it. (LAID: no walk: one application.) -/
theorem Tryd.Builder_Grow_fresh_cap (B b n : Nat) (w : World) (hB : B ≤ b) (hbk : w.heap[b]? = some (.cells #[.pointer none, .slice none 0 0] 69 (0, 0))) (hBw : B ≤ w.heap.size) (hn : n ≤ 281474976710656) :
    Calls Tryd.prog 46 #[.pointer (some ⟨b, 0, none⟩), .int .i64 n] w fun e w' => e = .returned (.tuple #[]) ∧ (Lib.BuilderAt 69 5 B b (.pointer (some ⟨b, 0, none⟩)) [] w' ∧ Below B w w') ∧ ∃ p cap, w'.cell? ⟨b, 1, none⟩ = some (.slice p 0 cap) ∧ n ≤ cap := Any.Builder_Grow_fresh_cap Tryd.lays165 Tryd.Builder_Extra_165 B b n w hB hbk hBw hn
def Tryd.lays244_ren : Go.Shelf.Ren := ⟨fun | 244 => 70 | 247 => 82 | 287 => 94 | 321 => 99 | 322 => 100 | n => n, fun | 9 => 9 | 3 => 3 | 75 => 72 | 4 => 4 | 5 => 5 | 167 => 100 | 37 => 67 | 0 => 0 | 85 => 101 | 2 => 2 | 53 => 93 | 175 => 117 | 46 => 99 | 21 => 21 | 80 => 56 | n => n, fun | n => n⟩
theorem Tryd.lays244 : Go.Proofs.Lays.n244 Tryd.prog Tryd.lays244_ren := {
  mixed := by kernel_rfl
  f244 := Tryd.func70.trans (congrArg some (by kernel_rfl))
  f247 := Tryd.func82.trans (congrArg some (by kernel_rfl))
  f287 := Tryd.func94.trans (congrArg some (by kernel_rfl))
  f321 := Tryd.func99.trans (congrArg some (by kernel_rfl))
  f322 := Tryd.func100.trans (congrArg some (by kernel_rfl))
  t0 := Tryd.underlying0
  a0 := Tryd.isAgg0
  z0 := Tryd.sizeOf0
  v0 := Tryd.zeroValue0
  t2 := Tryd.underlying2
  a2 := Tryd.isAgg2
  z2 := Tryd.sizeOf2
  v2 := Tryd.zeroValue2
  t3 := Tryd.underlying3
  a3 := Tryd.isAgg3
  z3 := Tryd.sizeOf3
  v3 := Tryd.zeroValue3
  t4 := Tryd.underlying4
  a4 := Tryd.isAgg4
  z4 := Tryd.sizeOf4
  v4 := Tryd.zeroValue4
  t5 := Tryd.underlying5
  a5 := Tryd.isAgg5
  z5 := Tryd.sizeOf5
  v5 := Tryd.zeroValue5
  t9 := Tryd.underlying9
  a9 := Tryd.isAgg9
  z9 := Tryd.sizeOf9
  v9 := Tryd.zeroValue9
  t21 := Tryd.underlying21
  a21 := Tryd.isAgg21
  z21 := Tryd.sizeOf21
  v21 := Tryd.zeroValue21
  t37 := Tryd.underlying67
  a37 := Tryd.isAgg67
  z37 := Tryd.sizeOf67
  v37 := Tryd.zeroValue67
  t46 := Tryd.underlying99
  a46 := Tryd.isAgg99
  z46 := Tryd.sizeOf99
  v46 := Tryd.zeroValue99
  t53 := Tryd.underlying93
  a53 := Tryd.isAgg93
  z53 := Tryd.sizeOf93
  v53 := Tryd.zeroValue93
  t75 := Tryd.underlying72
  a75 := Tryd.isAgg72
  z75 := Tryd.sizeOf72
  v75 := Tryd.zeroValue72
  t85 := Tryd.underlying101
  a85 := Tryd.isAgg101
  z85 := Tryd.sizeOf101
  v85 := Tryd.zeroValue101
  t167 := Tryd.underlying100
  a167 := Tryd.isAgg100
  z167 := Tryd.sizeOf100
  v167 := Tryd.zeroValue100
  t175 := Tryd.underlying117
  a175 := Tryd.isAgg117
  z175 := Tryd.sizeOf117
  v175 := Tryd.zeroValue117 }
open Go.RowKit in
/-- internal/strconv.Atoi, at a decimal numeral of at most 18 bytes: ITS VALUE, AND NO ERROR. The world behind the call: the one new row that '[]byte(s)' lays. (LAID: no walk: one application.) -/
theorem Tryd.internal_strconv_Atoi (s : ByteArray) (n : Int) (hl : s.size ≤ 18) (h : Lib.atoi s.data.toList = some n) (w : World) :
    Calls Tryd.prog 70 #[.string s] w fun e w' => e = .returned (.tuple #[.int .i64 n, .nilIface]) ∧ ∃ t, w' = Lib.bytesWorld w 5 t := Any.internal_strconv_Atoi Tryd.lays244 s n hl h w
def Tryd.lays172_ren : Go.Shelf.Ren := ⟨fun | 172 => 59 | 244 => 70 | 245 => 71 | 247 => 82 | 279 => 83 | 280 => 84 | 281 => 85 | 282 => 86 | 287 => 94 | 316 => 95 | 171 => 45 | 205 => 96 | 321 => 99 | 322 => 100 | 243 => 53 | 246 => 63 | 283 => 74 | 284 => 75 | 285 => 76 | 286 => 77 | 129 => 89 | 317 => 88 | 318 => 90 | 319 => 91 | 320 => 92 | 337 => 97 | 338 => 98 | n => n, fun | 9 => 9 | 3 => 3 | 75 => 72 | 76 => 73 | 4 => 4 | 5 => 5 | 167 => 100 | 37 => 67 | 0 => 0 | 85 => 101 | 2 => 2 | 168 => 103 | 53 => 93 | 175 => 117 | 46 => 99 | 210 => 121 | 127 => 78 | 145 => 127 | 143 => 125 | 21 => 21 | 171 => 92 | 173 => 96 | 212 => 107 | 51 => 108 | 20 => 20 | 213 => 109 | 232 => 128 | 233 => 129 | 80 => 56 | n => n, fun | 15 => 4 | 16 => 5 | 17 => 1 | 18 => 6 | 19 => 7 | n => n⟩
theorem Tryd.lays172 : Go.Proofs.Lays.n172 Tryd.prog Tryd.lays172_ren := {
  mixed := by kernel_rfl
  f129 := Tryd.func89.trans (congrArg some (by kernel_rfl))
  f171 := Tryd.func45.trans (congrArg some (by kernel_rfl))
  f172 := Tryd.func59.trans (congrArg some (by kernel_rfl))
  f205 := Tryd.func96.trans (congrArg some (by kernel_rfl))
  f243 := Tryd.func53.trans (congrArg some (by kernel_rfl))
  f244 := Tryd.func70.trans (congrArg some (by kernel_rfl))
  f245 := Tryd.func71.trans (congrArg some (by kernel_rfl))
  f246 := Tryd.func63.trans (congrArg some (by kernel_rfl))
  f247 := Tryd.func82.trans (congrArg some (by kernel_rfl))
  f279 := Tryd.func83.trans (congrArg some (by kernel_rfl))
  f280 := Tryd.func84.trans (congrArg some (by kernel_rfl))
  f281 := Tryd.func85.trans (congrArg some (by kernel_rfl))
  f282 := Tryd.func86.trans (congrArg some (by kernel_rfl))
  f283 := Tryd.func74.trans (congrArg some (by kernel_rfl))
  f284 := Tryd.func75.trans (congrArg some (by kernel_rfl))
  f285 := Tryd.func76.trans (congrArg some (by kernel_rfl))
  f286 := Tryd.func77.trans (congrArg some (by kernel_rfl))
  f287 := Tryd.func94.trans (congrArg some (by kernel_rfl))
  f316 := Tryd.func95.trans (congrArg some (by kernel_rfl))
  f317 := Tryd.func88.trans (congrArg some (by kernel_rfl))
  f318 := Tryd.func90.trans (congrArg some (by kernel_rfl))
  f319 := Tryd.func91.trans (congrArg some (by kernel_rfl))
  f320 := Tryd.func92.trans (congrArg some (by kernel_rfl))
  f321 := Tryd.func99.trans (congrArg some (by kernel_rfl))
  f322 := Tryd.func100.trans (congrArg some (by kernel_rfl))
  f337 := Tryd.func97.trans (congrArg some (by kernel_rfl))
  f338 := Tryd.func98.trans (congrArg some (by kernel_rfl))
  t0 := Tryd.underlying0
  a0 := Tryd.isAgg0
  z0 := Tryd.sizeOf0
  v0 := Tryd.zeroValue0
  t2 := Tryd.underlying2
  a2 := Tryd.isAgg2
  z2 := Tryd.sizeOf2
  v2 := Tryd.zeroValue2
  t3 := Tryd.underlying3
  a3 := Tryd.isAgg3
  z3 := Tryd.sizeOf3
  v3 := Tryd.zeroValue3
  t4 := Tryd.underlying4
  a4 := Tryd.isAgg4
  z4 := Tryd.sizeOf4
  v4 := Tryd.zeroValue4
  t5 := Tryd.underlying5
  a5 := Tryd.isAgg5
  z5 := Tryd.sizeOf5
  v5 := Tryd.zeroValue5
  t9 := Tryd.underlying9
  a9 := Tryd.isAgg9
  z9 := Tryd.sizeOf9
  v9 := Tryd.zeroValue9
  t20 := Tryd.underlying20
  a20 := Tryd.isAgg20
  z20 := Tryd.sizeOf20
  v20 := Tryd.zeroValue20
  t21 := Tryd.underlying21
  a21 := Tryd.isAgg21
  z21 := Tryd.sizeOf21
  v21 := Tryd.zeroValue21
  t37 := Tryd.underlying67
  a37 := Tryd.isAgg67
  z37 := Tryd.sizeOf67
  v37 := Tryd.zeroValue67
  t46 := Tryd.underlying99
  a46 := Tryd.isAgg99
  z46 := Tryd.sizeOf99
  v46 := Tryd.zeroValue99
  t51 := Tryd.underlying108
  a51 := Tryd.isAgg108
  z51 := Tryd.sizeOf108
  v51 := Tryd.zeroValue108
  t53 := Tryd.underlying93
  a53 := Tryd.isAgg93
  z53 := Tryd.sizeOf93
  v53 := Tryd.zeroValue93
  t75 := Tryd.underlying72
  a75 := Tryd.isAgg72
  z75 := Tryd.sizeOf72
  v75 := Tryd.zeroValue72
  t76 := Tryd.underlying73
  a76 := Tryd.isAgg73
  z76 := Tryd.sizeOf73
  v76 := Tryd.zeroValue73
  t85 := Tryd.underlying101
  a85 := Tryd.isAgg101
  z85 := Tryd.sizeOf101
  v85 := Tryd.zeroValue101
  t127 := Tryd.underlying78
  a127 := Tryd.isAgg78
  z127 := Tryd.sizeOf78
  v127 := Tryd.zeroValue78
  t143 := Tryd.underlying125
  a143 := Tryd.isAgg125
  z143 := Tryd.sizeOf125
  v143 := Tryd.zeroValue125
  t145 := Tryd.underlying127
  a145 := Tryd.isAgg127
  z145 := Tryd.sizeOf127
  v145 := Tryd.zeroValue127
  t167 := Tryd.underlying100
  a167 := Tryd.isAgg100
  z167 := Tryd.sizeOf100
  v167 := Tryd.zeroValue100
  t168 := Tryd.underlying103
  a168 := Tryd.isAgg103
  z168 := Tryd.sizeOf103
  v168 := Tryd.zeroValue103
  t171 := Tryd.underlying92
  a171 := Tryd.isAgg92
  z171 := Tryd.sizeOf92
  v171 := Tryd.zeroValue92
  t173 := Tryd.underlying96
  a173 := Tryd.isAgg96
  z173 := Tryd.sizeOf96
  v173 := Tryd.zeroValue96
  t175 := Tryd.underlying117
  a175 := Tryd.isAgg117
  z175 := Tryd.sizeOf117
  v175 := Tryd.zeroValue117
  t210 := Tryd.underlying121
  a210 := Tryd.isAgg121
  z210 := Tryd.sizeOf121
  v210 := Tryd.zeroValue121
  t212 := Tryd.underlying107
  a212 := Tryd.isAgg107
  z212 := Tryd.sizeOf107
  v212 := Tryd.zeroValue107
  t213 := Tryd.underlying109
  a213 := Tryd.isAgg109
  z213 := Tryd.sizeOf109
  t232 := Tryd.underlying128
  a232 := Tryd.isAgg128
  z232 := Tryd.sizeOf128
  v232 := Tryd.zeroValue128
  t233 := Tryd.underlying129
  a233 := Tryd.isAgg129
  z233 := Tryd.sizeOf129
  v233 := Tryd.zeroValue129
  g15 := by kernel_rfl
  g16 := by kernel_rfl
  g17 := by kernel_rfl
  g18 := by kernel_rfl
  g19 := by kernel_rfl }
open Go.RowKit in
/-- strconv.Atoi: "Atoi is equivalent to ParseInt(s, 10, 0), converted to type int.": AT A DECIMAL NUMERAL OF AT MOST 18 BYTES: its value, and a nil error. The world behind the call: the one new row that the library's '[]byte(s)' lays. (LAID: no walk: one application.) -/
theorem Tryd.strconv_Atoi (s : ByteArray) (n : Int) (hl : s.size ≤ 18) (h : Lib.atoi s.data.toList = some n) (w : World) :
    Calls Tryd.prog 59 #[.string s] w fun e w' => e = .returned (.tuple #[.int .i64 n, .nilIface]) ∧ ∃ t, w' = Lib.bytesWorld w 5 t := Any.strconv_Atoi Tryd.lays172 s n hl h w
def Tryd.lays129_ren : Go.Shelf.Ren := ⟨fun | 129 => 89 | n => n, fun | 53 => 93 | 3 => 3 | 4 => 4 | 46 => 99 | 5 => 5 | 9 => 9 | n => n, fun | n => n⟩
theorem Tryd.lays129 : Go.Proofs.Lays.n129 Tryd.prog Tryd.lays129_ren := {
  mixed := by kernel_rfl
  f129 := Tryd.func89.trans (congrArg some (by kernel_rfl))
  t3 := Tryd.underlying3
  a3 := Tryd.isAgg3
  z3 := Tryd.sizeOf3
  v3 := Tryd.zeroValue3
  t4 := Tryd.underlying4
  a4 := Tryd.isAgg4
  z4 := Tryd.sizeOf4
  v4 := Tryd.zeroValue4
  t5 := Tryd.underlying5
  a5 := Tryd.isAgg5
  z5 := Tryd.sizeOf5
  v5 := Tryd.zeroValue5
  t9 := Tryd.underlying9
  a9 := Tryd.isAgg9
  z9 := Tryd.sizeOf9
  v9 := Tryd.zeroValue9
  t46 := Tryd.underlying99
  a46 := Tryd.isAgg99
  z46 := Tryd.sizeOf99
  v46 := Tryd.zeroValue99
  t53 := Tryd.underlying93
  a53 := Tryd.isAgg93
  z53 := Tryd.sizeOf93
  v53 := Tryd.zeroValue93 }
/-- bits.Len64: "Len64 returns the minimum number of bits required to represent x; the result is 0 for x == 0.": IT RETURNS 'Lib.bitLen x'; the world is as it was. ('h0', 'h1': x is a uint64.) (LAID: no walk: one application.) -/
theorem Tryd.bits_Len64 (x : Int) (w : World) (h0 : 0 ≤ x) (h1 : x ≤ 18446744073709551615) :
    Calls Tryd.prog 89 #[.int .u64 x] w fun e w' => e = .returned (.int .i64 (Lib.bitLen x.toNat)) ∧ w' = w := Any.bits_Len64 Tryd.lays129 x w h0 h1
def Tryd.lays317_ren : Go.Shelf.Ren := ⟨fun | 317 => 88 | n => n, fun | 3 => 3 | 46 => 99 | n => n, fun | n => n⟩
theorem Tryd.lays317 : Go.Proofs.Lays.n317 Tryd.prog Tryd.lays317_ren := {
  mixed := by kernel_rfl
  f317 := Tryd.func88.trans (congrArg some (by kernel_rfl))
  t3 := Tryd.underlying3
  a3 := Tryd.isAgg3
  z3 := Tryd.sizeOf3
  v3 := Tryd.zeroValue3
  t46 := Tryd.underlying99
  a46 := Tryd.isAgg99
  z46 := Tryd.sizeOf99
  v46 := Tryd.zeroValue99 }
open Go.Lib in
/-- internal/strconv.log10Pow2: "log10Pow2(x) returns ⌊log₁₀ 2**x⌋ = ⌊x * log₁₀ 2⌋.": '(x * 78913) >> 18', at an x up to 64 (a length in bits). The world is as it was. (LAID: no walk: one application.) -/
theorem Tryd.internal_strconv_log10Pow2 (x : Nat) (h : x ≤ 64) (w : World) :
    Calls Tryd.prog 88 #[.int .i64 x] w fun e w' => e = .returned (.int .i64 (Lib.l10 x)) ∧ w' = w := Any.internal_strconv_log10Pow2 Tryd.lays317 x h w
def Tryd.lays318_ren : Go.Shelf.Ren := ⟨fun | 318 => 90 | n => n, fun | 3 => 3 | 4 => 4 | n => n, fun | n => n⟩
theorem Tryd.lays318 : Go.Proofs.Lays.n318 Tryd.prog Tryd.lays318_ren := {
  mixed := by kernel_rfl
  f318 := Tryd.func90.trans (congrArg some (by kernel_rfl))
  t3 := Tryd.underlying3
  a3 := Tryd.isAgg3
  z3 := Tryd.sizeOf3
  v3 := Tryd.zeroValue3
  t4 := Tryd.underlying4
  a4 := Tryd.isAgg4
  z4 := Tryd.sizeOf4
  v4 := Tryd.zeroValue4 }
open Go.Lib in
/-- internal/strconv.bool2: "bool2 converts b to an integer: 1 for true, 0 for false." The world is as it was. (LAID: no walk: one application.) -/
theorem Tryd.internal_strconv_bool2_int (b : Bool) (w : World) :
    Calls Tryd.prog 90 #[.bool b] w fun e w' => e = .returned (.int .i64 (if b then 1 else 0)) ∧ w' = w := Any.internal_strconv_bool2_int Tryd.lays318 b w
def Tryd.lays283_ren : Go.Shelf.Ren := ⟨fun | 283 => 74 | n => n, fun | 3 => 3 | 9 => 9 | 4 => 4 | n => n, fun | n => n⟩
theorem Tryd.lays283 : Go.Proofs.Lays.n283 Tryd.prog Tryd.lays283_ren := {
  mixed := by kernel_rfl
  f283 := Tryd.func74.trans (congrArg some (by kernel_rfl))
  t3 := Tryd.underlying3
  a3 := Tryd.isAgg3
  z3 := Tryd.sizeOf3
  v3 := Tryd.zeroValue3
  t4 := Tryd.underlying4
  a4 := Tryd.isAgg4
  z4 := Tryd.sizeOf4
  v4 := Tryd.zeroValue4
  t9 := Tryd.underlying9
  a9 := Tryd.isAgg9
  z9 := Tryd.sizeOf9
  v9 := Tryd.zeroValue9 }
open Go.Lib in
/-- internal/strconv.small: "small returns the string for an i with 0 <= i < nSmalls.": i's decimal numeral. The world is as it was. (LAID: no walk: one application.) -/
theorem Tryd.internal_strconv_small (i : Nat) (h : i < 100) (w : World) :
    Calls Tryd.prog 74 #[.int .i64 i] w fun e w' => e = .returned (.string ⟨(Lib.decDigits i).toArray⟩) ∧ w' = w := Any.internal_strconv_small Tryd.lays283 i h w
def Tryd.laysM284_ren : Go.Shelf.Ren := ⟨fun | 284 => 75 | 129 => 89 | 317 => 88 | 318 => 90 | n => n, fun | 53 => 93 | 3 => 3 | 212 => 107 | 0 => 0 | 4 => 4 | 46 => 99 | 5 => 5 | 9 => 9 | n => n, fun | 17 => 1 | n => n⟩
theorem Tryd.laysM284 : Go.Proofs.LaysM.n284 Tryd.prog Tryd.laysM284_ren := {
  mixed := by kernel_rfl
  f129 := Tryd.func89.trans (congrArg some (by kernel_rfl))
  f284 := Tryd.func75.trans (congrArg some (by kernel_rfl))
  f317 := Tryd.func88.trans (congrArg some (by kernel_rfl))
  f318 := Tryd.func90.trans (congrArg some (by kernel_rfl))
  t0 := Tryd.underlying0
  a0 := Tryd.isAgg0
  z0 := Tryd.sizeOf0
  v0 := Tryd.zeroValue0
  t3 := Tryd.underlying3
  a3 := Tryd.isAgg3
  z3 := Tryd.sizeOf3
  v3 := Tryd.zeroValue3
  t4 := Tryd.underlying4
  a4 := Tryd.isAgg4
  z4 := Tryd.sizeOf4
  v4 := Tryd.zeroValue4
  t5 := Tryd.underlying5
  a5 := Tryd.isAgg5
  z5 := Tryd.sizeOf5
  v5 := Tryd.zeroValue5
  t9 := Tryd.underlying9
  a9 := Tryd.isAgg9
  z9 := Tryd.sizeOf9
  v9 := Tryd.zeroValue9
  t46 := Tryd.underlying99
  a46 := Tryd.isAgg99
  z46 := Tryd.sizeOf99
  v46 := Tryd.zeroValue99
  t53 := Tryd.underlying93
  a53 := Tryd.isAgg93
  z53 := Tryd.sizeOf93
  v53 := Tryd.zeroValue93
  t212 := Tryd.underlying107
  a212 := Tryd.isAgg107
  z212 := Tryd.sizeOf107
  v212 := Tryd.zeroValue107
  g17 := by kernel_rfl
  i0 := by kernel_rfl
  i3 := by kernel_rfl
  i4 := by kernel_rfl
  i5 := by kernel_rfl
  i9 := by kernel_rfl
  i46 := by kernel_rfl
  i53 := by kernel_rfl
  i212 := by kernel_rfl
  m17 := by kernel_rfl }
open Go.Lib in
/-- internal/strconv.numDigits, at a d that is not 0: THE NUMBER OF d's DECIMAL DIGITS. The world is as it was. (LAID: no walk: one application.) -/
theorem Tryd.internal_strconv_numDigits (u : Nat) (h1 : 1 ≤ u) (h2 : u < 18446744073709551616) (w : World) (htab : Lib.TabIs Tryd.prog w "internal/strconv.uint64pow10" .u64 Lib.pow10Tab) :
    Calls Tryd.prog 75 #[.int .u64 u] w fun e w' => e = .returned (.int .i64 (Lib.nDigits u)) ∧ w' = w := Any.internal_strconv_numDigits Tryd.laysM284 u h1 h2 w htab
def Tryd.lays285_ren : Go.Shelf.Ren := ⟨fun | 285 => 76 | n => n, fun | 37 => 67 | 53 => 93 | 3 => 3 | 4 => 4 | 51 => 108 | 9 => 9 | 5 => 5 | 0 => 0 | n => n, fun | n => n⟩
theorem Tryd.lays285 : Go.Proofs.Lays.n285 Tryd.prog Tryd.lays285_ren := {
  mixed := by kernel_rfl
  f285 := Tryd.func76.trans (congrArg some (by kernel_rfl))
  t0 := Tryd.underlying0
  a0 := Tryd.isAgg0
  z0 := Tryd.sizeOf0
  v0 := Tryd.zeroValue0
  t3 := Tryd.underlying3
  a3 := Tryd.isAgg3
  z3 := Tryd.sizeOf3
  v3 := Tryd.zeroValue3
  t4 := Tryd.underlying4
  a4 := Tryd.isAgg4
  z4 := Tryd.sizeOf4
  v4 := Tryd.zeroValue4
  t5 := Tryd.underlying5
  a5 := Tryd.isAgg5
  z5 := Tryd.sizeOf5
  v5 := Tryd.zeroValue5
  t9 := Tryd.underlying9
  a9 := Tryd.isAgg9
  z9 := Tryd.sizeOf9
  v9 := Tryd.zeroValue9
  t37 := Tryd.underlying67
  a37 := Tryd.isAgg67
  z37 := Tryd.sizeOf67
  v37 := Tryd.zeroValue67
  t51 := Tryd.underlying108
  a51 := Tryd.isAgg108
  z51 := Tryd.sizeOf108
  v51 := Tryd.zeroValue108
  t53 := Tryd.underlying93
  a53 := Tryd.isAgg93
  z53 := Tryd.sizeOf93
  v53 := Tryd.zeroValue93 }
open Go.RowKit Go.Sort Go.Lib in
/-- internal/strconv.formatBase10: "formatBase10 formats the decimal representation of u into a. The caller is responsible for ensuring that a is big enough to hold u. If a is too big, leading zeros will be filled in as needed.": THE ROW HOLDS u's DIGITS ('FmtInv .. 0 ..': every place t holds 'dg u (len - 1 - t)'); all else is as it was but for the count of draws. (LAID: no walk: one application.) -/
theorem Tryd.internal_strconv_formatBase10 (blk off cap : Nat) (u : Nat) (d : Array UInt8) (w : World) (hH : Holds (fun (b : UInt8) => Value.int .u8 (b.toNat : Int)) w blk off d) (hu : u < 10 ^ d.size) (hu64 : u < 18446744073709551616) (hsz : d.size < 4611686018427387904) :
    Calls Tryd.prog 76 #[.slice (some ⟨blk, off, none⟩) d.size cap, .int .u64 u] w fun e w' =>
      e = .returned (.tuple #[]) ∧ ∃ (n v' : Nat) (dk : Array UInt8), w' = (putRow (fun (b : UInt8) => Value.int .u8 (b.toNat : Int)) w blk off dk).drewN n ∧ FmtInv d.size u 0 v' dk := Any.internal_strconv_formatBase10 Tryd.lays285 blk off cap u d w hH hu hu64 hsz
def Tryd.laysM246_ren : Go.Shelf.Ren := ⟨fun | 246 => 63 | 283 => 74 | 284 => 75 | 285 => 76 | 286 => 77 | 129 => 89 | 317 => 88 | 318 => 90 | 319 => 91 | 320 => 92 | 337 => 97 | 338 => 98 | n => n, fun | 2 => 2 | 3 => 3 | 9 => 9 | 4 => 4 | 171 => 92 | 0 => 0 | 53 => 93 | 37 => 67 | 5 => 5 | 173 => 96 | 212 => 107 | 51 => 108 | 20 => 20 | 213 => 109 | 46 => 99 | 232 => 128 | 233 => 129 | n => n, fun | 17 => 1 | 18 => 6 | 19 => 7 | n => n⟩
theorem Tryd.laysM246 : Go.Proofs.LaysM.n246 Tryd.prog Tryd.laysM246_ren := {
  mixed := by kernel_rfl
  f129 := Tryd.func89.trans (congrArg some (by kernel_rfl))
  f246 := Tryd.func63.trans (congrArg some (by kernel_rfl))
  f283 := Tryd.func74.trans (congrArg some (by kernel_rfl))
  f284 := Tryd.func75.trans (congrArg some (by kernel_rfl))
  f285 := Tryd.func76.trans (congrArg some (by kernel_rfl))
  f286 := Tryd.func77.trans (congrArg some (by kernel_rfl))
  f317 := Tryd.func88.trans (congrArg some (by kernel_rfl))
  f318 := Tryd.func90.trans (congrArg some (by kernel_rfl))
  f319 := Tryd.func91.trans (congrArg some (by kernel_rfl))
  f320 := Tryd.func92.trans (congrArg some (by kernel_rfl))
  f337 := Tryd.func97.trans (congrArg some (by kernel_rfl))
  f338 := Tryd.func98.trans (congrArg some (by kernel_rfl))
  t0 := Tryd.underlying0
  a0 := Tryd.isAgg0
  z0 := Tryd.sizeOf0
  v0 := Tryd.zeroValue0
  t2 := Tryd.underlying2
  a2 := Tryd.isAgg2
  z2 := Tryd.sizeOf2
  v2 := Tryd.zeroValue2
  t3 := Tryd.underlying3
  a3 := Tryd.isAgg3
  z3 := Tryd.sizeOf3
  v3 := Tryd.zeroValue3
  t4 := Tryd.underlying4
  a4 := Tryd.isAgg4
  z4 := Tryd.sizeOf4
  v4 := Tryd.zeroValue4
  t5 := Tryd.underlying5
  a5 := Tryd.isAgg5
  z5 := Tryd.sizeOf5
  v5 := Tryd.zeroValue5
  t9 := Tryd.underlying9
  a9 := Tryd.isAgg9
  z9 := Tryd.sizeOf9
  v9 := Tryd.zeroValue9
  t20 := Tryd.underlying20
  a20 := Tryd.isAgg20
  z20 := Tryd.sizeOf20
  v20 := Tryd.zeroValue20
  t37 := Tryd.underlying67
  a37 := Tryd.isAgg67
  z37 := Tryd.sizeOf67
  v37 := Tryd.zeroValue67
  t46 := Tryd.underlying99
  a46 := Tryd.isAgg99
  z46 := Tryd.sizeOf99
  v46 := Tryd.zeroValue99
  t51 := Tryd.underlying108
  a51 := Tryd.isAgg108
  z51 := Tryd.sizeOf108
  v51 := Tryd.zeroValue108
  t53 := Tryd.underlying93
  a53 := Tryd.isAgg93
  z53 := Tryd.sizeOf93
  v53 := Tryd.zeroValue93
  t171 := Tryd.underlying92
  a171 := Tryd.isAgg92
  z171 := Tryd.sizeOf92
  v171 := Tryd.zeroValue92
  t173 := Tryd.underlying96
  a173 := Tryd.isAgg96
  z173 := Tryd.sizeOf96
  v173 := Tryd.zeroValue96
  t212 := Tryd.underlying107
  a212 := Tryd.isAgg107
  z212 := Tryd.sizeOf107
  v212 := Tryd.zeroValue107
  t213 := Tryd.underlying109
  a213 := Tryd.isAgg109
  z213 := Tryd.sizeOf109
  t232 := Tryd.underlying128
  a232 := Tryd.isAgg128
  z232 := Tryd.sizeOf128
  v232 := Tryd.zeroValue128
  t233 := Tryd.underlying129
  a233 := Tryd.isAgg129
  z233 := Tryd.sizeOf129
  v233 := Tryd.zeroValue129
  g17 := by kernel_rfl
  g18 := by kernel_rfl
  g19 := by kernel_rfl
  i0 := by kernel_rfl
  i2 := by kernel_rfl
  i3 := by kernel_rfl
  i4 := by kernel_rfl
  i5 := by kernel_rfl
  i9 := by kernel_rfl
  i20 := by kernel_rfl
  i37 := by kernel_rfl
  i46 := by kernel_rfl
  i51 := by kernel_rfl
  i53 := by kernel_rfl
  i171 := by kernel_rfl
  i173 := by kernel_rfl
  i212 := by kernel_rfl
  i232 := by kernel_rfl
  i233 := by kernel_rfl
  m17 := by kernel_rfl
  m18 := by kernel_rfl
  m19 := by kernel_rfl }
open Go.RowKit Go.Sort Go.Lib in
/-- internal/strconv.FormatInt: "FormatInt returns the string representation of i in the given base": AT BASE 10: i's decimal numeral, for every int64. The world behind the call: the world before it, new blocks behind the heap, draws. (LAID: no walk: one application.) -/
theorem Tryd.internal_strconv_FormatInt_10 (n : Int) (h0 : -9223372036854775808 ≤ n) (h1 : n ≤ 9223372036854775807) (w : World) (htab : Lib.TabIs Tryd.prog w "internal/strconv.uint64pow10" .u64 Lib.pow10Tab) :
    Calls Tryd.prog 63 #[.int .i64 n, .int .i64 10] w fun e w' => e = .returned (.string ⟨(Lib.itoa n).toArray⟩) ∧ ∃ k os, w' = grow (w.drewN k) os := Any.internal_strconv_FormatInt_10 Tryd.laysM246 n h0 h1 w htab
def Tryd.lays246_ren : Go.Shelf.Ren := ⟨fun | 246 => 63 | 283 => 74 | 284 => 75 | 285 => 76 | 286 => 77 | 129 => 89 | 317 => 88 | 318 => 90 | 319 => 91 | 320 => 92 | 337 => 97 | 338 => 98 | n => n, fun | 2 => 2 | 3 => 3 | 9 => 9 | 4 => 4 | 171 => 92 | 0 => 0 | 53 => 93 | 37 => 67 | 5 => 5 | 173 => 96 | 212 => 107 | 51 => 108 | 20 => 20 | 213 => 109 | 46 => 99 | 232 => 128 | 233 => 129 | n => n, fun | 17 => 1 | 18 => 6 | 19 => 7 | n => n⟩
theorem Tryd.lays246 : Go.Proofs.Lays.n246 Tryd.prog Tryd.lays246_ren := {
  mixed := by kernel_rfl
  f129 := Tryd.func89.trans (congrArg some (by kernel_rfl))
  f246 := Tryd.func63.trans (congrArg some (by kernel_rfl))
  f283 := Tryd.func74.trans (congrArg some (by kernel_rfl))
  f284 := Tryd.func75.trans (congrArg some (by kernel_rfl))
  f285 := Tryd.func76.trans (congrArg some (by kernel_rfl))
  f286 := Tryd.func77.trans (congrArg some (by kernel_rfl))
  f317 := Tryd.func88.trans (congrArg some (by kernel_rfl))
  f318 := Tryd.func90.trans (congrArg some (by kernel_rfl))
  f319 := Tryd.func91.trans (congrArg some (by kernel_rfl))
  f320 := Tryd.func92.trans (congrArg some (by kernel_rfl))
  f337 := Tryd.func97.trans (congrArg some (by kernel_rfl))
  f338 := Tryd.func98.trans (congrArg some (by kernel_rfl))
  t0 := Tryd.underlying0
  a0 := Tryd.isAgg0
  z0 := Tryd.sizeOf0
  v0 := Tryd.zeroValue0
  t2 := Tryd.underlying2
  a2 := Tryd.isAgg2
  z2 := Tryd.sizeOf2
  v2 := Tryd.zeroValue2
  t3 := Tryd.underlying3
  a3 := Tryd.isAgg3
  z3 := Tryd.sizeOf3
  v3 := Tryd.zeroValue3
  t4 := Tryd.underlying4
  a4 := Tryd.isAgg4
  z4 := Tryd.sizeOf4
  v4 := Tryd.zeroValue4
  t5 := Tryd.underlying5
  a5 := Tryd.isAgg5
  z5 := Tryd.sizeOf5
  v5 := Tryd.zeroValue5
  t9 := Tryd.underlying9
  a9 := Tryd.isAgg9
  z9 := Tryd.sizeOf9
  v9 := Tryd.zeroValue9
  t20 := Tryd.underlying20
  a20 := Tryd.isAgg20
  z20 := Tryd.sizeOf20
  v20 := Tryd.zeroValue20
  t37 := Tryd.underlying67
  a37 := Tryd.isAgg67
  z37 := Tryd.sizeOf67
  v37 := Tryd.zeroValue67
  t46 := Tryd.underlying99
  a46 := Tryd.isAgg99
  z46 := Tryd.sizeOf99
  v46 := Tryd.zeroValue99
  t51 := Tryd.underlying108
  a51 := Tryd.isAgg108
  z51 := Tryd.sizeOf108
  v51 := Tryd.zeroValue108
  t53 := Tryd.underlying93
  a53 := Tryd.isAgg93
  z53 := Tryd.sizeOf93
  v53 := Tryd.zeroValue93
  t171 := Tryd.underlying92
  a171 := Tryd.isAgg92
  z171 := Tryd.sizeOf92
  v171 := Tryd.zeroValue92
  t173 := Tryd.underlying96
  a173 := Tryd.isAgg96
  z173 := Tryd.sizeOf96
  v173 := Tryd.zeroValue96
  t212 := Tryd.underlying107
  a212 := Tryd.isAgg107
  z212 := Tryd.sizeOf107
  v212 := Tryd.zeroValue107
  t213 := Tryd.underlying109
  a213 := Tryd.isAgg109
  z213 := Tryd.sizeOf109
  t232 := Tryd.underlying128
  a232 := Tryd.isAgg128
  z232 := Tryd.sizeOf128
  v232 := Tryd.zeroValue128
  t233 := Tryd.underlying129
  a233 := Tryd.isAgg129
  z233 := Tryd.sizeOf129
  v233 := Tryd.zeroValue129
  g17 := by kernel_rfl
  g18 := by kernel_rfl
  g19 := by kernel_rfl }
open Go.RowKit Go.Sort Go.Lib in
/-- THE ROAD WITHOUT THE TABLE: 0 <= i < 100: two constants are read, nothing is laid: no premise on the world, and the world is as it was. (LAID: no walk: one application.) -/
theorem Tryd.internal_strconv_FormatInt_10_small (i : Nat) (hi : i < 100) (w : World) :
    Calls Tryd.prog 63 #[.int .i64 i, .int .i64 10] w fun e w' => e = .returned (.string ⟨(Lib.decDigits i).toArray⟩) ∧ w' = w := Any.internal_strconv_FormatInt_10_small Tryd.lays246 i hi w
def Tryd.laysM243_ren : Go.Shelf.Ren := ⟨fun | 243 => 53 | 246 => 63 | 283 => 74 | 284 => 75 | 285 => 76 | 286 => 77 | 129 => 89 | 317 => 88 | 318 => 90 | 319 => 91 | 320 => 92 | 337 => 97 | 338 => 98 | n => n, fun | 3 => 3 | 9 => 9 | 2 => 2 | 4 => 4 | 171 => 92 | 0 => 0 | 53 => 93 | 37 => 67 | 5 => 5 | 173 => 96 | 212 => 107 | 51 => 108 | 20 => 20 | 213 => 109 | 46 => 99 | 232 => 128 | 233 => 129 | n => n, fun | 17 => 1 | 18 => 6 | 19 => 7 | n => n⟩
theorem Tryd.laysM243 : Go.Proofs.LaysM.n243 Tryd.prog Tryd.laysM243_ren := {
  mixed := by kernel_rfl
  f129 := Tryd.func89.trans (congrArg some (by kernel_rfl))
  f243 := Tryd.func53.trans (congrArg some (by kernel_rfl))
  f246 := Tryd.func63.trans (congrArg some (by kernel_rfl))
  f283 := Tryd.func74.trans (congrArg some (by kernel_rfl))
  f284 := Tryd.func75.trans (congrArg some (by kernel_rfl))
  f285 := Tryd.func76.trans (congrArg some (by kernel_rfl))
  f286 := Tryd.func77.trans (congrArg some (by kernel_rfl))
  f317 := Tryd.func88.trans (congrArg some (by kernel_rfl))
  f318 := Tryd.func90.trans (congrArg some (by kernel_rfl))
  f319 := Tryd.func91.trans (congrArg some (by kernel_rfl))
  f320 := Tryd.func92.trans (congrArg some (by kernel_rfl))
  f337 := Tryd.func97.trans (congrArg some (by kernel_rfl))
  f338 := Tryd.func98.trans (congrArg some (by kernel_rfl))
  t0 := Tryd.underlying0
  a0 := Tryd.isAgg0
  z0 := Tryd.sizeOf0
  v0 := Tryd.zeroValue0
  t2 := Tryd.underlying2
  a2 := Tryd.isAgg2
  z2 := Tryd.sizeOf2
  v2 := Tryd.zeroValue2
  t3 := Tryd.underlying3
  a3 := Tryd.isAgg3
  z3 := Tryd.sizeOf3
  v3 := Tryd.zeroValue3
  t4 := Tryd.underlying4
  a4 := Tryd.isAgg4
  z4 := Tryd.sizeOf4
  v4 := Tryd.zeroValue4
  t5 := Tryd.underlying5
  a5 := Tryd.isAgg5
  z5 := Tryd.sizeOf5
  v5 := Tryd.zeroValue5
  t9 := Tryd.underlying9
  a9 := Tryd.isAgg9
  z9 := Tryd.sizeOf9
  v9 := Tryd.zeroValue9
  t20 := Tryd.underlying20
  a20 := Tryd.isAgg20
  z20 := Tryd.sizeOf20
  v20 := Tryd.zeroValue20
  t37 := Tryd.underlying67
  a37 := Tryd.isAgg67
  z37 := Tryd.sizeOf67
  v37 := Tryd.zeroValue67
  t46 := Tryd.underlying99
  a46 := Tryd.isAgg99
  z46 := Tryd.sizeOf99
  v46 := Tryd.zeroValue99
  t51 := Tryd.underlying108
  a51 := Tryd.isAgg108
  z51 := Tryd.sizeOf108
  v51 := Tryd.zeroValue108
  t53 := Tryd.underlying93
  a53 := Tryd.isAgg93
  z53 := Tryd.sizeOf93
  v53 := Tryd.zeroValue93
  t171 := Tryd.underlying92
  a171 := Tryd.isAgg92
  z171 := Tryd.sizeOf92
  v171 := Tryd.zeroValue92
  t173 := Tryd.underlying96
  a173 := Tryd.isAgg96
  z173 := Tryd.sizeOf96
  v173 := Tryd.zeroValue96
  t212 := Tryd.underlying107
  a212 := Tryd.isAgg107
  z212 := Tryd.sizeOf107
  v212 := Tryd.zeroValue107
  t213 := Tryd.underlying109
  a213 := Tryd.isAgg109
  z213 := Tryd.sizeOf109
  t232 := Tryd.underlying128
  a232 := Tryd.isAgg128
  z232 := Tryd.sizeOf128
  v232 := Tryd.zeroValue128
  t233 := Tryd.underlying129
  a233 := Tryd.isAgg129
  z233 := Tryd.sizeOf129
  v233 := Tryd.zeroValue129
  g17 := by kernel_rfl
  g18 := by kernel_rfl
  g19 := by kernel_rfl
  i0 := by kernel_rfl
  i2 := by kernel_rfl
  i3 := by kernel_rfl
  i4 := by kernel_rfl
  i5 := by kernel_rfl
  i9 := by kernel_rfl
  i20 := by kernel_rfl
  i37 := by kernel_rfl
  i46 := by kernel_rfl
  i51 := by kernel_rfl
  i53 := by kernel_rfl
  i171 := by kernel_rfl
  i173 := by kernel_rfl
  i212 := by kernel_rfl
  i232 := by kernel_rfl
  i233 := by kernel_rfl
  m17 := by kernel_rfl
  m18 := by kernel_rfl
  m19 := by kernel_rfl }
open Go.RowKit Go.Sort Go.Lib in
/-- internal/strconv.Itoa: "Itoa is equivalent to FormatInt(int64(i), 10).": i's decimal numeral, for every int. (LAID: no walk: one application.) -/
theorem Tryd.internal_strconv_Itoa (n : Int) (h0 : -9223372036854775808 ≤ n) (h1 : n ≤ 9223372036854775807) (w : World) (htab : Lib.TabIs Tryd.prog w "internal/strconv.uint64pow10" .u64 Lib.pow10Tab) :
    Calls Tryd.prog 53 #[.int .i64 n] w fun e w' => e = .returned (.string ⟨(Lib.itoa n).toArray⟩) ∧ ∃ k os, w' = grow (w.drewN k) os := Any.internal_strconv_Itoa Tryd.laysM243 n h0 h1 w htab
def Tryd.lays243_ren : Go.Shelf.Ren := ⟨fun | 243 => 53 | 246 => 63 | 283 => 74 | 284 => 75 | 285 => 76 | 286 => 77 | 129 => 89 | 317 => 88 | 318 => 90 | 319 => 91 | 320 => 92 | 337 => 97 | 338 => 98 | n => n, fun | 3 => 3 | 9 => 9 | 2 => 2 | 4 => 4 | 171 => 92 | 0 => 0 | 53 => 93 | 37 => 67 | 5 => 5 | 173 => 96 | 212 => 107 | 51 => 108 | 20 => 20 | 213 => 109 | 46 => 99 | 232 => 128 | 233 => 129 | n => n, fun | 17 => 1 | 18 => 6 | 19 => 7 | n => n⟩
theorem Tryd.lays243 : Go.Proofs.Lays.n243 Tryd.prog Tryd.lays243_ren := {
  mixed := by kernel_rfl
  f129 := Tryd.func89.trans (congrArg some (by kernel_rfl))
  f243 := Tryd.func53.trans (congrArg some (by kernel_rfl))
  f246 := Tryd.func63.trans (congrArg some (by kernel_rfl))
  f283 := Tryd.func74.trans (congrArg some (by kernel_rfl))
  f284 := Tryd.func75.trans (congrArg some (by kernel_rfl))
  f285 := Tryd.func76.trans (congrArg some (by kernel_rfl))
  f286 := Tryd.func77.trans (congrArg some (by kernel_rfl))
  f317 := Tryd.func88.trans (congrArg some (by kernel_rfl))
  f318 := Tryd.func90.trans (congrArg some (by kernel_rfl))
  f319 := Tryd.func91.trans (congrArg some (by kernel_rfl))
  f320 := Tryd.func92.trans (congrArg some (by kernel_rfl))
  f337 := Tryd.func97.trans (congrArg some (by kernel_rfl))
  f338 := Tryd.func98.trans (congrArg some (by kernel_rfl))
  t0 := Tryd.underlying0
  a0 := Tryd.isAgg0
  z0 := Tryd.sizeOf0
  v0 := Tryd.zeroValue0
  t2 := Tryd.underlying2
  a2 := Tryd.isAgg2
  z2 := Tryd.sizeOf2
  v2 := Tryd.zeroValue2
  t3 := Tryd.underlying3
  a3 := Tryd.isAgg3
  z3 := Tryd.sizeOf3
  v3 := Tryd.zeroValue3
  t4 := Tryd.underlying4
  a4 := Tryd.isAgg4
  z4 := Tryd.sizeOf4
  v4 := Tryd.zeroValue4
  t5 := Tryd.underlying5
  a5 := Tryd.isAgg5
  z5 := Tryd.sizeOf5
  v5 := Tryd.zeroValue5
  t9 := Tryd.underlying9
  a9 := Tryd.isAgg9
  z9 := Tryd.sizeOf9
  v9 := Tryd.zeroValue9
  t20 := Tryd.underlying20
  a20 := Tryd.isAgg20
  z20 := Tryd.sizeOf20
  v20 := Tryd.zeroValue20
  t37 := Tryd.underlying67
  a37 := Tryd.isAgg67
  z37 := Tryd.sizeOf67
  v37 := Tryd.zeroValue67
  t46 := Tryd.underlying99
  a46 := Tryd.isAgg99
  z46 := Tryd.sizeOf99
  v46 := Tryd.zeroValue99
  t51 := Tryd.underlying108
  a51 := Tryd.isAgg108
  z51 := Tryd.sizeOf108
  v51 := Tryd.zeroValue108
  t53 := Tryd.underlying93
  a53 := Tryd.isAgg93
  z53 := Tryd.sizeOf93
  v53 := Tryd.zeroValue93
  t171 := Tryd.underlying92
  a171 := Tryd.isAgg92
  z171 := Tryd.sizeOf92
  v171 := Tryd.zeroValue92
  t173 := Tryd.underlying96
  a173 := Tryd.isAgg96
  z173 := Tryd.sizeOf96
  v173 := Tryd.zeroValue96
  t212 := Tryd.underlying107
  a212 := Tryd.isAgg107
  z212 := Tryd.sizeOf107
  v212 := Tryd.zeroValue107
  t213 := Tryd.underlying109
  a213 := Tryd.isAgg109
  z213 := Tryd.sizeOf109
  t232 := Tryd.underlying128
  a232 := Tryd.isAgg128
  z232 := Tryd.sizeOf128
  v232 := Tryd.zeroValue128
  t233 := Tryd.underlying129
  a233 := Tryd.isAgg129
  z233 := Tryd.sizeOf129
  v233 := Tryd.zeroValue129
  g17 := by kernel_rfl
  g18 := by kernel_rfl
  g19 := by kernel_rfl }
open Go.RowKit Go.Sort Go.Lib in
/-- THE ROAD WITHOUT THE TABLE: 0 <= i < 100. (LAID: no walk: one application.) -/
theorem Tryd.internal_strconv_Itoa_small (i : Nat) (hi : i < 100) (w : World) :
    Calls Tryd.prog 53 #[.int .i64 i] w fun e w' => e = .returned (.string ⟨(Lib.decDigits i).toArray⟩) ∧ w' = w := Any.internal_strconv_Itoa_small Tryd.lays243 i hi w
def Tryd.laysM171_ren : Go.Shelf.Ren := ⟨fun | 171 => 45 | 243 => 53 | 246 => 63 | 283 => 74 | 284 => 75 | 285 => 76 | 286 => 77 | 129 => 89 | 317 => 88 | 318 => 90 | 319 => 91 | 320 => 92 | 337 => 97 | 338 => 98 | n => n, fun | 3 => 3 | 9 => 9 | 2 => 2 | 4 => 4 | 171 => 92 | 0 => 0 | 53 => 93 | 37 => 67 | 5 => 5 | 173 => 96 | 212 => 107 | 51 => 108 | 20 => 20 | 213 => 109 | 46 => 99 | 232 => 128 | 233 => 129 | n => n, fun | 17 => 1 | 18 => 6 | 19 => 7 | n => n⟩
theorem Tryd.laysM171 : Go.Proofs.LaysM.n171 Tryd.prog Tryd.laysM171_ren := {
  mixed := by kernel_rfl
  f129 := Tryd.func89.trans (congrArg some (by kernel_rfl))
  f171 := Tryd.func45.trans (congrArg some (by kernel_rfl))
  f243 := Tryd.func53.trans (congrArg some (by kernel_rfl))
  f246 := Tryd.func63.trans (congrArg some (by kernel_rfl))
  f283 := Tryd.func74.trans (congrArg some (by kernel_rfl))
  f284 := Tryd.func75.trans (congrArg some (by kernel_rfl))
  f285 := Tryd.func76.trans (congrArg some (by kernel_rfl))
  f286 := Tryd.func77.trans (congrArg some (by kernel_rfl))
  f317 := Tryd.func88.trans (congrArg some (by kernel_rfl))
  f318 := Tryd.func90.trans (congrArg some (by kernel_rfl))
  f319 := Tryd.func91.trans (congrArg some (by kernel_rfl))
  f320 := Tryd.func92.trans (congrArg some (by kernel_rfl))
  f337 := Tryd.func97.trans (congrArg some (by kernel_rfl))
  f338 := Tryd.func98.trans (congrArg some (by kernel_rfl))
  t0 := Tryd.underlying0
  a0 := Tryd.isAgg0
  z0 := Tryd.sizeOf0
  v0 := Tryd.zeroValue0
  t2 := Tryd.underlying2
  a2 := Tryd.isAgg2
  z2 := Tryd.sizeOf2
  v2 := Tryd.zeroValue2
  t3 := Tryd.underlying3
  a3 := Tryd.isAgg3
  z3 := Tryd.sizeOf3
  v3 := Tryd.zeroValue3
  t4 := Tryd.underlying4
  a4 := Tryd.isAgg4
  z4 := Tryd.sizeOf4
  v4 := Tryd.zeroValue4
  t5 := Tryd.underlying5
  a5 := Tryd.isAgg5
  z5 := Tryd.sizeOf5
  v5 := Tryd.zeroValue5
  t9 := Tryd.underlying9
  a9 := Tryd.isAgg9
  z9 := Tryd.sizeOf9
  v9 := Tryd.zeroValue9
  t20 := Tryd.underlying20
  a20 := Tryd.isAgg20
  z20 := Tryd.sizeOf20
  v20 := Tryd.zeroValue20
  t37 := Tryd.underlying67
  a37 := Tryd.isAgg67
  z37 := Tryd.sizeOf67
  v37 := Tryd.zeroValue67
  t46 := Tryd.underlying99
  a46 := Tryd.isAgg99
  z46 := Tryd.sizeOf99
  v46 := Tryd.zeroValue99
  t51 := Tryd.underlying108
  a51 := Tryd.isAgg108
  z51 := Tryd.sizeOf108
  v51 := Tryd.zeroValue108
  t53 := Tryd.underlying93
  a53 := Tryd.isAgg93
  z53 := Tryd.sizeOf93
  v53 := Tryd.zeroValue93
  t171 := Tryd.underlying92
  a171 := Tryd.isAgg92
  z171 := Tryd.sizeOf92
  v171 := Tryd.zeroValue92
  t173 := Tryd.underlying96
  a173 := Tryd.isAgg96
  z173 := Tryd.sizeOf96
  v173 := Tryd.zeroValue96
  t212 := Tryd.underlying107
  a212 := Tryd.isAgg107
  z212 := Tryd.sizeOf107
  v212 := Tryd.zeroValue107
  t213 := Tryd.underlying109
  a213 := Tryd.isAgg109
  z213 := Tryd.sizeOf109
  t232 := Tryd.underlying128
  a232 := Tryd.isAgg128
  z232 := Tryd.sizeOf128
  v232 := Tryd.zeroValue128
  t233 := Tryd.underlying129
  a233 := Tryd.isAgg129
  z233 := Tryd.sizeOf129
  v233 := Tryd.zeroValue129
  g17 := by kernel_rfl
  g18 := by kernel_rfl
  g19 := by kernel_rfl
  i0 := by kernel_rfl
  i2 := by kernel_rfl
  i3 := by kernel_rfl
  i4 := by kernel_rfl
  i5 := by kernel_rfl
  i9 := by kernel_rfl
  i20 := by kernel_rfl
  i37 := by kernel_rfl
  i46 := by kernel_rfl
  i51 := by kernel_rfl
  i53 := by kernel_rfl
  i171 := by kernel_rfl
  i173 := by kernel_rfl
  i212 := by kernel_rfl
  i232 := by kernel_rfl
  i233 := by kernel_rfl
  m17 := by kernel_rfl
  m18 := by kernel_rfl
  m19 := by kernel_rfl }
open Go.RowKit Go.Sort Go.Lib in
/-- strconv.Itoa: "Itoa is equivalent to FormatInt(int64(i), 10).": i's DECIMAL NUMERAL ('Lib.itoa': a '-' where i is negative, then the digits), FOR EVERY int. The world behind the call: the world before it, new blocks behind the heap (the library's 'var a [24]byte'), draws. (LAID: no walk: one application.) -/
theorem Tryd.strconv_Itoa (n : Int) (h0 : -9223372036854775808 ≤ n) (h1 : n ≤ 9223372036854775807) (w : World) (htab : Lib.TabIs Tryd.prog w "internal/strconv.uint64pow10" .u64 Lib.pow10Tab) :
    Calls Tryd.prog 45 #[.int .i64 n] w fun e w' => e = .returned (.string ⟨(Lib.itoa n).toArray⟩) ∧ ∃ k os, w' = grow (w.drewN k) os := Any.strconv_Itoa Tryd.laysM171 n h0 h1 w htab
def Tryd.lays171_ren : Go.Shelf.Ren := ⟨fun | 171 => 45 | 243 => 53 | 246 => 63 | 283 => 74 | 284 => 75 | 285 => 76 | 286 => 77 | 129 => 89 | 317 => 88 | 318 => 90 | 319 => 91 | 320 => 92 | 337 => 97 | 338 => 98 | n => n, fun | 3 => 3 | 9 => 9 | 2 => 2 | 4 => 4 | 171 => 92 | 0 => 0 | 53 => 93 | 37 => 67 | 5 => 5 | 173 => 96 | 212 => 107 | 51 => 108 | 20 => 20 | 213 => 109 | 46 => 99 | 232 => 128 | 233 => 129 | n => n, fun | 17 => 1 | 18 => 6 | 19 => 7 | n => n⟩
theorem Tryd.lays171 : Go.Proofs.Lays.n171 Tryd.prog Tryd.lays171_ren := {
  mixed := by kernel_rfl
  f129 := Tryd.func89.trans (congrArg some (by kernel_rfl))
  f171 := Tryd.func45.trans (congrArg some (by kernel_rfl))
  f243 := Tryd.func53.trans (congrArg some (by kernel_rfl))
  f246 := Tryd.func63.trans (congrArg some (by kernel_rfl))
  f283 := Tryd.func74.trans (congrArg some (by kernel_rfl))
  f284 := Tryd.func75.trans (congrArg some (by kernel_rfl))
  f285 := Tryd.func76.trans (congrArg some (by kernel_rfl))
  f286 := Tryd.func77.trans (congrArg some (by kernel_rfl))
  f317 := Tryd.func88.trans (congrArg some (by kernel_rfl))
  f318 := Tryd.func90.trans (congrArg some (by kernel_rfl))
  f319 := Tryd.func91.trans (congrArg some (by kernel_rfl))
  f320 := Tryd.func92.trans (congrArg some (by kernel_rfl))
  f337 := Tryd.func97.trans (congrArg some (by kernel_rfl))
  f338 := Tryd.func98.trans (congrArg some (by kernel_rfl))
  t0 := Tryd.underlying0
  a0 := Tryd.isAgg0
  z0 := Tryd.sizeOf0
  v0 := Tryd.zeroValue0
  t2 := Tryd.underlying2
  a2 := Tryd.isAgg2
  z2 := Tryd.sizeOf2
  v2 := Tryd.zeroValue2
  t3 := Tryd.underlying3
  a3 := Tryd.isAgg3
  z3 := Tryd.sizeOf3
  v3 := Tryd.zeroValue3
  t4 := Tryd.underlying4
  a4 := Tryd.isAgg4
  z4 := Tryd.sizeOf4
  v4 := Tryd.zeroValue4
  t5 := Tryd.underlying5
  a5 := Tryd.isAgg5
  z5 := Tryd.sizeOf5
  v5 := Tryd.zeroValue5
  t9 := Tryd.underlying9
  a9 := Tryd.isAgg9
  z9 := Tryd.sizeOf9
  v9 := Tryd.zeroValue9
  t20 := Tryd.underlying20
  a20 := Tryd.isAgg20
  z20 := Tryd.sizeOf20
  v20 := Tryd.zeroValue20
  t37 := Tryd.underlying67
  a37 := Tryd.isAgg67
  z37 := Tryd.sizeOf67
  v37 := Tryd.zeroValue67
  t46 := Tryd.underlying99
  a46 := Tryd.isAgg99
  z46 := Tryd.sizeOf99
  v46 := Tryd.zeroValue99
  t51 := Tryd.underlying108
  a51 := Tryd.isAgg108
  z51 := Tryd.sizeOf108
  v51 := Tryd.zeroValue108
  t53 := Tryd.underlying93
  a53 := Tryd.isAgg93
  z53 := Tryd.sizeOf93
  v53 := Tryd.zeroValue93
  t171 := Tryd.underlying92
  a171 := Tryd.isAgg92
  z171 := Tryd.sizeOf92
  v171 := Tryd.zeroValue92
  t173 := Tryd.underlying96
  a173 := Tryd.isAgg96
  z173 := Tryd.sizeOf96
  v173 := Tryd.zeroValue96
  t212 := Tryd.underlying107
  a212 := Tryd.isAgg107
  z212 := Tryd.sizeOf107
  v212 := Tryd.zeroValue107
  t213 := Tryd.underlying109
  a213 := Tryd.isAgg109
  z213 := Tryd.sizeOf109
  t232 := Tryd.underlying128
  a232 := Tryd.isAgg128
  z232 := Tryd.sizeOf128
  v232 := Tryd.zeroValue128
  t233 := Tryd.underlying129
  a233 := Tryd.isAgg129
  z233 := Tryd.sizeOf129
  v233 := Tryd.zeroValue129
  g17 := by kernel_rfl
  g18 := by kernel_rfl
  g19 := by kernel_rfl }
open Go.RowKit Go.Sort Go.Lib in
/-- THE ROAD WITHOUT THE TABLE: 0 <= i < 100: NO PREMISE ON THE WORLD, AND THE WORLD IS AS IT WAS: a row that keeps its argument in that range need list no table ('laid = []'). (LAID: no walk: one application.) -/
theorem Tryd.strconv_Itoa_small (i : Nat) (hi : i < 100) (w : World) :
    Calls Tryd.prog 45 #[.int .i64 i] w fun e w' => e = .returned (.string ⟨(Lib.decDigits i).toArray⟩) ∧ w' = w := Any.strconv_Itoa_small Tryd.lays171 i hi w
open Go.RowKit in
/-- internal/strconv.Atoi, at a string of 1 to 18 bytes THAT IS NO DECIMAL NUMERAL: 0, AND ErrSyntax (the package's own error number 2). The world behind the call: as it was, or with the one new row that '[]byte(s)' lays. (LAID: no walk: one application.) -/
theorem Tryd.internal_strconv_Atoi_err (s : ByteArray) (hl0 : 1 ≤ s.size) (hl : s.size ≤ 18) (h : Lib.atoi s.data.toList = none) (w : World) :
    Calls Tryd.prog 70 #[.string s] w fun e w' => e = .returned (.tuple #[.int .i64 0, (.iface 100 (.int .i64 2))]) ∧ (w' = w ∨ ∃ t, w' = Lib.bytesWorld w 5 t) := Any.internal_strconv_Atoi_err Tryd.lays244 s hl0 hl h w
def Tryd.lays247_ren : Go.Shelf.Ren := ⟨fun | 247 => 82 | 287 => 94 | 321 => 99 | 322 => 100 | n => n, fun | 9 => 9 | 3 => 3 | 2 => 2 | 75 => 72 | 4 => 4 | 167 => 100 | 5 => 5 | 53 => 93 | 175 => 117 | 46 => 99 | 37 => 67 | 0 => 0 | 21 => 21 | 80 => 56 | n => n, fun | n => n⟩
theorem Tryd.lays247 : Go.Proofs.Lays.n247 Tryd.prog Tryd.lays247_ren := {
  mixed := by kernel_rfl
  f247 := Tryd.func82.trans (congrArg some (by kernel_rfl))
  f287 := Tryd.func94.trans (congrArg some (by kernel_rfl))
  f321 := Tryd.func99.trans (congrArg some (by kernel_rfl))
  f322 := Tryd.func100.trans (congrArg some (by kernel_rfl))
  t0 := Tryd.underlying0
  a0 := Tryd.isAgg0
  z0 := Tryd.sizeOf0
  v0 := Tryd.zeroValue0
  t2 := Tryd.underlying2
  a2 := Tryd.isAgg2
  z2 := Tryd.sizeOf2
  v2 := Tryd.zeroValue2
  t3 := Tryd.underlying3
  a3 := Tryd.isAgg3
  z3 := Tryd.sizeOf3
  v3 := Tryd.zeroValue3
  t4 := Tryd.underlying4
  a4 := Tryd.isAgg4
  z4 := Tryd.sizeOf4
  v4 := Tryd.zeroValue4
  t5 := Tryd.underlying5
  a5 := Tryd.isAgg5
  z5 := Tryd.sizeOf5
  v5 := Tryd.zeroValue5
  t9 := Tryd.underlying9
  a9 := Tryd.isAgg9
  z9 := Tryd.sizeOf9
  v9 := Tryd.zeroValue9
  t21 := Tryd.underlying21
  a21 := Tryd.isAgg21
  z21 := Tryd.sizeOf21
  v21 := Tryd.zeroValue21
  t37 := Tryd.underlying67
  a37 := Tryd.isAgg67
  z37 := Tryd.sizeOf67
  v37 := Tryd.zeroValue67
  t46 := Tryd.underlying99
  a46 := Tryd.isAgg99
  z46 := Tryd.sizeOf99
  v46 := Tryd.zeroValue99
  t53 := Tryd.underlying93
  a53 := Tryd.isAgg93
  z53 := Tryd.sizeOf93
  v53 := Tryd.zeroValue93
  t75 := Tryd.underlying72
  a75 := Tryd.isAgg72
  z75 := Tryd.sizeOf72
  v75 := Tryd.zeroValue72
  t167 := Tryd.underlying100
  a167 := Tryd.isAgg100
  z167 := Tryd.sizeOf100
  v167 := Tryd.zeroValue100
  t175 := Tryd.underlying117
  a175 := Tryd.isAgg117
  z175 := Tryd.sizeOf117
  v175 := Tryd.zeroValue117 }
open Go.RowKit in
/-- internal/strconv.ParseInt at "": 'if s == "" { return 0, ErrSyntax }'. The world is as it was. (LAID: no walk: one application.) -/
theorem Tryd.internal_strconv_ParseInt_empty (base bits : Int) (w : World) :
    Calls Tryd.prog 82 #[.string ⟨#[]⟩, .int .i64 base, .int .i64 bits] w fun e w' => e = .returned (.tuple #[.int .i64 0, (.iface 100 (.int .i64 2))]) ∧ w' = w := Any.internal_strconv_ParseInt_empty Tryd.lays247 base bits w
open Go.RowKit in
/-- internal/strconv.Atoi at "". (LAID: no walk: one application.) -/
theorem Tryd.internal_strconv_Atoi_empty (w : World) :
    Calls Tryd.prog 70 #[.string ⟨#[]⟩] w fun e w' => e = .returned (.tuple #[.int .i64 0, (.iface 100 (.int .i64 2))]) ∧ w' = w := Any.internal_strconv_Atoi_empty Tryd.lays244 w
open Go.RowKit in
/-- internal/strconv.Atoi, AT EVERY STRING OF AT MOST 18 BYTES THAT IS NO DECIMAL NUMERAL: 0, and ErrSyntax. (LAID: no walk: one application.) -/
theorem Tryd.internal_strconv_Atoi_fail (s : ByteArray) (hl : s.size ≤ 18) (h : Lib.atoi s.data.toList = none) (w : World) :
    Calls Tryd.prog 70 #[.string s] w fun e w' => e = .returned (.tuple #[.int .i64 0, (.iface 100 (.int .i64 2))]) ∧ (w' = w ∨ ∃ t, w' = Lib.bytesWorld w 5 t) := Any.internal_strconv_Atoi_fail Tryd.lays244 s hl h w
def Tryd.laysM316_ren : Go.Shelf.Ren := ⟨fun | 316 => 95 | n => n, fun | 9 => 9 | 3 => 3 | 4 => 4 | 37 => 67 | 0 => 0 | 127 => 78 | 5 => 5 | n => n, fun | n => n⟩
theorem Tryd.laysM316 : Go.Proofs.LaysM.n316 Tryd.prog Tryd.laysM316_ren := {
  mixed := by kernel_rfl
  f316 := Tryd.func95.trans (congrArg some (by kernel_rfl))
  t0 := Tryd.underlying0
  a0 := Tryd.isAgg0
  z0 := Tryd.sizeOf0
  v0 := Tryd.zeroValue0
  t3 := Tryd.underlying3
  a3 := Tryd.isAgg3
  z3 := Tryd.sizeOf3
  v3 := Tryd.zeroValue3
  t4 := Tryd.underlying4
  a4 := Tryd.isAgg4
  z4 := Tryd.sizeOf4
  v4 := Tryd.zeroValue4
  t9 := Tryd.underlying9
  a9 := Tryd.isAgg9
  z9 := Tryd.sizeOf9
  v9 := Tryd.zeroValue9
  t37 := Tryd.underlying67
  a37 := Tryd.isAgg67
  z37 := Tryd.sizeOf67
  v37 := Tryd.zeroValue67
  t127 := Tryd.underlying78
  a127 := Tryd.isAgg78
  z127 := Tryd.sizeOf78
  v127 := Tryd.zeroValue78
  t5 := Tryd.underlying5
  a5 := Tryd.isAgg5
  z5 := Tryd.sizeOf5
  v5 := Tryd.zeroValue5
  i0 := by kernel_rfl
  i3 := by kernel_rfl
  i4 := by kernel_rfl
  i5 := by kernel_rfl
  i9 := by kernel_rfl
  i37 := by kernel_rfl
  i127 := by kernel_rfl }
open Go.RowKit in
/-- internal/stringslite.Clone (what strings.Clone calls): "Clone returns a fresh copy of s.": THE SAME BYTES. Of what was there nothing has turned (a new row is laid, and frozen, where s is not empty). (LAID: no walk: one application.) -/
theorem Tryd.stringslite_Clone (s : ByteArray) (w : World) (hlim : s.size ≤ 281474976710656) :
    Calls Tryd.prog 95 #[.string s] w fun e w' => e = .returned (.string s) ∧ Below w.heap.size w w' := Any.stringslite_Clone Tryd.laysM316 s w hlim
def Tryd.laysM279_ren : Go.Shelf.Ren := ⟨fun | 279 => 83 | 316 => 95 | n => n, fun | 9 => 9 | 168 => 103 | 75 => 72 | 210 => 121 | 3 => 3 | 4 => 4 | 37 => 67 | 0 => 0 | 127 => 78 | 80 => 56 | 5 => 5 | n => n, fun | 15 => 4 | n => n⟩
theorem Tryd.laysM279 : Go.Proofs.LaysM.n279 Tryd.prog Tryd.laysM279_ren := {
  mixed := by kernel_rfl
  f279 := Tryd.func83.trans (congrArg some (by kernel_rfl))
  f316 := Tryd.func95.trans (congrArg some (by kernel_rfl))
  t0 := Tryd.underlying0
  a0 := Tryd.isAgg0
  z0 := Tryd.sizeOf0
  v0 := Tryd.zeroValue0
  t3 := Tryd.underlying3
  a3 := Tryd.isAgg3
  z3 := Tryd.sizeOf3
  v3 := Tryd.zeroValue3
  t4 := Tryd.underlying4
  a4 := Tryd.isAgg4
  z4 := Tryd.sizeOf4
  v4 := Tryd.zeroValue4
  t9 := Tryd.underlying9
  a9 := Tryd.isAgg9
  z9 := Tryd.sizeOf9
  v9 := Tryd.zeroValue9
  t37 := Tryd.underlying67
  a37 := Tryd.isAgg67
  z37 := Tryd.sizeOf67
  v37 := Tryd.zeroValue67
  t75 := Tryd.underlying72
  a75 := Tryd.isAgg72
  z75 := Tryd.sizeOf72
  v75 := Tryd.zeroValue72
  t127 := Tryd.underlying78
  a127 := Tryd.isAgg78
  z127 := Tryd.sizeOf78
  v127 := Tryd.zeroValue78
  t168 := Tryd.underlying103
  a168 := Tryd.isAgg103
  z168 := Tryd.sizeOf103
  v168 := Tryd.zeroValue103
  t210 := Tryd.underlying121
  a210 := Tryd.isAgg121
  z210 := Tryd.sizeOf121
  v210 := Tryd.zeroValue121
  g15 := by kernel_rfl
  t5 := Tryd.underlying5
  a5 := Tryd.isAgg5
  z5 := Tryd.sizeOf5
  v5 := Tryd.zeroValue5
  t80 := Tryd.underlying56
  a80 := Tryd.isAgg56
  z80 := Tryd.sizeOf56
  v80 := Tryd.zeroValue56
  i0 := by kernel_rfl
  i3 := by kernel_rfl
  i4 := by kernel_rfl
  i5 := by kernel_rfl
  i9 := by kernel_rfl
  i37 := by kernel_rfl
  i75 := by kernel_rfl
  i80 := by kernel_rfl
  i127 := by kernel_rfl
  i168 := by kernel_rfl
  i210 := by kernel_rfl
  m15 := by kernel_rfl }
open Go.RowKit in
/-- strconv.syntaxError: '&NumError{fn, stringslite.Clone(str), ErrSyntax}': A POINTER TO A NEW BLOCK that holds fn, str's bytes, and what the variable ErrSyntax holds. Of what was there nothing has turned. (LAID: no walk: one application.) -/
theorem Tryd.strconv_syntaxError (fn s : ByteArray) (ev : Value) (w : World) (hlim : s.size ≤ 281474976710656) (hv : w.cell? ⟨4, 0, none⟩ = some ev) (hev : ev = .nilIface ∨ ∃ te pe, ev = .iface te pe) :
    Calls Tryd.prog 83 #[.string fn, .string s] w fun e w' => ∃ N, e = .returned (.pointer (some ⟨N, 0, none⟩)) ∧ w.heap.size ≤ N ∧ w'.heap[N]? = some (.cells #[.string fn, .string s, ev] 121 (0, 0)) ∧ Below w.heap.size w w' := Any.strconv_syntaxError Tryd.laysM279 fn s ev w hlim hv hev
def Tryd.laysC245_ren : Go.Shelf.Ren := ⟨fun | 245 => 71 | 279 => 83 | 280 => 84 | 281 => 85 | 282 => 86 | 316 => 95 | 171 => 45 | 205 => 96 | 243 => 53 | 246 => 63 | 283 => 74 | 284 => 75 | 285 => 76 | 286 => 77 | 129 => 89 | 317 => 88 | 318 => 90 | 319 => 91 | 320 => 92 | 337 => 97 | 338 => 98 | n => n, fun | 9 => 9 | 3 => 3 | 75 => 72 | 167 => 100 | 4 => 4 | 168 => 103 | 210 => 121 | 37 => 67 | 0 => 0 | 127 => 78 | 145 => 127 | 143 => 125 | 2 => 2 | 171 => 92 | 53 => 93 | 5 => 5 | 173 => 96 | 212 => 107 | 51 => 108 | 20 => 20 | 213 => 109 | 46 => 99 | 232 => 128 | 233 => 129 | 80 => 56 | n => n, fun | 15 => 4 | 16 => 5 | 17 => 1 | 18 => 6 | 19 => 7 | n => n⟩
theorem Tryd.laysC245 : Go.Proofs.LaysC.n245 Tryd.prog Tryd.laysC245_ren := {
  mixed := by kernel_rfl
  f129 := Tryd.func89.trans (congrArg some (by kernel_rfl))
  f171 := Tryd.func45.trans (congrArg some (by kernel_rfl))
  f205 := Tryd.func96.trans (congrArg some (by kernel_rfl))
  f243 := Tryd.func53.trans (congrArg some (by kernel_rfl))
  f245 := Tryd.func71.trans (congrArg some (by kernel_rfl))
  f246 := Tryd.func63.trans (congrArg some (by kernel_rfl))
  f279 := Tryd.func83.trans (congrArg some (by kernel_rfl))
  f280 := Tryd.func84.trans (congrArg some (by kernel_rfl))
  f281 := Tryd.func85.trans (congrArg some (by kernel_rfl))
  f282 := Tryd.func86.trans (congrArg some (by kernel_rfl))
  f283 := Tryd.func74.trans (congrArg some (by kernel_rfl))
  f284 := Tryd.func75.trans (congrArg some (by kernel_rfl))
  f285 := Tryd.func76.trans (congrArg some (by kernel_rfl))
  f286 := Tryd.func77.trans (congrArg some (by kernel_rfl))
  f316 := Tryd.func95.trans (congrArg some (by kernel_rfl))
  f317 := Tryd.func88.trans (congrArg some (by kernel_rfl))
  f318 := Tryd.func90.trans (congrArg some (by kernel_rfl))
  f319 := Tryd.func91.trans (congrArg some (by kernel_rfl))
  f320 := Tryd.func92.trans (congrArg some (by kernel_rfl))
  f337 := Tryd.func97.trans (congrArg some (by kernel_rfl))
  f338 := Tryd.func98.trans (congrArg some (by kernel_rfl))
  t0 := Tryd.underlying0
  a0 := Tryd.isAgg0
  z0 := Tryd.sizeOf0
  v0 := Tryd.zeroValue0
  t2 := Tryd.underlying2
  a2 := Tryd.isAgg2
  z2 := Tryd.sizeOf2
  v2 := Tryd.zeroValue2
  t3 := Tryd.underlying3
  a3 := Tryd.isAgg3
  z3 := Tryd.sizeOf3
  v3 := Tryd.zeroValue3
  t4 := Tryd.underlying4
  a4 := Tryd.isAgg4
  z4 := Tryd.sizeOf4
  v4 := Tryd.zeroValue4
  t5 := Tryd.underlying5
  a5 := Tryd.isAgg5
  z5 := Tryd.sizeOf5
  v5 := Tryd.zeroValue5
  t9 := Tryd.underlying9
  a9 := Tryd.isAgg9
  z9 := Tryd.sizeOf9
  v9 := Tryd.zeroValue9
  t20 := Tryd.underlying20
  a20 := Tryd.isAgg20
  z20 := Tryd.sizeOf20
  v20 := Tryd.zeroValue20
  t37 := Tryd.underlying67
  a37 := Tryd.isAgg67
  z37 := Tryd.sizeOf67
  v37 := Tryd.zeroValue67
  t46 := Tryd.underlying99
  a46 := Tryd.isAgg99
  z46 := Tryd.sizeOf99
  v46 := Tryd.zeroValue99
  t51 := Tryd.underlying108
  a51 := Tryd.isAgg108
  z51 := Tryd.sizeOf108
  v51 := Tryd.zeroValue108
  t53 := Tryd.underlying93
  a53 := Tryd.isAgg93
  z53 := Tryd.sizeOf93
  v53 := Tryd.zeroValue93
  t75 := Tryd.underlying72
  a75 := Tryd.isAgg72
  z75 := Tryd.sizeOf72
  v75 := Tryd.zeroValue72
  t127 := Tryd.underlying78
  a127 := Tryd.isAgg78
  z127 := Tryd.sizeOf78
  v127 := Tryd.zeroValue78
  t143 := Tryd.underlying125
  a143 := Tryd.isAgg125
  z143 := Tryd.sizeOf125
  v143 := Tryd.zeroValue125
  t145 := Tryd.underlying127
  a145 := Tryd.isAgg127
  z145 := Tryd.sizeOf127
  v145 := Tryd.zeroValue127
  t167 := Tryd.underlying100
  a167 := Tryd.isAgg100
  z167 := Tryd.sizeOf100
  v167 := Tryd.zeroValue100
  t168 := Tryd.underlying103
  a168 := Tryd.isAgg103
  z168 := Tryd.sizeOf103
  v168 := Tryd.zeroValue103
  t171 := Tryd.underlying92
  a171 := Tryd.isAgg92
  z171 := Tryd.sizeOf92
  v171 := Tryd.zeroValue92
  t173 := Tryd.underlying96
  a173 := Tryd.isAgg96
  z173 := Tryd.sizeOf96
  v173 := Tryd.zeroValue96
  t210 := Tryd.underlying121
  a210 := Tryd.isAgg121
  z210 := Tryd.sizeOf121
  v210 := Tryd.zeroValue121
  t212 := Tryd.underlying107
  a212 := Tryd.isAgg107
  z212 := Tryd.sizeOf107
  v212 := Tryd.zeroValue107
  t213 := Tryd.underlying109
  a213 := Tryd.isAgg109
  z213 := Tryd.sizeOf109
  t232 := Tryd.underlying128
  a232 := Tryd.isAgg128
  z232 := Tryd.sizeOf128
  v232 := Tryd.zeroValue128
  t233 := Tryd.underlying129
  a233 := Tryd.isAgg129
  z233 := Tryd.sizeOf129
  v233 := Tryd.zeroValue129
  g15 := by kernel_rfl
  g16 := by kernel_rfl
  g17 := by kernel_rfl
  g18 := by kernel_rfl
  g19 := by kernel_rfl
  t80 := Tryd.underlying56
  a80 := Tryd.isAgg56
  z80 := Tryd.sizeOf56
  v80 := Tryd.zeroValue56
  i0 := by kernel_rfl
  i2 := by kernel_rfl
  i3 := by kernel_rfl
  i4 := by kernel_rfl
  i5 := by kernel_rfl
  i9 := by kernel_rfl
  i20 := by kernel_rfl
  i37 := by kernel_rfl
  i46 := by kernel_rfl
  i51 := by kernel_rfl
  i53 := by kernel_rfl
  i75 := by kernel_rfl
  i80 := by kernel_rfl
  i127 := by kernel_rfl
  i143 := by kernel_rfl
  i145 := by kernel_rfl
  i167 := by kernel_rfl
  i168 := by kernel_rfl
  i171 := by kernel_rfl
  i173 := by kernel_rfl
  i210 := by kernel_rfl
  i212 := by kernel_rfl
  i232 := by kernel_rfl
  i233 := by kernel_rfl
  m15 := by kernel_rfl
  m16 := by kernel_rfl
  m17 := by kernel_rfl
  m18 := by kernel_rfl
  m19 := by kernel_rfl
  c0 := by kernel_rfl
  c2 := by kernel_rfl
  c3 := by kernel_rfl
  c4 := by kernel_rfl
  c5 := by kernel_rfl
  c9 := by kernel_rfl
  c20 := by kernel_rfl
  c37 := by kernel_rfl
  c46 := by kernel_rfl
  c51 := by kernel_rfl
  c53 := by kernel_rfl
  c75 := by kernel_rfl
  c80 := by kernel_rfl
  c127 := by kernel_rfl
  c143 := by kernel_rfl
  c145 := by kernel_rfl
  c167 := by kernel_rfl
  c168 := by kernel_rfl
  c171 := by kernel_rfl
  c173 := by kernel_rfl
  c210 := by kernel_rfl
  c212 := by kernel_rfl
  c213 := by kernel_rfl
  c232 := by kernel_rfl
  c233 := by kernel_rfl }
open Go.RowKit in
/-- strconv.toError, at the inner package's ErrSyntax: 'syntaxError(fn, s)' as an error: A *NumError IN A NEW BLOCK. (LAID: no walk: one application.) -/
theorem Tryd.strconv_toError_syntax (fn s : ByteArray) (base bits : Int) (ev : Value) (w : World) (hlim : s.size ≤ 281474976710656) (hv : w.cell? ⟨4, 0, none⟩ = some ev) (hev : ev = .nilIface ∨ ∃ te pe, ev = .iface te pe) :
    Calls Tryd.prog 71 #[.string fn, .string s, .int .i64 base, .int .i64 bits, .iface 100 (.int .i64 2)] w fun e w' => ∃ N, e = .returned (.iface 103 (.pointer (some ⟨N, 0, none⟩))) ∧ w.heap.size ≤ N ∧ w'.heap[N]? = some (.cells #[.string fn, .string s, ev] 121 (0, 0)) ∧ Below w.heap.size w w' := Any.strconv_toError_syntax Tryd.laysC245 fn s base bits ev w hlim hv hev
def Tryd.laysC172_ren : Go.Shelf.Ren := ⟨fun | 172 => 59 | 244 => 70 | 245 => 71 | 247 => 82 | 279 => 83 | 280 => 84 | 281 => 85 | 282 => 86 | 287 => 94 | 316 => 95 | 171 => 45 | 205 => 96 | 321 => 99 | 322 => 100 | 243 => 53 | 246 => 63 | 283 => 74 | 284 => 75 | 285 => 76 | 286 => 77 | 129 => 89 | 317 => 88 | 318 => 90 | 319 => 91 | 320 => 92 | 337 => 97 | 338 => 98 | n => n, fun | 9 => 9 | 3 => 3 | 75 => 72 | 76 => 73 | 4 => 4 | 5 => 5 | 167 => 100 | 37 => 67 | 0 => 0 | 85 => 101 | 2 => 2 | 168 => 103 | 53 => 93 | 175 => 117 | 46 => 99 | 210 => 121 | 127 => 78 | 145 => 127 | 143 => 125 | 21 => 21 | 171 => 92 | 173 => 96 | 212 => 107 | 51 => 108 | 20 => 20 | 213 => 109 | 232 => 128 | 233 => 129 | 80 => 56 | n => n, fun | 15 => 4 | 16 => 5 | 17 => 1 | 18 => 6 | 19 => 7 | n => n⟩
theorem Tryd.laysC172 : Go.Proofs.LaysC.n172 Tryd.prog Tryd.laysC172_ren := {
  mixed := by kernel_rfl
  f129 := Tryd.func89.trans (congrArg some (by kernel_rfl))
  f171 := Tryd.func45.trans (congrArg some (by kernel_rfl))
  f172 := Tryd.func59.trans (congrArg some (by kernel_rfl))
  f205 := Tryd.func96.trans (congrArg some (by kernel_rfl))
  f243 := Tryd.func53.trans (congrArg some (by kernel_rfl))
  f244 := Tryd.func70.trans (congrArg some (by kernel_rfl))
  f245 := Tryd.func71.trans (congrArg some (by kernel_rfl))
  f246 := Tryd.func63.trans (congrArg some (by kernel_rfl))
  f247 := Tryd.func82.trans (congrArg some (by kernel_rfl))
  f279 := Tryd.func83.trans (congrArg some (by kernel_rfl))
  f280 := Tryd.func84.trans (congrArg some (by kernel_rfl))
  f281 := Tryd.func85.trans (congrArg some (by kernel_rfl))
  f282 := Tryd.func86.trans (congrArg some (by kernel_rfl))
  f283 := Tryd.func74.trans (congrArg some (by kernel_rfl))
  f284 := Tryd.func75.trans (congrArg some (by kernel_rfl))
  f285 := Tryd.func76.trans (congrArg some (by kernel_rfl))
  f286 := Tryd.func77.trans (congrArg some (by kernel_rfl))
  f287 := Tryd.func94.trans (congrArg some (by kernel_rfl))
  f316 := Tryd.func95.trans (congrArg some (by kernel_rfl))
  f317 := Tryd.func88.trans (congrArg some (by kernel_rfl))
  f318 := Tryd.func90.trans (congrArg some (by kernel_rfl))
  f319 := Tryd.func91.trans (congrArg some (by kernel_rfl))
  f320 := Tryd.func92.trans (congrArg some (by kernel_rfl))
  f321 := Tryd.func99.trans (congrArg some (by kernel_rfl))
  f322 := Tryd.func100.trans (congrArg some (by kernel_rfl))
  f337 := Tryd.func97.trans (congrArg some (by kernel_rfl))
  f338 := Tryd.func98.trans (congrArg some (by kernel_rfl))
  t0 := Tryd.underlying0
  a0 := Tryd.isAgg0
  z0 := Tryd.sizeOf0
  v0 := Tryd.zeroValue0
  t2 := Tryd.underlying2
  a2 := Tryd.isAgg2
  z2 := Tryd.sizeOf2
  v2 := Tryd.zeroValue2
  t3 := Tryd.underlying3
  a3 := Tryd.isAgg3
  z3 := Tryd.sizeOf3
  v3 := Tryd.zeroValue3
  t4 := Tryd.underlying4
  a4 := Tryd.isAgg4
  z4 := Tryd.sizeOf4
  v4 := Tryd.zeroValue4
  t5 := Tryd.underlying5
  a5 := Tryd.isAgg5
  z5 := Tryd.sizeOf5
  v5 := Tryd.zeroValue5
  t9 := Tryd.underlying9
  a9 := Tryd.isAgg9
  z9 := Tryd.sizeOf9
  v9 := Tryd.zeroValue9
  t20 := Tryd.underlying20
  a20 := Tryd.isAgg20
  z20 := Tryd.sizeOf20
  v20 := Tryd.zeroValue20
  t21 := Tryd.underlying21
  a21 := Tryd.isAgg21
  z21 := Tryd.sizeOf21
  v21 := Tryd.zeroValue21
  t37 := Tryd.underlying67
  a37 := Tryd.isAgg67
  z37 := Tryd.sizeOf67
  v37 := Tryd.zeroValue67
  t46 := Tryd.underlying99
  a46 := Tryd.isAgg99
  z46 := Tryd.sizeOf99
  v46 := Tryd.zeroValue99
  t51 := Tryd.underlying108
  a51 := Tryd.isAgg108
  z51 := Tryd.sizeOf108
  v51 := Tryd.zeroValue108
  t53 := Tryd.underlying93
  a53 := Tryd.isAgg93
  z53 := Tryd.sizeOf93
  v53 := Tryd.zeroValue93
  t75 := Tryd.underlying72
  a75 := Tryd.isAgg72
  z75 := Tryd.sizeOf72
  v75 := Tryd.zeroValue72
  t76 := Tryd.underlying73
  a76 := Tryd.isAgg73
  z76 := Tryd.sizeOf73
  v76 := Tryd.zeroValue73
  t85 := Tryd.underlying101
  a85 := Tryd.isAgg101
  z85 := Tryd.sizeOf101
  v85 := Tryd.zeroValue101
  t127 := Tryd.underlying78
  a127 := Tryd.isAgg78
  z127 := Tryd.sizeOf78
  v127 := Tryd.zeroValue78
  t143 := Tryd.underlying125
  a143 := Tryd.isAgg125
  z143 := Tryd.sizeOf125
  v143 := Tryd.zeroValue125
  t145 := Tryd.underlying127
  a145 := Tryd.isAgg127
  z145 := Tryd.sizeOf127
  v145 := Tryd.zeroValue127
  t167 := Tryd.underlying100
  a167 := Tryd.isAgg100
  z167 := Tryd.sizeOf100
  v167 := Tryd.zeroValue100
  t168 := Tryd.underlying103
  a168 := Tryd.isAgg103
  z168 := Tryd.sizeOf103
  v168 := Tryd.zeroValue103
  t171 := Tryd.underlying92
  a171 := Tryd.isAgg92
  z171 := Tryd.sizeOf92
  v171 := Tryd.zeroValue92
  t173 := Tryd.underlying96
  a173 := Tryd.isAgg96
  z173 := Tryd.sizeOf96
  v173 := Tryd.zeroValue96
  t175 := Tryd.underlying117
  a175 := Tryd.isAgg117
  z175 := Tryd.sizeOf117
  v175 := Tryd.zeroValue117
  t210 := Tryd.underlying121
  a210 := Tryd.isAgg121
  z210 := Tryd.sizeOf121
  v210 := Tryd.zeroValue121
  t212 := Tryd.underlying107
  a212 := Tryd.isAgg107
  z212 := Tryd.sizeOf107
  v212 := Tryd.zeroValue107
  t213 := Tryd.underlying109
  a213 := Tryd.isAgg109
  z213 := Tryd.sizeOf109
  t232 := Tryd.underlying128
  a232 := Tryd.isAgg128
  z232 := Tryd.sizeOf128
  v232 := Tryd.zeroValue128
  t233 := Tryd.underlying129
  a233 := Tryd.isAgg129
  z233 := Tryd.sizeOf129
  v233 := Tryd.zeroValue129
  g15 := by kernel_rfl
  g16 := by kernel_rfl
  g17 := by kernel_rfl
  g18 := by kernel_rfl
  g19 := by kernel_rfl
  t80 := Tryd.underlying56
  a80 := Tryd.isAgg56
  z80 := Tryd.sizeOf56
  v80 := Tryd.zeroValue56
  i0 := by kernel_rfl
  i2 := by kernel_rfl
  i3 := by kernel_rfl
  i4 := by kernel_rfl
  i5 := by kernel_rfl
  i9 := by kernel_rfl
  i20 := by kernel_rfl
  i21 := by kernel_rfl
  i37 := by kernel_rfl
  i46 := by kernel_rfl
  i51 := by kernel_rfl
  i53 := by kernel_rfl
  i75 := by kernel_rfl
  i76 := by kernel_rfl
  i80 := by kernel_rfl
  i85 := by kernel_rfl
  i127 := by kernel_rfl
  i143 := by kernel_rfl
  i145 := by kernel_rfl
  i167 := by kernel_rfl
  i168 := by kernel_rfl
  i171 := by kernel_rfl
  i173 := by kernel_rfl
  i175 := by kernel_rfl
  i210 := by kernel_rfl
  i212 := by kernel_rfl
  i232 := by kernel_rfl
  i233 := by kernel_rfl
  m15 := by kernel_rfl
  m16 := by kernel_rfl
  m17 := by kernel_rfl
  m18 := by kernel_rfl
  m19 := by kernel_rfl
  c0 := by kernel_rfl
  c2 := by kernel_rfl
  c3 := by kernel_rfl
  c4 := by kernel_rfl
  c5 := by kernel_rfl
  c9 := by kernel_rfl
  c20 := by kernel_rfl
  c21 := by kernel_rfl
  c37 := by kernel_rfl
  c46 := by kernel_rfl
  c51 := by kernel_rfl
  c53 := by kernel_rfl
  c75 := by kernel_rfl
  c76 := by kernel_rfl
  c80 := by kernel_rfl
  c85 := by kernel_rfl
  c127 := by kernel_rfl
  c143 := by kernel_rfl
  c145 := by kernel_rfl
  c167 := by kernel_rfl
  c168 := by kernel_rfl
  c171 := by kernel_rfl
  c173 := by kernel_rfl
  c175 := by kernel_rfl
  c210 := by kernel_rfl
  c212 := by kernel_rfl
  c213 := by kernel_rfl
  c232 := by kernel_rfl
  c233 := by kernel_rfl }
open Go.RowKit in
/-- strconv.Atoi, AT EVERY STRING OF AT MOST 18 BYTES THAT IS NO DECIMAL NUMERAL (the empty one too): 0, AND AN ERROR THAT IS NOT nil: a *NumError in a new block N: {Func: "Atoi", Num: s's bytes, Err: what the variable ErrSyntax holds}. Of what was there nothing has turned. (LAID: no walk: one application.) -/
theorem Tryd.strconv_Atoi_err (s : ByteArray) (hl : s.size ≤ 18) (h : Lib.atoi s.data.toList = none) (ev : Value) (w : World) (hv : w.cell? ⟨4, 0, none⟩ = some ev) (hev : ev = .nilIface ∨ ∃ te pe, ev = .iface te pe) :
    Calls Tryd.prog 59 #[.string s] w fun e w' => ∃ N, e = .returned (.tuple #[.int .i64 0, .iface 103 (.pointer (some ⟨N, 0, none⟩))]) ∧ w.heap.size ≤ N ∧ w'.heap[N]? = some (.cells #[.string ⟨#[65, 116, 111, 105]⟩, .string s, ev] 121 (0, 0)) ∧ Below w.heap.size w w' := Any.strconv_Atoi_err Tryd.laysC172 s hl h ev w hv hev
open Go.RowKit in
theorem Tryd.strconv_Atoi_err_var (s : ByteArray) (hl : s.size ≤ 18) (h : Lib.atoi s.data.toList = none) (tp : TypeId) (p : Value) (w : World) (hvar : w.var? Tryd.prog "strconv.ErrSyntax" = some #[.iface tp p]) :
    Calls Tryd.prog 59 #[.string s] w fun e w' => ∃ N, e = .returned (.tuple #[.int .i64 0, .iface 103 (.pointer (some ⟨N, 0, none⟩))]) ∧ w.heap.size ≤ N ∧ w'.heap[N]? = some (.cells #[.string ⟨#[65, 116, 111, 105]⟩, .string s, .iface tp p] 121 (0, 0)) ∧ Below w.heap.size w w' := Any.strconv_Atoi_err_var Tryd.laysC172 s hl h tp p w hvar
def Tryd.lays321_ren : Go.Shelf.Ren := ⟨fun | 321 => 99 | n => n, fun | 5 => 5 | n => n, fun | n => n⟩
theorem Tryd.lays321 : Go.Proofs.Lays.n321 Tryd.prog Tryd.lays321_ren := {
  mixed := by kernel_rfl
  f321 := Tryd.func99.trans (congrArg some (by kernel_rfl))
  t5 := Tryd.underlying5
  a5 := Tryd.isAgg5
  z5 := Tryd.sizeOf5
  v5 := Tryd.zeroValue5 }
open Go.RowKit in
/-- internal/strconv.lower: 'c | ('x' - 'X')': the bit 32 set. The world is as it was. (LAID: no walk: one application.) -/
theorem Tryd.internal_strconv_lower (c : Int) (w : World) :
    Calls Tryd.prog 99 #[.int .u8 c] w fun e w' => e = .returned (.int .u8 (bits .or .u8 c 32)) ∧ w' = w := Any.internal_strconv_lower Tryd.lays321 c w
def Tryd.lays287_ren : Go.Shelf.Ren := ⟨fun | 287 => 94 | 321 => 99 | 322 => 100 | n => n, fun | 9 => 9 | 3 => 3 | 53 => 93 | 75 => 72 | 4 => 4 | 167 => 100 | 5 => 5 | 46 => 99 | 37 => 67 | 0 => 0 | 21 => 21 | 80 => 56 | n => n, fun | n => n⟩
theorem Tryd.lays287 : Go.Proofs.Lays.n287 Tryd.prog Tryd.lays287_ren := {
  mixed := by kernel_rfl
  f287 := Tryd.func94.trans (congrArg some (by kernel_rfl))
  f321 := Tryd.func99.trans (congrArg some (by kernel_rfl))
  f322 := Tryd.func100.trans (congrArg some (by kernel_rfl))
  t0 := Tryd.underlying0
  a0 := Tryd.isAgg0
  z0 := Tryd.sizeOf0
  v0 := Tryd.zeroValue0
  t3 := Tryd.underlying3
  a3 := Tryd.isAgg3
  z3 := Tryd.sizeOf3
  v3 := Tryd.zeroValue3
  t4 := Tryd.underlying4
  a4 := Tryd.isAgg4
  z4 := Tryd.sizeOf4
  v4 := Tryd.zeroValue4
  t5 := Tryd.underlying5
  a5 := Tryd.isAgg5
  z5 := Tryd.sizeOf5
  v5 := Tryd.zeroValue5
  t9 := Tryd.underlying9
  a9 := Tryd.isAgg9
  z9 := Tryd.sizeOf9
  v9 := Tryd.zeroValue9
  t21 := Tryd.underlying21
  a21 := Tryd.isAgg21
  z21 := Tryd.sizeOf21
  v21 := Tryd.zeroValue21
  t37 := Tryd.underlying67
  a37 := Tryd.isAgg67
  z37 := Tryd.sizeOf67
  v37 := Tryd.zeroValue67
  t46 := Tryd.underlying99
  a46 := Tryd.isAgg99
  z46 := Tryd.sizeOf99
  v46 := Tryd.zeroValue99
  t53 := Tryd.underlying93
  a53 := Tryd.isAgg93
  z53 := Tryd.sizeOf93
  v53 := Tryd.zeroValue93
  t75 := Tryd.underlying72
  a75 := Tryd.isAgg72
  z75 := Tryd.sizeOf72
  v75 := Tryd.zeroValue72
  t167 := Tryd.underlying100
  a167 := Tryd.isAgg100
  z167 := Tryd.sizeOf100
  v167 := Tryd.zeroValue100 }
open Go.RowKit in
/-- internal/strconv.ParseUint(s, 10, 0), s NOT EMPTY: 'Lib.parseUint10 0' OF ITS BYTES: the number; or (0, ErrSyntax); or (the greatest uint64, ErrRange). The world behind the call: the one new row that '[]byte(s)' lays. (LAID: no walk: one application.) -/
theorem Tryd.internal_strconv_ParseUint_10 (t : ByteArray) (hne : t.size ≠ 0) (hmax : t.size ≤ 9223372036854775806) (w : World) :
    Calls Tryd.prog 94 #[.string t, .int .i64 10, .int .i64 0] w fun e w' => e = .returned (Lib.uintTuple 100 (Lib.parseUint10 0 t.data.toList)) ∧ w' = Lib.bytesWorld w 5 t := Any.internal_strconv_ParseUint_10 Tryd.lays287 t hne hmax w
open Go.RowKit in
/-- internal/strconv.ParseUint("", 10, 0): (0, ErrSyntax). The world is as it was. (LAID: no walk: one application.) -/
theorem Tryd.internal_strconv_ParseUint_10_empty (w : World) :
    Calls Tryd.prog 94 #[.string ⟨#[]⟩, .int .i64 10, .int .i64 0] w fun e w' => e = .returned (Lib.uintTuple 100 .syntax) ∧ w' = w := Any.internal_strconv_ParseUint_10_empty Tryd.lays287 w
open Go.RowKit in
/-- internal/strconv.ParseUint(s, 10, 0): 'Lib.parseMag' OF ITS BYTES. The world: as it was (the empty string), or with the one new row that '[]byte(s)' lays. (LAID: no walk: one application.) -/
theorem Tryd.internal_strconv_ParseUint_10_any (t : ByteArray) (hmax : t.size ≤ 9223372036854775806) (w : World) :
    Calls Tryd.prog 94 #[.string t, .int .i64 10, .int .i64 0] w fun e w' => e = .returned (Lib.uintTuple 100 (Lib.parseMag t.data.toList)) ∧ (w' = w ∨ w' = Lib.bytesWorld w 5 t) := Any.internal_strconv_ParseUint_10_any Tryd.lays287 t hmax w
def Tryd.laysC247_ren : Go.Shelf.Ren := ⟨fun | 247 => 82 | 287 => 94 | 321 => 99 | 322 => 100 | n => n, fun | 9 => 9 | 3 => 3 | 2 => 2 | 75 => 72 | 4 => 4 | 167 => 100 | 5 => 5 | 53 => 93 | 175 => 117 | 46 => 99 | 37 => 67 | 0 => 0 | 21 => 21 | 80 => 56 | n => n, fun | n => n⟩
theorem Tryd.laysC247 : Go.Proofs.LaysC.n247 Tryd.prog Tryd.laysC247_ren := {
  mixed := by kernel_rfl
  f247 := Tryd.func82.trans (congrArg some (by kernel_rfl))
  f287 := Tryd.func94.trans (congrArg some (by kernel_rfl))
  f321 := Tryd.func99.trans (congrArg some (by kernel_rfl))
  f322 := Tryd.func100.trans (congrArg some (by kernel_rfl))
  t0 := Tryd.underlying0
  a0 := Tryd.isAgg0
  z0 := Tryd.sizeOf0
  v0 := Tryd.zeroValue0
  t2 := Tryd.underlying2
  a2 := Tryd.isAgg2
  z2 := Tryd.sizeOf2
  v2 := Tryd.zeroValue2
  t3 := Tryd.underlying3
  a3 := Tryd.isAgg3
  z3 := Tryd.sizeOf3
  v3 := Tryd.zeroValue3
  t4 := Tryd.underlying4
  a4 := Tryd.isAgg4
  z4 := Tryd.sizeOf4
  v4 := Tryd.zeroValue4
  t5 := Tryd.underlying5
  a5 := Tryd.isAgg5
  z5 := Tryd.sizeOf5
  v5 := Tryd.zeroValue5
  t9 := Tryd.underlying9
  a9 := Tryd.isAgg9
  z9 := Tryd.sizeOf9
  v9 := Tryd.zeroValue9
  t21 := Tryd.underlying21
  a21 := Tryd.isAgg21
  z21 := Tryd.sizeOf21
  v21 := Tryd.zeroValue21
  t37 := Tryd.underlying67
  a37 := Tryd.isAgg67
  z37 := Tryd.sizeOf67
  v37 := Tryd.zeroValue67
  t46 := Tryd.underlying99
  a46 := Tryd.isAgg99
  z46 := Tryd.sizeOf99
  v46 := Tryd.zeroValue99
  t53 := Tryd.underlying93
  a53 := Tryd.isAgg93
  z53 := Tryd.sizeOf93
  v53 := Tryd.zeroValue93
  t75 := Tryd.underlying72
  a75 := Tryd.isAgg72
  z75 := Tryd.sizeOf72
  v75 := Tryd.zeroValue72
  t167 := Tryd.underlying100
  a167 := Tryd.isAgg100
  z167 := Tryd.sizeOf100
  v167 := Tryd.zeroValue100
  t175 := Tryd.underlying117
  a175 := Tryd.isAgg117
  z175 := Tryd.sizeOf117
  v175 := Tryd.zeroValue117
  t80 := Tryd.underlying56
  a80 := Tryd.isAgg56
  z80 := Tryd.sizeOf56
  v80 := Tryd.zeroValue56
  i0 := by kernel_rfl
  i2 := by kernel_rfl
  i3 := by kernel_rfl
  i4 := by kernel_rfl
  i5 := by kernel_rfl
  i9 := by kernel_rfl
  i21 := by kernel_rfl
  i37 := by kernel_rfl
  i46 := by kernel_rfl
  i53 := by kernel_rfl
  i75 := by kernel_rfl
  i80 := by kernel_rfl
  i167 := by kernel_rfl
  i175 := by kernel_rfl
  c0 := by kernel_rfl
  c2 := by kernel_rfl
  c3 := by kernel_rfl
  c4 := by kernel_rfl
  c5 := by kernel_rfl
  c9 := by kernel_rfl
  c21 := by kernel_rfl
  c37 := by kernel_rfl
  c46 := by kernel_rfl
  c53 := by kernel_rfl
  c75 := by kernel_rfl
  c80 := by kernel_rfl
  c167 := by kernel_rfl
  c175 := by kernel_rfl }
open Go.RowKit in
/-- internal/strconv.ParseInt(s, 10, 0), s NOT EMPTY: 'Lib.atoiAll' OF ITS BYTES: (the number, nil); (0, ErrSyntax); (the greatest or the least int64 by the sign, ErrRange). The world: as it was, or with the one new row that '[]byte(..)' lays. (LAID: no walk: one application.) -/
theorem Tryd.internal_strconv_ParseInt_10 (s : ByteArray) (hne : s.size ≠ 0) (hmax : s.size ≤ 9223372036854775806) (w : World) :
    Calls Tryd.prog 82 #[.string s, .int .i64 10, .int .i64 0] w fun e w' => e = .returned (Lib.intTuple 100 (Lib.atoiSat s.data.toList) (Lib.atoiAll s.data.toList)) ∧ (w' = w ∨ ∃ t, w' = Lib.bytesWorld w 5 t) := Any.internal_strconv_ParseInt_10 Tryd.laysC247 s hne hmax w
def Tryd.laysC244_ren : Go.Shelf.Ren := ⟨fun | 244 => 70 | 247 => 82 | 287 => 94 | 321 => 99 | 322 => 100 | n => n, fun | 9 => 9 | 3 => 3 | 75 => 72 | 4 => 4 | 5 => 5 | 167 => 100 | 37 => 67 | 0 => 0 | 85 => 101 | 2 => 2 | 53 => 93 | 175 => 117 | 46 => 99 | 21 => 21 | 80 => 56 | n => n, fun | n => n⟩
theorem Tryd.laysC244 : Go.Proofs.LaysC.n244 Tryd.prog Tryd.laysC244_ren := {
  mixed := by kernel_rfl
  f244 := Tryd.func70.trans (congrArg some (by kernel_rfl))
  f247 := Tryd.func82.trans (congrArg some (by kernel_rfl))
  f287 := Tryd.func94.trans (congrArg some (by kernel_rfl))
  f321 := Tryd.func99.trans (congrArg some (by kernel_rfl))
  f322 := Tryd.func100.trans (congrArg some (by kernel_rfl))
  t0 := Tryd.underlying0
  a0 := Tryd.isAgg0
  z0 := Tryd.sizeOf0
  v0 := Tryd.zeroValue0
  t2 := Tryd.underlying2
  a2 := Tryd.isAgg2
  z2 := Tryd.sizeOf2
  v2 := Tryd.zeroValue2
  t3 := Tryd.underlying3
  a3 := Tryd.isAgg3
  z3 := Tryd.sizeOf3
  v3 := Tryd.zeroValue3
  t4 := Tryd.underlying4
  a4 := Tryd.isAgg4
  z4 := Tryd.sizeOf4
  v4 := Tryd.zeroValue4
  t5 := Tryd.underlying5
  a5 := Tryd.isAgg5
  z5 := Tryd.sizeOf5
  v5 := Tryd.zeroValue5
  t9 := Tryd.underlying9
  a9 := Tryd.isAgg9
  z9 := Tryd.sizeOf9
  v9 := Tryd.zeroValue9
  t21 := Tryd.underlying21
  a21 := Tryd.isAgg21
  z21 := Tryd.sizeOf21
  v21 := Tryd.zeroValue21
  t37 := Tryd.underlying67
  a37 := Tryd.isAgg67
  z37 := Tryd.sizeOf67
  v37 := Tryd.zeroValue67
  t46 := Tryd.underlying99
  a46 := Tryd.isAgg99
  z46 := Tryd.sizeOf99
  v46 := Tryd.zeroValue99
  t53 := Tryd.underlying93
  a53 := Tryd.isAgg93
  z53 := Tryd.sizeOf93
  v53 := Tryd.zeroValue93
  t75 := Tryd.underlying72
  a75 := Tryd.isAgg72
  z75 := Tryd.sizeOf72
  v75 := Tryd.zeroValue72
  t85 := Tryd.underlying101
  a85 := Tryd.isAgg101
  z85 := Tryd.sizeOf101
  v85 := Tryd.zeroValue101
  t167 := Tryd.underlying100
  a167 := Tryd.isAgg100
  z167 := Tryd.sizeOf100
  v167 := Tryd.zeroValue100
  t175 := Tryd.underlying117
  a175 := Tryd.isAgg117
  z175 := Tryd.sizeOf117
  v175 := Tryd.zeroValue117
  t80 := Tryd.underlying56
  a80 := Tryd.isAgg56
  z80 := Tryd.sizeOf56
  v80 := Tryd.zeroValue56
  i0 := by kernel_rfl
  i2 := by kernel_rfl
  i3 := by kernel_rfl
  i4 := by kernel_rfl
  i5 := by kernel_rfl
  i9 := by kernel_rfl
  i21 := by kernel_rfl
  i37 := by kernel_rfl
  i46 := by kernel_rfl
  i53 := by kernel_rfl
  i75 := by kernel_rfl
  i80 := by kernel_rfl
  i85 := by kernel_rfl
  i167 := by kernel_rfl
  i175 := by kernel_rfl
  c0 := by kernel_rfl
  c2 := by kernel_rfl
  c3 := by kernel_rfl
  c4 := by kernel_rfl
  c5 := by kernel_rfl
  c9 := by kernel_rfl
  c21 := by kernel_rfl
  c37 := by kernel_rfl
  c46 := by kernel_rfl
  c53 := by kernel_rfl
  c75 := by kernel_rfl
  c80 := by kernel_rfl
  c85 := by kernel_rfl
  c167 := by kernel_rfl
  c175 := by kernel_rfl }
open Go.RowKit in
/-- internal/strconv.Atoi, AT EVERY STRING OF 19 BYTES OR MORE: 'Lib.atoiAll' OF ITS BYTES: (the number, nil); (0, ErrSyntax); (the greatest or the least int by the sign, ErrRange). (LAID: no walk: one application.) -/
theorem Tryd.internal_strconv_Atoi_long (s : ByteArray) (h19 : 19 ≤ s.size) (hmax : s.size ≤ 9223372036854775806) (w : World) :
    Calls Tryd.prog 70 #[.string s] w fun e w' => e = .returned (Lib.intTuple 100 (Lib.atoiSat s.data.toList) (Lib.atoiAll s.data.toList)) ∧ (w' = w ∨ ∃ t, w' = Lib.bytesWorld w 5 t) := Any.internal_strconv_Atoi_long Tryd.laysC244 s h19 hmax w
open Go.RowKit in
/-- internal/strconv.Atoi, AT EVERY STRING: 'Lib.atoiAll' OF ITS BYTES: (the number, nil); (0, ErrSyntax); (the greatest or the least int by the sign, ErrRange). The world: as it was, or with the one new row that '[]byte(..)' lays. (LAID: no walk: one application.) -/
theorem Tryd.internal_strconv_Atoi_all (s : ByteArray) (hmax : s.size ≤ 9223372036854775806) (w : World) :
    Calls Tryd.prog 70 #[.string s] w fun e w' => e = .returned (Lib.intTuple 100 (Lib.atoiSat s.data.toList) (Lib.atoiAll s.data.toList)) ∧ (w' = w ∨ ∃ t, w' = Lib.bytesWorld w 5 t) := Any.internal_strconv_Atoi_all Tryd.laysC244 s hmax w
def Tryd.laysM280_ren : Go.Shelf.Ren := ⟨fun | 280 => 84 | 316 => 95 | n => n, fun | 9 => 9 | 168 => 103 | 75 => 72 | 210 => 121 | 3 => 3 | 4 => 4 | 37 => 67 | 0 => 0 | 127 => 78 | 80 => 56 | 5 => 5 | n => n, fun | 16 => 5 | n => n⟩
theorem Tryd.laysM280 : Go.Proofs.LaysM.n280 Tryd.prog Tryd.laysM280_ren := {
  mixed := by kernel_rfl
  f280 := Tryd.func84.trans (congrArg some (by kernel_rfl))
  f316 := Tryd.func95.trans (congrArg some (by kernel_rfl))
  t0 := Tryd.underlying0
  a0 := Tryd.isAgg0
  z0 := Tryd.sizeOf0
  v0 := Tryd.zeroValue0
  t3 := Tryd.underlying3
  a3 := Tryd.isAgg3
  z3 := Tryd.sizeOf3
  v3 := Tryd.zeroValue3
  t4 := Tryd.underlying4
  a4 := Tryd.isAgg4
  z4 := Tryd.sizeOf4
  v4 := Tryd.zeroValue4
  t9 := Tryd.underlying9
  a9 := Tryd.isAgg9
  z9 := Tryd.sizeOf9
  v9 := Tryd.zeroValue9
  t37 := Tryd.underlying67
  a37 := Tryd.isAgg67
  z37 := Tryd.sizeOf67
  v37 := Tryd.zeroValue67
  t75 := Tryd.underlying72
  a75 := Tryd.isAgg72
  z75 := Tryd.sizeOf72
  v75 := Tryd.zeroValue72
  t127 := Tryd.underlying78
  a127 := Tryd.isAgg78
  z127 := Tryd.sizeOf78
  v127 := Tryd.zeroValue78
  t168 := Tryd.underlying103
  a168 := Tryd.isAgg103
  z168 := Tryd.sizeOf103
  v168 := Tryd.zeroValue103
  t210 := Tryd.underlying121
  a210 := Tryd.isAgg121
  z210 := Tryd.sizeOf121
  v210 := Tryd.zeroValue121
  g16 := by kernel_rfl
  t5 := Tryd.underlying5
  a5 := Tryd.isAgg5
  z5 := Tryd.sizeOf5
  v5 := Tryd.zeroValue5
  t80 := Tryd.underlying56
  a80 := Tryd.isAgg56
  z80 := Tryd.sizeOf56
  v80 := Tryd.zeroValue56
  i0 := by kernel_rfl
  i3 := by kernel_rfl
  i4 := by kernel_rfl
  i5 := by kernel_rfl
  i9 := by kernel_rfl
  i37 := by kernel_rfl
  i75 := by kernel_rfl
  i80 := by kernel_rfl
  i127 := by kernel_rfl
  i168 := by kernel_rfl
  i210 := by kernel_rfl
  m16 := by kernel_rfl }
open Go.RowKit in
/-- strconv.rangeError: '&NumError{fn, stringslite.Clone(str), ErrRange}': A POINTER TO A NEW BLOCK that holds fn, str's bytes, and what the variable ErrRange holds. Of what was there nothing has turned. (LAID: no walk: one application.) -/
theorem Tryd.strconv_rangeError (fn s : ByteArray) (ev : Value) (w : World) (hlim : s.size ≤ 281474976710656) (hv : w.cell? ⟨5, 0, none⟩ = some ev) (hev : ev = .nilIface ∨ ∃ te pe, ev = .iface te pe) :
    Calls Tryd.prog 84 #[.string fn, .string s] w fun e w' => ∃ N, e = .returned (.pointer (some ⟨N, 0, none⟩)) ∧ w.heap.size ≤ N ∧ w'.heap[N]? = some (.cells #[.string fn, .string s, ev] 121 (0, 0)) ∧ Below w.heap.size w w' := Any.strconv_rangeError Tryd.laysM280 fn s ev w hlim hv hev
open Go.RowKit in
/-- strconv.toError, at the inner package's ErrRange: 'rangeError(fn, s)' as an error: A *NumError IN A NEW BLOCK. (LAID: no walk: one application.) -/
theorem Tryd.strconv_toError_range (fn s : ByteArray) (base bits : Int) (ev : Value) (w : World) (hlim : s.size ≤ 281474976710656) (hv : w.cell? ⟨5, 0, none⟩ = some ev) (hev : ev = .nilIface ∨ ∃ te pe, ev = .iface te pe) :
    Calls Tryd.prog 71 #[.string fn, .string s, .int .i64 base, .int .i64 bits, .iface 100 (.int .i64 1)] w fun e w' => ∃ N, e = .returned (.iface 103 (.pointer (some ⟨N, 0, none⟩))) ∧ w.heap.size ≤ N ∧ w'.heap[N]? = some (.cells #[.string fn, .string s, ev] 121 (0, 0)) ∧ Below w.heap.size w w' := Any.strconv_toError_range Tryd.laysC245 fn s base bits ev w hlim hv hev
open Go.RowKit in
/-- strconv.Atoi, AT EVERY STRING THAT SPELLS AN int ('Lib.atoiAll .. = .ok v'; of whatever length: leading zeros count): v, AND NO ERROR. The world: as it was, or with the one new row that '[]byte(..)' lays. (LAID: no walk: one application.) -/
theorem Tryd.strconv_Atoi_ok (s : ByteArray) (hmax : s.size ≤ 9223372036854775806) (v : Int) (h : Lib.atoiAll s.data.toList = .ok v) (w : World) :
    Calls Tryd.prog 59 #[.string s] w fun e w' => e = .returned (.tuple #[.int .i64 v, .nilIface]) ∧ (w' = w ∨ ∃ t, w' = Lib.bytesWorld w 5 t) := Any.strconv_Atoi_ok Tryd.laysC172 s hmax v h w
open Go.RowKit in
/-- strconv.Atoi, AT EVERY STRING THAT IS NO DECIMAL NUMERAL ('.syntax'): 0, AND AN ERROR THAT IS NOT nil: a *NumError in a new block N: {Func: "Atoi", Num: s's bytes, Err: what the variable ErrSyntax holds}. Of what was there nothing has turned. (LAID: no walk: one application.) -/
theorem Tryd.strconv_Atoi_syntax (s : ByteArray) (hlim : s.size ≤ 281474976710656) (h : Lib.atoiAll s.data.toList = .«syntax») (ev : Value) (w : World) (hv : w.cell? ⟨4, 0, none⟩ = some ev) (hev : ev = .nilIface ∨ ∃ te pe, ev = .iface te pe) :
    Calls Tryd.prog 59 #[.string s] w fun e w' => ∃ N, e = .returned (.tuple #[.int .i64 (0), .iface 103 (.pointer (some ⟨N, 0, none⟩))]) ∧ w.heap.size ≤ N ∧ w'.heap[N]? = some (.cells #[.string ⟨#[65, 116, 111, 105]⟩, .string s, ev] 121 (0, 0)) ∧ Below w.heap.size w w' := Any.strconv_Atoi_syntax Tryd.laysC172 s hlim h ev w hv hev
open Go.RowKit in
/-- strconv.Atoi, AT EVERY NUMERAL THAT NO int HOLDS ('.range'): THE GREATEST OR THE LEAST int, BY THE SIGN ('Lib.atoiSat'), AND AN ERROR THAT IS NOT nil: a *NumError in a new block N: {Func: "Atoi", Num: s's bytes, Err: what the variable ErrRange holds}. Of what was there nothing has turned. (LAID: no walk: one application.) -/
theorem Tryd.strconv_Atoi_range (s : ByteArray) (hlim : s.size ≤ 281474976710656) (h : Lib.atoiAll s.data.toList = .range) (ev : Value) (w : World) (hv : w.cell? ⟨5, 0, none⟩ = some ev) (hev : ev = .nilIface ∨ ∃ te pe, ev = .iface te pe) :
    Calls Tryd.prog 59 #[.string s] w fun e w' => ∃ N, e = .returned (.tuple #[.int .i64 (Lib.atoiSat s.data.toList), .iface 103 (.pointer (some ⟨N, 0, none⟩))]) ∧ w.heap.size ≤ N ∧ w'.heap[N]? = some (.cells #[.string ⟨#[65, 116, 111, 105]⟩, .string s, ev] 121 (0, 0)) ∧ Below w.heap.size w w' := Any.strconv_Atoi_range Tryd.laysC172 s hlim h ev w hv hev
open Go.RowKit in
theorem Tryd.strconv_Atoi_syntax_var (s : ByteArray) (hlim : s.size ≤ 281474976710656) (h : Lib.atoiAll s.data.toList = .«syntax») (tp : TypeId) (p : Value) (w : World) (hvar : w.var? Tryd.prog "strconv.ErrSyntax" = some #[.iface tp p]) :
    Calls Tryd.prog 59 #[.string s] w fun e w' => ∃ N, e = .returned (.tuple #[.int .i64 0, .iface 103 (.pointer (some ⟨N, 0, none⟩))]) ∧ w.heap.size ≤ N ∧ w'.heap[N]? = some (.cells #[.string ⟨#[65, 116, 111, 105]⟩, .string s, .iface tp p] 121 (0, 0)) ∧ Below w.heap.size w w' := Any.strconv_Atoi_syntax_var Tryd.laysC172 s hlim h tp p w hvar
open Go.RowKit in
theorem Tryd.strconv_Atoi_range_var (s : ByteArray) (hlim : s.size ≤ 281474976710656) (h : Lib.atoiAll s.data.toList = .range) (tp : TypeId) (p : Value) (w : World) (hvar : w.var? Tryd.prog "strconv.ErrRange" = some #[.iface tp p]) :
    Calls Tryd.prog 59 #[.string s] w fun e w' => ∃ N, e = .returned (.tuple #[.int .i64 (Lib.atoiSat s.data.toList), .iface 103 (.pointer (some ⟨N, 0, none⟩))]) ∧ w.heap.size ≤ N ∧ w'.heap[N]? = some (.cells #[.string ⟨#[65, 116, 111, 105]⟩, .string s, .iface tp p] 121 (0, 0)) ∧ Below w.heap.size w w' := Any.strconv_Atoi_range_var Tryd.laysC172 s hlim h tp p w hvar
open Go.RowKit in
/-- internal/strconv.ParseUint("", base, bitSize): (0, ErrSyntax): the first test of the text. The world is as it was. (LAID: no walk: one application.) -/
theorem Tryd.internal_strconv_ParseUint_empty (base bits : Int) (w : World) :
    Calls Tryd.prog 94 #[.string ⟨#[]⟩, .int .i64 base, .int .i64 bits] w fun e w' => e = .returned (.tuple #[.int .u64 0, .iface 100 (.int .i64 2)]) ∧ w' = w := Any.internal_strconv_ParseUint_empty Tryd.lays287 base bits w
open Go.RowKit in
/-- internal/strconv.ParseUint(s, 10, 64), s NOT EMPTY: 'Lib.parseUint10 0' OF ITS BYTES: the number; or (0, ErrSyntax); or (the greatest uint64, ErrRange). The world behind the call: the one new row that '[]byte(s)' lays. (LAID: no walk: one application.) -/
theorem Tryd.internal_strconv_ParseUint_10_b64 (t : ByteArray) (hne : t.size ≠ 0) (hmax : t.size ≤ 9223372036854775806) (w : World) :
    Calls Tryd.prog 94 #[.string t, .int .i64 10, .int .i64 64] w fun e w' => e = .returned (Lib.uintTuple 100 (Lib.parseUint10 0 t.data.toList)) ∧ w' = Lib.bytesWorld w 5 t := Any.internal_strconv_ParseUint_10_b64 Tryd.lays287 t hne hmax w
open Go.RowKit in
/-- internal/strconv.ParseUint(s, 10, 32), s NOT EMPTY: 'Lib.parseUintM 4294967295 0' OF ITS BYTES: the number; or (0, ErrSyntax); or (the greatest uint32, ErrRange). The world behind the call: the one new row that '[]byte(s)' lays. (LAID: no walk: one application.) -/
theorem Tryd.internal_strconv_ParseUint_10_b32 (t : ByteArray) (hne : t.size ≠ 0) (hmax : t.size ≤ 9223372036854775806) (w : World) :
    Calls Tryd.prog 94 #[.string t, .int .i64 10, .int .i64 32] w fun e w' => e = .returned (Lib.uintTupleM 100 4294967295 (Lib.parseUintM 4294967295 0 t.data.toList)) ∧ w' = Lib.bytesWorld w 5 t := Any.internal_strconv_ParseUint_10_b32 Tryd.lays287 t hne hmax w
open Go.RowKit in
/-- internal/strconv.ParseUint(s, 10, 16), s NOT EMPTY: 'Lib.parseUintM 65535 0' OF ITS BYTES: the number; or (0, ErrSyntax); or (the greatest uint16, ErrRange). The world behind the call: the one new row that '[]byte(s)' lays. (LAID: no walk: one application.) -/
theorem Tryd.internal_strconv_ParseUint_10_b16 (t : ByteArray) (hne : t.size ≠ 0) (hmax : t.size ≤ 9223372036854775806) (w : World) :
    Calls Tryd.prog 94 #[.string t, .int .i64 10, .int .i64 16] w fun e w' => e = .returned (Lib.uintTupleM 100 65535 (Lib.parseUintM 65535 0 t.data.toList)) ∧ w' = Lib.bytesWorld w 5 t := Any.internal_strconv_ParseUint_10_b16 Tryd.lays287 t hne hmax w
open Go.RowKit in
/-- internal/strconv.ParseUint(s, 10, 8), s NOT EMPTY: 'Lib.parseUintM 255 0' OF ITS BYTES: the number; or (0, ErrSyntax); or (the greatest uint8, ErrRange). The world behind the call: the one new row that '[]byte(s)' lays. (LAID: no walk: one application.) -/
theorem Tryd.internal_strconv_ParseUint_10_b8 (t : ByteArray) (hne : t.size ≠ 0) (hmax : t.size ≤ 9223372036854775806) (w : World) :
    Calls Tryd.prog 94 #[.string t, .int .i64 10, .int .i64 8] w fun e w' => e = .returned (Lib.uintTupleM 100 255 (Lib.parseUintM 255 0 t.data.toList)) ∧ w' = Lib.bytesWorld w 5 t := Any.internal_strconv_ParseUint_10_b8 Tryd.lays287 t hne hmax w
open Go.RowKit in
/-- internal/strconv.ParseUint(s, 10, 0): 'Lib.parseUintB 64' OF ITS BYTES. The world: as it was (the empty string), or with the one new row that '[]byte(s)' lays. (LAID: no walk: one application.) -/
theorem Tryd.internal_strconv_ParseUint_10_at0 (t : ByteArray) (hmax : t.size ≤ 9223372036854775806) (w : World) :
    Calls Tryd.prog 94 #[.string t, .int .i64 10, .int .i64 0] w fun e w' => e = .returned (Lib.uintTupleM 100 18446744073709551615 (Lib.parseUintB 64 t.data.toList)) ∧ (w' = w ∨ w' = Lib.bytesWorld w 5 t) := Any.internal_strconv_ParseUint_10_at0 Tryd.lays287 t hmax w
open Go.RowKit in
/-- internal/strconv.ParseUint(s, 10, 64): 'Lib.parseUintB 64' OF ITS BYTES. The world: as it was (the empty string), or with the one new row that '[]byte(s)' lays. (LAID: no walk: one application.) -/
theorem Tryd.internal_strconv_ParseUint_10_at64 (t : ByteArray) (hmax : t.size ≤ 9223372036854775806) (w : World) :
    Calls Tryd.prog 94 #[.string t, .int .i64 10, .int .i64 64] w fun e w' => e = .returned (Lib.uintTupleM 100 18446744073709551615 (Lib.parseUintB 64 t.data.toList)) ∧ (w' = w ∨ w' = Lib.bytesWorld w 5 t) := Any.internal_strconv_ParseUint_10_at64 Tryd.lays287 t hmax w
open Go.RowKit in
/-- internal/strconv.ParseUint(s, 10, 32): 'Lib.parseUintB 32' OF ITS BYTES. The world: as it was (the empty string), or with the one new row that '[]byte(s)' lays. (LAID: no walk: one application.) -/
theorem Tryd.internal_strconv_ParseUint_10_at32 (t : ByteArray) (hmax : t.size ≤ 9223372036854775806) (w : World) :
    Calls Tryd.prog 94 #[.string t, .int .i64 10, .int .i64 32] w fun e w' => e = .returned (Lib.uintTupleM 100 4294967295 (Lib.parseUintB 32 t.data.toList)) ∧ (w' = w ∨ w' = Lib.bytesWorld w 5 t) := Any.internal_strconv_ParseUint_10_at32 Tryd.lays287 t hmax w
open Go.RowKit in
/-- internal/strconv.ParseUint(s, 10, 16): 'Lib.parseUintB 16' OF ITS BYTES. The world: as it was (the empty string), or with the one new row that '[]byte(s)' lays. (LAID: no walk: one application.) -/
theorem Tryd.internal_strconv_ParseUint_10_at16 (t : ByteArray) (hmax : t.size ≤ 9223372036854775806) (w : World) :
    Calls Tryd.prog 94 #[.string t, .int .i64 10, .int .i64 16] w fun e w' => e = .returned (Lib.uintTupleM 100 65535 (Lib.parseUintB 16 t.data.toList)) ∧ (w' = w ∨ w' = Lib.bytesWorld w 5 t) := Any.internal_strconv_ParseUint_10_at16 Tryd.lays287 t hmax w
open Go.RowKit in
/-- internal/strconv.ParseUint(s, 10, 8): 'Lib.parseUintB 8' OF ITS BYTES. The world: as it was (the empty string), or with the one new row that '[]byte(s)' lays. (LAID: no walk: one application.) -/
theorem Tryd.internal_strconv_ParseUint_10_at8 (t : ByteArray) (hmax : t.size ≤ 9223372036854775806) (w : World) :
    Calls Tryd.prog 94 #[.string t, .int .i64 10, .int .i64 8] w fun e w' => e = .returned (Lib.uintTupleM 100 255 (Lib.parseUintB 8 t.data.toList)) ∧ (w' = w ∨ w' = Lib.bytesWorld w 5 t) := Any.internal_strconv_ParseUint_10_at8 Tryd.lays287 t hmax w
open Go.RowKit in
/-- internal/strconv.ParseInt(s, 10, 64), s NOT EMPTY: 'Lib.parseIntB 64' OF ITS BYTES: (the number, nil); (0, ErrSyntax); (the greatest or the least int64 by the sign, ErrRange). The world: as it was, or with the one new row that '[]byte(..)' lays. (LAID: no walk: one application.) -/
theorem Tryd.internal_strconv_ParseInt_10_at64 (s : ByteArray) (hne : s.size ≠ 0) (hmax : s.size ≤ 9223372036854775806) (w : World) :
    Calls Tryd.prog 82 #[.string s, .int .i64 10, .int .i64 64] w fun e w' => e = .returned (Lib.intTuple 100 (Lib.intSat 64 s.data.toList) (Lib.parseIntB 64 s.data.toList)) ∧ (w' = w ∨ ∃ t, w' = Lib.bytesWorld w 5 t) := Any.internal_strconv_ParseInt_10_at64 Tryd.laysC247 s hne hmax w
open Go.RowKit in
/-- internal/strconv.ParseInt(s, 10, 32), s NOT EMPTY: 'Lib.parseIntB 32' OF ITS BYTES: (the number, nil); (0, ErrSyntax); (the greatest or the least int32 by the sign, ErrRange). The world: as it was, or with the one new row that '[]byte(..)' lays. (LAID: no walk: one application.) -/
theorem Tryd.internal_strconv_ParseInt_10_at32 (s : ByteArray) (hne : s.size ≠ 0) (hmax : s.size ≤ 9223372036854775806) (w : World) :
    Calls Tryd.prog 82 #[.string s, .int .i64 10, .int .i64 32] w fun e w' => e = .returned (Lib.intTuple 100 (Lib.intSat 32 s.data.toList) (Lib.parseIntB 32 s.data.toList)) ∧ (w' = w ∨ ∃ t, w' = Lib.bytesWorld w 5 t) := Any.internal_strconv_ParseInt_10_at32 Tryd.laysC247 s hne hmax w
open Go.RowKit in
/-- internal/strconv.ParseInt(s, 10, 16), s NOT EMPTY: 'Lib.parseIntB 16' OF ITS BYTES: (the number, nil); (0, ErrSyntax); (the greatest or the least int16 by the sign, ErrRange). The world: as it was, or with the one new row that '[]byte(..)' lays. (LAID: no walk: one application.) -/
theorem Tryd.internal_strconv_ParseInt_10_at16 (s : ByteArray) (hne : s.size ≠ 0) (hmax : s.size ≤ 9223372036854775806) (w : World) :
    Calls Tryd.prog 82 #[.string s, .int .i64 10, .int .i64 16] w fun e w' => e = .returned (Lib.intTuple 100 (Lib.intSat 16 s.data.toList) (Lib.parseIntB 16 s.data.toList)) ∧ (w' = w ∨ ∃ t, w' = Lib.bytesWorld w 5 t) := Any.internal_strconv_ParseInt_10_at16 Tryd.laysC247 s hne hmax w
open Go.RowKit in
/-- internal/strconv.ParseInt(s, 10, 8), s NOT EMPTY: 'Lib.parseIntB 8' OF ITS BYTES: (the number, nil); (0, ErrSyntax); (the greatest or the least int8 by the sign, ErrRange). The world: as it was, or with the one new row that '[]byte(..)' lays. (LAID: no walk: one application.) -/
theorem Tryd.internal_strconv_ParseInt_10_at8 (s : ByteArray) (hne : s.size ≠ 0) (hmax : s.size ≤ 9223372036854775806) (w : World) :
    Calls Tryd.prog 82 #[.string s, .int .i64 10, .int .i64 8] w fun e w' => e = .returned (Lib.intTuple 100 (Lib.intSat 8 s.data.toList) (Lib.parseIntB 8 s.data.toList)) ∧ (w' = w ∨ ∃ t, w' = Lib.bytesWorld w 5 t) := Any.internal_strconv_ParseInt_10_at8 Tryd.laysC247 s hne hmax w
open Go.RowKit in
/-- internal/strconv.ParseInt(s, 10, 0), AT EVERY STRING: 'Lib.parseIntB 64' OF ITS BYTES. (LAID: no walk: one application.) -/
theorem Tryd.internal_strconv_ParseInt_10_all0 (s : ByteArray) (hmax : s.size ≤ 9223372036854775806) (w : World) :
    Calls Tryd.prog 82 #[.string s, .int .i64 10, .int .i64 0] w fun e w' => e = .returned (Lib.intTuple 100 (Lib.intSat 64 s.data.toList) (Lib.parseIntB 64 s.data.toList)) ∧ (w' = w ∨ ∃ t, w' = Lib.bytesWorld w 5 t) := Any.internal_strconv_ParseInt_10_all0 Tryd.laysC247 s hmax w
open Go.RowKit in
/-- internal/strconv.ParseInt(s, 10, 64), AT EVERY STRING: 'Lib.parseIntB 64' OF ITS BYTES. (LAID: no walk: one application.) -/
theorem Tryd.internal_strconv_ParseInt_10_all64 (s : ByteArray) (hmax : s.size ≤ 9223372036854775806) (w : World) :
    Calls Tryd.prog 82 #[.string s, .int .i64 10, .int .i64 64] w fun e w' => e = .returned (Lib.intTuple 100 (Lib.intSat 64 s.data.toList) (Lib.parseIntB 64 s.data.toList)) ∧ (w' = w ∨ ∃ t, w' = Lib.bytesWorld w 5 t) := Any.internal_strconv_ParseInt_10_all64 Tryd.laysC247 s hmax w
open Go.RowKit in
/-- internal/strconv.ParseInt(s, 10, 32), AT EVERY STRING: 'Lib.parseIntB 32' OF ITS BYTES. (LAID: no walk: one application.) -/
theorem Tryd.internal_strconv_ParseInt_10_all32 (s : ByteArray) (hmax : s.size ≤ 9223372036854775806) (w : World) :
    Calls Tryd.prog 82 #[.string s, .int .i64 10, .int .i64 32] w fun e w' => e = .returned (Lib.intTuple 100 (Lib.intSat 32 s.data.toList) (Lib.parseIntB 32 s.data.toList)) ∧ (w' = w ∨ ∃ t, w' = Lib.bytesWorld w 5 t) := Any.internal_strconv_ParseInt_10_all32 Tryd.laysC247 s hmax w
open Go.RowKit in
/-- internal/strconv.ParseInt(s, 10, 16), AT EVERY STRING: 'Lib.parseIntB 16' OF ITS BYTES. (LAID: no walk: one application.) -/
theorem Tryd.internal_strconv_ParseInt_10_all16 (s : ByteArray) (hmax : s.size ≤ 9223372036854775806) (w : World) :
    Calls Tryd.prog 82 #[.string s, .int .i64 10, .int .i64 16] w fun e w' => e = .returned (Lib.intTuple 100 (Lib.intSat 16 s.data.toList) (Lib.parseIntB 16 s.data.toList)) ∧ (w' = w ∨ ∃ t, w' = Lib.bytesWorld w 5 t) := Any.internal_strconv_ParseInt_10_all16 Tryd.laysC247 s hmax w
open Go.RowKit in
/-- internal/strconv.ParseInt(s, 10, 8), AT EVERY STRING: 'Lib.parseIntB 8' OF ITS BYTES. (LAID: no walk: one application.) -/
theorem Tryd.internal_strconv_ParseInt_10_all8 (s : ByteArray) (hmax : s.size ≤ 9223372036854775806) (w : World) :
    Calls Tryd.prog 82 #[.string s, .int .i64 10, .int .i64 8] w fun e w' => e = .returned (Lib.intTuple 100 (Lib.intSat 8 s.data.toList) (Lib.parseIntB 8 s.data.toList)) ∧ (w' = w ∨ ∃ t, w' = Lib.bytesWorld w 5 t) := Any.internal_strconv_ParseInt_10_all8 Tryd.laysC247 s hmax w
def Tryd.lays217_ren : Go.Shelf.Ren := ⟨fun | 217 => 73 | 266 => 87 | n => n, fun | 9 => 9 | 5 => 5 | 3 => 3 | n => n, fun | n => n⟩
theorem Tryd.lays217 : Go.Proofs.Lays.n217 Tryd.prog Tryd.lays217_ren := {
  mixed := by kernel_rfl
  f217 := Tryd.func73.trans (congrArg some (by kernel_rfl))
  f266 := Tryd.func87.trans (congrArg some (by kernel_rfl))
  t3 := Tryd.underlying3
  a3 := Tryd.isAgg3
  z3 := Tryd.sizeOf3
  v3 := Tryd.zeroValue3
  t5 := Tryd.underlying5
  a5 := Tryd.isAgg5
  z5 := Tryd.sizeOf5
  v5 := Tryd.zeroValue5
  t9 := Tryd.underlying9
  a9 := Tryd.isAgg9
  z9 := Tryd.sizeOf9
  v9 := Tryd.zeroValue9 }
open Go.RowKit Go.Lib in
/-- internal/stringslite.IndexByte (what strings.IndexByte calls): IT RETURNS 'Lib.indexByte s c'; the world is as it was. (LAID: no walk: one application.) -/
theorem Tryd.stringslite_IndexByte (s : ByteArray) (c : Int) (w : World) :
    Calls Tryd.prog 73 #[.string s, .int .u8 c] w fun e w' => e = .returned (.int .i64 (Lib.indexByte s.data.toList c.toNat.toUInt8)) ∧ w' = w := Any.stringslite_IndexByte Tryd.lays217 s c w
def Tryd.lays224_ren : Go.Shelf.Ren := ⟨fun | 224 => 80 | n => n, fun | 3 => 3 | n => n, fun | n => n⟩
theorem Tryd.lays224 : Go.Proofs.Lays.n224 Tryd.prog Tryd.lays224_ren := {
  mixed := by kernel_rfl
  f224 := Tryd.func80.trans (congrArg some (by kernel_rfl))
  t3 := Tryd.underlying3
  a3 := Tryd.isAgg3
  z3 := Tryd.sizeOf3
  v3 := Tryd.zeroValue3 }
open Go.RowKit Go.Lib in
/-- internal/bytealg.Cutover: "Cutover reports the number of failures of IndexByte we should tolerate before switching over to Index. n is the number of bytes processed so far.": on amd64: (n + 16) / 8. (LAID: no walk: one application.) -/
theorem Tryd.bytealg_Cutover (n : Int) (h0 : 0 ≤ n) (h1 : n < 4611686018427387904) (w : World) :
    Calls Tryd.prog 80 #[.int .i64 n] w fun e w' => e = .returned (.int .i64 ((n + 16) / 8)) ∧ w' = w := Any.bytealg_Cutover Tryd.lays224 n h0 h1 w
def Tryd.lays314_ren : Go.Shelf.Ren := ⟨fun | 314 => 93 | n => n, fun | 9 => 9 | 51 => 108 | 3 => 3 | 4 => 4 | 5 => 5 | 46 => 99 | n => n, fun | n => n⟩
theorem Tryd.lays314 : Go.Proofs.Lays.n314 Tryd.prog Tryd.lays314_ren := {
  mixed := by kernel_rfl
  f314 := Tryd.func93.trans (congrArg some (by kernel_rfl))
  t3 := Tryd.underlying3
  a3 := Tryd.isAgg3
  z3 := Tryd.sizeOf3
  v3 := Tryd.zeroValue3
  t4 := Tryd.underlying4
  a4 := Tryd.isAgg4
  z4 := Tryd.sizeOf4
  v4 := Tryd.zeroValue4
  t5 := Tryd.underlying5
  a5 := Tryd.isAgg5
  z5 := Tryd.sizeOf5
  v5 := Tryd.zeroValue5
  t9 := Tryd.underlying9
  a9 := Tryd.isAgg9
  z9 := Tryd.sizeOf9
  v9 := Tryd.zeroValue9
  t46 := Tryd.underlying99
  a46 := Tryd.isAgg99
  z46 := Tryd.sizeOf99
  v46 := Tryd.zeroValue99
  t51 := Tryd.underlying108
  a51 := Tryd.isAgg108
  z51 := Tryd.sizeOf108
  v51 := Tryd.zeroValue108 }
open Go.RowKit Go.Lib in
/-- hashStr: "returns the hash and the appropriate multiplicative factor for use in Rabin-Karp algorithm": THE HASH OF ALL OF sep, AND 16777619 ^ len(sep), both in uint32. (LAID: no walk: one application.) -/
theorem Tryd.bytealg_hashStr (sep : ByteArray) (hs : sep.size < 4294967281) (w : World) :
    Calls Tryd.prog 93 #[.string sep] w fun e w' => e = .returned (.tuple #[.int .u32 (RK.H sep.data.toList % 4294967296), .int .u32 (16777619 ^ sep.size % 4294967296)]) ∧ w' = w := Any.bytealg_hashStr Tryd.lays314 sep hs w
def Tryd.lays267_ren : Go.Shelf.Ren := ⟨fun | 267 => 81 | 314 => 93 | n => n, fun | 9 => 9 | 3 => 3 | 146 => 115 | 51 => 108 | 4 => 4 | 5 => 5 | 46 => 99 | n => n, fun | n => n⟩
theorem Tryd.lays267 : Go.Proofs.Lays.n267 Tryd.prog Tryd.lays267_ren := {
  mixed := by kernel_rfl
  f267 := Tryd.func81.trans (congrArg some (by kernel_rfl))
  f314 := Tryd.func93.trans (congrArg some (by kernel_rfl))
  t3 := Tryd.underlying3
  a3 := Tryd.isAgg3
  z3 := Tryd.sizeOf3
  v3 := Tryd.zeroValue3
  t4 := Tryd.underlying4
  a4 := Tryd.isAgg4
  z4 := Tryd.sizeOf4
  v4 := Tryd.zeroValue4
  t5 := Tryd.underlying5
  a5 := Tryd.isAgg5
  z5 := Tryd.sizeOf5
  v5 := Tryd.zeroValue5
  t9 := Tryd.underlying9
  a9 := Tryd.isAgg9
  z9 := Tryd.sizeOf9
  v9 := Tryd.zeroValue9
  t46 := Tryd.underlying99
  a46 := Tryd.isAgg99
  z46 := Tryd.sizeOf99
  v46 := Tryd.zeroValue99
  t51 := Tryd.underlying108
  a51 := Tryd.isAgg108
  z51 := Tryd.sizeOf108
  v51 := Tryd.zeroValue108
  t146 := Tryd.underlying115
  a146 := Tryd.isAgg115
  z146 := Tryd.sizeOf115
  v146 := Tryd.zeroValue115 }
open Go.RowKit Go.Lib in
theorem Tryd.bytealg_IndexRabinKarp (s sep : ByteArray) (h1 : 1 ≤ sep.size) (h2 : sep.size ≤ s.size) (hs : s.size < 4294967281) (w : World) :
    Calls Tryd.prog 81 #[.string s, .string sep] w fun e w' => e = .returned (.int .i64 (Lib.index s.data.toList sep.data.toList)) ∧ w' = w := Any.bytealg_IndexRabinKarp Tryd.lays267 s sep h1 h2 hs w
def Tryd.lays219_ren : Go.Shelf.Ren := ⟨fun | 219 => 69 | 217 => 73 | 225 => 79 | 224 => 80 | 267 => 81 | 266 => 87 | 314 => 93 | n => n, fun | 9 => 9 | 3 => 3 | 4 => 4 | 5 => 5 | 46 => 99 | 146 => 115 | 51 => 108 | n => n, fun | 1 => 0 | n => n⟩
theorem Tryd.lays219 : Go.Proofs.Lays.n219 Tryd.prog Tryd.lays219_ren := {
  mixed := by kernel_rfl
  f217 := Tryd.func73.trans (congrArg some (by kernel_rfl))
  f219 := Tryd.func69.trans (congrArg some (by kernel_rfl))
  f224 := Tryd.func80.trans (congrArg some (by kernel_rfl))
  f225 := Tryd.func79.trans (congrArg some (by kernel_rfl))
  f266 := Tryd.func87.trans (congrArg some (by kernel_rfl))
  f267 := Tryd.func81.trans (congrArg some (by kernel_rfl))
  f314 := Tryd.func93.trans (congrArg some (by kernel_rfl))
  t3 := Tryd.underlying3
  a3 := Tryd.isAgg3
  z3 := Tryd.sizeOf3
  v3 := Tryd.zeroValue3
  t4 := Tryd.underlying4
  a4 := Tryd.isAgg4
  z4 := Tryd.sizeOf4
  v4 := Tryd.zeroValue4
  t5 := Tryd.underlying5
  a5 := Tryd.isAgg5
  z5 := Tryd.sizeOf5
  v5 := Tryd.zeroValue5
  t9 := Tryd.underlying9
  a9 := Tryd.isAgg9
  z9 := Tryd.sizeOf9
  v9 := Tryd.zeroValue9
  t46 := Tryd.underlying99
  a46 := Tryd.isAgg99
  z46 := Tryd.sizeOf99
  v46 := Tryd.zeroValue99
  t51 := Tryd.underlying108
  a51 := Tryd.isAgg108
  z51 := Tryd.sizeOf108
  v51 := Tryd.zeroValue108
  t146 := Tryd.underlying115
  a146 := Tryd.isAgg115
  z146 := Tryd.sizeOf115
  v146 := Tryd.zeroValue115
  g1 := by kernel_rfl }
open Go.RowKit Go.Lib in
/-- internal/stringslite.Index (what strings.Index calls) AT A substr OF ONE BYTE c: IT RETURNS 'Lib.indexByte s c'; the world is as it was. (LAID: no walk: one application.) -/
theorem Tryd.stringslite_Index_one (s : ByteArray) (c : UInt8) (w : World) :
    Calls Tryd.prog 69 #[.string s, .string ⟨#[c]⟩] w fun e w' => e = .returned (.int .i64 (Lib.indexByte s.data.toList c)) ∧ w' = w := Any.stringslite_Index_one Tryd.lays219 s c w
open Go.RowKit Go.Lib in
/-- internal/stringslite.Index (what strings.Index calls) AT A substr OF WHATEVER LENGTH: IT RETURNS 'Lib.index s substr'; the world is as it was. 'm': what internal/bytealg.MaxLen holds: whatever. (LAID: no walk: one application.) -/
theorem Tryd.stringslite_Index (s sub : ByteArray) (m : Int) (w : World) (hs : s.size < 4294967281) (hm : w.cell? ⟨0, 0, none⟩ = some (.int .i64 m)) :
    Calls Tryd.prog 69 #[.string s, .string sub] w fun e w' => e = .returned (.int .i64 (Lib.index s.data.toList sub.data.toList)) ∧ w' = w := Any.stringslite_Index Tryd.lays219 s sub m w hs hm
def Tryd.lays143_ren : Go.Shelf.Ren := ⟨fun | 143 => 58 | 219 => 69 | 217 => 73 | 225 => 79 | 224 => 80 | 267 => 81 | 266 => 87 | 314 => 93 | n => n, fun | 9 => 9 | 3 => 3 | 4 => 4 | 5 => 5 | 46 => 99 | 146 => 115 | 51 => 108 | n => n, fun | 1 => 0 | n => n⟩
theorem Tryd.lays143 : Go.Proofs.Lays.n143 Tryd.prog Tryd.lays143_ren := {
  mixed := by kernel_rfl
  f143 := Tryd.func58.trans (congrArg some (by kernel_rfl))
  f217 := Tryd.func73.trans (congrArg some (by kernel_rfl))
  f219 := Tryd.func69.trans (congrArg some (by kernel_rfl))
  f224 := Tryd.func80.trans (congrArg some (by kernel_rfl))
  f225 := Tryd.func79.trans (congrArg some (by kernel_rfl))
  f266 := Tryd.func87.trans (congrArg some (by kernel_rfl))
  f267 := Tryd.func81.trans (congrArg some (by kernel_rfl))
  f314 := Tryd.func93.trans (congrArg some (by kernel_rfl))
  t3 := Tryd.underlying3
  a3 := Tryd.isAgg3
  z3 := Tryd.sizeOf3
  v3 := Tryd.zeroValue3
  t4 := Tryd.underlying4
  a4 := Tryd.isAgg4
  z4 := Tryd.sizeOf4
  v4 := Tryd.zeroValue4
  t5 := Tryd.underlying5
  a5 := Tryd.isAgg5
  z5 := Tryd.sizeOf5
  v5 := Tryd.zeroValue5
  t9 := Tryd.underlying9
  a9 := Tryd.isAgg9
  z9 := Tryd.sizeOf9
  v9 := Tryd.zeroValue9
  t46 := Tryd.underlying99
  a46 := Tryd.isAgg99
  z46 := Tryd.sizeOf99
  v46 := Tryd.zeroValue99
  t51 := Tryd.underlying108
  a51 := Tryd.isAgg108
  z51 := Tryd.sizeOf108
  v51 := Tryd.zeroValue108
  t146 := Tryd.underlying115
  a146 := Tryd.isAgg115
  z146 := Tryd.sizeOf115
  v146 := Tryd.zeroValue115
  g1 := by kernel_rfl }
open Go.RowKit Go.Lib in
/-- strings.Index: "Index returns the index of the first instance of substr in s, or -1 if substr is not present in s.": AT A substr OF ONE BYTE c: IT RETURNS 'Lib.indexByte s c'; the world is as it was. (LAID: no walk: one application.) -/
theorem Tryd.strings_Index_one (s : ByteArray) (c : UInt8) (w : World) :
    Calls Tryd.prog 58 #[.string s, .string ⟨#[c]⟩] w fun e w' => e = .returned (.int .i64 (Lib.indexByte s.data.toList c)) ∧ w' = w := Any.strings_Index_one Tryd.lays143 s c w
open Go.RowKit Go.Lib in
/-- strings.Index: "Index returns the index of the first instance of substr in s, or -1 if substr is not present in s.": IT RETURNS 'Lib.index s substr'; the world is as it was. (LAID: no walk: one application.) -/
theorem Tryd.strings_Index (s sub : ByteArray) (m : Int) (w : World) (hs : s.size < 4294967281) (hm : w.cell? ⟨0, 0, none⟩ = some (.int .i64 m)) :
    Calls Tryd.prog 58 #[.string s, .string sub] w fun e w' => e = .returned (.int .i64 (Lib.index s.data.toList sub.data.toList)) ∧ w' = w := Any.strings_Index Tryd.lays143 s sub m w hs hm
def Tryd.lays138_ren : Go.Shelf.Ren := ⟨fun | 138 => 57 | 195 => 66 | 218 => 68 | 143 => 58 | 219 => 69 | 217 => 73 | 225 => 79 | 224 => 80 | 267 => 81 | 266 => 87 | 314 => 93 | n => n, fun | 9 => 9 | 3 => 3 | 4 => 4 | 5 => 5 | 0 => 0 | 46 => 99 | 146 => 115 | 51 => 108 | n => n, fun | 1 => 0 | n => n⟩
theorem Tryd.lays138 : Go.Proofs.Lays.n138 Tryd.prog Tryd.lays138_ren := {
  mixed := by kernel_rfl
  f138 := Tryd.func57.trans (congrArg some (by kernel_rfl))
  f143 := Tryd.func58.trans (congrArg some (by kernel_rfl))
  f195 := Tryd.func66.trans (congrArg some (by kernel_rfl))
  f217 := Tryd.func73.trans (congrArg some (by kernel_rfl))
  f218 := Tryd.func68.trans (congrArg some (by kernel_rfl))
  f219 := Tryd.func69.trans (congrArg some (by kernel_rfl))
  f224 := Tryd.func80.trans (congrArg some (by kernel_rfl))
  f225 := Tryd.func79.trans (congrArg some (by kernel_rfl))
  f266 := Tryd.func87.trans (congrArg some (by kernel_rfl))
  f267 := Tryd.func81.trans (congrArg some (by kernel_rfl))
  f314 := Tryd.func93.trans (congrArg some (by kernel_rfl))
  t0 := Tryd.underlying0
  a0 := Tryd.isAgg0
  z0 := Tryd.sizeOf0
  v0 := Tryd.zeroValue0
  t3 := Tryd.underlying3
  a3 := Tryd.isAgg3
  z3 := Tryd.sizeOf3
  v3 := Tryd.zeroValue3
  t4 := Tryd.underlying4
  a4 := Tryd.isAgg4
  z4 := Tryd.sizeOf4
  v4 := Tryd.zeroValue4
  t5 := Tryd.underlying5
  a5 := Tryd.isAgg5
  z5 := Tryd.sizeOf5
  v5 := Tryd.zeroValue5
  t9 := Tryd.underlying9
  a9 := Tryd.isAgg9
  z9 := Tryd.sizeOf9
  v9 := Tryd.zeroValue9
  t46 := Tryd.underlying99
  a46 := Tryd.isAgg99
  z46 := Tryd.sizeOf99
  v46 := Tryd.zeroValue99
  t51 := Tryd.underlying108
  a51 := Tryd.isAgg108
  z51 := Tryd.sizeOf108
  v51 := Tryd.zeroValue108
  t146 := Tryd.underlying115
  a146 := Tryd.isAgg115
  z146 := Tryd.sizeOf115
  v146 := Tryd.zeroValue115
  g1 := by kernel_rfl }
open Go.RowKit Go.Lib in
/-- strings.Count AT A substr OF ONE BYTE ('hp'): "Count counts the number of non-overlapping instances of substr in s.": IT RETURNS 'Lib.countByte s (that byte)'; the world is as it was. ✋ NO CONTRACT HERE YET at an empty substr (utf8.RuneCountInString) or at a longer one (a loop over strings.Index). (LAID: no walk: one application.) -/
theorem Tryd.strings_Count_one (s : ByteArray) (c : UInt8) (w : World) :
    Calls Tryd.prog 57 #[.string s, .string ⟨#[c]⟩] w fun e w' => e = .returned (.int .i64 (Lib.countByte s.data.toList c)) ∧ w' = w := Any.strings_Count_one Tryd.lays138 s c w
open Go.RowKit Go.Lib in
/-- strings.Count AT A substr OF TWO BYTES OR MORE: "Count counts the number of non-overlapping instances of substr in s.": IT RETURNS 'Lib.count s substr'; the world is as it was. (LAID: no walk: one application.) -/
theorem Tryd.strings_Count (s sub : ByteArray) (m : Int) (w : World) (hs : s.size < 4294967281) (hm : w.cell? ⟨0, 0, none⟩ = some (.int .i64 m)) (h2 : 2 ≤ sub.size) :
    Calls Tryd.prog 57 #[.string s, .string sub] w fun e w' => e = .returned (.int .i64 (Lib.countB s sub)) ∧ w' = w := Any.strings_Count Tryd.lays138 s sub m w hs hm h2
def Tryd.laysM219_ren : Go.Shelf.Ren := ⟨fun | 219 => 69 | 217 => 73 | 225 => 79 | 224 => 80 | 267 => 81 | 266 => 87 | 314 => 93 | n => n, fun | 9 => 9 | 3 => 3 | 4 => 4 | 5 => 5 | 46 => 99 | 146 => 115 | 51 => 108 | n => n, fun | 1 => 0 | n => n⟩
theorem Tryd.laysM219 : Go.Proofs.LaysM.n219 Tryd.prog Tryd.laysM219_ren := {
  mixed := by kernel_rfl
  f217 := Tryd.func73.trans (congrArg some (by kernel_rfl))
  f219 := Tryd.func69.trans (congrArg some (by kernel_rfl))
  f224 := Tryd.func80.trans (congrArg some (by kernel_rfl))
  f225 := Tryd.func79.trans (congrArg some (by kernel_rfl))
  f266 := Tryd.func87.trans (congrArg some (by kernel_rfl))
  f267 := Tryd.func81.trans (congrArg some (by kernel_rfl))
  f314 := Tryd.func93.trans (congrArg some (by kernel_rfl))
  t3 := Tryd.underlying3
  a3 := Tryd.isAgg3
  z3 := Tryd.sizeOf3
  v3 := Tryd.zeroValue3
  t4 := Tryd.underlying4
  a4 := Tryd.isAgg4
  z4 := Tryd.sizeOf4
  v4 := Tryd.zeroValue4
  t5 := Tryd.underlying5
  a5 := Tryd.isAgg5
  z5 := Tryd.sizeOf5
  v5 := Tryd.zeroValue5
  t9 := Tryd.underlying9
  a9 := Tryd.isAgg9
  z9 := Tryd.sizeOf9
  v9 := Tryd.zeroValue9
  t46 := Tryd.underlying99
  a46 := Tryd.isAgg99
  z46 := Tryd.sizeOf99
  v46 := Tryd.zeroValue99
  t51 := Tryd.underlying108
  a51 := Tryd.isAgg108
  z51 := Tryd.sizeOf108
  v51 := Tryd.zeroValue108
  t146 := Tryd.underlying115
  a146 := Tryd.isAgg115
  z146 := Tryd.sizeOf115
  v146 := Tryd.zeroValue115
  g1 := by kernel_rfl
  i3 := by kernel_rfl
  i4 := by kernel_rfl
  i5 := by kernel_rfl
  i9 := by kernel_rfl
  i46 := by kernel_rfl
  i51 := by kernel_rfl
  i146 := by kernel_rfl
  m1 := by kernel_rfl
  s1_3 := fun w h => Go.Proofs.cell_of_shapedOpen_int (zero := #[.int .i64 0]) (t := 3) h (of_decide_eq_true (by kernel_rfl)) (by kernel_rfl) rfl (by kernel_rfl) (by kernel_rfl) Tryd.underlying3 }
open Go.RowKit Go.Lib in
theorem Tryd.stringslite_Index_shaped (s sub : ByteArray) (w : World) (h : w.ShapedOpen Tryd.prog) (hs : s.size < 4294967281) :
    Calls Tryd.prog 69 #[.string s, .string sub] w fun e w' => e = .returned (.int .i64 (Lib.index s.data.toList sub.data.toList)) ∧ w' = w := Any.stringslite_Index_shaped Tryd.laysM219 s sub w h hs
def Tryd.laysM143_ren : Go.Shelf.Ren := ⟨fun | 143 => 58 | 219 => 69 | 217 => 73 | 225 => 79 | 224 => 80 | 267 => 81 | 266 => 87 | 314 => 93 | n => n, fun | 9 => 9 | 3 => 3 | 4 => 4 | 5 => 5 | 46 => 99 | 146 => 115 | 51 => 108 | n => n, fun | 1 => 0 | n => n⟩
theorem Tryd.laysM143 : Go.Proofs.LaysM.n143 Tryd.prog Tryd.laysM143_ren := {
  mixed := by kernel_rfl
  f143 := Tryd.func58.trans (congrArg some (by kernel_rfl))
  f217 := Tryd.func73.trans (congrArg some (by kernel_rfl))
  f219 := Tryd.func69.trans (congrArg some (by kernel_rfl))
  f224 := Tryd.func80.trans (congrArg some (by kernel_rfl))
  f225 := Tryd.func79.trans (congrArg some (by kernel_rfl))
  f266 := Tryd.func87.trans (congrArg some (by kernel_rfl))
  f267 := Tryd.func81.trans (congrArg some (by kernel_rfl))
  f314 := Tryd.func93.trans (congrArg some (by kernel_rfl))
  t3 := Tryd.underlying3
  a3 := Tryd.isAgg3
  z3 := Tryd.sizeOf3
  v3 := Tryd.zeroValue3
  t4 := Tryd.underlying4
  a4 := Tryd.isAgg4
  z4 := Tryd.sizeOf4
  v4 := Tryd.zeroValue4
  t5 := Tryd.underlying5
  a5 := Tryd.isAgg5
  z5 := Tryd.sizeOf5
  v5 := Tryd.zeroValue5
  t9 := Tryd.underlying9
  a9 := Tryd.isAgg9
  z9 := Tryd.sizeOf9
  v9 := Tryd.zeroValue9
  t46 := Tryd.underlying99
  a46 := Tryd.isAgg99
  z46 := Tryd.sizeOf99
  v46 := Tryd.zeroValue99
  t51 := Tryd.underlying108
  a51 := Tryd.isAgg108
  z51 := Tryd.sizeOf108
  v51 := Tryd.zeroValue108
  t146 := Tryd.underlying115
  a146 := Tryd.isAgg115
  z146 := Tryd.sizeOf115
  v146 := Tryd.zeroValue115
  g1 := by kernel_rfl
  i3 := by kernel_rfl
  i4 := by kernel_rfl
  i5 := by kernel_rfl
  i9 := by kernel_rfl
  i46 := by kernel_rfl
  i51 := by kernel_rfl
  i146 := by kernel_rfl
  m1 := by kernel_rfl
  s1_3 := fun w h => Go.Proofs.cell_of_shapedOpen_int (zero := #[.int .i64 0]) (t := 3) h (of_decide_eq_true (by kernel_rfl)) (by kernel_rfl) rfl (by kernel_rfl) (by kernel_rfl) Tryd.underlying3 }
open Go.RowKit Go.Lib in
theorem Tryd.strings_Index_shaped (s sub : ByteArray) (w : World) (h : w.ShapedOpen Tryd.prog) (hs : s.size < 4294967281) :
    Calls Tryd.prog 58 #[.string s, .string sub] w fun e w' => e = .returned (.int .i64 (Lib.index s.data.toList sub.data.toList)) ∧ w' = w := Any.strings_Index_shaped Tryd.laysM143 s sub w h hs
def Tryd.laysM138_ren : Go.Shelf.Ren := ⟨fun | 138 => 57 | 195 => 66 | 218 => 68 | 143 => 58 | 219 => 69 | 217 => 73 | 225 => 79 | 224 => 80 | 267 => 81 | 266 => 87 | 314 => 93 | n => n, fun | 9 => 9 | 3 => 3 | 4 => 4 | 5 => 5 | 0 => 0 | 46 => 99 | 146 => 115 | 51 => 108 | n => n, fun | 1 => 0 | n => n⟩
theorem Tryd.laysM138 : Go.Proofs.LaysM.n138 Tryd.prog Tryd.laysM138_ren := {
  mixed := by kernel_rfl
  f138 := Tryd.func57.trans (congrArg some (by kernel_rfl))
  f143 := Tryd.func58.trans (congrArg some (by kernel_rfl))
  f195 := Tryd.func66.trans (congrArg some (by kernel_rfl))
  f217 := Tryd.func73.trans (congrArg some (by kernel_rfl))
  f218 := Tryd.func68.trans (congrArg some (by kernel_rfl))
  f219 := Tryd.func69.trans (congrArg some (by kernel_rfl))
  f224 := Tryd.func80.trans (congrArg some (by kernel_rfl))
  f225 := Tryd.func79.trans (congrArg some (by kernel_rfl))
  f266 := Tryd.func87.trans (congrArg some (by kernel_rfl))
  f267 := Tryd.func81.trans (congrArg some (by kernel_rfl))
  f314 := Tryd.func93.trans (congrArg some (by kernel_rfl))
  t0 := Tryd.underlying0
  a0 := Tryd.isAgg0
  z0 := Tryd.sizeOf0
  v0 := Tryd.zeroValue0
  t3 := Tryd.underlying3
  a3 := Tryd.isAgg3
  z3 := Tryd.sizeOf3
  v3 := Tryd.zeroValue3
  t4 := Tryd.underlying4
  a4 := Tryd.isAgg4
  z4 := Tryd.sizeOf4
  v4 := Tryd.zeroValue4
  t5 := Tryd.underlying5
  a5 := Tryd.isAgg5
  z5 := Tryd.sizeOf5
  v5 := Tryd.zeroValue5
  t9 := Tryd.underlying9
  a9 := Tryd.isAgg9
  z9 := Tryd.sizeOf9
  v9 := Tryd.zeroValue9
  t46 := Tryd.underlying99
  a46 := Tryd.isAgg99
  z46 := Tryd.sizeOf99
  v46 := Tryd.zeroValue99
  t51 := Tryd.underlying108
  a51 := Tryd.isAgg108
  z51 := Tryd.sizeOf108
  v51 := Tryd.zeroValue108
  t146 := Tryd.underlying115
  a146 := Tryd.isAgg115
  z146 := Tryd.sizeOf115
  v146 := Tryd.zeroValue115
  g1 := by kernel_rfl
  i0 := by kernel_rfl
  i3 := by kernel_rfl
  i4 := by kernel_rfl
  i5 := by kernel_rfl
  i9 := by kernel_rfl
  i46 := by kernel_rfl
  i51 := by kernel_rfl
  i146 := by kernel_rfl
  m1 := by kernel_rfl
  s1_3 := fun w h => Go.Proofs.cell_of_shapedOpen_int (zero := #[.int .i64 0]) (t := 3) h (of_decide_eq_true (by kernel_rfl)) (by kernel_rfl) rfl (by kernel_rfl) (by kernel_rfl) Tryd.underlying3 }
open Go.RowKit Go.Lib in
theorem Tryd.strings_Count_shaped (s sub : ByteArray) (w : World) (h : w.ShapedOpen Tryd.prog) (hs : s.size < 4294967281) (h2 : 2 ≤ sub.size) :
    Calls Tryd.prog 57 #[.string s, .string sub] w fun e w' => e = .returned (.int .i64 (Lib.countB s sub)) ∧ w' = w := Any.strings_Count_shaped Tryd.laysM138 s sub w h hs h2
open Go.RowKit Go.Lib in
/-- strings.Count at whatever sep that is not empty: the two roads under one statement. (LAID: no walk: one application.) -/
theorem Tryd.strings_Count_any (s sep : ByteArray) (m : Int) (w : World) (hs : s.size < 4294967281) (hm : w.cell? ⟨0, 0, none⟩ = some (.int .i64 m)) (h1 : 1 ≤ sep.size) :
    Calls Tryd.prog 57 #[.string s, .string sep] w fun e w' => e = .returned (.int .i64 (Lib.countB s sep)) ∧ w' = w := Any.strings_Count_any Tryd.lays138 s sep m w hs hm h1
def Tryd.lays221_ren : Go.Shelf.Ren := ⟨fun | 221 => 49 | 268 => 56 | 138 => 57 | 143 => 58 | 195 => 66 | 197 => 67 | 218 => 68 | 219 => 69 | 260 => 78 | 217 => 73 | 225 => 79 | 224 => 80 | 267 => 81 | 266 => 87 | 314 => 93 | n => n, fun | 9 => 9 | 3 => 3 | 31 => 23 | 4 => 4 | 0 => 0 | 105 => 89 | 21 => 21 | 5 => 5 | 46 => 99 | 119 => 111 | 139 => 114 | 138 => 113 | 146 => 115 | 51 => 108 | n => n, fun | 1 => 0 | 3 => 2 | 4 => 3 | n => n⟩
theorem Tryd.lays221 : Go.Proofs.Lays.n221 Tryd.prog Tryd.lays221_ren := {
  mixed := by kernel_rfl
  f138 := Tryd.func57.trans (congrArg some (by kernel_rfl))
  f143 := Tryd.func58.trans (congrArg some (by kernel_rfl))
  f195 := Tryd.func66.trans (congrArg some (by kernel_rfl))
  f197 := Tryd.func67.trans (congrArg some (by kernel_rfl))
  f217 := Tryd.func73.trans (congrArg some (by kernel_rfl))
  f218 := Tryd.func68.trans (congrArg some (by kernel_rfl))
  f219 := Tryd.func69.trans (congrArg some (by kernel_rfl))
  f221 := Tryd.func49.trans (congrArg some (by kernel_rfl))
  f224 := Tryd.func80.trans (congrArg some (by kernel_rfl))
  f225 := Tryd.func79.trans (congrArg some (by kernel_rfl))
  f260 := Tryd.func78.trans (congrArg some (by kernel_rfl))
  f266 := Tryd.func87.trans (congrArg some (by kernel_rfl))
  f267 := Tryd.func81.trans (congrArg some (by kernel_rfl))
  f268 := Tryd.func56.trans (congrArg some (by kernel_rfl))
  f314 := Tryd.func93.trans (congrArg some (by kernel_rfl))
  t0 := Tryd.underlying0
  a0 := Tryd.isAgg0
  z0 := Tryd.sizeOf0
  v0 := Tryd.zeroValue0
  t3 := Tryd.underlying3
  a3 := Tryd.isAgg3
  z3 := Tryd.sizeOf3
  v3 := Tryd.zeroValue3
  t4 := Tryd.underlying4
  a4 := Tryd.isAgg4
  z4 := Tryd.sizeOf4
  v4 := Tryd.zeroValue4
  t5 := Tryd.underlying5
  a5 := Tryd.isAgg5
  z5 := Tryd.sizeOf5
  v5 := Tryd.zeroValue5
  t9 := Tryd.underlying9
  a9 := Tryd.isAgg9
  z9 := Tryd.sizeOf9
  v9 := Tryd.zeroValue9
  t21 := Tryd.underlying21
  a21 := Tryd.isAgg21
  z21 := Tryd.sizeOf21
  v21 := Tryd.zeroValue21
  t31 := Tryd.underlying23
  a31 := Tryd.isAgg23
  z31 := Tryd.sizeOf23
  v31 := Tryd.zeroValue23
  t46 := Tryd.underlying99
  a46 := Tryd.isAgg99
  z46 := Tryd.sizeOf99
  v46 := Tryd.zeroValue99
  t51 := Tryd.underlying108
  a51 := Tryd.isAgg108
  z51 := Tryd.sizeOf108
  v51 := Tryd.zeroValue108
  t105 := Tryd.underlying89
  a105 := Tryd.isAgg89
  z105 := Tryd.sizeOf89
  v105 := Tryd.zeroValue89
  t119 := Tryd.underlying111
  a119 := Tryd.isAgg111
  z119 := Tryd.sizeOf111
  t138 := Tryd.underlying113
  a138 := Tryd.isAgg113
  z138 := Tryd.sizeOf113
  v138 := Tryd.zeroValue113
  t139 := Tryd.underlying114
  a139 := Tryd.isAgg114
  z139 := Tryd.sizeOf114
  v139 := Tryd.zeroValue114
  t146 := Tryd.underlying115
  a146 := Tryd.isAgg115
  z146 := Tryd.sizeOf115
  v146 := Tryd.zeroValue115
  g1 := by kernel_rfl
  g3 := by kernel_rfl
  g4 := by kernel_rfl }
open Go.RowKit Go.Lib in
theorem Tryd.strings_genSplit (s sep : ByteArray) (sv : Nat) (n : Int) (N : Nat) (m : Int) (w : World) (hs : s.size < 4294967281) (hm : w.cell? ⟨0, 0, none⟩ = some (.int .i64 m)) (h1 : 1 ≤ sep.size) (hsv : sv ≤ sep.size) (hn0 : n ≠ 0) (hn63 : n ≤ 9223372036854775807) (hN : (N : Int) = min (if n < 0 then (Lib.countB s sep : Int) + 1 else n) ((s.size : Int) + 1)) :
    Calls Tryd.prog 49 #[.string s, .string sep, .int .i64 sv, .int .i64 n] w fun e w' =>
      e = .returned (.slice (some ⟨w.heap.size, 0, none⟩) (Lib.splitB sep sv (N - 1) s).length N) ∧ w' = w.alloc (.cells (Lib.cellsOf (Lib.splitB sep sv (N - 1) s) N) 9) := Any.strings_genSplit Tryd.lays221 (by kernel_rfl) s sep sv n N m w hs hm h1 hsv hn0 hn63 hN
def Tryd.lays146_ren : Go.Shelf.Ren := ⟨fun | 146 => 31 | 221 => 49 | 268 => 56 | 138 => 57 | 143 => 58 | 195 => 66 | 197 => 67 | 218 => 68 | 219 => 69 | 260 => 78 | 217 => 73 | 225 => 79 | 224 => 80 | 267 => 81 | 266 => 87 | 314 => 93 | n => n, fun | 9 => 9 | 31 => 23 | 3 => 3 | 4 => 4 | 0 => 0 | 105 => 89 | 21 => 21 | 5 => 5 | 46 => 99 | 119 => 111 | 139 => 114 | 138 => 113 | 146 => 115 | 51 => 108 | n => n, fun | 1 => 0 | 3 => 2 | 4 => 3 | n => n⟩
theorem Tryd.lays146 : Go.Proofs.Lays.n146 Tryd.prog Tryd.lays146_ren := {
  mixed := by kernel_rfl
  f138 := Tryd.func57.trans (congrArg some (by kernel_rfl))
  f143 := Tryd.func58.trans (congrArg some (by kernel_rfl))
  f146 := Tryd.func31.trans (congrArg some (by kernel_rfl))
  f195 := Tryd.func66.trans (congrArg some (by kernel_rfl))
  f197 := Tryd.func67.trans (congrArg some (by kernel_rfl))
  f217 := Tryd.func73.trans (congrArg some (by kernel_rfl))
  f218 := Tryd.func68.trans (congrArg some (by kernel_rfl))
  f219 := Tryd.func69.trans (congrArg some (by kernel_rfl))
  f221 := Tryd.func49.trans (congrArg some (by kernel_rfl))
  f224 := Tryd.func80.trans (congrArg some (by kernel_rfl))
  f225 := Tryd.func79.trans (congrArg some (by kernel_rfl))
  f260 := Tryd.func78.trans (congrArg some (by kernel_rfl))
  f266 := Tryd.func87.trans (congrArg some (by kernel_rfl))
  f267 := Tryd.func81.trans (congrArg some (by kernel_rfl))
  f268 := Tryd.func56.trans (congrArg some (by kernel_rfl))
  f314 := Tryd.func93.trans (congrArg some (by kernel_rfl))
  t0 := Tryd.underlying0
  a0 := Tryd.isAgg0
  z0 := Tryd.sizeOf0
  v0 := Tryd.zeroValue0
  t3 := Tryd.underlying3
  a3 := Tryd.isAgg3
  z3 := Tryd.sizeOf3
  v3 := Tryd.zeroValue3
  t4 := Tryd.underlying4
  a4 := Tryd.isAgg4
  z4 := Tryd.sizeOf4
  v4 := Tryd.zeroValue4
  t5 := Tryd.underlying5
  a5 := Tryd.isAgg5
  z5 := Tryd.sizeOf5
  v5 := Tryd.zeroValue5
  t9 := Tryd.underlying9
  a9 := Tryd.isAgg9
  z9 := Tryd.sizeOf9
  v9 := Tryd.zeroValue9
  t21 := Tryd.underlying21
  a21 := Tryd.isAgg21
  z21 := Tryd.sizeOf21
  v21 := Tryd.zeroValue21
  t31 := Tryd.underlying23
  a31 := Tryd.isAgg23
  z31 := Tryd.sizeOf23
  v31 := Tryd.zeroValue23
  t46 := Tryd.underlying99
  a46 := Tryd.isAgg99
  z46 := Tryd.sizeOf99
  v46 := Tryd.zeroValue99
  t51 := Tryd.underlying108
  a51 := Tryd.isAgg108
  z51 := Tryd.sizeOf108
  v51 := Tryd.zeroValue108
  t105 := Tryd.underlying89
  a105 := Tryd.isAgg89
  z105 := Tryd.sizeOf89
  v105 := Tryd.zeroValue89
  t119 := Tryd.underlying111
  a119 := Tryd.isAgg111
  z119 := Tryd.sizeOf111
  t138 := Tryd.underlying113
  a138 := Tryd.isAgg113
  z138 := Tryd.sizeOf113
  v138 := Tryd.zeroValue113
  t139 := Tryd.underlying114
  a139 := Tryd.isAgg114
  z139 := Tryd.sizeOf114
  v139 := Tryd.zeroValue114
  t146 := Tryd.underlying115
  a146 := Tryd.isAgg115
  z146 := Tryd.sizeOf115
  v146 := Tryd.zeroValue115
  g1 := by kernel_rfl
  g3 := by kernel_rfl
  g4 := by kernel_rfl }
open Go.RowKit Go.Lib in
/-- strings.Split. (LAID: no walk: one application.) -/
theorem Tryd.strings_Split (s sep : ByteArray) (m : Int) (w : World) (hs : s.size < 4294967281) (hm : w.cell? ⟨0, 0, none⟩ = some (.int .i64 m)) (h1 : 1 ≤ sep.size) :
    Calls Tryd.prog 31 #[.string s, .string sep] w fun e w' =>
      e = .returned (.slice (some ⟨w.heap.size, 0, none⟩) (Lib.countB s sep + 1) (Lib.countB s sep + 1)) ∧ w' = w.alloc (.cells ((Lib.splitB sep 0 (Lib.countB s sep) s).map Value.string).toArray 9) := Any.strings_Split Tryd.lays146 (by kernel_rfl) s sep m w hs hm h1
def Tryd.laysM146_ren : Go.Shelf.Ren := ⟨fun | 146 => 31 | 221 => 49 | 268 => 56 | 138 => 57 | 143 => 58 | 195 => 66 | 197 => 67 | 218 => 68 | 219 => 69 | 260 => 78 | 217 => 73 | 225 => 79 | 224 => 80 | 267 => 81 | 266 => 87 | 314 => 93 | n => n, fun | 9 => 9 | 31 => 23 | 3 => 3 | 4 => 4 | 0 => 0 | 105 => 89 | 21 => 21 | 5 => 5 | 46 => 99 | 119 => 111 | 139 => 114 | 138 => 113 | 146 => 115 | 51 => 108 | n => n, fun | 1 => 0 | 3 => 2 | 4 => 3 | n => n⟩
theorem Tryd.laysM146 : Go.Proofs.LaysM.n146 Tryd.prog Tryd.laysM146_ren := {
  mixed := by kernel_rfl
  f138 := Tryd.func57.trans (congrArg some (by kernel_rfl))
  f143 := Tryd.func58.trans (congrArg some (by kernel_rfl))
  f146 := Tryd.func31.trans (congrArg some (by kernel_rfl))
  f195 := Tryd.func66.trans (congrArg some (by kernel_rfl))
  f197 := Tryd.func67.trans (congrArg some (by kernel_rfl))
  f217 := Tryd.func73.trans (congrArg some (by kernel_rfl))
  f218 := Tryd.func68.trans (congrArg some (by kernel_rfl))
  f219 := Tryd.func69.trans (congrArg some (by kernel_rfl))
  f221 := Tryd.func49.trans (congrArg some (by kernel_rfl))
  f224 := Tryd.func80.trans (congrArg some (by kernel_rfl))
  f225 := Tryd.func79.trans (congrArg some (by kernel_rfl))
  f260 := Tryd.func78.trans (congrArg some (by kernel_rfl))
  f266 := Tryd.func87.trans (congrArg some (by kernel_rfl))
  f267 := Tryd.func81.trans (congrArg some (by kernel_rfl))
  f268 := Tryd.func56.trans (congrArg some (by kernel_rfl))
  f314 := Tryd.func93.trans (congrArg some (by kernel_rfl))
  t0 := Tryd.underlying0
  a0 := Tryd.isAgg0
  z0 := Tryd.sizeOf0
  v0 := Tryd.zeroValue0
  t3 := Tryd.underlying3
  a3 := Tryd.isAgg3
  z3 := Tryd.sizeOf3
  v3 := Tryd.zeroValue3
  t4 := Tryd.underlying4
  a4 := Tryd.isAgg4
  z4 := Tryd.sizeOf4
  v4 := Tryd.zeroValue4
  t5 := Tryd.underlying5
  a5 := Tryd.isAgg5
  z5 := Tryd.sizeOf5
  v5 := Tryd.zeroValue5
  t9 := Tryd.underlying9
  a9 := Tryd.isAgg9
  z9 := Tryd.sizeOf9
  v9 := Tryd.zeroValue9
  t21 := Tryd.underlying21
  a21 := Tryd.isAgg21
  z21 := Tryd.sizeOf21
  v21 := Tryd.zeroValue21
  t31 := Tryd.underlying23
  a31 := Tryd.isAgg23
  z31 := Tryd.sizeOf23
  v31 := Tryd.zeroValue23
  t46 := Tryd.underlying99
  a46 := Tryd.isAgg99
  z46 := Tryd.sizeOf99
  v46 := Tryd.zeroValue99
  t51 := Tryd.underlying108
  a51 := Tryd.isAgg108
  z51 := Tryd.sizeOf108
  v51 := Tryd.zeroValue108
  t105 := Tryd.underlying89
  a105 := Tryd.isAgg89
  z105 := Tryd.sizeOf89
  v105 := Tryd.zeroValue89
  t119 := Tryd.underlying111
  a119 := Tryd.isAgg111
  z119 := Tryd.sizeOf111
  t138 := Tryd.underlying113
  a138 := Tryd.isAgg113
  z138 := Tryd.sizeOf113
  v138 := Tryd.zeroValue113
  t139 := Tryd.underlying114
  a139 := Tryd.isAgg114
  z139 := Tryd.sizeOf114
  v139 := Tryd.zeroValue114
  t146 := Tryd.underlying115
  a146 := Tryd.isAgg115
  z146 := Tryd.sizeOf115
  v146 := Tryd.zeroValue115
  g1 := by kernel_rfl
  g3 := by kernel_rfl
  g4 := by kernel_rfl
  i0 := by kernel_rfl
  i3 := by kernel_rfl
  i4 := by kernel_rfl
  i5 := by kernel_rfl
  i9 := by kernel_rfl
  i21 := by kernel_rfl
  i31 := by kernel_rfl
  i46 := by kernel_rfl
  i51 := by kernel_rfl
  i105 := by kernel_rfl
  i138 := by kernel_rfl
  i139 := by kernel_rfl
  i146 := by kernel_rfl
  m1 := by kernel_rfl
  s1_3 := fun w h => Go.Proofs.cell_of_shapedOpen_int (zero := #[.int .i64 0]) (t := 3) h (of_decide_eq_true (by kernel_rfl)) (by kernel_rfl) rfl (by kernel_rfl) (by kernel_rfl) Tryd.underlying3
  m3 := by kernel_rfl
  m4 := by kernel_rfl }
open Go.RowKit Go.Lib in
/-- strings.Split, sep not empty. (LAID: no walk: one application.) -/
theorem Tryd.strings_Split_shaped (s sep : ByteArray) (w : World) (h : w.ShapedOpen Tryd.prog) (hs : s.size < 4294967281) (h1 : 1 ≤ sep.size) :
    Calls Tryd.prog 31 #[.string s, .string sep] w fun e w' =>
      e = .returned (.slice (some ⟨w.heap.size, 0, none⟩) (Lib.countB s sep + 1) (Lib.countB s sep + 1)) ∧ w' = w.alloc (.cells ((Lib.splitB sep 0 (Lib.countB s sep) s).map Value.string).toArray 9) := Any.strings_Split_shaped Tryd.laysM146 s sep w h hs h1
def Tryd.lays197_ren : Go.Shelf.Ren := ⟨fun | 197 => 67 | 260 => 78 | n => n, fun | 9 => 9 | 21 => 21 | 3 => 3 | 4 => 4 | 5 => 5 | 105 => 89 | 119 => 111 | 0 => 0 | 46 => 99 | 139 => 114 | 138 => 113 | n => n, fun | 3 => 2 | 4 => 3 | n => n⟩
theorem Tryd.lays197 : Go.Proofs.Lays.n197 Tryd.prog Tryd.lays197_ren := {
  mixed := by kernel_rfl
  f197 := Tryd.func67.trans (congrArg some (by kernel_rfl))
  f260 := Tryd.func78.trans (congrArg some (by kernel_rfl))
  t0 := Tryd.underlying0
  a0 := Tryd.isAgg0
  z0 := Tryd.sizeOf0
  v0 := Tryd.zeroValue0
  t3 := Tryd.underlying3
  a3 := Tryd.isAgg3
  z3 := Tryd.sizeOf3
  v3 := Tryd.zeroValue3
  t4 := Tryd.underlying4
  a4 := Tryd.isAgg4
  z4 := Tryd.sizeOf4
  v4 := Tryd.zeroValue4
  t5 := Tryd.underlying5
  a5 := Tryd.isAgg5
  z5 := Tryd.sizeOf5
  v5 := Tryd.zeroValue5
  t9 := Tryd.underlying9
  a9 := Tryd.isAgg9
  z9 := Tryd.sizeOf9
  v9 := Tryd.zeroValue9
  t21 := Tryd.underlying21
  a21 := Tryd.isAgg21
  z21 := Tryd.sizeOf21
  v21 := Tryd.zeroValue21
  t46 := Tryd.underlying99
  a46 := Tryd.isAgg99
  z46 := Tryd.sizeOf99
  v46 := Tryd.zeroValue99
  t105 := Tryd.underlying89
  a105 := Tryd.isAgg89
  z105 := Tryd.sizeOf89
  v105 := Tryd.zeroValue89
  t119 := Tryd.underlying111
  a119 := Tryd.isAgg111
  z119 := Tryd.sizeOf111
  t138 := Tryd.underlying113
  a138 := Tryd.isAgg113
  z138 := Tryd.sizeOf113
  v138 := Tryd.zeroValue113
  t139 := Tryd.underlying114
  a139 := Tryd.isAgg114
  z139 := Tryd.sizeOf114
  v139 := Tryd.zeroValue114
  g3 := by kernel_rfl
  g4 := by kernel_rfl }
open Go.RowKit Go.Lib in
/-- unicode/utf8.DecodeRuneInString: "DecodeRuneInString is like DecodeRune but its input is a string.": ("DecodeRune unpacks the first UTF-8 encoding in p and returns the rune and its width in bytes."): WHERE s BEGINS WITH AN ASCII BYTE x: (x, 1). (LAID: no walk: one application.) -/
theorem Tryd.utf8_DecodeRuneInString_ascii (s : ByteArray) (x : UInt8) (w : World) (h0 : s.data.toList[0]? = some x) (hx : x.toNat < 128) :
    Calls Tryd.prog 67 #[.string s] w fun e w' => e = .returned (.tuple #[.int .i32 x.toNat, .int .i64 1]) ∧ w' = w := Any.utf8_DecodeRuneInString_ascii Tryd.lays197 s x w h0 hx
open Go.RowKit Go.Lib in
theorem Tryd.utf8_RuneCountInString_ascii (s : ByteArray) (w : World) (hs : s.size < 4294967281) (hascii : ∀ (j : Nat) b, s.data.toList[j]? = some b → b.toNat < 128) :
    Calls Tryd.prog 66 #[.string s] w fun e w' => e = .returned (.int .i64 s.size) ∧ w' = w.iter s s.size := Any.utf8_RuneCountInString_ascii Tryd.lays195 s w hs hascii
def Tryd.lays268_ren : Go.Shelf.Ren := ⟨fun | 268 => 56 | 195 => 66 | 197 => 67 | 260 => 78 | n => n, fun | 9 => 9 | 3 => 3 | 31 => 23 | 4 => 4 | 105 => 89 | 21 => 21 | 0 => 0 | 5 => 5 | 119 => 111 | 46 => 99 | 139 => 114 | 138 => 113 | n => n, fun | 3 => 2 | 4 => 3 | n => n⟩
theorem Tryd.lays268 : Go.Proofs.Lays.n268 Tryd.prog Tryd.lays268_ren := {
  mixed := by kernel_rfl
  f195 := Tryd.func66.trans (congrArg some (by kernel_rfl))
  f197 := Tryd.func67.trans (congrArg some (by kernel_rfl))
  f260 := Tryd.func78.trans (congrArg some (by kernel_rfl))
  f268 := Tryd.func56.trans (congrArg some (by kernel_rfl))
  t0 := Tryd.underlying0
  a0 := Tryd.isAgg0
  z0 := Tryd.sizeOf0
  v0 := Tryd.zeroValue0
  t3 := Tryd.underlying3
  a3 := Tryd.isAgg3
  z3 := Tryd.sizeOf3
  v3 := Tryd.zeroValue3
  t4 := Tryd.underlying4
  a4 := Tryd.isAgg4
  z4 := Tryd.sizeOf4
  v4 := Tryd.zeroValue4
  t5 := Tryd.underlying5
  a5 := Tryd.isAgg5
  z5 := Tryd.sizeOf5
  v5 := Tryd.zeroValue5
  t9 := Tryd.underlying9
  a9 := Tryd.isAgg9
  z9 := Tryd.sizeOf9
  v9 := Tryd.zeroValue9
  t21 := Tryd.underlying21
  a21 := Tryd.isAgg21
  z21 := Tryd.sizeOf21
  v21 := Tryd.zeroValue21
  t31 := Tryd.underlying23
  a31 := Tryd.isAgg23
  z31 := Tryd.sizeOf23
  v31 := Tryd.zeroValue23
  t46 := Tryd.underlying99
  a46 := Tryd.isAgg99
  z46 := Tryd.sizeOf99
  v46 := Tryd.zeroValue99
  t105 := Tryd.underlying89
  a105 := Tryd.isAgg89
  z105 := Tryd.sizeOf89
  v105 := Tryd.zeroValue89
  t119 := Tryd.underlying111
  a119 := Tryd.isAgg111
  z119 := Tryd.sizeOf111
  t138 := Tryd.underlying113
  a138 := Tryd.isAgg113
  z138 := Tryd.sizeOf113
  v138 := Tryd.zeroValue113
  t139 := Tryd.underlying114
  a139 := Tryd.isAgg114
  z139 := Tryd.sizeOf114
  v139 := Tryd.zeroValue114
  g3 := by kernel_rfl
  g4 := by kernel_rfl }
open Go.RowKit Go.Lib in
theorem Tryd.strings_explode_all (s : ByteArray) (n : Int) (w : World) (hn : n < 0) (hs : s.size < 4294967281) (hascii : ∀ (j : Nat) b, s.data.toList[j]? = some b → b.toNat < 128) :
    Calls Tryd.prog 56 #[.string s, .int .i64 n] w fun e w' =>
      e = .returned (.slice (some ⟨(w.iter s s.size).heap.size, 0, none⟩) s.size s.size) ∧ w' = (w.iter s s.size).alloc (.cells ((Lib.charsB s).map Value.string).toArray 9) := Any.strings_explode_all Tryd.lays268 (by kernel_rfl) s n w hn hs hascii
open Go.RowKit Go.Lib in
/-- strings.genSplit at sep == "", n < 0: 'return explode(s, n)'. (LAID: no walk: one application.) -/
theorem Tryd.strings_genSplit_chars (s sep : ByteArray) (sv n : Int) (w : World) (h0 : sep.size = 0) (hn : n < 0) (hs : s.size < 4294967281) (hascii : ∀ (j : Nat) b, s.data.toList[j]? = some b → b.toNat < 128) :
    Calls Tryd.prog 49 #[.string s, .string sep, .int .i64 sv, .int .i64 n] w fun e w' =>
      e = .returned (.slice (some ⟨(w.iter s s.size).heap.size, 0, none⟩) s.size s.size) ∧ w' = (w.iter s s.size).alloc (.cells ((Lib.charsB s).map Value.string).toArray 9) := Any.strings_genSplit_chars Tryd.lays221 (by kernel_rfl) s sep sv n w h0 hn hs hascii
open Go.RowKit Go.Lib in
/-- strings.Split(s, ""), s ASCII: a piece a byte. (LAID: no walk: one application.) -/
theorem Tryd.strings_Split_chars (s sep : ByteArray) (w : World) (h0 : sep.size = 0) (hs : s.size < 4294967281) (hascii : ∀ (j : Nat) b, s.data.toList[j]? = some b → b.toNat < 128) :
    Calls Tryd.prog 31 #[.string s, .string sep] w fun e w' =>
      e = .returned (.slice (some ⟨(w.iter s s.size).heap.size, 0, none⟩) s.size s.size) ∧ w' = (w.iter s s.size).alloc (.cells ((Lib.charsB s).map Value.string).toArray 9) := Any.strings_Split_chars Tryd.lays146 (by kernel_rfl) s sep w h0 hs hascii
def Tryd.lays260_ren : Go.Shelf.Ren := ⟨fun | 260 => 78 | n => n, fun | 9 => 9 | 21 => 21 | 3 => 3 | 4 => 4 | 5 => 5 | 119 => 111 | 0 => 0 | 46 => 99 | 139 => 114 | 138 => 113 | n => n, fun | 3 => 2 | 4 => 3 | n => n⟩
theorem Tryd.lays260 : Go.Proofs.Lays.n260 Tryd.prog Tryd.lays260_ren := {
  mixed := by kernel_rfl
  f260 := Tryd.func78.trans (congrArg some (by kernel_rfl))
  t0 := Tryd.underlying0
  a0 := Tryd.isAgg0
  z0 := Tryd.sizeOf0
  v0 := Tryd.zeroValue0
  t3 := Tryd.underlying3
  a3 := Tryd.isAgg3
  z3 := Tryd.sizeOf3
  v3 := Tryd.zeroValue3
  t4 := Tryd.underlying4
  a4 := Tryd.isAgg4
  z4 := Tryd.sizeOf4
  v4 := Tryd.zeroValue4
  t5 := Tryd.underlying5
  a5 := Tryd.isAgg5
  z5 := Tryd.sizeOf5
  v5 := Tryd.zeroValue5
  t9 := Tryd.underlying9
  a9 := Tryd.isAgg9
  z9 := Tryd.sizeOf9
  v9 := Tryd.zeroValue9
  t21 := Tryd.underlying21
  a21 := Tryd.isAgg21
  z21 := Tryd.sizeOf21
  v21 := Tryd.zeroValue21
  t46 := Tryd.underlying99
  a46 := Tryd.isAgg99
  z46 := Tryd.sizeOf99
  v46 := Tryd.zeroValue99
  t119 := Tryd.underlying111
  a119 := Tryd.isAgg111
  z119 := Tryd.sizeOf111
  t138 := Tryd.underlying113
  a138 := Tryd.isAgg113
  z138 := Tryd.sizeOf113
  v138 := Tryd.zeroValue113
  t139 := Tryd.underlying114
  a139 := Tryd.isAgg114
  z139 := Tryd.sizeOf114
  v139 := Tryd.zeroValue114
  g3 := by kernel_rfl
  g4 := by kernel_rfl }
open Go.RowKit Go.Lib in
theorem Tryd.utf8_decodeRuneInStringSlow (s : ByteArray) (w : World) (hT : Lib.Utf8Tabs 2 3 w) :
    Calls Tryd.prog 78 #[.string s] w fun e w' => e = .returned (.tuple #[.int .i32 (Lib.decodeGo s).1, .int .i64 (Lib.decodeGo s).2]) ∧ Below w.heap.size w w' := Any.utf8_decodeRuneInStringSlow Tryd.lays260 s w hT
open Go.RowKit Go.Lib in
/-- **unicode/utf8.DecodeRuneInString AT EVERY STRING.** (LAID: no walk: one application.) -/
theorem Tryd.utf8_DecodeRuneInString (s : ByteArray) (w : World) (hT : Lib.Utf8Tabs 2 3 w) :
    Calls Tryd.prog 67 #[.string s] w fun e w' => e = .returned (.tuple #[.int .i32 (Lib.decodeGo s).1, .int .i64 (Lib.decodeGo s).2]) ∧ Below w.heap.size w w' := Any.utf8_DecodeRuneInString Tryd.lays197 s w hT
def Tryd.lays193_ren : Go.Shelf.Ren := ⟨fun | 193 => 40 | n => n, fun | 31 => 23 | 9 => 9 | 4 => 4 | 3 => 3 | 0 => 0 | n => n, fun | n => n⟩
theorem Tryd.lays193 : Go.Proofs.Lays.n193 Tryd.prog Tryd.lays193_ren := {
  mixed := by kernel_rfl
  f193 := Tryd.func40.trans (congrArg some (by kernel_rfl))
  t0 := Tryd.underlying0
  a0 := Tryd.isAgg0
  z0 := Tryd.sizeOf0
  v0 := Tryd.zeroValue0
  t3 := Tryd.underlying3
  a3 := Tryd.isAgg3
  z3 := Tryd.sizeOf3
  v3 := Tryd.zeroValue3
  t4 := Tryd.underlying4
  a4 := Tryd.isAgg4
  z4 := Tryd.sizeOf4
  v4 := Tryd.zeroValue4
  t9 := Tryd.underlying9
  a9 := Tryd.isAgg9
  z9 := Tryd.sizeOf9
  v9 := Tryd.zeroValue9
  t31 := Tryd.underlying23
  a31 := Tryd.isAgg23
  z31 := Tryd.sizeOf23
  v31 := Tryd.zeroValue23 }
open Go.RowKit Go.Lib in
/-- slices.Equal at []string: "Equal reports whether two slices are equal: the same length and all elements equal. If the lengths are different, Equal returns false. Otherwise, the elements are compared in increasing index order, and the comparison stops at the first unequal pair. Empty and nil slices are considered equal.": IT RETURNS WHETHER THE TWO LISTS OF ELEMENTS ARE ONE; the world is as it was but for the count of draws (the test 's1[i] != s2[i]' has two reads, whose order the model draws, once a round). 'xs', 'ys': what the cells behind the two addresses hold (the spare capacity too, if you have it); 'xs.take n', 'ys.take m': the elements. THE TWO SLICES MAY OVERLAP. (LAID: no walk: one application.) -/
theorem Tryd.slices_Equal_string (b1 o1 n c b2 o2 m d : Nat) (xs ys : List ByteArray) (w : World) (hx : n ≤ xs.length) (hy : m ≤ ys.length) (hbig : n ≤ 9223372036854775807) (hbig2 : m ≤ 9223372036854775807) (hc1 : ∀ j, j < xs.length → w.cell? ⟨b1, o1 + j, none⟩ = some (.string (xs.getD j ByteArray.empty))) (hc2 : ∀ j, j < ys.length → w.cell? ⟨b2, o2 + j, none⟩ = some (.string (ys.getD j ByteArray.empty))) :
    Calls Tryd.prog 40 #[.slice (some ⟨b1, o1, none⟩) n c, .slice (some ⟨b2, o2, none⟩) m d] w fun e w' => e = .returned (.bool (decide (xs.take n = ys.take m))) ∧ ∃ q, w' = w.drewN q := Any.slices_Equal_string Tryd.lays193 b1 o1 n c b2 o2 m d xs ys w hx hy hbig hbig2 hc1 hc2
open Go.RowKit Go.Lib in
/-- The same where the first is of length 0 (a nil one too): no cell is asked for. (LAID: no walk: one application.) -/
theorem Tryd.slices_Equal_string_empty (a1 a2 : Option Addr) (c m d : Nat) (w : World) (hbig2 : m ≤ 9223372036854775807) :
    Calls Tryd.prog 40 #[.slice a1 0 c, .slice a2 m d] w fun e w' => e = .returned (.bool (decide (m = 0))) ∧ w' = w := Any.slices_Equal_string_empty Tryd.lays193 a1 a2 c m d w hbig2
open Go.RowKit Go.Lib in
theorem Tryd.slices_Equal_string_lens (a1 a2 : Option Addr) (n c m d : Nat) (w : World) (hnm : n ≠ m) :
    Calls Tryd.prog 40 #[.slice a1 n c, .slice a2 m d] w fun e w' => e = .returned (.bool false) ∧ w' = w := Any.slices_Equal_string_lens Tryd.lays193 a1 a2 n c m d w hnm
end Go.Proofs
namespace Go.Proofs.YtlmgnlhagpoggaaDoor
open Go.Ab Go.Tb
set_option maxRecDepth 10000
attribute [local irreducible] W WO Pu QS QB QL QF QV QV1 CH QE
def digits10 : ByteArray := B #[48, 49, 50, 51, 52, 53, 54, 55, 56, 57]
theorem digits10_at {d : Nat} (h : d < 10) : digits10.extract d (d + 1) = ⟨#[UInt8.ofNat (48 + d)]⟩ := by
  have : ∀ i : Fin 10, digits10.extract i.val (i.val + 1) = ⟨#[UInt8.ofNat (48 + i.val)]⟩ := by decide +kernel
  exact this ⟨d, h⟩
theorem app_data (a b : ByteArray) : (a ++ b).data.toList = a.data.toList ++ b.data.toList := by simp
theorem bys_inj {a b : ByteArray} (h : a.data.toList = b.data.toList) : a = b := by
  cases a; cases b; simp at h; exact congrArg _ h
theorem numB_size {n : Int} (h : n.natAbs < 10 ^ 20) : (numB n).size ≤ 21 := by
  have e : (numB n).size = (Lib.itoa n).length := Array.length_toList.symm
  rw [e]
  rcases Int.lt_or_le n 0 with hn | hn
  · rw [numB_neg hn, List.length_cons]; have := digB_len n.natAbs 19 h; omega
  · rw [numB_pos hn]; have := digB_len n.toNat 19 (by omega); omega
theorem tdiv10 {n : Int} (h0 : -9223372036854775808 ≤ n) (h1 : n ≤ 9223372036854775807) (h10 : 10 ≤ n.natAbs) : ∃ d : Nat, d = n.natAbs % 10 ∧ d < 10 ∧ (n < 0 → n.tmod 10 = -(d : Int)) ∧ (0 ≤ n → n.tmod 10 = (d : Int)) ∧ (n.tdiv 10).natAbs = n.natAbs / 10 ∧
    (n < 0 → n.tdiv 10 < 0) ∧ (0 ≤ n → 0 ≤ n.tdiv 10) ∧ (n.tdiv 10).natAbs * 10 ≤ n.natAbs ∧ -9223372036854775808 ≤ n.tdiv 10 ∧ n.tdiv 10 ≤ 9223372036854775807 := by
  have h4 : (n.tdiv 10).natAbs = n.natAbs / 10 := by rw [Int.natAbs_tdiv]; rfl
  rcases Int.lt_or_le n 0 with hn | hn
  · have e : n = -(n.natAbs : Int) := by omega
    have e1 : n.tdiv 10 = -((n.natAbs / 10 : Nat) : Int) := by
      conv => lhs; rw [e]
      rw [Int.neg_tdiv]; rfl
    have e2 : n.tmod 10 = -((n.natAbs % 10 : Nat) : Int) := by
      conv => lhs; rw [e]
      rw [Int.neg_tmod]; rfl
    exact ⟨_, rfl, by omega, fun _ => e2, fun h => by omega, h4, fun _ => by omega, fun h => by omega, by omega, by omega, by omega⟩
  · have e : n = (n.natAbs : Int) := by omega
    have e1 : n.tdiv 10 = ((n.natAbs / 10 : Nat) : Int) := by
      conv => lhs; rw [e]
      rfl
    have e2 : n.tmod 10 = ((n.natAbs % 10 : Nat) : Int) := by
      conv => lhs; rw [e]
      rfl
    exact ⟨_, rfl, by omega, fun h => by omega, fun _ => e2, h4, fun h => by omega, fun _ => by omega, by omega, by omega, by omega⟩
theorem part_size {n : Int} {a b : Nat} (hdiv : (n.tdiv 10).natAbs = n.natAbs / 10) (h0 : -9223372036854775808 ≤ n) (h1 : n ≤ 9223372036854775807) : (numB (n.tdiv 10)).size + (digits10.extract a b).size ≤ 9223372036854775807 := by
  have hp : (10 : Nat) ^ 20 = 100000000000000000000 := by decide
  have h2 := numB_size (n := n.tdiv 10) (by omega)
  have h3 : (digits10.extract a b).size ≤ 10 := by rw [ByteArray.size_extract, show digits10.size = 10 from rfl]; omega
  omega
theorem within_fn (n : Int) (ok : Bool) : Does Tryd.prog 60 [.d (.v (.int .i64 n)), .d (.v (.bool ok))] (.tup [.d (.v (.int .i64 (if ok && inR n then n else 0))), .d (.v (.bool (ok && inR n)))]) 0 := by
  refine Does.of_W (n := 14) (ts := [4, 5]) Tryd.func60 (by kernel_rfl) rfl Tryd.ntmps60 Tryd.results60 rfl rfl fun C hC hG => ?_
  refine W.seq ?_
  refine W.region ?_
  iterate 2 refine pu (ev tab rfl) rfl ?_
  refine WO.nil ?_
  refine qs ?_
  refine W.seq ?_
  refine W.seq ?_
  apply regionB; (case hb => rfl)
  · skip
    iterate 3 refine pu (ev tab rfl) rfl ?_
    apply splitJ; (case hj => rfl); (case hl => rfl)
    · skip
      refine skipT rfl rfl rfl rfl ?_
      refine skipT rfl rfl rfl rfl ?_
      refine skipT rfl rfl rfl rfl ?_
      refine pu (ev tab rfl) rfl ?_
      refine WO.nil ?_
      refine qv1 rfl rfl rfl
    · skip
      refine goG rfl rfl ?_
      refine pu (ev tab rfl) rfl ?_
      refine goG rfl rfl ?_
      refine pu (puCall rfl rfl rfl (in_fn ..) rfl) rfl ?_
      refine goG rfl rfl ?_
      iterate 2 refine pu (ev tab rfl) rfl ?_
      refine WO.nil ?_
      refine qv1 rfl rfl rfl
  refine qs ?_
  refine condK rfl (fun h12 => ?_) (fun h12 => ?_)
  · skip
    refine W.seq ?_
    refine W.region ?_
    iterate 2 refine pu (ev tab rfl) rfl ?_
    refine WO.nil ?_
    refine qs ?_
    refine W.ret ?_
    refine qsRet ?_
    refine QF.ret0 trivial rfl ?_
    cases ok <;> cases h : inR n <;> simp_all [norm, normL, oneA]
  · skip
    refine W.skip ?_
    refine qs ?_
    refine W.seq ?_
    refine W.region ?_
    iterate 3 refine pu (ev tab rfl) rfl ?_
    refine WO.nil ?_
    refine qs ?_
    refine W.ret ?_
    refine QF.ret0 trivial rfl ?_
    cases ok <;> cases h : inR n <;> simp_all [norm, normL, oneA]
theorem rtext_fn : ∀ (m : Nat) (n : Int), 2 * n.natAbs + (if n < 0 then 1 else 0) < m → -9223372036854775808 ≤ n → n ≤ 9223372036854775807 → Does Tryd.prog 28 [.d (.v (.int .i64 n))] (.d (.v (.string (numB n)))) 0 := by
  intro m
  induction m with
  | zero => intro n h; omega
  | succ m ih =>
    intro n hm h0 h1
    have hp : (10 : Nat) ^ 20 = 100000000000000000000 := by decide
    refine Does.of_W (n := 38) (ts := [2]) Tryd.func28 (by kernel_rfl) rfl Tryd.ntmps28 Tryd.results28 rfl rfl fun C hC hG => ?_
    refine W.seq ?_
    refine W.region ?_
    refine pu (ev tab rfl) rfl ?_
    refine WO.nil ?_
    refine qs ?_
    refine W.seq ?_
    refine W.seq ?_
    apply regionB; (case hb => rfl)
    · skip
      iterate 3 refine pu (ev tab rfl) rfl ?_
      apply splitJ; (case hj => rfl); (case hl => rfl)
      · skip
        refine goG rfl rfl ?_
        refine pu (ev tab rfl) rfl ?_
        refine goG rfl rfl ?_
        iterate 2 refine pu (ev tab rfl) rfl ?_
        refine WO.nil ?_
        refine qv1 rfl rfl rfl
      · skip
        refine skipT rfl rfl rfl rfl ?_
        refine skipT rfl rfl rfl rfl ?_
        refine pu (ev tab rfl) rfl ?_
        refine WO.nil ?_
        refine qv1 rfl rfl rfl
    refine qs ?_
    refine condK rfl (fun h9 => ?_) (fun h9 => ?_)
    · skip
      have hn : n < 0 ∧ -10 < n := by simp at h9; omega
      have hs : (B #[45]) ++ numB (-n) = numB n := by
        refine bys_inj ?_
        rw [app_data, numB_data, numB_data, numB_neg hn.1, numB_pos (show 0 ≤ -n by omega), show (-n).toNat = n.natAbs by omega]
        rfl
      refine W.seq ?_
      refine W.region ?_
      refine pu (ev tab rfl) rfl ?_
      refine pu (puI (ev tab rfl) (y := -n) (by rw [Int.zero_sub]; exact wrap64 (by omega))) rfl ?_
      refine pu (puCall rfl rfl rfl (ih (-n) (by rw [if_pos hn.1] at hm; rw [if_neg (by omega)]; omega) (by omega) (by omega)) rfl) rfl ?_
      refine pu (puS (strAdd (p := B #[45]) (q := numB (-n)) rfl rfl (by have := numB_size (n := -n) (by omega); have : (B #[45]).size = 1 := rfl; omega)) hs) rfl ?_
      refine pu (ev tab rfl) rfl ?_
      refine WO.nil ?_
      refine qs ?_
      refine W.ret ?_
      refine qsRet ?_
      refine QF.ret0 trivial rfl ?_
      rfl
    · skip
      have hn : ¬ (n < 0 ∧ -10 < n) := by simp at h9; omega
      refine W.skip ?_
      refine qs ?_
      refine W.seq ?_
      refine W.seq ?_
      apply regionB; (case hb => rfl)
      · skip
        iterate 3 refine pu (ev tab rfl) rfl ?_
        apply splitJ; (case hj => rfl); (case hl => rfl)
        · skip
          refine goG rfl rfl ?_
          refine pu (ev tab rfl) rfl ?_
          refine goG rfl rfl ?_
          iterate 2 refine pu (ev tab rfl) rfl ?_
          refine WO.nil ?_
          refine qv1 rfl rfl rfl
        · skip
          refine skipT rfl rfl rfl rfl ?_
          refine skipT rfl rfl rfl rfl ?_
          refine pu (ev tab rfl) rfl ?_
          refine WO.nil ?_
          refine qv1 rfl rfl rfl
      refine qs ?_
      refine condK rfl (fun h19 => ?_) (fun h19 => ?_)
      · skip
        have hn2 : 0 ≤ n ∧ n < 10 := by simp at h19; omega
        have hs : digits10.extract n.toNat (n + 1).toNat = numB n := by
          refine bys_inj ?_
          rw [show (n + 1).toNat = n.toNat + 1 by omega, digits10_at (show n.toNat < 10 by omega), numB_data, numB_pos hn2.1, digB_small (by omega)]
        refine W.seq ?_
        refine W.region ?_
        iterate 2 refine pu (ev tab rfl) rfl ?_
        refine pu (puI (ev tab rfl) (wrap64 (by omega))) rfl ?_
        refine pu (puS (strPart (s := digits10) tab rfl rfl rfl rfl rfl hn2.1 (by omega) (by rw [show digits10.size = 10 from rfl]; omega)) hs) rfl ?_
        refine pu (ev tab rfl) rfl ?_
        refine WO.nil ?_
        refine qs ?_
        refine W.ret ?_
        refine qsRet ?_
        refine QF.ret0 trivial rfl ?_
        rfl
      · skip
        have hn2 : ¬ (0 ≤ n ∧ n < 10) := by simp at h19; omega
        obtain ⟨d, hd, hd10, hm1, hm2, hdiv, hsg1, hsg2, hlt10, hlo, hhi⟩ := tdiv10 h0 h1 (show 10 ≤ n.natAbs by omega)
        have hmeas : 2 * (n.tdiv 10).natAbs + (if n.tdiv 10 < 0 then 1 else 0) < m := by split <;> split at hm <;> omega
        have hok25 : okc (.int .i64 (n.tmod 10)) = true := by
          have : -10 < n.tmod 10 ∧ n.tmod 10 < 10 := by
            rcases Int.lt_or_le n 0 with q | q
            · rw [hm1 q]; omega
            · rw [hm2 q]; omega
          simp [okc, IntKind.min, IntKind.max, IntKind.signed, IntKind.bits]
          omega
        have hs : numB (n.tdiv 10) ++ digits10.extract d (d + 1) = numB n := by
          refine bys_inj ?_
          rw [app_data, digits10_at hd10, numB_data, numB_data]
          rcases Int.lt_or_le n 0 with hlt | hge
          · rw [numB_neg hlt, numB_neg (hsg1 hlt), digB_big (u := n.natAbs) (by omega), hdiv, hd]
            rfl
          · rw [numB_pos hge, numB_pos (hsg2 hge), digB_big (u := n.toNat) (by omega), show (n.tdiv 10).toNat = n.toNat / 10 by omega, hd, show n.toNat % 10 = n.natAbs % 10 by omega]
        refine W.skip ?_
        refine qs ?_
        refine W.seq ?_
        refine W.region ?_
        refine pu (ev tab rfl) rfl ?_
        refine pu (remR (q := 10) rfl rfl (by decide) hok25) rfl ?_
        refine pu (ev tab rfl) rfl ?_
        refine WO.nil ?_
        refine qs ?_
        refine W.seq ?_
        refine W.seq ?_
        refine W.region ?_
        iterate 2 refine pu (ev tab rfl) rfl ?_
        refine WO.nil ?_
        refine qs ?_
        refine condK rfl (fun h27 => ?_) (fun h27 => ?_)
        · skip
          have hneg : n < 0 := by
            rcases Int.lt_or_le n 0 with q | q
            · exact q
            · have := hm2 q; simp at h27; omega
          have hz := hm1 hneg
          refine W.region ?_
          refine pu (ev tab rfl) rfl ?_
          refine pu (puI (ev tab rfl) (y := (d : Int)) (by rw [hz, Int.zero_sub, Int.neg_neg]; exact wrap64 (by omega))) rfl ?_
          refine pu (ev tab rfl) rfl ?_
          refine WO.nil ?_
          refine qs ?_
          refine W.seq ?_
          refine W.regionD tab (by kernel_rfl) ?_
          refine chPu (ev tab rfl) rfl ?_
          refine chPu (puI (quoR (q := 10) rfl rfl (by decide) (okc_wrap _ _)) (wrap64 ⟨hlo, hhi⟩)) rfl ?_
          refine chPu (puCall rfl rfl rfl (ih (n.tdiv 10) hmeas hlo hhi) rfl) rfl ?_
          refine chPu (puI (ev tab rfl) (y := (d : Int)) (by first | rfl | exact hz)) rfl ?_
          refine chPu (puI (ev tab rfl) (y := (d : Int)) (by first | rfl | exact hz)) rfl ?_
          refine chPu (puI (ev tab rfl) (y := ((d + 1 : Nat) : Int)) (show IntKind.i64.wrap ((d : Int) + 1) = _ by rw [wrap64 (by omega)]; rfl)) rfl ?_
          refine chPu (strPart (s := digits10) (l := (d : Int)) (h := ((d + 1 : Nat) : Int)) tab rfl rfl rfl rfl rfl (by omega) (by omega) (by rw [show digits10.size = 10 from rfl]; omega)) rfl ?_
          refine chPu (puS (strAdd rfl rfl (part_size hdiv h0 h1)) hs) rfl ?_
          refine chPu (ev tab rfl) rfl ?_
          refine CH.nil ?_
          refine qs ?_
          refine W.ret ?_
          refine QF.ret0 trivial rfl ?_
          rfl
        · skip
          have hz : n.tmod 10 = (d : Int) := by
            rcases Int.lt_or_le n 0 with q | q
            · have := hm1 q; simp at h27; omega
            · exact hm2 q
          refine W.skip ?_
          refine qs ?_
          refine W.seq ?_
          refine W.regionD tab (by kernel_rfl) ?_
          refine chPu (ev tab rfl) rfl ?_
          refine chPu (puI (quoR (q := 10) rfl rfl (by decide) (okc_wrap _ _)) (wrap64 ⟨hlo, hhi⟩)) rfl ?_
          refine chPu (puCall rfl rfl rfl (ih (n.tdiv 10) hmeas hlo hhi) rfl) rfl ?_
          refine chPu (puI (ev tab rfl) (y := (d : Int)) (by first | rfl | exact hz)) rfl ?_
          refine chPu (puI (ev tab rfl) (y := (d : Int)) (by first | rfl | exact hz)) rfl ?_
          refine chPu (puI (ev tab rfl) (y := ((d + 1 : Nat) : Int)) (show IntKind.i64.wrap ((d : Int) + 1) = _ by rw [wrap64 (by omega)]; rfl)) rfl ?_
          refine chPu (strPart (s := digits10) (l := (d : Int)) (h := ((d + 1 : Nat) : Int)) tab rfl rfl rfl rfl rfl (by omega) (by omega) (by rw [show digits10.size = 10 from rfl]; omega)) rfl ?_
          refine chPu (puS (strAdd rfl rfl (part_size hdiv h0 h1)) hs) rfl ?_
          refine chPu (ev tab rfl) rfl ?_
          refine CH.nil ?_
          refine qs ?_
          refine W.ret ?_
          refine QF.ret0 trivial rfl ?_
          rfl
end Go.Proofs.YtlmgnlhagpoggaaDoor
namespace Go.Proofs.YtlmgnlhagpoggaaDoor
open Go.Ab Go.Tb
set_option maxRecDepth 10000
attribute [local irreducible] W WO Pu QS QB QL QF QV QV1 CH QE
theorem num_of {w : World} (hu : Under Tryd.prog w) : MetNum Tryd.prog w := hu.num (fun _ h => h)
theorem numB_ok {n : Int} (h : n.natAbs < 10 ^ 20) : okc (.string (numB n)) = true := by
  have := numB_size h
  exact decide_eq_true (by simp only [maxLen]; omega)
theorem abs_int {n : Int} (h0 : -9223372036854775808 ≤ n) (h1 : n ≤ 9223372036854775807) : n.natAbs < 10 ^ 20 := by
  have hp : (10 : Nat) ^ 20 = 100000000000000000000 := by decide
  omega
open Go.RowKit in
theorem itoa_fn (n : Int) (h0 : -9223372036854775808 ≤ n) (h1 : n ≤ 9223372036854775807) : Does Tryd.prog 45 [.d (.v (.int .i64 n))] (.d (.v (.string (numB n)))) 0 :=
  Does.of_freshV (xs := [.int .i64 n]) ⟨_, Tryd.func45, by kernel_rfl, by kernel_rfl⟩ fun w hu _ =>
    (Tryd.strconv_Itoa n h0 h1 w (num_of hu).1).mono fun e w' ⟨he, k, os, hw⟩ =>
      ⟨_, he, hw ▸ Lib.below_grow _ w (Nat.le_refl _) k os, fun _ _ _ => .d (.v _ (numB_ok (abs_int h0 h1)))⟩
theorem text_fn (n : Int) (h0 : -9223372036854775808 ≤ n) (h1 : n ≤ 9223372036854775807) : Does Tryd.prog 25 [.d (.v (.int .i64 n))] (.d (.v (.string (numB n)))) 0 := by
  refine Does.of_W (n := 5) (ts := [2]) Tryd.func25 (by kernel_rfl) rfl Tryd.ntmps25 Tryd.results25 rfl rfl fun C hC hG => ?_
  refine W.seq ?_
  refine W.region ?_
  refine pu (ev tab rfl) rfl ?_
  refine WO.nil ?_
  refine qs ?_
  refine W.seq ?_
  refine W.region ?_
  refine pu (ev tab rfl) rfl ?_
  refine pu (puCall rfl rfl rfl ((itoa_fn _ (by assumption) (by assumption))) rfl) rfl ?_
  refine pu (ev tab rfl) rfl ?_
  refine WO.nil ?_
  refine qs ?_
  refine W.ret ?_
  refine QF.ret0 trivial rfl ?_
  rfl
/-- how strconv.Atoi ends -/
def atoiA (s : ByteArray) : A :=
  match Lib.atoiAll s.data.toList with
  | .ok v => .tup [.d (.v (.int .i64 v)), .d (.v .nilIface)]
  | .syntax => .tup [.d (.v (.int .i64 0)), .ni]
  | .range => .tup [.d (.v (.int .i64 (Lib.atoiSat s.data.toList))), .ni]
theorem sat_ok (l : List UInt8) : okc (.int .i64 (Lib.atoiSat l)) = true := by
  unfold Lib.atoiSat
  split <;> (try split) <;> decide
open Go.RowKit in
theorem atoi_fn (s : ByteArray) (hs : s.size ≤ 281474976710656) : Does Tryd.prog 59 [.d (.v (.string s))] (atoiA s) 0 :=
  Does.of_freshV (xs := [.string s]) ⟨_, Tryd.func59, by kernel_rfl, by kernel_rfl⟩ fun w hu _ => by
    obtain ⟨_, ⟨t, p, h2⟩, t', p', h3⟩ := num_of hu
    unfold atoiA
    cases h : Lib.atoiAll s.data.toList with
    | ok v =>
      have hb := Lib.atoiAll_bounds h
      refine (Tryd.strconv_Atoi_ok s (by omega) v h w).mono fun e w' ⟨he, hw⟩ => ⟨_, he, ?_, fun _ _ _ => pairRep (.d (.v _ ?_)) (.d (.v _ rfl))⟩
      · rcases hw with rfl | ⟨t, rfl⟩
        · exact Below.refl _ _
        · exact Joins.below_bytesWorld _ w _ _ (Nat.le_refl _)
      · simp [okc, IntKind.min, IntKind.max, IntKind.signed, IntKind.bits]
        omega
    | «syntax» =>
      exact (Tryd.strconv_Atoi_syntax_var s hs h t p w h2).mono fun e w' ⟨N, he, _, _, hb⟩ => ⟨_, he, hb, fun _ _ _ => pairRep (.d (.v _ (by decide))) (.ni _ _)⟩
    | range =>
      exact (Tryd.strconv_Atoi_range_var s hs h t' p' w h3).mono fun e w' ⟨N, he, _, _, hb⟩ => ⟨_, he, hb, fun _ _ _ => pairRep (.d (.v _ (sat_ok _))) (.ni _ _)⟩
end Go.Proofs.YtlmgnlhagpoggaaDoor
namespace Go.Proofs.YtlmgnlhagpoggaaDoor
open Go.Ab Go.Tb
set_option maxRecDepth 10000
attribute [local irreducible] W WO Pu QS QB QL QF QV QV1 CH QE
theorem wordsL (l : List ByteArray) : (l.map fun s => [D.v (.string s)]) = l.map fun s => [cs s] := rfl
open Go.RowKit in
theorem join_fn (l : List ByteArray) (sep : ByteArray) (hl : l.length ≤ 100000) (hb : (joinB l sep).size ≤ 1000000) : Does Tryd.prog 27 [.d (.sl (l.map fun s => [.v (.string s)])), .d (.v (.string sep))] (.d (.v (.string (joinB l sep)))) 0 := by
  have hok : okc (.string (joinB l sep)) = true := decide_eq_true (by simp only [maxLen]; omega)
  have hdl : (Lib.join (l.map (·.data.toList)) sep.data.toList).length = (joinB l sep).size := by
    have : (joinB l sep).data.toList.length = (joinB l sep).size := Array.length_toList
    rw [← this]; rfl
  refine Does.of_fresh ⟨_, Tryd.func27, by kernel_rfl, by kernel_rfl⟩ fun w vals E hE hu hsz hr => ?_
  have hsz2 : vals.size = 2 := hsz
  obtain ⟨v0, v1, rfl⟩ : ∃ v0 v1, vals = #[v0, v1] := ⟨vals[0], vals[1], by apply Array.ext (by simp [hsz2]); intro i h1 h2; match i, h1, h2 with
    | 0, _, _ => rfl
    | 1, _, _ => rfl
    | k + 2, h1, _ => omega⟩
  have r0 := hr 0 v0 _ rfl rfl
  have r1 := hr 1 v1 _ rfl rfl
  cases r1 with | d r1 => cases r1 with | v _ h1 =>
  cases r0 with | d r0 =>
  subst hE
  rcases r0.strs with ⟨rfl, a, c, rfl⟩ | ⟨b, off, c, rfl, h3, h4, h5⟩
  · refine (Tryd.strings_Join_none a c sep E.w).mono fun e w' ⟨he, hw⟩ => ⟨_, he, hw ▸ Below.refl _ _, fun _ _ _ => .d (.v _ hok)⟩
  · rcases Nat.eq_zero_or_pos l.length with hz | hp
    · have : l = [] := List.eq_nil_of_length_eq_zero hz
      subst this
      exact (Tryd.strings_Join_none _ c sep E.w).mono fun e w' ⟨he, hw⟩ => ⟨_, he, hw ▸ Below.refl _ _, fun _ _ _ => .d (.v _ hok)⟩
    · have hbk : b < E.w.heap.size := cellAt_lt (o := off + 0) (h5 0 l[0] (by simp [hp])).1
      exact (Tryd.strings_Join b off c l sep E.w (fun j x hx => (h5 j x hx).1) hbk (by omega) h3 (by omega)).mono fun e w' ⟨he, hb⟩ => ⟨_, he, hb, fun _ _ _ => .d (.v _ hok)⟩
open Go.RowKit in
theorem split_fn (s : ByteArray) (c : UInt8) (hs : s.size ≤ 1000000) : Does Tryd.prog 31 [.d (.v (.string s)), .d (.v (.string ⟨#[c]⟩))] (.d (.sl ((cutB s c).map fun s => [.v (.string s)]))) 0 :=
  Does.of_freshV (xs := [.string s, .string ⟨#[c]⟩]) ⟨_, Tryd.func31, by kernel_rfl, by kernel_rfl⟩ fun w hu _ => by
    obtain ⟨m, hm⟩ := hu.cell (b := _) Tryd.laysM146.s1_3
    refine (Tryd.strings_Split s ⟨#[c]⟩ m w (by omega) hm (Nat.le_refl 1)).mono fun e w' ⟨he, hw⟩ => ⟨_, he, ?_, fun E' hE hpv => .d ?_⟩
    · rw [hw]; exact (Below.refl _ _).alloc (Nat.le_refl _) _
    · have hlen : Lib.countB s ⟨#[c]⟩ + 1 = (cutB s c).length := by rw [← splitB_cut]; exact (Lib.splitB_all ⟨#[c]⟩ (Nat.le_refl 1) 0 _ s rfl).symm
      rw [hlen]
      rw [splitB_cut] at hw
      have hcl : (cutB s c).length ≤ s.size + 1 := by
        have h1 := cutL_len c s.data.toList
        have h2 : s.data.toList.length = s.size := Array.length_toList
        unfold cutB
        rw [List.length_map]
        omega
      refine RepD.newStrs (b := w.heap.size) (arr := ((cutB s c).map Value.string).toArray) (T := 9) ?_ (Nat.le_refl _) (by simp only [maxLen]; omega) (fun j t hj => ⟨by simp [hj], ?_⟩) (fun o hp => absurd (hpv _ _ hp) (Nat.lt_irrefl _))
      · rw [hE, hw]; exact (MapKept.heap_alloc w _).1
      · have hm2 : t ∈ cutB s c := List.mem_of_getElem? hj
        unfold cutB at hm2
        obtain ⟨x, hx, rfl⟩ := List.mem_map.1 hm2
        have h1 := cutL_mem c _ x hx
        have h2 : s.data.toList.length = s.size := Array.length_toList
        have h3 : (ofL x).size = x.length := (Array.length_toList (xs := (ofL x).data)).symm
        simp only [maxLen]
        omega
end Go.Proofs.YtlmgnlhagpoggaaDoor
namespace Go.Proofs.YtlmgnlhagpoggaaDoor
open Go.Ab Go.Tb
set_option maxRecDepth 10000
attribute [local irreducible] W WO Pu QS QB QL QF QV QV1 CH QE
def signs : ByteArray := B #[95, 46, 58, 47, 60, 62, 36, 42, 126, 45]
theorem signs_bys : bys signs = marks := rfl

theorem rletter_fn (b : UInt8) : Does Tryd.prog 43 [.d (.v (.int .u8 b.toNat))] (.d (.v (.bool (letterB b)))) 0 := by
  refine Does.of_W (n := 38) (ts := [2]) Tryd.func43 (by kernel_rfl) rfl Tryd.ntmps43 Tryd.results43 rfl rfl fun C hC hG => ?_
  refine W.seq ?_
  refine W.region ?_
  refine pu (ev tab rfl) rfl ?_
  refine WO.nil ?_
  refine qs ?_
  refine W.seq ?_
  refine W.seq ?_
  apply regionB; (case hb => rfl)
  · skip
    iterate 3 refine pu (ev tab rfl) rfl ?_
    apply splitJ; (case hj => rfl); (case hl => rfl)
    · skip
      refine goG rfl rfl ?_
      refine pu (ev tab rfl) rfl ?_
      refine goG rfl rfl ?_
      iterate 3 refine pu (ev tab rfl) rfl ?_
      apply splitJ; (case hj => rfl); (case hl => rfl)
      · skip
        refine skipT rfl rfl rfl rfl ?_
        refine skipT rfl rfl rfl rfl ?_
        refine skipT rfl rfl rfl rfl ?_
        refine skipU rfl rfl rfl ?_
        refine skipU rfl rfl rfl ?_
        refine skipT rfl rfl rfl rfl ?_
        iterate 2 refine pu (ev tab rfl) rfl ?_
        refine skipT rfl rfl rfl rfl ?_
        refine skipT rfl rfl rfl rfl ?_
        refine skipT rfl rfl rfl rfl ?_
        refine skipU rfl rfl rfl ?_
        refine skipU rfl rfl rfl ?_
        refine skipT rfl rfl rfl rfl ?_
        refine pu (ev tab rfl) rfl ?_
        refine WO.nil ?_
        refine qv1 rfl rfl rfl
      · skip
        refine goG rfl rfl ?_
        refine pu (ev tab rfl) rfl ?_
        refine goG rfl rfl ?_
        refine pu (ev tab rfl) rfl ?_
        refine goG rfl rfl ?_
        refine pu (ev tab rfl) rfl ?_
        apply splitJ; (case hj => rfl); (case hl => rfl)
        · skip
          refine goG rfl rfl ?_
          refine pu (ev tab rfl) rfl ?_
          refine goG rfl rfl ?_
          refine pu (ev tab rfl) rfl ?_
          refine goG rfl rfl ?_
          iterate 3 refine pu (ev tab rfl) rfl ?_
          apply splitJ; (case hj => rfl); (case hl => rfl)
          · skip
            refine skipT rfl rfl rfl rfl ?_
            refine skipT rfl rfl rfl rfl ?_
            refine skipT rfl rfl rfl rfl ?_
            refine skipU rfl rfl rfl ?_
            refine skipU rfl rfl rfl ?_
            refine skipT rfl rfl rfl rfl ?_
            refine pu (ev tab rfl) rfl ?_
            refine WO.nil ?_
            refine qv1 rfl rfl rfl
          · skip
            refine goG rfl rfl ?_
            refine pu (ev tab rfl) rfl ?_
            refine goG rfl rfl ?_
            refine pu (ev tab rfl) rfl ?_
            refine goG rfl rfl ?_
            refine pu (ev tab rfl) rfl ?_
            apply splitJ; (case hj => rfl); (case hl => rfl)
            · skip
              refine goG rfl rfl ?_
              refine pu (ev tab rfl) rfl ?_
              refine goG rfl rfl ?_
              refine pu (ev tab rfl) rfl ?_
              refine goG rfl rfl ?_
              iterate 2 refine pu (ev tab rfl) rfl ?_
              refine WO.nil ?_
              refine qv1 rfl rfl rfl
            · skip
              refine skipT rfl rfl rfl rfl ?_
              refine skipT rfl rfl rfl rfl ?_
              refine goG rfl rfl ?_
              iterate 2 refine pu (ev tab rfl) rfl ?_
              refine WO.nil ?_
              refine qv1 rfl rfl rfl
        · skip
          refine skipT rfl rfl rfl rfl ?_
          refine skipT rfl rfl rfl rfl ?_
          refine goG rfl rfl ?_
          iterate 3 refine pu (ev tab rfl) rfl ?_
          refine goG rfl rfl ?_
          refine pu (ev tab rfl) rfl ?_
          refine goG rfl rfl ?_
          refine pu (ev tab rfl) rfl ?_
          refine goG rfl rfl ?_
          refine pu (ev tab rfl) rfl ?_
          apply splitJ; (case hj => rfl); (case hl => rfl)
          · skip
            refine goG rfl rfl ?_
            refine pu (ev tab rfl) rfl ?_
            refine goG rfl rfl ?_
            refine pu (ev tab rfl) rfl ?_
            refine goG rfl rfl ?_
            iterate 2 refine pu (ev tab rfl) rfl ?_
            refine WO.nil ?_
            refine qv1 rfl rfl rfl
          · skip
            refine skipT rfl rfl rfl rfl ?_
            refine skipT rfl rfl rfl rfl ?_
            refine goG rfl rfl ?_
            iterate 2 refine pu (ev tab rfl) rfl ?_
            refine WO.nil ?_
            refine qv1 rfl rfl rfl
    · skip
      refine skipT rfl rfl rfl rfl ?_
      refine skipT rfl rfl rfl rfl ?_
      iterate 2 refine pu (ev tab rfl) rfl ?_
      refine goG rfl rfl ?_
      refine pu (ev tab rfl) rfl ?_
      refine goG rfl rfl ?_
      refine pu (ev tab rfl) rfl ?_
      refine goG rfl rfl ?_
      refine pu (ev tab rfl) rfl ?_
      apply splitJ; (case hj => rfl); (case hl => rfl)
      · skip
        refine goG rfl rfl ?_
        refine pu (ev tab rfl) rfl ?_
        refine goG rfl rfl ?_
        refine pu (ev tab rfl) rfl ?_
        refine goG rfl rfl ?_
        iterate 3 refine pu (ev tab rfl) rfl ?_
        apply splitJ; (case hj => rfl); (case hl => rfl)
        · skip
          refine skipT rfl rfl rfl rfl ?_
          refine skipT rfl rfl rfl rfl ?_
          refine skipT rfl rfl rfl rfl ?_
          refine skipU rfl rfl rfl ?_
          refine skipU rfl rfl rfl ?_
          refine skipT rfl rfl rfl rfl ?_
          refine pu (ev tab rfl) rfl ?_
          refine WO.nil ?_
          refine qv1 rfl rfl rfl
        · skip
          refine goG rfl rfl ?_
          refine pu (ev tab rfl) rfl ?_
          refine goG rfl rfl ?_
          refine pu (ev tab rfl) rfl ?_
          refine goG rfl rfl ?_
          refine pu (ev tab rfl) rfl ?_
          apply splitJ; (case hj => rfl); (case hl => rfl)
          · skip
            refine goG rfl rfl ?_
            refine pu (ev tab rfl) rfl ?_
            refine goG rfl rfl ?_
            refine pu (ev tab rfl) rfl ?_
            refine goG rfl rfl ?_
            iterate 2 refine pu (ev tab rfl) rfl ?_
            refine WO.nil ?_
            refine qv1 rfl rfl rfl
          · skip
            refine skipT rfl rfl rfl rfl ?_
            refine skipT rfl rfl rfl rfl ?_
            refine goG rfl rfl ?_
            iterate 2 refine pu (ev tab rfl) rfl ?_
            refine WO.nil ?_
            refine qv1 rfl rfl rfl
      · skip
        refine skipT rfl rfl rfl rfl ?_
        refine skipT rfl rfl rfl rfl ?_
        refine goG rfl rfl ?_
        iterate 3 refine pu (ev tab rfl) rfl ?_
        refine goG rfl rfl ?_
        refine pu (ev tab rfl) rfl ?_
        refine goG rfl rfl ?_
        refine pu (ev tab rfl) rfl ?_
        refine goG rfl rfl ?_
        refine pu (ev tab rfl) rfl ?_
        apply splitJ; (case hj => rfl); (case hl => rfl)
        · skip
          refine goG rfl rfl ?_
          refine pu (ev tab rfl) rfl ?_
          refine goG rfl rfl ?_
          refine pu (ev tab rfl) rfl ?_
          refine goG rfl rfl ?_
          iterate 2 refine pu (ev tab rfl) rfl ?_
          refine WO.nil ?_
          refine qv1 rfl rfl rfl
        · skip
          refine skipT rfl rfl rfl rfl ?_
          refine skipT rfl rfl rfl rfl ?_
          refine goG rfl rfl ?_
          iterate 2 refine pu (ev tab rfl) rfl ?_
          refine WO.nil ?_
          refine qv1 rfl rfl rfl
  refine qs ?_
  refine condK rfl (fun h26 => ?_) (fun h26 => ?_)
  · skip
    have hg : letterB b = true := by revert h26; simp only [letterB, lower]; grind
    refine W.seq ?_
    refine W.region ?_
    refine pu (ev tab rfl) rfl ?_
    refine WO.nil ?_
    refine qs ?_
    refine W.ret ?_
    refine qsRet ?_
    refine QF.ret0 trivial rfl ?_
    rw [hg]; rfl
  · skip
    have hg : letterB b = marks.any fun c => decide (c = b) := by revert h26; simp only [letterB, lower]; grind
    refine W.skip ?_
    refine qs ?_
    refine W.seq ?_
    refine W.region ?_
    refine pu (ev tab rfl) rfl ?_
    refine WO.nil ?_
    refine qs ?_
    refine W.seq ?_
    refine W.seq ?_
    refine W.region ?_
    refine pu (ev tab rfl) rfl ?_
    refine WO.nil ?_
    refine qs ?_
    refine W.block ?_
    have hlen : (bys signs).length ≤ maxLen := by decide
    refine W.loopR (ι := {x : Nat // match x with | k => k ≤ (bys signs).length ∧ ((bys signs).drop k).any (fun c => decide (c = b)) = marks.any (fun c => decide (c = b))})
      (fun x => match x.1 with | k => [(4, .d (.v (.int .i64 ((k : Nat) : Int))))]) [(0, _), (3, _)]
      (fun x => match x.1 with | k => []) [] [] 0 (fun x => match x.1 with | k => (bys signs).length - k)
      [] ⟨0, ?_⟩ rfl ?_ ⟨rfl, rfl, rfl, rfl, trivial⟩ ?_ trivial rfl ?_
    · first | exact ⟨Nat.zero_le _, rfl⟩ | exact trivial | simp
    · repeat' first | exact trivial | refine ⟨rfl, ?_⟩ | refine ⟨step_nat (by assumption) (by assumption), ?_⟩
    · repeat' first | exact trivial | refine ⟨rfl, ?_⟩ | refine ⟨step_nat (by assumption) (by assumption), ?_⟩
    rintro ⟨k, hk, hI⟩
    show W _ _ _ _ _ ⟨[(4, .d (.v (.int .i64 ((k : Nat) : Int)))), (0, _), (3, _)], [], [], 0⟩
    refine W.seq ?_
    refine W.seq ?_
    refine W.region ?_
    iterate 4 refine pu (ev tab rfl) rfl ?_
    refine WO.nil ?_
    refine qs ?_
    refine eachR (l := bys signs) (k := k) rfl (by rfl) hk (fun c hx hd hlt => ?_) (fun he hd => ?_)
    · skip
      rw [hd, List.any_cons] at hI
      refine W.skip ?_
      refine qs ?_
      refine W.seq ?_
      refine W.block ?_
      refine W.seq ?_
      refine W.region ?_
      iterate 2 refine pu (ev tab rfl) rfl ?_
      refine pu (indexStr (s := signs) tab rfl rfl rfl rfl (Int.natCast_nonneg _) (byteList hx)) rfl ?_
      iterate 2 refine pu (ev tab rfl) rfl ?_
      refine WO.nil ?_
      refine qs ?_
      refine condK rfl (fun h37 => ?_) (fun h37 => ?_)
      · skip
        have h37 : decide (c = b) = true := by simp at h37 ⊢; exact UInt8.toNat_inj.1 (by omega)
        rw [h37, Bool.true_or] at hI
        refine W.seq ?_
        refine W.region ?_
        refine pu (ev tab rfl) rfl ?_
        refine WO.nil ?_
        refine qs ?_
        refine W.ret ?_
        refine qbRet ?_
        refine qsRet ?_
        refine qlRet ?_
        refine qbRet ?_
        refine qsRet ?_
        refine QF.ret0 trivial rfl ?_
        rw [hg, ← hI]; rfl
      · skip
        have h37 : decide (c = b) = false := by simp at h37 ⊢; rintro rfl; exact h37 rfl
        rw [h37, Bool.false_or] at hI
        refine W.skip ?_
        refine qbN ?_
        refine qs ?_
        refine W.region ?_
        iterate 3 refine pu (ev tab rfl) rfl ?_
        refine WO.nil ?_
        refine W.endR [] ⟨k + 1, ?_⟩ ?_ rfl ?_ ⟨rfl, rfl, rfl, rfl, trivial⟩ ?_ trivial rfl
        · exact ⟨hlt, hI⟩
        · dsimp only; omega
        · repeat' first | exact trivial | refine ⟨rfl, ?_⟩ | refine ⟨step_nat (by assumption) (by assumption), ?_⟩
        · repeat' first | exact trivial | refine ⟨rfl, ?_⟩ | refine ⟨step_nat (by assumption) (by assumption), ?_⟩
    · skip
      rw [hd, List.any_nil] at hI
      refine W.exit ?_
      refine qsExit ?_
      refine qlExit ?_
      refine qbExit ?_
      refine qs ?_
      refine W.seq ?_
      refine W.region ?_
      refine pu (ev tab rfl) rfl ?_
      refine WO.nil ?_
      refine qs ?_
      refine W.ret ?_
      refine QF.ret0 trivial rfl ?_
      rw [hg, ← hI]; rfl

theorem size0 (s : ByteArray) : s.size < 1 ↔ s = B #[] := by
  constructor
  · intro h
    obtain ⟨l⟩ := s
    have : l = #[] := Array.eq_empty_of_size_eq_zero (by have : l.size < 1 := h; omega)
    rw [this]
  · rintro rfl; decide

theorem rname_fn (s : ByteArray) : Does Tryd.prog 22 [.d (.v (.string s))] (.d (.v (.int .i64 (nameErr s)))) 0 := by
  refine Does.of_W (n := 23) (ts := [2]) Tryd.func22 (by kernel_rfl) rfl Tryd.ntmps22 Tryd.results22 rfl rfl fun C hC hG => ?_
  refine W.seq ?_
  refine W.region ?_
  refine pu (ev tab rfl) rfl ?_
  refine WO.nil ?_
  refine qs ?_
  refine W.seq ?_
  refine W.seq ?_
  apply regionB; (case hb => rfl)
  · skip
    iterate 4 refine pu (ev tab rfl) rfl ?_
    apply splitJ; (case hj => rfl); (case hl => rfl)
    · skip
      refine skipT rfl rfl rfl rfl ?_
      refine skipT rfl rfl rfl rfl ?_
      refine skipT rfl rfl rfl rfl ?_
      refine pu (ev tab rfl) rfl ?_
      refine WO.nil ?_
      refine qv1 rfl rfl rfl
    · skip
      refine goG rfl rfl ?_
      refine pu (ev tab rfl) rfl ?_
      refine goG rfl rfl ?_
      refine pu (ev tab rfl) rfl ?_
      refine goG rfl rfl ?_
      iterate 2 refine pu (ev tab rfl) rfl ?_
      refine WO.nil ?_
      refine qv1 rfl rfl rfl
  refine qs ?_
  refine condK rfl (fun h11 => ?_) (fun h11 => ?_)
  · skip
    have h11 : s = B #[] ∨ 40 < s.size := by
      rw [← size0]
      by_cases q : s.size < 1
      · exact .inl q
      · have q' : ¬ ((s.size : Int) < 1) := by omega
        simp [q'] at h11
        exact .inr (by omega)
    have hg : nameErr s = 3 := by unfold nameErr; rw [if_pos (by grind)]
    refine W.seq ?_
    refine W.region ?_
    refine pu (ev tab rfl) rfl ?_
    refine WO.nil ?_
    refine qs ?_
    refine W.ret ?_
    refine qsRet ?_
    refine QF.ret0 trivial rfl ?_
    rw [hg]; rfl
  · skip
    have h11 : ¬ (s = B #[] ∨ 40 < s.size) := by
      rw [← size0]
      by_cases q : (s.size : Int) < 1
      · simp [q] at h11
      · simp [q] at h11
        omega
    refine W.skip ?_
    refine qs ?_
    refine W.seq ?_
    refine W.seq ?_
    refine W.region ?_
    refine pu (ev tab rfl) rfl ?_
    refine WO.nil ?_
    refine qs ?_
    refine W.block ?_
    refine W.inRange (t := 0) rfl (fun hok => ?_)
    have hlen := okc_size hok
    refine W.loopR (ι := {x : Nat // match x with | k => k ≤ (bys s).length ∧ ((bys s).drop k).all letterB = (bys s).all letterB})
      (fun x => match x.1 with | k => [(3, .d (.v (.int .i64 ((k : Nat) : Int))))]) [(0, _)]
      (fun x => match x.1 with | k => []) [] [] 0 (fun x => match x.1 with | k => (bys s).length - k)
      [] ⟨0, ?_⟩ rfl ?_ ⟨rfl, rfl, trivial⟩ ?_ trivial rfl ?_
    · first | exact ⟨Nat.zero_le _, rfl⟩ | exact trivial | simp
    · repeat' first | exact trivial | refine ⟨rfl, ?_⟩ | refine ⟨step_nat (by assumption) (by assumption), ?_⟩
    · repeat' first | exact trivial | refine ⟨rfl, ?_⟩ | refine ⟨step_nat (by assumption) (by assumption), ?_⟩
    rintro ⟨k, hk, hI⟩
    show W _ _ _ _ _ ⟨[(3, .d (.v (.int .i64 ((k : Nat) : Int)))), (0, _)], [], [], 0⟩
    refine W.seq ?_
    refine W.seq ?_
    refine W.region ?_
    iterate 4 refine pu (ev tab rfl) rfl ?_
    refine WO.nil ?_
    refine qs ?_
    refine eachR (l := bys s) (k := k) rfl (by simp [Ex.kc_len, bytes_len]) hk (fun b hx hd hlt => ?_) (fun he hd => ?_)
    · skip
      rw [hd, List.all_cons] at hI
      refine W.skip ?_
      refine qs ?_
      refine W.seq ?_
      refine W.block ?_
      refine W.seq ?_
      refine W.region ?_
      iterate 2 refine pu (ev tab rfl) rfl ?_
      refine pu (indexStr tab rfl rfl rfl rfl (Int.natCast_nonneg _) (byteList (by assumption))) rfl ?_
      refine pu (puCall rfl rfl rfl (rletter_fn ..) rfl) rfl ?_
      refine pu (ev tab rfl) rfl ?_
      refine WO.nil ?_
      refine qs ?_
      refine condK rfl (fun h22 => ?_) (fun h22 => ?_)
      · skip
        refine W.seq ?_
        refine W.region ?_
        refine pu (ev tab rfl) rfl ?_
        refine WO.nil ?_
        refine qs ?_
        refine W.ret ?_
        refine qbRet ?_
        refine qsRet ?_
        refine qlRet ?_
        refine qbRet ?_
        refine qsRet ?_
        refine QF.ret0 trivial rfl ?_
        simp only [norm, oneA]; unfold nameErr; grind
      · skip
        refine W.skip ?_
        refine qbN ?_
        refine qs ?_
        refine W.region ?_
        iterate 3 refine pu (ev tab rfl) rfl ?_
        refine WO.nil ?_
        refine W.endR [] ⟨k + 1, ?_⟩ ?_ rfl ?_ ⟨rfl, rfl, trivial⟩ ?_ trivial rfl
        · exact ⟨hlt, by rw [← hI]; simp_all⟩
        · dsimp only; omega
        · repeat' first | exact trivial | refine ⟨rfl, ?_⟩ | refine ⟨step_nat (by assumption) (by assumption), ?_⟩
        · repeat' first | exact trivial | refine ⟨rfl, ?_⟩ | refine ⟨step_nat (by assumption) (by assumption), ?_⟩
    · skip
      rw [hd] at hI
      refine W.exit ?_
      refine qsExit ?_
      refine qlExit ?_
      refine qbExit ?_
      refine qs ?_
      refine W.seq ?_
      refine W.region ?_
      refine pu (ev tab rfl) rfl ?_
      refine WO.nil ?_
      refine qs ?_
      refine W.ret ?_
      refine QF.ret0 trivial rfl ?_
      simp only [norm, oneA]; unfold nameErr; grind


theorem frames_step {l : List ByteArray} {k : Nat} {s : ByteArray} (hd : l.drop k = s :: l.drop (k + 1)) : (l.drop k).any (fun s => decide (nameErr s ≠ 0)) = (decide (nameErr s ≠ 0) || (l.drop (k + 1)).any (fun s => decide (nameErr s ≠ 0))) := by rw [hd, List.any_cons]
theorem name_03 (s : ByteArray) : nameErr s = 0 ∨ nameErr s = 3 := by unfold nameErr; split <;> simp
theorem frames_fn (l : List ByteArray) : Does Tryd.prog 42 [.d (.sl (txs l))] (.d (.v (.int .i64 (framesErr l)))) 0 := by
  refine Does.of_W (n := 21) (ts := [2]) Tryd.func42 (by kernel_rfl) rfl Tryd.ntmps42 Tryd.results42 rfl rfl fun C hC hG => ?_
  refine W.seq ?_
  refine W.region ?_
  refine pu (ev tab rfl) rfl ?_
  refine WO.nil ?_
  refine qs ?_
  refine W.seq ?_
  refine W.seq ?_
  refine W.region ?_
  iterate 3 refine pu (ev tab rfl) rfl ?_
  refine WO.nil ?_
  refine qs ?_
  refine condK rfl (fun h8 => ?_) (fun h8 => ?_)
  · skip
    have hg : framesErr l = 7 := by unfold framesErr; rw [if_pos (by simp at h8; omega)]
    refine W.seq ?_
    refine W.region ?_
    refine pu (ev tab rfl) rfl ?_
    refine WO.nil ?_
    refine qs ?_
    refine W.ret ?_
    refine qsRet ?_
    refine QF.ret0 trivial rfl ?_
    rw [hg]; rfl
  · skip
    have hg : framesErr l = if l.any (fun s => decide (nameErr s ≠ 0)) then 3 else 0 := by unfold framesErr; rw [if_neg (by simp at h8; omega)]
    refine W.skip ?_
    refine qs ?_
    refine W.seq ?_
    refine W.seq ?_
    refine W.region ?_
    iterate 3 refine pu (ev tab rfl) rfl ?_
    refine WO.nil ?_
    refine qs ?_
    refine W.block ?_
    refine W.len (t := 0) rfl rfl (fun hlen => ?_)
    try simp only [List.length_map, Ex.kc_len] at hlen
    refine W.loopR (ι := {x : Nat // match x with | k => k ≤ l.length ∧ (l.drop k).any (fun s => decide (nameErr s ≠ 0)) = l.any (fun s => decide (nameErr s ≠ 0))})
      (fun x => match x.1 with | k => [(11, .d (.v (.int .i64 ((k : Nat) : Int))))]) [(9, _), (10, _)]
      (fun x => match x.1 with | k => []) [] [] 0 (fun x => match x.1 with | k => l.length - k)
      [] ⟨0, ?_⟩ rfl ?_ ⟨rfl, rfl, rfl, rfl, trivial⟩ ?_ trivial rfl ?_
    · first | exact ⟨Nat.zero_le _, rfl⟩ | exact trivial | simp
    · repeat' first | exact trivial | refine ⟨rfl, ?_⟩ | refine ⟨step_nat (by assumption) (by assumption), ?_⟩
    · repeat' first | exact trivial | refine ⟨rfl, ?_⟩ | refine ⟨step_nat (by assumption) (by assumption), ?_⟩
    rintro ⟨k, hk, hI⟩
    show W _ _ _ _ _ ⟨[(11, .d (.v (.int .i64 ((k : Nat) : Int)))), (9, _), (10, _)], [], [], 0⟩
    refine W.seq ?_
    refine W.region ?_
    refine pu (ev tab rfl) rfl ?_
    refine WO.nil ?_
    refine qs ?_
    refine W.seq ?_
    refine eachR (l := l) (k := k) rfl (by simp [Ex.kc_len, bytes_len]) hk (fun s hx hd hlt => ?_) (fun he hd => ?_)
    · skip
      rw [hd, List.any_cons] at hI
      refine W.skip ?_
      refine qs ?_
      refine W.seq ?_
      refine W.block ?_
      refine W.seq ?_
      refine W.region ?_
      refine pu (indexAddr tab rfl rfl rfl rfl rfl rfl (Int.natCast_nonneg _) (idx_map hx) rfl) rfl ?_
      first | refine pu (ev tab rfl) rfl ?_ | refine pu (loadRow tab rfl rfl rfl rfl) rfl ?_ | refine pu (loadBox tab rfl rfl rfl rfl rfl) rfl ?_
      refine pu (ev tab rfl) rfl ?_
      refine WO.nil ?_
      refine qs ?_
      refine W.seq ?_
      refine W.region ?_
      refine pu (ev tab rfl) rfl ?_
      refine pu (puCall rfl rfl rfl (name_fn s) rfl) rfl ?_
      refine pu (ev tab rfl) rfl ?_
      refine WO.nil ?_
      refine qs ?_
      refine W.seq ?_
      refine W.region ?_
      iterate 2 refine pu (ev tab rfl) rfl ?_
      refine WO.nil ?_
      refine qs ?_
      refine condK rfl (fun h18 => ?_) (fun h18 => ?_)
      · skip
        have hn : nameErr s = 3 := by rcases name_03 s with q | q <;> simp_all
        rw [hn] at hI
        refine W.seq ?_
        refine W.region ?_
        iterate 2 refine pu (ev tab rfl) rfl ?_
        refine WO.nil ?_
        refine qs ?_
        refine W.ret ?_
        refine qbRet ?_
        refine qsRet ?_
        refine qlRet ?_
        refine qbRet ?_
        refine qsRet ?_
        refine QF.ret0 trivial rfl ?_
        rw [hg, ← hI]; simp [norm, oneA, hn]
      · skip
        have hn : nameErr s = 0 := by simpa using h18
        rw [hn] at hI
        refine W.skip ?_
        refine qbN ?_
        refine qs ?_
        refine W.region ?_
        iterate 2 refine pu (ev tab rfl) rfl ?_
        refine WO.nil ?_
        refine W.endR [] ⟨k + 1, ?_⟩ ?_ rfl ?_ ⟨rfl, rfl, rfl, rfl, trivial⟩ ?_ trivial rfl
        · exact ⟨hlt, by simpa using hI⟩
        · dsimp only; omega
        · repeat' first | exact trivial | refine ⟨rfl, ?_⟩ | refine ⟨step_nat (by assumption) (by assumption), ?_⟩
        · repeat' first | exact trivial | refine ⟨rfl, ?_⟩ | refine ⟨step_nat (by assumption) (by assumption), ?_⟩
    · skip
      rw [hd, List.any_nil] at hI
      refine W.exit ?_
      refine qsExit ?_
      refine qlExit ?_
      refine qbExit ?_
      refine qs ?_
      refine W.seq ?_
      refine W.region ?_
      refine pu (ev tab rfl) rfl ?_
      refine WO.nil ?_
      refine qs ?_
      refine W.ret ?_
      refine QF.ret0 trivial rfl ?_
      rw [hg, ← hI]; rfl
theorem rframes_fn (l : List ByteArray) : Does Tryd.prog 23 [.d (.sl (txs l))] (.d (.v (.int .i64 (framesErr l)))) 0 := by
  refine Does.of_W (n := 19) (ts := [2]) Tryd.func23 (by kernel_rfl) rfl Tryd.ntmps23 Tryd.results23 rfl rfl fun C hC hG => ?_
  refine W.seq ?_
  refine W.region ?_
  refine pu (ev tab rfl) rfl ?_
  refine WO.nil ?_
  refine qs ?_
  refine W.seq ?_
  refine W.seq ?_
  refine W.region ?_
  iterate 3 refine pu (ev tab rfl) rfl ?_
  refine WO.nil ?_
  refine qs ?_
  refine condK rfl (fun h6 => ?_) (fun h6 => ?_)
  · skip
    have hg : framesErr l = 7 := by unfold framesErr; rw [if_pos (by simp at h6; omega)]
    refine W.seq ?_
    refine W.region ?_
    refine pu (ev tab rfl) rfl ?_
    refine WO.nil ?_
    refine qs ?_
    refine W.ret ?_
    refine qsRet ?_
    refine QF.ret0 trivial rfl ?_
    rw [hg]; rfl
  · skip
    have hg : framesErr l = if l.any (fun s => decide (nameErr s ≠ 0)) then 3 else 0 := by unfold framesErr; rw [if_neg (by simp at h6; omega)]
    refine W.skip ?_
    refine qs ?_
    refine W.seq ?_
    refine W.seq ?_
    refine W.region ?_
    refine pu (ev tab rfl) rfl ?_
    refine WO.nil ?_
    refine qs ?_
    refine W.block ?_
    refine W.len (t := 0) rfl rfl (fun hlen => ?_)
    try simp only [List.length_map, Ex.kc_len] at hlen
    refine W.loopR (ι := {x : Nat // match x with | k => k ≤ l.length ∧ (l.drop k).any (fun s => decide (nameErr s ≠ 0)) = l.any (fun s => decide (nameErr s ≠ 0))})
      (fun x => match x.1 with | k => [(3, .d (.v (.int .i64 ((k : Nat) : Int))))]) [(0, _)]
      (fun x => match x.1 with | k => []) [] [] 0 (fun x => match x.1 with | k => l.length - k)
      [] ⟨0, ?_⟩ rfl ?_ ⟨rfl, rfl, trivial⟩ ?_ trivial rfl ?_
    · first | exact ⟨Nat.zero_le _, rfl⟩ | exact trivial | simp
    · repeat' first | exact trivial | refine ⟨rfl, ?_⟩ | refine ⟨step_nat (by assumption) (by assumption), ?_⟩
    · repeat' first | exact trivial | refine ⟨rfl, ?_⟩ | refine ⟨step_nat (by assumption) (by assumption), ?_⟩
    rintro ⟨k, hk, hI⟩
    show W _ _ _ _ _ ⟨[(3, .d (.v (.int .i64 ((k : Nat) : Int)))), (0, _)], [], [], 0⟩
    refine W.seq ?_
    refine W.seq ?_
    refine W.region ?_
    iterate 4 refine pu (ev tab rfl) rfl ?_
    refine WO.nil ?_
    refine qs ?_
    refine eachR (l := l) (k := k) rfl (by simp [Ex.kc_len, bytes_len]) hk (fun s hx hd hlt => ?_) (fun he hd => ?_)
    · skip
      rw [hd, List.any_cons] at hI
      refine W.skip ?_
      refine qs ?_
      refine W.seq ?_
      refine W.block ?_
      refine W.seq ?_
      refine W.region ?_
      iterate 2 refine pu (ev tab rfl) rfl ?_
      refine pu (indexAddr tab rfl rfl rfl rfl rfl rfl (Int.natCast_nonneg _) (idx_map hx) rfl) rfl ?_
      first | refine pu (ev tab rfl) rfl ?_ | refine pu (loadRow tab rfl rfl rfl rfl) rfl ?_ | refine pu (loadBox tab rfl rfl rfl rfl rfl) rfl ?_
      refine pu (puCall rfl rfl rfl (rname_fn s) rfl) rfl ?_
      refine pu (ev tab rfl) rfl ?_
      refine WO.nil ?_
      refine qs ?_
      refine condK rfl (fun h18 => ?_) (fun h18 => ?_)
      · skip
        have hn : nameErr s = 3 := by rcases name_03 s with q | q <;> simp_all
        rw [hn] at hI
        refine W.seq ?_
        refine W.region ?_
        refine pu (ev tab rfl) rfl ?_
        refine WO.nil ?_
        refine qs ?_
        refine W.ret ?_
        refine qbRet ?_
        refine qsRet ?_
        refine qlRet ?_
        refine qbRet ?_
        refine qsRet ?_
        refine QF.ret0 trivial rfl ?_
        rw [hg, ← hI]; rfl
      · skip
        have hn : nameErr s = 0 := by simpa using h18
        rw [hn] at hI
        refine W.skip ?_
        refine qbN ?_
        refine qs ?_
        refine W.region ?_
        iterate 3 refine pu (ev tab rfl) rfl ?_
        refine WO.nil ?_
        refine W.endR [] ⟨k + 1, ?_⟩ ?_ rfl ?_ ⟨rfl, rfl, trivial⟩ ?_ trivial rfl
        · exact ⟨hlt, by simpa using hI⟩
        · dsimp only; omega
        · repeat' first | exact trivial | refine ⟨rfl, ?_⟩ | refine ⟨step_nat (by assumption) (by assumption), ?_⟩
        · repeat' first | exact trivial | refine ⟨rfl, ?_⟩ | refine ⟨step_nat (by assumption) (by assumption), ?_⟩
    · skip
      rw [hd, List.any_nil] at hI
      refine W.exit ?_
      refine qsExit ?_
      refine qlExit ?_
      refine qbExit ?_
      refine qs ?_
      refine W.seq ?_
      refine W.region ?_
      refine pu (ev tab rfl) rfl ?_
      refine WO.nil ?_
      refine qs ?_
      refine W.ret ?_
      refine QF.ret0 trivial rfl ?_
      rw [hg, ← hI]; rfl
theorem forms_fn : Does Tryd.prog 35 [] (.d (.sl (frms.map Frm.c))) 0 := by
  refine Does.of_W (n := 15) (ts := [0]) Tryd.func35 (by kernel_rfl) rfl Tryd.ntmps35 Tryd.results35 rfl rfl fun C hC hG => ?_
  refine W.seq ?_
  refine W.region ?_
  refine pu (ev tab rfl) rfl ?_
  refine WO.nil ?_
  refine qs ?_
  refine W.seq ?_
  refine W.region ?_
  refine pu (build tab rfl rfl rfl rfl) rfl ?_
  refine pu (build tab rfl rfl rfl rfl) rfl ?_
  refine pu (build tab rfl rfl rfl rfl) rfl ?_
  refine pu (build tab rfl rfl rfl rfl) rfl ?_
  refine pu (build tab rfl rfl rfl rfl) rfl ?_
  refine pu (build tab rfl rfl rfl rfl) rfl ?_
  refine pu (build tab rfl rfl rfl rfl) rfl ?_
  refine pu (build tab rfl rfl rfl rfl) rfl ?_
  refine pu (build tab rfl rfl rfl rfl) rfl ?_
  refine pu (build tab rfl rfl rfl rfl) rfl ?_
  refine pu (build tab rfl rfl rfl rfl) rfl ?_
  refine pu (build tab rfl rfl rfl rfl) rfl ?_
  refine pu (build tab rfl rfl rfl rfl) rfl ?_
  refine pu (buildV tab rfl rfl rfl rfl rfl rfl rfl rfl rfl) rfl ?_
  refine pu (ev tab rfl) rfl ?_
  refine WO.nil ?_
  refine qs ?_
  refine W.ret ?_
  refine QF.ret0 trivial rfl ?_
  rfl
theorem frm_at {k : Int} (h1 : 1 ≤ k) (h2 : k < 13) : frms[k.toNat]? = some (frmOf k) := by
  rcases kinds h1 h2 with h | h | h | h | h | h | h | h | h | h | h | h <;> subst h <;> rfl
theorem formOf_fn (k : Int) : Does Tryd.prog 19 [.d (.v (.int .i64 k))] (.tup [.ag (frmOf k).c, .d (.v (.bool (frmIs k)))]) 0 := by
  refine Does.of_V tab (n := 19) (rs := [.cell 2 39, .tmp 3]) Tryd.func19 (by kernel_rfl) rfl Tryd.ntmps19 Tryd.results19 rfl fun C hC hG => ?_
  refine W.seq ?_
  refine W.region ?_
  refine allocR tab rfl rfl rfl ?_
  refine pu (ev tab rfl) rfl ?_
  refine WO.nil ?_
  refine qs ?_
  refine W.seq ?_
  refine W.region ?_
  refine pu (puCall rfl rfl rfl (forms_fn ..) rfl) rfl ?_
  refine pu (ev tab rfl) rfl ?_
  refine WO.nil ?_
  refine qs ?_
  refine W.seq ?_
  refine W.seq ?_
  apply regionB; (case hb => rfl)
  · skip
    iterate 3 refine pu (ev tab rfl) rfl ?_
    apply splitJ; (case hj => rfl); (case hl => rfl)
    · skip
      refine skipT rfl rfl rfl rfl ?_
      refine skipT rfl rfl rfl rfl ?_
      refine skipT rfl rfl rfl rfl ?_
      refine skipT rfl rfl rfl rfl ?_
      refine pu (ev tab rfl) rfl ?_
      refine WO.nil ?_
      refine qv1 rfl rfl rfl
    · skip
      refine goG rfl rfl ?_
      refine pu (ev tab rfl) rfl ?_
      refine goG rfl rfl ?_
      refine pu (ev tab rfl) rfl ?_
      refine goG rfl rfl ?_
      refine pu (ev tab rfl) rfl ?_
      refine goG rfl rfl ?_
      iterate 2 refine pu (ev tab rfl) rfl ?_
      refine WO.nil ?_
      refine qv1 rfl rfl rfl
  refine qs ?_
  refine condK rfl (fun h13 => ?_) (fun h13 => ?_)
  · skip
    have hg : frmOf k = frm0 ∧ frmIs k = false := by
      have : k < 1 ∨ 13 ≤ k := by simp at h13; revert h13; show _ → _; intro h; simpa [frms] using h
      exact ⟨by unfold frmOf; rw [if_pos this], by simp [frmIs]; omega⟩
    refine W.seq ?_
    refine W.region ?_
    refine pu (build tab rfl rfl rfl rfl) rfl ?_
    refine storeR tab rfl rfl rfl rfl rfl rfl rfl rfl ?_
    refine pu (ev tab rfl) rfl ?_
    refine WO.nil ?_
    refine qs ?_
    refine W.ret ?_
    refine qsRet ?_
    refine QV.ret0 tab trivial rfl ?_
    rw [hg.1, hg.2]; rfl
  · skip
    have h12 : 1 ≤ k ∧ k < 13 := by simp at h13; simpa [frms] using h13
    have hg : frmIs k = true := by simp [frmIs]; omega
    refine W.skip ?_
    refine qs ?_
    refine W.seq ?_
    refine W.region ?_
    iterate 2 refine pu (ev tab rfl) rfl ?_
    refine pu (indexAddr tab rfl rfl rfl rfl rfl rfl (by omega) (idx_map (frm_at h12.1 h12.2)) rfl) rfl ?_
    first | refine pu (ev tab rfl) rfl ?_ | refine pu (loadRow tab rfl rfl rfl rfl) rfl ?_ | refine pu (loadBox tab rfl rfl rfl rfl rfl) rfl ?_
    refine storeR tab rfl rfl rfl rfl rfl rfl rfl rfl ?_
    refine pu (ev tab rfl) rfl ?_
    refine WO.nil ?_
    refine qs ?_
    refine W.ret ?_
    refine QV.ret0 tab trivial rfl ?_
    rw [hg]; rfl
theorem names_fn (f : Frm) (e : Ev) : Does Tryd.prog 20 [.ag f.c, .ag e.c] (.d (.v (.int .i64 (namesE f e)))) 0 := by
  refine Does.of_W (n := 13) (ts := [4]) Tryd.func20 (by kernel_rfl) rfl Tryd.ntmps20 Tryd.results20 rfl rfl fun C hC hG => ?_
  refine W.seq ?_
  refine W.region ?_
  refine boxR rfl rfl rfl ?_
  refine boxR rfl rfl rfl ?_
  refine pu (ev tab rfl) rfl ?_
  refine WO.nil ?_
  refine qs ?_
  refine W.seq ?_
  refine W.seq ?_
  refine W.region ?_
  refine pu (ev tab rfl) rfl ?_
  first | refine pu (ev tab rfl) rfl ?_ | refine pu (loadRow tab rfl rfl rfl rfl) rfl ?_ | refine pu (loadBox tab rfl rfl rfl rfl rfl) rfl ?_
  refine WO.nil ?_
  refine qs ?_
  refine condK rfl (fun h6 => ?_) (fun h6 => ?_)
  · skip
    refine W.seq ?_
    refine W.region ?_
    refine pu (ev tab rfl) rfl ?_
    first | refine pu (ev tab rfl) rfl ?_ | refine pu (loadRow tab rfl rfl rfl rfl) rfl ?_ | refine pu (loadBox tab rfl rfl rfl rfl rfl) rfl ?_
    refine pu (puCall rfl rfl rfl (name_fn ..) rfl) rfl ?_
    refine pu (ev tab rfl) rfl ?_
    refine WO.nil ?_
    refine qs ?_
    refine W.ret ?_
    refine qsRet ?_
    refine QF.ret0 trivial rfl ?_
    simp only [norm, oneA]; grind [namesE]
  · skip
    refine W.skip ?_
    refine qs ?_
    refine W.seq ?_
    refine W.region ?_
    refine pu (ev tab rfl) rfl ?_
    first | refine pu (ev tab rfl) rfl ?_ | refine pu (loadRow tab rfl rfl rfl rfl) rfl ?_ | refine pu (loadBox tab rfl rfl rfl rfl rfl) rfl ?_
    refine pu (puCall rfl rfl rfl (frames_fn ..) rfl) rfl ?_
    refine pu (ev tab rfl) rfl ?_
    refine WO.nil ?_
    refine qs ?_
    refine W.ret ?_
    refine QF.ret0 trivial rfl ?_
    simp only [norm, oneA]; grind [namesE]
theorem shows_fn (f : Frm) (n : Int) : Does Tryd.prog 26 [.ag f.c, .d (.v (.int .i64 n))] (.d (.v (.bool (f.m && (!decide (f.word = B #[115, 116, 111, 112]) || decide (n = 2)))))) 0 := by
  refine Does.of_W (n := 16) (ts := [4]) Tryd.func26 (by kernel_rfl) rfl Tryd.ntmps26 Tryd.results26 rfl rfl fun C hC hG => ?_
  refine W.seq ?_
  refine W.region ?_
  refine boxR rfl rfl rfl ?_
  refine pu (ev tab rfl) rfl ?_
  refine WO.nil ?_
  refine qs ?_
  refine W.seq ?_
  apply regionB; (case hb => rfl)
  · skip
    refine pu (ev tab rfl) rfl ?_
    first | refine pu (ev tab rfl) rfl ?_ | refine pu (loadRow tab rfl rfl rfl rfl) rfl ?_ | refine pu (loadBox tab rfl rfl rfl rfl rfl) rfl ?_
    refine pu (ev tab rfl) rfl ?_
    apply splitJ; (case hj => rfl); (case hl => rfl)
    · skip
      refine goG rfl rfl ?_
      refine pu (ev tab rfl) rfl ?_
      refine goG rfl rfl ?_
      first | refine pu (ev tab rfl) rfl ?_ | refine pu (loadRow tab rfl rfl rfl rfl) rfl ?_ | refine pu (loadBox tab rfl rfl rfl rfl rfl) rfl ?_
      refine goG rfl rfl ?_
      refine pu (ev tab rfl) rfl ?_
      refine goG rfl rfl ?_
      refine pu (ev tab rfl) rfl ?_
      apply splitJ; (case hj => rfl); (case hl => rfl)
      · skip
        refine skipT rfl rfl rfl rfl ?_
        refine skipT rfl rfl rfl rfl ?_
        refine goG rfl rfl ?_
        iterate 3 refine pu (ev tab rfl) rfl ?_
        refine WO.nil ?_
        refine qv1 rfl rfl rfl
      · skip
        refine goG rfl rfl ?_
        refine pu (ev tab rfl) rfl ?_
        refine goG rfl rfl ?_
        refine pu (ev tab rfl) rfl ?_
        refine goG rfl rfl ?_
        iterate 3 refine pu (ev tab rfl) rfl ?_
        refine WO.nil ?_
        refine qv1 rfl rfl rfl
    · skip
      refine skipT rfl rfl rfl rfl ?_
      refine skipT rfl rfl rfl rfl ?_
      refine skipT rfl rfl rfl rfl ?_
      refine skipT rfl rfl rfl rfl ?_
      refine skipU rfl rfl rfl ?_
      refine skipU rfl rfl rfl ?_
      refine skipT rfl rfl rfl rfl ?_
      iterate 2 refine pu (ev tab rfl) rfl ?_
      refine WO.nil ?_
      refine qv1 rfl rfl rfl
  refine qs ?_
  refine W.ret ?_
  refine QF.ret0 trivial rfl ?_
  simp only [norm, oneA]; grind
theorem within_fn2 (n lo hi : Int) : Does Tryd.prog 44 [.d (.v (.int .i64 n)), .d (.v (.int .i64 lo)), .d (.v (.int .i64 hi))] (.d (.v (.int .i64 (within n lo hi)))) 0 := by
  refine Does.of_W (n := 15) (ts := [6]) Tryd.func44 (by kernel_rfl) rfl Tryd.ntmps44 Tryd.results44 rfl rfl fun C hC hG => ?_
  refine W.seq ?_
  refine W.region ?_
  refine pu (ev tab rfl) rfl ?_
  refine WO.nil ?_
  refine qs ?_
  refine W.seq ?_
  refine W.seq ?_
  apply regionB; (case hb => rfl)
  · skip
    iterate 4 refine pu (ev tab rfl) rfl ?_
    apply splitJ; (case hj => rfl); (case hl => rfl)
    · skip
      refine skipT rfl rfl rfl rfl ?_
      refine skipT rfl rfl rfl rfl ?_
      refine skipT rfl rfl rfl rfl ?_
      refine pu (ev tab rfl) rfl ?_
      refine WO.nil ?_
      refine qv1 rfl rfl rfl
    · skip
      refine goG rfl rfl ?_
      refine pu (ev tab rfl) rfl ?_
      refine goG rfl rfl ?_
      refine pu (ev tab rfl) rfl ?_
      refine goG rfl rfl ?_
      iterate 2 refine pu (ev tab rfl) rfl ?_
      refine WO.nil ?_
      refine qv1 rfl rfl rfl
  refine qs ?_
  refine condK rfl (fun h14 => ?_) (fun h14 => ?_)
  · skip
    refine W.seq ?_
    refine W.region ?_
    refine pu (ev tab rfl) rfl ?_
    refine WO.nil ?_
    refine qs ?_
    refine W.ret ?_
    refine qsRet ?_
    refine QF.ret0 trivial rfl ?_
    simp only [norm, oneA]; grind [within]
  · skip
    refine W.skip ?_
    refine qs ?_
    refine W.seq ?_
    refine W.region ?_
    refine pu (ev tab rfl) rfl ?_
    refine WO.nil ?_
    refine qs ?_
    refine W.ret ?_
    refine QF.ret0 trivial rfl ?_
    simp only [norm, oneA]; grind [within]
theorem uses_fn2 (k : Int) : Does Tryd.prog 21 [.d (.v (.int .i64 k))] (.tup [.d (.v (.bool (usesName k))), .d (.v (.bool (usesN k))), .d (.v (.bool (usesM k))), .d (.v (.bool (usesStack k)))]) 0 := by
  refine Does.of_W (n := 38) (ts := [2, 3, 4, 5]) Tryd.func21 (by kernel_rfl) rfl Tryd.ntmps21 Tryd.results21 rfl rfl fun C hC hG => ?_
  refine W.seq ?_
  refine W.region ?_
  iterate 4 refine pu (ev tab rfl) rfl ?_
  refine WO.nil ?_
  refine qs ?_
  refine W.seq ?_
  apply regionB; (case hb => rfl)
  · skip
    iterate 3 refine pu (ev tab rfl) rfl ?_
    apply splitJ; (case hj => rfl); (case hl => rfl)
    · skip
      refine skipT rfl rfl rfl rfl ?_
      refine skipT rfl rfl rfl rfl ?_
      iterate 2 refine pu (ev tab rfl) rfl ?_
      refine skipT rfl rfl rfl rfl ?_
      refine skipT rfl rfl rfl rfl ?_
      iterate 2 refine pu (ev tab rfl) rfl ?_
      refine WO.nil ?_
      refine qv1 rfl rfl rfl
    · skip
      refine goG rfl rfl ?_
      refine pu (ev tab rfl) rfl ?_
      refine goG rfl rfl ?_
      iterate 3 refine pu (ev tab rfl) rfl ?_
      apply splitJ; (case hj => rfl); (case hl => rfl)
      · skip
        refine skipT rfl rfl rfl rfl ?_
        refine skipT rfl rfl rfl rfl ?_
        iterate 2 refine pu (ev tab rfl) rfl ?_
        refine WO.nil ?_
        refine qv1 rfl rfl rfl
      · skip
        refine goG rfl rfl ?_
        refine pu (ev tab rfl) rfl ?_
        refine goG rfl rfl ?_
        iterate 3 refine pu (ev tab rfl) rfl ?_
        refine WO.nil ?_
        refine qv1 rfl rfl rfl
  refine qs ?_
  refine W.seq ?_
  refine W.region ?_
  iterate 3 refine pu (ev tab rfl) rfl ?_
  refine WO.nil ?_
  refine qs ?_
  refine W.seq ?_
  apply regionB; (case hb => rfl)
  · skip
    iterate 3 refine pu (ev tab rfl) rfl ?_
    apply splitJ; (case hj => rfl); (case hl => rfl)
    · skip
      refine skipT rfl rfl rfl rfl ?_
      refine skipT rfl rfl rfl rfl ?_
      iterate 2 refine pu (ev tab rfl) rfl ?_
      refine WO.nil ?_
      refine qv1 rfl rfl rfl
    · skip
      refine goG rfl rfl ?_
      refine pu (ev tab rfl) rfl ?_
      refine goG rfl rfl ?_
      iterate 3 refine pu (ev tab rfl) rfl ?_
      refine WO.nil ?_
      refine qv1 rfl rfl rfl
  refine qs ?_
  refine W.seq ?_
  apply regionB; (case hb => rfl)
  · skip
    iterate 3 refine pu (ev tab rfl) rfl ?_
    apply splitJ; (case hj => rfl); (case hl => rfl)
    · skip
      refine skipT rfl rfl rfl rfl ?_
      refine skipT rfl rfl rfl rfl ?_
      iterate 2 refine pu (ev tab rfl) rfl ?_
      refine WO.nil ?_
      refine qv1 rfl rfl rfl
    · skip
      refine goG rfl rfl ?_
      refine pu (ev tab rfl) rfl ?_
      refine goG rfl rfl ?_
      iterate 3 refine pu (ev tab rfl) rfl ?_
      refine WO.nil ?_
      refine qv1 rfl rfl rfl
  refine qs ?_
  refine W.seq ?_
  refine W.region ?_
  iterate 8 refine pu (ev tab rfl) rfl ?_
  refine WO.nil ?_
  refine qs ?_
  refine W.ret ?_
  refine QF.ret0 trivial rfl ?_
  simp only [norm, normL, oneA]; simp only [usesName, usesN, usesM, usesStack]; grind
theorem numbers_fn2 (e : Ev) : Does Tryd.prog 24 [.ag e.c] (.d (.v (.int .i64 (numsE e)))) 0 := by
  refine Does.of_W (n := 63) (ts := [2]) Tryd.func24 (by kernel_rfl) rfl Tryd.ntmps24 Tryd.results24 rfl rfl fun C hC hG => ?_
  refine W.seq ?_
  refine W.region ?_
  refine boxR rfl rfl rfl ?_
  refine pu (ev tab rfl) rfl ?_
  refine WO.nil ?_
  refine qs ?_
  refine W.seq ?_
  refine W.seq ?_
  refine W.region ?_
  refine pu (ev tab rfl) rfl ?_
  first | refine pu (ev tab rfl) rfl ?_ | refine pu (loadRow tab rfl rfl rfl rfl) rfl ?_ | refine pu (loadBox tab rfl rfl rfl rfl rfl) rfl ?_
  refine WO.nil ?_
  refine qs ?_
  refine W.block ?_
  refine W.seq ?_
  refine W.seq ?_
  refine W.region ?_
  iterate 2 refine pu (ev tab rfl) rfl ?_
  refine WO.nil ?_
  refine qs ?_
  refine condK rfl (fun h7 => ?_) (fun h7 => ?_)
  · skip
    refine W.skip ?_
    refine qs ?_
    refine W.condT rfl ?_
    refine W.seq ?_
    refine W.region ?_
    refine pu (ev tab rfl) rfl ?_
    refine WO.nil ?_
    refine qs ?_
    refine W.ret ?_
    refine qbRet ?_
    refine qsRet ?_
    refine QF.ret0 trivial rfl ?_
    simp only [norm, oneA]; grind [numsE]
  · skip
    refine W.seq ?_
    refine W.region ?_
    iterate 2 refine pu (ev tab rfl) rfl ?_
    refine WO.nil ?_
    refine qs ?_
    refine condK rfl (fun h7 => ?_) (fun h7 => ?_)
    · skip
      refine W.skip ?_
      refine qs ?_
      refine W.condT rfl ?_
      refine W.seq ?_
      refine W.region ?_
      refine pu (ev tab rfl) rfl ?_
      refine WO.nil ?_
      refine qs ?_
      refine W.ret ?_
      refine qbRet ?_
      refine qsRet ?_
      refine QF.ret0 trivial rfl ?_
      simp only [norm, oneA]; grind [numsE]
    · skip
      refine W.region ?_
      iterate 2 refine pu (ev tab rfl) rfl ?_
      refine WO.nil ?_
      refine qs ?_
      refine condK rfl (fun h7 => ?_) (fun h7 => ?_)
      · skip
        refine W.seq ?_
        refine W.region ?_
        refine pu (ev tab rfl) rfl ?_
        refine WO.nil ?_
        refine qs ?_
        refine W.ret ?_
        refine qbRet ?_
        refine qsRet ?_
        refine QF.ret0 trivial rfl ?_
        simp only [norm, oneA]; grind [numsE]
      · skip
        refine W.seq ?_
        refine W.region ?_
        iterate 2 refine pu (ev tab rfl) rfl ?_
        refine WO.nil ?_
        refine qs ?_
        refine condK rfl (fun h11 => ?_) (fun h11 => ?_)
        · skip
          refine W.seq ?_
          refine W.region ?_
          refine pu (ev tab rfl) rfl ?_
          first | refine pu (ev tab rfl) rfl ?_ | refine pu (loadRow tab rfl rfl rfl rfl) rfl ?_ | refine pu (loadBox tab rfl rfl rfl rfl rfl) rfl ?_
          refine pu (puCall rfl rfl rfl (within_fn2 ..) rfl) rfl ?_
          refine pu (ev tab rfl) rfl ?_
          refine WO.nil ?_
          refine qs ?_
          refine W.ret ?_
          refine qbRet ?_
          refine qsRet ?_
          refine QF.ret0 trivial rfl ?_
          simp only [norm, oneA]; grind [numsE]
        · skip
          refine W.seq ?_
          refine W.region ?_
          iterate 2 refine pu (ev tab rfl) rfl ?_
          refine WO.nil ?_
          refine qs ?_
          refine condK rfl (fun h16 => ?_) (fun h16 => ?_)
          · skip
            refine W.seq ?_
            refine W.region ?_
            refine pu (ev tab rfl) rfl ?_
            first | refine pu (ev tab rfl) rfl ?_ | refine pu (loadRow tab rfl rfl rfl rfl) rfl ?_ | refine pu (loadBox tab rfl rfl rfl rfl rfl) rfl ?_
            refine pu (puCall rfl rfl rfl (within_fn2 ..) rfl) rfl ?_
            refine pu (ev tab rfl) rfl ?_
            refine WO.nil ?_
            refine qs ?_
            refine W.ret ?_
            refine qbRet ?_
            refine qsRet ?_
            refine QF.ret0 trivial rfl ?_
            simp only [norm, oneA]; grind [numsE]
          · skip
            refine W.seq ?_
            refine W.region ?_
            iterate 2 refine pu (ev tab rfl) rfl ?_
            refine WO.nil ?_
            refine qs ?_
            refine condK rfl (fun h21 => ?_) (fun h21 => ?_)
            · skip
              refine W.seq ?_
              refine W.region ?_
              refine pu (ev tab rfl) rfl ?_
              first | refine pu (ev tab rfl) rfl ?_ | refine pu (loadRow tab rfl rfl rfl rfl) rfl ?_ | refine pu (loadBox tab rfl rfl rfl rfl rfl) rfl ?_
              refine pu (puCall rfl rfl rfl (within_fn2 ..) rfl) rfl ?_
              refine pu (ev tab rfl) rfl ?_
              refine WO.nil ?_
              refine qs ?_
              refine W.ret ?_
              refine qbRet ?_
              refine qsRet ?_
              refine QF.ret0 trivial rfl ?_
              simp only [norm, oneA]; grind [numsE]
            · skip
              refine W.seq ?_
              refine W.region ?_
              iterate 2 refine pu (ev tab rfl) rfl ?_
              refine WO.nil ?_
              refine qs ?_
              refine condK rfl (fun h26 => ?_) (fun h26 => ?_)
              · skip
                refine W.seq ?_
                refine W.region ?_
                refine pu (ev tab rfl) rfl ?_
                first | refine pu (ev tab rfl) rfl ?_ | refine pu (loadRow tab rfl rfl rfl rfl) rfl ?_ | refine pu (loadBox tab rfl rfl rfl rfl rfl) rfl ?_
                refine pu (puCall rfl rfl rfl (within_fn2 ..) rfl) rfl ?_
                refine pu (ev tab rfl) rfl ?_
                refine WO.nil ?_
                refine qs ?_
                refine W.seq ?_
                refine W.seq ?_
                apply regionB; (case hb => rfl)
                · skip
                  iterate 3 refine pu (ev tab rfl) rfl ?_
                  apply splitJ; (case hj => rfl); (case hl => rfl)
                  · skip
                    refine goG rfl rfl ?_
                    refine pu (ev tab rfl) rfl ?_
                    refine goG rfl rfl ?_
                    first | refine pu (ev tab rfl) rfl ?_ | refine pu (loadRow tab rfl rfl rfl rfl) rfl ?_ | refine pu (loadBox tab rfl rfl rfl rfl rfl) rfl ?_
                    refine goG rfl rfl ?_
                    iterate 2 refine pu (ev tab rfl) rfl ?_
                    refine WO.nil ?_
                    refine qv1 rfl rfl rfl
                  · skip
                    refine skipT rfl rfl rfl rfl ?_
                    refine skipT rfl rfl rfl rfl ?_
                    refine skipT rfl rfl rfl rfl ?_
                    refine pu (ev tab rfl) rfl ?_
                    refine WO.nil ?_
                    refine qv1 rfl rfl rfl
                refine qs ?_
                refine condK rfl (fun h37 => ?_) (fun h37 => ?_)
                · skip
                  refine W.seq ?_
                  refine W.region ?_
                  refine pu (ev tab rfl) rfl ?_
                  first | refine pu (ev tab rfl) rfl ?_ | refine pu (loadRow tab rfl rfl rfl rfl) rfl ?_ | refine pu (loadBox tab rfl rfl rfl rfl rfl) rfl ?_
                  refine pu (puCall rfl rfl rfl (within_fn2 ..) rfl) rfl ?_
                  refine pu (ev tab rfl) rfl ?_
                  refine WO.nil ?_
                  refine qs ?_
                  refine W.ret ?_
                  refine qsRet ?_
                  refine qbRet ?_
                  refine qsRet ?_
                  refine QF.ret0 trivial rfl ?_
                  simp only [norm, oneA]; grind [numsE]
                · skip
                  refine W.skip ?_
                  refine qs ?_
                  refine W.seq ?_
                  refine W.seq ?_
                  apply regionB; (case hb => rfl)
                  · skip
                    iterate 3 refine pu (ev tab rfl) rfl ?_
                    apply splitJ; (case hj => rfl); (case hl => rfl)
                    · skip
                      refine goG rfl rfl ?_
                      refine pu (ev tab rfl) rfl ?_
                      refine goG rfl rfl ?_
                      first | refine pu (ev tab rfl) rfl ?_ | refine pu (loadRow tab rfl rfl rfl rfl) rfl ?_ | refine pu (loadBox tab rfl rfl rfl rfl rfl) rfl ?_
                      refine goG rfl rfl ?_
                      iterate 2 refine pu (ev tab rfl) rfl ?_
                      refine WO.nil ?_
                      refine qv1 rfl rfl rfl
                    · skip
                      refine skipT rfl rfl rfl rfl ?_
                      refine skipT rfl rfl rfl rfl ?_
                      refine skipT rfl rfl rfl rfl ?_
                      refine pu (ev tab rfl) rfl ?_
                      refine WO.nil ?_
                      refine qv1 rfl rfl rfl
                  refine qs ?_
                  refine condK rfl (fun h47 => ?_) (fun h47 => ?_)
                  · skip
                    refine W.seq ?_
                    refine W.region ?_
                    refine pu (ev tab rfl) rfl ?_
                    refine WO.nil ?_
                    refine qs ?_
                    refine W.ret ?_
                    refine qsRet ?_
                    refine qbRet ?_
                    refine qsRet ?_
                    refine QF.ret0 trivial rfl ?_
                    simp only [norm, oneA]; grind [numsE]
                  · skip
                    refine W.skip ?_
                    refine qs ?_
                    refine W.seq ?_
                    refine W.region ?_
                    iterate 2 refine pu (ev tab rfl) rfl ?_
                    refine WO.nil ?_
                    refine qs ?_
                    refine W.ret ?_
                    refine qbRet ?_
                    refine qsRet ?_
                    refine QF.ret0 trivial rfl ?_
                    simp only [norm, oneA]; grind [numsE]
              · skip
                refine W.skip ?_
                refine qbN ?_
                refine qs ?_
                refine W.seq ?_
                refine W.region ?_
                refine pu (ev tab rfl) rfl ?_
                first | refine pu (ev tab rfl) rfl ?_ | refine pu (loadRow tab rfl rfl rfl rfl) rfl ?_ | refine pu (loadBox tab rfl rfl rfl rfl rfl) rfl ?_
                refine pu (puCall rfl rfl rfl (within_fn2 ..) rfl) rfl ?_
                refine pu (ev tab rfl) rfl ?_
                refine WO.nil ?_
                refine qs ?_
                refine W.seq ?_
                refine W.seq ?_
                apply regionB; (case hb => rfl)
                · skip
                  iterate 3 refine pu (ev tab rfl) rfl ?_
                  apply splitJ; (case hj => rfl); (case hl => rfl)
                  · skip
                    refine goG rfl rfl ?_
                    refine pu (ev tab rfl) rfl ?_
                    refine goG rfl rfl ?_
                    first | refine pu (ev tab rfl) rfl ?_ | refine pu (loadRow tab rfl rfl rfl rfl) rfl ?_ | refine pu (loadBox tab rfl rfl rfl rfl rfl) rfl ?_
                    refine goG rfl rfl ?_
                    iterate 2 refine pu (ev tab rfl) rfl ?_
                    refine WO.nil ?_
                    refine qv1 rfl rfl rfl
                  · skip
                    refine skipT rfl rfl rfl rfl ?_
                    refine skipT rfl rfl rfl rfl ?_
                    refine skipT rfl rfl rfl rfl ?_
                    refine pu (ev tab rfl) rfl ?_
                    refine WO.nil ?_
                    refine qv1 rfl rfl rfl
                refine qs ?_
                refine condK rfl (fun h58 => ?_) (fun h58 => ?_)
                · skip
                  refine W.seq ?_
                  refine W.region ?_
                  refine pu (ev tab rfl) rfl ?_
                  first | refine pu (ev tab rfl) rfl ?_ | refine pu (loadRow tab rfl rfl rfl rfl) rfl ?_ | refine pu (loadBox tab rfl rfl rfl rfl rfl) rfl ?_
                  refine pu (puCall rfl rfl rfl (within_fn2 ..) rfl) rfl ?_
                  refine pu (ev tab rfl) rfl ?_
                  refine WO.nil ?_
                  refine qs ?_
                  refine W.ret ?_
                  refine qsRet ?_
                  refine QF.ret0 trivial rfl ?_
                  simp only [norm, oneA]; grind [numsE]
                · skip
                  refine W.skip ?_
                  refine qs ?_
                  refine W.seq ?_
                  refine W.region ?_
                  iterate 2 refine pu (ev tab rfl) rfl ?_
                  refine WO.nil ?_
                  refine qs ?_
                  refine W.ret ?_
                  refine QF.ret0 trivial rfl ?_
                  simp only [norm, oneA]; grind [numsE]
end Go.Proofs.YtlmgnlhagpoggaaDoor
