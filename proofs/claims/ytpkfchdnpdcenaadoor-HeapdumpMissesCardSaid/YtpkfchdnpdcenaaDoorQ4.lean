import Derived.Test.YtpkfchdnpdcenaaDoorQ3
import Derived.Test.YtpkfchdnpdcenaaDoorChecked
import Derived.KernelRfl
import Derived.Test.YtpkfchdnpdcenaaDoorRows
import Derived.Shelf.Strings.Builder1
import Derived.Shelf.Strings.Builder2
import Derived.Shelf.Strings.OnBuilder
import Derived.Shelf.Small.Strs
import Derived.Shelf.Strconv.Atoi
import Derived.Shelf.Strconv.Itoa0
import Derived.Shelf.Strconv.Itoa1
import Derived.Shelf.LaysM
import Derived.Shelf.Strconv.Itoa2
import Derived.Shelf.Strconv.Itoa3
import Derived.Shelf.Strconv.AtoiErrFast
import Derived.Shelf.Strconv.ParseIntEmpty
import Derived.Shelf.Strconv.AtoiFail
import Derived.Shelf.Strconv.Clone
import Derived.Shelf.Strconv.SyntaxError
import Derived.Shelf.LaysC
import Derived.Shelf.Strconv.ToError
import Derived.Shelf.Strconv.AtoiErr
import Derived.Shelf.Strconv.ErrVar
import Derived.Shelf.Strconv.Lower
import Derived.Shelf.Strconv.ParseUint10
import Derived.Shelf.Strconv.ParseUint10Empty
import Derived.Shelf.Strconv.ParseUint10Any
import Derived.Shelf.Strconv.ParseInt10
import Derived.Shelf.Strconv.AtoiLong
import Derived.Shelf.Strconv.AtoiInnerAll
import Derived.Shelf.Strconv.RangeError
import Derived.Shelf.Strconv.ToErrorRange
import Derived.Shelf.Strconv.AtoiAll
import Derived.Shelf.Strconv.ErrVarAll
import Derived.Shelf.Strings.Search1
import Derived.Shelf.Strings.Search2
import Derived.Shelf.Strings.Search3
import Derived.Shelf.Strings.Cut
import Derived.Shelf.Strings.Count
import Derived.Shelf.Strings.Shaped
import Derived.Shelf.Strings.Split
import Derived.Shelf.Strings.SplitShaped
import Derived.Shelf.Unicode.DecodeSlow
import Derived.Test.YtpkfchdnpdcenaaDoorProg
/- The table of the program's types, for the data level. Made by a program of this repo (gentab.py). -/
namespace Go.Proofs.YtpkfchdnpdcenaaDoor
open Go.Ab
abbrev tabL : List (Nat × TyD) := [
  (2, ⟨.int .i64, 1, 8, [.int .i64 0]⟩),
  (3, ⟨.int .i64, 1, 8, [.int .i64 0]⟩),
  (4, ⟨.bool, 1, 1, [.bool false]⟩),
  (5, ⟨.int .u8, 1, 1, [.int .u8 0]⟩),
  (9, ⟨.str, 1, 16, [.string ⟨#[]⟩]⟩),
  (12, ⟨.int .u64, 1, 8, [.int .u64 0]⟩),
  (21, ⟨.int .i32, 1, 4, [.int .i32 0]⟩),
  (22, ⟨.slice 40, 1, 24, [.slice none 0 0]⟩),
  (23, ⟨.slice 3, 1, 24, [.slice none 0 0]⟩),
  (25, ⟨.st [(0, 22, "Objects"), (1, 23, "Roots")], 2, 48, [.slice none 0 0, .slice none 0 0]⟩),
  (30, ⟨.int .i64, 1, 8, [.int .i64 0]⟩),
  (40, ⟨.st [(0, 3, "Id"), (1, 3, "Size"), (2, 9, "Type"), (3, 23, "Refs")], 4, 56, [.int .i64 0, .int .i64 0, .string ⟨#[]⟩, .slice none 0 0]⟩),
  (44, ⟨.map 3 3, 1, 8, [.map none]⟩),
  (48, ⟨.ptr 51, 1, 8, [.pointer none]⟩),
  (49, ⟨.slice 5, 1, 24, [.slice none 0 0]⟩),
  (51, ⟨.st [(0, 48, "addr"), (1, 49, "buf")], 2, 32, [.pointer none, .slice none 0 0]⟩),
  (54, ⟨.slice 9, 1, 24, [.slice none 0 0]⟩),
  (75, ⟨.ptr 5, 1, 8, [.pointer none]⟩),
  (89, ⟨.int .u64, 1, 8, [.int .u64 0]⟩),
  (96, ⟨.int .u64, 1, 8, [.int .u64 0]⟩),
  (101, ⟨.int .u32, 1, 4, [.int .u32 0]⟩),
  (104, ⟨.int .i64, 1, 8, [.int .i64 0]⟩),
  (107, ⟨.ptr 122, 1, 8, [.pointer none]⟩),
  (116, ⟨.st [(0, 5, "lo"), (1, 5, "hi")], 2, 2, [.int .u8 0, .int .u8 0]⟩),
  (126, ⟨.ptr 128, 1, 8, [.pointer none]⟩),
  (128, ⟨.st [(0, 9, "s")], 1, 16, [.string ⟨#[]⟩]⟩)]
theorem tab_ok : tabL.all (fun x => tyOK Tryd.prog x.1 x.2) = true := by kernel_rfl
abbrev tab : Tab Tryd.prog := ⟨tabL, tab_ok, by kernel_rfl⟩
instance progMet : Go.Ab.Met Tryd.prog := ⟨fun W => MetNum Tryd.prog W⟩
end Go.Proofs.YtpkfchdnpdcenaaDoor
/- What the row's listed variables give: strconv's tables and errors. -/
namespace Go.Proofs.YtpkfchdnpdcenaaDoor
open Go.Ab
theorem lmet (W : World) (h : laidMet Tryd.prog Rows.heapdumpMissesRow.laid W) : MetNum Tryd.prog W :=
  metNum_of (t := 111) (e := 96) (m := 20) (ti := 70) h (d := Rows.laid_internal_strconv_uint64pow10) (.tail _ (.tail _ (.head _))) (by kernel_rfl) (by kernel_rfl) (by kernel_rfl) (by kernel_rfl) (by kernel_rfl) (by kernel_rfl)
    (nm := "*errors.errorString") (nm' := "*errors.errorString") (.tail _ (.tail _ (.tail _ (.tail _ (.tail _ (.head _)))))) (.tail _ (.tail _ (.tail _ (.tail _ (.head _))))) (by kernel_rfl) (by kernel_rfl) (by kernel_rfl)
end Go.Proofs.YtpkfchdnpdcenaaDoor
namespace Go.Proofs.YtpkfchdnpdcenaaDoor
open Go.Ab Go.Tb
set_option maxRecDepth 10000
attribute [local irreducible] W WO Pu QS QB QL QF QV QV1 CH QE



theorem in_fn (n : Int) : Does Tryd.prog 73 [.d (.v (.int .i64 n))] (.d (.v (.bool (inR n)))) 0 := by
  refine Does.of_W (n := 9) (ts := [2]) Tryd.func73 (by kernel_rfl) rfl Tryd.ntmps73 Tryd.results73 rfl rfl fun C hC hG => ?_
  refine W.seq ?_
  refine W.region ?_
  refine pu (ev tab rfl) rfl ?_
  refine WO.nil ?_
  refine qs ?_
  refine W.seq ?_
  apply regionB; (case hb => rfl)
  · skip
    iterate 3 refine pu (ev tab rfl) rfl ?_
    apply splitJ; (case hj => rfl); (case hl => rfl)
    · skip
      refine goG rfl rfl ?_
      refine pu (ev tab rfl) rfl ?_
      refine goG rfl rfl ?_
      iterate 3 refine pu (ev tab rfl) rfl ?_
      refine WO.nil ?_
      refine qv1 rfl rfl rfl
    · skip
      refine skipT rfl rfl rfl rfl ?_
      refine skipT rfl rfl rfl rfl ?_
      iterate 2 refine pu (ev tab rfl) rfl ?_
      refine WO.nil ?_
      refine qv1 rfl rfl rfl
  refine qs ?_
  refine W.ret ?_
  refine QF.ret0 trivial rfl ?_
  simp [norm, oneA, inR]
end Go.Proofs.YtpkfchdnpdcenaaDoor
namespace Go.Proofs.YtpkfchdnpdcenaaDoor
open Go.Ab Go.Tb
set_option maxRecDepth 10000
attribute [local irreducible] W WO Pu QS QB QL QF QV QV1 CH QE
theorem index_fn (l : List ByteArray) (s : ByteArray) : Does Tryd.prog 47 [.d (.sl (l.map sc)), .d (.v (.string s))] (.d (.v (.int .i64 (idx (l.findIdx? fun x => decide (s = x)))))) 0 := by
  refine Does.of_W (n := 19) (ts := [4]) Tryd.func47 (by kernel_rfl) rfl Tryd.ntmps47 Tryd.results47 rfl rfl fun C hC hG => ?_
  refine W.seq ?_
  refine W.region ?_
  refine pu (ev tab rfl) rfl ?_
  refine WO.nil ?_
  refine qs ?_
  refine W.seq ?_
  refine W.seq ?_
  refine W.region ?_
  iterate 3 refine pu (ev tab rfl) rfl ?_
  refine WO.nil ?_
  refine qs ?_
  refine W.block ?_
  refine W.len (t := 0) rfl rfl (fun hlen => ?_)
  try simp only [List.length_map, Ex.kc_len] at hlen
  refine W.loopR (ι := {x : Nat // match x with | k => k ≤ l.length ∧ noneBefore (fun x => decide (s = x)) l k})
    (fun x => match x.1 with | k => [(8, .d (.v (.int .i64 ((k : Nat) : Int))))]) [(0, _), (1, _), (7, _)]
    (fun x => match x.1 with | k => []) [] [] 0 (fun x => match x.1 with | k => l.length - k)
    [] ⟨0, ?_⟩ rfl ?_ ⟨rfl, rfl, rfl, rfl, rfl, rfl, trivial⟩ ?_ trivial rfl ?_
  · exact ⟨Nat.zero_le _, noneBefore.zero⟩
  · repeat' first | exact trivial | refine ⟨rfl, ?_⟩ | refine ⟨step_nat (by assumption) (by assumption), ?_⟩
  · repeat' first | exact trivial | refine ⟨rfl, ?_⟩ | refine ⟨step_nat (by assumption) (by assumption), ?_⟩
  rintro ⟨k, hk, hI⟩
  show W _ _ _ _ _ ⟨[(8, .d (.v (.int .i64 ((k : Nat) : Int)))), (0, _), (1, _), (7, _)], [], [], 0⟩
  refine W.seq ?_
  refine W.region ?_
  refine pu (ev tab rfl) rfl ?_
  refine WO.nil ?_
  refine qs ?_
  refine W.seq ?_
  refine eachR (l := l) (k := k) rfl (by simp [Ex.kc_len, bytes_len]) hk (fun x hx hd hlt => ?_) (fun he hd => ?_)
  · skip
    refine W.skip ?_
    refine qs ?_
    refine W.seq ?_
    refine W.block ?_
    refine W.seq ?_
    refine W.region ?_
    iterate 2 refine pu (ev tab rfl) rfl ?_
    refine WO.nil ?_
    refine qs ?_
    refine W.seq ?_
    refine W.region ?_
    iterate 3 refine pu (ev tab rfl) rfl ?_
    refine pu (indexAddr tab rfl rfl rfl rfl rfl rfl (Int.natCast_nonneg _) (idx_map (by assumption)) rfl) rfl ?_
    first | refine pu (ev tab rfl) rfl ?_ | refine pu (loadRow tab rfl rfl rfl rfl) rfl ?_ | refine pu (loadBox tab rfl rfl rfl rfl rfl) rfl ?_
    refine pu (ev tab rfl) rfl ?_
    refine WO.nil ?_
    refine qs ?_
    refine condK rfl (fun h16 => ?_) (fun h16 => ?_)
    · skip
      refine W.seq ?_
      refine W.region ?_
      iterate 2 refine pu (ev tab rfl) rfl ?_
      refine WO.nil ?_
      refine qs ?_
      refine W.ret ?_
      refine qbRet ?_
      refine qsRet ?_
      refine qlRet ?_
      refine qbRet ?_
      refine qsRet ?_
      refine QF.ret0 trivial rfl ?_
      simp only [norm, oneA]; rw [hI.found hx h16]; rfl
    · skip
      refine W.skip ?_
      refine qbN ?_
      refine qs ?_
      refine W.region ?_
      iterate 2 refine pu (ev tab rfl) rfl ?_
      refine WO.nil ?_
      refine W.endR [] ⟨k + 1, ?_⟩ ?_ rfl ?_ ⟨rfl, rfl, rfl, rfl, rfl, rfl, trivial⟩ ?_ trivial rfl
      · exact ⟨hlt, hI.step hx h16⟩
      · dsimp only; omega
      · repeat' first | exact trivial | refine ⟨rfl, ?_⟩ | refine ⟨step_nat (by assumption) (by assumption), ?_⟩
      · repeat' first | exact trivial | refine ⟨rfl, ?_⟩ | refine ⟨step_nat (by assumption) (by assumption), ?_⟩
  · skip
    refine W.exit ?_
    refine qsExit ?_
    refine qlExit ?_
    refine qbExit ?_
    refine qs ?_
    refine W.seq ?_
    refine W.region ?_
    refine pu (ev tab rfl) rfl ?_
    refine WO.nil ?_
    refine qs ?_
    refine W.ret ?_
    refine QF.ret0 trivial rfl ?_
    simp only [norm, oneA]; rw [hI.end_ he]; rfl


theorem contains_fn (l : List ByteArray) (s : ByteArray) : Does Tryd.prog 33 [.d (.sl (l.map sc)), .d (.v (.string s))] (.d (.v (.bool (l.any fun x => decide (s = x))))) 0 := by
  refine Does.of_W (n := 9) (ts := [4]) Tryd.func33 (by kernel_rfl) rfl Tryd.ntmps33 Tryd.results33 rfl rfl fun C hC hG => ?_
  refine W.seq ?_
  refine W.region ?_
  refine pu (ev tab rfl) rfl ?_
  refine WO.nil ?_
  refine qs ?_
  refine W.seq ?_
  refine W.region ?_
  iterate 2 refine pu (ev tab rfl) rfl ?_
  refine pu (puCall rfl rfl rfl (index_fn ..) rfl) rfl ?_
  iterate 2 refine pu (ev tab rfl) rfl ?_
  refine WO.nil ?_
  refine qs ?_
  refine W.ret ?_
  refine QF.ret0 trivial rfl ?_
  simp only [norm, oneA]; rw [← idx_nonneg]


end Go.Proofs.YtpkfchdnpdcenaaDoor
namespace Go.Proofs.YtpkfchdnpdcenaaDoor
open Go.Ab Go.Tb
set_option maxRecDepth 10000
attribute [local irreducible] W WO Pu QS QB QL QF QV QV1 CH QE
theorem ixb_fn (s : ByteArray) (b : UInt8) : Does Tryd.prog 61 [.d (.v (.string s)), .d (.v (.int .u8 b.toNat))] (.d (.v (.int .i64 (Lib.indexByte (bys s) b)))) 0 := by
  refine Does.of_W (n := 8) (ts := [4]) Tryd.func61 (by kernel_rfl) rfl Tryd.ntmps61 Tryd.results61 rfl rfl fun C hC hG => ?_
  refine W.inRange (t := 0) rfl (fun hok => ?_)
  refine W.seq ?_
  refine W.region ?_
  refine pu (ev tab rfl) rfl ?_
  refine WO.nil ?_
  refine qs ?_
  refine W.seq ?_
  refine W.region ?_
  iterate 2 refine pu (ev tab rfl) rfl ?_
  refine pu (puExt (vs := [.string s, .int .u8 b.toNat]) rfl rfl (fun w => (run_callFunc_extern Tryd.func74 (by kernel_rfl) (by kernel_rfl) (by kernel_rfl) (by kernel_rfl) #[.string s, .int .u8 b.toNat] w).trans (by rw [show (Extern.BytealgIndexByte.indexByte #[.string s, .int .u8 b.toNat]).run Tryd.prog w = _ from Lib.run_indexByteString s b.toNat w]; rfl)) (indexByte_ok hok _)) rfl ?_
  refine pu (ev tab rfl) rfl ?_
  refine WO.nil ?_
  refine qs ?_
  refine W.ret ?_
  refine QF.ret0 trivial rfl ?_
  simp [norm, oneA, bys]
theorem sixb_fn (s : ByteArray) (b : UInt8) : Does Tryd.prog 50 [.d (.v (.string s)), .d (.v (.int .u8 b.toNat))] (.d (.v (.int .i64 (Lib.indexByte (bys s) b)))) 0 := by
  refine Does.of_W (n := 8) (ts := [4]) Tryd.func50 (by kernel_rfl) rfl Tryd.ntmps50 Tryd.results50 rfl rfl fun C hC hG => ?_
  refine W.seq ?_
  refine W.region ?_
  refine pu (ev tab rfl) rfl ?_
  refine WO.nil ?_
  refine qs ?_
  refine W.seq ?_
  refine W.region ?_
  iterate 2 refine pu (ev tab rfl) rfl ?_
  refine pu (puCall rfl rfl rfl (ixb_fn ..) rfl) rfl ?_
  refine pu (ev tab rfl) rfl ?_
  refine WO.nil ?_
  refine qs ?_
  refine W.ret ?_
  refine QF.ret0 trivial rfl ?_
  rfl
theorem letter_fn (b : UInt8) : Does Tryd.prog 39 [.d (.v (.int .u8 b.toNat))] (.d (.v (.bool (letterB b)))) 0 := by
  refine Does.of_W (n := 30) (ts := [2]) Tryd.func39 (by kernel_rfl) rfl Tryd.ntmps39 Tryd.results39 rfl rfl fun C hC hG => ?_
  refine W.seq ?_
  refine W.region ?_
  refine pu (ev tab rfl) rfl ?_
  refine WO.nil ?_
  refine qs ?_
  refine W.seq ?_
  apply regionB; (case hb => rfl)
  · skip
    iterate 3 refine pu (ev tab rfl) rfl ?_
    apply splitJ; (case hj => rfl); (case hl => rfl)
    · skip
      refine goG rfl rfl ?_
      refine pu (ev tab rfl) rfl ?_
      refine goG rfl rfl ?_
      iterate 3 refine pu (ev tab rfl) rfl ?_
      apply splitJ; (case hj => rfl); (case hl => rfl)
      · skip
        refine skipT rfl rfl rfl rfl ?_
        refine skipT rfl rfl rfl rfl ?_
        refine skipT rfl rfl rfl rfl ?_
        refine skipU rfl rfl rfl ?_
        refine skipU rfl rfl rfl ?_
        refine skipT rfl rfl rfl rfl ?_
        iterate 2 refine pu (ev tab rfl) rfl ?_
        refine skipT rfl rfl rfl rfl ?_
        refine skipT rfl rfl rfl rfl ?_
        refine skipT rfl rfl rfl rfl ?_
        refine skipU rfl rfl rfl ?_
        refine skipU rfl rfl rfl ?_
        refine skipT rfl rfl rfl rfl ?_
        iterate 2 refine pu (ev tab rfl) rfl ?_
        refine skipT rfl rfl rfl rfl ?_
        refine skipT rfl rfl rfl rfl ?_
        refine skipT rfl rfl rfl rfl ?_
        iterate 2 refine pu (ev tab rfl) rfl ?_
        refine WO.nil ?_
        refine qv1 rfl rfl rfl
      · skip
        refine goG rfl rfl ?_
        refine pu (ev tab rfl) rfl ?_
        refine goG rfl rfl ?_
        refine pu (ev tab rfl) rfl ?_
        refine goG rfl rfl ?_
        refine pu (ev tab rfl) rfl ?_
        apply splitJ; (case hj => rfl); (case hl => rfl)
        · skip
          refine goG rfl rfl ?_
          refine pu (ev tab rfl) rfl ?_
          refine goG rfl rfl ?_
          refine pu (ev tab rfl) rfl ?_
          refine goG rfl rfl ?_
          iterate 3 refine pu (ev tab rfl) rfl ?_
          apply splitJ; (case hj => rfl); (case hl => rfl)
          · skip
            refine skipT rfl rfl rfl rfl ?_
            refine skipT rfl rfl rfl rfl ?_
            refine skipT rfl rfl rfl rfl ?_
            refine skipU rfl rfl rfl ?_
            refine skipU rfl rfl rfl ?_
            refine skipT rfl rfl rfl rfl ?_
            iterate 2 refine pu (ev tab rfl) rfl ?_
            refine skipT rfl rfl rfl rfl ?_
            refine skipT rfl rfl rfl rfl ?_
            refine skipT rfl rfl rfl rfl ?_
            iterate 2 refine pu (ev tab rfl) rfl ?_
            refine WO.nil ?_
            refine qv1 rfl rfl rfl
          · skip
            refine goG rfl rfl ?_
            refine pu (ev tab rfl) rfl ?_
            refine goG rfl rfl ?_
            refine pu (ev tab rfl) rfl ?_
            refine goG rfl rfl ?_
            refine pu (ev tab rfl) rfl ?_
            apply splitJ; (case hj => rfl); (case hl => rfl)
            · skip
              refine goG rfl rfl ?_
              refine pu (ev tab rfl) rfl ?_
              refine goG rfl rfl ?_
              refine pu (ev tab rfl) rfl ?_
              refine goG rfl rfl ?_
              iterate 3 refine pu (ev tab rfl) rfl ?_
              apply splitJ; (case hj => rfl); (case hl => rfl)
              · skip
                refine skipT rfl rfl rfl rfl ?_
                refine skipT rfl rfl rfl rfl ?_
                refine skipT rfl rfl rfl rfl ?_
                iterate 2 refine pu (ev tab rfl) rfl ?_
                refine WO.nil ?_
                refine qv1 rfl rfl rfl
              · skip
                refine goG rfl rfl ?_
                refine pu (ev tab rfl) rfl ?_
                refine goG rfl rfl ?_
                refine pu (puCall rfl rfl rfl (sixb_fn ..) rfl) rfl ?_
                refine goG rfl rfl ?_
                iterate 3 refine pu (ev tab rfl) rfl ?_
                refine WO.nil ?_
                refine qv1 rfl rfl rfl
            · skip
              refine skipT rfl rfl rfl rfl ?_
              refine skipT rfl rfl rfl rfl ?_
              refine goG rfl rfl ?_
              iterate 3 refine pu (ev tab rfl) rfl ?_
              refine goG rfl rfl ?_
              refine pu (ev tab rfl) rfl ?_
              refine goG rfl rfl ?_
              refine pu (puCall rfl rfl rfl (sixb_fn ..) rfl) rfl ?_
              refine goG rfl rfl ?_
              iterate 3 refine pu (ev tab rfl) rfl ?_
              refine WO.nil ?_
              refine qv1 rfl rfl rfl
        · skip
          refine skipT rfl rfl rfl rfl ?_
          refine skipT rfl rfl rfl rfl ?_
          refine goG rfl rfl ?_
          iterate 3 refine pu (ev tab rfl) rfl ?_
          refine goG rfl rfl ?_
          refine pu (ev tab rfl) rfl ?_
          refine goG rfl rfl ?_
          refine pu (ev tab rfl) rfl ?_
          refine goG rfl rfl ?_
          refine pu (ev tab rfl) rfl ?_
          apply splitJ; (case hj => rfl); (case hl => rfl)
          · skip
            refine goG rfl rfl ?_
            refine pu (ev tab rfl) rfl ?_
            refine goG rfl rfl ?_
            refine pu (ev tab rfl) rfl ?_
            refine goG rfl rfl ?_
            iterate 3 refine pu (ev tab rfl) rfl ?_
            apply splitJ; (case hj => rfl); (case hl => rfl)
            · skip
              refine skipT rfl rfl rfl rfl ?_
              refine skipT rfl rfl rfl rfl ?_
              refine skipT rfl rfl rfl rfl ?_
              iterate 2 refine pu (ev tab rfl) rfl ?_
              refine WO.nil ?_
              refine qv1 rfl rfl rfl
            · skip
              refine goG rfl rfl ?_
              refine pu (ev tab rfl) rfl ?_
              refine goG rfl rfl ?_
              refine pu (puCall rfl rfl rfl (sixb_fn ..) rfl) rfl ?_
              refine goG rfl rfl ?_
              iterate 3 refine pu (ev tab rfl) rfl ?_
              refine WO.nil ?_
              refine qv1 rfl rfl rfl
          · skip
            refine skipT rfl rfl rfl rfl ?_
            refine skipT rfl rfl rfl rfl ?_
            refine goG rfl rfl ?_
            iterate 3 refine pu (ev tab rfl) rfl ?_
            refine goG rfl rfl ?_
            refine pu (ev tab rfl) rfl ?_
            refine goG rfl rfl ?_
            refine pu (puCall rfl rfl rfl (sixb_fn ..) rfl) rfl ?_
            refine goG rfl rfl ?_
            iterate 3 refine pu (ev tab rfl) rfl ?_
            refine WO.nil ?_
            refine qv1 rfl rfl rfl
    · skip
      refine skipT rfl rfl rfl rfl ?_
      refine skipT rfl rfl rfl rfl ?_
      iterate 2 refine pu (ev tab rfl) rfl ?_
      refine goG rfl rfl ?_
      refine pu (ev tab rfl) rfl ?_
      refine goG rfl rfl ?_
      refine pu (ev tab rfl) rfl ?_
      refine goG rfl rfl ?_
      refine pu (ev tab rfl) rfl ?_
      apply splitJ; (case hj => rfl); (case hl => rfl)
      · skip
        refine goG rfl rfl ?_
        refine pu (ev tab rfl) rfl ?_
        refine goG rfl rfl ?_
        refine pu (ev tab rfl) rfl ?_
        refine goG rfl rfl ?_
        iterate 3 refine pu (ev tab rfl) rfl ?_
        apply splitJ; (case hj => rfl); (case hl => rfl)
        · skip
          refine skipT rfl rfl rfl rfl ?_
          refine skipT rfl rfl rfl rfl ?_
          refine skipT rfl rfl rfl rfl ?_
          refine skipU rfl rfl rfl ?_
          refine skipU rfl rfl rfl ?_
          refine skipT rfl rfl rfl rfl ?_
          iterate 2 refine pu (ev tab rfl) rfl ?_
          refine skipT rfl rfl rfl rfl ?_
          refine skipT rfl rfl rfl rfl ?_
          refine skipT rfl rfl rfl rfl ?_
          iterate 2 refine pu (ev tab rfl) rfl ?_
          refine WO.nil ?_
          refine qv1 rfl rfl rfl
        · skip
          refine goG rfl rfl ?_
          refine pu (ev tab rfl) rfl ?_
          refine goG rfl rfl ?_
          refine pu (ev tab rfl) rfl ?_
          refine goG rfl rfl ?_
          refine pu (ev tab rfl) rfl ?_
          apply splitJ; (case hj => rfl); (case hl => rfl)
          · skip
            refine goG rfl rfl ?_
            refine pu (ev tab rfl) rfl ?_
            refine goG rfl rfl ?_
            refine pu (ev tab rfl) rfl ?_
            refine goG rfl rfl ?_
            iterate 3 refine pu (ev tab rfl) rfl ?_
            apply splitJ; (case hj => rfl); (case hl => rfl)
            · skip
              refine skipT rfl rfl rfl rfl ?_
              refine skipT rfl rfl rfl rfl ?_
              refine skipT rfl rfl rfl rfl ?_
              iterate 2 refine pu (ev tab rfl) rfl ?_
              refine WO.nil ?_
              refine qv1 rfl rfl rfl
            · skip
              refine goG rfl rfl ?_
              refine pu (ev tab rfl) rfl ?_
              refine goG rfl rfl ?_
              refine pu (puCall rfl rfl rfl (sixb_fn ..) rfl) rfl ?_
              refine goG rfl rfl ?_
              iterate 3 refine pu (ev tab rfl) rfl ?_
              refine WO.nil ?_
              refine qv1 rfl rfl rfl
          · skip
            refine skipT rfl rfl rfl rfl ?_
            refine skipT rfl rfl rfl rfl ?_
            refine goG rfl rfl ?_
            iterate 3 refine pu (ev tab rfl) rfl ?_
            refine goG rfl rfl ?_
            refine pu (ev tab rfl) rfl ?_
            refine goG rfl rfl ?_
            refine pu (puCall rfl rfl rfl (sixb_fn ..) rfl) rfl ?_
            refine goG rfl rfl ?_
            iterate 3 refine pu (ev tab rfl) rfl ?_
            refine WO.nil ?_
            refine qv1 rfl rfl rfl
      · skip
        refine skipT rfl rfl rfl rfl ?_
        refine skipT rfl rfl rfl rfl ?_
        refine goG rfl rfl ?_
        iterate 3 refine pu (ev tab rfl) rfl ?_
        refine goG rfl rfl ?_
        refine pu (ev tab rfl) rfl ?_
        refine goG rfl rfl ?_
        refine pu (ev tab rfl) rfl ?_
        refine goG rfl rfl ?_
        refine pu (ev tab rfl) rfl ?_
        apply splitJ; (case hj => rfl); (case hl => rfl)
        · skip
          refine goG rfl rfl ?_
          refine pu (ev tab rfl) rfl ?_
          refine goG rfl rfl ?_
          refine pu (ev tab rfl) rfl ?_
          refine goG rfl rfl ?_
          iterate 3 refine pu (ev tab rfl) rfl ?_
          apply splitJ; (case hj => rfl); (case hl => rfl)
          · skip
            refine skipT rfl rfl rfl rfl ?_
            refine skipT rfl rfl rfl rfl ?_
            refine skipT rfl rfl rfl rfl ?_
            iterate 2 refine pu (ev tab rfl) rfl ?_
            refine WO.nil ?_
            refine qv1 rfl rfl rfl
          · skip
            refine goG rfl rfl ?_
            refine pu (ev tab rfl) rfl ?_
            refine goG rfl rfl ?_
            refine pu (puCall rfl rfl rfl (sixb_fn ..) rfl) rfl ?_
            refine goG rfl rfl ?_
            iterate 3 refine pu (ev tab rfl) rfl ?_
            refine WO.nil ?_
            refine qv1 rfl rfl rfl
        · skip
          refine skipT rfl rfl rfl rfl ?_
          refine skipT rfl rfl rfl rfl ?_
          refine goG rfl rfl ?_
          iterate 3 refine pu (ev tab rfl) rfl ?_
          refine goG rfl rfl ?_
          refine pu (ev tab rfl) rfl ?_
          refine goG rfl rfl ?_
          refine pu (puCall rfl rfl rfl (sixb_fn ..) rfl) rfl ?_
          refine goG rfl rfl ?_
          iterate 3 refine pu (ev tab rfl) rfl ?_
          refine WO.nil ?_
          refine qv1 rfl rfl rfl
  refine qs ?_
  refine W.ret ?_
  refine QF.ret0 trivial rfl ?_
  simp only [norm, oneA]; rw [indexByte_any]; simp only [letterB, lower, marks]; simp [bys]; grind
theorem name_fn (s : ByteArray) : Does Tryd.prog 21 [.d (.v (.string s))] (.d (.v (.int .i64 (nameErr s)))) 0 := by
  refine Does.of_W (n := 22) (ts := [2]) Tryd.func21 (by kernel_rfl) rfl Tryd.ntmps21 Tryd.results21 rfl rfl fun C hC hG => ?_
  refine W.seq ?_
  refine W.region ?_
  refine pu (ev tab rfl) rfl ?_
  refine WO.nil ?_
  refine qs ?_
  refine W.seq ?_
  refine W.seq ?_
  apply regionB; (case hb => rfl)
  · skip
    iterate 3 refine pu (ev tab rfl) rfl ?_
    apply splitJ; (case hj => rfl); (case hl => rfl)
    · skip
      refine skipT rfl rfl rfl rfl ?_
      refine skipT rfl rfl rfl rfl ?_
      refine skipT rfl rfl rfl rfl ?_
      refine pu (ev tab rfl) rfl ?_
      refine WO.nil ?_
      refine qv1 rfl rfl rfl
    · skip
      refine goG rfl rfl ?_
      refine pu (ev tab rfl) rfl ?_
      refine goG rfl rfl ?_
      refine pu (ev tab rfl) rfl ?_
      refine goG rfl rfl ?_
      iterate 2 refine pu (ev tab rfl) rfl ?_
      refine WO.nil ?_
      refine qv1 rfl rfl rfl
  refine qs ?_
  refine condK rfl (fun h10 => ?_) (fun h10 => ?_)
  · skip
    refine W.seq ?_
    refine W.region ?_
    refine pu (ev tab rfl) rfl ?_
    refine WO.nil ?_
    refine qs ?_
    refine W.ret ?_
    refine qsRet ?_
    refine QF.ret0 trivial rfl ?_
    simp only [norm, oneA]; grind [nameErr, empty_bytes]
  · skip
    refine W.skip ?_
    refine qs ?_
    refine W.seq ?_
    refine W.seq ?_
    refine W.region ?_
    iterate 3 refine pu (ev tab rfl) rfl ?_
    refine WO.nil ?_
    refine qs ?_
    refine W.block ?_
    refine W.inRange (t := 0) rfl (fun hok => ?_)
    have hlen := okc_size hok
    refine W.loopR (ι := {x : Nat // match x with | k => k ≤ (bys s).length ∧ ((bys s).drop k).all letterB = (bys s).all letterB})
      (fun x => match x.1 with | k => [(13, .d (.v (.int .i64 ((k : Nat) : Int))))]) [(0, _), (12, _)]
      (fun x => match x.1 with | k => []) [] [] 0 (fun x => match x.1 with | k => (bys s).length - k)
      [] ⟨0, ?_⟩ rfl ?_ ⟨rfl, rfl, rfl, rfl, trivial⟩ ?_ trivial rfl ?_
    · first | exact ⟨Nat.zero_le _, rfl⟩ | exact trivial | simp
    · repeat' first | exact trivial | refine ⟨rfl, ?_⟩ | refine ⟨step_nat (by assumption) (by assumption), ?_⟩
    · repeat' first | exact trivial | refine ⟨rfl, ?_⟩ | refine ⟨step_nat (by assumption) (by assumption), ?_⟩
    rintro ⟨k, hk, hI⟩
    show W _ _ _ _ _ ⟨[(13, .d (.v (.int .i64 ((k : Nat) : Int)))), (0, _), (12, _)], [], [], 0⟩
    refine W.seq ?_
    refine W.region ?_
    refine pu (ev tab rfl) rfl ?_
    refine WO.nil ?_
    refine qs ?_
    refine W.seq ?_
    refine eachR (l := bys s) (k := k) rfl (by simp [Ex.kc_len, bytes_len]) hk (fun b hx hd hlt => ?_) (fun he hd => ?_)
    · skip
      rw [hd, List.all_cons] at hI
      refine W.skip ?_
      refine qs ?_
      refine W.seq ?_
      refine W.block ?_
      refine W.seq ?_
      refine W.region ?_
      iterate 2 refine pu (ev tab rfl) rfl ?_
      refine WO.nil ?_
      refine qs ?_
      refine W.seq ?_
      refine W.region ?_
      iterate 2 refine pu (ev tab rfl) rfl ?_
      refine pu (indexStr tab rfl rfl rfl rfl (Int.natCast_nonneg _) (byteList (by assumption))) rfl ?_
      refine pu (puCall rfl rfl rfl (letter_fn ..) rfl) rfl ?_
      refine pu (ev tab rfl) rfl ?_
      refine WO.nil ?_
      refine qs ?_
      refine condK rfl (fun h20 => ?_) (fun h20 => ?_)
      · skip
        refine W.seq ?_
        refine W.region ?_
        refine pu (ev tab rfl) rfl ?_
        refine WO.nil ?_
        refine qs ?_
        refine W.ret ?_
        refine qbRet ?_
        refine qsRet ?_
        refine qlRet ?_
        refine qbRet ?_
        refine qsRet ?_
        refine QF.ret0 trivial rfl ?_
        simp only [norm, oneA]; grind [nameErr, empty_bytes]
      · skip
        refine W.skip ?_
        refine qbN ?_
        refine qs ?_
        refine W.region ?_
        iterate 2 refine pu (ev tab rfl) rfl ?_
        refine WO.nil ?_
        refine W.endR [] ⟨k + 1, ?_⟩ ?_ rfl ?_ ⟨rfl, rfl, rfl, rfl, trivial⟩ ?_ trivial rfl
        · exact ⟨hlt, by rw [← hI]; simp_all⟩
        · dsimp only; omega
        · repeat' first | exact trivial | refine ⟨rfl, ?_⟩ | refine ⟨step_nat (by assumption) (by assumption), ?_⟩
        · repeat' first | exact trivial | refine ⟨rfl, ?_⟩ | refine ⟨step_nat (by assumption) (by assumption), ?_⟩
    · skip
      rw [hd] at hI
      refine W.exit ?_
      refine qsExit ?_
      refine qlExit ?_
      refine qbExit ?_
      refine qs ?_
      refine W.seq ?_
      refine W.region ?_
      refine pu (ev tab rfl) rfl ?_
      refine WO.nil ?_
      refine qs ?_
      refine W.ret ?_
      refine QF.ret0 trivial rfl ?_
      simp only [norm, oneA]; grind [nameErr, empty_bytes]
end Go.Proofs.YtpkfchdnpdcenaaDoor
/-
  DERIVED: THE SHELF's CONTRACTS AT THIS DUMP, IN PLAIN WORDS (tools/lay-plain.mjs out of 'TrydShelf.lean', which tools/lay-shelf.mjs wrote): THE SAME DECLARATIONS UNDER THE SAME NAMES: 'import', 'namespace', 'open', 'def', 'theorem' AND NOTHING ELSE: no command of the shelf's: FOR A HAND-IN. Each laying: the table of numbers ('.._ren') and one theorem, a field a fact of the dump's own or the kernel's comparison; each contract: ONE APPLICATION.
-/
namespace Go.Proofs
open Go.Shelf
def Tryd.lays169_ren : Go.Shelf.Ren := ⟨fun | 169 => 28 | n => n, fun | 70 => 48 | 9 => 9 | 0 => 0 | 72 => 51 | 37 => 49 | 127 => 75 | 3 => 3 | 5 => 5 | n => n, fun | n => n⟩
theorem Tryd.lays169 : Go.Proofs.Lays.n169 Tryd.prog Tryd.lays169_ren := {
  mixed := by kernel_rfl
  f169 := Tryd.func28.trans (congrArg some (by kernel_rfl))
  t0 := Tryd.underlying0
  a0 := Tryd.isAgg0
  z0 := Tryd.sizeOf0
  v0 := Tryd.zeroValue0
  t3 := Tryd.underlying3
  a3 := Tryd.isAgg3
  z3 := Tryd.sizeOf3
  v3 := Tryd.zeroValue3
  t9 := Tryd.underlying9
  a9 := Tryd.isAgg9
  z9 := Tryd.sizeOf9
  v9 := Tryd.zeroValue9
  t37 := Tryd.underlying49
  a37 := Tryd.isAgg49
  z37 := Tryd.sizeOf49
  v37 := Tryd.zeroValue49
  t70 := Tryd.underlying48
  a70 := Tryd.isAgg48
  z70 := Tryd.sizeOf48
  v70 := Tryd.zeroValue48
  t72 := Tryd.underlying51
  a72 := Tryd.isAgg51
  z72 := Tryd.sizeOf51
  v72 := Tryd.zeroValue51
  t127 := Tryd.underlying75
  a127 := Tryd.isAgg75
  z127 := Tryd.sizeOf75
  v127 := Tryd.zeroValue75 }
theorem Tryd.Builder_Extra_169 : Builder.Extra Tryd.prog Tryd.lays169_ren := {
  sizeBuilder := by kernel_rfl
  liesBuilder := by kernel_rfl
  t5 := Tryd.underlying5
  a5 := Tryd.isAgg5
  z5 := Tryd.sizeOf5
  v5 := Tryd.zeroValue5
  infoByte := by kernel_rfl
  cellsByte := by kernel_rfl
  sizeByte := by kernel_rfl
  neB5 := by decide }
open Go.RowKit in
/-- (*strings.Builder).String: "String returns the accumulated string.": WHATEVER THE BUILDER HOLDS. (LAID: no walk: one application.) -/
theorem Tryd.Builder_String_any (B b : Nat) (l : List UInt8) (w : World) (h : Lib.IsBuilder 51 5 B b (Lib.byteCells l) w) (hBw : B ≤ w.heap.size) :
    Calls Tryd.prog 28 #[.pointer (some ⟨b, 0, none⟩)] w fun e w' => e = .returned (.string ⟨l.toArray⟩) ∧ Below B w w' := Any.Builder_String_any Tryd.lays169 Tryd.Builder_Extra_169 B b l w h hBw
def Tryd.lays165_ren : Go.Shelf.Ren := ⟨fun | 165 => 52 | 240 => 51 | 241 => 63 | 276 => 62 | 277 => 75 | n => n, fun | 70 => 48 | 3 => 3 | 0 => 0 | 4 => 4 | 9 => 9 | 20 => 20 | 72 => 51 | 37 => 49 | 164 => 85 | 5 => 5 | n => n, fun | n => n⟩
theorem Tryd.lays165 : Go.Proofs.Lays.n165 Tryd.prog Tryd.lays165_ren := {
  mixed := by kernel_rfl
  f165 := Tryd.func52.trans (congrArg some (by kernel_rfl))
  f240 := Tryd.func51.trans (congrArg some (by kernel_rfl))
  f241 := Tryd.func63.trans (congrArg some (by kernel_rfl))
  f276 := Tryd.func62.trans (congrArg some (by kernel_rfl))
  f277 := Tryd.func75.trans (congrArg some (by kernel_rfl))
  t0 := Tryd.underlying0
  a0 := Tryd.isAgg0
  z0 := Tryd.sizeOf0
  v0 := Tryd.zeroValue0
  t3 := Tryd.underlying3
  a3 := Tryd.isAgg3
  z3 := Tryd.sizeOf3
  v3 := Tryd.zeroValue3
  t4 := Tryd.underlying4
  a4 := Tryd.isAgg4
  z4 := Tryd.sizeOf4
  v4 := Tryd.zeroValue4
  t9 := Tryd.underlying9
  a9 := Tryd.isAgg9
  z9 := Tryd.sizeOf9
  v9 := Tryd.zeroValue9
  t20 := Tryd.underlying20
  a20 := Tryd.isAgg20
  z20 := Tryd.sizeOf20
  v20 := Tryd.zeroValue20
  t37 := Tryd.underlying49
  a37 := Tryd.isAgg49
  z37 := Tryd.sizeOf49
  v37 := Tryd.zeroValue49
  t70 := Tryd.underlying48
  a70 := Tryd.isAgg48
  z70 := Tryd.sizeOf48
  v70 := Tryd.zeroValue48
  t72 := Tryd.underlying51
  a72 := Tryd.isAgg51
  z72 := Tryd.sizeOf51
  v72 := Tryd.zeroValue51
  t164 := Tryd.underlying85
  a164 := Tryd.isAgg85
  z164 := Tryd.sizeOf85
  v164 := Tryd.zeroValue85 }
theorem Tryd.Builder_Extra_165 : Builder.Extra Tryd.prog Tryd.lays165_ren := {
  sizeBuilder := by kernel_rfl
  liesBuilder := by kernel_rfl
  t5 := Tryd.underlying5
  a5 := Tryd.isAgg5
  z5 := Tryd.sizeOf5
  v5 := Tryd.zeroValue5
  infoByte := by kernel_rfl
  cellsByte := by kernel_rfl
  sizeByte := by kernel_rfl
  neB5 := by decide }
def Tryd.lays156_ren : Go.Shelf.Ren := ⟨fun | 156 => 42 | 165 => 52 | 166 => 41 | 169 => 28 | 240 => 51 | 241 => 63 | 276 => 62 | 277 => 75 | n => n, fun | 31 => 54 | 9 => 9 | 3 => 3 | 4 => 4 | 0 => 0 | 20 => 20 | 72 => 51 | 76 => 71 | 70 => 48 | 37 => 49 | 75 => 70 | 127 => 75 | 164 => 85 | 5 => 5 | 80 => 56 | n => n, fun | n => n⟩
theorem Tryd.lays156 : Go.Proofs.Lays.n156 Tryd.prog Tryd.lays156_ren := {
  mixed := by kernel_rfl
  f156 := Tryd.func42.trans (congrArg some (by kernel_rfl))
  f165 := Tryd.func52.trans (congrArg some (by kernel_rfl))
  f166 := Tryd.func41.trans (congrArg some (by kernel_rfl))
  f169 := Tryd.func28.trans (congrArg some (by kernel_rfl))
  f240 := Tryd.func51.trans (congrArg some (by kernel_rfl))
  f241 := Tryd.func63.trans (congrArg some (by kernel_rfl))
  f276 := Tryd.func62.trans (congrArg some (by kernel_rfl))
  f277 := Tryd.func75.trans (congrArg some (by kernel_rfl))
  t0 := Tryd.underlying0
  a0 := Tryd.isAgg0
  z0 := Tryd.sizeOf0
  v0 := Tryd.zeroValue0
  t3 := Tryd.underlying3
  a3 := Tryd.isAgg3
  z3 := Tryd.sizeOf3
  v3 := Tryd.zeroValue3
  t4 := Tryd.underlying4
  a4 := Tryd.isAgg4
  z4 := Tryd.sizeOf4
  v4 := Tryd.zeroValue4
  t9 := Tryd.underlying9
  a9 := Tryd.isAgg9
  z9 := Tryd.sizeOf9
  v9 := Tryd.zeroValue9
  t20 := Tryd.underlying20
  a20 := Tryd.isAgg20
  z20 := Tryd.sizeOf20
  v20 := Tryd.zeroValue20
  t31 := Tryd.underlying54
  a31 := Tryd.isAgg54
  z31 := Tryd.sizeOf54
  v31 := Tryd.zeroValue54
  t37 := Tryd.underlying49
  a37 := Tryd.isAgg49
  z37 := Tryd.sizeOf49
  v37 := Tryd.zeroValue49
  t70 := Tryd.underlying48
  a70 := Tryd.isAgg48
  z70 := Tryd.sizeOf48
  v70 := Tryd.zeroValue48
  t72 := Tryd.underlying51
  a72 := Tryd.isAgg51
  z72 := Tryd.sizeOf51
  v72 := Tryd.zeroValue51
  t75 := Tryd.underlying70
  a75 := Tryd.isAgg70
  z75 := Tryd.sizeOf70
  v75 := Tryd.zeroValue70
  t76 := Tryd.underlying71
  a76 := Tryd.isAgg71
  z76 := Tryd.sizeOf71
  v76 := Tryd.zeroValue71
  t127 := Tryd.underlying75
  a127 := Tryd.isAgg75
  z127 := Tryd.sizeOf75
  v127 := Tryd.zeroValue75
  t164 := Tryd.underlying85
  a164 := Tryd.isAgg85
  z164 := Tryd.sizeOf85
  v164 := Tryd.zeroValue85 }
theorem Tryd.Builder_Extra_156 : Builder.Extra Tryd.prog Tryd.lays156_ren := {
  sizeBuilder := by kernel_rfl
  liesBuilder := by kernel_rfl
  t5 := Tryd.underlying5
  a5 := Tryd.isAgg5
  z5 := Tryd.sizeOf5
  v5 := Tryd.zeroValue5
  infoByte := by kernel_rfl
  cellsByte := by kernel_rfl
  sizeByte := by kernel_rfl
  neB5 := by decide }
open Go.RowKit in
/-- No element: the empty string; the world is as it was. (Whatever the slice's address and capacity: a nil slice too.) (LAID: no walk: one application.) -/
theorem Tryd.strings_Join_none (a : Option Addr) (c : Nat) (sep : ByteArray) (w : World) :
    Calls Tryd.prog 42 #[.slice a 0 c, .string sep] w fun e w' => e = .returned (.string ⟨#[]⟩) ∧ w' = w := Any.strings_Join_none Tryd.lays156 Tryd.Builder_Extra_156 a c sep w
open Go.RowKit in
/-- strings.Join: "Join concatenates the elements of its first argument to create a single string. The separator string sep is placed between elements in the resulting string.": HOWEVER MANY ELEMENTS. Below the heap's end the world is as it was. (LAID: no walk: one application.) -/
theorem Tryd.strings_Join (bk o c : Nat) (xs : List ByteArray) (sep : ByteArray) (w : World) (hcells : ∀ (j : Nat) x, xs[j]? = some x → w.cell? ⟨bk, o + j, none⟩ = some (.string x)) (hbk : bk < w.heap.size) (hN : xs.length ≤ 140737488355328) (hcap : xs.length ≤ c) (hlen : (Lib.join (xs.map (·.data.toList)) sep.data.toList).length ≤ 140737488355328) :
    Calls Tryd.prog 42 #[.slice (some ⟨bk, o, none⟩) xs.length c, .string sep] w fun e w' => e = .returned (.string ⟨(Lib.join (xs.map (·.data.toList)) sep.data.toList).toArray⟩) ∧ Below w.heap.size w w' := Any.strings_Join Tryd.lays156 Tryd.Builder_Extra_156 bk o c xs sep w hcells hbk hN hcap hlen
def Tryd.laysM171_ren : Go.Shelf.Ren := ⟨fun | 171 => 44 | 243 => 53 | 246 => 64 | 283 => 76 | 284 => 77 | 285 => 78 | 286 => 79 | 129 => 88 | 317 => 87 | 318 => 89 | 319 => 90 | 320 => 91 | 337 => 95 | 338 => 96 | n => n, fun | 3 => 3 | 9 => 9 | 2 => 2 | 4 => 4 | 171 => 95 | 0 => 0 | 53 => 96 | 37 => 49 | 5 => 5 | 173 => 99 | 212 => 111 | 51 => 101 | 20 => 20 | 213 => 112 | 46 => 89 | 232 => 129 | 233 => 130 | n => n, fun | 17 => 1 | 18 => 6 | 19 => 7 | n => n⟩
theorem Tryd.laysM171 : Go.Proofs.LaysM.n171 Tryd.prog Tryd.laysM171_ren := {
  mixed := by kernel_rfl
  f129 := Tryd.func88.trans (congrArg some (by kernel_rfl))
  f171 := Tryd.func44.trans (congrArg some (by kernel_rfl))
  f243 := Tryd.func53.trans (congrArg some (by kernel_rfl))
  f246 := Tryd.func64.trans (congrArg some (by kernel_rfl))
  f283 := Tryd.func76.trans (congrArg some (by kernel_rfl))
  f284 := Tryd.func77.trans (congrArg some (by kernel_rfl))
  f285 := Tryd.func78.trans (congrArg some (by kernel_rfl))
  f286 := Tryd.func79.trans (congrArg some (by kernel_rfl))
  f317 := Tryd.func87.trans (congrArg some (by kernel_rfl))
  f318 := Tryd.func89.trans (congrArg some (by kernel_rfl))
  f319 := Tryd.func90.trans (congrArg some (by kernel_rfl))
  f320 := Tryd.func91.trans (congrArg some (by kernel_rfl))
  f337 := Tryd.func95.trans (congrArg some (by kernel_rfl))
  f338 := Tryd.func96.trans (congrArg some (by kernel_rfl))
  t0 := Tryd.underlying0
  a0 := Tryd.isAgg0
  z0 := Tryd.sizeOf0
  v0 := Tryd.zeroValue0
  t2 := Tryd.underlying2
  a2 := Tryd.isAgg2
  z2 := Tryd.sizeOf2
  v2 := Tryd.zeroValue2
  t3 := Tryd.underlying3
  a3 := Tryd.isAgg3
  z3 := Tryd.sizeOf3
  v3 := Tryd.zeroValue3
  t4 := Tryd.underlying4
  a4 := Tryd.isAgg4
  z4 := Tryd.sizeOf4
  v4 := Tryd.zeroValue4
  t5 := Tryd.underlying5
  a5 := Tryd.isAgg5
  z5 := Tryd.sizeOf5
  v5 := Tryd.zeroValue5
  t9 := Tryd.underlying9
  a9 := Tryd.isAgg9
  z9 := Tryd.sizeOf9
  v9 := Tryd.zeroValue9
  t20 := Tryd.underlying20
  a20 := Tryd.isAgg20
  z20 := Tryd.sizeOf20
  v20 := Tryd.zeroValue20
  t37 := Tryd.underlying49
  a37 := Tryd.isAgg49
  z37 := Tryd.sizeOf49
  v37 := Tryd.zeroValue49
  t46 := Tryd.underlying89
  a46 := Tryd.isAgg89
  z46 := Tryd.sizeOf89
  v46 := Tryd.zeroValue89
  t51 := Tryd.underlying101
  a51 := Tryd.isAgg101
  z51 := Tryd.sizeOf101
  v51 := Tryd.zeroValue101
  t53 := Tryd.underlying96
  a53 := Tryd.isAgg96
  z53 := Tryd.sizeOf96
  v53 := Tryd.zeroValue96
  t171 := Tryd.underlying95
  a171 := Tryd.isAgg95
  z171 := Tryd.sizeOf95
  v171 := Tryd.zeroValue95
  t173 := Tryd.underlying99
  a173 := Tryd.isAgg99
  z173 := Tryd.sizeOf99
  v173 := Tryd.zeroValue99
  t212 := Tryd.underlying111
  a212 := Tryd.isAgg111
  z212 := Tryd.sizeOf111
  v212 := Tryd.zeroValue111
  t213 := Tryd.underlying112
  a213 := Tryd.isAgg112
  z213 := Tryd.sizeOf112
  t232 := Tryd.underlying129
  a232 := Tryd.isAgg129
  z232 := Tryd.sizeOf129
  v232 := Tryd.zeroValue129
  t233 := Tryd.underlying130
  a233 := Tryd.isAgg130
  z233 := Tryd.sizeOf130
  v233 := Tryd.zeroValue130
  g17 := by kernel_rfl
  g18 := by kernel_rfl
  g19 := by kernel_rfl
  i0 := by kernel_rfl
  i2 := by kernel_rfl
  i3 := by kernel_rfl
  i4 := by kernel_rfl
  i5 := by kernel_rfl
  i9 := by kernel_rfl
  i20 := by kernel_rfl
  i37 := by kernel_rfl
  i46 := by kernel_rfl
  i51 := by kernel_rfl
  i53 := by kernel_rfl
  i171 := by kernel_rfl
  i173 := by kernel_rfl
  i212 := by kernel_rfl
  i232 := by kernel_rfl
  i233 := by kernel_rfl
  m17 := by kernel_rfl
  m18 := by kernel_rfl
  m19 := by kernel_rfl }
open Go.RowKit Go.Sort Go.Lib in
/-- strconv.Itoa: "Itoa is equivalent to FormatInt(int64(i), 10).": i's DECIMAL NUMERAL ('Lib.itoa': a '-' where i is negative, then the digits), FOR EVERY int. The world behind the call: the world before it, new blocks behind the heap (the library's 'var a [24]byte'), draws. (LAID: no walk: one application.) -/
theorem Tryd.strconv_Itoa (n : Int) (h0 : -9223372036854775808 ≤ n) (h1 : n ≤ 9223372036854775807) (w : World) (htab : Lib.TabIs Tryd.prog w "internal/strconv.uint64pow10" .u64 Lib.pow10Tab) :
    Calls Tryd.prog 44 #[.int .i64 n] w fun e w' => e = .returned (.string ⟨(Lib.itoa n).toArray⟩) ∧ ∃ k os, w' = grow (w.drewN k) os := Any.strconv_Itoa Tryd.laysM171 n h0 h1 w htab
def Tryd.laysC172_ren : Go.Shelf.Ren := ⟨fun | 172 => 58 | 244 => 71 | 245 => 72 | 247 => 82 | 279 => 83 | 280 => 84 | 281 => 85 | 282 => 86 | 287 => 92 | 316 => 93 | 171 => 44 | 205 => 94 | 321 => 97 | 322 => 98 | 243 => 53 | 246 => 64 | 283 => 76 | 284 => 77 | 285 => 78 | 286 => 79 | 129 => 88 | 317 => 87 | 318 => 89 | 319 => 90 | 320 => 91 | 337 => 95 | 338 => 96 | n => n, fun | 9 => 9 | 3 => 3 | 75 => 70 | 76 => 71 | 4 => 4 | 5 => 5 | 167 => 104 | 37 => 49 | 0 => 0 | 85 => 105 | 2 => 2 | 168 => 107 | 53 => 96 | 175 => 118 | 46 => 89 | 210 => 122 | 127 => 75 | 145 => 128 | 143 => 126 | 21 => 21 | 171 => 95 | 173 => 99 | 212 => 111 | 51 => 101 | 20 => 20 | 213 => 112 | 232 => 129 | 233 => 130 | 80 => 56 | n => n, fun | 15 => 4 | 16 => 5 | 17 => 1 | 18 => 6 | 19 => 7 | n => n⟩
theorem Tryd.laysC172 : Go.Proofs.LaysC.n172 Tryd.prog Tryd.laysC172_ren := {
  mixed := by kernel_rfl
  f129 := Tryd.func88.trans (congrArg some (by kernel_rfl))
  f171 := Tryd.func44.trans (congrArg some (by kernel_rfl))
  f172 := Tryd.func58.trans (congrArg some (by kernel_rfl))
  f205 := Tryd.func94.trans (congrArg some (by kernel_rfl))
  f243 := Tryd.func53.trans (congrArg some (by kernel_rfl))
  f244 := Tryd.func71.trans (congrArg some (by kernel_rfl))
  f245 := Tryd.func72.trans (congrArg some (by kernel_rfl))
  f246 := Tryd.func64.trans (congrArg some (by kernel_rfl))
  f247 := Tryd.func82.trans (congrArg some (by kernel_rfl))
  f279 := Tryd.func83.trans (congrArg some (by kernel_rfl))
  f280 := Tryd.func84.trans (congrArg some (by kernel_rfl))
  f281 := Tryd.func85.trans (congrArg some (by kernel_rfl))
  f282 := Tryd.func86.trans (congrArg some (by kernel_rfl))
  f283 := Tryd.func76.trans (congrArg some (by kernel_rfl))
  f284 := Tryd.func77.trans (congrArg some (by kernel_rfl))
  f285 := Tryd.func78.trans (congrArg some (by kernel_rfl))
  f286 := Tryd.func79.trans (congrArg some (by kernel_rfl))
  f287 := Tryd.func92.trans (congrArg some (by kernel_rfl))
  f316 := Tryd.func93.trans (congrArg some (by kernel_rfl))
  f317 := Tryd.func87.trans (congrArg some (by kernel_rfl))
  f318 := Tryd.func89.trans (congrArg some (by kernel_rfl))
  f319 := Tryd.func90.trans (congrArg some (by kernel_rfl))
  f320 := Tryd.func91.trans (congrArg some (by kernel_rfl))
  f321 := Tryd.func97.trans (congrArg some (by kernel_rfl))
  f322 := Tryd.func98.trans (congrArg some (by kernel_rfl))
  f337 := Tryd.func95.trans (congrArg some (by kernel_rfl))
  f338 := Tryd.func96.trans (congrArg some (by kernel_rfl))
  t0 := Tryd.underlying0
  a0 := Tryd.isAgg0
  z0 := Tryd.sizeOf0
  v0 := Tryd.zeroValue0
  t2 := Tryd.underlying2
  a2 := Tryd.isAgg2
  z2 := Tryd.sizeOf2
  v2 := Tryd.zeroValue2
  t3 := Tryd.underlying3
  a3 := Tryd.isAgg3
  z3 := Tryd.sizeOf3
  v3 := Tryd.zeroValue3
  t4 := Tryd.underlying4
  a4 := Tryd.isAgg4
  z4 := Tryd.sizeOf4
  v4 := Tryd.zeroValue4
  t5 := Tryd.underlying5
  a5 := Tryd.isAgg5
  z5 := Tryd.sizeOf5
  v5 := Tryd.zeroValue5
  t9 := Tryd.underlying9
  a9 := Tryd.isAgg9
  z9 := Tryd.sizeOf9
  v9 := Tryd.zeroValue9
  t20 := Tryd.underlying20
  a20 := Tryd.isAgg20
  z20 := Tryd.sizeOf20
  v20 := Tryd.zeroValue20
  t21 := Tryd.underlying21
  a21 := Tryd.isAgg21
  z21 := Tryd.sizeOf21
  v21 := Tryd.zeroValue21
  t37 := Tryd.underlying49
  a37 := Tryd.isAgg49
  z37 := Tryd.sizeOf49
  v37 := Tryd.zeroValue49
  t46 := Tryd.underlying89
  a46 := Tryd.isAgg89
  z46 := Tryd.sizeOf89
  v46 := Tryd.zeroValue89
  t51 := Tryd.underlying101
  a51 := Tryd.isAgg101
  z51 := Tryd.sizeOf101
  v51 := Tryd.zeroValue101
  t53 := Tryd.underlying96
  a53 := Tryd.isAgg96
  z53 := Tryd.sizeOf96
  v53 := Tryd.zeroValue96
  t75 := Tryd.underlying70
  a75 := Tryd.isAgg70
  z75 := Tryd.sizeOf70
  v75 := Tryd.zeroValue70
  t76 := Tryd.underlying71
  a76 := Tryd.isAgg71
  z76 := Tryd.sizeOf71
  v76 := Tryd.zeroValue71
  t85 := Tryd.underlying105
  a85 := Tryd.isAgg105
  z85 := Tryd.sizeOf105
  v85 := Tryd.zeroValue105
  t127 := Tryd.underlying75
  a127 := Tryd.isAgg75
  z127 := Tryd.sizeOf75
  v127 := Tryd.zeroValue75
  t143 := Tryd.underlying126
  a143 := Tryd.isAgg126
  z143 := Tryd.sizeOf126
  v143 := Tryd.zeroValue126
  t145 := Tryd.underlying128
  a145 := Tryd.isAgg128
  z145 := Tryd.sizeOf128
  v145 := Tryd.zeroValue128
  t167 := Tryd.underlying104
  a167 := Tryd.isAgg104
  z167 := Tryd.sizeOf104
  v167 := Tryd.zeroValue104
  t168 := Tryd.underlying107
  a168 := Tryd.isAgg107
  z168 := Tryd.sizeOf107
  v168 := Tryd.zeroValue107
  t171 := Tryd.underlying95
  a171 := Tryd.isAgg95
  z171 := Tryd.sizeOf95
  v171 := Tryd.zeroValue95
  t173 := Tryd.underlying99
  a173 := Tryd.isAgg99
  z173 := Tryd.sizeOf99
  v173 := Tryd.zeroValue99
  t175 := Tryd.underlying118
  a175 := Tryd.isAgg118
  z175 := Tryd.sizeOf118
  v175 := Tryd.zeroValue118
  t210 := Tryd.underlying122
  a210 := Tryd.isAgg122
  z210 := Tryd.sizeOf122
  v210 := Tryd.zeroValue122
  t212 := Tryd.underlying111
  a212 := Tryd.isAgg111
  z212 := Tryd.sizeOf111
  v212 := Tryd.zeroValue111
  t213 := Tryd.underlying112
  a213 := Tryd.isAgg112
  z213 := Tryd.sizeOf112
  t232 := Tryd.underlying129
  a232 := Tryd.isAgg129
  z232 := Tryd.sizeOf129
  v232 := Tryd.zeroValue129
  t233 := Tryd.underlying130
  a233 := Tryd.isAgg130
  z233 := Tryd.sizeOf130
  v233 := Tryd.zeroValue130
  g15 := by kernel_rfl
  g16 := by kernel_rfl
  g17 := by kernel_rfl
  g18 := by kernel_rfl
  g19 := by kernel_rfl
  t80 := Tryd.underlying56
  a80 := Tryd.isAgg56
  z80 := Tryd.sizeOf56
  v80 := Tryd.zeroValue56
  i0 := by kernel_rfl
  i2 := by kernel_rfl
  i3 := by kernel_rfl
  i4 := by kernel_rfl
  i5 := by kernel_rfl
  i9 := by kernel_rfl
  i20 := by kernel_rfl
  i21 := by kernel_rfl
  i37 := by kernel_rfl
  i46 := by kernel_rfl
  i51 := by kernel_rfl
  i53 := by kernel_rfl
  i75 := by kernel_rfl
  i76 := by kernel_rfl
  i80 := by kernel_rfl
  i85 := by kernel_rfl
  i127 := by kernel_rfl
  i143 := by kernel_rfl
  i145 := by kernel_rfl
  i167 := by kernel_rfl
  i168 := by kernel_rfl
  i171 := by kernel_rfl
  i173 := by kernel_rfl
  i175 := by kernel_rfl
  i210 := by kernel_rfl
  i212 := by kernel_rfl
  i232 := by kernel_rfl
  i233 := by kernel_rfl
  m15 := by kernel_rfl
  m16 := by kernel_rfl
  m17 := by kernel_rfl
  m18 := by kernel_rfl
  m19 := by kernel_rfl
  c0 := by kernel_rfl
  c2 := by kernel_rfl
  c3 := by kernel_rfl
  c4 := by kernel_rfl
  c5 := by kernel_rfl
  c9 := by kernel_rfl
  c20 := by kernel_rfl
  c21 := by kernel_rfl
  c37 := by kernel_rfl
  c46 := by kernel_rfl
  c51 := by kernel_rfl
  c53 := by kernel_rfl
  c75 := by kernel_rfl
  c76 := by kernel_rfl
  c80 := by kernel_rfl
  c85 := by kernel_rfl
  c127 := by kernel_rfl
  c143 := by kernel_rfl
  c145 := by kernel_rfl
  c167 := by kernel_rfl
  c168 := by kernel_rfl
  c171 := by kernel_rfl
  c173 := by kernel_rfl
  c175 := by kernel_rfl
  c210 := by kernel_rfl
  c212 := by kernel_rfl
  c213 := by kernel_rfl
  c232 := by kernel_rfl
  c233 := by kernel_rfl }
open Go.RowKit in
/-- strconv.Atoi, AT EVERY STRING THAT SPELLS AN int ('Lib.atoiAll .. = .ok v'; of whatever length: leading zeros count): v, AND NO ERROR. The world: as it was, or with the one new row that '[]byte(..)' lays. (LAID: no walk: one application.) -/
theorem Tryd.strconv_Atoi_ok (s : ByteArray) (hmax : s.size ≤ 9223372036854775806) (v : Int) (h : Lib.atoiAll s.data.toList = .ok v) (w : World) :
    Calls Tryd.prog 58 #[.string s] w fun e w' => e = .returned (.tuple #[.int .i64 v, .nilIface]) ∧ (w' = w ∨ ∃ t, w' = Lib.bytesWorld w 5 t) := Any.strconv_Atoi_ok Tryd.laysC172 s hmax v h w
open Go.RowKit in
theorem Tryd.strconv_Atoi_syntax_var (s : ByteArray) (hlim : s.size ≤ 281474976710656) (h : Lib.atoiAll s.data.toList = Lib.atoiAll []) (tp : TypeId) (p : Value) (w : World) (hvar : w.var? Tryd.prog "strconv.ErrSyntax" = some #[.iface tp p]) :
    Calls Tryd.prog 58 #[.string s] w fun e w' => ∃ N, e = .returned (.tuple #[.int .i64 0, .iface 107 (.pointer (some ⟨N, 0, none⟩))]) ∧ w.heap.size ≤ N ∧ w'.heap[N]? = some (.cells #[.string ⟨#[65, 116, 111, 105]⟩, .string s, .iface tp p] 122 (0, 0)) ∧ Below w.heap.size w w' := Any.strconv_Atoi_syntax_var Tryd.laysC172 s hlim h tp p w hvar
open Go.RowKit in
theorem Tryd.strconv_Atoi_range_var (s : ByteArray) (hlim : s.size ≤ 281474976710656) (h : Lib.atoiAll s.data.toList = .range) (tp : TypeId) (p : Value) (w : World) (hvar : w.var? Tryd.prog "strconv.ErrRange" = some #[.iface tp p]) :
    Calls Tryd.prog 58 #[.string s] w fun e w' => ∃ N, e = .returned (.tuple #[.int .i64 (Lib.atoiSat s.data.toList), .iface 107 (.pointer (some ⟨N, 0, none⟩))]) ∧ w.heap.size ≤ N ∧ w'.heap[N]? = some (.cells #[.string ⟨#[65, 116, 111, 105]⟩, .string s, .iface tp p] 122 (0, 0)) ∧ Below w.heap.size w w' := Any.strconv_Atoi_range_var Tryd.laysC172 s hlim h tp p w hvar
def Tryd.lays145_ren : Go.Shelf.Ren := ⟨fun | 145 => 31 | 220 => 45 | 219 => 54 | 217 => 61 | 225 => 65 | 224 => 66 | 267 => 67 | 266 => 74 | 314 => 80 | n => n, fun | 9 => 9 | 4 => 4 | 59 => 58 | 3 => 3 | 5 => 5 | 46 => 89 | 146 => 102 | 51 => 101 | n => n, fun | 1 => 0 | n => n⟩
theorem Tryd.lays145 : Go.Proofs.Lays.n145 Tryd.prog Tryd.lays145_ren := {
  mixed := by kernel_rfl
  f145 := Tryd.func31.trans (congrArg some (by kernel_rfl))
  f217 := Tryd.func61.trans (congrArg some (by kernel_rfl))
  f219 := Tryd.func54.trans (congrArg some (by kernel_rfl))
  f220 := Tryd.func45.trans (congrArg some (by kernel_rfl))
  f224 := Tryd.func66.trans (congrArg some (by kernel_rfl))
  f225 := Tryd.func65.trans (congrArg some (by kernel_rfl))
  f266 := Tryd.func74.trans (congrArg some (by kernel_rfl))
  f267 := Tryd.func67.trans (congrArg some (by kernel_rfl))
  f314 := Tryd.func80.trans (congrArg some (by kernel_rfl))
  t3 := Tryd.underlying3
  a3 := Tryd.isAgg3
  z3 := Tryd.sizeOf3
  v3 := Tryd.zeroValue3
  t4 := Tryd.underlying4
  a4 := Tryd.isAgg4
  z4 := Tryd.sizeOf4
  v4 := Tryd.zeroValue4
  t5 := Tryd.underlying5
  a5 := Tryd.isAgg5
  z5 := Tryd.sizeOf5
  v5 := Tryd.zeroValue5
  t9 := Tryd.underlying9
  a9 := Tryd.isAgg9
  z9 := Tryd.sizeOf9
  v9 := Tryd.zeroValue9
  t46 := Tryd.underlying89
  a46 := Tryd.isAgg89
  z46 := Tryd.sizeOf89
  v46 := Tryd.zeroValue89
  t51 := Tryd.underlying101
  a51 := Tryd.isAgg101
  z51 := Tryd.sizeOf101
  v51 := Tryd.zeroValue101
  t59 := Tryd.underlying58
  a59 := Tryd.isAgg58
  z59 := Tryd.sizeOf58
  v59 := Tryd.zeroValue58
  t146 := Tryd.underlying102
  a146 := Tryd.isAgg102
  z146 := Tryd.sizeOf102
  v146 := Tryd.zeroValue102
  g1 := by kernel_rfl }
open Go.RowKit Go.Lib in
/-- strings.Cut: "Cut slices s around the first instance of sep, returning the text before and after sep. The found result reports whether sep appears in s. If sep does not appear in s, cut returns s, "", false.": IT RETURNS 'Lib.cut s sep'; the world is as it was but for the count of draws. (LAID: no walk: one application.) -/
theorem Tryd.strings_Cut (s sep : ByteArray) (m : Int) (w : World) (hs : s.size < 4294967281) (hm : w.cell? ⟨0, 0, none⟩ = some (.int .i64 m)) :
    Calls Tryd.prog 31 #[.string s, .string sep] w fun e w' => e = .returned (.tuple #[.string ⟨(Lib.cut s.data.toList sep.data.toList).1.toArray⟩, .string ⟨(Lib.cut s.data.toList sep.data.toList).2.1.toArray⟩, .bool (Lib.cut s.data.toList sep.data.toList).2.2]) ∧ ∃ n, w' = w.drewN n := Any.strings_Cut Tryd.lays145 s sep m w hs hm
def Tryd.laysM145_ren : Go.Shelf.Ren := ⟨fun | 145 => 31 | 220 => 45 | 219 => 54 | 217 => 61 | 225 => 65 | 224 => 66 | 267 => 67 | 266 => 74 | 314 => 80 | n => n, fun | 9 => 9 | 4 => 4 | 59 => 58 | 3 => 3 | 5 => 5 | 46 => 89 | 146 => 102 | 51 => 101 | n => n, fun | 1 => 0 | n => n⟩
theorem Tryd.laysM145 : Go.Proofs.LaysM.n145 Tryd.prog Tryd.laysM145_ren := {
  mixed := by kernel_rfl
  f145 := Tryd.func31.trans (congrArg some (by kernel_rfl))
  f217 := Tryd.func61.trans (congrArg some (by kernel_rfl))
  f219 := Tryd.func54.trans (congrArg some (by kernel_rfl))
  f220 := Tryd.func45.trans (congrArg some (by kernel_rfl))
  f224 := Tryd.func66.trans (congrArg some (by kernel_rfl))
  f225 := Tryd.func65.trans (congrArg some (by kernel_rfl))
  f266 := Tryd.func74.trans (congrArg some (by kernel_rfl))
  f267 := Tryd.func67.trans (congrArg some (by kernel_rfl))
  f314 := Tryd.func80.trans (congrArg some (by kernel_rfl))
  t3 := Tryd.underlying3
  a3 := Tryd.isAgg3
  z3 := Tryd.sizeOf3
  v3 := Tryd.zeroValue3
  t4 := Tryd.underlying4
  a4 := Tryd.isAgg4
  z4 := Tryd.sizeOf4
  v4 := Tryd.zeroValue4
  t5 := Tryd.underlying5
  a5 := Tryd.isAgg5
  z5 := Tryd.sizeOf5
  v5 := Tryd.zeroValue5
  t9 := Tryd.underlying9
  a9 := Tryd.isAgg9
  z9 := Tryd.sizeOf9
  v9 := Tryd.zeroValue9
  t46 := Tryd.underlying89
  a46 := Tryd.isAgg89
  z46 := Tryd.sizeOf89
  v46 := Tryd.zeroValue89
  t51 := Tryd.underlying101
  a51 := Tryd.isAgg101
  z51 := Tryd.sizeOf101
  v51 := Tryd.zeroValue101
  t59 := Tryd.underlying58
  a59 := Tryd.isAgg58
  z59 := Tryd.sizeOf58
  v59 := Tryd.zeroValue58
  t146 := Tryd.underlying102
  a146 := Tryd.isAgg102
  z146 := Tryd.sizeOf102
  v146 := Tryd.zeroValue102
  g1 := by kernel_rfl
  i3 := by kernel_rfl
  i4 := by kernel_rfl
  i5 := by kernel_rfl
  i9 := by kernel_rfl
  i46 := by kernel_rfl
  i51 := by kernel_rfl
  i59 := by kernel_rfl
  i146 := by kernel_rfl
  m1 := by kernel_rfl
  s1_3 := fun w h => Go.Proofs.cell_of_shapedOpen_int (zero := #[.int .i64 0]) (t := 3) h (of_decide_eq_true (by kernel_rfl)) (by kernel_rfl) rfl (by kernel_rfl) (by kernel_rfl) Tryd.underlying3 }
def Tryd.lays146_ren : Go.Shelf.Ren := ⟨fun | 146 => 32 | 221 => 46 | 268 => 55 | 138 => 56 | 143 => 57 | 195 => 68 | 197 => 69 | 218 => 70 | 219 => 54 | 260 => 81 | 217 => 61 | 225 => 65 | 224 => 66 | 267 => 67 | 266 => 74 | 314 => 80 | n => n, fun | 9 => 9 | 31 => 54 | 3 => 3 | 4 => 4 | 0 => 0 | 105 => 91 | 21 => 21 | 5 => 5 | 46 => 89 | 119 => 114 | 139 => 117 | 138 => 116 | 146 => 102 | 51 => 101 | n => n, fun | 1 => 0 | 3 => 2 | 4 => 3 | n => n⟩
theorem Tryd.lays146 : Go.Proofs.Lays.n146 Tryd.prog Tryd.lays146_ren := {
  mixed := by kernel_rfl
  f138 := Tryd.func56.trans (congrArg some (by kernel_rfl))
  f143 := Tryd.func57.trans (congrArg some (by kernel_rfl))
  f146 := Tryd.func32.trans (congrArg some (by kernel_rfl))
  f195 := Tryd.func68.trans (congrArg some (by kernel_rfl))
  f197 := Tryd.func69.trans (congrArg some (by kernel_rfl))
  f217 := Tryd.func61.trans (congrArg some (by kernel_rfl))
  f218 := Tryd.func70.trans (congrArg some (by kernel_rfl))
  f219 := Tryd.func54.trans (congrArg some (by kernel_rfl))
  f221 := Tryd.func46.trans (congrArg some (by kernel_rfl))
  f224 := Tryd.func66.trans (congrArg some (by kernel_rfl))
  f225 := Tryd.func65.trans (congrArg some (by kernel_rfl))
  f260 := Tryd.func81.trans (congrArg some (by kernel_rfl))
  f266 := Tryd.func74.trans (congrArg some (by kernel_rfl))
  f267 := Tryd.func67.trans (congrArg some (by kernel_rfl))
  f268 := Tryd.func55.trans (congrArg some (by kernel_rfl))
  f314 := Tryd.func80.trans (congrArg some (by kernel_rfl))
  t0 := Tryd.underlying0
  a0 := Tryd.isAgg0
  z0 := Tryd.sizeOf0
  v0 := Tryd.zeroValue0
  t3 := Tryd.underlying3
  a3 := Tryd.isAgg3
  z3 := Tryd.sizeOf3
  v3 := Tryd.zeroValue3
  t4 := Tryd.underlying4
  a4 := Tryd.isAgg4
  z4 := Tryd.sizeOf4
  v4 := Tryd.zeroValue4
  t5 := Tryd.underlying5
  a5 := Tryd.isAgg5
  z5 := Tryd.sizeOf5
  v5 := Tryd.zeroValue5
  t9 := Tryd.underlying9
  a9 := Tryd.isAgg9
  z9 := Tryd.sizeOf9
  v9 := Tryd.zeroValue9
  t21 := Tryd.underlying21
  a21 := Tryd.isAgg21
  z21 := Tryd.sizeOf21
  v21 := Tryd.zeroValue21
  t31 := Tryd.underlying54
  a31 := Tryd.isAgg54
  z31 := Tryd.sizeOf54
  v31 := Tryd.zeroValue54
  t46 := Tryd.underlying89
  a46 := Tryd.isAgg89
  z46 := Tryd.sizeOf89
  v46 := Tryd.zeroValue89
  t51 := Tryd.underlying101
  a51 := Tryd.isAgg101
  z51 := Tryd.sizeOf101
  v51 := Tryd.zeroValue101
  t105 := Tryd.underlying91
  a105 := Tryd.isAgg91
  z105 := Tryd.sizeOf91
  v105 := Tryd.zeroValue91
  t119 := Tryd.underlying114
  a119 := Tryd.isAgg114
  z119 := Tryd.sizeOf114
  t138 := Tryd.underlying116
  a138 := Tryd.isAgg116
  z138 := Tryd.sizeOf116
  v138 := Tryd.zeroValue116
  t139 := Tryd.underlying117
  a139 := Tryd.isAgg117
  z139 := Tryd.sizeOf117
  v139 := Tryd.zeroValue117
  t146 := Tryd.underlying102
  a146 := Tryd.isAgg102
  z146 := Tryd.sizeOf102
  v146 := Tryd.zeroValue102
  g1 := by kernel_rfl
  g3 := by kernel_rfl
  g4 := by kernel_rfl }
open Go.RowKit Go.Lib in
/-- strings.Split. (LAID: no walk: one application.) -/
theorem Tryd.strings_Split (s sep : ByteArray) (m : Int) (w : World) (hs : s.size < 4294967281) (hm : w.cell? ⟨0, 0, none⟩ = some (.int .i64 m)) (h1 : 1 ≤ sep.size) :
    Calls Tryd.prog 32 #[.string s, .string sep] w fun e w' =>
      e = .returned (.slice (some ⟨w.heap.size, 0, none⟩) (Lib.countB s sep + 1) (Lib.countB s sep + 1)) ∧ w' = w.alloc (.cells ((Lib.splitB sep 0 (Lib.countB s sep) s).map Value.string).toArray 9) := Any.strings_Split Tryd.lays146 (by kernel_rfl) s sep m w hs hm h1
def Tryd.laysM146_ren : Go.Shelf.Ren := ⟨fun | 146 => 32 | 221 => 46 | 268 => 55 | 138 => 56 | 143 => 57 | 195 => 68 | 197 => 69 | 218 => 70 | 219 => 54 | 260 => 81 | 217 => 61 | 225 => 65 | 224 => 66 | 267 => 67 | 266 => 74 | 314 => 80 | n => n, fun | 9 => 9 | 31 => 54 | 3 => 3 | 4 => 4 | 0 => 0 | 105 => 91 | 21 => 21 | 5 => 5 | 46 => 89 | 119 => 114 | 139 => 117 | 138 => 116 | 146 => 102 | 51 => 101 | n => n, fun | 1 => 0 | 3 => 2 | 4 => 3 | n => n⟩
theorem Tryd.laysM146 : Go.Proofs.LaysM.n146 Tryd.prog Tryd.laysM146_ren := {
  mixed := by kernel_rfl
  f138 := Tryd.func56.trans (congrArg some (by kernel_rfl))
  f143 := Tryd.func57.trans (congrArg some (by kernel_rfl))
  f146 := Tryd.func32.trans (congrArg some (by kernel_rfl))
  f195 := Tryd.func68.trans (congrArg some (by kernel_rfl))
  f197 := Tryd.func69.trans (congrArg some (by kernel_rfl))
  f217 := Tryd.func61.trans (congrArg some (by kernel_rfl))
  f218 := Tryd.func70.trans (congrArg some (by kernel_rfl))
  f219 := Tryd.func54.trans (congrArg some (by kernel_rfl))
  f221 := Tryd.func46.trans (congrArg some (by kernel_rfl))
  f224 := Tryd.func66.trans (congrArg some (by kernel_rfl))
  f225 := Tryd.func65.trans (congrArg some (by kernel_rfl))
  f260 := Tryd.func81.trans (congrArg some (by kernel_rfl))
  f266 := Tryd.func74.trans (congrArg some (by kernel_rfl))
  f267 := Tryd.func67.trans (congrArg some (by kernel_rfl))
  f268 := Tryd.func55.trans (congrArg some (by kernel_rfl))
  f314 := Tryd.func80.trans (congrArg some (by kernel_rfl))
  t0 := Tryd.underlying0
  a0 := Tryd.isAgg0
  z0 := Tryd.sizeOf0
  v0 := Tryd.zeroValue0
  t3 := Tryd.underlying3
  a3 := Tryd.isAgg3
  z3 := Tryd.sizeOf3
  v3 := Tryd.zeroValue3
  t4 := Tryd.underlying4
  a4 := Tryd.isAgg4
  z4 := Tryd.sizeOf4
  v4 := Tryd.zeroValue4
  t5 := Tryd.underlying5
  a5 := Tryd.isAgg5
  z5 := Tryd.sizeOf5
  v5 := Tryd.zeroValue5
  t9 := Tryd.underlying9
  a9 := Tryd.isAgg9
  z9 := Tryd.sizeOf9
  v9 := Tryd.zeroValue9
  t21 := Tryd.underlying21
  a21 := Tryd.isAgg21
  z21 := Tryd.sizeOf21
  v21 := Tryd.zeroValue21
  t31 := Tryd.underlying54
  a31 := Tryd.isAgg54
  z31 := Tryd.sizeOf54
  v31 := Tryd.zeroValue54
  t46 := Tryd.underlying89
  a46 := Tryd.isAgg89
  z46 := Tryd.sizeOf89
  v46 := Tryd.zeroValue89
  t51 := Tryd.underlying101
  a51 := Tryd.isAgg101
  z51 := Tryd.sizeOf101
  v51 := Tryd.zeroValue101
  t105 := Tryd.underlying91
  a105 := Tryd.isAgg91
  z105 := Tryd.sizeOf91
  v105 := Tryd.zeroValue91
  t119 := Tryd.underlying114
  a119 := Tryd.isAgg114
  z119 := Tryd.sizeOf114
  t138 := Tryd.underlying116
  a138 := Tryd.isAgg116
  z138 := Tryd.sizeOf116
  v138 := Tryd.zeroValue116
  t139 := Tryd.underlying117
  a139 := Tryd.isAgg117
  z139 := Tryd.sizeOf117
  v139 := Tryd.zeroValue117
  t146 := Tryd.underlying102
  a146 := Tryd.isAgg102
  z146 := Tryd.sizeOf102
  v146 := Tryd.zeroValue102
  g1 := by kernel_rfl
  g3 := by kernel_rfl
  g4 := by kernel_rfl
  i0 := by kernel_rfl
  i3 := by kernel_rfl
  i4 := by kernel_rfl
  i5 := by kernel_rfl
  i9 := by kernel_rfl
  i21 := by kernel_rfl
  i31 := by kernel_rfl
  i46 := by kernel_rfl
  i51 := by kernel_rfl
  i105 := by kernel_rfl
  i138 := by kernel_rfl
  i139 := by kernel_rfl
  i146 := by kernel_rfl
  m1 := by kernel_rfl
  s1_3 := fun w h => Go.Proofs.cell_of_shapedOpen_int (zero := #[.int .i64 0]) (t := 3) h (of_decide_eq_true (by kernel_rfl)) (by kernel_rfl) rfl (by kernel_rfl) (by kernel_rfl) Tryd.underlying3
  m3 := by kernel_rfl
  m4 := by kernel_rfl }
end Go.Proofs
namespace Go.Proofs.YtpkfchdnpdcenaaDoor
open Go.Ab Go.Tb
set_option maxRecDepth 10000
attribute [local irreducible] W WO Pu QS QB QL QF QV QV1 CH QE
theorem numB_size {n : Int} (h : n.natAbs < 10 ^ 20) : (numB n).size ≤ 21 := by
  have e : (numB n).size = (Lib.itoa n).length := Array.length_toList.symm
  rw [e]
  rcases Int.lt_or_le n 0 with hn | hn
  · rw [numB_neg hn, List.length_cons]; have := digB_len n.natAbs 19 h; omega
  · rw [numB_pos hn]; have := digB_len n.toNat 19 (by omega); omega
theorem within_fn (n : Int) (ok : Bool) : Does Tryd.prog 59 [.d (.v (.int .i64 n)), .d (.v (.bool ok))] (.tup [.d (.v (.int .i64 (if ok && inR n then n else 0))), .d (.v (.bool (ok && inR n)))]) 0 := by
  refine Does.of_W (n := 14) (ts := [4, 5]) Tryd.func59 (by kernel_rfl) rfl Tryd.ntmps59 Tryd.results59 rfl rfl fun C hC hG => ?_
  refine W.seq ?_
  refine W.region ?_
  iterate 2 refine pu (ev tab rfl) rfl ?_
  refine WO.nil ?_
  refine qs ?_
  refine W.seq ?_
  refine W.seq ?_
  apply regionB; (case hb => rfl)
  · skip
    iterate 3 refine pu (ev tab rfl) rfl ?_
    apply splitJ; (case hj => rfl); (case hl => rfl)
    · skip
      refine skipT rfl rfl rfl rfl ?_
      refine skipT rfl rfl rfl rfl ?_
      refine skipT rfl rfl rfl rfl ?_
      refine pu (ev tab rfl) rfl ?_
      refine WO.nil ?_
      refine qv1 rfl rfl rfl
    · skip
      refine goG rfl rfl ?_
      refine pu (ev tab rfl) rfl ?_
      refine goG rfl rfl ?_
      refine pu (puCall rfl rfl rfl (in_fn ..) rfl) rfl ?_
      refine goG rfl rfl ?_
      iterate 2 refine pu (ev tab rfl) rfl ?_
      refine WO.nil ?_
      refine qv1 rfl rfl rfl
  refine qs ?_
  refine condK rfl (fun h12 => ?_) (fun h12 => ?_)
  · skip
    refine W.seq ?_
    refine W.region ?_
    iterate 2 refine pu (ev tab rfl) rfl ?_
    refine WO.nil ?_
    refine qs ?_
    refine W.ret ?_
    refine qsRet ?_
    refine QF.ret0 trivial rfl ?_
    cases ok <;> cases h : inR n <;> simp_all [norm, normL, oneA]
  · skip
    refine W.skip ?_
    refine qs ?_
    refine W.seq ?_
    refine W.region ?_
    iterate 3 refine pu (ev tab rfl) rfl ?_
    refine WO.nil ?_
    refine qs ?_
    refine W.ret ?_
    refine QF.ret0 trivial rfl ?_
    cases ok <;> cases h : inR n <;> simp_all [norm, normL, oneA]
end Go.Proofs.YtpkfchdnpdcenaaDoor
namespace Go.Proofs.YtpkfchdnpdcenaaDoor
open Go.Ab Go.Tb
set_option maxRecDepth 10000
attribute [local irreducible] W WO Pu QS QB QL QF QV QV1 CH QE
theorem num_of {w : World} (hu : Under Tryd.prog w) : MetNum Tryd.prog w := hu.num (fun _ h => h)
theorem numB_ok {n : Int} (h : n.natAbs < 10 ^ 20) : okc (.string (numB n)) = true := by
  have := numB_size h
  exact decide_eq_true (by simp only [maxLen]; omega)
theorem abs_int {n : Int} (h0 : -9223372036854775808 ≤ n) (h1 : n ≤ 9223372036854775807) : n.natAbs < 10 ^ 20 := by
  have hp : (10 : Nat) ^ 20 = 100000000000000000000 := by decide
  omega
open Go.RowKit in
theorem itoa_fn (n : Int) (h0 : -9223372036854775808 ≤ n) (h1 : n ≤ 9223372036854775807) : Does Tryd.prog 44 [.d (.v (.int .i64 n))] (.d (.v (.string (numB n)))) 0 :=
  Does.of_freshV (xs := [.int .i64 n]) ⟨_, Tryd.func44, by kernel_rfl, by kernel_rfl⟩ fun w hu _ =>
    (Tryd.strconv_Itoa n h0 h1 w (num_of hu).1).mono fun e w' ⟨he, k, os, hw⟩ =>
      ⟨_, he, hw ▸ Lib.below_grow _ w (Nat.le_refl _) k os, fun _ _ _ => .d (.v _ (numB_ok (abs_int h0 h1)))⟩
theorem text_fn (n : Int) (h0 : -9223372036854775808 ≤ n) (h1 : n ≤ 9223372036854775807) : Does Tryd.prog 26 [.d (.v (.int .i64 n))] (.d (.v (.string (numB n)))) 0 := by
  refine Does.of_W (n := 5) (ts := [2]) Tryd.func26 (by kernel_rfl) rfl Tryd.ntmps26 Tryd.results26 rfl rfl fun C hC hG => ?_
  refine W.seq ?_
  refine W.region ?_
  refine pu (ev tab rfl) rfl ?_
  refine WO.nil ?_
  refine qs ?_
  refine W.seq ?_
  refine W.region ?_
  refine pu (ev tab rfl) rfl ?_
  refine pu (puCall rfl rfl rfl ((itoa_fn _ (by assumption) (by assumption))) rfl) rfl ?_
  refine pu (ev tab rfl) rfl ?_
  refine WO.nil ?_
  refine qs ?_
  refine W.ret ?_
  refine QF.ret0 trivial rfl ?_
  rfl
/-- how strconv.Atoi ends -/
def atoiA (s : ByteArray) : A :=
  match Lib.atoiAll s.data.toList with
  | .ok v => .tup [.d (.v (.int .i64 v)), .d (.v .nilIface)]
  | .range => .tup [.d (.v (.int .i64 (Lib.atoiSat s.data.toList))), .ni]
  | _ => .tup [.d (.v (.int .i64 0)), .ni]
theorem sat_ok (l : List UInt8) : okc (.int .i64 (Lib.atoiSat l)) = true := by
  unfold Lib.atoiSat
  split <;> (try split) <;> decide
open Go.RowKit in
theorem atoi_fn (s : ByteArray) (hs : s.size ≤ 281474976710656) : Does Tryd.prog 58 [.d (.v (.string s))] (atoiA s) 0 :=
  Does.of_freshV (xs := [.string s]) ⟨_, Tryd.func58, by kernel_rfl, by kernel_rfl⟩ fun w hu _ => by
    obtain ⟨_, ⟨t, p, h2⟩, t', p', h3⟩ := num_of hu
    unfold atoiA
    cases h : Lib.atoiAll s.data.toList with
    | ok v =>
      have hb := Lib.atoiAll_bounds h
      refine (Tryd.strconv_Atoi_ok s (by omega) v h w).mono fun e w' ⟨he, hw⟩ => ⟨_, he, ?_, fun _ _ _ => pairRep (.d (.v _ ?_)) (.d (.v _ rfl))⟩
      · rcases hw with rfl | ⟨t, rfl⟩
        · exact Below.refl _ _
        · exact Joins.below_bytesWorld _ w _ _ (Nat.le_refl _)
      · simp [okc, IntKind.min, IntKind.max, IntKind.signed, IntKind.bits]
        omega
    | range =>
      exact (Tryd.strconv_Atoi_range_var s hs h t' p' w h3).mono fun e w' ⟨N, he, _, _, hb⟩ => ⟨_, he, hb, fun _ _ _ => pairRep (.d (.v _ (sat_ok _))) (.ni _ _)⟩
    | _ =>
      exact (Tryd.strconv_Atoi_syntax_var s hs h t p w h2).mono fun e w' ⟨N, he, _, _, hb⟩ => ⟨_, he, hb, fun _ _ _ => pairRep (.d (.v _ (by decide))) (.ni _ _)⟩
end Go.Proofs.YtpkfchdnpdcenaaDoor
namespace Go.Proofs.YtpkfchdnpdcenaaDoor
open Go.Ab Go.Tb
set_option maxRecDepth 10000
attribute [local irreducible] W WO Pu QS QB QL QF QV QV1 CH QE
open Go.RowKit in
theorem join_fn (l : List ByteArray) (sep : ByteArray) (hl : l.length ≤ 100000) (hb : (joinB l sep).size ≤ 1000000) : Does Tryd.prog 42 [.d (.sl (l.map fun s => [.v (.string s)])), .d (.v (.string sep))] (.d (.v (.string (joinB l sep)))) 0 := by
  have hok : okc (.string (joinB l sep)) = true := decide_eq_true (by simp only [maxLen]; omega)
  have hdl : (Lib.join (l.map (·.data.toList)) sep.data.toList).length = (joinB l sep).size := by
    have : (joinB l sep).data.toList.length = (joinB l sep).size := Array.length_toList
    rw [← this]; rfl
  refine Does.of_fresh ⟨_, Tryd.func42, by kernel_rfl, by kernel_rfl⟩ fun w vals E hE hu hsz hr => ?_
  have hsz2 : vals.size = 2 := hsz
  obtain ⟨v0, v1, rfl⟩ : ∃ v0 v1, vals = #[v0, v1] := ⟨vals[0], vals[1], by apply Array.ext (by simp [hsz2]); intro i h1 h2; match i, h1, h2 with
    | 0, _, _ => rfl
    | 1, _, _ => rfl
    | k + 2, h1, _ => omega⟩
  have r0 := hr 0 v0 _ rfl rfl
  have r1 := hr 1 v1 _ rfl rfl
  cases r1 with | d r1 => cases r1 with | v _ h1 =>
  cases r0 with | d r0 =>
  subst hE
  rcases r0.strs with ⟨rfl, a, c, rfl⟩ | ⟨b, off, c, rfl, h3, h4, h5⟩
  · refine (Tryd.strings_Join_none a c sep E.w).mono fun e w' ⟨he, hw⟩ => ⟨_, he, hw ▸ Below.refl _ _, fun _ _ _ => .d (.v _ hok)⟩
  · rcases Nat.eq_zero_or_pos l.length with hz | hp
    · have : l = [] := List.eq_nil_of_length_eq_zero hz
      subst this
      exact (Tryd.strings_Join_none _ c sep E.w).mono fun e w' ⟨he, hw⟩ => ⟨_, he, hw ▸ Below.refl _ _, fun _ _ _ => .d (.v _ hok)⟩
    · have hbk : b < E.w.heap.size := cellAt_lt (o := off + 0) (h5 0 l[0] (by simp [hp])).1
      exact (Tryd.strings_Join b off c l sep E.w (fun j x hx => (h5 j x hx).1) hbk (by omega) h3 (by omega)).mono fun e w' ⟨he, hb⟩ => ⟨_, he, hb, fun _ _ _ => .d (.v _ hok)⟩
open Go.RowKit in
theorem split_fn (s : ByteArray) (c : UInt8) (hs : s.size ≤ 1000000) : Does Tryd.prog 32 [.d (.v (.string s)), .d (.v (.string ⟨#[c]⟩))] (.d (.sl ((cutB s c).map fun s => [.v (.string s)]))) 0 :=
  Does.of_freshV (xs := [.string s, .string ⟨#[c]⟩]) ⟨_, Tryd.func32, by kernel_rfl, by kernel_rfl⟩ fun w hu _ => by
    obtain ⟨m, hm⟩ := hu.cell (b := _) Tryd.laysM146.s1_3
    refine (Tryd.strings_Split s ⟨#[c]⟩ m w (by omega) hm (Nat.le_refl 1)).mono fun e w' ⟨he, hw⟩ => ⟨_, he, ?_, fun E' hE hpv => .d ?_⟩
    · rw [hw]; exact (Below.refl _ _).alloc (Nat.le_refl _) _
    · have hlen : Lib.countB s ⟨#[c]⟩ + 1 = (cutB s c).length := by rw [← splitB_cut]; exact (Lib.splitB_all ⟨#[c]⟩ (Nat.le_refl 1) 0 _ s rfl).symm
      rw [hlen]
      rw [splitB_cut] at hw
      have hcl : (cutB s c).length ≤ s.size + 1 := by
        have h1 := cutL_len c s.data.toList
        have h2 : s.data.toList.length = s.size := Array.length_toList
        unfold cutB
        rw [List.length_map]
        omega
      refine RepD.newStrs (b := w.heap.size) (arr := ((cutB s c).map Value.string).toArray) (T := 9) ?_ (Nat.le_refl _) (by simp only [maxLen]; omega) (fun j t hj => ⟨by simp [hj], ?_⟩) (fun o hp => absurd (hpv _ _ hp) (Nat.lt_irrefl _))
      · rw [hE, hw]; exact (MapKept.heap_alloc w _).1
      · have hm2 : t ∈ cutB s c := List.mem_of_getElem? hj
        unfold cutB at hm2
        obtain ⟨x, hx, rfl⟩ := List.mem_map.1 hm2
        have h1 := cutL_mem c _ x hx
        have h2 : s.data.toList.length = s.size := Array.length_toList
        have h3 : (ofL x).size = x.length := (Array.length_toList (xs := (ofL x).data)).symm
        simp only [maxLen]
        omega
end Go.Proofs.YtpkfchdnpdcenaaDoor
namespace Go.Proofs.YtpkfchdnpdcenaaDoor
open Go.Ab Go.Tb
set_option maxRecDepth 10000
attribute [local irreducible] W WO Pu QS QB QL QF QV QV1 CH QE
end Go.Proofs.YtpkfchdnpdcenaaDoor
namespace Go.Proofs.YtpkfchdnpdcenaaDoor
open Go.Ab Go.Tb
set_option maxRecDepth 10000
attribute [local irreducible] W WO Pu QS QB QL QF QV QV1 CH QE
end Go.Proofs.YtpkfchdnpdcenaaDoor
namespace Go.Proofs.YtpkfchdnpdcenaaDoor
open Go.Ab Go.Tb
set_option maxRecDepth 10000
attribute [local irreducible] W WO Pu QS QB QL QF QV QV1 CH QE
theorem nparse_ok (s : ByteArray) (v : Int) (h : Lib.atoiAll s.data.toList = .ok v) : numP s = (if (if numB v = s then true else false) && inR v then (v, true) else (0, false)) := by
  unfold numP
  rw [h]
  by_cases h1 : numB v = s <;> by_cases h2 : inR v = true <;> simp [h1, h2]
theorem sat_in (l : List UInt8) : -9223372036854775808 ≤ Lib.atoiSat l ∧ Lib.atoiSat l ≤ 9223372036854775807 := by
  unfold Lib.atoiSat
  split <;> decide
theorem nparse_fn (s : ByteArray) (hs : s.size ≤ 281474976710656) : Does Tryd.prog 48 [.d (.v (.string s))] (.tup [.d (.v (.int .i64 (numP s).1)), .d (.v (.bool (numP s).2))]) 0 := by
  have ha := atoi_fn s hs
  unfold atoiA at ha
  cases h : Lib.atoiAll s.data.toList with
  | ok v =>
    rw [h] at ha
    have hb := Lib.atoiAll_bounds h
    have hp := nparse_ok s v h
    refine Does.of_W (n := 23) (ts := [2, 3]) Tryd.func48 (by kernel_rfl) rfl Tryd.ntmps48 Tryd.results48 rfl rfl fun C hC hG => ?_
    refine W.seq ?_
    refine W.region ?_
    iterate 2 refine pu (ev tab rfl) rfl ?_
    refine WO.nil ?_
    refine qs ?_
    refine W.seq ?_
    refine W.region ?_
    refine pu (ev tab rfl) rfl ?_
    refine pu (puCall rfl rfl rfl ha rfl) rfl ?_
    iterate 5 refine pu (ev tab rfl) rfl ?_
    refine WO.nil ?_
    refine qs ?_
    refine W.seq ?_
    refine W.region ?_
    iterate 2 refine pu (ev tab rfl) rfl ?_
    refine pu (nilEq rfl (by kernel_rfl)) rfl ?_
    refine pu (ev tab rfl) rfl ?_
    refine splitG rfl rfl (fun _ => ?_) (fun _ => ?_)
    · skip
      refine goG rfl rfl ?_
      refine pu (ev tab rfl) rfl ?_
      refine goG rfl rfl ?_
      refine pu (puCall rfl rfl rfl (text_fn v hb.1 hb.2) rfl) rfl ?_
      refine goG rfl rfl ?_
      refine pu (ev tab rfl) rfl ?_
      refine goG rfl rfl ?_
      iterate 2 refine pu (ev tab rfl) rfl ?_
      refine pu (puCall rfl rfl rfl (within_fn ..) rfl) rfl ?_
      iterate 4 refine pu (ev tab rfl) rfl ?_
      refine WO.nil ?_
      refine qs ?_
      refine W.ret ?_
      refine QF.ret0 trivial rfl ?_
      first | contradiction | (rw [hp]; simp only [norm, normL, oneA]; by_cases h1 : numB v = s <;> by_cases h2 : inR v = true <;> simp [h1, h2])
    · skip
      refine skipT rfl rfl rfl rfl ?_
      refine skipT rfl rfl rfl rfl ?_
      refine skipT rfl rfl rfl rfl ?_
      refine skipT rfl rfl rfl rfl ?_
      refine pu (ev tab rfl) rfl ?_
      refine pu (puCall rfl rfl rfl (within_fn ..) rfl) rfl ?_
      iterate 4 refine pu (ev tab rfl) rfl ?_
      refine WO.nil ?_
      refine qs ?_
      refine W.ret ?_
      refine QF.ret0 trivial rfl ?_
      first | contradiction | (rw [hp]; simp only [norm, normL, oneA]; by_cases h1 : numB v = s <;> by_cases h2 : inR v = true <;> simp [h1, h2])
  | range =>
    rw [h] at ha
    have hp : numP s = (0, false) := by unfold numP; rw [h]
    refine Does.of_W (n := 23) (ts := [2, 3]) Tryd.func48 (by kernel_rfl) rfl Tryd.ntmps48 Tryd.results48 rfl rfl fun C hC hG => ?_
    refine W.seq ?_
    refine W.region ?_
    iterate 2 refine pu (ev tab rfl) rfl ?_
    refine WO.nil ?_
    refine qs ?_
    refine W.seq ?_
    refine W.region ?_
    refine pu (ev tab rfl) rfl ?_
    refine pu (puCall rfl rfl rfl ha rfl) rfl ?_
    iterate 5 refine pu (ev tab rfl) rfl ?_
    refine WO.nil ?_
    refine qs ?_
    refine W.seq ?_
    refine W.region ?_
    iterate 2 refine pu (ev tab rfl) rfl ?_
    refine pu (niEq rfl (by kernel_rfl)) rfl ?_
    refine pu (ev tab rfl) rfl ?_
    refine splitG rfl rfl (fun _ => ?_) (fun _ => ?_)
    · skip
      refine goG rfl rfl ?_
      refine pu (ev tab rfl) rfl ?_
      refine goG rfl rfl ?_
      refine pu (puCall rfl rfl rfl (text_fn _ (sat_in _).1 (sat_in _).2) rfl) rfl ?_
      refine goG rfl rfl ?_
      refine pu (ev tab rfl) rfl ?_
      refine goG rfl rfl ?_
      iterate 2 refine pu (ev tab rfl) rfl ?_
      refine pu (puCall rfl rfl rfl (within_fn ..) rfl) rfl ?_
      iterate 4 refine pu (ev tab rfl) rfl ?_
      refine WO.nil ?_
      refine qs ?_
      refine W.ret ?_
      refine QF.ret0 trivial rfl ?_
      first | contradiction | (rw [hp]; rfl)
    · skip
      refine skipT rfl rfl rfl rfl ?_
      refine skipT rfl rfl rfl rfl ?_
      refine skipT rfl rfl rfl rfl ?_
      refine skipT rfl rfl rfl rfl ?_
      refine pu (ev tab rfl) rfl ?_
      refine pu (puCall rfl rfl rfl (within_fn ..) rfl) rfl ?_
      iterate 4 refine pu (ev tab rfl) rfl ?_
      refine WO.nil ?_
      refine qs ?_
      refine W.ret ?_
      refine QF.ret0 trivial rfl ?_
      first | contradiction | (rw [hp]; rfl)
  | _ =>
    rw [h] at ha
    have hp : numP s = (0, false) := by unfold numP; rw [h]
    refine Does.of_W (n := 23) (ts := [2, 3]) Tryd.func48 (by kernel_rfl) rfl Tryd.ntmps48 Tryd.results48 rfl rfl fun C hC hG => ?_
    refine W.seq ?_
    refine W.region ?_
    iterate 2 refine pu (ev tab rfl) rfl ?_
    refine WO.nil ?_
    refine qs ?_
    refine W.seq ?_
    refine W.region ?_
    refine pu (ev tab rfl) rfl ?_
    refine pu (puCall rfl rfl rfl ha rfl) rfl ?_
    iterate 5 refine pu (ev tab rfl) rfl ?_
    refine WO.nil ?_
    refine qs ?_
    refine W.seq ?_
    refine W.region ?_
    iterate 2 refine pu (ev tab rfl) rfl ?_
    refine pu (niEq rfl (by kernel_rfl)) rfl ?_
    refine pu (ev tab rfl) rfl ?_
    refine splitG rfl rfl (fun _ => ?_) (fun _ => ?_)
    · skip
      refine goG rfl rfl ?_
      refine pu (ev tab rfl) rfl ?_
      refine goG rfl rfl ?_
      refine pu (puCall rfl rfl rfl (text_fn 0 (by decide) (by decide)) rfl) rfl ?_
      refine goG rfl rfl ?_
      refine pu (ev tab rfl) rfl ?_
      refine goG rfl rfl ?_
      iterate 2 refine pu (ev tab rfl) rfl ?_
      refine pu (puCall rfl rfl rfl (within_fn ..) rfl) rfl ?_
      iterate 4 refine pu (ev tab rfl) rfl ?_
      refine WO.nil ?_
      refine qs ?_
      refine W.ret ?_
      refine QF.ret0 trivial rfl ?_
      first | contradiction | (rw [hp]; rfl)
    · skip
      refine skipT rfl rfl rfl rfl ?_
      refine skipT rfl rfl rfl rfl ?_
      refine skipT rfl rfl rfl rfl ?_
      refine skipT rfl rfl rfl rfl ?_
      refine pu (ev tab rfl) rfl ?_
      refine pu (puCall rfl rfl rfl (within_fn ..) rfl) rfl ?_
      iterate 4 refine pu (ev tab rfl) rfl ?_
      refine WO.nil ?_
      refine qs ?_
      refine W.ret ?_
      refine QF.ret0 trivial rfl ?_
      first | contradiction | (rw [hp]; rfl)
end Go.Proofs.YtpkfchdnpdcenaaDoor
namespace Go.Proofs.YtpkfchdnpdcenaaDoor
open Go.Ab Go.Tb
set_option maxRecDepth 10000
attribute [local irreducible] W WO Pu QS QB QL QF QV QV1 CH QE
end Go.Proofs.YtpkfchdnpdcenaaDoor
namespace Go.Proofs.YtpkfchdnpdcenaaDoor
open Go.Ab Go.Tb
set_option maxRecDepth 10000
attribute [local irreducible] W WO Pu QS QB QL QF QV QV1 CH QE
end Go.Proofs.YtpkfchdnpdcenaaDoor
namespace Go.Proofs.YtpkfchdnpdcenaaDoor
open Go.Ab
abbrev tB : Nat := 51
abbrev tU : Nat := 5
theorem bld_cc : FnOK Tryd.prog 51 := ⟨_, Tryd.func51, by kernel_rfl, by kernel_rfl⟩
theorem bld_st : FnOK Tryd.prog 28 := ⟨_, Tryd.func28, by kernel_rfl, by kernel_rfl⟩
theorem bld_copy : CopyChecks Tryd.prog tB 51 where
  used := fun b w h => Go.Proofs.Any.Builder_copyCheck_used { Tryd.lays165 with } Tryd.Builder_Extra_165.toX72 b w h
  fresh := fun b w h0 h1 h2 => Go.Proofs.Any.Builder_copyCheck_fresh { Tryd.lays165 with } Tryd.Builder_Extra_165.toX72 b w h0 h1 h2
theorem bld_str : StrGives Tryd.prog tB tU 28 := fun B b l w h hB => Tryd.Builder_String_any B b l w h hB
end Go.Proofs.YtpkfchdnpdcenaaDoor
namespace Go.Proofs.YtpkfchdnpdcenaaDoor
open Go.Ab Go.Tb
set_option maxRecDepth 10000
attribute [local irreducible] W WO Pu QS QB QL QF QV QV1 CH QE
theorem copyCheck_fn (u : Bool) (s : ByteArray) : DoesB Tryd.prog 51 [.ptr 0 0] [[.np 0 tB u, .bf 1 tU s]] 1 (.tup []) [[.np 0 tB true, .bf 1 tU s]] 1 := CopyChecks.does bld_cc bld_copy u (.bf 1 tU s) 1
theorem bwrite_fn (u : Bool) (s x : ByteArray) (hb : s.size + x.size ≤ 140737488355328) : DoesB Tryd.prog 41 [.ptr 0 0, .d (.v (.string x))] [[.np 0 tB u, .bf 1 tU s]] 1 (.tup [.d (.v (.int .i64 x.size)), .d (.v .nilIface)]) [[.np 0 tB true, .bf 1 tU (s ++ x)]] 1 := by
  refine DoesB.of_V tab (n := 19) (rs := [.tmp 4, .tmp 5]) Tryd.func41 (by kernel_rfl) rfl Tryd.ntmps41 Tryd.results41 rfl rfl fun C hC hG => ?_
  refine W.seq ?_
  refine W.region ?_
  iterate 2 refine pu (ev tab rfl) rfl ?_
  refine WO.nil ?_
  refine qs ?_
  refine W.seq ?_
  refine W.region ?_
  refine pu (ev tab rfl) rfl ?_
  refine callB [0] [1] rfl rfl rfl rfl rfl ((copyCheck_fn u s)) rfl rfl (by rfl) (by rfl) rfl rfl rfl rfl ?_
  refine WO.nil ?_
  refine qs ?_
  refine W.seq ?_
  refine W.region ?_
  iterate 4 refine pu (ev tab rfl) rfl ?_
  first | refine pu (ev tab rfl) rfl ?_ | refine pu (loadRow tab rfl rfl rfl rfl) rfl ?_ | refine pu (loadBox tab rfl rfl rfl rfl rfl) rfl ?_
  refine pu (ev tab rfl) rfl ?_
  refine appendStrB tab rfl rfl rfl rfl rfl rfl rfl rfl rfl rfl hb rfl rfl ?_
  iterate 2 refine pu (ev tab rfl) rfl ?_
  refine storeR tab rfl rfl rfl rfl rfl rfl rfl rfl ?_
  refine WO.nil ?_
  refine qs ?_
  refine W.seq ?_
  refine W.region ?_
  iterate 4 refine pu (ev tab rfl) rfl ?_
  refine WO.nil ?_
  refine qs ?_
  refine W.ret ?_
  refine QB1.end tab [4] trivial rfl rfl rfl rfl ?_ ?_
  · exact ⟨rfl, trivial⟩
  rfl
theorem bbyte_fn (u : Bool) (s : ByteArray) (c : Int) (m : ByteArray) (hm : m.size = 1) (hm0 : ∀ b, m.data[0]? = some b → (b.toNat : Int) = c) (hb : s.size + 1 ≤ 140737488355328) : DoesB Tryd.prog 43 [.ptr 0 0, .d (.v (.int .u8 c))] [[.np 0 tB u, .bf 1 tU s]] 1 (.d (.v .nilIface)) [[.np 0 tB true, .bf 1 tU (s ++ m)]] 1 := by
  refine DoesB.of_V tab (n := 17) (rs := [.tmp 4]) Tryd.func43 (by kernel_rfl) rfl Tryd.ntmps43 Tryd.results43 rfl rfl fun C hC hG => ?_
  refine W.seq ?_
  refine W.region ?_
  refine pu (ev tab rfl) rfl ?_
  refine WO.nil ?_
  refine qs ?_
  refine W.seq ?_
  refine W.region ?_
  refine pu (ev tab rfl) rfl ?_
  refine callB [0] [1] rfl rfl rfl rfl rfl ((copyCheck_fn u s)) rfl rfl (by rfl) (by rfl) rfl rfl rfl rfl ?_
  refine WO.nil ?_
  refine qs ?_
  refine W.seq ?_
  refine W.region ?_
  iterate 4 refine pu (ev tab rfl) rfl ?_
  first | refine pu (ev tab rfl) rfl ?_ | refine pu (loadRow tab rfl rfl rfl rfl) rfl ?_ | refine pu (loadBox tab rfl rfl rfl rfl rfl) rfl ?_
  refine pu (ev tab rfl) rfl ?_
  refine pu (buildV tab rfl rfl rfl rfl rfl rfl rfl rfl rfl) rfl ?_
  refine appendByteB tab rfl rfl rfl rfl rfl rfl rfl rfl m hm hm0 hb rfl rfl ?_
  iterate 2 refine pu (ev tab rfl) rfl ?_
  refine storeR tab rfl rfl rfl rfl rfl rfl rfl rfl ?_
  refine WO.nil ?_
  refine qs ?_
  refine W.seq ?_
  refine W.region ?_
  refine pu (ev tab rfl) rfl ?_
  refine WO.nil ?_
  refine qs ?_
  refine W.ret ?_
  refine QB1.end tab [4] trivial rfl rfl rfl rfl ?_ ?_
  · exact ⟨rfl, trivial⟩
  rfl
theorem blen_fn (u : Bool) (s : ByteArray) : DoesB Tryd.prog 27 [.ptr 0 0] [[.np 0 tB u, .bf 1 tU s]] 1 (.d (.v (.int .i64 s.size))) [[.np 0 tB u, .bf 1 tU s]] 1 := by
  refine DoesB.of_V tab (n := 8) (rs := [.tmp 2]) Tryd.func27 (by kernel_rfl) rfl Tryd.ntmps27 Tryd.results27 rfl rfl fun C hC hG => ?_
  refine W.seq ?_
  refine W.region ?_
  refine pu (ev tab rfl) rfl ?_
  refine WO.nil ?_
  refine qs ?_
  refine W.seq ?_
  refine W.region ?_
  iterate 3 refine pu (ev tab rfl) rfl ?_
  first | refine pu (ev tab rfl) rfl ?_ | refine pu (loadRow tab rfl rfl rfl rfl) rfl ?_ | refine pu (loadBox tab rfl rfl rfl rfl rfl) rfl ?_
  refine pu (lenB tab rfl rfl rfl rfl) rfl ?_
  refine pu (ev tab rfl) rfl ?_
  refine WO.nil ?_
  refine qs ?_
  refine W.ret ?_
  refine QB1.end tab [1] trivial rfl rfl rfl rfl ?_ ?_
  · exact ⟨rfl, trivial⟩
  rfl
end Go.Proofs.YtpkfchdnpdcenaaDoor
namespace Go.Proofs.YtpkfchdnpdcenaaDoor
open Go.Ab Go.Tb
set_option maxRecDepth 10000
attribute [local irreducible] W WO Pu QS QB QL QF QV QV1 CH QE
def lastI (l : List Int) (k : Nat) : Option Int := if k = 0 then none else l[k - 1]?
theorem sub_one1 {k : Nat} (h : 0 < k) (hm : (k : Int) ≤ 9223372036854775807) : IntKind.i64.wrap ((k : Int) - 1) = ((k - 1 : Nat) : Int) := by
  rw [wrap64 (by omega)]
  omega
theorem last_le (l : List Int) (k : Nat) (n p : Int) (hp : 0 < k → l[k - 1]? = some p) : lastLe (lastI l k) n = (decide (0 < k) && decide (n ≤ p)) := by
  unfold lastI lastLe
  by_cases q : k = 0
  · simp [q]
  · rw [if_neg q, hp (by omega)]; simp; omega
theorem last_next {l : List Int} {k : Nat} {n : Int} (hx : l[k]? = some n) : lastI l (k + 1) = some n := by unfold lastI; rw [if_neg (by omega), Nat.add_sub_cancel, hx]
theorem incr_fn (b : Nat) (objs : List Ob) (l : List Int) : DoesH Tryd.prog (fun C => MapAt C.w0 (pvOf C G0) b ik (fun i : Nat => ci i) (idsH objs objs.length)) 22 [.d (.sl (l.map ic)), .d (.v (.map (some b)))] (.d (.v (.int .i64 (incErr objs l none)))) 0 := by
  refine DoesH.of_V tab (n := 36) (rs := [.tmp 4]) Tryd.func22 (by kernel_rfl) rfl Tryd.ntmps22 Tryd.results22 rfl fun C hC hG hH hfp => ?_
  refine W.seq ?_
  refine W.region ?_
  refine pu (ev tab rfl) rfl ?_
  refine WO.nil ?_
  refine qs ?_
  refine W.seq ?_
  refine W.seq ?_
  refine W.region ?_
  iterate 3 refine pu (ev tab rfl) rfl ?_
  refine WO.nil ?_
  refine qs ?_
  refine W.block ?_
  refine W.len (t := 0) rfl rfl (fun hlen => ?_)
  try simp only [List.length_map, Ex.kc_len] at hlen
  refine W.loopR (ι := {x : Nat // match x with | k => k ≤ l.length ∧ incErr objs (l.drop k) (lastI l k) = incErr objs l none})
    (fun x => match x.1 with | k => [(11, .d (.v (.int .i64 ((k : Nat) : Int))))]) [(0, _), (1, _), (9, _), (10, _)]
    (fun x => match x.1 with | k => []) [] [] 0 (fun x => match x.1 with | k => l.length - k)
    [] ⟨0, ?_⟩ rfl ?_ ⟨rfl, rfl, rfl, rfl, rfl, rfl, rfl, rfl, trivial⟩ ?_ trivial rfl ?_
  · exact ⟨Nat.zero_le _, rfl⟩
  · repeat' first | exact trivial | refine ⟨rfl, ?_⟩ | refine ⟨step_nat (by assumption) (by assumption), ?_⟩
  · repeat' first | exact trivial | refine ⟨rfl, ?_⟩ | refine ⟨step_nat (by assumption) (by assumption), ?_⟩
  rintro ⟨k, hk, hI⟩
  show W _ _ _ _ _ ⟨[(11, .d (.v (.int .i64 ((k : Nat) : Int)))), (0, _), (1, _), (9, _), (10, _)], [], [], 0⟩
  refine W.seq ?_
  refine W.region ?_
  refine pu (ev tab rfl) rfl ?_
  refine WO.nil ?_
  refine qs ?_
  refine W.seq ?_
  refine eachR (l := l) (k := k) rfl (by simp [Ex.kc_len, bytes_len]) hk (fun n hx hd hlt => ?_) (fun he hd => ?_)
  · skip
    rw [hd] at hI
    simp only [incErr] at hI
    obtain ⟨p, hp⟩ : ∃ p : Int, 0 < k → l[k - 1]? = some p := ⟨l[k - 1]'(by omega), fun _ => by simp⟩
    rw [last_le l k n p hp] at hI
    refine W.skip ?_
    refine qs ?_
    refine W.seq ?_
    refine W.block ?_
    refine W.seq ?_
    refine W.region ?_
    refine pu (ev tab rfl) rfl ?_
    refine pu (indexAddr tab rfl rfl rfl rfl rfl rfl (Int.natCast_nonneg _) (idx_map hx) rfl) rfl ?_
    first | refine pu (ev tab rfl) rfl ?_ | refine pu (loadRow tab rfl rfl rfl rfl) rfl ?_ | refine pu (loadBox tab rfl rfl rfl rfl rfl) rfl ?_
    iterate 2 refine pu (ev tab rfl) rfl ?_
    refine WO.nil ?_
    refine qs ?_
    refine W.seq ?_
    refine W.seq ?_
    refine W.region ?_
    iterate 2 refine pu (ev tab rfl) rfl ?_
    refine pu (mapAsk (kf := ik) (vf := fun i : Nat => ci i) (l := idsH objs objs.length) (z := 0) tab b rfl rfl rfl rfl rfl (keyInt (tab.u_int rfl rfl)) rfl rfl (fun _ _ => .v _ rfl) (idsH_nodup objs _ (Nat.le_refl _)) hH hfp rfl (idsH_all objs n)) rfl ?_
    iterate 5 refine pu (ev tab rfl) rfl ?_
    refine WO.nil ?_
    refine qs ?_
    refine W.seq ?_
    refine W.region ?_
    iterate 2 refine pu (ev tab rfl) rfl ?_
    refine WO.nil ?_
    refine qs ?_
    refine condK rfl (fun h23 => ?_) (fun h23 => ?_)
    · skip
      have hc : hasI objs n = false := by simpa using h23
      rw [if_pos hc] at hI
      refine W.seq ?_
      refine W.region ?_
      refine pu (ev tab rfl) rfl ?_
      refine WO.nil ?_
      refine qs ?_
      refine W.ret ?_
      refine qsRet ?_
      refine qbRet ?_
      refine qsRet ?_
      refine qlRet ?_
      refine qbRet ?_
      refine qsRet ?_
      refine QV.ret0 tab trivial rfl ?_
      simp only [norm, oneA, ← hI]
    · skip
      have hc : hasI objs n = true := by simpa using h23
      rw [if_neg (by simp [hc])] at hI
      refine W.skip ?_
      refine qs ?_
      refine W.seq ?_
      apply regionB; (case hb => rfl)
      · skip
        iterate 3 refine pu (ev tab rfl) rfl ?_
        apply splitH; (case hj => rfl); (case hl => rfl)
        · intro g26
          refine goG rfl rfl ?_
          refine pu (ev tab rfl) rfl ?_
          refine goG rfl rfl ?_
          refine pu (ev tab rfl) rfl ?_
          refine goG rfl rfl ?_
          refine pu (ev tab rfl) rfl ?_
          refine goG rfl rfl ?_
          refine pu (puI (ev tab rfl) (y := ((k - 1 : Nat) : Int)) (sub_one1 (by simpa using g26) (by simp only [maxLen] at hlen; omega))) rfl ?_
          refine goG rfl rfl ?_
          refine pu (indexAddr (l := ic p) tab rfl rfl rfl rfl rfl rfl (Int.natCast_nonneg _) (idx_map (hp (by simpa using g26))) rfl) rfl ?_
          refine goG rfl rfl ?_
          first | refine pu (ev tab rfl) rfl ?_ | refine pu (loadRow tab rfl rfl rfl rfl) rfl ?_ | refine pu (loadBox tab rfl rfl rfl rfl rfl) rfl ?_
          refine goG rfl rfl ?_
          iterate 2 refine pu (ev tab rfl) rfl ?_
          refine WO.nil ?_
          refine qv1 rfl rfl rfl
        · intro g26
          refine skipT rfl rfl rfl rfl ?_
          refine skipT rfl rfl rfl rfl ?_
          refine skipT rfl rfl rfl rfl ?_
          refine skipT rfl rfl rfl rfl ?_
          refine skipT rfl rfl rfl rfl ?_
          refine skipT rfl rfl rfl rfl ?_
          refine skipT rfl rfl rfl rfl ?_
          refine pu (ev tab rfl) rfl ?_
          refine WO.nil ?_
          refine qv1 rfl rfl rfl
      refine qs ?_
      refine condK rfl (fun h34 => ?_) (fun h34 => ?_)
      · skip
        have hc2 : (decide (0 < k) && decide (n ≤ p)) = true := by simp at h34 ⊢; omega
        rw [if_pos hc2] at hI
        refine W.seq ?_
        refine W.region ?_
        refine pu (ev tab rfl) rfl ?_
        refine WO.nil ?_
        refine qs ?_
        refine W.ret ?_
        refine qbRet ?_
        refine qsRet ?_
        refine qlRet ?_
        refine qbRet ?_
        refine qsRet ?_
        refine QV.ret0 tab trivial rfl ?_
        simp only [norm, oneA, ← hI]
      · skip
        have hc2 : (decide (0 < k) && decide (n ≤ p)) = false := by simp at h34 ⊢; omega
        rw [if_neg (by rw [hc2]; decide)] at hI
        refine W.skip ?_
        refine qbN ?_
        refine qs ?_
        refine W.region ?_
        iterate 2 refine pu (ev tab rfl) rfl ?_
        refine WO.nil ?_
        refine W.endR [] ⟨k + 1, ?_⟩ ?_ rfl ?_ ⟨rfl, rfl, rfl, rfl, rfl, rfl, rfl, rfl, trivial⟩ ?_ trivial rfl
        · exact ⟨hlt, by rw [last_next hx]; exact hI⟩
        · dsimp only; omega
        · repeat' first | exact trivial | refine ⟨rfl, ?_⟩ | refine ⟨step_nat (by assumption) (by assumption), ?_⟩
        · repeat' first | exact trivial | refine ⟨rfl, ?_⟩ | refine ⟨step_nat (by assumption) (by assumption), ?_⟩
  · skip
    rw [hd] at hI
    simp only [incErr] at hI
    refine W.exit ?_
    refine qsExit ?_
    refine qlExit ?_
    refine qbExit ?_
    refine qs ?_
    refine W.seq ?_
    refine W.region ?_
    refine pu (ev tab rfl) rfl ?_
    refine WO.nil ?_
    refine qs ?_
    refine W.ret ?_
    refine QV.ret0 tab trivial rfl ?_
    simp only [norm, oneA, ← hI]
end Go.Proofs.YtpkfchdnpdcenaaDoor
namespace Go.Proofs.YtpkfchdnpdcenaaDoor
open Go.Ab Go.Tb
set_option maxRecDepth 10000
attribute [local irreducible] W WO Pu QS QB QL QF QV QV1 CH QE
def lastO (l : List Ob) (k : Nat) : Option Int := if k = 0 then none else (l[k - 1]?).map Ob.id
theorem lastO_le (l : List Ob) (k : Nat) (n : Int) (p : Ob) (hp : 0 < k → l[k - 1]? = some p) : lastLe (lastO l k) n = (decide (0 < k) && decide (n ≤ p.id)) := by
  unfold lastO lastLe
  by_cases q : k = 0
  · simp [q]
  · rw [if_neg q, hp (by omega)]; simp; omega
theorem lastO_next {l : List Ob} {k : Nat} {o : Ob} (hx : l[k]? = some o) : lastO l (k + 1) = some o.id := by unfold lastO; rw [if_neg (by omega), Nat.add_sub_cancel, hx]; rfl
theorem check_fn (h : Hp) : Does Tryd.prog 12 [.ag h.c] (.d (.v (.int .i64 (checkH h)))) 0 := by
  refine Does.of_W (n := 111) (ts := [2]) Tryd.func12 (by kernel_rfl) rfl Tryd.ntmps12 Tryd.results12 rfl rfl fun C hC hG => ?_
  refine W.seq ?_
  refine W.region ?_
  refine boxR rfl rfl rfl ?_
  refine pu (ev tab rfl) rfl ?_
  refine WO.nil ?_
  refine qs ?_
  refine W.seq ?_
  refine W.region ?_
  refine pu (ev tab rfl) rfl ?_
  refine WO.nil ?_
  refine qs ?_
  refine W.seq ?_
  refine W.seq ?_
  refine W.region ?_
  refine pu (ev tab rfl) rfl ?_
  first | refine pu (ev tab rfl) rfl ?_ | refine pu (loadRow tab rfl rfl rfl rfl) rfl ?_ | refine pu (loadBox tab rfl rfl rfl rfl rfl) rfl ?_
  iterate 2 refine pu (ev tab rfl) rfl ?_
  refine WO.nil ?_
  refine qs ?_
  refine W.block ?_
  refine W.len (t := 14) rfl rfl (fun hlen => ?_)
  try simp only [List.length_map, Ex.kc_len] at hlen
  refine W.loopR (ι := {x : Nat // match x with | k => k ≤ h.objs.length ∧ True})
    (fun x => match x.1 with | k => [(1, .ptr 0 0), (3, .d (.v (.int .i64 (manyW (h.objs.take k))))), (16, .d (.v (.int .i64 ((k : Nat) : Int))))]) [(14, _), (15, _)]
    (fun x => match x.1 with | k => [(0, h.c.map A.d)]) [] [] 1 (fun x => match x.1 with | k => h.objs.length - k)
    [0] ⟨0, ?_⟩ rfl ?_ ⟨rfl, rfl, rfl, rfl, trivial⟩ ?_ trivial rfl ?_
  · exact ⟨Nat.zero_le _, trivial⟩
  · repeat' first | exact trivial | refine ⟨rfl, ?_⟩ | refine ⟨step_nat (by assumption) (by assumption), ?_⟩
  · repeat' first | exact trivial | refine ⟨rfl, ?_⟩ | refine ⟨step_nat (by assumption) (by assumption), ?_⟩
  rintro ⟨k, hk, hI⟩
  show W _ _ _ _ _ ⟨[(1, .ptr 0 0), (3, .d (.v (.int .i64 (manyW (h.objs.take k))))), (16, .d (.v (.int .i64 ((k : Nat) : Int)))), (14, _), (15, _)], [(0, h.c.map A.d)], [], 1⟩
  refine W.seq ?_
  refine W.region ?_
  refine pu (ev tab rfl) rfl ?_
  refine WO.nil ?_
  refine qs ?_
  refine W.seq ?_
  refine eachR (l := h.objs) (k := k) rfl (by simp [Ex.kc_len, bytes_len]) hk (fun o hx hd hlt => ?_) (fun he hd => ?_)
  · skip
    refine W.skip ?_
    refine qs ?_
    refine W.seq ?_
    refine W.block ?_
    refine W.seq ?_
    refine W.region ?_
    refine pu (indexAddr tab rfl rfl rfl rfl rfl rfl (Int.natCast_nonneg _) (idx_map hx) rfl) rfl ?_
    first | refine pu (ev tab rfl) rfl ?_ | refine pu (loadRow tab rfl rfl rfl rfl) rfl ?_ | refine pu (loadBox tab rfl rfl rfl rfl rfl) rfl ?_
    refine allocR tab rfl rfl rfl ?_
    refine storeR tab rfl rfl rfl rfl rfl rfl rfl rfl ?_
    refine WO.nil ?_
    refine qs ?_
    refine W.region ?_
    iterate 2 refine pu (ev tab rfl) rfl ?_
    first | refine pu (ev tab rfl) rfl ?_ | refine pu (loadRow tab rfl rfl rfl rfl) rfl ?_ | refine pu (loadBox tab rfl rfl rfl rfl rfl) rfl ?_
    refine pu (ev tab rfl) rfl ?_
    refine pu (puI (ev tab rfl) (y := manyW (h.objs.take (k + 1))) (by rw [List.length_map, manyW_step hx])) rfl ?_
    refine pu (ev tab rfl) rfl ?_
    refine WO.nil ?_
    refine qbN ?_
    refine qs ?_
    refine W.region ?_
    iterate 2 refine pu (ev tab rfl) rfl ?_
    refine WO.nil ?_
    refine W.endR [0] ⟨k + 1, ?_⟩ ?_ rfl ?_ ⟨rfl, rfl, rfl, rfl, trivial⟩ ?_ trivial rfl
    · exact ⟨hlt, trivial⟩
    · dsimp only; omega
    · repeat' first | exact trivial | refine ⟨rfl, ?_⟩ | refine ⟨step_nat (by assumption) (by assumption), ?_⟩
    · repeat' first | exact trivial | refine ⟨rfl, ?_⟩ | refine ⟨step_nat (by assumption) (by assumption), ?_⟩
  · skip
    have hk0 : manyW (h.objs.take k) = manyW h.objs := by rw [List.take_of_length_le (by have := congrArg List.length hd; simp at this; omega)]
    rw [hk0]
    refine W.exit ?_
    refine qsExit ?_
    refine qlExit ?_
    refine qbExit ?_
    refine qs ?_
    refine W.seq ?_
    refine W.seq ?_
    apply regionB; (case hb => rfl)
    · skip
      refine pu (ev tab rfl) rfl ?_
      first | refine pu (ev tab rfl) rfl ?_ | refine pu (loadRow tab rfl rfl rfl rfl) rfl ?_ | refine pu (loadBox tab rfl rfl rfl rfl rfl) rfl ?_
      iterate 3 refine pu (ev tab rfl) rfl ?_
      apply splitH; (case hj => rfl); (case hl => rfl)
      · intro g30
        refine skipT rfl rfl rfl rfl ?_
        refine skipT rfl rfl rfl rfl ?_
        iterate 2 refine pu (ev tab rfl) rfl ?_
        refine skipT rfl rfl rfl rfl ?_
        refine skipT rfl rfl rfl rfl ?_
        refine skipT rfl rfl rfl rfl ?_
        refine skipT rfl rfl rfl rfl ?_
        refine pu (ev tab rfl) rfl ?_
        refine WO.nil ?_
        refine qv1 rfl rfl rfl
      · intro g30
        refine goG rfl rfl ?_
        refine pu (ev tab rfl) rfl ?_
        refine goG rfl rfl ?_
        iterate 3 refine pu (ev tab rfl) rfl ?_
        apply splitH; (case hj => rfl); (case hl => rfl)
        · intro g34
          refine skipT rfl rfl rfl rfl ?_
          refine skipT rfl rfl rfl rfl ?_
          refine skipT rfl rfl rfl rfl ?_
          refine skipT rfl rfl rfl rfl ?_
          refine pu (ev tab rfl) rfl ?_
          refine WO.nil ?_
          refine qv1 rfl rfl rfl
        · intro g34
          refine goG rfl rfl ?_
          refine pu (ev tab rfl) rfl ?_
          refine goG rfl rfl ?_
          first | refine pu (ev tab rfl) rfl ?_ | refine pu (loadRow tab rfl rfl rfl rfl) rfl ?_ | refine pu (loadBox tab rfl rfl rfl rfl rfl) rfl ?_
          refine goG rfl rfl ?_
          refine pu (ev tab rfl) rfl ?_
          refine goG rfl rfl ?_
          iterate 2 refine pu (ev tab rfl) rfl ?_
          refine WO.nil ?_
          refine qv1 rfl rfl rfl
    refine qs ?_
    refine condK rfl (fun h39 => ?_) (fun h39 => ?_)
    · skip
      have hg : checkH h = 7 := by
        unfold checkH
        rw [if_pos]
        simp at h39
        omega
      refine W.seq ?_
      refine W.region ?_
      refine pu (ev tab rfl) rfl ?_
      refine WO.nil ?_
      refine qs ?_
      refine W.ret ?_
      refine qsRet ?_
      refine QF.ret0 trivial rfl ?_
      rw [hg]; rfl
    · skip
      have hg : checkH h = if objErr h.objs none ≠ 0 then objErr h.objs none else if refsErr h.objs h.objs ≠ 0 then refsErr h.objs h.objs else incErr h.objs h.roots none := by
        unfold checkH
        rw [if_neg]
        simp at h39
        omega
      refine W.skip ?_
      refine qs ?_
      refine W.seq ?_
      refine W.region ?_
      refine mkMap rfl ?_
      refine pu (ev tab rfl) rfl ?_
      refine WO.nil ?_
      refine qs ?_
      refine W.seq ?_
      refine W.seq ?_
      refine W.region ?_
      refine pu (ev tab rfl) rfl ?_
      first | refine pu (ev tab rfl) rfl ?_ | refine pu (loadRow tab rfl rfl rfl rfl) rfl ?_ | refine pu (loadBox tab rfl rfl rfl rfl rfl) rfl ?_
      iterate 2 refine pu (ev tab rfl) rfl ?_
      refine WO.nil ?_
      refine qs ?_
      refine W.block ?_
      refine W.len (t := 42) rfl rfl (fun hlen => ?_)
      try simp only [List.length_map, Ex.kc_len] at hlen
      refine W.loopR (ι := {x : Nat // match x with | k => k ≤ h.objs.length ∧ objErr (h.objs.drop k) (lastO h.objs k) = objErr h.objs none})
        (fun x => match x.1 with | k => [(1, .ptr 0 0), (6, .mp 1 (mes ik (fun i : Nat => ci i) (idsH h.objs k))), (44, .d (.v (.int .i64 ((k : Nat) : Int))))]) [(42, _), (43, _)]
        (fun x => match x.1 with | k => [(0, h.c.map A.d)]) [] [1] 2 (fun x => match x.1 with | k => h.objs.length - k)
        [0, 1] ⟨0, ?_⟩ rfl ?_ ⟨rfl, rfl, rfl, rfl, trivial⟩ ?_ trivial rfl ?_
      · exact ⟨Nat.zero_le _, rfl⟩
      · repeat' first | exact trivial | refine ⟨rfl, ?_⟩ | refine ⟨step_nat (by assumption) (by assumption), ?_⟩
      · repeat' first | exact trivial | refine ⟨rfl, ?_⟩ | refine ⟨step_nat (by assumption) (by assumption), ?_⟩
      rintro ⟨k, hk, hI⟩
      show W _ _ _ _ _ ⟨[(1, .ptr 0 0), (6, .mp 1 (mes ik (fun i : Nat => ci i) (idsH h.objs k))), (44, .d (.v (.int .i64 ((k : Nat) : Int)))), (42, _), (43, _)], [(0, h.c.map A.d)], [1], 2⟩
      refine W.seq ?_
      refine W.region ?_
      refine pu (ev tab rfl) rfl ?_
      refine WO.nil ?_
      refine qs ?_
      refine W.seq ?_
      refine eachR (l := h.objs) (k := k) rfl (by simp [Ex.kc_len, bytes_len]) hk (fun o hx hd hlt => ?_) (fun he hd => ?_)
      · skip
        rw [hd] at hI
        simp only [objErr] at hI
        obtain ⟨p, hp⟩ : ∃ p : Ob, 0 < k → h.objs[k - 1]? = some p := ⟨h.objs[k - 1]'(by omega), fun _ => by simp⟩
        rw [lastO_le h.objs k o.id p hp] at hI
        refine W.skip ?_
        refine qs ?_
        refine W.seq ?_
        refine W.block ?_
        refine W.seq ?_
        refine W.region ?_
        refine pu (ev tab rfl) rfl ?_
        refine pu (indexAddr tab rfl rfl rfl rfl rfl rfl (Int.natCast_nonneg _) (idx_map hx) rfl) rfl ?_
        first | refine pu (ev tab rfl) rfl ?_ | refine pu (loadRow tab rfl rfl rfl rfl) rfl ?_ | refine pu (loadBox tab rfl rfl rfl rfl rfl) rfl ?_
        refine allocR tab rfl rfl rfl ?_
        refine pu (ev tab rfl) rfl ?_
        refine storeR tab rfl rfl rfl rfl rfl rfl rfl rfl ?_
        refine WO.nil ?_
        refine qs ?_
        refine W.seq ?_
        refine W.seq ?_
        apply regionB; (case hb => rfl)
        · skip
          refine pu (ev tab rfl) rfl ?_
          first | refine pu (ev tab rfl) rfl ?_ | refine pu (loadRow tab rfl rfl rfl rfl) rfl ?_ | refine pu (loadBox tab rfl rfl rfl rfl rfl) rfl ?_
          iterate 2 refine pu (ev tab rfl) rfl ?_
          apply splitH; (case hj => rfl); (case hl => rfl)
          · intro g52
            refine skipT rfl rfl rfl rfl ?_
            refine skipT rfl rfl rfl rfl ?_
            refine skipT rfl rfl rfl rfl ?_
            iterate 2 refine pu (ev tab rfl) rfl ?_
            refine skipT rfl rfl rfl rfl ?_
            refine skipT rfl rfl rfl rfl ?_
            refine skipT rfl rfl rfl rfl ?_
            iterate 2 refine pu (ev tab rfl) rfl ?_
            refine skipT rfl rfl rfl rfl ?_
            refine skipT rfl rfl rfl rfl ?_
            refine skipT rfl rfl rfl rfl ?_
            refine pu (ev tab rfl) rfl ?_
            refine WO.nil ?_
            refine qv1 rfl rfl rfl
          · intro g52
            refine goG rfl rfl ?_
            refine pu (ev tab rfl) rfl ?_
            refine goG rfl rfl ?_
            first | refine pu (ev tab rfl) rfl ?_ | refine pu (loadRow tab rfl rfl rfl rfl) rfl ?_ | refine pu (loadBox tab rfl rfl rfl rfl rfl) rfl ?_
            refine goG rfl rfl ?_
            iterate 3 refine pu (ev tab rfl) rfl ?_
            apply splitH; (case hj => rfl); (case hl => rfl)
            · intro g57
              refine skipT rfl rfl rfl rfl ?_
              refine skipT rfl rfl rfl rfl ?_
              refine skipT rfl rfl rfl rfl ?_
              iterate 2 refine pu (ev tab rfl) rfl ?_
              refine skipT rfl rfl rfl rfl ?_
              refine skipT rfl rfl rfl rfl ?_
              refine skipT rfl rfl rfl rfl ?_
              refine pu (ev tab rfl) rfl ?_
              refine WO.nil ?_
              refine qv1 rfl rfl rfl
            · intro g57
              refine goG rfl rfl ?_
              refine pu (ev tab rfl) rfl ?_
              refine goG rfl rfl ?_
              first | refine pu (ev tab rfl) rfl ?_ | refine pu (loadRow tab rfl rfl rfl rfl) rfl ?_ | refine pu (loadBox tab rfl rfl rfl rfl rfl) rfl ?_
              refine goG rfl rfl ?_
              iterate 3 refine pu (ev tab rfl) rfl ?_
              apply splitH; (case hj => rfl); (case hl => rfl)
              · intro g62
                refine skipT rfl rfl rfl rfl ?_
                refine skipT rfl rfl rfl rfl ?_
                refine skipT rfl rfl rfl rfl ?_
                refine pu (ev tab rfl) rfl ?_
                refine WO.nil ?_
                refine qv1 rfl rfl rfl
              · intro g62
                refine goG rfl rfl ?_
                refine pu (ev tab rfl) rfl ?_
                refine goG rfl rfl ?_
                first | refine pu (ev tab rfl) rfl ?_ | refine pu (loadRow tab rfl rfl rfl rfl) rfl ?_ | refine pu (loadBox tab rfl rfl rfl rfl rfl) rfl ?_
                refine goG rfl rfl ?_
                iterate 2 refine pu (ev tab rfl) rfl ?_
                refine WO.nil ?_
                refine qv1 rfl rfl rfl
        refine qs ?_
        refine condK rfl (fun h66 => ?_) (fun h66 => ?_)
        · skip
          have hc : o.id < 0 ∨ 1000000000000000 < o.id ∨ o.size < 0 ∨ 1000000000000 < o.size := by simp at h66; omega
          rw [if_pos hc] at hI
          rw [if_pos (by omega)] at hg
          refine W.seq ?_
          refine W.region ?_
          refine pu (ev tab rfl) rfl ?_
          refine WO.nil ?_
          refine qs ?_
          refine W.ret ?_
          refine qsRet ?_
          refine qbRet ?_
          refine qsRet ?_
          refine qlRet ?_
          refine qbRet ?_
          refine qsRet ?_
          refine QF.ret0 trivial rfl ?_
          rw [hg, ← hI]; rfl
        · skip
          have hc : ¬ (o.id < 0 ∨ 1000000000000000 < o.id ∨ o.size < 0 ∨ 1000000000000 < o.size) := by simp at h66; omega
          rw [if_neg hc] at hI
          refine W.skip ?_
          refine qs ?_
          refine W.seq ?_
          refine W.seq ?_
          refine W.region ?_
          refine pu (ev tab rfl) rfl ?_
          first | refine pu (ev tab rfl) rfl ?_ | refine pu (loadRow tab rfl rfl rfl rfl) rfl ?_ | refine pu (loadBox tab rfl rfl rfl rfl rfl) rfl ?_
          refine pu (puCall rfl rfl rfl (name_fn ..) rfl) rfl ?_
          refine pu (ev tab rfl) rfl ?_
          refine WO.nil ?_
          refine qs ?_
          refine W.seq ?_
          refine W.region ?_
          iterate 2 refine pu (ev tab rfl) rfl ?_
          refine WO.nil ?_
          refine qs ?_
          refine condK rfl (fun h71 => ?_) (fun h71 => ?_)
          · skip
            have hc2 : nameErr o.type ≠ 0 := by simpa using h71
            rw [if_pos hc2] at hI
            rw [if_pos (by omega)] at hg
            refine W.seq ?_
            refine W.region ?_
            iterate 2 refine pu (ev tab rfl) rfl ?_
            refine WO.nil ?_
            refine qs ?_
            refine W.ret ?_
            refine qsRet ?_
            refine qbRet ?_
            refine qsRet ?_
            refine qlRet ?_
            refine qbRet ?_
            refine qsRet ?_
            refine QF.ret0 trivial rfl ?_
            rw [hg, ← hI]; rfl
          · skip
            have hc2 : nameErr o.type = 0 := by simpa using h71
            rw [if_neg (by simp [hc2])] at hI
            refine W.skip ?_
            refine qs ?_
            refine W.seq ?_
            refine W.seq ?_
            apply regionDB tab; (case hb => rfl); (case hB => kernel_rfl)
            · skip
              refine chPu (ev tab rfl) rfl ?_
              refine chPu (ev tab rfl) rfl ?_
              refine chPu (ev tab rfl) rfl ?_
              apply chSplitH; (case hj => rfl); (case hl => rfl)
              · intro g75
                refine chGo rfl rfl (ev tab rfl) rfl ?_
                first | refine chGo rfl rfl (ev tab rfl) rfl ?_ | refine chGo rfl rfl (loadRow tab rfl rfl rfl rfl) rfl ?_ | refine chGo rfl rfl (loadBox tab rfl rfl rfl rfl rfl) rfl ?_
                refine chGo rfl rfl (ev tab rfl) rfl ?_
                first | refine chGo rfl rfl (ev tab rfl) rfl ?_ | refine chGo rfl rfl (loadRow tab rfl rfl rfl rfl) rfl ?_ | refine chGo rfl rfl (loadBox tab rfl rfl rfl rfl rfl) rfl ?_
                refine chGo rfl rfl (ev tab rfl) rfl ?_
                refine chGo rfl rfl (puI (ev tab rfl) (y := ((k - 1 : Nat) : Int)) (sub_one1 (by simpa using g75) (by simp only [maxLen] at hlen; omega))) rfl ?_
                refine chGo rfl rfl (indexAddr (l := p.c) tab rfl rfl rfl rfl rfl rfl (Int.natCast_nonneg _) (idx_map (hp (by simpa using g75))) rfl) rfl ?_
                refine chGo rfl rfl (ev tab rfl) rfl ?_
                first | refine chGo rfl rfl (ev tab rfl) rfl ?_ | refine chGo rfl rfl (loadRow tab rfl rfl rfl rfl) rfl ?_ | refine chGo rfl rfl (loadBox tab rfl rfl rfl rfl rfl) rfl ?_
                refine chGo rfl rfl (ev tab rfl) rfl ?_
                refine chPu (ev tab rfl) rfl ?_
                refine CH.nil ?_
                refine qv1 rfl rfl rfl
              · intro g75
                refine chSkip rfl rfl rfl rfl ?_
                refine chSkip rfl rfl rfl rfl ?_
                refine chSkip rfl rfl rfl rfl ?_
                refine chSkip rfl rfl rfl rfl ?_
                refine chSkip rfl rfl rfl rfl ?_
                refine chSkip rfl rfl rfl rfl ?_
                refine chSkip rfl rfl rfl rfl ?_
                refine chSkip rfl rfl rfl rfl ?_
                refine chSkip rfl rfl rfl rfl ?_
                refine chSkip rfl rfl rfl rfl ?_
                refine chPu (ev tab rfl) rfl ?_
                refine CH.nil ?_
                refine qv1 rfl rfl rfl
            refine qs ?_
            refine condK rfl (fun h86 => ?_) (fun h86 => ?_)
            · skip
              have hc3 : (decide (0 < k) && decide (o.id ≤ p.id)) = true := by simp at h86 ⊢; omega
              rw [if_pos hc3] at hI
              rw [if_pos (by omega)] at hg
              refine W.seq ?_
              refine W.region ?_
              refine pu (ev tab rfl) rfl ?_
              refine WO.nil ?_
              refine qs ?_
              refine W.ret ?_
              refine qsRet ?_
              refine qbRet ?_
              refine qsRet ?_
              refine qlRet ?_
              refine qbRet ?_
              refine qsRet ?_
              refine QF.ret0 trivial rfl ?_
              rw [hg, ← hI]; rfl
            · skip
              have hc3 : (decide (0 < k) && decide (o.id ≤ p.id)) = false := by simp at h86 ⊢; omega
              rw [if_neg (by rw [hc3]; decide)] at hI
              refine W.skip ?_
              refine qs ?_
              refine W.region ?_
              iterate 2 refine pu (ev tab rfl) rfl ?_
              first | refine pu (ev tab rfl) rfl ?_ | refine pu (loadRow tab rfl rfl rfl rfl) rfl ?_ | refine pu (loadBox tab rfl rfl rfl rfl rfl) rfl ?_
              refine pu (ev tab rfl) rfl ?_
              refine mapPut (kf := ik) (vf := fun i : Nat => ci i) (l := idsH h.objs k) (a := o.id) (y := k) tab 6 rfl rfl rfl rfl rfl rfl rfl (keyInt (tab.u_int rfl rfl)) rfl rfl (idsH_nodup h.objs k (by omega)) (congrArg _ (idsH_step hx).symm) rfl ?_
              refine WO.nil ?_
              refine qbN ?_
              refine qs ?_
              refine W.region ?_
              iterate 2 refine pu (ev tab rfl) rfl ?_
              refine WO.nil ?_
              refine W.endR [0, 3] ⟨k + 1, ?_⟩ ?_ rfl ?_ ⟨rfl, rfl, rfl, rfl, trivial⟩ ?_ trivial rfl
              · exact ⟨hlt, by rw [lastO_next hx]; exact hI⟩
              · dsimp only; omega
              · repeat' first | exact trivial | refine ⟨rfl, ?_⟩ | refine ⟨step_nat (by assumption) (by assumption), ?_⟩
              · repeat' first | exact trivial | refine ⟨rfl, ?_⟩ | refine ⟨step_nat (by assumption) (by assumption), ?_⟩
      · skip
        rw [hd] at hI
        simp only [objErr] at hI
        rw [if_neg (by simp [← hI])] at hg
        have hkl : k = h.objs.length := by have := congrArg List.length hd; simp at this; omega
        have hids : idsH h.objs k = idsH h.objs h.objs.length := by rw [hkl]
        rw [hids]
        refine W.exit ?_
        refine qsExit ?_
        refine qlExit ?_
        refine qbExit ?_
        refine qs ?_
        refine W.seq ?_
        refine W.seq ?_
        refine W.region ?_
        refine pu (ev tab rfl) rfl ?_
        first | refine pu (ev tab rfl) rfl ?_ | refine pu (loadRow tab rfl rfl rfl rfl) rfl ?_ | refine pu (loadBox tab rfl rfl rfl rfl rfl) rfl ?_
        iterate 2 refine pu (ev tab rfl) rfl ?_
        refine WO.nil ?_
        refine qs ?_
        refine W.block ?_
        refine W.len (t := 93) rfl rfl (fun hlen => ?_)
        try simp only [List.length_map, Ex.kc_len] at hlen
        refine W.loopR (ι := {x : Nat // match x with | k => k ≤ h.objs.length ∧ refsErr h.objs (h.objs.drop k) = refsErr h.objs h.objs})
          (fun x => match x.1 with | k => [(1, .ptr 0 0), (6, .mp 1 (mes ik (fun i : Nat => ci i) (idsH h.objs h.objs.length))), (95, .d (.v (.int .i64 ((k : Nat) : Int))))]) [(93, _), (94, _)]
          (fun x => match x.1 with | k => [(0, h.c.map A.d)]) [] [1] 2 (fun x => match x.1 with | k => h.objs.length - k)
          [0, 1] ⟨0, ?_⟩ rfl ?_ ⟨rfl, rfl, rfl, rfl, trivial⟩ ?_ trivial rfl ?_
        · exact ⟨Nat.zero_le _, rfl⟩
        · repeat' first | exact trivial | refine ⟨rfl, ?_⟩ | refine ⟨step_nat (by assumption) (by assumption), ?_⟩
        · repeat' first | exact trivial | refine ⟨rfl, ?_⟩ | refine ⟨step_nat (by assumption) (by assumption), ?_⟩
        rintro ⟨k, hk, hI⟩
        show W _ _ _ _ _ ⟨[(1, .ptr 0 0), (6, .mp 1 (mes ik (fun i : Nat => ci i) (idsH h.objs h.objs.length))), (95, .d (.v (.int .i64 ((k : Nat) : Int)))), (93, _), (94, _)], [(0, h.c.map A.d)], [1], 2⟩
        refine W.seq ?_
        refine W.region ?_
        refine pu (ev tab rfl) rfl ?_
        refine WO.nil ?_
        refine qs ?_
        refine W.seq ?_
        refine eachR (l := h.objs) (k := k) rfl (by simp [Ex.kc_len, bytes_len]) hk (fun o hx hd hlt => ?_) (fun he hd => ?_)
        · skip
          rw [hd] at hI
          simp only [refsErr] at hI
          refine W.skip ?_
          refine qs ?_
          refine W.seq ?_
          refine W.block ?_
          refine W.seq ?_
          refine W.region ?_
          refine pu (indexAddr tab rfl rfl rfl rfl rfl rfl (Int.natCast_nonneg _) (idx_map hx) rfl) rfl ?_
          first | refine pu (ev tab rfl) rfl ?_ | refine pu (loadRow tab rfl rfl rfl rfl) rfl ?_ | refine pu (loadBox tab rfl rfl rfl rfl rfl) rfl ?_
          refine allocR tab rfl rfl rfl ?_
          refine storeR tab rfl rfl rfl rfl rfl rfl rfl rfl ?_
          refine WO.nil ?_
          refine qs ?_
          refine W.seq ?_
          refine W.region ?_
          refine pu (ev tab rfl) rfl ?_
          first | refine pu (ev tab rfl) rfl ?_ | refine pu (loadRow tab rfl rfl rfl rfl) rfl ?_ | refine pu (loadBox tab rfl rfl rfl rfl rfl) rfl ?_
          refine pu (ev tab rfl) rfl ?_
          refine pu (callM ik (fun i : Nat => ci i) (idsH h.objs h.objs.length) rfl rfl rfl rfl rfl (fun b => rfl) (fun b => incr_fn b h.objs o.refs) rfl) rfl ?_
          refine pu (ev tab rfl) rfl ?_
          refine WO.nil ?_
          refine qs ?_
          refine W.seq ?_
          refine W.region ?_
          iterate 2 refine pu (ev tab rfl) rfl ?_
          refine WO.nil ?_
          refine qs ?_
          refine condK rfl (fun h104 => ?_) (fun h104 => ?_)
          · skip
            have hc : incErr h.objs o.refs none ≠ 0 := by simpa using h104
            rw [if_pos hc] at hI
            rw [if_pos (by omega)] at hg
            refine W.seq ?_
            refine W.region ?_
            iterate 2 refine pu (ev tab rfl) rfl ?_
            refine WO.nil ?_
            refine qs ?_
            refine W.ret ?_
            refine qbRet ?_
            refine qsRet ?_
            refine qlRet ?_
            refine qbRet ?_
            refine qsRet ?_
            refine QF.ret0 trivial rfl ?_
            rw [hg, ← hI]; rfl
          · skip
            have hc : incErr h.objs o.refs none = 0 := by simpa using h104
            rw [if_neg (by simp [hc])] at hI
            refine W.skip ?_
            refine qbN ?_
            refine qs ?_
            refine W.region ?_
            iterate 2 refine pu (ev tab rfl) rfl ?_
            refine WO.nil ?_
            refine W.endR [0, 1] ⟨k + 1, ?_⟩ ?_ rfl ?_ ⟨rfl, rfl, rfl, rfl, trivial⟩ ?_ trivial rfl
            · exact ⟨hlt, hI⟩
            · dsimp only; omega
            · repeat' first | exact trivial | refine ⟨rfl, ?_⟩ | refine ⟨step_nat (by assumption) (by assumption), ?_⟩
            · repeat' first | exact trivial | refine ⟨rfl, ?_⟩ | refine ⟨step_nat (by assumption) (by assumption), ?_⟩
        · skip
          rw [hd] at hI
          simp only [refsErr] at hI
          rw [if_neg (by simp [← hI])] at hg
          refine W.exit ?_
          refine qsExit ?_
          refine qlExit ?_
          refine qbExit ?_
          refine qs ?_
          refine W.seq ?_
          refine W.region ?_
          refine pu (ev tab rfl) rfl ?_
          first | refine pu (ev tab rfl) rfl ?_ | refine pu (loadRow tab rfl rfl rfl rfl) rfl ?_ | refine pu (loadBox tab rfl rfl rfl rfl rfl) rfl ?_
          refine pu (ev tab rfl) rfl ?_
          refine pu (callM ik (fun i : Nat => ci i) (idsH h.objs h.objs.length) rfl rfl rfl rfl rfl (fun b => rfl) (fun b => incr_fn b h.objs h.roots) rfl) rfl ?_
          refine pu (ev tab rfl) rfl ?_
          refine WO.nil ?_
          refine qs ?_
          refine W.ret ?_
          refine QF.ret0 trivial rfl ?_
          rw [hg]; rfl
end Go.Proofs.YtpkfchdnpdcenaaDoor
namespace Go.Proofs.YtpkfchdnpdcenaaDoor
open Go.Ab Go.Tb
set_option maxRecDepth 10000
attribute [local irreducible] W WO Pu QS QB QL QF QV QV1 CH QE
theorem idxOb_fn (fid : Nat) (caps : List A) (hc : Still caps) (p : Ob → Bool) (hp : ∀ x : Ob, Does Tryd.prog fid (.ag x.c :: caps) (.d (.v (.bool (p x)))) 0) (l : List Ob) :
    Does Tryd.prog 19 [.d (.sl (l.map Ob.c)), .clo fid caps] (.d (.v (.int .i64 (idx (l.findIdx? p))))) 0 := by
  refine Does.of_W (n := 19) (ts := [4]) Tryd.func19 (by kernel_rfl) rfl Tryd.ntmps19 Tryd.results19 rfl rfl fun C hC hG => ?_
  refine W.seq ?_
  refine W.region ?_
  refine pu (ev tab rfl) rfl ?_
  refine WO.nil ?_
  refine qs ?_
  refine W.seq ?_
  refine W.seq ?_
  refine W.region ?_
  iterate 3 refine pu (ev tab rfl) rfl ?_
  refine WO.nil ?_
  refine qs ?_
  refine W.block ?_
  refine W.len (t := 0) rfl rfl (fun hlen => ?_)
  try simp only [List.length_map, Ex.kc_len] at hlen
  refine W.loopR (ι := {x : Nat // match x with | k => k ≤ l.length ∧ noneBefore p l k})
    (fun x => match x.1 with | k => [(8, .d (.v (.int .i64 ((k : Nat) : Int))))]) [(0, _), (1, _), (7, _)]
    (fun x => match x.1 with | k => []) [] [] 0 (fun x => match x.1 with | k => l.length - k)
    [] ⟨0, ?_⟩ rfl ?_ ⟨rfl, (by first | rfl | exact hc.2), rfl, (by first | rfl | exact hc.2), rfl, (by first | rfl | exact hc.2), trivial⟩ ?_ trivial rfl ?_
  · exact ⟨Nat.zero_le _, noneBefore.zero⟩
  · repeat' first | exact trivial | refine ⟨rfl, ?_⟩ | refine ⟨step_nat (by assumption) (by assumption), ?_⟩
  · repeat' first | exact trivial | refine ⟨rfl, ?_⟩ | refine ⟨step_nat (by assumption) (by assumption), ?_⟩
  rintro ⟨k, hk, hI⟩
  show W _ _ _ _ _ ⟨[(8, .d (.v (.int .i64 ((k : Nat) : Int)))), (0, _), (1, _), (7, _)], [], [], 0⟩
  refine W.seq ?_
  refine W.region ?_
  refine pu (ev tab rfl) rfl ?_
  refine WO.nil ?_
  refine qs ?_
  refine W.seq ?_
  refine eachR (l := l) (k := k) rfl (by simp [Ex.kc_len, bytes_len]) hk (fun x hx hd hlt => ?_) (fun he hd => ?_)
  · skip
    refine W.skip ?_
    refine qs ?_
    refine W.seq ?_
    refine W.block ?_
    refine W.seq ?_
    refine W.region ?_
    iterate 2 refine pu (ev tab rfl) rfl ?_
    refine WO.nil ?_
    refine qs ?_
    refine W.seq ?_
    refine W.region ?_
    iterate 3 refine pu (ev tab rfl) rfl ?_
    refine pu (indexAddr tab rfl rfl rfl rfl rfl rfl (Int.natCast_nonneg _) (idx_map hx) rfl) rfl ?_
    first | refine pu (ev tab rfl) rfl ?_ | refine pu (loadRow tab rfl rfl rfl rfl) rfl ?_ | refine pu (loadBox tab rfl rfl rfl rfl rfl) rfl ?_
    refine pu (puCall rfl rfl (by rw [List.map_append, hc.1 _ 3]; rfl) (hp x) rfl) rfl ?_
    refine WO.nil ?_
    refine qs ?_
    refine condK rfl (fun h16 => ?_) (fun h16 => ?_)
    · skip
      refine W.seq ?_
      refine W.region ?_
      iterate 2 refine pu (ev tab rfl) rfl ?_
      refine WO.nil ?_
      refine qs ?_
      refine W.ret ?_
      refine qbRet ?_
      refine qsRet ?_
      refine qlRet ?_
      refine qbRet ?_
      refine qsRet ?_
      refine QF.ret0 trivial rfl ?_
      simp only [norm, oneA]; rw [hI.found hx h16]; rfl
    · skip
      refine W.skip ?_
      refine qbN ?_
      refine qs ?_
      refine W.region ?_
      iterate 2 refine pu (ev tab rfl) rfl ?_
      refine WO.nil ?_
      refine W.endR [] ⟨k + 1, ?_⟩ ?_ rfl ?_ ⟨rfl, (by first | rfl | exact hc.2), rfl, (by first | rfl | exact hc.2), rfl, (by first | rfl | exact hc.2), trivial⟩ ?_ trivial rfl
      · exact ⟨hlt, hI.step hx h16⟩
      · dsimp only; omega
      · repeat' first | exact trivial | refine ⟨rfl, ?_⟩ | refine ⟨step_nat (by assumption) (by assumption), ?_⟩
      · repeat' first | exact trivial | refine ⟨rfl, ?_⟩ | refine ⟨step_nat (by assumption) (by assumption), ?_⟩
  · skip
    refine W.exit ?_
    refine qsExit ?_
    refine qlExit ?_
    refine qbExit ?_
    refine qs ?_
    refine W.seq ?_
    refine W.region ?_
    refine pu (ev tab rfl) rfl ?_
    refine WO.nil ?_
    refine qs ?_
    refine W.ret ?_
    refine QF.ret0 trivial rfl ?_
    simp only [norm, oneA]; rw [hI.end_ he]; rfl
theorem isOb_fn (id : Int) (o : Ob) : Does Tryd.prog 20 [.ag o.c, .row [.d (.v (.int .i64 id))]] (.d (.v (.bool (decide (o.id = id))))) 0 := by
  refine Does.of_W (n := 8) (ts := [3]) Tryd.func20 (by kernel_rfl) rfl Tryd.ntmps20 Tryd.results20 rfl rfl fun C hC hG => ?_
  refine W.seq ?_
  refine W.region ?_
  refine boxR rfl rfl rfl ?_
  refine pu (ev tab rfl) rfl ?_
  refine WO.nil ?_
  refine qs ?_
  refine W.seq ?_
  refine W.region ?_
  refine pu (ev tab rfl) rfl ?_
  first | refine pu (ev tab rfl) rfl ?_ | refine pu (loadRow tab rfl rfl rfl rfl) rfl ?_ | refine pu (loadBox tab rfl rfl rfl rfl rfl) rfl ?_
  first | refine pu (ev tab rfl) rfl ?_ | refine pu (loadRow tab rfl rfl rfl rfl) rfl ?_ | refine pu (loadBox tab rfl rfl rfl rfl rfl) rfl ?_
  iterate 2 refine pu (ev tab rfl) rfl ?_
  refine WO.nil ?_
  refine qs ?_
  refine W.ret ?_
  refine QF.ret0 trivial rfl ?_
  rfl
def findA (l : List Ob) (id : Int) : Int := match findO l id with | some i => i | none => 0
theorem findA_eq (l : List Ob) (id : Int) : findA l id = (if idx (findO l id) < 0 then 0 else idx (findO l id)) ∧ hasI l id = decide (0 ≤ idx (findO l id)) := by
  rw [hasI_find]
  unfold findA
  cases findO l id with
  | none => simp [idx]
  | some i => refine ⟨?_, by simp [idx]⟩; show (i : Int) = if (i : Int) < 0 then 0 else i; rw [if_neg (by omega)]
theorem find_fn (h : Hp) (id : Int) : Does Tryd.prog 10 [.ag h.c, .d (.v (.int .i64 id))] (.tup [.d (.v (.int .i64 (findA h.objs id))), .d (.v (.bool (hasI h.objs id)))]) 0 := by
  refine Does.of_W (n := 15) (ts := [4, 5]) Tryd.func10 (by kernel_rfl) rfl Tryd.ntmps10 Tryd.results10 rfl rfl fun C hC hG => ?_
  refine W.seq ?_
  refine W.region ?_
  refine boxR rfl rfl rfl ?_
  refine boxR rfl rfl rfl ?_
  iterate 2 refine pu (ev tab rfl) rfl ?_
  refine WO.nil ?_
  refine qs ?_
  refine W.seq ?_
  refine W.region ?_
  refine pu (ev tab rfl) rfl ?_
  first | refine pu (ev tab rfl) rfl ?_ | refine pu (loadRow tab rfl rfl rfl rfl) rfl ?_ | refine pu (loadBox tab rfl rfl rfl rfl rfl) rfl ?_
  refine pu (ev tab rfl) rfl ?_
  refine pu (puCall rfl rfl rfl (idxOb_fn _ _ ⟨fun _ _ => rfl, rfl⟩ _ (isOb_fn id) h.objs) rfl) rfl ?_
  refine pu (ev tab rfl) rfl ?_
  refine WO.nil ?_
  refine qs ?_
  refine W.seq ?_
  refine W.region ?_
  iterate 6 refine pu (ev tab rfl) rfl ?_
  refine WO.nil ?_
  refine qs ?_
  refine W.ret ?_
  refine QF.ret0 trivial rfl ?_
  simp only [norm, oneA]
  rw [(findA_eq h.objs id).1, (findA_eq h.objs id).2]
  rfl
theorem numsW_step (w : ByteArray) (r : List ByteArray) : numsW (w :: r) = if (numP w).2 then (match numsW r with | some l => some ((numP w).1 :: l) | none => none) else none := rfl
def restW (l : List Int) (ws : List ByteArray) : List Int × Bool := match numsW ws with | some r => (l ++ r, true) | none => ([], false)
theorem numbers_fn (ws : List ByteArray) (hl : ws.length ≤ 1000000) (hz : ∀ w ∈ ws, w.size ≤ 281474976710656) : Does Tryd.prog 34 [.d (.sl (ws.map sc))] (.tup [.d (.sl ((numsA ws).1.map ic)), .d (.v (.bool (numsA ws).2))]) 0 := by
  have h0 : restW [] ws = numsA ws := by unfold restW numsA; cases numsW ws <;> rfl
  refine Does.of_W (n := 28) (ts := [2, 3]) Tryd.func34 (by kernel_rfl) rfl Tryd.ntmps34 Tryd.results34 rfl rfl fun C hC hG => ?_
  refine W.seq ?_
  refine W.region ?_
  iterate 2 refine pu (ev tab rfl) rfl ?_
  refine WO.nil ?_
  refine qs ?_
  refine W.seq ?_
  refine W.region ?_
  refine pu (ev tab rfl) rfl ?_
  refine WO.nil ?_
  refine qs ?_
  refine W.seq ?_
  refine W.seq ?_
  refine W.region ?_
  iterate 3 refine pu (ev tab rfl) rfl ?_
  refine WO.nil ?_
  refine qs ?_
  refine W.block ?_
  refine ownNilR (d := 4) rfl rfl ?_
  refine W.len (t := 9) rfl rfl (fun hlen => ?_)
  try simp only [List.length_map, Ex.kc_len] at hlen
  refine W.loopR (ι := {x : Nat × List Int // match x with | (k, l) => k ≤ ws.length ∧ restW l (ws.drop k) = numsA ws ∧ l.length = k})
    (fun x => match x.1 with | (k, l) => [(4, .own 0 (l.map ic)), (11, .d (.v (.int .i64 ((k : Nat) : Int))))]) [(9, _), (10, _)]
    (fun x => match x.1 with | (k, l) => []) [] [0] 1 (fun x => match x.1 with | (k, l) => ws.length - k)
    [0] ⟨(0, []), ?_⟩ rfl ?_ ⟨rfl, rfl, rfl, rfl, trivial⟩ ?_ trivial rfl ?_
  · exact ⟨Nat.zero_le _, h0, rfl⟩
  · repeat' first | exact trivial | refine ⟨rfl, ?_⟩ | refine ⟨step_nat (by assumption) (by assumption), ?_⟩
  · repeat' first | exact trivial | refine ⟨rfl, ?_⟩ | refine ⟨step_nat (by assumption) (by assumption), ?_⟩
  rintro ⟨⟨k, l⟩, hk, hI, hL⟩
  show W _ _ _ _ _ ⟨[(4, .own 0 (l.map ic)), (11, .d (.v (.int .i64 ((k : Nat) : Int)))), (9, _), (10, _)], [], [0], 1⟩
  refine W.seq ?_
  refine W.region ?_
  refine pu (ev tab rfl) rfl ?_
  refine WO.nil ?_
  refine qs ?_
  refine W.seq ?_
  refine eachR (l := ws) (k := k) rfl (by simp [Ex.kc_len, bytes_len]) hk (fun w hx hd hlt => ?_) (fun he hd => ?_)
  · skip
    rw [hd] at hI
    unfold restW at hI
    rw [numsW_step] at hI
    refine W.skip ?_
    refine qs ?_
    refine W.seq ?_
    refine W.block ?_
    refine W.seq ?_
    refine W.region ?_
    refine pu (indexAddr tab rfl rfl rfl rfl rfl rfl (Int.natCast_nonneg _) (idx_map hx) rfl) rfl ?_
    first | refine pu (ev tab rfl) rfl ?_ | refine pu (loadRow tab rfl rfl rfl rfl) rfl ?_ | refine pu (loadBox tab rfl rfl rfl rfl rfl) rfl ?_
    refine pu (ev tab rfl) rfl ?_
    refine WO.nil ?_
    refine qs ?_
    refine W.seq ?_
    refine W.region ?_
    refine pu (ev tab rfl) rfl ?_
    refine pu (puCall rfl rfl rfl (nparse_fn w (hz w (List.mem_of_getElem? hx))) rfl) rfl ?_
    iterate 5 refine pu (ev tab rfl) rfl ?_
    refine WO.nil ?_
    refine qs ?_
    refine W.seq ?_
    refine W.seq ?_
    refine W.region ?_
    iterate 2 refine pu (ev tab rfl) rfl ?_
    refine WO.nil ?_
    refine qs ?_
    refine condK rfl (fun h21 => ?_) (fun h21 => ?_)
    · skip
      have hp : (numP w).2 = false := by simpa using h21
      rw [hp] at hI
      refine W.seq ?_
      refine W.region ?_
      iterate 2 refine pu (ev tab rfl) rfl ?_
      refine WO.nil ?_
      refine qs ?_
      try refine ownNilR (d := 2) rfl rfl ?_
      refine W.ret ?_
      refine qsRet ?_
      refine qbRet ?_
      refine qsRet ?_
      refine qlRet ?_
      refine qbRet ?_
      refine qsRet ?_
      refine QF.ret0 trivial rfl ?_
      simp only [norm, oneA, normL, ← hI]; rfl
    · skip
      have hp : (numP w).2 = true := by simpa using h21
      rw [hp] at hI
      have hnx : restW (l ++ [(numP w).1]) (ws.drop (k + 1)) = numsA ws := by
        rw [← hI]
        unfold restW
        cases numsW (ws.drop (k + 1)) <;> simp
      refine W.skip ?_
      refine qs ?_
      refine W.region ?_
      iterate 2 refine pu (ev tab rfl) rfl ?_
      refine pu (buildV tab rfl rfl rfl rfl rfl rfl rfl rfl rfl) rfl ?_
      refine appendM tab rfl rfl rfl rfl rfl rfl rfl rfl rfl rfl (fun _ => rfl) (by show (l.length + 1) * 8 ≤ _; omega) ?_
      refine pu (ev tab rfl) rfl ?_
      refine WO.nil ?_
      refine qbN ?_
      refine qs ?_
      refine W.region ?_
      iterate 2 refine pu (ev tab rfl) rfl ?_
      refine WO.nil ?_
      refine W.endR [1] ⟨(k + 1, l ++ [(numP w).1]), ?_⟩ ?_ rfl ?_ ⟨rfl, rfl, rfl, rfl, trivial⟩ ?_ trivial rfl
      · exact ⟨hlt, hnx, by simp [hL]⟩
      · dsimp only; omega
      · repeat' first | exact trivial | refine ⟨rfl, ?_⟩ | refine ⟨step_nat (by assumption) (by assumption), ?_⟩
      · repeat' first | exact trivial | refine ⟨rfl, ?_⟩ | refine ⟨step_nat (by assumption) (by assumption), ?_⟩
  · skip
    rw [hd] at hI
    simp only [restW, numsW, List.append_nil] at hI
    refine W.exit ?_
    refine qsExit ?_
    refine qlExit ?_
    refine qbExit ?_
    refine qs ?_
    refine W.seq ?_
    refine W.region ?_
    iterate 3 refine pu (ev tab rfl) rfl ?_
    refine WO.nil ?_
    refine qs ?_
    try refine ownNilR (d := 2) rfl rfl ?_
    refine W.ret ?_
    refine QF.ret0 trivial rfl ?_
    simp only [norm, oneA, normL, ← hI]; rfl
end Go.Proofs.YtpkfchdnpdcenaaDoor
namespace Go.Proofs.YtpkfchdnpdcenaaDoor
open Go.Ab Go.Tb
set_option maxRecDepth 10000
attribute [local irreducible] W WO Pu QS QB QL QF QV QV1 CH QE
def i64B (n : Int) : Prop := -9223372036854775808 ≤ n ∧ n ≤ 9223372036854775807
theorem line_fn (u : Bool) (s : ByteArray) (ws : List ByteArray) (l : List Int) (hw : 0 < ws.length) (hwl : ws.length ≤ 4) (hl : l.length ≤ 50000) (hi : ∀ n ∈ l, i64B n) (hz : (joinB (ws ++ l.map numB) bSp).size ≤ 1000000) (hs : s.size ≤ 100000000) :
    DoesB Tryd.prog 25 [.ptr 0 0, .fl (ws.map sc), .d (.sl (l.map ic))] [[.np 0 tB u, .bf 1 tU s]] 1 (.tup []) [[.np 0 tB true, .bf 1 tU (s ++ lineB ws l)]] 1 := by
  have hlb : s ++ lineB ws l = s ++ joinB (ws ++ l.map numB) bSp ++ bNl := (bapp _ _ _).symm
  rw [hlb]
  refine DoesB.of_V tab (n := 26) (rs := []) Tryd.func25 (by kernel_rfl) rfl Tryd.ntmps25 Tryd.results25 rfl rfl fun C hC hG => ?_
  refine W.seq ?_
  refine W.seq ?_
  refine W.region ?_
  iterate 3 refine pu (ev tab rfl) rfl ?_
  refine WO.nil ?_
  refine qs ?_
  refine W.block ?_
  refine fullR (es := ws.map sc) 1 rfl rfl (by rw [List.length_map]; exact hw) ?_
  refine W.len (t := 8) rfl rfl (fun hlen => ?_)
  try simp only [List.length_map, Ex.kc_len] at hlen
  refine W.loopR (ι := {x : Nat × List ByteArray // match x with | (k, L) => k ≤ l.length ∧ L = ws ++ (l.take k).map numB})
    (fun x => match x.1 with | (k, L) => [(0, .ptr 0 0), (1, .own 2 (L.map sc)), (10, .d (.v (.int .i64 ((k : Nat) : Int))))]) [(8, _), (9, _)]
    (fun x => match x.1 with | (k, L) => [(0, [.np 0 tB u, .bf 1 tU s])]) [] [1, 2] 3 (fun x => match x.1 with | (k, L) => l.length - k)
    [0, 1, 2] ⟨(0, ws), ?_⟩ rfl ?_ ⟨rfl, rfl, rfl, rfl, trivial⟩ ?_ trivial rfl ?_
  · exact ⟨Nat.zero_le _, by simp⟩
  · repeat' first | exact trivial | refine ⟨rfl, ?_⟩ | refine ⟨step_nat (by assumption) (by assumption), ?_⟩
  · repeat' first | exact trivial | refine ⟨rfl, ?_⟩ | refine ⟨step_nat (by assumption) (by assumption), ?_⟩
  rintro ⟨⟨k, L⟩, hk, hI⟩
  show W _ _ _ _ _ ⟨[(0, .ptr 0 0), (1, .own 2 (L.map sc)), (10, .d (.v (.int .i64 ((k : Nat) : Int)))), (8, _), (9, _)], [(0, [.np 0 tB u, .bf 1 tU s])], [1, 2], 3⟩
  refine W.seq ?_
  refine W.region ?_
  refine pu (ev tab rfl) rfl ?_
  refine WO.nil ?_
  refine qs ?_
  refine W.seq ?_
  refine eachR (l := l) (k := k) rfl (by simp [Ex.kc_len, bytes_len]) hk (fun n hx hd hlt => ?_) (fun he hd => ?_)
  · skip
    have hn := hi n (List.mem_of_getElem? hx)
    have hLl : L.length ≤ 50004 := by rw [hI]; simp; omega
    have hes : L ++ [numB n] = ws ++ (l.take (k + 1)).map numB := by rw [hI, List.take_add_one, hx]; simp
    refine W.skip ?_
    refine qs ?_
    refine W.seq ?_
    refine W.block ?_
    refine W.seq ?_
    refine W.region ?_
    refine pu (indexAddr tab rfl rfl rfl rfl rfl rfl (Int.natCast_nonneg _) (idx_map hx) rfl) rfl ?_
    first | refine pu (ev tab rfl) rfl ?_ | refine pu (loadRow tab rfl rfl rfl rfl) rfl ?_ | refine pu (loadBox tab rfl rfl rfl rfl rfl) rfl ?_
    refine pu (ev tab rfl) rfl ?_
    refine WO.nil ?_
    refine qs ?_
    refine W.region ?_
    iterate 2 refine pu (ev tab rfl) rfl ?_
    refine pu (puCall rfl rfl rfl (text_fn n hn.1 hn.2) rfl) rfl ?_
    refine pu (buildV tab rfl rfl rfl rfl rfl rfl rfl rfl rfl) rfl ?_
    refine appendM tab rfl rfl rfl rfl rfl rfl rfl rfl rfl rfl (fun _ => rfl) (by show (L.length + 1) * 16 ≤ _; omega) ?_
    refine pu (ev tab rfl) rfl ?_
    refine WO.nil ?_
    refine qbN ?_
    refine qs ?_
    refine W.region ?_
    iterate 2 refine pu (ev tab rfl) rfl ?_
    refine WO.nil ?_
    refine W.endR [0, 1, 3] ⟨(k + 1, L ++ [numB n]), ?_⟩ ?_ rfl ?_ ⟨rfl, rfl, rfl, rfl, trivial⟩ ?_ trivial rfl
    · exact ⟨hlt, hes⟩
    · dsimp only; omega
    · repeat' first | exact trivial | refine ⟨rfl, ?_⟩ | refine ⟨step_nat (by assumption) (by assumption), ?_⟩
    · repeat' first | exact trivial | refine ⟨rfl, ?_⟩ | refine ⟨step_nat (by assumption) (by assumption), ?_⟩
  · skip
    have hfin : L = ws ++ l.map numB := by rw [hI, List.take_of_length_le (by have := congrArg List.length hd; simp at this; omega)]
    subst hfin
    refine W.exit ?_
    refine qsExit ?_
    refine qlExit ?_
    refine qbExit ?_
    refine qs ?_
    refine W.seq ?_
    refine W.region ?_
    iterate 2 refine pu (ev tab rfl) rfl ?_
    refine pu (puCall rfl rfl rfl (join_fn (ws ++ l.map numB) bSp (by rw [List.length_append, List.length_map]; omega) hz) rfl) rfl ?_
    refine callB [0] [1] rfl rfl rfl rfl rfl ((bwrite_fn u s (joinB (ws ++ l.map numB) bSp) (by omega))) rfl rfl (by rfl) (by rfl) rfl rfl rfl rfl ?_
    refine WO.nil ?_
    refine qs ?_
    refine W.region ?_
    refine pu (ev tab rfl) rfl ?_
    refine callB [0] [4] rfl rfl rfl rfl rfl ((bbyte_fn true (s ++ joinB (ws ++ l.map numB) bSp) 10 bNl rfl (by intro b hb; cases hb; rfl) (by rw [size_cat]; omega))) rfl rfl (by rfl) (by rfl) rfl rfl rfl rfl ?_
    refine WO.nil ?_
    refine QB1.end tab [6] trivial rfl rfl rfl rfl ?_ ?_
    · exact ⟨rfl, trivial⟩
    rfl
end Go.Proofs.YtpkfchdnpdcenaaDoor
namespace Go.Proofs.YtpkfchdnpdcenaaDoor
open Go.Ab Go.Tb
set_option maxRecDepth 10000
attribute [local irreducible] W WO Pu QS QB QL QF QV QV1 CH QE
theorem i64_of {n : Int} (h : inR n = true) : i64B n := by rw [inR_iff] at h; unfold i64B; omega
theorem size_max {s : ByteArray} (h : s.size ≤ 1000000) : s.size ≤ maxLen := by simp only [maxLen]; omega
theorem printH_fn (h : Hp) : DoesH Tryd.prog (fun _ => True) 14 [.ag h.c] (.tup [.d (.v (.string (printH h).1)), .d (.v (.int .i64 (printH h).2))]) 0 := by
  refine DoesH.of_V tab (n := 44) (rs := [.tmp 2, .tmp 3]) Tryd.func14 (by kernel_rfl) rfl Tryd.ntmps14 Tryd.results14 rfl fun C hC hG hH hfp => ?_
  refine W.seq ?_
  refine W.region ?_
  refine boxR rfl rfl rfl ?_
  iterate 2 refine pu (ev tab rfl) rfl ?_
  refine WO.nil ?_
  refine qs ?_
  refine W.seq ?_
  refine W.seq ?_
  refine W.region ?_
  first | refine pu (ev tab rfl) rfl ?_ | refine pu (loadRow tab rfl rfl rfl rfl) rfl ?_ | refine pu (loadBox tab rfl rfl rfl rfl rfl) rfl ?_
  refine pu (puCall rfl rfl rfl (check_fn h) rfl) rfl ?_
  refine pu (ev tab rfl) rfl ?_
  refine WO.nil ?_
  refine qs ?_
  refine W.seq ?_
  refine W.region ?_
  iterate 2 refine pu (ev tab rfl) rfl ?_
  refine WO.nil ?_
  refine qs ?_
  refine condK rfl (fun h11 => ?_) (fun h11 => ?_)
  · skip
    have hg : printH h = (B #[], checkH h) := by unfold printH; rw [if_pos (by simpa using h11)]
    refine W.seq ?_
    refine W.region ?_
    iterate 3 refine pu (ev tab rfl) rfl ?_
    refine WO.nil ?_
    refine qs ?_
    refine W.ret ?_
    refine qsRet ?_
    refine QV.ret0 tab trivial rfl ?_
    rw [hg]; rfl
  · skip
    have hc : checkH h = 0 := by simpa using h11
    have g := goodH.1 hc
    have hb := g.body
    have hg : printH h = if 65536 < (bodyH h).size then (B #[], 7) else (bodyH h, 0) := by unfold printH; rw [if_neg (by simp [hc])]
    refine W.skip ?_
    refine qs ?_
    refine W.seq ?_
    refine W.region ?_
    refine allocB tab tU rfl rfl rfl ?_
    refine WO.nil ?_
    refine qs ?_
    refine W.seq ?_
    refine W.seq ?_
    refine W.region ?_
    refine pu (ev tab rfl) rfl ?_
    first | refine pu (ev tab rfl) rfl ?_ | refine pu (loadRow tab rfl rfl rfl rfl) rfl ?_ | refine pu (loadBox tab rfl rfl rfl rfl rfl) rfl ?_
    iterate 2 refine pu (ev tab rfl) rfl ?_
    refine WO.nil ?_
    refine qs ?_
    refine W.block ?_
    refine W.len (t := 14) rfl rfl (fun hlen => ?_)
    try simp only [List.length_map, Ex.kc_len] at hlen
    refine W.loopR (ι := {x : Nat × ByteArray × Bool // match x with | (k, s, u) => k ≤ h.objs.length ∧ s = catB ((h.objs.map lineO).take k)})
      (fun x => match x.1 with | (k, s, u) => [(1, .ptr 0 0), (5, .ptr 1 0), (16, .d (.v (.int .i64 ((k : Nat) : Int))))]) [(14, _), (15, _)]
      (fun x => match x.1 with | (k, s, u) => [(0, h.c.map A.d), (1, [.np 1 tB u, .bf 2 tU s])]) [] [2] 3 (fun x => match x.1 with | (k, s, u) => h.objs.length - k)
      [0, 1, 2] ⟨(0, .empty, false), ?_⟩ rfl ?_ ⟨rfl, rfl, rfl, rfl, trivial⟩ ?_ trivial rfl ?_
    · exact ⟨Nat.zero_le _, rfl⟩
    · repeat' first | exact trivial | refine ⟨rfl, ?_⟩ | refine ⟨step_nat (by assumption) (by assumption), ?_⟩
    · repeat' first | exact trivial | refine ⟨rfl, ?_⟩ | refine ⟨step_nat (by assumption) (by assumption), ?_⟩
    rintro ⟨⟨k, s, u⟩, hk, hI⟩
    show W _ _ _ _ _ ⟨[(1, .ptr 0 0), (5, .ptr 1 0), (16, .d (.v (.int .i64 ((k : Nat) : Int)))), (14, _), (15, _)], [(0, h.c.map A.d), (1, [.np 1 tB u, .bf 2 tU s])], [2], 3⟩
    refine W.seq ?_
    refine W.region ?_
    refine pu (ev tab rfl) rfl ?_
    refine WO.nil ?_
    refine qs ?_
    refine W.seq ?_
    refine eachR (l := h.objs) (k := k) rfl (by simp [Ex.kc_len, bytes_len]) hk (fun o hx hd hlt => ?_) (fun he hd => ?_)
    · skip
      have ho := List.mem_of_getElem? hx
      have hsz : s.size ≤ 770000 := by rw [hI]; exact g.cat k
      have hid := i64_of (g.idIn ho).1
      have hsi := i64_of (g.idIn ho).2
      have hlz := g.lineO ho
      have hrm := refs_many ho
      have hmm := g.many
      have hnx : s ++ lineO o = catB ((h.objs.map lineO).take (k + 1)) := by rw [hI, catB_take (x := lineO o) (by rw [List.getElem?_map, hx]; rfl)]
      refine W.skip ?_
      refine qs ?_
      refine W.seq ?_
      refine W.block ?_
      refine W.seq ?_
      refine W.region ?_
      refine pu (indexAddr tab rfl rfl rfl rfl rfl rfl (Int.natCast_nonneg _) (idx_map hx) rfl) rfl ?_
      first | refine pu (ev tab rfl) rfl ?_ | refine pu (loadRow tab rfl rfl rfl rfl) rfl ?_ | refine pu (loadBox tab rfl rfl rfl rfl rfl) rfl ?_
      refine allocR tab rfl rfl rfl ?_
      refine storeR tab rfl rfl rfl rfl rfl rfl rfl rfl ?_
      refine WO.nil ?_
      refine qs ?_
      refine W.regionL tab [] [] [] [] 11 (by kernel_rfl) (by kernel_rfl) rfl rfl ?_
      refine' cdPu' (ev tab rfl) ?p_1 rfl rfl rfl (by kernel_rfl) rfl ?h_1
      case' h_1 => skip
      case p_1 => refine ⟨fun ha => (alwNo ha (by kernel_rfl)).elim, ?_⟩ <;> intro ha <;> first | exact ⟨ev tab rfl, fun h => nomatch h⟩ | exact (alwNo ha (by kernel_rfl)).elim
      first | (refine' cdPu' (ev tab rfl) ?p_2 rfl rfl rfl (by kernel_rfl) rfl ?h_2) | (refine' cdPu' (loadRow tab rfl rfl rfl rfl) ?p_2 rfl rfl rfl (by kernel_rfl) rfl ?h_2) | (refine' cdPu' (loadBox tab rfl rfl rfl rfl rfl) ?p_2 rfl rfl rfl (by kernel_rfl) rfl ?h_2)
      case' h_2 => skip
      case p_2 => refine ⟨fun ha => (alwNo ha (by kernel_rfl)).elim, ?_⟩ <;> intro ha <;> first | exact ⟨ev tab rfl, fun h => nomatch h⟩ | exact ⟨loadRow tab rfl rfl rfl rfl, fun h => nomatch h⟩ | exact ⟨loadBox tab rfl rfl rfl rfl rfl, fun h => nomatch h⟩ | exact (alwNo ha (by kernel_rfl)).elim
      refine' cdPu' (puCall rfl rfl rfl (text_fn o.id hid.1 hid.2) rfl) ?p_3 rfl rfl rfl (by kernel_rfl) rfl ?h_3
      case' h_3 => skip
      case p_3 => refine ⟨fun ha => (alwNo ha (by kernel_rfl)).elim, ?_⟩ <;> intro ha <;> first | exact ⟨puCall rfl rfl rfl (text_fn o.id hid.1 hid.2) rfl, fun h => nomatch h⟩ | exact (alwNo ha (by kernel_rfl)).elim
      refine' cdPu' (ev tab rfl) ?p_4 rfl rfl rfl (by kernel_rfl) rfl ?h_4
      case' h_4 => skip
      case p_4 => refine ⟨fun ha => (alwNo ha (by kernel_rfl)).elim, ?_⟩ <;> intro ha <;> first | exact ⟨ev tab rfl, fun h => nomatch h⟩ | exact (alwNo ha (by kernel_rfl)).elim
      first | (refine' cdPu' (ev tab rfl) ?p_5 rfl rfl rfl (by kernel_rfl) rfl ?h_5) | (refine' cdPu' (loadRow tab rfl rfl rfl rfl) ?p_5 rfl rfl rfl (by kernel_rfl) rfl ?h_5) | (refine' cdPu' (loadBox tab rfl rfl rfl rfl rfl) ?p_5 rfl rfl rfl (by kernel_rfl) rfl ?h_5)
      case' h_5 => skip
      case p_5 => refine ⟨fun ha => (alwNo ha (by kernel_rfl)).elim, ?_⟩ <;> intro ha <;> first | exact ⟨ev tab rfl, fun h => nomatch h⟩ | exact ⟨loadRow tab rfl rfl rfl rfl, fun h => nomatch h⟩ | exact ⟨loadBox tab rfl rfl rfl rfl rfl, fun h => nomatch h⟩ | exact (alwNo ha (by kernel_rfl)).elim
      refine' cdPu' (puCall rfl rfl rfl (text_fn o.size hsi.1 hsi.2) rfl) ?p_6 rfl rfl rfl (by kernel_rfl) rfl ?h_6
      case' h_6 => skip
      case p_6 => refine ⟨fun ha => (alwNo ha (by kernel_rfl)).elim, ?_⟩ <;> intro ha <;> first | exact ⟨puCall rfl rfl rfl (text_fn o.size hsi.1 hsi.2) rfl, fun h => nomatch h⟩ | exact (alwNo ha (by kernel_rfl)).elim
      refine' cdPu' (ev tab rfl) ?p_7 rfl rfl rfl (by kernel_rfl) rfl ?h_7
      case' h_7 => skip
      case p_7 => refine ⟨fun ha => (alwNo ha (by kernel_rfl)).elim, ?_⟩ <;> intro ha <;> first | exact ⟨ev tab rfl, fun h => nomatch h⟩ | exact (alwNo ha (by kernel_rfl)).elim
      first | (refine' cdPu' (ev tab rfl) ?p_8 rfl rfl rfl (by kernel_rfl) rfl ?h_8) | (refine' cdPu' (loadRow tab rfl rfl rfl rfl) ?p_8 rfl rfl rfl (by kernel_rfl) rfl ?h_8) | (refine' cdPu' (loadBox tab rfl rfl rfl rfl rfl) ?p_8 rfl rfl rfl (by kernel_rfl) rfl ?h_8)
      case' h_8 => skip
      case p_8 => refine ⟨fun ha => (alwNo ha (by kernel_rfl)).elim, ?_⟩ <;> intro ha <;> first | exact ⟨ev tab rfl, fun h => nomatch h⟩ | exact ⟨loadRow tab rfl rfl rfl rfl, fun h => nomatch h⟩ | exact ⟨loadBox tab rfl rfl rfl rfl rfl, fun h => nomatch h⟩ | exact (alwNo ha (by kernel_rfl)).elim
      refine' cdPu' (buildFl tab rfl rfl rfl rfl rfl rfl rfl rfl rfl) ?p_9 rfl rfl rfl (by kernel_rfl) rfl ?h_9
      case' h_9 => skip
      case p_9 => refine ⟨fun ha => (alwNo ha (by kernel_rfl)).elim, ?_⟩ <;> intro ha <;> first | exact ⟨buildFl tab rfl rfl rfl rfl rfl rfl rfl rfl rfl, fun h => nomatch h⟩ | exact (alwNo ha (by kernel_rfl)).elim
      refine' cdPu' (ev tab rfl) ?p_10 rfl rfl rfl (by kernel_rfl) rfl ?h_10
      case' h_10 => skip
      case p_10 => refine ⟨fun ha => (alwNo ha (by kernel_rfl)).elim, ?_⟩ <;> intro ha <;> first | exact ⟨ev tab rfl, fun h => nomatch h⟩ | exact (alwNo ha (by kernel_rfl)).elim
      first | (refine' cdPu' (ev tab rfl) ?p_11 rfl rfl rfl (by kernel_rfl) rfl ?h_11) | (refine' cdPu' (loadRow tab rfl rfl rfl rfl) ?p_11 rfl rfl rfl (by kernel_rfl) rfl ?h_11) | (refine' cdPu' (loadBox tab rfl rfl rfl rfl rfl) ?p_11 rfl rfl rfl (by kernel_rfl) rfl ?h_11)
      case' h_11 => skip
      case p_11 => refine ⟨fun ha => (alwNo ha (by kernel_rfl)).elim, ?_⟩ <;> intro ha <;> first | exact ⟨ev tab rfl, fun h => nomatch h⟩ | exact ⟨loadRow tab rfl rfl rfl rfl, fun h => nomatch h⟩ | exact ⟨loadBox tab rfl rfl rfl rfl rfl, fun h => nomatch h⟩ | exact (alwNo ha (by kernel_rfl)).elim
      refine CD.nil ?_ rfl
      refine callB [1] [2] rfl rfl rfl rfl rfl ((line_fn u s (headO o) o.refs (Nat.zero_lt_succ 3) (Nat.le_refl 4) (by omega) (fun n hn => i64_of (g.refIn ho hn)) (by omega) (by omega))) rfl rfl (by rfl) (by rfl) rfl rfl rfl rfl ?_
      refine WO.nil ?_
      refine qbN ?_
      refine qs ?_
      refine W.region ?_
      iterate 2 refine pu (ev tab rfl) rfl ?_
      refine WO.nil ?_
      refine W.endR [0, 1, 5] ⟨(k + 1, s ++ lineO o, true), ?_⟩ ?_ rfl ?_ ⟨rfl, rfl, rfl, rfl, trivial⟩ ?_ trivial rfl
      · exact ⟨hlt, hnx⟩
      · dsimp only; omega
      · repeat' first | exact trivial | refine ⟨rfl, ?_⟩ | refine ⟨step_nat (by assumption) (by assumption), ?_⟩
      · repeat' first | exact trivial | refine ⟨rfl, ?_⟩ | refine ⟨step_nat (by assumption) (by assumption), ?_⟩
    · skip
      have hkl : h.objs.length ≤ k := by have := congrArg List.length hd; simp at this; omega
      have hs : s = catB (h.objs.map lineO) := by rw [hI, List.take_of_length_le (by rw [List.length_map]; exact hkl)]
      have hsz : s.size ≤ 770000 := by rw [hI]; exact g.cat k
      refine W.exit ?_
      refine qsExit ?_
      refine qlExit ?_
      refine qbExit ?_
      refine qs ?_
      refine W.seq ?_
      refine W.seq ?_
      refine W.region ?_
      refine pu (ev tab rfl) rfl ?_
      first | refine pu (ev tab rfl) rfl ?_ | refine pu (loadRow tab rfl rfl rfl rfl) rfl ?_ | refine pu (loadBox tab rfl rfl rfl rfl rfl) rfl ?_
      iterate 2 refine pu (ev tab rfl) rfl ?_
      refine WO.nil ?_
      refine qs ?_
      refine condK rfl (fun h36 => ?_) (fun h36 => ?_)
      · skip
        have hr : h.roots ≠ [] := by intro q; rw [q] at h36; simp at h36
        have hbd : bodyH h = s ++ lineB [kRoots] h.roots := by unfold bodyH rootsB; rw [if_neg hr, hs]
        have hrz := g.rootsLine
        have hrl := g.rlen
        refine W.region ?_
        refine pu (buildFl tab rfl rfl rfl rfl rfl rfl rfl rfl rfl) rfl ?_
        refine pu (ev tab rfl) rfl ?_
        first | refine pu (ev tab rfl) rfl ?_ | refine pu (loadRow tab rfl rfl rfl rfl) rfl ?_ | refine pu (loadBox tab rfl rfl rfl rfl rfl) rfl ?_
        refine callB [1] [2] rfl rfl rfl rfl rfl ((line_fn u s [kRoots] h.roots (Nat.zero_lt_succ 0) (by decide) (by omega) (fun n hn => i64_of (g.rootIn hn)) (by omega) (by omega))) rfl rfl (by rfl) (by rfl) rfl rfl rfl rfl ?_
        refine WO.nil ?_
        refine qs ?_
        refine W.seq ?_
        refine W.seq ?_
        refine W.region ?_
        first | refine callB [1] [4] rfl rfl rfl rfl rfl (blen_fn ..) rfl rfl (by rfl) (by rfl) rfl rfl rfl rfl ?_ | refine callB [1] [2] rfl rfl rfl rfl rfl (blen_fn ..) rfl rfl (by rfl) (by rfl) rfl rfl rfl rfl ?_
        refine pu (ev tab rfl) rfl ?_
        refine WO.nil ?_
        refine qs ?_
        refine condK rfl (fun h42 => ?_) (fun h42 => ?_)
        · skip
          have hg2 : printH h = (B #[], 7) := by rw [hg, if_pos (by rw [hbd]; simp at h42; have := size_cat s (lineB [kRoots] h.roots); omega)]
          refine W.seq ?_
          refine W.region ?_
          iterate 2 refine pu (ev tab rfl) rfl ?_
          refine WO.nil ?_
          refine qs ?_
          refine W.ret ?_
          refine qsRet ?_
          refine QV.ret0 tab trivial rfl ?_
          rw [hg2]; rfl
        · skip
          have hg2 : printH h = (bodyH h, 0) := by rw [hg, if_neg (by rw [hbd]; simp at h42; have := size_cat s (lineB [kRoots] h.roots); omega)]
          refine W.skip ?_
          refine qs ?_
          refine W.seq ?_
          refine W.region ?_
          refine strEnd hfp rfl rfl rfl rfl bld_st bld_str (size_max (by rw [hbd] at hb; omega)) rfl ?_
          iterate 2 refine pu (ev tab rfl) rfl ?_
          refine WO.nil ?_
          refine qs ?_
          refine W.ret ?_
          refine QV.ret0 tab trivial rfl ?_
          rw [hg2, hbd]; rfl
      · skip
        have hr : h.roots = [] := by
          cases q : h.roots with
          | nil => rfl
          | cons x r => rw [q] at h36; simp at h36
        have hbd : bodyH h = s := by unfold bodyH rootsB; rw [if_pos hr, bnil, hs]
        refine W.skip ?_
        refine qs ?_
        refine W.seq ?_
        refine W.seq ?_
        refine W.region ?_
        first | refine callB [1] [4] rfl rfl rfl rfl rfl (blen_fn ..) rfl rfl (by rfl) (by rfl) rfl rfl rfl rfl ?_ | refine callB [1] [2] rfl rfl rfl rfl rfl (blen_fn ..) rfl rfl (by rfl) (by rfl) rfl rfl rfl rfl ?_
        refine pu (ev tab rfl) rfl ?_
        refine WO.nil ?_
        refine qs ?_
        refine condK rfl (fun h42 => ?_) (fun h42 => ?_)
        · skip
          have hg2 : printH h = (B #[], 7) := by rw [hg, if_pos (by rw [hbd]; simp at h42; have := size_cat s (lineB [kRoots] h.roots); omega)]
          refine W.seq ?_
          refine W.region ?_
          iterate 2 refine pu (ev tab rfl) rfl ?_
          refine WO.nil ?_
          refine qs ?_
          refine W.ret ?_
          refine qsRet ?_
          refine QV.ret0 tab trivial rfl ?_
          rw [hg2]; rfl
        · skip
          have hg2 : printH h = (bodyH h, 0) := by rw [hg, if_neg (by rw [hbd]; simp at h42; have := size_cat s (lineB [kRoots] h.roots); omega)]
          refine W.skip ?_
          refine qs ?_
          refine W.seq ?_
          refine W.region ?_
          refine strEnd hfp rfl rfl rfl rfl bld_st bld_str (size_max (by rw [hbd] at hb; omega)) rfl ?_
          iterate 2 refine pu (ev tab rfl) rfl ?_
          refine WO.nil ?_
          refine qs ?_
          refine W.ret ?_
          refine QV.ret0 tab trivial rfl ?_
          rw [hg2, hbd]; rfl
theorem print_fn (h : Hp) : Does Tryd.prog 14 [.ag h.c] (.tup [.d (.v (.string (printH h).1)), .d (.v (.int .i64 (printH h).2))]) 0 := (printH_fn h).does fun _ => trivial
end Go.Proofs.YtpkfchdnpdcenaaDoor
namespace Go.Proofs.YtpkfchdnpdcenaaDoor
open Go.Ab Go.Tb
set_option maxRecDepth 10000
attribute [local irreducible] W WO Pu QS QB QL QF QV QV1 CH QE
open Go.RowKit in
theorem scut_fn (s : ByteArray) (hs : s.size ≤ 1000000) : Does Tryd.prog 31 [.d (.v (.string s)), .d (.v (.string (B #[10])))] (.tup [.d (.v (.string (cutF s))), .d (.v (.string (cutN s))), .d (.v (.bool (cutE s)))]) 0 :=
  Does.of_freshV (xs := [.string s, .string (B #[10])]) ⟨_, Tryd.func31, by kernel_rfl, by kernel_rfl⟩ fun w hu _ => by
    obtain ⟨m, hm⟩ := hu.cell (b := _) Tryd.laysM145.s1_3
    have hz := cut_sizes s
    refine (Tryd.strings_Cut s (B #[10]) m w (by omega) hm).mono fun e w' ⟨he, n, hw⟩ => ⟨_, he, ?_, fun E' hE hpv => .tup _ _ rfl (fun i u x hu hx => ?_)⟩
    · rw [hw]; exact ⟨rfl, rfl, rfl, Nat.le_refl _, fun _ _ => rfl⟩
    · match i with
      | 0 => simp at hu hx; subst hu; subst hx; exact .d (.v _ (decide_eq_true (by simp only [maxLen]; show (cutF s).size ≤ _; omega)))
      | 1 => simp at hu hx; subst hu; subst hx; exact .d (.v _ (decide_eq_true (by simp only [maxLen]; show (cutN s).size ≤ _; omega)))
      | 2 => simp at hu hx; subst hu; subst hx; exact .d (.v _ rfl)
      | i + 3 => simp at hx
end Go.Proofs.YtpkfchdnpdcenaaDoor
namespace Go.Proofs.YtpkfchdnpdcenaaDoor
open Go.Ab Go.Tb
set_option maxRecDepth 10000
attribute [local irreducible] W WO Pu QS QB QL QF QV QV1 CH QE
@[reducible] def heapA (h : Hp) : A := .ag h.c
theorem getD_at {ws : List ByteArray} {i : Nat} (h : i < ws.length) : ws[i]? = some (ws.getD i (B #[])) := by simp [List.getD_eq_getElem?_getD, h]
theorem getDI_at {ws : List Int} {i : Nat} (h : i < ws.length) : ws[i]? = some (ws.getD i 0) := by simp [List.getD_eq_getElem?_getD, h]
theorem sliceA (ws : List ByteArray) (i : Nat) (h : i ≤ ws.length) : (ws.take ((ws.length : Int)).toNat).drop i = ws.drop i := by
  rw [show ((ws.length : Int)).toNat = ws.length from rfl, List.take_length]
theorem import_fn (s : ByteArray) : Does Tryd.prog 16 [.d (.v (.string s))] (.tup [heapA (importH s).1, .d (.v (.int .i64 (importH s).2.1)), .d (.v (.int .i64 (importH s).2.2))]) 0 := by
  refine Does.of_V tab (n := 126) (rs := [.cell 2 25, .tmp 3, .tmp 4]) Tryd.func16 (by kernel_rfl) rfl Tryd.ntmps16 Tryd.results16 rfl fun C hC hG => ?_
  refine W.seq ?_
  refine W.region ?_
  refine allocR tab rfl rfl rfl ?_
  iterate 2 refine pu (ev tab rfl) rfl ?_
  refine WO.nil ?_
  refine qs ?_
  refine W.seq ?_
  refine W.seq ?_
  refine W.region ?_
  iterate 3 refine pu (ev tab rfl) rfl ?_
  refine WO.nil ?_
  refine qs ?_
  refine condK rfl (fun h22 => ?_) (fun h22 => ?_)
  · skip
    have hg : importH s = (hp0, 0, 7) := by unfold importH; rw [if_pos (by simp at h22; omega)]
    refine W.seq ?_
    refine W.region ?_
    refine pu (build tab rfl rfl rfl rfl) rfl ?_
    refine storeR tab rfl rfl rfl rfl rfl rfl rfl rfl ?_
    iterate 2 refine pu (ev tab rfl) rfl ?_
    refine WO.nil ?_
    refine qs ?_
    try refine nilBox 0 0 rfl rfl rfl ?_
    try refine nilBox 0 1 rfl rfl rfl ?_
    refine W.ret ?_
    refine qsRet ?_
    refine QV.ret0 tab trivial rfl ?_
    rw [hg]; rfl
  · skip
    have hsz : s.size ≤ 65536 := by simp at h22; omega
    have hg : importH s = impL (cutB s 10) 1 hp0 := by unfold importH; rw [if_neg (by omega)]
    refine W.skip ?_
    refine qs ?_
    refine W.seq ?_
    refine W.region ?_
    refine allocR tab rfl rfl rfl ?_
    refine WO.nil ?_
    refine qs ?_
    refine W.seq ?_
    refine W.seq ?_
    refine W.region ?_
    iterate 3 refine pu (ev tab rfl) rfl ?_
    refine WO.nil ?_
    refine qs ?_
    refine W.block ?_
    refine ownNilBox 1 0 rfl rfl rfl ?_
    refine nilBox 1 1 rfl rfl rfl ?_
    refine W.loopR (ι := {x : ByteArray × Nat × Hp // match x with | (t, i, h) => (impL (cutB t 10) i h = impL (cutB s 10) 1 hp0 ∧ t.size + i ≤ s.size + 1) ∧ h.objs.length + 1 ≤ i ∧ manyH h.objs + t.size ≤ s.size})
      (fun x => match x.1 with | (t, i, h) => [(2, .ptr 0 0), (5, .ptr 1 0), (6, .d (.v (.int .i64 ((i : Nat) : Int)))), (7, .d (.v (.string (t))))]) []
      (fun x => match x.1 with | (t, i, h) => [(0, [.d (.v (.slice none 0 0)), .d (.v (.slice none 0 0))]), (1, [.own 2 (h.objs.map Ob.c), .d (.sl (h.roots.map ic))])]) [] [2] 3 (fun x => match x.1 with | (t, i, h) => t.size)
      [0, 1, 2] ⟨(s, 1, hp0), ?_⟩ rfl ?_ trivial ?_ trivial rfl ?_
    · exact ⟨⟨rfl, by omega⟩, by decide, by show 0 + s.size ≤ s.size; omega⟩
    · repeat' first | exact trivial | refine ⟨rfl, ?_⟩ | refine ⟨step_nat (by assumption) (by assumption), ?_⟩
    · repeat' first | exact trivial | refine ⟨rfl, ?_⟩ | refine ⟨step_nat (by assumption) (by assumption), ?_⟩
    rintro ⟨⟨t, i, h⟩, hI0, hl, hm⟩
    show W _ _ _ _ _ ⟨[(2, .ptr 0 0), (5, .ptr 1 0), (6, .d (.v (.int .i64 ((i : Nat) : Int)))), (7, .d (.v (.string (t))))], [(0, [.d (.v (.slice none 0 0)), .d (.v (.slice none 0 0))]), (1, [.own 2 (h.objs.map Ob.c), .d (.sl (h.roots.map ic))])], [2], 3⟩
    obtain ⟨hI, ht⟩ := hI0
    have hcs := cut_sizes t
    have hW := cutB_len (cutF t) 32
    have hWz := cutB_le (s := cutF t) (c := 32) (m := 65536) (by omega)
    refine W.seq ?_
    refine W.seq ?_
    refine W.region ?_
    iterate 2 refine pu (ev tab rfl) rfl ?_
    refine WO.nil ?_
    refine qs ?_
    refine condK rfl (fun h26 => ?_) (fun h26 => ?_)
    · skip
      have hne : t ≠ B #[] := by rintro rfl; simp at h26
      have hst := imp_step hne i h
      generalize hWs : cutB (cutF t) 32 = ws at hst hW hWz
      refine W.skip ?_
      refine qs ?_
      refine W.seq ?_
      refine W.block ?_
      refine W.seq ?_
      refine W.region ?_
      refine pu (ev tab rfl) rfl ?_
      refine pu (puCall rfl rfl rfl (scut_fn t (by omega)) rfl) rfl ?_
      iterate 7 refine pu (ev tab rfl) rfl ?_
      refine WO.nil ?_
      refine qs ?_
      refine W.seq ?_
      refine W.region ?_
      refine pu (ev tab rfl) rfl ?_
      refine pu (puCall rfl rfl rfl (hWs ▸ split_fn (cutF t) 32 (by omega)) rfl) rfl ?_
      refine pu (ev tab rfl) rfl ?_
      refine WO.nil ?_
      refine qs ?_
      refine W.seq ?_
      apply regionB; (case hb => rfl)
      · skip
        iterate 3 refine pu (ev tab rfl) rfl ?_
        apply splitJ; (case hj => rfl); (case hl => rfl)
        · skip
          refine skipT rfl rfl rfl rfl ?_
          refine skipT rfl rfl rfl rfl ?_
          iterate 2 refine pu (ev tab rfl) rfl ?_
          refine WO.nil ?_
          refine qv1 rfl rfl rfl
        · skip
          refine goG rfl rfl ?_
          refine pu (ev tab rfl) rfl ?_
          refine goG rfl rfl ?_
          refine pu (puCall rfl rfl rfl (contains_fn ws (B #[])) rfl) rfl ?_
          iterate 2 refine pu (ev tab rfl) rfl ?_
          refine WO.nil ?_
          refine qv1 rfl rfl rfl
      refine qs ?_
      refine W.seq ?_
      refine W.cutS [(2, .ptr 0 0), (5, .ptr 1 0), (6, .d (.v (.int .i64 ((i : Nat) : Int)))), (9, .d (.v (.string (cutN t)))), (12, .d (.v (.bool ((stepI (cutE t) ws (cutN t) h).1))))] [] [(0, [.d (.v (.slice none 0 0)), .d (.v (.slice none 0 0))]), (1, [.own 2 ((stepI (cutE t) ws (cutN t) h).2.objs.map Ob.c), .d (.sl ((stepI (cutE t) ws (cutN t) h).2.roots.map ic))])] [] [2] 3 ?_ ?_
      · skip
        refine W.block ?_
        refine W.seq ?_
        refine W.region ?_
        iterate 2 refine pu (ev tab rfl) rfl ?_
        refine WO.nil ?_
        refine qs ?_
        refine condK rfl (fun h43 => ?_) (fun h43 => ?_)
        · skip
          have hs : stepI (cutE t) ws (cutN t) h = (true, h) := by
            unfold stepI
            rw [if_pos]
            revert h43
            cases cutE t <;> cases (ws.any fun x => decide (B #[] = x)) <;> simp
          have hb := h43
          refine W.skip ?_
          refine qbN ?_
          first | (refine cutEnd [0, 1, 2] rfl ?_ trivial ?_ trivial rfl) | (refine cutEnd [0, 1, 3] rfl ?_ trivial ?_ trivial rfl)
          · rw [hs]
            repeat' first | exact trivial | refine ⟨rfl, ?_⟩ | refine ⟨congrArg (fun b => some (A.d (D.v (Value.bool b)))) hb, ?_⟩
          · rw [hs]
            repeat' first | exact trivial | refine ⟨rfl, ?_⟩
        · skip
          have hne2 : ¬ (cutE t = false ∨ (ws.any fun x => decide (B #[] = x)) = true) := by
            revert h43
            cases cutE t <;> cases (ws.any fun x => decide (B #[] = x)) <;> simp
          refine W.seq ?_
          apply regionB; (case hb => rfl)
          · skip
            refine pu (ev tab rfl) rfl ?_
            refine pu (indexAddr (l := sc (ws.getD 0 (B #[]))) tab rfl rfl rfl rfl rfl rfl (Int.le_refl _) (idx_map (getD_at (by omega))) rfl) rfl ?_
            first | refine pu (ev tab rfl) rfl ?_ | refine pu (loadRow tab rfl rfl rfl rfl) rfl ?_ | refine pu (loadBox tab rfl rfl rfl rfl rfl) rfl ?_
            iterate 2 refine pu (ev tab rfl) rfl ?_
            apply splitJ; (case hj => rfl); (case hl => rfl)
            · skip
              refine goG rfl rfl ?_
              refine pu (ev tab rfl) rfl ?_
              refine goG rfl rfl ?_
              refine pu (ev tab rfl) rfl ?_
              refine goG rfl rfl ?_
              iterate 3 refine pu (ev tab rfl) rfl ?_
              refine WO.nil ?_
              refine qv1 rfl rfl rfl
            · skip
              refine skipT rfl rfl rfl rfl ?_
              refine skipT rfl rfl rfl rfl ?_
              refine skipT rfl rfl rfl rfl ?_
              iterate 2 refine pu (ev tab rfl) rfl ?_
              refine WO.nil ?_
              refine qv1 rfl rfl rfl
          refine qs ?_
          refine condK rfl (fun h45 => ?_) (fun h45 => ?_)
          · skip
            have ho : ws.getD 0 (B #[]) = kObj ∧ 4 ≤ ws.length := by simp at h45; exact ⟨by simpa using h45.1, by omega⟩
            refine W.seq ?_
            refine W.region ?_
            refine pu (ev tab rfl) rfl ?_
            refine pu (sliceV (fn := sc) (l := ws) (i := 1) (j := 3) (r := (ws.take 3).drop 1) tab rfl rfl rfl rfl rfl (fun _ => rfl) rfl rfl (by decide) (by decide) (by omega) rfl) rfl ?_
            refine pu (puCall rfl rfl rfl (numbers_fn ((ws.take 3).drop 1) (by simp; omega) (fun w hw => by have := hWz w (List.mem_of_mem_take (List.mem_of_mem_drop hw)); omega)) rfl) rfl ?_
            iterate 5 refine pu (ev tab rfl) rfl ?_
            refine WO.nil ?_
            refine qs ?_
            refine W.seq ?_
            refine W.region ?_
            refine pu (ev tab rfl) rfl ?_
            refine pu (sliceV (fn := sc) (l := ws) (i := 4) (r := ws.drop 4) tab rfl rfl rfl rfl rfl (fun _ => rfl) rfl rfl (by decide) (by omega) (Int.le_refl _) (sliceA ws 4 (by omega))) rfl ?_
            refine pu (puCall rfl rfl rfl (numbers_fn (ws.drop 4) (by simp; omega) (fun w hw => by have := hWz w (List.mem_of_mem_drop hw); omega)) rfl) rfl ?_
            iterate 5 refine pu (ev tab rfl) rfl ?_
            refine WO.nil ?_
            refine qs ?_
            refine W.seq ?_
            apply regionB; (case hb => rfl)
            · skip
              iterate 3 refine pu (ev tab rfl) rfl ?_
              apply splitJ; (case hj => rfl); (case hl => rfl)
              · skip
                refine skipT rfl rfl rfl rfl ?_
                refine skipT rfl rfl rfl rfl ?_
                iterate 2 refine pu (ev tab rfl) rfl ?_
                refine WO.nil ?_
                refine qv1 rfl rfl rfl
              · skip
                refine goG rfl rfl ?_
                refine pu (ev tab rfl) rfl ?_
                refine goG rfl rfl ?_
                iterate 3 refine pu (ev tab rfl) rfl ?_
                refine WO.nil ?_
                refine qv1 rfl rfl rfl
            refine qs ?_
            refine W.seq ?_
            refine W.region ?_
            iterate 2 refine pu (ev tab rfl) rfl ?_
            refine WO.nil ?_
            refine qs ?_
            refine condK rfl (fun h74 => ?_) (fun h74 => ?_)
            · skip
              have hb := (Bool.not_eq_true' _).mp h74
              have hok : (numsA ((ws.take 3).drop 1)).2 = true ∧ (numsA (ws.drop 4)).2 = true := by
                revert h74
                cases (numsA ((ws.take 3).drop 1)).2 <;> cases (numsA (ws.drop 4)).2 <;> simp
              have hs : stepI (cutE t) ws (cutN t) h = (false, ⟨h.objs ++ [⟨(numsA ((ws.take 3).drop 1)).1.getD 0 0, (numsA ((ws.take 3).drop 1)).1.getD 1 0, ws.getD 3 (B #[]), (numsA (ws.drop 4)).1⟩], h.roots⟩) := by
                unfold stepI
                rw [if_neg hne2, if_pos ho, if_pos hok]
              have hl2 := numsA_len hok.1
              have hl3 : ((ws.take 3).drop 1).length = 2 := by simp; omega
              refine W.regionL tab [] [] [] [] 14 (by kernel_rfl) (by kernel_rfl) rfl rfl ?_
              refine' cdPu' (ev tab rfl) ?p_1 rfl rfl rfl (by kernel_rfl) rfl ?h_1
              case' h_1 => skip
              case p_1 => refine ⟨fun ha => (alwNo ha (by kernel_rfl)).elim, ?_⟩ <;> intro ha <;> first | exact ⟨ev tab rfl, fun h => nomatch h⟩ | exact (alwNo ha (by kernel_rfl)).elim
              first | (refine' cdPu' (ev tab rfl) ?p_2 rfl rfl rfl (by kernel_rfl) rfl ?h_2) | (refine' cdPu' (loadRow tab rfl rfl rfl rfl) ?p_2 rfl rfl rfl (by kernel_rfl) rfl ?h_2) | (refine' cdPu' (loadBox tab rfl rfl rfl rfl rfl) ?p_2 rfl rfl rfl (by kernel_rfl) rfl ?h_2)
              case' h_2 => skip
              case p_2 => refine ⟨fun ha => (alwNo ha (by kernel_rfl)).elim, ?_⟩ <;> intro ha <;> first | exact ⟨ev tab rfl, fun h => nomatch h⟩ | exact ⟨loadRow tab rfl rfl rfl rfl, fun h => nomatch h⟩ | exact ⟨loadBox tab rfl rfl rfl rfl rfl, fun h => nomatch h⟩ | exact (alwNo ha (by kernel_rfl)).elim
              refine' cdPu' (ev tab rfl) ?p_3 rfl rfl rfl (by kernel_rfl) rfl ?h_3
              case' h_3 => skip
              case p_3 => refine ⟨fun ha => (alwNo ha (by kernel_rfl)).elim, ?_⟩ <;> intro ha <;> first | exact ⟨ev tab rfl, fun h => nomatch h⟩ | exact (alwNo ha (by kernel_rfl)).elim
              refine' cdPu' (indexAddr (l := ic ((numsA ((ws.take 3).drop 1)).1.getD 0 0)) tab rfl rfl rfl rfl rfl rfl (by decide) (idx_map (getDI_at (by omega))) rfl) ?p_4 rfl rfl rfl (by kernel_rfl) rfl ?h_4
              case' h_4 => skip
              case p_4 => refine ⟨fun ha => (alwNo ha (by kernel_rfl)).elim, ?_⟩ <;> intro ha <;> first | exact ⟨indexAddr (l := ic ((numsA ((ws.take 3).drop 1)).1.getD 0 0)) tab rfl rfl rfl rfl rfl rfl (by decide) (idx_map (getDI_at (by omega))) rfl, fun h => nomatch h⟩ | exact (alwNo ha (by kernel_rfl)).elim
              first | (refine' cdPu' (ev tab rfl) ?p_5 rfl rfl rfl (by kernel_rfl) rfl ?h_5) | (refine' cdPu' (loadRow tab rfl rfl rfl rfl) ?p_5 rfl rfl rfl (by kernel_rfl) rfl ?h_5) | (refine' cdPu' (loadBox tab rfl rfl rfl rfl rfl) ?p_5 rfl rfl rfl (by kernel_rfl) rfl ?h_5)
              case' h_5 => skip
              case p_5 => refine ⟨fun ha => (alwNo ha (by kernel_rfl)).elim, ?_⟩ <;> intro ha <;> first | exact ⟨ev tab rfl, fun h => nomatch h⟩ | exact ⟨loadRow tab rfl rfl rfl rfl, fun h => nomatch h⟩ | exact ⟨loadBox tab rfl rfl rfl rfl rfl, fun h => nomatch h⟩ | exact (alwNo ha (by kernel_rfl)).elim
              refine' cdPu' (ev tab rfl) ?p_6 rfl rfl rfl (by kernel_rfl) rfl ?h_6
              case' h_6 => skip
              case p_6 => refine ⟨fun ha => (alwNo ha (by kernel_rfl)).elim, ?_⟩ <;> intro ha <;> first | exact ⟨ev tab rfl, fun h => nomatch h⟩ | exact (alwNo ha (by kernel_rfl)).elim
              refine' cdPu' (indexAddr (l := ic ((numsA ((ws.take 3).drop 1)).1.getD 1 0)) tab rfl rfl rfl rfl rfl rfl (by decide) (idx_map (getDI_at (by omega))) rfl) ?p_7 rfl rfl rfl (by kernel_rfl) rfl ?h_7
              case' h_7 => skip
              case p_7 => refine ⟨fun ha => (alwNo ha (by kernel_rfl)).elim, ?_⟩ <;> intro ha <;> first | exact ⟨indexAddr (l := ic ((numsA ((ws.take 3).drop 1)).1.getD 1 0)) tab rfl rfl rfl rfl rfl rfl (by decide) (idx_map (getDI_at (by omega))) rfl, fun h => nomatch h⟩ | exact (alwNo ha (by kernel_rfl)).elim
              first | (refine' cdPu' (ev tab rfl) ?p_8 rfl rfl rfl (by kernel_rfl) rfl ?h_8) | (refine' cdPu' (loadRow tab rfl rfl rfl rfl) ?p_8 rfl rfl rfl (by kernel_rfl) rfl ?h_8) | (refine' cdPu' (loadBox tab rfl rfl rfl rfl rfl) ?p_8 rfl rfl rfl (by kernel_rfl) rfl ?h_8)
              case' h_8 => skip
              case p_8 => refine ⟨fun ha => (alwNo ha (by kernel_rfl)).elim, ?_⟩ <;> intro ha <;> first | exact ⟨ev tab rfl, fun h => nomatch h⟩ | exact ⟨loadRow tab rfl rfl rfl rfl, fun h => nomatch h⟩ | exact ⟨loadBox tab rfl rfl rfl rfl rfl, fun h => nomatch h⟩ | exact (alwNo ha (by kernel_rfl)).elim
              refine' cdPu' (ev tab rfl) ?p_9 rfl rfl rfl (by kernel_rfl) rfl ?h_9
              case' h_9 => skip
              case p_9 => refine ⟨fun ha => (alwNo ha (by kernel_rfl)).elim, ?_⟩ <;> intro ha <;> first | exact ⟨ev tab rfl, fun h => nomatch h⟩ | exact (alwNo ha (by kernel_rfl)).elim
              refine' cdPu' (indexAddr (l := sc (ws.getD 3 (B #[]))) tab rfl rfl rfl rfl rfl rfl (by decide) (idx_map (getD_at (by omega))) rfl) ?p_10 rfl rfl rfl (by kernel_rfl) rfl ?h_10
              case' h_10 => skip
              case p_10 => refine ⟨fun ha => (alwNo ha (by kernel_rfl)).elim, ?_⟩ <;> intro ha <;> first | exact ⟨indexAddr (l := sc (ws.getD 3 (B #[]))) tab rfl rfl rfl rfl rfl rfl (by decide) (idx_map (getD_at (by omega))) rfl, fun h => nomatch h⟩ | exact (alwNo ha (by kernel_rfl)).elim
              first | (refine' cdPu' (ev tab rfl) ?p_11 rfl rfl rfl (by kernel_rfl) rfl ?h_11) | (refine' cdPu' (loadRow tab rfl rfl rfl rfl) ?p_11 rfl rfl rfl (by kernel_rfl) rfl ?h_11) | (refine' cdPu' (loadBox tab rfl rfl rfl rfl rfl) ?p_11 rfl rfl rfl (by kernel_rfl) rfl ?h_11)
              case' h_11 => skip
              case p_11 => refine ⟨fun ha => (alwNo ha (by kernel_rfl)).elim, ?_⟩ <;> intro ha <;> first | exact ⟨ev tab rfl, fun h => nomatch h⟩ | exact ⟨loadRow tab rfl rfl rfl rfl, fun h => nomatch h⟩ | exact ⟨loadBox tab rfl rfl rfl rfl rfl, fun h => nomatch h⟩ | exact (alwNo ha (by kernel_rfl)).elim
              refine' cdPu' (ev tab rfl) ?p_12 rfl rfl rfl (by kernel_rfl) rfl ?h_12
              case' h_12 => skip
              case p_12 => refine ⟨fun ha => (alwNo ha (by kernel_rfl)).elim, ?_⟩ <;> intro ha <;> first | exact ⟨ev tab rfl, fun h => nomatch h⟩ | exact (alwNo ha (by kernel_rfl)).elim
              refine' cdPu' (build tab rfl rfl rfl rfl) ?p_13 rfl rfl rfl (by kernel_rfl) rfl ?h_13
              case' h_13 => skip
              case p_13 => refine ⟨fun ha => (alwNo ha (by kernel_rfl)).elim, ?_⟩ <;> intro ha <;> first | exact ⟨build tab rfl rfl rfl rfl, fun h => nomatch h⟩ | exact (alwNo ha (by kernel_rfl)).elim
              refine' cdPu' (buildV tab rfl rfl rfl rfl rfl rfl rfl rfl rfl) ?p_14 rfl rfl rfl (by kernel_rfl) rfl ?h_14
              case' h_14 => skip
              case p_14 => refine ⟨fun ha => (alwNo ha (by kernel_rfl)).elim, ?_⟩ <;> intro ha <;> first | exact ⟨buildV tab rfl rfl rfl rfl rfl rfl rfl rfl rfl, fun h => nomatch h⟩ | exact (alwNo ha (by kernel_rfl)).elim
              refine CD.nil ?_ rfl
              refine appendM (a := (⟨(numsA ((ws.take 3).drop 1)).1.getD 0 0, (numsA ((ws.take 3).drop 1)).1.getD 1 0, ws.getD 3 (B #[]), (numsA (ws.drop 4)).1⟩ : Ob)) tab rfl rfl rfl rfl rfl rfl rfl rfl rfl rfl (fun _ => rfl) (by show (h.objs.length + 1) * 56 ≤ _; omega) ?_
              refine pu (ev tab rfl) rfl ?_
              refine storeR tab rfl rfl rfl rfl rfl rfl rfl rfl ?_
              refine WO.nil ?_
              refine qbN ?_
              first | (refine cutEnd [0, 1, 2] rfl ?_ trivial ?_ trivial rfl) | (refine cutEnd [0, 1, 3] rfl ?_ trivial ?_ trivial rfl)
              · rw [hs]
                repeat' first | exact trivial | refine ⟨rfl, ?_⟩ | refine ⟨congrArg (fun b => some (A.d (D.v (Value.bool b)))) hb, ?_⟩
              · rw [hs]
                repeat' first | exact trivial | refine ⟨rfl, ?_⟩
            · skip
              have hb := (Bool.not_eq_false' _).mp h74
              have hs : stepI (cutE t) ws (cutN t) h = (true, h) := by
                unfold stepI
                rw [if_neg hne2, if_pos ho, if_neg]
                revert h74
                cases (numsA ((ws.take 3).drop 1)).2 <;> cases (numsA (ws.drop 4)).2 <;> simp
              refine W.skip ?_
              refine qbN ?_
              first | (refine cutEnd [0, 1, 2] rfl ?_ trivial ?_ trivial rfl) | (refine cutEnd [0, 1, 3] rfl ?_ trivial ?_ trivial rfl)
              · rw [hs]
                repeat' first | exact trivial | refine ⟨rfl, ?_⟩ | refine ⟨congrArg (fun b => some (A.d (D.v (Value.bool b)))) hb, ?_⟩
              · rw [hs]
                repeat' first | exact trivial | refine ⟨rfl, ?_⟩
          · skip
            have ho : ¬ (ws.getD 0 (B #[]) = kObj ∧ 4 ≤ ws.length) := by
              simp at h45
              rintro ⟨q1, q2⟩
              have := h45 q1
              omega
            refine W.seq ?_
            apply regionB; (case hb => rfl)
            · skip
              refine pu (ev tab rfl) rfl ?_
              refine pu (indexAddr (l := sc (ws.getD 0 (B #[]))) tab rfl rfl rfl rfl rfl rfl (Int.le_refl _) (idx_map (getD_at (by omega))) rfl) rfl ?_
              first | refine pu (ev tab rfl) rfl ?_ | refine pu (loadRow tab rfl rfl rfl rfl) rfl ?_ | refine pu (loadBox tab rfl rfl rfl rfl rfl) rfl ?_
              iterate 2 refine pu (ev tab rfl) rfl ?_
              apply splitJ; (case hj => rfl); (case hl => rfl)
              · skip
                refine goG rfl rfl ?_
                refine pu (ev tab rfl) rfl ?_
                refine goG rfl rfl ?_
                refine pu (ev tab rfl) rfl ?_
                refine goG rfl rfl ?_
                iterate 3 refine pu (ev tab rfl) rfl ?_
                apply splitJ; (case hj => rfl); (case hl => rfl)
                · skip
                  refine goG rfl rfl ?_
                  refine pu (ev tab rfl) rfl ?_
                  refine goG rfl rfl ?_
                  iterate 3 refine pu (ev tab rfl) rfl ?_
                  refine WO.nil ?_
                  refine qv1 rfl rfl rfl
                · skip
                  refine skipT rfl rfl rfl rfl ?_
                  refine skipT rfl rfl rfl rfl ?_
                  iterate 2 refine pu (ev tab rfl) rfl ?_
                  refine WO.nil ?_
                  refine qv1 rfl rfl rfl
              · skip
                refine skipT rfl rfl rfl rfl ?_
                refine skipT rfl rfl rfl rfl ?_
                refine skipT rfl rfl rfl rfl ?_
                iterate 2 refine pu (ev tab rfl) rfl ?_
                refine skipT rfl rfl rfl rfl ?_
                refine skipT rfl rfl rfl rfl ?_
                iterate 2 refine pu (ev tab rfl) rfl ?_
                refine WO.nil ?_
                refine qv1 rfl rfl rfl
            refine qs ?_
            refine condK rfl (fun h91 => ?_) (fun h91 => ?_)
            · skip
              have hr : ws.getD 0 (B #[]) = kRoots ∧ 2 ≤ ws.length ∧ cutN t = B #[] := by simp at h91; exact ⟨by simpa using h91.1, by omega, h91.2.2⟩
              have hb : (!(numsA (ws.drop 1)).2) = (!(numsA (ws.drop 1)).2) := rfl
              have hs : stepI (cutE t) ws (cutN t) h = (!(numsA (ws.drop 1)).2, ⟨h.objs, (numsA (ws.drop 1)).1⟩) := by
                unfold stepI
                rw [if_neg hne2, if_neg ho, if_pos hr]
              refine W.seq ?_
              refine W.region ?_
              refine pu (ev tab rfl) rfl ?_
              refine pu (sliceV (fn := sc) (l := ws) (i := 1) (r := ws.drop 1) tab rfl rfl rfl rfl rfl (fun _ => rfl) rfl rfl (by decide) (by omega) (Int.le_refl _) (sliceA ws 1 (by omega))) rfl ?_
              refine pu (puCall rfl rfl rfl (numbers_fn (ws.drop 1) (by simp; omega) (fun w hw => by have := hWz w (List.mem_of_mem_drop hw); omega)) rfl) rfl ?_
              iterate 5 refine pu (ev tab rfl) rfl ?_
              refine WO.nil ?_
              refine qs ?_
              refine W.region ?_
              iterate 4 refine pu (ev tab rfl) rfl ?_
              refine storeR tab rfl rfl rfl rfl rfl rfl rfl rfl ?_
              refine pu (ev tab rfl) rfl ?_
              refine WO.nil ?_
              refine qbN ?_
              first | (refine cutEnd [0, 1, 2] rfl ?_ trivial ?_ trivial rfl) | (refine cutEnd [0, 1, 3] rfl ?_ trivial ?_ trivial rfl)
              · rw [hs]
                repeat' first | exact trivial | refine ⟨rfl, ?_⟩ | refine ⟨congrArg (fun b => some (A.d (D.v (Value.bool b)))) hb, ?_⟩
              · rw [hs]
                repeat' first | exact trivial | refine ⟨rfl, ?_⟩
            · skip
              have hb : true = true := rfl
              have hs : stepI (cutE t) ws (cutN t) h = (true, h) := by
                unfold stepI
                rw [if_neg hne2, if_neg ho, if_neg]
                simp at h91
                rintro ⟨q1, q2, q3⟩
                exact h91 q1 (by omega) q3
              refine W.region ?_
              refine pu (ev tab rfl) rfl ?_
              refine WO.nil ?_
              refine qbN ?_
              first | (refine cutEnd [0, 1, 2] rfl ?_ trivial ?_ trivial rfl) | (refine cutEnd [0, 1, 3] rfl ?_ trivial ?_ trivial rfl)
              · rw [hs]
                repeat' first | exact trivial | refine ⟨rfl, ?_⟩ | refine ⟨congrArg (fun b => some (A.d (D.v (Value.bool b)))) hb, ?_⟩
              · rw [hs]
                repeat' first | exact trivial | refine ⟨rfl, ?_⟩
      refine qs ?_
      refine W.seq ?_
      refine W.seq ?_
      refine W.region ?_
      refine pu (ev tab rfl) rfl ?_
      refine WO.nil ?_
      refine qs ?_
      refine condK rfl (fun h115 => ?_) (fun h115 => ?_)
      · skip
        rw [if_pos h115] at hst
        have hg2 : importH s = (hp0, (i : Int), 10) := by rw [hg, ← hI]; exact hst
        refine W.seq ?_
        refine W.region ?_
        refine pu (build tab rfl rfl rfl rfl) rfl ?_
        refine pu (ev tab rfl) rfl ?_
        refine storeR tab rfl rfl rfl rfl rfl rfl rfl rfl ?_
        iterate 2 refine pu (ev tab rfl) rfl ?_
        refine WO.nil ?_
        refine qs ?_
        try refine nilBox 0 0 rfl rfl rfl ?_
        try refine nilBox 0 1 rfl rfl rfl ?_
        refine W.ret ?_
        refine qsRet ?_
        refine qbRet ?_
        refine qsRet ?_
        refine qlRet ?_
        refine qbRet ?_
        refine qsRet ?_
        refine QV.ret0 tab trivial rfl ?_
        rw [hg2]; rfl
      · skip
        rw [if_neg (by rw [h115]; decide)] at hst
        have hk := stepI_ok h115
        rw [hk.1, if_pos rfl] at hcs
        refine W.skip ?_
        refine qs ?_
        refine W.region ?_
        iterate 2 refine pu (ev tab rfl) rfl ?_
        refine WO.nil ?_
        refine qbN ?_
        refine qs ?_
        refine W.region ?_
        refine pu (ev tab rfl) rfl ?_
        refine pu (puI (ev tab rfl) (y := ((i + 1 : Nat) : Int)) (by rw [wrap64 (by omega)]; rfl)) rfl ?_
        refine pu (ev tab rfl) rfl ?_
        refine WO.nil ?_
        refine W.endR [0, 1, 2] ⟨(cutN t, i + 1, (stepI (cutE t) ws (cutN t) h).2), ?_⟩ ?_ rfl ?_ trivial ?_ trivial rfl
        · exact ⟨⟨hst.symm.trans hI, by omega⟩, by omega, by omega⟩
        · dsimp only; omega
        · repeat' first | exact trivial | refine ⟨rfl, ?_⟩ | refine ⟨step_nat (by assumption) (by assumption), ?_⟩
        · repeat' first | exact trivial | refine ⟨rfl, ?_⟩ | refine ⟨step_nat (by assumption) (by assumption), ?_⟩
    · skip
      have he : t = B #[] := by simpa using h26
      have hf : importH s = finH h := by rw [hg, ← hI, he]; exact imp_empty i h
      refine W.exit ?_
      refine qsExit ?_
      refine qlExit ?_
      refine qbExit ?_
      refine qs ?_
      refine W.seq ?_
      refine W.seq ?_
      refine W.region ?_
      first | refine pu (ev tab rfl) rfl ?_ | refine pu (loadRow tab rfl rfl rfl rfl) rfl ?_ | refine pu (loadBox tab rfl rfl rfl rfl rfl) rfl ?_
      refine pu (puCall rfl rfl rfl (check_fn h) rfl) rfl ?_
      refine pu (ev tab rfl) rfl ?_
      refine WO.nil ?_
      refine qs ?_
      refine W.seq ?_
      refine W.region ?_
      iterate 2 refine pu (ev tab rfl) rfl ?_
      refine WO.nil ?_
      refine qs ?_
      refine condK rfl (fun h122 => ?_) (fun h122 => ?_)
      · skip
        have hg3 : importH s = (hp0, 0, checkH h) := by rw [hf]; exact if_pos (by simpa using h122)
        refine W.seq ?_
        refine W.region ?_
        refine pu (build tab rfl rfl rfl rfl) rfl ?_
        refine pu (ev tab rfl) rfl ?_
        refine storeR tab rfl rfl rfl rfl rfl rfl rfl rfl ?_
        iterate 2 refine pu (ev tab rfl) rfl ?_
        refine WO.nil ?_
        refine qs ?_
        try refine nilBox 0 0 rfl rfl rfl ?_
        try refine nilBox 0 1 rfl rfl rfl ?_
        refine W.ret ?_
        refine qsRet ?_
        refine QV.ret0 tab trivial rfl ?_
        rw [hg3]; rfl
      · skip
        have hg3 : importH s = (h, 0, 0) := by rw [hf]; exact if_neg (by simpa using h122)
        refine W.skip ?_
        refine qs ?_
        refine W.seq ?_
        refine W.region ?_
        first | refine pu (ev tab rfl) rfl ?_ | refine pu (loadRow tab rfl rfl rfl rfl) rfl ?_ | refine pu (loadBox tab rfl rfl rfl rfl rfl) rfl ?_
        refine storeR tab rfl rfl rfl rfl rfl rfl rfl rfl ?_
        iterate 2 refine pu (ev tab rfl) rfl ?_
        refine WO.nil ?_
        refine qs ?_
        try refine nilBox 0 0 rfl rfl rfl ?_
        try refine nilBox 0 1 rfl rfl rfl ?_
        refine W.ret ?_
        refine QV.ret0 tab trivial rfl ?_
        rw [hg3]; rfl
end Go.Proofs.YtpkfchdnpdcenaaDoor
namespace Go.Proofs.YtpkfchdnpdcenaaDoor
open Go.Ab Go.Tb
set_option maxRecDepth 10000
attribute [local irreducible] W WO Pu QS QB QL QF QV QV1 CH QE
end Go.Proofs.YtpkfchdnpdcenaaDoor
namespace Go.Proofs.YtpkfchdnpdcenaaDoor
open Go.Ab Go.Tb
set_option maxRecDepth 10000
attribute [local irreducible] W WO Pu QS QB QL QF QV QV1 CH QE
end Go.Proofs.YtpkfchdnpdcenaaDoor
namespace Go.Proofs.YtpkfchdnpdcenaaDoor
open Go.Ab Go.Tb
set_option maxRecDepth 10000
attribute [local irreducible] W WO Pu QS QB QL QF QV QV1 CH QE
end Go.Proofs.YtpkfchdnpdcenaaDoor
namespace Go.Proofs.YtpkfchdnpdcenaaDoor
open Go.Ab Go.Tb
set_option maxRecDepth 10000
attribute [local irreducible] W WO Pu QS QB QL QF QV QV1 CH QE
theorem few_fn (h : Hp) : Does Tryd.prog 9 [.ag h.c] (.d (.v (.bool (fewH h)))) 0 := by
  refine Does.of_W (n := 43) (ts := [2]) Tryd.func9 (by kernel_rfl) rfl Tryd.ntmps9 Tryd.results9 rfl rfl fun C hC hG => ?_
  refine W.seq ?_
  refine W.region ?_
  refine boxR rfl rfl rfl ?_
  refine pu (ev tab rfl) rfl ?_
  refine WO.nil ?_
  refine qs ?_
  refine W.seq ?_
  refine W.seq ?_
  apply regionB; (case hb => rfl)
  · skip
    refine pu (ev tab rfl) rfl ?_
    first | refine pu (ev tab rfl) rfl ?_ | refine pu (loadRow tab rfl rfl rfl rfl) rfl ?_ | refine pu (loadBox tab rfl rfl rfl rfl rfl) rfl ?_
    iterate 3 refine pu (ev tab rfl) rfl ?_
    apply splitJ; (case hj => rfl); (case hl => rfl)
    · skip
      refine skipT rfl rfl rfl rfl ?_
      refine skipT rfl rfl rfl rfl ?_
      refine skipT rfl rfl rfl rfl ?_
      refine skipT rfl rfl rfl rfl ?_
      refine pu (ev tab rfl) rfl ?_
      refine WO.nil ?_
      refine qv1 rfl rfl rfl
    · skip
      refine goG rfl rfl ?_
      refine pu (ev tab rfl) rfl ?_
      refine goG rfl rfl ?_
      first | refine pu (ev tab rfl) rfl ?_ | refine pu (loadRow tab rfl rfl rfl rfl) rfl ?_ | refine pu (loadBox tab rfl rfl rfl rfl rfl) rfl ?_
      refine goG rfl rfl ?_
      refine pu (ev tab rfl) rfl ?_
      refine goG rfl rfl ?_
      iterate 2 refine pu (ev tab rfl) rfl ?_
      refine WO.nil ?_
      refine qv1 rfl rfl rfl
  refine qs ?_
  refine condK rfl (fun h14 => ?_) (fun h14 => ?_)
  · skip
    have hg : fewH h = false := by unfold fewH; rw [if_pos]; simp at h14; omega
    refine W.seq ?_
    refine W.region ?_
    refine pu (ev tab rfl) rfl ?_
    refine WO.nil ?_
    refine qs ?_
    refine W.ret ?_
    refine qsRet ?_
    refine QF.ret0 trivial rfl ?_
    rw [hg]; rfl
  · skip
    have hl : ¬ (60 < h.objs.length ∨ 60 < h.roots.length) := by simp at h14; omega
    have hg0 : fewH h = fewL h.objs 0 := by unfold fewH; rw [if_neg hl]
    have hlen : h.objs.length ≤ maxLen := by simp only [maxLen]; omega
    refine W.skip ?_
    refine qs ?_
    refine W.seq ?_
    refine W.region ?_
    refine pu (ev tab rfl) rfl ?_
    refine WO.nil ?_
    refine qs ?_
    refine W.seq ?_
    refine W.seq ?_
    refine W.region ?_
    refine pu (ev tab rfl) rfl ?_
    refine WO.nil ?_
    refine qs ?_
    refine W.block ?_
    refine W.loopR (ι := {x : Nat // match x with | k => k ≤ h.objs.length ∧ fewL (h.objs.drop k) (manyW (h.objs.take k)) = fewL h.objs 0})
      (fun x => match x.1 with | k => [(1, .ptr 0 0), (3, .d (.v (.int .i64 (manyW (h.objs.take k))))), (4, .d (.v (.int .i64 ((k : Nat) : Int))))]) []
      (fun x => match x.1 with | k => [(0, h.c.map A.d)]) [] [] 1 (fun x => match x.1 with | k => h.objs.length - k)
      [0] ⟨0, ?_⟩ rfl ?_ trivial ?_ trivial rfl ?_
    · exact ⟨Nat.zero_le _, rfl⟩
    · repeat' first | exact trivial | refine ⟨rfl, ?_⟩ | refine ⟨step_nat (by assumption) (by assumption), ?_⟩
    · repeat' first | exact trivial | refine ⟨rfl, ?_⟩ | refine ⟨step_nat (by assumption) (by assumption), ?_⟩
    rintro ⟨k, hk, hI⟩
    show W _ _ _ _ _ ⟨[(1, .ptr 0 0), (3, .d (.v (.int .i64 (manyW (h.objs.take k))))), (4, .d (.v (.int .i64 ((k : Nat) : Int))))], [(0, h.c.map A.d)], [], 1⟩
    refine W.seq ?_
    refine W.seq ?_
    refine W.region ?_
    iterate 2 refine pu (ev tab rfl) rfl ?_
    first | refine pu (ev tab rfl) rfl ?_ | refine pu (loadRow tab rfl rfl rfl rfl) rfl ?_ | refine pu (loadBox tab rfl rfl rfl rfl rfl) rfl ?_
    iterate 2 refine pu (ev tab rfl) rfl ?_
    refine WO.nil ?_
    refine qs ?_
    refine eachR (l := h.objs) (k := k) rfl (by simp [Ex.kc_len, bytes_len]) hk (fun o hx hd hlt => ?_) (fun he hd => ?_)
    · skip
      rw [hd] at hI
      simp only [fewL] at hI
      rw [← manyW_step hx] at hI
      refine W.skip ?_
      refine qs ?_
      refine W.seq ?_
      refine W.block ?_
      refine W.seq ?_
      refine W.region ?_
      iterate 2 refine pu (ev tab rfl) rfl ?_
      first | refine pu (ev tab rfl) rfl ?_ | refine pu (loadRow tab rfl rfl rfl rfl) rfl ?_ | refine pu (loadBox tab rfl rfl rfl rfl rfl) rfl ?_
      refine pu (ev tab rfl) rfl ?_
      refine pu (indexAddr tab rfl rfl rfl rfl rfl rfl (Int.natCast_nonneg _) (idx_map hx) rfl) rfl ?_
      refine pu (ev tab rfl) rfl ?_
      first | refine pu (ev tab rfl) rfl ?_ | refine pu (loadRow tab rfl rfl rfl rfl) rfl ?_ | refine pu (loadBox tab rfl rfl rfl rfl rfl) rfl ?_
      refine pu (ev tab rfl) rfl ?_
      refine pu (puI (ev tab rfl) (y := manyW (h.objs.take (k + 1))) (by rw [List.length_map, manyW_step hx])) rfl ?_
      refine pu (ev tab rfl) rfl ?_
      refine WO.nil ?_
      refine qs ?_
      refine W.seq ?_
      apply regionB; (case hb => rfl)
      · skip
        refine pu (ev tab rfl) rfl ?_
        first | refine pu (ev tab rfl) rfl ?_ | refine pu (loadRow tab rfl rfl rfl rfl) rfl ?_ | refine pu (loadBox tab rfl rfl rfl rfl rfl) rfl ?_
        refine pu (ev tab rfl) rfl ?_
        refine pu (indexAddr tab rfl rfl rfl rfl rfl rfl (Int.natCast_nonneg _) (idx_map hx) rfl) rfl ?_
        refine pu (ev tab rfl) rfl ?_
        first | refine pu (ev tab rfl) rfl ?_ | refine pu (loadRow tab rfl rfl rfl rfl) rfl ?_ | refine pu (loadBox tab rfl rfl rfl rfl rfl) rfl ?_
        iterate 3 refine pu (ev tab rfl) rfl ?_
        apply splitJ; (case hj => rfl); (case hl => rfl)
        · skip
          refine skipT rfl rfl rfl rfl ?_
          refine skipT rfl rfl rfl rfl ?_
          refine pu (ev tab rfl) rfl ?_
          refine WO.nil ?_
          refine qv1 rfl rfl rfl
        · skip
          refine goG rfl rfl ?_
          refine pu (ev tab rfl) rfl ?_
          refine goG rfl rfl ?_
          iterate 2 refine pu (ev tab rfl) rfl ?_
          refine WO.nil ?_
          refine qv1 rfl rfl rfl
      refine qs ?_
      refine condK rfl (fun h42 => ?_) (fun h42 => ?_)
      · skip
        have hc : 100 < o.type.size ∨ 300 < manyW (h.objs.take (k + 1)) := by simp at h42; omega
        rw [if_pos hc] at hI
        have hg : fewH h = false := by rw [hg0, ← hI]
        refine W.seq ?_
        refine W.region ?_
        refine pu (ev tab rfl) rfl ?_
        refine WO.nil ?_
        refine qs ?_
        refine W.ret ?_
        refine qbRet ?_
        refine qsRet ?_
        refine qlRet ?_
        refine qbRet ?_
        refine qsRet ?_
        refine QF.ret0 trivial rfl ?_
        rw [hg]; rfl
      · skip
        have hc : ¬ (100 < o.type.size ∨ 300 < manyW (h.objs.take (k + 1))) := by simp at h42; omega
        rw [if_neg hc] at hI
        refine W.skip ?_
        refine qbN ?_
        refine qs ?_
        refine W.region ?_
        iterate 3 refine pu (ev tab rfl) rfl ?_
        refine WO.nil ?_
        refine W.endR [0] ⟨k + 1, ?_⟩ ?_ rfl ?_ trivial ?_ trivial rfl
        · exact ⟨hlt, hI⟩
        · dsimp only; omega
        · repeat' first | exact trivial | refine ⟨rfl, ?_⟩ | refine ⟨step_nat (by assumption) (by assumption), ?_⟩
        · repeat' first | exact trivial | refine ⟨rfl, ?_⟩ | refine ⟨step_nat (by assumption) (by assumption), ?_⟩
    · skip
      rw [hd] at hI
      have hg : fewH h = true := by rw [hg0, ← hI]; rfl
      refine W.exit ?_
      refine qsExit ?_
      refine qlExit ?_
      refine qbExit ?_
      refine qs ?_
      refine W.seq ?_
      refine W.region ?_
      refine pu (ev tab rfl) rfl ?_
      refine WO.nil ?_
      refine qs ?_
      refine W.ret ?_
      refine QF.ret0 trivial rfl ?_
      rw [hg]; rfl
end Go.Proofs.YtpkfchdnpdcenaaDoor
namespace Go.Proofs.YtpkfchdnpdcenaaDoor
open Go.Ab Go.Tb
set_option maxRecDepth 10000
attribute [local irreducible] W WO Pu QS QB QL QF QV QV1 CH QE
end Go.Proofs.YtpkfchdnpdcenaaDoor
namespace Go.Proofs.YtpkfchdnpdcenaaDoor
open Go.Ab Go.Tb
set_option maxRecDepth 10000
attribute [local irreducible] W WO Pu QS QB QL QF QV QV1 CH QE
end Go.Proofs.YtpkfchdnpdcenaaDoor
namespace Go.Proofs.YtpkfchdnpdcenaaDoor
open Go.Ab Go.Tb
set_option maxRecDepth 10000
attribute [local irreducible] W WO Pu QS QB QL QF QV QV1 CH QE
abbrev heapT : ByteArray := B #[111, 98, 106, 32, 49, 32, 49, 48, 32, 110, 111, 100, 101, 32, 50, 32, 53, 10, 111, 98, 106, 32, 50, 32, 48, 32, 108, 101, 97, 102, 10, 111, 98, 106, 32, 53, 32, 55, 32, 108, 101, 97, 102, 10, 114, 111, 111, 116, 115, 32, 49, 10]
abbrev heapX : Hp := ⟨[⟨1, 10, B #[110, 111, 100, 101], [2, 5]⟩, ⟨2, 0, B #[108, 101, 97, 102], []⟩, ⟨5, 7, B #[108, 101, 97, 102], []⟩], [1]⟩
theorem awake25_fn : Does Tryd.prog 8 [] (.d (.v (.bool true))) 0 := by
  have p1 : importH heapT = (heapX, 0, 0) := by decide +kernel
  have p2 : importH (B #[111, 98, 106, 32, 49, 32, 50, 32, 97]) = (hp0, 1, 10) := by decide +kernel
  have p3 : importH (B #[114, 111, 111, 116, 115, 32, 49, 10]) = (hp0, 0, 5) := by decide +kernel
  have t1 : printH heapX = (heapT, 0) := by decide +kernel
  have f1 : findA heapX.objs 5 = 2 := by decide
  have f2 : hasI heapX.objs 5 = true := by decide
  have e1 := import_fn heapT
  have e2 := import_fn (B #[111, 98, 106, 32, 49, 32, 50, 32, 97])
  have e3 := import_fn (B #[114, 111, 111, 116, 115, 32, 49, 10])
  have e4 := print_fn heapX
  have e5 := find_fn heapX 5
  rw [p1] at e1
  rw [p2] at e2
  rw [p3] at e3
  rw [t1] at e4
  rw [f1, f2] at e5
  refine Does.of_W (n := 76) (ts := [0]) Tryd.func8 (by kernel_rfl) rfl Tryd.ntmps8 Tryd.results8 rfl rfl fun C hC hG => ?_
  refine W.seq ?_
  refine W.region ?_
  refine pu (ev tab rfl) rfl ?_
  refine WO.nil ?_
  refine qs ?_
  refine W.seq ?_
  refine W.region ?_
  refine pu (puCall rfl rfl rfl e1 rfl) rfl ?_
  iterate 4 refine pu (ev tab rfl) rfl ?_
  refine allocR tab rfl rfl rfl ?_
  refine storeR tab rfl rfl rfl rfl rfl rfl rfl rfl ?_
  iterate 2 refine pu (ev tab rfl) rfl ?_
  refine WO.nil ?_
  refine qs ?_
  refine W.seq ?_
  refine W.region ?_
  first | refine pu (ev tab rfl) rfl ?_ | refine pu (loadRow tab rfl rfl rfl rfl) rfl ?_ | refine pu (loadBox tab rfl rfl rfl rfl rfl) rfl ?_
  refine pu (puCall rfl rfl rfl e4 rfl) rfl ?_
  iterate 5 refine pu (ev tab rfl) rfl ?_
  refine WO.nil ?_
  refine qs ?_
  refine W.seq ?_
  refine W.region ?_
  first | refine pu (ev tab rfl) rfl ?_ | refine pu (loadRow tab rfl rfl rfl rfl) rfl ?_ | refine pu (loadBox tab rfl rfl rfl rfl rfl) rfl ?_
  refine pu (puCall rfl rfl rfl e5 rfl) rfl ?_
  iterate 5 refine pu (ev tab rfl) rfl ?_
  refine WO.nil ?_
  refine qs ?_
  refine W.seq ?_
  refine W.region ?_
  refine pu (puCall rfl rfl rfl e2 rfl) rfl ?_
  iterate 4 refine pu (ev tab rfl) rfl ?_
  refine allocR tab rfl rfl rfl ?_
  refine storeR tab rfl rfl rfl rfl rfl rfl rfl rfl ?_
  iterate 2 refine pu (ev tab rfl) rfl ?_
  refine WO.nil ?_
  refine qs ?_
  refine W.seq ?_
  refine W.region ?_
  refine pu (puCall rfl rfl rfl e3 rfl) rfl ?_
  iterate 4 refine pu (ev tab rfl) rfl ?_
  refine allocR tab rfl rfl rfl ?_
  refine storeR tab rfl rfl rfl rfl rfl rfl rfl rfl ?_
  iterate 2 refine pu (ev tab rfl) rfl ?_
  refine WO.nil ?_
  refine qs ?_
  refine W.seq ?_
  apply regionB; (case hb => rfl)
  · skip
    iterate 3 refine pu (ev tab rfl) rfl ?_
    apply splitJ; (case hj => rfl); (case hl => rfl)
    · skip
      refine goG rfl rfl ?_
      refine pu (ev tab rfl) rfl ?_
      refine goG rfl rfl ?_
      iterate 3 refine pu (ev tab rfl) rfl ?_
      apply splitJ; (case hj => rfl); (case hl => rfl)
      · skip
        refine goG rfl rfl ?_
        refine pu (ev tab rfl) rfl ?_
        refine goG rfl rfl ?_
        iterate 3 refine pu (ev tab rfl) rfl ?_
        apply splitJ; (case hj => rfl); (case hl => rfl)
        · skip
          refine goG rfl rfl ?_
          refine pu (ev tab rfl) rfl ?_
          refine goG rfl rfl ?_
          iterate 3 refine pu (ev tab rfl) rfl ?_
          apply splitJ; (case hj => rfl); (case hl => rfl)
          · skip
            refine goG rfl rfl ?_
            refine pu (ev tab rfl) rfl ?_
            refine goG rfl rfl ?_
            iterate 3 refine pu (ev tab rfl) rfl ?_
            apply splitJ; (case hj => rfl); (case hl => rfl)
            · skip
              refine goG rfl rfl ?_
              iterate 3 refine pu (ev tab rfl) rfl ?_
              apply splitJ; (case hj => rfl); (case hl => rfl)
              · skip
                refine goG rfl rfl ?_
                refine pu (ev tab rfl) rfl ?_
                refine goG rfl rfl ?_
                iterate 3 refine pu (ev tab rfl) rfl ?_
                apply splitJ; (case hj => rfl); (case hl => rfl)
                · skip
                  refine goG rfl rfl ?_
                  refine pu (ev tab rfl) rfl ?_
                  refine goG rfl rfl ?_
                  iterate 3 refine pu (ev tab rfl) rfl ?_
                  apply splitJ; (case hj => rfl); (case hl => rfl)
                  · skip
                    refine goG rfl rfl ?_
                    refine pu (ev tab rfl) rfl ?_
                    refine goG rfl rfl ?_
                    iterate 3 refine pu (ev tab rfl) rfl ?_
                    apply splitJ; (case hj => rfl); (case hl => rfl)
                    · skip
                      refine goG rfl rfl ?_
                      refine pu (ev tab rfl) rfl ?_
                      refine goG rfl rfl ?_
                      iterate 3 refine pu (ev tab rfl) rfl ?_
                      refine WO.nil ?_
                      refine qv1 rfl rfl rfl
                    · skip
                      refine skipT rfl rfl rfl rfl ?_
                      refine skipT rfl rfl rfl rfl ?_
                      iterate 2 refine pu (ev tab rfl) rfl ?_
                      refine WO.nil ?_
                      refine qv1 rfl rfl rfl
                  · skip
                    refine skipT rfl rfl rfl rfl ?_
                    refine skipT rfl rfl rfl rfl ?_
                    iterate 2 refine pu (ev tab rfl) rfl ?_
                    refine skipT rfl rfl rfl rfl ?_
                    refine skipT rfl rfl rfl rfl ?_
                    iterate 2 refine pu (ev tab rfl) rfl ?_
                    refine WO.nil ?_
                    refine qv1 rfl rfl rfl
                · skip
                  refine skipT rfl rfl rfl rfl ?_
                  refine skipT rfl rfl rfl rfl ?_
                  iterate 2 refine pu (ev tab rfl) rfl ?_
                  refine skipT rfl rfl rfl rfl ?_
                  refine skipT rfl rfl rfl rfl ?_
                  iterate 2 refine pu (ev tab rfl) rfl ?_
                  refine skipT rfl rfl rfl rfl ?_
                  refine skipT rfl rfl rfl rfl ?_
                  iterate 2 refine pu (ev tab rfl) rfl ?_
                  refine WO.nil ?_
                  refine qv1 rfl rfl rfl
              · skip
                refine skipT rfl rfl rfl rfl ?_
                refine skipT rfl rfl rfl rfl ?_
                iterate 2 refine pu (ev tab rfl) rfl ?_
                refine skipT rfl rfl rfl rfl ?_
                refine skipT rfl rfl rfl rfl ?_
                iterate 2 refine pu (ev tab rfl) rfl ?_
                refine skipT rfl rfl rfl rfl ?_
                refine skipT rfl rfl rfl rfl ?_
                iterate 2 refine pu (ev tab rfl) rfl ?_
                refine skipT rfl rfl rfl rfl ?_
                refine skipT rfl rfl rfl rfl ?_
                iterate 2 refine pu (ev tab rfl) rfl ?_
                refine WO.nil ?_
                refine qv1 rfl rfl rfl
            · skip
              refine skipT rfl rfl rfl rfl ?_
              iterate 2 refine pu (ev tab rfl) rfl ?_
              refine skipT rfl rfl rfl rfl ?_
              refine skipT rfl rfl rfl rfl ?_
              iterate 2 refine pu (ev tab rfl) rfl ?_
              refine skipT rfl rfl rfl rfl ?_
              refine skipT rfl rfl rfl rfl ?_
              iterate 2 refine pu (ev tab rfl) rfl ?_
              refine skipT rfl rfl rfl rfl ?_
              refine skipT rfl rfl rfl rfl ?_
              iterate 2 refine pu (ev tab rfl) rfl ?_
              refine skipT rfl rfl rfl rfl ?_
              refine skipT rfl rfl rfl rfl ?_
              iterate 2 refine pu (ev tab rfl) rfl ?_
              refine WO.nil ?_
              refine qv1 rfl rfl rfl
          · skip
            refine skipT rfl rfl rfl rfl ?_
            refine skipT rfl rfl rfl rfl ?_
            iterate 2 refine pu (ev tab rfl) rfl ?_
            refine skipT rfl rfl rfl rfl ?_
            iterate 2 refine pu (ev tab rfl) rfl ?_
            refine skipT rfl rfl rfl rfl ?_
            refine skipT rfl rfl rfl rfl ?_
            iterate 2 refine pu (ev tab rfl) rfl ?_
            refine skipT rfl rfl rfl rfl ?_
            refine skipT rfl rfl rfl rfl ?_
            iterate 2 refine pu (ev tab rfl) rfl ?_
            refine skipT rfl rfl rfl rfl ?_
            refine skipT rfl rfl rfl rfl ?_
            iterate 2 refine pu (ev tab rfl) rfl ?_
            refine skipT rfl rfl rfl rfl ?_
            refine skipT rfl rfl rfl rfl ?_
            iterate 2 refine pu (ev tab rfl) rfl ?_
            refine WO.nil ?_
            refine qv1 rfl rfl rfl
        · skip
          refine skipT rfl rfl rfl rfl ?_
          refine skipT rfl rfl rfl rfl ?_
          iterate 2 refine pu (ev tab rfl) rfl ?_
          refine skipT rfl rfl rfl rfl ?_
          refine skipT rfl rfl rfl rfl ?_
          iterate 2 refine pu (ev tab rfl) rfl ?_
          refine skipT rfl rfl rfl rfl ?_
          iterate 2 refine pu (ev tab rfl) rfl ?_
          refine skipT rfl rfl rfl rfl ?_
          refine skipT rfl rfl rfl rfl ?_
          iterate 2 refine pu (ev tab rfl) rfl ?_
          refine skipT rfl rfl rfl rfl ?_
          refine skipT rfl rfl rfl rfl ?_
          iterate 2 refine pu (ev tab rfl) rfl ?_
          refine skipT rfl rfl rfl rfl ?_
          refine skipT rfl rfl rfl rfl ?_
          iterate 2 refine pu (ev tab rfl) rfl ?_
          refine skipT rfl rfl rfl rfl ?_
          refine skipT rfl rfl rfl rfl ?_
          iterate 2 refine pu (ev tab rfl) rfl ?_
          refine WO.nil ?_
          refine qv1 rfl rfl rfl
      · skip
        refine skipT rfl rfl rfl rfl ?_
        refine skipT rfl rfl rfl rfl ?_
        iterate 2 refine pu (ev tab rfl) rfl ?_
        refine skipT rfl rfl rfl rfl ?_
        refine skipT rfl rfl rfl rfl ?_
        iterate 2 refine pu (ev tab rfl) rfl ?_
        refine skipT rfl rfl rfl rfl ?_
        refine skipT rfl rfl rfl rfl ?_
        iterate 2 refine pu (ev tab rfl) rfl ?_
        refine skipT rfl rfl rfl rfl ?_
        iterate 2 refine pu (ev tab rfl) rfl ?_
        refine skipT rfl rfl rfl rfl ?_
        refine skipT rfl rfl rfl rfl ?_
        iterate 2 refine pu (ev tab rfl) rfl ?_
        refine skipT rfl rfl rfl rfl ?_
        refine skipT rfl rfl rfl rfl ?_
        iterate 2 refine pu (ev tab rfl) rfl ?_
        refine skipT rfl rfl rfl rfl ?_
        refine skipT rfl rfl rfl rfl ?_
        iterate 2 refine pu (ev tab rfl) rfl ?_
        refine skipT rfl rfl rfl rfl ?_
        refine skipT rfl rfl rfl rfl ?_
        iterate 2 refine pu (ev tab rfl) rfl ?_
        refine WO.nil ?_
        refine qv1 rfl rfl rfl
    · skip
      refine skipT rfl rfl rfl rfl ?_
      refine skipT rfl rfl rfl rfl ?_
      iterate 2 refine pu (ev tab rfl) rfl ?_
      refine skipT rfl rfl rfl rfl ?_
      refine skipT rfl rfl rfl rfl ?_
      iterate 2 refine pu (ev tab rfl) rfl ?_
      refine skipT rfl rfl rfl rfl ?_
      refine skipT rfl rfl rfl rfl ?_
      iterate 2 refine pu (ev tab rfl) rfl ?_
      refine skipT rfl rfl rfl rfl ?_
      refine skipT rfl rfl rfl rfl ?_
      iterate 2 refine pu (ev tab rfl) rfl ?_
      refine skipT rfl rfl rfl rfl ?_
      iterate 2 refine pu (ev tab rfl) rfl ?_
      refine skipT rfl rfl rfl rfl ?_
      refine skipT rfl rfl rfl rfl ?_
      iterate 2 refine pu (ev tab rfl) rfl ?_
      refine skipT rfl rfl rfl rfl ?_
      refine skipT rfl rfl rfl rfl ?_
      iterate 2 refine pu (ev tab rfl) rfl ?_
      refine skipT rfl rfl rfl rfl ?_
      refine skipT rfl rfl rfl rfl ?_
      iterate 2 refine pu (ev tab rfl) rfl ?_
      refine skipT rfl rfl rfl rfl ?_
      refine skipT rfl rfl rfl rfl ?_
      iterate 2 refine pu (ev tab rfl) rfl ?_
      refine WO.nil ?_
      refine qv1 rfl rfl rfl
  refine qs ?_
  refine W.ret ?_
  refine QF.ret0 trivial rfl ?_
  refine congrArg (fun b => A.d (D.v (Value.bool b))) (?_ : _ = true)
  decide +kernel
end Go.Proofs.YtpkfchdnpdcenaaDoor
namespace Go.Proofs.YtpkfchdnpdcenaaDoor
open Go.Ab Go.Tb
set_option maxRecDepth 10000
attribute [local irreducible] W WO Pu QS QB QL QF QV QV1 CH QE
end Go.Proofs.YtpkfchdnpdcenaaDoor
namespace Go.Proofs.YtpkfchdnpdcenaaDoor
open Go.Ab Go.Tb
set_option maxRecDepth 10000
attribute [local irreducible] W WO Pu QS QB QL QF QV QV1 CH QE
theorem oc_len (l : List Ob) : ∀ (x : List D), x ∈ l.map Ob.c → x.length = 4 := by
  intro x hx
  obtain ⟨y, _, rfl⟩ := List.mem_map.1 hx
  rfl
theorem okc_i64' {z : Int} (h : -9223372036854775808 ≤ z ∧ z ≤ 9223372036854775807) : okc (.int .i64 z) = true := by
  simp [okc, IntKind.min, IntKind.max, IntKind.signed, IntKind.bits]; omega
theorem ref_set {l : List Ob} {i : Nat} {o : Ob} {id : Int} : (l.map Ob.c).set i (putD o.c 3 [.sl ((o.refs ++ [id]).map ic)]) = (withRef l i o id).map Ob.c := by
  unfold withRef
  rw [List.map_set]
  rfl
theorem misses_fn (h : Hp) (id m : Int) (hu : okc (.int .u8 m) = true) : Does Tryd.prog 7 [.ag h.c, .d (.v (.int .i64 id)), .d (.v (.int .u8 m))] (.d (.v (.bool true))) 0 := by
  obtain ⟨h0, h1⟩ : 0 ≤ m ∧ m ≤ 255 := by simp [okc, IntKind.min, IntKind.max, IntKind.signed, IntKind.bits] at hu; omega
  refine Does.of_W (n := 79) (ts := [6]) Tryd.func7 (by kernel_rfl) rfl Tryd.ntmps7 Tryd.results7 rfl rfl fun C hC hG => ?_
  refine W.seq ?_
  refine W.region ?_
  refine boxR rfl rfl rfl ?_
  refine pu (ev tab rfl) rfl ?_
  refine WO.nil ?_
  refine qs ?_
  refine W.seq ?_
  refine W.seq ?_
  apply regionB; (case hb => rfl)
  · skip
    refine pu (puCall rfl rfl rfl (awake25_fn ..) rfl) rfl ?_
    iterate 2 refine pu (ev tab rfl) rfl ?_
    apply splitJ; (case hj => rfl); (case hl => rfl)
    · skip
      refine skipT rfl rfl rfl rfl ?_
      refine skipT rfl rfl rfl rfl ?_
      refine skipT rfl rfl rfl rfl ?_
      iterate 2 refine pu (ev tab rfl) rfl ?_
      refine skipT rfl rfl rfl rfl ?_
      refine skipT rfl rfl rfl rfl ?_
      refine skipT rfl rfl rfl rfl ?_
      refine pu (ev tab rfl) rfl ?_
      refine WO.nil ?_
      refine qv1 rfl rfl rfl
    · skip
      refine goG rfl rfl ?_
      first | refine pu (ev tab rfl) rfl ?_ | refine pu (loadRow tab rfl rfl rfl rfl) rfl ?_ | refine pu (loadBox tab rfl rfl rfl rfl rfl) rfl ?_
      refine goG rfl rfl ?_
      refine pu (puCall rfl rfl rfl (few_fn h) rfl) rfl ?_
      refine goG rfl rfl ?_
      iterate 3 refine pu (ev tab rfl) rfl ?_
      apply splitJ; (case hj => rfl); (case hl => rfl)
      · skip
        refine skipT rfl rfl rfl rfl ?_
        refine skipT rfl rfl rfl rfl ?_
        refine skipT rfl rfl rfl rfl ?_
        refine pu (ev tab rfl) rfl ?_
        refine WO.nil ?_
        refine qv1 rfl rfl rfl
      · skip
        refine goG rfl rfl ?_
        first | refine pu (ev tab rfl) rfl ?_ | refine pu (loadRow tab rfl rfl rfl rfl) rfl ?_ | refine pu (loadBox tab rfl rfl rfl rfl rfl) rfl ?_
        refine goG rfl rfl ?_
        refine pu (puCall rfl rfl rfl (check_fn h) rfl) rfl ?_
        refine goG rfl rfl ?_
        iterate 2 refine pu (ev tab rfl) rfl ?_
        refine WO.nil ?_
        refine qv1 rfl rfl rfl
  refine qs ?_
  refine condK rfl (fun h23 => ?_) (fun h23 => ?_)
  · skip
    refine W.seq ?_
    refine W.region ?_
    refine pu (puCall rfl rfl rfl (awake25_fn ..) rfl) rfl ?_
    refine pu (ev tab rfl) rfl ?_
    refine WO.nil ?_
    refine qs ?_
    refine W.ret ?_
    refine qsRet ?_
    refine QF.ret0 trivial rfl ?_
    first | rfl | (simp [norm, oneA, hmr]; done)
  · skip
    obtain ⟨hf, hc⟩ : fewH h = true ∧ checkH h = 0 := by simpa using h23
    have g := goodH.1 hc
    have hfl := few_len hf
    refine W.skip ?_
    refine qs ?_
    refine W.seq ?_
    refine W.region ?_
    first | refine pu (ev tab rfl) rfl ?_ | refine pu (loadRow tab rfl rfl rfl rfl) rfl ?_ | refine pu (loadBox tab rfl rfl rfl rfl rfl) rfl ?_
    refine pu (ev tab rfl) rfl ?_
    refine pu (puCall rfl rfl rfl (find_fn h id) rfl) rfl ?_
    iterate 5 refine pu (ev tab rfl) rfl ?_
    refine WO.nil ?_
    refine qs ?_
    refine W.seq ?_
    refine W.seq ?_
    refine W.region ?_
    refine pu (ev tab rfl) rfl ?_
    refine WO.nil ?_
    refine qs ?_
    refine condK rfl (fun h31 => ?_) (fun h31 => ?_)
    · skip
      refine W.seq ?_
      refine W.region ?_
      refine pu (ev tab rfl) rfl ?_
      refine WO.nil ?_
      refine qs ?_
      refine W.ret ?_
      refine qsRet ?_
      refine QF.ret0 trivial rfl ?_
      first | rfl | (simp [norm, oneA, hmr]; done)
    · skip
      have hid : hasI h.objs id = false := by simpa using h31
      have hm := miss_roots g hid (by omega)
      refine W.skip ?_
      refine qs ?_
      refine W.seq ?_
      refine W.region ?_
      first | refine pu (ev tab rfl) rfl ?_ | refine pu (loadRow tab rfl rfl rfl rfl) rfl ?_ | refine pu (loadBox tab rfl rfl rfl rfl rfl) rfl ?_
      refine allocR tab rfl rfl rfl ?_
      refine storeR tab rfl rfl rfl rfl rfl rfl rfl rfl ?_
      refine WO.nil ?_
      refine qs ?_
      refine W.seq ?_
      refine W.region ?_
      refine buildO tab rfl rfl rfl rfl rfl rfl rfl rfl rfl ?_
      refine pu (ev tab rfl) rfl ?_
      first | refine pu (ev tab rfl) rfl ?_ | refine pu (loadRow tab rfl rfl rfl rfl) rfl ?_ | refine pu (loadBox tab rfl rfl rfl rfl rfl) rfl ?_
      refine appendMs (fn := ic) (l := []) (l2 := h.roots) tab rfl rfl rfl rfl rfl rfl rfl rfl rfl rfl (fun _ => rfl) (by show (0 + h.roots.length) * 8 ≤ _; omega) ?_
      refine pu (ev tab rfl) rfl ?_
      refine pu (buildV tab rfl rfl rfl rfl rfl rfl rfl rfl rfl) rfl ?_
      refine appendM (fn := ic) (l := h.roots) (a := id) tab rfl rfl rfl rfl rfl rfl rfl rfl rfl rfl (fun _ => rfl) (by show (h.roots.length + 1) * 8 ≤ _; omega) ?_
      refine pu (ev tab rfl) rfl ?_
      refine storeR tab rfl rfl rfl rfl rfl rfl rfl rfl ?_
      refine WO.nil ?_
      refine qs ?_
      refine W.seq ?_
      refine W.seq ?_
      refine W.region ?_
      first | refine pu (ev tab rfl) rfl ?_ | refine pu (loadRow tab rfl rfl rfl rfl) rfl ?_ | refine pu (loadBox tab rfl rfl rfl rfl rfl) rfl ?_
      refine pu (puCall rfl rfl rfl (check_fn ⟨h.objs, h.roots ++ [id]⟩) rfl) rfl ?_
      refine pu (ev tab rfl) rfl ?_
      refine WO.nil ?_
      refine qs ?_
      refine condK rfl (fun h43 => ?_) (fun h43 => ?_)
      · skip
        exfalso
        simp [hm] at h43
      · skip
        refine W.skip ?_
        refine qs ?_
        refine W.seq ?_
        refine W.seq ?_
        refine W.region ?_
        refine pu (ev tab rfl) rfl ?_
        first | refine pu (ev tab rfl) rfl ?_ | refine pu (loadRow tab rfl rfl rfl rfl) rfl ?_ | refine pu (loadBox tab rfl rfl rfl rfl rfl) rfl ?_
        iterate 2 refine pu (ev tab rfl) rfl ?_
        refine WO.nil ?_
        refine qs ?_
        refine condK rfl (fun h47 => ?_) (fun h47 => ?_)
        · skip
          refine W.seq ?_
          refine W.region ?_
          refine pu (ev tab rfl) rfl ?_
          refine WO.nil ?_
          refine qs ?_
          refine W.ret ?_
          refine qsRet ?_
          refine QF.ret0 trivial rfl ?_
          first | rfl | (simp [norm, oneA, hmr]; done)
        · skip
          have hpos : 0 < h.objs.length := by
            rcases Nat.eq_zero_or_pos h.objs.length with q | q
            · exfalso; simp [q] at h47
            · exact q
          obtain ⟨j, hj⟩ : ∃ j : Nat, m.tmod (h.objs.length : Int) = (j : Int) := ⟨(m.tmod (h.objs.length : Int)).toNat, by have := Int.tmod_nonneg (h.objs.length : Int) h0; omega⟩
          have hjl : j < h.objs.length := by have := Int.tmod_lt_of_pos m (show (0 : Int) < (h.objs.length : Int) by omega); omega
          obtain ⟨o, ho⟩ : ∃ o, h.objs[j]? = some o := ⟨h.objs[j], by simp [hjl]⟩
          have hrf := g.refsLen (List.mem_of_getElem? ho)
          have hoc : (h.objs.map Ob.c)[((j : Nat) : Int).toNat]? = some o.c := idx_map ho
          have hlen : (h.objs.map Ob.c).length = h.objs.length := List.length_map _
          have hmr := miss_refs g hf hid ho
          refine W.skip ?_
          refine qs ?_
          refine W.seq ?_
          refine W.region ?_
          refine pu (ev tab rfl) rfl ?_
          refine pu (puI (ev tab rfl) (wrap64 (by omega))) rfl ?_
          refine pu (ev tab rfl) rfl ?_
          first | refine pu (ev tab rfl) rfl ?_ | refine pu (loadRow tab rfl rfl rfl rfl) rfl ?_ | refine pu (loadBox tab rfl rfl rfl rfl rfl) rfl ?_
          refine pu (ev tab rfl) rfl ?_
          refine pu (puI (remR rfl rfl (by omega) (okc_i64' (by rw [hlen, hj]; omega))) (y := (j : Int)) (by rw [hlen]; exact hj)) rfl ?_
          refine pu (ev tab rfl) rfl ?_
          refine WO.nil ?_
          refine qs ?_
          refine W.seq ?_
          refine W.region ?_
          first | refine pu (ev tab rfl) rfl ?_ | refine pu (loadRow tab rfl rfl rfl rfl) rfl ?_ | refine pu (loadBox tab rfl rfl rfl rfl rfl) rfl ?_
          refine allocR tab rfl rfl rfl ?_
          refine storeR tab rfl rfl rfl rfl rfl rfl rfl rfl ?_
          refine WO.nil ?_
          refine qs ?_
          refine W.seq ?_
          refine W.region ?_
          refine buildX (es := []) tab rfl rfl rfl rfl rfl rfl rfl (fun x hx => nomatch hx) rfl ?_
          refine pu (ev tab rfl) rfl ?_
          first | refine pu (ev tab rfl) rfl ?_ | refine pu (loadRow tab rfl rfl rfl rfl) rfl ?_ | refine pu (loadBox tab rfl rfl rfl rfl rfl) rfl ?_
          refine appendXR (es2 := h.objs.map Ob.c) tab rfl rfl rfl rfl rfl rfl rfl rfl rfl rfl (List.nil_append _) (by rw [List.nil_append]; exact oc_len _) (by show (0 + (h.objs.map Ob.c).length) * 56 ≤ _; rw [hlen]; omega) rfl ?_
          refine pu (ev tab rfl) rfl ?_
          refine storeR tab rfl rfl rfl rfl rfl rfl rfl rfl ?_
          refine WO.nil ?_
          refine qs ?_
          refine W.seq ?_
          refine' W.regionL tab [_, _, _] [[8, 7, 4], [9, 7, 4], [10, 7, 4]] [9, 10, 11] [3, 10, 13] 14 (by kernel_rfl) (by kernel_rfl) rfl rfl ?hL_1
          case' hL_1 => skip
          refine' cdPu' (ev tab rfl) ?p_2 rfl rfl rfl (by kernel_rfl) rfl ?h_2
          case' h_2 => skip
          first | (refine' cdPu' (ev tab rfl) ?p_3 rfl rfl rfl (by kernel_rfl) rfl ?h_3) | (refine' cdPu' (loadRow tab rfl rfl rfl rfl) ?p_3 rfl rfl rfl (by kernel_rfl) rfl ?h_3) | (refine' cdPu' (loadBox tab rfl rfl rfl rfl rfl) ?p_3 rfl rfl rfl (by kernel_rfl) rfl ?h_3)
          case' h_3 => skip
          refine' cdPu' (ev tab rfl) ?p_4 rfl rfl rfl (by kernel_rfl) rfl ?h_4
          case' h_4 => skip
          refine' cdX ?x_5 rfl rfl rfl (by kernel_rfl) (fun h => (alwNo h (by kernel_rfl)).elim) rfl ?h_5
          case x_5 =>
            intro b hb g; cases b
            · exact (alwNo hb (by kernel_rfl)).elim
            · skip
              refine buildO tab rfl rfl rfl rfl rfl rfl rfl rfl rfl ?_
              refine WO.nil ?_
              refine' stE1 rfl ?_ ?_ ?_ ?_
              all_goals try exact rfl
          case' h_5 => skip
          refine' cdPu' (ev tab rfl) ?p_6 rfl rfl rfl (by kernel_rfl) rfl ?h_6
          case' h_6 => skip
          first | (refine' cdPu' (ev tab rfl) ?p_7 rfl rfl rfl (by kernel_rfl) rfl ?h_7) | (refine' cdPu' (loadRow tab rfl rfl rfl rfl) ?p_7 rfl rfl rfl (by kernel_rfl) rfl ?h_7) | (refine' cdPu' (loadBox tab rfl rfl rfl rfl rfl) ?p_7 rfl rfl rfl (by kernel_rfl) rfl ?h_7)
          case' h_7 => skip
          refine' cdPu' (ev tab rfl) ?p_8 rfl rfl rfl (by kernel_rfl) rfl ?h_8
          case' h_8 => skip
          refine' cdPu' (indexAddr tab rfl rfl rfl rfl rfl rfl (Int.natCast_nonneg _) hoc rfl) ?p_9 rfl rfl rfl (by kernel_rfl) rfl ?h_9
          case' h_9 => skip
          refine' cdPu' (ev tab rfl) ?p_10 rfl rfl rfl (by kernel_rfl) rfl ?h_10
          case' h_10 => skip
          first | (refine' cdPu' (ev tab rfl) ?p_11 rfl rfl rfl (by kernel_rfl) rfl ?h_11) | (refine' cdPu' (loadRow tab rfl rfl rfl rfl) ?p_11 rfl rfl rfl (by kernel_rfl) rfl ?h_11) | (refine' cdPu' (loadBox tab rfl rfl rfl rfl rfl) ?p_11 rfl rfl rfl (by kernel_rfl) rfl ?h_11)
          case' h_11 => skip
          refine' cdX ?x_12 rfl rfl rfl (by kernel_rfl) (fun h => (alwNo h (by kernel_rfl)).elim) rfl ?h_12
          case x_12 =>
            intro b hb g; cases b
            · exact (alwNo hb (by kernel_rfl)).elim
            · skip
              refine appendMs (fn := ic) (l := []) (l2 := o.refs) tab rfl rfl rfl rfl rfl rfl rfl rfl rfl rfl (fun _ => rfl) (by show (0 + o.refs.length) * 8 ≤ _; omega) ?_
              refine WO.nil ?_
              refine' stE1 rfl ?_ ?_ ?_ ?_
              all_goals try exact rfl
          case' h_12 => skip
          refine' cdPu' (ev tab rfl) ?p_13 rfl rfl rfl (by kernel_rfl) rfl ?h_13
          case' h_13 => skip
          refine' cdPu' (buildV tab rfl rfl rfl rfl rfl rfl rfl rfl rfl) ?p_14 rfl rfl rfl (by kernel_rfl) rfl ?h_14
          case' h_14 => skip
          refine' cdX ?x_15 rfl rfl rfl (by kernel_rfl) (fun h => (alwNo h (by kernel_rfl)).elim) rfl ?h_15
          case x_15 =>
            intro b hb g; cases b
            · exact (alwNo hb (by kernel_rfl)).elim
            · skip
              refine appendM (fn := ic) (l := o.refs) (a := id) tab rfl rfl rfl rfl rfl rfl rfl rfl rfl rfl (fun _ => rfl) (by show (o.refs.length + 1) * 8 ≤ _; omega) ?_
              refine WO.nil ?_
              refine' stE1 rfl ?_ ?_ ?_ ?_
              all_goals try exact rfl
          case' h_15 => skip
          case p_2 => refine ⟨fun ha => (alwNo ha (by kernel_rfl)).elim, ?_, fun ha => (alwNo ha (by kernel_rfl)).elim, ?_, fun ha => (alwNo ha (by kernel_rfl)).elim, ?_, fun ha => (alwNo ha (by kernel_rfl)).elim, ?_⟩ <;> intro ha <;> first | exact ⟨ev tab rfl, fun h => nomatch h⟩ | exact (alwNo ha (by kernel_rfl)).elim
          case p_3 => refine ⟨fun ha => (alwNo ha (by kernel_rfl)).elim, ?_, fun ha => (alwNo ha (by kernel_rfl)).elim, ?_, fun ha => (alwNo ha (by kernel_rfl)).elim, ?_, fun ha => (alwNo ha (by kernel_rfl)).elim, ?_⟩ <;> intro ha <;> first | exact ⟨ev tab rfl, fun h => nomatch h⟩ | exact ⟨loadRow tab rfl rfl rfl rfl, fun h => nomatch h⟩ | exact ⟨loadBox tab rfl rfl rfl rfl rfl, fun h => nomatch h⟩ | exact (alwNo ha (by kernel_rfl)).elim
          case p_4 => refine ⟨fun ha => (alwNo ha (by kernel_rfl)).elim, ?_, fun ha => (alwNo ha (by kernel_rfl)).elim, ?_, fun ha => (alwNo ha (by kernel_rfl)).elim, ?_, fun ha => (alwNo ha (by kernel_rfl)).elim, ?_⟩ <;> intro ha <;> first | exact ⟨ev tab rfl, fun h => nomatch h⟩ | exact (alwNo ha (by kernel_rfl)).elim
          case p_6 => refine ⟨fun ha => (alwNo ha (by kernel_rfl)).elim, ?_, fun ha => (alwNo ha (by kernel_rfl)).elim, ?_, fun ha => (alwNo ha (by kernel_rfl)).elim, ?_, fun ha => (alwNo ha (by kernel_rfl)).elim, ?_⟩ <;> intro ha <;> first | exact ⟨ev tab rfl, fun h => nomatch h⟩ | exact (alwNo ha (by kernel_rfl)).elim
          case p_7 => refine ⟨fun ha => (alwNo ha (by kernel_rfl)).elim, ?_, fun ha => (alwNo ha (by kernel_rfl)).elim, ?_, fun ha => (alwNo ha (by kernel_rfl)).elim, ?_, fun ha => (alwNo ha (by kernel_rfl)).elim, ?_⟩ <;> intro ha <;> first | exact ⟨ev tab rfl, fun h => nomatch h⟩ | exact ⟨loadRow tab rfl rfl rfl rfl, fun h => nomatch h⟩ | exact ⟨loadBox tab rfl rfl rfl rfl rfl, fun h => nomatch h⟩ | exact (alwNo ha (by kernel_rfl)).elim
          case p_8 => refine ⟨fun ha => (alwNo ha (by kernel_rfl)).elim, ?_, fun ha => (alwNo ha (by kernel_rfl)).elim, ?_, fun ha => (alwNo ha (by kernel_rfl)).elim, ?_, fun ha => (alwNo ha (by kernel_rfl)).elim, ?_⟩ <;> intro ha <;> first | exact ⟨ev tab rfl, fun h => nomatch h⟩ | exact (alwNo ha (by kernel_rfl)).elim
          case p_9 => refine ⟨fun ha => (alwNo ha (by kernel_rfl)).elim, ?_, fun ha => (alwNo ha (by kernel_rfl)).elim, ?_, fun ha => (alwNo ha (by kernel_rfl)).elim, ?_, fun ha => (alwNo ha (by kernel_rfl)).elim, ?_⟩ <;> intro ha <;> first | exact ⟨indexAddr tab rfl rfl rfl rfl rfl rfl (Int.natCast_nonneg _) hoc rfl, fun h => nomatch h⟩ | exact (alwNo ha (by kernel_rfl)).elim
          case p_10 => refine ⟨fun ha => (alwNo ha (by kernel_rfl)).elim, ?_, fun ha => (alwNo ha (by kernel_rfl)).elim, ?_, fun ha => (alwNo ha (by kernel_rfl)).elim, ?_, fun ha => (alwNo ha (by kernel_rfl)).elim, ?_⟩ <;> intro ha <;> first | exact ⟨ev tab rfl, fun h => nomatch h⟩ | exact (alwNo ha (by kernel_rfl)).elim
          case p_11 => refine ⟨fun ha => (alwNo ha (by kernel_rfl)).elim, ?_, fun ha => (alwNo ha (by kernel_rfl)).elim, ?_, fun ha => (alwNo ha (by kernel_rfl)).elim, ?_, fun ha => (alwNo ha (by kernel_rfl)).elim, ?_⟩ <;> intro ha <;> first | exact ⟨ev tab rfl, fun h => nomatch h⟩ | exact ⟨loadRow tab rfl rfl rfl rfl, fun h => nomatch h⟩ | exact ⟨loadBox tab rfl rfl rfl rfl rfl, fun h => nomatch h⟩ | exact (alwNo ha (by kernel_rfl)).elim
          case p_13 => refine ⟨fun ha => (alwNo ha (by kernel_rfl)).elim, ?_, fun ha => (alwNo ha (by kernel_rfl)).elim, ?_, fun ha => (alwNo ha (by kernel_rfl)).elim, ?_, fun ha => (alwNo ha (by kernel_rfl)).elim, ?_⟩ <;> intro ha <;> first | exact ⟨ev tab rfl, fun h => nomatch h⟩ | exact (alwNo ha (by kernel_rfl)).elim
          case p_14 => refine ⟨fun ha => (alwNo ha (by kernel_rfl)).elim, ?_, fun ha => (alwNo ha (by kernel_rfl)).elim, ?_, fun ha => (alwNo ha (by kernel_rfl)).elim, ?_, fun ha => (alwNo ha (by kernel_rfl)).elim, ?_⟩ <;> intro ha <;> first | exact ⟨buildV tab rfl rfl rfl rfl rfl rfl rfl rfl rfl, fun h => nomatch h⟩ | exact (alwNo ha (by kernel_rfl)).elim
          refine CD.nil ?_ rfl
          refine pu (indexX tab rfl rfl rfl rfl rfl rfl (Int.natCast_nonneg _) hoc rfl) rfl ?_
          refine pu (fieldX tab rfl rfl rfl rfl rfl rfl) rfl ?_
          refine storeXB tab 5 0 rfl rfl rfl rfl rfl hoc rfl rfl rfl rfl rfl ref_set rfl rfl ?_
          refine WO.nil ?_
          refine qs ?_
          refine W.seq ?_
          refine freezeB 5 0 rfl rfl rfl rfl rfl ?_
          refine W.region ?_
          first | refine pu (ev tab rfl) rfl ?_ | refine pu (loadRow tab rfl rfl rfl rfl) rfl ?_ | refine pu (loadBox tab rfl rfl rfl rfl rfl) rfl ?_
          refine pu (puCall rfl rfl rfl (check_fn ⟨withRef h.objs j o id, h.roots⟩) rfl) rfl ?_
          iterate 2 refine pu (ev tab rfl) rfl ?_
          refine WO.nil ?_
          refine qs ?_
          refine W.ret ?_
          refine QF.ret0 trivial rfl ?_
          first | rfl | (simp [norm, oneA, hmr]; done)
end Go.Proofs.YtpkfchdnpdcenaaDoor
