import Derived.Test.YtoojafbicmdclaaDoorQ4
import Derived.Test.YtoojafbicmdclaaDoorChecked
import Derived.KernelRfl
import Derived.Test.YtoojafbicmdclaaDoorRows
import Derived.Shelf.Small.Strs
import Derived.Shelf.Strconv.Atoi
import Derived.Shelf.Strconv.Itoa0
import Derived.Shelf.Strconv.Itoa1
import Derived.Shelf.LaysM
import Derived.Shelf.Strconv.Itoa2
import Derived.Shelf.Strconv.Itoa3
import Derived.Shelf.Strconv.AtoiErrFast
import Derived.Shelf.Strconv.ParseIntEmpty
import Derived.Shelf.Strconv.AtoiFail
import Derived.Shelf.Strconv.Clone
import Derived.Shelf.Strconv.SyntaxError
import Derived.Shelf.LaysC
import Derived.Shelf.Strconv.ToError
import Derived.Shelf.Strconv.AtoiErr
import Derived.Shelf.Strconv.ErrVar
import Derived.Shelf.Strconv.Lower
import Derived.Shelf.Strconv.ParseUint10
import Derived.Shelf.Strconv.ParseUint10Empty
import Derived.Shelf.Strconv.ParseUint10Any
import Derived.Shelf.Strconv.ParseInt10
import Derived.Shelf.Strconv.AtoiLong
import Derived.Shelf.Strconv.AtoiInnerAll
import Derived.Shelf.Strconv.RangeError
import Derived.Shelf.Strconv.ToErrorRange
import Derived.Shelf.Strconv.AtoiAll
import Derived.Shelf.Strconv.ErrVarAll
import Derived.Shelf.Strings.Search1
import Derived.Shelf.Strings.Search2
import Derived.Shelf.Strings.Search3
import Derived.Shelf.Strings.Count
import Derived.Shelf.Strings.Shaped
import Derived.Shelf.Strings.Split
import Derived.Shelf.Strings.SplitShaped
import Derived.Shelf.Unicode.DecodeSlow
import Derived.Test.YtoojafbicmdclaaDoorProg
import Derived.WalkKit
import Derived.OwnWalkIn
import Derived.TacticsInMore
import Derived.LoopNIn
import Derived.LoopIn
import Derived.BigRegionIn
namespace Go.Proofs.YtoojafbicmdclaaDoor
open Go.Ab
abbrev tabL : List (Nat × TyD) := [
 (2, ⟨.int .i64, 1, 8, [.int .i64 0]⟩),
 (3, ⟨.int .i64, 1, 8, [.int .i64 0]⟩),
 (4, ⟨.bool, 1, 1, [.bool false]⟩),
 (5, ⟨.int .u8, 1, 1, [.int .u8 0]⟩),
 (9, ⟨.str, 1, 16, [.string ⟨#[]⟩]⟩),
 (12, ⟨.int .u64, 1, 8, [.int .u64 0]⟩),
 (21, ⟨.int .i32, 1, 4, [.int .i32 0]⟩),
 (23, ⟨.slice 3, 1, 24, [.slice none 0 0]⟩),
 (24, ⟨.int .i64, 1, 8, [.int .i64 0]⟩),
 (29, ⟨.slice 49, 1, 24, [.slice none 0 0]⟩),
 (30, ⟨.slice 66, 1, 24, [.slice none 0 0]⟩),
 (31, ⟨.slice 87, 1, 24, [.slice none 0 0]⟩),
 (33, ⟨.st [(0, 29, "Threads"), (1, 30, "Domains"), (2, 31, "Snaps")], 3, 72, [.slice none 0 0, .slice none 0 0, .slice none 0 0]⟩),
 (34, ⟨.slice 45, 1, 24, [.slice none 0 0]⟩),
 (36, ⟨.st [(0, 33, "Head"), (3, 34, "Parts")], 4, 96, [.slice none 0 0, .slice none 0 0, .slice none 0 0, .slice none 0 0]⟩),
 (41, ⟨.slice 9, 1, 24, [.slice none 0 0]⟩),
 (43, ⟨.slice 52, 1, 24, [.slice none 0 0]⟩),
 (45, ⟨.st [(0, 3, "Thread"), (1, 3, "Serial"), (2, 3, "Lost"), (3, 43, "Events")], 4, 48, [.int .i64 0, .int .i64 0, .int .i64 0, .slice none 0 0]⟩),
 (46, ⟨.slice 5, 1, 24, [.slice none 0 0]⟩),
 (49, ⟨.st [(0, 3, "Id"), (1, 9, "Name"), (2, 3, "Domain")], 3, 32, [.int .i64 0, .string ⟨#[]⟩, .int .i64 0]⟩),
 (50, ⟨.int .i64, 1, 8, [.int .i64 0]⟩),
 (52, ⟨.st [(0, 3, "At"), (1, 50, "Kind"), (2, 9, "Name"), (3, 3, "N"), (4, 3, "M"), (5, 41, "Stack")], 6, 72, [.int .i64 0, .int .i64 0, .string ⟨#[]⟩, .int .i64 0, .int .i64 0, .slice none 0 0]⟩),
 (54, ⟨.map 9 3, 1, 8, [.map none]⟩),
 (60, ⟨.ptr 63, 1, 8, [.pointer none]⟩),
 (61, ⟨.map 3 43, 1, 8, [.map none]⟩),
 (63, ⟨.st [(0, 23, "ids"), (1, 61, "events")], 2, 32, [.slice none 0 0, .map none]⟩),
 (66, ⟨.st [(0, 3, "Id"), (1, 3, "Ppm")], 2, 16, [.int .i64 0, .int .i64 0]⟩),
 (82, ⟨.map 3 34, 1, 8, [.map none]⟩),
 (85, ⟨.st [(0, 3, "Lo"), (1, 3, "Hi")], 2, 16, [.int .i64 0, .int .i64 0]⟩),
 (87, ⟨.st [(0, 3, "A"), (1, 3, "AtA"), (2, 3, "B"), (3, 85, "AtB")], 5, 40, [.int .i64 0, .int .i64 0, .int .i64 0, .int .i64 0, .int .i64 0]⟩),
 (96, ⟨.map 3 4, 1, 8, [.map none]⟩),
 (101, ⟨.map 3 102, 1, 8, [.map none]⟩),
 (102, ⟨.ptr 104, 1, 8, [.pointer none]⟩),
 (104, ⟨.st [(0, 3, "next"), (1, 3, "last")], 2, 16, [.int .i64 0, .int .i64 0]⟩),
 (109, ⟨.ptr 45, 1, 8, [.pointer none]⟩),
 (123, ⟨.int .u64, 1, 8, [.int .u64 0]⟩),
 (124, ⟨.int .i64, 1, 8, [.int .i64 0]⟩),
 (127, ⟨.ptr 150, 1, 8, [.pointer none]⟩),
 (131, ⟨.int .u64, 1, 8, [.int .u64 0]⟩),
 (141, ⟨.st [(0, 5, "lo"), (1, 5, "hi")], 2, 2, [.int .u8 0, .int .u8 0]⟩),
 (143, ⟨.int .u32, 1, 4, [.int .u32 0]⟩),
 (157, ⟨.st [(0, 9, "word"), (1, 4, "name"), (2, 4, "n"), (3, 4, "m"), (4, 4, "stack"), (5, 3, "least"), (6, 3, "most"), (7, 3, "mLeast"), (8, 3, "mMost")], 9, 56, [.string ⟨#[]⟩, .bool false, .bool false, .bool false, .bool false, .int .i64 0, .int .i64 0, .int .i64 0, .int .i64 0]⟩),
 (162, ⟨.ptr 5, 1, 8, [.pointer none]⟩),
 (163, ⟨.ptr 165, 1, 8, [.pointer none]⟩),
 (165, ⟨.st [(0, 9, "s")], 1, 16, [.string ⟨#[]⟩]⟩),
 (167, ⟨.slice 157, 1, 24, [.slice none 0 0]⟩)]
theorem tab_ok : tabL.all (fun x => tyOK Tryd.prog x.1 x.2) = true := by kernel_rfl
abbrev tab : Tab Tryd.prog := ⟨tabL, tab_ok, by kernel_rfl⟩
instance progMet : Go.Ab.Met Tryd.prog := ⟨fun W => MetNum Tryd.prog W⟩
section
variable {C : Ctx} {n : Nat} {ops : Array Oper} {Q : Exit → St → Prop} {rest : List Oper} {f : List (Nat × A)} {bx : List (Nat × List A)} {lv : List Nat} {gen d : Nat} {ty : TypeId} {pos : String} {af : Array Edge} {a : A}
theorem pE {op : Op} (h : Bool.rec (motive := fun _ => Option A) none (evPu tab f bx op) (Nat.blt d n) = some a) (k : WO Tryd.prog C n ops Q rest ⟨(d, a) :: f, bx, lv, gen⟩) : WO Tryd.prog C n ops Q (⟨some d, op, ty, pos, af, none⟩ :: rest) ⟨f, bx, lv, gen⟩ := by
  cases hb : Nat.blt d n with
  | false => rw [hb] at h; exact absurd h (by simp)
  | true => rw [hb] at h; exact pu (ev tab h) hb k
theorem pR {t : Nat} {x : Operand} {td : TyD} {l : List D} (ht : look' tab.l t = some td) (hk : td.k.agg = true) (hx : av f x = some (.rowd l)) (hl : l.length = td.n) (hd : Nat.blt d n = true) (k : WO Tryd.prog C n ops Q rest ⟨(d, .ag l) :: f, bx, lv, gen⟩) : WO Tryd.prog C n ops Q (⟨some d, .load t x, ty, pos, af, none⟩ :: rest) ⟨f, bx, lv, gen⟩ := pu (loadRow tab ht hk hx hl) hd k
theorem pB {t : Nat} {x : Operand} {td : TyD} {g : Nat} {l : List D} (ht : look' tab.l t = some td) (hk : td.k.agg = true) (hx : av f x = some (.ptr g 0)) (hb : look' bx g = some (l.map A.d)) (hl : l.length = td.n) (hd : Nat.blt d n = true) (k : WO Tryd.prog C n ops Q rest ⟨(d, .ag l) :: f, bx, lv, gen⟩) : WO Tryd.prog C n ops Q (⟨some d, .load t x, ty, pos, af, none⟩ :: rest) ⟨f, bx, lv, gen⟩ := pu (loadBox tab ht hk hx hb hl) hd k
end
end Go.Proofs.YtoojafbicmdclaaDoor
namespace Go.Proofs.YtoojafbicmdclaaDoor
open Go.Ab
theorem lmet (W : World) (h : laidMet Tryd.prog Rows.ftraceLongRow.laid W) : MetNum Tryd.prog W :=
 metNum_of (t := 153) (e := 131) (m := 20) (ti := 92) h (d := Rows.laid_internal_strconv_uint64pow10) (.tail _ (.tail _ (.head _))) (by kernel_rfl) (by kernel_rfl) (by kernel_rfl) (by kernel_rfl) (by kernel_rfl) (by kernel_rfl)
  (nm := "*errors.errorString") (nm' := "*errors.errorString") (.tail _ (.tail _ (.tail _ (.tail _ (.tail _ (.head _)))))) (.tail _ (.tail _ (.tail _ (.tail _ (.head _))))) (by kernel_rfl) (by kernel_rfl) (by kernel_rfl)
end Go.Proofs.YtoojafbicmdclaaDoor
namespace Go.Proofs.YtoojafbicmdclaaDoor
open Go.Ab Go.Tb
set_option maxRecDepth 10000
attribute [local irreducible] W WO Pu QS QB QL QF QV QV1 CH QE
theorem in_fn (n : Int) : Does Tryd.prog 56 [.d (.v (.int .i64 n))] (.d (.v (.bool (inR n)))) 0 := by
 refine Does.of_W (n := 9) (ts := [2]) Tryd.func56 (by kernel_rfl) rfl Tryd.ntmps56 Tryd.results56 rfl rfl fun C hC hG => ?_
 refine W.seq (W.region ?_)
 refine pE rfl ?_
 refine WO.nil (qs (W.seq ?_))
 apply regionB; (case hb => rfl)
 ·
  iterate 3 refine pE rfl ?_
  apply splitJ; (case hj => rfl); (case hl => rfl)
  ·
   refine goG rfl rfl ?_
   refine pE rfl ?_
   refine goG rfl rfl ?_
   iterate 3 refine pE rfl ?_
   refine WO.nil ?_
   refine qv1 rfl rfl rfl
  ·
   iterate 2 refine skipT rfl rfl rfl rfl ?_
   iterate 2 refine pE rfl ?_
   refine WO.nil ?_
   refine qv1 rfl rfl rfl
 refine qs (W.ret ?_)
 refine QF.ret0 trivial rfl ?_
 simp [norm, oneA, inR]
end Go.Proofs.YtoojafbicmdclaaDoor
namespace Go.Proofs.YtoojafbicmdclaaDoor
open Go.Ab Go.Tb
set_option maxRecDepth 10000
attribute [local irreducible] W WO Pu QS QB QL QF QV QV1 CH QE
end Go.Proofs.YtoojafbicmdclaaDoor
namespace Go.Proofs.YtoojafbicmdclaaDoor
open Go.Ab Go.Tb
set_option maxRecDepth 10000
attribute [local irreducible] W WO Pu QS QB QL QF QV QV1 CH QE
theorem ixb_fn (s : ByteArray) (b : UInt8) : Does Tryd.prog 65 [.d (.v (.string s)), .d (.v (.int .u8 b.toNat))] (.d (.v (.int .i64 (Lib.indexByte (bys s) b)))) 0 := by
 refine Does.of_W (n := 8) (ts := [4]) Tryd.func65 (by kernel_rfl) rfl Tryd.ntmps65 Tryd.results65 rfl rfl fun C hC hG => ?_
 refine W.inRange (t := 0) rfl (fun hok => ?_)
 refine W.seq (W.region ?_)
 refine pE rfl ?_
 refine WO.nil (qs (W.seq (W.region ?_)))
 iterate 2 refine pE rfl ?_
 refine pu (puExt (vs := [.string s, .int .u8 b.toNat]) rfl rfl (fun w => (run_callFunc_extern Tryd.func82 (by kernel_rfl) (by kernel_rfl) (by kernel_rfl) (by kernel_rfl) #[.string s, .int .u8 b.toNat] w).trans (by rw [show (Extern.BytealgIndexByte.indexByte #[.string s, .int .u8 b.toNat]).run Tryd.prog w = _ from Lib.run_indexByteString s b.toNat w]; rfl)) (indexByte_ok hok _)) rfl ?_
 refine pE rfl ?_
 refine WO.nil (qs (W.ret ?_))
 refine QF.ret0 trivial rfl ?_
 simp [norm, oneA, bys]
theorem sixb_fn (s : ByteArray) (b : UInt8) : Does Tryd.prog 92 [.d (.v (.string s)), .d (.v (.int .u8 b.toNat))] (.d (.v (.int .i64 (Lib.indexByte (bys s) b)))) 0 := by
 refine Does.of_W (n := 8) (ts := [4]) Tryd.func92 (by kernel_rfl) rfl Tryd.ntmps92 Tryd.results92 rfl rfl fun C hC hG => ?_
 refine W.seq (W.region ?_)
 refine pE rfl ?_
 refine WO.nil (qs (W.seq (W.region ?_)))
 iterate 2 refine pE rfl ?_
 refine pu (puCall rfl rfl rfl (ixb_fn ..) rfl) rfl ?_
 refine pE rfl ?_
 refine WO.nil (qs (W.ret ?_))
 refine QF.ret0 trivial rfl ?_
 rfl
theorem letter_fn (b : UInt8) : Does Tryd.prog 78 [.d (.v (.int .u8 b.toNat))] (.d (.v (.bool (letterB b)))) 0 := by
 refine Does.of_W (n := 30) (ts := [2]) Tryd.func78 (by kernel_rfl) rfl Tryd.ntmps78 Tryd.results78 rfl rfl fun C hC hG => ?_
 refine W.seq (W.region ?_)
 refine pE rfl ?_
 refine WO.nil (qs (W.seq ?_))
 apply regionB; (case hb => rfl)
 ·
  iterate 3 refine pE rfl ?_
  apply splitJ; (case hj => rfl); (case hl => rfl)
  ·
   refine goG rfl rfl ?_
   refine pE rfl ?_
   refine goG rfl rfl ?_
   iterate 3 refine pE rfl ?_
   apply splitJ; (case hj => rfl); (case hl => rfl)
   ·
    iterate 3 refine skipT rfl rfl rfl rfl ?_
    iterate 2 refine skipU rfl rfl rfl ?_
    refine skipT rfl rfl rfl rfl ?_
    iterate 2 refine pE rfl ?_
    iterate 3 refine skipT rfl rfl rfl rfl ?_
    iterate 2 refine skipU rfl rfl rfl ?_
    refine skipT rfl rfl rfl rfl ?_
    iterate 2 refine pE rfl ?_
    iterate 3 refine skipT rfl rfl rfl rfl ?_
    iterate 2 refine pE rfl ?_
    refine WO.nil ?_
    refine qv1 rfl rfl rfl
   ·
    refine goG rfl rfl ?_
    refine pE rfl ?_
    refine goG rfl rfl ?_
    refine pE rfl ?_
    refine goG rfl rfl ?_
    refine pE rfl ?_
    apply splitJ; (case hj => rfl); (case hl => rfl)
    ·
     refine goG rfl rfl ?_
     refine pE rfl ?_
     refine goG rfl rfl ?_
     refine pE rfl ?_
     refine goG rfl rfl ?_
     iterate 3 refine pE rfl ?_
     apply splitJ; (case hj => rfl); (case hl => rfl)
     ·
      iterate 3 refine skipT rfl rfl rfl rfl ?_
      iterate 2 refine skipU rfl rfl rfl ?_
      refine skipT rfl rfl rfl rfl ?_
      iterate 2 refine pE rfl ?_
      iterate 3 refine skipT rfl rfl rfl rfl ?_
      iterate 2 refine pE rfl ?_
      refine WO.nil ?_
      refine qv1 rfl rfl rfl
     ·
      refine goG rfl rfl ?_
      refine pE rfl ?_
      refine goG rfl rfl ?_
      refine pE rfl ?_
      refine goG rfl rfl ?_
      refine pE rfl ?_
      apply splitJ; (case hj => rfl); (case hl => rfl)
      ·
       refine goG rfl rfl ?_
       refine pE rfl ?_
       refine goG rfl rfl ?_
       refine pE rfl ?_
       refine goG rfl rfl ?_
       iterate 3 refine pE rfl ?_
       apply splitJ; (case hj => rfl); (case hl => rfl)
       ·
        iterate 3 refine skipT rfl rfl rfl rfl ?_
        iterate 2 refine pE rfl ?_
        refine WO.nil ?_
        refine qv1 rfl rfl rfl
       ·
        refine goG rfl rfl ?_
        refine pE rfl ?_
        refine goG rfl rfl ?_
        refine pu (puCall rfl rfl rfl (sixb_fn ..) rfl) rfl ?_
        refine goG rfl rfl ?_
        iterate 3 refine pE rfl ?_
        refine WO.nil ?_
        refine qv1 rfl rfl rfl
      ·
       iterate 2 refine skipT rfl rfl rfl rfl ?_
       refine goG rfl rfl ?_
       iterate 3 refine pE rfl ?_
       refine goG rfl rfl ?_
       refine pE rfl ?_
       refine goG rfl rfl ?_
       refine pu (puCall rfl rfl rfl (sixb_fn ..) rfl) rfl ?_
       refine goG rfl rfl ?_
       iterate 3 refine pE rfl ?_
       refine WO.nil ?_
       refine qv1 rfl rfl rfl
    ·
     iterate 2 refine skipT rfl rfl rfl rfl ?_
     refine goG rfl rfl ?_
     iterate 3 refine pE rfl ?_
     refine goG rfl rfl ?_
     refine pE rfl ?_
     refine goG rfl rfl ?_
     refine pE rfl ?_
     refine goG rfl rfl ?_
     refine pE rfl ?_
     apply splitJ; (case hj => rfl); (case hl => rfl)
     ·
      refine goG rfl rfl ?_
      refine pE rfl ?_
      refine goG rfl rfl ?_
      refine pE rfl ?_
      refine goG rfl rfl ?_
      iterate 3 refine pE rfl ?_
      apply splitJ; (case hj => rfl); (case hl => rfl)
      ·
       iterate 3 refine skipT rfl rfl rfl rfl ?_
       iterate 2 refine pE rfl ?_
       refine WO.nil ?_
       refine qv1 rfl rfl rfl
      ·
       refine goG rfl rfl ?_
       refine pE rfl ?_
       refine goG rfl rfl ?_
       refine pu (puCall rfl rfl rfl (sixb_fn ..) rfl) rfl ?_
       refine goG rfl rfl ?_
       iterate 3 refine pE rfl ?_
       refine WO.nil ?_
       refine qv1 rfl rfl rfl
     ·
      iterate 2 refine skipT rfl rfl rfl rfl ?_
      refine goG rfl rfl ?_
      iterate 3 refine pE rfl ?_
      refine goG rfl rfl ?_
      refine pE rfl ?_
      refine goG rfl rfl ?_
      refine pu (puCall rfl rfl rfl (sixb_fn ..) rfl) rfl ?_
      refine goG rfl rfl ?_
      iterate 3 refine pE rfl ?_
      refine WO.nil ?_
      refine qv1 rfl rfl rfl
  ·
   iterate 2 refine skipT rfl rfl rfl rfl ?_
   iterate 2 refine pE rfl ?_
   refine goG rfl rfl ?_
   refine pE rfl ?_
   refine goG rfl rfl ?_
   refine pE rfl ?_
   refine goG rfl rfl ?_
   refine pE rfl ?_
   apply splitJ; (case hj => rfl); (case hl => rfl)
   ·
    refine goG rfl rfl ?_
    refine pE rfl ?_
    refine goG rfl rfl ?_
    refine pE rfl ?_
    refine goG rfl rfl ?_
    iterate 3 refine pE rfl ?_
    apply splitJ; (case hj => rfl); (case hl => rfl)
    ·
     iterate 3 refine skipT rfl rfl rfl rfl ?_
     iterate 2 refine skipU rfl rfl rfl ?_
     refine skipT rfl rfl rfl rfl ?_
     iterate 2 refine pE rfl ?_
     iterate 3 refine skipT rfl rfl rfl rfl ?_
     iterate 2 refine pE rfl ?_
     refine WO.nil ?_
     refine qv1 rfl rfl rfl
    ·
     refine goG rfl rfl ?_
     refine pE rfl ?_
     refine goG rfl rfl ?_
     refine pE rfl ?_
     refine goG rfl rfl ?_
     refine pE rfl ?_
     apply splitJ; (case hj => rfl); (case hl => rfl)
     ·
      refine goG rfl rfl ?_
      refine pE rfl ?_
      refine goG rfl rfl ?_
      refine pE rfl ?_
      refine goG rfl rfl ?_
      iterate 3 refine pE rfl ?_
      apply splitJ; (case hj => rfl); (case hl => rfl)
      ·
       iterate 3 refine skipT rfl rfl rfl rfl ?_
       iterate 2 refine pE rfl ?_
       refine WO.nil ?_
       refine qv1 rfl rfl rfl
      ·
       refine goG rfl rfl ?_
       refine pE rfl ?_
       refine goG rfl rfl ?_
       refine pu (puCall rfl rfl rfl (sixb_fn ..) rfl) rfl ?_
       refine goG rfl rfl ?_
       iterate 3 refine pE rfl ?_
       refine WO.nil ?_
       refine qv1 rfl rfl rfl
     ·
      iterate 2 refine skipT rfl rfl rfl rfl ?_
      refine goG rfl rfl ?_
      iterate 3 refine pE rfl ?_
      refine goG rfl rfl ?_
      refine pE rfl ?_
      refine goG rfl rfl ?_
      refine pu (puCall rfl rfl rfl (sixb_fn ..) rfl) rfl ?_
      refine goG rfl rfl ?_
      iterate 3 refine pE rfl ?_
      refine WO.nil ?_
      refine qv1 rfl rfl rfl
   ·
    iterate 2 refine skipT rfl rfl rfl rfl ?_
    refine goG rfl rfl ?_
    iterate 3 refine pE rfl ?_
    refine goG rfl rfl ?_
    refine pE rfl ?_
    refine goG rfl rfl ?_
    refine pE rfl ?_
    refine goG rfl rfl ?_
    refine pE rfl ?_
    apply splitJ; (case hj => rfl); (case hl => rfl)
    ·
     refine goG rfl rfl ?_
     refine pE rfl ?_
     refine goG rfl rfl ?_
     refine pE rfl ?_
     refine goG rfl rfl ?_
     iterate 3 refine pE rfl ?_
     apply splitJ; (case hj => rfl); (case hl => rfl)
     ·
      iterate 3 refine skipT rfl rfl rfl rfl ?_
      iterate 2 refine pE rfl ?_
      refine WO.nil ?_
      refine qv1 rfl rfl rfl
     ·
      refine goG rfl rfl ?_
      refine pE rfl ?_
      refine goG rfl rfl ?_
      refine pu (puCall rfl rfl rfl (sixb_fn ..) rfl) rfl ?_
      refine goG rfl rfl ?_
      iterate 3 refine pE rfl ?_
      refine WO.nil ?_
      refine qv1 rfl rfl rfl
    ·
     iterate 2 refine skipT rfl rfl rfl rfl ?_
     refine goG rfl rfl ?_
     iterate 3 refine pE rfl ?_
     refine goG rfl rfl ?_
     refine pE rfl ?_
     refine goG rfl rfl ?_
     refine pu (puCall rfl rfl rfl (sixb_fn ..) rfl) rfl ?_
     refine goG rfl rfl ?_
     iterate 3 refine pE rfl ?_
     refine WO.nil ?_
     refine qv1 rfl rfl rfl
 refine qs (W.ret ?_)
 refine QF.ret0 trivial rfl ?_
 simp only [norm, oneA]; rw [indexByte_any]; simp only [letterB, lower, marks]; simp [bys]; grind
theorem name_fn (s : ByteArray) : Does Tryd.prog 58 [.d (.v (.string s))] (.d (.v (.int .i64 (nameErr s)))) 0 := by
 refine Does.of_W (n := 22) (ts := [2]) Tryd.func58 (by kernel_rfl) rfl Tryd.ntmps58 Tryd.results58 rfl rfl fun C hC hG => ?_
 refine W.seq (W.region ?_)
 refine pE rfl ?_
 refine WO.nil (qs ?_)
 iterate 2 refine W.seq ?_
 apply regionB; (case hb => rfl)
 ·
  iterate 3 refine pE rfl ?_
  apply splitJ; (case hj => rfl); (case hl => rfl)
  ·
   iterate 3 refine skipT rfl rfl rfl rfl ?_
   refine pE rfl ?_
   refine WO.nil ?_
   refine qv1 rfl rfl rfl
  ·
   refine goG rfl rfl ?_
   refine pE rfl ?_
   refine goG rfl rfl ?_
   refine pE rfl ?_
   refine goG rfl rfl ?_
   iterate 2 refine pE rfl ?_
   refine WO.nil ?_
   refine qv1 rfl rfl rfl
 refine qs ?_
 refine condK rfl (fun h10 => ?_) (fun h10 => ?_)
 ·
  refine W.seq (W.region ?_)
  refine pE rfl ?_
  refine WO.nil (qs (W.ret (qsRet ?_)))
  refine QF.ret0 trivial rfl ?_
  simp only [norm, oneA]; grind [nameErr, empty_bytes]
 ·
  refine W.skip (qs ?_)
  iterate 2 refine W.seq ?_
  refine W.region ?_
  iterate 3 refine pE rfl ?_
  refine WO.nil (qs (W.block ?_))
  refine W.inRange (t := 0) rfl (fun hok => ?_)
  have hlen := okc_size hok
  refine W.loopR (ι := {x : Nat // match x with | k => k ≤ (bys s).length ∧ ((bys s).drop k).all letterB = (bys s).all letterB})
   (fun x => match x.1 with | k => [(13, .d (.v (.int .i64 ((k : Nat) : Int))))]) [(0, _), (12, _)]
   (fun x => match x.1 with | k => []) [] [] 0 (fun x => match x.1 with | k => (bys s).length - k)
   [] ⟨0, ?_⟩ rfl ?_ ⟨rfl, rfl, rfl, rfl, trivial⟩ ?_ trivial rfl ?_
  · first | exact ⟨Nat.zero_le _, rfl⟩ | exact trivial | simp
  · repeat' first | exact trivial | refine ⟨rfl, ?_⟩ | refine ⟨congrArg some (renL_boxE _ _ _), ?_⟩ | refine ⟨step_nat (by assumption) (by assumption), ?_⟩
  · repeat' first | exact trivial | refine ⟨rfl, ?_⟩ | refine ⟨congrArg some (renL_boxE _ _ _), ?_⟩ | refine ⟨step_nat (by assumption) (by assumption), ?_⟩
  rintro ⟨k, hk, hI⟩
  show W _ _ _ _ _ ⟨[(13, .d (.v (.int .i64 ((k : Nat) : Int)))), (0, _), (12, _)], [], [], 0⟩
  refine W.seq (W.region ?_)
  refine pE rfl ?_
  refine WO.nil (qs (W.seq ?_))
  refine eachR (l := bys s) (k := k) rfl (by simp [Ex.kc_len, bytes_len]) hk (fun b hx hd hlt => ?_) (fun he hd => ?_)
  ·
   rw [hd, List.all_cons] at hI
   refine W.skip (qs (W.seq (W.block (W.seq (W.region ?_)))))
   iterate 2 refine pE rfl ?_
   refine WO.nil (qs (W.seq (W.region ?_)))
   iterate 2 refine pE rfl ?_
   refine pu (indexStr tab rfl rfl rfl rfl (Int.natCast_nonneg _) (byteList (by assumption))) rfl ?_
   refine pu (puCall rfl rfl rfl (letter_fn ..) rfl) rfl ?_
   refine pE rfl ?_
   refine WO.nil (qs ?_)
   refine condK rfl (fun h20 => ?_) (fun h20 => ?_)
   ·
    refine W.seq (W.region ?_)
    refine pE rfl ?_
    refine WO.nil (qs (W.ret (qbRet (qsRet (qlRet (qbRet (qsRet ?_)))))))
    refine QF.ret0 trivial rfl ?_
    simp only [norm, oneA]; grind [nameErr, empty_bytes]
   ·
    refine W.skip (qbN (qs (W.region ?_)))
    iterate 2 refine pE rfl ?_
    refine WO.nil ?_
    refine W.endR [] ⟨k + 1, ?_⟩ ?_ rfl ?_ ⟨rfl, rfl, rfl, rfl, trivial⟩ ?_ trivial rfl
    · exact ⟨hlt, by rw [← hI]; simp_all⟩
    · dsimp only; omega
    · repeat' first | exact trivial | refine ⟨rfl, ?_⟩ | refine ⟨congrArg some (renL_boxE _ _ _), ?_⟩ | refine ⟨step_nat (by assumption) (by assumption), ?_⟩
    · repeat' first | exact trivial | refine ⟨rfl, ?_⟩ | refine ⟨congrArg some (renL_boxE _ _ _), ?_⟩ | refine ⟨step_nat (by assumption) (by assumption), ?_⟩
  ·
   rw [hd] at hI
   refine W.exit (qsExit (qlExit (qbExit (qs (W.seq (W.region ?_))))))
   refine pE rfl ?_
   refine WO.nil (qs (W.ret ?_))
   refine QF.ret0 trivial rfl ?_
   simp only [norm, oneA]; grind [nameErr, empty_bytes]
end Go.Proofs.YtoojafbicmdclaaDoor
namespace Go.Proofs
open Go.Shelf
def Tryd.laysM171_ren : Go.Shelf.Ren := ⟨fun | 171 => 30 | 243 => 41 | 246 => 57 | 283 => 74 | 284 => 75 | 285 => 76 | 286 => 77 | 129 => 88 | 317 => 87 | 318 => 89 | 319 => 90 | 320 => 91 | 337 => 98 | 338 => 99 | n => n, fun | 3 => 3 | 9 => 9 | 2 => 2 | 4 => 4 | 171 => 130 | 0 => 0 | 53 => 131 | 37 => 46 | 5 => 5 | 173 => 134 | 212 => 153 | 51 => 143 | 20 => 20 | 213 => 154 | 46 => 123 | 232 => 170 | 233 => 171 | n => n, fun | 17 => 5 | 18 => 6 | 19 => 7 | n => n⟩
theorem Tryd.laysM171 : Go.Proofs.LaysM.n171 Tryd.prog Tryd.laysM171_ren := {
 mixed := by kernel_rfl
 f129 := Tryd.func88.trans (congrArg some (by kernel_rfl))
 f171 := Tryd.func30.trans (congrArg some (by kernel_rfl))
 f243 := Tryd.func41.trans (congrArg some (by kernel_rfl))
 f246 := Tryd.func57.trans (congrArg some (by kernel_rfl))
 f283 := Tryd.func74.trans (congrArg some (by kernel_rfl))
 f284 := Tryd.func75.trans (congrArg some (by kernel_rfl))
 f285 := Tryd.func76.trans (congrArg some (by kernel_rfl))
 f286 := Tryd.func77.trans (congrArg some (by kernel_rfl))
 f317 := Tryd.func87.trans (congrArg some (by kernel_rfl))
 f318 := Tryd.func89.trans (congrArg some (by kernel_rfl))
 f319 := Tryd.func90.trans (congrArg some (by kernel_rfl))
 f320 := Tryd.func91.trans (congrArg some (by kernel_rfl))
 f337 := Tryd.func98.trans (congrArg some (by kernel_rfl))
 f338 := Tryd.func99.trans (congrArg some (by kernel_rfl))
 t0 := Tryd.underlying0
 a0 := Tryd.isAgg0
 z0 := Tryd.sizeOf0
 v0 := Tryd.zeroValue0
 t2 := Tryd.underlying2
 a2 := Tryd.isAgg2
 z2 := Tryd.sizeOf2
 v2 := Tryd.zeroValue2
 t3 := Tryd.underlying3
 a3 := Tryd.isAgg3
 z3 := Tryd.sizeOf3
 v3 := Tryd.zeroValue3
 t4 := Tryd.underlying4
 a4 := Tryd.isAgg4
 z4 := Tryd.sizeOf4
 v4 := Tryd.zeroValue4
 t5 := Tryd.underlying5
 a5 := Tryd.isAgg5
 z5 := Tryd.sizeOf5
 v5 := Tryd.zeroValue5
 t9 := Tryd.underlying9
 a9 := Tryd.isAgg9
 z9 := Tryd.sizeOf9
 v9 := Tryd.zeroValue9
 t20 := Tryd.underlying20
 a20 := Tryd.isAgg20
 z20 := Tryd.sizeOf20
 v20 := Tryd.zeroValue20
 t37 := Tryd.underlying46
 a37 := Tryd.isAgg46
 z37 := Tryd.sizeOf46
 v37 := Tryd.zeroValue46
 t46 := Tryd.underlying123
 a46 := Tryd.isAgg123
 z46 := Tryd.sizeOf123
 v46 := Tryd.zeroValue123
 t51 := Tryd.underlying143
 a51 := Tryd.isAgg143
 z51 := Tryd.sizeOf143
 v51 := Tryd.zeroValue143
 t53 := Tryd.underlying131
 a53 := Tryd.isAgg131
 z53 := Tryd.sizeOf131
 v53 := Tryd.zeroValue131
 t171 := Tryd.underlying130
 a171 := Tryd.isAgg130
 z171 := Tryd.sizeOf130
 v171 := Tryd.zeroValue130
 t173 := Tryd.underlying134
 a173 := Tryd.isAgg134
 z173 := Tryd.sizeOf134
 v173 := Tryd.zeroValue134
 t212 := Tryd.underlying153
 a212 := Tryd.isAgg153
 z212 := Tryd.sizeOf153
 v212 := Tryd.zeroValue153
 t213 := Tryd.underlying154
 a213 := Tryd.isAgg154
 z213 := Tryd.sizeOf154
 t232 := Tryd.underlying170
 a232 := Tryd.isAgg170
 z232 := Tryd.sizeOf170
 v232 := Tryd.zeroValue170
 t233 := Tryd.underlying171
 a233 := Tryd.isAgg171
 z233 := Tryd.sizeOf171
 v233 := Tryd.zeroValue171
 g17 := by kernel_rfl
 g18 := by kernel_rfl
 g19 := by kernel_rfl
 i0 := by kernel_rfl
 i2 := by kernel_rfl
 i3 := by kernel_rfl
 i4 := by kernel_rfl
 i5 := by kernel_rfl
 i9 := by kernel_rfl
 i20 := by kernel_rfl
 i37 := by kernel_rfl
 i46 := by kernel_rfl
 i51 := by kernel_rfl
 i53 := by kernel_rfl
 i171 := by kernel_rfl
 i173 := by kernel_rfl
 i212 := by kernel_rfl
 i232 := by kernel_rfl
 i233 := by kernel_rfl
 m17 := by kernel_rfl
 m18 := by kernel_rfl
 m19 := by kernel_rfl }
open Go.RowKit Go.Sort Go.Lib in
theorem Tryd.strconv_Itoa (n : Int) (h0 : -9223372036854775808 ≤ n) (h1 : n ≤ 9223372036854775807) (w : World) (htab : Lib.TabIs Tryd.prog w "internal/strconv.uint64pow10" .u64 Lib.pow10Tab) :
  Calls Tryd.prog 30 #[.int .i64 n] w fun e w' => e = .returned (.string ⟨(Lib.itoa n).toArray⟩) ∧ ∃ k os, w' = grow (w.drewN k) os := Any.strconv_Itoa Tryd.laysM171 n h0 h1 w htab
def Tryd.laysC172_ren : Go.Shelf.Ren := ⟨fun | 172 => 39 | 244 => 54 | 245 => 55 | 247 => 69 | 279 => 70 | 280 => 71 | 281 => 72 | 282 => 73 | 287 => 84 | 316 => 85 | 171 => 30 | 205 => 86 | 321 => 96 | 322 => 97 | 243 => 41 | 246 => 57 | 283 => 74 | 284 => 75 | 285 => 76 | 286 => 77 | 129 => 88 | 317 => 87 | 318 => 89 | 319 => 90 | 320 => 91 | 337 => 98 | 338 => 99 | n => n, fun | 9 => 9 | 3 => 3 | 75 => 92 | 76 => 93 | 4 => 4 | 5 => 5 | 167 => 124 | 37 => 46 | 0 => 0 | 85 => 125 | 2 => 2 | 168 => 127 | 53 => 131 | 175 => 146 | 46 => 123 | 210 => 150 | 127 => 162 | 145 => 165 | 143 => 163 | 21 => 21 | 171 => 130 | 173 => 134 | 212 => 153 | 51 => 143 | 20 => 20 | 213 => 154 | 232 => 170 | 233 => 171 | 80 => 172 | n => n, fun | 15 => 3 | 16 => 4 | 17 => 5 | 18 => 6 | 19 => 7 | n => n⟩
theorem Tryd.laysC172 : Go.Proofs.LaysC.n172 Tryd.prog Tryd.laysC172_ren := {
 mixed := by kernel_rfl
 f129 := Tryd.func88.trans (congrArg some (by kernel_rfl))
 f171 := Tryd.func30.trans (congrArg some (by kernel_rfl))
 f172 := Tryd.func39.trans (congrArg some (by kernel_rfl))
 f205 := Tryd.func86.trans (congrArg some (by kernel_rfl))
 f243 := Tryd.func41.trans (congrArg some (by kernel_rfl))
 f244 := Tryd.func54.trans (congrArg some (by kernel_rfl))
 f245 := Tryd.func55.trans (congrArg some (by kernel_rfl))
 f246 := Tryd.func57.trans (congrArg some (by kernel_rfl))
 f247 := Tryd.func69.trans (congrArg some (by kernel_rfl))
 f279 := Tryd.func70.trans (congrArg some (by kernel_rfl))
 f280 := Tryd.func71.trans (congrArg some (by kernel_rfl))
 f281 := Tryd.func72.trans (congrArg some (by kernel_rfl))
 f282 := Tryd.func73.trans (congrArg some (by kernel_rfl))
 f283 := Tryd.func74.trans (congrArg some (by kernel_rfl))
 f284 := Tryd.func75.trans (congrArg some (by kernel_rfl))
 f285 := Tryd.func76.trans (congrArg some (by kernel_rfl))
 f286 := Tryd.func77.trans (congrArg some (by kernel_rfl))
 f287 := Tryd.func84.trans (congrArg some (by kernel_rfl))
 f316 := Tryd.func85.trans (congrArg some (by kernel_rfl))
 f317 := Tryd.func87.trans (congrArg some (by kernel_rfl))
 f318 := Tryd.func89.trans (congrArg some (by kernel_rfl))
 f319 := Tryd.func90.trans (congrArg some (by kernel_rfl))
 f320 := Tryd.func91.trans (congrArg some (by kernel_rfl))
 f321 := Tryd.func96.trans (congrArg some (by kernel_rfl))
 f322 := Tryd.func97.trans (congrArg some (by kernel_rfl))
 f337 := Tryd.func98.trans (congrArg some (by kernel_rfl))
 f338 := Tryd.func99.trans (congrArg some (by kernel_rfl))
 t0 := Tryd.underlying0
 a0 := Tryd.isAgg0
 z0 := Tryd.sizeOf0
 v0 := Tryd.zeroValue0
 t2 := Tryd.underlying2
 a2 := Tryd.isAgg2
 z2 := Tryd.sizeOf2
 v2 := Tryd.zeroValue2
 t3 := Tryd.underlying3
 a3 := Tryd.isAgg3
 z3 := Tryd.sizeOf3
 v3 := Tryd.zeroValue3
 t4 := Tryd.underlying4
 a4 := Tryd.isAgg4
 z4 := Tryd.sizeOf4
 v4 := Tryd.zeroValue4
 t5 := Tryd.underlying5
 a5 := Tryd.isAgg5
 z5 := Tryd.sizeOf5
 v5 := Tryd.zeroValue5
 t9 := Tryd.underlying9
 a9 := Tryd.isAgg9
 z9 := Tryd.sizeOf9
 v9 := Tryd.zeroValue9
 t20 := Tryd.underlying20
 a20 := Tryd.isAgg20
 z20 := Tryd.sizeOf20
 v20 := Tryd.zeroValue20
 t21 := Tryd.underlying21
 a21 := Tryd.isAgg21
 z21 := Tryd.sizeOf21
 v21 := Tryd.zeroValue21
 t37 := Tryd.underlying46
 a37 := Tryd.isAgg46
 z37 := Tryd.sizeOf46
 v37 := Tryd.zeroValue46
 t46 := Tryd.underlying123
 a46 := Tryd.isAgg123
 z46 := Tryd.sizeOf123
 v46 := Tryd.zeroValue123
 t51 := Tryd.underlying143
 a51 := Tryd.isAgg143
 z51 := Tryd.sizeOf143
 v51 := Tryd.zeroValue143
 t53 := Tryd.underlying131
 a53 := Tryd.isAgg131
 z53 := Tryd.sizeOf131
 v53 := Tryd.zeroValue131
 t75 := Tryd.underlying92
 a75 := Tryd.isAgg92
 z75 := Tryd.sizeOf92
 v75 := Tryd.zeroValue92
 t76 := Tryd.underlying93
 a76 := Tryd.isAgg93
 z76 := Tryd.sizeOf93
 v76 := Tryd.zeroValue93
 t85 := Tryd.underlying125
 a85 := Tryd.isAgg125
 z85 := Tryd.sizeOf125
 v85 := Tryd.zeroValue125
 t127 := Tryd.underlying162
 a127 := Tryd.isAgg162
 z127 := Tryd.sizeOf162
 v127 := Tryd.zeroValue162
 t143 := Tryd.underlying163
 a143 := Tryd.isAgg163
 z143 := Tryd.sizeOf163
 v143 := Tryd.zeroValue163
 t145 := Tryd.underlying165
 a145 := Tryd.isAgg165
 z145 := Tryd.sizeOf165
 v145 := Tryd.zeroValue165
 t167 := Tryd.underlying124
 a167 := Tryd.isAgg124
 z167 := Tryd.sizeOf124
 v167 := Tryd.zeroValue124
 t168 := Tryd.underlying127
 a168 := Tryd.isAgg127
 z168 := Tryd.sizeOf127
 v168 := Tryd.zeroValue127
 t171 := Tryd.underlying130
 a171 := Tryd.isAgg130
 z171 := Tryd.sizeOf130
 v171 := Tryd.zeroValue130
 t173 := Tryd.underlying134
 a173 := Tryd.isAgg134
 z173 := Tryd.sizeOf134
 v173 := Tryd.zeroValue134
 t175 := Tryd.underlying146
 a175 := Tryd.isAgg146
 z175 := Tryd.sizeOf146
 v175 := Tryd.zeroValue146
 t210 := Tryd.underlying150
 a210 := Tryd.isAgg150
 z210 := Tryd.sizeOf150
 v210 := Tryd.zeroValue150
 t212 := Tryd.underlying153
 a212 := Tryd.isAgg153
 z212 := Tryd.sizeOf153
 v212 := Tryd.zeroValue153
 t213 := Tryd.underlying154
 a213 := Tryd.isAgg154
 z213 := Tryd.sizeOf154
 t232 := Tryd.underlying170
 a232 := Tryd.isAgg170
 z232 := Tryd.sizeOf170
 v232 := Tryd.zeroValue170
 t233 := Tryd.underlying171
 a233 := Tryd.isAgg171
 z233 := Tryd.sizeOf171
 v233 := Tryd.zeroValue171
 g15 := by kernel_rfl
 g16 := by kernel_rfl
 g17 := by kernel_rfl
 g18 := by kernel_rfl
 g19 := by kernel_rfl
 t80 := Tryd.underlying172
 a80 := Tryd.isAgg172
 z80 := Tryd.sizeOf172
 v80 := Tryd.zeroValue172
 i0 := by kernel_rfl
 i2 := by kernel_rfl
 i3 := by kernel_rfl
 i4 := by kernel_rfl
 i5 := by kernel_rfl
 i9 := by kernel_rfl
 i20 := by kernel_rfl
 i21 := by kernel_rfl
 i37 := by kernel_rfl
 i46 := by kernel_rfl
 i51 := by kernel_rfl
 i53 := by kernel_rfl
 i75 := by kernel_rfl
 i76 := by kernel_rfl
 i80 := by kernel_rfl
 i85 := by kernel_rfl
 i127 := by kernel_rfl
 i143 := by kernel_rfl
 i145 := by kernel_rfl
 i167 := by kernel_rfl
 i168 := by kernel_rfl
 i171 := by kernel_rfl
 i173 := by kernel_rfl
 i175 := by kernel_rfl
 i210 := by kernel_rfl
 i212 := by kernel_rfl
 i232 := by kernel_rfl
 i233 := by kernel_rfl
 m15 := by kernel_rfl
 m16 := by kernel_rfl
 m17 := by kernel_rfl
 m18 := by kernel_rfl
 m19 := by kernel_rfl
 c0 := by kernel_rfl
 c2 := by kernel_rfl
 c3 := by kernel_rfl
 c4 := by kernel_rfl
 c5 := by kernel_rfl
 c9 := by kernel_rfl
 c20 := by kernel_rfl
 c21 := by kernel_rfl
 c37 := by kernel_rfl
 c46 := by kernel_rfl
 c51 := by kernel_rfl
 c53 := by kernel_rfl
 c75 := by kernel_rfl
 c76 := by kernel_rfl
 c80 := by kernel_rfl
 c85 := by kernel_rfl
 c127 := by kernel_rfl
 c143 := by kernel_rfl
 c145 := by kernel_rfl
 c167 := by kernel_rfl
 c168 := by kernel_rfl
 c171 := by kernel_rfl
 c173 := by kernel_rfl
 c175 := by kernel_rfl
 c210 := by kernel_rfl
 c212 := by kernel_rfl
 c213 := by kernel_rfl
 c232 := by kernel_rfl
 c233 := by kernel_rfl }
open Go.RowKit in
theorem Tryd.strconv_Atoi_ok (s : ByteArray) (hmax : s.size ≤ 9223372036854775806) (v : Int) (h : Lib.atoiAll s.data.toList = .ok v) (w : World) :
  Calls Tryd.prog 39 #[.string s] w fun e w' => e = .returned (.tuple #[.int .i64 v, .nilIface]) ∧ (w' = w ∨ ∃ t, w' = Lib.bytesWorld w 5 t) := Any.strconv_Atoi_ok Tryd.laysC172 s hmax v h w
open Go.RowKit in
theorem Tryd.strconv_Atoi_syntax_var (s : ByteArray) (hlim : s.size ≤ 281474976710656) (h : Lib.atoiAll s.data.toList = Lib.atoiAll []) (tp : TypeId) (p : Value) (w : World) (hvar : w.var? Tryd.prog "strconv.ErrSyntax" = some #[.iface tp p]) :
  Calls Tryd.prog 39 #[.string s] w fun e w' => ∃ N, e = .returned (.tuple #[.int .i64 0, .iface 127 (.pointer (some ⟨N, 0, none⟩))]) ∧ w.heap.size ≤ N ∧ w'.heap[N]? = some (.cells #[.string ⟨#[65, 116, 111, 105]⟩, .string s, .iface tp p] 150 (0, 0)) ∧ Below w.heap.size w w' := Any.strconv_Atoi_syntax_var Tryd.laysC172 s hlim h tp p w hvar
open Go.RowKit in
theorem Tryd.strconv_Atoi_range_var (s : ByteArray) (hlim : s.size ≤ 281474976710656) (h : Lib.atoiAll s.data.toList = .range) (tp : TypeId) (p : Value) (w : World) (hvar : w.var? Tryd.prog "strconv.ErrRange" = some #[.iface tp p]) :
  Calls Tryd.prog 39 #[.string s] w fun e w' => ∃ N, e = .returned (.tuple #[.int .i64 (Lib.atoiSat s.data.toList), .iface 127 (.pointer (some ⟨N, 0, none⟩))]) ∧ w.heap.size ≤ N ∧ w'.heap[N]? = some (.cells #[.string ⟨#[65, 116, 111, 105]⟩, .string s, .iface tp p] 150 (0, 0)) ∧ Below w.heap.size w w' := Any.strconv_Atoi_range_var Tryd.laysC172 s hlim h tp p w hvar
def Tryd.lays146_ren : Go.Shelf.Ren := ⟨fun | 146 => 15 | 221 => 26 | 268 => 36 | 138 => 37 | 143 => 38 | 195 => 50 | 197 => 51 | 218 => 52 | 219 => 53 | 260 => 64 | 217 => 65 | 225 => 66 | 224 => 67 | 267 => 68 | 266 => 82 | 314 => 83 | n => n, fun | 9 => 9 | 31 => 41 | 3 => 3 | 4 => 4 | 0 => 0 | 105 => 111 | 21 => 21 | 5 => 5 | 46 => 123 | 119 => 139 | 139 => 142 | 138 => 141 | 146 => 144 | 51 => 143 | n => n, fun | 1 => 0 | 3 => 1 | 4 => 2 | n => n⟩
theorem Tryd.lays146 : Go.Proofs.Lays.n146 Tryd.prog Tryd.lays146_ren := {
 mixed := by kernel_rfl
 f138 := Tryd.func37.trans (congrArg some (by kernel_rfl))
 f143 := Tryd.func38.trans (congrArg some (by kernel_rfl))
 f146 := Tryd.func15.trans (congrArg some (by kernel_rfl))
 f195 := Tryd.func50.trans (congrArg some (by kernel_rfl))
 f197 := Tryd.func51.trans (congrArg some (by kernel_rfl))
 f217 := Tryd.func65.trans (congrArg some (by kernel_rfl))
 f218 := Tryd.func52.trans (congrArg some (by kernel_rfl))
 f219 := Tryd.func53.trans (congrArg some (by kernel_rfl))
 f221 := Tryd.func26.trans (congrArg some (by kernel_rfl))
 f224 := Tryd.func67.trans (congrArg some (by kernel_rfl))
 f225 := Tryd.func66.trans (congrArg some (by kernel_rfl))
 f260 := Tryd.func64.trans (congrArg some (by kernel_rfl))
 f266 := Tryd.func82.trans (congrArg some (by kernel_rfl))
 f267 := Tryd.func68.trans (congrArg some (by kernel_rfl))
 f268 := Tryd.func36.trans (congrArg some (by kernel_rfl))
 f314 := Tryd.func83.trans (congrArg some (by kernel_rfl))
 t0 := Tryd.underlying0
 a0 := Tryd.isAgg0
 z0 := Tryd.sizeOf0
 v0 := Tryd.zeroValue0
 t3 := Tryd.underlying3
 a3 := Tryd.isAgg3
 z3 := Tryd.sizeOf3
 v3 := Tryd.zeroValue3
 t4 := Tryd.underlying4
 a4 := Tryd.isAgg4
 z4 := Tryd.sizeOf4
 v4 := Tryd.zeroValue4
 t5 := Tryd.underlying5
 a5 := Tryd.isAgg5
 z5 := Tryd.sizeOf5
 v5 := Tryd.zeroValue5
 t9 := Tryd.underlying9
 a9 := Tryd.isAgg9
 z9 := Tryd.sizeOf9
 v9 := Tryd.zeroValue9
 t21 := Tryd.underlying21
 a21 := Tryd.isAgg21
 z21 := Tryd.sizeOf21
 v21 := Tryd.zeroValue21
 t31 := Tryd.underlying41
 a31 := Tryd.isAgg41
 z31 := Tryd.sizeOf41
 v31 := Tryd.zeroValue41
 t46 := Tryd.underlying123
 a46 := Tryd.isAgg123
 z46 := Tryd.sizeOf123
 v46 := Tryd.zeroValue123
 t51 := Tryd.underlying143
 a51 := Tryd.isAgg143
 z51 := Tryd.sizeOf143
 v51 := Tryd.zeroValue143
 t105 := Tryd.underlying111
 a105 := Tryd.isAgg111
 z105 := Tryd.sizeOf111
 v105 := Tryd.zeroValue111
 t119 := Tryd.underlying139
 a119 := Tryd.isAgg139
 z119 := Tryd.sizeOf139
 t138 := Tryd.underlying141
 a138 := Tryd.isAgg141
 z138 := Tryd.sizeOf141
 v138 := Tryd.zeroValue141
 t139 := Tryd.underlying142
 a139 := Tryd.isAgg142
 z139 := Tryd.sizeOf142
 v139 := Tryd.zeroValue142
 t146 := Tryd.underlying144
 a146 := Tryd.isAgg144
 z146 := Tryd.sizeOf144
 v146 := Tryd.zeroValue144
 g1 := by kernel_rfl
 g3 := by kernel_rfl
 g4 := by kernel_rfl }
open Go.RowKit Go.Lib in
theorem Tryd.strings_Split (s sep : ByteArray) (m : Int) (w : World) (hs : s.size < 4294967281) (hm : w.cell? ⟨0, 0, none⟩ = some (.int .i64 m)) (h1 : 1 ≤ sep.size) :
  Calls Tryd.prog 15 #[.string s, .string sep] w fun e w' =>
   e = .returned (.slice (some ⟨w.heap.size, 0, none⟩) (Lib.countB s sep + 1) (Lib.countB s sep + 1)) ∧ w' = w.alloc (.cells ((Lib.splitB sep 0 (Lib.countB s sep) s).map Value.string).toArray 9) := Any.strings_Split Tryd.lays146 (by kernel_rfl) s sep m w hs hm h1
def Tryd.laysM146_ren : Go.Shelf.Ren := ⟨fun | 146 => 15 | 221 => 26 | 268 => 36 | 138 => 37 | 143 => 38 | 195 => 50 | 197 => 51 | 218 => 52 | 219 => 53 | 260 => 64 | 217 => 65 | 225 => 66 | 224 => 67 | 267 => 68 | 266 => 82 | 314 => 83 | n => n, fun | 9 => 9 | 31 => 41 | 3 => 3 | 4 => 4 | 0 => 0 | 105 => 111 | 21 => 21 | 5 => 5 | 46 => 123 | 119 => 139 | 139 => 142 | 138 => 141 | 146 => 144 | 51 => 143 | n => n, fun | 1 => 0 | 3 => 1 | 4 => 2 | n => n⟩
theorem Tryd.laysM146 : Go.Proofs.LaysM.n146 Tryd.prog Tryd.laysM146_ren := {
 mixed := by kernel_rfl
 f138 := Tryd.func37.trans (congrArg some (by kernel_rfl))
 f143 := Tryd.func38.trans (congrArg some (by kernel_rfl))
 f146 := Tryd.func15.trans (congrArg some (by kernel_rfl))
 f195 := Tryd.func50.trans (congrArg some (by kernel_rfl))
 f197 := Tryd.func51.trans (congrArg some (by kernel_rfl))
 f217 := Tryd.func65.trans (congrArg some (by kernel_rfl))
 f218 := Tryd.func52.trans (congrArg some (by kernel_rfl))
 f219 := Tryd.func53.trans (congrArg some (by kernel_rfl))
 f221 := Tryd.func26.trans (congrArg some (by kernel_rfl))
 f224 := Tryd.func67.trans (congrArg some (by kernel_rfl))
 f225 := Tryd.func66.trans (congrArg some (by kernel_rfl))
 f260 := Tryd.func64.trans (congrArg some (by kernel_rfl))
 f266 := Tryd.func82.trans (congrArg some (by kernel_rfl))
 f267 := Tryd.func68.trans (congrArg some (by kernel_rfl))
 f268 := Tryd.func36.trans (congrArg some (by kernel_rfl))
 f314 := Tryd.func83.trans (congrArg some (by kernel_rfl))
 t0 := Tryd.underlying0
 a0 := Tryd.isAgg0
 z0 := Tryd.sizeOf0
 v0 := Tryd.zeroValue0
 t3 := Tryd.underlying3
 a3 := Tryd.isAgg3
 z3 := Tryd.sizeOf3
 v3 := Tryd.zeroValue3
 t4 := Tryd.underlying4
 a4 := Tryd.isAgg4
 z4 := Tryd.sizeOf4
 v4 := Tryd.zeroValue4
 t5 := Tryd.underlying5
 a5 := Tryd.isAgg5
 z5 := Tryd.sizeOf5
 v5 := Tryd.zeroValue5
 t9 := Tryd.underlying9
 a9 := Tryd.isAgg9
 z9 := Tryd.sizeOf9
 v9 := Tryd.zeroValue9
 t21 := Tryd.underlying21
 a21 := Tryd.isAgg21
 z21 := Tryd.sizeOf21
 v21 := Tryd.zeroValue21
 t31 := Tryd.underlying41
 a31 := Tryd.isAgg41
 z31 := Tryd.sizeOf41
 v31 := Tryd.zeroValue41
 t46 := Tryd.underlying123
 a46 := Tryd.isAgg123
 z46 := Tryd.sizeOf123
 v46 := Tryd.zeroValue123
 t51 := Tryd.underlying143
 a51 := Tryd.isAgg143
 z51 := Tryd.sizeOf143
 v51 := Tryd.zeroValue143
 t105 := Tryd.underlying111
 a105 := Tryd.isAgg111
 z105 := Tryd.sizeOf111
 v105 := Tryd.zeroValue111
 t119 := Tryd.underlying139
 a119 := Tryd.isAgg139
 z119 := Tryd.sizeOf139
 t138 := Tryd.underlying141
 a138 := Tryd.isAgg141
 z138 := Tryd.sizeOf141
 v138 := Tryd.zeroValue141
 t139 := Tryd.underlying142
 a139 := Tryd.isAgg142
 z139 := Tryd.sizeOf142
 v139 := Tryd.zeroValue142
 t146 := Tryd.underlying144
 a146 := Tryd.isAgg144
 z146 := Tryd.sizeOf144
 v146 := Tryd.zeroValue144
 g1 := by kernel_rfl
 g3 := by kernel_rfl
 g4 := by kernel_rfl
 i0 := by kernel_rfl
 i3 := by kernel_rfl
 i4 := by kernel_rfl
 i5 := by kernel_rfl
 i9 := by kernel_rfl
 i21 := by kernel_rfl
 i31 := by kernel_rfl
 i46 := by kernel_rfl
 i51 := by kernel_rfl
 i105 := by kernel_rfl
 i138 := by kernel_rfl
 i139 := by kernel_rfl
 i146 := by kernel_rfl
 m1 := by kernel_rfl
 s1_3 := fun w h => Go.Proofs.cell_of_shapedOpen_int (zero := #[.int .i64 0]) (t := 3) h (of_decide_eq_true (by kernel_rfl)) (by kernel_rfl) rfl (by kernel_rfl) (by kernel_rfl) Tryd.underlying3
 m3 := by kernel_rfl
 m4 := by kernel_rfl }
end Go.Proofs
namespace Go.Proofs.YtoojafbicmdclaaDoor
open Go.Ab Go.Tb
set_option maxRecDepth 10000
attribute [local irreducible] W WO Pu QS QB QL QF QV QV1 CH QE
theorem numB_size {n : Int} (h : n.natAbs < 10 ^ 20) : (numB n).size ≤ 21 := by
 have e : (numB n).size = (Lib.itoa n).length := Array.length_toList.symm
 rw [e]
 rcases Int.lt_or_le n 0 with hn | hn
 · rw [numB_neg hn, List.length_cons]; have := digB_len n.natAbs 19 h; omega
 · rw [numB_pos hn]; have := digB_len n.toNat 19 (by omega); omega
theorem within_fn (n : Int) (ok : Bool) : Does Tryd.prog 40 [.d (.v (.int .i64 n)), .d (.v (.bool ok))] (.tup [.d (.v (.int .i64 (if ok && inR n then n else 0))), .d (.v (.bool (ok && inR n)))]) 0 := by
 refine Does.of_W (n := 14) (ts := [4, 5]) Tryd.func40 (by kernel_rfl) rfl Tryd.ntmps40 Tryd.results40 rfl rfl fun C hC hG => ?_
 refine W.seq (W.region ?_)
 iterate 2 refine pE rfl ?_
 refine WO.nil (qs ?_)
 iterate 2 refine W.seq ?_
 apply regionB; (case hb => rfl)
 ·
  iterate 3 refine pE rfl ?_
  apply splitJ; (case hj => rfl); (case hl => rfl)
  ·
   iterate 3 refine skipT rfl rfl rfl rfl ?_
   refine pE rfl ?_
   refine WO.nil ?_
   refine qv1 rfl rfl rfl
  ·
   refine goG rfl rfl ?_
   refine pE rfl ?_
   refine goG rfl rfl ?_
   refine pu (puCall rfl rfl rfl (in_fn ..) rfl) rfl ?_
   refine goG rfl rfl ?_
   iterate 2 refine pE rfl ?_
   refine WO.nil ?_
   refine qv1 rfl rfl rfl
 refine qs ?_
 refine condK rfl (fun h12 => ?_) (fun h12 => ?_)
 ·
  refine W.seq (W.region ?_)
  iterate 2 refine pE rfl ?_
  refine WO.nil (qs (W.ret (qsRet ?_)))
  refine QF.ret0 trivial rfl ?_
  cases ok <;> cases h : inR n <;> simp_all [norm, normL, oneA]
 ·
  refine W.skip (qs (W.seq (W.region ?_)))
  iterate 3 refine pE rfl ?_
  refine WO.nil (qs (W.ret ?_))
  refine QF.ret0 trivial rfl ?_
  cases ok <;> cases h : inR n <;> simp_all [norm, normL, oneA]
end Go.Proofs.YtoojafbicmdclaaDoor
namespace Go.Proofs.YtoojafbicmdclaaDoor
open Go.Ab Go.Tb
set_option maxRecDepth 10000
attribute [local irreducible] W WO Pu QS QB QL QF QV QV1 CH QE
theorem num_of {w : World} (hu : Under Tryd.prog w) : MetNum Tryd.prog w := hu.num (fun _ h => h)
theorem numB_ok {n : Int} (h : n.natAbs < 10 ^ 20) : okc (.string (numB n)) = true := by
 have := numB_size h
 exact decide_eq_true (by simp only [maxLen]; omega)
theorem abs_int {n : Int} (h0 : -9223372036854775808 ≤ n) (h1 : n ≤ 9223372036854775807) : n.natAbs < 10 ^ 20 := by
 have hp : (10 : Nat) ^ 20 = 100000000000000000000 := by decide
 omega
open Go.RowKit in
theorem itoa_fn (n : Int) (h0 : -9223372036854775808 ≤ n) (h1 : n ≤ 9223372036854775807) : Does Tryd.prog 30 [.d (.v (.int .i64 n))] (.d (.v (.string (numB n)))) 0 :=
 Does.of_freshV (xs := [.int .i64 n]) ⟨_, Tryd.func30, by kernel_rfl, by kernel_rfl⟩ fun w hu _ =>
  (Tryd.strconv_Itoa n h0 h1 w (num_of hu).1).mono fun e w' ⟨he, k, os, hw⟩ =>
   ⟨_, he, hw ▸ Lib.below_grow _ w (Nat.le_refl _) k os, fun _ _ _ => .d (.v _ (numB_ok (abs_int h0 h1)))⟩
theorem text_fn (n : Int) (h0 : -9223372036854775808 ≤ n) (h1 : n ≤ 9223372036854775807) : Does Tryd.prog 21 [.d (.v (.int .i64 n))] (.d (.v (.string (numB n)))) 0 := by
 refine Does.of_W (n := 5) (ts := [2]) Tryd.func21 (by kernel_rfl) rfl Tryd.ntmps21 Tryd.results21 rfl rfl fun C hC hG => ?_
 refine W.seq (W.region ?_)
 refine pE rfl ?_
 refine WO.nil (qs (W.seq (W.region ?_)))
 refine pE rfl ?_
 refine pu (puCall rfl rfl rfl ((itoa_fn _ (by assumption) (by assumption))) rfl) rfl ?_
 refine pE rfl ?_
 refine WO.nil (qs (W.ret ?_))
 refine QF.ret0 trivial rfl ?_
 rfl
def atoiA (s : ByteArray) : A :=
 match Lib.atoiAll s.data.toList with
 | .ok v => .tup [.d (.v (.int .i64 v)), .d (.v .nilIface)]
 | .range => .tup [.d (.v (.int .i64 (Lib.atoiSat s.data.toList))), .ni]
 | _ => .tup [.d (.v (.int .i64 0)), .ni]
theorem sat_ok (l : List UInt8) : okc (.int .i64 (Lib.atoiSat l)) = true := by
 unfold Lib.atoiSat
 split <;> (try split) <;> decide
open Go.RowKit in
theorem atoi_fn (s : ByteArray) (hs : s.size ≤ 281474976710656) : Does Tryd.prog 39 [.d (.v (.string s))] (atoiA s) 0 :=
 Does.of_freshV (xs := [.string s]) ⟨_, Tryd.func39, by kernel_rfl, by kernel_rfl⟩ fun w hu _ => by
  obtain ⟨_, ⟨t, p, h2⟩, t', p', h3⟩ := num_of hu
  unfold atoiA
  cases h : Lib.atoiAll s.data.toList with
  | ok v =>
   have hb := Lib.atoiAll_bounds h
   refine (Tryd.strconv_Atoi_ok s (by omega) v h w).mono fun e w' ⟨he, hw⟩ => ⟨_, he, ?_, fun _ _ _ => pairRep (.d (.v _ ?_)) (.d (.v _ rfl))⟩
   ·
    rcases hw with rfl | ⟨t, rfl⟩
    · exact Below.refl _ _
    · exact Joins.below_bytesWorld _ w _ _ (Nat.le_refl _)
   ·
    simp [okc, IntKind.min, IntKind.max, IntKind.signed, IntKind.bits]
    omega
  | range =>
   exact (Tryd.strconv_Atoi_range_var s hs h t' p' w h3).mono fun e w' ⟨N, he, _, _, hb⟩ => ⟨_, he, hb, fun _ _ _ => pairRep (.d (.v _ (sat_ok _))) (.ni _ _)⟩
  | _ =>
   exact (Tryd.strconv_Atoi_syntax_var s hs h t p w h2).mono fun e w' ⟨N, he, _, _, hb⟩ => ⟨_, he, hb, fun _ _ _ => pairRep (.d (.v _ (by decide))) (.ni _ _)⟩
end Go.Proofs.YtoojafbicmdclaaDoor
namespace Go.Proofs.YtoojafbicmdclaaDoor
open Go.Ab Go.Tb
set_option maxRecDepth 10000
attribute [local irreducible] W WO Pu QS QB QL QF QV QV1 CH QE
open Go.RowKit in
theorem split_fn (s : ByteArray) (c : UInt8) (hs : s.size ≤ 1000000) : Does Tryd.prog 15 [.d (.v (.string s)), .d (.v (.string ⟨#[c]⟩))] (.d (.sl ((cutB s c).map fun s => [.v (.string s)]))) 0 :=
 Does.of_freshV (xs := [.string s, .string ⟨#[c]⟩]) ⟨_, Tryd.func15, by kernel_rfl, by kernel_rfl⟩ fun w hu _ => by
  obtain ⟨m, hm⟩ := hu.cell (b := _) Tryd.laysM146.s1_3
  refine (Tryd.strings_Split s ⟨#[c]⟩ m w (by omega) hm (Nat.le_refl 1)).mono fun e w' ⟨he, hw⟩ => ⟨_, he, ?_, fun E' hE hpv => .d ?_⟩
  · rw [hw]; exact (Below.refl _ _).alloc (Nat.le_refl _) _
  ·
   have hlen : Lib.countB s ⟨#[c]⟩ + 1 = (cutB s c).length := by rw [← splitB_cut]; exact (Lib.splitB_all ⟨#[c]⟩ (Nat.le_refl 1) 0 _ s rfl).symm
   rw [hlen]
   rw [splitB_cut] at hw
   have hcl : (cutB s c).length ≤ s.size + 1 := by
    have h1 := cutL_len c s.data.toList
    have h2 : s.data.toList.length = s.size := Array.length_toList
    unfold cutB
    rw [List.length_map]
    omega
   refine RepD.newStrs (b := w.heap.size) (arr := ((cutB s c).map Value.string).toArray) (T := 9) ?_ (Nat.le_refl _) (by simp only [maxLen]; omega) (fun j t hj => ⟨by simp [hj], ?_⟩) (fun o hp => absurd (hpv _ _ hp) (Nat.lt_irrefl _))
   · rw [hE, hw]; exact (MapKept.heap_alloc w _).1
   ·
    have hm2 : t ∈ cutB s c := List.mem_of_getElem? hj
    unfold cutB at hm2
    obtain ⟨x, hx, rfl⟩ := List.mem_map.1 hm2
    have h1 := cutL_mem c _ x hx
    have h2 : s.data.toList.length = s.size := Array.length_toList
    have h3 : (ofL x).size = x.length := (Array.length_toList (xs := (ofL x).data)).symm
    simp only [maxLen]
    omega
end Go.Proofs.YtoojafbicmdclaaDoor
namespace Go.Proofs.YtoojafbicmdclaaDoor
open Go.Ab Go.Tb
set_option maxRecDepth 10000
attribute [local irreducible] W WO Pu QS QB QL QF QV QV1 CH QE
theorem name_03 (s : ByteArray) : nameErr s = 0 ∨ nameErr s = 3 := by unfold nameErr; split <;> simp
theorem frames_fn (l : List ByteArray) : Does Tryd.prog 101 [.d (.sl (txs l))] (.d (.v (.int .i64 (framesErr l)))) 0 := by
 refine Does.of_W (n := 21) (ts := [2]) Tryd.func101 (by kernel_rfl) rfl Tryd.ntmps101 Tryd.results101 rfl rfl fun C hC hG => ?_
 refine W.seq (W.region ?_)
 refine pE rfl ?_
 refine WO.nil (qs ?_)
 iterate 2 refine W.seq ?_
 refine W.region ?_
 iterate 3 refine pE rfl ?_
 refine WO.nil (qs ?_)
 refine condK rfl (fun h8 => ?_) (fun h8 => ?_)
 ·
  have hg : framesErr l = 7 := by unfold framesErr; rw [if_pos (by simp at h8; omega)]
  refine W.seq (W.region ?_)
  refine pE rfl ?_
  refine WO.nil (qs (W.ret (qsRet ?_)))
  refine QF.ret0 trivial rfl ?_
  rw [hg]; rfl
 ·
  have hg : framesErr l = if l.any (fun s => decide (nameErr s ≠ 0)) then 3 else 0 := by unfold framesErr; rw [if_neg (by simp at h8; omega)]
  refine W.skip (qs ?_)
  iterate 2 refine W.seq ?_
  refine W.region ?_
  iterate 3 refine pE rfl ?_
  refine WO.nil (qs (W.block ?_))
  refine W.len (t := 0) rfl rfl (fun hlen => ?_)
  try simp only [List.length_map, Ex.kc_len] at hlen
  refine W.loopR (ι := {x : Nat // match x with | k => k ≤ l.length ∧ (l.drop k).any (fun s => decide (nameErr s ≠ 0)) = l.any (fun s => decide (nameErr s ≠ 0))})
   (fun x => match x.1 with | k => [(11, .d (.v (.int .i64 ((k : Nat) : Int))))]) [(9, _), (10, _)]
   (fun x => match x.1 with | k => []) [] [] 0 (fun x => match x.1 with | k => l.length - k)
   [] ⟨0, ?_⟩ rfl ?_ ⟨rfl, rfl, rfl, rfl, trivial⟩ ?_ trivial rfl ?_
  · first | exact ⟨Nat.zero_le _, rfl⟩ | exact trivial | simp
  · repeat' first | exact trivial | refine ⟨rfl, ?_⟩ | refine ⟨congrArg some (renL_boxE _ _ _), ?_⟩ | refine ⟨step_nat (by assumption) (by assumption), ?_⟩
  · repeat' first | exact trivial | refine ⟨rfl, ?_⟩ | refine ⟨congrArg some (renL_boxE _ _ _), ?_⟩ | refine ⟨step_nat (by assumption) (by assumption), ?_⟩
  rintro ⟨k, hk, hI⟩
  show W _ _ _ _ _ ⟨[(11, .d (.v (.int .i64 ((k : Nat) : Int)))), (9, _), (10, _)], [], [], 0⟩
  refine W.seq (W.region ?_)
  refine pE rfl ?_
  refine WO.nil (qs (W.seq ?_))
  refine eachR (l := l) (k := k) rfl (by simp [Ex.kc_len, bytes_len]) hk (fun s hx hd hlt => ?_) (fun he hd => ?_)
  ·
   rw [hd, List.any_cons] at hI
   refine W.skip (qs (W.seq (W.block (W.seq (W.region ?_)))))
   refine pu (indexAddr tab rfl rfl rfl rfl rfl rfl (Int.natCast_nonneg _) (idx_map hx) rfl) rfl ?_
   first | refine pE rfl ?_ | refine pR rfl rfl rfl rfl rfl ?_ | refine pB rfl rfl rfl rfl rfl rfl ?_
   refine pE rfl ?_
   refine WO.nil (qs (W.seq (W.region ?_)))
   refine pE rfl ?_
   refine pu (puCall rfl rfl rfl (name_fn s) rfl) rfl ?_
   refine pE rfl ?_
   refine WO.nil (qs (W.seq (W.region ?_)))
   iterate 2 refine pE rfl ?_
   refine WO.nil (qs ?_)
   refine condK rfl (fun h18 => ?_) (fun h18 => ?_)
   ·
    have hn : nameErr s = 3 := by rcases name_03 s with q | q <;> simp_all
    rw [hn] at hI
    refine W.seq (W.region ?_)
    iterate 2 refine pE rfl ?_
    refine WO.nil (qs (W.ret (qbRet (qsRet (qlRet (qbRet (qsRet ?_)))))))
    refine QF.ret0 trivial rfl ?_
    rw [hg, ← hI]; simp [norm, oneA, hn]
   ·
    have hn : nameErr s = 0 := by simpa using h18
    rw [hn] at hI
    refine W.skip (qbN (qs (W.region ?_)))
    iterate 2 refine pE rfl ?_
    refine WO.nil ?_
    refine W.endR [] ⟨k + 1, ?_⟩ ?_ rfl ?_ ⟨rfl, rfl, rfl, rfl, trivial⟩ ?_ trivial rfl
    · exact ⟨hlt, by simpa using hI⟩
    · dsimp only; omega
    · repeat' first | exact trivial | refine ⟨rfl, ?_⟩ | refine ⟨congrArg some (renL_boxE _ _ _), ?_⟩ | refine ⟨step_nat (by assumption) (by assumption), ?_⟩
    · repeat' first | exact trivial | refine ⟨rfl, ?_⟩ | refine ⟨congrArg some (renL_boxE _ _ _), ?_⟩ | refine ⟨step_nat (by assumption) (by assumption), ?_⟩
  ·
   rw [hd, List.any_nil] at hI
   refine W.exit (qsExit (qlExit (qbExit (qs (W.seq (W.region ?_))))))
   refine pE rfl ?_
   refine WO.nil (qs (W.ret ?_))
   refine QF.ret0 trivial rfl ?_
   rw [hg, ← hI]; rfl
theorem forms_fn : Does Tryd.prog 100 [] (.d (.sl (frms.map Frm.c))) 0 := by
 refine Does.of_W (n := 15) (ts := [0]) Tryd.func100 (by kernel_rfl) rfl Tryd.ntmps100 Tryd.results100 rfl rfl fun C hC hG => ?_
 refine W.seq (W.region ?_)
 refine pE rfl ?_
 refine WO.nil (qs (W.seq (W.region ?_)))
 refine pu (build tab rfl rfl rfl rfl) rfl ?_
 refine pu (build tab rfl rfl rfl rfl) rfl ?_
 refine pu (build tab rfl rfl rfl rfl) rfl ?_
 refine pu (build tab rfl rfl rfl rfl) rfl ?_
 refine pu (build tab rfl rfl rfl rfl) rfl ?_
 refine pu (build tab rfl rfl rfl rfl) rfl ?_
 refine pu (build tab rfl rfl rfl rfl) rfl ?_
 refine pu (build tab rfl rfl rfl rfl) rfl ?_
 refine pu (build tab rfl rfl rfl rfl) rfl ?_
 refine pu (build tab rfl rfl rfl rfl) rfl ?_
 refine pu (build tab rfl rfl rfl rfl) rfl ?_
 refine pu (build tab rfl rfl rfl rfl) rfl ?_
 refine pu (build tab rfl rfl rfl rfl) rfl ?_
 refine pu (buildV tab rfl rfl rfl rfl rfl rfl rfl rfl rfl) rfl ?_
 refine pE rfl ?_
 refine WO.nil (qs (W.ret ?_))
 refine QF.ret0 trivial rfl ?_
 rfl
theorem frm_at {k : Int} (h1 : 1 ≤ k) (h2 : k < 13) : frms[k.toNat]? = some (frmOf k) := by
 rcases kinds h1 h2 with h | h | h | h | h | h | h | h | h | h | h | h <;> subst h <;> rfl
theorem formOf_fn (k : Int) : Does Tryd.prog 94 [.d (.v (.int .i64 k))] (.tup [.ag (frmOf k).c, .d (.v (.bool (frmIs k)))]) 0 := by
 refine Does.of_V tab (n := 19) (rs := [.cell 2 157, .tmp 3]) Tryd.func94 (by kernel_rfl) rfl Tryd.ntmps94 Tryd.results94 rfl fun C hC hG => ?_
 refine W.seq (W.region ?_)
 refine allocR tab rfl rfl rfl ?_
 refine pE rfl ?_
 refine WO.nil (qs (W.seq (W.region ?_)))
 refine pu (puCall rfl rfl rfl (forms_fn ..) rfl) rfl ?_
 refine pE rfl ?_
 refine WO.nil (qs ?_)
 iterate 2 refine W.seq ?_
 apply regionB; (case hb => rfl)
 ·
  iterate 3 refine pE rfl ?_
  apply splitJ; (case hj => rfl); (case hl => rfl)
  ·
   iterate 4 refine skipT rfl rfl rfl rfl ?_
   refine pE rfl ?_
   refine WO.nil ?_
   refine qv1 rfl rfl rfl
  ·
   refine goG rfl rfl ?_
   refine pE rfl ?_
   refine goG rfl rfl ?_
   refine pE rfl ?_
   refine goG rfl rfl ?_
   refine pE rfl ?_
   refine goG rfl rfl ?_
   iterate 2 refine pE rfl ?_
   refine WO.nil ?_
   refine qv1 rfl rfl rfl
 refine qs ?_
 refine condK rfl (fun h13 => ?_) (fun h13 => ?_)
 ·
  have hg : frmOf k = frm0 ∧ frmIs k = false := by
   have : k < 1 ∨ 13 ≤ k := by simp at h13; revert h13; show _ → _; intro h; simpa [frms] using h
   exact ⟨by unfold frmOf; rw [if_pos this], by simp [frmIs]; omega⟩
  refine W.seq (W.region ?_)
  refine pu (build tab rfl rfl rfl rfl) rfl ?_
  refine storeR tab rfl rfl rfl rfl rfl rfl rfl rfl ?_
  refine pE rfl ?_
  refine WO.nil (qs (W.ret (qsRet ?_)))
  refine QV.ret0 tab trivial rfl ?_
  rw [hg.1, hg.2]; rfl
 ·
  have h12 : 1 ≤ k ∧ k < 13 := by simp at h13; simpa [frms] using h13
  have hg : frmIs k = true := by simp [frmIs]; omega
  refine W.skip (qs (W.seq (W.region ?_)))
  iterate 2 refine pE rfl ?_
  refine pu (indexAddr tab rfl rfl rfl rfl rfl rfl (by omega) (idx_map (frm_at h12.1 h12.2)) rfl) rfl ?_
  first | refine pE rfl ?_ | refine pR rfl rfl rfl rfl rfl ?_ | refine pB rfl rfl rfl rfl rfl rfl ?_
  refine storeR tab rfl rfl rfl rfl rfl rfl rfl rfl ?_
  refine pE rfl ?_
  refine WO.nil (qs (W.ret ?_))
  refine QV.ret0 tab trivial rfl ?_
  rw [hg]; rfl
theorem names_fn (f : Frm) (e : Ev) : Does Tryd.prog 95 [.ag f.c, .ag e.c] (.d (.v (.int .i64 (namesE f e)))) 0 := by
 refine Does.of_W (n := 13) (ts := [4]) Tryd.func95 (by kernel_rfl) rfl Tryd.ntmps95 Tryd.results95 rfl rfl fun C hC hG => ?_
 refine W.seq (W.region ?_)
 refine boxR rfl rfl rfl ?_
 refine boxR rfl rfl rfl ?_
 refine pE rfl ?_
 refine WO.nil (qs ?_)
 iterate 2 refine W.seq ?_
 refine W.region ?_
 refine pE rfl ?_
 first | refine pE rfl ?_ | refine pR rfl rfl rfl rfl rfl ?_ | refine pB rfl rfl rfl rfl rfl rfl ?_
 refine WO.nil (qs ?_)
 refine condK rfl (fun h6 => ?_) (fun h6 => ?_)
 ·
  refine W.seq (W.region ?_)
  refine pE rfl ?_
  first | refine pE rfl ?_ | refine pR rfl rfl rfl rfl rfl ?_ | refine pB rfl rfl rfl rfl rfl rfl ?_
  refine pu (puCall rfl rfl rfl (name_fn ..) rfl) rfl ?_
  refine pE rfl ?_
  refine WO.nil (qs (W.ret (qsRet ?_)))
  refine QF.ret0 trivial rfl ?_
  simp only [norm, oneA]; grind [namesE]
 ·
  refine W.skip (qs (W.seq (W.region ?_)))
  refine pE rfl ?_
  first | refine pE rfl ?_ | refine pR rfl rfl rfl rfl rfl ?_ | refine pB rfl rfl rfl rfl rfl rfl ?_
  refine pu (puCall rfl rfl rfl (frames_fn ..) rfl) rfl ?_
  refine pE rfl ?_
  refine WO.nil (qs (W.ret ?_))
  refine QF.ret0 trivial rfl ?_
  simp only [norm, oneA]; grind [namesE]
end Go.Proofs.YtoojafbicmdclaaDoor
namespace Go.Proofs.YtoojafbicmdclaaDoor
open Go.Ab Go.Tb
set_option maxRecDepth 10000
attribute [local irreducible] W WO Pu QS QB QL QF QV QV1 CH QE
theorem echeck_fn (e : Ev) : Does Tryd.prog 81 [.ag e.c] (.d (.v (.int .i64 (checkE e)))) 0 := by
 refine Does.of_W (n := 127) (ts := [2]) Tryd.func81 (by kernel_rfl) rfl Tryd.ntmps81 Tryd.results81 rfl rfl fun C hC hG => ?_
 refine W.seq (W.region ?_)
 refine boxR rfl rfl rfl ?_
 refine pE rfl ?_
 refine WO.nil (qs ?_)
 iterate 2 refine W.seq ?_
 apply regionB; (case hb => rfl)
 ·
  refine pE rfl ?_
  first | refine pE rfl ?_ | refine pR rfl rfl rfl rfl rfl ?_ | refine pB rfl rfl rfl rfl rfl rfl ?_
  iterate 2 refine pE rfl ?_
  apply splitJ; (case hj => rfl); (case hl => rfl)
  ·
   iterate 3 refine skipT rfl rfl rfl rfl ?_
   refine pE rfl ?_
   refine WO.nil ?_
   refine qv1 rfl rfl rfl
  ·
   refine goG rfl rfl ?_
   refine pE rfl ?_
   refine goG rfl rfl ?_
   first | refine pE rfl ?_ | refine pR rfl rfl rfl rfl rfl ?_ | refine pB rfl rfl rfl rfl rfl rfl ?_
   refine goG rfl rfl ?_
   iterate 2 refine pE rfl ?_
   refine WO.nil ?_
   refine qv1 rfl rfl rfl
 refine qs ?_
 refine condK rfl (fun h13 => ?_) (fun h13 => ?_)
 ·
  refine W.seq (W.region ?_)
  refine pE rfl ?_
  refine WO.nil (qs (W.ret (qsRet ?_)))
  refine QF.ret0 trivial rfl ?_
  simp only [norm, oneA]; grind [checkE]
 ·
  refine W.skip (qs (W.seq (W.region ?_)))
  refine pE rfl ?_
  first | refine pE rfl ?_ | refine pR rfl rfl rfl rfl rfl ?_ | refine pB rfl rfl rfl rfl rfl rfl ?_
  refine pu (puCall rfl rfl rfl (formOf_fn ..) rfl) rfl ?_
  iterate 3 refine pE rfl ?_
  refine allocR tab rfl rfl rfl ?_
  refine storeR tab rfl rfl rfl rfl rfl rfl rfl rfl ?_
  refine pE rfl ?_
  refine WO.nil (qs ?_)
  iterate 2 refine W.seq ?_
  apply regionB; (case hb => rfl)
  ·
   iterate 3 refine pE rfl ?_
   apply splitJ; (case hj => rfl); (case hl => rfl)
   ·
    iterate 4 refine skipT rfl rfl rfl rfl ?_
    iterate 3 refine skipU rfl rfl rfl ?_
    refine skipT rfl rfl rfl rfl ?_
    iterate 2 refine pE rfl ?_
    iterate 4 refine skipT rfl rfl rfl rfl ?_
    iterate 3 refine skipU rfl rfl rfl ?_
    refine skipT rfl rfl rfl rfl ?_
    iterate 2 refine pE rfl ?_
    iterate 4 refine skipT rfl rfl rfl rfl ?_
    iterate 3 refine skipU rfl rfl rfl ?_
    refine skipT rfl rfl rfl rfl ?_
    iterate 2 refine pE rfl ?_
    iterate 4 refine skipT rfl rfl rfl rfl ?_
    iterate 4 refine skipU rfl rfl rfl ?_
    refine skipT rfl rfl rfl rfl ?_
    refine pE rfl ?_
    refine WO.nil ?_
    refine qv1 rfl rfl rfl
   ·
    refine goG rfl rfl ?_
    refine pE rfl ?_
    refine goG rfl rfl ?_
    first | refine pE rfl ?_ | refine pR rfl rfl rfl rfl rfl ?_ | refine pB rfl rfl rfl rfl rfl rfl ?_
    refine goG rfl rfl ?_
    refine pE rfl ?_
    refine goG rfl rfl ?_
    refine pE rfl ?_
    apply splitJ; (case hj => rfl); (case hl => rfl)
    ·
     refine goG rfl rfl ?_
     refine pE rfl ?_
     refine goG rfl rfl ?_
     first | refine pE rfl ?_ | refine pR rfl rfl rfl rfl rfl ?_ | refine pB rfl rfl rfl rfl rfl rfl ?_
     refine goG rfl rfl ?_
     refine pE rfl ?_
     refine goG rfl rfl ?_
     iterate 3 refine pE rfl ?_
     apply splitJ; (case hj => rfl); (case hl => rfl)
     ·
      iterate 4 refine skipT rfl rfl rfl rfl ?_
      iterate 3 refine skipU rfl rfl rfl ?_
      refine skipT rfl rfl rfl rfl ?_
      iterate 2 refine pE rfl ?_
      iterate 4 refine skipT rfl rfl rfl rfl ?_
      iterate 3 refine skipU rfl rfl rfl ?_
      refine skipT rfl rfl rfl rfl ?_
      iterate 2 refine pE rfl ?_
      iterate 4 refine skipT rfl rfl rfl rfl ?_
      iterate 4 refine skipU rfl rfl rfl ?_
      refine skipT rfl rfl rfl rfl ?_
      refine pE rfl ?_
      refine WO.nil ?_
      refine qv1 rfl rfl rfl
     ·
      refine goG rfl rfl ?_
      refine pE rfl ?_
      refine goG rfl rfl ?_
      first | refine pE rfl ?_ | refine pR rfl rfl rfl rfl rfl ?_ | refine pB rfl rfl rfl rfl rfl rfl ?_
      refine goG rfl rfl ?_
      refine pE rfl ?_
      refine goG rfl rfl ?_
      refine pE rfl ?_
      apply splitJ; (case hj => rfl); (case hl => rfl)
      ·
       refine goG rfl rfl ?_
       refine pE rfl ?_
       refine goG rfl rfl ?_
       first | refine pE rfl ?_ | refine pR rfl rfl rfl rfl rfl ?_ | refine pB rfl rfl rfl rfl rfl rfl ?_
       refine goG rfl rfl ?_
       refine pE rfl ?_
       refine goG rfl rfl ?_
       iterate 3 refine pE rfl ?_
       apply splitJ; (case hj => rfl); (case hl => rfl)
       ·
        iterate 4 refine skipT rfl rfl rfl rfl ?_
        iterate 3 refine skipU rfl rfl rfl ?_
        refine skipT rfl rfl rfl rfl ?_
        iterate 2 refine pE rfl ?_
        iterate 4 refine skipT rfl rfl rfl rfl ?_
        iterate 4 refine skipU rfl rfl rfl ?_
        refine skipT rfl rfl rfl rfl ?_
        refine pE rfl ?_
        refine WO.nil ?_
        refine qv1 rfl rfl rfl
       ·
        refine goG rfl rfl ?_
        refine pE rfl ?_
        refine goG rfl rfl ?_
        first | refine pE rfl ?_ | refine pR rfl rfl rfl rfl rfl ?_ | refine pB rfl rfl rfl rfl rfl rfl ?_
        refine goG rfl rfl ?_
        refine pE rfl ?_
        refine goG rfl rfl ?_
        refine pE rfl ?_
        apply splitJ; (case hj => rfl); (case hl => rfl)
        ·
         refine goG rfl rfl ?_
         refine pE rfl ?_
         refine goG rfl rfl ?_
         first | refine pE rfl ?_ | refine pR rfl rfl rfl rfl rfl ?_ | refine pB rfl rfl rfl rfl rfl rfl ?_
         refine goG rfl rfl ?_
         refine pE rfl ?_
         refine goG rfl rfl ?_
         iterate 3 refine pE rfl ?_
         apply splitJ; (case hj => rfl); (case hl => rfl)
         ·
          iterate 4 refine skipT rfl rfl rfl rfl ?_
          iterate 4 refine skipU rfl rfl rfl ?_
          refine skipT rfl rfl rfl rfl ?_
          refine pE rfl ?_
          refine WO.nil ?_
          refine qv1 rfl rfl rfl
         ·
          refine goG rfl rfl ?_
          refine pE rfl ?_
          refine goG rfl rfl ?_
          first | refine pE rfl ?_ | refine pR rfl rfl rfl rfl rfl ?_ | refine pB rfl rfl rfl rfl rfl rfl ?_
          refine goG rfl rfl ?_
          refine pE rfl ?_
          refine goG rfl rfl ?_
          refine pE rfl ?_
          apply splitJ; (case hj => rfl); (case hl => rfl)
          ·
           refine goG rfl rfl ?_
           refine pE rfl ?_
           refine goG rfl rfl ?_
           first | refine pE rfl ?_ | refine pR rfl rfl rfl rfl rfl ?_ | refine pB rfl rfl rfl rfl rfl rfl ?_
           refine goG rfl rfl ?_
           refine pE rfl ?_
           refine goG rfl rfl ?_
           refine pE rfl ?_
           refine goG rfl rfl ?_
           iterate 2 refine pE rfl ?_
           refine WO.nil ?_
           refine qv1 rfl rfl rfl
          ·
           iterate 4 refine skipT rfl rfl rfl rfl ?_
           refine goG rfl rfl ?_
           iterate 2 refine pE rfl ?_
           refine WO.nil ?_
           refine qv1 rfl rfl rfl
        ·
         iterate 3 refine skipT rfl rfl rfl rfl ?_
         refine goG rfl rfl ?_
         iterate 3 refine pE rfl ?_
         refine goG rfl rfl ?_
         refine pE rfl ?_
         refine goG rfl rfl ?_
         first | refine pE rfl ?_ | refine pR rfl rfl rfl rfl rfl ?_ | refine pB rfl rfl rfl rfl rfl rfl ?_
         refine goG rfl rfl ?_
         refine pE rfl ?_
         refine goG rfl rfl ?_
         refine pE rfl ?_
         apply splitJ; (case hj => rfl); (case hl => rfl)
         ·
          refine goG rfl rfl ?_
          refine pE rfl ?_
          refine goG rfl rfl ?_
          first | refine pE rfl ?_ | refine pR rfl rfl rfl rfl rfl ?_ | refine pB rfl rfl rfl rfl rfl rfl ?_
          refine goG rfl rfl ?_
          refine pE rfl ?_
          refine goG rfl rfl ?_
          refine pE rfl ?_
          refine goG rfl rfl ?_
          iterate 2 refine pE rfl ?_
          refine WO.nil ?_
          refine qv1 rfl rfl rfl
         ·
          iterate 4 refine skipT rfl rfl rfl rfl ?_
          refine goG rfl rfl ?_
          iterate 2 refine pE rfl ?_
          refine WO.nil ?_
          refine qv1 rfl rfl rfl
      ·
       iterate 3 refine skipT rfl rfl rfl rfl ?_
       refine goG rfl rfl ?_
       iterate 3 refine pE rfl ?_
       refine goG rfl rfl ?_
       refine pE rfl ?_
       refine goG rfl rfl ?_
       first | refine pE rfl ?_ | refine pR rfl rfl rfl rfl rfl ?_ | refine pB rfl rfl rfl rfl rfl rfl ?_
       refine goG rfl rfl ?_
       refine pE rfl ?_
       refine goG rfl rfl ?_
       refine pE rfl ?_
       apply splitJ; (case hj => rfl); (case hl => rfl)
       ·
        refine goG rfl rfl ?_
        refine pE rfl ?_
        refine goG rfl rfl ?_
        first | refine pE rfl ?_ | refine pR rfl rfl rfl rfl rfl ?_ | refine pB rfl rfl rfl rfl rfl rfl ?_
        refine goG rfl rfl ?_
        refine pE rfl ?_
        refine goG rfl rfl ?_
        iterate 3 refine pE rfl ?_
        apply splitJ; (case hj => rfl); (case hl => rfl)
        ·
         iterate 4 refine skipT rfl rfl rfl rfl ?_
         iterate 4 refine skipU rfl rfl rfl ?_
         refine skipT rfl rfl rfl rfl ?_
         refine pE rfl ?_
         refine WO.nil ?_
         refine qv1 rfl rfl rfl
        ·
         refine goG rfl rfl ?_
         refine pE rfl ?_
         refine goG rfl rfl ?_
         first | refine pE rfl ?_ | refine pR rfl rfl rfl rfl rfl ?_ | refine pB rfl rfl rfl rfl rfl rfl ?_
         refine goG rfl rfl ?_
         refine pE rfl ?_
         refine goG rfl rfl ?_
         refine pE rfl ?_
         apply splitJ; (case hj => rfl); (case hl => rfl)
         ·
          refine goG rfl rfl ?_
          refine pE rfl ?_
          refine goG rfl rfl ?_
          first | refine pE rfl ?_ | refine pR rfl rfl rfl rfl rfl ?_ | refine pB rfl rfl rfl rfl rfl rfl ?_
          refine goG rfl rfl ?_
          refine pE rfl ?_
          refine goG rfl rfl ?_
          refine pE rfl ?_
          refine goG rfl rfl ?_
          iterate 2 refine pE rfl ?_
          refine WO.nil ?_
          refine qv1 rfl rfl rfl
         ·
          iterate 4 refine skipT rfl rfl rfl rfl ?_
          refine goG rfl rfl ?_
          iterate 2 refine pE rfl ?_
          refine WO.nil ?_
          refine qv1 rfl rfl rfl
       ·
        iterate 3 refine skipT rfl rfl rfl rfl ?_
        refine goG rfl rfl ?_
        iterate 3 refine pE rfl ?_
        refine goG rfl rfl ?_
        refine pE rfl ?_
        refine goG rfl rfl ?_
        first | refine pE rfl ?_ | refine pR rfl rfl rfl rfl rfl ?_ | refine pB rfl rfl rfl rfl rfl rfl ?_
        refine goG rfl rfl ?_
        refine pE rfl ?_
        refine goG rfl rfl ?_
        refine pE rfl ?_
        apply splitJ; (case hj => rfl); (case hl => rfl)
        ·
         refine goG rfl rfl ?_
         refine pE rfl ?_
         refine goG rfl rfl ?_
         first | refine pE rfl ?_ | refine pR rfl rfl rfl rfl rfl ?_ | refine pB rfl rfl rfl rfl rfl rfl ?_
         refine goG rfl rfl ?_
         refine pE rfl ?_
         refine goG rfl rfl ?_
         refine pE rfl ?_
         refine goG rfl rfl ?_
         iterate 2 refine pE rfl ?_
         refine WO.nil ?_
         refine qv1 rfl rfl rfl
        ·
         iterate 4 refine skipT rfl rfl rfl rfl ?_
         refine goG rfl rfl ?_
         iterate 2 refine pE rfl ?_
         refine WO.nil ?_
         refine qv1 rfl rfl rfl
    ·
     iterate 3 refine skipT rfl rfl rfl rfl ?_
     refine goG rfl rfl ?_
     iterate 3 refine pE rfl ?_
     refine goG rfl rfl ?_
     refine pE rfl ?_
     refine goG rfl rfl ?_
     first | refine pE rfl ?_ | refine pR rfl rfl rfl rfl rfl ?_ | refine pB rfl rfl rfl rfl rfl rfl ?_
     refine goG rfl rfl ?_
     refine pE rfl ?_
     refine goG rfl rfl ?_
     refine pE rfl ?_
     apply splitJ; (case hj => rfl); (case hl => rfl)
     ·
      refine goG rfl rfl ?_
      refine pE rfl ?_
      refine goG rfl rfl ?_
      first | refine pE rfl ?_ | refine pR rfl rfl rfl rfl rfl ?_ | refine pB rfl rfl rfl rfl rfl rfl ?_
      refine goG rfl rfl ?_
      refine pE rfl ?_
      refine goG rfl rfl ?_
      iterate 3 refine pE rfl ?_
      apply splitJ; (case hj => rfl); (case hl => rfl)
      ·
       iterate 4 refine skipT rfl rfl rfl rfl ?_
       iterate 3 refine skipU rfl rfl rfl ?_
       refine skipT rfl rfl rfl rfl ?_
       iterate 2 refine pE rfl ?_
       iterate 4 refine skipT rfl rfl rfl rfl ?_
       iterate 4 refine skipU rfl rfl rfl ?_
       refine skipT rfl rfl rfl rfl ?_
       refine pE rfl ?_
       refine WO.nil ?_
       refine qv1 rfl rfl rfl
      ·
       refine goG rfl rfl ?_
       refine pE rfl ?_
       refine goG rfl rfl ?_
       first | refine pE rfl ?_ | refine pR rfl rfl rfl rfl rfl ?_ | refine pB rfl rfl rfl rfl rfl rfl ?_
       refine goG rfl rfl ?_
       refine pE rfl ?_
       refine goG rfl rfl ?_
       refine pE rfl ?_
       apply splitJ; (case hj => rfl); (case hl => rfl)
       ·
        refine goG rfl rfl ?_
        refine pE rfl ?_
        refine goG rfl rfl ?_
        first | refine pE rfl ?_ | refine pR rfl rfl rfl rfl rfl ?_ | refine pB rfl rfl rfl rfl rfl rfl ?_
        refine goG rfl rfl ?_
        refine pE rfl ?_
        refine goG rfl rfl ?_
        iterate 3 refine pE rfl ?_
        apply splitJ; (case hj => rfl); (case hl => rfl)
        ·
         iterate 4 refine skipT rfl rfl rfl rfl ?_
         iterate 4 refine skipU rfl rfl rfl ?_
         refine skipT rfl rfl rfl rfl ?_
         refine pE rfl ?_
         refine WO.nil ?_
         refine qv1 rfl rfl rfl
        ·
         refine goG rfl rfl ?_
         refine pE rfl ?_
         refine goG rfl rfl ?_
         first | refine pE rfl ?_ | refine pR rfl rfl rfl rfl rfl ?_ | refine pB rfl rfl rfl rfl rfl rfl ?_
         refine goG rfl rfl ?_
         refine pE rfl ?_
         refine goG rfl rfl ?_
         refine pE rfl ?_
         apply splitJ; (case hj => rfl); (case hl => rfl)
         ·
          refine goG rfl rfl ?_
          refine pE rfl ?_
          refine goG rfl rfl ?_
          first | refine pE rfl ?_ | refine pR rfl rfl rfl rfl rfl ?_ | refine pB rfl rfl rfl rfl rfl rfl ?_
          refine goG rfl rfl ?_
          refine pE rfl ?_
          refine goG rfl rfl ?_
          refine pE rfl ?_
          refine goG rfl rfl ?_
          iterate 2 refine pE rfl ?_
          refine WO.nil ?_
          refine qv1 rfl rfl rfl
         ·
          iterate 4 refine skipT rfl rfl rfl rfl ?_
          refine goG rfl rfl ?_
          iterate 2 refine pE rfl ?_
          refine WO.nil ?_
          refine qv1 rfl rfl rfl
       ·
        iterate 3 refine skipT rfl rfl rfl rfl ?_
        refine goG rfl rfl ?_
        iterate 3 refine pE rfl ?_
        refine goG rfl rfl ?_
        refine pE rfl ?_
        refine goG rfl rfl ?_
        first | refine pE rfl ?_ | refine pR rfl rfl rfl rfl rfl ?_ | refine pB rfl rfl rfl rfl rfl rfl ?_
        refine goG rfl rfl ?_
        refine pE rfl ?_
        refine goG rfl rfl ?_
        refine pE rfl ?_
        apply splitJ; (case hj => rfl); (case hl => rfl)
        ·
         refine goG rfl rfl ?_
         refine pE rfl ?_
         refine goG rfl rfl ?_
         first | refine pE rfl ?_ | refine pR rfl rfl rfl rfl rfl ?_ | refine pB rfl rfl rfl rfl rfl rfl ?_
         refine goG rfl rfl ?_
         refine pE rfl ?_
         refine goG rfl rfl ?_
         refine pE rfl ?_
         refine goG rfl rfl ?_
         iterate 2 refine pE rfl ?_
         refine WO.nil ?_
         refine qv1 rfl rfl rfl
        ·
         iterate 4 refine skipT rfl rfl rfl rfl ?_
         refine goG rfl rfl ?_
         iterate 2 refine pE rfl ?_
         refine WO.nil ?_
         refine qv1 rfl rfl rfl
     ·
      iterate 3 refine skipT rfl rfl rfl rfl ?_
      refine goG rfl rfl ?_
      iterate 3 refine pE rfl ?_
      refine goG rfl rfl ?_
      refine pE rfl ?_
      refine goG rfl rfl ?_
      first | refine pE rfl ?_ | refine pR rfl rfl rfl rfl rfl ?_ | refine pB rfl rfl rfl rfl rfl rfl ?_
      refine goG rfl rfl ?_
      refine pE rfl ?_
      refine goG rfl rfl ?_
      refine pE rfl ?_
      apply splitJ; (case hj => rfl); (case hl => rfl)
      ·
       refine goG rfl rfl ?_
       refine pE rfl ?_
       refine goG rfl rfl ?_
       first | refine pE rfl ?_ | refine pR rfl rfl rfl rfl rfl ?_ | refine pB rfl rfl rfl rfl rfl rfl ?_
       refine goG rfl rfl ?_
       refine pE rfl ?_
       refine goG rfl rfl ?_
       iterate 3 refine pE rfl ?_
       apply splitJ; (case hj => rfl); (case hl => rfl)
       ·
        iterate 4 refine skipT rfl rfl rfl rfl ?_
        iterate 4 refine skipU rfl rfl rfl ?_
        refine skipT rfl rfl rfl rfl ?_
        refine pE rfl ?_
        refine WO.nil ?_
        refine qv1 rfl rfl rfl
       ·
        refine goG rfl rfl ?_
        refine pE rfl ?_
        refine goG rfl rfl ?_
        first | refine pE rfl ?_ | refine pR rfl rfl rfl rfl rfl ?_ | refine pB rfl rfl rfl rfl rfl rfl ?_
        refine goG rfl rfl ?_
        refine pE rfl ?_
        refine goG rfl rfl ?_
        refine pE rfl ?_
        apply splitJ; (case hj => rfl); (case hl => rfl)
        ·
         refine goG rfl rfl ?_
         refine pE rfl ?_
         refine goG rfl rfl ?_
         first | refine pE rfl ?_ | refine pR rfl rfl rfl rfl rfl ?_ | refine pB rfl rfl rfl rfl rfl rfl ?_
         refine goG rfl rfl ?_
         refine pE rfl ?_
         refine goG rfl rfl ?_
         refine pE rfl ?_
         refine goG rfl rfl ?_
         iterate 2 refine pE rfl ?_
         refine WO.nil ?_
         refine qv1 rfl rfl rfl
        ·
         iterate 4 refine skipT rfl rfl rfl rfl ?_
         refine goG rfl rfl ?_
         iterate 2 refine pE rfl ?_
         refine WO.nil ?_
         refine qv1 rfl rfl rfl
      ·
       iterate 3 refine skipT rfl rfl rfl rfl ?_
       refine goG rfl rfl ?_
       iterate 3 refine pE rfl ?_
       refine goG rfl rfl ?_
       refine pE rfl ?_
       refine goG rfl rfl ?_
       first | refine pE rfl ?_ | refine pR rfl rfl rfl rfl rfl ?_ | refine pB rfl rfl rfl rfl rfl rfl ?_
       refine goG rfl rfl ?_
       refine pE rfl ?_
       refine goG rfl rfl ?_
       refine pE rfl ?_
       apply splitJ; (case hj => rfl); (case hl => rfl)
       ·
        refine goG rfl rfl ?_
        refine pE rfl ?_
        refine goG rfl rfl ?_
        first | refine pE rfl ?_ | refine pR rfl rfl rfl rfl rfl ?_ | refine pB rfl rfl rfl rfl rfl rfl ?_
        refine goG rfl rfl ?_
        refine pE rfl ?_
        refine goG rfl rfl ?_
        refine pE rfl ?_
        refine goG rfl rfl ?_
        iterate 2 refine pE rfl ?_
        refine WO.nil ?_
        refine qv1 rfl rfl rfl
       ·
        iterate 4 refine skipT rfl rfl rfl rfl ?_
        refine goG rfl rfl ?_
        iterate 2 refine pE rfl ?_
        refine WO.nil ?_
        refine qv1 rfl rfl rfl
  refine qs ?_
  refine condK rfl (fun h62 => ?_) (fun h62 => ?_)
  ·
   refine W.seq (W.region ?_)
   refine pE rfl ?_
   refine WO.nil (qs (W.ret (qsRet ?_)))
   refine QF.ret0 trivial rfl ?_
   simp only [norm, oneA]; grind [checkE]
  ·
   refine W.skip (qs ?_)
   iterate 2 refine W.seq ?_
   refine W.region ?_
   first | refine pE rfl ?_ | refine pR rfl rfl rfl rfl rfl ?_ | refine pB rfl rfl rfl rfl rfl rfl ?_
   first | refine pE rfl ?_ | refine pR rfl rfl rfl rfl rfl ?_ | refine pB rfl rfl rfl rfl rfl rfl ?_
   refine pu (puCall rfl rfl rfl (names_fn ..) rfl) rfl ?_
   refine pE rfl ?_
   refine WO.nil (qs (W.seq (W.region ?_)))
   iterate 2 refine pE rfl ?_
   refine WO.nil (qs ?_)
   refine condK rfl (fun h67 => ?_) (fun h67 => ?_)
   ·
    refine W.seq (W.region ?_)
    iterate 2 refine pE rfl ?_
    refine WO.nil (qs (W.ret (qsRet ?_)))
    refine QF.ret0 trivial rfl ?_
    simp only [norm, oneA]; grind [checkE]
   ·
    refine W.skip (qs (W.seq (W.block (W.seq ?_))))
    apply regionB; (case hb => rfl)
    ·
     refine pE rfl ?_
     first | refine pE rfl ?_ | refine pR rfl rfl rfl rfl rfl ?_ | refine pB rfl rfl rfl rfl rfl rfl ?_
     refine pE rfl ?_
     apply splitJ; (case hj => rfl); (case hl => rfl)
     ·
      refine goG rfl rfl ?_
      refine pE rfl ?_
      refine goG rfl rfl ?_
      first | refine pE rfl ?_ | refine pR rfl rfl rfl rfl rfl ?_ | refine pB rfl rfl rfl rfl rfl rfl ?_
      refine goG rfl rfl ?_
      refine pE rfl ?_
      refine goG rfl rfl ?_
      first | refine pE rfl ?_ | refine pR rfl rfl rfl rfl rfl ?_ | refine pB rfl rfl rfl rfl rfl rfl ?_
      refine goG rfl rfl ?_
      refine pE rfl ?_
      refine goG rfl rfl ?_
      refine pE rfl ?_
      apply splitJ; (case hj => rfl); (case hl => rfl)
      ·
       iterate 5 refine skipT rfl rfl rfl rfl ?_
       refine goG rfl rfl ?_
       iterate 3 refine pE rfl ?_
       refine WO.nil ?_
       refine qv1 rfl rfl rfl
      ·
       refine goG rfl rfl ?_
       refine pE rfl ?_
       refine goG rfl rfl ?_
       first | refine pE rfl ?_ | refine pR rfl rfl rfl rfl rfl ?_ | refine pB rfl rfl rfl rfl rfl rfl ?_
       refine goG rfl rfl ?_
       refine pE rfl ?_
       refine goG rfl rfl ?_
       first | refine pE rfl ?_ | refine pR rfl rfl rfl rfl rfl ?_ | refine pB rfl rfl rfl rfl rfl rfl ?_
       refine goG rfl rfl ?_
       refine pE rfl ?_
       refine goG rfl rfl ?_
       iterate 3 refine pE rfl ?_
       refine WO.nil ?_
       refine qv1 rfl rfl rfl
     ·
      iterate 6 refine skipT rfl rfl rfl rfl ?_
      iterate 5 refine skipU rfl rfl rfl ?_
      refine skipT rfl rfl rfl rfl ?_
      iterate 2 refine pE rfl ?_
      refine WO.nil ?_
      refine qv1 rfl rfl rfl
    refine qs ?_
    refine condK rfl (fun h69 => ?_) (fun h69 => ?_)
    ·
     refine W.seq (W.region ?_)
     refine pE rfl ?_
     refine WO.nil (qs (W.ret (qbRet (qsRet ?_))))
     refine QF.ret0 trivial rfl ?_
     simp only [norm, oneA]; grind [checkE]
    ·
     refine W.seq ?_
     apply regionB; (case hb => rfl)
     ·
      refine pE rfl ?_
      first | refine pE rfl ?_ | refine pR rfl rfl rfl rfl rfl ?_ | refine pB rfl rfl rfl rfl rfl rfl ?_
      iterate 2 refine pE rfl ?_
      apply splitJ; (case hj => rfl); (case hl => rfl)
      ·
       refine goG rfl rfl ?_
       refine pE rfl ?_
       refine goG rfl rfl ?_
       first | refine pE rfl ?_ | refine pR rfl rfl rfl rfl rfl ?_ | refine pB rfl rfl rfl rfl rfl rfl ?_
       refine goG rfl rfl ?_
       iterate 3 refine pE rfl ?_
       apply splitJ; (case hj => rfl); (case hl => rfl)
       ·
        refine goG rfl rfl ?_
        refine pE rfl ?_
        refine goG rfl rfl ?_
        first | refine pE rfl ?_ | refine pR rfl rfl rfl rfl rfl ?_ | refine pB rfl rfl rfl rfl rfl rfl ?_
        refine goG rfl rfl ?_
        iterate 3 refine pE rfl ?_
        refine WO.nil ?_
        refine qv1 rfl rfl rfl
       ·
        iterate 3 refine skipT rfl rfl rfl rfl ?_
        iterate 2 refine pE rfl ?_
        refine WO.nil ?_
        refine qv1 rfl rfl rfl
      ·
       iterate 3 refine skipT rfl rfl rfl rfl ?_
       iterate 2 refine pE rfl ?_
       iterate 3 refine skipT rfl rfl rfl rfl ?_
       iterate 2 refine pE rfl ?_
       refine WO.nil ?_
       refine qv1 rfl rfl rfl
     refine qs ?_
     refine condK rfl (fun h86 => ?_) (fun h86 => ?_)
     ·
      refine W.seq (W.region ?_)
      refine pE rfl ?_
      refine WO.nil (qs (W.ret (qbRet (qsRet ?_))))
      refine QF.ret0 trivial rfl ?_
      simp only [norm, oneA]; grind [checkE]
     ·
      refine W.seq ?_
      apply regionB; (case hb => rfl)
      ·
       refine pE rfl ?_
       first | refine pE rfl ?_ | refine pR rfl rfl rfl rfl rfl ?_ | refine pB rfl rfl rfl rfl rfl rfl ?_
       refine pE rfl ?_
       apply splitJ; (case hj => rfl); (case hl => rfl)
       ·
        refine goG rfl rfl ?_
        refine pE rfl ?_
        refine goG rfl rfl ?_
        first | refine pE rfl ?_ | refine pR rfl rfl rfl rfl rfl ?_ | refine pB rfl rfl rfl rfl rfl rfl ?_
        refine goG rfl rfl ?_
        refine pE rfl ?_
        refine goG rfl rfl ?_
        first | refine pE rfl ?_ | refine pR rfl rfl rfl rfl rfl ?_ | refine pB rfl rfl rfl rfl rfl rfl ?_
        refine goG rfl rfl ?_
        refine pE rfl ?_
        refine goG rfl rfl ?_
        refine pE rfl ?_
        apply splitJ; (case hj => rfl); (case hl => rfl)
        ·
         iterate 5 refine skipT rfl rfl rfl rfl ?_
         refine goG rfl rfl ?_
         iterate 3 refine pE rfl ?_
         refine goG rfl rfl ?_
         refine pE rfl ?_
         refine goG rfl rfl ?_
         first | refine pE rfl ?_ | refine pR rfl rfl rfl rfl rfl ?_ | refine pB rfl rfl rfl rfl rfl rfl ?_
         refine goG rfl rfl ?_
         refine pE rfl ?_
         refine goG rfl rfl ?_
         refine pE rfl ?_
         apply splitJ; (case hj => rfl); (case hl => rfl)
         ·
          iterate 3 refine skipT rfl rfl rfl rfl ?_
          refine goG rfl rfl ?_
          iterate 3 refine pE rfl ?_
          refine WO.nil ?_
          refine qv1 rfl rfl rfl
         ·
          refine goG rfl rfl ?_
          refine pE rfl ?_
          refine goG rfl rfl ?_
          first | refine pE rfl ?_ | refine pR rfl rfl rfl rfl rfl ?_ | refine pB rfl rfl rfl rfl rfl rfl ?_
          refine goG rfl rfl ?_
          refine pE rfl ?_
          refine goG rfl rfl ?_
          iterate 3 refine pE rfl ?_
          refine WO.nil ?_
          refine qv1 rfl rfl rfl
        ·
         refine goG rfl rfl ?_
         refine pE rfl ?_
         refine goG rfl rfl ?_
         first | refine pE rfl ?_ | refine pR rfl rfl rfl rfl rfl ?_ | refine pB rfl rfl rfl rfl rfl rfl ?_
         refine goG rfl rfl ?_
         refine pE rfl ?_
         refine goG rfl rfl ?_
         first | refine pE rfl ?_ | refine pR rfl rfl rfl rfl rfl ?_ | refine pB rfl rfl rfl rfl rfl rfl ?_
         refine goG rfl rfl ?_
         refine pE rfl ?_
         refine goG rfl rfl ?_
         iterate 3 refine pE rfl ?_
         apply splitJ; (case hj => rfl); (case hl => rfl)
         ·
          refine goG rfl rfl ?_
          refine pE rfl ?_
          refine goG rfl rfl ?_
          first | refine pE rfl ?_ | refine pR rfl rfl rfl rfl rfl ?_ | refine pB rfl rfl rfl rfl rfl rfl ?_
          refine goG rfl rfl ?_
          refine pE rfl ?_
          refine goG rfl rfl ?_
          refine pE rfl ?_
          apply splitJ; (case hj => rfl); (case hl => rfl)
          ·
           iterate 3 refine skipT rfl rfl rfl rfl ?_
           refine goG rfl rfl ?_
           iterate 3 refine pE rfl ?_
           refine WO.nil ?_
           refine qv1 rfl rfl rfl
          ·
           refine goG rfl rfl ?_
           refine pE rfl ?_
           refine goG rfl rfl ?_
           first | refine pE rfl ?_ | refine pR rfl rfl rfl rfl rfl ?_ | refine pB rfl rfl rfl rfl rfl rfl ?_
           refine goG rfl rfl ?_
           refine pE rfl ?_
           refine goG rfl rfl ?_
           iterate 3 refine pE rfl ?_
           refine WO.nil ?_
           refine qv1 rfl rfl rfl
         ·
          iterate 4 refine skipT rfl rfl rfl rfl ?_
          iterate 3 refine skipU rfl rfl rfl ?_
          refine skipT rfl rfl rfl rfl ?_
          iterate 2 refine pE rfl ?_
          refine WO.nil ?_
          refine qv1 rfl rfl rfl
       ·
        iterate 6 refine skipT rfl rfl rfl rfl ?_
        iterate 5 refine skipU rfl rfl rfl ?_
        refine skipT rfl rfl rfl rfl ?_
        iterate 2 refine pE rfl ?_
        iterate 4 refine skipT rfl rfl rfl rfl ?_
        iterate 3 refine skipU rfl rfl rfl ?_
        refine skipT rfl rfl rfl rfl ?_
        iterate 2 refine pE rfl ?_
        refine WO.nil ?_
        refine qv1 rfl rfl rfl
      refine qs ?_
      refine condK rfl (fun h100 => ?_) (fun h100 => ?_)
      ·
       refine W.seq (W.region ?_)
       refine pE rfl ?_
       refine WO.nil (qs (W.ret (qbRet (qsRet ?_))))
       refine QF.ret0 trivial rfl ?_
       simp only [norm, oneA]; grind [checkE]
      ·
       refine W.skip (qbN (qs (W.seq (W.region ?_))))
       refine pE rfl ?_
       refine WO.nil (qs (W.ret ?_))
       refine QF.ret0 trivial rfl ?_
       simp only [norm, oneA]; grind [checkE]
end Go.Proofs.YtoojafbicmdclaaDoor
namespace Go.Proofs.YtoojafbicmdclaaDoor
open Go.Ab Go.Tb
set_option maxRecDepth 10000
attribute [local irreducible] W WO Pu QS QB QL QF QV QV1 CH QE
theorem nparse_ok (s : ByteArray) (v : Int) (h : Lib.atoiAll s.data.toList = .ok v) : numP s = (if (if numB v = s then true else false) && inR v then (v, true) else (0, false)) := by
 unfold numP
 rw [h]
 by_cases h1 : numB v = s <;> by_cases h2 : inR v = true <;> simp [h1, h2]
theorem sat_in (l : List UInt8) : -9223372036854775808 ≤ Lib.atoiSat l ∧ Lib.atoiSat l ≤ 9223372036854775807 := by
 unfold Lib.atoiSat
 split <;> decide
theorem nparse_fn (s : ByteArray) (hs : s.size ≤ 281474976710656) : Does Tryd.prog 27 [.d (.v (.string s))] (.tup [.d (.v (.int .i64 (numP s).1)), .d (.v (.bool (numP s).2))]) 0 := by
 have ha := atoi_fn s hs
 unfold atoiA at ha
 cases h : Lib.atoiAll s.data.toList with
 | ok v =>
  rw [h] at ha
  have hb := Lib.atoiAll_bounds h
  have hp := nparse_ok s v h
  refine Does.of_W (n := 23) (ts := [2, 3]) Tryd.func27 (by kernel_rfl) rfl Tryd.ntmps27 Tryd.results27 rfl rfl fun C hC hG => ?_
  refine W.seq (W.region ?_)
  iterate 2 refine pE rfl ?_
  refine WO.nil (qs (W.seq (W.region ?_)))
  refine pE rfl ?_
  refine pu (puCall rfl rfl rfl ha rfl) rfl ?_
  iterate 5 refine pE rfl ?_
  refine WO.nil (qs (W.seq (W.region ?_)))
  iterate 2 refine pE rfl ?_
  refine pu (nilEq rfl (by kernel_rfl)) rfl ?_
  refine pE rfl ?_
  refine splitG rfl rfl (fun _ => ?_) (fun _ => ?_)
  ·
   refine goG rfl rfl ?_
   refine pE rfl ?_
   refine goG rfl rfl ?_
   refine pu (puCall rfl rfl rfl (text_fn v hb.1 hb.2) rfl) rfl ?_
   refine goG rfl rfl ?_
   refine pE rfl ?_
   refine goG rfl rfl ?_
   iterate 2 refine pE rfl ?_
   refine pu (puCall rfl rfl rfl (within_fn ..) rfl) rfl ?_
   iterate 4 refine pE rfl ?_
   refine WO.nil (qs (W.ret ?_))
   refine QF.ret0 trivial rfl ?_
   first | contradiction | (rw [hp]; simp only [norm, normL, oneA]; by_cases h1 : numB v = s <;> by_cases h2 : inR v = true <;> simp [h1, h2])
  ·
   iterate 4 refine skipT rfl rfl rfl rfl ?_
   refine pE rfl ?_
   refine pu (puCall rfl rfl rfl (within_fn ..) rfl) rfl ?_
   iterate 4 refine pE rfl ?_
   refine WO.nil (qs (W.ret ?_))
   refine QF.ret0 trivial rfl ?_
   first | contradiction | (rw [hp]; simp only [norm, normL, oneA]; by_cases h1 : numB v = s <;> by_cases h2 : inR v = true <;> simp [h1, h2])
 | range =>
  rw [h] at ha
  have hp : numP s = (0, false) := by unfold numP; rw [h]
  refine Does.of_W (n := 23) (ts := [2, 3]) Tryd.func27 (by kernel_rfl) rfl Tryd.ntmps27 Tryd.results27 rfl rfl fun C hC hG => ?_
  refine W.seq (W.region ?_)
  iterate 2 refine pE rfl ?_
  refine WO.nil (qs (W.seq (W.region ?_)))
  refine pE rfl ?_
  refine pu (puCall rfl rfl rfl ha rfl) rfl ?_
  iterate 5 refine pE rfl ?_
  refine WO.nil (qs (W.seq (W.region ?_)))
  iterate 2 refine pE rfl ?_
  refine pu (niEq rfl (by kernel_rfl)) rfl ?_
  refine pE rfl ?_
  refine splitG rfl rfl (fun _ => ?_) (fun _ => ?_)
  ·
   refine goG rfl rfl ?_
   refine pE rfl ?_
   refine goG rfl rfl ?_
   refine pu (puCall rfl rfl rfl (text_fn _ (sat_in _).1 (sat_in _).2) rfl) rfl ?_
   refine goG rfl rfl ?_
   refine pE rfl ?_
   refine goG rfl rfl ?_
   iterate 2 refine pE rfl ?_
   refine pu (puCall rfl rfl rfl (within_fn ..) rfl) rfl ?_
   iterate 4 refine pE rfl ?_
   refine WO.nil (qs (W.ret ?_))
   refine QF.ret0 trivial rfl ?_
   first | contradiction | (rw [hp]; rfl)
  ·
   iterate 4 refine skipT rfl rfl rfl rfl ?_
   refine pE rfl ?_
   refine pu (puCall rfl rfl rfl (within_fn ..) rfl) rfl ?_
   iterate 4 refine pE rfl ?_
   refine WO.nil (qs (W.ret ?_))
   refine QF.ret0 trivial rfl ?_
   first | contradiction | (rw [hp]; rfl)
 | _ =>
  rw [h] at ha
  have hp : numP s = (0, false) := by unfold numP; rw [h]
  refine Does.of_W (n := 23) (ts := [2, 3]) Tryd.func27 (by kernel_rfl) rfl Tryd.ntmps27 Tryd.results27 rfl rfl fun C hC hG => ?_
  refine W.seq (W.region ?_)
  iterate 2 refine pE rfl ?_
  refine WO.nil (qs (W.seq (W.region ?_)))
  refine pE rfl ?_
  refine pu (puCall rfl rfl rfl ha rfl) rfl ?_
  iterate 5 refine pE rfl ?_
  refine WO.nil (qs (W.seq (W.region ?_)))
  iterate 2 refine pE rfl ?_
  refine pu (niEq rfl (by kernel_rfl)) rfl ?_
  refine pE rfl ?_
  refine splitG rfl rfl (fun _ => ?_) (fun _ => ?_)
  ·
   refine goG rfl rfl ?_
   refine pE rfl ?_
   refine goG rfl rfl ?_
   refine pu (puCall rfl rfl rfl (text_fn 0 (by decide) (by decide)) rfl) rfl ?_
   refine goG rfl rfl ?_
   refine pE rfl ?_
   refine goG rfl rfl ?_
   iterate 2 refine pE rfl ?_
   refine pu (puCall rfl rfl rfl (within_fn ..) rfl) rfl ?_
   iterate 4 refine pE rfl ?_
   refine WO.nil (qs (W.ret ?_))
   refine QF.ret0 trivial rfl ?_
   first | contradiction | (rw [hp]; rfl)
  ·
   iterate 4 refine skipT rfl rfl rfl rfl ?_
   refine pE rfl ?_
   refine pu (puCall rfl rfl rfl (within_fn ..) rfl) rfl ?_
   iterate 4 refine pE rfl ?_
   refine WO.nil (qs (W.ret ?_))
   refine QF.ret0 trivial rfl ?_
   first | contradiction | (rw [hp]; rfl)
end Go.Proofs.YtoojafbicmdclaaDoor
namespace Go.Proofs.YtoojafbicmdclaaDoor
open Go.Ab Go.Tb
set_option maxRecDepth 10000
attribute [local irreducible] W WO Pu QS QB QL QF QV QV1 CH QE
open Go.RowKit
attribute [local go_sem] Oper.semAt_some
set_option maxRecDepth 100000 in
set_option maxHeartbeats 2000000 in
theorem chunk_it : ChunkIt Tryd.prog 31 := by
 intro l W b0 o0 b1 o1 a len cap R h0 h1 hpos hle hcap hmax hY
 refine (callsIn_wide (n := 0)).1 ?_
 refine callsIn_of_wp (F := Fence.wide) (n := 0) Tryd.func31 rfl trivial ?_ rfl
 simp only [Tryd.ntmps31, List.size_toArray, List.length_cons, List.length_nil, Nat.reduceAdd, Nat.reduceSub, Array.replicate_succ, Array.replicate_zero, List.push_toArray, List.append_toArray, List.nil_append, List.cons_append]
 gi_wp2
 gi_loopw [4] (fun i wr => (i = .int .i64 0 ∧ wr = W) ∨ (i = .int .i64 1000 ∧ (∃ a' cap', wr.cell? ⟨b0, o0, none⟩ = some (.slice a' len cap')) ∧ wr.cell? ⟨b1, o1, none⟩ = some (.int .i64 1000) ∧ R wr)) (fun i _ => 1000 - (intOf i).toNat)
 case atStart => exact .inl ⟨rfl, rfl⟩
 case round =>
  rcases hrel with ⟨rfl, rfl⟩ | ⟨rfl, ⟨a', cap', h2⟩, h3, hR⟩
  ·
   obtain ⟨fn, tmps, assign, body, hy, hR⟩ := hY
   have h0' : wr.cell? ⟨b0, o0, none⟩ = some (.slice (some a) len cap) := h0
   have h1' : wr.cell? ⟨b1, o1, none⟩ = some (.int .i64 1000) := h1
   gi_wp2
   gi_big_region
   rw [show min (1000 : Int) (len : Int) = (len : Int) from by omega]
   have h0d : wr.drew.cell? ⟨b0, o0, none⟩ = some (.slice (some a) len cap) := h0
   have h1d : wr.drew.cell? ⟨b1, o1, none⟩ = some (.int .i64 1000) := h1
   gi_wp2
   refine ⟨rfl, hR.mono ?_⟩
   rintro e W3 ⟨rfl, ⟨a', cap', h2⟩, h3, hR3⟩
   gi_wp2
   go_roundw
   case rel => exact .inr ⟨rfl, ⟨_, _, h2⟩, h3, hR3⟩
   case measure => simp [intOf]
  ·
   gi_wp2
   go_end0
   exact ⟨⟨_, rfl⟩, hR⟩
end Go.Proofs.YtoojafbicmdclaaDoor
namespace Go.Proofs.YtoojafbicmdclaaDoor
open Go.Ab Go.Tb
set_option maxRecDepth 10000
attribute [local irreducible] W WO Pu QS QB QL QF QV QV1 CH QE
theorem number_fn (s : ByteArray) (most : Int) (hs : s.size ≤ 281474976710656) : Does Tryd.prog 16 [.d (.v (.string s)), .d (.v (.int .i64 most))] (.tup [.d (.v (.int .i64 (numF s most).1)), .d (.v (.bool (numF s most).2))]) 0 := by
 refine Does.of_W (n := 24) (ts := [4, 5]) Tryd.func16 (by kernel_rfl) rfl Tryd.ntmps16 Tryd.results16 rfl rfl fun C hC hG => ?_
 refine W.seq (W.region ?_)
 iterate 2 refine pE rfl ?_
 refine WO.nil (qs (W.seq (W.region ?_)))
 refine pE rfl ?_
 refine pu (puCall rfl rfl rfl ((nparse_fn _ (by assumption))) rfl) rfl ?_
 iterate 5 refine pE rfl ?_
 refine WO.nil (qs (W.seq (W.region ?_)))
 iterate 3 refine pE rfl ?_
 refine splitG rfl rfl (fun _ => ?_) (fun _ => ?_)
 ·
  refine goG rfl rfl ?_
  refine pE rfl ?_
  refine goG rfl rfl ?_
  iterate 3 refine pE rfl ?_
  refine splitG rfl rfl (fun _ => ?_) (fun _ => ?_)
  ·
   refine goG rfl rfl ?_
   refine pE rfl ?_
   refine goG rfl rfl ?_
   refine pE rfl ?_
   refine goG rfl rfl ?_
   iterate 4 refine pE rfl ?_
   refine WO.nil (qs (W.ret ?_))
   refine QF.ret0 trivial rfl ?_
   simp_all [norm, normL, oneA, numF] <;> omega
  ·
   iterate 3 refine skipT rfl rfl rfl rfl ?_
   iterate 3 refine pE rfl ?_
   refine WO.nil (qs (W.ret ?_))
   refine QF.ret0 trivial rfl ?_
   simp_all [norm, normL, oneA, numF] <;> omega
 ·
  iterate 2 refine skipT rfl rfl rfl rfl ?_
  iterate 2 refine pE rfl ?_
  iterate 3 refine skipT rfl rfl rfl rfl ?_
  iterate 3 refine pE rfl ?_
  refine WO.nil (qs (W.ret ?_))
  refine QF.ret0 trivial rfl ?_
  simp_all [norm, normL, oneA, numF] <;> omega
theorem indexI_fn (l : List Int) (s : Int) : Does Tryd.prog 28 [.d (.sl (l.map ic)), .d (.v (.int .i64 s))] (.d (.v (.int .i64 (idx (l.findIdx? fun x => decide (s = x)))))) 0 := by
 refine Does.of_W (n := 19) (ts := [4]) Tryd.func28 (by kernel_rfl) rfl Tryd.ntmps28 Tryd.results28 rfl rfl fun C hC hG => ?_
 refine W.seq (W.region ?_)
 refine pE rfl ?_
 refine WO.nil (qs ?_)
 iterate 2 refine W.seq ?_
 refine W.region ?_
 iterate 3 refine pE rfl ?_
 refine WO.nil (qs (W.block ?_))
 refine W.len (t := 0) rfl rfl (fun hlen => ?_)
 try simp only [List.length_map, Ex.kc_len] at hlen
 refine W.loopR (ι := {x : Nat // match x with | k => k ≤ l.length ∧ noneBefore (fun x => decide (s = x)) l k})
  (fun x => match x.1 with | k => [(8, .d (.v (.int .i64 ((k : Nat) : Int))))]) [(0, _), (1, _), (7, _)]
  (fun x => match x.1 with | k => []) [] [] 0 (fun x => match x.1 with | k => l.length - k)
  [] ⟨0, ?_⟩ rfl ?_ ⟨rfl, rfl, rfl, rfl, rfl, rfl, trivial⟩ ?_ trivial rfl ?_
 · exact ⟨Nat.zero_le _, noneBefore.zero⟩
 · repeat' first | exact trivial | refine ⟨rfl, ?_⟩ | refine ⟨congrArg some (renL_boxE _ _ _), ?_⟩ | refine ⟨step_nat (by assumption) (by assumption), ?_⟩
 · repeat' first | exact trivial | refine ⟨rfl, ?_⟩ | refine ⟨congrArg some (renL_boxE _ _ _), ?_⟩ | refine ⟨step_nat (by assumption) (by assumption), ?_⟩
 rintro ⟨k, hk, hI⟩
 show W _ _ _ _ _ ⟨[(8, .d (.v (.int .i64 ((k : Nat) : Int)))), (0, _), (1, _), (7, _)], [], [], 0⟩
 refine W.seq (W.region ?_)
 refine pE rfl ?_
 refine WO.nil (qs (W.seq ?_))
 refine eachR (l := l) (k := k) rfl (by simp [Ex.kc_len, bytes_len]) hk (fun x hx hd hlt => ?_) (fun he hd => ?_)
 ·
  refine W.skip (qs (W.seq (W.block (W.seq (W.region ?_)))))
  iterate 2 refine pE rfl ?_
  refine WO.nil (qs (W.seq (W.region ?_)))
  iterate 3 refine pE rfl ?_
  refine pu (indexAddr tab rfl rfl rfl rfl rfl rfl (Int.natCast_nonneg _) (idx_map (by assumption)) rfl) rfl ?_
  first | refine pE rfl ?_ | refine pR rfl rfl rfl rfl rfl ?_ | refine pB rfl rfl rfl rfl rfl rfl ?_
  refine pE rfl ?_
  refine WO.nil (qs ?_)
  refine condK rfl (fun h16 => ?_) (fun h16 => ?_)
  ·
   refine W.seq (W.region ?_)
   iterate 2 refine pE rfl ?_
   refine WO.nil (qs (W.ret (qbRet (qsRet (qlRet (qbRet (qsRet ?_)))))))
   refine QF.ret0 trivial rfl ?_
   simp only [norm, oneA]; rw [hI.found hx h16]; rfl
  ·
   refine W.skip (qbN (qs (W.region ?_)))
   iterate 2 refine pE rfl ?_
   refine WO.nil ?_
   refine W.endR [] ⟨k + 1, ?_⟩ ?_ rfl ?_ ⟨rfl, rfl, rfl, rfl, rfl, rfl, trivial⟩ ?_ trivial rfl
   · exact ⟨hlt, hI.step hx h16⟩
   · dsimp only; omega
   · repeat' first | exact trivial | refine ⟨rfl, ?_⟩ | refine ⟨congrArg some (renL_boxE _ _ _), ?_⟩ | refine ⟨step_nat (by assumption) (by assumption), ?_⟩
   · repeat' first | exact trivial | refine ⟨rfl, ?_⟩ | refine ⟨congrArg some (renL_boxE _ _ _), ?_⟩ | refine ⟨step_nat (by assumption) (by assumption), ?_⟩
 ·
  refine W.exit (qsExit (qlExit (qbExit (qs (W.seq (W.region ?_))))))
  refine pE rfl ?_
  refine WO.nil (qs (W.ret ?_))
  refine QF.ret0 trivial rfl ?_
  simp only [norm, oneA]; rw [hI.end_ he]; rfl
theorem containsI_fn (l : List Int) (s : Int) : Does Tryd.prog 17 [.d (.sl (l.map ic)), .d (.v (.int .i64 s))] (.d (.v (.bool (l.any fun x => decide (s = x))))) 0 := by
 refine Does.of_W (n := 9) (ts := [4]) Tryd.func17 (by kernel_rfl) rfl Tryd.ntmps17 Tryd.results17 rfl rfl fun C hC hG => ?_
 refine W.seq (W.region ?_)
 refine pE rfl ?_
 refine WO.nil (qs (W.seq (W.region ?_)))
 iterate 2 refine pE rfl ?_
 refine pu (puCall rfl rfl rfl (indexI_fn ..) rfl) rfl ?_
 iterate 2 refine pE rfl ?_
 refine WO.nil (qs (W.ret ?_))
 refine QF.ret0 trivial rfl ?_
 simp only [norm, oneA]; rw [← idx_nonneg]
end Go.Proofs.YtoojafbicmdclaaDoor
namespace Go.Proofs.YtoojafbicmdclaaDoor
open Go.Ab Go.Tb
set_option maxRecDepth 10000
attribute [local irreducible] W WO Pu QS QB QL QF QV QV1 CH QE
theorem line_fn (s : ByteArray) (hs : s.size ≤ 1000000) : Does Tryd.prog 9 [.d (.v (.string s))] (lineF s).res 0 := by
 obtain ⟨wa, wb, kw, r, hws⟩ : ∃ wa wb kw r, 3 ≤ (cutB s 32).length → cutB s 32 = wa :: wb :: kw :: r := by
  by_cases q : 3 ≤ (cutB s 32).length
  ·
   match hc : cutB s 32, q with
   | a :: b :: k :: r, _ => exact ⟨a, b, k, r, fun _ => rfl⟩
  · exact ⟨B #[], B #[], B #[], [], fun h => absurd h q⟩
 have hkw : 3 ≤ (cutB s 32).length → (cutB s 32)[2]? = some kw := fun h => by rw [hws h]; rfl
 have hcb : 0 ≤ cntF kw ∧ cntF kw ≤ 3 := by rcases cnt_val kw with ⟨_, h⟩ | ⟨_, h⟩ | ⟨_, h⟩ | ⟨_, _, _, h⟩ <;> omega
 refine Does.of_W (n := 105) (ts := [2, 3, 4, 5, 6]) Tryd.func9 (by kernel_rfl) rfl Tryd.ntmps9 Tryd.results9 rfl rfl fun C hC hG => ?_
 refine W.seq (W.region ?_)
 iterate 5 refine pE rfl ?_
 refine WO.nil (qs (W.seq (W.region ?_)))
 refine pE rfl ?_
 refine pu (puCall rfl rfl rfl (split_fn s 32 hs) rfl) rfl ?_
 refine pE rfl ?_
 refine WO.nil (qs (W.seq (W.region ?_)))
 refine mkMap rfl ?_
 first | refine insOf (mapPut (kf := sk) (vf := ci) (l := ([] : List (ByteArray × Int))) (a := swW) (y := 3) tab 20 rfl rfl rfl rfl rfl rfl rfl (keyStr (tab.u_str rfl rfl)) rfl rfl (by simp) (es' := mes sk ci [(swW, 3)]) rfl rfl ?_) | refine insOf (mapPut (kf := sk) (vf := ci) (l := [(swW, 3)]) (a := blW) (y := 3) tab 20 rfl rfl rfl rfl rfl rfl rfl (keyStr (tab.u_str rfl rfl)) rfl rfl (by simp) (es' := mes sk ci [(swW, 3), (blW, 3)]) rfl rfl ?_) | refine insOf (mapPut (kf := sk) (vf := ci) (l := [(swW, 3), (blW, 3)]) (a := wkW) (y := 2) tab 20 rfl rfl rfl rfl rfl rfl rfl (keyStr (tab.u_str rfl rfl)) rfl rfl (by decide) (es' := mes sk ci cntM) rfl rfl ?_)
 first | refine insOf (mapPut (kf := sk) (vf := ci) (l := ([] : List (ByteArray × Int))) (a := swW) (y := 3) tab 20 rfl rfl rfl rfl rfl rfl rfl (keyStr (tab.u_str rfl rfl)) rfl rfl (by simp) (es' := mes sk ci [(swW, 3)]) rfl rfl ?_) | refine insOf (mapPut (kf := sk) (vf := ci) (l := [(swW, 3)]) (a := blW) (y := 3) tab 20 rfl rfl rfl rfl rfl rfl rfl (keyStr (tab.u_str rfl rfl)) rfl rfl (by simp) (es' := mes sk ci [(swW, 3), (blW, 3)]) rfl rfl ?_) | refine insOf (mapPut (kf := sk) (vf := ci) (l := [(swW, 3), (blW, 3)]) (a := wkW) (y := 2) tab 20 rfl rfl rfl rfl rfl rfl rfl (keyStr (tab.u_str rfl rfl)) rfl rfl (by decide) (es' := mes sk ci cntM) rfl rfl ?_)
 first | refine insOf (mapPut (kf := sk) (vf := ci) (l := ([] : List (ByteArray × Int))) (a := swW) (y := 3) tab 20 rfl rfl rfl rfl rfl rfl rfl (keyStr (tab.u_str rfl rfl)) rfl rfl (by simp) (es' := mes sk ci [(swW, 3)]) rfl rfl ?_) | refine insOf (mapPut (kf := sk) (vf := ci) (l := [(swW, 3)]) (a := blW) (y := 3) tab 20 rfl rfl rfl rfl rfl rfl rfl (keyStr (tab.u_str rfl rfl)) rfl rfl (by simp) (es' := mes sk ci [(swW, 3), (blW, 3)]) rfl rfl ?_) | refine insOf (mapPut (kf := sk) (vf := ci) (l := [(swW, 3), (blW, 3)]) (a := wkW) (y := 2) tab 20 rfl rfl rfl rfl rfl rfl rfl (keyStr (tab.u_str rfl rfl)) rfl rfl (by decide) (es' := mes sk ci cntM) rfl rfl ?_)
 iterate 2 refine pE rfl ?_
 refine WO.nil (qs ?_)
 iterate 2 refine W.seq ?_
 apply regionB; (case hb => rfl)
 ·
  iterate 4 refine pE rfl ?_
  apply splitH; (case hj => rfl); (case hl => rfl)
  ·
   intro g25
   iterate 6 refine skipT rfl rfl rfl rfl ?_
   iterate 2 refine pE rfl ?_
   iterate 9 refine skipT rfl rfl rfl rfl ?_
   refine pE rfl ?_
   refine WO.nil ?_
   refine qv1 rfl rfl rfl
  ·
   intro g25
   refine goG rfl rfl ?_
   refine pE rfl ?_
   refine goG rfl rfl ?_
   refine pE rfl ?_
   refine goG rfl rfl ?_
   refine pu (indexAddr (l := sc kw) tab rfl rfl rfl rfl rfl rfl (by decide) (idx_map (hkw (by simp at g25; omega))) rfl) rfl ?_
   refine goG rfl rfl ?_
   first | refine pE rfl ?_ | refine pR rfl rfl rfl rfl rfl ?_ | refine pB rfl rfl rfl rfl rfl rfl ?_
   refine goG rfl rfl ?_
   refine pu (mapGet (kf := sk) (vf := ci) (l := cntM) (a := kw) (z := 0) (r := ci (cntF kw)) tab rfl rfl rfl rfl rfl (keyStr (tab.u_str rfl rfl)) rfl rfl rfl (fun _ _ => .v _ rfl) cntM_nodup rfl) rfl ?_
   refine goG rfl rfl ?_
   iterate 3 refine pE rfl ?_
   apply splitH; (case hj => rfl); (case hl => rfl)
   ·
    intro g33
    iterate 9 refine skipT rfl rfl rfl rfl ?_
    refine pE rfl ?_
    refine WO.nil ?_
    refine qv1 rfl rfl rfl
   ·
    intro g33
    refine goG rfl rfl ?_
    refine pE rfl ?_
    refine goG rfl rfl ?_
    refine pE rfl ?_
    refine goG rfl rfl ?_
    refine pE rfl ?_
    refine goG rfl rfl ?_
    refine pE rfl ?_
    refine goG rfl rfl ?_
    refine pu (indexAddr (l := sc kw) tab rfl rfl rfl rfl rfl rfl (by decide) (idx_map (hkw (by simp at g25; omega))) rfl) rfl ?_
    refine goG rfl rfl ?_
    first | refine pE rfl ?_ | refine pR rfl rfl rfl rfl rfl ?_ | refine pB rfl rfl rfl rfl rfl rfl ?_
    refine goG rfl rfl ?_
    refine pu (mapGet (kf := sk) (vf := ci) (l := cntM) (a := kw) (z := 0) (r := ci (cntF kw)) tab rfl rfl rfl rfl rfl (keyStr (tab.u_str rfl rfl)) rfl rfl rfl (fun _ _ => .v _ rfl) cntM_nodup rfl) rfl ?_
    refine goG rfl rfl ?_
    refine pu (puI (ev tab rfl) (y := 3 + cntF kw) (wrap64 (by omega))) rfl ?_
    refine goG rfl rfl ?_
    iterate 2 refine pE rfl ?_
    refine WO.nil ?_
    refine qv1 rfl rfl rfl
 refine qs ?_
 refine condK rfl (fun h43 => ?_) (fun h43 => ?_)
 ·
  have hbad : lineF s = badLine := by
   unfold lineF
   by_cases q : 3 ≤ (cutB s 32).length
   ·
    rw [hws q] at h43 ⊢
    refine lineW_cnt ?_
    simp at h43
    omega
   · exact lineW_short (by omega)
  refine W.seq (W.region ?_)
  iterate 5 refine pE rfl ?_
  refine WO.nil (qs ?_)
  try refine nilSl (t := 5) rfl ?_
  refine W.ret (qsRet ?_)
  refine QF.ret0 trivial rfl ?_
  rw [hbad]; rfl
 ·
  have hq : 3 ≤ (cutB s 32).length ∧ cntF kw ≠ 0 ∧ ((cutB s 32).length : Int) = 3 + cntF kw := by
   simp at h43
   omega
  have hw := hws hq.1
  have hrl : (r.length : Int) = cntF kw := by
   have := hq.2.2
   rw [hw] at this
   simp at this
   omega
  have hrn : r.length ≤ 3 := by omega
  have hsz : ∀ w ∈ cutB s 32, w.size ≤ 281474976710656 := fun w hm => by have := cut_size hm; omega
  have hsa : wa.size ≤ 281474976710656 := hsz wa (by rw [hw]; simp)
  have hsb : wb.size ≤ 281474976710656 := hsz wb (by rw [hw]; simp)
  have hi0 : (cutB s 32)[0]? = some wa := by rw [hw]; rfl
  have hi1 : (cutB s 32)[1]? = some wb := by rw [hw]; rfl
  have hi2 : (cutB s 32)[2]? = some kw := by rw [hw]; rfl
  have hsl : ((cutB s 32).take ((cutB s 32).length : Int).toNat).drop (Int.toNat 3) = r := by
   rw [hw]
   have e : ((r.length : Int) + 1 + 1 + 1).toNat = r.length + 3 := by omega
   simp [e]
  refine W.skip (qs (W.seq (W.region ?_)))
  refine pE rfl ?_
  refine pu (indexAddr (l := sc wa) tab rfl rfl rfl rfl rfl rfl (by decide) (idx_map hi0) rfl) rfl ?_
  first | refine pE rfl ?_ | refine pR rfl rfl rfl rfl rfl ?_ | refine pB rfl rfl rfl rfl rfl rfl ?_
  refine pu (puCall rfl rfl rfl ((number_fn _ _ (by assumption))) rfl) rfl ?_
  iterate 5 refine pE rfl ?_
  refine WO.nil (qs (W.seq (W.region ?_)))
  refine pE rfl ?_
  refine pu (indexAddr (l := sc wb) tab rfl rfl rfl rfl rfl rfl (by decide) (idx_map hi1) rfl) rfl ?_
  first | refine pE rfl ?_ | refine pR rfl rfl rfl rfl rfl ?_ | refine pB rfl rfl rfl rfl rfl rfl ?_
  refine pu (puCall rfl rfl rfl ((number_fn _ _ (by assumption))) rfl) rfl ?_
  iterate 5 refine pE rfl ?_
  refine WO.nil (qs (W.seq (W.region ?_)))
  refine pE rfl ?_
  refine WO.nil (qs ?_)
  iterate 2 refine W.seq ?_
  refine W.region ?_
  refine pE rfl ?_
  refine pu (sliceV (fn := sc) (l := cutB s 32) (i := 3) (j := ((cutB s 32).length : Int)) (r := r) tab rfl rfl rfl rfl rfl (fun _ => rfl) rfl rfl (by decide) (by omega) (by omega) hsl) rfl ?_
  iterate 2 refine pE rfl ?_
  refine WO.nil (qs (W.block ?_))
  refine ownNilR (d := 13) rfl rfl ?_
  refine W.len (t := 59) rfl rfl (fun hlen => ?_)
  try simp only [List.length_map, Ex.kc_len] at hlen
  refine W.loopR (ι := {x : Nat × Bool × List Int // match x with | (k, b, m) => k ≤ r.length ∧ numsF (r.drop k) b = numsF r (numF wa 1000000000000).2 ∧ m = (r.take k).map nv})
   (fun x => match x.1 with | (k, b, m) => [(10, .d (.v (.bool b))), (13, .own 0 (m.map ic)), (61, .d (.v (.int .i64 ((k : Nat) : Int))))]) [(7, _), (9, _), (11, _), (12, _), (59, _), (60, _)]
   (fun x => match x.1 with | (k, b, m) => []) [] [0] 1 (fun x => match x.1 with | (k, b, m) => r.length - k)
   [4] ⟨(0, (numF wa 1000000000000).2, []), ?_⟩ rfl ?_ ⟨rfl, rfl, rfl, rfl, rfl, rfl, rfl, rfl, rfl, rfl, rfl, rfl, trivial⟩ ?_ trivial rfl ?_
  · exact ⟨Nat.zero_le _, rfl, rfl⟩
  · repeat' first | exact trivial | refine ⟨rfl, ?_⟩ | refine ⟨congrArg some (renL_boxE _ _ _), ?_⟩ | refine ⟨step_nat (by assumption) (by assumption), ?_⟩
  · repeat' first | exact trivial | refine ⟨rfl, ?_⟩ | refine ⟨congrArg some (renL_boxE _ _ _), ?_⟩ | refine ⟨step_nat (by assumption) (by assumption), ?_⟩
  rintro ⟨⟨k, b, m⟩, hk, hI, hM⟩
  show W _ _ _ _ _ ⟨[(10, .d (.v (.bool b))), (13, .own 0 (m.map ic)), (61, .d (.v (.int .i64 ((k : Nat) : Int)))), (7, _), (9, _), (11, _), (12, _), (59, _), (60, _)], [], [0], 1⟩
  refine W.seq (W.region ?_)
  refine pE rfl ?_
  refine WO.nil (qs (W.seq ?_))
  refine eachR (l := r) (k := k) rfl (by simp [Ex.kc_len, bytes_len]) hk (fun x hx hd hlt => ?_) (fun he hd => ?_)
  ·
   have hsx : x.size ≤ 281474976710656 := hsz x (by rw [hw]; simp [List.mem_of_getElem? hx])
   refine W.skip (qs (W.seq (W.block (W.seq (W.region ?_)))))
   refine pu (indexAddr (l := sc x) tab rfl rfl rfl rfl rfl rfl (Int.natCast_nonneg _) (idx_map hx) rfl) rfl ?_
   first | refine pE rfl ?_ | refine pR rfl rfl rfl rfl rfl ?_ | refine pB rfl rfl rfl rfl rfl rfl ?_
   refine pE rfl ?_
   refine WO.nil (qs (W.seq (W.region ?_)))
   refine pE rfl ?_
   refine pu (puCall rfl rfl rfl ((number_fn _ _ (by assumption))) rfl) rfl ?_
   iterate 5 refine pE rfl ?_
   refine WO.nil (qs (W.seq ?_))
   apply regionB; (case hb => rfl)
   ·
    iterate 2 refine pE rfl ?_
    apply splitH; (case hj => rfl); (case hl => rfl)
    ·
     intro g71
     refine goG rfl rfl ?_
     iterate 3 refine pE rfl ?_
     refine WO.nil ?_
     refine qv1 rfl rfl rfl
    ·
     intro g71
     refine skipT rfl rfl rfl rfl ?_
     iterate 2 refine pE rfl ?_
     refine WO.nil ?_
     refine qv1 rfl rfl rfl
   refine qs (W.region ?_)
   iterate 2 refine pE rfl ?_
   refine pu (buildV tab rfl rfl rfl rfl rfl rfl rfl rfl rfl) rfl ?_
   refine appendM (fn := ic) (a := nv x) tab rfl rfl rfl rfl rfl rfl rfl rfl rfl rfl (fun _ => rfl) (by show (m.length + 1) * 8 ≤ _; rw [hM]; simp; omega) ?_
   refine pE rfl ?_
   refine WO.nil (qbN (qs (W.region ?_)))
   iterate 2 refine pE rfl ?_
   refine WO.nil ?_
   refine W.endR [1] ⟨(k + 1, (bif b then (numF x 1000000000000000).2 else false), m ++ [nv x]), ?_⟩ ?_ rfl ?_ ⟨rfl, rfl, rfl, rfl, rfl, rfl, rfl, rfl, rfl, rfl, rfl, rfl, trivial⟩ ?_ trivial rfl
   · exact ⟨hlt, by rw [← hI, hd, numsF]; congr 1; cases b <;> rfl, by rw [hM, List.take_add_one, hx, List.map_append]; rfl⟩
   · dsimp only; omega
   · repeat' first | exact trivial | refine ⟨rfl, ?_⟩ | refine ⟨congrArg some (renL_boxE _ _ _), ?_⟩ | refine ⟨step_nat (by assumption) (by assumption), ?_⟩
   · repeat' first | exact trivial | refine ⟨rfl, ?_⟩ | refine ⟨congrArg some (renL_boxE _ _ _), ?_⟩ | refine ⟨step_nat (by assumption) (by assumption), ?_⟩
  ·
   have hN : numsF r (numF wa 1000000000000).2 = b := by
    rw [hd] at hI
    exact hI.symm
   have hm : m = r.map nv := by rw [hM, List.take_of_length_le (by have := congrArg List.length hd; simp at this; omega)]
   obtain ⟨y, hy⟩ : ∃ y, kw = swW → m[1]? = some y := by
    by_cases q : kw = swW
    ·
     have h3 : r.length = 3 := by
      rcases cnt_val kw with ⟨_, h⟩ | ⟨h, _⟩ | ⟨h, _⟩ | ⟨h, _⟩
      · omega
      · rw [q] at h; exact absurd h (by decide)
      · rw [q] at h; exact absurd h (by decide)
      · exact absurd q h
     exact ⟨m[1]'(by rw [hm]; simp [h3]), fun _ => by simp⟩
    · exact ⟨0, fun h => absurd h q⟩
   refine W.exit (qsExit (qlExit (qbExit (qs ?_))))
   iterate 2 refine W.seq ?_
   apply regionB; (case hb => rfl)
   ·
    iterate 3 refine pE rfl ?_
    apply splitH; (case hj => rfl); (case hl => rfl)
    ·
     intro g81
     iterate 2 refine skipT rfl rfl rfl rfl ?_
     iterate 2 refine pE rfl ?_
     iterate 5 refine skipT rfl rfl rfl rfl ?_
     iterate 6 refine skipU rfl rfl rfl ?_
     refine skipT rfl rfl rfl rfl ?_
     refine pE rfl ?_
     refine WO.nil ?_
     refine qv1 rfl rfl rfl
    ·
     intro g81
     refine goG rfl rfl ?_
     refine pE rfl ?_
     refine goG rfl rfl ?_
     iterate 3 refine pE rfl ?_
     apply splitH; (case hj => rfl); (case hl => rfl)
     ·
      intro g85
      iterate 5 refine skipT rfl rfl rfl rfl ?_
      iterate 6 refine skipU rfl rfl rfl ?_
      refine skipT rfl rfl rfl rfl ?_
      refine pE rfl ?_
      refine WO.nil ?_
      refine qv1 rfl rfl rfl
     ·
      intro g85
      refine goG rfl rfl ?_
      refine pE rfl ?_
      refine goG rfl rfl ?_
      refine pu (indexAddr (l := sc kw) tab rfl rfl rfl rfl rfl rfl (by decide) (idx_map hi2) rfl) rfl ?_
      refine goG rfl rfl ?_
      first | refine pE rfl ?_ | refine pR rfl rfl rfl rfl rfl ?_ | refine pB rfl rfl rfl rfl rfl rfl ?_
      refine goG rfl rfl ?_
      refine pE rfl ?_
      refine goG rfl rfl ?_
      refine pE rfl ?_
      apply splitH; (case hj => rfl); (case hl => rfl)
      ·
       intro g90
       refine goG rfl rfl ?_
       refine pu (buildV tab rfl rfl rfl rfl rfl rfl rfl rfl rfl) rfl ?_
       refine goG rfl rfl ?_
       refine pE rfl ?_
       refine goG rfl rfl ?_
       refine pu (indexAddr (l := ic y) tab rfl rfl rfl rfl rfl rfl (by decide) (idx_map (hy (by simp at g90; exact g90))) rfl) rfl ?_
       refine goG rfl rfl ?_
       first | refine pE rfl ?_ | refine pR rfl rfl rfl rfl rfl ?_ | refine pB rfl rfl rfl rfl rfl rfl ?_
       refine goG rfl rfl ?_
       refine pu (puCall rfl rfl rfl (containsI_fn [0, 1, 3] y) rfl) rfl ?_
       refine goG rfl rfl ?_
       refine pE rfl ?_
       refine goG rfl rfl ?_
       iterate 2 refine pE rfl ?_
       refine WO.nil ?_
       refine qv1 rfl rfl rfl
      ·
       intro g90
       iterate 6 refine skipT rfl rfl rfl rfl ?_
       refine goG rfl rfl ?_
       iterate 2 refine pE rfl ?_
       refine WO.nil ?_
       refine qv1 rfl rfl rfl
   refine qs ?_
   refine condK rfl (fun h98 => ?_) (fun h98 => ?_)
   ·
    have hbad : lineF s = badLine := by
     unfold lineF
     rw [hw, lineW_eq hq.2.1 hrl y (by rw [← hm]; exact hy), hN]
     exact if_pos h98
    refine W.seq (W.region ?_)
    iterate 5 refine pE rfl ?_
    refine WO.nil (qs ?_)
    try refine nilSl (t := 5) rfl ?_
    refine W.ret (qsRet ?_)
    refine QF.ret0 trivial rfl ?_
    rw [hbad]; rfl
   ·
    have hgood : lineF s = ⟨(numF wa 1000000000000).1, (numF wb 63).1, kw, m, 0⟩ := by
     unfold lineF
     rw [hw, lineW_eq hq.2.1 hrl y (by rw [← hm]; exact hy), hN, hm]
     exact if_neg (by intro h; rw [show swW = B #[115, 119, 105, 116, 99, 104] from rfl] at h; exact absurd (h98.symm.trans h) (by simp))
    refine W.skip (qs (W.seq ?_))
    refine W.regionD tab (by kernel_rfl) ?_
    iterate 3 refine chPu (ev tab rfl) rfl ?_
    refine chPu (indexAddr (l := sc kw) tab rfl rfl rfl rfl rfl rfl (by decide) (idx_map hi2) rfl) rfl ?_
    first | refine chPu (ev tab rfl) rfl ?_ | refine chPu (loadRow tab rfl rfl rfl rfl) rfl ?_ | refine chPu (loadBox tab rfl rfl rfl rfl rfl) rfl ?_
    iterate 6 refine chPu (ev tab rfl) rfl ?_
    refine CH.nil ?_
    refine qs ?_
    try refine nilSl (t := 5) rfl ?_
    refine W.ret ?_
    refine QF.ret0 trivial rfl ?_
    rw [hgood]; rfl
end Go.Proofs.YtoojafbicmdclaaDoor
namespace Go.Proofs.YtoojafbicmdclaaDoor
open Go.Ab Go.Tb
set_option maxRecDepth 10000
attribute [local irreducible] W WO Pu QS QB QL QF QV QV1 CH QE
abbrev inB (g : Nat) (x : InS) : List A := [.own g (x.1.map ic), .mo (g + 1) (moes ik Ev.c x.2) none none]
theorem add_fn (s : InS) (th : Int) (e : Ev) (hs : OkIn 1000000 s) : DoesB Tryd.prog 29 [.ptr 0 0, .d (.v (.int .i64 th)), .ag e.c] [inB 1 s] 2 (.tup []) [inB 1 (addF s th e)] 2 := by
 obtain ⟨ids, m⟩ := s
 have hget := hs.get th
 have hid : ids.length ≤ 1000000 := hs.2.1
 obtain ⟨cur, hcur⟩ : ∃ cur, cur = (mget m th).getD [] := ⟨_, rfl⟩
 have hcl : cur.length ≤ 1000000 := by rw [hcur]; exact hget
 obtain ⟨ids', hids⟩ : ∃ ids', ids' = if cur = [] then ids ++ [th] else ids := ⟨_, rfl⟩
 refine DoesB.of_V tab (n := 40) (rs := []) Tryd.func29 (by kernel_rfl) rfl Tryd.ntmps29 Tryd.results29 rfl rfl fun C hC hG => ?_
 refine W.seq (W.region ?_)
 refine boxR rfl rfl rfl ?_
 refine WO.nil (qs ?_)
 iterate 2 refine W.seq ?_
 refine W.region ?_
 iterate 2 refine pE rfl ?_
 refine WO.nil (qs ?_)
 refine condK rfl (fun h7 => ?_) (fun h7 => ?_)
 ·
  have hth : th = 0 := by simpa using h7
  have hF0 : addF (ids, m) th e = (ids, m) := by unfold addF; rw [if_pos hth]
  refine W.ret (qsRet ?_)
  first | (refine QB1.end tab [1, 2] trivial rfl rfl rfl rfl ?_ ?_) | (refine QB1.end tab [2, 7] trivial rfl rfl rfl rfl ?_ ?_)
  · rw [hF0]; exact ⟨rfl, trivial⟩
  rfl
 ·
  have hth : th ≠ 0 := by simpa using h7
  have hF : addF (ids, m) th e = (ids', mput m th (cur ++ [e])) := by
   unfold addF
   rw [if_neg hth, hids, hcur]
  refine W.skip (qs ?_)
  iterate 2 refine W.seq ?_
  refine W.region ?_
  iterate 3 refine pE rfl ?_
  first | refine pE rfl ?_ | refine pR rfl rfl rfl rfl rfl ?_ | refine pB rfl rfl rfl rfl rfl rfl ?_
  refine pE rfl ?_
  refine pu (mapLookO (kf := ik) (fn := Ev.c) (l := m) (a := th) (r := cur.map Ev.c) tab rfl rfl rfl rfl rfl (keyInt (tab.u_int rfl rfl)) rfl rfl rfl hs.1 (by rw [hcur])) rfl ?_
  iterate 2 refine pE rfl ?_
  refine WO.nil (qs ?_)
  refine W.cutS [(0, .ptr 0 0), (1, .d (.v (.int .i64 th))), (5, .ptr 1 0)] [] [(0, [.own 2 (ids'.map ic), .mo 3 (moes ik Ev.c m) none none]), (1, e.c.map A.d)] [] [2, 3] 4 ?_ ?_
  ·
   refine condK rfl (fun h15 => ?_) (fun h15 => ?_)
   ·
    have hc : cur = [] := by simpa using h15
    have hi : ids' = ids ++ [th] := by rw [hids, if_pos hc]
    refine W.region ?_
    iterate 4 refine pE rfl ?_
    first | refine pE rfl ?_ | refine pR rfl rfl rfl rfl rfl ?_ | refine pB rfl rfl rfl rfl rfl rfl ?_
    refine pE rfl ?_
    refine pu (buildV tab rfl rfl rfl rfl rfl rfl rfl rfl rfl) rfl ?_
    refine appendM (fn := ic) (a := th) tab rfl rfl rfl rfl rfl rfl rfl rfl rfl rfl (fun _ => rfl) (by show (ids.length + 1) * 8 ≤ _; omega) ?_
    iterate 2 refine pE rfl ?_
    refine storeR tab rfl rfl rfl rfl rfl rfl rfl rfl ?_
    refine WO.nil ?_
    first | (refine cutEnd [0, 3, 4, 2] rfl ?_ trivial ?_ trivial rfl) | (refine cutEnd [0, 3, 1, 2] rfl ?_ trivial ?_ trivial rfl)
    · repeat' first | exact trivial | refine ⟨rfl, ?_⟩ | refine ⟨congrArg some (renL_boxE _ _ _), ?_⟩ | refine ⟨step_nat (by assumption) (by assumption), ?_⟩
    ·
     rw [hi]
     repeat' first | exact trivial | refine ⟨rfl, ?_⟩
   ·
    have hc : cur ≠ [] := by simpa using h15
    have hi : ids' = ids := by rw [hids, if_neg hc]
    refine W.skip ?_
    first | (refine cutEnd [0, 3, 4, 2] rfl ?_ trivial ?_ trivial rfl) | (refine cutEnd [0, 3, 1, 2] rfl ?_ trivial ?_ trivial rfl)
    · repeat' first | exact trivial | refine ⟨rfl, ?_⟩ | refine ⟨congrArg some (renL_boxE _ _ _), ?_⟩ | refine ⟨step_nat (by assumption) (by assumption), ?_⟩
    ·
     rw [hi]
     repeat' first | exact trivial | refine ⟨rfl, ?_⟩
  refine qs ?_
  refine W.nameMo 0 1 rfl rfl rfl fun b => ?_
  refine' W.regionLF tab (fun bx => [(0, [.own 2 (ids'.map ic), .mo 4 (moes ik Ev.c m) (some (ik th)) (some b)]) :: bx, (0, [.own 2 (ids'.map ic), .mo 4 (moes ik Ev.c m) (some (ik th)) (some b)]) :: bx]) [[4, 5, 2], [6, 4, 2]] [6, 7] [10, 13] 14 (by kernel_rfl) (by kernel_rfl) rfl rfl ?hL_1
  case' hL_1 => skip
  refine' cdPu' (ev tab rfl) ?p_2 rfl rfl rfl (by kernel_rfl) rfl ?h_2
  case' h_2 => skip
  refine' cdPu' (ev tab rfl) ?p_3 rfl rfl rfl (by kernel_rfl) rfl ?h_3
  case' h_3 => skip
  refine' cdPu' (ev tab rfl) ?p_4 rfl rfl rfl (by kernel_rfl) rfl ?h_4
  case' h_4 => skip
  refine' cdPu' (loadMo tab 0 1 rfl rfl rfl rfl) ?p_5 rfl rfl rfl (by kernel_rfl) rfl ?h_5
  case' h_5 => skip
  refine' cdPu' (ev tab rfl) ?p_6 rfl rfl rfl (by kernel_rfl) rfl ?h_6
  case' h_6 => skip
  refine' cdPu' (ev tab rfl) ?p_7 rfl rfl rfl (by kernel_rfl) rfl ?h_7
  case' h_7 => skip
  refine' cdPu' (ev tab rfl) ?p_8 rfl rfl rfl (by kernel_rfl) rfl ?h_8
  case' h_8 => skip
  refine' cdPu' (ev tab rfl) ?p_9 rfl rfl rfl (by kernel_rfl) rfl ?h_9
  case' h_9 => skip
  refine' cdPu' (loadMo tab 0 1 rfl rfl rfl rfl) ?p_10 rfl rfl rfl (by kernel_rfl) rfl ?h_10
  case' h_10 => skip
  refine' cdPu' (ev tab rfl) ?p_11 rfl rfl rfl (by kernel_rfl) rfl ?h_11
  case' h_11 => skip
  refine' cdX ?x_12 rfl rfl rfl (by kernel_rfl) (fun h => (alwNo h (by kernel_rfl)).elim) rfl ?h_12
  case x_12 =>
   intro b hb g; cases b
   · exact (alwNo hb (by kernel_rfl)).elim
   ·
    refine mapTakeN (kf := ik) (fn := Ev.c) (l := m) (a := th) (x := cur.map Ev.c) tab 0 1 rfl rfl rfl rfl rfl rfl rfl rfl (keyInt (tab.u_int rfl rfl)) rfl rfl rfl hs.1 (by rw [hcur]) rfl rfl ?_
    refine WO.nil ?_
    refine' stE1 rfl ?_ ?_ ?_ ?_
    all_goals try exact rfl
  case' h_12 => skip
  first | (refine' cdPu' (ev tab rfl) ?p_13 rfl rfl rfl (by kernel_rfl) rfl ?h_13) | (refine' cdPu' (loadRow tab rfl rfl rfl rfl) ?p_13 rfl rfl rfl (by kernel_rfl) rfl ?h_13) | (refine' cdPu' (loadBox tab rfl rfl rfl rfl rfl) ?p_13 rfl rfl rfl (by kernel_rfl) rfl ?h_13)
  case' h_13 => skip
  refine' cdPu' (buildV tab rfl rfl rfl rfl rfl rfl rfl rfl rfl) ?p_14 rfl rfl rfl (by kernel_rfl) rfl ?h_14
  case' h_14 => skip
  refine' cdX ?x_15 rfl rfl rfl (by kernel_rfl) (fun h => (alwNo h (by kernel_rfl)).elim) rfl ?h_15
  case x_15 =>
   intro b hb g; cases b
   · exact (alwNo hb (by kernel_rfl)).elim
   ·
    refine appendM (fn := Ev.c) (l := cur) (a := e) tab rfl rfl rfl rfl rfl rfl rfl rfl rfl rfl (fun _ => rfl) (by show (cur.length + 1) * 72 ≤ _; omega) ?_
    refine WO.nil ?_
    refine' stE1 rfl ?_ ?_ ?_ ?_
    all_goals try exact rfl
  case' h_15 => skip
  case p_2 => refine ⟨fun ha => (alwNo ha (by kernel_rfl)).elim, ?_, fun ha => (alwNo ha (by kernel_rfl)).elim, ?_, fun ha => (alwNo ha (by kernel_rfl)).elim, ?_⟩ <;> intro ha <;> first | exact ⟨ev tab rfl, fun h => nomatch h⟩ | exact (alwNo ha (by kernel_rfl)).elim
  case p_3 => refine ⟨fun ha => (alwNo ha (by kernel_rfl)).elim, ?_, fun ha => (alwNo ha (by kernel_rfl)).elim, ?_, fun ha => (alwNo ha (by kernel_rfl)).elim, ?_⟩ <;> intro ha <;> first | exact ⟨ev tab rfl, fun h => nomatch h⟩ | exact (alwNo ha (by kernel_rfl)).elim
  case p_4 => refine ⟨fun ha => (alwNo ha (by kernel_rfl)).elim, ?_, fun ha => (alwNo ha (by kernel_rfl)).elim, ?_, fun ha => (alwNo ha (by kernel_rfl)).elim, ?_⟩ <;> intro ha <;> first | exact ⟨ev tab rfl, fun h => nomatch h⟩ | exact (alwNo ha (by kernel_rfl)).elim
  case p_5 => refine ⟨fun ha => (alwNo ha (by kernel_rfl)).elim, ?_, fun ha => (alwNo ha (by kernel_rfl)).elim, ?_, fun ha => (alwNo ha (by kernel_rfl)).elim, ?_⟩ <;> intro ha <;> first | exact ⟨loadMo tab 0 1 rfl rfl rfl rfl, fun h => nomatch h⟩ | exact (alwNo ha (by kernel_rfl)).elim
  case p_6 => refine ⟨fun ha => (alwNo ha (by kernel_rfl)).elim, ?_, fun ha => (alwNo ha (by kernel_rfl)).elim, ?_, fun ha => (alwNo ha (by kernel_rfl)).elim, ?_⟩ <;> intro ha <;> first | exact ⟨ev tab rfl, fun h => nomatch h⟩ | exact (alwNo ha (by kernel_rfl)).elim
  case p_7 => refine ⟨fun ha => (alwNo ha (by kernel_rfl)).elim, ?_, fun ha => (alwNo ha (by kernel_rfl)).elim, ?_, fun ha => (alwNo ha (by kernel_rfl)).elim, ?_⟩ <;> intro ha <;> first | exact ⟨ev tab rfl, fun h => nomatch h⟩ | exact (alwNo ha (by kernel_rfl)).elim
  case p_8 => refine ⟨fun ha => (alwNo ha (by kernel_rfl)).elim, ?_, fun ha => (alwNo ha (by kernel_rfl)).elim, ?_, fun ha => (alwNo ha (by kernel_rfl)).elim, ?_⟩ <;> intro ha <;> first | exact ⟨ev tab rfl, fun h => nomatch h⟩ | exact (alwNo ha (by kernel_rfl)).elim
  case p_9 => refine ⟨fun ha => (alwNo ha (by kernel_rfl)).elim, ?_, fun ha => (alwNo ha (by kernel_rfl)).elim, ?_, fun ha => (alwNo ha (by kernel_rfl)).elim, ?_⟩ <;> intro ha <;> first | exact ⟨ev tab rfl, fun h => nomatch h⟩ | exact (alwNo ha (by kernel_rfl)).elim
  case p_10 => refine ⟨fun ha => (alwNo ha (by kernel_rfl)).elim, ?_, fun ha => (alwNo ha (by kernel_rfl)).elim, ?_, fun ha => (alwNo ha (by kernel_rfl)).elim, ?_⟩ <;> intro ha <;> first | exact ⟨loadMo tab 0 1 rfl rfl rfl rfl, fun h => nomatch h⟩ | exact (alwNo ha (by kernel_rfl)).elim
  case p_11 => refine ⟨fun ha => (alwNo ha (by kernel_rfl)).elim, ?_, fun ha => (alwNo ha (by kernel_rfl)).elim, ?_, fun ha => (alwNo ha (by kernel_rfl)).elim, ?_⟩ <;> intro ha <;> first | exact ⟨ev tab rfl, fun h => nomatch h⟩ | exact (alwNo ha (by kernel_rfl)).elim
  case p_13 => refine ⟨fun ha => (alwNo ha (by kernel_rfl)).elim, ?_, fun ha => (alwNo ha (by kernel_rfl)).elim, ?_, fun ha => (alwNo ha (by kernel_rfl)).elim, ?_⟩ <;> intro ha <;> first | exact ⟨ev tab rfl, fun h => nomatch h⟩ | exact ⟨loadRow tab rfl rfl rfl rfl, fun h => nomatch h⟩ | exact ⟨loadBox tab rfl rfl rfl rfl rfl, fun h => nomatch h⟩ | exact (alwNo ha (by kernel_rfl)).elim
  case p_14 => refine ⟨fun ha => (alwNo ha (by kernel_rfl)).elim, ?_, fun ha => (alwNo ha (by kernel_rfl)).elim, ?_, fun ha => (alwNo ha (by kernel_rfl)).elim, ?_⟩ <;> intro ha <;> first | exact ⟨buildV tab rfl rfl rfl rfl rfl rfl rfl rfl rfl, fun h => nomatch h⟩ | exact (alwNo ha (by kernel_rfl)).elim
  refine CD.nil ?_ rfl
  refine mapPutN (kf := ik) (fn := Ev.c) (l := m) (a := th) (y := cur ++ [e]) tab 0 1 rfl rfl rfl rfl rfl rfl rfl (keyInt (tab.u_int rfl rfl)) rfl rfl rfl hs.1 rfl rfl ?_
  refine WO.nil ?_
  first | (refine QB1.end tab [1, 2] trivial rfl rfl rfl rfl ?_ ?_) | (refine QB1.end tab [2, 7] trivial rfl rfl rfl rfl ?_ ?_)
  · rw [hF]; exact ⟨rfl, trivial⟩
  rfl
end Go.Proofs.YtoojafbicmdclaaDoor
namespace Go.Proofs.YtoojafbicmdclaaDoor
open Go.Ab Go.Tb
set_option maxRecDepth 10000
attribute [local irreducible] W WO Pu QS QB QL QF QV QV1 CH QE
def OkL (x : LineR) : Prop := (x.word = wkW ∧ x.l.length = 2) ∨ (x.word = swW ∧ x.l.length = 3) ∨ (x.word = blW ∧ x.l.length = 3)
theorem iline_fn (s : InS) (x : LineR) (hx : OkL x) (hs : OkIn 900000 s) : DoesB Tryd.prog 20 [.ptr 0 0, .d (ci x.at_), .d (ci x.cpu), .d (.v (.string x.word)), .d (.sl (x.l.map ic))] [inB 1 s] 2 (.tup []) [inB 1 (addsF s (lineE x))] 2 := by
 obtain ⟨a, qa⟩ : ∃ a, x.l[0]? = some a := by rcases hx with ⟨_, h⟩ | ⟨_, h⟩ | ⟨_, h⟩ <;> exact ⟨x.l[0]'(by omega), by simp⟩
 obtain ⟨b, qb⟩ : ∃ b, x.l[1]? = some b := by rcases hx with ⟨_, h⟩ | ⟨_, h⟩ | ⟨_, h⟩ <;> exact ⟨x.l[1]'(by omega), by simp⟩
 obtain ⟨c, qc⟩ : ∃ c, x.word ≠ wkW → x.l[2]? = some c := by
  rcases hx with ⟨h, _⟩ | ⟨_, h⟩ | ⟨_, h⟩
  · exact ⟨0, fun q => absurd h q⟩
  · exact ⟨x.l[2]'(by omega), fun _ => by simp⟩
  · exact ⟨x.l[2]'(by omega), fun _ => by simp⟩
 have hab : x.l[0]?.getD 0 = a ∧ x.l[1]?.getD 0 = b := by rw [qa, qb]; exact ⟨rfl, rfl⟩
 have hs1 : OkIn 1000000 s := hs.mono (by omega)
 refine DoesB.of_V tab (n := 55) (rs := []) Tryd.func20 (by kernel_rfl) rfl Tryd.ntmps20 Tryd.results20 rfl rfl fun C hC hG => ?_
 iterate 2 refine W.seq ?_
 refine W.region ?_
 refine pE rfl ?_
 refine WO.nil (qs (W.block (W.seq (W.region ?_))))
 iterate 2 refine pE rfl ?_
 refine WO.nil (qs ?_)
 refine condK rfl (fun h11 => ?_) (fun h11 => ?_)
 ·
  have hw : x.word = wkW := by simpa [wkW] using h11
  have hF : addsF s (lineE x) = addF s a (evW x.at_ b 0) := by unfold lineE; rw [if_pos hw, hab.1, hab.2]; rfl
  refine W.seq ?_
  refine W.regionL tab [] [] [] [] 9 (by kernel_rfl) (by kernel_rfl) rfl rfl ?_
  refine' cdPu' (ev tab rfl) ?p_1 rfl rfl rfl (by kernel_rfl) rfl ?h_1
  case' h_1 => skip
  case p_1 => refine ⟨fun ha => (alwNo ha (by kernel_rfl)).elim, ?_⟩ <;> intro ha <;> first | exact ⟨ev tab rfl, fun h => nomatch h⟩ | exact (alwNo ha (by kernel_rfl)).elim
  refine' cdPu' (ev tab rfl) ?p_2 rfl rfl rfl (by kernel_rfl) rfl ?h_2
  case' h_2 => skip
  case p_2 => refine ⟨fun ha => (alwNo ha (by kernel_rfl)).elim, ?_⟩ <;> intro ha <;> first | exact ⟨ev tab rfl, fun h => nomatch h⟩ | exact (alwNo ha (by kernel_rfl)).elim
  refine' cdPu' (indexAddr (l := ic a) tab rfl rfl rfl rfl rfl rfl (by decide) (idx_map qa) rfl) ?p_3 rfl rfl rfl (by kernel_rfl) rfl ?h_3
  case' h_3 => skip
  case p_3 => refine ⟨fun ha => (alwNo ha (by kernel_rfl)).elim, ?_⟩ <;> intro ha <;> first | exact ⟨indexAddr (l := ic a) tab rfl rfl rfl rfl rfl rfl (by decide) (idx_map qa) rfl, fun h => nomatch h⟩ | exact (alwNo ha (by kernel_rfl)).elim
  first | (refine' cdPu' (ev tab rfl) ?p_4 rfl rfl rfl (by kernel_rfl) rfl ?h_4) | (refine' cdPu' (loadRow tab rfl rfl rfl rfl) ?p_4 rfl rfl rfl (by kernel_rfl) rfl ?h_4) | (refine' cdPu' (loadBox tab rfl rfl rfl rfl rfl) ?p_4 rfl rfl rfl (by kernel_rfl) rfl ?h_4)
  case' h_4 => skip
  case p_4 => refine ⟨fun ha => (alwNo ha (by kernel_rfl)).elim, ?_⟩ <;> intro ha <;> first | exact ⟨ev tab rfl, fun h => nomatch h⟩ | exact ⟨loadRow tab rfl rfl rfl rfl, fun h => nomatch h⟩ | exact ⟨loadBox tab rfl rfl rfl rfl rfl, fun h => nomatch h⟩ | exact (alwNo ha (by kernel_rfl)).elim
  refine' cdPu' (ev tab rfl) ?p_5 rfl rfl rfl (by kernel_rfl) rfl ?h_5
  case' h_5 => skip
  case p_5 => refine ⟨fun ha => (alwNo ha (by kernel_rfl)).elim, ?_⟩ <;> intro ha <;> first | exact ⟨ev tab rfl, fun h => nomatch h⟩ | exact (alwNo ha (by kernel_rfl)).elim
  refine' cdPu' (ev tab rfl) ?p_6 rfl rfl rfl (by kernel_rfl) rfl ?h_6
  case' h_6 => skip
  case p_6 => refine ⟨fun ha => (alwNo ha (by kernel_rfl)).elim, ?_⟩ <;> intro ha <;> first | exact ⟨ev tab rfl, fun h => nomatch h⟩ | exact (alwNo ha (by kernel_rfl)).elim
  refine' cdPu' (indexAddr (l := ic b) tab rfl rfl rfl rfl rfl rfl (by decide) (idx_map qb) rfl) ?p_7 rfl rfl rfl (by kernel_rfl) rfl ?h_7
  case' h_7 => skip
  case p_7 => refine ⟨fun ha => (alwNo ha (by kernel_rfl)).elim, ?_⟩ <;> intro ha <;> first | exact ⟨indexAddr (l := ic b) tab rfl rfl rfl rfl rfl rfl (by decide) (idx_map qb) rfl, fun h => nomatch h⟩ | exact (alwNo ha (by kernel_rfl)).elim
  first | (refine' cdPu' (ev tab rfl) ?p_8 rfl rfl rfl (by kernel_rfl) rfl ?h_8) | (refine' cdPu' (loadRow tab rfl rfl rfl rfl) ?p_8 rfl rfl rfl (by kernel_rfl) rfl ?h_8) | (refine' cdPu' (loadBox tab rfl rfl rfl rfl rfl) ?p_8 rfl rfl rfl (by kernel_rfl) rfl ?h_8)
  case' h_8 => skip
  case p_8 => refine ⟨fun ha => (alwNo ha (by kernel_rfl)).elim, ?_⟩ <;> intro ha <;> first | exact ⟨ev tab rfl, fun h => nomatch h⟩ | exact ⟨loadRow tab rfl rfl rfl rfl, fun h => nomatch h⟩ | exact ⟨loadBox tab rfl rfl rfl rfl rfl, fun h => nomatch h⟩ | exact (alwNo ha (by kernel_rfl)).elim
  refine' cdPu' (build tab rfl rfl rfl rfl) ?p_9 rfl rfl rfl (by kernel_rfl) rfl ?h_9
  case' h_9 => skip
  case p_9 => refine ⟨fun ha => (alwNo ha (by kernel_rfl)).elim, ?_⟩ <;> intro ha <;> first | exact ⟨build tab rfl rfl rfl rfl, fun h => nomatch h⟩ | exact (alwNo ha (by kernel_rfl)).elim
  refine CD.nil ?_ rfl
  refine callB [0] [1, 2] rfl rfl rfl rfl rfl ((DoesB.nilA (add_fn s a (evW x.at_ b 0) hs1) rfl)) rfl rfl (by rfl) (by rfl) rfl rfl rfl rfl ?_
  refine WO.nil (qs (W.ret (qbRet (qsRet ?_))))
  first | (refine QB1.end tab [4, 5] trivial rfl rfl rfl rfl ?_ ?_) | (refine QB1.end tab [7, 8] trivial rfl rfl rfl rfl ?_ ?_)
  · rw [hF]; exact ⟨rfl, trivial⟩
  rfl
 ·
  have hw : x.word ≠ wkW := by simpa [wkW] using h11
  have qc := qc hw
  have hcd : x.l[2]?.getD 0 = c := by rw [qc]; rfl
  refine W.seq (W.region ?_)
  iterate 2 refine pE rfl ?_
  refine WO.nil (qs ?_)
  refine condK rfl (fun h23 => ?_) (fun h23 => ?_)
  ·
   have hw2 : x.word = swW := by simpa [swW] using h23
   refine W.regionL tab [] [] [] [] 9 (by kernel_rfl) (by kernel_rfl) rfl rfl ?_
   refine' cdPu' (ev tab rfl) ?p_10 rfl rfl rfl (by kernel_rfl) rfl ?h_10
   case' h_10 => skip
   case p_10 => refine ⟨fun ha => (alwNo ha (by kernel_rfl)).elim, ?_⟩ <;> intro ha <;> first | exact ⟨ev tab rfl, fun h => nomatch h⟩ | exact (alwNo ha (by kernel_rfl)).elim
   refine' cdPu' (ev tab rfl) ?p_11 rfl rfl rfl (by kernel_rfl) rfl ?h_11
   case' h_11 => skip
   case p_11 => refine ⟨fun ha => (alwNo ha (by kernel_rfl)).elim, ?_⟩ <;> intro ha <;> first | exact ⟨ev tab rfl, fun h => nomatch h⟩ | exact (alwNo ha (by kernel_rfl)).elim
   refine' cdPu' (indexAddr (l := ic a) tab rfl rfl rfl rfl rfl rfl (by decide) (idx_map qa) rfl) ?p_12 rfl rfl rfl (by kernel_rfl) rfl ?h_12
   case' h_12 => skip
   case p_12 => refine ⟨fun ha => (alwNo ha (by kernel_rfl)).elim, ?_⟩ <;> intro ha <;> first | exact ⟨indexAddr (l := ic a) tab rfl rfl rfl rfl rfl rfl (by decide) (idx_map qa) rfl, fun h => nomatch h⟩ | exact (alwNo ha (by kernel_rfl)).elim
   first | (refine' cdPu' (ev tab rfl) ?p_13 rfl rfl rfl (by kernel_rfl) rfl ?h_13) | (refine' cdPu' (loadRow tab rfl rfl rfl rfl) ?p_13 rfl rfl rfl (by kernel_rfl) rfl ?h_13) | (refine' cdPu' (loadBox tab rfl rfl rfl rfl rfl) ?p_13 rfl rfl rfl (by kernel_rfl) rfl ?h_13)
   case' h_13 => skip
   case p_13 => refine ⟨fun ha => (alwNo ha (by kernel_rfl)).elim, ?_⟩ <;> intro ha <;> first | exact ⟨ev tab rfl, fun h => nomatch h⟩ | exact ⟨loadRow tab rfl rfl rfl rfl, fun h => nomatch h⟩ | exact ⟨loadBox tab rfl rfl rfl rfl rfl, fun h => nomatch h⟩ | exact (alwNo ha (by kernel_rfl)).elim
   refine' cdPu' (ev tab rfl) ?p_14 rfl rfl rfl (by kernel_rfl) rfl ?h_14
   case' h_14 => skip
   case p_14 => refine ⟨fun ha => (alwNo ha (by kernel_rfl)).elim, ?_⟩ <;> intro ha <;> first | exact ⟨ev tab rfl, fun h => nomatch h⟩ | exact (alwNo ha (by kernel_rfl)).elim
   refine' cdPu' (ev tab rfl) ?p_15 rfl rfl rfl (by kernel_rfl) rfl ?h_15
   case' h_15 => skip
   case p_15 => refine ⟨fun ha => (alwNo ha (by kernel_rfl)).elim, ?_⟩ <;> intro ha <;> first | exact ⟨ev tab rfl, fun h => nomatch h⟩ | exact (alwNo ha (by kernel_rfl)).elim
   refine' cdPu' (indexAddr (l := ic b) tab rfl rfl rfl rfl rfl rfl (by decide) (idx_map qb) rfl) ?p_16 rfl rfl rfl (by kernel_rfl) rfl ?h_16
   case' h_16 => skip
   case p_16 => refine ⟨fun ha => (alwNo ha (by kernel_rfl)).elim, ?_⟩ <;> intro ha <;> first | exact ⟨indexAddr (l := ic b) tab rfl rfl rfl rfl rfl rfl (by decide) (idx_map qb) rfl, fun h => nomatch h⟩ | exact (alwNo ha (by kernel_rfl)).elim
   first | (refine' cdPu' (ev tab rfl) ?p_17 rfl rfl rfl (by kernel_rfl) rfl ?h_17) | (refine' cdPu' (loadRow tab rfl rfl rfl rfl) ?p_17 rfl rfl rfl (by kernel_rfl) rfl ?h_17) | (refine' cdPu' (loadBox tab rfl rfl rfl rfl rfl) ?p_17 rfl rfl rfl (by kernel_rfl) rfl ?h_17)
   case' h_17 => skip
   case p_17 => refine ⟨fun ha => (alwNo ha (by kernel_rfl)).elim, ?_⟩ <;> intro ha <;> first | exact ⟨ev tab rfl, fun h => nomatch h⟩ | exact ⟨loadRow tab rfl rfl rfl rfl, fun h => nomatch h⟩ | exact ⟨loadBox tab rfl rfl rfl rfl rfl, fun h => nomatch h⟩ | exact (alwNo ha (by kernel_rfl)).elim
   refine' cdPu' (build tab rfl rfl rfl rfl) ?p_18 rfl rfl rfl (by kernel_rfl) rfl ?h_18
   case' h_18 => skip
   case p_18 => refine ⟨fun ha => (alwNo ha (by kernel_rfl)).elim, ?_⟩ <;> intro ha <;> first | exact ⟨build tab rfl rfl rfl rfl, fun h => nomatch h⟩ | exact (alwNo ha (by kernel_rfl)).elim
   refine CD.nil ?_ rfl
   refine callB [0] [1, 2] rfl rfl rfl rfl rfl ((DoesB.nilA (add_fn s a (evS x.at_ b 0) hs1) rfl)) rfl rfl (by rfl) (by rfl) rfl rfl rfl rfl ?_
   refine WO.nil (qbN (qs (W.region ?_)))
   iterate 2 refine pE rfl ?_
   refine pu (indexAddr (l := ic c) tab rfl rfl rfl rfl rfl rfl (by decide) (idx_map qc) rfl) rfl ?_
   first | refine pE rfl ?_ | refine pR rfl rfl rfl rfl rfl ?_ | refine pB rfl rfl rfl rfl rfl rfl ?_
   iterate 2 refine pE rfl ?_
   refine pu (build tab rfl rfl rfl rfl) rfl ?_
   refine callB [0] [4, 5] rfl rfl rfl rfl rfl ((DoesB.nilA (add_fn _ c (evR x.at_ x.cpu) (hs.add _ _ |>.mono (by omega))) rfl)) rfl rfl (by rfl) (by rfl) rfl rfl rfl rfl ?_
   refine WO.nil ?_
   first | (refine QB1.end tab [4, 5] trivial rfl rfl rfl rfl ?_ ?_) | (refine QB1.end tab [7, 8] trivial rfl rfl rfl rfl ?_ ?_)
   ·
    have hF : addsF s (lineE x) = addF (addF s a (evS x.at_ b 0)) c (evR x.at_ x.cpu) := by unfold lineE; rw [if_neg hw, if_pos hw2, hab.1, hab.2, hcd]; rfl
    rw [hF]; exact ⟨rfl, trivial⟩
   rfl
  ·
   have hw2 : x.word ≠ swW := by simpa [swW] using h23
   refine W.seq (W.region ?_)
   iterate 2 refine pE rfl ?_
   refine WO.nil (qs ?_)
   refine condK rfl (fun h35 => ?_) (fun h35 => ?_)
   ·
    have hw3 : x.word = blW := by simpa [blW] using h35
    refine W.regionL tab [] [] [] [] 9 (by kernel_rfl) (by kernel_rfl) rfl rfl ?_
    refine' cdPu' (ev tab rfl) ?p_19 rfl rfl rfl (by kernel_rfl) rfl ?h_19
    case' h_19 => skip
    case p_19 => refine ⟨fun ha => (alwNo ha (by kernel_rfl)).elim, ?_⟩ <;> intro ha <;> first | exact ⟨ev tab rfl, fun h => nomatch h⟩ | exact (alwNo ha (by kernel_rfl)).elim
    refine' cdPu' (ev tab rfl) ?p_20 rfl rfl rfl (by kernel_rfl) rfl ?h_20
    case' h_20 => skip
    case p_20 => refine ⟨fun ha => (alwNo ha (by kernel_rfl)).elim, ?_⟩ <;> intro ha <;> first | exact ⟨ev tab rfl, fun h => nomatch h⟩ | exact (alwNo ha (by kernel_rfl)).elim
    refine' cdPu' (indexAddr (l := ic a) tab rfl rfl rfl rfl rfl rfl (by decide) (idx_map qa) rfl) ?p_21 rfl rfl rfl (by kernel_rfl) rfl ?h_21
    case' h_21 => skip
    case p_21 => refine ⟨fun ha => (alwNo ha (by kernel_rfl)).elim, ?_⟩ <;> intro ha <;> first | exact ⟨indexAddr (l := ic a) tab rfl rfl rfl rfl rfl rfl (by decide) (idx_map qa) rfl, fun h => nomatch h⟩ | exact (alwNo ha (by kernel_rfl)).elim
    first | (refine' cdPu' (ev tab rfl) ?p_22 rfl rfl rfl (by kernel_rfl) rfl ?h_22) | (refine' cdPu' (loadRow tab rfl rfl rfl rfl) ?p_22 rfl rfl rfl (by kernel_rfl) rfl ?h_22) | (refine' cdPu' (loadBox tab rfl rfl rfl rfl rfl) ?p_22 rfl rfl rfl (by kernel_rfl) rfl ?h_22)
    case' h_22 => skip
    case p_22 => refine ⟨fun ha => (alwNo ha (by kernel_rfl)).elim, ?_⟩ <;> intro ha <;> first | exact ⟨ev tab rfl, fun h => nomatch h⟩ | exact ⟨loadRow tab rfl rfl rfl rfl, fun h => nomatch h⟩ | exact ⟨loadBox tab rfl rfl rfl rfl rfl, fun h => nomatch h⟩ | exact (alwNo ha (by kernel_rfl)).elim
    refine' cdPu' (ev tab rfl) ?p_23 rfl rfl rfl (by kernel_rfl) rfl ?h_23
    case' h_23 => skip
    case p_23 => refine ⟨fun ha => (alwNo ha (by kernel_rfl)).elim, ?_⟩ <;> intro ha <;> first | exact ⟨ev tab rfl, fun h => nomatch h⟩ | exact (alwNo ha (by kernel_rfl)).elim
    refine' cdPu' (ev tab rfl) ?p_24 rfl rfl rfl (by kernel_rfl) rfl ?h_24
    case' h_24 => skip
    case p_24 => refine ⟨fun ha => (alwNo ha (by kernel_rfl)).elim, ?_⟩ <;> intro ha <;> first | exact ⟨ev tab rfl, fun h => nomatch h⟩ | exact (alwNo ha (by kernel_rfl)).elim
    refine' cdPu' (indexAddr (l := ic b) tab rfl rfl rfl rfl rfl rfl (by decide) (idx_map qb) rfl) ?p_25 rfl rfl rfl (by kernel_rfl) rfl ?h_25
    case' h_25 => skip
    case p_25 => refine ⟨fun ha => (alwNo ha (by kernel_rfl)).elim, ?_⟩ <;> intro ha <;> first | exact ⟨indexAddr (l := ic b) tab rfl rfl rfl rfl rfl rfl (by decide) (idx_map qb) rfl, fun h => nomatch h⟩ | exact (alwNo ha (by kernel_rfl)).elim
    first | (refine' cdPu' (ev tab rfl) ?p_26 rfl rfl rfl (by kernel_rfl) rfl ?h_26) | (refine' cdPu' (loadRow tab rfl rfl rfl rfl) ?p_26 rfl rfl rfl (by kernel_rfl) rfl ?h_26) | (refine' cdPu' (loadBox tab rfl rfl rfl rfl rfl) ?p_26 rfl rfl rfl (by kernel_rfl) rfl ?h_26)
    case' h_26 => skip
    case p_26 => refine ⟨fun ha => (alwNo ha (by kernel_rfl)).elim, ?_⟩ <;> intro ha <;> first | exact ⟨ev tab rfl, fun h => nomatch h⟩ | exact ⟨loadRow tab rfl rfl rfl rfl, fun h => nomatch h⟩ | exact ⟨loadBox tab rfl rfl rfl rfl rfl, fun h => nomatch h⟩ | exact (alwNo ha (by kernel_rfl)).elim
    refine' cdPu' (build tab rfl rfl rfl rfl) ?p_27 rfl rfl rfl (by kernel_rfl) rfl ?h_27
    case' h_27 => skip
    case p_27 => refine ⟨fun ha => (alwNo ha (by kernel_rfl)).elim, ?_⟩ <;> intro ha <;> first | exact ⟨build tab rfl rfl rfl rfl, fun h => nomatch h⟩ | exact (alwNo ha (by kernel_rfl)).elim
    refine CD.nil ?_ rfl
    refine callB [0] [1, 2] rfl rfl rfl rfl rfl ((DoesB.nilA (add_fn s a (evS x.at_ 2 b) hs1) rfl)) rfl rfl (by rfl) (by rfl) rfl rfl rfl rfl ?_
    refine WO.nil (qbN (qs (W.region ?_)))
    iterate 2 refine pE rfl ?_
    refine pu (indexAddr (l := ic c) tab rfl rfl rfl rfl rfl rfl (by decide) (idx_map qc) rfl) rfl ?_
    first | refine pE rfl ?_ | refine pR rfl rfl rfl rfl rfl ?_ | refine pB rfl rfl rfl rfl rfl rfl ?_
    iterate 2 refine pE rfl ?_
    refine pu (build tab rfl rfl rfl rfl) rfl ?_
    refine callB [0] [4, 5] rfl rfl rfl rfl rfl ((DoesB.nilA (add_fn _ c (evR x.at_ x.cpu) (hs.add _ _ |>.mono (by omega))) rfl)) rfl rfl (by rfl) (by rfl) rfl rfl rfl rfl ?_
    refine WO.nil ?_
    first | (refine QB1.end tab [4, 5] trivial rfl rfl rfl rfl ?_ ?_) | (refine QB1.end tab [7, 8] trivial rfl rfl rfl rfl ?_ ?_)
    ·
     have hF : addsF s (lineE x) = addF (addF s a (evS x.at_ 2 b)) c (evR x.at_ x.cpu) := by unfold lineE; rw [if_neg hw, if_neg hw2, hab.1, hab.2, hcd]; rfl
     rw [hF]; exact ⟨rfl, trivial⟩
    rfl
   ·
    exfalso; rcases hx with ⟨h, _⟩ | ⟨h, _⟩ | ⟨h, _⟩
    · exact hw h
    · exact hw2 h
    · simp at h35; exact h35 (by rw [h]; rfl)
end Go.Proofs.YtoojafbicmdclaaDoor
namespace Go.Proofs.YtoojafbicmdclaaDoor
open Go.Ab Go.Tb
set_option maxRecDepth 10000
attribute [local irreducible] W WO Pu QS QB QL QF QV QV1 CH QE
def lastT (l : List Ev) (k : Nat) : Option Int := if k = 0 then none else (l[k - 1]?).map Ev.time
theorem sub_one {k : Nat} (h : 0 < k) (hm : (k : Int) ≤ 9223372036854775807) : IntKind.i64.wrap ((k : Int) - 1) = ((k - 1 : Nat) : Int) := by
 rw [wrap64 (by omega)]
 omega
theorem checkAll_fn (l : List Ev) : Does Tryd.prog 62 [.d (.sl (l.map Ev.c))] (.d (.v (.int .i64 (allE l none)))) 0 := by
 refine Does.of_W (n := 32) (ts := [2]) Tryd.func62 (by kernel_rfl) rfl Tryd.ntmps62 Tryd.results62 rfl rfl fun C hC hG => ?_
 refine W.seq (W.region ?_)
 refine pE rfl ?_
 refine WO.nil (qs ?_)
 iterate 2 refine W.seq ?_
 refine W.region ?_
 iterate 3 refine pE rfl ?_
 refine WO.nil (qs (W.block ?_))
 refine W.len (t := 0) rfl rfl (fun hlen => ?_)
 try simp only [List.length_map, Ex.kc_len] at hlen
 refine W.loopR (ι := {x : Nat // match x with | k => k ≤ l.length ∧ allE (l.drop k) (lastT l k) = allE l none})
  (fun x => match x.1 with | k => [(8, .d (.v (.int .i64 ((k : Nat) : Int))))]) [(0, _), (6, _), (7, _)]
  (fun x => match x.1 with | k => []) [] [] 0 (fun x => match x.1 with | k => l.length - k)
  [] ⟨0, ?_⟩ rfl ?_ ⟨rfl, rfl, rfl, rfl, rfl, rfl, trivial⟩ ?_ trivial rfl ?_
 · exact ⟨Nat.zero_le _, rfl⟩
 · repeat' first | exact trivial | refine ⟨rfl, ?_⟩ | refine ⟨congrArg some (renL_boxE _ _ _), ?_⟩ | refine ⟨step_nat (by assumption) (by assumption), ?_⟩
 · repeat' first | exact trivial | refine ⟨rfl, ?_⟩ | refine ⟨congrArg some (renL_boxE _ _ _), ?_⟩ | refine ⟨step_nat (by assumption) (by assumption), ?_⟩
 rintro ⟨k, hk, hI⟩
 show W _ _ _ _ _ ⟨[(8, .d (.v (.int .i64 ((k : Nat) : Int)))), (0, _), (6, _), (7, _)], [], [], 0⟩
 refine W.seq (W.region ?_)
 refine pE rfl ?_
 refine WO.nil (qs (W.seq ?_))
 refine eachR (l := l) (k := k) rfl (by simp [Ex.kc_len, bytes_len]) hk (fun e hx hd hlt => ?_) (fun he hd => ?_)
 ·
  rw [hd] at hI
  simp only [allE] at hI
  obtain ⟨p, hp⟩ : ∃ p : Ev, 0 < k → l[k - 1]? = some p := ⟨l[k - 1]'(by omega), fun _ => by simp⟩
  have hlast : lateO (lastT l k) e.time = (decide (0 < k) && decide (e.time < p.time)) := by
   unfold lastT lateO
   by_cases q : k = 0
   · simp [q]
   · rw [if_neg q, hp (by omega)]; simp; omega
  rw [hlast] at hI
  have hnext : lastT l (k + 1) = some e.time := by unfold lastT; rw [if_neg (by omega), Nat.add_sub_cancel, hx]; rfl
  refine W.skip (qs (W.seq (W.block (W.seq (W.region ?_)))))
  refine pE rfl ?_
  refine pu (indexAddr tab rfl rfl rfl rfl rfl rfl (Int.natCast_nonneg _) (idx_map hx) rfl) rfl ?_
  first | refine pE rfl ?_ | refine pR rfl rfl rfl rfl rfl ?_ | refine pB rfl rfl rfl rfl rfl rfl ?_
  refine allocR tab rfl rfl rfl ?_
  refine pE rfl ?_
  refine storeR tab rfl rfl rfl rfl rfl rfl rfl rfl ?_
  refine WO.nil (qs ?_)
  iterate 2 refine W.seq ?_
  refine W.region ?_
  first | refine pE rfl ?_ | refine pR rfl rfl rfl rfl rfl ?_ | refine pB rfl rfl rfl rfl rfl rfl ?_
  refine pu (puCall rfl rfl rfl (echeck_fn e) rfl) rfl ?_
  refine pE rfl ?_
  refine WO.nil (qs (W.seq (W.region ?_)))
  iterate 2 refine pE rfl ?_
  refine WO.nil (qs ?_)
  refine condK rfl (fun h16 => ?_) (fun h16 => ?_)
  ·
   have hc : checkE e ≠ 0 := by simpa using h16
   rw [if_pos hc] at hI
   refine W.seq (W.region ?_)
   iterate 2 refine pE rfl ?_
   refine WO.nil (qs (W.ret (qsRet (qbRet (qsRet (qlRet (qbRet (qsRet ?_))))))))
   refine QF.ret0 trivial rfl ?_
   simp only [norm, oneA, ← hI]
  ·
   have hc : checkE e = 0 := by simpa using h16
   rw [if_neg (by simp [hc])] at hI
   refine W.skip (qs (W.seq ?_))
   apply regionDB tab; (case hb => rfl); (case hB => kernel_rfl)
   ·
    iterate 3 refine chPu (ev tab rfl) rfl ?_
    apply chSplitH; (case hj => rfl); (case hl => rfl)
    ·
     intro g20
     refine chGo rfl rfl (ev tab rfl) rfl ?_
     first | refine chGo rfl rfl (ev tab rfl) rfl ?_ | refine chGo rfl rfl (loadRow tab rfl rfl rfl rfl) rfl ?_ | refine chGo rfl rfl (loadBox tab rfl rfl rfl rfl rfl) rfl ?_
     refine chGo rfl rfl (ev tab rfl) rfl ?_
     refine chGo rfl rfl (ev tab rfl) rfl ?_
     refine chGo rfl rfl (puI (ev tab rfl) (y := ((k - 1 : Nat) : Int)) (sub_one (by simpa using g20) (by simp only [maxLen] at hlen; omega))) rfl ?_
     refine chGo rfl rfl (indexAddr (l := p.c) tab rfl rfl rfl rfl rfl rfl (Int.natCast_nonneg _) (idx_map (hp (by simpa using g20))) rfl) rfl ?_
     refine chGo rfl rfl (ev tab rfl) rfl ?_
     first | refine chGo rfl rfl (ev tab rfl) rfl ?_ | refine chGo rfl rfl (loadRow tab rfl rfl rfl rfl) rfl ?_ | refine chGo rfl rfl (loadBox tab rfl rfl rfl rfl rfl) rfl ?_
     refine chGo rfl rfl (ev tab rfl) rfl ?_
     refine chPu (ev tab rfl) rfl ?_
     refine CH.nil ?_
     refine qv1 rfl rfl rfl
    ·
     intro g20
     iterate 9 refine chSkip rfl rfl rfl rfl ?_
     refine chPu (ev tab rfl) rfl ?_
     refine CH.nil ?_
     refine qv1 rfl rfl rfl
   refine qs ?_
   refine condK rfl (fun h30 => ?_) (fun h30 => ?_)
   ·
    have hc2 : (decide (0 < k) && decide (e.time < p.time)) = true := by simp at h30 ⊢; omega
    rw [if_pos hc2] at hI
    refine W.seq (W.region ?_)
    refine pE rfl ?_
    refine WO.nil (qs (W.ret (qbRet (qsRet (qlRet (qbRet (qsRet ?_)))))))
    refine QF.ret0 trivial rfl ?_
    simp only [norm, oneA, ← hI]
   ·
    have hc2 : (decide (0 < k) && decide (e.time < p.time)) = false := by simp at h30 ⊢; omega
    rw [if_neg (by rw [hc2]; decide)] at hI
    refine W.skip (qbN (qs (W.region ?_)))
    iterate 2 refine pE rfl ?_
    refine WO.nil ?_
    refine W.endR [] ⟨k + 1, ?_⟩ ?_ rfl ?_ ⟨rfl, rfl, rfl, rfl, rfl, rfl, trivial⟩ ?_ trivial rfl
    · exact ⟨hlt, by rw [hnext]; exact hI⟩
    · dsimp only; omega
    · repeat' first | exact trivial | refine ⟨rfl, ?_⟩ | refine ⟨congrArg some (renL_boxE _ _ _), ?_⟩ | refine ⟨step_nat (by assumption) (by assumption), ?_⟩
    · repeat' first | exact trivial | refine ⟨rfl, ?_⟩ | refine ⟨congrArg some (renL_boxE _ _ _), ?_⟩ | refine ⟨step_nat (by assumption) (by assumption), ?_⟩
 ·
  rw [hd] at hI
  simp only [allE] at hI
  refine W.exit (qsExit (qlExit (qbExit (qs (W.seq (W.region ?_))))))
  refine pE rfl ?_
  refine WO.nil (qs (W.ret ?_))
  refine QF.ret0 trivial rfl ?_
  simp only [norm, oneA, ← hI]
theorem thread_fn (t : Thr) (ht : 0 ≤ t.id ∧ t.id ≤ 1000000000000000 ∧ nameErr t.name = 0) : Does Tryd.prog 42 [.ag t.c] (.d (.v (.int .i64 0))) 0 := by
 refine Does.of_W (n := 24) (ts := [2]) Tryd.func42 (by kernel_rfl) rfl Tryd.ntmps42 Tryd.results42 rfl rfl fun C hC hG => ?_
 refine W.seq (W.region ?_)
 refine boxR rfl rfl rfl ?_
 refine pE rfl ?_
 refine WO.nil (qs ?_)
 iterate 2 refine W.seq ?_
 apply regionB; (case hb => rfl)
 ·
  refine pE rfl ?_
  first | refine pE rfl ?_ | refine pR rfl rfl rfl rfl rfl ?_ | refine pB rfl rfl rfl rfl rfl rfl ?_
  iterate 2 refine pE rfl ?_
  apply splitJ; (case hj => rfl); (case hl => rfl)
  ·
   iterate 3 refine skipT rfl rfl rfl rfl ?_
   iterate 2 refine pE rfl ?_
   iterate 3 refine skipT rfl rfl rfl rfl ?_
   iterate 2 refine pE rfl ?_
   iterate 3 refine skipT rfl rfl rfl rfl ?_
   refine pE rfl ?_
   refine WO.nil ?_
   refine qv1 rfl rfl rfl
  ·
   refine goG rfl rfl ?_
   refine pE rfl ?_
   refine goG rfl rfl ?_
   first | refine pE rfl ?_ | refine pR rfl rfl rfl rfl rfl ?_ | refine pB rfl rfl rfl rfl rfl rfl ?_
   refine goG rfl rfl ?_
   iterate 3 refine pE rfl ?_
   apply splitJ; (case hj => rfl); (case hl => rfl)
   ·
    iterate 3 refine skipT rfl rfl rfl rfl ?_
    iterate 2 refine pE rfl ?_
    iterate 3 refine skipT rfl rfl rfl rfl ?_
    refine pE rfl ?_
    refine WO.nil ?_
    refine qv1 rfl rfl rfl
   ·
    refine goG rfl rfl ?_
    refine pE rfl ?_
    refine goG rfl rfl ?_
    first | refine pE rfl ?_ | refine pR rfl rfl rfl rfl rfl ?_ | refine pB rfl rfl rfl rfl rfl rfl ?_
    refine goG rfl rfl ?_
    iterate 3 refine pE rfl ?_
    apply splitJ; (case hj => rfl); (case hl => rfl)
    ·
     iterate 3 refine skipT rfl rfl rfl rfl ?_
     refine pE rfl ?_
     refine WO.nil ?_
     refine qv1 rfl rfl rfl
    ·
     refine goG rfl rfl ?_
     refine pE rfl ?_
     refine goG rfl rfl ?_
     first | refine pE rfl ?_ | refine pR rfl rfl rfl rfl rfl ?_ | refine pB rfl rfl rfl rfl rfl rfl ?_
     refine goG rfl rfl ?_
     iterate 2 refine pE rfl ?_
     refine WO.nil ?_
     refine qv1 rfl rfl rfl
 refine qs ?_
 refine condK rfl (fun h20 => ?_) (fun h20 => ?_)
 ·
  exfalso; simp at h20; omega
 ·
  refine W.skip (qs (W.seq (W.region ?_)))
  refine pE rfl ?_
  first | refine pE rfl ?_ | refine pR rfl rfl rfl rfl rfl ?_ | refine pB rfl rfl rfl rfl rfl rfl ?_
  refine pu (puCall rfl rfl rfl (name_fn ..) rfl) rfl ?_
  refine pE rfl ?_
  refine WO.nil (qs (W.ret ?_))
  refine QF.ret0 trivial rfl ?_
  simp only [norm, oneA, ht.2.2]
theorem idxDom_fn (fid : Nat) (caps : List A) (hc : Still caps) (p : Int × Int → Bool) (hp : ∀ x : Int × Int, Does Tryd.prog fid (.ag (domC x) :: caps) (.d (.v (.bool (p x)))) 0) (l : List (Int × Int)) :
  Does Tryd.prog 61 [.d (.sl (l.map domC)), .clo fid caps] (.d (.v (.int .i64 (idx (l.findIdx? p))))) 0 := by
 refine Does.of_W (n := 19) (ts := [4]) Tryd.func61 (by kernel_rfl) rfl Tryd.ntmps61 Tryd.results61 rfl rfl fun C hC hG => ?_
 refine W.seq (W.region ?_)
 refine pE rfl ?_
 refine WO.nil (qs ?_)
 iterate 2 refine W.seq ?_
 refine W.region ?_
 iterate 3 refine pE rfl ?_
 refine WO.nil (qs (W.block ?_))
 refine W.len (t := 0) rfl rfl (fun hlen => ?_)
 try simp only [List.length_map, Ex.kc_len] at hlen
 refine W.loopR (ι := {x : Nat // match x with | k => k ≤ l.length ∧ noneBefore p l k})
  (fun x => match x.1 with | k => [(8, .d (.v (.int .i64 ((k : Nat) : Int))))]) [(0, _), (1, _), (7, _)]
  (fun x => match x.1 with | k => []) [] [] 0 (fun x => match x.1 with | k => l.length - k)
  [] ⟨0, ?_⟩ rfl ?_ ⟨rfl, (by first | rfl | exact hc.2), rfl, (by first | rfl | exact hc.2), rfl, (by first | rfl | exact hc.2), trivial⟩ ?_ trivial rfl ?_
 · exact ⟨Nat.zero_le _, noneBefore.zero⟩
 · repeat' first | exact trivial | refine ⟨rfl, ?_⟩ | refine ⟨congrArg some (renL_boxE _ _ _), ?_⟩ | refine ⟨step_nat (by assumption) (by assumption), ?_⟩
 · repeat' first | exact trivial | refine ⟨rfl, ?_⟩ | refine ⟨congrArg some (renL_boxE _ _ _), ?_⟩ | refine ⟨step_nat (by assumption) (by assumption), ?_⟩
 rintro ⟨k, hk, hI⟩
 show W _ _ _ _ _ ⟨[(8, .d (.v (.int .i64 ((k : Nat) : Int)))), (0, _), (1, _), (7, _)], [], [], 0⟩
 refine W.seq (W.region ?_)
 refine pE rfl ?_
 refine WO.nil (qs (W.seq ?_))
 refine eachR (l := l) (k := k) rfl (by simp [Ex.kc_len, bytes_len]) hk (fun x hx hd hlt => ?_) (fun he hd => ?_)
 ·
  refine W.skip (qs (W.seq (W.block (W.seq (W.region ?_)))))
  iterate 2 refine pE rfl ?_
  refine WO.nil (qs (W.seq (W.region ?_)))
  iterate 3 refine pE rfl ?_
  refine pu (indexAddr tab rfl rfl rfl rfl rfl rfl (Int.natCast_nonneg _) (idx_map hx) rfl) rfl ?_
  first | refine pE rfl ?_ | refine pR rfl rfl rfl rfl rfl ?_ | refine pB rfl rfl rfl rfl rfl rfl ?_
  refine pu (puCall rfl rfl (by rw [List.map_append, hc.1 _ 3]; rfl) (hp x) rfl) rfl ?_
  refine WO.nil (qs ?_)
  refine condK rfl (fun h16 => ?_) (fun h16 => ?_)
  ·
   refine W.seq (W.region ?_)
   iterate 2 refine pE rfl ?_
   refine WO.nil (qs (W.ret (qbRet (qsRet (qlRet (qbRet (qsRet ?_)))))))
   refine QF.ret0 trivial rfl ?_
   simp only [norm, oneA]; rw [hI.found hx h16]; rfl
  ·
   refine W.skip (qbN (qs (W.region ?_)))
   iterate 2 refine pE rfl ?_
   refine WO.nil ?_
   refine W.endR [] ⟨k + 1, ?_⟩ ?_ rfl ?_ ⟨rfl, (by first | rfl | exact hc.2), rfl, (by first | rfl | exact hc.2), rfl, (by first | rfl | exact hc.2), trivial⟩ ?_ trivial rfl
   · exact ⟨hlt, hI.step hx h16⟩
   · dsimp only; omega
   · repeat' first | exact trivial | refine ⟨rfl, ?_⟩ | refine ⟨congrArg some (renL_boxE _ _ _), ?_⟩ | refine ⟨step_nat (by assumption) (by assumption), ?_⟩
   · repeat' first | exact trivial | refine ⟨rfl, ?_⟩ | refine ⟨congrArg some (renL_boxE _ _ _), ?_⟩ | refine ⟨step_nat (by assumption) (by assumption), ?_⟩
 ·
  refine W.exit (qsExit (qlExit (qbExit (qs (W.seq (W.region ?_))))))
  refine pE rfl ?_
  refine WO.nil (qs (W.ret ?_))
  refine QF.ret0 trivial rfl ?_
  simp only [norm, oneA]; rw [hI.end_ he]; rfl
theorem contDom_fn (fid : Nat) (caps : List A) (hc : Still caps) (p : Int × Int → Bool) (hp : ∀ x : Int × Int, Does Tryd.prog fid (.ag (domC x) :: caps) (.d (.v (.bool (p x)))) 0) (l : List (Int × Int)) :
  Does Tryd.prog 44 [.d (.sl (l.map domC)), .clo fid caps] (.d (.v (.bool (l.any p)))) 0 := by
 refine Does.of_W (n := 9) (ts := [4]) Tryd.func44 (by kernel_rfl) rfl Tryd.ntmps44 Tryd.results44 rfl rfl fun C hC hG => ?_
 refine W.seq (W.region ?_)
 refine pE rfl ?_
 refine WO.nil (qs (W.seq (W.region ?_)))
 iterate 2 refine pE rfl ?_
 refine pu (puCall (args := [.d (.sl (l.map domC)), .clo fid caps]) rfl rfl (by simp [conv, hc.1 _ 2]) (idxDom_fn fid caps hc p hp l) rfl) rfl ?_
 iterate 2 refine pE rfl ?_
 refine WO.nil (qs (W.ret ?_))
 refine QF.ret0 trivial rfl ?_
 simp only [norm, oneA]; rw [← idx_nonneg]
theorem domIs_fn (id : Int) (d : Int × Int) : Does Tryd.prog 93 [.ag (domC d), .row [.d (.v (.int .i64 id))]] (.d (.v (.bool (decide (d.1 = id))))) 0 := by
 refine Does.of_W (n := 8) (ts := [3]) Tryd.func93 (by kernel_rfl) rfl Tryd.ntmps93 Tryd.results93 rfl rfl fun C hC hG => ?_
 refine W.seq (W.region ?_)
 refine boxR rfl rfl rfl ?_
 refine pE rfl ?_
 refine WO.nil (qs (W.seq (W.region ?_)))
 refine pE rfl ?_
 first | refine pE rfl ?_ | refine pR rfl rfl rfl rfl rfl ?_ | refine pB rfl rfl rfl rfl rfl rfl ?_
 first | refine pE rfl ?_ | refine pR rfl rfl rfl rfl rfl ?_ | refine pB rfl rfl rfl rfl rfl rfl ?_
 iterate 2 refine pE rfl ?_
 refine WO.nil (qs (W.ret ?_))
 refine QF.ret0 trivial rfl ?_
 rfl
theorem cindex_fn (l : List (Int × Int)) (id : Int) : Does Tryd.prog 79 [.d (.sl (l.map domC)), .d (.v (.int .i64 id))] (.d (.v (.int .i64 (idx (l.findIdx? fun d => decide (d.1 = id)))))) 0 := by
 refine Does.of_W (n := 8) (ts := [4]) Tryd.func79 (by kernel_rfl) rfl Tryd.ntmps79 Tryd.results79 rfl rfl fun C hC hG => ?_
 refine W.seq (W.region ?_)
 refine boxR rfl rfl rfl ?_
 refine pE rfl ?_
 refine WO.nil (qs (W.seq (W.region ?_)))
 iterate 2 refine pE rfl ?_
 refine pu (puCall rfl rfl rfl (idxDom_fn _ _ ⟨fun _ _ => rfl, rfl⟩ _ (domIs_fn id) l) rfl) rfl ?_
 refine pE rfl ?_
 refine WO.nil (qs (W.ret ?_))
 refine QF.ret0 trivial rfl ?_
 rfl
theorem domOf_fn (t : Thr) (d : Int × Int) : Does Tryd.prog 45 [.ag (domC d), .row (t.c.map A.d)] (.d (.v (.bool (decide (d.1 = 0))))) 0 := by
 refine Does.of_W (n := 9) (ts := [3]) Tryd.func45 (by kernel_rfl) rfl Tryd.ntmps45 Tryd.results45 rfl rfl fun C hC hG => ?_
 refine W.seq (W.region ?_)
 refine boxR rfl rfl rfl ?_
 refine pE rfl ?_
 refine WO.nil (qs (W.seq (W.region ?_)))
 refine pE rfl ?_
 first | refine pE rfl ?_ | refine pR rfl rfl rfl rfl rfl ?_ | refine pB rfl rfl rfl rfl rfl rfl ?_
 refine pE rfl ?_
 first | refine pE rfl ?_ | refine pR rfl rfl rfl rfl rfl ?_ | refine pB rfl rfl rfl rfl rfl rfl ?_
 iterate 2 refine pE rfl ?_
 refine WO.nil (qs (W.ret ?_))
 refine QF.ret0 trivial rfl ?_
 rfl
end Go.Proofs.YtoojafbicmdclaaDoor
namespace Go.Proofs.YtoojafbicmdclaaDoor
open Go.Ab Go.Tb
set_option maxRecDepth 10000
attribute [local irreducible] W WO Pu QS QB QL QF QV QV1 CH QE
theorem dom0_at {k : Nat} {d : Int × Int} (h : dom0[k]? = some d) : k = 0 ∧ d = (0, 0) := by
 match k with
 | 0 => simp [dom0] at h; exact ⟨rfl, h.symm⟩
 | k + 1 => simp [dom0] at h
theorem domains_fn : Does Tryd.prog 59 [.d (.sl (dom0.map domC))] (.d (.v (.int .i64 0))) 0 := by
 refine Does.of_W (n := 38) (ts := [2]) Tryd.func59 (by kernel_rfl) rfl Tryd.ntmps59 Tryd.results59 rfl rfl fun C hC hG => ?_
 refine W.seq (W.region ?_)
 refine pE rfl ?_
 refine WO.nil (qs ?_)
 iterate 2 refine W.seq ?_
 refine W.region ?_
 iterate 3 refine pE rfl ?_
 refine WO.nil (qs (W.block ?_))
 refine W.loopR (ι := {x : Nat // match x with | k => k ≤ dom0.length})
  (fun x => match x.1 with | k => [(7, .d (.v (.int .i64 ((k : Nat) : Int))))]) [(0, _), (5, _), (6, _)]
  (fun x => match x.1 with | k => []) [] [] 0 (fun x => match x.1 with | k => dom0.length - k)
  [] ⟨0, ?_⟩ rfl ?_ ⟨rfl, rfl, rfl, rfl, rfl, rfl, trivial⟩ ?_ trivial rfl ?_
 · exact Nat.zero_le _
 · repeat' first | exact trivial | refine ⟨rfl, ?_⟩ | refine ⟨congrArg some (renL_boxE _ _ _), ?_⟩ | refine ⟨step_nat (by assumption) (by assumption), ?_⟩
 · repeat' first | exact trivial | refine ⟨rfl, ?_⟩ | refine ⟨congrArg some (renL_boxE _ _ _), ?_⟩ | refine ⟨step_nat (by assumption) (by assumption), ?_⟩
 rintro ⟨k, hk⟩
 show W _ _ _ _ _ ⟨[(7, .d (.v (.int .i64 ((k : Nat) : Int)))), (0, _), (5, _), (6, _)], [], [], 0⟩
 refine W.seq (W.region ?_)
 refine pE rfl ?_
 refine WO.nil (qs (W.seq ?_))
 refine eachR (l := dom0) (k := k) rfl (by simp [Ex.kc_len, bytes_len]) hk (fun d hx hd hlt => ?_) (fun he hd => ?_)
 ·
  obtain ⟨hk0, hd0⟩ := dom0_at hx
  subst hk0
  subst hd0
  refine W.skip (qs (W.seq (W.block (W.seq (W.region ?_)))))
  refine pE rfl ?_
  refine pu (indexAddr (l := domC (0, 0)) tab rfl rfl rfl rfl rfl rfl (by decide) rfl rfl) rfl ?_
  first | refine pE rfl ?_ | refine pR rfl rfl rfl rfl rfl ?_ | refine pB rfl rfl rfl rfl rfl rfl ?_
  refine allocR tab rfl rfl rfl ?_
  refine pE rfl ?_
  refine storeR tab rfl rfl rfl rfl rfl rfl rfl rfl ?_
  refine WO.nil (qs ?_)
  iterate 2 refine W.seq ?_
  apply regionB; (case hb => rfl)
  ·
   refine pE rfl ?_
   first | refine pE rfl ?_ | refine pR rfl rfl rfl rfl rfl ?_ | refine pB rfl rfl rfl rfl rfl rfl ?_
   iterate 2 refine pE rfl ?_
   apply splitJ; (case hj => rfl); (case hl => rfl)
   ·
    iterate 3 refine skipT rfl rfl rfl rfl ?_
    iterate 2 refine pE rfl ?_
    iterate 3 refine skipT rfl rfl rfl rfl ?_
    iterate 2 refine pE rfl ?_
    iterate 3 refine skipT rfl rfl rfl rfl ?_
    refine pE rfl ?_
    refine WO.nil ?_
    refine qv1 rfl rfl rfl
   ·
    refine goG rfl rfl ?_
    refine pE rfl ?_
    refine goG rfl rfl ?_
    first | refine pE rfl ?_ | refine pR rfl rfl rfl rfl rfl ?_ | refine pB rfl rfl rfl rfl rfl rfl ?_
    refine goG rfl rfl ?_
    iterate 3 refine pE rfl ?_
    apply splitJ; (case hj => rfl); (case hl => rfl)
    ·
     iterate 3 refine skipT rfl rfl rfl rfl ?_
     iterate 2 refine pE rfl ?_
     iterate 3 refine skipT rfl rfl rfl rfl ?_
     refine pE rfl ?_
     refine WO.nil ?_
     refine qv1 rfl rfl rfl
    ·
     refine goG rfl rfl ?_
     refine pE rfl ?_
     refine goG rfl rfl ?_
     first | refine pE rfl ?_ | refine pR rfl rfl rfl rfl rfl ?_ | refine pB rfl rfl rfl rfl rfl rfl ?_
     refine goG rfl rfl ?_
     iterate 3 refine pE rfl ?_
     apply splitJ; (case hj => rfl); (case hl => rfl)
     ·
      iterate 3 refine skipT rfl rfl rfl rfl ?_
      refine pE rfl ?_
      refine WO.nil ?_
      refine qv1 rfl rfl rfl
     ·
      refine goG rfl rfl ?_
      refine pE rfl ?_
      refine goG rfl rfl ?_
      first | refine pE rfl ?_ | refine pR rfl rfl rfl rfl rfl ?_ | refine pB rfl rfl rfl rfl rfl rfl ?_
      refine goG rfl rfl ?_
      iterate 2 refine pE rfl ?_
      refine WO.nil ?_
      refine qv1 rfl rfl rfl
  refine qs ?_
  refine condK rfl (fun h29 => ?_) (fun h29 => ?_)
  ·
   exfalso; simp at h29
  ·
   refine W.skip (qs (W.seq ?_))
   refine W.regionD tab (by kernel_rfl) ?_
   iterate 2 refine chPu (ev tab rfl) rfl ?_
   refine chPu (sliceV (fn := domC) (l := dom0) (i := 0) (j := 0) (r := []) tab rfl rfl rfl rfl rfl (fun _ => rfl) rfl rfl (by decide) (by decide) (by decide) rfl) rfl ?_
   refine chPu (ev tab rfl) rfl ?_
   first | refine chPu (ev tab rfl) rfl ?_ | refine chPu (loadRow tab rfl rfl rfl rfl) rfl ?_ | refine chPu (loadBox tab rfl rfl rfl rfl rfl) rfl ?_
   refine chPu (puCall rfl rfl rfl (cindex_fn [] 0) rfl) rfl ?_
   refine chPu (ev tab rfl) rfl ?_
   refine CH.nil ?_
   refine qs ?_
   refine condK rfl (fun h36 => ?_) (fun h36 => ?_)
   ·
    exfalso; simp [idx] at h36
   ·
    refine W.skip (qbN (qs (W.region ?_)))
    iterate 2 refine pE rfl ?_
    refine WO.nil ?_
    refine W.endR [] ⟨1, ?_⟩ ?_ rfl ?_ ⟨rfl, rfl, rfl, rfl, rfl, rfl, trivial⟩ ?_ trivial rfl
    · decide
    · dsimp only; omega
    · repeat' first | exact trivial | refine ⟨rfl, ?_⟩ | refine ⟨congrArg some (renL_boxE _ _ _), ?_⟩ | refine ⟨step_nat (by assumption) (by assumption), ?_⟩
    · repeat' first | exact trivial | refine ⟨rfl, ?_⟩ | refine ⟨congrArg some (renL_boxE _ _ _), ?_⟩ | refine ⟨step_nat (by assumption) (by assumption), ?_⟩
 ·
  refine W.exit (qsExit (qlExit (qbExit (qs (W.seq (W.region ?_))))))
  refine pE rfl ?_
  refine WO.nil (qs (W.ret ?_))
  refine QF.ret0 trivial rfl ?_
  rfl
theorem clock_fn : Does Tryd.prog 43 [.d (.sl (dom0.map domC)), .d (.sl [])] (.d (.v (.int .i64 0))) 0 := by
 refine Does.of_W (n := 43) (ts := [4]) Tryd.func43 (by kernel_rfl) rfl Tryd.ntmps43 Tryd.results43 rfl rfl fun C hC hG => ?_
 refine W.seq (W.region ?_)
 refine pE rfl ?_
 refine WO.nil (qs ?_)
 iterate 2 refine W.seq ?_
 refine W.region ?_
 iterate 3 refine pE rfl ?_
 refine WO.nil (qs ?_)
 refine condK rfl (fun h11 => ?_) (fun h11 => ?_)
 ·
  exfalso; simp [dom0] at h11
 ·
  refine W.skip (qs ?_)
  iterate 2 refine W.seq ?_
  apply regionB; (case hb => rfl)
  ·
   iterate 4 refine pE rfl ?_
   apply splitJ; (case hj => rfl); (case hl => rfl)
   ·
    iterate 3 refine skipT rfl rfl rfl rfl ?_
    refine pE rfl ?_
    refine WO.nil ?_
    refine qv1 rfl rfl rfl
   ·
    refine goG rfl rfl ?_
    refine pE rfl ?_
    refine goG rfl rfl ?_
    refine pE rfl ?_
    refine goG rfl rfl ?_
    iterate 2 refine pE rfl ?_
    refine WO.nil ?_
    refine qv1 rfl rfl rfl
  refine qs ?_
  refine condK rfl (fun h19 => ?_) (fun h19 => ?_)
  ·
   exfalso; simp [dom0] at h19
  ·
   refine W.skip (qs ?_)
   iterate 2 refine W.seq ?_
   refine W.region ?_
   refine pE rfl ?_
   refine pu (indexAddr (l := domC (0, 0)) tab rfl rfl rfl rfl rfl rfl (by decide) rfl rfl) rfl ?_
   first | refine pE rfl ?_ | refine pR rfl rfl rfl rfl rfl ?_ | refine pB rfl rfl rfl rfl rfl rfl ?_
   refine pu (build tab rfl rfl rfl rfl) rfl ?_
   refine pE rfl ?_
   refine WO.nil (qs ?_)
   refine condK rfl (fun h24 => ?_) (fun h24 => ?_)
   ·
    exfalso; simp at h24 <;> omega
   ·
    refine W.skip (qs ?_)
    iterate 2 refine W.seq ?_
    refine W.region ?_
    refine pE rfl ?_
    refine pu (puCall rfl rfl rfl domains_fn rfl) rfl ?_
    refine pE rfl ?_
    refine WO.nil (qs (W.seq (W.region ?_)))
    iterate 2 refine pE rfl ?_
    refine WO.nil (qs ?_)
    refine condK rfl (fun h28 => ?_) (fun h28 => ?_)
    ·
     exfalso; simp at h28
    ·
     refine W.skip (qs ?_)
     iterate 2 refine W.seq ?_
     refine W.region ?_
     iterate 3 refine pE rfl ?_
     refine WO.nil (qs (W.block ?_))
     refine W.loopR (ι := {x : Nat // match x with | k => k ≤ ([] : List (List D)).length})
      (fun x => match x.1 with | k => [(32, .d (.v (.int .i64 ((k : Nat) : Int))))]) [(0, _), (30, _), (31, _)]
      (fun x => match x.1 with | k => []) [] [] 0 (fun x => match x.1 with | k => ([] : List (List D)).length - k)
      [] ⟨0, ?_⟩ rfl ?_ ⟨rfl, rfl, rfl, rfl, rfl, rfl, trivial⟩ ?_ trivial rfl ?_
     · exact Nat.zero_le _
     · repeat' first | exact trivial | refine ⟨rfl, ?_⟩ | refine ⟨congrArg some (renL_boxE _ _ _), ?_⟩ | refine ⟨step_nat (by assumption) (by assumption), ?_⟩
     · repeat' first | exact trivial | refine ⟨rfl, ?_⟩ | refine ⟨congrArg some (renL_boxE _ _ _), ?_⟩ | refine ⟨step_nat (by assumption) (by assumption), ?_⟩
     rintro ⟨k, hk⟩
     show W _ _ _ _ _ ⟨[(32, .d (.v (.int .i64 ((k : Nat) : Int)))), (0, _), (30, _), (31, _)], [], [], 0⟩
     refine W.seq (W.region ?_)
     refine pE rfl ?_
     refine WO.nil (qs (W.seq ?_))
     refine eachR (l := ([] : List (List D))) (k := k) rfl (by simp [Ex.kc_len, bytes_len]) hk (fun d hx hd hlt => ?_) (fun he hd => ?_)
     ·
      exfalso; simp at hx
     ·
      refine W.exit (qsExit (qlExit (qbExit (qs (W.seq (W.region ?_))))))
      refine pE rfl ?_
      refine WO.nil (qs (W.ret ?_))
      refine QF.ret0 trivial rfl ?_
      rfl
theorem cond_fn (t : Thr) : Does Tryd.prog 44 [.d (.sl (dom0.map domC)), .clo 45 [.row (t.c.map A.d)]] (.d (.v (.bool true))) 0 :=
 contDom_fn _ _ ⟨fun _ _ => rfl, rfl⟩ _ (domOf_fn t) dom0
theorem head_fn (ts : List Thr) (ok : OkT ts) : Does Tryd.prog 32 [.ag (hdC ts)] (.d (.v (.int .i64 (headE ts)))) 0 := by
 refine Does.of_W (n := 62) (ts := [2]) Tryd.func32 (by kernel_rfl) rfl Tryd.ntmps32 Tryd.results32 rfl rfl fun C hC hG => ?_
 refine W.seq (W.region ?_)
 refine boxR rfl rfl rfl ?_
 refine pE rfl ?_
 refine WO.nil (qs (W.seq (W.block (W.seq (W.region ?_)))))
 refine pE rfl ?_
 first | refine pE rfl ?_ | refine pR rfl rfl rfl rfl rfl ?_ | refine pB rfl rfl rfl rfl rfl rfl ?_
 iterate 3 refine pE rfl ?_
 refine WO.nil (qs ?_)
 refine condK rfl (fun h10 => ?_) (fun h10 => ?_)
 ·
  have hg : headE ts = 8 := by simp at h10; unfold headE; rw [if_pos h10]
  refine W.seq (W.region ?_)
  refine pE rfl ?_
  refine WO.nil (qs (W.ret (qbRet (qsRet ?_))))
  refine QF.ret0 trivial rfl ?_
  simp only [norm, oneA, hg]
 ·
  have hne : ts ≠ [] := by simpa using h10
  refine W.seq (W.region ?_)
  refine pE rfl ?_
  first | refine pE rfl ?_ | refine pR rfl rfl rfl rfl rfl ?_ | refine pB rfl rfl rfl rfl rfl rfl ?_
  iterate 3 refine pE rfl ?_
  refine WO.nil (qs ?_)
  refine condK rfl (fun h15 => ?_) (fun h15 => ?_)
  ·
   have hg : headE ts = 7 := by simp at h15; unfold headE; rw [if_neg hne, if_pos (by omega)]
   refine W.seq (W.region ?_)
   refine pE rfl ?_
   refine WO.nil (qs (W.ret (qbRet (qsRet ?_))))
   refine QF.ret0 trivial rfl ?_
   simp only [norm, oneA, hg]
  ·
   have hg : headE ts = 0 := by simp at h15; unfold headE; rw [if_neg hne, if_neg (by omega)]
   have hlen : ts.length ≤ maxLen := by simp at h15; simp only [maxLen]; omega
   refine W.skip (qbN (qs (W.seq (W.region ?_))))
   refine mkMap rfl ?_
   refine pE rfl ?_
   refine WO.nil (qs ?_)
   iterate 2 refine W.seq ?_
   refine W.region ?_
   refine pE rfl ?_
   first | refine pE rfl ?_ | refine pR rfl rfl rfl rfl rfl ?_ | refine pB rfl rfl rfl rfl rfl rfl ?_
   iterate 2 refine pE rfl ?_
   refine WO.nil (qs (W.block ?_))
   refine W.loopR (ι := {x : Nat // match x with | k => k ≤ ts.length})
    (fun x => match x.1 with | k => [(1, .ptr 0 0), (3, .mp 1 (mes ik cbD (seenM (ts.take k) Thr.id))), (24, .d (.v (.int .i64 ((k : Nat) : Int))))]) [(22, _), (23, _)]
    (fun x => match x.1 with | k => [(0, (hdC ts).map A.d)]) [] [1] 2 (fun x => match x.1 with | k => ts.length - k)
    [0, 1] ⟨0, ?_⟩ rfl ?_ ⟨rfl, rfl, rfl, rfl, trivial⟩ ?_ trivial rfl ?_
   · exact Nat.zero_le _
   · repeat' first | exact trivial | refine ⟨rfl, ?_⟩ | refine ⟨congrArg some (renL_boxE _ _ _), ?_⟩ | refine ⟨step_nat (by assumption) (by assumption), ?_⟩
   · repeat' first | exact trivial | refine ⟨rfl, ?_⟩ | refine ⟨congrArg some (renL_boxE _ _ _), ?_⟩ | refine ⟨step_nat (by assumption) (by assumption), ?_⟩
   rintro ⟨k, hk⟩
   show W _ _ _ _ _ ⟨[(1, .ptr 0 0), (3, .mp 1 (mes ik cbD (seenM (ts.take k) Thr.id))), (24, .d (.v (.int .i64 ((k : Nat) : Int)))), (22, _), (23, _)], [(0, (hdC ts).map A.d)], [1], 2⟩
   refine W.seq (W.region ?_)
   refine pE rfl ?_
   refine WO.nil (qs (W.seq ?_))
   refine eachR (l := ts) (k := k) rfl (by simp [Ex.kc_len, bytes_len]) hk (fun t hx hd hlt => ?_) (fun he hd => ?_)
   ·
    have hok := ok.1 t (List.mem_of_getElem? hx)
    refine W.skip (qs (W.seq (W.block (W.seq (W.region ?_)))))
    refine pu (indexAddr tab rfl rfl rfl rfl rfl rfl (Int.natCast_nonneg _) (idx_map hx) rfl) rfl ?_
    first | refine pE rfl ?_ | refine pR rfl rfl rfl rfl rfl ?_ | refine pB rfl rfl rfl rfl rfl rfl ?_
    refine allocR tab rfl rfl rfl ?_
    refine storeR tab rfl rfl rfl rfl rfl rfl rfl rfl ?_
    refine WO.nil (qs ?_)
    iterate 2 refine W.seq ?_
    refine W.region ?_
    first | refine pE rfl ?_ | refine pR rfl rfl rfl rfl rfl ?_ | refine pB rfl rfl rfl rfl rfl rfl ?_
    refine pu (puCall rfl rfl rfl (thread_fn t hok) rfl) rfl ?_
    refine pE rfl ?_
    refine WO.nil (qs (W.seq (W.region ?_)))
    iterate 2 refine pE rfl ?_
    refine WO.nil (qs ?_)
    refine condK rfl (fun h31 => ?_) (fun h31 => ?_)
    ·
     exfalso; simp at h31
    ·
     refine W.skip (qs ?_)
     iterate 2 refine W.seq ?_
     refine W.region ?_
     iterate 2 refine pE rfl ?_
     first | refine pE rfl ?_ | refine pR rfl rfl rfl rfl rfl ?_ | refine pB rfl rfl rfl rfl rfl rfl ?_
     refine pu (mapGet (kf := ik) (vf := cbD) (l := seenM (ts.take k) Thr.id) (a := t.id) (z := false) (r := cbD false) tab rfl rfl rfl rfl rfl (keyInt (tab.u_int rfl rfl)) rfl rfl rfl (fun _ _ => .v _ rfl) (by rw [seenM_keys]; exact nodup_take ok.2 k) (by rw [seenM_get ok.2 hx])) rfl ?_
     refine WO.nil (qs ?_)
     refine condK rfl (fun h36 => ?_) (fun h36 => ?_)
     ·
      exfalso; simp at h36
     ·
      refine W.skip (qs (W.region ?_))
      iterate 2 refine pE rfl ?_
      first | refine pE rfl ?_ | refine pR rfl rfl rfl rfl rfl ?_ | refine pB rfl rfl rfl rfl rfl rfl ?_
      first | refine mapPut (kf := ik) (vf := cbD) (l := seenM (ts.take k) Thr.id) (a := t.id) (y := true) tab 3 rfl rfl rfl rfl rfl rfl rfl (keyInt (tab.u_int rfl rfl)) rfl rfl (by rw [seenM_keys]; exact nodup_take ok.2 k) (by rw [seenM_put ok.2 hx]) rfl ?_
      refine WO.nil (qbN (qs (W.region ?_)))
      iterate 2 refine pE rfl ?_
      refine WO.nil ?_
      refine W.endR [0, 3] ⟨k + 1, ?_⟩ ?_ rfl ?_ ⟨rfl, rfl, rfl, rfl, trivial⟩ ?_ trivial rfl
      · exact hlt
      · dsimp only; omega
      · repeat' first | exact trivial | refine ⟨rfl, ?_⟩ | refine ⟨congrArg some (renL_boxE _ _ _), ?_⟩ | refine ⟨step_nat (by assumption) (by assumption), ?_⟩
      · repeat' first | exact trivial | refine ⟨rfl, ?_⟩ | refine ⟨congrArg some (renL_boxE _ _ _), ?_⟩ | refine ⟨step_nat (by assumption) (by assumption), ?_⟩
   ·
    refine W.exit (qsExit (qlExit (qbExit (qs ?_))))
    iterate 2 refine W.seq ?_
    refine W.region ?_
    refine pE rfl ?_
    first | refine pE rfl ?_ | refine pR rfl rfl rfl rfl rfl ?_ | refine pB rfl rfl rfl rfl rfl rfl ?_
    refine pE rfl ?_
    first | refine pE rfl ?_ | refine pR rfl rfl rfl rfl rfl ?_ | refine pB rfl rfl rfl rfl rfl rfl ?_
    refine pu (puCall rfl rfl rfl clock_fn rfl) rfl ?_
    refine pE rfl ?_
    refine WO.nil (qs (W.seq (W.region ?_)))
    iterate 2 refine pE rfl ?_
    refine WO.nil (qs ?_)
    refine condK rfl (fun h47 => ?_) (fun h47 => ?_)
    ·
     exfalso; simp at h47
    ·
     refine W.skip (qs ?_)
     iterate 2 refine W.seq ?_
     refine W.region ?_
     refine pE rfl ?_
     first | refine pE rfl ?_ | refine pR rfl rfl rfl rfl rfl ?_ | refine pB rfl rfl rfl rfl rfl rfl ?_
     iterate 2 refine pE rfl ?_
     refine WO.nil (qs (W.block ?_))
     refine W.loopR (ι := {x : Nat // match x with | k => k ≤ ts.length})
      (fun x => match x.1 with | k => [(1, .ptr 0 0), (52, .d (.v (.int .i64 ((k : Nat) : Int))))]) [(50, _), (51, _)]
      (fun x => match x.1 with | k => [(0, (hdC ts).map A.d)]) [] [] 1 (fun x => match x.1 with | k => ts.length - k)
      [0] ⟨0, ?_⟩ rfl ?_ ⟨rfl, rfl, rfl, rfl, trivial⟩ ?_ trivial rfl ?_
     · exact Nat.zero_le _
     · repeat' first | exact trivial | refine ⟨rfl, ?_⟩ | refine ⟨congrArg some (renL_boxE _ _ _), ?_⟩ | refine ⟨step_nat (by assumption) (by assumption), ?_⟩
     · repeat' first | exact trivial | refine ⟨rfl, ?_⟩ | refine ⟨congrArg some (renL_boxE _ _ _), ?_⟩ | refine ⟨step_nat (by assumption) (by assumption), ?_⟩
     rintro ⟨k, hk⟩
     show W _ _ _ _ _ ⟨[(1, .ptr 0 0), (52, .d (.v (.int .i64 ((k : Nat) : Int)))), (50, _), (51, _)], [(0, (hdC ts).map A.d)], [], 1⟩
     refine W.seq (W.region ?_)
     refine pE rfl ?_
     refine WO.nil (qs (W.seq ?_))
     refine eachR (l := ts) (k := k) rfl (by simp [Ex.kc_len, bytes_len]) hk (fun t hx hd hlt => ?_) (fun he hd => ?_)
     ·
      refine W.skip (qs (W.seq (W.block (W.seq (W.region ?_)))))
      refine pu (indexAddr tab rfl rfl rfl rfl rfl rfl (Int.natCast_nonneg _) (idx_map hx) rfl) rfl ?_
      first | refine pE rfl ?_ | refine pR rfl rfl rfl rfl rfl ?_ | refine pB rfl rfl rfl rfl rfl rfl ?_
      refine allocR tab rfl rfl rfl ?_
      refine storeR tab rfl rfl rfl rfl rfl rfl rfl rfl ?_
      refine WO.nil (qs (W.seq (W.region ?_)))
      refine pE rfl ?_
      first | refine pE rfl ?_ | refine pR rfl rfl rfl rfl rfl ?_ | refine pB rfl rfl rfl rfl rfl rfl ?_
      refine pE rfl ?_
      refine pu (puCall rfl rfl rfl (cond_fn t) rfl) rfl ?_
      refine pE rfl ?_
      refine WO.nil (qs ?_)
      refine condK rfl (fun h60 => ?_) (fun h60 => ?_)
      ·
       exfalso; simp at h60
      ·
       refine W.skip (qbN (qs (W.region ?_)))
       iterate 2 refine pE rfl ?_
       refine WO.nil ?_
       refine W.endR [0] ⟨k + 1, ?_⟩ ?_ rfl ?_ ⟨rfl, rfl, rfl, rfl, trivial⟩ ?_ trivial rfl
       · exact hlt
       · dsimp only; omega
       · repeat' first | exact trivial | refine ⟨rfl, ?_⟩ | refine ⟨congrArg some (renL_boxE _ _ _), ?_⟩ | refine ⟨step_nat (by assumption) (by assumption), ?_⟩
       · repeat' first | exact trivial | refine ⟨rfl, ?_⟩ | refine ⟨congrArg some (renL_boxE _ _ _), ?_⟩ | refine ⟨step_nat (by assumption) (by assumption), ?_⟩
     ·
      refine W.exit (qsExit (qlExit (qbExit (qs (W.seq (W.region ?_))))))
      refine pE rfl ?_
      refine WO.nil (qs (W.ret ?_))
      refine QF.ret0 trivial rfl ?_
      simp only [norm, oneA, hg]
theorem packet_fn (p : Pkt) (h1 : 0 ≤ p.thread ∧ p.thread ≤ 1000000000000000) (h2 : p.serial = 0) (h3 : p.lost = 0) (h4 : 0 < p.evs.length ∧ p.evs.length ≤ 1000) : Does Tryd.prog 46 [.ag p.c] (.d (.v (.int .i64 (allE p.evs none)))) 0 := by
 obtain ⟨th, se, lo, evs⟩ := p
 simp only at h1 h2 h3 h4
 subst h2; subst h3
 have hlen : [th, 0, 0].length ≤ maxLen := by simp [maxLen]
 refine Does.of_W (n := 50) (ts := [2]) Tryd.func46 (by kernel_rfl) rfl Tryd.ntmps46 Tryd.results46 rfl rfl fun C hC hG => ?_
 refine W.seq (W.region ?_)
 refine boxR rfl rfl rfl ?_
 refine pE rfl ?_
 refine WO.nil (qs ?_)
 iterate 2 refine W.seq ?_
 refine W.region ?_
 refine pE rfl ?_
 first | refine pE rfl ?_ | refine pR rfl rfl rfl rfl rfl ?_ | refine pB rfl rfl rfl rfl rfl rfl ?_
 refine pE rfl ?_
 first | refine pE rfl ?_ | refine pR rfl rfl rfl rfl rfl ?_ | refine pB rfl rfl rfl rfl rfl rfl ?_
 refine pE rfl ?_
 first | refine pE rfl ?_ | refine pR rfl rfl rfl rfl rfl ?_ | refine pB rfl rfl rfl rfl rfl rfl ?_
 refine pu (buildV tab rfl rfl rfl rfl rfl rfl rfl rfl rfl) rfl ?_
 iterate 2 refine pE rfl ?_
 refine WO.nil (qs (W.block ?_))
 refine W.loopR (ι := {x : Nat // match x with | k => k ≤ [th, 0, 0].length})
  (fun x => match x.1 with | k => [(1, .ptr 0 0), (13, .d (.v (.int .i64 ((k : Nat) : Int))))]) [(11, _), (12, _)]
  (fun x => match x.1 with | k => [(0, (Pkt.c ⟨th, 0, 0, evs⟩).map A.d)]) [] [] 1 (fun x => match x.1 with | k => [th, 0, 0].length - k)
  [0] ⟨0, ?_⟩ rfl ?_ ⟨rfl, rfl, rfl, rfl, trivial⟩ ?_ trivial rfl ?_
 · exact Nat.zero_le _
 · repeat' first | exact trivial | refine ⟨rfl, ?_⟩ | refine ⟨congrArg some (renL_boxE _ _ _), ?_⟩ | refine ⟨step_nat (by assumption) (by assumption), ?_⟩
 · repeat' first | exact trivial | refine ⟨rfl, ?_⟩ | refine ⟨congrArg some (renL_boxE _ _ _), ?_⟩ | refine ⟨step_nat (by assumption) (by assumption), ?_⟩
 rintro ⟨k, hk⟩
 show W _ _ _ _ _ ⟨[(1, .ptr 0 0), (13, .d (.v (.int .i64 ((k : Nat) : Int)))), (11, _), (12, _)], [(0, (Pkt.c ⟨th, 0, 0, evs⟩).map A.d)], [], 1⟩
 refine W.seq (W.region ?_)
 refine pE rfl ?_
 refine WO.nil (qs (W.seq ?_))
 refine eachR (l := [th, 0, 0]) (k := k) rfl (by simp [Ex.kc_len, bytes_len]) hk (fun y hx hd hlt => ?_) (fun he hd => ?_)
 ·
  have hy : 0 ≤ y ∧ y ≤ 1000000000000000 := by have := List.mem_of_getElem? hx; simp at this; rcases this with rfl | rfl <;> omega
  refine W.skip (qs (W.seq (W.block (W.seq (W.region ?_)))))
  refine pu (indexAddr tab rfl rfl rfl rfl rfl rfl (Int.natCast_nonneg _) (idx_map (f := ic) hx) rfl) rfl ?_
  first | refine pE rfl ?_ | refine pR rfl rfl rfl rfl rfl ?_ | refine pB rfl rfl rfl rfl rfl rfl ?_
  refine pE rfl ?_
  refine WO.nil (qs (W.seq ?_))
  apply regionB; (case hb => rfl)
  ·
   iterate 3 refine pE rfl ?_
   apply splitJ; (case hj => rfl); (case hl => rfl)
   ·
    iterate 2 refine skipT rfl rfl rfl rfl ?_
    refine pE rfl ?_
    refine WO.nil ?_
    refine qv1 rfl rfl rfl
   ·
    refine goG rfl rfl ?_
    refine pE rfl ?_
    refine goG rfl rfl ?_
    iterate 2 refine pE rfl ?_
    refine WO.nil ?_
    refine qv1 rfl rfl rfl
  refine qs ?_
  refine condK rfl (fun h22 => ?_) (fun h22 => ?_)
  ·
   exfalso; simp at h22; omega
  ·
   refine W.skip (qbN (qs (W.region ?_)))
   iterate 2 refine pE rfl ?_
   refine WO.nil ?_
   refine W.endR [0] ⟨k + 1, ?_⟩ ?_ rfl ?_ ⟨rfl, rfl, rfl, rfl, trivial⟩ ?_ trivial rfl
   · exact hlt
   · dsimp only; omega
   · repeat' first | exact trivial | refine ⟨rfl, ?_⟩ | refine ⟨congrArg some (renL_boxE _ _ _), ?_⟩ | refine ⟨step_nat (by assumption) (by assumption), ?_⟩
   · repeat' first | exact trivial | refine ⟨rfl, ?_⟩ | refine ⟨congrArg some (renL_boxE _ _ _), ?_⟩ | refine ⟨step_nat (by assumption) (by assumption), ?_⟩
 ·
  refine W.exit (qsExit (qlExit (qbExit (qs (W.seq (W.block ?_))))))
  iterate 2 refine W.seq ?_
  refine W.region ?_
  refine pE rfl ?_
  first | refine pE rfl ?_ | refine pR rfl rfl rfl rfl rfl ?_ | refine pB rfl rfl rfl rfl rfl rfl ?_
  refine pE rfl ?_
  first | refine pE rfl ?_ | refine pR rfl rfl rfl rfl rfl ?_ | refine pB rfl rfl rfl rfl rfl rfl ?_
  iterate 2 refine pE rfl ?_
  refine WO.nil (qs ?_)
  refine condK rfl (fun h24 => ?_) (fun h24 => ?_)
  ·
   exfalso; simp at h24 <;> omega
  ·
   refine W.region ?_
   refine pE rfl ?_
   first | refine pE rfl ?_ | refine pR rfl rfl rfl rfl rfl ?_ | refine pB rfl rfl rfl rfl rfl rfl ?_
   refine pE rfl ?_
   first | refine pE rfl ?_ | refine pR rfl rfl rfl rfl rfl ?_ | refine pB rfl rfl rfl rfl rfl rfl ?_
   refine pE rfl ?_
   refine pu (puI (ev tab rfl) (y := (evs.length : Int)) (by show IntKind.i64.wrap ((0 : Int) + ((evs.map Ev.c).length : Nat)) = _; rw [List.length_map, wrap64 (by omega)]; omega)) rfl ?_
   iterate 2 refine pE rfl ?_
   refine WO.nil (qs ?_)
   refine condK rfl (fun h24 => ?_) (fun h24 => ?_)
   ·
    exfalso; simp at h24 <;> omega
   ·
    refine W.seq (W.region ?_)
    refine pE rfl ?_
    first | refine pE rfl ?_ | refine pR rfl rfl rfl rfl rfl ?_ | refine pB rfl rfl rfl rfl rfl rfl ?_
    iterate 3 refine pE rfl ?_
    refine WO.nil (qs ?_)
    refine condK rfl (fun h37 => ?_) (fun h37 => ?_)
    ·
     exfalso; simp at h37; simp [h37] at h4
    ·
     refine W.seq (W.region ?_)
     refine pE rfl ?_
     first | refine pE rfl ?_ | refine pR rfl rfl rfl rfl rfl ?_ | refine pB rfl rfl rfl rfl rfl rfl ?_
     iterate 3 refine pE rfl ?_
     refine WO.nil (qs ?_)
     refine condK rfl (fun h42 => ?_) (fun h42 => ?_)
     ·
      exfalso; simp at h42; omega
     ·
      refine W.skip (qbN (qs (W.seq (W.region ?_))))
      refine pE rfl ?_
      first | refine pE rfl ?_ | refine pR rfl rfl rfl rfl rfl ?_ | refine pB rfl rfl rfl rfl rfl rfl ?_
      refine pu (puCall rfl rfl rfl (checkAll_fn ..) rfl) rfl ?_
      refine pE rfl ?_
      refine WO.nil (qs (W.ret ?_))
      refine QF.ret0 trivial rfl ?_
      rfl
end Go.Proofs.YtoojafbicmdclaaDoor
namespace Go.Proofs.YtoojafbicmdclaaDoor
open Go.Ab Go.Tb
set_option maxRecDepth 10000
attribute [local irreducible] W WO Pu QS QB QL QF QV QV1 CH QE
theorem time_ok {p : Pkt} {e : Ev} {r : List Ev} (hp : p.evs = e :: r) (h : allE p.evs none = 0) : 0 ≤ e.time := by
 rw [hp] at h
 simp only [allE] at h
 by_cases hc : checkE e = 0
 ·
  unfold checkE at hc
  split at hc
  · cases hc
  · omega
 ·
  rw [if_pos hc] at h
  exact absurd h hc
theorem follows_fn (th : Int) (e : Ev) (r : List Ev) (h0 : 0 ≤ e.time) : DoesB Tryd.prog 47 [.ptr 0 0, .ag (Pkt.c ⟨th, 0, 0, e :: r⟩)] [z2.map A.d] 0 (.d (.v (.bool true))) [z2.map A.d] 0 := by
 refine DoesB.of_V tab (n := 27) (rs := [.tmp 4]) Tryd.func47 (by kernel_rfl) rfl Tryd.ntmps47 Tryd.results47 rfl rfl fun C hC hG => ?_
 refine W.seq (W.region ?_)
 refine boxR rfl rfl rfl ?_
 refine pE rfl ?_
 refine WO.nil (qs (W.seq ?_))
 apply regionDB tab; (case hb => rfl); (case hB => kernel_rfl)
 ·
  refine chPu (ev tab rfl) rfl ?_
  first | refine chPu (ev tab rfl) rfl ?_ | refine chPu (loadRow tab rfl rfl rfl rfl) rfl ?_ | refine chPu (loadBox tab rfl rfl rfl rfl rfl) rfl ?_
  refine chPu (ev tab rfl) rfl ?_
  first | refine chPu (ev tab rfl) rfl ?_ | refine chPu (loadRow tab rfl rfl rfl rfl) rfl ?_ | refine chPu (loadBox tab rfl rfl rfl rfl rfl) rfl ?_
  iterate 4 refine chPu (ev tab rfl) rfl ?_
  first | refine chPu (ev tab rfl) rfl ?_ | refine chPu (loadRow tab rfl rfl rfl rfl) rfl ?_ | refine chPu (loadBox tab rfl rfl rfl rfl rfl) rfl ?_
  iterate 2 refine chPu (ev tab rfl) rfl ?_
  apply chSplitJ; (case hj => rfl); (case hl => rfl)
  ·
   refine chGo rfl rfl (ev tab rfl) rfl ?_
   first | refine chGo rfl rfl (ev tab rfl) rfl ?_ | refine chGo rfl rfl (loadRow tab rfl rfl rfl rfl) rfl ?_ | refine chGo rfl rfl (loadBox tab rfl rfl rfl rfl rfl) rfl ?_
   refine chGo rfl rfl (indexAddr (l := e.c) tab rfl rfl rfl rfl rfl rfl (by decide) rfl rfl) rfl ?_
   refine chGo rfl rfl (ev tab rfl) rfl ?_
   first | refine chGo rfl rfl (ev tab rfl) rfl ?_ | refine chGo rfl rfl (loadRow tab rfl rfl rfl rfl) rfl ?_ | refine chGo rfl rfl (loadBox tab rfl rfl rfl rfl rfl) rfl ?_
   refine chGo rfl rfl (ev tab rfl) rfl ?_
   refine chGo rfl rfl (ev tab rfl) rfl ?_
   refine chGo rfl rfl (ev tab rfl) rfl ?_
   first | refine chGo rfl rfl (ev tab rfl) rfl ?_ | refine chGo rfl rfl (loadRow tab rfl rfl rfl rfl) rfl ?_ | refine chGo rfl rfl (loadBox tab rfl rfl rfl rfl rfl) rfl ?_
   refine chGo rfl rfl (ev tab rfl) rfl ?_
   iterate 2 refine chPu (ev tab rfl) rfl ?_
   refine CH.nil ?_
   refine qv1 rfl rfl rfl
  ·
   iterate 10 refine chSkip rfl rfl rfl rfl ?_
   iterate 2 refine chPu (ev tab rfl) rfl ?_
   refine CH.nil ?_
   refine qv1 rfl rfl rfl
 refine qs (W.ret ?_)
 refine QB1.end tab [] trivial rfl rfl rfl rfl ?_ ?_
 · exact ⟨rfl, trivial⟩
 simp only [norm, oneA]; simp [h0]; rfl
theorem advance_fn (th : Int) (e : Ev) (r : List Ev) (z : Ev) (hz : (e :: r)[r.length]? = some z) (hl : r.length ≤ 1000) : DoesB Tryd.prog 48 [.ptr 0 0, .ag (Pkt.c ⟨th, 0, 0, e :: r⟩)] [z2.map A.d] 0 (.tup []) [[.d (ci ((r.length : Int) + 1)), .d (ci z.time)]] 0 := by
 refine DoesB.of_V tab (n := 25) (rs := []) Tryd.func48 (by kernel_rfl) rfl Tryd.ntmps48 Tryd.results48 rfl rfl fun C hC hG => ?_
 refine W.seq (W.region ?_)
 refine boxR rfl rfl rfl ?_
 refine WO.nil (qs (W.seq (W.region ?_)))
 iterate 2 refine pE rfl ?_
 first | refine pE rfl ?_ | refine pR rfl rfl rfl rfl rfl ?_ | refine pB rfl rfl rfl rfl rfl rfl ?_
 refine pE rfl ?_
 first | refine pE rfl ?_ | refine pR rfl rfl rfl rfl rfl ?_ | refine pB rfl rfl rfl rfl rfl rfl ?_
 refine pE rfl ?_
 refine pu (puI (ev tab rfl) (y := (r.length : Int) + 1) (by show IntKind.i64.wrap ((0 : Int) + (((e :: r).map Ev.c).length : Nat)) = _; rw [List.length_map, List.length_cons, wrap64 (by omega)]; omega)) rfl ?_
 iterate 2 refine pE rfl ?_
 refine storeR tab rfl rfl rfl rfl rfl rfl rfl rfl ?_
 refine WO.nil (qs (W.region ?_))
 iterate 2 refine pE rfl ?_
 first | refine pE rfl ?_ | refine pR rfl rfl rfl rfl rfl ?_ | refine pB rfl rfl rfl rfl rfl rfl ?_
 refine pE rfl ?_
 first | refine pE rfl ?_ | refine pR rfl rfl rfl rfl rfl ?_ | refine pB rfl rfl rfl rfl rfl rfl ?_
 refine pE rfl ?_
 refine pu (puI (ev tab rfl) (y := (r.length : Int)) (by show IntKind.i64.wrap ((((e :: r).map Ev.c).length : Nat) - (1 : Int)) = _; rw [List.length_map, List.length_cons, wrap64 (by omega)]; omega)) rfl ?_
 refine pu (indexAddr (l := z.c) tab rfl rfl rfl rfl rfl rfl (Int.natCast_nonneg _) (idx_map hz) rfl) rfl ?_
 refine pE rfl ?_
 first | refine pE rfl ?_ | refine pR rfl rfl rfl rfl rfl ?_ | refine pB rfl rfl rfl rfl rfl rfl ?_
 iterate 2 refine pE rfl ?_
 refine storeR tab rfl rfl rfl rfl rfl rfl rfl rfl ?_
 refine WO.nil ?_
 refine QB1.end tab [] trivial rfl rfl rfl rfl ?_ ?_
 · exact ⟨rfl, trivial⟩
 rfl
theorem sum_take (l : List Pkt) (k : Nat) : ((l.take k).map fun p => p.evs.length).sum ≤ (l.map fun p => p.evs.length).sum := by
 have h := congrArg (fun x => (x.map fun p : Pkt => p.evs.length).sum) (List.take_append_drop k l)
 simp only [List.map_append, List.sum_append] at h
 omega
theorem check_fn (ts : List Thr) (ps : List Pkt) (ok : OkT ts) (okp : OkP ts ps) : Does Tryd.prog 33 [.ag (hdC ts), .d (.sl (ps.map Pkt.c))] (.d (.v (.int .i64 (checksE ps)))) 0 := by
 obtain ⟨ids, hids⟩ : ∃ ids, ids = ts.map Thr.id := ⟨_, rfl⟩
 have hnd : ids.Nodup := hids ▸ ok.2
 have hpi : ps.map Pkt.thread = ids := hids ▸ okp.1
 refine Does.of_W (n := 63) (ts := [4]) Tryd.func33 (by kernel_rfl) rfl Tryd.ntmps33 Tryd.results33 rfl rfl fun C hC hG => ?_
 refine W.seq (W.region ?_)
 refine boxR rfl rfl rfl ?_
 refine pE rfl ?_
 refine WO.nil (qs (W.seq (W.region ?_)))
 refine mkMapQ rfl ?_
 refine pE rfl ?_
 refine WO.nil (qs ?_)
 iterate 2 refine W.seq ?_
 refine W.region ?_
 refine pE rfl ?_
 first | refine pE rfl ?_ | refine pR rfl rfl rfl rfl rfl ?_ | refine pB rfl rfl rfl rfl rfl rfl ?_
 iterate 2 refine pE rfl ?_
 refine WO.nil (qs (W.block ?_))
 refine W.len (t := 16) rfl rfl (fun hlen => ?_)
 try simp only [List.length_map, Ex.kc_len] at hlen
 refine W.loopR (ι := {x : Nat // match x with | k => k ≤ ts.length})
  (fun x => match x.1 with | k => [(1, .d (.sl (ps.map Pkt.c))), (5, .mq 1 (qes ik (tq0 ids k))), (18, .d (.v (.int .i64 ((k : Nat) : Int))))]) [(16, _), (17, _)]
  (fun x => match x.1 with | k => [(0, (hdC ts).map A.d)]) [] [1] 2 (fun x => match x.1 with | k => ts.length - k)
  [0, 1] ⟨0, ?_⟩ rfl ?_ ⟨rfl, rfl, rfl, rfl, trivial⟩ ?_ trivial rfl ?_
 · exact Nat.zero_le _
 · repeat' first | exact trivial | refine ⟨rfl, ?_⟩ | refine ⟨congrArg some (renL_boxE _ _ _), ?_⟩ | refine ⟨step_nat (by assumption) (by assumption), ?_⟩
 · repeat' first | exact trivial | refine ⟨rfl, ?_⟩ | refine ⟨congrArg some (renL_boxE _ _ _), ?_⟩ | refine ⟨step_nat (by assumption) (by assumption), ?_⟩
 rintro ⟨k, hk⟩
 show W _ _ _ _ _ ⟨[(1, .d (.sl (ps.map Pkt.c))), (5, .mq 1 (qes ik (tq0 ids k))), (18, .d (.v (.int .i64 ((k : Nat) : Int)))), (16, _), (17, _)], [(0, (hdC ts).map A.d)], [1], 2⟩
 refine W.seq (W.region ?_)
 refine pE rfl ?_
 refine WO.nil (qs (W.seq ?_))
 refine eachR (l := ts) (k := k) rfl (by simp [Ex.kc_len, bytes_len]) hk (fun t hx hd hlt => ?_) (fun he hd => ?_)
 ·
  have hti : ids[k]? = some t.id := by rw [hids]; simp [hx]
  refine W.skip (qs (W.seq (W.block (W.seq (W.region ?_)))))
  refine pu (indexAddr tab rfl rfl rfl rfl rfl rfl (Int.natCast_nonneg _) (idx_map hx) rfl) rfl ?_
  first | refine pE rfl ?_ | refine pR rfl rfl rfl rfl rfl ?_ | refine pB rfl rfl rfl rfl rfl rfl ?_
  refine allocR tab rfl rfl rfl ?_
  refine storeR tab rfl rfl rfl rfl rfl rfl rfl rfl ?_
  refine WO.nil (qs (W.region ?_))
  iterate 2 refine pE rfl ?_
  first | refine pE rfl ?_ | refine pR rfl rfl rfl rfl rfl ?_ | refine pB rfl rfl rfl rfl rfl rfl ?_
  refine pu (build tab rfl rfl rfl rfl) rfl ?_
  refine boxR rfl rfl rfl ?_
  first | refine mapPutQ (kf := ik) (l := tq0 ids k) (a := t.id) (y := z2) tab 5 rfl rfl rfl rfl rfl rfl rfl rfl (keyInt (tab.u_int rfl rfl)) rfl rfl (by rw [tq0_keys]; exact hnd.sublist (List.take_sublist _ _)) (by rw [tq0_keys]; exact nodup_at' hnd hti) rfl rfl (by rw [tq0_step hti]) rfl ?_
  refine WO.nil (qbN (qs (W.region ?_)))
  iterate 2 refine pE rfl ?_
  refine WO.nil ?_
  refine W.endR [0, 5] ⟨k + 1, ?_⟩ ?_ rfl ?_ ⟨rfl, rfl, rfl, rfl, trivial⟩ ?_ trivial rfl
  · exact hlt
  · dsimp only; omega
  · repeat' first | exact trivial | refine ⟨rfl, ?_⟩ | refine ⟨congrArg some (renL_boxE _ _ _), ?_⟩ | refine ⟨step_nat (by assumption) (by assumption), ?_⟩
  · repeat' first | exact trivial | refine ⟨rfl, ?_⟩ | refine ⟨congrArg some (renL_boxE _ _ _), ?_⟩ | refine ⟨step_nat (by assumption) (by assumption), ?_⟩
 ·
  have hq : tq0 ids k = tq ids 0 := tq0_all (by rw [hids, List.length_map]; exact he)
  rw [hq]
  refine W.exit (qsExit (qlExit (qbExit (qs (W.seq (W.region ?_))))))
  refine pE rfl ?_
  refine WO.nil (qs ?_)
  iterate 2 refine W.seq ?_
  refine W.region ?_
  iterate 3 refine pE rfl ?_
  refine WO.nil (qs (W.block ?_))
  refine W.len (t := 28) rfl rfl (fun hlen => ?_)
  try simp only [List.length_map, Ex.kc_len] at hlen
  refine W.loopR (ι := {x : Nat × Nat // match x with | (k, c) => k ≤ ps.length ∧ checksE (ps.drop k) = checksE ps ∧ c = ((ps.take k).map fun p => p.evs.length).sum})
   (fun x => match x.1 with | (k, c) => [(5, .mq 1 (qes ik (tq ids k))), (8, .d (.v (.int .i64 ((c : Nat) : Int)))), (30, .d (.v (.int .i64 ((k : Nat) : Int))))]) [(28, _), (29, _)]
   (fun x => match x.1 with | (k, c) => [(0, (hdC ts).map A.d)]) [] [1] 2 (fun x => match x.1 with | (k, c) => ps.length - k)
   [0, 1] ⟨(0, 0), ?_⟩ rfl ?_ ⟨rfl, rfl, rfl, rfl, trivial⟩ ?_ trivial rfl ?_
  · exact ⟨Nat.zero_le _, rfl, rfl⟩
  · repeat' first | exact trivial | refine ⟨rfl, ?_⟩ | refine ⟨congrArg some (renL_boxE _ _ _), ?_⟩ | refine ⟨step_nat (by assumption) (by assumption), ?_⟩
  · repeat' first | exact trivial | refine ⟨rfl, ?_⟩ | refine ⟨congrArg some (renL_boxE _ _ _), ?_⟩ | refine ⟨step_nat (by assumption) (by assumption), ?_⟩
  rintro ⟨⟨k, c⟩, hk, hI, hc⟩
  show W _ _ _ _ _ ⟨[(5, .mq 1 (qes ik (tq ids k))), (8, .d (.v (.int .i64 ((c : Nat) : Int)))), (30, .d (.v (.int .i64 ((k : Nat) : Int)))), (28, _), (29, _)], [(0, (hdC ts).map A.d)], [1], 2⟩
  refine W.seq (W.region ?_)
  refine pE rfl ?_
  refine WO.nil (qs (W.seq ?_))
  refine eachR (l := ps) (k := k) rfl (by simp [Ex.kc_len, bytes_len]) hk (fun p hx hd hlt => ?_) (fun he hd => ?_)
  ·
   obtain ⟨hs0, hl0, he0, he1⟩ := okp.2.1 p (List.mem_of_getElem? hx)
   have hpt : ids[k]? = some p.thread := by rw [← hpi]; simp [hx]
   have hth : 0 ≤ p.thread ∧ p.thread ≤ 1000000000000000 := by
    have := List.mem_of_getElem? hpt
    rw [hids] at this
    obtain ⟨t, ht, e⟩ := List.mem_map.1 this
    have := ok.1 t ht
    omega
   obtain ⟨th, se, lo, evs⟩ := p
   simp only at hs0 hl0 he0 he1 hth hpt
   subst hs0
   subst hl0
   obtain ⟨e, r, her⟩ : ∃ e r, evs = e :: r := by
    cases evs with
    | nil => simp at he0
    | cons e r => exact ⟨e, r, rfl⟩
   subst her
   have hcl : c ≤ 20000 := hc ▸ Nat.le_trans (sum_take ps k) okp.2.2
   have hrl : r.length ≤ 1000 := by simp at he1; omega
   obtain ⟨z, hz⟩ : ∃ z, (e :: r)[r.length]? = some z := ⟨(e :: r)[r.length], by simp⟩
   refine W.skip (qs (W.seq (W.block (W.seq (W.region ?_)))))
   refine pu (indexAddr tab rfl rfl rfl rfl rfl rfl (Int.natCast_nonneg _) (idx_map hx) rfl) rfl ?_
   first | refine pE rfl ?_ | refine pR rfl rfl rfl rfl rfl ?_ | refine pB rfl rfl rfl rfl rfl rfl ?_
   refine allocR tab rfl rfl rfl ?_
   refine storeR tab rfl rfl rfl rfl rfl rfl rfl rfl ?_
   refine WO.nil (qs ?_)
   iterate 2 refine W.seq ?_
   refine W.region ?_
   first | refine pE rfl ?_ | refine pR rfl rfl rfl rfl rfl ?_ | refine pB rfl rfl rfl rfl rfl rfl ?_
   refine pu (puCall rfl rfl rfl (packet_fn ⟨th, 0, 0, e :: r⟩ hth rfl rfl ⟨he0, he1⟩) rfl) rfl ?_
   refine pE rfl ?_
   refine WO.nil (qs (W.seq (W.region ?_)))
   iterate 2 refine pE rfl ?_
   refine WO.nil (qs ?_)
   refine condK rfl (fun h37 => ?_) (fun h37 => ?_)
   ·
    have hg : checksE ps = allE (e :: r) none := by
     rw [← hI, hd, checksE]
     exact if_pos (by simpa using h37)
    refine W.seq (W.region ?_)
    iterate 2 refine pE rfl ?_
    refine WO.nil (qs (W.ret (qsRet (qbRet (qsRet (qlRet (qbRet (qsRet ?_))))))))
    refine QF.ret0 trivial rfl ?_
    rw [hg]; rfl
   ·
    have ha0 : allE (e :: r) none = 0 := by simpa using h37
    have ht0 : 0 ≤ e.time := time_ok (p := ⟨th, 0, 0, e :: r⟩) rfl ha0
    refine W.skip (qs (W.seq (W.region ?_)))
    iterate 2 refine pE rfl ?_
    first | refine pE rfl ?_ | refine pR rfl rfl rfl rfl rfl ?_ | refine pB rfl rfl rfl rfl rfl rfl ?_
    refine mapTakeQ (kf := ik) (l := tq ids k) (a := th) (y := z2) tab 5 k rfl rfl rfl rfl rfl rfl rfl rfl (keyInt (tab.u_int rfl rfl)) rfl rfl rfl rfl rfl (by rw [tq_keys]; exact hnd) (tq_get hpt) (by rw [tq_set hpt]) rfl ?_
    iterate 5 refine pE rfl ?_
    refine WO.nil (qs ?_)
    iterate 2 refine W.seq ?_
    refine W.region ?_
    iterate 2 refine pE rfl ?_
    refine WO.nil (qs ?_)
    refine condK rfl (fun h47 => ?_) (fun h47 => ?_)
    ·
     exfalso; simp at h47
    ·
     refine W.skip (qs ?_)
     iterate 2 refine W.seq ?_
     refine W.region ?_
     refine pE rfl ?_
     first | refine pE rfl ?_ | refine pR rfl rfl rfl rfl rfl ?_ | refine pB rfl rfl rfl rfl rfl rfl ?_
     refine callB [5] [] rfl rfl rfl rfl rfl ((follows_fn th e r ht0)) rfl rfl (by rfl) (by rfl) rfl rfl rfl rfl ?_
     refine pE rfl ?_
     refine WO.nil (qs ?_)
     refine condK rfl (fun h51 => ?_) (fun h51 => ?_)
     ·
      exfalso; simp at h51
     ·
      refine W.skip (qs (W.seq (W.region ?_)))
      refine pE rfl ?_
      first | refine pE rfl ?_ | refine pR rfl rfl rfl rfl rfl ?_ | refine pB rfl rfl rfl rfl rfl rfl ?_
      refine callB [5] [] rfl rfl rfl rfl rfl ((advance_fn th e r z hz hrl)) rfl rfl (by rfl) (by rfl) rfl rfl rfl rfl ?_
      refine WO.nil (qs (W.region ?_))
      iterate 2 refine pE rfl ?_
      first | refine pE rfl ?_ | refine pR rfl rfl rfl rfl rfl ?_ | refine pB rfl rfl rfl rfl rfl rfl ?_
      refine pE rfl ?_
      refine pu (puI (ev tab rfl) (y := ((c + (r.length + 1) : Nat) : Int)) (by show IntKind.i64.wrap ((c : Int) + (((e :: r).map Ev.c).length : Nat)) = _; rw [List.length_map, List.length_cons, wrap64 (by omega)]; omega)) rfl ?_
      refine pE rfl ?_
      refine WO.nil (qbN (qs (W.region ?_)))
      iterate 2 refine pE rfl ?_
      refine WO.nil ?_
      refine W.endR [0, 3] ⟨(k + 1, c + (r.length + 1)), ?_⟩ ?_ rfl ?_ ⟨rfl, rfl, rfl, rfl, trivial⟩ ?_ trivial rfl
      · exact ⟨hlt, by rw [← hI, hd, checksE, if_neg (by simpa using ha0)], by rw [hc, List.take_add_one, hx]; simp⟩
      · dsimp only; omega
      · repeat' first | exact trivial | refine ⟨rfl, ?_⟩ | refine ⟨congrArg some (renL_boxE _ _ _), ?_⟩ | refine ⟨step_nat (by assumption) (by assumption), ?_⟩
      · repeat' first | exact trivial | refine ⟨rfl, ?_⟩ | refine ⟨congrArg some (renL_boxE _ _ _), ?_⟩ | refine ⟨step_nat (by assumption) (by assumption), ?_⟩
  ·
   have hg : checksE ps = 0 := by rw [← hI, hd]; rfl
   have hcl : c ≤ 20000 := hc ▸ Nat.le_trans (sum_take ps k) okp.2.2
   refine W.exit (qsExit (qlExit (qbExit (qs ?_))))
   iterate 2 refine W.seq ?_
   refine W.region ?_
   iterate 2 refine pE rfl ?_
   refine WO.nil (qs ?_)
   refine condK rfl (fun h62 => ?_) (fun h62 => ?_)
   ·
    exfalso; simp at h62; omega
   ·
    refine W.skip (qs (W.seq (W.region ?_)))
    refine pE rfl ?_
    refine WO.nil (qs (W.ret ?_))
    refine QF.ret0 trivial rfl ?_
    rw [hg]; rfl
end Go.Proofs.YtoojafbicmdclaaDoor
namespace Go.Proofs.YtoojafbicmdclaaDoor
open Go.Ab Go.Tb
set_option maxRecDepth 10000
attribute [local irreducible] W WO Pu QS QB QL QF QV QV1 CH QE
abbrev pkN (th : Int) : List D := [ci th, ci 0, ci 0, .v (.slice none 0 0)]
theorem fill_fn (th : Int) (evs : List Ev) (h0 : 0 < evs.length) (h1 : evs.length ≤ 1000) : DoesB Tryd.prog 34 [.xs 0 [pkN th], .d (.sl (evs.map Ev.c))] [] 1 (.own 0 [Pkt.c ⟨th, 0, 0, evs⟩]) [] 1 := by
 refine DoesB.of_V tab (n := 54) (rs := [.tmp 4]) Tryd.func34 (by kernel_rfl) rfl Tryd.ntmps34 Tryd.results34 rfl rfl fun C hC hG => ?_
 refine W.seq (W.region ?_)
 refine pE rfl ?_
 refine WO.nil (qs (W.seq (W.block ?_)))
 refine W.loopR (ι := {x : Nat // match x with | j => j ≤ 1})
  (fun x => match x.1 with | j => [(0, .xs 0 [[ci th, ci 0, ci 0, clJ evs j]]), (1, .d (.sl ((evJ evs j).map Ev.c)))]) []
  (fun x => match x.1 with | j => []) [] [0] 1 (fun x => match x.1 with | j => 1 - j)
  [0] ⟨0, ?_⟩ rfl ?_ trivial ?_ trivial rfl ?_
 · exact Nat.zero_le _
 · repeat' first | exact trivial | refine ⟨rfl, ?_⟩ | refine ⟨congrArg some (renL_boxE _ _ _), ?_⟩ | refine ⟨step_nat (by assumption) (by assumption), ?_⟩
 · repeat' first | exact trivial | refine ⟨rfl, ?_⟩ | refine ⟨congrArg some (renL_boxE _ _ _), ?_⟩ | refine ⟨step_nat (by assumption) (by assumption), ?_⟩
 rintro ⟨j, hj⟩
 show W _ _ _ _ _ ⟨[(0, .xs 0 [[ci th, ci 0, ci 0, clJ evs j]]), (1, .d (.sl ((evJ evs j).map Ev.c)))], [], [0], 1⟩
 iterate 2 refine W.seq ?_
 refine W.region ?_
 iterate 3 refine pE rfl ?_
 refine WO.nil (qs ?_)
 refine condK rfl (fun h9 => ?_) (fun h9 => ?_)
 ·
  have hj0 : j = 0 := by
   match j, hj with
   | 0, _ => rfl
   | 1, _ => exfalso; simp [evJ] at h9
  subst hj0
  refine W.skip (qs (W.block (W.seq (W.region ?_))))
  iterate 2 refine pE rfl ?_
  refine pu (lenX tab rfl rfl rfl rfl) rfl ?_
  refine pu (puI (ev tab rfl) (y := 0) (by rfl)) rfl ?_
  refine pu (indexX (l := pkN th) tab rfl rfl rfl rfl rfl rfl (by decide) rfl rfl) rfl ?_
  refine pE rfl ?_
  refine WO.nil (qs (W.seq (W.region ?_)))
  refine pE rfl ?_
  refine pu (nilX rfl rfl) rfl ?_
  refine pu (fieldX tab rfl rfl rfl rfl rfl rfl) rfl ?_
  refine pu (loadX tab rfl rfl rfl) rfl ?_
  refine pE rfl ?_
  refine pu (puI (ev tab rfl) (y := 1000) (by rfl)) rfl ?_
  iterate 2 refine pE rfl ?_
  refine pu (puI (ev tab rfl) (y := (evs.length : Int)) (by show (if (((evs.map Ev.c).length : Nat) : Int) < 1000 then (((evs.map Ev.c).length : Nat) : Int) else 1000) = _; rw [List.length_map]; split <;> omega)) rfl ?_
  refine pE rfl ?_
  refine WO.nil (qs ?_)
  iterate 2 refine W.seq ?_
  refine W.region ?_
  iterate 2 refine pE rfl ?_
  refine WO.nil (qs ?_)
  refine condK rfl (fun h25 => ?_) (fun h25 => ?_)
  ·
   exfalso; have := of_decide_eq_true h25; omega
  ·
   refine W.skip (qs (W.seq ?_))
   apply W.regionC tab 9 8; (case hB => kernel_rfl); (case h1 => rfl); (case h2 => rfl)
   refine' ccPu ?p1_1 (ev tab rfl) rfl rfl rfl rfl rfl ?h_1
   case' h_1 => skip
   refine' ccPu ?p1_2 (ev tab rfl) rfl rfl rfl rfl rfl ?h_2
   case' h_2 => skip
   refine' ccPu ?p1_3 (nilX rfl rfl) rfl rfl rfl rfl rfl ?h_3
   case' h_3 => skip
   refine' ccPu ?p1_4 (fieldX tab rfl rfl rfl rfl rfl rfl) rfl rfl rfl rfl rfl ?h_4
   case' h_4 => skip
   refine' ccPu0 (loadX tab rfl rfl rfl) rfl rfl rfl rfl rfl ?h_5
   case' h_5 => skip
   refine' ccPu ?p1_6 (ev tab rfl) rfl rfl rfl rfl rfl ?h_6
   case' h_6 => skip
   refine' ccPu ?p1_7 (ev tab rfl) rfl rfl rfl rfl rfl ?h_7
   case' h_7 => skip
   refine' ccPu0 (sliceV (fn := Ev.c) (l := evs) (i := 0) (j := (evs.length : Int)) (r := evs) tab rfl rfl rfl rfl rfl (fun _ => rfl) rfl rfl (by decide) (by omega) (by omega) (by rw [show ((evs.length : Int)).toNat = evs.length from rfl, List.take_length]; rfl)) rfl rfl rfl rfl rfl ?h_8
   case' h_8 => skip
   refine' ccX (fun g => ?e_9) rfl rfl rfl ?h_9
   case e_9 =>
    refine appendNilR (es2 := evs.map Ev.c) tab rfl rfl rfl rfl rfl rfl rfl rfl rfl (fun x hx => by obtain ⟨y, _, rfl⟩ := List.mem_map.1 hx; rfl) (by rw [List.length_map]; show evs.length * 72 ≤ 140737488355328; omega) ?_
    refine WO.nil ?_
    exact ⟨rfl, rfl⟩
   case' h_9 => skip
   case p1_1 => exact (ev tab rfl)
   case p1_2 => exact (ev tab rfl)
   case p1_3 => exact (nilX rfl rfl)
   case p1_4 => exact (fieldX tab rfl rfl rfl rfl rfl rfl)
   case p1_6 => exact (ev tab rfl)
   case p1_7 => exact (ev tab rfl)
   refine CC.nil ?_
   refine pu (nilX rfl rfl) rfl ?_
   refine pu (fieldX tab rfl rfl rfl rfl rfl rfl) rfl ?_
   refine storeX tab 0 rfl rfl rfl rfl rfl rfl rfl rfl rfl rfl rfl rfl rfl ?_
   refine WO.nil (qs (W.region ?_))
   iterate 2 refine pE rfl ?_
   refine pu (sliceV (fn := Ev.c) (l := evs) (i := (evs.length : Int)) (j := (evs.length : Int)) (r := []) tab rfl rfl rfl rfl rfl (fun _ => rfl) rfl rfl (by omega) (by omega) (by omega) (by show (evs.take evs.length).drop evs.length = []; rw [List.take_length, List.drop_length])) rfl ?_
   refine pE rfl ?_
   refine WO.nil (qbN ?_)
   refine W.endR [2] ⟨1, ?_⟩ ?_ rfl ?_ trivial ?_ trivial rfl
   · decide
   · dsimp only; omega
   · repeat' first | exact trivial | refine ⟨rfl, ?_⟩ | refine ⟨congrArg some (renL_boxE _ _ _), ?_⟩ | refine ⟨step_nat (by assumption) (by assumption), ?_⟩
   · repeat' first | exact trivial | refine ⟨rfl, ?_⟩ | refine ⟨congrArg some (renL_boxE _ _ _), ?_⟩ | refine ⟨step_nat (by assumption) (by assumption), ?_⟩
 ·
  have hj1 : j = 1 := by
   match j, hj with
   | 0, _ => exfalso; have h9 := of_decide_eq_false h9; rw [List.length_map] at h9; simp only [evJ] at h9; omega
   | 1, _ => rfl
  subst hj1
  refine W.exit (qsExit (qlExit (qbExit (qs (W.seq (W.region ?_))))))
  iterate 2 refine pE rfl ?_
  refine WO.nil (qs ?_)
  refine freezeX 4 rfl rfl rfl rfl ?_
  refine W.ret ?_
  refine QB1.end tab [1] trivial rfl rfl rfl rfl ?_ ?_
  · trivial
  rfl
end Go.Proofs.YtoojafbicmdclaaDoor
namespace Go.Proofs.YtoojafbicmdclaaDoor
open Go.Ab Go.Tb
set_option maxRecDepth 10000
attribute [local irreducible] W WO Pu QS QB QL QF QV QV1 CH QE
abbrev idD : D → D := fun d => d
def parM (l : List Pkt) : List (Int × D) := l.map fun p => (p.thread, .sl [p.c])
theorem parM_keys (l : List Pkt) : (parM l).map (·.1) = l.map Pkt.thread := by unfold parM; rw [List.map_map]; rfl
theorem parM_step {l : List Pkt} {k : Nat} {p : Pkt} (hn : (l.map Pkt.thread).Nodup) (h : l[k]? = some p) : mput (parM (l.take k)) p.thread (.sl [p.c]) = parM (l.take (k + 1)) := by
 rw [mput_new]
 ·
  unfold parM
  rw [List.take_add_one, h, List.map_append]; rfl
 ·
  intro q hq e
  have := nodup_at hn h
  rw [← parM_keys] at this
  exact this (List.mem_map.2 ⟨q, hq, e⟩)
theorem parM_none {l : List Pkt} {k : Nat} {p : Pkt} (hn : (l.map Pkt.thread).Nodup) (h : l[k]? = some p) : (mget (parM (l.take k)) p.thread).getD (.v (.slice none 0 0)) = .v (.slice none 0 0) := by
 rw [mget_new]; rfl
 intro q hq e
 have := nodup_at hn h
 rw [← parM_keys] at this
 exact this (List.mem_map.2 ⟨q, hq, e⟩)
theorem parM_some {l : List Pkt} {k : Nat} {p : Pkt} (hn : (l.map Pkt.thread).Nodup) (h : l[k]? = some p) : (mget (parM l) p.thread).getD (.v (.slice none 0 0)) = .sl ([p].map Pkt.c) := by
 rw [mget_pos (i := k) (by rw [parM_keys]; exact hn) (v := .sl [p.c]) (by unfold parM; rw [List.getElem?_map, h]; rfl)]; rfl
theorem of_fn (ts : List Thr) (ps : List Pkt) (ok : OkT ts) (okp : OkP ts ps) : Does Tryd.prog 23 [.ag (hdC ts), .d (.sl (ps.map Pkt.c))] (.tup [.ag (ofF ts ps).1.c, .d (ci (ofF ts ps).2)]) 0 := by
 have hn : (ps.map Pkt.thread).Nodup := okp.1 ▸ ok.2
 refine Does.of_V tab (n := 84) (rs := [.cell 4 36, .tmp 5]) Tryd.func23 (by kernel_rfl) rfl Tryd.ntmps23 Tryd.results23 rfl fun C hC hG => ?_
 refine W.seq (W.region ?_)
 refine boxR rfl rfl rfl ?_
 refine allocR tab rfl rfl rfl ?_
 refine pE rfl ?_
 refine WO.nil (qs ?_)
 iterate 2 refine W.seq ?_
 refine W.region ?_
 first | refine pE rfl ?_ | refine pR rfl rfl rfl rfl rfl ?_ | refine pB rfl rfl rfl rfl rfl rfl ?_
 refine pu (puCall rfl rfl rfl ((head_fn _ (by assumption))) rfl) rfl ?_
 refine pE rfl ?_
 refine WO.nil (qs (W.seq (W.region ?_)))
 iterate 2 refine pE rfl ?_
 refine WO.nil (qs ?_)
 refine condK rfl (fun h18 => ?_) (fun h18 => ?_)
 ·
  have hg : ofF ts ps = (log0, headE ts) := by unfold ofF; rw [if_pos (by simpa using h18)]
  refine W.seq (W.region ?_)
  refine pu (build tab rfl rfl rfl rfl) rfl ?_
  refine nilO 19 rfl rfl rfl ?_
  refine pE rfl ?_
  refine storeR tab rfl rfl rfl rfl rfl rfl rfl rfl ?_
  refine pE rfl ?_
  refine WO.nil (qs (W.ret (qsRet ?_)))
  refine QV.ret0 tab trivial rfl ?_
  rw [hg]; rfl
 ·
  have h0 : headE ts = 0 := by simpa using h18
  refine W.skip (qs ?_)
  iterate 2 refine W.seq ?_
  refine W.region ?_
  first | refine pE rfl ?_ | refine pR rfl rfl rfl rfl rfl ?_ | refine pB rfl rfl rfl rfl rfl rfl ?_
  refine pE rfl ?_
  refine pu (puCall rfl rfl rfl ((check_fn _ _ (by assumption) (by assumption))) rfl) rfl ?_
  refine pE rfl ?_
  refine WO.nil (qs (W.seq (W.region ?_)))
  iterate 2 refine pE rfl ?_
  refine WO.nil (qs ?_)
  refine condK rfl (fun h25 => ?_) (fun h25 => ?_)
  ·
   have hg : ofF ts ps = (log0, checksE ps) := by unfold ofF; rw [if_neg (by simp [h0]), if_pos (by simpa using h25)]
   refine W.seq (W.region ?_)
   refine pu (build tab rfl rfl rfl rfl) rfl ?_
   refine nilO 26 rfl rfl rfl ?_
   refine pE rfl ?_
   refine storeR tab rfl rfl rfl rfl rfl rfl rfl rfl ?_
   refine pE rfl ?_
   refine WO.nil (qs (W.ret (qsRet ?_)))
   refine QV.ret0 tab trivial rfl ?_
   rw [hg]; rfl
  ·
   have hg : ofF ts ps = (⟨ts, dom0, ps⟩, 0) := by unfold ofF; rw [if_neg (by simp [h0]), if_neg (by simpa using h25)]
   refine W.skip (qs (W.seq (W.region ?_)))
   refine mkMap rfl ?_
   refine pE rfl ?_
   refine WO.nil (qs ?_)
   iterate 2 refine W.seq ?_
   refine W.region ?_
   iterate 3 refine pE rfl ?_
   refine WO.nil (qs (W.block ?_))
   refine W.len (t := 29) rfl rfl (fun hlen => ?_)
   try simp only [List.length_map, Ex.kc_len] at hlen
   refine W.loopR (ι := {x : Nat // match x with | k => k ≤ ps.length})
    (fun x => match x.1 with | k => [(2, .ptr 0 0), (4, .ptr 1 0), (8, .mp 2 (mes ik idD (parM (ps.take k)))), (31, .d (.v (.int .i64 ((k : Nat) : Int))))]) [(29, _), (30, _)]
    (fun x => match x.1 with | k => [(0, (hdC ts).map A.d), (1, [.d (.v (.slice none 0 0)), .d (.v (.slice none 0 0)), .d (.v (.slice none 0 0)), .d (.v (.slice none 0 0))])]) [] [2] 3 (fun x => match x.1 with | k => ps.length - k)
    [0, 1, 2] ⟨0, ?_⟩ rfl ?_ ⟨rfl, rfl, rfl, rfl, trivial⟩ ?_ trivial rfl ?_
   · exact Nat.zero_le _
   · repeat' first | exact trivial | refine ⟨rfl, ?_⟩ | refine ⟨congrArg some (renL_boxE _ _ _), ?_⟩ | refine ⟨step_nat (by assumption) (by assumption), ?_⟩
   · repeat' first | exact trivial | refine ⟨rfl, ?_⟩ | refine ⟨congrArg some (renL_boxE _ _ _), ?_⟩ | refine ⟨step_nat (by assumption) (by assumption), ?_⟩
   rintro ⟨k, hk⟩
   show W _ _ _ _ _ ⟨[(2, .ptr 0 0), (4, .ptr 1 0), (8, .mp 2 (mes ik idD (parM (ps.take k)))), (31, .d (.v (.int .i64 ((k : Nat) : Int)))), (29, _), (30, _)], [(0, (hdC ts).map A.d), (1, [.d (.v (.slice none 0 0)), .d (.v (.slice none 0 0)), .d (.v (.slice none 0 0)), .d (.v (.slice none 0 0))])], [2], 3⟩
   refine W.seq (W.region ?_)
   refine pE rfl ?_
   refine WO.nil (qs (W.seq ?_))
   refine eachR (l := ps) (k := k) rfl (by simp [Ex.kc_len, bytes_len]) hk (fun p hx hd hlt => ?_) (fun he hd => ?_)
   ·
    obtain ⟨hs0, hl0, he0, he1⟩ := okp.2.1 p (List.mem_of_getElem? hx)
    have hget := parM_none hn hx
    have hput := parM_step hn hx
    obtain ⟨th, se, lo, evs⟩ := p
    simp only at hs0 hl0 he0 he1
    subst hs0
    subst hl0
    refine W.skip (qs (W.seq (W.block (W.seq (W.region ?_)))))
    refine pu (indexAddr tab rfl rfl rfl rfl rfl rfl (Int.natCast_nonneg _) (idx_map hx) rfl) rfl ?_
    first | refine pE rfl ?_ | refine pR rfl rfl rfl rfl rfl ?_ | refine pB rfl rfl rfl rfl rfl rfl ?_
    refine allocR tab rfl rfl rfl ?_
    refine storeR tab rfl rfl rfl rfl rfl rfl rfl rfl ?_
    refine WO.nil (qs (W.seq (W.region ?_)))
    iterate 2 refine pE rfl ?_
    first | refine pE rfl ?_ | refine pR rfl rfl rfl rfl rfl ?_ | refine pB rfl rfl rfl rfl rfl rfl ?_
    refine pu (mapGet (kf := ik) (vf := idD) (l := parM (ps.take k)) (a := th) (z := .v (.slice none 0 0)) (r := .v (.slice none 0 0)) tab rfl rfl rfl rfl rfl (keyInt (tab.u_int rfl rfl)) rfl rfl rfl (fun _ _ => .v _ rfl) (by rw [parM_keys]; exact nodup_take hn k) (by rw [hget])) rfl ?_
    refine pE rfl ?_
    refine WO.nil (qs ?_)
    iterate 2 refine W.seq ?_
    apply regionB; (case hb => rfl)
    ·
     refine pE rfl ?_
     first | refine pE rfl ?_ | refine pR rfl rfl rfl rfl rfl ?_ | refine pB rfl rfl rfl rfl rfl rfl ?_
     iterate 2 refine pE rfl ?_
     apply splitH; (case hj => rfl); (case hl => rfl)
     ·
      intro g42
      iterate 3 refine skipT rfl rfl rfl rfl ?_
      refine pE rfl ?_
      refine WO.nil ?_
      refine qv1 rfl rfl rfl
     ·
      intro g42
      refine goG rfl rfl ?_
      refine pE rfl ?_
      refine goG rfl rfl ?_
      refine pE rfl ?_
      refine goG rfl rfl ?_
      iterate 2 refine pE rfl ?_
      refine WO.nil ?_
      refine qv1 rfl rfl rfl
    refine qs ?_
    refine condK rfl (fun h46 => ?_) (fun h46 => ?_)
    ·
     refine W.xsNil (d := 11) rfl rfl ?_
     refine W.region ?_
     iterate 2 refine pE rfl ?_
     first | refine pE rfl ?_ | refine pR rfl rfl rfl rfl rfl ?_ | refine pB rfl rfl rfl rfl rfl rfl ?_
     refine pE rfl ?_
     first | refine pE rfl ?_ | refine pR rfl rfl rfl rfl rfl ?_ | refine pB rfl rfl rfl rfl rfl rfl ?_
     refine pE rfl ?_
     first | refine pE rfl ?_ | refine pR rfl rfl rfl rfl rfl ?_ | refine pB rfl rfl rfl rfl rfl rfl ?_
     refine pu (build tab rfl rfl rfl rfl) rfl ?_
     refine pu (buildV tab rfl rfl rfl rfl rfl rfl rfl rfl rfl) rfl ?_
     refine appendXR tab rfl rfl rfl rfl rfl rfl rfl rfl rfl rfl rfl (fun x hx => by obtain rfl := List.mem_singleton.1 hx; rfl) (by show 1 * 48 ≤ 140737488355328; decide) rfl ?_
     refine pE rfl ?_
     refine WO.nil (qs ?_)
     apply W.regionC tab 7 6; (case hB => kernel_rfl); (case h1 => rfl); (case h2 => rfl)
     refine' ccPu ?p1_1 (ev tab rfl) rfl rfl rfl rfl rfl ?h_1
     case' h_1 => skip
     refine' ccPu ?p1_2 (ev tab rfl) rfl rfl rfl rfl rfl ?h_2
     case' h_2 => skip
     first | (refine' ccPu ?p1_3 (ev tab rfl) rfl rfl rfl rfl rfl ?h_3) | (refine' ccPu ?p1_3 (loadRow tab rfl rfl rfl rfl) rfl rfl rfl rfl rfl ?h_3) | (refine' ccPu ?p1_3 (loadBox tab rfl rfl rfl rfl rfl) rfl rfl rfl rfl rfl ?h_3)
     case' h_3 => skip
     refine' ccPu0 (ev tab rfl) rfl rfl rfl rfl rfl ?h_4
     case' h_4 => skip
     refine' ccPu ?p1_5 (ev tab rfl) rfl rfl rfl rfl rfl ?h_5
     case' h_5 => skip
     first | (refine' ccPu0 (ev tab rfl) rfl rfl rfl rfl rfl ?h_6) | (refine' ccPu0 (loadRow tab rfl rfl rfl rfl) rfl rfl rfl rfl rfl ?h_6) | (refine' ccPu0 (loadBox tab rfl rfl rfl rfl rfl) rfl rfl rfl rfl rfl ?h_6)
     case' h_6 => skip
     refine' ccX (fun g => ?e_7) rfl rfl rfl ?h_7
     case e_7 =>
      refine callB [] [5] rfl rfl rfl rfl rfl ((fill_fn th evs he0 he1)) rfl rfl (by rfl) (by rfl) rfl rfl rfl rfl ?_
      refine WO.nil ?_
      exact ⟨rfl, rfl⟩
     case' h_7 => skip
     case p1_1 => exact (ev tab rfl)
     case p1_2 => exact (ev tab rfl)
     case p1_3 => first | (exact (ev tab rfl)) | (exact (loadRow tab rfl rfl rfl rfl)) | (exact (loadBox tab rfl rfl rfl rfl rfl))
     case p1_5 => exact (ev tab rfl)
     refine CC.nil ?_
     first | refine mapPut (kf := ik) (vf := idD) (l := parM (ps.take k)) (a := th) (y := .sl [Pkt.c ⟨th, 0, 0, evs⟩]) tab 8 rfl rfl rfl rfl rfl rfl rfl (keyInt (tab.u_int rfl rfl)) rfl rfl (by rw [parM_keys]; exact nodup_take hn k) (by rw [hput]) rfl ?_
     refine WO.nil (qbN (qs (W.region ?_)))
     iterate 2 refine pE rfl ?_
     refine WO.nil ?_
     refine W.endR [0, 1, 7] ⟨k + 1, ?_⟩ ?_ rfl ?_ ⟨rfl, rfl, rfl, rfl, trivial⟩ ?_ trivial rfl
     · exact hlt
     · dsimp only; omega
     · repeat' first | exact trivial | refine ⟨rfl, ?_⟩ | refine ⟨congrArg some (renL_boxE _ _ _), ?_⟩ | refine ⟨step_nat (by assumption) (by assumption), ?_⟩
     · repeat' first | exact trivial | refine ⟨rfl, ?_⟩ | refine ⟨congrArg some (renL_boxE _ _ _), ?_⟩ | refine ⟨step_nat (by assumption) (by assumption), ?_⟩
    ·
     exfalso; simp at h46
   ·
    have hpl : ps.take k = ps := List.take_of_length_le (by omega)
    rw [hpl]
    have htl : ts.length = ps.length := by have := congrArg List.length okp.1; simpa using this.symm
    have h64 : ts.length ≤ 64 := by
     unfold headE at h0
     split at h0
     · cases h0
     ·
      split at h0
      · cases h0
      · omega
    have htm : ts.length ≤ maxLen := by simp only [maxLen]; omega
    refine W.exit (qsExit (qlExit (qbExit (qs (W.seq (W.region ?_))))))
    first | refine pE rfl ?_ | refine pR rfl rfl rfl rfl rfl ?_ | refine pB rfl rfl rfl rfl rfl rfl ?_
    refine pu (build tab rfl rfl rfl rfl) rfl ?_
    refine allocR tab rfl rfl rfl ?_
    refine storeR tab rfl rfl rfl rfl rfl rfl rfl rfl ?_
    refine WO.nil (qs ?_)
    iterate 2 refine W.seq ?_
    refine ownNilBox 3 3 rfl rfl rfl ?_
    refine W.region ?_
    refine pE rfl ?_
    first | refine pE rfl ?_ | refine pR rfl rfl rfl rfl rfl ?_ | refine pB rfl rfl rfl rfl rfl rfl ?_
    iterate 2 refine pE rfl ?_
    refine WO.nil (qs (W.block ?_))
    refine W.loopR (ι := {x : Nat × List Pkt // match x with | (k, m) => k ≤ ts.length ∧ m = ps.take k})
     (fun x => match x.1 with | (k, m) => [(4, .ptr 0 0), (8, .mp 2 (mes ik idD (parM ps))), (12, .ptr 1 0), (70, .d (.v (.int .i64 ((k : Nat) : Int))))]) [(68, _), (69, _)]
     (fun x => match x.1 with | (k, m) => [(0, [.d (.v (.slice none 0 0)), .d (.v (.slice none 0 0)), .d (.v (.slice none 0 0)), .d (.v (.slice none 0 0))]), (1, [.d (.sl (ts.map Thr.c)), .d (.sl (dom0.map domC)), .d (.sl []), .own 3 (m.map Pkt.c)])]) [] [2, 3] 4 (fun x => match x.1 with | (k, m) => ts.length - k)
     [1, 3, 2, 4] ⟨(0, []), ?_⟩ rfl ?_ ⟨rfl, rfl, rfl, rfl, trivial⟩ ?_ trivial rfl ?_
    · exact ⟨Nat.zero_le _, rfl⟩
    · repeat' first | exact trivial | refine ⟨rfl, ?_⟩ | refine ⟨congrArg some (renL_boxE _ _ _), ?_⟩ | refine ⟨step_nat (by assumption) (by assumption), ?_⟩
    · repeat' first | exact trivial | refine ⟨rfl, ?_⟩ | refine ⟨congrArg some (renL_boxE _ _ _), ?_⟩ | refine ⟨step_nat (by assumption) (by assumption), ?_⟩
    rintro ⟨⟨k, m⟩, hk, hM⟩
    show W _ _ _ _ _ ⟨[(4, .ptr 0 0), (8, .mp 2 (mes ik idD (parM ps))), (12, .ptr 1 0), (70, .d (.v (.int .i64 ((k : Nat) : Int)))), (68, _), (69, _)], [(0, [.d (.v (.slice none 0 0)), .d (.v (.slice none 0 0)), .d (.v (.slice none 0 0)), .d (.v (.slice none 0 0))]), (1, [.d (.sl (ts.map Thr.c)), .d (.sl (dom0.map domC)), .d (.sl []), .own 3 (m.map Pkt.c)])], [2, 3], 4⟩
    refine W.seq (W.region ?_)
    refine pE rfl ?_
    refine WO.nil (qs (W.seq ?_))
    refine eachR (l := ts) (k := k) rfl (by simp [Ex.kc_len, bytes_len]) hk (fun t hx hd hlt => ?_) (fun he hd => ?_)
    ·
     obtain ⟨p, hp⟩ : ∃ p, ps[k]? = some p := ⟨ps[k]'(by omega), by simp⟩
     have hpt : p.thread = t.id := by
      have h1 : (ps.map Pkt.thread)[k]? = some p.thread := by simp [hp]
      rw [okp.1] at h1
      simpa [hx] using h1.symm
     have hsome := parM_some hn hp
     rw [hpt] at hsome
     have hmn : m ++ [p] = ps.take (k + 1) := by rw [hM, List.take_add_one, hp]; rfl
     have hml : m.length ≤ 64 := by rw [hM]; simp; omega
     refine W.skip (qs (W.seq (W.block (W.seq (W.region ?_)))))
     refine pu (indexAddr tab rfl rfl rfl rfl rfl rfl (Int.natCast_nonneg _) (idx_map hx) rfl) rfl ?_
     first | refine pE rfl ?_ | refine pR rfl rfl rfl rfl rfl ?_ | refine pB rfl rfl rfl rfl rfl rfl ?_
     refine allocR tab rfl rfl rfl ?_
     refine storeR tab rfl rfl rfl rfl rfl rfl rfl rfl ?_
     refine WO.nil (qs (W.region ?_))
     refine pE rfl ?_
     first | refine pE rfl ?_ | refine pR rfl rfl rfl rfl rfl ?_ | refine pB rfl rfl rfl rfl rfl rfl ?_
     iterate 2 refine pE rfl ?_
     first | refine pE rfl ?_ | refine pR rfl rfl rfl rfl rfl ?_ | refine pB rfl rfl rfl rfl rfl rfl ?_
     refine pu (mapGet (kf := ik) (vf := idD) (l := parM ps) (a := t.id) (z := .v (.slice none 0 0)) (r := .sl ([p].map Pkt.c)) tab rfl rfl rfl rfl rfl (keyInt (tab.u_int rfl rfl)) rfl rfl rfl (fun _ _ => .v _ rfl) (by rw [parM_keys]; exact hn) (by rw [hsome])) rfl ?_
     refine appendMs (l2 := [p]) (fn := Pkt.c) tab rfl rfl rfl rfl rfl rfl rfl rfl rfl rfl (fun _ => rfl) (by show (m.length + 1) * 48 ≤ _; omega) ?_
     refine pE rfl ?_
     refine storeR tab rfl rfl rfl rfl rfl rfl rfl rfl ?_
     refine WO.nil (qbN (qs (W.region ?_)))
     iterate 2 refine pE rfl ?_
     refine WO.nil ?_
     refine W.endR [0, 1, 2, 5] ⟨(k + 1, m ++ [p]), ?_⟩ ?_ rfl ?_ ⟨rfl, rfl, rfl, rfl, trivial⟩ ?_ trivial rfl
     · exact ⟨hlt, hmn⟩
     · dsimp only; omega
     · repeat' first | exact trivial | refine ⟨rfl, ?_⟩ | refine ⟨congrArg some (renL_boxE _ _ _), ?_⟩ | refine ⟨step_nat (by assumption) (by assumption), ?_⟩
     · repeat' first | exact trivial | refine ⟨rfl, ?_⟩ | refine ⟨congrArg some (renL_boxE _ _ _), ?_⟩ | refine ⟨step_nat (by assumption) (by assumption), ?_⟩
    ·
     have hpm : m = ps := by rw [hM, List.take_of_length_le (by omega)]
     subst hpm
     refine W.exit (qsExit (qlExit (qbExit (qs (W.seq (W.region ?_))))))
     first | refine pE rfl ?_ | refine pR rfl rfl rfl rfl rfl ?_ | refine pB rfl rfl rfl rfl rfl rfl ?_
     refine storeR tab rfl rfl rfl rfl rfl rfl rfl rfl ?_
     refine pE rfl ?_
     refine WO.nil (qs (W.ret ?_))
     refine QV.ret0 tab trivial rfl ?_
     rw [hg]; rfl
end Go.Proofs.YtoojafbicmdclaaDoor
namespace Go.Proofs.YtoojafbicmdclaaDoor
open Go.Ab Go.Tb
set_option maxRecDepth 10000
attribute [local irreducible] W WO Pu QS QB QL QF QV QV1 CH QE
theorem chunk_fn (evs : List Ev) : Does Tryd.prog 22 [.d (.sl (evs.map Ev.c)), .d (ci 1000)] (.clo 31 [.rowd [.sl (evs.map Ev.c)], .rowd [ci 1000]]) 0 := by
 refine Does.of_W (n := 9) (ts := [4]) Tryd.func22 (by kernel_rfl) rfl Tryd.ntmps22 Tryd.results22 rfl rfl fun C hC hG => ?_
 refine W.seq (W.region ?_)
 refine boxR rfl rfl rfl ?_
 refine boxR rfl rfl rfl ?_
 refine pE rfl ?_
 refine WO.nil (qs ?_)
 iterate 2 refine W.seq ?_
 refine W.region ?_
 first | refine pE rfl ?_ | refine pR rfl rfl rfl rfl rfl ?_ | refine pB rfl rfl rfl rfl rfl rfl ?_
 refine pE rfl ?_
 refine WO.nil (qs ?_)
 refine condK rfl (fun h6 => ?_) (fun h6 => ?_)
 ·
  exfalso; simp at h6
 ·
  refine W.skip (qs (W.seq ?_))
  refine freezeP 2 (l := [.sl (evs.map Ev.c)]) rfl rfl rfl rfl rfl ?_
  refine freezeP 3 (l := [ci 1000]) rfl rfl rfl rfl rfl ?_
  refine W.region ?_
  iterate 2 refine pE rfl ?_
  refine WO.nil (qs (W.ret ?_))
  refine QF.ret0 trivial rfl ?_
  rfl
theorem lineF_bad {s : ByteArray} (h : (lineF s).e ≠ 0) : (lineF s).e = 10 := by
 unfold lineF lineW at h ⊢
 split at h
 ·
  split at h
  · rename_i q; rw [if_pos q]; rfl
  ·
   rename_i q
   rw [if_neg q]
   split at h
   · rename_i q2; rw [if_pos q2]; rfl
   · exact absurd rfl h
 · rfl
theorem evs_at {X : InS} (h : KeyOk X) {k : Nat} {id : Int} (hx : X.1[k]? = some id) : ∃ evs, X.2[k]? = some (id, evs) ∧ (mget X.2 id).getD [] = evs ∧ evs ≠ [] := by
 obtain ⟨h1, h2, h3⟩ := h
 rw [← h1] at hx
 rw [List.getElem?_map, Option.map_eq_some_iff] at hx
 obtain ⟨p, hp, rfl⟩ := hx
 refine ⟨p.2, hp, ?_, h3 p (List.mem_of_getElem? hp)⟩
 rw [mget_pos (i := k) (by rw [h1]; exact h2) (v := p.2) hp]; rfl
theorem t_size {id : Int} (h : 0 ≤ id ∧ id ≤ 1000000000000000) : (B #[116]).size + (numB id).size ≤ 9223372036854775807 := by
 have h1 : (10 : Nat) ^ 20 = 100000000000000000000 := by decide
 have h2 := numB_size (n := id) (by omega)
 have h3 : (B #[116]).size = 1 := rfl
 omega
theorem import_fn (s : ByteArray) (hn : evsN (cutB s 10) ≤ 1000) : Does Tryd.prog 12 [.d (.v (.string s))] (.tup [.ag (impF s).l.c, .d (.v (.int .i64 ((impF s).n : Int))), .d (ci (impF s).e)]) 0 := by
 refine Does.of_Wd tab (n := 109) (rs := [.cell 2 36, .tmp 3, .tmp 4]) Tryd.func12 (by kernel_rfl) rfl Tryd.ntmps12 Tryd.results12 rfl fun C hbx hG => ?_
 haveI hC : NB C 0 := ⟨by rw [hbx]; rfl⟩
 refine Wd.seqW hbx fun C hC hG => ?_
 refine W.region ?_
 refine allocR tab rfl rfl rfl ?_
 iterate 2 refine pE rfl ?_
 refine WO.nil ?_
 refine qnS rfl ?_
 refine Wd.seqW hbx fun C hC hG => ?_
 refine W.seq (W.region ?_)
 iterate 3 refine pE rfl ?_
 refine WO.nil (qs ?_)
 refine condK rfl (fun h23 => ?_) (fun h23 => ?_)
 ·
  have hg : impF s = ⟨log0, 0, 7⟩ := by unfold impF; rw [if_pos (by simp at h23; omega)]
  refine W.seq (W.region ?_)
  refine pu (build tab rfl rfl rfl rfl) rfl ?_
  refine nilO 24 rfl rfl rfl ?_
  refine storeR tab rfl rfl rfl rfl rfl rfl rfl rfl ?_
  iterate 2 refine pE rfl ?_
  refine WO.nil (qs (W.ret ?_))
  refine qnRet rfl ?_
  refine qsdRet ?_
  refine ⟨trivial, _, rfl, ?_⟩
  rw [hg]; rfl
 ·
  have hsz : s.size ≤ 65536 := by simp at h23; omega
  refine W.skip ?_
  refine qnS rfl ?_
  refine Wd.seqW hbx fun C hC hG => ?_
  refine W.region ?_
  refine mkMapO rfl ?_
  refine pu (build tab rfl rfl rfl rfl) rfl ?_
  refine boxR rfl rfl rfl ?_
  refine pE rfl ?_
  refine WO.nil ?_
  refine qnS rfl ?_
  refine Wd.seqW hbx fun C hC hG => ?_
  refine W.seq (W.region ?_)
  refine pE rfl ?_
  refine pu (puCall rfl rfl rfl (split_fn s 10 (by omega)) rfl) rfl ?_
  iterate 2 refine pE rfl ?_
  refine WO.nil (qs (W.block ?_))
  refine ownNilBox 2 0 rfl rfl rfl ?_
  refine W.len (t := 29) rfl rfl (fun hlen => ?_)
  try simp only [List.length_map, Ex.kc_len] at hlen
  refine W.loopR (ι := {x : Nat × List (Int × Ev) // match x with | (k, acc) => k ≤ (cutB s 10).length ∧ linesF ((cutB s 10).drop k) k acc = linesF (cutB s 10) 0 [] ∧ acc.length + evsN ((cutB s 10).drop k) ≤ 1000})
   (fun x => match x.1 with | (k, acc) => [(2, .ptr 0 0), (5, .ptr 1 0), (31, .d (.v (.int .i64 ((k : Nat) : Int))))]) [(29, _), (30, _)]
   (fun x => match x.1 with | (k, acc) => [(0, [.d (.v (.slice none 0 0)), .d (.v (.slice none 0 0)), .d (.v (.slice none 0 0)), .d (.v (.slice none 0 0))]), (1, inB 2 (addsF ([], []) acc))]) [] [2, 3] 4 (fun x => match x.1 with | (k, acc) => (cutB s 10).length - k)
   [0, 2, 3, 1] ⟨(0, []), ?_⟩ rfl ?_ ⟨rfl, rfl, rfl, rfl, trivial⟩ ?_ trivial rfl ?_
  · exact ⟨Nat.zero_le _, rfl, by simpa using hn⟩
  · repeat' first | exact trivial | refine ⟨rfl, ?_⟩ | refine ⟨congrArg some (renL_boxE _ _ _), ?_⟩ | refine ⟨step_nat (by assumption) (by assumption), ?_⟩
  · repeat' first | exact trivial | refine ⟨rfl, ?_⟩ | refine ⟨congrArg some (renL_boxE _ _ _), ?_⟩ | refine ⟨step_nat (by assumption) (by assumption), ?_⟩
  rintro ⟨⟨k, acc⟩, hk, hI, hN⟩
  show W _ _ _ _ _ ⟨[(2, .ptr 0 0), (5, .ptr 1 0), (31, .d (.v (.int .i64 ((k : Nat) : Int)))), (29, _), (30, _)], [(0, [.d (.v (.slice none 0 0)), .d (.v (.slice none 0 0)), .d (.v (.slice none 0 0)), .d (.v (.slice none 0 0))]), (1, inB 2 (addsF ([], []) acc))], [2, 3], 4⟩
  refine W.seq (W.region ?_)
  refine pE rfl ?_
  refine WO.nil (qs (W.seq ?_))
  refine eachR (l := cutB s 10) (k := k) rfl (by simp [Ex.kc_len, bytes_len]) hk (fun w hx hd hlt => ?_) (fun he hd => ?_)
  ·
   have hws : w.size ≤ 1000000 := by have := cut_size (List.mem_of_getElem? hx); omega
   rw [hd] at hI hN
   simp only [linesF, evsN] at hI hN
   refine W.skip (qs (W.seq (W.block (W.seq (W.region ?_)))))
   refine pE rfl ?_
   refine pu (indexAddr tab rfl rfl rfl rfl rfl rfl (Int.natCast_nonneg _) (idx_map hx) rfl) rfl ?_
   first | refine pE rfl ?_ | refine pR rfl rfl rfl rfl rfl ?_ | refine pB rfl rfl rfl rfl rfl rfl ?_
   iterate 2 refine pE rfl ?_
   refine WO.nil (qs ?_)
   iterate 2 refine W.seq ?_
   refine W.region ?_
   iterate 2 refine pE rfl ?_
   refine WO.nil (qs ?_)
   refine condK rfl (fun h37 => ?_) (fun h37 => ?_)
   ·
    have hw0 : w = B #[] := by simpa using h37
    rw [if_pos hw0] at hI
    have hN' : acc.length + evsN ((cutB s 10).drop (k + 1)) ≤ 1000 := by omega
    refine W.exit (qsExit (qbExit (qs (W.region ?_))))
    iterate 2 refine pE rfl ?_
    refine WO.nil ?_
    first | (refine W.endR [0, 1, 2, 3] ⟨(k + 1, acc), ?_⟩ ?_ rfl ?_ ⟨rfl, rfl, rfl, rfl, trivial⟩ ?_ trivial rfl) | (refine W.endR [0, 1, 5, 6] ⟨(k + 1, acc ++ lineE (lineF w)), ?_⟩ ?_ rfl ?_ ⟨rfl, rfl, rfl, rfl, trivial⟩ ?_ trivial rfl)
    · exact ⟨hlt, hI, hN'⟩
    · dsimp only; omega
    · repeat' first | exact trivial | refine ⟨rfl, ?_⟩ | refine ⟨congrArg some (renL_boxE _ _ _), ?_⟩ | refine ⟨step_nat (by assumption) (by assumption), ?_⟩
    ·
     dsimp only
     try rw [hA]
     repeat' first | exact trivial | refine ⟨rfl, ?_⟩
   ·
    have hw0 : w ≠ B #[] := by simpa using h37
    rw [if_neg hw0] at hI
    refine W.skip (qs (W.seq (W.region ?_)))
    refine pE rfl ?_
    refine pu (puCall rfl rfl rfl ((line_fn _ (by assumption))) rfl) rfl ?_
    iterate 11 refine pE rfl ?_
    refine WO.nil (qs ?_)
    iterate 2 refine W.seq ?_
    refine W.region ?_
    iterate 2 refine pE rfl ?_
    refine WO.nil (qs ?_)
    refine condK rfl (fun h47 => ?_) (fun h47 => ?_)
    ·
     have hbad : (lineF w).e ≠ 0 := by simpa using h47
     rw [if_pos hbad] at hI
     have hg : impF s = ⟨log0, k + 1, 10⟩ := by unfold impF; rw [if_neg (by omega), if_pos (by rw [← hI]; simp), ← hI]
     have h10 := lineF_bad hbad
     refine W.seq (W.region ?_)
     refine pu (build tab rfl rfl rfl rfl) rfl ?_
     refine nilO 48 rfl rfl rfl ?_
     refine pE rfl ?_
     refine pu (puI (ev tab rfl) (y := ((k + 1 : Nat) : Int)) (by rw [wrap64 (by simp only [maxLen] at hlen; omega)]; rfl)) rfl ?_
     refine pE rfl ?_
     refine storeR tab rfl rfl rfl rfl rfl rfl rfl rfl ?_
     iterate 2 refine pE rfl ?_
     refine WO.nil (qs (W.ret (qsRet (qbRet (qsRet (qlRet (qbRet ?_)))))))
     refine qnRet rfl ?_
     refine qsdRet ?_
     refine ⟨trivial, _, rfl, ?_⟩
     rw [hg, ← h10]; rfl
    ·
     have hgood : (lineF w).e = 0 := by simpa using h47
     rw [if_neg (by simp [hgood])] at hI
     rw [if_neg (by rintro (q | q); exact hw0 q; exact q hgood)] at hN
     have hN' : (acc ++ lineE (lineF w)).length + evsN ((cutB s 10).drop (k + 1)) ≤ 1000 := by rw [List.length_append]; omega
     have hOk := (lineF_ok hgood).1
     have hIn : OkIn 900000 (addsF ([], []) acc) := OkIn.adds (KeyOk.adds acc key0) (by have := totN_adds acc ([], []); simp only [totN, List.map_nil, List.sum_nil] at this ⊢; omega)
     have hA := addsF_app ([], []) acc (lineE (lineF w))
     refine W.skip (qs (W.region ?_))
     iterate 5 refine pE rfl ?_
     refine callB [1] [2, 3] rfl rfl rfl rfl rfl ((iline_fn _ (lineF w) hOk hIn)) rfl rfl (by rfl) (by rfl) rfl rfl rfl rfl ?_
     refine WO.nil (qbN (qs (W.region ?_)))
     iterate 2 refine pE rfl ?_
     refine WO.nil ?_
     first | (refine W.endR [0, 1, 2, 3] ⟨(k + 1, acc), ?_⟩ ?_ rfl ?_ ⟨rfl, rfl, rfl, rfl, trivial⟩ ?_ trivial rfl) | (refine W.endR [0, 1, 5, 6] ⟨(k + 1, acc ++ lineE (lineF w)), ?_⟩ ?_ rfl ?_ ⟨rfl, rfl, rfl, rfl, trivial⟩ ?_ trivial rfl)
     · exact ⟨hlt, hI, hN'⟩
     · dsimp only; omega
     · repeat' first | exact trivial | refine ⟨rfl, ?_⟩ | refine ⟨congrArg some (renL_boxE _ _ _), ?_⟩ | refine ⟨step_nat (by assumption) (by assumption), ?_⟩
     ·
      dsimp only
      try rw [hA]
      repeat' first | exact trivial | refine ⟨rfl, ?_⟩
  ·
   obtain ⟨X, hX⟩ : ∃ X, X = addsF ([], []) acc := ⟨_, rfl⟩
   rw [hd] at hI hN
   have hI : (0, acc) = linesF (cutB s 10) 0 [] := hI
   have hI2 := linesF_ok (cutB s 10) 0 [] (by simp)
   rw [← hI] at hI2
   have hK : KeyOk X := hX ▸ KeyOk.adds acc key0
   have hT : totN X.2 ≤ 1000 := by
    have := totN_adds acc ([], [])
    rw [← hX] at this
    simp only [totN, List.map_nil, List.sum_nil] at this ⊢
    simp only [evsN] at hN
    omega
   have hids : ∀ a ∈ X.1, 0 ≤ a ∧ a ≤ 1000000000000000 := hX ▸ addsF_ids acc ([], []) hI2.1 (by simp)
   have hOT := okT_of hK hids
   have hOP := okP_of hK hT
   have hlen : X.1.length ≤ 1000 := by have := totN_len hK.2.2; have e := congrArg List.length hK.1; rw [List.length_map] at e; omega
   have hg : impF s = ⟨(ofF (X.1.map thrT) (X.2.map pktT)).1, 0, (ofF (X.1.map thrT) (X.2.map pktT)).2⟩ := by unfold impF logE; rw [if_neg (by omega), ← hI, if_neg (by simp), hX]
   have hxm : X.1.length ≤ maxLen := by simp only [maxLen]; omega
   rw [← hX]
   clear hX hI hI2 hd
   refine W.exit (qsExit (qlExit (qbExit ?_)))
   refine qnS rfl ?_
   refine Wd.seqW hbx fun C hC hG => ?_
   refine W.region ?_
   refine pu (build tab rfl rfl rfl rfl) rfl ?_
   refine pu (buildV tab rfl rfl rfl rfl rfl rfl rfl rfl rfl) rfl ?_
   refine pu (build tab rfl rfl rfl rfl) rfl ?_
   refine allocR tab rfl rfl rfl ?_
   refine storeR tab rfl rfl rfl rfl rfl rfl rfl rfl ?_
   refine WO.nil ?_
   refine qnS rfl ?_
   refine Wd.seqW hbx fun C hC hG => ?_
   refine W.region ?_
   refine allocR tab rfl rfl rfl ?_
   refine WO.nil ?_
   refine qnS rfl ?_
   refine Wd.seq ?_
   refine Wd.seqW hbx fun C hC hG => ?_
   refine ownNilBox 4 0 rfl rfl rfl ?_
   refine nilBox 4 2 rfl rfl rfl ?_
   refine ownNilBox 5 0 rfl rfl rfl ?_
   refine W.region ?_
   iterate 3 refine pE rfl ?_
   first | refine pE rfl ?_ | refine pR rfl rfl rfl rfl rfl ?_ | refine pB rfl rfl rfl rfl rfl rfl ?_
   iterate 2 refine pE rfl ?_
   refine WO.nil ?_
   refine qnS rfl ?_
   refine Wd.block ?_
   refine Wd.loopR (ι := {x : Nat × List Thr × List Pkt // match x with | (k, ts, ps) => k ≤ X.1.length ∧ ts = (X.1.take k).map thrT ∧ ps = (X.2.take k).map pktT})
    (fun x => match x.1 with | (k, ts, ps) => [(2, .ptr 0 0), (5, .ptr 1 0), (13, .ptr 2 0), (14, .ptr 3 0), (65, .own 4 (X.1.map ic)), (67, .d (.v (.int .i64 ((k : Nat) : Int))))]) [(66, _)]
    (fun x => match x.1 with | (k, ts, ps) => [(0, [.d (.v (.slice none 0 0)), .d (.v (.slice none 0 0)), .d (.v (.slice none 0 0)), .d (.v (.slice none 0 0))]), (1, inB 4 X), (2, [.own 6 (ts.map Thr.c), .d (.sl (dom0.map domC)), .d (.sl [])]), (3, [.own 7 (ps.map Pkt.c)])]) [] [4, 5, 6, 7] 8 (fun x => match x.1 with | (k, ts, ps) => X.1.length - k)
    [0, 1, 4, 5, 2, 3, 6, 7] ⟨(0, [], []), ?_⟩ rfl ?_ ⟨rfl, rfl, trivial⟩ ?_ trivial rfl ?_
   · exact ⟨Nat.zero_le _, rfl, rfl⟩
   · repeat' first | exact trivial | refine ⟨rfl, ?_⟩ | refine ⟨congrArg some (renL_boxE _ _ _), ?_⟩ | refine ⟨step_nat (by assumption) (by assumption), ?_⟩
   · repeat' first | exact trivial | refine ⟨rfl, ?_⟩ | refine ⟨congrArg some (renL_boxE _ _ _), ?_⟩ | refine ⟨step_nat (by assumption) (by assumption), ?_⟩
   rintro ⟨⟨k, ts, ps⟩, hk, hts, hps⟩
   show Wd _ _ _ _ _ ⟨[(2, .ptr 0 0), (5, .ptr 1 0), (13, .ptr 2 0), (14, .ptr 3 0), (65, .own 4 (X.1.map ic)), (67, .d (.v (.int .i64 ((k : Nat) : Int)))), (66, _)], [(0, [.d (.v (.slice none 0 0)), .d (.v (.slice none 0 0)), .d (.v (.slice none 0 0)), .d (.v (.slice none 0 0))]), (1, inB 4 X), (2, [.own 6 (ts.map Thr.c), .d (.sl (dom0.map domC)), .d (.sl [])]), (3, [.own 7 (ps.map Pkt.c)])], [4, 5, 6, 7], 8⟩
   refine Wd.seqW hbx fun C hC hG => ?_
   refine W.region ?_
   refine pE rfl ?_
   refine WO.nil ?_
   refine qnS rfl ?_
   refine Wd.seqW hbx fun C hC hG => ?_
   refine eachR (l := X.1) (k := k) rfl (by simp [Ex.kc_len, bytes_len]) hk (fun id hx hd hlt => ?_) (fun he hd => ?_)
   ·
    have hid := hids id (List.mem_of_getElem? hx)
    obtain ⟨evs, hev, hget, hne⟩ := evs_at hK hx
    have hep : 0 < (evs.map Ev.c).length := by rw [List.length_map]; exact List.length_pos_iff.2 hne
    have hel : (evs.map Ev.c).length ≤ 1000 := by rw [List.length_map]; exact Nat.le_trans (totN_mem (List.mem_of_getElem? hev)) hT
    refine W.skip ?_
    refine qnS rfl ?_
    refine Wd.seq ?_
    refine Wd.block ?_
    refine Wd.seqW hbx fun C hC hG => ?_
    refine W.region ?_
    refine pu (indexAddr tab rfl rfl rfl rfl rfl rfl (Int.natCast_nonneg _) (idx_map (f := ic) hx) rfl) rfl ?_
    first | refine pE rfl ?_ | refine pR rfl rfl rfl rfl rfl ?_ | refine pB rfl rfl rfl rfl rfl rfl ?_
    refine allocR tab rfl rfl rfl ?_
    refine storeR tab rfl rfl rfl rfl rfl rfl rfl rfl ?_
    refine WO.nil ?_
    refine qnS rfl ?_
    refine Wd.seqW hbx fun C hC hG => ?_
    refine W.regionL tab [] [] [] [] 8 (by kernel_rfl) (by kernel_rfl) rfl rfl ?_
    refine' cdPu' (ev tab rfl) ?p_1 rfl rfl rfl (by kernel_rfl) rfl ?h_1
    case' h_1 => skip
    case p_1 => refine ⟨fun ha => (alwNo ha (by kernel_rfl)).elim, ?_⟩ <;> intro ha <;> first | exact ⟨ev tab rfl, fun h => nomatch h⟩ | exact (alwNo ha (by kernel_rfl)).elim
    first | (refine' cdPu' (ev tab rfl) ?p_2 rfl rfl rfl (by kernel_rfl) rfl ?h_2) | (refine' cdPu' (loadRow tab rfl rfl rfl rfl) ?p_2 rfl rfl rfl (by kernel_rfl) rfl ?h_2) | (refine' cdPu' (loadBox tab rfl rfl rfl rfl rfl) ?p_2 rfl rfl rfl (by kernel_rfl) rfl ?h_2)
    case' h_2 => skip
    case p_2 => refine ⟨fun ha => (alwNo ha (by kernel_rfl)).elim, ?_⟩ <;> intro ha <;> first | exact ⟨ev tab rfl, fun h => nomatch h⟩ | exact ⟨loadRow tab rfl rfl rfl rfl, fun h => nomatch h⟩ | exact ⟨loadBox tab rfl rfl rfl rfl rfl, fun h => nomatch h⟩ | exact (alwNo ha (by kernel_rfl)).elim
    first | (refine' cdPu' (ev tab rfl) ?p_3 rfl rfl rfl (by kernel_rfl) rfl ?h_3) | (refine' cdPu' (loadRow tab rfl rfl rfl rfl) ?p_3 rfl rfl rfl (by kernel_rfl) rfl ?h_3) | (refine' cdPu' (loadBox tab rfl rfl rfl rfl rfl) ?p_3 rfl rfl rfl (by kernel_rfl) rfl ?h_3)
    case' h_3 => skip
    case p_3 => refine ⟨fun ha => (alwNo ha (by kernel_rfl)).elim, ?_⟩ <;> intro ha <;> first | exact ⟨ev tab rfl, fun h => nomatch h⟩ | exact ⟨loadRow tab rfl rfl rfl rfl, fun h => nomatch h⟩ | exact ⟨loadBox tab rfl rfl rfl rfl rfl, fun h => nomatch h⟩ | exact (alwNo ha (by kernel_rfl)).elim
    first | (refine' cdPu' (ev tab rfl) ?p_4 rfl rfl rfl (by kernel_rfl) rfl ?h_4) | (refine' cdPu' (loadRow tab rfl rfl rfl rfl) ?p_4 rfl rfl rfl (by kernel_rfl) rfl ?h_4) | (refine' cdPu' (loadBox tab rfl rfl rfl rfl rfl) ?p_4 rfl rfl rfl (by kernel_rfl) rfl ?h_4)
    case' h_4 => skip
    case p_4 => refine ⟨fun ha => (alwNo ha (by kernel_rfl)).elim, ?_⟩ <;> intro ha <;> first | exact ⟨ev tab rfl, fun h => nomatch h⟩ | exact ⟨loadRow tab rfl rfl rfl rfl, fun h => nomatch h⟩ | exact ⟨loadBox tab rfl rfl rfl rfl rfl, fun h => nomatch h⟩ | exact (alwNo ha (by kernel_rfl)).elim
    refine' cdPu' (puCall rfl rfl rfl (text_fn id (by omega) (by omega)) rfl) ?p_5 rfl rfl rfl (by kernel_rfl) rfl ?h_5
    case' h_5 => skip
    case p_5 => refine ⟨fun ha => (alwNo ha (by kernel_rfl)).elim, ?_⟩ <;> intro ha <;> first | exact ⟨puCall rfl rfl rfl (text_fn id (by omega) (by omega)) rfl, fun h => nomatch h⟩ | exact (alwNo ha (by kernel_rfl)).elim
    refine' cdPu' (strAdd (p := B #[116]) (q := numB id) rfl rfl (t_size hid)) ?p_6 rfl rfl rfl (by kernel_rfl) rfl ?h_6
    case' h_6 => skip
    case p_6 => refine ⟨fun ha => (alwNo ha (by kernel_rfl)).elim, ?_⟩ <;> intro ha <;> first | exact ⟨strAdd (p := B #[116]) (q := numB id) rfl rfl (t_size hid), fun h => nomatch h⟩ | exact (alwNo ha (by kernel_rfl)).elim
    refine' cdPu' (build tab rfl rfl rfl rfl) ?p_7 rfl rfl rfl (by kernel_rfl) rfl ?h_7
    case' h_7 => skip
    case p_7 => refine ⟨fun ha => (alwNo ha (by kernel_rfl)).elim, ?_⟩ <;> intro ha <;> first | exact ⟨build tab rfl rfl rfl rfl, fun h => nomatch h⟩ | exact (alwNo ha (by kernel_rfl)).elim
    refine' cdPu' (buildV tab rfl rfl rfl rfl rfl rfl rfl rfl rfl) ?p_8 rfl rfl rfl (by kernel_rfl) rfl ?h_8
    case' h_8 => skip
    case p_8 => refine ⟨fun ha => (alwNo ha (by kernel_rfl)).elim, ?_⟩ <;> intro ha <;> first | exact ⟨buildV tab rfl rfl rfl rfl rfl rfl rfl rfl rfl, fun h => nomatch h⟩ | exact (alwNo ha (by kernel_rfl)).elim
    refine CD.nil ?_ rfl
    refine appendM (fn := Thr.c) (a := thrT id) tab rfl rfl rfl rfl rfl rfl rfl rfl rfl rfl (fun _ => rfl) (by show (ts.length + 1) * 32 ≤ _; rw [hts]; simp; omega) ?_
    refine pE rfl ?_
    refine storeR tab rfl rfl rfl rfl rfl rfl rfl rfl ?_
    refine WO.nil ?_
    refine qnS rfl ?_
    refine Wd.seqW hbx fun C hC hG => ?_
    refine W.region ?_
    refine allocR tab rfl rfl rfl ?_
    refine storeR tab rfl rfl rfl rfl rfl rfl rfl rfl ?_
    refine WO.nil ?_
    refine qnS rfl ?_
    refine Wd.seqW hbx fun C hC hG => ?_
    refine W.regionD tab (by kernel_rfl) ?_
    iterate 3 refine chPu (ev tab rfl) rfl ?_
    first | refine chPu (ev tab rfl) rfl ?_ | refine chPu (loadRow tab rfl rfl rfl rfl) rfl ?_ | refine chPu (loadBox tab rfl rfl rfl rfl rfl) rfl ?_
    first | refine chPu (ev tab rfl) rfl ?_ | refine chPu (loadRow tab rfl rfl rfl rfl) rfl ?_ | refine chPu (loadBox tab rfl rfl rfl rfl rfl) rfl ?_
    refine chPu (mapLookO (kf := ik) (fn := Ev.c) (l := X.2) (a := id) (r := evs.map Ev.c) tab rfl rfl rfl rfl rfl (keyInt (tab.u_int rfl rfl)) rfl rfl rfl (by rw [hK.1]; exact hK.2.1) (by rw [hget])) rfl ?_
    refine chPu (puCall rfl rfl rfl (chunk_fn evs) rfl) rfl ?_
    refine CH.nil ?_
    refine qnS rfl ?_
    refine Wd.block ?_
    refine Wd.range (V := [(14, .ptr 0 0), (16, .ptr 1 0), (17, .ptr 2 0)]) (es := evs.map Ev.c) (b1 := [[.own 3 ((ps ++ [pktT (id, evs)]).map Pkt.c)], [.d (ci id)], [.d (ci (evs.length : Int))]]) (k := 1) rfl ⟨_, Tryd.func31, by kernel_rfl, by kernel_rfl⟩ chunk_it hep hel rfl rfl [3, 8, 10] [7] rfl rfl rfl rfl rfl (VOk.look ⟨⟨_, rfl, rfl⟩, ⟨_, rfl, rfl⟩, ⟨_, rfl, rfl⟩, trivial⟩) rfl ?_ rfl ?_
    ·
     refine RoundB.of2 rfl rfl rfl fun C hC hG => ?_
     first | refine pE rfl ?_ | refine pR rfl rfl rfl rfl rfl ?_ | refine pB rfl rfl rfl rfl rfl rfl ?_
     first | refine pE rfl ?_ | refine pR rfl rfl rfl rfl rfl ?_ | refine pB rfl rfl rfl rfl rfl rfl ?_
     first | refine pE rfl ?_ | refine pR rfl rfl rfl rfl rfl ?_ | refine pB rfl rfl rfl rfl rfl rfl ?_
     refine pE rfl ?_
     refine pu (build tab rfl rfl rfl rfl) rfl ?_
     refine pu (buildV tab rfl rfl rfl rfl rfl rfl rfl rfl rfl) rfl ?_
     refine appendM (fn := Pkt.c) (a := pktT (id, evs)) tab rfl rfl rfl rfl rfl rfl rfl rfl rfl rfl (fun _ => rfl) (by show (ps.length + 1) * 48 ≤ _; rw [hps]; simp; omega) ?_
     refine storeR tab rfl rfl rfl rfl rfl rfl rfl rfl ?_
     refine WO.nil ?_
     refine ⟨rfl, ?_⟩
     first | refine pE rfl ?_ | refine pR rfl rfl rfl rfl rfl ?_ | refine pB rfl rfl rfl rfl rfl rfl ?_
     iterate 2 refine pE rfl ?_
     refine pu (puI (ev tab rfl) (y := (evs.length : Int)) (by show IntKind.i64.wrap ((0 : Int) + ((evs.map Ev.c).length : Nat)) = _; rw [List.length_map] at hel ⊢; rw [wrap64 (by omega)]; omega)) rfl ?_
     refine storeR tab rfl rfl rfl rfl rfl rfl rfl rfl ?_
     refine WO.nil ?_
     refine ⟨rfl, QR.mk' [4] rfl rfl rfl ⟨⟨_, rfl, rfl⟩, ⟨_, rfl, rfl⟩, ⟨_, rfl, rfl⟩, trivial⟩⟩
    refine qbN (qbN ?_)
    refine qsd ?_
    refine Wd.ofW hbx fun C hC hG => ?_
    refine W.region ?_
    iterate 2 refine pE rfl ?_
    refine WO.nil ?_
    refine qnQ rfl ?_
    refine Wd.endR [0, 1, 2, 3, 4, 5, 9, 14] ⟨(k + 1, ts ++ [thrT id], ps ++ [pktT (id, evs)]), ?_⟩ ?_ rfl ?_ ⟨rfl, rfl, trivial⟩ ?_ trivial rfl
    · exact ⟨hlt, by rw [hts, List.take_add_one, hx, List.map_append]; rfl, by rw [hps, List.take_add_one, hev, List.map_append]; rfl⟩
    · dsimp only; omega
    · repeat' first | exact trivial | refine ⟨rfl, ?_⟩ | refine ⟨congrArg some (renL_boxE _ _ _), ?_⟩ | refine ⟨step_nat (by assumption) (by assumption), ?_⟩
    · repeat' first | exact trivial | refine ⟨rfl, ?_⟩ | refine ⟨congrArg some (renL_boxE _ _ _), ?_⟩ | refine ⟨step_nat (by assumption) (by assumption), ?_⟩
   ·
    have hl2 : X.2.length = X.1.length := by have e := congrArg List.length hK.1; rwa [List.length_map] at e
    have hts2 : ts = X.1.map thrT := by rw [hts, List.take_of_length_le (by omega)]
    have hps2 : ps = X.2.map pktT := by rw [hps, List.take_of_length_le (by omega)]
    rw [← hts2, ← hps2] at hOP hg
    rw [← hts2] at hOT
    refine W.exit ?_
    refine qnExit rfl ?_
    refine qsdExit ?_
    refine qldExit ?_
    refine qbExit ?_
    refine qsd ?_
    refine Wd.seqW hbx fun C hC hG => ?_
    refine W.region ?_
    first | refine pE rfl ?_ | refine pR rfl rfl rfl rfl rfl ?_ | refine pB rfl rfl rfl rfl rfl rfl ?_
    first | refine pE rfl ?_ | refine pR rfl rfl rfl rfl rfl ?_ | refine pB rfl rfl rfl rfl rfl rfl ?_
    refine pu (puCall rfl rfl rfl ((of_fn _ _ (by assumption) (by assumption))) rfl) rfl ?_
    iterate 3 refine pE rfl ?_
    refine allocR tab rfl rfl rfl ?_
    refine storeR tab rfl rfl rfl rfl rfl rfl rfl rfl ?_
    refine pE rfl ?_
    refine WO.nil ?_
    refine qnS rfl ?_
    refine Wd.seqW hbx fun C hC hG => ?_
    refine W.region ?_
    first | refine pE rfl ?_ | refine pR rfl rfl rfl rfl rfl ?_ | refine pB rfl rfl rfl rfl rfl rfl ?_
    refine pE rfl ?_
    refine storeR tab rfl rfl rfl rfl rfl rfl rfl rfl ?_
    iterate 2 refine pE rfl ?_
    refine WO.nil ?_
    refine qnS rfl ?_
    refine Wd.ofW hbx fun C hC hG => ?_
    refine W.ret ?_
    refine qnRet rfl ?_
    refine ⟨trivial, _, rfl, ?_⟩
    rw [hg]; rfl
end Go.Proofs.YtoojafbicmdclaaDoor
namespace Go.Proofs.YtoojafbicmdclaaDoor
open Go.Ab Go.Tb
set_option maxRecDepth 10000
attribute [local irreducible] W WO Pu QS QB QL QF QV QV1 CH QE
theorem equalI_fn (a b : List Int) : Does Tryd.prog 11 [.d (.sl (a.map ic)), .d (.sl (b.map ic))] (.d (.v (.bool (decide (a = b))))) 0 := by
 refine Does.of_W (n := 26) (ts := [4]) Tryd.func11 (by kernel_rfl) rfl Tryd.ntmps11 Tryd.results11 rfl rfl fun C hC hG => ?_
 refine W.seq (W.region ?_)
 refine pE rfl ?_
 refine WO.nil (qs ?_)
 iterate 2 refine W.seq ?_
 refine W.region ?_
 iterate 5 refine pE rfl ?_
 refine WO.nil (qs ?_)
 refine condK rfl (fun h10 => ?_) (fun h10 => ?_)
 ·
  have hg : decide (a = b) = false := by
   simp at h10
   exact decide_eq_false fun e => by rw [e] at h10; exact h10 rfl
  refine W.seq (W.region ?_)
  refine pE rfl ?_
  refine WO.nil (qs (W.ret (qsRet ?_)))
  refine QF.ret0 trivial rfl ?_
  rw [hg]; rfl
 ·
  have hl : a.length = b.length := by simp at h10; omega
  refine W.skip (qs ?_)
  iterate 2 refine W.seq ?_
  refine W.region ?_
  refine pE rfl ?_
  refine WO.nil (qs (W.block ?_))
  refine W.len (t := 0) rfl rfl (fun hlen => ?_)
  rw [List.length_map] at hlen
  refine W.loopR (ι := {x : Nat // match x with | k => k ≤ a.length ∧ a.take k = b.take k})
   (fun x => match x.1 with | k => [(5, .d (.v (.int .i64 ((k : Nat) : Int))))]) [(0, _), (1, _)]
   (fun x => match x.1 with | k => []) [] [] 0 (fun x => match x.1 with | k => a.length - k)
   [] ⟨0, ?_⟩ rfl ?_ ⟨rfl, rfl, rfl, rfl, trivial⟩ ?_ trivial rfl ?_
  · exact ⟨Nat.zero_le _, rfl⟩
  · repeat' first | exact trivial | refine ⟨rfl, ?_⟩ | refine ⟨congrArg some (renL_boxE _ _ _), ?_⟩ | refine ⟨step_nat (by assumption) (by assumption), ?_⟩
  · repeat' first | exact trivial | refine ⟨rfl, ?_⟩ | refine ⟨congrArg some (renL_boxE _ _ _), ?_⟩ | refine ⟨step_nat (by assumption) (by assumption), ?_⟩
  rintro ⟨k, hk, hI⟩
  show W _ _ _ _ _ ⟨[(5, .d (.v (.int .i64 ((k : Nat) : Int)))), (0, _), (1, _)], [], [], 0⟩
  iterate 2 refine W.seq ?_
  refine W.region ?_
  iterate 4 refine pE rfl ?_
  refine WO.nil (qs ?_)
  refine eachR (l := a) (k := k) rfl (by simp [Ex.kc_len, bytes_len]) hk (fun x hx hd hlt => ?_) (fun he hd => ?_)
  ·
   obtain ⟨y, hy⟩ : ∃ y, b[k]? = some y := ⟨b[k]'(by omega), by simp⟩
   refine W.skip (qs (W.seq (W.block (W.seq ?_))))
   refine W.regionD tab (by kernel_rfl) ?_
   iterate 2 refine chPu (ev tab rfl) rfl ?_
   refine chPu (indexAddr (l := ic x) tab rfl rfl rfl rfl rfl rfl (Int.natCast_nonneg _) (idx_map hx) rfl) rfl ?_
   first | refine chPu (ev tab rfl) rfl ?_ | refine chPu (loadRow tab rfl rfl rfl rfl) rfl ?_ | refine chPu (loadBox tab rfl rfl rfl rfl rfl) rfl ?_
   iterate 2 refine chPu (ev tab rfl) rfl ?_
   refine chPu (indexAddr (l := ic y) tab rfl rfl rfl rfl rfl rfl (Int.natCast_nonneg _) (idx_map hy) rfl) rfl ?_
   first | refine chPu (ev tab rfl) rfl ?_ | refine chPu (loadRow tab rfl rfl rfl rfl) rfl ?_ | refine chPu (loadBox tab rfl rfl rfl rfl rfl) rfl ?_
   refine chPu (ev tab rfl) rfl ?_
   refine CH.nil ?_
   refine qs ?_
   refine condK rfl (fun h25 => ?_) (fun h25 => ?_)
   ·
    have hg : decide (a = b) = false := by
     simp at h25
     refine decide_eq_false fun e => ?_
     rw [e, hy] at hx
     exact h25 (Option.some.inj hx).symm
    refine W.seq (W.region ?_)
    refine pE rfl ?_
    refine WO.nil (qs (W.ret (qbRet (qsRet (qlRet (qbRet (qsRet ?_)))))))
    refine QF.ret0 trivial rfl ?_
    rw [hg]; rfl
   ·
    have hxy : x = y := by simpa using h25
    refine W.skip (qbN (qs (W.region ?_)))
    iterate 3 refine pE rfl ?_
    refine WO.nil ?_
    refine W.endR [] ⟨k + 1, ?_⟩ ?_ rfl ?_ ⟨rfl, rfl, rfl, rfl, trivial⟩ ?_ trivial rfl
    · exact ⟨hlt, by rw [List.take_add_one, List.take_add_one, hI, hx, hy, hxy]⟩
    · dsimp only; omega
    · repeat' first | exact trivial | refine ⟨rfl, ?_⟩ | refine ⟨congrArg some (renL_boxE _ _ _), ?_⟩ | refine ⟨step_nat (by assumption) (by assumption), ?_⟩
    · repeat' first | exact trivial | refine ⟨rfl, ?_⟩ | refine ⟨congrArg some (renL_boxE _ _ _), ?_⟩ | refine ⟨step_nat (by assumption) (by assumption), ?_⟩
  ·
   have hg : decide (a = b) = true := by
    refine decide_eq_true ?_
    rw [List.take_of_length_le (by omega), List.take_of_length_le (by omega)] at hI
    exact hI
   refine W.exit (qsExit (qlExit (qbExit (qs (W.seq (W.region ?_))))))
   refine pE rfl ?_
   refine WO.nil (qs (W.ret ?_))
   refine QF.ret0 trivial rfl ?_
   rw [hg]; rfl
theorem lives_fn : Does Tryd.prog 8 [] (.d (.v (.bool true))) 0 := by
 have i1 := import_fn live1 (evsN_le (by decide))
 rw [imp_live1] at i1
 have i2 := line_fn live2 (by decide)
 rw [line_live2] at i2
 have i3 := import_fn live3 (evsN_le (by decide))
 rw [imp_live3] at i3
 have hn := name7
 refine Does.of_W (n := 116) (ts := [0]) Tryd.func8 (by kernel_rfl) rfl Tryd.ntmps8 Tryd.results8 rfl rfl fun C hC hG => ?_
 refine W.seq (W.region ?_)
 refine pE rfl ?_
 refine WO.nil (qs (W.seq (W.region ?_)))
 refine pu (puCall rfl rfl rfl i1 rfl) rfl ?_
 iterate 4 refine pE rfl ?_
 refine allocR tab rfl rfl rfl ?_
 refine storeR tab rfl rfl rfl rfl rfl rfl rfl rfl ?_
 iterate 2 refine pE rfl ?_
 refine WO.nil (qs ?_)
 iterate 2 refine W.seq ?_
 apply regionB; (case hb => rfl)
 ·
  iterate 3 refine pE rfl ?_
  apply splitJ; (case hj => rfl); (case hl => rfl)
  ·
   iterate 2 refine skipT rfl rfl rfl rfl ?_
   iterate 2 refine pE rfl ?_
   iterate 5 refine skipT rfl rfl rfl rfl ?_
   iterate 2 refine pE rfl ?_
   iterate 7 refine skipT rfl rfl rfl rfl ?_
   iterate 2 refine pE rfl ?_
   iterate 4 refine skipT rfl rfl rfl rfl ?_
   iterate 2 refine pE rfl ?_
   iterate 7 refine skipT rfl rfl rfl rfl ?_
   refine pE rfl ?_
   refine WO.nil ?_
   refine qv1 rfl rfl rfl
  ·
   refine goG rfl rfl ?_
   refine pE rfl ?_
   refine goG rfl rfl ?_
   iterate 3 refine pE rfl ?_
   apply splitJ; (case hj => rfl); (case hl => rfl)
   ·
    iterate 5 refine skipT rfl rfl rfl rfl ?_
    iterate 2 refine pE rfl ?_
    iterate 7 refine skipT rfl rfl rfl rfl ?_
    iterate 2 refine pE rfl ?_
    iterate 4 refine skipT rfl rfl rfl rfl ?_
    iterate 2 refine pE rfl ?_
    iterate 7 refine skipT rfl rfl rfl rfl ?_
    refine pE rfl ?_
    refine WO.nil ?_
    refine qv1 rfl rfl rfl
   ·
    refine goG rfl rfl ?_
    refine pE rfl ?_
    refine goG rfl rfl ?_
    refine pE rfl ?_
    refine goG rfl rfl ?_
    first | refine pE rfl ?_ | refine pR rfl rfl rfl rfl rfl ?_ | refine pB rfl rfl rfl rfl rfl rfl ?_
    refine goG rfl rfl ?_
    refine pE rfl ?_
    refine goG rfl rfl ?_
    iterate 3 refine pE rfl ?_
    apply splitJ; (case hj => rfl); (case hl => rfl)
    ·
     iterate 7 refine skipT rfl rfl rfl rfl ?_
     iterate 2 refine pE rfl ?_
     iterate 4 refine skipT rfl rfl rfl rfl ?_
     iterate 2 refine pE rfl ?_
     iterate 7 refine skipT rfl rfl rfl rfl ?_
     refine pE rfl ?_
     refine WO.nil ?_
     refine qv1 rfl rfl rfl
    ·
     refine goG rfl rfl ?_
     refine pE rfl ?_
     refine goG rfl rfl ?_
     refine pE rfl ?_
     refine goG rfl rfl ?_
     first | refine pE rfl ?_ | refine pR rfl rfl rfl rfl rfl ?_ | refine pB rfl rfl rfl rfl rfl rfl ?_
     refine goG rfl rfl ?_
     refine pu (indexAddr (l := (thrT 7).c) tab rfl rfl rfl rfl rfl rfl (by decide) rfl rfl) rfl ?_
     refine goG rfl rfl ?_
     refine pE rfl ?_
     refine goG rfl rfl ?_
     first | refine pE rfl ?_ | refine pR rfl rfl rfl rfl rfl ?_ | refine pB rfl rfl rfl rfl rfl rfl ?_
     refine goG rfl rfl ?_
     iterate 3 refine pE rfl ?_
     apply splitJ; (case hj => rfl); (case hl => rfl)
     ·
      iterate 4 refine skipT rfl rfl rfl rfl ?_
      iterate 2 refine pE rfl ?_
      iterate 7 refine skipT rfl rfl rfl rfl ?_
      refine pE rfl ?_
      refine WO.nil ?_
      refine qv1 rfl rfl rfl
     ·
      refine goG rfl rfl ?_
      refine pE rfl ?_
      refine goG rfl rfl ?_
      first | refine pE rfl ?_ | refine pR rfl rfl rfl rfl rfl ?_ | refine pB rfl rfl rfl rfl rfl rfl ?_
      refine goG rfl rfl ?_
      refine pE rfl ?_
      refine goG rfl rfl ?_
      iterate 3 refine pE rfl ?_
      apply splitJ; (case hj => rfl); (case hl => rfl)
      ·
       iterate 7 refine skipT rfl rfl rfl rfl ?_
       refine pE rfl ?_
       refine WO.nil ?_
       refine qv1 rfl rfl rfl
      ·
       refine goG rfl rfl ?_
       refine pE rfl ?_
       refine goG rfl rfl ?_
       first | refine pE rfl ?_ | refine pR rfl rfl rfl rfl rfl ?_ | refine pB rfl rfl rfl rfl rfl rfl ?_
       refine goG rfl rfl ?_
       refine pu (indexAddr (l := Pkt.c ⟨7, 0, 0, [evR 5 0]⟩) tab rfl rfl rfl rfl rfl rfl (by decide) rfl rfl) rfl ?_
       refine goG rfl rfl ?_
       refine pE rfl ?_
       refine goG rfl rfl ?_
       first | refine pE rfl ?_ | refine pR rfl rfl rfl rfl rfl ?_ | refine pB rfl rfl rfl rfl rfl rfl ?_
       refine goG rfl rfl ?_
       refine pE rfl ?_
       refine goG rfl rfl ?_
       iterate 2 refine pE rfl ?_
       refine WO.nil ?_
       refine qv1 rfl rfl rfl
 refine qs ?_
 refine condK rfl (fun h54 => ?_) (fun h54 => ?_)
 ·
  exfalso
  rw [hn] at h54
  exact absurd h54 (by decide)
 ·
  refine W.skip (qs (W.seq (W.region ?_)))
  refine pE rfl ?_
  first | refine pE rfl ?_ | refine pR rfl rfl rfl rfl rfl ?_ | refine pB rfl rfl rfl rfl rfl rfl ?_
  refine pu (indexAddr (l := Pkt.c ⟨7, 0, 0, [evR 5 0]⟩) tab rfl rfl rfl rfl rfl rfl (by decide) rfl rfl) rfl ?_
  refine pE rfl ?_
  first | refine pE rfl ?_ | refine pR rfl rfl rfl rfl rfl ?_ | refine pB rfl rfl rfl rfl rfl rfl ?_
  refine pu (indexAddr (l := (evR 5 0).c) tab rfl rfl rfl rfl rfl rfl (by decide) rfl rfl) rfl ?_
  first | refine pE rfl ?_ | refine pR rfl rfl rfl rfl rfl ?_ | refine pB rfl rfl rfl rfl rfl rfl ?_
  refine allocR tab rfl rfl rfl ?_
  refine storeR tab rfl rfl rfl rfl rfl rfl rfl rfl ?_
  refine WO.nil (qs (W.seq (W.region ?_)))
  refine pu (puCall rfl rfl rfl i2 rfl) rfl ?_
  iterate 11 refine pE rfl ?_
  refine WO.nil (qs (W.seq (W.region ?_)))
  refine pu (puCall rfl rfl rfl i3 rfl) rfl ?_
  iterate 4 refine pE rfl ?_
  refine allocR tab rfl rfl rfl ?_
  refine storeR tab rfl rfl rfl rfl rfl rfl rfl rfl ?_
  iterate 2 refine pE rfl ?_
  refine WO.nil (qs (W.seq ?_))
  apply regionB; (case hb => rfl)
  ·
   refine pE rfl ?_
   first | refine pE rfl ?_ | refine pR rfl rfl rfl rfl rfl ?_ | refine pB rfl rfl rfl rfl rfl rfl ?_
   iterate 2 refine pE rfl ?_
   apply splitJ; (case hj => rfl); (case hl => rfl)
   ·
    refine goG rfl rfl ?_
    refine pE rfl ?_
    refine goG rfl rfl ?_
    first | refine pE rfl ?_ | refine pR rfl rfl rfl rfl rfl ?_ | refine pB rfl rfl rfl rfl rfl rfl ?_
    refine goG rfl rfl ?_
    iterate 3 refine pE rfl ?_
    apply splitJ; (case hj => rfl); (case hl => rfl)
    ·
     refine goG rfl rfl ?_
     refine pE rfl ?_
     refine goG rfl rfl ?_
     first | refine pE rfl ?_ | refine pR rfl rfl rfl rfl rfl ?_ | refine pB rfl rfl rfl rfl rfl rfl ?_
     refine goG rfl rfl ?_
     iterate 3 refine pE rfl ?_
     apply splitJ; (case hj => rfl); (case hl => rfl)
     ·
      refine goG rfl rfl ?_
      refine pE rfl ?_
      refine goG rfl rfl ?_
      iterate 3 refine pE rfl ?_
      apply splitJ; (case hj => rfl); (case hl => rfl)
      ·
       refine goG rfl rfl ?_
       refine pE rfl ?_
       refine goG rfl rfl ?_
       iterate 3 refine pE rfl ?_
       apply splitJ; (case hj => rfl); (case hl => rfl)
       ·
        refine goG rfl rfl ?_
        refine pE rfl ?_
        refine goG rfl rfl ?_
        iterate 3 refine pE rfl ?_
        apply splitJ; (case hj => rfl); (case hl => rfl)
        ·
         refine goG rfl rfl ?_
         refine pE rfl ?_
         refine goG rfl rfl ?_
         refine pu (buildV tab rfl rfl rfl rfl rfl rfl rfl rfl rfl) rfl ?_
         refine goG rfl rfl ?_
         refine pu (puCall rfl rfl rfl (equalI_fn [7, 8] [7, 8]) rfl) rfl ?_
         iterate 2 refine pE rfl ?_
         apply splitJ; (case hj => rfl); (case hl => rfl)
         ·
          refine goG rfl rfl ?_
          refine pE rfl ?_
          refine goG rfl rfl ?_
          iterate 3 refine pE rfl ?_
          apply splitJ; (case hj => rfl); (case hl => rfl)
          ·
           refine goG rfl rfl ?_
           refine pE rfl ?_
           refine goG rfl rfl ?_
           iterate 3 refine pE rfl ?_
           apply splitJ; (case hj => rfl); (case hl => rfl)
           ·
            refine goG rfl rfl ?_
            refine pE rfl ?_
            refine goG rfl rfl ?_
            iterate 3 refine pE rfl ?_
            refine WO.nil ?_
            refine qv1 rfl rfl rfl
           ·
            iterate 2 refine skipT rfl rfl rfl rfl ?_
            iterate 2 refine pE rfl ?_
            refine WO.nil ?_
            refine qv1 rfl rfl rfl
          ·
           iterate 2 refine skipT rfl rfl rfl rfl ?_
           iterate 2 refine pE rfl ?_
           iterate 2 refine skipT rfl rfl rfl rfl ?_
           iterate 2 refine pE rfl ?_
           refine WO.nil ?_
           refine qv1 rfl rfl rfl
         ·
          iterate 2 refine skipT rfl rfl rfl rfl ?_
          iterate 2 refine pE rfl ?_
          iterate 2 refine skipT rfl rfl rfl rfl ?_
          iterate 2 refine pE rfl ?_
          iterate 2 refine skipT rfl rfl rfl rfl ?_
          iterate 2 refine pE rfl ?_
          refine WO.nil ?_
          refine qv1 rfl rfl rfl
        ·
         iterate 3 refine skipT rfl rfl rfl rfl ?_
         iterate 2 refine pE rfl ?_
         iterate 2 refine skipT rfl rfl rfl rfl ?_
         iterate 2 refine pE rfl ?_
         iterate 2 refine skipT rfl rfl rfl rfl ?_
         iterate 2 refine pE rfl ?_
         iterate 2 refine skipT rfl rfl rfl rfl ?_
         iterate 2 refine pE rfl ?_
         refine WO.nil ?_
         refine qv1 rfl rfl rfl
       ·
        iterate 2 refine skipT rfl rfl rfl rfl ?_
        iterate 2 refine pE rfl ?_
        iterate 3 refine skipT rfl rfl rfl rfl ?_
        iterate 2 refine pE rfl ?_
        iterate 2 refine skipT rfl rfl rfl rfl ?_
        iterate 2 refine pE rfl ?_
        iterate 2 refine skipT rfl rfl rfl rfl ?_
        iterate 2 refine pE rfl ?_
        iterate 2 refine skipT rfl rfl rfl rfl ?_
        iterate 2 refine pE rfl ?_
        refine WO.nil ?_
        refine qv1 rfl rfl rfl
      ·
       iterate 2 refine skipT rfl rfl rfl rfl ?_
       iterate 2 refine pE rfl ?_
       iterate 2 refine skipT rfl rfl rfl rfl ?_
       iterate 2 refine pE rfl ?_
       iterate 3 refine skipT rfl rfl rfl rfl ?_
       iterate 2 refine pE rfl ?_
       iterate 2 refine skipT rfl rfl rfl rfl ?_
       iterate 2 refine pE rfl ?_
       iterate 2 refine skipT rfl rfl rfl rfl ?_
       iterate 2 refine pE rfl ?_
       iterate 2 refine skipT rfl rfl rfl rfl ?_
       iterate 2 refine pE rfl ?_
       refine WO.nil ?_
       refine qv1 rfl rfl rfl
     ·
      iterate 2 refine skipT rfl rfl rfl rfl ?_
      iterate 2 refine pE rfl ?_
      iterate 2 refine skipT rfl rfl rfl rfl ?_
      iterate 2 refine pE rfl ?_
      iterate 2 refine skipT rfl rfl rfl rfl ?_
      iterate 2 refine pE rfl ?_
      iterate 3 refine skipT rfl rfl rfl rfl ?_
      iterate 2 refine pE rfl ?_
      iterate 2 refine skipT rfl rfl rfl rfl ?_
      iterate 2 refine pE rfl ?_
      iterate 2 refine skipT rfl rfl rfl rfl ?_
      iterate 2 refine pE rfl ?_
      iterate 2 refine skipT rfl rfl rfl rfl ?_
      iterate 2 refine pE rfl ?_
      refine WO.nil ?_
      refine qv1 rfl rfl rfl
    ·
     iterate 3 refine skipT rfl rfl rfl rfl ?_
     iterate 2 refine pE rfl ?_
     iterate 2 refine skipT rfl rfl rfl rfl ?_
     iterate 2 refine pE rfl ?_
     iterate 2 refine skipT rfl rfl rfl rfl ?_
     iterate 2 refine pE rfl ?_
     iterate 2 refine skipT rfl rfl rfl rfl ?_
     iterate 2 refine pE rfl ?_
     iterate 3 refine skipT rfl rfl rfl rfl ?_
     iterate 2 refine pE rfl ?_
     iterate 2 refine skipT rfl rfl rfl rfl ?_
     iterate 2 refine pE rfl ?_
     iterate 2 refine skipT rfl rfl rfl rfl ?_
     iterate 2 refine pE rfl ?_
     iterate 2 refine skipT rfl rfl rfl rfl ?_
     iterate 2 refine pE rfl ?_
     refine WO.nil ?_
     refine qv1 rfl rfl rfl
   ·
    iterate 3 refine skipT rfl rfl rfl rfl ?_
    iterate 2 refine pE rfl ?_
    iterate 3 refine skipT rfl rfl rfl rfl ?_
    iterate 2 refine pE rfl ?_
    iterate 2 refine skipT rfl rfl rfl rfl ?_
    iterate 2 refine pE rfl ?_
    iterate 2 refine skipT rfl rfl rfl rfl ?_
    iterate 2 refine pE rfl ?_
    iterate 2 refine skipT rfl rfl rfl rfl ?_
    iterate 2 refine pE rfl ?_
    iterate 3 refine skipT rfl rfl rfl rfl ?_
    iterate 2 refine pE rfl ?_
    iterate 2 refine skipT rfl rfl rfl rfl ?_
    iterate 2 refine pE rfl ?_
    iterate 2 refine skipT rfl rfl rfl rfl ?_
    iterate 2 refine pE rfl ?_
    iterate 2 refine skipT rfl rfl rfl rfl ?_
    iterate 2 refine pE rfl ?_
    refine WO.nil ?_
    refine qv1 rfl rfl rfl
  refine qs (W.ret ?_)
  refine QF.ret0 trivial rfl ?_
  rfl
end Go.Proofs.YtoojafbicmdclaaDoor
namespace Go.Proofs.YtoojafbicmdclaaDoor
open Go.Ab Go.Tb
set_option maxRecDepth 10000
attribute [local irreducible] W WO Pu QS QB QL QF QV QV1 CH QE
abbrev bD (c : UInt8) : List D := [.v (.int .u8 (c.toNat : Int))]
def bytesX (m k : Nat) : List UInt8 := List.replicate k 10 ++ List.replicate (m - k) 0
theorem bytesX_at {m k : Nat} (h : k < m) : ((bytesX m k).map bD)[k]? = some (bD 0) := by
 unfold bytesX
 rw [List.getElem?_map, List.getElem?_append_right (by simp), List.length_replicate, Nat.sub_self, List.getElem?_replicate, if_pos (by omega)]; rfl
theorem bytesX_set {m k : Nat} (h : k < m) : ((bytesX m k).map bD).set k (bD 10) = (bytesX m (k + 1)).map bD := by
 rw [← List.map_set]
 congr 1
 unfold bytesX
 rw [List.set_append_right _ _ (by simp), List.length_replicate, Nat.sub_self]
 obtain ⟨j, hj⟩ : ∃ j, m - k = j + 1 := ⟨m - k - 1, by omega⟩
 rw [hj, List.replicate_succ, List.set_cons_zero, show m - (k + 1) = j by omega, List.replicate_succ', List.append_assoc]; rfl
theorem flong_fn (i : Int) : Does Tryd.prog 7 [.d (.v (.int .i64 i))] (.d (.v (.bool true))) 0 := by
 refine Does.of_W (n := 66) (ts := [2]) Tryd.func7 (by kernel_rfl) rfl Tryd.ntmps7 Tryd.results7 rfl rfl fun C hC hG => ?_
 refine W.seq (W.region ?_)
 refine pE rfl ?_
 refine WO.nil (qs ?_)
 iterate 2 refine W.seq ?_
 apply regionB; (case hb => rfl)
 ·
  iterate 3 refine pE rfl ?_
  apply splitH; (case hj => rfl); (case hl => rfl)
  ·
   intro g10
   iterate 2 refine skipT rfl rfl rfl rfl ?_
   refine pE rfl ?_
   refine WO.nil ?_
   refine qv1 rfl rfl rfl
  ·
   intro g10
   refine goG rfl rfl ?_
   refine pE rfl ?_
   refine goG rfl rfl ?_
   iterate 2 refine pE rfl ?_
   refine WO.nil ?_
   refine qv1 rfl rfl rfl
 refine qs ?_
 refine condK rfl (fun h13 => ?_) (fun h13 => ?_)
 ·
  refine W.seq (W.region ?_)
  refine pu (puCall rfl rfl rfl (lives_fn ..) rfl) rfl ?_
  refine pE rfl ?_
  refine WO.nil (qs (W.ret (qsRet ?_)))
  refine QF.ret0 trivial rfl ?_
  rfl
 ·
  have hq : 0 ≤ i ∧ i ≤ 66000 := by
   by_cases q1 : i < 0
   · simp [q1] at h13
   ·
    simp [q1] at h13
    omega
  obtain ⟨m, rfl⟩ : ∃ m : Nat, i = (m : Int) := ⟨i.toNat, by omega⟩
  have hm : m ≤ 66000 := by omega
  have hml : m ≤ maxLen := by simp only [maxLen]; omega
  have himp := import_fn (feeds m) (by rw [evs_feeds]; omega)
  clear hq h13
  refine W.skip (qs (W.seq (W.region ?_)))
  refine pE rfl ?_
  refine makeX (m := m) (es := (bytesX m 0).map bD) tab rfl rfl rfl rfl rfl rfl rfl (by show (1 : Int) * m ≤ _; omega) hml (by unfold bytesX; rw [List.replicate_zero, List.nil_append, List.map_replicate]; rfl) ?_
  refine pE rfl ?_
  refine WO.nil (qs ?_)
  iterate 2 refine W.seq ?_
  refine W.region ?_
  refine pE rfl ?_
  refine WO.nil (qs (W.block ?_))
  refine W.loopR (ι := {x : Nat // match x with | k => k ≤ m})
   (fun x => match x.1 with | k => [(3, .xs 0 ((bytesX m k).map bD)), (4, .d (.v (.int .i64 ((k : Nat) : Int))))]) [(0, _)]
   (fun x => match x.1 with | k => []) [] [0] 1 (fun x => match x.1 with | k => m - k)
   [0] ⟨0, ?_⟩ rfl ?_ ⟨rfl, rfl, trivial⟩ ?_ trivial rfl ?_
  · exact Nat.zero_le _
  · repeat' first | exact trivial | refine ⟨rfl, ?_⟩ | refine ⟨congrArg some (renL_boxE _ _ _), ?_⟩ | refine ⟨step_nat (by assumption) (by assumption), ?_⟩
  · repeat' first | exact trivial | refine ⟨rfl, ?_⟩ | refine ⟨congrArg some (renL_boxE _ _ _), ?_⟩ | refine ⟨step_nat (by assumption) (by assumption), ?_⟩
  rintro ⟨k, hk⟩
  show W _ _ _ _ _ ⟨[(3, .xs 0 ((bytesX m k).map bD)), (4, .d (.v (.int .i64 ((k : Nat) : Int)))), (0, _)], [], [0], 1⟩
  iterate 2 refine W.seq ?_
  refine W.region ?_
  iterate 3 refine pE rfl ?_
  refine WO.nil (qs ?_)
  refine condK rfl (fun h19 => ?_) (fun h19 => ?_)
  ·
   have hlt : k < m := by simp at h19; omega
   have hat := bytesX_at hlt
   have hset := bytesX_set hlt
   refine W.skip (qs (W.seq (W.block (W.region ?_))))
   iterate 2 refine pE rfl ?_
   refine pu (indexX (l := bD 0) tab rfl rfl rfl rfl rfl rfl (Int.natCast_nonneg _) hat rfl) rfl ?_
   refine storeX tab 3 rfl rfl rfl rfl hat rfl rfl rfl rfl rfl rfl hset rfl ?_
   refine WO.nil (qbN (qs (W.region ?_)))
   iterate 3 refine pE rfl ?_
   refine WO.nil ?_
   refine W.endR [1] ⟨k + 1, ?_⟩ ?_ rfl ?_ ⟨rfl, rfl, trivial⟩ ?_ trivial rfl
   · exact hlt
   · dsimp only; omega
   · repeat' first | exact trivial | refine ⟨rfl, ?_⟩ | refine ⟨congrArg some (renL_boxE _ _ _), ?_⟩ | refine ⟨step_nat (by assumption) (by assumption), ?_⟩
   · repeat' first | exact trivial | refine ⟨rfl, ?_⟩ | refine ⟨congrArg some (renL_boxE _ _ _), ?_⟩ | refine ⟨step_nat (by assumption) (by assumption), ?_⟩
  ·
   have hkm : k = m := by simp at h19; omega
   subst hkm
   refine W.exit (qsExit (qlExit (qbExit (qs (W.seq ?_)))))
   refine freezeX 3 rfl rfl rfl rfl ?_
   refine W.region ?_
   refine pE rfl ?_
   refine pu (convBs (l := List.replicate k 10) rfl (by show some ((bytesX k k).map bD) = _; unfold bytesX; rw [Nat.sub_self, List.replicate_zero, List.append_nil]) rfl (by simpa using hml)) rfl ?_
   refine pu (puCall rfl rfl rfl himp rfl) rfl ?_
   iterate 4 refine pE rfl ?_
   refine allocR tab rfl rfl rfl ?_
   refine storeR tab rfl rfl rfl rfl rfl rfl rfl rfl ?_
   iterate 2 refine pE rfl ?_
   refine WO.nil (qs ?_)
   iterate 2 refine W.seq ?_
   refine W.region ?_
   iterate 2 refine pE rfl ?_
   refine WO.nil (qs ?_)
   refine condK rfl (fun h33 => ?_) (fun h33 => ?_)
   ·
    have hl := imp_long (n := k) (by simp at h33; omega)
    refine W.seq ?_
    apply regionB; (case hb => rfl)
    ·
     iterate 3 refine pE rfl ?_
     apply splitH; (case hj => rfl); (case hl => rfl)
     ·
      intro g36
      refine goG rfl rfl ?_
      refine pE rfl ?_
      refine goG rfl rfl ?_
      iterate 3 refine pE rfl ?_
      apply splitH; (case hj => rfl); (case hl => rfl)
      ·
       intro g40
       refine goG rfl rfl ?_
       refine pE rfl ?_
       refine goG rfl rfl ?_
       refine pE rfl ?_
       refine goG rfl rfl ?_
       first | refine pE rfl ?_ | refine pR rfl rfl rfl rfl rfl ?_ | refine pB rfl rfl rfl rfl rfl rfl ?_
       refine goG rfl rfl ?_
       refine pE rfl ?_
       refine goG rfl rfl ?_
       iterate 3 refine pE rfl ?_
       apply splitH; (case hj => rfl); (case hl => rfl)
       ·
        intro g47
        refine goG rfl rfl ?_
        refine pu (puCall rfl rfl rfl (lives_fn ..) rfl) rfl ?_
        iterate 2 refine pE rfl ?_
        refine WO.nil ?_
        refine qv1 rfl rfl rfl
       ·
        intro g47
        refine skipT rfl rfl rfl rfl ?_
        iterate 2 refine pE rfl ?_
        refine WO.nil ?_
        refine qv1 rfl rfl rfl
      ·
       intro g40
       iterate 5 refine skipT rfl rfl rfl rfl ?_
       iterate 2 refine pE rfl ?_
       refine skipT rfl rfl rfl rfl ?_
       iterate 2 refine pE rfl ?_
       refine WO.nil ?_
       refine qv1 rfl rfl rfl
     ·
      intro g36
      iterate 2 refine skipT rfl rfl rfl rfl ?_
      iterate 2 refine pE rfl ?_
      iterate 5 refine skipT rfl rfl rfl rfl ?_
      iterate 2 refine pE rfl ?_
      refine skipT rfl rfl rfl rfl ?_
      iterate 2 refine pE rfl ?_
      refine WO.nil ?_
      refine qv1 rfl rfl rfl
    refine qs (W.ret (qsRet ?_))
    refine QF.ret0 trivial rfl ?_
    simp [norm, oneA, boolA, hl, log0]
   ·
    have hl := imp_feeds (n := k) (by simp at h33; omega)
    refine W.skip (qs (W.seq ?_))
    apply regionB; (case hb => rfl)
    ·
     iterate 3 refine pE rfl ?_
     apply splitH; (case hj => rfl); (case hl => rfl)
     ·
      intro g52
      refine goG rfl rfl ?_
      refine pE rfl ?_
      refine goG rfl rfl ?_
      iterate 3 refine pE rfl ?_
      apply splitH; (case hj => rfl); (case hl => rfl)
      ·
       intro g56
       refine goG rfl rfl ?_
       refine pE rfl ?_
       refine goG rfl rfl ?_
       refine pE rfl ?_
       refine goG rfl rfl ?_
       first | refine pE rfl ?_ | refine pR rfl rfl rfl rfl rfl ?_ | refine pB rfl rfl rfl rfl rfl rfl ?_
       refine goG rfl rfl ?_
       refine pE rfl ?_
       refine goG rfl rfl ?_
       iterate 3 refine pE rfl ?_
       apply splitH; (case hj => rfl); (case hl => rfl)
       ·
        intro g63
        refine goG rfl rfl ?_
        refine pu (puCall rfl rfl rfl (lives_fn ..) rfl) rfl ?_
        iterate 2 refine pE rfl ?_
        refine WO.nil ?_
        refine qv1 rfl rfl rfl
       ·
        intro g63
        refine skipT rfl rfl rfl rfl ?_
        iterate 2 refine pE rfl ?_
        refine WO.nil ?_
        refine qv1 rfl rfl rfl
      ·
       intro g56
       iterate 5 refine skipT rfl rfl rfl rfl ?_
       iterate 2 refine pE rfl ?_
       refine skipT rfl rfl rfl rfl ?_
       iterate 2 refine pE rfl ?_
       refine WO.nil ?_
       refine qv1 rfl rfl rfl
     ·
      intro g52
      iterate 2 refine skipT rfl rfl rfl rfl ?_
      iterate 2 refine pE rfl ?_
      iterate 5 refine skipT rfl rfl rfl rfl ?_
      iterate 2 refine pE rfl ?_
      refine skipT rfl rfl rfl rfl ?_
      iterate 2 refine pE rfl ?_
      refine WO.nil ?_
      refine qv1 rfl rfl rfl
    refine qs (W.ret ?_)
    refine QF.ret0 trivial rfl ?_
    simp [norm, oneA, boolA, hl, log0]
end Go.Proofs.YtoojafbicmdclaaDoor
