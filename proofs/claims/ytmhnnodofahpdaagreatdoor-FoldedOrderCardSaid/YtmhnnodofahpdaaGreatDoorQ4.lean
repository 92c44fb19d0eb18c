import Derived.Test.YtmhnnodofahpdaaGreatDoorQ3
import Derived.Test.YtmhnnodofahpdaaGreatDoorChecked
import Derived.KernelRfl
import Derived.Test.YtmhnnodofahpdaaGreatDoorRows
import Derived.Shelf.Strings.Builder1
import Derived.Shelf.Strings.Builder2
import Derived.Shelf.Strings.OnBuilder
import Derived.Shelf.Small.Bits
import Derived.Shelf.Small.Strs
import Derived.Shelf.Strconv.Atoi
import Derived.Shelf.Strconv.Itoa0
import Derived.Shelf.Strconv.Itoa1
import Derived.Shelf.LaysM
import Derived.Shelf.Strconv.Itoa2
import Derived.Shelf.Strconv.Itoa3
import Derived.Shelf.Strconv.AtoiErrFast
import Derived.Shelf.Strconv.ParseIntEmpty
import Derived.Shelf.Strconv.AtoiFail
import Derived.Shelf.Strconv.Clone
import Derived.Shelf.Strconv.SyntaxError
import Derived.Shelf.LaysC
import Derived.Shelf.Strconv.ToError
import Derived.Shelf.Strconv.AtoiErr
import Derived.Shelf.Strconv.ErrVar
import Derived.Shelf.Strconv.Lower
import Derived.Shelf.Strconv.ParseUint10
import Derived.Shelf.Strconv.ParseUint10Empty
import Derived.Shelf.Strconv.ParseUint10Any
import Derived.Shelf.Strconv.ParseInt10
import Derived.Shelf.Strconv.AtoiLong
import Derived.Shelf.Strconv.AtoiInnerAll
import Derived.Shelf.Strconv.RangeError
import Derived.Shelf.Strconv.ToErrorRange
import Derived.Shelf.Strconv.AtoiAll
import Derived.Shelf.Strconv.ErrVarAll
import Derived.Shelf.Strings.Search1
import Derived.Shelf.Strings.Search2
import Derived.Shelf.Strings.Search3
import Derived.Shelf.Strings.Count
import Derived.Shelf.Strings.Shaped
import Derived.Shelf.Strings.LastIndex
import Derived.Shelf.Strings.Prefix
import Derived.Shelf.Strings.Split
import Derived.Shelf.Strings.SplitShaped
import Derived.Shelf.Unicode.DecodeSlow
import Derived.Ground.SlsfProg
import Derived.Shelf.SlSortCmp.Insertion
import Derived.Shelf.SlSortCmp.SiftDown1
import Derived.Shelf.SlSortCmp.HeapSort1
import Derived.Shelf.SlSortCmp.Insertion1
import Derived.Shelf.SlSortCmp.Median1
import Derived.Shelf.SlSortCmp.Pivot1
import Derived.Shelf.SlSortCmp.ReverseRange1
import Derived.Test.YtmhnnodofahpdaaGreatDoorProg
import Derived.Shelf.SlGeneric
import Derived.Shelf.SlSortCmp.NoneTotal
import Derived.Shelf.SlIter.Collect
import Derived.Ground.GgzProg
import Derived.WalkKit
import Derived.StringKeys
import Derived.Deep.LoopGhost
import Derived.Laws.Cover1
namespace Go.Proofs.YtmhnnodofahpdaaGreatDoor
open Go.Ab
abbrev tabL : List (Nat × TyD) := [
 (2, ⟨.int .i64, 1, 8, [.int .i64 0]⟩),
 (3, ⟨.int .i64, 1, 8, [.int .i64 0]⟩),
 (4, ⟨.bool, 1, 1, [.bool false]⟩),
 (5, ⟨.int .u8, 1, 1, [.int .u8 0]⟩),
 (9, ⟨.str, 1, 16, [.string ⟨#[]⟩]⟩),
 (12, ⟨.int .u64, 1, 8, [.int .u64 0]⟩),
 (21, ⟨.int .i32, 1, 4, [.int .i32 0]⟩),
 (23, ⟨.slice 37, 1, 24, [.slice none 0 0]⟩),
 (24, ⟨.int .i64, 1, 8, [.int .i64 0]⟩),
 (35, ⟨.slice 9, 1, 24, [.slice none 0 0]⟩),
 (37, ⟨.st [(0, 3, "Thread"), (1, 3, "At"), (2, 3, "Weight"), (3, 35, "Stack")], 4, 48, [.int .i64 0, .int .i64 0, .int .i64 0, .slice none 0 0]⟩),
 (45, ⟨.map 9 3, 1, 8, [.map none]⟩),
 (46, ⟨.map 9 35, 1, 8, [.map none]⟩),
 (55, ⟨.ptr 58, 1, 8, [.pointer none]⟩),
 (56, ⟨.slice 5, 1, 24, [.slice none 0 0]⟩),
 (58, ⟨.st [(0, 55, "addr"), (1, 56, "buf")], 2, 32, [.pointer none, .slice none 0 0]⟩),
 (68, ⟨.int .u64, 1, 8, [.int .u64 0]⟩),
 (77, ⟨.ptr 5, 1, 8, [.pointer none]⟩),
 (92, ⟨.int .i64, 1, 8, [.int .i64 0]⟩),
 (99, ⟨.int .u32, 1, 4, [.int .u32 0]⟩),
 (101, ⟨.int .u64, 1, 8, [.int .u64 0]⟩),
 (104, ⟨.int .i64, 1, 8, [.int .i64 0]⟩),
 (107, ⟨.ptr 130, 1, 8, [.pointer none]⟩),
 (110, ⟨.int .u64, 1, 8, [.int .u64 0]⟩),
 (114, ⟨.ptr 3, 1, 8, [.pointer none]⟩),
 (122, ⟨.st [(0, 5, "lo"), (1, 5, "hi")], 2, 2, [.int .u8 0, .int .u8 0]⟩),
 (132, ⟨.ptr 110, 1, 8, [.pointer none]⟩),
 (139, ⟨.ptr 141, 1, 8, [.pointer none]⟩),
 (141, ⟨.st [(0, 9, "s")], 1, 16, [.string ⟨#[]⟩]⟩)]
theorem tab_ok : tabL.all (fun x => tyOK Tryz.prog x.1 x.2) = true := by kernel_rfl
abbrev tab : Tab Tryz.prog := ⟨tabL, tab_ok, by kernel_rfl⟩
instance progMet : Go.Ab.Met Tryz.prog := ⟨fun W => MetNum Tryz.prog W⟩
section
variable {C : Ctx} {n : Nat} {ops : Array Oper} {Q : Exit → St → Prop} {rest : List Oper} {f : List (Nat × A)} {bx : List (Nat × List A)} {lv : List Nat} {gen d : Nat} {ty : TypeId} {pos : String} {af : Array Edge} {a : A}
theorem pE {op : Op} (h : Bool.rec (motive := fun _ => Option A) none (evPu tab f bx op) (Nat.blt d n) = some a) (k : WO Tryz.prog C n ops Q rest ⟨(d, a) :: f, bx, lv, gen⟩) : WO Tryz.prog C n ops Q (⟨some d, op, ty, pos, af, none⟩ :: rest) ⟨f, bx, lv, gen⟩ := by
  cases hb : Nat.blt d n with
  | false => rw [hb] at h; exact absurd h (by simp)
  | true => rw [hb] at h; exact pu (ev tab h) hb k
theorem pR {t : Nat} {x : Operand} {td : TyD} {l : List D} (ht : look' tab.l t = some td) (hk : td.k.agg = true) (hx : av f x = some (.rowd l)) (hl : l.length = td.n) (hd : Nat.blt d n = true) (k : WO Tryz.prog C n ops Q rest ⟨(d, .ag l) :: f, bx, lv, gen⟩) : WO Tryz.prog C n ops Q (⟨some d, .load t x, ty, pos, af, none⟩ :: rest) ⟨f, bx, lv, gen⟩ := pu (loadRow tab ht hk hx hl) hd k
theorem pB {t : Nat} {x : Operand} {td : TyD} {g : Nat} {l : List D} (ht : look' tab.l t = some td) (hk : td.k.agg = true) (hx : av f x = some (.ptr g 0)) (hb : look' bx g = some (l.map A.d)) (hl : l.length = td.n) (hd : Nat.blt d n = true) (k : WO Tryz.prog C n ops Q rest ⟨(d, .ag l) :: f, bx, lv, gen⟩) : WO Tryz.prog C n ops Q (⟨some d, .load t x, ty, pos, af, none⟩ :: rest) ⟨f, bx, lv, gen⟩ := pu (loadBox tab ht hk hx hb hl) hd k
end
end Go.Proofs.YtmhnnodofahpdaaGreatDoor
namespace Go.Proofs.YtmhnnodofahpdaaGreatDoor
open Go.Ab
theorem lmet (W : World) (h : laidMet Tryz.prog Rows.foldedOrderRow.laid W) : MetNum Tryz.prog W :=
 metNum_of (t := 136) (e := 101) (m := 20) (ti := 60) h (d := Rows.laid_internal_strconv_uint64pow10) (.tail _ (.tail _ (.head _))) (by kernel_rfl) (by kernel_rfl) (by kernel_rfl) (by kernel_rfl) (by kernel_rfl) (by kernel_rfl)
  (nm := "*errors.errorString") (nm' := "*errors.errorString") (.tail _ (.tail _ (.tail _ (.tail _ (.tail _ (.head _)))))) (.tail _ (.tail _ (.tail _ (.tail _ (.head _))))) (by kernel_rfl) (by kernel_rfl) (by kernel_rfl)
end Go.Proofs.YtmhnnodofahpdaaGreatDoor
namespace Go.Proofs.YtmhnnodofahpdaaGreatDoor
open Go.Ab Go.Tb
set_option maxRecDepth 10000
attribute [local irreducible] W WO Pu QS QB QL QF QV QV1 CH QE
theorem in_fn (n : Int) : Does Tryz.prog 38 [.d (.v (.int .i64 n))] (.d (.v (.bool (inR n)))) 0 := by
 refine Does.of_W (n := 9) (ts := [2]) Tryz.func38 (by kernel_rfl) rfl Tryz.ntmps38 Tryz.results38 rfl rfl fun C hC hG => ?_
 refine W.seq (W.region ?_)
 refine pE rfl ?_
 refine WO.nil (qs (W.seq ?_))
 apply regionB; (case hb => rfl)
 ·
  iterate 3 refine pE rfl ?_
  apply splitJ; (case hj => rfl); (case hl => rfl)
  ·
   refine goG rfl rfl ?_
   refine pE rfl ?_
   refine goG rfl rfl ?_
   iterate 3 refine pE rfl ?_
   refine WO.nil ?_
   refine qv1 rfl rfl rfl
  ·
   iterate 2 refine skipT rfl rfl rfl rfl ?_
   iterate 2 refine pE rfl ?_
   refine WO.nil ?_
   refine qv1 rfl rfl rfl
 refine qs (W.ret ?_)
 refine QF.ret0 trivial rfl ?_
 simp [norm, oneA, inR]
end Go.Proofs.YtmhnnodofahpdaaGreatDoor
namespace Go.Proofs.YtmhnnodofahpdaaGreatDoor
open Go.Ab Go.Tb
set_option maxRecDepth 10000
attribute [local irreducible] W WO Pu QS QB QL QF QV QV1 CH QE
end Go.Proofs.YtmhnnodofahpdaaGreatDoor
namespace Go.Proofs.YtmhnnodofahpdaaGreatDoor
open Go.Ab Go.Tb
set_option maxRecDepth 10000
attribute [local irreducible] W WO Pu QS QB QL QF QV QV1 CH QE
theorem ixb_fn (s : ByteArray) (b : UInt8) : Does Tryz.prog 91 [.d (.v (.string s)), .d (.v (.int .u8 b.toNat))] (.d (.v (.int .i64 (Lib.indexByte (bys s) b)))) 0 := by
 refine Does.of_W (n := 8) (ts := [4]) Tryz.func91 (by kernel_rfl) rfl Tryz.ntmps91 Tryz.results91 rfl rfl fun C hC hG => ?_
 refine W.inRange (t := 0) rfl (fun hok => ?_)
 refine W.seq (W.region ?_)
 refine pE rfl ?_
 refine WO.nil (qs (W.seq (W.region ?_)))
 iterate 2 refine pE rfl ?_
 refine pu (puExt (vs := [.string s, .int .u8 b.toNat]) rfl rfl (fun w => (run_callFunc_extern Tryz.func109 (by kernel_rfl) (by kernel_rfl) (by kernel_rfl) (by kernel_rfl) #[.string s, .int .u8 b.toNat] w).trans (by rw [show (Extern.BytealgIndexByte.indexByte #[.string s, .int .u8 b.toNat]).run Tryz.prog w = _ from Lib.run_indexByteString s b.toNat w]; rfl)) (indexByte_ok hok _)) rfl ?_
 refine pE rfl ?_
 refine WO.nil (qs (W.ret ?_))
 refine QF.ret0 trivial rfl ?_
 simp [norm, oneA, bys]
theorem sixb_fn (s : ByteArray) (b : UInt8) : Does Tryz.prog 77 [.d (.v (.string s)), .d (.v (.int .u8 b.toNat))] (.d (.v (.int .i64 (Lib.indexByte (bys s) b)))) 0 := by
 refine Does.of_W (n := 8) (ts := [4]) Tryz.func77 (by kernel_rfl) rfl Tryz.ntmps77 Tryz.results77 rfl rfl fun C hC hG => ?_
 refine W.seq (W.region ?_)
 refine pE rfl ?_
 refine WO.nil (qs (W.seq (W.region ?_)))
 iterate 2 refine pE rfl ?_
 refine pu (puCall rfl rfl rfl (ixb_fn ..) rfl) rfl ?_
 refine pE rfl ?_
 refine WO.nil (qs (W.ret ?_))
 refine QF.ret0 trivial rfl ?_
 rfl
theorem letter_fn (b : UInt8) : Does Tryz.prog 62 [.d (.v (.int .u8 b.toNat))] (.d (.v (.bool (letterB b)))) 0 := by
 refine Does.of_W (n := 30) (ts := [2]) Tryz.func62 (by kernel_rfl) rfl Tryz.ntmps62 Tryz.results62 rfl rfl fun C hC hG => ?_
 refine W.seq (W.region ?_)
 refine pE rfl ?_
 refine WO.nil (qs (W.seq ?_))
 apply regionB; (case hb => rfl)
 ·
  iterate 3 refine pE rfl ?_
  apply splitJ; (case hj => rfl); (case hl => rfl)
  ·
   refine goG rfl rfl ?_
   refine pE rfl ?_
   refine goG rfl rfl ?_
   iterate 3 refine pE rfl ?_
   apply splitJ; (case hj => rfl); (case hl => rfl)
   ·
    iterate 3 refine skipT rfl rfl rfl rfl ?_
    iterate 2 refine skipU rfl rfl rfl ?_
    refine skipT rfl rfl rfl rfl ?_
    iterate 2 refine pE rfl ?_
    iterate 3 refine skipT rfl rfl rfl rfl ?_
    iterate 2 refine skipU rfl rfl rfl ?_
    refine skipT rfl rfl rfl rfl ?_
    iterate 2 refine pE rfl ?_
    iterate 3 refine skipT rfl rfl rfl rfl ?_
    iterate 2 refine pE rfl ?_
    refine WO.nil ?_
    refine qv1 rfl rfl rfl
   ·
    refine goG rfl rfl ?_
    refine pE rfl ?_
    refine goG rfl rfl ?_
    refine pE rfl ?_
    refine goG rfl rfl ?_
    refine pE rfl ?_
    apply splitJ; (case hj => rfl); (case hl => rfl)
    ·
     refine goG rfl rfl ?_
     refine pE rfl ?_
     refine goG rfl rfl ?_
     refine pE rfl ?_
     refine goG rfl rfl ?_
     iterate 3 refine pE rfl ?_
     apply splitJ; (case hj => rfl); (case hl => rfl)
     ·
      iterate 3 refine skipT rfl rfl rfl rfl ?_
      iterate 2 refine skipU rfl rfl rfl ?_
      refine skipT rfl rfl rfl rfl ?_
      iterate 2 refine pE rfl ?_
      iterate 3 refine skipT rfl rfl rfl rfl ?_
      iterate 2 refine pE rfl ?_
      refine WO.nil ?_
      refine qv1 rfl rfl rfl
     ·
      refine goG rfl rfl ?_
      refine pE rfl ?_
      refine goG rfl rfl ?_
      refine pE rfl ?_
      refine goG rfl rfl ?_
      refine pE rfl ?_
      apply splitJ; (case hj => rfl); (case hl => rfl)
      ·
       refine goG rfl rfl ?_
       refine pE rfl ?_
       refine goG rfl rfl ?_
       refine pE rfl ?_
       refine goG rfl rfl ?_
       iterate 3 refine pE rfl ?_
       apply splitJ; (case hj => rfl); (case hl => rfl)
       ·
        iterate 3 refine skipT rfl rfl rfl rfl ?_
        iterate 2 refine pE rfl ?_
        refine WO.nil ?_
        refine qv1 rfl rfl rfl
       ·
        refine goG rfl rfl ?_
        refine pE rfl ?_
        refine goG rfl rfl ?_
        refine pu (puCall rfl rfl rfl (sixb_fn ..) rfl) rfl ?_
        refine goG rfl rfl ?_
        iterate 3 refine pE rfl ?_
        refine WO.nil ?_
        refine qv1 rfl rfl rfl
      ·
       iterate 2 refine skipT rfl rfl rfl rfl ?_
       refine goG rfl rfl ?_
       iterate 3 refine pE rfl ?_
       refine goG rfl rfl ?_
       refine pE rfl ?_
       refine goG rfl rfl ?_
       refine pu (puCall rfl rfl rfl (sixb_fn ..) rfl) rfl ?_
       refine goG rfl rfl ?_
       iterate 3 refine pE rfl ?_
       refine WO.nil ?_
       refine qv1 rfl rfl rfl
    ·
     iterate 2 refine skipT rfl rfl rfl rfl ?_
     refine goG rfl rfl ?_
     iterate 3 refine pE rfl ?_
     refine goG rfl rfl ?_
     refine pE rfl ?_
     refine goG rfl rfl ?_
     refine pE rfl ?_
     refine goG rfl rfl ?_
     refine pE rfl ?_
     apply splitJ; (case hj => rfl); (case hl => rfl)
     ·
      refine goG rfl rfl ?_
      refine pE rfl ?_
      refine goG rfl rfl ?_
      refine pE rfl ?_
      refine goG rfl rfl ?_
      iterate 3 refine pE rfl ?_
      apply splitJ; (case hj => rfl); (case hl => rfl)
      ·
       iterate 3 refine skipT rfl rfl rfl rfl ?_
       iterate 2 refine pE rfl ?_
       refine WO.nil ?_
       refine qv1 rfl rfl rfl
      ·
       refine goG rfl rfl ?_
       refine pE rfl ?_
       refine goG rfl rfl ?_
       refine pu (puCall rfl rfl rfl (sixb_fn ..) rfl) rfl ?_
       refine goG rfl rfl ?_
       iterate 3 refine pE rfl ?_
       refine WO.nil ?_
       refine qv1 rfl rfl rfl
     ·
      iterate 2 refine skipT rfl rfl rfl rfl ?_
      refine goG rfl rfl ?_
      iterate 3 refine pE rfl ?_
      refine goG rfl rfl ?_
      refine pE rfl ?_
      refine goG rfl rfl ?_
      refine pu (puCall rfl rfl rfl (sixb_fn ..) rfl) rfl ?_
      refine goG rfl rfl ?_
      iterate 3 refine pE rfl ?_
      refine WO.nil ?_
      refine qv1 rfl rfl rfl
  ·
   iterate 2 refine skipT rfl rfl rfl rfl ?_
   iterate 2 refine pE rfl ?_
   refine goG rfl rfl ?_
   refine pE rfl ?_
   refine goG rfl rfl ?_
   refine pE rfl ?_
   refine goG rfl rfl ?_
   refine pE rfl ?_
   apply splitJ; (case hj => rfl); (case hl => rfl)
   ·
    refine goG rfl rfl ?_
    refine pE rfl ?_
    refine goG rfl rfl ?_
    refine pE rfl ?_
    refine goG rfl rfl ?_
    iterate 3 refine pE rfl ?_
    apply splitJ; (case hj => rfl); (case hl => rfl)
    ·
     iterate 3 refine skipT rfl rfl rfl rfl ?_
     iterate 2 refine skipU rfl rfl rfl ?_
     refine skipT rfl rfl rfl rfl ?_
     iterate 2 refine pE rfl ?_
     iterate 3 refine skipT rfl rfl rfl rfl ?_
     iterate 2 refine pE rfl ?_
     refine WO.nil ?_
     refine qv1 rfl rfl rfl
    ·
     refine goG rfl rfl ?_
     refine pE rfl ?_
     refine goG rfl rfl ?_
     refine pE rfl ?_
     refine goG rfl rfl ?_
     refine pE rfl ?_
     apply splitJ; (case hj => rfl); (case hl => rfl)
     ·
      refine goG rfl rfl ?_
      refine pE rfl ?_
      refine goG rfl rfl ?_
      refine pE rfl ?_
      refine goG rfl rfl ?_
      iterate 3 refine pE rfl ?_
      apply splitJ; (case hj => rfl); (case hl => rfl)
      ·
       iterate 3 refine skipT rfl rfl rfl rfl ?_
       iterate 2 refine pE rfl ?_
       refine WO.nil ?_
       refine qv1 rfl rfl rfl
      ·
       refine goG rfl rfl ?_
       refine pE rfl ?_
       refine goG rfl rfl ?_
       refine pu (puCall rfl rfl rfl (sixb_fn ..) rfl) rfl ?_
       refine goG rfl rfl ?_
       iterate 3 refine pE rfl ?_
       refine WO.nil ?_
       refine qv1 rfl rfl rfl
     ·
      iterate 2 refine skipT rfl rfl rfl rfl ?_
      refine goG rfl rfl ?_
      iterate 3 refine pE rfl ?_
      refine goG rfl rfl ?_
      refine pE rfl ?_
      refine goG rfl rfl ?_
      refine pu (puCall rfl rfl rfl (sixb_fn ..) rfl) rfl ?_
      refine goG rfl rfl ?_
      iterate 3 refine pE rfl ?_
      refine WO.nil ?_
      refine qv1 rfl rfl rfl
   ·
    iterate 2 refine skipT rfl rfl rfl rfl ?_
    refine goG rfl rfl ?_
    iterate 3 refine pE rfl ?_
    refine goG rfl rfl ?_
    refine pE rfl ?_
    refine goG rfl rfl ?_
    refine pE rfl ?_
    refine goG rfl rfl ?_
    refine pE rfl ?_
    apply splitJ; (case hj => rfl); (case hl => rfl)
    ·
     refine goG rfl rfl ?_
     refine pE rfl ?_
     refine goG rfl rfl ?_
     refine pE rfl ?_
     refine goG rfl rfl ?_
     iterate 3 refine pE rfl ?_
     apply splitJ; (case hj => rfl); (case hl => rfl)
     ·
      iterate 3 refine skipT rfl rfl rfl rfl ?_
      iterate 2 refine pE rfl ?_
      refine WO.nil ?_
      refine qv1 rfl rfl rfl
     ·
      refine goG rfl rfl ?_
      refine pE rfl ?_
      refine goG rfl rfl ?_
      refine pu (puCall rfl rfl rfl (sixb_fn ..) rfl) rfl ?_
      refine goG rfl rfl ?_
      iterate 3 refine pE rfl ?_
      refine WO.nil ?_
      refine qv1 rfl rfl rfl
    ·
     iterate 2 refine skipT rfl rfl rfl rfl ?_
     refine goG rfl rfl ?_
     iterate 3 refine pE rfl ?_
     refine goG rfl rfl ?_
     refine pE rfl ?_
     refine goG rfl rfl ?_
     refine pu (puCall rfl rfl rfl (sixb_fn ..) rfl) rfl ?_
     refine goG rfl rfl ?_
     iterate 3 refine pE rfl ?_
     refine WO.nil ?_
     refine qv1 rfl rfl rfl
 refine qs (W.ret ?_)
 refine QF.ret0 trivial rfl ?_
 simp only [norm, oneA]; rw [indexByte_any]; simp only [letterB, lower, marks]; simp [bys]; grind
theorem name_fn (s : ByteArray) : Does Tryz.prog 46 [.d (.v (.string s))] (.d (.v (.int .i64 (nameErr s)))) 0 := by
 refine Does.of_W (n := 22) (ts := [2]) Tryz.func46 (by kernel_rfl) rfl Tryz.ntmps46 Tryz.results46 rfl rfl fun C hC hG => ?_
 refine W.seq (W.region ?_)
 refine pE rfl ?_
 refine WO.nil (qs ?_)
 iterate 2 refine W.seq ?_
 apply regionB; (case hb => rfl)
 ·
  iterate 3 refine pE rfl ?_
  apply splitJ; (case hj => rfl); (case hl => rfl)
  ·
   iterate 3 refine skipT rfl rfl rfl rfl ?_
   refine pE rfl ?_
   refine WO.nil ?_
   refine qv1 rfl rfl rfl
  ·
   refine goG rfl rfl ?_
   refine pE rfl ?_
   refine goG rfl rfl ?_
   refine pE rfl ?_
   refine goG rfl rfl ?_
   iterate 2 refine pE rfl ?_
   refine WO.nil ?_
   refine qv1 rfl rfl rfl
 refine qs ?_
 refine condK rfl (fun h10 => ?_) (fun h10 => ?_)
 ·
  refine W.seq (W.region ?_)
  refine pE rfl ?_
  refine WO.nil (qs (W.ret (qsRet ?_)))
  refine QF.ret0 trivial rfl ?_
  simp only [norm, oneA]; grind [nameErr, empty_bytes]
 ·
  refine W.skip (qs ?_)
  iterate 2 refine W.seq ?_
  refine W.region ?_
  iterate 3 refine pE rfl ?_
  refine WO.nil (qs (W.block ?_))
  refine W.inRange (t := 0) rfl (fun hok => ?_)
  have hlen := okc_size hok
  refine W.loopR (ι := {x : Nat // match x with | k => k ≤ (bys s).length ∧ ((bys s).drop k).all letterB = (bys s).all letterB})
   (fun x => match x.1 with | k => [(13, .d (.v (.int .i64 ((k : Nat) : Int))))]) [(0, _), (12, _)]
   (fun x => match x.1 with | k => []) [] [] 0 (fun x => match x.1 with | k => (bys s).length - k)
   [] ⟨0, ?_⟩ rfl ?_ ⟨rfl, rfl, rfl, rfl, trivial⟩ ?_ trivial rfl ?_
  · first | exact ⟨Nat.zero_le _, rfl⟩ | exact trivial | simp
  · repeat' first | exact trivial | refine ⟨rfl, ?_⟩ | refine ⟨congrArg some (renL_boxE _ _ _), ?_⟩ | refine ⟨step_nat (by assumption) (by assumption), ?_⟩
  · repeat' first | exact trivial | refine ⟨rfl, ?_⟩ | refine ⟨congrArg some (renL_boxE _ _ _), ?_⟩ | refine ⟨step_nat (by assumption) (by assumption), ?_⟩
  rintro ⟨k, hk, hI⟩
  show W _ _ _ _ _ ⟨[(13, .d (.v (.int .i64 ((k : Nat) : Int)))), (0, _), (12, _)], [], [], 0⟩
  refine W.seq (W.region ?_)
  refine pE rfl ?_
  refine WO.nil (qs (W.seq ?_))
  refine eachR (l := bys s) (k := k) rfl (by simp [Ex.kc_len, bytes_len]) hk (fun b hx hd hlt => ?_) (fun he hd => ?_)
  ·
   rw [hd, List.all_cons] at hI
   refine W.skip (qs (W.seq (W.block (W.seq (W.region ?_)))))
   iterate 2 refine pE rfl ?_
   refine WO.nil (qs (W.seq (W.region ?_)))
   iterate 2 refine pE rfl ?_
   refine pu (indexStr tab rfl rfl rfl rfl (Int.natCast_nonneg _) (byteList (by assumption))) rfl ?_
   refine pu (puCall rfl rfl rfl (letter_fn ..) rfl) rfl ?_
   refine pE rfl ?_
   refine WO.nil (qs ?_)
   refine condK rfl (fun h20 => ?_) (fun h20 => ?_)
   ·
    refine W.seq (W.region ?_)
    refine pE rfl ?_
    refine WO.nil (qs (W.ret (qbRet (qsRet (qlRet (qbRet (qsRet ?_)))))))
    refine QF.ret0 trivial rfl ?_
    simp only [norm, oneA]; grind [nameErr, empty_bytes]
   ·
    refine W.skip (qbN (qs (W.region ?_)))
    iterate 2 refine pE rfl ?_
    refine WO.nil ?_
    refine W.endR [] ⟨k + 1, ?_⟩ ?_ rfl ?_ ⟨rfl, rfl, rfl, rfl, trivial⟩ ?_ trivial rfl
    · exact ⟨hlt, by rw [← hI]; simp_all⟩
    · dsimp only; omega
    · repeat' first | exact trivial | refine ⟨rfl, ?_⟩ | refine ⟨congrArg some (renL_boxE _ _ _), ?_⟩ | refine ⟨step_nat (by assumption) (by assumption), ?_⟩
    · repeat' first | exact trivial | refine ⟨rfl, ?_⟩ | refine ⟨congrArg some (renL_boxE _ _ _), ?_⟩ | refine ⟨step_nat (by assumption) (by assumption), ?_⟩
  ·
   rw [hd] at hI
   refine W.exit (qsExit (qlExit (qbExit (qs (W.seq (W.region ?_))))))
   refine pE rfl ?_
   refine WO.nil (qs (W.ret ?_))
   refine QF.ret0 trivial rfl ?_
   simp only [norm, oneA]; grind [nameErr, empty_bytes]
end Go.Proofs.YtmhnnodofahpdaaGreatDoor
namespace Go.Proofs
open Go.Shelf
def Tryz.lays169_ren : Go.Shelf.Ren := ⟨fun | 169 => 32 | n => n, fun | 70 => 55 | 9 => 9 | 0 => 0 | 72 => 58 | 37 => 56 | 127 => 77 | 3 => 3 | 5 => 5 | n => n, fun | n => n⟩
theorem Tryz.lays169 : Go.Proofs.Lays.n169 Tryz.prog Tryz.lays169_ren := {
 mixed := by kernel_rfl
 f169 := Tryz.func32.trans (congrArg some (by kernel_rfl))
 t0 := Tryz.underlying0
 a0 := Tryz.isAgg0
 z0 := Tryz.sizeOf0
 v0 := Tryz.zeroValue0
 t3 := Tryz.underlying3
 a3 := Tryz.isAgg3
 z3 := Tryz.sizeOf3
 v3 := Tryz.zeroValue3
 t9 := Tryz.underlying9
 a9 := Tryz.isAgg9
 z9 := Tryz.sizeOf9
 v9 := Tryz.zeroValue9
 t37 := Tryz.underlying56
 a37 := Tryz.isAgg56
 z37 := Tryz.sizeOf56
 v37 := Tryz.zeroValue56
 t70 := Tryz.underlying55
 a70 := Tryz.isAgg55
 z70 := Tryz.sizeOf55
 v70 := Tryz.zeroValue55
 t72 := Tryz.underlying58
 a72 := Tryz.isAgg58
 z72 := Tryz.sizeOf58
 v72 := Tryz.zeroValue58
 t127 := Tryz.underlying77
 a127 := Tryz.isAgg77
 z127 := Tryz.sizeOf77
 v127 := Tryz.zeroValue77 }
theorem Tryz.Builder_Extra_169 : Builder.Extra Tryz.prog Tryz.lays169_ren := {
 sizeBuilder := by kernel_rfl
 liesBuilder := by kernel_rfl
 t5 := Tryz.underlying5
 a5 := Tryz.isAgg5
 z5 := Tryz.sizeOf5
 v5 := Tryz.zeroValue5
 infoByte := by kernel_rfl
 cellsByte := by kernel_rfl
 sizeByte := by kernel_rfl
 neB5 := by decide }
open Go.RowKit in
theorem Tryz.Builder_String_any (B b : Nat) (l : List UInt8) (w : World) (h : Lib.IsBuilder 58 5 B b (Lib.byteCells l) w) (hBw : B ≤ w.heap.size) :
  Calls Tryz.prog 32 #[.pointer (some ⟨b, 0, none⟩)] w fun e w' => e = .returned (.string ⟨l.toArray⟩) ∧ Below B w w' := Any.Builder_String_any Tryz.lays169 Tryz.Builder_Extra_169 B b l w h hBw
def Tryz.lays156_ren : Go.Shelf.Ren := ⟨fun | 156 => 25 | 165 => 47 | 166 => 30 | 169 => 32 | 240 => 52 | 241 => 63 | 276 => 68 | 277 => 78 | n => n, fun | 31 => 35 | 9 => 9 | 3 => 3 | 4 => 4 | 0 => 0 | 20 => 20 | 72 => 58 | 76 => 61 | 70 => 55 | 37 => 56 | 75 => 60 | 127 => 77 | 164 => 84 | 5 => 5 | 80 => 64 | n => n, fun | n => n⟩
theorem Tryz.lays156 : Go.Proofs.Lays.n156 Tryz.prog Tryz.lays156_ren := {
 mixed := by kernel_rfl
 f156 := Tryz.func25.trans (congrArg some (by kernel_rfl))
 f165 := Tryz.func47.trans (congrArg some (by kernel_rfl))
 f166 := Tryz.func30.trans (congrArg some (by kernel_rfl))
 f169 := Tryz.func32.trans (congrArg some (by kernel_rfl))
 f240 := Tryz.func52.trans (congrArg some (by kernel_rfl))
 f241 := Tryz.func63.trans (congrArg some (by kernel_rfl))
 f276 := Tryz.func68.trans (congrArg some (by kernel_rfl))
 f277 := Tryz.func78.trans (congrArg some (by kernel_rfl))
 t0 := Tryz.underlying0
 a0 := Tryz.isAgg0
 z0 := Tryz.sizeOf0
 v0 := Tryz.zeroValue0
 t3 := Tryz.underlying3
 a3 := Tryz.isAgg3
 z3 := Tryz.sizeOf3
 v3 := Tryz.zeroValue3
 t4 := Tryz.underlying4
 a4 := Tryz.isAgg4
 z4 := Tryz.sizeOf4
 v4 := Tryz.zeroValue4
 t9 := Tryz.underlying9
 a9 := Tryz.isAgg9
 z9 := Tryz.sizeOf9
 v9 := Tryz.zeroValue9
 t20 := Tryz.underlying20
 a20 := Tryz.isAgg20
 z20 := Tryz.sizeOf20
 v20 := Tryz.zeroValue20
 t31 := Tryz.underlying35
 a31 := Tryz.isAgg35
 z31 := Tryz.sizeOf35
 v31 := Tryz.zeroValue35
 t37 := Tryz.underlying56
 a37 := Tryz.isAgg56
 z37 := Tryz.sizeOf56
 v37 := Tryz.zeroValue56
 t70 := Tryz.underlying55
 a70 := Tryz.isAgg55
 z70 := Tryz.sizeOf55
 v70 := Tryz.zeroValue55
 t72 := Tryz.underlying58
 a72 := Tryz.isAgg58
 z72 := Tryz.sizeOf58
 v72 := Tryz.zeroValue58
 t75 := Tryz.underlying60
 a75 := Tryz.isAgg60
 z75 := Tryz.sizeOf60
 v75 := Tryz.zeroValue60
 t76 := Tryz.underlying61
 a76 := Tryz.isAgg61
 z76 := Tryz.sizeOf61
 v76 := Tryz.zeroValue61
 t127 := Tryz.underlying77
 a127 := Tryz.isAgg77
 z127 := Tryz.sizeOf77
 v127 := Tryz.zeroValue77
 t164 := Tryz.underlying84
 a164 := Tryz.isAgg84
 z164 := Tryz.sizeOf84
 v164 := Tryz.zeroValue84 }
theorem Tryz.Builder_Extra_156 : Builder.Extra Tryz.prog Tryz.lays156_ren := {
 sizeBuilder := by kernel_rfl
 liesBuilder := by kernel_rfl
 t5 := Tryz.underlying5
 a5 := Tryz.isAgg5
 z5 := Tryz.sizeOf5
 v5 := Tryz.zeroValue5
 infoByte := by kernel_rfl
 cellsByte := by kernel_rfl
 sizeByte := by kernel_rfl
 neB5 := by decide }
open Go.RowKit in
theorem Tryz.strings_Join_none (a : Option Addr) (c : Nat) (sep : ByteArray) (w : World) :
  Calls Tryz.prog 25 #[.slice a 0 c, .string sep] w fun e w' => e = .returned (.string ⟨#[]⟩) ∧ w' = w := Any.strings_Join_none Tryz.lays156 Tryz.Builder_Extra_156 a c sep w
open Go.RowKit in
theorem Tryz.strings_Join (bk o c : Nat) (xs : List ByteArray) (sep : ByteArray) (w : World) (hcells : ∀ (j : Nat) x, xs[j]? = some x → w.cell? ⟨bk, o + j, none⟩ = some (.string x)) (hbk : bk < w.heap.size) (hN : xs.length ≤ 140737488355328) (hcap : xs.length ≤ c) (hlen : (Lib.join (xs.map (·.data.toList)) sep.data.toList).length ≤ 140737488355328) :
  Calls Tryz.prog 25 #[.slice (some ⟨bk, o, none⟩) xs.length c, .string sep] w fun e w' => e = .returned (.string ⟨(Lib.join (xs.map (·.data.toList)) sep.data.toList).toArray⟩) ∧ Below w.heap.size w w' := Any.strings_Join Tryz.lays156 Tryz.Builder_Extra_156 bk o c xs sep w hcells hbk hN hcap hlen
def Tryz.laysM171_ren : Go.Shelf.Ren := ⟨fun | 171 => 53 | 243 => 69 | 246 => 89 | 283 => 105 | 284 => 106 | 285 => 107 | 286 => 108 | 129 => 88 | 317 => 115 | 318 => 116 | 319 => 117 | 320 => 118 | 337 => 121 | 338 => 122 | n => n, fun | 3 => 3 | 9 => 9 | 2 => 2 | 4 => 4 | 171 => 116 | 0 => 0 | 53 => 101 | 37 => 56 | 5 => 5 | 173 => 118 | 212 => 136 | 51 => 99 | 20 => 20 | 213 => 137 | 46 => 68 | 232 => 142 | 233 => 143 | n => n, fun | 17 => 5 | 18 => 6 | 19 => 7 | n => n⟩
theorem Tryz.laysM171 : Go.Proofs.LaysM.n171 Tryz.prog Tryz.laysM171_ren := {
 mixed := by kernel_rfl
 f129 := Tryz.func88.trans (congrArg some (by kernel_rfl))
 f171 := Tryz.func53.trans (congrArg some (by kernel_rfl))
 f243 := Tryz.func69.trans (congrArg some (by kernel_rfl))
 f246 := Tryz.func89.trans (congrArg some (by kernel_rfl))
 f283 := Tryz.func105.trans (congrArg some (by kernel_rfl))
 f284 := Tryz.func106.trans (congrArg some (by kernel_rfl))
 f285 := Tryz.func107.trans (congrArg some (by kernel_rfl))
 f286 := Tryz.func108.trans (congrArg some (by kernel_rfl))
 f317 := Tryz.func115.trans (congrArg some (by kernel_rfl))
 f318 := Tryz.func116.trans (congrArg some (by kernel_rfl))
 f319 := Tryz.func117.trans (congrArg some (by kernel_rfl))
 f320 := Tryz.func118.trans (congrArg some (by kernel_rfl))
 f337 := Tryz.func121.trans (congrArg some (by kernel_rfl))
 f338 := Tryz.func122.trans (congrArg some (by kernel_rfl))
 t0 := Tryz.underlying0
 a0 := Tryz.isAgg0
 z0 := Tryz.sizeOf0
 v0 := Tryz.zeroValue0
 t2 := Tryz.underlying2
 a2 := Tryz.isAgg2
 z2 := Tryz.sizeOf2
 v2 := Tryz.zeroValue2
 t3 := Tryz.underlying3
 a3 := Tryz.isAgg3
 z3 := Tryz.sizeOf3
 v3 := Tryz.zeroValue3
 t4 := Tryz.underlying4
 a4 := Tryz.isAgg4
 z4 := Tryz.sizeOf4
 v4 := Tryz.zeroValue4
 t5 := Tryz.underlying5
 a5 := Tryz.isAgg5
 z5 := Tryz.sizeOf5
 v5 := Tryz.zeroValue5
 t9 := Tryz.underlying9
 a9 := Tryz.isAgg9
 z9 := Tryz.sizeOf9
 v9 := Tryz.zeroValue9
 t20 := Tryz.underlying20
 a20 := Tryz.isAgg20
 z20 := Tryz.sizeOf20
 v20 := Tryz.zeroValue20
 t37 := Tryz.underlying56
 a37 := Tryz.isAgg56
 z37 := Tryz.sizeOf56
 v37 := Tryz.zeroValue56
 t46 := Tryz.underlying68
 a46 := Tryz.isAgg68
 z46 := Tryz.sizeOf68
 v46 := Tryz.zeroValue68
 t51 := Tryz.underlying99
 a51 := Tryz.isAgg99
 z51 := Tryz.sizeOf99
 v51 := Tryz.zeroValue99
 t53 := Tryz.underlying101
 a53 := Tryz.isAgg101
 z53 := Tryz.sizeOf101
 v53 := Tryz.zeroValue101
 t171 := Tryz.underlying116
 a171 := Tryz.isAgg116
 z171 := Tryz.sizeOf116
 v171 := Tryz.zeroValue116
 t173 := Tryz.underlying118
 a173 := Tryz.isAgg118
 z173 := Tryz.sizeOf118
 v173 := Tryz.zeroValue118
 t212 := Tryz.underlying136
 a212 := Tryz.isAgg136
 z212 := Tryz.sizeOf136
 v212 := Tryz.zeroValue136
 t213 := Tryz.underlying137
 a213 := Tryz.isAgg137
 z213 := Tryz.sizeOf137
 t232 := Tryz.underlying142
 a232 := Tryz.isAgg142
 z232 := Tryz.sizeOf142
 v232 := Tryz.zeroValue142
 t233 := Tryz.underlying143
 a233 := Tryz.isAgg143
 z233 := Tryz.sizeOf143
 v233 := Tryz.zeroValue143
 g17 := by kernel_rfl
 g18 := by kernel_rfl
 g19 := by kernel_rfl
 i0 := by kernel_rfl
 i2 := by kernel_rfl
 i3 := by kernel_rfl
 i4 := by kernel_rfl
 i5 := by kernel_rfl
 i9 := by kernel_rfl
 i20 := by kernel_rfl
 i37 := by kernel_rfl
 i46 := by kernel_rfl
 i51 := by kernel_rfl
 i53 := by kernel_rfl
 i171 := by kernel_rfl
 i173 := by kernel_rfl
 i212 := by kernel_rfl
 i232 := by kernel_rfl
 i233 := by kernel_rfl
 m17 := by kernel_rfl
 m18 := by kernel_rfl
 m19 := by kernel_rfl }
open Go.RowKit Go.Sort Go.Lib in
theorem Tryz.strconv_Itoa (n : Int) (h0 : -9223372036854775808 ≤ n) (h1 : n ≤ 9223372036854775807) (w : World) (htab : Lib.TabIs Tryz.prog w "internal/strconv.uint64pow10" .u64 Lib.pow10Tab) :
  Calls Tryz.prog 53 #[.int .i64 n] w fun e w' => e = .returned (.string ⟨(Lib.itoa n).toArray⟩) ∧ ∃ k os, w' = grow (w.drewN k) os := Any.strconv_Itoa Tryz.laysM171 n h0 h1 w htab
def Tryz.laysC172_ren : Go.Shelf.Ren := ⟨fun | 172 => 60 | 244 => 75 | 245 => 76 | 247 => 95 | 279 => 96 | 280 => 97 | 281 => 98 | 282 => 99 | 287 => 111 | 316 => 112 | 171 => 53 | 205 => 113 | 321 => 119 | 322 => 120 | 243 => 69 | 246 => 89 | 283 => 105 | 284 => 106 | 285 => 107 | 286 => 108 | 129 => 88 | 317 => 115 | 318 => 116 | 319 => 117 | 320 => 118 | 337 => 121 | 338 => 122 | n => n, fun | 9 => 9 | 3 => 3 | 75 => 60 | 76 => 61 | 4 => 4 | 5 => 5 | 167 => 104 | 37 => 56 | 0 => 0 | 85 => 105 | 2 => 2 | 168 => 107 | 53 => 101 | 175 => 126 | 46 => 68 | 210 => 130 | 127 => 77 | 145 => 141 | 143 => 139 | 21 => 21 | 171 => 116 | 173 => 118 | 212 => 136 | 51 => 99 | 20 => 20 | 213 => 137 | 232 => 142 | 233 => 143 | 80 => 64 | n => n, fun | 15 => 3 | 16 => 4 | 17 => 5 | 18 => 6 | 19 => 7 | n => n⟩
theorem Tryz.laysC172 : Go.Proofs.LaysC.n172 Tryz.prog Tryz.laysC172_ren := {
 mixed := by kernel_rfl
 f129 := Tryz.func88.trans (congrArg some (by kernel_rfl))
 f171 := Tryz.func53.trans (congrArg some (by kernel_rfl))
 f172 := Tryz.func60.trans (congrArg some (by kernel_rfl))
 f205 := Tryz.func113.trans (congrArg some (by kernel_rfl))
 f243 := Tryz.func69.trans (congrArg some (by kernel_rfl))
 f244 := Tryz.func75.trans (congrArg some (by kernel_rfl))
 f245 := Tryz.func76.trans (congrArg some (by kernel_rfl))
 f246 := Tryz.func89.trans (congrArg some (by kernel_rfl))
 f247 := Tryz.func95.trans (congrArg some (by kernel_rfl))
 f279 := Tryz.func96.trans (congrArg some (by kernel_rfl))
 f280 := Tryz.func97.trans (congrArg some (by kernel_rfl))
 f281 := Tryz.func98.trans (congrArg some (by kernel_rfl))
 f282 := Tryz.func99.trans (congrArg some (by kernel_rfl))
 f283 := Tryz.func105.trans (congrArg some (by kernel_rfl))
 f284 := Tryz.func106.trans (congrArg some (by kernel_rfl))
 f285 := Tryz.func107.trans (congrArg some (by kernel_rfl))
 f286 := Tryz.func108.trans (congrArg some (by kernel_rfl))
 f287 := Tryz.func111.trans (congrArg some (by kernel_rfl))
 f316 := Tryz.func112.trans (congrArg some (by kernel_rfl))
 f317 := Tryz.func115.trans (congrArg some (by kernel_rfl))
 f318 := Tryz.func116.trans (congrArg some (by kernel_rfl))
 f319 := Tryz.func117.trans (congrArg some (by kernel_rfl))
 f320 := Tryz.func118.trans (congrArg some (by kernel_rfl))
 f321 := Tryz.func119.trans (congrArg some (by kernel_rfl))
 f322 := Tryz.func120.trans (congrArg some (by kernel_rfl))
 f337 := Tryz.func121.trans (congrArg some (by kernel_rfl))
 f338 := Tryz.func122.trans (congrArg some (by kernel_rfl))
 t0 := Tryz.underlying0
 a0 := Tryz.isAgg0
 z0 := Tryz.sizeOf0
 v0 := Tryz.zeroValue0
 t2 := Tryz.underlying2
 a2 := Tryz.isAgg2
 z2 := Tryz.sizeOf2
 v2 := Tryz.zeroValue2
 t3 := Tryz.underlying3
 a3 := Tryz.isAgg3
 z3 := Tryz.sizeOf3
 v3 := Tryz.zeroValue3
 t4 := Tryz.underlying4
 a4 := Tryz.isAgg4
 z4 := Tryz.sizeOf4
 v4 := Tryz.zeroValue4
 t5 := Tryz.underlying5
 a5 := Tryz.isAgg5
 z5 := Tryz.sizeOf5
 v5 := Tryz.zeroValue5
 t9 := Tryz.underlying9
 a9 := Tryz.isAgg9
 z9 := Tryz.sizeOf9
 v9 := Tryz.zeroValue9
 t20 := Tryz.underlying20
 a20 := Tryz.isAgg20
 z20 := Tryz.sizeOf20
 v20 := Tryz.zeroValue20
 t21 := Tryz.underlying21
 a21 := Tryz.isAgg21
 z21 := Tryz.sizeOf21
 v21 := Tryz.zeroValue21
 t37 := Tryz.underlying56
 a37 := Tryz.isAgg56
 z37 := Tryz.sizeOf56
 v37 := Tryz.zeroValue56
 t46 := Tryz.underlying68
 a46 := Tryz.isAgg68
 z46 := Tryz.sizeOf68
 v46 := Tryz.zeroValue68
 t51 := Tryz.underlying99
 a51 := Tryz.isAgg99
 z51 := Tryz.sizeOf99
 v51 := Tryz.zeroValue99
 t53 := Tryz.underlying101
 a53 := Tryz.isAgg101
 z53 := Tryz.sizeOf101
 v53 := Tryz.zeroValue101
 t75 := Tryz.underlying60
 a75 := Tryz.isAgg60
 z75 := Tryz.sizeOf60
 v75 := Tryz.zeroValue60
 t76 := Tryz.underlying61
 a76 := Tryz.isAgg61
 z76 := Tryz.sizeOf61
 v76 := Tryz.zeroValue61
 t85 := Tryz.underlying105
 a85 := Tryz.isAgg105
 z85 := Tryz.sizeOf105
 v85 := Tryz.zeroValue105
 t127 := Tryz.underlying77
 a127 := Tryz.isAgg77
 z127 := Tryz.sizeOf77
 v127 := Tryz.zeroValue77
 t143 := Tryz.underlying139
 a143 := Tryz.isAgg139
 z143 := Tryz.sizeOf139
 v143 := Tryz.zeroValue139
 t145 := Tryz.underlying141
 a145 := Tryz.isAgg141
 z145 := Tryz.sizeOf141
 v145 := Tryz.zeroValue141
 t167 := Tryz.underlying104
 a167 := Tryz.isAgg104
 z167 := Tryz.sizeOf104
 v167 := Tryz.zeroValue104
 t168 := Tryz.underlying107
 a168 := Tryz.isAgg107
 z168 := Tryz.sizeOf107
 v168 := Tryz.zeroValue107
 t171 := Tryz.underlying116
 a171 := Tryz.isAgg116
 z171 := Tryz.sizeOf116
 v171 := Tryz.zeroValue116
 t173 := Tryz.underlying118
 a173 := Tryz.isAgg118
 z173 := Tryz.sizeOf118
 v173 := Tryz.zeroValue118
 t175 := Tryz.underlying126
 a175 := Tryz.isAgg126
 z175 := Tryz.sizeOf126
 v175 := Tryz.zeroValue126
 t210 := Tryz.underlying130
 a210 := Tryz.isAgg130
 z210 := Tryz.sizeOf130
 v210 := Tryz.zeroValue130
 t212 := Tryz.underlying136
 a212 := Tryz.isAgg136
 z212 := Tryz.sizeOf136
 v212 := Tryz.zeroValue136
 t213 := Tryz.underlying137
 a213 := Tryz.isAgg137
 z213 := Tryz.sizeOf137
 t232 := Tryz.underlying142
 a232 := Tryz.isAgg142
 z232 := Tryz.sizeOf142
 v232 := Tryz.zeroValue142
 t233 := Tryz.underlying143
 a233 := Tryz.isAgg143
 z233 := Tryz.sizeOf143
 v233 := Tryz.zeroValue143
 g15 := by kernel_rfl
 g16 := by kernel_rfl
 g17 := by kernel_rfl
 g18 := by kernel_rfl
 g19 := by kernel_rfl
 t80 := Tryz.underlying64
 a80 := Tryz.isAgg64
 z80 := Tryz.sizeOf64
 v80 := Tryz.zeroValue64
 i0 := by kernel_rfl
 i2 := by kernel_rfl
 i3 := by kernel_rfl
 i4 := by kernel_rfl
 i5 := by kernel_rfl
 i9 := by kernel_rfl
 i20 := by kernel_rfl
 i21 := by kernel_rfl
 i37 := by kernel_rfl
 i46 := by kernel_rfl
 i51 := by kernel_rfl
 i53 := by kernel_rfl
 i75 := by kernel_rfl
 i76 := by kernel_rfl
 i80 := by kernel_rfl
 i85 := by kernel_rfl
 i127 := by kernel_rfl
 i143 := by kernel_rfl
 i145 := by kernel_rfl
 i167 := by kernel_rfl
 i168 := by kernel_rfl
 i171 := by kernel_rfl
 i173 := by kernel_rfl
 i175 := by kernel_rfl
 i210 := by kernel_rfl
 i212 := by kernel_rfl
 i232 := by kernel_rfl
 i233 := by kernel_rfl
 m15 := by kernel_rfl
 m16 := by kernel_rfl
 m17 := by kernel_rfl
 m18 := by kernel_rfl
 m19 := by kernel_rfl
 c0 := by kernel_rfl
 c2 := by kernel_rfl
 c3 := by kernel_rfl
 c4 := by kernel_rfl
 c5 := by kernel_rfl
 c9 := by kernel_rfl
 c20 := by kernel_rfl
 c21 := by kernel_rfl
 c37 := by kernel_rfl
 c46 := by kernel_rfl
 c51 := by kernel_rfl
 c53 := by kernel_rfl
 c75 := by kernel_rfl
 c76 := by kernel_rfl
 c80 := by kernel_rfl
 c85 := by kernel_rfl
 c127 := by kernel_rfl
 c143 := by kernel_rfl
 c145 := by kernel_rfl
 c167 := by kernel_rfl
 c168 := by kernel_rfl
 c171 := by kernel_rfl
 c173 := by kernel_rfl
 c175 := by kernel_rfl
 c210 := by kernel_rfl
 c212 := by kernel_rfl
 c213 := by kernel_rfl
 c232 := by kernel_rfl
 c233 := by kernel_rfl }
open Go.RowKit in
theorem Tryz.strconv_Atoi_ok (s : ByteArray) (hmax : s.size ≤ 9223372036854775806) (v : Int) (h : Lib.atoiAll s.data.toList = .ok v) (w : World) :
  Calls Tryz.prog 60 #[.string s] w fun e w' => e = .returned (.tuple #[.int .i64 v, .nilIface]) ∧ (w' = w ∨ ∃ t, w' = Lib.bytesWorld w 5 t) := Any.strconv_Atoi_ok Tryz.laysC172 s hmax v h w
open Go.RowKit in
theorem Tryz.strconv_Atoi_syntax_var (s : ByteArray) (hlim : s.size ≤ 281474976710656) (h : Lib.atoiAll s.data.toList = Lib.atoiAll []) (tp : TypeId) (p : Value) (w : World) (hvar : w.var? Tryz.prog "strconv.ErrSyntax" = some #[.iface tp p]) :
  Calls Tryz.prog 60 #[.string s] w fun e w' => ∃ N, e = .returned (.tuple #[.int .i64 0, .iface 107 (.pointer (some ⟨N, 0, none⟩))]) ∧ w.heap.size ≤ N ∧ w'.heap[N]? = some (.cells #[.string ⟨#[65, 116, 111, 105]⟩, .string s, .iface tp p] 130 (0, 0)) ∧ Below w.heap.size w w' := Any.strconv_Atoi_syntax_var Tryz.laysC172 s hlim h tp p w hvar
open Go.RowKit in
theorem Tryz.strconv_Atoi_range_var (s : ByteArray) (hlim : s.size ≤ 281474976710656) (h : Lib.atoiAll s.data.toList = .range) (tp : TypeId) (p : Value) (w : World) (hvar : w.var? Tryz.prog "strconv.ErrRange" = some #[.iface tp p]) :
  Calls Tryz.prog 60 #[.string s] w fun e w' => ∃ N, e = .returned (.tuple #[.int .i64 (Lib.atoiSat s.data.toList), .iface 107 (.pointer (some ⟨N, 0, none⟩))]) ∧ w.heap.size ≤ N ∧ w'.heap[N]? = some (.cells #[.string ⟨#[65, 116, 111, 105]⟩, .string s, .iface tp p] 130 (0, 0)) ∧ Below w.heap.size w w' := Any.strconv_Atoi_range_var Tryz.laysC172 s hlim h tp p w hvar
def Tryz.lays149_ren : Go.Shelf.Ren := ⟨fun | 149 => 43 | 222 => 59 | n => n, fun | 9 => 9 | 5 => 5 | 3 => 3 | 4 => 4 | n => n, fun | n => n⟩
theorem Tryz.lays149 : Go.Proofs.Lays.n149 Tryz.prog Tryz.lays149_ren := {
 mixed := by kernel_rfl
 f149 := Tryz.func43.trans (congrArg some (by kernel_rfl))
 f222 := Tryz.func59.trans (congrArg some (by kernel_rfl))
 t3 := Tryz.underlying3
 a3 := Tryz.isAgg3
 z3 := Tryz.sizeOf3
 v3 := Tryz.zeroValue3
 t4 := Tryz.underlying4
 a4 := Tryz.isAgg4
 z4 := Tryz.sizeOf4
 v4 := Tryz.zeroValue4
 t5 := Tryz.underlying5
 a5 := Tryz.isAgg5
 z5 := Tryz.sizeOf5
 v5 := Tryz.zeroValue5
 t9 := Tryz.underlying9
 a9 := Tryz.isAgg9
 z9 := Tryz.sizeOf9
 v9 := Tryz.zeroValue9 }
open Go.RowKit Go.Lib in
theorem Tryz.strings_LastIndexByte (s : ByteArray) (c : Int) (hs : s.size < 4611686018427387904) (w : World) :
  Calls Tryz.prog 43 #[.string s, .int .u8 c] w fun e w' => e = .returned (.int .i64 (Lib.lastIndexByte s c)) ∧ w' = w := Any.strings_LastIndexByte Tryz.lays149 s c hs w
def Tryz.lays102_ren : Go.Shelf.Ren := ⟨fun | 102 => 20 | 209 => 42 | 207 => 58 | n => n, fun | 9 => 9 | 4 => 4 | 3 => 3 | n => n, fun | n => n⟩
theorem Tryz.lays102 : Go.Proofs.Lays.n102 Tryz.prog Tryz.lays102_ren := {
 mixed := by kernel_rfl
 f102 := Tryz.func20.trans (congrArg some (by kernel_rfl))
 f207 := Tryz.func58.trans (congrArg some (by kernel_rfl))
 f209 := Tryz.func42.trans (congrArg some (by kernel_rfl))
 t3 := Tryz.underlying3
 a3 := Tryz.isAgg3
 z3 := Tryz.sizeOf3
 v3 := Tryz.zeroValue3
 t4 := Tryz.underlying4
 a4 := Tryz.isAgg4
 z4 := Tryz.sizeOf4
 v4 := Tryz.zeroValue4
 t9 := Tryz.underlying9
 a9 := Tryz.isAgg9
 z9 := Tryz.sizeOf9
 v9 := Tryz.zeroValue9 }
open Go.RowKit Go.Lib in
theorem Tryz.strings_TrimSuffix (s p : ByteArray) (w : World) (hs : s.size ≤ 9223372036854775807) :
  Calls Tryz.prog 20 #[.string s, .string p] w fun e w' => e = .returned (.string ⟨(Lib.trimSuffix s.data.toList p.data.toList).toArray⟩) ∧ w' = w := Any.strings_TrimSuffix Tryz.lays102 s p w hs
def Tryz.lays146_ren : Go.Shelf.Ren := ⟨fun | 146 => 19 | 221 => 41 | 268 => 55 | 138 => 56 | 143 => 57 | 195 => 71 | 197 => 72 | 218 => 73 | 219 => 74 | 260 => 90 | 217 => 91 | 225 => 92 | 224 => 93 | 267 => 94 | 266 => 109 | 314 => 110 | n => n, fun | 9 => 9 | 31 => 35 | 3 => 3 | 4 => 4 | 0 => 0 | 105 => 87 | 21 => 21 | 5 => 5 | 46 => 68 | 119 => 120 | 139 => 123 | 138 => 122 | 146 => 124 | 51 => 99 | n => n, fun | 1 => 0 | 3 => 1 | 4 => 2 | n => n⟩
theorem Tryz.lays146 : Go.Proofs.Lays.n146 Tryz.prog Tryz.lays146_ren := {
 mixed := by kernel_rfl
 f138 := Tryz.func56.trans (congrArg some (by kernel_rfl))
 f143 := Tryz.func57.trans (congrArg some (by kernel_rfl))
 f146 := Tryz.func19.trans (congrArg some (by kernel_rfl))
 f195 := Tryz.func71.trans (congrArg some (by kernel_rfl))
 f197 := Tryz.func72.trans (congrArg some (by kernel_rfl))
 f217 := Tryz.func91.trans (congrArg some (by kernel_rfl))
 f218 := Tryz.func73.trans (congrArg some (by kernel_rfl))
 f219 := Tryz.func74.trans (congrArg some (by kernel_rfl))
 f221 := Tryz.func41.trans (congrArg some (by kernel_rfl))
 f224 := Tryz.func93.trans (congrArg some (by kernel_rfl))
 f225 := Tryz.func92.trans (congrArg some (by kernel_rfl))
 f260 := Tryz.func90.trans (congrArg some (by kernel_rfl))
 f266 := Tryz.func109.trans (congrArg some (by kernel_rfl))
 f267 := Tryz.func94.trans (congrArg some (by kernel_rfl))
 f268 := Tryz.func55.trans (congrArg some (by kernel_rfl))
 f314 := Tryz.func110.trans (congrArg some (by kernel_rfl))
 t0 := Tryz.underlying0
 a0 := Tryz.isAgg0
 z0 := Tryz.sizeOf0
 v0 := Tryz.zeroValue0
 t3 := Tryz.underlying3
 a3 := Tryz.isAgg3
 z3 := Tryz.sizeOf3
 v3 := Tryz.zeroValue3
 t4 := Tryz.underlying4
 a4 := Tryz.isAgg4
 z4 := Tryz.sizeOf4
 v4 := Tryz.zeroValue4
 t5 := Tryz.underlying5
 a5 := Tryz.isAgg5
 z5 := Tryz.sizeOf5
 v5 := Tryz.zeroValue5
 t9 := Tryz.underlying9
 a9 := Tryz.isAgg9
 z9 := Tryz.sizeOf9
 v9 := Tryz.zeroValue9
 t21 := Tryz.underlying21
 a21 := Tryz.isAgg21
 z21 := Tryz.sizeOf21
 v21 := Tryz.zeroValue21
 t31 := Tryz.underlying35
 a31 := Tryz.isAgg35
 z31 := Tryz.sizeOf35
 v31 := Tryz.zeroValue35
 t46 := Tryz.underlying68
 a46 := Tryz.isAgg68
 z46 := Tryz.sizeOf68
 v46 := Tryz.zeroValue68
 t51 := Tryz.underlying99
 a51 := Tryz.isAgg99
 z51 := Tryz.sizeOf99
 v51 := Tryz.zeroValue99
 t105 := Tryz.underlying87
 a105 := Tryz.isAgg87
 z105 := Tryz.sizeOf87
 v105 := Tryz.zeroValue87
 t119 := Tryz.underlying120
 a119 := Tryz.isAgg120
 z119 := Tryz.sizeOf120
 t138 := Tryz.underlying122
 a138 := Tryz.isAgg122
 z138 := Tryz.sizeOf122
 v138 := Tryz.zeroValue122
 t139 := Tryz.underlying123
 a139 := Tryz.isAgg123
 z139 := Tryz.sizeOf123
 v139 := Tryz.zeroValue123
 t146 := Tryz.underlying124
 a146 := Tryz.isAgg124
 z146 := Tryz.sizeOf124
 v146 := Tryz.zeroValue124
 g1 := by kernel_rfl
 g3 := by kernel_rfl
 g4 := by kernel_rfl }
open Go.RowKit Go.Lib in
theorem Tryz.strings_Split (s sep : ByteArray) (m : Int) (w : World) (hs : s.size < 4294967281) (hm : w.cell? ⟨0, 0, none⟩ = some (.int .i64 m)) (h1 : 1 ≤ sep.size) :
  Calls Tryz.prog 19 #[.string s, .string sep] w fun e w' =>
   e = .returned (.slice (some ⟨w.heap.size, 0, none⟩) (Lib.countB s sep + 1) (Lib.countB s sep + 1)) ∧ w' = w.alloc (.cells ((Lib.splitB sep 0 (Lib.countB s sep) s).map Value.string).toArray 9) := Any.strings_Split Tryz.lays146 (by kernel_rfl) s sep m w hs hm h1
def Tryz.laysM146_ren : Go.Shelf.Ren := ⟨fun | 146 => 19 | 221 => 41 | 268 => 55 | 138 => 56 | 143 => 57 | 195 => 71 | 197 => 72 | 218 => 73 | 219 => 74 | 260 => 90 | 217 => 91 | 225 => 92 | 224 => 93 | 267 => 94 | 266 => 109 | 314 => 110 | n => n, fun | 9 => 9 | 31 => 35 | 3 => 3 | 4 => 4 | 0 => 0 | 105 => 87 | 21 => 21 | 5 => 5 | 46 => 68 | 119 => 120 | 139 => 123 | 138 => 122 | 146 => 124 | 51 => 99 | n => n, fun | 1 => 0 | 3 => 1 | 4 => 2 | n => n⟩
theorem Tryz.laysM146 : Go.Proofs.LaysM.n146 Tryz.prog Tryz.laysM146_ren := {
 mixed := by kernel_rfl
 f138 := Tryz.func56.trans (congrArg some (by kernel_rfl))
 f143 := Tryz.func57.trans (congrArg some (by kernel_rfl))
 f146 := Tryz.func19.trans (congrArg some (by kernel_rfl))
 f195 := Tryz.func71.trans (congrArg some (by kernel_rfl))
 f197 := Tryz.func72.trans (congrArg some (by kernel_rfl))
 f217 := Tryz.func91.trans (congrArg some (by kernel_rfl))
 f218 := Tryz.func73.trans (congrArg some (by kernel_rfl))
 f219 := Tryz.func74.trans (congrArg some (by kernel_rfl))
 f221 := Tryz.func41.trans (congrArg some (by kernel_rfl))
 f224 := Tryz.func93.trans (congrArg some (by kernel_rfl))
 f225 := Tryz.func92.trans (congrArg some (by kernel_rfl))
 f260 := Tryz.func90.trans (congrArg some (by kernel_rfl))
 f266 := Tryz.func109.trans (congrArg some (by kernel_rfl))
 f267 := Tryz.func94.trans (congrArg some (by kernel_rfl))
 f268 := Tryz.func55.trans (congrArg some (by kernel_rfl))
 f314 := Tryz.func110.trans (congrArg some (by kernel_rfl))
 t0 := Tryz.underlying0
 a0 := Tryz.isAgg0
 z0 := Tryz.sizeOf0
 v0 := Tryz.zeroValue0
 t3 := Tryz.underlying3
 a3 := Tryz.isAgg3
 z3 := Tryz.sizeOf3
 v3 := Tryz.zeroValue3
 t4 := Tryz.underlying4
 a4 := Tryz.isAgg4
 z4 := Tryz.sizeOf4
 v4 := Tryz.zeroValue4
 t5 := Tryz.underlying5
 a5 := Tryz.isAgg5
 z5 := Tryz.sizeOf5
 v5 := Tryz.zeroValue5
 t9 := Tryz.underlying9
 a9 := Tryz.isAgg9
 z9 := Tryz.sizeOf9
 v9 := Tryz.zeroValue9
 t21 := Tryz.underlying21
 a21 := Tryz.isAgg21
 z21 := Tryz.sizeOf21
 v21 := Tryz.zeroValue21
 t31 := Tryz.underlying35
 a31 := Tryz.isAgg35
 z31 := Tryz.sizeOf35
 v31 := Tryz.zeroValue35
 t46 := Tryz.underlying68
 a46 := Tryz.isAgg68
 z46 := Tryz.sizeOf68
 v46 := Tryz.zeroValue68
 t51 := Tryz.underlying99
 a51 := Tryz.isAgg99
 z51 := Tryz.sizeOf99
 v51 := Tryz.zeroValue99
 t105 := Tryz.underlying87
 a105 := Tryz.isAgg87
 z105 := Tryz.sizeOf87
 v105 := Tryz.zeroValue87
 t119 := Tryz.underlying120
 a119 := Tryz.isAgg120
 z119 := Tryz.sizeOf120
 t138 := Tryz.underlying122
 a138 := Tryz.isAgg122
 z138 := Tryz.sizeOf122
 v138 := Tryz.zeroValue122
 t139 := Tryz.underlying123
 a139 := Tryz.isAgg123
 z139 := Tryz.sizeOf123
 v139 := Tryz.zeroValue123
 t146 := Tryz.underlying124
 a146 := Tryz.isAgg124
 z146 := Tryz.sizeOf124
 v146 := Tryz.zeroValue124
 g1 := by kernel_rfl
 g3 := by kernel_rfl
 g4 := by kernel_rfl
 i0 := by kernel_rfl
 i3 := by kernel_rfl
 i4 := by kernel_rfl
 i5 := by kernel_rfl
 i9 := by kernel_rfl
 i21 := by kernel_rfl
 i31 := by kernel_rfl
 i46 := by kernel_rfl
 i51 := by kernel_rfl
 i105 := by kernel_rfl
 i138 := by kernel_rfl
 i139 := by kernel_rfl
 i146 := by kernel_rfl
 m1 := by kernel_rfl
 s1_3 := fun w h => Go.Proofs.cell_of_shapedOpen_int (zero := #[.int .i64 0]) (t := 3) h (of_decide_eq_true (by kernel_rfl)) (by kernel_rfl) rfl (by kernel_rfl) (by kernel_rfl) Tryz.underlying3
 m3 := by kernel_rfl
 m4 := by kernel_rfl }
end Go.Proofs
namespace Go.Proofs.YtmhnnodofahpdaaGreatDoor
open Go.Ab Go.Tb
set_option maxRecDepth 10000
attribute [local irreducible] W WO Pu QS QB QL QF QV QV1 CH QE
theorem numB_size {n : Int} (h : n.natAbs < 10 ^ 20) : (numB n).size ≤ 21 := by
 have e : (numB n).size = (Lib.itoa n).length := Array.length_toList.symm
 rw [e]
 rcases Int.lt_or_le n 0 with hn | hn
 · rw [numB_neg hn, List.length_cons]; have := digB_len n.natAbs 19 h; omega
 · rw [numB_pos hn]; have := digB_len n.toNat 19 (by omega); omega
theorem within_fn (n : Int) (ok : Bool) : Does Tryz.prog 61 [.d (.v (.int .i64 n)), .d (.v (.bool ok))] (.tup [.d (.v (.int .i64 (if ok && inR n then n else 0))), .d (.v (.bool (ok && inR n)))]) 0 := by
 refine Does.of_W (n := 14) (ts := [4, 5]) Tryz.func61 (by kernel_rfl) rfl Tryz.ntmps61 Tryz.results61 rfl rfl fun C hC hG => ?_
 refine W.seq (W.region ?_)
 iterate 2 refine pE rfl ?_
 refine WO.nil (qs ?_)
 iterate 2 refine W.seq ?_
 apply regionB; (case hb => rfl)
 ·
  iterate 3 refine pE rfl ?_
  apply splitJ; (case hj => rfl); (case hl => rfl)
  ·
   iterate 3 refine skipT rfl rfl rfl rfl ?_
   refine pE rfl ?_
   refine WO.nil ?_
   refine qv1 rfl rfl rfl
  ·
   refine goG rfl rfl ?_
   refine pE rfl ?_
   refine goG rfl rfl ?_
   refine pu (puCall rfl rfl rfl (in_fn ..) rfl) rfl ?_
   refine goG rfl rfl ?_
   iterate 2 refine pE rfl ?_
   refine WO.nil ?_
   refine qv1 rfl rfl rfl
 refine qs ?_
 refine condK rfl (fun h12 => ?_) (fun h12 => ?_)
 ·
  refine W.seq (W.region ?_)
  iterate 2 refine pE rfl ?_
  refine WO.nil (qs (W.ret (qsRet ?_)))
  refine QF.ret0 trivial rfl ?_
  cases ok <;> cases h : inR n <;> simp_all [norm, normL, oneA]
 ·
  refine W.skip (qs (W.seq (W.region ?_)))
  iterate 3 refine pE rfl ?_
  refine WO.nil (qs (W.ret ?_))
  refine QF.ret0 trivial rfl ?_
  cases ok <;> cases h : inR n <;> simp_all [norm, normL, oneA]
end Go.Proofs.YtmhnnodofahpdaaGreatDoor
namespace Go.Proofs.YtmhnnodofahpdaaGreatDoor
open Go.Ab Go.Tb
set_option maxRecDepth 10000
attribute [local irreducible] W WO Pu QS QB QL QF QV QV1 CH QE
theorem num_of {w : World} (hu : Under Tryz.prog w) : MetNum Tryz.prog w := hu.num (fun _ h => h)
theorem numB_ok {n : Int} (h : n.natAbs < 10 ^ 20) : okc (.string (numB n)) = true := by
 have := numB_size h
 exact decide_eq_true (by simp only [maxLen]; omega)
theorem abs_int {n : Int} (h0 : -9223372036854775808 ≤ n) (h1 : n ≤ 9223372036854775807) : n.natAbs < 10 ^ 20 := by
 have hp : (10 : Nat) ^ 20 = 100000000000000000000 := by decide
 omega
open Go.RowKit in
theorem itoa_fn (n : Int) (h0 : -9223372036854775808 ≤ n) (h1 : n ≤ 9223372036854775807) : Does Tryz.prog 53 [.d (.v (.int .i64 n))] (.d (.v (.string (numB n)))) 0 :=
 Does.of_freshV (xs := [.int .i64 n]) ⟨_, Tryz.func53, by kernel_rfl, by kernel_rfl⟩ fun w hu _ =>
  (Tryz.strconv_Itoa n h0 h1 w (num_of hu).1).mono fun e w' ⟨he, k, os, hw⟩ =>
   ⟨_, he, hw ▸ Lib.below_grow _ w (Nat.le_refl _) k os, fun _ _ _ => .d (.v _ (numB_ok (abs_int h0 h1)))⟩
theorem text_fn (n : Int) (h0 : -9223372036854775808 ≤ n) (h1 : n ≤ 9223372036854775807) : Does Tryz.prog 31 [.d (.v (.int .i64 n))] (.d (.v (.string (numB n)))) 0 := by
 refine Does.of_W (n := 5) (ts := [2]) Tryz.func31 (by kernel_rfl) rfl Tryz.ntmps31 Tryz.results31 rfl rfl fun C hC hG => ?_
 refine W.seq (W.region ?_)
 refine pE rfl ?_
 refine WO.nil (qs (W.seq (W.region ?_)))
 refine pE rfl ?_
 refine pu (puCall rfl rfl rfl ((itoa_fn _ (by assumption) (by assumption))) rfl) rfl ?_
 refine pE rfl ?_
 refine WO.nil (qs (W.ret ?_))
 refine QF.ret0 trivial rfl ?_
 rfl
def atoiA (s : ByteArray) : A :=
 match Lib.atoiAll s.data.toList with
 | .ok v => .tup [.d (.v (.int .i64 v)), .d (.v .nilIface)]
 | .range => .tup [.d (.v (.int .i64 (Lib.atoiSat s.data.toList))), .ni]
 | _ => .tup [.d (.v (.int .i64 0)), .ni]
theorem sat_ok (l : List UInt8) : okc (.int .i64 (Lib.atoiSat l)) = true := by
 unfold Lib.atoiSat
 split <;> (try split) <;> decide
open Go.RowKit in
theorem atoi_fn (s : ByteArray) (hs : s.size ≤ 281474976710656) : Does Tryz.prog 60 [.d (.v (.string s))] (atoiA s) 0 :=
 Does.of_freshV (xs := [.string s]) ⟨_, Tryz.func60, by kernel_rfl, by kernel_rfl⟩ fun w hu _ => by
  obtain ⟨_, ⟨t, p, h2⟩, t', p', h3⟩ := num_of hu
  unfold atoiA
  cases h : Lib.atoiAll s.data.toList with
  | ok v =>
   have hb := Lib.atoiAll_bounds h
   refine (Tryz.strconv_Atoi_ok s (by omega) v h w).mono fun e w' ⟨he, hw⟩ => ⟨_, he, ?_, fun _ _ _ => pairRep (.d (.v _ ?_)) (.d (.v _ rfl))⟩
   ·
    rcases hw with rfl | ⟨t, rfl⟩
    · exact Below.refl _ _
    · exact Joins.below_bytesWorld _ w _ _ (Nat.le_refl _)
   ·
    simp [okc, IntKind.min, IntKind.max, IntKind.signed, IntKind.bits]
    omega
  | range =>
   exact (Tryz.strconv_Atoi_range_var s hs h t' p' w h3).mono fun e w' ⟨N, he, _, _, hb⟩ => ⟨_, he, hb, fun _ _ _ => pairRep (.d (.v _ (sat_ok _))) (.ni _ _)⟩
  | _ =>
   exact (Tryz.strconv_Atoi_syntax_var s hs h t p w h2).mono fun e w' ⟨N, he, _, _, hb⟩ => ⟨_, he, hb, fun _ _ _ => pairRep (.d (.v _ (by decide))) (.ni _ _)⟩
end Go.Proofs.YtmhnnodofahpdaaGreatDoor
namespace Go.Proofs.YtmhnnodofahpdaaGreatDoor
open Go.Ab Go.Tb
set_option maxRecDepth 10000
attribute [local irreducible] W WO Pu QS QB QL QF QV QV1 CH QE
open Go.RowKit in
theorem join_fn (l : List ByteArray) (sep : ByteArray) (hl : l.length ≤ 100000) (hb : (joinB l sep).size ≤ 1000000) : Does Tryz.prog 25 [.d (.sl (l.map fun s => [.v (.string s)])), .d (.v (.string sep))] (.d (.v (.string (joinB l sep)))) 0 := by
 have hok : okc (.string (joinB l sep)) = true := decide_eq_true (by simp only [maxLen]; omega)
 have hdl : (Lib.join (l.map (·.data.toList)) sep.data.toList).length = (joinB l sep).size := by
  have : (joinB l sep).data.toList.length = (joinB l sep).size := Array.length_toList
  rw [← this]; rfl
 refine Does.of_fresh ⟨_, Tryz.func25, by kernel_rfl, by kernel_rfl⟩ fun w vals E hE hu hsz hr => ?_
 have hsz2 : vals.size = 2 := hsz
 obtain ⟨v0, v1, rfl⟩ : ∃ v0 v1, vals = #[v0, v1] := ⟨vals[0], vals[1], by apply Array.ext (by simp [hsz2]); intro i h1 h2; match i, h1, h2 with
  | 0, _, _ => rfl
  | 1, _, _ => rfl
  | k + 2, h1, _ => omega⟩
 have r0 := hr 0 v0 _ rfl rfl
 have r1 := hr 1 v1 _ rfl rfl
 cases r1 with | d r1 => cases r1 with | v _ h1 =>
 cases r0 with | d r0 =>
 subst hE
 rcases r0.strs with ⟨rfl, a, c, rfl⟩ | ⟨b, off, c, rfl, h3, h4, h5⟩
 · refine (Tryz.strings_Join_none a c sep E.w).mono fun e w' ⟨he, hw⟩ => ⟨_, he, hw ▸ Below.refl _ _, fun _ _ _ => .d (.v _ hok)⟩
 ·
  rcases Nat.eq_zero_or_pos l.length with hz | hp
  ·
   have : l = [] := List.eq_nil_of_length_eq_zero hz
   subst this
   exact (Tryz.strings_Join_none _ c sep E.w).mono fun e w' ⟨he, hw⟩ => ⟨_, he, hw ▸ Below.refl _ _, fun _ _ _ => .d (.v _ hok)⟩
  ·
   have hbk : b < E.w.heap.size := cellAt_lt (o := off + 0) (h5 0 l[0] (by simp [hp])).1
   exact (Tryz.strings_Join b off c l sep E.w (fun j x hx => (h5 j x hx).1) hbk (by omega) h3 (by omega)).mono fun e w' ⟨he, hb⟩ => ⟨_, he, hb, fun _ _ _ => .d (.v _ hok)⟩
open Go.RowKit in
theorem split_fn (s : ByteArray) (c : UInt8) (hs : s.size ≤ 1000000) : Does Tryz.prog 19 [.d (.v (.string s)), .d (.v (.string ⟨#[c]⟩))] (.d (.sl ((cutB s c).map fun s => [.v (.string s)]))) 0 :=
 Does.of_freshV (xs := [.string s, .string ⟨#[c]⟩]) ⟨_, Tryz.func19, by kernel_rfl, by kernel_rfl⟩ fun w hu _ => by
  obtain ⟨m, hm⟩ := hu.cell (b := _) Tryz.laysM146.s1_3
  refine (Tryz.strings_Split s ⟨#[c]⟩ m w (by omega) hm (Nat.le_refl 1)).mono fun e w' ⟨he, hw⟩ => ⟨_, he, ?_, fun E' hE hpv => .d ?_⟩
  · rw [hw]; exact (Below.refl _ _).alloc (Nat.le_refl _) _
  ·
   have hlen : Lib.countB s ⟨#[c]⟩ + 1 = (cutB s c).length := by rw [← splitB_cut]; exact (Lib.splitB_all ⟨#[c]⟩ (Nat.le_refl 1) 0 _ s rfl).symm
   rw [hlen]
   rw [splitB_cut] at hw
   have hcl : (cutB s c).length ≤ s.size + 1 := by
    have h1 := cutL_len c s.data.toList
    have h2 : s.data.toList.length = s.size := Array.length_toList
    unfold cutB
    rw [List.length_map]
    omega
   refine RepD.newStrs (b := w.heap.size) (arr := ((cutB s c).map Value.string).toArray) (T := 9) ?_ (Nat.le_refl _) (by simp only [maxLen]; omega) (fun j t hj => ⟨by simp [hj], ?_⟩) (fun o hp => absurd (hpv _ _ hp) (Nat.lt_irrefl _))
   · rw [hE, hw]; exact (MapKept.heap_alloc w _).1
   ·
    have hm2 : t ∈ cutB s c := List.mem_of_getElem? hj
    unfold cutB at hm2
    obtain ⟨x, hx, rfl⟩ := List.mem_map.1 hm2
    have h1 := cutL_mem c _ x hx
    have h2 : s.data.toList.length = s.size := Array.length_toList
    have h3 : (ofL x).size = x.length := (Array.length_toList (xs := (ofL x).data)).symm
    simp only [maxLen]
    omega
end Go.Proofs.YtmhnnodofahpdaaGreatDoor
namespace Go.Proofs.YtmhnnodofahpdaaGreatDoor
open Go.Ab Go.Tb
set_option maxRecDepth 10000
attribute [local irreducible] W WO Pu QS QB QL QF QV QV1 CH QE
theorem name_03 (s : ByteArray) : nameErr s = 0 ∨ nameErr s = 3 := by unfold nameErr; split <;> simp
theorem frames_fn (l : List ByteArray) : Does Tryz.prog 24 [.d (.sl (txs l))] (.d (.v (.int .i64 (framesErr l)))) 0 := by
 refine Does.of_W (n := 21) (ts := [2]) Tryz.func24 (by kernel_rfl) rfl Tryz.ntmps24 Tryz.results24 rfl rfl fun C hC hG => ?_
 refine W.seq (W.region ?_)
 refine pE rfl ?_
 refine WO.nil (qs ?_)
 iterate 2 refine W.seq ?_
 refine W.region ?_
 iterate 3 refine pE rfl ?_
 refine WO.nil (qs ?_)
 refine condK rfl (fun h8 => ?_) (fun h8 => ?_)
 ·
  have hg : framesErr l = 7 := by unfold framesErr; rw [if_pos (by simp at h8; omega)]
  refine W.seq (W.region ?_)
  refine pE rfl ?_
  refine WO.nil (qs (W.ret (qsRet ?_)))
  refine QF.ret0 trivial rfl ?_
  rw [hg]; rfl
 ·
  have hg : framesErr l = if l.any (fun s => decide (nameErr s ≠ 0)) then 3 else 0 := by unfold framesErr; rw [if_neg (by simp at h8; omega)]
  refine W.skip (qs ?_)
  iterate 2 refine W.seq ?_
  refine W.region ?_
  iterate 3 refine pE rfl ?_
  refine WO.nil (qs (W.block ?_))
  refine W.len (t := 0) rfl rfl (fun hlen => ?_)
  try simp only [List.length_map, Ex.kc_len] at hlen
  refine W.loopR (ι := {x : Nat // match x with | k => k ≤ l.length ∧ (l.drop k).any (fun s => decide (nameErr s ≠ 0)) = l.any (fun s => decide (nameErr s ≠ 0))})
   (fun x => match x.1 with | k => [(11, .d (.v (.int .i64 ((k : Nat) : Int))))]) [(9, _), (10, _)]
   (fun x => match x.1 with | k => []) [] [] 0 (fun x => match x.1 with | k => l.length - k)
   [] ⟨0, ?_⟩ rfl ?_ ⟨rfl, rfl, rfl, rfl, trivial⟩ ?_ trivial rfl ?_
  · first | exact ⟨Nat.zero_le _, rfl⟩ | exact trivial | simp
  · repeat' first | exact trivial | refine ⟨rfl, ?_⟩ | refine ⟨congrArg some (renL_boxE _ _ _), ?_⟩ | refine ⟨step_nat (by assumption) (by assumption), ?_⟩
  · repeat' first | exact trivial | refine ⟨rfl, ?_⟩ | refine ⟨congrArg some (renL_boxE _ _ _), ?_⟩ | refine ⟨step_nat (by assumption) (by assumption), ?_⟩
  rintro ⟨k, hk, hI⟩
  show W _ _ _ _ _ ⟨[(11, .d (.v (.int .i64 ((k : Nat) : Int)))), (9, _), (10, _)], [], [], 0⟩
  refine W.seq (W.region ?_)
  refine pE rfl ?_
  refine WO.nil (qs (W.seq ?_))
  refine eachR (l := l) (k := k) rfl (by simp [Ex.kc_len, bytes_len]) hk (fun s hx hd hlt => ?_) (fun he hd => ?_)
  ·
   rw [hd, List.any_cons] at hI
   refine W.skip (qs (W.seq (W.block (W.seq (W.region ?_)))))
   refine pu (indexAddr tab rfl rfl rfl rfl rfl rfl (Int.natCast_nonneg _) (idx_map hx) rfl) rfl ?_
   first | refine pE rfl ?_ | refine pR rfl rfl rfl rfl rfl ?_ | refine pB rfl rfl rfl rfl rfl rfl ?_
   refine pE rfl ?_
   refine WO.nil (qs (W.seq (W.region ?_)))
   refine pE rfl ?_
   refine pu (puCall rfl rfl rfl (name_fn s) rfl) rfl ?_
   refine pE rfl ?_
   refine WO.nil (qs (W.seq (W.region ?_)))
   iterate 2 refine pE rfl ?_
   refine WO.nil (qs ?_)
   refine condK rfl (fun h18 => ?_) (fun h18 => ?_)
   ·
    have hn : nameErr s = 3 := by rcases name_03 s with q | q <;> simp_all
    rw [hn] at hI
    refine W.seq (W.region ?_)
    iterate 2 refine pE rfl ?_
    refine WO.nil (qs (W.ret (qbRet (qsRet (qlRet (qbRet (qsRet ?_)))))))
    refine QF.ret0 trivial rfl ?_
    rw [hg, ← hI]; simp [norm, oneA, hn]
   ·
    have hn : nameErr s = 0 := by simpa using h18
    rw [hn] at hI
    refine W.skip (qbN (qs (W.region ?_)))
    iterate 2 refine pE rfl ?_
    refine WO.nil ?_
    refine W.endR [] ⟨k + 1, ?_⟩ ?_ rfl ?_ ⟨rfl, rfl, rfl, rfl, trivial⟩ ?_ trivial rfl
    · exact ⟨hlt, by simpa using hI⟩
    · dsimp only; omega
    · repeat' first | exact trivial | refine ⟨rfl, ?_⟩ | refine ⟨congrArg some (renL_boxE _ _ _), ?_⟩ | refine ⟨step_nat (by assumption) (by assumption), ?_⟩
    · repeat' first | exact trivial | refine ⟨rfl, ?_⟩ | refine ⟨congrArg some (renL_boxE _ _ _), ?_⟩ | refine ⟨step_nat (by assumption) (by assumption), ?_⟩
  ·
   rw [hd, List.any_nil] at hI
   refine W.exit (qsExit (qlExit (qbExit (qs (W.seq (W.region ?_))))))
   refine pE rfl ?_
   refine WO.nil (qs (W.ret ?_))
   refine QF.ret0 trivial rfl ?_
   rw [hg, ← hI]; rfl
end Go.Proofs.YtmhnnodofahpdaaGreatDoor
namespace Go.Proofs.YtmhnnodofahpdaaGreatDoor
open Go.Ab Go.Tb
set_option maxRecDepth 10000
attribute [local irreducible] W WO Pu QS QB QL QF QV QV1 CH QE
end Go.Proofs.YtmhnnodofahpdaaGreatDoor
namespace Go.Proofs.YtmhnnodofahpdaaGreatDoor
open Go.Ab Go.Tb
set_option maxRecDepth 10000
attribute [local irreducible] W WO Pu QS QB QL QF QV QV1 CH QE
theorem nparse_ok (s : ByteArray) (v : Int) (h : Lib.atoiAll s.data.toList = .ok v) : numP s = (if (if numB v = s then true else false) && inR v then (v, true) else (0, false)) := by
 unfold numP
 rw [h]
 by_cases h1 : numB v = s <;> by_cases h2 : inR v = true <;> simp [h1, h2]
theorem sat_in (l : List UInt8) : -9223372036854775808 ≤ Lib.atoiSat l ∧ Lib.atoiSat l ≤ 9223372036854775807 := by
 unfold Lib.atoiSat
 split <;> decide
theorem nparse_fn (s : ByteArray) (hs : s.size ≤ 281474976710656) : Does Tryz.prog 44 [.d (.v (.string s))] (.tup [.d (.v (.int .i64 (numP s).1)), .d (.v (.bool (numP s).2))]) 0 := by
 have ha := atoi_fn s hs
 unfold atoiA at ha
 cases h : Lib.atoiAll s.data.toList with
 | ok v =>
  rw [h] at ha
  have hb := Lib.atoiAll_bounds h
  have hp := nparse_ok s v h
  refine Does.of_W (n := 23) (ts := [2, 3]) Tryz.func44 (by kernel_rfl) rfl Tryz.ntmps44 Tryz.results44 rfl rfl fun C hC hG => ?_
  refine W.seq (W.region ?_)
  iterate 2 refine pE rfl ?_
  refine WO.nil (qs (W.seq (W.region ?_)))
  refine pE rfl ?_
  refine pu (puCall rfl rfl rfl ha rfl) rfl ?_
  iterate 5 refine pE rfl ?_
  refine WO.nil (qs (W.seq (W.region ?_)))
  iterate 2 refine pE rfl ?_
  refine pu (nilEq rfl (by kernel_rfl)) rfl ?_
  refine pE rfl ?_
  refine splitG rfl rfl (fun _ => ?_) (fun _ => ?_)
  ·
   refine goG rfl rfl ?_
   refine pE rfl ?_
   refine goG rfl rfl ?_
   refine pu (puCall rfl rfl rfl (text_fn v hb.1 hb.2) rfl) rfl ?_
   refine goG rfl rfl ?_
   refine pE rfl ?_
   refine goG rfl rfl ?_
   iterate 2 refine pE rfl ?_
   refine pu (puCall rfl rfl rfl (within_fn ..) rfl) rfl ?_
   iterate 4 refine pE rfl ?_
   refine WO.nil (qs (W.ret ?_))
   refine QF.ret0 trivial rfl ?_
   first | contradiction | (rw [hp]; simp only [norm, normL, oneA]; by_cases h1 : numB v = s <;> by_cases h2 : inR v = true <;> simp [h1, h2])
  ·
   iterate 4 refine skipT rfl rfl rfl rfl ?_
   refine pE rfl ?_
   refine pu (puCall rfl rfl rfl (within_fn ..) rfl) rfl ?_
   iterate 4 refine pE rfl ?_
   refine WO.nil (qs (W.ret ?_))
   refine QF.ret0 trivial rfl ?_
   first | contradiction | (rw [hp]; simp only [norm, normL, oneA]; by_cases h1 : numB v = s <;> by_cases h2 : inR v = true <;> simp [h1, h2])
 | range =>
  rw [h] at ha
  have hp : numP s = (0, false) := by unfold numP; rw [h]
  refine Does.of_W (n := 23) (ts := [2, 3]) Tryz.func44 (by kernel_rfl) rfl Tryz.ntmps44 Tryz.results44 rfl rfl fun C hC hG => ?_
  refine W.seq (W.region ?_)
  iterate 2 refine pE rfl ?_
  refine WO.nil (qs (W.seq (W.region ?_)))
  refine pE rfl ?_
  refine pu (puCall rfl rfl rfl ha rfl) rfl ?_
  iterate 5 refine pE rfl ?_
  refine WO.nil (qs (W.seq (W.region ?_)))
  iterate 2 refine pE rfl ?_
  refine pu (niEq rfl (by kernel_rfl)) rfl ?_
  refine pE rfl ?_
  refine splitG rfl rfl (fun _ => ?_) (fun _ => ?_)
  ·
   refine goG rfl rfl ?_
   refine pE rfl ?_
   refine goG rfl rfl ?_
   refine pu (puCall rfl rfl rfl (text_fn _ (sat_in _).1 (sat_in _).2) rfl) rfl ?_
   refine goG rfl rfl ?_
   refine pE rfl ?_
   refine goG rfl rfl ?_
   iterate 2 refine pE rfl ?_
   refine pu (puCall rfl rfl rfl (within_fn ..) rfl) rfl ?_
   iterate 4 refine pE rfl ?_
   refine WO.nil (qs (W.ret ?_))
   refine QF.ret0 trivial rfl ?_
   first | contradiction | (rw [hp]; rfl)
  ·
   iterate 4 refine skipT rfl rfl rfl rfl ?_
   refine pE rfl ?_
   refine pu (puCall rfl rfl rfl (within_fn ..) rfl) rfl ?_
   iterate 4 refine pE rfl ?_
   refine WO.nil (qs (W.ret ?_))
   refine QF.ret0 trivial rfl ?_
   first | contradiction | (rw [hp]; rfl)
 | _ =>
  rw [h] at ha
  have hp : numP s = (0, false) := by unfold numP; rw [h]
  refine Does.of_W (n := 23) (ts := [2, 3]) Tryz.func44 (by kernel_rfl) rfl Tryz.ntmps44 Tryz.results44 rfl rfl fun C hC hG => ?_
  refine W.seq (W.region ?_)
  iterate 2 refine pE rfl ?_
  refine WO.nil (qs (W.seq (W.region ?_)))
  refine pE rfl ?_
  refine pu (puCall rfl rfl rfl ha rfl) rfl ?_
  iterate 5 refine pE rfl ?_
  refine WO.nil (qs (W.seq (W.region ?_)))
  iterate 2 refine pE rfl ?_
  refine pu (niEq rfl (by kernel_rfl)) rfl ?_
  refine pE rfl ?_
  refine splitG rfl rfl (fun _ => ?_) (fun _ => ?_)
  ·
   refine goG rfl rfl ?_
   refine pE rfl ?_
   refine goG rfl rfl ?_
   refine pu (puCall rfl rfl rfl (text_fn 0 (by decide) (by decide)) rfl) rfl ?_
   refine goG rfl rfl ?_
   refine pE rfl ?_
   refine goG rfl rfl ?_
   iterate 2 refine pE rfl ?_
   refine pu (puCall rfl rfl rfl (within_fn ..) rfl) rfl ?_
   iterate 4 refine pE rfl ?_
   refine WO.nil (qs (W.ret ?_))
   refine QF.ret0 trivial rfl ?_
   first | contradiction | (rw [hp]; rfl)
  ·
   iterate 4 refine skipT rfl rfl rfl rfl ?_
   refine pE rfl ?_
   refine pu (puCall rfl rfl rfl (within_fn ..) rfl) rfl ?_
   iterate 4 refine pE rfl ?_
   refine WO.nil (qs (W.ret ?_))
   refine QF.ret0 trivial rfl ?_
   first | contradiction | (rw [hp]; rfl)
end Go.Proofs.YtmhnnodofahpdaaGreatDoor
namespace Go.Proofs.YtmhnnodofahpdaaGreatDoor
open Go.Ab Go.Tb
set_option maxRecDepth 10000
attribute [local irreducible] W WO Pu QS QB QL QF QV QV1 CH QE
theorem bl_size (s : ByteArray) : s.data.toList.length = s.size := Array.length_toList
theorem trim_size (s : ByteArray) : (trimB s).size ≤ s.size := by
 rw [← bl_size, ← bl_size s]
 unfold trimB Lib.trimSuffix
 rw [ofL_data]
 split
 · exact List.length_take_le' _ _
 · exact Nat.le_refl _
open Go.RowKit in
theorem trim_fn (s : ByteArray) (hs : s.size ≤ 1000000) : Does Tryz.prog 20 [.d (.v (.string s)), .d (.v (.string (B #[10])))] (.d (.v (.string (trimB s)))) 0 :=
 Does.of_freshV (xs := [.string s, .string (B #[10])]) ⟨_, Tryz.func20, by kernel_rfl, by kernel_rfl⟩ fun w hu _ =>
  (Tryz.strings_TrimSuffix s (B #[10]) w (by omega)).mono fun e w' ⟨he, hw⟩ => ⟨_, he, hw ▸ Below.refl _ _, fun _ _ _ => .d (.v _ (decide_eq_true (by have := trim_size s; show (trimB s).size ≤ _; simp only [maxLen]; omega)))⟩
theorem last_lt (s : ByteArray) : -1 ≤ lastF s ∧ lastF s < s.size := by
 unfold lastF Lib.lastIndexByte
 rcases Lib.lastIdx_spec s 32 s.size with ⟨h, _⟩ | ⟨i, h1, h2, _, _⟩
 · rw [h]; omega
 · rw [h2]; omega
open Go.RowKit in
theorem last_fn (s : ByteArray) (hs : s.size ≤ 1000000) : Does Tryz.prog 43 [.d (.v (.string s)), .d (.v (.int .u8 32))] (.d (.v (.int .i64 (lastF s)))) 0 :=
 Does.of_freshV (xs := [.string s, .int .u8 32]) ⟨_, Tryz.func43, by kernel_rfl, by kernel_rfl⟩ fun w hu _ =>
  (Tryz.strings_LastIndexByte s 32 (by omega) w).mono fun e w' ⟨he, hw⟩ => ⟨_, he, hw ▸ Below.refl _ _, fun _ _ _ => .d (.v _ (by have := last_lt s; simp [okc, IntKind.min, IntKind.max, IntKind.signed, IntKind.bits]; show _ ≤ lastF s ∧ lastF s ≤ _; omega))⟩
theorem extract_le (s : ByteArray) (a b : Nat) : (s.extract a b).size ≤ s.size := by rw [ByteArray.size_extract]; omega
theorem tparse_fn (s : ByteArray) (hs : s.size ≤ 1000000) : Does Tryz.prog 44 [.d (.v (.string (s.extract ((lastF s).toNat + 1) s.size)))] (.tup [.d (.v (.int .i64 (tailF s).1)), .d (.v (.bool (tailF s).2))]) 0 :=
 nparse_fn _ (by have := extract_le s ((lastF s).toNat + 1) s.size; omega)
theorem hsplit_fn (s : ByteArray) (hs : s.size ≤ 1000000) : Does Tryz.prog 19 [.d (.v (.string (s.extract 0 (lastF s).toNat))), .d (.v (.string ⟨#[59]⟩))] (.d (.sl (txs (headF s)))) 0 :=
 split_fn _ 59 (by have := extract_le s 0 (lastF s).toNat; omega)
theorem tail_part {s : ByteArray} (h : 0 ≤ lastF s) : s.extract (lastF s + 1).toNat ((s.size : Int)).toNat = s.extract ((lastF s).toNat + 1) s.size := by
 rw [show (lastF s + 1).toNat = (lastF s).toNat + 1 by omega, Int.toNat_natCast]
theorem weight_iff (b : Bool) (n : Int) : (b = false ∨ n < 1 ∨ 1000000000000 < n) ↔ b = false ∨ wtOk n = false := by
 unfold wtOk
 cases b <;> by_cases h1 : 1 ≤ n <;> by_cases h2 : n ≤ 1000000000000 <;> simp [h1, h2] <;> omega
theorem nil_txs : ∀ l : List ByteArray, nilDss (txs l) = txs l
 | [] => rfl
 | x :: r => by
  have ih := nil_txs r
  show [nilD (cs x)] :: nilDss (txs r) = sc x :: txs r
  rw [ih]
  rfl
theorem nil_smp (n : Int) (l : List ByteArray) : nilDs [D.v (.int .i64 0), D.v (.int .i64 0), D.v (.int .i64 n), D.sl (txs l)] = [D.v (.int .i64 0), D.v (.int .i64 0), D.v (.int .i64 n), D.sl (txs l)] := by
 show [_, _, _, D.sl (nilDss (txs l))] = _
 rw [nil_txs]
 rfl
theorem line_fn (s : ByteArray) (hs : s.size ≤ 1000000) : Does Tryz.prog 21 [.d (.v (.string s))] (.tup [.ag (lineX s).c, .d (.v (.int .i64 (lineE s)))]) 0 := by
 have hb := last_lt s
 refine Does.of_V tab (n := 46) (rs := [.cell 2 37, .tmp 3]) Tryz.func21 (by kernel_rfl) rfl Tryz.ntmps21 Tryz.results21 rfl fun C hC hG => ?_
 refine W.seq (W.region ?_)
 refine allocR tab rfl rfl rfl ?_
 refine pE rfl ?_
 refine WO.nil (qs (W.seq (W.region ?_)))
 refine pE rfl ?_
 refine pu (puCall rfl rfl rfl (last_fn s hs) rfl) rfl ?_
 refine pE rfl ?_
 refine WO.nil (qs ?_)
 iterate 2 refine W.seq ?_
 refine W.region ?_
 iterate 2 refine pE rfl ?_
 refine WO.nil (qs ?_)
 refine condK rfl (fun h12 => ?_) (fun h12 => ?_)
 ·
  have hg : lineE s = 10 := by unfold lineE; rw [if_pos (by simpa using h12)]
  have hx : lineX s = smp0 := by unfold lineX; rw [if_neg (by rw [hg]; decide)]
  refine W.seq (W.region ?_)
  refine pu (build tab rfl rfl rfl rfl) rfl ?_
  try refine nilO 13 rfl rfl rfl ?_
  refine storeR tab rfl rfl rfl rfl rfl rfl rfl rfl ?_
  refine pE rfl ?_
  refine WO.nil (qs (W.ret (qsRet ?_)))
  refine QV.ret0 tab trivial rfl ?_
  rw [hg, hx]; rfl
 ·
  have hL : 0 ≤ lastF s := by simpa using h12
  refine W.skip (qs (W.seq (W.region ?_)))
  iterate 2 refine pE rfl ?_
  refine pu (puI (ev tab rfl) (y := lastF s + 1) (wrap64 (by omega))) rfl ?_
  refine pu (puS (strFrom (l := lastF s + 1) tab rfl rfl rfl rfl (by omega) (by omega)) (tail_part hL)) rfl ?_
  refine pu (puCall rfl rfl rfl (tparse_fn s hs) rfl) rfl ?_
  iterate 5 refine pE rfl ?_
  refine WO.nil (qs ?_)
  iterate 2 refine W.seq ?_
  apply regionB; (case hb => rfl)
  ·
   iterate 3 refine pE rfl ?_
   apply splitJ; (case hj => rfl); (case hl => rfl)
   ·
    iterate 2 refine skipT rfl rfl rfl rfl ?_
    iterate 2 refine pE rfl ?_
    iterate 2 refine skipT rfl rfl rfl rfl ?_
    refine pE rfl ?_
    refine WO.nil ?_
    refine qv1 rfl rfl rfl
   ·
    refine goG rfl rfl ?_
    refine pE rfl ?_
    refine goG rfl rfl ?_
    iterate 3 refine pE rfl ?_
    apply splitJ; (case hj => rfl); (case hl => rfl)
    ·
     iterate 2 refine skipT rfl rfl rfl rfl ?_
     refine pE rfl ?_
     refine WO.nil ?_
     refine qv1 rfl rfl rfl
    ·
     refine goG rfl rfl ?_
     refine pE rfl ?_
     refine goG rfl rfl ?_
     iterate 2 refine pE rfl ?_
     refine WO.nil ?_
     refine qv1 rfl rfl rfl
  refine qs ?_
  refine condK rfl (fun h31 => ?_) (fun h31 => ?_)
  ·
   have hg : lineE s = 10 := by unfold lineE; rw [if_neg (by omega), if_pos ((weight_iff _ _).1 (by simpa using h31))]
   have hx : lineX s = smp0 := by unfold lineX; rw [if_neg (by rw [hg]; decide)]
   refine W.seq (W.region ?_)
   refine pu (build tab rfl rfl rfl rfl) rfl ?_
   try refine nilO 32 rfl rfl rfl ?_
   refine storeR tab rfl rfl rfl rfl rfl rfl rfl rfl ?_
   refine pE rfl ?_
   refine WO.nil (qs (W.ret (qsRet ?_)))
   refine QV.ret0 tab trivial rfl ?_
   rw [hg, hx]; rfl
  ·
   have hw : ¬ ((tailF s).2 = false ∨ wtOk (tailF s).1 = false) := fun e => by have := (weight_iff _ _).2 e; simp at h31; rw [h31.1] at this; simp at this; omega
   have hg : lineE s = framesErr (headF s) := by unfold lineE; rw [if_neg (by omega), if_neg hw]
   refine W.skip (qs (W.seq (W.region ?_)))
   iterate 2 refine pE rfl ?_
   refine pu (strTo (h := lastF s) tab rfl rfl rfl rfl (by omega) (by omega)) rfl ?_
   refine pu (puCall rfl rfl rfl (hsplit_fn s hs) rfl) rfl ?_
   refine pE rfl ?_
   refine WO.nil (qs ?_)
   iterate 2 refine W.seq ?_
   refine W.region ?_
   refine pE rfl ?_
   refine pu (puCall rfl rfl rfl (frames_fn (headF s)) rfl) rfl ?_
   refine pE rfl ?_
   refine WO.nil (qs (W.seq (W.region ?_)))
   iterate 2 refine pE rfl ?_
   refine WO.nil (qs ?_)
   refine condK rfl (fun h40 => ?_) (fun h40 => ?_)
   ·
    have hx : lineX s = smp0 := by unfold lineX; rw [if_neg (by rw [hg]; simpa using h40)]
    refine W.seq (W.region ?_)
    refine pu (build tab rfl rfl rfl rfl) rfl ?_
    try refine nilO 41 rfl rfl rfl ?_
    refine pE rfl ?_
    refine storeR tab rfl rfl rfl rfl rfl rfl rfl rfl ?_
    refine pE rfl ?_
    refine WO.nil (qs (W.ret (qsRet ?_)))
    refine QV.ret0 tab trivial rfl ?_
    rw [hg, hx]; rfl
   ·
    have h0 : framesErr (headF s) = 0 := by simpa using h40
    have hx : lineX s = ⟨0, 0, (tailF s).1, headF s⟩ := by unfold lineX; rw [if_pos (by rw [hg, h0])]
    refine W.skip (qs (W.seq (W.region ?_)))
    iterate 2 refine pE rfl ?_
    refine pu (build tab rfl rfl rfl rfl) rfl ?_
    try refine nilO 45 rfl rfl rfl ?_
    refine storeR tab rfl rfl rfl rfl rfl rfl rfl rfl ?_
    refine pE rfl ?_
    refine WO.nil (qs (W.ret ?_))
    refine QV.ret0 tab trivial rfl ?_
    rw [hg, hx, h0, nil_smp]; rfl
end Go.Proofs.YtmhnnodofahpdaaGreatDoor
namespace Go.Proofs
open Go.Shelf
def Tryz.keysG_ren : Go.Shelf.Ren := ⟨fun | 7 => 27 | 10 => 50 | n => n, fun | 23 => 45 | 26 => 9 | 3 => 3 | 28 => 51 | 0 => 0 | 27 => 50 | 33 => 28 | 4 => 4 | n => n, fun | n => n⟩
theorem Tryz.keysG : Go.Proofs.SlLaysZ.n7 Tryz.prog Tryz.keysG_ren := {
 mixed := by kernel_rfl
 f7 := ⟨Tryz.f27.name, by decide, Tryz.func27.trans (congrArg some (by kernel_rfl))⟩
 f10 := ⟨Tryz.f50.name, by decide, Tryz.func50.trans (congrArg some (by kernel_rfl))⟩
 t0 := Tryz.underlying0
 a0 := Tryz.isAgg0
 z0 := Tryz.sizeOf0
 v0 := Tryz.zeroValue0
 t4 := Tryz.underlying4
 a4 := Tryz.isAgg4
 z4 := Tryz.sizeOf4
 v4 := Tryz.zeroValue4
 t23 := Tryz.underlying45
 a23 := Tryz.isAgg45
 z23 := Tryz.sizeOf45
 v23 := Tryz.zeroValue45
 t26 := Tryz.underlying9
 a26 := Tryz.isAgg9
 z26 := Tryz.sizeOf9
 v26 := Tryz.zeroValue9
 t27 := Tryz.underlying50
 a27 := Tryz.isAgg50
 z27 := Tryz.sizeOf50
 v27 := Tryz.zeroValue50
 t28 := Tryz.underlying51
 a28 := Tryz.isAgg51
 z28 := Tryz.sizeOf51
 v28 := Tryz.zeroValue51
 t33 := Tryz.underlying28
 a33 := Tryz.isAgg28
 z33 := Tryz.sizeOf28
 v33 := Tryz.zeroValue28 }
def Tryz.collectG_ren : Go.Shelf.Ren := ⟨fun | 8 => 48 | 11 => 64 | n => n, fun | 26 => 9 | 28 => 51 | 24 => 35 | 0 => 0 | 33 => 28 | 4 => 4 | n => n, fun | n => n⟩
theorem Tryz.collectG : Go.Proofs.SlLaysZ.n8 Tryz.prog Tryz.collectG_ren := {
 mixed := by kernel_rfl
 f8 := ⟨Tryz.f48.name, by decide, Tryz.func48.trans (congrArg some (by kernel_rfl))⟩
 f11 := ⟨Tryz.f64.name, by decide, Tryz.func64.trans (congrArg some (by kernel_rfl))⟩
 t0 := Tryz.underlying0
 a0 := Tryz.isAgg0
 z0 := Tryz.sizeOf0
 v0 := Tryz.zeroValue0
 t24 := Tryz.underlying35
 a24 := Tryz.isAgg35
 z24 := Tryz.sizeOf35
 v24 := Tryz.zeroValue35
 t26 := Tryz.underlying9
 a26 := Tryz.isAgg9
 z26 := Tryz.sizeOf9
 v26 := Tryz.zeroValue9
 t28 := Tryz.underlying51
 a28 := Tryz.isAgg51
 z28 := Tryz.sizeOf51
 v28 := Tryz.zeroValue51
 i26 := by kernel_rfl }
def Tryz.sortG_ren : Go.Shelf.Ren := ⟨fun | 6 => 49 | 15 => 66 | 14 => 65 | 28 => 87 | 29 => 88 | 20 => 79 | 21 => 80 | 22 => 81 | 23 => 82 | 24 => 83 | 25 => 84 | 26 => 85 | 27 => 86 | 46 => 100 | 47 => 101 | 48 => 102 | 49 => 103 | 50 => 104 | 57 => 114 | n => n, fun | 22 => 35 | 24 => 9 | 25 => 54 | 3 => 3 | 39 => 68 | 0 => 0 | 53 => 99 | 55 => 101 | 4 => 4 | 46 => 93 | 45 => 92 | 50 => 32 | 5 => 5 | 9 => 9 | 66 => 110 | 70 => 114 | 76 => 132 | 77 => 133 | n => n, fun | n => n⟩
theorem Tryz.sortG : Go.Proofs.SlLaysF.n6 Tryz.prog Tryz.sortG_ren := {
 mixed := by kernel_rfl
 f6 := ⟨Tryz.f49.name, by decide, Tryz.func49.trans (congrArg some (by kernel_rfl))⟩
 f14 := ⟨Tryz.f65.name, by decide, Tryz.func65.trans (congrArg some (by kernel_rfl))⟩
 f15 := Tryz.func66.trans (congrArg some (by kernel_rfl))
 f20 := ⟨Tryz.f79.name, by decide, Tryz.func79.trans (congrArg some (by kernel_rfl))⟩
 f21 := ⟨Tryz.f80.name, by decide, Tryz.func80.trans (congrArg some (by kernel_rfl))⟩
 f22 := ⟨Tryz.f81.name, by decide, Tryz.func81.trans (congrArg some (by kernel_rfl))⟩
 f23 := ⟨Tryz.f82.name, by decide, Tryz.func82.trans (congrArg some (by kernel_rfl))⟩
 f24 := ⟨Tryz.f83.name, by decide, Tryz.func83.trans (congrArg some (by kernel_rfl))⟩
 f25 := ⟨Tryz.f84.name, by decide, Tryz.func84.trans (congrArg some (by kernel_rfl))⟩
 f26 := ⟨Tryz.f85.name, by decide, Tryz.func85.trans (congrArg some (by kernel_rfl))⟩
 f27 := ⟨Tryz.f86.name, by decide, Tryz.func86.trans (congrArg some (by kernel_rfl))⟩
 f28 := Tryz.func87.trans (congrArg some (by kernel_rfl))
 f29 := Tryz.func88.trans (congrArg some (by kernel_rfl))
 f46 := ⟨Tryz.f100.name, by decide, Tryz.func100.trans (congrArg some (by kernel_rfl))⟩
 f47 := Tryz.func101.trans (congrArg some (by kernel_rfl))
 f48 := Tryz.func102.trans (congrArg some (by kernel_rfl))
 f49 := ⟨Tryz.f103.name, by decide, Tryz.func103.trans (congrArg some (by kernel_rfl))⟩
 f50 := ⟨Tryz.f104.name, by decide, Tryz.func104.trans (congrArg some (by kernel_rfl))⟩
 f57 := ⟨Tryz.f114.name, by decide, Tryz.func114.trans (congrArg some (by kernel_rfl))⟩
 t0 := Tryz.underlying0
 a0 := Tryz.isAgg0
 z0 := Tryz.sizeOf0
 v0 := Tryz.zeroValue0
 t3 := Tryz.underlying3
 a3 := Tryz.isAgg3
 z3 := Tryz.sizeOf3
 v3 := Tryz.zeroValue3
 t4 := Tryz.underlying4
 a4 := Tryz.isAgg4
 z4 := Tryz.sizeOf4
 v4 := Tryz.zeroValue4
 t5 := Tryz.underlying5
 a5 := Tryz.isAgg5
 z5 := Tryz.sizeOf5
 v5 := Tryz.zeroValue5
 t9 := Tryz.underlying9
 a9 := Tryz.isAgg9
 z9 := Tryz.sizeOf9
 v9 := Tryz.zeroValue9
 t22 := Tryz.underlying35
 a22 := Tryz.isAgg35
 z22 := Tryz.sizeOf35
 v22 := Tryz.zeroValue35
 a24 := Tryz.isAgg9
 z24 := Tryz.sizeOf9
 t25 := Tryz.underlying54
 a25 := Tryz.isAgg54
 z25 := Tryz.sizeOf54
 v25 := Tryz.zeroValue54
 t39 := Tryz.underlying68
 a39 := Tryz.isAgg68
 z39 := Tryz.sizeOf68
 v39 := Tryz.zeroValue68
 t45 := Tryz.underlying92
 a45 := Tryz.isAgg92
 z45 := Tryz.sizeOf92
 v45 := Tryz.zeroValue92
 t46 := Tryz.underlying93
 a46 := Tryz.isAgg93
 z46 := Tryz.sizeOf93
 v46 := Tryz.zeroValue93
 t50 := Tryz.underlying32
 a50 := Tryz.isAgg32
 z50 := Tryz.sizeOf32
 v50 := Tryz.zeroValue32
 t53 := Tryz.underlying99
 a53 := Tryz.isAgg99
 z53 := Tryz.sizeOf99
 v53 := Tryz.zeroValue99
 t55 := Tryz.underlying101
 a55 := Tryz.isAgg101
 z55 := Tryz.sizeOf101
 v55 := Tryz.zeroValue101
 t66 := Tryz.underlying110
 a66 := Tryz.isAgg110
 z66 := Tryz.sizeOf110
 v66 := Tryz.zeroValue110
 t70 := Tryz.underlying114
 a70 := Tryz.isAgg114
 z70 := Tryz.sizeOf114
 v70 := Tryz.zeroValue114
 t76 := Tryz.underlying132
 a76 := Tryz.isAgg132
 z76 := Tryz.sizeOf132
 v76 := Tryz.zeroValue132
 t77 := Tryz.underlying133
 a77 := Tryz.isAgg133
 z77 := Tryz.sizeOf133
 v77 := Tryz.zeroValue133 }
end Go.Proofs
namespace Go.Proofs.YtmhnnodofahpdaaGreatDoor
open Go.Ab Go.Tb Go.RowKit
theorem isNaN_w (x : ByteArray) (W : World) : Calls Tryz.prog 67 #[.string x] W fun e w' => e = .returned (.bool false) ∧ w' = W := by
 go_enter Tryz.func67, Tryz.ntmps67
 go_wp2
 go_ret
 exact ⟨by simp, rfl⟩
theorem cmpS_w (x y : ByteArray) (W : World) : Calls Tryz.prog 51 #[.string x, .string y] W fun e w' => e = .returned (.int .i64 (cmpS x y)) ∧ w' = W := by
 obtain ⟨q, hq⟩ : ∃ q, Op.bytesLess x.toList y.toList = q := ⟨_, rfl⟩
 obtain ⟨r, hr⟩ : ∃ r, (x.toList == y.toList) = r := ⟨_, rfl⟩
 have e : cmpS x y = if q then -1 else if r then 0 else 1 := by
  unfold cmpS
  rw [hq]
  congr 1
  subst hr
  by_cases q : x = y
  · subst q; simp
  ·
   have := toList_ne q
   rw [if_neg q, if_neg (by simpa using this)]
 rw [e]
 clear e
 cases q <;> cases r <;> simp only [Bool.false_eq_true, if_false, if_true] <;>
  (go_enter Tryz.func51, Tryz.ntmps51
   go_wp2_with (go_at_call 67; refine (isNaN_w _ _).mono ?_; rintro e w' ⟨rfl, rfl⟩)
   go_ret
   exact ⟨rfl, rfl⟩)
def Txs (W : World) (p : Option Addr) (l : List ByteArray) : Prop := ∀ (j : Nat) (s : ByteArray), l[j]? = some s → ∃ b o, p = some ⟨b, o, none⟩ ∧ W.cell? ⟨b, o + j, none⟩ = some (.string s)
theorem cmpTs_w (pa pb : Option Addr) (ca cb : Nat) (a b : List ByteArray) (W : World) (ha : Txs W pa a) (hb : Txs W pb b) (la : a.length ≤ 9223372036854775807) (_lb : b.length ≤ 9223372036854775807) :
  Calls Tryz.prog 29 #[.slice pa a.length ca, .slice pb b.length cb] W fun e w' => e = .returned (.int .i64 (cmpTs a b)) ∧ w' = W := by
 generalize hr : cmpTs a b = r
 generalize hn : a.length = n at la ⊢
 generalize hm : b.length = m at _lb ⊢
 have HA : Aside _ := ha
 have HB : Aside _ := hb
 clear ha hb
 go_enter Tryz.func29, Tryz.ntmps29
 go_wp2
 go_loopg [11] n (fun g s wr => ∃ k : Nat, k ≤ n ∧ k ≤ m ∧ n - k ≤ g ∧ s = .int .i64 k ∧ wr = W ∧ Aside (cmpTs (a.drop k) (b.drop k) = r))
 case atStart => exact ⟨0, Nat.zero_le _, Nat.zero_le _, by omega, rfl, rfl, hr⟩
 case round =>
  obtain ⟨k, hk, hkm, hg, rfl, rfl, HI⟩ := hrel
  by_cases hlt : k < n
  ·
   have hak : k < a.length := by omega
   obtain ⟨x, hx⟩ : ∃ x, x = a[k] := ⟨_, rfl⟩
   have hda : a.drop k = x :: a.drop (k + 1) := by rw [hx]; exact List.drop_eq_getElem_cons hak
   obtain ⟨b1, o1, rfl, c1⟩ := HA.out k x (by rw [hx]; exact List.getElem?_eq_getElem hak)
   by_cases hltm : k < m
   ·
    have hbk : k < b.length := by omega
    obtain ⟨y, hy⟩ : ∃ y, y = b[k] := ⟨_, rfl⟩
    have hdb : b.drop k = y :: b.drop (k + 1) := by rw [hy]; exact List.drop_eq_getElem_cons hbk
    obtain ⟨b2, o2, rfl, c2⟩ := HB.out k y (by rw [hy]; exact List.getElem?_eq_getElem hbk)
    have HS : cmpTs (a.drop k) (b.drop k) = if cmpS x y ≠ 0 then cmpS x y else cmpTs (a.drop (k + 1)) (b.drop (k + 1)) := by rw [hda, hdb, cmpTs]
    rw [HI.out] at HS
    have HS' : Aside _ := HS
    clear HS hda hdb hx hy hak hbk
    have cc := cmpS_w x y
    generalize hc : cmpS x y = c at cc HS'
    have HC : Aside _ := hc
    clear hc
    by_cases q : c = 0
    ·
     subst q
     go_wp2_with (go_at_call 51; refine (cc _).mono ?_; rintro e w' ⟨rfl, rfl⟩)
     go_roundg (n - (k + 1))
     case measure => omega
     case rel => exact ⟨k + 1, by omega, by omega, by omega, by go_num, rfl, by have := HS'.out; rw [if_neg (by simp)] at this; exact this.symm⟩
    ·
     have hcr : c = r := by have := HS'.out; rw [if_pos q] at this; exact this.symm
     subst hcr
     go_wp2_with (go_at_call 51; refine (cc _).mono ?_; rintro e w' ⟨rfl, rfl⟩)
     go_ret
     exact ⟨rfl, rfl⟩
   ·
    have hr1 : r = 1 := by
     have := HI.out
     rw [hda, show b.drop k = [] from List.drop_eq_nil_of_le (by omega), cmpTs] at this
     exact this.symm
    subst hr1
    clear hda hx hak
    go_wp2
    go_ret
    exact ⟨rfl, rfl⟩
  ·
   have : k = n := by omega
   subst this
   have hra : a.drop k = [] := List.drop_eq_nil_of_le (by omega)
   by_cases hltm : k < m
   ·
    have hr1 : r = -1 := by
     have := HI.out
     rw [hra, List.drop_eq_getElem_cons (show k < b.length by omega), cmpTs] at this
     exact this.symm
    subst hr1
    clear hra
    go_wp2
    go_ret
    exact ⟨rfl, rfl⟩
   ·
    have hr1 : r = 0 := by
     have := HI.out
     rw [hra, List.drop_eq_nil_of_le (show b.length ≤ k by omega), cmpTs] at this
     exact this.symm
    subst hr1
    clear hra
    go_wp2
    go_ret
    exact ⟨rfl, rfl⟩
theorem closure_w (bs : Nat) (mv va vb : Value) (na nb ca cb : Nat) (pa pb : Option Addr) (x y : ByteArray) (a b : List ByteArray) (W : World) (hbox : W.cell? ⟨bs, 0, none⟩ = some mv)
  (h1 : (Instr.lookup 46 mv (.string x) false).run Tryz.prog W = .ok va W) (h2 : (Instr.lookup 46 mv (.string y) false).run Tryz.prog W = .ok vb W) (hva : va = .slice pa na ca) (hvb : vb = .slice pb nb cb) (hna : a.length = na) (hnb : b.length = nb)
  (ha : Txs W pa a) (hb : Txs W pb b) (la : a.length ≤ 9223372036854775807) (lb : b.length ≤ 9223372036854775807) :
  Calls Tryz.prog 28 (#[.string x, .string y] ++ #[.pointer (some ⟨bs, 0, none⟩)]) W fun e w' => e = .returned (.int .i64 (cmpTs a b)) ∧ w' = W := by
 have hc := cmpTs_w pa pb ca cb a b W ha hb la lb
 rw [hna, hnb] at hc
 subst hva; subst hvb
 clear ha hb la lb hna hnb
 generalize cmpTs a b = r at hc ⊢
 go_enter Tryz.func28, Tryz.ntmps28
 go_wp2_with (go_at_call 29; refine hc.mono ?_; rintro e w' ⟨rfl, rfl⟩)
 go_ret
 exact ⟨rfl, rfl⟩
theorem txs_of {w : World} {pv : Nat → Nat → Prop} {v : Value} {l : List ByteArray} (h : RepD w pv v (.sl (txs l))) : ∃ p c, v = .slice p l.length c ∧ Txs w p l ∧ l.length ≤ 9223372036854775807 := by
 rcases RepD.strs h with ⟨rfl, a, c, rfl⟩ | ⟨b, off, c, rfl, h1, h2, h3⟩
 · exact ⟨a, c, rfl, fun j s hj => by simp at hj, by simp⟩
 · exact ⟨_, c, rfl, fun j s hj => ⟨b, off, rfl, (h3 j s hj).1⟩, by simp only [maxLen] at h2; omega⟩
theorem closure_at {w : World} {pv : Nat → Nat → Prop} {bs b2 : Nat} {l2 : List (ByteArray × List ByteArray)} (hbox : w.cell? ⟨bs, 0, none⟩ = some (.map (some b2))) (h2 : MapAt w pv b2 sk (fun s : List ByteArray => D.sl (txs s)) l2) (hn : (l2.map (·.1)).Nodup) (x y : ByteArray) :
  Calls Tryz.prog 28 (#[.string x, .string y] ++ #[.pointer (some ⟨bs, 0, none⟩)]) w fun e w' => e = .returned (.int .i64 (cmpK l2 x y)) ∧ w' = w := by
 obtain ⟨me, clock, hb, hst, hmi⟩ := h2
 obtain ⟨va, r1, p1⟩ := run_mapGet (P := Tryz.prog) tab (mt := 46) (e := 35) rfl rfl rfl (keyStr (tab.u_str rfl rfl)) (z := ([] : List ByteArray)) rfl rfl (RepD.nil) hb hmi hn x false
 obtain ⟨vb, r2, p2⟩ := run_mapGet (P := Tryz.prog) tab (mt := 46) (e := 35) rfl rfl rfl (keyStr (tab.u_str rfl rfl)) (z := ([] : List ByteArray)) rfl rfl (RepD.nil) hb hmi hn y false
 obtain ⟨pa, ca, e1, t1, l1⟩ := txs_of p1
 obtain ⟨pb, cb, e2, t2, l2'⟩ := txs_of p2
 exact closure_w bs _ va vb _ _ ca cb pa pb x y _ _ w hbox r1 r2 e1 e2 rfl rfl t1 t2 l1 l2'
open Go.Sort Go.Maps Go.Shelf in
theorem owns_of {w : World} {pv : Nat → Nat → Prop} {β : Type} {vf : β → D} {b : Nat} {l : List (ByteArray × β)} (h : MapAt w pv b sk vf l) (hl : l.length ≤ 1000000) :
  ∃ (D0 : DataW Unit), w.ownsMap Tryz.prog 9 (fun _ => some (.nil, [])) b l.length D0 ∧ Maps.size D0 = l.length ∧ (strKeys D0).Perm (l.map fun p => p.1.data.toList) := by
 obtain ⟨me, clock, hb, hst, hmi⟩ := h
 have hk : Tryz.prog.underlying 9 = some .string := tab.u_str rfl rfl
 have hkey : ∀ x ∈ me.toList, ∃ i : Nat, ∃ p : ByteArray × β, me[i]? = some x ∧ l[i]? = some p ∧ x.key = .string p.1 ∧ keyOf Tryz.prog 9 x.key = some (.string p.1.data.toList) := by
  intro x hx
  obtain ⟨i, hi⟩ := List.mem_iff_getElem?.1 hx
  have hi' : me[i]? = some x := by simpa using hi
  have hlt : i < l.length := by rw [← hmi.1]; exact (Array.getElem?_eq_some_iff.1 hi').1
  obtain ⟨h1, h2, _⟩ := hmi.2 i x l[i] hi' (by simp [hlt])
  refine ⟨i, l[i], hi', by simp [hlt], h1, ?_⟩
  rw [h1]
  exact Go.WideMaps.keyOf_string_mk hk (by simpa [okc] using h2)
 have F : Go.WideElems.Fit Tryz.prog 9 (fun _ => some ((DataW.nil : DataW Unit), ([] : List MemPlace))) me clock := ⟨by rw [hmi.1]; simp only [maxLen]; omega, hst, fun x hx => by
  obtain ⟨i, p, _, _, _, h4⟩ := hkey x hx
  exact ⟨_, Go.WideElems.rd_mk (key := x.key) (val := x.val) (born := x.born) h4 rfl⟩⟩
 refine ⟨_, by have := World.ownsMap_of_fit (P := Tryz.prog) (k := 9) (R := fun _ => some ((DataW.nil : DataW Unit), ([] : List MemPlace))) hb F (fun _ _ _ h => h); rw [hmi.1] at this; exact this, ?_, ?_⟩
 · rw [Maps.size_eq, Go.length_sorted]; simp [hmi.1]
 ·
  show (List.map (fun p : Lit × DataW Unit => Go.strOf p.1) _).Perm _
  refine ((Go.WideShapes.sorted_perm _).map _).trans ?_
  rw [List.map_map]
  refine List.Perm.of_eq (List.ext_getElem? fun i => ?_)
  simp only [List.getElem?_map, Array.getElem?_toList]
  cases hm : me[i]? with
  | none =>
   have : l[i]? = none := by rw [List.getElem?_eq_none_iff, ← hmi.1]; exact Array.getElem?_eq_none_iff.1 hm
   rw [this]; rfl
  | some x =>
   have hx : x ∈ me.toList := by simpa using Array.mem_of_getElem? hm
   have hlt : i < l.length := by rw [← hmi.1]; exact (Array.getElem?_eq_some_iff.1 hm).1
   obtain ⟨h1, h2, _⟩ := hmi.2 i x l[i] hm (by simp [hlt])
   have h4 : keyOf Tryz.prog 9 x.key = some (.string (l[i]).1.data.toList) := by rw [h1]; exact Go.WideMaps.keyOf_string_mk hk (by simpa [okc] using h2)
   have h5 := Go.WideElems.rg_of (Go.WideElems.rd_mk (P := Tryz.prog) (k := 9) (R := fun _ => some ((DataW.nil : DataW Unit), ([] : List MemPlace))) (key := x.key) (val := x.val) (born := x.born) h4 rfl)
   rw [show l[i]? = some l[i] by simp [hlt]]
   simp only [Option.map_some, Function.comp]
   have e : (⟨x.key, x.val, x.born⟩ : MapEntry) = x := rfl
   rw [e] at h5
   rw [h5]
   rfl
theorem ofL_back (s : ByteArray) : ofL s.data.toList = s := ofL_bys s
theorem cmpK_swo (m : List (ByteArray × List ByteArray)) : Go.Sort.SWO (ltOf fun x y : List UInt8 => cmpK m (ofL x) (ofL y)) where
 irrefl x := by
  unfold ltOf
  have : cmpK m (ofL x) (ofL x) = 0 := (cmpK_laws m).self _
  show decide (cmpK m (ofL x) (ofL x) < 0) = false
  rw [this]; rfl
 trans x y z h g := by
  have c := cmpK_laws m
  simp only [ltOf, decide_eq_true_eq] at h g ⊢
  exact c.left h (by omega)
 ntrans x y z h g := by
  have c := cmpK_laws m
  simp only [ltOf, decide_eq_false_iff_not] at h g ⊢
  have h1 := c.anti (ofL x) (ofL y)
  have h2 := c.anti (ofL y) (ofL z)
  have h3 := c.anti (ofL x) (ofL z)
  have := c.tr (ofL z) (ofL y) (ofL x) (by omega) (by omega)
  omega
theorem rep_of_row {w : World} {g cap : Nat} {ks : List ByteArray} {T : TypeId} {cur : Array Value} (hb : w.heap[g]? = some (.cells cur T (0, 0))) (h1 : ks.length ≤ cap) (h2 : cap ≤ maxLen) (hc : cur.toList.take ks.length = ks.map Value.string) (hs : ∀ s ∈ ks, s.size ≤ maxLen)
  {pv : Nat → Nat → Prop} (hp : ∀ o, ¬ pv g o) : RepD w pv (.slice (some ⟨g, 0, none⟩) ks.length cap) (.sl (txs ks)) :=
 RepD.newStrs (b := g) (l := ks) (arr := cur) hb h1 h2 (fun j s hj => ⟨by
  have hlt : j < ks.length := (List.getElem?_eq_some_iff.1 hj).1
  have := congrArg (fun l => l[j]?) hc
  simp only [List.getElem?_take_of_lt hlt, List.getElem?_map, hj, Option.map_some] at this
  simpa using this, hs s (List.mem_of_getElem? hj)⟩) hp
set_option maxRecDepth 100000 in
set_option maxHeartbeats 1000000 in
open Go.Sort Go.Maps Go.Shelf in
theorem sortedFunc_w {β : Type} {vf : β → D} {w : World} {pv : Nat → Nat → Prop} {B bs b1 b2 : Nat} {l1 : List (ByteArray × β)} {l2 : List (ByteArray × List ByteArray)} (hB : w.cell? ⟨B, 0, none⟩ = some (.map (some b1))) (hbs : w.cell? ⟨bs, 0, none⟩ = some (.map (some b2)))
  (h1 : MapAt w pv b1 sk vf l1) (h2 : MapAt w pv b2 sk (fun s : List ByteArray => D.sl (txs s)) l2) (hn2 : (l2.map (·.1)).Nodup) (hl : l1.length ≤ 1000000) :
  Calls Tryz.prog 26 #[.func (.func 50) #[] #[.pointer (some ⟨B, 0, none⟩)], .func (.func 28) #[] #[.pointer (some ⟨bs, 0, none⟩)]] w fun e w' =>
   ∃ v ks, e = .returned v ∧ Below w.heap.size w w' ∧ ks.Perm (l1.map (·.1)) ∧ ks.Pairwise (fun a b => ¬ cmpK l2 b a < 0) ∧ ∀ pv' : Nat → Nat → Prop, (∀ b o, pv' b o → b < w.heap.size) → RepD w' pv' v (.sl (txs ks)) := by
 have hBlt : B < w.heap.size := by
  have := cellAt_lt (w := w) (b := B) (o := 0) hB; exact this
 have hbslt : bs < w.heap.size := by
  have := cellAt_lt (w := w) (b := bs) (o := 0) hbs; exact this
 have hb2lt : b2 < w.heap.size := by
  obtain ⟨me, clock, hb, _⟩ := h2; exact (Array.getElem?_eq_some_iff.1 hb).1
 have hok : ∀ p ∈ l1, p.1.size ≤ maxLen := by
  obtain ⟨me, clock, hb, _, hmi⟩ := h1
  intro p hp
  obtain ⟨i, hi⟩ := List.mem_iff_getElem?.1 hp
  have hlt : i < me.size := by rw [hmi.1]; exact (List.getElem?_eq_some_iff.1 hi).1
  simpa [okc] using (hmi.2 i me[i] p (by simp [hlt]) hi).2.1
 obtain ⟨D0, hown, hsz, hkeys⟩ := owns_of h1 hl
 have hmax : Maps.size D0 ≤ maxLen := by rw [hsz]; simp only [maxLen]; omega
 have hbytes : Maps.size D0 * 16 ≤ 140737488355328 := by rw [hsz]; omega
 have hseq : SeqGives Fence.wide 3 Tryz.prog 50 #[.pointer (some ⟨B, 0, none⟩)] encStr (fun ss => ss.Perm (strKeys D0)) (Maps.size D0) w :=
  AnyZ.keys_gives (ρ := Tryz.keysG_ren) { Tryz.keysG with } Fence.wide _ trivial rfl (by omega) B b1 l1.length D0 w hBlt hB hown
 have cC := AnyZ.collect_in Tryz.collectG Fence.wide 5 trivial trivial rfl (by omega) 50 #[.pointer (some ⟨B, 0, none⟩)] trivial (enters_of Tryz.func50 (by kernel_rfl) rfl) _ _ hmax hbytes _ hseq
 change CallsIn _ _ Tryz.prog 48 _ _ _ at cC
 have cC' := callsIn_wide.1 cC
 clear cC
 have base : ∀ (v : Value) (ss : List (List UInt8)) (W : World), ss.Perm (strKeys D0) → W.ownsRow w.heap.size 9 1 v ss.length (ss.map encStr) → Below w.heap.size w W →
   Calls Tryz.prog 49 #[v, .func (.func 28) #[] #[.pointer (some ⟨bs, 0, none⟩)]] W fun e w' => e = .returned (.tuple #[]) ∧ Below w.heap.size w w' ∧ ∃ ks, ks.Perm (l1.map (·.1)) ∧ ks.Pairwise (fun a b => ¬ cmpK l2 b a < 0) ∧ ∀ pv' : Nat → Nat → Prop, (∀ b o, pv' b o → b < w.heap.size) → RepD w' pv' v (.sl (txs ks)) := by
  intro v ss W hS hrow hbel
  have hlen : ss.length = l1.length := by rw [hS.length_eq, hkeys.length_eq, List.length_map]
  rcases hrow.2 with ⟨rfl, hz⟩ | ⟨g, cap, cur, rfl, hbase, hgb, r1, r2, r3, r4⟩
  ·
   have hnil : l1 = [] := List.eq_nil_of_length_eq_zero (by omega)
   refine (AnyF.slices_SortFunc_none (ρ := Tryz.sortG_ren) { Tryz.sortG with } none 0 _ W).mono ?_
   rintro e w' ⟨rfl, rfl⟩
   exact ⟨rfl, hbel, [], by rw [hnil]; exact List.Perm.refl _, List.Pairwise.nil, fun _ _ => RepD.nil⟩
  ·
   have hH : Holds encStr W g 0 ss.toArray := holds_of_block hgb (by simpa using r4)
   have hgl : g < W.heap.size := (Array.getElem?_eq_some_iff.1 hgb).1
   have hcmp : CmpLays1 Tryz.prog 28 #[.pointer (some ⟨bs, 0, none⟩)] encStr (fun x y => cmpK l2 (ofL x) (ofL y)) g 0 ss.toArray.size W := by
    intro m os dk hdk x y
    have hB3 : Below w.heap.size w (sortWorld encStr W g 0 m dk os) := hbel.grown (row := some g) (grownBy_sorted dk) hbel.size (fun j hj => by cases hj; exact hbase)
    have hcb : (sortWorld encStr W g 0 m dk os).cell? ⟨bs, 0, none⟩ = some (.map (some b2)) := (World.cell?_of_block (hB3.block bs hbslt)).trans hbs
    have hmp : MapAt (sortWorld encStr W g 0 m dk os) pv b2 sk (fun s : List ByteArray => D.sl (txs s)) l2 := by
     obtain ⟨me, clock, hb, hst, hmi⟩ := h2
     exact ⟨me, clock, (hB3.block b2 hb2lt).trans hb, hst, hmi.mono fun b o u hu hn => ⟨by rw [cellAt_same (hB3.block b (cellAt_lt hu))]; exact hu, hn⟩⟩
    exact (closure_at hcb hmp hn2 (ofL x) (ofL y)).mono fun e w' ⟨he, hw⟩ => ⟨he, 0, #[], by rw [hw, grow_empty]; rfl⟩
   have cS := Any.slices_SortFunc Tryz.sortG encStr (fun _ => rfl) (fun x y => cmpK l2 (ofL x) (ofL y)) (cmpK_swo l2) 28 #[.pointer (some ⟨bs, 0, none⟩)] g 0 cap ss.toArray W (enters_of Tryz.func28 (by kernel_rfl) rfl) hcmp hH hgl (by simp; omega)
   rw [List.size_toArray] at cS
   refine cS.mono ?_
   rintro e w' ⟨rfl, d', n, os, hp, hs, rfl⟩
   have hB3 : Below w.heap.size w (sortWorld encStr W g 0 n d' os) := hbel.grown (row := some g) (grownBy_sorted d') hbel.size (fun j hj => by cases hj; exact hbase)
   have hd : d'.toList.Perm ss := by
    have h3 := hp.2.2
    have h4 := hp.1
    simp only [List.size_toArray] at h4
    have e1 : d'.extract 0 ss.length = d' := by rw [← h4]; exact Array.extract_size ..
    have e2 : ss.toArray.extract 0 ss.length = ss.toArray := by
     simp
    rw [e1, e2] at h3
    simpa using h3
   have hdl : d'.toList.length = ss.length := hd.length_eq
   have hperm : (d'.toList.map ofL).Perm (l1.map (·.1)) := by
    refine ((hd.trans (hS.trans hkeys)).map ofL).trans ?_
    rw [List.map_map]
    exact List.Perm.of_eq (List.map_congr_left fun p _ => ofL_back _)
   refine ⟨rfl, hB3, d'.toList.map ofL, hperm, ?_, fun pv' hpv => ?_⟩
   ·
    rw [List.pairwise_map, List.pairwise_iff_getElem]
    intro i j hi hj hij
    have := hs i j (Nat.zero_le _) hij (by rw [← hdl]; exact hj)
    simp only [ltOf, decide_eq_false_iff_not] at this
    have gi : d'[i]! = d'.toList[i] := by rw [getElem!_pos d' i (by simpa using hi)]; simp
    have gj : d'[j]! = d'.toList[j] := by rw [getElem!_pos d' j (by simpa using hj)]; simp
    rw [gi, gj] at this
    exact this
   ·
    have hrow2 := ownsRow_sorted (n := n) (os := os) (ts := d'.toList) (ss := ss) hdl hbase hgb r1 r2 r3
    rw [Array.toArray_toList] at hrow2
    rcases hrow2.2 with ⟨he, _⟩ | ⟨g', cap', cur', he, _, hgb', r1', r2', _, r4'⟩
    · cases he
    ·
     cases he
     have hl2 : ss.length = (d'.toList.map ofL).length := by rw [List.length_map, hdl]
     rw [hl2]
     refine rep_of_row hgb' (by rw [← hl2]; exact r1') r2' ?_ (fun s hs => ?_) (fun o hp => by have := hpv _ _ hp; omega)
     · rw [← hl2, ← Nat.mul_one ss.length, r4', List.map_map]; rfl
     ·
      obtain ⟨p, hp, rfl⟩ := List.mem_map.1 (hperm.mem_iff.1 hs)
      exact hok p hp
 go_enter Tryz.func26, Tryz.ntmps26
 go_wp2_with (first
  | (go_at_call 48; refine cC'.mono ?_; rintro e W ⟨v, ss, rfl, hS, hrow, hnil, hbel⟩)
  | (go_at_call 49; refine (base _ _ _ hS hrow hbel).mono ?_; rintro e w' ⟨rfl, hb3, ks, k1, k2, k3⟩))
 go_ret
 exact ⟨_, rfl, hb3, ks, k1, k2, k3⟩
end Go.Proofs.YtmhnnodofahpdaaGreatDoor
namespace Go.Proofs.YtmhnnodofahpdaaGreatDoor
open Go.Ab Go.Tb Go.RowKit
section
variable {C : Ctx} {n : Nat} {ops : Array Oper} {Q : Exit → St → Prop} {rest : List Oper}
variable {f : List (Nat × A)} {bx : List (Nat × List A)} {lv : List Nat} {gen : Nat} {d : Nat} {ty : TypeId} {pos : String} {af : Array Edge} {dst : Option Nat}
theorem run_enter {P : Program} {act : Act} {w : World} {x : Operand} {xs : Array Operand} {tys : Array TypeId} {fid : FuncId} {vs : Array Value} (hx : Act.eval act x = .func (.func fid) #[] vs) (ok : FnOK P fid) :
  (execOp (Act.eval act) ⟨dst, .call ⟨.value x, xs, tys⟩, ty, pos, af, none⟩).run P w = .ok (.enter fid (xs.map (Act.eval act) ++ vs)) w := by
 obtain ⟨fn, hfn, hname, hbody⟩ := ok
 unfold execOp
 show Sem.run P (do let d ← resolve (Act.eval act) ⟨.value x, xs, tys⟩ ty; invoke d.target d.args) w = _
 simp only [resolve, hx, Deferred.ofValue, Sem.run_bind, Sem.run_pure, Result.andThen_ok, invoke, callFunc, run_program, hfn, hname, hbody, Bool.false_eq_true, if_false, Array.empty_append]
theorem map_val {G : Gh} {tmps : Array Value} {w : World} (hs : SimG C n ⟨f, bx, lv, gen⟩ G tmps w) {v : Value} {g : Nat} {es : List (Value × List D)} (hr : Rep (enOf C G gen w) v (.mp g es)) (hgl : g ∈ lv) : ∃ b, G.own g = some (.mp b) ∧ v = .map (some b) := by
 obtain ⟨r, hgr⟩ := hs.live g hgl
 cases hr with
 | mp _ _ _ hgg h1 hrow =>
 have hx := hrow r hgr
 cases r with
 | nil => exact hx.elim
 | zero b => exact hx.elim
 | blk b len cap sz pub => exact hx.elim
 | mp b => exact ⟨b, hgr, hx.1⟩
theorem keysCall {x y : Operand} {tys : Array TypeId} {g : Nat} {es : List (Value × List D)} (hx : av f x = some (.clo 27 [])) (hy : av f y = some (.mp g es)) (hgl : (lv.any fun h => Nat.beq h g) = true) (hd : Nat.blt d n = true)
  (h : WO Tryz.prog C n ops Q rest ⟨(d, .clo 50 [.ptr gen 0]) :: f, (gen, [.mp g es]) :: bx, lv, gen + 1⟩) : WO Tryz.prog C n ops Q (⟨some d, .call ⟨.value x, #[y], tys⟩, ty, pos, af, none⟩ :: rest) ⟨f, bx, lv, gen⟩ := by
 refine WO.step (st := ⟨f, bx, lv, gen⟩) rfl fun tmps w ⟨G, hs⟩ => ?_
 have hrx := hs.av hx
 have hry := hs.av hy
 generalize hvx : Act.eval ⟨tmps, []⟩ x = vx at hrx
 generalize hvy : Act.eval ⟨tmps, []⟩ y = vy at hry
 obtain ⟨b, hgb, rfl⟩ := map_val hs hry (memAny hgl)
 cases hrx with
 | clo _ vs _ hsz _ =>
 have hvs : vs = #[] := Array.eq_empty_of_size_eq_zero (by simpa using hsz)
 subst hvs
 have hrun := run_enter (P := Tryz.prog) (dst := some d) (ty := ty) (pos := pos) (af := af) (w := w) (xs := #[y]) (tys := tys) hvx ⟨_, Tryz.func27, by kernel_rfl, by kernel_rfl⟩
 unfold Gives
 rw [hrun]
 have e : #[y].map (Act.eval ⟨tmps, []⟩) ++ #[] = #[.map (some b)] := by simp [hvy]
 rw [e]
 have hc : CallsIn Fence.wide 5 Tryz.prog 27 #[.map (some b)] w fun e w' => e = .returned (.func (.func 50) #[] #[.pointer (some ⟨w.heap.size, 0, none⟩)]) ∧ w' = w.alloc (.cells #[.map (some b)] 45) := AnyZ.keys_in Tryz.keysG Fence.wide 5 trivial rfl (some b) w
 refine (callsIn_wide.1 hc).mono ?_
 rintro e w' ⟨rfl, rfl⟩
 obtain ⟨G1, hle, hs1, hr1⟩ := hs.mkBox #[.map (some b)] 45 [.mp g es] rfl (fun i u hu => by
  match i with
  | 0 => simp at hu; subst hu; rfl
  | i + 1 => simp at hu) (fun i u a hu ha => by
  match i with
  | 0 => simp at hu ha; subst hu; subst ha; exact hry
  | i + 1 => simp at hu)
 refine ⟨_, rfl, _, ⟨G1, hs1.put (dst := some d) (dstOK_lt (dst := some d) hd) (.clo 50 _ [.ptr gen 0] rfl (fun i u a hu ha => ?_))⟩, h⟩
 match i with
 | 0 => simp at hu ha; subst hu; subst ha; exact hr1
 | i + 1 => simp at hu
theorem sortedCall {x y z : Operand} {tys : Array TypeId} {gk gs g1 g2 : Nat} {β : Type} {vf : β → D} {l1 : List (ByteArray × β)} {l2 : List (ByteArray × List ByteArray)} {K : List ByteArray} (hx : av f x = some (.clo 26 [])) (hy : av f y = some (.clo 50 [.ptr gk 0])) (hz : av f z = some (.clo 28 [.ptr gs 0]))
  (hk : look' bx gk = some [.mp g1 (mes sk vf l1)]) (hs2 : look' bx gs = some [.mp g2 (mes sk (fun s : List ByteArray => D.sl (txs s)) l2)]) (hl1 : (lv.any fun h => Nat.beq h g1) = true) (hl2 : (lv.any fun h => Nat.beq h g2) = true)
  (hn2 : (l2.map (·.1)).Nodup) (hl : l1.length ≤ 1000000) (hK : ∀ ks : List ByteArray, ks.Perm (l1.map (·.1)) → (ks.Pairwise fun a b => ¬ cmpK l2 b a < 0) → ks = K) :
  Pu Tryz.prog C n ⟨f, bx, lv, gen⟩ ⟨dst, .call ⟨.value x, #[y, z], tys⟩, ty, pos, af, none⟩ (.d (.sl (txs K))) := by
 intro G tmps w hs
 have hrx := hs.av hx
 have hry := hs.av hy
 have hrz := hs.av hz
 generalize hvx : Act.eval ⟨tmps, []⟩ x = vx at hrx
 generalize hvy : Act.eval ⟨tmps, []⟩ y = vy at hry
 generalize hvz : Act.eval ⟨tmps, []⟩ z = vz at hrz
 cases hrx with
 | clo _ vs _ hsz _ =>
 have hvs : vs = #[] := Array.eq_empty_of_size_eq_zero (by simpa using hsz)
 subst hvs
 have cell : ∀ {g0 g : Nat} {es : List (Value × List D)} {v : Value} {k : FuncId} (_ : look' bx g0 = some [.mp g es]) (_ : g ∈ lv) (_ : Rep (enOf C G gen w) v (.clo k [.ptr g0 0])), ∃ B b, v = .func (.func k) #[] #[.pointer (some ⟨B, 0, none⟩)] ∧ w.cell? ⟨B, 0, none⟩ = some (.map (some b)) ∧ G.own g = some (.mp b) ∧ Rep (enOf C G gen w) (.map (some b)) (.mp g es) := by
  intro g0 g es v k hb hg hr
  obtain ⟨B, cs, T, p1, p2, p3, p4, p5⟩ := hs.box g0 _ hb
  have hj : 0 < cs.size := by rw [p3]; simp
  have hx0 : cs[0]? = some cs[0] := by simp [hj]
  have hrep := p5 0 _ _ hx0 rfl
  obtain ⟨b, h1, h2⟩ := map_val hs hrep hg
  refine ⟨B, b, ?_, ?_, h1, h2 ▸ hrep⟩
  ·
   cases hr with
   | clo _ ws _ hw hd =>
   have hw1 : ws.size = 1 := by simpa using hw
   obtain ⟨u, rfl⟩ : ∃ u, ws = #[u] := ⟨ws[0], by apply Array.ext (by simp [hw1]); intro i h1 h2; match i with
    | 0 => rfl
    | i + 1 => simp at h2⟩
   have := hd 0 u _ rfl rfl
   cases this with
   | ptr _ _ _ b0 _ hb0 hx0 =>
   have hbb : G.box g0 = some b0 := hb0
   rw [p1] at hbb
   cases hbb
   rw [hx0]
  ·
   show cellAt w B 0 = _
   rw [cellAt_row p2, hx0, h2]
 obtain ⟨B, b1, rfl, c1, o1, r1⟩ := cell hk (memAny hl1) hry
 obtain ⟨bs, b2, rfl, c2, o2, r2⟩ := cell hs2 (memAny hl2) hrz
 obtain ⟨b1', o1', e1, m1⟩ := hs.mapAt r1 (memAny hl1)
 obtain ⟨b2', o2', e2, m2⟩ := hs.mapAt r2 (memAny hl2)
 cases e1; cases e2
 have hrun := run_enter (P := Tryz.prog) (dst := dst) (ty := ty) (pos := pos) (af := af) (w := w) (xs := #[y, z]) (tys := tys) hvx ⟨_, Tryz.func26, by kernel_rfl, by kernel_rfl⟩
 unfold Gives
 rw [hrun]
 have e : #[y, z].map (Act.eval ⟨tmps, []⟩) ++ #[] = #[.func (.func 50) #[] #[.pointer (some ⟨B, 0, none⟩)], .func (.func 28) #[] #[.pointer (some ⟨bs, 0, none⟩)]] := by simp [hvy, hvz]
 rw [e]
 refine (sortedFunc_w c1 c2 m1 m2 hn2 hl).mono ?_
 rintro e w' ⟨v, ks, rfl, hb, k1, k2, k3⟩
 refine ⟨v, rfl, hb, ?_⟩
 rw [← hK ks k1 k2]
 refine .d (k3 _ fun b o hp => ?_)
 rcases hp with hp | ⟨g, hp⟩ | ⟨g, len, cap, sz, pub, hp, _⟩
 · exact Nat.lt_of_lt_of_le (hs.xold b o hp).1 hs.fr.size
 · exact (hs.gbox g b hp).2.1
 ·
  obtain ⟨_, _, _, cur, T, h3, _⟩ := hs.row g b len cap sz pub hp
  exact (Array.getElem?_eq_some_iff.1 h3).1
end
end Go.Proofs.YtmhnnodofahpdaaGreatDoor
namespace Go.Proofs.YtmhnnodofahpdaaGreatDoor
open Go.Ab Go.RowKit
abbrev tB : Nat := 58
abbrev tU : Nat := 5
theorem bld_cc : FnOK Tryz.prog 52 := ⟨_, Tryz.func52, by kernel_rfl, by kernel_rfl⟩
theorem bld_st : FnOK Tryz.prog 32 := ⟨_, Tryz.func32, by kernel_rfl, by kernel_rfl⟩
theorem bld_size : (Tryz.prog.info? 58).map (·.size) = some 2 := by kernel_rfl
theorem bld_lies : liesAt Tryz.prog Tryz.prog.depth 58 (2 / Tryz.prog.cellsOf 58) 0 58 1 = true := by kernel_rfl
set_option maxHeartbeats 1000000 in
set_option maxRecDepth 100000 in
theorem bld_used (b : Nat) (w : World) (h0 : w.cell? ⟨b, 0, none⟩ = some (.pointer (some ⟨b, 0, none⟩))) : Calls Tryz.prog 52 #[.pointer (some ⟨b, 0, none⟩)] w fun e w' => e = .returned (.tuple #[]) ∧ w' = w := by
 obtain ⟨j, hj, _⟩ := Option.map_eq_some_iff.1 bld_size
 go_enter Tryz.func52, Tryz.ntmps52
 go_wp2
 rw [Lib.run_neq_ptr_same w _ (by kernel_rfl : Tryz.prog.underlying 55 = some (.pointer 58)) hj]
 go_wp2
 go_end0
 exact ⟨rfl, rfl⟩
set_option maxHeartbeats 1000000 in
set_option maxRecDepth 100000 in
theorem bld_fresh (b : Nat) (w : World) (h0 : w.cell? ⟨b, 0, none⟩ = some (.pointer none)) (hsh : w.shape? b = some (58, 2)) (hfz : w.frozen? ⟨b, 0, none⟩ = false) :
  Calls Tryz.prog 52 #[.pointer (some ⟨b, 0, none⟩)] w fun e w' => e = .returned (.tuple #[]) ∧ w' = w.setCell ⟨b, 0, none⟩ (.pointer (some ⟨b, 0, none⟩)) := by
 obtain ⟨j, hj, hjs⟩ := Option.map_eq_some_iff.1 bld_size
 have t55 : Tryz.prog.underlying 55 = some (.pointer 58) := by kernel_rfl
 have t84 : Tryz.prog.underlying 84 = some .unsafePointer := by kernel_rfl
 go_enter Tryz.func52, Tryz.ntmps52
 go_wp2
 rw [Lib.run_to_unsafe w ⟨b, 0, none⟩ t55 t84 hj (by rw [hjs]; decide) hsh (Nat.zero_lt_succ 1)]
 simp only [Result.andThen]
 rw [Oper.upon_value]
 go_wp2
 rw [run_callFunc_extern Tryz.func68 (by kernel_rfl) (by kernel_rfl) (by kernel_rfl) (e := Extern.AbiNoEscape.same) (by kernel_rfl)]
 rw [Lib.run_noEscape]
 simp only [Result.andThen]
 rw [Oper.upon_value]
 go_wp2
 rw [Lib.run_from_unsafe w ⟨b, 0, none⟩ t84 t55 hj hsh bld_lies]
 simp only [Result.andThen]
 rw [Oper.upon_value]
 go_wp2
 go_end0
 exact ⟨rfl, rfl⟩
theorem bld_copy : CopyChecks Tryz.prog tB 52 where
 used := bld_used
 fresh := bld_fresh
theorem bld_str : StrGives Tryz.prog tB tU 32 := fun B b l w h hB => Tryz.Builder_String_any B b l w h hB
end Go.Proofs.YtmhnnodofahpdaaGreatDoor
namespace Go.Proofs.YtmhnnodofahpdaaGreatDoor
open Go.Ab Go.Tb
set_option maxRecDepth 10000
attribute [local irreducible] W WO Pu QS QB QL QF QV QV1 CH QE
theorem copyCheck_fn (u : Bool) (s : ByteArray) : DoesB Tryz.prog 52 [.ptr 0 0] [[.np 0 tB u, .bf 1 tU s]] 1 (.tup []) [[.np 0 tB true, .bf 1 tU s]] 1 := CopyChecks.does bld_cc bld_copy u (.bf 1 tU s) 1
theorem bwrite_fn (u : Bool) (s x : ByteArray) (hb : s.size + x.size ≤ 140737488355328) : DoesB Tryz.prog 30 [.ptr 0 0, .d (.v (.string x))] [[.np 0 tB u, .bf 1 tU s]] 1 (.tup [.d (.v (.int .i64 x.size)), .d (.v .nilIface)]) [[.np 0 tB true, .bf 1 tU (s ++ x)]] 1 := by
 refine DoesB.of_V tab (n := 19) (rs := [.tmp 4, .tmp 5]) Tryz.func30 (by kernel_rfl) rfl Tryz.ntmps30 Tryz.results30 rfl rfl fun C hC hG => ?_
 refine W.seq (W.region ?_)
 iterate 2 refine pE rfl ?_
 refine WO.nil (qs (W.seq (W.region ?_)))
 refine pE rfl ?_
 refine callB [0] [1] rfl rfl rfl rfl rfl ((copyCheck_fn u s)) rfl rfl (by rfl) (by rfl) rfl rfl rfl rfl ?_
 refine WO.nil (qs (W.seq (W.region ?_)))
 iterate 4 refine pE rfl ?_
 first | refine pE rfl ?_ | refine pR rfl rfl rfl rfl rfl ?_ | refine pB rfl rfl rfl rfl rfl rfl ?_
 refine pE rfl ?_
 refine appendStrB tab rfl rfl rfl rfl rfl rfl rfl rfl rfl rfl hb rfl rfl ?_
 iterate 2 refine pE rfl ?_
 refine storeR tab rfl rfl rfl rfl rfl rfl rfl rfl ?_
 refine WO.nil (qs (W.seq (W.region ?_)))
 iterate 4 refine pE rfl ?_
 refine WO.nil (qs (W.ret ?_))
 refine QB1.end tab [4] trivial rfl rfl rfl rfl ?_ ?_
 · exact ⟨rfl, trivial⟩
 rfl
theorem okS_size {x : Smp} (h : OkS x) : x.stack.length ≤ 32 ∧ (keyS x).size ≤ 1400 := by
 have h1 : x.stack.length ≤ 32 := by
  have := h.fr
  unfold framesErr at this
  split at this
  · cases this
  · omega
 refine ⟨h1, ?_⟩
 have h2 := joinB_le wSemi (m := 40) x.stack (fun s hs => by
  have := frames_names h.fr s hs
  unfold nameErr at this
  split at this
  · cases this
  · omega)
 have h3 : x.stack.length * (40 + wSemi.size) ≤ 32 * (40 + wSemi.size) := Nat.mul_le_mul_right _ h1
 have h4 : wSemi.size = 1 := rfl
 unfold keyS
 rw [h4] at h2 h3
 omega
theorem numB_le {n : Int} (h0 : -9223372036854775808 ≤ n) (h1 : n ≤ 9223372036854775807) : (numB n).size ≤ 21 := numB_size (abs_int h0 h1)
theorem ok_snoc {l : List Smp} {x : Smp} {k : Nat} (hx : l[k]? = some x) (h : OkL (l.take k)) (h2 : OkS x) : OkL (l.take (k + 1)) := by
 rw [List.take_add_one, hx]
 intro y hy
 rcases List.mem_append.1 hy with hy | hy
 · exact h y hy
 · simp at hy; subst hy; exact h2
theorem sums_take {l : List Smp} {x : Smp} {k : Nat} (hx : l[k]? = some x) : sums (l.take (k + 1)) = sumStep (sums (l.take k)) x := by rw [List.take_add_one, hx]; exact sums_snoc _ _
theorem stks_take {l : List Smp} {x : Smp} {k : Nat} (hx : l[k]? = some x) : stks (l.take (k + 1)) = stkStep (stks (l.take k)) x := by rw [List.take_add_one, hx]; exact stks_snoc _ _
theorem sums_range {l : List Smp} (h : OkL l) (k : ByteArray) : 0 ≤ (mget (sums l) k).getD 0 ∧ (mget (sums l) k).getD 0 ≤ 1000000000001 := by
 rw [sums_get l h]
 have := tot_pos h k
 split
 · simp only [Option.getD_some]; omega
 · simp
end Go.Proofs.YtmhnnodofahpdaaGreatDoor
namespace Go.Proofs.YtmhnnodofahpdaaGreatDoor
open Go.Ab Go.Tb
set_option maxRecDepth 10000
attribute [local irreducible] W WO Pu QS QB QL QF QV QV1 CH QE
@[reducible] def stF (s : List ByteArray) : D := .sl (txs s)
theorem bad_iff (x : Smp) : (x.stack = [] ∨ x.weight < 1 ∨ 1000000000000 < x.weight) ↔ (x.stack = [] ∨ wtOk x.weight = false) := by
 unfold wtOk
 by_cases h1 : 1 ≤ x.weight <;> by_cases h2 : x.weight ≤ 1000000000000 <;> simp [h1, h2] <;> omega
theorem sums_len {l : List Smp} : (sums l).length ≤ l.length := by
 have e : (l.map keyS).length = l.length := List.length_map _
 have e2 : ((sums l).map (·.1)).length = (sums l).length := List.length_map _
 rw [← e, ← e2]
 exact nodup_sub (sums_nodup l) fun k hk => by
  obtain ⟨x, hx, e⟩ := (sums_keys l k).1 hk
  exact List.mem_map.2 ⟨x, hx, e⟩
theorem keys_len {l : List Smp} (h : OkL l) : (keysF l).length ≤ l.length := by
 have := back_len h
 unfold backF at this
 rwa [List.length_map] at this
theorem key_size {l : List Smp} (h : OkL l) {k : ByteArray} (hk : k ∈ keysF l) : k.size ≤ 1400 := by
 obtain ⟨x, hx, rfl⟩ := ((keysF_spec h).2 k).1 hk
 exact (okS_size (h x hx)).2
theorem min_eq (a b : Int) : (if b < a then b else a) = min a b := by rw [Int.min_def]; split <;> split <;> omega
theorem printF_fn (l : List Smp) (hl : l.length ≤ 1000) : DoesH Tryz.prog (fun _ => True) 13 [.d (.sl (l.map Smp.c))] (.tup [.d (.v (.string (printF l).1)), .d (.v (.int .i64 (printF l).2))]) 0 := by
 refine DoesH.of_V tab (n := 84) (rs := [.tmp 2, .tmp 3]) Tryz.func13 (by kernel_rfl) rfl Tryz.ntmps13 Tryz.results13 rfl fun C hC hG hH hfp => ?_
 refine W.seq (W.region ?_)
 iterate 2 refine pE rfl ?_
 refine WO.nil (qs (W.seq (W.region ?_)))
 refine mkMap rfl ?_
 refine mkMap rfl ?_
 refine allocR tab rfl rfl rfl ?_
 refine pE rfl ?_
 refine storeR tab rfl rfl rfl rfl rfl rfl rfl rfl ?_
 refine WO.nil (qs ?_)
 iterate 2 refine W.seq ?_
 refine W.region ?_
 iterate 3 refine pE rfl ?_
 refine WO.nil (qs (W.block ?_))
 refine W.len (t := 16) rfl rfl (fun hlen => ?_)
 try simp only [List.length_map, Ex.kc_len] at hlen
 refine W.loopR (ι := {x : Nat // match x with | k => k ≤ l.length ∧ badL (l.drop k) = badL l ∧ OkL (l.take k)})
  (fun x => match x.1 with | k => [(4, .mp 0 (mes sk ci (sums (l.take k)))), (5, .ptr 2 0), (18, .d (.v (.int .i64 ((k : Nat) : Int))))]) [(16, _), (17, _)]
  (fun x => match x.1 with | k => [(2, [.mp 1 (mes sk stF (stks (l.take k)))])]) [] [0, 1] 3 (fun x => match x.1 with | k => l.length - k)
  [0, 1, 2] ⟨0, ?_⟩ rfl ?_ ⟨rfl, rfl, rfl, rfl, trivial⟩ ?_ trivial rfl ?_
 · exact ⟨Nat.zero_le _, rfl, fun y hy => by simp at hy⟩
 · repeat' first | exact trivial | refine ⟨rfl, ?_⟩ | refine ⟨congrArg some (renL_boxE _ _ _), ?_⟩ | refine ⟨step_nat (by assumption) (by assumption), ?_⟩
 · repeat' first | exact trivial | refine ⟨rfl, ?_⟩ | refine ⟨congrArg some (renL_boxE _ _ _), ?_⟩ | refine ⟨step_nat (by assumption) (by assumption), ?_⟩
 rintro ⟨k, hk, hI, hO⟩
 show W _ _ _ _ _ ⟨[(4, .mp 0 (mes sk ci (sums (l.take k)))), (5, .ptr 2 0), (18, .d (.v (.int .i64 ((k : Nat) : Int)))), (16, _), (17, _)], [(2, [.mp 1 (mes sk stF (stks (l.take k)))])], [0, 1], 3⟩
 refine W.seq (W.region ?_)
 refine pE rfl ?_
 refine WO.nil (qs (W.seq ?_))
 refine eachR (l := l) (k := k) rfl (by simp [Ex.kc_len, bytes_len]) hk (fun x hx hd hlt => ?_) (fun he hd => ?_)
 ·
  rw [hd] at hI
  simp only [badL] at hI
  refine W.skip (qs (W.seq (W.block (W.seq (W.region ?_)))))
  refine pu (indexAddr tab rfl rfl rfl rfl rfl rfl (Int.natCast_nonneg _) (idx_map hx) rfl) rfl ?_
  first | refine pE rfl ?_ | refine pR rfl rfl rfl rfl rfl ?_ | refine pB rfl rfl rfl rfl rfl rfl ?_
  refine allocR tab rfl rfl rfl ?_
  refine storeR tab rfl rfl rfl rfl rfl rfl rfl rfl ?_
  refine WO.nil (qs ?_)
  iterate 2 refine W.seq ?_
  apply regionB; (case hb => rfl)
  ·
   refine pE rfl ?_
   first | refine pE rfl ?_ | refine pR rfl rfl rfl rfl rfl ?_ | refine pB rfl rfl rfl rfl rfl rfl ?_
   iterate 3 refine pE rfl ?_
   apply splitH; (case hj => rfl); (case hl => rfl)
   ·
    intro g26
    iterate 3 refine skipT rfl rfl rfl rfl ?_
    iterate 2 refine pE rfl ?_
    iterate 3 refine skipT rfl rfl rfl rfl ?_
    refine pE rfl ?_
    refine WO.nil ?_
    refine qv1 rfl rfl rfl
   ·
    intro g26
    refine goG rfl rfl ?_
    refine pE rfl ?_
    refine goG rfl rfl ?_
    first | refine pE rfl ?_ | refine pR rfl rfl rfl rfl rfl ?_ | refine pB rfl rfl rfl rfl rfl rfl ?_
    refine goG rfl rfl ?_
    iterate 3 refine pE rfl ?_
    apply splitH; (case hj => rfl); (case hl => rfl)
    ·
     intro g31
     iterate 3 refine skipT rfl rfl rfl rfl ?_
     refine pE rfl ?_
     refine WO.nil ?_
     refine qv1 rfl rfl rfl
    ·
     intro g31
     refine goG rfl rfl ?_
     refine pE rfl ?_
     refine goG rfl rfl ?_
     first | refine pE rfl ?_ | refine pR rfl rfl rfl rfl rfl ?_ | refine pB rfl rfl rfl rfl rfl rfl ?_
     refine goG rfl rfl ?_
     iterate 2 refine pE rfl ?_
     refine WO.nil ?_
     refine qv1 rfl rfl rfl
  refine qs ?_
  refine condK rfl (fun h35 => ?_) (fun h35 => ?_)
  ·
   have hb : badS x = 1 := by
    unfold badS
    rw [if_pos ((bad_iff x).1 (by simpa using h35))]
   rw [hb, if_neg (by decide)] at hI
   have hg : printF l = (B #[], 1) := by unfold printF; rw [← hI, if_neg (by decide)]
   refine W.seq (W.region ?_)
   iterate 2 refine pE rfl ?_
   refine WO.nil (qs (W.ret (qsRet (qbRet (qsRet (qlRet (qbRet (qsRet ?_))))))))
   refine QV.ret0 tab trivial rfl ?_
   rw [hg]; rfl
  ·
   have hq : ¬ (x.stack = [] ∨ wtOk x.weight = false) := fun e => by
    have h2 := (bad_iff x).2 e
    simp at h35
    rcases h2 with q | q
    · exact h35.1 q
    · omega
   have hb : badS x = framesErr x.stack := by unfold badS; rw [if_neg hq]
   rw [hb] at hI
   refine W.skip (qs ?_)
   iterate 2 refine W.seq ?_
   refine W.region ?_
   refine pE rfl ?_
   first | refine pE rfl ?_ | refine pR rfl rfl rfl rfl rfl ?_ | refine pB rfl rfl rfl rfl rfl rfl ?_
   refine pu (puCall rfl rfl rfl (frames_fn ..) rfl) rfl ?_
   refine pE rfl ?_
   refine WO.nil (qs (W.seq (W.region ?_)))
   iterate 2 refine pE rfl ?_
   refine WO.nil (qs ?_)
   refine condK rfl (fun h40 => ?_) (fun h40 => ?_)
   ·
    have hf : framesErr x.stack ≠ 0 := by simpa using h40
    rw [if_neg hf] at hI
    have hg : printF l = (B #[], framesErr x.stack) := by unfold printF; rw [← hI, if_neg hf]
    refine W.seq (W.region ?_)
    iterate 3 refine pE rfl ?_
    refine WO.nil (qs (W.ret (qsRet (qbRet (qsRet (qlRet (qbRet (qsRet ?_))))))))
    refine QV.ret0 tab trivial rfl ?_
    rw [hg]; rfl
   ·
    have hf : framesErr x.stack = 0 := by simpa using h40
    rw [if_pos hf] at hI
    have hok : OkS x := okS_iff.1 (hb.trans hf)
    have hsz := okS_size hok
    have hrg := sums_range hO (keyS x)
    have hwl := hok.lo
    have hwh := hok.hi
    refine W.skip (qs (W.seq (W.region ?_)))
    refine pE rfl ?_
    first | refine pE rfl ?_ | refine pR rfl rfl rfl rfl rfl ?_ | refine pB rfl rfl rfl rfl rfl rfl ?_
    refine pu (puCall rfl rfl rfl (join_fn x.stack (B #[59]) (by omega) (by show (keyS x).size ≤ _; omega)) rfl) rfl ?_
    refine pE rfl ?_
    refine WO.nil (qs (W.seq (W.region ?_)))
    first | refine pE rfl ?_ | refine pR rfl rfl rfl rfl rfl ?_ | refine pB rfl rfl rfl rfl rfl rfl ?_
    iterate 2 refine pE rfl ?_
    first | refine pE rfl ?_ | refine pR rfl rfl rfl rfl rfl ?_ | refine pB rfl rfl rfl rfl rfl rfl ?_
    refine mapPutB (kf := sk) (vf := stF) (l := stks (l.take k)) (a := keyS x) (y := x.stack) tab 2 0 rfl rfl rfl rfl rfl rfl rfl rfl (keyStr (tab.u_str rfl rfl)) rfl (stks_nodup _) (congrArg _ (stks_take hx).symm) rfl rfl ?_
    refine WO.nil (qs (W.region ?_))
    iterate 4 refine pE rfl ?_
    refine pu (mapGet (kf := sk) (vf := ci) (l := sums (l.take k)) (a := keyS x) (z := 0) tab rfl rfl rfl rfl rfl (keyStr (tab.u_str rfl rfl)) rfl rfl rfl (fun _ _ => .v _ rfl) (sums_nodup _) rfl) rfl ?_
    refine pE rfl ?_
    first | refine pE rfl ?_ | refine pR rfl rfl rfl rfl rfl ?_ | refine pB rfl rfl rfl rfl rfl rfl ?_
    refine pu (puI (ev tab rfl) (y := (mget (sums (l.take k)) (keyS x)).getD 0 + x.weight) (wrap64 (by omega))) rfl ?_
    refine pu (puI (ev tab rfl) (y := min 1000000000001 ((mget (sums (l.take k)) (keyS x)).getD 0 + x.weight)) (min_eq _ _)) rfl ?_
    refine mapPut (kf := sk) (vf := ci) (l := sums (l.take k)) (a := keyS x) (y := min 1000000000001 ((mget (sums (l.take k)) (keyS x)).getD 0 + x.weight)) tab 4 rfl rfl rfl rfl rfl rfl rfl (keyStr (tab.u_str rfl rfl)) rfl rfl (sums_nodup _) (congrArg _ (sums_take hx).symm) rfl ?_
    refine WO.nil (qbN (qs (W.region ?_)))
    iterate 2 refine pE rfl ?_
    refine WO.nil ?_
    refine W.endR [5, 4, 2] ⟨k + 1, ?_⟩ ?_ rfl ?_ ⟨rfl, rfl, rfl, rfl, trivial⟩ ?_ trivial rfl
    · exact ⟨hlt, hI, ok_snoc hx hO hok⟩
    · dsimp only; omega
    · repeat' first | exact trivial | refine ⟨rfl, ?_⟩ | refine ⟨congrArg some (renL_boxE _ _ _), ?_⟩ | refine ⟨step_nat (by assumption) (by assumption), ?_⟩
    · repeat' first | exact trivial | refine ⟨rfl, ?_⟩ | refine ⟨congrArg some (renL_boxE _ _ _), ?_⟩ | refine ⟨step_nat (by assumption) (by assumption), ?_⟩
 ·
  rw [hd] at hI
  simp only [badL] at hI
  have ht : l.take k = l := List.take_of_length_le (by have := congrArg List.length hd; simp at this; omega)
  have ht1 : sums (l.take k) = sums l := by rw [ht]
  have ht2 : stks (l.take k) = stks l := by rw [ht]
  rw [ht] at hO
  rw [ht1, ht2]
  refine W.exit (qsExit (qlExit (qbExit (qs (W.seq (W.region ?_))))))
  refine pE rfl ?_
  refine keysCall rfl rfl rfl rfl ?_
  refine pE rfl ?_
  refine pu (sortedCall (vf := ci) (l1 := sums l) (l2 := stks l) (K := keysF l) rfl rfl rfl rfl rfl rfl rfl (stks_nodup _) (by have := sums_len (l := l); omega) (fun ks h1 h2 => keysF_of hO h1 h2)) rfl ?_
  refine pE rfl ?_
  refine WO.nil (qs (W.seq (W.region ?_)))
  refine allocB tab tU rfl rfl rfl ?_
  refine WO.nil (qs ?_)
  iterate 2 refine W.seq ?_
  refine W.region ?_
  iterate 3 refine pE rfl ?_
  refine WO.nil (qs (W.block ?_))
  refine W.len (t := 63) rfl rfl (fun hlen => ?_)
  try simp only [List.length_map, Ex.kc_len] at hlen
  refine W.loopR (ι := {x : Nat × ByteArray × Bool // match x with | (k, s, u) => k ≤ (keysF l).length ∧ textF (sums l) ((keysF l).drop k) s = textF (sums l) (keysF l) (B #[]) ∧ s.size ≤ 1500 * k})
   (fun x => match x.1 with | (k, s, u) => [(4, .mp 0 (mes sk ci (sums l))), (11, .ptr 1 0), (65, .d (.v (.int .i64 ((k : Nat) : Int))))]) [(63, _), (64, _)]
   (fun x => match x.1 with | (k, s, u) => [(1, [.np 1 tB u, .bf 2 tU s])]) [] [0, 2] 3 (fun x => match x.1 with | (k, s, u) => (keysF l).length - k)
   [0, 4, 5] ⟨(0, .empty, false), ?_⟩ rfl ?_ ⟨rfl, rfl, rfl, rfl, trivial⟩ ?_ trivial rfl ?_
  · exact ⟨Nat.zero_le _, rfl, Nat.zero_le _⟩
  · repeat' first | exact trivial | refine ⟨rfl, ?_⟩ | refine ⟨congrArg some (renL_boxE _ _ _), ?_⟩ | refine ⟨step_nat (by assumption) (by assumption), ?_⟩
  · repeat' first | exact trivial | refine ⟨rfl, ?_⟩ | refine ⟨congrArg some (renL_boxE _ _ _), ?_⟩ | refine ⟨step_nat (by assumption) (by assumption), ?_⟩
  rintro ⟨⟨k, s, u⟩, hk, hT, hS⟩
  show W _ _ _ _ _ ⟨[(4, .mp 0 (mes sk ci (sums l))), (11, .ptr 1 0), (65, .d (.v (.int .i64 ((k : Nat) : Int)))), (63, _), (64, _)], [(1, [.np 1 tB u, .bf 2 tU s])], [0, 2], 3⟩
  refine W.seq (W.region ?_)
  refine pE rfl ?_
  refine WO.nil (qs (W.seq ?_))
  refine eachR (l := keysF l) (k := k) rfl (by simp [Ex.kc_len, bytes_len]) hk (fun key hx hd hlt => ?_) (fun he hd => ?_)
  ·
   rw [hd] at hT
   simp only [textF] at hT
   have hkz := key_size hO (List.mem_of_getElem? hx)
   have hrg := sums_range hO key
   have hkl := keys_len hO
   have hs1 : ByteArray.size ⟨#[32]⟩ = 1 := rfl
   have hs2 : ByteArray.size ⟨#[10]⟩ = 1 := rfl
   have hs3 : bSp.size = 1 := rfl
   have hs4 : bNl.size = 1 := rfl
   refine W.skip (qs (W.seq (W.block (W.seq (W.region ?_)))))
   refine pu (indexAddr tab rfl rfl rfl rfl rfl rfl (Int.natCast_nonneg _) (idx_map hx) rfl) rfl ?_
   first | refine pE rfl ?_ | refine pR rfl rfl rfl rfl rfl ?_ | refine pB rfl rfl rfl rfl rfl rfl ?_
   refine pE rfl ?_
   refine WO.nil (qs ?_)
   iterate 2 refine W.seq ?_
   refine W.region ?_
   iterate 2 refine pE rfl ?_
   refine pu (mapGet (kf := sk) (vf := ci) (l := sums l) (a := key) (z := 0) tab rfl rfl rfl rfl rfl (keyStr (tab.u_str rfl rfl)) rfl rfl rfl (fun _ _ => .v _ rfl) (sums_nodup _) rfl) rfl ?_
   refine pE rfl ?_
   refine WO.nil (qs ?_)
   refine condK rfl (fun h72 => ?_) (fun h72 => ?_)
   ·
    have hm : 1000000000000 < (mget (sums l) key).getD 0 := by simpa using h72
    rw [if_pos hm] at hT
    have hg : printF l = (B #[], 2) := by unfold printF; rw [if_pos hI.symm, ← hT]
    refine W.seq (W.region ?_)
    iterate 2 refine pE rfl ?_
    refine WO.nil (qs (W.ret (qsRet (qbRet (qsRet (qlRet (qbRet (qsRet ?_))))))))
    refine QV.ret0 tab trivial rfl ?_
    rw [hg]; rfl
   ·
    have hm : ¬ 1000000000000 < (mget (sums l) key).getD 0 := by simpa using h72
    rw [if_neg hm] at hT
    have hnz := numB_le (n := (mget (sums l) key).getD 0) (by omega) (by omega)
    refine W.skip (qs (W.region ?_))
    refine pE rfl ?_
    refine pu (strAdd rfl rfl (by omega)) rfl ?_
    iterate 2 refine pE rfl ?_
    refine pu (mapGet (kf := sk) (vf := ci) (l := sums l) (a := key) (z := 0) tab rfl rfl rfl rfl rfl (keyStr (tab.u_str rfl rfl)) rfl rfl rfl (fun _ _ => .v _ rfl) (sums_nodup _) rfl) rfl ?_
    refine pu (puCall rfl rfl rfl (text_fn ((mget (sums l) key).getD 0) (by omega) (by omega)) rfl) rfl ?_
    refine pu (strAdd rfl rfl (by simp [ByteArray.size_append]; omega)) rfl ?_
    refine pu (strAdd rfl rfl (by simp [ByteArray.size_append]; omega)) rfl ?_
    refine callB [1] [2] rfl rfl rfl rfl rfl ((bwrite_fn u s (key ++ bSp ++ numB ((mget (sums l) key).getD 0) ++ bNl) (by simp [ByteArray.size_append]; omega))) rfl rfl (by rfl) (by rfl) rfl rfl rfl rfl ?_
    refine WO.nil (qbN (qs (W.region ?_)))
    iterate 2 refine pE rfl ?_
    refine WO.nil ?_
    refine W.endR [0, 1, 4] ⟨(k + 1, s ++ (key ++ bSp ++ numB ((mget (sums l) key).getD 0) ++ bNl), true), ?_⟩ ?_ rfl ?_ ⟨rfl, rfl, rfl, rfl, trivial⟩ ?_ trivial rfl
    · exact ⟨hlt, hT, by simp [ByteArray.size_append]; omega⟩
    · dsimp only; omega
    · repeat' first | exact trivial | refine ⟨rfl, ?_⟩ | refine ⟨congrArg some (renL_boxE _ _ _), ?_⟩ | refine ⟨step_nat (by assumption) (by assumption), ?_⟩
    · repeat' first | exact trivial | refine ⟨rfl, ?_⟩ | refine ⟨congrArg some (renL_boxE _ _ _), ?_⟩ | refine ⟨step_nat (by assumption) (by assumption), ?_⟩
  ·
   rw [hd] at hT
   simp only [textF] at hT
   have hkl := keys_len hO
   have hg : printF l = (s, 0) := by unfold printF; rw [if_pos hI.symm, ← hT]
   refine W.exit (qsExit (qlExit (qbExit (qs (W.seq (W.region ?_))))))
   refine strEnd hfp rfl rfl rfl rfl bld_st bld_str (by simp only [maxLen]; omega) rfl ?_
   iterate 2 refine pE rfl ?_
   refine WO.nil (qs (W.ret ?_))
   refine QV.ret0 tab trivial rfl ?_
   rw [hg]; rfl
theorem print_fn (l : List Smp) (hl : l.length ≤ 1000) : Does Tryz.prog 13 [.d (.sl (l.map Smp.c))] (.tup [.d (.v (.string (printF l).1)), .d (.v (.int .i64 (printF l).2))]) 0 := (printF_fn l hl).does fun _ => trivial
end Go.Proofs.YtmhnnodofahpdaaGreatDoor
namespace Go.Proofs.YtmhnnodofahpdaaGreatDoor
open Go.Ab Go.Tb
set_option maxRecDepth 10000
attribute [local irreducible] W WO Pu QS QB QL QF QV QV1 CH QE
theorem map_take {l : List ByteArray} {x : ByteArray} {k : Nat} (hx : l[k]? = some x) : (l.take k).map lineX ++ [lineX x] = (l.take (k + 1)).map lineX := by rw [List.take_add_one, hx]; simp
theorem lines_size {s : ByteArray} (hs : s.size ≤ 65536) : (cutB (trimB s) 10).length ≤ 65537 ∧ ∀ l ∈ cutB (trimB s) 10, l.size ≤ 65536 := by
 have h1 := trim_size s
 have h2 := (cutB_len (trimB s) 10).2
 exact ⟨by omega, fun l hl => cutB_le (s := trimB s) (c := 10) (m := 65536) (by omega) l hl⟩
theorem import_fn (s : ByteArray) : Does Tryz.prog 9 [.d (.v (.string s))] (.tup [.d (.sl ((importF s).1.map Smp.c)), .d (.v (.int .i64 (importF s).2.1)), .d (.v (.int .i64 (importF s).2.2))]) 0 := by
 refine Does.of_W (n := 40) (ts := [2, 3, 4]) Tryz.func9 (by kernel_rfl) rfl Tryz.ntmps9 Tryz.results9 rfl rfl fun C hC hG => ?_
 refine W.seq (W.region ?_)
 iterate 3 refine pE rfl ?_
 refine WO.nil (qs ?_)
 iterate 2 refine W.seq ?_
 refine W.region ?_
 iterate 3 refine pE rfl ?_
 refine WO.nil (qs ?_)
 refine condK rfl (fun h12 => ?_) (fun h12 => ?_)
 ·
  have hg : importF s = ([], 0, 7) := by unfold importF; rw [if_pos (by simp at h12; omega)]
  refine W.seq (W.region ?_)
  iterate 3 refine pE rfl ?_
  refine WO.nil (qs ?_)
  try refine ownNilR (d := 2) rfl rfl ?_
  refine W.ret (qsRet ?_)
  refine QF.ret0 trivial rfl ?_
  rw [hg]; rfl
 ·
  have hsz : s.size ≤ 65536 := by simp at h12; omega
  have hg0 : importF s = readF (linesT s) 0 [] := by unfold importF; rw [if_neg (by omega)]
  obtain ⟨hz1, hz2⟩ := lines_size hsz
  refine W.skip (qs ?_)
  iterate 2 refine W.seq ?_
  refine W.region ?_
  iterate 2 refine pE rfl ?_
  refine WO.nil (qs ?_)
  refine condK rfl (fun h14 => ?_) (fun h14 => ?_)
  ·
   have he : s = B #[] := by simpa using h14
   have hg : importF s = ([], 0, 0) := by rw [hg0]; unfold linesT; rw [if_pos he]; rfl
   refine W.seq (W.region ?_)
   iterate 3 refine pE rfl ?_
   refine WO.nil (qs ?_)
   try refine ownNilR (d := 2) rfl rfl ?_
   refine W.ret (qsRet ?_)
   refine QF.ret0 trivial rfl ?_
   rw [hg]; rfl
  ·
   have hn : s ≠ B #[] := by simpa using h14
   have hg1 : importF s = readF (cutB (trimB s) 10) 0 [] := by rw [hg0]; unfold linesT; rw [if_neg hn]
   generalize hLs : cutB (trimB s) 10 = L at hz1 hz2 hg1
   refine W.skip (qs (W.seq (W.region ?_)))
   refine pE rfl ?_
   refine WO.nil (qs ?_)
   iterate 2 refine W.seq ?_
   refine W.region ?_
   refine pE rfl ?_
   refine pu (puCall rfl rfl rfl (trim_fn s (by omega)) rfl) rfl ?_
   refine pu (puCall rfl rfl rfl (hLs ▸ split_fn (trimB s) 10 (by have := trim_size s; omega)) rfl) rfl ?_
   iterate 2 refine pE rfl ?_
   refine WO.nil (qs (W.block ?_))
   refine ownNilR (d := 5) rfl rfl ?_
   refine W.len (t := 17) rfl rfl (fun hlen => ?_)
   try simp only [List.length_map, Ex.kc_len] at hlen
   refine W.loopR (ι := {x : Nat × List Smp // match x with | (k, acc) => (k ≤ L.length ∧ acc.length = k) ∧ readF (L.drop k) k acc = importF s})
    (fun x => match x.1 with | (k, acc) => [(5, .own 0 (acc.map Smp.c)), (19, .d (.v (.int .i64 ((k : Nat) : Int))))]) [(17, _), (18, _)]
    (fun x => match x.1 with | (k, acc) => []) [] [0] 1 (fun x => match x.1 with | (k, acc) => L.length - k)
    [0] ⟨(0, []), ?_⟩ rfl ?_ ⟨rfl, rfl, rfl, rfl, trivial⟩ ?_ trivial rfl ?_
   · exact ⟨⟨Nat.zero_le _, rfl⟩, hg1.symm⟩
   · repeat' first | exact trivial | refine ⟨rfl, ?_⟩ | refine ⟨congrArg some (renL_boxE _ _ _), ?_⟩ | refine ⟨step_nat (by assumption) (by assumption), ?_⟩
   · repeat' first | exact trivial | refine ⟨rfl, ?_⟩ | refine ⟨congrArg some (renL_boxE _ _ _), ?_⟩ | refine ⟨step_nat (by assumption) (by assumption), ?_⟩
   rintro ⟨⟨k, acc⟩, hk0, hI⟩
   show W _ _ _ _ _ ⟨[(5, .own 0 (acc.map Smp.c)), (19, .d (.v (.int .i64 ((k : Nat) : Int)))), (17, _), (18, _)], [], [0], 1⟩
   obtain ⟨hk, ha⟩ := hk0
   refine W.seq (W.region ?_)
   refine pE rfl ?_
   refine WO.nil (qs (W.seq ?_))
   refine eachR (l := L) (k := k) rfl (by simp [Ex.kc_len, bytes_len]) hk (fun x hx hd hlt => ?_) (fun he hd => ?_)
   ·
    rw [hd] at hI
    rw [readF] at hI
    have hxs := hz2 x (List.mem_of_getElem? hx)
    refine W.skip (qs (W.seq (W.block (W.seq (W.region ?_)))))
    refine pE rfl ?_
    refine pu (indexAddr tab rfl rfl rfl rfl rfl rfl (Int.natCast_nonneg _) (idx_map hx) rfl) rfl ?_
    first | refine pE rfl ?_ | refine pR rfl rfl rfl rfl rfl ?_ | refine pB rfl rfl rfl rfl rfl rfl ?_
    iterate 2 refine pE rfl ?_
    refine WO.nil (qs (W.seq (W.region ?_)))
    refine pE rfl ?_
    refine pu (puCall rfl rfl rfl (line_fn x (by omega)) rfl) rfl ?_
    iterate 3 refine pE rfl ?_
    refine allocR tab rfl rfl rfl ?_
    refine storeR tab rfl rfl rfl rfl rfl rfl rfl rfl ?_
    refine pE rfl ?_
    refine WO.nil (qs ?_)
    iterate 2 refine W.seq ?_
    refine W.region ?_
    iterate 2 refine pE rfl ?_
    refine WO.nil (qs ?_)
    refine condK rfl (fun h30 => ?_) (fun h30 => ?_)
    ·
     have hb : lineE x ≠ 0 := by simpa using h30
     rw [if_neg hb] at hI
     refine W.seq (W.region ?_)
     refine pE rfl ?_
     refine pu (puI (ev tab rfl) (y := ((k : Int) + 1)) (wrap64 (by omega))) rfl ?_
     iterate 4 refine pE rfl ?_
     refine WO.nil (qs ?_)
     try refine ownNilR (d := 2) rfl rfl ?_
     refine W.ret (qsRet (qbRet (qsRet (qlRet (qbRet (qsRet ?_))))))
     refine QF.ret0 trivial rfl ?_
     rw [← hI]; rfl
    ·
     have hb : lineE x = 0 := by simpa using h30
     rw [if_pos hb] at hI
     refine W.skip (qs (W.region ?_))
     refine pE rfl ?_
     first | refine pE rfl ?_ | refine pR rfl rfl rfl rfl rfl ?_ | refine pB rfl rfl rfl rfl rfl rfl ?_
     refine pu (buildV tab rfl rfl rfl rfl rfl rfl rfl rfl rfl) rfl ?_
     refine appendM (a := lineX x) tab rfl rfl rfl rfl rfl rfl rfl rfl rfl rfl (fun _ => rfl) (by show (acc.length + 1) * 48 ≤ _; omega) ?_
     refine pE rfl ?_
     refine WO.nil (qbN (qs (W.region ?_)))
     iterate 2 refine pE rfl ?_
     refine WO.nil ?_
     refine W.endR [2] ⟨(k + 1, acc ++ [lineX x]), ?_⟩ ?_ rfl ?_ ⟨rfl, rfl, rfl, rfl, trivial⟩ ?_ trivial rfl
     · exact ⟨⟨hlt, by simp; omega⟩, hI⟩
     · dsimp only; omega
     · repeat' first | exact trivial | refine ⟨rfl, ?_⟩ | refine ⟨congrArg some (renL_boxE _ _ _), ?_⟩ | refine ⟨step_nat (by assumption) (by assumption), ?_⟩
     · repeat' first | exact trivial | refine ⟨rfl, ?_⟩ | refine ⟨congrArg some (renL_boxE _ _ _), ?_⟩ | refine ⟨step_nat (by assumption) (by assumption), ?_⟩
   ·
    rw [hd] at hI
    rw [readF] at hI
    refine W.exit (qsExit (qlExit (qbExit (qs (W.seq (W.region ?_))))))
    iterate 4 refine pE rfl ?_
    refine WO.nil (qs ?_)
    try refine ownNilR (d := 2) rfl rfl ?_
    refine W.ret ?_
    refine QF.ret0 trivial rfl ?_
    rw [← hI]; rfl
end Go.Proofs.YtmhnnodofahpdaaGreatDoor
namespace Go.Proofs.YtmhnnodofahpdaaGreatDoor
open Go.Ab Go.Tb
set_option maxRecDepth 10000
attribute [local irreducible] W WO Pu QS QB QL QF QV QV1 CH QE
end Go.Proofs.YtmhnnodofahpdaaGreatDoor
namespace Go.Proofs.YtmhnnodofahpdaaGreatDoor
open Go.Ab Go.Tb
set_option maxRecDepth 10000
attribute [local irreducible] W WO Pu QS QB QL QF QV QV1 CH QE
end Go.Proofs.YtmhnnodofahpdaaGreatDoor
namespace Go.Proofs.YtmhnnodofahpdaaGreatDoor
open Go.Ab Go.Tb
set_option maxRecDepth 10000
attribute [local irreducible] W WO Pu QS QB QL QF QV QV1 CH QE
end Go.Proofs.YtmhnnodofahpdaaGreatDoor
namespace Go.Proofs.YtmhnnodofahpdaaGreatDoor
open Go.Ab Go.Tb
set_option maxRecDepth 10000
attribute [local irreducible] W WO Pu QS QB QL QF QV QV1 CH QE
theorem smp_ext {a b : Smp} : (a.thread = b.thread ∧ a.tm = b.tm ∧ a.weight = b.weight ∧ a.stack = b.stack) ↔ a = b := by
 cases a; cases b
 simp
instance : DecidableEq Smp := fun _ _ => decidable_of_iff _ smp_ext
def smallF (l : List Smp) : Bool := decide (l.length ≤ 100) && l.all fun x => decide (x.stack.length ≤ 50)
theorem fsmall_fn (l : List Smp) : Does Tryz.prog 12 [.d (.sl (l.map Smp.c))] (.d (.v (.bool (smallF l)))) 0 := by
 refine Does.of_W (n := 20) (ts := [2]) Tryz.func12 (by kernel_rfl) rfl Tryz.ntmps12 Tryz.results12 rfl rfl fun C hC hG => ?_
 refine W.seq (W.region ?_)
 refine pE rfl ?_
 refine WO.nil (qs ?_)
 iterate 2 refine W.seq ?_
 refine W.region ?_
 iterate 3 refine pE rfl ?_
 refine WO.nil (qs ?_)
 refine condK rfl (fun h6 => ?_) (fun h6 => ?_)
 ·
  have hg : smallF l = false := by unfold smallF; rw [decide_eq_false (by simp at h6; omega)]; rfl
  refine W.seq (W.region ?_)
  refine pE rfl ?_
  refine WO.nil (qs (W.ret (qsRet ?_)))
  refine QF.ret0 trivial rfl ?_
  rw [hg]; rfl
 ·
  have hl : l.length ≤ 100 := by simp at h6; omega
  refine W.skip (qs ?_)
  iterate 2 refine W.seq ?_
  refine W.region ?_
  refine pE rfl ?_
  refine WO.nil (qs (W.block ?_))
  refine W.len (t := 0) rfl rfl (fun hlen => ?_)
  try simp only [List.length_map, Ex.kc_len] at hlen
  refine W.loopR (ι := {x : Nat // match x with | k => k ≤ l.length ∧ ((l.drop k).all fun x => decide (x.stack.length ≤ 50)) = smallF l})
   (fun x => match x.1 with | k => [(3, .d (.v (.int .i64 ((k : Nat) : Int))))]) [(0, _)]
   (fun x => match x.1 with | k => []) [] [] 0 (fun x => match x.1 with | k => l.length - k)
   [] ⟨0, ?_⟩ rfl ?_ ⟨rfl, rfl, trivial⟩ ?_ trivial rfl ?_
  · exact ⟨Nat.zero_le _, by unfold smallF; rw [decide_eq_true hl]; rfl⟩
  · repeat' first | exact trivial | refine ⟨rfl, ?_⟩ | refine ⟨congrArg some (renL_boxE _ _ _), ?_⟩ | refine ⟨step_nat (by assumption) (by assumption), ?_⟩
  · repeat' first | exact trivial | refine ⟨rfl, ?_⟩ | refine ⟨congrArg some (renL_boxE _ _ _), ?_⟩ | refine ⟨step_nat (by assumption) (by assumption), ?_⟩
  rintro ⟨k, hk, hI⟩
  show W _ _ _ _ _ ⟨[(3, .d (.v (.int .i64 ((k : Nat) : Int)))), (0, _)], [], [], 0⟩
  iterate 2 refine W.seq ?_
  refine W.region ?_
  iterate 4 refine pE rfl ?_
  refine WO.nil (qs ?_)
  refine eachR (l := l) (k := k) rfl (by simp [Ex.kc_len, bytes_len]) hk (fun x hx hd hlt => ?_) (fun he hd => ?_)
  ·
   rw [hd, List.all_cons] at hI
   refine W.skip (qs (W.seq (W.block (W.seq (W.region ?_)))))
   iterate 2 refine pE rfl ?_
   refine pu (indexAddr (l := x.c) tab rfl rfl rfl rfl rfl rfl (Int.natCast_nonneg _) (idx_map hx) rfl) rfl ?_
   refine pE rfl ?_
   first | refine pE rfl ?_ | refine pR rfl rfl rfl rfl rfl ?_ | refine pB rfl rfl rfl rfl rfl rfl ?_
   iterate 2 refine pE rfl ?_
   refine WO.nil (qs ?_)
   refine condK rfl (fun h19 => ?_) (fun h19 => ?_)
   ·
    have hg : smallF l = false := by rw [← hI, decide_eq_false (by simp at h19; omega)]; rfl
    refine W.seq (W.region ?_)
    refine pE rfl ?_
    refine WO.nil (qs (W.ret (qbRet (qsRet (qlRet (qbRet (qsRet ?_)))))))
    refine QF.ret0 trivial rfl ?_
    rw [hg]; rfl
   ·
    have hs : x.stack.length ≤ 50 := by simp at h19; omega
    rw [decide_eq_true hs, Bool.true_and] at hI
    refine W.skip (qbN (qs (W.region ?_)))
    iterate 3 refine pE rfl ?_
    refine WO.nil ?_
    refine W.endR [] ⟨k + 1, ?_⟩ ?_ rfl ?_ ⟨rfl, rfl, trivial⟩ ?_ trivial rfl
    · exact ⟨hlt, hI⟩
    · dsimp only; omega
    · repeat' first | exact trivial | refine ⟨rfl, ?_⟩ | refine ⟨congrArg some (renL_boxE _ _ _), ?_⟩ | refine ⟨step_nat (by assumption) (by assumption), ?_⟩
    · repeat' first | exact trivial | refine ⟨rfl, ?_⟩ | refine ⟨congrArg some (renL_boxE _ _ _), ?_⟩ | refine ⟨step_nat (by assumption) (by assumption), ?_⟩
  ·
   rw [hd] at hI
   refine W.exit (qsExit (qlExit (qbExit (qs (W.seq (W.region ?_))))))
   refine pE rfl ?_
   refine WO.nil (qs (W.ret ?_))
   refine QF.ret0 trivial rfl ?_
   rw [← hI]; rfl
end Go.Proofs.YtmhnnodofahpdaaGreatDoor
namespace Go.Proofs.YtmhnnodofahpdaaGreatDoor
open Go.Ab Go.Tb
set_option maxRecDepth 10000
attribute [local irreducible] W WO Pu QS QB QL QF QV QV1 CH QE
theorem nin_fn (n : Int) : Does Tryz.prog 38 [.d (.v (.int .i64 n))] (.d (.v (.bool (inR n)))) 0 := by
 refine Does.of_W (n := 9) (ts := [2]) Tryz.func38 (by kernel_rfl) rfl Tryz.ntmps38 Tryz.results38 rfl rfl fun C hC hG => ?_
 refine W.seq (W.region ?_)
 refine pE rfl ?_
 refine WO.nil (qs (W.seq ?_))
 apply regionB; (case hb => rfl)
 ·
  iterate 3 refine pE rfl ?_
  apply splitJ; (case hj => rfl); (case hl => rfl)
  ·
   refine goG rfl rfl ?_
   refine pE rfl ?_
   refine goG rfl rfl ?_
   iterate 3 refine pE rfl ?_
   refine WO.nil ?_
   refine qv1 rfl rfl rfl
  ·
   iterate 2 refine skipT rfl rfl rfl rfl ?_
   iterate 2 refine pE rfl ?_
   refine WO.nil ?_
   refine qv1 rfl rfl rfl
 refine qs (W.ret ?_)
 refine QF.ret0 trivial rfl ?_
 unfold inR; simp only [norm, oneA]; by_cases h : -1000000000000000 ≤ n <;> simp [h]
theorem totW_take {l : List Smp} {x : Smp} {k : Nat} (hx : l[k]? = some x) : totW (l.take (k + 1)) = totW (l.take k) + x.weight := by
 unfold totW
 rw [List.take_add_one, hx, List.map_append, sum_app]
 simp
theorem hi_add (a b : Int) : hiP (a + b) = hiP a + (hiP b + hiP (loP a + loP b)) := by simp only [hiP, loP]; omega
theorem lo_add (a b : Int) : loP (a + b) = loP (loP a + loP b) := by simp only [loP]; omega
theorem okc_range {n : Int} (h : -9223372036854775808 ≤ n ∧ n ≤ 9223372036854775807) : okc (.int .i64 n) = true := by
 simp only [okc, Bool.and_eq_true, decide_eq_true_eq]
 exact h
theorem sum_fn (l : List Smp) (hl : l.length ≤ 1000) : Does Tryz.prog 15 [.d (.sl (l.map Smp.c))] (.tup [.d (.v (.int .i64 (sumF l).1)), .d (.v (.bool (sumF l).2))]) 0 := by
 refine Does.of_W (n := 45) (ts := [2, 3]) Tryz.func15 (by kernel_rfl) rfl Tryz.ntmps15 Tryz.results15 rfl rfl fun C hC hG => ?_
 refine W.seq (W.region ?_)
 iterate 2 refine pE rfl ?_
 refine WO.nil (qs (W.seq (W.region ?_)))
 iterate 2 refine pE rfl ?_
 refine WO.nil (qs ?_)
 iterate 2 refine W.seq ?_
 refine W.region ?_
 iterate 3 refine pE rfl ?_
 refine WO.nil (qs (W.block ?_))
 refine W.len (t := 9) rfl rfl (fun hlen => ?_)
 try simp only [List.length_map, Ex.kc_len] at hlen
 refine W.loopR (ι := {x : Nat // match x with | k => k ≤ l.length ∧ -((k : Int) * 9223372036854775808) ≤ totW (l.take k) ∧ totW (l.take k) ≤ (k : Int) * 9223372036854775808})
  (fun x => match x.1 with | k => [(4, .d (.v (.int .i64 (hiP (totW (l.take k)))))), (5, .d (.v (.int .i64 (loP (totW (l.take k)))))), (11, .d (.v (.int .i64 ((k : Nat) : Int))))]) [(9, _), (10, _)]
  (fun x => match x.1 with | k => []) [] [] 0 (fun x => match x.1 with | k => l.length - k)
  [] ⟨0, ?_⟩ rfl ?_ ⟨rfl, rfl, rfl, rfl, trivial⟩ ?_ trivial rfl ?_
 · exact ⟨Nat.zero_le _, by simp [totW], by simp [totW]⟩
 · repeat' first | exact trivial | refine ⟨rfl, ?_⟩ | refine ⟨congrArg some (renL_boxE _ _ _), ?_⟩ | refine ⟨step_nat (by assumption) (by assumption), ?_⟩
 · repeat' first | exact trivial | refine ⟨rfl, ?_⟩ | refine ⟨congrArg some (renL_boxE _ _ _), ?_⟩ | refine ⟨step_nat (by assumption) (by assumption), ?_⟩
 rintro ⟨k, hk, hT1, hT2⟩
 show W _ _ _ _ _ ⟨[(4, .d (.v (.int .i64 (hiP (totW (l.take k)))))), (5, .d (.v (.int .i64 (loP (totW (l.take k)))))), (11, .d (.v (.int .i64 ((k : Nat) : Int)))), (9, _), (10, _)], [], [], 0⟩
 refine W.seq (W.region ?_)
 refine pE rfl ?_
 refine WO.nil (qs (W.seq ?_))
 refine eachR (l := l) (k := k) rfl (by simp [Ex.kc_len, bytes_len]) hk (fun x hx hd hlt => ?_) (fun he hd => ?_)
 ·
  refine W.skip (qs (W.seq (W.block (W.seq (W.region ?_)))))
  refine pu (indexAddr (l := x.c) tab rfl rfl rfl rfl rfl rfl (Int.natCast_nonneg _) (idx_map hx) rfl) rfl ?_
  first | refine pE rfl ?_ | refine pR rfl rfl rfl rfl rfl ?_ | refine pB rfl rfl rfl rfl rfl rfl ?_
  refine allocR tab rfl rfl rfl ?_
  refine storeR tab rfl rfl rfl rfl rfl rfl rfl rfl ?_
  refine WO.nil (qs (W.seq ?_))
  refine inBox (g := 0) (j := 2) rfl rfl (fun hv => ?_)
  have hv := okc_i64 hv
  have hst := totW_take hx
  have hA := hi_add (totW (l.take k)) x.weight
  have hB := lo_add (totW (l.take k)) x.weight
  have hb1 := loP_bound (totW (l.take k))
  have hb2 := loP_bound x.weight
  have hb3 := hiP_bound hv
  have hb4 : -(1000 * 2147483648) ≤ hiP (totW (l.take k)) ∧ hiP (totW (l.take k)) ≤ 1000 * 2147483648 := by simp only [hiP]; omega
  have hb5 : 0 ≤ hiP (loP (totW (l.take k)) + loP x.weight) ∧ hiP (loP (totW (l.take k)) + loP x.weight) ≤ 1 := by simp only [hiP]; omega
  refine W.region ?_
  iterate 2 refine pE rfl ?_
  first | refine pE rfl ?_ | refine pR rfl rfl rfl rfl rfl ?_ | refine pB rfl rfl rfl rfl rfl rfl ?_
  refine pu (puI (ev tab rfl) (and32 _)) rfl ?_
  refine pu (puI (ev tab rfl) (wrap64 (by omega))) rfl ?_
  refine pE rfl ?_
  refine WO.nil (qs (W.seq (W.region ?_)))
  iterate 2 refine pE rfl ?_
  first | refine pE rfl ?_ | refine pR rfl rfl rfl rfl rfl ?_ | refine pB rfl rfl rfl rfl rfl rfl ?_
  refine pu (shrR rfl rfl (by decide) (shr32 _) (okc_range (by omega))) rfl ?_
  refine pE rfl ?_
  refine pu (shrR rfl rfl (by decide) (shr32 _) (okc_range (by omega))) rfl ?_
  refine pu (puI (ev tab rfl) (wrap64 (by omega))) rfl ?_
  refine pu (puI (ev tab rfl) (y := hiP (totW (l.take (k + 1)))) (by rw [hst, hA]; exact wrap64 (by omega))) rfl ?_
  refine pE rfl ?_
  refine WO.nil (qs (W.region ?_))
  refine pE rfl ?_
  refine pu (puI (ev tab rfl) (y := loP (totW (l.take (k + 1)))) (by rw [hst, hB]; exact and32 _)) rfl ?_
  refine pE rfl ?_
  refine WO.nil (qbN (qs (W.region ?_)))
  iterate 2 refine pE rfl ?_
  refine WO.nil ?_
  refine W.endR [] ⟨k + 1, ?_⟩ ?_ rfl ?_ ⟨rfl, rfl, rfl, rfl, trivial⟩ ?_ trivial rfl
  · exact ⟨hlt, by rw [hst]; omega, by rw [hst]; omega⟩
  · dsimp only; omega
  · repeat' first | exact trivial | refine ⟨rfl, ?_⟩ | refine ⟨congrArg some (renL_boxE _ _ _), ?_⟩ | refine ⟨step_nat (by assumption) (by assumption), ?_⟩
  · repeat' first | exact trivial | refine ⟨rfl, ?_⟩ | refine ⟨congrArg some (renL_boxE _ _ _), ?_⟩ | refine ⟨step_nat (by assumption) (by assumption), ?_⟩
 ·
  have hs1 : totW l = totW (l.take k) := by rw [List.take_of_length_le (by omega)]
  have hp := parts (totW (l.take k))
  have hb1 := loP_bound (totW (l.take k))
  refine W.exit (qsExit (qlExit (qbExit (qs ?_))))
  iterate 2 refine W.seq ?_
  apply regionB; (case hb => rfl)
  ·
   iterate 3 refine pE rfl ?_
   apply splitJ; (case hj => rfl); (case hl => rfl)
   ·
    iterate 2 refine skipT rfl rfl rfl rfl ?_
    refine pE rfl ?_
    refine WO.nil ?_
    refine qv1 rfl rfl rfl
   ·
    refine goG rfl rfl ?_
    refine pE rfl ?_
    refine goG rfl rfl ?_
    iterate 2 refine pE rfl ?_
    refine WO.nil ?_
    refine qv1 rfl rfl rfl
  refine qs ?_
  refine condK rfl (fun h36 => ?_) (fun h36 => ?_)
  ·
   have hn : ¬ inR (totW (l.take k)) = true := by
    rw [inR_iff]
    simp at h36
    omega
   have hg : sumF l = (0, false) := by unfold sumF; rw [hs1, if_neg hn]
   refine W.seq (W.region ?_)
   iterate 2 refine pE rfl ?_
   refine WO.nil (qs (W.ret (qsRet ?_)))
   refine QF.ret0 trivial rfl ?_
   rw [hg]; rfl
  ·
   have hq : -1048576 ≤ hiP (totW (l.take k)) ∧ hiP (totW (l.take k)) ≤ 1048576 := by simp at h36; omega
   refine W.skip (qs (W.seq (W.region ?_)))
   refine pE rfl ?_
   refine pu (shlR (r := hiP (totW (l.take k)) * 4294967296) rfl rfl (by decide) (wrap64 (by show _ ≤ _ * 4294967296 ∧ _ * 4294967296 ≤ _; omega))) rfl ?_
   refine pE rfl ?_
   refine pu (puI (ev tab rfl) (y := totW (l.take k)) (by rw [hp]; exact wrap64 (by omega))) rfl ?_
   refine pE rfl ?_
   refine WO.nil (qs ?_)
   iterate 2 refine W.seq ?_
   refine W.region ?_
   refine pE rfl ?_
   refine pu (puCall rfl rfl rfl (nin_fn ..) rfl) rfl ?_
   refine pE rfl ?_
   refine WO.nil (qs ?_)
   refine condK rfl (fun h43 => ?_) (fun h43 => ?_)
   ·
    have hg : sumF l = (0, false) := by unfold sumF; rw [hs1, if_neg (by simpa using h43)]
    refine W.seq (W.region ?_)
    iterate 2 refine pE rfl ?_
    refine WO.nil (qs (W.ret (qsRet ?_)))
    refine QF.ret0 trivial rfl ?_
    rw [hg]; rfl
   ·
    have hg : sumF l = (totW (l.take k), true) := by unfold sumF; rw [hs1, if_pos (by simpa using h43)]
    refine W.skip (qs (W.seq (W.region ?_)))
    iterate 3 refine pE rfl ?_
    refine WO.nil (qs (W.ret ?_))
    refine QF.ret0 trivial rfl ?_
    rw [hg]; rfl
end Go.Proofs.YtmhnnodofahpdaaGreatDoor
namespace Go.Proofs.YtmhnnodofahpdaaGreatDoor
open Go.Ab Go.Tb
set_option maxRecDepth 10000
attribute [local irreducible] W WO Pu QS QB QL QF QV QV1 CH QE
abbrev aw1 : ByteArray := B #[109, 97, 105, 110, 59, 108, 111, 111, 112, 32, 53, 10, 109, 97, 105, 110, 32, 50, 10, 109, 97, 105, 110, 59, 108, 111, 111, 112, 32, 49, 10]
abbrev aw2 : ByteArray := B #[109, 97, 105, 110, 32, 49, 10, 109, 97, 105, 110, 10]
abbrev aw3 : ByteArray := B #[109, 97, 105, 110, 32, 49, 10, 109, 97, 32, 105, 110, 32, 53, 10, 109, 97, 105, 110, 10]
abbrev aw4 : ByteArray := B #[109, 97, 105, 110, 32, 48, 53]
abbrev awM : ByteArray := B #[109, 97, 105, 110]
abbrev awL : ByteArray := B #[108, 111, 111, 112]
def awS : List Smp := [⟨0, 0, 5, [awM, awL]⟩, ⟨0, 0, 2, [awM]⟩, ⟨0, 0, 1, [awM, awL]⟩]
def awE : List Smp := [⟨0, 0, 1, []⟩]
def awB : List Smp := [⟨0, 0, 1000000000000, [B #[97]]⟩, ⟨0, 0, 1, [B #[97]]⟩]
theorem awi1 : importF aw1 = (awS, 0, 0) := by decide +kernel
theorem awi2 : importF aw2 = ([], 2, 10) := by decide +kernel
theorem awi3 : importF aw3 = ([], 2, 3) := by decide +kernel
theorem awi4 : importF aw4 = ([], 1, 10) := by decide +kernel
theorem awp1 : printF awS = (B #[109, 97, 105, 110, 32, 50, 10, 109, 97, 105, 110, 59, 108, 111, 111, 112, 32, 54, 10], 0) := by rw [← rprint_eq]; decide +kernel
theorem awp2 : printF awE = (B #[], 1) := by rw [← rprint_eq]; decide +kernel
theorem awp3 : printF awB = (B #[], 2) := by rw [← rprint_eq]; decide +kernel
theorem aws3 : sumF awB = (1000000000001, true) := by decide +kernel
theorem awi1_fn : Does Tryz.prog 9 [.d (.v (.string aw1))] (.tup [.d (.sl (awS.map Smp.c)), .d (.v (.int .i64 0)), .d (.v (.int .i64 0))]) 0 := by have := import_fn aw1; rw [awi1] at this; exact this
theorem awi2_fn : Does Tryz.prog 9 [.d (.v (.string aw2))] (.tup [.d (.sl []), .d (.v (.int .i64 2)), .d (.v (.int .i64 10))]) 0 := by have := import_fn aw2; rw [awi2] at this; exact this
theorem awi3_fn : Does Tryz.prog 9 [.d (.v (.string aw3))] (.tup [.d (.sl []), .d (.v (.int .i64 2)), .d (.v (.int .i64 3))]) 0 := by have := import_fn aw3; rw [awi3] at this; exact this
theorem awi4_fn : Does Tryz.prog 9 [.d (.v (.string aw4))] (.tup [.d (.sl []), .d (.v (.int .i64 1)), .d (.v (.int .i64 10))]) 0 := by have := import_fn aw4; rw [awi4] at this; exact this
theorem awp1_fn : Does Tryz.prog 13 [.d (.sl (awS.map Smp.c))] (.tup [.d (.v (.string (B #[109, 97, 105, 110, 32, 50, 10, 109, 97, 105, 110, 59, 108, 111, 111, 112, 32, 54, 10]))), .d (.v (.int .i64 0))]) 0 := by have := print_fn awS (by decide); rw [awp1] at this; exact this
theorem awp2_fn : Does Tryz.prog 13 [.d (.sl (awE.map Smp.c))] (.tup [.d (.v (.string (B #[]))), .d (.v (.int .i64 1))]) 0 := by have := print_fn awE (by decide); rw [awp2] at this; exact this
theorem awp3_fn : Does Tryz.prog 13 [.d (.sl (awB.map Smp.c))] (.tup [.d (.v (.string (B #[]))), .d (.v (.int .i64 2))]) 0 := by have := print_fn awB (by decide); rw [awp3] at this; exact this
theorem aws3_fn : Does Tryz.prog 15 [.d (.sl (awB.map Smp.c))] (.tup [.d (.v (.int .i64 1000000000001)), .d (.v (.bool true))]) 0 := by have := sum_fn awB (by decide); rw [aws3] at this; exact this
theorem awake_fn : Does Tryz.prog 8 [] (.d (.v (.bool true))) 0 := by
 refine Does.of_W (n := 150) (ts := [0]) Tryz.func8 (by kernel_rfl) rfl Tryz.ntmps8 Tryz.results8 rfl rfl fun C hC hG => ?_
 refine W.seq (W.region ?_)
 refine pE rfl ?_
 refine WO.nil (qs (W.seq (W.region ?_)))
 refine pu (puCall rfl rfl rfl awi1_fn rfl) rfl ?_
 iterate 7 refine pE rfl ?_
 refine WO.nil (qs (W.seq (W.region ?_)))
 refine pE rfl ?_
 refine pu (puCall rfl rfl rfl awp1_fn rfl) rfl ?_
 iterate 5 refine pE rfl ?_
 refine WO.nil (qs (W.seq (W.region ?_)))
 refine pu (puCall rfl rfl rfl awi2_fn rfl) rfl ?_
 iterate 7 refine pE rfl ?_
 refine WO.nil (qs (W.seq (W.region ?_)))
 refine pu (puCall rfl rfl rfl awi3_fn rfl) rfl ?_
 iterate 7 refine pE rfl ?_
 refine WO.nil (qs (W.seq (W.region ?_)))
 refine pu (puCall rfl rfl rfl awi4_fn rfl) rfl ?_
 iterate 7 refine pE rfl ?_
 refine WO.nil (qs (W.seq (W.region ?_)))
 refine pu (build tab rfl rfl rfl rfl) rfl ?_
 try refine nilO 48 rfl rfl rfl ?_
 refine pu (buildV tab rfl rfl rfl rfl rfl rfl rfl rfl rfl) rfl ?_
 refine pu (puCall rfl rfl rfl awp2_fn rfl) rfl ?_
 iterate 5 refine pE rfl ?_
 refine WO.nil (qs (W.seq (W.region ?_)))
 refine pu (buildV tab rfl rfl rfl rfl rfl rfl rfl rfl rfl) rfl ?_
 refine pu (build tab rfl rfl rfl rfl) rfl ?_
 try refine nilO 54 rfl rfl rfl ?_
 refine pu (buildV tab rfl rfl rfl rfl rfl rfl rfl rfl rfl) rfl ?_
 refine pu (build tab rfl rfl rfl rfl) rfl ?_
 try refine nilO 56 rfl rfl rfl ?_
 refine pu (buildV tab rfl rfl rfl rfl rfl rfl rfl rfl rfl) rfl ?_
 refine pE rfl ?_
 refine WO.nil (qs (W.seq (W.region ?_)))
 refine pE rfl ?_
 refine pu (puCall rfl rfl rfl awp3_fn rfl) rfl ?_
 iterate 5 refine pE rfl ?_
 refine WO.nil (qs (W.seq (W.region ?_)))
 refine pE rfl ?_
 refine pu (puCall rfl rfl rfl aws3_fn rfl) rfl ?_
 iterate 5 refine pE rfl ?_
 refine WO.nil (qs (W.seq ?_))
 apply regionB; (case hb => rfl)
 ·
  iterate 4 refine pE rfl ?_
  apply splitJ; (case hj => rfl); (case hl => rfl)
  ·
   refine goG rfl rfl ?_
   refine pE rfl ?_
   refine goG rfl rfl ?_
   iterate 3 refine pE rfl ?_
   apply splitJ; (case hj => rfl); (case hl => rfl)
   ·
    refine goG rfl rfl ?_
    refine pE rfl ?_
    refine goG rfl rfl ?_
    iterate 3 refine pE rfl ?_
    apply splitJ; (case hj => rfl); (case hl => rfl)
    ·
     refine goG rfl rfl ?_
     refine pE rfl ?_
     refine goG rfl rfl ?_
     refine pu (indexAddr (l := Smp.c ⟨0, 0, 5, [awM, awL]⟩) tab rfl rfl rfl rfl rfl rfl (by decide) rfl rfl) rfl ?_
     refine goG rfl rfl ?_
     refine pE rfl ?_
     refine goG rfl rfl ?_
     first | refine pE rfl ?_ | refine pR rfl rfl rfl rfl rfl ?_ | refine pB rfl rfl rfl rfl rfl rfl ?_
     refine goG rfl rfl ?_
     refine pE rfl ?_
     refine goG rfl rfl ?_
     iterate 3 refine pE rfl ?_
     apply splitJ; (case hj => rfl); (case hl => rfl)
     ·
      refine goG rfl rfl ?_
      refine pE rfl ?_
      refine goG rfl rfl ?_
      refine pu (indexAddr (l := Smp.c ⟨0, 0, 5, [awM, awL]⟩) tab rfl rfl rfl rfl rfl rfl (by decide) rfl rfl) rfl ?_
      refine goG rfl rfl ?_
      refine pE rfl ?_
      refine goG rfl rfl ?_
      first | refine pE rfl ?_ | refine pR rfl rfl rfl rfl rfl ?_ | refine pB rfl rfl rfl rfl rfl rfl ?_
      refine goG rfl rfl ?_
      refine pu (indexAddr (l := sc awL) tab rfl rfl rfl rfl rfl rfl (by decide) rfl rfl) rfl ?_
      refine goG rfl rfl ?_
      first | refine pE rfl ?_ | refine pR rfl rfl rfl rfl rfl ?_ | refine pB rfl rfl rfl rfl rfl rfl ?_
      refine goG rfl rfl ?_
      iterate 3 refine pE rfl ?_
      apply splitJ; (case hj => rfl); (case hl => rfl)
      ·
       refine goG rfl rfl ?_
       refine pE rfl ?_
       refine goG rfl rfl ?_
       refine pu (indexAddr (l := Smp.c ⟨0, 0, 2, [awM]⟩) tab rfl rfl rfl rfl rfl rfl (by decide) rfl rfl) rfl ?_
       refine goG rfl rfl ?_
       refine pE rfl ?_
       refine goG rfl rfl ?_
       first | refine pE rfl ?_ | refine pR rfl rfl rfl rfl rfl ?_ | refine pB rfl rfl rfl rfl rfl rfl ?_
       refine goG rfl rfl ?_
       iterate 3 refine pE rfl ?_
       apply splitJ; (case hj => rfl); (case hl => rfl)
       ·
        refine goG rfl rfl ?_
        refine pE rfl ?_
        refine goG rfl rfl ?_
        iterate 3 refine pE rfl ?_
        apply splitJ; (case hj => rfl); (case hl => rfl)
        ·
         refine goG rfl rfl ?_
         refine pE rfl ?_
         refine goG rfl rfl ?_
         iterate 3 refine pE rfl ?_
         apply splitJ; (case hj => rfl); (case hl => rfl)
         ·
          refine goG rfl rfl ?_
          refine pE rfl ?_
          refine goG rfl rfl ?_
          iterate 3 refine pE rfl ?_
          apply splitJ; (case hj => rfl); (case hl => rfl)
          ·
           refine goG rfl rfl ?_
           refine pE rfl ?_
           refine goG rfl rfl ?_
           iterate 3 refine pE rfl ?_
           apply splitJ; (case hj => rfl); (case hl => rfl)
           ·
            refine goG rfl rfl ?_
            refine pE rfl ?_
            refine goG rfl rfl ?_
            iterate 3 refine pE rfl ?_
            apply splitJ; (case hj => rfl); (case hl => rfl)
            ·
             refine goG rfl rfl ?_
             refine pE rfl ?_
             refine goG rfl rfl ?_
             iterate 3 refine pE rfl ?_
             apply splitJ; (case hj => rfl); (case hl => rfl)
             ·
              refine goG rfl rfl ?_
              refine pE rfl ?_
              refine goG rfl rfl ?_
              iterate 3 refine pE rfl ?_
              apply splitJ; (case hj => rfl); (case hl => rfl)
              ·
               refine goG rfl rfl ?_
               refine pE rfl ?_
               refine goG rfl rfl ?_
               iterate 3 refine pE rfl ?_
               apply splitJ; (case hj => rfl); (case hl => rfl)
               ·
                refine goG rfl rfl ?_
                refine pE rfl ?_
                refine goG rfl rfl ?_
                iterate 3 refine pE rfl ?_
                apply splitJ; (case hj => rfl); (case hl => rfl)
                ·
                 refine goG rfl rfl ?_
                 refine pE rfl ?_
                 refine goG rfl rfl ?_
                 iterate 3 refine pE rfl ?_
                 apply splitJ; (case hj => rfl); (case hl => rfl)
                 ·
                  refine goG rfl rfl ?_
                  refine pE rfl ?_
                  refine goG rfl rfl ?_
                  iterate 3 refine pE rfl ?_
                  apply splitJ; (case hj => rfl); (case hl => rfl)
                  ·
                   refine goG rfl rfl ?_
                   iterate 3 refine pE rfl ?_
                   refine WO.nil ?_
                   refine qv1 rfl rfl rfl
                  ·
                   refine skipT rfl rfl rfl rfl ?_
                   iterate 2 refine pE rfl ?_
                   refine WO.nil ?_
                   refine qv1 rfl rfl rfl
                 ·
                  iterate 2 refine skipT rfl rfl rfl rfl ?_
                  iterate 2 refine pE rfl ?_
                  refine skipT rfl rfl rfl rfl ?_
                  iterate 2 refine pE rfl ?_
                  refine WO.nil ?_
                  refine qv1 rfl rfl rfl
                ·
                 iterate 2 refine skipT rfl rfl rfl rfl ?_
                 iterate 2 refine pE rfl ?_
                 iterate 2 refine skipT rfl rfl rfl rfl ?_
                 iterate 2 refine pE rfl ?_
                 refine skipT rfl rfl rfl rfl ?_
                 iterate 2 refine pE rfl ?_
                 refine WO.nil ?_
                 refine qv1 rfl rfl rfl
               ·
                iterate 2 refine skipT rfl rfl rfl rfl ?_
                iterate 2 refine pE rfl ?_
                iterate 2 refine skipT rfl rfl rfl rfl ?_
                iterate 2 refine pE rfl ?_
                iterate 2 refine skipT rfl rfl rfl rfl ?_
                iterate 2 refine pE rfl ?_
                refine skipT rfl rfl rfl rfl ?_
                iterate 2 refine pE rfl ?_
                refine WO.nil ?_
                refine qv1 rfl rfl rfl
              ·
               iterate 2 refine skipT rfl rfl rfl rfl ?_
               iterate 2 refine pE rfl ?_
               iterate 2 refine skipT rfl rfl rfl rfl ?_
               iterate 2 refine pE rfl ?_
               iterate 2 refine skipT rfl rfl rfl rfl ?_
               iterate 2 refine pE rfl ?_
               iterate 2 refine skipT rfl rfl rfl rfl ?_
               iterate 2 refine pE rfl ?_
               refine skipT rfl rfl rfl rfl ?_
               iterate 2 refine pE rfl ?_
               refine WO.nil ?_
               refine qv1 rfl rfl rfl
             ·
              iterate 2 refine skipT rfl rfl rfl rfl ?_
              iterate 2 refine pE rfl ?_
              iterate 2 refine skipT rfl rfl rfl rfl ?_
              iterate 2 refine pE rfl ?_
              iterate 2 refine skipT rfl rfl rfl rfl ?_
              iterate 2 refine pE rfl ?_
              iterate 2 refine skipT rfl rfl rfl rfl ?_
              iterate 2 refine pE rfl ?_
              iterate 2 refine skipT rfl rfl rfl rfl ?_
              iterate 2 refine pE rfl ?_
              refine skipT rfl rfl rfl rfl ?_
              iterate 2 refine pE rfl ?_
              refine WO.nil ?_
              refine qv1 rfl rfl rfl
            ·
             iterate 2 refine skipT rfl rfl rfl rfl ?_
             iterate 2 refine pE rfl ?_
             iterate 2 refine skipT rfl rfl rfl rfl ?_
             iterate 2 refine pE rfl ?_
             iterate 2 refine skipT rfl rfl rfl rfl ?_
             iterate 2 refine pE rfl ?_
             iterate 2 refine skipT rfl rfl rfl rfl ?_
             iterate 2 refine pE rfl ?_
             iterate 2 refine skipT rfl rfl rfl rfl ?_
             iterate 2 refine pE rfl ?_
             iterate 2 refine skipT rfl rfl rfl rfl ?_
             iterate 2 refine pE rfl ?_
             refine skipT rfl rfl rfl rfl ?_
             iterate 2 refine pE rfl ?_
             refine WO.nil ?_
             refine qv1 rfl rfl rfl
           ·
            iterate 2 refine skipT rfl rfl rfl rfl ?_
            iterate 2 refine pE rfl ?_
            iterate 2 refine skipT rfl rfl rfl rfl ?_
            iterate 2 refine pE rfl ?_
            iterate 2 refine skipT rfl rfl rfl rfl ?_
            iterate 2 refine pE rfl ?_
            iterate 2 refine skipT rfl rfl rfl rfl ?_
            iterate 2 refine pE rfl ?_
            iterate 2 refine skipT rfl rfl rfl rfl ?_
            iterate 2 refine pE rfl ?_
            iterate 2 refine skipT rfl rfl rfl rfl ?_
            iterate 2 refine pE rfl ?_
            iterate 2 refine skipT rfl rfl rfl rfl ?_
            iterate 2 refine pE rfl ?_
            refine skipT rfl rfl rfl rfl ?_
            iterate 2 refine pE rfl ?_
            refine WO.nil ?_
            refine qv1 rfl rfl rfl
          ·
           iterate 2 refine skipT rfl rfl rfl rfl ?_
           iterate 2 refine pE rfl ?_
           iterate 2 refine skipT rfl rfl rfl rfl ?_
           iterate 2 refine pE rfl ?_
           iterate 2 refine skipT rfl rfl rfl rfl ?_
           iterate 2 refine pE rfl ?_
           iterate 2 refine skipT rfl rfl rfl rfl ?_
           iterate 2 refine pE rfl ?_
           iterate 2 refine skipT rfl rfl rfl rfl ?_
           iterate 2 refine pE rfl ?_
           iterate 2 refine skipT rfl rfl rfl rfl ?_
           iterate 2 refine pE rfl ?_
           iterate 2 refine skipT rfl rfl rfl rfl ?_
           iterate 2 refine pE rfl ?_
           iterate 2 refine skipT rfl rfl rfl rfl ?_
           iterate 2 refine pE rfl ?_
           refine skipT rfl rfl rfl rfl ?_
           iterate 2 refine pE rfl ?_
           refine WO.nil ?_
           refine qv1 rfl rfl rfl
         ·
          iterate 2 refine skipT rfl rfl rfl rfl ?_
          iterate 2 refine pE rfl ?_
          iterate 2 refine skipT rfl rfl rfl rfl ?_
          iterate 2 refine pE rfl ?_
          iterate 2 refine skipT rfl rfl rfl rfl ?_
          iterate 2 refine pE rfl ?_
          iterate 2 refine skipT rfl rfl rfl rfl ?_
          iterate 2 refine pE rfl ?_
          iterate 2 refine skipT rfl rfl rfl rfl ?_
          iterate 2 refine pE rfl ?_
          iterate 2 refine skipT rfl rfl rfl rfl ?_
          iterate 2 refine pE rfl ?_
          iterate 2 refine skipT rfl rfl rfl rfl ?_
          iterate 2 refine pE rfl ?_
          iterate 2 refine skipT rfl rfl rfl rfl ?_
          iterate 2 refine pE rfl ?_
          iterate 2 refine skipT rfl rfl rfl rfl ?_
          iterate 2 refine pE rfl ?_
          refine skipT rfl rfl rfl rfl ?_
          iterate 2 refine pE rfl ?_
          refine WO.nil ?_
          refine qv1 rfl rfl rfl
        ·
         iterate 2 refine skipT rfl rfl rfl rfl ?_
         iterate 2 refine pE rfl ?_
         iterate 2 refine skipT rfl rfl rfl rfl ?_
         iterate 2 refine pE rfl ?_
         iterate 2 refine skipT rfl rfl rfl rfl ?_
         iterate 2 refine pE rfl ?_
         iterate 2 refine skipT rfl rfl rfl rfl ?_
         iterate 2 refine pE rfl ?_
         iterate 2 refine skipT rfl rfl rfl rfl ?_
         iterate 2 refine pE rfl ?_
         iterate 2 refine skipT rfl rfl rfl rfl ?_
         iterate 2 refine pE rfl ?_
         iterate 2 refine skipT rfl rfl rfl rfl ?_
         iterate 2 refine pE rfl ?_
         iterate 2 refine skipT rfl rfl rfl rfl ?_
         iterate 2 refine pE rfl ?_
         iterate 2 refine skipT rfl rfl rfl rfl ?_
         iterate 2 refine pE rfl ?_
         iterate 2 refine skipT rfl rfl rfl rfl ?_
         iterate 2 refine pE rfl ?_
         refine skipT rfl rfl rfl rfl ?_
         iterate 2 refine pE rfl ?_
         refine WO.nil ?_
         refine qv1 rfl rfl rfl
       ·
        iterate 2 refine skipT rfl rfl rfl rfl ?_
        iterate 2 refine pE rfl ?_
        iterate 2 refine skipT rfl rfl rfl rfl ?_
        iterate 2 refine pE rfl ?_
        iterate 2 refine skipT rfl rfl rfl rfl ?_
        iterate 2 refine pE rfl ?_
        iterate 2 refine skipT rfl rfl rfl rfl ?_
        iterate 2 refine pE rfl ?_
        iterate 2 refine skipT rfl rfl rfl rfl ?_
        iterate 2 refine pE rfl ?_
        iterate 2 refine skipT rfl rfl rfl rfl ?_
        iterate 2 refine pE rfl ?_
        iterate 2 refine skipT rfl rfl rfl rfl ?_
        iterate 2 refine pE rfl ?_
        iterate 2 refine skipT rfl rfl rfl rfl ?_
        iterate 2 refine pE rfl ?_
        iterate 2 refine skipT rfl rfl rfl rfl ?_
        iterate 2 refine pE rfl ?_
        iterate 2 refine skipT rfl rfl rfl rfl ?_
        iterate 2 refine pE rfl ?_
        iterate 2 refine skipT rfl rfl rfl rfl ?_
        iterate 2 refine pE rfl ?_
        refine skipT rfl rfl rfl rfl ?_
        iterate 2 refine pE rfl ?_
        refine WO.nil ?_
        refine qv1 rfl rfl rfl
      ·
       iterate 5 refine skipT rfl rfl rfl rfl ?_
       iterate 2 refine pE rfl ?_
       iterate 2 refine skipT rfl rfl rfl rfl ?_
       iterate 2 refine pE rfl ?_
       iterate 2 refine skipT rfl rfl rfl rfl ?_
       iterate 2 refine pE rfl ?_
       iterate 2 refine skipT rfl rfl rfl rfl ?_
       iterate 2 refine pE rfl ?_
       iterate 2 refine skipT rfl rfl rfl rfl ?_
       iterate 2 refine pE rfl ?_
       iterate 2 refine skipT rfl rfl rfl rfl ?_
       iterate 2 refine pE rfl ?_
       iterate 2 refine skipT rfl rfl rfl rfl ?_
       iterate 2 refine pE rfl ?_
       iterate 2 refine skipT rfl rfl rfl rfl ?_
       iterate 2 refine pE rfl ?_
       iterate 2 refine skipT rfl rfl rfl rfl ?_
       iterate 2 refine pE rfl ?_
       iterate 2 refine skipT rfl rfl rfl rfl ?_
       iterate 2 refine pE rfl ?_
       iterate 2 refine skipT rfl rfl rfl rfl ?_
       iterate 2 refine pE rfl ?_
       iterate 2 refine skipT rfl rfl rfl rfl ?_
       iterate 2 refine pE rfl ?_
       refine skipT rfl rfl rfl rfl ?_
       iterate 2 refine pE rfl ?_
       refine WO.nil ?_
       refine qv1 rfl rfl rfl
     ·
      iterate 7 refine skipT rfl rfl rfl rfl ?_
      iterate 2 refine pE rfl ?_
      iterate 5 refine skipT rfl rfl rfl rfl ?_
      iterate 2 refine pE rfl ?_
      iterate 2 refine skipT rfl rfl rfl rfl ?_
      iterate 2 refine pE rfl ?_
      iterate 2 refine skipT rfl rfl rfl rfl ?_
      iterate 2 refine pE rfl ?_
      iterate 2 refine skipT rfl rfl rfl rfl ?_
      iterate 2 refine pE rfl ?_
      iterate 2 refine skipT rfl rfl rfl rfl ?_
      iterate 2 refine pE rfl ?_
      iterate 2 refine skipT rfl rfl rfl rfl ?_
      iterate 2 refine pE rfl ?_
      iterate 2 refine skipT rfl rfl rfl rfl ?_
      iterate 2 refine pE rfl ?_
      iterate 2 refine skipT rfl rfl rfl rfl ?_
      iterate 2 refine pE rfl ?_
      iterate 2 refine skipT rfl rfl rfl rfl ?_
      iterate 2 refine pE rfl ?_
      iterate 2 refine skipT rfl rfl rfl rfl ?_
      iterate 2 refine pE rfl ?_
      iterate 2 refine skipT rfl rfl rfl rfl ?_
      iterate 2 refine pE rfl ?_
      iterate 2 refine skipT rfl rfl rfl rfl ?_
      iterate 2 refine pE rfl ?_
      refine skipT rfl rfl rfl rfl ?_
      iterate 2 refine pE rfl ?_
      refine WO.nil ?_
      refine qv1 rfl rfl rfl
    ·
     iterate 6 refine skipT rfl rfl rfl rfl ?_
     iterate 2 refine pE rfl ?_
     iterate 7 refine skipT rfl rfl rfl rfl ?_
     iterate 2 refine pE rfl ?_
     iterate 5 refine skipT rfl rfl rfl rfl ?_
     iterate 2 refine pE rfl ?_
     iterate 2 refine skipT rfl rfl rfl rfl ?_
     iterate 2 refine pE rfl ?_
     iterate 2 refine skipT rfl rfl rfl rfl ?_
     iterate 2 refine pE rfl ?_
     iterate 2 refine skipT rfl rfl rfl rfl ?_
     iterate 2 refine pE rfl ?_
     iterate 2 refine skipT rfl rfl rfl rfl ?_
     iterate 2 refine pE rfl ?_
     iterate 2 refine skipT rfl rfl rfl rfl ?_
     iterate 2 refine pE rfl ?_
     iterate 2 refine skipT rfl rfl rfl rfl ?_
     iterate 2 refine pE rfl ?_
     iterate 2 refine skipT rfl rfl rfl rfl ?_
     iterate 2 refine pE rfl ?_
     iterate 2 refine skipT rfl rfl rfl rfl ?_
     iterate 2 refine pE rfl ?_
     iterate 2 refine skipT rfl rfl rfl rfl ?_
     iterate 2 refine pE rfl ?_
     iterate 2 refine skipT rfl rfl rfl rfl ?_
     iterate 2 refine pE rfl ?_
     iterate 2 refine skipT rfl rfl rfl rfl ?_
     iterate 2 refine pE rfl ?_
     refine skipT rfl rfl rfl rfl ?_
     iterate 2 refine pE rfl ?_
     refine WO.nil ?_
     refine qv1 rfl rfl rfl
   ·
    iterate 2 refine skipT rfl rfl rfl rfl ?_
    iterate 2 refine pE rfl ?_
    iterate 6 refine skipT rfl rfl rfl rfl ?_
    iterate 2 refine pE rfl ?_
    iterate 7 refine skipT rfl rfl rfl rfl ?_
    iterate 2 refine pE rfl ?_
    iterate 5 refine skipT rfl rfl rfl rfl ?_
    iterate 2 refine pE rfl ?_
    iterate 2 refine skipT rfl rfl rfl rfl ?_
    iterate 2 refine pE rfl ?_
    iterate 2 refine skipT rfl rfl rfl rfl ?_
    iterate 2 refine pE rfl ?_
    iterate 2 refine skipT rfl rfl rfl rfl ?_
    iterate 2 refine pE rfl ?_
    iterate 2 refine skipT rfl rfl rfl rfl ?_
    iterate 2 refine pE rfl ?_
    iterate 2 refine skipT rfl rfl rfl rfl ?_
    iterate 2 refine pE rfl ?_
    iterate 2 refine skipT rfl rfl rfl rfl ?_
    iterate 2 refine pE rfl ?_
    iterate 2 refine skipT rfl rfl rfl rfl ?_
    iterate 2 refine pE rfl ?_
    iterate 2 refine skipT rfl rfl rfl rfl ?_
    iterate 2 refine pE rfl ?_
    iterate 2 refine skipT rfl rfl rfl rfl ?_
    iterate 2 refine pE rfl ?_
    iterate 2 refine skipT rfl rfl rfl rfl ?_
    iterate 2 refine pE rfl ?_
    iterate 2 refine skipT rfl rfl rfl rfl ?_
    iterate 2 refine pE rfl ?_
    refine skipT rfl rfl rfl rfl ?_
    iterate 2 refine pE rfl ?_
    refine WO.nil ?_
    refine qv1 rfl rfl rfl
  ·
   iterate 2 refine skipT rfl rfl rfl rfl ?_
   iterate 2 refine pE rfl ?_
   iterate 2 refine skipT rfl rfl rfl rfl ?_
   iterate 2 refine pE rfl ?_
   iterate 6 refine skipT rfl rfl rfl rfl ?_
   iterate 2 refine pE rfl ?_
   iterate 7 refine skipT rfl rfl rfl rfl ?_
   iterate 2 refine pE rfl ?_
   iterate 5 refine skipT rfl rfl rfl rfl ?_
   iterate 2 refine pE rfl ?_
   iterate 2 refine skipT rfl rfl rfl rfl ?_
   iterate 2 refine pE rfl ?_
   iterate 2 refine skipT rfl rfl rfl rfl ?_
   iterate 2 refine pE rfl ?_
   iterate 2 refine skipT rfl rfl rfl rfl ?_
   iterate 2 refine pE rfl ?_
   iterate 2 refine skipT rfl rfl rfl rfl ?_
   iterate 2 refine pE rfl ?_
   iterate 2 refine skipT rfl rfl rfl rfl ?_
   iterate 2 refine pE rfl ?_
   iterate 2 refine skipT rfl rfl rfl rfl ?_
   iterate 2 refine pE rfl ?_
   iterate 2 refine skipT rfl rfl rfl rfl ?_
   iterate 2 refine pE rfl ?_
   iterate 2 refine skipT rfl rfl rfl rfl ?_
   iterate 2 refine pE rfl ?_
   iterate 2 refine skipT rfl rfl rfl rfl ?_
   iterate 2 refine pE rfl ?_
   iterate 2 refine skipT rfl rfl rfl rfl ?_
   iterate 2 refine pE rfl ?_
   iterate 2 refine skipT rfl rfl rfl rfl ?_
   iterate 2 refine pE rfl ?_
   refine skipT rfl rfl rfl rfl ?_
   iterate 2 refine pE rfl ?_
   refine WO.nil ?_
   refine qv1 rfl rfl rfl
 refine qs (W.ret ?_)
 refine QF.ret0 trivial rfl ?_
 rfl
end Go.Proofs.YtmhnnodofahpdaaGreatDoor
namespace Go.Proofs.YtmhnnodofahpdaaGreatDoor
open Go.Ab Go.Tb
set_option maxRecDepth 10000
attribute [local irreducible] W WO Pu QS QB QL QF QV QV1 CH QE
theorem small_len {l : List Smp} (h : smallF l = true) : l.length ≤ 100 := by
 unfold smallF at h
 simp at h
 exact h.1
theorem forder_fn (l : List Smp) (u : Nat) (part : Int) (hu : u < 256) : Does Tryz.prog 6 [.d (.sl (l.map Smp.c)), .d (.v (.int .u8 u)), .d (.v (.int .i64 part))] (.d (.v (.bool true))) 0 := by
 refine Does.of_W (n := 116) (ts := [6]) Tryz.func6 (by kernel_rfl) rfl Tryz.ntmps6 Tryz.results6 rfl rfl fun C hC hG => ?_
 refine W.seq (W.region ?_)
 refine pE rfl ?_
 refine WO.nil (qs ?_)
 iterate 2 refine W.seq ?_
 apply regionB; (case hb => rfl)
 ·
  refine pE rfl ?_
  refine pu (puCall rfl rfl rfl (fsmall_fn ..) rfl) rfl ?_
  iterate 2 refine pE rfl ?_
  apply splitH; (case hj => rfl); (case hl => rfl)
  ·
   intro g19
   iterate 3 refine skipT rfl rfl rfl rfl ?_
   refine pE rfl ?_
   refine WO.nil ?_
   refine qv1 rfl rfl rfl
  ·
   intro g19
   refine goG rfl rfl ?_
   refine pE rfl ?_
   refine goG rfl rfl ?_
   refine pE rfl ?_
   refine goG rfl rfl ?_
   iterate 2 refine pE rfl ?_
   refine WO.nil ?_
   refine qv1 rfl rfl rfl
 refine qs ?_
 refine condK rfl (fun h23 => ?_) (fun h23 => ?_)
 ·
  refine W.seq (W.region ?_)
  refine pu (puCall rfl rfl rfl (awake_fn ..) rfl) rfl ?_
  refine pE rfl ?_
  refine WO.nil (qs (W.ret (qsRet ?_)))
  refine QF.ret0 trivial rfl ?_
  rfl
 ·
  have hs : l.length ≤ 100 ∧ 0 < l.length := by
   simp at h23
   exact ⟨small_len h23.1, List.length_pos_iff.2 h23.2⟩
  have hi : u % l.length < l.length := Nat.mod_lt _ hs.2
  obtain ⟨p, hp⟩ : ∃ p, l[u % l.length]? = some p := ⟨l[u % l.length], by simp [hi]⟩
  have hmod : ((u : Int)).tmod (l.length : Int) = ((u % l.length : Nat) : Int) := rfl
  refine W.skip (qs (W.seq (W.region ?_)))
  refine pE rfl ?_
  refine pu (puI (ev tab rfl) (y := (u : Int)) (wrap64 (by omega))) rfl ?_
  iterate 2 refine pE rfl ?_
  refine pu (puI (remR rfl rfl (by rw [List.length_map]; omega) (by rw [List.length_map, hmod]; exact okc_range (by omega))) (by rw [List.length_map, hmod])) rfl ?_
  refine pE rfl ?_
  refine WO.nil (qs (W.seq (W.region ?_)))
  refine pE rfl ?_
  refine WO.nil (qs ?_)
  iterate 2 refine W.seq ?_
  refine W.region ?_
  iterate 2 refine pE rfl ?_
  refine pu (puI (ev tab rfl) (y := ((l.length - 1 : Nat) : Int)) (by rw [List.length_map, wrap64 (by omega)]; omega)) rfl ?_
  refine pE rfl ?_
  refine WO.nil (qs (W.block ?_))
  refine ownNilR (d := 8) rfl rfl ?_
  refine W.loopR (ι := {x : Nat × List Smp // match x with | (j, m) => (u % l.length ≤ j ∧ j < l.length) ∧ m = (l.drop (j + 1)).reverse})
   (fun x => match x.1 with | (j, m) => [(8, .own 0 (m.map Smp.c)), (9, .d (.v (.int .i64 ((j : Nat) : Int))))]) [(0, _), (2, _), (7, _)]
   (fun x => match x.1 with | (j, m) => []) [] [0] 1 (fun x => match x.1 with | (j, m) => j)
   [0] ⟨(l.length - 1, []), ?_⟩ rfl ?_ ⟨rfl, rfl, rfl, rfl, rfl, rfl, trivial⟩ ?_ trivial rfl ?_
  · exact ⟨⟨by omega, by omega⟩, by rw [List.drop_eq_nil_of_le (by omega)]; rfl⟩
  · repeat' first | exact trivial | refine ⟨rfl, ?_⟩ | refine ⟨congrArg some (renL_boxE _ _ _), ?_⟩ | refine ⟨step_nat (by assumption) (by assumption), ?_⟩
  · repeat' first | exact trivial | refine ⟨rfl, ?_⟩ | refine ⟨congrArg some (renL_boxE _ _ _), ?_⟩ | refine ⟨step_nat (by assumption) (by assumption), ?_⟩
  rintro ⟨⟨j, m⟩, hk, hI⟩
  show W _ _ _ _ _ ⟨[(8, .own 0 (m.map Smp.c)), (9, .d (.v (.int .i64 ((j : Nat) : Int)))), (0, _), (2, _), (7, _)], [], [0], 1⟩
  iterate 2 refine W.seq ?_
  refine W.region ?_
  iterate 3 refine pE rfl ?_
  refine WO.nil (qs ?_)
  refine condK rfl (fun h35 => ?_) (fun h35 => ?_)
  ·
   have hlt : u % l.length < j := by simp at h35; omega
   obtain ⟨y, hy⟩ : ∃ y, l[j]? = some y := ⟨l[j], by simp [hk.2]⟩
   have hml : m.length ≤ 100 := by rw [hI]; simp; omega
   have hdj : l.drop j = y :: l.drop (j + 1) := by rw [List.drop_eq_getElem_cons hk.2, (List.getElem?_eq_some_iff.1 hy).2]
   refine W.skip (qs (W.seq (W.block (W.region ?_))))
   iterate 3 refine pE rfl ?_
   refine pu (indexAddr (l := y.c) tab rfl rfl rfl rfl rfl rfl (Int.natCast_nonneg _) (idx_map hy) rfl) rfl ?_
   first | refine pE rfl ?_ | refine pR rfl rfl rfl rfl rfl ?_ | refine pB rfl rfl rfl rfl rfl rfl ?_
   refine pu (buildV tab rfl rfl rfl rfl rfl rfl rfl rfl rfl) rfl ?_
   refine appendM (fn := Smp.c) (a := y) tab rfl rfl rfl rfl rfl rfl rfl rfl rfl rfl (fun _ => rfl) (by show (m.length + 1) * 48 ≤ _; omega) ?_
   refine pE rfl ?_
   refine WO.nil (qbN (qs (W.region ?_)))
   refine pE rfl ?_
   refine pu (puI (ev tab rfl) (y := ((j - 1 : Nat) : Int)) ((wrap64 (by omega)).trans (by omega))) rfl ?_
   refine pE rfl ?_
   refine WO.nil ?_
   refine W.endR [1] ⟨(j - 1, m ++ [y]), ?_⟩ ?_ rfl ?_ ⟨rfl, rfl, rfl, rfl, rfl, rfl, trivial⟩ ?_ trivial rfl
   · exact ⟨⟨by omega, by omega⟩, by rw [show j - 1 + 1 = j by omega, hdj, List.reverse_cons, hI]⟩
   · dsimp only; omega
   · repeat' first | exact trivial | refine ⟨rfl, ?_⟩ | refine ⟨congrArg some (renL_boxE _ _ _), ?_⟩ | refine ⟨step_nat (by assumption) (by assumption), ?_⟩
   · repeat' first | exact trivial | refine ⟨rfl, ?_⟩ | refine ⟨congrArg some (renL_boxE _ _ _), ?_⟩ | refine ⟨step_nat (by assumption) (by assumption), ?_⟩
  ·
   have hje : j = u % l.length := by simp at h35; omega
   have hml : m.length ≤ 100 := by rw [hI]; simp; omega
   refine W.exit (qsExit (qlExit (qbExit (qs (W.seq (W.region ?_))))))
   iterate 3 refine pE rfl ?_
   refine pu (sliceV (fn := Smp.c) (l := l) (i := 0) (j := ((u % l.length : Nat) : Int)) (r := l.take (u % l.length)) tab rfl rfl rfl rfl rfl (fun _ => rfl) rfl rfl (by decide) (by omega) (by omega) (by show (l.take (u % l.length)).drop 0 = _; rfl)) rfl ?_
   refine appendMs (l2 := l.take (u % l.length)) (fn := Smp.c) tab rfl rfl rfl rfl rfl rfl rfl rfl rfl rfl (fun _ => rfl) (by show (m.length + (l.take (u % l.length)).length) * 48 ≤ _; rw [List.length_take]; omega) ?_
   refine pE rfl ?_
   refine WO.nil (qs (W.seq ?_))
   refine W.regionE tab 11 2 (by kernel_rfl) rfl rfl ?_
   refine cePu rfl (ev tab rfl) rfl ?_
   refine cePu rfl (ev tab rfl) rfl ?_
   refine cePu rfl (indexAddr (l := p.c) tab rfl rfl rfl rfl rfl rfl (Int.natCast_nonneg _) (idx_map hp) rfl) rfl ?_
   first | refine cePu rfl (ev tab rfl) rfl ?_ | refine cePu rfl (loadRow tab rfl rfl rfl rfl) rfl ?_ | refine cePu rfl (loadBox tab rfl rfl rfl rfl rfl) rfl ?_
   refine cePu rfl (ev tab rfl) rfl ?_
   refine cePu rfl (ev tab rfl) rfl ?_
   refine cePu rfl (indexAddr (l := p.c) tab rfl rfl rfl rfl rfl rfl (Int.natCast_nonneg _) (idx_map hp) rfl) rfl ?_
   first | refine cePu rfl (ev tab rfl) rfl ?_ | refine cePu rfl (loadRow tab rfl rfl rfl rfl) rfl ?_ | refine cePu rfl (loadBox tab rfl rfl rfl rfl rfl) rfl ?_
   refine ceAlloc 0 rfl rfl rfl rfl rfl rfl ?_
   refine ceAlloc 1 rfl rfl rfl rfl rfl rfl ?_
   refine ceStore 8 0 rfl rfl rfl rfl rfl rfl rfl rfl rfl rfl rfl rfl ?_
   refine CE.nil ?_
   refine storeR tab rfl rfl rfl rfl rfl rfl rfl rfl ?_
   refine WO.nil (qs ?_)
   iterate 2 refine W.seq ?_
   apply regionB; (case hb => rfl)
   ·
    iterate 3 refine pE rfl ?_
    apply splitH; (case hj => rfl); (case hl => rfl)
    ·
     intro g60
     refine goG rfl rfl ?_
     refine pE rfl ?_
     refine goG rfl rfl ?_
     refine pE rfl ?_
     refine goG rfl rfl ?_
     first | refine pE rfl ?_ | refine pR rfl rfl rfl rfl rfl ?_ | refine pB rfl rfl rfl rfl rfl rfl ?_
     refine goG rfl rfl ?_
     iterate 3 refine pE rfl ?_
     apply splitH; (case hj => rfl); (case hl => rfl)
     ·
      intro g66
      refine goG rfl rfl ?_
      refine pE rfl ?_
      refine goG rfl rfl ?_
      first | refine pE rfl ?_ | refine pR rfl rfl rfl rfl rfl ?_ | refine pB rfl rfl rfl rfl rfl rfl ?_
      refine goG rfl rfl ?_
      iterate 2 refine pE rfl ?_
      refine WO.nil ?_
      refine qv1 rfl rfl rfl
     ·
      intro g66
      iterate 3 refine skipT rfl rfl rfl rfl ?_
      refine pE rfl ?_
      refine WO.nil ?_
      refine qv1 rfl rfl rfl
    ·
     intro g60
     iterate 4 refine skipT rfl rfl rfl rfl ?_
     iterate 2 refine pE rfl ?_
     iterate 3 refine skipT rfl rfl rfl rfl ?_
     refine pE rfl ?_
     refine WO.nil ?_
     refine qv1 rfl rfl rfl
   refine qs ?_
   refine condK rfl (fun h70 => ?_) (fun h70 => ?_)
   ·
    have hq : 1 ≤ part ∧ part < p.weight ∧ p.weight ≤ 1000000000000 := by simp at h70; omega
    let tl : List Smp := [⟨p.thread, p.tm, part, p.stack⟩, ⟨p.thread, p.tm, p.weight - part, p.stack⟩]
    have htl : tl.length ≤ 2 := Nat.le_refl 2
    have hor := order_two hp hq.1 hq.2.1 hq.2.2
    rw [show otherF l (u % l.length) [⟨p.thread, p.tm, part, p.stack⟩, ⟨p.thread, p.tm, p.weight - part, p.stack⟩] = m ++ l.take (u % l.length) ++ tl by rw [hI, hje]; rfl] at hor
    refine W.seq (W.region ?_)
    iterate 2 refine pE rfl ?_
    refine storeR tab rfl rfl rfl rfl rfl rfl rfl rfl ?_
    refine WO.nil (qs (W.seq (W.region ?_)))
    refine pE rfl ?_
    first | refine pE rfl ?_ | refine pR rfl rfl rfl rfl rfl ?_ | refine pB rfl rfl rfl rfl rfl rfl ?_
    refine pE rfl ?_
    refine pu (puI (ev tab rfl) (y := p.weight - part) (wrap64 (by omega))) rfl ?_
    refine pE rfl ?_
    refine storeR tab rfl rfl rfl rfl rfl rfl rfl rfl ?_
    refine WO.nil (qs (W.region ?_))
    refine pE rfl ?_
    first | refine pE rfl ?_ | refine pR rfl rfl rfl rfl rfl ?_ | refine pB rfl rfl rfl rfl rfl rfl ?_
    first | refine pE rfl ?_ | refine pR rfl rfl rfl rfl rfl ?_ | refine pB rfl rfl rfl rfl rfl rfl ?_
    refine pu (buildV tab rfl rfl rfl rfl rfl rfl rfl rfl rfl) rfl ?_
    refine appendMs (l2 := tl) (fn := Smp.c) tab rfl rfl rfl rfl rfl rfl rfl rfl rfl rfl (fun _ => rfl) (by show ((m ++ l.take (u % l.length)).length + tl.length) * 48 ≤ _; rw [List.length_append, List.length_take]; omega) ?_
    refine pE rfl ?_
    refine WO.nil (qs (W.seq (W.region ?_)))
    refine pE rfl ?_
    refine pu (puCall rfl rfl rfl (print_fn l (by omega)) rfl) rfl ?_
    iterate 5 refine pE rfl ?_
    refine WO.nil (qs (W.seq (W.region ?_)))
    refine pE rfl ?_
    refine pu (puCall rfl rfl rfl (print_fn (m ++ l.take (u % l.length) ++ tl) (by rw [List.length_append, List.length_append, List.length_take]; omega)) rfl) rfl ?_
    iterate 5 refine pE rfl ?_
    refine WO.nil (qs (W.seq ?_))
    apply regionB; (case hb => rfl)
    ·
     iterate 3 refine pE rfl ?_
     apply splitH; (case hj => rfl); (case hl => rfl)
     ·
      intro g99
      refine goG rfl rfl ?_
      refine pE rfl ?_
      refine goG rfl rfl ?_
      iterate 3 refine pE rfl ?_
      apply splitH; (case hj => rfl); (case hl => rfl)
      ·
       intro g103
       iterate 4 refine skipT rfl rfl rfl rfl ?_
       iterate 3 refine skipU rfl rfl rfl ?_
       refine skipT rfl rfl rfl rfl ?_
       iterate 2 refine pE rfl ?_
       refine goG rfl rfl ?_
       refine pu (puCall rfl rfl rfl (awake_fn ..) rfl) rfl ?_
       iterate 2 refine pE rfl ?_
       refine WO.nil ?_
       refine qv1 rfl rfl rfl
      ·
       intro g103
       refine goG rfl rfl ?_
       refine pE rfl ?_
       refine goG rfl rfl ?_
       refine pE rfl ?_
       refine goG rfl rfl ?_
       refine pE rfl ?_
       refine goG rfl rfl ?_
       refine pE rfl ?_
       apply splitH; (case hj => rfl); (case hl => rfl)
       ·
        intro g107
        refine goG rfl rfl ?_
        refine pE rfl ?_
        refine goG rfl rfl ?_
        refine pE rfl ?_
        refine goG rfl rfl ?_
        refine pE rfl ?_
        refine goG rfl rfl ?_
        iterate 3 refine pE rfl ?_
        apply splitH; (case hj => rfl); (case hl => rfl)
        ·
         intro g113
         refine goG rfl rfl ?_
         refine pu (puCall rfl rfl rfl (awake_fn ..) rfl) rfl ?_
         iterate 2 refine pE rfl ?_
         refine WO.nil ?_
         refine qv1 rfl rfl rfl
        ·
         intro g113
         refine skipT rfl rfl rfl rfl ?_
         iterate 2 refine pE rfl ?_
         refine WO.nil ?_
         refine qv1 rfl rfl rfl
       ·
        intro g107
        iterate 3 refine skipT rfl rfl rfl rfl ?_
        refine goG rfl rfl ?_
        iterate 3 refine pE rfl ?_
        refine skipT rfl rfl rfl rfl ?_
        iterate 2 refine pE rfl ?_
        refine WO.nil ?_
        refine qv1 rfl rfl rfl
     ·
      intro g99
      iterate 2 refine skipT rfl rfl rfl rfl ?_
      iterate 2 refine pE rfl ?_
      refine goG rfl rfl ?_
      refine pE rfl ?_
      refine goG rfl rfl ?_
      refine pE rfl ?_
      refine goG rfl rfl ?_
      refine pE rfl ?_
      refine goG rfl rfl ?_
      refine pE rfl ?_
      apply splitH; (case hj => rfl); (case hl => rfl)
      ·
       intro g107
       refine goG rfl rfl ?_
       refine pE rfl ?_
       refine goG rfl rfl ?_
       refine pE rfl ?_
       refine goG rfl rfl ?_
       refine pE rfl ?_
       refine goG rfl rfl ?_
       iterate 3 refine pE rfl ?_
       apply splitH; (case hj => rfl); (case hl => rfl)
       ·
        intro g113
        refine goG rfl rfl ?_
        refine pu (puCall rfl rfl rfl (awake_fn ..) rfl) rfl ?_
        iterate 2 refine pE rfl ?_
        refine WO.nil ?_
        refine qv1 rfl rfl rfl
       ·
        intro g113
        refine skipT rfl rfl rfl rfl ?_
        iterate 2 refine pE rfl ?_
        refine WO.nil ?_
        refine qv1 rfl rfl rfl
      ·
       intro g107
       iterate 3 refine skipT rfl rfl rfl rfl ?_
       refine goG rfl rfl ?_
       iterate 3 refine pE rfl ?_
       refine skipT rfl rfl rfl rfl ?_
       iterate 2 refine pE rfl ?_
       refine WO.nil ?_
       refine qv1 rfl rfl rfl
    refine qs (W.ret ?_)
    refine QF.ret0 trivial rfl ?_
    rcases hor with ⟨a, b⟩ | e
    ·
     rw [List.append_assoc] at b
     simp [norm, oneA, boolA, a, b]
    ·
     rw [← e]
     by_cases q : (printF l).2 = 0 <;> simp [norm, oneA, boolA, q]
   ·
    let tl : List Smp := [p]
    have htl : tl.length ≤ 2 := Nat.le_succ 1
    have hor := order_one hp
    rw [show otherF l (u % l.length) [p] = m ++ l.take (u % l.length) ++ tl by rw [hI, hje]; rfl] at hor
    refine W.region ?_
    refine pE rfl ?_
    first | refine pE rfl ?_ | refine pR rfl rfl rfl rfl rfl ?_ | refine pB rfl rfl rfl rfl rfl rfl ?_
    refine pu (buildV tab rfl rfl rfl rfl rfl rfl rfl rfl rfl) rfl ?_
    refine appendM (fn := Smp.c) (a := p) tab rfl rfl rfl rfl rfl rfl rfl rfl rfl rfl (fun _ => rfl) (by show ((m ++ l.take (u % l.length)).length + 1) * 48 ≤ _; rw [List.length_append, List.length_take]; omega) ?_
    refine pE rfl ?_
    refine WO.nil (qs (W.seq (W.region ?_)))
    refine pE rfl ?_
    refine pu (puCall rfl rfl rfl (print_fn l (by omega)) rfl) rfl ?_
    iterate 5 refine pE rfl ?_
    refine WO.nil (qs (W.seq (W.region ?_)))
    refine pE rfl ?_
    refine pu (puCall rfl rfl rfl (print_fn (m ++ l.take (u % l.length) ++ tl) (by rw [List.length_append, List.length_append, List.length_take]; omega)) rfl) rfl ?_
    iterate 5 refine pE rfl ?_
    refine WO.nil (qs (W.seq ?_))
    apply regionB; (case hb => rfl)
    ·
     iterate 3 refine pE rfl ?_
     apply splitH; (case hj => rfl); (case hl => rfl)
     ·
      intro g99
      refine goG rfl rfl ?_
      refine pE rfl ?_
      refine goG rfl rfl ?_
      iterate 3 refine pE rfl ?_
      apply splitH; (case hj => rfl); (case hl => rfl)
      ·
       intro g103
       iterate 4 refine skipT rfl rfl rfl rfl ?_
       iterate 3 refine skipU rfl rfl rfl ?_
       refine skipT rfl rfl rfl rfl ?_
       iterate 2 refine pE rfl ?_
       refine goG rfl rfl ?_
       refine pu (puCall rfl rfl rfl (awake_fn ..) rfl) rfl ?_
       iterate 2 refine pE rfl ?_
       refine WO.nil ?_
       refine qv1 rfl rfl rfl
      ·
       intro g103
       refine goG rfl rfl ?_
       refine pE rfl ?_
       refine goG rfl rfl ?_
       refine pE rfl ?_
       refine goG rfl rfl ?_
       refine pE rfl ?_
       refine goG rfl rfl ?_
       refine pE rfl ?_
       apply splitH; (case hj => rfl); (case hl => rfl)
       ·
        intro g107
        refine goG rfl rfl ?_
        refine pE rfl ?_
        refine goG rfl rfl ?_
        refine pE rfl ?_
        refine goG rfl rfl ?_
        refine pE rfl ?_
        refine goG rfl rfl ?_
        iterate 3 refine pE rfl ?_
        apply splitH; (case hj => rfl); (case hl => rfl)
        ·
         intro g113
         refine goG rfl rfl ?_
         refine pu (puCall rfl rfl rfl (awake_fn ..) rfl) rfl ?_
         iterate 2 refine pE rfl ?_
         refine WO.nil ?_
         refine qv1 rfl rfl rfl
        ·
         intro g113
         refine skipT rfl rfl rfl rfl ?_
         iterate 2 refine pE rfl ?_
         refine WO.nil ?_
         refine qv1 rfl rfl rfl
       ·
        intro g107
        iterate 3 refine skipT rfl rfl rfl rfl ?_
        refine goG rfl rfl ?_
        iterate 3 refine pE rfl ?_
        refine skipT rfl rfl rfl rfl ?_
        iterate 2 refine pE rfl ?_
        refine WO.nil ?_
        refine qv1 rfl rfl rfl
     ·
      intro g99
      iterate 2 refine skipT rfl rfl rfl rfl ?_
      iterate 2 refine pE rfl ?_
      refine goG rfl rfl ?_
      refine pE rfl ?_
      refine goG rfl rfl ?_
      refine pE rfl ?_
      refine goG rfl rfl ?_
      refine pE rfl ?_
      refine goG rfl rfl ?_
      refine pE rfl ?_
      apply splitH; (case hj => rfl); (case hl => rfl)
      ·
       intro g107
       refine goG rfl rfl ?_
       refine pE rfl ?_
       refine goG rfl rfl ?_
       refine pE rfl ?_
       refine goG rfl rfl ?_
       refine pE rfl ?_
       refine goG rfl rfl ?_
       iterate 3 refine pE rfl ?_
       apply splitH; (case hj => rfl); (case hl => rfl)
       ·
        intro g113
        refine goG rfl rfl ?_
        refine pu (puCall rfl rfl rfl (awake_fn ..) rfl) rfl ?_
        iterate 2 refine pE rfl ?_
        refine WO.nil ?_
        refine qv1 rfl rfl rfl
       ·
        intro g113
        refine skipT rfl rfl rfl rfl ?_
        iterate 2 refine pE rfl ?_
        refine WO.nil ?_
        refine qv1 rfl rfl rfl
      ·
       intro g107
       iterate 3 refine skipT rfl rfl rfl rfl ?_
       refine goG rfl rfl ?_
       iterate 3 refine pE rfl ?_
       refine skipT rfl rfl rfl rfl ?_
       iterate 2 refine pE rfl ?_
       refine WO.nil ?_
       refine qv1 rfl rfl rfl
    refine qs (W.ret ?_)
    refine QF.ret0 trivial rfl ?_
    rcases hor with ⟨a, b⟩ | e
    ·
     rw [List.append_assoc] at b
     simp [norm, oneA, boolA, a, b]
    ·
     rw [← e]
     by_cases q : (printF l).2 = 0 <;> simp [norm, oneA, boolA, q]
theorem forder_fn2 (l : List Smp) (m part : Int) (hu : okc (.int .u8 m) = true) : Does Tryz.prog 6 [.d (.sl (l.map Smp.c)), .d (.v (.int .u8 m)), .d (.v (.int .i64 part))] (.d (.v (.bool true))) 0 := by
 have hm : 0 ≤ m ∧ m ≤ 255 := by simpa [okc, IntKind.min, IntKind.max, IntKind.signed, IntKind.bits] using hu
 obtain ⟨u, rfl⟩ : ∃ u : Nat, m = (u : Int) := ⟨m.toNat, by omega⟩
 exact forder_fn l u part (by omega)
end Go.Proofs.YtmhnnodofahpdaaGreatDoor
