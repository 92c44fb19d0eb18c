import Derived.Test.YtoojafbicmdclaaGreatDoorQ4
import Derived.Test.YtoojafbicmdclaaGreatDoorChecked
import Derived.KernelRfl
import Derived.Test.YtoojafbicmdclaaGreatDoorRows
import Derived.Shelf.Strings.Builder1
import Derived.Shelf.Small.Strs
import Derived.Shelf.Strconv.Atoi
import Derived.Shelf.Strconv.Itoa0
import Derived.Shelf.Strconv.Itoa1
import Derived.Shelf.LaysM
import Derived.Shelf.Strconv.Itoa2
import Derived.Shelf.Strconv.Itoa3
import Derived.Shelf.Strconv.AtoiErrFast
import Derived.Shelf.Strconv.ParseIntEmpty
import Derived.Shelf.Strconv.AtoiFail
import Derived.Shelf.Strconv.Clone
import Derived.Shelf.Strconv.SyntaxError
import Derived.Shelf.LaysC
import Derived.Shelf.Strconv.ToError
import Derived.Shelf.Strconv.AtoiErr
import Derived.Shelf.Strconv.ErrVar
import Derived.Shelf.Strconv.Lower
import Derived.Shelf.Strconv.ParseUint10
import Derived.Shelf.Strconv.ParseUint10Empty
import Derived.Shelf.Strconv.ParseUint10Any
import Derived.Shelf.Strconv.ParseInt10
import Derived.Shelf.Strconv.AtoiLong
import Derived.Shelf.Strconv.AtoiInnerAll
import Derived.Shelf.Strconv.RangeError
import Derived.Shelf.Strconv.ToErrorRange
import Derived.Shelf.Strconv.AtoiAll
import Derived.Shelf.Strconv.ErrVarAll
import Derived.Shelf.Strings.Search1
import Derived.Shelf.Strings.Search2
import Derived.Shelf.Strings.Search3
import Derived.Shelf.Strings.Count
import Derived.Shelf.Strings.Shaped
import Derived.Shelf.Strings.Split
import Derived.Shelf.Strings.SplitShaped
import Derived.Shelf.Unicode.DecodeSlow
import Derived.Shelf.Slices.Equal
import Derived.Shelf.Slices.Empties2
import Derived.Test.YtoojafbicmdclaaGreatDoorProg
import Derived.WalkKit
import Derived.OwnWalkIn
import Derived.TacticsInMore
import Derived.LoopNIn
import Derived.LoopIn
import Derived.BigRegionIn
namespace Go.Proofs.YtoojafbicmdclaaGreatDoor
open Go.Ab
abbrev xZ : List (Nat × bo) := [
 (2, ⟨.int .i64, 1, 8, [.int .i64 0]⟩),
 (3, ⟨.int .i64, 1, 8, [.int .i64 0]⟩),
 (4, ⟨.bool, 1, 1, [.bool false]⟩),
 (5, ⟨.int .u8, 1, 1, [.int .u8 0]⟩),
 (9, ⟨.str, 1, 16, [.string ⟨#[]⟩]⟩),
 (12, ⟨.int .u64, 1, 8, [.int .u64 0]⟩),
 (21, ⟨.int .i32, 1, 4, [.int .i32 0]⟩),
 (23, ⟨.slice 58, 1, 24, [.slice none 0 0]⟩),
 (24, ⟨.slice 61, 1, 24, [.slice none 0 0]⟩),
 (25, ⟨.slice 112, 1, 24, [.slice none 0 0]⟩),
 (27, ⟨.st [(0, 23, "Threads"), (1, 24, "Domains"), (2, 25, "Snaps")], 3, 72, [.slice none 0 0, .slice none 0 0, .slice none 0 0]⟩),
 (28, ⟨.slice 63, 1, 24, [.slice none 0 0]⟩),
 (30, ⟨.st [(0, 27, "Head"), (3, 28, "Parts")], 4, 96, [.slice none 0 0, .slice none 0 0, .slice none 0 0, .slice none 0 0]⟩),
 (31, ⟨.int .i64, 1, 8, [.int .i64 0]⟩),
 (39, ⟨.slice 101, 1, 24, [.slice none 0 0]⟩),
 (44, ⟨.int .i64, 1, 8, [.int .i64 0]⟩),
 (45, ⟨.slice 9, 1, 24, [.slice none 0 0]⟩),
 (46, ⟨.slice 48, 1, 24, [.slice none 0 0]⟩),
 (48, ⟨.st [(0, 44, "Op"), (1, 3, "N"), (2, 9, "S"), (3, 45, "Keys"), (4, 46, "Kids")], 5, 80, [.int .i64 0, .int .i64 0, .string ⟨#[]⟩, .slice none 0 0, .slice none 0 0]⟩),
 (50, ⟨.int .i64, 1, 8, [.int .i64 0]⟩),
 (52, ⟨.st [(0, 3, "At"), (1, 50, "Kind"), (2, 9, "Name"), (3, 3, "N"), (4, 3, "M"), (5, 45, "Stack")], 6, 72, [.int .i64 0, .int .i64 0, .string ⟨#[]⟩, .int .i64 0, .int .i64 0, .slice none 0 0]⟩),
 (58, ⟨.st [(0, 3, "Id"), (1, 9, "Name"), (2, 3, "Domain")], 3, 32, [.int .i64 0, .string ⟨#[]⟩, .int .i64 0]⟩),
 (59, ⟨.slice 52, 1, 24, [.slice none 0 0]⟩),
 (61, ⟨.st [(0, 3, "Id"), (1, 3, "Ppm")], 2, 16, [.int .i64 0, .int .i64 0]⟩),
 (63, ⟨.st [(0, 3, "Thread"), (1, 3, "Serial"), (2, 3, "Lost"), (3, 59, "Events")], 4, 48, [.int .i64 0, .int .i64 0, .int .i64 0, .slice none 0 0]⟩),
 (66, ⟨.slice 3, 1, 24, [.slice none 0 0]⟩),
 (70, ⟨.ptr 73, 1, 8, [.pointer none]⟩),
 (71, ⟨.map 3 59, 1, 8, [.map none]⟩),
 (73, ⟨.st [(0, 66, "ids"), (1, 71, "events")], 2, 32, [.slice none 0 0, .map none]⟩),
 (80, ⟨.slice 152, 1, 24, [.slice none 0 0]⟩),
 (89, ⟨.ptr 92, 1, 8, [.pointer none]⟩),
 (90, ⟨.map 3 9, 1, 8, [.map none]⟩),
 (92, ⟨.st [(0, 66, "ids"), (1, 90, "names"), (2, 71, "events")], 3, 40, [.slice none 0 0, .map none, .map none]⟩),
 (94, ⟨.slice 59, 1, 24, [.slice none 0 0]⟩),
 (101, ⟨.st [(0, 3, "Thread"), (1, 3, "Serial"), (2, 3, "Count")], 3, 24, [.int .i64 0, .int .i64 0, .int .i64 0]⟩),
 (110, ⟨.st [(0, 3, "Lo"), (1, 3, "Hi")], 2, 16, [.int .i64 0, .int .i64 0]⟩),
 (112, ⟨.st [(0, 3, "A"), (1, 3, "AtA"), (2, 3, "B"), (3, 110, "AtB")], 5, 40, [.int .i64 0, .int .i64 0, .int .i64 0, .int .i64 0, .int .i64 0]⟩),
 (115, ⟨.ptr 117, 1, 8, [.pointer none]⟩),
 (117, ⟨.st [(0, 48, "j"), (5, 4, "bad")], 6, 88, [.int .i64 0, .int .i64 0, .string ⟨#[]⟩, .slice none 0 0, .slice none 0 0, .bool false]⟩),
 (121, ⟨.slice 123, 1, 24, [.slice none 0 0]⟩),
 (123, ⟨.st [(0, 9, "ph"), (1, 50, "kind"), (2, 4, "name"), (3, 9, "n"), (4, 9, "m"), (5, 4, "hasStack")], 6, 72, [.string ⟨#[]⟩, .int .i64 0, .bool false, .string ⟨#[]⟩, .string ⟨#[]⟩, .bool false]⟩),
 (140, ⟨.map 3 28, 1, 8, [.map none]⟩),
 (142, ⟨.map 9 3, 1, 8, [.map none]⟩),
 (152, ⟨.st [(0, 3, "Thread"), (1, 52, "Event")], 7, 80, [.int .i64 0, .int .i64 0, .int .i64 0, .string ⟨#[]⟩, .int .i64 0, .int .i64 0, .slice none 0 0]⟩),
 (159, ⟨.st [(0, 3, "at"), (1, 31, "why")], 2, 16, [.int .i64 0, .int .i64 0]⟩),
 (161, ⟨.ptr 163, 1, 8, [.pointer none]⟩),
 (163, ⟨.st [(0, 9, "s"), (1, 3, "at")], 2, 24, [.string ⟨#[]⟩, .int .i64 0]⟩),
 (168, ⟨.ptr 170, 1, 8, [.pointer none]⟩),
 (170, ⟨.st [(0, 9, "S"), (1, 3, "At"), (2, 3, "Pos"), (3, 31, "Err")], 4, 40, [.string ⟨#[]⟩, .int .i64 0, .int .i64 0, .int .i64 0]⟩),
 (172, ⟨.ptr 175, 1, 8, [.pointer none]⟩),
 (173, ⟨.slice 5, 1, 24, [.slice none 0 0]⟩),
 (175, ⟨.st [(0, 172, "addr"), (1, 173, "buf")], 2, 32, [.pointer none, .slice none 0 0]⟩),
 (185, ⟨.st [(0, 9, "word"), (1, 4, "name"), (2, 4, "n"), (3, 4, "m"), (4, 4, "stack"), (5, 3, "least"), (6, 3, "most"), (7, 3, "mLeast"), (8, 3, "mMost")], 9, 56, [.string ⟨#[]⟩, .bool false, .bool false, .bool false, .bool false, .int .i64 0, .int .i64 0, .int .i64 0, .int .i64 0]⟩),
 (194, ⟨.map 3 4, 1, 8, [.map none]⟩),
 (199, ⟨.map 3 200, 1, 8, [.map none]⟩),
 (200, ⟨.ptr 202, 1, 8, [.pointer none]⟩),
 (202, ⟨.st [(0, 3, "next"), (1, 3, "last")], 2, 16, [.int .i64 0, .int .i64 0]⟩),
 (206, ⟨.ptr 63, 1, 8, [.pointer none]⟩),
 (228, ⟨.ptr 5, 1, 8, [.pointer none]⟩),
 (232, ⟨.slice 185, 1, 24, [.slice none 0 0]⟩),
 (244, ⟨.map 9 4, 1, 8, [.map none]⟩),
 (247, ⟨.int .u64, 1, 8, [.int .u64 0]⟩),
 (249, ⟨.int .u64, 1, 8, [.int .u64 0]⟩),
 (257, ⟨.int .i64, 1, 8, [.int .i64 0]⟩),
 (260, ⟨.ptr 278, 1, 8, [.pointer none]⟩),
 (265, ⟨.st [(0, 5, "lo"), (1, 5, "hi")], 2, 2, [.int .u8 0, .int .u8 0]⟩),
 (267, ⟨.int .u32, 1, 4, [.int .u32 0]⟩),
 (282, ⟨.ptr 284, 1, 8, [.pointer none]⟩),
 (284, ⟨.st [(0, 9, "s")], 1, 16, [.string ⟨#[]⟩]⟩)]
theorem xN : xZ.all (fun x => oR Tryz.prog x.1 x.2) = true := by kernel_rfl
abbrev aa : bm Tryz.prog := ⟨xZ, xN, by kernel_rfl⟩
instance zu : Go.Ab.Met Tryz.prog := ⟨fun W => ju Tryz.prog W⟩
section
variable {C : Ctx} {n : Nat} {ops : Array Oper} {Q : Exit → St → Prop} {rest : List Oper} {f : List (Nat × A)} {bx : List (Nat × List A)} {lv : List Nat} {gen d : Nat} {ty : TypeId} {pos : String} {af : Array Edge} {a : A}
theorem pE {op : Op} (h : Bool.rec (motive := fun _ => Option A) none (fu aa f bx op) (Nat.blt d n) = some a) (k : WO Tryz.prog C n ops Q rest ⟨(d, a) :: f, bx, lv, gen⟩) : WO Tryz.prog C n ops Q (⟨some d, op, ty, pos, af, none⟩ :: rest) ⟨f, bx, lv, gen⟩ := by
  cases hb : Nat.blt d n with
  | false => rw [hb] at h; exact absurd h (by simp)
  | true => rw [hb] at h; exact pu (ev aa h) hb k
theorem pR {t : Nat} {x : Operand} {td : bo} {l : List D} (ht : ak aa.l t = some td) (hk : td.k.agg = true) (hx : av f x = some (.rowd l)) (hl : l.length = td.n) (hd : Nat.blt d n = true) (k : WO Tryz.prog C n ops Q rest ⟨(d, .ag l) :: f, bx, lv, gen⟩) : WO Tryz.prog C n ops Q (⟨some d, .load t x, ty, pos, af, none⟩ :: rest) ⟨f, bx, lv, gen⟩ := pu (bG aa ht hk hx hl) hd k
theorem pB {t : Nat} {x : Operand} {td : bo} {g : Nat} {l : List D} (ht : ak aa.l t = some td) (hk : td.k.agg = true) (hx : av f x = some (.ptr g 0)) (hb : ak bx g = some (l.map A.d)) (hl : l.length = td.n) (hd : Nat.blt d n = true) (k : WO Tryz.prog C n ops Q rest ⟨(d, .ag l) :: f, bx, lv, gen⟩) : WO Tryz.prog C n ops Q (⟨some d, .load t x, ty, pos, af, none⟩ :: rest) ⟨f, bx, lv, gen⟩ := pu (bF aa ht hk hx hb hl) hd k
end
end Go.Proofs.YtoojafbicmdclaaGreatDoor
namespace Go.Proofs.YtoojafbicmdclaaGreatDoor
open Go.Ab
theorem zo (W : World) (h : laidMet Tryz.prog Rows.ftraceImportsRow.laid W) : ju Tryz.prog W :=
 tL (t := 271) (e := 249) (m := 20) (ti := 223) h (d := Rows.laid_internal_strconv_uint64pow10) (.tail _ (.tail _ (.head _))) (by kernel_rfl) (by kernel_rfl) (by kernel_rfl) (by kernel_rfl) (by kernel_rfl) (by kernel_rfl)
  (nm := "*errors.errorString") (nm' := "*errors.errorString") (.tail _ (.tail _ (.tail _ (.tail _ (.tail _ (.head _)))))) (.tail _ (.tail _ (.tail _ (.tail _ (.head _))))) (by kernel_rfl) (by kernel_rfl) (by kernel_rfl)
end Go.Proofs.YtoojafbicmdclaaGreatDoor
namespace Go.Proofs.YtoojafbicmdclaaGreatDoor
open Go.Ab Go.Tb
set_option maxRecDepth 10000
attribute [local irreducible] W WO Pu QS QB QL QF QV bU CH QE
theorem yT (n : Int) : ax Tryz.prog 167 [.d (.v (.int .i64 n))] (.d (.v (.bool (fb n)))) 0 := by
 refine ax.aV (n := 9) (ts := [2]) Tryz.func167 (by kernel_rfl) rfl Tryz.ntmps167 Tryz.results167 rfl rfl fun C hC hG => ?_
 refine W.seq (W.region (pE rfl (WO.nil (qs (W.seq ?_)))))
 apply aI; (case hb => rfl)
 ·
  iterate 3 refine pE rfl ?_
  apply an; (case hj => rfl); (case hl => rfl)
  ·
   refine ab rfl rfl (pE rfl (ab rfl rfl ?_))
   iterate 3 refine pE rfl ?_
   refine WO.nil (ay rfl rfl rfl)
  iterate 2 refine ae rfl rfl rfl rfl ?_
  iterate 2 refine pE rfl ?_
  refine WO.nil (ay rfl rfl rfl)
 refine qs (W.ret (QF.az trivial rfl ?_))
 simp [norm, aL, fb]
end Go.Proofs.YtoojafbicmdclaaGreatDoor
namespace Go.Proofs.YtoojafbicmdclaaGreatDoor
open Go.Ab Go.Tb
set_option maxRecDepth 10000
attribute [local irreducible] W WO Pu QS QB QL QF QV bU CH QE
end Go.Proofs.YtoojafbicmdclaaGreatDoor
namespace Go.Proofs.YtoojafbicmdclaaGreatDoor
open Go.Ab Go.Tb
set_option maxRecDepth 10000
attribute [local irreducible] W WO Pu QS QB QL QF QV bU CH QE
theorem x8 (s : ByteArray) (b : UInt8) : ax Tryz.prog 193 [.d (.v (.string s)), .d (.v (.int .u8 b.toNat))] (.d (.v (.int .i64 (Lib.indexByte (aQ s) b)))) 0 := by
 refine ax.aV (n := 8) (ts := [4]) Tryz.func193 (by kernel_rfl) rfl Tryz.ntmps193 Tryz.results193 rfl rfl fun C hC hG => ?_
 refine W.nJ (t := 0) rfl (fun hok => ?_)
 refine W.seq (W.region (pE rfl (WO.nil (qs (W.seq (W.region ?_))))))
 iterate 2 refine pE rfl ?_
 refine pu (yZ (vs := [.string s, .int .u8 b.toNat]) rfl rfl (fun w => (run_callFunc_extern Tryz.func216 (by kernel_rfl) (by kernel_rfl) (by kernel_rfl) (by kernel_rfl) #[.string s, .int .u8 b.toNat] w).trans (by rw [show (Extern.BytealgIndexByte.indexByte #[.string s, .int .u8 b.toNat]).run Tryz.prog w = _ from Lib.run_indexByteString s b.toNat w]; rfl)) (oU hok _)) rfl ?_
 refine pE rfl (WO.nil (qs (W.ret (QF.az trivial rfl ?_))))
 simp [norm, aL, aQ]
theorem fB (s : ByteArray) (b : UInt8) : ax Tryz.prog 151 [.d (.v (.string s)), .d (.v (.int .u8 b.toNat))] (.d (.v (.int .i64 (Lib.indexByte (aQ s) b)))) 0 := by
 refine ax.aV (n := 8) (ts := [4]) Tryz.func151 (by kernel_rfl) rfl Tryz.ntmps151 Tryz.results151 rfl rfl fun C hC hG => ?_
 refine W.seq (W.region (pE rfl (WO.nil (qs (W.seq (W.region ?_))))))
 iterate 2 refine pE rfl ?_
 refine pu (aw rfl rfl rfl (x8 ..) rfl) rfl ?_
 refine pE rfl (WO.nil (qs (W.ret (QF.az trivial rfl ?_))))
 rfl
theorem uH (b : UInt8) : ax Tryz.prog 153 [.d (.v (.int .u8 b.toNat))] (.d (.v (.bool (dd b)))) 0 := by
 refine ax.aV (n := 30) (ts := [2]) Tryz.func153 (by kernel_rfl) rfl Tryz.ntmps153 Tryz.results153 rfl rfl fun C hC hG => ?_
 refine W.seq (W.region (pE rfl (WO.nil (qs (W.seq ?_)))))
 apply aI; (case hb => rfl)
 ·
  iterate 3 refine pE rfl ?_
  apply an; (case hj => rfl); (case hl => rfl)
  ·
   refine ab rfl rfl (pE rfl (ab rfl rfl ?_))
   iterate 3 refine pE rfl ?_
   apply an; (case hj => rfl); (case hl => rfl)
   ·
    iterate 3 refine ae rfl rfl rfl rfl ?_
    iterate 2 refine bh rfl rfl rfl ?_
    refine ae rfl rfl rfl rfl ?_
    iterate 2 refine pE rfl ?_
    iterate 3 refine ae rfl rfl rfl rfl ?_
    iterate 2 refine bh rfl rfl rfl ?_
    refine ae rfl rfl rfl rfl ?_
    iterate 2 refine pE rfl ?_
    iterate 3 refine ae rfl rfl rfl rfl ?_
    iterate 2 refine pE rfl ?_
    refine WO.nil (ay rfl rfl rfl)
   refine ab rfl rfl (pE rfl (ab rfl rfl (pE rfl (ab rfl rfl (pE rfl ?_)))))
   apply an; (case hj => rfl); (case hl => rfl)
   ·
    refine ab rfl rfl (pE rfl (ab rfl rfl (pE rfl (ab rfl rfl ?_))))
    iterate 3 refine pE rfl ?_
    apply an; (case hj => rfl); (case hl => rfl)
    ·
     iterate 3 refine ae rfl rfl rfl rfl ?_
     iterate 2 refine bh rfl rfl rfl ?_
     refine ae rfl rfl rfl rfl ?_
     iterate 2 refine pE rfl ?_
     iterate 3 refine ae rfl rfl rfl rfl ?_
     iterate 2 refine pE rfl ?_
     refine WO.nil (ay rfl rfl rfl)
    refine ab rfl rfl (pE rfl (ab rfl rfl (pE rfl (ab rfl rfl (pE rfl ?_)))))
    apply an; (case hj => rfl); (case hl => rfl)
    ·
     refine ab rfl rfl (pE rfl (ab rfl rfl (pE rfl (ab rfl rfl ?_))))
     iterate 3 refine pE rfl ?_
     apply an; (case hj => rfl); (case hl => rfl)
     ·
      iterate 3 refine ae rfl rfl rfl rfl ?_
      iterate 2 refine pE rfl ?_
      refine WO.nil (ay rfl rfl rfl)
     refine ab rfl rfl (pE rfl (ab rfl rfl (pu (aw rfl rfl rfl (fB ..) rfl) rfl ?_)))
     refine ab rfl rfl ?_
     iterate 3 refine pE rfl ?_
     refine WO.nil (ay rfl rfl rfl)
    iterate 2 refine ae rfl rfl rfl rfl ?_
    refine ab rfl rfl ?_
    iterate 3 refine pE rfl ?_
    refine ab rfl rfl (pE rfl (ab rfl rfl (pu (aw rfl rfl rfl (fB ..) rfl) rfl ?_)))
    refine ab rfl rfl ?_
    iterate 3 refine pE rfl ?_
    refine WO.nil (ay rfl rfl rfl)
   iterate 2 refine ae rfl rfl rfl rfl ?_
   refine ab rfl rfl ?_
   iterate 3 refine pE rfl ?_
   refine ab rfl rfl (pE rfl (ab rfl rfl (pE rfl (ab rfl rfl (pE rfl ?_)))))
   apply an; (case hj => rfl); (case hl => rfl)
   ·
    refine ab rfl rfl (pE rfl (ab rfl rfl (pE rfl (ab rfl rfl ?_))))
    iterate 3 refine pE rfl ?_
    apply an; (case hj => rfl); (case hl => rfl)
    ·
     iterate 3 refine ae rfl rfl rfl rfl ?_
     iterate 2 refine pE rfl ?_
     refine WO.nil (ay rfl rfl rfl)
    refine ab rfl rfl (pE rfl (ab rfl rfl (pu (aw rfl rfl rfl (fB ..) rfl) rfl ?_)))
    refine ab rfl rfl ?_
    iterate 3 refine pE rfl ?_
    refine WO.nil (ay rfl rfl rfl)
   iterate 2 refine ae rfl rfl rfl rfl ?_
   refine ab rfl rfl ?_
   iterate 3 refine pE rfl ?_
   refine ab rfl rfl (pE rfl (ab rfl rfl (pu (aw rfl rfl rfl (fB ..) rfl) rfl ?_)))
   refine ab rfl rfl ?_
   iterate 3 refine pE rfl ?_
   refine WO.nil (ay rfl rfl rfl)
  iterate 2 refine ae rfl rfl rfl rfl ?_
  iterate 2 refine pE rfl ?_
  refine ab rfl rfl (pE rfl (ab rfl rfl (pE rfl (ab rfl rfl (pE rfl ?_)))))
  apply an; (case hj => rfl); (case hl => rfl)
  ·
   refine ab rfl rfl (pE rfl (ab rfl rfl (pE rfl (ab rfl rfl ?_))))
   iterate 3 refine pE rfl ?_
   apply an; (case hj => rfl); (case hl => rfl)
   ·
    iterate 3 refine ae rfl rfl rfl rfl ?_
    iterate 2 refine bh rfl rfl rfl ?_
    refine ae rfl rfl rfl rfl ?_
    iterate 2 refine pE rfl ?_
    iterate 3 refine ae rfl rfl rfl rfl ?_
    iterate 2 refine pE rfl ?_
    refine WO.nil (ay rfl rfl rfl)
   refine ab rfl rfl (pE rfl (ab rfl rfl (pE rfl (ab rfl rfl (pE rfl ?_)))))
   apply an; (case hj => rfl); (case hl => rfl)
   ·
    refine ab rfl rfl (pE rfl (ab rfl rfl (pE rfl (ab rfl rfl ?_))))
    iterate 3 refine pE rfl ?_
    apply an; (case hj => rfl); (case hl => rfl)
    ·
     iterate 3 refine ae rfl rfl rfl rfl ?_
     iterate 2 refine pE rfl ?_
     refine WO.nil (ay rfl rfl rfl)
    refine ab rfl rfl (pE rfl (ab rfl rfl (pu (aw rfl rfl rfl (fB ..) rfl) rfl ?_)))
    refine ab rfl rfl ?_
    iterate 3 refine pE rfl ?_
    refine WO.nil (ay rfl rfl rfl)
   iterate 2 refine ae rfl rfl rfl rfl ?_
   refine ab rfl rfl ?_
   iterate 3 refine pE rfl ?_
   refine ab rfl rfl (pE rfl (ab rfl rfl (pu (aw rfl rfl rfl (fB ..) rfl) rfl ?_)))
   refine ab rfl rfl ?_
   iterate 3 refine pE rfl ?_
   refine WO.nil (ay rfl rfl rfl)
  iterate 2 refine ae rfl rfl rfl rfl ?_
  refine ab rfl rfl ?_
  iterate 3 refine pE rfl ?_
  refine ab rfl rfl (pE rfl (ab rfl rfl (pE rfl (ab rfl rfl (pE rfl ?_)))))
  apply an; (case hj => rfl); (case hl => rfl)
  ·
   refine ab rfl rfl (pE rfl (ab rfl rfl (pE rfl (ab rfl rfl ?_))))
   iterate 3 refine pE rfl ?_
   apply an; (case hj => rfl); (case hl => rfl)
   ·
    iterate 3 refine ae rfl rfl rfl rfl ?_
    iterate 2 refine pE rfl ?_
    refine WO.nil (ay rfl rfl rfl)
   refine ab rfl rfl (pE rfl (ab rfl rfl (pu (aw rfl rfl rfl (fB ..) rfl) rfl ?_)))
   refine ab rfl rfl ?_
   iterate 3 refine pE rfl ?_
   refine WO.nil (ay rfl rfl rfl)
  iterate 2 refine ae rfl rfl rfl rfl ?_
  refine ab rfl rfl ?_
  iterate 3 refine pE rfl ?_
  refine ab rfl rfl (pE rfl (ab rfl rfl (pu (aw rfl rfl rfl (fB ..) rfl) rfl ?_)))
  refine ab rfl rfl ?_
  iterate 3 refine pE rfl ?_
  refine WO.nil (ay rfl rfl rfl)
 refine qs (W.ret (QF.az trivial rfl ?_))
 simp only [norm, aL]; rw [oA]; simp only [dd, lower, marks]; simp [aQ]; grind
theorem nE (s : ByteArray) : ax Tryz.prog 104 [.d (.v (.string s))] (.d (.v (.int .i64 (be s)))) 0 := by
 refine ax.aV (n := 22) (ts := [2]) Tryz.func104 (by kernel_rfl) rfl Tryz.ntmps104 Tryz.results104 rfl rfl fun C hC hG => ?_
 refine W.seq (W.region (pE rfl (WO.nil (qs ?_))))
 iterate 2 refine W.seq ?_
 apply aI; (case hb => rfl)
 ·
  iterate 3 refine pE rfl ?_
  apply an; (case hj => rfl); (case hl => rfl)
  ·
   iterate 3 refine ae rfl rfl rfl rfl ?_
   refine pE rfl (WO.nil (ay rfl rfl rfl))
  refine ab rfl rfl (pE rfl (ab rfl rfl (pE rfl (ab rfl rfl ?_))))
  iterate 2 refine pE rfl ?_
  refine WO.nil (ay rfl rfl rfl)
 refine qs (au rfl (fun h10 => ?_) (fun h10 => ?_))
 ·
  refine W.seq (W.region (pE rfl (WO.nil (qs (W.ret (aB (QF.az trivial rfl ?_)))))))
  simp only [norm, aL]; grind [be, jc]
 refine W.skip (qs ?_)
 iterate 2 refine W.seq ?_
 refine W.region ?_
 iterate 3 refine pE rfl ?_
 refine WO.nil (qs (W.block (W.nJ (t := 0) rfl (fun hok => ?_))))
 have hlen := ma hok
 refine W.aW (ι := {x : Nat // match x with | k => k ≤ (aQ s).length ∧ ((aQ s).drop k).all dd = (aQ s).all dd})
  (fun x => match x.1 with | k => [(13, .d (.v (.int .i64 ((k : Nat) : Int))))]) [(0, _), (12, _)]
  (fun x => match x.1 with | k => []) [] [] 0 (fun x => match x.1 with | k => (aQ s).length - k)
  [] ⟨0, ?_⟩ rfl ?_ ⟨rfl, rfl, rfl, rfl, trivial⟩ ?_ trivial rfl ?_
 · exact ⟨Nat.zero_le _, rfl⟩
 · repeat' first | exact trivial | refine ⟨rfl, ?_⟩
 · repeat' exact trivial
 rintro ⟨k, hk, hI⟩
 show W _ _ _ _ _ ⟨[(13, .d (.v (.int .i64 ((k : Nat) : Int)))), (0, _), (12, _)], [], [], 0⟩
 refine W.seq (W.region (pE rfl (WO.nil (qs (W.seq (ba (l := aQ s) (k := k) rfl (by simp [Ex.aJ, aE]) hk (fun b hx hd hlt => ?_) (fun he hd => ?_)))))))
 ·
  rw [hd, List.all_cons] at hI
  refine W.skip (qs (W.seq (W.block (W.seq (W.region ?_)))))
  iterate 2 refine pE rfl ?_
  refine WO.nil (qs (W.seq (W.region ?_)))
  iterate 2 refine pE rfl ?_
  refine pu (dM aa rfl rfl rfl rfl (Int.natCast_nonneg _) (eL (by assumption))) rfl ?_
  refine pu (aw rfl rfl rfl (uH ..) rfl) rfl ?_
  refine pE rfl (WO.nil (qs (au rfl (fun h20 => ?_) (fun h20 => ?_))))
  ·
   refine W.seq (W.region (pE rfl (WO.nil (qs (W.ret (aT (aB (dc (aT (aB (QF.az trivial rfl ?_)))))))))))
   simp only [norm, aL]; grind [be, jc]
  refine W.skip (bC (qs (W.region ?_)))
  iterate 2 refine pE rfl ?_
  refine WO.nil (W.bb [] ⟨k + 1, ?_⟩ ?_ rfl ?_ ⟨rfl, rfl, rfl, rfl, trivial⟩ ?_ trivial rfl)
  · exact ⟨hlt, by rw [← hI]; simp_all⟩
  · dsimp only; omega
  · repeat' first | exact trivial | refine ⟨aG (by assumption) (by assumption), ?_⟩
  repeat' exact trivial
 rw [hd] at hI
 refine W.exit (aP (aS (aM (qs (W.seq (W.region (pE rfl (WO.nil (qs (W.ret (QF.az trivial rfl ?_)))))))))))
 simp only [norm, aL]; grind [be, jc]
end Go.Proofs.YtoojafbicmdclaaGreatDoor
namespace Go.Proofs
open Go.Shelf
def Tryz.pd : Go.Shelf.Ren := ⟨fun | 171 => 87 | 243 => 139 | 246 => 187 | 283 => 210 | 284 => 211 | 285 => 212 | 286 => 213 | 129 => 228 | 317 => 227 | 318 => 229 | 319 => 230 | 320 => 231 | 337 => 236 | 338 => 237 | n => n, fun | 3 => 3 | 9 => 9 | 2 => 2 | 4 => 4 | 171 => 248 | 0 => 0 | 53 => 249 | 37 => 173 | 5 => 5 | 173 => 252 | 212 => 271 | 51 => 267 | 20 => 20 | 213 => 272 | 46 => 247 | 232 => 285 | 233 => 286 | n => n, fun | 17 => 3 | 18 => 6 | 19 => 7 | n => n⟩
theorem Tryz.vZ : Go.Proofs.LaysM.n171 Tryz.prog Tryz.pd := {
 mixed := by kernel_rfl
 f129 := Tryz.func228.trans (congrArg some (by kernel_rfl))
 f171 := Tryz.func87.trans (congrArg some (by kernel_rfl))
 f243 := Tryz.func139.trans (congrArg some (by kernel_rfl))
 f246 := Tryz.func187.trans (congrArg some (by kernel_rfl))
 f283 := Tryz.func210.trans (congrArg some (by kernel_rfl))
 f284 := Tryz.func211.trans (congrArg some (by kernel_rfl))
 f285 := Tryz.func212.trans (congrArg some (by kernel_rfl))
 f286 := Tryz.func213.trans (congrArg some (by kernel_rfl))
 f317 := Tryz.func227.trans (congrArg some (by kernel_rfl))
 f318 := Tryz.func229.trans (congrArg some (by kernel_rfl))
 f319 := Tryz.func230.trans (congrArg some (by kernel_rfl))
 f320 := Tryz.func231.trans (congrArg some (by kernel_rfl))
 f337 := Tryz.func236.trans (congrArg some (by kernel_rfl))
 f338 := Tryz.func237.trans (congrArg some (by kernel_rfl))
 t0 := Tryz.underlying0
 a0 := Tryz.isAgg0
 z0 := Tryz.sizeOf0
 v0 := Tryz.zeroValue0
 t2 := Tryz.underlying2
 a2 := Tryz.isAgg2
 z2 := Tryz.sizeOf2
 v2 := Tryz.zeroValue2
 t3 := Tryz.underlying3
 a3 := Tryz.isAgg3
 z3 := Tryz.sizeOf3
 v3 := Tryz.zeroValue3
 t4 := Tryz.underlying4
 a4 := Tryz.isAgg4
 z4 := Tryz.sizeOf4
 v4 := Tryz.zeroValue4
 t5 := Tryz.underlying5
 a5 := Tryz.isAgg5
 z5 := Tryz.sizeOf5
 v5 := Tryz.zeroValue5
 t9 := Tryz.underlying9
 a9 := Tryz.isAgg9
 z9 := Tryz.sizeOf9
 v9 := Tryz.zeroValue9
 t20 := Tryz.underlying20
 a20 := Tryz.isAgg20
 z20 := Tryz.sizeOf20
 v20 := Tryz.zeroValue20
 t37 := Tryz.underlying173
 a37 := Tryz.isAgg173
 z37 := Tryz.sizeOf173
 v37 := Tryz.zeroValue173
 t46 := Tryz.underlying247
 a46 := Tryz.isAgg247
 z46 := Tryz.sizeOf247
 v46 := Tryz.zeroValue247
 t51 := Tryz.underlying267
 a51 := Tryz.isAgg267
 z51 := Tryz.sizeOf267
 v51 := Tryz.zeroValue267
 t53 := Tryz.underlying249
 a53 := Tryz.isAgg249
 z53 := Tryz.sizeOf249
 v53 := Tryz.zeroValue249
 t171 := Tryz.underlying248
 a171 := Tryz.isAgg248
 z171 := Tryz.sizeOf248
 v171 := Tryz.zeroValue248
 t173 := Tryz.underlying252
 a173 := Tryz.isAgg252
 z173 := Tryz.sizeOf252
 v173 := Tryz.zeroValue252
 t212 := Tryz.underlying271
 a212 := Tryz.isAgg271
 z212 := Tryz.sizeOf271
 v212 := Tryz.zeroValue271
 t213 := Tryz.underlying272
 a213 := Tryz.isAgg272
 z213 := Tryz.sizeOf272
 t232 := Tryz.underlying285
 a232 := Tryz.isAgg285
 z232 := Tryz.sizeOf285
 v232 := Tryz.zeroValue285
 t233 := Tryz.underlying286
 a233 := Tryz.isAgg286
 z233 := Tryz.sizeOf286
 v233 := Tryz.zeroValue286
 g17 := by kernel_rfl
 g18 := by kernel_rfl
 g19 := by kernel_rfl
 i0 := by kernel_rfl
 i2 := by kernel_rfl
 i3 := by kernel_rfl
 i4 := by kernel_rfl
 i5 := by kernel_rfl
 i9 := by kernel_rfl
 i20 := by kernel_rfl
 i37 := by kernel_rfl
 i46 := by kernel_rfl
 i51 := by kernel_rfl
 i53 := by kernel_rfl
 i171 := by kernel_rfl
 i173 := by kernel_rfl
 i212 := by kernel_rfl
 i232 := by kernel_rfl
 i233 := by kernel_rfl
 m17 := by kernel_rfl
 m18 := by kernel_rfl
 m19 := by kernel_rfl }
open Go.RowKit Go.Sort Go.Lib in
theorem Tryz.strconv_Itoa (n : Int) (h0 : -9223372036854775808 ≤ n) (h1 : n ≤ 9223372036854775807) (w : World) (htab : Lib.TabIs Tryz.prog w "internal/strconv.uint64pow10" .u64 Lib.pow10Tab) :
  Calls Tryz.prog 87 #[.int .i64 n] w fun e w' => e = .returned (.string ⟨(Lib.itoa n).toArray⟩) ∧ ∃ k os, w' = grow (w.drewN k) os := Any.strconv_Itoa Tryz.vZ n h0 h1 w htab
def Tryz.px : Go.Shelf.Ren := ⟨fun | 172 => 181 | 244 => 204 | 245 => 205 | 247 => 221 | 279 => 222 | 280 => 223 | 281 => 224 | 282 => 225 | 287 => 233 | 316 => 234 | 171 => 87 | 205 => 235 | 321 => 238 | 322 => 239 | 243 => 139 | 246 => 187 | 283 => 210 | 284 => 211 | 285 => 212 | 286 => 213 | 129 => 228 | 317 => 227 | 318 => 229 | 319 => 230 | 320 => 231 | 337 => 236 | 338 => 237 | n => n, fun | 9 => 9 | 3 => 3 | 75 => 223 | 76 => 224 | 4 => 4 | 5 => 5 | 167 => 257 | 37 => 173 | 0 => 0 | 85 => 258 | 2 => 2 | 168 => 260 | 53 => 249 | 175 => 275 | 46 => 247 | 210 => 278 | 127 => 228 | 145 => 284 | 143 => 282 | 21 => 21 | 171 => 248 | 173 => 252 | 212 => 271 | 51 => 267 | 20 => 20 | 213 => 272 | 232 => 285 | 233 => 286 | 80 => 177 | n => n, fun | 15 => 4 | 16 => 5 | 17 => 3 | 18 => 6 | 19 => 7 | n => n⟩
theorem Tryz.l5 : Go.Proofs.LaysC.n172 Tryz.prog Tryz.px := {
 mixed := by kernel_rfl
 f129 := Tryz.func228.trans (congrArg some (by kernel_rfl))
 f171 := Tryz.func87.trans (congrArg some (by kernel_rfl))
 f172 := Tryz.func181.trans (congrArg some (by kernel_rfl))
 f205 := Tryz.func235.trans (congrArg some (by kernel_rfl))
 f243 := Tryz.func139.trans (congrArg some (by kernel_rfl))
 f244 := Tryz.func204.trans (congrArg some (by kernel_rfl))
 f245 := Tryz.func205.trans (congrArg some (by kernel_rfl))
 f246 := Tryz.func187.trans (congrArg some (by kernel_rfl))
 f247 := Tryz.func221.trans (congrArg some (by kernel_rfl))
 f279 := Tryz.func222.trans (congrArg some (by kernel_rfl))
 f280 := Tryz.func223.trans (congrArg some (by kernel_rfl))
 f281 := Tryz.func224.trans (congrArg some (by kernel_rfl))
 f282 := Tryz.func225.trans (congrArg some (by kernel_rfl))
 f283 := Tryz.func210.trans (congrArg some (by kernel_rfl))
 f284 := Tryz.func211.trans (congrArg some (by kernel_rfl))
 f285 := Tryz.func212.trans (congrArg some (by kernel_rfl))
 f286 := Tryz.func213.trans (congrArg some (by kernel_rfl))
 f287 := Tryz.func233.trans (congrArg some (by kernel_rfl))
 f316 := Tryz.func234.trans (congrArg some (by kernel_rfl))
 f317 := Tryz.func227.trans (congrArg some (by kernel_rfl))
 f318 := Tryz.func229.trans (congrArg some (by kernel_rfl))
 f319 := Tryz.func230.trans (congrArg some (by kernel_rfl))
 f320 := Tryz.func231.trans (congrArg some (by kernel_rfl))
 f321 := Tryz.func238.trans (congrArg some (by kernel_rfl))
 f322 := Tryz.func239.trans (congrArg some (by kernel_rfl))
 f337 := Tryz.func236.trans (congrArg some (by kernel_rfl))
 f338 := Tryz.func237.trans (congrArg some (by kernel_rfl))
 t0 := Tryz.underlying0
 a0 := Tryz.isAgg0
 z0 := Tryz.sizeOf0
 v0 := Tryz.zeroValue0
 t2 := Tryz.underlying2
 a2 := Tryz.isAgg2
 z2 := Tryz.sizeOf2
 v2 := Tryz.zeroValue2
 t3 := Tryz.underlying3
 a3 := Tryz.isAgg3
 z3 := Tryz.sizeOf3
 v3 := Tryz.zeroValue3
 t4 := Tryz.underlying4
 a4 := Tryz.isAgg4
 z4 := Tryz.sizeOf4
 v4 := Tryz.zeroValue4
 t5 := Tryz.underlying5
 a5 := Tryz.isAgg5
 z5 := Tryz.sizeOf5
 v5 := Tryz.zeroValue5
 t9 := Tryz.underlying9
 a9 := Tryz.isAgg9
 z9 := Tryz.sizeOf9
 v9 := Tryz.zeroValue9
 t20 := Tryz.underlying20
 a20 := Tryz.isAgg20
 z20 := Tryz.sizeOf20
 v20 := Tryz.zeroValue20
 t21 := Tryz.underlying21
 a21 := Tryz.isAgg21
 z21 := Tryz.sizeOf21
 v21 := Tryz.zeroValue21
 t37 := Tryz.underlying173
 a37 := Tryz.isAgg173
 z37 := Tryz.sizeOf173
 v37 := Tryz.zeroValue173
 t46 := Tryz.underlying247
 a46 := Tryz.isAgg247
 z46 := Tryz.sizeOf247
 v46 := Tryz.zeroValue247
 t51 := Tryz.underlying267
 a51 := Tryz.isAgg267
 z51 := Tryz.sizeOf267
 v51 := Tryz.zeroValue267
 t53 := Tryz.underlying249
 a53 := Tryz.isAgg249
 z53 := Tryz.sizeOf249
 v53 := Tryz.zeroValue249
 t75 := Tryz.underlying223
 a75 := Tryz.isAgg223
 z75 := Tryz.sizeOf223
 v75 := Tryz.zeroValue223
 t76 := Tryz.underlying224
 a76 := Tryz.isAgg224
 z76 := Tryz.sizeOf224
 v76 := Tryz.zeroValue224
 t85 := Tryz.underlying258
 a85 := Tryz.isAgg258
 z85 := Tryz.sizeOf258
 v85 := Tryz.zeroValue258
 t127 := Tryz.underlying228
 a127 := Tryz.isAgg228
 z127 := Tryz.sizeOf228
 v127 := Tryz.zeroValue228
 t143 := Tryz.underlying282
 a143 := Tryz.isAgg282
 z143 := Tryz.sizeOf282
 v143 := Tryz.zeroValue282
 t145 := Tryz.underlying284
 a145 := Tryz.isAgg284
 z145 := Tryz.sizeOf284
 v145 := Tryz.zeroValue284
 t167 := Tryz.underlying257
 a167 := Tryz.isAgg257
 z167 := Tryz.sizeOf257
 v167 := Tryz.zeroValue257
 t168 := Tryz.underlying260
 a168 := Tryz.isAgg260
 z168 := Tryz.sizeOf260
 v168 := Tryz.zeroValue260
 t171 := Tryz.underlying248
 a171 := Tryz.isAgg248
 z171 := Tryz.sizeOf248
 v171 := Tryz.zeroValue248
 t173 := Tryz.underlying252
 a173 := Tryz.isAgg252
 z173 := Tryz.sizeOf252
 v173 := Tryz.zeroValue252
 t175 := Tryz.underlying275
 a175 := Tryz.isAgg275
 z175 := Tryz.sizeOf275
 v175 := Tryz.zeroValue275
 t210 := Tryz.underlying278
 a210 := Tryz.isAgg278
 z210 := Tryz.sizeOf278
 v210 := Tryz.zeroValue278
 t212 := Tryz.underlying271
 a212 := Tryz.isAgg271
 z212 := Tryz.sizeOf271
 v212 := Tryz.zeroValue271
 t213 := Tryz.underlying272
 a213 := Tryz.isAgg272
 z213 := Tryz.sizeOf272
 t232 := Tryz.underlying285
 a232 := Tryz.isAgg285
 z232 := Tryz.sizeOf285
 v232 := Tryz.zeroValue285
 t233 := Tryz.underlying286
 a233 := Tryz.isAgg286
 z233 := Tryz.sizeOf286
 v233 := Tryz.zeroValue286
 g15 := by kernel_rfl
 g16 := by kernel_rfl
 g17 := by kernel_rfl
 g18 := by kernel_rfl
 g19 := by kernel_rfl
 t80 := Tryz.underlying177
 a80 := Tryz.isAgg177
 z80 := Tryz.sizeOf177
 v80 := Tryz.zeroValue177
 i0 := by kernel_rfl
 i2 := by kernel_rfl
 i3 := by kernel_rfl
 i4 := by kernel_rfl
 i5 := by kernel_rfl
 i9 := by kernel_rfl
 i20 := by kernel_rfl
 i21 := by kernel_rfl
 i37 := by kernel_rfl
 i46 := by kernel_rfl
 i51 := by kernel_rfl
 i53 := by kernel_rfl
 i75 := by kernel_rfl
 i76 := by kernel_rfl
 i80 := by kernel_rfl
 i85 := by kernel_rfl
 i127 := by kernel_rfl
 i143 := by kernel_rfl
 i145 := by kernel_rfl
 i167 := by kernel_rfl
 i168 := by kernel_rfl
 i171 := by kernel_rfl
 i173 := by kernel_rfl
 i175 := by kernel_rfl
 i210 := by kernel_rfl
 i212 := by kernel_rfl
 i232 := by kernel_rfl
 i233 := by kernel_rfl
 m15 := by kernel_rfl
 m16 := by kernel_rfl
 m17 := by kernel_rfl
 m18 := by kernel_rfl
 m19 := by kernel_rfl
 c0 := by kernel_rfl
 c2 := by kernel_rfl
 c3 := by kernel_rfl
 c4 := by kernel_rfl
 c5 := by kernel_rfl
 c9 := by kernel_rfl
 c20 := by kernel_rfl
 c21 := by kernel_rfl
 c37 := by kernel_rfl
 c46 := by kernel_rfl
 c51 := by kernel_rfl
 c53 := by kernel_rfl
 c75 := by kernel_rfl
 c76 := by kernel_rfl
 c80 := by kernel_rfl
 c85 := by kernel_rfl
 c127 := by kernel_rfl
 c143 := by kernel_rfl
 c145 := by kernel_rfl
 c167 := by kernel_rfl
 c168 := by kernel_rfl
 c171 := by kernel_rfl
 c173 := by kernel_rfl
 c175 := by kernel_rfl
 c210 := by kernel_rfl
 c212 := by kernel_rfl
 c213 := by kernel_rfl
 c232 := by kernel_rfl
 c233 := by kernel_rfl }
open Go.RowKit in
theorem Tryz.strconv_Atoi_ok (s : ByteArray) (hmax : s.size ≤ 9223372036854775806) (v : Int) (h : Lib.atoiAll s.data.toList = .ok v) (w : World) :
  Calls Tryz.prog 181 #[.string s] w fun e w' => e = .returned (.tuple #[.int .i64 v, .nilIface]) ∧ (w' = w ∨ ∃ t, w' = Lib.bytesWorld w 5 t) := Any.strconv_Atoi_ok Tryz.l5 s hmax v h w
open Go.RowKit in
theorem Tryz.strconv_Atoi_syntax_var (s : ByteArray) (hlim : s.size ≤ 281474976710656) (h : Lib.atoiAll s.data.toList = Lib.atoiAll []) (tp : TypeId) (p : Value) (w : World) (hvar : w.var? Tryz.prog "strconv.ErrSyntax" = some #[.iface tp p]) :
  Calls Tryz.prog 181 #[.string s] w fun e w' => ∃ N, e = .returned (.tuple #[.int .i64 0, .iface 260 (.pointer (some ⟨N, 0, none⟩))]) ∧ w.heap.size ≤ N ∧ w'.heap[N]? = some (.cells #[.string ⟨#[65, 116, 111, 105]⟩, .string s, .iface tp p] 278 (0, 0)) ∧ Below w.heap.size w w' := Any.strconv_Atoi_syntax_var Tryz.l5 s hlim h tp p w hvar
open Go.RowKit in
theorem Tryz.strconv_Atoi_range_var (s : ByteArray) (hlim : s.size ≤ 281474976710656) (h : Lib.atoiAll s.data.toList = .range) (tp : TypeId) (p : Value) (w : World) (hvar : w.var? Tryz.prog "strconv.ErrRange" = some #[.iface tp p]) :
  Calls Tryz.prog 181 #[.string s] w fun e w' => ∃ N, e = .returned (.tuple #[.int .i64 (Lib.atoiSat s.data.toList), .iface 260 (.pointer (some ⟨N, 0, none⟩))]) ∧ w.heap.size ≤ N ∧ w'.heap[N]? = some (.cells #[.string ⟨#[65, 116, 111, 105]⟩, .string s, .iface tp p] 278 (0, 0)) ∧ Below w.heap.size w w' := Any.strconv_Atoi_range_var Tryz.l5 s hlim h tp p w hvar
def Tryz.qx : Go.Shelf.Ren := ⟨fun | 146 => 29 | 221 => 85 | 268 => 136 | 138 => 137 | 143 => 138 | 195 => 183 | 197 => 184 | 218 => 185 | 219 => 186 | 260 => 206 | 217 => 193 | 225 => 207 | 224 => 208 | 267 => 209 | 266 => 216 | 314 => 226 | n => n, fun | 9 => 9 | 31 => 45 | 3 => 3 | 4 => 4 | 0 => 0 | 105 => 239 | 21 => 21 | 5 => 5 | 46 => 247 | 119 => 263 | 139 => 266 | 138 => 265 | 146 => 268 | 51 => 267 | n => n, fun | 1 => 0 | 3 => 1 | 4 => 2 | n => n⟩
theorem Tryz.xr : Go.Proofs.Lays.n146 Tryz.prog Tryz.qx := {
 mixed := by kernel_rfl
 f138 := Tryz.func137.trans (congrArg some (by kernel_rfl))
 f143 := Tryz.func138.trans (congrArg some (by kernel_rfl))
 f146 := Tryz.func29.trans (congrArg some (by kernel_rfl))
 f195 := Tryz.func183.trans (congrArg some (by kernel_rfl))
 f197 := Tryz.func184.trans (congrArg some (by kernel_rfl))
 f217 := Tryz.func193.trans (congrArg some (by kernel_rfl))
 f218 := Tryz.func185.trans (congrArg some (by kernel_rfl))
 f219 := Tryz.func186.trans (congrArg some (by kernel_rfl))
 f221 := Tryz.func85.trans (congrArg some (by kernel_rfl))
 f224 := Tryz.func208.trans (congrArg some (by kernel_rfl))
 f225 := Tryz.func207.trans (congrArg some (by kernel_rfl))
 f260 := Tryz.func206.trans (congrArg some (by kernel_rfl))
 f266 := Tryz.func216.trans (congrArg some (by kernel_rfl))
 f267 := Tryz.func209.trans (congrArg some (by kernel_rfl))
 f268 := Tryz.func136.trans (congrArg some (by kernel_rfl))
 f314 := Tryz.func226.trans (congrArg some (by kernel_rfl))
 t0 := Tryz.underlying0
 a0 := Tryz.isAgg0
 z0 := Tryz.sizeOf0
 v0 := Tryz.zeroValue0
 t3 := Tryz.underlying3
 a3 := Tryz.isAgg3
 z3 := Tryz.sizeOf3
 v3 := Tryz.zeroValue3
 t4 := Tryz.underlying4
 a4 := Tryz.isAgg4
 z4 := Tryz.sizeOf4
 v4 := Tryz.zeroValue4
 t5 := Tryz.underlying5
 a5 := Tryz.isAgg5
 z5 := Tryz.sizeOf5
 v5 := Tryz.zeroValue5
 t9 := Tryz.underlying9
 a9 := Tryz.isAgg9
 z9 := Tryz.sizeOf9
 v9 := Tryz.zeroValue9
 t21 := Tryz.underlying21
 a21 := Tryz.isAgg21
 z21 := Tryz.sizeOf21
 v21 := Tryz.zeroValue21
 t31 := Tryz.underlying45
 a31 := Tryz.isAgg45
 z31 := Tryz.sizeOf45
 v31 := Tryz.zeroValue45
 t46 := Tryz.underlying247
 a46 := Tryz.isAgg247
 z46 := Tryz.sizeOf247
 v46 := Tryz.zeroValue247
 t51 := Tryz.underlying267
 a51 := Tryz.isAgg267
 z51 := Tryz.sizeOf267
 v51 := Tryz.zeroValue267
 t105 := Tryz.underlying239
 a105 := Tryz.isAgg239
 z105 := Tryz.sizeOf239
 v105 := Tryz.zeroValue239
 t119 := Tryz.underlying263
 a119 := Tryz.isAgg263
 z119 := Tryz.sizeOf263
 t138 := Tryz.underlying265
 a138 := Tryz.isAgg265
 z138 := Tryz.sizeOf265
 v138 := Tryz.zeroValue265
 t139 := Tryz.underlying266
 a139 := Tryz.isAgg266
 z139 := Tryz.sizeOf266
 v139 := Tryz.zeroValue266
 t146 := Tryz.underlying268
 a146 := Tryz.isAgg268
 z146 := Tryz.sizeOf268
 v146 := Tryz.zeroValue268
 g1 := by kernel_rfl
 g3 := by kernel_rfl
 g4 := by kernel_rfl }
open Go.RowKit Go.Lib in
theorem Tryz.strings_Split (s sep : ByteArray) (m : Int) (w : World) (hs : s.size < 4294967281) (hm : w.cell? ⟨0, 0, none⟩ = some (.int .i64 m)) (h1 : 1 ≤ sep.size) :
  Calls Tryz.prog 29 #[.string s, .string sep] w fun e w' =>
   e = .returned (.slice (some ⟨w.heap.size, 0, none⟩) (Lib.countB s sep + 1) (Lib.countB s sep + 1)) ∧ w' = w.alloc (.cells ((Lib.splitB sep 0 (Lib.countB s sep) s).map Value.string).toArray 9) := Any.strings_Split Tryz.xr (by kernel_rfl) s sep m w hs hm h1
def Tryz.qf : Go.Shelf.Ren := ⟨fun | 146 => 29 | 221 => 85 | 268 => 136 | 138 => 137 | 143 => 138 | 195 => 183 | 197 => 184 | 218 => 185 | 219 => 186 | 260 => 206 | 217 => 193 | 225 => 207 | 224 => 208 | 267 => 209 | 266 => 216 | 314 => 226 | n => n, fun | 9 => 9 | 31 => 45 | 3 => 3 | 4 => 4 | 0 => 0 | 105 => 239 | 21 => 21 | 5 => 5 | 46 => 247 | 119 => 263 | 139 => 266 | 138 => 265 | 146 => 268 | 51 => 267 | n => n, fun | 1 => 0 | 3 => 1 | 4 => 2 | n => n⟩
theorem Tryz.uT : Go.Proofs.LaysM.n146 Tryz.prog Tryz.qf := {
 mixed := by kernel_rfl
 f138 := Tryz.func137.trans (congrArg some (by kernel_rfl))
 f143 := Tryz.func138.trans (congrArg some (by kernel_rfl))
 f146 := Tryz.func29.trans (congrArg some (by kernel_rfl))
 f195 := Tryz.func183.trans (congrArg some (by kernel_rfl))
 f197 := Tryz.func184.trans (congrArg some (by kernel_rfl))
 f217 := Tryz.func193.trans (congrArg some (by kernel_rfl))
 f218 := Tryz.func185.trans (congrArg some (by kernel_rfl))
 f219 := Tryz.func186.trans (congrArg some (by kernel_rfl))
 f221 := Tryz.func85.trans (congrArg some (by kernel_rfl))
 f224 := Tryz.func208.trans (congrArg some (by kernel_rfl))
 f225 := Tryz.func207.trans (congrArg some (by kernel_rfl))
 f260 := Tryz.func206.trans (congrArg some (by kernel_rfl))
 f266 := Tryz.func216.trans (congrArg some (by kernel_rfl))
 f267 := Tryz.func209.trans (congrArg some (by kernel_rfl))
 f268 := Tryz.func136.trans (congrArg some (by kernel_rfl))
 f314 := Tryz.func226.trans (congrArg some (by kernel_rfl))
 t0 := Tryz.underlying0
 a0 := Tryz.isAgg0
 z0 := Tryz.sizeOf0
 v0 := Tryz.zeroValue0
 t3 := Tryz.underlying3
 a3 := Tryz.isAgg3
 z3 := Tryz.sizeOf3
 v3 := Tryz.zeroValue3
 t4 := Tryz.underlying4
 a4 := Tryz.isAgg4
 z4 := Tryz.sizeOf4
 v4 := Tryz.zeroValue4
 t5 := Tryz.underlying5
 a5 := Tryz.isAgg5
 z5 := Tryz.sizeOf5
 v5 := Tryz.zeroValue5
 t9 := Tryz.underlying9
 a9 := Tryz.isAgg9
 z9 := Tryz.sizeOf9
 v9 := Tryz.zeroValue9
 t21 := Tryz.underlying21
 a21 := Tryz.isAgg21
 z21 := Tryz.sizeOf21
 v21 := Tryz.zeroValue21
 t31 := Tryz.underlying45
 a31 := Tryz.isAgg45
 z31 := Tryz.sizeOf45
 v31 := Tryz.zeroValue45
 t46 := Tryz.underlying247
 a46 := Tryz.isAgg247
 z46 := Tryz.sizeOf247
 v46 := Tryz.zeroValue247
 t51 := Tryz.underlying267
 a51 := Tryz.isAgg267
 z51 := Tryz.sizeOf267
 v51 := Tryz.zeroValue267
 t105 := Tryz.underlying239
 a105 := Tryz.isAgg239
 z105 := Tryz.sizeOf239
 v105 := Tryz.zeroValue239
 t119 := Tryz.underlying263
 a119 := Tryz.isAgg263
 z119 := Tryz.sizeOf263
 t138 := Tryz.underlying265
 a138 := Tryz.isAgg265
 z138 := Tryz.sizeOf265
 v138 := Tryz.zeroValue265
 t139 := Tryz.underlying266
 a139 := Tryz.isAgg266
 z139 := Tryz.sizeOf266
 v139 := Tryz.zeroValue266
 t146 := Tryz.underlying268
 a146 := Tryz.isAgg268
 z146 := Tryz.sizeOf268
 v146 := Tryz.zeroValue268
 g1 := by kernel_rfl
 g3 := by kernel_rfl
 g4 := by kernel_rfl
 i0 := by kernel_rfl
 i3 := by kernel_rfl
 i4 := by kernel_rfl
 i5 := by kernel_rfl
 i9 := by kernel_rfl
 i21 := by kernel_rfl
 i31 := by kernel_rfl
 i46 := by kernel_rfl
 i51 := by kernel_rfl
 i105 := by kernel_rfl
 i138 := by kernel_rfl
 i139 := by kernel_rfl
 i146 := by kernel_rfl
 m1 := by kernel_rfl
 s1_3 := fun w h => Go.Proofs.cell_of_shapedOpen_int (zero := #[.int .i64 0]) (t := 3) h (of_decide_eq_true (by kernel_rfl)) (by kernel_rfl) rfl (by kernel_rfl) (by kernel_rfl) Tryz.underlying3
 m3 := by kernel_rfl
 m4 := by kernel_rfl }
end Go.Proofs
namespace Go.Proofs.YtoojafbicmdclaaGreatDoor
open Go.Ab Go.Tb
set_option maxRecDepth 10000
attribute [local irreducible] W WO Pu QS QB QL QF QV bU CH QE
def iF : ByteArray := B #[48, 49, 50, 51, 52, 53, 54, 55, 56, 57]
theorem qJ {d : Nat} (h : d < 10) : iF.extract d (d + 1) = ⟨#[UInt8.ofNat (48 + d)]⟩ := by
 have : ∀ i : Fin 10, iF.extract i.val (i.val + 1) = ⟨#[UInt8.ofNat (48 + i.val)]⟩ := by decide +kernel
 exact this ⟨d, h⟩
theorem vU (a b : ByteArray) : (a ++ b).data.toList = a.data.toList ++ b.data.toList := by simp
theorem rf {a b : ByteArray} (h : a.data.toList = b.data.toList) : a = b := by
 cases a; cases b; simp at h; exact congrArg _ h
theorem gJ {n : Int} (h : n.natAbs < 10 ^ 20) : (br n).size ≤ 21 := by
 have e : (br n).size = (Lib.itoa n).length := Array.length_toList.symm
 rw [e]
 rcases Int.lt_or_le n 0 with hn | hn
 · rw [fY hn, List.length_cons]; have := kj n.natAbs 19 h; omega
 rw [dP hn]; have := kj n.toNat 19 (by omega); omega
theorem fD (n : Int) (ok : Bool) : ax Tryz.prog 182 [.d (.v (.int .i64 n)), .d (.v (.bool ok))] (.tup [.d (.v (.int .i64 (if ok && fb n then n else 0))), .d (.v (.bool (ok && fb n)))]) 0 := by
 refine ax.aV (n := 14) (ts := [4, 5]) Tryz.func182 (by kernel_rfl) rfl Tryz.ntmps182 Tryz.results182 rfl rfl fun C hC hG => ?_
 refine W.seq (W.region ?_)
 iterate 2 refine pE rfl ?_
 refine WO.nil (qs ?_)
 iterate 2 refine W.seq ?_
 apply aI; (case hb => rfl)
 ·
  iterate 3 refine pE rfl ?_
  apply an; (case hj => rfl); (case hl => rfl)
  ·
   iterate 3 refine ae rfl rfl rfl rfl ?_
   refine pE rfl (WO.nil (ay rfl rfl rfl))
  refine ab rfl rfl (pE rfl (ab rfl rfl (pu (aw rfl rfl rfl (yT ..) rfl) rfl ?_)))
  refine ab rfl rfl ?_
  iterate 2 refine pE rfl ?_
  refine WO.nil (ay rfl rfl rfl)
 refine qs (au rfl (fun h12 => ?_) (fun h12 => ?_))
 ·
  refine W.seq (W.region ?_)
  iterate 2 refine pE rfl ?_
  refine WO.nil (qs (W.ret (aB (QF.az trivial rfl ?_))))
  cases ok <;> cases h : fb n <;> simp_all [norm, ek, aL]
 refine W.skip (qs (W.seq (W.region ?_)))
 iterate 3 refine pE rfl ?_
 refine WO.nil (qs (W.ret (QF.az trivial rfl ?_)))
 cases ok <;> cases h : fb n <;> simp_all [norm, ek, aL]
end Go.Proofs.YtoojafbicmdclaaGreatDoor
namespace Go.Proofs.YtoojafbicmdclaaGreatDoor
open Go.Ab Go.Tb
set_option maxRecDepth 10000
attribute [local irreducible] W WO Pu QS QB QL QF QV bU CH QE
theorem uo {w : World} (hu : gp Tryz.prog w) : ju Tryz.prog w := hu.num (fun _ h => h)
theorem wP {n : Int} (h : n.natAbs < 10 ^ 20) : bK (.string (br n)) = true := by
 have := gJ h
 exact decide_eq_true (by simp only [maxLen]; omega)
theorem wQ {n : Int} (h0 : -9223372036854775808 ≤ n) (h1 : n ≤ 9223372036854775807) : n.natAbs < 10 ^ 20 := by
 have hp : (10 : Nat) ^ 20 = 100000000000000000000 := by decide
 omega
open Go.RowKit in
theorem xz (n : Int) (h0 : -9223372036854775808 ≤ n) (h1 : n ≤ 9223372036854775807) : ax Tryz.prog 87 [.d (.v (.int .i64 n))] (.d (.v (.string (br n)))) 0 :=
 ax.kJ (xs := [.int .i64 n]) ⟨_, Tryz.func87, by kernel_rfl, by kernel_rfl⟩ fun w hu _ =>
  (Tryz.strconv_Itoa n h0 h1 w (uo hu).1).mono fun e w' ⟨he, k, os, hw⟩ =>
   ⟨_, he, hw ▸ Lib.below_grow _ w (Nat.le_refl _) k os, fun _ _ _ => .d (.v _ (wP (wQ h0 h1)))⟩
theorem jr (n : Int) (h0 : -9223372036854775808 ≤ n) (h1 : n ≤ 9223372036854775807) : ax Tryz.prog 31 [.d (.v (.int .i64 n))] (.d (.v (.string (br n)))) 0 := by
 refine ax.aV (n := 5) (ts := [2]) Tryz.func31 (by kernel_rfl) rfl Tryz.ntmps31 Tryz.results31 rfl rfl fun C hC hG => ?_
 refine W.seq (W.region (pE rfl (WO.nil (qs (W.seq (W.region (pE rfl (pu (aw rfl rfl rfl ((xz _ (by assumption) (by assumption))) rfl) rfl ?_))))))))
 refine pE rfl (WO.nil (qs (W.ret (QF.az trivial rfl ?_))))
 rfl
def si (s : ByteArray) : A :=
 match Lib.atoiAll s.data.toList with
 | .ok v => .tup [.d (.v (.int .i64 v)), .d (.v .nilIface)]
 | .range => .tup [.d (.v (.int .i64 (Lib.atoiSat s.data.toList))), .ni]
 | _ => .tup [.d (.v (.int .i64 0)), .ni]
theorem yq (l : List UInt8) : bK (.int .i64 (Lib.atoiSat l)) = true := by
 unfold Lib.atoiSat
 split <;> (try split) <;> decide
open Go.RowKit in
theorem w4 (s : ByteArray) (hs : s.size ≤ 281474976710656) : ax Tryz.prog 181 [.d (.v (.string s))] (si s) 0 :=
 ax.kJ (xs := [.string s]) ⟨_, Tryz.func181, by kernel_rfl, by kernel_rfl⟩ fun w hu _ => by
  obtain ⟨_, ⟨t, p, h2⟩, t', p', h3⟩ := uo hu
  unfold si
  cases h : Lib.atoiAll s.data.toList with
  | ok v =>
   have hb := Lib.atoiAll_bounds h
   refine (Tryz.strconv_Atoi_ok s (by omega) v h w).mono fun e w' ⟨he, hw⟩ => ⟨_, he, ?_, fun _ _ _ => nL (.d (.v _ ?_)) (.d (.v _ rfl))⟩
   ·
    rcases hw with rfl | ⟨t, rfl⟩
    · exact Below.refl _ _
    exact Joins.below_bytesWorld _ w _ _ (Nat.le_refl _)
   simp [bK, IntKind.min, IntKind.max, IntKind.signed, IntKind.bits]
   omega
  | range =>
   exact (Tryz.strconv_Atoi_range_var s hs h t' p' w h3).mono fun e w' ⟨N, he, _, _, hb⟩ => ⟨_, he, hb, fun _ _ _ => nL (.d (.v _ (yq _))) (.ni _ _)⟩
  | _ =>
   exact (Tryz.strconv_Atoi_syntax_var s hs h t p w h2).mono fun e w' ⟨N, he, _, _, hb⟩ => ⟨_, he, hb, fun _ _ _ => nL (.d (.v _ (by decide))) (.ni _ _)⟩
end Go.Proofs.YtoojafbicmdclaaGreatDoor
namespace Go.Proofs.YtoojafbicmdclaaGreatDoor
open Go.Ab Go.Tb
set_option maxRecDepth 10000
attribute [local irreducible] W WO Pu QS QB QL QF QV bU CH QE
open Go.RowKit in
theorem pD (s : ByteArray) (c : UInt8) (hs : s.size ≤ 1000000) : ax Tryz.prog 29 [.d (.v (.string s)), .d (.v (.string ⟨#[c]⟩))] (.d (.sl ((aH s c).map fun s => [.v (.string s)]))) 0 :=
 ax.kJ (xs := [.string s, .string ⟨#[c]⟩]) ⟨_, Tryz.func29, by kernel_rfl, by kernel_rfl⟩ fun w hu _ => by
  obtain ⟨m, hm⟩ := hu.cell (b := _) Tryz.uT.s1_3
  refine (Tryz.strings_Split s ⟨#[c]⟩ m w (by omega) hm (Nat.le_refl 1)).mono fun e w' ⟨he, hw⟩ => ⟨_, he, ?_, fun E' hE hpv => .d ?_⟩
  · rw [hw]; exact (Below.refl _ _).alloc (Nat.le_refl _) _
  have hlen : Lib.countB s ⟨#[c]⟩ + 1 = (aH s c).length := by rw [← mN]; exact (Lib.splitB_all ⟨#[c]⟩ (Nat.le_refl 1) 0 _ s rfl).symm
  rw [hlen]
  rw [mN] at hw
  have hcl : (aH s c).length ≤ s.size + 1 := by
   have h1 := lS c s.data.toList
   have h2 : s.data.toList.length = s.size := Array.length_toList
   unfold aH
   rw [List.length_map]
   omega
  refine aF.wW (b := w.heap.size) (arr := ((aH s c).map Value.string).toArray) (T := 9) ?_ (Nat.le_refl _) (by simp only [maxLen]; omega) (fun j t hj => ⟨by simp [hj], ?_⟩) (fun o hp => absurd (hpv _ _ hp) (Nat.lt_irrefl _))
  · rw [hE, hw]; exact (MapKept.heap_alloc w _).1
  have hm2 : t ∈ aH s c := List.mem_of_getElem? hj
  unfold aH at hm2
  obtain ⟨x, hx, rfl⟩ := List.mem_map.1 hm2
  have h1 := lL c _ x hx
  have h2 : s.data.toList.length = s.size := Array.length_toList
  have h3 : (gL x).size = x.length := (Array.length_toList (xs := (gL x).data)).symm
  simp only [maxLen]
  omega
end Go.Proofs.YtoojafbicmdclaaGreatDoor
namespace Go.Proofs.YtoojafbicmdclaaGreatDoor
open Go.Ab Go.Tb
set_option maxRecDepth 10000
attribute [local irreducible] W WO Pu QS QB QL QF QV bU CH QE
def il : ByteArray := B #[95, 46, 58, 47, 60, 62, 36, 42, 126, 45]
theorem sf (b : UInt8) : ax Tryz.prog 160 [.d (.v (.int .u8 b.toNat))] (.d (.v (.bool (dd b)))) 0 := by
 refine ax.aV (n := 38) (ts := [2]) Tryz.func160 (by kernel_rfl) rfl Tryz.ntmps160 Tryz.results160 rfl rfl fun C hC hG => ?_
 refine W.seq (W.region (pE rfl (WO.nil (qs ?_))))
 iterate 2 refine W.seq ?_
 apply aI; (case hb => rfl)
 ·
  iterate 3 refine pE rfl ?_
  apply an; (case hj => rfl); (case hl => rfl)
  ·
   refine ab rfl rfl (pE rfl (ab rfl rfl ?_))
   iterate 3 refine pE rfl ?_
   apply an; (case hj => rfl); (case hl => rfl)
   ·
    iterate 3 refine ae rfl rfl rfl rfl ?_
    iterate 2 refine bh rfl rfl rfl ?_
    refine ae rfl rfl rfl rfl ?_
    iterate 2 refine pE rfl ?_
    iterate 3 refine ae rfl rfl rfl rfl ?_
    iterate 2 refine bh rfl rfl rfl ?_
    refine ae rfl rfl rfl rfl (pE rfl (WO.nil (ay rfl rfl rfl)))
   refine ab rfl rfl (pE rfl (ab rfl rfl (pE rfl (ab rfl rfl (pE rfl ?_)))))
   apply an; (case hj => rfl); (case hl => rfl)
   ·
    refine ab rfl rfl (pE rfl (ab rfl rfl (pE rfl (ab rfl rfl ?_))))
    iterate 3 refine pE rfl ?_
    apply an; (case hj => rfl); (case hl => rfl)
    ·
     iterate 3 refine ae rfl rfl rfl rfl ?_
     iterate 2 refine bh rfl rfl rfl ?_
     refine ae rfl rfl rfl rfl (pE rfl (WO.nil (ay rfl rfl rfl)))
    refine ab rfl rfl (pE rfl (ab rfl rfl (pE rfl (ab rfl rfl (pE rfl ?_)))))
    apply an; (case hj => rfl); (case hl => rfl)
    ·
     refine ab rfl rfl (pE rfl (ab rfl rfl (pE rfl (ab rfl rfl ?_))))
     iterate 2 refine pE rfl ?_
     refine WO.nil (ay rfl rfl rfl)
    iterate 2 refine ae rfl rfl rfl rfl ?_
    refine ab rfl rfl ?_
    iterate 2 refine pE rfl ?_
    refine WO.nil (ay rfl rfl rfl)
   iterate 2 refine ae rfl rfl rfl rfl ?_
   refine ab rfl rfl ?_
   iterate 3 refine pE rfl ?_
   refine ab rfl rfl (pE rfl (ab rfl rfl (pE rfl (ab rfl rfl (pE rfl ?_)))))
   apply an; (case hj => rfl); (case hl => rfl)
   ·
    refine ab rfl rfl (pE rfl (ab rfl rfl (pE rfl (ab rfl rfl ?_))))
    iterate 2 refine pE rfl ?_
    refine WO.nil (ay rfl rfl rfl)
   iterate 2 refine ae rfl rfl rfl rfl ?_
   refine ab rfl rfl ?_
   iterate 2 refine pE rfl ?_
   refine WO.nil (ay rfl rfl rfl)
  iterate 2 refine ae rfl rfl rfl rfl ?_
  iterate 2 refine pE rfl ?_
  refine ab rfl rfl (pE rfl (ab rfl rfl (pE rfl (ab rfl rfl (pE rfl ?_)))))
  apply an; (case hj => rfl); (case hl => rfl)
  ·
   refine ab rfl rfl (pE rfl (ab rfl rfl (pE rfl (ab rfl rfl ?_))))
   iterate 3 refine pE rfl ?_
   apply an; (case hj => rfl); (case hl => rfl)
   ·
    iterate 3 refine ae rfl rfl rfl rfl ?_
    iterate 2 refine bh rfl rfl rfl ?_
    refine ae rfl rfl rfl rfl (pE rfl (WO.nil (ay rfl rfl rfl)))
   refine ab rfl rfl (pE rfl (ab rfl rfl (pE rfl (ab rfl rfl (pE rfl ?_)))))
   apply an; (case hj => rfl); (case hl => rfl)
   ·
    refine ab rfl rfl (pE rfl (ab rfl rfl (pE rfl (ab rfl rfl ?_))))
    iterate 2 refine pE rfl ?_
    refine WO.nil (ay rfl rfl rfl)
   iterate 2 refine ae rfl rfl rfl rfl ?_
   refine ab rfl rfl ?_
   iterate 2 refine pE rfl ?_
   refine WO.nil (ay rfl rfl rfl)
  iterate 2 refine ae rfl rfl rfl rfl ?_
  refine ab rfl rfl ?_
  iterate 3 refine pE rfl ?_
  refine ab rfl rfl (pE rfl (ab rfl rfl (pE rfl (ab rfl rfl (pE rfl ?_)))))
  apply an; (case hj => rfl); (case hl => rfl)
  ·
   refine ab rfl rfl (pE rfl (ab rfl rfl (pE rfl (ab rfl rfl ?_))))
   iterate 2 refine pE rfl ?_
   refine WO.nil (ay rfl rfl rfl)
  iterate 2 refine ae rfl rfl rfl rfl ?_
  refine ab rfl rfl ?_
  iterate 2 refine pE rfl ?_
  refine WO.nil (ay rfl rfl rfl)
 refine qs (au rfl (fun h26 => ?_) (fun h26 => ?_))
 ·
  have hg : dd b = true := by revert h26; simp only [dd, lower]; grind
  refine W.seq (W.region (pE rfl (WO.nil (qs (W.ret (aB (QF.az trivial rfl ?_)))))))
  rw [hg]; rfl
 have hg : dd b = marks.any fun c => decide (c = b) := by revert h26; simp only [dd, lower]; grind
 refine W.skip (qs (W.seq (W.region (pE rfl (WO.nil (qs ?_))))))
 iterate 2 refine W.seq ?_
 refine W.region (pE rfl (WO.nil (qs (W.block ?_))))
 have hlen : (aQ il).length ≤ maxLen := by decide
 refine W.aW (ι := {x : Nat // match x with | k => k ≤ (aQ il).length ∧ ((aQ il).drop k).any (fun c => decide (c = b)) = marks.any (fun c => decide (c = b))})
  (fun x => match x.1 with | k => [(4, .d (.v (.int .i64 ((k : Nat) : Int))))]) [(0, _), (3, _)]
  (fun x => match x.1 with | k => []) [] [] 0 (fun x => match x.1 with | k => (aQ il).length - k)
  [] ⟨0, ?_⟩ rfl ?_ ⟨rfl, rfl, rfl, rfl, trivial⟩ ?_ trivial rfl ?_
 · exact ⟨Nat.zero_le _, rfl⟩
 · repeat' first | exact trivial | refine ⟨rfl, ?_⟩
 · repeat' exact trivial
 rintro ⟨k, hk, hI⟩
 show W _ _ _ _ _ ⟨[(4, .d (.v (.int .i64 ((k : Nat) : Int)))), (0, _), (3, _)], [], [], 0⟩
 iterate 2 refine W.seq ?_
 refine W.region ?_
 iterate 4 refine pE rfl ?_
 refine WO.nil (qs (ba (l := aQ il) (k := k) rfl (by rfl) hk (fun c hx hd hlt => ?_) (fun he hd => ?_)))
 ·
  rw [hd, List.any_cons] at hI
  refine W.skip (qs (W.seq (W.block (W.seq (W.region ?_)))))
  iterate 2 refine pE rfl ?_
  refine pu (dM (s := il) aa rfl rfl rfl rfl (Int.natCast_nonneg _) (eL hx)) rfl ?_
  iterate 2 refine pE rfl ?_
  refine WO.nil (qs (au rfl (fun h37 => ?_) (fun h37 => ?_)))
  ·
   have h37 : decide (c = b) = true := by simp at h37 ⊢; exact UInt8.toNat_inj.1 (by omega)
   rw [h37, Bool.true_or] at hI
   refine W.seq (W.region (pE rfl (WO.nil (qs (W.ret (aT (aB (dc (aT (aB (QF.az trivial rfl ?_)))))))))))
   rw [hg, ← hI]; rfl
  have h37 : decide (c = b) = false := by simp at h37 ⊢; rintro rfl; exact h37 rfl
  rw [h37, Bool.false_or] at hI
  refine W.skip (bC (qs (W.region ?_)))
  iterate 3 refine pE rfl ?_
  refine WO.nil (W.bb [] ⟨k + 1, ?_⟩ ?_ rfl ?_ ⟨rfl, rfl, rfl, rfl, trivial⟩ ?_ trivial rfl)
  · exact ⟨hlt, hI⟩
  · dsimp only; omega
  · repeat' first | exact trivial | refine ⟨aG (by assumption) (by assumption), ?_⟩
  repeat' exact trivial
 rw [hd, List.any_nil] at hI
 refine W.exit (aP (aS (aM (qs (W.seq (W.region (pE rfl (WO.nil (qs (W.ret (QF.az trivial rfl ?_)))))))))))
 rw [hg, ← hI]; rfl
theorem uq (s : ByteArray) : s.size < 1 ↔ s = B #[] := by
 constructor
 ·
  intro h
  obtain ⟨l⟩ := s
  have : l = #[] := Array.eq_empty_of_size_eq_zero (by have : l.size < 1 := h; omega)
  rw [this]
 rintro rfl; decide
theorem l7 (s : ByteArray) : ax Tryz.prog 107 [.d (.v (.string s))] (.d (.v (.int .i64 (be s)))) 0 := by
 refine ax.aV (n := 23) (ts := [2]) Tryz.func107 (by kernel_rfl) rfl Tryz.ntmps107 Tryz.results107 rfl rfl fun C hC hG => ?_
 refine W.seq (W.region (pE rfl (WO.nil (qs ?_))))
 iterate 2 refine W.seq ?_
 apply aI; (case hb => rfl)
 ·
  iterate 4 refine pE rfl ?_
  apply an; (case hj => rfl); (case hl => rfl)
  ·
   iterate 3 refine ae rfl rfl rfl rfl ?_
   refine pE rfl (WO.nil (ay rfl rfl rfl))
  refine ab rfl rfl (pE rfl (ab rfl rfl (pE rfl (ab rfl rfl ?_))))
  iterate 2 refine pE rfl ?_
  refine WO.nil (ay rfl rfl rfl)
 refine qs (au rfl (fun h11 => ?_) (fun h11 => ?_))
 ·
  have h11 : s = B #[] ∨ 40 < s.size := by
   rw [← uq]
   by_cases q : s.size < 1
   · exact .inl q
   have q' : ¬ ((s.size : Int) < 1) := by omega
   simp [q'] at h11
   exact .inr (by omega)
  have hg : be s = 3 := by unfold be; rw [if_pos (by grind)]
  refine W.seq (W.region (pE rfl (WO.nil (qs (W.ret (aB (QF.az trivial rfl ?_)))))))
  rw [hg]; rfl
 have h11 : ¬ (s = B #[] ∨ 40 < s.size) := by
  rw [← uq]
  by_cases q : (s.size : Int) < 1
  · simp [q] at h11
  simp [q] at h11
  omega
 refine W.skip (qs ?_)
 iterate 2 refine W.seq ?_
 refine W.region (pE rfl (WO.nil (qs (W.block (W.nJ (t := 0) rfl (fun hok => ?_))))))
 have hlen := ma hok
 refine W.aW (ι := {x : Nat // match x with | k => k ≤ (aQ s).length ∧ ((aQ s).drop k).all dd = (aQ s).all dd})
  (fun x => match x.1 with | k => [(3, .d (.v (.int .i64 ((k : Nat) : Int))))]) [(0, _)]
  (fun x => match x.1 with | k => []) [] [] 0 (fun x => match x.1 with | k => (aQ s).length - k)
  [] ⟨0, ?_⟩ rfl ?_ ⟨rfl, rfl, trivial⟩ ?_ trivial rfl ?_
 · exact ⟨Nat.zero_le _, rfl⟩
 · repeat' first | exact trivial | refine ⟨rfl, ?_⟩
 · repeat' exact trivial
 rintro ⟨k, hk, hI⟩
 show W _ _ _ _ _ ⟨[(3, .d (.v (.int .i64 ((k : Nat) : Int)))), (0, _)], [], [], 0⟩
 iterate 2 refine W.seq ?_
 refine W.region ?_
 iterate 4 refine pE rfl ?_
 refine WO.nil (qs (ba (l := aQ s) (k := k) rfl (by simp [Ex.aJ, aE]) hk (fun b hx hd hlt => ?_) (fun he hd => ?_)))
 ·
  rw [hd, List.all_cons] at hI
  refine W.skip (qs (W.seq (W.block (W.seq (W.region ?_)))))
  iterate 2 refine pE rfl ?_
  refine pu (dM aa rfl rfl rfl rfl (Int.natCast_nonneg _) (eL (by assumption))) rfl ?_
  refine pu (aw rfl rfl rfl (sf ..) rfl) rfl ?_
  refine pE rfl (WO.nil (qs (au rfl (fun h22 => ?_) (fun h22 => ?_))))
  ·
   refine W.seq (W.region (pE rfl (WO.nil (qs (W.ret (aT (aB (dc (aT (aB (QF.az trivial rfl ?_)))))))))))
   simp only [norm, aL]; unfold be; grind
  refine W.skip (bC (qs (W.region ?_)))
  iterate 3 refine pE rfl ?_
  refine WO.nil (W.bb [] ⟨k + 1, ?_⟩ ?_ rfl ?_ ⟨rfl, rfl, trivial⟩ ?_ trivial rfl)
  · exact ⟨hlt, by rw [← hI]; simp_all⟩
  · dsimp only; omega
  · repeat' first | exact trivial | refine ⟨aG (by assumption) (by assumption), ?_⟩
  repeat' exact trivial
 rw [hd] at hI
 refine W.exit (aP (aS (aM (qs (W.seq (W.region (pE rfl (WO.nil (qs (W.ret (QF.az trivial rfl ?_)))))))))))
 simp only [norm, aL]; unfold be; grind
theorem ru (s : ByteArray) : be s = 0 ∨ be s = 3 := by unfold be; split <;> simp
theorem tB (l : List ByteArray) : ax Tryz.prog 174 [.d (.sl (qY l))] (.d (.v (.int .i64 (bY l)))) 0 := by
 refine ax.aV (n := 21) (ts := [2]) Tryz.func174 (by kernel_rfl) rfl Tryz.ntmps174 Tryz.results174 rfl rfl fun C hC hG => ?_
 refine W.seq (W.region (pE rfl (WO.nil (qs ?_))))
 iterate 2 refine W.seq ?_
 refine W.region ?_
 iterate 3 refine pE rfl ?_
 refine WO.nil (qs (au rfl (fun h8 => ?_) (fun h8 => ?_)))
 ·
  have hg : bY l = 7 := by unfold bY; rw [if_pos (by simp at h8; omega)]
  refine W.seq (W.region (pE rfl (WO.nil (qs (W.ret (aB (QF.az trivial rfl ?_)))))))
  rw [hg]; rfl
 have hg : bY l = if l.any (fun s => decide (be s ≠ 0)) then 3 else 0 := by unfold bY; rw [if_neg (by simp at h8; omega)]
 refine W.skip (qs ?_)
 iterate 2 refine W.seq ?_
 refine W.region ?_
 iterate 3 refine pE rfl ?_
 refine WO.nil (qs (W.block (W.len (t := 0) rfl rfl (fun hlen => ?_))))
 try simp only [List.length_map, Ex.aJ] at hlen
 refine W.aW (ι := {x : Nat // match x with | k => k ≤ l.length ∧ (l.drop k).any (fun s => decide (be s ≠ 0)) = l.any (fun s => decide (be s ≠ 0))})
  (fun x => match x.1 with | k => [(11, .d (.v (.int .i64 ((k : Nat) : Int))))]) [(9, _), (10, _)]
  (fun x => match x.1 with | k => []) [] [] 0 (fun x => match x.1 with | k => l.length - k)
  [] ⟨0, ?_⟩ rfl ?_ ⟨rfl, rfl, rfl, rfl, trivial⟩ ?_ trivial rfl ?_
 · exact ⟨Nat.zero_le _, rfl⟩
 · repeat' first | exact trivial | refine ⟨rfl, ?_⟩
 · repeat' exact trivial
 rintro ⟨k, hk, hI⟩
 show W _ _ _ _ _ ⟨[(11, .d (.v (.int .i64 ((k : Nat) : Int)))), (9, _), (10, _)], [], [], 0⟩
 refine W.seq (W.region (pE rfl (WO.nil (qs (W.seq (ba (l := l) (k := k) rfl (by simp [Ex.aJ, aE]) hk (fun s hx hd hlt => ?_) (fun he hd => ?_)))))))
 ·
  rw [hd, List.any_cons] at hI
  refine W.skip (qs (W.seq (W.block (W.seq (W.region (pu (indexAddr aa rfl rfl rfl rfl rfl rfl (Int.natCast_nonneg _) (aq hx) rfl) rfl ?_))))))
  refine pE rfl (pE rfl (WO.nil (qs (W.seq (W.region (pE rfl (pu (aw rfl rfl rfl (nE s) rfl) rfl ?_)))))))
  refine pE rfl (WO.nil (qs (W.seq (W.region ?_))))
  iterate 2 refine pE rfl ?_
  refine WO.nil (qs (au rfl (fun h18 => ?_) (fun h18 => ?_)))
  ·
   have hn : be s = 3 := by rcases ru s with q | q <;> simp_all
   rw [hn] at hI
   refine W.seq (W.region ?_)
   iterate 2 refine pE rfl ?_
   refine WO.nil (qs (W.ret (aT (aB (dc (aT (aB (QF.az trivial rfl ?_))))))))
   rw [hg, ← hI]; simp [norm, aL, hn]
  have hn : be s = 0 := by simpa using h18
  rw [hn] at hI
  refine W.skip (bC (qs (W.region ?_)))
  iterate 2 refine pE rfl ?_
  refine WO.nil (W.bb [] ⟨k + 1, ?_⟩ ?_ rfl ?_ ⟨rfl, rfl, rfl, rfl, trivial⟩ ?_ trivial rfl)
  · exact ⟨hlt, by simpa using hI⟩
  · dsimp only; omega
  · repeat' first | exact trivial | refine ⟨aG (by assumption) (by assumption), ?_⟩
  repeat' exact trivial
 rw [hd, List.any_nil] at hI
 refine W.exit (aP (aS (aM (qs (W.seq (W.region (pE rfl (WO.nil (qs (W.ret (QF.az trivial rfl ?_)))))))))))
 rw [hg, ← hI]; rfl
theorem mW (l : List ByteArray) : ax Tryz.prog 125 [.d (.sl (qY l))] (.d (.v (.int .i64 (bY l)))) 0 := by
 refine ax.aV (n := 19) (ts := [2]) Tryz.func125 (by kernel_rfl) rfl Tryz.ntmps125 Tryz.results125 rfl rfl fun C hC hG => ?_
 refine W.seq (W.region (pE rfl (WO.nil (qs ?_))))
 iterate 2 refine W.seq ?_
 refine W.region ?_
 iterate 3 refine pE rfl ?_
 refine WO.nil (qs (au rfl (fun h6 => ?_) (fun h6 => ?_)))
 ·
  have hg : bY l = 7 := by unfold bY; rw [if_pos (by simp at h6; omega)]
  refine W.seq (W.region (pE rfl (WO.nil (qs (W.ret (aB (QF.az trivial rfl ?_)))))))
  rw [hg]; rfl
 have hg : bY l = if l.any (fun s => decide (be s ≠ 0)) then 3 else 0 := by unfold bY; rw [if_neg (by simp at h6; omega)]
 refine W.skip (qs ?_)
 iterate 2 refine W.seq ?_
 refine W.region (pE rfl (WO.nil (qs (W.block (W.len (t := 0) rfl rfl (fun hlen => ?_))))))
 try simp only [List.length_map, Ex.aJ] at hlen
 refine W.aW (ι := {x : Nat // match x with | k => k ≤ l.length ∧ (l.drop k).any (fun s => decide (be s ≠ 0)) = l.any (fun s => decide (be s ≠ 0))})
  (fun x => match x.1 with | k => [(3, .d (.v (.int .i64 ((k : Nat) : Int))))]) [(0, _)]
  (fun x => match x.1 with | k => []) [] [] 0 (fun x => match x.1 with | k => l.length - k)
  [] ⟨0, ?_⟩ rfl ?_ ⟨rfl, rfl, trivial⟩ ?_ trivial rfl ?_
 · exact ⟨Nat.zero_le _, rfl⟩
 · repeat' first | exact trivial | refine ⟨rfl, ?_⟩
 · repeat' exact trivial
 rintro ⟨k, hk, hI⟩
 show W _ _ _ _ _ ⟨[(3, .d (.v (.int .i64 ((k : Nat) : Int)))), (0, _)], [], [], 0⟩
 iterate 2 refine W.seq ?_
 refine W.region ?_
 iterate 4 refine pE rfl ?_
 refine WO.nil (qs (ba (l := l) (k := k) rfl (by simp [Ex.aJ, aE]) hk (fun s hx hd hlt => ?_) (fun he hd => ?_)))
 ·
  rw [hd, List.any_cons] at hI
  refine W.skip (qs (W.seq (W.block (W.seq (W.region ?_)))))
  iterate 2 refine pE rfl ?_
  refine pu (indexAddr aa rfl rfl rfl rfl rfl rfl (Int.natCast_nonneg _) (aq hx) rfl) rfl ?_
  refine pE rfl (pu (aw rfl rfl rfl (l7 s) rfl) rfl ?_)
  refine pE rfl (WO.nil (qs (au rfl (fun h18 => ?_) (fun h18 => ?_))))
  ·
   have hn : be s = 3 := by rcases ru s with q | q <;> simp_all
   rw [hn] at hI
   refine W.seq (W.region (pE rfl (WO.nil (qs (W.ret (aT (aB (dc (aT (aB (QF.az trivial rfl ?_)))))))))))
   rw [hg, ← hI]; rfl
  have hn : be s = 0 := by simpa using h18
  rw [hn] at hI
  refine W.skip (bC (qs (W.region ?_)))
  iterate 3 refine pE rfl ?_
  refine WO.nil (W.bb [] ⟨k + 1, ?_⟩ ?_ rfl ?_ ⟨rfl, rfl, trivial⟩ ?_ trivial rfl)
  · exact ⟨hlt, by simpa using hI⟩
  · dsimp only; omega
  · repeat' first | exact trivial | refine ⟨aG (by assumption) (by assumption), ?_⟩
  repeat' exact trivial
 rw [hd, List.any_nil] at hI
 refine W.exit (aP (aS (aM (qs (W.seq (W.region (pE rfl (WO.nil (qs (W.ret (QF.az trivial rfl ?_)))))))))))
 rw [hg, ← hI]; rfl
theorem wq : ax Tryz.prog 173 [] (.d (.sl (nI.map ot.c))) 0 := by
 refine ax.aV (n := 15) (ts := [0]) Tryz.func173 (by kernel_rfl) rfl Tryz.ntmps173 Tryz.results173 rfl rfl fun C hC hG => ?_
 refine W.seq (W.region (pE rfl (WO.nil (qs (W.seq (W.region (pu (build aa rfl rfl rfl rfl) rfl ?_)))))))
 refine pu (build aa rfl rfl rfl rfl) rfl ?_
 refine pu (build aa rfl rfl rfl rfl) rfl ?_
 refine pu (build aa rfl rfl rfl rfl) rfl ?_
 refine pu (build aa rfl rfl rfl rfl) rfl ?_
 refine pu (build aa rfl rfl rfl rfl) rfl ?_
 refine pu (build aa rfl rfl rfl rfl) rfl ?_
 refine pu (build aa rfl rfl rfl rfl) rfl ?_
 refine pu (build aa rfl rfl rfl rfl) rfl ?_
 refine pu (build aa rfl rfl rfl rfl) rfl ?_
 refine pu (build aa rfl rfl rfl rfl) rfl ?_
 refine pu (build aa rfl rfl rfl rfl) rfl ?_
 refine pu (build aa rfl rfl rfl rfl) rfl ?_
 refine pu (bl aa rfl rfl rfl rfl rfl rfl rfl rfl rfl) rfl ?_
 refine pE rfl (WO.nil (qs (W.ret (QF.az trivial rfl ?_))))
 rfl
theorem x4 {k : Int} (h1 : 1 ≤ k) (h2 : k < 13) : nI[k.toNat]? = some (bQ k) := by
 rcases kinds h1 h2 with h | h | h | h | h | h | h | h | h | h | h | h <;> subst h <;> rfl
theorem ue (k : Int) : ax Tryz.prog 120 [.d (.v (.int .i64 k))] (.tup [.ag (bQ k).c, .d (.v (.bool (ib k)))]) 0 := by
 refine ax.iy aa (n := 19) (rs := [.cell 2 185, .tmp 3]) Tryz.func120 (by kernel_rfl) rfl Tryz.ntmps120 Tryz.results120 rfl fun C hC hG => ?_
 refine W.seq (W.region (bA aa rfl rfl rfl (pE rfl (WO.nil (qs (W.seq (W.region (pu (aw rfl rfl rfl (wq ..) rfl) rfl ?_))))))))
 refine pE rfl (WO.nil (qs ?_))
 iterate 2 refine W.seq ?_
 apply aI; (case hb => rfl)
 ·
  iterate 3 refine pE rfl ?_
  apply an; (case hj => rfl); (case hl => rfl)
  ·
   iterate 4 refine ae rfl rfl rfl rfl ?_
   refine pE rfl (WO.nil (ay rfl rfl rfl))
  refine ab rfl rfl (pE rfl (ab rfl rfl (pE rfl (ab rfl rfl (pE rfl (ab rfl rfl ?_))))))
  iterate 2 refine pE rfl ?_
  refine WO.nil (ay rfl rfl rfl)
 refine qs (au rfl (fun h13 => ?_) (fun h13 => ?_))
 ·
  have hg : bQ k = oP ∧ ib k = false := by
   have : k < 1 ∨ 13 ≤ k := by simp at h13; revert h13; show _ → _; intro h; simpa [nI] using h
   exact ⟨by unfold bQ; rw [if_pos this], by simp [ib]; omega⟩
  refine W.seq (W.region (pu (build aa rfl rfl rfl rfl) rfl ?_))
  refine aO aa rfl rfl rfl rfl rfl rfl rfl rfl (pE rfl (WO.nil (qs (W.ret (aB (QV.az aa trivial rfl ?_))))))
  rw [hg.1, hg.2]; rfl
 have h12 : 1 ≤ k ∧ k < 13 := by simp at h13; simpa [nI] using h13
 have hg : ib k = true := by simp [ib]; omega
 refine W.skip (qs (W.seq (W.region ?_)))
 iterate 2 refine pE rfl ?_
 refine pu (indexAddr aa rfl rfl rfl rfl rfl rfl (by omega) (aq (x4 h12.1 h12.2)) rfl) rfl ?_
 refine pE rfl (aO aa rfl rfl rfl rfl rfl rfl rfl rfl (pE rfl (WO.nil (qs (W.ret (QV.az aa trivial rfl ?_))))))
 rw [hg]; rfl
theorem vp (f : ot) (e : Ev) : ax Tryz.prog 121 [.ag f.c, .ag e.c] (.d (.v (.int .i64 (jz f e)))) 0 := by
 refine ax.aV (n := 13) (ts := [4]) Tryz.func121 (by kernel_rfl) rfl Tryz.ntmps121 Tryz.results121 rfl rfl fun C hC hG => ?_
 refine W.seq (W.region (cg rfl rfl rfl (cg rfl rfl rfl (pE rfl (WO.nil (qs ?_))))))
 iterate 2 refine W.seq ?_
 refine W.region (pE rfl (pE rfl (WO.nil (qs (au rfl (fun h6 => ?_) (fun h6 => ?_))))))
 ·
  refine W.seq (W.region (pE rfl (pE rfl (pu (aw rfl rfl rfl (nE ..) rfl) rfl ?_))))
  refine pE rfl (WO.nil (qs (W.ret (aB (QF.az trivial rfl ?_)))))
  simp only [norm, aL]; grind [jz]
 refine W.skip (qs (W.seq (W.region (pE rfl (pE rfl (pu (aw rfl rfl rfl (tB ..) rfl) rfl ?_))))))
 refine pE rfl (WO.nil (qs (W.ret (QF.az trivial rfl ?_))))
 simp only [norm, aL]; grind [jz]
theorem ew (n lo hi : Int) : ax Tryz.prog 176 [.d (.v (.int .i64 n)), .d (.v (.int .i64 lo)), .d (.v (.int .i64 hi))] (.d (.v (.int .i64 (within n lo hi)))) 0 := by
 refine ax.aV (n := 15) (ts := [6]) Tryz.func176 (by kernel_rfl) rfl Tryz.ntmps176 Tryz.results176 rfl rfl fun C hC hG => ?_
 refine W.seq (W.region (pE rfl (WO.nil (qs ?_))))
 iterate 2 refine W.seq ?_
 apply aI; (case hb => rfl)
 ·
  iterate 4 refine pE rfl ?_
  apply an; (case hj => rfl); (case hl => rfl)
  ·
   iterate 3 refine ae rfl rfl rfl rfl ?_
   refine pE rfl (WO.nil (ay rfl rfl rfl))
  refine ab rfl rfl (pE rfl (ab rfl rfl (pE rfl (ab rfl rfl ?_))))
  iterate 2 refine pE rfl ?_
  refine WO.nil (ay rfl rfl rfl)
 refine qs (au rfl (fun h14 => ?_) (fun h14 => ?_))
 ·
  refine W.seq (W.region (pE rfl (WO.nil (qs (W.ret (aB (QF.az trivial rfl ?_)))))))
  simp only [norm, aL]; grind [within]
 refine W.skip (qs (W.seq (W.region (pE rfl (WO.nil (qs (W.ret (QF.az trivial rfl ?_))))))))
 simp only [norm, aL]; grind [within]
theorem vN (k : Int) : ax Tryz.prog 124 [.d (.v (.int .i64 k))] (.tup [.d (.v (.bool (iL k))), .d (.v (.bool (oE k))), .d (.v (.bool (oJ k))), .d (.v (.bool (fC k)))]) 0 := by
 refine ax.aV (n := 38) (ts := [2, 3, 4, 5]) Tryz.func124 (by kernel_rfl) rfl Tryz.ntmps124 Tryz.results124 rfl rfl fun C hC hG => ?_
 refine W.seq (W.region ?_)
 iterate 4 refine pE rfl ?_
 refine WO.nil (qs (W.seq ?_))
 apply aI; (case hb => rfl)
 ·
  iterate 3 refine pE rfl ?_
  apply an; (case hj => rfl); (case hl => rfl)
  ·
   iterate 2 refine ae rfl rfl rfl rfl ?_
   iterate 2 refine pE rfl ?_
   iterate 2 refine ae rfl rfl rfl rfl ?_
   iterate 2 refine pE rfl ?_
   refine WO.nil (ay rfl rfl rfl)
  refine ab rfl rfl (pE rfl (ab rfl rfl ?_))
  iterate 3 refine pE rfl ?_
  apply an; (case hj => rfl); (case hl => rfl)
  ·
   iterate 2 refine ae rfl rfl rfl rfl ?_
   iterate 2 refine pE rfl ?_
   refine WO.nil (ay rfl rfl rfl)
  refine ab rfl rfl (pE rfl (ab rfl rfl ?_))
  iterate 3 refine pE rfl ?_
  refine WO.nil (ay rfl rfl rfl)
 refine qs (W.seq (W.region ?_))
 iterate 3 refine pE rfl ?_
 refine WO.nil (qs (W.seq ?_))
 apply aI; (case hb => rfl)
 ·
  iterate 3 refine pE rfl ?_
  apply an; (case hj => rfl); (case hl => rfl)
  ·
   iterate 2 refine ae rfl rfl rfl rfl ?_
   iterate 2 refine pE rfl ?_
   refine WO.nil (ay rfl rfl rfl)
  refine ab rfl rfl (pE rfl (ab rfl rfl ?_))
  iterate 3 refine pE rfl ?_
  refine WO.nil (ay rfl rfl rfl)
 refine qs (W.seq ?_)
 apply aI; (case hb => rfl)
 ·
  iterate 3 refine pE rfl ?_
  apply an; (case hj => rfl); (case hl => rfl)
  ·
   iterate 2 refine ae rfl rfl rfl rfl ?_
   iterate 2 refine pE rfl ?_
   refine WO.nil (ay rfl rfl rfl)
  refine ab rfl rfl (pE rfl (ab rfl rfl ?_))
  iterate 3 refine pE rfl ?_
  refine WO.nil (ay rfl rfl rfl)
 refine qs (W.seq (W.region ?_))
 iterate 8 refine pE rfl ?_
 refine WO.nil (qs (W.ret (QF.az trivial rfl ?_)))
 simp only [norm, ek, aL]; simp only [iL, oE, oJ, fC]; grind
theorem gx (e : Ev) : ax Tryz.prog 126 [.ag e.c] (.d (.v (.int .i64 (eG e)))) 0 := by
 refine ax.aV (n := 63) (ts := [2]) Tryz.func126 (by kernel_rfl) rfl Tryz.ntmps126 Tryz.results126 rfl rfl fun C hC hG => ?_
 refine W.seq (W.region (cg rfl rfl rfl (pE rfl (WO.nil (qs ?_)))))
 iterate 2 refine W.seq ?_
 refine W.region (pE rfl (pE rfl (WO.nil (qs (W.block ?_)))))
 iterate 2 refine W.seq ?_
 refine W.region ?_
 iterate 2 refine pE rfl ?_
 refine WO.nil (qs (au rfl (fun h7 => ?_) (fun h7 => ?_)))
 ·
  refine W.skip (qs (W.oC rfl (W.seq (W.region (pE rfl (WO.nil (qs (W.ret (aT (aB (QF.az trivial rfl ?_)))))))))))
  simp only [norm, aL]; grind [eG]
 refine W.seq (W.region ?_)
 iterate 2 refine pE rfl ?_
 refine WO.nil (qs (au rfl (fun h7 => ?_) (fun h7 => ?_)))
 ·
  refine W.skip (qs (W.oC rfl (W.seq (W.region (pE rfl (WO.nil (qs (W.ret (aT (aB (QF.az trivial rfl ?_)))))))))))
  simp only [norm, aL]; grind [eG]
 refine W.region ?_
 iterate 2 refine pE rfl ?_
 refine WO.nil (qs (au rfl (fun h7 => ?_) (fun h7 => ?_)))
 ·
  refine W.seq (W.region (pE rfl (WO.nil (qs (W.ret (aT (aB (QF.az trivial rfl ?_))))))))
  simp only [norm, aL]; grind [eG]
 refine W.seq (W.region ?_)
 iterate 2 refine pE rfl ?_
 refine WO.nil (qs (au rfl (fun h11 => ?_) (fun h11 => ?_)))
 ·
  refine W.seq (W.region (pE rfl (pE rfl (pu (aw rfl rfl rfl (ew ..) rfl) rfl ?_))))
  refine pE rfl (WO.nil (qs (W.ret (aT (aB (QF.az trivial rfl ?_))))))
  simp only [norm, aL]; grind [eG]
 refine W.seq (W.region ?_)
 iterate 2 refine pE rfl ?_
 refine WO.nil (qs (au rfl (fun h16 => ?_) (fun h16 => ?_)))
 ·
  refine W.seq (W.region (pE rfl (pE rfl (pu (aw rfl rfl rfl (ew ..) rfl) rfl ?_))))
  refine pE rfl (WO.nil (qs (W.ret (aT (aB (QF.az trivial rfl ?_))))))
  simp only [norm, aL]; grind [eG]
 refine W.seq (W.region ?_)
 iterate 2 refine pE rfl ?_
 refine WO.nil (qs (au rfl (fun h21 => ?_) (fun h21 => ?_)))
 ·
  refine W.seq (W.region (pE rfl (pE rfl (pu (aw rfl rfl rfl (ew ..) rfl) rfl ?_))))
  refine pE rfl (WO.nil (qs (W.ret (aT (aB (QF.az trivial rfl ?_))))))
  simp only [norm, aL]; grind [eG]
 refine W.seq (W.region ?_)
 iterate 2 refine pE rfl ?_
 refine WO.nil (qs (au rfl (fun h26 => ?_) (fun h26 => ?_)))
 ·
  refine W.seq (W.region (pE rfl (pE rfl (pu (aw rfl rfl rfl (ew ..) rfl) rfl ?_))))
  refine pE rfl (WO.nil (qs ?_))
  iterate 2 refine W.seq ?_
  apply aI; (case hb => rfl)
  ·
   iterate 3 refine pE rfl ?_
   apply an; (case hj => rfl); (case hl => rfl)
   ·
    refine ab rfl rfl (pE rfl (ab rfl rfl (pE rfl (ab rfl rfl ?_))))
    iterate 2 refine pE rfl ?_
    refine WO.nil (ay rfl rfl rfl)
   iterate 3 refine ae rfl rfl rfl rfl ?_
   refine pE rfl (WO.nil (ay rfl rfl rfl))
  refine qs (au rfl (fun h37 => ?_) (fun h37 => ?_))
  ·
   refine W.seq (W.region (pE rfl (pE rfl (pu (aw rfl rfl rfl (ew ..) rfl) rfl ?_))))
   refine pE rfl (WO.nil (qs (W.ret (aB (aT (aB (QF.az trivial rfl ?_)))))))
   simp only [norm, aL]; grind [eG]
  refine W.skip (qs ?_)
  iterate 2 refine W.seq ?_
  apply aI; (case hb => rfl)
  ·
   iterate 3 refine pE rfl ?_
   apply an; (case hj => rfl); (case hl => rfl)
   ·
    refine ab rfl rfl (pE rfl (ab rfl rfl (pE rfl (ab rfl rfl ?_))))
    iterate 2 refine pE rfl ?_
    refine WO.nil (ay rfl rfl rfl)
   iterate 3 refine ae rfl rfl rfl rfl ?_
   refine pE rfl (WO.nil (ay rfl rfl rfl))
  refine qs (au rfl (fun h47 => ?_) (fun h47 => ?_))
  ·
   refine W.seq (W.region (pE rfl (WO.nil (qs (W.ret (aB (aT (aB (QF.az trivial rfl ?_)))))))))
   simp only [norm, aL]; grind [eG]
  refine W.skip (qs (W.seq (W.region ?_)))
  iterate 2 refine pE rfl ?_
  refine WO.nil (qs (W.ret (aT (aB (QF.az trivial rfl ?_)))))
  simp only [norm, aL]; grind [eG]
 refine W.skip (bC (qs (W.seq (W.region (pE rfl (pE rfl (pu (aw rfl rfl rfl (ew ..) rfl) rfl ?_)))))))
 refine pE rfl (WO.nil (qs ?_))
 iterate 2 refine W.seq ?_
 apply aI; (case hb => rfl)
 ·
  iterate 3 refine pE rfl ?_
  apply an; (case hj => rfl); (case hl => rfl)
  ·
   refine ab rfl rfl (pE rfl (ab rfl rfl (pE rfl (ab rfl rfl ?_))))
   iterate 2 refine pE rfl ?_
   refine WO.nil (ay rfl rfl rfl)
  iterate 3 refine ae rfl rfl rfl rfl ?_
  refine pE rfl (WO.nil (ay rfl rfl rfl))
 refine qs (au rfl (fun h58 => ?_) (fun h58 => ?_))
 ·
  refine W.seq (W.region (pE rfl (pE rfl (pu (aw rfl rfl rfl (ew ..) rfl) rfl ?_))))
  refine pE rfl (WO.nil (qs (W.ret (aB (QF.az trivial rfl ?_)))))
  simp only [norm, aL]; grind [eG]
 refine W.skip (qs (W.seq (W.region ?_)))
 iterate 2 refine pE rfl ?_
 refine WO.nil (qs (W.ret (QF.az trivial rfl ?_)))
 simp only [norm, aL]; grind [eG]
end Go.Proofs.YtoojafbicmdclaaGreatDoor
namespace Go.Proofs.YtoojafbicmdclaaGreatDoor
open Go.Ab Go.Tb
set_option maxRecDepth 10000
attribute [local irreducible] W WO Pu QS QB QL QF QV bU CH QE
theorem vB (a b : List ByteArray) : ax Tryz.prog 79 [.d (.sl (qY a)), .d (.sl (qY b))] (.d (.v (.bool (decide (a = b))))) 0 := by
 refine ax.aV (n := 26) (ts := [4]) Tryz.func79 (by kernel_rfl) rfl Tryz.ntmps79 Tryz.results79 rfl rfl fun C hC hG => ?_
 refine W.seq (W.region (pE rfl (WO.nil (qs ?_))))
 iterate 2 refine W.seq ?_
 refine W.region ?_
 iterate 5 refine pE rfl ?_
 refine WO.nil (qs (au rfl (fun h10 => ?_) (fun h10 => ?_)))
 ·
  have hg : decide (a = b) = false := by simp at h10 ⊢; rintro rfl; simp at h10
  refine W.seq (W.region (pE rfl (WO.nil (qs (W.ret (aB (QF.az trivial rfl ?_)))))))
  rw [hg]; rfl
 have hl : a.length = b.length := by simp at h10; omega
 refine W.skip (qs ?_)
 iterate 2 refine W.seq ?_
 refine W.region (pE rfl (WO.nil (qs (W.block (W.len (t := 0) rfl rfl (fun hlen => ?_))))))
 try simp only [List.length_map, Ex.aJ] at hlen
 refine W.aW (ι := {x : Nat // match x with | k => k ≤ a.length ∧ decide (a.drop k = b.drop k) = decide (a = b)})
  (fun x => match x.1 with | k => [(5, .d (.v (.int .i64 ((k : Nat) : Int))))]) [(0, _), (1, _)]
  (fun x => match x.1 with | k => []) [] [] 0 (fun x => match x.1 with | k => a.length - k)
  [] ⟨0, ?_⟩ rfl ?_ ⟨rfl, rfl, rfl, rfl, trivial⟩ ?_ trivial rfl ?_
 · exact ⟨Nat.zero_le _, rfl⟩
 · repeat' first | exact trivial | refine ⟨rfl, ?_⟩
 · repeat' exact trivial
 rintro ⟨k, hk, hI⟩
 show W _ _ _ _ _ ⟨[(5, .d (.v (.int .i64 ((k : Nat) : Int)))), (0, _), (1, _)], [], [], 0⟩
 iterate 2 refine W.seq ?_
 refine W.region ?_
 iterate 4 refine pE rfl ?_
 refine WO.nil (qs (ba (l := a) (k := k) rfl (by simp [Ex.aJ, aE]) hk (fun x hx hd hlt => ?_) (fun he hd => ?_)))
 ·
  obtain ⟨y, hy, hyd⟩ := zg (l := b) (k := k) (by omega)
  rw [hd, hyd] at hI
  refine W.skip (qs (W.seq (W.block (W.seq (W.cU aa (by kernel_rfl) ?_)))))
  iterate 2 refine aC (ev aa rfl) rfl ?_
  refine aC (indexAddr aa rfl rfl rfl rfl rfl rfl (Int.natCast_nonneg _) (aq hx) rfl) rfl ?_
  refine aC (ev aa rfl) rfl ?_
  iterate 2 refine aC (ev aa rfl) rfl ?_
  refine aC (indexAddr aa rfl rfl rfl rfl rfl rfl (Int.natCast_nonneg _) (aq hy) rfl) rfl ?_
  refine aC (ev aa rfl) rfl ?_
  refine aC (ev aa rfl) rfl ?_
  refine CH.nil ?_
  refine qs (au rfl (fun h25 => ?_) (fun h25 => ?_))
  ·
   have hxy : x ≠ y := by rintro rfl; simp at h25
   have hg : decide (a = b) = false := by rw [← hI]; simp [hxy]
   refine W.seq (W.region (pE rfl (WO.nil (qs (W.ret (aT (aB (dc (aT (aB (QF.az trivial rfl ?_)))))))))))
   rw [hg]; rfl
  have hxy : x = y := by simpa using h25
  refine W.skip (bC (qs (W.region ?_)))
  iterate 3 refine pE rfl ?_
  refine WO.nil (W.bb [] ⟨k + 1, ?_⟩ ?_ rfl ?_ ⟨rfl, rfl, rfl, rfl, trivial⟩ ?_ trivial rfl)
  ·
   refine ⟨hlt, ?_⟩
   rw [← hI, hxy]
   simp
  · dsimp only; omega
  · repeat' first | exact trivial | refine ⟨aG (by assumption) (by assumption), ?_⟩
  repeat' exact trivial
 rw [hd, dropEnd (l := b) (by omega)] at hI
 refine W.exit (aP (aS (aM (qs (W.seq (W.region (pE rfl (WO.nil (qs (W.ret (QF.az trivial rfl ?_)))))))))))
 rw [← hI]; rfl
def mH (a b : Ev) : Bool := decide (a.time = b.time) && decide (a.kind = b.kind) && decide (a.name = b.name) && decide (a.n = b.n) && decide (a.m = b.m) && decide (a.stack = b.stack)
theorem sS (a b : Ev) : mH a b = true ↔ a = b := by
 cases a; cases b
 simp only [mH, Bool.and_eq_true, decide_eq_true_eq, Ev.mk.injEq]
 constructor
 · rintro ⟨⟨⟨⟨⟨h1, h2⟩, h3⟩, h4⟩, h5⟩, h6⟩; exact ⟨h1, h2, h3, h4, h5, h6⟩
 rintro ⟨h1, h2, h3, h4, h5, h6⟩; exact ⟨⟨⟨⟨⟨h1, h2⟩, h3⟩, h4⟩, h5⟩, h6⟩
theorem vG (a b : Ev) : ax Tryz.prog 25 [.ag a.c, .ag b.c] (.d (.v (.bool (mH a b)))) 0 := by
 refine ax.aV (n := 45) (ts := [4]) Tryz.func25 (by kernel_rfl) rfl Tryz.ntmps25 Tryz.results25 rfl rfl fun C hC hG => ?_
 refine W.seq (W.region (cg rfl rfl rfl (cg rfl rfl rfl (pE rfl (WO.nil (qs (W.seq ?_)))))))
 apply aI; (case hb => rfl)
 ·
  refine pE rfl (pE rfl (pE rfl (pE rfl ?_)))
  iterate 2 refine pE rfl ?_
  apply an; (case hj => rfl); (case hl => rfl)
  ·
   refine ab rfl rfl (pE rfl (ab rfl rfl (pE rfl (ab rfl rfl (pE rfl (ab rfl rfl (pE rfl (ab rfl rfl ?_))))))))
   iterate 3 refine pE rfl ?_
   apply an; (case hj => rfl); (case hl => rfl)
   ·
    refine ab rfl rfl (pE rfl (ab rfl rfl (pE rfl (ab rfl rfl (pE rfl (ab rfl rfl (pE rfl (ab rfl rfl ?_))))))))
    iterate 3 refine pE rfl ?_
    apply an; (case hj => rfl); (case hl => rfl)
    ·
     refine ab rfl rfl (pE rfl (ab rfl rfl (pE rfl (ab rfl rfl (pE rfl (ab rfl rfl (pE rfl (ab rfl rfl ?_))))))))
     iterate 3 refine pE rfl ?_
     apply an; (case hj => rfl); (case hl => rfl)
     ·
      refine ab rfl rfl (pE rfl (ab rfl rfl (pE rfl (ab rfl rfl (pE rfl (ab rfl rfl (pE rfl (ab rfl rfl ?_))))))))
      iterate 3 refine pE rfl ?_
      apply an; (case hj => rfl); (case hl => rfl)
      ·
       refine ab rfl rfl (pE rfl (ab rfl rfl (pE rfl (ab rfl rfl (pE rfl (ab rfl rfl (pE rfl (ab rfl rfl (pu (aw rfl rfl rfl (vB ..) rfl) rfl ?_)))))))))
       iterate 2 refine pE rfl ?_
       refine WO.nil (ay rfl rfl rfl)
      iterate 5 refine ae rfl rfl rfl rfl ?_
      iterate 2 refine pE rfl ?_
      refine WO.nil (ay rfl rfl rfl)
     iterate 5 refine ae rfl rfl rfl rfl ?_
     iterate 2 refine pE rfl ?_
     iterate 5 refine ae rfl rfl rfl rfl ?_
     iterate 2 refine pE rfl ?_
     refine WO.nil (ay rfl rfl rfl)
    iterate 5 refine ae rfl rfl rfl rfl ?_
    iterate 2 refine pE rfl ?_
    iterate 5 refine ae rfl rfl rfl rfl ?_
    iterate 2 refine pE rfl ?_
    iterate 5 refine ae rfl rfl rfl rfl ?_
    iterate 2 refine pE rfl ?_
    refine WO.nil (ay rfl rfl rfl)
   iterate 5 refine ae rfl rfl rfl rfl ?_
   iterate 2 refine pE rfl ?_
   iterate 5 refine ae rfl rfl rfl rfl ?_
   iterate 2 refine pE rfl ?_
   iterate 5 refine ae rfl rfl rfl rfl ?_
   iterate 2 refine pE rfl ?_
   iterate 5 refine ae rfl rfl rfl rfl ?_
   iterate 2 refine pE rfl ?_
   refine WO.nil (ay rfl rfl rfl)
  iterate 5 refine ae rfl rfl rfl rfl ?_
  iterate 2 refine pE rfl ?_
  iterate 5 refine ae rfl rfl rfl rfl ?_
  iterate 2 refine pE rfl ?_
  iterate 5 refine ae rfl rfl rfl rfl ?_
  iterate 2 refine pE rfl ?_
  iterate 5 refine ae rfl rfl rfl rfl ?_
  iterate 2 refine pE rfl ?_
  iterate 5 refine ae rfl rfl rfl rfl ?_
  iterate 2 refine pE rfl ?_
  refine WO.nil (ay rfl rfl rfl)
 refine qs (W.ret (QF.az trivial rfl ?_))
 simp only [norm, aL, mH]; grind
theorem ta (e : Ev) : ax Tryz.prog 72 [.ag e.c] (.d (.v (.int .i64 (cK e)))) 0 := by
 refine ax.aV (n := 127) (ts := [2]) Tryz.func72 (by kernel_rfl) rfl Tryz.ntmps72 Tryz.results72 rfl rfl fun C hC hG => ?_
 refine W.seq (W.region (cg rfl rfl rfl (pE rfl (WO.nil (qs ?_)))))
 iterate 2 refine W.seq ?_
 apply aI; (case hb => rfl)
 ·
  refine pE rfl (pE rfl ?_)
  iterate 2 refine pE rfl ?_
  apply an; (case hj => rfl); (case hl => rfl)
  ·
   iterate 3 refine ae rfl rfl rfl rfl ?_
   refine pE rfl (WO.nil (ay rfl rfl rfl))
  refine ab rfl rfl (pE rfl (ab rfl rfl (pE rfl (ab rfl rfl ?_))))
  iterate 2 refine pE rfl ?_
  refine WO.nil (ay rfl rfl rfl)
 refine qs (au rfl (fun h13 => ?_) (fun h13 => ?_))
 ·
  refine W.seq (W.region (pE rfl (WO.nil (qs (W.ret (aB (QF.az trivial rfl ?_)))))))
  simp only [norm, aL]; grind [cK]
 refine W.skip (qs (W.seq (W.region (pE rfl (pE rfl (pu (aw rfl rfl rfl (ue ..) rfl) rfl ?_))))))
 iterate 3 refine pE rfl ?_
 refine bA aa rfl rfl rfl (aO aa rfl rfl rfl rfl rfl rfl rfl rfl (pE rfl (WO.nil (qs ?_))))
 iterate 2 refine W.seq ?_
 apply aI; (case hb => rfl)
 ·
  iterate 3 refine pE rfl ?_
  apply an; (case hj => rfl); (case hl => rfl)
  ·
   iterate 4 refine ae rfl rfl rfl rfl ?_
   iterate 3 refine bh rfl rfl rfl ?_
   refine ae rfl rfl rfl rfl ?_
   iterate 2 refine pE rfl ?_
   iterate 4 refine ae rfl rfl rfl rfl ?_
   iterate 3 refine bh rfl rfl rfl ?_
   refine ae rfl rfl rfl rfl ?_
   iterate 2 refine pE rfl ?_
   iterate 4 refine ae rfl rfl rfl rfl ?_
   iterate 3 refine bh rfl rfl rfl ?_
   refine ae rfl rfl rfl rfl ?_
   iterate 2 refine pE rfl ?_
   iterate 4 refine ae rfl rfl rfl rfl ?_
   iterate 4 refine bh rfl rfl rfl ?_
   refine ae rfl rfl rfl rfl (pE rfl (WO.nil (ay rfl rfl rfl)))
  refine ab rfl rfl (pE rfl (ab rfl rfl (pE rfl (ab rfl rfl (pE rfl (ab rfl rfl (pE rfl ?_)))))))
  apply an; (case hj => rfl); (case hl => rfl)
  ·
   refine ab rfl rfl (pE rfl (ab rfl rfl (pE rfl (ab rfl rfl (pE rfl (ab rfl rfl ?_))))))
   iterate 3 refine pE rfl ?_
   apply an; (case hj => rfl); (case hl => rfl)
   ·
    iterate 4 refine ae rfl rfl rfl rfl ?_
    iterate 3 refine bh rfl rfl rfl ?_
    refine ae rfl rfl rfl rfl ?_
    iterate 2 refine pE rfl ?_
    iterate 4 refine ae rfl rfl rfl rfl ?_
    iterate 3 refine bh rfl rfl rfl ?_
    refine ae rfl rfl rfl rfl ?_
    iterate 2 refine pE rfl ?_
    iterate 4 refine ae rfl rfl rfl rfl ?_
    iterate 4 refine bh rfl rfl rfl ?_
    refine ae rfl rfl rfl rfl (pE rfl (WO.nil (ay rfl rfl rfl)))
   refine ab rfl rfl (pE rfl (ab rfl rfl (pE rfl (ab rfl rfl (pE rfl (ab rfl rfl (pE rfl ?_)))))))
   apply an; (case hj => rfl); (case hl => rfl)
   ·
    refine ab rfl rfl (pE rfl (ab rfl rfl (pE rfl (ab rfl rfl (pE rfl (ab rfl rfl ?_))))))
    iterate 3 refine pE rfl ?_
    apply an; (case hj => rfl); (case hl => rfl)
    ·
     iterate 4 refine ae rfl rfl rfl rfl ?_
     iterate 3 refine bh rfl rfl rfl ?_
     refine ae rfl rfl rfl rfl ?_
     iterate 2 refine pE rfl ?_
     iterate 4 refine ae rfl rfl rfl rfl ?_
     iterate 4 refine bh rfl rfl rfl ?_
     refine ae rfl rfl rfl rfl (pE rfl (WO.nil (ay rfl rfl rfl)))
    refine ab rfl rfl (pE rfl (ab rfl rfl (pE rfl (ab rfl rfl (pE rfl (ab rfl rfl (pE rfl ?_)))))))
    apply an; (case hj => rfl); (case hl => rfl)
    ·
     refine ab rfl rfl (pE rfl (ab rfl rfl (pE rfl (ab rfl rfl (pE rfl (ab rfl rfl ?_))))))
     iterate 3 refine pE rfl ?_
     apply an; (case hj => rfl); (case hl => rfl)
     ·
      iterate 4 refine ae rfl rfl rfl rfl ?_
      iterate 4 refine bh rfl rfl rfl ?_
      refine ae rfl rfl rfl rfl (pE rfl (WO.nil (ay rfl rfl rfl)))
     refine ab rfl rfl (pE rfl (ab rfl rfl (pE rfl (ab rfl rfl (pE rfl (ab rfl rfl (pE rfl ?_)))))))
     apply an; (case hj => rfl); (case hl => rfl)
     ·
      refine ab rfl rfl (pE rfl (ab rfl rfl (pE rfl (ab rfl rfl (pE rfl (ab rfl rfl (pE rfl (ab rfl rfl ?_))))))))
      iterate 2 refine pE rfl ?_
      refine WO.nil (ay rfl rfl rfl)
     iterate 4 refine ae rfl rfl rfl rfl ?_
     refine ab rfl rfl ?_
     iterate 2 refine pE rfl ?_
     refine WO.nil (ay rfl rfl rfl)
    iterate 3 refine ae rfl rfl rfl rfl ?_
    refine ab rfl rfl ?_
    iterate 3 refine pE rfl ?_
    refine ab rfl rfl (pE rfl (ab rfl rfl (pE rfl (ab rfl rfl (pE rfl (ab rfl rfl (pE rfl ?_)))))))
    apply an; (case hj => rfl); (case hl => rfl)
    ·
     refine ab rfl rfl (pE rfl (ab rfl rfl (pE rfl (ab rfl rfl (pE rfl (ab rfl rfl (pE rfl (ab rfl rfl ?_))))))))
     iterate 2 refine pE rfl ?_
     refine WO.nil (ay rfl rfl rfl)
    iterate 4 refine ae rfl rfl rfl rfl ?_
    refine ab rfl rfl ?_
    iterate 2 refine pE rfl ?_
    refine WO.nil (ay rfl rfl rfl)
   iterate 3 refine ae rfl rfl rfl rfl ?_
   refine ab rfl rfl ?_
   iterate 3 refine pE rfl ?_
   refine ab rfl rfl (pE rfl (ab rfl rfl (pE rfl (ab rfl rfl (pE rfl (ab rfl rfl (pE rfl ?_)))))))
   apply an; (case hj => rfl); (case hl => rfl)
   ·
    refine ab rfl rfl (pE rfl (ab rfl rfl (pE rfl (ab rfl rfl (pE rfl (ab rfl rfl ?_))))))
    iterate 3 refine pE rfl ?_
    apply an; (case hj => rfl); (case hl => rfl)
    ·
     iterate 4 refine ae rfl rfl rfl rfl ?_
     iterate 4 refine bh rfl rfl rfl ?_
     refine ae rfl rfl rfl rfl (pE rfl (WO.nil (ay rfl rfl rfl)))
    refine ab rfl rfl (pE rfl (ab rfl rfl (pE rfl (ab rfl rfl (pE rfl (ab rfl rfl (pE rfl ?_)))))))
    apply an; (case hj => rfl); (case hl => rfl)
    ·
     refine ab rfl rfl (pE rfl (ab rfl rfl (pE rfl (ab rfl rfl (pE rfl (ab rfl rfl (pE rfl (ab rfl rfl ?_))))))))
     iterate 2 refine pE rfl ?_
     refine WO.nil (ay rfl rfl rfl)
    iterate 4 refine ae rfl rfl rfl rfl ?_
    refine ab rfl rfl ?_
    iterate 2 refine pE rfl ?_
    refine WO.nil (ay rfl rfl rfl)
   iterate 3 refine ae rfl rfl rfl rfl ?_
   refine ab rfl rfl ?_
   iterate 3 refine pE rfl ?_
   refine ab rfl rfl (pE rfl (ab rfl rfl (pE rfl (ab rfl rfl (pE rfl (ab rfl rfl (pE rfl ?_)))))))
   apply an; (case hj => rfl); (case hl => rfl)
   ·
    refine ab rfl rfl (pE rfl (ab rfl rfl (pE rfl (ab rfl rfl (pE rfl (ab rfl rfl (pE rfl (ab rfl rfl ?_))))))))
    iterate 2 refine pE rfl ?_
    refine WO.nil (ay rfl rfl rfl)
   iterate 4 refine ae rfl rfl rfl rfl ?_
   refine ab rfl rfl ?_
   iterate 2 refine pE rfl ?_
   refine WO.nil (ay rfl rfl rfl)
  iterate 3 refine ae rfl rfl rfl rfl ?_
  refine ab rfl rfl ?_
  iterate 3 refine pE rfl ?_
  refine ab rfl rfl (pE rfl (ab rfl rfl (pE rfl (ab rfl rfl (pE rfl (ab rfl rfl (pE rfl ?_)))))))
  apply an; (case hj => rfl); (case hl => rfl)
  ·
   refine ab rfl rfl (pE rfl (ab rfl rfl (pE rfl (ab rfl rfl (pE rfl (ab rfl rfl ?_))))))
   iterate 3 refine pE rfl ?_
   apply an; (case hj => rfl); (case hl => rfl)
   ·
    iterate 4 refine ae rfl rfl rfl rfl ?_
    iterate 3 refine bh rfl rfl rfl ?_
    refine ae rfl rfl rfl rfl ?_
    iterate 2 refine pE rfl ?_
    iterate 4 refine ae rfl rfl rfl rfl ?_
    iterate 4 refine bh rfl rfl rfl ?_
    refine ae rfl rfl rfl rfl (pE rfl (WO.nil (ay rfl rfl rfl)))
   refine ab rfl rfl (pE rfl (ab rfl rfl (pE rfl (ab rfl rfl (pE rfl (ab rfl rfl (pE rfl ?_)))))))
   apply an; (case hj => rfl); (case hl => rfl)
   ·
    refine ab rfl rfl (pE rfl (ab rfl rfl (pE rfl (ab rfl rfl (pE rfl (ab rfl rfl ?_))))))
    iterate 3 refine pE rfl ?_
    apply an; (case hj => rfl); (case hl => rfl)
    ·
     iterate 4 refine ae rfl rfl rfl rfl ?_
     iterate 4 refine bh rfl rfl rfl ?_
     refine ae rfl rfl rfl rfl (pE rfl (WO.nil (ay rfl rfl rfl)))
    refine ab rfl rfl (pE rfl (ab rfl rfl (pE rfl (ab rfl rfl (pE rfl (ab rfl rfl (pE rfl ?_)))))))
    apply an; (case hj => rfl); (case hl => rfl)
    ·
     refine ab rfl rfl (pE rfl (ab rfl rfl (pE rfl (ab rfl rfl (pE rfl (ab rfl rfl (pE rfl (ab rfl rfl ?_))))))))
     iterate 2 refine pE rfl ?_
     refine WO.nil (ay rfl rfl rfl)
    iterate 4 refine ae rfl rfl rfl rfl ?_
    refine ab rfl rfl ?_
    iterate 2 refine pE rfl ?_
    refine WO.nil (ay rfl rfl rfl)
   iterate 3 refine ae rfl rfl rfl rfl ?_
   refine ab rfl rfl ?_
   iterate 3 refine pE rfl ?_
   refine ab rfl rfl (pE rfl (ab rfl rfl (pE rfl (ab rfl rfl (pE rfl (ab rfl rfl (pE rfl ?_)))))))
   apply an; (case hj => rfl); (case hl => rfl)
   ·
    refine ab rfl rfl (pE rfl (ab rfl rfl (pE rfl (ab rfl rfl (pE rfl (ab rfl rfl (pE rfl (ab rfl rfl ?_))))))))
    iterate 2 refine pE rfl ?_
    refine WO.nil (ay rfl rfl rfl)
   iterate 4 refine ae rfl rfl rfl rfl ?_
   refine ab rfl rfl ?_
   iterate 2 refine pE rfl ?_
   refine WO.nil (ay rfl rfl rfl)
  iterate 3 refine ae rfl rfl rfl rfl ?_
  refine ab rfl rfl ?_
  iterate 3 refine pE rfl ?_
  refine ab rfl rfl (pE rfl (ab rfl rfl (pE rfl (ab rfl rfl (pE rfl (ab rfl rfl (pE rfl ?_)))))))
  apply an; (case hj => rfl); (case hl => rfl)
  ·
   refine ab rfl rfl (pE rfl (ab rfl rfl (pE rfl (ab rfl rfl (pE rfl (ab rfl rfl ?_))))))
   iterate 3 refine pE rfl ?_
   apply an; (case hj => rfl); (case hl => rfl)
   ·
    iterate 4 refine ae rfl rfl rfl rfl ?_
    iterate 4 refine bh rfl rfl rfl ?_
    refine ae rfl rfl rfl rfl (pE rfl (WO.nil (ay rfl rfl rfl)))
   refine ab rfl rfl (pE rfl (ab rfl rfl (pE rfl (ab rfl rfl (pE rfl (ab rfl rfl (pE rfl ?_)))))))
   apply an; (case hj => rfl); (case hl => rfl)
   ·
    refine ab rfl rfl (pE rfl (ab rfl rfl (pE rfl (ab rfl rfl (pE rfl (ab rfl rfl (pE rfl (ab rfl rfl ?_))))))))
    iterate 2 refine pE rfl ?_
    refine WO.nil (ay rfl rfl rfl)
   iterate 4 refine ae rfl rfl rfl rfl ?_
   refine ab rfl rfl ?_
   iterate 2 refine pE rfl ?_
   refine WO.nil (ay rfl rfl rfl)
  iterate 3 refine ae rfl rfl rfl rfl ?_
  refine ab rfl rfl ?_
  iterate 3 refine pE rfl ?_
  refine ab rfl rfl (pE rfl (ab rfl rfl (pE rfl (ab rfl rfl (pE rfl (ab rfl rfl (pE rfl ?_)))))))
  apply an; (case hj => rfl); (case hl => rfl)
  ·
   refine ab rfl rfl (pE rfl (ab rfl rfl (pE rfl (ab rfl rfl (pE rfl (ab rfl rfl (pE rfl (ab rfl rfl ?_))))))))
   iterate 2 refine pE rfl ?_
   refine WO.nil (ay rfl rfl rfl)
  iterate 4 refine ae rfl rfl rfl rfl ?_
  refine ab rfl rfl ?_
  iterate 2 refine pE rfl ?_
  refine WO.nil (ay rfl rfl rfl)
 refine qs (au rfl (fun h62 => ?_) (fun h62 => ?_))
 ·
  refine W.seq (W.region (pE rfl (WO.nil (qs (W.ret (aB (QF.az trivial rfl ?_)))))))
  simp only [norm, aL]; grind [cK]
 refine W.skip (qs ?_)
 iterate 2 refine W.seq ?_
 refine W.region (pE rfl (pE rfl (pu (aw rfl rfl rfl (vp ..) rfl) rfl ?_)))
 refine pE rfl (WO.nil (qs (W.seq (W.region ?_))))
 iterate 2 refine pE rfl ?_
 refine WO.nil (qs (au rfl (fun h67 => ?_) (fun h67 => ?_)))
 ·
  refine W.seq (W.region ?_)
  iterate 2 refine pE rfl ?_
  refine WO.nil (qs (W.ret (aB (QF.az trivial rfl ?_))))
  simp only [norm, aL]; grind [cK]
 refine W.skip (qs (W.seq (W.block (W.seq ?_))))
 apply aI; (case hb => rfl)
 ·
  refine pE rfl (pE rfl (pE rfl ?_))
  apply an; (case hj => rfl); (case hl => rfl)
  ·
   refine ab rfl rfl (pE rfl (ab rfl rfl (pE rfl (ab rfl rfl (pE rfl (ab rfl rfl (pE rfl (ab rfl rfl (pE rfl (ab rfl rfl (pE rfl ?_)))))))))))
   apply an; (case hj => rfl); (case hl => rfl)
   ·
    iterate 5 refine ae rfl rfl rfl rfl ?_
    refine ab rfl rfl ?_
    iterate 3 refine pE rfl ?_
    refine WO.nil (ay rfl rfl rfl)
   refine ab rfl rfl (pE rfl (ab rfl rfl (pE rfl (ab rfl rfl (pE rfl (ab rfl rfl (pE rfl (ab rfl rfl (pE rfl (ab rfl rfl ?_))))))))))
   iterate 3 refine pE rfl ?_
   refine WO.nil (ay rfl rfl rfl)
  iterate 6 refine ae rfl rfl rfl rfl ?_
  iterate 5 refine bh rfl rfl rfl ?_
  refine ae rfl rfl rfl rfl ?_
  iterate 2 refine pE rfl ?_
  refine WO.nil (ay rfl rfl rfl)
 refine qs (au rfl (fun h69 => ?_) (fun h69 => ?_))
 ·
  refine W.seq (W.region (pE rfl (WO.nil (qs (W.ret (aT (aB (QF.az trivial rfl ?_))))))))
  simp only [norm, aL]; grind [cK]
 refine W.seq ?_
 apply aI; (case hb => rfl)
 ·
  refine pE rfl (pE rfl ?_)
  iterate 2 refine pE rfl ?_
  apply an; (case hj => rfl); (case hl => rfl)
  ·
   refine ab rfl rfl (pE rfl (ab rfl rfl (pE rfl (ab rfl rfl ?_))))
   iterate 3 refine pE rfl ?_
   apply an; (case hj => rfl); (case hl => rfl)
   ·
    refine ab rfl rfl (pE rfl (ab rfl rfl (pE rfl (ab rfl rfl ?_))))
    iterate 3 refine pE rfl ?_
    refine WO.nil (ay rfl rfl rfl)
   iterate 3 refine ae rfl rfl rfl rfl ?_
   iterate 2 refine pE rfl ?_
   refine WO.nil (ay rfl rfl rfl)
  iterate 3 refine ae rfl rfl rfl rfl ?_
  iterate 2 refine pE rfl ?_
  iterate 3 refine ae rfl rfl rfl rfl ?_
  iterate 2 refine pE rfl ?_
  refine WO.nil (ay rfl rfl rfl)
 refine qs (au rfl (fun h86 => ?_) (fun h86 => ?_))
 ·
  refine W.seq (W.region (pE rfl (WO.nil (qs (W.ret (aT (aB (QF.az trivial rfl ?_))))))))
  simp only [norm, aL]; grind [cK]
 refine W.seq ?_
 apply aI; (case hb => rfl)
 ·
  refine pE rfl (pE rfl (pE rfl ?_))
  apply an; (case hj => rfl); (case hl => rfl)
  ·
   refine ab rfl rfl (pE rfl (ab rfl rfl (pE rfl (ab rfl rfl (pE rfl (ab rfl rfl (pE rfl (ab rfl rfl (pE rfl (ab rfl rfl (pE rfl ?_)))))))))))
   apply an; (case hj => rfl); (case hl => rfl)
   ·
    iterate 5 refine ae rfl rfl rfl rfl ?_
    refine ab rfl rfl ?_
    iterate 3 refine pE rfl ?_
    refine ab rfl rfl (pE rfl (ab rfl rfl (pE rfl (ab rfl rfl (pE rfl (ab rfl rfl (pE rfl ?_)))))))
    apply an; (case hj => rfl); (case hl => rfl)
    ·
     iterate 3 refine ae rfl rfl rfl rfl ?_
     refine ab rfl rfl ?_
     iterate 3 refine pE rfl ?_
     refine WO.nil (ay rfl rfl rfl)
    refine ab rfl rfl (pE rfl (ab rfl rfl (pE rfl (ab rfl rfl (pE rfl (ab rfl rfl ?_))))))
    iterate 3 refine pE rfl ?_
    refine WO.nil (ay rfl rfl rfl)
   refine ab rfl rfl (pE rfl (ab rfl rfl (pE rfl (ab rfl rfl (pE rfl (ab rfl rfl (pE rfl (ab rfl rfl (pE rfl (ab rfl rfl ?_))))))))))
   iterate 3 refine pE rfl ?_
   apply an; (case hj => rfl); (case hl => rfl)
   ·
    refine ab rfl rfl (pE rfl (ab rfl rfl (pE rfl (ab rfl rfl (pE rfl (ab rfl rfl (pE rfl ?_)))))))
    apply an; (case hj => rfl); (case hl => rfl)
    ·
     iterate 3 refine ae rfl rfl rfl rfl ?_
     refine ab rfl rfl ?_
     iterate 3 refine pE rfl ?_
     refine WO.nil (ay rfl rfl rfl)
    refine ab rfl rfl (pE rfl (ab rfl rfl (pE rfl (ab rfl rfl (pE rfl (ab rfl rfl ?_))))))
    iterate 3 refine pE rfl ?_
    refine WO.nil (ay rfl rfl rfl)
   iterate 4 refine ae rfl rfl rfl rfl ?_
   iterate 3 refine bh rfl rfl rfl ?_
   refine ae rfl rfl rfl rfl ?_
   iterate 2 refine pE rfl ?_
   refine WO.nil (ay rfl rfl rfl)
  iterate 6 refine ae rfl rfl rfl rfl ?_
  iterate 5 refine bh rfl rfl rfl ?_
  refine ae rfl rfl rfl rfl ?_
  iterate 2 refine pE rfl ?_
  iterate 4 refine ae rfl rfl rfl rfl ?_
  iterate 3 refine bh rfl rfl rfl ?_
  refine ae rfl rfl rfl rfl ?_
  iterate 2 refine pE rfl ?_
  refine WO.nil (ay rfl rfl rfl)
 refine qs (au rfl (fun h100 => ?_) (fun h100 => ?_))
 ·
  refine W.seq (W.region (pE rfl (WO.nil (qs (W.ret (aT (aB (QF.az trivial rfl ?_))))))))
  simp only [norm, aL]; grind [cK]
 refine W.skip (bC (qs (W.seq (W.region (pE rfl (WO.nil (qs (W.ret (QF.az trivial rfl ?_)))))))))
 simp only [norm, aL]; grind [cK]
theorem um (e : Ev) : ax Tryz.prog 78 [.ag e.c] (.d (.v (.int .i64 (cK e)))) 0 := by
 rw [← uF]
 refine ax.aV (n := 80) (ts := [2]) Tryz.func78 (by kernel_rfl) rfl Tryz.ntmps78 Tryz.results78 rfl rfl fun C hC hG => ?_
 refine W.seq (W.region (cg rfl rfl rfl (pE rfl (WO.nil (qs ?_)))))
 iterate 2 refine W.seq ?_
 apply aI; (case hb => rfl)
 ·
  refine pE rfl (pE rfl ?_)
  iterate 2 refine pE rfl ?_
  apply an; (case hj => rfl); (case hl => rfl)
  ·
   iterate 3 refine ae rfl rfl rfl rfl ?_
   refine pE rfl (WO.nil (ay rfl rfl rfl))
  refine ab rfl rfl (pE rfl (ab rfl rfl (pE rfl (ab rfl rfl ?_))))
  iterate 2 refine pE rfl ?_
  refine WO.nil (ay rfl rfl rfl)
 refine qs (au rfl (fun h15 => ?_) (fun h15 => ?_))
 ·
  refine W.seq (W.region (pE rfl (WO.nil (qs (W.ret (aB (QF.az trivial rfl ?_)))))))
  simp only [norm, aL]; grind [dY]
 refine W.skip (qs ?_)
 iterate 2 refine W.seq ?_
 apply aI; (case hb => rfl)
 ·
  refine pE rfl (pE rfl ?_)
  iterate 2 refine pE rfl ?_
  apply an; (case hj => rfl); (case hl => rfl)
  ·
   iterate 3 refine ae rfl rfl rfl rfl ?_
   refine pE rfl (WO.nil (ay rfl rfl rfl))
  refine ab rfl rfl (pE rfl (ab rfl rfl (pE rfl (ab rfl rfl ?_))))
  iterate 2 refine pE rfl ?_
  refine WO.nil (ay rfl rfl rfl)
 refine qs (au rfl (fun h23 => ?_) (fun h23 => ?_))
 ·
  refine W.seq (W.region (pE rfl (WO.nil (qs (W.ret (aB (QF.az trivial rfl ?_)))))))
  simp only [norm, aL]; grind [dY]
 refine W.skip (qs (W.seq (W.region (pE rfl (pE rfl (pu (aw rfl rfl rfl (vN ..) rfl) rfl ?_))))))
 iterate 9 refine pE rfl ?_
 refine WO.nil (qs ?_)
 iterate 2 refine W.seq ?_
 apply aI; (case hb => rfl)
 ·
  iterate 3 refine pE rfl ?_
  apply an; (case hj => rfl); (case hl => rfl)
  ·
   refine ab rfl rfl (pE rfl (ab rfl rfl (pE rfl (ab rfl rfl ?_))))
   iterate 3 refine pE rfl ?_
   apply an; (case hj => rfl); (case hl => rfl)
   ·
    iterate 3 refine ae rfl rfl rfl rfl ?_
    iterate 3 refine bh rfl rfl rfl ?_
    refine ae rfl rfl rfl rfl ?_
    iterate 2 refine pE rfl ?_
    iterate 3 refine ae rfl rfl rfl rfl ?_
    iterate 3 refine bh rfl rfl rfl ?_
    refine ae rfl rfl rfl rfl ?_
    iterate 2 refine pE rfl ?_
    iterate 3 refine ae rfl rfl rfl rfl ?_
    iterate 4 refine bh rfl rfl rfl ?_
    refine ae rfl rfl rfl rfl (pE rfl (WO.nil (ay rfl rfl rfl)))
   refine ab rfl rfl (pE rfl (ab rfl rfl (pE rfl (ab rfl rfl (pE rfl ?_)))))
   apply an; (case hj => rfl); (case hl => rfl)
   ·
    refine ab rfl rfl (pE rfl (ab rfl rfl (pE rfl (ab rfl rfl (pE rfl (ab rfl rfl ?_))))))
    iterate 3 refine pE rfl ?_
    apply an; (case hj => rfl); (case hl => rfl)
    ·
     iterate 3 refine ae rfl rfl rfl rfl ?_
     iterate 3 refine bh rfl rfl rfl ?_
     refine ae rfl rfl rfl rfl ?_
     iterate 2 refine pE rfl ?_
     iterate 3 refine ae rfl rfl rfl rfl ?_
     iterate 4 refine bh rfl rfl rfl ?_
     refine ae rfl rfl rfl rfl (pE rfl (WO.nil (ay rfl rfl rfl)))
    refine ab rfl rfl (pE rfl (ab rfl rfl (pE rfl (ab rfl rfl (pE rfl ?_)))))
    apply an; (case hj => rfl); (case hl => rfl)
    ·
     refine ab rfl rfl (pE rfl (ab rfl rfl (pE rfl (ab rfl rfl (pE rfl (ab rfl rfl ?_))))))
     iterate 3 refine pE rfl ?_
     apply an; (case hj => rfl); (case hl => rfl)
     ·
      iterate 3 refine ae rfl rfl rfl rfl ?_
      iterate 4 refine bh rfl rfl rfl ?_
      refine ae rfl rfl rfl rfl (pE rfl (WO.nil (ay rfl rfl rfl)))
     refine ab rfl rfl (pE rfl (ab rfl rfl (pE rfl (ab rfl rfl (pE rfl ?_)))))
     apply an; (case hj => rfl); (case hl => rfl)
     ·
      refine ab rfl rfl (pE rfl (ab rfl rfl (pE rfl (ab rfl rfl (pE rfl (ab rfl rfl (pE rfl (ab rfl rfl ?_))))))))
      iterate 2 refine pE rfl ?_
      refine WO.nil (ay rfl rfl rfl)
     iterate 4 refine ae rfl rfl rfl rfl ?_
     refine ab rfl rfl ?_
     iterate 2 refine pE rfl ?_
     refine WO.nil (ay rfl rfl rfl)
    iterate 3 refine ae rfl rfl rfl rfl ?_
    refine ab rfl rfl ?_
    iterate 3 refine pE rfl ?_
    refine ab rfl rfl (pE rfl (ab rfl rfl (pE rfl (ab rfl rfl (pE rfl ?_)))))
    apply an; (case hj => rfl); (case hl => rfl)
    ·
     refine ab rfl rfl (pE rfl (ab rfl rfl (pE rfl (ab rfl rfl (pE rfl (ab rfl rfl (pE rfl (ab rfl rfl ?_))))))))
     iterate 2 refine pE rfl ?_
     refine WO.nil (ay rfl rfl rfl)
    iterate 4 refine ae rfl rfl rfl rfl ?_
    refine ab rfl rfl ?_
    iterate 2 refine pE rfl ?_
    refine WO.nil (ay rfl rfl rfl)
   iterate 3 refine ae rfl rfl rfl rfl ?_
   refine ab rfl rfl ?_
   iterate 3 refine pE rfl ?_
   refine ab rfl rfl (pE rfl (ab rfl rfl (pE rfl (ab rfl rfl (pE rfl ?_)))))
   apply an; (case hj => rfl); (case hl => rfl)
   ·
    refine ab rfl rfl (pE rfl (ab rfl rfl (pE rfl (ab rfl rfl (pE rfl (ab rfl rfl ?_))))))
    iterate 3 refine pE rfl ?_
    apply an; (case hj => rfl); (case hl => rfl)
    ·
     iterate 3 refine ae rfl rfl rfl rfl ?_
     iterate 4 refine bh rfl rfl rfl ?_
     refine ae rfl rfl rfl rfl (pE rfl (WO.nil (ay rfl rfl rfl)))
    refine ab rfl rfl (pE rfl (ab rfl rfl (pE rfl (ab rfl rfl (pE rfl ?_)))))
    apply an; (case hj => rfl); (case hl => rfl)
    ·
     refine ab rfl rfl (pE rfl (ab rfl rfl (pE rfl (ab rfl rfl (pE rfl (ab rfl rfl (pE rfl (ab rfl rfl ?_))))))))
     iterate 2 refine pE rfl ?_
     refine WO.nil (ay rfl rfl rfl)
    iterate 4 refine ae rfl rfl rfl rfl ?_
    refine ab rfl rfl ?_
    iterate 2 refine pE rfl ?_
    refine WO.nil (ay rfl rfl rfl)
   iterate 3 refine ae rfl rfl rfl rfl ?_
   refine ab rfl rfl ?_
   iterate 3 refine pE rfl ?_
   refine ab rfl rfl (pE rfl (ab rfl rfl (pE rfl (ab rfl rfl (pE rfl ?_)))))
   apply an; (case hj => rfl); (case hl => rfl)
   ·
    refine ab rfl rfl (pE rfl (ab rfl rfl (pE rfl (ab rfl rfl (pE rfl (ab rfl rfl (pE rfl (ab rfl rfl ?_))))))))
    iterate 2 refine pE rfl ?_
    refine WO.nil (ay rfl rfl rfl)
   iterate 4 refine ae rfl rfl rfl rfl ?_
   refine ab rfl rfl ?_
   iterate 2 refine pE rfl ?_
   refine WO.nil (ay rfl rfl rfl)
  iterate 3 refine ae rfl rfl rfl rfl ?_
  iterate 2 refine pE rfl ?_
  refine ab rfl rfl (pE rfl (ab rfl rfl (pE rfl (ab rfl rfl (pE rfl ?_)))))
  apply an; (case hj => rfl); (case hl => rfl)
  ·
   refine ab rfl rfl (pE rfl (ab rfl rfl (pE rfl (ab rfl rfl (pE rfl (ab rfl rfl ?_))))))
   iterate 3 refine pE rfl ?_
   apply an; (case hj => rfl); (case hl => rfl)
   ·
    iterate 3 refine ae rfl rfl rfl rfl ?_
    iterate 3 refine bh rfl rfl rfl ?_
    refine ae rfl rfl rfl rfl ?_
    iterate 2 refine pE rfl ?_
    iterate 3 refine ae rfl rfl rfl rfl ?_
    iterate 4 refine bh rfl rfl rfl ?_
    refine ae rfl rfl rfl rfl (pE rfl (WO.nil (ay rfl rfl rfl)))
   refine ab rfl rfl (pE rfl (ab rfl rfl (pE rfl (ab rfl rfl (pE rfl ?_)))))
   apply an; (case hj => rfl); (case hl => rfl)
   ·
    refine ab rfl rfl (pE rfl (ab rfl rfl (pE rfl (ab rfl rfl (pE rfl (ab rfl rfl ?_))))))
    iterate 3 refine pE rfl ?_
    apply an; (case hj => rfl); (case hl => rfl)
    ·
     iterate 3 refine ae rfl rfl rfl rfl ?_
     iterate 4 refine bh rfl rfl rfl ?_
     refine ae rfl rfl rfl rfl (pE rfl (WO.nil (ay rfl rfl rfl)))
    refine ab rfl rfl (pE rfl (ab rfl rfl (pE rfl (ab rfl rfl (pE rfl ?_)))))
    apply an; (case hj => rfl); (case hl => rfl)
    ·
     refine ab rfl rfl (pE rfl (ab rfl rfl (pE rfl (ab rfl rfl (pE rfl (ab rfl rfl (pE rfl (ab rfl rfl ?_))))))))
     iterate 2 refine pE rfl ?_
     refine WO.nil (ay rfl rfl rfl)
    iterate 4 refine ae rfl rfl rfl rfl ?_
    refine ab rfl rfl ?_
    iterate 2 refine pE rfl ?_
    refine WO.nil (ay rfl rfl rfl)
   iterate 3 refine ae rfl rfl rfl rfl ?_
   refine ab rfl rfl ?_
   iterate 3 refine pE rfl ?_
   refine ab rfl rfl (pE rfl (ab rfl rfl (pE rfl (ab rfl rfl (pE rfl ?_)))))
   apply an; (case hj => rfl); (case hl => rfl)
   ·
    refine ab rfl rfl (pE rfl (ab rfl rfl (pE rfl (ab rfl rfl (pE rfl (ab rfl rfl (pE rfl (ab rfl rfl ?_))))))))
    iterate 2 refine pE rfl ?_
    refine WO.nil (ay rfl rfl rfl)
   iterate 4 refine ae rfl rfl rfl rfl ?_
   refine ab rfl rfl ?_
   iterate 2 refine pE rfl ?_
   refine WO.nil (ay rfl rfl rfl)
  iterate 3 refine ae rfl rfl rfl rfl ?_
  refine ab rfl rfl ?_
  iterate 3 refine pE rfl ?_
  refine ab rfl rfl (pE rfl (ab rfl rfl (pE rfl (ab rfl rfl (pE rfl ?_)))))
  apply an; (case hj => rfl); (case hl => rfl)
  ·
   refine ab rfl rfl (pE rfl (ab rfl rfl (pE rfl (ab rfl rfl (pE rfl (ab rfl rfl ?_))))))
   iterate 3 refine pE rfl ?_
   apply an; (case hj => rfl); (case hl => rfl)
   ·
    iterate 3 refine ae rfl rfl rfl rfl ?_
    iterate 4 refine bh rfl rfl rfl ?_
    refine ae rfl rfl rfl rfl (pE rfl (WO.nil (ay rfl rfl rfl)))
   refine ab rfl rfl (pE rfl (ab rfl rfl (pE rfl (ab rfl rfl (pE rfl ?_)))))
   apply an; (case hj => rfl); (case hl => rfl)
   ·
    refine ab rfl rfl (pE rfl (ab rfl rfl (pE rfl (ab rfl rfl (pE rfl (ab rfl rfl (pE rfl (ab rfl rfl ?_))))))))
    iterate 2 refine pE rfl ?_
    refine WO.nil (ay rfl rfl rfl)
   iterate 4 refine ae rfl rfl rfl rfl ?_
   refine ab rfl rfl ?_
   iterate 2 refine pE rfl ?_
   refine WO.nil (ay rfl rfl rfl)
  iterate 3 refine ae rfl rfl rfl rfl ?_
  refine ab rfl rfl ?_
  iterate 3 refine pE rfl ?_
  refine ab rfl rfl (pE rfl (ab rfl rfl (pE rfl (ab rfl rfl (pE rfl ?_)))))
  apply an; (case hj => rfl); (case hl => rfl)
  ·
   refine ab rfl rfl (pE rfl (ab rfl rfl (pE rfl (ab rfl rfl (pE rfl (ab rfl rfl (pE rfl (ab rfl rfl ?_))))))))
   iterate 2 refine pE rfl ?_
   refine WO.nil (ay rfl rfl rfl)
  iterate 4 refine ae rfl rfl rfl rfl ?_
  refine ab rfl rfl ?_
  iterate 2 refine pE rfl ?_
  refine WO.nil (ay rfl rfl rfl)
 refine qs (au rfl (fun h66 => ?_) (fun h66 => ?_))
 ·
  refine W.seq (W.region (pE rfl (WO.nil (qs (W.ret (aB (QF.az trivial rfl ?_)))))))
  simp only [norm, aL]; grind [dY]
 refine W.skip (qs (W.seq (W.region (pE rfl (WO.nil (qs ?_))))))
 iterate 2 refine W.seq ?_
 refine W.region (pE rfl (WO.nil (qs (au rfl (fun h67 => ?_) (fun h67 => ?_)))))
 ·
  refine W.region (pE rfl (pE rfl (pu (aw rfl rfl rfl (l7 ..) rfl) rfl ?_)))
  refine pE rfl (WO.nil (qs ?_))
  iterate 2 refine W.seq ?_
  refine W.region (pE rfl (WO.nil (qs (au rfl (fun h71 => ?_) (fun h71 => ?_)))))
  ·
   refine W.region (pE rfl (pE rfl (pu (aw rfl rfl rfl (mW ..) rfl) rfl ?_)))
   refine pE rfl (WO.nil (qs ?_))
   iterate 2 refine W.seq ?_
   refine W.region ?_
   iterate 2 refine pE rfl ?_
   refine WO.nil (qs (au rfl (fun h76 => ?_) (fun h76 => ?_)))
   ·
    refine W.seq (W.region ?_)
    iterate 2 refine pE rfl ?_
    refine WO.nil (qs (W.ret (aB (QF.az trivial rfl ?_))))
    simp only [norm, aL]; grind [dY]
   refine W.skip (qs (W.seq (W.region (pE rfl (pu (aw rfl rfl rfl (gx ..) rfl) rfl ?_)))))
   refine pE rfl (WO.nil (qs (W.ret (QF.az trivial rfl ?_))))
   simp only [norm, aL]; grind [dY]
  refine W.skip (qs ?_)
  iterate 2 refine W.seq ?_
  refine W.region ?_
  iterate 2 refine pE rfl ?_
  refine WO.nil (qs (au rfl (fun h76 => ?_) (fun h76 => ?_)))
  ·
   refine W.seq (W.region ?_)
   iterate 2 refine pE rfl ?_
   refine WO.nil (qs (W.ret (aB (QF.az trivial rfl ?_))))
   simp only [norm, aL]; grind [dY]
  refine W.skip (qs (W.seq (W.region (pE rfl (pu (aw rfl rfl rfl (gx ..) rfl) rfl ?_)))))
  refine pE rfl (WO.nil (qs (W.ret (QF.az trivial rfl ?_))))
  simp only [norm, aL]; grind [dY]
 refine W.skip (qs ?_)
 iterate 2 refine W.seq ?_
 refine W.region (pE rfl (WO.nil (qs (au rfl (fun h71 => ?_) (fun h71 => ?_)))))
 ·
  refine W.region (pE rfl (pE rfl (pu (aw rfl rfl rfl (mW ..) rfl) rfl ?_)))
  refine pE rfl (WO.nil (qs ?_))
  iterate 2 refine W.seq ?_
  refine W.region ?_
  iterate 2 refine pE rfl ?_
  refine WO.nil (qs (au rfl (fun h76 => ?_) (fun h76 => ?_)))
  ·
   refine W.seq (W.region ?_)
   iterate 2 refine pE rfl ?_
   refine WO.nil (qs (W.ret (aB (QF.az trivial rfl ?_))))
   simp only [norm, aL]; grind [dY]
  refine W.skip (qs (W.seq (W.region (pE rfl (pu (aw rfl rfl rfl (gx ..) rfl) rfl ?_)))))
  refine pE rfl (WO.nil (qs (W.ret (QF.az trivial rfl ?_))))
  simp only [norm, aL]; grind [dY]
 refine W.skip (qs ?_)
 iterate 2 refine W.seq ?_
 refine W.region ?_
 iterate 2 refine pE rfl ?_
 refine WO.nil (qs (au rfl (fun h76 => ?_) (fun h76 => ?_)))
 ·
  refine W.seq (W.region ?_)
  iterate 2 refine pE rfl ?_
  refine WO.nil (qs (W.ret (aB (QF.az trivial rfl ?_))))
  simp only [norm, aL]; grind [dY]
 refine W.skip (qs (W.seq (W.region (pE rfl (pu (aw rfl rfl rfl (gx ..) rfl) rfl ?_)))))
 refine pE rfl (WO.nil (qs (W.ret (QF.az trivial rfl ?_))))
 simp only [norm, aL]; grind [dY]
end Go.Proofs.YtoojafbicmdclaaGreatDoor
namespace Go.Proofs.YtoojafbicmdclaaGreatDoor
open Go.Ab Go.Tb
set_option maxRecDepth 10000
attribute [local irreducible] W WO Pu QS QB QL QF QV bU CH QE
theorem tT (s : ByteArray) (v : Int) (h : Lib.atoiAll s.data.toList = .ok v) : du s = (if (if br v = s then true else false) && fb v then (v, true) else (0, false)) := by
 unfold du
 rw [h]
 by_cases h1 : br v = s <;> by_cases h2 : fb v = true <;> simp [h1, h2]
theorem ux (l : List UInt8) : -9223372036854775808 ≤ Lib.atoiSat l ∧ Lib.atoiSat l ≤ 9223372036854775807 := by
 unfold Lib.atoiSat
 split <;> decide
theorem wrap_u8 {x : Int} (h : 0 ≤ x ∧ x ≤ 255) : IntKind.u8.wrap x = x := IntWalk.u8_in x h
theorem uj (s : ByteArray) (hs : s.size ≤ 281474976710656) : ax Tryz.prog 134 [.d (.v (.string s))] (.tup [.d (.v (.int .i64 (du s).1)), .d (.v (.bool (du s).2))]) 0 := by
 have ha := w4 s hs
 unfold si at ha
 cases h : Lib.atoiAll s.data.toList with
 | ok v =>
  rw [h] at ha
  have hb := Lib.atoiAll_bounds h
  have hp := tT s v h
  refine ax.aV (n := 23) (ts := [2, 3]) Tryz.func134 (by kernel_rfl) rfl Tryz.ntmps134 Tryz.results134 rfl rfl fun C hC hG => ?_
  refine W.seq (W.region ?_)
  iterate 2 refine pE rfl ?_
  refine WO.nil (qs (W.seq (W.region (pE rfl (pu (aw rfl rfl rfl ha rfl) rfl ?_)))))
  iterate 5 refine pE rfl ?_
  refine WO.nil (qs (W.seq (W.region ?_)))
  iterate 2 refine pE rfl ?_
  refine pu (yY rfl (by kernel_rfl)) rfl ?_
  refine pE rfl (kN rfl rfl (fun _ => ?_) (fun _ => ?_))
  ·
   refine ab rfl rfl (pE rfl (ab rfl rfl (pu (aw rfl rfl rfl (jr v hb.1 hb.2) rfl) rfl ?_)))
   refine ab rfl rfl (pE rfl (ab rfl rfl ?_))
   iterate 2 refine pE rfl ?_
   refine pu (aw rfl rfl rfl (fD ..) rfl) rfl ?_
   iterate 4 refine pE rfl ?_
   refine WO.nil (qs (W.ret (QF.az trivial rfl ?_)))
   (rw [hp]; simp only [norm, ek, aL]; by_cases h1 : br v = s <;> by_cases h2 : fb v = true <;> simp [h1, h2])
  iterate 4 refine ae rfl rfl rfl rfl ?_
  refine pE rfl (pu (aw rfl rfl rfl (fD ..) rfl) rfl ?_)
  iterate 4 refine pE rfl ?_
  refine WO.nil (qs (W.ret (QF.az trivial rfl ?_)))
  first | contradiction | (rw [hp]; simp only [norm, ek, aL]; by_cases h1 : br v = s <;> by_cases h2 : fb v = true <;> simp [h1, h2])
 | range =>
  rw [h] at ha
  have hp : du s = (0, false) := by unfold du; rw [h]
  refine ax.aV (n := 23) (ts := [2, 3]) Tryz.func134 (by kernel_rfl) rfl Tryz.ntmps134 Tryz.results134 rfl rfl fun C hC hG => ?_
  refine W.seq (W.region ?_)
  iterate 2 refine pE rfl ?_
  refine WO.nil (qs (W.seq (W.region (pE rfl (pu (aw rfl rfl rfl ha rfl) rfl ?_)))))
  iterate 5 refine pE rfl ?_
  refine WO.nil (qs (W.seq (W.region ?_)))
  iterate 2 refine pE rfl ?_
  refine pu (yd rfl (by kernel_rfl)) rfl ?_
  refine pE rfl (kN rfl rfl (fun _ => ?_) (fun _ => ?_))
  ·
   refine ab rfl rfl (pE rfl (ab rfl rfl (pu (aw rfl rfl rfl (jr _ (ux _).1 (ux _).2) rfl) rfl ?_)))
   refine ab rfl rfl (pE rfl (ab rfl rfl ?_))
   iterate 2 refine pE rfl ?_
   refine pu (aw rfl rfl rfl (fD ..) rfl) rfl ?_
   iterate 4 refine pE rfl ?_
   refine WO.nil (qs (W.ret (QF.az trivial rfl ?_)))
   contradiction
  iterate 4 refine ae rfl rfl rfl rfl ?_
  refine pE rfl (pu (aw rfl rfl rfl (fD ..) rfl) rfl ?_)
  iterate 4 refine pE rfl ?_
  refine WO.nil (qs (W.ret (QF.az trivial rfl ?_)))
  first | contradiction | (rw [hp]; rfl)
 | _ =>
  rw [h] at ha
  have hp : du s = (0, false) := by unfold du; rw [h]
  refine ax.aV (n := 23) (ts := [2, 3]) Tryz.func134 (by kernel_rfl) rfl Tryz.ntmps134 Tryz.results134 rfl rfl fun C hC hG => ?_
  refine W.seq (W.region ?_)
  iterate 2 refine pE rfl ?_
  refine WO.nil (qs (W.seq (W.region (pE rfl (pu (aw rfl rfl rfl ha rfl) rfl ?_)))))
  iterate 5 refine pE rfl ?_
  refine WO.nil (qs (W.seq (W.region ?_)))
  iterate 2 refine pE rfl ?_
  refine pu (yd rfl (by kernel_rfl)) rfl ?_
  refine pE rfl (kN rfl rfl (fun _ => ?_) (fun _ => ?_))
  ·
   refine ab rfl rfl (pE rfl (ab rfl rfl (pu (aw rfl rfl rfl (jr 0 (by decide) (by decide)) rfl) rfl ?_)))
   refine ab rfl rfl (pE rfl (ab rfl rfl ?_))
   iterate 2 refine pE rfl ?_
   refine pu (aw rfl rfl rfl (fD ..) rfl) rfl ?_
   iterate 4 refine pE rfl ?_
   refine WO.nil (qs (W.ret (QF.az trivial rfl ?_)))
   contradiction
  iterate 4 refine ae rfl rfl rfl rfl ?_
  refine pE rfl (pu (aw rfl rfl rfl (fD ..) rfl) rfl ?_)
  iterate 4 refine pE rfl ?_
  refine WO.nil (qs (W.ret (QF.az trivial rfl ?_)))
  (rw [hp]; rfl)
end Go.Proofs.YtoojafbicmdclaaGreatDoor
namespace Go.Proofs.YtoojafbicmdclaaGreatDoor
open Go.Ab Go.Tb
set_option maxRecDepth 10000
attribute [local irreducible] W WO Pu QS QB QL QF QV bU CH QE
open Go.RowKit
attribute [local go_sem] Oper.semAt_some
set_option maxRecDepth 100000 in
set_option maxHeartbeats 2000000 in
theorem vA : rr Tryz.prog 88 := by
 intro l W b0 o0 b1 o1 a len cap R h0 h1 hpos hle hcap hmax hY
 refine (callsIn_wide (n := 0)).1 ?_
 refine callsIn_of_wp (F := Fence.wide) (n := 0) Tryz.func88 rfl trivial ?_ rfl
 simp only [Tryz.ntmps88, List.size_toArray, List.length_cons, List.length_nil, Nat.reduceAdd, Nat.reduceSub, Array.replicate_succ, Array.replicate_zero, List.push_toArray, List.append_toArray, List.nil_append, List.cons_append]
 gi_wp2
 gi_loopw [4] (fun i wr => (i = .int .i64 0 ∧ wr = W) ∨ (i = .int .i64 1000 ∧ (∃ a' cap', wr.cell? ⟨b0, o0, none⟩ = some (.slice a' len cap')) ∧ wr.cell? ⟨b1, o1, none⟩ = some (.int .i64 1000) ∧ R wr)) (fun i _ => 1000 - (intOf i).toNat)
 case atStart => exact .inl ⟨rfl, rfl⟩
 case round =>
  rcases hrel with ⟨rfl, rfl⟩ | ⟨rfl, ⟨a', cap', h2⟩, h3, hR⟩
  ·
   obtain ⟨fn, tmps, assign, body, hy, hR⟩ := hY
   have h0' : wr.cell? ⟨b0, o0, none⟩ = some (.slice (some a) len cap) := h0
   have h1' : wr.cell? ⟨b1, o1, none⟩ = some (.int .i64 1000) := h1
   gi_wp2
   gi_big_region
   rw [show min (1000 : Int) (len : Int) = (len : Int) from by omega]
   have h0d : wr.drew.cell? ⟨b0, o0, none⟩ = some (.slice (some a) len cap) := h0
   have h1d : wr.drew.cell? ⟨b1, o1, none⟩ = some (.int .i64 1000) := h1
   gi_wp2
   refine ⟨rfl, hR.mono ?_⟩
   rintro e W3 ⟨rfl, ⟨a', cap', h2⟩, h3, hR3⟩
   gi_wp2
   go_roundw
   case rel => exact .inr ⟨rfl, ⟨_, _, h2⟩, h3, hR3⟩
   case measure => simp [intOf]
  gi_wp2
  go_end0
  exact ⟨⟨_, rfl⟩, hR⟩
end Go.Proofs.YtoojafbicmdclaaGreatDoor
namespace Go.Proofs.YtoojafbicmdclaaGreatDoor
open Go.Ab Go.Tb
set_option maxRecDepth 10000
attribute [local irreducible] W WO Pu QS QB QL QF QV bU CH QE
theorem kK (s : ByteArray) (most : Int) (hs : s.size ≤ 281474976710656) : ax Tryz.prog 83 [.d (.v (.string s)), .d (.v (.int .i64 most))] (.tup [.d (.v (.int .i64 (aZ s most).1)), .d (.v (.bool (aZ s most).2))]) 0 := by
 refine ax.aV (n := 24) (ts := [4, 5]) Tryz.func83 (by kernel_rfl) rfl Tryz.ntmps83 Tryz.results83 rfl rfl fun C hC hG => ?_
 refine W.seq (W.region ?_)
 iterate 2 refine pE rfl ?_
 refine WO.nil (qs (W.seq (W.region (pE rfl (pu (aw rfl rfl rfl ((uj _ (by assumption))) rfl) rfl ?_)))))
 iterate 5 refine pE rfl ?_
 refine WO.nil (qs (W.seq (W.region ?_)))
 iterate 3 refine pE rfl ?_
 refine kN rfl rfl (fun _ => ?_) (fun _ => ?_)
 ·
  refine ab rfl rfl (pE rfl (ab rfl rfl ?_))
  iterate 3 refine pE rfl ?_
  refine kN rfl rfl (fun _ => ?_) (fun _ => ?_)
  ·
   refine ab rfl rfl (pE rfl (ab rfl rfl (pE rfl (ab rfl rfl ?_))))
   iterate 4 refine pE rfl ?_
   refine WO.nil (qs (W.ret (QF.az trivial rfl ?_)))
   simp_all [norm, ek, aL, aZ] <;> omega
  iterate 3 refine ae rfl rfl rfl rfl ?_
  iterate 3 refine pE rfl ?_
  refine WO.nil (qs (W.ret (QF.az trivial rfl ?_)))
  simp_all [norm, ek, aL, aZ] <;> omega
 iterate 2 refine ae rfl rfl rfl rfl ?_
 iterate 2 refine pE rfl ?_
 iterate 3 refine ae rfl rfl rfl rfl ?_
 iterate 3 refine pE rfl ?_
 refine WO.nil (qs (W.ret (QF.az trivial rfl ?_)))
 simp_all [norm, ek, aL, aZ] <;> omega
theorem tM (l : List Int) (s : Int) : ax Tryz.prog 135 [.d (.sl (l.map ic)), .d (.v (.int .i64 s))] (.d (.v (.int .i64 (idx (l.findIdx? fun x => decide (s = x)))))) 0 := by
 refine ax.aV (n := 19) (ts := [4]) Tryz.func135 (by kernel_rfl) rfl Tryz.ntmps135 Tryz.results135 rfl rfl fun C hC hG => ?_
 refine W.seq (W.region (pE rfl (WO.nil (qs ?_))))
 iterate 2 refine W.seq ?_
 refine W.region ?_
 iterate 3 refine pE rfl ?_
 refine WO.nil (qs (W.block (W.len (t := 0) rfl rfl (fun hlen => ?_))))
 try simp only [List.length_map, Ex.aJ] at hlen
 refine W.aW (ι := {x : Nat // match x with | k => k ≤ l.length ∧ ct (fun x => decide (s = x)) l k})
  (fun x => match x.1 with | k => [(8, .d (.v (.int .i64 ((k : Nat) : Int))))]) [(0, _), (1, _), (7, _)]
  (fun x => match x.1 with | k => []) [] [] 0 (fun x => match x.1 with | k => l.length - k)
  [] ⟨0, ?_⟩ rfl ?_ ⟨rfl, rfl, rfl, rfl, rfl, rfl, trivial⟩ ?_ trivial rfl ?_
 · exact ⟨Nat.zero_le _, ct.zero⟩
 · repeat' first | exact trivial | refine ⟨rfl, ?_⟩
 · repeat' exact trivial
 rintro ⟨k, hk, hI⟩
 show W _ _ _ _ _ ⟨[(8, .d (.v (.int .i64 ((k : Nat) : Int)))), (0, _), (1, _), (7, _)], [], [], 0⟩
 refine W.seq (W.region (pE rfl (WO.nil (qs (W.seq (ba (l := l) (k := k) rfl (by simp [Ex.aJ, aE]) hk (fun x hx hd hlt => ?_) (fun he hd => ?_)))))))
 ·
  refine W.skip (qs (W.seq (W.block (W.seq (W.region ?_)))))
  iterate 2 refine pE rfl ?_
  refine WO.nil (qs (W.seq (W.region ?_)))
  iterate 3 refine pE rfl ?_
  refine pu (indexAddr aa rfl rfl rfl rfl rfl rfl (Int.natCast_nonneg _) (aq (by assumption)) rfl) rfl ?_
  refine pE rfl (pE rfl (WO.nil (qs (au rfl (fun h16 => ?_) (fun h16 => ?_)))))
  ·
   refine W.seq (W.region ?_)
   iterate 2 refine pE rfl ?_
   refine WO.nil (qs (W.ret (aT (aB (dc (aT (aB (QF.az trivial rfl ?_))))))))
   simp only [norm, aL]; rw [hI.found hx h16]; rfl
  refine W.skip (bC (qs (W.region ?_)))
  iterate 2 refine pE rfl ?_
  refine WO.nil (W.bb [] ⟨k + 1, ?_⟩ ?_ rfl ?_ ⟨rfl, rfl, rfl, rfl, rfl, rfl, trivial⟩ ?_ trivial rfl)
  · exact ⟨hlt, hI.step hx h16⟩
  · dsimp only; omega
  · repeat' first | exact trivial | refine ⟨aG (by assumption) (by assumption), ?_⟩
  repeat' exact trivial
 refine W.exit (aP (aS (aM (qs (W.seq (W.region (pE rfl (WO.nil (qs (W.ret (QF.az trivial rfl ?_)))))))))))
 simp only [norm, aL]; rw [hI.end_ he]; rfl
theorem o9 (l : List Int) (s : Int) : ax Tryz.prog 84 [.d (.sl (l.map ic)), .d (.v (.int .i64 s))] (.d (.v (.bool (l.any fun x => decide (s = x))))) 0 := by
 refine ax.aV (n := 9) (ts := [4]) Tryz.func84 (by kernel_rfl) rfl Tryz.ntmps84 Tryz.results84 rfl rfl fun C hC hG => ?_
 refine W.seq (W.region (pE rfl (WO.nil (qs (W.seq (W.region ?_))))))
 iterate 2 refine pE rfl ?_
 refine pu (aw rfl rfl rfl (tM ..) rfl) rfl ?_
 iterate 2 refine pE rfl ?_
 refine WO.nil (qs (W.ret (QF.az trivial rfl ?_)))
 simp only [norm, aL]; rw [← mX]
end Go.Proofs.YtoojafbicmdclaaGreatDoor
namespace Go.Proofs.YtoojafbicmdclaaGreatDoor
open Go.Ab Go.Tb
set_option maxRecDepth 10000
attribute [local irreducible] W WO Pu QS QB QL QF QV bU CH QE
theorem qO (s : ByteArray) (hs : s.size ≤ 1000000) : ax Tryz.prog 27 [.d (.v (.string s))] (bc s).res 0 := by
 obtain ⟨wa, wb, kw, r, hws⟩ : ∃ wa wb kw r, 3 ≤ (aH s 32).length → aH s 32 = wa :: wb :: kw :: r := by
  by_cases q : 3 ≤ (aH s 32).length
  ·
   match hc : aH s 32, q with
   | a :: b :: k :: r, _ => exact ⟨a, b, k, r, fun _ => rfl⟩
  exact ⟨B #[], B #[], B #[], [], fun h => absurd h q⟩
 have hkw : 3 ≤ (aH s 32).length → (aH s 32)[2]? = some kw := fun h => by rw [hws h]; rfl
 have hcb : 0 ≤ cntF kw ∧ cntF kw ≤ 3 := by rcases ig kw with ⟨_, h⟩ | ⟨_, h⟩ | ⟨_, h⟩ | ⟨_, _, _, h⟩ <;> omega
 refine ax.aV (n := 105) (ts := [2, 3, 4, 5, 6]) Tryz.func27 (by kernel_rfl) rfl Tryz.ntmps27 Tryz.results27 rfl rfl fun C hC hG => ?_
 refine W.seq (W.region ?_)
 iterate 5 refine pE rfl ?_
 refine WO.nil (qs (W.seq (W.region (pE rfl (pu (aw rfl rfl rfl (pD s 32 hs) rfl) rfl ?_)))))
 refine pE rfl (WO.nil (qs (W.seq (W.region (mkMap rfl ?_)))))
 refine rT (kG (kf := sk) (vf := ci) (l := ([] : List (ByteArray × Int))) (a := b8) (y := 3) aa 20 rfl rfl rfl rfl rfl rfl rfl (kX (aa.eY rfl rfl)) rfl rfl (by simp) (es' := eE sk ci [(b8, 3)]) rfl rfl ?_)
 refine rT (kG (kf := sk) (vf := ci) (l := [(b8, 3)]) (a := fA) (y := 3) aa 20 rfl rfl rfl rfl rfl rfl rfl (kX (aa.eY rfl rfl)) rfl rfl (by simp) (es' := eE sk ci [(b8, 3), (fA, 3)]) rfl rfl ?_)
 refine rT (kG (kf := sk) (vf := ci) (l := [(b8, 3), (fA, 3)]) (a := ey) (y := 2) aa 20 rfl rfl rfl rfl rfl rfl rfl (kX (aa.eY rfl rfl)) rfl rfl (by decide) (es' := eE sk ci nD) rfl rfl ?_)
 iterate 2 refine pE rfl ?_
 refine WO.nil (qs ?_)
 iterate 2 refine W.seq ?_
 apply aI; (case hb => rfl)
 ·
  iterate 4 refine pE rfl ?_
  apply cI; (case hj => rfl); (case hl => rfl)
  ·
   intro g25
   iterate 6 refine ae rfl rfl rfl rfl ?_
   iterate 2 refine pE rfl ?_
   iterate 9 refine ae rfl rfl rfl rfl ?_
   refine pE rfl (WO.nil (ay rfl rfl rfl))
  intro g25
  refine ab rfl rfl (pE rfl (ab rfl rfl (pE rfl (ab rfl rfl (pu (indexAddr (l := sc kw) aa rfl rfl rfl rfl rfl rfl (by decide) (aq (hkw (by simp at g25; omega))) rfl) rfl ?_)))))
  refine ab rfl rfl (pE rfl (ab rfl rfl (pu (kU (kf := sk) (vf := ci) (l := nD) (a := kw) (z := 0) (r := ci (cntF kw)) aa rfl rfl rfl rfl rfl (kX (aa.eY rfl rfl)) rfl rfl rfl (fun _ _ => .v _ rfl) mR rfl) rfl ?_)))
  refine ab rfl rfl ?_
  iterate 3 refine pE rfl ?_
  apply cI; (case hj => rfl); (case hl => rfl)
  ·
   intro g33
   iterate 9 refine ae rfl rfl rfl rfl ?_
   refine pE rfl (WO.nil (ay rfl rfl rfl))
  intro g33
  refine ab rfl rfl (pE rfl (ab rfl rfl (pE rfl (ab rfl rfl (pE rfl (ab rfl rfl (pE rfl (ab rfl rfl (pu (indexAddr (l := sc kw) aa rfl rfl rfl rfl rfl rfl (by decide) (aq (hkw (by simp at g25; omega))) rfl) rfl ?_)))))))))
  refine ab rfl rfl (pE rfl (ab rfl rfl (pu (kU (kf := sk) (vf := ci) (l := nD) (a := kw) (z := 0) (r := ci (cntF kw)) aa rfl rfl rfl rfl rfl (kX (aa.eY rfl rfl)) rfl rfl rfl (fun _ _ => .v _ rfl) mR rfl) rfl ?_)))
  refine ab rfl rfl (pu (cf (ev aa rfl) (y := 3 + cntF kw) (wrap64 (by omega))) rfl ?_)
  refine ab rfl rfl ?_
  iterate 2 refine pE rfl ?_
  refine WO.nil (ay rfl rfl rfl)
 refine qs (au rfl (fun h43 => ?_) (fun h43 => ?_))
 ·
  have hbad : bc s = cQ := by
   unfold bc
   by_cases q : 3 ≤ (aH s 32).length
   ·
    rw [hws q] at h43 ⊢
    refine nZ ?_
    simp at h43
    omega
   exact ly (by omega)
  refine W.seq (W.region ?_)
  iterate 5 refine pE rfl ?_
  refine WO.nil (qs ?_)
  try refine ie (t := 5) rfl ?_
  refine W.ret (aB (QF.az trivial rfl ?_))
  rw [hbad]; rfl
 have hq : 3 ≤ (aH s 32).length ∧ cntF kw ≠ 0 ∧ ((aH s 32).length : Int) = 3 + cntF kw := by
  simp at h43
  omega
 have hw := hws hq.1
 have hrl : (r.length : Int) = cntF kw := by
  have := hq.2.2
  rw [hw] at this
  simp at this
  omega
 have hrn : r.length ≤ 3 := by omega
 have hsz : ∀ w ∈ aH s 32, w.size ≤ 281474976710656 := fun w hm => by have := lP hm; omega
 have hsa : wa.size ≤ 281474976710656 := hsz wa (by rw [hw]; simp)
 have hsb : wb.size ≤ 281474976710656 := hsz wb (by rw [hw]; simp)
 have hi0 : (aH s 32)[0]? = some wa := by rw [hw]; rfl
 have hi1 : (aH s 32)[1]? = some wb := by rw [hw]; rfl
 have hi2 : (aH s 32)[2]? = some kw := by rw [hw]; rfl
 have hsl : ((aH s 32).take ((aH s 32).length : Int).toNat).drop (Int.toNat 3) = r := by
  rw [hw]
  have e : ((r.length : Int) + 1 + 1 + 1).toNat = r.length + 3 := by omega
  simp [e]
 refine W.skip (qs (W.seq (W.region (pE rfl (pu (indexAddr (l := sc wa) aa rfl rfl rfl rfl rfl rfl (by decide) (aq hi0) rfl) rfl ?_)))))
 refine pE rfl (pu (aw rfl rfl rfl ((kK _ _ (by assumption))) rfl) rfl ?_)
 iterate 5 refine pE rfl ?_
 refine WO.nil (qs (W.seq (W.region (pE rfl (pu (indexAddr (l := sc wb) aa rfl rfl rfl rfl rfl rfl (by decide) (aq hi1) rfl) rfl ?_)))))
 refine pE rfl (pu (aw rfl rfl rfl ((kK _ _ (by assumption))) rfl) rfl ?_)
 iterate 5 refine pE rfl ?_
 refine WO.nil (qs (W.seq (W.region (pE rfl (WO.nil (qs ?_))))))
 iterate 2 refine W.seq ?_
 refine W.region (pE rfl (pu (kv (fn := sc) (l := aH s 32) (i := 3) (j := ((aH s 32).length : Int)) (r := r) aa rfl rfl rfl rfl rfl (fun _ => rfl) rfl rfl (by decide) (by omega) (by omega) hsl) rfl ?_))
 iterate 2 refine pE rfl ?_
 refine WO.nil (qs (W.block (eC (d := 13) rfl rfl ?_)))
 refine W.len (t := 59) rfl rfl (fun hlen => ?_)
 try simp only [List.length_map, Ex.aJ] at hlen
 refine W.aW (ι := {x : Nat × Bool × List Int // match x with | (k, b, m) => k ≤ r.length ∧ eF (r.drop k) b = eF r (aZ wa 1000000000000).2 ∧ m = (r.take k).map nv})
  (fun x => match x.1 with | (k, b, m) => [(10, .d (.v (.bool b))), (13, .own 0 (m.map ic)), (61, .d (.v (.int .i64 ((k : Nat) : Int))))]) [(7, _), (9, _), (11, _), (12, _), (59, _), (60, _)]
  (fun x => match x.1 with | (k, b, m) => []) [] [0] 1 (fun x => match x.1 with | (k, b, m) => r.length - k)
  [4] ⟨(0, (aZ wa 1000000000000).2, []), ?_⟩ rfl ?_ ⟨rfl, rfl, rfl, rfl, rfl, rfl, rfl, rfl, rfl, rfl, rfl, rfl, trivial⟩ ?_ trivial rfl ?_
 · exact ⟨Nat.zero_le _, rfl, rfl⟩
 · repeat' first | exact trivial | refine ⟨rfl, ?_⟩
 · repeat' exact trivial
 rintro ⟨⟨k, b, m⟩, hk, hI, hM⟩
 show W _ _ _ _ _ ⟨[(10, .d (.v (.bool b))), (13, .own 0 (m.map ic)), (61, .d (.v (.int .i64 ((k : Nat) : Int)))), (7, _), (9, _), (11, _), (12, _), (59, _), (60, _)], [], [0], 1⟩
 refine W.seq (W.region (pE rfl (WO.nil (qs (W.seq (ba (l := r) (k := k) rfl (by simp [Ex.aJ, aE]) hk (fun x hx hd hlt => ?_) (fun he hd => ?_)))))))
 ·
  have hsx : x.size ≤ 281474976710656 := hsz x (by rw [hw]; simp [List.mem_of_getElem? hx])
  refine W.skip (qs (W.seq (W.block (W.seq (W.region (pu (indexAddr (l := sc x) aa rfl rfl rfl rfl rfl rfl (Int.natCast_nonneg _) (aq hx) rfl) rfl ?_))))))
  refine pE rfl (pE rfl (WO.nil (qs (W.seq (W.region (pE rfl (pu (aw rfl rfl rfl ((kK _ _ (by assumption))) rfl) rfl ?_)))))))
  iterate 5 refine pE rfl ?_
  refine WO.nil (qs (W.seq ?_))
  apply aI; (case hb => rfl)
  ·
   iterate 2 refine pE rfl ?_
   apply cI; (case hj => rfl); (case hl => rfl)
   ·
    intro g71
    refine ab rfl rfl ?_
    iterate 3 refine pE rfl ?_
    refine WO.nil (ay rfl rfl rfl)
   intro g71
   refine ae rfl rfl rfl rfl ?_
   iterate 2 refine pE rfl ?_
   refine WO.nil (ay rfl rfl rfl)
  refine qs (W.region ?_)
  iterate 2 refine pE rfl ?_
  refine pu (bl aa rfl rfl rfl rfl rfl rfl rfl rfl rfl) rfl ?_
  refine cr (fn := ic) (a := nv x) aa rfl rfl rfl rfl rfl rfl rfl rfl rfl rfl (fun _ => rfl) (by show (m.length + 1) * 8 ≤ _; rw [hM]; simp; omega) ?_
  refine pE rfl (WO.nil (bC (qs (W.region ?_))))
  iterate 2 refine pE rfl ?_
  refine WO.nil (W.bb [1] ⟨(k + 1, (bif b then (aZ x 1000000000000000).2 else false), m ++ [nv x]), ?_⟩ ?_ rfl ?_ ⟨rfl, rfl, rfl, rfl, rfl, rfl, rfl, rfl, rfl, rfl, rfl, rfl, trivial⟩ ?_ trivial rfl)
  · exact ⟨hlt, by rw [← hI, hd, eF]; congr 1; cases b <;> rfl, by rw [hM, List.take_add_one, hx, List.map_append]; rfl⟩
  · dsimp only; omega
  · repeat' first | exact trivial | refine ⟨rfl, ?_⟩ | refine ⟨aG (by assumption) (by assumption), ?_⟩
  repeat' exact trivial
 have hN : eF r (aZ wa 1000000000000).2 = b := by
  rw [hd] at hI
  exact hI.symm
 have hm : m = r.map nv := by rw [hM, List.take_of_length_le (by have := congrArg List.length hd; simp at this; omega)]
 obtain ⟨y, hy⟩ : ∃ y, kw = b8 → m[1]? = some y := by
  by_cases q : kw = b8
  ·
   have h3 : r.length = 3 := by
    rcases ig kw with ⟨_, h⟩ | ⟨h, _⟩ | ⟨h, _⟩ | ⟨h, _⟩
    · omega
    · rw [q] at h; exact absurd h (by decide)
    · rw [q] at h; exact absurd h (by decide)
    exact absurd q h
   exact ⟨m[1]'(by rw [hm]; simp [h3]), fun _ => by simp⟩
  exact ⟨0, fun h => absurd h q⟩
 refine W.exit (aP (aS (aM (qs ?_))))
 iterate 2 refine W.seq ?_
 apply aI; (case hb => rfl)
 ·
  iterate 3 refine pE rfl ?_
  apply cI; (case hj => rfl); (case hl => rfl)
  ·
   intro g81
   iterate 2 refine ae rfl rfl rfl rfl ?_
   iterate 2 refine pE rfl ?_
   iterate 5 refine ae rfl rfl rfl rfl ?_
   iterate 6 refine bh rfl rfl rfl ?_
   refine ae rfl rfl rfl rfl (pE rfl (WO.nil (ay rfl rfl rfl)))
  intro g81
  refine ab rfl rfl (pE rfl (ab rfl rfl ?_))
  iterate 3 refine pE rfl ?_
  apply cI; (case hj => rfl); (case hl => rfl)
  ·
   intro g85
   iterate 5 refine ae rfl rfl rfl rfl ?_
   iterate 6 refine bh rfl rfl rfl ?_
   refine ae rfl rfl rfl rfl (pE rfl (WO.nil (ay rfl rfl rfl)))
  intro g85
  refine ab rfl rfl (pE rfl (ab rfl rfl (pu (indexAddr (l := sc kw) aa rfl rfl rfl rfl rfl rfl (by decide) (aq hi2) rfl) rfl ?_)))
  refine ab rfl rfl (pE rfl (ab rfl rfl (pE rfl (ab rfl rfl (pE rfl ?_)))))
  apply cI; (case hj => rfl); (case hl => rfl)
  ·
   intro g90
   refine ab rfl rfl (pu (bl aa rfl rfl rfl rfl rfl rfl rfl rfl rfl) rfl ?_)
   refine ab rfl rfl (pE rfl (ab rfl rfl (pu (indexAddr (l := ic y) aa rfl rfl rfl rfl rfl rfl (by decide) (aq (hy (by simp at g90; exact g90))) rfl) rfl ?_)))
   refine ab rfl rfl (pE rfl (ab rfl rfl (pu (aw rfl rfl rfl (o9 [0, 1, 3] y) rfl) rfl ?_)))
   refine ab rfl rfl (pE rfl (ab rfl rfl ?_))
   iterate 2 refine pE rfl ?_
   refine WO.nil (ay rfl rfl rfl)
  intro g90
  iterate 6 refine ae rfl rfl rfl rfl ?_
  refine ab rfl rfl ?_
  iterate 2 refine pE rfl ?_
  refine WO.nil (ay rfl rfl rfl)
 refine qs (au rfl (fun h98 => ?_) (fun h98 => ?_))
 ·
  have hbad : bc s = cQ := by
   unfold bc
   rw [hw, pk hq.2.1 hrl y (by rw [← hm]; exact hy), hN]
   exact if_pos h98
  refine W.seq (W.region ?_)
  iterate 5 refine pE rfl ?_
  refine WO.nil (qs ?_)
  try refine ie (t := 5) rfl ?_
  refine W.ret (aB (QF.az trivial rfl ?_))
  rw [hbad]; rfl
 have hgood : bc s = ⟨(aZ wa 1000000000000).1, (aZ wb 63).1, kw, m, 0⟩ := by
  unfold bc
  rw [hw, pk hq.2.1 hrl y (by rw [← hm]; exact hy), hN, hm]
  exact if_neg (by intro h; rw [show b8 = B #[115, 119, 105, 116, 99, 104] from rfl] at h; exact absurd (h98.symm.trans h) (by simp))
 refine W.skip (qs (W.seq (W.cU aa (by kernel_rfl) ?_)))
 iterate 3 refine aC (ev aa rfl) rfl ?_
 refine aC (indexAddr (l := sc kw) aa rfl rfl rfl rfl rfl rfl (by decide) (aq hi2) rfl) rfl ?_
 refine aC (ev aa rfl) rfl ?_
 iterate 6 refine aC (ev aa rfl) rfl ?_
 refine CH.nil ?_
 refine qs ?_
 try refine ie (t := 5) rfl ?_
 refine W.ret (QF.az trivial rfl ?_)
 rw [hgood]; rfl
end Go.Proofs.YtoojafbicmdclaaGreatDoor
namespace Go.Proofs.YtoojafbicmdclaaGreatDoor
open Go.Ab Go.Tb
set_option maxRecDepth 10000
attribute [local irreducible] W WO Pu QS QB QL QF QV bU CH QE
abbrev nT (g : Nat) (x : e8) : List A := [.own g (x.1.map ic), .mo (g + 1) (dN ik Ev.c x.2) none none]
theorem kS (s : e8) (th : Int) (e : Ev) (hs : fv 1000000 s) : b9 Tryz.prog 86 [.ptr 0 0, .d (.v (.int .i64 th)), .ag e.c] [nT 1 s] 2 (.tup []) [nT 1 (dv s th e)] 2 := by
 obtain ⟨ids, m⟩ := s
 have hget := hs.get th
 have hid : ids.length ≤ 1000000 := hs.2.1
 obtain ⟨cur, hcur⟩ : ∃ cur, cur = (cH m th).getD [] := ⟨_, rfl⟩
 have hcl : cur.length ≤ 1000000 := by rw [hcur]; exact hget
 obtain ⟨ids', hids⟩ : ∃ ids', ids' = if cur = [] then ids ++ [th] else ids := ⟨_, rfl⟩
 refine b9.iy aa (n := 40) (rs := []) Tryz.func86 (by kernel_rfl) rfl Tryz.ntmps86 Tryz.results86 rfl rfl fun C hC hG => ?_
 refine W.seq (W.region (cg rfl rfl rfl (WO.nil (qs ?_))))
 iterate 2 refine W.seq ?_
 refine W.region ?_
 iterate 2 refine pE rfl ?_
 refine WO.nil (qs (au rfl (fun h7 => ?_) (fun h7 => ?_)))
 ·
  have hth : th = 0 := by simpa using h7
  have hF0 : dv (ids, m) th e = (ids, m) := by unfold dv; rw [if_pos hth]
  refine W.ret (aB (iE.end aa [1, 2] trivial rfl rfl rfl rfl ?_ ?_))
  · rw [hF0]; exact ⟨rfl, trivial⟩
  rfl
 have hth : th ≠ 0 := by simpa using h7
 have hF : dv (ids, m) th e = (ids', bT m th (cur ++ [e])) := by
  unfold dv
  rw [if_neg hth, hids, hcur]
 refine W.skip (qs ?_)
 iterate 2 refine W.seq ?_
 refine W.region ?_
 iterate 3 refine pE rfl ?_
 refine pE rfl (pE rfl (pu (pC (kf := ik) (fn := Ev.c) (l := m) (a := th) (r := cur.map Ev.c) aa rfl rfl rfl rfl rfl (eU (aa.dU rfl rfl)) rfl rfl rfl hs.1 (by rw [hcur])) rfl ?_))
 iterate 2 refine pE rfl ?_
 refine WO.nil (qs (W.yp [(0, .ptr 0 0), (1, .d (.v (.int .i64 th))), (5, .ptr 1 0)] [] [(0, [.own 2 (ids'.map ic), .mo 3 (dN ik Ev.c m) none none]), (1, e.c.map A.d)] [] [2, 3] 4 ?_ ?_))
 ·
  refine au rfl (fun h15 => ?_) (fun h15 => ?_)
  ·
   have hc : cur = [] := by simpa using h15
   have hi : ids' = ids ++ [th] := by rw [hids, if_pos hc]
   refine W.region ?_
   iterate 4 refine pE rfl ?_
   refine pE rfl (pE rfl (pu (bl aa rfl rfl rfl rfl rfl rfl rfl rfl rfl) rfl ?_))
   refine cr (fn := ic) (a := th) aa rfl rfl rfl rfl rfl rfl rfl rfl rfl rfl (fun _ => rfl) (by show (ids.length + 1) * 8 ≤ _; omega) ?_
   iterate 2 refine pE rfl ?_
   refine aO aa rfl rfl rfl rfl rfl rfl rfl rfl (WO.nil (kQ [0, 3, 4, 2] rfl ?_ trivial ?_ trivial rfl))
   · repeat' first | exact trivial | refine ⟨rfl, ?_⟩
   rw [hi]
   repeat' first | exact trivial | refine ⟨rfl, ?_⟩
  have hc : cur ≠ [] := by simpa using h15
  have hi : ids' = ids := by rw [hids, if_neg hc]
  refine W.skip (kQ [0, 3, 1, 2] rfl ?_ trivial ?_ trivial rfl)
  · repeat' first | exact trivial | refine ⟨rfl, ?_⟩
  rw [hi]
  repeat' first | exact trivial | refine ⟨rfl, ?_⟩
 refine qs (W.xQ 0 1 rfl rfl rfl fun b => ?_)
 refine' W.vW aa (fun bx => [(0, [.own 2 (ids'.map ic), .mo 4 (dN ik Ev.c m) (some (ik th)) (some b)]) :: bx, (0, [.own 2 (ids'.map ic), .mo 4 (dN ik Ev.c m) (some (ik th)) (some b)]) :: bx]) [[4, 5, 2], [6, 4, 2]] [6, 7] [10, 13] 14 (by kernel_rfl) (by kernel_rfl) rfl rfl ?hL_1
 case' hL_1 => skip
 refine' aD (ev aa rfl) ?p_2 rfl rfl rfl (by kernel_rfl) rfl ?h_2
 case' h_2 => skip
 refine' aD (ev aa rfl) ?p_3 rfl rfl rfl (by kernel_rfl) rfl ?h_3
 case' h_3 => skip
 refine' aD (ev aa rfl) ?p_4 rfl rfl rfl (by kernel_rfl) rfl ?h_4
 case' h_4 => skip
 refine' aD (mM aa 0 1 rfl rfl rfl rfl) ?p_5 rfl rfl rfl (by kernel_rfl) rfl ?h_5
 case' h_5 => skip
 refine' aD (ev aa rfl) ?p_6 rfl rfl rfl (by kernel_rfl) rfl ?h_6
 case' h_6 => skip
 refine' aD (ev aa rfl) ?p_7 rfl rfl rfl (by kernel_rfl) rfl ?h_7
 case' h_7 => skip
 refine' aD (ev aa rfl) ?p_8 rfl rfl rfl (by kernel_rfl) rfl ?h_8
 case' h_8 => skip
 refine' aD (ev aa rfl) ?p_9 rfl rfl rfl (by kernel_rfl) rfl ?h_9
 case' h_9 => skip
 refine' aD (mM aa 0 1 rfl rfl rfl rfl) ?p_10 rfl rfl rfl (by kernel_rfl) rfl ?h_10
 case' h_10 => skip
 refine' aD (ev aa rfl) ?p_11 rfl rfl rfl (by kernel_rfl) rfl ?h_11
 case' h_11 => skip
 refine' ze ?x_12 rfl rfl rfl (by kernel_rfl) (fun h => (ah h (by kernel_rfl)).elim) rfl ?h_12
 case x_12 =>
  intro b hb g; cases b
  · exact (ah hb (by kernel_rfl)).elim
  refine vj (kf := ik) (fn := Ev.c) (l := m) (a := th) (x := cur.map Ev.c) aa 0 1 rfl rfl rfl rfl rfl rfl rfl rfl (eU (aa.dU rfl rfl)) rfl rfl rfl hs.1 (by rw [hcur]) rfl rfl ?_
  refine WO.nil ?_
  refine' x6 rfl ?_ ?_ ?_ ?_
  all_goals try exact rfl
 case' h_12 => skip
 refine' aD (ev aa rfl) ?p_13 rfl rfl rfl (by kernel_rfl) rfl ?h_13
 case' h_13 => skip
 refine' aD (bl aa rfl rfl rfl rfl rfl rfl rfl rfl rfl) ?p_14 rfl rfl rfl (by kernel_rfl) rfl ?h_14
 case' h_14 => skip
 refine' ze ?x_15 rfl rfl rfl (by kernel_rfl) (fun h => (ah h (by kernel_rfl)).elim) rfl ?h_15
 case x_15 =>
  intro b hb g; cases b
  · exact (ah hb (by kernel_rfl)).elim
  refine cr (fn := Ev.c) (l := cur) (a := e) aa rfl rfl rfl rfl rfl rfl rfl rfl rfl rfl (fun _ => rfl) (by show (cur.length + 1) * 72 ≤ _; omega) ?_
  refine WO.nil ?_
  refine' x6 rfl ?_ ?_ ?_ ?_
  all_goals try exact rfl
 case' h_15 => skip
 case p_2 => refine ⟨fun ha => (ah ha (by kernel_rfl)).elim, ?_, fun ha => (ah ha (by kernel_rfl)).elim, ?_, fun ha => (ah ha (by kernel_rfl)).elim, ?_⟩ <;> intro ha <;> first | exact ⟨ev aa rfl, fun h => nomatch h⟩ | exact (ah ha (by kernel_rfl)).elim
 case p_3 => refine ⟨fun ha => (ah ha (by kernel_rfl)).elim, ?_, fun ha => (ah ha (by kernel_rfl)).elim, ?_, fun ha => (ah ha (by kernel_rfl)).elim, ?_⟩ <;> intro ha <;> first | exact ⟨ev aa rfl, fun h => nomatch h⟩ | exact (ah ha (by kernel_rfl)).elim
 case p_4 => refine ⟨fun ha => (ah ha (by kernel_rfl)).elim, ?_, fun ha => (ah ha (by kernel_rfl)).elim, ?_, fun ha => (ah ha (by kernel_rfl)).elim, ?_⟩ <;> intro ha <;> first | exact ⟨ev aa rfl, fun h => nomatch h⟩ | exact (ah ha (by kernel_rfl)).elim
 case p_5 => refine ⟨fun ha => (ah ha (by kernel_rfl)).elim, ?_, fun ha => (ah ha (by kernel_rfl)).elim, ?_, fun ha => (ah ha (by kernel_rfl)).elim, ?_⟩ <;> intro ha <;> first | exact ⟨mM aa 0 1 rfl rfl rfl rfl, fun h => nomatch h⟩ | exact (ah ha (by kernel_rfl)).elim
 case p_6 => refine ⟨fun ha => (ah ha (by kernel_rfl)).elim, ?_, fun ha => (ah ha (by kernel_rfl)).elim, ?_, fun ha => (ah ha (by kernel_rfl)).elim, ?_⟩ <;> intro ha <;> first | exact ⟨ev aa rfl, fun h => nomatch h⟩ | exact (ah ha (by kernel_rfl)).elim
 case p_7 => refine ⟨fun ha => (ah ha (by kernel_rfl)).elim, ?_, fun ha => (ah ha (by kernel_rfl)).elim, ?_, fun ha => (ah ha (by kernel_rfl)).elim, ?_⟩ <;> intro ha <;> first | exact ⟨ev aa rfl, fun h => nomatch h⟩ | exact (ah ha (by kernel_rfl)).elim
 case p_8 => refine ⟨fun ha => (ah ha (by kernel_rfl)).elim, ?_, fun ha => (ah ha (by kernel_rfl)).elim, ?_, fun ha => (ah ha (by kernel_rfl)).elim, ?_⟩ <;> intro ha <;> first | exact ⟨ev aa rfl, fun h => nomatch h⟩ | exact (ah ha (by kernel_rfl)).elim
 case p_9 => refine ⟨fun ha => (ah ha (by kernel_rfl)).elim, ?_, fun ha => (ah ha (by kernel_rfl)).elim, ?_, fun ha => (ah ha (by kernel_rfl)).elim, ?_⟩ <;> intro ha <;> first | exact ⟨ev aa rfl, fun h => nomatch h⟩ | exact (ah ha (by kernel_rfl)).elim
 case p_10 => refine ⟨fun ha => (ah ha (by kernel_rfl)).elim, ?_, fun ha => (ah ha (by kernel_rfl)).elim, ?_, fun ha => (ah ha (by kernel_rfl)).elim, ?_⟩ <;> intro ha <;> first | exact ⟨mM aa 0 1 rfl rfl rfl rfl, fun h => nomatch h⟩ | exact (ah ha (by kernel_rfl)).elim
 case p_11 => refine ⟨fun ha => (ah ha (by kernel_rfl)).elim, ?_, fun ha => (ah ha (by kernel_rfl)).elim, ?_, fun ha => (ah ha (by kernel_rfl)).elim, ?_⟩ <;> intro ha <;> first | exact ⟨ev aa rfl, fun h => nomatch h⟩ | exact (ah ha (by kernel_rfl)).elim
 case p_13 => refine ⟨fun ha => (ah ha (by kernel_rfl)).elim, ?_, fun ha => (ah ha (by kernel_rfl)).elim, ?_, fun ha => (ah ha (by kernel_rfl)).elim, ?_⟩ <;> intro ha <;> first | exact ⟨ev aa rfl, fun h => nomatch h⟩ | exact ⟨bG aa rfl rfl rfl rfl, fun h => nomatch h⟩ | exact ⟨bF aa rfl rfl rfl rfl rfl, fun h => nomatch h⟩ | exact (ah ha (by kernel_rfl)).elim
 case p_14 => refine ⟨fun ha => (ah ha (by kernel_rfl)).elim, ?_, fun ha => (ah ha (by kernel_rfl)).elim, ?_, fun ha => (ah ha (by kernel_rfl)).elim, ?_⟩ <;> intro ha <;> first | exact ⟨bl aa rfl rfl rfl rfl rfl rfl rfl rfl rfl, fun h => nomatch h⟩ | exact (ah ha (by kernel_rfl)).elim
 refine CD.nil ?_ rfl
 refine w6 (kf := ik) (fn := Ev.c) (l := m) (a := th) (y := cur ++ [e]) aa 0 1 rfl rfl rfl rfl rfl rfl rfl (eU (aa.dU rfl rfl)) rfl rfl rfl hs.1 rfl rfl ?_
 refine WO.nil (iE.end aa [2, 7] trivial rfl rfl rfl rfl ?_ ?_)
 · rw [hF]; exact ⟨rfl, trivial⟩
 rfl
end Go.Proofs.YtoojafbicmdclaaGreatDoor
namespace Go.Proofs.YtoojafbicmdclaaGreatDoor
open Go.Ab Go.Tb
set_option maxRecDepth 10000
attribute [local irreducible] W WO Pu QS QB QL QF QV bU CH QE
def qZ (x : eW) : Prop := (x.word = ey ∧ x.l.length = 2) ∨ (x.word = b8 ∧ x.l.length = 3) ∨ (x.word = fA ∧ x.l.length = 3)
theorem va (s : e8) (x : eW) (hx : qZ x) (hs : fv 900000 s) : b9 Tryz.prog 30 [.ptr 0 0, .d (ci x.at_), .d (ci x.cpu), .d (.v (.string x.word)), .d (.sl (x.l.map ic))] [nT 1 s] 2 (.tup []) [nT 1 (cn s (ca x))] 2 := by
 obtain ⟨a, qa⟩ : ∃ a, x.l[0]? = some a := by rcases hx with ⟨_, h⟩ | ⟨_, h⟩ | ⟨_, h⟩ <;> exact ⟨x.l[0]'(by omega), by simp⟩
 obtain ⟨b, qb⟩ : ∃ b, x.l[1]? = some b := by rcases hx with ⟨_, h⟩ | ⟨_, h⟩ | ⟨_, h⟩ <;> exact ⟨x.l[1]'(by omega), by simp⟩
 obtain ⟨c, qc⟩ : ∃ c, x.word ≠ ey → x.l[2]? = some c := by
  rcases hx with ⟨h, _⟩ | ⟨_, h⟩ | ⟨_, h⟩
  · exact ⟨0, fun q => absurd h q⟩
  · exact ⟨x.l[2]'(by omega), fun _ => by simp⟩
  exact ⟨x.l[2]'(by omega), fun _ => by simp⟩
 have hab : x.l[0]?.getD 0 = a ∧ x.l[1]?.getD 0 = b := by rw [qa, qb]; exact ⟨rfl, rfl⟩
 have hs1 : fv 1000000 s := hs.mono (by omega)
 refine b9.iy aa (n := 55) (rs := []) Tryz.func30 (by kernel_rfl) rfl Tryz.ntmps30 Tryz.results30 rfl rfl fun C hC hG => ?_
 iterate 2 refine W.seq ?_
 refine W.region (pE rfl (WO.nil (qs (W.block (W.seq (W.region ?_))))))
 iterate 2 refine pE rfl ?_
 refine WO.nil (qs (au rfl (fun h11 => ?_) (fun h11 => ?_)))
 ·
  have hw : x.word = ey := by simpa [ey] using h11
  have hF : cn s (ca x) = dv s a (sZ x.at_ b 0) := by unfold ca; rw [if_pos hw, hab.1, hab.2]; rfl
  refine W.seq (W.eB aa [] [] [] [] 9 (by kernel_rfl) (by kernel_rfl) rfl rfl ?_)
  refine' aD (ev aa rfl) ?p_1 rfl rfl rfl (by kernel_rfl) rfl ?h_1
  case' h_1 => skip
  case p_1 => refine ⟨fun ha => (ah ha (by kernel_rfl)).elim, ?_⟩ <;> intro ha <;> first | exact ⟨ev aa rfl, fun h => nomatch h⟩ | exact (ah ha (by kernel_rfl)).elim
  refine' aD (ev aa rfl) ?p_2 rfl rfl rfl (by kernel_rfl) rfl ?h_2
  case' h_2 => skip
  case p_2 => refine ⟨fun ha => (ah ha (by kernel_rfl)).elim, ?_⟩ <;> intro ha <;> first | exact ⟨ev aa rfl, fun h => nomatch h⟩ | exact (ah ha (by kernel_rfl)).elim
  refine' aD (indexAddr (l := ic a) aa rfl rfl rfl rfl rfl rfl (by decide) (aq qa) rfl) ?p_3 rfl rfl rfl (by kernel_rfl) rfl ?h_3
  case' h_3 => skip
  case p_3 => refine ⟨fun ha => (ah ha (by kernel_rfl)).elim, ?_⟩ <;> intro ha <;> first | exact ⟨indexAddr (l := ic a) aa rfl rfl rfl rfl rfl rfl (by decide) (aq qa) rfl, fun h => nomatch h⟩ | exact (ah ha (by kernel_rfl)).elim
  refine' aD (ev aa rfl) ?p_4 rfl rfl rfl (by kernel_rfl) rfl ?h_4
  case' h_4 => skip
  case p_4 => refine ⟨fun ha => (ah ha (by kernel_rfl)).elim, ?_⟩ <;> intro ha <;> first | exact ⟨ev aa rfl, fun h => nomatch h⟩ | exact ⟨bG aa rfl rfl rfl rfl, fun h => nomatch h⟩ | exact ⟨bF aa rfl rfl rfl rfl rfl, fun h => nomatch h⟩ | exact (ah ha (by kernel_rfl)).elim
  refine' aD (ev aa rfl) ?p_5 rfl rfl rfl (by kernel_rfl) rfl ?h_5
  case' h_5 => skip
  case p_5 => refine ⟨fun ha => (ah ha (by kernel_rfl)).elim, ?_⟩ <;> intro ha <;> first | exact ⟨ev aa rfl, fun h => nomatch h⟩ | exact (ah ha (by kernel_rfl)).elim
  refine' aD (ev aa rfl) ?p_6 rfl rfl rfl (by kernel_rfl) rfl ?h_6
  case' h_6 => skip
  case p_6 => refine ⟨fun ha => (ah ha (by kernel_rfl)).elim, ?_⟩ <;> intro ha <;> first | exact ⟨ev aa rfl, fun h => nomatch h⟩ | exact (ah ha (by kernel_rfl)).elim
  refine' aD (indexAddr (l := ic b) aa rfl rfl rfl rfl rfl rfl (by decide) (aq qb) rfl) ?p_7 rfl rfl rfl (by kernel_rfl) rfl ?h_7
  case' h_7 => skip
  case p_7 => refine ⟨fun ha => (ah ha (by kernel_rfl)).elim, ?_⟩ <;> intro ha <;> first | exact ⟨indexAddr (l := ic b) aa rfl rfl rfl rfl rfl rfl (by decide) (aq qb) rfl, fun h => nomatch h⟩ | exact (ah ha (by kernel_rfl)).elim
  refine' aD (ev aa rfl) ?p_8 rfl rfl rfl (by kernel_rfl) rfl ?h_8
  case' h_8 => skip
  case p_8 => refine ⟨fun ha => (ah ha (by kernel_rfl)).elim, ?_⟩ <;> intro ha <;> first | exact ⟨ev aa rfl, fun h => nomatch h⟩ | exact ⟨bG aa rfl rfl rfl rfl, fun h => nomatch h⟩ | exact ⟨bF aa rfl rfl rfl rfl rfl, fun h => nomatch h⟩ | exact (ah ha (by kernel_rfl)).elim
  refine' aD (build aa rfl rfl rfl rfl) ?p_9 rfl rfl rfl (by kernel_rfl) rfl ?h_9
  case' h_9 => skip
  case p_9 => refine ⟨fun ha => (ah ha (by kernel_rfl)).elim, ?_⟩ <;> intro ha <;> first | exact ⟨build aa rfl rfl rfl rfl, fun h => nomatch h⟩ | exact (ah ha (by kernel_rfl)).elim
  refine CD.nil ?_ rfl
  refine fP [0] [1, 2] rfl rfl rfl rfl rfl ((b9.eD (kS s a (sZ x.at_ b 0) hs1) rfl)) rfl rfl (by rfl) (by rfl) rfl rfl rfl rfl ?_
  refine WO.nil (qs (W.ret (aT (aB (iE.end aa [4, 5] trivial rfl rfl rfl rfl ?_ ?_)))))
  · rw [hF]; exact ⟨rfl, trivial⟩
  rfl
 have hw : x.word ≠ ey := by simpa [ey] using h11
 have qc := qc hw
 have hcd : x.l[2]?.getD 0 = c := by rw [qc]; rfl
 refine W.seq (W.region ?_)
 iterate 2 refine pE rfl ?_
 refine WO.nil (qs (au rfl (fun h23 => ?_) (fun h23 => ?_)))
 ·
  have hw2 : x.word = b8 := by simpa [b8] using h23
  refine W.eB aa [] [] [] [] 9 (by kernel_rfl) (by kernel_rfl) rfl rfl ?_
  refine' aD (ev aa rfl) ?p_10 rfl rfl rfl (by kernel_rfl) rfl ?h_10
  case' h_10 => skip
  case p_10 => refine ⟨fun ha => (ah ha (by kernel_rfl)).elim, ?_⟩ <;> intro ha <;> first | exact ⟨ev aa rfl, fun h => nomatch h⟩ | exact (ah ha (by kernel_rfl)).elim
  refine' aD (ev aa rfl) ?p_11 rfl rfl rfl (by kernel_rfl) rfl ?h_11
  case' h_11 => skip
  case p_11 => refine ⟨fun ha => (ah ha (by kernel_rfl)).elim, ?_⟩ <;> intro ha <;> first | exact ⟨ev aa rfl, fun h => nomatch h⟩ | exact (ah ha (by kernel_rfl)).elim
  refine' aD (indexAddr (l := ic a) aa rfl rfl rfl rfl rfl rfl (by decide) (aq qa) rfl) ?p_12 rfl rfl rfl (by kernel_rfl) rfl ?h_12
  case' h_12 => skip
  case p_12 => refine ⟨fun ha => (ah ha (by kernel_rfl)).elim, ?_⟩ <;> intro ha <;> first | exact ⟨indexAddr (l := ic a) aa rfl rfl rfl rfl rfl rfl (by decide) (aq qa) rfl, fun h => nomatch h⟩ | exact (ah ha (by kernel_rfl)).elim
  refine' aD (ev aa rfl) ?p_13 rfl rfl rfl (by kernel_rfl) rfl ?h_13
  case' h_13 => skip
  case p_13 => refine ⟨fun ha => (ah ha (by kernel_rfl)).elim, ?_⟩ <;> intro ha <;> first | exact ⟨ev aa rfl, fun h => nomatch h⟩ | exact ⟨bG aa rfl rfl rfl rfl, fun h => nomatch h⟩ | exact ⟨bF aa rfl rfl rfl rfl rfl, fun h => nomatch h⟩ | exact (ah ha (by kernel_rfl)).elim
  refine' aD (ev aa rfl) ?p_14 rfl rfl rfl (by kernel_rfl) rfl ?h_14
  case' h_14 => skip
  case p_14 => refine ⟨fun ha => (ah ha (by kernel_rfl)).elim, ?_⟩ <;> intro ha <;> first | exact ⟨ev aa rfl, fun h => nomatch h⟩ | exact (ah ha (by kernel_rfl)).elim
  refine' aD (ev aa rfl) ?p_15 rfl rfl rfl (by kernel_rfl) rfl ?h_15
  case' h_15 => skip
  case p_15 => refine ⟨fun ha => (ah ha (by kernel_rfl)).elim, ?_⟩ <;> intro ha <;> first | exact ⟨ev aa rfl, fun h => nomatch h⟩ | exact (ah ha (by kernel_rfl)).elim
  refine' aD (indexAddr (l := ic b) aa rfl rfl rfl rfl rfl rfl (by decide) (aq qb) rfl) ?p_16 rfl rfl rfl (by kernel_rfl) rfl ?h_16
  case' h_16 => skip
  case p_16 => refine ⟨fun ha => (ah ha (by kernel_rfl)).elim, ?_⟩ <;> intro ha <;> first | exact ⟨indexAddr (l := ic b) aa rfl rfl rfl rfl rfl rfl (by decide) (aq qb) rfl, fun h => nomatch h⟩ | exact (ah ha (by kernel_rfl)).elim
  refine' aD (ev aa rfl) ?p_17 rfl rfl rfl (by kernel_rfl) rfl ?h_17
  case' h_17 => skip
  case p_17 => refine ⟨fun ha => (ah ha (by kernel_rfl)).elim, ?_⟩ <;> intro ha <;> first | exact ⟨ev aa rfl, fun h => nomatch h⟩ | exact ⟨bG aa rfl rfl rfl rfl, fun h => nomatch h⟩ | exact ⟨bF aa rfl rfl rfl rfl rfl, fun h => nomatch h⟩ | exact (ah ha (by kernel_rfl)).elim
  refine' aD (build aa rfl rfl rfl rfl) ?p_18 rfl rfl rfl (by kernel_rfl) rfl ?h_18
  case' h_18 => skip
  case p_18 => refine ⟨fun ha => (ah ha (by kernel_rfl)).elim, ?_⟩ <;> intro ha <;> first | exact ⟨build aa rfl rfl rfl rfl, fun h => nomatch h⟩ | exact (ah ha (by kernel_rfl)).elim
  refine CD.nil ?_ rfl
  refine fP [0] [1, 2] rfl rfl rfl rfl rfl ((b9.eD (kS s a (iY x.at_ b 0) hs1) rfl)) rfl rfl (by rfl) (by rfl) rfl rfl rfl rfl ?_
  refine WO.nil (bC (qs (W.region ?_)))
  iterate 2 refine pE rfl ?_
  refine pu (indexAddr (l := ic c) aa rfl rfl rfl rfl rfl rfl (by decide) (aq qc) rfl) rfl ?_
  refine pE rfl ?_
  iterate 2 refine pE rfl ?_
  refine pu (build aa rfl rfl rfl rfl) rfl ?_
  refine fP [0] [4, 5] rfl rfl rfl rfl rfl ((b9.eD (kS _ c (gK x.at_ x.cpu) (hs.add _ _ |>.mono (by omega))) rfl)) rfl rfl (by rfl) (by rfl) rfl rfl rfl rfl ?_
  refine WO.nil (iE.end aa [7, 8] trivial rfl rfl rfl rfl ?_ ?_)
  ·
   have hF : cn s (ca x) = dv (dv s a (iY x.at_ b 0)) c (gK x.at_ x.cpu) := by unfold ca; rw [if_neg hw, if_pos hw2, hab.1, hab.2, hcd]; rfl
   rw [hF]; exact ⟨rfl, trivial⟩
  rfl
 have hw2 : x.word ≠ b8 := by simpa [b8] using h23
 refine W.seq (W.region ?_)
 iterate 2 refine pE rfl ?_
 refine WO.nil (qs (au rfl (fun h35 => ?_) (fun h35 => ?_)))
 ·
  have hw3 : x.word = fA := by simpa [fA] using h35
  refine W.eB aa [] [] [] [] 9 (by kernel_rfl) (by kernel_rfl) rfl rfl ?_
  refine' aD (ev aa rfl) ?p_19 rfl rfl rfl (by kernel_rfl) rfl ?h_19
  case' h_19 => skip
  case p_19 => refine ⟨fun ha => (ah ha (by kernel_rfl)).elim, ?_⟩ <;> intro ha <;> first | exact ⟨ev aa rfl, fun h => nomatch h⟩ | exact (ah ha (by kernel_rfl)).elim
  refine' aD (ev aa rfl) ?p_20 rfl rfl rfl (by kernel_rfl) rfl ?h_20
  case' h_20 => skip
  case p_20 => refine ⟨fun ha => (ah ha (by kernel_rfl)).elim, ?_⟩ <;> intro ha <;> first | exact ⟨ev aa rfl, fun h => nomatch h⟩ | exact (ah ha (by kernel_rfl)).elim
  refine' aD (indexAddr (l := ic a) aa rfl rfl rfl rfl rfl rfl (by decide) (aq qa) rfl) ?p_21 rfl rfl rfl (by kernel_rfl) rfl ?h_21
  case' h_21 => skip
  case p_21 => refine ⟨fun ha => (ah ha (by kernel_rfl)).elim, ?_⟩ <;> intro ha <;> first | exact ⟨indexAddr (l := ic a) aa rfl rfl rfl rfl rfl rfl (by decide) (aq qa) rfl, fun h => nomatch h⟩ | exact (ah ha (by kernel_rfl)).elim
  refine' aD (ev aa rfl) ?p_22 rfl rfl rfl (by kernel_rfl) rfl ?h_22
  case' h_22 => skip
  case p_22 => refine ⟨fun ha => (ah ha (by kernel_rfl)).elim, ?_⟩ <;> intro ha <;> first | exact ⟨ev aa rfl, fun h => nomatch h⟩ | exact ⟨bG aa rfl rfl rfl rfl, fun h => nomatch h⟩ | exact ⟨bF aa rfl rfl rfl rfl rfl, fun h => nomatch h⟩ | exact (ah ha (by kernel_rfl)).elim
  refine' aD (ev aa rfl) ?p_23 rfl rfl rfl (by kernel_rfl) rfl ?h_23
  case' h_23 => skip
  case p_23 => refine ⟨fun ha => (ah ha (by kernel_rfl)).elim, ?_⟩ <;> intro ha <;> first | exact ⟨ev aa rfl, fun h => nomatch h⟩ | exact (ah ha (by kernel_rfl)).elim
  refine' aD (ev aa rfl) ?p_24 rfl rfl rfl (by kernel_rfl) rfl ?h_24
  case' h_24 => skip
  case p_24 => refine ⟨fun ha => (ah ha (by kernel_rfl)).elim, ?_⟩ <;> intro ha <;> first | exact ⟨ev aa rfl, fun h => nomatch h⟩ | exact (ah ha (by kernel_rfl)).elim
  refine' aD (indexAddr (l := ic b) aa rfl rfl rfl rfl rfl rfl (by decide) (aq qb) rfl) ?p_25 rfl rfl rfl (by kernel_rfl) rfl ?h_25
  case' h_25 => skip
  case p_25 => refine ⟨fun ha => (ah ha (by kernel_rfl)).elim, ?_⟩ <;> intro ha <;> first | exact ⟨indexAddr (l := ic b) aa rfl rfl rfl rfl rfl rfl (by decide) (aq qb) rfl, fun h => nomatch h⟩ | exact (ah ha (by kernel_rfl)).elim
  refine' aD (ev aa rfl) ?p_26 rfl rfl rfl (by kernel_rfl) rfl ?h_26
  case' h_26 => skip
  case p_26 => refine ⟨fun ha => (ah ha (by kernel_rfl)).elim, ?_⟩ <;> intro ha <;> first | exact ⟨ev aa rfl, fun h => nomatch h⟩ | exact ⟨bG aa rfl rfl rfl rfl, fun h => nomatch h⟩ | exact ⟨bF aa rfl rfl rfl rfl rfl, fun h => nomatch h⟩ | exact (ah ha (by kernel_rfl)).elim
  refine' aD (build aa rfl rfl rfl rfl) ?p_27 rfl rfl rfl (by kernel_rfl) rfl ?h_27
  case' h_27 => skip
  case p_27 => refine ⟨fun ha => (ah ha (by kernel_rfl)).elim, ?_⟩ <;> intro ha <;> first | exact ⟨build aa rfl rfl rfl rfl, fun h => nomatch h⟩ | exact (ah ha (by kernel_rfl)).elim
  refine CD.nil ?_ rfl
  refine fP [0] [1, 2] rfl rfl rfl rfl rfl ((b9.eD (kS s a (iY x.at_ 2 b) hs1) rfl)) rfl rfl (by rfl) (by rfl) rfl rfl rfl rfl ?_
  refine WO.nil (bC (qs (W.region ?_)))
  iterate 2 refine pE rfl ?_
  refine pu (indexAddr (l := ic c) aa rfl rfl rfl rfl rfl rfl (by decide) (aq qc) rfl) rfl ?_
  refine pE rfl ?_
  iterate 2 refine pE rfl ?_
  refine pu (build aa rfl rfl rfl rfl) rfl ?_
  refine fP [0] [4, 5] rfl rfl rfl rfl rfl ((b9.eD (kS _ c (gK x.at_ x.cpu) (hs.add _ _ |>.mono (by omega))) rfl)) rfl rfl (by rfl) (by rfl) rfl rfl rfl rfl ?_
  refine WO.nil (iE.end aa [7, 8] trivial rfl rfl rfl rfl ?_ ?_)
  ·
   have hF : cn s (ca x) = dv (dv s a (iY x.at_ 2 b)) c (gK x.at_ x.cpu) := by unfold ca; rw [if_neg hw, if_neg hw2, hab.1, hab.2, hcd]; rfl
   rw [hF]; exact ⟨rfl, trivial⟩
  rfl
 exfalso; rcases hx with ⟨h, _⟩ | ⟨h, _⟩ | ⟨h, _⟩
 · exact hw h
 · exact hw2 h
 simp at h35; exact h35 (by rw [h]; rfl)
end Go.Proofs.YtoojafbicmdclaaGreatDoor
namespace Go.Proofs.YtoojafbicmdclaaGreatDoor
open Go.Ab Go.Tb
set_option maxRecDepth 10000
attribute [local irreducible] W WO Pu QS QB QL QF QV bU CH QE
def gD (l : List Ev) (k : Nat) : Option Int := if k = 0 then none else (l[k - 1]?).map Ev.time
theorem sub_one {k : Nat} (h : 0 < k) (hm : (k : Int) ≤ 9223372036854775807) : IntKind.i64.wrap ((k : Int) - 1) = ((k - 1 : Nat) : Int) := by
 rw [wrap64 (by omega)]
 omega
theorem qK (l : List Ev) : ax Tryz.prog 180 [.d (.sl (l.map Ev.c))] (.d (.v (.int .i64 (dH l none)))) 0 := by
 refine ax.aV (n := 32) (ts := [2]) Tryz.func180 (by kernel_rfl) rfl Tryz.ntmps180 Tryz.results180 rfl rfl fun C hC hG => ?_
 refine W.seq (W.region (pE rfl (WO.nil (qs ?_))))
 iterate 2 refine W.seq ?_
 refine W.region ?_
 iterate 3 refine pE rfl ?_
 refine WO.nil (qs (W.block (W.len (t := 0) rfl rfl (fun hlen => ?_))))
 try simp only [List.length_map, Ex.aJ] at hlen
 refine W.aW (ι := {x : Nat // match x with | k => k ≤ l.length ∧ dH (l.drop k) (gD l k) = dH l none})
  (fun x => match x.1 with | k => [(8, .d (.v (.int .i64 ((k : Nat) : Int))))]) [(0, _), (6, _), (7, _)]
  (fun x => match x.1 with | k => []) [] [] 0 (fun x => match x.1 with | k => l.length - k)
  [] ⟨0, ?_⟩ rfl ?_ ⟨rfl, rfl, rfl, rfl, rfl, rfl, trivial⟩ ?_ trivial rfl ?_
 · exact ⟨Nat.zero_le _, rfl⟩
 · repeat' first | exact trivial | refine ⟨rfl, ?_⟩
 · repeat' exact trivial
 rintro ⟨k, hk, hI⟩
 show W _ _ _ _ _ ⟨[(8, .d (.v (.int .i64 ((k : Nat) : Int)))), (0, _), (6, _), (7, _)], [], [], 0⟩
 refine W.seq (W.region (pE rfl (WO.nil (qs (W.seq (ba (l := l) (k := k) rfl (by simp [Ex.aJ, aE]) hk (fun e hx hd hlt => ?_) (fun he hd => ?_)))))))
 ·
  rw [hd] at hI
  simp only [dH] at hI
  obtain ⟨p, hp⟩ : ∃ p : Ev, 0 < k → l[k - 1]? = some p := ⟨l[k - 1]'(by omega), fun _ => by simp⟩
  have hlast : mS (gD l k) e.time = (decide (0 < k) && decide (e.time < p.time)) := by
   unfold gD mS
   by_cases q : k = 0
   · simp [q]
   rw [if_neg q, hp (by omega)]; simp; omega
  rw [hlast] at hI
  have hnext : gD l (k + 1) = some e.time := by unfold gD; rw [if_neg (by omega), Nat.add_sub_cancel, hx]; rfl
  refine W.skip (qs (W.seq (W.block (W.seq (W.region (pE rfl (pu (indexAddr aa rfl rfl rfl rfl rfl rfl (Int.natCast_nonneg _) (aq hx) rfl) rfl ?_)))))))
  refine pE rfl (bA aa rfl rfl rfl (pE rfl (aO aa rfl rfl rfl rfl rfl rfl rfl rfl (WO.nil (qs ?_)))))
  iterate 2 refine W.seq ?_
  refine W.region (pE rfl (pu (aw rfl rfl rfl (ta e) rfl) rfl ?_))
  refine pE rfl (WO.nil (qs (W.seq (W.region ?_))))
  iterate 2 refine pE rfl ?_
  refine WO.nil (qs (au rfl (fun h16 => ?_) (fun h16 => ?_)))
  ·
   have hc : cK e ≠ 0 := by simpa using h16
   rw [if_pos hc] at hI
   refine W.seq (W.region ?_)
   iterate 2 refine pE rfl ?_
   refine WO.nil (qs (W.ret (aB (aT (aB (dc (aT (aB (QF.az trivial rfl ?_)))))))))
   simp only [norm, aL, ← hI]
  have hc : cK e = 0 := by simpa using h16
  rw [if_neg (by simp [hc])] at hI
  refine W.skip (qs (W.seq ?_))
  apply ke aa; (case hb => rfl); (case hB => kernel_rfl)
  ·
   iterate 3 refine aC (ev aa rfl) rfl ?_
   apply jI; (case hj => rfl); (case hl => rfl)
   ·
    intro g20
    refine bN rfl rfl (ev aa rfl) rfl ?_
    refine bN rfl rfl (ev aa rfl) rfl ?_
    refine bN rfl rfl (ev aa rfl) rfl ?_
    refine bN rfl rfl (ev aa rfl) rfl ?_
    refine bN rfl rfl (cf (ev aa rfl) (y := ((k - 1 : Nat) : Int)) (sub_one (by simpa using g20) (by simp only [maxLen] at hlen; omega))) rfl ?_
    refine bN rfl rfl (indexAddr (l := p.c) aa rfl rfl rfl rfl rfl rfl (Int.natCast_nonneg _) (aq (hp (by simpa using g20))) rfl) rfl ?_
    refine bN rfl rfl (ev aa rfl) rfl ?_
    refine bN rfl rfl (ev aa rfl) rfl ?_
    refine bN rfl rfl (ev aa rfl) rfl ?_
    refine aC (ev aa rfl) rfl ?_
    refine CH.nil ?_
    refine ay rfl rfl rfl
   intro g20
   iterate 9 refine mI rfl rfl rfl rfl ?_
   refine aC (ev aa rfl) rfl ?_
   refine CH.nil ?_
   refine ay rfl rfl rfl
  refine qs (au rfl (fun h30 => ?_) (fun h30 => ?_))
  ·
   have hc2 : (decide (0 < k) && decide (e.time < p.time)) = true := by simp at h30 ⊢; omega
   rw [if_pos hc2] at hI
   refine W.seq (W.region (pE rfl (WO.nil (qs (W.ret (aT (aB (dc (aT (aB (QF.az trivial rfl ?_)))))))))))
   simp only [norm, aL, ← hI]
  have hc2 : (decide (0 < k) && decide (e.time < p.time)) = false := by simp at h30 ⊢; omega
  rw [if_neg (by rw [hc2]; decide)] at hI
  refine W.skip (bC (qs (W.region ?_)))
  iterate 2 refine pE rfl ?_
  refine WO.nil (W.bb [] ⟨k + 1, ?_⟩ ?_ rfl ?_ ⟨rfl, rfl, rfl, rfl, rfl, rfl, trivial⟩ ?_ trivial rfl)
  · exact ⟨hlt, by rw [hnext]; exact hI⟩
  · dsimp only; omega
  · repeat' first | exact trivial | refine ⟨aG (by assumption) (by assumption), ?_⟩
  repeat' exact trivial
 rw [hd] at hI
 simp only [dH] at hI
 refine W.exit (aP (aS (aM (qs (W.seq (W.region (pE rfl (WO.nil (qs (W.ret (QF.az trivial rfl ?_)))))))))))
 simp only [norm, aL, ← hI]
theorem uy (t : bz) (ht : 0 ≤ t.id ∧ t.id ≤ 1000000000000000 ∧ be t.name = 0) : ax Tryz.prog 127 [.ag t.c] (.d (.v (.int .i64 0))) 0 := by
 refine ax.aV (n := 24) (ts := [2]) Tryz.func127 (by kernel_rfl) rfl Tryz.ntmps127 Tryz.results127 rfl rfl fun C hC hG => ?_
 refine W.seq (W.region (cg rfl rfl rfl (pE rfl (WO.nil (qs ?_)))))
 iterate 2 refine W.seq ?_
 apply aI; (case hb => rfl)
 ·
  refine pE rfl (pE rfl ?_)
  iterate 2 refine pE rfl ?_
  apply an; (case hj => rfl); (case hl => rfl)
  ·
   iterate 3 refine ae rfl rfl rfl rfl ?_
   iterate 2 refine pE rfl ?_
   iterate 3 refine ae rfl rfl rfl rfl ?_
   iterate 2 refine pE rfl ?_
   iterate 3 refine ae rfl rfl rfl rfl ?_
   refine pE rfl (WO.nil (ay rfl rfl rfl))
  refine ab rfl rfl (pE rfl (ab rfl rfl (pE rfl (ab rfl rfl ?_))))
  iterate 3 refine pE rfl ?_
  apply an; (case hj => rfl); (case hl => rfl)
  ·
   iterate 3 refine ae rfl rfl rfl rfl ?_
   iterate 2 refine pE rfl ?_
   iterate 3 refine ae rfl rfl rfl rfl ?_
   refine pE rfl (WO.nil (ay rfl rfl rfl))
  refine ab rfl rfl (pE rfl (ab rfl rfl (pE rfl (ab rfl rfl ?_))))
  iterate 3 refine pE rfl ?_
  apply an; (case hj => rfl); (case hl => rfl)
  ·
   iterate 3 refine ae rfl rfl rfl rfl ?_
   refine pE rfl (WO.nil (ay rfl rfl rfl))
  refine ab rfl rfl (pE rfl (ab rfl rfl (pE rfl (ab rfl rfl ?_))))
  iterate 2 refine pE rfl ?_
  refine WO.nil (ay rfl rfl rfl)
 refine qs (au rfl (fun h20 => ?_) (fun h20 => ?_))
 ·
  exfalso; simp at h20; omega
 refine W.skip (qs (W.seq (W.region (pE rfl (pE rfl (pu (aw rfl rfl rfl (nE ..) rfl) rfl ?_))))))
 refine pE rfl (WO.nil (qs (W.ret (QF.az trivial rfl ?_))))
 simp only [norm, aL, ht.2.2]
theorem nU (fid : Nat) (caps : List A) (hc : Still caps) (p : Int × Int → Bool) (hp : ∀ x : Int × Int, ax Tryz.prog fid (.ag (bk x) :: caps) (.d (.v (.bool (p x)))) 0) (l : List (Int × Int)) :
  ax Tryz.prog 179 [.d (.sl (l.map bk)), .clo fid caps] (.d (.v (.int .i64 (idx (l.findIdx? p))))) 0 := by
 refine ax.aV (n := 19) (ts := [4]) Tryz.func179 (by kernel_rfl) rfl Tryz.ntmps179 Tryz.results179 rfl rfl fun C hC hG => ?_
 refine W.seq (W.region (pE rfl (WO.nil (qs ?_))))
 iterate 2 refine W.seq ?_
 refine W.region ?_
 iterate 3 refine pE rfl ?_
 refine WO.nil (qs (W.block (W.len (t := 0) rfl rfl (fun hlen => ?_))))
 try simp only [List.length_map, Ex.aJ] at hlen
 refine W.aW (ι := {x : Nat // match x with | k => k ≤ l.length ∧ ct p l k})
  (fun x => match x.1 with | k => [(8, .d (.v (.int .i64 ((k : Nat) : Int))))]) [(0, _), (1, _), (7, _)]
  (fun x => match x.1 with | k => []) [] [] 0 (fun x => match x.1 with | k => l.length - k)
  [] ⟨0, ?_⟩ rfl ?_ ⟨rfl, (by first | rfl | exact hc.2), rfl, (by first | rfl | exact hc.2), rfl, (by first | rfl | exact hc.2), trivial⟩ ?_ trivial rfl ?_
 · exact ⟨Nat.zero_le _, ct.zero⟩
 · repeat' first | exact trivial | refine ⟨rfl, ?_⟩
 · repeat' exact trivial
 rintro ⟨k, hk, hI⟩
 show W _ _ _ _ _ ⟨[(8, .d (.v (.int .i64 ((k : Nat) : Int)))), (0, _), (1, _), (7, _)], [], [], 0⟩
 refine W.seq (W.region (pE rfl (WO.nil (qs (W.seq (ba (l := l) (k := k) rfl (by simp [Ex.aJ, aE]) hk (fun x hx hd hlt => ?_) (fun he hd => ?_)))))))
 ·
  refine W.skip (qs (W.seq (W.block (W.seq (W.region ?_)))))
  iterate 2 refine pE rfl ?_
  refine WO.nil (qs (W.seq (W.region ?_)))
  iterate 3 refine pE rfl ?_
  refine pu (indexAddr aa rfl rfl rfl rfl rfl rfl (Int.natCast_nonneg _) (aq hx) rfl) rfl ?_
  refine pE rfl (pu (aw rfl rfl (by rw [List.map_append, hc.1 _ 3]; rfl) (hp x) rfl) rfl ?_)
  refine WO.nil (qs (au rfl (fun h16 => ?_) (fun h16 => ?_)))
  ·
   refine W.seq (W.region ?_)
   iterate 2 refine pE rfl ?_
   refine WO.nil (qs (W.ret (aT (aB (dc (aT (aB (QF.az trivial rfl ?_))))))))
   simp only [norm, aL]; rw [hI.found hx h16]; rfl
  refine W.skip (bC (qs (W.region ?_)))
  iterate 2 refine pE rfl ?_
  refine WO.nil (W.bb [] ⟨k + 1, ?_⟩ ?_ rfl ?_ ⟨rfl, (by first | rfl | exact hc.2), rfl, (by first | rfl | exact hc.2), rfl, (by first | rfl | exact hc.2), trivial⟩ ?_ trivial rfl)
  · exact ⟨hlt, hI.step hx h16⟩
  · dsimp only; omega
  · repeat' first | exact trivial | refine ⟨aG (by assumption) (by assumption), ?_⟩
  repeat' exact trivial
 refine W.exit (aP (aS (aM (qs (W.seq (W.region (pE rfl (WO.nil (qs (W.ret (QF.az trivial rfl ?_)))))))))))
 simp only [norm, aL]; rw [hI.end_ he]; rfl
theorem sK (fid : Nat) (caps : List A) (hc : Still caps) (p : Int × Int → Bool) (hp : ∀ x : Int × Int, ax Tryz.prog fid (.ag (bk x) :: caps) (.d (.v (.bool (p x)))) 0) (l : List (Int × Int)) :
  ax Tryz.prog 129 [.d (.sl (l.map bk)), .clo fid caps] (.d (.v (.bool (l.any p)))) 0 := by
 refine ax.aV (n := 9) (ts := [4]) Tryz.func129 (by kernel_rfl) rfl Tryz.ntmps129 Tryz.results129 rfl rfl fun C hC hG => ?_
 refine W.seq (W.region (pE rfl (WO.nil (qs (W.seq (W.region ?_))))))
 iterate 2 refine pE rfl ?_
 refine pu (aw (args := [.d (.sl (l.map bk)), .clo fid caps]) rfl rfl (by simp [conv, hc.1 _ 2]) (nU fid caps hc p hp l) rfl) rfl ?_
 iterate 2 refine pE rfl ?_
 refine WO.nil (qs (W.ret (QF.az trivial rfl ?_)))
 simp only [norm, aL]; rw [← mX]
theorem vw (id : Int) (d : Int × Int) : ax Tryz.prog 220 [.ag (bk d), .row [.d (.v (.int .i64 id))]] (.d (.v (.bool (decide (d.1 = id))))) 0 := by
 refine ax.aV (n := 8) (ts := [3]) Tryz.func220 (by kernel_rfl) rfl Tryz.ntmps220 Tryz.results220 rfl rfl fun C hC hG => ?_
 refine W.seq (W.region (cg rfl rfl rfl (pE rfl (WO.nil (qs (W.seq (W.region (pE rfl (pE rfl (pE rfl ?_))))))))))
 iterate 2 refine pE rfl ?_
 refine WO.nil (qs (W.ret (QF.az trivial rfl ?_)))
 rfl
theorem tF (l : List (Int × Int)) (id : Int) : ax Tryz.prog 202 [.d (.sl (l.map bk)), .d (.v (.int .i64 id))] (.d (.v (.int .i64 (idx (l.findIdx? fun d => decide (d.1 = id)))))) 0 := by
 refine ax.aV (n := 8) (ts := [4]) Tryz.func202 (by kernel_rfl) rfl Tryz.ntmps202 Tryz.results202 rfl rfl fun C hC hG => ?_
 refine W.seq (W.region (cg rfl rfl rfl (pE rfl (WO.nil (qs (W.seq (W.region ?_)))))))
 iterate 2 refine pE rfl ?_
 refine pu (aw rfl rfl rfl (nU _ _ ⟨fun _ _ => rfl, rfl⟩ _ (vw id) l) rfl) rfl ?_
 refine pE rfl (WO.nil (qs (W.ret (QF.az trivial rfl ?_))))
 rfl
theorem vm (t : bz) (d : Int × Int) : ax Tryz.prog 130 [.ag (bk d), .row (t.c.map A.d)] (.d (.v (.bool (decide (d.1 = 0))))) 0 := by
 refine ax.aV (n := 9) (ts := [3]) Tryz.func130 (by kernel_rfl) rfl Tryz.ntmps130 Tryz.results130 rfl rfl fun C hC hG => ?_
 refine W.seq (W.region (cg rfl rfl rfl (pE rfl (WO.nil (qs (W.seq (W.region (pE rfl (pE rfl (pE rfl (pE rfl ?_)))))))))))
 iterate 2 refine pE rfl ?_
 refine WO.nil (qs (W.ret (QF.az trivial rfl ?_)))
 rfl
end Go.Proofs.YtoojafbicmdclaaGreatDoor
namespace Go.Proofs.YtoojafbicmdclaaGreatDoor
open Go.Ab Go.Tb
set_option maxRecDepth 10000
attribute [local irreducible] W WO Pu QS QB QL QF QV bU CH QE
theorem wY {k : Nat} {d : Int × Int} (h : bM[k]? = some d) : k = 0 ∧ d = (0, 0) := by
 match k with
 | 0 => simp [bM] at h; exact ⟨rfl, h.symm⟩
 | k + 1 => simp [bM] at h
theorem sv : ax Tryz.prog 177 [.d (.sl (bM.map bk))] (.d (.v (.int .i64 0))) 0 := by
 refine ax.aV (n := 38) (ts := [2]) Tryz.func177 (by kernel_rfl) rfl Tryz.ntmps177 Tryz.results177 rfl rfl fun C hC hG => ?_
 refine W.seq (W.region (pE rfl (WO.nil (qs ?_))))
 iterate 2 refine W.seq ?_
 refine W.region ?_
 iterate 3 refine pE rfl ?_
 refine WO.nil (qs (W.block ?_))
 refine W.aW (ι := {x : Nat // match x with | k => k ≤ bM.length})
  (fun x => match x.1 with | k => [(7, .d (.v (.int .i64 ((k : Nat) : Int))))]) [(0, _), (5, _), (6, _)]
  (fun x => match x.1 with | k => []) [] [] 0 (fun x => match x.1 with | k => bM.length - k)
  [] ⟨0, ?_⟩ rfl ?_ ⟨rfl, rfl, rfl, rfl, rfl, rfl, trivial⟩ ?_ trivial rfl ?_
 · exact Nat.zero_le _
 · repeat' first | exact trivial | refine ⟨rfl, ?_⟩
 · repeat' exact trivial
 rintro ⟨k, hk⟩
 show W _ _ _ _ _ ⟨[(7, .d (.v (.int .i64 ((k : Nat) : Int)))), (0, _), (5, _), (6, _)], [], [], 0⟩
 refine W.seq (W.region (pE rfl (WO.nil (qs (W.seq (ba (l := bM) (k := k) rfl (by simp [Ex.aJ, aE]) hk (fun d hx hd hlt => ?_) (fun he hd => ?_)))))))
 ·
  obtain ⟨hk0, hd0⟩ := wY hx
  subst hk0
  subst hd0
  refine W.skip (qs (W.seq (W.block (W.seq (W.region (pE rfl (pu (indexAddr (l := bk (0, 0)) aa rfl rfl rfl rfl rfl rfl (by decide) rfl rfl) rfl ?_)))))))
  refine pE rfl (bA aa rfl rfl rfl (pE rfl (aO aa rfl rfl rfl rfl rfl rfl rfl rfl (WO.nil (qs ?_)))))
  iterate 2 refine W.seq ?_
  apply aI; (case hb => rfl)
  ·
   refine pE rfl (pE rfl ?_)
   iterate 2 refine pE rfl ?_
   apply an; (case hj => rfl); (case hl => rfl)
   ·
    iterate 3 refine ae rfl rfl rfl rfl ?_
    iterate 2 refine pE rfl ?_
    iterate 3 refine ae rfl rfl rfl rfl ?_
    iterate 2 refine pE rfl ?_
    iterate 3 refine ae rfl rfl rfl rfl ?_
    refine pE rfl (WO.nil (ay rfl rfl rfl))
   refine ab rfl rfl (pE rfl (ab rfl rfl (pE rfl (ab rfl rfl ?_))))
   iterate 3 refine pE rfl ?_
   apply an; (case hj => rfl); (case hl => rfl)
   ·
    iterate 3 refine ae rfl rfl rfl rfl ?_
    iterate 2 refine pE rfl ?_
    iterate 3 refine ae rfl rfl rfl rfl ?_
    refine pE rfl (WO.nil (ay rfl rfl rfl))
   refine ab rfl rfl (pE rfl (ab rfl rfl (pE rfl (ab rfl rfl ?_))))
   iterate 3 refine pE rfl ?_
   apply an; (case hj => rfl); (case hl => rfl)
   ·
    iterate 3 refine ae rfl rfl rfl rfl ?_
    refine pE rfl (WO.nil (ay rfl rfl rfl))
   refine ab rfl rfl (pE rfl (ab rfl rfl (pE rfl (ab rfl rfl ?_))))
   iterate 2 refine pE rfl ?_
   refine WO.nil (ay rfl rfl rfl)
  refine qs (au rfl (fun h29 => ?_) (fun h29 => ?_))
  ·
   exfalso; simp at h29
  refine W.skip (qs (W.seq (W.cU aa (by kernel_rfl) ?_)))
  iterate 2 refine aC (ev aa rfl) rfl ?_
  refine aC (kv (fn := bk) (l := bM) (i := 0) (j := 0) (r := []) aa rfl rfl rfl rfl rfl (fun _ => rfl) rfl rfl (by decide) (by decide) (by decide) rfl) rfl ?_
  refine aC (ev aa rfl) rfl ?_
  refine aC (ev aa rfl) rfl ?_
  refine aC (aw rfl rfl rfl (tF [] 0) rfl) rfl ?_
  refine aC (ev aa rfl) rfl ?_
  refine CH.nil ?_
  refine qs (au rfl (fun h36 => ?_) (fun h36 => ?_))
  ·
   exfalso; simp [idx] at h36
  refine W.skip (bC (qs (W.region ?_)))
  iterate 2 refine pE rfl ?_
  refine WO.nil (W.bb [] ⟨1, ?_⟩ ?_ rfl ?_ ⟨rfl, rfl, rfl, rfl, rfl, rfl, trivial⟩ ?_ trivial rfl)
  · decide
  · dsimp only; omega
  · repeat' first | exact trivial | refine ⟨rfl, ?_⟩
  repeat' exact trivial
 refine W.exit (aP (aS (aM (qs (W.seq (W.region (pE rfl (WO.nil (qs (W.ret (QF.az trivial rfl ?_)))))))))))
 rfl
theorem vQ : ax Tryz.prog 128 [.d (.sl (bM.map bk)), .d (.sl [])] (.d (.v (.int .i64 0))) 0 := by
 refine ax.aV (n := 43) (ts := [4]) Tryz.func128 (by kernel_rfl) rfl Tryz.ntmps128 Tryz.results128 rfl rfl fun C hC hG => ?_
 refine W.seq (W.region (pE rfl (WO.nil (qs ?_))))
 iterate 2 refine W.seq ?_
 refine W.region ?_
 iterate 3 refine pE rfl ?_
 refine WO.nil (qs (au rfl (fun h11 => ?_) (fun h11 => ?_)))
 ·
  exfalso; simp [bM] at h11
 refine W.skip (qs ?_)
 iterate 2 refine W.seq ?_
 apply aI; (case hb => rfl)
 ·
  iterate 4 refine pE rfl ?_
  apply an; (case hj => rfl); (case hl => rfl)
  ·
   iterate 3 refine ae rfl rfl rfl rfl ?_
   refine pE rfl (WO.nil (ay rfl rfl rfl))
  refine ab rfl rfl (pE rfl (ab rfl rfl (pE rfl (ab rfl rfl ?_))))
  iterate 2 refine pE rfl ?_
  refine WO.nil (ay rfl rfl rfl)
 refine qs (au rfl (fun h19 => ?_) (fun h19 => ?_))
 ·
  exfalso; simp [bM] at h19
 refine W.skip (qs ?_)
 iterate 2 refine W.seq ?_
 refine W.region (pE rfl (pu (indexAddr (l := bk (0, 0)) aa rfl rfl rfl rfl rfl rfl (by decide) rfl rfl) rfl ?_))
 refine pE rfl (pu (build aa rfl rfl rfl rfl) rfl ?_)
 refine pE rfl (WO.nil (qs (au rfl (fun h24 => ?_) (fun h24 => ?_))))
 ·
  exfalso; simp at h24 <;> omega
 refine W.skip (qs ?_)
 iterate 2 refine W.seq ?_
 refine W.region (pE rfl (pu (aw rfl rfl rfl sv rfl) rfl ?_))
 refine pE rfl (WO.nil (qs (W.seq (W.region ?_))))
 iterate 2 refine pE rfl ?_
 refine WO.nil (qs (au rfl (fun h28 => ?_) (fun h28 => ?_)))
 ·
  exfalso; simp at h28
 refine W.skip (qs ?_)
 iterate 2 refine W.seq ?_
 refine W.region ?_
 iterate 3 refine pE rfl ?_
 refine WO.nil (qs (W.block ?_))
 refine W.aW (ι := {x : Nat // match x with | k => k ≤ ([] : List (List D)).length})
  (fun x => match x.1 with | k => [(32, .d (.v (.int .i64 ((k : Nat) : Int))))]) [(0, _), (30, _), (31, _)]
  (fun x => match x.1 with | k => []) [] [] 0 (fun x => match x.1 with | k => ([] : List (List D)).length - k)
  [] ⟨0, ?_⟩ rfl ?_ ⟨rfl, rfl, rfl, rfl, rfl, rfl, trivial⟩ ?_ trivial rfl ?_
 · exact Nat.zero_le _
 · repeat' first | exact trivial | refine ⟨rfl, ?_⟩
 · repeat' exact trivial
 rintro ⟨k, hk⟩
 show W _ _ _ _ _ ⟨[(32, .d (.v (.int .i64 ((k : Nat) : Int)))), (0, _), (30, _), (31, _)], [], [], 0⟩
 refine W.seq (W.region (pE rfl (WO.nil (qs (W.seq (ba (l := ([] : List (List D))) (k := k) rfl (by simp [Ex.aJ, aE]) hk (fun d hx hd hlt => ?_) (fun he hd => ?_)))))))
 ·
  exfalso; simp at hx
 refine W.exit (aP (aS (aM (qs (W.seq (W.region (pE rfl (WO.nil (qs (W.ret (QF.az trivial rfl ?_)))))))))))
 rfl
theorem xn (t : bz) : ax Tryz.prog 129 [.d (.sl (bM.map bk)), .clo 130 [.row (t.c.map A.d)]] (.d (.v (.bool true))) 0 :=
 sK _ _ ⟨fun _ _ => rfl, rfl⟩ _ (vm t) bM
theorem wS (ts : List bz) (ok : rh ts) : ax Tryz.prog 80 [.ag (dD ts)] (.d (.v (.int .i64 (cR ts)))) 0 := by
 refine ax.aV (n := 62) (ts := [2]) Tryz.func80 (by kernel_rfl) rfl Tryz.ntmps80 Tryz.results80 rfl rfl fun C hC hG => ?_
 refine W.seq (W.region (cg rfl rfl rfl (pE rfl (WO.nil (qs (W.seq (W.block (W.seq (W.region (pE rfl (pE rfl ?_)))))))))))
 iterate 3 refine pE rfl ?_
 refine WO.nil (qs (au rfl (fun h10 => ?_) (fun h10 => ?_)))
 ·
  have hg : cR ts = 8 := by simp at h10; unfold cR; rw [if_pos h10]
  refine W.seq (W.region (pE rfl (WO.nil (qs (W.ret (aT (aB (QF.az trivial rfl ?_))))))))
  simp only [norm, aL, hg]
 have hne : ts ≠ [] := by simpa using h10
 refine W.seq (W.region (pE rfl (pE rfl ?_)))
 iterate 3 refine pE rfl ?_
 refine WO.nil (qs (au rfl (fun h15 => ?_) (fun h15 => ?_)))
 ·
  have hg : cR ts = 7 := by simp at h15; unfold cR; rw [if_neg hne, if_pos (by omega)]
  refine W.seq (W.region (pE rfl (WO.nil (qs (W.ret (aT (aB (QF.az trivial rfl ?_))))))))
  simp only [norm, aL, hg]
 have hg : cR ts = 0 := by simp at h15; unfold cR; rw [if_neg hne, if_neg (by omega)]
 have hlen : ts.length ≤ maxLen := by simp at h15; simp only [maxLen]; omega
 refine W.skip (bC (qs (W.seq (W.region (mkMap rfl ?_)))))
 refine pE rfl (WO.nil (qs ?_))
 iterate 2 refine W.seq ?_
 refine W.region (pE rfl (pE rfl ?_))
 iterate 2 refine pE rfl ?_
 refine WO.nil (qs (W.block ?_))
 refine W.aW (ι := {x : Nat // match x with | k => k ≤ ts.length})
  (fun x => match x.1 with | k => [(1, .ptr 0 0), (3, .mp 1 (eE ik tP (gr (ts.take k) bz.id))), (24, .d (.v (.int .i64 ((k : Nat) : Int))))]) [(22, _), (23, _)]
  (fun x => match x.1 with | k => [(0, (dD ts).map A.d)]) [] [1] 2 (fun x => match x.1 with | k => ts.length - k)
  [0, 1] ⟨0, ?_⟩ rfl ?_ ⟨rfl, rfl, rfl, rfl, trivial⟩ ?_ trivial rfl ?_
 · exact Nat.zero_le _
 · repeat' first | exact trivial | refine ⟨rfl, ?_⟩
 · repeat' first | exact trivial | refine ⟨rfl, ?_⟩
 rintro ⟨k, hk⟩
 show W _ _ _ _ _ ⟨[(1, .ptr 0 0), (3, .mp 1 (eE ik tP (gr (ts.take k) bz.id))), (24, .d (.v (.int .i64 ((k : Nat) : Int)))), (22, _), (23, _)], [(0, (dD ts).map A.d)], [1], 2⟩
 refine W.seq (W.region (pE rfl (WO.nil (qs (W.seq (ba (l := ts) (k := k) rfl (by simp [Ex.aJ, aE]) hk (fun t hx hd hlt => ?_) (fun he hd => ?_)))))))
 ·
  have hok := ok.1 t (List.mem_of_getElem? hx)
  refine W.skip (qs (W.seq (W.block (W.seq (W.region (pu (indexAddr aa rfl rfl rfl rfl rfl rfl (Int.natCast_nonneg _) (aq hx) rfl) rfl ?_))))))
  refine pE rfl (bA aa rfl rfl rfl (aO aa rfl rfl rfl rfl rfl rfl rfl rfl (WO.nil (qs ?_))))
  iterate 2 refine W.seq ?_
  refine W.region (pE rfl (pu (aw rfl rfl rfl (uy t hok) rfl) rfl ?_))
  refine pE rfl (WO.nil (qs (W.seq (W.region ?_))))
  iterate 2 refine pE rfl ?_
  refine WO.nil (qs (au rfl (fun h31 => ?_) (fun h31 => ?_)))
  ·
   exfalso; simp at h31
  refine W.skip (qs ?_)
  iterate 2 refine W.seq ?_
  refine W.region ?_
  iterate 2 refine pE rfl ?_
  refine pE rfl (pu (kU (kf := ik) (vf := tP) (l := gr (ts.take k) bz.id) (a := t.id) (z := false) (r := tP false) aa rfl rfl rfl rfl rfl (eU (aa.dU rfl rfl)) rfl rfl rfl (fun _ _ => .v _ rfl) (by rw [hP]; exact gU ok.2 k) (by rw [tR ok.2 hx])) rfl ?_)
  refine WO.nil (qs (au rfl (fun h36 => ?_) (fun h36 => ?_)))
  ·
   exfalso; simp at h36
  refine W.skip (qs (W.region ?_))
  iterate 2 refine pE rfl ?_
  refine pE rfl ?_
  first | refine kG (kf := ik) (vf := tP) (l := gr (ts.take k) bz.id) (a := t.id) (y := true) aa 3 rfl rfl rfl rfl rfl rfl rfl (eU (aa.dU rfl rfl)) rfl rfl (by rw [hP]; exact gU ok.2 k) (by rw [uL ok.2 hx]) rfl ?_
  refine WO.nil (bC (qs (W.region ?_)))
  iterate 2 refine pE rfl ?_
  refine WO.nil (W.bb [0, 3] ⟨k + 1, ?_⟩ ?_ rfl ?_ ⟨rfl, rfl, rfl, rfl, trivial⟩ ?_ trivial rfl)
  · exact hlt
  · dsimp only; omega
  · repeat' first | exact trivial | refine ⟨rfl, ?_⟩ | refine ⟨aG (by assumption) (by assumption), ?_⟩
  repeat' first | exact trivial | refine ⟨rfl, ?_⟩
 refine W.exit (aP (aS (aM (qs ?_))))
 iterate 2 refine W.seq ?_
 refine W.region (pE rfl (pE rfl (pE rfl (pE rfl (pu (aw rfl rfl rfl vQ rfl) rfl ?_)))))
 refine pE rfl (WO.nil (qs (W.seq (W.region ?_))))
 iterate 2 refine pE rfl ?_
 refine WO.nil (qs (au rfl (fun h47 => ?_) (fun h47 => ?_)))
 ·
  exfalso; simp at h47
 refine W.skip (qs ?_)
 iterate 2 refine W.seq ?_
 refine W.region (pE rfl (pE rfl ?_))
 iterate 2 refine pE rfl ?_
 refine WO.nil (qs (W.block ?_))
 refine W.aW (ι := {x : Nat // match x with | k => k ≤ ts.length})
  (fun x => match x.1 with | k => [(1, .ptr 0 0), (52, .d (.v (.int .i64 ((k : Nat) : Int))))]) [(50, _), (51, _)]
  (fun x => match x.1 with | k => [(0, (dD ts).map A.d)]) [] [] 1 (fun x => match x.1 with | k => ts.length - k)
  [0] ⟨0, ?_⟩ rfl ?_ ⟨rfl, rfl, rfl, rfl, trivial⟩ ?_ trivial rfl ?_
 · exact Nat.zero_le _
 · repeat' first | exact trivial | refine ⟨rfl, ?_⟩
 · repeat' first | exact trivial | refine ⟨rfl, ?_⟩
 rintro ⟨k, hk⟩
 show W _ _ _ _ _ ⟨[(1, .ptr 0 0), (52, .d (.v (.int .i64 ((k : Nat) : Int)))), (50, _), (51, _)], [(0, (dD ts).map A.d)], [], 1⟩
 refine W.seq (W.region (pE rfl (WO.nil (qs (W.seq (ba (l := ts) (k := k) rfl (by simp [Ex.aJ, aE]) hk (fun t hx hd hlt => ?_) (fun he hd => ?_)))))))
 ·
  refine W.skip (qs (W.seq (W.block (W.seq (W.region (pu (indexAddr aa rfl rfl rfl rfl rfl rfl (Int.natCast_nonneg _) (aq hx) rfl) rfl ?_))))))
  refine pE rfl (bA aa rfl rfl rfl (aO aa rfl rfl rfl rfl rfl rfl rfl rfl (WO.nil (qs (W.seq (W.region (pE rfl (pE rfl (pE rfl (pu (aw rfl rfl rfl (xn t) rfl) rfl ?_))))))))))
  refine pE rfl (WO.nil (qs (au rfl (fun h60 => ?_) (fun h60 => ?_))))
  ·
   exfalso; simp at h60
  refine W.skip (bC (qs (W.region ?_)))
  iterate 2 refine pE rfl ?_
  refine WO.nil (W.bb [0] ⟨k + 1, ?_⟩ ?_ rfl ?_ ⟨rfl, rfl, rfl, rfl, trivial⟩ ?_ trivial rfl)
  · exact hlt
  · dsimp only; omega
  · repeat' first | exact trivial | refine ⟨rfl, ?_⟩ | refine ⟨aG (by assumption) (by assumption), ?_⟩
  repeat' first | exact trivial | refine ⟨rfl, ?_⟩
 refine W.exit (aP (aS (aM (qs (W.seq (W.region (pE rfl (WO.nil (qs (W.ret (QF.az trivial rfl ?_)))))))))))
 simp only [norm, aL, hg]
theorem uO (p : aK) (h1 : 0 ≤ p.thread ∧ p.thread ≤ 1000000000000000) (h2 : p.serial = 0) (h3 : p.lost = 0) (h4 : 0 < p.evs.length ∧ p.evs.length ≤ 1000) : ax Tryz.prog 131 [.ag p.c] (.d (.v (.int .i64 (dH p.evs none)))) 0 := by
 obtain ⟨th, se, lo, evs⟩ := p
 simp only at h1 h2 h3 h4
 subst h2; subst h3
 have hlen : [th, 0, 0].length ≤ maxLen := by simp [maxLen]
 refine ax.aV (n := 50) (ts := [2]) Tryz.func131 (by kernel_rfl) rfl Tryz.ntmps131 Tryz.results131 rfl rfl fun C hC hG => ?_
 refine W.seq (W.region (cg rfl rfl rfl (pE rfl (WO.nil (qs ?_)))))
 iterate 2 refine W.seq ?_
 refine W.region (pE rfl (pE rfl (pE rfl (pE rfl (pE rfl (pE rfl (pu (bl aa rfl rfl rfl rfl rfl rfl rfl rfl rfl) rfl ?_)))))))
 iterate 2 refine pE rfl ?_
 refine WO.nil (qs (W.block ?_))
 refine W.aW (ι := {x : Nat // match x with | k => k ≤ [th, 0, 0].length})
  (fun x => match x.1 with | k => [(1, .ptr 0 0), (13, .d (.v (.int .i64 ((k : Nat) : Int))))]) [(11, _), (12, _)]
  (fun x => match x.1 with | k => [(0, (aK.c ⟨th, 0, 0, evs⟩).map A.d)]) [] [] 1 (fun x => match x.1 with | k => [th, 0, 0].length - k)
  [0] ⟨0, ?_⟩ rfl ?_ ⟨rfl, rfl, rfl, rfl, trivial⟩ ?_ trivial rfl ?_
 · exact Nat.zero_le _
 · repeat' first | exact trivial | refine ⟨rfl, ?_⟩
 · repeat' first | exact trivial | refine ⟨rfl, ?_⟩
 rintro ⟨k, hk⟩
 show W _ _ _ _ _ ⟨[(1, .ptr 0 0), (13, .d (.v (.int .i64 ((k : Nat) : Int)))), (11, _), (12, _)], [(0, (aK.c ⟨th, 0, 0, evs⟩).map A.d)], [], 1⟩
 refine W.seq (W.region (pE rfl (WO.nil (qs (W.seq (ba (l := [th, 0, 0]) (k := k) rfl (by simp [Ex.aJ, aE]) hk (fun y hx hd hlt => ?_) (fun he hd => ?_)))))))
 ·
  have hy : 0 ≤ y ∧ y ≤ 1000000000000000 := by have := List.mem_of_getElem? hx; simp at this; rcases this with rfl | rfl <;> omega
  refine W.skip (qs (W.seq (W.block (W.seq (W.region (pu (indexAddr aa rfl rfl rfl rfl rfl rfl (Int.natCast_nonneg _) (aq (f := ic) hx) rfl) rfl ?_))))))
  refine pE rfl (pE rfl (WO.nil (qs (W.seq ?_))))
  apply aI; (case hb => rfl)
  ·
   iterate 3 refine pE rfl ?_
   apply an; (case hj => rfl); (case hl => rfl)
   ·
    iterate 2 refine ae rfl rfl rfl rfl ?_
    refine pE rfl (WO.nil (ay rfl rfl rfl))
   refine ab rfl rfl (pE rfl (ab rfl rfl ?_))
   iterate 2 refine pE rfl ?_
   refine WO.nil (ay rfl rfl rfl)
  refine qs (au rfl (fun h22 => ?_) (fun h22 => ?_))
  ·
   exfalso; simp at h22; omega
  refine W.skip (bC (qs (W.region ?_)))
  iterate 2 refine pE rfl ?_
  refine WO.nil (W.bb [0] ⟨k + 1, ?_⟩ ?_ rfl ?_ ⟨rfl, rfl, rfl, rfl, trivial⟩ ?_ trivial rfl)
  · exact hlt
  · dsimp only; omega
  · repeat' first | exact trivial | refine ⟨rfl, ?_⟩ | refine ⟨aG (by assumption) (by assumption), ?_⟩
  repeat' first | exact trivial | refine ⟨rfl, ?_⟩
 refine W.exit (aP (aS (aM (qs (W.seq (W.block ?_))))))
 iterate 2 refine W.seq ?_
 refine W.region (pE rfl (pE rfl (pE rfl (pE rfl ?_))))
 iterate 2 refine pE rfl ?_
 refine WO.nil (qs (au rfl (fun h24 => ?_) (fun h24 => ?_)))
 ·
  exfalso; simp at h24 <;> omega
 refine W.region (pE rfl (pE rfl (pE rfl (pE rfl (pE rfl (pu (cf (ev aa rfl) (y := (evs.length : Int)) (by show IntKind.i64.wrap ((0 : Int) + ((evs.map Ev.c).length : Nat)) = _; rw [List.length_map, wrap64 (by omega)]; omega)) rfl ?_))))))
 iterate 2 refine pE rfl ?_
 refine WO.nil (qs (au rfl (fun h24 => ?_) (fun h24 => ?_)))
 ·
  exfalso; simp at h24 <;> omega
 refine W.seq (W.region (pE rfl (pE rfl ?_)))
 iterate 3 refine pE rfl ?_
 refine WO.nil (qs (au rfl (fun h37 => ?_) (fun h37 => ?_)))
 ·
  exfalso; simp at h37; simp [h37] at h4
 refine W.seq (W.region (pE rfl (pE rfl ?_)))
 iterate 3 refine pE rfl ?_
 refine WO.nil (qs (au rfl (fun h42 => ?_) (fun h42 => ?_)))
 ·
  exfalso; simp at h42; omega
 refine W.skip (bC (qs (W.seq (W.region (pE rfl (pE rfl (pu (aw rfl rfl rfl (qK ..) rfl) rfl ?_)))))))
 refine pE rfl (WO.nil (qs (W.ret (QF.az trivial rfl ?_))))
 rfl
end Go.Proofs.YtoojafbicmdclaaGreatDoor
namespace Go.Proofs.YtoojafbicmdclaaGreatDoor
open Go.Ab Go.Tb
set_option maxRecDepth 10000
attribute [local irreducible] W WO Pu QS QB QL QF QV bU CH QE
theorem rk {p : aK} {e : Ev} {r : List Ev} (hp : p.evs = e :: r) (h : dH p.evs none = 0) : 0 ≤ e.time := by
 rw [hp] at h
 simp only [dH] at h
 by_cases hc : cK e = 0
 ·
  unfold cK at hc
  split at hc
  · cases hc
  omega
 rw [if_pos hc] at h
 exact absurd h hc
theorem sN (th : Int) (e : Ev) (r : List Ev) (h0 : 0 ≤ e.time) : b9 Tryz.prog 132 [.ptr 0 0, .ag (aK.c ⟨th, 0, 0, e :: r⟩)] [z2.map A.d] 0 (.d (.v (.bool true))) [z2.map A.d] 0 := by
 refine b9.iy aa (n := 27) (rs := [.tmp 4]) Tryz.func132 (by kernel_rfl) rfl Tryz.ntmps132 Tryz.results132 rfl rfl fun C hC hG => ?_
 refine W.seq (W.region (cg rfl rfl rfl (pE rfl (WO.nil (qs (W.seq ?_))))))
 apply ke aa; (case hb => rfl); (case hB => kernel_rfl)
 ·
  refine aC (ev aa rfl) rfl ?_
  refine aC (ev aa rfl) rfl ?_
  refine aC (ev aa rfl) rfl ?_
  refine aC (ev aa rfl) rfl ?_
  iterate 4 refine aC (ev aa rfl) rfl ?_
  refine aC (ev aa rfl) rfl ?_
  iterate 2 refine aC (ev aa rfl) rfl ?_
  apply vV; (case hj => rfl); (case hl => rfl)
  ·
   refine bN rfl rfl (ev aa rfl) rfl ?_
   refine bN rfl rfl (ev aa rfl) rfl ?_
   refine bN rfl rfl (indexAddr (l := e.c) aa rfl rfl rfl rfl rfl rfl (by decide) rfl rfl) rfl ?_
   refine bN rfl rfl (ev aa rfl) rfl ?_
   refine bN rfl rfl (ev aa rfl) rfl ?_
   refine bN rfl rfl (ev aa rfl) rfl ?_
   refine bN rfl rfl (ev aa rfl) rfl ?_
   refine bN rfl rfl (ev aa rfl) rfl ?_
   refine bN rfl rfl (ev aa rfl) rfl ?_
   refine bN rfl rfl (ev aa rfl) rfl ?_
   iterate 2 refine aC (ev aa rfl) rfl ?_
   refine CH.nil ?_
   refine ay rfl rfl rfl
  iterate 10 refine mI rfl rfl rfl rfl ?_
  iterate 2 refine aC (ev aa rfl) rfl ?_
  refine CH.nil ?_
  refine ay rfl rfl rfl
 refine qs (W.ret (iE.end aa [] trivial rfl rfl rfl rfl ?_ ?_))
 · exact ⟨rfl, trivial⟩
 simp only [norm, aL]; simp [h0]; rfl
theorem sQ (th : Int) (e : Ev) (r : List Ev) (z : Ev) (hz : (e :: r)[r.length]? = some z) (hl : r.length ≤ 1000) : b9 Tryz.prog 133 [.ptr 0 0, .ag (aK.c ⟨th, 0, 0, e :: r⟩)] [z2.map A.d] 0 (.tup []) [[.d (ci ((r.length : Int) + 1)), .d (ci z.time)]] 0 := by
 refine b9.iy aa (n := 25) (rs := []) Tryz.func133 (by kernel_rfl) rfl Tryz.ntmps133 Tryz.results133 rfl rfl fun C hC hG => ?_
 refine W.seq (W.region (cg rfl rfl rfl (WO.nil (qs (W.seq (W.region ?_))))))
 iterate 2 refine pE rfl ?_
 refine pE rfl (pE rfl (pE rfl (pE rfl (pu (cf (ev aa rfl) (y := (r.length : Int) + 1) (by show IntKind.i64.wrap ((0 : Int) + (((e :: r).map Ev.c).length : Nat)) = _; rw [List.length_map, List.length_cons, wrap64 (by omega)]; omega)) rfl ?_))))
 iterate 2 refine pE rfl ?_
 refine aO aa rfl rfl rfl rfl rfl rfl rfl rfl (WO.nil (qs (W.region ?_)))
 iterate 2 refine pE rfl ?_
 refine pE rfl (pE rfl (pE rfl (pE rfl (pu (cf (ev aa rfl) (y := (r.length : Int)) (by show IntKind.i64.wrap ((((e :: r).map Ev.c).length : Nat) - (1 : Int)) = _; rw [List.length_map, List.length_cons, wrap64 (by omega)]; omega)) rfl ?_))))
 refine pu (indexAddr (l := z.c) aa rfl rfl rfl rfl rfl rfl (Int.natCast_nonneg _) (aq hz) rfl) rfl ?_
 refine pE rfl (pE rfl ?_)
 iterate 2 refine pE rfl ?_
 refine aO aa rfl rfl rfl rfl rfl rfl rfl rfl (WO.nil (iE.end aa [] trivial rfl rfl rfl rfl ?_ ?_))
 · exact ⟨rfl, trivial⟩
 rfl
theorem qe (l : List aK) (k : Nat) : ((l.take k).map fun p => p.evs.length).sum ≤ (l.map fun p => p.evs.length).sum := by
 have h := congrArg (fun x => (x.map fun p : aK => p.evs.length).sum) (List.take_append_drop k l)
 simp only [List.map_append, List.sum_append] at h
 omega
theorem uW (ts : List bz) (ps : List aK) (ok : rh ts) (okp : wH ts ps) : ax Tryz.prog 81 [.ag (dD ts), .d (.sl (ps.map aK.c))] (.d (.v (.int .i64 (cX ps)))) 0 := by
 obtain ⟨ids, hids⟩ : ∃ ids, ids = ts.map bz.id := ⟨_, rfl⟩
 have hnd : ids.Nodup := hids ▸ ok.2
 have hpi : ps.map aK.thread = ids := hids ▸ okp.1
 refine ax.aV (n := 63) (ts := [4]) Tryz.func81 (by kernel_rfl) rfl Tryz.ntmps81 Tryz.results81 rfl rfl fun C hC hG => ?_
 refine W.seq (W.region (cg rfl rfl rfl (pE rfl (WO.nil (qs (W.seq (W.region (x7 rfl ?_))))))))
 refine pE rfl (WO.nil (qs ?_))
 iterate 2 refine W.seq ?_
 refine W.region (pE rfl (pE rfl ?_))
 iterate 2 refine pE rfl ?_
 refine WO.nil (qs (W.block (W.len (t := 16) rfl rfl (fun hlen => ?_))))
 try simp only [List.length_map, Ex.aJ] at hlen
 refine W.aW (ι := {x : Nat // match x with | k => k ≤ ts.length})
  (fun x => match x.1 with | k => [(1, .d (.sl (ps.map aK.c))), (5, .mq 1 (e7 ik (kt ids k))), (18, .d (.v (.int .i64 ((k : Nat) : Int))))]) [(16, _), (17, _)]
  (fun x => match x.1 with | k => [(0, (dD ts).map A.d)]) [] [1] 2 (fun x => match x.1 with | k => ts.length - k)
  [0, 1] ⟨0, ?_⟩ rfl ?_ ⟨rfl, rfl, rfl, rfl, trivial⟩ ?_ trivial rfl ?_
 · exact Nat.zero_le _
 · repeat' first | exact trivial | refine ⟨rfl, ?_⟩
 · repeat' first | exact trivial | refine ⟨rfl, ?_⟩
 rintro ⟨k, hk⟩
 show W _ _ _ _ _ ⟨[(1, .d (.sl (ps.map aK.c))), (5, .mq 1 (e7 ik (kt ids k))), (18, .d (.v (.int .i64 ((k : Nat) : Int)))), (16, _), (17, _)], [(0, (dD ts).map A.d)], [1], 2⟩
 refine W.seq (W.region (pE rfl (WO.nil (qs (W.seq (ba (l := ts) (k := k) rfl (by simp [Ex.aJ, aE]) hk (fun t hx hd hlt => ?_) (fun he hd => ?_)))))))
 ·
  have hti : ids[k]? = some t.id := by rw [hids]; simp [hx]
  refine W.skip (qs (W.seq (W.block (W.seq (W.region (pu (indexAddr aa rfl rfl rfl rfl rfl rfl (Int.natCast_nonneg _) (aq hx) rfl) rfl ?_))))))
  refine pE rfl (bA aa rfl rfl rfl (aO aa rfl rfl rfl rfl rfl rfl rfl rfl (WO.nil (qs (W.region ?_)))))
  iterate 2 refine pE rfl ?_
  refine pE rfl (pu (build aa rfl rfl rfl rfl) rfl ?_)
  refine cg rfl rfl rfl ?_
  first | refine xk (kf := ik) (l := kt ids k) (a := t.id) (y := z2) aa 5 rfl rfl rfl rfl rfl rfl rfl rfl (eU (aa.dU rfl rfl)) rfl rfl (by rw [pz]; exact hnd.sublist (List.take_sublist _ _)) (by rw [pz]; exact tS hnd hti) rfl rfl (by rw [we hti]) rfl ?_
  refine WO.nil (bC (qs (W.region ?_)))
  iterate 2 refine pE rfl ?_
  refine WO.nil (W.bb [0, 5] ⟨k + 1, ?_⟩ ?_ rfl ?_ ⟨rfl, rfl, rfl, rfl, trivial⟩ ?_ trivial rfl)
  · exact hlt
  · dsimp only; omega
  · repeat' first | exact trivial | refine ⟨rfl, ?_⟩ | refine ⟨aG (by assumption) (by assumption), ?_⟩
  repeat' first | exact trivial | refine ⟨rfl, ?_⟩
 have hq : kt ids k = tq ids 0 := xo (by rw [hids, List.length_map]; exact he)
 rw [hq]
 refine W.exit (aP (aS (aM (qs (W.seq (W.region (pE rfl (WO.nil (qs ?_)))))))))
 iterate 2 refine W.seq ?_
 refine W.region ?_
 iterate 3 refine pE rfl ?_
 refine WO.nil (qs (W.block (W.len (t := 28) rfl rfl (fun hlen => ?_))))
 try simp only [List.length_map, Ex.aJ] at hlen
 refine W.aW (ι := {x : Nat × Nat // match x with | (k, c) => k ≤ ps.length ∧ cX (ps.drop k) = cX ps ∧ c = ((ps.take k).map fun p => p.evs.length).sum})
  (fun x => match x.1 with | (k, c) => [(5, .mq 1 (e7 ik (tq ids k))), (8, .d (.v (.int .i64 ((c : Nat) : Int)))), (30, .d (.v (.int .i64 ((k : Nat) : Int))))]) [(28, _), (29, _)]
  (fun x => match x.1 with | (k, c) => [(0, (dD ts).map A.d)]) [] [1] 2 (fun x => match x.1 with | (k, c) => ps.length - k)
  [0, 1] ⟨(0, 0), ?_⟩ rfl ?_ ⟨rfl, rfl, rfl, rfl, trivial⟩ ?_ trivial rfl ?_
 · exact ⟨Nat.zero_le _, rfl, rfl⟩
 · repeat' first | exact trivial | refine ⟨rfl, ?_⟩
 · repeat' first | exact trivial | refine ⟨rfl, ?_⟩
 rintro ⟨⟨k, c⟩, hk, hI, hc⟩
 show W _ _ _ _ _ ⟨[(5, .mq 1 (e7 ik (tq ids k))), (8, .d (.v (.int .i64 ((c : Nat) : Int)))), (30, .d (.v (.int .i64 ((k : Nat) : Int)))), (28, _), (29, _)], [(0, (dD ts).map A.d)], [1], 2⟩
 refine W.seq (W.region (pE rfl (WO.nil (qs (W.seq (ba (l := ps) (k := k) rfl (by simp [Ex.aJ, aE]) hk (fun p hx hd hlt => ?_) (fun he hd => ?_)))))))
 ·
  obtain ⟨hs0, hl0, he0, he1⟩ := okp.2.1 p (List.mem_of_getElem? hx)
  have hpt : ids[k]? = some p.thread := by rw [← hpi]; simp [hx]
  have hth : 0 ≤ p.thread ∧ p.thread ≤ 1000000000000000 := by
   have := List.mem_of_getElem? hpt
   rw [hids] at this
   obtain ⟨t, ht, e⟩ := List.mem_map.1 this
   have := ok.1 t ht
   omega
  obtain ⟨th, se, lo, evs⟩ := p
  simp only at hs0 hl0 he0 he1 hth hpt
  subst hs0
  subst hl0
  obtain ⟨e, r, her⟩ : ∃ e r, evs = e :: r := by
   cases evs with
   | nil => simp at he0
   | cons e r => exact ⟨e, r, rfl⟩
  subst her
  have hcl : c ≤ 20000 := hc ▸ Nat.le_trans (qe ps k) okp.2.2
  have hrl : r.length ≤ 1000 := by simp at he1; omega
  obtain ⟨z, hz⟩ : ∃ z, (e :: r)[r.length]? = some z := ⟨(e :: r)[r.length], by simp⟩
  refine W.skip (qs (W.seq (W.block (W.seq (W.region (pu (indexAddr aa rfl rfl rfl rfl rfl rfl (Int.natCast_nonneg _) (aq hx) rfl) rfl ?_))))))
  refine pE rfl (bA aa rfl rfl rfl (aO aa rfl rfl rfl rfl rfl rfl rfl rfl (WO.nil (qs ?_))))
  iterate 2 refine W.seq ?_
  refine W.region (pE rfl (pu (aw rfl rfl rfl (uO ⟨th, 0, 0, e :: r⟩ hth rfl rfl ⟨he0, he1⟩) rfl) rfl ?_))
  refine pE rfl (WO.nil (qs (W.seq (W.region ?_))))
  iterate 2 refine pE rfl ?_
  refine WO.nil (qs (au rfl (fun h37 => ?_) (fun h37 => ?_)))
  ·
   have hg : cX ps = dH (e :: r) none := by
    rw [← hI, hd, cX]
    exact if_pos (by simpa using h37)
   refine W.seq (W.region ?_)
   iterate 2 refine pE rfl ?_
   refine WO.nil (qs (W.ret (aB (aT (aB (dc (aT (aB (QF.az trivial rfl ?_)))))))))
   rw [hg]; rfl
  have ha0 : dH (e :: r) none = 0 := by simpa using h37
  have ht0 : 0 ≤ e.time := rk (p := ⟨th, 0, 0, e :: r⟩) rfl ha0
  refine W.skip (qs (W.seq (W.region ?_)))
  iterate 2 refine pE rfl ?_
  refine pE rfl (vC (kf := ik) (l := tq ids k) (a := th) (y := z2) aa 5 k rfl rfl rfl rfl rfl rfl rfl rfl (eU (aa.dU rfl rfl)) rfl rfl rfl rfl rfl (by rw [xw]; exact hnd) (xP hpt) (by rw [xR hpt]) rfl ?_)
  iterate 5 refine pE rfl ?_
  refine WO.nil (qs ?_)
  iterate 2 refine W.seq ?_
  refine W.region ?_
  iterate 2 refine pE rfl ?_
  refine WO.nil (qs (au rfl (fun h47 => ?_) (fun h47 => ?_)))
  ·
   exfalso; simp at h47
  refine W.skip (qs ?_)
  iterate 2 refine W.seq ?_
  refine W.region (pE rfl (pE rfl (fP [5] [] rfl rfl rfl rfl rfl ((sN th e r ht0)) rfl rfl (by rfl) (by rfl) rfl rfl rfl rfl ?_)))
  refine pE rfl (WO.nil (qs (au rfl (fun h51 => ?_) (fun h51 => ?_))))
  ·
   exfalso; simp at h51
  refine W.skip (qs (W.seq (W.region (pE rfl (pE rfl (fP [5] [] rfl rfl rfl rfl rfl ((sQ th e r z hz hrl)) rfl rfl (by rfl) (by rfl) rfl rfl rfl rfl ?_))))))
  refine WO.nil (qs (W.region ?_))
  iterate 2 refine pE rfl ?_
  refine pE rfl (pE rfl (pu (cf (ev aa rfl) (y := ((c + (r.length + 1) : Nat) : Int)) (by show IntKind.i64.wrap ((c : Int) + (((e :: r).map Ev.c).length : Nat)) = _; rw [List.length_map, List.length_cons, wrap64 (by omega)]; omega)) rfl ?_))
  refine pE rfl (WO.nil (bC (qs (W.region ?_))))
  iterate 2 refine pE rfl ?_
  refine WO.nil (W.bb [0, 3] ⟨(k + 1, c + (r.length + 1)), ?_⟩ ?_ rfl ?_ ⟨rfl, rfl, rfl, rfl, trivial⟩ ?_ trivial rfl)
  · exact ⟨hlt, by rw [← hI, hd, cX, if_neg (by simpa using ha0)], by rw [hc, List.take_add_one, hx]; simp⟩
  · dsimp only; omega
  · repeat' first | exact trivial | refine ⟨rfl, ?_⟩ | refine ⟨aG (by assumption) (by assumption), ?_⟩
  repeat' first | exact trivial | refine ⟨rfl, ?_⟩
 have hg : cX ps = 0 := by rw [← hI, hd]; rfl
 have hcl : c ≤ 20000 := hc ▸ Nat.le_trans (qe ps k) okp.2.2
 refine W.exit (aP (aS (aM (qs ?_))))
 iterate 2 refine W.seq ?_
 refine W.region ?_
 iterate 2 refine pE rfl ?_
 refine WO.nil (qs (au rfl (fun h62 => ?_) (fun h62 => ?_)))
 ·
  exfalso; simp at h62; omega
 refine W.skip (qs (W.seq (W.region (pE rfl (WO.nil (qs (W.ret (QF.az trivial rfl ?_))))))))
 rw [hg]; rfl
end Go.Proofs.YtoojafbicmdclaaGreatDoor
namespace Go.Proofs.YtoojafbicmdclaaGreatDoor
open Go.Ab Go.Tb
set_option maxRecDepth 10000
attribute [local irreducible] W WO Pu QS QB QL QF QV bU CH QE
abbrev y7 (th : Int) : List D := [ci th, ci 0, ci 0, .v (.slice none 0 0)]
theorem xg (th : Int) (evs : List Ev) (h0 : 0 < evs.length) (h1 : evs.length ≤ 1000) : b9 Tryz.prog 82 [.xs 0 [y7 th], .d (.sl (evs.map Ev.c))] [] 1 (.own 0 [aK.c ⟨th, 0, 0, evs⟩]) [] 1 := by
 refine b9.iy aa (n := 54) (rs := [.tmp 4]) Tryz.func82 (by kernel_rfl) rfl Tryz.ntmps82 Tryz.results82 rfl rfl fun C hC hG => ?_
 refine W.seq (W.region (pE rfl (WO.nil (qs (W.seq (W.block ?_))))))
 refine W.aW (ι := {x : Nat // match x with | j => j ≤ 1})
  (fun x => match x.1 with | j => [(0, .xs 0 [[ci th, ci 0, ci 0, zd evs j]]), (1, .d (.sl ((wE evs j).map Ev.c)))]) []
  (fun x => match x.1 with | j => []) [] [0] 1 (fun x => match x.1 with | j => 1 - j)
  [0] ⟨0, ?_⟩ rfl ?_ trivial ?_ trivial rfl ?_
 · exact Nat.zero_le _
 · repeat' first | exact trivial | refine ⟨rfl, ?_⟩
 · repeat' exact trivial
 rintro ⟨j, hj⟩
 show W _ _ _ _ _ ⟨[(0, .xs 0 [[ci th, ci 0, ci 0, zd evs j]]), (1, .d (.sl ((wE evs j).map Ev.c)))], [], [0], 1⟩
 iterate 2 refine W.seq ?_
 refine W.region ?_
 iterate 3 refine pE rfl ?_
 refine WO.nil (qs (au rfl (fun h9 => ?_) (fun h9 => ?_)))
 ·
  have hj0 : j = 0 := by
   match j, hj with
   | 0, _ => rfl
   | 1, _ => exfalso; simp [wE] at h9
  subst hj0
  refine W.skip (qs (W.block (W.seq (W.region ?_))))
  iterate 2 refine pE rfl ?_
  refine pu (vJ aa rfl rfl rfl rfl) rfl ?_
  refine pu (cf (ev aa rfl) (y := 0) (by rfl)) rfl ?_
  refine pu (pK (l := y7 th) aa rfl rfl rfl rfl rfl rfl (by decide) rfl rfl) rfl ?_
  refine pE rfl (WO.nil (qs (W.seq (W.region (pE rfl (pu (sB rfl rfl) rfl ?_))))))
  refine pu (jx aa rfl rfl rfl rfl rfl rfl) rfl ?_
  refine pu (oH aa rfl rfl rfl) rfl ?_
  refine pE rfl (pu (cf (ev aa rfl) (y := 1000) (by rfl)) rfl ?_)
  iterate 2 refine pE rfl ?_
  refine pu (cf (ev aa rfl) (y := (evs.length : Int)) (by show (if (((evs.map Ev.c).length : Nat) : Int) < 1000 then (((evs.map Ev.c).length : Nat) : Int) else 1000) = _; rw [List.length_map]; split <;> omega)) rfl ?_
  refine pE rfl (WO.nil (qs ?_))
  iterate 2 refine W.seq ?_
  refine W.region ?_
  iterate 2 refine pE rfl ?_
  refine WO.nil (qs (au rfl (fun h25 => ?_) (fun h25 => ?_)))
  ·
   exfalso; have := of_decide_eq_true h25; omega
  refine W.skip (qs (W.seq ?_))
  apply W.ij aa 9 8; (case hB => kernel_rfl); (case h1 => rfl); (case h2 => rfl)
  refine' aX ?p1_1 (ev aa rfl) rfl rfl rfl rfl rfl ?h_1
  case' h_1 => skip
  refine' aX ?p1_2 (ev aa rfl) rfl rfl rfl rfl rfl ?h_2
  case' h_2 => skip
  refine' aX ?p1_3 (sB rfl rfl) rfl rfl rfl rfl rfl ?h_3
  case' h_3 => skip
  refine' aX ?p1_4 (jx aa rfl rfl rfl rfl rfl rfl) rfl rfl rfl rfl rfl ?h_4
  case' h_4 => skip
  refine' fh (oH aa rfl rfl rfl) rfl rfl rfl rfl rfl ?h_5
  case' h_5 => skip
  refine' aX ?p1_6 (ev aa rfl) rfl rfl rfl rfl rfl ?h_6
  case' h_6 => skip
  refine' aX ?p1_7 (ev aa rfl) rfl rfl rfl rfl rfl ?h_7
  case' h_7 => skip
  refine' fh (kv (fn := Ev.c) (l := evs) (i := 0) (j := (evs.length : Int)) (r := evs) aa rfl rfl rfl rfl rfl (fun _ => rfl) rfl rfl (by decide) (by omega) (by omega) (by rw [show ((evs.length : Int)).toNat = evs.length from rfl, List.take_length]; rfl)) rfl rfl rfl rfl rfl ?h_8
  case' h_8 => skip
  refine' qR (fun g => ?e_9) rfl rfl rfl ?h_9
  case e_9 =>
   refine sw (es2 := evs.map Ev.c) aa rfl rfl rfl rfl rfl rfl rfl rfl rfl (fun x hx => by obtain ⟨y, _, rfl⟩ := List.mem_map.1 hx; rfl) (by rw [List.length_map]; show evs.length * 72 ≤ 140737488355328; omega) ?_
   refine WO.nil ?_
   exact ⟨rfl, rfl⟩
  case' h_9 => skip
  case p1_1 => exact (ev aa rfl)
  case p1_2 => exact (ev aa rfl)
  case p1_3 => exact (sB rfl rfl)
  case p1_4 => exact (jx aa rfl rfl rfl rfl rfl rfl)
  case p1_6 => exact (ev aa rfl)
  case p1_7 => exact (ev aa rfl)
  refine CC.nil ?_
  refine pu (sB rfl rfl) rfl ?_
  refine pu (jx aa rfl rfl rfl rfl rfl rfl) rfl ?_
  refine qd aa 0 rfl rfl rfl rfl rfl rfl rfl rfl rfl rfl rfl rfl rfl ?_
  refine WO.nil (qs (W.region ?_))
  iterate 2 refine pE rfl ?_
  refine pu (kv (fn := Ev.c) (l := evs) (i := (evs.length : Int)) (j := (evs.length : Int)) (r := []) aa rfl rfl rfl rfl rfl (fun _ => rfl) rfl rfl (by omega) (by omega) (by omega) (by show (evs.take evs.length).drop evs.length = []; rw [List.take_length, List.drop_length])) rfl ?_
  refine pE rfl (WO.nil (bC (W.bb [2] ⟨1, ?_⟩ ?_ rfl ?_ trivial ?_ trivial rfl)))
  · decide
  · dsimp only; omega
  · repeat' first | exact trivial | refine ⟨rfl, ?_⟩
  repeat' exact trivial
 have hj1 : j = 1 := by
  match j, hj with
  | 0, _ => exfalso; have h9 := of_decide_eq_false h9; rw [List.length_map] at h9; simp only [wE] at h9; omega
  | 1, _ => rfl
 subst hj1
 refine W.exit (aP (aS (aM (qs (W.seq (W.region ?_))))))
 iterate 2 refine pE rfl ?_
 refine WO.nil (qs (xF 4 rfl rfl rfl rfl ?_))
 refine W.ret (iE.end aa [1] trivial rfl rfl rfl rfl ?_ ?_)
 · trivial
 rfl
end Go.Proofs.YtoojafbicmdclaaGreatDoor
namespace Go.Proofs.YtoojafbicmdclaaGreatDoor
open Go.Ab Go.Tb
set_option maxRecDepth 10000
attribute [local irreducible] W WO Pu QS QB QL QF QV bU CH QE
abbrev qn : D → D := fun d => d
def fm (l : List aK) : List (Int × D) := l.map fun p => (p.thread, .sl [p.c])
theorem fG (l : List aK) : (fm l).map (·.1) = l.map aK.thread := by unfold fm; rw [List.map_map]; rfl
theorem uM {l : List aK} {k : Nat} {p : aK} (hn : (l.map aK.thread).Nodup) (h : l[k]? = some p) : bT (fm (l.take k)) p.thread (.sl [p.c]) = fm (l.take (k + 1)) := by
 rw [ga]
 ·
  unfold fm
  rw [List.take_add_one, h, List.map_append]; rfl
 intro q hq e
 have := eu hn h
 rw [← fG] at this
 exact this (List.mem_map.2 ⟨q, hq, e⟩)
theorem uC {l : List aK} {k : Nat} {p : aK} (hn : (l.map aK.thread).Nodup) (h : l[k]? = some p) : (cH (fm (l.take k)) p.thread).getD (.v (.slice none 0 0)) = .v (.slice none 0 0) := by
 rw [mc]; rfl
 intro q hq e
 have := eu hn h
 rw [← fG] at this
 exact this (List.mem_map.2 ⟨q, hq, e⟩)
theorem s0 {l : List aK} {k : Nat} {p : aK} (hn : (l.map aK.thread).Nodup) (h : l[k]? = some p) : (cH (fm l) p.thread).getD (.v (.slice none 0 0)) = .sl ([p].map aK.c) := by
 rw [lO (i := k) (by rw [fG]; exact hn) (v := .sl [p.c]) (by unfold fm; rw [List.getElem?_map, h]; rfl)]; rfl
theorem yR (ts : List bz) (ps : List aK) (ok : rh ts) (okp : wH ts ps) : ax Tryz.prog 26 [.ag (dD ts), .d (.sl (ps.map aK.c))] (.tup [.ag (dK ts ps).1.c, .d (ci (dK ts ps).2)]) 0 := by
 have hn : (ps.map aK.thread).Nodup := okp.1 ▸ ok.2
 refine ax.iy aa (n := 84) (rs := [.cell 4 30, .tmp 5]) Tryz.func26 (by kernel_rfl) rfl Tryz.ntmps26 Tryz.results26 rfl fun C hC hG => ?_
 refine W.seq (W.region (cg rfl rfl rfl (bA aa rfl rfl rfl (pE rfl (WO.nil (qs ?_))))))
 iterate 2 refine W.seq ?_
 refine W.region (pE rfl (pu (aw rfl rfl rfl ((wS _ (by assumption))) rfl) rfl ?_))
 refine pE rfl (WO.nil (qs (W.seq (W.region ?_))))
 iterate 2 refine pE rfl ?_
 refine WO.nil (qs (au rfl (fun h18 => ?_) (fun h18 => ?_)))
 ·
  have hg : dK ts ps = (eQ, cR ts) := by unfold dK; rw [if_pos (by simpa using h18)]
  refine W.seq (W.region (pu (build aa rfl rfl rfl rfl) rfl ?_))
  refine jQ 19 rfl rfl rfl ?_
  refine pE rfl (aO aa rfl rfl rfl rfl rfl rfl rfl rfl (pE rfl (WO.nil (qs (W.ret (aB (QV.az aa trivial rfl ?_)))))))
  rw [hg]; rfl
 have h0 : cR ts = 0 := by simpa using h18
 refine W.skip (qs ?_)
 iterate 2 refine W.seq ?_
 refine W.region (pE rfl (pE rfl (pu (aw rfl rfl rfl ((uW _ _ (by assumption) (by assumption))) rfl) rfl ?_)))
 refine pE rfl (WO.nil (qs (W.seq (W.region ?_))))
 iterate 2 refine pE rfl ?_
 refine WO.nil (qs (au rfl (fun h25 => ?_) (fun h25 => ?_)))
 ·
  have hg : dK ts ps = (eQ, cX ps) := by unfold dK; rw [if_neg (by simp [h0]), if_pos (by simpa using h25)]
  refine W.seq (W.region (pu (build aa rfl rfl rfl rfl) rfl ?_))
  refine jQ 26 rfl rfl rfl ?_
  refine pE rfl (aO aa rfl rfl rfl rfl rfl rfl rfl rfl (pE rfl (WO.nil (qs (W.ret (aB (QV.az aa trivial rfl ?_)))))))
  rw [hg]; rfl
 have hg : dK ts ps = (⟨ts, bM, ps⟩, 0) := by unfold dK; rw [if_neg (by simp [h0]), if_neg (by simpa using h25)]
 refine W.skip (qs (W.seq (W.region (mkMap rfl ?_))))
 refine pE rfl (WO.nil (qs ?_))
 iterate 2 refine W.seq ?_
 refine W.region ?_
 iterate 3 refine pE rfl ?_
 refine WO.nil (qs (W.block (W.len (t := 29) rfl rfl (fun hlen => ?_))))
 try simp only [List.length_map, Ex.aJ] at hlen
 refine W.aW (ι := {x : Nat // match x with | k => k ≤ ps.length})
  (fun x => match x.1 with | k => [(2, .ptr 0 0), (4, .ptr 1 0), (8, .mp 2 (eE ik qn (fm (ps.take k)))), (31, .d (.v (.int .i64 ((k : Nat) : Int))))]) [(29, _), (30, _)]
  (fun x => match x.1 with | k => [(0, (dD ts).map A.d), (1, [.d (.v (.slice none 0 0)), .d (.v (.slice none 0 0)), .d (.v (.slice none 0 0)), .d (.v (.slice none 0 0))])]) [] [2] 3 (fun x => match x.1 with | k => ps.length - k)
  [0, 1, 2] ⟨0, ?_⟩ rfl ?_ ⟨rfl, rfl, rfl, rfl, trivial⟩ ?_ trivial rfl ?_
 · exact Nat.zero_le _
 · repeat' first | exact trivial | refine ⟨rfl, ?_⟩
 · repeat' first | exact trivial | refine ⟨rfl, ?_⟩
 rintro ⟨k, hk⟩
 show W _ _ _ _ _ ⟨[(2, .ptr 0 0), (4, .ptr 1 0), (8, .mp 2 (eE ik qn (fm (ps.take k)))), (31, .d (.v (.int .i64 ((k : Nat) : Int)))), (29, _), (30, _)], [(0, (dD ts).map A.d), (1, [.d (.v (.slice none 0 0)), .d (.v (.slice none 0 0)), .d (.v (.slice none 0 0)), .d (.v (.slice none 0 0))])], [2], 3⟩
 refine W.seq (W.region (pE rfl (WO.nil (qs (W.seq (ba (l := ps) (k := k) rfl (by simp [Ex.aJ, aE]) hk (fun p hx hd hlt => ?_) (fun he hd => ?_)))))))
 ·
  obtain ⟨hs0, hl0, he0, he1⟩ := okp.2.1 p (List.mem_of_getElem? hx)
  have hget := uC hn hx
  have hput := uM hn hx
  obtain ⟨th, se, lo, evs⟩ := p
  simp only at hs0 hl0 he0 he1
  subst hs0
  subst hl0
  refine W.skip (qs (W.seq (W.block (W.seq (W.region (pu (indexAddr aa rfl rfl rfl rfl rfl rfl (Int.natCast_nonneg _) (aq hx) rfl) rfl ?_))))))
  refine pE rfl (bA aa rfl rfl rfl (aO aa rfl rfl rfl rfl rfl rfl rfl rfl (WO.nil (qs (W.seq (W.region ?_))))))
  iterate 2 refine pE rfl ?_
  refine pE rfl (pu (kU (kf := ik) (vf := qn) (l := fm (ps.take k)) (a := th) (z := .v (.slice none 0 0)) (r := .v (.slice none 0 0)) aa rfl rfl rfl rfl rfl (eU (aa.dU rfl rfl)) rfl rfl rfl (fun _ _ => .v _ rfl) (by rw [fG]; exact gU hn k) (by rw [hget])) rfl ?_)
  refine pE rfl (WO.nil (qs ?_))
  iterate 2 refine W.seq ?_
  apply aI; (case hb => rfl)
  ·
   refine pE rfl (pE rfl ?_)
   iterate 2 refine pE rfl ?_
   apply cI; (case hj => rfl); (case hl => rfl)
   ·
    intro g42
    iterate 3 refine ae rfl rfl rfl rfl ?_
    refine pE rfl (WO.nil (ay rfl rfl rfl))
   intro g42
   refine ab rfl rfl (pE rfl (ab rfl rfl (pE rfl (ab rfl rfl ?_))))
   iterate 2 refine pE rfl ?_
   refine WO.nil (ay rfl rfl rfl)
  refine qs (au rfl (fun h46 => ?_) (fun h46 => ?_))
  ·
   refine W.sO (d := 11) rfl rfl ?_
   refine W.region ?_
   iterate 2 refine pE rfl ?_
   refine pE rfl (pE rfl (pE rfl (pE rfl (pE rfl (pu (build aa rfl rfl rfl rfl) rfl ?_)))))
   refine pu (bl aa rfl rfl rfl rfl rfl rfl rfl rfl rfl) rfl ?_
   refine l4 aa rfl rfl rfl rfl rfl rfl rfl rfl rfl rfl rfl (fun x hx => by obtain rfl := List.mem_singleton.1 hx; rfl) (by show 1 * 48 ≤ 140737488355328; decide) rfl ?_
   refine pE rfl (WO.nil (qs ?_))
   apply W.ij aa 7 6; (case hB => kernel_rfl); (case h1 => rfl); (case h2 => rfl)
   refine' aX ?p1_1 (ev aa rfl) rfl rfl rfl rfl rfl ?h_1
   case' h_1 => skip
   refine' aX ?p1_2 (ev aa rfl) rfl rfl rfl rfl rfl ?h_2
   case' h_2 => skip
   refine' aX ?p1_3 (ev aa rfl) rfl rfl rfl rfl rfl ?h_3
   case' h_3 => skip
   refine' fh (ev aa rfl) rfl rfl rfl rfl rfl ?h_4
   case' h_4 => skip
   refine' aX ?p1_5 (ev aa rfl) rfl rfl rfl rfl rfl ?h_5
   case' h_5 => skip
   refine' fh (ev aa rfl) rfl rfl rfl rfl rfl ?h_6
   case' h_6 => skip
   refine' qR (fun g => ?e_7) rfl rfl rfl ?h_7
   case e_7 =>
    refine fP [] [5] rfl rfl rfl rfl rfl ((xg th evs he0 he1)) rfl rfl (by rfl) (by rfl) rfl rfl rfl rfl ?_
    refine WO.nil ?_
    exact ⟨rfl, rfl⟩
   case' h_7 => skip
   case p1_1 => exact (ev aa rfl)
   case p1_2 => exact (ev aa rfl)
   case p1_3 => exact (ev aa rfl)
   case p1_5 => exact (ev aa rfl)
   refine CC.nil ?_
   first | refine kG (kf := ik) (vf := qn) (l := fm (ps.take k)) (a := th) (y := .sl [aK.c ⟨th, 0, 0, evs⟩]) aa 8 rfl rfl rfl rfl rfl rfl rfl (eU (aa.dU rfl rfl)) rfl rfl (by rw [fG]; exact gU hn k) (by rw [hput]) rfl ?_
   refine WO.nil (bC (qs (W.region ?_)))
   iterate 2 refine pE rfl ?_
   refine WO.nil (W.bb [0, 1, 7] ⟨k + 1, ?_⟩ ?_ rfl ?_ ⟨rfl, rfl, rfl, rfl, trivial⟩ ?_ trivial rfl)
   · exact hlt
   · dsimp only; omega
   · repeat' first | exact trivial | refine ⟨rfl, ?_⟩ | refine ⟨aG (by assumption) (by assumption), ?_⟩
   repeat' first | exact trivial | refine ⟨rfl, ?_⟩
  exfalso; simp at h46
 have hpl : ps.take k = ps := List.take_of_length_le (by omega)
 rw [hpl]
 have htl : ts.length = ps.length := by have := congrArg List.length okp.1; simpa using this.symm
 have h64 : ts.length ≤ 64 := by
  unfold cR at h0
  split at h0
  · cases h0
  split at h0
  · cases h0
  omega
 have htm : ts.length ≤ maxLen := by simp only [maxLen]; omega
 refine W.exit (aP (aS (aM (qs (W.seq (W.region (pE rfl (pu (build aa rfl rfl rfl rfl) rfl ?_))))))))
 refine bA aa rfl rfl rfl (aO aa rfl rfl rfl rfl rfl rfl rfl rfl (WO.nil (qs ?_)))
 iterate 2 refine W.seq ?_
 refine dy 3 3 rfl rfl rfl ?_
 refine W.region (pE rfl (pE rfl ?_))
 iterate 2 refine pE rfl ?_
 refine WO.nil (qs (W.block ?_))
 refine W.aW (ι := {x : Nat × List aK // match x with | (k, m) => k ≤ ts.length ∧ m = ps.take k})
  (fun x => match x.1 with | (k, m) => [(4, .ptr 0 0), (8, .mp 2 (eE ik qn (fm ps))), (12, .ptr 1 0), (70, .d (.v (.int .i64 ((k : Nat) : Int))))]) [(68, _), (69, _)]
  (fun x => match x.1 with | (k, m) => [(0, [.d (.v (.slice none 0 0)), .d (.v (.slice none 0 0)), .d (.v (.slice none 0 0)), .d (.v (.slice none 0 0))]), (1, [.d (.sl (ts.map bz.c)), .d (.sl (bM.map bk)), .d (.sl []), .own 3 (m.map aK.c)])]) [] [2, 3] 4 (fun x => match x.1 with | (k, m) => ts.length - k)
  [1, 3, 2, 4] ⟨(0, []), ?_⟩ rfl ?_ ⟨rfl, rfl, rfl, rfl, trivial⟩ ?_ trivial rfl ?_
 · exact ⟨Nat.zero_le _, rfl⟩
 · repeat' first | exact trivial | refine ⟨rfl, ?_⟩
 · repeat' first | exact trivial | refine ⟨rfl, ?_⟩
 rintro ⟨⟨k, m⟩, hk, hM⟩
 show W _ _ _ _ _ ⟨[(4, .ptr 0 0), (8, .mp 2 (eE ik qn (fm ps))), (12, .ptr 1 0), (70, .d (.v (.int .i64 ((k : Nat) : Int)))), (68, _), (69, _)], [(0, [.d (.v (.slice none 0 0)), .d (.v (.slice none 0 0)), .d (.v (.slice none 0 0)), .d (.v (.slice none 0 0))]), (1, [.d (.sl (ts.map bz.c)), .d (.sl (bM.map bk)), .d (.sl []), .own 3 (m.map aK.c)])], [2, 3], 4⟩
 refine W.seq (W.region (pE rfl (WO.nil (qs (W.seq (ba (l := ts) (k := k) rfl (by simp [Ex.aJ, aE]) hk (fun t hx hd hlt => ?_) (fun he hd => ?_)))))))
 ·
  obtain ⟨p, hp⟩ : ∃ p, ps[k]? = some p := ⟨ps[k]'(by omega), by simp⟩
  have hpt : p.thread = t.id := by
   have h1 : (ps.map aK.thread)[k]? = some p.thread := by simp [hp]
   rw [okp.1] at h1
   simpa [hx] using h1.symm
  have hsome := s0 hn hp
  rw [hpt] at hsome
  have hmn : m ++ [p] = ps.take (k + 1) := by rw [hM, List.take_add_one, hp]; rfl
  have hml : m.length ≤ 64 := by rw [hM]; simp; omega
  refine W.skip (qs (W.seq (W.block (W.seq (W.region (pu (indexAddr aa rfl rfl rfl rfl rfl rfl (Int.natCast_nonneg _) (aq hx) rfl) rfl ?_))))))
  refine pE rfl (bA aa rfl rfl rfl (aO aa rfl rfl rfl rfl rfl rfl rfl rfl (WO.nil (qs (W.region (pE rfl (pE rfl ?_)))))))
  iterate 2 refine pE rfl ?_
  refine pE rfl (pu (kU (kf := ik) (vf := qn) (l := fm ps) (a := t.id) (z := .v (.slice none 0 0)) (r := .sl ([p].map aK.c)) aa rfl rfl rfl rfl rfl (eU (aa.dU rfl rfl)) rfl rfl rfl (fun _ _ => .v _ rfl) (by rw [fG]; exact hn) (by rw [hsome])) rfl ?_)
  refine jG (l2 := [p]) (fn := aK.c) aa rfl rfl rfl rfl rfl rfl rfl rfl rfl rfl (fun _ => rfl) (by show (m.length + 1) * 48 ≤ _; omega) ?_
  refine pE rfl (aO aa rfl rfl rfl rfl rfl rfl rfl rfl (WO.nil (bC (qs (W.region ?_)))))
  iterate 2 refine pE rfl ?_
  refine WO.nil (W.bb [0, 1, 2, 5] ⟨(k + 1, m ++ [p]), ?_⟩ ?_ rfl ?_ ⟨rfl, rfl, rfl, rfl, trivial⟩ ?_ trivial rfl)
  · exact ⟨hlt, hmn⟩
  · dsimp only; omega
  · repeat' first | exact trivial | refine ⟨rfl, ?_⟩ | refine ⟨aG (by assumption) (by assumption), ?_⟩
  repeat' first | exact trivial | refine ⟨rfl, ?_⟩
 have hpm : m = ps := by rw [hM, List.take_of_length_le (by omega)]
 subst hpm
 refine W.exit (aP (aS (aM (qs (W.seq (W.region (pE rfl (aO aa rfl rfl rfl rfl rfl rfl rfl rfl (pE rfl (WO.nil (qs (W.ret (QV.az aa trivial rfl ?_)))))))))))))
 rw [hg]; rfl
end Go.Proofs.YtoojafbicmdclaaGreatDoor
namespace Go.Proofs.YtoojafbicmdclaaGreatDoor
open Go.Ab Go.Tb
set_option maxRecDepth 10000
attribute [local irreducible] W WO Pu QS QB QL QF QV bU CH QE
theorem vS (evs : List Ev) : ax Tryz.prog 32 [.d (.sl (evs.map Ev.c)), .d (ci 1000)] (.clo 88 [.rowd [.sl (evs.map Ev.c)], .rowd [ci 1000]]) 0 := by
 refine ax.aV (n := 9) (ts := [4]) Tryz.func32 (by kernel_rfl) rfl Tryz.ntmps32 Tryz.results32 rfl rfl fun C hC hG => ?_
 refine W.seq (W.region (cg rfl rfl rfl (cg rfl rfl rfl (pE rfl (WO.nil (qs ?_))))))
 iterate 2 refine W.seq ?_
 refine W.region (pE rfl (pE rfl (WO.nil (qs (au rfl (fun h6 => ?_) (fun h6 => ?_))))))
 ·
  exfalso; simp at h6
 refine W.skip (qs (W.seq (rm 2 (l := [.sl (evs.map Ev.c)]) rfl rfl rfl rfl rfl ?_)))
 refine rm 3 (l := [ci 1000]) rfl rfl rfl rfl rfl ?_
 refine W.region ?_
 iterate 2 refine pE rfl ?_
 refine WO.nil (qs (W.ret (QF.az trivial rfl ?_)))
 rfl
theorem tJ {s : ByteArray} (h : (bc s).e ≠ 0) : (bc s).e = 10 := by
 unfold bc eh at h ⊢
 split at h
 ·
  split at h
  · rename_i q; rw [if_pos q]; rfl
  rename_i q
  rw [if_neg q]
  split at h
  · rename_i q2; rw [if_pos q2]; rfl
  exact absurd rfl h
 rfl
theorem xS {X : e8} (h : dG X) {k : Nat} {id : Int} (hx : X.1[k]? = some id) : ∃ evs, X.2[k]? = some (id, evs) ∧ (cH X.2 id).getD [] = evs ∧ evs ≠ [] := by
 obtain ⟨h1, h2, h3⟩ := h
 rw [← h1] at hx
 rw [List.getElem?_map, Option.map_eq_some_iff] at hx
 obtain ⟨p, hp, rfl⟩ := hx
 refine ⟨p.2, hp, ?_, h3 p (List.mem_of_getElem? hp)⟩
 rw [lO (i := k) (by rw [h1]; exact h2) (v := p.2) hp]; rfl
theorem tN {id : Int} (h : 0 ≤ id ∧ id ≤ 1000000000000000) : (B #[116]).size + (br id).size ≤ 9223372036854775807 := by
 have h1 : (10 : Nat) ^ 20 = 100000000000000000000 := by decide
 have h2 := gJ (n := id) (by omega)
 have h3 : (B #[116]).size = 1 := rfl
 omega
theorem lb (s : ByteArray) (hn : dW (aH s 10) ≤ 1000) : ax Tryz.prog 10 [.d (.v (.string s))] (.tup [.ag (cT s).l.c, .d (.v (.int .i64 ((cT s).n : Int))), .d (ci (cT s).e)]) 0 := by
 refine ax.yW aa (n := 109) (rs := [.cell 2 30, .tmp 3, .tmp 4]) Tryz.func10 (by kernel_rfl) rfl Tryz.ntmps10 Tryz.results10 rfl fun C hbx hG => ?_
 haveI hC : NB C 0 := ⟨by rw [hbx]; rfl⟩
 refine Wd.fq hbx fun C hC hG => ?_
 refine W.region (bA aa rfl rfl rfl ?_)
 iterate 2 refine pE rfl ?_
 refine WO.nil (iM rfl ?_)
 refine Wd.fq hbx fun C hC hG => ?_
 refine W.seq (W.region ?_)
 iterate 3 refine pE rfl ?_
 refine WO.nil (qs (au rfl (fun h23 => ?_) (fun h23 => ?_)))
 ·
  have hg : cT s = ⟨eQ, 0, 7⟩ := by unfold cT; rw [if_pos (by simp at h23; omega)]
  refine W.seq (W.region (pu (build aa rfl rfl rfl rfl) rfl ?_))
  refine jQ 24 rfl rfl rfl ?_
  refine aO aa rfl rfl rfl rfl rfl rfl rfl rfl ?_
  iterate 2 refine pE rfl ?_
  refine WO.nil (qs (W.ret (rV rfl ?_)))
  refine tz ?_
  refine ⟨trivial, _, rfl, ?_⟩
  rw [hg]; rfl
 have hsz : s.size ≤ 65536 := by simp at h23; omega
 refine W.skip (iM rfl ?_)
 refine Wd.fq hbx fun C hC hG => ?_
 refine W.region (yB rfl ?_)
 refine pu (build aa rfl rfl rfl rfl) rfl ?_
 refine cg rfl rfl rfl (pE rfl (WO.nil (iM rfl ?_)))
 refine Wd.fq hbx fun C hC hG => ?_
 refine W.seq (W.region (pE rfl (pu (aw rfl rfl rfl (pD s 10 (by omega)) rfl) rfl ?_)))
 iterate 2 refine pE rfl ?_
 refine WO.nil (qs (W.block (dy 2 0 rfl rfl rfl ?_)))
 refine W.len (t := 29) rfl rfl (fun hlen => ?_)
 try simp only [List.length_map, Ex.aJ] at hlen
 refine W.aW (ι := {x : Nat × List (Int × Ev) // match x with | (k, acc) => k ≤ (aH s 10).length ∧ b6 ((aH s 10).drop k) k acc = b6 (aH s 10) 0 [] ∧ acc.length + dW ((aH s 10).drop k) ≤ 1000})
  (fun x => match x.1 with | (k, acc) => [(2, .ptr 0 0), (5, .ptr 1 0), (31, .d (.v (.int .i64 ((k : Nat) : Int))))]) [(29, _), (30, _)]
  (fun x => match x.1 with | (k, acc) => [(0, [.d (.v (.slice none 0 0)), .d (.v (.slice none 0 0)), .d (.v (.slice none 0 0)), .d (.v (.slice none 0 0))]), (1, nT 2 (cn ([], []) acc))]) [] [2, 3] 4 (fun x => match x.1 with | (k, acc) => (aH s 10).length - k)
  [0, 2, 3, 1] ⟨(0, []), ?_⟩ rfl ?_ ⟨rfl, rfl, rfl, rfl, trivial⟩ ?_ trivial rfl ?_
 · exact ⟨Nat.zero_le _, rfl, by simpa using hn⟩
 · repeat' first | exact trivial | refine ⟨rfl, ?_⟩
 · repeat' first | exact trivial | refine ⟨rfl, ?_⟩
 rintro ⟨⟨k, acc⟩, hk, hI, hN⟩
 show W _ _ _ _ _ ⟨[(2, .ptr 0 0), (5, .ptr 1 0), (31, .d (.v (.int .i64 ((k : Nat) : Int)))), (29, _), (30, _)], [(0, [.d (.v (.slice none 0 0)), .d (.v (.slice none 0 0)), .d (.v (.slice none 0 0)), .d (.v (.slice none 0 0))]), (1, nT 2 (cn ([], []) acc))], [2, 3], 4⟩
 refine W.seq (W.region (pE rfl (WO.nil (qs (W.seq (ba (l := aH s 10) (k := k) rfl (by simp [Ex.aJ, aE]) hk (fun w hx hd hlt => ?_) (fun he hd => ?_)))))))
 ·
  have hws : w.size ≤ 1000000 := by have := lP (List.mem_of_getElem? hx); omega
  rw [hd] at hI hN
  simp only [b6, dW] at hI hN
  refine W.skip (qs (W.seq (W.block (W.seq (W.region (pE rfl (pu (indexAddr aa rfl rfl rfl rfl rfl rfl (Int.natCast_nonneg _) (aq hx) rfl) rfl ?_)))))))
  refine pE rfl ?_
  iterate 2 refine pE rfl ?_
  refine WO.nil (qs ?_)
  iterate 2 refine W.seq ?_
  refine W.region ?_
  iterate 2 refine pE rfl ?_
  refine WO.nil (qs (au rfl (fun h37 => ?_) (fun h37 => ?_)))
  ·
   have hw0 : w = B #[] := by simpa using h37
   rw [if_pos hw0] at hI
   have hN' : acc.length + dW ((aH s 10).drop (k + 1)) ≤ 1000 := by omega
   refine W.exit (aP (aM (qs (W.region ?_))))
   iterate 2 refine pE rfl ?_
   refine WO.nil (W.bb [0, 1, 2, 3] ⟨(k + 1, acc), ?_⟩ ?_ rfl ?_ ⟨rfl, rfl, rfl, rfl, trivial⟩ ?_ trivial rfl)
   · exact ⟨hlt, hI, hN'⟩
   · dsimp only; omega
   · repeat' first | exact trivial | refine ⟨rfl, ?_⟩ | refine ⟨aG (by assumption) (by assumption), ?_⟩
   dsimp only
   try rw [hA]
   repeat' first | exact trivial | refine ⟨rfl, ?_⟩
  have hw0 : w ≠ B #[] := by simpa using h37
  rw [if_neg hw0] at hI
  refine W.skip (qs (W.seq (W.region (pE rfl (pu (aw rfl rfl rfl ((qO _ (by assumption))) rfl) rfl ?_)))))
  iterate 11 refine pE rfl ?_
  refine WO.nil (qs ?_)
  iterate 2 refine W.seq ?_
  refine W.region ?_
  iterate 2 refine pE rfl ?_
  refine WO.nil (qs (au rfl (fun h47 => ?_) (fun h47 => ?_)))
  ·
   have hbad : (bc w).e ≠ 0 := by simpa using h47
   rw [if_pos hbad] at hI
   have hg : cT s = ⟨eQ, k + 1, 10⟩ := by unfold cT; rw [if_neg (by omega), if_pos (by rw [← hI]; simp), ← hI]
   have h10 := tJ hbad
   refine W.seq (W.region (pu (build aa rfl rfl rfl rfl) rfl ?_))
   refine jQ 48 rfl rfl rfl ?_
   refine pE rfl (pu (cf (ev aa rfl) (y := ((k + 1 : Nat) : Int)) (by rw [wrap64 (by simp only [maxLen] at hlen; omega)]; rfl)) rfl ?_)
   refine pE rfl (aO aa rfl rfl rfl rfl rfl rfl rfl rfl ?_)
   iterate 2 refine pE rfl ?_
   refine WO.nil (qs (W.ret (aB (aT (aB (dc (aT (rV rfl ?_))))))))
   refine tz ?_
   refine ⟨trivial, _, rfl, ?_⟩
   rw [hg, ← h10]; rfl
  have hgood : (bc w).e = 0 := by simpa using h47
  rw [if_neg (by simp [hgood])] at hI
  rw [if_neg (by rintro (q | q); exact hw0 q; exact q hgood)] at hN
  have hN' : (acc ++ ca (bc w)).length + dW ((aH s 10).drop (k + 1)) ≤ 1000 := by rw [List.length_append]; omega
  have hOk := (jU hgood).1
  have hIn : fv 900000 (cn ([], []) acc) := fv.lM (dG.lM acc rW) (by have := gM acc ([], []); simp only [dq, List.map_nil, List.sum_nil] at this ⊢; omega)
  have hA := nY ([], []) acc (ca (bc w))
  refine W.skip (qs (W.region ?_))
  iterate 5 refine pE rfl ?_
  refine fP [1] [2, 3] rfl rfl rfl rfl rfl ((va _ (bc w) hOk hIn)) rfl rfl (by rfl) (by rfl) rfl rfl rfl rfl ?_
  refine WO.nil (bC (qs (W.region ?_)))
  iterate 2 refine pE rfl ?_
  refine WO.nil (W.bb [0, 1, 5, 6] ⟨(k + 1, acc ++ ca (bc w)), ?_⟩ ?_ rfl ?_ ⟨rfl, rfl, rfl, rfl, trivial⟩ ?_ trivial rfl)
  · exact ⟨hlt, hI, hN'⟩
  · dsimp only; omega
  · repeat' first | exact trivial | refine ⟨rfl, ?_⟩ | refine ⟨aG (by assumption) (by assumption), ?_⟩
  dsimp only
  try rw [hA]
  repeat' first | exact trivial | refine ⟨rfl, ?_⟩
 obtain ⟨X, hX⟩ : ∃ X, X = cn ([], []) acc := ⟨_, rfl⟩
 rw [hd] at hI hN
 have hI : (0, acc) = b6 (aH s 10) 0 [] := hI
 have hI2 := gI (aH s 10) 0 [] (by simp)
 rw [← hI] at hI2
 have hK : dG X := hX ▸ dG.lM acc rW
 have hT : dq X.2 ≤ 1000 := by
  have := gM acc ([], [])
  rw [← hX] at this
  simp only [dq, List.map_nil, List.sum_nil] at this ⊢
  simp only [dW] at hN
  omega
 have hids : ∀ a ∈ X.1, 0 ≤ a ∧ a ≤ 1000000000000000 := hX ▸ kL acc ([], []) hI2.1 (by simp)
 have hOT := uh hK hids
 have hOP := tg hK hT
 have hlen : X.1.length ≤ 1000 := by have := iq hK.2.2; have e := congrArg List.length hK.1; rw [List.length_map] at e; omega
 have hg : cT s = ⟨(dK (X.1.map cS) (X.2.map eT)).1, 0, (dK (X.1.map cS) (X.2.map eT)).2⟩ := by unfold cT gT; rw [if_neg (by omega), ← hI, if_neg (by simp), hX]
 have hxm : X.1.length ≤ maxLen := by simp only [maxLen]; omega
 rw [← hX]
 clear hX hI hI2 hd
 refine W.exit (aP (aS (aM (iM rfl ?_))))
 refine Wd.fq hbx fun C hC hG => ?_
 refine W.region (pu (build aa rfl rfl rfl rfl) rfl ?_)
 refine pu (bl aa rfl rfl rfl rfl rfl rfl rfl rfl rfl) rfl ?_
 refine pu (build aa rfl rfl rfl rfl) rfl ?_
 refine bA aa rfl rfl rfl (aO aa rfl rfl rfl rfl rfl rfl rfl rfl (WO.nil (iM rfl ?_)))
 refine Wd.fq hbx fun C hC hG => ?_
 refine W.region (bA aa rfl rfl rfl (WO.nil (iM rfl ?_)))
 refine Wd.seq ?_
 refine Wd.fq hbx fun C hC hG => ?_
 refine dy 4 0 rfl rfl rfl ?_
 refine uv 4 2 rfl rfl rfl ?_
 refine dy 5 0 rfl rfl rfl ?_
 refine W.region ?_
 iterate 3 refine pE rfl ?_
 refine pE rfl ?_
 iterate 2 refine pE rfl ?_
 refine WO.nil (iM rfl ?_)
 refine Wd.block ?_
 refine Wd.aW (ι := {x : Nat × List bz × List aK // match x with | (k, ts, ps) => k ≤ X.1.length ∧ ts = (X.1.take k).map cS ∧ ps = (X.2.take k).map eT})
  (fun x => match x.1 with | (k, ts, ps) => [(2, .ptr 0 0), (5, .ptr 1 0), (13, .ptr 2 0), (14, .ptr 3 0), (65, .own 4 (X.1.map ic)), (67, .d (.v (.int .i64 ((k : Nat) : Int))))]) [(66, _)]
  (fun x => match x.1 with | (k, ts, ps) => [(0, [.d (.v (.slice none 0 0)), .d (.v (.slice none 0 0)), .d (.v (.slice none 0 0)), .d (.v (.slice none 0 0))]), (1, nT 4 X), (2, [.own 6 (ts.map bz.c), .d (.sl (bM.map bk)), .d (.sl [])]), (3, [.own 7 (ps.map aK.c)])]) [] [4, 5, 6, 7] 8 (fun x => match x.1 with | (k, ts, ps) => X.1.length - k)
  [0, 1, 4, 5, 2, 3, 6, 7] ⟨(0, [], []), ?_⟩ rfl ?_ ⟨rfl, rfl, trivial⟩ ?_ trivial rfl ?_
 · exact ⟨Nat.zero_le _, rfl, rfl⟩
 · repeat' first | exact trivial | refine ⟨rfl, ?_⟩
 · repeat' first | exact trivial | refine ⟨rfl, ?_⟩
 rintro ⟨⟨k, ts, ps⟩, hk, hts, hps⟩
 show Wd _ _ _ _ _ ⟨[(2, .ptr 0 0), (5, .ptr 1 0), (13, .ptr 2 0), (14, .ptr 3 0), (65, .own 4 (X.1.map ic)), (67, .d (.v (.int .i64 ((k : Nat) : Int)))), (66, _)], [(0, [.d (.v (.slice none 0 0)), .d (.v (.slice none 0 0)), .d (.v (.slice none 0 0)), .d (.v (.slice none 0 0))]), (1, nT 4 X), (2, [.own 6 (ts.map bz.c), .d (.sl (bM.map bk)), .d (.sl [])]), (3, [.own 7 (ps.map aK.c)])], [4, 5, 6, 7], 8⟩
 refine Wd.fq hbx fun C hC hG => ?_
 refine W.region (pE rfl (WO.nil (iM rfl ?_)))
 refine Wd.fq hbx fun C hC hG => ?_
 refine ba (l := X.1) (k := k) rfl (by simp [Ex.aJ, aE]) hk (fun id hx hd hlt => ?_) (fun he hd => ?_)
 ·
  have hid := hids id (List.mem_of_getElem? hx)
  obtain ⟨evs, hev, hget, hne⟩ := xS hK hx
  have hep : 0 < (evs.map Ev.c).length := by rw [List.length_map]; exact List.length_pos_iff.2 hne
  have hel : (evs.map Ev.c).length ≤ 1000 := by rw [List.length_map]; exact Nat.le_trans (jY (List.mem_of_getElem? hev)) hT
  refine W.skip (iM rfl ?_)
  refine Wd.seq ?_
  refine Wd.block ?_
  refine Wd.fq hbx fun C hC hG => ?_
  refine W.region (pu (indexAddr aa rfl rfl rfl rfl rfl rfl (Int.natCast_nonneg _) (aq (f := ic) hx) rfl) rfl ?_)
  refine pE rfl (bA aa rfl rfl rfl (aO aa rfl rfl rfl rfl rfl rfl rfl rfl (WO.nil (iM rfl ?_))))
  refine Wd.fq hbx fun C hC hG => ?_
  refine W.eB aa [] [] [] [] 8 (by kernel_rfl) (by kernel_rfl) rfl rfl ?_
  refine' aD (ev aa rfl) ?p_1 rfl rfl rfl (by kernel_rfl) rfl ?h_1
  case' h_1 => skip
  case p_1 => refine ⟨fun ha => (ah ha (by kernel_rfl)).elim, ?_⟩ <;> intro ha <;> first | exact ⟨ev aa rfl, fun h => nomatch h⟩ | exact (ah ha (by kernel_rfl)).elim
  refine' aD (ev aa rfl) ?p_2 rfl rfl rfl (by kernel_rfl) rfl ?h_2
  case' h_2 => skip
  case p_2 => refine ⟨fun ha => (ah ha (by kernel_rfl)).elim, ?_⟩ <;> intro ha <;> first | exact ⟨ev aa rfl, fun h => nomatch h⟩ | exact ⟨bG aa rfl rfl rfl rfl, fun h => nomatch h⟩ | exact ⟨bF aa rfl rfl rfl rfl rfl, fun h => nomatch h⟩ | exact (ah ha (by kernel_rfl)).elim
  refine' aD (ev aa rfl) ?p_3 rfl rfl rfl (by kernel_rfl) rfl ?h_3
  case' h_3 => skip
  case p_3 => refine ⟨fun ha => (ah ha (by kernel_rfl)).elim, ?_⟩ <;> intro ha <;> first | exact ⟨ev aa rfl, fun h => nomatch h⟩ | exact ⟨bG aa rfl rfl rfl rfl, fun h => nomatch h⟩ | exact ⟨bF aa rfl rfl rfl rfl rfl, fun h => nomatch h⟩ | exact (ah ha (by kernel_rfl)).elim
  refine' aD (ev aa rfl) ?p_4 rfl rfl rfl (by kernel_rfl) rfl ?h_4
  case' h_4 => skip
  case p_4 => refine ⟨fun ha => (ah ha (by kernel_rfl)).elim, ?_⟩ <;> intro ha <;> first | exact ⟨ev aa rfl, fun h => nomatch h⟩ | exact ⟨bG aa rfl rfl rfl rfl, fun h => nomatch h⟩ | exact ⟨bF aa rfl rfl rfl rfl rfl, fun h => nomatch h⟩ | exact (ah ha (by kernel_rfl)).elim
  refine' aD (aw rfl rfl rfl (jr id (by omega) (by omega)) rfl) ?p_5 rfl rfl rfl (by kernel_rfl) rfl ?h_5
  case' h_5 => skip
  case p_5 => refine ⟨fun ha => (ah ha (by kernel_rfl)).elim, ?_⟩ <;> intro ha <;> first | exact ⟨aw rfl rfl rfl (jr id (by omega) (by omega)) rfl, fun h => nomatch h⟩ | exact (ah ha (by kernel_rfl)).elim
  refine' aD (ky (p := B #[116]) (q := br id) rfl rfl (tN hid)) ?p_6 rfl rfl rfl (by kernel_rfl) rfl ?h_6
  case' h_6 => skip
  case p_6 => refine ⟨fun ha => (ah ha (by kernel_rfl)).elim, ?_⟩ <;> intro ha <;> first | exact ⟨ky (p := B #[116]) (q := br id) rfl rfl (tN hid), fun h => nomatch h⟩ | exact (ah ha (by kernel_rfl)).elim
  refine' aD (build aa rfl rfl rfl rfl) ?p_7 rfl rfl rfl (by kernel_rfl) rfl ?h_7
  case' h_7 => skip
  case p_7 => refine ⟨fun ha => (ah ha (by kernel_rfl)).elim, ?_⟩ <;> intro ha <;> first | exact ⟨build aa rfl rfl rfl rfl, fun h => nomatch h⟩ | exact (ah ha (by kernel_rfl)).elim
  refine' aD (bl aa rfl rfl rfl rfl rfl rfl rfl rfl rfl) ?p_8 rfl rfl rfl (by kernel_rfl) rfl ?h_8
  case' h_8 => skip
  case p_8 => refine ⟨fun ha => (ah ha (by kernel_rfl)).elim, ?_⟩ <;> intro ha <;> first | exact ⟨bl aa rfl rfl rfl rfl rfl rfl rfl rfl rfl, fun h => nomatch h⟩ | exact (ah ha (by kernel_rfl)).elim
  refine CD.nil ?_ rfl
  refine cr (fn := bz.c) (a := cS id) aa rfl rfl rfl rfl rfl rfl rfl rfl rfl rfl (fun _ => rfl) (by show (ts.length + 1) * 32 ≤ _; rw [hts]; simp; omega) ?_
  refine pE rfl (aO aa rfl rfl rfl rfl rfl rfl rfl rfl (WO.nil (iM rfl ?_)))
  refine Wd.fq hbx fun C hC hG => ?_
  refine W.region (bA aa rfl rfl rfl (aO aa rfl rfl rfl rfl rfl rfl rfl rfl (WO.nil (iM rfl ?_))))
  refine Wd.fq hbx fun C hC hG => ?_
  refine W.cU aa (by kernel_rfl) ?_
  iterate 3 refine aC (ev aa rfl) rfl ?_
  refine aC (ev aa rfl) rfl ?_
  refine aC (ev aa rfl) rfl ?_
  refine aC (pC (kf := ik) (fn := Ev.c) (l := X.2) (a := id) (r := evs.map Ev.c) aa rfl rfl rfl rfl rfl (eU (aa.dU rfl rfl)) rfl rfl rfl (by rw [hK.1]; exact hK.2.1) (by rw [hget])) rfl ?_
  refine aC (aw rfl rfl rfl (vS evs) rfl) rfl ?_
  refine CH.nil ?_
  refine iM rfl ?_
  refine Wd.block ?_
  refine Wd.range (V := [(14, .ptr 0 0), (16, .ptr 1 0), (17, .ptr 2 0)]) (es := evs.map Ev.c) (b1 := [[.own 3 ((ps ++ [eT (id, evs)]).map aK.c)], [.d (ci id)], [.d (ci (evs.length : Int))]]) (k := 1) rfl ⟨_, Tryz.func88, by kernel_rfl, by kernel_rfl⟩ vA hep hel rfl rfl [3, 8, 10] [7] rfl rfl rfl rfl rfl (tj.look ⟨⟨_, rfl, rfl⟩, ⟨_, rfl, rfl⟩, ⟨_, rfl, rfl⟩, trivial⟩) rfl ?_ rfl ?_
  ·
   refine mz.zy rfl rfl rfl fun C hC hG => ?_
   refine pE rfl (pE rfl (pE rfl (pE rfl (pu (build aa rfl rfl rfl rfl) rfl ?_))))
   refine pu (bl aa rfl rfl rfl rfl rfl rfl rfl rfl rfl) rfl ?_
   refine cr (fn := aK.c) (a := eT (id, evs)) aa rfl rfl rfl rfl rfl rfl rfl rfl rfl rfl (fun _ => rfl) (by show (ps.length + 1) * 48 ≤ _; rw [hps]; simp; omega) ?_
   refine aO aa rfl rfl rfl rfl rfl rfl rfl rfl (WO.nil (⟨rfl, ?_⟩))
   refine pE rfl ?_
   iterate 2 refine pE rfl ?_
   refine pu (cf (ev aa rfl) (y := (evs.length : Int)) (by show IntKind.i64.wrap ((0 : Int) + ((evs.map Ev.c).length : Nat)) = _; rw [List.length_map] at hel ⊢; rw [wrap64 (by omega)]; omega)) rfl ?_
   refine aO aa rfl rfl rfl rfl rfl rfl rfl rfl (WO.nil (⟨rfl, QR.mk' [4] rfl rfl rfl ⟨⟨_, rfl, rfl⟩, ⟨_, rfl, rfl⟩, ⟨_, rfl, rfl⟩, trivial⟩⟩))
  refine bC (bC (y5 ?_))
  refine Wd.yx hbx fun C hC hG => ?_
  refine W.region ?_
  iterate 2 refine pE rfl ?_
  refine WO.nil (zz rfl ?_)
  refine Wd.bb [0, 1, 2, 3, 4, 5, 9, 14] ⟨(k + 1, ts ++ [cS id], ps ++ [eT (id, evs)]), ?_⟩ ?_ rfl ?_ ⟨rfl, rfl, trivial⟩ ?_ trivial rfl
  · exact ⟨hlt, by rw [hts, List.take_add_one, hx, List.map_append]; rfl, by rw [hps, List.take_add_one, hev, List.map_append]; rfl⟩
  · dsimp only; omega
  · repeat' first | exact trivial | refine ⟨rfl, ?_⟩ | refine ⟨aG (by assumption) (by assumption), ?_⟩
  repeat' first | exact trivial | refine ⟨rfl, ?_⟩
 have hl2 : X.2.length = X.1.length := by have e := congrArg List.length hK.1; rwa [List.length_map] at e
 have hts2 : ts = X.1.map cS := by rw [hts, List.take_of_length_le (by omega)]
 have hps2 : ps = X.2.map eT := by rw [hps, List.take_of_length_le (by omega)]
 rw [← hts2, ← hps2] at hOP hg
 rw [← hts2] at hOT
 refine W.exit (xK rfl ?_)
 refine xy ?_
 refine wT ?_
 refine aM (y5 ?_)
 refine Wd.fq hbx fun C hC hG => ?_
 refine W.region (pE rfl (pE rfl (pu (aw rfl rfl rfl ((yR _ _ (by assumption) (by assumption))) rfl) rfl ?_)))
 iterate 3 refine pE rfl ?_
 refine bA aa rfl rfl rfl (aO aa rfl rfl rfl rfl rfl rfl rfl rfl (pE rfl (WO.nil (iM rfl ?_))))
 refine Wd.fq hbx fun C hC hG => ?_
 refine W.region (pE rfl (pE rfl (aO aa rfl rfl rfl rfl rfl rfl rfl rfl ?_)))
 iterate 2 refine pE rfl ?_
 refine WO.nil (iM rfl ?_)
 refine Wd.yx hbx fun C hC hG => ?_
 refine W.ret (rV rfl ?_)
 refine ⟨trivial, _, rfl, ?_⟩
 rw [hg]; rfl
end Go.Proofs.YtoojafbicmdclaaGreatDoor
namespace Go.Proofs.YtoojafbicmdclaaGreatDoor
open Go.Ab Go.Tb
set_option maxRecDepth 10000
attribute [local irreducible] W WO Pu QS QB QL QF QV bU CH QE
theorem uA (a b : List Int) : ax Tryz.prog 28 [.d (.sl (a.map ic)), .d (.sl (b.map ic))] (.d (.v (.bool (decide (a = b))))) 0 := by
 refine ax.aV (n := 26) (ts := [4]) Tryz.func28 (by kernel_rfl) rfl Tryz.ntmps28 Tryz.results28 rfl rfl fun C hC hG => ?_
 refine W.seq (W.region (pE rfl (WO.nil (qs ?_))))
 iterate 2 refine W.seq ?_
 refine W.region ?_
 iterate 5 refine pE rfl ?_
 refine WO.nil (qs (au rfl (fun h10 => ?_) (fun h10 => ?_)))
 ·
  have hg : decide (a = b) = false := by
   simp at h10
   exact decide_eq_false fun e => by rw [e] at h10; exact h10 rfl
  refine W.seq (W.region (pE rfl (WO.nil (qs (W.ret (aB (QF.az trivial rfl ?_)))))))
  rw [hg]; rfl
 have hl : a.length = b.length := by simp at h10; omega
 refine W.skip (qs ?_)
 iterate 2 refine W.seq ?_
 refine W.region (pE rfl (WO.nil (qs (W.block (W.len (t := 0) rfl rfl (fun hlen => ?_))))))
 rw [List.length_map] at hlen
 refine W.aW (ι := {x : Nat // match x with | k => k ≤ a.length ∧ a.take k = b.take k})
  (fun x => match x.1 with | k => [(5, .d (.v (.int .i64 ((k : Nat) : Int))))]) [(0, _), (1, _)]
  (fun x => match x.1 with | k => []) [] [] 0 (fun x => match x.1 with | k => a.length - k)
  [] ⟨0, ?_⟩ rfl ?_ ⟨rfl, rfl, rfl, rfl, trivial⟩ ?_ trivial rfl ?_
 · exact ⟨Nat.zero_le _, rfl⟩
 · repeat' first | exact trivial | refine ⟨rfl, ?_⟩
 · repeat' exact trivial
 rintro ⟨k, hk, hI⟩
 show W _ _ _ _ _ ⟨[(5, .d (.v (.int .i64 ((k : Nat) : Int)))), (0, _), (1, _)], [], [], 0⟩
 iterate 2 refine W.seq ?_
 refine W.region ?_
 iterate 4 refine pE rfl ?_
 refine WO.nil (qs (ba (l := a) (k := k) rfl (by simp [Ex.aJ, aE]) hk (fun x hx hd hlt => ?_) (fun he hd => ?_)))
 ·
  obtain ⟨y, hy⟩ : ∃ y, b[k]? = some y := ⟨b[k]'(by omega), by simp⟩
  refine W.skip (qs (W.seq (W.block (W.seq (W.cU aa (by kernel_rfl) ?_)))))
  iterate 2 refine aC (ev aa rfl) rfl ?_
  refine aC (indexAddr (l := ic x) aa rfl rfl rfl rfl rfl rfl (Int.natCast_nonneg _) (aq hx) rfl) rfl ?_
  refine aC (ev aa rfl) rfl ?_
  iterate 2 refine aC (ev aa rfl) rfl ?_
  refine aC (indexAddr (l := ic y) aa rfl rfl rfl rfl rfl rfl (Int.natCast_nonneg _) (aq hy) rfl) rfl ?_
  refine aC (ev aa rfl) rfl ?_
  refine aC (ev aa rfl) rfl ?_
  refine CH.nil ?_
  refine qs (au rfl (fun h25 => ?_) (fun h25 => ?_))
  ·
   have hg : decide (a = b) = false := by
    simp at h25
    refine decide_eq_false fun e => ?_
    rw [e, hy] at hx
    exact h25 (Option.some.inj hx).symm
   refine W.seq (W.region (pE rfl (WO.nil (qs (W.ret (aT (aB (dc (aT (aB (QF.az trivial rfl ?_)))))))))))
   rw [hg]; rfl
  have hxy : x = y := by simpa using h25
  refine W.skip (bC (qs (W.region ?_)))
  iterate 3 refine pE rfl ?_
  refine WO.nil (W.bb [] ⟨k + 1, ?_⟩ ?_ rfl ?_ ⟨rfl, rfl, rfl, rfl, trivial⟩ ?_ trivial rfl)
  · exact ⟨hlt, by rw [List.take_add_one, List.take_add_one, hI, hx, hy, hxy]⟩
  · dsimp only; omega
  · repeat' first | exact trivial | refine ⟨aG (by assumption) (by assumption), ?_⟩
  repeat' exact trivial
 have hg : decide (a = b) = true := by
  refine decide_eq_true ?_
  rw [List.take_of_length_le (by omega), List.take_of_length_le (by omega)] at hI
  exact hI
 refine W.exit (aP (aS (aM (qs (W.seq (W.region (pE rfl (WO.nil (qs (W.ret (QF.az trivial rfl ?_)))))))))))
 rw [hg]; rfl
theorem qg : ax Tryz.prog 9 [] (.d (.v (.bool true))) 0 := by
 have i1 := lb sa (js (by decide))
 rw [uc] at i1
 have i2 := qO wv (by decide)
 rw [sn] at i2
 have i3 := lb rS (js (by decide))
 rw [tY] at i3
 have hn := yP
 refine ax.aV (n := 116) (ts := [0]) Tryz.func9 (by kernel_rfl) rfl Tryz.ntmps9 Tryz.results9 rfl rfl fun C hC hG => ?_
 refine W.seq (W.region (pE rfl (WO.nil (qs (W.seq (W.region (pu (aw rfl rfl rfl i1 rfl) rfl ?_)))))))
 iterate 4 refine pE rfl ?_
 refine bA aa rfl rfl rfl (aO aa rfl rfl rfl rfl rfl rfl rfl rfl ?_)
 iterate 2 refine pE rfl ?_
 refine WO.nil (qs ?_)
 iterate 2 refine W.seq ?_
 apply aI; (case hb => rfl)
 ·
  iterate 3 refine pE rfl ?_
  apply an; (case hj => rfl); (case hl => rfl)
  ·
   iterate 2 refine ae rfl rfl rfl rfl ?_
   iterate 2 refine pE rfl ?_
   iterate 5 refine ae rfl rfl rfl rfl ?_
   iterate 2 refine pE rfl ?_
   iterate 7 refine ae rfl rfl rfl rfl ?_
   iterate 2 refine pE rfl ?_
   iterate 4 refine ae rfl rfl rfl rfl ?_
   iterate 2 refine pE rfl ?_
   iterate 7 refine ae rfl rfl rfl rfl ?_
   refine pE rfl (WO.nil (ay rfl rfl rfl))
  refine ab rfl rfl (pE rfl (ab rfl rfl ?_))
  iterate 3 refine pE rfl ?_
  apply an; (case hj => rfl); (case hl => rfl)
  ·
   iterate 5 refine ae rfl rfl rfl rfl ?_
   iterate 2 refine pE rfl ?_
   iterate 7 refine ae rfl rfl rfl rfl ?_
   iterate 2 refine pE rfl ?_
   iterate 4 refine ae rfl rfl rfl rfl ?_
   iterate 2 refine pE rfl ?_
   iterate 7 refine ae rfl rfl rfl rfl ?_
   refine pE rfl (WO.nil (ay rfl rfl rfl))
  refine ab rfl rfl (pE rfl (ab rfl rfl (pE rfl (ab rfl rfl (pE rfl (ab rfl rfl (pE rfl (ab rfl rfl ?_))))))))
  iterate 3 refine pE rfl ?_
  apply an; (case hj => rfl); (case hl => rfl)
  ·
   iterate 7 refine ae rfl rfl rfl rfl ?_
   iterate 2 refine pE rfl ?_
   iterate 4 refine ae rfl rfl rfl rfl ?_
   iterate 2 refine pE rfl ?_
   iterate 7 refine ae rfl rfl rfl rfl ?_
   refine pE rfl (WO.nil (ay rfl rfl rfl))
  refine ab rfl rfl (pE rfl (ab rfl rfl (pE rfl (ab rfl rfl (pE rfl (ab rfl rfl (pu (indexAddr (l := (cS 7).c) aa rfl rfl rfl rfl rfl rfl (by decide) rfl rfl) rfl ?_)))))))
  refine ab rfl rfl (pE rfl (ab rfl rfl (pE rfl (ab rfl rfl ?_))))
  iterate 3 refine pE rfl ?_
  apply an; (case hj => rfl); (case hl => rfl)
  ·
   iterate 4 refine ae rfl rfl rfl rfl ?_
   iterate 2 refine pE rfl ?_
   iterate 7 refine ae rfl rfl rfl rfl ?_
   refine pE rfl (WO.nil (ay rfl rfl rfl))
  refine ab rfl rfl (pE rfl (ab rfl rfl (pE rfl (ab rfl rfl (pE rfl (ab rfl rfl ?_))))))
  iterate 3 refine pE rfl ?_
  apply an; (case hj => rfl); (case hl => rfl)
  ·
   iterate 7 refine ae rfl rfl rfl rfl ?_
   refine pE rfl (WO.nil (ay rfl rfl rfl))
  refine ab rfl rfl (pE rfl (ab rfl rfl (pE rfl (ab rfl rfl (pu (indexAddr (l := aK.c ⟨7, 0, 0, [gK 5 0]⟩) aa rfl rfl rfl rfl rfl rfl (by decide) rfl rfl) rfl ?_)))))
  refine ab rfl rfl (pE rfl (ab rfl rfl (pE rfl (ab rfl rfl (pE rfl (ab rfl rfl ?_))))))
  iterate 2 refine pE rfl ?_
  refine WO.nil (ay rfl rfl rfl)
 refine qs (au rfl (fun h54 => ?_) (fun h54 => ?_))
 ·
  exfalso
  rw [hn] at h54
  exact absurd h54 (by decide)
 refine W.skip (qs (W.seq (W.region (pE rfl (pE rfl (pu (indexAddr (l := aK.c ⟨7, 0, 0, [gK 5 0]⟩) aa rfl rfl rfl rfl rfl rfl (by decide) rfl rfl) rfl ?_))))))
 refine pE rfl (pE rfl (pu (indexAddr (l := (gK 5 0).c) aa rfl rfl rfl rfl rfl rfl (by decide) rfl rfl) rfl ?_))
 refine pE rfl (bA aa rfl rfl rfl (aO aa rfl rfl rfl rfl rfl rfl rfl rfl (WO.nil (qs (W.seq (W.region (pu (aw rfl rfl rfl i2 rfl) rfl ?_)))))))
 iterate 11 refine pE rfl ?_
 refine WO.nil (qs (W.seq (W.region (pu (aw rfl rfl rfl i3 rfl) rfl ?_))))
 iterate 4 refine pE rfl ?_
 refine bA aa rfl rfl rfl (aO aa rfl rfl rfl rfl rfl rfl rfl rfl ?_)
 iterate 2 refine pE rfl ?_
 refine WO.nil (qs (W.seq ?_))
 apply aI; (case hb => rfl)
 ·
  refine pE rfl (pE rfl ?_)
  iterate 2 refine pE rfl ?_
  apply an; (case hj => rfl); (case hl => rfl)
  ·
   refine ab rfl rfl (pE rfl (ab rfl rfl (pE rfl (ab rfl rfl ?_))))
   iterate 3 refine pE rfl ?_
   apply an; (case hj => rfl); (case hl => rfl)
   ·
    refine ab rfl rfl (pE rfl (ab rfl rfl (pE rfl (ab rfl rfl ?_))))
    iterate 3 refine pE rfl ?_
    apply an; (case hj => rfl); (case hl => rfl)
    ·
     refine ab rfl rfl (pE rfl (ab rfl rfl ?_))
     iterate 3 refine pE rfl ?_
     apply an; (case hj => rfl); (case hl => rfl)
     ·
      refine ab rfl rfl (pE rfl (ab rfl rfl ?_))
      iterate 3 refine pE rfl ?_
      apply an; (case hj => rfl); (case hl => rfl)
      ·
       refine ab rfl rfl (pE rfl (ab rfl rfl ?_))
       iterate 3 refine pE rfl ?_
       apply an; (case hj => rfl); (case hl => rfl)
       ·
        refine ab rfl rfl (pE rfl (ab rfl rfl (pu (bl aa rfl rfl rfl rfl rfl rfl rfl rfl rfl) rfl ?_)))
        refine ab rfl rfl (pu (aw rfl rfl rfl (uA [7, 8] [7, 8]) rfl) rfl ?_)
        iterate 2 refine pE rfl ?_
        apply an; (case hj => rfl); (case hl => rfl)
        ·
         refine ab rfl rfl (pE rfl (ab rfl rfl ?_))
         iterate 3 refine pE rfl ?_
         apply an; (case hj => rfl); (case hl => rfl)
         ·
          refine ab rfl rfl (pE rfl (ab rfl rfl ?_))
          iterate 3 refine pE rfl ?_
          apply an; (case hj => rfl); (case hl => rfl)
          ·
           refine ab rfl rfl (pE rfl (ab rfl rfl ?_))
           iterate 3 refine pE rfl ?_
           refine WO.nil (ay rfl rfl rfl)
          iterate 2 refine ae rfl rfl rfl rfl ?_
          iterate 2 refine pE rfl ?_
          refine WO.nil (ay rfl rfl rfl)
         iterate 2 refine ae rfl rfl rfl rfl ?_
         iterate 2 refine pE rfl ?_
         iterate 2 refine ae rfl rfl rfl rfl ?_
         iterate 2 refine pE rfl ?_
         refine WO.nil (ay rfl rfl rfl)
        iterate 2 refine ae rfl rfl rfl rfl ?_
        iterate 2 refine pE rfl ?_
        iterate 2 refine ae rfl rfl rfl rfl ?_
        iterate 2 refine pE rfl ?_
        iterate 2 refine ae rfl rfl rfl rfl ?_
        iterate 2 refine pE rfl ?_
        refine WO.nil (ay rfl rfl rfl)
       iterate 3 refine ae rfl rfl rfl rfl ?_
       iterate 2 refine pE rfl ?_
       iterate 2 refine ae rfl rfl rfl rfl ?_
       iterate 2 refine pE rfl ?_
       iterate 2 refine ae rfl rfl rfl rfl ?_
       iterate 2 refine pE rfl ?_
       iterate 2 refine ae rfl rfl rfl rfl ?_
       iterate 2 refine pE rfl ?_
       refine WO.nil (ay rfl rfl rfl)
      iterate 2 refine ae rfl rfl rfl rfl ?_
      iterate 2 refine pE rfl ?_
      iterate 3 refine ae rfl rfl rfl rfl ?_
      iterate 2 refine pE rfl ?_
      iterate 2 refine ae rfl rfl rfl rfl ?_
      iterate 2 refine pE rfl ?_
      iterate 2 refine ae rfl rfl rfl rfl ?_
      iterate 2 refine pE rfl ?_
      iterate 2 refine ae rfl rfl rfl rfl ?_
      iterate 2 refine pE rfl ?_
      refine WO.nil (ay rfl rfl rfl)
     iterate 2 refine ae rfl rfl rfl rfl ?_
     iterate 2 refine pE rfl ?_
     iterate 2 refine ae rfl rfl rfl rfl ?_
     iterate 2 refine pE rfl ?_
     iterate 3 refine ae rfl rfl rfl rfl ?_
     iterate 2 refine pE rfl ?_
     iterate 2 refine ae rfl rfl rfl rfl ?_
     iterate 2 refine pE rfl ?_
     iterate 2 refine ae rfl rfl rfl rfl ?_
     iterate 2 refine pE rfl ?_
     iterate 2 refine ae rfl rfl rfl rfl ?_
     iterate 2 refine pE rfl ?_
     refine WO.nil (ay rfl rfl rfl)
    iterate 2 refine ae rfl rfl rfl rfl ?_
    iterate 2 refine pE rfl ?_
    iterate 2 refine ae rfl rfl rfl rfl ?_
    iterate 2 refine pE rfl ?_
    iterate 2 refine ae rfl rfl rfl rfl ?_
    iterate 2 refine pE rfl ?_
    iterate 3 refine ae rfl rfl rfl rfl ?_
    iterate 2 refine pE rfl ?_
    iterate 2 refine ae rfl rfl rfl rfl ?_
    iterate 2 refine pE rfl ?_
    iterate 2 refine ae rfl rfl rfl rfl ?_
    iterate 2 refine pE rfl ?_
    iterate 2 refine ae rfl rfl rfl rfl ?_
    iterate 2 refine pE rfl ?_
    refine WO.nil (ay rfl rfl rfl)
   iterate 3 refine ae rfl rfl rfl rfl ?_
   iterate 2 refine pE rfl ?_
   iterate 2 refine ae rfl rfl rfl rfl ?_
   iterate 2 refine pE rfl ?_
   iterate 2 refine ae rfl rfl rfl rfl ?_
   iterate 2 refine pE rfl ?_
   iterate 2 refine ae rfl rfl rfl rfl ?_
   iterate 2 refine pE rfl ?_
   iterate 3 refine ae rfl rfl rfl rfl ?_
   iterate 2 refine pE rfl ?_
   iterate 2 refine ae rfl rfl rfl rfl ?_
   iterate 2 refine pE rfl ?_
   iterate 2 refine ae rfl rfl rfl rfl ?_
   iterate 2 refine pE rfl ?_
   iterate 2 refine ae rfl rfl rfl rfl ?_
   iterate 2 refine pE rfl ?_
   refine WO.nil (ay rfl rfl rfl)
  iterate 3 refine ae rfl rfl rfl rfl ?_
  iterate 2 refine pE rfl ?_
  iterate 3 refine ae rfl rfl rfl rfl ?_
  iterate 2 refine pE rfl ?_
  iterate 2 refine ae rfl rfl rfl rfl ?_
  iterate 2 refine pE rfl ?_
  iterate 2 refine ae rfl rfl rfl rfl ?_
  iterate 2 refine pE rfl ?_
  iterate 2 refine ae rfl rfl rfl rfl ?_
  iterate 2 refine pE rfl ?_
  iterate 3 refine ae rfl rfl rfl rfl ?_
  iterate 2 refine pE rfl ?_
  iterate 2 refine ae rfl rfl rfl rfl ?_
  iterate 2 refine pE rfl ?_
  iterate 2 refine ae rfl rfl rfl rfl ?_
  iterate 2 refine pE rfl ?_
  iterate 2 refine ae rfl rfl rfl rfl ?_
  iterate 2 refine pE rfl ?_
  refine WO.nil (ay rfl rfl rfl)
 refine qs (W.ret (QF.az trivial rfl ?_))
 rfl
end Go.Proofs.YtoojafbicmdclaaGreatDoor
namespace Go.Proofs.YtoojafbicmdclaaGreatDoor
open Go.Ab Go.Tb
set_option maxRecDepth 10000
attribute [local irreducible] W WO Pu QS QB QL QF QV bU CH QE
theorem vd (p : aK) (hp : p.evs.length ≤ 1000) : ax Tryz.prog 98 [.ag p.c, .ag p.c] (.d (.v (.bool true))) 0 := by
 have hm : p.evs.length ≤ maxLen := by simp only [maxLen]; omega
 refine ax.aV (n := 53) (ts := [4]) Tryz.func98 (by kernel_rfl) rfl Tryz.ntmps98 Tryz.results98 rfl rfl fun C hC hG => ?_
 refine W.seq (W.region (cg rfl rfl rfl (cg rfl rfl rfl (pE rfl (WO.nil (qs ?_))))))
 iterate 2 refine W.seq ?_
 apply aI; (case hb => rfl)
 ·
  refine pE rfl (pE rfl (pE rfl (pE rfl ?_)))
  iterate 2 refine pE rfl ?_
  apply an; (case hj => rfl); (case hl => rfl)
  ·
   iterate 5 refine ae rfl rfl rfl rfl ?_
   iterate 2 refine pE rfl ?_
   iterate 5 refine ae rfl rfl rfl rfl ?_
   iterate 2 refine pE rfl ?_
   iterate 7 refine ae rfl rfl rfl rfl ?_
   refine pE rfl (WO.nil (ay rfl rfl rfl))
  refine ab rfl rfl (pE rfl (ab rfl rfl (pE rfl (ab rfl rfl (pE rfl (ab rfl rfl (pE rfl (ab rfl rfl ?_))))))))
  iterate 3 refine pE rfl ?_
  apply an; (case hj => rfl); (case hl => rfl)
  ·
   iterate 5 refine ae rfl rfl rfl rfl ?_
   iterate 2 refine pE rfl ?_
   iterate 7 refine ae rfl rfl rfl rfl ?_
   refine pE rfl (WO.nil (ay rfl rfl rfl))
  refine ab rfl rfl (pE rfl (ab rfl rfl (pE rfl (ab rfl rfl (pE rfl (ab rfl rfl (pE rfl (ab rfl rfl ?_))))))))
  iterate 3 refine pE rfl ?_
  apply an; (case hj => rfl); (case hl => rfl)
  ·
   iterate 7 refine ae rfl rfl rfl rfl ?_
   refine pE rfl (WO.nil (ay rfl rfl rfl))
  refine ab rfl rfl (pE rfl (ab rfl rfl (pE rfl (ab rfl rfl (pE rfl (ab rfl rfl (pE rfl (ab rfl rfl (pE rfl (ab rfl rfl (pE rfl (ab rfl rfl ?_))))))))))))
  iterate 2 refine pE rfl ?_
  refine WO.nil (ay rfl rfl rfl)
 refine qs (au rfl (fun h33 => ?_) (fun h33 => ?_))
 ·
  exfalso; simp at h33
 refine W.skip (qs ?_)
 iterate 2 refine W.seq ?_
 refine W.region (pE rfl (WO.nil (qs (W.block ?_))))
 refine W.aW (ι := {x : Nat // match x with | k => k ≤ p.evs.length})
  (fun x => match x.1 with | k => [(2, .ptr 0 0), (3, .ptr 1 0), (5, .d (.v (.int .i64 ((k : Nat) : Int))))]) []
  (fun x => match x.1 with | k => [(0, p.c.map A.d), (1, p.c.map A.d)]) [] [] 2 (fun x => match x.1 with | k => p.evs.length - k)
  [0, 1] ⟨0, ?_⟩ rfl ?_ trivial ?_ trivial rfl ?_
 · exact Nat.zero_le _
 · repeat' first | exact trivial | refine ⟨rfl, ?_⟩
 · repeat' first | exact trivial | refine ⟨rfl, ?_⟩
 rintro ⟨k, hk⟩
 show W _ _ _ _ _ ⟨[(2, .ptr 0 0), (3, .ptr 1 0), (5, .d (.v (.int .i64 ((k : Nat) : Int))))], [(0, p.c.map A.d), (1, p.c.map A.d)], [], 2⟩
 iterate 2 refine W.seq ?_
 refine W.region ?_
 iterate 2 refine pE rfl ?_
 refine pE rfl ?_
 iterate 2 refine pE rfl ?_
 refine WO.nil (qs (ba (l := p.evs) (k := k) rfl (by simp [Ex.aJ, aE]) hk (fun e hx hd hlt => ?_) (fun he hd => ?_)))
 ·
  refine W.skip (qs (W.seq (W.block (W.seq (W.cU aa (by kernel_rfl) ?_)))))
  refine aC (ev aa rfl) rfl ?_
  refine aC (ev aa rfl) rfl ?_
  refine aC (ev aa rfl) rfl ?_
  refine aC (indexAddr aa rfl rfl rfl rfl rfl rfl (Int.natCast_nonneg _) (aq hx) rfl) rfl ?_
  refine aC (ev aa rfl) rfl ?_
  refine aC (ev aa rfl) rfl ?_
  refine aC (ev aa rfl) rfl ?_
  refine aC (ev aa rfl) rfl ?_
  refine aC (indexAddr aa rfl rfl rfl rfl rfl rfl (Int.natCast_nonneg _) (aq hx) rfl) rfl ?_
  refine aC (ev aa rfl) rfl ?_
  refine aC (aw rfl rfl rfl (vG ..) rfl) rfl ?_
  refine aC (ev aa rfl) rfl ?_
  refine CH.nil ?_
  refine qs (au rfl (fun h52 => ?_) (fun h52 => ?_))
  ·
   exfalso; simp [(sS e e).2 rfl] at h52
  refine W.skip (bC (qs (W.region ?_)))
  iterate 3 refine pE rfl ?_
  refine WO.nil (W.bb [0, 1] ⟨k + 1, ?_⟩ ?_ rfl ?_ trivial ?_ trivial rfl)
  · exact hlt
  · dsimp only; omega
  · repeat' first | exact trivial | refine ⟨rfl, ?_⟩ | refine ⟨aG (by assumption) (by assumption), ?_⟩
  repeat' first | exact trivial | refine ⟨rfl, ?_⟩
 refine W.exit (aP (aS (aM (qs (W.seq (W.region (pE rfl (WO.nil (qs (W.ret (QF.az trivial rfl ?_)))))))))))
 rfl
theorem uU (l : List aK) (hl : l.length ≤ 1000) (hp : ∀ p ∈ l, p.evs.length ≤ 1000) : ax Tryz.prog 40 [.d (.sl (l.map aK.c)), .d (.sl (l.map aK.c))] (.d (.v (.bool true))) 0 := by
 have hm : l.length ≤ maxLen := by simp only [maxLen]; omega
 refine ax.aV (n := 27) (ts := [4]) Tryz.func40 (by kernel_rfl) rfl Tryz.ntmps40 Tryz.results40 rfl rfl fun C hC hG => ?_
 refine W.seq (W.region (pE rfl (WO.nil (qs ?_))))
 iterate 2 refine W.seq ?_
 refine W.region ?_
 iterate 5 refine pE rfl ?_
 refine WO.nil (qs (au rfl (fun h10 => ?_) (fun h10 => ?_)))
 ·
  exfalso; simp at h10
 refine W.skip (qs ?_)
 iterate 2 refine W.seq ?_
 refine W.region (pE rfl (WO.nil (qs (W.block ?_))))
 refine W.aW (ι := {x : Nat // match x with | k => k ≤ l.length})
  (fun x => match x.1 with | k => [(5, .d (.v (.int .i64 ((k : Nat) : Int))))]) [(0, _), (1, _)]
  (fun x => match x.1 with | k => []) [] [] 0 (fun x => match x.1 with | k => l.length - k)
  [] ⟨0, ?_⟩ rfl ?_ ⟨rfl, rfl, rfl, rfl, trivial⟩ ?_ trivial rfl ?_
 · exact Nat.zero_le _
 · repeat' first | exact trivial | refine ⟨rfl, ?_⟩
 · repeat' exact trivial
 rintro ⟨k, hk⟩
 show W _ _ _ _ _ ⟨[(5, .d (.v (.int .i64 ((k : Nat) : Int)))), (0, _), (1, _)], [], [], 0⟩
 iterate 2 refine W.seq ?_
 refine W.region ?_
 iterate 4 refine pE rfl ?_
 refine WO.nil (qs (ba (l := l) (k := k) rfl (by simp [Ex.aJ, aE]) hk (fun p hx hd hlt => ?_) (fun he hd => ?_)))
 ·
  have hpe := hp p (List.mem_of_getElem? hx)
  refine W.skip (qs (W.seq (W.block (W.seq (W.cU aa (by kernel_rfl) ?_)))))
  iterate 2 refine aC (ev aa rfl) rfl ?_
  refine aC (indexAddr aa rfl rfl rfl rfl rfl rfl (Int.natCast_nonneg _) (aq hx) rfl) rfl ?_
  refine aC (ev aa rfl) rfl ?_
  iterate 2 refine aC (ev aa rfl) rfl ?_
  refine aC (indexAddr aa rfl rfl rfl rfl rfl rfl (Int.natCast_nonneg _) (aq hx) rfl) rfl ?_
  refine aC (ev aa rfl) rfl ?_
  refine aC (aw rfl rfl rfl ((vd _ (by assumption))) rfl) rfl ?_
  refine aC (ev aa rfl) rfl ?_
  refine CH.nil ?_
  refine qs (au rfl (fun h26 => ?_) (fun h26 => ?_))
  ·
   exfalso; simp at h26
  refine W.skip (bC (qs (W.region ?_)))
  iterate 3 refine pE rfl ?_
  refine WO.nil (W.bb [] ⟨k + 1, ?_⟩ ?_ rfl ?_ ⟨rfl, rfl, rfl, rfl, trivial⟩ ?_ trivial rfl)
  · exact hlt
  · dsimp only; omega
  · repeat' first | exact trivial | refine ⟨aG (by assumption) (by assumption), ?_⟩
  repeat' exact trivial
 refine W.exit (aP (aS (aM (qs (W.seq (W.region (pE rfl (WO.nil (qs (W.ret (QF.az trivial rfl ?_)))))))))))
 rfl
theorem vl (ts : List bz) (ds : List (Int × Int)) (ht : ts.length ≤ 1000) (hd : ds.length ≤ 1000) : ax Tryz.prog 39 [.ag [.sl (ts.map bz.c), .sl (ds.map bk), .sl []], .ag [.sl (ts.map bz.c), .sl (ds.map bk), .sl []]] (.d (.v (.bool true))) 0 := by
 have hm : ts.length ≤ maxLen := by simp only [maxLen]; omega
 have hm2 : ds.length ≤ maxLen := by simp only [maxLen]; omega
 refine ax.aV (n := 87) (ts := [4]) Tryz.func39 (by kernel_rfl) rfl Tryz.ntmps39 Tryz.results39 rfl rfl fun C hC hG => ?_
 refine W.seq (W.region (cg rfl rfl rfl (cg rfl rfl rfl (pE rfl (WO.nil (qs ?_))))))
 iterate 2 refine W.seq ?_
 apply aI; (case hb => rfl)
 ·
  refine pE rfl (pE rfl ?_)
  iterate 2 refine pE rfl ?_
  refine pE rfl ?_
  iterate 3 refine pE rfl ?_
  apply an; (case hj => rfl); (case hl => rfl)
  ·
   iterate 7 refine ae rfl rfl rfl rfl ?_
   iterate 2 refine pE rfl ?_
   iterate 7 refine ae rfl rfl rfl rfl ?_
   refine pE rfl (WO.nil (ay rfl rfl rfl))
  refine ab rfl rfl (pE rfl (ab rfl rfl (pE rfl (ab rfl rfl (pE rfl (ab rfl rfl (pE rfl (ab rfl rfl (pE rfl (ab rfl rfl (pE rfl (ab rfl rfl ?_))))))))))))
  iterate 3 refine pE rfl ?_
  apply an; (case hj => rfl); (case hl => rfl)
  ·
   iterate 7 refine ae rfl rfl rfl rfl ?_
   refine pE rfl (WO.nil (ay rfl rfl rfl))
  refine ab rfl rfl (pE rfl (ab rfl rfl (pE rfl (ab rfl rfl (pE rfl (ab rfl rfl (pE rfl (ab rfl rfl (pE rfl (ab rfl rfl (pE rfl (ab rfl rfl ?_))))))))))))
  iterate 2 refine pE rfl ?_
  refine WO.nil (ay rfl rfl rfl)
 refine qs (au rfl (fun h32 => ?_) (fun h32 => ?_))
 ·
  exfalso; simp at h32
 refine W.skip (qs ?_)
 iterate 2 refine W.seq ?_
 refine W.region (pE rfl (WO.nil (qs (W.block ?_))))
 refine W.aW (ι := {x : Nat // match x with | k => k ≤ ts.length})
  (fun x => match x.1 with | k => [(2, .ptr 0 0), (3, .ptr 1 0), (5, .d (.v (.int .i64 ((k : Nat) : Int))))]) []
  (fun x => match x.1 with | k => [(0, [.d (.sl (ts.map bz.c)), .d (.sl (ds.map bk)), .d (.sl [])]), (1, [.d (.sl (ts.map bz.c)), .d (.sl (ds.map bk)), .d (.sl [])])]) [] [] 2 (fun x => match x.1 with | k => ts.length - k)
  [0, 1] ⟨0, ?_⟩ rfl ?_ trivial ?_ trivial rfl ?_
 · exact Nat.zero_le _
 · repeat' first | exact trivial | refine ⟨rfl, ?_⟩
 · repeat' first | exact trivial | refine ⟨rfl, ?_⟩
 rintro ⟨k, hk⟩
 show W _ _ _ _ _ ⟨[(2, .ptr 0 0), (3, .ptr 1 0), (5, .d (.v (.int .i64 ((k : Nat) : Int))))], [(0, [.d (.sl (ts.map bz.c)), .d (.sl (ds.map bk)), .d (.sl [])]), (1, [.d (.sl (ts.map bz.c)), .d (.sl (ds.map bk)), .d (.sl [])])], [], 2⟩
 iterate 2 refine W.seq ?_
 refine W.region ?_
 iterate 2 refine pE rfl ?_
 refine pE rfl ?_
 iterate 2 refine pE rfl ?_
 refine WO.nil (qs (ba (l := ts) (k := k) rfl (by simp [Ex.aJ, aE]) hk (fun t hx hd hlt => ?_) (fun he hd => ?_)))
 ·
  refine W.skip (qs (W.seq (W.block (W.seq (W.cU aa (by kernel_rfl) ?_)))))
  refine aC (ev aa rfl) rfl ?_
  refine aC (ev aa rfl) rfl ?_
  refine aC (ev aa rfl) rfl ?_
  refine aC (indexAddr aa rfl rfl rfl rfl rfl rfl (Int.natCast_nonneg _) (aq hx) rfl) rfl ?_
  refine aC (ev aa rfl) rfl ?_
  refine aC (ev aa rfl) rfl ?_
  refine aC (ev aa rfl) rfl ?_
  refine aC (ev aa rfl) rfl ?_
  refine aC (indexAddr aa rfl rfl rfl rfl rfl rfl (Int.natCast_nonneg _) (aq hx) rfl) rfl ?_
  refine aC (ev aa rfl) rfl ?_
  refine aC (ev aa rfl) rfl ?_
  refine CH.nil ?_
  refine qs (au rfl (fun h50 => ?_) (fun h50 => ?_))
  ·
   exfalso; simp at h50
  refine W.skip (bC (qs (W.region ?_)))
  iterate 3 refine pE rfl ?_
  refine WO.nil (W.bb [0, 1] ⟨k + 1, ?_⟩ ?_ rfl ?_ trivial ?_ trivial rfl)
  · exact hlt
  · dsimp only; omega
  · repeat' first | exact trivial | refine ⟨rfl, ?_⟩ | refine ⟨aG (by assumption) (by assumption), ?_⟩
  repeat' first | exact trivial | refine ⟨rfl, ?_⟩
 refine W.exit (aP (aS (aM (qs ?_))))
 iterate 2 refine W.seq ?_
 refine W.region (pE rfl (WO.nil (qs (W.block ?_))))
 refine W.aW (ι := {x : Nat // match x with | k => k ≤ ds.length})
  (fun x => match x.1 with | k => [(2, .ptr 0 0), (3, .ptr 1 0), (6, .d (.v (.int .i64 ((k : Nat) : Int))))]) []
  (fun x => match x.1 with | k => [(0, [.d (.sl (ts.map bz.c)), .d (.sl (ds.map bk)), .d (.sl [])]), (1, [.d (.sl (ts.map bz.c)), .d (.sl (ds.map bk)), .d (.sl [])])]) [] [] 2 (fun x => match x.1 with | k => ds.length - k)
  [0, 1] ⟨0, ?_⟩ rfl ?_ trivial ?_ trivial rfl ?_
 · exact Nat.zero_le _
 · repeat' first | exact trivial | refine ⟨rfl, ?_⟩
 · repeat' first | exact trivial | refine ⟨rfl, ?_⟩
 rintro ⟨k, hk⟩
 show W _ _ _ _ _ ⟨[(2, .ptr 0 0), (3, .ptr 1 0), (6, .d (.v (.int .i64 ((k : Nat) : Int))))], [(0, [.d (.sl (ts.map bz.c)), .d (.sl (ds.map bk)), .d (.sl [])]), (1, [.d (.sl (ts.map bz.c)), .d (.sl (ds.map bk)), .d (.sl [])])], [], 2⟩
 iterate 2 refine W.seq ?_
 refine W.region ?_
 iterate 2 refine pE rfl ?_
 refine pE rfl ?_
 iterate 2 refine pE rfl ?_
 refine WO.nil (qs (ba (l := ds) (k := k) rfl (by simp [Ex.aJ, aE]) hk (fun t hx hd hlt => ?_) (fun he hd => ?_)))
 ·
  refine W.skip (qs (W.seq (W.block (W.seq (W.cU aa (by kernel_rfl) ?_)))))
  refine aC (ev aa rfl) rfl ?_
  refine aC (ev aa rfl) rfl ?_
  refine aC (ev aa rfl) rfl ?_
  refine aC (indexAddr aa rfl rfl rfl rfl rfl rfl (Int.natCast_nonneg _) (aq hx) rfl) rfl ?_
  refine aC (ev aa rfl) rfl ?_
  refine aC (ev aa rfl) rfl ?_
  refine aC (ev aa rfl) rfl ?_
  refine aC (ev aa rfl) rfl ?_
  refine aC (indexAddr aa rfl rfl rfl rfl rfl rfl (Int.natCast_nonneg _) (aq hx) rfl) rfl ?_
  refine aC (ev aa rfl) rfl ?_
  refine aC (ev aa rfl) rfl ?_
  refine CH.nil ?_
  refine qs (au rfl (fun h68 => ?_) (fun h68 => ?_))
  ·
   exfalso; simp at h68
  refine W.skip (bC (qs (W.region ?_)))
  iterate 3 refine pE rfl ?_
  refine WO.nil (W.bb [0, 1] ⟨k + 1, ?_⟩ ?_ rfl ?_ trivial ?_ trivial rfl)
  · exact hlt
  · dsimp only; omega
  · repeat' first | exact trivial | refine ⟨rfl, ?_⟩ | refine ⟨aG (by assumption) (by assumption), ?_⟩
  repeat' first | exact trivial | refine ⟨rfl, ?_⟩
 refine W.exit (aP (aS (aM (qs ?_))))
 iterate 2 refine W.seq ?_
 refine W.region (pE rfl (WO.nil (qs (W.block ?_))))
 refine W.aW (ι := {x : Nat // match x with | k => k ≤ ([] : List (List D)).length})
  (fun x => match x.1 with | k => [(2, .ptr 0 0), (3, .ptr 1 0), (7, .d (.v (.int .i64 ((k : Nat) : Int))))]) []
  (fun x => match x.1 with | k => [(0, [.d (.sl (ts.map bz.c)), .d (.sl (ds.map bk)), .d (.sl [])]), (1, [.d (.sl (ts.map bz.c)), .d (.sl (ds.map bk)), .d (.sl [])])]) [] [] 2 (fun x => match x.1 with | k => ([] : List (List D)).length - k)
  [0, 1] ⟨0, ?_⟩ rfl ?_ trivial ?_ trivial rfl ?_
 · exact Nat.zero_le _
 · repeat' first | exact trivial | refine ⟨rfl, ?_⟩
 · repeat' first | exact trivial | refine ⟨rfl, ?_⟩
 rintro ⟨k, hk⟩
 show W _ _ _ _ _ ⟨[(2, .ptr 0 0), (3, .ptr 1 0), (7, .d (.v (.int .i64 ((k : Nat) : Int))))], [(0, [.d (.sl (ts.map bz.c)), .d (.sl (ds.map bk)), .d (.sl [])]), (1, [.d (.sl (ts.map bz.c)), .d (.sl (ds.map bk)), .d (.sl [])])], [], 2⟩
 iterate 2 refine W.seq ?_
 refine W.region ?_
 iterate 2 refine pE rfl ?_
 refine pE rfl ?_
 iterate 2 refine pE rfl ?_
 refine WO.nil (qs (ba (l := ([] : List (List D))) (k := k) rfl (by simp [Ex.aJ, aE]) hk (fun t hx hd hlt => ?_) (fun he hd => ?_)))
 ·
  exfalso; simp at hx
 refine W.exit (aP (aS (aM (qs (W.seq (W.region (pE rfl (WO.nil (qs (W.ret (QF.az trivial rfl ?_)))))))))))
 rfl
def mL (l : la) : Prop := l.ts.length ≤ 1000 ∧ l.ds.length ≤ 1000 ∧ l.ps.length ≤ 1000 ∧ ∀ p ∈ l.ps, p.evs.length ≤ 1000
theorem tG (l : la) (hl : mL l) : ax Tryz.prog 12 [.ag l.c, .ag l.c] (.d (.v (.bool true))) 0 := by
 obtain ⟨h1, h2, h3, h4⟩ := hl
 refine ax.aV (n := 17) (ts := [4]) Tryz.func12 (by kernel_rfl) rfl Tryz.ntmps12 Tryz.results12 rfl rfl fun C hC hG => ?_
 refine W.seq (W.region (cg rfl rfl rfl (cg rfl rfl rfl (pE rfl (WO.nil (qs (W.seq ?_)))))))
 apply aI; (case hb => rfl)
 ·
  refine pE rfl (pE rfl (pE rfl (pE rfl (pu (aw rfl rfl rfl (vl l.ts l.ds h1 h2) rfl) rfl ?_))))
  refine pE rfl ?_
  apply an; (case hj => rfl); (case hl => rfl)
  ·
   refine ab rfl rfl (pE rfl (ab rfl rfl (pE rfl (ab rfl rfl (pE rfl (ab rfl rfl (pE rfl (ab rfl rfl (pu (aw rfl rfl rfl (uU l.ps h3 h4) rfl) rfl ?_)))))))))
   iterate 2 refine pE rfl ?_
   refine WO.nil (ay rfl rfl rfl)
  iterate 5 refine ae rfl rfl rfl rfl ?_
  iterate 2 refine pE rfl ?_
  refine WO.nil (ay rfl rfl rfl)
 refine qs (W.ret (QF.az trivial rfl ?_))
 rfl
end Go.Proofs.YtoojafbicmdclaaGreatDoor
namespace Go.Proofs.YtoojafbicmdclaaGreatDoor
open Go.Ab Go.Tb
set_option maxRecDepth 10000
attribute [local irreducible] W WO Pu QS QB QL QF QV bU CH QE
theorem pI (l : List Ev) : ax Tryz.prog 144 [.d (.sl (l.map Ev.c))] (.d (.v (.int .i64 (dH l none)))) 0 := by
 refine ax.aV (n := 35) (ts := [2]) Tryz.func144 (by kernel_rfl) rfl Tryz.ntmps144 Tryz.results144 rfl rfl fun C hC hG => ?_
 refine W.seq (W.region (pE rfl (WO.nil (qs ?_))))
 iterate 2 refine W.seq ?_
 refine W.region (pE rfl (WO.nil (qs (W.block (W.len (t := 0) rfl rfl (fun hlen => ?_))))))
 try simp only [List.length_map, Ex.aJ] at hlen
 refine W.aW (ι := {x : Nat // match x with | k => k ≤ l.length ∧ dH (l.drop k) (gD l k) = dH l none})
  (fun x => match x.1 with | k => [(3, .d (.v (.int .i64 ((k : Nat) : Int))))]) [(0, _)]
  (fun x => match x.1 with | k => []) [] [] 0 (fun x => match x.1 with | k => l.length - k)
  [] ⟨0, ?_⟩ rfl ?_ ⟨rfl, rfl, trivial⟩ ?_ trivial rfl ?_
 · exact ⟨Nat.zero_le _, rfl⟩
 · repeat' first | exact trivial | refine ⟨rfl, ?_⟩
 · repeat' exact trivial
 rintro ⟨k, hk, hI⟩
 show W _ _ _ _ _ ⟨[(3, .d (.v (.int .i64 ((k : Nat) : Int)))), (0, _)], [], [], 0⟩
 iterate 2 refine W.seq ?_
 refine W.region ?_
 iterate 4 refine pE rfl ?_
 refine WO.nil (qs (ba (l := l) (k := k) rfl (by simp [Ex.aJ, aE]) hk (fun e hx hd hlt => ?_) (fun he hd => ?_)))
 ·
  rw [hd] at hI
  simp only [dH] at hI
  obtain ⟨p, hp⟩ : ∃ p : Ev, 0 < k → l[k - 1]? = some p := ⟨l[k - 1]'(by omega), fun _ => by simp⟩
  have hlast : mS (gD l k) e.time = (decide (0 < k) && decide (e.time < p.time)) := by
   unfold gD mS
   by_cases q : k = 0
   · simp [q]
   rw [if_neg q, hp (by omega)]; simp; omega
  rw [hlast] at hI
  have hnext : gD l (k + 1) = some e.time := by unfold gD; rw [if_neg (by omega), Nat.add_sub_cancel, hx]; rfl
  refine W.skip (qs (W.seq (W.block (W.seq (W.region ?_)))))
  iterate 2 refine pE rfl ?_
  refine pu (indexAddr aa rfl rfl rfl rfl rfl rfl (Int.natCast_nonneg _) (aq hx) rfl) rfl ?_
  refine pE rfl (pu (aw rfl rfl rfl (um e) rfl) rfl ?_)
  refine pE rfl (WO.nil (qs ?_))
  iterate 2 refine W.seq ?_
  refine W.region ?_
  iterate 2 refine pE rfl ?_
  refine WO.nil (qs (au rfl (fun h17 => ?_) (fun h17 => ?_)))
  ·
   have hc : cK e ≠ 0 := by simpa using h17
   rw [if_pos hc] at hI
   refine W.seq (W.region ?_)
   iterate 2 refine pE rfl ?_
   refine WO.nil (qs (W.ret (aB (aT (aB (dc (aT (aB (QF.az trivial rfl ?_)))))))))
   simp only [norm, aL, ← hI]
  have hc : cK e = 0 := by simpa using h17
  rw [if_neg (by simp [hc])] at hI
  refine W.skip (qs (W.seq ?_))
  apply ke aa; (case hb => rfl); (case hB => kernel_rfl)
  ·
   iterate 3 refine aC (ev aa rfl) rfl ?_
   apply jI; (case hj => rfl); (case hl => rfl)
   ·
    intro g21
    refine bN rfl rfl (ev aa rfl) rfl ?_
    refine bN rfl rfl (ev aa rfl) rfl ?_
    refine bN rfl rfl (indexAddr aa rfl rfl rfl rfl rfl rfl (Int.natCast_nonneg _) (aq hx) rfl) rfl ?_
    refine bN rfl rfl (ev aa rfl) rfl ?_
    refine bN rfl rfl (ev aa rfl) rfl ?_
    refine bN rfl rfl (ev aa rfl) rfl ?_
    refine bN rfl rfl (ev aa rfl) rfl ?_
    refine bN rfl rfl (cf (ev aa rfl) (y := ((k - 1 : Nat) : Int)) (sub_one (by simpa using g21) (by simp only [maxLen] at hlen; omega))) rfl ?_
    refine bN rfl rfl (indexAddr (l := p.c) aa rfl rfl rfl rfl rfl rfl (Int.natCast_nonneg _) (aq (hp (by simpa using g21))) rfl) rfl ?_
    refine bN rfl rfl (ev aa rfl) rfl ?_
    refine bN rfl rfl (ev aa rfl) rfl ?_
    refine bN rfl rfl (ev aa rfl) rfl ?_
    refine aC (ev aa rfl) rfl ?_
    refine CH.nil ?_
    refine ay rfl rfl rfl
   intro g21
   iterate 12 refine mI rfl rfl rfl rfl ?_
   refine aC (ev aa rfl) rfl ?_
   refine CH.nil ?_
   refine ay rfl rfl rfl
  refine qs (au rfl (fun h34 => ?_) (fun h34 => ?_))
  ·
   have hc2 : (decide (0 < k) && decide (e.time < p.time)) = true := by simp at h34 ⊢; omega
   rw [if_pos hc2] at hI
   refine W.seq (W.region (pE rfl (WO.nil (qs (W.ret (aT (aB (dc (aT (aB (QF.az trivial rfl ?_)))))))))))
   simp only [norm, aL, ← hI]
  have hc2 : (decide (0 < k) && decide (e.time < p.time)) = false := by simp at h34 ⊢; omega
  rw [if_neg (by rw [hc2]; decide)] at hI
  refine W.skip (bC (qs (W.region ?_)))
  iterate 3 refine pE rfl ?_
  refine WO.nil (W.bb [] ⟨k + 1, ?_⟩ ?_ rfl ?_ ⟨rfl, rfl, trivial⟩ ?_ trivial rfl)
  · exact ⟨hlt, by rw [hnext]; exact hI⟩
  · dsimp only; omega
  · repeat' first | exact trivial | refine ⟨aG (by assumption) (by assumption), ?_⟩
  repeat' exact trivial
 rw [hd] at hI
 simp only [dH] at hI
 refine W.exit (aP (aS (aM (qs (W.seq (W.region (pE rfl (WO.nil (qs (W.ret (QF.az trivial rfl ?_)))))))))))
 simp only [norm, aL, ← hI]
theorem nQ (n : Int) : ax Tryz.prog 143 [.d (.v (.int .i64 n))] (.d (.v (.bool (decide (0 ≤ n) && decide (n ≤ 1000000000000000))))) 0 := by
 refine ax.aV (n := 9) (ts := [2]) Tryz.func143 (by kernel_rfl) rfl Tryz.ntmps143 Tryz.results143 rfl rfl fun C hC hG => ?_
 refine W.seq (W.region (pE rfl (WO.nil (qs (W.seq ?_)))))
 apply aI; (case hb => rfl)
 ·
  iterate 3 refine pE rfl ?_
  apply an; (case hj => rfl); (case hl => rfl)
  ·
   refine ab rfl rfl (pE rfl (ab rfl rfl ?_))
   iterate 3 refine pE rfl ?_
   refine WO.nil (ay rfl rfl rfl)
  iterate 2 refine ae rfl rfl rfl rfl ?_
  iterate 2 refine pE rfl ?_
  refine WO.nil (ay rfl rfl rfl)
 refine qs (W.ret (QF.az trivial rfl ?_))
 simp only [norm, aL]; by_cases q : 0 ≤ n <;> simp [q]
theorem rN (p : aK) (h1 : 0 ≤ p.thread ∧ p.thread ≤ 1000000000000000) (h2 : p.serial = 0) (h3 : p.lost = 0) (h4 : 0 < p.evs.length ∧ p.evs.length ≤ 1000) : ax Tryz.prog 93 [.ag p.c] (.d (.v (.int .i64 (dH p.evs none)))) 0 := by
 obtain ⟨th, se, lo, evs⟩ := p
 simp only at h1 h2 h3 h4
 subst h2; subst h3
 refine ax.aV (n := 48) (ts := [2]) Tryz.func93 (by kernel_rfl) rfl Tryz.ntmps93 Tryz.results93 rfl rfl fun C hC hG => ?_
 refine W.seq (W.region (cg rfl rfl rfl (pE rfl (WO.nil (qs (W.seq (W.block (W.seq ?_))))))))
 apply aI; (case hb => rfl)
 ·
  refine pE rfl (pE rfl (pu (aw rfl rfl rfl (nQ ..) rfl) rfl ?_))
  iterate 2 refine pE rfl ?_
  apply an; (case hj => rfl); (case hl => rfl)
  ·
   iterate 4 refine ae rfl rfl rfl rfl ?_
   iterate 2 refine pE rfl ?_
   iterate 4 refine ae rfl rfl rfl rfl ?_
   iterate 2 refine pE rfl ?_
   iterate 5 refine ae rfl rfl rfl rfl ?_
   iterate 2 refine pE rfl ?_
   refine WO.nil (ay rfl rfl rfl)
  refine ab rfl rfl (pE rfl (ab rfl rfl (pE rfl (ab rfl rfl (pu (aw rfl rfl rfl (nQ ..) rfl) rfl ?_)))))
  refine ab rfl rfl ?_
  iterate 3 refine pE rfl ?_
  apply an; (case hj => rfl); (case hl => rfl)
  ·
   iterate 4 refine ae rfl rfl rfl rfl ?_
   iterate 2 refine pE rfl ?_
   iterate 5 refine ae rfl rfl rfl rfl ?_
   iterate 2 refine pE rfl ?_
   refine WO.nil (ay rfl rfl rfl)
  refine ab rfl rfl (pE rfl (ab rfl rfl (pE rfl (ab rfl rfl (pu (aw rfl rfl rfl (nQ ..) rfl) rfl ?_)))))
  refine ab rfl rfl ?_
  iterate 3 refine pE rfl ?_
  apply an; (case hj => rfl); (case hl => rfl)
  ·
   iterate 5 refine ae rfl rfl rfl rfl ?_
   iterate 2 refine pE rfl ?_
   refine WO.nil (ay rfl rfl rfl)
  refine ab rfl rfl (pE rfl (ab rfl rfl (pE rfl (ab rfl rfl (pE rfl (ab rfl rfl (pE rfl (ab rfl rfl ?_))))))))
  iterate 3 refine pE rfl ?_
  refine WO.nil (ay rfl rfl rfl)
 refine qs (au rfl (fun h3 => ?_) (fun h3 => ?_))
 ·
  exfalso
  simp [h1.1, h1.2] at h3
 refine W.seq (W.region (pE rfl (pE rfl (pE rfl (pE rfl (pE rfl (pu (cf (ev aa rfl) (y := 1000000000000000 - (evs.length : Int)) (by show IntKind.i64.wrap (1000000000000000 - ((evs.map Ev.c).length : Nat)) = _; rw [List.length_map]; exact wrap64 (by omega))) rfl ?_)))))))
 iterate 2 refine pE rfl ?_
 refine WO.nil (qs (au rfl (fun h27 => ?_) (fun h27 => ?_)))
 ·
  exfalso; simp at h27; omega
 refine W.seq (W.region (pE rfl (pE rfl ?_)))
 iterate 3 refine pE rfl ?_
 refine WO.nil (qs (au rfl (fun h35 => ?_) (fun h35 => ?_)))
 ·
  exfalso
  have : (((evs.map Ev.c).length : Nat) : Int) = 0 := of_decide_eq_true h35
  rw [List.length_map] at this
  omega
 refine W.seq (W.region (pE rfl (pE rfl ?_)))
 iterate 3 refine pE rfl ?_
 refine WO.nil (qs (au rfl (fun h40 => ?_) (fun h40 => ?_)))
 ·
  exfalso; simp at h40; omega
 refine W.skip (bC (qs (W.seq (W.region (pE rfl (pE rfl (pu (aw rfl rfl rfl (pI ..) rfl) rfl ?_)))))))
 refine pE rfl (WO.nil (qs (W.ret (QF.az trivial rfl ?_))))
 rfl
theorem sj (t : bz) (ht : 0 ≤ t.id ∧ t.id ≤ 1000000000000000 ∧ be t.name = 0) : ax Tryz.prog 140 [.ag t.c] (.d (.v (.int .i64 0))) 0 := by
 refine ax.aV (n := 24) (ts := [2]) Tryz.func140 (by kernel_rfl) rfl Tryz.ntmps140 Tryz.results140 rfl rfl fun C hC hG => ?_
 refine W.seq (W.region (cg rfl rfl rfl (pE rfl (WO.nil (qs ?_)))))
 iterate 2 refine W.seq ?_
 apply aI; (case hb => rfl)
 ·
  refine pE rfl (pE rfl ?_)
  iterate 2 refine pE rfl ?_
  apply an; (case hj => rfl); (case hl => rfl)
  ·
   iterate 3 refine ae rfl rfl rfl rfl ?_
   iterate 2 refine pE rfl ?_
   iterate 3 refine ae rfl rfl rfl rfl ?_
   iterate 2 refine pE rfl ?_
   iterate 3 refine ae rfl rfl rfl rfl ?_
   refine pE rfl (WO.nil (ay rfl rfl rfl))
  refine ab rfl rfl (pE rfl (ab rfl rfl (pE rfl (ab rfl rfl ?_))))
  iterate 3 refine pE rfl ?_
  apply an; (case hj => rfl); (case hl => rfl)
  ·
   iterate 3 refine ae rfl rfl rfl rfl ?_
   iterate 2 refine pE rfl ?_
   iterate 3 refine ae rfl rfl rfl rfl ?_
   refine pE rfl (WO.nil (ay rfl rfl rfl))
  refine ab rfl rfl (pE rfl (ab rfl rfl (pE rfl (ab rfl rfl ?_))))
  iterate 3 refine pE rfl ?_
  apply an; (case hj => rfl); (case hl => rfl)
  ·
   iterate 3 refine ae rfl rfl rfl rfl ?_
   refine pE rfl (WO.nil (ay rfl rfl rfl))
  refine ab rfl rfl (pE rfl (ab rfl rfl (pE rfl (ab rfl rfl ?_))))
  iterate 2 refine pE rfl ?_
  refine WO.nil (ay rfl rfl rfl)
 refine qs (au rfl (fun h20 => ?_) (fun h20 => ?_))
 ·
  exfalso; simp at h20; omega
 refine W.skip (qs (W.seq (W.region (pE rfl (pE rfl (pu (aw rfl rfl rfl (l7 ..) rfl) rfl ?_))))))
 refine pE rfl (WO.nil (qs (W.ret (QF.az trivial rfl ?_))))
 simp only [norm, aL, ht.2.2]
theorem qh {k : Nat} {d : Int × Int} (h : bM[k]? = some d) : k = 0 ∧ d = (0, 0) := by
 match k with
 | 0 => simp [bM] at h; exact ⟨rfl, h.symm⟩
 | k + 1 => simp [bM] at h
theorem oO : ax Tryz.prog 188 [.d (.sl (bM.map bk)), .d (.v (.int .i64 0))] (.d (.v (.int .i64 0))) 0 := by
 refine ax.aV (n := 20) (ts := [4]) Tryz.func188 (by kernel_rfl) rfl Tryz.ntmps188 Tryz.results188 rfl rfl fun C hC hG => ?_
 refine W.seq (W.region (pE rfl (WO.nil (qs ?_))))
 iterate 2 refine W.seq ?_
 refine W.region (pE rfl (WO.nil (qs (W.block ?_))))
 refine W.aW (ι := {x : Nat // match x with | k => k = 0})
  (fun x => match x.1 with | k => [(5, .d (.v (.int .i64 ((k : Nat) : Int))))]) [(0, _), (1, _)]
  (fun x => match x.1 with | k => []) [] [] 0 (fun x => match x.1 with | k => bM.length - k)
  [] ⟨0, ?_⟩ rfl ?_ ⟨rfl, rfl, rfl, rfl, trivial⟩ ?_ trivial rfl ?_
 · rfl
 · repeat' first | exact trivial | refine ⟨rfl, ?_⟩
 · repeat' exact trivial
 rintro ⟨k, hk⟩
 show W _ _ _ _ _ ⟨[(5, .d (.v (.int .i64 ((k : Nat) : Int)))), (0, _), (1, _)], [], [], 0⟩
 have hk0 := hk
 have hk : k ≤ bM.length := by have h : k = 0 := hk0; rw [h]; exact Nat.zero_le _
 iterate 2 refine W.seq ?_
 refine W.region ?_
 iterate 4 refine pE rfl ?_
 refine WO.nil (qs (ba (l := bM) (k := k) rfl (by simp [Ex.aJ, aE]) hk (fun d hx hd hlt => ?_) (fun he hd => ?_)))
 ·
  obtain ⟨hk0, hd0⟩ := qh hx
  subst hk0
  subst hd0
  refine W.skip (qs (W.seq (W.block (W.seq (W.region ?_)))))
  iterate 2 refine pE rfl ?_
  refine pu (indexAddr (l := bk (0, 0)) aa rfl rfl rfl rfl rfl rfl (by decide) rfl rfl) rfl ?_
  refine pE rfl (pE rfl ?_)
  iterate 2 refine pE rfl ?_
  refine WO.nil (qs (au rfl (fun h18 => ?_) (fun h18 => ?_)))
  ·
   refine W.seq (W.region ?_)
   iterate 2 refine pE rfl ?_
   refine WO.nil (qs (W.ret (aT (aB (dc (aT (aB (QF.az trivial rfl ?_))))))))
   rfl
  exfalso; exact absurd h18 (by decide)
 exfalso
 have h : k = 0 := hk0
 rw [h] at he
 exact absurd he (by decide)
theorem od : ax Tryz.prog 141 [.d (.sl (bM.map bk)), .d (.sl [])] (.d (.v (.int .i64 0))) 0 := by
 refine ax.aV (n := 94) (ts := [4]) Tryz.func141 (by kernel_rfl) rfl Tryz.ntmps141 Tryz.results141 rfl rfl fun C hC hG => ?_
 refine W.seq (W.region (pE rfl (WO.nil (qs (W.seq (W.block (W.seq (W.region ?_))))))))
 iterate 4 refine pE rfl ?_
 refine WO.nil (qs (au rfl (fun h8 => ?_) (fun h8 => ?_)))
 ·
  exfalso; exact absurd h8 (by decide)
 refine W.seq ?_
 apply aI; (case hb => rfl)
 ·
  iterate 4 refine pE rfl ?_
  apply an; (case hj => rfl); (case hl => rfl)
  ·
   iterate 3 refine ae rfl rfl rfl rfl ?_
   iterate 2 refine pE rfl ?_
   refine WO.nil (ay rfl rfl rfl)
  refine ab rfl rfl (pE rfl (ab rfl rfl (pE rfl (ab rfl rfl ?_))))
  iterate 3 refine pE rfl ?_
  refine WO.nil (ay rfl rfl rfl)
 refine qs (au rfl (fun h12 => ?_) (fun h12 => ?_))
 ·
  exfalso; exact absurd h12 (by decide)
 refine W.seq ?_
 apply aI; (case hb => rfl)
 ·
  refine pE rfl (pu (indexAddr (l := bk (0, 0)) aa rfl rfl rfl rfl rfl rfl (by decide) rfl rfl) rfl ?_)
  refine pE rfl (pE rfl ?_)
  iterate 2 refine pE rfl ?_
  apply an; (case hj => rfl); (case hl => rfl)
  ·
   iterate 5 refine ae rfl rfl rfl rfl ?_
   iterate 2 refine pE rfl ?_
   refine WO.nil (ay rfl rfl rfl)
  refine ab rfl rfl (pE rfl (ab rfl rfl (pu (indexAddr (l := bk (0, 0)) aa rfl rfl rfl rfl rfl rfl (by decide) rfl rfl) rfl ?_)))
  refine ab rfl rfl (pE rfl (ab rfl rfl (pE rfl (ab rfl rfl ?_))))
  iterate 3 refine pE rfl ?_
  refine WO.nil (ay rfl rfl rfl)
 refine qs (au rfl (fun h21 => ?_) (fun h21 => ?_))
 ·
  exfalso; exact absurd h21 (by decide)
 refine W.skip (bC (qs ?_))
 iterate 2 refine W.seq ?_
 refine W.region (pE rfl (WO.nil (qs (W.block ?_))))
 refine W.aW (ι := {x : Nat // match x with | k => k ≤ bM.length})
  (fun x => match x.1 with | k => [(5, .d (.v (.int .i64 ((k : Nat) : Int))))]) [(0, _), (1, _)]
  (fun x => match x.1 with | k => []) [] [] 0 (fun x => match x.1 with | k => bM.length - k)
  [] ⟨0, ?_⟩ rfl ?_ ⟨rfl, rfl, rfl, rfl, trivial⟩ ?_ trivial rfl ?_
 · exact Nat.zero_le _
 · repeat' first | exact trivial | refine ⟨rfl, ?_⟩
 · repeat' exact trivial
 rintro ⟨k, hk⟩
 show W _ _ _ _ _ ⟨[(5, .d (.v (.int .i64 ((k : Nat) : Int)))), (0, _), (1, _)], [], [], 0⟩
 iterate 2 refine W.seq ?_
 refine W.region ?_
 iterate 4 refine pE rfl ?_
 refine WO.nil (qs (ba (l := bM) (k := k) rfl (by simp [Ex.aJ, aE]) hk (fun d hx hd hlt => ?_) (fun he hd => ?_)))
 ·
  obtain ⟨hk0, hd0⟩ := qh hx
  subst hk0
  subst hd0
  refine W.skip (qs (W.seq (W.block ?_)))
  iterate 2 refine W.seq ?_
  apply aI; (case hb => rfl)
  ·
   iterate 2 refine pE rfl ?_
   refine pu (indexAddr (l := bk (0, 0)) aa rfl rfl rfl rfl rfl rfl (by decide) rfl rfl) rfl ?_
   refine pE rfl (pE rfl ?_)
   iterate 2 refine pE rfl ?_
   apply an; (case hj => rfl); (case hl => rfl)
   ·
    iterate 6 refine ae rfl rfl rfl rfl ?_
    iterate 2 refine pE rfl ?_
    iterate 6 refine ae rfl rfl rfl rfl ?_
    iterate 2 refine pE rfl ?_
    iterate 6 refine ae rfl rfl rfl rfl ?_
    refine pE rfl (WO.nil (ay rfl rfl rfl))
   refine ab rfl rfl (pE rfl (ab rfl rfl (pE rfl (ab rfl rfl (pu (indexAddr (l := bk (0, 0)) aa rfl rfl rfl rfl rfl rfl (by decide) rfl rfl) rfl ?_)))))
   refine ab rfl rfl (pE rfl (ab rfl rfl (pE rfl (ab rfl rfl ?_))))
   iterate 3 refine pE rfl ?_
   apply an; (case hj => rfl); (case hl => rfl)
   ·
    iterate 6 refine ae rfl rfl rfl rfl ?_
    iterate 2 refine pE rfl ?_
    iterate 6 refine ae rfl rfl rfl rfl ?_
    refine pE rfl (WO.nil (ay rfl rfl rfl))
   refine ab rfl rfl (pE rfl (ab rfl rfl (pE rfl (ab rfl rfl (pu (indexAddr (l := bk (0, 0)) aa rfl rfl rfl rfl rfl rfl (by decide) rfl rfl) rfl ?_)))))
   refine ab rfl rfl (pE rfl (ab rfl rfl (pE rfl (ab rfl rfl ?_))))
   iterate 3 refine pE rfl ?_
   apply an; (case hj => rfl); (case hl => rfl)
   ·
    iterate 6 refine ae rfl rfl rfl rfl ?_
    refine pE rfl (WO.nil (ay rfl rfl rfl))
   refine ab rfl rfl (pE rfl (ab rfl rfl (pE rfl (ab rfl rfl (pu (indexAddr (l := bk (0, 0)) aa rfl rfl rfl rfl rfl rfl (by decide) rfl rfl) rfl ?_)))))
   refine ab rfl rfl (pE rfl (ab rfl rfl (pE rfl (ab rfl rfl ?_))))
   iterate 2 refine pE rfl ?_
   refine WO.nil (ay rfl rfl rfl)
  refine qs (au rfl (fun h69 => ?_) (fun h69 => ?_))
  ·
   exfalso; exact absurd h69 (by decide)
  refine W.skip (qs (W.seq (W.region ?_)))
  iterate 3 refine pE rfl ?_
  refine pu (indexAddr (l := bk (0, 0)) aa rfl rfl rfl rfl rfl rfl (by decide) rfl rfl) rfl ?_
  refine pE rfl (pE rfl (pu (aw rfl rfl rfl (oO ..) rfl) rfl ?_))
  iterate 2 refine pE rfl ?_
  refine WO.nil (qs (au rfl (fun h78 => ?_) (fun h78 => ?_)))
  ·
   exfalso; exact absurd h78 (by decide)
  refine W.skip (bC (qs (W.region ?_)))
  iterate 3 refine pE rfl ?_
  refine WO.nil (W.bb [] ⟨1, ?_⟩ ?_ rfl ?_ ⟨rfl, rfl, rfl, rfl, trivial⟩ ?_ trivial rfl)
  · decide
  · dsimp only; omega
  · repeat' first | exact trivial | refine ⟨rfl, ?_⟩
  repeat' exact trivial
 refine W.exit (aP (aS (aM (qs ?_))))
 iterate 2 refine W.seq ?_
 refine W.region (pE rfl (WO.nil (qs (W.block ?_))))
 refine W.aW (ι := {x : Nat // match x with | k => k ≤ ([] : List (List D)).length})
  (fun x => match x.1 with | k => [(6, .d (.v (.int .i64 ((k : Nat) : Int))))]) [(0, _), (1, _)]
  (fun x => match x.1 with | k => []) [] [] 0 (fun x => match x.1 with | k => ([] : List (List D)).length - k)
  [] ⟨0, ?_⟩ rfl ?_ ⟨rfl, rfl, rfl, rfl, trivial⟩ ?_ trivial rfl ?_
 · exact Nat.zero_le _
 · repeat' first | exact trivial | refine ⟨rfl, ?_⟩
 · repeat' exact trivial
 rintro ⟨k, hk⟩
 show W _ _ _ _ _ ⟨[(6, .d (.v (.int .i64 ((k : Nat) : Int)))), (0, _), (1, _)], [], [], 0⟩
 iterate 2 refine W.seq ?_
 refine W.region ?_
 iterate 4 refine pE rfl ?_
 refine WO.nil (qs (ba (l := ([] : List (List D))) (k := k) rfl (by simp [Ex.aJ, aE]) hk (fun d hx hd hlt => ?_) (fun he hd => ?_)))
 ·
  exfalso; simp at hx
 refine W.exit (aP (aS (aM (qs (W.seq (W.region (pE rfl (WO.nil (qs (W.ret (QF.az trivial rfl ?_)))))))))))
 rfl
theorem wR : ax Tryz.prog 142 [.d (.sl (bM.map bk)), .d (.v (.int .i64 0))] (.tup [.d (.v (.int .i64 0)), .d (.v (.bool true))]) 0 := by
 refine ax.aV (n := 22) (ts := [4, 5]) Tryz.func142 (by kernel_rfl) rfl Tryz.ntmps142 Tryz.results142 rfl rfl fun C hC hG => ?_
 refine W.seq (W.region ?_)
 iterate 2 refine pE rfl ?_
 refine WO.nil (qs (W.seq (W.region ?_)))
 iterate 2 refine pE rfl ?_
 refine pu (aw rfl rfl rfl (oO ..) rfl) rfl ?_
 refine pE rfl (WO.nil (qs ?_))
 iterate 2 refine W.seq ?_
 apply aI; (case hb => rfl)
 ·
  refine pE rfl (pu (aw rfl rfl rfl (ax.eD od) rfl) rfl ?_)
  iterate 2 refine pE rfl ?_
  apply an; (case hj => rfl); (case hl => rfl)
  ·
   iterate 2 refine ae rfl rfl rfl rfl ?_
   refine pE rfl (WO.nil (ay rfl rfl rfl))
  refine ab rfl rfl (pE rfl (ab rfl rfl ?_))
  iterate 2 refine pE rfl ?_
  refine WO.nil (ay rfl rfl rfl)
 refine qs (au rfl (fun h16 => ?_) (fun h16 => ?_))
 ·
  exfalso; exact absurd h16 (by decide)
 refine W.skip (qs (W.seq (W.region ?_)))
 iterate 2 refine pE rfl ?_
 refine pu (indexAddr (l := bk (0, 0)) aa rfl rfl rfl rfl rfl rfl (by decide) rfl rfl) rfl ?_
 refine pE rfl (pE rfl ?_)
 iterate 2 refine pE rfl ?_
 refine WO.nil (qs (W.ret (QF.az trivial rfl ?_)))
 rfl
end Go.Proofs.YtoojafbicmdclaaGreatDoor
namespace Go.Proofs.YtoojafbicmdclaaGreatDoor
open Go.Ab Go.Tb
set_option maxRecDepth 10000
attribute [local irreducible] W WO Pu QS QB QL QF QV bU CH QE
theorem tU (ts : List bz) (ok : rh ts) : ax Tryz.prog 92 [.ag (dD ts)] (.d (.v (.int .i64 (cR ts)))) 0 := by
 refine ax.aV (n := 81) (ts := [2]) Tryz.func92 (by kernel_rfl) rfl Tryz.ntmps92 Tryz.results92 rfl rfl fun C hC hG => ?_
 refine W.seq (W.region (cg rfl rfl rfl (pE rfl (WO.nil (qs ?_)))))
 iterate 2 refine W.seq ?_
 refine W.region (pE rfl (pE rfl ?_))
 iterate 2 refine pE rfl ?_
 refine WO.nil (qs (au rfl (fun h13 => ?_) (fun h13 => ?_)))
 ·
  have hg : cR ts = 8 := by
   have : (((ts.map bz.c).length : Nat) : Int) = 0 := of_decide_eq_true h13
   rw [List.length_map] at this
   unfold cR; rw [if_pos (List.eq_nil_of_length_eq_zero (by omega))]
  refine W.seq (W.region (pE rfl (WO.nil (qs (W.ret (aB (QF.az trivial rfl ?_)))))))
  rw [hg]; rfl
 have hne : ts ≠ [] := by
  intro e
  subst e
  exact absurd h13 (by decide)
 refine W.skip (qs ?_)
 iterate 2 refine W.seq ?_
 refine W.region (pE rfl (pE rfl ?_))
 iterate 2 refine pE rfl ?_
 refine WO.nil (qs (au rfl (fun h17 => ?_) (fun h17 => ?_)))
 ·
  have hg : cR ts = 7 := by simp at h17; unfold cR; rw [if_neg hne, if_pos (by omega)]
  refine W.seq (W.region (pE rfl (WO.nil (qs (W.ret (aB (QF.az trivial rfl ?_)))))))
  rw [hg]; rfl
 have hlen : ts.length ≤ 64 := by simp at h17; omega
 have hg : cR ts = 0 := by unfold cR; rw [if_neg hne, if_neg (by omega)]
 have hml : ts.length ≤ maxLen := by simp only [maxLen]; omega
 refine W.skip (qs ?_)
 iterate 2 refine W.seq ?_
 refine W.region (pE rfl (WO.nil (qs (W.block ?_))))
 refine W.aW (ι := {x : Nat // match x with | k => k ≤ ts.length})
  (fun x => match x.1 with | k => [(1, .ptr 0 0), (3, .d (.v (.int .i64 ((k : Nat) : Int))))]) []
  (fun x => match x.1 with | k => [(0, (dD ts).map A.d)]) [] [] 1 (fun x => match x.1 with | k => ts.length - k)
  [0] ⟨0, ?_⟩ rfl ?_ trivial ?_ trivial rfl ?_
 · exact Nat.zero_le _
 · repeat' first | exact trivial | refine ⟨rfl, ?_⟩
 · repeat' first | exact trivial | refine ⟨rfl, ?_⟩
 rintro ⟨k, hk⟩
 show W _ _ _ _ _ ⟨[(1, .ptr 0 0), (3, .d (.v (.int .i64 ((k : Nat) : Int))))], [(0, (dD ts).map A.d)], [], 1⟩
 iterate 2 refine W.seq ?_
 refine W.region ?_
 iterate 2 refine pE rfl ?_
 refine pE rfl ?_
 iterate 2 refine pE rfl ?_
 refine WO.nil (qs (ba (l := ts) (k := k) rfl (by simp [Ex.aJ, aE]) hk (fun t hx hd hlt => ?_) (fun he hd => ?_)))
 ·
  have hok := ok.1 t (List.mem_of_getElem? hx)
  refine W.skip (qs (W.seq (W.block (W.seq (W.region (pE rfl (pE rfl (pE rfl (pu (indexAddr aa rfl rfl rfl rfl rfl rfl (Int.natCast_nonneg _) (aq hx) rfl) rfl ?_)))))))))
  refine pE rfl (pu (aw rfl rfl rfl (sj t hok) rfl) rfl ?_)
  refine pE rfl (WO.nil (qs ?_))
  iterate 2 refine W.seq ?_
  refine W.region ?_
  iterate 2 refine pE rfl ?_
  refine WO.nil (qs (au rfl (fun h32 => ?_) (fun h32 => ?_)))
  ·
   exfalso; exact absurd h32 (by decide)
  refine W.skip (qs (W.seq (W.region (pE rfl (WO.nil (qs (W.block ?_)))))))
  refine W.aW (ι := {x : Nat // match x with | j => j ≤ k})
   (fun x => match x.1 with | j => [(1, .ptr 0 0), (5, .d (.v (.int .i64 ((j : Nat) : Int))))]) [(3, _)]
   (fun x => match x.1 with | j => [(0, (dD ts).map A.d)]) [] [] 1 (fun x => match x.1 with | j => k - j)
   [0] ⟨0, ?_⟩ rfl ?_ ⟨rfl, rfl, trivial⟩ ?_ trivial rfl ?_
  · exact Nat.zero_le _
  · repeat' first | exact trivial | refine ⟨rfl, ?_⟩
  · repeat' first | exact trivial | refine ⟨rfl, ?_⟩
  rintro ⟨j, hj⟩
  show W _ _ _ _ _ ⟨[(1, .ptr 0 0), (5, .d (.v (.int .i64 ((j : Nat) : Int)))), (3, _)], [(0, (dD ts).map A.d)], [], 1⟩
  iterate 2 refine W.seq ?_
  refine W.region ?_
  iterate 3 refine pE rfl ?_
  refine WO.nil (qs (au rfl (fun h36 => ?_) (fun h36 => ?_)))
  ·
   have hjk : j < k := by simp at h36; omega
   obtain ⟨u, hu⟩ : ∃ u, ts[j]? = some u := ⟨ts[j]'(by omega), by simp⟩
   have hne2 : u.id ≠ t.id := fun e => eu ok.2 hx (by rw [← e]; exact List.mem_map.2 ⟨u, List.mem_of_getElem? (by rw [List.getElem?_take_of_lt hjk]; exact hu), rfl⟩)
   refine W.skip (qs (W.seq (W.block (W.seq (W.cU aa (by kernel_rfl) ?_)))))
   refine aC (ev aa rfl) rfl ?_
   refine aC (ev aa rfl) rfl ?_
   refine aC (ev aa rfl) rfl ?_
   refine aC (indexAddr aa rfl rfl rfl rfl rfl rfl (Int.natCast_nonneg _) (aq hu) rfl) rfl ?_
   refine aC (ev aa rfl) rfl ?_
   refine aC (ev aa rfl) rfl ?_
   refine aC (ev aa rfl) rfl ?_
   refine aC (ev aa rfl) rfl ?_
   refine aC (ev aa rfl) rfl ?_
   refine aC (indexAddr aa rfl rfl rfl rfl rfl rfl (Int.natCast_nonneg _) (aq hx) rfl) rfl ?_
   refine aC (ev aa rfl) rfl ?_
   refine aC (ev aa rfl) rfl ?_
   refine aC (ev aa rfl) rfl ?_
   refine CH.nil ?_
   refine qs (au rfl (fun h51 => ?_) (fun h51 => ?_))
   ·
    exfalso; exact hne2 (of_decide_eq_true h51)
   refine W.skip (bC (qs (W.region (pE rfl (pu (cf (ev aa rfl) (y := ((j + 1 : Nat) : Int)) ((wrap64 (by omega)).trans (by omega))) rfl ?_)))))
   refine pE rfl (WO.nil (W.bb [0] ⟨j + 1, ?_⟩ ?_ rfl ?_ ⟨rfl, rfl, trivial⟩ ?_ trivial rfl))
   · exact hjk
   · dsimp only; omega
   · repeat' first | exact trivial | refine ⟨rfl, ?_⟩
   repeat' first | exact trivial | refine ⟨rfl, ?_⟩
  refine W.exit (aP (aS (aM (bC (qs (W.region ?_))))))
  iterate 3 refine pE rfl ?_
  refine WO.nil (W.bb [0] ⟨k + 1, ?_⟩ ?_ rfl ?_ trivial ?_ trivial rfl)
  · exact hlt
  · dsimp only; omega
  · repeat' first | exact trivial | refine ⟨rfl, ?_⟩ | refine ⟨aG (by assumption) (by assumption), ?_⟩
  repeat' first | exact trivial | refine ⟨rfl, ?_⟩
 refine W.exit (aP (aS (aM (qs (W.seq (W.region (pE rfl (pE rfl (pE rfl (pE rfl (pu (aw rfl rfl rfl od rfl) rfl ?_)))))))))))
 refine pE rfl (WO.nil (qs ?_))
 iterate 2 refine W.seq ?_
 refine W.region ?_
 iterate 2 refine pE rfl ?_
 refine WO.nil (qs (au rfl (fun h58 => ?_) (fun h58 => ?_)))
 ·
  exfalso; exact absurd h58 (by decide)
 refine W.skip (qs ?_)
 iterate 2 refine W.seq ?_
 refine W.region (pE rfl (WO.nil (qs (W.block ?_))))
 refine W.aW (ι := {x : Nat // match x with | k => k ≤ ts.length})
  (fun x => match x.1 with | k => [(1, .ptr 0 0), (7, .d (.v (.int .i64 ((k : Nat) : Int))))]) []
  (fun x => match x.1 with | k => [(0, (dD ts).map A.d)]) [] [] 1 (fun x => match x.1 with | k => ts.length - k)
  [0] ⟨0, ?_⟩ rfl ?_ trivial ?_ trivial rfl ?_
 · exact Nat.zero_le _
 · repeat' first | exact trivial | refine ⟨rfl, ?_⟩
 · repeat' first | exact trivial | refine ⟨rfl, ?_⟩
 rintro ⟨k, hk⟩
 show W _ _ _ _ _ ⟨[(1, .ptr 0 0), (7, .d (.v (.int .i64 ((k : Nat) : Int))))], [(0, (dD ts).map A.d)], [], 1⟩
 iterate 2 refine W.seq ?_
 refine W.region ?_
 iterate 2 refine pE rfl ?_
 refine pE rfl ?_
 iterate 2 refine pE rfl ?_
 refine WO.nil (qs (ba (l := ts) (k := k) rfl (by simp [Ex.aJ, aE]) hk (fun t hx hd hlt => ?_) (fun he hd => ?_)))
 ·
  refine W.skip (qs (W.seq (W.block (W.seq (W.cU aa (by kernel_rfl) ?_)))))
  refine aC (ev aa rfl) rfl ?_
  refine aC (ev aa rfl) rfl ?_
  refine aC (ev aa rfl) rfl ?_
  refine aC (ev aa rfl) rfl ?_
  refine aC (ev aa rfl) rfl ?_
  refine aC (indexAddr aa rfl rfl rfl rfl rfl rfl (Int.natCast_nonneg _) (aq hx) rfl) rfl ?_
  refine aC (ev aa rfl) rfl ?_
  refine aC (ev aa rfl) rfl ?_
  refine aC (aw rfl rfl rfl wR rfl) rfl ?_
  iterate 5 refine aC (ev aa rfl) rfl ?_
  refine CH.nil ?_
  refine qs (W.seq (W.region ?_))
  iterate 2 refine pE rfl ?_
  refine WO.nil (qs (au rfl (fun h80 => ?_) (fun h80 => ?_)))
  ·
   exfalso; exact absurd h80 (by decide)
  refine W.skip (bC (qs (W.region ?_)))
  iterate 3 refine pE rfl ?_
  refine WO.nil (W.bb [0] ⟨k + 1, ?_⟩ ?_ rfl ?_ trivial ?_ trivial rfl)
  · exact hlt
  · dsimp only; omega
  · repeat' first | exact trivial | refine ⟨rfl, ?_⟩ | refine ⟨aG (by assumption) (by assumption), ?_⟩
  repeat' first | exact trivial | refine ⟨rfl, ?_⟩
 refine W.exit (aP (aS (aM (qs (W.seq (W.region (pE rfl (WO.nil (qs (W.ret (QF.az trivial rfl ?_)))))))))))
 rw [hg]; rfl
theorem uG (ts : List bz) (hl : ts.length ≤ 1000) (id : Int) (h : id ∈ ts.map bz.id) : ax Tryz.prog 94 [.ag (dD ts), .d (ci id)] (.d (.v (.bool true))) 0 := by
 have hml : ts.length ≤ maxLen := by simp only [maxLen]; omega
 refine ax.aV (n := 21) (ts := [4]) Tryz.func94 (by kernel_rfl) rfl Tryz.ntmps94 Tryz.results94 rfl rfl fun C hC hG => ?_
 refine W.seq (W.region (cg rfl rfl rfl (pE rfl (WO.nil (qs ?_)))))
 iterate 2 refine W.seq ?_
 refine W.region (pE rfl (WO.nil (qs (W.block ?_))))
 refine W.aW (ι := {x : Nat // match x with | k => k ≤ ts.length ∧ id ∉ (ts.take k).map bz.id})
  (fun x => match x.1 with | k => [(2, .ptr 0 0), (5, .d (.v (.int .i64 ((k : Nat) : Int))))]) [(1, _)]
  (fun x => match x.1 with | k => [(0, (dD ts).map A.d)]) [] [] 1 (fun x => match x.1 with | k => ts.length - k)
  [0] ⟨0, ?_⟩ rfl ?_ ⟨rfl, rfl, trivial⟩ ?_ trivial rfl ?_
 · exact ⟨Nat.zero_le _, by simp⟩
 · repeat' first | exact trivial | refine ⟨rfl, ?_⟩
 · repeat' first | exact trivial | refine ⟨rfl, ?_⟩
 rintro ⟨k, hk, hI⟩
 show W _ _ _ _ _ ⟨[(2, .ptr 0 0), (5, .d (.v (.int .i64 ((k : Nat) : Int)))), (1, _)], [(0, (dD ts).map A.d)], [], 1⟩
 iterate 2 refine W.seq ?_
 refine W.region ?_
 iterate 2 refine pE rfl ?_
 refine pE rfl ?_
 iterate 2 refine pE rfl ?_
 refine WO.nil (qs (ba (l := ts) (k := k) rfl (by simp [Ex.aJ, aE]) hk (fun t hx hd hlt => ?_) (fun he hd => ?_)))
 ·
  refine W.skip (qs (W.seq (W.block (W.seq (W.region (pE rfl (pE rfl (pE rfl (pu (indexAddr aa rfl rfl rfl rfl rfl rfl (Int.natCast_nonneg _) (aq hx) rfl) rfl ?_)))))))))
  refine pE rfl (pE rfl ?_)
  iterate 2 refine pE rfl ?_
  refine WO.nil (qs (au rfl (fun h20 => ?_) (fun h20 => ?_)))
  ·
   refine W.seq (W.region (pE rfl (WO.nil (qs (W.ret (aT (aB (dc (aT (aB (QF.az trivial rfl ?_)))))))))))
   rfl
  have hne : ¬ t.id = id := of_decide_eq_false h20
  refine W.skip (bC (qs (W.region ?_)))
  iterate 3 refine pE rfl ?_
  refine WO.nil (W.bb [0] ⟨k + 1, ?_⟩ ?_ rfl ?_ ⟨rfl, rfl, trivial⟩ ?_ trivial rfl)
  · exact ⟨hlt, by rw [List.take_add_one, hx, List.map_append, List.mem_append]; rintro (h1 | h1); exact hI h1; simp at h1; exact hne h1.symm⟩
  · dsimp only; omega
  · repeat' first | exact trivial | refine ⟨rfl, ?_⟩ | refine ⟨aG (by assumption) (by assumption), ?_⟩
  repeat' first | exact trivial | refine ⟨rfl, ?_⟩
 exfalso
 rw [List.take_of_length_le (by omega)] at hI
 exact hI h
theorem xB (ps : List aK) (hl : ps.length ≤ 1000) (id : Int) (h : id ∉ ps.map aK.thread) : ax Tryz.prog 145 [.d (.sl (ps.map aK.c)), .d (ci id)] (.tup [.d (ci 0), .d (ci 0)]) 0 := by
 have hml : ps.length ≤ maxLen := by simp only [maxLen]; omega
 refine ax.aV (n := 51) (ts := [4, 5]) Tryz.func145 (by kernel_rfl) rfl Tryz.ntmps145 Tryz.results145 rfl rfl fun C hC hG => ?_
 refine W.seq (W.region ?_)
 iterate 2 refine pE rfl ?_
 refine WO.nil (qs (W.seq (W.region (pE rfl (WO.nil (qs (W.seq (W.region (pE rfl (WO.nil (qs ?_)))))))))))
 iterate 2 refine W.seq ?_
 refine W.region (pE rfl (WO.nil (qs (W.block ?_))))
 refine W.aW (ι := {x : Nat // match x with | k => k ≤ ps.length})
  (fun x => match x.1 with | k => [(6, .d (.v (.int .i64 (0)))), (7, .d (.v (.int .i64 (0)))), (8, .d (.v (.int .i64 ((k : Nat) : Int))))]) [(0, _), (1, _)]
  (fun x => match x.1 with | k => []) [] [] 0 (fun x => match x.1 with | k => ps.length - k)
  [] ⟨0, ?_⟩ rfl ?_ ⟨rfl, rfl, rfl, rfl, trivial⟩ ?_ trivial rfl ?_
 · exact Nat.zero_le _
 · repeat' first | exact trivial | refine ⟨rfl, ?_⟩
 · repeat' exact trivial
 rintro ⟨k, hk⟩
 show W _ _ _ _ _ ⟨[(6, .d (.v (.int .i64 (0)))), (7, .d (.v (.int .i64 (0)))), (8, .d (.v (.int .i64 ((k : Nat) : Int)))), (0, _), (1, _)], [], [], 0⟩
 iterate 2 refine W.seq ?_
 refine W.region ?_
 iterate 4 refine pE rfl ?_
 refine WO.nil (qs (ba (l := ps) (k := k) rfl (by simp [Ex.aJ, aE]) hk (fun p hx hd hlt => ?_) (fun he hd => ?_)))
 ·
  have hne : p.thread ≠ id := fun e => h (e ▸ List.mem_map.2 ⟨p, List.mem_of_getElem? hx, rfl⟩)
  refine W.skip (qs (W.seq (W.block (W.seq (W.region ?_)))))
  iterate 2 refine pE rfl ?_
  refine pu (indexAddr aa rfl rfl rfl rfl rfl rfl (Int.natCast_nonneg _) (aq hx) rfl) rfl ?_
  refine pE rfl (pE rfl ?_)
  iterate 2 refine pE rfl ?_
  refine WO.nil (qs (au rfl (fun h21 => ?_) (fun h21 => ?_)))
  ·
   exfalso; exact hne (of_decide_eq_true h21)
  refine W.skip (bC (qs (W.region ?_)))
  iterate 3 refine pE rfl ?_
  refine WO.nil (W.bb [] ⟨k + 1, ?_⟩ ?_ rfl ?_ ⟨rfl, rfl, rfl, rfl, trivial⟩ ?_ trivial rfl)
  · exact hlt
  · dsimp only; omega
  · repeat' first | exact trivial | refine ⟨rfl, ?_⟩ | refine ⟨aG (by assumption) (by assumption), ?_⟩
  repeat' exact trivial
 refine W.exit (aP (aS (aM (qs (W.seq (W.region ?_))))))
 iterate 4 refine pE rfl ?_
 refine WO.nil (qs (W.ret (QF.az trivial rfl ?_)))
 rfl
theorem qI (ps : List aK) (hl : ps.length ≤ 1000) (th : Int) (h : th ∉ ps.map aK.thread) (e : Ev) (r : List Ev) (h0 : 0 ≤ e.time) : ax Tryz.prog 95 [.d (.sl (ps.map aK.c)), .ag (aK.c ⟨th, 0, 0, e :: r⟩)] (.d (.v (.bool true))) 0 := by
 refine ax.aV (n := 30) (ts := [4]) Tryz.func95 (by kernel_rfl) rfl Tryz.ntmps95 Tryz.results95 rfl rfl fun C hC hG => ?_
 refine W.seq (W.region (cg rfl rfl rfl (pE rfl (WO.nil (qs (W.seq (W.region ?_)))))))
 iterate 2 refine pE rfl ?_
 refine pE rfl (pu (aw rfl rfl rfl (xB ps hl th h) rfl) rfl ?_)
 iterate 5 refine pE rfl ?_
 refine WO.nil (qs (W.seq ?_))
 apply aI; (case hb => rfl)
 ·
  refine pE rfl (pE rfl ?_)
  iterate 2 refine pE rfl ?_
  refine pE rfl ?_
  iterate 3 refine pE rfl ?_
  apply an; (case hj => rfl); (case hl => rfl)
  ·
   refine ab rfl rfl (pE rfl (ab rfl rfl (pE rfl (ab rfl rfl (pu (indexAddr (l := e.c) aa rfl rfl rfl rfl rfl rfl (by decide) rfl rfl) rfl ?_)))))
   refine ab rfl rfl (pE rfl (ab rfl rfl (pE rfl (ab rfl rfl (pE rfl (ab rfl rfl ?_))))))
   iterate 3 refine pE rfl ?_
   refine WO.nil (ay rfl rfl rfl)
  iterate 7 refine ae rfl rfl rfl rfl ?_
  iterate 2 refine pE rfl ?_
  refine WO.nil (ay rfl rfl rfl)
 refine qs (W.ret (QF.az trivial rfl ?_))
 simp only [norm, aL]; simp [h0]; rfl
theorem uw (ps : List aK) (hl : ps.length ≤ 1000) (h : (ps.map fun p => p.evs.length).sum ≤ 20000) : ax Tryz.prog 96 [.d (.sl (ps.map aK.c))] (.d (.v (.int .i64 (((ps.map fun p => p.evs.length).sum : Nat) : Int)))) 0 := by
 have hml : ps.length ≤ maxLen := by simp only [maxLen]; omega
 refine ax.aV (n := 20) (ts := [2]) Tryz.func96 (by kernel_rfl) rfl Tryz.ntmps96 Tryz.results96 rfl rfl fun C hC hG => ?_
 refine W.seq (W.region (pE rfl (WO.nil (qs (W.seq (W.region (pE rfl (WO.nil (qs ?_)))))))))
 iterate 2 refine W.seq ?_
 refine W.region (pE rfl (WO.nil (qs (W.block ?_))))
 refine W.aW (ι := {x : Nat // match x with | k => k ≤ ps.length})
  (fun x => match x.1 with | k => [(3, .d (.v (.int .i64 ((((ps.take k).map fun p => p.evs.length).sum : Nat) : Int)))), (4, .d (.v (.int .i64 ((k : Nat) : Int))))]) [(0, _)]
  (fun x => match x.1 with | k => []) [] [] 0 (fun x => match x.1 with | k => ps.length - k)
  [] ⟨0, ?_⟩ rfl ?_ ⟨rfl, rfl, trivial⟩ ?_ trivial rfl ?_
 · exact Nat.zero_le _
 · repeat' first | exact trivial | refine ⟨rfl, ?_⟩
 · repeat' exact trivial
 rintro ⟨k, hk⟩
 show W _ _ _ _ _ ⟨[(3, .d (.v (.int .i64 ((((ps.take k).map fun p => p.evs.length).sum : Nat) : Int)))), (4, .d (.v (.int .i64 ((k : Nat) : Int)))), (0, _)], [], [], 0⟩
 iterate 2 refine W.seq ?_
 refine W.region ?_
 iterate 4 refine pE rfl ?_
 refine WO.nil (qs (ba (l := ps) (k := k) rfl (by simp [Ex.aJ, aE]) hk (fun p hx hd hlt => ?_) (fun he hd => ?_)))
 ·
  have hst := pO (f := fun p : aK => p.evs.length) hx
  have hle := qG (f := fun p : aK => p.evs.length) ps (k + 1)
  refine W.skip (qs (W.seq (W.block (W.region ?_))))
  iterate 3 refine pE rfl ?_
  refine pu (indexAddr aa rfl rfl rfl rfl rfl rfl (Int.natCast_nonneg _) (aq hx) rfl) rfl ?_
  refine pE rfl (pE rfl (pE rfl (pu (cf (ev aa rfl) (y := ((((ps.take (k + 1)).map fun p => p.evs.length).sum : Nat) : Int)) (by show IntKind.i64.wrap ((((ps.take k).map fun p => p.evs.length).sum : Nat) + ((p.evs.map Ev.c).length : Nat) : Int) = _; rw [List.length_map, hst]; exact (wrap64 (by omega)).trans (by omega))) rfl ?_)))
  refine pE rfl (WO.nil (bC (qs (W.region ?_))))
  iterate 3 refine pE rfl ?_
  refine WO.nil (W.bb [] ⟨k + 1, ?_⟩ ?_ rfl ?_ ⟨rfl, rfl, trivial⟩ ?_ trivial rfl)
  · exact hlt
  · dsimp only; omega
  · repeat' first | exact trivial | refine ⟨rfl, ?_⟩ | refine ⟨aG (by assumption) (by assumption), ?_⟩
  repeat' exact trivial
 have hpt : ps.take k = ps := List.take_of_length_le (by omega)
 refine W.exit (aP (aS (aM (qs (W.seq (W.region ?_))))))
 iterate 2 refine pE rfl ?_
 refine WO.nil (qs (W.ret (QF.az trivial rfl ?_)))
 rw [hpt]; rfl
end Go.Proofs.YtoojafbicmdclaaGreatDoor
